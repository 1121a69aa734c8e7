/- Lemmas and contracts of functions on the way to the law's card (part 13 of 16). -/
import Derived.Test.YtccmcfpmknpccaaGreatDoorSH12
namespace Go.Proofs.YtccmcfpmknpccaaGreatDoor
set_option maxHeartbeats 8000000
open Go.RowKit V
set_option maxRecDepth 100000
namespace V
theorem Fall.arr {P:Program} {ρ:Nat→Value} {o:Oper} {t:TypeId} {x:Operand} {w:World} {K:Value→World→Prop} {b off n e:Nat} (ho:o.op=.slice t x none none none) (hx:ev ρ x=.pointer (some ⟨b,off,none⟩)) (hu:P.underlying t=some (.array n e)) (hT:hasT P e=true)
  (hk:K (.slice (some ⟨b,off,none⟩) n n) w):Fall P (execOp (ev ρ) o) w K:=by
 have he:execOp (ev ρ) o=(do pure (.value (← Instr.sliceAt t (ev ρ x) none none none))):=by simp only [execOp,ho];rfl
 rw [he,hx];refine ⟨.inl ⟨.slice (some ⟨b,off,none⟩) n n,w,?_,hk⟩⟩;simp [Instr.sliceAt,Instr.sureAddr,run_underlying hu,Instr.sliceBounds,qw hT,q7]
end V
def idsE (q:Nat→Nat):List Value:=[ii (q 0:Nat),ii (q 1:Nat),ii (q 2:Nat),ii (q 3:Nat)]
theorem qgz (q:Nat→Nat) {k:Nat} (hk:k<4):(idsE q)[k]?=some (ii (q k:Nat)):=by
 rcases (show k=0∨k=1∨k=2∨k=3 by omega) with rfl|rfl|rfl|rfl<;>rfl
theorem qid (q:Nat→Nat):∀ v∈idsE q,v.oneCell'=true:=by simp [idsE,Value.oneCell']
def idsW (q:Nat→Nat):Value:=.agg #[ii (q 0:Nat),ii (q 1:Nat),ii (q 2:Nat),ii (q 3:Nat)]
theorem qmu (a b:Nat→Nat) (ab bb:Nat) (w:World) (ha:CellsAt w ab 0 (idsE a)) (hb:CellsAt w bb 0 (idsE b)) {k:Nat} (hk:k<4) (he:∀ j,j<k→a j=b j) (hlt:a k<b k) :
  Gv Tryz.prog 329 [.slice (some ⟨ab,0,none⟩) 4 4,.slice (some ⟨bb,0,none⟩) 4 4] w fun r w'=>r=ii (-1)∧w'=w:=by
 refine ze Tryz.func329 Tryz.ntmps329 ?_;refine qm (fun i:Nat=>[(0,.slice (some ⟨ab,0,none⟩) 4 4),(1,.slice (some ⟨bb,0,none⟩) 4 4),(9,.slice (some ⟨ab,0,none⟩) 4 4),(10,ii 4),(11,ii i)]) (fun i w'=>i≤k∧w'=w) (fun i=>k-i) 0 ⟨rfl,rfl,rfl,rfl,rfl,trivial⟩ ⟨Nat.zero_le _,rfl⟩ ?_;rintro i w1 ρ' ⟨i1,rfl⟩;refine zu ?_;refine ElemV.own1 i rfl Oo ?_;refine LoadV.of (by have:=ha i _ (qgz a Oo);rw [Nat.zero_add] at this;exact this) (zu ?_);refine ElemV.own1 i rfl Oo ?_;refine LoadV.of (by have:=hb i _ (qgz b Oo);rw [Nat.zero_add] at this;exact this) (zw ?_);refine zcv (qgq (a i) (b i) w1) ?_;rintro r w2 ⟨rfl,rfl⟩
 by_cases h:i=k
 ·subst h;have e:intC (a i) (b i)=-1:=by rw [intC,if_pos Oo]
  rw [e];refine zu ?_;exact ⟨rfl,rfl⟩
 ·have e:intC (a i) (b i)=0:=by have:=he i Oo;rw [intC,if_neg Oo,if_neg Oo]
  rw [e];refine zu ?_;exact ⟨i+1,⟨rfl,rfl,rfl,rfl,rfl,trivial⟩,⟨by omega,rfl⟩,by omega⟩
theorem qo7 (a b:Nat→Nat) (w:World) {k:Nat} (hk:k<4) (he:∀ j,j<k→a j=b j) (hlt:a k<b k) :
  Gv Tryz.prog 256 [idsW a,idsW b] w fun r w'=>r=ii (-1)∧Ext w w':=by
 refine ze Tryz.func256 Tryz.ntmps256 ?_;refine znm (Mem.nil w) ?_;intro b1 w1 hm;refine znm hm ?_;intro b2 w2 hm;have c1:CellsAt w2 b1 0 (idsE a):=CellsAt.mem hm (zmc mh);have c2:CellsAt w2 b2 0 (idsE b):=CellsAt.mem hm mh;refine DrawV.free rfl Jk ?_;apply zsd
 ·intro wd hd;(conv=>whnf);refine Fall.arr rfl rfl Tryz.underlying95 Jk ?_;exact ⟨xr,rfl⟩
 apply zsd
 ·intro wd hd;(conv=>whnf);refine Fall.arr rfl rfl Tryz.underlying95 Jk ?_;exact ⟨xr,rfl⟩
 apply zsd
 ·intro wd hd;(conv=>whnf);refine zcv (qmu a b b1 b2 wd (c1.ext ((Ext.refl w2).drew.trans hd)) (c2.ext ((Ext.refl w2).drew.trans hd)) hk he hlt) ?_;rintro v w7 ⟨rfl,rfl⟩;exact ⟨xr,rfl⟩
 (conv=>whnf);refine zd ?_;intro wd hd;conv=>whnf
 (repeat (intro _ _;(conv=>whnf)))
 exact ⟨rfl,(hm.drew.call hd).ext⟩
theorem TOk.small {Q:Nat→Nat→Nat} {n:Nat} (h:TOk Q n) {i k:Nat} (hi:i<n) (hk:k<4):Q i k≤4194304:=(h.num i k hi hk).2
theorem qwb (Q:Nat→Nat→Nat) (A:oA) (n c:Nat) (w:World) (hS:SlAt idsE 4 w A ((List.range n).map Q)) (hQ:TOk Q n) :
  Gv Tryz.prog 188 [.slice A n c] w fun r w'=>r=ii 0∧Ext w w':=by
 have hnl:=hQ.nle;have hlen:((List.range n).map Q).length=n:=by simp
 have hat:∀ i (hi:i<((List.range n).map Q).length),((List.range n).map Q)[i]=Q i:=fun i hi=>by simp
 refine ze Tryz.func188 Tryz.ntmps188 ?_;refine zv ?_;refine qm (fun i:Nat=>[(0,.slice A n c),(11,.slice A n c),(12,ii n),(13,ii i)]) (fun i w1=>i≤n∧Ext w w1) (fun i=>n-i) 0 ⟨rfl,rfl,rfl,rfl,trivial⟩ ⟨Nat.zero_le _,Ext.refl w⟩ ?_;rintro i w1 ρ' ⟨i1,he1⟩;(conv=>whnf);refine zC (fun _=>zw ?_) (fun _=>zw ?_)
 ·have hi:i<n:=by omega
  refine ElemV.sl (hS.ext he1) hlen i rfl hi ?_;intro eb eo hcell;rw [hat] at hcell;refine LoadA.cells hcell rfl ?_;refine znm (Mem.nil w1) ?_;intro nb w2 hm;refine StoreA.all (vs:=idsE (Q i)) hm (i:=0) rfl rfl (qid _) ?_;intro w3 hm;have hm:Mem w1 w3 [(nb,.cells (idsE (Q i)).toArray 95)]:=hm;refine zL hm 0 ?_;refine qm (fun k:Nat=>[(0,.slice A n c),(11,.slice A n c),(12,ii n),(13,ii i),(17,idsW (Q i)),(18,ii k)]) (fun k w2=>k≤4∧w2=w3) (fun k=>4-k) 0 ⟨rfl,rfl,rfl,rfl,rfl,rfl,trivial⟩ ⟨Nat.zero_le _,rfl⟩ ?_;rintro k w4 ρ2 ⟨k1,rfl⟩;(conv=>whnf);refine zC (fun _=>zu ?_) (fun _=>zu ?_)
  ·have hk:k<4:=by omega
   have hr:=hQ.num i k hi hk;refine ⟨ii (Q i k:Nat),by rw [show k*tsz Tryz.prog 3=k by rw [show tsz Tryz.prog 3=1 from by kernel_rfl];omega];exact qgz (Q i) hk,?_⟩;(conv=>whnf);refine zcv (q0m k (Q i k) w4) ?_;rintro r w5 ⟨rfl,rfl⟩;refine zu ?_;exact ⟨k+1,⟨rfl,rfl,rfl,rfl,rfl,rfl,trivial⟩,⟨by omega,rfl⟩,by omega⟩
  ·obtain rfl:k=4:=by omega
   exact ⟨i+1,⟨rfl,rfl,rfl,rfl,trivial⟩,⟨by omega,he1.trans hm.ext⟩,by omega⟩
 ·obtain rfl:i=n:=by omega
  refine qm (fun k:Nat=>[(0,.slice A i c),(7,ii (k+1:Nat))]) (fun k w1=>Ext w w1) (fun k=>i-k) 0 ⟨rfl,rfl,trivial⟩ he1 ?_;rintro k w2 ρ2 he2;(conv=>whnf);refine zC (fun _=>zw ?_) (fun _=>zw ?_)
  ·have hk:k+1<i:=by omega
   obtain ⟨b,off,rfl,hcl⟩:=(hS.ext he2).at_ (by intro e;rw [e] at hlen;simp at hlen;omega);have hca:=(hcl k _ (zge (by rw [hlen];omega))).ext (Ext.refl w2).drew;have hcb:=(hcl (k+1) _ (zge (by rw [hlen];omega))).ext (Ext.refl w2).drew;rw [hat] at hca hcb;obtain ⟨kk,hk4,hsame,hlt⟩:=hQ.rise (k+1) Oo hk;refine DrawV.free rfl Jk (zw ?_);(iterate 3 (refine zd ?_));refine zf ?_ (by intro wd hd;(conv=>whnf);refine ⟨⟨b,off,k,rfl,by omega,by omega,?_⟩⟩;exact ⟨xr,rfl⟩);apply zsd
   ·intro wd hd;refine LoadA.cells (hca.ext hd) rfl (zw ?_);exact ⟨xr,rfl⟩
   (conv=>whnf);refine zd ?_;refine zd ?_;refine zf ?_ (by intro wd hd;(conv=>whnf);refine ⟨⟨b,off,(k+1),rfl,by omega,by omega,?_⟩⟩;exact ⟨xr,rfl⟩);apply zsd
   ·intro wd hd;refine LoadA.cells (hcb.ext hd) rfl (zw ?_);exact ⟨xr,rfl⟩
   apply zsd
   ·intro wd hd;(conv=>whnf);refine zcv (qo7 (Q k) (Q (k+1)) wd hk4 (fun j hj=>(hsame j hj).symm) hlt) ?_;rintro v w7 ⟨rfl,he⟩;exact ⟨he,rfl⟩
   (conv=>whnf);refine zd ?_;intro wd hd;have he3:=(he2.drew).trans hd;refine zu ?_;exact ⟨k+1,⟨rfl,congrArg (Value.int .i64) Oo,trivial⟩,he3,by omega⟩
  ·exact ⟨rfl,he2⟩
def eT (m:Nat):TypeId:=if m%2=0 then 164 else 5
def rwF (Z:List Nat) (rb:Nat) (G:Nat→Value):List (List Nat):=Z::[rb]::(List.range 8).map fun m=>rowF (G m)
theorem qk2 (Z:List Nat) (rb:Nat) (G:Nat→Value) {m:Nat} (hm:m<8):(rwF Z rb G)[m+2]?=some (rowF (G m)):=by
 show ((List.range 8).map fun m=>rowF (G m))[m]?=_;rw [List.getElem?_map,List.getElem?_range hm];rfl
theorem q9v (Z:List Nat) (rb:Nat) (G:Nat→Value) {m:Nat} (v:Value):(rwF Z rb G).set (m+2) (rowF v)=rwF Z rb (updF G m v):=by
 show Z::[rb]::((List.range 8).map fun m=>rowF (G m)).set m (rowF v)=Z::[rb]::(List.range 8).map fun m'=>rowF (updF G m v m')
 congr 2
 refine List.ext_getElem? fun j=>?_;rw [List.getElem?_set,List.getElem?_map,List.getElem?_map]
 by_cases h:j<8
 ·rw [List.getElem?_range h]
  by_cases e:m=j
  ·subst e;rw [if_pos rfl,if_pos (by simpa using h),Option.map_some,qaz]
  ·rw [if_neg e,Option.map_some,Option.map_some,q6 _ _ _ _ (fun g=>e g.symm)]
 ·rw [List.getElem?_eq_none (by simpa using h)]
  split
  ·rw [if_neg (by rename_i e;subst e;simpa using h)];rfl
  ·rfl
structure RwS (w w':World) (Z:List Nat) (rb:Nat) (U G:Nat→Value) (L:Nat→List Value):Prop where
 sep:Sep w w' (rwF Z rb G)
 tab:w'.heap[rb]?=some (.cells (fnA 8 U) 332)
 row:∀ m,m<8→w'.ownsRow 0 (eT m) 1 (G m) (L m).length (L m)
def updR (L:Nat→List Value) (m:Nat) (x:List Value):Nat→List Value:=fun j=>if j=m then x else L j
theorem qed (L:Nat→List Value) (m:Nat) (x:List Value):updR L m x m=x:=if_pos rfl
theorem qdu (L:Nat→List Value) (m:Nat) (x:List Value) {j:Nat} (h:j≠m):updR L m x j=L j:=if_neg h
section
variable {w w1 w2:World} {Z:List Nat} {rb:Nat} {U G:Nat→Value} {L:Nat→List Value}
theorem RwS.call (h:RwS w w1 Z rb U G L) (he:Ext w1 w2):RwS w w2 Z rb U G L:=⟨h.sep.call he,he.get h.tab,fun m hm=>qcg (h.row m hm) he⟩
theorem RwS.chg (h:RwS w w1 Z rb U G L) {m:Nat} (hm:m<8) {v:Value} {x:List Value} (ho:w2.ownsRow 0 (eT m) 1 v x.length x) (hc:Chn (rowF (G m)) w1 w2) (hn:∀ j∈rowF v,(j∈rowF (G m)∨w1.heap.size≤j)∧j<w2.heap.size) :
  RwS w w2 Z rb U (updF G m v) (updR L m x)∧∀ k∈Z,w2.heap[k]?=w1.heap[k]?:=by
 have hs:=h.sep.row (i:=m+2) (qk2 Z rb G hm) hc hn;refine ⟨⟨by rw [← q9v];exact hs.sep,?_,fun j hj=>?_⟩,hs.keep 0 Z rfl Oo⟩
 ·rw [hs.keep 1 [rb] rfl Oo rb (List.mem_singleton.2 rfl)];exact h.tab
 ·by_cases e:j=m
  ·subst e;rw [qaz,qed];exact ho
  ·rw [q6 _ _ _ _ e,qdu _ _ _ e];exact qao (h.row j hj) fun i hi=>hs.keep (j+2) _ (qk2 Z rb G hj) Oo i hi
theorem RwS.store (h:RwS w w1 Z rb U G L) {m:Nat} (hm:m<8) {v:Value} (_:G m=v) {K:World→Prop} (h1:qb6 v=true) (hK:∀ w2,RwS w w2 Z rb (updF U m v) G L→(∀ k∈Z,w2.heap[k]?=w1.heap[k]?)→K w2):StoreV w1 rb m v K:=by
 refine StoreV.own h.tab (by rw [qa1];exact hm) h1 fun w2 hw=>?_;obtain ⟨hc,hg⟩:=Chn.set h.tab hw;have hs:=h.sep.row (i:=1) (F':=[rb]) rfl hc fun j hj=>⟨.inl hj,by rw [List.mem_singleton.1 hj];exact qb2 hg⟩
 exact hK w2 ⟨hs.sep,by rw [hg,qdl],fun j hj=>qao (h.row j hj) fun i hi=>hs.keep (j+2) _ (qk2 Z rb G hj) Oo i hi⟩ (hs.keep 0 Z rfl Oo)
theorem RwS.eqU {V:Nat→Value} (h:RwS w w1 Z rb U G L) (e:∀ m,m<8→U m=V m):RwS w w1 Z rb V G L:=by
 refine ⟨h.sep,?_,h.row⟩;have e2:fnA 8 V=fnA 8 U:=by
  rw [fnA,fnA]
  congr 1
  exact (List.map_congr_left fun m hm=>e m (List.mem_range.1 hm)).symm
 rw [e2];exact h.tab
theorem RwS.eqL {M:Nat→List Value} (h:RwS w w1 Z rb U G L) (e:∀ m,m<8→L m=M m):RwS w w1 Z rb U G M:=
 ⟨h.sep,h.tab,fun m hm=>by rw [← e m hm];exact h.row m hm⟩
end
theorem qpy (j:Nat):eT (2*j)=164:=if_pos Oo
theorem qkm (j:Nat):eT (2*j+1)=5:=if_neg Oo
structure RwR (w w1 w2:World) (Z:List Nat) (rb:Nat) (L:Nat→List Value):Prop where
 h:∃ G,RwS w w2 Z rb G G L
 z:∀ k∈Z,w2.heap[k]?=w1.heap[k]?
theorem qvu (w w1:World) (Z:List Nat) (rb:Nat) (G:Nat→Value) (L:Nat→List Value) (h:RwS w w1 Z rb G G L) (j x:Nat) (hj:j<4) (ns:List Nat) (bs:LB) (hns:L (2*j)=u64V ns) (hbs:L (2*j+1)=byV bs) (hl:ns.length≤1048576) (hb:bs.length≤1048576) (hx:x<18446744073709551616) :
  Gv Tryz.prog 258 [.pointer (some ⟨rb,2*j,none⟩),ii x] w1 fun r w2=>r=.tuple #[]∧RwR w w1 w2 Z rb (updR (updR L (2*j+1) (byV (gro ns.length bs))) (2*j) (u64V (ns++[x]))):=by
 obtain ⟨A0,c0,e0⟩:=qbp (h.row (2*j) Oo);obtain ⟨A1,c1,e1⟩:=qbp (h.row (2*j+1) Oo);have hl0:(L (2*j)).length=ns.length:=by rw [hns,qdt]
 have hl1:(L (2*j+1)).length=bs.length:=by rw [hbs,qas]
 rw [hl0] at e0;rw [hl1] at e1;have half:∀ (w3:World) (G3:Nat→Value) (L3:Nat→List Value),RwS w w3 Z rb G3 G3 L3→(∀ k∈Z,w3.heap[k]?=w1.heap[k]?)→G3 (2*j)=.slice A0 ns.length c0→L3 (2*j)=u64V ns→(∀ m,m<8→updR L3 (2*j) (u64V (ns++[x])) m=updR (updR L (2*j+1) (byV (gro ns.length bs))) (2*j) (u64V (ns++[x])) m)→
   ∀ (nb:Nat) (w4:World),nb=w3.heap.size→w4=w3.alloc (.cells #[.int .u64 x] 164)→∀ (K:Value→World→Prop),(∀ A' c' w5,(∀ K2:World→Prop,(∀ w6,RwR w w1 w6 Z rb (updR (updR L (2*j+1) (byV (gro ns.length bs))) (2*j) (u64V (ns++[x])))→K2 w6)→StoreV w5 rb (2*j) (.slice A' (ns.length+1) c') K2)→K (.slice A' (ns.length+1) c') w5)→
    AppV Tryz.prog #[169,169] 169 (.slice A0 ns.length c0) (.slice (some ⟨nb,0,none⟩) 1 1) w4 K:=by
  intro w3 G3 L3 h3 hz3 hG3 hL3 hLe nb w4 hnb hw4 K hK;have he4:Ext w3 w4:=by rw [hw4];exact (Ext.refl w3).alloc _
  have hc4:w4.heap[nb]?=some (.cells #[.int .u64 x] 164):=by rw [hw4,hnb];exact heap_alloc_new w3 _
  have h4:=h3.call he4;have hz4:∀ k∈Z,w4.heap[k]?=w1.heap[k]?:=fun k hk=>by rw [he4.block k (h3.sep.lo Z mh k hk).2];exact hz3 k hk
  have hr:=h4.row (2*j) Oo;rw [hG3,hL3,qdt,qpy] at hr;refine AppV.cell qaao u64I u64Z Jk rfl (by decide +kernel) hr hc4 rfl Oo ?_;intro A' c' w5 ho hch hnew;refine hK A' c' w5 fun K2 hK2=>?_
  have hlen:(u64V (ns++[x])).length=ns.length+1:=by rw [qdt,zla];rfl
  obtain ⟨h5,hz5⟩:=h4.chg (m:=2*j) Oo (v:=.slice A' (ns.length+1) c') (x:=u64V (ns++[x])) (by
   rw [hlen,qpy,u64V,List.map_append];exact ho) (by rw [hG3];exact hch) (by rw [hG3];exact hnew)
  refine h5.store (m:=2*j) Oo (qaz _ _ _) rfl ?_;intro w6 h6 hz6;refine hK2 w6 ⟨⟨_,h6.eqL hLe⟩,fun k hk=>?_⟩;rw [hz6 k hk,hz5 k hk,hz4 k hk]
 refine ze Tryz.func258 Tryz.ntmps258 ?_;refine LoadV.own h.tab (v:=.slice A0 ns.length c0) ((qa7 8 G (2*j) Oo).trans (congrArg some e0)) (zw ?_);refine zt ?_;refine zC (fun _=>zw ?_) (fun _=>zw ?_)
 ·have hg:gro ns.length bs=bs++[0]:=by rw [gro,if_pos Oo]
  refine LoadV.own h.tab (v:=.slice A1 bs.length c1) ((qa7 8 G (2*j+1) Oo).trans (congrArg some e1)) (zw ?_);refine ⟨fun nb w2 hnb hw=>?_⟩;have he2:Ext w1 w2:=by rw [hw];exact (Ext.refl w1).alloc _
  have hc2:w2.heap[nb]?=some (.cells #[.int .u8 0] 5):=by rw [hw,hnb];exact heap_alloc_new w1 _
  have h2:=h.call he2;have hz2:∀ k∈Z,w2.heap[k]?=w1.heap[k]?:=fun k hk=>he2.block k (h.sep.lo Z mh k hk).2
  clear hnb hw;have hr:=h2.row (2*j+1) Oo;rw [e1,hbs,qas,qkm] at hr;refine AppV.cell qum bytI bytZ Jk rfl (by decide +kernel) hr hc2 rfl Oo ?_;intro A' c' w3 ho hch hnew;obtain ⟨h3,hz3⟩:=h2.chg (m:=2*j+1) Oo (v:=.slice A' (bs.length+1) c') (x:=byV (bs++[0])) (by
   rw [qas,zla,List.length_singleton,qkm,byV,List.map_append];exact ho) (by rw [e1];exact hch) (by rw [e1];exact hnew)
  refine h3.store (m:=2*j+1) Oo (qaz _ _ _) rfl ?_;intro w4 h4 hz4;have h4:=h4;refine LoadV.own h4.tab (v:=.slice A0 ns.length c0) ((qa7 8 _ (2*j) Oo).trans (congrArg some (by rw [q6 _ _ _ _ Oo];exact e0))) (zu ?_);refine ⟨fun nb2 w5 hnb2 hw5=>?_⟩;refine half w4 _ _ h4 (fun k hk=>by rw [hz4 k hk,hz3 k hk,hz2 k hk]) (by rw [q6 _ _ _ _ Oo,e0]) (by rw [qdu _ _ _ Oo,hns]) (fun m hm=>by rw [hg]) nb2 w5 hnb2 hw5 _ ?_;intro A3 c3 w6 hst;refine hst _ fun w7 h7=>?_;(conv=>whnf);exact ⟨rfl,h7⟩
 ·have hg:gro ns.length bs=bs:=by rw [gro,if_neg Oo]
  refine LoadV.own h.tab (v:=.slice A0 ns.length c0) ((qa7 8 G (2*j) Oo).trans (congrArg some e0)) (zu ?_);refine ⟨fun nb2 w5 hnb2 hw5=>?_⟩;refine half w1 _ _ h (fun k hk=>rfl) e0 hns (fun m hm=>by
   by_cases e:m=2*j
   ·subst e;rw [qed,qed]
   ·rw [qdu _ _ _ e,qdu _ _ _ e]
    by_cases e2:m=2*j+1
    ·subst e2;rw [qed,hg,hbs]
    ·rw [qdu _ _ _ e2]) nb2 w5 hnb2 hw5 _ ?_
  intro A3 c3 w6 hst;refine hst _ fun w7 h7=>?_;(conv=>whnf);exact ⟨rfl,h7⟩
theorem q80 {w w':World} {base n j:Nat} {e:TypeId} {A:oA} {c g:Nat} {xs:List Value} {v:Value} (h:w.ownsRow base e 1 (.slice A n c) n xs) (hA:A=some ⟨g,0,none⟩) (_:j<n) (hw:w'=w.setCell ⟨g,j,none⟩ v):w'.ownsRow base e 1 (.slice A n c) n (xs.set j v)∧Chn [g] w w':=by
 subst hA;have hxl:=h.1
 rcases h.2 with ⟨e1,e2⟩|⟨g',cap,cur,e1,hb,hg,h2,h3,h4,h5⟩
 ·cases e1
 ·cases e1;obtain ⟨hc,hg2⟩:=Chn.set hg hw;refine ⟨⟨by simp [hxl],.inr ⟨g,c,_,rfl,hb,hg2,h2,h3,by simp [h4],?_⟩⟩,hc⟩;rw [← h5];simp [List.take_set]
theorem qhv (w w1:World) (Z:List Nat) (rb:Nat) (G:Nat→Value) (L:Nat→List Value) (h:RwS w w1 Z rb G G L) (j:Nat) (hj:j<4) (ns:List Nat) (S:List Bool) (hns:L (2*j)=u64V ns) (hbs:L (2*j+1)=byV (opB S)) (hSn:S.length=ns.length) (hl:ns.length≤1048576) :
  Gv Tryz.prog 257 [.pointer (some ⟨rb,2*j,none⟩)] w1 fun r w2=>r=.tuple #[]∧RwR w w1 w2 Z rb (updR L (2*j+1) (byV (qa0 S))):=by
 obtain ⟨A0,c0,e0⟩:=qbp (h.row (2*j) Oo);obtain ⟨A1,c1,e1⟩:=qbp (h.row (2*j+1) Oo);have hl0:(L (2*j)).length=ns.length:=by rw [hns,qdt]
 have hl1:(L (2*j+1)).length=upN S.length 8:=by rw [hbs,qas,qmi]
 rw [hl0] at e0;rw [hl1] at e1;refine ze Tryz.func257 Tryz.ntmps257 ?_;refine LoadV.own h.tab (v:=.slice A0 ns.length c0) ((qa7 8 G (2*j) Oo).trans (congrArg some e0)) (zw ?_);refine zt ?_;refine zC (fun _=>zw ?_) (fun _=>zw ?_)
 ·obtain ⟨e,he⟩:∃ e,S.length=e+1:=⟨S.length-1,by omega⟩
  have ei:(ns.length:Int)-1=(e:Int):=by omega
  rw [ei];have hup:upN S.length 8=(S.length+7)/8:=rfl;have hby:=qr7 (opT S) (e/8);have hr:=h.row (2*j+1) Oo;rw [e1,hl1,hbs,qkm] at hr;obtain ⟨g,hA1,hrg⟩:∃ g,A1=some ⟨g,0,none⟩∧∃ cur,w1.heap[g]?=some (.cells cur 5)∧cur[e/8]?=some (.int .u8 (byt (opT S) (e/8):Nat))∧cur.size=c1∧upN S.length 8≤c1:=by
   rcases hr.2 with ⟨q1,q2⟩|⟨g,cap,cur,q1,_,hg,q3,_,q4,q5⟩
   ·exfalso;omega
   ·cases q1;refine ⟨g,rfl,cur,hg,?_,by omega,q3⟩;have hb:=qh7 (f:=opT S) (m:=upN S.length 8) (b:=e/8) Oo;rw [← opB,← q5,List.getElem?_take,if_pos Oo] at hb
    simpa using hb
  subst hA1;obtain ⟨cur,hg,hcell,hcs,hcu⟩:=hrg;have hg0:=(Ext.refl w1).drew.get hg;have ht0:=(Ext.refl w1).drew.get h.tab;refine DrawV.own rfl Jk (zw ?_);(iterate 3 (refine zo ?_));apply StepO.still
  ·intro wd hd;refine LoadV.own (hd.get ht0) (by rw [qa7 8 G (2*j+1) Oo,e1]) (zw ?_);exact PostO.still xr rfl
  (conv=>whnf);refine zo ?_;refine zo ?_;apply StepO.still
  ·intro wd hd;refine ElemV.own1 (e/8) Oo Oo (zw ?_);exact PostO.still xr rfl
  apply StepO.still
  ·intro wd hd;refine LoadV.own (hd.get hg0) hcell (zw ?_);exact PostO.still xr rfl
  (conv=>whnf);refine zo ?_;refine zo ?_;apply StepO.still
  ·intro wd1 hd;refine V.Wit.shlN (a:=1) (e%8) Oo (by show e%8<8;omega) (qdz ?_) ?_
   ·have h2:2 ^ (e%8)≤2 ^ 7:=Nat.pow_le_pow_right Od Oo;have e7:(2:Nat) ^ 7=128:=by decide
    show 1*2 ^ (e%8)<256;omega
   rw [Nat.one_mul];(conv=>whnf);exact PostO.still xr rfl
  apply StepO.still
  ·intro wd1 hd;refine Wit.eq (qacg he) (zw ?_);exact PostO.still xr rfl
  apply StepO.still
  ·intro wd1 hd;refine ElemV.own1 (e/8) Oo Oo (zw ?_);exact PostO.still xr rfl
  intro w8 hd8
  (repeat (intro _;(conv=>whnf)))
  have h8:=h.call ((Ext.refl w1).drew.trans hd8);have hg8:=hd8.get hg0;have hz8:∀ k∈Z,w8.heap[k]?=w1.heap[k]?:=fun k hk=>((Ext.refl w1).drew.trans hd8).block k (h.sep.lo Z mh k hk).2
  refine StoreV.own hg8 Oo rfl ?_;intro w9 hw9;have hr8:=h8.row (2*j+1) Oo;rw [e1,hl1,hbs,qkm] at hr8;obtain ⟨ho,hc⟩:=q80 hr8 rfl (show e/8<upN S.length 8 by omega) hw9;have ho:w9.ownsRow 0 5 1 (.slice (some ⟨g,0,none⟩) (upN S.length 8) c1) (upN S.length 8) ((byV (opB S)).set (e/8) (.int .u8 (byt (opT S) (e/8)+2 ^ (e%8):Nat))):=ho;rw [qzt he] at ho;obtain ⟨h9,hz9⟩:=h8.chg (m:=2*j+1) Oo (v:=.slice (some ⟨g,0,none⟩) (upN S.length 8) c1) (x:=byV (qa0 S)) (by rw [qas,qcd,qkm];exact ho) (by rw [e1];exact hc) (by
   rw [e1];intro k hk;refine ⟨.inl hk,?_⟩;rw [List.mem_singleton.1 hk];exact Nat.lt_of_lt_of_le (qb2 hg8) hc.size)
  (conv=>whnf);refine ⟨rfl,⟨_,h9.eqU (V:=updF G (2*j+1) (.slice (some ⟨g,0,none⟩) (upN S.length 8) c1)) fun m hm=>?_⟩,fun k hk=>by rw [hz9 k hk,hz8 k hk]⟩
  by_cases q:m=2*j+1
  ·subst q;rw [qaz,e1]
  ·rw [q6 _ _ _ _ q]
 ·have h0:S=[]:=List.eq_nil_of_length_eq_zero Oo;subst h0;refine ⟨rfl,⟨G,h.eqL fun m hm=>?_⟩,fun k hk=>rfl⟩
  by_cases q:m=2*j+1
  ·subst q;rw [qed,hbs,q8v]
  ·rw [qdu _ _ _ q]
def stJ (Q:Nat→Nat→Nat) (j i:Nat):List Bool:=if j=0 then List.replicate (leT Q 0 i) false else stT Q (j-1) i
theorem qhk (Q:Nat→Nat→Nat) (j i:Nat):(stJ Q j i).length=leT Q j i:=by
 rw [stJ]
 split
 ·rename_i h;subst h;exact List.length_replicate
 ·rw [qbn,Nat.sub_add_cancel Oo]
theorem q95 (Q:Nat→Nat→Nat) {j:Nat} (h:j≠0) (i:Nat):stJ Q j i=stT Q (j-1) i:=if_neg h
theorem q4s {Q:Nat→Nat→Nat} {j i:Nat} (h:frU Q i j=false):stJ Q j (i+1)=stJ Q j i:=by
 rw [stJ,stJ]
 split
 ·rename_i h0;subst h0;rw [qbd h]
 ·rw [stT,Nat.sub_add_cancel Oo,if_neg (by rw [h];decide)]
theorem q94 {Q:Nat→Nat→Nat} {j i:Nat} (h:frU Q i j=true):stJ Q j (i+1)=stJ Q j i++[if j=0 then false else frU Q i (j-1)]:=by
 rw [stJ,stJ]
 split
 ·rename_i h0;subst h0;rw [qa3 h,List.replicate_succ']
 ·rw [stT,Nat.sub_add_cancel Oo,if_pos h]
theorem q8o {Q:Nat→Nat→Nat} {j i:Nat} (h:frU Q i j=true):nuT Q j (i+1)=nuT Q j i++[Q i j]:=by rw [nuT,if_pos h]
theorem q3w {Q:Nat→Nat→Nat} {j i:Nat} (h:frU Q i j=false):nuT Q j (i+1)=nuT Q j i:=by rw [nuT,if_neg (by rw [h];decide)]
theorem TOk.first {Q:Nat→Nat→Nat} {n:Nat} (h:TOk Q n) {i:Nat} (hi:i<n):∃ k,k<4∧(∀ j,j<k→frU Q i j=false)∧(∀ j,k≤j→frU Q i j=true)∧(0<i→(∀ j,j<k→Q i j=Q (i-1) j)∧Q i k≠Q (i-1) k)∧(i=0→k=0):=by
 by_cases h0:i=0
 ·subst h0;exact ⟨0,by decide,fun j hj=>by omega,fun j _=>qfw Q j,fun h=>by omega,fun _=>rfl⟩
 ·obtain ⟨k,hk,h1,h2⟩:=h.rise i Oo hi;refine ⟨k,hk,fun j hj=>qx6 Oo fun m hm=>h1 m Oo,fun j hj=>?_,fun _=>⟨h1,by omega⟩,fun g=>absurd g h0⟩;cases hf:frU Q i j with
  | true=>rfl
  | false=>
   have:=(qfv hf).2 k hj;omega
def LoQ (Q:Nat→Nat→Nat) (i m:Nat):List Value:=if m%2=0 then u64V (nuT Q (m/2) i) else byV (opB (stJ Q (m/2) i))
def LcQ (Q:Nat→Nat→Nat) (i kk j m:Nat):List Value:=if m%2=1∧kk<m/2∧m/2<j then byV (qa0 (stJ Q (m/2) i)) else LoQ Q i m
def LpQ (Q:Nat→Nat→Nat) (i kk j m:Nat):List Value:=if kk≤m/2∧m/2<j then LoQ Q (i+1) m else LcQ Q i kk 4 m
theorem qru (Q:Nat→Nat→Nat) (i j:Nat):LoQ Q i (2*j)=u64V (nuT Q j i):=by rw [LoQ,if_pos Oo,show 2*j/2=j by omega]
theorem qwp (Q:Nat→Nat→Nat) (i j:Nat):LoQ Q i (2*j+1)=byV (opB (stJ Q j i)):=by rw [LoQ,if_neg Oo,show (2*j+1)/2=j by omega]
theorem q11 {Q:Nat→Nat→Nat} {i m:Nat} (h:frU Q i (m/2)=false):LoQ Q (i+1) m=LoQ Q i m:=by rw [LoQ,LoQ,q3w h,q4s h]
theorem qnb (Q:Nat→Nat→Nat) (i kk m:Nat):LcQ Q i kk (kk+1) m=LoQ Q i m:=if_neg Oo
theorem qfm (Q:Nat→Nat→Nat) (i kk j l:Nat):LcQ Q i kk l (2*j)=u64V (nuT Q j i):=by rw [LcQ,if_neg Oo,qru]
theorem qle {Q:Nat→Nat→Nat} {i kk j l:Nat} (h:¬ (kk<j∧j<l)):LcQ Q i kk l (2*j+1)=byV (opB (stJ Q j i)):=by rw [LcQ,if_neg Oo,qwp]
theorem qh5 {Q:Nat→Nat→Nat} {i kk j l:Nat} (h:kk<j) (h2:j<l):LcQ Q i kk l (2*j+1)=byV (qa0 (stJ Q j i)):=by rw [LcQ,if_pos Oo,show (2*j+1)/2=j by omega]
theorem qrt {Q:Nat→Nat→Nat} {i kk j:Nat} (h:kk<j) (m:Nat):updR (LcQ Q i kk j) (2*j+1) (byV (qa0 (stJ Q j i))) m=LcQ Q i kk (j+1) m:=by
 by_cases e:m=2*j+1
 ·subst e;rw [qed,qh5 h Oo]
 ·rw [qdu _ _ _ e,LcQ,LcQ]
  by_cases g:m%2=1∧kk<m/2∧m/2<j
  ·rw [if_pos g,if_pos Oo]
  ·rw [if_neg g,if_neg Oo]
theorem qwr (Q:Nat→Nat→Nat) (i kk m:Nat):LpQ Q i kk kk m=LcQ Q i kk 4 m:=if_neg Oo
theorem qwq (Q:Nat→Nat→Nat) (i kk j:Nat) {m:Nat} (h:m/2=j):LpQ Q i kk j m=LcQ Q i kk 4 m:=if_neg Oo
theorem q12 {Q:Nat→Nat→Nat} {i kk j:Nat} (h:kk≤j) (m:Nat):updR (updR (LpQ Q i kk j) (2*j+1) (LoQ Q (i+1) (2*j+1))) (2*j) (LoQ Q (i+1) (2*j)) m=LpQ Q i kk (j+1) m:=by
 by_cases e:m=2*j
 ·subst e;rw [qed,LpQ,if_pos Oo]
 ·rw [qdu _ _ _ e]
  by_cases e2:m=2*j+1
  ·subst e2;rw [qed,LpQ,if_pos Oo]
  ·rw [qdu _ _ _ e2,LpQ,LpQ]
   by_cases g:kk≤m/2∧m/2<j
   ·rw [if_pos g,if_pos Oo]
   ·rw [if_neg g,if_neg Oo]
theorem q62 {Q:Nat→Nat→Nat} {i kk:Nat} (hs:∀ j,j<kk→frU Q i j=false) {m:Nat} (hm:m<8):LpQ Q i kk 4 m=LoQ Q (i+1) m:=by
 rw [LpQ]
 by_cases g:kk≤m/2∧m/2<4
 ·rw [if_pos g]
 ·rw [if_neg g,LcQ,if_neg Oo,q11 (hs _ Oo)]
section
variable {w w1 w2:World} {Z:List Nat} {rb:Nat} {U G:Nat→Value} {L:Nat→List Value}
theorem RwS.newZ (h:RwS w w1 Z rb U G L) {b:Nat} {o:Obj} (hb:b=w1.heap.size) (hw:w2=w1.alloc o):RwS w w2 [b] rb U G L∧w2.heap[b]?=some o:=by
 have he:Ext w1 w2:=by rw [hw];exact (Ext.refl w1).alloc _
 obtain ⟨s,hg⟩:=(h.sep.drop 1).new hb hw;exact ⟨⟨s,he.get h.tab,fun m hm=>qcg (h.row m hm) he⟩,hg⟩
theorem RwS.chgZ (h:RwS w w1 Z rb U G L) (hc:Chn Z w1 w2):RwS w w2 Z rb U G L:=by
 have hs:=h.sep.row (i:=0) (F':=Z) rfl hc fun k hk=>⟨.inl hk,Nat.lt_of_lt_of_le (h.sep.lo Z mh k hk).2 hc.size⟩
 refine ⟨hs.sep,?_,fun m hm=>qao (h.row m hm) fun i hi=>hs.keep (m+2) _ (qk2 Z rb G hm) Oo i hi⟩;rw [hs.keep 1 [rb] rfl Oo rb (List.mem_singleton.2 rfl)];exact h.tab
theorem RwS.noZ (h:RwS w w1 Z rb U G L):RwS w w1 [] rb U G L:=⟨(h.sep.drop 1).add (F:=[]) (Ext.refl w1) (fun k hk=>by cases hk),h.tab,h.row⟩
end
def ReI (w9:World) (Post:World→Prop) (s4 s5:Bool) (w':World):Prop:=(s5=false∧Ext w9 w')∨(s5=true∧s4=true∧Post w')
theorem ReI.load {w9 w':World} {Post:World→Prop} {s5:Bool} (h:ReI w9 Post false s5 w'):s5=false∧Ext w9 w':=by
 rcases h with h|⟨_,h,_⟩
 ·exact h
 ·cases h
theorem ReI.call {w9 w':World} {Post:World→Prop} {s4:Bool} (h:ReI w9 Post s4 false w'):Ext w9 w':=by
 rcases h with h|⟨h,_⟩
 ·exact h.2
 ·cases h
theorem ReI.post {w9 w':World} {Post:World→Prop} {s4:Bool} (h:ReI w9 Post s4 true w'):Post w':=by
 rcases h with ⟨h,_⟩|⟨_,_,h⟩
 ·cases h
 ·exact h
def qaa6 (Q:Nat→Nat→Nat) (n:Nat) (w0 w:World) (r:Value):Prop:=
 ∃ (NA LA:Nat→oA) (NC LC:Nat→Nat),r=.agg #[.slice (NA 0) (leT Q 0 n) (NC 0),.slice (LA 0) (upN (leT Q 0 n) 8) (LC 0),.slice (NA 1) (leT Q 1 n) (NC 1),.slice (LA 1) (upN (leT Q 1 n) 8) (LC 1),
  .slice (NA 2) (leT Q 2 n) (NC 2),.slice (LA 2) (upN (leT Q 2 n) 8) (LC 2),.slice (NA 3) (leT Q 3 n) (NC 3),.slice (LA 3) (upN (leT Q 3 n) 8) (LC 3)]∧
  (∀ j,j<4→SlAt encU 1 w (NA j) (nuT Q j n))∧(∀ j,0<j→j<4→SlAt encB 1 w (LA j) (qa0 (stT Q (j-1) n)))∧
  ∀ j,j<4→∀ x∈rowF (.slice (NA j) 0 0)++rowF (.slice (LA j) 0 0),w0.heap.size≤x∧x<w.heap.size
theorem q4i (Q:Nat→Nat→Nat) (A:oA) (n c:Nat) (w:World) (hS:SlAt idsE 4 w A ((List.range n).map Q)) (hQ:TOk Q n) :
  Gv Tryz.prog 189 [.slice A n c] w fun r w'=>qaa6 Q n w w' r∧Ext w w':=by
 have hnl:=hQ.nle;have hlen:((List.range n).map Q).length=n:=by simp
 have hat:∀ i (hi:i<((List.range n).map Q).length),((List.range n).map Q)[i]=Q i:=fun i hi=>by simp
 have hns:∀ j i,i≤n→(nuT Q j i).length≤1048576:=fun j i hi=>by have:=qsy (Q:=Q) j i;show leT Q j i≤_;omega
 have t2:tsz Tryz.prog 331=2:=by kernel_rfl
 have t1:tsz Tryz.prog 3=1:=by kernel_rfl
 refine ze Tryz.func189 Tryz.ntmps189 ?_;refine ⟨fun r2 w1 hr2 hw1=>?_⟩;have he1:Ext w w1:=by rw [hw1];exact (Ext.refl w).alloc _
 have hr2c:w1.heap[r2]?=some (.cells #[.slice none 0 0,.slice none 0 0,.slice none 0 0,.slice none 0 0,.slice none 0 0,.slice none 0 0,.slice none 0 0,.slice none 0 0] 332):=by rw [hw1,hr2];exact heap_alloc_new w _
 have hr2n:w.heap.size≤r2:=by omega
 clear hr2 hw1;(conv=>whnf);refine ⟨fun rb w2 hrb hw2=>?_⟩;have h0:RwS w1 w2 [] rb (fun _=>.slice none 0 0) (fun _=>.slice none 0 0) (LoQ Q 0):=by
  have hall:∀ F∈(List.range 8).map (fun _:Nat=>rowF (.slice none 0 0)),F=[]:=fun F hF=>by
   obtain ⟨_,_,rfl⟩:=List.mem_map.1 hF;rfl
  have s0:Sep w1 w1 ((List.range 8).map fun _=>rowF (.slice none 0 0)):=by
   refine ⟨Ext.refl w1,fun F hF k hk=>?_,List.pairwise_iff_getElem.2 fun i j hi hj _ k hk=>?_⟩
   ·rw [hall F hF] at hk;cases hk
   ·rw [hall _ (List.getElem_mem hi)] at hk;cases hk
  obtain ⟨s1,hg⟩:=s0.new hrb hw2;refine ⟨s1.add (F:=[]) (Ext.refl w2) (fun k hk=>by cases hk),hg,fun m hm=>?_⟩;have e:LoQ Q 0 m=[]:=by
   have hb:opB []=[]:=List.eq_nil_of_length_eq_zero (by rw [qmi];rfl);rw [LoQ]
   split
   ·rfl
   ·rw [stJ]
    split
    ·rw [show leT Q 0 0=0 from rfl,List.replicate_zero,hb];rfl
    ·rw [show stT Q (m/2-1) 0=[] from rfl,hb];rfl
  rw [e];exact World.ownsRow_nil _ _ _ _
 clear hrb hw2;refine qm (fun i:Nat=>[(0,.slice A n c),(2,pp r2),(3,pp rb),(10,.slice A n c),(11,ii n),(12,ii i)])
  (fun i w'=>i≤n∧∃ G,RwS w1 w' [] rb G G (LoQ Q i)) (fun i=>n-i) 0 ⟨rfl,rfl,rfl,rfl,rfl,rfl,trivial⟩ ⟨Nat.zero_le _,_,h0⟩ ?_
 clear h0;rintro i w3 ρ' ⟨i1,G,hR⟩;(conv=>whnf);refine zC (fun _=>zw ?_) (fun _=>zw ?_)
 ·have hi:i<n:=by omega
  obtain ⟨kk,hk4,hf0,hf1,hq,hz⟩:=hQ.first hi;refine ElemV.sl (hS.ext (he1.trans hR.sep.ext)) hlen i rfl hi ?_;intro eb eo hcell;rw [hat] at hcell;refine LoadA.cells hcell rfl (zw ?_);refine ⟨fun qb w4 hqb hw4=>?_⟩;obtain ⟨hR,hqc⟩:=hR.newZ hqb hw4;clear hqb hw4;refine StoreA.blk hqc (by show 0+4≤4;decide) (qid (Q i)) ?_;intro w5 hc5 hq5;have hR:=hR.chgZ hc5;have hq5:w5.heap[qb]?=some (.cells (idsE (Q i)).toArray 95):=hq5;clear hc5 hqc;(conv=>whnf);refine zC (fun _=>zu ?_) (fun _=>zu ?_)
  case' refine_1=>
   refine qm (fun k:Nat=>[(0,.slice A n c),(2,pp r2),(3,pp rb),(4,ii i),(5,pp qb),(6,ii k),(10,.slice A n c),(11,ii n),(12,ii i)]) (fun k w'=>k≤kk∧Ext w5 w') (fun k=>kk-k) 0 ⟨rfl,rfl,rfl,rfl,rfl,rfl,rfl,rfl,rfl,trivial⟩ ⟨Nat.zero_le _,xr⟩ ?_;rintro k w6 ρ2 ⟨k1,he6⟩;obtain ⟨hs1,hs2⟩:=hq Oo;obtain ⟨ab,ao,eA,hcl⟩:=(hS.ext (he1.trans (hR.sep.ext.trans he6))).at_ (by intro e;rw [e] at hlen;simp at hlen;omega);have hp:=(hcl (i-1) _ (zge (by rw [hlen];omega))).ext (Ext.refl w6).drew;rw [hat] at hp;have hq6:=(Ext.refl w6).drew.get (he6.get hq5);(conv=>whnf);refine zy ?_;refine zv ?_;refine LoadV.own hq6 (by rw [t1,Nat.zero_add,Nat.mul_one,List.getElem?_toArray];exact qgz (Q i) Oo) ?_;refine zu ?_;refine ⟨⟨ab,ao,i-1,eA,by omega,by omega,?_⟩⟩;refine zu ?_;refine LoadV.of (by rw [t1,Nat.mul_one];exact hp k _ (qgz (Q (i-1)) Oo)) (zw ?_);refine zt ?_;refine zC (fun _=>zu ?_) (fun _=>zu ?_)
   ·have hkk:k≠kk:=fun e=>by subst e;omega
    exact ⟨k+1,⟨rfl,rfl,rfl,rfl,rfl,rfl,rfl,rfl,rfl,trivial⟩,⟨by omega,he6.drew⟩,by omega⟩
   have hkv:(k:Int)=(kk:Int):=by
    rcases Nat.lt_or_ge k kk with g|g
    ·have:=hs1 k g;omega
    ·omega
   have hRc:=hR.call he6.drew;have hqc:=(he6.drew).get hq5;obtain ⟨w7,ew7⟩:∃ w7,w7=w6.drew:=⟨_,rfl⟩
   rw [← ew7] at hRc hqc ⊢;obtain ⟨kv,ekv⟩:∃ kv:Int,kv=(k:Int):=⟨_,rfl⟩
   rw [← ekv] at hkv ⊢
  case' refine_2=>
   have hRc:=hR;have hqc:=hq5;have hkv:(0:Int)=(kk:Int):=by have:=hz Oo;omega
   obtain ⟨w7,ew7⟩:∃ w7,w7=w5:=⟨_,rfl⟩
   rw [← ew7] at hRc hqc ⊢;have kv:=(0:Int)
  all_goals
   refine qm (fun j:Nat=>[(0,.slice A n c),(2,pp r2),(3,pp rb),(5,pp qb),(6,ii kk),(7,ii j),(10,.slice A n c),(11,ii n),(12,ii i)])
    (fun j w'=>kk+1≤j∧j≤4∧w'.heap[qb]?=some (.cells (idsE (Q i)).toArray 95)∧∃ G,RwS w1 w' [qb] rb G G (LcQ Q i kk j)) (fun j=>4-j) (kk+1)
    ⟨rfl,rfl,rfl,rfl,congrArg (Value.int .i64) hkv,congrArg (Value.int .i64) Oo,rfl,rfl,rfl,trivial⟩ ⟨Nat.le_refl _,by omega,hqc,G,hRc.eqL fun m _=>(qnb Q i kk m).symm⟩ ?_
   clear hRc hqc;rintro j w8 ρ3 ⟨j1,j2,hqc,G3,hR3⟩;conv=>whnf
   (repeat' (first|refine zp ?_|refine zC (fun _=>zw ?_) (fun _=>zw ?_)))
   ·have hj4:j<4:=by omega
    rw [t2,show 0+j*2=2*j by omega];refine zcv (qhv w1 w8 [qb] rb G3 (LcQ Q i kk j) hR3 j hj4 (nuT Q j i) (stJ Q j i) (qfm Q i kk j j) (qle Oo) (qhk Q j i) (hns j i i1)) ?_;rintro r w9 ⟨rfl,⟨G4,hR4⟩,hz4⟩;refine zu ?_;exact ⟨j+1,⟨rfl,rfl,rfl,rfl,rfl,rfl,rfl,rfl,rfl,trivial⟩,⟨by omega,by omega,by rw [hz4 qb (List.mem_singleton.2 rfl)];exact hqc,G4,hR4.eqL fun m _=>qrt Oo m⟩,by omega⟩
   ·obtain rfl:j=4:=by omega
    refine qm (fun j:Nat=>[(0,.slice A n c),(2,pp r2),(3,pp rb),(5,pp qb),(8,ii j),(10,.slice A n c),(11,ii n),(12,ii i)])
     (fun j w'=>kk≤j∧j≤4∧w'.heap[qb]?=some (.cells (idsE (Q i)).toArray 95)∧∃ G,RwS w1 w' [qb] rb G G (LpQ Q i kk j)) (fun j=>4-j) kk
     ⟨rfl,rfl,rfl,rfl,rfl,rfl,rfl,rfl,trivial⟩ ⟨Nat.le_refl _,by omega,hqc,G3,hR3.eqL fun m _=>(qwr Q i kk m).symm⟩ ?_
    clear hR3 hqc;rintro j w9 ρ4 ⟨j3,j4,hqc,G4,hR4⟩;conv=>whnf
    (repeat' (first|refine zp ?_|refine zC (fun _=>zw ?_) (fun _=>zw ?_)))
    ·have hj4:j<4:=by omega
     have hfj:=hf1 j Oo;have hL0:LpQ Q i kk j (2*j)=u64V (nuT Q j i):=by rw [qwq Q i kk j Oo,qfm]
     have hL1:LpQ Q i kk j (2*j+1)=byV (if kk<j then qa0 (stJ Q j i) else opB (stJ Q j i)):=by
      rw [qwq Q i kk j Oo]
      split
      ·rename_i g;exact qh5 g hj4
      ·rename_i g;exact qle Oo
     have hbl:(if kk<j then qa0 (stJ Q j i) else opB (stJ Q j i)).length≤1048576:=by
      have hs:=qhk Q j i;have hle:=qsy (Q:=Q) j i;have hu:=qbi (stJ Q j i).length 8 Od
      split
      ·rw [qcd];omega
      ·rw [qmi];omega
     have hG:gro (nuT Q j i).length (if kk<j then qa0 (stJ Q j i) else opB (stJ Q j i))=opB (stJ Q j (i+1)):=by
      have hs:(nuT Q j i).length=(stJ Q j i).length:=(qhk Q j i).symm;rw [q94 hfj,hs]
      split
      ·rename_i g
       rw [if_neg Oo,hf1 (j-1) Oo,q3x]
      ·rename_i g
       have e:(if j=0 then false else frU Q i (j-1))=false:=by
        split
        ·rfl
        ·exact hf0 (j-1) Oo
       rw [e,qzu]
     refine DrawV.gen (fun S vals w'=>ReI w9 (fun w'=>RwR w1 w9 w' [qb] rb (updR (updR (LpQ Q i kk j) (2*j+1) (LoQ Q (i+1) (2*j+1))) (2*j) (LoQ Q (i+1) (2*j)))) (S 4) (S 5) w') rfl Jk (fun vals=>.inl ⟨rfl,(Ext.refl w9).drew⟩) (zw ?_);(iterate 4 (refine zg ?_));refine StepG.of (ii (Q i j:Nat)) (fun S vals wd hk hp hI=>?_) ?_
     ·dsimp only at hI;rw [hk] at hI;obtain ⟨h5,he⟩:=hI.load;refine LoadV.own (he.get hqc) (by rw [t1,Nat.zero_add,Nat.mul_one,List.getElem?_toArray];exact qgz (Q i) hj4) ?_;(conv=>whnf);exact ⟨rfl,.inl ⟨h5,he⟩⟩
     refine StepG.of (.tuple #[]) (fun S vals wd hk hp hI=>?_) ?_
     ·dsimp only at hI;rw [hk] at hI;have h4:S 4=true:=hp 4 Od;have he:=hI.call;have hR5:=hR4.call he;rw [t2,show 0+j*2=2*j by omega];refine zcv (qvu w1 wd [qb] rb G4 (LpQ Q i kk j) hR5 j (Q i j) hj4 (nuT Q j i) _ hL0 hL1 (hns j i i1) hbl (by have:=hQ.small hi hj4;omega)) ?_;rintro r w11 ⟨rfl,⟨G5,hR6⟩,hz6⟩;rw [hG,← q8o hfj,← qru,← qwp] at hR6;exact ⟨rfl,.inr ⟨rfl,h4,⟨G5,hR6⟩,fun k hk=>by rw [hz6 k hk,he.block k (hR4.sep.lo _ mh k hk).2]⟩⟩
     intro vals w11 hI;obtain ⟨⟨G5,hR6⟩,hz6⟩:=hI.post;clear hI;refine zu ?_;exact ⟨j+1,⟨rfl,rfl,rfl,rfl,rfl,rfl,rfl,rfl,trivial⟩,⟨by omega,by omega,by rw [hz6 qb (List.mem_singleton.2 rfl)];exact hqc,G5,hR6.eqL fun m _=>q12 Oo m⟩,by omega⟩
    ·obtain rfl:j=4:=by omega
     exact ⟨i+1,⟨rfl,rfl,rfl,rfl,rfl,rfl,trivial⟩,⟨by omega,G4,(hR4.eqL fun m hm=>q62 hf0 hm).noZ⟩,by omega⟩
 ·obtain rfl:i=n:=by omega
  refine qm (fun j:Nat=>[(2,pp r2),(3,pp rb),(9,ii j)])
   (fun j w'=>1≤j∧j≤4∧∃ G,RwS w1 w' [] rb G G (LcQ Q i 0 j)) (fun j=>4-j) 1 ⟨rfl,rfl,rfl,trivial⟩ ⟨by omega,by omega,G,hR.eqL fun m _=>(qnb Q i 0 m).symm⟩ ?_
  clear hR;rintro j w4 ρ2 ⟨j1,j2,G4,hR4⟩;(conv=>whnf);refine zC (fun _=>zu ?_) (fun _=>zu ?_)
  ·have hj4:j<4:=by omega
   rw [t2,show 0+j*2=2*j by omega];refine zcv (qhv w1 w4 [] rb G4 (LcQ Q i 0 j) hR4 j hj4 (nuT Q j i) (stJ Q j i) (qfm Q i 0 j j) (qle Oo) (qhk Q j i) (hns j i i1)) ?_;rintro r w9 ⟨rfl,⟨G5,hR5⟩,hz5⟩;refine zu ?_;exact ⟨j+1,⟨rfl,rfl,rfl,trivial⟩,⟨by omega,by omega,G5,hR5.eqL fun m _=>qrt Oo m⟩,by omega⟩
  ·obtain rfl:j=4:=by omega
   have hsl:∀ m,∃ A c,m<8→G4 m=.slice A (LcQ Q i 0 4 m).length c:=fun m=>by
    by_cases hm:m<8
    ·obtain ⟨A,c,e⟩:=qbp (hR4.row m hm);exact ⟨A,c,fun _=>e⟩
    ·exact ⟨none,0,fun h=>absurd h hm⟩
   obtain ⟨AA,hsl⟩:=Classical.axiomOfChoice hsl;obtain ⟨CC,hsl⟩:=Classical.axiomOfChoice hsl;have hle:∀ j,(LcQ Q i 0 4 (2*j)).length=leT Q j i:=fun j=>by rw [qfm,qdt];rfl
   have hlo:∀ j,(LcQ Q i 0 4 (2*j+1)).length=upN (leT Q j i) 8:=fun j=>by
    by_cases g:0<j∧j<4
    ·rw [qh5 g.1 g.2,qas,qcd,qhk]
    ·rw [qle g,qas,qmi,qhk]
   have hv:∀ m (hm:m<8) v,v=G4 m→w4.cell? ⟨rb,0+m,none⟩=some v:=fun m hm v e=>by
    rw [qa hR4.tab,Nat.zero_add,qa7 8 G4 m hm,e]
   have g0:=hsl 0 Od;rw [hle 0] at g0;have g1:=hsl 1 Od;rw [hlo 0] at g1;have g2:=hsl 2 Od;rw [hle 1] at g2;have g3:=hsl 3 Od;rw [hlo 1] at g3;have g4:=hsl 4 Od;rw [hle 2] at g4;have g5:=hsl 5 Od;rw [hlo 2] at g5;have g6:=hsl 6 Od;rw [hle 3] at g6;have g7:=hsl 7 Od;rw [hlo 3] at g7;obtain ⟨vs,evs⟩:∃ vs,vs=[Value.slice (AA 0) (leT Q 0 i) (CC 0),.slice (AA 1) (upN (leT Q 0 i) 8) (CC 1),.slice (AA 2) (leT Q 1 i) (CC 2),.slice (AA 3) (upN (leT Q 1 i) 8) (CC 3),.slice (AA 4) (leT Q 2 i) (CC 4),.slice (AA 5) (upN (leT Q 2 i) 8) (CC 5),.slice (AA 6) (leT Q 3 i) (CC 6),.slice (AA 7) (upN (leT Q 3 i) 8) (CC 7)]:=⟨_,rfl⟩
   have hcs:CellsAt w4 rb 0 vs:=by
    intro m v hm;rw [evs] at hm
    match m,hm with
    | 0,hm=>cases hm;exact hv 0 Od _ g0.symm
    | 1,hm=>cases hm;exact hv 1 Od _ g1.symm
    | 2,hm=>cases hm;exact hv 2 Od _ g2.symm
    | 3,hm=>cases hm;exact hv 3 Od _ g3.symm
    | 4,hm=>cases hm;exact hv 4 Od _ g4.symm
    | 5,hm=>cases hm;exact hv 5 Od _ g5.symm
    | 6,hm=>cases hm;exact hv 6 Od _ g6.symm
    | 7,hm=>cases hm;exact hv 7 Od _ g7.symm
    | m+8,hm=>cases hm
   have hone:∀ v∈vs,v.oneCell'=true:=by
    rw [evs];simp [Value.oneCell']
   have hvl:vs.length=8:=by rw [evs];rfl
   have hr4:=hR4.sep.ext.get hr2c;rw [evs] at hcs;refine LoadA.cells hcs rfl (zw ?_);rw [← evs];refine StoreA.blk hr4 (by rw [hvl];exact Nat.le_refl _) hone ?_;intro w5 hc5 hg5;have hr2l:r2<w1.heap.size:=qb2 hr2c;have hfar:∀ m (hm:m<8),∀ k∈rowF (G4 m),w5.heap[k]?=w4.heap[k]?:=fun m hm k hk=>by
    have:=hR4.sep.at_ (qk2 [] rb G4 hm) k hk;exact hc5.block k this.2 fun g=>by rw [List.mem_singleton.1 g] at this;omega
   have hg5:w5.heap[r2]?=some (.cells vs.toArray 332):=by
    rw [hg5]
    congr 3
    rw [hvl];simp
   refine qj (R:=fun r w'=>qaa6 Q i w w' r∧Ext w w') ?_;have hc6:=CellsAt.heap hg5;rw [evs] at hc6;refine LoadA.cells hc6 rfl (zw ?_);refine ⟨⟨fun j=>AA (2*j),fun j=>AA (2*j+1),fun j=>CC (2*j),fun j=>CC (2*j+1),rfl,fun j hj=>?_,fun j h0 hj=>?_,fun j hj x hx=>?_⟩,hc5.ext (he1.trans hR4.sep.ext) fun k hk=>by rw [List.mem_singleton.1 hk];exact hr2n⟩
   ·have hr:=qao (hR4.row (2*j) Oo) (hfar (2*j) Oo);rw [hsl (2*j) Oo,qfm,qdt,qpy] at hr;exact qql hr rfl
   ·have hr:=qao (hR4.row (2*j+1) Oo) (hfar (2*j+1) Oo);rw [hsl (2*j+1) Oo,qh5 h0 hj,qas,qkm,q95 Q Oo] at hr;obtain ⟨A',c',e1,_,h2⟩:=qte hr;cases e1;exact h2
   ·have key:∀ m (hm:m<8),∀ x∈rowF (G4 m),w.heap.size≤x∧x<w5.heap.size:=fun m hm x hx=>by
     have h1:=hR4.sep.at_ (qk2 [] rb G4 hm) x hx;have h2:=he1.size;have h3:=hc5.size;omega
    rcases List.mem_append.1 hx with hx|hx
    ·exact key (2*j) Oo x (by rw [hsl (2*j) Oo,qem _ _ _ 0 0];exact hx)
    ·exact key (2*j+1) Oo x (by rw [hsl (2*j+1) Oo,qem _ _ _ 0 0];exact hx)
theorem q00 (xs:List Nat) (A:oA) (n c:Nat) (w:World) (hS:SlAt encU 1 w A xs) (hn:xs.length=n) (h0:0<n) (hl:n≤140737488355328) :
  Gv Tryz.prog 191 [.slice A n c] w fun r w'=>r=.int .u64 (mxN (fun i=>xs.getD i 0) n:Nat)∧w'=w:=by
 have hg:∀ i (hi:i<xs.length),xs.getD i 0=xs[i]:=fun i hi=>by rw [List.getD_eq_getElem?_getD,zge hi];rfl
 refine ze Tryz.func191 Tryz.ntmps191 ?_;refine zv ?_;refine ElemV.sl hS hn 0 rfl h0 ?_;intro eb eo hcell;refine LoadV.cell0 hcell ?_;refine qm (fun i:Nat=>[(0,.slice A n c),(3,.int .u64 (mxN (fun i=>xs.getD i 0) (i+1):Nat)),(4,ii (i+1:Nat))]) (fun i w'=>i+1≤n∧w'=w) (fun i=>n-i) 0 ⟨rfl,congrArg (fun k:Nat=>Value.int .u64 k) (by simp only [mxN];rw [hg 0 Oo];omega),rfl,trivial⟩ ⟨by omega,rfl⟩ ?_;rintro i w1 ρ' ⟨i1,rfl⟩;(conv=>whnf);refine zC (fun _=>zw ?_) (fun _=>zw ?_)
 ·refine ElemV.sl hS hn (i+1) Oo Oo ?_;intro eb2 eo2 hcell2;refine LoadV.cell0 hcell2 ?_;refine V.Fall.max2 rfl rfl rfl fun m hm=>?_;have em:m=((mxN (fun i=>xs.getD i 0) (i+1+1):Nat):Int):=by
   have e1:mxN (fun i=>xs.getD i 0) (i+1+1)=max (mxN (fun i=>xs.getD i 0) (i+1)) (xs.getD (i+1) 0):=rfl;rw [hm,e1,hg (i+1) Oo];omega
  rw [em];refine zu ?_;exact ⟨i+1,⟨rfl,rfl,congrArg (Value.int .i64) Oo,trivial⟩,⟨by omega,rfl⟩,by omega⟩
 ·obtain rfl:i+1=n:=by omega
  exact ⟨rfl,rfl⟩
theorem qab6 (l:List Nat) (h:∀ x∈l,x<18446744073709551616):qaf (mxN (fun i=>(0::l).getD i 0) (l.length+1))=wiT l:=by
 have hb:∀ i,l.getD i 0<18446744073709551616:=fun i=>by
  rw [List.getD_eq_getElem?_getD]
  rcases Nat.lt_or_ge i l.length with g|g
  ·rw [zge g];exact h _ (List.getElem_mem g)
  ·rw [List.getElem?_eq_none g];decide
 have e:∀ k,mxN (fun i=>(0::l).getD i 0) (k+1)=mxN (fun i=>l.getD i 0) k:=by
  intro k
  induction k with
  | zero=>rfl
  | succ k ih=>rw [mxN,ih];rfl
 rw [e,wiT];exact que fun i _=>⟨hb i,rfl⟩
def trW (Q:Nat→Nat→Nat) (n:Nat):Nat→LB
 | 0=>[]
 | k+1=>trW Q n k++varL (leT Q k n)
def trX (Q:Nat→Nat→Nat) (n:Nat):Nat→LB
 | 0=>trW Q n 4
 | k+1=>trX Q n k++lvB Q n k
theorem qaah (Q:Nat→Nat→Nat) (n:Nat):trX Q n 4=ql Q n:=by
 simp only [trX,trW,ql,tlB,List.nil_append,List.append_assoc,List.append_nil]
section
variable {Q:Nat→Nat→Nat} {n:Nat} (h:TOk Q n)
include h
theorem q6s (k:Nat):(trW Q n k).length≤10*k:=by
 induction k with
 | zero=>exact Nat.le_refl _
 | succ k ih=>
  have h1:=h.le k;have h2:=qbe 9 (leT Q k n) Oo;rw [trW,zla];omega
theorem qab4 {k:Nat} (hk:k<4):(lvB Q n k).length≤1100000000:=by
 have h1:=h.lvLen (k:=k);have h2:=h.le k;have h3:=h.wi hk;have h4:leT Q k n*wiT (nuT Q k n)≤1048576*23:=Nat.mul_le_mul h2 h3;have h5:=h.le (k-1);rw [h1];have h6:k≠0→qba (leT Q k n) (leT Q (k-1) n)≤1000000000:=fun h0=>qrp _ _ Oo (by
  have:=qn8 (Q:=Q) (k-1) n;rw [Nat.sub_add_cancel Oo] at this;exact this)
 split
 ·omega
 ·rename_i h0;have:=h6 h0;omega
theorem qac4 {k:Nat} (hk:k≤4):(trX Q n k).length≤40+1100000000*k:=by
 induction k with
 | zero=>exact q6s h 4
 | succ k ih=>
  have h1:=ih Oo;have h2:=qab4 h (k:=k) Oo;rw [trX,zla];omega
end
def tbR (NA LA:Nat→oA):List Nat:=(List.range 4).flatMap fun j=>rowF (.slice (NA j) 0 0)++rowF (.slice (LA j) 0 0)
theorem qjy {NA LA:Nat→oA} {x:Nat}:x∈tbR NA LA↔∃ j,j<4∧x∈rowF (.slice (NA j) 0 0)++rowF (.slice (LA j) 0 0):=by
 rw [tbR,List.mem_flatMap]
 constructor
 ·rintro ⟨j,hj,hx⟩;exact ⟨j,List.mem_range.1 hj,hx⟩
 ·rintro ⟨j,hj,hx⟩;exact ⟨j,List.mem_range.2 hj,hx⟩
structure TbS (Q:Nat→Nat→Nat) (n:Nat) (w0 w:World) (b rb:Nat) (l:LB) (vs:List Value) (NA LA:Nat→oA) (Z:List Nat):Prop where
 h:∃ F,Sep w0 w [F,[rb],tbR NA LA,Z]∧BufAt w b 67108864 l F
 cells:CellsAt w rb 0 vs
 num:∀ j,j<4→SlAt encU 1 w (NA j) (nuT Q j n)
 lst:∀ j,0<j→j<4→SlAt encB 1 w (LA j) (qa0 (stT Q (j-1) n))
theorem V.CellsAt.keep {w w':World} {b off:Nat} {vs:List Value} (h:CellsAt w b off vs) (hk:w'.heap[b]?=w.heap[b]?):CellsAt w' b off vs:=fun k v hv=>by
 rw [← h k v hv,World.cell?_of_block];exact hk
section
variable {Q:Nat→Nat→Nat} {n:Nat} {w0 w w':World} {b rb:Nat} {l:LB} {vs:List Value} {NA LA:Nat→oA} {Z:List Nat}
theorem TbS.call (h:TbS Q n w0 w b rb l vs NA LA Z) (he:Ext w w'):TbS Q n w0 w' b rb l vs NA LA Z:=
 ⟨h.h.elim fun F h=>⟨F,h.1.call he,h.2.call he⟩,h.cells.ext he,fun j hj=>(h.num j hj).ext he,fun j h0 hj=>(h.lst j h0 hj).ext he⟩
theorem V.Sep.join {A B:List Nat} {Fs:List (List Nat)} (h:Sep w0 w (A::B::Fs)):Sep w0 w ((A++B)::Fs):=by
 have h1:=List.pairwise_cons.1 h.ap;have h2:=List.pairwise_cons.1 h1.2;refine ⟨h.ext,fun F hF k hk=>?_,List.pairwise_cons.2 ⟨fun G hG k hk=>?_,h2.2⟩⟩
 ·rcases List.mem_cons.1 hF with rfl|hF
  ·rcases List.mem_append.1 hk with hk|hk
   ·exact h.lo A mh k hk
   ·exact h.lo B (zmc mh) k hk
  ·exact h.lo F (zmc (zmc hF)) k hk
 ·rcases List.mem_append.1 hk with hk|hk
  ·exact h1.1 G (zmc hG) k hk
  ·exact h2.1 G hG k hk
theorem TbS.addZ (h:TbS Q n w0 w b rb l vs NA LA Z) (he:Ext w w') {Y:List Nat} (hY:∀ k∈Y,w.heap.size≤k∧k<w'.heap.size):TbS Q n w0 w' b rb l vs NA LA (Y++Z):=by
 obtain ⟨F,h1,h2⟩:=h.h;have h3:=((h1.add he hY).perm ((List.perm_append_singleton Z [F,[rb],tbR NA LA]).cons Y)).join;exact ⟨⟨F,h3.perm (List.perm_append_singleton (Y++Z) [F,[rb],tbR NA LA]).symm,h2.call he⟩,h.cells.ext he,fun j hj=>(h.num j hj).ext he,fun j h0 hj=>(h.lst j h0 hj).ext he⟩
theorem TbS.step (h:TbS Q n w0 w b rb l vs NA LA Z) {P:Program} {f:FuncId} {args:List Value} {l':LB} (hc:∀ F,BufAt w b 67108864 l F→Gv P f args w fun r w'=>r=.tuple #[]∧BufC w w' b 67108864 l' F) :
  Gv P f args w fun r w'=>r=.tuple #[]∧TbS Q n w0 w' b rb l' vs NA LA Z∧∀ k∈Z,w'.heap[k]?=w.heap[k]?:=by
 obtain ⟨F,h1,h2⟩:=h.h;refine (hc F h2).mono ?_;rintro r w' ⟨e,hB⟩;obtain ⟨F',h3,h4⟩:=h1.buf (i:=0) rfl hB;have hk:=h3.keep 2 _ rfl Od;refine ⟨e,⟨⟨F',h3.sep,h4⟩,h.cells.keep (h3.keep 1 _ rfl Od rb (List.mem_singleton.2 rfl)),fun j hj=>(h.num j hj).keep fun k hk'=>hk k (qjy.2 ⟨j,hj,List.mem_append_left _ hk'⟩),fun j h0 hj=>(h.lst j h0 hj).keep fun k hk'=>hk k (qjy.2 ⟨j,hj,List.mem_append_right _ hk'⟩)⟩,h3.keep 3 _ rfl Od⟩
end
theorem q1f (l:List Nat):(l.map encU).flatten=u64V l:=by
 induction l with
 | nil=>rfl
 | cons x l ih=>rw [List.map_cons,List.flatten_cons,ih];rfl
theorem qacc {Q:Nat→Nat→Nat} {n k:Nat} (h:TOk Q n) (hk:k<4):∀ x∈nuT Q k n,x<2 ^ wiT (nuT Q k n):=fun x hx=>by
 obtain ⟨e,he,rfl⟩:=List.mem_iff_getElem.1 hx;have h1:=qzq (h.big hk) (e:=e) he;rw [List.getD_eq_getElem?_getD,zge he] at h1;exact h1
theorem qwa (Q:Nat→Nat→Nat) (A:oA) (n c:Nat) (w:World) (hS:SlAt idsE 4 w A ((List.range n).map Q)) (hQ:TOk Q n) :
  Gv Tryz.prog 113 [.slice A n c,ii 67108864] w fun r w'=>(67108864<(ql Q n).length∧r=.tuple #[.slice none 0 0,ii 1]∧Ext w w')∨((ql Q n).length≤67108864∧∃ v,r=.tuple #[v,ii 0]∧NewS 5 w w' v (ql Q n)):=by
 have hnl:=hQ.nle;have hle:=hQ.le;have hbig:=fun {k:Nat} (hk:k<4)=>hQ.big hk
 have t2:tsz Tryz.prog 331=2:=by kernel_rfl
 have hnb:∀ k,k<4→∀ x∈nuT Q k n,x<18446744073709551616:=fun k hk x hx=>by
  obtain ⟨i,hi,rfl⟩:=qg8 hx;exact hbig hk i hi
 have hwl:=q6s hQ;have hxl:=fun {k:Nat} (hk:k≤4)=>qac4 hQ hk
 refine ze Tryz.func113 Tryz.ntmps113 ?_;refine zcv (qwb Q A n c w hS hQ) ?_;rintro r w1 ⟨rfl,he1⟩;refine zu ?_;refine zcv (qeh 67108864 w1) ?_;rintro r w2 ⟨b,rfl,he2,hb2,hB⟩;have hSp:Sep w1 w2 [[b]]:=(Sep.of (Ext.refl w1)).add he2 fun k hk=>by rw [List.mem_singleton.1 hk];exact ⟨hb2,hB.lt b (List.mem_singleton.2 rfl)⟩
 (conv=>whnf);refine zcv (q4i Q A n c w2 (hS.ext (he1.trans he2)) hQ) ?_;rintro r w3 ⟨hRo,he3⟩;obtain ⟨NA,LA,NC,LC,rfl,hN,hL,hlo⟩:=hRo;have hSp:=hSp.add (F:=tbR NA LA) he3 fun k hk=>by
  obtain ⟨j,hj,hx⟩:=qjy.1 hk;exact hlo j hj k hx
 have hB:=hB.call he3;clear hlo;obtain ⟨vs,evs⟩:∃ vs,vs=[Value.slice (NA 0) (leT Q 0 n) (NC 0),.slice (LA 0) (upN (leT Q 0 n) 8) (LC 0),.slice (NA 1) (leT Q 1 n) (NC 1),.slice (LA 1) (upN (leT Q 1 n) 8) (LC 1),.slice (NA 2) (leT Q 2 n) (NC 2),.slice (LA 2) (upN (leT Q 2 n) 8) (LC 2),.slice (NA 3) (leT Q 3 n) (NC 3),.slice (LA 3) (upN (leT Q 3 n) 8) (LC 3)]:=⟨_,rfl⟩
 have hvl:vs.length=8:=by rw [evs];rfl
 have hone:∀ v∈vs,v.oneCell'=true:=by rw [evs];simp [Value.oneCell']
 have hpart:∀ k,k<4→(vs.drop (k*2)).take 2=[.slice (NA k) (leT Q k n) (NC k),.slice (LA k) (upN (leT Q k n) 8) (LC k)]:=fun k hk=>by
  rw [evs]
  rcases (show k=0∨k=1∨k=2∨k=3 by omega) with rfl|rfl|rfl|rfl<;>rfl
 (conv=>whnf);refine ⟨fun rb w4 hrb hw4=>?_⟩;have he4:Ext w3 w4:=by rw [hw4];exact (Ext.refl w3).alloc _
 obtain ⟨hSp,hg4⟩:=hSp.new hrb hw4;have hB:=hB.call he4;clear hrb hw4;refine StoreA.blk hg4 (Nat.le_refl 8) (by simp [Value.oneCell']) ?_;intro w5 hc5 hg5;have hs5:=hSp.row (i:=0) (F':=[rb]) rfl hc5 fun j hj=>⟨.inl hj,by rw [List.mem_singleton.1 hj];exact qb2 hg5⟩
 have hg5:w5.heap[rb]?=some (.cells vs.toArray 332):=by
  rw [evs,hg5];rfl
 have hk1:=hs5.keep 1 _ rfl Od;have hT:TbS Q n w1 w5 b rb (trW Q n 0) vs NA LA []:=⟨⟨[b],((hs5.sep.perm (List.perm_append_singleton [b] [[rb],tbR NA LA])).add (F:=[]) (Ext.refl w5) (fun k hk=>by cases hk)).perm (List.perm_append_singleton [] [[b],[rb],tbR NA LA]).symm,hB.keep (hs5.keep 2 _ rfl Od)⟩,CellsAt.heap hg5,fun j hj=>((hN j hj).ext he4).keep fun k hk=>hk1 k (qjy.2 ⟨j,hj,List.mem_append_left _ hk⟩),fun j h0 hj=>((hL j h0 hj).ext he4).keep fun k hk=>hk1 k (qjy.2 ⟨j,hj,List.mem_append_right _ hk⟩)⟩
 clear hSp hN hL hB hg4 hc5 hs5 hg5 hk1 he4;have hcs:=hT.cells;rw [evs] at hcs;refine LoadA.cells hcs rfl ?_;clear hcs;refine qm (fun k:Nat=>[(7,pp b),(8,pp rb),(27,.agg vs.toArray),(28,ii k)]) (fun k w'=>k≤4∧∃ Z,TbS Q n w1 w' b rb (trW Q n k) vs NA LA Z) (fun k=>4-k) 0 ⟨rfl,rfl,(by rw [evs];rfl),rfl,trivial⟩ ⟨by omega,_,hT⟩ ?_;clear hT;rintro k w6 ρ2 ⟨k1,Z,hT⟩;(conv=>whnf);refine zC (fun _=>zu ?_) (fun _=>zu ?_)
 ·have hk4:k<4:=by omega
  have hlk:=hle k;have hwk:=hwl k;refine ⟨[.slice (NA k) (leT Q k n) (NC k),.slice (LA k) (upN (leT Q k n) 8) (LC k)],(by rw [t2];exact hpart k hk4),?_⟩;refine znm (Mem.nil w6) ?_;intro pb w7 hm;refine StoreA.all (vs:=[.slice (NA k) (leT Q k n) (NC k),.slice (LA k) (upN (leT Q k n) 8) (LC k)]) hm (i:=0) rfl rfl (by simp [Value.oneCell']) ?_;intro w8 hm;have hT:=hT.call hm.ext;refine zr hm 0 ?_;refine zv ?_;refine zcv (hT.step fun F hF=>qbs b 67108864 _ (leT Q k n) F w8 hF Oo Od Oo) ?_;rintro r w9 ⟨rfl,hT,_⟩;refine zu ?_;exact ⟨k+1,⟨rfl,rfl,rfl,rfl,trivial⟩,⟨by omega,_,hT⟩,by omega⟩
 ·obtain rfl:k=4:=by omega
  have hcs:=hT.cells;rw [evs] at hcs;refine LoadA.cells hcs rfl ?_;clear hcs;refine qm (fun k:Nat=>[(7,pp b),(38,.agg vs.toArray),(39,ii k)]) (fun k w'=>k≤4∧∃ Z,TbS Q n w1 w' b rb (trX Q n k) vs NA LA Z) (fun k=>4-k) 0 ⟨rfl,(by rw [evs];rfl),rfl,trivial⟩ ⟨by omega,_,hT⟩ ?_;clear hT;rintro k w6 ρ3 ⟨k2,Z2,hT⟩;have hxk:=hxl k2;(conv=>whnf);refine zC (fun _=>zu ?_) (fun _=>zu ?_)
  ·have hk4:k<4:=by omega
   have hlk:=hle k;have hwi:=hQ.wi hk4;have hlw:leT Q k n*wiT (nuT Q k n)≤1048576*23:=Nat.mul_le_mul hlk hwi;have hpl:=qbz (nuT Q k n) (wiT (nuT Q k n));have hnl2:(nuT Q k n).length=leT Q k n:=rfl;obtain ⟨wi,ewi⟩:∃ wi,wi=wiT (nuT Q k n):=⟨_,rfl⟩
   obtain ⟨pk,epk⟩:∃ pk,pk=qc4 (nuT Q k n) wi:=⟨_,rfl⟩
   rw [hnl2] at hpl;rw [← ewi] at hlw hwi hpl;rw [← epk] at hpl;obtain ⟨lw,elw⟩:∃ lw,lw=leT Q k n*wi:=⟨_,rfl⟩
   rw [← elw] at hlw hpl;refine ⟨[.slice (NA k) (leT Q k n) (NC k),.slice (LA k) (upN (leT Q k n) 8) (LC k)],(by rw [t2];exact hpart k hk4),?_⟩;refine znm (Mem.nil w6) ?_;intro pb w7 hm;refine StoreA.all (vs:=[.slice (NA k) (leT Q k n) (NC k),.slice (LA k) (upN (leT Q k n) 8) (LC k)]) hm (i:=0) rfl rfl (by simp [Value.oneCell']) ?_;intro w8 hm;have hT:=hT.addZ hm.ext (Y:=[pb]) fun x hx=>by rw [List.mem_singleton.1 hx];exact ⟨(hm.own _ mh).1,hm.lt mh⟩
   have hpc:CellsAt w8 pb 0 [.slice (NA k) (leT Q k n) (NC k),.slice (LA k) (upN (leT Q k n) 8) (LC k)]:=CellsAt.mem hm mh;clear hm;(conv=>whnf);refine ⟨fun zb w9 hzb hw9=>?_⟩;have he9:Ext w8 w9:=by rw [hw9];exact (Ext.refl w8).alloc _
   have hg9:w9.heap[zb]?=some (.cells #[.int .u64 0] 164):=by rw [hw9,hzb];exact heap_alloc_new w8 _
   have hzn:w8.heap.size≤zb:=by omega
   clear hzb hw9;refine LoadV.cell0 (hpc.ext he9) (zw ?_);have hz0:w9.ownsRow 0 164 1 (.slice (some ⟨zb,0,none⟩) 1 1) 1 [.int .u64 0]:=⟨rfl,.inr ⟨zb,1,_,rfl,Nat.zero_le _,hg9,Nat.le_refl _,by decide,rfl,rfl⟩⟩
   refine AppV.row (size:=1) (news:=u64V (nuT Q k n)) qaao u64I u64Z Jk rfl Od hz0 (by rw [qdt,hnl2];exact (Nat.mul_one _).symm) (fun hne=>?_) (fun u hu=>?_) (by rw [show ((Tryz.prog.info? 164).get Jk).bytes=8 from by kernel_rfl];omega) Oo ?_
   ·obtain ⟨g,o,h1,h2⟩:=((hT.num k hk4).ext he9).at_ (by intro e;rw [e] at hne;exact hne rfl);exact ⟨g,o,h1,by rw [← q1f];exact qfp (enc:=encU) (size:=1) Od (fun _=>rfl) h2⟩
   ·obtain ⟨y,_,rfl⟩:=List.mem_map.1 hu;rfl
   intro A' c' w10 ho hch _;have he10:Ext w8 w10:=hch.ext he9 fun x hx=>by rw [List.mem_singleton.1 hx];exact hzn
   have hT:=hT.call he10;have hpc:=hpc.ext he10;clear he9 hz0 hg9 hzn hch;have hmx:mxN (fun i=>(0::nuT Q k n).getD i 0) (leT Q k n+1)<18446744073709551616:=qzo Od fun i hi=>by
    rw [List.getD_eq_getElem?_getD]
    rcases Nat.lt_or_ge i (0::nuT Q k n).length with g|g
    ·rw [zge g]
     rcases List.mem_cons.1 (List.getElem_mem g) with e|e
     ·rw [Option.getD_some,e];decide
     ·exact hnb k hk4 _ e
    ·rw [List.getElem?_eq_none g];decide
   have hwm:=qab6 (nuT Q k n) (hnb k hk4);rw [hnl2,← ewi] at hwm;have hso:SlAt encU 1 w10 A' (0::nuT Q k n):=qql (n:=1+leT Q k n) (c:=c') ho (by rw [List.length_cons,hnl2];omega);obtain ⟨mx,emx⟩:∃ mx,mx=mxN (fun i=>(0::nuT Q k n).getD i 0) (leT Q k n+1):=⟨_,rfl⟩
   have hsm:=q00 (0::nuT Q k n) A' (1+leT Q k n) c' w10 hso (by rw [List.length_cons,hnl2];omega) Oo Oo;rw [show 1+leT Q k n=leT Q k n+1 by omega,← emx] at hsm;rw [← emx] at hmx hwm;rw [show 1+leT Q k n=leT Q k n+1 by omega];(conv=>whnf);refine zcv (hsm) ?_;rintro r w11 ⟨rfl,rfl⟩;(conv=>whnf);refine zcv (qgl mx w11 hmx) ?_;rintro r w12 ⟨rfl,rfl⟩;rw [hwm];refine LoadV.cell0 hpc (zw ?_);refine zcv (qtf (nuT Q k n) wi (NA k) (leT Q k n) (NC k) w12 (hT.num k hk4) rfl Oo (by rw [← elw];omega) (by rw [ewi];exact qacc hQ hk4) Oo) ?_;rintro r w13 ⟨vp,rfl,hNp⟩;obtain ⟨Ap,cp,ep,_,hAp⟩:=hNp.bs;subst ep;rw [← epk] at hAp;have hT:=hT.addZ hNp.ext (Y:=rowF (.slice Ap 0 0)) fun x hx=>hNp.lo x (by rw [qem _ _ _ 0 0];exact hx)
   have hpc:=hpc.ext hNp.ext;refine zu ?_;rw [← epk];refine zcv (hT.step fun F hF=>q2h b 67108864 _ wi F w13 hF Oo Od Oo) ?_;rintro r w14 ⟨rfl,hT,hz14⟩;have hAp:=hAp.keep fun x hx=>hz14 x (List.mem_append_left _ hx)
   have hpc:=hpc.keep (hz14 pb (List.mem_append_right _ (List.mem_append_left _ (List.mem_singleton.2 rfl))));(conv=>whnf);refine zcv (hT.step fun F hF=>qcr b 67108864 _ pk F Ap pk.length cp w14 hF hAp rfl Od (by rw [zla,List.length_singleton];omega)) ?_;rintro r w15 ⟨rfl,hT,hz15⟩;have hpc:=hpc.keep (hz15 pb (List.mem_append_right _ (List.mem_append_left _ (List.mem_singleton.2 rfl))));have hlv:lvB Q n k=UInt8.ofNat wi::(pk++(if k=0 then [] else qac (qa0 (stT Q (k-1) n)) (leT Q k n))):=by rw [lvB,epk,ewi]
   (conv=>whnf);refine zC (fun _=>zu ?_) (fun _=>zu ?_)
   ·have hk0:0<k:=by omega
    rw [if_neg Oo] at hlv;have hsl:(stT Q (k-1) n).length=leT Q k n:=by rw [qbn,Nat.sub_add_cancel Oo]
    have hll:(qa0 (stT Q (k-1) n)).length=upN (leT Q k n) 8:=by rw [qcd,hsl]
    have hpad:=qn6 (stT Q (k-1) n);rw [hsl] at hpad;refine LoadV.of (hpc 1 _ rfl) ?_;refine LoadV.cell0 hpc (zw ?_);refine zcv (qvk (qa0 (stT Q (k-1) n)) (LA k) (upN (leT Q k n) 8) (LC k) (leT Q k n) w15 (hT.lst k hk0 hk4) hll hll Oo hpad) ?_;rintro r w16 ⟨vv,rfl,hNv⟩;obtain ⟨Av,cv,ev,_,hAv⟩:=hNv.bs;subst ev;have hT:=hT.call hNv.ext;obtain ⟨wl,ewl⟩:∃ wl,wl=qac (qa0 (stT Q (k-1) n)) (leT Q k n):=⟨_,rfl⟩
    have hwll:wl.length≤1000000000:=by
     have hup:=qn8 (Q:=Q) (k-1) n;rw [Nat.sub_add_cancel Oo] at hup;have hc:cnt (qa0 (stT Q (k-1) n)) (leT Q k n)≤leT Q k n:=qd0 _ _;rw [ewl,qct hll];exact qrp _ _ Oo hc
    rw [← ewl] at hAv hlv;rw [← ewl];refine zcv (hT.step fun F hF=>qcr b 67108864 _ wl F Av wl.length cv w16 hF hAv rfl Od (by simp only [zla,List.length_singleton];omega)) ?_;rintro r w17 ⟨rfl,hT,_⟩;have e:trX Q n k++[UInt8.ofNat wi]++pk++wl=trX Q n (k+1):=by rw [trX,hlv];simp
    rw [e] at hT;refine zu ?_;exact ⟨k+1,⟨rfl,rfl,rfl,trivial⟩,⟨by omega,_,hT⟩,by omega⟩
   ·rw [if_pos Oo] at hlv;have e:trX Q n k++[UInt8.ofNat wi]++pk=trX Q n (k+1):=by rw [trX,hlv];simp
    rw [e] at hT;exact ⟨k+1,⟨rfl,rfl,rfl,trivial⟩,⟨by omega,_,hT⟩,by omega⟩
  ·obtain rfl:k=4:=by omega
   rw [qaah] at hT hxk;obtain ⟨F,hSp,hB⟩:=hT.h;refine zcv (qcj b 67108864 _ F w6 hB Oo) ?_;rintro r w7 (⟨hbig,rfl,rfl⟩|⟨hfit,v,rfl,hN⟩)
   ·(conv=>whnf);exact .inl ⟨hbig,rfl,he1.trans hSp.ext⟩
   ·obtain ⟨A9,c9,ev9,_⟩:=id hN.h;subst ev9;(conv=>whnf);exact .inr ⟨hfit,_,rfl,hN.back (he1.trans hSp.ext)⟩
theorem q8z {α:Type} {enc:α→List Value} {size:Nat} (henc:∀ x,(enc x).length=size) {w:World} {base n c:Nat} {e:TypeId} {A:oA} {l:List α} (h:w.ownsRow base e size (.slice A n c) n ((l.map enc).flatten)) (hn:l.length=n):SlAt enc size w A l:=by
 subst hn;refine ⟨fun hne=>?_⟩
 rcases h.2 with ⟨e1,e2⟩|⟨g,cap,cur,e1,_,h2,_,_,h5,h6⟩
 ·exact absurd (List.eq_nil_of_length_eq_zero e2) hne
 ·cases e1;refine ⟨g,0,rfl,fun j x hx k v hv=>?_⟩;have hj:=(List.getElem?_eq_some_iff.1 hx).1;have hk:k<size:=by rw [← henc x];exact (List.getElem?_eq_some_iff.1 hv).1
  have h7:=qbw enc size henc l j x k hx hk;have h8:j*size+k<l.length*size:=by
   have:(j+1)*size≤l.length*size:=Nat.mul_le_mul_right _ hj;rw [Nat.succ_mul] at this;omega
  rw [← h6,List.getElem?_take,if_pos h8,hv] at h7;rw [qa h2,Nat.zero_add]
  simpa using h7
theorem q3d (q:Nat→Nat):(idsE q).length=4:=rfl
def qn0 (T:List TM) (qs:List Q4) (i:Nat):List Value:=(((List.range i).map (noQ T qs)).map idsE).flatten
theorem qp6 (T:List TM) (qs:List Q4) {i:Nat} {q:Q4} (h:qs[i]?=some q):qn0 T qs (i+1)=qn0 T qs i++idsE fun k=>noT T (gat q k):=by
 have e:noQ T qs i=fun k=>noT T (gat q k):=funext fun k=>qhs h
 simp [qn0,List.range_succ,e]
def hdN (a b c d:Nat):List Nat:=[1095914324,1,a,b,c,d]
def fxL (ns:List Nat):LB:=(ns.map fun n=>fixL n 4).flatten
theorem q71 (ns:List Nat):(fxL ns).length=4*ns.length:=by
 induction ns with
 | nil=>rfl
 | cons n ns ih=>rw [fxL,List.map_cons,List.flatten_cons,zla,qh];rw [fxL] at ih;rw [ih,List.length_cons];omega
theorem q28 (ns:List Nat) {i:Nat} (h:i<ns.length):fxL (ns.take (i+1))=fxL (ns.take i)++fixL ns[i] 4:=by
 rw [List.take_add_one,zge h,fxL,fxL,List.map_append,List.flatten_append];simp
theorem q70 (a b c d:Nat):fxL (hdN a b c d)=h24 a b c d:=by simp [fxL,hdN,h24]
def ptL (ps:List LB):LB:=(ps.map fun p=>p++sumL p).flatten
theorem q4a (ps:List LB) {i:Nat} (h:i<ps.length):ptL (ps.take (i+1))=(ptL (ps.take i)++ps[i])++sumL ps[i]:=by
 rw [List.take_add_one,zge h,ptL,ptL,List.map_append,List.flatten_append];simp
theorem q4b (a b:Nat) (V T:LB):ptL [h24 a b V.length T.length,V,T]=qcw a b V T:=by
 simp [ptL,qcw]
def EncR (qs:List Q4) (most:Int) (w w':World) (r:Value):Prop:=
 (encE qs most≠0∧r=.tuple #[.slice none 0 0,ii (encE qs most:Nat)]∧Ext w w')∨(encE qs most=0∧∃ v,r=.tuple #[v,ii 0]∧NewS 5 w w' v (pkB qs))
theorem qur (qs:List Q4) (A:oA) (n c:Nat) (most:Int) (w:World) (hS:SlAt qd 16 w A qs) (hn:qs.length=n) (hb:n≤140737488355328) (_:InR .i64 most) (hq:∀ q∈qs,qak q) (hM:MaxLenAt w) (hT:CellsAt w 4 0 qa6)
  (hNib:CellsAt w 3 0 qg7) (_:ErrTyp w) :
  Gv Tryz.prog 55 [.slice A n c,ii most] w fun r w'=>EncR qs most w w' r:=by
 refine ze Tryz.func55 Tryz.ntmps55 ?_;refine zcv (qwj qs A n c w hS hn hb hq hM hT) ?_;rintro r w1 (⟨e,h0,he,rfl,he1⟩|⟨hv,hvo,hvl,v,rfl,hN⟩)
 ·have hee:encE qs most=e:=by
   have hpk:=qqo qs;rw [he]
   by_cases c1:valE qs≠0
   ·rw [if_pos c1,qsn c1]
   ·rw [if_neg c1]
    by_cases c2:qc7 (tmsQ qs)≠0
    ·rw [if_pos c2,qso Oo c2]
    ·rw [if_neg c2];rw [if_neg c1,if_neg c2] at he
     by_cases c3:67108864<(vocB (tmsQ qs)).length
     ·rw [if_pos c3,qic Oo Oo (.inr Oo)]
     ·rw [if_neg c3] at he;exact absurd he h0
  refine zu ?_;exact .inl ⟨by rw [hee];exact h0,by rw [hee],he1⟩
 have hnt:=qm1 hv;have hset:=qt5 hv hnt;obtain ⟨T,eT⟩:∃ T,T=tmsQ qs:=⟨_,rfl⟩
 have hterm:∀ t∈T,qa5 t=0∧1≤t.kind∧t.kind≤3:=fun t ht=>qdd hv (by rw [← eT];exact ht)
 have hrise:RiseT T:=by rw [eT];exact qeb qs
 rw [← eT] at hvo hvl hN hnt hset;have hVO:VOk T:=⟨fun k hk=>qfs (qla hvo k hk),Nat.le_trans (q6a _ _ _) hvl⟩
 have hql:=hset.len;obtain ⟨Av,cv,ev,hcv,hVS⟩:=hN.bs;subst ev;refine zu ?_;refine zcv (qlb (vocB T) Av cv w1 hVS hcv Oo hVO.wE) ?_;rintro r w2 ⟨⟨vb,rfl,hV⟩,he2⟩;(conv=>whnf);refine qm (fun x:Nat × oA × Nat=>[(0,.slice A n c),(1,ii most),(6,.slice Av (vocB T).length cv),(8,pp vb),(10,.slice x.2.1 x.1 x.2.2),(37,.slice A n c),(38,ii n),(39,ii x.1)])
  (fun x w'=>x.1≤n∧Rw w2 w' (.slice x.2.1 x.1 x.2.2) 95 4 x.1 (qn0 T qs x.1) []) (fun x=>n-x.1) (0,none,0) ⟨rfl,rfl,rfl,rfl,rfl,rfl,rfl,rfl,trivial⟩ ⟨Nat.zero_le _,Rw.nil (Mem.nil w2)⟩ ?_
 rintro ⟨i,B,d⟩ w3 ρ' ⟨i1,hR⟩;dsimp only at i1 hR ⊢;have he3:=hN.ext.trans (he2.trans hR.mem.ext);(conv=>whnf);refine zC (fun _=>zw ?_) (fun _=>zw ?_)
 ·have hil:i<qs.length:=by omega
  have hqi:qs[i]?=some qs[i]:=zge hil;have hqm:=List.getElem_mem hil;obtain ⟨q,eq⟩:∃ q,q=qs[i]:=⟨_,rfl⟩
  rw [← eq] at hqi hqm;have hgt:∀ k,k<4→gat q k∈T∨gat q k=zTM:=fun k hk=>(hset.mem q hqm k hk).imp id fun g=>g.2.2
  refine ElemV.sl (hS.ext he3) hn i rfl Oo ?_;intro eb eo hcell;rw [← eq] at hcell;refine LoadA.cells hcell rfl ?_;refine NewV.rw hR ?_;clear hR;intro nb w4 hR;refine StoreA.rwAll (vs:=qd q) hR rfl (qaq _) ?_;clear hR;intro w5 hR;have hR:Rw w2 w5 (.slice B i d) 95 4 i (qn0 T qs i) [(nb,.cells (qd q).toArray 47)]:=hR;refine zL hR.mem 0 ?_;have he5:=hN.ext.trans (he2.trans hR.mem.ext);refine zcv (q5k T hVO hrise (fun t ht=>(hterm t ht).2) (fun t ht=>(hterm t ht).1) vb q hgt (hq q hqm) w5 (hV.ext hR.mem.ext) (hM.ext he5) (hT.ext he5)) ?_;rintro r w6 ⟨rfl,he6⟩;have hR:=hR.call he6;refine NewV.rw hR ?_;clear hR;intro nb2 w7 hR;refine StoreA.rwAll (vs:=idsE fun k=>noT T (gat q k)) hR rfl (qid _) fun w8 hR=>zw ?_;refine zL hR.mem 0 ?_;refine NewV.rw hR fun nb3 w9 hR=>zw ?_;refine AppV.rw (m:=1) (news:=idsE fun k=>noT T (gat q k)) qadj idsI idsZ Jk Jk Od hR rfl (fun _=>⟨nb3,0,rfl,fun k v hv=>?_⟩) (qid _) (by rw [show ((Tryz.prog.info? 95).get Jk).bytes=32 from by kernel_rfl];omega) Oo ?_
  ·rw [qa (hR.mem.get mh),Nat.zero_add];rw [← hv];simp [idsE]
  clear hR;intro B2 d2 w10 hR;rw [← qp6 T qs hqi] at hR;refine zu ?_;exact ⟨(i+1,B2,d2),⟨rfl,rfl,rfl,rfl,rfl,rfl,rfl,congrArg (Value.int .i64) Oo,trivial⟩,⟨by show i+1≤n;omega,hR.tail.tail.tail⟩,by show n-(i+1)<n-i;omega⟩
 ·obtain rfl:i=n:=by omega
  have hidS:SlAt idsE 4 w3 B ((List.range i).map (noQ T qs)):=q8z q3d hR.own Js;have htok:TOk (noQ T qs) i:=by rw [← hn];exact hset.tok
  have hpkl:(pkB qs).length=(vocB T).length+(ql (noQ T qs) i).length+36:=by rw [qqo,← eT,hn]
  refine zcv (qwa (noQ T qs) B i d w3 hidS htok) ?_;rintro r w4 (⟨hbig,rfl,he4⟩|⟨htl,v,rfl,hN4⟩)
  ·refine zu ?_;have e1:=qic (qs:=qs) (most:=most) hv (by rw [← eT];exact hvo) (.inr Oo);exact .inl ⟨by rw [e1];decide,by rw [e1];rfl,he3.trans he4⟩
  obtain ⟨At,ct,et,hct,hTS⟩:=hN4.bs;subst et;have he4:=he3.trans hN4.ext;have hVS4:=hVS.ext (he2.trans (hR.mem.ext.trans hN4.ext));have hV4:=hV.ext (hR.mem.ext.trans hN4.ext);clear hR hidS he3;obtain ⟨X,eX⟩:∃ X,X=vocB T:=⟨_,rfl⟩
  obtain ⟨Y,eY⟩:∃ Y,Y=ql (noQ T qs) i:=⟨_,rfl⟩
  have hto3:=hVO.tot hrise (fun t ht=>(hterm t ht).2);rw [← eX] at hvl hVS4 hpkl ⊢;rw [← eY] at htl hTS hpkl ⊢;refine zu ?_;refine V.Fall.min2 rfl rfl rfl fun k hk=>?_
  (conv=>whnf);refine zcv (qeh k w4) ?_;rintro r w5 ⟨b,rfl,he5,hb5,hB⟩;obtain ⟨m,em⟩:∃ m,m=(max k 0).toNat:=⟨_,rfl⟩
  rw [← em] at hB;have hSp:Sep w4 w5 [[b]]:=(Sep.of (Ext.refl w4)).add he5 fun k hk=>by rw [List.mem_singleton.1 hk];exact ⟨hb5,hB.lt b (List.mem_singleton.2 rfl)⟩
  (conv=>whnf);refine zcv (qeh 28 w5) ?_;rintro r w6 ⟨b2,rfl,he6,hb6,hB2⟩;have hSp:=hSp.add he6 (F:=[b2]) fun k hk=>by rw [List.mem_singleton.1 hk];exact ⟨hb6,hB2.lt b2 (List.mem_singleton.2 rfl)⟩
  have hB:=hB.call he6;(conv=>whnf);refine zcv (qwk vb (vocB T) w6 (hV4.ext (he5.trans he6))) ?_;rintro r w7 ⟨rfl,rfl⟩;rw [hto3];(conv=>whnf);obtain ⟨ns,ens⟩:∃ ns,ns=hdN i T.length X.length Y.length:=⟨_,rfl⟩
  have hnl:ns.length=6:=by rw [ens];rfl
  have hns:∀ x∈ns,x<18446744073709551616:=fun x hx=>by
   rw [ens] at hx;simp only [hdN,List.mem_cons,List.not_mem_nil,or_false] at hx;omega
  have hag:(#[ii 1095914324,ii 1,ii i,ii T.length,ii X.length,ii Y.length]:Array Value)=(ns.map fun n:Nat=>ii (n:Nat)).toArray:=by rw [ens];rfl
  refine qm (fun j:Nat=>[(6,.slice Av X.length cv),(15,.slice At Y.length ct),(16,pp b),(17,pp b2),(73,.agg (ns.map fun n:Nat=>ii (n:Nat)).toArray),(74,ii j)])
   (fun j w'=>j≤6∧∃ F,Sep w4 w' [F,[b]]∧BufAt w' b2 28 (fxL (ns.take j)) F∧BufAt w' b m [] [b]) (fun j=>6-j) 0 ⟨rfl,rfl,rfl,rfl,(by rw [← hag];rfl),rfl,trivial⟩ ⟨by omega,_,hSp,hB2,hB⟩ ?_
  clear hSp hB2 hB;rintro j w8 ρ2 ⟨j1,F,hSp,hB2,hB⟩;have hfl:(fxL (ns.take j)).length≤24:=by rw [q71,List.length_take];omega
  (conv=>whnf);refine zC (fun _=>zu ?_) (fun _=>zu ?_)
  ·have hj6:j<ns.length:=by omega
   have hget:(ns.map fun n:Nat=>ii (n:Nat))[j]?=some (ii (ns[j]:Nat)):=by rw [List.getElem?_map,zge hj6];rfl
   refine ⟨ii (ns[j]:Nat),by rw [show j*tsz Tryz.prog 3=j by rw [show tsz Tryz.prog 3=1 from by kernel_rfl];omega];exact hget,?_⟩;have hnj:=hns _ (List.getElem_mem hj6);refine zu ?_;refine zcv (qkg b2 28 _ ns[j] F w8 hB2 hnj Od Oo) ?_;rintro r w9 ⟨rfl,hC⟩;obtain ⟨F9,hs9,hB2⟩:=hSp.buf (i:=0) rfl hC;have hB:=hB.keep (hs9.keep 1 [b] rfl Od);rw [← q28 ns hj6] at hB2;refine zu ?_;exact ⟨j+1,⟨rfl,rfl,rfl,rfl,rfl,congrArg (Value.int .i64) Oo,trivial⟩,⟨by omega,F9,hs9.sep,hB2,hB⟩,by omega⟩
  ·obtain rfl:j=6:=by omega
   have hall:fxL (ns.take 6)=h24 i T.length X.length Y.length:=by rw [List.take_of_length_le Oo,ens,q70]
   rw [hall] at hB2 hfl;refine zcv (qcj b2 28 _ F w8 hB2 Oo) ?_;rintro r w9 (⟨hbig,rfl,rfl⟩|⟨hle,v,rfl,hN9⟩)
   ·omega
   obtain ⟨Ah,ch,eh,hch,hHS⟩:=hN9.bs;subst eh;have hSp:=((hSp.drop 1).add hN9.ext hN9.lo).perm (List.Perm.swap _ _ _);have hB:=hB.call hN9.ext;clear hB2;obtain ⟨H,eH⟩:∃ H,H=h24 i T.length X.length Y.length:=⟨_,rfl⟩
   rw [← eH] at hHS hSp hfl ⊢;have h24l:H.length=24:=by rw [eH];exact ql1 _ _ _ _
   obtain ⟨ps,eps⟩:∃ ps,ps=[H,X,Y]:=⟨_,rfl⟩
   have hpl:ps.length=3:=by rw [eps];rfl
   have hptk:ptL ps=pkB qs:=by rw [eps,eH,q4b,eX,eY,← hn,eT];rfl
   have hrow:∀ j (hj:j<ps.length) w',Ext w4 w'→SlAt encB 1 w' Ah H→∃ Aj cj,[Value.slice Ah H.length ch,.slice Av X.length cv,.slice At Y.length ct][j]?=some (.slice Aj ps[j].length cj)∧SlAt encB 1 w' Aj ps[j]∧ps[j].length≤67108864:=fun j hj w' he hh=>by
    subst eps
    rcases (show j=0∨j=1∨j=2 by omega) with rfl|rfl|rfl
    ·exact ⟨Ah,ch,rfl,hh,by show H.length≤_;omega⟩
    ·exact ⟨Av,cv,rfl,hVS4.ext he,hvl⟩
    ·exact ⟨At,ct,rfl,hTS.ext he,htl⟩
   (conv=>whnf);refine qm (fun j:Nat=>[(16,pp b),(90,.agg #[.slice Ah H.length ch,.slice Av X.length cv,.slice At Y.length ct]),(91,ii j)])
    (fun j w'=>j≤3∧(ptL (ps.take j)).length≤j*67108868∧∃ F,Sep w4 w' [F,rowF (.slice Ah H.length ch)]∧BufAt w' b m (ptL (ps.take j)) F∧SlAt encB 1 w' Ah H) (fun j=>3-j) 0 ⟨rfl,rfl,rfl,trivial⟩ ⟨by omega,Nat.zero_le _,_,hSp,hB,hHS⟩ ?_
   clear hSp hB hHS;rintro j w10 ρ3 ⟨j2,hlj,F3,hSp,hB,hHS⟩;(conv=>whnf);refine zC (fun _=>zu ?_) (fun _=>zu ?_)
   ·have hj3:j<ps.length:=by omega
    obtain ⟨Aj,cj,hget,hsj,hpj⟩:=hrow j hj3 w10 hSp.ext hHS;obtain ⟨pj,epj⟩:∃ pj,pj=ps[j]:=⟨_,rfl⟩
    have hnx:=q4a ps hj3;rw [← epj] at hget hsj hpj hnx;refine ⟨.slice Aj pj.length cj,by rw [show j*tsz Tryz.prog 32=j by rw [show tsz Tryz.prog 32=1 from by kernel_rfl];omega];exact hget,?_⟩;have hcr:(crcL pj).toNat<4294967296:=(crcL pj).isLt;(conv=>whnf);refine zcv (qcr b m _ pj F3 Aj pj.length cj w10 hB hsj rfl Oo Oo) ?_;rintro r w11 ⟨rfl,hC⟩;obtain ⟨F4,hs4,hB⟩:=hSp.buf (i:=0) rfl hC;have hHS:=hHS.keep fun x hx=>hs4.keep 1 _ rfl Od x (by rw [qem _ _ _ 0 0];exact hx)
    obtain ⟨Aj2,cj2,hget2,hsj2,_⟩:=hrow j hj3 w11 hs4.sep.ext hHS;have hsj3:SlAt encB 1 w11 Aj pj:=by
     rw [← epj] at hget2 hsj2;have e:=Option.some.inj (hget.symm.trans hget2)
     injection e with e1 e2 e3
     rw [e1];exact hsj2
    have heN:=(he4.trans hs4.sep.ext)
    (conv=>whnf);refine zcv (q09 pj Aj pj.length cj w11 hsj3 rfl Oo (CellsAt.ext hNib heN)) ?_;rintro r w12 ⟨rfl,rfl⟩;refine zu ?_;refine zcv (qkg b m _ (crcL pj).toNat F4 w12 hB Oo Oo (by rw [zla];omega)) ?_;rintro r w13 ⟨rfl,hC⟩;obtain ⟨F5,hs5,hB⟩:=hs4.sep.buf (i:=0) rfl hC;have hHS:=hHS.keep fun x hx=>hs5.keep 1 _ rfl Od x (by rw [qem _ _ _ 0 0];exact hx)
    rw [← show sumL pj=fixL (crcL pj).toNat 4 from rfl,← hnx] at hB;refine zu ?_;refine ⟨j+1,⟨rfl,rfl,congrArg (Value.int .i64) Oo,trivial⟩,⟨by omega,?_,F5,hs5.sep,hB,hHS⟩,by omega⟩;rw [hnx,zla,zla,qds];omega
   ·obtain rfl:j=3:=by omega
    rw [List.take_of_length_le Oo,hptk] at hB;refine zcv (qcj b m _ F3 w10 hB Oo) ?_;rintro r w11 (⟨hbig,rfl,rfl⟩|⟨hle,v,rfl,hN⟩)
    ·have e1:=qic (qs:=qs) (most:=most) hv (by rw [← eT];exact hvo) Oo;(conv=>whnf);exact .inl ⟨by rw [e1];decide,by rw [e1];rfl,he4.trans hSp.ext⟩
    ·have e1:=qpz (qs:=qs) (most:=most) hv (by rw [← eT];exact hvo) Oo;obtain ⟨A9,c9,ev9,_⟩:=id hN.h;subst ev9;(conv=>whnf);exact .inr ⟨e1,_,rfl,hN.back (he4.trans hSp.ext)⟩
namespace V
theorem RunV.eqQd {xo yo:Operand} {a b:Q4} {w:World} {K:Value→World→Prop} (h:K (.bool (qcs a b)) w) :
  RunV Tryz.prog (do eqGuard .eql 47 xo yo (qq a) (qq b);binOp .eql 47 (qq a) (qq b)) w K:=by
 refine ⟨_,w,?_,h⟩;rw [Sem.run_bind,qq,qq,run_eqGuard_agg w .eql _ xo yo _ _ q74,Result.andThen_ok];have e:=qe5 9997 a b w;simp only [qq] at e;rw [run_eql_struct,e];rfl
end V
open Classical in
noncomputable def vidR (T:List TM) (q:Q4):Value:=if ∀ k,k<4→gat q k∈T∨gat q k=zTM then .tuple #[idsV fun k=>noT T (gat q k),.bool true] else .tuple #[idsV fun _=>0,.bool false]
theorem q1r (T:List TM) (h:VOk T) (hr:RiseT T) (hk:∀ t∈T,1≤t.kind∧t.kind≤3) (he:∀ t∈T,qa5 t=0) (b:Nat) (q:Q4) (hqo:qak q) (w:World) (hV:VocAt w b (vocB T))
  (hM:MaxLenAt w) (hT:CellsAt w 4 0 qa6) :
  Gv Tryz.prog 74 [pp b,qq q] w fun r w'=>r=vidR T q∧Ext w w':=by
 refine ze Tryz.func74 Tryz.ntmps74 ?_;refine znm (Mem.nil w) ?_;intro b3 w1 hm;have hm:Mem w w1 [(b3,.cells (qd q).toArray 47)]:=hm;(conv=>whnf);refine znm hm fun b4 w2 hm=>zw ?_;refine znm hm ?_;intro b6 w3 hm;have hm:Mem w w3 [(b6,.cells (fnA 4 (inF (idF T q 0))) 95),(b4,.cells #[ii 0,ii 0,ii 0,ii 0] 95),(b3,.cells (qd q).toArray 47)]:=hm;have hc:CellsAt w3 b3 0 (qd q):=CellsAt.mem hm (zmg (i:=2) rfl);(conv=>whnf);refine LoadA.cells (qv hc 3 Oo) rfl (zw ?_);refine LoadA.cells (qv hc 0 Oo) rfl (zw ?_);refine LoadA.cells (qv hc 1 Oo) rfl (zw ?_);refine LoadA.cells (qv hc 2 Oo) rfl (zw ?_);refine qm (fun k:Nat=>[(0,pp b),(4,pp b4),(6,pp b6),(19,qq (gQ q)),(20,ii k)])
  (fun k w'=>k≤4∧(∀ j,j<k→gat q j∈T∨gat q j=zTM)∧Mem w w' [(b6,.cells (fnA 4 (inF (idF T q k))) 95),(b4,.cells #[ii 0,ii 0,ii 0,ii 0] 95),(b3,.cells (qd q).toArray 47)]) (fun k=>4-k) 0 ⟨rfl,rfl,rfl,rfl,rfl,trivial⟩ ⟨by omega,fun j hj=>absurd hj (Nat.not_lt_zero _),hm⟩ ?_
 clear hm hc;rintro k w4 ρ' ⟨k1,hkn,hm⟩;(conv=>whnf);refine zC (fun _=>zu ?_) (fun _=>zu ?_)
 ·have hk4:k<4:=by omega
  refine Wit.eq (y:=encT ((gQ q).at k)) (qjj (gQ q) k hk4) ?_;rw [q29 q hk4];(conv=>whnf);refine znm hm fun b8 w5 hm=>zw ?_;refine StoreA.all (vs:=encT (gat q k)) hm (i:=0) rfl rfl (qab _) ?_;clear hm;intro w6 hm;have hm:Mem w w6 [(b8,.cells (encT (gat q k)).toArray 45),(b6,.cells (fnA 4 (inF (idF T q k))) 95),(b4,.cells #[ii 0,ii 0,ii 0,ii 0] 95),(b3,.cells (qd q).toArray 47)]:=hm;(conv=>whnf);refine zl hm 0 ?_;have hto:TermOk (gat q k):=by rw [← q29 q hk4];have:=hqo;rcases (show k=0∨k=1∨k=2∨k=3 by omega) with rfl|rfl|rfl|rfl;exact this 3;exact this 0;exact this 1;exact this 2
  refine zcv (qua T h hr hk he b (gat q k) hto w6 (hV.ext hm.ext) (hM.ext hm.ext) (hT.ext hm.ext)) ?_;rintro r w7 ⟨rfl,he7⟩;have hm:=hm.call he7
  rcases Classical.em (gat q k∈T∨gat q k=zTM) with hin|hin
  case inr=>
   rw [idR,if_neg hin];refine zu ?_;refine zS hm 2 fun w8 hm=>zw ?_;refine qj (R:=fun v w'=>v=vidR T q∧Ext w w') (zw ?_);refine zl hm 2 ?_;exact ⟨by rw [vidR,if_neg (fun g=>hin (g k hk4))];rfl,hm.ext⟩
  rw [idR,if_pos hin];refine zu ?_;rw [show 0+k*tsz Tryz.prog 3=k by rw [show tsz Tryz.prog 3=1 from by kernel_rfl];omega];refine StoreV.mem hm (i:=1) rfl (by rw [qa1];omega) rfl ?_;clear hm;intro w8 hm;have hm:Mem w w8 [(b8,.cells (encT (gat q k)).toArray 45),(b6,.cells ((fnA 4 (inF (idF T q k))).setIfInBounds k (ii (noT T (gat q k):Nat))) 95),(b4,.cells #[ii 0,ii 0,ii 0,ii 0] 95),(b3,.cells (qd q).toArray 47)]:=hm;rw [qyi T q hk4] at hm;refine zu ?_;exact ⟨k+1,⟨rfl,rfl,rfl,rfl,congrArg (Value.int .i64) Oo,trivial⟩,⟨by omega,(by grind),hm.sub Js⟩,by omega⟩
 ·refine zl hm 0 ?_;refine zS hm 1 fun w8 hm=>zw ?_;obtain rfl:k=4:=by omega
  refine qj (R:=fun v w'=>v=vidR T q∧Ext w w') (zw ?_);refine zl hm 1 ?_;exact ⟨by rw [vidR,if_pos (fun j hj=>hkn j hj)];rfl,hm.ext⟩
theorem EncOk.idX {T:List TM} {qs:List Q4} (h:EncOk T qs) (p:Q4):∀ k,k<4→InR .i64 (idP T p k):=fun k _=>by
 have h1:=h.set.few;rw [idP,idT]
 split
 ·exact ⟨by omega,by omega⟩
 ·have h2:noT T (gat p k)≤T.length+1:=by
   grind [noT]
  exact ⟨by omega,by omega⟩
theorem qvi (b vb:Nat) (a0 a1 a2 a3 a5:Value) (w:World) (h:w.heap[b]?=some (.cells #[a0,a1,a2,a3,pp vb,a5] 241)):Gv Tryz.prog 73 [pp b] w fun v w'=>v=pp vb∧w'=w:=by
 refine ze Tryz.func73 Tryz.ntmps73 ?_;refine LoadV.own h rfl (zw ?_);simp
theorem q4r (l:LB) (x pb vb tb:Nat) (w:World) (hX:IdxE w x pb vb tb l):Gv Tryz.prog 26 [pp x] w fun r w'=>r=ii (vNum (qr l) 3:Nat)∧Ext w w':=by
 refine ze Tryz.func26 Tryz.ntmps26 ?_;refine LoadV.of hX.c (zw ?_);refine zcv (qdq pb tb _ _ _ _ _ w hX.b) ?_;rintro r w1 ⟨rfl,rfl⟩;(conv=>whnf);refine zcv (qge tb _ w1 hX.t) ?_;rintro r w2 ⟨rfl,rfl⟩;conv=>whnf
 grind [Ext.refl]
section
variable {T:List TM} {qs:List Q4} (h:EncOk T qs)
include h
theorem EncOk.gatIn:∀ q∈qs,∀ k,k<4→gat q k∈T∨gat q k=zTM:=fun q hq k hk=>(h.set.mem q hq k hk).imp id fun g=>g.2.2
theorem EncOk.cnt {p:Q4} (hK:KnQ T p):tcnt (qr (encP T qs)) (idP T p)=(qaa p qs).length:=by
 rw [h.t,q43 h.set.tok,qja (P:=idP T p) h.set.rise (fun t ht=>(h.kinds t ht).1) h.gatIn (fun _ _=>rfl) hK]
theorem EncOk.rows {p:Q4} (hK:KnQ T p):(tmaR (qr (encP T qs)) (idP T p)).length≤1048576:=by
 have e:=congrArg List.length (h.tma hK);rw [List.length_map] at e;rw [e];exact Nat.le_trans (qkt p qs) h.set.len
theorem EncOk.fin {q:Q4} (hK:∀ k,k<4→gat q k∈T∨gat q k=zTM) :
  (∃ i,tfin (qr (encP T qs)) (fun k=>(noT T (gat q k):Int))=(i,true)∧qs[i]?=some q)∨((tfin (qr (encP T qs)) (fun k=>(noT T (gat q k):Int))).2=false∧q∉qs):=by
 have hk4:∀ k,k<4→(gat q k).kind≠4:=fun k hk=>by
  rcases hK k hk with g|g
  ·have:=(h.kinds _ g).2;omega
  ·rw [g];decide
 have eP:(fun k=>(noT T (gat q k):Int))=fun k=>(noT T (gat q k):Int):=rfl
 have hP:∀ k,k<4→(fun k=>(noT T (gat q k):Int)) k=idT T (gat q k):=(by grind [idT])
 have hKn:∀ k,k<4→KnT T (gat q k):=fun k hk=>.inr (hK k hk)
 have hm:=qja h.set.rise (fun t ht=>(h.kinds t ht).1) h.gatIn hP hKn;have h3:vNum (ql (noQ T qs) qs.length) 3=qs.length:=by rw [h.set.tok.vNum Od,h.set.tok.all Oo]
 have hf:=q7z (P:=fun k=>(noT T (gat q k):Int)) h.set.tok h.set.tok.canD Oo (m:=3) (k:=0) rfl h.set.tok.winT;rw [h.set.tok.lvM_all,hm] at hf;obtain ⟨hq1,hq2⟩:=qoa (qs:=qs) hk4;rw [h.t,tfin,h3,h.set.tok.vNum Od]
 grind
end
theorem qk3 (T:List TM) (qs:List Q4) (h:EncOk T qs) (x pb vb tb:Nat) (p:Q4) (hp:qak p) (w:World) (hX:IdxE w x pb vb tb (encP T qs)) (hG:GlobS w) :
  Gv Tryz.prog 21 [pp x,qq p] w fun r w'=>r=ii ((qaa p qs).length:Nat)∧Ext w w':=by
 refine ze Tryz.func21 Tryz.ntmps21 ?_;refine znm (Mem.nil w) ?_;intro qb w1 hm;have hm:Mem w w1 [(qb,.cells (qd p).toArray 47)]:=hm;(conv=>whnf);refine zl hm 0 ?_;refine zcv (qt1 T qs h x p hp w1 (hX.ext hm.ext).at_ (hG.ext hm.ext).M (hG.ext hm.ext).T) ?_;rintro r w2 ⟨rfl,he2⟩;replace hm:=hm.call he2
 by_cases hK:KnQ T p
 case neg=>
  rw [qkc,if_neg hK];(conv=>whnf);refine znm hm fun ib w3 hm=>zw ?_;refine StoreA.all hm (i:=0) rfl rfl Od fun w4 hm=>zu ?_;exact ⟨by rw [h.tmaN hK];rfl,hm.ext⟩
 rw [qkc,if_pos hK];(conv=>whnf);refine znm hm fun ib w3 hm=>zw ?_;refine zS hm 0 ?_;clear hm;intro w4 hm;have hgi:w4.heap[ib]?=some (.cells #[ii (idP T p 0),ii (idP T p 1),ii (idP T p 2),ii (idP T p 3)] 95):=hm.get mh;have hx:∀ wd,Ext w4.drew wd→Ext w wd:=fun wd hd=>hm.ext.trans ((Ext.refl w4).drew.trans hd)
 refine zu ?_;refine DrawV.free Jk Jk (zw ?_);(iterate 3 (refine zd ?_));refine zsd (pp pb) (fun wd hd=>zw ?_) (zw ?_)
 ·refine LoadV.of (hX.ext (hx wd hd)).c (zw ?_);exact ⟨xr,rfl⟩
 refine zsd (pp tb) (fun wd hd=>zw ?_) (zw ?_)
 ·refine zcv (qdq pb tb _ _ _ _ _ wd (hX.ext (hx wd hd)).b) ?_
  grind [Ext.refl]
 refine zsd (.agg #[ii (idP T p 0),ii (idP T p 1),ii (idP T p 2),ii (idP T p 3)]) (fun wd hd=>zw ?_) (zw ?_)
 ·refine LoadA.own (Ext.get ((Ext.refl w4).drew.trans hd) hgi) rfl (zw ?_);exact ⟨xr,rfl⟩
 refine zsd (ii ((qaa p qs).length:Nat)) (fun wd hd=>zw ?_) (zw ?_)
 ·refine zcv (qwd tb (qr (encP T qs)) (idP T p) wd (hX.ext (hx wd hd)).t h.vms (h.idX p) (h.rows hK)) ?_;rintro r w5 ⟨rfl,he5⟩;exact ⟨he5,by rw [h.cnt hK]⟩
 refine zd ?_;intro w5 he5;conv=>whnf
 simp_all
theorem qt0 (T:List TM) (qs:List Q4) (h:EncOk T qs) (x pb vb tb:Nat) (q:Q4) (hq:qak q) (w:World) (hX:IdxE w x pb vb tb (encP T qs)) (hG:GlobS w) :
  Gv Tryz.prog 31 [pp x,qq q] w fun r w'=>(∃ b,r=.bool b∧(b=true↔q∈qs))∧Ext w w':=by
 obtain ⟨F,bb,ev,hF⟩:∃ (F:Nat→Nat) (bb:Bool),vidR T q=.tuple #[idsV F,.bool bb]∧((bb=true∧(∀ k,k<4→gat q k∈T∨gat q k=zTM)∧F=fun k=>noT T (gat q k))∨(bb=false∧¬ ∀ k,k<4→gat q k∈T∨gat q k=zTM)):=by
  by_cases hK:∀ k,k<4→gat q k∈T∨gat q k=zTM
  ·simp_all [vidR]
  ·exact ⟨_,false,by rw [vidR,if_neg hK],(by grind)⟩
 unfold idsV at ev;refine ze Tryz.func31 Tryz.ntmps31 ?_;refine znm (Mem.nil w) ?_;intro qb w1 hm;have hm:Mem w w1 [(qb,.cells (qd q).toArray 47)]:=hm;(conv=>whnf);refine DrawV.gen (fun S vals w'=>Al w [(qb,.cells (qd q).toArray 47)] (.cells zq 95) (.cells #[ii (F 0:Nat),ii (F 1:Nat),ii (F 2:Nat),ii (F 3:Nat)] 95) (.cells zq 95) (.cells zq 95) (S 10) false (S 11) false (vals 10) undef w') rfl Jk (fun vals=>Al.start hm.drew) ?_;clear hm;(conv=>whnf);(iterate 3 (refine zg ?_));refine StepG.of (pp pb) (fun S vals wd hk hp hI=>zw ?_) (zw ?_)
 ·refine LoadV.of (hX.ext hI.mem.ext).c (zw ?_);exact ⟨rfl,hI⟩
 refine StepG.of (pp vb) (fun S vals wd hk hp hI=>zw ?_) (zw ?_)
 ·refine zcv (qvi pb vb _ _ _ _ _ wd (hX.ext hI.mem.ext).b) ?_;rintro r w5 ⟨rfl,rfl⟩;exact ⟨rfl,hI⟩
 refine StepG.of (qq q) (fun S vals wd hk hp hI=>zw ?_) (zw ?_)
 ·refine LoadA.own (hI.mem.get (List.mem_singleton.2 rfl)) rfl (zw ?_);exact ⟨rfl,hI⟩
 refine StepG.of (.tuple #[.agg #[ii (F 0:Nat),ii (F 1:Nat),ii (F 2:Nat),ii (F 3:Nat)],.bool bb]) (fun S vals wd hk hp hI=>?_) (zw ?_)
 ·have hv:=(hX.ext hI.mem.ext).v;rw [h.v] at hv;(conv=>whnf);refine zcv (q1r T h.voc h.set.rise h.kinds h.term vb q hq wd hv (hG.ext hI.mem.ext).M (hG.ext hI.mem.ext).T) ?_;rintro r w5 ⟨rfl,he5⟩;exact ⟨ev,hI.call he5⟩
 (iterate 3 (refine zg ?_));refine StepG.any (fun S vals wd hk hp hI=>?_) (zw ?_)
 ·dsimp only at hI;rw [hk] at hI;(conv=>whnf);refine ⟨fun x wx hb hw=>?_⟩;subst hb hw;(conv=>whnf);exact ⟨trivial,hI.new1⟩
 refine StepG.of undef (fun S vals wd hk hp hI=>?_) (zw ?_)
 ·dsimp only at hI;have h10:S 10=true:=hp 10 Od;rw [hk,h10] at hI;obtain ⟨b,hv,M,hmM,hK⟩:=hI.put1;rw [qbk hv];(conv=>whnf);refine zS hmM 0 fun wx hmx=>zw ?_;exact ⟨rfl,by show Al _ _ _ _ _ _ (S 10) _ true _ _ _ _;rw [h10];exact hK hmx rfl⟩
 refine zg ?_;intro vals w3 hI;obtain ⟨nb,hv,hm⟩:=hI.done1;rw [qbk hv];clear hI hv;conv=>whnf
 rcases hF with ⟨rfl,hK,hF⟩|⟨rfl,hK⟩
 case inr=>
  refine zu ?_;refine ⟨⟨false,rfl,Js,fun g=>absurd (h.gatIn q g) hK⟩,hm.ext⟩
 have hgi:w3.heap[nb]?=some (.cells #[ii (F 0:Nat),ii (F 1:Nat),ii (F 2:Nat),ii (F 3:Nat)] 95):=hm.get mh;have hgq:w3.heap[qb]?=some (.cells (qd q).toArray 47):=hm.get (zmc (List.mem_singleton.2 rfl));have hx:∀ wd,Ext w3.drew wd→Ext w3 wd:=fun wd hd=>(Ext.refl w3).drew.trans hd
 have hfin:=h.fin hK;rw [show (fun k=>(noT T (gat q k):Int))=fun k=>(F k:Int) by rw [hF]] at hfin;obtain ⟨R,eR⟩:∃ R,R=tfin (qr (encP T qs)) fun k=>(F k:Int):=⟨_,rfl⟩
 rw [← eR] at hfin;obtain ⟨i,bf⟩:=R;refine zu ?_;refine DrawV.free Jk Jk (zw ?_);(iterate 3 (refine zd ?_));refine zsd (pp pb) (fun wd hd=>zw ?_) (zw ?_)
 ·refine LoadV.of (hX.ext (hm.ext.trans (hx wd hd))).c (zw ?_);exact ⟨xr,rfl⟩
 refine zsd (pp tb) (fun wd hd=>zw ?_) (zw ?_)
 ·refine zcv (qdq pb tb _ _ _ _ _ wd (hX.ext (hm.ext.trans (hx wd hd))).b) ?_
  grind [Ext.refl]
 refine zsd (.agg #[ii (F 0:Nat),ii (F 1:Nat),ii (F 2:Nat),ii (F 3:Nat)]) (fun wd hd=>zw ?_) (zw ?_)
 ·refine LoadA.own (Ext.get (hx wd hd) hgi) rfl (zw ?_);exact ⟨xr,rfl⟩
 refine zsd (.tuple #[ii (i:Nat),.bool bf]) (fun wd hd=>zw ?_) (zw ?_)
 ·refine zcv (q1c tb (qr (encP T qs)) (fun k=>(F k:Int)) wd (hX.ext (hm.ext.trans (hx wd hd))).t h.vms) ?_
  grind
 (iterate 5 (refine zd ?_));intro w4 he4;replace hm:=hm.drew.call he4
 rcases hfin with ⟨i',e1,hi⟩|⟨e1,hno⟩
 case inr=>
  dsimp only at e1;subst e1;refine zu ?_;exact ⟨(by grind),hm.ext⟩
 injection e1 with e1 e2
 subst e1 e2;have hil:=(List.getElem?_eq_some_iff.1 hi).1;have hlen:=h.set.len;refine zu ?_;refine LoadV.of (hX.ext hm.ext).c (zw ?_);refine zcv (qog pb (encP T qs) i w4 (hX.ext hm.ext).pk Oo (hG.ext hm.ext).M (hG.ext hm.ext).T (hG.ext hm.ext).K) ?_;rintro r w5 ⟨rfl,he5⟩;replace hm:=hm.call he5;rw [h.pq hi];(conv=>whnf);refine znm hm fun ob w6 hm=>zw ?_;refine StoreA.all (vs:=qd q) hm (i:=0) rfl rfl (qaq q) fun w7 hm=>zu ?_;refine LoadA.mem (cs:=(qd q).toArray) hm (i:=0) rfl rfl (zu ?_);refine LoadA.mem (cs:=(qd q).toArray) hm (i:=2) rfl rfl (zu ?_);refine RunV.eqQd (a:=q) (b:=q) ?_;rw [show qcs q q=true from (qos).2 rfl];refine zu ?_;exact ⟨(by grind),hm.ext⟩
end Go.Proofs.YtccmcfpmknpccaaGreatDoor
