/- Lemmas and contracts of functions on the way to the law's card (part 8 of 9). -/
import Derived.Test.YtacnkdagblbgfaaGreatDoorMP7
import Derived.Lib.LaidTab
import Derived.Test.YtacnkdagblbgfaaGreatDoorRows
import Derived.Deep.DeepHandedRow
import Derived.ProofKit
import Derived.OpenShut
import Derived.LaidHandle
import Derived.Shelf.Vars
namespace Go.Proofs.YtacnkdagblbgfaaGreatDoor
set_option maxHeartbeats 8000000
open Go.RowKit V
set_option maxRecDepth 100000
theorem q8j {w:World} {base size n:Nat} {e:TypeId} {v:Value} {xs:List Value} (h:w.ownsRow 0 e size v n xs) (hk:∀ k∈rowF v,base≤k):w.ownsRow base e size v n xs:=by
 refine ⟨h.1,h.2.imp id ?_⟩;rintro ⟨g,cap,cur,rfl,_,h2⟩;exact ⟨g,cap,cur,rfl,hk g (List.mem_singleton.2 rfl),h2⟩
theorem qq0 {w:World} {base n c:Nat} {e:TypeId} {A:oA} {l:LB} (h:w.ownsRow base e 1 (.slice A n c) n (byV l)) (hn:l.length=n):SlAt encB 1 w A l:=qjo (f:=fun x:UInt8=>Value.int .u8 (x.toNat:Nat)) h hn
structure RowS (w0 w:World) (v:Value) (l:LB):Prop where
 sep:Sep w0 w [rowF v]
 row:w.ownsRow 0 5 1 v l.length (byV l)
section
variable {w0 w w':World} {v:Value} {l m:LB} {A B:oA} {c d:Nat}
theorem RowS.nil (he:Ext w0 w):RowS w0 w (.slice none 0 0) []:=⟨(Sep.of he).add (F:=rowF (.slice none 0 0)) (Ext.refl w) (fun k hk=>by cases hk),World.ownsRow_nil _ _ _ _⟩
theorem RowS.ext (h:RowS w0 w v l):Ext w0 w:=h.sep.ext
theorem RowS.call (h:RowS w0 w v l) (he:Ext w w'):RowS w0 w' v l:=⟨h.sep.call he,q9 h.row he⟩
theorem RowS.sl (h:RowS w0 w (.slice A l.length c) l):SlAt encB 1 w A l:=qq0 h.row rfl
theorem RowS.chg (h:RowS w0 w v l) {u:Value} (ho:w'.ownsRow 0 5 1 u m.length (byV m)) (hc:Chn (rowF v) w w') (hn:∀ k∈rowF u,(k∈rowF v∨w.heap.size≤k)∧k<w'.heap.size):RowS w0 w' u m:=
 ⟨(h.sep.row (i:=0) (F':=rowF u) rfl hc hn).sep,ho⟩
theorem RowS.bys (h:RowS w0 w (.slice A l.length c) l) (hS:SlAt encB 1 w B m) (hlen:l.length+m.length≤8000000000000) {K:Value→World→Prop}
  (hk:∀ A' c' w',RowS w0 w' (.slice A' (l++m).length c') (l++m)→K (.slice A' (l++m).length c') w'):AppV Tryz.prog #[60,60] 60 (.slice A l.length c) (.slice B m.length d) w K:=by
 refine AppV.bys qbf bytI bytZ Ok rfl (by decide +kernel) h.row hS hlen ?_;intro A' c' w' ho hc hn;have e:l.length+m.length=(l++m).length:=zla.symm;rw [e] at ho hn ⊢;exact hk A' c' w' (h.chg ho hc hn)
theorem RowS.one (h:RowS w0 w (.slice A l.length c) l) {nb x:Nat} (hx:x<256) (hb:w.heap[nb]?=some (.cells #[.int .u8 (x:Nat)] 5)) (hlen:l.length+1≤8000000000000) {K:Value→World→Prop}
  (hk:∀ A' c' w',RowS w0 w' (.slice A' (l++[UInt8.ofNat x]).length c') (l++[UInt8.ofNat x])→K (.slice A' (l++[UInt8.ofNat x]).length c') w'):AppV Tryz.prog #[60,60] 60 (.slice A l.length c) (.slice (some ⟨nb,0,none⟩) 1 1) w K:=by
 refine AppV.cell qbf bytI bytZ Ok rfl (by decide +kernel) h.row hb rfl hlen ?_;intro A' c' w' ho hc hn;have e:l.length+1=(l++[UInt8.ofNat x]).length:=by simp
 have e2:byV l++[.int .u8 (x:Nat)]=byV (l++[UInt8.ofNat x]):=by rw [byV,byV,List.map_append,List.map_cons,List.map_nil,qak hx]
 rw [e2,e] at ho;rw [e] at hn ⊢;exact hk A' c' w' (h.chg ho hc hn)
theorem q6g {base n:Nat} {e:TypeId} {xs:List Value} (h:w.ownsRow base e 1 (.slice A n c) n xs):n≤c:=by
 rcases h.2 with ⟨e1,e2⟩|⟨g,cap,cur,e1,_,_,h2,_⟩
 ·omega
 ·cases e1;exact h2
theorem RowS.new (h:RowS w0 w (.slice A l.length c) l):NewS 5 w0 w (.slice A l.length c) l:=
 NewS.of h.ext (q8j h.row fun k hk=>(h.sep.at_ (i:=0) rfl k hk).1) c (q6g h.row) znr
end
structure PuI (w3:World) (v8:Value) (y:LB) (s10 s11:Bool) (v10 v11:Value) (w:World):Prop where
 h:(s10=false∧Ext w3 w)∨(s10=true∧RowC 5 w3 w v8 v10 y)
 k:s11=true→s10=true∧v11=v10
section
variable {w0 w3 w w':World} {v8:Value} {y:LB} {s10 s11:Bool} {v10 v11:Value}
theorem PuI.start (h:Ext w3 w):PuI w3 v8 y false false v10 v11 w:=⟨.inl ⟨rfl,h⟩,fun h=>(by cases h)⟩
theorem PuI.ext (h:PuI w3 v8 y s10 s11 v10 v11 w) (h0:Ext w0 w3) (hl:∀ k∈rowF v8,w0.heap.size≤k):Ext w0 w:=by
 rcases h.h with ⟨_,he⟩|⟨_,hR⟩
 ·exact h0.trans he
 ·exact hR.chg.ext h0 hl
theorem PuI.before (h:PuI w3 v8 y false s11 v10 v11 w):Ext w3 w:=by
 rcases h.h with ⟨_,he⟩|⟨e,_⟩
 ·exact he
 ·cases e
theorem PuI.put (h:PuI w3 v8 y false s11 v10 v11 w) {v:Value} (hR:RowC 5 w3 w' v8 v y):PuI w3 v8 y true s11 v v11 w':=
 ⟨.inr ⟨rfl,hR⟩,fun e=>absurd (h.k e).1 Od⟩
theorem PuI.keep (h:PuI w3 v8 y true false v10 v11 w):PuI w3 v8 y true true v10 v10 w:=⟨h.h,fun _=>⟨rfl,rfl⟩⟩
theorem PuI.val (h:PuI w3 v8 y true s11 v10 v11 w):∃ A c,v10=.slice A y.length c:=by
 rcases h.h with ⟨e,_⟩|⟨_,hR⟩
 ·cases e
 ·exact hR.own
theorem PuI.done (h:PuI w3 v8 y true true v10 v11 w):v11=v10∧RowC 5 w3 w v8 v10 y:=by
 rcases h.h with ⟨e,_⟩|⟨_,hR⟩
 ·cases e
 ·exact ⟨(h.k rfl).2,hR⟩
end
structure DcS (L:List LB) (w0 w:World) (i:Nat) (v u:Value):Prop where
 sep:Sep w0 w [rowF v,rowF u]
 area:w.ownsRow 0 5 1 v (arL L i).length (byV (arL L i))
 plc:w.ownsRow 0 125 1 u (upN i 16) (u64V (plcN L i))
 len:(plcN L i).length=upN i 16
theorem qq8 (L:List ByteArray) (A:oA) (n c:Nat) (w:World) (hS:SlAt zeS 1 w A L) (hn:L.length=n) (hb:n≤140737488355328) :
  Gv Tryz.prog 74 [.slice A n c,ii 1099511627776] w fun r w'=>DBuR (txs L) w w' r:=by
 refine ze Tryz.func74 Tryz.ntmps74 ?_;refine zC (fun _=>zw ?_) (fun _=>zw ?_)
 ·have e:dicE (txs L)=2:=qxq (by rw [qbr];omega);exact .inl ⟨by rw [e];decide,by rw [e];rfl,Ext.refl w⟩
 have hlong:¬ 4194304<(txs L).length:=by rw [qbr];omega
 refine qe (fun i:Nat=>[(0,.slice A n c),(1,ii 1099511627776),(6,ii i)]) (fun i w1=>i≤n∧(∀ j,j<i→¬ 262144<(tx (txs L) j).length)∧w1=w) (fun i=>n-i) 0 ⟨rfl,rfl,rfl,trivial⟩ ⟨Nat.zero_le _,fun j h=>absurd h (Nat.not_lt_zero _),rfl⟩ ?_;rintro i w1 ρ' ⟨i1,i2,rfl⟩;(conv=>whnf);refine zC (fun _=>zw ?_) (fun _=>zw ?_)
 ·have hi:i<L.length:=by omega
  have hx:=qd6 hi;refine ElemV.sl hS hn i rfl Oo ?_;intro eb eo hcell;(conv=>whnf);refine LoadV.cell0 hcell (zw ?_);refine zC (fun _=>zu ?_) (fun _=>zu ?_)
  ·have e:dicE (txs L)=2:=qxs (i:=i) Oo;exact .inl ⟨by rw [e];decide,by rw [e];rfl,xr⟩
  ·refine ⟨i+1,⟨rfl,rfl,congrArg (Value.int .i64) Oo,trivial⟩,⟨by omega,fun j hj=>?_,rfl⟩,by omega⟩
   by_cases e:j=i
   ·subst e;omega
   ·exact i2 j Oo
 obtain rfl:i=n:=by omega
 have hsh:∀ j,¬ 262144<(tx (txs L) j).length:=fun j=>by
  by_cases hj:j<i
  ·exact i2 j hj
  ·rw [q0v Oo];decide
 refine qe (fun k:Nat=>[(0,.slice A i c),(1,ii 1099511627776),(7,ii (k+1:Nat))]) (fun k w2=>(∀ j,j<k→j+1<L.length→leL (tx (txs L) (j+1)) (tx (txs L) j)=false)∧Ext w1 w2) (fun k=>i-k) 0 ⟨rfl,rfl,rfl,trivial⟩ ⟨fun j h=>by omega,Ext.refl w1⟩ ?_;rintro k w2 ρ2 ⟨k1,he2⟩;(conv=>whnf);refine zC (fun _=>zw ?_) (fun _=>zw ?_)
 ·have hk:k+1<L.length:=by omega
  obtain ⟨b,off,rfl,hat⟩:=(hS.ext he2).at_ (by intro e;rw [e] at hk;cases hk);have hca:=(hat k _ (zge Oo)).ext (Ext.refl w2).drew;have hcb:=(hat (k+1) _ (zge hk)).ext (Ext.refl w2).drew;refine zy ?_;refine zv ?_;refine ⟨⟨b,off,k,rfl,by omega,by omega,?_⟩⟩;refine zu ?_;refine LoadV.cell0 hca (zu ?_);refine ⟨⟨b,off,k+1,rfl,by omega,by omega,?_⟩⟩;refine zu ?_;refine LoadV.cell0 hcb (zu ?_);have he3:=he2.drew;have hle:=qyy hk (show k<L.length by omega);refine Tst.both (fun hlt=>?_) fun hlt=>?_
  ·refine zu ?_;refine ⟨k+1,⟨rfl,rfl,congrArg (Value.int .i64) Oo,trivial⟩,⟨fun j hj hjl=>?_,he3⟩,by omega⟩
   by_cases e:j=k
   ·subst e;rw [hle,← Bool.not_eq_true];exact fun g=>by rw [quf.2 g] at hlt;cases hlt
   ·exact k1 j Oo hjl
  ·(conv=>whnf);have e:dicE (txs L)=160:=qxr hlong hsh (i:=k) (by rw [qbr];exact hk) (by rw [hle];exact quf.1 hlt);exact .inl ⟨by rw [e];decide,by rw [e];rfl,he3⟩
 have hE:chkD (txs L)=0:=qxk hlong hsh (fun j hj=>by rw [qbr] at hj;exact k1 j Oo hj);have hLn:i≤4194304:=by rw [qbr] at hlong;omega
 clear k1 hlong hsh i2;refine qe (fun x:Nat × oA × Nat × oA × Nat=>[(0,.slice A i c),(1,ii 1099511627776),(8,.slice x.2.1 (arL (txs L) x.1).length x.2.2.1),(9,.slice x.2.2.2.1 (upN x.1 16) x.2.2.2.2),(10,ii x.1)])
  (fun x w'=>x.1≤i∧DcS (txs L) w1 w' x.1 (.slice x.2.1 (arL (txs L) x.1).length x.2.2.1) (.slice x.2.2.2.1 (upN x.1 16) x.2.2.2.2)) (fun x=>i-x.1) (0,none,0,none,0) ⟨rfl,rfl,rfl,rfl,rfl,trivial⟩ ⟨Nat.zero_le _,⟨((Sep.of he2).add (F:=rowF (.slice none 0 0)) (Ext.refl w2) (fun k hk=>by cases hk)).add (F:=rowF (.slice none 0 0)) (Ext.refl w2) (fun k hk=>by cases hk),World.ownsRow_nil _ _ _ _,World.ownsRow_nil _ _ _ _,rfl⟩⟩ ?_
 rintro ⟨j,B,cB,P,cP⟩ w3 ρ3 ⟨j1,hD⟩;dsimp only at j1 hD ⊢;have hal:=qi0 (L:=txs L) hE (i:=j) (by rw [qbr];omega);have hup:upN j 16≤262144:=by unfold upN;omega
 (conv=>whnf)
 (repeat' (first|refine zp ?_|refine zC (fun _=>zw ?_) (fun _=>zw ?_)))
 ·have hj:j<L.length:=by omega
  have hsz:=qp0 hE hj;have hx:=qic hj;have hlx:(tx (txs L) j).length=L[j].size:=qd6 hj;have hj16:j%16=0:=by omega
  refine ⟨fun nb w4 hnb hw=>?_⟩;have he4:Ext w3 w4:=by rw [hw];exact (Ext.refl w3).alloc _
  have hc4:w4.heap[nb]?=some (.cells #[.int .u64 (arL (txs L) j).length] 125):=by rw [hw,hnb];exact heap_alloc_new w3 _
  have hSp:=hD.sep.call he4;have hA4:=q9 hD.area he4;have hP4:=q9 hD.plc he4;have hpl:=hD.len;clear hnb hw;(conv=>whnf);refine AppV.cell q0w u64I u64Z Ok rfl (by decide +kernel) hP4 hc4 rfl Oo ?_;intro P5 cP5 w5 hP5 hch hnew;obtain ⟨hSp,_,hkp⟩:=hSp.row (i:=1) (F':=rowF (.slice P5 (upN j 16+1) cP5)) rfl hch hnew;have hA5:=qo hA4 (hkp 0 _ rfl Od);(conv=>whnf);obtain ⟨eb,eo,rfl,hat⟩:=hS.at_ (by intro e;rw [e] at hj;cases hj);have hcell:=hat j _ (zge hj);rw [Nat.mul_one] at hcell;have hlo8:=hSp.at_ (i:=0) rfl;have hlo8:∀ k∈rowF (.slice B (arL (txs L) j).length cB),w1.heap.size≤k:=fun k hk=>(hlo8 k hk).1
  have har:arL (txs L) (j+1)=arL (txs L) j++(varL L[j].size++L[j].data.toList):=by rw [qw5 _ hj16,hlx,hx]
  refine DrawV.genW (fun S vals w'=>PuI w5 (.slice B (arL (txs L) j).length cB) (arL (txs L) (j+1)) (S 10) (S 11) (vals 10) (vals 11) w') rfl Ok (fun vals=>PuI.start (Ext.refl w5).drew) (zw ?_);(iterate 3 (refine zg ?_));refine StepG.of (.pointer (some ⟨eb,eo+j,none⟩)) (fun S vals wd hk hp hI=>zw ?_) (zw ?_)
  ·refine ⟨⟨eb,eo,j,rfl,by omega,by omega,?_⟩⟩;rw [show tsz Tryz.prog 9=1 from by kernel_rfl,Nat.mul_one];(conv=>whnf);exact ⟨rfl,hI⟩
  refine StepG.of (.string L[j]) (fun S vals wd hk hp hI=>zw ?_) (zw ?_)
  ·refine LoadV.cell0 (CellsAt.ext hcell (hI.ext hSp.ext hlo8)) (zw ?_);exact ⟨rfl,hI⟩
  (iterate 3 (refine zg ?_));refine StepG.of (.pointer (some ⟨eb,eo+j,none⟩)) (fun S vals wd hk hp hI=>zw ?_) (zw ?_)
  ·refine ⟨⟨eb,eo,j,rfl,by omega,by omega,?_⟩⟩;rw [show tsz Tryz.prog 9=1 from by kernel_rfl,Nat.mul_one];(conv=>whnf);exact ⟨rfl,hI⟩
  refine StepG.of (.string L[j]) (fun S vals wd hk hp hI=>zw ?_) (zw ?_)
  ·refine LoadV.cell0 (CellsAt.ext hcell (hI.ext hSp.ext hlo8)) (zw ?_);exact ⟨rfl,hI⟩
  refine StepG.any (fun S vals wd hk hp hI=>?_) (zw ?_)
  ·dsimp only at hI;rw [hk] at hI;(conv=>whnf);refine zcv (qm6 _ (arL (txs L) j) L[j].size L[j] wd (q9 hA5 hI.before) Oo Oo) ?_;rintro r wx hR;rw [← har] at hR;exact ⟨trivial,hI.put (hR.back hI.before)⟩
  refine StepG.any (fun S vals wd hk hp hI=>?_) (zw ?_)
  ·dsimp only at hI;have h10:S 10=true:=hp 10 Od;rw [hk,h10] at hI;obtain ⟨Ax,cx,hv⟩:=hI.val;rw [hv] at hI;rw [ql hv];(conv=>whnf);refine ⟨trivial,?_⟩;show PuI _ _ _ (S 10) true _ _ _;rw [h10];exact hI.keep
  intro vals w6 hI;obtain ⟨e11,hR⟩:=hI.done;obtain ⟨B6,cB6,hv⟩:=hR.own;rw [ql (e11.trans hv)];rw [hv] at hR;clear hI;obtain ⟨hSp,_,hkp⟩:=hSp.row (i:=0) (F':=rowF (.slice B6 (arL (txs L) (j+1)).length cB6)) rfl hR.chg hR.new;have hP6:=qo hP5 (hkp 1 _ rfl Od);have hup1:upN (j+1) 16=upN j 16+1:=by unfold upN;omega
  refine zu ?_;refine ⟨(j+1,B6,cB6,P5,cP5),⟨rfl,rfl,rfl,by show Value.slice _ _ _=_;rw [hup1],congrArg (Value.int .i64) Oo,trivial⟩,⟨by show j+1≤i;omega,?_⟩,by show i-(j+1)<i-j;omega⟩;show DcS (txs L) w1 w6 (j+1) (.slice B6 (arL (txs L) (j+1)).length cB6) (.slice P5 (upN (j+1) 16) cP5);rw [hup1];refine ⟨hSp,hR.row,?_,?_⟩
  ·rw [hup1,qm5 _ hj16,u64V,List.map_append];exact hP6
  ·rw [hup1,qm5 _ hj16,zla,hpl];rfl
 ·have hj:j<L.length:=by omega
  have hj16:j%16≠0:=by omega
  have hj0:j≠0:=fun e=>hj16 (by rw [e])
  have hsz:=qp0 hE hj;have hsz1:=qp0 hE (i:=j-1) Oo;have hx:=qic hj;have hx1:=qic (L:=L) (i:=j-1) Oo;have hlx:(tx (txs L) j).length=L[j].size:=qd6 hj;have hcm:=qhb (tx (txs L) (j-1)) (tx (txs L) j);rw [hlx] at hcm;obtain ⟨eb,eo,rfl,hat⟩:=hS.at_ (by intro e;rw [e] at hj;cases hj);have hcell:=hat j _ (zge hj);have hcell1:=hat (j-1) _ (zge (show j-1<L.length by omega));have hw3:Ext w1 w3.drew:=hD.sep.ext.drew;refine DrawV.free rfl Ok (zw ?_);(iterate 3 (refine zd ?_));apply zsd
  ·intro wd hd;(conv=>whnf);refine ⟨⟨eb,eo,j-1,rfl,by omega,by omega,?_⟩⟩;exact ⟨xr,rfl⟩
  (conv=>whnf);apply zsd
  ·intro wd hd;(conv=>whnf);refine LoadV.cell0 (CellsAt.ext hcell1 (hw3.trans hd)) (zw ?_);exact ⟨xr,rfl⟩
  (conv=>whnf);refine zd ?_;refine zd ?_;apply zsd
  ·intro wd hd;(conv=>whnf);refine ⟨⟨eb,eo,j,rfl,by omega,by omega,?_⟩⟩;exact ⟨xr,rfl⟩
  (conv=>whnf);apply zsd
  ·intro wd hd;(conv=>whnf);refine LoadV.cell0 (CellsAt.ext hcell (hw3.trans hd)) (zw ?_);exact ⟨xr,rfl⟩
  (conv=>whnf);apply zsd
  ·intro wd hd;(conv=>whnf);refine zcv (qu9 (L[j-1]' Oo) L[j] wd Oo) ?_;rintro r wx ⟨rfl,hex⟩;exact ⟨hex,rfl⟩
  (conv=>whnf);refine zd ?_;intro w4 he4;have he4:Ext w3 w4:=(Ext.refl w3).drew.trans he4;conv=>whnf
  (repeat (intro _ _;(conv=>whnf)))
  rw [← hx1,← hx];obtain ⟨cm,ecm⟩:∃ cm,cm=comL (tx (txs L) (j-1)) (tx (txs L) j):=⟨_,rfl⟩
  rw [← ecm] at hcm ⊢;have hSp:=hD.sep.call he4;have hA4:=q9 hD.area he4;have hP4:=q9 hD.plc he4;have hpl:=hD.len;have hlv1:=qac 9 cm Oo;have hlv2:=qac 9 (L[j].size-cm) Oo;clear hD;refine zv ?_;refine zcv (qd5 cm w4 Oo) ?_;rintro r w5 ⟨⟨Bv,dv,rfl,hdv,hVS⟩,he5⟩;have hSp:=hSp.call he5;have hA5:=q9 hA4 he5;have hP5:=q9 hP4 he5;(conv=>whnf);refine AppV.bys qbf bytI bytZ Ok rfl (by decide +kernel) hA5 hVS Oo ?_;intro B6 cB6 w6 hA6 hch hnew;obtain ⟨hSp,_,hkp⟩:=hSp.row (i:=0) (F':=rowF (.slice B6 ((arL (txs L) j).length+(varL cm).length) cB6)) rfl hch hnew;have hP6:=qo hP5 (hkp 1 _ rfl Od);obtain ⟨Y,eY⟩:∃ Y,Y=arL (txs L) j++varL cm:=⟨_,rfl⟩
  have hYl:(arL (txs L) j).length+(varL cm).length=Y.length:=by rw [eY,zla]
  rw [← eY,hYl] at hA6;rw [hYl] at hSp ⊢;clear hch hnew hA4 hA5 hP4 hP5 hVS hkp;(conv=>whnf);have hlo8:=hSp.at_ (i:=0) rfl;have hlo8:∀ k∈rowF (.slice B6 Y.length cB6),w1.heap.size≤k:=fun k hk=>(hlo8 k hk).1
  obtain ⟨sx,esx⟩:∃ sx,sx=L[j].extract cm L[j].size:=⟨_,rfl⟩
  have hsx:sx.data.toList=(tx (txs L) j).drop cm:=by rw [esx,qau,hx];exact List.take_of_length_le (by rw [zld];exact Nat.le_refl _)
  have hsl:sx.data.toList.length=L[j].size-cm:=by rw [hsx,zld,hlx]
  have har:arL (txs L) (j+1)=Y++(varL (L[j].size-cm)++sx.data.toList):=by rw [qsm _ hj16,hlx,← ecm,hsx,eY];simp only [List.append_assoc]
  have hw6:Ext w1 w6:=hSp.ext;refine DrawV.genW (fun S vals w'=>PuI w6 (.slice B6 Y.length cB6) (arL (txs L) (j+1)) (S 14) (S 15) (vals 14) (vals 15) w') rfl Ok (fun vals=>PuI.start (Ext.refl w6).drew) (zw ?_);(iterate 3 (refine zg ?_));refine StepG.of (.pointer (some ⟨eb,eo+j,none⟩)) (fun S vals wd hk hp hI=>zw ?_) (zw ?_)
  ·refine ⟨⟨eb,eo,j,rfl,by omega,by omega,?_⟩⟩;rw [show tsz Tryz.prog 9=1 from by kernel_rfl,Nat.mul_one];(conv=>whnf);exact ⟨rfl,hI⟩
  refine StepG.of (.string L[j]) (fun S vals wd hk hp hI=>zw ?_) (zw ?_)
  ·refine LoadV.cell0 (CellsAt.ext (by rw [Nat.mul_one] at hcell;exact hcell) (hI.ext hw6 hlo8)) (zw ?_);exact ⟨rfl,hI⟩
  refine zg ?_;refine zg ?_;refine StepG.of (ii ((L[j].size-cm:Nat):Int)) (fun S vals wd hk hp hI=>?_) (zw ?_)
  ·refine zu ?_;exact ⟨congrArg (Value.int .i64) Oo,hI⟩
  refine zg ?_;refine zg ?_;refine StepG.of (.pointer (some ⟨eb,eo+j,none⟩)) (fun S vals wd hk hp hI=>zw ?_) (zw ?_)
  ·refine ⟨⟨eb,eo,j,rfl,by omega,by omega,?_⟩⟩;rw [show tsz Tryz.prog 9=1 from by kernel_rfl,Nat.mul_one];(conv=>whnf);exact ⟨rfl,hI⟩
  refine StepG.of (.string L[j]) (fun S vals wd hk hp hI=>zw ?_) (zw ?_)
  ·refine LoadV.cell0 (CellsAt.ext (by rw [Nat.mul_one] at hcell;exact hcell) (hI.ext hw6 hlo8)) (zw ?_);exact ⟨rfl,hI⟩
  refine zg ?_;refine StepG.of (.string sx) (fun S vals wd hk hp hI=>zw ?_) (zw ?_)
  ·refine ⟨cm,L[j].size,rfl,rfl,by omega,Nat.le_refl _,?_⟩;rw [← esx];(conv=>whnf);exact ⟨rfl,hI⟩
  refine StepG.any (fun S vals wd hk hp hI=>?_) (zw ?_)
  ·dsimp only at hI;rw [hk] at hI;(conv=>whnf);refine zcv (qm6 _ Y (L[j].size-cm) sx wd (q9 hA6 hI.before) Oo (by rw [eY,zla];show _+sx.data.toList.length+16≤_;omega)) ?_;rintro r wx hR;rw [← har] at hR;exact ⟨trivial,hI.put (hR.back hI.before)⟩
  refine StepG.any (fun S vals wd hk hp hI=>?_) (zw ?_)
  ·dsimp only at hI;have h14:S 14=true:=hp 14 Od;rw [hk,h14] at hI;obtain ⟨Ax,cx,hv⟩:=hI.val;rw [hv] at hI;rw [ql hv];(conv=>whnf);refine ⟨trivial,?_⟩;show PuI _ _ _ (S 14) true _ _ _;rw [h14];exact hI.keep
  intro vals w7 hI;obtain ⟨e15,hR⟩:=hI.done;obtain ⟨B7,cB7,hv⟩:=hR.own;rw [ql (e15.trans hv)];rw [hv] at hR;clear hI;obtain ⟨hSp,_,hkp⟩:=hSp.row (i:=0) (F':=rowF (.slice B7 (arL (txs L) (j+1)).length cB7)) rfl hR.chg hR.new;have hP7:=qo hP6 (hkp 1 _ rfl Od);have hup1:upN (j+1) 16=upN j 16:=by unfold upN;omega
  refine zu ?_;refine ⟨(j+1,B7,cB7,P,cP),⟨rfl,rfl,rfl,by show Value.slice _ _ _=_;rw [hup1],congrArg (Value.int .i64) Oo,trivial⟩,⟨by show j+1≤i;omega,?_⟩,by show i-(j+1)<i-j;omega⟩;show DcS (txs L) w1 w7 (j+1) (.slice B7 (arL (txs L) (j+1)).length cB7) (.slice P (upN (j+1) 16) cP);rw [hup1];refine ⟨hSp,hR.row,?_,?_⟩
  ·rw [hup1,qjs _ hj16];exact hP7
  ·rw [hup1,qjs _ hj16,hpl]
 ·obtain rfl:j=i:=by omega
  have hSp:=hD.sep;have hA:=hD.area;have hP:=hD.plc;have hpl:=hD.len;have hLl:(txs L).length=j:=by rw [qbr,hn]
  have hAr:arL (txs L) j=qr (txs L):=by rw [qr,hLl]
  have hPl:plcN (txs L) j=plcL (txs L):=by rw [← hLl];rfl
  rw [hAr] at hSp hA hal ⊢;rw [hPl] at hP hpl;clear hD;have hw64:=qir (n:=(qr (txs L)).length) Oo;have hwd:qp (qr (txs L)).length≤64:=qcl 64 _ Oo Od;refine zcv (qhv (qr (txs L)).length w3 Oo) ?_;rintro r w4 ⟨rfl,rfl⟩;have hplt:∀ x∈plcL (txs L),x<2 ^ qp (qr (txs L)).length:=fun x hx=>by
   rw [plcL,List.mem_map] at hx;obtain ⟨k,hk,rfl⟩:=hx;rw [List.mem_range,hLl] at hk;refine Nat.lt_of_le_of_lt ?_ hw64;rw [← hAr];exact qim _ (by unfold upN at hk;omega)
  (conv=>whnf);refine zcv (qpk (plcL (txs L)) (qp (qr (txs L)).length) P (upN j 16) cP w4 (qjp hP hpl) hpl Oo (Nat.le_trans (Nat.mul_le_mul hup hwd) Od) hplt hwd) ?_;rintro r w5 ⟨vp,rfl,hNp⟩;obtain ⟨Ap,cp,ep,_,hAp⟩:=hNp.bs;subst ep;have hAs:SlAt encB 1 w5 B (qr (txs L)):=(qq0 hA rfl).ext hNp.ext;have he5:Ext w1 w5:=hSp.ext.trans hNp.ext;have hpkl:=qbl (plcL (txs L)) (qp (qr (txs L)).length);have hpk:(plcL (txs L)).length*qp (qr (txs L)).length≤262144*64:=Nat.mul_le_mul Oo hwd;have eD:varL j++varL (qr (txs L)).length++qcs (plcL (txs L)) (qp (qr (txs L)).length)++qr (txs L)=qh (txs L):=by rw [qh,hLl];simp only [List.append_assoc]
  obtain ⟨pk,epk⟩:∃ pk,pk=qcs (plcL (txs L)) (qp (qr (txs L)).length):=⟨_,rfl⟩
  obtain ⟨pr,epr⟩:∃ pr,pr=(plcL (txs L)).length*qp (qr (txs L)).length:=⟨_,rfl⟩
  rw [← epk] at hAp hpkl eD ⊢;rw [← epr] at hpkl hpk;have hlv1:=qac 9 j Oo;have hlv2:=qac 9 (qr (txs L)).length Oo;clear hNp hP hA hSp;have hO:RowS w5 w5 (.slice none 0 0) []:=RowS.nil (Ext.refl w5);have e0:∀ a:LB,a++(⟨#[]⟩:ByteArray).data.toList=a:=fun a=>List.append_nil a
  (conv=>whnf);refine zcv (qm6 _ [] j ⟨#[]⟩ w5 hO.row Oo Od) ?_;rintro r w6 hR;rw [e0,List.nil_append] at hR;obtain ⟨A6,c6,rfl⟩:=hR.own;have hO:=hO.chg hR.row hR.chg hR.new;clear hR;(conv=>whnf);refine zcv (qm6 _ (varL j) (qr (txs L)).length ⟨#[]⟩ w6 hO.row Oo (by show (varL j).length+0+16≤_;omega)) ?_;rintro r w7 hR;rw [e0] at hR;obtain ⟨A7,c7,rfl⟩:=hR.own;have hO:=hO.chg hR.row hR.chg hR.new;clear hR;have hl7:(varL j++varL (qr (txs L)).length).length≤20:=by rw [zla];omega
  (conv=>whnf);refine hO.bys (hAp.ext hO.ext) Oo ?_;clear hO;intro A8 c8 w8 hO;have hl8:(varL j++varL (qr (txs L)).length++pk).length≤20+pk.length:=by rw [zla];omega
  (conv=>whnf);refine hO.bys (hAs.ext hO.ext) Oo ?_;clear hO;intro A9 c9 w9 hO;rw [eD] at hO ⊢;have hl9:(qh (txs L)).length≤20+pk.length+(qr (txs L)).length:=by rw [← eD,zla];omega
  (conv=>whnf);refine zC (fun _=>zu ?_) (fun _=>zu ?_)
  ·have hle:67108864<(qr (txs L)).length:=by omega
   exact .inl ⟨by rw [qf6 hE hle];decide,by rw [qf6 hE hle];rfl,he5.trans hO.ext⟩
  ·exact .inr ⟨qs1 hE Oo,_,rfl,hO.new.back he5⟩
def vocY (T:List TM):Nat→LB
 | 0=>[]
 | k+1=>vocY T k++qh (secE T k)
theorem q7f (T:List TM):vocW T 3++vocY T 3=vocB T:=by
 rw [q05];simp only [vocY,List.nil_append,List.append_assoc]
theorem qr6 {T:List TM}:∀ {i:Nat},i≤3→(∀ j,j<i→dicE (secE T j)=0)→(vocY T i).length≤70000000*i
 | 0,_,_=>Nat.le_refl _
 | i+1,h,hd=>by
  have h1:=qr6 (T:=T) (i:=i) Oo fun j hj=>hd j Oo
  have h2:=qe3 (hd i Oo);rw [vocY,zla];omega
structure RvS (T:List TM) (w0 w:World) (i:Nat) (u v:Value):Prop where
 sep:Sep w0 w [rowF u,rowF v]
 hd:w.ownsRow 0 5 1 u (vocW T i).length (byV (vocW T i))
 bd:w.ownsRow 0 5 1 v (vocY T i).length (byV (vocY T i))
def RVuR (qs:List Q4) (w w':World) (r:Value):Prop:=
 (∃ e:Nat,e≠0∧e=(if valE qs≠0 then valE qs else qcy (tmsQ qs))∧r=.tuple #[.slice none 0 0,ii e]∧Ext w w')∨
 (valE qs=0∧qcy (tmsQ qs)=0∧∃ v,r=.tuple #[v,ii 0]∧NewS 5 w w' v (vocB (tmsQ qs)))
theorem qrk (qs:List Q4) (A:oA) (n c:Nat) (w:World) (hS:SlAt q7 16 w A qs) (hn:qs.length=n) (hb:n≤140737488355328) (hq:∀ q∈qs,qci q) :
  Gv Tryz.prog 47 [.slice A n c,ii 1099511627776] w fun r w'=>RVuR qs w w' r:=by
 subst hn;have t1:tsz Tryz.prog 3=1:=by kernel_rfl
 refine ze Tryz.func47 Tryz.ntmps47 ?_;refine zcv (qrz qs A qs.length c w hS rfl hb hq) ?_;rintro r w1 ⟨⟨i0,rfl⟩,he1⟩
 by_cases hE:valE qs=0
 case neg=>
  have h0:¬ ((valE qs:Nat):Int)=0:=by omega
  refine zu ?_;exact .inl ⟨valE qs,hE,by rw [if_pos hE],rfl,he1⟩
 have hlq:=(qdm hE).1;have hNT:=qnr hE;have hTE:=fun t (ht:t∈tmsQ qs)=>qe0 hE ht
 have hTO:∀ t∈tmsQ qs,TermOk t:=fun t ht=>by
  obtain ⟨q,h1,h2⟩:=qgf.1 ht;exact qle (hq q h1) h2
 unfold RVuR;rw [if_neg (fun g=>g hE)];rw [hE];refine zu ?_;refine zcv (qib qs A c w1 (hS.ext he1) Oo) ?_;rintro r w2 ⟨⟨B,d,rfl,hd,hTS⟩,he2⟩;have hTS:SlAt encT 4 w2 B (tmsQ qs):=hTS;have hd:(tmsQ qs).length≤d:=hd;show _;generalize eT:tmsQ qs=T at *;have eT2:tmsN (trms qs).length (trms qs)=T:=eT;rw [eT2];(conv=>whnf);refine zcv (qqr w2) ?_;rintro r w3 ⟨rfl,he3⟩;(conv=>whnf);refine znm (Mem.nil w3) fun kb w4 hm=>zw ?_;refine StoreA.all (vs:=[ii 1,ii 2,ii 3]) hm (i:=0) rfl rfl (by simp [Value.oneCell']) ?_;intro w5 hm;have hkc:CellsAt w5 kb 0 [ii 1,ii 2,ii 3]:=CellsAt.mem hm mh;have he5:Ext w w5:=he1.trans (he2.trans (he3.trans hm.ext));have hTS:=hTS.ext (he3.trans hm.ext);clear hm;(conv=>whnf);refine qe (fun x:Nat × oA × Nat × oA × Nat=>[(1,ii 1099511627776),(8,.slice B T.length d),(9,.slice x.2.1 (vocW T x.1).length x.2.2.1),(10,.slice x.2.2.2.1 (vocY T x.1).length x.2.2.2.2),(11,pp kb),(12,ii x.1)])
  (fun x w'=>x.1≤3∧(∀ j,j<x.1→dicE (secE T j)=0)∧RvS T w5 w' x.1 (.slice x.2.1 (vocW T x.1).length x.2.2.1) (.slice x.2.2.2.1 (vocY T x.1).length x.2.2.2.2)) (fun x=>3-x.1) (0,none,0,none,0) ⟨rfl,rfl,rfl,rfl,rfl,rfl,trivial⟩
  ⟨Nat.zero_le _,fun j h=>absurd h (Nat.not_lt_zero _),((Sep.of (Ext.refl w5)).add (F:=rowF (.slice none 0 0)) (Ext.refl w5) (fun k hk=>by cases hk)).add (F:=rowF (.slice none 0 0)) (Ext.refl w5) (fun k hk=>by cases hk),World.ownsRow_nil _ _ _ _,World.ownsRow_nil _ _ _ _⟩ ?_
 rintro ⟨i,H,cH,Y,cY⟩ w6 ρ' ⟨i1,i2,hR⟩;dsimp only at i1 i2 hR ⊢;have hwl:=qh1 i1 i2;have hyl:=qr6 i1 i2;(conv=>whnf);refine zC (fun _=>zw ?_) (fun _=>zw ?_)
 ·have hi3:i<3:=by omega
  have hki:([ii 1,ii 2,ii 3]:List Value)[i]?=some (ii ((i+1:Nat):Int)):=by
   rcases (show i=0∨i=1∨i=2 by omega) with rfl|rfl|rfl<;>rfl
  refine qe (fun y:Nat × oA × Nat=>[(1,ii 1099511627776),(8,.slice B T.length d),(9,.slice H (vocW T i).length cH),(10,.slice Y (vocY T i).length cY),(11,pp kb),(12,ii i),(13,.slice y.2.1 (secA (T.take y.1) i).length y.2.2),(14,ii y.1)])
   (fun y w'=>y.1≤T.length∧Rw w6 w' (.slice y.2.1 (secA (T.take y.1) i).length y.2.2) 9 1 (secA (T.take y.1) i).length (strV (secA (T.take y.1) i)) []) (fun y=>T.length-y.1) (0,none,0) ⟨rfl,rfl,rfl,rfl,rfl,rfl,rfl,rfl,trivial⟩ ⟨Nat.zero_le _,Rw.nil (Mem.nil w6)⟩ ?_
  rintro ⟨j,E,cE⟩ w7 ρ2 ⟨j1,hR7⟩;dsimp only at j1 hR7 ⊢;have he7:Ext w5 w7:=hR.sep.ext.trans hR7.mem.ext;have hsl:=qnj (T.take j) i;rw [List.length_take] at hsl;(conv=>whnf);refine zC (fun _=>zw ?_) (fun _=>zw ?_)
  ·have hj:j<T.length:=by omega
   have htm:=List.getElem_mem hj;have etk:T.take (j+1)=T.take j++[T[j]]:=by rw [List.take_add_one,zge hj];rfl
   obtain ⟨tb,tof,eB,hat⟩:=(hTS.ext he7).at_ (by intro e;rw [e] at hj;cases hj);have hcell:=hat j _ (zge hj);have hkc7:=hkc.ext he7;obtain ⟨t,et⟩:∃ t,t=T[j]:=⟨_,rfl⟩
   rw [← et] at htm etk hcell;obtain ⟨tE,k1,k3⟩:=hTE t htm;subst eB;have he8:Ext w7 w7.drew:=(Ext.refl w7).drew;refine zy ?_;refine zv ?_;refine ⟨⟨tb,tof,j,rfl,by omega,by omega,?_⟩⟩;refine zu ?_;refine LoadV.cell0 (hcell.ext he8) (zu ?_);refine LoadV.of (by rw [t1,Nat.mul_one];exact (hkc7.ext he8) i _ hki) (zw ?_);have hcell:=hcell.ext he8;have hR7:=hR7.call he8;generalize w7.drew=w8 at *;refine zt ?_;refine zC (fun _=>zu ?_) (fun _=>zu ?_)
   ·have hk:t.kind=((i+1:Nat):Int):=by omega
    refine ⟨⟨tb,tof,j,rfl,by omega,by omega,?_⟩⟩;(conv=>whnf);refine LoadA.cells hcell rfl (zw ?_);refine zcv (qql t (hTO t htm) w8) ?_;rintro r w9 ⟨rfl,he9⟩;rw [if_pos tE];have hR7:=hR7.call he9;(conv=>whnf);refine NewV.rw hR7 fun nb w10 hR7=>zw ?_;refine AppV.one qrr strI strZ Ok rfl (by decide +kernel) hR7 rfl Oo ?_;clear hR7;intro E2 cE2 w11 hR7;refine zu ?_;have es:secA (T.take (j+1)) i=secA (T.take j) i++[entA t]:=by rw [etk,qub hk]
    have el:(secA (T.take (j+1)) i).length=(secA (T.take j) i).length+1:=by rw [es];simp
    refine ⟨(j+1,E2,cE2),⟨rfl,rfl,rfl,rfl,rfl,rfl,by show Value.slice _ _ _=_;rw [el],congrArg (Value.int .i64) Oo,trivial⟩,⟨by show j+1≤T.length;omega,?_⟩,by show T.length-(j+1)<T.length-j;omega⟩;show Rw w6 w11 (.slice E2 (secA (T.take (j+1)) i).length cE2) 9 1 _ _ _;rw [el,es,strV,List.map_append];exact hR7
   ·have hk:t.kind≠((i+1:Nat):Int):=by omega
    have es:secA (T.take (j+1)) i=secA (T.take j) i:=by rw [etk,qpn hk]
    refine ⟨(j+1,E,cE),⟨rfl,rfl,rfl,rfl,rfl,rfl,by show Value.slice _ _ _=_;rw [es],congrArg (Value.int .i64) Oo,trivial⟩,⟨by show j+1≤T.length;omega,?_⟩,by show T.length-(j+1)<T.length-j;omega⟩;show Rw w6 w8 (.slice E (secA (T.take (j+1)) i).length cE) 9 1 _ _ _;rw [es];exact hR7
  ·obtain rfl:j=T.length:=by omega
   rw [List.take_length] at hR7 hsl ⊢;have hEs:SlAt zeS 1 w7 E (secA T i):=qjo (f:=Value.string) hR7.own rfl;refine zcv (qq8 (secA T i) E (secA T i).length cE w7 hEs rfl Oo) ?_;rintro r w8 hDB;rw [quc] at hDB
   rcases hDB with ⟨h0,rfl,he8⟩|⟨h0,v,rfl,hN⟩
   ·have h1:¬ ((dicE (secE T i):Nat):Int)=0:=by omega
    refine zu ?_;exact .inl ⟨dicE (secE T i),h0,(qux hi3 i2 h0).symm,rfl,he5.trans (he7.trans he8)⟩
   ·have hlen:=qe3 h0;have he8:=hR7.mem.ext.trans hN.ext;have hSp:=(hR.sep.call hR7.mem.ext).add hN.ext hN.lo;obtain ⟨Av,cv,ev,hcv,hAv⟩:=id hN.bs;subst ev;have hlv:=qac 9 (qh (secE T i)).length Oo;refine zu ?_;refine zcv (qd5 (qh (secE T i)).length w8 Oo) ?_;rintro r w9 ⟨⟨Bv,dv,rfl,hdv,hVS⟩,he9⟩;have hSp:=hSp.call he9;have hd9:=q9 (q9 hR.hd he8) he9;have hb9:=q9 (q9 hR.bd he8) he9;have hAv:=hAv.ext he9;(conv=>whnf);refine AppV.bys qbf bytI bytZ Ok rfl (by decide +kernel) hd9 hVS Oo ?_;intro H2 cH2 w10 ho hc hn;have eW:(vocW T i).length+(varL (qh (secE T i)).length).length=(vocW T (i+1)).length:=by rw [vocW,zla]
    rw [eW] at ho hn ⊢;have hs:=hSp.row (i:=1) (F':=rowF (.slice H2 (vocW T (i+1)).length cH2)) rfl hc hn;have hb10:=qo hb9 (hs.keep 2 _ rfl Od);have hAv:=hAv.keep fun k hk=>hs.keep 0 _ rfl Od k (by rw [qd4 _ _ _ 0 0];exact hk)
    have hSp:=hs.sep;clear hc hn hd9 hb9 hVS hs;(conv=>whnf);refine AppV.bys qbf bytI bytZ Ok rfl (by decide +kernel) hb10 hAv Oo ?_;intro Y2 cY2 w11 ho2 hc2 hn2;have eY:(vocY T i).length+(qh (secE T i)).length=(vocY T (i+1)).length:=by rw [vocY,zla]
    rw [eY] at ho2 hn2 ⊢;have hs2:=hSp.row (i:=2) (F':=rowF (.slice Y2 (vocY T (i+1)).length cY2)) rfl hc2 hn2;have ho11:=qo ho (hs2.keep 1 _ rfl Od);refine zu ?_;refine ⟨(i+1,H2,cH2,Y2,cY2),⟨rfl,rfl,rfl,rfl,rfl,congrArg (Value.int .i64) Oo,trivial⟩,⟨by show i+1≤3;omega,fun j hj=>?_,hs2.sep.drop 1,ho11,ho2⟩,by show 3-(i+1)<3-i;omega⟩
    by_cases e:j=i
    ·subst e;exact h0
    ·exact i2 j (by have:j<i+1:=hj;omega)
 ·obtain rfl:i=3:=by omega
  have hYs:SlAt encB 1 w6 Y (vocY T 3):=qq0 hR.bd rfl;refine AppV.bys qbf bytI bytZ Ok rfl (by decide +kernel) hR.hd hYs Oo ?_;intro Z cZ w7 ho hc hn;have eL:(vocW T 3).length+(vocY T 3).length=(vocB T).length:=by rw [← q7f,zla]
  rw [q7f] at ho;rw [eL] at ho hn ⊢;have hs:=hR.sep.row (i:=0) (F':=rowF (.slice Z (vocB T).length cZ)) rfl hc hn;have hO:RowS w5 w7 (.slice Z (vocB T).length cZ) (vocB T):=⟨(hs.sep.perm (List.Perm.swap _ _ _)).drop 1,ho⟩
  refine zu ?_;exact .inr ⟨rfl,quy i2,_,rfl,hO.new.back he5⟩
theorem qrf (Q:Nat→Nat→Nat) (n:Nat) (hQ:TOk Q n) {i:Nat} (hi:i<n) (w:World):Gv Tryz.prog 77 [idsW (Q i)] w fun r w'=>r=.bool true∧Ext w w':=by
 have t1:tsz Tryz.prog 3=1:=by kernel_rfl
 refine ze Tryz.func77 Tryz.ntmps77 ?_;refine znm (Mem.nil w) ?_;intro b w1 hm;have hc:CellsAt w1 b 0 (idsE (Q i)):=CellsAt.mem hm mh;(conv=>whnf);refine qe (fun k:Nat=>[(1,pp b),(3,ii k)]) (fun k w'=>k≤4∧w'=w1) (fun k=>4-k) 0 ⟨rfl,rfl,trivial⟩ ⟨Nat.zero_le _,rfl⟩ ?_;rintro k w2 ρ' ⟨k1,rfl⟩;conv=>whnf
 (repeat' (first|refine zp ?_|refine zC (fun _=>zw ?_) (fun _=>zw ?_)))
 case' refine_2=>exact ⟨rfl,hm.ext⟩
 all_goals
  have hk:k<4:=by omega
  have hr:=hQ.num i k hi hk;refine LoadV.of (by rw [t1,Nat.mul_one];exact hc k _ (qbp (Q i) hk)) (zu ?_);refine LoadV.of (by rw [t1,Nat.mul_one];exact hc k _ (qbp (Q i) hk)) (zu ?_);exact ⟨k+1,⟨rfl,rfl,trivial⟩,⟨by omega,rfl⟩,by omega⟩
theorem ql9 (a b:Nat→Nat) (w:World) {kk:Nat} (hk:kk<4) (he:∀ j,j<kk→a j=b j) (hlt:a kk<b kk):Gv Tryz.prog 78 [idsW a,idsW b] w fun r w'=>r=ii (-1)∧Ext w w':=by
 have t1:tsz Tryz.prog 3=1:=by kernel_rfl
 refine ze Tryz.func78 Tryz.ntmps78 ?_;refine znm (Mem.nil w) fun b1 w1 hm=>zw ?_;refine znm hm fun b2 w2 hm=>zw ?_;have c1:CellsAt w2 b1 0 (idsE a):=CellsAt.mem hm (zmc mh);have c2:CellsAt w2 b2 0 (idsE b):=CellsAt.mem hm mh;refine qe (fun k:Nat=>[(2,pp b1),(3,pp b2),(5,ii k)]) (fun k w'=>k≤kk∧Ext w2 w') (fun k=>kk-k) 0 ⟨rfl,rfl,rfl,trivial⟩ ⟨Nat.zero_le _,xr⟩ ?_;rintro k w3 ρ' ⟨k1,he3⟩;have h1:=c1.ext he3.drew;have h2:=c2.ext he3.drew;refine zu ?_;refine zy ?_;refine zv ?_;refine LoadV.of (by rw [t1,Nat.mul_one];exact h1 k _ (qbp a Oo)) (zu ?_);refine LoadV.of (by rw [t1,Nat.mul_one];exact h2 k _ (qbp b Oo)) (zw ?_)
 by_cases hkk:k=kk
 ·subst hkk;refine zv ?_;exact ⟨rfl,hm.ext.trans he3.drew⟩
 ·have hab:=he k Oo;have h1:=h1.ext xr.drew;have h2:=h2.ext xr.drew;refine zv ?_;refine zy ?_;refine zv ?_;refine LoadV.of (by rw [t1,Nat.mul_one];exact h1 k _ (qbp a Oo)) (zu ?_);refine LoadV.of (by rw [t1,Nat.mul_one];exact h2 k _ (qbp b Oo)) (zu ?_);exact ⟨k+1,⟨rfl,rfl,rfl,trivial⟩,⟨by omega,he3.drew.drew⟩,by omega⟩
def boF (S:List Bool) (t:Nat):Nat:=if S.getD t false=true then 1 else 0
theorem q42 {S:List Bool} {t:Nat} (h:S.length≤t):boF S t=0:=by
 rw [boF,List.getD_eq_getElem?_getD,List.getElem?_eq_none h];rfl
def boC (S:List Bool) (e:Nat):List Value:=byV (qbm (upF (boF S) e) ((S.length+7)/8))
theorem q41 (S:List Bool) (e:Nat):(boC S e).length=(S.length+7)/8:=by rw [boC,qae,qbu]
theorem q40 (S:List Bool):boC S S.length=byV (qbm (boF S) ((S.length+7)/8)):=by
 have e:upF (boF S) S.length=boF S:=funext fun t=>by
  rw [upF]
  split
  ·rfl
  ·exact (q42 Oo).symm
 rw [boC,e]
theorem q1q {S:List Bool} {e:Nat} (h:boF S e=0):boC S (e+1)=boC S e:=by
 have e:upF (boF S) (e+1)=upF (boF S) e:=funext fun t=>by
  rw [upF,upF]
  by_cases g:t=e
  ·subst g;rw [if_pos Oo,if_neg Oo,h]
  ·by_cases g2:t<e
   ·rw [if_pos g2,if_pos Oo]
   ·rw [if_neg g2,if_neg Oo]
 rw [boC,boC,e]
theorem qo4 (S:List Bool) (A:oA) (n c:Nat) (w:World) (hS:SlAt encO 1 w A S) (hn:S.length=n) (hb:n≤4194304) :
  Gv Tryz.prog 83 [.slice A n c] w fun r w'=>NewS 5 w w' r (qbm (boF S) ((n+7)/8)):=by
 refine ze Tryz.func83 Tryz.ntmps83 ?_;refine zv ?_;refine ⟨(n+7)/8,(n+7)/8,rfl,rfl,Nat.le_refl _,by show (n+7)/8*1≤_;omega,by omega,fun ob w5 hb hw5=>?_⟩;have hm0:=(Mem.nil w).new hb hw5;have hm:Mem w w5 [(ob,.cells (boC S 0).toArray 5)]:=by rw [boC,qum,hn];exact hm0
 clear hb hw5 hm0;(conv=>whnf);refine qe (fun i:Nat=>[(0,.slice A n c),(3,.slice (some ⟨ob,0,none⟩) ((n+7)/8) ((n+7)/8)),(4,ii i)])
  (fun i w'=>i≤n∧Mem w w' [(ob,.cells (boC S i).toArray 5)]) (fun i=>n-i) 0 ⟨rfl,rfl,rfl,trivial⟩ ⟨Nat.zero_le _,hm⟩ ?_
 clear hm;rintro i w6 ρ' ⟨i1,hm⟩;(conv=>whnf);refine zC (fun _=>zw ?_) (fun _=>zw ?_)
 ·have hi:i<S.length:=by omega
  refine ElemV.sl (hS.ext hm.ext) hn i rfl Oo ?_;intro eb eo hcell;obtain ⟨s,es⟩:∃ s,s=S[i]:=⟨_,rfl⟩
  rw [← es] at hcell;have hbo:boF S i=if s=true then 1 else 0:=by rw [boF,List.getD_eq_getElem?_getD,zge hi,es];rfl
  (conv=>whnf);refine LoadV.cell0 hcell (zw ?_);cases s with
  | false=>
   have hbo:boF S i=0:=hbo;refine zv ?_;exact ⟨i+1,⟨rfl,rfl,rfl,trivial⟩,⟨by omega,by rw [q1q hbo];exact hm⟩,by omega⟩
  | true=>
   have hbo:boF S i=1:=hbo;have hst:=q0y (F:=boF S) (m:=(S.length+7)/8) (e:=i) Oo;rw [hbo] at hst;have hcl:=q41 S i;have hld:(boC S i)[i/8]?=some (.int .u8 (byt (upF (boF S) i) (i/8):Nat)):=qdr Oo;have hby:=qky (upF (boF S) i) (i/8);refine zv ?_;refine DrawV.own rfl Ok (zw ?_);(iterate 3 (refine zo ?_));apply StepO.still
   ·intro wd hd;(conv=>whnf);refine ElemV.own1 (i/8) rfl Oo (zw ?_);exact PostO.still xr rfl
   (conv=>whnf);apply StepO.still
   ·intro wd hd;(conv=>whnf);refine LoadV.mem (Mem.call (Mem.drew hm) hd) (i:=0) rfl (by rw [List.getElem?_toArray];exact hld) ?_;(conv=>whnf);exact PostO.still xr rfl
   (conv=>whnf);refine zo ?_;refine zo ?_;apply StepO.still
   ·intro wd1 hd;(conv=>whnf);refine V.Wit.shlN (a:=1) (i%8) Oo (by show i%8<8;omega) (qd8 ?_) ?_
    ·have h2:2 ^ (i%8)≤2 ^ 7:=Nat.pow_le_pow_right Od Oo;have e7:(2:Nat) ^ 7=128:=by decide
     show 1*2 ^ (i%8)<256;omega
    (conv=>whnf);exact PostO.still xr rfl
   (conv=>whnf);apply StepO.still
   ·intro wd1 hd;(conv=>whnf);refine Wit.eq (qtw (f:=boF S) i 1) (zw ?_);exact PostO.still xr rfl
   (conv=>whnf);apply StepO.still
   ·intro wd1 hd;(conv=>whnf);refine ElemV.own1 (i/8) rfl Oo (zw ?_);exact PostO.still xr rfl
   (conv=>whnf);intro w8 hd8
   (repeat (intro _;(conv=>whnf)))
   (conv=>whnf);refine StoreV.mem (hm.drew.call hd8) (i:=0) rfl (by rw [List.size_toArray];omega) rfl ?_;intro w9 hm;have hm:Mem w w9 [(ob,.cells (boC S (i+1)).toArray 5)]:=by
    rw [boC,← hst];have e:((boC S i).toArray.setIfInBounds (i/8) (.int .u8 (byt (upF (boF S) i) (i/8)+1%2*2 ^ (i%8):Nat)))=((boC S i).set (i/8) (.int .u8 (byt (upF (boF S) i) (i/8)+1%2*2 ^ (i%8):Nat))).toArray:=by simp
    rw [boC] at e;rw [← e];exact hm
   refine zu ?_;exact ⟨i+1,⟨rfl,rfl,rfl,trivial⟩,⟨by omega,hm⟩,by omega⟩
 ·obtain rfl:i=n:=by omega
  obtain ⟨o1,o2⟩:=hm.own _ mh;have hall:=q40 S;rw [hn] at hall;refine NewS.blk hm.ext o1 ?_ (by rw [qbu]);rw [← hall];exact o2
def laM (S:List Bool):List Bool:=(List.range S.length).map fun t=>S.getD (t+1) false
def laN (S:List Bool):List Bool:=(List.range S.length).map fun t=>decide (t+1=S.length)||S.getD (t+1) false
theorem qbj (S:List Bool):(laM S).length=S.length:=by simp [laM]
theorem qfv (S:List Bool):(laN S).length=S.length:=by simp [laN]
theorem qoo {S:List Bool} {t:Nat} (h:t<S.length):(laM S)[t]?=some (S.getD (t+1) false):=by rw [laM,List.getElem?_map,List.getElem?_range h];rfl
theorem qyq {S:List Bool} {t:Nat} (h:t<S.length):(laN S)[t]?=some (decide (t+1=S.length)||S.getD (t+1) false):=by rw [laN,List.getElem?_map,List.getElem?_range h];rfl
theorem q2h (S:List Bool) (b:Bool):laM (S++[b])=(laM S).set (S.length-1) b++[false]:=by
 refine List.ext_getElem? fun t=>?_
 by_cases h:t<S.length
 ·rw [qoo Ys,List.getElem?_append_left (by rw [List.length_set,qbj];exact h),List.getElem?_set,List.getD_eq_getElem?_getD]
  by_cases e:S.length-1=t
  ·rw [if_pos e,if_pos (by rw [qbj];omega),List.getElem?_append_right Oo,show t+1-S.length=0 by omega];rfl
  ·rw [if_neg e,qoo h,List.getElem?_append_left Oo,List.getD_eq_getElem?_getD]
 ·by_cases e:t=S.length
  ·subst e;rw [qoo Js,List.getElem?_append_right (by rw [List.length_set,qbj];exact Nat.le_refl _),List.length_set,qbj,Nat.sub_self,List.getD_eq_getElem?_getD,List.getElem?_eq_none Js];rfl
  ·rw [List.getElem?_eq_none (by rw [qbj];simp;omega),List.getElem?_eq_none (by rw [zla,List.length_set,qbj];simp;omega)]
theorem q2g (S:List Bool):(laM S).set (S.length-1) false=laM S:=by
 refine List.ext_getElem? fun t=>?_;rw [List.getElem?_set]
 by_cases e:S.length-1=t
 ·rw [if_pos e]
  by_cases h:t<S.length
  ·rw [if_pos (by rw [qbj];omega),qoo h,List.getD_eq_getElem?_getD,List.getElem?_eq_none Oo];rfl
  ·rw [if_neg (by rw [qbj];omega),List.getElem?_eq_none (by rw [qbj];omega)]
 ·rw [if_neg e]
theorem q5t (S:List Bool):(laM S).set (S.length-1) true=laN S:=by
 refine List.ext_getElem? fun t=>?_;rw [List.getElem?_set]
 by_cases h:t<S.length
 ·by_cases e:S.length-1=t
  ·rw [if_pos e,if_pos (by rw [qbj];omega),qyq h,decide_eq_true Oo];rfl
  ·rw [if_neg e,qoo h,qyq h,decide_eq_false Oo];rfl
 ·by_cases e:S.length-1=t
  ·rw [if_pos e,if_neg (by rw [qbj];omega),List.getElem?_eq_none (by rw [qfv];omega)]
  ·rw [if_neg e,List.getElem?_eq_none (by rw [qbj];omega),List.getElem?_eq_none (by rw [qfv];omega)]
theorem q5s (S:List Bool) (t:Nat):(if (laN S).getD t false=true then 1 else 0)=laT S t:=by
 rw [List.getD_eq_getElem?_getD,laT]
 by_cases h:t<S.length
 ·rw [qyq h]
  by_cases e:t+1=S.length
  ·rw [if_pos e,decide_eq_true e];rfl
  ·rw [if_neg e,decide_eq_false e];rfl
 ·rw [List.getElem?_eq_none (by rw [qfv];omega),List.getD_eq_getElem?_getD,List.getElem?_eq_none Oo,if_neg (show ¬ t+1=S.length by omega)]
def smQ (Q:Nat→Nat→Nat) (i k:Nat):Bool:=if k=0 then decide (0<i) else !(frU Q i (k-1))
theorem qiy (Q:Nat→Nat→Nat) (i k:Nat):smQ Q i (k+1)=!(frU Q i k):=by simp [smQ]
theorem q7u (Q:Nat→Nat→Nat) (i k:Nat):frU Q i k=!(smQ Q i k&&decide (Q i k=Q (i-1) k)):=by
 cases k with
 | zero=>
  by_cases h:i=0
  ·subst h;simp [frU,smQ]
  ·have e:smQ Q i 0=true:=by rw [smQ,if_pos rfl];exact decide_eq_true Oo
   rw [e,Bool.true_and,frU,Bool.eq_iff_iff];simp [h]
 | succ k=>
  rw [qiy,frU,Bool.eq_iff_iff];simp
theorem q6x {Q:Nat→Nat→Nat} {i k:Nat} (h:smQ Q i k=true):0<i:=by
 rw [smQ] at h
 split at h
 ·exact of_decide_eq_true h
 ·exact (qml (by simpa using h)).1
theorem q77 (S:List Bool):boF (laN S)=laT S:=funext fun t=>q5s S t
def boV (l:List Bool):List Value:=l.map Value.bool
theorem qfr (l:List Bool):(boV l).length=l.length:=by simp [boV]
def eD (m:Nat):TypeId:=if m%2=0 then 125 else 4
theorem qqi (j:Nat):eD (2*j)=125:=if_pos Oo
theorem qxz (j:Nat):eD (2*j+1)=4:=if_neg Oo
structure RdS (w w':World) (rb:Nat) (U G:Nat→Value) (L:Nat→List Value):Prop where
 sep:Sep w w' (rwF [] rb G)
 tab:w'.heap[rb]?=some (.cells (fnA 8 U) 152)
 row:∀ m,m<8→w'.ownsRow 0 (eD m) 1 (G m) (L m).length (L m)
section
variable {w w1 w2:World} {rb:Nat} {U G:Nat→Value} {L:Nat→List Value}
theorem RdS.call (h:RdS w w1 rb U G L) (he:Ext w1 w2):RdS w w2 rb U G L:=⟨h.sep.call he,he.get h.tab,fun m hm=>q9 (h.row m hm) he⟩
theorem RdS.chg (h:RdS w w1 rb U G L) {m:Nat} (hm:m<8) {v:Value} {x:List Value} (ho:w2.ownsRow 0 (eD m) 1 v x.length x) (hc:Chn (rowF (G m)) w1 w2) (hn:∀ j∈rowF v,(j∈rowF (G m)∨w1.heap.size≤j)∧j<w2.heap.size) :
  RdS w w2 rb U (updF G m v) (updR L m x):=by
 have hs:=h.sep.row (i:=m+2) (qfo [] rb G hm) hc hn;refine ⟨by rw [← q0c];exact hs.sep,?_,fun j hj=>?_⟩
 ·rw [hs.keep 1 [rb] rfl Oo rb (List.mem_singleton.2 rfl)];exact h.tab
 ·by_cases e:j=m
  ·subst e;rw [qb6,qb1];exact ho
  ·rw [qbk _ _ _ _ e,qba _ _ _ e];exact qo (h.row j hj) fun i hi=>hs.keep (j+2) _ (qfo [] rb G hj) Oo i hi
theorem RdS.store (h:RdS w w1 rb U G L) {m:Nat} (hm:m<8) {v:Value} {K:World→Prop} (h1:qbz v=true) (hK:∀ w2,RdS w w2 rb (updF U m v) G L→K w2):StoreV w1 rb m v K:=by
 refine StoreV.own h.tab (by rw [qn];exact hm) h1 fun w2 hw=>?_;obtain ⟨hc,hg⟩:=Chn.set h.tab hw;have hs:=h.sep.row (i:=1) (F':=[rb]) rfl hc fun j hj=>⟨.inl hj,by rw [List.mem_singleton.1 hj];exact qa5 hg⟩
 exact hK w2 ⟨hs.sep,by rw [hg,qdw],fun j hj=>qo (h.row j hj) fun i hi=>hs.keep (j+2) _ (qfo [] rb G hj) Oo i hi⟩
theorem RdS.eqL {M:Nat→List Value} (h:RdS w w1 rb U G L) (e:∀ m,m<8→L m=M m):RdS w w1 rb U G M:=
 ⟨h.sep,h.tab,fun m hm=>by rw [← e m hm];exact h.row m hm⟩
theorem RdS.cell (h:RdS w w1 rb G G L) {m j:Nat} (hm:m<8) (hj:j<(L m).length) {A:oA} {c:Nat} (hG:G m=.slice A (L m).length c) {v:Value} (hv:qbz v=true):∃ g,A=some ⟨g,0,none⟩∧∀ (K:World→Prop),(∀ w2,RdS w w2 rb G G (updR L m ((L m).set j v))→K w2)→StoreV w1 g j v K:=by
 have hr:=h.row m hm;rw [hG] at hr;obtain ⟨g,hA,cur,hg,hcs⟩:∃ g,A=some ⟨g,0,none⟩∧∃ cur,w1.heap[g]?=some (.cells cur (eD m))∧(L m).length≤cur.size:=by
  rcases hr.2 with ⟨q1,q2⟩|⟨g,cap,cur,q1,_,hg,q3,_,q4,q5⟩
  ·exfalso;omega
  ·cases q1;exact ⟨g,rfl,cur,hg,by omega⟩
 subst hA;refine ⟨g,rfl,fun K hK=>StoreV.own hg Oo hv fun w2 hw=>?_⟩;obtain ⟨ho,hc⟩:=qzp hr rfl hj hw;have hl:((L m).set j v).length=(L m).length:=List.length_set;have h9:=h.chg hm (v:=.slice (some ⟨g,0,none⟩) (L m).length c) (x:=(L m).set j v) (by rw [hl];exact ho) (by rw [hG];exact hc) (by
  rw [hG];intro k hk;refine ⟨.inl hk,?_⟩;rw [List.mem_singleton.1 hk];exact Nat.lt_of_lt_of_le (qa5 hg) hc.size)
 have eG:∀ i,updF G m (.slice (some ⟨g,0,none⟩) (L m).length c) i=G i:=fun i=>by
  by_cases e:i=m
  ·subst e;rw [qb6,hG]
  ·rw [qbk _ _ _ _ e]
 rw [show updF G m (.slice (some ⟨g,0,none⟩) (L m).length c)=G from funext eG] at h9;exact hK w2 h9
end
def RdI (w w7:World) (rb:Nat) (G:Nat→Value) (L:Nat→List Value) (j x:Nat) (s4 s12 s13 s16:Bool) (v12 v13:Value) (w':World):Prop:=
 (s13=false∧s16=false∧Ext w7 w'∧(s12=true→∃ nb,v12=.slice (some ⟨nb,0,none⟩) 1 1∧w'.heap[nb]?=some (.cells #[.int .u64 x] 125)))∨
 (s12=true∧s13=true∧s16=false∧∃ A c,v13=.slice A ((L (2*j)).length+1) c∧RdS w w' rb G (updF G (2*j) (.slice A ((L (2*j)).length+1) c)) (updR L (2*j) (L (2*j)++[.int .u64 x])))∨
 (s4=true∧s12=true∧s13=true∧s16=true∧∃ G',RdS w w' rb G' G' (updR L (2*j) (L (2*j)++[.int .u64 x])))
section
variable {w w7 w':World} {rb:Nat} {G:Nat→Value} {L:Nat→List Value} {j x:Nat} {s4 s12 s13 s16:Bool} {v12 v13:Value}
theorem RdI.ext (h:RdI w w7 rb G L j x s4 s12 s13 s16 v12 v13 w') (h7:Ext w w7):Ext w w':=by
 rcases h with ⟨_,_,h,_⟩|⟨_,_,_,_,_,_,h⟩|⟨_,_,_,_,_,h⟩
 ·exact h7.trans h
 ·exact h.sep.ext
 ·exact h.sep.ext
theorem RdI.four (h:RdI w w7 rb G L j x false s12 s13 s16 v12 v13 w') (h7:RdS w w7 rb G G L):w'.heap[rb]?=some (.cells (fnA 8 G) 152)∧RdI w w7 rb G L j x true s12 s13 s16 v12 v13 w':=by
 rcases h with ⟨h1,h2,h3,h4⟩|⟨h1,h2,h3,A,c,h4,h5⟩|⟨h,_⟩
 ·exact ⟨h3.get h7.tab,.inl ⟨h1,h2,h3,h4⟩⟩
 ·exact ⟨h5.tab,.inr (.inl ⟨h1,h2,h3,A,c,h4,h5⟩)⟩
 ·cases h
theorem RdI.twelve (h:RdI w w7 rb G L j x s4 false s13 s16 v12 v13 w') {w2:World} {b:Nat} (hb:b=w'.heap.size) (hw:w2=w'.alloc (.cells #[.int .u64 x] 125)):RdI w w7 rb G L j x s4 true s13 s16 (.slice (some ⟨b,0,none⟩) 1 1) v13 w2:=by
 rcases h with ⟨h1,h2,h3,_⟩|⟨h,_⟩|⟨_,h,_⟩
 ·have he:Ext w' w2:=by rw [hw];exact (Ext.refl w').alloc _
  exact .inl ⟨h1,h2,h3.trans he,fun _=>⟨b,rfl,by rw [hw,hb];exact heap_alloc_new w' _⟩⟩
 ·cases h
 ·cases h
theorem RdI.thirteen (h:RdI w w7 rb G L j x s4 true false s16 v12 v13 w'):s16=false∧Ext w7 w'∧∃ nb,v12=.slice (some ⟨nb,0,none⟩) 1 1∧w'.heap[nb]?=some (.cells #[.int .u64 x] 125):=by
 rcases h with ⟨_,h2,h3,h5⟩|⟨_,h,_⟩|⟨_,_,h,_⟩
 ·exact ⟨h2,h3,h5 rfl⟩
 ·cases h
 ·cases h
theorem RdI.sixteen (h:RdI w w7 rb G L j x s4 s12 true false v12 v13 w'):s12=true∧∃ A c,v13=.slice A ((L (2*j)).length+1) c∧RdS w w' rb G (updF G (2*j) (.slice A ((L (2*j)).length+1) c)) (updR L (2*j) (L (2*j)++[.int .u64 x])):=by
 rcases h with ⟨h,_⟩|⟨h1,_,_,h2⟩|⟨_,_,_,h,_⟩
 ·cases h
 ·exact ⟨h1,h2⟩
 ·cases h
theorem RdI.end_ (h:RdI w w7 rb G L j x s4 s12 s13 true v12 v13 w'):∃ G',RdS w w' rb G' G' (updR L (2*j) (L (2*j)++[.int .u64 x])):=by
 rcases h with ⟨_,h,_⟩|⟨_,_,h,_⟩|⟨_,_,_,_,h⟩
 ·cases h
 ·cases h
 ·exact h
end
def LdQ (Q:Nat→Nat→Nat) (i m:Nat):List Value:=if m%2=0 then u64V (nuT Q (m/2) i) else boV (laM (stJ Q (m/2) i))
def LmQ (Q:Nat→Nat→Nat) (i k m:Nat):List Value:=if m/2<k then LdQ Q (i+1) m else LdQ Q i m
def LfQ (Q:Nat→Nat→Nat) (n k m:Nat):List Value:=if m%2=1∧m/2<k then boV (laN (stJ Q (m/2) n)) else LdQ Q n m
theorem qlu (Q:Nat→Nat→Nat) (i j:Nat):LdQ Q i (2*j)=u64V (nuT Q j i):=by rw [LdQ,if_pos Oo,show 2*j/2=j by omega]
theorem qqb (Q:Nat→Nat→Nat) (i j:Nat):LdQ Q i (2*j+1)=boV (laM (stJ Q j i)):=by rw [LdQ,if_neg Oo,show (2*j+1)/2=j by omega]
theorem q1c {Q:Nat→Nat→Nat} {i m:Nat} (h:frU Q i (m/2)=false):LdQ Q (i+1) m=LdQ Q i m:=by rw [LdQ,LdQ,qts h,qug h]
theorem q1f (Q:Nat→Nat→Nat) (i m:Nat):LmQ Q i 0 m=LdQ Q i m:=if_neg Oo
theorem q4t (Q:Nat→Nat→Nat) (i:Nat) {m:Nat} (h:m<8):LmQ Q i 4 m=LdQ Q (i+1) m:=if_pos Oo
theorem qsi (Q:Nat→Nat→Nat) (i k:Nat):LmQ Q i k (2*k)=u64V (nuT Q k i):=by rw [LmQ,if_neg Oo,qlu]
theorem qlv (Q:Nat→Nat→Nat) (i k:Nat):LmQ Q i k (2*k+1)=boV (laM (stJ Q k i)):=by rw [LmQ,if_neg Oo,qqb]
theorem q1e {Q:Nat→Nat→Nat} {i k:Nat} (h:frU Q i k=false) (m:Nat):LmQ Q i k m=LmQ Q i (k+1) m:=by
 rw [LmQ,LmQ]
 by_cases g:m/2<k
 ·rw [if_pos g,if_pos Oo]
 ·by_cases g2:m/2=k
  ·rw [if_neg g,if_pos Oo,q1c (by rw [g2];exact h)]
  ·rw [if_neg g,if_neg Oo]
theorem q4u {Q:Nat→Nat→Nat} {i k:Nat} (h:frU Q i k=true) {X:List Bool} (hX:X=(laM (stJ Q k i)).set ((stJ Q k i).length-1) (if k=0 then false else frU Q i (k-1))) {L:Nat→List Value} (hL:∀ m,m≠2*k→m≠2*k+1→L m=LmQ Q i k m) (m:Nat) :
  updR (updR L (2*k) (u64V (nuT Q k i)++[.int .u64 (Q i k:Nat)])) (2*k+1) (boV (X++[false])) m=LmQ Q i (k+1) m:=by
 by_cases e:m=2*k+1
 ·subst e;rw [qb1,LmQ,if_pos Oo,qqb,q0m h,q2h,hX]
 ·rw [qba _ _ _ e]
  by_cases e2:m=2*k
  ·subst e2;rw [qb1,LmQ,if_pos Oo,qlu,qzb h,u64V,u64V,List.map_append];rfl
  ·rw [qba _ _ _ e2,hL m e2 e,LmQ,LmQ]
   by_cases g:m/2<k
   ·rw [if_pos g,if_pos Oo]
   ·rw [if_neg g,if_neg Oo]
theorem q1d (Q:Nat→Nat→Nat) (n m:Nat):LdQ Q n m=LfQ Q n 0 m:=(if_neg Oo).symm
theorem qsg (Q:Nat→Nat→Nat) (n k j:Nat):LfQ Q n k (2*j)=u64V (nuT Q j n):=by rw [LfQ,if_neg Oo,qlu]
theorem qqc (Q:Nat→Nat→Nat) (n k:Nat):LfQ Q n k (2*k+1)=boV (laM (stJ Q k n)):=by rw [LfQ,if_neg Oo,qqb]
theorem qsf (Q:Nat→Nat→Nat) (n:Nat) {j k:Nat} (h:j<k):LfQ Q n k (2*j+1)=boV (laN (stJ Q j n)):=by rw [LfQ,if_pos Oo,show (2*j+1)/2=j by omega]
theorem qsh (Q:Nat→Nat→Nat) (n k m:Nat):updR (LfQ Q n k) (2*k+1) ((LfQ Q n k (2*k+1)).set ((stJ Q k n).length-1) (.bool true)) m=LfQ Q n (k+1) m:=by
 by_cases e:m=2*k+1
 ·subst e;rw [qb1,qqc,qsf Q n (Nat.lt_succ_self k),← q5t,boV,boV,List.map_set]
 ·rw [qba _ _ _ e,LfQ,LfQ]
  by_cases g:m%2=1∧m/2<k
  ·rw [if_pos g,if_pos Oo]
  ·rw [if_neg g,if_neg Oo]
theorem q4s {Q:Nat→Nat→Nat} {n k:Nat} (h:(stJ Q k n).length=0) (m:Nat):LfQ Q n k m=LfQ Q n (k+1) m:=by
 rw [← qsh,h]
 by_cases e:m=2*k+1
 ·subst e;have h0:=List.eq_nil_of_length_eq_zero h;rw [qb1,qqc,h0];rfl
 ·rw [qba _ _ _ e]
def LvlR (Q:Nat→Nat→Nat) (n:Nat) (w:World) (r:Value):Prop:=
 ∃ (NA LA:Nat→oA) (NC LC:Nat→Nat),r=.agg #[.slice (NA 0) (leT Q 0 n) (NC 0),.slice (LA 0) (leT Q 0 n) (LC 0),.slice (NA 1) (leT Q 1 n) (NC 1),.slice (LA 1) (leT Q 1 n) (LC 1),
  .slice (NA 2) (leT Q 2 n) (NC 2),.slice (LA 2) (leT Q 2 n) (LC 2),.slice (NA 3) (leT Q 3 n) (NC 3),.slice (LA 3) (leT Q 3 n) (LC 3)]∧
  (∀ j,j<4→SlAt encU 1 w (NA j) (nuT Q j n))∧∀ j,j<4→SlAt encO 1 w (LA j) (laN (stJ Q j n))
theorem qou (Q:Nat→Nat→Nat) (A:oA) (n c:Nat) (w:World) (hS:SlAt idsE 4 w A ((List.range n).map Q)) (hQ:TOk Q n) :
  Gv Tryz.prog 79 [.slice A n c] w fun r w'=>LvlR Q n w' r∧Ext w w':=by
 have hnl:=hQ.nle;have hlen:((List.range n).map Q).length=n:=by simp
 have hat:∀ i (hi:i<((List.range n).map Q).length),((List.range n).map Q)[i]=Q i:=fun i hi=>by simp
 have hns:∀ j i,i≤n→(nuT Q j i).length≤1048576:=fun j i hi=>by have:=qos (Q:=Q) j i;show leT Q j i≤_;omega
 have t2:tsz Tryz.prog 151=2:=by kernel_rfl
 have t1:tsz Tryz.prog 3=1:=by kernel_rfl
 refine ze Tryz.func79 Tryz.ntmps79 ?_;refine ⟨fun r2 w1 hr2 hw1=>?_⟩;have he1:Ext w w1:=by rw [hw1];exact (Ext.refl w).alloc _
 have hr2c:w1.heap[r2]?=some (.cells #[.slice none 0 0,.slice none 0 0,.slice none 0 0,.slice none 0 0,.slice none 0 0,.slice none 0 0,.slice none 0 0,.slice none 0 0] 152):=by rw [hw1,hr2];exact heap_alloc_new w _
 have hr2n:w.heap.size≤r2:=by omega
 clear hr2 hw1;(conv=>whnf);refine ⟨fun rb w2 hrb hw2=>?_⟩;have h0:RdS w1 w2 rb (fun _=>.slice none 0 0) (fun _=>.slice none 0 0) (LdQ Q 0):=by
  have hall:∀ F∈(List.range 8).map (fun _:Nat=>rowF (.slice none 0 0)),F=[]:=fun F hF=>by
   obtain ⟨_,_,rfl⟩:=List.mem_map.1 hF;rfl
  have s0:Sep w1 w1 ((List.range 8).map fun _=>rowF (.slice none 0 0)):=by
   refine ⟨Ext.refl w1,fun F hF k hk=>?_,List.pairwise_iff_getElem.2 fun i j hi hj _ k hk=>?_⟩
   ·rw [hall F hF] at hk;cases hk
   ·rw [hall _ (List.getElem_mem hi)] at hk;cases hk
  obtain ⟨s1,hg⟩:=s0.new hrb hw2;refine ⟨s1.add (F:=[]) (Ext.refl w2) (fun k hk=>by cases hk),hg,fun m hm=>?_⟩;have e:LdQ Q 0 m=[]:=by
   rw [LdQ]
   split
   ·rfl
   ·rw [stJ]
    split<;>rfl
  rw [e];exact World.ownsRow_nil _ _ _ _
 clear hrb hw2;(conv=>whnf);refine qe (fun i:Nat=>[(0,.slice A n c),(2,pp r2),(3,pp rb),(4,ii i)])
  (fun i w'=>i≤n∧∃ G,RdS w1 w' rb G G (LdQ Q i)) (fun i=>n-i) 0 ⟨rfl,rfl,rfl,rfl,trivial⟩ ⟨Nat.zero_le _,_,h0⟩ ?_
 clear h0;rintro i w3 ρ' ⟨i1,G,hR⟩;(conv=>whnf);refine zC (fun _=>zw ?_) (fun _=>zw ?_)
 ·have hi:i<n:=by omega
  refine qe (fun k:Nat=>[(0,.slice A n c),(2,pp r2),(3,pp rb),(4,ii i),(5,.bool (smQ Q i k)),(6,ii k)])
   (fun k w'=>k≤4∧∃ G,RdS w1 w' rb G G (LmQ Q i k)) (fun k=>4-k) 0 ⟨rfl,rfl,rfl,rfl,congrArg Value.bool (by rw [smQ,if_pos rfl,Bool.eq_iff_iff];simp),rfl,trivial⟩ ⟨Nat.zero_le _,G,hR.eqL fun m _=>(q1f Q i m).symm⟩ ?_
  clear hR;rintro k w4 ρ2 ⟨k1,G,hR⟩;(conv=>whnf);refine zC (fun _=>zu ?_) (fun _=>zu ?_)
  ·have hk4:k<4:=by omega
   have hsm:=q7u Q i k;obtain ⟨b,eb⟩:∃ b,b=smQ Q i k:=⟨_,rfl⟩
   rw [← eb] at hsm ⊢;obtain ⟨A0,c0,e0⟩:=q8 (hR.row (2*k) Oo);obtain ⟨A1,c1,e1⟩:=q8 (hR.row (2*k+1) Oo);have hl0:(LmQ Q i k (2*k)).length=(nuT Q k i).length:=by rw [qsi,qa2]
   have hl1:(LmQ Q i k (2*k+1)).length=(nuT Q k i).length:=by rw [qlv,qfr,qbj,qb5];rfl
   have hsl:(stJ Q k i).length=(nuT Q k i).length:=qb5 Q k i;have o0:(fnA 8 G)[0+k*tsz Tryz.prog 151+0]?=some (.slice A0 (nuT Q k i).length c0):=by rw [t2,show 0+k*2+0=2*k by omega,qan 8 G _ Oo,e0,hl0]
   have o1:(fnA 8 G)[0+k*tsz Tryz.prog 151+1]?=some (.slice A1 (nuT Q k i).length c1):=by rw [t2,show 0+k*2+1=2*k+1 by omega,qan 8 G _ Oo,e1,hl1]
   have hnk:=hns k i i1;obtain ⟨ab,ao,eA,hcl⟩:=hS.at_ (by intro e;rw [e] at hlen;simp at hlen;omega);have hcell:=hcl i _ (zge (by rw [hlen];omega));rw [hat] at hcell;subst eA;have heW:Ext w w4.drew:=he1.trans hR.sep.ext.drew;cases b
   case' true=>
    have h0i:=q6x eb.symm;have hp1:=hcell.ext heW;have hp2:=(hcl (i-1) _ (zge (by rw [hlen];omega))).ext heW;rw [hat] at hp2;have hb:(if k=0 then false else frU Q i (k-1))=false:=by
     rw [smQ] at eb
     split at eb
     ·rename_i g;rw [if_pos g]
     ·rename_i g;rw [if_neg g];simpa using eb.symm
    have hR:=hR.call (Ext.refl w4).drew;refine zy ?_;generalize w4.drew=w5 at *;refine zv ?_;refine ⟨⟨ab,ao,i,rfl,by omega,by omega,?_⟩⟩;refine zu ?_;refine LoadV.of (by rw [t1,Nat.mul_one];exact hp1 k _ (qbp (Q i) Oo)) (zu ?_);refine ⟨⟨ab,ao,i-1,rfl,by omega,by omega,?_⟩⟩;refine zu ?_;refine LoadV.of (by rw [t1,Nat.mul_one];exact hp2 k _ (qbp (Q (i-1)) Oo)) (zw ?_);refine zt ?_;refine zC (fun _=>zu ?_) (fun _=>zu ?_)
    ·have hq:Q i k=Q (i-1) k:=by omega
     have hf:frU Q i k=false:=by rw [hsm,decide_eq_true hq];rfl
     exact ⟨k+1,⟨rfl,rfl,rfl,rfl,congrArg Value.bool (by rw [qiy,hf,hq];simp),congrArg (Value.int .i64) Oo,trivial⟩,⟨by omega,G,hR.eqL fun m _=>q1e hf m⟩,by omega⟩
    have hq:Q i k≠Q (i-1) k:=by omega
    have hf:frU Q i k=true:=by rw [hsm,decide_eq_false hq];rfl
    have hsl5:(decide ((Q i k:Int)=(Q (i-1) k:Int)))=smQ Q i (k+1):=by rw [qiy,hf];exact decide_eq_false Oo
    refine LoadV.own hR.tab o0 (zw ?_);refine zC (fun _=>zu ?_) (fun _=>zu ?_)
    all_goals have hst:∃ L5 X,RdS w1 w5 rb G G L5∧(∀ m,m≠2*k+1→L5 m=LmQ Q i k m)∧L5 (2*k+1)=boV X∧X=(laM (stJ Q k i)).set ((stJ Q k i).length-1) (if k=0 then false else frU Q i (k-1)):=
     ⟨_,laM (stJ Q k i),hR,fun m _=>rfl,qlv Q i k,by rw [hb,q2g]⟩
    all_goals clear hp1 hp2 h0i hq hb
   case' false=>
    have hf:frU Q i k=true:=hsm;have hR:=hR.call (Ext.refl w4).drew;have hsl5:false=smQ Q i (k+1):=by rw [qiy,hf];rfl
    refine zy ?_;generalize w4.drew=w5 at *;refine zv ?_;refine LoadV.own hR.tab o0 (zw ?_);refine zC (fun _=>zu ?_) (fun _=>zu ?_)
    case' refine_2=>
     have h0:laM (stJ Q k i)=[]:=List.eq_nil_of_length_eq_zero (by rw [qbj];omega);have hst:∃ L5 X,RdS w1 w5 rb G G L5∧(∀ m,m≠2*k+1→L5 m=LmQ Q i k m)∧L5 (2*k+1)=boV X∧X=(laM (stJ Q k i)).set ((stJ Q k i).length-1) (if k=0 then false else frU Q i (k-1)):=
      ⟨_,[],hR,fun m _=>rfl,by rw [qlv,h0],by rw [h0];rfl⟩
    case' refine_1=>
     have hk0:k≠0:=fun e=>by
      subst e;rw [smQ,if_pos rfl] at eb;have:¬ 0<i:=of_decide_eq_false eb.symm;have e0:i=0:=by omega
      subst e0;have:(nuT Q 0 0).length=0:=rfl;omega
     have hb:(if k=0 then false else frU Q i (k-1))=true:=by rw [smQ,if_neg hk0] at eb;rw [if_neg hk0];simpa using eb.symm
     refine LoadV.own hR.tab o1 (zu ?_);obtain ⟨g,hA1,hst⟩:=hR.cell (m:=2*k+1) (j:=(nuT Q k i).length-1) Oo (by rw [hl1];omega) e1 (v:=.bool true) rfl;subst hA1;refine ElemV.own1 ((nuT Q k i).length-1) Oo Oo (zw ?_);refine hst _ ?_;clear hR hst;intro w5 hR;(conv=>whnf);have hst:∃ L5 X,RdS w1 w5 rb G G L5∧(∀ m,m≠2*k+1→L5 m=LmQ Q i k m)∧L5 (2*k+1)=boV X∧X=(laM (stJ Q k i)).set ((stJ Q k i).length-1) (if k=0 then false else frU Q i (k-1)):=
      ⟨_,(laM (stJ Q k i)).set ((nuT Q k i).length-1) true,hR,fun m hm=>qba _ _ _ hm,by rw [qb1,qlv,boV,boV,List.map_set],by rw [hb,hsl]⟩
   all_goals
    obtain ⟨L5,X,hR5,hL5,h5o,hX⟩:=hst;have h5n:L5 (2*k)=u64V (nuT Q k i):=by rw [hL5 _ Oo,qsi]
    have hXl:X.length=(nuT Q k i).length:=by rw [hX,List.length_set,qbj,hsl]
    have hqk:=hQ.small hi hk4;have hl5:(L5 (2*k)).length=(nuT Q k i).length:=by rw [h5n,qa2]
    clear hR e1 hl1 o1;have hRD:=hR5.call (Ext.refl w5).drew;refine DrawV.gen (fun S vals w'=>RdI w1 w5.drew rb G L5 k (Q i k) (S 4) (S 12) (S 13) (S 16) (vals 12) (vals 13) w') rfl Ok (fun vals=>.inl ⟨rfl,rfl,xr,fun h=>(by cases h)⟩) (zw ?_);(iterate 4 (refine zg ?_));refine StepG.of (.slice A0 (nuT Q k i).length c0) (fun S vals wd hk hp hI=>?_) (zw ?_)
    ·dsimp only at hI;rw [hk] at hI;obtain ⟨ht,hI⟩:=hI.four hRD;(conv=>whnf);refine LoadV.own ht o0 (zw ?_);exact ⟨rfl,hI⟩
    (iterate 3 (refine zg ?_));refine StepG.of (.pointer (some ⟨ab,ao+i*4,none⟩)) (fun S vals wd hk hp hI=>zw ?_) (zw ?_)
    ·refine ⟨⟨ab,ao,i,rfl,by omega,by omega,?_⟩⟩;rw [show tsz Tryz.prog 101=4 from by kernel_rfl];(conv=>whnf);exact ⟨rfl,hI⟩
    refine zg ?_;refine StepG.of (ii (Q i k:Nat)) (fun S vals wd hk hp hI=>zw ?_) (zw ?_)
    ·refine LoadV.of (by rw [t1,Nat.mul_one];exact (hcell.ext (he1.trans (hI.ext hRD.sep.ext))) k _ (qbp (Q i) hk4)) (zw ?_);exact ⟨rfl,hI⟩
    refine StepG.of (.int .u64 (Q i k:Nat)) (fun S vals wd hk hp hI=>?_) (zw ?_)
    ·refine zu ?_;exact ⟨rfl,hI⟩
    refine StepG.any (fun S vals wd hk hp hI=>?_) (zw ?_)
    ·dsimp only at hI;rw [hk] at hI;(conv=>whnf);refine ⟨fun b w' hb hw=>?_⟩;(conv=>whnf);exact ⟨trivial,hI.twelve hb hw⟩
    refine StepG.any (fun S vals wd hk hp hI=>?_) (zw ?_)
    ·dsimp only at hI;have h12:S 12=true:=hp 12 Od;rw [hk,h12] at hI;obtain ⟨h16,he7,nb,hv,hnb⟩:=hI.thirteen;have hRd:=hRD.call he7;have hr:=hRd.row (2*k) Oo;rw [e0,h5n,qa2,hl0,qqi] at hr;rw [ql hv];(conv=>whnf);refine AppV.cell q0w u64I u64Z Ok rfl (by decide +kernel) hr hnb rfl Oo ?_;intro A' c' w8 ho hch hnew;have hch:Chn (rowF (G (2*k))) wd w8:=by rw [e0,hl0];exact hch
     have hnew:∀ j∈rowF (.slice A' ((L5 (2*k)).length+1) c'),(j∈rowF (G (2*k))∨wd.heap.size≤j)∧j<w8.heap.size:=by rw [e0,hl0,hl5];exact hnew
     (conv=>whnf);exact ⟨trivial,.inr (.inl ⟨h12,rfl,h16,A',c',(by rw [hl5];rfl),hRd.chg Oo (by rw [zla,List.length_singleton,qqi,h5n,qa2];exact ho) hch hnew⟩)⟩
    refine zg ?_;refine zg ?_;refine StepG.any (fun S vals wd hk hp hI=>?_) (zw ?_)
    ·dsimp only at hI;have h13:S 13=true:=hp 13 Od;have h4:S 4=true:=hp 4 Od;rw [hk,h13] at hI;obtain ⟨h12,A',c',hv,hRd⟩:=hI.sixteen;rw [ql hv];(conv=>whnf);show StoreV _ rb (0+k*tsz Tryz.prog 151+0) _ _;rw [t2,show 0+k*2+0=2*k by omega];refine hRd.store Oo rfl ?_;intro w9 hR9;exact ⟨trivial,.inr (.inr ⟨h4,h12,h13,rfl,_,hR9⟩)⟩
    intro vals w6 hI;obtain ⟨G6,hR6⟩:=hI.end_;clear hI;obtain ⟨A6,c6,e6⟩:=q8 (hR6.row (2*k+1) Oo);rw [qba _ _ _ (show 2*k+1≠2*k by omega),h5o,qfr,hXl] at e6;(conv=>whnf);refine LoadV.own hR6.tab (v:=.slice A6 (nuT Q k i).length c6) (by rw [t2];show (fnA 8 G6)[0+k*2+1]?=_;rw [show 0+k*2+1=2*k+1 by omega,qan 8 G6 _ Oo,e6]) (zw ?_);refine ⟨fun nb w7 hnb hw=>?_⟩;have he7:Ext w6 w7:=by rw [hw];exact (Ext.refl w6).alloc _
    have hc7:w7.heap[nb]?=some (.cells #[.bool false] 4):=by rw [hw,hnb];exact heap_alloc_new w6 _
    clear hnb hw;have hR7:=hR6.call he7;have hr7:=hR7.row (2*k+1) Oo;rw [e6,qba _ _ _ (show 2*k+1≠2*k by omega),h5o,qfr,hXl,qxz] at hr7;(conv=>whnf);refine AppV.cell q83 booI booZ Ok rfl (by decide +kernel) hr7 hc7 rfl Oo ?_;intro A8 c8 w8 ho hch hnew;rw [← e6] at hch hnew;have hR8:=hR7.chg (m:=2*k+1) Oo (v:=.slice A8 ((nuT Q k i).length+1) c8) (x:=boV (X++[false])) (by
     rw [qfr,zla,List.length_singleton,hXl,qxz,boV,List.map_append];exact ho) hch hnew
    (conv=>whnf);show StoreV _ rb (0+k*tsz Tryz.prog 151+1) _ _;rw [t2,show 0+k*2+1=2*k+1 by omega];refine hR8.store Oo rfl ?_;intro w9 hR9;refine zu ?_;rw [h5n] at hR9;exact ⟨k+1,⟨rfl,rfl,rfl,rfl,congrArg Value.bool hsl5,congrArg (Value.int .i64) Oo,trivial⟩,⟨by omega,_,hR9.eqL fun m _=>q4u hf hX (fun m _ h2=>hL5 m h2) m⟩,by omega⟩
  ·obtain rfl:k=4:=by omega
   exact ⟨i+1,⟨rfl,rfl,rfl,congrArg (Value.int .i64) Oo,trivial⟩,⟨by omega,G,hR.eqL fun m hm=>q4t Q i hm⟩,by omega⟩
 ·obtain rfl:i=n:=by omega
  refine qe (fun k:Nat=>[(2,pp r2),(3,pp rb),(10,ii k)])
   (fun k w'=>k≤4∧∃ G,RdS w1 w' rb G G (LfQ Q i k)) (fun k=>4-k) 0 ⟨rfl,rfl,rfl,trivial⟩ ⟨by omega,G,hR.eqL fun m _=>q1d Q i m⟩ ?_
  clear hR;rintro k w4 ρ2 ⟨k1,G,hR⟩;(conv=>whnf);refine zC (fun _=>zu ?_) (fun _=>zu ?_)
  ·have hk4:k<4:=by omega
   obtain ⟨A0,c0,e0⟩:=q8 (hR.row (2*k) Oo);obtain ⟨A1,c1,e1⟩:=q8 (hR.row (2*k+1) Oo);have hl0:(LfQ Q i k (2*k)).length=(nuT Q k i).length:=by rw [qsg,qa2]
   have hsl:(stJ Q k i).length=(nuT Q k i).length:=qb5 Q k i;have hl1:(LfQ Q i k (2*k+1)).length=(nuT Q k i).length:=by rw [qqc,qfr,qbj,hsl]
   have o0:(fnA 8 G)[0+k*tsz Tryz.prog 151+0]?=some (.slice A0 (nuT Q k i).length c0):=by rw [t2,show 0+k*2+0=2*k by omega,qan 8 G _ Oo,e0,hl0]
   have o1:(fnA 8 G)[0+k*tsz Tryz.prog 151+1]?=some (.slice A1 (nuT Q k i).length c1):=by rw [t2,show 0+k*2+1=2*k+1 by omega,qan 8 G _ Oo,e1,hl1]
   have hnk:=hns k i i1;refine LoadV.own hR.tab o0 (zw ?_);refine zC (fun _=>zu ?_) (fun _=>zu ?_)
   ·refine LoadV.own hR.tab o1 (zu ?_);obtain ⟨g,hA1,hst⟩:=hR.cell (m:=2*k+1) (j:=(stJ Q k i).length-1) Oo (by rw [hl1];omega) e1 (v:=.bool true) rfl;subst hA1;refine ElemV.own1 ((stJ Q k i).length-1) Oo Oo (zw ?_);refine hst _ ?_;clear hR hst;intro w5 hR;refine zu ?_;exact ⟨k+1,⟨rfl,rfl,congrArg (Value.int .i64) Oo,trivial⟩,⟨by omega,G,hR.eqL fun m _=>qsh Q i k m⟩,by omega⟩
   ·exact ⟨k+1,⟨rfl,rfl,congrArg (Value.int .i64) Oo,trivial⟩,⟨by omega,G,hR.eqL fun m _=>q4s Oo m⟩,by omega⟩
  ·obtain rfl:k=4:=by omega
   have hln:∀ m,m<8→(LfQ Q i 4 m).length=leT Q (m/2) i:=fun m hm=>by
    rw [LfQ]
    split
    ·rw [qfr,qfv,qb5]
    ·rename_i g
     rw [LdQ]
     split
     ·rw [qa2];rfl
     ·exfalso;omega
   have hsl:∀ m,∃ A c,m<8→G m=.slice A (leT Q (m/2) i) c:=fun m=>by
    by_cases hm:m<8
    ·obtain ⟨A,c,e⟩:=q8 (hR.row m hm);exact ⟨A,c,fun _=>by rw [e,hln m hm]⟩
    ·exact ⟨none,0,fun h=>absurd h hm⟩
   obtain ⟨AA,hsl⟩:=Classical.axiomOfChoice hsl;obtain ⟨CC,hsl⟩:=Classical.axiomOfChoice hsl;obtain ⟨vs,evs⟩:∃ vs,vs=[Value.slice (AA 0) (leT Q 0 i) (CC 0),.slice (AA 1) (leT Q 0 i) (CC 1),.slice (AA 2) (leT Q 1 i) (CC 2),.slice (AA 3) (leT Q 1 i) (CC 3),.slice (AA 4) (leT Q 2 i) (CC 4),.slice (AA 5) (leT Q 2 i) (CC 5),.slice (AA 6) (leT Q 3 i) (CC 6),.slice (AA 7) (leT Q 3 i) (CC 7)]:=⟨_,rfl⟩
   have hfv:(fnA 8 G)=vs.toArray:=by
    rw [evs,fnA,show List.range 8=[0,1,2,3,4,5,6,7] from rfl];simp only [List.map_cons,List.map_nil];rw [hsl 0 Od,hsl 1 Od,hsl 2 Od,hsl 3 Od,hsl 4 Od,hsl 5 Od,hsl 6 Od,hsl 7 Od]
   have htab:=hR.tab;rw [hfv] at htab;have hcs:=CellsAt.heap htab;have hone:∀ v∈vs,v.oneCell'=true:=by
    rw [evs];simp [Value.oneCell']
   have hvl:vs.length=8:=by rw [evs];rfl
   have hr4:=hR.sep.ext.get hr2c;rw [evs] at hcs;refine LoadA.cells hcs rfl (zw ?_);rw [← evs];refine StoreA.blk hr4 (by rw [hvl];exact Nat.le_refl _) hone ?_;intro w5 hc5 hg5;have hr2l:r2<w1.heap.size:=qa5 hr2c;have hfar:∀ m (hm:m<8),∀ k∈rowF (G m),w5.heap[k]?=w4.heap[k]?:=fun m hm k hk=>by
    have:=hR.sep.at_ (qfo [] rb G hm) k hk;exact hc5.block k this.2 fun g=>by rw [List.mem_singleton.1 g] at this;omega
   have hg5:w5.heap[r2]?=some (.cells vs.toArray 152):=by
    rw [hg5]
    congr 3
    rw [hvl];simp
   (conv=>whnf);refine qaa (R:=fun r w'=>LvlR Q i w' r∧Ext w w') ?_;have hc6:=CellsAt.heap hg5;rw [evs] at hc6;(conv=>whnf);refine LoadA.cells hc6 rfl (zw ?_);refine ⟨⟨fun j=>AA (2*j),fun j=>AA (2*j+1),fun j=>CC (2*j),fun j=>CC (2*j+1),rfl,fun j hj=>?_,fun j hj=>?_⟩,hc5.ext (he1.trans hR.sep.ext) fun k hk=>by rw [List.mem_singleton.1 hk];exact hr2n⟩
   ·have hr:=qo (hR.row (2*j) Oo) (hfar (2*j) Oo);rw [hsl (2*j) Oo,qsg,qa2,qqi,show 2*j/2=j by omega] at hr;exact qjp hr rfl
   ·have hr:=qo (hR.row (2*j+1) Oo) (hfar (2*j+1) Oo);rw [hsl (2*j+1) Oo,qsf Q i hj,qfr,qfv,qb5,qxz,show (2*j+1)/2=j by omega] at hr;exact qjo (f:=Value.bool) hr (by rw [qfv,qb5])
def PvI (w0 w6:World) (l x y:LB) (s5 s11 s12 s13:Bool) (v5 v11 v12 v13:Value) (w':World):Prop:=
 (s12=false∧s13=false∧Ext w6 w'∧(s5=true→∃ A c,v5=.slice A x.length c∧SlAt encB 1 w' A x)∧(s11=true→s5=true∧∃ A c,v11=.slice A y.length c∧SlAt encB 1 w' A y))∨
 (s5=true∧s11=true∧s12=true∧∃ A c,v12=.slice A (l++y).length c∧RowS w0 w' (.slice A (l++y).length c) (l++y)∧(s13=true→v13=v12))
section
variable {w0 w6 w' w2:World} {l x y:LB} {s5 s11 s12 s13:Bool} {v5 v11 v12 v13:Value}
theorem PvI.start (he:Ext w6 w'):PvI w0 w6 l x y false false false false v5 v11 v12 v13 w':=.inl ⟨rfl,rfl,he,(fun h=>(by cases h)),(fun h=>(by cases h))⟩
theorem PvI.ext (h:PvI w0 w6 l x y s5 s11 s12 s13 v5 v11 v12 v13 w') (h0:Ext w0 w6):Ext w0 w':=by
 rcases h with ⟨_,_,h,_⟩|⟨_,_,_,_,_,_,h,_⟩
 ·exact h0.trans h
 ·exact h.ext
theorem PvI.five (h:PvI w0 w6 l x y false s11 s12 s13 v5 v11 v12 v13 w') (he:Ext w' w2) {A:oA} {c:Nat} (hS:SlAt encB 1 w2 A x):PvI w0 w6 l x y true s11 s12 s13 (.slice A x.length c) v11 v12 v13 w2:=by
 rcases h with ⟨h1,h2,h3,_,h5⟩|⟨h,_⟩
 ·exact .inl ⟨h1,h2,h3.trans he,fun _=>⟨A,c,rfl,hS⟩,fun g=>(by cases (h5 g).1)⟩
 ·cases h
theorem PvI.at5 (h:PvI w0 w6 l x y true false s12 s13 v5 v11 v12 v13 w'):∃ A c,v5=.slice A x.length c∧SlAt encB 1 w' A x:=by
 rcases h with ⟨_,_,_,h,_⟩|⟨_,h,_⟩
 ·exact h rfl
 ·cases h
theorem PvI.eleven (h:PvI w0 w6 l x y true false s12 s13 v5 v11 v12 v13 w') (he:Ext w' w2) {A:oA} {c:Nat} (hS:SlAt encB 1 w2 A y):PvI w0 w6 l x y true true s12 s13 v5 (.slice A y.length c) v12 v13 w2:=by
 rcases h with ⟨h1,h2,h3,h4,_⟩|⟨_,h,_⟩
 ·obtain ⟨B,d,h5,h6⟩:=h4 rfl;exact .inl ⟨h1,h2,h3.trans he,fun _=>⟨B,d,h5,h6.ext he⟩,fun _=>⟨rfl,A,c,rfl,hS⟩⟩
 ·cases h
theorem PvI.at11 (h:PvI w0 w6 l x y s5 true false s13 v5 v11 v12 v13 w'):s5=true∧s13=false∧Ext w6 w'∧∃ A c,v11=.slice A y.length c∧SlAt encB 1 w' A y:=by
 rcases h with ⟨_,h2,h3,_,h5⟩|⟨_,_,h,_⟩
 ·exact ⟨(h5 rfl).1,h2,h3,(h5 rfl).2⟩
 ·cases h
theorem PvI.at12 (h:PvI w0 w6 l x y s5 s11 true s13 v5 v11 v12 v13 w'):s5=true∧s11=true∧∃ A c,v12=.slice A (l++y).length c∧RowS w0 w' (.slice A (l++y).length c) (l++y)∧(s13=true→v13=v12):=by
 rcases h with ⟨h,_⟩|⟨h1,h2,_,h3⟩
 ·cases h
 ·exact ⟨h1,h2,h3⟩
end
def lvV (Q:Nat→Nat→Nat) (n:Nat) (NA LA:Nat→oA) (NC LC:Nat→Nat) (m:Nat):Value:=if m%2=0 then .slice (NA (m/2)) (leT Q (m/2) n) (NC (m/2)) else .slice (LA (m/2)) (leT Q (m/2) n) (LC (m/2))
theorem q2o (Q:Nat→Nat→Nat) (n:Nat) (NA LA:Nat→oA) (NC LC:Nat→Nat) {k:Nat} (hk:k<4):((List.range 8).map (lvV Q n NA LA NC LC))[2*k]?=some (.slice (NA k) (leT Q k n) (NC k)):=by
 rw [List.getElem?_map,List.getElem?_range Oo,Option.map_some,lvV,if_pos Oo,show 2*k/2=k by omega]
theorem q50 (Q:Nat→Nat→Nat) (n:Nat) (NA LA:Nat→oA) (NC LC:Nat→Nat) {k:Nat} (hk:k<4):((List.range 8).map (lvV Q n NA LA NC LC))[2*k+1]?=some (.slice (LA k) (leT Q k n) (LC k)):=by
 rw [List.getElem?_map,List.getElem?_range Oo,Option.map_some,lvV,if_neg Oo,show (2*k+1)/2=k by omega]
theorem qrg (Q:Nat→Nat→Nat) (A:oA) (n c:Nat) (w:World) (hS:SlAt idsE 4 w A ((List.range n).map Q)) (hQ:TOk Q n) :
  Gv Tryz.prog 50 [.slice A n c,ii 1099511627776] w fun r w'=>∃ v,r=.tuple #[v,ii 0]∧NewS 5 w w' v (qgy Q n):=by
 have hnl:=hQ.nle;have hle:=hQ.le;have hlen:((List.range n).map Q).length=n:=by simp
 have hat:∀ i (hi:i<((List.range n).map Q).length),((List.range n).map Q)[i]=Q i:=fun i hi=>by simp
 have t2:tsz Tryz.prog 151=2:=by kernel_rfl
 have hwl:=quj hQ;have hxl:=fun {k:Nat} (hk:k≤4)=>q4k hQ hk
 refine ze Tryz.func50 Tryz.ntmps50 ?_;refine zv ?_;refine qe (fun i:Nat=>[(0,.slice A n c),(1,ii 1099511627776),(6,ii i)]) (fun i w1=>i≤n∧Ext w w1) (fun i=>n-i) 0 ⟨rfl,rfl,rfl,trivial⟩ ⟨Nat.zero_le _,Ext.refl w⟩ ?_;rintro i w1 ρ' ⟨i1,he1⟩;(conv=>whnf);refine zC (fun _=>zw ?_) (fun _=>zw ?_)
 ·have hi:i<n:=by omega
  refine ElemV.sl (hS.ext he1) hlen i rfl hi ?_;intro eb eo hcell;rw [hat] at hcell;(conv=>whnf);refine LoadA.cells hcell rfl (zw ?_);refine zcv (qrf Q n hQ hi w1) ?_;rintro r w2 ⟨rfl,he2⟩;refine zu ?_;exact ⟨i+1,⟨rfl,rfl,congrArg (Value.int .i64) Oo,trivial⟩,⟨by omega,he1.trans he2⟩,by omega⟩
 ·obtain rfl:i=n:=by omega
  refine qe (fun k:Nat=>[(0,.slice A i c),(1,ii 1099511627776),(8,ii (k+1:Nat))]) (fun k w1=>Ext w w1) (fun k=>i-k) 0 ⟨rfl,rfl,rfl,trivial⟩ he1 ?_;rintro k w2 ρ2 he2;(conv=>whnf);refine zC (fun _=>zw ?_) (fun _=>zw ?_)
  ·have hk:k+1<i:=by omega
   obtain ⟨b,off,rfl,hcl⟩:=(hS.ext he2).at_ (by intro e;rw [e] at hlen;simp at hlen;omega);have hca:=(hcl k _ (zge (by rw [hlen];omega))).ext (Ext.refl w2).drew;have hcb:=(hcl (k+1) _ (zge (by rw [hlen];omega))).ext (Ext.refl w2).drew;rw [hat] at hca hcb;obtain ⟨kk,hk4,hsame,hlt⟩:=hQ.rise (k+1) Oo hk;refine DrawV.free rfl Ok (zw ?_);(iterate 3 (refine zd ?_));refine zf ?_ (by intro wd hd;(conv=>whnf);refine ⟨⟨b,off,k,rfl,by omega,by omega,?_⟩⟩;exact ⟨xr,rfl⟩);apply zsd
   ·intro wd hd;(conv=>whnf);refine LoadA.cells (hca.ext hd) rfl (zw ?_);exact ⟨xr,rfl⟩
   (conv=>whnf);refine zd ?_;refine zd ?_;refine zf ?_ (by intro wd hd;(conv=>whnf);refine ⟨⟨b,off,(k+1),rfl,by omega,by omega,?_⟩⟩;exact ⟨xr,rfl⟩);apply zsd
   ·intro wd hd;(conv=>whnf);refine LoadA.cells (hcb.ext hd) rfl (zw ?_);exact ⟨xr,rfl⟩
   (conv=>whnf);apply zsd
   ·intro wd hd;(conv=>whnf);refine zcv (ql9 (Q k) (Q (k+1)) wd hk4 (fun j hj=>(hsame j hj).symm) hlt) ?_;rintro v w7 ⟨rfl,he⟩;exact ⟨he,rfl⟩
   (conv=>whnf);refine zd ?_;intro wd hd;have he3:=(he2.drew).trans hd;refine zu ?_;exact ⟨k+1,⟨rfl,rfl,congrArg (Value.int .i64) Oo,trivial⟩,he3,by omega⟩
  ·refine zcv (qou Q A i c w2 (hS.ext he2) hQ) ?_;rintro r w3 ⟨⟨NA,LA,NC,LC,rfl,hN,hL⟩,he3⟩;(conv=>whnf);refine znm (Mem.nil w3) fun rb w4 hm=>zw ?_;refine StoreA.all (vs:=(List.range 8).map (lvV Q i NA LA NC LC)) hm (i:=0) rfl rfl (fun v hv=>by
    obtain ⟨m,_,rfl⟩:=List.mem_map.1 hv;rw [lvV];split<;>rfl) ?_
   intro w5 hm;have hcs:CellsAt w5 rb 0 ((List.range 8).map (lvV Q i NA LA NC LC)):=CellsAt.mem hm mh;have he5:Ext w w5:=he2.trans (he3.trans hm.ext);have hN:=fun j hj=>(hN j hj).ext hm.ext
   have hL:=fun j hj=>(hL j hj).ext hm.ext
   clear hm;have hld:∀ {w'},Ext w5 w'→∀ {k},k<4→w'.cell? ⟨rb,0+k*tsz Tryz.prog 151+0,none⟩=some (.slice (NA k) (leT Q k i) (NC k)):=fun he k hk=>by
    rw [t2,show 0+k*2+0=0+2*k by omega];exact (hcs.ext he) (2*k) _ (q2o Q i NA LA NC LC hk)
   have hll:∀ {w'},Ext w5 w'→∀ {k},k<4→w'.cell? ⟨rb,0+k*tsz Tryz.prog 151+1,none⟩=some (.slice (LA k) (leT Q k i) (LC k)):=fun he k hk=>by
    rw [t2,show 0+k*2+1=0+(2*k+1) by omega];exact (hcs.ext he) (2*k+1) _ (q50 Q i NA LA NC LC hk)
   (conv=>whnf);refine qe (fun x:Nat × oA × Nat=>[(1,ii 1099511627776),(9,pp rb),(10,.slice x.2.1 (trW Q i x.1).length x.2.2),(11,ii x.1)])
    (fun x w'=>x.1≤4∧RowS w5 w' (.slice x.2.1 (trW Q i x.1).length x.2.2) (trW Q i x.1)) (fun x=>4-x.1) (0,none,0) ⟨rfl,rfl,rfl,rfl,trivial⟩ ⟨Nat.zero_le _,RowS.nil (Ext.refl w5)⟩ ?_
   rintro ⟨k,B,d⟩ w6 ρ3 ⟨k1,hO⟩;dsimp only at k1 hO ⊢;have hwk:=hwl k;(conv=>whnf);refine zC (fun _=>zu ?_) (fun _=>zu ?_)
   ·have hk4:k<4:=by omega
    have hlk:=hle k;have hlv:=qac 9 (leT Q k i) Oo;refine LoadV.of (hld hO.ext hk4) (zu ?_);refine zcv (qd5 (leT Q k i) w6 Oo) ?_;rintro r w7 ⟨⟨Bv,dv,rfl,hdv,hVS⟩,he7⟩;have hO:=hO.call he7;(conv=>whnf);refine hO.bys hVS Oo ?_;clear hO;intro B2 d2 w8 hO;refine zu ?_;exact ⟨(k+1,B2,d2),⟨rfl,rfl,rfl,congrArg (Value.int .i64) Oo,trivial⟩,⟨by show k+1≤4;omega,hO⟩,by show 4-(k+1)<4-k;omega⟩
   ·obtain rfl:k=4:=by omega
    refine qe (fun x:Nat × oA × Nat=>[(1,ii 1099511627776),(9,pp rb),(10,.slice x.2.1 (trX Q i x.1).length x.2.2),(12,ii x.1)])
     (fun x w'=>x.1≤4∧RowS w5 w' (.slice x.2.1 (trX Q i x.1).length x.2.2) (trX Q i x.1)) (fun x=>4-x.1) (0,B,d) ⟨rfl,rfl,rfl,rfl,trivial⟩ ⟨Nat.zero_le _,hO⟩ ?_
    clear hO;rintro ⟨k,B,d⟩ w7 ρ4 ⟨k2,hO⟩;dsimp only at k2 hO ⊢;have hxk:=hxl k2;(conv=>whnf);refine zC (fun _=>zu ?_) (fun _=>zu ?_)
    ·have hk4:k<4:=by omega
     have hlk:=hle k;have hwi:=hQ.wi hk4;have hlw:leT Q k i*wiT (nuT Q k i)≤1048576*23:=Nat.mul_le_mul hlk hwi;have hpl:=qbl (nuT Q k i) (wiT (nuT Q k i));have hnl2:(nuT Q k i).length=leT Q k i:=rfl;have hnb:∀ x∈nuT Q k i,x<18446744073709551616:=fun x hx=>by
      obtain ⟨j,hj,rfl⟩:=qhr hx;exact hQ.big hk4 j hj
     have hww:=qsa (nuT Q k i) (NA k) (leT Q k i) (NC k) w7 ((hN k hk4).ext hO.ext) rfl hnb Oo;have hpw:=fun w' he=>qpk (nuT Q k i) (wiT (nuT Q k i)) (NA k) (leT Q k i) (NC k) w' ((hN k hk4).ext he) rfl Oo (Nat.le_trans hlw Od) (q4b hQ hk4) Oo
     have ewm:wMx (nuT Q k i) (leT Q k i)=wiT (nuT Q k i):=rfl;rw [ewm] at hww;have hlv:lvB Q i k=UInt8.ofNat (wiT (nuT Q k i))::(qcs (nuT Q k i) (wiT (nuT Q k i))++(if k=0 then [] else qab (qat (stT Q (k-1) i)) (leT Q k i))):=rfl;obtain ⟨wi,ewi⟩:∃ wi,wi=wiT (nuT Q k i):=⟨_,rfl⟩
     rw [← ewi] at hlw hwi hpl hlv hww hpw;obtain ⟨pk,epk⟩:∃ pk,pk=qcs (nuT Q k i) wi:=⟨_,rfl⟩
     rw [hnl2] at hpl;rw [← epk] at hpl hlv hpw;obtain ⟨lw,elw⟩:∃ lw,lw=leT Q k i*wi:=⟨_,rfl⟩
     rw [← elw] at hlw hpl;refine LoadV.of (hld hO.ext hk4) (zw ?_);refine zcv (hww) ?_;rintro r w8 ⟨rfl,rfl⟩;refine zu ?_;refine ⟨fun nb w9 hnb hw=>?_⟩;have he9:Ext w8 w9:=by rw [hw];exact (Ext.refl w8).alloc _
     have hc9:w9.heap[nb]?=some (.cells #[.int .u8 (wi:Nat)] 5):=by rw [hw,hnb];exact heap_alloc_new w8 _
     clear hnb hw;have hO:=hO.call he9;(conv=>whnf);refine hO.one Oo hc9 Oo ?_;clear hO;intro B2 d2 w10 hO;have hl2:(trX Q i k++[UInt8.ofNat wi]).length=(trX Q i k).length+1:=by simp
     refine zu ?_;refine LoadV.of (hld hO.ext hk4) (zw ?_);refine zcv (hpw w10 hO.ext) ?_;rintro r w11 ⟨vp,rfl,hNp⟩;obtain ⟨Ap,cp,ep,_,hAp⟩:=hNp.bs;subst ep;have hO:=hO.call hNp.ext;(conv=>whnf);refine hO.bys hAp Oo ?_;clear hO;intro B3 d3 w12 hO;have hl3:(trX Q i k++[UInt8.ofNat wi]++pk).length=(trX Q i k).length+1+pk.length:=by rw [zla,hl2]
     (conv=>whnf);refine zC (fun _=>zu ?_) (fun _=>zu ?_)
     ·have hk0:k≠0:=by omega
      rw [if_neg hk0] at hlv;have hsl:(stT Q (k-1) i).length=leT Q k i:=by rw [qfz,Nat.sub_add_cancel Oo]
      have hlb:(qat (stT Q (k-1) i)).length=upN (leT Q k i) 8:=by rw [qcr,hsl]
      have hup:upN (leT Q k i) 8=(leT Q k i+7)/8:=rfl;have hx:qbm (boF (laN (stJ Q k i))) ((leT Q k i+7)/8)=qat (stT Q (k-1) i):=by rw [q77,q0n Q hk0,qat,hsl];rfl
      have hpk:=fun w' he=>qo4 (laN (stJ Q k i)) (LA k) (leT Q k i) (LC k) w' ((hL k hk4).ext he) (by rw [qfv,qb5]) Oo
      rw [hx] at hpk;have hwll:(qab (qat (stT Q (k-1) i)) (leT Q k i)).length≤1000000000:=by
       have hu:=qtg (Q:=Q) (k-1) i;rw [Nat.sub_add_cancel Oo] at hu;have hc:cnt (qat (stT Q (k-1) i)) (leT Q k i)≤leT Q k i:=qeh _ _;rw [qcf hlb];exact qr5 _ _ Oo hc
      have hwp:=fun B cb wd hB=>qwq (qat (stT Q (k-1) i)) B (qat (stT Q (k-1) i)).length cb (leT Q k i) wd hB rfl Oo Oo Oo
      obtain ⟨x,ex⟩:∃ x,x=qat (stT Q (k-1) i):=⟨_,rfl⟩
      rw [← ex] at hpk hwp hlv hwll;obtain ⟨y,ey⟩:∃ y,y=qab x (leT Q k i):=⟨_,rfl⟩
      rw [← ey] at hwp hlv hwll;have e2:trX Q i k++[UInt8.ofNat wi]++pk++y=trX Q i (k+1):=by rw [trX,hlv];simp
      generalize trX Q i k++[UInt8.ofNat wi]++pk=Z at *;have hOd:=hO.call (Ext.refl w12).drew;refine DrawV.genW (fun S vals w'=>PvI w5 w12.drew Z x y (S 5) (S 11) (S 12) (S 13) (vals 5) (vals 11) (vals 12) (vals 13) w') rfl Ok (fun vals=>PvI.start xr) (zw ?_);(iterate 4 (refine zg ?_));refine StepG.of (.slice (LA k) (leT Q k i) (LC k)) (fun S vals wd hk hp hI=>zw ?_) (zw ?_)
      ·refine LoadV.of (hll (hI.ext hOd.ext) hk4) (zw ?_);exact ⟨rfl,hI⟩
      refine StepG.any (fun S vals wd hk hp hI=>?_) (zw ?_)
      ·dsimp only at hI;rw [hk] at hI;(conv=>whnf);refine zcv (hpk wd (hI.ext hOd.ext)) ?_;rintro r wx hNx;obtain ⟨Ax,cx,rfl,_,hSx⟩:=hNx.bs;exact ⟨trivial,hI.five hNx.ext hSx⟩
      (iterate 3 (refine zg ?_));refine StepG.of (.slice (LA k) (leT Q k i) (LC k)) (fun S vals wd hk hp hI=>zw ?_) (zw ?_)
      ·refine LoadV.of (hll (hI.ext hOd.ext) hk4) (zw ?_);exact ⟨rfl,hI⟩
      refine zg ?_;refine StepG.any (fun S vals wd hk hp hI=>?_) (zw ?_)
      ·dsimp only at hI;have h5:S 5=true:=hp 5 Od;rw [hk,h5] at hI;obtain ⟨Ax,cx,hv,hSx⟩:=hI.at5;rw [hv] at hI;rw [ql hv];(conv=>whnf);refine zcv (hwp Ax cx wd hSx) ?_;rintro r wx ⟨⟨By,cy,rfl,hSy⟩,hex⟩;refine ⟨trivial,?_⟩;show PvI _ _ _ _ _ (S 5) true _ _ _ _ _ _ _;rw [h5];exact hI.eleven hex hSy
      refine StepG.any (fun S vals wd hk hp hI=>?_) (zw ?_)
      ·dsimp only at hI;have h11:S 11=true:=hp 11 Od;rw [hk,h11] at hI;obtain ⟨h5,h13,he,Ay,cy,hv,hSy⟩:=hI.at11;rw [ql hv];(conv=>whnf);refine (hOd.call he).bys hSy Oo ?_;intro A' c' w' hO';exact ⟨trivial,.inr ⟨h5,h11,rfl,A',c',rfl,hO',fun h=>absurd (h13.symm.trans h) Od⟩⟩
      refine StepG.any (fun S vals wd hk hp hI=>?_) (zw ?_)
      ·dsimp only at hI;have h12:S 12=true:=hp 12 Od;rw [hk,h12] at hI;obtain ⟨h5,h11,A',c',hv,hO',_⟩:=hI.at12;rw [ql hv];(conv=>whnf);exact ⟨trivial,.inr ⟨h5,h11,h12,A',c',rfl,hO',fun _=>rfl⟩⟩
      intro vals w13 hI;obtain ⟨_,_,A',c',hv,hO',h13⟩:=hI.at12;rw [ql ((h13 rfl).trans hv)];clear hI;rw [e2] at hO' ⊢;refine zu ?_;exact ⟨(k+1,A',c'),⟨rfl,rfl,rfl,congrArg (Value.int .i64) Oo,trivial⟩,⟨by show k+1≤4;omega,hO'⟩,by show 4-(k+1)<4-k;omega⟩
     ·rw [if_pos Oo] at hlv;have e:trX Q i k++[UInt8.ofNat wi]++pk=trX Q i (k+1):=by rw [trX,hlv];simp
      rw [e] at hO ⊢;exact ⟨(k+1,B3,d3),⟨rfl,rfl,rfl,congrArg (Value.int .i64) Oo,trivial⟩,⟨by show k+1≤4;omega,hO⟩,by show 4-(k+1)<4-k;omega⟩
    ·obtain rfl:k=4:=by omega
     rw [qru] at hO hxk ⊢;exact ⟨_,rfl,hO.new.back he5⟩
theorem qde (n:Nat) (w:World) (hn:n<4294967296):Gv Tryz.prog 84 [ii n] w fun r w'=>BS w' r (fixL n 4)∧Ext w w':=by
 refine ze Tryz.func84 Tryz.ntmps84 ?_;refine zv ?_;refine zcv (qli n w hn) ?_;rintro r w1 ⟨⟨A,c,rfl,hc,hS⟩,he⟩;(conv=>whnf);exact ⟨⟨A,c,rfl,hc,hS⟩,he⟩
theorem q0a (a b:Nat) (V T:LB) (A B:oA) (c d:Nat) (w:World) (ha:a<4294967296) (hb:b<4294967296) (hV:SlAt encB 1 w A V) (hT:SlAt encB 1 w B T) (hVl:V.length<4294967296) (hTl:T.length<4294967296) :
  Gv Tryz.prog 51 [ii a,ii b,.slice A V.length c,.slice B T.length d] w fun r w'=>NewS 5 w w' r (qm3 a b V T):=by
 have f4:=fun n=>qf n 4
 have s4:=fun p=>qnp p
 refine ze Tryz.func51 Tryz.ntmps51 ?_;refine ⟨fun nb w1 hnb hw=>?_⟩;have he1:Ext w w1:=by rw [hw];exact (Ext.refl w).alloc _
 have hg1:w1.heap[nb]?=some (.cells #[.int .u8 84,.int .u8 83,.int .u8 82,.int .u8 65] 5):=by rw [hw,hnb];exact heap_alloc_new w _
 have hO:RowS w w1 (.slice (some ⟨nb,0,none⟩) (fixL 1095914324 4).length 4) (fixL 1095914324 4):=⟨(Sep.of (Ext.refl w)).add (F:=[nb]) he1 (fun k hk=>by rw [List.mem_singleton.1 hk];exact ⟨by omega,qa5 hg1⟩),rfl,.inr ⟨nb,4,_,rfl,Nat.zero_le _,hg1,Nat.le_refl _,by decide,rfl,rfl⟩⟩
 clear hnb hw hg1;(conv=>whnf);refine zcv (qde 1 w1 Od) ?_;rintro r v1 ⟨⟨C1,d1,rfl,_,hS⟩,he⟩;have hO:=hO.call he;(conv=>whnf);refine hO.bys hS (by simp only [f4];omega) ?_;clear hO hS he;intro A2 c2 w2 hO;(conv=>whnf);refine zcv (qde a w2 ha) ?_;rintro r v2 ⟨⟨C2,d2,rfl,_,hS⟩,he⟩;have hO:=hO.call he;(conv=>whnf);refine hO.bys hS (by simp only [zla,f4];omega) ?_;clear hO hS he;intro A3 c3 w3 hO;(conv=>whnf);refine zcv (qde b w3 hb) ?_;rintro r v3 ⟨⟨C3,d3,rfl,_,hS⟩,he⟩;have hO:=hO.call he;(conv=>whnf);refine hO.bys hS (by simp only [zla,f4];omega) ?_;clear hO hS he;intro A4 c4 w4 hO;(conv=>whnf);refine zcv (qde V.length w4 hVl) ?_;rintro r v4 ⟨⟨C4,d4,rfl,_,hS⟩,he⟩;have hO:=hO.call he;(conv=>whnf);refine hO.bys hS (by simp only [zla,f4];omega) ?_;clear hO hS he;intro A5 c5 w5 hO;(conv=>whnf);refine zcv (qde T.length w5 hTl) ?_;rintro r v5 ⟨⟨C5,d5,rfl,_,hS⟩,he⟩;have hO:=hO.call he;(conv=>whnf);refine hO.bys hS (by simp only [zla,f4];omega) ?_;clear hO hS he;intro A6 c6 w6 hO;(conv=>whnf);have eH:fixL 1095914324 4++fixL 1 4++fixL a 4++fixL b 4++fixL V.length 4++fixL T.length 4=h24 a b V.length T.length:=by simp only [h24,List.append_assoc]
 rw [eH] at hO ⊢;have hHl:=qqp a b V.length T.length;have eP:h24 a b V.length T.length++sumL (h24 a b V.length T.length)++V++sumL V++T++sumL T=qm3 a b V T:=by simp only [qm3,List.append_assoc]
 obtain ⟨H,eH2⟩:∃ H,H=h24 a b V.length T.length:=⟨_,rfl⟩
 rw [← eH2] at hO hHl eP ⊢;refine zcv (qj7 H A6 H.length c6 w6 hO.sl rfl Oo) ?_;rintro r v6 ⟨⟨C6,d6,rfl,_,hS⟩,he⟩;have hO:=hO.call he;(conv=>whnf);refine hO.bys (m:=sumL H) hS (by rw [s4];omega) ?_;clear hO hS he;intro A7 c7 w7 hO;have h7:(H++sumL H).length=28:=by rw [zla,s4];omega
 (conv=>whnf);refine hO.bys (hV.ext hO.ext) Oo ?_;clear hO;intro A8 c8 w8 hO;have h8:(H++sumL H++V).length=28+V.length:=by rw [zla,h7]
 (conv=>whnf);refine zcv (qj7 V A V.length c w8 (hV.ext hO.ext) rfl Oo) ?_;rintro r v8 ⟨⟨C8,d8,rfl,_,hS⟩,he⟩;have hO:=hO.call he;(conv=>whnf);refine hO.bys (m:=sumL V) hS (by rw [s4];omega) ?_;clear hO hS he;intro A9 c9 w9 hO;have h9:(H++sumL H++V++sumL V).length=32+V.length:=by rw [zla,h8,s4];omega
 (conv=>whnf);refine hO.bys (hT.ext hO.ext) Oo ?_;clear hO;intro A10 c10 w10 hO;have h10:(H++sumL H++V++sumL V++T).length=32+V.length+T.length:=by rw [zla,h9]
 (conv=>whnf);refine zcv (qj7 T B T.length d w10 (hT.ext hO.ext) rfl Oo) ?_;rintro r v10 ⟨⟨C10,d10,rfl,_,hS⟩,he⟩;have hO:=hO.call he;(conv=>whnf);refine hO.bys (m:=sumL T) hS (by rw [s4];omega) ?_;clear hO hS he;intro A11 c11 w11 hO;rw [eP] at hO ⊢;(conv=>whnf);exact hO.new
theorem q2c (T:List TM) (q:Q4) {i:Nat} (h:noT T (gat q i)=0):fnA 4 (inF (idF T q i))=fnA 4 (inF (idF T q (i+1))):=by
 refine qjc fun j hj=>?_;rw [inF,inF,idF,idF]
 congr 1
 by_cases e:j=i
 ·subst e;rw [if_neg (Nat.lt_irrefl _),if_pos (Nat.lt_succ_self _),h];rfl
 ·by_cases h:j<i
  ·rw [if_pos h,if_pos Oo]
  ·rw [if_neg h,if_neg Oo]
theorem q3e (T:List TM) (hr:RiseT T) (A:oA) (c:Nat) (q:Q4) (hq:∀ k,k<4→gat q k∈T∨gat q k=zTM) (_:∀ t∈T,1≤t.kind) (hl:T.length≤16777216) (w:World) (hS:SlAt encT 4 w A T) :
  Gv Tryz.prog 49 [.slice A T.length c,qef q] w fun r w'=>r=idsV (fun k=>noT T (gat q k))∧Ext w w':=by
 have t1:tsz Tryz.prog 3=1:=by kernel_rfl
 have t4:tsz Tryz.prog 24=4:=by kernel_rfl
 refine ze Tryz.func49 Tryz.ntmps49 ?_;refine znm (Mem.nil w) fun b3 w1 hm=>zw ?_;refine znm hm fun b4 w2 hm=>zw ?_;refine znm hm ?_;intro b5 w3 hm;have hc:CellsAt w3 b3 0 (q7 q):=CellsAt.mem hm (zmg (i:=2) rfl);(conv=>whnf);refine LoadA.cells (qi hc 3 Oo) rfl (zw ?_);refine LoadA.cells (qi hc 0 Oo) rfl (zw ?_);refine LoadA.cells (qi hc 1 Oo) rfl (zw ?_);refine LoadA.cells (qi hc 2 Oo) rfl (zw ?_);refine znm hm fun b6 w4 hm=>zw ?_;refine StoreA.all (vs:=q7 (gQ q)) hm (i:=0) rfl rfl (qct _) fun w5 hm=>zw ?_;refine qe (fun k:Nat=>[(0,.slice A T.length c),(4,pp b4),(5,pp b5),(6,pp b6),(7,ii k)])
  (fun k w'=>k≤4∧Mem w w' [(b6,.cells (q7 (gQ q)).toArray 131),(b5,.cells (fnA 4 (inF (idF T q k))) 101),(b4,.cells #[ii 0,ii 0,ii 0,ii 0] 101),(b3,.cells (q7 q).toArray 26)]) (fun k=>4-k) 0 ⟨rfl,rfl,rfl,rfl,rfl,trivial⟩ ⟨by omega,hm⟩ ?_
 clear hm;rintro k w6 ρ' ⟨k1,hm⟩;(conv=>whnf);refine zC (fun _=>zw ?_) (fun _=>zw ?_)
 ·have hk4:k<4:=by omega
  have hc6:CellsAt w6 b6 (0+k*4) (encT (gat q k)):=by rw [← q5m q hk4];exact qi (CellsAt.mem hm mh) k hk4
  obtain ⟨t,et⟩:∃ t,t=gat q k:=⟨_,rfl⟩
  have htq:=hq k hk4;rw [← et] at hc6 htq;refine qe (fun x:Nat × Nat=>[(0,.slice A T.length c),(4,pp b4),(5,pp b5),(6,pp b6),(7,ii k),(8,ii x.1),(9,ii x.2)])
   (fun x w'=>x.1≤x.2∧x.2≤T.length∧(∀ p,T[p]?=some t→x.1≤p∧p≤x.2)∧Ext w6 w') (fun x=>x.2-x.1) (0,T.length) ⟨rfl,rfl,rfl,rfl,rfl,rfl,rfl,trivial⟩ ⟨Nat.zero_le _,Nat.le_refl _,fun p hp=>⟨Nat.zero_le _,Nat.le_of_lt (List.getElem?_eq_some_iff.1 hp).1⟩,Ext.refl w6⟩ ?_
  rintro ⟨lo,hi⟩ w7 ρ2 ⟨x1,x2,x3,he7⟩;dsimp only at x1 x2 x3 he7 ⊢;(conv=>whnf);refine zC (fun _=>zu ?_) (fun _=>zu ?_)
  ·obtain ⟨m,em⟩:∃ m,m=(lo+hi)/2:=⟨_,rfl⟩
   have em2:((lo:Int)+(hi:Int))/2=(m:Int):=by omega
   have hm1:m<T.length:=by omega
   rw [em2];obtain ⟨tb,tof,rfl,hat⟩:=hS.at_ (by intro e;rw [e] at hm1;cases hm1);have hcell:=(hat m _ (zge hm1)).ext (hm.ext.trans he7.drew);have hc7:=hc6.ext he7.drew;obtain ⟨u,eu⟩:∃ u,u=T[m]:=⟨_,rfl⟩
   have hum:T[m]?=some u:=by rw [eu];exact zge hm1
   rw [← eu] at hcell;refine DrawV.free rfl Ok (zw ?_);refine zd ?_;refine zd ?_;apply zsd
   ·intro wd hd;(conv=>whnf);refine ⟨⟨tb,tof,m,rfl,rfl,hm1,?_⟩⟩;exact ⟨xr,rfl⟩
   (conv=>whnf);apply zsd
   ·intro wd hd;(conv=>whnf);refine LoadA.cells (hcell.ext hd) rfl (zw ?_);exact ⟨xr,rfl⟩
   (conv=>whnf);refine zd ?_;refine zd ?_;apply zsd
   ·intro wd hd;(conv=>whnf);refine LoadA.cells (vs:=encT t) (by rw [t4];exact hc7.ext hd) rfl (zw ?_);exact ⟨xr,rfl⟩
   (conv=>whnf);apply zsd
   ·intro wd hd;(conv=>whnf);refine zcv (qax u t wd) ?_;rintro v w8 ⟨rfl,he⟩;exact ⟨he,rfl⟩
   (conv=>whnf);refine zd ?_;intro w8 he8;have he8:Ext w6 w8:=he7.drew.trans he8;(conv=>whnf);refine zC (fun _=>zu ?_) (fun _=>zu ?_)
   ·have hlt:LtT u t:=qbi.1 Oo;exact ⟨(m+1,hi),⟨rfl,rfl,rfl,rfl,rfl,congrArg (Value.int .i64) Oo,rfl,trivial⟩,⟨by show m+1≤hi;omega,x2,fun p hp=>⟨hr.lt hum hp hlt,(x3 p hp).2⟩,he8⟩,by show hi-(m+1)<hi-lo;omega⟩
   ·refine ⟨(lo,m),⟨rfl,rfl,rfl,rfl,rfl,rfl,rfl,trivial⟩,⟨by show lo≤m;omega,by show m≤T.length;omega,fun p hp=>⟨(x3 p hp).1,Nat.not_lt.1 fun g=>?_⟩,he8⟩,by show m-lo<hi-lo;omega⟩;have:=qbi.2 (hr.at g hum hp);omega
  ·have e:lo=hi:=by omega
   subst e;have hm:=hm.call he7;have hc7:=hc6.ext he7;have t4b:0+k*tsz Tryz.prog 24+0=0+k*4:=by rw [t4];rfl
   refine LoadV.of (by show w7.cell? ⟨b6,0+k*tsz Tryz.prog 24+0,none⟩=some (ii t.kind);rw [t4b];exact hc7 0 _ rfl) (zw ?_)
   by_cases hk0:t.kind=0
   ·have hno:noT T (gat q k)=0:=by rw [← et];exact qis hk0
    refine zv ?_;rw [q2c T q hno] at hm;exact ⟨k+1,⟨rfl,rfl,rfl,rfl,congrArg (Value.int .i64) Oo,trivial⟩,⟨by omega,hm⟩,by omega⟩
   ·have htm:t∈T:=htq.resolve_right fun e=>hk0 (by rw [e];rfl)
    obtain ⟨p,hp⟩:=List.mem_iff_getElem?.1 htm;have hpl:=x3 p hp;have ep:p=lo:=by omega
    subst ep;have hno:noT T (gat q k)=p+1:=by rw [← et];exact qtr hr hp hk0
    refine zv ?_;have es:((p:Int)+1)=((noT T (gat q k):Nat):Int):=by rw [hno];rfl
    rw [es];show StoreV _ b5 (0+k*tsz Tryz.prog 3) _ _;rw [t1,show 0+k*1=k by omega];refine StoreV.mem hm (i:=1) rfl (by rw [qn];omega) rfl ?_;clear hm;intro w8 hm;have hm:Mem w w8 [(b6,.cells (q7 (gQ q)).toArray 131),(b5,.cells ((fnA 4 (inF (idF T q k))).setIfInBounds k (ii (noT T (gat q k):Nat))) 101),(b4,.cells #[ii 0,ii 0,ii 0,ii 0] 101),(b3,.cells (q7 q).toArray 26)]:=hm;rw [qyj T q hk4] at hm;refine zu ?_;exact ⟨k+1,⟨rfl,rfl,rfl,rfl,congrArg (Value.int .i64) Oo,trivial⟩,⟨by omega,hm⟩,by omega⟩
 ·obtain rfl:k=4:=by omega
  refine zl hm 1 ?_;refine zS hm 2 fun w8 hm=>zw ?_;refine qaa (R:=fun v w'=>v=idsV (fun k=>noT T (gat q k))∧Ext w w') (zw ?_);refine zl hm 2 ?_;exact ⟨rfl,hm.ext⟩
theorem q64 {Q:Nat→Nat→Nat} {n:Nat} (h:TOk Q n):(qgy Q n).length≤4200000000:=by
 have h0:=quj h 4;have h1:=h.lvLen (k:=0);have h2:=h.le 0;have h3:=h.wi (k:=0) Od;have h4:leT Q 0 n*wiT (nuT Q 0 n)≤1048576*23:=Nat.mul_le_mul h2 h3;rw [if_pos rfl] at h1;have b1:=qtj h (k:=1) Od;have b2:=qtj h (k:=2) Od;have b3:=qtj h (k:=3) Od;rw [← qru];simp only [trX,zla];omega
theorem qrc (qs:List Q4) (A:oA) (n c:Nat) (most:Int) (w:World) (hS:SlAt q7 16 w A qs) (hn:qs.length=n) (hb:n≤140737488355328) (_:InR .i64 most) (hq:∀ q∈qs,qci q) :
  Gv Tryz.prog 27 [.slice A n c,ii most] w fun r w'=>EncR qs most w w' r:=by
 subst hn;refine ze Tryz.func27 Tryz.ntmps27 ?_;refine zcv (qrk qs A qs.length c w hS rfl hb hq) ?_;rintro r w1 (⟨e,h0,he,rfl,he1⟩|⟨hv,hvo,v,rfl,hN⟩)
 ·have hee:encE qs most=e:=by
   rw [he]
   by_cases c1:valE qs≠0
   ·rw [if_pos c1,qs4 c1]
   ·rw [if_neg c1];rw [if_neg c1] at he;exact qs5 Oo (by rw [← he];exact h0)
  have h1:¬ ((e:Nat):Int)=0:=by omega
  refine zu ?_;exact .inl ⟨by rw [hee];exact h0,by rw [hee],he1⟩
 have hlq:=(qdm hv).1;have hnt:=qnr hv;have hset:=qui hv hnt;have eT2:tmsN (trms qs).length (trms qs)=tmsQ qs:=rfl;obtain ⟨T,eT⟩:∃ T,T=tmsQ qs:=⟨_,rfl⟩
 have hterm:∀ t∈T,qas t=0∧1≤t.kind∧t.kind≤3:=fun t ht=>qe0 hv (by rw [← eT];exact ht)
 have hrise:RiseT T:=by rw [eT];exact qgx qs
 rw [← eT] at hvo hN hnt hset eT2;have hvl:(vocB T).length≤210000030:=by
  have hd:=qlo hvo;have h1:=qh1 (T:=T) (i:=3) Oo hd;have h2:=qr6 (T:=T) (i:=3) Oo hd;rw [← q7f,zla];omega
 obtain ⟨Av,cv,ev,hcv,hVS⟩:=hN.bs;subst ev;refine zu ?_;refine zcv (qib qs A c w1 (hS.ext hN.ext) Oo) ?_;rintro r w2 ⟨⟨B,d,rfl,hd,hTS⟩,he2⟩;rw [eT2] at hd hTS ⊢;have hVS:=hVS.ext he2;(conv=>whnf);refine qe (fun x:Nat × oA × Nat=>[(0,.slice A qs.length c),(1,ii most),(6,.slice Av (vocB T).length cv),(8,.slice B T.length d),(9,.slice x.2.1 x.1 x.2.2),(10,ii x.1)])
  (fun x w'=>x.1≤qs.length∧Rw w2 w' (.slice x.2.1 x.1 x.2.2) 101 4 x.1 (qk4 T qs x.1) []) (fun x=>qs.length-x.1) (0,none,0) ⟨rfl,rfl,rfl,rfl,rfl,rfl,trivial⟩ ⟨Nat.zero_le _,Rw.nil (Mem.nil w2)⟩ ?_
 rintro ⟨i,D,e⟩ w3 ρ' ⟨i1,hR⟩;dsimp only at i1 hR ⊢;have he3:=hN.ext.trans (he2.trans hR.mem.ext);(conv=>whnf);refine zC (fun _=>zw ?_) (fun _=>zw ?_)
 ·have hil:i<qs.length:=by omega
  have hqi:qs[i]?=some qs[i]:=zge hil;have hqm:=List.getElem_mem hil;obtain ⟨q,eq⟩:∃ q,q=qs[i]:=⟨_,rfl⟩
  rw [← eq] at hqi hqm;have hgt:∀ k,k<4→gat q k∈T∨gat q k=zTM:=fun k hk=>(hset.mem q hqm k hk).imp id fun g=>g.2.2
  refine ElemV.sl (hS.ext he3) rfl i rfl Oo ?_;intro eb eo hcell;rw [← eq] at hcell;(conv=>whnf);refine LoadA.cells hcell rfl (zw ?_);refine zcv (q3e T hrise B d q hgt (fun t ht=>(hterm t ht).2.1) Oo w3 (hTS.ext hR.mem.ext)) ?_;rintro r w4 ⟨rfl,he4⟩;have hR:=hR.call he4;(conv=>whnf);refine NewV.rw hR fun nb3 w9 hR=>zw ?_;refine AppV.rw (m:=1) (news:=idsE fun k=>noT T (gat q k)) q7y idsI idsZ Ok Ok Od hR rfl (fun _=>⟨nb3,0,rfl,fun k v hv=>?_⟩) (qgc _) (by rw [show ((Tryz.prog.info? 101).get Ok).bytes=32 from by kernel_rfl];omega) Oo ?_
  ·rw [qa (hR.mem.get mh),Nat.zero_add];rw [← hv];simp [idsE]
  clear hR;intro B2 d2 w10 hR;rw [← qje T qs hqi] at hR;refine zu ?_;exact ⟨(i+1,B2,d2),⟨rfl,rfl,rfl,rfl,rfl,congrArg (Value.int .i64) Oo,trivial⟩,⟨by show i+1≤qs.length;omega,hR.tail⟩,by show qs.length-(i+1)<qs.length-i;omega⟩
 ·obtain rfl:i=qs.length:=by omega
  have hidS:SlAt idsE 4 w3 D ((List.range qs.length).map (noQ T qs)):=qzo qtd hR.own Js;have htok:TOk (noQ T qs) qs.length:=hset.tok;have htl:=q64 htok;refine zcv (qrg (noQ T qs) D qs.length e w3 hidS htok) ?_;rintro r w4 ⟨v2,rfl,hN4⟩;obtain ⟨At,ct,et,hct,hTR⟩:=hN4.bs;subst et;have hVS4:=hVS.ext (hR.mem.ext.trans hN4.ext);refine zu ?_;refine zcv (q0a qs.length T.length (vocB T) (qgy (noQ T qs) qs.length) Av At cv ct w4 Oo Oo hVS4 hTR Oo Oo) ?_;rintro r w5 hN5;have epk:qm3 qs.length T.length (vocB T) (qgy (noQ T qs) qs.length)=pkB qs:=by rw [eT];rfl
  rw [epk] at hN5;obtain ⟨A9,c9,ev9,_⟩:=id hN5.h;subst ev9;have hN5:=hN5.back (he3.trans hN4.ext);have hok:=qx0 (qs:=qs) (most:=most) hv (by rw [← eT];exact hvo);have hbig:=qip (qs:=qs) (most:=most) hv (by rw [← eT];exact hvo);conv=>whnf
  (repeat' (first|refine zp ?_|refine zC (fun _=>zw ?_) (fun _=>zw ?_)))
  ·have e1:=hbig Oo;exact .inl ⟨by rw [e1];decide,by rw [e1];rfl,hN5.ext⟩
  ·have e1:=hbig Oo;exact .inl ⟨by rw [e1];decide,by rw [e1];rfl,hN5.ext⟩
  ·exact .inr ⟨hok Oo,_,rfl,hN5⟩
structure Turn (l l':LB) (f B:Nat):Prop where
 len:l'.length=l.length
 bit:∀ t,t<8*l.length→bitN l' t=(bitN l t+(if f≤t∧t<f+32 then B/2 ^ (t-f)%2 else 0))%2
section
variable {l l':LB} {f B:Nat} (h:Turn l l' f B)
include h
end
theorem V.RowX.capd {e:TypeId} {size n:Nat} {v:Value} {xs:List Value} {Y:List (Nat × Obj)} (h:RowX e size v n xs Y):∃ A c,v=.slice A n c∧n≤c∧(n=0∨∃ g,A=some ⟨g,0,none⟩):=by
 obtain ⟨_,⟨rfl,rfl,_⟩|⟨g,cap,cur,rfl,_,h3,_⟩⟩:=h
 ·exact ⟨_,_,rfl,Nat.le_refl _,.inl rfl⟩
 ·exact ⟨_,_,rfl,h3,.inr ⟨g,rfl⟩⟩
theorem V.RowX.cells {α:Type} {enc:α→List Value} {e sz:Nat} (henc:∀ x,(enc x).length=sz) {g c:Nat} {l:List α} {Y:List (Nat × Obj)} {w:World} (h:RowX e sz (.slice (some ⟨g,0,none⟩) l.length c) l.length (l.map enc).flatten Y) (hY:∀ x∈Y,w.heap[x.1]?=some x.2) :
  ∀ (i:Nat) (x:α),l[i]?=some x→CellsAt w g (0+i*sz) (enc x):=by
 intro i x hi k u hu;obtain ⟨_,⟨h1,_⟩|⟨g',cap,cur,h1,rfl,_,_,_,h5⟩⟩:=h
 ·injection h1 with h1;cases h1
 injection h1 with h1 _ _
 injection h1 with h1
 injection h1 with h1
 subst h1;have hk:k<sz:=by
  have:=(List.getElem?_eq_some_iff.1 hu).1
  rwa [henc] at this
 have hil:=(List.getElem?_eq_some_iff.1 hi).1;have hfl:=qb2 enc sz henc l i x k hi hk;have hb:(i+1)*sz≤l.length*sz:=Nat.mul_le_mul_right _ hil;rw [← h5,List.getElem?_take,if_pos (by rw [Nat.succ_mul] at hb;omega),hu] at hfl;rw [qa (hY _ (List.mem_singleton.2 rfl)),Nat.zero_add]
 simpa using hfl
theorem q84 (w0:World):Carr fun X w=>Mem w0 w X:=
 ⟨fun h he=>h.call he,fun h hx=>h.get hx,fun _ h=>h.new rfl rfl,fun o' h=>h.setO (i:=0) o' rfl rfl,fun h=>h.sub (List.sublist_cons_self ..),fun h hp=>h.perm hp.symm⟩
open Go.RowKit
namespace V
theorem qte {P:Program} {w:World}:∀ {l:List (String × DataW Unit)} {ps:List MemPlace},DataW.LaidVars P w l ps→∀ {n:String} {d:DataW Unit},(n,d)∈l→
  ∃ g t cs fuel p,P.globalNamed n=some g∧(P.globals[g]?).map (·.type)=some t∧w.var? P n=some cs∧DataW.trod (fun _=>()) P w 0 (fun _=>true) false fuel t cs.toList=some (d,p)
 | [],_,_,_,_,h=>by cases h
 | (n0,d0)::r,ps,h,n,d,hm=>by
  obtain ⟨g,t,cs,fuel,p,q,h1,h2,h3,h4,h5,_⟩:=h
  rcases List.mem_cons.1 hm with e|hm
  ·cases e;exact ⟨g,t,cs,fuel,p,h1,h2,h3,h4⟩
  ·exact qte h5 hm
theorem qtf {P:Program} {W:World} {name:String} {k:IntKind} {zs:List Int} {l:List (String × DataW Unit)} {g:Nat} {t e:TypeId} {n:Nat}
  (hg:P.globalNamed name=some g) (hty:(P.globals[g]?).map (·.type)=some t) (ht:P.underlying t=some (.array n e)) (he:P.underlying e=some (.int k)) (hce:P.cellsOf e=1) (hct:P.cellsOf t=n)
  (h:laidMet P l W) (hm:(name,Lib.tabData k zs)∈l):CellsAt W g 0 (zs.map fun z=>Value.int k z):=by
 obtain ⟨ps,h,_⟩:=h;obtain ⟨g',t',cs,fuel,p,hg',ht',hvar,hd⟩:=qte h hm;obtain rfl:=Option.some.inj (hg.symm.trans hg');obtain rfl:=Option.some.inj (hty.symm.trans ht');have hT:Lib.TabIs P W name k zs:=by
  unfold Lib.TabIs;rw [hvar,← Lib.cells_of_tab ht he hce hct hd]
 intro i v hv;have hi:i<zs.length:=by simpa using (List.getElem?_eq_some_iff.1 hv).1
 have:=hT.cell hg i hi;rw [Nat.zero_add,this];rw [List.getElem?_map,zge hi] at hv;rw [List.getD_eq_getElem?_getD,zge hi]
 simpa using hv
end V
open Go.ChangeShapes Go.WideShapes Go.ChangeAt Go.RowKit
theorem own:ownKnob Tryz.prog.godebug=none:=by kernel_rfl
theorem q2j:laidOutB Tryz.prog=true:=by kernel_rfl
mutual
def q3z:DataW Unit→List Value
 | .lit (.int k n)=>[.int k n]
 | .agg l=>cellsDs l
 | _=>[]
def cellsDs:List (DataW Unit)→List Value
 | []=>[]
 | d::l=>q3z d++cellsDs l
end
def q8a (w:World) (x:Nat × DataW Unit):World:=
 { w with heap:=w.heap.modify x.1 fun
   | .cells _ t frozen=>.cells (q3z x.2).toArray t frozen
   | o=>o }
noncomputable def q79 (os:Os) (l:List (Nat × DataW Unit)):World:=l.foldl q8a (World.holding Tryz.prog os ⟨#[],#[],[]⟩)
open Go.ChangeShapes Go.WideShapes Go.ChangeAt Go.RowKit V
theorem qi3:Tryz.prog.cellsOf 24=4:=by kernel_rfl
theorem qxi:Tryz.prog.cellsOf 26=16:=by kernel_rfl
theorem q47:Tryz.prog.bytesOf 26=224:=by kernel_rfl
section
variable {H:Type} {enc:TypeId × Value→H} {W:World}
theorem qm2 {c:Value} (h:Opn enc Tryz.prog W 9 [c]):∃ s:ByteArray,c=.string s∧s.size≤140737488355328:=h.string Tryz.underlying9
theorem qgi {cs:List Value} (h:Opn enc Tryz.prog W 24 cs):∃ t:TM,cs=encT t∧TermOk t:=by
 obtain ⟨hl,hf⟩:=Opn.fields Tryz.underlying24 h;rw [qi3] at hl
 match cs,hl with
 | [c0,c1,c2,c3],_=>
  have g0:Opn enc Tryz.prog W 3 (([c0,c1,c2,c3].drop 0).take (Tryz.prog.cellsOf 3)):=hf 0 _ rfl;rw [q1u] at g0;have g1:Opn enc Tryz.prog W 9 (([c0,c1,c2,c3].drop 1).take (Tryz.prog.cellsOf 9)):=hf 1 _ rfl;rw [ql6] at g1;have g2:Opn enc Tryz.prog W 9 (([c0,c1,c2,c3].drop 2).take (Tryz.prog.cellsOf 9)):=hf 2 _ rfl;rw [ql6] at g2;have g3:Opn enc Tryz.prog W 9 (([c0,c1,c2,c3].drop 3).take (Tryz.prog.cellsOf 9)):=hf 3 _ rfl;rw [ql6] at g3;obtain ⟨n0,rfl,k0⟩:=Opn.int (c:=c0) Tryz.underlying3 g0;obtain ⟨n1,rfl,k1⟩:=qm2 (c:=c1) g1;obtain ⟨n2,rfl,k2⟩:=qm2 (c:=c2) g2;obtain ⟨n3,rfl,k3⟩:=qm2 (c:=c3) g3;exact ⟨⟨n0,n1,n2,n3⟩,rfl,⟨q33 k0,k1,k2,k3⟩⟩
theorem qzm {cs:List Value} (h:Opn enc Tryz.prog W 26 cs):∃ q:Q4,cs=q7 q∧qci q:=by
 obtain ⟨hl,hf⟩:=Opn.fields Tryz.underlying26 h;rw [qxi] at hl
 match cs,hl with
 | [a0,a1,a2,a3,b0,b1,b2,b3,c0,c1,c2,c3,d0,d1,d2,d3],_=>
  have g0:Opn enc Tryz.prog W 24 (([a0,a1,a2,a3,b0,b1,b2,b3,c0,c1,c2,c3,d0,d1,d2,d3].drop 0).take (Tryz.prog.cellsOf 24)):=hf 0 _ rfl;rw [qi3] at g0;have g1:Opn enc Tryz.prog W 24 (([a0,a1,a2,a3,b0,b1,b2,b3,c0,c1,c2,c3,d0,d1,d2,d3].drop 4).take (Tryz.prog.cellsOf 24)):=hf 1 _ rfl;rw [qi3] at g1;have g2:Opn enc Tryz.prog W 24 (([a0,a1,a2,a3,b0,b1,b2,b3,c0,c1,c2,c3,d0,d1,d2,d3].drop 8).take (Tryz.prog.cellsOf 24)):=hf 2 _ rfl;rw [qi3] at g2;have g3:Opn enc Tryz.prog W 24 (([a0,a1,a2,a3,b0,b1,b2,b3,c0,c1,c2,c3,d0,d1,d2,d3].drop 12).take (Tryz.prog.cellsOf 24)):=hf 3 _ rfl;rw [qi3] at g3;obtain ⟨t0,e0,k0⟩:=qgi (cs:=[a0,a1,a2,a3]) g0;obtain ⟨t1,e1,k1⟩:=qgi (cs:=[b0,b1,b2,b3]) g1;obtain ⟨t2,e2,k2⟩:=qgi (cs:=[c0,c1,c2,c3]) g2;obtain ⟨t3,e3,k3⟩:=qgi (cs:=[d0,d1,d2,d3]) g3;simp only [encT,List.cons.injEq] at e0 e1 e2 e3;obtain ⟨rfl,rfl,rfl,rfl,_⟩:=e0;obtain ⟨rfl,rfl,rfl,rfl,_⟩:=e1;obtain ⟨rfl,rfl,rfl,rfl,_⟩:=e2;obtain ⟨rfl,rfl,rfl,rfl,_⟩:=e3;refine ⟨⟨t0,t1,t2,t3⟩,rfl,fun k=>?_⟩
  match k with
  | 0=>exact k0
  | 1=>exact k1
  | 2=>exact k2
  | k+3=>exact k3
noncomputable instance:Inhabited Q4:=⟨zQ⟩
theorem qvs {c:Value} (h:Opn enc Tryz.prog W 46 [c]) :
  ∃ (A:oA) (cap:Nat) (l:List Q4),c=.slice A l.length cap∧l.length≤140737488355328∧(∀ q∈l,qci q)∧SlAt q7 16 W A l:=by
 obtain ⟨A,cap,l,h1,h2,h3,h4,h5⟩:=h.sliceR (en:=q7) (R:=qci) (size:=16) Tryz.underlying46 qxi Od qjt (fun cs hc=>qzm hc);rw [q47] at h3;exact ⟨A,cap,l,h1,by omega,h4,h5⟩
instance:Inhabited DsE:=⟨⟨none,0,[]⟩⟩
end
theorem q51 {W:World} (h:W.ShapedOpen Tryz.prog):MaxLenAt W:=
 cell_of_shapedOpen_int (zero:=#[ii 0]) (t:=3) (k:=.i64) h (of_decide_eq_true Ok) Ok rfl Ok Ok Tryz.underlying3
theorem etL:Tryz.prog.globalNamed "errors.errorType" = some 0:=by kernel_rfl
theorem rtL:(Tryz.prog.cutTypes.find? (·.1== "internal/reflectlite.rtype")).map (·.2)=some 365:=by kernel_rfl
theorem q6a:((List.range Tryz.prog.types.size).filter fun t=>Tryz.prog.rowNamed t [101,114,114,111,114])=[74]:=by kernel_rfl
theorem q5j {W:World} (h:handlesMet Tryz.prog [("errors.errorType",Rows.laid_errors_errorType)] W):ErrTyp W:=by
 obtain ⟨name,u,ty,e1,e2,e3,e4,e5⟩:=h _ (List.mem_singleton.2 rfl);have en:name=[101,114,114,111,114]:=(Option.some.inj e1).symm;subst en;obtain rfl:=Option.some.inj (rtL.symm.trans e2);have hm:ty∈(List.range Tryz.prog.types.size).filter fun t=>Tryz.prog.rowNamed t [101,114,114,111,114]:=List.mem_filter.2 ⟨List.mem_range.2 e3,e4⟩
 rw [q6a] at hm;obtain rfl:=List.mem_singleton.1 hm;have hh:typeHandle Tryz.prog 74=.pointer (some ⟨7,74,none⟩):=by kernel_rfl
 rw [hh] at e5;have hc:=World.var?_cell etL e5 0;unfold ErrTyp
 simpa using hc
theorem andT {a b:Bool} (h:a=true) (k:b=true):(a&&b)=true:=by rw [h,k];rfl
structure GlobE (w:World):Prop where
 M:MaxLenAt w
 T:CellsAt w 6 0 qbt
 N:CellsAt w 1 0 qo1
 G:ErrTyp w
theorem GlobE.ext {w w':World} (h:GlobE w) (he:Ext w w'):GlobE w':=⟨h.M.ext he,CellsAt.ext h.T he,CellsAt.ext h.N he,h.G.ext he⟩
theorem qlf (Q:List Q4) (q:Q4):((Q++[q]).map q7).flatten=(Q.map q7).flatten++q7 q:=by simp
def q9d (v:Value) (Q:List Q4) (Y:List (Nat × Obj)):Prop:=RowX 26 16 v Q.length (Q.map q7).flatten Y
theorem qi6 (A:oA) (n c nb:Nat) (w:World):Gv Tryz.prog 23 [.slice A n c,pp nb] w fun r w'=>
  ∃ b1 b2,r=.func (.func 44) #[] #[pp b1,pp b2]∧Mem w w' [(b2,.cells #[pp nb] 65),(b1,.cells #[.slice A n c] 46)]:=by
 refine ze Tryz.func23 Tryz.ntmps23 ?_;refine znm (Mem.nil w) fun b1 w1 hm=>zw ?_;refine znm hm fun b2 w2 hm=>zw ?_;exact ⟨b1,b2,rfl,hm⟩
structure CtΦ (l:List Q4) (A:oA) (c b1 b2 nb:Nat) (w:World):Prop where
 c1:w.cell? ⟨b1,0,none⟩=some (.slice A l.length c)
 c2:w.cell? ⟨b2,0,none⟩=some (pp nb)
 S:SlAt q7 16 w A l
def nbO (nb k:Nat):Nat × Obj:=(nb,.cells #[ii k] 3)
theorem q5d (l:List Q4) (hl:l.length≤140737488355328) (A:oA) (c b1 b2 nb:Nat) {G:Nat→List (Nat × Obj)→World→Prop} {Gx:Code→Nat→List (Nat × Obj)→World→Prop} (cG:∀ k,Carr (G k)) (_:∀ c k,Carr (Gx c k))
  (hG:∀ k X w,G k X w→CtΦ l A c b1 b2 nb w) (L0:List (Nat × Obj)) (Lx:Code→List (Nat × Obj)) :
  SeqX Tryz.prog 44 [pp b1,pp b2] l.length (fun k X w=>G k ((X++L0)++[nbO nb k]) w) (fun k x X w=>(∃ q,l[k]?=some q∧x=[qef q])∧G k ((X++L0)++[nbO nb (k+1)]) w) (fun k X w=>∃ c,Gx c k ((X++Lx c)++[nbO nb (k+1)]) w):=by
 intro y w h0 hy;have t16:tsz Tryz.prog 26=16:=by kernel_rfl
 have h0:G 0 (L0++[nbO nb 0]) w:=h0;refine gvW Ok Tryz.func44 rfl Tryz.ntmps44 rfl (zw ?_);refine q2n (fun k:Nat=>[(0,.func (.yield y) #[] #[]),(1,pp b1),(2,pp b2),(4,ii k)]) (fun k w'=>k≤l.length∧G k (L0++[nbO nb k]) w') (fun k=>l.length-k) 0
  ⟨rfl,rfl,rfl,rfl,trivial⟩ ⟨Nat.zero_le _,h0⟩ ?_
 clear h0;rintro k w1 ρ' ⟨hk,h0⟩;(conv=>whnf);refine LoadV.of (hG _ _ _ h0).c1 (zw ?_);refine zC (fun _=>zw ?_) (fun _=>zw ?_)
 case' refine_2=>
  obtain rfl:k=l.length:=by omega
  exact .inl h0
 have hlt:k<l.length:=by omega
 obtain ⟨q,hq⟩:∃ q,l[k]?=some q:=⟨_,zge hlt⟩
 have hc2:=(hG _ _ _ h0).c2;have hn:=(cG k).get h0 (b:=nb) (o:=.cells #[ii k] 3) (by simp [nbO]);have hx:∀ wd,Ext w1.drew wd→Ext w1 wd:=fun wd hd=>(Ext.refl w1).drew.trans hd
 refine DrawW.tail 6 Ok Ok (.inl rfl) (AnyV.free Ok ?_);(conv=>whnf);refine zf ?_ (by intro wd hd;(conv=>whnf);refine LoadV.of (Ext.cell (Ext.trans (Ext.drew xr) hd) hc2) ?_;(conv=>whnf);exact ⟨xr,rfl⟩);refine zf ?_ (by intro wd hd;(conv=>whnf);refine LoadV.of (Ext.cell (Ext.trans (Ext.drew xr) hd) hc2) ?_;(conv=>whnf);exact ⟨xr,rfl⟩);refine zd ?_;refine zsd (ii k) (fun wd hd=>zw ?_) (zw ?_)
 ·refine LoadV.own ((hx wd hd).get hn) rfl (zw ?_);exact ⟨xr,rfl⟩
 refine zd ?_;refine zd ?_;intro w2 he2;replace h0:=(cG k).ext h0 (hx _ he2);(conv=>whnf);have h0:G k (L0++(nb,.cells #[ii k] 3)::[]) w2:=h0;refine StoreV.carr (cG k) h0 (by show 0<1;omega) rfl ?_;clear h0 hn;intro w3 h0;have h0:G k (L0++[nbO nb (k+1)]) w3:=h0;(conv=>whnf);refine LoadV.of (hG _ _ _ h0).c1 (zw ?_);obtain ⟨g,off,eA,hat⟩:=(hG _ _ _ h0).S.at_ (by intro e;rw [e] at hlt;simp at hlt);refine ⟨⟨g,off,k,eA,by omega,by omega,?_⟩⟩;rw [t16];(conv=>whnf);refine LoadA.cells (hat k q hq) rfl (zw ?_);refine YieldV.mono (hy k [qef q] [] w3 hlt ⟨⟨q,hq,rfl⟩,h0⟩) ?_;clear h0;rintro v w4 (⟨rfl,h0⟩|⟨rfl,cc,hX⟩)
 ·refine zu ?_;exact ⟨rfl,k+1,⟨rfl,rfl,rfl,rfl,trivial⟩,⟨by omega,h0⟩,by omega⟩
 ·refine zu ?_;exact .inr ⟨k,hlt,cc,hX⟩
noncomputable def badQ (l:List Q4) (i:Nat) (q:Q4):Nat:=if 1048576≤i then 2 else if qa9 q≠0 then qa9 q else if 0<i∧¬ cmpQ (l.getD (i-1) zQ) q<0 then 6 else 0
noncomputable def qa3 (l:List Q4) (i:Nat):Nat:=badQ l i (l.getD i zQ)
theorem qw8 {l:List Q4} {i:Nat} {q:Q4} (h:l[i]?=some q):qa3 l i=badQ l i q:=by rw [qa3,List.getD_eq_getElem?_getD,h];rfl
theorem qb4 {P:Program} {fn:Func} {a1 a2 t1 t2:Nat} {tmps:Array Value} {w:World} {b1 b2:Nat} {v1 v2:Value} {ty1 ty2:TypeId} {d1 d2:TypeDesc} (hr:fn.results=#[.cell a1 t1,.cell a2 t2]) (hp1:tmps.getD a1 undef=pp b1) (hp2:tmps.getD a2 undef=pp b2)
  (hg1:w.heap[b1]?=some (.cells #[v1] ty1)) (hg2:w.heap[b2]?=some (.cells #[v2] ty2)) (hu1:P.underlying t1=some d1) (hu2:P.underlying t2=some d2) (ha1:aggD d1=false) (ha2:aggD d2=false):(results fn tmps).run P w=.ok (.tuple #[v1,v2]) w:=by
 have c1:w.cell? ⟨b1,0,none⟩=some v1:=by rw [qa hg1];rfl
 have c2:w.cell? ⟨b2,0,none⟩=some v2:=by rw [qa hg2];rfl
 have e1:results fn tmps=(do let vs ← fn.results.mapM (resF tmps);pure (if h:vs.size=1 then vs[0] else .tuple vs)):=by
  unfold results;congr 1
 rw [e1,hr,Array.mapM_eq_mapM_toList];simp [resF,hp1,hp2,asAddr,loadVar,qcd hu1,qcd hu2,ha1,ha2,go_sem,c1,c2]
section
variable {J:List (Nat × Obj)→World→Prop}
def PkG (J:List (Nat × Obj)→World→Prop) (l:List Q4) (ab c4 c5:Nat) (k:Nat) (Z:List (Nat × Obj)) (w:World):Prop:=
 ∃ s:Value × List (Nat × Obj),(q9d s.1 (l.take k) s.2∧∀ j,j<k→qa3 l j=0)∧J (Z++(s.2++[(ab,Obj.cells #[s.1] 46),(c4,.cells #[.slice none 0 0] 60),(c5,.cells #[ii 0] 61)])) w
theorem PkG.carr (hJ:Carr J) (l:List Q4) (ab c4 c5 k:Nat):Carr (PkG J l ab c4 c5 k):=Carr.ex fun _=>hJ.tail _
def PkX (J:List (Nat × Obj)→World→Prop) (l:List Q4) (c4 c5:Nat) (c:Code) (k:Nat) (Z:List (Nat × Obj)) (w:World):Prop:=
 (c=.ret∧qa3 l k≠0∧∀ j,j<k→qa3 l j=0)∧J (Z++[(c4,Obj.cells #[.slice none 0 0] 60),(c5,.cells #[ii (qa3 l k:Nat)] 61)]) w
theorem PkX.carr (hJ:Carr J) (l:List Q4) (c4 c5:Nat) (c:Code) (k:Nat):Carr (PkX J l c4 c5 c k):=Carr.and (hJ.tail _)
def PkR (J:List (Nat × Obj)→World→Prop) (l:List Q4) (most:Int) (nb:Nat) (r:Value) (w:World):Prop:=
 (∃ k,k<l.length∧(∀ j,j<k→qa3 l j=0)∧qa3 l k≠0∧r=.tuple #[.slice none 0 0,ii (qa3 l k:Nat)]∧J [nbO nb (k+1)] w)∨
 ((∀ j,j<l.length→qa3 l j=0)∧((encE l most≠0∧r=.tuple #[.slice none 0 0,ii (encE l most:Nat)]∧J [nbO nb l.length] w)∨
  (encE l most=0∧∃ g c cur,r=.tuple #[.slice (some ⟨g,0,none⟩) (pkB l).length c,ii 0]∧(pkB l).length≤c∧c≤cur.size∧cur.toList.take (pkB l).length=byV (pkB l)∧J [(g,.cells cur 5),nbO nb l.length] w)))
theorem qoz (hJ:Carr J) (l:List Q4) (hl:l.length≤140737488355328) (hq:∀ q∈l,qci q) (A:oA) (c b1 b2 nb:Nat) (most:Int) (hmo:InR .i64 most) (hΦ:∀ X w,J X w→CtΦ l A c b1 b2 nb w∧GlobE w) (w:World) (h0:J [nbO nb 0] w) :
  Gv Tryz.prog 22 [.func (.func 44) #[] #[pp b1,pp b2],ii most] w (PkR J l most nb):=by
 have t16:tsz Tryz.prog 26=16:=by kernel_rfl
 refine gvW Ok Tryz.func22 rfl Tryz.ntmps22 rfl (zw ?_);refine NewV.carr hJ h0 fun c4 w1 h0=>zw ?_;refine NewV.carr hJ h0 fun c5 w2 h0=>zw ?_;refine NewV.carr hJ h0 fun ab w3 h0=>zw ?_;refine ⟨⟨.bool false,w3,?_,?_⟩⟩
 ·kernel_rfl
 refine zu ?_;have cG:=PkG.carr hJ l ab c4 c5;have cX:=PkX.carr hJ l c4 c5;have h0:PkG J l ab c4 c5 0 ([]++[nbO nb 0]) w3:=⟨(.slice none 0 0,[]),⟨RowX.nil _ _,fun j hj=>absurd hj (Nat.not_lt_zero _)⟩,hJ.perm h0 (by
  show List.Perm ([(ab,_),(c5,_),(c4,_)]++[nbO nb 0]) ([nbO nb 0]++[(ab,_),(c4,_),(c5,_)]);refine List.perm_append_comm.trans (List.Perm.append_left _ (List.Perm.cons _ (List.Perm.swap _ _ _))))⟩
 refine q8n (m:=l.length) (lb:=[pp b1,pp b2]) rfl Ok Od
  (fun k X w=>PkG J l ab c4 c5 k (X++[nbO nb k]) w) (fun k x X w=>(∃ q,l[k]?=some q∧x=[qef q])∧PkG J l ab c4 c5 k (X++[nbO nb (k+1)]) w) (fun c k X w=>PkX J l c4 c5 c k (X++[nbO nb (k+1)]) w)
  (q5d l hl A c b1 b2 nb cG cX (fun k X w ⟨s,_,hh⟩=>(hΦ _ _ hh).1))
  (fun k x X w ⟨⟨q,_,hx⟩,_⟩=>by rw [hx];rfl) (fun k=>(cG k).tail _) (fun k x=>Carr.and ((cG k).tail _)) (fun c k=>(cX c k).tail _) h0 ?_ ?_ ?_
 ·rintro lp D ob ob' k r X w4 hk ⟨⟨q,hqk,rfl⟩,hB⟩;(conv=>whnf);refine NewV.carr ((cG k).tail [nbO nb (k+1)]) hB fun qb w5 hB=>zw ?_;refine StoreA.carr (vs:=q7 q) ((cG k).tail [nbO nb (k+1)]) (A:=[]) hB rfl (qct q) fun w6 hB=>zw ?_;refine ⟨rfl,(qb,.cells (q7 q).toArray 26)::(D,.deferred (some []))::X,⟨⟨q,hqk,rfl⟩,(cG k).perm hB ((List.Perm.swap _ _ _).append_right _)⟩,fun w7 hB2=>?_⟩;clear hB;obtain ⟨_,⟨v,Y⟩,⟨hR,hbad⟩,hB⟩:=hB2;dsimp only at hR hbad hB;have hkl:(l.take k).length=k:=by rw [List.length_take];omega
  have hk20:k≤1048576:=by
   rcases Nat.lt_or_ge 1048576 k with h|h
   ·have h2:=hbad 1048576 h;rw [qa3,badQ,if_pos znr] at h2;cases h2
   ·exact h
  obtain ⟨Av,cv,ev⟩:=hR.slice;subst ev;rw [hkl] at hB hR;obtain ⟨Z,eZ⟩:∃ Z:List (Nat × Obj),Z=((lp,ob')::(qb,Obj.cells (q7 q).toArray 26)::(D,.deferred (some []))::X)++[nbO nb (k+1)]:=⟨_,rfl⟩
  have hB:J (Z++(Y++[(ab,Obj.cells #[.slice Av k cv] 46),(c4,Obj.cells #[.slice none 0 0] 60),(c5,Obj.cells #[ii 0] 61)])) w7:=by rw [eZ];exact hB
  have hgab:=hJ.get hB (b:=ab) (o:=.cells #[.slice Av k cv] 46) Js;have hgq:=hJ.get hB (b:=qb) (o:=.cells (q7 q).toArray 26) (by rw [eZ];simp);have hbq:=qw8 hqk;have hqo:=hq q (zmg hqk);have hexit:∀ w',qa3 l k≠0→True→J (Z++(Y++[(ab,Obj.cells #[.slice Av k cv] 46),(c4,Obj.cells #[.slice none 0 0] 60),(c5,Obj.cells #[ii (qa3 l k:Nat)] 61)])) w'→PkX J l c4 c5 .ret k (((lp,ob')::(D,Obj.deferred (some []))::X)++[nbO nb (k+1)]) w':=fun w' h1 _ h3=>by
   refine ⟨⟨rfl,h1,hbad⟩,?_⟩;have h4:J ((Y++[(ab,Obj.cells #[.slice Av k cv] 46)])++(Z++[(c4,Obj.cells #[.slice none 0 0] 60),(c5,Obj.cells #[ii (qa3 l k:Nat)] 61)])) w':=hJ.perm h3 (by
    rw [show Y++[(ab,Obj.cells #[.slice Av k cv] 46),(c4,Obj.cells #[.slice none 0 0] 60),(c5,Obj.cells #[ii (qa3 l k:Nat)] 61)]=(Y++[(ab,Obj.cells #[.slice Av k cv] 46)])++[(c4,Obj.cells #[.slice none 0 0] 60),(c5,Obj.cells #[ii (qa3 l k:Nat)] 61)] by simp];exact List.perm_append_comm_assoc _ _ _)
   have h5:=hJ.dropL h4;rw [eZ,List.append_assoc] at h5;have h6:=hJ.dropM (A:=[(lp,ob')]) h5
   simpa using h6
  (conv=>whnf);refine LoadV.own hgab rfl (zw ?_);refine zC (fun _=>zw ?_) (fun _=>zw ?_)
  case' refine_1=>
   have hB:J ((Z++(Y++[(ab,Obj.cells #[.slice Av k cv] 46)]))++(c4,Obj.cells #[.slice none 0 0] 60)::[(c5,Obj.cells #[ii 0] 61)]) w7:=by simpa using hB
   refine StoreV.carr hJ hB (by show 0<1;omega) rfl ?_;clear hB hgab hgq;intro wa hB;have hB:J ((Z++(Y++[(ab,Obj.cells #[.slice Av k cv] 46)]))++(c4,Obj.cells #[.slice none 0 0] 60)::[(c5,Obj.cells #[ii 0] 61)]) wa:=hB;have hB:J ((Z++(Y++[(ab,Obj.cells #[.slice Av k cv] 46),(c4,Obj.cells #[.slice none 0 0] 60)]))++(c5,Obj.cells #[ii 0] 61)::[]) wa:=by simpa using hB
   (conv=>whnf);refine StoreV.carr hJ hB (by show 0<1;omega) rfl ?_;clear hB;intro wb hB;have hB:J ((Z++(Y++[(ab,Obj.cells #[.slice Av k cv] 46),(c4,Obj.cells #[.slice none 0 0] 60)]))++(c5,Obj.cells #[ii 2] 61)::[]) wb:=hB;(conv=>whnf);exact hexit wb (by rw [hbq,badQ,if_pos Oo];decide) trivial (by
    have h9:(qa3 l k:Int)=2:=by rw [hbq,badQ,if_pos Oo];rfl
    rw [h9]
    simpa using hB)
  refine LoadA.own hgq rfl (zw ?_);refine zcv (qf4 q hqo w7 (hΦ _ _ hB).2.M (hΦ _ _ hB).2.T) ?_;rintro r w8 ⟨rfl,he8⟩;replace hB:=hJ.ext hB he8;replace hgab:=he8.get hgab;replace hgq:=he8.get hgq;clear he8;(conv=>whnf);refine zC (fun _=>zw ?_) (fun _=>zw ?_)
  case' refine_1=>
   have hB:J ((Z++(Y++[(ab,Obj.cells #[.slice Av k cv] 46)]))++(c4,Obj.cells #[.slice none 0 0] 60)::[(c5,Obj.cells #[ii 0] 61)]) w8:=by simpa using hB
   refine StoreV.carr hJ hB (by show 0<1;omega) rfl ?_;clear hB hgab hgq;intro wa hB;have hB:J ((Z++(Y++[(ab,Obj.cells #[.slice Av k cv] 46)]))++(c4,Obj.cells #[.slice none 0 0] 60)::[(c5,Obj.cells #[ii 0] 61)]) wa:=hB;have hB:J ((Z++(Y++[(ab,Obj.cells #[.slice Av k cv] 46),(c4,Obj.cells #[.slice none 0 0] 60)]))++(c5,Obj.cells #[ii 0] 61)::[]) wa:=by simpa using hB
   (conv=>whnf);refine StoreV.carr hJ hB (by show 0<1;omega) rfl ?_;clear hB;intro wb hB;have hB:J ((Z++(Y++[(ab,Obj.cells #[.slice Av k cv] 46),(c4,Obj.cells #[.slice none 0 0] 60)]))++(c5,Obj.cells #[ii (qa9 q)] 61)::[]) wb:=hB;(conv=>whnf);exact hexit wb (by rw [hbq,badQ,if_neg Oo,if_pos Oo];omega) trivial (by
    have h9:(qa3 l k:Int)=(qa9 q):=by rw [hbq,badQ,if_neg Oo,if_pos Oo]
    rw [h9]
    simpa using hB)
  have hne:¬ k=1048576:=by omega
  have hz0:qa9 q=0:=by omega
  have hRk:RowX 26 16 (.slice Av k cv) k ((l.take k).map q7).flatten Y:=by
   have h:RowX 26 16 (.slice Av k cv) (l.take k).length ((l.take k).map q7).flatten Y:=hR
   rwa [hkl] at h
  refine LoadV.own hgab rfl (zw ?_);have hx:∀ wd,Ext w8.drew wd→Ext w8 wd:=fun wd hd=>(Ext.refl w8).drew.trans hd
  by_cases hk0:k=0
  ·have hb0:qa3 l k=0:=by rw [hbq,badQ,if_neg Oo,if_neg (fun h=>h hz0),if_neg (fun h=>by omega)]
   refine DrawW.any Ok (.inr Ok) (AnyV.freeW Ok ?_);(conv=>whnf);refine zd ?_;refine zsd (.bool false) (fun wd hd=>zw ?_) (zw ?_)
   ·exact ⟨xr,congrArg Value.bool (decide_eq_false Oo)⟩
   (iterate 10 (refine zd ?_));intro w9 he9;replace hgab:=(hx w9 he9).get hgab;replace hgq:=(hx w9 he9).get hgq;replace hB:=hJ.ext hB (hx w9 he9);refine zu ?_;refine LoadV.own hgab rfl (zw ?_);refine LoadA.own hgq rfl (zw ?_);refine NewV.carr hJ hB ?_;clear hB hgab hgq;intro eb w10 hB;have hB:J (Y++((eb,.cells (q7 q).toArray 26)::(Z++[(ab,Obj.cells #[.slice Av k cv] 46),(c4,Obj.cells #[.slice none 0 0] 60),(c5,Obj.cells #[ii 0] 61)]))) w10:=hJ.perm hB (by
    refine List.Perm.trans (List.Perm.cons _ (List.perm_append_comm_assoc _ _ _)) List.perm_middle.symm)
   (conv=>whnf);refine AppV.carr (m:=1) (news:=q7 q) hJ hB hRk qdSl qdI qdZ Ok Ok Od rfl (fun _=>⟨eb,0,rfl,fun j u hu=>by rw [qa (hJ.get hB (List.mem_append_right _ mh)),Nat.zero_add,List.getElem?_toArray];exact hu⟩) (qct q) (by rw [show ((Tryz.prog.info? 26).get Ok).bytes=224 from by kernel_rfl];omega) Oo ?_;clear hB;intro A' c' Y' w11 hR' hB;replace hB:=hJ.dropM hB;have hB:J ((Y'++Z)++(ab,Obj.cells #[.slice Av k cv] 46)::[(c4,Obj.cells #[.slice none 0 0] 60),(c5,Obj.cells #[ii 0] 61)]) w11:=by simpa using hB
   (conv=>whnf);refine StoreV.carr hJ hB (by show 0<1;omega) rfl ?_;clear hB;intro w12 hB;have hB:J ((Y'++Z)++(ab,Obj.cells #[.slice A' (k+1) c'] 46)::[(c4,Obj.cells #[.slice none 0 0] 60),(c5,Obj.cells #[ii 0] 61)]) w12:=hB;have hB:J ([(lp,ob')]++(qb,Obj.cells (q7 q).toArray 26)::((D,Obj.deferred (some []))::X++([nbO nb (k+1)]++(Y'++[(ab,Obj.cells #[.slice A' (k+1) c'] 46),(c4,Obj.cells #[.slice none 0 0] 60),(c5,Obj.cells #[ii 0] 61)])))) w12:=hJ.perm hB (by
    rw [eZ];refine List.Perm.trans (List.perm_append_comm.append_right _) ?_;simp)
   replace hB:=hJ.dropM hB;have hk1:(l.take (k+1)).length=k+1:=by rw [List.length_take];omega
   (conv=>whnf);refine ⟨(.slice A' (k+1) c',Y'),⟨?_,fun j hj=>?_⟩,by simpa using hB⟩
   ·show RowX _ _ _ _ _ _;rw [hk1,List.take_add_one,hqk];show RowX _ _ _ _ (((_++[q]).map q7).flatten) _;rw [qlf];exact hR'
   ·rcases Nat.lt_or_ge j k with h|h
    ·exact hbad j h
    ·obtain rfl:j=k:=by omega
     exact hb0
  ·obtain ⟨pq,hpq⟩:∃ pq,l[k-1]?=some pq:=⟨_,zge Oo⟩
   have hpk:(l.take k)[k-1]?=some pq:=by rw [List.getElem?_take,if_pos Oo];exact hpq
   have hgd:l.getD (k-1) zQ=pq:=by rw [List.getD_eq_getElem?_getD,hpq];rfl
   obtain ⟨A2,c2,e2,hcc,hA2⟩:=hRk.capd
   injection e2 with e21 _ e22
   subst e21 e22;obtain ⟨gv,rfl⟩:=hA2.resolve_left hk0;have hcp:CellsAt w8 gv (0+(k-1)*16) (q7 pq):=V.RowX.cells (enc:=q7) (sz:=16) qjt (l:=l.take k) (c:=cv) (by rw [hkl];exact hRk) (fun x hx=>hJ.get hB (by simp [hx])) (k-1) pq hpk;refine DrawW.any Ok (.inr Ok) (AnyV.freeW Ok ?_);(conv=>whnf);refine zd ?_;refine zsd (.bool true) (fun wd hd=>zw ?_) (zw ?_)
   ·exact ⟨xr,congrArg Value.bool (decide_eq_true Oo)⟩
   refine zd ?_;apply zsd (.slice (some ⟨gv,0,none⟩) k cv)
   ·intro wd hd;refine zu ?_;refine LoadV.own ((hx wd hd).get hgab) rfl (zw ?_);exact ⟨xr,rfl⟩
   (conv=>whnf);refine zd ?_;refine zd ?_;apply zsd (.pointer (some ⟨gv,0+(k-1)*16,none⟩))
   ·intro wd hd;refine zu ?_;refine ⟨⟨gv,0,k-1,rfl,by omega,by omega,?_⟩⟩;rw [t16];(conv=>whnf);exact ⟨xr,rfl⟩
   (conv=>whnf);apply zsd (qef pq)
   ·intro wd hd;refine zu ?_;refine LoadA.cells (CellsAt.ext hcp (hx wd hd)) rfl (zw ?_);exact ⟨xr,rfl⟩
   (conv=>whnf);apply zsd (qef q)
   ·intro wd hd;refine zu ?_;refine LoadA.own ((hx wd hd).get hgq) rfl (zw ?_);exact ⟨xr,rfl⟩
   (conv=>whnf);apply zsd (ii (cmpQ pq q))
   ·intro wd hd;refine zu ?_;refine zcv (qh2 pq q wd) ?_;rintro r wx ⟨rfl,hex⟩;exact ⟨hex,rfl⟩
   (conv=>whnf);apply zsd (.bool (decide (0≤cmpQ pq q)))
   ·intro wd hd;refine zu ?_;exact ⟨xr,rfl⟩
   (conv=>whnf);refine zd ?_;intro w9 he9;replace hgab:=(hx w9 he9).get hgab;replace hgq:=(hx w9 he9).get hgq;replace hB:=hJ.ext hB (hx w9 he9);(conv=>whnf);refine zC (fun _=>zw ?_) (fun _=>zw ?_)
   case' refine_1=>
    have hb6:qa3 l k=6:=by rw [hbq,badQ,if_neg Oo,if_neg (fun h=>h hz0),if_pos ⟨by omega,by rw [hgd];omega⟩]
    have hB:J ((Z++(Y++[(ab,Obj.cells #[.slice (some ⟨gv,0,none⟩) k cv] 46)]))++(c4,Obj.cells #[.slice none 0 0] 60)::[(c5,Obj.cells #[ii 0] 61)]) w9:=by simpa using hB
    refine StoreV.carr hJ hB (by show 0<1;omega) rfl ?_;clear hB hgab hgq;intro wa hB;have hB:J ((Z++(Y++[(ab,Obj.cells #[.slice (some ⟨gv,0,none⟩) k cv] 46)]))++(c4,Obj.cells #[.slice none 0 0] 60)::[(c5,Obj.cells #[ii 0] 61)]) wa:=hB;have hB:J ((Z++(Y++[(ab,Obj.cells #[.slice (some ⟨gv,0,none⟩) k cv] 46),(c4,Obj.cells #[.slice none 0 0] 60)]))++(c5,Obj.cells #[ii 0] 61)::[]) wa:=by simpa using hB
    (conv=>whnf);refine StoreV.carr hJ hB (by show 0<1;omega) rfl ?_;clear hB;intro wb hB;have hB:J ((Z++(Y++[(ab,Obj.cells #[.slice (some ⟨gv,0,none⟩) k cv] 46),(c4,Obj.cells #[.slice none 0 0] 60)]))++(c5,Obj.cells #[ii 6] 61)::[]) wb:=hB;(conv=>whnf);exact hexit wb (by rw [hb6];decide) trivial (by
     have h9:(qa3 l k:Int)=6:=by rw [hb6];rfl
     rw [h9]
     simpa using hB)
   case' refine_2=>
    have hb0:qa3 l k=0:=by rw [hbq,badQ,if_neg Oo,if_neg (fun h=>h hz0),if_neg (fun h=>h.2 (by rw [hgd];omega))]
    refine LoadV.own hgab rfl (zw ?_);refine LoadA.own hgq rfl (zw ?_);refine NewV.carr hJ hB ?_;clear hB hgab hgq;intro eb w10 hB;have hB:J (Y++((eb,.cells (q7 q).toArray 26)::(Z++[(ab,Obj.cells #[.slice (some ⟨gv,0,none⟩) k cv] 46),(c4,Obj.cells #[.slice none 0 0] 60),(c5,Obj.cells #[ii 0] 61)]))) w10:=hJ.perm hB (by
     refine List.Perm.trans (List.Perm.cons _ (List.perm_append_comm_assoc _ _ _)) List.perm_middle.symm)
    (conv=>whnf);refine AppV.carr (m:=1) (news:=q7 q) hJ hB hRk qdSl qdI qdZ Ok Ok Od rfl (fun _=>⟨eb,0,rfl,fun j u hu=>by rw [qa (hJ.get hB (List.mem_append_right _ mh)),Nat.zero_add,List.getElem?_toArray];exact hu⟩) (qct q) (by rw [show ((Tryz.prog.info? 26).get Ok).bytes=224 from by kernel_rfl];omega) Oo ?_;clear hB;intro A' c' Y' w11 hR' hB;replace hB:=hJ.dropM hB;have hB:J ((Y'++Z)++(ab,Obj.cells #[.slice (some ⟨gv,0,none⟩) k cv] 46)::[(c4,Obj.cells #[.slice none 0 0] 60),(c5,Obj.cells #[ii 0] 61)]) w11:=by simpa using hB
    (conv=>whnf);refine StoreV.carr hJ hB (by show 0<1;omega) rfl ?_;clear hB;intro w12 hB;have hB:J ((Y'++Z)++(ab,Obj.cells #[.slice A' (k+1) c'] 46)::[(c4,Obj.cells #[.slice none 0 0] 60),(c5,Obj.cells #[ii 0] 61)]) w12:=hB;have hB:J ([(lp,ob')]++(qb,Obj.cells (q7 q).toArray 26)::((D,Obj.deferred (some []))::X++([nbO nb (k+1)]++(Y'++[(ab,Obj.cells #[.slice A' (k+1) c'] 46),(c4,Obj.cells #[.slice none 0 0] 60),(c5,Obj.cells #[ii 0] 61)])))) w12:=hJ.perm hB (by
     rw [eZ];refine List.Perm.trans (List.perm_append_comm.append_right _) ?_;simp)
    replace hB:=hJ.dropM hB;have hk1:(l.take (k+1)).length=k+1:=by rw [List.length_take];omega
    (conv=>whnf);refine ⟨(.slice A' (k+1) c',Y'),⟨?_,fun j hj=>?_⟩,by simpa using hB⟩
    ·show RowX _ _ _ _ _ _;rw [hk1,List.take_add_one,hqk];show RowX _ _ _ _ (((_++[q]).map q7).flatten) _;rw [qlf];exact hR'
    ·rcases Nat.lt_or_ge j k with h|h
     ·exact hbad j h
     ·obtain rfl:j=k:=by omega
      exact hb0
 ·rintro D w4 ⟨⟨v,Y⟩,⟨hR,hbad⟩,hB⟩;dsimp only at hR hbad hB;rw [List.take_length] at hR;obtain ⟨Av,cv,ev⟩:=hR.slice;subst ev;have hgab:=hJ.get hB (b:=ab) (o:=.cells #[.slice Av l.length cv] 46) Js;obtain ⟨hSv,hcv⟩:=qd3 (enc:=q7) qjt (V.RowX.own hR (fun x hx=>hJ.get hB (by simp [hx]))) rfl;have hGE:=(hΦ _ _ hB).2;(conv=>whnf);refine LoadV.own hgab rfl (zw ?_);refine zcv (qve l Av l.length cv most w4 hSv rfl hl hmo hq hGE.M hGE.T hGE.N hGE.G) ?_;have hB:J (([(D,Obj.deferred (some [])),nbO nb l.length]++(Y++[(ab,Obj.cells #[.slice Av l.length cv] 46)]))++(c4,Obj.cells #[.slice none 0 0] 60)::[(c5,Obj.cells #[ii 0] 61)]) w4:=by simpa using hB
  rintro r w5 (⟨he,rfl,he5⟩|⟨he,v,rfl,hN⟩)
  ·replace hB:=hJ.ext hB he5;(conv=>whnf);refine StoreV.carr hJ hB (by show 0<1;omega) rfl ?_;clear hB hgab;intro w6 hB;have hB:J (([(D,Obj.deferred (some [])),nbO nb l.length]++(Y++[(ab,Obj.cells #[.slice Av l.length cv] 46)]))++(c4,Obj.cells #[.slice none 0 0] 60)::[(c5,Obj.cells #[ii 0] 61)]) w6:=hB;have hB:J (([(D,Obj.deferred (some [])),nbO nb l.length]++(Y++[(ab,Obj.cells #[.slice Av l.length cv] 46),(c4,Obj.cells #[.slice none 0 0] 60)]))++(c5,Obj.cells #[ii 0] 61)::[]) w6:=by simpa using hB
   (conv=>whnf);refine StoreV.carr hJ hB (by show 0<1;omega) rfl ?_;clear hB;intro w7 hB;have hB:J (([(D,Obj.deferred (some [])),nbO nb l.length]++(Y++[(ab,Obj.cells #[.slice Av l.length cv] 46),(c4,Obj.cells #[.slice none 0 0] 60)]))++(c5,Obj.cells #[ii (encE l most:Nat)] 61)::[]) w7:=hB;obtain ⟨W,eW⟩:∃ W:List (Nat × Obj),W=(Y++[(ab,Obj.cells #[.slice Av l.length cv] 46),(c4,Obj.cells #[.slice none 0 0] 60)])++[(c5,Obj.cells #[ii (encE l most:Nat)] 61)]:=⟨_,rfl⟩
   have hB:J ([(D,Obj.deferred (some []))]++([nbO nb l.length]++W)) w7:=by rw [eW];simpa using hB
   (conv=>whnf);refine LeaveV.marks (J:=fun X' w'=>J (X'++([nbO nb l.length]++W)) w') (hJ.tail _) ?_ (D:=D) (Ds:=[]) hB;intro w' h';have h':J ([nbO nb l.length]++W) w':=h';have g4:=hJ.get h' (b:=c4) (o:=.cells #[.slice none 0 0] 60) (by rw [eW];simp);have g5:=hJ.get h' (b:=c5) (o:=.cells #[ii (encE l most:Nat)] 61) (by rw [eW];simp);(conv=>whnf);intro a ha;exact ⟨_,qb4 rfl (ha.get 4) (ha.get 5) g4 g5 Tryz.underlying60 Tryz.underlying61 rfl rfl,.inr ⟨hbad,.inl ⟨he,rfl,hJ.dropL (hJ.perm h' List.perm_append_comm)⟩⟩⟩
  ·have hpl:pkB l≠[]:=by
    intro e;have:=congrArg List.length e;rw [qq1] at this;simp at this
   obtain ⟨A9,c9,e9,h91,h92⟩:=hN.h;obtain ⟨g9,cur9,rfl,hg9,_,hct9,hcc9⟩:=h92.resolve_left hpl;subst e9;have hlo:=hN.lo g9 (List.mem_singleton.2 rfl);have hm9:Mem w4 w5 [(g9,Obj.cells cur9 5)]:=⟨hN.ext,fun x hx=>by rw [List.mem_singleton.1 hx];exact ⟨hlo.1,hg9⟩,by simp⟩
   replace hB:=hJ.call hB hm9;clear hgab hm9 hN hg9;have hB:J (([(g9,Obj.cells cur9 5),(D,Obj.deferred (some [])),nbO nb l.length]++(Y++[(ab,Obj.cells #[.slice Av l.length cv] 46)]))++(c4,Obj.cells #[.slice none 0 0] 60)::[(c5,Obj.cells #[ii 0] 61)]) w5:=by simpa using hB
   (conv=>whnf);refine StoreV.carr hJ hB (by show 0<1;omega) rfl ?_;clear hB;intro w6 hB;have hB:J (([(g9,Obj.cells cur9 5),(D,Obj.deferred (some [])),nbO nb l.length]++(Y++[(ab,Obj.cells #[.slice Av l.length cv] 46)]))++(c4,Obj.cells #[.slice (some ⟨g9,0,none⟩) (pkB l).length c9] 60)::[(c5,Obj.cells #[ii 0] 61)]) w6:=hB;have hB:J (([(g9,Obj.cells cur9 5),(D,Obj.deferred (some [])),nbO nb l.length]++(Y++[(ab,Obj.cells #[.slice Av l.length cv] 46),(c4,Obj.cells #[.slice (some ⟨g9,0,none⟩) (pkB l).length c9] 60)]))++(c5,Obj.cells #[ii 0] 61)::[]) w6:=by simpa using hB
   (conv=>whnf);refine StoreV.carr hJ hB (by show 0<1;omega) rfl ?_;clear hB;intro w7 hB;have hB:J (([(g9,Obj.cells cur9 5),(D,Obj.deferred (some [])),nbO nb l.length]++(Y++[(ab,Obj.cells #[.slice Av l.length cv] 46),(c4,Obj.cells #[.slice (some ⟨g9,0,none⟩) (pkB l).length c9] 60)]))++(c5,Obj.cells #[ii 0] 61)::[]) w7:=hB;obtain ⟨W,eW⟩:∃ W:List (Nat × Obj),W=(Y++[(ab,Obj.cells #[.slice Av l.length cv] 46),(c4,Obj.cells #[.slice (some ⟨g9,0,none⟩) (pkB l).length c9] 60)])++[(c5,Obj.cells #[ii 0] 61)]:=⟨_,rfl⟩
   have hB:J ([(g9,Obj.cells cur9 5)]++(D,Obj.deferred (some []))::([nbO nb l.length]++W)) w7:=by rw [eW];simpa using hB
   have hB:J ([(D,Obj.deferred (some []))]++([(g9,Obj.cells cur9 5),nbO nb l.length]++W)) w7:=hJ.perm hB List.perm_middle;(conv=>whnf);refine LeaveV.marks (J:=fun X' w'=>J (X'++([(g9,Obj.cells cur9 5),nbO nb l.length]++W)) w') (hJ.tail _) ?_ (D:=D) (Ds:=[]) hB;intro w' h';have h':J ([(g9,Obj.cells cur9 5),nbO nb l.length]++W) w':=h';have g4:=hJ.get h' (b:=c4) (o:=.cells #[.slice (some ⟨g9,0,none⟩) (pkB l).length c9] 60) (by rw [eW];simp);have g5:=hJ.get h' (b:=c5) (o:=.cells #[ii 0] 61) (by rw [eW];simp);(conv=>whnf);intro a ha;exact ⟨_,qb4 rfl (ha.get 4) (ha.get 5) g4 g5 Tryz.underlying60 Tryz.underlying61 rfl rfl,.inr ⟨hbad,.inr ⟨he,g9,c9,cur9,rfl,h91,hcc9,hct9,hJ.dropL (hJ.perm h' List.perm_append_comm)⟩⟩⟩
 ·rintro D cc k w4 hk ⟨⟨rfl,hb1',hbad⟩,hB⟩;(conv=>whnf);obtain ⟨W,eW⟩:∃ W:List (Nat × Obj),W=[(c4,Obj.cells #[.slice none 0 0] 60),(c5,Obj.cells #[ii (qa3 l k:Nat)] 61)]:=⟨_,rfl⟩
  have hB:J ([(D,Obj.deferred (some []))]++([nbO nb (k+1)]++W)) w4:=by rw [eW];simpa using hB
  refine LeaveV.marks (J:=fun X' w'=>J (X'++([nbO nb (k+1)]++W)) w') (hJ.tail _) ?_ (D:=D) (Ds:=[]) hB;intro w' h';have h':J ([nbO nb (k+1)]++W) w':=h';have g4:=hJ.get h' (b:=c4) (o:=.cells #[.slice none 0 0] 60) (by rw [eW];simp);have g5:=hJ.get h' (b:=c5) (o:=.cells #[ii (qa3 l k:Nat)] 61) (by rw [eW];simp);(conv=>whnf);intro a ha;exact ⟨_,qb4 rfl (ha.get 4) (ha.get 5) g4 g5 Tryz.underlying60 Tryz.underlying61 rfl rfl,.inl ⟨k,hk,hbad,hb1',rfl,hJ.dropL (hJ.perm h' List.perm_append_comm)⟩⟩
end
def PkD (l:List Q4) (most:Int) (w:World) (r:Value) (w':World):Prop:=
 (∃ k,k<l.length∧(∀ j,j<k→qa3 l j=0)∧qa3 l k≠0∧r=.tuple #[.slice none 0 0,ii (qa3 l k:Nat),ii (k+1:Nat)]∧Ext w w')∨
 ((∀ j,j<l.length→qa3 l j=0)∧((encE l most≠0∧r=.tuple #[.slice none 0 0,ii (encE l most:Nat),ii l.length]∧Ext w w')∨
  (encE l most=0∧∃ v,r=.tuple #[v,ii 0,ii l.length]∧NewS 5 w w' v (pkB l))))
theorem qvt (l:List Q4) (A:oA) (n c:Nat) (most:Int) (w:World) (hS:SlAt q7 16 w A l) (hn:l.length=n) (hb:n≤140737488355328) (hmo:InR .i64 most) (hq:∀ q∈l,qci q) :
  Gv Tryz.prog 24 [.slice A n c,ii most] w (PkD l most w):=by
 subst hn;have t16:tsz Tryz.prog 26=16:=by kernel_rfl
 refine ze Tryz.func24 Tryz.ntmps24 ?_;refine qe (fun i:Nat=>[(0,.slice A l.length c),(1,ii most),(7,ii i)]) (fun i w'=>i≤l.length∧(∀ j,j<i→qa3 l j=0)∧Ext w w') (fun i=>l.length-i) 0 ⟨rfl,rfl,rfl,trivial⟩ ⟨Nat.zero_le _,fun j h=>absurd h (Nat.not_lt_zero _),xr⟩ ?_;rintro k w1 ρ' ⟨hk,hbad,he⟩;conv=>whnf
 (repeat' (first|refine zp ?_|refine zC (fun _=>zw ?_) (fun _=>zw ?_)))
 case' refine_2=>
  obtain rfl:k=l.length:=by omega
  refine zcv (qrc l A l.length c most w1 (hS.ext he) rfl hb hmo hq) ?_;rintro r w2 (⟨h0,rfl,he2⟩|⟨h0,v,rfl,hN⟩)
  ·(conv=>whnf);exact .inr ⟨hbad,.inl ⟨h0,rfl,he.trans he2⟩⟩
  ·obtain ⟨A2,c2,ev,_,_⟩:=hN.bs;subst ev;(conv=>whnf);exact .inr ⟨hbad,.inr ⟨h0,_,rfl,hN.back he⟩⟩
 all_goals
  have hlt:k<l.length:=by omega
  obtain ⟨q,hqk⟩:∃ q,l[k]?=some q:=⟨_,zge hlt⟩
  have hbq:=qw8 hqk
 ·exact .inl ⟨k,hlt,hbad,by rw [hbq,badQ,if_pos Oo];decide,by rw [hbq,badQ,if_pos Oo];rfl,he⟩
 have hne:l≠[]:=by intro e;rw [e] at hlt;simp at hlt
 obtain ⟨g,o,rfl,hat⟩:=hS.at_ hne;have hqo:=hq q (zmg hqk);have hc:=hat k q hqk;refine ⟨⟨g,o,k,rfl,by omega,by omega,?_⟩⟩;rw [t16];(conv=>whnf);refine LoadA.cells (CellsAt.ext hc he) rfl (zw ?_);refine zcv (qeb q hqo w1) ?_;rintro r w2 ⟨rfl,he2⟩;replace he:=he.trans he2;clear he2;(conv=>whnf);refine zC (fun _=>zu ?_) (fun _=>zu ?_)
 ·exact .inl ⟨k,hlt,hbad,by rw [hbq,badQ,if_neg Oo,if_pos Oo];omega,by rw [hbq,badQ,if_neg Oo,if_pos Oo];rfl,he⟩
 have hz0:qa9 q=0:=by omega
 have hx:=fun wd (hd:Ext w2.drew wd)=>he.trans ((Ext.refl w2).drew.trans hd)
 by_cases hk0:k=0
 ·have hb0:qa3 l k=0:=by rw [hbq,badQ,if_neg Oo,if_neg (fun h=>h hz0),if_neg (fun h=>by omega)]
  refine DrawV.free Ok Ok (zw ?_);refine zd ?_;refine zsd (.bool false) (fun wd hd=>zw ?_) (zw ?_)
  ·exact ⟨xr,congrArg Value.bool (decide_eq_false Oo)⟩
  (iterate 13 (refine zd ?_));intro w3 he3;refine zu ?_;refine ⟨k+1,⟨rfl,rfl,rfl,trivial⟩,⟨by omega,fun j hj=>?_,hx _ he3⟩,by omega⟩
  rcases Nat.lt_or_ge j k with h|h
  ·exact hbad j h
  ·obtain rfl:j=k:=by omega
   exact hb0
 obtain ⟨pq,hpq⟩:∃ pq,l[k-1]?=some pq:=⟨_,zge Oo⟩
 have hgd:l.getD (k-1) zQ=pq:=by rw [List.getD_eq_getElem?_getD,hpq];rfl
 have hcp:=hat (k-1) pq hpq;refine DrawV.free Ok Ok (zw ?_);refine zd ?_;refine zsd (.bool true) (fun wd hd=>zw ?_) (zw ?_)
 ·exact ⟨xr,congrArg Value.bool (decide_eq_true Oo)⟩
 (iterate 4 (refine zd ?_));apply zsd (.pointer (some ⟨g,o+(k-1)*16,none⟩))
 ·intro wd hd;refine zu ?_;refine ⟨⟨g,o,k-1,rfl,by omega,by omega,?_⟩⟩;rw [t16];(conv=>whnf);exact ⟨xr,rfl⟩
 (conv=>whnf);apply zsd (qef pq)
 ·intro wd hd;refine zu ?_;refine LoadA.cells (CellsAt.ext hcp (hx wd hd)) rfl (zw ?_);exact ⟨xr,rfl⟩
 (conv=>whnf);refine zd ?_;refine zd ?_;apply zsd (.pointer (some ⟨g,o+k*16,none⟩))
 ·intro wd hd;refine zu ?_;refine ⟨⟨g,o,k,rfl,by omega,by omega,?_⟩⟩;rw [t16];(conv=>whnf);exact ⟨xr,rfl⟩
 (conv=>whnf);apply zsd (qef q)
 ·intro wd hd;refine zu ?_;refine LoadA.cells (CellsAt.ext hc (hx wd hd)) rfl (zw ?_);exact ⟨xr,rfl⟩
 (conv=>whnf);apply zsd (ii (cmpQ pq q))
 ·intro wd hd;refine zu ?_;refine zcv (qfg pq q wd) ?_;rintro r wx ⟨rfl,hex⟩;exact ⟨hex,rfl⟩
 (conv=>whnf);apply zsd (.bool (decide (0≤cmpQ pq q)))
 ·intro wd hd;refine zu ?_;exact ⟨xr,rfl⟩
 (conv=>whnf);refine zd ?_;intro w3 he3;(conv=>whnf);refine zC (fun _=>zu ?_) (fun _=>zu ?_)
 ·have hb6:qa3 l k=6:=by rw [hbq,badQ,if_neg Oo,if_neg (fun h=>h hz0),if_pos ⟨by omega,by rw [hgd];omega⟩]
  exact .inl ⟨k,hlt,hbad,by rw [hb6];decide,by rw [hb6];rfl,hx _ he3⟩
 have hb0:qa3 l k=0:=by rw [hbq,badQ,if_neg Oo,if_neg (fun h=>h hz0),if_neg (fun h=>h.2 (by rw [hgd];omega))]
 refine ⟨k+1,⟨rfl,rfl,rfl,trivial⟩,⟨by omega,fun j hj=>?_,hx _ he3⟩,by omega⟩
 rcases Nat.lt_or_ge j k with h|h
 ·exact hbad j h
 ·obtain rfl:j=k:=by omega
  exact hb0
theorem qzc (e:Int) (w:World):Gv Tryz.prog 25 [ii e] w fun r w'=>r=ii e∧Ext w w':=by
 refine ze Tryz.func25 Tryz.ntmps25 ?_;exact ⟨rfl,xr⟩
theorem qcw (l:LB) (A B:oA) (cA cB:Nat) (w:World) (hA:SlAt encB 1 w A l) (hB:SlAt encB 1 w B l) (hl:l.length≤1152921504606846976) :
  Gv Tryz.prog 26 [.slice A l.length cA,.slice B l.length cB] w fun r w'=>r=.bool true∧Ext w w':=by
 refine ze Tryz.func26 Tryz.ntmps26 ?_;refine zv ?_;refine qe (fun i:Nat=>[(0,.slice A l.length cA),(1,.slice B l.length cB),(5,ii i)]) (fun i w'=>i≤l.length∧Ext w w') (fun i=>l.length-i) 0 ⟨rfl,rfl,rfl,trivial⟩ ⟨Nat.zero_le _,xr⟩ ?_;rintro i w1 ρ' ⟨hi,he⟩;(conv=>whnf);refine zC (fun _=>zw ?_) (fun _=>zw ?_)
 ·have hlt:i<l.length:=by omega
  have hne:l≠[]:=by intro e;rw [e] at hlt;simp at hlt
  obtain ⟨g1,o1,rfl,h1⟩:=(hA.ext (he.trans (Ext.refl w1).drew)).at_ hne;obtain ⟨g2,o2,rfl,h2⟩:=(hB.ext (he.trans (Ext.refl w1).drew)).at_ hne;have h1:=h1 i _ (zge hlt);have h2:=h2 i _ (zge hlt);refine zy ?_;refine zv ?_;refine ⟨⟨g1,o1,i,rfl,by omega,by omega,?_⟩⟩;rw [show tsz Tryz.prog 5=1 from by kernel_rfl];refine zu ?_;refine LoadV.cell0 h1 (zu ?_);refine ⟨⟨g2,o2,i,rfl,by omega,by omega,?_⟩⟩;rw [show tsz Tryz.prog 5=1 from by kernel_rfl];refine zu ?_;refine LoadV.cell0 h2 (zu ?_);exact ⟨i+1,⟨rfl,rfl,congrArg (Value.int .i64) Oo,trivial⟩,⟨by omega,he.trans (Ext.refl w1).drew⟩,by omega⟩
 ·exact ⟨rfl,he⟩
def LRow (e:TypeId) (v:Value) (n:Nat) (Y:List (Nat × Obj)):Prop:=
 (v=.slice none 0 0∧n=0∧Y=[])∨∃ g c cur,v=.slice (some ⟨g,0,none⟩) n c∧n≤c∧c≤cur.size∧Y=[(g,.cells cur e)]
section
variable {J:List (Nat × Obj)→World→Prop}
theorem AppV.loose {P:Program} (hJ:Carr J) {e:Nat} {w:World} {v:Value} {n:Nat} {t ty:TypeId} {i:TypeInfo} {z:Value} {b off c:Nat} {news:List Value} {X Y:List (Nat × Obj)} {K:Value→World→Prop} (h:J (Y++X) w) (hR:LRow e v n Y)
  (ht:P.underlying t=some (.slice e)) (hi:P.info? e=some i) (hz:i.zero=some z) (hsize:i.size=1) (hzs:z.cells.size=1) (hl:news.length=1) (hnews:CellsAt w b off news) (h1:∀ u∈news,u.oneCell'=true) (hb:(n+1)*i.bytes≤140737488355328) (h63:n+1≤140737488355328)
  (hk:∀ v' Y' w',LRow e v' (n+1) Y'→J (Y'++X) w'→K v' w'):AppV P #[t,t] ty v (.slice (some ⟨b,off,none⟩) 1 c) w K:=by
 have hnew2:∀ j u,news[j]?=some u→w.cell? ((⟨b,off,none⟩:Addr).add j)=some u:=fun j u hj=>by rw [Addr.add_lit];exact hnews j u hj
 rcases hR with ⟨rfl,rfl,rfl⟩|⟨g,cap,cur,rfl,h2,h3,rfl⟩
 ·refine AppV.carr (size:=1) (m:=1) (xs:=[]) hJ h (RowX.nil e 1) ht hi hz hsize hzs Od (by rw [hl]) (fun _=>⟨b,off,rfl,hnews⟩) h1 hb h63 fun A' c' Y' w' hR hj=>hk _ Y' w' ?_ hj;obtain ⟨_,⟨_,h0,_⟩|⟨g,cap,cur,h4,h5,h6,_,h7,_⟩⟩:=hR
  ·omega
  ·exact .inr ⟨g,cap,cur,h4,h6,by omega,h5⟩
 ·have hg:=hJ.get h mh
  by_cases hroom:n+1≤cap
  ·refine ⟨_,_,run_append_room (P:=P) w t ty e i ht hi g n cap cur hg ⟨b,off,none⟩ 1 c news (by rw [hl,hsize]) hnew2 h1 hroom (by rw [hl,hsize];omega),?_⟩;rw [qj3 hg];refine hk _ [(g,_)] _ (.inr ⟨g,cap,_,rfl,hroom,?_,rfl⟩) (hJ.set _ h);rw [List.size_toArray,hsize];simp only [zla,List.length_take,zld,Array.length_toList,hl];omega
  ·have hcur:(cur.toList.take n).length=n*i.size:=by rw [List.length_take,Array.length_toList,hsize];omega
   refine ⟨_,_,run_append_grow (P:=P) w t ty e i z ht hi hz ⟨g,0,none⟩ n cap (cur.toList.take n) hcur (fun j u hj=>?_) ⟨b,off,none⟩ 1 c news (by rw [hl,hsize]) hnew2 Oo Oo (growslice_fits Oo hb),?_⟩
   ·rw [List.getElem?_take] at hj
    split at hj
    ·rw [Addr.add_lit,Nat.zero_add,qa hg,← Array.getElem?_toList];exact hj
    ·cases hj
   ·have hge:=grownCap_ge w (n+1) cap e;have hj:J X w.drew:=hJ.ext (hJ.drop h) (Ext.refl w).drew;refine hk _ [(w.heap.size,_)] _ (.inr ⟨w.heap.size,_,_,rfl,hge,?_,rfl⟩) (hJ.new _ hj);simp only [Array.size_append,List.size_toArray,size_zeroCells,hzs,hcur,hl,hsize];omega
def Said (l:List Q4) (most:Int) (B:LB) (e k:Nat):Prop:=
 (∃ j,j<l.length∧(∀ i,i<j→qa3 l i=0)∧qa3 l j≠0∧B=[]∧e=qa3 l j∧k=j+1)∨
 ((∀ i,i<l.length→qa3 l i=0)∧k=l.length∧((encE l most≠0∧B=[]∧e=encE l most)∨(encE l most=0∧B=pkB l∧e=0)))
theorem Said.uniq {l:List Q4} {most:Int} {B B':LB} {e e' k k':Nat} (h:Said l most B e k) (h':Said l most B' e' k'):B=B'∧e=e'∧k=k':=by
 rcases h with ⟨j,h1,h2,h3,rfl,rfl,rfl⟩|⟨h1,rfl,h2⟩
 ·rcases h' with ⟨i,g1,g2,g3,rfl,rfl,rfl⟩|⟨g1,_⟩
  ·rcases Nat.lt_trichotomy i j with h|rfl|h
   ·exact absurd (h2 i h) g3
   ·exact ⟨rfl,rfl,rfl⟩
   ·exact absurd (g2 j h) h3
  ·exact absurd (g1 j h1) h3
 ·rcases h' with ⟨i,g1,g2,g3,_⟩|⟨_,rfl,g2⟩
  ·exact absurd (h1 i g1) g3
  ·rcases h2 with ⟨a1,rfl,rfl⟩|⟨a1,rfl,rfl⟩<;>rcases g2 with ⟨b1,rfl,rfl⟩|⟨b1,rfl,rfl⟩
   ·exact ⟨rfl,rfl,rfl⟩
   ·exact absurd b1 a1
   ·exact absurd a1 b1
   ·exact ⟨rfl,rfl,rfl⟩
def PRow (v:Value) (B:LB) (Y:List (Nat × Obj)):Prop:=
 (v=.slice none 0 0∧B=[]∧Y=[])∨∃ g c cur,v=.slice (some ⟨g,0,none⟩) B.length c∧B.length≤c∧c≤cur.size∧cur.toList.take B.length=byV B∧Y=[(g,.cells cur 5)]
theorem PRow.loose {v:Value} {B:LB} {Y:List (Nat × Obj)} (h:PRow v B Y):LRow 5 v B.length Y:=by
 rcases h with ⟨rfl,rfl,rfl⟩|⟨g,c,cur,rfl,h1,h2,_,rfl⟩
 ·exact .inl ⟨rfl,rfl,rfl⟩
 ·exact .inr ⟨g,c,cur,rfl,h1,h2,rfl⟩
theorem PRow.at_ {v:Value} {B:LB} {Y:List (Nat × Obj)} (h:PRow v B Y):∃ A c,v=.slice A B.length c∧∀ w:World,(∀ x∈Y,w.heap[x.1]?=some x.2)→SlAt encB 1 w A B:=by
 rcases h with ⟨rfl,rfl,rfl⟩|⟨g,c,cur,rfl,_,h4,h5,rfl⟩
 ·exact ⟨none,0,rfl,fun w _=>⟨fun h=>absurd rfl h⟩⟩
 ·refine ⟨_,c,rfl,fun w h3=>⟨fun _=>⟨g,0,rfl,fun j u hu k v hv=>?_⟩⟩⟩;have h3:=h3 _ (List.mem_singleton.2 rfl);cases k with
  | succ k=>simp [encB] at hv
  | zero=>
   simp only [encB,List.getElem?_cons_zero,Option.some.injEq] at hv;subst hv;have hj:(cur.toList.take B.length)[j]?=some (.int .u8 u.toNat):=by rw [h5,byV,List.getElem?_map,hu];rfl
   rw [List.getElem?_take] at hj
   split at hj
   ·rw [qa h3]
    simpa using hj
   ·cases hj
theorem LRow.slice {e:TypeId} {v:Value} {n:Nat} {Y:List (Nat × Obj)} (h:LRow e v n Y):∃ A c,v=.slice A n c:=by
 rcases h with ⟨rfl,rfl,_⟩|⟨g,c,_,rfl,_⟩
 ·exact ⟨none,0,rfl⟩
 ·exact ⟨_,c,rfl⟩
theorem qy9 {w w':World} {v:Value} {B:LB} (h:NewS 5 w w' v B):∃ A c Y,v=.slice A B.length c∧Mem w w' Y∧∀ w'':World,(∀ x∈Y,w''.heap[x.1]?=some x.2)→SlAt encB 1 w'' A B:=by
 obtain ⟨A,c,e,h1,h2⟩:=h.h
 by_cases hB:B=[]
 ·exact ⟨A,c,[],e,⟨h.ext,by simp,by simp⟩,fun w'' _=>⟨fun h=>absurd hB h⟩⟩
 ·obtain ⟨g,cur,rfl,h3,h4,h5,h6⟩:=h2.resolve_left hB;subst e;have hlo:=h.lo g (List.mem_singleton.2 rfl);obtain ⟨A',c',e',h7⟩:=PRow.at_ (v:=.slice (some ⟨g,0,none⟩) B.length c) (B:=B) (Y:=[(g,.cells cur 5)]) (.inr ⟨g,c,cur,rfl,h1,h6,h5,rfl⟩)
  injection e' with e1 e2 e3
  subst e1 e3;exact ⟨_,_,_,rfl,⟨h.ext,fun x hx=>by rw [List.mem_singleton.1 hx];exact ⟨hlo.1,h3⟩,by simp⟩,h7⟩
theorem PkR.said {l:List Q4} {most:Int} {nb:Nat} {r:Value} {w:World} (h:PkR J l most nb r w):∃ B e k v Y,Said l most B e k∧r=.tuple #[v,ii (e:Nat)]∧PRow v B Y∧J (Y++[nbO nb k]) w:=by
 rcases h with ⟨k,h1,h2,h3,rfl,h4⟩|⟨h1,⟨h2,rfl,h4⟩|⟨h2,g,c,cur,rfl,h3,h4,h5,h6⟩⟩
 ·exact ⟨[],_,_,_,[],.inl ⟨k,h1,h2,h3,rfl,rfl,rfl⟩,rfl,.inl ⟨rfl,rfl,rfl⟩,h4⟩
 ·exact ⟨[],_,_,_,[],.inr ⟨h1,rfl,.inl ⟨h2,rfl,rfl⟩⟩,rfl,.inl ⟨rfl,rfl,rfl⟩,h4⟩
 ·exact ⟨_,0,_,_,[(g,_)],.inr ⟨h1,rfl,.inr ⟨h2,rfl,rfl⟩⟩,rfl,.inr ⟨g,c,cur,rfl,h3,h4,h5,rfl⟩,h6⟩
end
theorem PkD.said {l:List Q4} {most:Int} {w w':World} {r:Value} (h:PkD l most w r w'):∃ B e k v,Said l most B e k∧r=.tuple #[v,ii (e:Nat),ii (k:Nat)]∧NewS 5 w w' v B:=by
 rcases h with ⟨k,h1,h2,h3,rfl,h4⟩|⟨h1,⟨h2,rfl,h4⟩|⟨h2,v,rfl,h3⟩⟩
 ·exact ⟨[],_,_,_,.inl ⟨k,h1,h2,h3,rfl,rfl,rfl⟩,rfl,NewS.nil _ h4⟩
 ·exact ⟨[],_,_,_,.inr ⟨h1,rfl,.inl ⟨h2,rfl,rfl⟩⟩,rfl,NewS.nil _ h4⟩
 ·exact ⟨_,0,_,_,.inr ⟨h1,rfl,.inr ⟨h2,rfl,rfl⟩⟩,rfl,h3⟩
theorem Said.len {l:List Q4} {most:Int} {B:LB} {e k:Nat} (h:Said l most B e k) (hl:l.length≤140737488355328):B.length≤70368744177664∧k≤140737488355328:=by
 rcases h with ⟨j,h1,_,_,rfl,_,rfl⟩|⟨_,rfl,⟨_,rfl,_⟩|⟨h2,rfl,_⟩⟩
 ·exact ⟨Nat.zero_le _,by omega⟩
 ·exact ⟨Nat.zero_le _,hl⟩
 ·obtain ⟨_,_,_,hp⟩:=qx1 h2;exact ⟨by omega,hl⟩
theorem qki (l:List Q4) (A:oA) (n c:Nat) (most:Int) (w:World) (hS:SlAt q7 16 w A l) (hn:l.length=n) (hb:n≤140737488355328) (hmo:InR .i64 most) (hq:∀ q∈l,qci q) (hG:GlobE w) :
  Gv Tryz.prog 5 [.slice A n c,ii most] w fun r w'=>r=.bool true∧Ext w w':=by
 subst hn;have cN:=q84 w;refine gvW Ok Tryz.func5 rfl Tryz.ntmps5 rfl (zw ?_);refine znm (Mem.nil w) fun na w1 hm=>zw ?_;refine StoreV.carr cN (A:=[]) (B:=[]) hm (by show 0<1;omega) rfl fun w2 hm=>zw ?_;refine znm hm fun nb w3 hm=>zw ?_;refine StoreV.carr cN (A:=[]) hm (by show 0<1;omega) rfl fun w4 hm=>zw ?_;refine zcv (qi6 A l.length c na w4) ?_;rintro r w5 ⟨b1,b2,rfl,hM⟩;have hm:=hm.glue hM;clear hM;obtain ⟨Z,eZ⟩:∃ Z:List (Nat × Obj),Z=[(b2,Obj.cells #[pp na] 65),(b1,Obj.cells #[.slice A l.length c] 46),nbO nb 0]:=⟨_,rfl⟩
 have hm:Mem w w5 ([nbO na 0]++Z):=hm.perm (by rw [eZ];exact List.perm_append_comm (l₁:=[_]) (l₂:=[_,_,_]));(conv=>whnf);refine zcv (qoz (cN.tail Z) l hb hq A c b1 b2 na most hmo (fun X w' h=>⟨⟨?_,?_,hS.ext h.ext⟩,hG.ext h.ext⟩) w5 hm) ?_
 ·rw [qa (h.get (b:=b1) (o:=Obj.cells #[.slice A l.length c] 46) (by rw [eZ];simp))];rfl
 ·rw [qa (h.get (b:=b2) (o:=Obj.cells #[pp na] 65) (by rw [eZ];simp))];rfl
 intro r w6 hR;obtain ⟨B,e,k,va,Ya,hsa,rfl,hPa,hm⟩:=hR.said;obtain ⟨Aa,ca,rfl,hAa⟩:=hPa.at_;subst eZ;clear hR;(conv=>whnf);refine zcv (qi6 A l.length c nb w6) ?_;rintro r w7 ⟨b3,b4,rfl,hM⟩;have hm:=hm.glue hM;clear hM;have hm:Mem w w7 (([(b4,Obj.cells #[pp nb] 65),(b3,Obj.cells #[.slice A l.length c] 46)]++(Ya++[nbO na k]))++(b2,Obj.cells #[pp na] 65)::(b1,Obj.cells #[.slice A l.length c] 46)::[nbO nb 0]):=by simpa using hm
 replace hm:=cN.dropM hm;replace hm:=cN.dropM hm;obtain ⟨Z,eZ⟩:∃ Z:List (Nat × Obj),Z=[(b4,Obj.cells #[pp nb] 65),(b3,Obj.cells #[.slice A l.length c] 46)]++(Ya++[nbO na k]):=⟨_,rfl⟩
 rw [← eZ] at hm;have hm:Mem w w7 ([nbO nb 0]++Z):=cN.perm hm List.perm_append_comm;(conv=>whnf);refine zcv (qoz (cN.tail Z) l hb hq A c b3 b4 nb most hmo (fun X w' h=>⟨⟨?_,?_,hS.ext h.ext⟩,hG.ext h.ext⟩) w7 hm) ?_
 ·rw [qa (h.get (b:=b3) (o:=Obj.cells #[.slice A l.length c] 46) (by rw [eZ];simp))];rfl
 ·rw [qa (h.get (b:=b4) (o:=Obj.cells #[pp nb] 65) (by rw [eZ];simp))];rfl
 intro r w8 hR;obtain ⟨B2,e2,k2,vb,Yb,hsb,rfl,hPb,hm⟩:=hR.said;obtain ⟨rfl,rfl,rfl⟩:=hsa.uniq hsb;obtain ⟨Ab,cb,rfl,hAb⟩:=hPb.at_;subst eZ;clear hR hsb;have hm:Mem w w8 (Yb++(nbO nb k::[(b4,Obj.cells #[pp nb] 65),(b3,Obj.cells #[.slice A l.length c] 46)]++(Ya++[nbO na k]))):=by simpa using hm
 (conv=>whnf);refine zcv (qvt l A l.length c most w8 (hS.ext hm.ext) rfl hb hmo hq) ?_;intro r w9 hR;obtain ⟨B2,e2,k2,vc,hsb,rfl,hN⟩:=hR.said;obtain ⟨rfl,rfl,rfl⟩:=hsa.uniq hsb;clear hR hsb;obtain ⟨Ac,cc,Yc,rfl,hM,hAc⟩:=qy9 hN;have hm:=hm.glue hM;clear hN hM;obtain ⟨hBl,hkl⟩:=hsa.len hb;obtain ⟨R,eR⟩:∃ R:List (Nat × Obj),R=Yc++(Yb++(nbO nb k::(b4,Obj.cells #[pp nb] 65)::(b3,Obj.cells #[.slice A l.length c] 46)::[nbO na k])):=⟨_,rfl⟩
 have hm:Mem w w9 (Ya++R):=cN.perm hm (by
  rw [eR];refine List.Perm.trans ?_ List.perm_append_comm;simp only [List.append_assoc,List.cons_append,List.nil_append];refine List.Perm.append_left _ (List.Perm.append_left _ (List.Perm.cons _ (List.Perm.cons _ (List.Perm.cons _ ?_))));exact List.perm_append_comm)
 have hRc:∀ {w':World},(∀ x∈R,w'.heap[x.1]?=some x.2)→SlAt encB 1 w' Ac B:=fun h=>hAc _ fun x hx=>h x (by rw [eR];exact List.mem_append_left _ hx)
 have hRb:∀ {w':World},(∀ x∈R,w'.heap[x.1]?=some x.2)→SlAt encB 1 w' Ab B:=fun h=>hAb _ fun x hx=>h x (by rw [eR];exact List.mem_append_right _ (List.mem_append_left _ hx))
 have hga:=hm.get (b:=na) (o:=.cells #[ii k] 3) (by rw [eR];simp [nbO]);have hgb:=hm.get (b:=nb) (o:=.cells #[ii k] 3) (by rw [eR];simp [nbO]);clear hAb hAc eR;(conv=>whnf);refine zcv (qzc e w9) ?_;rintro r w10 ⟨rfl,he⟩;replace hm:=hm.call he;replace hga:=he.get hga;replace hgb:=he.get hgb;clear he;have hAa1:=hAa w10 fun x hx=>hm.get (List.mem_append_left _ hx)
 have hAb1:=hRb fun x hx=>hm.get (b:=x.1) (o:=x.2) (List.mem_append_right _ hx)
 have hAc1:=hRc fun x hx=>hm.get (b:=x.1) (o:=x.2) (List.mem_append_right _ hx)
 refine zu ?_;refine LoadV.own hga rfl (zu ?_);refine LoadV.own hgb rfl (zu ?_);refine zcv (qcw B Aa Ac ca cc w10 hAa1 hAc1 Oo) ?_;rintro r w11 ⟨rfl,he⟩;replace hm:=hm.call he;replace hAb1:=hAb1.ext he;replace hAc1:=hAc1.ext he;clear he hAa1 hga hgb;refine zu ?_;refine zcv (qcw B Ab Ac cb cc w11 hAb1 hAc1 Oo) ?_;rintro r w12 ⟨rfl,he⟩;replace hm:=hm.call he;clear he hAb1 hAc1;refine zu ?_;refine q2n (fun i:Nat=>[(7,.slice Aa B.length ca),(9,.slice Ab B.length cb),(11,.slice Ac B.length cc),(14,ii i)]) (fun i w'=>i≤B.length∧∃ Y,LRow 5 (.slice Aa B.length ca) B.length Y∧Mem w w' (Y++R)) (fun i=>B.length-i) 0 ⟨rfl,rfl,rfl,rfl,trivial⟩ ⟨Nat.zero_le _,Ya,hPa.loose,hm⟩ ?_;clear hm hPa hAa;rintro i w13 ρ' ⟨hi,Y,hL,hm⟩;(conv=>whnf);refine zC (fun _=>zw ?_) (fun _=>zw ?_)
 ·have hlt:i<B.length:=by omega
  rcases hL with ⟨_,h0,_⟩|⟨g,c1,cur,e1,h1,h2,rfl⟩
  ·omega
  injection e1 with e1 _ e2
  subst e1 e2;refine ⟨⟨g,0,i,rfl,by omega,by omega,?_⟩⟩;rw [show tsz Tryz.prog 5=1 from by kernel_rfl];(conv=>whnf);refine StoreV.carr cN (A:=[]) hm Oo rfl fun w14 hm=>zu ?_;refine ⟨rfl,i+1,⟨rfl,rfl,rfl,rfl,trivial⟩,⟨by omega,_,.inr ⟨g,_,_,rfl,h1,?_,rfl⟩,hm⟩,by omega⟩
  simpa using h2
 refine q2n (fun s:Nat × Value=>[(7,s.2),(9,.slice Ab B.length cb),(11,.slice Ac B.length cc),(15,ii s.1)]) (fun s w'=>s.1≤40∧∃ Y,LRow 5 s.2 (B.length+s.1) Y∧Mem w w' (Y++R)) (fun s=>40-s.1) (0,.slice Aa B.length ca) ⟨rfl,rfl,rfl,rfl,trivial⟩ ⟨Nat.zero_le _,Y,hL,hm⟩ ?_;clear hm hL;rintro ⟨j,v⟩ w15 ρ' ⟨hj,Y,hL,hm⟩;dsimp only at hj hL hm ⊢;obtain ⟨A7,c7,rfl⟩:=hL.slice;(conv=>whnf);refine zC (fun _=>zw ?_) (fun _=>zw ?_)
 ·refine NewV.carr cN hm ?_;clear hm;intro eb w16 hm;have hm:Mem w w16 (Y++((eb,.cells #[.int .u8 8] 5)::R)):=cN.perm hm List.perm_middle.symm;(conv=>whnf);refine AppV.loose cN hm hL qbf bytI bytZ Ok rfl rfl (off:=0) (b:=eb) (news:=[.int .u8 8]) ?_ ?_ ?_ Oo ?_
  ·intro k u hu;rw [qa (hm.get (List.mem_append_right _ mh)),Nat.zero_add,← Array.getElem?_toList];exact hu
  ·intro u hu;rw [List.mem_singleton.1 hu];rfl
  ·rw [show ((Tryz.prog.info? 5).get Ok).bytes=1 from by kernel_rfl];omega
  intro v' Y' w17 hL' hm;replace hm:=cN.dropM hm;obtain ⟨A8,c8,rfl⟩:=hL'.slice;refine zu ?_;exact ⟨rfl,(j+1,_),⟨rfl,rfl,rfl,rfl,trivial⟩,⟨by omega,Y',hL',hm⟩,by omega⟩
 have hAb1:=hRb fun x hx=>hm.get (b:=x.1) (o:=x.2) (List.mem_append_right _ hx)
 have hAc1:=hRc fun x hx=>hm.get (b:=x.1) (o:=x.2) (List.mem_append_right _ hx)
 refine zcv (qcw B Ab Ac cb cc w15 hAb1 hAc1 Oo) ?_;rintro r w18 ⟨rfl,he⟩;replace hm:=hm.call he;(conv=>whnf);exact ⟨rfl,hm.ext⟩
end Go.Proofs.YtacnkdagblbgfaaGreatDoor
