/- Lemmas and contracts of functions on the way to the law's card (part 5 of 16). -/
import Derived.Test.YtccmcfpmknpccaaGreatDoorSH4
import Derived.Lib.BitFns
namespace Go.Proofs.YtccmcfpmknpccaaGreatDoor
set_option maxHeartbeats 8000000
open Go.RowKit V
set_option maxRecDepth 100000
namespace V
theorem StoreA.same {P:Program} {w:World} {b:Nat} {cur:Array Value} {t:TypeId} {vs:List Value} {K:World→Prop} (hg:w.heap[b]?=some (.cells cur t)) (hv:vs=cur.toList) (h1:∀ v∈vs,v.oneCell'=true)
  (hk:∀ w',Ext w w'→K w'):StoreA P w b 0 vs K:=by
 subst hv;have hr:=run_storeCells_at P b 0 t cur.toList 0 cur w hg Js h1;have ec:(cur.toList.take (0+0)++cur.toList++cur.toList.drop (0+0+cur.toList.length)).toArray=cur:=by
  grind
 rw [ec] at hr;refine ⟨_,hr,hk _ ⟨rfl,rfl,rfl,by simp,fun k _=>?_⟩⟩
 grind [qb3,qp]
theorem BS.rest {w:World} {g off c a:Nat} {l:LB} (hA:SlAt encB 1 w (some ⟨g,off,none⟩) l) (hc:l.length≤c) (ha:a<l.length):BS w (.slice (some ⟨g,off+a,none⟩) (l.length-a) (c-a)) (l.drop a):=by
 refine ⟨_,c-a,by rw [zld],by grind,?_⟩;have:=hA.cut (A':=some ⟨g,off+a,none⟩) (lo:=a) (hi:=l.length) (m:=c) Oo Oo hc (by grind [q7])
 grind [List.take_of_length_le]
theorem SliceV.rest {g off n c:Nat} {lo:Option Value} {K:Value→Prop} (a:Nat) (h1:bnd lo 0 a) (hn:n≤c) (ha:a<n) (hk:K (.slice (some ⟨g,off+a,none⟩) (n-a) (c-a))):SliceV 1 (some ⟨g,off,none⟩) n c lo none none K:=by
 refine ⟨a,n,c,h1,rfl,rfl,by omega,hn,Nat.le_refl _,Js,fun A' e=>?_⟩
 grind [q7]
structure CurAt (wd w:World) (v:Value) (o:Obj):Prop where
 h:∃ b,v=pp b∧wd.heap.size≤b∧w.heap[b]?=some o
structure Two (wd:World) (o1 o2:Obj) (F:World→Prop) (s2 s5 s6 s12 s13 s17:Bool) (v5 v12:Value) (w:World):Prop where
 a:s17=false→Ext wd w∧(s5=true→s6=false→CurAt wd w v5 o1)∧(s12=true→s13=false→CurAt wd w v12 o2)
 d:s6=true→s5=true
 e:s12=true→s6=true
 f:s17=true→F w∧s2=true∧s5=true∧s6=true∧s12=true∧s13=true
section
variable {wd w w':World} {o1 o2:Obj} {F:World→Prop} {s2 s5 s6 s12 s13 s17:Bool} {v5 v12 v:Value}
theorem Two.start:Two wd o1 o2 F false false false false false false v5 v12 wd:=⟨(by grind [Ext.refl]),Js,Js,Js⟩
theorem Two.read1 (h:Two wd o1 o2 F s2 false s6 s12 s13 s17 v5 v12 w) (he:Ext w w') (hv:∃ b,v=pp b∧w.heap.size≤b∧w'.heap[b]?=some o1):Two wd o1 o2 F s2 true s6 s12 s13 s17 v v12 w':=by
 have h6:s6=false:=by
  cases h':s6
  ·rfl
  ·have:=h.d h';cases this
 have h17:s17=false:=by
  cases h':s17
  ·rfl
  ·have:=(h.f h').2.2.1;cases this
 obtain ⟨a1,a2,a3⟩:=h.a h17;obtain ⟨b,rfl,hb,hc⟩:=hv;have h12:s12=false:=by
  cases h':s12
  ·rfl
  ·have:=h.e h';simp_all
 exact ⟨fun _=>⟨a1.trans he,fun _ _=>⟨b,rfl,Nat.le_trans a1.size hb,hc⟩,(by grind)⟩,fun _=>rfl,h.e,(by grind)⟩
theorem Two.cur1 (h:Two wd o1 o2 F s2 s5 false s12 s13 s17 v5 v12 w) (h5:s5=true):Ext wd w∧CurAt wd w v5 o1:=by
 have h17:s17=false:=by
  cases h':s17
  ·rfl
  ·have:=(h.f h').2.2.2.1;cases this
 obtain ⟨a1,a2,a3⟩:=h.a h17
 simp_all
theorem Two.fix1 {u5 u12:Value} (h:Two wd o1 o2 F s2 s5 false s12 s13 s17 v5 v12 w) (h5:s5=true) (he:Ext wd w'):Two wd o1 o2 F s2 s5 true s12 s13 s17 u5 u12 w':=by
 have h17:s17=false:=by
  cases h':s17
  ·rfl
  ·have:=(h.f h').2.2.2.1;cases this
 have h12:s12=false:=by
  cases h':s12
  ·rfl
  ·have:=h.e h';cases this
 exact ⟨(by grind),fun _=>h5,fun _=>rfl,(by grind)⟩
theorem Two.ext2 (h:Two wd o1 o2 F s2 s5 s6 false s13 s17 v5 v12 w):Ext wd w:=by
 have h17:s17=false:=by
  cases h':s17
  ·rfl
  ·have:=(h.f h').2.2.2.2.1;cases this
 exact (h.a h17).1
theorem Two.ext1 (h:Two wd o1 o2 F s2 false s6 s12 s13 s17 v5 v12 w):Ext wd w:=by
 have h17:s17=false:=by
  cases h':s17
  ·rfl
  ·have:=(h.f h').2.2.1;cases this
 exact (h.a h17).1
theorem Two.ext0 (h:Two wd o1 o2 F false s5 s6 s12 s13 s17 v5 v12 w):Ext wd w:=by
 have h17:s17=false:=by
  cases h':s17
  ·rfl
  ·have:=(h.f h').2.1;cases this
 exact (h.a h17).1
theorem Two.load (h:Two wd o1 o2 F false s5 s6 s12 s13 s17 v5 v12 w):Two wd o1 o2 F true s5 s6 s12 s13 s17 v5 v12 w:=by
 have h17:s17=false:=by
  cases h':s17
  ·rfl
  ·have:=(h.f h').2.1;cases this
 exact ⟨h.a,h.d,h.e,(by grind)⟩
theorem Two.read2 (h:Two wd o1 o2 F s2 s5 s6 false s13 s17 v5 v12 w) (h6:s6=true) (he:Ext w w') (hv:∃ b,v=pp b∧w.heap.size≤b∧w'.heap[b]?=some o2):Two wd o1 o2 F s2 s5 s6 true s13 s17 v5 v w':=by
 have h17:s17=false:=by
  cases h':s17
  ·rfl
  ·have:=(h.f h').2.2.2.2.1;cases this
 obtain ⟨a1,a2,a3⟩:=h.a h17;obtain ⟨b,rfl,hb,hc⟩:=hv;exact ⟨fun _=>⟨a1.trans he,(by grind),fun _ _=>⟨b,rfl,Nat.le_trans a1.size hb,hc⟩⟩,h.d,fun _=>h6,(by grind)⟩
theorem Two.cur2 (h:Two wd o1 o2 F s2 s5 s6 s12 false s17 v5 v12 w) (h12:s12=true):Ext wd w∧CurAt wd w v12 o2:=by
 have h17:s17=false:=by
  cases h':s17
  ·rfl
  ·have:=(h.f h').2.2.2.2.2;cases this
 obtain ⟨a1,a2,a3⟩:=h.a h17
 simp_all
theorem Two.fix2 (h:Two wd o1 o2 F s2 s5 s6 s12 false s17 v5 v12 w) (h12:s12=true) (he:Ext wd w') {u5 u12:Value}:Two wd o1 o2 F s2 s5 s6 s12 true s17 u5 u12 w':=by
 have h17:s17=false:=by
  cases h':s17
  ·rfl
  ·have:=(h.f h').2.2.2.2.2;cases this
 exact ⟨fun _=>⟨he,fun _ h6=>(by rw [h.e h12] at h6;cases h6),Js⟩,h.d,h.e,(by grind)⟩
end
end V
def hN (l:LB) (k:Nat):Nat:=leN ((l.drop (4*k)).take 4)
def qb1 (l:LB):Nat × Nat:=
 if l.length<28 then (l.length,10) else if hN l 0≠1095914324 then (0,190) else if hN l 6≠(crcL (l.take 24)).toNat then (24,30) else if hN l 1≠1 then (4,191)
 else if 67108864<hN l 4+hN l 5+36 then (0,2) else if l.length<hN l 4+hN l 5+36 then (l.length,10) else if hN l 4+hN l 5+36<l.length then (hN l 4+hN l 5+36,13) else (0,0)
def zF:List Value:=[ii 0,ii 0,ii 0,ii 0,.slice none 0 0,.slice none 0 0,ii 0,ii 0,.int .u32 0,.int .u32 0]
def okF (l:LB) (A B:oA):List Value:=[ii (hN l 2),ii (hN l 3),ii (hN l 4),ii (hN l 5),.slice A (hN l 4) (hN l 4),.slice B (hN l 5) (hN l 5),ii 28,ii (32+hN l 4:Nat),
 .int .u32 (leN ((l.drop (28+hN l 4)).take 4)),.int .u32 (leN ((l.drop (32+hN l 4+hN l 5)).take 4))]
theorem qabp (l:LB) (k:Nat):hN l k<4294967296:=by
 have:=qy3 ((l.drop (4*k)).take 4);have h2:((l.drop (4*k)).take 4).length≤4:=by simp;omega
 have h3:256 ^ ((l.drop (4*k)).take 4).length≤256 ^ 4:=Nat.pow_le_pow_right Od h2
 grind [hN]
def nsL (l:LB) (i:Nat):List Value:=(List.range 7).map fun k=>Value.int .u64 ((if k<i then hN l k else 0:Nat):Int)
theorem q8n (l:LB) (i:Nat) (hi:i<7):(nsL l i).toArray.setIfInBounds i (.int .u64 (hN l i))=(nsL l (i+1)).toArray:=by
 rw [← Array.toList_inj];simp only [Array.toList_setIfInBounds];apply List.ext_getElem?
 grind [nsL]
theorem qux {l:LB} (h:(qb1 l).2=0):28≤l.length∧hN l 0=1095914324∧hN l 6=(crcL (l.take 24)).toNat∧hN l 1=1∧hN l 4+hN l 5+36≤67108864∧l.length=hN l 4+hN l 5+36:=by
 unfold qb1 at h
 iterate 7
  split at h
  ·cases h
 exact ⟨by omega,by omega,by omega,by omega,by omega,by omega⟩
theorem qx7 (l:LB) (A:oA) (c:Nat) (w:World) (hS:SlAt encB 1 w A l) (hc:l.length≤c) (hl:l.length≤140737488355328) (hT:CellsAt w 3 0 qg7) (h0:(qb1 l).2=0) :
  Gv Tryz.prog 93 [.slice A l.length c] w fun v w'=>(∃ A B,v=.tuple #[.agg (okF l A B).toArray,.nilIface]∧SlAt encB 1 w' A ((l.drop 28).take (hN l 4))∧SlAt encB 1 w' B ((l.drop (32+hN l 4)).take (hN l 5)))∧Ext w w':=by
 obtain ⟨h28,hmg,hcr,hvr,hbg,hln⟩:=qux h0;refine ze Tryz.func93 Tryz.ntmps93 ?_;refine znm (Mem.nil w) ?_;intro r w1 hm;have hm:Mem w w1 [(r,.cells zF.toArray 182)]:=hm;refine zu ?_;have hlt:∀ k,hN l k<4294967296:=fun k=>qabp l k
 refine znm hm fun nb w2 hm=>zw ?_;have hv:BS w2 (.slice A l.length c) l:=⟨A,c,rfl,hc,hS.ext hm.ext⟩
 refine zcv (qdr _ l w2 hv) ?_;rintro v w3 ⟨cb,rfl,hcb,hco,he3⟩;have hm:=hm.fresh he3 hcb hco;(conv=>whnf);refine qm (fun i:Nat=>[(0,.slice A l.length c),(2,pp r),(3,.nilIface),(4,pp nb),(5,pp cb),(17,ii i)])
  (fun i w4=>i≤7∧Mem w w4 [(cb,curO 367 (.slice A l.length c) (4*i) 0),(nb,.cells (nsL l i).toArray 278),(r,.cells zF.toArray 182)]) (fun i=>7-i) 0 ⟨rfl,rfl,rfl,rfl,rfl,rfl,trivial⟩ ⟨by omega,hm⟩ ?_
 clear hm;rintro i w4 ρ' ⟨i1,hm⟩;(conv=>whnf);refine zC (fun _=>zw ?_) (fun _=>zw ?_)
 ·have hv:BS w4 (.slice A l.length c) l:=⟨A,c,rfl,hc,hS.ext hm.ext⟩
  refine zcv (qgx cb _ (4*i) l w4 (hm.get mh) hv Oo hl) ?_;rintro v w5 ⟨rfl,hu⟩;have hm:Mem w w5 [(cb,curO 367 (.slice A l.length c) (4*(i+1)) 0),(nb,.cells (nsL l i).toArray 278),(r,.cells zF.toArray 182)]:=hm.upd (i:=0) rfl hu;(conv=>whnf);refine IdxV.nat Oo (zw ?_);refine StoreV.mem hm (i:=1) rfl (by rw [show tsz Tryz.prog 164=1 from by kernel_rfl];simp [nsL];omega) rfl fun w6 hm=>zu ?_;refine ⟨i+1,⟨rfl,rfl,rfl,rfl,rfl,rfl,trivial⟩,⟨by omega,?_⟩,by omega⟩;have e:=q8n l i Oo;rw [← e];have e2:0+i*tsz Tryz.prog 164=i:=by rw [show tsz Tryz.prog 164=1 from by kernel_rfl];omega
  rw [e2] at hm;exact hm
 have hi7:i=7:=by omega
 subst hi7;have hm:Mem w w4 [(cb,curO 367 (.slice A l.length c) 28 0),(nb,.cells #[.int .u64 (hN l 0),.int .u64 (hN l 1),.int .u64 (hN l 2),.int .u64 (hN l 3),.int .u64 (hN l 4),.int .u64 (hN l 5),.int .u64 (hN l 6)] 278),(r,.cells zF.toArray 182)]:=hm;have g0:=hlt 0;have g1:=hlt 1;have g2:=hlt 2;have g3:=hlt 3;have g4:=hlt 4;have g5:=hlt 5;have g6:=hlt 6;refine IdxV.at_ 4 rfl Od (zw ?_);refine zr hm 1 ?_;refine IdxV.at_ 5 rfl Od (zw ?_);refine zr hm 1 ?_;refine zv ?_;have hsz:(hN l 4:Int)+(hN l 5:Int)+28+8=((hN l 4+hN l 5+36:Nat):Int):=by omega
 rw [hsz];refine IdxV.at_ 0 rfl Od (zw ?_);refine zr hm 1 ?_;refine zv ?_;have hm:=hm.drew;refine zy ?_;refine IdxV.at_ 6 rfl Od (zw ?_);refine zt ?_;refine LoadV.mem (i:=1) Oa rfl rfl (zw ?_);refine zt ?_;refine SliceV.bs (hS.ext hm.ext) rfl 0 24 c rfl rfl rfl Oo Oo Oo znr (fun _=>rfl) ?_;intro A1 hA1;rw [List.drop_zero] at hA1;refine zu ?_;refine ⟨.int .u32 (crcL (l.take 24)).toNat,q09 (l.take 24) A1 _ _ _ hA1 Ys Ys (hT.ext hm.ext),?_⟩;refine zu ?_;refine IdxV.at_ 1 rfl Od (zw ?_);refine zr hm 1 ?_;refine zv ?_;refine IdxV.at_ 2 rfl Od (zw ?_);refine zr hm 1 ?_;refine zv ?_;refine IdxV.at_ 3 rfl Od (zw ?_);refine zr hm 1 ?_;refine zv ?_;refine IdxV.at_ 4 rfl Od (zw ?_);refine zr hm 1 ?_;refine zv ?_;refine IdxV.at_ 5 rfl Od (zw ?_);refine zr hm 1 ?_;refine zv ?_;refine StoreA.mem hm (i:=2) rfl (show 0+4≤10 by decide) (by intro v hv;simp at hv;rcases hv with rfl|rfl|rfl|rfl<;>rfl) ?_;intro w5 hm;have hm:Mem w w5 [_,_,(r,.cells #[ii (hN l 2),ii (hN l 3),ii (hN l 4),ii (hN l 5),.slice none 0 0,.slice none 0 0,ii 0,ii 0,.int .u32 0,.int .u32 0] 182)]:=hm;(conv=>whnf);refine StoreV.mem hm (i:=2) rfl (show 6<10 by decide) rfl ?_;intro w6 hm;have hm:Mem w w6 [_,_,(r,.cells #[ii (hN l 2),ii (hN l 3),ii (hN l 4),ii (hN l 5),.slice none 0 0,.slice none 0 0,ii 28,ii 0,.int .u32 0,.int .u32 0] 182)]:=hm;(conv=>whnf);refine IdxV.at_ 4 rfl Od (zw ?_);refine zr hm 1 ?_;refine zv ?_;refine StoreV.mem hm (i:=2) rfl (show 7<10 by decide) rfl ?_;intro w7 hm;have hm:Mem w w7 [_,_,(r,.cells #[ii (hN l 2),ii (hN l 3),ii (hN l 4),ii (hN l 5),.slice none 0 0,.slice none 0 0,ii 28,ii (28+(hN l 4:Int)+4),.int .u32 0,.int .u32 0] 182)]:=hm;have e32:28+(hN l 4:Int)+4=((32+hN l 4:Nat):Int):=by omega
 rw [e32] at hm;(conv=>whnf);refine zr hm 2 ?_;refine zr hm 2 ?_;refine zt ?_;refine LoadV.mem (i:=2) Oa rfl rfl (zw ?_);refine zt ?_;refine SliceV.bs hS rfl 28 (28+hN l 4) (28+hN l 4) rfl (by show ((32+hN l 4:Nat):Int)-4=((28+hN l 4:Nat):Int);omega) (by show ((32+hN l 4:Nat):Int)-4=((28+hN l 4:Nat):Int);omega) Oo Oo znr Oo (fun _=>rfl) ?_;intro A1 hA1;have e28:28+hN l 4-28=hN l 4:=by omega
 rw [e28] at hA1 ⊢;(conv=>whnf);refine StoreV.mem hm (i:=2) rfl (show 4<10 by decide) rfl ?_;intro w8 hm;have hm:Mem w w8 [_,_,(r,.cells #[ii (hN l 2),ii (hN l 3),ii (hN l 4),ii (hN l 5),.slice A1 (hN l 4) (hN l 4),.slice none 0 0,ii 28,ii ((32+hN l 4:Nat):Int),.int .u32 0,.int .u32 0] 182)]:=hm;(conv=>whnf);refine zr hm 2 ?_;refine zv ?_;refine SliceV.bs hS rfl (32+hN l 4) (32+hN l 4+hN l 5) (32+hN l 4+hN l 5) rfl (by show ((hN l 4:Int)+(hN l 5:Int))+28+8-4=((32+hN l 4+hN l 5:Nat):Int);omega) (by show ((hN l 4:Int)+(hN l 5:Int))+28+8-4=((32+hN l 4+hN l 5:Nat):Int);omega) Oo Oo znr Oo (fun _=>rfl) ?_;intro A2 hA2;have e29:32+hN l 4+hN l 5-(32+hN l 4)=hN l 5:=by omega
 rw [e29] at hA2 ⊢;(conv=>whnf);refine StoreV.mem hm (i:=2) rfl (show 5<10 by decide) rfl ?_;intro w9 hm;have hm:Mem w w9 [_,_,(r,.cells #[ii (hN l 2),ii (hN l 3),ii (hN l 4),ii (hN l 5),.slice A1 (hN l 4) (hN l 4),.slice A2 (hN l 5) (hN l 5),ii 28,ii ((32+hN l 4:Nat):Int),.int .u32 0,.int .u32 0] 182)]:=hm;(conv=>whnf);obtain ⟨g,off,hA,_⟩:=hS.at_ (by grind);subst hA;obtain ⟨n1,hn1⟩:∃ n,n=leN ((l.drop (28+hN l 4)).take 4):=⟨_,rfl⟩
 obtain ⟨n2,hn2⟩:∃ n,n=leN ((l.drop (32+hN l 4+hN l 5)).take 4):=⟨_,rfl⟩
 have b1:n1<4294967296:=by
  have:=qbh (l.drop (28+hN l 4)) 4 (by grind);omega
 have b2:n2<4294967296:=by
  have:=qbh (l.drop (32+hN l 4+hN l 5)) 4 (by grind);omega
 have hBA:∀ wx,Ext w wx→BS wx (.slice (some ⟨g,off+(28+hN l 4),none⟩) (l.length-(28+hN l 4)) (c-(28+hN l 4))) (l.drop (28+hN l 4)):=fun wx he=>BS.rest (hS.ext he) hc Oo
 have hBB:∀ wx,Ext w wx→BS wx (.slice (some ⟨g,off+(32+hN l 4+hN l 5),none⟩) (l.length-(32+hN l 4+hN l 5)) (c-(32+hN l 4+hN l 5))) (l.drop (32+hN l 4+hN l 5)):=fun wx he=>BS.rest (hS.ext he) hc Oo
 obtain ⟨F,hF⟩:∃ F:World→Prop,F=fun w'=>Mem w w' [(cb,curO 367 (.slice (some ⟨g,off,none⟩) l.length c) 28 0),(nb,.cells (nsL l 7).toArray 278),(r,.cells #[ii (hN l 2),ii (hN l 3),ii (hN l 4),ii (hN l 5),.slice A1 (hN l 4) (hN l 4),.slice A2 (hN l 5) (hN l 5),ii 28,ii ((32+hN l 4:Nat):Int),.int .u32 n1,.int .u32 n2] 182)]:=⟨_,rfl⟩
 refine DrawV.gen (fun S vals w'=>Two w9.drew (curO 367 (.slice (some ⟨g,off+(28+hN l 4),none⟩) (l.length-(28+hN l 4)) (c-(28+hN l 4))) 0 0) (curO 367 (.slice (some ⟨g,off+(32+hN l 4+hN l 5),none⟩) (l.length-(32+hN l 4+hN l 5)) (c-(32+hN l 4+hN l 5))) 0 0) F (S 2) (S 5) (S 6) (S 12) (S 13) (S 17) (vals 5) (vals 12) w') rfl Jk (fun vals=>Two.start) (zw ?_);refine zg ?_;refine zg ?_
 ·refine StepG.of (ii ((32+hN l 4:Nat):Int)) (fun S vals wd hk hp hI=>?_) (zw ?_)
  ·dsimp only at hI;rw [hk] at hI;(conv=>whnf);refine LoadV.mem (hm.drew.call hI.ext0) (i:=2) rfl rfl (zw ?_);exact ⟨rfl,hI.load⟩
  refine zg ?_
  ·refine StepG.of (.slice (some ⟨g,off+(28+hN l 4),none⟩) (l.length-(28+hN l 4)) (c-(28+hN l 4))) (fun S vals wd hk hp hI=>zw ?_) (zw ?_)
   ·refine SliceV.rest (28+hN l 4) (by show ((32+hN l 4:Nat):Int)-4=((28+hN l 4:Nat):Int);omega) hc Oo (zw ?_);exact ⟨rfl,hI⟩
   ·refine StepG.any (fun S vals wd hk hp hI=>?_) (zw ?_)
    ·dsimp only at hI;rw [hk] at hI;(conv=>whnf);refine zcv (qdr _ _ wd (hBA wd (hm.drew.ext.trans hI.ext1))) ?_;rintro v wx ⟨b,rfl,hb,hb2,he⟩;(conv=>whnf);exact ⟨trivial,Two.read1 hI he ⟨b,rfl,hb,hb2⟩⟩
    refine StepG.of (.int .u64 n1) (fun S vals wd hk hp hI=>?_) (zw ?_)
    ·dsimp only at hI;have h5:S 5=true:=hp 5 Od;rw [hk] at hI;obtain ⟨he0,b,hv5,hb,hb2⟩:=hI.cur1 h5;rw [qbk hv5];(conv=>whnf);refine zcv (qgx b _ 0 (l.drop (28+hN l 4)) wd hb2 (hBA wd (hm.drew.ext.trans he0)) (by grind) (by grind)) ?_;rintro v wx ⟨rfl,hu⟩;(conv=>whnf);exact ⟨by rw [hn1,List.drop_zero];rfl,hI.fix1 h5 (hu.ext he0 hb)⟩
    (iterate 4 (refine zg ?_))
    ·refine StepG.of (.slice (some ⟨g,off+(32+hN l 4+hN l 5),none⟩) (l.length-(32+hN l 4+hN l 5)) (c-(32+hN l 4+hN l 5))) (fun S vals wd hk hp hI=>zw ?_) (zw ?_)
     ·refine SliceV.rest (32+hN l 4+hN l 5) (by show ((hN l 4+hN l 5+36:Nat):Int)-4=((32+hN l 4+hN l 5:Nat):Int);omega) hc Oo (zw ?_);exact ⟨rfl,hI⟩
     refine StepG.any (fun S vals wd hk hp hI=>?_) (zw ?_)
     ·dsimp only at hI;have h6:S 6=true:=hp 6 Od;rw [hk] at hI;(conv=>whnf);refine zcv (qdr _ _ wd (hBB wd (hm.drew.ext.trans hI.ext2))) ?_;rintro v wx ⟨b,rfl,hb,hb2,he⟩;(conv=>whnf);exact ⟨trivial,Two.read2 hI h6 he ⟨b,rfl,hb,hb2⟩⟩
     refine StepG.of (.int .u64 n2) (fun S vals wd hk hp hI=>?_) (zw ?_)
     ·dsimp only at hI;have h12:S 12=true:=hp 12 Od;rw [hk] at hI;obtain ⟨he0,b,hv5,hb,hb2⟩:=hI.cur2 h12;rw [qbk hv5];(conv=>whnf);refine zcv (qgx b _ 0 (l.drop (32+hN l 4+hN l 5)) wd hb2 (hBB wd (hm.drew.ext.trans he0)) (by rw [zld];omega) (by rw [zld];omega)) ?_;rintro v wx ⟨rfl,hu⟩;(conv=>whnf);exact ⟨by rw [hn2,List.drop_zero];rfl,hI.fix2 h12 (hu.ext he0 hb)⟩
     (iterate 3 (refine zg ?_));refine StepG.of undef (fun S vals wd hk hp hI=>?_) (zw ?_)
     ·dsimp only at hI;have h2:S 2=true:=hp 2 Od;have h5:S 5=true:=hp 5 Od;have h6:S 6=true:=hp 6 Od;have h12:S 12=true:=hp 12 Od;have h13:S 13=true:=hp 13 Od;rw [hk] at hI;have he0:=(hI.a rfl).1;(conv=>whnf);refine StoreA.mem (hm.drew.call he0) (i:=2) rfl (show 8+2≤10 by decide) (by intro v hv;simp at hv;rcases hv with rfl|rfl<;>rfl) fun wx hmx=>zw ?_;refine ⟨rfl,?_⟩;refine ⟨fun h=>(by cases h),hI.d,hI.e,fun _=>⟨by rw [hF];exact hmx,h2,h5,h6,h12,h13⟩⟩
     intro vals w10 hI;have hm10:=(hI.f rfl).1;rw [hF] at hm10;(conv=>whnf);refine zl hm10 2 ?_;refine StoreA.same (hm10.get (zmc (zmc mh))) rfl (by intro v hv;simp at hv;rcases hv with rfl|rfl|rfl|rfl|rfl|rfl|rfl|rfl|rfl|rfl<;>rfl) fun w11 he11=>zw ?_;refine qj (R:=fun v w'=>(∃ A B,v=.tuple #[.agg (okF l A B).toArray,.nilIface]∧SlAt encB 1 w' A ((l.drop 28).take (hN l 4))∧SlAt encB 1 w' B ((l.drop (32+hN l 4)).take (hN l 5)))∧Ext w w') (zw ?_);have hm11:=hm10.call he11;refine zl hm11 2 ?_;refine ⟨⟨A1,A2,?_,?_,?_⟩,hm11.ext⟩
     ·rw [okF,← hn1,← hn2];rfl
     ·exact hA1.ext hm11.ext
     ·exact hA2.ext hm11.ext
theorem qum:Tryz.prog.underlying 32=some (.slice 5):=Tryz.underlying32
theorem bytI:Tryz.prog.info? 5=some ((Tryz.prog.info? 5).get Jk):=(Option.some_get _).symm
theorem bytZ:((Tryz.prog.info? 5).get Jk).zero=some (.int .u8 0):=by kernel_rfl
def fixL (n:Nat):Nat→LB
 | 0=>[]
 | k+1=>fixL n k++[UInt8.ofNat (n/2 ^ (8*k)%256)]
theorem qh (n k:Nat):(fixL n k).length=k:=by
 induction k with
 | zero=>rfl
 | succ k ih=>simp [fixL,ih]
theorem qg0 (n k:Nat):leN (fixL n k)=n%256 ^ k:=by
 induction k with
 | zero=>simp [fixL,leN,Nat.mod_one]
 | succ k ih=>
  rw [fixL,qy1,ih,qh];have e:(2:Nat) ^ (8*k)=256 ^ k:=by rw [Nat.pow_mul]
  have e2:(UInt8.ofNat (n/2 ^ (8*k)%256)).toNat=n/256 ^ k%256:=by
   rw [e];simp
  simp only [leN,e2,Nat.mul_zero,Nat.add_zero];rw [Nat.pow_succ,Nat.mod_mul]
namespace V
theorem SlAt.rest {w:World} {g off a:Nat} {l:LB} (hA:SlAt encB 1 w (some ⟨g,off,none⟩) l) (ha:a<l.length):SlAt encB 1 w (some ⟨g,off+a,none⟩) (l.drop a):=by
 have:=hA.cut (A':=some ⟨g,off+a,none⟩) (lo:=a) (hi:=l.length) (m:=l.length) Oo znr znr (by rw [if_neg Oo,Nat.mul_one,Option.map_some,q7])
 rwa [List.take_of_length_le Js] at this
theorem Rw.byts {w0 w:World} {A:oA} {n c:Nat} {e:TypeId} {zs:LB} {L:List (Nat × Obj)} (h:Rw w0 w (.slice A n c) e 1 n (zs.map fun c=>Value.int .u8 c.toNat) L) (hn:zs.length=n):BS w (.slice A n c) zs:=by
 subst hn;refine ⟨A,c,rfl,?_,⟨fun hne=>?_⟩⟩
 ·rcases h.own.2 with ⟨e1,e2⟩|⟨g,cap,cur,e1,_,_,hnc,_⟩
  ·omega
  ·cases e1;exact hnc
 ·obtain ⟨g,rfl,_,_,_,hc⟩:=h.cells (List.length_pos_iff.2 hne);refine ⟨g,0,rfl,fun j x hx k v hv=>?_⟩;cases k with
  | succ k=>simp [encB] at hv
  | zero=>
   simp only [encB,List.getElem?_cons_zero,Option.some.injEq] at hv;subst hv;have:=hc j (.int .u8 x.toNat) (by rw [List.getElem?_map,hx];rfl)
   simpa using this
theorem Wit.shrN {k:IntKind} {a:Nat} {b:Int} {K:Int→Prop} (n:Nat) (e:b=(n:Int)) (hn:n<k.bits) (hk:K ((a/2 ^ n:Nat):Int)) :
  Wit (fun r=>0≤b∧b<k.bits∧(a:Int)/2 ^ b.toNat=r) K:=by
 subst e;refine ⟨_,⟨by omega,by omega,?_⟩,hk⟩;rw [Int.toNat_natCast];simp
theorem BytesS.sl {w:World} {A:oA} {n:Nat} {l:LB} {K:Value→Prop} (h:SlAt encB 1 w A l) (hn:l.length=n) (hk:K (.string ⟨l.toArray⟩)):BytesS w A n K:=
 ⟨l,hn,fun hne=>by
  obtain ⟨b,off,h1,h2⟩:=h.at_ hne;refine ⟨b,off,h1,fun k v hv=>?_⟩;rw [byteCells,List.getElem?_map] at hv;obtain ⟨x,hx,rfl⟩:=Option.map_eq_some_iff.1 hv;have:=h2 k x hx 0 (.int .u8 x.toNat) rfl
  simpa using this,hk⟩
theorem Wit.low8 {a:Nat} {K:Int→Prop} (hk:K ((a%256:Nat):Int)):Wit (fun r=>IntKind.u8.wrap (a:Int)=r) K:=by
 refine ⟨_,?_,hk⟩;simp [IntKind.wrap,IntKind.bits,IntKind.signed]
end V
section
variable {wd w w':World} {o:Obj} {F:Value→World→Prop} {s2 s5 s8 s11 s12 s13:Bool} {v12:Value}
end
def upN (n b:Nat):Nat:=(n+b-1)/b
def qi (n:Nat):Nat:=8+upN n 8
def qz (n:Nat):Nat:=qi n+4*upN n 2048
def qam (n:Nat):Nat:=qz n+2*upN n 256
def qba (n m:Nat):Nat:=qam n+4*upN m 512
def cutV (n m:Nat):List Value:=[ii 8,ii (qi n),ii (qz n),ii (qam n),ii (qba n m)]
theorem qbi (n b:Nat) (hb:0<b):upN n b≤n:=by
 unfold upN
 rcases Nat.eq_zero_or_pos n with rfl|hn
 ·rw [Nat.zero_add,Nat.div_eq_of_lt Oo];omega
 ·have:(n+b-1)/b<n+1:=by
   rw [Nat.div_lt_iff_lt_mul hb];have h:n+b≤n*b+1*b:=by simp_all [Nat.le_mul_of_pos_right]
   grind
  omega
theorem qac7 (n b:Nat) (hb:0<b):((n:Int)+(b:Int)-1)/(b:Int)=((upN n b:Nat):Int):=by
 grind [upN]
theorem qpf (n b:Nat) (w:World) (hn:n≤8796093022208) (hb:0<b) (hb2:b≤1048576):Gv Tryz.prog 264 [ii n,ii b] w fun r w'=>r=ii (upN n b)∧w'=w:=by
 refine ze Tryz.func264 Tryz.ntmps264 ?_;refine zv ?_;have hq:=qac7 n b hb;have hle:=qbi n b hb;rw [hq];refine Obl.mk ⟨by omega,by omega,⟨by omega,by omega⟩⟩ (zw ?_);simp
theorem qpt (n m:Nat) (w:World) (hn:n≤67108864) (hm:m≤67108864):Gv Tryz.prog 237 [ii n,ii m] w fun r w'=>r=.agg (cutV n m).toArray∧Ext w w':=by
 have u1:=qbi n 8 Od;have u2:=qbi n 2048 Od;have u3:=qbi n 256 Od;have u4:=qbi m 512 Od;have g1:qi n=8+upN n 8:=rfl;have g2:qz n=qi n+4*upN n 2048:=rfl;have g3:qam n=qz n+2*upN n 256:=rfl;refine ze Tryz.func237 Tryz.ntmps237 ?_;refine znm (Mem.nil w) ?_;intro r w1 hm;have hm:Mem w w1 [(r,.cells #[ii 0,ii 0,ii 0,ii 0,ii 0] 376)]:=hm;(conv=>whnf);refine znm hm fun p w2 hm=>zw ?_;refine StoreA.all hm (i:=0) rfl rfl Od ?_;intro w3 hm;have hm:Mem w w3 [(p,.cells #[ii 8,ii 0,ii 0,ii 0,ii 0] 376),(r,.cells #[ii 0,ii 0,ii 0,ii 0,ii 0] 376)]:=hm;(conv=>whnf);refine DrawV.own rfl Jk (zw ?_);refine zo ?_;refine zO ?_ (by intro wd hd;(conv=>whnf);refine LoadV.mem (Mem.call (Mem.drew hm) hd) (i:=0) rfl rfl ?_;(conv=>whnf);exact PostO.still xr rfl);(conv=>whnf);refine zo ?_;apply StepO.still
 ·intro wd hd;(conv=>whnf);refine zcv (qpf n 8 wd Oo Od Od) ?_;rintro v w9 ⟨rfl,rfl⟩;exact PostO.still xr rfl
 (conv=>whnf);refine zo ?_;refine zo ?_;intro w4 hd
 (repeat (intro _;(conv=>whnf)))
 (conv=>whnf);refine StoreV.mem (hm.drew.call hd) (i:=0) rfl (show 1<5 by decide) rfl ?_;intro w5 hm;have hm:Mem w w5 [(p,.cells #[ii 8,ii (qi n),ii 0,ii 0,ii 0] 376),(r,.cells #[ii 0,ii 0,ii 0,ii 0,ii 0] 376)]:=hm;(conv=>whnf);refine DrawV.own rfl Jk (zw ?_);refine zo ?_;refine zO ?_ (by intro wd hd;(conv=>whnf);refine LoadV.mem (Mem.call (Mem.drew hm) hd) (i:=0) rfl rfl ?_;(conv=>whnf);exact PostO.still xr rfl);(conv=>whnf);refine zo ?_;apply StepO.still
 ·intro wd hd;(conv=>whnf);refine zcv (qpf n 2048 wd Oo Od Od) ?_;rintro v w9 ⟨rfl,rfl⟩;exact PostO.still xr rfl
 (conv=>whnf);(iterate 3 (refine zo ?_));intro w10 hd
 (repeat (intro _;(conv=>whnf)))
 (conv=>whnf);refine StoreV.mem (hm.drew.call hd) (i:=0) rfl (show 2<5 by decide) rfl ?_;intro w11 hm;have hm:Mem w w11 [(p,.cells #[ii 8,ii (qi n),ii (qz n),ii 0,ii 0] 376),(r,.cells #[ii 0,ii 0,ii 0,ii 0,ii 0] 376)]:=hm;(conv=>whnf);refine DrawV.own rfl Jk (zw ?_);refine zo ?_;refine zO ?_ (by intro wd hd;(conv=>whnf);refine LoadV.mem (Mem.call (Mem.drew hm) hd) (i:=0) rfl rfl ?_;(conv=>whnf);exact PostO.still xr rfl);(conv=>whnf);refine zo ?_;apply StepO.still
 ·intro wd hd;(conv=>whnf);refine zcv (qpf n 256 wd Oo Od Od) ?_;rintro v w9 ⟨rfl,rfl⟩;exact PostO.still xr rfl
 (conv=>whnf);(iterate 3 (refine zo ?_));intro w12 hd
 (repeat (intro _;(conv=>whnf)))
 (conv=>whnf);refine StoreV.mem (hm.drew.call hd) (i:=0) rfl (show 3<5 by decide) rfl ?_;intro w13 hm;have hm:Mem w w13 [(p,.cells #[ii 8,ii (qi n),ii (qz n),ii (qam n),ii 0] 376),(r,.cells #[ii 0,ii 0,ii 0,ii 0,ii 0] 376)]:=hm;(conv=>whnf);refine DrawV.own rfl Jk (zw ?_);refine zo ?_;refine zO ?_ (by intro wd hd;(conv=>whnf);refine LoadV.mem (Mem.call (Mem.drew hm) hd) (i:=0) rfl rfl ?_;(conv=>whnf);exact PostO.still xr rfl);(conv=>whnf);refine zo ?_;apply StepO.still
 ·intro wd hd;(conv=>whnf);refine zcv (qpf m 512 wd Oo Od Od) ?_;rintro v w9 ⟨rfl,rfl⟩;exact PostO.still xr rfl
 (conv=>whnf);(iterate 3 (refine zo ?_));intro w14 hd
 (repeat (intro _;(conv=>whnf)))
 (conv=>whnf);refine StoreV.mem (hm.drew.call hd) (i:=0) rfl (show 4<5 by decide) rfl ?_;intro w15 hm;have hm:Mem w w15 [(p,.cells #[ii 8,ii (qi n),ii (qz n),ii (qam n),ii (qba n m)] 376),(r,.cells #[ii 0,ii 0,ii 0,ii 0,ii 0] 376)]:=hm;(conv=>whnf);refine zl hm 0 ?_;refine StoreA.all hm (i:=1) rfl rfl (by intro v hv;simp at hv;rcases hv with rfl|rfl|rfl|rfl|rfl<;>rfl) fun w20 hm=>zw ?_;refine qj (R:=fun r w'=>r=.agg (cutV n m).toArray∧Ext w w') (zw ?_);refine zl hm 1 ?_;exact ⟨rfl,hm.ext⟩
theorem qrp (n m:Nat) (hn:n≤67108864) (hm:m≤n):qba n m≤1000000000:=by
 grind [qbi,qba,qam,qz,qi]
theorem q0o (n m:Nat) (w:World) (hn:n≤67108864) (hm:m≤n):Gv Tryz.prog 168 [ii n,ii m] w fun r w'=>r=ii (qba n m)∧Ext w w':=by
 refine ze Tryz.func168 Tryz.ntmps168 ?_;refine zv ?_;refine zcv (qpt n m w hn Oo) ?_;rintro v w9 ⟨rfl,he⟩;conv=>whnf
 simp_all
def vN (l:LB):Nat:=leN (l.take 4)
def vM (l:LB):Nat:=leN ((l.drop 4).take 4)
def vOk (l:LB):Bool:=decide (8≤l.length)&&decide (vN l≤67108864)&&decide (vM l≤vN l)&&decide (l.length=qba (vN l) (vM l))
def vecC (s:Value) (n m:Nat):Array Value:=#[s,ii n,ii m,ii 8,ii (qi n),ii (qz n),ii (qam n),ii (qba n m)]
def vecO (t:TypeId) (s:Value) (n m:Nat):Obj:=.cells (vecC s n m) t
structure Sto (wd:World) (F:World→Prop) (s4 s8 s9 s12:Bool) (w:World):Prop where
 a:s12=false→Ext wd w
 f:s12=true→F w∧s4=true∧s8=true∧s9=true
section
variable {wd w w':World} {F:World→Prop} {s4 s8 s9 s12:Bool}
theorem Sto.start:Sto wd F false false false false wd:=⟨fun _=>xr,Js⟩
theorem Sto.of {u4 u8 u9:Bool} (h:Sto wd F s4 s8 s9 s12 w) (h12:s12=false) (he:Ext w w'):Sto wd F u4 u8 u9 s12 w':=⟨fun h'=>(h.a h').trans he,(by grind)⟩
theorem Sto.z4 (h:Sto wd F false s8 s9 s12 w):s12=false:=by
 cases h':s12
 ·rfl
 ·have:=(h.f h').2.1;cases this
theorem Sto.z8 (h:Sto wd F s4 false s9 s12 w):s12=false:=by
 cases h':s12
 ·rfl
 ·have:=(h.f h').2.2.1;cases this
theorem Sto.z9 (h:Sto wd F s4 s8 false s12 w):s12=false:=by
 cases h':s12
 ·rfl
 ·have:=(h.f h').2.2.2;cases this
end
theorem q4o (l:LB) (A:oA) (c:Nat) (w:World) (hS:SlAt encB 1 w A l) (hc:l.length≤c) (hl:l.length≤140737488355328) (hv:vOk l=true) :
  Gv Tryz.prog 238 [.slice A l.length c] w fun v w'=>(∃ b,v=.tuple #[pp b,.bool true,.nilIface]∧w.heap.size≤b∧w'.heap[b]?=some (vecO 381 (.slice A l.length c) (vN l) (vM l)))∧Ext w w':=by
 simp only [vOk,Bool.and_eq_true,decide_eq_true_eq] at hv;obtain ⟨⟨⟨h8,g1⟩,g2⟩,hz⟩:=hv;refine ze Tryz.func238 Tryz.ntmps238 ?_;refine zv ?_;obtain ⟨g,off,hA,_⟩:=hS.at_ (by grind);subst hA;refine DrawV.free Jk Jk (zw ?_);refine zd ?_;refine zd ?_;apply zsd
 ·intro wd hd;(conv=>whnf);refine zcv (qlz l (some ⟨g,off,none⟩) _ c wd (hS.ext ((Ext.refl w).drew.trans hd)) rfl Oo) ?_;rintro v w9 ⟨rfl,h9⟩;exact ⟨h9,rfl⟩
 (conv=>whnf);refine zd ?_;apply zsd
 ·intro wd hd;(conv=>whnf);refine SliceV.rest 4 rfl hc Oo (zw ?_);exact ⟨xr,rfl⟩
 (conv=>whnf);apply zsd
 ·intro wd hd;(conv=>whnf);refine zcv (qlz (l.drop 4) _ _ _ wd (SlAt.rest (hS.ext ((Ext.refl w).drew.trans hd)) Oo) (by rw [zld]) (by rw [zld];omega)) ?_;rintro v w9 ⟨rfl,h9⟩;exact ⟨h9,rfl⟩
 (conv=>whnf);refine zd ?_;apply StepD.of (fun v wx=>∃ b,v=pp b∧w.drew.heap.size≤b∧wx.heap[b]?=some (.cells #[.slice (some ⟨g,off,none⟩) l.length c,ii (vN l),ii (vM l),ii 0,ii 0,ii 0,ii 0,ii 0] 381))
  (fun _ _ _ h he=>let ⟨b,h1,h2,h3⟩:=h;⟨b,h1,h2,he.get h3⟩)
 ·intro wd hd;(conv=>whnf);refine ⟨fun x wx hb hw=>?_⟩;subst hb hw;(conv=>whnf);exact ⟨xr.alloc _,_,rfl,hd.size,heap_alloc_new _ _⟩
 (conv=>whnf);apply StepD.of (fun v wx=>∃ b,v=pp b∧w.drew.heap.size≤b∧wx.heap[b]?=some (.cells #[.slice (some ⟨g,off,none⟩) l.length c,ii (vN l),ii (vM l),ii 0,ii 0,ii 0,ii 0,ii 0] 381))
  (fun _ _ _ h he=>let ⟨b,h1,h2,h3⟩:=h;⟨b,h1,h2,he.get h3⟩)
 ·intro wd hd;(conv=>whnf);rintro _ _;(conv=>whnf);rintro v ⟨b,rfl,h1,h2⟩;conv=>whnf
  grind [Ext.refl]
 (conv=>whnf);intro w9 he9;(conv=>whnf);rintro v ⟨b,rfl,hb,ho⟩;(conv=>whnf);intro _ _;(conv=>whnf);have hm:=(Mem.nil w).drew.fresh he9 hb ho;refine LoadV.mem (i:=0) Oa rfl rfl (zw ?_);refine zt ?_;refine zy ?_;have hm:=hm.drew;refine zt ?_;refine LoadV.mem (i:=0) Oa rfl rfl (zw ?_);refine zt ?_;refine LoadV.mem (i:=0) Oa rfl rfl (zw ?_);refine zt ?_;obtain ⟨F,hF⟩:∃ F:World→Prop,F=fun w'=>Mem w w' [(b,vecO 381 (.slice (some ⟨g,off,none⟩) l.length c) (vN l) (vM l))]:=⟨_,rfl⟩
 obtain ⟨w3,hw3⟩:∃ w3:World,w3=w9.drew:=⟨_,rfl⟩
 rw [← hw3] at hm ⊢;refine DrawV.inv (fun S w'=>Sto w3.drew F (S 4) (S 8) (S 9) (S 12) w') rfl Jk Sto.start (zw ?_);(iterate 4 (refine zi ?_));refine StepI.of (ii (vN l)) (fun S wd hk hp hI=>?_) (zw ?_)
 ·dsimp only at hI;rw [hk] at hI;(conv=>whnf);refine LoadV.mem (hm.drew.call (hI.a hI.z4)) (i:=0) rfl rfl (zw ?_);exact ⟨rfl,hI.of hI.z4 xr⟩
 (iterate 3 (refine zi ?_));refine StepI.of (ii (vM l)) (fun S wd hk hp hI=>?_) (zw ?_)
 ·dsimp only at hI;rw [hk] at hI;(conv=>whnf);refine LoadV.mem (hm.drew.call (hI.a hI.z8)) (i:=0) rfl rfl (zw ?_);exact ⟨rfl,hI.of hI.z8 xr⟩
 refine StepI.of (.agg (cutV (vN l) (vM l)).toArray) (fun S wd hk hp hI=>?_) (zw ?_)
 ·dsimp only at hI;rw [hk] at hI;(conv=>whnf);refine zcv (qpt (vN l) (vM l) wd Oo Oo) ?_;rintro v w9 ⟨rfl,h9⟩;exact ⟨rfl,hI.of hI.z9 h9⟩
 refine zi ?_;refine zi ?_;refine StepI.of undef (fun S wd hk hp hI=>?_) (zw ?_)
 ·dsimp only at hI;have h4:S 4=true:=hp 4 Od;have h8':S 8=true:=hp 8 Od;have h9:S 9=true:=hp 9 Od;rw [hk] at hI;(conv=>whnf);refine StoreA.mem (hm.drew.call (hI.a rfl)) (i:=0) rfl (show 3+5≤8 by decide) (by intro v hv;simp [cutV] at hv;rcases hv with rfl|rfl|rfl|rfl|rfl<;>rfl) fun wx hmx=>zw ?_;exact ⟨rfl,fun h=>(by cases h),fun _=>⟨by rw [hF];exact hmx,h4,h8',h9⟩⟩
 intro w11 hI;have hm:=(hI.f rfl).1;rw [hF] at hm;(conv=>whnf);refine zr hm 0 ?_;refine zv ?_;refine zy ?_;have hm:=hm.drew;refine zt ?_;refine LoadV.mem (i:=0) Oa rfl rfl (zw ?_);refine zt ?_;exact ⟨⟨b,by simp [hz],(hm.own _ mh).1,hm.get Js⟩,hm.ext⟩
theorem q5p (l:LB) (A:oA) (c:Nat) (w:World) (hS:SlAt encB 1 w A l) (hc:l.length≤c) (hl:l.length≤140737488355328) (hv:vOk l=true) :
  Gv Tryz.prog 169 [.slice A l.length c] w fun v w'=>(∃ b,v=.tuple #[pp b,.nilIface]∧w.heap.size≤b∧w'.heap[b]?=some (vecO 381 (.slice A l.length c) (vN l) (vM l)))∧Ext w w':=by
 have hsh:=q4o l A c w hS hc hl hv;refine ze Tryz.func169 Tryz.ntmps169 ?_;refine zcv (hsh) ?_;rintro v w1 ⟨⟨b,rfl,hb,ho⟩,he⟩;refine zu ?_;exact ⟨⟨b,rfl,hb,ho⟩,he⟩
theorem qdz {n:Nat} (h:n<256):InR .u8 (n:Int):=⟨by omega,by omega⟩
def qd7 (n:Nat):Nat:=n%2+n/2%2+n/4%2+n/8%2+n/16%2+n/32%2+n/64%2+n/128%2
def qa8 (l:LB):Nat→Nat→Nat
 | _,0=>0
 | a,k+1=>qa8 l a k+qd7 (l.getD (a+k) 0).toNat
def qff (l:LB) (i:Nat):Nat:=
 if i=0∨vN l=0 then 0 else if vN l≤i then vM l else
  min (leN ((l.drop (qi (vN l)+4*(i/2048))).take 4)+leN ((l.drop (qz (vN l)+2*(i/256))).take 2)+qa8 l (8+i/256*32) (i%256/8)+qd7 ((l.getD (8+i/8) 0).toNat%2 ^ (i%8))) i
def bitN (d:LB) (i:Nat):Nat:=(d.getD (i/8) 0).toNat/2 ^ (i%8)%2
def cnt (d:LB):Nat→Nat
 | 0=>0
 | n+1=>cnt d n+bitN d n
theorem qgm (d:LB) (i:Nat):bitN d i≤1:=by unfold bitN;omega
theorem qd0 (d:LB) (n:Nat):cnt d n≤n:=by
 induction n<;>grind [qgm,cnt]
theorem qei {d:LB} {a b:Nat} (h:a≤b):cnt d a≤cnt d b:=by
 induction h<;>grind [cnt]
theorem qu8:∀ x,x<256→∀ r,r<8→qd7 (x%2 ^ (r+1))=qd7 (x%2 ^ r)+x/2 ^ r%2:=by decide +kernel
theorem q50 (d:LB) (a r:Nat) (hr:r≤8):cnt d (8*a+r)=cnt d (8*a)+qd7 ((d.getD a 0).toNat%2 ^ r):=by
 induction r with
 | zero=>rw [Nat.pow_zero,Nat.mod_one,Nat.add_zero];rfl
 | succ r ih=>
  grind [cnt,qu8,q9,bitN]
theorem qsd (d:LB) (a k:Nat):cnt d (8*(a+k))=cnt d (8*a)+qa8 d a k:=by
 induction k with
 | zero=>rfl
 | succ k ih=>
  have e:8*(a+(k+1))=8*(a+k)+8:=by omega
  rw [e,q50 d (a+k) 8 Oo,ih,qa8]
  grind [q9]
theorem qx9 {α:Type} (l:List α) (a i:Nat) (x:α):(l.drop a).getD i x=l.getD (a+i) x:=by
 simp
theorem qmh (l:LB) (b a k:Nat):qa8 (l.drop b) a k=qa8 l (b+a) k:=by
 induction k<;>grind [qa8]
theorem qwy (l:LB) (a t:Nat):bitN (l.drop a) t=bitN l (8*a+t):=by
 grind [bitN]
theorem qit (l:LB) (a t:Nat) (h:t<8*a):bitN (l.take a) t=bitN l t:=by
 grind [bitN]
theorem qse (l:LB) (a:Nat):∀ n,n≤8*a→cnt (l.take a) n=cnt l n
 | 0,_=>rfl
 | n+1,h=>by rw [cnt,cnt,qse l a n Oo,qit _ _ _ Oo]
structure VecOk (l:LB):Prop where
 ok:vOk l=true
 great:∀ j,j<upN (vN l) 2048→leN ((l.drop (qi (vN l)+4*j)).take 4)=cnt (l.drop 8) (2048*j)
 small:∀ j,j<upN (vN l) 256→leN ((l.drop (qz (vN l)+2*j)).take 2)=cnt (l.drop 8) (256*j)-cnt (l.drop 8) (2048*(j/8))
 ones:cnt (l.drop 8) (vN l)=vM l
theorem VecOk.rank {l:LB} (h:VecOk l) (i:Nat) (hi:i≤vN l):qff l i=cnt (l.drop 8) i:=by
 rw [qff]
 by_cases h0:i=0∨vN l=0
 ·rw [if_pos h0];obtain rfl:i=0:=by omega
  rfl
 rw [if_neg h0]
 by_cases h1:vN l≤i
 ·rw [if_pos h1];obtain rfl:i=vN l:=by omega
  exact h.ones.symm
 rw [if_neg h1];have k1:i/2048<upN (vN l) 2048:=by unfold upN;omega
 have k2:i/256<upN (vN l) 256:=by unfold upN;omega
 rw [h.great _ k1,h.small _ k2,← qmh,← qx9];have e8:i/256/8=i/2048:=by omega
 rw [e8];have m1:cnt (l.drop 8) (2048*(i/2048))≤cnt (l.drop 8) (256*(i/256)):=qei Oo;have f1:=qsd (l.drop 8) (i/256*32) (i%256/8);have f2:=q50 (l.drop 8) (i/8) (i%8) Oo
 grind [qd0]
theorem qy2:∀ (l:LB) (t:Nat),leN l/2 ^ t%2=bitN l t
 | [],t=>by simp [leN,bitN]
 | x::l,t=>by
  have hx:=q9 x
  rcases Nat.lt_or_ge t 8 with ht|ht
  ·have e1:t/8=0:=by omega
   have e2:t%8=t:=by omega
   rw [bitN,e1,e2,leN];simp only [List.getD_cons_zero];obtain rfl|rfl|rfl|rfl|rfl|rfl|rfl|rfl:t=0∨t=1∨t=2∨t=3∨t=4∨t=5∨t=6∨t=7:=by omega
   all_goals (simp only [Nat.reducePow];omega)
  ·obtain ⟨u,rfl⟩:∃ u,t=8+u:=⟨t-8,by omega⟩
   rw [leN,Nat.pow_add,← Nat.div_div_eq_div_mul];have e:(x.toNat+256*leN l)/2 ^ 8=leN l:=by simp only [Nat.reducePow];omega
   rw [e,qy2 l u,bitN,bitN];have e1:(8+u)/8=u/8+1:=by omega
   have e2:(8+u)%8=u%8:=by omega
   rw [e1,e2,List.getD_cons_succ]
def valB (p:LB) (f:Nat):Nat→Nat
 | 0=>0
 | k+1=>valB p f k+bitN p (f+k)*2 ^ k
theorem qrm (p:LB) (f k:Nat):valB p f k<2 ^ k:=by
 induction k with
 | zero=>simp [valB]
 | succ k ih=>
  have:=qgm p (f+k);have h2:bitN p (f+k)*2 ^ k≤1*2 ^ k:=Nat.mul_le_mul_right _ this
  grind [valB]
theorem qrl (p:LB) (f k:Nat) {m:Nat} (h:k≤m):valB p f k<2 ^ m:=Nat.lt_of_lt_of_le (qrm p f k) (Nat.pow_le_pow_right Od h)
def numP (p:LB) (w i:Nat):Nat:=leN ((p.drop (i*w/8)).take 4)/2 ^ (i*w%8)%2 ^ w
theorem q8q (p:LB) (w i:Nat):numP p w i<2 ^ w:=Nat.mod_lt _ (Nat.two_pow_pos w)
theorem qtd (p:LB) (w i:Nat) (hw:w≤24):numP p w i=valB p (i*w) w:=by
 have key:∀ k,k≤w→leN ((p.drop (i*w/8)).take 4)/2 ^ (i*w%8)%2 ^ k=valB p (i*w) k:=by
  intro k
  induction k with
  | zero=>grind [valB]
  | succ k ih=>
   intro hk;rw [Nat.mod_pow_succ,ih Oo,valB,Nat.div_div_eq_div_mul,← Nat.pow_add,qy2,qit _ _ _ Oo,qwy]
   grind
 exact key w znr
def errF (f:Nat→Nat × Nat):Nat→Nat × Nat
 | 0=>(0,0)
 | k+1=>if (errF f k).2≠0 then errF f k else f k
theorem qbf {f:Nat→Nat × Nat} {n:Nat} (h:∀ k,k<n→(f k).2=0):(errF f n).2=0:=by
 induction n<;>grind [errF]
theorem q7v {f:Nat→Nat × Nat} {n k:Nat} (h:∀ j,j<k→(f j).2=0) (hk:k<n) (he:(f k).2≠0):errF f n=f k:=by
 induction n<;>grind [errF,qbf]
theorem qb8 {f:Nat→Nat × Nat} {n:Nat} (h:(errF f n).2=0):∀ k,k<n→(f k).2=0:=by
 induction n<;>grind [errF]
def vAt (l:LB):Nat→Nat
 | 0=>0
 | k+1=>vAt l k+(numL (l.drop (vAt l k))).2.1
def vNum (l:LB) (k:Nat):Nat:=(numL (l.drop (vAt l k))).1
def numE (l:LB) (k most:Nat):Nat × Nat:=
 if (numL (l.drop (vAt l k))).2.2≠0 then (vAt l k,(numL (l.drop (vAt l k))).2.2) else if most<vNum l k then (vAt l k,2) else (0,0)
theorem qph (l:LB) (k:Nat):vAt l k≤l.length:=by
 induction k<;>grind [qb5,vAt]
theorem qrj (l:LB) (k:Nat):vNum l k<18446744073709551616:=(qb5 (l.drop (vAt l k))).1
theorem qrn {l:LB} {k:Nat} (h:(numL (l.drop (vAt l k))).2.2=0):varS l (vAt l k) 0=(vNum l k,vAt l (k+1),0):=by
 rw [varS,if_neg Js,if_neg Oo];rfl
section
variable {l:LB} {k:Nat}
theorem qm4 (h:(numL (l.drop (vAt l k))).2.2=0):(varS l (vAt l k) 0).1=vNum l k:=by rw [qrn h]
theorem qm5 (h:(numL (l.drop (vAt l k))).2.2=0):(varS l (vAt l k) 0).2.1=vAt l (k+1):=by rw [qrn h]
theorem qm6 (h:(numL (l.drop (vAt l k))).2.2=0):(varS l (vAt l k) 0).2.2=0:=by rw [qrn h]
theorem q1q {a:Nat} (h:(numL (l.drop a)).2.2=0):(varS l a 0).1=(numL (l.drop a)).1∧(varS l a 0).2.1=a+(numL (l.drop a)).2.1∧(varS l a 0).2.2=0:=by
 grind [varS]
theorem q1p {a:Nat} (h:(numL (l.drop a)).2.2≠0):(varS l a 0).1=0∧(varS l a 0).2.1=a∧(varS l a 0).2.2=(numL (l.drop a)).2.2:=by
 grind [varS]
theorem qg9 {most:Nat} (h1:(numL (l.drop (vAt l k))).2.2=0) (h2:vNum l k≤most):numE l k most=(0,0):=by grind [numE]
end
def qaf (n:Nat):Nat:=Go.Lib.bitLen n
def dhF (m:LB) (k:Nat):Nat × Nat:=numE m k (if k=0 then 4194304 else 67108864)
def dN (m:LB):Nat:=vNum m 0
def qun (m:LB):Nat:=vNum m 1
def dW (m:LB):Nat:=qaf (qun m)
def qcb (m:LB):Nat:=vAt m 2
def qx (m:LB):Nat:=qcb m+(upN (dN m) 16*dW m+7)/8
def dEnd (m:LB):Nat:=qx m+qun m
def dE (m:LB):Nat × Nat:=
 if (errF (dhF m) 2).2≠0 then errF (dhF m) 2 else if m.length<dEnd m then (m.length,10) else if dEnd m<m.length then (dEnd m,13) else (0,0)
def qai (m:LB):LB:=(m.drop (qcb m)).take (qx m-qcb m)
def qc (m:LB):LB:=m.drop (qx m)
def entG (m:LB) (first:Bool) (ahead:LB):LB × Nat × Nat:=
 let s:Nat × Nat × Nat:=if first then (0,0,0) else numL m
 if s.2.2≠0 then ([],0,s.2.2) else
  let t:=numL (m.drop s.2.1)
  if t.2.2≠0 then ([],0,t.2.2) else if ahead.length<s.1 then ([],0,161) else if 262144<t.1∨262144<s.1+t.1 then ([],0,2)
  else if m.length-s.2.1-t.2.1<t.1 then ([],0,10) else (ahead.take s.1++(m.drop (s.2.1+t.2.1)).take t.1,s.2.1+t.2.1+t.1,0)
def qew (E:LB) (p:Nat) (first:Bool) (ahead:LB):LB × Nat × Nat:=
 if E.length<p then ([],0,10) else if (entG (E.drop p) first ahead).2.2≠0 then ([],0,(entG (E.drop p) first ahead).2.2) else
  ((entG (E.drop p) first ahead).1,p+(entG (E.drop p) first ahead).2.1,0)
def blk (E:LB) (p:Nat):Nat→LB × Nat × Nat
 | 0=>qew E p true []
 | j+1=>if (blk E p j).2.2≠0 then blk E p j else qew E (blk E p j).2.1 false (blk E p j).1
def qy (m:LB) (k:Nat):Nat:=valB (qai m) (k*dW m) (dW m)
def dGet (m:LB) (i:Nat):Option LB:=
 if i<dN m then (if (blk (qc m) (qy m (i/16)) (i%16)).2.2=0 then some (blk (qc m) (qy m (i/16)) (i%16)).1 else none) else none
theorem qey {m:LB} {first:Bool} {ahead:LB} (h:(entG m first ahead).2.2=0):(entG m first ahead).1.length≤262144∧(entG m first ahead).2.1≤m.length:=by
 grind [entG,qb5]
theorem qsp {E:LB} {p:Nat} {first:Bool} {ahead:LB} (h:(qew E p first ahead).2.2=0):(qew E p first ahead).1.length≤262144∧(qew E p first ahead).2.1≤E.length:=by
 grind [qew,qey]
theorem q5u {E:LB} {p:Nat}:∀ {j:Nat},(blk E p j).2.2=0→(blk E p j).1.length≤262144∧(blk E p j).2.1≤E.length
 | 0,h=>qsp h
 | j+1,h=>by
  grind [blk,qsp]
theorem q2f {E:LB} {p j:Nat} (h:(blk E p j).2.2≠0):∀ {i:Nat},j≤i→blk E p i=blk E p j:=by
 intro i hi
 induction hi<;>grind [blk]
theorem qsi {m:LB} {i:Nat} {s:LB} (h:dGet m i=some s):s.length≤262144:=by
 grind [dGet,q5u]
def vsF (l:LB) (k:Nat):Nat × Nat:=numE l k 67108864
def q8 (l:LB):Nat→Nat
 | 0=>vAt l 3
 | k+1=>q8 l k+vNum l k
def sE (l:LB):Nat × Nat:=
 if (errF (vsF l) 3).2≠0 then errF (vsF l) 3 else if l.length<q8 l 3 then (l.length,10) else if q8 l 3<l.length then (q8 l 3,13) else (0,0)
def sDict (l:LB) (k:Nat):LB:=(l.drop (q8 l k)).take (vNum l k)
def sdF (l:LB) (k:Nat):Nat × Nat:=if (dE (sDict l k)).2=0 then (0,0) else (q8 l k+(dE (sDict l k)).1,(dE (sDict l k)).2)
def wE (l:LB):Nat × Nat:=if (sE l).2≠0 then sE l else errF (sdF l) 3
def vTot (l:LB):Nat→Nat
 | 0=>0
 | k+1=>vTot l k+dN (sDict l k)
def qdy (l:LB) (id:Nat):Nat:=if vTot l 2<id then 2 else if vTot l 1<id then 1 else 0
def tcF (l:LB) (k:Nat):Nat × Nat:=
 if (numE l k 1048576).2≠0 then numE l k 1048576 else if 0<k∧(vNum l k<vNum l (k-1)∨¬ (vNum l (k-1)=0↔vNum l k=0)) then (vAt l k,180) else (0,0)
def tvAt (l:LB):Nat→Nat
 | 0=>vAt l 4
 | k+1=>tvAt l k+1+(vNum l k*(l.getD (tvAt l k) 0).toNat+7)/8+(if k=0 then 0 else qba (vNum l k) (vNum l (k-1)))
def tw (l:LB) (k:Nat):Nat:=(l.getD (tvAt l k) 0).toNat
def tEnd (l:LB) (k:Nat):Nat:=tvAt l k+1+(vNum l k*tw l k+7)/8
def tvF (l:LB) (k:Nat):Nat × Nat:=if l.length≤tvAt l k then (l.length,10) else if 23<tw l k then (tvAt l k,14) else if l.length<tvAt l (k+1) then (l.length,10) else (0,0)
def tE (l:LB):Nat × Nat:=
 if (errF (tcF l) 4).2≠0 then errF (tcF l) 4 else if (errF (tvF l) 4).2≠0 then errF (tvF l) 4 else if tvAt l 4<l.length then (tvAt l 4,13) else (0,0)
def qg (l:LB) (k:Nat):LB:=(l.drop (tvAt l k+1)).take (tEnd l k-(tvAt l k+1))
def qe (l:LB) (k:Nat):LB:=(l.drop (tEnd l k)).take (tvAt l (k+1)-tEnd l k)
def tVec (l:LB) (k:Nat):Bool:=vOk (qe l k)&&decide (vN (qe l k)=vNum l k)&&decide (vM (qe l k)=vNum l (k-1))
def tUp (l:LB) (i:Nat):Nat→Nat
 | 0=>i
 | j+1=>qff (qe l (3-j)) (tUp l i j)
def qhl (l:LB) (i j:Nat):Bool:=decide (tUp l i j<vNum l (3-j))&&(decide (j=3)||tVec l (3-j))
def tNum (l:LB) (i k:Nat):Nat:=numP (qg l k) (tw l k) (tUp l i (3-k))
def tOk (l:LB) (i:Nat):Bool:=qhl l i 0&&qhl l i 1&&qhl l i 2&&qhl l i 3
theorem qgh (l:LB) (k:Nat):tvAt l (k+1)=tEnd l k+(if k=0 then 0 else qba (vNum l k) (vNum l (k-1))):=rfl
def qn (l:LB):LB:=(l.drop 28).take (hN l 4)
def qr (l:LB):LB:=(l.drop (32+hN l 4)).take (hN l 5)
def packE (l:LB):Nat × Nat:=
 if (qb1 l).2≠0 then qb1 l else if (wE (qn l)).2≠0 then (28+(wE (qn l)).1,(wE (qn l)).2)
 else if (tE (qr l)).2≠0 then (32+hN l 4+(tE (qr l)).1,(tE (qr l)).2) else (0,0)
theorem qy5 (x:Nat) (w:World) (hx:x<18446744073709551616):Gv Tryz.prog 259 [.int .u64 x] w fun r w'=>r=ii (qaf x)∧w'=w:=
 quw Jk (Tryz.bits_Len64 x w Oo Oo)
theorem qgl (x:Nat) (w:World) (hx:x<18446744073709551616):Gv Tryz.prog 190 [.int .u64 x] w fun r w'=>r=ii (qaf x)∧w'=w:=by
 refine ze Tryz.func190 Tryz.ntmps190 ?_;refine zcv (qy5 x w hx) ?_;rintro r w1 ⟨rfl,rfl⟩;(conv=>whnf);exact ⟨rfl,rfl⟩
theorem qeu (x:Nat) (h0:x≠0) (h:x<18446744073709551616):qaf x=1+qaf (x/2):=Go.Lib.bitLen_half x h0 (by simpa using h)
theorem qdf:qaf 0=0:=by decide
theorem qev:∀ (k x:Nat),x<2 ^ k→k≤64→qaf x≤k
 | 0,x,h,_=>by
  obtain rfl:x=0:=by simpa using h
  rw [qdf];exact Nat.le_refl _
 | k+1,x,h,hk=>by
  by_cases h0:x=0
  ·subst h0;rw [qdf];exact Nat.zero_le _
  ·have hp:(2:Nat) ^ (k+1)≤2 ^ 64:=Nat.pow_le_pow_right Od hk;rw [qeu x h0 (Nat.lt_of_lt_of_le h hp)];have:=qev k (x/2) (by rw [Nat.pow_succ] at h;omega) Oo;omega
theorem qkh (n:Nat) (w:World) (hn:n≤4194304):Gv Tryz.prog 316 [ii n] w fun r w'=>r=ii (upN n 16)∧w'=w:=by
 refine ze Tryz.func316 Tryz.ntmps316 ?_;refine zv ?_;exact ⟨congrArg (Value.int .i64) (by unfold upN;omega),rfl⟩
structure DictAt (w:World) (b:Nat) (m:LB):Prop where
 h:∃ P cp E ce,w.heap[b]?=some (.cells #[ii (dN m),ii (dW m),.slice P (qai m).length cp,.slice E (qc m).length ce] 395)∧SlAt encB 1 w P (qai m)∧SlAt encB 1 w E (qc m)∧(qc m).length≤ce
 n:dN m≤4194304
 size:qun m≤67108864
 qe2:(qai m).length=(upN (dN m) 16*dW m+7)/8
 entries:(qc m).length=qun m
theorem DictAt.ext {w w':World} {b:Nat} {m:LB} (h:DictAt w b m) (he:Ext w w'):DictAt w' b m:=by
 obtain ⟨⟨P,cp,E,ce,h1,h2,h3,h4⟩,h5,h6,h7,h8⟩:=h;exact ⟨⟨P,cp,E,ce,he.get h1,h2.ext he,h3.ext he,h4⟩,h5,h6,h7,h8⟩
theorem DictAt.width {w:World} {b:Nat} {m:LB} (h:DictAt w b m):dW m≤27:=qev 27 _ (by have:=h.size;simp only [Nat.reducePow];omega) Od
theorem qls (b:Nat) (m:LB) (w:World) (h:DictAt w b m):Gv Tryz.prog 177 [pp b] w fun r w'=>r=ii (dN m)∧w'=w:=by
 obtain ⟨⟨P,cp,E,ce,h1,h2,h3,h4⟩,h5,h6,h7,h8⟩:=h;refine ze Tryz.func177 Tryz.ntmps177 ?_;refine LoadV.own h1 rfl (zw ?_);exact ⟨rfl,rfl⟩
theorem qof (b:Nat) (m:LB) (k:Nat) (w:World) (h:DictAt w b m) (hk:k<upN (dN m) 16):Gv Tryz.prog 323 [pp b,ii k] w fun r w'=>r=ii (qy m k)∧w'=w:=by
 have hW:=h.width;obtain ⟨⟨P,cp,E,ce,h1,h2,h3,h4⟩,h5,h6,h7,h8⟩:=h;have hub:upN (dN m) 16≤4194304:=Nat.le_trans (qbi _ _ Od) h5;obtain ⟨W,eW⟩:∃ W,W=dW m:=⟨_,rfl⟩
 rw [qy];rw [← eW] at h1 h7 hW ⊢;have hm1:k*W+W≤upN (dN m) 16*W:=by rw [← Nat.succ_mul];exact Nat.mul_le_mul_right _ hk
 have hm2:upN (dN m) 16*W≤4194304*27:=Nat.mul_le_mul hub hW;obtain ⟨f,ef⟩:∃ f,f=k*W:=⟨_,rfl⟩
 have efi:(k:Int)*(W:Int)=(f:Int):=by rw [ef,Int.natCast_mul]
 rw [← ef] at hm1 ⊢;refine ze Tryz.func323 Tryz.ntmps323 ?_;refine LoadV.own h1 rfl ?_;refine qm (fun i:Nat=>[(0,pp b),(1,ii k),(5,ii (valB (qai m) f i)),(11,ii W),(12,ii i)]) (fun i w'=>i≤W∧w'=w) (fun i=>W-i) 0 ⟨rfl,rfl,rfl,rfl,rfl,trivial⟩ ⟨Nat.zero_le _,rfl⟩ ?_;rintro i w1 ρ' ⟨i1,rfl⟩;have hv:=qrm (qai m) f i;have hv2:valB (qai m) f i<2 ^ 27:=qrl _ _ _ Oo;simp only [Nat.reducePow] at hv2;(conv=>whnf);refine zC (fun _=>zw ?_) (fun _=>zw ?_)
 ·refine LoadV.own h1 rfl (zw ?_);rw [efi];refine zv ?_;refine LoadV.own h1 rfl (zu ?_);have hj:(f+i)/8<(qai m).length:=by omega
  refine ElemV.bs h2 rfl ((f+i)/8) Oo hj ?_;intro eb eo hc;refine LoadV.of hc (zu ?_);refine V.Wit.shrN ((f+i)%8) Oo (by show (f+i)%8<8;omega) ?_;have hlt:=q9 (qai m)[(f+i)/8];have hlt2:(qai m)[(f+i)/8].toNat/2 ^ ((f+i)%8)<256:=Nat.lt_of_le_of_lt (Nat.div_le_self _ _) hlt;refine Wit.eq (qbb (k:=.u8) (m:=(qai m)[(f+i)/8].toNat/2 ^ ((f+i)%8)) 1 rfl (qdz hlt2) ⟨by omega,by omega⟩) (zu ?_);have hb:(qai m)[(f+i)/8].toNat/2 ^ ((f+i)%8)%2 ^ 1=bitN (qai m) (f+i):=by
   rw [bitN,List.getD_eq_getElem?_getD,zge hj];rfl
  rw [hb];have hvs:=qrm (qai m) f (i+1);have hvs2:valB (qai m) f (i+1)<2 ^ 27:=qrl _ _ _ Oo;simp only [Nat.reducePow] at hvs2;rw [valB] at hvs2;refine V.Wit.shlN i Oo (by show i<64;omega) (qah Oo) ?_;refine Wit.eq (qbq i (qah Oo) hv) (zu ?_);exact ⟨i+1,⟨rfl,rfl,rfl,rfl,rfl,trivial⟩,⟨by omega,rfl⟩,by omega⟩
 ·obtain rfl:i=W:=by omega
  exact ⟨rfl,rfl⟩
namespace V
theorem SliceV.to {size:Nat} {A:oA} {n c:Nat} {lo hi mx:Option Value} {K:Value→Prop} (a b m:Nat) (h1:bnd lo 0 a) (h2:bnd hi n b) (h3:bnd mx c m) (hab:a≤b) (hbm:b≤m) (hm:m≤c)
  (hs:mx.isSome=true→hi.isSome=true) (hk:K (.slice (if m=a then A else A.map (·.add (a*size))) (b-a) (m-a))):SliceV size A n c lo hi mx K:=
 ⟨a,b,m,h1,h2,h3,hab,hbm,hm,hs,(by grind)⟩
end V
def hdL (m:LB) (k:Nat):List Value:=[ii (if 0<k then vNum m 0 else 0:Nat),ii (if 1<k then vNum m 1 else 0:Nat)]
theorem q7q {m:LB} (h:(dE m).2=0):(∀ k,k<2→(numL (m.drop (vAt m k))).2.2=0∧vNum m k≤if k=0 then 4194304 else 67108864)∧dEnd m=m.length:=by
 have hh:=qb8 (f:=dhF m) (n:=2) (by grind [dE]);exact ⟨fun k hk=>by have:=hh k hk;grind [dhF,numE],by grind [dE]⟩
theorem qxs (m:LB) (A:oA) (c:Nat) (w:World) (hS:SlAt encB 1 w A m) (hc:m.length≤c) (hl:m.length≤140737488355328) (hE:(dE m).2=0) :
  Gv Tryz.prog 236 [.slice A m.length c] w fun v w'=>(∃ b,v=.tuple #[pp b,ii (qcb m),ii (qx m),.nilIface]∧w.heap.size≤b∧DictAt w' b m)∧Ext w w':=by
 obtain ⟨hfi,hlen⟩:=q7q hE;have hv0:BS w (.slice A m.length c) m:=⟨A,c,rfl,hc,hS⟩
 refine ze Tryz.func236 Tryz.ntmps236 ?_;refine zcv (qdr _ m w hv0) ?_;rintro v w1 ⟨cb,rfl,hcb,hco,he1⟩;have hm:Mem w w1 [(cb,curO 367 (.slice A m.length c) (vAt m 0) 0)]:=(Mem.nil w).fresh he1 hcb hco;(conv=>whnf);refine znm hm ?_;intro hd w2 hm;have hm:Mem w w2 [(hd,.cells (hdL m 0).toArray 431),(cb,curO 367 (.slice A m.length c) (vAt m 0) 0)]:=hm;(conv=>whnf);refine qm (fun k:Nat=>[(0,.slice A m.length c),(2,.pointer none),(3,ii 0),(4,ii 0),(5,.nilIface),(6,pp cb),(7,pp hd),(16,.agg #[.int .u64 4194304,.int .u64 67108864]),(17,ii k)])
  (fun k w'=>k≤2∧Mem w w' [(hd,.cells (hdL m k).toArray 431),(cb,curO 367 (.slice A m.length c) (vAt m k) 0)]) (fun k=>2-k) 0
  ⟨rfl,rfl,rfl,rfl,rfl,rfl,rfl,rfl,rfl,trivial⟩ (by grind) ?_
 clear hm hco he1 hcb;rintro k w3 ρ' ⟨k1,hm⟩;(conv=>whnf);refine zC (fun _=>zu ?_) (fun _=>zu ?_)
 ·have hv:BS w3 (.slice A m.length c) m:=hv0.ext hm.ext;have hle:=qph m k;have hlt:=qrj m k;have hmost:∃ mo:Nat,mo=(if k=0 then 4194304 else 67108864)∧(#[Value.int .u64 4194304,.int .u64 67108864]:Array Value).toList[k*tsz Tryz.prog 164]?=some (.int .u64 mo):=by
   refine ⟨_,rfl,?_⟩;rw [show tsz Tryz.prog 164=1 from by kernel_rfl]
   grind
  obtain ⟨mo,emo,hmo⟩:=hmost;refine ⟨_,hmo,?_⟩;(conv=>whnf);refine zcv (qis cb _ (vAt m k) 0 w3 (hm.get (zmc mh))) ?_;rintro r w4 ⟨rfl,rfl⟩;(conv=>whnf);refine zcv (qde cb _ (vAt m k) 0 m _ (hm.get (zmc mh)) hv hle hl) ?_;rintro r w5 ⟨rfl,hu⟩;obtain ⟨he,hmx⟩:=hfi k Oo;rw [← emo] at hmx;rw [qm5 he,qm6 he] at hu;rw [qm4 he];have hm:Mem w w5 [(hd,.cells (hdL m k).toArray 431),(cb,curO 367 (.slice A m.length c) (vAt m (k+1)) 0)]:=hm.upd (i:=1) rfl hu;(conv=>whnf);refine zcv (qe9 cb _ _ 0 w5 (hm.get (zmc mh))) ?_;rintro r w6 ⟨rfl,rfl⟩;refine zu ?_;have hmo2:mo≤67108864:=by grind
  refine Wit.conv (qah Oo) (zu ?_);have e2:0+k*tsz Tryz.prog 3=k:=by rw [show tsz Tryz.prog 3=1 from by kernel_rfl];omega
  refine StoreV.mem hm (i:=0) rfl (by grind [hdL]) rfl ?_;intro w8 hm;rw [e2] at hm;have hset:(hdL m k).toArray.setIfInBounds k (ii (vNum m k))=(hdL m (k+1)).toArray:=by
   obtain rfl|rfl:k=0∨k=1:=by omega
   all_goals rfl
  have hm:Mem w w8 [(hd,.cells (hdL m (k+1)).toArray 431),(cb,curO 367 (.slice A m.length c) (vAt m (k+1)) 0)]:=by rw [← hset];exact hm
  refine zu ?_;refine ⟨k+1,⟨rfl,rfl,rfl,rfl,rfl,rfl,rfl,rfl,rfl,trivial⟩,⟨by omega,hm⟩,by omega⟩
 ·obtain rfl:k=2:=by omega
  have hm:Mem w w3 [(hd,.cells #[ii (vNum m 0),ii (vNum m 1)] 431),(cb,curO 367 (.slice A m.length c) (vAt m 2) 0)]:=hm;have hn0:vNum m 0≤4194304:=(hfi 0 Oo).2;have g2:vNum m 1≤67108864:=(hfi 1 Oo).2;have hWb:dW m≤27:=qev 27 _ (by show vNum m 1<_;omega) Od;refine DrawV.free Jk Jk (zw ?_);refine zf ?_ (by intro wd hd;(conv=>whnf);refine zJ 0 ?_;(conv=>whnf);exact ⟨xr,rfl⟩);refine zLd ?_;refine zf ?_ (by intro wd hd;(conv=>whnf);refine zJ 1 ?_;(conv=>whnf);exact ⟨xr,rfl⟩);refine zLd ?_;refine zd ?_;apply zsd
  ·intro wd hd;(conv=>whnf);refine zcv (qgl (vNum m 1) wd Oo) ?_;rintro v w9 ⟨rfl,rfl⟩;exact ⟨xr,rfl⟩
  (conv=>whnf);refine zd ?_;apply StepD.of (fun v wx=>∃ b,v=pp b∧w3.drew.heap.size≤b∧wx.heap[b]?=some (.cells #[ii (dN m),ii (dW m),.slice none 0 0,.slice none 0 0] 395))
   (fun _ _ _ h he=>let ⟨b,h1,h2,h3⟩:=h;⟨b,h1,h2,he.get h3⟩)
  ·intro wd hd;(conv=>whnf);refine ⟨fun x wx hb hw=>?_⟩;subst hb hw;(conv=>whnf);exact ⟨xr.alloc _,_,rfl,hd.size,heap_alloc_new _ _⟩
  (conv=>whnf);apply StepD.of (fun v wx=>∃ b,v=pp b∧w3.drew.heap.size≤b∧wx.heap[b]?=some (.cells #[ii (dN m),ii (dW m),.slice none 0 0,.slice none 0 0] 395))
   (fun _ _ _ h he=>let ⟨b,h1,h2,h3⟩:=h;⟨b,h1,h2,he.get h3⟩)
  ·intro wd hd;(conv=>whnf);rintro _ _;(conv=>whnf);rintro v ⟨b,rfl,h1,h2⟩;conv=>whnf
   grind [Ext.refl]
  (conv=>whnf);intro w9 he9;(conv=>whnf);rintro v ⟨b,rfl,hb,ho⟩;(conv=>whnf);intro _ _;(conv=>whnf);have hm:=hm.drew.fresh he9 hb ho;refine zcv (qis cb _ (vAt m 2) 0 w9 (hm.get (zmc (zmc mh)))) ?_;rintro r w10 ⟨rfl,rfl⟩;(conv=>whnf);have hub:upN (dN m) 16≤4194304:=Nat.le_trans (qbi _ _ Od) hn0;have hmul:upN (dN m) 16*dW m≤4194304*27:=Nat.mul_le_mul hub hWb;obtain ⟨f,ef⟩:∃ f,f=upN (dN m) 16*dW m:=⟨_,rfl⟩
  have efi:((upN (dN m) 16:Nat):Int)*((dW m:Nat):Int)=(f:Int):=by omega
  rw [← ef] at hmul;have e3:qcb m=vAt m 2:=rfl;have e4:qx m=qcb m+(f+7)/8:=by rw [ef];rfl
  have e5:dEnd m=qx m+vNum m 1:=rfl;have h2l:=qph m 2;refine zy ?_;have hm:=hm.drew;refine zt ?_;refine LoadV.mem (i:=0) Oa rfl rfl (zw ?_);refine zt ?_;refine ⟨ii (upN (dN m) 16),qkh (dN m) _ hn0,?_⟩;(conv=>whnf);refine zt ?_;refine LoadV.mem (i:=0) Oa rfl rfl (zw ?_);refine zt ?_;refine zJ 1 ?_;(conv=>whnf);refine LoadV.mem (i:=1) Oa rfl rfl (zw ?_);refine zt ?_;obtain ⟨w11,ew11⟩:∃ w11:World,w11=w10.drew:=⟨_,rfl⟩
  rw [← ew11] at hm ⊢;obtain ⟨PV,hPV⟩:∃ PV:Value,PV=.slice (if c=qcb m then A else A.map (·.add (qcb m*1))) (qx m-qcb m) (c-qcb m):=⟨_,rfl⟩
  obtain ⟨EV,hEV⟩:∃ EV:Value,EV=.slice (if c=qx m then A else A.map (·.add (qx m*1))) (dEnd m-qx m) (c-qx m):=⟨_,rfl⟩
  refine DrawV.inv (fun S w'=>Mem w w' [(b,.cells #[ii (dN m),ii (dW m),(bif S 12 then PV else .slice none 0 0),(bif S 15 then EV else .slice none 0 0)] 395),(hd,.cells #[ii (vNum m 0),ii (vNum m 1)] 431),(cb,curO 367 (.slice A m.length c) (vAt m 2) 0)]) rfl Jk hm.drew (zw ?_);(iterate 5 (refine zi ?_));refine StepI.of PV (fun S wd hk hp hI=>zw ?_) (zw ?_)
  ·refine SliceV.to (qcb m) (qx m) c (by rfl) (by rfl) rfl Oo Oo Oo (fun h=>by cases h) (zw ?_);exact ⟨hPV.symm,hI⟩
  (iterate 3 (refine zi ?_));refine StepI.of EV (fun S wd hk hp hI=>zw ?_) ?_
  ·refine SliceV.to (qx m) (dEnd m) c (by rfl) (by rfl) rfl Oo Oo Oo (fun h=>by cases h) (zw ?_);exact ⟨hEV.symm,hI⟩
  subst hPV hEV;(conv=>whnf);refine zi ?_;refine zi ?_;refine StepI.of undef (fun S wd hk hp hI=>?_) (zw ?_)
  ·dsimp only at hI;rw [hk] at hI;(conv=>whnf);refine StoreV.mem hI (i:=0) rfl (show 2<4 by decide) rfl fun wx hmx=>zw ?_;exact ⟨rfl,hmx⟩
  refine zi ?_;refine zi ?_;refine StepI.of undef (fun S wd hk hp hI=>?_) (zw ?_)
  ·dsimp only at hI;rw [hk] at hI;(conv=>whnf);refine StoreV.mem hI (i:=0) rfl (show 3<4 by decide) rfl fun wx hmx=>zw ?_;exact ⟨rfl,hmx⟩
  intro w12 hI;(conv=>whnf);obtain ⟨o1,o2⟩:=hI.own _ mh;have l1:(qai m).length=qx m-qcb m:=by grind [qai]
  have l2:(qc m).length=dEnd m-qx m:=by grind [qc]
  have e9:(((vAt m 2:Nat):Int)+(((upN (dN m) 16:Nat):Int)*((dW m:Nat):Int)+7)/8)=((qx m:Nat):Int):=by omega
  rw [e9];have c1:SlAt encB 1 w (if c=qcb m then A else A.map (·.add (qcb m*1))) (qai m):=hS.cut (m:=c) Oo Oo Oo rfl;have c2:SlAt encB 1 w (if c=qx m then A else A.map (·.add (qx m*1))) (qc m):=by
   have:=hS.cut (m:=c) (lo:=qx m) (hi:=m.length) (A':=if c=qx m then A else A.map (·.add (qx m*1))) Oo Oo Oo rfl
   rwa [List.take_of_length_le Js] at this
  refine ⟨⟨b,rfl,o1,⟨⟨_,c-qcb m,_,c-qx m,?_,c1.ext hI.ext,c2.ext hI.ext,?_⟩,hn0,g2,?_,?_⟩⟩,hI.ext⟩
  ·grind
  ·omega
  ·omega
  ·rw [l2];show _=vNum m 1;omega
theorem q2z (m:LB) (A:oA) (c:Nat) (w:World) (hS:SlAt encB 1 w A m) (hc:m.length≤c) (hl:m.length≤140737488355328) (hE:(dE m).2=0) :
  Gv Tryz.prog 164 [.slice A m.length c] w fun v w'=>(∃ b,v=.tuple #[pp b,.nilIface]∧w.heap.size≤b∧DictAt w' b m)∧Ext w w':=by
 have hsh:=qxs m A c w hS hc hl hE;refine ze Tryz.func164 Tryz.ntmps164 ?_;refine zcv (hsh) ?_;rintro v w1 ⟨⟨b,rfl,hb,hD⟩,he⟩;(conv=>whnf);exact ⟨⟨b,rfl,hb,hD⟩,he⟩
theorem q5l (s:Value) (n m b:Nat) (w:World) (hb:w.heap[b]?=some (vecO 381 s n m)):Gv Tryz.prog 170 [pp b] w fun r w'=>r=ii n∧w'=w:=by
 refine ze Tryz.func170 Tryz.ntmps170 ?_;refine LoadV.own hb rfl (zw ?_);simp
theorem q1u (s:Value) (n m b:Nat) (w:World) (hb:w.heap[b]?=some (vecO 381 s n m)):Gv Tryz.prog 171 [pp b] w fun r w'=>r=ii m∧w'=w:=by
 refine ze Tryz.func171 Tryz.ntmps171 ?_;refine LoadV.own hb rfl (zw ?_);simp
theorem qje (x:Nat) (w:World) (hx:x<256):Gv Tryz.prog 301 [.int .u8 x] w fun r w'=>r=ii (qd7 x)∧w'=w:=by
 refine ze Tryz.func301 Tryz.ntmps301 ?_;refine IdxV.nat (by show x<256;exact hx) (zw ?_);refine Wit.conv (by grind [qah,q9]) (zw ?_);refine ⟨congrArg (Value.int .i64) (congrArg Int.ofNat ?_),rfl⟩;clear w
 revert x
 decide +kernel
theorem qtm (l:LB) (A:oA) (c b i:Nat) (w:World) (hS:SlAt encB 1 w A l) (hc:l.length≤c) (hv:vOk l=true) (hb:w.heap[b]?=some (vecO 381 (.slice A l.length c) (vN l) (vM l))) (hi:i≤67108864) :
  Gv Tryz.prog 224 [pp b,ii i] w fun r w'=>r=ii (qff l i)∧Ext w w':=by
 refine ze Tryz.func224 Tryz.ntmps224 ?_;simp only [vOk,Bool.and_eq_true,decide_eq_true_eq] at hv;obtain ⟨⟨⟨v1,v2⟩,v3⟩,v4⟩:=hv;have u1:=qbi (vN l) 8 Od;have u2:=qbi (vN l) 2048 Od;have u3:=qbi (vN l) 256 Od;have u4:=qbi (vM l) 512 Od;have g1:qi (vN l)=8+upN (vN l) 8:=rfl;have g2:qz (vN l)=qi (vN l)+4*upN (vN l) 2048:=rfl;have g3:qam (vN l)=qz (vN l)+2*upN (vN l) 256:=rfl;have g4:qba (vN l) (vM l)=qam (vN l)+4*upN (vM l) 512:=rfl;rw [qff];refine zC (fun _=>zu ?_) (fun _=>zu ?_)
 ·grind [Ext.refl]
 refine LoadV.own hb rfl (zw ?_);refine zt ?_;refine zC (fun _=>zw ?_) (fun _=>zw ?_)
 ·grind [Ext.refl]
 refine LoadV.own hb rfl (zw ?_);refine zC (fun _=>zw ?_) (fun _=>zw ?_)
 ·refine LoadV.own hb rfl (zw ?_)
  grind [Ext.refl]
 obtain ⟨g,off,hA,_⟩:=hS.at_ (by grind);subst hA;have k1:i/2048+1≤upN (vN l) 2048:=by unfold upN;omega
 have k2:i/256+1≤upN (vN l) 256:=by unfold upN;omega
 have k3:i/8+1≤upN (vN l) 8:=by unfold upN;omega
 refine DrawV.free Jk Jk (zw ?_);(iterate 3 (refine zd ?_));refine zf ?_ (by intro wd hd;(conv=>whnf);refine LoadV.own (Ext.get (Ext.trans (Ext.drew xr) hd) hb) rfl ?_;(conv=>whnf);exact ⟨xr,rfl⟩);(iterate 4 (refine zd ?_));refine zf ?_ (by intro wd hd;(conv=>whnf);refine LoadV.own (Ext.get (Ext.trans (Ext.drew xr) hd) hb) rfl ?_;(conv=>whnf);exact ⟨xr,rfl⟩);(iterate 4 (refine zd ?_));apply zsd
 ·intro wd hd;(conv=>whnf);refine SliceV.rest (qi (vN l)+4*(i/2048)) (by rfl) hc Oo (zw ?_);exact ⟨xr,rfl⟩
 (conv=>whnf);apply zsd
 ·intro wd hd;(conv=>whnf);refine zcv (qlz (l.drop (qi (vN l)+4*(i/2048))) _ _ _ wd (SlAt.rest (hS.ext ((Ext.refl w).drew.trans hd)) Oo) (by rw [zld]) (by rw [zld];omega)) ?_;rintro v w9 ⟨rfl,h9⟩;exact ⟨h9,rfl⟩
 (conv=>whnf);(iterate 3 (refine zd ?_));refine zf ?_ (by intro wd hd;(conv=>whnf);refine LoadV.own (Ext.get (Ext.trans (Ext.drew xr) hd) hb) rfl ?_;(conv=>whnf);exact ⟨xr,rfl⟩);(iterate 4 (refine zd ?_));refine zf ?_ (by intro wd hd;(conv=>whnf);refine LoadV.own (Ext.get (Ext.trans (Ext.drew xr) hd) hb) rfl ?_;(conv=>whnf);exact ⟨xr,rfl⟩);(iterate 4 (refine zd ?_));apply zsd
 ·intro wd hd;(conv=>whnf);refine SliceV.rest (qz (vN l)+2*(i/256)) (by rfl) hc Oo (zw ?_);exact ⟨xr,rfl⟩
 (conv=>whnf);apply zsd
 ·intro wd hd;(conv=>whnf);refine zcv (qaai (l.drop (qz (vN l)+2*(i/256))) _ _ _ wd (SlAt.rest (hS.ext ((Ext.refl w).drew.trans hd)) Oo) (by rw [zld]) (by rw [zld];omega)) ?_;rintro v w9 ⟨rfl,h9⟩;exact ⟨h9,rfl⟩
 (conv=>whnf);have hG:=qbh (l.drop (qi (vN l)+4*(i/2048))) 4 (by grind);have hH:=qbh (l.drop (qz (vN l)+2*(i/256))) 2 (by grind);obtain ⟨G,eG⟩:∃ G,G=leN ((l.drop (qi (vN l)+4*(i/2048))).take 4):=⟨_,rfl⟩
 obtain ⟨H,eH⟩:∃ H,H=leN ((l.drop (qz (vN l)+2*(i/256))).take 2):=⟨_,rfl⟩
 rw [← eG] at hG ⊢;rw [← eH] at hH ⊢;simp only [Nat.reduceMul,Nat.reducePow] at hG hH;refine zd ?_;refine zd ?_;intro w1 he1;(conv=>whnf);have hx:=(Ext.refl w).drew.trans he1;refine zv ?_;have hof:∀ k,k≤i%256/8→qa8 l (8+i/256*32) k≤8*k:=fun k hk=>by
  clear hG hH
  induction k<;>grind [qd7,qa8]
 refine qm (fun k:Nat=>[(0,pp b),(1,ii i),(5,ii (G+H+qa8 l (8+i/256*32) k:Nat)),(7,ii (i/256*256+8*k:Nat))]) (fun k w'=>k≤i%256/8∧Ext w w') (fun k=>i%256/8-k) 0
  ⟨rfl,rfl,by rfl,by simp;rfl,trivial⟩ (by grind) ?_
 rintro k w2 ρ' ⟨k1,he2⟩;have hk:=hof k k1;(conv=>whnf);refine zt ?_;refine zC (fun _=>zw ?_) (fun _=>zw ?_)
 ·refine zy ?_;refine zv ?_;have hx2:=he2.drew;refine LoadV.own (hx2.get hb) rfl (zu ?_);refine LoadV.own (hx2.get hb) rfl (zu ?_);have hj:8+i/256*32+k<l.length:=by omega
  refine ElemV.bs (hS.ext hx2) rfl (8+i/256*32+k) Oo hj ?_;intro eb eo hcell;have hlt:=q9 (l[8+i/256*32+k]);refine zu ?_;refine LoadV.of hcell (zu ?_);refine ⟨ii (qd7 (l[8+i/256*32+k]).toNat),qje _ _ hlt,?_⟩;have h8:qd7 (l[8+i/256*32+k]).toNat≤8:=by unfold qd7;omega
  have hon:qa8 l (8+i/256*32) (k+1)=qa8 l (8+i/256*32) k+qd7 (l[8+i/256*32+k]).toNat:=by
   grind [qa8]
  refine zu ?_;exact ⟨k+1,⟨rfl,rfl,by rw [hon];exact congrArg (Value.int .i64) Oo,by rfl,trivial⟩,(by grind),by omega⟩
 ·obtain rfl:k=i%256/8:=by omega
  refine zy ?_;refine zv ?_;have hx2:=he2.drew;refine LoadV.own (hx2.get hb) rfl (zu ?_);refine LoadV.own (hx2.get hb) rfl (zu ?_);have hj:8+i/8<l.length:=by omega
  refine ElemV.bs (hS.ext hx2) rfl (8+i/8) Oo hj ?_;intro eb eo hcell;have hlt:=q9 (l[8+i/8]);have hpw:2 ^ (i%8)≤2 ^ 7:=Nat.pow_le_pow_right Od Oo;have hpp:=Nat.two_pow_pos (i%8);simp only [Nat.reducePow] at hpw;refine zu ?_;refine LoadV.of hcell (zu ?_);refine V.Wit.shlN (a:=1) (i%8) Oo (by show i%8<8;omega) (qdz Oo) ?_;rw [Nat.one_mul];refine zu ?_;refine Wit.eq (qbb (k:=.u8) (m:=(l[8+i/8]).toNat) (i%8) Oo (qdz hlt) ⟨by omega,by omega⟩) ?_;have hm8:(l[8+i/8]).toNat%2 ^ (i%8)<256:=(by omega)
  refine zu ?_;refine ⟨ii (qd7 ((l[8+i/8]).toNat%2 ^ (i%8))),qje _ _ hm8,?_⟩;have h8:qd7 ((l[8+i/8]).toNat%2 ^ (i%8))≤8:=by unfold qd7;omega
  refine zu ?_;refine V.Fall.max2 rfl rfl rfl fun mx hmx=>?_;(conv=>whnf);refine V.Fall.min2 rfl rfl rfl fun mn hmn=>?_;conv=>whnf
  grind
theorem qbu (b off i wd cp:Nat) (P:oA) (p:LB) (w:World) (h1:w.cell? ⟨b,off+1,none⟩=some (ii wd)) (h5:w.cell? ⟨b,off+5,none⟩=some (.slice P p.length cp)) (hP:SlAt encB 1 w P p) (hw:wd≤23) (hi:i≤4194304) :
  Gv Tryz.prog 129 [.pointer (some ⟨b,off,none⟩),ii i] w fun r w'=>r=ii (numP p wd i)∧Ext w w':=by
 have hb:i*wd≤4194304*23:=Nat.mul_le_mul hi hw;rw [numP];obtain ⟨f,ef⟩:∃ f,f=i*wd:=⟨_,rfl⟩
 have efi:(i:Int)*(wd:Int)=(f:Int):=by rw [ef,Int.natCast_mul]
 rw [← ef] at hb ⊢;obtain ⟨m,em⟩:∃ m,m=p.drop (f/8):=⟨_,rfl⟩
 have hml:m.length=p.length-f/8:=by rw [em,zld]
 rw [← em];refine ze Tryz.func129 Tryz.ntmps129 ?_;refine LoadV.of h1 (zw ?_);rw [efi];refine zv ?_;refine qm (fun k:Nat=>[(0,.pointer (some ⟨b,off,none⟩)),(5,ii f),(6,ii (leN (m.take k))),(7,ii k)]) (fun k w'=>k≤4∧k≤m.length∧w'=w) (fun k=>4-k) 0 ⟨rfl,rfl,rfl,rfl,trivial⟩ ⟨by omega,by omega,rfl⟩ ?_;rintro k w1 ρ' ⟨k1,k2,rfl⟩;have hlt:=qbh m k k2;have hp:=pow8 k k1;have fin:∀ x,x=leN (m.take 4)→x<4294967296:=fun x hx=>by
  rw [hx];have:=qy3 (m.take 4);have h3:256 ^ (m.take 4).length≤256 ^ 4:=Nat.pow_le_pow_right Od Ys;have h4:(256:Nat) ^ 4=4294967296:=by decide
  omega
 have hpw:2 ^ wd≤2 ^ 23:=Nat.pow_le_pow_right Od hw;have hpp:=Nat.two_pow_pos wd;simp only [Nat.reducePow] at hpw;(conv=>whnf);refine zC (fun _=>zu ?_) (fun _=>zu ?_)
 ·refine LoadV.of h5 (zw ?_);refine zt ?_;refine zC (fun _=>zw ?_) (fun _=>zw ?_)
  ·have hk:k<m.length:=by omega
   refine LoadV.of h5 (zu ?_);refine ElemV.bs hP rfl (f/8+k) Oo Oo ?_;intro eb eo hc;have hmk:p[f/8+k]' Oo=m[k]:=by simp [em]
   rw [hmk] at hc;have hb4:=q9 m[k];have hp:=pow8 (k+1) Oo;have hlt1:=qbh m (k+1) Oo;rw [qie m k hk] at hlt1;(conv=>whnf);refine LoadV.of hc (zu ?_);refine V.Wit.shlN (8*k) Oo (by show 8*k<64;omega) (qah Oo) (zw ?_);refine Wit.eq (qbq (8*k) (qah Oo) hlt) (zu ?_);exact ⟨k+1,⟨rfl,rfl,by rw [qie m k hk];rfl,rfl,trivial⟩,⟨by omega,by omega,rfl⟩,by omega⟩
  ·have e4:leN (m.take k)=leN (m.take 4):=by rw [List.take_of_length_le Oo,List.take_of_length_le Oo]
   rw [e4];have hx:=fin _ rfl;generalize leN (m.take 4)=x at hx ⊢;have hx2:x/2 ^ (f%8)≤x:=Nat.div_le_self _ _;refine zy ?_;refine zv ?_;refine V.Wit.shrN (f%8) Oo (by show f%8<64;omega) (zu ?_);refine LoadV.of h1 (zu ?_);refine V.Wit.shlN (a:=1) wd Oo (by show wd<64;omega) (qah Oo) ?_;rw [Nat.one_mul];refine zu ?_;refine Wit.eq (qbb (k:=.i64) (m:=x/2 ^ (f%8)) wd Oo (qah Oo) ⟨by omega,by omega⟩) (zu ?_);exact ⟨rfl,(Ext.refl w1).drew⟩
 ·obtain rfl:k=4:=by omega
  have hx:=fin _ rfl;generalize leN (m.take 4)=x at hx ⊢;have hx2:x/2 ^ (f%8)≤x:=Nat.div_le_self _ _;refine zy ?_;refine zv ?_;refine V.Wit.shrN (f%8) Oo (by show f%8<64;omega) (zu ?_);refine LoadV.of h1 (zu ?_);refine V.Wit.shlN (a:=1) wd Oo (by show wd<64;omega) (qah Oo) ?_;rw [Nat.one_mul];refine zu ?_;refine Wit.eq (qbb (k:=.i64) (m:=x/2 ^ (f%8)) wd Oo (qah Oo) ⟨by omega,by omega⟩) (zu ?_);exact ⟨rfl,(Ext.refl w1).drew⟩
def fnA (n:Nat) (F:Nat→Value):Array Value:=((List.range n).map F).toArray
def updF (F:Nat→Value) (i:Nat) (v:Value):Nat→Value:=fun j=>if j=i then v else F j
theorem qaz (F:Nat→Value) (i:Nat) (v:Value):updF F i v i=v:=by simp [updF]
theorem q6 (F:Nat→Value) (i j:Nat) (v:Value) (h:j≠i):updF F i v j=F j:=by simp [updF,h]
theorem qa1 (n:Nat) (F:Nat→Value):(fnA n F).size=n:=by simp [fnA]
theorem qa7 (n:Nat) (F:Nat→Value) (i:Nat) (h:i<n):(fnA n F)[i]?=some (F i):=by
 rw [fnA,List.getElem?_toArray,List.getElem?_map,List.getElem?_range h];rfl
theorem qdl (n:Nat) (F:Nat→Value) (i:Nat) (v:Value):(fnA n F).setIfInBounds i v=fnA n (updF F i v):=by
 rw [← Array.toList_inj];simp only [fnA,Array.toList_setIfInBounds];apply List.ext_getElem?;intro j;rw [List.getElem?_set,List.getElem?_map,List.getElem?_map]
 by_cases e:i=j
 ·subst e;rw [if_pos rfl]
  by_cases h:i<n
  ·rw [if_pos (by simpa using h),List.getElem?_range h];simp [updF]
  ·rw [if_neg (by simpa using h),List.getElem?_eq_none (by simpa using h)];rfl
 ·rw [if_neg e]
  by_cases h:j<n
  ·rw [List.getElem?_range h];simp [updF,Ne.symm e]
  ·rw [List.getElem?_eq_none (by simpa using h)];rfl
theorem qda {n:Nat} {F G:Nat→Value} (h:∀ j,j<n→F j=G j):fnA n F=fnA n G:=by
 unfold fnA
 congr 1
 exact List.map_congr_left fun j hj=>h j (by simpa using hj)
theorem V.LoadV.fn {w0 w:World} {L:List (Nat × Obj)} {i b off n:Nat} {F:Nat→Value} {t:TypeId} {v:Value} {K:Value→Prop} (h:Mem w0 w L) (hi:L[i]?=some (b,.cells (fnA n F) t)) (j:Nat) (e:off=j) (hj:j<n) (hv:F j=v) (hk:K v):LoadV w b off K:=by
 subst e;exact LoadV.mem h hi (by rw [qa7 n F _ hj,hv]) hk
theorem V.StoreV.fn {w0 w:World} {L:List (Nat × Obj)} {i b off n:Nat} {F:Nat→Value} {t:TypeId} {v:Value} {K:World→Prop} (h:Mem w0 w L) (hi:L[i]?=some (b,.cells (fnA n F) t)) (j:Nat) (e:off=j) (hj:j<n) (h1:qb6 v=true)
  (hk:∀ w',Mem w0 w' (L.set i (b,.cells (fnA n (updF F j v)) t))→K w'):StoreV w b off v K:=by
 subst e;refine StoreV.mem h hi (by rw [qa1];exact hj) h1 fun w' hm=>hk w' ?_
 rwa [qdl] at hm
theorem lvSz:tsz Tryz.prog 244=8:=by kernel_rfl
theorem q40 {l:LB} {k:Nat} (h:(tcF l k).2=0):(numL (l.drop (vAt l k))).2.2=0∧vNum l k≤1048576∧(0<k→vNum l (k-1)≤vNum l k∧(vNum l k=0↔vNum l (k-1)=0)):=by grind [tcF,numE]
theorem qwe (l:LB) (v:Value) (tb cb:Nat) (F:Nat→Value) (w0 w:World) (hm:Mem w0 w [(cb,curO 367 v 0 0),(tb,.cells (fnA 32 F) 247)]) (hv0:BS w0 v l) (hl:l.length≤140737488355328) (hz:∀ k,k<4→(tcF l k).2=0) :
  Gv Tryz.prog 165 [pp tb,pp cb] w fun r w'=>
   r=.nilIface∧∃ F',(∀ k,k<4→F' (8*k)=ii (vNum l k))∧(∀ j,j%8≠0→F' j=F j)∧Mem w0 w' [(cb,curO 367 v (vAt l 4) 0),(tb,.cells (fnA 32 F') 247)]:=by
 refine ze Tryz.func165 Tryz.ntmps165 ?_;refine qm (fun x:Nat × (Nat→Value)=>[(0,pp tb),(1,pp cb),(4,.nilIface),(9,ii x.1)])
  (fun x w'=>x.1≤4∧(∀ k,k<x.1→x.2 (8*k)=ii (vNum l k))∧(∀ j,j%8≠0→x.2 j=F j)∧Mem w0 w' [(cb,curO 367 v (vAt l x.1) 0),(tb,.cells (fnA 32 x.2) 247)]) (fun x=>4-x.1) (0,F)
  ⟨rfl,rfl,rfl,rfl,trivial⟩ ⟨by simp,fun j h=>by simp at h,fun j _=>rfl,hm⟩ ?_
 clear hm;rintro ⟨k,F1⟩ w1 ρ' ⟨k1,hF,hF2,hm⟩;dsimp only at k1 hF hF2 hm ⊢;(conv=>whnf);refine zC (fun _=>zw ?_) (fun _=>zw ?_)
 ·have hv:BS w1 v l:=hv0.ext hm.ext;have hle:=qph l k;have hlt:=qrj l k;refine zcv (qis cb _ (vAt l k) 0 w1 (hm.get mh)) ?_;rintro r w2 ⟨rfl,rfl⟩;(conv=>whnf);refine zcv (qde cb _ (vAt l k) 0 l _ (hm.get mh) hv hle hl) ?_;rintro r w3 ⟨rfl,hu⟩;obtain ⟨he,g2,g3⟩:=q40 (hz k Oo);rw [qm5 he,qm6 he] at hu;rw [qm4 he];have hm:Mem w0 w3 [(cb,curO 367 v (vAt l (k+1)) 0),(tb,.cells (fnA 32 F1) 247)]:=hm.upd (i:=0) rfl hu;(conv=>whnf);refine zcv (qe9 cb _ _ 0 w3 (hm.get mh)) ?_;rintro r w4 ⟨rfl,rfl⟩;refine zu ?_;refine StoreV.fn hm (i:=1) rfl (8*k) (by rw [lvSz];dsimp only;omega) Oo rfl ?_;intro w5 hm;have hm:Mem w0 w5 [(cb,curO 367 v (vAt l (k+1)) 0),(tb,.cells (fnA 32 (updF F1 (8*k) (ii (vNum l k)))) 247)]:=hm;(conv=>whnf);refine zC (fun _=>zu ?_) (fun _=>zu ?_)
  ·refine IdxV.at_ (k-1) Oo Oo (zu ?_);refine LoadV.fn (v:=ii (vNum l (k-1))) hm (i:=1) rfl (8*(k-1)) (by rw [lvSz];dsimp only;omega) Oo (by rw [q6 _ _ _ _ Oo];exact hF (k-1) Oo) (zu ?_);refine IdxV.at_ (k-1) Oo Oo (zu ?_);refine LoadV.fn (v:=ii (vNum l (k-1))) hm (i:=1) rfl (8*(k-1)) (by rw [lvSz];dsimp only;omega) Oo (by rw [q6 _ _ _ _ Oo];exact hF (k-1) Oo) (zu ?_);refine Tst.iff (vNum l (k-1)=0↔vNum l k=0) (by rw [beq_iff_eq,decide_eq_decide];omega) (fun h=>?_) (fun h=>absurd (g3 Oo).2.symm h);refine zu ?_;exact ⟨(k+1,updF F1 (8*k) (ii (vNum l k))),⟨rfl,rfl,rfl,rfl,trivial⟩,⟨by simp only;omega,fun j hj=>by grind [updF],fun j hj=>by grind [updF],hm⟩,by simp only;omega⟩
  ·exact ⟨(k+1,updF F1 (8*k) (ii (vNum l k))),⟨rfl,rfl,rfl,rfl,trivial⟩,⟨by simp only;omega,fun j hj=>by grind [updF],fun j hj=>by grind [updF],hm⟩,by simp only;omega⟩
 ·obtain rfl:k=4:=by omega
  exact ⟨rfl,F1,hF,hF2,hm⟩
def VecP (w:World) (V s:Value) (l:LB) (k:Nat):Prop:=
 ((k=0∨tVec l k=false)∧V=.pointer none)∨(0<k∧tVec l k=true∧∃ vb,V=pp vb∧w.heap[vb]?=some (vecO 381 s (vNum l k) (vNum l (k-1))))
structure LvAt (w:World) (b:Nat) (l:LB) (k:Nat):Prop where
 h:∃ P cp S cs V,CellsAt w b (8*k) [ii (vNum l k),ii (tw l k),ii (tvAt l k),ii (tvAt l k+1:Nat),ii (tEnd l k),.slice P (qg l k).length cp,.slice S (qe l k).length cs,V]∧
  SlAt encB 1 w P (qg l k)∧SlAt encB 1 w S (qe l k)∧(qe l k).length≤cs∧VecP w V (.slice S (qe l k).length cs) l k
theorem VecP.ext {w w':World} {V s:Value} {l:LB} {k:Nat} (h:VecP w V s l k) (he:Ext w w'):VecP w' V s l k:=by
 rcases h with h|⟨h1,h2,vb,h3,h4⟩
 ·exact .inl h
 ·exact .inr ⟨h1,h2,vb,h3,he.get h4⟩
theorem LvAt.ext {w w':World} {b:Nat} {l:LB} {k:Nat} (h:LvAt w b l k) (he:Ext w w'):LvAt w' b l k:=by
 obtain ⟨P,cp,S,cs,V,h1,h2,h3,h4,h5⟩:=h;exact ⟨P,cp,S,cs,V,h1.ext he,h2.ext he,h3.ext he,h4,h5.ext he⟩
structure TreeAt (w:World) (b:Nat) (l:LB):Prop where
 lv:∀ k,k<4→LvAt w b l k
 n:∀ k,k<4→vNum l k≤1048576
 wd:∀ k,k<4→tw l k≤23
theorem TreeAt.ext {w w':World} {b:Nat} {l:LB} (h:TreeAt w b l) (he:Ext w w'):TreeAt w' b l:=⟨fun k hk=>(h.lv k hk).ext he,h.n,h.wd⟩
def tF0 (j:Nat):Value:=if j%8<5 then ii 0 else if j%8<7 then .slice none 0 0 else .pointer none
def tPV (A:oA) (c:Nat) (l:LB) (k:Nat):Value:=.slice (if c=tvAt l k+1 then A else A.map (·.add ((tvAt l k+1)*1))) (tEnd l k-(tvAt l k+1)) (c-(tvAt l k+1))
def tSV (A:oA) (c:Nat) (l:LB) (k:Nat):Value:=.slice (if c=tEnd l k then A else A.map (·.add (tEnd l k*1))) (tvAt l (k+1)-tEnd l k) (c-tEnd l k)
def VecM (L:List (Nat × Obj)) (V s:Value) (l:LB) (k:Nat):Prop:=
 ((k=0∨tVec l k=false)∧V=.pointer none)∨(0<k∧tVec l k=true∧∃ vb,V=pp vb∧(vb,vecO 381 s (vNum l k) (vNum l (k-1)))∈L)
theorem VecM.more {L:List (Nat × Obj)} {x:Nat × Obj} {V s:Value} {l:LB} {k:Nat} (h:VecM L V s l k):VecM (x::L) V s l k:=by
 rcases h with h|⟨h1,h2,vb,h3,h4⟩
 ·exact .inl h
 ·exact .inr ⟨h1,h2,vb,h3,zmc h4⟩
def lvV (A:oA) (c:Nat) (l:LB) (k i:Nat) (v:Value):Value:=
 match i with
 | 0=>.int .i64 (vNum l k)
 | 1=>.int .i64 (tw l k)
 | 2=>.int .i64 (tvAt l k)
 | 3=>.int .i64 ((tvAt l k:Int)+1)
 | 4=>.int .i64 (tEnd l k)
 | 5=>tPV A c l k
 | 6=>tSV A c l k
 | _=>v
def tFk (A:oA) (c:Nat) (l:LB) (V:Nat→Value) (k x:Nat):Value:=if x%8=0∨x/8<k then lvV A c l (x/8) (x%8) (V (x/8)) else tF0 x
def updB (s:Bool) (F:Nat→Value) (i:Nat) (v:Value):Nat→Value:=bif s then updF F i v else F
theorem qfk (s:Bool) (F:Nat→Value) (i j:Nat) (v:Value) (h:j≠i):updB s F i v j=F j:=by cases s<;>simp [updB,updF,h]
theorem q1j (s:Bool) (F:Nat→Value) (i j:Nat) (u v:Value) (h:j≠i):updF (updB s F j u) i v=updB s (updF F i v) j u:=by
 funext x
 cases s<;>simp only [updB,cond_true,cond_false,updF]
 grind
def tFm (s:Bool) (A:oA) (c:Nat) (l:LB) (V:Nat→Value) (k:Nat):Nat→Value:=
 updB s (updF (updF (updF (tFk A c l V k) (8*k+2) (ii (tvAt l k))) (8*k+1) (ii (tw l k))) (8*k+3) (ii ((tvAt l k:Int)+1))) (8*k+4) (ii (tEnd l k))
def tFn (s t:Bool) (A:oA) (c:Nat) (l:LB) (V:Nat→Value) (k:Nat):Nat→Value:=updB t (updB s (tFm true A c l V k) (8*k+5) (tPV A c l k)) (8*k+6) (tSV A c l k)
section
variable (s t:Bool) (A:oA) (c:Nat) (l:LB) (V:Nat→Value) (k j:Nat)
theorem q4u:tFm s A c l V k (8*j)=ii (vNum l j):=by
 unfold tFm;rw [qfk _ _ _ _ _ Oo,q6 _ _ _ _ Oo,q6 _ _ _ _ Oo,q6 _ _ _ _ Oo,tFk,if_pos (.inl Oo),show 8*j/8=j by omega,show 8*j%8=0 by omega];rfl
theorem qadv:tFm s A c l V k (8*k+1)=ii (tw l k):=by rw [tFm,qfk _ _ _ _ _ Oo,q6 _ _ _ _ Oo,qaz]
theorem qacz:tFm s A c l V k (8*k+3)=ii ((tvAt l k:Int)+1):=by rw [tFm,qfk _ _ _ _ _ Oo,qaz]
theorem qo4 (h:j≠8*k+5) (h2:j≠8*k+6):tFn s t A c l V k j=tFm true A c l V k j:=by rw [tFn,qfk _ _ _ _ _ h2,qfk _ _ _ _ _ h]
theorem q98:tFn s t A c l V k (8*j)=ii (vNum l j):=by rw [qo4 _ _ _ _ _ _ _ _ Oo Oo,q4u]
theorem qadw:tFn s t A c l V k (8*k+3)=ii ((tvAt l k:Int)+1):=by rw [qo4 _ _ _ _ _ _ _ _ Oo Oo,qacz]
theorem qac0:tFn s t A c l V k (8*k+4)=ii (tEnd l k):=by rw [qo4 _ _ _ _ _ _ _ _ Oo Oo];exact qaz _ _ _
theorem qadx:updF (tFn false t A c l V k) (8*k+5) (tPV A c l k)=tFn true t A c l V k:=q1j _ _ _ _ _ _ Oo
theorem qt4 (v:Value) (x:Nat):updF (tFn true true A c l V k) (8*k+7) v x=tFk A c l (updF V k v) (k+1) x:=by
 by_cases e:x/8=k
 ·rw [tFk,if_pos (.inr Oo),e,qaz];obtain h|h|h|h|h|h|h|h:x=8*k∨x=8*k+1∨x=8*k+2∨x=8*k+3∨x=8*k+4∨x=8*k+5∨x=8*k+6∨x=8*k+7:=by omega
  ·subst h;rw [q6 _ _ _ _ Oo,q98,show 8*k%8=0 by omega];rfl
  all_goals
   subst h;simp [updF,updB,tFm,tFn,lvV]
 ·rw [q6 _ _ _ _ Oo,qo4 _ _ _ _ _ _ _ _ Oo Oo,tFm,qfk _ _ _ _ _ Oo,q6 _ _ _ _ Oo,q6 _ _ _ _ Oo,q6 _ _ _ _ Oo,tFk,tFk,q6 _ _ _ _ e]
  by_cases h:x%8=0∨x/8<k
  ·rw [if_pos h,if_pos Oo]
  ·rw [if_neg h,if_neg Oo]
theorem q4t:fnA 32 (tFn true true A c l V k)=fnA 32 (tFk A c l (updF V k (.pointer none)) (k+1)):=qda fun x _=>by
 rw [← qt4]
 by_cases e:x=8*k+7
 ·subst e;rw [qaz,qo4 _ _ _ _ _ _ _ _ Oo Oo,tFm,qfk _ _ _ _ _ Oo,q6 _ _ _ _ Oo,q6 _ _ _ _ Oo,q6 _ _ _ _ Oo,tFk,if_neg Oo,tF0,if_neg Oo,if_neg Oo]
 ·rw [q6 _ _ _ _ e]
end
theorem up {k:Nat} {p:Nat→Prop} (h:∀ j,j<k→p j) (hk:p k):∀ j,j<k+1→p j:=fun j hj=>by
 rcases Nat.lt_succ_iff_lt_or_eq.1 hj with h1|rfl
 ·exact h j h1
 ·exact hk
theorem qt7 {l:LB} {k:Nat} (h:(tvF l k).2=0):tvAt l k<l.length∧tw l k≤23∧tvAt l (k+1)≤l.length:=by
 rw [tvF] at h
 split at h
 ·cases h
 split at h
 ·cases h
 split at h
 ·cases h
 ·omega
theorem q6r {l:LB} {k:Nat} (h:(tcF l k).2=0):vNum l k≤1048576:=by
 rw [tcF] at h
 split at h
 ·rename_i h0;exact absurd h h0
 ·rename_i h0
  unfold numE at h0
  split at h0
  ·rename_i h1;exact absurd h1 h0
  ·split at h0
   ·exact absurd Js h0
   ·omega
theorem q41 {l:LB} {k:Nat} (h:(tcF l k).2=0) (hk:0<k):vNum l (k-1)≤vNum l k:=by
 rw [tcF] at h
 split at h
 ·rename_i h0;exact absurd h h0
 ·split at h
  ·cases h
  ·omega
theorem qg3 {w0 w:World} {L:List (Nat × Obj)} {b off:Nat} {F:Nat→Value} {v:Value} {K:Value→Prop} (k c:Nat) (h:Mem w0 w ((b,.cells (fnA 32 F) 247)::L)) (hv:F (8*k+c)=v) (hk:K v) (e:off=8*k+c:=by rw [lvSz];dsimp only;omega) (hj:8*k+c<32:=by omega):LoadV w b off K:=
 .fn h (i:=0) rfl _ e hj hv hk
theorem qqf {w0 w:World} {L:List (Nat × Obj)} {b off:Nat} {F:Nat→Value} {v:Value} {K:World→Prop} (k c:Nat) (h:Mem w0 w ((b,.cells (fnA 32 F) 247)::L)) (hk:∀ w',Mem w0 w' ((b,.cells (fnA 32 (updF F (8*k+c) v)) 247)::L)→K w') (e:off=8*k+c:=by rw [lvSz];dsimp only;omega) (hj:8*k+c<32:=by omega) (h1:qb6 v=true:=by rfl):StoreV w b off v K:=
 .fn h (i:=0) rfl _ e hj h1 hk
theorem qadu {l:LB} (h:(tE l).2=0):(∀ k,k<4→(tcF l k).2=0)∧(∀ k,k<4→(tvF l k).2=0)∧tvAt l 4=l.length:=by
 have h1:(errF (tcF l) 4).2=0:=by grind [tE]
 have h2:(errF (tvF l) 4).2=0:=by grind [tE]
 have h3:=qb8 h2;have:=(qt7 (h3 3 Oo)).2.2;exact ⟨qb8 h1,h3,by grind [tE]⟩
theorem q46 (l:LB) (A:oA) (c:Nat) (w:World) (hS:SlAt encB 1 w A l) (hc:l.length≤c) (hl:l.length≤140737488355328) (hE:(tE l).2=0) (hV:∀ k,0<k→k<4→tVec l k=true) :
  Gv Tryz.prog 96 [.slice A l.length c] w fun v w'=>(∃ b,v=.tuple #[pp b,.nilIface]∧w.heap.size≤b∧TreeAt w' b l)∧Ext w w':=by
 obtain ⟨hz,hv,hln⟩:=qadu hE;have hv0:BS w (.slice A l.length c) l:=⟨A,c,rfl,hc,hS⟩
 refine ze Tryz.func96 Tryz.ntmps96 ?_;refine znm (Mem.nil w) ?_;intro tb w1 hm;have hm:Mem w w1 [(tb,.cells (fnA 32 tF0) 247)]:=hm;(conv=>whnf);refine zcv (qdr _ l w1 (hv0.ext hm.ext)) ?_;rintro v w2 ⟨cb,rfl,hcb,hco,he2⟩;have hm:Mem w w2 [(cb,curO 367 (.slice A l.length c) 0 0),(tb,.cells (fnA 32 tF0) 247)]:=hm.fresh he2 hcb hco;(conv=>whnf);refine zcv (qwe l _ tb cb tF0 w w2 hm hv0 hl hz) ?_;rintro v w3 ⟨rfl,F1,hF1,hF1b,hm⟩;refine zu ?_;refine zcv (qis cb _ (vAt l 4) 0 w3 (hm.get mh)) ?_;rintro v w4 ⟨rfl,rfl⟩;replace hm:=hm.sub (List.sublist_cons_self ..);rw [show fnA 32 F1=fnA 32 (tFk A c l (fun _=>.pointer none) 0) from qda fun x hx=>by
  by_cases e:x%8=0
  ·rw [tFk,if_pos (.inl e),e,show x=8*(x/8) by omega,hF1 _ Oo,show 8*(x/8)/8=x/8 by omega];rfl
  ·rw [tFk,if_neg Oo,hF1b _ e]] at hm
 clear hF1 hF1b;rw [show vAt l 4=tvAt l 0 from rfl];(conv=>whnf);refine qm (fun x:Nat × (Nat→Value) × List (Nat × Obj)=>[(0,.slice A l.length c),(2,.pointer none),(3,.nilIface),(4,pp tb),(7,ii (tvAt l x.1)),(24,ii x.1)])
  (fun x w'=>x.1≤4∧(∀ j,j<x.1→VecM x.2.2 (x.2.1 j) (tSV A c l j) l j)∧Mem w w' ((tb,.cells (fnA 32 (tFk A c l x.2.1 x.1)) 247)::x.2.2)) (fun x=>4-x.1) (0,fun _=>.pointer none,[])
  ⟨rfl,rfl,rfl,rfl,rfl,rfl,trivial⟩ ⟨by simp,fun j h=>by simp at h,hm⟩ ?_
 clear hm hco;rintro ⟨k,F,L⟩ w5 ρ' ⟨k1,hL,hm⟩;dsimp only at k1 hL hm ⊢;have hn:=fun j hj=>q6r (hz j hj)
 have hvk:=fun h:k<4=>qt7 (hv k h)
 have hp4:4≤k→tvAt l k=l.length:=fun h=>by rw [show k=4 by omega,hln]
 (conv=>whnf);refine zC (fun _=>zu ?_) (fun _=>zu ?_)
 ·refine ElemV.bs (hS.ext hm.ext) rfl (tvAt l k) rfl Oo ?_;intro eb eo hc1;have hlt:tvAt l k<l.length:=by omega
  have hw:l[tvAt l k].toNat=tw l k:=by rw [tw,List.getD_eq_getElem?_getD,zge hlt];rfl
  have hwb:tw l k<256:=by rw [← hw];exact q9 _
  rw [hw] at hc1;(conv=>whnf);refine LoadV.of hc1 (zu ?_);refine qqf k 2 hm fun w6 hm=>?_;(conv=>whnf);refine qqf k 1 hm fun w7 hm=>?_;(conv=>whnf);refine qg3 k 1 hm (qaz _ _ _) (zu ?_);have hw23:tw l k≤23:=by omega
  have hnk:=hn k Oo;have hmul:vNum l k*tw l k≤1048576*23:=Nat.mul_le_mul hnk hw23;obtain ⟨f,ef⟩:∃ f,f=vNum l k*tw l k:=⟨_,rfl⟩
  have efi:((vNum l k:Nat):Int)*((tw l k:Nat):Int)=(f:Int):=by rw [ef,Int.natCast_mul]
  rw [← ef] at hmul;have hte0:tEnd l k=tvAt l k+1+(f+7)/8:=by rw [ef];rfl
  have hte:(((tvAt l k:Nat):Int)+1+(((vNum l k:Nat):Int)*((tw l k:Nat):Int)+7)/8)=((tEnd l k:Nat):Int):=by omega
  refine qqf k 3 hm fun w8 hm=>?_;(conv=>whnf);refine DrawV.inv (fun S w'=>Mem w w' ((tb,.cells (fnA 32 (tFm (S 19) A c l F k)) 247)::L)) rfl Jk hm.drew ?_;clear hm;(conv=>whnf);(iterate 4 (refine zi ?_));refine StepI.of (ii ((tvAt l k:Int)+1)) (fun S wd hk hp hI=>zw ?_) (zw ?_)
  ·refine qg3 k 3 hI (qacz ..) (zw ?_);exact ⟨rfl,hI⟩
  (iterate 3 (refine zi ?_));refine StepI.of (ii (vNum l k)) (fun S wd hk hp hI=>zw ?_) (zw ?_)
  ·refine qg3 k 0 hI (q4u ..) (zw ?_);exact ⟨rfl,hI⟩
  (iterate 3 (refine zi ?_));refine StepI.of (ii (tw l k)) (fun S wd hk hp hI=>zw ?_) (zw ?_)
  ·refine qg3 k 1 hI (qadv ..) (zw ?_);exact ⟨rfl,hI⟩
  (iterate 6 (refine zi ?_));refine StepI.of undef (fun S wd hk hp hI=>?_) (zw ?_)
  ·dsimp only at hI;rw [hk] at hI;(conv=>whnf);rw [hte];refine qqf k 4 hI fun wx hx=>?_;(conv=>whnf);exact ⟨rfl,hx⟩
  intro w10 hm;dsimp only at hm;(conv=>whnf);refine qg3 k 4 hm (qaz _ _ _) ?_;have hnx:=qgh l k;refine if hk0:k=0 then ?pp else ?pn
  case' pp=>
   rw [if_pos hk0] at hnx;refine zu ?_
  case' pn=>
   rw [if_neg hk0] at hnx;refine zu ?_;have hmo:=q41 (hz k Oo) Oo;have hnk1:=hn (k-1) Oo;have hvl:=qrp (vNum l k) (vNum l (k-1)) Oo hmo;refine DrawV.free Jk Jk (zw ?_);(iterate 4 (refine zd ?_));apply zsd
   ·intro wd hd;(conv=>whnf);refine qg3 k 0 (Mem.call (Mem.drew hm) hd) (q4u ..) (zw ?_);exact ⟨xr,rfl⟩
   (conv=>whnf);(iterate 5 (refine zd ?_));apply zsd
   ·intro wd hd;(conv=>whnf);refine IdxV.at_ (k-1) Oo Oo (zw ?_);exact ⟨xr,rfl⟩
   (conv=>whnf);refine zd ?_;apply zsd
   ·intro wd hd;(conv=>whnf);refine qg3 (k-1) 0 (Mem.call (Mem.drew hm) hd) (q4u ..) (zw ?_);exact ⟨xr,rfl⟩
   (conv=>whnf);apply zsd
   ·intro wd hd;(conv=>whnf);refine zcv (q0o (vNum l k) (vNum l (k-1)) wd Oo hmo) ?_;rintro v w9 ⟨rfl,h9⟩;exact ⟨h9,rfl⟩
   (conv=>whnf);refine zd ?_;refine zd ?_;intro w10 he11
   (repeat (intro _ _;(conv=>whnf)))
   (conv=>whnf);replace hm:=hm.drew.call he11;clear he11;rw [show (((tEnd l k:Nat):Int)+((qba (vNum l k) (vNum l (k-1)):Nat):Int))=((tvAt l (k+1):Nat):Int) by omega];refine zv ?_
  all_goals
   have hte3:tvAt l k+1≤tEnd l k:=by omega
   have hte4:tEnd l k≤tvAt l (k+1):=by omega
   refine DrawV.inv (fun S w'=>Mem w w' ((tb,.cells (fnA 32 (tFn (S 21) (S 24) A c l F k)) 247)::L)) rfl Jk hm.drew ?_;clear hm;(conv=>whnf);(iterate 6 (refine zi ?_));refine StepI.of (ii ((tvAt l k:Int)+1)) (fun S wd hk hp hI=>zw ?_) (zw ?_)
   ·refine qg3 k 3 hI (qadw ..) (zw ?_);exact ⟨rfl,hI⟩
   (iterate 3 (refine zi ?_));refine StepI.of (ii (tEnd l k)) (fun S wd hk hp hI=>zw ?_) (zw ?_)
   ·refine qg3 k 4 hI (qac0 ..) (zw ?_);exact ⟨rfl,hI⟩
   refine StepI.of (tPV A c l k) (fun S wd hk hp hI=>zw ?_) (zw ?_)
   ·refine SliceV.to (tvAt l k+1) (tEnd l k) c (by show (_:Int)=_;omega) rfl rfl Oo Oo znr (fun h=>by cases h) (zw ?_);exact ⟨rfl,hI⟩
   (iterate 4 (refine zi ?_));refine StepI.of (ii (tEnd l k)) (fun S wd hk hp hI=>zw ?_) (zw ?_)
   ·refine qg3 k 4 hI (qac0 ..) (zw ?_);exact ⟨rfl,hI⟩
   refine zi ?_;refine StepI.of (tSV A c l k) (fun S wd hk hp hI=>zw ?_) (zw ?_)
   ·refine SliceV.to (tEnd l k) (tvAt l (k+1)) c rfl (by show (_:Int)=_;omega) rfl Oo Oo znr (fun h=>by cases h) (zw ?_);exact ⟨rfl,hI⟩
   refine zi ?_;refine zi ?_;refine StepI.of undef (fun S wd hk hp hI=>?_) (zw ?_)
   ·dsimp only at hI;rw [hk] at hI;(conv=>whnf);show StoreV _ _ _ (tPV A c l k) _;refine qqf k 5 hI fun wx hx=>?_;rw [qadx] at hx;(conv=>whnf);exact ⟨rfl,hx⟩
   refine zi ?_;refine zi ?_;refine StepI.of undef (fun S wd hk hp hI=>?_) (zw ?_)
   ·dsimp only at hI;rw [hk] at hI;(conv=>whnf);refine qqf k 6 hI fun wx hx=>?_;(conv=>whnf);exact ⟨rfl,hx⟩
   intro w13 hm;dsimp only at hm;refine zu ?_
  case' pp=>have nv:k=0∨tVec l k=false:=.inl hk0
  case' pn=>
   have lenB:(qe l k).length=tvAt l (k+1)-tEnd l k:=by rw [qe,List.length_take,zld];omega
   have hSB:SlAt encB 1 w (if c=tEnd l k then A else A.map (·.add (tEnd l k*1))) (qe l k):=hS.cut (m:=c) Oo Oo Oo rfl;refine qg3 k 6 (v:=tSV A c l k) hm (qaz _ _ _) (zw ?_);have htv:=hV k Oo Oo;have ht2:=htv;simp only [tVec,Bool.and_eq_true,decide_eq_true_eq] at ht2;obtain ⟨⟨h1,e1⟩,e2⟩:=ht2;have hvv:=q5p (qe l k) _ (c-tEnd l k) w13 (hSB.ext hm.ext) (by rw [lenB];omega) (by rw [lenB];omega) h1;rw [lenB] at hvv;refine zcv (hvv) ?_;rintro r w14 ⟨⟨vb,rfl,hvb,hvo⟩,he14⟩;replace hm:Mem w w14 ((tb,.cells (fnA 32 (tFn true true A c l F k)) 247)::(vb,vecO 381 (tSV A c l k) (vN (qe l k)) (vM (qe l k)))::L):=(hm.fresh he14 hvb hvo).perm (List.Perm.swap ..);(conv=>whnf);refine zy ?_;replace hm:=hm.drew;refine zv ?_;refine ⟨ii (vN (qe l k)),q5l _ _ _ _ _ (hm.get (zmc mh)),?_⟩;refine zu ?_;refine qg3 k 0 hm (q98 ..) (zu ?_);refine ⟨ii (vM (qe l k)),q1u _ _ _ _ _ (hm.get (zmc mh)),?_⟩;refine zu ?_;refine IdxV.at_ (k-1) Oo Oo (zu ?_);refine qg3 (k-1) 0 hm (q98 ..) (zu ?_);refine qqf k 7 (v:=pp vb) hm fun w15 hm=>?_
   rw [e1,e2,qda fun x _=>qt4 A c l F k _ x] at hm;refine zu ?_;exact ⟨(k+1,updF F k _,_::L),⟨rfl,rfl,rfl,rfl,by show _=ii ((tvAt l (k+1):Nat):Int);exact congrArg (Value.int .i64) Oo,rfl,trivial⟩,⟨by simp only;omega,up (fun j hj=>by dsimp only;rw [q6 _ _ _ _ Oo];exact (hL j hj).more) (by dsimp only;rw [qaz];exact .inr ⟨by omega,htv,vb,rfl,List.mem_cons_self ..⟩),hm⟩,by simp only;omega⟩
  all_goals
   rw [q4t] at hm;exact ⟨(k+1,updF F k (.pointer none),L),⟨rfl,rfl,rfl,rfl,by show _=ii ((tvAt l (k+1):Nat):Int);exact congrArg (Value.int .i64) Oo,rfl,trivial⟩,⟨by simp only;omega,up (fun j hj=>by dsimp only;rw [q6 _ _ _ _ Oo];exact hL j hj) (by dsimp only;rw [qaz];exact .inl ⟨nv,rfl⟩),hm⟩,by simp only;omega⟩
 ·obtain rfl:k=4:=by omega
  obtain ⟨o1,o2⟩:=hm.own _ mh;refine ⟨⟨tb,rfl,o1,⟨fun j hj=>?_,fun j hj=>q6r (hz j hj),fun j hj=>(qt7 (hv j hj)).2.1⟩⟩,hm.ext⟩;obtain ⟨z1,z2,z3⟩:=qt7 (hv j hj);have t1:tvAt l j+1≤tEnd l j:=by show _≤tvAt l j+1+_;omega
  have t2:tEnd l j≤tvAt l (j+1):=by rw [qgh];omega
  have lenP:(qg l j).length=tEnd l j-(tvAt l j+1):=by rw [qg,List.length_take,zld];omega
  have lenB:(qe l j).length=tvAt l (j+1)-tEnd l j:=by rw [qe,List.length_take,zld];omega
  have hSP:SlAt encB 1 w (if c=tvAt l j+1 then A else A.map (·.add ((tvAt l j+1)*1))) (qg l j):=hS.cut (m:=c) Oo Oo Oo rfl;have hSB:SlAt encB 1 w (if c=tEnd l j then A else A.map (·.add (tEnd l j*1))) (qe l j):=hS.cut (m:=c) Oo Oo Oo rfl;refine ⟨⟨_,c-(tvAt l j+1),_,c-tEnd l j,F j,?_,hSP.ext hm.ext,hSB.ext hm.ext,by rw [lenB];omega,?_⟩⟩
  ·intro i v hiv;have hi8:i<8:=(List.getElem?_eq_some_iff.1 hiv).1;rw [qa o2,qa7 32 _ _ Oo,tFk,if_pos (.inr Oo),show (8*j+i)/8=j by omega,show (8*j+i)%8=i by omega,← hiv,lenP,lenB]
   rcases i with _|_|_|_|_|_|_|_|i
   all_goals first|rfl|omega
  ·rw [lenB]
   rcases hL j hj with h|⟨h1,h2,vb,h3,h4⟩
   ·exact .inl h
   ·exact .inr ⟨h1,h2,vb,h3,hm.get (zmc h4)⟩
end Go.Proofs.YtccmcfpmknpccaaGreatDoor
