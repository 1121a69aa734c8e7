/- Lemmas and contracts of functions on the way to the law's card (part 9 of 10). -/
import Derived.Test.YtaiiejogocblgaaGreatDoorPO8
import Derived.Laws.CopyRow
import Derived.Laws.IdiomCopy
import Derived.Lib.LaidTab
import Derived.Test.YtaiiejogocblgaaGreatDoorRows
import Derived.Deep.DeepHandedRow
import Derived.ProofKit
import Derived.OpenShut
namespace Go.Proofs.YtaiiejogocblgaaGreatDoor
set_option maxHeartbeats 8000000
open Go.RowKit V
set_option maxRecDepth 100000
theorem qj2 (l:LB) (A:oA) (c:Nat) (w:World) (hS:SlAt encB 1 w A l) (hc:l.length≤c) (hl:l.length≤140737488355328) (hNib:CellsAt w 1 0 qju) (hG:ErrTyp w)
  (hM:MaxLenAt w) (hT:CellsAt w 6 0 qbr) (hK:qdr w) :
  Gv Tryz.prog 5 [.slice A l.length c] w fun v w'=>POpR l v w'∧Ext w w':=by
 refine gvW Jk Tryz.func5 rfl Tryz.ntmps5 rfl (zw ?_);refine znm (Mem.nil w) fun b2 w1 hm=>zw ?_;refine znm hm fun b3 w2 hm=>zw ?_;refine zcv (qtv l A c w2 (hS.ext hm.ext) hc hl (CellsAt.ext hNib hm.ext)) ?_;rintro v w3 ⟨⟨h0,ev,rfl,eb,rfl,hec⟩|⟨h0,A',B',rfl,hA,hB⟩,he3⟩
 ·have hpo:=qm6 h0;have hz:=h0;have hm0:=hm.call he3;have hne2:eb≠b2:=by
   intro e1;have h1:=hec 0 _ rfl;rw [e1,qd (hm0.get (zmg (i:=1) rfl))] at h1;cases h1
  have hne3:eb≠b3:=by
   intro e1;have h1:=hec 0 _ rfl;rw [e1,qd (hm0.get (zmg (i:=0) rfl))] at h1;cases h1
  (conv=>whnf);refine znm (Mem.nil w3) fun t4 w4 hm4=>zw ?_;refine StoreA.all hm4 (i:=0) rfl rfl (by simp [zF,Value.oneCell']) ?_;intro w5 hm5;have hec:=CellsAt.ext hec hm5.ext;have hm:=hm0.glue2 hm5;refine zu ?_;refine StoreV.row hm (i:=1) rfl Js rfl ?_;intro x1 hfr1 _ hm;have hec:=CellsAt.other hec hne2 hfr1;(conv=>whnf);refine StoreV.row hm (i:=0) rfl Js rfl ?_;intro x2 hfr2 _ hm;have hec:=CellsAt.other hec hne3 hfr2;(conv=>whnf);refine qa (R:=fun v w'=>POpR l v w'∧Ext w w') (zw ?_);refine zr hm 1 ?_;refine zr hm 0 ?_;exact ⟨.inl ⟨by rw [hpo];exact hz,_,rfl,eb,rfl,by rw [hpo];exact hec⟩,hm.ext⟩
 have hv4:=qhn h0;have ht5:=qjz h0;have hho:=qe2 h0;have hm0:=hm.call he3;have hw3:Ext w w3:=hm0.ext;clear hm;have hA:SlAt encB 1 w3 A' (ql l):=hA;have hB:SlAt encB 1 w3 B' (qg l):=hB;(conv=>whnf);refine znm (Mem.nil w3) fun t4 w4 hm=>zw ?_;refine StoreA.all hm (i:=0) rfl rfl (by simp [okF,Value.oneCell']) ?_;clear hm;intro w5 hm;obtain ⟨T4,eT4⟩:∃ T,T=(t4,Obj.cells (okF l A' B').toArray 60):=⟨_,rfl⟩
 have hm:Mem w3 w5 [T4]:=by rw [eT4];exact hm
 have hget4:∀ {w':World} {M:List (Nat × Obj)},Mem w3 w' (T4::M)→w'.heap[t4]?=some (.cells (okF l A' B').toArray 60):=fun h=>h.get (by rw [← eT4];exact List.mem_cons_self ..)
 refine zu ?_;refine LoadV.own (hget4 hm) rfl (zw ?_);refine LoadV.own (hget4 hm) rfl (zw ?_);refine qt5 (fun i:Nat=>[(0,.slice A l.length c),(2,pp b2),(3,pp b3),(4,pp t4),(33,.agg #[.slice A' (hN l 4) (hN l 4),.slice B' (hN l 5) (hN l 5)]),(34,ii i)])
  (fun i w'=>i≤2∧(0<i→pS1 l)∧(1<i→pS2 l)∧Mem w3 w' [T4]) (fun i=>2-i) 0 ⟨rfl,rfl,rfl,rfl,rfl,rfl,trivial⟩ ⟨by omega,fun h=>absurd h Oo,fun h=>absurd h Oo,hm⟩ ?_
 clear hm;rintro i w6 ρ' ⟨hi,hs1,hs2,hm⟩
 rcases (show i=0∨i=1∨i=2 by omega) with rfl|rfl|rfl
 ·refine zu ?_;refine ⟨.slice A' (hN l 4) (hN l 4),rfl,?_⟩;(conv=>whnf);refine DrawW.any Jk (.inl rfl) (AnyV.free Jk ?_);(conv=>whnf);refine zd ?_;refine zsd (.int .u32 (crcL (ql l)).toNat) (fun wd hd=>zw ?_) (zw ?_)
  ·refine zcv (qq7 (ql l) A' (hN l 4) (hN l 4) wd (hA.ext (hm.drew.call hd).ext) hv4 Oo (CellsAt.ext hNib (hw3.trans (hm.drew.call hd).ext))) ?_;rintro v wx ⟨rfl,rfl⟩;exact ⟨xr,rfl⟩
  (iterate 3 (refine zd ?_));refine zsd (.int .u32 (leN ((l.drop (28+hN l 4)).take 4))) (fun wd hd=>zw ?_) (zw ?_)
  ·refine LoadV.own (hget4 (hm.drew.call hd)) rfl (zw ?_);exact ⟨xr,rfl⟩
  refine zd ?_;intro w7 he7;replace hm:=hm.drew.call he7;clear he7;(conv=>whnf);refine Tst.dec (fun hne=>?_) (fun hne=>?_)
  ·have hp:¬ pS1 l:=fun h=>hne (qxu.1 h)
   have hpo:=qxy h0 hp;(conv=>whnf);refine LoadV.own (hget4 hm) rfl (zu ?_);refine ⟨ii (28+hN l 4:Nat),?_,?_⟩
   ·exact congrArg some (congrArg (Value.int .i64) Oo)
   (conv=>whnf);refine zcv (qfr (28+hN l 4) 30 w7) ?_;rintro v w8 ⟨eb,rfl,heb,hge,he8⟩;have hm:=(hm0.glue2 hm).fresh he8 heb hge;unfold errV;(conv=>whnf);refine StoreV.mem hm (i:=2) rfl Js rfl fun w9 hm=>zw ?_;refine StoreV.mem hm (i:=1) rfl Js rfl fun w10 hm=>zw ?_;refine qa (R:=fun v w'=>POpR l v w'∧Ext w w') (zw ?_);refine zr hm 2 ?_;refine zr hm 1 ?_;exact ⟨.inl ⟨by rw [hpo];show (30:Nat)≠0;decide,_,rfl,eb,rfl,by rw [hpo];exact CellsAt.mem hm (zmg (i:=0) rfl)⟩,hm.ext⟩
  ·have hp:pS1 l:=qxu.2 (Decidable.byContradiction hne);refine zu ?_;exact ⟨rfl,1,⟨rfl,rfl,rfl,rfl,rfl,rfl,trivial⟩,⟨by omega,fun _=>hp,fun _=>absurd ‹1<1› Oo,hm⟩,by omega⟩
 ·refine zu ?_;refine ⟨.slice B' (hN l 5) (hN l 5),rfl,?_⟩;(conv=>whnf);refine DrawW.any Jk (.inl rfl) (AnyV.free Jk ?_);(conv=>whnf);refine zd ?_;refine zsd (.int .u32 (crcL (qg l)).toNat) (fun wd hd=>zw ?_) (zw ?_)
  ·refine zcv (qq7 (qg l) B' (hN l 5) (hN l 5) wd (hB.ext (hm.drew.call hd).ext) ht5 Oo (CellsAt.ext hNib (hw3.trans (hm.drew.call hd).ext))) ?_;rintro v wx ⟨rfl,rfl⟩;exact ⟨xr,rfl⟩
  (iterate 3 (refine zd ?_));refine zsd (.int .u32 (leN ((l.drop (32+hN l 4+hN l 5)).take 4))) (fun wd hd=>zw ?_) (zw ?_)
  ·refine LoadV.own (hget4 (hm.drew.call hd)) rfl (zw ?_);exact ⟨xr,rfl⟩
  refine zd ?_;intro w7 he7;replace hm:=hm.drew.call he7;clear he7;(conv=>whnf);refine Tst.dec (fun hne=>?_) (fun hne=>?_)
  ·have hp:¬ pS2 l:=fun h=>hne (qxv.1 h)
   have hpo:=qxz h0 (hs1 Oo) hp;(conv=>whnf);refine LoadV.own (hget4 hm) rfl (zu ?_);refine ⟨ii (32+hN l 4+hN l 5:Nat),?_,?_⟩
   ·exact congrArg some (congrArg (Value.int .i64) Oo)
   (conv=>whnf);refine zcv (qfr (32+hN l 4+hN l 5) 30 w7) ?_;rintro v w8 ⟨eb,rfl,heb,hge,he8⟩;have hm:=(hm0.glue2 hm).fresh he8 heb hge;unfold errV;(conv=>whnf);refine StoreV.mem hm (i:=2) rfl Js rfl fun w9 hm=>zw ?_;refine StoreV.mem hm (i:=1) rfl Js rfl fun w10 hm=>zw ?_;refine qa (R:=fun v w'=>POpR l v w'∧Ext w w') (zw ?_);refine zr hm 2 ?_;refine zr hm 1 ?_;exact ⟨.inl ⟨by rw [hpo];show (30:Nat)≠0;decide,_,rfl,eb,rfl,by rw [hpo];exact CellsAt.mem hm (zmg (i:=0) rfl)⟩,hm.ext⟩
  ·have hp:pS2 l:=qxv.2 (Decidable.byContradiction hne);refine zu ?_;exact ⟨rfl,2,⟨rfl,rfl,rfl,rfl,rfl,rfl,trivial⟩,⟨by omega,fun _=>hs1 Oo,fun _=>hp,hm⟩,by omega⟩
 have hs1:=hs1 Oo;have hs2:=hs2 Oo;clear hi;refine zu ?_;refine LoadA.own (hget4 hm) rfl (zw ?_);have hwl:=q54 (ql l);have htl:=q5x (qg l);have hw6:Ext w w6:=hw3.trans hm.ext;refine zcv (qug l A' B' w6 (hG.ext hw6) 24 25 (vwE (ql l)) (toE (qg l)) Oo Oo (fun b w=>VocAt w b (ql l)) (fun b w=>TreeAt w b (qg l)) (fun b w w' h he=>h.ext he) (fun b w w' x fz h hx hw=>h.other hx Od Od (fun v hv c=>by simp only [List.mem_cons,List.not_mem_nil,or_false] at hv;subst hv;intro e;cases e) hw) (fun b w w' h he=>h.ext he) (fun b w w' x fz h hx hw=>h.other hx (fun k c e=>by cases e) hw) (fun w' hx=>?_) (fun w' hx=>?_)) ?_
 ·have:=qrl (ql l) A' (hN l 4) w' (hA.ext (hm.ext.trans hx)) Oo Oo (hG.ext (hw6.trans hx)) (hM.ext (hw6.trans hx)) (hT.ext (hw6.trans hx)) (CellsAt.ext hK (hw6.trans hx));rw [hv4] at this;exact this
 ·have:=qve (qg l) B' (hN l 5) w' (hB.ext (hm.ext.trans hx)) Oo Oo;rw [ht5] at this;refine this.mono fun v w'' ⟨h,he⟩=>⟨?_,he⟩
  rcases h with ⟨h0,e,h1,h2⟩|⟨h0,b,h1,_,h2⟩
  ·exact .inl ⟨h0,e,h1,h2⟩
  ·exact .inr ⟨h0,b,h1,h2⟩
 clear hwl htl;rintro v w7 ⟨⟨hz,e,rfl,eb,rfl,hec⟩|⟨hz,pb,vb,tb,rfl,hpb,hvt,htt⟩,he7⟩
 ·have hpo:=q45 h0 hs1 hs2 hz;have hm0:=(hm0.glue2 (hm.call he7))
  have hne2:eb≠b2:=by
   intro e1;have h1:=hec 0 _ rfl;rw [e1,qd (hm0.get (zmg (i:=1) rfl))] at h1;cases h1
  have hne3:eb≠b3:=by
   intro e1;have h1:=hec 0 _ rfl;rw [e1,qd (hm0.get (zmg (i:=0) rfl))] at h1;cases h1
  (conv=>whnf);refine znm (Mem.nil w7) fun t8 w8 hm8=>zw ?_;refine StoreV.mem hm8 (i:=0) rfl Js rfl ?_;intro w9 hm9;have hec:=CellsAt.ext hec hm9.ext;have hm:=hm0.glue2 hm9;refine zu ?_;refine StoreV.row hm (i:=1) rfl Js rfl ?_;intro x1 hfr1 _ hm;have hec:=CellsAt.other hec hne2 hfr1;(conv=>whnf);refine StoreV.row hm (i:=0) rfl Js rfl ?_;intro x2 hfr2 _ hm;have hec:=CellsAt.other hec hne3 hfr2;(conv=>whnf);refine qa (R:=fun v w'=>POpR l v w'∧Ext w w') (zw ?_);refine zr hm 1 ?_;refine zr hm 0 ?_;exact ⟨.inl ⟨by rw [hpo];exact hz,_,rfl,eb,rfl,by rw [hpo];exact hec⟩,hm.ext⟩
 obtain ⟨hv0,ht0⟩:=q6d hz;have hm6:=hm0.glue2 (hm.call he7);have hw7:Ext w w7:=hm6.ext;have hg4:=hget4 (hm.call he7);have htot:=hvt.tot (k:=3) Oo;have hvn:=htt.n 3 Oo;have hwd:=htt.wd;clear hm hm0;(conv=>whnf);refine znm (Mem.nil w7) fun t8 w8 hm=>zw ?_;refine StoreV.mem hm (i:=0) rfl Js rfl fun w9 hm=>zu ?_;refine DrawW.any Jk (.inl rfl) (AnyV.free Jk ?_);(conv=>whnf);have hpb9:=hm.ext.get hpb;refine zf ?_ (by intro wd hd;(conv=>whnf);refine LoadV.mem (Mem.call (Mem.drew hm) hd) (i:=0) rfl rfl ?_;(conv=>whnf);exact ⟨xr,rfl⟩);refine zd ?_;refine zd ?_;refine zf ?_ (by intro wd hd;(conv=>whnf);refine LoadV.own (Ext.get (Ext.trans (Ext.drew xr) hd) hpb9) rfl ?_;(conv=>whnf);exact ⟨xr,rfl⟩);refine zd ?_;refine zf ?_ (by intro wd hd;(conv=>whnf);refine LoadV.mem (Mem.call (Mem.drew hm) hd) (i:=0) rfl rfl ?_;(conv=>whnf);exact ⟨xr,rfl⟩);refine zd ?_;refine zd ?_;refine zf ?_ (by intro wd hd;(conv=>whnf);refine LoadV.own (Ext.get (Ext.trans (Ext.drew xr) hd) hpb9) rfl ?_;(conv=>whnf);exact ⟨xr,rfl⟩);(iterate 3 (refine zd ?_));intro w10 he10;replace hm:=hm.drew.call he10;clear he10 hpb9;(conv=>whnf);refine qt5 (fun i:Nat=>[(2,pp b2),(3,pp b3),(4,pp t4),(8,pp t8),(74,.agg #[.iface 47 (pp tb),.iface 45 (pp vb)]),(75,ii i)])
  (fun i w'=>i≤2∧(0<i→vNum (qg l) 3=hN l 2)∧(1<i→vTot (ql l) 3=hN l 3)∧Mem w7 w' [(t8,.cells #[pp pb] 24)]) (fun i=>2-i) 0 ⟨rfl,rfl,rfl,rfl,rfl,rfl,trivial⟩ ⟨by omega,fun h=>absurd h Oo,fun h=>absurd h Oo,hm⟩ ?_
 clear hm;rintro i w11 ρ' ⟨hi,hq1,hq2,hm⟩
 rcases (show i=0∨i=1∨i=2 by omega) with rfl|rfl|rfl
 ·refine zu ?_;refine ⟨.iface 47 (pp tb),rfl,?_⟩;(conv=>whnf);refine LoadV.own (hm.ext.get hg4) rfl (zw ?_);refine LoadV.own (hm.ext.get hg4) rfl (zu ?_);refine ⟨ii (hN l 2:Nat),rfl,?_⟩;(conv=>whnf);refine q0j tb (qg l) w11 (htt.ext hm.ext) ?_;obtain ⟨y,ey⟩:∃ y,y=vNum (qg l) 3:=⟨_,rfl⟩
  rw [← ey];(conv=>whnf);refine Tst.dec (fun hne=>?_) (fun hne=>?_)
  ·have hp:¬ vNum (qg l) 3=hN l 2:=fun h=>hne (by rw [ey,h])
   have hpo:=q3v h0 hs1 hs2 hv0 ht0 hp;refine zu ?_;refine ⟨ii 180,rfl,?_⟩;(conv=>whnf);refine zcv (qfr (8) 180 w11) ?_;rintro v x1 ⟨eb,rfl,heb,hge,he1⟩;have hm:=(hm6.glue2 hm).fresh he1 heb hge;unfold errV;(conv=>whnf);refine StoreV.mem hm (i:=2) rfl Js rfl fun x2 hm=>zw ?_;refine StoreV.mem hm (i:=1) rfl Js rfl fun x3 hm=>zw ?_;refine qa (R:=fun v w'=>POpR l v w'∧Ext w w') (zw ?_);refine zr hm 2 ?_;refine zr hm 1 ?_;exact ⟨.inl ⟨by rw [hpo];exact Nat.succ_ne_zero _,_,rfl,eb,rfl,by rw [hpo];exact CellsAt.mem hm (zmg (i:=0) rfl)⟩,hm.ext⟩
  ·have hp:y=hN l 2:=by
    have:=Decidable.byContradiction hne;omega
   refine zu ?_;exact ⟨rfl,1,⟨rfl,rfl,rfl,rfl,rfl,rfl,trivial⟩,⟨by omega,fun _=>hp,fun _=>absurd ‹1<1› Oo,hm⟩,by omega⟩
 ·refine zu ?_;refine ⟨.iface 45 (pp vb),rfl,?_⟩;(conv=>whnf);refine LoadV.own (hm.ext.get hg4) rfl (zw ?_);refine LoadV.own (hm.ext.get hg4) rfl (zu ?_);refine ⟨ii (hN l 3:Nat),rfl,?_⟩;(conv=>whnf);refine q0k vb (ql l) w11 (hvt.ext hm.ext) ?_;obtain ⟨y,ey⟩:∃ y,y=vTot (ql l) 3:=⟨_,rfl⟩
  rw [← ey];(conv=>whnf);refine Tst.dec (fun hne=>?_) (fun hne=>?_)
  ·have hp:¬ vTot (ql l) 3=hN l 3:=fun h=>hne (by rw [ey,h])
   have hpo:=q3u h0 hs1 hs2 hv0 ht0 (hq1 Oo) hp;refine zu ?_;refine ⟨ii 170,rfl,?_⟩;(conv=>whnf);refine zcv (qfr (12) 170 w11) ?_;rintro v x1 ⟨eb,rfl,heb,hge,he1⟩;have hm:=(hm6.glue2 hm).fresh he1 heb hge;unfold errV;(conv=>whnf);refine StoreV.mem hm (i:=2) rfl Js rfl fun x2 hm=>zw ?_;refine StoreV.mem hm (i:=1) rfl Js rfl fun x3 hm=>zw ?_;refine qa (R:=fun v w'=>POpR l v w'∧Ext w w') (zw ?_);refine zr hm 2 ?_;refine zr hm 1 ?_;exact ⟨.inl ⟨by rw [hpo];exact Nat.succ_ne_zero _,_,rfl,eb,rfl,by rw [hpo];exact CellsAt.mem hm (zmg (i:=0) rfl)⟩,hm.ext⟩
  ·have hp:y=hN l 3:=by
    have:=Decidable.byContradiction hne;omega
   refine zu ?_;exact ⟨rfl,2,⟨rfl,rfl,rfl,rfl,rfl,rfl,trivial⟩,⟨by omega,fun _=>hq1 Oo,fun _=>hp,hm⟩,by omega⟩
 have hq1:=hq1 Oo;have hq2:=hq2 Oo;clear hi;refine zu ?_;refine zr hm 0 ?_;refine LoadV.own (hm.ext.get hpb) rfl (zw ?_);refine zcv (qh1 vb (ql l) w11 (hvt.ext hm.ext)) ?_;rintro v w12 ⟨rfl,rfl⟩;obtain ⟨n,en⟩:∃ n,n=vTot (ql l) 3:=⟨_,rfl⟩
 rw [← en] at htot ⊢;refine zu ?_;refine ⟨n+1,n+1,by omega,by omega,Nat.le_refl _,show (n+1)*8≤140737488355328 by omega,by omega,?_⟩;intro ub w13 hub hw13;replace hm:=hm.new hub hw13;clear hub hw13;have hm:Mem w7 w13 [(ub,.cells (fnA (n+1) (fun _=>ii 0)) 3),(t8,.cells #[pp pb] 24)]:=by rw [← q1y];exact hm
 (conv=>whnf);refine znm hm fun t12 w14 hm=>zw ?_;refine StoreV.mem hm (i:=0) rfl Js rfl fun w15 hm=>zw ?_;refine zr hm 2 ?_;refine LoadV.own (hm.ext.get hpb) rfl (zw ?_);refine zcv (qph tb w15) ?_;rintro v w16 ⟨c1,c2,rfl,hmE⟩;replace hm:=hm.glue hmE;clear hmE;(conv=>whnf);obtain ⟨N,eN⟩:∃ N,N=vNum (qg l) 3:=⟨_,rfl⟩
 have hlen:((List.range (vNum (qg l) 3)).map (tRow (qg l))).length=N:=by simp [eN]
 have hok:∀ i,i<vNum (qg l) 3→tOk (qg l) i=true:=fun i hi=>qq8 (qre ht0) hi
 obtain ⟨L,hL⟩:∃ L:Nat→List (Nat × Obj),L=fun k=>[(c1,.cells #[ii 0] 3),(c2,.cells #[pp tb] 47),(t12,.cells #[.slice (some ⟨ub,0,none⟩) (n+1) (n+1)] 77),(ub,.cells (fnA (n+1) (usF (qg l) k 0)) 3),(t8,.cells #[pp pb] 24)]:=⟨_,rfl⟩
 have hm:Mem w7 w16 ([]++L 0):=by
  rw [hL];dsimp only;rw [q1o];exact hm
 have hin1:∀ k,(c1,Obj.cells #[ii 0] 3)∈L k:=fun k=>by rw [hL];exact zmg (i:=0) rfl
 have hin2:∀ k,(c2,Obj.cells #[pp tb] 47)∈L k:=fun k=>by rw [hL];exact zmg (i:=1) rfl
 refine q2e (Φ:=TreΦ tb (qg l) c1 c2) (lb:=[pp c1,pp c2]) (xs:=(List.range (vNum (qg l) 3)).map (tRow (qg l))) rfl Jk (qpi tb (qg l) c1 c2 hok).toC Od ?_
  (fun k X w'=>∃ _:Unit,(∀ i,i<k→qul l i)∧Mem w7 w' (X++L k))
  (fun c k X w'=>∃ eb:Nat,(c=.ret∧poE l=(32+hN l 4,180))∧Mem w w' (X++[(eb,.cells #[ii (32+hN l 4:Nat),.iface 67 (ii (180:Nat))] 100),(b3,.cells #[.iface 98 (pp eb)] 26),(b2,.cells #[.pointer none] 24)]))
  (fun k=>Carr.mem _ _) (fun c k=>Carr.mem _ _)
  (fun k X w' ⟨_,_,hm⟩=>⟨htt.ext hm.ext,by rw [qd (hm.get (List.mem_append_right _ (hin1 k)))];rfl,by rw [qd (hm.get (List.mem_append_right _ (hin2 k)))];rfl⟩) ⟨(),fun i h=>absurd h (Nat.not_lt_zero _),hm⟩ ?_ ?_ ?_
 ·intro x hx;obtain ⟨j,_,rfl⟩:=List.mem_map.1 hx;rfl
 ·clear hm;rintro l2 D ob ob' k x X w17 hx ⟨_,hfine,hmJ⟩;have hkN:k<N:=by
   have:=(List.getElem?_eq_some_iff.1 hx).1
   rwa [hlen] at this
  rw [List.getElem?_map,List.getElem?_range Oo,Option.map_some,Option.some.injEq] at hx;subst hx;(conv=>whnf);refine znm hmJ fun t14 w18 hm=>zw ?_;refine zS hm 0 fun w19 hm=>zw ?_;obtain ⟨T14,eT14⟩:∃ T,T=(t14,Obj.cells #[ii (tNum (qg l) k 0:Nat),ii (tNum (qg l) k 1:Nat),ii (tNum (qg l) k 2:Nat),ii (tNum (qg l) k 3:Nat)] 82):=⟨_,rfl⟩
  have hm:Mem w7 w19 (T14::(l2,ob)::((D,.deferred (some []))::X++L k)):=by rw [eT14];exact hm
  refine ⟨rfl,T14::(D,.deferred (some []))::X,⟨(),hfine,hm.perm (List.Perm.swap _ _ _)⟩,?_⟩;clear hm hmJ;rintro w20 ⟨_,_,hm⟩;obtain ⟨Z,eZ⟩:∃ Z,Z=(l2,ob')::(D,.deferred (some []))::X:=⟨_,rfl⟩
  have hm:Mem w7 w20 (T14::(L k++Z)):=by
   rw [eZ];exact hm.perm ((List.Perm.cons _ List.perm_append_comm).trans (List.Perm.swap _ _ _))
  rw [← eZ];rw [hL] at hm;dsimp only at hm;obtain ⟨UB,eUB⟩:∃ U,U=(ub,Obj.cells (fnA (n+1) (usF (qg l) k 0)) 3):=⟨_,rfl⟩
  rw [← eUB] at hm;have hqb:∀ j,j<4→tNum (qg l) k j≤16777216:=fun j hj=>by
   have h1:=qqj (qj (qg l) j) (tw (qg l) j) (tUp (qg l) k (3-j));have h2:2 ^ tw (qg l) j≤2 ^ 23:=Nat.pow_le_pow_right Od (hwd j hj);have h3:(2:Nat) ^ 23=8388608:=by decide
   unfold tNum;omega
  obtain ⟨u,ok,hqv,hcs⟩:∃ u ok,qdo (ql l) (tNum (qg l) k)=.tuple #[qa0 u,.bool ok]∧qk7 u∧((ok=true∧u=q4Of (ql l) (tNum (qg l) k)∧∀ j,j<4→qcq (ql l) (tNum (qg l) k j)≠none)∨(ok=false∧¬ ∀ j,j<4→qcq (ql l) (tNum (qg l) k j)≠none)):=by
   by_cases hall:∀ j,j<4→qcq (ql l) (tNum (qg l) k j)≠none
   ·exact ⟨_,true,by rw [qdo,if_pos hall],qx0 _ _,.inl ⟨rfl,rfl,hall⟩⟩
   ·refine ⟨zQ,false,by rw [qdo,if_neg hall],?_,.inr ⟨rfl,hall⟩⟩;intro k;unfold zQ Q4.at
    split<;>exact ⟨(show InR .i64 0 from ⟨by decide,by decide⟩),(show (0:Nat)≤1048576 by decide),(show (0:Nat)≤1048576 by decide),(show (0:Nat)≤1048576 by decide)⟩
  obtain ⟨hqo,hcs⟩:=hcs;(conv=>whnf);refine DrawW.any Jk (.inr Jk) (AnyV.gen (fun S vals w'=>Al w7 (T14::(c1,.cells #[ii 0] 3)::(c2,.cells #[pp tb] 47)::(t12,.cells #[.slice (some ⟨ub,0,none⟩) (n+1) (n+1)] 77)::UB::(t8,.cells #[pp pb] 24)::Z)
   (.cells (qae zQ).toArray 53) (.cells (qae u).toArray 53) (.cells #[] 0) (.cells #[] 0) (S 9) false (S 10) false (vals 9) undef w') Jk (fun vals=>Al.start hm.drew) ?_)
  clear hm;(conv=>whnf);refine StepG.of (pp pb) (fun S vals wd hk hp hI=>zw ?_) (zw ?_)
  ·refine zr hI.mem 5 ?_;exact ⟨rfl,hI⟩
  refine zg ?_;refine zg ?_;refine StepG.of (pp vb) (fun S vals wd hk hp hI=>zw ?_) (zw ?_)
  ·refine LoadV.own (hI.mem.ext.get hpb) rfl (zw ?_);exact ⟨rfl,hI⟩
  refine StepG.of (idsV (tNum (qg l) k)) (fun S vals wd hk hp hI=>zw ?_) (zw ?_)
  ·refine LoadA.own (hI.mem.get (by rw [← eT14];exact List.mem_cons_self ..)) rfl (zw ?_);exact ⟨rfl,hI⟩
  refine StepG.of (.tuple #[qa0 u,.bool ok]) (fun S vals wd hk hp hI=>zw ?_) (zw ?_)
  ·refine zcv (qkv vb (ql l) (tNum (qg l) k) wd (hvt.ext hI.mem.ext) hqb (hM.ext (hw7.trans hI.mem.ext)) (hT.ext (hw7.trans hI.mem.ext)) (CellsAt.ext hK (hw7.trans hI.mem.ext))) ?_;rintro v w5 ⟨rfl,he⟩;exact ⟨hqv,hI.call he⟩
  (iterate 3 (refine zg ?_));refine StepG.any (fun S vals wd hk hp hI=>?_) (zw ?_)
  ·dsimp only at hI;rw [hk] at hI;(conv=>whnf);refine ⟨fun x wx hb hw=>?_⟩;subst hb hw;(conv=>whnf);exact ⟨trivial,hI.new1⟩
  refine StepG.of undef (fun S vals wd hk hp hI=>?_) (zw ?_)
  ·dsimp only at hI;have h9:S 9=true:=hp 9 Od;rw [hk,h9] at hI;obtain ⟨nb,hv,M,hmM,hKx⟩:=hI.put1;rw [qm hv];(conv=>whnf);refine zS hmM 0 fun wx hmx=>zw ?_;exact ⟨rfl,by show Al _ _ _ _ _ _ (S 9) false true false _ _ _;rw [h9];exact hKx hmx rfl⟩
  refine zg ?_;intro vals w21 hI;obtain ⟨t15,hv1,hm⟩:=hI.done1;rw [qm hv1];clear hI;obtain ⟨T15,eT15⟩:∃ T,T=(t15,Obj.cells (qae u).toArray 53):=⟨_,rfl⟩
  have hm:Mem w7 w21 (T15::T14::(c1,.cells #[ii 0] 3)::(c2,.cells #[pp tb] 47)::(t12,.cells #[.slice (some ⟨ub,0,none⟩) (n+1) (n+1)] 77)::UB::(t8,.cells #[pp pb] 24)::Z):=by rw [eT15];exact hm
  have hget15:∀ {w':World} {M:List (Nat × Obj)},Mem w7 w' (T15::M)→w'.heap[t15]?=some (.cells (qae u).toArray 53):=fun h=>h.get (by rw [← eT15];exact List.mem_cons_self ..)
  have hget14:∀ {w':World} {M:List (Nat × Obj)},Mem w7 w' (T15::T14::M)→w'.heap[t14]?=some (.cells #[ii (tNum (qg l) k 0:Nat),ii (tNum (qg l) k 1:Nat),ii (tNum (qg l) k 2:Nat),ii (tNum (qg l) k 3:Nat)] 82):=fun h=>h.get (by rw [← eT14];exact zmc mh)
  have hbad:¬ qul l k→poE l=(32+hN l 4,180):=fun hf=>qqm h0 hs1 hs2 hv0 ht0 hq1 hq2 fun h=>hf (h k Oo)
  (conv=>whnf);have hcase:(ok=true∧u=q4Of (ql l) (tNum (qg l) k)∧qck u=0∧qul l k)∨¬ qul l k∧(ok=false∨(ok=true∧qck u≠0)):=by
   rcases hcs with ⟨rfl,rfl,hall⟩|⟨rfl,hall⟩
   ·by_cases hz:qck (q4Of (ql l) (tNum (qg l) k))=0
    ·exact .inl ⟨rfl,rfl,hz,hall,hz⟩
    ·exact .inr ⟨fun h=>hz h.2,.inr ⟨rfl,hz⟩⟩
   ·exact .inr ⟨fun h=>hall h.1,.inl rfl⟩
  rcases hcase with ⟨rfl,hu,hz,hf⟩|⟨hf,rfl|⟨rfl,hz⟩⟩
  ·refine zv ?_;refine LoadA.own (hget15 hm) rfl (zu ?_);refine zcv (qds u hqo w21 (hM.ext (hw7.trans hm.ext)) (hT.ext (hw7.trans hm.ext))) ?_;rintro v w22 ⟨rfl,he22⟩;replace hm:=hm.call he22;rw [hz];refine zu ?_;refine LoadA.own (hget14 hm) rfl (zw ?_);rw [eUB] at hm;have hnum:∀ j,j<4→tNum (qg l) k j<n+1:=fun j hj=>by
    have h1:=hf.1 j hj;refine Decidable.byContradiction fun h2=>h1 ?_
    unfold qcq;rw [if_neg Oo,if_pos Oo]
   refine qt5 (fun j:Nat=>[(12,pp t12),(133,.agg #[ii (tNum (qg l) k 0:Nat),ii (tNum (qg l) k 1:Nat),ii (tNum (qg l) k 2:Nat),ii (tNum (qg l) k 3:Nat)]),(134,ii j)])
    (fun j w'=>j≤4∧Mem w7 w' (T15::T14::(c1,.cells #[ii 0] 3)::(c2,.cells #[pp tb] 47)::(t12,.cells #[.slice (some ⟨ub,0,none⟩) (n+1) (n+1)] 77)::(ub,.cells (fnA (n+1) (usF (qg l) k j)) 3)::(t8,.cells #[pp pb] 24)::Z)) (fun j=>4-j) 0
    ⟨rfl,rfl,rfl,trivial⟩ ⟨by omega,hm⟩ ?_
   clear hm;rintro j w23 ρ' ⟨hj,hm⟩;(conv=>whnf);refine zC (fun _=>zu ?_) (fun _=>zu ?_)
   ·have hnj:=hnum j Oo;have hnext:=q1n (qg l) k j;have hul:=q2k (qg l) (tNum (qg l) k j) k;have hu4:=qy4 (tNum (qg l) k) (tNum (qg l) k j) j;have hgv:usF (qg l) k j (tNum (qg l) k j)=ii (usN (qg l) (tNum (qg l) k j) k+us4 (tNum (qg l) k) (tNum (qg l) k j) j:Nat):=rfl;have hag:(#[ii (tNum (qg l) k 0:Nat),ii (tNum (qg l) k 1:Nat),ii (tNum (qg l) k 2:Nat),ii (tNum (qg l) k 3:Nat)]:Array Value).toList[j]?=some (ii (tNum (qg l) k j:Nat)):=by
     rcases (show j=0∨j=1∨j=2∨j=3 by omega) with rfl|rfl|rfl|rfl<;>rfl
    obtain ⟨y,ey⟩:∃ y,y=usN (qg l) (tNum (qg l) k j) k+us4 (tNum (qg l) k) (tNum (qg l) k j) j:=⟨_,rfl⟩
    rw [← ey] at hnext hgv;have hy:y≤4194308:=by
     rw [ey];omega
    obtain ⟨x,ex⟩:∃ x,x=tNum (qg l) k j:=⟨_,rfl⟩
    rw [← ex] at hnext hgv hnj hag;clear ey hul hu4;refine ⟨ii (x:Nat),?_,?_⟩
    ·rw [show j*tsz Tryz.prog 3=j from by rw [show tsz Tryz.prog 3=1 from by kernel_rfl];omega];exact hag
    (conv=>whnf);refine zr hm 4 ?_;refine ElemV.own1 x rfl hnj (zw ?_);refine LoadV.fn (v:=ii (y:Nat)) hm (i:=5) rfl x rfl hnj hgv (zw ?_);refine Obl.mk ⟨by omega,by omega⟩ (zw ?_);refine ElemV.own1 x rfl hnj (zw ?_);refine StoreV.fn hm (i:=5) rfl x rfl hnj rfl ?_;clear hm;intro w24 hm;have hm:Mem w7 w24 (T15::T14::(c1,.cells #[ii 0] 3)::(c2,.cells #[pp tb] 47)::(t12,.cells #[.slice (some ⟨ub,0,none⟩) (n+1) (n+1)] 77)::(ub,.cells (fnA (n+1) (updF (usF (qg l) k j) x (ii ((y+1:Nat):Int)))) 3)::(t8,.cells #[pp pb] 24)::Z):=hm;rw [hnext] at hm;refine zu ?_;exact ⟨rfl,j+1,⟨rfl,rfl,rfl,trivial⟩,⟨by omega,hm⟩,by omega⟩
   ·obtain rfl:j=4:=by omega
    rw [q1m] at hm;refine ⟨(),fun i hi=>?_,?_⟩
    ·by_cases e:i=k
     ·rw [e];exact hf
     ·exact hfine i Oo
    ·have hm:=(hm.sub (.cons _ (.cons _ (List.Sublist.refl _))))
     rw [hL];exact hm.perm (List.perm_append_comm (l₁:=Z))
  ·refine zv ?_;have hpo:=hbad hf;refine LoadV.own (hm.ext.get hg4) rfl (zw ?_);refine zcv (qfr (32+hN l 4) 180 _) ?_;rintro v x1 ⟨eb,rfl,heb,hge,he1⟩;have hm:=(hm6.glue2 hm).fresh he1 heb hge;unfold errV;(conv=>whnf);refine StoreV.mem hm (i:=2) rfl Js rfl fun x2 hm=>zw ?_;refine StoreV.mem hm (i:=1) rfl Js rfl fun x3 hm=>zw ?_;refine ⟨eb,⟨rfl,hpo⟩,?_⟩;have hm:Mem w x3 ((eb,.cells #[ii (32+hN l 4:Nat),.iface 67 (ii (180:Nat))] 100)::(b3,.cells #[.iface 98 (pp eb)] 26)::(b2,.cells #[.pointer none] 24)::
    T4::T15::T14::(c1,.cells #[ii 0] 3)::(c2,.cells #[pp tb] 47)::(t12,.cells #[.slice (some ⟨ub,0,none⟩) (n+1) (n+1)] 77)::UB::(t8,.cells #[pp pb] 24)::Z):=hm
   have hm:=hm.sub (.cons_cons _ (.cons_cons _ (.cons_cons _ (.cons _ (.cons _ (.cons _ (.cons _ (.cons _ (.cons _ (.cons _ (.cons _ (List.Sublist.refl _))))))))))));exact hm.perm (List.perm_append_comm (l₁:=Z))
  ·refine zv ?_;refine LoadA.own (hget15 hm) rfl (zu ?_);refine zcv (qds u hqo w21 (hM.ext (hw7.trans hm.ext)) (hT.ext (hw7.trans hm.ext))) ?_;rintro v w22 ⟨rfl,he22⟩;replace hm:=hm.call he22;refine zu ?_;have hpo:=hbad hf;refine LoadV.own (hm.ext.get hg4) rfl (zw ?_);refine zcv (qfr (32+hN l 4) 180 _) ?_;rintro v x1 ⟨eb,rfl,heb,hge,he1⟩;have hm:=(hm6.glue2 hm).fresh he1 heb hge;unfold errV;(conv=>whnf);refine StoreV.mem hm (i:=2) rfl Js rfl fun x2 hm=>zw ?_;refine StoreV.mem hm (i:=1) rfl Js rfl fun x3 hm=>zw ?_;refine ⟨eb,⟨rfl,hpo⟩,?_⟩;have hm:Mem w x3 ((eb,.cells #[ii (32+hN l 4:Nat),.iface 67 (ii (180:Nat))] 100)::(b3,.cells #[.iface 98 (pp eb)] 26)::(b2,.cells #[.pointer none] 24)::
    T4::T15::T14::(c1,.cells #[ii 0] 3)::(c2,.cells #[pp tb] 47)::(t12,.cells #[.slice (some ⟨ub,0,none⟩) (n+1) (n+1)] 77)::UB::(t8,.cells #[pp pb] 24)::Z):=hm
   have hm:=hm.sub (.cons_cons _ (.cons_cons _ (.cons_cons _ (.cons _ (.cons _ (.cons _ (.cons _ (.cons _ (.cons _ (.cons _ (.cons _ (List.Sublist.refl _))))))))))));exact hm.perm (List.perm_append_comm (l₁:=Z))
 ·clear hm;rintro D w17 ⟨_,hfine,hm⟩;rw [hlen] at hfine hm;have hpf:qm2 l:=fun i hi=>hfine i Oo
  rw [hL] at hm;dsimp only at hm;obtain ⟨UB,eUB⟩:∃ U,U=(ub,Obj.cells (fnA (n+1) (usF (qg l) N 0)) 3):=⟨_,rfl⟩
  have hus:∀ id,usF (qg l) N 0 id=ii (usN (qg l) id N:Nat):=fun id=>by simp [usF,us4]
  (conv=>whnf);refine zr hm 3 ?_;refine SliceV.to 1 (n+1) (n+1) rfl rfl rfl Oo znr znr (fun h=>by cases h) ?_;obtain ⟨A2,eA2⟩:∃ A2,A2=(if n+1=1 then some (⟨ub,0,none⟩:Addr) else Option.map (fun x:Addr=>x.add (1*tsz Tryz.prog 3)) (some ⟨ub,0,none⟩)):=⟨_,rfl⟩
  rw [← eA2];(conv=>whnf);obtain ⟨V8,eV8⟩:∃ U,U=(t8,Obj.cells #[pp pb] 24):=⟨_,rfl⟩
  refine qt5 (fun i:Nat=>[(2,pp b2),(3,pp b3),(4,pp t4),(8,pp t8),(145,.slice A2 (n+1-1) (n+1-1)),(146,ii (n+1-1:Nat)),(147,ii i)])
   (fun i w'=>i≤n∧(∀ id,1≤id→id≤i→usN (qg l) id N≠0)∧Mem w7 w' ((D,.deferred (some []))::(c1,.cells #[ii 0] 3)::(c2,.cells #[pp tb] 47)::(t12,.cells #[.slice (some ⟨ub,0,none⟩) (n+1) (n+1)] 77)::(ub,.cells (fnA (n+1) (usF (qg l) N 0)) 3)::(t8,.cells #[pp pb] 24)::[])) (fun i=>n-i) 0
   ⟨rfl,rfl,rfl,rfl,rfl,rfl,rfl,trivial⟩ ⟨by omega,fun id h1 h2=>absurd h2 Oo,hm⟩ ?_
  clear hm;rintro i w18 ρ' ⟨hi,huse,hm⟩;obtain ⟨z,ez⟩:∃ z,z=usN (qg l) (i+1) N:=⟨_,rfl⟩
  have hgv:usF (qg l) N 0 (i+1)=ii (z:Nat):=by rw [hus,ez]
  (conv=>whnf);refine Tst.dec (fun hlt=>?_) (fun hlt=>?_)
  ·have hin:i<n:=by omega
   have eA3:A2=some ⟨ub,1,none⟩:=by
    rw [eA2,if_neg Oo,show tsz Tryz.prog 3=1 from by kernel_rfl];rfl
   rw [eA3];(conv=>whnf);refine ⟨⟨ub,1,i,rfl,rfl,by omega,?_⟩⟩;rw [show tsz Tryz.prog 3=1 from by kernel_rfl,Nat.mul_one];(conv=>whnf);refine LoadV.fn (v:=ii (z:Nat)) hm (i:=4) rfl (i+1) (Nat.add_comm _ _) Oo hgv (zw ?_);refine Tst.dec (fun h0z=>?_) (fun h0z=>?_)
   ·have hpo:poE l=(28,170):=qho h0 hs1 hs2 hv0 ht0 hq1 hq2 hpf fun h=>(qs9.1 h (i+1) Oo Oo) (by rw [← eN,← ez];omega)
    (conv=>whnf);refine LoadV.own (hm.ext.get hg4) rfl (zw ?_);refine zcv (qfr (28) 170 _) ?_;rintro v x1 ⟨eb,rfl,heb,hge,he1⟩;have hm:=(hm6.glue2 hm).fresh he1 heb hge;unfold errV;(conv=>whnf);refine StoreV.mem hm (i:=2) rfl Js rfl fun x2 hm=>zw ?_;refine StoreV.mem hm (i:=1) rfl Js rfl fun x3 hm=>zw ?_;refine LeaveV.marks (J:=fun X w'=>∃ _:Unit,True∧Mem w w' (X++[(eb,.cells #[ii (28:Nat),.iface 67 (ii (170:Nat))] 100),(b3,.cells #[.iface 98 (pp eb)] 26),(b2,.cells #[.pointer none] 24)])) (Carr.mem _ _) ?_ (D:=D) (Ds:=[]) ?_
    ·rintro w' ⟨_,_,hm⟩;refine qa (R:=fun v w'=>POpR l v w'∧Ext w w') (zw ?_);refine zr hm 2 ?_;refine zr hm 1 ?_;exact ⟨.inl ⟨by rw [hpo];exact Nat.succ_ne_zero _,_,rfl,eb,rfl,by rw [hpo];exact CellsAt.mem hm (zmg (i:=0) rfl)⟩,hm.ext⟩
    ·refine ⟨(),trivial,?_⟩;have hm:Mem w x3 ((eb,.cells #[ii (28:Nat),.iface 67 (ii (170:Nat))] 100)::(b3,.cells #[.iface 98 (pp eb)] 26)::(b2,.cells #[.pointer none] 24)::T4::(D,.deferred (some []))::
      ((c1,.cells #[ii 0] 3)::(c2,.cells #[pp tb] 47)::(t12,.cells #[.slice (some ⟨ub,0,none⟩) (n+1) (n+1)] 77)::(ub,.cells (fnA (n+1) (usF (qg l) N 0)) 3)::(t8,.cells #[pp pb] 24)::[])):=hm
     have hm:=hm.sub (.cons_cons _ (.cons_cons _ (.cons_cons _ (.cons _ (.cons_cons _ (List.nil_sublist _))))));exact hm.perm (List.perm_append_comm (l₁:=[(D,Obj.deferred (some []))]))
   ·refine zu ?_;refine ⟨rfl,i+1,⟨rfl,rfl,rfl,rfl,by rw [← eA3];rfl,rfl,rfl,trivial⟩,⟨by omega,fun id h1 h2=>?_,hm⟩,by omega⟩
    by_cases e:id=i+1
    ·rw [e,← ez];omega
    ·exact huse id h1 Oo
  ·obtain rfl:i=n:=by omega
   have hpu:qm3 l:=qs9.2 fun id h1 h2=>by rw [← eN];exact huse id h1 Oo
   have hpo:=qxx h0 hs1 hs2 hv0 ht0 hq1 hq2 hpf hpu;have hP:PackAt w18 pb l:=PackAt.ext ⟨vb,tb,hpb,hvt,htt⟩ hm.ext;(conv=>whnf);refine zR hm 5 ?_;replace hm:=hm6.glue2 hm;have ha2:=Alien.one (x:=b2) (hm.get (zmg (i:=1) rfl)) (fun _ _ e=>by cases e) Od;(conv=>whnf);refine StoreV.row hm (i:=1) rfl Js rfl ?_;intro w19 hfr7 _ hm7;replace hP:=hP.alien ha2 hfr7;have ha3:=Alien.one (x:=b3) (hm7.get (zmg (i:=0) rfl)) (fun _ _ e=>by cases e) Od;(conv=>whnf);refine StoreV.row hm7 (i:=0) rfl Js rfl ?_;intro w20 hfr8 _ hm8;replace hP:=hP.alien ha3 hfr8;have hm:Mem w w20 ((b3,.cells #[.nilIface] 26)::(b2,.cells #[pp pb] 24)::T4::(D,.deferred (some []))::
    ((c1,.cells #[ii 0] 3)::(c2,.cells #[pp tb] 47)::(t12,.cells #[.slice (some ⟨ub,0,none⟩) (i+1) (i+1)] 77)::(ub,.cells (fnA (i+1) (usF (qg l) N 0)) 3)::(t8,.cells #[pp pb] 24)::[])):=hm8
   have hm:=hm.sub (.cons_cons _ (.cons_cons _ (.cons _ (.cons_cons _ (List.nil_sublist _)))));have hm:Mem w w20 ([D].map qc3++[(b3,.cells #[.nilIface] 26),(b2,.cells #[pp pb] 24)]):=hm.perm (List.perm_append_comm (l₁:=[(D,Obj.deferred (some []))]));(conv=>whnf);refine qdy (Φ:=fun w'=>PackAt w' pb l) (fun w w' x ha hw h=>h.alien ha hw) ?_ [D] _ hm hP;intro w' hm hP;refine qa (R:=fun v w'=>POpR l v w'∧Ext w w') (zw ?_);refine zr hm 1 ?_;refine zr hm 0 ?_;exact ⟨.inr ⟨by rw [hpo],pb,rfl,hP⟩,hm.ext⟩
 ·clear hm;rintro D c k w17 hk ⟨eb,⟨rfl,hpo⟩,hm⟩;(conv=>whnf);refine LeaveV.marks (J:=fun X w'=>∃ _:Unit,True∧Mem w w' (X++[(eb,.cells #[ii (32+hN l 4:Nat),.iface 67 (ii (180:Nat))] 100),(b3,.cells #[.iface 98 (pp eb)] 26),(b2,.cells #[.pointer none] 24)])) (Carr.mem _ _) ?_ (D:=D) (Ds:=[]) ?_
  ·rintro w' ⟨_,_,hm⟩;refine qa (R:=fun v w'=>POpR l v w'∧Ext w w') (zw ?_);refine zr hm 2 ?_;refine zr hm 1 ?_;exact ⟨.inl ⟨by rw [hpo];exact Nat.succ_ne_zero _,_,rfl,eb,rfl,by rw [hpo];exact CellsAt.mem hm (zmg (i:=0) rfl)⟩,hm.ext⟩
  ·exact ⟨(),trivial,hm⟩
namespace V
theorem StoreV.rwM {w0 w:World} {v:Value} {e:TypeId} {size n:Nat} {xs:List Value} {L:List (Nat × Obj)} {i b off:Nat} {cs:Array Value} {t:TypeId} {x:Value} {K:World→Prop} (h:Rw w0 w v e size n xs L) (hi:L[i]?=some (b,.cells cs t)) (ho:off<cs.size) (h1:qcw x=true)
  (hk:∀ w',Rw w0 w' v e size n xs (L.set i (b,.cells (cs.setIfInBounds off x) t))→K w'):StoreV w b off x K:=
 StoreV.own (h.mem.get (zmg hi)) ho h1 fun w' hw=>hk w' (h.setCell hi hw)
end V
noncomputable def qOf (l:LB) (i:Nat):Q4:=q4Of (ql l) (tNum (qg l) i)
noncomputable def qRow (l:LB) (k:Nat):List Value:=(((List.range k).map (qOf l)).map qae).flatten
theorem qx1 (l:LB) (k:Nat):qRow l (k+1)=qRow l k++qae (qOf l k):=by simp [qRow,List.range_succ]
def DecR (l:LB) (w0:World) (v:Value) (w:World):Prop:=
 ((poE l).2≠0∧Ext w0 w∧∃ e,v=.tuple #[.slice none 0 0,e]∧ErrAt w e (poE l).1 (poE l).2)∨
 ((poE l).2=0∧∃ A c,v=.tuple #[.slice A (vNum (qg l) 3) c,.nilIface]∧Rw w0 w (.slice A (vNum (qg l) 3) c) 53 16 (vNum (qg l) 3) (qRow l (vNum (qg l) 3)) [])
theorem qlo (l:LB) (A:oA) (c:Nat) (w:World) (hS:SlAt encB 1 w A l) (hc:l.length≤c) (hl:l.length≤140737488355328) (hNib:CellsAt w 1 0 qju) (hG:ErrTyp w)
  (hM:MaxLenAt w) (hT:CellsAt w 6 0 qbr) (hK:qdr w) :
  Gv Tryz.prog 9 [.slice A l.length c] w fun v w'=>(((poE l).2=0∧v=.nilIface)∨((poE l).2≠0∧ErrAt w' v (poE l).1 (poE l).2))∧Ext w w':=by
 refine ze Tryz.func9 Tryz.ntmps9 ?_;refine zcv (qj2 l A c w hS hc hl hNib hG hM hT hK) ?_;rintro v w1 ⟨⟨h0,e,rfl,b,rfl,he⟩|⟨h0,b,rfl,_⟩,he1⟩
 ·(conv=>whnf);exact ⟨.inr ⟨h0,b,rfl,he⟩,he1⟩
 ·(conv=>whnf);exact ⟨.inl ⟨h0,rfl⟩,he1⟩
theorem qe0 (l:LB) (A:oA) (c:Nat) (w:World) (hS:SlAt encB 1 w A l) (hc:l.length≤c) (hl:l.length≤140737488355328) (hNib:CellsAt w 1 0 qju) (hG:ErrTyp w)
  (hM:MaxLenAt w) (hT:CellsAt w 6 0 qbr) (hK:qdr w) :
  Gv Tryz.prog 6 [.slice A l.length c] w fun v w'=>DecR l w v w':=by
 refine gvW Jk Tryz.func6 rfl Tryz.ntmps6 rfl (zw ?_);refine zcv (qj2 l A c w hS hc hl hNib hG hM hT hK) ?_;rintro v w1 ⟨⟨h0,e,rfl,eb,rfl,hec⟩|⟨h0,pb,rfl,hP⟩,he1⟩
 ·(conv=>whnf);refine znm (Mem.nil w1) fun t4 w2 hm=>zw ?_;refine StoreV.mem hm (i:=0) rfl Js rfl fun w3 hm=>zu ?_;exact .inl ⟨h0,he1.trans hm.ext,_,rfl,eb,rfl,CellsAt.ext hec hm.ext⟩
 obtain ⟨vb,tb,hpb,hvt,htt⟩:=id hP;obtain ⟨hh0,hs1,hs2,hv0,ht0,hq1,hq2,hpf,hpu⟩:=qm7 h0;have hvn:=htt.n 3 Oo;have hwd:=htt.wd;(conv=>whnf);refine znm (Mem.nil w1) fun t4 w2 hm=>zw ?_;refine StoreV.mem hm (i:=0) rfl Js rfl fun w3 hm=>zu ?_;refine znm hm fun t6 w4 hm=>zw ?_;refine zr hm 1 ?_;refine LoadV.own (hm.ext.get hpb) rfl (zw ?_);refine zcv (qph tb w4) ?_;rintro v w5 ⟨c1,c2,rfl,hmE⟩;replace hm:=hm.glue hmE;clear hmE;(conv=>whnf);obtain ⟨N,eN⟩:∃ N,N=vNum (qg l) 3:=⟨_,rfl⟩
 have hlen:((List.range (vNum (qg l) 3)).map (tRow (qg l))).length=N:=by simp [eN]
 have hok:∀ i,i<vNum (qg l) 3→tOk (qg l) i=true:=fun i hi=>qq8 (qre ht0) hi
 obtain ⟨L,hL⟩:∃ L:Value→List (Nat × Obj),L=fun s=>[(c1,.cells #[ii 0] 3),(c2,.cells #[pp tb] 47),(t6,.cells #[s] 29),(t4,.cells #[pp pb] 24)]:=⟨_,rfl⟩
 have hm:Mem w1 w5 ([]++L (.slice none 0 0)):=by rw [hL];exact hm
 have hin1:∀ s,(c1,Obj.cells #[ii 0] 3)∈L s:=fun s=>by rw [hL];exact zmg (i:=0) rfl
 have hin2:∀ s,(c2,Obj.cells #[pp tb] 47)∈L s:=fun s=>by rw [hL];exact zmg (i:=1) rfl
 refine q2e (Φ:=TreΦ tb (qg l) c1 c2) (lb:=[pp c1,pp c2]) (xs:=(List.range (vNum (qg l) 3)).map (tRow (qg l))) rfl Jk (qpi tb (qg l) c1 c2 hok).toC Od ?_
  (fun k X w'=>∃ s:oA × Nat,True∧Rw w1 w' (.slice s.1 k s.2) 53 16 k (qRow l k) (X++L (.slice s.1 k s.2)))
  (fun c k X w'=>∃ _:Unit,False∧Mem w1 w' (X++[]))
  (fun k=>Carr.rw _ (fun s:oA × Nat=>.slice s.1 k s.2) (fun _=>k) (fun _=>qRow l k) (fun s=>L (.slice s.1 k s.2))) (fun c k=>Carr.mem _ _)
  (fun k X w' ⟨s,_,hm⟩=>⟨htt.ext hm.mem.ext,by rw [qd (hm.mem.get (List.mem_append_right _ (hin1 _)))];rfl,by rw [qd (hm.mem.get (List.mem_append_right _ (hin2 _)))];rfl⟩) ⟨(none,0),trivial,Rw.nil hm⟩ ?_ ?_ ?_
 ·intro x hx;obtain ⟨j,_,rfl⟩:=List.mem_map.1 hx;rfl
 ·clear hm;rintro l2 D ob ob' k x X w17 hx ⟨⟨B,d⟩,_,hmJ⟩;dsimp only at hmJ;have hkN:k<N:=by
   have:=(List.getElem?_eq_some_iff.1 hx).1
   rwa [hlen] at this
  rw [List.getElem?_map,List.getElem?_range Oo,Option.map_some,Option.some.injEq] at hx;subst hx;have hf:=hpf k Oo;(conv=>whnf);refine NewV.rw hmJ fun t14 w18 hm=>zw ?_;refine StoreA.rwAll hm rfl (by simp [Value.oneCell']) fun w19 hm=>zw ?_;obtain ⟨T14,eT14⟩:∃ T,T=(t14,Obj.cells #[ii (tNum (qg l) k 0:Nat),ii (tNum (qg l) k 1:Nat),ii (tNum (qg l) k 2:Nat),ii (tNum (qg l) k 3:Nat)] 82):=⟨_,rfl⟩
  have hm:Rw w1 w19 (.slice B k d) 53 16 k (qRow l k) (T14::(l2,ob)::((D,.deferred (some []))::X++L (.slice B k d))):=by rw [eT14];exact hm
  refine ⟨rfl,T14::(D,.deferred (some []))::X,⟨(B,d),trivial,hm.permL (List.Perm.swap _ _ _)⟩,?_⟩;clear hm hmJ;rintro w20 ⟨⟨B,d⟩,_,hm⟩;dsimp only at hm;obtain ⟨Z,eZ⟩:∃ Z,Z=(l2,ob')::(D,.deferred (some []))::X:=⟨_,rfl⟩
  have hm:Rw w1 w20 (.slice B k d) 53 16 k (qRow l k) (T14::(L (.slice B k d)++Z)):=by
   rw [eZ];exact hm.permL ((List.Perm.cons _ List.perm_append_comm).trans (List.Perm.swap _ _ _))
  rw [← eZ];rw [hL] at hm;dsimp only at hm;have hg14:w20.heap[t14]?=some (.cells #[ii (tNum (qg l) k 0:Nat),ii (tNum (qg l) k 1:Nat),ii (tNum (qg l) k 2:Nat),ii (tNum (qg l) k 3:Nat)] 82):=hm.mem.get (by rw [← eT14];exact List.mem_cons_self ..);have hg4:w20.heap[t4]?=some (.cells #[pp pb] 24):=hm.mem.get (zmg (i:=4) rfl);have hw20:Ext w1 w20:=hm.mem.ext;have hqb:∀ j,j<4→tNum (qg l) k j≤16777216:=fun j hj=>by
   have h1:=qqj (qj (qg l) j) (tw (qg l) j) (tUp (qg l) k (3-j));have h2:2 ^ tw (qg l) j≤2 ^ 23:=Nat.pow_le_pow_right Od (hwd j hj);have h3:(2:Nat) ^ 23=8388608:=by decide
   unfold tNum;omega
  have hqv:qdo (ql l) (tNum (qg l) k)=.tuple #[qa0 (qOf l k),.bool true]:=by rw [qdo,if_pos hf.1];rfl
  obtain ⟨u,eu⟩:∃ u,u=qOf l k:=⟨_,rfl⟩
  rw [← eu] at hqv;(conv=>whnf);refine DrawW.any Jk (.inr Jk) (AnyV.gen (fun S vals w'=>Al w20 [] (.cells (qae zQ).toArray 53) (.cells (qae u).toArray 53) (.cells #[] 0) (.cells #[] 0) (S 9) false (S 10) false (vals 9) undef w') Jk (fun vals=>Al.start (Mem.nil w20).drew) ?_);(conv=>whnf);refine StepG.of (pp pb) (fun S vals wd hk hp hI=>zw ?_) (zw ?_)
  ·refine LoadV.own (hI.mem.ext.get hg4) rfl (zw ?_);exact ⟨rfl,hI⟩
  refine zg ?_;refine zg ?_;refine StepG.of (pp vb) (fun S vals wd hk hp hI=>zw ?_) (zw ?_)
  ·refine LoadV.own ((hw20.trans hI.mem.ext).get hpb) rfl (zw ?_);exact ⟨rfl,hI⟩
  refine StepG.of (idsV (tNum (qg l) k)) (fun S vals wd hk hp hI=>zw ?_) (zw ?_)
  ·refine LoadA.own (hI.mem.ext.get hg14) rfl (zw ?_);exact ⟨rfl,hI⟩
  refine StepG.of (.tuple #[qa0 u,.bool true]) (fun S vals wd hk hp hI=>zw ?_) (zw ?_)
  ·have hx:=he1.trans (hw20.trans hI.mem.ext);refine zcv (qkv vb (ql l) (tNum (qg l) k) wd (hvt.ext (hw20.trans hI.mem.ext)) hqb (hM.ext hx) (hT.ext hx) (CellsAt.ext hK hx)) ?_;rintro v w5 ⟨rfl,he⟩;exact ⟨hqv,hI.call he⟩
  (iterate 3 (refine zg ?_));refine StepG.any (fun S vals wd hk hp hI=>?_) (zw ?_)
  ·dsimp only at hI;rw [hk] at hI;(conv=>whnf);refine ⟨fun x wx hb hw=>?_⟩;subst hb hw;(conv=>whnf);exact ⟨trivial,hI.new1⟩
  refine StepG.of undef (fun S vals wd hk hp hI=>?_) (zw ?_)
  ·dsimp only at hI;have h9:S 9=true:=hp 9 Od;rw [hk,h9] at hI;obtain ⟨nb,hv,M,hmM,hKx⟩:=hI.put1;rw [qm hv];(conv=>whnf);refine zS hmM 0 fun wx hmx=>zw ?_;exact ⟨rfl,by show Al _ _ _ _ _ _ (S 9) false true false _ _ _;rw [h9];exact hKx hmx rfl⟩
  refine zg ?_;intro vals w21 hI;obtain ⟨t15,hv1,hmA⟩:=hI.done1;rw [qm hv1];clear hI;have hm:=hm.join hmA;clear hmA;have hm:Rw w1 w21 (.slice B k d) 53 16 k (qRow l k) ((t15,.cells (qae u).toArray 53)::T14::(c1,.cells #[ii 0] 3)::(c2,.cells #[pp tb] 47)::(t6,.cells #[.slice B k d] 29)::(t4,.cells #[pp pb] 24)::Z):=hm;(conv=>whnf);refine zr hm.mem 4 ?_;refine zl hm.mem 0 ?_;refine NewV.rw hm fun nb w22 hm=>zw ?_;refine AppV.rw (m:=1) (news:=qae u) qdSl qdI qdZ Jk Jk Od hm rfl (fun _=>⟨nb,0,rfl,fun k v hv=>?_⟩) (qcy _) (by rw [show ((Tryz.prog.info? 53).get Jk).bytes=224 from by kernel_rfl];omega) Oo ?_
  ·rw [qd (hm.mem.get mh),Nat.zero_add];rw [List.getElem?_toArray];exact hv
  clear hm;intro B2 d2 w23 hm;(conv=>whnf);refine StoreV.rwM hm (i:=5) rfl Js rfl ?_;clear hm;intro w24 hm;rw [eu,← qx1] at hm;(conv=>whnf);refine ⟨(B2,d2),trivial,?_⟩;have hm:Rw w1 w24 (.slice B2 (k+1) d2) 53 16 (k+1) (qRow l (k+1)) (_::_::_::((c1,.cells #[ii 0] 3)::(c2,.cells #[pp tb] 47)::(t6,.cells #[.slice B2 (k+1) d2] 29)::(t4,.cells #[pp pb] 24)::Z)):=hm;have hm:=hm.tail.tail.tail;rw [hL];exact hm.permL (List.perm_append_comm (l₁:=Z))
 ·clear hm;rintro D w17 ⟨⟨B,d⟩,_,hm⟩;dsimp only at hm;rw [hlen,hL] at hm;dsimp only at hm;(conv=>whnf);refine zr hm.mem 3 ?_;refine LeaveV.mark (hm.mem.get mh) fun w18 hw=>?_;have hm:=hm.setO (i:=0) _ rfl hw;(conv=>whnf);rw [← eN];refine .inr ⟨h0,B,d,rfl,?_⟩;exact ⟨⟨he1.trans hm.mem.ext,fun x hx=>(by cases hx),List.nodup_nil⟩,qgi hm.own he1.size,fun x hx=>(by cases hx)⟩
 ·rintro D c k w17 hk ⟨_,h,_⟩;exact h.elim
theorem qwq:Tryz.prog.underlying 36=some (.struct (Tryz.prog.fieldsOf 36)):=by kernel_rfl
theorem q1d:Tryz.prog.stoodInHeld 36=false:=by kernel_rfl
theorem qz8:Tryz.prog.eqGuardType Tryz.prog.depth 36=false:=by kernel_rfl
theorem qkb (d:Nat) (a e:Int) (w:World):(Op.equalIn (d+2) 36 (fltV a e) (fltV a e)).run Tryz.prog w=.ok true w:=by
 have u3:=Tryz.underlying3;have a3:=Tryz.isAgg3;have z3:=Tryz.sizeOf3;simp only [fltV];rw [run_equalIn_agg w (d+1) _ _ _ qwq q1d];simp only [Program.fieldsOf,Tryz.underlying36]
 go_simp
theorem qwr:Tryz.prog.underlying 33=some (.struct (Tryz.prog.fieldsOf 33)):=by kernel_rfl
theorem q1e:Tryz.prog.stoodInHeld 33=false:=by kernel_rfl
theorem qz9:Tryz.prog.eqGuardType Tryz.prog.depth 33=false:=by kernel_rfl
theorem qkc (d:Nat) (a b c e:Int) (w:World):(Op.equalIn (d+2) 33 (.agg #[ii a,ii b,ii c,ii e]) (.agg #[ii a,ii b,ii c,ii e])).run Tryz.prog w=.ok true w:=by
 have u3:=Tryz.underlying3;have a3:=Tryz.isAgg3;have z3:=Tryz.sizeOf3;rw [run_equalIn_agg w (d+1) _ _ _ qwr q1e];simp only [Program.fieldsOf,Tryz.underlying33]
 go_simp
theorem qz4:Tryz.prog.underlying 53=some (.struct (Tryz.prog.fieldsOf 53)):=by kernel_rfl
theorem q4f:Tryz.prog.stoodInHeld 53=false:=by kernel_rfl
theorem q3b:Tryz.prog.eqGuardType Tryz.prog.depth 53=false:=by kernel_rfl
def qdd (a b:Q4):Bool:=qbe a.s b.s&&(qbe a.p b.p&&(qbe a.o b.o&&qbe a.g b.g))
theorem qgp {a b:Q4}:qdd a b=true↔a=b:=by
 obtain ⟨a0,a1,a2,a3⟩:=a;obtain ⟨b0,b1,b2,b3⟩:=b;simp [qdd,qgq]
theorem qk5 (d:Nat) (a b:Q4) (w:World):(Op.equalIn (d+3) 53 (qa0 a) (qa0 b)).run Tryz.prog w=.ok (qdd a b) w:=by
 have a3:=Tryz.isAgg51;have z3:=Tryz.sizeOf51;simp only [qa0];rw [run_equalIn_agg w (d+2) _ _ _ qz4 q4f];simp only [Program.fieldsOf,Tryz.underlying53];have e1:=qa8 d a.s b.s w;have e2:=qa8 d a.p b.p w;have e3:=qa8 d a.o b.o w;have e4:=qa8 d a.g b.g w;simp only [qa4] at e1 e2 e3 e4;clear e1 e2 e3 e4
 go_simp
 have e:∀ x y:ByteArray,(x.toList=y.toList)=(seq x y=true):=fun x y=>by rw [← qk8,beq_iff_eq]
 simp only [e]
 by_cases h1:a.s.kind=b.s.kind
 rotate_left
 ·simp [qdd,qbe,h1]
 by_cases h2:seq a.s.text b.s.text=true
 rotate_left
 ·simp [qdd,qbe,h1,h2]
 by_cases h3:seq a.s.type b.s.type=true
 rotate_left
 ·simp [qdd,qbe,h1,h2,h3]
 by_cases h4:seq a.s.lang b.s.lang=true
 rotate_left
 ·simp [qdd,qbe,h1,h2,h3,h4]
 by_cases h5:a.p.kind=b.p.kind
 rotate_left
 ·simp [qdd,qbe,h1,h2,h3,h4,h5]
 by_cases h6:seq a.p.text b.p.text=true
 rotate_left
 ·simp [qdd,qbe,h1,h2,h3,h4,h5,h6]
 by_cases h7:seq a.p.type b.p.type=true
 rotate_left
 ·simp [qdd,qbe,h1,h2,h3,h4,h5,h6,h7]
 by_cases h8:seq a.p.lang b.p.lang=true
 rotate_left
 ·simp [qdd,qbe,h1,h2,h3,h4,h5,h6,h7,h8]
 by_cases h9:a.o.kind=b.o.kind
 rotate_left
 ·simp [qdd,qbe,h1,h2,h3,h4,h5,h6,h7,h8,h9]
 by_cases h10:seq a.o.text b.o.text=true
 rotate_left
 ·simp [qdd,qbe,h1,h2,h3,h4,h5,h6,h7,h8,h9,h10]
 by_cases h11:seq a.o.type b.o.type=true
 rotate_left
 ·simp [qdd,qbe,h1,h2,h3,h4,h5,h6,h7,h8,h9,h10,h11]
 by_cases h12:seq a.o.lang b.o.lang=true
 rotate_left
 ·simp [qdd,qbe,h1,h2,h3,h4,h5,h6,h7,h8,h9,h10,h11,h12]
 by_cases h13:a.g.kind=b.g.kind
 rotate_left
 ·simp [qdd,qbe,h1,h2,h3,h4,h5,h6,h7,h8,h9,h10,h11,h12,h13]
 by_cases h14:seq a.g.text b.g.text=true
 rotate_left
 ·simp [qdd,qbe,h1,h2,h3,h4,h5,h6,h7,h8,h9,h10,h11,h12,h13,h14]
 by_cases h15:seq a.g.type b.g.type=true
 rotate_left
 ·simp [qdd,qbe,h1,h2,h3,h4,h5,h6,h7,h8,h9,h10,h11,h12,h13,h14,h15]
 by_cases h16:seq a.g.lang b.g.lang=true
 rotate_left
 ·simp [qdd,qbe,h1,h2,h3,h4,h5,h6,h7,h8,h9,h10,h11,h12,h13,h14,h15,h16]
 simp [qdd,qbe,h1,h2,h3,h4,h5,h6,h7,h8,h9,h10,h11,h12,h13,h14,h15,h16]
namespace V
theorem RunV.neqFlt {xo yo:Operand} {a e:Int} {w:World} {K:Value→World→Prop} (h:K (.bool false) w) :
  RunV Tryz.prog (do eqGuard .neq 36 xo yo (fltV a e) (fltV a e);binOp .neq 36 (fltV a e) (fltV a e)) w K:=by
 refine ⟨_,w,?_,h⟩;rw [Sem.run_bind,fltV,run_eqGuard_agg w .neq _ xo yo _ _ qz8,Result.andThen_ok];have e:=qkb 9998 a e w;simp only [fltV] at e;rw [run_neq_struct,e];rfl
theorem RunV.neqInf {xo yo:Operand} {a b c e:Int} {w:World} {K:Value→World→Prop} (h:K (.bool false) w) :
  RunV Tryz.prog (do eqGuard .neq 33 xo yo (.agg #[ii a,ii b,ii c,ii e]) (.agg #[ii a,ii b,ii c,ii e]);binOp .neq 33 (.agg #[ii a,ii b,ii c,ii e]) (.agg #[ii a,ii b,ii c,ii e])) w K:=by
 refine ⟨_,w,?_,h⟩;rw [Sem.run_bind,run_eqGuard_agg w .neq _ xo yo _ _ qz9,Result.andThen_ok];have e:=qkc 9998 a b c e w;rw [run_neq_struct,e];rfl
theorem RunV.neqQd {xo yo:Operand} {a b:Q4} {w:World} {K:Value→World→Prop} (h:K (.bool (!qdd a b)) w) :
  RunV Tryz.prog (do eqGuard .neq 53 xo yo (qa0 a) (qa0 b);binOp .neq 53 (qa0 a) (qa0 b)) w K:=by
 refine ⟨_,w,?_,h⟩;rw [Sem.run_bind,qa0,qa0,run_eqGuard_agg w .neq _ xo yo _ _ q3b,Result.andThen_ok];have e:=qk5 9997 a b w;simp only [qa0] at e;rw [run_neq_struct,e];rfl
end V
theorem qcp (qs:List Q4) (A B:oA) (cA cB:Nat) (w:World) (hA:SlAt qae 16 w A qs) (hB:SlAt qae 16 w B qs) (hl:qs.length≤1152921504606846976) :
  Gv Tryz.prog 10 [.slice A qs.length cA,.slice B qs.length cB] w fun v w'=>v=.bool true∧Ext w w':=by
 refine ze Tryz.func10 Tryz.ntmps10 ?_;refine zv ?_;refine qr (fun i:Nat=>[(0,.slice A qs.length cA),(1,.slice B qs.length cB),(5,ii i)]) (fun i w'=>i≤qs.length∧Ext w w') (fun i=>qs.length-i) 0 ⟨rfl,rfl,rfl,trivial⟩ ⟨Nat.zero_le _,xr⟩ ?_;rintro i w1 ρ' ⟨hi,he⟩;(conv=>whnf);refine zC (fun _=>zw ?_) (fun _=>zw ?_)
 ·have hlt:i<qs.length:=by omega
  have hne:qs≠[]:=by intro e;rw [e] at hlt;simp at hlt
  obtain ⟨g1,o1,rfl,h1⟩:=(hA.ext (he.trans (Ext.refl w1).drew)).at_ hne;obtain ⟨g2,o2,rfl,h2⟩:=(hB.ext (he.trans (Ext.refl w1).drew)).at_ hne;have h1:=h1 i _ (zge hlt);have h2:=h2 i _ (zge hlt);refine zy ?_;refine zv ?_;refine ⟨⟨g1,o1,i,rfl,by omega,by omega,?_⟩⟩;rw [show tsz Tryz.prog 53=16 from by kernel_rfl];refine zu ?_;refine LoadA.cells h1 rfl (zu ?_);refine ⟨⟨g2,o2,i,rfl,by omega,by omega,?_⟩⟩;rw [show tsz Tryz.prog 53=16 from by kernel_rfl];refine zu ?_;refine LoadA.cells h2 rfl (zu ?_);refine RunV.neqQd (a:=qs[i]) (b:=qs[i]) ?_;rw [qgp.2 rfl];refine zu ?_;exact ⟨i+1,⟨rfl,rfl,congrArg (Value.int .i64) Oo,trivial⟩,⟨by omega,he.trans (Ext.refl w1).drew⟩,by omega⟩
 ·exact ⟨rfl,he⟩
namespace V
theorem AppV.rwG {P:Program} {w0 w:World} {v:Value} {size n:Nat} {xs:List Value} {L:List (Nat × Obj)} {t ty e:TypeId} {i:TypeInfo} {z:Value} {b off m c:Nat} {news:List Value} {K:Value→World→Prop} (ht:P.underlying t=some (.slice e)) (hi:P.info? e=some i) (hz:i.zero=some z)
  (hsize:i.size=size) (hzs:z.cells.size=size) (hsz:0<size) (h:Rw w0 w v e size n xs L) (hl:news.length=m*size)
  (hA:CellsAt w b off news) (h1:∀ u∈news,u.oneCell'=true) (hb:(n+m)*i.bytes≤140737488355328) (h63:n+m≤140737488355328)
  (hk:∀ A' c' w',Rw w0 w' (.slice A' (n+m) c') e size (n+m) (xs++news) L→(∀ k,k<w.heap.size→v.ownBlock≠some k→w'.heap[k]?=w.heap[k]?)→w.heap.size≤w'.heap.size→
   ((Value.slice A' (n+m) c').ownBlock=v.ownBlock∨(Value.slice A' (n+m) c').ownBlock=some w.heap.size)→K (.slice A' (n+m) c') w'):AppV P #[t,t] ty v (.slice (some ⟨b,off,none⟩) m c) w K:=by
 have hcells:∀ j u,news[j]?=some u→w.cell? ((⟨b,off,none⟩:Addr).add j)=some u:=by
  intro j u hu;rw [qai];exact hA j u hu
 obtain ⟨v',w',hrun,h2,h3,_,h5⟩:=run_append_own_at (P:=P) w w0.heap.size t ty e i z size i.bytes ht hi hz hsize rfl hzs hsz v n xs h.own ⟨b,off,none⟩ m c news hl hcells h1 (by simp only [maxLen];omega) hb h.mem.ext.size;have hR:Rw w0 w' v' e size (n+m) (xs++news) L:=by
  refine ⟨h.grown h3 (fun k hk=>⟨(h.own.lt k hk).1,fun x hx e=>h.apart x hx (by rw [hk,e])⟩),h2,fun x hx=>?_⟩
  rcases h5 with h5|h5<;>rw [h5]
  ·exact h.apart x hx
  ·intro e;have:=h.mem.lt (b:=x.1) (o:=x.2) hx;simp only [Option.some.injEq] at e;omega
 obtain ⟨A',c',rfl⟩:=hR.slice;exact ⟨_,w',hrun,hk A' c' w' hR (fun k hk1 hk2=>h3.block k hk1 (fun e=>hk2 e.symm)) h3.size h5⟩
theorem StoreA.rwRow {P:Program} {w0 w:World} {A:oA} {n c g j size:Nat} {e:TypeId} {xs vs:List Value} {L:List (Nat × Obj)} {K:World→Prop} (h:Rw w0 w (.slice A n c) e size n xs L) (hA:A=some ⟨g,0,none⟩) (hj:j<n) (hl:vs.length=size)
  (h1:∀ v∈vs,v.oneCell'=true) (hk:∀ w' xs',(∀ k,k≠g→w'.heap[k]?=w.heap[k]?)→w'.heap.size=w.heap.size→Rw w0 w' (.slice A n c) e size n xs' L→K w'):StoreA P w g (j*size) vs K:=by
 subst hA
 rcases h.own.2 with ⟨e1,e2⟩|⟨g',cap,cur,e1,hb,hg,h2,h3,h4,h5⟩
 ·cases e1
 ·cases e1;have hjs:(j+1)*size≤n*size:=Nat.mul_le_mul_right _ hj;have hcs:n*size≤c*size:=Nat.mul_le_mul_right _ h2;rw [Nat.add_mul,Nat.one_mul] at hjs;have hr:=run_storeCells_at P g (j*size) e vs 0 cur w hg (by rw [h4,hl];omega) h1;obtain ⟨cur',ec⟩:∃ cur',cur'=(cur.toList.take (j*size+0)++vs++cur.toList.drop (j*size+0+vs.length)).toArray:=⟨_,rfl⟩
  have hsz':cur'.size=cur.size:=by
   rw [ec];simp only [List.size_toArray,zla,List.length_take,zld,Array.length_toList,Nat.add_zero];rw [h4,hl];omega
  rw [← ec] at hr;refine ⟨_,hr,hk _ (cur'.toList.take (n*size)) (fun k hk=>qo hk) (by simp [World.setRow]) ⟨⟨?_,fun x hx=>⟨(h.mem.own x hx).1,?_⟩,h.mem.nodup⟩,⟨?_,.inr ⟨g,c,cur',rfl,hb,qbw hg,h2,h3,by rw [hsz',h4],rfl⟩⟩,h.apart⟩⟩
  ·exact Below.trans h.mem.ext ⟨rfl,rfl,rfl,by simp [World.setRow],fun k hk=>qo Oo⟩
  ·rw [qo (fun e=>h.apart x hx (by rw [e];rfl))];exact (h.mem.own x hx).2
  ·rw [List.length_take,Array.length_toList,hsz',h4];omega
end V
structure OvI (w0 w:World) (g:Nat) (A:oA) (n c:Nat) (w':World):Prop where
 rw_:∃ xs,Rw w0 w' (.slice A n c) 53 16 n xs []
 keep:∀ k,k<w.heap.size→k≠g→w'.heap[k]?=w.heap[k]?
 own:∀ b,(Value.slice A n c).ownBlock=some b→b=g∨w.heap.size≤b
 size:w.heap.size≤w'.heap.size
def ownN (A:oA) (w:World):Nat:=
 match A with
 | some a=>a.block
 | none=>w.heap.size
theorem qsq (A:oA) (c n:Nat) (xs:List Value) (w0 w:World) (hR:Rw w0 w (.slice A n c) 53 16 n xs []) (hn:n≤16777216) :
  Gv Tryz.prog 11 [.slice A n c] w fun _ w'=>Ext w0 w'∧(∀ k,k<w.heap.size→k≠ownN A w→w'.heap[k]?=w.heap[k]?)∧w.heap.size≤w'.heap.size:=by
 have hI0:OvI w0 w (ownN A w) A n c w:=⟨⟨xs,hR⟩,fun _ _ _=>rfl,fun b hb=>by
  cases A with
  | none=>cases hb
  | some a=>cases hb;exact .inl rfl,Nat.le_refl _⟩
 refine ze Tryz.func11 Tryz.ntmps11 ?_;refine qr (fun i:Nat=>[(0,.slice A n c),(2,ii i)]) (fun i w'=>i≤n∧OvI w0 w (ownN A w) A n c w') (fun i=>n-i) 0 ⟨rfl,rfl,trivial⟩ ⟨Nat.zero_le _,hI0⟩ ?_;rintro i w1 ρ' ⟨hi,hI⟩;(conv=>whnf);refine zC (fun _=>zw ?_) (fun _=>zw ?_)
 ·have hlt:i<n:=by omega
  obtain ⟨xs1,hR1⟩:=hI.rw_;obtain ⟨g,hg⟩:∃ g,A=some ⟨g,0,none⟩:=by
   rcases hR1.own.2 with ⟨e1,e2⟩|⟨g,cap,cur,e1,_⟩
   ·omega
   ·cases e1;exact ⟨g,rfl⟩
  have hog:ownN A w=g:=by rw [hg];rfl
  rw [hg];refine ElemV.own i rfl hlt ?_;rw [show tsz Tryz.prog 53=16 from by kernel_rfl];(conv=>whnf);refine StoreA.rwRow hR1 hg hlt rfl (by simp [Value.oneCell']) fun w2 xs2 hk2 hs2 hR2=>zu ?_;rw [← hg];exact ⟨i+1,⟨rfl,congrArg (Value.int .i64) Oo,trivial⟩,⟨by omega,⟨⟨xs2,hR2⟩,fun k h1 h2=>by rw [hk2 k Oo,hI.keep k h1 h2],hI.own,by rw [hs2];exact hI.size⟩⟩,by omega⟩
 ·skip
  refine qr (fun x:Nat × oA × Nat=>[(0,.slice x.2.1 (n+x.1) x.2.2),(3,ii x.1)]) (fun x w'=>x.1≤9∧OvI w0 w (ownN A w) x.2.1 (n+x.1) x.2.2 w') (fun x=>9-x.1) (0,A,c) ⟨rfl,rfl,trivial⟩ ⟨Nat.zero_le _,hI⟩ ?_;clear hI;rintro ⟨k,B,d⟩ w2 ρ' ⟨hk,hI⟩;dsimp only at hk hI ⊢;obtain ⟨xs1,hR1⟩:=hI.rw_;(conv=>whnf);refine zC (fun _=>zw ?_) (fun _=>zw ?_)
  ·refine ⟨fun nb w3 hb hw=>?_⟩;have hR3:=hR1.newBlk hb hw;have hx3:Ext w2 w3:=by rw [hw];exact (Ext.refl w2).alloc _
   clear hb hw;(conv=>whnf);refine AppV.rwG (m:=1) (news:=qae _) qdSl qdI qdZ Jk Jk Od hR3 rfl (fun k v hv=>?_) (qcy ⟨zTM,⟨-8,⟨#[]⟩,⟨#[]⟩,⟨#[]⟩⟩,zTM,zTM⟩) (by rw [show ((Tryz.prog.info? 53).get Jk).bytes=224 from by kernel_rfl];omega) Oo ?_
   ·rw [qd (hR3.mem.get mh),Nat.zero_add];rw [List.getElem?_toArray];exact hv
   intro B2 d2 w4 hR4 hk4 hs4 ho4;refine zu ?_;refine ⟨(k+1,B2,d2),⟨rfl,congrArg (Value.int .i64) (by simp only;omega),trivial⟩,⟨by simp only;omega,⟨⟨_,hR4.tail⟩,fun j h1 h2=>?_,fun b hb=>?_,?_⟩⟩,by simp only;omega⟩
   ·have hjs:j<w2.heap.size:=by have:=hI.size;omega
    rw [hk4 j (Nat.lt_of_lt_of_le hjs hx3.size) (fun e=>?_),hx3.block j hjs,hI.keep j h1 h2]
    rcases hI.own j e with h|h
    ·exact h2 h
    ·omega
   ·have hb:(Value.slice B2 (n+k+1) d2).ownBlock=some b:=hb
    rcases ho4 with h|h
    ·exact hI.own b (by rw [← h];exact hb)
    ·have h3:b=w3.heap.size:=by rw [h] at hb;exact (Option.some.inj hb).symm
     have:=hI.size;have:=hx3.size;exact .inr Oo
   ·have:=hI.size;have:=hx3.size;omega
  ·exact ⟨hR1.mem.ext,hI.keep,hI.size⟩
theorem qt0 {l:LB} (h:(qw l).2=0):qw l=(0,0):=by
 unfold qw at h ⊢
 repeat' split at h
 all_goals first|(cases h;done)|skip
 simp only [*,if_false]
theorem qi7 {x:Int} {d n:Nat} (h:x=(n:Int)):bnd (some (ii x)) d n:=by
 subst h;rfl
theorem qjr (a b e:Int) (w:World) (h1:-9223372036854775808≤a+b) (h2:a+b≤9223372036854775807) :
  Gv Tryz.prog 32 [ii a,ii b,ii e] w fun v w'=>v=fltV (a+b) e∧Ext w w':=by
 refine ze Tryz.func32 Tryz.ntmps32 ?_;refine znm (Mem.nil w) fun r w1 hm=>zu ?_;refine zS hm 0 fun w2 hm=>zw ?_;refine qa (R:=fun v w'=>v=fltV (a+b) e∧Ext w w') (zw ?_);refine zl hm 0 ?_;exact ⟨rfl,hm.ext⟩
theorem qxw {l:LB} {A:oA} {c:Nat} {w:World} (hS:SlAt encB 1 w A l) (hc:l.length≤c) (h:(qw l).2=0):SlAt encB 1 w (if c=28 then A else A.map (·.add (28*1))) (ql l):=by
 have hl:=qe2 h;have:=hS.cut (lo:=28) (hi:=28+hN l 4) (m:=c) Oo Oo Oo rfl
 rwa [show 28+hN l 4-28=hN l 4 by omega] at this
theorem q0w {l:LB} {A:oA} {c:Nat} {w:World} (hS:SlAt encB 1 w A l) (hc:l.length≤c) (h:(qw l).2=0):SlAt encB 1 w (if c=32+hN l 4 then A else A.map (·.add ((32+hN l 4)*1))) (qg l):=by
 have hl:=qe2 h;have:=hS.cut (lo:=32+hN l 4) (hi:=32+hN l 4+hN l 5) (m:=c) Oo Oo Oo rfl
 rwa [show 32+hN l 4+hN l 5-(32+hN l 4)=hN l 5 by omega] at this
theorem qns {l:LB} {ts:List TM} {id:Nat} (hV:VTm l 3 0 ts) (h:id≤ts.length):qcq l id=some (sT ts id):=by
 have hlen:ts.length=vTot l 3:=hV.len;unfold qcq sT
 by_cases h0:id=0
 ·rw [if_pos h0,if_pos h0];rfl
 ·rw [if_neg h0,if_neg h0,if_neg Oo];obtain ⟨h1,h2,h3⟩:=qtb h0 (show id≤vTot l 3 by omega);have h4:vTot l (qcm l id+1)=vTot l (qcm l id)+dN (qq l (qcm l id)):=rfl;obtain ⟨s,t,hd,hs,hr,ht⟩:=hV.at_ (qcm l id) (id-(vTot l (qcm l id)+1)) (.inl ⟨h1,by omega⟩);rw [hd];dsimp only;rw [qlr hr];have e:vTot l (qcm l id)+(id-(vTot l (qcm l id)+1))=id-1:=by omega
  rw [e] at ht;rw [List.getD_eq_getElem?_getD,ht];rfl
theorem q4o {l:LB} (h:(wE l).2=0):vTot l 3≤12582912:=by
 have h0:(sE l).2=0:=by
  rw [wE] at h
  split at h
  ·rename_i g;exact absurd h g
  ·omega
 have hz:(errF (sdF l) 3).2=0:=by rw [wE,if_neg Oo] at h;exact h
 have hd:∀ k,k<3→dN (qq l k)≤4194304:=fun k hk=>by
  have:=qay hz k hk;unfold sdF at this
  split at this
  ·rename_i g;exact (qv9 g).1
  ·rename_i g;exact absurd this g
 have h1:=hd 0 Oo;have h2:=hd 1 Oo;have h3:=hd 2 Oo;simp only [vTot];omega
theorem q1q {l:LB} (h:(tE l).2=0):vNum l 3≤1048576:=by
 obtain ⟨h1,_⟩:=qpf h;have:=h1 3 Oo;unfold tcF at this
 split at this
 ·rename_i g;exact absurd this g
 ·rename_i g
  exact qcg Oo
theorem qcx {base:Nat} {e:TypeId} {size n:Nat} {v:Value} {xs:List Value} {w w':World} (h:w.ownsRow base e size v n xs) (hw:∀ c,base≤c→c<w.heap.size→w'.heap[c]?=w.heap[c]?):w'.ownsRow base e size v n xs:=by
 obtain ⟨h1,h2|⟨g,cap,cur,h3,h4,h5,h6⟩⟩:=h
 ·exact ⟨h1,.inl h2⟩
 ·exact ⟨h1,.inr ⟨g,cap,cur,h3,h4,(hw g h4 (qjj h5)).trans h5,h6⟩⟩
def Op19 (l:LB) (base:Nat) (v:Value) (w:World):Prop:=
 ((poE l).2≠0∧v=.tuple #[infZ,.slice none 0 0,.slice none 0 0,.agg #[ii (poE l).1,ii (poE l).2]])∨
 ((poE l).2=0∧∃ ts,VTm (ql l) 3 0 ts∧(∀ k,1≤k→k≤3→LvlV (qg l) k)∧
  (∀ i,i<vNum (qg l) 3→(∀ j,j<4→tNum (qg l) i j≤ts.length)∧qck (sQ ts (tNum (qg l) i))=0)∧
  ∃ A c' B c,v=.tuple #[inf4 l,.slice A (vTot (ql l) 3) c',.slice B (vNum (qg l) 3) c,.agg #[ii 0,ii 0]]∧vNum (qg l) 3≤c∧
   SlAt qae 16 w B ((List.range (vNum (qg l) 3)).map fun i=>sQ ts (tNum (qg l) i))∧w.ownsRow base 53 16 (.slice B (vNum (qg l) 3) c) (vNum (qg l) 3) (((List.range (vNum (qg l) 3)).map fun i=>sQ ts (tNum (qg l) i)).map qae).flatten)
theorem Op19.err {l:LB} {base:Nat} {w:World} {a e:Nat} {x y:Int} (h:poE l=(a,e)) (h0:e≠0) (h1:x=a) (h2:y=e):Op19 l base (.tuple #[infZ,.slice none 0 0,.slice none 0 0,.agg #[ii x,ii y]]) w:=by
 subst h1 h2;refine .inl ?_;rw [h];exact ⟨h0,rfl⟩
theorem qsc {l:LB} {ts:List TM} (hV:VTm (ql l) 3 0 ts) {i:Nat}:qul l i↔(∀ j,j<4→tNum (qg l) i j≤ts.length)∧qck (sQ ts (tNum (qg l) i))=0:=by
 have hlen:ts.length=vTot (ql l) 3:=hV.len;have hq:(∀ j,j<4→tNum (qg l) i j≤ts.length)→q4Of (ql l) (tNum (qg l) i)=sQ ts (tNum (qg l) i):=fun h=>by
  have hv:∀ j,j<4→qcq (ql l) (tNum (qg l) i j)=some (sT ts (tNum (qg l) i j)):=fun j hj=>qns hV (h j hj)
  simp only [q4Of,uT,hv 0 Oo,hv 1 Oo,hv 2 Oo,hv 3 Oo,Option.getD_some];rfl
 constructor
 ·rintro ⟨h1,h2⟩;have h3:∀ j,j<4→tNum (qg l) i j≤ts.length:=fun j hj=>Classical.byContradiction fun h=>h1 j hj (by
   unfold qcq;rw [if_neg Oo,if_pos Oo])
  exact ⟨h3,by rw [← hq h3];exact h2⟩
 ·rintro ⟨h1,h2⟩;exact ⟨fun j hj=>by rw [qns hV (h1 j hj)];simp,by rw [hq h1];exact h2⟩
theorem qlk (l:LB) (A:oA) (c:Nat) (w:World) (hS:SlAt encB 1 w A l) (hc:l.length≤c) (hl:l.length≤140737488351232) :
  Gv Tryz.prog 7 [.slice A l.length c] w fun v w'=>Op19 l w.heap.size v w'∧Ext w w':=by
 refine ze Tryz.func7 Tryz.ntmps7 ?_;refine znm (Mem.nil w) fun r2 w1 hm=>zw ?_;refine znm hm fun r5 w2 hm=>zw ?_;refine znm hm fun z6 w3 hm=>zw ?_;refine zS hm 0 fun w4 hm=>zw ?_;refine zcv (qtz l A _ c w4 (hS.ext hm.ext) rfl hc Oo) ?_;rintro v w5 ⟨rfl,he5⟩;have hm:=hm.call he5
 by_cases h0:(qw l).2=0
 ·obtain ⟨hl1,hl2⟩:=qe2 h0;have hH:qdb l=[ii (hN l 2),ii (hN l 3),ii (hN l 4),ii (hN l 5)]:=by rw [qdb,if_pos h0]
  rw [hH,qt0 h0];(conv=>whnf);refine znm hm fun i7 w6 hm=>zw ?_;refine znm hm fun f8 w7 hm=>zw ?_;refine zS hm 1 fun w8 hm=>zw ?_;refine zS hm 0 fun w9 hm=>zw ?_;refine zr hm 0 ?_;refine zv ?_;refine zr hm 1 ?_;refine zv ?_;refine SliceV.to 28 (28+hN l 4) c rfl rfl rfl Oo Oo Oo (fun h=>by cases h) ?_;rw [show tsz Tryz.prog 5=1 from by kernel_rfl,show 28+hN l 4-28=(ql l).length by rw [qhn h0];omega];obtain ⟨VA,hVA⟩:∃ VA,VA=(if c=28 then A else A.map (·.add (28*1))):=⟨_,rfl⟩
  have hSV:=qxw hS hc h0;rw [← hVA] at hSV ⊢;clear hVA;(conv=>whnf);refine zr hm 1 ?_;refine zv ?_;refine zr hm 1 ?_;refine zv ?_;refine SliceV.to (32+hN l 4) (32+hN l 4+hN l 5) c (qi7 Oo) (qi7 Oo) rfl Oo Oo Oo (fun h=>by cases h) ?_;rw [show tsz Tryz.prog 5=1 from by kernel_rfl,show 32+hN l 4+hN l 5-(32+hN l 4)=(qg l).length by rw [qjz h0];omega];obtain ⟨TA,hTA⟩:∃ TA,TA=(if c=32+hN l 4 then A else A.map (·.add ((32+hN l 4)*1))):=⟨_,rfl⟩
  have hST:=q0w hS hc h0;rw [← hTA] at hST ⊢;clear hTA;have hVl:=qhn h0;have hTl:=qjz h0;(conv=>whnf);refine DrawV.free Jk Jk (zw ?_);refine zd ?_;apply StepD.of (fun v w=>BS w v (fixL (crcL (ql l)).toNat 4)) (fun _ _ _ h he=>h.ext he)
  ·intro wd hd;(conv=>whnf);refine zcv (qkl (ql l) _ _ _ wd (hSV.ext (hm.drew.ext.trans hd)) rfl Oo) ?_;rintro v w9 ⟨h9,he9⟩;exact ⟨he9,h9⟩
  (conv=>whnf);apply zsd
  ·intro wd hd;(conv=>whnf);rintro v ⟨A',c',rfl,h1,h2⟩;(conv=>whnf);refine BytesS.sl h2 rfl (zw ?_);exact ⟨xr,rfl⟩
  (conv=>whnf);(iterate 4 (refine zd ?_));apply StepD.of (fun v w=>∃ A' n' c',v=.slice A' n' c'∧SlAt encB 1 w A' ((l.drop (28+hN l 4)).take (32+hN l 4-(28+hN l 4)))∧((l.drop (28+hN l 4)).take (32+hN l 4-(28+hN l 4))).length=n') (fun _ _ _ h he=>let ⟨A',n',c',h1,h2,h3⟩:=h;⟨A',n',c',h1,h2.ext he,h3⟩)
  ·intro wd hd;(conv=>whnf);refine SliceV.bs (hS.ext (hm.drew.ext.trans hd)) rfl (28+hN l 4) (32+hN l 4) c (qi7 Oo) (qi7 Oo) rfl Oo Oo Oo znr (fun h=>by cases h) ?_;intro A' hA';(conv=>whnf);exact ⟨xr,_,_,_,rfl,hA',by rw [List.length_take,zld];omega⟩
  (conv=>whnf);apply zsd
  ·intro wd hd;(conv=>whnf);rintro v ⟨A',n',c',rfl,h2,h3⟩;(conv=>whnf);refine BytesS.sl h2 h3 (zw ?_);exact ⟨xr,rfl⟩
  (conv=>whnf);refine zd ?_;intro w10 he9
  (repeat (intro _ _;(conv=>whnf)))
  (conv=>whnf);replace hm:=hm.drew.call he9;clear he9;rw [qyk (p:=ql l) (m:=(l.drop (28+hN l 4)).take 4) rfl (by rw [show 32+hN l 4-(28+hN l 4)=4 by omega]) (by rw [List.length_take,zld];omega)]
  by_cases hs1:(crcL (ql l)).toNat=leN ((l.drop (28+hN l 4)).take 4)
  case neg=>
   rw [decide_eq_false hs1];refine zv ?_;refine zl hm 2 ?_;refine zv ?_;refine zS hm 4 fun xa hm=>zw ?_;refine zS hm 3 fun xb hm=>zw ?_;refine qa (R:=fun v w'=>Op19 l w.heap.size v w'∧Ext w w') (zw ?_);refine zl hm 4 ?_;refine zl hm 3 ?_;exact ⟨.err (qxy h0 hs1) Od Oo rfl,hm.ext⟩
  rw [decide_eq_true hs1];refine zv ?_;refine DrawV.free Jk Jk (zw ?_);refine zd ?_;apply StepD.of (fun v w=>BS w v (fixL (crcL (qg l)).toNat 4)) (fun _ _ _ h he=>h.ext he)
  ·intro wd hd;(conv=>whnf);refine zcv (qkl (qg l) _ _ _ wd (hST.ext (hm.drew.ext.trans hd)) rfl Oo) ?_;rintro v w9 ⟨h9,he9⟩;exact ⟨he9,h9⟩
  (conv=>whnf);apply zsd
  ·intro wd hd;(conv=>whnf);rintro v ⟨A',c',rfl,h1,h2⟩;(conv=>whnf);refine BytesS.sl h2 rfl (zw ?_);exact ⟨xr,rfl⟩
  (conv=>whnf);(iterate 3 (refine zd ?_));refine zf ?_ (by intro wd hd;(conv=>whnf);refine LoadV.mem (Mem.call (Mem.drew hm) hd) (i:=1) rfl rfl ?_;(conv=>whnf);exact ⟨xr,rfl⟩);refine zd ?_;apply StepD.of (fun v w=>∃ A' n' c',v=.slice A' n' c'∧SlAt encB 1 w A' ((l.drop (32+hN l 4+hN l 5)).take (l.length-(32+hN l 4+hN l 5)))∧((l.drop (32+hN l 4+hN l 5)).take (l.length-(32+hN l 4+hN l 5))).length=n') (fun _ _ _ h he=>let ⟨A',n',c',h1,h2,h3⟩:=h;⟨A',n',c',h1,h2.ext he,h3⟩)
  ·intro wd hd;(conv=>whnf);refine SliceV.bs (hS.ext (hm.drew.ext.trans hd)) rfl (32+hN l 4+hN l 5) (l.length) c (qi7 Oo) rfl rfl Oo Oo Oo znr (fun h=>by cases h) ?_;intro A' hA';(conv=>whnf);exact ⟨xr,_,_,_,rfl,hA',by rw [List.length_take,zld];omega⟩
  (conv=>whnf);apply zsd
  ·intro wd hd;(conv=>whnf);rintro v ⟨A',n',c',rfl,h2,h3⟩;(conv=>whnf);refine BytesS.sl h2 h3 (zw ?_);exact ⟨xr,rfl⟩
  (conv=>whnf);refine zd ?_;intro w11 he9
  (repeat (intro _ _;(conv=>whnf)))
  (conv=>whnf);replace hm:=hm.drew.call he9;clear he9;rw [qyk (p:=qg l) (m:=(l.drop (32+hN l 4+hN l 5)).take 4) rfl (by rw [show l.length-(32+hN l 4+hN l 5)=4 by omega]) (by rw [List.length_take,zld];omega)]
  by_cases hs2:(crcL (qg l)).toNat=leN ((l.drop (32+hN l 4+hN l 5)).take 4)
  case neg=>
   rw [decide_eq_false hs2];refine zv ?_;refine DrawV.inv (fun S w'=>∃ a9:Int,a9=((32+hN l 4+hN l 5:Nat):Int)∧Mem w w' ((f8,.cells #[ii (0:Int),ii (0:Int)] 36)::(i7,.cells #[ii (hN l 2:Nat),ii (hN l 3:Nat),ii (hN l 4:Nat),ii (hN l 5:Nat)] 33)::(z6,.cells #[ii 0,ii 0,ii 0,ii 0] 33)::(r5,(bif S 9 then .cells #[ii a9,ii (30:Int)] 36 else .cells #[ii (0:Int),ii (0:Int)] 36))::(r2,.cells #[ii 0,ii 0,ii 0,ii 0] 33)::[])) rfl Jk ⟨_,rfl,hm.drew⟩ ?_;clear hm;(conv=>whnf);refine StepI.of (.agg #[ii 0,ii 0,ii 0,ii 0]) (fun S wd hk hp hI=>zw ?_) (zw ?_)
   ·obtain ⟨a0,ha0,hI'⟩:=hI;refine zl hI' 2 ?_;exact ⟨rfl,a0,ha0,hI'⟩
   refine zi ?_;refine zi ?_;refine StepI.of (ii ((hN l 5:Nat))) (fun S wd hk hp hI=>zw ?_) (zw ?_)
   ·obtain ⟨a0,ha0,hI'⟩:=hI;refine zr hI' 1 ?_;exact ⟨rfl,a0,ha0,hI'⟩
   refine zi ?_;refine zi ?_;refine StepI.of undef (fun S wd hk hp hI=>zw ?_) (zw ?_)
   ·obtain ⟨a0,ha0,hI'⟩:=hI;refine zS hI' 4 fun wx hmx=>zw ?_;exact ⟨rfl,a0,ha0,hmx⟩
   refine zi ?_;refine zi ?_;refine StepI.of undef (fun S wd hk hp hI=>?_) (zw ?_)
   ·obtain ⟨a0,ha0,hI'⟩:=hI
    try dsimp only at hI'
    rw [hk] at hI';(conv=>whnf);refine zS hI' 3 fun wx hmx=>zw ?_;exact ⟨rfl,_,(by first|rfl|omega),hmx⟩
   rintro wy ⟨a0,ha0,hm⟩;(conv=>whnf);refine qa (R:=fun v w'=>Op19 l w.heap.size v w'∧Ext w w') (zw ?_);refine zl hm 4 ?_;refine zl hm 3 ?_;exact ⟨.err (qxz h0 hs1 hs2) Od ha0 rfl,hm.ext⟩
  rw [decide_eq_true hs2];refine zv ?_;have hVo:=qrm (ql l) VA (c-28) w11 (hSV.ext hm.ext) Oo Oo;have hTo:=fun w' (h':SlAt encB 1 w' TA (qg l))=>qyx (qg l) TA (c-(32+hN l 4)) w' h' Oo Oo
  refine zcv (hVo) ?_;clear hVo;rintro v w12 ⟨⟨he0,hab,rfl⟩|⟨hW0,ts,hVT,VB,vc,rfl,hVown⟩,he12⟩
  ·have hm:=hm.call he12;have hpo:=q3x h0 hs1 hs2 he0;obtain ⟨a,ea⟩:∃ a:Nat,a=(vwE (ql l)).1:=⟨_,rfl⟩
   obtain ⟨e,ee⟩:∃ e:Nat,e=(vwE (ql l)).2:=⟨_,rfl⟩
   rw [← ea,← ee] at hpo ⊢;rw [← ea] at hab;rw [← ee] at he0;have he0i:(e:Int)≠0:=by omega
   unfold fltV;(conv=>whnf);refine zS hm 0 fun w13 hm=>zw ?_;refine zr hm 0 ?_;refine zv ?_;refine DrawV.inv (fun S w'=>∃ a9:Int,a9=((28+a:Nat):Int)∧Mem w w' ((f8,.cells #[ii (a),ii (e)] 36)::(i7,.cells #[ii (hN l 2:Nat),ii (hN l 3:Nat),ii (hN l 4:Nat),ii (hN l 5:Nat)] 33)::(z6,.cells #[ii 0,ii 0,ii 0,ii 0] 33)::(r5,(bif S 9 then .cells #[ii a9,ii (e:Int)] 36 else .cells #[ii (0:Int),ii (0:Int)] 36))::(r2,.cells #[ii 0,ii 0,ii 0,ii 0] 33)::[])) rfl Jk ⟨_,rfl,hm.drew⟩ ?_;clear hm;(conv=>whnf);refine StepI.of (.agg #[ii 0,ii 0,ii 0,ii 0]) (fun S wd hk hp hI=>zw ?_) (zw ?_)
   ·obtain ⟨a0,ha0,hI'⟩:=hI;refine zl hI' 2 ?_;exact ⟨rfl,a0,ha0,hI'⟩
   refine zi ?_;refine StepI.of (ii (a)) (fun S wd hk hp hI=>zw ?_) (zw ?_)
   ·obtain ⟨a0,ha0,hI'⟩:=hI;refine zr hI' 0 ?_;exact ⟨rfl,a0,ha0,hI'⟩
   refine zi ?_;refine StepI.of (ii (e)) (fun S wd hk hp hI=>zw ?_) (zw ?_)
   ·obtain ⟨a0,ha0,hI'⟩:=hI;refine zr hI' 0 ?_;exact ⟨rfl,a0,ha0,hI'⟩
   refine StepI.of (.agg #[ii (28+a),ii (e)]) (fun S wd hk hp hI=>zw ?_) (zw ?_)
   ·obtain ⟨a0,ha0,hI'⟩:=hI;refine zcv (qjr (28) (a) (e) wd Oo Oo) ?_;rintro v wx ⟨rfl,hx⟩;unfold fltV;exact ⟨rfl,a0,ha0,hI'.call hx⟩
   refine StepI.of undef (fun S wd hk hp hI=>zw ?_) (zw ?_)
   ·obtain ⟨a0,ha0,hI'⟩:=hI;refine zS hI' 4 fun wx hmx=>zw ?_;exact ⟨rfl,a0,ha0,hmx⟩
   refine zi ?_;refine zi ?_;refine StepI.of undef (fun S wd hk hp hI=>?_) (zw ?_)
   ·obtain ⟨a0,ha0,hI'⟩:=hI
    try dsimp only at hI'
    rw [hk] at hI';(conv=>whnf);refine zS hI' 3 fun wx hmx=>zw ?_;exact ⟨rfl,_,(by first|rfl|omega),hmx⟩
   rintro wy ⟨a0,ha0,hm⟩;(conv=>whnf);refine qa (R:=fun v w'=>Op19 l w.heap.size v w'∧Ext w w') (zw ?_);refine zl hm 4 ?_;refine zl hm 3 ?_;exact ⟨.err hpo he0 ha0 rfl,hm.ext⟩
  have hm0:=hm;have hm:=hm.call he12;unfold fltV;(conv=>whnf);have hf8:f8<w11.heap.size:=hm0.lt mh;refine StoreA.row hm (i:=0) rfl (Nat.le_refl 2) (by simp [Value.oneCell']) ?_;clear hm;intro w13 hoth hsz hm;have hVown:=qcx hVown (fun c hc _=>hoth c Oo);(conv=>whnf);refine zr hm 0 ?_;refine zv ?_;refine zcv (hTo w13 (hST.ext hm.ext)) ?_;clear hTo;rintro v w14 ⟨⟨he0,hab,rfl⟩|⟨hT0,hLv,TB,tc,rfl,hTown⟩,he14⟩
  case' inr=>
   have hW:=q57 hW0;have hT:=(qs5 hT0).1
  case' inl=>
   have hpo:=q3w h0 hs1 hs2 hW0 he0;obtain ⟨a,ea⟩:∃ a:Nat,a=(toE (qg l)).1:=⟨_,rfl⟩
   obtain ⟨e,ee⟩:∃ e:Nat,e=(toE (qg l)).2:=⟨_,rfl⟩
   rw [← ea,← ee] at hpo ⊢;rw [← ea] at hab;rw [← ee] at he0;have he0i:(e:Int)≠0:=by omega
  all_goals
   have hm:=hm.call he14;unfold fltV;(conv=>whnf);refine ⟨fun t14 w15 hb15 hw15=>?_⟩;have hm:=hm.new hb15 hw15;(conv=>whnf);refine StoreA.row hm (i:=0) rfl (Nat.le_refl 2) (by simp [Value.oneCell']) ?_;clear hm;intro w16 hoth6 hsz6 hm;have hag:∀ c,c<w14.heap.size→w16.heap[c]?=w14.heap[c]?:=fun c hc=>by
    rw [hoth6 c Oo,hw15];exact ((Ext.refl w14).alloc _).block c hc
   (conv=>whnf);refine zr hm 0 ?_;refine zv ?_
  ·skip
   refine DrawV.inv (fun S w'=>∃ a9:Int,a9=((32+hN l 4+a:Nat):Int)∧Mem w w' ((t14,.cells #[ii (a),ii (e)] 92)::(f8,.cells #[ii (0:Int),ii (0:Int)] 36)::(i7,.cells #[ii (hN l 2:Nat),ii (hN l 3:Nat),ii (hN l 4:Nat),ii (hN l 5:Nat)] 33)::(z6,.cells #[ii 0,ii 0,ii 0,ii 0] 33)::(r5,(bif S 10 then .cells #[ii a9,ii (e:Int)] 36 else .cells #[ii (0:Int),ii (0:Int)] 36))::(r2,.cells #[ii 0,ii 0,ii 0,ii 0] 33)::[])) rfl Jk ⟨_,rfl,hm.drew⟩ ?_;clear hm;(conv=>whnf);refine StepI.of (.agg #[ii 0,ii 0,ii 0,ii 0]) (fun S wd hk hp hI=>zw ?_) (zw ?_)
   ·obtain ⟨a0,ha0,hI'⟩:=hI;refine zl hI' 3 ?_;exact ⟨rfl,a0,ha0,hI'⟩
   refine zi ?_;refine zi ?_;refine StepI.of (ii (a)) (fun S wd hk hp hI=>zw ?_) (zw ?_)
   ·obtain ⟨a0,ha0,hI'⟩:=hI;refine zr hI' 0 ?_;exact ⟨rfl,a0,ha0,hI'⟩
   refine zi ?_;refine StepI.of (ii (e)) (fun S wd hk hp hI=>zw ?_) (zw ?_)
   ·obtain ⟨a0,ha0,hI'⟩:=hI;refine zr hI' 0 ?_;exact ⟨rfl,a0,ha0,hI'⟩
   refine StepI.of (.agg #[ii (28+(hN l 4:Nat)+4+a),ii (e)]) (fun S wd hk hp hI=>zw ?_) (zw ?_)
   ·obtain ⟨a0,ha0,hI'⟩:=hI;refine zcv (qjr (28+(hN l 4:Nat)+4) (a) (e) wd Oo Oo) ?_;rintro v wx ⟨rfl,hx⟩;unfold fltV;exact ⟨rfl,a0,ha0,hI'.call hx⟩
   refine StepI.of undef (fun S wd hk hp hI=>zw ?_) (zw ?_)
   ·obtain ⟨a0,ha0,hI'⟩:=hI;refine zS hI' 5 fun wx hmx=>zw ?_;exact ⟨rfl,a0,ha0,hmx⟩
   refine zi ?_;refine zi ?_;refine StepI.of undef (fun S wd hk hp hI=>?_) (zw ?_)
   ·obtain ⟨a0,ha0,hI'⟩:=hI
    try dsimp only at hI'
    rw [hk] at hI';(conv=>whnf);refine zS hI' 4 fun wx hmx=>zw ?_;exact ⟨rfl,_,(by first|rfl|omega),hmx⟩
   rintro wy ⟨a0,ha0,hm⟩;(conv=>whnf);refine qa (R:=fun v w'=>Op19 l w.heap.size v w'∧Ext w w') (zw ?_);refine zl hm 5 ?_;refine zl hm 4 ?_;exact ⟨.err hpo he0 ha0 rfl,hm.ext⟩
  have hVown:=qcx (qb3 hVown he14) (fun c _ hc=>hag c hc);have hTown:=qcx hTown (fun c _ hc=>hag c hc);clear hag hoth6 hsz6 hb15 hw15 hoth hsz;have hm16:=hm;refine zr hm 2 ?_;refine zC (fun _=>zw ?_) (fun _=>zw ?_)
  ·refine zl hm 3 ?_;refine zS hm 5 fun xa hm=>zw ?_;refine zS hm 4 fun xb hm=>zw ?_;refine qa (R:=fun v w'=>Op19 l w.heap.size v w'∧Ext w w') (zw ?_);refine zl hm 5 ?_;refine zl hm 4 ?_;exact ⟨.err (q3v h0 hs1 hs2 hW0 hT0 Oo) Od rfl rfl,hm.ext⟩
  refine zr hm 2 ?_;refine zC (fun _=>zw ?_) (fun _=>zw ?_)
  ·refine zl hm 3 ?_;refine zS hm 5 fun xa hm=>zw ?_;refine zS hm 4 fun xb hm=>zw ?_;refine qa (R:=fun v w'=>Op19 l w.heap.size v w'∧Ext w w') (zw ?_);refine zl hm 5 ?_;refine zl hm 4 ?_;exact ⟨.err (q3u h0 hs1 hs2 hW0 hT0 Oo Oo) Od rfl rfl,hm.ext⟩
  obtain ⟨is,eis⟩:∃ is:List (Nat→Nat),is=(List.range (vNum (qg l) 3)).map fun i=>tNum (qg l) i:=⟨_,rfl⟩
  have hisl:is.length=vNum (qg l) 3:=by rw [eis,List.length_map,List.length_range]
  have htl:ts.length=vTot (ql l) 3:=hVT.len;have hisf:idsL (qg l) (vNum (qg l) 3)=(is.map idE).flatten:=by
   rw [eis,idsL,List.map_map];rfl
  rw [hisf] at hTown;obtain ⟨hVS,hVc⟩:=qbs qcb hVown htl;obtain ⟨hTS,hTc⟩:=qbs (enc:=idE) (fun _=>rfl) hTown hisl;have hvt:=q4o hW;have hvn:=q1q hT;have hsd:=q1a ts is VB TB vc tc w16 hVS hTS hVT.ok Oo Oo;rw [htl,hisl] at hsd;(conv=>whnf);refine zcv (hsd) ?_;clear hsd;rintro v w17 ⟨⟨⟨q0,hq0,hq1⟩,rfl⟩|⟨hQ,QB,qc,rfl,hQown⟩,he17⟩
  ·have hbad:¬ qm2 l:=fun h=>by
    rw [eis] at hq0;obtain ⟨i,hi,rfl⟩:=List.mem_map.1 hq0;exact hq1 ((qsc hVT).1 (h i (List.mem_range.1 hi)))
   have hm:=hm.call he17;refine zu ?_;refine zl hm 3 ?_;refine zS hm 5 fun xa hm=>zw ?_;refine zS hm 4 fun xb hm=>zw ?_;refine qa (R:=fun v w'=>Op19 l w.heap.size v w'∧Ext w w') (zw ?_);refine zl hm 5 ?_;refine zl hm 4 ?_;exact ⟨.err (qqm h0 hs1 hs2 hW0 hT0 Oo Oo hbad) Od Oo rfl,hm.ext⟩
  have hm:=hm.call he17;have hql:(is.map (sQ ts)).length=is.length:=List.length_map ..;obtain ⟨hQS,hQc⟩:=qbs qdk hQown hql;have htt:=qpj (is.map (sQ ts)) QB qc w17 hQS Oo;rw [hql] at htt;rw [hisl] at htt ⊢;refine zu ?_;refine zcv (htt) ?_;clear htt;rintro v w18 ⟨⟨EB,ec,rfl,_,_⟩,he18⟩;have hm:=hm.call he18;have hfine:qm2 l:=fun i hi=>(qsc hVT).2 (hQ (tNum (qg l) i) (by rw [eis];exact List.mem_map.2 ⟨i,List.mem_range.2 hi,rfl⟩))
  have hui:=q1p hVT (qtg hW0).2.1 hQ;have huu:(∀ id,1≤id→id≤ts.length→∃ q∈is,∃ j,j<4∧q j=id)↔qm3 l:=by
   rw [htl,eis];exact ⟨fun h id h1 h2=>by
    obtain ⟨q,hq,j,hj,e⟩:=h id h1 h2;obtain ⟨i,hi,rfl⟩:=List.mem_map.1 hq;exact ⟨i,List.mem_range.1 hi,j,hj,e⟩,fun h id h1 h2=>by
    obtain ⟨i,hi,j,hj,e⟩:=h id h1 h2;exact ⟨_,List.mem_map.2 ⟨i,List.mem_range.2 hi,rfl⟩,j,hj,e⟩⟩
  obtain ⟨un,eun⟩:∃ un,un=(tmsN (trms (is.map (sQ ts))).length (trms (is.map (sQ ts)))).length:=⟨_,rfl⟩
  rw [← eun] at hui ⊢;(conv=>whnf);refine zC (fun _=>zw ?_) (fun _=>zw ?_)
  ·have hun:¬ qm3 l:=fun h=>by
    have:=hui.2 (huu.2 h);omega
   refine zl hm 3 ?_;refine zS hm 5 fun xa hm=>zw ?_;refine zS hm 4 fun xb hm=>zw ?_;refine qa (R:=fun v w'=>Op19 l w.heap.size v w'∧Ext w w') (zw ?_);refine zl hm 5 ?_;refine zl hm 4 ?_;exact ⟨.err (qho h0 hs1 hs2 hW0 hT0 Oo Oo hfine hun) Od rfl rfl,hm.ext⟩
  refine zl hm 2 ?_;have hQown:=qb3 hQown he18;have hbr2:r2<w16.heap.size:=hm16.lt (zmg (i:=5) rfl);have hbr5:r5<w16.heap.size:=hm16.lt (zmg (i:=4) rfl);refine StoreA.row hm (i:=5) rfl (Nat.le_refl 4) (by simp [Value.oneCell']) ?_;clear hm;intro w19 hoth hsz hm;have hQown:=qcx hQown (fun c hc _=>hoth c Oo);(conv=>whnf);refine StoreA.row hm (i:=4) rfl (Nat.le_refl 2) (by simp [Value.oneCell']) ?_;clear hm;intro w20 hoth2 hsz2 hm;have hQown:=qcx hQown (fun c hc _=>hoth2 c Oo);(conv=>whnf);refine qa (R:=fun v w'=>Op19 l w.heap.size v w'∧Ext w w') (zw ?_);refine zl hm 5 ?_;refine zl hm 4 ?_;obtain ⟨hQS,hQc⟩:=qbs qdk hQown hql;rw [hisl] at hQc;have hPE:(poE l).2=0:=by rw [qxx h0 hs1 hs2 hW0 hT0 Oo Oo hfine (huu.1 (hui.1 Oo))]
  refine ⟨.inr ⟨hPE,ts,hVT,hLv,fun i hi=>?_,VB,vc,QB,qc,rfl,hQc,?_,?_⟩,hm.ext⟩
  ·exact hQ (tNum (qg l) i) (by rw [eis];exact List.mem_map.2 ⟨i,List.mem_range.2 hi,rfl⟩)
  ·rw [eis,List.map_map] at hQS;exact hQS
  ·have hob:=qgi hQown hm16.ext.size;have e:(List.range (vNum (qg l) 3)).map (fun i=>sQ ts (tNum (qg l) i))=is.map (sQ ts):=by rw [eis,List.map_map];rfl
   rw [e,← hisl];exact hob
 ·have hH:qdb l=[ii 0,ii 0,ii 0,ii 0]:=by rw [qdb,if_neg h0]
  rw [hH];(conv=>whnf);refine znm hm fun i7 w6 hm=>zw ?_;refine znm hm fun f8 w7 hm=>zw ?_;refine zS hm 1 fun w8 hm=>zw ?_;refine zS hm 0 fun w9 hm=>zw ?_;refine zr hm 0 ?_;refine zv ?_;refine DrawV.inv (fun S w'=>∃ a9:Int,a9=(((qw l).1:Nat):Int)∧Mem w w' ((f8,.cells #[ii (((qw l).1:Nat)),ii (((qw l).2:Nat))] 36)::(i7,.cells #[ii 0,ii 0,ii 0,ii 0] 33)::(z6,.cells #[ii 0,ii 0,ii 0,ii 0] 33)::(r5,(bif S 5 then .cells #[ii a9,ii (((qw l).2:Nat):Int)] 36 else .cells #[ii (0:Int),ii (0:Int)] 36))::(r2,.cells #[ii 0,ii 0,ii 0,ii 0] 33)::[])) rfl Jk ⟨_,rfl,hm.drew⟩ ?_;clear hm;(conv=>whnf);refine StepI.of (.agg #[ii 0,ii 0,ii 0,ii 0]) (fun S wd hk hp hI=>zw ?_) (zw ?_)
  ·obtain ⟨a0,ha0,hI'⟩:=hI;refine zl hI' 2 ?_;exact ⟨rfl,a0,ha0,hI'⟩
  refine StepI.of (.agg #[ii ((qw l).1:Nat),ii ((qw l).2:Nat)]) (fun S wd hk hp hI=>zw ?_) (zw ?_)
  ·obtain ⟨a0,ha0,hI'⟩:=hI;refine zl hI' 0 ?_;exact ⟨rfl,a0,ha0,hI'⟩
  refine StepI.of undef (fun S wd hk hp hI=>zw ?_) (zw ?_)
  ·obtain ⟨a0,ha0,hI'⟩:=hI;refine zS hI' 4 fun wx hmx=>zw ?_;exact ⟨rfl,a0,ha0,hmx⟩
  refine zi ?_;refine zi ?_;refine StepI.of undef (fun S wd hk hp hI=>?_) (zw ?_)
  ·obtain ⟨a0,ha0,hI'⟩:=hI
   try dsimp only at hI'
   rw [hk] at hI';(conv=>whnf);refine zS hI' 3 fun wx hmx=>zw ?_;exact ⟨rfl,_,(by first|rfl|omega),hmx⟩
  rintro wy ⟨a0,ha0,hm⟩;(conv=>whnf);refine qa (R:=fun v w'=>Op19 l w.heap.size v w'∧Ext w w') (zw ?_);refine zl hm 4 ?_;refine zl hm 3 ?_;exact ⟨.err (qm6 h0) h0 ha0 rfl,hm.ext⟩
namespace V
theorem Fall.copy {P:Program} {ρ:Nat→Value} {o:Oper} {c:Call} {w:World} {K:Value→World→Prop} {a b:Value} (ho:o.op=.call c) (hc:c.callee=.builtin .copy) (hv:evs ρ c.args.toList=[a,b]) (v:Value) (w':World)
  (hrun:(Builtin.copy_ c.argTypes o.type #[a,b]).run P w=.ok v w') (hk:K v w'):Fall P (execOp (ev ρ) o) w K:=by
 have he:execOp (ev ρ) o=(do pure (.value (← Builtin.copy_ c.argTypes o.type (c.args.map (ev ρ))))):=by
  simp only [execOp,ho,resolve,hc];rfl
 have hv':c.args.map (ev ρ)=#[a,b]:=by
  rw [qdh] at hv;rw [← Array.toList_inj];simpa using hv
 rw [he,hv'];exact ⟨.inl ⟨v,w',by rw [Sem.run_bind,hrun];rfl,hk⟩⟩
end V
theorem qtp (l:LB) (A:oA) (c:Nat) (w:World) (hS:SlAt encB 1 w A l) (hl:l.length≤140737488351232) :
  Gv Tryz.prog 19 [.slice A l.length c] w fun v w'=>Rw w w' v 5 1 l.length (l.map fun c=>Value.int .u8 c.toNat) []:=by
 refine ze Tryz.func19 Tryz.ntmps19 ?_;refine ⟨l.length,l.length,rfl,rfl,Nat.le_refl _,show l.length*1≤140737488355328 by omega,by omega,?_⟩;intro ob w1 hob hw1;have hm:Mem w w1 [(ob,.cells (qba [.int .u8 0] l.length).toArray 5)]:=(Mem.nil w).new hob hw1;clear hob hw1;(conv=>whnf);have hu:Tryz.prog.underlying 22=some (.slice 5):=Tryz.underlying22;have hsz:(Tryz.prog.info? 5).map (·.size)=some 1:=by kernel_rfl
 have hg:=hm.get mh;have hzl:(qba [Value.int .u8 0] l.length).length=l.length:=by rw [qg0];simp
 rcases Nat.eq_zero_or_pos l.length with h0|h0
 ·have hcp:=run_copy_none (P:=Tryz.prog) w1 22 22 3 5 (some ⟨ob,0,none⟩) A l.length l.length l.length c hu hsz (by rw [h0];rfl);refine Fall.copy rfl rfl rfl _ _ hcp (zw ?_);have e:l=[]:=List.eq_nil_of_length_eq_zero h0;subst e;exact ⟨hm.sub (List.nil_sublist _),⟨rfl,.inr ⟨ob,0,_,rfl,(hm.own _ mh).1,hg,Nat.le_refl _,Nat.zero_le _,rfl,rfl⟩⟩,fun x hx=>by simp at hx⟩
 ·obtain ⟨gb,go,eA,hca⟩:=hS.at_ (by intro e;rw [e] at h0;simp at h0);subst eA;have hlm:(l.map fun c=>Value.int .u8 c.toNat).length=l.length:=List.length_map ..;have hcp:=run_copy_row (P:=Tryz.prog) w1 22 22 3 5 ob 0 l.length l.length ⟨gb,go,none⟩ l.length c _ 5 (l.map fun c=>Value.int .u8 c.toNat) hu hsz hg (by rw [hlm];exact (Nat.min_self _).symm) (fun j v hv=>by
   rw [List.getElem?_map] at hv;obtain ⟨x,hx,rfl⟩:=Option.map_eq_some_iff.1 hv;have h1:=Ext.cell hm.ext (hca j x hx 0 _ rfl);rw [Nat.mul_one,Nat.add_zero] at h1;have ea:(⟨gb,go,none⟩:Addr).add j=⟨gb,go+j,none⟩:=by unfold Addr.add;split<;>simp_all
   rw [ea];exact h1) (by rw [hlm,Nat.zero_add];simp [hzl]) (fun v hv=>by
   obtain ⟨x,_,rfl⟩:=List.mem_map.1 hv;rfl)
  have ec:((qba [Value.int .u8 0] l.length).toArray.toList.take 0++(l.map fun c=>Value.int .u8 c.toNat)++(qba [Value.int .u8 0] l.length).toArray.toList.drop (0+(l.map fun c=>Value.int .u8 c.toNat).length)).toArray=(l.map fun c=>Value.int .u8 c.toNat).toArray:=by
   rw [List.take_zero,List.nil_append,List.drop_eq_nil_of_le (by rw [hlm];simp [hzl]),List.append_nil]
  rw [ec] at hcp;refine Fall.copy rfl rfl rfl _ _ hcp ?_;have hm2:Mem w (w1.setRow ob (l.map fun c=>Value.int .u8 c.toNat).toArray) [(ob,.cells (l.map fun c=>Value.int .u8 c.toNat).toArray 5)]:=by
   refine hm.set (i:=0) rfl (Below.trans hm.ext ⟨rfl,rfl,rfl,by simp [World.setRow],fun k hk=>qo (by have:=(hm.own _ mh).1;simp only at this;omega)⟩) (qbw hg) (fun c hc=>qo hc)
  unfold goInt;(conv=>whnf);exact ⟨hm2.sub (List.nil_sublist _),⟨by rw [hlm,Nat.mul_one],.inr ⟨ob,l.length,_,rfl,(hm2.own _ mh).1,hm2.get mh,Nat.le_refl _,by simp only [maxLen];omega,by simp,by
   show List.take (l.length*1) _=_;rw [Nat.mul_one];exact List.take_of_length_le (by rw [hlm];exact Nat.le_refl _)⟩⟩,fun x hx=>by simp at hx⟩
theorem qrx {x:Int} {d n:Nat} (h:x=(n:Int)):bnd (some (ii x)) d n:=by
 subst h;rfl
def Roomy (l:LB) (base:Nat) (v:Value) (w:World):Prop:=
 ∃ g c,v=.slice (some ⟨g,0,none⟩) l.length c∧l.length+2≤c∧base≤g∧SlAt encB 1 w (some ⟨g,0,none⟩) (l++[201,202])
theorem Roomy.ext {l:LB} {base:Nat} {v:Value} {w w':World} (h:Roomy l base v w) (he:Ext w w'):Roomy l base v w':=by
 obtain ⟨g,c,h1,h2,h3,h4⟩:=h;exact ⟨g,c,h1,h2,h3,h4.ext he⟩
theorem qtn (l:LB):(l.map fun c=>Value.int .u8 c.toNat)=(l.map encB).flatten:=by
 induction l with
 | nil=>rfl
 | cons x l ih=>simp only [List.map_cons,List.flatten_cons,ih];rfl
theorem qyf (l:LB) (A:oA) (c:Nat) (w:World) (hS:SlAt encB 1 w A l) (hl:l.length≤140737488351232) :
  Gv Tryz.prog 4 [.slice A l.length c] w fun v w'=>Roomy l w.heap.size v w'∧Ext w w':=by
 refine ze Tryz.func4 Tryz.ntmps4 ?_;refine zcv (qtp l A c w hS hl) ?_;rintro v w1 hR;obtain ⟨A1,c1,rfl⟩:=hR.slice;(conv=>whnf);refine NewV.rw hR fun nb w2 hR=>zw ?_;refine AppV.rw (m:=2) (news:=[.int .u8 201,.int .u8 202]) qeh bytI bytZ Jk rfl (by decide +kernel) hR rfl (fun _=>⟨nb,0,rfl,fun k v hv=>?_⟩) (by simp [Value.oneCell']) (by rw [show ((Tryz.prog.info? 5).get Jk).bytes=1 from by kernel_rfl];omega) Oo ?_
 ·rw [qd (hR.mem.get mh),Nat.zero_add];rw [List.getElem?_toArray];exact hv
 clear hR;intro A2 c2 w3 hR;have hfl:(l.map fun c=>Value.int .u8 c.toNat)++[.int .u8 201,.int .u8 202]=((l++[201,202]).map encB).flatten:=by
  rw [← qtn];simp
 rw [hfl] at hR;have hlen:(l++[(201:UInt8),202]).length=l.length+2:=by simp
 obtain ⟨h1,⟨_,h0⟩|⟨g,cap,cur,h2,h3,h4,h5,h6⟩⟩:=id hR.own
 ·cases h0
 cases h2;obtain ⟨o1,o2⟩:=qbs (enc:=encB) (fun _=>rfl) hR.own hlen;(conv=>whnf);refine SliceV.to 0 l.length c2 rfl rfl rfl Oo Oo znr (fun h=>by cases h) ?_;rw [if_neg Oo];(conv=>whnf);refine ⟨⟨g,c2,?_,o2,h3,o1⟩,hR.mem.ext⟩;rw [show tsz Tryz.prog 5=1 from by kernel_rfl];rfl
theorem qms (l:LB) (A:oA) (c base:Nat) (v:Value) (w:World) (hm:Roomy l base v w) (hS:SlAt encB 1 w A l) (hl:l.length≤140737488351232) :
  Gv Tryz.prog 12 [v,.slice A l.length c] w fun v w'=>v=.bool true∧Ext w w':=by
 obtain ⟨g,c2,rfl,hc2,_,o1⟩:=hm;have o0:SlAt encB 1 w (some ⟨g,0,none⟩) l:=by
  have:=o1.cut (lo:=0) (hi:=l.length) (m:=c2) Oo Js Oo rfl;rw [if_neg Oo,List.drop_zero,Nat.sub_zero,List.take_left] at this;exact this
 obtain ⟨g',o',e',hcell⟩:=o1.at_ Js;cases e';have hc1:w.cell? ⟨g,0+l.length,none⟩=some (.int .u8 201):=by
  have:=hcell l.length 201 Js 0 _ rfl;rw [Nat.mul_one,Nat.add_zero] at this;exact this
 have hc3:w.cell? ⟨g,0+(l.length+1),none⟩=some (.int .u8 202):=by
  have:=hcell (l.length+1) 202 (by rw [List.getElem?_append_right Oo];simp) 0 _ rfl;rw [Nat.mul_one,Nat.add_zero] at this;exact this
 refine ze Tryz.func12 Tryz.ntmps12 ?_;refine zv ?_;refine SliceV.to 0 (l.length+2) c2 rfl (qrx Oo) rfl Oo Oo znr (fun h=>by cases h) ?_;rw [if_neg Oo,show tsz Tryz.prog 5=1 from by kernel_rfl,show Option.map (fun x:Addr=>x.add (0*1)) (some ⟨g,0,none⟩)=some ⟨g,0,none⟩ from rfl,Nat.sub_zero,Nat.sub_zero];(conv=>whnf);refine zy ?_;refine zv ?_;refine SliceV.to 0 l.length c2 rfl (qrx rfl) rfl Oo Oo znr (fun h=>by cases h) ?_;rw [if_neg Oo,show tsz Tryz.prog 5=1 from by kernel_rfl,show Option.map (fun x:Addr=>x.add (0*1)) (some ⟨g,0,none⟩)=some ⟨g,0,none⟩ from rfl,Nat.sub_zero,Nat.sub_zero];refine zu ?_;refine BytesS.sl (o0.ext xr.drew) rfl (zu ?_);refine BytesS.sl (hS.ext xr.drew) rfl (zu ?_);have hsq:seq (⟨l.toArray⟩:ByteArray) ⟨l.toArray⟩=true:=qx.2 rfl;rw [hsq];refine zu ?_;refine ⟨⟨g,0,l.length,rfl,rfl,by omega,?_⟩⟩;rw [show tsz Tryz.prog 5=1 from by kernel_rfl,Nat.mul_one];refine zu ?_;refine LoadV.of (hc1) (zu ?_);refine ⟨⟨g,0,(l.length+1),rfl,rfl,by omega,?_⟩⟩;rw [show tsz Tryz.prog 5=1 from by kernel_rfl,Nat.mul_one];refine zu ?_;refine LoadV.of (hc3) (zu ?_);exact ⟨rfl,(Ext.refl w).drew⟩
theorem q6k {l:LB} {ts:List TM} (hV:VTm l 3 0 ts) {q:Nat→Nat} (h:∀ j,j<4→q j≤ts.length):sQ ts q=q4Of l q:=by
 have hv:∀ j,j<4→qcq l (q j)=some (sT ts (q j)):=fun j hj=>qns hV (h j hj)
 simp only [q4Of,uT,hv 0 Oo,hv 1 Oo,hv 2 Oo,hv 3 Oo,Option.getD_some];rfl
theorem q4a {l:LB} {ts:List TM} (hV:VTm (ql l) 3 0 ts) (hQ:∀ i,i<vNum (qg l) 3→(∀ j,j<4→tNum (qg l) i j≤ts.length)∧qck (sQ ts (tNum (qg l) i))=0) :
  (List.range (vNum (qg l) 3)).map (fun i=>sQ ts (tNum (qg l) i))=(List.range (vNum (qg l) 3)).map (qOf l):=
 List.map_congr_left fun i hi=>q6k hV (hQ i (List.mem_range.1 hi)).1
theorem qxt {l:LB} (h0:(poE l).2=0) {i:Nat} (hi:i<vNum (qg l) 3):qdj l i=.tuple #[qa0 (qOf l i),.bool true]:=by
 obtain ⟨_,_,_,_,ht0,_,_,hpf,_⟩:=qm7 h0;obtain ⟨h1,h2⟩:=hpf i hi;have hok:tOk (qg l) i=true:=qq8 (qre ht0) hi;have hp:PqOk l i:=⟨⟨hi,hok⟩,h1,h2⟩
 rw [qdj,if_pos hp];rfl
theorem que {l:LB} {i:Nat} (hi:¬ i<vNum (qg l) 3):qdj l i=.tuple #[qa0 zQ,.bool false]:=by
 have hp:¬ PqOk l i:=fun h=>hi h.1.1
 rw [qdj,if_neg hp]
theorem qm4 (l:LB) (A:oA) (c:Nat) (w:World) (hS:SlAt encB 1 w A l) (hc:l.length≤c) (hl:l.length≤140737488351232) (hNib:CellsAt w 1 0 qju) (hG:ErrTyp w)
  (hM:MaxLenAt w) (hT:CellsAt w 6 0 qbr) (hK:qdr w) :
  Gv Tryz.prog 3 [.slice A l.length c] w fun v w'=>v=.bool true∧Ext w w':=by
 refine ze Tryz.func3 Tryz.ntmps3 ?_;refine zcv (qyf l A c w hS hl) ?_;rintro v w1 ⟨hRm,he1⟩;obtain ⟨g,c2,hv,hc2,hge,hR1⟩:=id hRm;subst hv;have hSg:SlAt encB 1 w1 (some ⟨g,0,none⟩) l:=by
  have:=hR1.cut (lo:=0) (hi:=l.length) (m:=c2) Oo Js Oo rfl;rw [if_neg Oo,List.drop_zero,Nat.sub_zero,List.take_left] at this;exact this
 have hl':l.length≤140737488355328:=by omega
 have hc':l.length≤c2:=by omega
 (conv=>whnf);refine zcv (qj2 l (some ⟨g,0,none⟩) c2 w1 hSg hc' hl' (CellsAt.ext hNib he1) (hG.ext he1) (hM.ext he1) (hT.ext he1) (CellsAt.ext hK he1)) ?_;rintro v w2 ⟨hPo,he2⟩;have hx2:Ext w w2:=he1.trans he2
 rcases hPo with ⟨hE,ev,rfl,hErr⟩|⟨hE,pb,rfl,hPA⟩
 ·obtain ⟨be,rfl,hbe⟩:=id hErr;(conv=>whnf);refine zcv (qe0 l (some ⟨g,0,none⟩) c2 w2 (hSg.ext he2) hc' hl' (CellsAt.ext hNib hx2) (hG.ext hx2) (hM.ext hx2) (hT.ext hx2) (CellsAt.ext hK hx2)) ?_;rintro v w3 hD1
  rcases hD1 with ⟨_,he3,ev3,rfl,hErr3⟩|⟨h,_⟩
  case inr=>exact absurd h hE
  obtain ⟨be3,rfl,hbe3⟩:=id hErr3;have hx3:Ext w w3:=hx2.trans he3;(conv=>whnf);refine zcv (qe0 l (some ⟨g,0,none⟩) c2 w3 (hSg.ext (he2.trans he3)) hc' hl' (CellsAt.ext hNib hx3) (hG.ext hx3) (hM.ext hx3) (hT.ext hx3) (CellsAt.ext hK hx3)) ?_;rintro v w4 hD2
  rcases hD2 with ⟨_,he4,ev4,rfl,hErr4⟩|⟨h,_⟩
  case inr=>exact absurd h hE
  obtain ⟨be4,rfl,hbe4⟩:=id hErr4;have hx4:Ext w w4:=hx3.trans he4;(conv=>whnf);refine zcv (qlk l A c w4 (hS.ext hx4) hc hl) ?_;rintro v w5 ⟨hOp,he5⟩
  rcases hOp with ⟨_,rfl⟩|⟨h,_⟩
  case inr=>exact absurd h hE
  unfold infZ;have hx5:Ext w w5:=hx4.trans he5;(conv=>whnf);refine znm (Mem.nil w5) fun t10 w6 hm=>zw ?_;refine znm hm fun t13 w7 hm=>zw ?_;refine zS hm 1 fun w8 hm=>zw ?_;refine zS hm 0 fun w9 hm=>zw ?_;have hsame:∀ wd,Gv Tryz.prog 10 [.slice none 0 0,.slice none 0 0] wd fun v w'=>v=.bool true∧Ext wd w':=fun wd=>qcp [] none none 0 0 wd ⟨fun h=>absurd rfl h⟩ ⟨fun h=>absurd rfl h⟩ (Nat.zero_le _)
  refine DrawV.free Jk Jk (zw ?_);refine zd ?_;refine zsd (fltV (poE l).1 (poE l).2) (fun wd hd=>zw ?_) (zw ?_)
  ·refine zcv (qfu _ _ _ wd (hErr.ext (he3.trans (he4.trans (he5.trans (hm.ext.trans (xr.drew.trans hd))))))) ?_;rintro v wx ⟨rfl,hx⟩;exact ⟨hx,rfl⟩
  refine zsd (fltV (poE l).1 (poE l).2) (fun wd hd=>zw ?_) (zw ?_)
  ·refine LoadA.mem (hm.drew.call hd) (i:=0) rfl rfl (zw ?_);exact ⟨xr,rfl⟩
  refine zsd (.bool false) (fun wd hd=>zw ?_) (zw ?_)
  ·refine RunV.neqFlt (zw ?_);exact ⟨xr,rfl⟩
  refine zd ?_;refine zd ?_;apply zsd (fltV (poE l).1 (poE l).2)
  ·intro wd hd;refine zu ?_;refine zcv (qfu _ _ _ wd (hErr3.ext (he4.trans (he5.trans (hm.ext.trans (xr.drew.trans hd)))))) ?_;rintro v wx ⟨rfl,hx⟩;exact ⟨hx,rfl⟩
  (conv=>whnf);apply zsd (fltV (poE l).1 (poE l).2)
  ·intro wd hd;refine zu ?_;refine LoadA.mem (hm.drew.call hd) (i:=0) rfl rfl (zw ?_);exact ⟨xr,rfl⟩
  (conv=>whnf);apply zsd (.bool false)
  ·intro wd hd;refine zu ?_;refine RunV.neqFlt (zw ?_);exact ⟨xr,rfl⟩
  (conv=>whnf);(iterate 3 (refine zd ?_));apply StepD.of (fun v wx=>ErrAt wx v (poE l).1 (poE l).2) (fun _ _ _ h he=>h.ext he)
  ·intro wd hd;refine zu ?_;have hx:=hx5.trans (hm.ext.trans (xr.drew.trans hd));refine zcv (qlo l (some ⟨g,0,none⟩) c2 wd (hSg.ext (he2.trans (he3.trans (he4.trans (he5.trans (hm.ext.trans (xr.drew.trans hd))))))) hc' hl' (CellsAt.ext hNib hx) (hG.ext hx) (hM.ext hx) (hT.ext hx) (CellsAt.ext hK hx)) ?_;rintro v wx ⟨⟨h,hv⟩|⟨h,hv⟩,hx⟩
   ·exact absurd h hE
   ·exact ⟨hx,hv⟩
  (conv=>whnf);apply zsd (fltV (poE l).1 (poE l).2)
  ·intro wd hd;conv=>whnf
   repeat (rintro v ⟨b,rfl,hbb⟩;(conv=>whnf))
   refine zv ?_
   repeat (rintro v ⟨b,rfl,hbb⟩;(conv=>whnf))
   refine zcv (qfu _ _ _ wd ⟨_,rfl,by assumption⟩) ?_;rintro v wx ⟨rfl,hx⟩;exact ⟨hx,rfl⟩
  (conv=>whnf);apply zsd (fltV (poE l).1 (poE l).2)
  ·intro wd hd;refine zu ?_;refine LoadA.mem (hm.drew.call hd) (i:=0) rfl rfl (zw ?_);exact ⟨xr,rfl⟩
  (conv=>whnf);apply zsd (.bool false)
  ·intro wd hd;refine zu ?_;refine RunV.neqFlt (zw ?_);exact ⟨xr,rfl⟩
  (conv=>whnf);(iterate 3 (refine zd ?_));apply zsd (.bool true)
  ·intro wd hd;refine zu ?_;refine ⟨xr,?_⟩;rfl
  (conv=>whnf);refine zd ?_;refine zf ?_ (by intro wd hd;refine zu ?_;refine LoadV.mem (Mem.call (Mem.drew hm) hd) (i:=0) rfl rfl ?_;(conv=>whnf);exact ⟨xr,rfl⟩);apply zsd (.bool true)
  ·intro wd hd;refine zu ?_;refine ⟨xr,?_⟩;simp [hE]
  (conv=>whnf);apply zsd (.bool false)
  ·intro wd hd;refine zu ?_;refine ⟨xr,?_⟩;rfl
  (conv=>whnf);(iterate 4 (refine zd ?_));apply zsd (.bool true)
  ·intro wd hd;refine zu ?_;refine zcv (hsame wd) ?_;rintro v wx ⟨rfl,hx⟩;exact ⟨hx,rfl⟩
  (conv=>whnf);(iterate 5 (refine zd ?_));apply zsd (.bool true)
  ·intro wd hd;refine zu ?_;refine zcv (hsame wd) ?_;rintro v wx ⟨rfl,hx⟩;exact ⟨hx,rfl⟩
  (conv=>whnf);refine zd ?_;refine zd ?_;intro w10 he10;conv=>whnf
  repeat (rintro _ ⟨_,rfl,_⟩;(conv=>whnf))
  refine zv ?_;replace hm:=hm.drew.call he10;have hx10:Ext w5 w10:=hm.ext;refine zcv (qsq none 0 0 [] w10 w10 (Rw.nil (Mem.nil w10)) (Nat.zero_le _)) ?_;rintro v w11 ⟨hx11,_,_⟩;(conv=>whnf);refine zcv (hsame w11) ?_;rintro v w12 ⟨rfl,hx12⟩;refine zu ?_;have hex:Ext w w12:=hx5.trans (hx10.trans (hx11.trans hx12));refine zcv (qms l A c w.heap.size _ w12 (hRm.ext (he2.trans (he3.trans (he4.trans (he5.trans (hx10.trans (hx11.trans hx12))))))) (hS.ext hex) hl) ?_;rintro v w13 ⟨rfl,hx13⟩;refine zu ?_;exact ⟨rfl,hex.trans hx13⟩
 ·have hpo0:poE l=(0,0):=by
   obtain ⟨h1,h2,h3,h4,h5,h6,h7,h8,h9⟩:=qm7 hE;exact qxx h1 h2 h3 h4 h5 h6 h7 h8 h9
  have hsn:∀ wd,Gv Tryz.prog 8 [.nilIface] wd fun v w'=>v=fltV (poE l).1 (poE l).2∧Ext wd w':=fun wd=>by rw [hpo0];exact qq4 wd
  obtain ⟨N,eN⟩:∃ N,N=vNum (qg l) 3:=⟨_,rfl⟩
  obtain ⟨qs,eqs⟩:∃ qs,qs=(List.range N).map (qOf l):=⟨_,rfl⟩
  have hql:qs.length=N:=by rw [eqs];simp
  (conv=>whnf);refine zcv (qe0 l (some ⟨g,0,none⟩) c2 w2 (hSg.ext he2) hc' hl' (CellsAt.ext hNib hx2) (hG.ext hx2) (hM.ext hx2) (hT.ext hx2) (CellsAt.ext hK hx2)) ?_;rintro v w3 hD1
  rcases hD1 with ⟨h,_⟩|⟨_,LA,lc,rfl,hRl⟩
  ·exact absurd hE h
  rw [← eN] at hRl;have he3:=hRl.mem.ext;rw [← eN];have hx3:Ext w w3:=hx2.trans he3;(conv=>whnf);refine zcv (qe0 l (some ⟨g,0,none⟩) c2 w3 (hSg.ext (he2.trans he3)) hc' hl' (CellsAt.ext hNib hx3) (hG.ext hx3) (hM.ext hx3) (hT.ext hx3) (CellsAt.ext hK hx3)) ?_;rintro v w4 hD2
  rcases hD2 with ⟨h,_⟩|⟨_,MA,mc,rfl,hRm2⟩
  ·exact absurd hE h
  rw [← eN] at hRm2;have he4:=hRm2.mem.ext;rw [← eN];have hx4:Ext w w4:=hx3.trans he4;(conv=>whnf);refine zcv (qlk l A c w4 (hS.ext hx4) hc hl) ?_;rintro v w5 ⟨hOp,he5⟩
  rcases hOp with ⟨h,_⟩|⟨_,ts,hVT,hLv,hQ,OA,oc,QB,qc,rfl,hqc,hQS,hQO⟩
  ·exact absurd hE h
  rw [q4a hVT hQ,← eN,← eqs] at hQS hQO;rw [← eN] at hqc ⊢;have htl:vTot (ql l) 3≤12582912:=by
   obtain ⟨vb,tb,_,hvt,_⟩:=id hPA;exact hvt.tot Oo
  have hNb:N≤1048576:=by
   obtain ⟨vb,tb,_,_,htt⟩:=id hPA;rw [eN];exact htt.n 3 Oo
  unfold inf4;have hx5:Ext w w5:=hx4.trans he5;(conv=>whnf);refine znm (Mem.nil w5) fun t10 w6 hm=>zw ?_;refine znm hm fun t13 w7 hm=>zw ?_;refine zS hm 1 fun w8 hm=>zw ?_;refine zS hm 0 fun w9 hm=>zw ?_;have hsame:∀ wd,Ext w9 wd→Gv Tryz.prog 10 [.slice LA N lc,.slice QB N qc] wd fun v w'=>v=.bool true∧Ext wd w':=fun wd hd=>by
   have hx:=he4.trans (he5.trans (hm.ext.trans hd));have h1:=qbs (w:=wd) (enc:=qae) (l:=qs) qdk (by have:=(hRl.call hx).own;rw [qRow,← eqs] at this;exact this) hql;have h2:=qcp qs LA QB lc qc wd h1.1 (hQS.ext (hm.ext.trans hd)) Oo
   rwa [hql] at h2
  have hsame2:∀ wd,Ext w9 wd→Gv Tryz.prog 10 [.slice MA N mc,.slice QB N qc] wd fun v w'=>v=.bool true∧Ext wd w':=fun wd hd=>by
   have hx:=he5.trans (hm.ext.trans hd);have h1:=qbs (w:=wd) (enc:=qae) (l:=qs) qdk (by have:=(hRm2.call hx).own;rw [qRow,← eqs] at this;exact this) hql;have h2:=qcp qs MA QB mc qc wd h1.1 (hQS.ext (hm.ext.trans hd)) Oo
   rwa [hql] at h2
  refine DrawV.free Jk Jk (zw ?_);refine zd ?_;refine zsd (fltV (poE l).1 (poE l).2) (fun wd hd=>zw ?_) (zw ?_)
  ·refine zcv (hsn wd) ?_;rintro v wx ⟨rfl,hx⟩;exact ⟨hx,rfl⟩
  refine zsd (fltV 0 0) (fun wd hd=>zw ?_) (zw ?_)
  ·refine LoadA.mem (hm.drew.call hd) (i:=0) rfl rfl (zw ?_);exact ⟨xr,rfl⟩
  refine zsd (.bool false) (fun wd hd=>zw ?_) (zw ?_)
  ·rw [hpo0];refine RunV.neqFlt (zw ?_);exact ⟨xr,rfl⟩
  refine zd ?_;refine zd ?_;apply zsd (fltV (poE l).1 (poE l).2)
  ·intro wd hd;refine zu ?_;refine zcv (hsn wd) ?_;rintro v wx ⟨rfl,hx⟩;exact ⟨hx,rfl⟩
  (conv=>whnf);apply zsd (fltV 0 0)
  ·intro wd hd;refine zu ?_;refine LoadA.mem (hm.drew.call hd) (i:=0) rfl rfl (zw ?_);exact ⟨xr,rfl⟩
  (conv=>whnf);apply zsd (.bool false)
  ·intro wd hd;refine zu ?_;rw [hpo0];refine RunV.neqFlt (zw ?_);exact ⟨xr,rfl⟩
  (conv=>whnf);(iterate 3 (refine zd ?_));apply zsd .nilIface
  ·intro wd hd;refine zu ?_;have hx:=hx5.trans (hm.ext.trans (xr.drew.trans hd));refine zcv (qlo l (some ⟨g,0,none⟩) c2 wd (hSg.ext (he2.trans (he3.trans (he4.trans (he5.trans (hm.ext.trans (xr.drew.trans hd))))))) hc' hl' (CellsAt.ext hNib hx) (hG.ext hx) (hM.ext hx) (hT.ext hx) (CellsAt.ext hK hx)) ?_;rintro v wx ⟨⟨h,hv⟩|⟨h,hv⟩,hx⟩
   ·exact ⟨hx,hv⟩
   ·exact absurd hE h
  (conv=>whnf);apply zsd (fltV (poE l).1 (poE l).2)
  ·intro wd hd;refine zu ?_;refine zcv (hsn wd) ?_;rintro v wx ⟨rfl,hx⟩;exact ⟨hx,rfl⟩
  (conv=>whnf);apply zsd (fltV 0 0)
  ·intro wd hd;refine zu ?_;refine LoadA.mem (hm.drew.call hd) (i:=0) rfl rfl (zw ?_);exact ⟨xr,rfl⟩
  (conv=>whnf);apply zsd (.bool false)
  ·intro wd hd;refine zu ?_;rw [hpo0];refine RunV.neqFlt (zw ?_);exact ⟨xr,rfl⟩
  (conv=>whnf);(iterate 3 (refine zd ?_));apply zsd (.bool false)
  ·intro wd hd;refine zu ?_;refine ⟨xr,?_⟩;rfl
  (conv=>whnf);refine zd ?_;refine zf ?_ (by intro wd hd;refine zu ?_;refine LoadV.mem (Mem.call (Mem.drew hm) hd) (i:=0) rfl rfl ?_;(conv=>whnf);exact ⟨xr,rfl⟩);apply zsd (.bool false)
  ·intro wd hd;refine zu ?_;refine ⟨xr,?_⟩;simp
  (conv=>whnf);apply zsd (.bool false)
  ·intro wd hd;refine zu ?_;refine ⟨xr,?_⟩;rfl
  (conv=>whnf);(iterate 4 (refine zd ?_));apply zsd (.bool true)
  ·intro wd hd;refine zu ?_;refine zcv (hsame wd (xr.drew.trans hd)) ?_;rintro v wx ⟨rfl,hx⟩;exact ⟨hx,rfl⟩
  (conv=>whnf);(iterate 5 (refine zd ?_));apply zsd (.bool true)
  ·intro wd hd;refine zu ?_;refine zcv (hsame2 wd (xr.drew.trans hd)) ?_;rintro v wx ⟨rfl,hx⟩;exact ⟨hx,rfl⟩
  (conv=>whnf);refine zd ?_;refine zd ?_;intro w10 he10;conv=>whnf
  repeat (rintro _ ⟨_,rfl,_⟩;(conv=>whnf))
  refine zv ?_;replace hm:=hm.drew.call he10;have hx10:Ext w5 w10:=hm.ext;have hRl10:=hRl.call (he4.trans (he5.trans hx10));have hRm10:=hRm2.call (he5.trans hx10);have hQ10:w10.ownsRow w4.heap.size 53 16 (.slice QB N qc) N (qs.map qae).flatten:=qb3 hQO hx10;refine zcv (qsq LA lc N _ w2 w10 hRl10 Oo) ?_;rintro v w11 ⟨hx11,hk11,hs11⟩;have hlow:N≠0→ownN LA w10<w3.heap.size:=fun hN0=>by
   rcases hRl.own.2 with ⟨e1,e2⟩|⟨g0,cap,cur,e1,_,h3,_⟩
   ·exact absurd e2 hN0
   ·cases e1;exact qjj h3
  have hnb:∀ k,w3.heap.size≤k→k<w10.heap.size→N≠0→w11.heap[k]?=w10.heap[k]?:=fun k h1 h2 h3=>hk11 k h2 (by have:=hlow h3;omega)
  have hMS:SlAt qae 16 w11 MA qs∧SlAt qae 16 w11 QB qs:=by
   by_cases hN0:N=0
   ·have:qs=[]:=List.eq_nil_of_length_eq_zero Oo;subst this;exact ⟨⟨fun h=>absurd rfl h⟩,⟨fun h=>absurd rfl h⟩⟩
   ·have h1:=qcx hRm10.own (fun c h1 h2=>hnb c h1 h2 hN0);have h2:=qcx hQ10 (fun c h1 h2=>hnb c (Nat.le_trans he4.size h1) h2 hN0);rw [qRow,← eqs] at h1;exact ⟨(qbs (enc:=qae) (l:=qs) qdk h1 hql).1,(qbs (enc:=qae) (l:=qs) qdk h2 hql).1⟩
  obtain ⟨hM11,hQ11⟩:=hMS;have hg10:=hm.get (zmg (i:=1) rfl);have ht10:w11.heap[t10]?=some (.cells #[ii (hN l 2),ii (hN l 3),ii (hN l 4),ii (hN l 5)] 33):=by
   refine (hk11 t10 (qjj hg10) ?_).trans hg10;have h5:w5.heap.size≤t10:=(hm.own (t10,.cells #[ii (hN l 2),ii (hN l 3),ii (hN l 4),ii (hN l 5)] 33) (zmg (i:=1) rfl)).1;have h6:=(he4.trans he5).size;intro e
   by_cases hN0:N=0
   ·rcases hRl.own.2 with ⟨e1,e2⟩|⟨g0,cap,cur,e1,_,h3,_⟩
    ·cases e1;have:t10<w10.heap.size:=qjj hg10;have e:t10=w10.heap.size:=e;omega
    ·cases e1;have:=qjj h3;have e:t10=g0:=e;omega
   ·have:=hlow hN0;omega
  have hm1:=hx11;clear hm;have hx2b:Ext w w11:=hx2.trans hx11;(conv=>whnf);have hsm:=qcp qs MA QB mc qc w11 hM11 hQ11 Oo;rw [hql] at hsm;refine zcv (hsm) ?_;rintro v w12 ⟨rfl,hx12⟩;refine zu ?_;refine zcv (qms l A c w.heap.size _ w12 (hRm.ext (he2.trans (hx11.trans hx12))) (hS.ext (hx2b.trans hx12)) hl) ?_;rintro v w13 ⟨rfl,hx13⟩;have hxw:Ext w11 w13:=hx12.trans hx13;have ht13:=hxw.get ht10;have hP13:=hPA.ext (hx11.trans hxw);refine zu ?_;refine DrawV.free Jk Jk (zw ?_);refine zd ?_;refine zsd (inf4 l) (fun wd hd=>zw ?_) (zw ?_)
  ·refine zcv (quh pb l wd (hP13.ext (xr.drew.trans hd))) ?_;rintro v wx ⟨rfl,hx⟩;exact ⟨hx,rfl⟩
  refine zsd (inf4 l) (fun wd hd=>zw ?_) (zw ?_)
  ·refine LoadA.own ((xr.drew.trans hd).get ht13) rfl (zw ?_);exact ⟨xr,rfl⟩
  refine zsd (.bool false) (fun wd hd=>zw ?_) (zw ?_)
  ·refine RunV.neqInf (zw ?_);exact ⟨xr,rfl⟩
  refine zd ?_;refine zd ?_;apply StepD.of (fun v wx=>∃ vb,v=pp vb∧VocAt wx vb (ql l)) (fun _ _ _ ⟨vb,h1,h2⟩ he=>⟨vb,h1,h2.ext he⟩)
  ·intro wd hd;refine zu ?_;refine zcv (qj3 pb l wd (hP13.ext (xr.drew.trans hd))) ?_;rintro v wx ⟨⟨vb,rfl,hv⟩,rfl⟩;exact ⟨xr,vb,rfl,hv⟩
  (conv=>whnf);refine zsd (.bool false) (fun wd hd=>zw ?_) (zw ?_)
  ·rintro v ⟨vb,rfl,_⟩;refine zu ?_;exact ⟨xr,rfl⟩
  (iterate 3 (refine zd ?_));apply StepD.of (fun v wx=>∃ vb,v=pp vb∧TreeAt wx vb (qg l)) (fun _ _ _ ⟨vb,h1,h2⟩ he=>⟨vb,h1,h2.ext he⟩)
  ·intro wd hd;refine zu ?_;refine zcv (qlp pb l wd (hP13.ext (xr.drew.trans hd))) ?_;rintro v wx ⟨⟨vb,rfl,hv⟩,rfl⟩;exact ⟨xr,vb,rfl,hv⟩
  (conv=>whnf);refine zsd (.bool false) (fun wd hd=>zw ?_) (zw ?_)
  ·rintro v ⟨vb,rfl,_⟩;refine zu ?_;exact ⟨xr,rfl⟩
  (iterate 3 (refine zd ?_));apply StepD.of (fun v wx=>∃ vb,v=pp vb∧VocAt wx vb (ql l)) (fun _ _ _ ⟨vb,h1,h2⟩ he=>⟨vb,h1,h2.ext he⟩)
  ·intro wd hd;refine zu ?_;refine zcv (qj3 pb l wd (hP13.ext (xr.drew.trans hd))) ?_;rintro v wx ⟨⟨vb,rfl,hv⟩,rfl⟩;exact ⟨xr,vb,rfl,hv⟩
  (conv=>whnf);apply zsd (ii (vTot (ql l) 3:Nat))
  ·intro wd hd;conv=>whnf
   repeat (rintro v ⟨vb,rfl,hv⟩;(conv=>whnf))
   refine zv ?_
   repeat (rintro v ⟨vb,rfl,hv⟩;(conv=>whnf))
   refine zcv (qh1 _ _ wd Oa) ?_;rintro v wx ⟨rfl,rfl⟩;exact ⟨xr,rfl⟩
  (conv=>whnf);refine zd ?_;refine zd ?_;apply zsd (.bool false)
  ·intro wd hd;refine zu ?_;refine ⟨xr,?_⟩;simp
  (conv=>whnf);(iterate 3 (refine zd ?_));apply StepD.of (fun v wx=>∃ vb,v=pp vb∧TreeAt wx vb (qg l)) (fun _ _ _ ⟨vb,h1,h2⟩ he=>⟨vb,h1,h2.ext he⟩)
  ·intro wd hd;refine zu ?_;refine zcv (qlp pb l wd (hP13.ext (xr.drew.trans hd))) ?_;rintro v wx ⟨⟨vb,rfl,hv⟩,rfl⟩;exact ⟨xr,vb,rfl,hv⟩
  (conv=>whnf);apply zsd (ii (N:Nat))
  ·intro wd hd;conv=>whnf
   repeat (rintro v ⟨vb,rfl,hv⟩;(conv=>whnf))
   refine zv ?_
   repeat (rintro v ⟨vb,rfl,hv⟩;(conv=>whnf))
   refine zcv (qiy _ _ wd Oa) ?_;rintro v wx ⟨rfl,rfl⟩;exact ⟨xr,by rw [eN]⟩
  (conv=>whnf);refine zd ?_;refine zd ?_;apply zsd (.bool false)
  ·intro wd hd;refine zu ?_;refine ⟨xr,?_⟩;simp
  (conv=>whnf);refine zd ?_;intro w14 he14;conv=>whnf
  repeat (rintro _ ⟨_,rfl,_⟩;(conv=>whnf))
  refine zv ?_;have hxz:Ext w11 w14:=hxw.trans (xr.drew.trans he14);have hP14:=hPA.ext (hx11.trans hxz);have hxw14:Ext w w14:=hx2b.trans hxz;refine qr (fun x:Nat=>[(0,.slice A l.length c),(3,.slice (some ⟨g,0,none⟩) l.length c2),(4,pp pb),(12,.slice QB N qc),(14,ii ((x:Int)-1))]) (fun x w'=>x≤N+2∧Ext w14 w') (fun x=>N+2-x) 0
   ⟨rfl,rfl,rfl,rfl,rfl,trivial⟩ ⟨by omega,xr⟩ ?_
  rintro x w15 ρ' ⟨hx,he15⟩;have hPx:=hP14.ext he15;have hxx:Ext w w15:=hxw14.trans he15;have hmx:=hM.ext hxx;have htx:=hT.ext hxx;have hkx:=CellsAt.ext hK hxx
  rcases (show x=0∨x=N+1∨x=N+2∨∃ i,i<N∧x=i+1 by
   by_cases h:x=0∨x=N+1∨x=N+2
   ·omega
   ·exact .inr (.inr (.inr ⟨x-1,by omega,by omega⟩))) with rfl|rfl|rfl|⟨i,hi,rfl⟩
  ·refine zu ?_;have hquad:∀ z:Int,z=-1→Gv Tryz.prog 18 [pp pb,ii z] w15 fun v w'=>v=.tuple #[qa0 zQ,.bool false]∧Ext w15 w':=fun z hz=>by
    subst hz;exact qot pb l w15 hPx
   refine zcv (hquad _ Oo) ?_;rintro v w16 ⟨rfl,he16⟩;(conv=>whnf);refine znm (Mem.nil w16) fun t15 w17 hm=>zw ?_;refine StoreA.all hm (i:=0) rfl rfl (qcy zQ) fun w18 hm=>zu ?_;refine zy ?_;refine zv ?_;refine zl hm.drew 0 ?_;refine zv ?_;refine RunV.neqQd (a:=zQ) (b:=zQ) ?_;rw [qgp.2 rfl];refine zu ?_;exact ⟨1,⟨rfl,rfl,rfl,rfl,congrArg (Value.int .i64) Oo,trivial⟩,⟨by omega,he15.trans (he16.trans hm.drew.ext)⟩,by omega⟩
  ·refine zu ?_;have hquad:∀ z:Int,z=(N:Int)→Gv Tryz.prog 18 [pp pb,ii z] w15 fun v w'=>v=.tuple #[qa0 zQ,.bool false]∧Ext w15 w':=fun z hz=>by
    subst hz;have:=qos pb l N w15 hPx Oo hmx htx hkx
    rwa [que Oo] at this
   refine zcv (hquad _ Oo) ?_;rintro v w16 ⟨rfl,he16⟩;(conv=>whnf);refine znm (Mem.nil w16) fun t15 w17 hm=>zw ?_;refine StoreA.all hm (i:=0) rfl rfl (qcy zQ) fun w18 hm=>zu ?_;have hdd:decide (((N+1:Nat):Int)-1<(N:Int))=false:=decide_eq_false Oo;rw [hdd];refine zy ?_;refine zv ?_;refine zl hm.drew 0 ?_;refine zv ?_;refine RunV.neqQd (a:=zQ) (b:=zQ) ?_;rw [qgp.2 rfl];refine zu ?_;exact ⟨N+1+1,⟨rfl,rfl,rfl,rfl,congrArg (Value.int .i64) Oo,trivial⟩,⟨by omega,he15.trans (he16.trans hm.drew.ext)⟩,by omega⟩
  ·refine zu ?_;refine zcv (qms l A c w.heap.size _ w15 (hRm.ext (he2.trans (hx11.trans (hxz.trans he15)))) (hS.ext hxx) hl) ?_;rintro v w16 ⟨rfl,he16⟩;(conv=>whnf);exact ⟨rfl,hxx.trans he16⟩
  ·have hil:i<qs.length:=by omega
   have hqi:qs[i]=qOf l i:=by simp [eqs]
   have hQx:=hQ11.ext (hxz.trans he15);refine zu ?_;have hquad:∀ z:Int,z=(i:Int)→Gv Tryz.prog 18 [pp pb,ii z] w15 fun v w'=>v=.tuple #[qa0 (qOf l i),.bool true]∧Ext w15 w':=fun z hz=>by
    subst hz;have:=qos pb l i w15 hPx Oo hmx htx hkx
    rwa [qxt hE Oo] at this
   refine zcv (hquad _ Oo) ?_;rintro v w16 ⟨rfl,he16⟩;obtain ⟨q,eq⟩:∃ q,q=qOf l i:=⟨_,rfl⟩
   rw [← eq];(conv=>whnf);refine znm (Mem.nil w16) fun t15 w17 hm=>zw ?_;refine StoreA.all hm (i:=0) rfl rfl (qcy q) fun w18 hm=>zu ?_;obtain ⟨gq,oq,eQ,hcl⟩:=hQx.at_ (by intro e;rw [e] at hil;simp at hil);have hcj:=CellsAt.ext (hcl i _ (zge hil)) (he16.trans (hm.ext.trans xr.drew));subst eQ;have hdd:decide (((i+1:Nat):Int)-1<(N:Int))=true:=decide_eq_true Oo;rw [hdd];refine zy ?_;refine zv ?_;refine zl hm.drew 0 ?_;refine zv ?_;refine ⟨⟨gq,oq,i,rfl,by omega,by omega,?_⟩⟩;rw [show tsz Tryz.prog 53=16 from by kernel_rfl];refine zu ?_;refine LoadA.cells hcj rfl (zu ?_);refine RunV.neqQd (a:=q) (b:=qs[i]) ?_;rw [hqi,← eq,qgp.2 rfl];refine zu ?_;exact ⟨i+1+1,⟨rfl,rfl,rfl,rfl,congrArg (Value.int .i64) Oo,trivial⟩,⟨by omega,he15.trans (he16.trans hm.drew.ext)⟩,by omega⟩
open Go.RowKit
namespace V
theorem qsg {P:Program} {w:World}:∀ {l:List (String × DataW Unit)} {ps:List MemPlace},DataW.LaidVars P w l ps→∀ {n:String} {d:DataW Unit},(n,d)∈l→
  ∃ g t cs fuel p,P.globalNamed n=some g∧(P.globals[g]?).map (·.type)=some t∧w.var? P n=some cs∧DataW.trod (fun _=>()) P w 0 (fun _=>true) false fuel t cs.toList=some (d,p)
 | [],_,_,_,_,h=>by cases h
 | (n0,d0)::r,ps,h,n,d,hm=>by
  obtain ⟨g,t,cs,fuel,p,q,h1,h2,h3,h4,h5,_⟩:=h
  rcases List.mem_cons.1 hm with e|hm
  ·cases e;exact ⟨g,t,cs,fuel,p,h1,h2,h3,h4⟩
  ·exact qsg h5 hm
theorem qmt {P:Program} {W:World} {name:String} {k:IntKind} {zs:List Int} {l:List (String × DataW Unit)} {g:Nat} {t e:TypeId} {n:Nat}
  (hg:P.globalNamed name=some g) (hty:(P.globals[g]?).map (·.type)=some t) (ht:P.underlying t=some (.array n e)) (he:P.underlying e=some (.int k)) (hce:P.cellsOf e=1) (hct:P.cellsOf t=n)
  (h:laidMet P l W) (hm:(name,Lib.tabData k zs)∈l):CellsAt W g 0 (zs.map fun z=>Value.int k z):=by
 obtain ⟨ps,h,_⟩:=h;obtain ⟨g',t',cs,fuel,p,hg',ht',hvar,hd⟩:=qsg h hm;obtain rfl:=Option.some.inj (hg.symm.trans hg');obtain rfl:=Option.some.inj (hty.symm.trans ht');have hT:Lib.TabIs P W name k zs:=by
  unfold Lib.TabIs;rw [hvar,← Lib.cells_of_tab ht he hce hct hd]
 intro i v hv;have hi:i<zs.length:=by simpa using (List.getElem?_eq_some_iff.1 hv).1
 have:=hT.cell hg i hi;rw [Nat.zero_add,this];rw [List.getElem?_map,zge hi] at hv;rw [List.getD_eq_getElem?_getD,zge hi]
 simpa using hv
end V
open Go.ChangeShapes Go.WideShapes Go.ChangeAt Go.RowKit
theorem own:ownKnob Tryz.prog.godebug=none:=by kernel_rfl
theorem q0h:laidOutB Tryz.prog=true:=by kernel_rfl
mutual
def q10:DataW Unit→List Value
 | .lit (.int k n)=>[.int k n]
 | .agg l=>cellsDs l
 | _=>[]
def cellsDs:List (DataW Unit)→List Value
 | []=>[]
 | d::l=>q10 d++cellsDs l
end
def q5f (w:World) (x:Nat × DataW Unit):World:=
 { w with heap:=w.heap.modify x.1 fun
   | .cells _ t frozen=>.cells (q10 x.2).toArray t frozen
   | o=>o }
noncomputable def q5e (os:Os) (l:List (Nat × DataW Unit)):World:=l.foldl q5f (World.holding Tryz.prog os ⟨#[],#[],[]⟩)
end Go.Proofs.YtaiiejogocblgaaGreatDoor
