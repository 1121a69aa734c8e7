/- Lemmas and contracts of functions on the way to the law's card (part 7 of 13). -/
import Derived.Test.YtajgbepghniciaaGreatDoorPV6
namespace Go.Proofs.YtajgbepghniciaaGreatDoor
open Go.RowKit V
set_option maxRecDepth 100000
def VecP (w:World) (V s:Value) (l:List UInt8) (k:Nat):Prop:=
 ((k=0∨tVec l k=false)∧V=.pointer none)∨(0<k∧tVec l k=true∧∃ vb,V=.pointer (some ⟨vb,0,none⟩)∧w.heap[vb]?=some (vecO 276 s (vNum l k) (vNum l (k-1))))
structure LvAt (w:World) (b:Nat) (l:List UInt8) (k:Nat):Prop where
 h:∃ P cp S cs V,CellsAt w b (8*k) [.int .i64 (vNum l k),.int .i64 (tw l k),.int .i64 (tvAt l k),.int .i64 (tvAt l k+1:Nat),.int .i64 (tEnd l k),.slice P (qr l k).length cp,.slice S (qk l k).length cs,V]∧
  SlAt encB 1 w P (qr l k)∧SlAt encB 1 w S (qk l k)∧(qk l k).length≤cs∧VecP w V (.slice S (qk l k).length cs) l k
theorem VecP.ext {w w':World} {V s:Value} {l:List UInt8} {k:Nat} (h:VecP w V s l k) (he:Ext w w'):VecP w' V s l k:=by
 rcases h with h|⟨h1,h2,vb,h3,h4⟩
 ·exact .inl h
 ·exact .inr ⟨h1,h2,vb,h3,he.get h4⟩
theorem LvAt.ext {w w':World} {b:Nat} {l:List UInt8} {k:Nat} (h:LvAt w b l k) (he:Ext w w'):LvAt w' b l k:=by
 obtain ⟨P,cp,S,cs,V,h1,h2,h3,h4,h5⟩:=h;exact ⟨P,cp,S,cs,V,h1.ext he,h2.ext he,h3.ext he,h4,h5.ext he⟩
structure TreeAt (w:World) (b:Nat) (l:List UInt8):Prop where
 lv:∀ k,k<4→LvAt w b l k
 n:∀ k,k<4→vNum l k≤1048576
 wd:∀ k,k<4→tw l k≤23
theorem TreeAt.ext {w w':World} {b:Nat} {l:List UInt8} (h:TreeAt w b l) (he:Ext w w'):TreeAt w' b l:=⟨fun k hk=>(h.lv k hk).ext he,h.n,h.wd⟩
def tF0 (j:Nat):Value:=if j%8<5 then .int .i64 0 else if j%8<7 then .slice none 0 0 else .pointer none
def TVwR (l:List UInt8) (v:Value) (w0 w:World):Prop:=
 ((tE l).2≠0∧∃ e,v=.tuple #[.pointer none,e]∧ErrAt w e (tE l).1 (tE l).2)∨
 ((tE l).2=0∧∃ b,v=.tuple #[.pointer (some ⟨b,0,none⟩),.nilIface]∧w0.heap.size≤b∧TreeAt w b l)
def tPV (A:Option Addr) (c:Nat) (l:List UInt8) (k:Nat):Value:=.slice (if c=tvAt l k+1 then A else A.map (·.add ((tvAt l k+1)*1))) (tEnd l k-(tvAt l k+1)) (c-(tvAt l k+1))
def tSV (A:Option Addr) (c:Nat) (l:List UInt8) (k:Nat):Value:=.slice (if c=tEnd l k then A else A.map (·.add (tEnd l k*1))) (tvAt l (k+1)-tEnd l k) (c-tEnd l k)
def VecM (L:List (Nat × Obj)) (V s:Value) (l:List UInt8) (k:Nat):Prop:=
 ((k=0∨tVec l k=false)∧V=.pointer none)∨(0<k∧tVec l k=true∧∃ vb,V=.pointer (some ⟨vb,0,none⟩)∧(vb,vecO 276 s (vNum l k) (vNum l (k-1)))∈L)
structure LvF (L:List (Nat × Obj)) (A:Option Addr) (c:Nat) (l:List UInt8) (F:Nat→Value) (j:Nat):Prop where
 f1:F (8*j+1)=.int .i64 (tw l j)
 f2:F (8*j+2)=.int .i64 (tvAt l j)
 f3:F (8*j+3)=.int .i64 (tvAt l j+1:Nat)
 f4:F (8*j+4)=.int .i64 (tEnd l j)
 f5:F (8*j+5)=tPV A c l j
 f6:F (8*j+6)=tSV A c l j
 f7:VecM L (F (8*j+7)) (tSV A c l j) l j
theorem LvF.same {L:List (Nat × Obj)} {A:Option Addr} {c:Nat} {l:List UInt8} {F G:Nat→Value} {j:Nat} (h:LvF L A c l F j) (hs:∀ i,i<8→G (8*j+i)=F (8*j+i)):LvF L A c l G j:=
 ⟨by rw [hs 1 (by omega)];exact h.f1,by rw [hs 2 (by omega)];exact h.f2,by rw [hs 3 (by omega)];exact h.f3,by rw [hs 4 (by omega)];exact h.f4,by rw [hs 5 (by omega)];exact h.f5,by rw [hs 6 (by omega)];exact h.f6,by rw [hs 7 (by omega)];exact h.f7⟩
theorem VecM.more {L:List (Nat × Obj)} {x:Nat × Obj} {V s:Value} {l:List UInt8} {k:Nat} (h:VecM L V s l k):VecM (x::L) V s l k:=by
 rcases h with h|⟨h1,h2,vb,h3,h4⟩
 ·exact .inl h
 ·exact .inr ⟨h1,h2,vb,h3,List.mem_cons_of_mem _ h4⟩
theorem LvF.more {L:List (Nat × Obj)} {x:Nat × Obj} {A:Option Addr} {c:Nat} {l:List UInt8} {F:Nat→Value} {j:Nat} (h:LvF L A c l F j):LvF (x::L) A c l F j:=⟨h.f1,h.f2,h.f3,h.f4,h.f5,h.f6,h.f7.more⟩
def twoF (G:Nat→Value) (i j:Nat) (p q:Value) (a b:Bool):Nat→Value:=fun x=>if x=i then (bif a then p else G x) else if x=j then (bif b then q else G x) else G x
theorem qll (G:Nat→Value) (i j:Nat) (p q:Value) (a b:Bool):updF (twoF G i j p q a b) i p=twoF G i j p q true b:=by
 funext x
 by_cases h:x=i
 ·subst h;simp [updF,twoF]
 ·simp [updF,twoF,h]
theorem qp5 (G:Nat→Value) (i j:Nat) (p q:Value) (a b:Bool) (hij:j≠i):updF (twoF G i j p q a b) j q=twoF G i j p q a true:=by
 funext x
 by_cases h:x=j
 ·subst h;simp [updF,twoF,hij]
 ·simp [updF,twoF,h]
theorem qog (G:Nat→Value) (i j:Nat) (p q:Value):twoF G i j p q false false=G:=by
 funext x
 simp [twoF]
theorem qac (G:Nat→Value) (i j:Nat) (p q:Value) (a b:Bool) (x:Nat) (h1:x≠i) (h2:x≠j):twoF G i j p q a b x=G x:=by simp [twoF,h1,h2]
theorem qm9 {l:List UInt8} {k:Nat} (h:(tvF l k).2=0):tvAt l k<l.length∧tw l k≤23∧tvAt l (k+1)≤l.length:=by
 rw [tvF] at h
 split at h
 ·cases h
 split at h
 ·cases h
 split at h
 ·cases h
 ·omega
theorem qf1 {l:List UInt8} {k:Nat} (h:(tcF l k).2=0):vNum l k≤1048576:=by
 rw [tcF] at h
 split at h
 ·rename_i h0;exact absurd h h0
 ·rename_i h0
  unfold numE at h0
  split at h0
  ·rename_i h1;exact absurd h1 h0
  ·split at h0
   ·exact absurd (by simp) h0
   ·omega
theorem qlj {l:List UInt8} {k:Nat} (h:(tcF l k).2=0) (hk:0<k):vNum l (k-1)≤vNum l k:=by
 rw [tcF] at h
 split at h
 ·rename_i h0;exact absurd h h0
 ·split at h
  ·cases h
  ·omega
set_option maxHeartbeats 2000000 in
theorem quz (l:List UInt8) (A:Option Addr) (c:Nat) (w:World) (hS:SlAt encB 1 w A l) (hc:l.length≤c) (hl:l.length≤140737488355328) :
  Gv Tryz.prog 55 [.slice A l.length c] w fun v w'=>TVwR l v w w'∧Ext w w':=by
 have hv0:BS w (.slice A l.length c) l:=⟨A,c,rfl,hc,hS⟩
 refine zE Tryz.func55 Tryz.ntmps55 ?_;(conv=>whnf);refine NewV.mem (Mem.nil w) ?_;intro tb w1 hm;have hm:Mem w w1 [(tb,.cells (fnA 32 tF0) 152 (0,0))]:=hm;(conv=>whnf);refine CallV.of (qdg _ l w1 (hv0.ext hm.ext)) ?_;rintro v w2 ⟨cb,rfl,hcb,hco,he2⟩;have hm:Mem w w2 [(cb,curO 251 (.slice A l.length c) 0 0),(tb,.cells (fnA 32 tF0) 152 (0,0))]:=hm.fresh he2 hcb hco;(conv=>whnf);refine CallV.of (qoc l _ tb cb tF0 w w2 hm hv0 hl) ?_;rintro v w3 (⟨h0,⟨eb,rfl,hec⟩,he⟩|⟨hz,rfl,F1,hF1,hF1b,hm⟩)
 ·(conv=>whnf);refine Tst.yes rfl ?_;(conv=>whnf);have hE:tE l=errF (tcF l) 4:=by rw [tE,if_pos h0]
  exact ⟨.inl ⟨by rw [hE];exact h0,_,rfl,by rw [hE];exact ⟨eb,rfl,hec⟩⟩,he⟩
 (conv=>whnf);refine Tst.no rfl ?_;(conv=>whnf);refine CallV.of (qg2 cb _ (vAt l 4) 0 w3 (hm.get (List.mem_cons_self ..))) ?_;rintro v w4 ⟨rfl,rfl⟩;have hm:=hm.sub (List.sublist_cons_self ..);have hz0:(errF (tcF l) 4).2=0:=qap hz;have ev0:vAt l 4=tvAt l 0:=rfl;rw [ev0];(conv=>whnf);refine qm (fun x:Nat × (Nat→Value) × List (Nat × Obj)=>[(0,.slice A l.length c),(2,.pointer none),(3,.nilIface),(4,.pointer (some ⟨tb,0,none⟩)),(7,.int .i64 (tvAt l x.1)),(24,.int .i64 x.1)])
  (fun x w'=>x.1≤4∧(∀ j,j<x.1→(tvF l j).2=0)∧(∀ j,j<4→x.2.1 (8*j)=.int .i64 (vNum l j))∧(∀ j,j<4→x.1≤j→x.2.1 (8*j+7)=.pointer none)∧(∀ j,j<x.1→LvF x.2.2 A c l x.2.1 j)∧Mem w w' ((tb,.cells (fnA 32 x.2.1) 152 (0,0))::x.2.2)) (fun x=>4-x.1) (0,F1,[])
  ⟨rfl,rfl,rfl,rfl,rfl,rfl,trivial⟩ ⟨by simp,fun j h=>by simp at h,hF1,fun j _ _=>by simp only;rw [hF1b _ (by omega)];simp only [tF0];rw [if_neg (by omega),if_neg (by omega)],fun j h=>by simp at h,hm⟩ ?_
 clear hm hF1 hF1b hco;rintro ⟨k,F,L⟩ w5 ρ' ⟨k1,hv,hF,hF7,hL,hm⟩;dsimp only at k1 hv hF hF7 hL hm ⊢;have hn:=fun j hj=>qf1 (hz j hj)
 (conv=>whnf)
 (repeat' (first|((with_reducible refine zC (fun _=>?_) (fun _=>?_))<;>first|(exfalso;omega)|(conv=>whnf))|((with_reducible refine zX ?_);(conv=>whnf))))
 ·refine CallV.of (qbf (l.length) 10 _) ?_;rintro r w7 ⟨⟨eb,rfl,hec⟩,he7⟩;have hf:tvF l k=(l.length,10):=by rw [tvF,if_pos (by omega)]
  have hE:=qan (f:=tvF l) (n:=4) (k:=k) hv (by omega) (by rw [hf];simp);have hT:tE l=(l.length,10):=by rw [tE,if_neg (by omega),if_pos (by rw [hE,hf];simp),hE,hf]
  (conv=>whnf);exact ⟨.inl ⟨by rw [hT];simp,_,rfl,by rw [hT];exact ⟨eb,rfl,hec⟩⟩,hm.ext.trans he7⟩
 ·refine ElemV.bs (hS.ext hm.ext) rfl (tvAt l k) rfl (by omega) ?_;intro eb eo hc1;have hlt:tvAt l k<l.length:=by omega
  have hw:l[tvAt l k].toNat=tw l k:=by rw [tw,List.getD_eq_getElem?_getD,List.getElem?_eq_getElem hlt];rfl
  have hwb:tw l k<256:=by rw [← hw];exact qt _
  rw [hw] at hc1;(conv=>whnf);refine LoadV.of hc1 ?_;(conv=>whnf);refine Wit.conv ⟨by omega,by omega⟩ ?_;(conv=>whnf);refine StoreV.fn (v:=.int .i64 (tvAt l k)) hm (i:=0) rfl (8*k+2) (by try rw [lvSz];dsimp only;omega) (by omega) rfl ?_;intro w6 hm;(conv=>whnf);refine StoreV.fn (v:=.int .i64 (tw l k)) hm (i:=0) rfl (8*k+1) (by try rw [lvSz];dsimp only;omega) (by omega) rfl ?_;intro w7 hm;(conv=>whnf);refine LoadV.fn (v:=.int .i64 (tw l k)) hm (i:=0) rfl (8*k+1) (by rw [lvSz];dsimp only;omega) (by omega) (by simp [updF]) ?_;conv=>whnf
  (repeat' (first|(refine zA ?_;(conv=>whnf))|((with_reducible refine zC (fun _=>?_) (fun _=>?_))<;>first|(exfalso;omega)|(conv=>whnf))))
  ·refine CallV.of (qbf (tvAt l k) 14 _) ?_;rintro r w7 ⟨⟨eb,rfl,hec⟩,he7⟩;have hf:tvF l k=(tvAt l k,14):=by rw [tvF,if_neg (by omega),if_pos (by omega)]
   have hE:=qan (f:=tvF l) (n:=4) (k:=k) hv (by omega) (by rw [hf];simp);have hT:tE l=(tvAt l k,14):=by rw [tE,if_neg (by omega),if_pos (by rw [hE,hf];simp),hE,hf]
   (conv=>whnf);exact ⟨.inl ⟨by rw [hT];simp,_,rfl,by rw [hT];exact ⟨eb,rfl,hec⟩⟩,hm.ext.trans he7⟩
  have hw23:tw l k≤23:=by omega
  have hnk:=hn k (by omega);have hmul:vNum l k*tw l k≤1048576*23:=Nat.mul_le_mul hnk hw23;obtain ⟨f,ef⟩:∃ f,f=vNum l k*tw l k:=⟨_,rfl⟩
  have efi:((vNum l k:Nat):Int)*((tw l k:Nat):Int)=(f:Int):=by rw [ef,Int.natCast_mul]
  rw [← ef] at hmul;have hte0:tEnd l k=tvAt l k+1+(f+7)/8:=by rw [ef];rfl
  have hte:(((tvAt l k:Nat):Int)+1+(((vNum l k:Nat):Int)*((tw l k:Nat):Int)+7)/8)=((tEnd l k:Nat):Int):=by omega
  refine StoreV.fn (v:=.int .i64 (((tvAt l k:Nat):Int)+1)) hm (i:=0) rfl (8*k+3) (by try rw [lvSz];dsimp only;omega) (by omega) rfl ?_;intro w8 hm;(conv=>whnf);obtain ⟨F5,eF5⟩:∃ F5,F5=updF (updF (updF F (8*k+2) (.int .i64 (tvAt l k))) (8*k+1) (.int .i64 (tw l k))) (8*k+3) (.int .i64 (((tvAt l k:Nat):Int)+1)):=⟨_,rfl⟩
  have hm:Mem w w8 ((tb,.cells (fnA 32 F5) 152 (0,0))::L):=by rw [eF5];exact hm
  have q3:F5 (8*k+3)=.int .i64 (((tvAt l k:Nat):Int)+1):=by rw [eF5];simp [updF]
  have q1:F5 (8*k+1)=.int .i64 (tw l k):=by rw [eF5];simp [updF]
  have q0:F5 (8*k)=.int .i64 (vNum l k):=by rw [eF5];simp only [updF];rw [if_neg (by omega),if_neg (by omega),if_neg (by omega)];exact hF k (by omega)
  refine DrawV.inv (fun S w'=>Mem w w' ((tb,.cells (fnA 32 (twoF F5 (8*k+4) 1000 (.int .i64 (tEnd l k)) undef (S 19) false)) 152 (0,0))::L)) rfl (by kernel_rfl) (by show Mem w w8.drew ((tb,.cells (fnA 32 (twoF F5 (8*k+4) 1000 (.int .i64 (tEnd l k)) undef false false)) 152 (0,0))::L);rw [qog];exact hm.drew) ?_;clear hm;(conv=>whnf);refine zI ?_;(conv=>whnf);refine zI ?_;(conv=>whnf);refine zI ?_;(conv=>whnf);refine zI ?_;(conv=>whnf);refine StepI.of (.int .i64 (((tvAt l k:Nat):Int)+1)) (fun S wd hk hp hI=>?_) ?_
  ·(conv=>whnf);refine LoadV.fn (v:=.int .i64 (((tvAt l k:Nat):Int)+1)) hI (i:=0) rfl (8*k+3) (by rw [lvSz];dsimp only;omega) (by omega) (by rw [qac _ _ _ _ _ _ _ _ (by omega) (by omega)];exact q3) ?_;(conv=>whnf);exact ⟨rfl,hI⟩
  (conv=>whnf);refine zI ?_;(conv=>whnf);refine zI ?_;(conv=>whnf);refine zI ?_;(conv=>whnf);refine StepI.of (.int .i64 (vNum l k)) (fun S wd hk hp hI=>?_) ?_
  ·(conv=>whnf);refine LoadV.fn (v:=.int .i64 (vNum l k)) hI (i:=0) rfl (8*k) (by rw [lvSz];dsimp only;omega) (by omega) (by rw [qac _ _ _ _ _ _ _ _ (by omega) (by omega)];exact q0) ?_;(conv=>whnf);exact ⟨rfl,hI⟩
  (conv=>whnf);refine zI ?_;(conv=>whnf);refine zI ?_;(conv=>whnf);refine zI ?_;(conv=>whnf);refine StepI.of (.int .i64 (tw l k)) (fun S wd hk hp hI=>?_) ?_
  ·(conv=>whnf);refine LoadV.fn (v:=.int .i64 (tw l k)) hI (i:=0) rfl (8*k+1) (by rw [lvSz];dsimp only;omega) (by omega) (by rw [qac _ _ _ _ _ _ _ _ (by omega) (by omega)];exact q1) ?_;(conv=>whnf);exact ⟨rfl,hI⟩
  (conv=>whnf);refine zI ?_ (by intro S wd hk hp hI;(conv=>whnf);(refine zA ?_;(conv=>whnf));exact ⟨rfl,hI⟩);(conv=>whnf);refine zI ?_ (by intro S wd hk hp hI;(conv=>whnf);(refine zA ?_;(conv=>whnf));exact ⟨rfl,hI⟩);(conv=>whnf);refine zI ?_ (by intro S wd hk hp hI;(conv=>whnf);(refine zB ?_;(conv=>whnf));exact ⟨rfl,hI⟩);(conv=>whnf);refine zI ?_ (by intro S wd hk hp hI;(conv=>whnf);(refine zA ?_;(conv=>whnf));exact ⟨rfl,hI⟩);(conv=>whnf);refine zI ?_;(conv=>whnf);refine zI ?_;(conv=>whnf);refine StepI.of undef (fun S wd hk hp hI=>?_) ?_
  ·dsimp only at hI;rw [hk] at hI;(conv=>whnf);rw [hte];refine StoreV.fn (v:=.int .i64 (tEnd l k)) hI (i:=0) rfl (8*k+4) (by rw [lvSz];dsimp only;omega) (by omega) rfl ?_;intro wx hmx;rw [qll] at hmx;(conv=>whnf);exact ⟨rfl,hmx⟩
  (conv=>whnf);intro w10 hm;dsimp only at hm;obtain ⟨G,eG⟩:∃ G,G=twoF F5 (8*k+4) 1000 (.int .i64 (tEnd l k)) undef true false:=⟨_,rfl⟩
  have hm:Mem w w10 ((tb,.cells (fnA 32 G) 152 (0,0))::L):=by rw [eG];exact hm
  have ge:∀ x,x<1000→x≠8*k+1→x≠8*k+2→x≠8*k+3→x≠8*k+4→G x=F x:=fun x h0 h1 h2 h3 h4=>by rw [eG,qac _ _ _ _ _ _ _ _ h4 (by omega),eF5,q9 _ _ _ _ h3,q9 _ _ _ _ h1,q9 _ _ _ _ h2]
  have gn:∀ j,j<4→G (8*j)=.int .i64 (vNum l j):=fun j hj=>by rw [ge _ (by omega) (by omega) (by omega) (by omega) (by omega)];exact hF j hj
  have g1:G (8*k+1)=.int .i64 (tw l k):=by rw [eG,qac _ _ _ _ _ _ _ _ (by omega) (by omega)];exact q1
  have g2:G (8*k+2)=.int .i64 (tvAt l k):=by rw [eG,qac _ _ _ _ _ _ _ _ (by omega) (by omega),eF5];simp [updF]
  have g3:G (8*k+3)=.int .i64 (tvAt l k+1:Nat):=by rw [eG,qac _ _ _ _ _ _ _ _ (by omega) (by omega)];exact q3
  have g4:G (8*k+4)=.int .i64 (tEnd l k):=by rw [eG];simp [twoF]
  have g7:∀ j,j<4→k≤j→G (8*j+7)=.pointer none:=fun j hj4 hj=>by rw [ge _ (by omega) (by omega) (by omega) (by omega) (by omega)];exact hF7 j hj4 hj
  have gL:∀ j,j<k→LvF L A c l G j:=fun j hj=>(hL j hj).same fun i hi=>ge _ (by omega) (by omega) (by omega) (by omega) (by omega)
  clear ge eG eF5 q0 q1 q3 hF hF7 hL hte;(conv=>whnf);refine LoadV.fn (v:=.int .i64 (tEnd l k)) hm (i:=0) rfl (8*k+4) (by rw [lvSz];dsimp only;omega) (by omega) g4 ?_;conv=>whnf
  (repeat' ((with_reducible refine zC (fun _=>?_) (fun _=>?_))<;>first|(exfalso;omega)|(conv=>whnf)))
  ·have hmo:=qlj (hz k (by omega)) (by omega);have hnk1:=hn (k-1) (by omega);have hvl:=qom (vNum l k) (vNum l (k-1)) (by omega) hmo;have hnx:tvAt l (k+1)=tEnd l k+qbr (vNum l k) (vNum l (k-1)):=by rw [qbj,if_neg (by omega)]
   refine DrawV.freeW (by kernel_rfl) (by kernel_rfl) ?_;(conv=>whnf);refine zD ?_;(conv=>whnf);refine zD ?_;(conv=>whnf);refine zD ?_;(conv=>whnf);refine zD ?_;(conv=>whnf);apply StepD.still
   ·intro wd hd;(conv=>whnf);refine LoadV.fn (v:=.int .i64 (vNum l k)) (Mem.call (Mem.drew hm) hd) (i:=0) rfl (8*k) (by rw [lvSz];dsimp only;omega) (by omega) (gn k (by omega)) ?_;(conv=>whnf);exact ⟨Ext.refl _,rfl⟩
   (conv=>whnf);refine zD ?_;(conv=>whnf);refine zD ?_;(conv=>whnf);refine zD ?_ (by intro wd hd;(conv=>whnf);(refine zA ?_;(conv=>whnf));exact ⟨Ext.refl _,rfl⟩);(conv=>whnf);refine zD ?_;(conv=>whnf);refine zD ?_;(conv=>whnf);apply StepD.still
   ·intro wd hd;(conv=>whnf);refine IdxV.at_ (k-1) (by omega) (by omega) ?_;(conv=>whnf);exact ⟨Ext.refl _,rfl⟩
   (conv=>whnf);refine zD ?_;(conv=>whnf);apply StepD.still
   ·intro wd hd;(conv=>whnf);refine LoadV.fn (v:=.int .i64 (vNum l (k-1))) (Mem.call (Mem.drew hm) hd) (i:=0) rfl (8*(k-1)) (by rw [lvSz];dsimp only;omega) (by omega) (gn (k-1) (by omega)) ?_;(conv=>whnf);exact ⟨Ext.refl _,rfl⟩
   (conv=>whnf);apply StepD.still
   ·intro wd hd;(conv=>whnf);refine CallV.of (quh (vNum l k) (vNum l (k-1)) wd (by omega) hmo) ?_;rintro v w9 ⟨rfl,h9⟩;exact ⟨h9,rfl⟩
   (conv=>whnf);refine zD ?_ (by intro wd hd;(conv=>whnf);(refine zA ?_;(conv=>whnf));exact ⟨Ext.refl _,rfl⟩);(conv=>whnf);refine zD ?_;(conv=>whnf);intro w11 he11
   (repeat (intro _ _;(conv=>whnf)))
   (conv=>whnf);have hm:=hm.drew.call he11;clear he11;have hsum:(((tEnd l k:Nat):Int)+((qbr (vNum l k) (vNum l (k-1)):Nat):Int))=((tvAt l (k+1):Nat):Int):=by omega
   rw [hsum];refine zC (fun _=>?_) (fun _=>?_)<;>(conv=>whnf)
   ·refine CallV.of (qbf (l.length) 10 _) ?_;rintro r w7 ⟨⟨eb,rfl,hec⟩,he7⟩;have hf:tvF l k=(l.length,10):=by rw [tvF,if_neg (by omega),if_neg (by omega),if_pos (by omega)]
    have hE:=qan (f:=tvF l) (n:=4) (k:=k) hv (by omega) (by rw [hf];simp);have hT:tE l=(l.length,10):=by rw [tE,if_neg (by omega),if_pos (by rw [hE,hf];simp),hE,hf]
    (conv=>whnf);exact ⟨.inl ⟨by rw [hT];simp,_,rfl,by rw [hT];exact ⟨eb,rfl,hec⟩⟩,hm.ext.trans he7⟩
   have hfz:tvF l k=(0,0):=by rw [tvF,if_neg (by omega),if_neg (by omega),if_neg (by omega)]
   have hte3:tvAt l k+1≤tEnd l k:=by omega
   have hte4:tEnd l k≤tvAt l (k+1):=by omega
   have hte5:tvAt l (k+1)≤l.length:=by omega
   obtain ⟨w12,ew12⟩:∃ w12:World,w12=w11:=⟨_,rfl⟩
   rw [← ew12] at hm ⊢;refine DrawV.inv (fun S w'=>Mem w w' ((tb,.cells (fnA 32 (twoF G (8*k+5) (8*k+6) (tPV A c l k) (tSV A c l k) (S 21) (S 24))) 152 (0,0))::L)) rfl (by kernel_rfl) (by show Mem w w12.drew ((tb,.cells (fnA 32 (twoF G (8*k+5) (8*k+6) (tPV A c l k) (tSV A c l k) false false)) 152 (0,0))::L);rw [qog];exact hm.drew) ?_;clear hm ew12;(conv=>whnf);refine zI ?_;(conv=>whnf);refine zI ?_;(conv=>whnf);refine zI ?_;(conv=>whnf);refine zI ?_;(conv=>whnf);refine zI ?_;(conv=>whnf);refine zI ?_;(conv=>whnf);refine StepI.of (.int .i64 (tvAt l k+1:Nat)) (fun S wd hk hp hI=>?_) ?_
   ·(conv=>whnf);refine LoadV.fn (v:=.int .i64 (tvAt l k+1:Nat)) hI (i:=0) rfl (8*k+3) (by rw [lvSz];dsimp only;omega) (by omega) (by rw [qac _ _ _ _ _ _ _ _ (by omega) (by omega)];exact g3) ?_;(conv=>whnf);exact ⟨rfl,hI⟩
   (conv=>whnf);refine zI ?_;(conv=>whnf);refine zI ?_;(conv=>whnf);refine zI ?_;(conv=>whnf);refine StepI.of (.int .i64 (tEnd l k)) (fun S wd hk hp hI=>?_) ?_
   ·(conv=>whnf);refine LoadV.fn (v:=.int .i64 (tEnd l k)) hI (i:=0) rfl (8*k+4) (by rw [lvSz];dsimp only;omega) (by omega) (by rw [qac _ _ _ _ _ _ _ _ (by omega) (by omega)];exact g4) ?_;(conv=>whnf);exact ⟨rfl,hI⟩
   (conv=>whnf);refine StepI.of (tPV A c l k) (fun S wd hk hp hI=>?_) ?_
   ·(conv=>whnf);refine SliceV.to (tvAt l k+1) (tEnd l k) c (by show (_:Int)=_;omega) rfl rfl (by omega) (by omega) (Nat.le_refl _) (fun h=>by cases h) ?_;(conv=>whnf);exact ⟨rfl,hI⟩
   (conv=>whnf);refine zI ?_;(conv=>whnf);refine zI ?_;(conv=>whnf);refine zI ?_;(conv=>whnf);refine zI ?_;(conv=>whnf);refine StepI.of (.int .i64 (tEnd l k)) (fun S wd hk hp hI=>?_) ?_
   ·(conv=>whnf);refine LoadV.fn (v:=.int .i64 (tEnd l k)) hI (i:=0) rfl (8*k+4) (by rw [lvSz];dsimp only;omega) (by omega) (by rw [qac _ _ _ _ _ _ _ _ (by omega) (by omega)];exact g4) ?_;(conv=>whnf);exact ⟨rfl,hI⟩
   (conv=>whnf);refine zI ?_;(conv=>whnf);refine StepI.of (tSV A c l k) (fun S wd hk hp hI=>?_) ?_
   ·(conv=>whnf);refine SliceV.to (tEnd l k) (tvAt l (k+1)) c rfl (by show (_:Int)=_;omega) rfl (by omega) (by omega) (Nat.le_refl _) (fun h=>by cases h) ?_;(conv=>whnf);exact ⟨rfl,hI⟩
   (conv=>whnf);refine zI ?_;(conv=>whnf);refine zI ?_;(conv=>whnf);refine StepI.of undef (fun S wd hk hp hI=>?_) ?_
   ·dsimp only at hI;rw [hk] at hI;(conv=>whnf);refine StoreV.fn (v:=tPV A c l k) hI (i:=0) rfl (8*k+5) (by rw [lvSz];dsimp only;omega) (by omega) rfl ?_;intro wx hmx;rw [qll] at hmx;(conv=>whnf);exact ⟨rfl,hmx⟩
   (conv=>whnf);refine zI ?_;(conv=>whnf);refine zI ?_;(conv=>whnf);refine StepI.of undef (fun S wd hk hp hI=>?_) ?_
   ·dsimp only at hI;rw [hk] at hI;(conv=>whnf);refine StoreV.fn (v:=tSV A c l k) hI (i:=0) rfl (8*k+6) (by rw [lvSz];dsimp only;omega) (by omega) rfl ?_;intro wx hmx;rw [qp5 _ _ _ _ _ _ _ (by omega)] at hmx;(conv=>whnf);exact ⟨rfl,hmx⟩
   (conv=>whnf);intro w13 hm;dsimp only at hm;obtain ⟨H,eH⟩:∃ H,H=twoF G (8*k+5) (8*k+6) (tPV A c l k) (tSV A c l k) true true:=⟨_,rfl⟩
   rw [← eH] at hm;have hn':∀ j,j<4→H (8*j)=.int .i64 (vNum l j):=fun j hj=>by rw [eH,qac _ _ _ _ _ _ _ _ (by omega) (by omega)];exact gn j hj
   have h1':H (8*k+1)=.int .i64 (tw l k):=by rw [eH,qac _ _ _ _ _ _ _ _ (by omega) (by omega)];exact g1
   have h2':H (8*k+2)=.int .i64 (tvAt l k):=by rw [eH,qac _ _ _ _ _ _ _ _ (by omega) (by omega)];exact g2
   have h3':H (8*k+3)=.int .i64 (tvAt l k+1:Nat):=by rw [eH,qac _ _ _ _ _ _ _ _ (by omega) (by omega)];exact g3
   have h4':H (8*k+4)=.int .i64 (tEnd l k):=by rw [eH,qac _ _ _ _ _ _ _ _ (by omega) (by omega)];exact g4
   have h5':H (8*k+5)=tPV A c l k:=by rw [eH];simp [twoF]
   have h6':H (8*k+6)=tSV A c l k:=by rw [eH];simp [twoF]
   have h7':∀ j,j<4→k≤j→H (8*j+7)=.pointer none:=fun j hj4 hj=>by rw [eH,qac _ _ _ _ _ _ _ _ (by omega) (by omega)];exact g7 j hj4 hj
   have hL':∀ j,j<k→LvF L A c l H j:=fun j hj=>(gL j hj).same fun i hi=>by rw [eH,qac _ _ _ _ _ _ _ _ (by omega) (by omega)]
   clear eH gn g1 g2 g3 g4 g7 gL;(conv=>whnf);refine zY (fun _=>?_);(conv=>whnf);have lenB:(qk l k).length=tvAt l (k+1)-tEnd l k:=by rw [qk,List.length_take,List.length_drop];omega
   have hSB:SlAt encB 1 w (if c=tEnd l k then A else A.map (·.add (tEnd l k*1))) (qk l k):=hS.cut (m:=c) (by omega) (by omega) (by omega) rfl;refine LoadV.fn (v:=tSV A c l k) hm (i:=0) rfl (8*k+6) (by rw [lvSz];dsimp only;omega) (by omega) h6' ?_;(conv=>whnf);have hvv:=qva (qk l k) _ (c-tEnd l k) w13 (hSB.ext hm.ext) (by rw [lenB];omega) (by rw [lenB];omega);rw [lenB] at hvv;refine CallV.of (hvv) ?_;rintro r w14 ⟨⟨h0,e,q1,q2,rfl,eb2,rfl,hec2⟩|⟨h1,vb,rfl,hvb,hvo⟩,he14⟩
   ·have hm:=hm.call he14;(conv=>whnf);refine DrawV.quiet (by kernel_rfl) (by kernel_rfl) ?_;(conv=>whnf);have hm:=hm.drew;(iterate 3 (refine zW ?_;(conv=>whnf)));refine Tst.no rfl ?_;(conv=>whnf);(iterate 7 (refine zU ?_;(conv=>whnf)));(iterate 2 (refine zW ?_;(conv=>whnf)));(iterate 12 (refine zU ?_;(conv=>whnf)));refine zW ?_;(conv=>whnf);refine zU ?_;(conv=>whnf);refine zA ?_;(conv=>whnf);refine ⟨(k+1,H,L),⟨rfl,rfl,rfl,rfl,(by show _=Value.int .i64 ((tvAt l (k+1):Nat):Int);exact congrArg (Value.int .i64) (by omega)),rfl,trivial⟩,⟨by simp only;omega,fun j hj=>?_,hn',fun j hj4 hj=>h7' j hj4 (by simp only at hj;omega),fun j hj=>?_,hm⟩,by simp only;omega⟩
    ·by_cases e:j=k
     ·subst e;rw [hfz]
     ·exact hv j (by simp only at hj;omega)
    ·by_cases e:j=k
     ·subst e;exact ⟨h1',h2',h3',h4',h5',h6',.inl ⟨.inr (by rw [tVec,h0];rfl),h7' j (by omega) (Nat.le_refl _)⟩⟩
     ·exact hL' j (by simp only at hj;omega)
   ·have hm0:=hm.fresh he14 hvb hvo;have hm:Mem w w14 ((tb,.cells (fnA 32 H) 152 (0,0))::(vb,vecO 276 (tSV A c l k) (vN (qk l k)) (vM (qk l k)))::L):=hm0.perm (List.Perm.swap ..);clear hm0;(conv=>whnf);refine DrawV.quiet (by kernel_rfl) (by kernel_rfl) ?_;(conv=>whnf);have hm:=hm.drew;(iterate 3 (refine zW ?_;(conv=>whnf)));refine Tst.yes rfl ?_;(conv=>whnf);refine zW ?_;(conv=>whnf);refine zT ?_;(conv=>whnf);refine ⟨.int .i64 (vN (qk l k)),qxc _ _ _ _ _ (hm.get (List.mem_cons_of_mem _ (List.mem_cons_self ..))),?_⟩;(conv=>whnf);(iterate 3 (refine zT ?_;(conv=>whnf);refine zW ?_;(conv=>whnf)));refine zT ?_;(conv=>whnf);refine LoadV.fn (v:=.int .i64 (vNum l k)) hm (i:=0) rfl (8*k) (by rw [lvSz];dsimp only;omega) (by omega) (hn' k (by omega)) ?_;conv=>whnf
    (repeat' (first|(refine zA ?_;(conv=>whnf))|((with_reducible refine zT ?_);(conv=>whnf))|((with_reducible refine zU ?_);(conv=>whnf))|((with_reducible refine zC (fun _=>?_) (fun _=>?_))<;>first|(exfalso;omega)|(conv=>whnf))|((with_reducible refine zW ?_);(conv=>whnf))))
    ·refine ⟨.int .i64 (vM (qk l k)),qu4 _ _ _ _ _ (hm.get (List.mem_cons_of_mem _ (List.mem_cons_self ..))),?_⟩;(conv=>whnf);(iterate 2 (refine zT ?_;(conv=>whnf);refine zW ?_;(conv=>whnf)));refine zT ?_;(conv=>whnf);refine zA ?_;(conv=>whnf);(iterate 3 (refine zW ?_;(conv=>whnf);refine zT ?_;(conv=>whnf)));refine IdxV.at_ (k-1) (by omega) (by omega) ?_;(conv=>whnf);(iterate 2 (refine zW ?_;(conv=>whnf);refine zT ?_;(conv=>whnf)));refine LoadV.fn (v:=.int .i64 (vNum l (k-1))) hm (i:=0) rfl (8*(k-1)) (by rw [lvSz];dsimp only;omega) (by omega) (hn' (k-1) (by omega)) ?_;conv=>whnf
     (repeat' (first|(refine zA ?_;(conv=>whnf))|((with_reducible refine zT ?_);(conv=>whnf))|((with_reducible refine zC (fun _=>?_) (fun _=>?_))<;>first|(exfalso;omega)|(conv=>whnf))|((with_reducible refine zW ?_);(conv=>whnf))))
     ·refine StoreV.fn (v:=.pointer (some ⟨vb,0,none⟩)) hm (i:=0) rfl (8*k+7) (by rw [lvSz];dsimp only;omega) (by omega) rfl ?_;intro w15 hm;have e1:vN (qk l k)=vNum l k:=by omega
      have e2:vM (qk l k)=vNum l (k-1):=by omega
      rw [e1,e2] at hm;have htv:tVec l k=true:=by rw [tVec,h1,decide_eq_true e1,decide_eq_true e2];rfl
      (conv=>whnf);refine zA ?_;(conv=>whnf);refine ⟨(k+1,updF H (8*k+7) (.pointer (some ⟨vb,0,none⟩)),(vb,vecO 276 (tSV A c l k) (vNum l k) (vNum l (k-1)))::L),⟨rfl,rfl,rfl,rfl,(by show _=Value.int .i64 ((tvAt l (k+1):Nat):Int);exact congrArg (Value.int .i64) (by omega)),rfl,trivial⟩,⟨by simp only;omega,fun j hj=>?_,fun j hj=>?_,fun j hj4 hj=>?_,fun j hj=>?_,hm⟩,by simp only;omega⟩
      ·by_cases e:j=k
       ·subst e;rw [hfz]
       ·exact hv j (by simp only at hj;omega)
      ·simp only;rw [q9 _ _ _ _ (by omega)];exact hn' j hj
      ·simp only at hj ⊢;rw [q9 _ _ _ _ (by omega)];exact h7' j hj4 (by omega)
      ·by_cases e:j=k
       ·subst e;refine ⟨?_,?_,?_,?_,?_,?_,.inr ⟨by omega,htv,vb,qgz _ _ _,List.mem_cons_self ..⟩⟩
        ·simp only;rw [q9 _ _ _ _ (by omega)];exact h1'
        ·simp only;rw [q9 _ _ _ _ (by omega)];exact h2'
        ·simp only;rw [q9 _ _ _ _ (by omega)];exact h3'
        ·simp only;rw [q9 _ _ _ _ (by omega)];exact h4'
        ·simp only;rw [q9 _ _ _ _ (by omega)];exact h5'
        ·simp only;rw [q9 _ _ _ _ (by omega)];exact h6'
       ·exact ((hL' j (by simp only at hj;omega)).same fun i hi=>by simp only;rw [q9 _ _ _ _ (by omega)]).more
     ·have hm:=hm.sub (List.Sublist.cons_cons _ (List.sublist_cons_self ..));have nv:tVec l k=false:=by rw [tVec,decide_eq_false (show ¬ vM (qk l k)=vNum l (k-1) by omega),Bool.and_false]
      refine ⟨(k+1,H,L),⟨rfl,rfl,rfl,rfl,(by show _=Value.int .i64 ((tvAt l (k+1):Nat):Int);exact congrArg (Value.int .i64) (by omega)),rfl,trivial⟩,⟨by simp only;omega,fun j hj=>?_,hn',fun j hj4 hj=>h7' j hj4 (by simp only at hj;omega),fun j hj=>?_,hm⟩,by simp only;omega⟩
      ·by_cases e:j=k
       ·subst e;rw [hfz]
       ·exact hv j (by simp only at hj;omega)
      ·by_cases e:j=k
       ·subst e;exact ⟨h1',h2',h3',h4',h5',h6',.inl ⟨.inr nv,h7' j (by omega) (Nat.le_refl _)⟩⟩
       ·exact hL' j (by simp only at hj;omega)
    ·have hm:=hm.sub (List.Sublist.cons_cons _ (List.sublist_cons_self ..));have nv:tVec l k=false:=by rw [tVec,decide_eq_false (show ¬ vN (qk l k)=vNum l k by omega),Bool.and_false];rfl
     refine ⟨(k+1,H,L),⟨rfl,rfl,rfl,rfl,(by show _=Value.int .i64 ((tvAt l (k+1):Nat):Int);exact congrArg (Value.int .i64) (by omega)),rfl,trivial⟩,⟨by simp only;omega,fun j hj=>?_,hn',fun j hj4 hj=>h7' j hj4 (by simp only at hj;omega),fun j hj=>?_,hm⟩,by simp only;omega⟩
     ·by_cases e:j=k
      ·subst e;rw [hfz]
      ·exact hv j (by simp only at hj;omega)
     ·by_cases e:j=k
      ·subst e;exact ⟨h1',h2',h3',h4',h5',h6',.inl ⟨.inr nv,h7' j (by omega) (Nat.le_refl _)⟩⟩
      ·exact hL' j (by simp only at hj;omega)
  ·have hk0:k=0:=by omega
   have hnx:tvAt l (k+1)=tEnd l k:=by rw [qbj,if_pos hk0];rfl
   refine CallV.of (qbf (l.length) 10 _) ?_;rintro r w7 ⟨⟨eb,rfl,hec⟩,he7⟩;have hf:tvF l k=(l.length,10):=by rw [tvF,if_neg (by omega),if_neg (by omega),if_pos (by omega)]
   have hE:=qan (f:=tvF l) (n:=4) (k:=k) hv (by omega) (by rw [hf];simp);have hT:tE l=(l.length,10):=by rw [tE,if_neg (by omega),if_pos (by rw [hE,hf];simp),hE,hf]
   (conv=>whnf);exact ⟨.inl ⟨by rw [hT];simp,_,rfl,by rw [hT];exact ⟨eb,rfl,hec⟩⟩,hm.ext.trans he7⟩
  have hk0:k=0:=by omega
  have hnx:tvAt l (k+1)=tEnd l k:=by rw [qbj,if_pos hk0];rfl
  have hfz:tvF l k=(0,0):=by rw [tvF,if_neg (by omega),if_neg (by omega),if_neg (by omega)]
  have hte3:tvAt l k+1≤tEnd l k:=by omega
  have hte4:tEnd l k≤tvAt l (k+1):=by omega
  have hte5:tvAt l (k+1)≤l.length:=by omega
  obtain ⟨w12,ew12⟩:∃ w12:World,w12=w10:=⟨_,rfl⟩
  rw [← ew12] at hm ⊢;refine DrawV.inv (fun S w'=>Mem w w' ((tb,.cells (fnA 32 (twoF G (8*k+5) (8*k+6) (tPV A c l k) (tSV A c l k) (S 21) (S 24))) 152 (0,0))::L)) rfl (by kernel_rfl) (by show Mem w w12.drew ((tb,.cells (fnA 32 (twoF G (8*k+5) (8*k+6) (tPV A c l k) (tSV A c l k) false false)) 152 (0,0))::L);rw [qog];exact hm.drew) ?_;clear hm ew12;(conv=>whnf);refine zI ?_;(conv=>whnf);refine zI ?_;(conv=>whnf);refine zI ?_;(conv=>whnf);refine zI ?_;(conv=>whnf);refine zI ?_;(conv=>whnf);refine zI ?_;(conv=>whnf);refine StepI.of (.int .i64 (tvAt l k+1:Nat)) (fun S wd hk hp hI=>?_) ?_
  ·(conv=>whnf);refine LoadV.fn (v:=.int .i64 (tvAt l k+1:Nat)) hI (i:=0) rfl (8*k+3) (by rw [lvSz];dsimp only;omega) (by omega) (by rw [qac _ _ _ _ _ _ _ _ (by omega) (by omega)];exact g3) ?_;(conv=>whnf);exact ⟨rfl,hI⟩
  (conv=>whnf);refine zI ?_;(conv=>whnf);refine zI ?_;(conv=>whnf);refine zI ?_;(conv=>whnf);refine StepI.of (.int .i64 (tEnd l k)) (fun S wd hk hp hI=>?_) ?_
  ·(conv=>whnf);refine LoadV.fn (v:=.int .i64 (tEnd l k)) hI (i:=0) rfl (8*k+4) (by rw [lvSz];dsimp only;omega) (by omega) (by rw [qac _ _ _ _ _ _ _ _ (by omega) (by omega)];exact g4) ?_;(conv=>whnf);exact ⟨rfl,hI⟩
  (conv=>whnf);refine StepI.of (tPV A c l k) (fun S wd hk hp hI=>?_) ?_
  ·(conv=>whnf);refine SliceV.to (tvAt l k+1) (tEnd l k) c (by show (_:Int)=_;omega) rfl rfl (by omega) (by omega) (Nat.le_refl _) (fun h=>by cases h) ?_;(conv=>whnf);exact ⟨rfl,hI⟩
  (conv=>whnf);refine zI ?_;(conv=>whnf);refine zI ?_;(conv=>whnf);refine zI ?_;(conv=>whnf);refine zI ?_;(conv=>whnf);refine StepI.of (.int .i64 (tEnd l k)) (fun S wd hk hp hI=>?_) ?_
  ·(conv=>whnf);refine LoadV.fn (v:=.int .i64 (tEnd l k)) hI (i:=0) rfl (8*k+4) (by rw [lvSz];dsimp only;omega) (by omega) (by rw [qac _ _ _ _ _ _ _ _ (by omega) (by omega)];exact g4) ?_;(conv=>whnf);exact ⟨rfl,hI⟩
  (conv=>whnf);refine zI ?_;(conv=>whnf);refine StepI.of (tSV A c l k) (fun S wd hk hp hI=>?_) ?_
  ·(conv=>whnf);refine SliceV.to (tEnd l k) (tvAt l (k+1)) c rfl (by show (_:Int)=_;omega) rfl (by omega) (by omega) (Nat.le_refl _) (fun h=>by cases h) ?_;(conv=>whnf);exact ⟨rfl,hI⟩
  (conv=>whnf);refine zI ?_;(conv=>whnf);refine zI ?_;(conv=>whnf);refine StepI.of undef (fun S wd hk hp hI=>?_) ?_
  ·dsimp only at hI;rw [hk] at hI;(conv=>whnf);refine StoreV.fn (v:=tPV A c l k) hI (i:=0) rfl (8*k+5) (by rw [lvSz];dsimp only;omega) (by omega) rfl ?_;intro wx hmx;rw [qll] at hmx;(conv=>whnf);exact ⟨rfl,hmx⟩
  (conv=>whnf);refine zI ?_;(conv=>whnf);refine zI ?_;(conv=>whnf);refine StepI.of undef (fun S wd hk hp hI=>?_) ?_
  ·dsimp only at hI;rw [hk] at hI;(conv=>whnf);refine StoreV.fn (v:=tSV A c l k) hI (i:=0) rfl (8*k+6) (by rw [lvSz];dsimp only;omega) (by omega) rfl ?_;intro wx hmx;rw [qp5 _ _ _ _ _ _ _ (by omega)] at hmx;(conv=>whnf);exact ⟨rfl,hmx⟩
  (conv=>whnf);intro w13 hm;dsimp only at hm;obtain ⟨H,eH⟩:∃ H,H=twoF G (8*k+5) (8*k+6) (tPV A c l k) (tSV A c l k) true true:=⟨_,rfl⟩
  rw [← eH] at hm;have hn':∀ j,j<4→H (8*j)=.int .i64 (vNum l j):=fun j hj=>by rw [eH,qac _ _ _ _ _ _ _ _ (by omega) (by omega)];exact gn j hj
  have h1':H (8*k+1)=.int .i64 (tw l k):=by rw [eH,qac _ _ _ _ _ _ _ _ (by omega) (by omega)];exact g1
  have h2':H (8*k+2)=.int .i64 (tvAt l k):=by rw [eH,qac _ _ _ _ _ _ _ _ (by omega) (by omega)];exact g2
  have h3':H (8*k+3)=.int .i64 (tvAt l k+1:Nat):=by rw [eH,qac _ _ _ _ _ _ _ _ (by omega) (by omega)];exact g3
  have h4':H (8*k+4)=.int .i64 (tEnd l k):=by rw [eH,qac _ _ _ _ _ _ _ _ (by omega) (by omega)];exact g4
  have h5':H (8*k+5)=tPV A c l k:=by rw [eH];simp [twoF]
  have h6':H (8*k+6)=tSV A c l k:=by rw [eH];simp [twoF]
  have h7':∀ j,j<4→k≤j→H (8*j+7)=.pointer none:=fun j hj4 hj=>by rw [eH,qac _ _ _ _ _ _ _ _ (by omega) (by omega)];exact g7 j hj4 hj
  have hL':∀ j,j<k→LvF L A c l H j:=fun j hj=>(gL j hj).same fun i hi=>by rw [eH,qac _ _ _ _ _ _ _ _ (by omega) (by omega)]
  clear eH gn g1 g2 g3 g4 g7 gL;(conv=>whnf);refine zN (fun _=>?_);(conv=>whnf);refine zA ?_;(conv=>whnf);refine ⟨(k+1,H,L),⟨rfl,rfl,rfl,rfl,(by show _=Value.int .i64 ((tvAt l (k+1):Nat):Int);exact congrArg (Value.int .i64) (by omega)),rfl,trivial⟩,⟨by simp only;omega,fun j hj=>?_,hn',fun j hj4 hj=>h7' j hj4 (by simp only at hj;omega),fun j hj=>?_,hm⟩,by simp only;omega⟩
  ·by_cases e:j=k
   ·subst e;rw [hfz]
   ·exact hv j (by simp only at hj;omega)
  ·by_cases e:j=k
   ·subst e;exact ⟨h1',h2',h3',h4',h5',h6',.inl ⟨.inl hk0,h7' j (by omega) (Nat.le_refl _)⟩⟩
   ·exact hL' j (by simp only at hj;omega)
 ·obtain rfl:k=4:=by omega
  have hT:tE l=(tvAt l 4,13):=by
   have:=qap hv;rw [tE,if_neg (by omega),if_neg (by omega),if_pos (by omega)]
  refine CallV.of (qbf (tvAt l 4) 13 _) ?_;rintro r w7 ⟨⟨eb,rfl,hec⟩,he7⟩;(conv=>whnf);exact ⟨.inl ⟨by rw [hT];simp,_,rfl,by rw [hT];exact ⟨eb,rfl,hec⟩⟩,hm.ext.trans he7⟩
 ·obtain rfl:k=4:=by omega
  have hT:tE l=(0,0):=by
   have:=qap hv;rw [tE,if_neg (by omega),if_neg (by omega),if_neg (by omega)]
  obtain ⟨o1,o2⟩:=hm.own _ (List.mem_cons_self ..);refine ⟨.inr ⟨by rw [hT],tb,rfl,o1,⟨fun j hj=>?_,fun j hj=>qf1 (hz j hj),fun j hj=>(qm9 (hv j hj)).2.1⟩⟩,hm.ext⟩;obtain ⟨z1,z2,z3⟩:=qm9 (hv j hj);have hLj:=hL j hj;have t1:tvAt l j+1≤tEnd l j:=by show _≤tvAt l j+1+_;omega
  have t2:tEnd l j≤tvAt l (j+1):=by rw [qbj];omega
  have lenP:(qr l j).length=tEnd l j-(tvAt l j+1):=by rw [qr,List.length_take,List.length_drop];omega
  have lenB:(qk l j).length=tvAt l (j+1)-tEnd l j:=by rw [qk,List.length_take,List.length_drop];omega
  have hSP:SlAt encB 1 w (if c=tvAt l j+1 then A else A.map (·.add ((tvAt l j+1)*1))) (qr l j):=hS.cut (m:=c) (by omega) (by omega) (by omega) rfl;have hSB:SlAt encB 1 w (if c=tEnd l j then A else A.map (·.add (tEnd l j*1))) (qk l j):=hS.cut (m:=c) (by omega) (by omega) (by omega) rfl;refine ⟨⟨_,c-(tvAt l j+1),_,c-tEnd l j,F (8*j+7),?_,hSP.ext hm.ext,hSB.ext hm.ext,by rw [lenB];omega,?_⟩⟩
  ·intro i v hiv;rw [qd o2];have hi8:i<8:=(List.getElem?_eq_some_iff.1 hiv).1;rw [qgi 32 F _ (by omega)];rw [lenP,lenB] at hiv
   match i,hi8 with
   | 0,_=>rw [← hiv];exact congrArg some (hF j hj)
   | 1,_=>rw [← hiv];exact congrArg some hLj.f1
   | 2,_=>rw [← hiv];exact congrArg some hLj.f2
   | 3,_=>rw [← hiv];exact congrArg some hLj.f3
   | 4,_=>rw [← hiv];exact congrArg some hLj.f4
   | 5,_=>rw [← hiv];exact congrArg some hLj.f5
   | 6,_=>rw [← hiv];exact congrArg some hLj.f6
   | 7,_=>rw [← hiv];rfl
  ·rw [lenB]
   rcases hLj.f7 with h|⟨h1,h2,vb,h3,h4⟩
   ·exact .inl h
   ·exact .inr ⟨h1,h2,vb,h3,hm.get (List.mem_cons_of_mem _ h4)⟩
end Go.Proofs.YtajgbepghniciaaGreatDoor
namespace Go.Proofs.YtajgbepghniciaaGreatDoor
open Go.RowKit
namespace V
def byV (l:List UInt8):List Value:=l.map fun c=>Value.int .u8 c.toNat
theorem qsg (l:List UInt8):(byV l).length=l.length:=by simp [byV]
structure Tri (e:TypeId) (w0 w:World) (a b c:Value) (x y z:List UInt8):Prop where
 ext:Ext w0 w
 oa:w.ownsRow w0.heap.size e 1 a x.length (byV x)
 ob:w.ownsRow w0.heap.size e 1 b y.length (byV y)
 oc:w.ownsRow w0.heap.size e 1 c z.length (byV z)
 ab:∀ g,a.ownBlock=some g→b.ownBlock≠some g
 ac:∀ g,a.ownBlock=some g→c.ownBlock≠some g
 bc:∀ g,b.ownBlock=some g→c.ownBlock≠some g
section
variable {P:Program} {e:TypeId} {w0 w w':World} {a b c:Value} {x y z:List UInt8}
theorem Tri.nil (w:World):Tri e w w (.slice none 0 0) (.slice none 0 0) (.slice none 0 0) [] [] []:=
 ⟨Ext.refl w,World.ownsRow_nil _ _ _ _,World.ownsRow_nil _ _ _ _,World.ownsRow_nil _ _ _ _,fun g h=>(by cases h),fun g h=>(by cases h),fun g h=>(by cases h)⟩
theorem qbz {base size n:Nat} {v:Value} {xs:List Value} (h:w.ownsRow base e size v n xs) (he:Ext w w'):w'.ownsRow base e size v n xs:=
 h.kept (row:=none) ⟨he.os,he.tape,he.output,he.size,fun k hk _=>he.block k hk⟩ (by cases v.ownBlock<;>simp)
theorem Tri.call (h:Tri e w0 w a b c x y z) (he:Ext w w'):Tri e w0 w' a b c x y z:=
 ⟨h.ext.trans he,qbz h.oa he,qbz h.ob he,qbz h.oc he,h.ab,h.ac,h.bc⟩
theorem Tri.rot (h:Tri e w0 w a b c x y z):Tri e w0 w b c a y z x:=
 ⟨h.ext,h.ob,h.oc,h.oa,h.bc,fun g hb ha=>h.ab g ha hb,fun g hc ha=>h.ac g ha hc⟩
theorem qih {base size n:Nat} {v:Value} {xs:List Value} (h:w.ownsRow base e size v n xs):∃ A c,v=.slice A n c:=by
 rcases h.2 with ⟨rfl,rfl⟩|⟨g,cap,cur,rfl,_⟩
 ·exact ⟨_,_,rfl⟩
 ·exact ⟨_,_,rfl⟩
theorem qo0 {A:Option Addr} {l:List UInt8} (h:SlAt encB 1 w A l):byV l≠[]→∃ b off,A=some ⟨b,off,none⟩∧CellsAt w b off (byV l):=by
 intro hne;obtain ⟨b,off,h1,h2⟩:=h.at_ (by rintro rfl;exact hne rfl);refine ⟨b,off,h1,fun k v hv=>?_⟩;rw [byV,List.getElem?_map] at hv;obtain ⟨u,hu,rfl⟩:=Option.map_eq_some_iff.1 hv;have:=h2 k u hu 0 (.int .u8 u.toNat) rfl
 simpa using this
theorem Tri.app {t ty:TypeId} {i:TypeInfo} {zv:Value} {B:Option Addr} {d:Nat} {m:List UInt8} {K:Value→World→Prop} (h:Tri e w0 w a b c x y z) (ht:P.underlying t=some (.slice e)) (hi:P.info? e=some i) (hz:i.zero=some zv)
  (hsize:i.size=1) (hzs:zv.cells.size=1) (hby:i.bytes≤16) (hS:SlAt encB 1 w B m) (hlen:x.length+m.length≤8000000000000)
  (hk:∀ A' c' w',Tri e w0 w' (.slice A' (x.length+m.length) c') b c (x++m) y z→K (.slice A' (x.length+m.length) c') w'):AppV P #[t,t] ty a (.slice B m.length d) w K:=by
 refine AppV.own (news:=byV m) ht hi hz hsize hzs (by decide) h.oa h.ext.size (by rw [qsg,Nat.mul_one]) (qo0 hS) (fun u hu=>?_) (Nat.le_trans (Nat.mul_le_mul hlen hby) (by decide)) (by omega) ?_
 ·simp only [byV,List.mem_map] at hu;obtain ⟨v,_,rfl⟩:=hu;rfl
 ·intro v' w' ho hg hor;obtain ⟨A',c',rfl⟩:=qih ho;have ap:∀ (v:Value) (l:List UInt8),w.ownsRow w0.heap.size e 1 v l.length (byV l)→(∀ g,a.ownBlock=some g→v.ownBlock≠some g)→(v.ownBlock=none∨v.ownBlock≠a.ownBlock)∧∀ g,Value.ownBlock (.slice A' (x.length+m.length) c')=some g→v.ownBlock≠some g:=fun v l hv hap=>by
   constructor
   ·cases hvb:v.ownBlock with
    | none=>exact .inl rfl
    | some g=>exact .inr fun e=>hap g e.symm hvb
   ·intro g hg' hvb
    rcases hor with hor|hor
    ·exact hap g (by rw [← hor];exact hg') hvb
    ·rw [hor] at hg';have:=(hv.lt g hvb).2;have e:w.heap.size=g:=Option.some.inj hg';omega
  obtain ⟨b1,b2⟩:=ap b y h.ob h.ab;obtain ⟨c1,c2⟩:=ap c z h.oc h.ac;refine hk A' c' w' ⟨?_,?_,h.ob.kept hg b1,h.oc.kept hg c1,b2,c2,h.bc⟩
  ·exact Below.grown h.ext hg h.ext.size (fun k hk=>(h.oa.lt k hk).1)
  ·rw [byV,List.map_append,List.length_append];exact ho
theorem qfo {base:Nat} {v:Value} {l:List UInt8} (h:w.ownsRow base e 1 v l.length (byV l)):BS w v l:=by
 rcases h.2 with ⟨rfl,h0⟩|⟨g,cap,cur,rfl,h1,h2,h3,h4,h5,h6⟩
 ·have:l=[]:=List.eq_nil_of_length_eq_zero h0;subst this;exact BS.nil w
 ·refine ⟨_,cap,rfl,h3,⟨fun _=>⟨g,0,rfl,fun j u hu k v hv=>?_⟩⟩⟩;cases k with
  | succ k=>simp [encB] at hv
  | zero=>
   simp only [encB,List.getElem?_cons_zero,Option.some.injEq] at hv;subst hv;have hj:(cur.toList.take (l.length*1))[j]?=some (.int .u8 u.toNat):=by rw [h6,byV,List.getElem?_map,hu];rfl
   rw [List.getElem?_take] at hj
   split at hj
   ·rw [qd h2]
    simpa using hj
   ·cases hj
end
end V
open Go.RowKit V
structure LvlV (l:List UInt8) (k:Nat):Prop where
 vec:VecOk (qk l k)
 n:vN (qk l k)=vNum l k
 m:vM (qk l k)=vNum l (k-1)
 last:0<vNum l k→bitN ((qk l k).drop 8) (vNum l k-1)=1
theorem LvlV.tvec {l:List UInt8} {k:Nat} (h:LvlV l k):tVec l k=true:=by
 unfold tVec;rw [h.vec.ok,decide_eq_true h.n,decide_eq_true h.m];rfl
theorem LvlV.rank {l:List UInt8} {k:Nat} (h:LvlV l k) (i:Nat) (hi:i≤vNum l k):qhg (qk l k) i=cnt ((qk l k).drop 8) i:=h.vec.rank i (by rw [h.n];exact hi)
theorem LvlV.lt {l:List UInt8} {k:Nat} (h:LvlV l k) (i:Nat) (hi:i<vNum l k):qhg (qk l k) i<vNum l (k-1):=by
 rw [h.rank i (by omega),← h.m,← h.vec.ones,h.n];have e:vNum l k=vNum l k-1+1:=by omega
 have h1:=h.last (by omega);have h2:cnt ((qk l k).drop 8) i≤cnt ((qk l k).drop 8) (vNum l k-1):=qkd (by omega);rw [e,cnt,h1];omega
section
variable {l:List UInt8} (hL:∀ k,1≤k→k≤3→LvlV l k) {i:Nat} (hi:i<vNum l 3)
include hL hi
theorem qi3:∀ j,j≤3→tUp l i j<vNum l (3-j)
 | 0,_=>hi
 | j+1,hj=>by
  have h:=qi3 j (by omega);have:=(hL (3-j) (by omega) (by omega)).lt _ h;rw [tUp];have e:3-j-1=3-(j+1):=by omega
  rwa [e] at this
theorem qzj:tOk l i=true:=by
 have h:=qi3 hL hi;unfold tOk qdt;rw [decide_eq_true (h 0 (by omega)),decide_eq_true (h 1 (by omega)),decide_eq_true (h 2 (by omega)),decide_eq_true (h 3 (by omega)),(hL 3 (by omega) (by omega)).tvec,(hL 2 (by omega) (by omega)).tvec,(hL 1 (by omega) (by omega)).tvec];rfl
theorem qzk {j:Nat} (hj:j<3) (h:tUp l (i+1) j=tUp l i j+1) (hb:bitN ((qk l (3-j)).drop 8) (tUp l i j)=1):tUp l (i+1) (j+1)=tUp l i (j+1)+1:=by
 have hlt:=qi3 hL hi j (by omega);have hv:=hL (3-j) (by omega) (by omega);rw [tUp,tUp,h,hv.rank _ (by omega),hv.rank _ (by omega),cnt,hb]
theorem qw3 {j:Nat} (hj:j<3) (h:tUp l (i+1) j=tUp l i j+1) (hb:bitN ((qk l (3-j)).drop 8) (tUp l i j)≠1):tUp l (i+1) (j+1)=tUp l i (j+1):=by
 have hlt:=qi3 hL hi j (by omega);have hv:=hL (3-j) (by omega) (by omega);have h0:=qc8 ((qk l (3-j)).drop 8) (tUp l i j);have hb0:bitN ((qk l (3-j)).drop 8) (tUp l i j)=0:=by omega
 rw [tUp,tUp,h,hv.rank _ (by omega),hv.rank _ (by omega),cnt,hb0];rfl
end
theorem qw4 {l:List UInt8} {i i' j:Nat} (h:tUp l i' j=tUp l i j):∀ {m:Nat},j≤m→tUp l i' m=tUp l i m:=by
 intro m hm
 induction hm with
 | refl=>exact h
 | step _ ih=>rw [tUp,tUp,ih]
theorem qp2 (l:List UInt8):∀ j,tUp l 0 j=0
 | 0=>rfl
 | j+1=>by rw [tUp,qp2 l j,qhg,if_pos (.inl rfl)]
structure DSt (m:List UInt8) (i:Nat) (last:List UInt8) (p:Nat):Prop where
 le:p≤(qj m).length
 st:∀ j,i=j+1→blk (qj m) (qad m (j/16)) (j%16)=(last,p,0)
theorem DSt.step {m:List UInt8} {i:Nat} {last:List UInt8} {p:Nat} (h:DSt m i last p) (hp:i%16=0→qad m (i/16)=p) {first:Bool} (hf:first=decide (i%16=0))
  (he:(entG ((qj m).drop p) first last).2.2=0):DSt m (i+1) (entG ((qj m).drop p) first last).1 (p+(entG ((qj m).drop p) first last).2.1):=by
 have hlen:=(qcv he).2;have hle:=h.le;rw [List.length_drop] at hlen;refine ⟨by omega,fun j hj=>?_⟩;obtain rfl:j=i:=by omega
 have hat:∀ b x,entG ((qj m).drop p) b x=entG ((qj m).drop p) first last→qcc (qj m) p b x=((entG ((qj m).drop p) first last).1,p+(entG ((qj m).drop p) first last).2.1,0):=fun b x e=>by
  rw [qcc,if_neg (by omega),e,if_neg (by omega)]
 by_cases h0:j%16=0
 ·rw [h0,hp h0];have hf1:first=true:=by rw [hf,decide_eq_true h0]
  subst hf1;exact hat _ _ (by simp only [entG,if_true,Nat.not_lt_zero,if_false,List.take_zero])
 ·have hf1:first=false:=by rw [hf,decide_eq_false h0]
  subst hf1;obtain ⟨k,rfl⟩:∃ k,j=k+1:=⟨j-1,by omega⟩
  have hk:=h.st k rfl;have e1:(k+1)/16=k/16:=by omega
  have e2:(k+1)%16=k%16+1:=by omega
  rw [e1,e2,blk,hk,if_neg (by simp)];exact hat _ _ rfl
theorem DSt.get {m:List UInt8} {i:Nat} {last:List UInt8} {p:Nat} (h:DSt m (i+1) last p) (hi:i<dN m):dGet m i=some last:=by
 have:=h.st i rfl;rw [dGet,if_pos hi,this,if_pos rfl]
open Go.RowKit V
def gL (d:List UInt8):Nat→List UInt8
 | 0=>[]
 | i+1=>if i%2048=0 then gL d i++fixL (cnt d i) 4 else gL d i
def sL (d:List UInt8):Nat→List UInt8
 | 0=>[]
 | i+1=>if i%256=0 then sL d i++fixL (cnt d i-cnt d (2048*(i/2048))) 2 else sL d i
def mL (d:List UInt8):Nat→List UInt8
 | 0=>[]
 | i+1=>if bitN d i=1∧cnt d i%512=0 then mL d i++fixL i 4 else mL d i
theorem ql3 (d:List UInt8) (i:Nat):(gL d i).length=4*upN i 2048:=by
 induction i with
 | zero=>rfl
 | succ i ih=>
  rw [gL]
  split
  ·rw [List.length_append,ih,q6];unfold upN;omega
  ·rw [ih];unfold upN;omega
theorem qpx (d:List UInt8) (i:Nat):(sL d i).length=2*upN i 256:=by
 induction i with
 | zero=>rfl
 | succ i ih=>
  rw [sL]
  split
  ·rw [List.length_append,ih,q6];unfold upN;omega
  ·rw [ih];unfold upN;omega
theorem qxp (d:List UInt8) (i:Nat):(mL d i).length=4*upN (cnt d i) 512:=by
 induction i with
 | zero=>simp [mL,cnt,upN]
 | succ i ih=>
  have hb:=qc8 d i;rw [mL,cnt]
  split
  ·rename_i h
   rw [List.length_append,ih,q6,h.1];unfold upN;omega
  ·rename_i h
   rw [ih]
   by_cases h1:bitN d i=1
   ·have:cnt d i%512≠0:=fun e=>h ⟨h1,e⟩
    rw [h1];unfold upN;omega
   ·have:bitN d i=0:=by omega
    rw [this];rfl
theorem q0x (d:List UInt8) (i j:Nat) (hj:j<upN i 2048):((gL d i).drop (4*j)).take 4=fixL (cnt d (2048*j)) 4:=by
 induction i with
 | zero=>simp [upN] at hj
 | succ i ih=>
  have hlen:=ql3 d i;rw [gL]
  split
  ·rename_i h
   by_cases hlt:j<upN i 2048
   ·rw [List.drop_append_of_le_length (by omega),List.take_append_of_le_length (by rw [List.length_drop];omega)];exact ih hlt
   ·have e1:4*j=(gL d i).length:=by rw [hlen];unfold upN at hj hlt ⊢;omega
    have e2:i=2048*j:=by unfold upN at hj hlt;omega
    rw [e1,List.drop_left,List.take_of_length_le (by rw [q6];exact Nat.le_refl _),← e2]
  ·rename_i h
   exact ih (by unfold upN at hj ⊢;omega)
theorem q04 (d:List UInt8) (i j:Nat) (hj:j<upN i 256):((sL d i).drop (2*j)).take 2=fixL (cnt d (256*j)-cnt d (2048*(j/8))) 2:=by
 induction i with
 | zero=>simp [upN] at hj
 | succ i ih=>
  have hlen:=qpx d i;rw [sL]
  split
  ·rename_i h
   by_cases hlt:j<upN i 256
   ·rw [List.drop_append_of_le_length (by omega),List.take_append_of_le_length (by rw [List.length_drop];omega)];exact ih hlt
   ·have e1:2*j=(sL d i).length:=by rw [hlen];unfold upN at hj hlt ⊢;omega
    have e2:i=256*j:=by unfold upN at hj hlt;omega
    have e3:i/2048=j/8:=by omega
    rw [e1,List.drop_left,List.take_of_length_le (by rw [q6];exact Nat.le_refl _),e3,← e2]
  ·rename_i h
   exact ih (by unfold upN at hj ⊢;omega)
theorem qqg (d:List UInt8) (a b:Nat):cnt d (a+b)≤cnt d a+b:=by
 induction b with
 | zero=>exact Nat.le_refl _
 | succ b ih=>have:=qc8 d (a+b);rw [← Nat.add_assoc,cnt];omega
def vD (l:List UInt8):List UInt8:=(l.drop 8).take (upN (vN l) 8)
theorem qo5 (l:List UInt8) (n:Nat) (hn:n≤vN l):cnt (vD l) n=cnt (l.drop 8) n:=qo4 _ _ _ (by unfold upN;omega)
theorem VecOk.of {l:List UInt8} (hv:vOk l=true) (h1:cnt (vD l) (vN l)=vM l) (hd:l.drop (qaf (vN l))=gL (vD l) (vN l)++(sL (vD l) (vN l)++mL (vD l) (vN l))):VecOk l:=by
 have hn:vN l≤67108864:=by
  simp only [vOk,Bool.and_eq_true,decide_eq_true_eq] at hv;exact hv.1.1.2
 refine ⟨hv,fun j hj=>?_,fun j hj=>?_,by rw [← qo5 l _ (Nat.le_refl _)];exact h1⟩
 ·have hlen:=ql3 (vD l) (vN l);rw [← List.drop_drop,hd,List.drop_append_of_le_length (by omega),List.take_append_of_le_length (by rw [List.length_drop];omega),q0x _ _ _ hj,qky];have hle:2048*j≤vN l:=by unfold upN at hj;omega
  have hc:=qo3 (vD l) (2048*j);rw [Nat.mod_eq_of_lt (by show _<4294967296;omega),qo5 l _ hle]
 ·have hlen:=ql3 (vD l) (vN l);have hlen2:=qpx (vD l) (vN l);have e:qa5 (vN l)+2*j=qaf (vN l)+((gL (vD l) (vN l)).length+2*j):=by rw [hlen,qa5];omega
  have e2:∀ A B:List UInt8,(A++B).drop (A.length+2*j)=B.drop (2*j):=fun A B=>by rw [← List.drop_drop,List.drop_left]
  rw [e,← List.drop_drop,hd,e2,List.drop_append_of_le_length (by omega),List.take_append_of_le_length (by rw [List.length_drop];omega),q04 _ _ _ hj,qky];have hle:256*j≤vN l:=by unfold upN at hj;omega
  have hc:cnt (vD l) (256*j)≤cnt (vD l) (2048*(j/8))+2048:=by
   have:=qqg (vD l) (2048*(j/8)) (256*j-2048*(j/8));have e4:2048*(j/8)+(256*j-2048*(j/8))=256*j:=by omega
   rw [e4] at this;omega
  rw [Nat.mod_eq_of_lt (by show _<65536;omega),qo5 l _ hle,qo5 l _ (by omega)]
open Go.RowKit V
set_option maxRecDepth 100000
theorem qec (d:List UInt8) (A:Option Addr) (n c t:Nat) (w:World) (hS:SlAt encB 1 w A d) (hn:d.length=n) (ht:t/8<d.length) (hd:d.length≤67108864) :
  Gv Tryz.prog 287 [.slice A n c,.int .i64 t] w fun v w'=>v=.bool (decide (bitN d t=1))∧w'=w:=by
 have hlt:=qt d[t/8];have hlt2:d[t/8].toNat/2 ^ (t%8)<256:=Nat.lt_of_le_of_lt (Nat.div_le_self _ _) hlt;have hb:d[t/8].toNat/2 ^ (t%8)%2 ^ 1=bitN d t:=by
  rw [bitN,List.getD_eq_getElem?_getD,List.getElem?_eq_getElem ht];rfl
 have ht':t/8<n:=hn ▸ ht;refine zE Tryz.func287 Tryz.ntmps287 ?_;(conv=>whnf);refine zB ?_;(conv=>whnf);refine ElemV.bs hS hn (t/8) (by omega) ht' ?_;intro eb eo hc;(conv=>whnf);refine LoadV.of hc ?_;(conv=>whnf);refine zA ?_;(conv=>whnf);refine V.Wit.shrN (t%8) (by omega) (by show t%8<8;omega) ?_;(conv=>whnf);refine Wit.eq (qao (k:=.u8) (m:=d[t/8].toNat/2 ^ (t%8)) 1 rfl (qjg hlt2) ⟨by omega,by omega⟩) ?_;rw [hb];(conv=>whnf);refine ⟨congrArg Value.bool ?_,rfl⟩;rw [Bool.eq_iff_iff];simp only [decide_eq_true_eq];omega
theorem qpt (n k:Nat) (w:World) (hk:k≤4) :
  Gv Tryz.prog 310 [.int .i64 n,.int .i64 k] w fun r w'=>w'.ownsRow w.heap.size 5 1 r k (byV (fixL n k))∧Ext w w':=by
 refine zE Tryz.func310 Tryz.ntmps310 ?_;(conv=>whnf);refine qm (fun x:Nat × Option Addr × Nat=>[(0,.int .i64 n),(1,.int .i64 k),(5,.slice x.2.1 x.1 x.2.2),(6,.int .i64 x.1)])
  (fun x w2=>x.1≤k∧Rw w w2 (.slice x.2.1 x.1 x.2.2) 5 1 x.1 (byV (fixL n x.1)) []) (fun x=>k-x.1) (0,none,0) ⟨rfl,rfl,rfl,rfl,trivial⟩ ⟨by simp,Rw.nil (Mem.nil w)⟩ ?_
 rintro ⟨i,A,c⟩ w2 ρ' ⟨h1,hR⟩;dsimp only at h1 hR ⊢;conv=>whnf
 (repeat' (first|(refine zA ?_;(conv=>whnf))|((with_reducible refine zC (fun _=>?_) (fun _=>?_))<;>first|(exfalso;omega)|(conv=>whnf))))
 ·refine V.Wit.shrN (8*i) (by omega) (by show 8*i<64;omega) ?_;(conv=>whnf);refine V.Wit.low8 ?_;(conv=>whnf);refine NewV.rw hR ?_;intro nb w4 hR4;(conv=>whnf);refine AppV.one qdv bytI bytZ (by kernel_rfl) rfl (by decide +kernel) hR4 rfl (by omega) ?_;intro B' d' w5 hR5;(conv=>whnf);refine zA ?_;(conv=>whnf);refine ⟨(i+1,B',d'),⟨rfl,rfl,rfl,rfl,trivial⟩,⟨by simp only;omega,?_⟩,by simp only;omega⟩;simp only [fixL,byV,List.map_append,List.map_cons,List.map_nil];have e:(UInt8.ofNat (n/2 ^ (8*i)%256)).toNat=n/2 ^ (8*i)%256:=by simp
  rw [e];exact hR5
 ·obtain rfl:i=k:=by omega
  exact ⟨hR.own,hR.mem.ext⟩
theorem qqj (d:List UInt8) (A:Option Addr) (l c n:Nat) (w:World) (hS:SlAt encB 1 w A d) (hl:d.length=l) (hn:n≤8*d.length) (hb:n≤67108864) (hd:d.length≤67108864) :
  Gv Tryz.prog 285 [.slice A l c,.int .i64 n] w fun v w'=>v=.int .i64 (cnt d n)∧w'=w:=by
 refine zE Tryz.func285 Tryz.ntmps285 ?_;(conv=>whnf);refine qm (fun i:Nat=>[(0,.slice A l c),(1,.int .i64 n),(5,.int .i64 (cnt d i)),(6,.int .i64 i)]) (fun i w'=>i≤n∧w'=w) (fun i=>n-i) 0 ⟨rfl,rfl,rfl,rfl,trivial⟩ ⟨Nat.zero_le _,rfl⟩ ?_;rintro i w1 ρ' ⟨i1,rfl⟩;have hc:=qo3 d i;have hb1:=qc8 d i;have hs:cnt d (i+1)=cnt d i+bitN d i:=rfl;(conv=>whnf);refine zC (fun _=>?_) (fun _=>?_)<;>(conv=>whnf)
 ·refine CallV.of (qec d A l c i _ hS hl (by omega) hd) ?_;rintro r w2 ⟨rfl,rfl⟩;conv=>whnf
  (repeat' (first|(refine zA ?_;(conv=>whnf))|((with_reducible refine zC (fun _=>?_) (fun _=>?_))<;>first|(exfalso;omega)|(conv=>whnf))))
  ·exact ⟨i+1,⟨rfl,rfl,by rw [hs];exact congrArg (Value.int .i64) (by omega),rfl,trivial⟩,⟨by omega,rfl⟩,by omega⟩
  ·exact ⟨i+1,⟨rfl,rfl,by rw [hs];exact congrArg (Value.int .i64) (by omega),rfl,trivial⟩,⟨by omega,rfl⟩,by omega⟩
 ·obtain rfl:i=n:=by omega
  exact ⟨rfl,rfl⟩
theorem qns (d:List UInt8) (A:Option Addr) (l c n:Nat) (w:World) (hS:SlAt encB 1 w A d) (hl:d.length=l) (hn:n≤8*d.length) (hd:d.length≤67108864) :
  Gv Tryz.prog 284 [.slice A l c,.int .i64 n] w fun v w'=>(∃ b,v=.bool b)∧w'=w:=by
 refine zE Tryz.func284 Tryz.ntmps284 ?_;(conv=>whnf);refine qm (fun i:Nat=>[(0,.slice A l c),(5,.int .i64 i)]) (fun i w'=>i≤8*d.length∧w'=w) (fun i=>8*d.length-i) n ⟨rfl,rfl,trivial⟩ ⟨hn,rfl⟩ ?_;rintro i w1 ρ' ⟨i1,rfl⟩;(conv=>whnf);refine zA ?_;(conv=>whnf);refine zC (fun _=>?_) (fun _=>?_)<;>(conv=>whnf)
 ·refine CallV.of (qec d A l c i _ hS hl (by omega) hd) ?_;rintro r w2 ⟨rfl,rfl⟩;conv=>whnf
  (repeat' (first|(refine zA ?_;(conv=>whnf))|((with_reducible refine zC (fun _=>?_) (fun _=>?_))<;>first|(exfalso;omega)|(conv=>whnf))))
  ·exact ⟨⟨_,rfl⟩,rfl⟩
  ·exact ⟨i+1,⟨rfl,rfl,trivial⟩,⟨by omega,rfl⟩,by omega⟩
 ·exact ⟨⟨_,rfl⟩,rfl⟩
theorem q09 (l:List UInt8):leN ((l.drop 0).take 4)=vN l:=rfl
theorem qb5 (l:List UInt8) (A:Option Addr) (n c:Nat) (w:World) (hS:SlAt encB 1 w A l) (hn:l.length=n) (h8:8≤l.length) (hl:l.length≤140737488355328) :
  Gv Tryz.prog 235 [.slice A n c] w fun v w'=>v=.tuple #[.int .i64 (vN l),.int .i64 (vM l)]∧Ext w w':=by
 refine zE Tryz.func235 Tryz.ntmps235 ?_;(conv=>whnf);refine CallV.of (qp4 l A n c 0 w hS hn (by omega) hl) ?_;rintro r w1 ⟨rfl,he⟩;rw [q09];(conv=>whnf);refine CallV.of (qp4 l A n c 4 w1 (hS.ext he) hn (by omega) hl) ?_;rintro r w2 ⟨rfl,he2⟩;(conv=>whnf);exact ⟨rfl,he.trans he2⟩
theorem qlv (l:List UInt8) (A:Option Addr) (n c:Nat) (w:World) (hS:SlAt encB 1 w A l) (hn:l.length=n) (hc:n≤c) (h8:8≤l.length) (hv:vN l≤67108864) (hg:qaf (vN l)≤l.length) (hl:l.length≤140737488355328) :
  Gv Tryz.prog 283 [.slice A n c] w fun v w'=>(∃ B d,v=.slice B (upN (vN l) 8) d∧SlAt encB 1 w' B (vD l))∧Ext w w':=by
 have hu:=qaq (vN l) 8 (by decide);have hgg:qaf (vN l)=8+upN (vN l) 8:=rfl;refine zE Tryz.func283 Tryz.ntmps283 ?_;(conv=>whnf);refine CallV.of (qb5 l A n c w hS hn h8 hl) ?_;rintro r w1 ⟨rfl,he⟩;(conv=>whnf);refine CallV.of (qe6 (vN l) 8 w1 (by omega) (by decide) (by decide)) ?_;rintro r w2 ⟨rfl,rfl⟩;(conv=>whnf);refine zA ?_;(conv=>whnf);refine SliceV.bs (hS.ext he) hn 8 (8+upN (vN l) 8) c rfl (by show (8:Int)+_=_;omega) rfl (by omega) (by omega) (by omega) (Nat.le_refl _) (fun _=>rfl) ?_;intro B hB;have e:8+upN (vN l) 8-8=upN (vN l) 8:=by omega
 rw [e] at hB ⊢;(conv=>whnf);exact ⟨⟨B,_,rfl,hB⟩,he⟩
open Go.RowKit V
set_option maxRecDepth 100000
def qhd (d:List UInt8) (n:Nat):List UInt8:=fixL n 4++fixL (cnt d n) 4++d++gL d n++sL d n++mL d n
def ahN (d:List UInt8) (i:Nat):Nat:=if i=0 then 0 else cnt d (2048*((i-1)/2048))
theorem qxm (d:List UInt8) (i:Nat) (h:i%2048=0):gL d (i+1)=gL d i++fixL (cnt d i) 4:=by rw [gL,if_pos h]
theorem qs8 (d:List UInt8) (i:Nat) (h:i%2048≠0):gL d (i+1)=gL d i:=by rw [gL,if_neg h]
theorem qpw (d:List UInt8) (i:Nat) (h:i%256=0):sL d (i+1)=sL d i++fixL (cnt d i-cnt d (2048*(i/2048))) 2:=by rw [sL,if_pos h]
theorem qzc (d:List UInt8) (i:Nat) (h:i%256≠0):sL d (i+1)=sL d i:=by rw [sL,if_neg h]
theorem qjs (d:List UInt8) (i:Nat) (h:bitN d i=1) (h2:cnt d i%512=0):mL d (i+1)=mL d i++fixL i 4:=by rw [mL,if_pos ⟨h,h2⟩]
theorem qgm (d:List UInt8) (i:Nat) (h:¬ (bitN d i=1∧cnt d i%512=0)):mL d (i+1)=mL d i:=by rw [mL,if_neg h]
theorem qzs (d:List UInt8) (i:Nat) (h:i%2048=0):ahN d (i+1)=cnt d i:=by
 rw [ahN,if_neg (by omega)];have e:2048*((i+1-1)/2048)=i:=by omega
 rw [e]
theorem qr6 (d:List UInt8) (i:Nat) (h:i%2048≠0):ahN d (i+1)=ahN d i:=by
 rw [ahN,ahN,if_neg (by omega),if_neg (by omega)];have e:(i+1-1)/2048=(i-1)/2048:=by omega
 rw [e]
theorem qj7 (d:List UInt8) (i:Nat):ahN d (i+1)=cnt d (2048*(i/2048)):=by
 rw [ahN,if_neg (by omega)];rfl
theorem q0t (d:List UInt8) (i:Nat):ahN d i≤cnt d i:=by
 rw [ahN]
 split
 ·exact Nat.zero_le _
 ·exact qkd (by omega)
theorem V.AppV.rwB {P:Program} {w0 w:World} {e t ty:TypeId} {i:TypeInfo} {z:Value} {L:List (Nat × Obj)} {A B:Option Addr} {c d:Nat} {x m:List UInt8} {K:Value→World→Prop} (ht:P.underlying t=some (.slice e)) (hi:P.info? e=some i) (hz:i.zero=some z)
  (hsize:i.size=1) (hzs:z.cells.size=1) (hby:i.bytes≤16) (h:Rw w0 w (.slice A x.length c) e 1 x.length (byV x) L) (hS:SlAt encB 1 w B m) (hlen:x.length+m.length≤8000000000000)
  (hk:∀ A' c' w',Rw w0 w' (.slice A' (x++m).length c') e 1 (x++m).length (byV (x++m)) L→K (.slice A' (x++m).length c') w'):AppV P #[t,t] ty (.slice A x.length c) (.slice B m.length d) w K:=by
 refine AppV.rw (news:=byV m) ht hi hz hsize hzs (by decide) h (by rw [qsg,Nat.mul_one]) (qo0 hS) (fun u hu=>?_) (Nat.le_trans (Nat.mul_le_mul hlen hby) (by decide)) (by omega) ?_
 ·simp only [byV,List.mem_map] at hu;obtain ⟨v,_,rfl⟩:=hu;rfl
 ·intro A' c' w' hR;rw [← List.length_append] at hR ⊢;exact hk A' c' w' (by rw [byV,List.map_append];exact hR)
theorem qcl (n k:Nat) (w:World) (hk:k≤4) :
  Gv Tryz.prog 310 [.int .i64 n,.int .i64 k] w fun r w'=>(∃ A c,r=.slice A (fixL n k).length c∧SlAt encB 1 w' A (fixL n k))∧Ext w w':=by
 refine (qpt n k w hk).mono ?_;rintro r w' ⟨ho,he⟩;obtain ⟨A,c,e,_,hS⟩:=qfo (l:=fixL n k) (by rw [q6];exact ho);exact ⟨⟨A,c,e,hS⟩,he⟩
theorem qry (d:List UInt8) (A:Option Addr) (l c n:Nat) (w:World) (hS:SlAt encB 1 w A d) (hl:d.length=l) (hn:n≤8*d.length) (hb:n≤67108864) (hd:d.length≤67108864) :
  Gv Tryz.prog 286 [.slice A l c,.int .i64 n] w fun v w'=>(∃ B cb,v=.slice B (qhd d n).length cb∧SlAt encB 1 w' B (qhd d n))∧Ext w w':=by
 refine zE Tryz.func286 Tryz.ntmps286 ?_;(conv=>whnf);refine qm (fun x:Nat × (Option Addr × Nat) × (Option Addr × Nat) × (Option Addr × Nat)=>[(0,.slice A l c),(1,.int .i64 n),(5,.slice x.2.1.1 (gL d x.1).length x.2.1.2),(6,.slice x.2.2.1.1 (sL d x.1).length x.2.2.1.2),(7,.slice x.2.2.2.1 (mL d x.1).length x.2.2.2.2),(8,.int .i64 (cnt d x.1)),(9,.int .i64 (ahN d x.1)),(10,.int .i64 x.1)])
  (fun x w'=>x.1≤n∧V.Tri 5 w w' (.slice x.2.1.1 (gL d x.1).length x.2.1.2) (.slice x.2.2.1.1 (sL d x.1).length x.2.2.1.2) (.slice x.2.2.2.1 (mL d x.1).length x.2.2.2.2) (gL d x.1) (sL d x.1) (mL d x.1)) (fun x=>n-x.1) (0,(none,0),(none,0),(none,0))
  ⟨rfl,rfl,rfl,rfl,rfl,rfl,rfl,rfl,trivial⟩ ⟨Nat.zero_le _,Tri.nil w⟩ ?_
 rintro ⟨i,⟨GA,gc⟩,⟨SA,sc⟩,⟨MA,mc⟩⟩ w1 ρ' ⟨i1,hT⟩;dsimp only at i1 hT ⊢;have hc:=qo3 d i;have hah:=q0t d i;have hgl:=ql3 d i;have hsl:=qpx d i;have hml:=qxp d i;have hu1:=qaq i 2048 (by decide);have hu2:=qaq i 256 (by decide);have hu3:=qaq (cnt d i) 512 (by decide);have hs:cnt d (i+1)=cnt d i+bitN d i:=rfl;have hb1:=qc8 d i;conv=>whnf
 (repeat' (first|(refine zA ?_;(conv=>whnf))|((with_reducible refine zC (fun _=>?_) (fun _=>?_))<;>first|(exfalso;omega)|(conv=>whnf))))
 ·have hah1:ahN d (i+1)=cnt d i:=qzs d i (by omega);refine CallV.of (qcl (cnt d i) 4 w1 (by decide)) ?_;rintro r w2 ⟨⟨B,cb,rfl,hSB⟩,he⟩;have hT:=hT.call he;(conv=>whnf);refine V.Tri.app hT qdv bytI bytZ (by kernel_rfl) rfl (by decide +kernel) hSB (by rw [q6];omega) ?_;intro GA gc w3 hT;have e1:(gL d i).length+(fixL (cnt d i) 4).length=(gL d (i+1)).length:=by rw [qxm d i (by omega),List.length_append]
  rw [e1] at hT ⊢;rw [← qxm d i (by omega)] at hT;(conv=>whnf);refine zA ?_;(conv=>whnf);refine zY (fun _=>?_);(conv=>whnf);refine zA ?_;(conv=>whnf);have es:((cnt d i:Nat):Int)-((cnt d i:Nat):Int)=((cnt d i-ahN d (i+1):Nat):Int):=by rw [hah1];omega
  rw [es];refine CallV.of (qcl (cnt d i-ahN d (i+1)) 2 _ (by decide)) ?_;rintro r w4 ⟨⟨B2,cb2,rfl,hSB2⟩,he2⟩;have hT:=(hT.call he2).rot;(conv=>whnf);refine V.Tri.app hT qdv bytI bytZ (by kernel_rfl) rfl (by decide +kernel) hSB2 (by rw [q6];omega) ?_;intro SA sc w5 hT;have e2:(sL d i).length+(fixL (cnt d i-ahN d (i+1)) 2).length=(sL d (i+1)).length:=by rw [qpw d i (by omega),List.length_append,qj7]
  rw [e2] at hT ⊢;rw [qj7,← qpw d i (by omega)] at hT;have hT:=hT.rot.rot;(conv=>whnf);refine CallV.of (qec d A l c i _ (hS.ext hT.ext) hl (by omega) hd) ?_;rintro r w6 ⟨rfl,rfl⟩;conv=>whnf
  (repeat' (first|(refine zA ?_;(conv=>whnf))|((with_reducible refine zC (fun _=>?_) (fun _=>?_))<;>first|(exfalso;omega)|(conv=>whnf))))
  ·have e3:((cnt d i:Nat):Int)+1=((cnt d (i+1):Nat):Int):=by rw [hs];omega
   refine CallV.of (qcl i 4 _ (by decide)) ?_;rintro r w7 ⟨⟨B3,cb3,rfl,hSB3⟩,he3⟩;have hT:=(hT.call he3).rot.rot;(conv=>whnf);refine V.Tri.app hT qdv bytI bytZ (by kernel_rfl) rfl (by decide +kernel) hSB3 (by rw [q6];omega) ?_;intro MA mc w8 hT;have e4:(mL d i).length+(fixL i 4).length=(mL d (i+1)).length:=by rw [qjs d i ‹_› (by omega),List.length_append]
   rw [e4] at hT ⊢;rw [← qjs d i ‹_› (by omega)] at hT;have hT:=hT.rot;(conv=>whnf);(iterate 2 (refine zA ?_;(conv=>whnf)));exact ⟨(i+1,(GA,gc),(SA,sc),(MA,mc)),⟨rfl,rfl,rfl,rfl,rfl,by rw [← e3];rfl,by rw [hah1];rfl,rfl,trivial⟩,⟨by simp only;omega,hT⟩,by simp only;omega⟩
  ·have e3:((cnt d i:Nat):Int)+1=((cnt d (i+1):Nat):Int):=by rw [hs];omega
   rw [← qgm d i (fun h=>by omega)] at hT ⊢;exact ⟨(i+1,(GA,gc),(SA,sc),(MA,mc)),⟨rfl,rfl,rfl,rfl,rfl,by rw [← e3];rfl,by rw [hah1];rfl,rfl,trivial⟩,⟨by simp only;omega,hT⟩,by simp only;omega⟩
  ·have e3:cnt d i=cnt d (i+1):=by rw [hs];omega
   rw [← qgm d i (fun h=>by omega)] at hT ⊢;rw [e3];exact ⟨(i+1,(GA,gc),(SA,sc),(MA,mc)),⟨rfl,rfl,rfl,rfl,rfl,rfl,by rw [hah1,e3];rfl,rfl,trivial⟩,⟨by simp only;omega,hT⟩,by simp only;omega⟩
 ·have hah1:ahN d (i+1)=ahN d i:=qr6 d i (by omega);rw [← qs8 d i (by omega)] at hT ⊢;have es:((cnt d i:Nat):Int)-((ahN d i:Nat):Int)=((cnt d i-ahN d (i+1):Nat):Int):=by rw [hah1];omega
  rw [es];refine CallV.of (qcl (cnt d i-ahN d (i+1)) 2 _ (by decide)) ?_;rintro r w4 ⟨⟨B2,cb2,rfl,hSB2⟩,he2⟩;have hT:=(hT.call he2).rot;(conv=>whnf);refine V.Tri.app hT qdv bytI bytZ (by kernel_rfl) rfl (by decide +kernel) hSB2 (by rw [q6];omega) ?_;intro SA sc w5 hT;have e2:(sL d i).length+(fixL (cnt d i-ahN d (i+1)) 2).length=(sL d (i+1)).length:=by rw [qpw d i (by omega),List.length_append,qj7]
  rw [e2] at hT ⊢;rw [qj7,← qpw d i (by omega)] at hT;have hT:=hT.rot.rot;(conv=>whnf);refine CallV.of (qec d A l c i _ (hS.ext hT.ext) hl (by omega) hd) ?_;rintro r w6 ⟨rfl,rfl⟩;conv=>whnf
  (repeat' (first|(refine zA ?_;(conv=>whnf))|((with_reducible refine zC (fun _=>?_) (fun _=>?_))<;>first|(exfalso;omega)|(conv=>whnf))))
  ·have e3:((cnt d i:Nat):Int)+1=((cnt d (i+1):Nat):Int):=by rw [hs];omega
   refine CallV.of (qcl i 4 _ (by decide)) ?_;rintro r w7 ⟨⟨B3,cb3,rfl,hSB3⟩,he3⟩;have hT:=(hT.call he3).rot.rot;(conv=>whnf);refine V.Tri.app hT qdv bytI bytZ (by kernel_rfl) rfl (by decide +kernel) hSB3 (by rw [q6];omega) ?_;intro MA mc w8 hT;have e4:(mL d i).length+(fixL i 4).length=(mL d (i+1)).length:=by rw [qjs d i ‹_› (by omega),List.length_append]
   rw [e4] at hT ⊢;rw [← qjs d i ‹_› (by omega)] at hT;have hT:=hT.rot;(conv=>whnf);(iterate 2 (refine zA ?_;(conv=>whnf)));exact ⟨(i+1,(GA,gc),(SA,sc),(MA,mc)),⟨rfl,rfl,rfl,rfl,rfl,by rw [← e3];rfl,by rw [hah1];rfl,rfl,trivial⟩,⟨by simp only;omega,hT⟩,by simp only;omega⟩
  ·have e3:((cnt d i:Nat):Int)+1=((cnt d (i+1):Nat):Int):=by rw [hs];omega
   rw [← qgm d i (fun h=>by omega)] at hT ⊢;exact ⟨(i+1,(GA,gc),(SA,sc),(MA,mc)),⟨rfl,rfl,rfl,rfl,rfl,by rw [← e3];rfl,by rw [hah1];rfl,rfl,trivial⟩,⟨by simp only;omega,hT⟩,by simp only;omega⟩
  ·have e3:cnt d i=cnt d (i+1):=by rw [hs];omega
   rw [← qgm d i (fun h=>by omega)] at hT ⊢;rw [e3];exact ⟨(i+1,(GA,gc),(SA,sc),(MA,mc)),⟨rfl,rfl,rfl,rfl,rfl,rfl,by rw [hah1];rfl,rfl,trivial⟩,⟨by simp only;omega,hT⟩,by simp only;omega⟩
 ·have hah1:ahN d (i+1)=ahN d i:=qr6 d i (by omega);rw [← qs8 d i (by omega),← qzc d i (by omega)] at hT ⊢;refine CallV.of (qec d A l c i _ (hS.ext hT.ext) hl (by omega) hd) ?_;rintro r w6 ⟨rfl,rfl⟩;conv=>whnf
  (repeat' (first|(refine zA ?_;(conv=>whnf))|((with_reducible refine zC (fun _=>?_) (fun _=>?_))<;>first|(exfalso;omega)|(conv=>whnf))))
  ·have e3:((cnt d i:Nat):Int)+1=((cnt d (i+1):Nat):Int):=by rw [hs];omega
   refine CallV.of (qcl i 4 _ (by decide)) ?_;rintro r w7 ⟨⟨B3,cb3,rfl,hSB3⟩,he3⟩;have hT:=(hT.call he3).rot.rot;(conv=>whnf);refine V.Tri.app hT qdv bytI bytZ (by kernel_rfl) rfl (by decide +kernel) hSB3 (by rw [q6];omega) ?_;intro MA mc w8 hT;have e4:(mL d i).length+(fixL i 4).length=(mL d (i+1)).length:=by rw [qjs d i ‹_› (by omega),List.length_append]
   rw [e4] at hT ⊢;rw [← qjs d i ‹_› (by omega)] at hT;have hT:=hT.rot;(conv=>whnf);(iterate 2 (refine zA ?_;(conv=>whnf)));exact ⟨(i+1,(GA,gc),(SA,sc),(MA,mc)),⟨rfl,rfl,rfl,rfl,rfl,by rw [← e3];rfl,by rw [hah1];rfl,rfl,trivial⟩,⟨by simp only;omega,hT⟩,by simp only;omega⟩
  ·have e3:((cnt d i:Nat):Int)+1=((cnt d (i+1):Nat):Int):=by rw [hs];omega
   rw [← qgm d i (fun h=>by omega)] at hT ⊢;exact ⟨(i+1,(GA,gc),(SA,sc),(MA,mc)),⟨rfl,rfl,rfl,rfl,rfl,by rw [← e3];rfl,by rw [hah1];rfl,rfl,trivial⟩,⟨by simp only;omega,hT⟩,by simp only;omega⟩
  ·have e3:cnt d i=cnt d (i+1):=by rw [hs];omega
   rw [← qgm d i (fun h=>by omega)] at hT ⊢;rw [e3];exact ⟨(i+1,(GA,gc),(SA,sc),(MA,mc)),⟨rfl,rfl,rfl,rfl,rfl,rfl,by rw [hah1];rfl,rfl,trivial⟩,⟨by simp only;omega,hT⟩,by simp only;omega⟩
 ·obtain rfl:i=n:=by omega
  have hG:SlAt encB 1 w1 GA (gL d i):=by
   obtain ⟨_,_,e,_,h⟩:=qfo hT.oa;cases e;exact h
  have hH:SlAt encB 1 w1 SA (sL d i):=by
   obtain ⟨_,_,e,_,h⟩:=qfo hT.ob;cases e;exact h
  have hI:SlAt encB 1 w1 MA (mL d i):=by
   obtain ⟨_,_,e,_,h⟩:=qfo hT.oc;cases e;exact h
  refine CallV.of (qpt i 4 w1 (by decide)) ?_;rintro r w2 ⟨ho,he⟩;obtain ⟨B,cb,rfl⟩:=qih ho;have hR:Rw w1 w2 (.slice B (fixL i 4).length cb) 5 1 (fixL i 4).length (byV (fixL i 4)) []:=⟨⟨he,by simp,by simp⟩,ho,by simp⟩
  (conv=>whnf);refine CallV.of (qcl (cnt d i) 4 w2 (by decide)) ?_;rintro r w3 ⟨⟨B2,cb2,rfl,hS2⟩,he2⟩;have hR:=hR.call he2;(conv=>whnf);refine AppV.rwB (x:=fixL i 4) qdv bytI bytZ (by kernel_rfl) rfl (by decide +kernel) hR hS2 (by rw [q6,q6];omega) ?_;intro C1 c1 w4 hR;(conv=>whnf);subst hl;refine AppV.rwB (x:=fixL i 4++fixL (cnt d i) 4) qdv bytI bytZ (by kernel_rfl) rfl (by decide +kernel) hR (hS.ext (hT.ext.trans hR.mem.ext)) (by simp only [List.length_append,q6];omega) ?_;intro C2 c2 w5 hR;(conv=>whnf);refine AppV.rwB (x:=fixL i 4++fixL (cnt d i) 4++d) qdv bytI bytZ (by kernel_rfl) rfl (by decide +kernel) hR (hG.ext hR.mem.ext) (by simp only [List.length_append,q6];omega) ?_;intro C3 c3 w6 hR;(conv=>whnf);refine AppV.rwB (x:=fixL i 4++fixL (cnt d i) 4++d++gL d i) qdv bytI bytZ (by kernel_rfl) rfl (by decide +kernel) hR (hH.ext hR.mem.ext) (by simp only [List.length_append,q6];omega) ?_;intro C4 c4 w7 hR;(conv=>whnf);refine AppV.rwB (x:=fixL i 4++fixL (cnt d i) 4++d++gL d i++sL d i) qdv bytI bytZ (by kernel_rfl) rfl (by decide +kernel) hR (hI.ext hR.mem.ext) (by simp only [List.length_append,q6];omega) ?_;intro C5 c5 w8 hR;(conv=>whnf);obtain ⟨_,_,e,_,h⟩:=qfo hR.own;cases e;exact ⟨⟨C5,c5,rfl,h⟩,hT.ext.trans hR.mem.ext⟩
open Go.RowKit V
set_option maxRecDepth 100000
def fltV (a e:Int):Value:=.agg #[.int .i64 a,.int .i64 e]
def q0q (l:List UInt8):Prop:=8≤l.length∧vN l≤67108864∧vM l≤vN l
def HdR (l:List UInt8) (v:Value):Prop:=(q0q l∧v=fltV 0 0)∨(¬ q0q l∧∃ a e:Int,e≠0∧0≤a∧a≤1099511627776∧v=fltV a e)
theorem qtg (l:List UInt8) (A:Option Addr) (n c:Nat) (w:World) (hS:SlAt encB 1 w A l) (hn:l.length=n) (hl:l.length≤140737488355328) :
  Gv Tryz.prog 282 [.slice A n c] w fun v w'=>HdR l v∧Ext w w':=by
 refine zE Tryz.func282 Tryz.ntmps282 ?_;(conv=>whnf);refine NewV.mem (Mem.nil w) ?_;intro b w1 hm;have hm:Mem w w1 [(b,.cells #[.int .i64 0,.int .i64 0] 350 (0,0))]:=hm;(conv=>whnf);refine zC (fun _=>?_) (fun _=>?_)<;>(conv=>whnf)
 ·refine StoreA.all hm (i:=0) rfl rfl (by intro v hv;simp at hv;rcases hv with rfl|rfl<;>rfl) ?_;intro w2 hm;(conv=>whnf);refine qa (R:=fun v w'=>HdR l v∧Ext w w') ?_;(conv=>whnf);refine zL hm 0 ?_;(conv=>whnf);exact ⟨.inr ⟨fun h=>by have:=h.1;omega,_,_,by decide,by omega,by omega,rfl⟩,hm.ext⟩
 have h8:8≤l.length:=by omega
 have hN:=qag l 4 (by omega);have hM:=qag (l.drop 4) 4 (by rw [List.length_drop];omega);refine CallV.of (qb5 l A n c w1 (hS.ext hm.ext) hn h8 hl) ?_;rintro r w2 ⟨rfl,he⟩;have hm:=hm.call he;conv=>whnf
 (repeat' ((with_reducible refine zC (fun _=>?_) (fun _=>?_))<;>first|(exfalso;omega)|(conv=>whnf)))
 ·refine StoreA.all hm (i:=0) rfl rfl (by decide) ?_;intro w2 hm;(conv=>whnf);refine qa (R:=fun v w'=>HdR l v∧Ext w w') ?_;(conv=>whnf);refine zL hm 0 ?_;(conv=>whnf);exact ⟨.inr ⟨fun h=>by have:=h.2.1;omega,_,_,by decide,by omega,by omega,rfl⟩,hm.ext⟩
 ·refine StoreA.all hm (i:=0) rfl rfl (by decide) ?_;intro w2 hm;(conv=>whnf);refine qa (R:=fun v w'=>HdR l v∧Ext w w') ?_;(conv=>whnf);refine zL hm 0 ?_;(conv=>whnf);exact ⟨.inr ⟨fun h=>by have:=h.2.2;omega,_,_,by decide,by omega,by omega,rfl⟩,hm.ext⟩
 ·refine StoreA.all hm (i:=0) rfl rfl (by decide) ?_;intro w2 hm;(conv=>whnf);refine qa (R:=fun v w'=>HdR l v∧Ext w w') ?_;(conv=>whnf);refine zL hm 0 ?_;(conv=>whnf);exact ⟨.inl ⟨⟨h8,by omega,by omega⟩,rfl⟩,hm.ext⟩
def VoR (l:List UInt8) (v:Value):Prop:=(VecOk l∧v=fltV 0 0)∨(∃ a e:Int,e≠0∧0≤a∧a≤1099511627776∧v=fltV a e)
theorem qvb (d:List UInt8) (n:Nat):(qhd d n).length=8+d.length+4*upN n 2048+2*upN n 256+4*upN (cnt d n) 512:=by
 simp only [qhd,List.length_append,q6,ql3,qpx,qxp]
theorem qrz (d:List UInt8) (n:Nat):(qhd d n).drop (8+d.length)=gL d n++(sL d n++mL d n):=by
 have e:qhd d n=(fixL n 4++fixL (cnt d n) 4++d)++(gL d n++(sL d n++mL d n)):=by simp only [qhd,List.append_assoc]
 have e2:8+d.length=(fixL n 4++fixL (cnt d n) 4++d).length:=by simp only [List.length_append,q6]
 rw [e,e2,List.drop_left]
theorem qsu {l m:List UInt8} {a:Nat} (hlen:l.length=m.length) (h:∀ j,a≤j→j<l.length→l[j]?=m[j]?):l.drop a=m.drop a:=by
 apply List.ext_getElem?;intro i;rw [List.getElem?_drop,List.getElem?_drop]
 by_cases hi:a+i<l.length
 ·exact h (a+i) (by omega) hi
 ·rw [List.getElem?_eq_none (by omega),List.getElem?_eq_none (by omega)]
set_option maxHeartbeats 1000000 in
theorem qrx (l:List UInt8) (A:Option Addr) (n c:Nat) (w:World) (hS:SlAt encB 1 w A l) (hn:l.length=n) (hc:n≤c) (hl:l.length≤67108864) :
  Gv Tryz.prog 236 [.slice A n c] w fun v w'=>VoR l v∧Ext w w':=by
 refine zE Tryz.func236 Tryz.ntmps236 ?_;(conv=>whnf);refine NewV.mem (Mem.nil w) ?_;intro b w1 hm;have hm:Mem w w1 [(b,.cells #[.int .i64 0,.int .i64 0] 350 (0,0))]:=hm;(conv=>whnf);refine CallV.of (qtg l A n c w1 (hS.ext hm.ext) hn (by omega)) ?_;rintro r w2 ⟨⟨⟨h8,hN,hM⟩,rfl⟩|⟨_,a,e,he0,ha1,ha2,rfl⟩,he⟩
 case inr=>
  have hm:=hm.call he;(conv=>whnf);refine NewV.mem hm ?_;intro fb w3 hm;have hm:Mem w w3 [(fb,.cells #[.int .i64 0,.int .i64 0] 350 (0,0)),(b,.cells #[.int .i64 0,.int .i64 0] 350 (0,0))]:=hm;(conv=>whnf);refine StoreA.all hm (i:=0) rfl rfl (by intro v hv;simp at hv;rcases hv with rfl|rfl<;>rfl) ?_;intro w4 hm;(conv=>whnf);refine LoadV.mem (i:=0) (by assumption) rfl rfl ?_;(conv=>whnf);refine zY (fun _=>?_);(conv=>whnf);refine zL hm 0 ?_;(conv=>whnf);refine StoreA.all hm (i:=1) rfl rfl (by intro v hv;simp at hv;rcases hv with rfl|rfl<;>rfl) ?_;intro w5 hm;(conv=>whnf);refine qa (R:=fun v w'=>VoR l v∧Ext w w') ?_;(conv=>whnf);refine zL hm 1 ?_;(conv=>whnf);exact ⟨.inr ⟨a,e,he0,ha1,ha2,rfl⟩,hm.ext⟩
 have hm:=hm.call he;(conv=>whnf);refine NewV.mem hm ?_;intro fb w3 hm;have hm:Mem w w3 [(fb,.cells #[.int .i64 0,.int .i64 0] 350 (0,0)),(b,.cells #[.int .i64 0,.int .i64 0] 350 (0,0))]:=hm;(conv=>whnf);refine StoreA.all hm (i:=0) rfl rfl (by decide) ?_;intro w4 hm;(conv=>whnf);refine LoadV.mem (i:=0) (by assumption) rfl rfl ?_;(conv=>whnf);refine zN (fun _=>?_);(conv=>whnf);have hm:=hm.sub (List.sublist_cons_self ..);refine CallV.of (qb5 l A n c w4 (hS.ext hm.ext) hn h8 (by omega)) ?_;rintro r w5 ⟨rfl,he5⟩;have hm:=hm.call he5;(conv=>whnf);refine CallV.of (qgu (vN l) (vM l) w5 hN hM) ?_;rintro r w6 ⟨rfl,he6⟩;have hm:=hm.call he6;(conv=>whnf);refine zC (fun _=>?_) (fun _=>?_)<;>(conv=>whnf)
 ·refine StoreA.all hm (i:=0) rfl rfl (by intro v hv;simp at hv;rcases hv with rfl|rfl<;>rfl) ?_;intro w9 hm;(conv=>whnf);refine qa (R:=fun v w'=>VoR l v∧Ext w w') ?_;(conv=>whnf);refine zL hm 0 ?_;(conv=>whnf);exact ⟨.inr ⟨_,_,by decide,by omega,by omega,rfl⟩,hm.ext⟩
 have hgl:qaf (vN l)≤l.length:=by
  have:qbr (vN l) (vM l)=qaf (vN l)+4*upN (vN l) 2048+2*upN (vN l) 256+4*upN (vM l) 512:=rfl;omega
 have hgg:qaf (vN l)=8+upN (vN l) 8:=rfl;have hdl:(vD l).length=upN (vN l) 8:=by rw [vD,List.length_take,List.length_drop];omega
 have hun:vN l≤8*(vD l).length:=by rw [hdl];unfold upN;omega
 refine CallV.of (qlv l A n c w6 (hS.ext hm.ext) hn hc h8 hN hgl (by omega)) ?_;rintro r w7 ⟨⟨B,d,rfl,hD⟩,he7⟩;have hm:=hm.call he7;(conv=>whnf);refine CallV.of (qns (vD l) B _ d (vN l) w7 hD hdl hun (by omega)) ?_;rintro r w8 ⟨⟨pb,rfl⟩,rfl⟩;(conv=>whnf);cases pb
 ·refine zP ?_;refine zU ?_;(conv=>whnf);refine zA ?_;(conv=>whnf);refine StoreA.all hm (i:=0) rfl rfl (by intro v hv;simp at hv;rcases hv with rfl|rfl<;>rfl) ?_;intro w9 hm;(conv=>whnf);refine qa (R:=fun v w'=>VoR l v∧Ext w w') ?_;(conv=>whnf);refine zL hm 0 ?_;(conv=>whnf);exact ⟨.inr ⟨_,_,by decide,by omega,by omega,rfl⟩,hm.ext⟩
 refine zP ?_;refine zT ?_;(conv=>whnf);refine CallV.of (qqj (vD l) B _ d (vN l) _ hD hdl hun hN (by omega)) ?_;rintro r w8 ⟨rfl,rfl⟩;(conv=>whnf);refine zC (fun _=>?_) (fun _=>?_)<;>(conv=>whnf)
 ·refine StoreA.all hm (i:=0) rfl rfl (by intro v hv;simp at hv;rcases hv with rfl|rfl<;>rfl) ?_;intro w9 hm;(conv=>whnf);refine qa (R:=fun v w'=>VoR l v∧Ext w w') ?_;(conv=>whnf);refine zL hm 0 ?_;(conv=>whnf);exact ⟨.inr ⟨_,_,by decide,by omega,by omega,rfl⟩,hm.ext⟩
 have hcn:cnt (vD l) (vN l)=vM l:=by omega
 have u1:=qaq (vN l) 2048 (by decide);have u2:=qaq (vN l) 256 (by decide);have u3:=qaq (vN l) 8 (by decide);have u4:=qaq (vM l) 512 (by decide);have hve:qbr (vN l) (vM l)=qaf (vN l)+4*upN (vN l) 2048+2*upN (vN l) 256+4*upN (vM l) 512:=rfl;refine CallV.of (qry (vD l) B _ d (vN l) _ hD hdl hun hN (by omega)) ?_;rintro r w10 ⟨⟨C,cc,rfl,hW⟩,he10⟩;have hm:=hm.call he10;(conv=>whnf);refine zA ?_;(conv=>whnf);refine CallV.of (qe6 (vN l) 2048 _ (by omega) (by decide) (by decide)) ?_;rintro r w11 ⟨rfl,rfl⟩;(conv=>whnf);(iterate 2 (refine zA ?_;(conv=>whnf)));refine CallV.of (qe6 (vN l) 256 _ (by omega) (by decide) (by decide)) ?_;rintro r w11 ⟨rfl,rfl⟩;(conv=>whnf);(iterate 2 (refine zA ?_;(conv=>whnf)));have hwl:=qvb (vD l) (vN l);rw [hcn,hdl] at hwl;obtain ⟨wt,ewt⟩:∃ wt,wt=qhd (vD l) (vN l):=⟨_,rfl⟩
 rw [← ewt] at hwl hW ⊢;obtain ⟨w12,ew12⟩:∃ w12:World,w12=w11:=⟨_,rfl⟩
 refine qm (fun i:Nat=>[(0,.slice A n c),(2,.pointer (some ⟨b,0,none⟩)),(6,.int .i64 (qbr (vN l) (vM l))),(9,.slice C wt.length cc),(10,.int .i64 (8+upN (vN l) 8:Nat)),(11,.int .i64 (8+upN (vN l) 8+4*upN (vN l) 2048:Nat)),(12,.int .i64 (8+upN (vN l) 8+4*upN (vN l) 2048+2*upN (vN l) 256:Nat)),(13,.int .i64 i)])
  (fun i w'=>8+upN (vN l) 8≤i∧i≤qbr (vN l) (vM l)∧(∀ j,8+upN (vN l) 8≤j→j<i→l[j]?=wt[j]?)∧Ext w11 w'∧Mem w w' [(b,.cells #[.int .i64 0,.int .i64 0] 350 (0,0))]) (fun i=>qbr (vN l) (vM l)-i) (8+upN (vN l) 8)
  ⟨rfl,rfl,rfl,rfl,by exact congrArg (Value.int .i64) (by omega),by exact congrArg (Value.int .i64) (by omega),by exact congrArg (Value.int .i64) (by omega),by exact congrArg (Value.int .i64) (by omega),trivial⟩ ⟨Nat.le_refl _,by omega,fun j h1 h2=>by omega,Ext.refl _,hm⟩ ?_
 clear hm;rintro i w13 ρ' ⟨i1,i2,hj,hx,hm⟩;conv=>whnf
 (repeat' ((with_reducible refine zC (fun _=>?_) (fun _=>?_))<;>first|(exfalso;omega)|(conv=>whnf)))
 ·refine DrawV.quiet (by kernel_rfl) (by kernel_rfl) ?_;(conv=>whnf);have hm:=hm.drew;have hx:=hx.drew;(iterate 2 (refine zW ?_;(conv=>whnf)));refine ElemV.bs (hS.ext hm.ext) hn i rfl (by omega) ?_;intro eb eo hc1;(conv=>whnf);refine zW ?_;(conv=>whnf);refine LoadV.of hc1 ?_;(conv=>whnf);(iterate 3 (refine zW ?_;(conv=>whnf)));refine ElemV.bs (hW.ext hx) rfl i rfl (by omega) ?_;intro eb2 eo2 hc2;(conv=>whnf);refine zW ?_;(conv=>whnf);refine LoadV.of hc2 ?_;conv=>whnf
  (repeat' (first|(refine zA ?_;(conv=>whnf))|(refine zB ?_;(conv=>whnf))|((with_reducible refine zC (fun _=>?_) (fun _=>?_))<;>first|(exfalso;omega)|(conv=>whnf))|((with_reducible refine zW ?_);(conv=>whnf))))
  ·refine ⟨i+1,⟨rfl,rfl,rfl,rfl,rfl,rfl,rfl,rfl,trivial⟩,⟨by omega,by omega,fun j h1 h2=>?_,hx,hm⟩,by omega⟩
   by_cases ej:j=i
   ·subst ej;rw [List.getElem?_eq_getElem (by omega),List.getElem?_eq_getElem (by omega)];exact congrArg some (UInt8.toNat_inj.1 (by omega))
   ·exact hj j h1 (by omega)
  ·refine StoreA.all hm (i:=0) rfl rfl (by intro v hv;simp at hv;rcases hv with rfl|rfl<;>rfl) ?_;intro w9 hm;(conv=>whnf);refine qa (R:=fun v w'=>VoR l v∧Ext w w') ?_;(conv=>whnf);refine zL hm 0 ?_;(conv=>whnf);exact ⟨.inr ⟨_,_,by decide,by omega,by omega,rfl⟩,hm.ext⟩
  ·refine StoreA.all hm (i:=0) rfl rfl (by intro v hv;simp at hv;rcases hv with rfl|rfl<;>rfl) ?_;intro w9 hm;(conv=>whnf);refine qa (R:=fun v w'=>VoR l v∧Ext w w') ?_;(conv=>whnf);refine zL hm 0 ?_;(conv=>whnf);exact ⟨.inr ⟨_,_,by decide,by omega,by omega,rfl⟩,hm.ext⟩
  ·refine StoreA.all hm (i:=0) rfl rfl (by intro v hv;simp at hv;rcases hv with rfl|rfl<;>rfl) ?_;intro w9 hm;(conv=>whnf);refine qa (R:=fun v w'=>VoR l v∧Ext w w') ?_;(conv=>whnf);refine zL hm 0 ?_;(conv=>whnf);exact ⟨.inr ⟨_,_,by decide,by omega,by omega,rfl⟩,hm.ext⟩
 ·obtain rfl:i=qbr (vN l) (vM l):=by omega
  clear hj;refine StoreA.all hm (i:=0) rfl rfl (by intro v hv;simp at hv;rcases hv with rfl|rfl<;>rfl) ?_;intro w9 hm;(conv=>whnf);refine qa (R:=fun v w'=>VoR l v∧Ext w w') ?_;(conv=>whnf);refine zL hm 0 ?_;(conv=>whnf);exact ⟨.inr ⟨_,_,by decide,by omega,by omega,rfl⟩,hm.ext⟩
 ·obtain rfl:i=qbr (vN l) (vM l):=by omega
  have hlen:l.length=wt.length:=by omega
  have hvo:vOk l=true:=by
   simp only [vOk,Bool.and_eq_true,decide_eq_true_eq];exact ⟨⟨⟨h8,hN⟩,hM⟩,by omega⟩
  have hdr:l.drop (qaf (vN l))=gL (vD l) (vN l)++(sL (vD l) (vN l)++mL (vD l) (vN l)):=by
   rw [← qrz,hdl,← hgg,← ewt];exact qsu hlen fun j h1 h2=>hj j (by omega) (by omega)
  refine StoreA.all hm (i:=0) rfl rfl (by decide) ?_;intro w9 hm;(conv=>whnf);refine qa (R:=fun v w'=>VoR l v∧Ext w w') ?_;(conv=>whnf);refine zL hm 0 ?_;(conv=>whnf);exact ⟨.inl ⟨VecOk.of hvo hcn hdr,rfl⟩,hm.ext⟩
open Go.RowKit V
set_option maxRecDepth 100000
def inF (F:Nat→Int):Nat→Value:=fun j=>.int .i64 (F j)
def updI (F:Nat→Int) (i:Nat) (v:Int):Nat→Int:=fun j=>if j=i then v else F j
theorem qbk (F:Nat→Int) (i:Nat) (v:Int):updI F i v i=v:=by simp [updI]
theorem qae (F:Nat→Int) (i j:Nat) (v:Int) (h:j≠i):updI F i v j=F j:=by simp [updI,h]
theorem qu2 (F:Nat→Int) (i:Nat) (v:Int):updF (inF F) i (.int .i64 v)=inF (updI F i v):=by
 funext j
 by_cases h:j=i
 ·simp [updF,updI,inF,h]
 ·simp [updF,updI,inF,h]
theorem V.LoadV.fi {w0 w:World} {L:List (Nat × Obj)} {i b off n:Nat} {F:Nat→Int} {t:TypeId} {x:Int} {K:Value→Prop} (h:Mem w0 w L) (hi:L[i]?=some (b,.cells (fnA n (inF F)) t (0,0))) (j:Nat) (e:off=j) (hj:j<n) (hv:F j=x) (hk:K (.int .i64 x)):LoadV w b off K:=
 LoadV.fn h hi j e hj (by rw [← hv];rfl) hk
theorem V.StoreV.fi {w0 w:World} {L:List (Nat × Obj)} {i b off n:Nat} {F:Nat→Int} {t:TypeId} {x:Int} {K:World→Prop} (h:Mem w0 w L) (hi:L[i]?=some (b,.cells (fnA n (inF F)) t (0,0))) (j:Nat) (e:off=j) (hj:j<n)
  (hk:∀ w',Mem w0 w' (L.set i (b,.cells (fnA n (inF (updI F j x))) t (0,0)))→K w'):StoreV w b off (.int .i64 x) K:=
 StoreV.fn h hi j e hj rfl fun w' hm=>hk w' (by rw [qu2] at hm;exact hm)
def RcR (l:List UInt8) (hb:Nat) (F:Nat→Int) (L:List (Nat × Obj)) (w0:World) (r:Value) (w':World):Prop:=
 ((errF (tcF l) 4).2≠0∧r=.tuple #[.int .i64 0,fltV (errF (tcF l) 4).1 (errF (tcF l) 4).2]∧∃ F',Mem w0 w' ((hb,.cells (fnA 13 (inF F')) 130 (0,0))::L))∨
 ((∀ k,k<4→(tcF l k).2=0)∧r=.tuple #[.int .i64 (vAt l 4),fltV 0 0]∧∃ F',(∀ k,k<4→F' k=((vNum l k:Nat):Int))∧(∀ j,4≤j→F' j=F j)∧Mem w0 w' ((hb,.cells (fnA 13 (inF F')) 130 (0,0))::L))
theorem qnz (l:List UInt8) (A:Option Addr) (n c hb:Nat) (F:Nat→Int) (w0 w:World) (L:List (Nat × Obj)) (hm:Mem w0 w ((hb,.cells (fnA 13 (inF F)) 130 (0,0))::L)) (hS:SlAt encB 1 w0 A l) (hn:l.length=n) (hc:n≤c) (hl:l.length≤140737488355328) :
  Gv Tryz.prog 109 [.slice A n c,.pointer (some ⟨hb,0,none⟩)] w fun r w'=>RcR l hb F L w0 r w':=by
 refine zE Tryz.func109 Tryz.ntmps109 ?_;(conv=>whnf);refine NewV.mem hm ?_;intro rb w1 hm;have hm:Mem w0 w1 ((rb,.cells #[.int .i64 0,.int .i64 0] 132 (0,0))::(hb,.cells (fnA 13 (inF F)) 130 (0,0))::L):=hm;(conv=>whnf);refine qm (fun x:Nat × (Nat→Int)=>[(0,.slice A n c),(1,.pointer (some ⟨hb,0,none⟩)),(4,.int .i64 0),(5,.pointer (some ⟨rb,0,none⟩)),(6,.int .i64 (vAt l x.1)),(7,.int .i64 x.1)])
  (fun x w'=>x.1≤4∧(∀ j,j<x.1→(tcF l j).2=0)∧(∀ k,k<x.1→x.2 k=((vNum l k:Nat):Int))∧(∀ j,4≤j→x.2 j=F j)∧Mem w0 w' ((rb,.cells #[.int .i64 0,.int .i64 0] 132 (0,0))::(hb,.cells (fnA 13 (inF x.2)) 130 (0,0))::L)) (fun x=>4-x.1) (0,F)
  ⟨rfl,rfl,rfl,rfl,rfl,rfl,trivial⟩ ⟨by simp,fun j h=>by simp at h,fun j h=>by simp at h,fun j _=>rfl,hm⟩ ?_
 clear hm;rintro ⟨k,F1⟩ w2 ρ' ⟨k1,hz,hF,hF2,hm⟩;dsimp only at k1 hz hF hF2 hm ⊢;have hle:=qbs l k;have hlt:=qe7 l k;(conv=>whnf);refine zC (fun _=>?_) (fun _=>?_)<;>(conv=>whnf)
 ·refine SliceV.bs (hS.ext hm.ext) hn (vAt l k) n c rfl rfl rfl (by omega) (Nat.le_refl _) hc (Nat.le_refl _) (fun h=>by cases h) ?_;intro A' hA';rw [List.take_of_length_le (by rw [List.length_drop];omega)] at hA';(conv=>whnf);refine CallV.of (qa9 (l.drop (vAt l k)) A' _ _ w2 hA' (by rw [List.length_drop];omega) (by rw [List.length_drop];omega)) ?_;rintro r w3 ⟨rfl,rfl⟩;have evn:(numL (l.drop (vAt l k))).1=vNum l k:=rfl;have eva:vAt l k+(numL (l.drop (vAt l k))).2.1=vAt l (k+1):=rfl;have hle2:=qbs l (k+1);obtain ⟨q,eq⟩:∃ q,q=(numL (l.drop (vAt l k))).2.2:=⟨_,rfl⟩
  obtain ⟨s,es⟩:∃ s,s=(numL (l.drop (vAt l k))).2.1:=⟨_,rfl⟩
  rw [numV,evn,← eq,← es];rw [← es] at eva;conv=>whnf
  (repeat' (first|((with_reducible refine zC (fun _=>?_) (fun _=>?_))<;>first|(exfalso;omega)|(conv=>whnf))|(refine Wit.conv ⟨by omega,by omega⟩ ?_;(conv=>whnf))|((with_reducible refine zX ?_);(conv=>whnf))))
  ·have hf:tcF l k=(vAt l k,q):=by rw [tcF,qde (by omega),if_pos (by show (numL (l.drop (vAt l k))).2.2≠0;omega),eq]
   have hE:=qan (f:=tcF l) (n:=4) (k:=k) hz (by omega) (by rw [hf];show q≠0;omega);refine StoreA.all hm (i:=0) rfl rfl (by intro v hv;simp at hv;rcases hv with rfl|rfl<;>rfl) ?_;intro w9 hm;(conv=>whnf);refine qa (R:=fun r w'=>RcR l hb F L w0 r w') ?_;(conv=>whnf);refine zL hm 0 ?_;(conv=>whnf);exact .inl ⟨by rw [hE,hf];show q≠0;omega,by rw [hE,hf];rfl,F1,hm.sub (List.sublist_cons_self ..)⟩
  ·have hf:tcF l k=(vAt l k,2):=by rw [tcF,qcj (by omega) (by omega),if_pos (by simp)]
   have hE:=qan (f:=tcF l) (n:=4) (k:=k) hz (by omega) (by rw [hf];simp);refine StoreA.all hm (i:=0) rfl rfl (by intro v hv;simp at hv;rcases hv with rfl|rfl<;>rfl) ?_;intro w9 hm;(conv=>whnf);refine qa (R:=fun r w'=>RcR l hb F L w0 r w') ?_;(conv=>whnf);refine zL hm 0 ?_;(conv=>whnf);exact .inl ⟨by rw [hE,hf];simp,by rw [hE,hf];rfl,F1,hm.sub (List.sublist_cons_self ..)⟩
  refine StoreV.fi (x:=((vNum l k:Nat):Int)) hm (i:=1) rfl k (by rw [show tsz Tryz.prog 3=1 from by kernel_rfl];dsimp only;omega) (by omega) ?_;intro w4 hm;have hm:Mem w0 w4 ((rb,.cells #[.int .i64 0,.int .i64 0] 132 (0,0))::(hb,.cells (fnA 13 (inF (updI F1 k (vNum l k:Nat)))) 130 (0,0))::L):=hm;(conv=>whnf);refine DrawV.quiet (by kernel_rfl) (by kernel_rfl) ?_;(conv=>whnf);have hm:=hm.drew
  (repeat' (first|(refine zA ?_;(conv=>whnf))|((with_reducible refine zT ?_);(conv=>whnf))|((with_reducible refine zU ?_);(conv=>whnf))|((with_reducible refine zC (fun _=>?_) (fun _=>?_))<;>first|(exfalso;omega)|(conv=>whnf))|((with_reducible refine zX ?_);(conv=>whnf))|((with_reducible refine zW ?_);(conv=>whnf))))
  ·refine LoadV.fi (x:=((vNum l (k):Nat):Int)) hm (i:=1) rfl (k) (by rw [show tsz Tryz.prog 3=1 from by kernel_rfl];dsimp only;omega) (by omega) (qbk _ _ _) ?_;(conv=>whnf);(iterate 3 (refine zW ?_;(conv=>whnf);refine zT ?_;(conv=>whnf)));refine zA ?_;(conv=>whnf);(iterate 3 (refine zW ?_;(conv=>whnf);refine zT ?_;(conv=>whnf)));refine IdxV.at_ (k-1) (by omega) (by omega) ?_;(conv=>whnf);refine zW ?_;(conv=>whnf);refine zT ?_;(conv=>whnf);refine LoadV.fi (x:=((vNum l (k-1):Nat):Int)) hm (i:=1) rfl (k-1) (by rw [show tsz Tryz.prog 3=1 from by kernel_rfl];dsimp only;omega) (by omega) (by rw [qae _ _ _ _ (by omega)];exact hF (k-1) (by omega)) ?_;conv=>whnf
   (repeat' (first|((with_reducible refine zT ?_);(conv=>whnf))|((with_reducible refine zU ?_);(conv=>whnf))|((with_reducible refine zC (fun _=>?_) (fun _=>?_))<;>first|(exfalso;omega)|(conv=>whnf))|((with_reducible refine zX ?_);(conv=>whnf))|((with_reducible refine zW ?_);(conv=>whnf))))
   ·have hf:tcF l k=(vAt l k,180):=by rw [tcF,qbu (by omega) (by omega),if_neg (by simp),if_pos ⟨by omega,.inl (by omega)⟩]
    have hE:=qan (f:=tcF l) (n:=4) (k:=k) hz (by omega) (by rw [hf];simp);refine StoreA.all hm (i:=0) rfl rfl (by intro v hv;simp at hv;rcases hv with rfl|rfl<;>rfl) ?_;intro w9 hm;(conv=>whnf);refine qa (R:=fun r w'=>RcR l hb F L w0 r w') ?_;(conv=>whnf);refine zL hm 0 ?_;(conv=>whnf);exact .inl ⟨by rw [hE,hf];simp,by rw [hE,hf];rfl,updI F1 k (vNum l k:Nat),hm.sub (List.sublist_cons_self ..)⟩
   refine LoadV.fi (x:=((vNum l (k):Nat):Int)) hm (i:=1) rfl (k) (by rw [show tsz Tryz.prog 3=1 from by kernel_rfl];dsimp only;omega) (by omega) (qbk _ _ _) ?_;(conv=>whnf);(iterate 4 (refine zW ?_;(conv=>whnf);refine zU ?_;(conv=>whnf)));refine zA ?_;(conv=>whnf);(iterate 3 (refine zW ?_;(conv=>whnf);refine zU ?_;(conv=>whnf)));refine IdxV.at_ (k-1) (by omega) (by omega) ?_;(conv=>whnf);refine zW ?_;(conv=>whnf);refine zU ?_;(conv=>whnf);refine LoadV.fi (x:=((vNum l (k-1):Nat):Int)) hm (i:=1) rfl (k-1) (by rw [show tsz Tryz.prog 3=1 from by kernel_rfl];dsimp only;omega) (by omega) (by rw [qae _ _ _ _ (by omega)];exact hF (k-1) (by omega)) ?_;(conv=>whnf);(iterate 2 (refine zW ?_;(conv=>whnf);refine zU ?_;(conv=>whnf)));refine zW ?_;(conv=>whnf);refine zT ?_;(conv=>whnf);refine zU ?_;(conv=>whnf);refine zW ?_;(conv=>whnf);refine zT ?_;(conv=>whnf);refine zW ?_;(conv=>whnf);refine zP ?_;refine Tst.iff (vNum l k=0↔vNum l (k-1)=0) (by rw [beq_iff_eq,decide_eq_decide];omega) (fun h=>?_) (fun h=>?_)
   ·(conv=>whnf);(iterate 2 (refine zA ?_;(conv=>whnf)));have hf:(tcF l k).2=0:=by rw [tcF,qbu (by omega) (by omega),if_neg (by simp),if_neg (by omega)]
    refine ⟨(k+1,updI F1 k (vNum l k:Nat)),⟨rfl,rfl,rfl,rfl,(by show _=Value.int .i64 ((vAt l (k+1):Nat):Int);exact congrArg (Value.int .i64) (by omega)),rfl,trivial⟩,⟨by simp only;omega,fun j hj=>?_,fun j hj=>?_,fun j hj=>?_,hm⟩,by simp only;omega⟩
    ·by_cases e:j=k
     ·subst e;exact hf
     ·exact hz j (by simp only at hj;omega)
    ·by_cases e:j=k
     ·subst e;exact qbk _ _ _
     ·simp only at hj ⊢;rw [qae _ _ _ _ (by omega)];exact hF j (by omega)
    ·simp only;rw [qae _ _ _ _ (by omega)];exact hF2 j hj
   ·(conv=>whnf);have hf:tcF l k=(vAt l k,180):=by rw [tcF,qbu (by omega) (by omega),if_neg (by simp),if_pos ⟨by omega,.inr (fun hq=>h hq.symm)⟩]
    have hE:=qan (f:=tcF l) (n:=4) (k:=k) hz (by omega) (by rw [hf];simp);refine StoreA.all hm (i:=0) rfl rfl (by intro v hv;simp at hv;rcases hv with rfl|rfl<;>rfl) ?_;intro w9 hm;(conv=>whnf);refine qa (R:=fun r w'=>RcR l hb F L w0 r w') ?_;(conv=>whnf);refine zL hm 0 ?_;(conv=>whnf);exact .inl ⟨by rw [hE,hf];simp,by rw [hE,hf];rfl,updI F1 k (vNum l k:Nat),hm.sub (List.sublist_cons_self ..)⟩
  ·have hk0:k=0:=by omega
   have hf:(tcF l k).2=0:=by rw [tcF,qbu (by omega) (by omega),if_neg (by simp),if_neg (by omega)]
   refine ⟨(k+1,updI F1 k (vNum l k:Nat)),⟨rfl,rfl,rfl,rfl,(by show _=Value.int .i64 ((vAt l (k+1):Nat):Int);exact congrArg (Value.int .i64) (by omega)),rfl,trivial⟩,⟨by simp only;omega,fun j hj=>?_,fun j hj=>?_,fun j hj=>?_,hm⟩,by simp only;omega⟩
   ·by_cases e:j=k
    ·subst e;exact hf
    ·exact hz j (by simp only at hj;omega)
   ·by_cases e:j=k
    ·subst e;exact qbk _ _ _
    ·simp only at hj ⊢;rw [qae _ _ _ _ (by omega)];exact hF j (by omega)
   ·simp only;rw [qae _ _ _ _ (by omega)];exact hF2 j hj
 ·obtain rfl:k=4:=by omega
  refine StoreA.all hm (i:=0) rfl rfl (by decide) ?_;intro w9 hm;(conv=>whnf);refine qa (R:=fun r w'=>RcR l hb F L w0 r w') ?_;(conv=>whnf);refine zL hm 0 ?_;(conv=>whnf);exact .inr ⟨hz,rfl,F1,hF,hF2,hm.sub (List.sublist_cons_self ..)⟩
open Go.RowKit V
set_option maxRecDepth 100000
def hdV (F:Nat→Int):Value:=.agg (fnA 13 (inF F))
structure HdF (l:List UInt8) (F:Nat→Int):Prop where
 c:∀ k,k<4→F k=((vNum l k:Nat):Int)
 w:∀ k,k<4→F (4+k)=((tvAt l k:Nat):Int)
 v:∀ k,k<4→F (8+k)=((tEnd l k:Nat):Int)
theorem qar (n:Nat) (F:Nat→Int):∀ v∈(fnA n (inF F)).toList,v.oneCell'=true:=by
 intro v hv;simp only [fnA,List.mem_map] at hv;obtain ⟨j,_,rfl⟩:=hv;rfl
def TvR (l:List UInt8) (r:Value):Prop:=
 ((tE l).2≠0∧∃ F,r=.tuple #[hdV F,fltV (tE l).1 (tE l).2])∨((tE l).2=0∧∃ F,HdF l F∧r=.tuple #[hdV F,fltV 0 0])
set_option maxHeartbeats 4000000 in
theorem qmy (l:List UInt8) (A:Option Addr) (n c:Nat) (w:World) (hS:SlAt encB 1 w A l) (hn:l.length=n) (hc:n≤c) (hl:l.length≤140737488355328) :
  Gv Tryz.prog 59 [.slice A n c] w fun r w'=>TvR l r∧Ext w w':=by
 subst hn;refine zE Tryz.func59 Tryz.ntmps59 ?_;(conv=>whnf);refine NewV.mem (Mem.nil w) ?_;intro r2 w1 hm;have hm:Mem w w1 [(r2,.cells (fnA 13 (inF fun _=>0)) 130 (0,0))]:=hm;(conv=>whnf);refine NewV.mem hm ?_;intro r3 w2 hm;(conv=>whnf);refine NewV.mem hm ?_;intro hb w3 hm;(conv=>whnf);refine StoreA.all hm (i:=0) rfl rfl (by decide) ?_;intro w4 hm;have hm:Mem w w4 [(hb,.cells (fnA 13 (inF fun _=>0)) 130 (0,0)),(r3,.cells #[.int .i64 0,.int .i64 0] 132 (0,0)),(r2,.cells (fnA 13 (inF fun _=>0)) 130 (0,0))]:=hm;(conv=>whnf);refine CallV.of (qnz l A _ c hb (fun _=>0) w w4 _ hm hS rfl hc hl) ?_;rintro r w5 (⟨h0,rfl,F1,hm⟩|⟨hz,rfl,F1,hF1,hF1b,hm⟩)
 ·(conv=>whnf);refine NewV.mem hm ?_;intro fb w6 hm;(conv=>whnf);refine zS hm 0 ?_;intro w7 hm;(conv=>whnf);refine zR hm 0 ?_;(conv=>whnf);refine zY (fun _=>?_);conv=>whnf
  ·have hm:Mem w w7 ((fb,.cells #[.int .i64 (errF (tcF l) 4).1,.int .i64 (errF (tcF l) 4).2] 132 (0,0))::[(hb,.cells (fnA 13 (inF F1)) 130 (0,0)),(r3,.cells #[.int .i64 0,.int .i64 0] 132 (0,0)),(r2,.cells (fnA 13 (inF fun _=>0)) 130 (0,0))]):=hm;have hE:tE l=errF (tcF l) 4:=by rw [tE,if_pos h0]
   refine DrawV.inv (fun S w'=>Mem w w' [(fb,.cells #[.int .i64 (errF (tcF l) 4).1,.int .i64 (errF (tcF l) 4).2] 132 (0,0)),(hb,.cells (fnA 13 (inF F1)) 130 (0,0)),(r3,.cells (bif S 3 then #[.int .i64 (errF (tcF l) 4).1,.int .i64 (errF (tcF l) 4).2] else #[.int .i64 0,.int .i64 0]) 132 (0,0)),(r2,.cells (bif S 2 then fnA 13 (inF F1) else fnA 13 (inF fun _=>0)) 130 (0,0))]) rfl (by kernel_rfl) hm.drew ?_;clear hm;(conv=>whnf);refine StepI.of (hdV F1) (fun S wd hk hp hI=>?_) ?_
   ·(conv=>whnf);refine zL hI 1 ?_;(conv=>whnf);exact ⟨rfl,hI⟩
   (conv=>whnf);refine StepI.of (fltV (errF (tcF l) 4).1 (errF (tcF l) 4).2) (fun S wd hk hp hI=>?_) ?_
   ·(conv=>whnf);refine zL hI 0 ?_;(conv=>whnf);exact ⟨rfl,hI⟩
   (conv=>whnf);refine StepI.of undef (fun S wd hk hp hI=>?_) ?_
   ·dsimp only at hI;rw [hk] at hI;(conv=>whnf);refine StoreA.all hI (i:=3) rfl rfl (qar 13 F1) ?_;intro wx hmx;(conv=>whnf);exact ⟨rfl,hmx⟩
   (conv=>whnf);refine StepI.of undef (fun S wd hk hp hI=>?_) ?_
   ·dsimp only at hI;rw [hk] at hI;(conv=>whnf);refine zS hI 2 ?_;intro wx hmx;(conv=>whnf);exact ⟨rfl,hmx⟩
   (conv=>whnf);intro w12 hm;have hm:Mem w w12 [(fb,.cells #[.int .i64 (errF (tcF l) 4).1,.int .i64 (errF (tcF l) 4).2] 132 (0,0)),(hb,.cells (fnA 13 (inF F1)) 130 (0,0)),(r3,.cells #[.int .i64 (errF (tcF l) 4).1,.int .i64 (errF (tcF l) 4).2] 132 (0,0)),(r2,.cells (fnA 13 (inF F1)) 130 (0,0))]:=hm;(conv=>whnf);refine qa (R:=fun r w'=>TvR l r∧Ext w w') ?_;(conv=>whnf);refine zL hm 3 ?_;(conv=>whnf);refine zL hm 2 ?_;(conv=>whnf);exact ⟨.inl ⟨by rw [hE];exact h0,F1,by rw [hE];rfl⟩,hm.ext⟩
 have hz0:(errF (tcF l) 4).2=0:=qap hz;have hn':=fun j hj=>qf1 (hz j hj)
 have ev0:vAt l 4=tvAt l 0:=rfl;rw [ev0];(conv=>whnf);refine NewV.mem hm ?_;intro fb w6 hm;(conv=>whnf);refine StoreA.all hm (i:=0) rfl rfl (by decide) ?_;intro w7 hm;(conv=>whnf);refine zR hm 0 ?_;(conv=>whnf);refine zN (fun _=>?_);(conv=>whnf);have hm:Mem w w7 [(hb,.cells (fnA 13 (inF F1)) 130 (0,0)),(r3,.cells #[.int .i64 0,.int .i64 0] 132 (0,0)),(r2,.cells (fnA 13 (inF fun _=>0)) 130 (0,0))]:=hm.sub (List.sublist_cons_self ..);refine qm (fun x:Nat × (Nat→Int)=>[(0,.slice A l.length c),(2,.pointer (some ⟨r2,0,none⟩)),(3,.pointer (some ⟨r3,0,none⟩)),(4,.pointer (some ⟨hb,0,none⟩)),(5,.int .i64 (tvAt l x.1)),(7,.int .i64 x.1)])
  (fun x w'=>x.1≤4∧(∀ j,j<x.1→(tvF l j).2=0)∧(∀ k,k<4→x.2 k=((vNum l k:Nat):Int))∧(∀ k,k<x.1→x.2 (4+k)=((tvAt l k:Nat):Int)∧x.2 (8+k)=((tEnd l k:Nat):Int))∧Mem w w' [(hb,.cells (fnA 13 (inF x.2)) 130 (0,0)),(r3,.cells #[.int .i64 0,.int .i64 0] 132 (0,0)),(r2,.cells (fnA 13 (inF fun _=>0)) 130 (0,0))]) (fun x=>4-x.1) (0,F1)
  ⟨rfl,rfl,rfl,rfl,rfl,rfl,trivial⟩ ⟨by simp,fun j h=>by simp at h,hF1,fun j h=>by simp at h,hm⟩ ?_
 clear hm hF1 hF1b;rintro ⟨k,F⟩ w8 ρ' ⟨k1,hv,hF,hW,hm⟩;dsimp only at k1 hv hF hW hm ⊢;conv=>whnf
 (repeat' ((with_reducible refine zC (fun _=>?_) (fun _=>?_))<;>first|(exfalso;omega)|(conv=>whnf)))
 ·have hf:tvF l k=(l.length,10):=by rw [tvF,if_pos (by omega)]
  have hE:=qan (f:=tvF l) (n:=4) (k:=k) hv (by omega) (by rw [hf];simp);have hT:tE l=(l.length,10):=by rw [tE,if_neg (by omega),if_pos (by rw [hE,hf];simp),hE,hf]
  refine zL hm 0 ?_;(conv=>whnf);refine zS hm 2 ?_;intro w20 hm;(conv=>whnf);refine zS hm 1 ?_;intro w21 hm;(conv=>whnf);refine qa (R:=fun r w'=>TvR l r∧Ext w w') ?_;(conv=>whnf);refine zL hm 2 ?_;(conv=>whnf);refine zL hm 1 ?_;(conv=>whnf);exact ⟨.inl ⟨by rw [hT];simp,F,by rw [hT];rfl⟩,hm.ext⟩
 ·refine ElemV.bs (hS.ext hm.ext) rfl (tvAt l k) rfl (by omega) ?_;intro eb eo hc1;have hlt:tvAt l k<l.length:=by omega
  have hw:l[tvAt l k].toNat=tw l k:=by rw [tw,List.getD_eq_getElem?_getD,List.getElem?_eq_getElem hlt];rfl
  have hwb:tw l k<256:=by rw [← hw];exact qt _
  rw [hw] at hc1;(conv=>whnf);refine LoadV.of hc1 ?_;conv=>whnf
  (repeat' (first|((with_reducible refine zC (fun _=>?_) (fun _=>?_))<;>first|(exfalso;omega)|(conv=>whnf))|((with_reducible refine zX ?_);(conv=>whnf))))
  ·have hf:tvF l k=(tvAt l k,14):=by rw [tvF,if_neg (by omega),if_pos (by omega)]
   have hE:=qan (f:=tvF l) (n:=4) (k:=k) hv (by omega) (by rw [hf];simp);have hT:tE l=(tvAt l k,14):=by rw [tE,if_neg (by omega),if_pos (by rw [hE,hf];simp),hE,hf]
   refine zL hm 0 ?_;(conv=>whnf);refine zS hm 2 ?_;intro w20 hm;(conv=>whnf);refine zS hm 1 ?_;intro w21 hm;(conv=>whnf);refine qa (R:=fun r w'=>TvR l r∧Ext w w') ?_;(conv=>whnf);refine zL hm 2 ?_;(conv=>whnf);refine zL hm 1 ?_;(conv=>whnf);exact ⟨.inl ⟨by rw [hT];simp,F,by rw [hT];rfl⟩,hm.ext⟩
  have hw23:tw l k≤23:=by omega
  have hnk:=hn' k (by omega);have hmul:vNum l k*tw l k≤1048576*23:=Nat.mul_le_mul hnk hw23;obtain ⟨f,ef⟩:∃ f,f=vNum l k*tw l k:=⟨_,rfl⟩
  have efi:((vNum l k:Nat):Int)*((tw l k:Nat):Int)=(f:Int):=by rw [ef,Int.natCast_mul]
  rw [← ef] at hmul;have hte0:tEnd l k=tvAt l k+1+(f+7)/8:=by rw [ef];rfl
  have hte:(((tvAt l k:Nat):Int)+1+(((vNum l k:Nat):Int)*((tw l k:Nat):Int)+7)/8)=((tEnd l k:Nat):Int):=by omega
  refine StoreV.fi (x:=((tvAt l k:Nat):Int)) hm (i:=0) rfl (4+k) (by rw [show tsz Tryz.prog 3=1 from by kernel_rfl];dsimp only;omega) (by omega) ?_;intro w9 hm;(conv=>whnf);refine DrawV.quiet (by kernel_rfl) (by kernel_rfl) ?_;(conv=>whnf);have hm:=hm.drew;refine zW ?_;(conv=>whnf);refine zA ?_;(conv=>whnf);(iterate 3 (refine zW ?_;(conv=>whnf)));refine zX ?_;(conv=>whnf);refine zW ?_;(conv=>whnf);refine LoadV.fi (x:=((vNum l k:Nat):Int)) hm (i:=0) rfl k (by rw [show tsz Tryz.prog 3=1 from by kernel_rfl];dsimp only;omega) (by omega) (by rw [qae _ _ _ _ (by omega)];exact hF k (by omega)) ?_;(conv=>whnf);(iterate 3 (refine zW ?_;(conv=>whnf)));refine ElemV.bs (hS.ext hm.ext) rfl (tvAt l k) rfl (by omega) ?_;intro eb3 eo3 hc3;rw [hw] at hc3;(conv=>whnf);refine zW ?_;(conv=>whnf);refine LoadV.of hc3 ?_;(conv=>whnf);refine zW ?_;(conv=>whnf);refine Wit.conv ⟨by omega,by omega⟩ ?_;(conv=>whnf);(iterate 2 (refine zW ?_;(conv=>whnf);refine zA ?_;(conv=>whnf)));refine zW ?_;(conv=>whnf);refine zB ?_;(conv=>whnf);refine zW ?_;(conv=>whnf);refine zA ?_;(conv=>whnf);(iterate 2 (refine zW ?_;(conv=>whnf)));refine zX ?_;(conv=>whnf);rw [hte];refine StoreV.fi (x:=((tEnd l k:Nat):Int)) hm (i:=0) rfl (8+k) (by rw [show tsz Tryz.prog 3=1 from by kernel_rfl];dsimp only;omega) (by omega) ?_;intro w10 hm;obtain ⟨G,eG⟩:∃ G,G=updI (updI F (4+k) ((tvAt l k:Nat):Int)) (8+k) ((tEnd l k:Nat):Int):=⟨_,rfl⟩
  have hm:Mem w w10 [(hb,.cells (fnA 13 (inF G)) 130 (0,0)),(r3,.cells #[.int .i64 0,.int .i64 0] 132 (0,0)),(r2,.cells (fnA 13 (inF fun _=>0)) 130 (0,0))]:=by rw [eG];exact hm
  have gF:∀ j,j<4→G j=((vNum l j:Nat):Int):=fun j hj=>by rw [eG,qae _ _ _ _ (by omega),qae _ _ _ _ (by omega)];exact hF j hj
  have gW:∀ j,j<k+1→G (4+j)=((tvAt l j:Nat):Int)∧G (8+j)=((tEnd l j:Nat):Int):=fun j hj=>by
   by_cases e:j=k
   ·subst e;refine ⟨?_,by rw [eG];exact qbk _ _ _⟩;rw [eG,qae _ _ _ _ (by omega)];exact qbk _ _ _
   ·rw [eG,qae _ _ _ _ (by omega),qae _ _ _ _ (by omega),qae _ _ _ _ (by omega),qae _ _ _ _ (by omega)];exact hW j (by omega)
  clear eG hF hW;conv=>whnf
  (repeat' (first|(refine zA ?_;(conv=>whnf))|((with_reducible refine zC (fun _=>?_) (fun _=>?_))<;>first|(exfalso;omega)|(conv=>whnf))))
  ·have hmo:=qlj (hz k (by omega)) (by omega);have hnk1:=hn' (k-1) (by omega);have hvl:=qom (vNum l k) (vNum l (k-1)) (by omega) hmo;have hnx:tvAt l (k+1)=tEnd l k+qbr (vNum l k) (vNum l (k-1)):=by rw [qbj,if_neg (by omega)]
   refine DrawV.freeW (by kernel_rfl) (by kernel_rfl) ?_;(conv=>whnf);refine zD ?_;(conv=>whnf);refine zD ?_;(conv=>whnf);refine zD ?_;(conv=>whnf);refine zD ?_ (by intro wd hd;(conv=>whnf);(refine zX ?_;(conv=>whnf));exact ⟨Ext.refl _,rfl⟩);(conv=>whnf);apply StepD.still
   ·intro wd hd;(conv=>whnf);refine LoadV.fi (x:=((vNum l k:Nat):Int)) (Mem.call (Mem.drew hm) hd) (i:=0) rfl k (by rw [show tsz Tryz.prog 3=1 from by kernel_rfl];dsimp only;omega) (by omega) (gF k (by omega)) ?_;(conv=>whnf);exact ⟨Ext.refl _,rfl⟩
   (conv=>whnf);refine zD ?_;(conv=>whnf);refine zD ?_ (by intro wd hd;(conv=>whnf);(refine zA ?_;(conv=>whnf));exact ⟨Ext.refl _,rfl⟩);(conv=>whnf);refine zD ?_;(conv=>whnf);apply StepD.still
   ·intro wd hd;(conv=>whnf);refine IdxV.at_ (k-1) (by omega) (by omega) ?_;(conv=>whnf);exact ⟨Ext.refl _,rfl⟩
   (conv=>whnf);apply StepD.still
   ·intro wd hd;(conv=>whnf);refine LoadV.fi (x:=((vNum l (k-1):Nat):Int)) (Mem.call (Mem.drew hm) hd) (i:=0) rfl (k-1) (by rw [show tsz Tryz.prog 3=1 from by kernel_rfl];dsimp only;omega) (by omega) (gF (k-1) (by omega)) ?_;(conv=>whnf);exact ⟨Ext.refl _,rfl⟩
   (conv=>whnf);apply StepD.still
   ·intro wd hd;(conv=>whnf);refine CallV.of (qgu (vNum l k) (vNum l (k-1)) wd (by omega) hmo) ?_;rintro v w9 ⟨rfl,h9⟩;exact ⟨h9,rfl⟩
   (conv=>whnf);refine zD ?_ (by intro wd hd;(conv=>whnf);(refine zA ?_;(conv=>whnf));exact ⟨Ext.refl _,rfl⟩);(conv=>whnf);refine zD ?_;(conv=>whnf);intro w11 he11
   (repeat (intro _ _;(conv=>whnf)))
   (conv=>whnf);have hm:=hm.drew.call he11;clear he11;have hsum:(((tEnd l k:Nat):Int)+((qbr (vNum l k) (vNum l (k-1)):Nat):Int))=((tvAt l (k+1):Nat):Int):=by omega
   rw [hsum]
   (repeat' (first|(refine zA ?_;(conv=>whnf))|((with_reducible refine zC (fun _=>?_) (fun _=>?_))<;>first|(exfalso;omega)|(conv=>whnf))))
   ·have hf:tvF l k=(l.length,10):=by rw [tvF,if_neg (by omega),if_neg (by omega),if_pos (by omega)]
    have hE:=qan (f:=tvF l) (n:=4) (k:=k) hv (by omega) (by rw [hf];simp);have hT:tE l=(l.length,10):=by rw [tE,if_neg (by omega),if_pos (by rw [hE,hf];simp),hE,hf]
    refine zL hm 0 ?_;(conv=>whnf);refine zS hm 2 ?_;intro w20 hm;(conv=>whnf);refine zS hm 1 ?_;intro w21 hm;(conv=>whnf);refine qa (R:=fun r w'=>TvR l r∧Ext w w') ?_;(conv=>whnf);refine zL hm 2 ?_;(conv=>whnf);refine zL hm 1 ?_;(conv=>whnf);exact ⟨.inl ⟨by rw [hT];simp,G,by rw [hT];rfl⟩,hm.ext⟩
   have hfz:tvF l k=(0,0):=by rw [tvF,if_neg (by omega),if_neg (by omega),if_neg (by omega)]
   refine ⟨(k+1,G),⟨rfl,rfl,rfl,rfl,(by show _=Value.int .i64 ((tvAt l (k+1):Nat):Int);exact congrArg (Value.int .i64) (by omega)),rfl,trivial⟩,⟨by simp only;omega,fun j hj=>?_,gF,gW,hm⟩,by simp only;omega⟩
   by_cases e:j=k
   ·subst e;rw [hfz]
   ·exact hv j (by simp only at hj;omega)
  ·have hk0:k=0:=by omega
   have hnx:tvAt l (k+1)=tEnd l k:=by rw [qbj,if_pos hk0];rfl
   have hf:tvF l k=(l.length,10):=by rw [tvF,if_neg (by omega),if_neg (by omega),if_pos (by omega)]
   have hE:=qan (f:=tvF l) (n:=4) (k:=k) hv (by omega) (by rw [hf];simp);have hT:tE l=(l.length,10):=by rw [tE,if_neg (by omega),if_pos (by rw [hE,hf];simp),hE,hf]
   refine zL hm 0 ?_;(conv=>whnf);refine zS hm 2 ?_;intro w20 hm;(conv=>whnf);refine zS hm 1 ?_;intro w21 hm;(conv=>whnf);refine qa (R:=fun r w'=>TvR l r∧Ext w w') ?_;(conv=>whnf);refine zL hm 2 ?_;(conv=>whnf);refine zL hm 1 ?_;(conv=>whnf);exact ⟨.inl ⟨by rw [hT];simp,G,by rw [hT];rfl⟩,hm.ext⟩
  have hk0:k=0:=by omega
  have hnx:tvAt l (k+1)=tEnd l k:=by rw [qbj,if_pos hk0];rfl
  have hfz:tvF l k=(0,0):=by rw [tvF,if_neg (by omega),if_neg (by omega),if_neg (by omega)]
  refine ⟨(k+1,G),⟨rfl,rfl,rfl,rfl,(by show _=Value.int .i64 ((tvAt l (k+1):Nat):Int);exact congrArg (Value.int .i64) (by omega)),rfl,trivial⟩,⟨by simp only;omega,fun j hj=>?_,gF,gW,hm⟩,by simp only;omega⟩
  by_cases e:j=k
  ·subst e;rw [hfz]
  ·exact hv j (by simp only at hj;omega)
 ·obtain rfl:k=4:=by omega
  refine StoreV.fi (x:=((tvAt l 4:Nat):Int)) hm (i:=0) rfl 12 (by rfl) (by omega) ?_;intro w9 hm;(conv=>whnf);refine zC (fun _=>?_) (fun _=>?_)<;>(conv=>whnf)
  ·have hT:tE l=(tvAt l 4,13):=by
    have:=qap hv;rw [tE,if_neg (by omega),if_neg (by omega),if_pos (by omega)]
   refine zL hm 0 ?_;(conv=>whnf);refine zS hm 2 ?_;intro w20 hm;(conv=>whnf);refine zS hm 1 ?_;intro w21 hm;(conv=>whnf);refine qa (R:=fun r w'=>TvR l r∧Ext w w') ?_;(conv=>whnf);refine zL hm 2 ?_;(conv=>whnf);refine zL hm 1 ?_;(conv=>whnf);exact ⟨.inl ⟨by rw [hT];simp,_,by rw [hT];rfl⟩,hm.ext⟩
  ·have hT:tE l=(0,0):=by
    have:=qap hv;rw [tE,if_neg (by omega),if_neg (by omega),if_neg (by omega)]
   have hd:HdF l (updI F 12 ((tvAt l 4:Nat):Int)):=⟨fun k hk=>by rw [qae _ _ _ _ (by omega)];exact hF k hk,fun k hk=>by rw [qae _ _ _ _ (by omega)];exact (hW k hk).1,fun k hk=>by rw [qae _ _ _ _ (by omega)];exact (hW k hk).2⟩
   refine zL hm 0 ?_;(conv=>whnf);refine zS hm 2 ?_;intro w20 hm;(conv=>whnf);refine zS hm 1 ?_;intro w21 hm;(conv=>whnf);refine qa (R:=fun r w'=>TvR l r∧Ext w w') ?_;(conv=>whnf);refine zL hm 2 ?_;(conv=>whnf);refine zL hm 1 ?_;(conv=>whnf);exact ⟨.inr ⟨by rw [hT],_,hd,rfl⟩,hm.ext⟩
open Go.RowKit V
set_option maxRecDepth 100000
theorem qgv (x:Nat) (w:World) (hx:x<18446744073709551616):Gv Tryz.prog 176 [.int .u64 x] w fun r w'=>r=.int .i64 (qcn x)∧w'=w:=by
 refine zE Tryz.func176 Tryz.ntmps176 ?_;(conv=>whnf);refine qm (fun s:Nat × Nat=>[(0,.int .u64 s.2),(3,.int .i64 s.1)]) (fun s w'=>s.1+qcn s.2=qcn x∧s.2<18446744073709551616∧w'=w) (fun s=>s.2) (0,x) ⟨rfl,rfl,trivial⟩ ⟨Nat.zero_add _,hx,rfl⟩ ?_;rintro ⟨k,y⟩ w1 ρ' ⟨h1,h2,rfl⟩;dsimp only at h1 h2 ⊢;have hW:qcn x≤64:=qdl 64 x (by simpa using hx) (by decide);conv=>whnf
 (repeat' (first|(refine zA ?_;(conv=>whnf))|((with_reducible refine zC (fun _=>?_) (fun _=>?_))<;>first|(exfalso;omega)|(conv=>whnf))))
 ·have hh:=qj6 y (by omega) h2;refine V.Wit.shrN 1 rfl (by decide) ?_;(conv=>whnf);exact ⟨(k+1,y/2),⟨rfl,rfl,trivial⟩,⟨by simp only;omega,by simp only;omega,rfl⟩,by simp only;omega⟩
 ·obtain rfl:y=0:=by omega
  rw [qg1] at h1;exact ⟨congrArg (Value.int .i64) (by omega),rfl⟩
theorem qrg (n wd:Nat) (w:World) (h:n*wd≤4398046511104):Gv Tryz.prog 233 [.int .i64 n,.int .i64 wd] w fun r w'=>r=.int .i64 ((n*wd+7)/8:Nat)∧w'=w:=by
 obtain ⟨f,ef⟩:∃ f,f=n*wd:=⟨_,rfl⟩
 have efi:(n:Int)*(wd:Int)=(f:Int):=by rw [ef,Int.natCast_mul]
 rw [← ef] at h ⊢;refine zE Tryz.func233 Tryz.ntmps233 ?_;(conv=>whnf);rw [efi];(iterate 2 (refine zA ?_;(conv=>whnf)));refine zB ?_;(conv=>whnf);exact ⟨congrArg (Value.int .i64) (by omega),rfl⟩
def celU (p:List UInt8) (wd n i k:Nat):List Value:=(List.range n).map fun j=>Value.int .u64 ((if j<i then valB p (j*wd) wd else if j=i then valB p (i*wd) k else 0:Nat):Int)
theorem qr5 (v:Value) (n:Nat):qa6 [v] n=List.replicate n v:=by
 induction n with
 | zero=>rfl
 | succ n ih=>rw [qa6,ih];rfl
theorem qsk (p:List UInt8) (wd n:Nat):celU p wd n 0 0=qa6 [Value.int .u64 0] n:=by
 rw [qr5,celU,List.eq_replicate_iff];refine ⟨by simp,fun v hv=>?_⟩;obtain ⟨j,_,rfl⟩:=List.mem_map.1 hv;rw [if_neg (by omega)]
 split<;>rfl
theorem qsi (p:List UInt8) (wd n i k:Nat) (h:i<n):(celU p wd n i k)[i]?=some (.int .u64 (valB p (i*wd) k)):=by
 rw [celU,List.getElem?_map,List.getElem?_range h];simp
theorem qsj (p:List UInt8) (wd n i:Nat):celU p wd n (i+1) 0=celU p wd n i wd:=by
 unfold celU;refine List.map_congr_left fun j _=>?_
 congr 2
 by_cases h1:j<i
 ·rw [if_pos (by omega),if_pos h1]
 ·by_cases h2:j=i
  ·subst h2;rw [if_pos (by omega),if_neg h1,if_pos rfl]
  ·rw [if_neg (by omega),if_neg h1,if_neg h2]
   split<;>rfl
theorem qvn (p:List UInt8) (wd n i k:Nat) (h:i<n):(celU p wd n i k).set i (.int .u64 (valB p (i*wd) (k+1)))=celU p wd n i (k+1):=by
 apply List.ext_getElem?;intro j;rw [List.getElem?_set]
 by_cases e:i=j
 ·subst e;rw [if_pos rfl,if_pos (by simp [celU];exact h),qsi _ _ _ _ _ h]
 ·rw [if_neg e];simp only [celU,List.getElem?_map]
  by_cases hj:j<n
  ·rw [List.getElem?_range hj];simp only [Option.map_some,if_neg (fun h=>e h.symm:¬ j=i)]
  ·rw [List.getElem?_eq_none (by simp;omega)];rfl
def encU (n:Nat):List Value:=[.int .u64 n]
def unpN (p:List UInt8) (n wd:Nat):List Nat:=(List.range n).map fun i=>valB p (i*wd) wd
open Classical in
noncomputable def opE (p:List UInt8) (n wd:Nat):Nat:=if ∃ t,n*wd≤t∧t<8*p.length∧bitN p t=1 then 12 else 0
def unpV (p:List UInt8) (n wd:Nat):List Value:=(unpN p n wd).map fun x:Nat=>Value.int .u64 (x:Int)
def OpR (p:List UInt8) (n wd base:Nat) (v:Value) (w:World):Prop:=
 (opE p n wd≠0∧v=.tuple #[.slice none 0 0,.int .i64 (opE p n wd)])∨(opE p n wd=0∧wd=0∧v=.tuple #[.slice none 0 0,.int .i64 0])∨
 (opE p n wd=0∧wd≠0∧∃ b,v=.tuple #[.slice (some ⟨b,0,none⟩) n n,.int .i64 0]∧base≤b∧w.heap[b]?=some (.cells (unpV p n wd).toArray 175 (0,0)))
theorem qmw (p:List UInt8) (A:Option Addr) (c n wd:Nat) (w:World) (hS:SlAt encB 1 w A p) (hp:p.length=(n*wd+7)/8) (hn:n≤4194304) (hw:wd≤64) :
  Gv Tryz.prog 175 [.slice A p.length c,.int .i64 n,.int .i64 wd] w fun v w'=>OpR p n wd w.heap.size v w'∧Ext w w':=by
 have hb:n*wd≤4194304*64:=Nat.mul_le_mul hn hw;obtain ⟨f,ef⟩:∃ f,f=n*wd:=⟨_,rfl⟩
 have efi:(n:Int)*(wd:Int)=(f:Int):=by rw [ef,Int.natCast_mul]
 have hby:=fun w=>qrg n wd w (by omega)
 rw [← ef] at hp hb hby;refine zE Tryz.func175 Tryz.ntmps175 ?_;(conv=>whnf);(iterate 3 (refine zN (fun _=>?_);(conv=>whnf);refine zU ?_;(conv=>whnf);refine zU ?_;(conv=>whnf)));refine zN (fun _=>?_);(conv=>whnf);refine CallV.of (hby w) ?_;rintro r w1 ⟨rfl,rfl⟩;(conv=>whnf);refine zN (fun _=>?_);(conv=>whnf);refine CallV.of (hby _) ?_;rintro r w1 ⟨rfl,rfl⟩;(conv=>whnf);refine zN (fun _=>?_);(conv=>whnf);refine zA ?_;(conv=>whnf);rw [efi];refine qm (fun i:Nat=>[(0,.slice A p.length c),(1,.int .i64 n),(2,.int .i64 wd),(8,.int .i64 i)]) (fun i w'=>f≤i∧i≤8*p.length∧(∀ t,f≤t→t<i→bitN p t≠1)∧w'=_) (fun i=>8*p.length-i) f ⟨rfl,rfl,rfl,rfl,trivial⟩ ⟨Nat.le_refl _,by omega,fun t h1 h2=>by omega,rfl⟩ ?_;rintro i w2 ρ' ⟨i0,i1,hno,rfl⟩;conv=>whnf
 (repeat' (first|(refine zA ?_;(conv=>whnf))|(refine zB ?_;(conv=>whnf))|((with_reducible refine zC (fun _=>?_) (fun _=>?_))<;>first|(exfalso;omega)|(conv=>whnf))))
 ·refine ElemV.bs hS rfl (i/8) (by omega) (by omega) ?_;intro eb eo hc;(conv=>whnf);refine LoadV.of hc ?_;(conv=>whnf);refine zA ?_;(conv=>whnf);refine V.Wit.shrN (i%8) (by omega) (by show i%8<8;omega) ?_;(conv=>whnf);have hlt:=qt p[i/8];have hlt2:p[i/8].toNat/2 ^ (i%8)<256:=Nat.lt_of_le_of_lt (Nat.div_le_self _ _) hlt;refine Wit.eq (qao (k:=.u8) (m:=p[i/8].toNat/2 ^ (i%8)) 1 rfl (qjg hlt2) ⟨by omega,by omega⟩) ?_;have hbi:p[i/8].toNat/2 ^ (i%8)%2 ^ 1=bitN p i:=by
   rw [bitN,List.getD_eq_getElem?_getD,List.getElem?_eq_getElem (by omega)];rfl
  rw [hbi];conv=>whnf
  (repeat' (first|(refine zA ?_;(conv=>whnf))|((with_reducible refine zC (fun _=>?_) (fun _=>?_))<;>first|(exfalso;omega)|(conv=>whnf))))
  ·have hb:bitN p i=1:=by
    have:=qc8 p i;omega
   have hE:opE p n wd=12:=by rw [opE,if_pos ⟨i,by rw [← ef];exact i0,by omega,hb⟩]
   exact ⟨.inl ⟨by rw [hE];decide,by rw [hE];rfl⟩,Ext.refl _⟩
  ·refine ⟨i+1,⟨rfl,rfl,rfl,rfl,trivial⟩,⟨by omega,by omega,fun t h1 h2=>?_,rfl⟩,by omega⟩
   by_cases e:t=i
   ·subst e;omega
   ·exact hno t h1 (by omega)
 ·have hw0:wd=0:=by omega
  have hE:opE p n wd=0:=by rw [opE,if_neg (fun ⟨t,h1,h2,h3⟩=>hno t (by rw [ef];exact h1) (by omega) h3)]
  exact ⟨.inr (.inl ⟨hE,hw0,rfl⟩),Ext.refl _⟩
 ·have hE:opE p n wd=0:=by rw [opE,if_neg (fun ⟨t,h1,h2,h3⟩=>hno t (by rw [ef];exact h1) (by omega) h3)]
  refine ⟨n,n,rfl,rfl,Nat.le_refl _,by show n*8≤_;omega,by omega,fun b w3 hb hw=>?_⟩;have hm:=(Mem.nil w2).new hb hw;have hz:(qa6 [Value.int .u64 0] n).toArray=(celU p wd n 0 0).toArray:=by rw [qsk]
  have hm:Mem w2 w3 [(b,.cells (celU p wd n 0 0).toArray 175 (0,0))]:=by rw [← hz];exact hm
  (conv=>whnf);refine qm (fun i:Nat=>[(0,.slice A p.length c),(1,.int .i64 n),(2,.int .i64 wd),(9,.slice (some ⟨b,0,none⟩) n n),(10,.int .i64 i)]) (fun i w'=>i≤n∧Mem w2 w' [(b,.cells (celU p wd n i 0).toArray 175 (0,0))]) (fun i=>n-i) 0 ⟨rfl,rfl,rfl,rfl,rfl,trivial⟩ ⟨Nat.zero_le _,hm⟩ ?_;clear hm hb hw;rintro i w4 ρ2 ⟨i1,hm⟩;(conv=>whnf);refine zC (fun _=>?_) (fun _=>?_)<;>(conv=>whnf)
  ·have hm1:i*wd+wd≤f:=by rw [ef,← Nat.succ_mul];exact Nat.mul_le_mul_right _ (by omega)
   obtain ⟨g,eg⟩:∃ g,g=i*wd:=⟨_,rfl⟩
   have egi:(i:Int)*(wd:Int)=(g:Int):=by rw [eg,Int.natCast_mul]
   rw [← eg] at hm1;refine qm (fun k:Nat=>[(0,.slice A p.length c),(1,.int .i64 n),(2,.int .i64 wd),(9,.slice (some ⟨b,0,none⟩) n n),(10,.int .i64 i),(11,.int .i64 k)]) (fun k w'=>k≤wd∧Mem w2 w' [(b,.cells (celU p wd n i k).toArray 175 (0,0))]) (fun k=>wd-k) 0 ⟨rfl,rfl,rfl,rfl,rfl,rfl,trivial⟩ ⟨Nat.zero_le _,hm⟩ ?_;clear hm;rintro k w5 ρ3 ⟨k1,hm⟩;conv=>whnf
   (repeat' (first|(refine zA ?_;(conv=>whnf))|((with_reducible refine zC (fun _=>?_) (fun _=>?_))<;>first|(exfalso;omega)|(conv=>whnf))))
   ·have hvs:=qi5 p g k;have hvs2:valB p g (k+1)<2 ^ 64:=qln _ _ _ (by omega);have hlen:(celU p wd n i k).length=n:=by simp [celU]
    have hld:(celU p wd n i k)[i]?=some (.int .u64 (valB p g k)):=by rw [eg];exact qsi p wd n i k (by omega)
    refine DrawV.own rfl (by kernel_rfl) ?_;(conv=>whnf);refine zO ?_;(conv=>whnf);refine zO ?_;(conv=>whnf);refine zO ?_;(conv=>whnf);refine zO ?_;(conv=>whnf);apply StepO.still
    ·intro wd hd;(conv=>whnf);refine ElemV.own1 i rfl (by omega) ?_;(conv=>whnf);exact PostO.still (Ext.refl _) rfl
    (conv=>whnf);apply StepO.still
    ·intro wd hd;(conv=>whnf);refine LoadV.mem (Mem.call (Mem.drew hm) hd) (i:=0) rfl (by rw [List.getElem?_toArray];exact hld) ?_;(conv=>whnf);exact PostO.still (Ext.refl _) rfl
    (conv=>whnf);have hj:(g+k)/8<p.length:=by omega
    obtain ⟨gb,go,hA,hcl⟩:=hS.at_ (by intro e;rw [e] at hj;simp at hj);subst hA;have hcell:w2.cell? ⟨gb,go+(g+k)/8*1,none⟩=some (.int .u8 p[(g+k)/8].toNat):=by
     have:=hcl ((g+k)/8) _ (List.getElem?_eq_getElem hj) 0 _ rfl
     rwa [Nat.add_zero] at this
    have hlt:=qt p[(g+k)/8];have hlt2:p[(g+k)/8].toNat/2 ^ ((g+k)%8)<256:=Nat.lt_of_le_of_lt (Nat.div_le_self _ _) hlt;have hbit:p[(g+k)/8].toNat/2 ^ ((g+k)%8)%2 ^ 1=bitN p (g+k):=by
     rw [bitN,List.getD_eq_getElem?_getD,List.getElem?_eq_getElem hj];rfl
    have hb1:=qc8 p (g+k);have e64:2 ^ 64=18446744073709551616:=by decide
    refine zO ?_;(conv=>whnf);refine zO ?_;(conv=>whnf);refine zO ?_ (by intro wd hd;(conv=>whnf);(refine zB ?_;(conv=>whnf));exact PostO.still (Ext.refl _) rfl);(conv=>whnf);apply StepO.still
    ·intro wd1 hd;(conv=>whnf);refine ⟨⟨gb,go,(g+k)/8,rfl,by omega,by omega,?_⟩⟩;exact PostO.still (Ext.refl _) rfl
    (conv=>whnf);apply StepO.still
    ·intro wd1 hd;(conv=>whnf);refine LoadV.of (Ext.cell (hm.ext.trans (Ext.trans (Ext.refl _).drew hd)) hcell) ?_;(conv=>whnf);exact PostO.still (Ext.refl _) rfl
    (conv=>whnf);refine zO ?_;(conv=>whnf);refine zO ?_ (by intro wd hd;(conv=>whnf);(refine zA ?_;(conv=>whnf));exact PostO.still (Ext.refl _) rfl);(conv=>whnf);apply StepO.still
    ·intro wd1 hd;(conv=>whnf);refine V.Wit.shrN ((g+k)%8) (by omega) (by show (g+k)%8<8;omega) ?_;(conv=>whnf);exact PostO.still (Ext.refl _) rfl
    (conv=>whnf);apply StepO.still
    ·intro wd1 hd;(conv=>whnf);refine Wit.eq (qao (k:=.u8) (m:=p[(g+k)/8].toNat/2 ^ ((g+k)%8)) 1 rfl (qjg hlt2) ⟨by omega,by omega⟩) ?_;rw [hbit];(conv=>whnf);exact PostO.still (Ext.refl _) rfl
    (conv=>whnf);refine zO ?_ (by intro wd hd;(conv=>whnf);(refine Wit.conv ⟨by omega,by omega⟩ ?_;(conv=>whnf));exact PostO.still (Ext.refl _) rfl);(conv=>whnf);refine zO ?_;(conv=>whnf);apply StepO.still
    ·intro wd1 hd;(conv=>whnf);refine V.Wit.shlN k (by omega) (by show k<64;omega) (qdu (by rw [valB] at hvs2;omega)) ?_;(conv=>whnf);exact PostO.still (Ext.refl _) rfl
    (conv=>whnf);apply StepO.still
    ·intro wd1 hd;(conv=>whnf);refine Wit.eq (qbc k (qdu (by rw [valB] at hvs2;omega)) hvs) ?_;(conv=>whnf);exact PostO.still (Ext.refl _) rfl
    (conv=>whnf);apply StepO.still
    ·intro wd1 hd;(conv=>whnf);refine ElemV.own1 i rfl (by omega) ?_;(conv=>whnf);exact PostO.still (Ext.refl _) rfl
    (conv=>whnf);intro w6 hd6
    (repeat (intro _;(conv=>whnf)))
    (conv=>whnf);refine StoreV.mem (hm.drew.call hd6) (i:=0) rfl (by simp [celU];omega) rfl ?_;intro w7 hm;have hset:(celU p wd n i k).toArray.setIfInBounds i (.int .u64 (valB p g k+bitN p (g+k)*2 ^ k:Nat))=(celU p wd n i (k+1)).toArray:=by
     have:=qvn p wd n i k (by omega);rw [← eg,valB] at this;rw [← this];simp
    have hm:Mem w2 w7 [(b,.cells (celU p wd n i (k+1)).toArray 175 (0,0))]:=by rw [← hset];exact hm
    (conv=>whnf);refine zA ?_;(conv=>whnf);exact ⟨k+1,⟨rfl,rfl,rfl,rfl,rfl,rfl,trivial⟩,⟨by omega,hm⟩,by omega⟩
   ·obtain rfl:k=wd:=by omega
    exact ⟨i+1,⟨rfl,rfl,rfl,rfl,rfl,trivial⟩,⟨by omega,by rw [qsj];exact hm⟩,by omega⟩
  ·obtain rfl:i=n:=by omega
   obtain ⟨o1,o2⟩:=hm.own _ (List.mem_cons_self ..);have hfin:celU p wd i i 0=unpV p i wd:=by
    rw [unpV,unpN,List.map_map,celU];refine List.map_congr_left fun j hj=>?_;rw [if_pos (List.mem_range.1 hj)];rfl
   exact ⟨.inr (.inr ⟨hE,by omega,b,rfl,o1,by rw [← hfin];exact o2⟩),hm.ext⟩
open Go.RowKit V
set_option maxRecDepth 100000
theorem V.Rw.slAt {α:Type} {f:α→Value} {enc:α→List Value} {w0 w:World} {A:Option Addr} {n c:Nat} {e:TypeId} {l:List α} {L:List (Nat × Obj)} (he:∀ x,enc x=[f x]) (h:Rw w0 w (.slice A n c) e 1 n (l.map f) L) (hn:l.length=n):SlAt enc 1 w A l:=by
 refine ⟨fun hne=>?_⟩;obtain ⟨g,rfl,_,_,_,hc⟩:=h.cells (by rw [← hn];exact List.length_pos_iff.2 hne);refine ⟨g,0,rfl,fun j x hx k v hv=>?_⟩;rw [he] at hv;cases k with
 | succ k=>simp at hv
 | zero=>
  simp only [List.getElem?_cons_zero,Option.some.injEq] at hv;subst hv;have:=hc j (f x) (by rw [List.getElem?_map,hx];rfl)
  simpa using this
theorem q0e {α:Type} {f:α→Value} {enc:α→List Value} {w:World} {base e n c:Nat} {A:Option Addr} {l:List α} (he:∀ x,enc x=[f x]) (h:w.ownsRow base e 1 (.slice A n c) n (l.map f)):SlAt enc 1 w A l:=by
 refine ⟨fun hne=>?_⟩
 rcases h.2 with ⟨h1,h2⟩|⟨g,cap,cur,h1,_,h3,_,_,_,h7⟩
 ·have:=h.1;simp [h2] at this;exact absurd this hne
 ·cases h1;refine ⟨g,0,rfl,fun j x hx k v hv=>?_⟩;rw [he] at hv;cases k with
  | succ k=>simp at hv
  | zero=>
   simp only [List.getElem?_cons_zero,Option.some.injEq] at hv;subst hv;have hj:(cur.toList.take (n*1))[j]?=some (f x):=by rw [h7,List.getElem?_map,hx];rfl
   rw [List.getElem?_take] at hj
   split at hj
   ·rw [qd h3]
    simpa using hj
   ·cases hj
theorem qk6 {w:World} {b b' e size n:Nat} {v:Value} {xs:List Value} (h:w.ownsRow b' e size v n xs) (hb:b≤b'):w.ownsRow b e size v n xs:=by
 refine ⟨h.1,?_⟩
 rcases h.2 with h|⟨g,cap,cur,h1,h2,h3⟩
 ·exact .inl h
 ·exact .inr ⟨g,cap,cur,h1,Nat.le_trans hb h2,h3⟩
theorem V.Mem.row {w w1 w2:World} {L:List (Nat × Obj)} {base e n:Nat} {v:Value} {xs:List Value} (hm:Mem w w1 L) (he:Ext w1 w2) (ho:w2.ownsRow base e 1 v n xs) (hb:w1.heap.size≤base):∃ R,Mem w w2 (L++R)∧RowB e xs R v:=by
 have hl:=ho.1;rw [Nat.mul_one] at hl
 rcases ho.2 with ⟨h1,h2⟩|⟨g,cap,cur,rfl,h2,h3,h4,h5,h6,h7⟩
 ·refine ⟨[],by rw [List.append_nil];exact hm.call he,⟨.inl ⟨h1,?_⟩⟩⟩;exact List.eq_nil_of_length_eq_zero (by omega)
 ·refine ⟨[(g,.cells cur e (0,0))],?_,⟨.inr ⟨g,cap,cur,by rw [hl],List.mem_cons_self ..,by omega,h5,by rw [Nat.mul_one] at h6;exact h6,by rw [hl];rw [Nat.mul_one] at h7;exact h7⟩⟩⟩;have:=hm.fresh he (Nat.le_trans hb h2) h3;exact this.perm (List.perm_append_comm (l₁:=L) (l₂:=[(g,Obj.cells cur e (0,0))]))
theorem V.RowB.slf {α:Type} {f:α→Value} {enc:α→List Value} {w0 w:World} {L R:List (Nat × Obj)} {e:TypeId} {A:Option Addr} {n c:Nat} {l:List α} (hen:∀ x,enc x=[f x]) (h:RowB e (l.map f) R (.slice A n c)) (hm:Mem w0 w L) (hR:∀ x∈R,x∈L):SlAt enc 1 w A l:=by
 refine ⟨fun hne=>?_⟩
 rcases h.h with ⟨_,h0⟩|⟨g,cap,cur,hv,hg,h1,_,_,h4⟩
 ·simp at h0;exact absurd h0 hne
 ·cases hv;refine ⟨g,0,rfl,fun j x hx k u hu=>?_⟩;rw [hen] at hu;cases k with
  | succ k=>simp at hu
  | zero=>
   simp only [List.getElem?_cons_zero,Option.some.injEq] at hu;subst hu;have hj:(cur.toList.take (l.map f).length)[j]?=some (f x):=by rw [h4,List.getElem?_map,hx];rfl
   rw [List.getElem?_take] at hj
   split at hj
   ·rw [qd (hm.get (hR _ hg))]
    simpa using hj
   ·cases hj
theorem qor (xs:List Nat) (A:Option Addr) (n c:Nat) (w:World) (hS:SlAt encU 1 w A xs) (hn:xs.length=n) (hx:∀ x∈xs,x<18446744073709551616) (hb:n≤4194304) :
  Gv Tryz.prog 182 [.slice A n c] w fun r w'=>(∃ k:Nat,r=.int .i64 k)∧w'=w:=by
 refine zE Tryz.func182 Tryz.ntmps182 ?_;(conv=>whnf);refine qm (fun x:Nat × Nat=>[(0,.slice A n c),(3,.int .i64 x.2),(4,.int .i64 x.1)]) (fun x w'=>x.1≤n∧x.2≤64∧w'=w) (fun x=>n-x.1) (0,0) ⟨rfl,rfl,rfl,trivial⟩ ⟨Nat.zero_le _,by simp,rfl⟩ ?_;rintro ⟨i,m⟩ w1 ρ' ⟨i1,m1,rfl⟩;dsimp only at i1 m1 ⊢;(conv=>whnf);refine zC (fun _=>?_) (fun _=>?_)<;>(conv=>whnf)
 ·refine ElemV.sl hS hn i rfl (by omega) ?_;intro b off hc;(conv=>whnf);refine LoadV.cell0 hc ?_;(conv=>whnf);have hxi:=hx _ (List.getElem_mem (l:=xs) (n:=i) (by omega));refine CallV.of (qgv xs[i] _ hxi) ?_;rintro r w2 ⟨rfl,rfl⟩;have hw:=qdl 64 xs[i] (by simpa using hxi) (by decide);(conv=>whnf);refine V.Fall.max2 rfl rfl rfl fun q hq=>?_;obtain ⟨q',rfl⟩:∃ q':Nat,q=(q':Int):=⟨q.toNat,by omega⟩
  (conv=>whnf);refine zA ?_;(conv=>whnf);exact ⟨(i+1,q'),⟨rfl,rfl,rfl,trivial⟩,⟨by simp only;omega,by simp only;omega,rfl⟩,by simp only;omega⟩
 ·exact ⟨⟨m,rfl⟩,rfl⟩
def encO (b:Bool):List Value:=[.bool b]
def bitL (l:List UInt8) (n:Nat):List Bool:=(List.range n).map fun i=>decide (bitN (vD l) i=1)
theorem q0w:Tryz.prog.underlying 212=some (.slice 4):=Tryz.underlying212
theorem booI:Tryz.prog.info? 4=some ((Tryz.prog.info? 4).get (by kernel_rfl)):=(Option.some_get _).symm
theorem booZ:((Tryz.prog.info? 4).get (by kernel_rfl)).zero=some (.bool false):=by kernel_rfl
theorem qqc (l:List UInt8) (A:Option Addr) (n c:Nat) (w:World) (hS:SlAt encB 1 w A l) (hn:l.length=n) (hc:n≤c) (h8:8≤l.length) (hv:vN l≤67108864) (hg:qaf (vN l)≤l.length) (hl:l.length≤67108864) :
  Gv Tryz.prog 237 [.slice A n c] w fun v w'=>w'.ownsRow w.heap.size 4 1 v (vN l) ((bitL l (vN l)).map Value.bool)∧Ext w w':=by
 have hgg:qaf (vN l)=8+upN (vN l) 8:=rfl;have hdl:(vD l).length=upN (vN l) 8:=by rw [vD,List.length_take,List.length_drop];omega
 have hun:vN l≤8*(vD l).length:=by rw [hdl];unfold upN;omega
 refine zE Tryz.func237 Tryz.ntmps237 ?_;(conv=>whnf);refine CallV.of (qb5 l A n c w hS hn h8 (by omega)) ?_;rintro r w1 ⟨rfl,he1⟩;(conv=>whnf);refine CallV.of (qlv l A n c w1 (hS.ext he1) hn hc h8 hv hg (by omega)) ?_;rintro r w2 ⟨⟨B,d,rfl,hD⟩,he2⟩;(conv=>whnf);refine qm (fun x:Nat × Option Addr × Nat=>[(3,.int .i64 (vN l)),(5,.slice B (upN (vN l) 8) d),(6,.slice x.2.1 x.1 x.2.2),(7,.int .i64 x.1)])
  (fun x w'=>x.1≤vN l∧Rw w2 w' (.slice x.2.1 x.1 x.2.2) 4 1 x.1 ((bitL l x.1).map Value.bool) []) (fun x=>vN l-x.1) (0,none,0) ⟨rfl,rfl,rfl,rfl,trivial⟩ ⟨Nat.zero_le _,Rw.nil (Mem.nil w2)⟩ ?_
 rintro ⟨i,C,cc⟩ w3 ρ' ⟨i1,hR⟩;dsimp only at i1 hR ⊢;(conv=>whnf);refine zC (fun _=>?_) (fun _=>?_)<;>(conv=>whnf)
 ·refine CallV.of (qec (vD l) B _ d i _ (hD.ext hR.mem.ext) hdl (by omega) (by omega)) ?_;rintro r w4 ⟨rfl,rfl⟩;(conv=>whnf);refine NewV.rw hR ?_;intro nb w5 hR5;(conv=>whnf);refine AppV.one q0w booI booZ (by kernel_rfl) rfl (by decide +kernel) hR5 rfl (by omega) ?_;intro B' d' w6 hR6;(conv=>whnf);refine zA ?_;(conv=>whnf);refine ⟨(i+1,B',d'),⟨rfl,rfl,rfl,rfl,trivial⟩,⟨by simp only;omega,?_⟩,by simp only;omega⟩;have e:(bitL l (i+1)).map Value.bool=(bitL l i).map Value.bool++[.bool (decide (bitN (vD l) i=1))]:=by
   simp only [bitL,List.range_succ,List.map_append,List.map_cons,List.map_nil]
  simp only;rw [e];exact hR6
 ·obtain rfl:i=vN l:=by omega
  exact ⟨qk6 hR.own (he1.trans he2).size,he1.trans (he2.trans hR.mem.ext)⟩
def VcR (l:List UInt8) (k base:Nat) (v:Value) (w:World):Prop:=
 (∃ a e:Int,e≠0∧(-1≤a∧a≤1125899906842624)∧v=.tuple #[.slice none 0 0,fltV a e])∨
 (LvlV l k∧∃ B cb,v=.tuple #[.slice B (vNum l k) cb,fltV 0 0]∧w.ownsRow base 4 1 (.slice B (vNum l k) cb) (vNum l k) ((bitL (qk l k) (vNum l k)).map Value.bool))
set_option maxHeartbeats 2000000 in
theorem qnc (l:List UInt8) (A:Option Addr) (c k:Nat) (F:Nat→Int) (w:World) (hS:SlAt encB 1 w A l) (hc:l.length≤c) (hl:l.length≤67108864) (hF:HdF l F) (hT:(tE l).2=0) (hk:1≤k) (hk3:k≤3) :
  Gv Tryz.prog 183 [.slice A l.length c,hdV F,.int .i64 k] w fun v w'=>VcR l k w.heap.size v w'∧Ext w w':=by
 have ht0:(errF (tcF l) 4).2=0∧(errF (tvF l) 4).2=0:=by
  rw [tE] at hT
  split at hT
  ·rename_i h;exact absurd hT h
  ·split at hT
   ·rename_i h;exact absurd hT h
   ·constructor<;>omega
 have hz:=qcd ht0.1;have hv:=qcd ht0.2;obtain ⟨z1,z2,z3⟩:=qm9 (hv k (by omega));have hnk:=qf1 (hz k (by omega));have hnk1:=qf1 (hz (k-1) (by omega));have hmo:=qlj (hz k (by omega)) (by omega);have hvl:=qom (vNum l k) (vNum l (k-1)) (by omega) hmo;have t2:tEnd l k≤tvAt l (k+1):=by rw [qbj];omega
 have lenB:(qk l k).length=tvAt l (k+1)-tEnd l k:=by rw [qk,List.length_take,List.length_drop];omega
 have hnx:tvAt l (k+1)=tEnd l k+qbr (vNum l k) (vNum l (k-1)):=by rw [qbj,if_neg (by omega)]
 refine zE Tryz.func183 Tryz.ntmps183 ?_;(conv=>whnf);refine NewV.mem (Mem.nil w) ?_;intro hb w1 hm;have hm:Mem w w1 [(hb,.cells (fnA 13 (inF F)) 130 (0,0))]:=hm;(conv=>whnf);refine NewV.mem hm ?_;intro rb w2 hm;have hm:Mem w w2 [(rb,.cells #[.int .i64 0,.int .i64 0] 132 (0,0)),(hb,.cells (fnA 13 (inF F)) 130 (0,0))]:=hm;(conv=>whnf);refine zX ?_;(conv=>whnf);refine LoadV.fi (x:=((tEnd l k:Nat):Int)) hm (i:=1) rfl (8+k) (by rw [show tsz Tryz.prog 3=1 from by kernel_rfl];dsimp only;omega) (by omega) (hF.v k (by omega)) ?_;(conv=>whnf);refine DrawV.free (by kernel_rfl) (by kernel_rfl) ?_;(conv=>whnf);refine zD ?_;(conv=>whnf);refine zD ?_;(conv=>whnf);refine zD ?_;(conv=>whnf);refine zD ?_ (by intro wd hd;(conv=>whnf);(refine zX ?_;(conv=>whnf));exact ⟨Ext.refl _,rfl⟩);(conv=>whnf);apply StepD.still
 ·intro wd hd;(conv=>whnf);refine LoadV.fi (x:=((vNum l k:Nat):Int)) (Mem.call (Mem.drew hm) hd) (i:=1) rfl k (by rw [show tsz Tryz.prog 3=1 from by kernel_rfl];dsimp only;omega) (by omega) (hF.c k (by omega)) ?_;(conv=>whnf);exact ⟨Ext.refl _,rfl⟩
 (conv=>whnf);refine zD ?_;(conv=>whnf);refine zD ?_ (by intro wd hd;(conv=>whnf);(refine zA ?_;(conv=>whnf));exact ⟨Ext.refl _,rfl⟩);(conv=>whnf);refine zD ?_;(conv=>whnf);apply StepD.still
 ·intro wd hd;(conv=>whnf);refine IdxV.at_ (k-1) (by omega) (by omega) ?_;(conv=>whnf);exact ⟨Ext.refl _,rfl⟩
 (conv=>whnf);apply StepD.still
 ·intro wd hd;(conv=>whnf);refine LoadV.fi (x:=((vNum l (k-1):Nat):Int)) (Mem.call (Mem.drew hm) hd) (i:=1) rfl (k-1) (by rw [show tsz Tryz.prog 3=1 from by kernel_rfl];dsimp only;omega) (by omega) (hF.c (k-1) (by omega)) ?_;(conv=>whnf);exact ⟨Ext.refl _,rfl⟩
 (conv=>whnf);apply StepD.still
 ·intro wd hd;(conv=>whnf);refine CallV.of (qgu (vNum l k) (vNum l (k-1)) wd (by omega) hmo) ?_;rintro v w9 ⟨rfl,h9⟩;exact ⟨h9,rfl⟩
 (conv=>whnf);refine zD ?_ (by intro wd hd;(conv=>whnf);(refine zA ?_;(conv=>whnf));exact ⟨Ext.refl _,rfl⟩);(conv=>whnf);refine zD ?_;(conv=>whnf);intro w3 he3
 (repeat (intro _ _;(conv=>whnf)))
 (conv=>whnf);have hm:=hm.drew.call he3;refine SliceV.to (tEnd l k) (tvAt l (k+1)) c rfl (by show (_:Int)=_;omega) rfl (by omega) (by omega) (Nat.le_refl _) (fun h=>by cases h) ?_;obtain ⟨B,eB⟩:∃ B,B=(if c=tEnd l k then A else A.map (·.add (tEnd l k*1))):=⟨_,rfl⟩
 have hB0:SlAt encB 1 w B (qk l k):=by rw [eB];exact hS.cut (m:=c) (by omega) (by omega) (by omega) rfl
 rw [show tsz Tryz.prog 5=1 from by kernel_rfl,← eB];have hB:=hB0.ext hm.ext;have hv8:8≤qbr (vNum l k) (vNum l (k-1)):=by unfold qbr qdp qa5 qaf;omega
 (conv=>whnf);refine CallV.of (qb5 (qk l k) B _ _ w3 hB lenB (by omega) (by omega)) ?_;rintro r w4 ⟨rfl,he4⟩;have hm:=hm.call he4;have hB:=hB.ext he4;(conv=>whnf);refine zX ?_;(conv=>whnf);refine LoadV.fi (x:=((vNum l k:Nat):Int)) hm (i:=1) rfl k (by rw [show tsz Tryz.prog 3=1 from by kernel_rfl];dsimp only;omega) (by omega) (hF.c k (by omega)) ?_;conv=>whnf
 (repeat' (first|(refine zA ?_;(conv=>whnf))|((with_reducible refine zT ?_);(conv=>whnf))|((with_reducible refine zU ?_);(conv=>whnf))|((with_reducible refine zC (fun _=>?_) (fun _=>?_))<;>first|(exfalso;omega)|(conv=>whnf))))
 ·refine zS hm 0 ?_;intro w9 hm;(conv=>whnf);refine qa (R:=fun v w'=>VcR l k w.heap.size v w'∧Ext w w') ?_;(conv=>whnf);refine zL hm 0 ?_;(conv=>whnf);exact ⟨.inl ⟨_,_,by decide,⟨by omega,by omega⟩,rfl⟩,hm.ext⟩
 refine IdxV.at_ (k-1) (by omega) (by omega) ?_;(conv=>whnf);refine zU ?_;(conv=>whnf);refine LoadV.fi (x:=((vNum l (k-1):Nat):Int)) hm (i:=1) rfl (k-1) (by rw [show tsz Tryz.prog 3=1 from by kernel_rfl];dsimp only;omega) (by omega) (hF.c (k-1) (by omega)) ?_;(conv=>whnf);(iterate 2 (refine zU ?_;(conv=>whnf)));refine zC (fun _=>?_) (fun _=>?_)<;>(conv=>whnf)
 ·refine zS hm 0 ?_;intro w9 hm;(conv=>whnf);refine qa (R:=fun v w'=>VcR l k w.heap.size v w'∧Ext w w') ?_;(conv=>whnf);refine zL hm 0 ?_;(conv=>whnf);exact ⟨.inl ⟨_,_,by decide,⟨by omega,by omega⟩,rfl⟩,hm.ext⟩
 have e1:vN (qk l k)=vNum l k:=by omega
 have e2:vM (qk l k)=vNum l (k-1):=by omega
 refine CallV.of (qrx (qk l k) B _ _ w4 hB lenB (by omega) (by omega)) ?_;rintro r w5 ⟨⟨hvo,rfl⟩|⟨a,e,he0,ha1,ha2,rfl⟩,he5⟩
 case inr=>
  have hm:=hm.call he5;(conv=>whnf);refine NewV.mem hm ?_;intro fb w6 hm;(conv=>whnf);refine zS hm 0 ?_;intro w7 hm;(conv=>whnf);refine zR hm 0 ?_;(conv=>whnf);refine zY (fun _=>?_);(conv=>whnf);have hm:Mem w w7 [(fb,.cells #[.int .i64 a,.int .i64 e] 350 (0,0)),(rb,.cells #[.int .i64 0,.int .i64 0] 132 (0,0)),(hb,.cells (fnA 13 (inF F)) 130 (0,0))]:=hm;have hte:tEnd l k≤l.length:=by omega
  refine DrawV.inv (fun S w'=>Mem w w' [(fb,.cells #[.int .i64 a,.int .i64 e] 350 (0,0)),(rb,.cells (bif S 8 then #[.int .i64 (((tEnd l k:Nat):Int)+a),.int .i64 e] else #[.int .i64 0,.int .i64 0]) 132 (0,0)),(hb,.cells (fnA 13 (inF F)) 130 (0,0))]) rfl (by kernel_rfl) hm.drew ?_;clear hm;(conv=>whnf);refine zI ?_;(conv=>whnf);refine zI ?_;(conv=>whnf);refine StepI.of (.int .i64 a) (fun S wd hk hp hI=>?_) ?_
  ·(conv=>whnf);refine zR hI 0 ?_;(conv=>whnf);exact ⟨rfl,hI⟩
  (conv=>whnf);refine zI ?_ (by intro S wd hk hp hI;(conv=>whnf);(refine zA ?_;(conv=>whnf));exact ⟨rfl,hI⟩);(conv=>whnf);refine zI ?_;(conv=>whnf);refine StepI.of (.int .i64 e) (fun S wd hk hp hI=>?_) ?_
  ·(conv=>whnf);refine zR hI 0 ?_;(conv=>whnf);exact ⟨rfl,hI⟩
  (conv=>whnf);refine zI ?_;(conv=>whnf);refine zI ?_;(conv=>whnf);refine StepI.of undef (fun S wd hk hp hI=>?_) ?_
  ·dsimp only at hI;rw [hk] at hI;(conv=>whnf);refine zS hI 1 ?_;intro wx hmx;(conv=>whnf);exact ⟨rfl,hmx⟩
  (conv=>whnf);intro w12 hm;have hm:Mem w w12 [(fb,.cells #[.int .i64 a,.int .i64 e] 350 (0,0)),(rb,.cells #[.int .i64 (((tEnd l k:Nat):Int)+a),.int .i64 e] 132 (0,0)),(hb,.cells (fnA 13 (inF F)) 130 (0,0))]:=hm;(conv=>whnf);refine qa (R:=fun v w'=>VcR l k w.heap.size v w'∧Ext w w') ?_;(conv=>whnf);refine zL hm 1 ?_;(conv=>whnf);exact ⟨.inl ⟨_,e,he0,⟨by omega,by omega⟩,rfl⟩,hm.ext⟩
 have hm:=hm.call he5;have hB:=hB.ext he5;(conv=>whnf);refine NewV.mem hm ?_;intro fb w6 hm;(conv=>whnf);refine zS hm 0 ?_;intro w7 hm;(conv=>whnf);refine zR hm 0 ?_;(conv=>whnf);refine zN (fun _=>?_);(conv=>whnf);have hm:=hm.sub (List.sublist_cons_self ..);have hgl:qaf (vN (qk l k))≤(qk l k).length:=by rw [e1,lenB,hnx];unfold qbr qdp qa5;omega
 refine CallV.of (qqc (qk l k) B _ _ w7 (hB0.ext hm.ext) lenB (by omega) (by omega) (by omega) hgl (by omega)) ?_;rintro r w8 ⟨hO,he8⟩;obtain ⟨C,cb,rfl⟩:=qih hO;have hO1:=qk6 hO hm.ext.size;have hm:=hm.call he8;rw [e1] at hO1;rw [e1];have hC:SlAt encO 1 w8 C (bitL (qk l k) (vNum l k)):=q0e (fun _=>rfl) hO1;have hCl:(bitL (qk l k) (vNum l k)).length=vNum l k:=by simp [bitL]
 (conv=>whnf)
 (repeat' (first|(refine zA ?_;(conv=>whnf))|((with_reducible refine zT ?_);(conv=>whnf))|((with_reducible refine zU ?_);(conv=>whnf))|((with_reducible refine zC (fun _=>?_) (fun _=>?_))<;>first|(exfalso;omega)|(conv=>whnf))))
 ·refine ElemV.sl hC hCl (vNum l k-1) (by omega) (by omega) ?_;intro eb eo hcell;have hbv:(bitL (qk l k) (vNum l k))[vNum l k-1]'(by omega)=decide (bitN (vD (qk l k)) (vNum l k-1)=1):=by simp [bitL]
  rw [hbv] at hcell;(conv=>whnf);refine zT ?_;(conv=>whnf);refine LoadV.cell0 hcell ?_;(conv=>whnf);(iterate 2 (refine zT ?_;(conv=>whnf)));refine zP ?_;refine zC (fun _=>?_) (fun _=>?_)<;>(conv=>whnf)
  ·have hlast:bitN ((qk l k).drop 8) (vNum l k-1)=1:=by
    have hq:bitN (vD (qk l k)) (vNum l k-1)=1:=by assumption
    rw [vD,qe9 _ _ _ (by rw [e1];unfold upN;omega)] at hq;exact hq
   refine StoreA.same (hm.get (List.mem_cons_self ..)) rfl (by decide) ?_;intro w9 he9;have hm:=hm.call he9;(conv=>whnf);refine qa (R:=fun v w'=>VcR l k w.heap.size v w'∧Ext w w') ?_;(conv=>whnf);refine zL hm 0 ?_;(conv=>whnf);exact ⟨.inr ⟨⟨hvo,e1,e2,fun _=>hlast⟩,C,cb,rfl,qbz hO1 he9⟩,hm.ext⟩
  ·refine zS hm 0 ?_;intro w9 hm;(conv=>whnf);refine qa (R:=fun v w'=>VcR l k w.heap.size v w'∧Ext w w') ?_;(conv=>whnf);refine zL hm 0 ?_;(conv=>whnf);exact ⟨.inl ⟨_,_,by decide,⟨by omega,by omega⟩,rfl⟩,hm.ext⟩
 ·refine StoreA.same (hm.get (List.mem_cons_self ..)) rfl (by decide) ?_;intro w9 he9;have hm:=hm.call he9;(conv=>whnf);refine qa (R:=fun v w'=>VcR l k w.heap.size v w'∧Ext w w') ?_;(conv=>whnf);refine zL hm 0 ?_;(conv=>whnf);exact ⟨.inr ⟨⟨hvo,e1,e2,fun h=>by omega⟩,C,cb,rfl,qbz hO1 he9⟩,hm.ext⟩
end Go.Proofs.YtajgbepghniciaaGreatDoor
