/- Lemmas and contracts of functions on the way to the law's card (part 7 of 10). -/
import Derived.Test.YtaiiejogocblgaaGreatDoorPO6
namespace Go.Proofs.YtaiiejogocblgaaGreatDoor
set_option maxHeartbeats 8000000
open Go.RowKit V
set_option maxRecDepth 100000
def errV (b:Nat):Value:=.iface 98 (pp b)
def errO (p c:Nat):Obj:=.cells #[ii p,.iface 67 (ii c)] 100
theorem qks (p c:Nat) (w:World):Gv Tryz.prog 47 [ii p,ii c] w fun v w'=>∃ b,v=errV b∧w.heap.size≤b∧w'.heap[b]?=some (errO p c)∧Ext w w':=by
 refine ze Tryz.func47 Tryz.ntmps47 ?_;refine znm (Mem.nil w) fun b w1 hm=>zw ?_;exact ⟨b,rfl,(hm.own _ mh).1,hm.get mh,hm.ext⟩
def ErrTyp (w:World):Prop:=w.cell? ⟨2,0,none⟩=some (.iface 279 (.agg #[.pointer (some ⟨7,26,none⟩)]))
theorem ErrTyp.ext {w w':World} (h:ErrTyp w) (he:Ext w w'):ErrTyp w':=he.cell h
theorem qnz (t:Value) (w:World):Gv Tryz.prog 74 [.nilIface,t] w fun r w'=>r=.bool false∧w'=w:=
 qh5 Jk ((q4w t w).mono fun e w' ⟨he,hw⟩=>⟨_,he,rfl,hw⟩)
theorem qny (e pb:Nat) {w0 w:World} {L:List (Nat × Obj)} {i:Nat} (hm:Mem w0 w L) (hi:L[i]?=some (pb,.cells #[.pointer none] 98)) (hg:ErrTyp w) :
  Gv Tryz.prog 74 [errV e,.iface 180 (pp pb)] w fun r w'=>r=.bool true∧Mem w0 w' (L.set i (pb,.cells #[pp e] 98))∧
   ∃ w4,Ext w w4∧∀ c,c≠pb→w'.heap[c]?=w4.heap[c]?:=by
 have hb:=hm.get (zmg hi);refine qh5 Jk ((q4v ⟨e,0,none⟩ ⟨pb,0,none⟩ (.pointer none) w hg (by rw [qd hb];rfl) (by simp [World.frozen?,hb])).mono ?_);rintro r w' ⟨rfl,hw⟩;refine ⟨_,rfl,rfl,?_,_,(((((Ext.refl w).alloc _).alloc _).alloc _).alloc _),fun c hc=>by subst hw;exact Below.heap_setCell _ _ _ _ hc⟩;exact (hm.call (((((Ext.refl w).alloc _).alloc _).alloc _).alloc _)).setCell hi hw
def fE (l:LB) (E:Nat→Nat × Nat):Nat × Nat:=if (sE l).2≠0 then sE l else errF (fun k=>if (E k).2=0 then (0,0) else (qk l k+(E k).1,(E k).2)) 3
def vF (d:Nat→Nat) (l:LB) (k:Nat):Nat→Value:=fun j=>
 if j=6 then ii (vTot l k:Nat) else if j/2<k then (if j%2=0 then .pointer (some ⟨d (j/2),0,none⟩) else ii (vTot l (j/2)+1:Nat)) else (if j%2=0 then .pointer none else ii 0)
structure VocAt (w:World) (b:Nat) (l:LB):Prop where
 h:∃ d,w.heap[b]?=some (.cells (fnA 7 (vF d l 3)) 107)∧∀ k,k<3→DictAt w (d k) (qq l k)
theorem VocAt.ext {w w':World} {b:Nat} {l:LB} (h:VocAt w b l) (he:Ext w w'):VocAt w' b l:=by
 obtain ⟨d,h1,h2⟩:=h;exact ⟨d,he.get h1,fun k hk=>(h2 k hk).ext he⟩
def DoR (m:LB) (E:Nat × Nat) (v:Value) (w:World):Prop:=
 (E.2≠0∧∃ e,v=.tuple #[.pointer none,e]∧ErrAt w e E.1 E.2)∨(E.2=0∧∃ b,v=.tuple #[pp b,.nilIface]∧DictAt w b m)
def FndR (l:LB) (E:Nat→Nat × Nat) (v:Value) (w:World):Prop:=
 ((fE l E).2≠0∧∃ G e,v=.tuple #[.pointer none,.agg (fnA 3 (inF G)),e]∧ErrAt w e (fE l E).1 (fE l E).2)∨
 ((fE l E).2=0∧∃ b G,v=.tuple #[pp b,.agg (fnA 3 (inF G)),.nilIface]∧(∀ k,k<3→G k=((qk l k:Nat):Int))∧VocAt w b l)
theorem qsd (n:Nat) (F:Nat→Value) (j:Nat) (h:j<n):(fnA n F).toList[j]?=some (F j):=by
 have:=qhb n F j h
 simpa using this
theorem qws {n:Nat} {F G:Nat→Value} (h:∀ j,j<n→F j=G j):fnA n F=fnA n G:=by
 unfold fnA
 congr 1
 exact List.map_congr_left fun j hj=>h j (by simpa using hj)
theorem qz7 (n:Nat) (F:Nat→Value) (i:Nat) (a b:Value) (h:i+2≤n):((fnA n F).toList.take i++[a,b]++(fnA n F).toList.drop (i+[a,b].length)).toArray=fnA n (updF (updF F i a) (i+1) b):=by
 rw [← qjg,← qjg,← Array.toList_inj];simp only [Array.toList_setIfInBounds,List.length_cons,List.length_nil];have hl:(fnA n F).toList.length=n:=by simp [qp]
 generalize (fnA n F).toList=xs at hl;apply List.ext_getElem?;intro j;rw [List.getElem?_set,List.getElem?_set,List.append_assoc,List.getElem?_append];simp only [List.length_take,List.length_set,hl]
 by_cases h1:j<i
 ·rw [if_pos Oo,if_neg Oo,if_neg Oo,List.getElem?_take,if_pos h1]
 ·rw [if_neg Oo,List.getElem?_append];simp only [List.length_cons,List.length_nil]
  by_cases h2:j=i
  ·subst h2;rw [if_pos Oo,if_neg Oo,if_pos rfl,if_pos Oo,show j-min j n=0 by omega];rfl
  ·by_cases h3:j=i+1
   ·subst h3;rw [if_pos Oo,if_pos rfl,if_pos Oo,show i+1-min i n=1 by omega];rfl
   ·rw [if_neg Oo,if_neg Oo,if_neg Oo,List.getElem?_drop]
    congr 1
    omega
theorem DictAt.other {w w':World} {b x:Nat} {m:LB} {cs:Array Value} {t:TypeId} {fz:Nat × Nat} (h:DictAt w b m) (hx:w.heap[x]?=some (.cells cs t fz)) (ht:t≠188) (hc:∀ v∈cs.toList,∀ c:Nat,v≠.int .u8 c)
  (hw:∀ c,c≠x→w'.heap[c]?=w.heap[c]?):DictAt w' b m:=by
 obtain ⟨⟨P,cp,E,ce,h1,h2,h3,h4⟩,h5,h6,h7,h8⟩:=h;have hbx:b≠x:=by
  intro e;subst e;rw [hx] at h1
  injection h1 with h1
  injection h1 with _ h1 _
  exact ht h1
 have hne:∀ (z:LB),∀ y∈z,∀ v∈cs.toList,(encB y)[0]?≠some v:=fun z y _ v hv e=>by
  cases e;exact hc _ hv _ rfl
 exact ⟨⟨P,cp,E,ce,by rw [hw b hbx];exact h1,h2.other hx (hne _) (fun _ _ e=>by cases e) hw,h3.other hx (hne _) (fun _ _ e=>by cases e) hw,h4⟩,h5,h6,h7,h8⟩
theorem q2l (d:Nat→Nat) (l:LB) (k j:Nat):∀ c:Nat,vF d l k j≠.int .u8 c:=by
 intro c;unfold vF
 split
 ·intro e;cases e
 ·split
  ·split<;>(intro e;cases e)
  ·split<;>(intro e;cases e)
theorem q4n (d:Nat→Nat) (l:LB) (k b:Nat) (hk:k<3):fnA 7 (updF (updF (updF (vF d l k) (2*k) (pp b)) (2*k+1) (ii (vTot l k+1:Nat))) 6 (ii (vTot l (k+1):Nat))) =
  fnA 7 (vF (fun j=>if j=k then b else d j) l (k+1)):=qws fun j hj=>by
 rcases (show k=0∨k=1∨k=2 by omega) with rfl|rfl|rfl<;>
 rcases (show j=0∨j=1∨j=2∨j=3∨j=4∨j=5∨j=6 by omega) with rfl|rfl|rfl|rfl|rfl|rfl|rfl<;>rfl
theorem qwt (l:LB) (A:oA) (c:Nat) (w:World) (hS:SlAt encB 1 w A l) (hc:l.length≤c) (hl:l.length≤70368744177664) (hG:ErrTyp w) (f:FuncId) (E:Nat→Nat × Nat) (hEb:∀ k,k<3→(E k).1≤70368744177664)
  (hf:∀ k,k<3→∀ w' B c',Ext w w'→SlAt encB 1 w' B (qq l k)→(qq l k).length≤c'→Gv Tryz.prog f [.slice B (qq l k).length c'] w' fun v w''=>DoR (qq l k) (E k) v w''∧Ext w' w'') :
  Gv Tryz.prog 43 [.slice A l.length c,.func (.func f) #[] #[]] w fun v w'=>FndR l E v w'∧Ext w w':=by
 refine ze Tryz.func43 Tryz.ntmps43 ?_;refine znm (Mem.nil w) fun r5 w1 hm=>zw ?_;refine zcv (qc8 _ l w1 ⟨A,c,rfl,hc,hS.ext hm.ext⟩) ?_;rintro v w2 ⟨cb,rfl,hcb,hco,he1⟩;have hm:=hm.fresh he1 hcb hco;(conv=>whnf);refine znm hm fun sz w3 hm=>zw ?_;refine znm hm fun pl w4 hm=>zw ?_;refine qr (fun x:Nat × (Nat→Int)=>[(0,.slice A l.length c),(1,.func (.func f) #[] #[]),(4,.pointer none),(5,pp r5),(6,.nilIface),(7,pp cb),(8,pp sz),(9,pp pl),(24,ii x.1)])
  (fun x w'=>x.1≤3∧(∀ j,j<x.1→(vsF l j).2=0)∧(∀ j,j<x.1→x.2 j=((vNum l j:Nat):Int))∧Mem w w' [(pl,.cells (fnA 3 (inF (fun _:Nat=>(0:Int)))) 126),(sz,.cells (fnA 3 (inF (x.2))) 126),(cb,curO 170 (.slice A l.length c) (vAt l x.1) 0),(r5,.cells (fnA 3 (inF (fun _:Nat=>(0:Int)))) 126)]) (fun x=>3-x.1) (0,fun _:Nat=>(0:Int))
  ⟨rfl,rfl,rfl,rfl,rfl,rfl,rfl,rfl,rfl,trivial⟩ ⟨by simp,fun j h=>by simp at h,fun j h=>by simp at h,hm⟩ ?_
 clear hm hco he1 hcb;rintro ⟨k,Q⟩ w6 ρ' ⟨k1,hz,hQ,hm⟩;dsimp only at k1 hz hQ hm ⊢;have hle:=qb5 l k;have hlt:=qfx l k;(conv=>whnf);refine zC (fun _=>zw ?_) (fun _=>zw ?_)
 ·refine zcv (qh2 cb (.slice A l.length c) (vAt l k) 0 w6 (hm.get Js)) ?_;rintro r w7 ⟨rfl,rfl⟩;(conv=>whnf);refine zcv (qb9 cb (.slice A l.length c) (vAt l k) 0 l _ (hm.get Js) ⟨A,c,rfl,hc,hS.ext hm.ext⟩ hle Oo) ?_;rintro r w8 ⟨rfl,hu⟩
  by_cases he:(numL (l.drop (vAt l k))).2.2=0
  case neg=>
   rw [qi1 he,qi2 he] at hu;rw [qi0 he];obtain ⟨q,eq⟩:∃ q,q=(numL (l.drop (vAt l k))).2.2:=⟨_,rfl⟩
   have hf:vsF l k=(vAt l k,q):=by rw [vsF,qd1 he,eq]
   rw [← eq] at hu he;have hE1:sE l=(vAt l k,q):=by rw [qsw hz Oo (by rw [hf];exact he),hf]
   have hE:fE l E=(vAt l k,q):=by rw [fE,hE1,if_pos he]
   have hm:Mem w w8 [(pl,.cells (fnA 3 (inF (fun _:Nat=>(0:Int)))) 126),(sz,.cells (fnA 3 (inF (Q))) 126),(cb,curO 170 (.slice A l.length c) (vAt l k) q),(r5,.cells (fnA 3 (inF (fun _:Nat=>(0:Int)))) 126)]:=hm.upd (i:=2) rfl hu;(conv=>whnf);refine zcv (qb0 cb (.slice A l.length c) (vAt l k) q w8 (hm.get Js)) ?_;rintro r w9 ⟨rfl,rfl⟩;refine zu ?_;refine DrawV.gen (fun S vals w'=>Er w [(pl,.cells (fnA 3 (inF (fun _:Nat=>(0:Int)))) 126),(sz,.cells (fnA 3 (inF (Q))) 126),(cb,curO 170 (.slice A l.length c) (vAt l k) q),(r5,.cells (bif S 6 then fnA 3 (inF (fun _:Nat=>(0:Int))) else fnA 3 (inF (fun _:Nat=>(0:Int)))) 126)] (errO (vAt l k) (q)) errV errV errV (S 4) false (S 7) (vals 4) undef (vals 7) w') rfl Jk (fun vals=>Er.start hm.drew) ?_;clear hm;(conv=>whnf);refine StepG.of (.agg (fnA 3 (inF (fun _:Nat=>(0:Int))))) (fun S vals wd hk hp hI=>zw ?_) (zw ?_)
   ·refine LoadA.mem hI.mem (i:=0) rfl (by simp [qp];rfl) (zw ?_);exact ⟨rfl,hI⟩
   refine zg ?_;refine zg ?_;refine StepG.of (ii (q:Nat)) (fun S vals wd hk hp hI=>zw ?_) (zw ?_)
   ·refine zcv (qb0 cb (.slice A l.length c) (vAt l k) q wd (hI.mem.get Js)) ?_;rintro r w9 ⟨rfl,rfl⟩;exact ⟨rfl,hI⟩
   refine StepG.any (fun S vals wd hk hp hI=>?_) (zw ?_)
   ·dsimp only at hI;rw [hk] at hI;(conv=>whnf);refine zcv (qks (vAt l k) (q) wd) ?_;rintro v w8 ⟨eb,rfl,hb,ho,he⟩;exact ⟨trivial,hI.made he hb ho⟩
   refine zg ?_;refine StepG.of undef (fun S vals wd hk hp hI=>?_) (zw ?_)
   ·dsimp only at hI;rw [hk] at hI;(conv=>whnf);refine hI.store (i:=3) rfl (by simp [qp]) (qbh 3 _) rfl ?_;intro wx _ hx;(conv=>whnf);exact ⟨rfl,hx⟩
   refine StepG.any (fun S vals wd hk hp hI=>?_) (zw ?_)
   ·have h4:S 4=true:=hp 4 Od;dsimp only at hI;rw [hk,h4] at hI;obtain ⟨eb,hv,_,h3⟩:=hI.see;rw [qm hv];(conv=>whnf);exact ⟨trivial,by show Er _ _ _ _ _ _ (S 4) false true _ _ _ _;rw [h4];exact h3⟩
   intro vals w8 hI;obtain ⟨eb,hv1,hv3,hm⟩:=hI.done;rw [qm hv1,qm hv3];clear hI;(conv=>whnf);refine qa (R:=fun v w'=>FndR l E v w'∧Ext w w') (zw ?_);refine LoadA.mem hm (i:=4) rfl (by simp [qp];rfl) (zw ?_);exact ⟨.inl ⟨by rw [hE];exact he,(fun _:Nat=>(0:Int)),errV eb,rfl,⟨eb,rfl,by rw [hE];exact CellsAt.mem hm mh⟩⟩,hm.ext⟩
  rw [qi4 he,qi5 he] at hu;rw [qi3 he];have hm:Mem w w8 [(pl,.cells (fnA 3 (inF (fun _:Nat=>(0:Int)))) 126),(sz,.cells (fnA 3 (inF (Q))) 126),(cb,curO 170 (.slice A l.length c) (vAt l (k+1)) 0),(r5,.cells (fnA 3 (inF (fun _:Nat=>(0:Int)))) 126)]:=hm.upd (i:=2) rfl hu;(conv=>whnf);refine zcv (qb0 cb (.slice A l.length c) (vAt l (k+1)) 0 w8 (hm.get Js)) ?_;rintro r w9 ⟨rfl,rfl⟩;(conv=>whnf);refine zt ?_;refine zC (fun _=>zu ?_) (fun _=>zu ?_)
  ·have hf:vsF l k=(vAt l k,2):=by rw [vsF,qcv he Oo]
   have hE1:sE l=(vAt l k,2):=by rw [qsw hz Oo (by rw [hf];exact Nat.succ_ne_zero _),hf]
   have hE:fE l E=(vAt l k,2):=by rw [fE,hE1,if_pos (Nat.succ_ne_zero _)]
   refine DrawV.gen (fun S vals w'=>Er w [(pl,.cells (fnA 3 (inF (fun _:Nat=>(0:Int)))) 126),(sz,.cells (fnA 3 (inF (Q))) 126),(cb,curO 170 (.slice A l.length c) (vAt l (k+1)) 0),(r5,.cells (bif S 4 then fnA 3 (inF (fun _:Nat=>(0:Int))) else fnA 3 (inF (fun _:Nat=>(0:Int)))) 126)] (errO (vAt l k) (2)) errV errV errV (S 2) false (S 5) (vals 2) undef (vals 5) w') rfl Jk (fun vals=>Er.start hm.drew) ?_;clear hm;(conv=>whnf);refine StepG.of (.agg (fnA 3 (inF (fun _:Nat=>(0:Int))))) (fun S vals wd hk hp hI=>zw ?_) (zw ?_)
   ·refine LoadA.mem hI.mem (i:=0) rfl (by simp [qp];rfl) (zw ?_);exact ⟨rfl,hI⟩
   refine zg ?_;refine StepG.any (fun S vals wd hk hp hI=>?_) (zw ?_)
   ·dsimp only at hI;rw [hk] at hI;(conv=>whnf);refine zcv (qks (vAt l k) (2) wd) ?_;rintro v w8 ⟨eb,rfl,hb,ho,he⟩;exact ⟨trivial,hI.made he hb ho⟩
   refine zg ?_;refine StepG.of undef (fun S vals wd hk hp hI=>?_) (zw ?_)
   ·dsimp only at hI;rw [hk] at hI;(conv=>whnf);refine hI.store (i:=3) rfl (by simp [qp]) (qbh 3 _) rfl ?_;intro wx _ hx;(conv=>whnf);exact ⟨rfl,hx⟩
   refine StepG.any (fun S vals wd hk hp hI=>?_) (zw ?_)
   ·have h4:S 2=true:=hp 2 Od;dsimp only at hI;rw [hk,h4] at hI;obtain ⟨eb,hv,_,h3⟩:=hI.see;rw [qm hv];(conv=>whnf);exact ⟨trivial,by show Er _ _ _ _ _ _ (S 2) false true _ _ _ _;rw [h4];exact h3⟩
   intro vals w8 hI;obtain ⟨eb,hv1,hv3,hm⟩:=hI.done;rw [qm hv1,qm hv3];clear hI;(conv=>whnf);refine qa (R:=fun v w'=>FndR l E v w'∧Ext w w') (zw ?_);refine LoadA.mem hm (i:=4) rfl (by simp [qp];rfl) (zw ?_);exact ⟨.inl ⟨by rw [hE];exact Nat.succ_ne_zero _,(fun _:Nat=>(0:Int)),errV eb,rfl,⟨eb,rfl,by rw [hE];exact CellsAt.mem hm mh⟩⟩,hm.ext⟩
  refine StoreV.fi (x:=((vNum l k:Nat):Int)) hm (i:=1) rfl k (by rw [show tsz Tryz.prog 3=1 from by kernel_rfl];omega) Oo fun w10 hm=>zu ?_;refine ⟨(k+1,updI Q k (vNum l k:Nat)),⟨rfl,rfl,rfl,rfl,rfl,rfl,rfl,rfl,rfl,trivial⟩,⟨by simp only;omega,fun j hj=>?_,fun j hj=>?_,hm⟩,by simp only;omega⟩
  ·by_cases e:j=k
   ·subst e;rw [vsF,qb7 he Oo]
   ·exact hz j (by simp only at hj;omega)
  ·simp only at hj ⊢
   by_cases e:j=k
   ·subst e;exact qb4 _ _ _
   ·rw [qap _ _ _ _ e];exact hQ j Oo
 obtain rfl:k=3:=by omega
 have hz0:(errF (vsF l) 3).2=0:=qaa hz;have hnb:∀ j,j<3→vNum l j≤67108864:=fun j hj=>qcg (hz j hj)
 refine zcv (qh2 cb (.slice A l.length c) (vAt l 3) 0 w6 (hm.get Js)) ?_;rintro r w7 ⟨rfl,rfl⟩;(conv=>whnf);refine LoadA.mem hm (i:=1) rfl (by simp [qp];rfl) (zw ?_);refine qr (fun x:Nat × (Nat→Int)=>[(0,.slice A l.length c),(1,.func (.func f) #[] #[]),(4,.pointer none),(5,pp r5),(6,.nilIface),(8,pp sz),(9,pp pl),(13,ii (qk l x.1:Nat)),(53,.agg (fnA 3 (inF Q))),(54,ii x.1)])
  (fun x w'=>x.1≤3∧(∀ j,j<x.1→x.2 j=((qk l j:Nat):Int))∧Mem w w' [(pl,.cells (fnA 3 (inF (x.2))) 126),(sz,.cells (fnA 3 (inF (Q))) 126),(cb,curO 170 (.slice A l.length c) (vAt l 3) 0),(r5,.cells (fnA 3 (inF (fun _:Nat=>(0:Int)))) 126)]) (fun x=>3-x.1) (0,fun _:Nat=>(0:Int))
  ⟨rfl,rfl,rfl,rfl,rfl,rfl,rfl,rfl,rfl,rfl,trivial⟩ ⟨by simp,fun j h=>by simp at h,hm⟩ ?_
 clear hm;rintro ⟨k,P⟩ w8 ρ2 ⟨k2,hP,hm⟩;dsimp only at k2 hP hm ⊢;have hs1:qk l (k+1)=qk l k+vNum l k:=rfl;have hsb:∀ j,j≤3→qk l j≤l.length+201326592:=by
  have e0:qk l 0=vAt l 3:=rfl;have e1:qk l 1=qk l 0+vNum l 0:=rfl;have e2:qk l 2=qk l 1+vNum l 1:=rfl;have e3:qk l 3=qk l 2+vNum l 2:=rfl;have h0:=hnb 0 Oo;have h1:=hnb 1 Oo;have h2:=hnb 2 Oo;have h3:=qb5 l 3;intro j hj
  rcases (show j=0∨j=1∨j=2∨j=3 by omega) with rfl|rfl|rfl|rfl<;>omega
 have hsk:=hsb k Oo;conv=>whnf
 (repeat' (first|refine zp ?_|refine zC (fun _=>zw ?_) (fun _=>zw ?_)))
 ·have hn:=hnb k Oo;refine ⟨ii (vNum l k:Nat),?_,?_⟩
  ·rw [show k*tsz Tryz.prog 3=k from by rw [show tsz Tryz.prog 3=1 from by kernel_rfl];omega];have:=qsd 3 (inF Q) k Oo;rw [inF,hQ k Oo] at this;exact this
  (conv=>whnf);refine IdxV.at_ k Oo Oo (zw ?_);refine StoreV.fi (x:=((qk l k:Nat):Int)) hm (i:=0) rfl k (by rw [show tsz Tryz.prog 3=1 from by kernel_rfl];omega) Oo fun w10 hm=>zu ?_;refine ⟨(k+1,updI P k (qk l k:Nat)),⟨rfl,rfl,rfl,rfl,rfl,rfl,rfl,?_,rfl,rfl,trivial⟩,⟨by simp only;omega,fun j hj=>?_,hm⟩,by simp only;omega⟩
  ·show ii _=ii _
   congr 1
  ·simp only at hj ⊢
   by_cases e:j=k
   ·subst e;exact qb4 _ _ _
   ·rw [qap _ _ _ _ e];exact hP j Oo
 ·obtain rfl:k=3:=by omega
  have hsE:sE l=if l.length<qk l 3 then (l.length,10) else if qk l 3<l.length then (qk l 3,13) else (0,0):=by rw [sE,if_neg Oo]
  have hE1:sE l=(l.length,10):=by rw [hsE,if_pos Oo]
  have hE:fE l E=(l.length,10):=by rw [fE,hE1,if_pos (Nat.succ_ne_zero _)]
  refine DrawV.gen (fun S vals w'=>Er w [(pl,.cells (fnA 3 (inF (P))) 126),(sz,.cells (fnA 3 (inF (Q))) 126),(cb,curO 170 (.slice A l.length c) (vAt l 3) 0),(r5,.cells (bif S 5 then fnA 3 (inF (P)) else fnA 3 (inF (fun _:Nat=>(0:Int)))) 126)] (errO (l.length) (10)) errV errV errV (S 3) false (S 6) (vals 3) undef (vals 6) w') rfl Jk (fun vals=>Er.start hm.drew) ?_;clear hm;(conv=>whnf);refine StepG.of (.agg (fnA 3 (inF (P)))) (fun S vals wd hk hp hI=>zw ?_) (zw ?_)
  ·refine LoadA.mem hI.mem (i:=0) rfl (by simp [qp];rfl) (zw ?_);exact ⟨rfl,hI⟩
  refine zg ?_;refine zg ?_;refine StepG.any (fun S vals wd hk hp hI=>?_) (zw ?_)
  ·dsimp only at hI;rw [hk] at hI;(conv=>whnf);refine zcv (qks (l.length) (10) wd) ?_;rintro v w8 ⟨eb,rfl,hb,ho,he⟩;exact ⟨trivial,hI.made he hb ho⟩
  refine zg ?_;refine StepG.of undef (fun S vals wd hk hp hI=>?_) (zw ?_)
  ·dsimp only at hI;rw [hk] at hI;(conv=>whnf);refine hI.store (i:=3) rfl (by simp [qp]) (qbh 3 _) rfl ?_;intro wx _ hx;(conv=>whnf);exact ⟨rfl,hx⟩
  refine StepG.any (fun S vals wd hk hp hI=>?_) (zw ?_)
  ·have h4:S 3=true:=hp 3 Od;dsimp only at hI;rw [hk,h4] at hI;obtain ⟨eb,hv,_,h3⟩:=hI.see;rw [qm hv];(conv=>whnf);exact ⟨trivial,by show Er _ _ _ _ _ _ (S 3) false true _ _ _ _;rw [h4];exact h3⟩
  intro vals w8 hI;obtain ⟨eb,hv1,hv3,hm⟩:=hI.done;rw [qm hv1,qm hv3];clear hI;(conv=>whnf);refine qa (R:=fun v w'=>FndR l E v w'∧Ext w w') (zw ?_);refine LoadA.mem hm (i:=4) rfl (by simp [qp];rfl) (zw ?_);exact ⟨.inl ⟨by rw [hE];exact Nat.succ_ne_zero _,(P),errV eb,rfl,⟨eb,rfl,by rw [hE];exact CellsAt.mem hm mh⟩⟩,hm.ext⟩
 ·obtain rfl:k=3:=by omega
  have hsE:sE l=if l.length<qk l 3 then (l.length,10) else if qk l 3<l.length then (qk l 3,13) else (0,0):=by rw [sE,if_neg Oo]
  have hE1:sE l=(qk l 3,13):=by rw [hsE,if_neg Oo,if_pos Oo]
  have hE:fE l E=(qk l 3,13):=by rw [fE,hE1,if_pos (Nat.succ_ne_zero _)]
  refine DrawV.gen (fun S vals w'=>Er w [(pl,.cells (fnA 3 (inF (P))) 126),(sz,.cells (fnA 3 (inF (Q))) 126),(cb,curO 170 (.slice A l.length c) (vAt l 3) 0),(r5,.cells (bif S 4 then fnA 3 (inF (P)) else fnA 3 (inF (fun _:Nat=>(0:Int)))) 126)] (errO (qk l 3) (13)) errV errV errV (S 2) false (S 5) (vals 2) undef (vals 5) w') rfl Jk (fun vals=>Er.start hm.drew) ?_;clear hm;(conv=>whnf);refine StepG.of (.agg (fnA 3 (inF (P)))) (fun S vals wd hk hp hI=>zw ?_) (zw ?_)
  ·refine LoadA.mem hI.mem (i:=0) rfl (by simp [qp];rfl) (zw ?_);exact ⟨rfl,hI⟩
  refine zg ?_;refine StepG.any (fun S vals wd hk hp hI=>?_) (zw ?_)
  ·dsimp only at hI;rw [hk] at hI;(conv=>whnf);refine zcv (qks (qk l 3) (13) wd) ?_;rintro v w8 ⟨eb,rfl,hb,ho,he⟩;exact ⟨trivial,hI.made he hb ho⟩
  refine zg ?_;refine StepG.of undef (fun S vals wd hk hp hI=>?_) (zw ?_)
  ·dsimp only at hI;rw [hk] at hI;(conv=>whnf);refine hI.store (i:=3) rfl (by simp [qp]) (qbh 3 _) rfl ?_;intro wx _ hx;(conv=>whnf);exact ⟨rfl,hx⟩
  refine StepG.any (fun S vals wd hk hp hI=>?_) (zw ?_)
  ·have h4:S 2=true:=hp 2 Od;dsimp only at hI;rw [hk,h4] at hI;obtain ⟨eb,hv,_,h3⟩:=hI.see;rw [qm hv];(conv=>whnf);exact ⟨trivial,by show Er _ _ _ _ _ _ (S 2) false true _ _ _ _;rw [h4];exact h3⟩
  intro vals w8 hI;obtain ⟨eb,hv1,hv3,hm⟩:=hI.done;rw [qm hv1,qm hv3];clear hI;(conv=>whnf);refine qa (R:=fun v w'=>FndR l E v w'∧Ext w w') (zw ?_);refine LoadA.mem hm (i:=4) rfl (by simp [qp];rfl) (zw ?_);exact ⟨.inl ⟨by rw [hE];exact Nat.succ_ne_zero _,(P),errV eb,rfl,⟨eb,rfl,by rw [hE];exact CellsAt.mem hm mh⟩⟩,hm.ext⟩
 obtain rfl:k=3:=by omega
 have hpl:qk l 3=l.length:=by omega
 have hE0:(sE l).2=0:=by rw [sE,if_neg Oo,if_neg Oo,if_neg Oo]
 have hfE:fE l E=errF (fun k=>if (E k).2=0 then (0,0) else (qk l k+(E k).1,(E k).2)) 3:=by rw [fE,if_neg Oo]
 refine znm hm fun vb w9 hm=>zw ?_;refine LoadA.mem hm (i:=2) rfl (by simp [qp];rfl) (zw ?_);refine qr (fun x:Nat × (Nat→Nat)=>[(0,.slice A l.length c),(1,.func (.func f) #[] #[]),(4,.pointer none),(5,pp r5),(6,.nilIface),(9,pp pl),(16,pp vb),(84,.agg (fnA 3 (inF Q))),(85,ii x.1)])
  (fun x w'=>x.1≤3∧(∀ j,j<x.1→(E j).2=0)∧(∀ j,j<x.1→DictAt w' (x.2 j) (qq l j))∧Mem w w' [(vb,.cells (fnA 7 (vF (x.2) l (x.1))) 107),(pl,.cells (fnA 3 (inF (P))) 126),(sz,.cells (fnA 3 (inF (Q))) 126),(cb,curO 170 (.slice A l.length c) (vAt l 3) 0),(r5,.cells (fnA 3 (inF (fun _:Nat=>(0:Int)))) 126)]) (fun x=>3-x.1) (0,fun _=>0)
  ⟨rfl,rfl,rfl,rfl,rfl,rfl,rfl,rfl,rfl,trivial⟩ ⟨by simp,fun j h=>by simp at h,fun j h=>by simp at h,hm⟩ ?_
 clear hm;rintro ⟨k,d⟩ w10 ρ3 ⟨k3,hEz,hD,hm⟩;dsimp only at k3 hEz hD hm ⊢;(conv=>whnf);refine zC (fun _=>zu ?_) (fun _=>zu ?_)
 ·have hn:=hnb k Oo;have hPk:=hP k Oo;have hple:=qdm hpl (k:=k) Oo;have hdl:=qo5 hpl (k:=k) Oo;obtain ⟨y,ey⟩:∃ y,y=qk l k:=⟨_,rfl⟩
  obtain ⟨z,ez⟩:∃ z,z=vNum l k:=⟨_,rfl⟩
  obtain ⟨B,eB⟩:∃ B,B=(if y+z=y then A else A.map (·.add (y*1))):=⟨_,rfl⟩
  have hB:SlAt encB 1 w B (qq l k):=by
   rw [eB,qq,← ey];have:=hS.cut (lo:=y) (hi:=y+z) (m:=y+z) Oo Oo Oo rfl
   rwa [show y+z-y=vNum l k by omega] at this
  have hfk:=fun w' h1 h2=>hf k Oo w' B z h1 h2 Oo
  rw [hdl] at hfk;refine ⟨ii (vNum l k:Nat),?_,?_⟩
  ·rw [show k*tsz Tryz.prog 3=k from by rw [show tsz Tryz.prog 3=1 from by kernel_rfl];omega];have:=qsd 3 (inF Q) k Oo;rw [inF,hQ k Oo] at this;exact this
  rw [← ey] at hPk hple;rw [← ez] at hn hple hfk ⊢;(conv=>whnf);have hEbk:=hEb k Oo
  by_cases hEk:(E k).2=0
  ·refine DrawV.free Jk Jk (zw ?_);(iterate 4 (refine zd ?_));refine zsd (ii (y:Nat)) (fun wd hd=>zw ?_) (zw ?_)
   ·refine LoadV.fim (x:=((y:Nat):Int)) (hm.drew.call hd) (b:=pl) (F:=P) (n:=3) (t:=126) Js k (by rw [show tsz Tryz.prog 3=1 from by kernel_rfl];omega) Oo hPk (zw ?_);exact ⟨xr,rfl⟩
   refine zd ?_;refine zd ?_;refine zsd (ii (y:Nat)) (fun wd hd=>zw ?_) (zw ?_)
   ·refine LoadV.fim (x:=((y:Nat):Int)) (hm.drew.call hd) (b:=pl) (F:=P) (n:=3) (t:=126) Js k (by rw [show tsz Tryz.prog 3=1 from by kernel_rfl];omega) Oo hPk (zw ?_);exact ⟨xr,rfl⟩
   (iterate 4 (refine zd ?_));refine zsd (ii (y:Nat)) (fun wd hd=>zw ?_) (zw ?_)
   ·refine LoadV.fim (x:=((y:Nat):Int)) (hm.drew.call hd) (b:=pl) (F:=P) (n:=3) (t:=126) Js k (by rw [show tsz Tryz.prog 3=1 from by kernel_rfl];omega) Oo hPk (zw ?_);exact ⟨xr,rfl⟩
   refine zd ?_;refine zd ?_;refine zsd (.slice B z z) (fun wd hd=>zw ?_) (zw ?_)
   ·refine SliceV.to y (y+z) (y+z) rfl (by show (_:Int)=_;omega) (by show (_:Int)=_;omega) Oo znr Oo (fun _=>rfl) ?_;rw [show tsz Tryz.prog 5=1 from by kernel_rfl,← eB,show y+z-y=z by omega];(conv=>whnf);exact ⟨xr,rfl⟩
   apply StepD.of (fun v wx=>∃ b,v=.tuple #[pp b,.nilIface]∧DictAt wx b (qq l k)) (fun _ _ _ ⟨b,h1,h2⟩ he=>⟨b,h1,h2.ext he⟩)
   ·intro wd hd;(conv=>whnf);refine zcv (hfk wd (hm.drew.call hd).ext (hB.ext (hm.drew.call hd).ext)) ?_;rintro v w11 ⟨⟨h0,_⟩|⟨_,b,rfl,hD⟩,he11⟩
    ·exact absurd hEk h0
    ·exact ⟨he11,b,rfl,hD⟩
   (conv=>whnf);apply StepD.of (fun v wx=>∃ b,v=.tuple #[pp b,.nilIface]∧DictAt wx b (qq l k)) (fun _ _ _ ⟨b,h1,h2⟩ he=>⟨b,h1,h2.ext he⟩)
   ·intro wd hd;(conv=>whnf);rintro v ⟨b,rfl,hD⟩;(conv=>whnf);exact ⟨xr,b,rfl,hD⟩
   (conv=>whnf);apply StepD.of (fun v wx=>∃ b,v=pp b∧DictAt wx b (qq l k)) (fun _ _ _ ⟨b,h1,h2⟩ he=>⟨b,h1,h2.ext he⟩)
   ·intro wd hd;(conv=>whnf);rintro v ⟨b,rfl,hD⟩;(conv=>whnf);exact ⟨xr,b,rfl,hD⟩
   (conv=>whnf);apply zsd .nilIface
   ·intro wd hd;conv=>whnf
    repeat (rintro v ⟨b,rfl,hD⟩;(conv=>whnf))
    exact ⟨xr,rfl⟩
   (conv=>whnf);apply StepD.of (fun v wx=>∃ b,v=pp b∧DictAt wx b (qq l k)) (fun _ _ _ ⟨b,h1,h2⟩ he=>⟨b,h1,h2.ext he⟩)
   ·intro wd hd;conv=>whnf
    repeat (rintro v ⟨b,rfl,hD⟩;(conv=>whnf))
    exact ⟨xr,_,rfl,by assumption⟩
   (conv=>whnf);apply zsd .nilIface
   ·intro wd hd;conv=>whnf
    repeat (rintro v ⟨b,rfl,hD⟩;(conv=>whnf))
    exact ⟨xr,rfl⟩
   (conv=>whnf);intro w11 he11;have hm:=hm.drew.call he11;have hD:=fun j hj=>(hD j hj).ext ((Ext.refl w10).drew.trans he11)
   clear he11;(conv=>whnf);rintro v ⟨b,rfl,hDb⟩;conv=>whnf
   repeat (rintro v ⟨_,rfl,_⟩;(conv=>whnf))
   refine ⟨fun pb w12 hpb hw12=>?_⟩;have he12:Ext w11 w12:=by rw [hw12];exact xr.alloc _
   have hm:=hm.new hpb hw12;have hD:=fun j hj=>(hD j hj).ext he12
   have hDb:=hDb.ext he12;clear he12 hw12 hpb;(conv=>whnf);refine zcv (qnz _ w12) ?_;rintro r w13 ⟨rfl,rfl⟩;refine zu ?_;refine DrawV.inv (fun S w'=>Mem w w' [(pb,.cells #[.pointer none] 98),(vb,.cells (bif S 12 then fnA 7 (updF (updF (vF d l k) (2*k) (pp b)) (2*k+1) (ii (vTot l k+1:Nat))) else fnA 7 (vF d l k)) 107),(pl,.cells (fnA 3 (inF (P))) 126),(sz,.cells (fnA 3 (inF (Q))) 126),(cb,curO 170 (.slice A l.length c) (vAt l 3) 0),(r5,.cells (fnA 3 (inF (fun _:Nat=>(0:Int)))) 126)]∧(∀ j,j<k→DictAt w' (d j) (qq l j))∧DictAt w' b (qq l k)) rfl Jk ⟨hm.drew,fun j hj=>(hD j hj).ext xr.drew,hDb.ext xr.drew⟩ ?_;have hdk:=hDb.n;have hvt:vTot l k≤8388608:=by
    rcases (show k=0∨k=1∨k=2 by omega) with rfl|rfl|rfl
    ·exact Nat.zero_le _
    ·have h0:=(hD 0 Oo).n;simp only [vTot];omega
    ·have h0:=(hD 0 Oo).n;have h1:=(hD 1 Oo).n;simp only [vTot];omega
   clear hm hD hDb;(conv=>whnf);(iterate 6 (refine zi ?_));refine StepI.of (ii (vTot l k:Nat)) (fun S wd hk hp hI=>zw ?_) (zw ?_)
   ·dsimp only at hI;cases h12:S 12
    ·rw [h12] at hI;refine LoadV.fn (v:=ii (vTot l k:Nat)) hI.1 (i:=1) rfl 6 rfl Oo rfl (zw ?_);exact ⟨rfl,by show Mem _ _ [_,(vb,.cells (bif S 12 then _ else _) _ _),_,_,_,_]∧_;rw [h12];exact hI⟩
    ·rw [h12] at hI;refine LoadV.fn (v:=ii (vTot l k:Nat)) hI.1 (i:=1) rfl 6 rfl Oo (by rw [qaf _ _ _ _ Oo,qaf _ _ _ _ Oo];rfl) (zw ?_);exact ⟨rfl,by show Mem _ _ [_,(vb,.cells (bif S 12 then _ else _) _ _),_,_,_,_]∧_;rw [h12];exact hI⟩
   (iterate 5 (refine zi ?_));refine StepI.of undef (fun S wd hk hp hI=>?_) (zw ?_)
   ·dsimp only at hI;rw [hk] at hI;(conv=>whnf);have hx:=hI.1.get (zmc mh);refine StoreA.row hI.1 (i:=1) rfl (by rw [show tsz Tryz.prog 104=2 from by kernel_rfl];simp [qp];omega) (by simp [Value.oneCell']) ?_;intro wx hfr _ hmx;have hmx:Mem w wx [(pb,.cells #[.pointer none] 98),(vb,.cells (fnA 7 (updF (updF (vF d l k) (2*k) (pp b)) (2*k+1) (ii (vTot l k+1:Nat)))) 107),(pl,.cells (fnA 3 (inF (P))) 126),(sz,.cells (fnA 3 (inF (Q))) 126),(cb,curO 170 (.slice A l.length c) (vAt l 3) 0),(r5,.cells (fnA 3 (inF (fun _:Nat=>(0:Int)))) 126)]:=by
     have e:=qz7 7 (vF d l k) (2*k) (pp b) (ii (vTot l k+1:Nat)) Oo;rw [← e];have e2:0+0+k*tsz Tryz.prog 104=2*k:=by rw [show tsz Tryz.prog 104=2 from by kernel_rfl];omega
     rw [← e2];exact hmx
    (conv=>whnf);refine ⟨rfl,hmx,fun j hj=>(hI.2.1 j hj).other hx Od ?_ hfr,hI.2.2.other hx Od ?_ hfr⟩
    all_goals
     intro v hv c;obtain ⟨m,hm',rfl⟩:=List.mem_map.1 (show v∈(List.range 7).map (vF d l k) from hv);exact q2l d l k m c
   intro w14 hI;obtain ⟨hm,hD,hDb⟩:=hI;(conv=>whnf);refine DrawV.inv (fun S w'=>((S 6=true→S 3=true)∧(S 9=true→S 3=true))∧Mem w w' [(pb,.cells #[.pointer none] 98),(vb,.cells (bif S 9 then fnA 7 (updF (updF (updF (vF d l k) (2*k) (pp b)) (2*k+1) (ii (vTot l k+1:Nat))) 6 (ii (vTot l (k+1):Nat))) else fnA 7 (updF (updF (vF d l k) (2*k) (pp b)) (2*k+1) (ii (vTot l k+1:Nat)))) 107),(pl,.cells (fnA 3 (inF (P))) 126),(sz,.cells (fnA 3 (inF (Q))) 126),(cb,curO 170 (.slice A l.length c) (vAt l 3) 0),(r5,.cells (fnA 3 (inF (fun _:Nat=>(0:Int)))) 126)]∧(∀ j,j<k→DictAt w' (d j) (qq l j))∧DictAt w' b (qq l k)) rfl Jk ⟨⟨fun h=>(by cases h),fun h=>(by cases h)⟩,hm.drew,fun j hj=>(hD j hj).ext xr.drew,hDb.ext xr.drew⟩ ?_;clear hm hD hDb;have hvs:vTot l (k+1)=vTot l k+dN (qq l k):=rfl;(conv=>whnf);(iterate 3 (refine zi ?_));refine StepI.of (ii (vTot l k:Nat)) (fun S wd hk hp hI=>zw ?_) (zw ?_)
   ·have h9:S 9=false:=by
     cases h:S 9
     ·rfl
     ·have:=hI.1.2 h;rw [hk] at this;cases this
    have hI2:=hI.2.1;rw [h9] at hI2;refine LoadV.fn (v:=ii (vTot l k:Nat)) hI2 (i:=1) rfl 6 rfl Oo (by rw [qaf _ _ _ _ Oo,qaf _ _ _ _ Oo];rfl) (zw ?_);exact ⟨rfl,⟨fun _=>rfl,fun _=>rfl⟩,hI.2⟩
   refine zi ?_;refine StepI.of (ii (dN (qq l k):Nat)) (fun S wd hk hp hI=>zw ?_) (zw ?_)
   ·refine zcv (qzz b (qq l k) wd hI.2.2.2) ?_;rintro r w15 ⟨rfl,rfl⟩;exact ⟨rfl,hI⟩
   refine StepI.of (ii (vTot l (k+1):Nat)) (fun S wd hk hp hI=>zw ?_) (zw ?_)
   ·refine Obl.mk ⟨by omega,by omega⟩ (zw ?_);exact ⟨rfl,⟨fun _=>hp 3 Od,hI.1.2⟩,hI.2⟩
   refine zi ?_;refine zi ?_;refine StepI.of undef (fun S wd hk hp hI=>?_) (zw ?_)
   ·have h6:=hp 6 Od;obtain ⟨hI1,hI2,hI3,hI4⟩:=hI;rw [hk] at hI2;(conv=>whnf);have hx:=hI2.get (zmc mh);refine StoreV.row hI2 (i:=1) rfl (by simp [qp]) rfl ?_;intro wx hfr _ hmx;have hmx:Mem w wx [(pb,.cells #[.pointer none] 98),(vb,.cells (fnA 7 (updF (updF (updF (vF d l k) (2*k) (pp b)) (2*k+1) (ii (vTot l k+1:Nat))) 6 (ii (vTot l (k+1):Nat)))) 107),(pl,.cells (fnA 3 (inF (P))) 126),(sz,.cells (fnA 3 (inF (Q))) 126),(cb,curO 170 (.slice A l.length c) (vAt l 3) 0),(r5,.cells (fnA 3 (inF (fun _:Nat=>(0:Int)))) 126)]:=by
     rw [← qjg];exact hmx
    (conv=>whnf);refine ⟨rfl,⟨hI1.1,fun _=>hI1.1 h6⟩,hmx,fun j hj=>(hI3 j hj).other hx Od ?_ hfr,hI4.other hx Od ?_ hfr⟩
    all_goals
     intro v hv c;obtain ⟨m,hm',rfl⟩:=List.mem_map.1 (show v∈(List.range 7).map (updF (updF (vF d l k) (2*k) (pp b)) (2*k+1) (ii (vTot l k+1:Nat))) from hv);unfold updF
     split
     ·intro e;cases e
     split
     ·intro e;cases e
     exact q2l d l k m c
   intro w15 hI;obtain ⟨_,hm,hD,hDb⟩:=hI;rw [q4n d l k b Oo] at hm;have hm:=hm.sub (List.sublist_cons_self ..);refine zu ?_;refine ⟨(k+1,fun j=>if j=k then b else d j),⟨rfl,rfl,rfl,rfl,rfl,rfl,rfl,rfl,rfl,trivial⟩,⟨by simp only;omega,fun j hj=>?_,fun j hj=>?_,hm⟩,by simp only;omega⟩
   ·by_cases e:j=k
    ·subst e;exact hEk
    ·exact hEz j (by simp only at hj;omega)
   ·simp only at hj ⊢
    by_cases e:j=k
    ·subst e;rw [if_pos rfl];exact hDb
    ·rw [if_neg e];exact hD j Oo
  ·obtain ⟨p,ep⟩:∃ p,p=(E k).1:=⟨_,rfl⟩
   obtain ⟨q,eq⟩:∃ q,q=(E k).2:=⟨_,rfl⟩
   have hEf:fE l E=(y+p,q):=by
    rw [hfE,qar (k:=k) (fun j hj=>by simp only [if_pos (hEz j hj)]) Oo (by simp only [if_neg hEk];exact hEk),if_neg hEk,ey,ep,eq]
   have hfk2:∀ w',Ext w w'→SlAt encB 1 w' B (qq l k)→Gv Tryz.prog f [.slice B z z] w' fun v w''=>(∃ e,v=.tuple #[.pointer none,e]∧ErrAt w'' e p q)∧Ext w' w'':=fun w' h1 h2=>(hfk w' h1 h2).mono fun v w'' ⟨h,he⟩=>by
    rcases h with ⟨_,e,h3,h4⟩|⟨h0,_⟩
    ·rw [← ep,← eq] at h4;exact ⟨⟨e,h3,h4⟩,he⟩
    ·exact absurd h0 hEk
   rw [← ep] at hEbk;rw [← eq] at hEk;refine DrawV.free Jk Jk (zw ?_);(iterate 4 (refine zd ?_));refine zsd (ii (y:Nat)) (fun wd hd=>zw ?_) (zw ?_)
   ·refine LoadV.fim (x:=((y:Nat):Int)) (hm.drew.call hd) (b:=pl) (F:=P) (n:=3) (t:=126) Js k (by rw [show tsz Tryz.prog 3=1 from by kernel_rfl];omega) Oo hPk (zw ?_);exact ⟨xr,rfl⟩
   refine zd ?_;refine zd ?_;refine zsd (ii (y:Nat)) (fun wd hd=>zw ?_) (zw ?_)
   ·refine LoadV.fim (x:=((y:Nat):Int)) (hm.drew.call hd) (b:=pl) (F:=P) (n:=3) (t:=126) Js k (by rw [show tsz Tryz.prog 3=1 from by kernel_rfl];omega) Oo hPk (zw ?_);exact ⟨xr,rfl⟩
   (iterate 4 (refine zd ?_));refine zsd (ii (y:Nat)) (fun wd hd=>zw ?_) (zw ?_)
   ·refine LoadV.fim (x:=((y:Nat):Int)) (hm.drew.call hd) (b:=pl) (F:=P) (n:=3) (t:=126) Js k (by rw [show tsz Tryz.prog 3=1 from by kernel_rfl];omega) Oo hPk (zw ?_);exact ⟨xr,rfl⟩
   refine zd ?_;refine zd ?_;refine zsd (.slice B z z) (fun wd hd=>zw ?_) (zw ?_)
   ·refine SliceV.to y (y+z) (y+z) rfl (by show (_:Int)=_;omega) (by show (_:Int)=_;omega) Oo znr Oo (fun _=>rfl) ?_;rw [show tsz Tryz.prog 5=1 from by kernel_rfl,← eB,show y+z-y=z by omega];(conv=>whnf);exact ⟨xr,rfl⟩
   apply StepD.of (fun v wx=>∃ e,v=.tuple #[.pointer none,e]∧ErrAt wx e p q) (fun _ _ _ ⟨e,h1,h2⟩ he=>⟨e,h1,h2.ext he⟩)
   ·intro wd hd;(conv=>whnf);refine zcv (hfk2 wd (hm.drew.call hd).ext (hB.ext (hm.drew.call hd).ext)) ?_;rintro v w11 ⟨⟨e,rfl,hE⟩,he11⟩;exact ⟨he11,e,rfl,hE⟩
   (conv=>whnf);apply StepD.of (fun v wx=>∃ e,v=.tuple #[.pointer none,e]∧ErrAt wx e p q) (fun _ _ _ ⟨e,h1,h2⟩ he=>⟨e,h1,h2.ext he⟩)
   ·intro wd hd;(conv=>whnf);rintro v ⟨e,rfl,hE⟩;obtain ⟨eb,rfl,hec⟩:=hE;(conv=>whnf);exact ⟨xr,_,rfl,eb,rfl,hec⟩
   (conv=>whnf);refine zsd (.pointer none) (fun wd hd=>zw ?_) (zw ?_)
   ·rintro v ⟨e,rfl,eb,rfl,hec⟩;(conv=>whnf);exact ⟨xr,rfl⟩
   apply StepD.of (fun v wx=>ErrAt wx v p q) (fun _ _ _ h he=>h.ext he)
   ·intro wd hd;(conv=>whnf);rintro v ⟨e,rfl,eb,rfl,hec⟩;(conv=>whnf);exact ⟨xr,eb,rfl,hec⟩
   (conv=>whnf);apply zsd (.pointer none)
   ·intro wd hd;conv=>whnf
    repeat (intro _ _;(conv=>whnf))
    exact ⟨xr,rfl⟩
   (conv=>whnf);apply StepD.of (fun v wx=>ErrAt wx v p q) (fun _ _ _ h he=>h.ext he)
   ·intro wd hd;conv=>whnf
    repeat (rintro v ⟨eb,rfl,hec⟩;(conv=>whnf))
    exact ⟨xr,_,rfl,by assumption⟩
   (conv=>whnf);intro w11 he11;have hm:=hm.drew.call he11;clear he11;(conv=>whnf);rintro v ⟨eb,rfl,hec⟩;conv=>whnf
   repeat (intro _ _;(conv=>whnf))
   refine ⟨fun pb w12 hpb hw12=>?_⟩;have he12:Ext w11 w12:=by rw [hw12];exact xr.alloc _
   have hm:=hm.new hpb hw12;have hec:=hec.ext he12;clear he12 hw12 hpb;(conv=>whnf);refine zcv (qny eb pb hm (i:=0) rfl (hG.ext hm.ext)) ?_;rintro r w13 ⟨rfl,hm',w4',he4',hfr⟩;have hne:eb≠pb:=by
    intro e;have h1:=hec 0 _ rfl;rw [e,qd (hm.get mh)] at h1;cases h1
   have hec:=(hec.ext he4').other hne hfr;have hm:Mem w w13 [(pb,.cells #[pp eb] 98),(vb,.cells (fnA 7 (vF (d) l (k))) 107),(pl,.cells (fnA 3 (inF (P))) 126),(sz,.cells (fnA 3 (inF (Q))) 126),(cb,curO 170 (.slice A l.length c) (vAt l 3) 0),(r5,.cells (fnA 3 (inF (fun _:Nat=>(0:Int)))) 126)]:=hm';have hr5:eb≠r5:=by
    intro e;have h1:=hec 1 _ rfl;have hg5:w13.heap[r5]?=some (.cells (fnA 3 (inF fun _:Nat=>(0:Int))) 126):=hm.get Js;rw [e,qd hg5] at h1;cases h1
   clear hm' he4' hfr;refine zu ?_;refine DrawV.gen (fun S vals w'=>Er w [(pb,.cells #[pp eb] 98),(vb,.cells (fnA 7 (vF (d) l (k))) 107),(pl,.cells (fnA 3 (inF (P))) 126),(sz,.cells (fnA 3 (inF (Q))) 126),(cb,curO 170 (.slice A l.length c) (vAt l 3) 0),(r5,.cells (bif S 17 then fnA 3 (inF P) else fnA 3 (inF fun _:Nat=>(0:Int))) 126)] (errO (y+p) q) (fun b=>pp b) errV errV (S 14) (S 15) (S 18) (vals 14) (vals 15) (vals 18) w'∧CellsAt w' eb 0 [ii p,.iface 67 (ii q)]) rfl Jk (fun vals=>⟨Er.start hm.drew,hec.ext xr.drew⟩) ?_;clear hm hec;(conv=>whnf);refine StepG.of (.agg (fnA 3 (inF P))) (fun S vals wd hk hp hI=>zw ?_) (zw ?_)
   ·refine LoadA.mem hI.1.mem (i:=2) rfl (by simp [qp];rfl) (zw ?_);exact ⟨rfl,hI⟩
   refine zg ?_;refine zg ?_;refine StepG.of (ii (y:Nat)) (fun S vals wd hk hp hI=>zw ?_) (zw ?_)
   ·refine LoadV.fim (x:=((y:Nat):Int)) hI.1.mem (b:=pl) (F:=P) (n:=3) (t:=126) Js k (by rw [show tsz Tryz.prog 3=1 from by kernel_rfl];omega) Oo hPk (zw ?_);exact ⟨rfl,hI⟩
   refine StepG.of (pp eb) (fun S vals wd hk hp hI=>zw ?_) (zw ?_)
   ·refine zr hI.1.mem 0 ?_;exact ⟨rfl,hI⟩
   refine zg ?_;refine zg ?_;refine StepG.of (ii p) (fun S vals wd hk hp hI=>zw ?_) (zw ?_)
   ·refine LoadV.of (hI.2 0 _ rfl) (zw ?_);exact ⟨rfl,hI⟩
   refine zg ?_;refine StepG.of (pp eb) (fun S vals wd hk hp hI=>zw ?_) (zw ?_)
   ·refine zr hI.1.mem 0 ?_;exact ⟨rfl,hI⟩
   refine zg ?_;refine zg ?_;refine StepG.of (.iface 67 (ii q)) (fun S vals wd hk hp hI=>zw ?_) (zw ?_)
   ·refine LoadV.of (hI.2 1 _ rfl) (zw ?_);exact ⟨rfl,hI⟩
   refine zg ?_;refine StepG.any (fun S vals wd hk hp hI=>?_) (zw ?_)
   ·dsimp only at hI;rw [hk] at hI;(conv=>whnf);refine ⟨fun x wx hb hw=>?_⟩;subst hb hw;(conv=>whnf);exact ⟨trivial,hI.1.alloc,hI.2.ext (xr.alloc _)⟩
   refine StepG.any (fun S vals wd hk hp hI=>?_) (zw ?_)
   ·have h4:S 14=true:=hp 14 Od;dsimp only at hI;rw [hk,h4] at hI;obtain ⟨nb,hv,h3,_⟩:=hI.1.see;rw [qm hv];(conv=>whnf);exact ⟨trivial,by show Er _ _ _ _ _ _ (S 14) true (S 18) _ _ _ _;rw [h4];exact h3,hI.2⟩
   refine zg ?_;refine StepG.of undef (fun S vals wd hk hp hI=>?_) (zw ?_)
   ·dsimp only at hI;rw [hk] at hI;(conv=>whnf);refine hI.1.store (i:=5) rfl (by simp [qp]) (qbh 3 _) rfl ?_;intro wx hfr hx;(conv=>whnf);exact ⟨rfl,hx,hI.2.other hr5 hfr⟩
   refine StepG.any (fun S vals wd hk hp hI=>?_) (zw ?_)
   ·have h4:S 15=true:=hp 15 Od;dsimp only at hI;rw [hk,h4] at hI;obtain ⟨nb,hv,h3⟩:=hI.1.see2;rw [qm hv];(conv=>whnf);exact ⟨trivial,by show Er _ _ _ _ _ _ (S 14) (S 15) true _ _ _ _;rw [h4];exact h3,hI.2⟩
   intro vals w14 hI;obtain ⟨nb,hv1,hv3,hm⟩:=hI.1.done;rw [qm hv1,qm hv3];clear hI;(conv=>whnf);refine qa (R:=fun v w'=>FndR l E v w'∧Ext w w') (zw ?_);refine LoadA.mem hm (i:=6) rfl (by simp [qp];rfl) (zw ?_);exact ⟨.inl ⟨by rw [hEf];exact hEk,P,errV nb,rfl,⟨nb,rfl,by rw [hEf];exact CellsAt.mem hm mh⟩⟩,hm.ext⟩
 obtain rfl:k=3:=by omega
 have hE3:(fE l E).2=0:=by
  rw [hfE];exact qaa fun j hj=>by simp only [if_pos (hEz j hj)]
 refine DrawV.inv (fun S w'=>Mem w w' [(vb,.cells (fnA 7 (vF (d) l (3))) 107),(pl,.cells (fnA 3 (inF (P))) 126),(sz,.cells (fnA 3 (inF (Q))) 126),(cb,curO 170 (.slice A l.length c) (vAt l 3) 0),(r5,.cells (bif S 3 then fnA 3 (inF P) else fnA 3 (inF fun _:Nat=>(0:Int))) 126)]∧∀ j,j<3→DictAt w' (d j) (qq l j)) rfl Jk ⟨hm.drew,fun j hj=>(hD j hj).ext xr.drew⟩ ?_;clear hm hD;(conv=>whnf);refine zi ?_;refine StepI.of (.agg (fnA 3 (inF P))) (fun S wd hk hp hI=>zw ?_) (zw ?_)
 ·refine LoadA.mem hI.1 (i:=1) rfl (by simp [qp];rfl) (zw ?_);exact ⟨rfl,hI⟩
 refine zi ?_;refine StepI.of undef (fun S wd hk hp hI=>?_) (zw ?_)
 ·dsimp only at hI;rw [hk] at hI;(conv=>whnf);have hx:wd.heap[r5]?=some (.cells (fnA 3 (inF fun _:Nat=>(0:Int))) 126):=hI.1.get Js;refine StoreA.row hI.1 (i:=4) rfl (by simp [qp]) (qbh 3 P) fun wx hfr _ hmx=>zw ?_;refine ⟨rfl,hmx,fun j hj=>(hI.2 j hj).other hx Od ?_ hfr⟩;intro v hv c;obtain ⟨m,hm',rfl⟩:=List.mem_map.1 (show v∈(List.range 3).map (inF fun _:Nat=>(0:Int)) from hv);intro e;cases e
 refine zi ?_;intro w12 hI;obtain ⟨hm,hD⟩:=hI;(conv=>whnf);refine qa (R:=fun v w'=>FndR l E v w'∧Ext w w') (zw ?_);refine LoadA.mem hm (i:=4) rfl (by simp [qp];rfl) (zw ?_);exact ⟨.inr ⟨hE3,vb,P,rfl,fun k hk=>hP k hk,d,hm.get mh,hD⟩,hm.ext⟩
theorem qnk (l:LB) (k:Nat):(qq l k).length≤l.length:=by
 rw [qq,List.length_take,zld];omega
theorem VocAt.cell {w:World} {b:Nat} {l:LB} (h:VocAt w b l):∃ d:Nat→Nat,(∀ k,k<3→w.cell? ⟨b,2*k,none⟩=some (.pointer (some ⟨d k,0,none⟩))∧w.cell? ⟨b,2*k+1,none⟩=some (ii (vTot l k+1:Nat))∧DictAt w (d k) (qq l k))∧
  w.cell? ⟨b,6,none⟩=some (ii (vTot l 3:Nat)):=by
 obtain ⟨d,h1,h2⟩:=h;refine ⟨d,fun k hk=>⟨?_,?_,h2 k hk⟩,?_⟩
 ·rw [qd h1,qhb 7 _ _ Oo,vF,if_neg Oo,if_pos Oo,if_pos Oo,show 2*k/2=k by omega]
 ·rw [qd h1,qhb 7 _ _ Oo,vF,if_neg Oo,if_pos Oo,if_neg Oo,show (2*k+1)/2=k by omega]
 ·rw [qd h1,qhb 7 _ _ Oo,vF,if_pos rfl]
theorem VocAt.tot {w:World} {b:Nat} {l:LB} (h:VocAt w b l) {k:Nat} (hk:k≤3):vTot l k≤12582912:=by
 obtain ⟨d,_,h2⟩:=h;have h0:=(h2 0 Oo).n;have h1:=(h2 1 Oo).n;have h3:=(h2 2 Oo).n
 rcases (show k=0∨k=1∨k=2∨k=3 by omega) with rfl|rfl|rfl|rfl<;>simp only [vTot]<;>omega
theorem qzb (b:Nat) (l:LB) (id:Nat) (w:World) (h:VocAt w b l) (hid:id≤16777216) :
  Gv Tryz.prog 99 [pp b,ii id] w fun r w'=>r=ii (if id=0∨vTot l 3<id then -1 else (qcm l id:Int))∧Ext w w':=by
 obtain ⟨d,hd,hn⟩:=h.cell;have ht:=fun k (hk:k≤3)=>h.tot hk
 refine ze Tryz.func99 Tryz.ntmps99 ?_;refine zC (fun _=>zu ?_) (fun _=>zu ?_)
 ·exact ⟨by rw [if_pos Oo],xr⟩
 refine LoadV.of hn (zw ?_);refine zt ?_;refine zC (fun _=>zw ?_) (fun _=>zw ?_)
 ·exact ⟨by rw [if_pos Oo],xr⟩
 rw [if_neg Oo];refine qr (fun i:Nat=>[(0,pp b),(1,ii id),(5,ii i)])
  (fun i w'=>i≤2∧(∀ j,i<j→j≤2→id≤vTot l j)∧w'=w) (fun i=>i) 2 ⟨rfl,rfl,rfl,trivial⟩ ⟨by omega,fun j h1 h2=>by omega,rfl⟩ ?_
 rintro i w1 ρ' ⟨i1,hj,rfl⟩;obtain ⟨_,hf,_⟩:=hd i Oo;have hti:=ht i Oo;refine zu ?_;refine LoadV.of (v:=ii (vTot l i+1:Nat)) ?_ ?_
 ·rw [← hf]
  congr 2
  rw [show tsz Tryz.prog 104=2 from by kernel_rfl];show 0+0+i*2+1=_;omega
 (conv=>whnf);refine zC (fun _=>zu ?_) (fun _=>zu ?_)
 ·have hi0:i≠0:=by
   intro e;subst e;have:vTot l 0=0:=rfl;omega
  refine ⟨i-1,⟨rfl,rfl,?_,trivial⟩,⟨by omega,fun j h1 h2=>?_,rfl⟩,by omega⟩
  ·show ii _=ii _
   congr 1
   omega
  ·by_cases e:j=i
   ·subst e;omega
   ·exact hj j Oo h2
 ·refine ⟨congrArg (Value.int .i64) ?_,xr⟩;have e:qcm l id=i:=by
   unfold qcm
   rcases (show i=0∨i=1∨i=2 by omega) with rfl|rfl|rfl
   ·have h1:=hj 1 Oo Oo;have h2:=hj 2 Oo Oo;rw [if_neg Oo,if_neg Oo]
   ·have h2:=hj 2 Oo Oo;rw [if_neg Oo,if_pos Oo]
   ·rw [if_pos Oo]
  rw [e]
def qdr (w:World):Prop:=CellsAt w 0 0 [ii 1,ii 2,ii 3]
noncomputable def qcq (l:LB) (id:Nat):Option TM:=
 if id=0 then some ⟨0,⟨#[]⟩,⟨#[]⟩,⟨#[]⟩⟩ else if vTot l 3<id then none else
  match dGet (qq l (qcm l id)) (id-(vTot l (qcm l id)+1)) with
  | some s=>qhp ((qcm l id+1:Nat):Int) s
  | none=>none
def qvc:Value:=.agg #[ii 0,.string ⟨#[]⟩,.string ⟨#[]⟩,.string ⟨#[]⟩]
noncomputable def qlv (l:LB) (id:Nat):Value:=
 match qcq l id with
 | some t=>.tuple #[qa4 t,.bool true]
 | none=>.tuple #[qvc,.bool false]
theorem qtb {l:LB} {id:Nat} (h0:id≠0) (h:id≤vTot l 3):qcm l id<3∧vTot l (qcm l id)<id∧id≤vTot l (qcm l id+1):=by
 have e0:vTot l 0=0:=rfl;unfold qcm
 split
 ·exact ⟨by omega,by assumption,h⟩
 ·split
  ·refine ⟨by omega,by assumption,?_⟩;show id≤vTot l 2;omega
  ·refine ⟨by omega,by omega,?_⟩;show id≤vTot l 1;omega
theorem qzd (b:Nat) (l:LB) (id:Nat) (w:World) (h:VocAt w b l) (hid:id≤16777216) (hM:MaxLenAt w) (hT:CellsAt w 6 0 qbr) (hK:qdr w) :
  Gv Tryz.prog 51 [pp b,ii id] w fun r w'=>r=qlv l id∧Ext w w':=by
 refine ze Tryz.func51 Tryz.ntmps51 ?_;refine znm (Mem.nil w) fun r4 w1 hm=>zw ?_;refine zcv (qzb b l id w1 (h.ext hm.ext) hid) ?_;rintro r w2 ⟨rfl,he2⟩;have hm:=hm.call he2;conv=>whnf
 by_cases h0:id=0∨vTot l 3<id
 ·rw [if_pos h0];refine zv ?_;refine zS hm 0 fun w3 hm=>zw ?_;refine qa (R:=fun v w'=>v=qlv l id∧Ext w w') (zw ?_);refine zl hm 0 ?_;refine ⟨?_,hm.ext⟩;rw [qlv,qcq]
  by_cases hi:id=0
  ·rw [if_pos hi];subst hi;rfl
  ·rw [if_neg hi,if_pos Oo];show Value.tuple #[_,.bool (decide ((id:Int)=0))]=_;rw [decide_eq_false Oo];rfl
 ·rw [if_neg h0];obtain ⟨hp3,hp1,hp2⟩:=qtb (l:=l) (id:=id) Oo Oo;have hvt:qlv l id=match dGet (qq l (qcm l id)) (id-(vTot l (qcm l id)+1)) with
   | some s=>(match qhp ((qcm l id+1:Nat):Int) s with|some t=>.tuple #[qa4 t,.bool true]|none=>.tuple #[qvc,.bool false])
   | none=>.tuple #[qvc,.bool false]:=by
   rw [qlv,qcq,if_neg Oo,if_neg Oo];cases dGet (qq l (qcm l id)) (id-(vTot l (qcm l id)+1))<;>rfl
  rw [hvt];obtain ⟨k,ek⟩:∃ k,k=qcm l id:=⟨_,rfl⟩
  rw [← ek] at hp3 hp1 hp2 ⊢;obtain ⟨d,hd,hn⟩:=(h.ext hm.ext).cell;obtain ⟨hd1,hd2,hdD⟩:=hd k hp3;have htk:=(h.tot (k:=k) Oo)
  obtain ⟨i,ei⟩:∃ i,i=id-(vTot l k+1):=⟨_,rfl⟩
  rw [← ei];refine zv ?_;have hG:∃ s ok,qma (qq l k) i=.tuple #[.string s,.bool ok]∧s.size≤262144∧((ok=true∧dGet (qq l k) i=some s.data.toList)∨(ok=false∧dGet (qq l k) i=none)):=by
   unfold qma;cases hg:dGet (qq l k) i with
   | none=>exact ⟨_,_,rfl,by decide,.inr ⟨rfl,rfl⟩⟩
   | some s=>exact ⟨⟨s.toArray⟩,_,rfl,qis hg,.inl ⟨rfl,rfl⟩⟩
  obtain ⟨s,ok,hgv,hss,hcase⟩:=hG;refine DrawV.free Jk Jk (zw ?_);(iterate 6 (refine zd ?_));apply zsd (.pointer (some ⟨d k,0,none⟩))
  ·intro wd hd';(conv=>whnf);refine LoadV.of (v:=.pointer (some ⟨d k,0,none⟩)) ?_ ?_
   ·have:=((Ext.refl w2).drew.trans hd').cell hd1;rw [← this]
    congr 2
    rw [show tsz Tryz.prog 104=2 from by kernel_rfl];show 0+0+k*2+0=_;omega
   (conv=>whnf);exact ⟨xr,rfl⟩
  (conv=>whnf);(iterate 7 (refine zd ?_));apply zsd (ii (vTot l k+1:Nat))
  ·intro wd hd';(conv=>whnf);refine LoadV.of (v:=ii (vTot l k+1:Nat)) ?_ ?_
   ·have:=((Ext.refl w2).drew.trans hd').cell hd2;rw [← this]
    congr 2
    rw [show tsz Tryz.prog 104=2 from by kernel_rfl];show 0+0+k*2+1=_;omega
   (conv=>whnf);exact ⟨xr,rfl⟩
  (conv=>whnf);apply zsd (ii (i:Nat))
  ·intro wd hd';(conv=>whnf);refine Obl.mk ⟨by omega,by omega⟩ (zw ?_);refine ⟨xr,?_⟩;show ii _=ii _
   congr 1
   omega
  (conv=>whnf);apply zsd (.tuple #[.string s,.bool ok])
  ·intro wd hd';(conv=>whnf);refine zcv (qzx (d k) (qq l k) i wd (hdD.ext ((Ext.refl w2).drew.trans hd')) Oo) ?_;rintro v w5 ⟨rfl,he⟩;exact ⟨he,hgv⟩
  (conv=>whnf);(iterate 5 (refine zd ?_));intro w3 he3;have hm:=hm.drew.call he3;clear he3;refine zu ?_;have hkk:((k+1:Nat):Int)=1∨((k+1:Nat):Int)=2∨((k+1:Nat):Int)=3:=by omega
  refine LoadV.of (v:=ii (k+1:Nat)) ?_ ?_
  ·have hKx:=fun j v (hv:([ii 1,ii 2,ii 3]:List Value)[j]?=some v)=>(CellsAt.ext hK hm.ext) j v hv
   rw [show tsz Tryz.prog 3=1 from by kernel_rfl]
   rcases (show k=0∨k=1∨k=2 by omega) with rfl|rfl|rfl
   ·exact hKx 0 _ rfl
   ·exact hKx 1 _ rfl
   ·exact hKx 2 _ rfl
  (conv=>whnf);obtain ⟨t,e,hrv,hrc⟩:∃ t e,qcn ((k+1:Nat):Int) s.data.toList=.tuple #[qa4 t,ii (e:Nat)]∧((e=0∧qhp ((k+1:Nat):Int) s.data.toList=some t)∨(e≠0∧qhp ((k+1:Nat):Int) s.data.toList=none)):=by
   unfold qcn;cases hg:qhp ((k+1:Nat):Int) s.data.toList with
   | none=>exact ⟨⟨0,⟨#[]⟩,⟨#[]⟩,⟨#[]⟩⟩,170,rfl,.inr ⟨by decide,rfl⟩⟩
   | some t=>exact ⟨t,0,rfl,.inl ⟨rfl,rfl⟩⟩
  refine zcv (qpq ((k+1:Nat):Int) hkk s hss w3 (hM.ext hm.ext) (hT.ext hm.ext)) ?_;rintro r w4 ⟨rfl,he4⟩;have hm:=hm.call he4;rw [hrv];(conv=>whnf);refine znm hm fun t9 w5 hm=>zw ?_;refine zS hm 0 fun w6 hm=>zw ?_
  rcases hcase with ⟨rfl,hg⟩|⟨rfl,hg⟩
  ·rw [hg];dsimp only
   rcases hrc with ⟨rfl,hr⟩|⟨he,hr⟩
   ·rw [hr];refine zv ?_;refine zl hm 0 ?_;refine zS hm 1 fun w7 hm=>zw ?_;refine qa (R:=fun v w'=>v=.tuple #[qa4 t,.bool true]∧Ext w w') (zw ?_);refine zl hm 1 ?_;exact ⟨rfl,hm.ext⟩
   ·rw [hr];refine zv ?_;refine zS hm 1 fun w7 hm=>zw ?_;refine qa (R:=fun v w'=>v=.tuple #[qvc,.bool false]∧Ext w w') (zw ?_);refine zl hm 1 ?_;exact ⟨rfl,hm.ext⟩
  ·rw [hg];dsimp only;refine zv ?_;refine zS hm 1 fun w7 hm=>zw ?_;refine qa (R:=fun v w'=>v=.tuple #[qvc,.bool false]∧Ext w w') (zw ?_);refine zl hm 1 ?_;exact ⟨rfl,hm.ext⟩
def zTM:TM:=⟨0,⟨#[]⟩,⟨#[]⟩,⟨#[]⟩⟩
noncomputable def uT (l:LB) (q:Nat→Nat) (j:Nat):TM:=(qcq l (q j)).getD zTM
noncomputable def q4Of (l:LB) (q:Nat→Nat):Q4:=⟨uT l q 1,uT l q 2,uT l q 3,uT l q 0⟩
def zQ:Q4:=⟨zTM,zTM,zTM,zTM⟩
def idsV (q:Nat→Nat):Value:=.agg #[ii (q 0:Nat),ii (q 1:Nat),ii (q 2:Nat),ii (q 3:Nat)]
open Classical in
noncomputable def qdo (l:LB) (q:Nat→Nat):Value:=
 if ∀ j,j<4→qcq l (q j)≠none then .tuple #[qa0 (q4Of l q),.bool true] else .tuple #[qa0 zQ,.bool false]
noncomputable def aT (l:LB) (q:Nat→Nat) (k j:Nat):TM:=if j<k then uT l q j else zTM
noncomputable def arrT (l:LB) (q:Nat→Nat) (k:Nat):Q4:=⟨aT l q k 0,aT l q k 1,aT l q k 2,aT l q k 3⟩
theorem qzi (l:LB) (q:Nat→Nat) (k:Nat) (hk:k<4):((qae (arrT l q k)).take (k*4)++encT (uT l q k)++(qae (arrT l q k)).drop (k*4+4))=qae (arrT l q (k+1)):=by
 rcases (show k=0∨k=1∨k=2∨k=3 by omega) with rfl|rfl|rfl|rfl<;>rfl
theorem qkv (b:Nat) (l:LB) (q:Nat→Nat) (w:World) (h:VocAt w b l) (hq:∀ j,j<4→q j≤16777216) (hM:MaxLenAt w) (hT:CellsAt w 6 0 qbr) (hK:qdr w) :
  Gv Tryz.prog 27 [pp b,idsV q] w fun r w'=>r=qdo l q∧Ext w w':=by
 unfold idsV;refine ze Tryz.func27 Tryz.ntmps27 ?_;refine znm (Mem.nil w) fun t3 w1 hm=>zw ?_;refine znm hm fun r4 w2 hm=>zw ?_;refine znm hm fun t6 w3 hm=>zw ?_;refine zl hm 2 ?_;obtain ⟨TB,eTB⟩:∃ TB,TB=(t3,Obj.cells #[ii (q 0:Nat),ii (q 1:Nat),ii (q 2:Nat),ii (q 3:Nat)] 82):=⟨_,rfl⟩
 have hm:Mem w w3 [(t6,.cells (qae (arrT l q 0)).toArray 137),(r4,.cells (qae zQ).toArray 53),TB]:=by rw [eTB];exact hm
 clear eTB;refine qr (fun k:Nat=>[(0,pp b),(4,pp r4),(5,.bool false),(6,pp t6),(11,.agg #[ii (q 0:Nat),ii (q 1:Nat),ii (q 2:Nat),ii (q 3:Nat)]),(12,ii k)])
  (fun k w'=>k≤4∧(∀ j,j<k→qcq l (q j)≠none)∧Mem w w' [(t6,.cells (qae (arrT l q k)).toArray 137),(r4,.cells (qae zQ).toArray 53),TB]) (fun k=>4-k) 0
  ⟨rfl,rfl,rfl,rfl,rfl,rfl,trivial⟩ ⟨by omega,fun j h=>by omega,hm⟩ ?_
 clear hm;rintro k w4 ρ' ⟨k1,hj,hm⟩;conv=>whnf
 (repeat' (first|refine zp ?_|refine zC (fun _=>zw ?_) (fun _=>zw ?_)|(refine zJ 0 ?_;(conv=>whnf))))
 ·have hqk:=hq k Oo;refine ⟨ii (q k:Nat),?_,?_⟩
  ·rw [show k*tsz Tryz.prog 3=k from by rw [show tsz Tryz.prog 3=1 from by kernel_rfl];omega]
   rcases (show k=0∨k=1∨k=2∨k=3 by omega) with rfl|rfl|rfl|rfl<;>rfl
  (conv=>whnf);refine zcv (qzd b l (q k) w4 (h.ext hm.ext) hqk (hM.ext hm.ext) (hT.ext hm.ext) (CellsAt.ext hK hm.ext)) ?_;rintro r w5 ⟨rfl,he5⟩;have hm:=hm.call he5;unfold qlv;cases hv:qcq l (q k) with
  | none=>
   dsimp only;have hV:qdo l q=.tuple #[qa0 zQ,.bool false]:=by rw [qdo,if_neg (fun h=>h k Oo hv)]
   rw [hV];unfold qvc;(conv=>whnf);refine znm hm fun t9 w6 hm=>zw ?_;refine zS hm 0 fun w7 hm=>zu ?_;refine zS hm 2 fun w8 hm=>zw ?_;refine qa (R:=fun v w'=>v=.tuple #[qa0 zQ,.bool false]∧Ext w w') (zw ?_);refine zl hm 2 ?_;exact ⟨rfl,hm.ext⟩
  | some t=>
   dsimp only;have hut:uT l q k=t:=by rw [uT,hv];rfl
   (conv=>whnf);refine znm hm fun t9 w6 hm=>zw ?_;refine zS hm 0 fun w7 hm=>zu ?_;refine zl hm 0 ?_;refine zv ?_;refine StoreA.mem hm (i:=1) rfl ?_ (by simp [Value.oneCell']) ?_
   ·rw [show tsz Tryz.prog 51=4 from by kernel_rfl];show 0+k*4+4≤16;omega
   intro w8 hm;refine zu ?_;refine ⟨k+1,⟨rfl,rfl,rfl,rfl,rfl,rfl,trivial⟩,⟨by omega,fun j hj'=>?_,?_⟩,by omega⟩
   ·by_cases e:j=k
    ·subst e;rw [hv];simp
    ·exact hj j Oo
   ·have hm:=hm.sub (List.sublist_cons_self ..);have e:=qzi l q k Oo;rw [hut] at e;rw [← e];rw [show tsz Tryz.prog 51=4 from by kernel_rfl,Nat.zero_add] at hm;exact hm
 obtain rfl:k=4:=by omega
 have hV:qdo l q=.tuple #[qa0 (q4Of l q),.bool true]:=by rw [qdo,if_pos hj]
 rw [hV];have hc:CellsAt w4 t6 0 (qae (arrT l q 4)):=CellsAt.mem hm mh;refine LoadA.cells (qag hc 0 Oo) rfl (zw ?_);refine zJ 1 ?_;(conv=>whnf);refine LoadA.cells (qag hc 1 Oo) rfl (zw ?_);refine zJ 2 ?_;(conv=>whnf);refine LoadA.cells (qag hc 2 Oo) rfl (zw ?_);refine zJ 3 ?_;(conv=>whnf);refine LoadA.cells (qag hc 3 Oo) rfl (zw ?_);refine zS hm 1 fun w8 hm=>zw ?_;refine qa (R:=fun v w'=>v=.tuple #[qa0 (q4Of l q),.bool true]∧Ext w w') (zw ?_);refine zl hm 1 ?_;exact ⟨rfl,hm.ext⟩
theorem VocAt.other {w w':World} {b x:Nat} {l:LB} {cs:Array Value} {t:TypeId} {fz:Nat × Nat} (h:VocAt w b l) (hx:w.heap[x]?=some (.cells cs t fz)) (ht:t≠188) (ht2:t≠107) (hc:∀ v∈cs.toList,∀ c:Nat,v≠.int .u8 c)
  (hw:∀ c,c≠x→w'.heap[c]?=w.heap[c]?):VocAt w' b l:=by
 obtain ⟨d,h1,h2⟩:=h;have hbx:b≠x:=by
  intro e;subst e;rw [hx] at h1
  injection h1 with h1
  injection h1 with _ h1 _
  exact ht2 h1
 exact ⟨d,by rw [hw b hbx];exact h1,fun k hk=>(h2 k hk).other hx ht hc hw⟩
theorem TreeAt.other {w w':World} {b x:Nat} {l:LB} {fz:Nat × Nat} {v:Value} (h:TreeAt w b l) (hx:w.heap[x]?=some (.cells #[v] 26 fz)) (hv:∀ (k:IntKind) (c:Int),v≠.int k c)
  (hw:∀ c,c≠x→w'.heap[c]?=w.heap[c]?):TreeAt w' b l:=by
 have hne:∀ (z:LB),∀ y∈z,∀ u∈(#[v]:Array Value).toList,(encB y)[0]?≠some u:=fun z y _ u hu e=>by
  simp only [List.mem_cons,List.not_mem_nil,or_false] at hu;subst hu;cases e;exact hv _ _ rfl
 refine ⟨fun k hk=>?_,h.n,h.wd⟩;obtain ⟨P,cp,S,cs,V,h1,h2,h3,h4,h5⟩:=h.lv k hk;refine ⟨P,cp,S,cs,V,h1.other ?_ hw,h2.other hx (hne _) (fun _ _ e=>by cases e) hw,h3.other hx (hne _) (fun _ _ e=>by cases e) hw,h4,?_⟩
 ·intro e;have h6:=h1 0 _ rfl;rw [e,qd hx] at h6;have h7:(#[v]:Array Value)[8*k+0]?=some (ii (vNum l k)):=h6
  rcases Nat.eq_zero_or_pos k with rfl|hk0
  ·exact hv _ _ (Option.some.inj h7)
  ·rw [Array.getElem?_eq_none Ys] at h7;cases h7
 ·rcases h5 with h5|⟨h5,h6,vb,h7,h8⟩
  ·exact .inl h5
  ·refine .inr ⟨h5,h6,vb,h7,?_⟩;rw [hw vb ?_]
   ·exact h8
   ·intro e;subst e;rw [hx] at h8
    injection h8 with h8
    injection h8 with _ h8 _
    exact absurd h8 Od
theorem qh8 (c5 place:Nat) {w0 w:World} {M:List (Nat × Obj)} (hm:Mem w0 w ((c5,.cells #[.nilIface] 26)::M)) :
  GvD Tryz.prog 70 [pp c5,ii place] w fun w'=>Ext w w':=by
 refine gvD Jk Tryz.func70 rfl Tryz.ntmps70 rfl (zw ?_);refine znm (Mem.nil w) fun t4 w1 hm1=>zw ?_;refine LoadV.mem (hm.call hm1.ext) (i:=0) rfl rfl (zw ?_);refine zcv (qnz _ w1) ?_;rintro r w2 ⟨rfl,rfl⟩;refine zu ?_;exact hm1.ext
def Mv (w0:World) (M:List (Nat × Obj)) (t4 c5 e:Nat) (o:Obj) (s12 s13 s15:Bool) (v12 v13:Value) (w:World):Prop:=
 (s15=false∧Er w0 ((t4,.cells #[pp e] 98)::(c5,.cells #[errV e] 26)::M) o (fun b=>pp b) errV errV s12 s13 false v12 v13 undef w)∨
 (s15=true∧s12=true∧s13=true∧∃ nb,Mem w0 w ((nb,o)::(t4,.cells #[pp e] 98)::(c5,.cells #[errV nb] 26)::M))
theorem Mv.top {w0:World} {M:List (Nat × Obj)} {t4 c5 e:Nat} {o:Obj} {s12 s13 s15:Bool} {v12 v13:Value} {w:World} (h:Mv w0 M t4 c5 e o s12 s13 s15 v12 v13 w) :
  ∃ X,Mem w0 w ((t4,.cells #[pp e] 98)::X):=by
 rcases h with ⟨_,h⟩|⟨_,_,_,nb,h⟩
 ·exact ⟨_,h.mem⟩
 ·exact ⟨_,h.sub (List.sublist_cons_self ..)⟩
theorem qh7 (c5 e p q place:Nat) {w0 w:World} {M:List (Nat × Obj)} (hm:Mem w0 w ((c5,.cells #[errV e] 26)::M)) (hc:CellsAt w e 0 [ii p,.iface 67 (ii q)]) (hG:ErrTyp w)
  (hp:p≤1152921504606846976) (hpl:place≤1152921504606846976) :
  GvD Tryz.prog 70 [pp c5,ii place] w fun w'=>∃ e',Mem w0 w' ((e',errO (p+place) q)::(c5,.cells #[errV e'] 26)::M):=by
 refine gvD Jk Tryz.func70 rfl Tryz.ntmps70 rfl (zw ?_);refine ⟨fun t4 w1 hb1 hw1=>?_⟩;have he1:Ext w w1:=by rw [hw1];exact xr.alloc _
 have hm:=hm.new hb1 hw1;have hc:=hc.ext he1;have hG:=hG.ext he1;clear hw1 hb1 he1;(conv=>whnf);refine zr hm 1 ?_;refine zcv (qny e t4 hm (i:=0) rfl hG) ?_;rintro r w2 ⟨rfl,hm',w4',he4',hfr⟩;have hne:e≠t4:=by
  intro e1;have h1:=hc 0 _ rfl;rw [e1,qd (hm.get mh)] at h1;cases h1
 have hc:=(hc.ext he4').other hne hfr;have hm:Mem w0 w2 ((t4,.cells #[pp e] 98)::(c5,.cells #[errV e] 26)::M):=hm';have hne5:e≠c5:=by
  intro e1;have h1:=hc 0 _ rfl;rw [e1,qd (hm.get (zmc mh))] at h1;cases h1
 clear hm' he4' hfr;refine zu ?_;refine DrawV.gen (fun S vals w'=>Mv w0 M t4 c5 e (errO (p+place) q) (S 12) (S 13) (S 15) (vals 12) (vals 13) w'∧CellsAt w' e 0 [ii p,.iface 67 (ii q)]) rfl Jk (fun vals=>⟨.inl ⟨rfl,Er.start hm.drew⟩,hc.ext xr.drew⟩) ?_;clear hm hc;(conv=>whnf);refine zg ?_;refine StepG.of (pp e) (fun S vals wd hk hp hI=>zw ?_) (zw ?_)
 ·obtain ⟨X,hX⟩:=hI.1.top;refine zr hX 0 ?_;exact ⟨rfl,hI⟩
 refine zg ?_;refine zg ?_;refine StepG.of (ii p) (fun S vals wd hk hp hI=>zw ?_) (zw ?_)
 ·refine LoadV.of (hI.2 0 _ rfl) (zw ?_);exact ⟨rfl,hI⟩
 refine zg ?_;refine zg ?_;refine StepG.of (pp e) (fun S vals wd hk hp hI=>zw ?_) (zw ?_)
 ·obtain ⟨X,hX⟩:=hI.1.top;refine zr hX 0 ?_;exact ⟨rfl,hI⟩
 refine zg ?_;refine zg ?_;refine StepG.of (.iface 67 (ii q)) (fun S vals wd hk hp hI=>zw ?_) (zw ?_)
 ·refine LoadV.of (hI.2 1 _ rfl) (zw ?_);exact ⟨rfl,hI⟩
 refine zg ?_;refine StepG.any (fun S vals wd hk hp hI=>?_) (zw ?_)
 ·dsimp only at hI;rw [hk] at hI;obtain ⟨⟨h15,hE⟩|⟨_,h12,_⟩,hc⟩:=hI
  ·(conv=>whnf);refine ⟨fun x wx hb hw=>?_⟩;subst hb hw;(conv=>whnf);exact ⟨trivial,.inl ⟨h15,hE.alloc⟩,hc.ext (xr.alloc _)⟩
  ·cases h12
 refine StepG.any (fun S vals wd hk hp hI=>?_) (zw ?_)
 ·have h12:S 12=true:=hp 12 Od;dsimp only at hI;rw [hk,h12] at hI;obtain ⟨⟨h15,hE⟩|⟨_,_,h13,_⟩,hc⟩:=hI
  ·obtain ⟨nb,hv,h3,_⟩:=hE.see;rw [qm hv];(conv=>whnf);refine ⟨trivial,.inl ⟨h15,?_⟩,hc⟩;show Er _ _ _ _ _ _ (S 12) true false _ _ _ _;rw [h12];exact h3
  ·cases h13
 refine zg ?_;refine StepG.of undef (fun S vals wd hk hp hI=>?_) (zw ?_)
 ·have h13:S 13=true:=hp 13 Od;dsimp only at hI;rw [hk,h13] at hI;obtain ⟨⟨_,hE⟩|⟨h15,_⟩,hc⟩:=hI
  ·rcases hE.h with ⟨_,h,_⟩|⟨h12,nb,_,hv,_,hmm⟩
   ·cases h
   ·have hv:=hv rfl;rw [qm hv];(conv=>whnf);refine StoreV.row hmm (i:=2) rfl Js rfl fun wx hfr _ hmx=>zw ?_;refine ⟨rfl,.inr ⟨rfl,h12,h13,nb,hmx⟩,hc.other hne5 hfr⟩
  ·cases h15
 intro vals w14 hI;obtain ⟨⟨h15,_⟩|⟨_,_,_,nb,hm⟩,_⟩:=hI
 ·cases h15
 (conv=>whnf);exact ⟨nb,hm.sub (.cons_cons _ (List.sublist_cons_self ..))⟩
def OkR (E:Nat × Nat) (Ok:Nat→World→Prop) (v:Value) (w:World):Prop:=
 (E.2≠0∧∃ e,v=.tuple #[.pointer none,e]∧ErrAt w e E.1 E.2)∨(E.2=0∧∃ b,v=.tuple #[pp b,.nilIface]∧Ok b w)
theorem qp7 (fb n cc place:Nat) (W:oA) (w:World) (h1:w.cell? ⟨fb,4,none⟩=some (.slice W n cc)) (h2:w.cell? ⟨fb,6,none⟩=some (ii place)) (hpl:place≤1152921504606846976) (hG:ErrTyp w) (f:FuncId) (E:Nat × Nat) (hE:E.1≤1152921504606846976) (Ok:Nat→World→Prop)
  (hOk:∀ b w w',Ok b w→Ext w w'→Ok b w') (hOx:∀ (b:Nat) (w w':World) (x:Nat) (fz:Nat × Nat),Ok b w→w.heap[x]?=some (.cells #[.nilIface] 26 fz)→(∀ c,c≠x→w'.heap[c]?=w.heap[c]?)→Ok b w')
  (hf:∀ w',Ext w w'→Gv Tryz.prog f [.slice W n cc] w' fun v w''=>OkR E Ok v w''∧Ext w' w'') :
  Gv Tryz.prog 41 [pp fb,.func (.func f) #[] #[]] w fun v w'=>OkR (if E.2=0 then E else (E.1+place,E.2)) Ok v w'∧Ext w w':=by
 refine gvW Jk Tryz.func41 rfl Tryz.ntmps41 rfl (zw ?_);refine znm (Mem.nil w) fun c5 w1 hm=>zw ?_;refine LoadV.of (v:=ii place) (hm.ext.cell h2) (zw ?_);refine LoadV.of (v:=.slice W n cc) (hm.ext.cell h1) (zw ?_);refine zcv (hf w1 hm.ext) ?_;rintro v w2 ⟨⟨h0,e,rfl,eb,rfl,hec⟩|⟨h0,b,rfl,hb⟩,he2⟩
 ·have hm:=hm.call he2;rw [if_neg h0];(conv=>whnf);refine StoreV.row hm (i:=0) rfl Js rfl ?_;intro w3 hfr _ hm3;have hne:eb≠c5:=by
   intro e1;have h1:=hec 0 _ rfl;rw [e1,qd (hm.get mh)] at h1;cases h1
  have hec:=CellsAt.other hec hne hfr;(conv=>whnf);refine LeaveV.call ((qh7 c5 eb E.1 E.2 place hm3 hec (hG.ext hm3.ext) hE hpl).mono fun w4 ⟨e',hm4⟩=>?_);(conv=>whnf);refine qa (R:=fun v w'=>OkR (E.1+place,E.2) Ok v w'∧Ext w w') (zw ?_);refine zr hm4 1 ?_;exact ⟨.inl ⟨h0,errV e',rfl,e',rfl,CellsAt.mem hm4 mh⟩,hm4.ext⟩
 ·have hm:=hm.call he2;rw [if_pos h0];(conv=>whnf);refine StoreV.row hm (i:=0) rfl Js rfl ?_;intro w3 hfr _ hm3;have hb:=hOx b w2 w3 c5 (0,0) hb (hm.get mh) hfr;(conv=>whnf);refine LeaveV.call ((qh8 c5 place hm3).mono fun w4 he4=>?_);have hm4:=hm3.call he4;(conv=>whnf);refine qa (R:=fun v w'=>OkR E Ok v w'∧Ext w w') (zw ?_);refine zr hm4 0 ?_;exact ⟨.inr ⟨h0,b,rfl,hOk _ _ _ hb he4⟩,hm4.ext⟩
theorem qtx (fb n cc place:Nat) (W:oA) (w:World) (h1:w.cell? ⟨fb,5,none⟩=some (.slice W n cc)) (h2:w.cell? ⟨fb,7,none⟩=some (ii place)) (hpl:place≤1152921504606846976) (hG:ErrTyp w) (f:FuncId) (E:Nat × Nat) (hE:E.1≤1152921504606846976) (Ok:Nat→World→Prop)
  (hOk:∀ b w w',Ok b w→Ext w w'→Ok b w') (hOx:∀ (b:Nat) (w w':World) (x:Nat) (fz:Nat × Nat),Ok b w→w.heap[x]?=some (.cells #[.nilIface] 26 fz)→(∀ c,c≠x→w'.heap[c]?=w.heap[c]?)→Ok b w')
  (hf:∀ w',Ext w w'→Gv Tryz.prog f [.slice W n cc] w' fun v w''=>OkR E Ok v w''∧Ext w' w'') :
  Gv Tryz.prog 42 [pp fb,.func (.func f) #[] #[]] w fun v w'=>OkR (if E.2=0 then E else (E.1+place,E.2)) Ok v w'∧Ext w w':=by
 refine gvW Jk Tryz.func42 rfl Tryz.ntmps42 rfl (zw ?_);refine znm (Mem.nil w) fun c5 w1 hm=>zw ?_;refine LoadV.of (v:=ii place) (hm.ext.cell h2) (zw ?_);refine LoadV.of (v:=.slice W n cc) (hm.ext.cell h1) (zw ?_);refine zcv (hf w1 hm.ext) ?_;rintro v w2 ⟨⟨h0,e,rfl,eb,rfl,hec⟩|⟨h0,b,rfl,hb⟩,he2⟩
 ·have hm:=hm.call he2;rw [if_neg h0];(conv=>whnf);refine StoreV.row hm (i:=0) rfl Js rfl ?_;intro w3 hfr _ hm3;have hne:eb≠c5:=by
   intro e1;have h1:=hec 0 _ rfl;rw [e1,qd (hm.get mh)] at h1;cases h1
  have hec:=CellsAt.other hec hne hfr;(conv=>whnf);refine LeaveV.call ((qh7 c5 eb E.1 E.2 place hm3 hec (hG.ext hm3.ext) hE hpl).mono fun w4 ⟨e',hm4⟩=>?_);(conv=>whnf);refine qa (R:=fun v w'=>OkR (E.1+place,E.2) Ok v w'∧Ext w w') (zw ?_);refine zr hm4 1 ?_;exact ⟨.inl ⟨h0,errV e',rfl,e',rfl,CellsAt.mem hm4 mh⟩,hm4.ext⟩
 ·have hm:=hm.call he2;rw [if_pos h0];(conv=>whnf);refine StoreV.row hm (i:=0) rfl Js rfl ?_;intro w3 hfr _ hm3;have hb:=hOx b w2 w3 c5 (0,0) hb (hm.get mh) hfr;(conv=>whnf);refine LeaveV.call ((qh8 c5 place hm3).mono fun w4 he4=>?_);have hm4:=hm3.call he4;(conv=>whnf);refine qa (R:=fun v w'=>OkR E Ok v w'∧Ext w w') (zw ?_);refine zr hm4 0 ?_;exact ⟨.inr ⟨h0,b,rfl,hOk _ _ _ hb he4⟩,hm4.ext⟩
def fpE (l:LB) (E1 E2:Nat × Nat):Nat × Nat:=if E1.2≠0 then (E1.1+28,E1.2) else if E2.2≠0 then (E2.1+(32+hN l 4),E2.2) else (0,0)
def PfR (l:LB) (E1 E2:Nat × Nat) (Ok1 Ok2:Nat→World→Prop) (v:Value) (w:World):Prop:=
 ((fpE l E1 E2).2≠0∧∃ e,v=.tuple #[.pointer none,e]∧ErrAt w e (fpE l E1 E2).1 (fpE l E1 E2).2)∨
 ((fpE l E1 E2).2=0∧∃ b vb tb,v=.tuple #[pp b,.nilIface]∧
  w.heap[b]?=some (.cells #[ii (hN l 2),ii (hN l 3),ii (hN l 4),ii (hN l 5),pp vb,pp tb] 72)∧Ok1 vb w∧Ok2 tb w)
theorem qug (l:LB) (A B:oA) (w:World) (hG:ErrTyp w) (f1 f2:FuncId) (E1 E2:Nat × Nat) (hE1:E1.1≤1152921504606846976) (hE2:E2.1≤1152921504606846976) (Ok1 Ok2:Nat→World→Prop)
  (hOk1:∀ b w w',Ok1 b w→Ext w w'→Ok1 b w') (hOx1:∀ (b:Nat) (w w':World) (x:Nat) (fz:Nat × Nat),Ok1 b w→w.heap[x]?=some (.cells #[.nilIface] 26 fz)→(∀ c,c≠x→w'.heap[c]?=w.heap[c]?)→Ok1 b w')
  (hOk2:∀ b w w',Ok2 b w→Ext w w'→Ok2 b w') (hOx2:∀ (b:Nat) (w w':World) (x:Nat) (fz:Nat × Nat),Ok2 b w→w.heap[x]?=some (.cells #[.nilIface] 26 fz)→(∀ c,c≠x→w'.heap[c]?=w.heap[c]?)→Ok2 b w')
  (hf1:∀ w',Ext w w'→Gv Tryz.prog f1 [.slice A (hN l 4) (hN l 4)] w' fun v w''=>OkR E1 Ok1 v w''∧Ext w' w'')
  (hf2:∀ w',Ext w w'→Gv Tryz.prog f2 [.slice B (hN l 5) (hN l 5)] w' fun v w''=>OkR E2 Ok2 v w''∧Ext w' w'') :
  Gv Tryz.prog 23 [.agg (okF l A B).toArray,.func (.func f1) #[] #[],.func (.func f2) #[] #[]] w fun v w'=>PfR l E1 E2 Ok1 Ok2 v w'∧Ext w w':=by
 have h4:=q0b l 4;refine ze Tryz.func23 Tryz.ntmps23 ?_;refine znm (Mem.nil w) ?_;intro fb w1 hm;have hg:=hm.get mh;(conv=>whnf);refine zcv (qp7 fb (hN l 4) (hN l 4) 28 A w1 (by rw [qd hg];rfl) (by rw [qd hg];rfl) Oo (hG.ext hm.ext) f1 E1 hE1 Ok1 hOk1 hOx1 (fun w' he=>hf1 w' (hm.ext.trans he))) ?_;rintro v w2 ⟨⟨h0,e,rfl,eb,rfl,hec⟩|⟨h0,vb,rfl,hv⟩,he2⟩
 ·have hz:E1.2≠0:=by
   intro h;rw [if_pos h] at h0;exact h0 h
  rw [if_neg hz] at hec h0;have hE:fpE l E1 E2=(E1.1+28,E1.2):=by rw [fpE,if_pos hz]
  refine zu ?_;exact ⟨.inl ⟨by rw [hE];exact hz,_,rfl,eb,rfl,by rw [hE];exact hec⟩,hm.ext.trans he2⟩
 ·have hz:E1.2=0:=by
   refine Decidable.byContradiction fun h=>?_;rw [if_neg h] at h0;exact h h0
  have hm:=hm.call he2;have hg:=hm.get mh;refine zu ?_;refine zcv (qtx fb (hN l 5) (hN l 5) (32+hN l 4) B w2 (by rw [qd hg];rfl) (by rw [qd hg];rfl) Oo (hG.ext hm.ext) f2 E2 hE2 Ok2 hOk2 hOx2 (fun w' he=>hf2 w' (hm.ext.trans he))) ?_;rintro v w3 ⟨⟨h0,e,rfl,eb,rfl,hec⟩|⟨h0,tb,rfl,ht⟩,he3⟩
  ·have hz2:E2.2≠0:=by
    intro h;rw [if_pos h] at h0;exact h0 h
   rw [if_neg hz2] at hec h0;have hE:fpE l E1 E2=(E2.1+(32+hN l 4),E2.2):=by rw [fpE,if_neg Oo,if_pos hz2]
   refine zu ?_;exact ⟨.inl ⟨by rw [hE];exact hz2,_,rfl,eb,rfl,by rw [hE];exact hec⟩,hm.ext.trans he3⟩
  ·have hz2:E2.2=0:=by
    refine Decidable.byContradiction fun h=>?_;rw [if_neg h] at h0;exact h h0
   have hE:(fpE l E1 E2).2=0:=by rw [fpE,if_neg Oo,if_neg Oo]
   have hm:=hm.call he3;have hv:=hOk1 _ _ _ hv he3;refine zu ?_;have hcs:CellsAt w3 fb 0 [ii (hN l 2:Nat),ii (hN l 3:Nat),ii (hN l 4:Nat),ii (hN l 5:Nat)]:=fun k v hv=>by
    have hk:k<4:=(List.getElem?_eq_some_iff.1 hv).1;refine CellsAt.mem hm mh k v ?_
    rcases (show k=0∨k=1∨k=2∨k=3 by omega) with rfl|rfl|rfl|rfl<;>exact hv
   refine LoadA.cells hcs rfl (zw ?_);refine ⟨fun b w4 hb hw=>?_⟩;have he4:Ext w3 w4:=by rw [hw];exact xr.alloc _
   have hm4:=hm.new hb hw;(conv=>whnf);exact ⟨.inr ⟨hE,b,vb,tb,rfl,hm4.get mh,hOk1 _ _ _ hv he4,hOk2 _ _ _ ht he4⟩,hm4.ext⟩
structure PackAt (w:World) (b:Nat) (l:LB):Prop where
 h:∃ vb tb,w.heap[b]?=some (.cells #[ii (hN l 2),ii (hN l 3),ii (hN l 4),ii (hN l 5),pp vb,pp tb] 72)∧VocAt w vb (ql l)∧TreeAt w tb (qg l)
theorem PackAt.ext {w w':World} {b:Nat} {l:LB} (h:PackAt w b l) (he:Ext w w'):PackAt w' b l:=by
 obtain ⟨vb,tb,h1,h2,h3⟩:=h;exact ⟨vb,tb,he.get h1,h2.ext he,h3.ext he⟩
theorem qe2 {l:LB} (h:(qw l).2=0):l.length=hN l 4+hN l 5+36∧l.length≤67108864:=by
 unfold qw at h
 split at h
 ·cases h
 split at h
 ·cases h
 split at h
 ·cases h
 split at h
 ·cases h
 split at h
 ·cases h
 split at h
 ·cases h
 split at h
 ·cases h
 omega
theorem qhn {l:LB} (h:(qw l).2=0):(ql l).length=hN l 4:=by
 have:=qe2 h;rw [ql,List.length_take,zld];omega
theorem qjz {l:LB} (h:(qw l).2=0):(qg l).length=hN l 5:=by
 have:=qe2 h;rw [qg,List.length_take,zld];omega
theorem qdw {f:Nat→Nat × Nat} {B:Nat}:∀ n,(∀ k,k<n→(f k).1≤B)→(errF f n).1≤B
 | 0,_=>Nat.zero_le _
 | n+1,h=>by
  rw [errF]
  split
  ·exact qdw n fun k hk=>h k Oo
  ·exact h n Oo
theorem q6i (l:LB):(sE l).1≤l.length+201326592:=by
 unfold sE
 split
 ·exact Nat.le_trans (qdw 3 fun k _=>qe5 l k _) (Nat.le_add_right _ _)
 ·rename_i h0
  have hn:∀ k,k<3→vNum l k≤67108864:=fun k hk=>qcg (qay (f:=vsF l) (n:=3) Oo k hk)
  have e0:qk l 0=vAt l 3:=rfl;have e1:qk l 1=qk l 0+vNum l 0:=rfl;have e2:qk l 2=qk l 1+vNum l 1:=rfl;have e3:qk l 3=qk l 2+vNum l 2:=rfl;have h1:=hn 0 Oo;have h2:=hn 1 Oo;have h3:=hn 2 Oo;have h4:=qb5 l 3
  split
  ·show l.length≤_;omega
  ·split
   ·show qk l 3≤_;omega
   ·exact Nat.zero_le _
theorem q6m (l:LB):(tE l).1≤l.length:=by
 have h1:∀ k,(tcF l k).1≤l.length:=fun k=>by
  have:=qe5 l k 1048576;have:=qb5 l k;unfold tcF
  split
  ·assumption
  ·split
   ·assumption
   ·exact Nat.zero_le _
 have h2:∀ k,(tvF l k).1≤l.length:=fun k=>by
  unfold tvF
  split
  ·exact Nat.le_refl _
  ·split
   ·show tvAt l k≤_;omega
   ·split
    ·exact Nat.le_refl _
    ·exact Nat.zero_le _
 unfold tE
 split
 ·exact qdw 4 fun k _=>h1 k
 ·split
  ·exact qdw 4 fun k _=>h2 k
  ·split
   ·show tvAt l 4≤_;omega
   ·exact Nat.zero_le _
def pS1 (l:LB):Prop:=(crcL (ql l)).toNat=leN ((l.drop (28+hN l 4)).take 4)
def pS2 (l:LB):Prop:=(crcL (qg l)).toNat=leN ((l.drop (32+hN l 4+hN l 5)).take 4)
def qul (l:LB) (i:Nat):Prop:=(∀ j,j<4→qcq (ql l) (tNum (qg l) i j)≠none)∧qck (q4Of (ql l) (tNum (qg l) i))=0
def qm2 (l:LB):Prop:=∀ i,i<vNum (qg l) 3→qul l i
def qm3 (l:LB):Prop:=∀ id,1≤id→id≤vTot (ql l) 3→∃ i,i<vNum (qg l) 3∧∃ j,j<4∧tNum (qg l) i j=id
open Classical in
noncomputable def poE (l:LB):Nat × Nat:=
 if (qw l).2≠0 then qw l else if ¬ pS1 l then (28+hN l 4,30) else if ¬ pS2 l then (32+hN l 4+hN l 5,30)
 else if (vwE (ql l)).2≠0 then (28+(vwE (ql l)).1,(vwE (ql l)).2) else if (toE (qg l)).2≠0 then (32+hN l 4+(toE (qg l)).1,(toE (qg l)).2)
 else if vNum (qg l) 3≠hN l 2 then (8,180) else if vTot (ql l) 3≠hN l 3 then (12,170)
 else if ¬ qm2 l then (32+hN l 4,180) else if ¬ qm3 l then (28,170) else (0,0)
section
variable {l:LB}
theorem qm6 (h:(qw l).2≠0):poE l=qw l:=by rw [poE,if_pos h]
theorem qxy (h:(qw l).2=0) (h1:¬ pS1 l):poE l=(28+hN l 4,30):=by rw [poE,if_neg Oo,if_pos h1]
theorem qxz (h:(qw l).2=0) (h1:pS1 l) (h2:¬ pS2 l):poE l=(32+hN l 4+hN l 5,30):=by rw [poE,if_neg Oo,if_neg (fun g=>g h1),if_pos h2]
theorem q3x (h:(qw l).2=0) (h1:pS1 l) (h2:pS2 l) (h3:(vwE (ql l)).2≠0):poE l=(28+(vwE (ql l)).1,(vwE (ql l)).2):=by
 rw [poE,if_neg Oo,if_neg (fun g=>g h1),if_neg (fun g=>g h2),if_pos h3]
theorem q3w (h:(qw l).2=0) (h1:pS1 l) (h2:pS2 l) (h3:(vwE (ql l)).2=0) (h4:(toE (qg l)).2≠0):poE l=(32+hN l 4+(toE (qg l)).1,(toE (qg l)).2):=by
 rw [poE,if_neg Oo,if_neg (fun g=>g h1),if_neg (fun g=>g h2),if_neg Oo,if_pos h4]
theorem q3v (h:(qw l).2=0) (h1:pS1 l) (h2:pS2 l) (h3:(vwE (ql l)).2=0) (h4:(toE (qg l)).2=0) (h5:vNum (qg l) 3≠hN l 2):poE l=(8,180):=by
 rw [poE,if_neg Oo,if_neg (fun g=>g h1),if_neg (fun g=>g h2),if_neg Oo,if_neg Oo,if_pos h5]
theorem q3u (h:(qw l).2=0) (h1:pS1 l) (h2:pS2 l) (h3:(vwE (ql l)).2=0) (h4:(toE (qg l)).2=0) (h5:vNum (qg l) 3=hN l 2) (h6:vTot (ql l) 3≠hN l 3):poE l=(12,170):=by
 rw [poE,if_neg Oo,if_neg (fun g=>g h1),if_neg (fun g=>g h2),if_neg Oo,if_neg Oo,if_neg Oo,if_pos h6]
theorem qqm (h:(qw l).2=0) (h1:pS1 l) (h2:pS2 l) (h3:(vwE (ql l)).2=0) (h4:(toE (qg l)).2=0) (h5:vNum (qg l) 3=hN l 2) (h6:vTot (ql l) 3=hN l 3) (h7:¬ qm2 l):poE l=(32+hN l 4,180):=by
 rw [poE,if_neg Oo,if_neg (fun g=>g h1),if_neg (fun g=>g h2),if_neg Oo,if_neg Oo,if_neg Oo,if_neg Oo,if_pos h7]
theorem qho (h:(qw l).2=0) (h1:pS1 l) (h2:pS2 l) (h3:(vwE (ql l)).2=0) (h4:(toE (qg l)).2=0) (h5:vNum (qg l) 3=hN l 2) (h6:vTot (ql l) 3=hN l 3) (h7:qm2 l) (h8:¬ qm3 l):poE l=(28,170):=by
 rw [poE,if_neg Oo,if_neg (fun g=>g h1),if_neg (fun g=>g h2),if_neg Oo,if_neg Oo,if_neg Oo,if_neg Oo,if_neg (fun g=>g h7),if_pos h8]
theorem qxx (h:(qw l).2=0) (h1:pS1 l) (h2:pS2 l) (h3:(vwE (ql l)).2=0) (h4:(toE (qg l)).2=0) (h5:vNum (qg l) 3=hN l 2) (h6:vTot (ql l) 3=hN l 3) (h7:qm2 l) (h8:qm3 l):poE l=(0,0):=by
 rw [poE,if_neg Oo,if_neg (fun g=>g h1),if_neg (fun g=>g h2),if_neg Oo,if_neg Oo,if_neg Oo,if_neg Oo,if_neg (fun g=>g h7),if_neg (fun g=>g h8)]
theorem qm7 (h:(poE l).2=0):(qw l).2=0∧pS1 l∧pS2 l∧(vwE (ql l)).2=0∧(toE (qg l)).2=0∧vNum (qg l) 3=hN l 2∧vTot (ql l) 3=hN l 3∧qm2 l∧qm3 l:=by
 by_cases h0:(qw l).2=0
 case neg=>rw [qm6 h0] at h;exact absurd h h0
 by_cases h1:pS1 l
 case neg=>rw [qxy h0 h1] at h;exact absurd (show (30:Nat)=0 from h) Od
 by_cases h2:pS2 l
 case neg=>rw [qxz h0 h1 h2] at h;exact absurd (show (30:Nat)=0 from h) Od
 by_cases h3:(vwE (ql l)).2=0
 case neg=>rw [q3x h0 h1 h2 h3] at h;dsimp only at h;exact absurd h h3
 by_cases h4:(toE (qg l)).2=0
 case neg=>rw [q3w h0 h1 h2 h3 h4] at h;dsimp only at h;exact absurd h h4
 by_cases h5:vNum (qg l) 3=hN l 2
 case neg=>rw [q3v h0 h1 h2 h3 h4 h5] at h;exact absurd (show (180:Nat)=0 from h) Od
 by_cases h6:vTot (ql l) 3=hN l 3
 case neg=>rw [q3u h0 h1 h2 h3 h4 h5 h6] at h;exact absurd (show (170:Nat)=0 from h) Od
 by_cases h7:qm2 l
 case neg=>rw [qqm h0 h1 h2 h3 h4 h5 h6 h7] at h;exact absurd (show (180:Nat)=0 from h) Od
 by_cases h8:qm3 l
 case neg=>rw [qho h0 h1 h2 h3 h4 h5 h6 h7 h8] at h;exact absurd (show (170:Nat)=0 from h) Od
 exact ⟨h0,h1,h2,h3,h4,h5,h6,h7,h8⟩
end
theorem qyk {A B:ByteArray} {p m:LB} (hA:A.data.toList=fixL (crcL p).toNat 4) (hB:B.data.toList=m) (hm:m.length=4):seq A B=decide ((crcL p).toNat=leN m):=by
 rw [Bool.eq_iff_iff,decide_eq_true_iff,qx];have h:=q16 (n:=(crcL p).toNat) hm (crcL p).isLt
 constructor
 ·rintro rfl;exact (h.1 (hA.symm.trans hB)).symm
 ·intro e;exact qb6 (by rw [hA,hB];exact h.2 e.symm)
structure Ca (w0:World) (L:List (Nat × Obj)) (Φ:Value→Value→List (Nat × Obj)→Prop) (o:Obj) (mk:Value→Value→Obj) (sel:Value→Value→Value) (s t c m p q a:Bool) (vs vc vm vp vq va:Value) (w:World):Prop where
 h:(c=false∧m=false∧p=false∧q=false∧a=false∧t=false∧∃ b:Nat,(s=true→vs=pp b)∧Mem w0 w ((bif s then [(b,o)] else [])++L))∨
  (c=true∧∃ (b:Nat) (x y:Value) (R:List (Nat × Obj)),vc=.tuple #[x,y]∧(m=true→vm=.tuple #[x,y])∧(p=true→vp=x)∧(q=true→vq=y)∧(a=true→va=sel x y)∧(s=true→vs=pp b)∧(s=false→t=false)∧Φ x y R∧
   Mem w0 w ((bif s then [(b,bif t then mk x y else o)] else [])++(L++R)))
section
variable {w0 w w':World} {L:List (Nat × Obj)} {Φ:Value→Value→List (Nat × Obj)→Prop} {o:Obj} {mk:Value→Value→Obj} {sel:Value→Value→Value} {s t c m p q a:Bool} {vs vc vm vp vq va:Value}
theorem Ca.start (h:Mem w0 w L):Ca w0 L Φ o mk sel false false false false false false false vs vc vm vp vq va w:=⟨.inl ⟨rfl,rfl,rfl,rfl,rfl,rfl,0,fun h=>(by cases h),h⟩⟩
theorem Ca.mem (h:Ca w0 L Φ o mk sel s t c m p q a vs vc vm vp vq va w):Mem w0 w L:=by
 rcases h.h with ⟨_,_,_,_,_,_,b,_,hm⟩|⟨_,b,x,y,R,_,_,_,_,_,_,_,_,hm⟩
 ·exact hm.sub (List.sublist_append_right _ _)
 ·exact hm.sub ((List.sublist_append_left _ _).trans (List.sublist_append_right _ _))
theorem Ca.called (h:Ca w0 L Φ o mk sel s t false m p q a vs vc vm vp vq va w) {x y:Value} {R:List (Nat × Obj)} (hm:Mem w w' R) (hx:Φ x y R):Ca w0 L Φ o mk sel s t true m p q a vs (.tuple #[x,y]) vm vp vq va w':=by
 rcases h.h with ⟨_,h1,h2,h3,h4,h5,b,h6,h7⟩|⟨h,_⟩
 ·subst h1 h2 h3 h4 h5;refine ⟨.inr ⟨rfl,b,x,y,R,rfl,fun h=>(by cases h),fun h=>(by cases h),fun h=>(by cases h),fun h=>(by cases h),h6,fun _=>rfl,hx,?_⟩⟩;have:=qsj h7 hm
  rwa [List.append_assoc] at this
 ·cases h
theorem Ca.made (h:Ca w0 L Φ o mk sel false t c m p q a vs vc vm vp vq va w):Ca w0 L Φ o mk sel true t c m p q a (.pointer (some ⟨w.heap.size,0,none⟩)) vc vm vp vq va (w.alloc o):=by
 rcases h.h with ⟨h0,h1,h2,h3,h4,h5,b,h6,h7⟩|⟨h0,b,x,y,R,h1,h2,h3,h4,h5,h6,h7,h8,h9⟩
 ·exact ⟨.inl ⟨h0,h1,h2,h3,h4,h5,w.heap.size,fun _=>rfl,h7.new rfl rfl⟩⟩
 ·refine ⟨.inr ⟨h0,w.heap.size,x,y,R,h1,h2,h3,h4,h5,fun _=>rfl,fun h=>(by cases h),h8,?_⟩⟩;rw [h7 rfl];exact h9.new rfl rfl
theorem Ca.moved (h:Ca w0 L Φ o mk sel s t true false p q a vs vc vm vp vq va w):∃ x y,vc=.tuple #[x,y]∧Ca w0 L Φ o mk sel s t true true p q a vs (.tuple #[x,y]) (.tuple #[x,y]) vp vq va w:=by
 rcases h.h with ⟨h,_⟩|⟨h0,b,x,y,R,h1,h2,h3,h4,h5,h6,h7,h8,h9⟩
 ·cases h
 ·exact ⟨x,y,h1,⟨.inr ⟨rfl,b,x,y,R,rfl,fun _=>rfl,h3,h4,h5,h6,h7,h8,h9⟩⟩⟩
theorem Ca.fst (h:Ca w0 L Φ o mk sel s t c true false q a vs vc vm vp vq va w):∃ x y R,vm=.tuple #[x,y]∧Φ x y R∧Ca w0 L Φ o mk sel s t c true true q a vs vc (.tuple #[x,y]) x vq va w:=by
 rcases h.h with ⟨_,h,_⟩|⟨h0,b,x,y,R,h1,h2,h3,h4,h5,h6,h7,h8,h9⟩
 ·cases h
 ·exact ⟨x,y,R,h2 rfl,h8,⟨.inr ⟨h0,b,x,y,R,h1,fun _=>rfl,fun _=>rfl,h4,h5,h6,h7,h8,h9⟩⟩⟩
theorem Ca.snd (h:Ca w0 L Φ o mk sel s t c true p false a vs vc vm vp vq va w):∃ x y R,vm=.tuple #[x,y]∧Φ x y R∧Ca w0 L Φ o mk sel s t c true p true a vs vc (.tuple #[x,y]) vp y va w:=by
 rcases h.h with ⟨_,h,_⟩|⟨h0,b,x,y,R,h1,h2,h3,h4,h5,h6,h7,h8,h9⟩
 ·cases h
 ·exact ⟨x,y,R,h2 rfl,h8,⟨.inr ⟨h0,b,x,y,R,h1,fun _=>rfl,h3,fun _=>rfl,h5,h6,h7,h8,h9⟩⟩⟩
theorem Ca.see (h:Ca w0 L Φ o mk sel s t c m true q a vs vc vm vp vq va w):∃ x y R,vp=x∧Φ x y R:=by
 rcases h.h with ⟨_,_,h,_⟩|⟨h0,b,x,y,R,h1,h2,h3,h4,h5,h6,h7,h8,h9⟩
 ·cases h
 ·exact ⟨x,y,R,h3 rfl,h8⟩
theorem Ca.see2 (h:Ca w0 L Φ o mk sel s t c m p true a vs vc vm vp vq va w):∃ x y R,vq=y∧Φ x y R:=by
 rcases h.h with ⟨_,_,_,h,_⟩|⟨h0,b,x,y,R,h1,h2,h3,h4,h5,h6,h7,h8,h9⟩
 ·cases h
 ·exact ⟨x,y,R,h4 rfl,h8⟩
theorem Ca.keepF (hs:∀ x y,sel x y=x) (h:Ca w0 L Φ o mk sel s t c m true q false vs vc vm vp vq va w):Ca w0 L Φ o mk sel s t c m true q true vs vc vm vp vq vp w:=by
 rcases h.h with ⟨_,_,h,_⟩|⟨h0,b,x,y,R,h1,h2,h3,h4,h5,h6,h7,h8,h9⟩
 ·cases h
 ·exact ⟨.inr ⟨h0,b,x,y,R,h1,h2,h3,h4,fun _=>by rw [hs];exact h3 rfl,h6,h7,h8,h9⟩⟩
theorem Ca.keepS (hs:∀ x y,sel x y=y) (h:Ca w0 L Φ o mk sel s t c m p true false vs vc vm vp vq va w):Ca w0 L Φ o mk sel s t c m p true true vs vc vm vp vq vq w:=by
 rcases h.h with ⟨_,_,_,h,_⟩|⟨h0,b,x,y,R,h1,h2,h3,h4,h5,h6,h7,h8,h9⟩
 ·cases h
 ·exact ⟨.inr ⟨h0,b,x,y,R,h1,h2,h3,h4,fun _=>by rw [hs];exact h4 rfl,h6,h7,h8,h9⟩⟩
theorem Ca.put' (h:Ca w0 L Φ o mk sel true false c m p true a vs vc vm vp vq va w):∃ (b:Nat) (x y:Value) (R:List (Nat × Obj)),vs=pp b∧(p=true→vp=x)∧(true=true→vq=y)∧Φ x y R∧∃ M,Mem w0 w ((b,o)::M)∧
  ∀ {w' us},Mem w0 w' ((b,mk x y)::M)→us=pp b→Ca w0 L Φ o mk sel true true c m p true a us vc vm vp vq va w':=by
 rcases h.h with ⟨_,_,_,h,_⟩|⟨h0,b,x,y,R,h1,h2,h3,h4,h5,h6,h7,h8,h9⟩
 ·cases h
 ·exact ⟨b,x,y,R,h6 rfl,h3,h4,h8,_,h9,fun hm hu=>⟨.inr ⟨h0,b,x,y,R,h1,h2,h3,h4,h5,fun _=>hu,fun h=>(by cases h),h8,hm⟩⟩⟩
theorem Ca.put1 (h:Ca w0 L Φ o mk sel true false c m true q a vs vc vm vp vq va w):∃ (b:Nat) (x y:Value) (R:List (Nat × Obj)),vs=pp b∧vp=x∧Φ x y R∧∃ M,Mem w0 w ((b,o)::M)∧
  ∀ {w' us},Mem w0 w' ((b,mk x y)::M)→us=pp b→Ca w0 L Φ o mk sel true true c m true q a us vc vm vp vq va w':=by
 rcases h.h with ⟨_,_,h,_⟩|⟨h0,b,x,y,R,h1,h2,h3,h4,h5,h6,h7,h8,h9⟩
 ·cases h
 ·exact ⟨b,x,y,R,h6 rfl,h3 rfl,h8,_,h9,fun hm hu=>⟨.inr ⟨h0,b,x,y,R,h1,h2,h3,h4,h5,fun _=>hu,fun h=>(by cases h),h8,hm⟩⟩⟩
theorem Ca.done (h:Ca w0 L Φ o mk sel true true true true true true true vs vc vm vp vq va w):∃ (b:Nat) (x y:Value) (R:List (Nat × Obj)),vs=pp b∧va=sel x y∧vp=x∧vq=y∧Φ x y R∧Mem w0 w ((b,mk x y)::(L++R)):=by
 rcases h.h with ⟨h,_⟩|⟨h0,b,x,y,R,h1,h2,h3,h4,h5,h6,h7,h8,h9⟩
 ·cases h
 ·exact ⟨b,x,y,R,h6 rfl,h5 rfl,h3 rfl,h4 rfl,h8,h9⟩
end
def mkO (t:TypeId):Value→Obj
 | .agg a=>.cells a t
 | _=>.cells #[] t
def DRow (m:LB) (x:Value) (R:List (Nat × Obj)):Prop:=
 ∃ ts:List ByteArray,(∀ i t,ts[i]?=some t→dGet m i=some t.data.toList)∧ts.length=dN m∧∃ B c,x=.slice B (dN m) c∧RowB 9 (ts.map Value.string) R x
theorem DRow.keep {m:LB} {x:Value} {R R':List (Nat × Obj)} (h:DRow m x R) (hk:∀ y∈R,y∈R'):DRow m x R':=by
 obtain ⟨ts,h1,h2,B,c,h3,h4⟩:=h;exact ⟨ts,h1,h2,B,c,h3,h4.keep fun y hy _=>hk y hy⟩
def PhiD (m:LB) (x y:Value) (R:List (Nat × Obj)):Prop:=
 ((doE m).2≠0∧(doE m).1≤m.length∧x=.slice none 0 0∧y=.agg #[ii (doE m).1,ii (doE m).2])∨((doE m).2=0∧y=.agg #[ii 0,ii 0]∧DRow m x R)
theorem PhiD.slice {m:LB} {x y:Value} {R:List (Nat × Obj)} (h:PhiD m x y R):∃ A n c,x=.slice A n c:=by
 rcases h with ⟨_,_,rfl,_⟩|⟨_,_,ts,_,_,B,c,rfl,_⟩
 ·exact ⟨_,_,_,rfl⟩
 ·exact ⟨_,_,_,rfl⟩
theorem PhiD.agg {m:LB} {x y:Value} {R:List (Nat × Obj)} (h:PhiD m x y R):∃ a e:Int,y=.agg #[ii a,ii e]:=by
 rcases h with ⟨_,_,_,rfl⟩|⟨_,rfl,_⟩
 ·exact ⟨_,_,rfl⟩
 ·exact ⟨_,_,rfl⟩
theorem DvR.phi {m:LB} {w w':World} {v:Value} (h:DvR m w.heap.size v w') (he:Ext w w'):∃ x y R,v=.tuple #[x,y]∧Mem w w' R∧PhiD m x y R:=by
 rcases h with ⟨h1,h2,rfl⟩|⟨h0,ts,h1,h2,B,c,rfl,ho⟩
 ·exact ⟨_,_,[],rfl,(Mem.nil w).call he,.inl ⟨h1,h2,rfl,rfl⟩⟩
 ·obtain ⟨R,hm,hB⟩:=V.Mem.row (Mem.nil w) he ho znr;exact ⟨_,_,R,rfl,hm,.inr ⟨h0,rfl,ts,h1,h2,B,c,rfl,hB⟩⟩
def PhiR (kind:Int) (s:ByteArray) (x y:Value) (R:List (Nat × Obj)):Prop:=
 R=[]∧((∃ e:Int,e≠0∧(∀ t,¬ ReadsAs kind s.data.toList t)∧x=.agg #[ii 0,.string ⟨#[]⟩,.string ⟨#[]⟩,.string ⟨#[]⟩]∧y=ii e)∨∃ t,ReadsAs kind s.data.toList t∧TermOk t∧x=qa4 t∧y=ii 0)
theorem RdR.phi {kind:Int} {s:ByteArray} {v:Value} (h:RdR kind s v):∃ x y,v=.tuple #[x,y]∧PhiR kind s x y []:=by
 rcases h with ⟨e,he,hn,rfl⟩|⟨t,h1,h2,rfl⟩
 ·exact ⟨_,_,rfl,rfl,.inl ⟨e,he,hn,rfl,rfl⟩⟩
 ·exact ⟨_,_,rfl,rfl,.inr ⟨t,h1,h2,rfl,rfl⟩⟩
theorem PhiR.agg {kind:Int} {s:ByteArray} {x y:Value} {R:List (Nat × Obj)} (h:PhiR kind s x y R):∃ (k:Int) (a b c:ByteArray),x=.agg #[ii k,.string a,.string b,.string c]:=by
 rcases h.2 with ⟨e,_,_,rfl,_⟩|⟨t,_,_,rfl,_⟩
 ·exact ⟨_,_,_,_,rfl⟩
 ·exact ⟨_,_,_,_,rfl⟩
theorem PhiR.int {kind:Int} {s:ByteArray} {x y:Value} {R:List (Nat × Obj)} (h:PhiR kind s x y R):∃ e:Int,y=ii e:=by
 rcases h.2 with ⟨e,_,_,_,rfl⟩|⟨t,_,_,_,rfl⟩
 ·exact ⟨_,rfl⟩
 ·exact ⟨_,rfl⟩
structure VTm (l:LB) (k j:Nat) (ts:List TM):Prop where
 len:ts.length=vTot l k+j
 ok:∀ t∈ts,TermOk t
 at_:∀ k' j',(k'<k∧j'<dN (qq l k'))∨(k'=k∧j'<j)→∃ s t,dGet (qq l k') j'=some s∧s.length≤262144∧ReadsAs ((k'+1:Nat):Int) s t∧ts[vTot l k'+j']?=some t
theorem VTm.one {l:LB} {k j:Nat} {ts:List TM} (h:VTm l k j ts) {s:LB} {t:TM} (ht:TermOk t) (hd:dGet (qq l k) j=some s) (hs:s.length≤262144) (hr:ReadsAs ((k+1:Nat):Int) s t):VTm l k (j+1) (ts++[t]):=by
 refine ⟨by rw [zla,h.len];rfl,fun u hu=>?_,fun k' j' hk=>?_⟩
 ·rcases List.mem_append.1 hu with hu|hu
  ·exact h.ok u hu
  ·rw [List.mem_singleton.1 hu];exact ht
 ·by_cases e:k'=k∧j'=j
  ·obtain ⟨rfl,rfl⟩:=e;exact ⟨s,t,hd,hs,hr,by rw [List.getElem?_append_right (by rw [h.len];omega),h.len,Nat.sub_self];rfl⟩
  ·obtain ⟨s',t',h1,h2,h3,h4⟩:=h.at_ k' j' Oo;refine ⟨s',t',h1,h2,h3,?_⟩;rw [List.getElem?_append_left (List.getElem?_eq_some_iff.1 h4).1];exact h4
theorem VTm.next {l:LB} {k:Nat} {ts:List TM} (h:VTm l k (dN (qq l k)) ts):VTm l (k+1) 0 ts:=
 ⟨h.len,h.ok,fun k' j' hk=>h.at_ k' j' (by
  rcases hk with ⟨h1,h2⟩|⟨_,h2⟩
  ·by_cases e:k'=k
   ·subst e;exact .inr ⟨rfl,h2⟩
   ·exact .inl ⟨by omega,h2⟩
  ·omega)⟩
theorem qio:Tryz.prog.underlying 34=some (.slice 51):=Tryz.underlying34
theorem trmI:Tryz.prog.info? 51=some ((Tryz.prog.info? 51).get Jk):=(Option.some_get _).symm
theorem trmZ:((Tryz.prog.info? 51).get Jk).zero=some ((((Tryz.prog.info? 51).get Jk).zero).get Jk):=(Option.some_get _).symm
theorem qsa {f:Nat→Nat × Nat} {B:Nat}:∀ n,(∀ k,k<n→(f k).1≤B)→(errF f n).1≤B
 | 0,_=>Nat.zero_le _
 | n+1,h=>by
  rw [errF]
  split
  ·exact qsa n fun k hk=>h k Oo
  ·exact h n Oo
theorem q6h (l:LB):(sE l).1≤l.length+201326592:=by
 unfold sE
 split
 ·exact Nat.le_trans (qsa 3 fun k _=>qe5 l k _) (Nat.le_add_right _ _)
 ·rename_i h0
  have hn:∀ k,k<3→vNum l k≤67108864:=fun k hk=>qcg (qay (f:=vsF l) (n:=3) Oo k hk)
  have e0:qk l 0=vAt l 3:=rfl;have e1:qk l 1=qk l 0+vNum l 0:=rfl;have e2:qk l 2=qk l 1+vNum l 1:=rfl;have e3:qk l 3=qk l 2+vNum l 2:=rfl;have h1:=hn 0 Oo;have h2:=hn 1 Oo;have h3:=hn 2 Oo;have h4:=qb5 l 3
  split
  ·show l.length≤_;omega
  ·split
   ·show qk l 3≤_;omega
   ·exact Nat.zero_le _
def VoW (l:LB) (base:Nat) (v:Value) (w:World):Prop:=
 ((vwE l).2≠0∧(vwE l).1≤1125899906842624∧v=.tuple #[.slice none 0 0,fltV (vwE l).1 (vwE l).2])∨
 ((vwE l).2=0∧∃ ts,VTm l 3 0 ts∧∃ B c,v=.tuple #[.slice B (vTot l 3) c,fltV 0 0]∧w.ownsRow base 51 4 (.slice B (vTot l 3) c) (vTot l 3) (ts.map encT).flatten)
theorem VoW.err {l:LB} {base:Nat} {w:World} {a e:Nat} {x y:Int} (h:vwE l=(a,e)) (h0:e≠0) (hb:a≤1125899906842624) (h1:x=a) (h2:y=e):VoW l base (.tuple #[.slice none 0 0,.agg #[ii x,ii y]]) w:=by
 subst h1 h2;refine .inl ?_;rw [h];exact ⟨h0,hb,rfl⟩
theorem VTm.vr {l:LB} {k j:Nat} {ts:List TM} (h:VTm l k j ts):∀ k',k'<k→(vrF l k').2=0:=fun k' hk=>q2n fun j' hj=>by
 rintro ⟨s,h1,h2⟩;obtain ⟨s',t,g1,_,g2,_⟩:=h.at_ k' j' (.inl ⟨hk,hj⟩);rw [h1] at g1;cases g1;exact h2 t g2
theorem qrm (l:LB) (A:oA) (c:Nat) (w:World) (hS:SlAt encB 1 w A l) (hc:l.length≤c) (hl:l.length≤70368744177664) :
  Gv Tryz.prog 31 [.slice A l.length c] w fun v w'=>VoW l w.heap.size v w'∧Ext w w':=by
 refine ze Tryz.func31 Tryz.ntmps31 ?_;refine znm (Mem.nil w) fun r3 w1 hm=>zw ?_;refine zcv (qq5 l A c w1 (hS.ext hm.ext) hc hl) ?_;rintro r w4 ⟨⟨hE,P,rfl⟩|⟨hE,P,hP,rfl⟩,he4⟩
 all_goals
  have hm:=hm.call he4;(conv=>whnf);refine znm hm fun sb w5 hm=>zw ?_;refine znm hm fun fb w6 hm=>zw ?_;refine StoreA.all hm (i:=1) rfl (by simp [qp]) (qbh 4 P) fun w7 hm=>zw ?_;refine zS hm 0 fun w8 hm=>zw ?_;refine zr hm 0 ?_;refine zv ?_
 ·have hm:Mem w w8 [(fb,.cells #[ii (sE l).1,ii (sE l).2] 36),(sb,.cells (fnA 4 (inF P)) 81),(r3,.cells #[ii 0,ii 0] 36)]:=hm;refine DrawV.inv (fun S w'=>Mem w w' [(fb,.cells #[ii (sE l).1,ii (sE l).2] 36),(sb,.cells (fnA 4 (inF P)) 81),(r3,.cells (bif S 2 then #[ii (sE l).1,ii (sE l).2] else #[ii 0,ii 0]) 36)]) rfl Jk hm.drew ?_;clear hm;(conv=>whnf);refine StepI.of (.agg #[ii (sE l).1,ii (sE l).2]) (fun S wd hk hp hI=>zw ?_) (zw ?_)
  ·refine zl hI 0 ?_;exact ⟨rfl,hI⟩
  refine zi ?_;refine StepI.of undef (fun S wd hk hp hI=>?_) (zw ?_)
  ·dsimp only at hI;rw [hk] at hI;(conv=>whnf);refine zS hI 2 fun wx hmx=>zw ?_;exact ⟨rfl,hmx⟩
  intro wz hm;(conv=>whnf);refine qa (R:=fun v w'=>VoW l w.heap.size v w'∧Ext w w') (zw ?_);refine zl hm 2 ?_;exact ⟨.err (a:=(sE l).1) (e:=(sE l).2) (q56 hE) hE (by have:=q6h l;omega) rfl rfl,hm.ext⟩
 refine znm hm ?_;intro dv w9 hm;have hm:Mem w w9 ((dv,.cells (fnA 3 (fun _=>.slice none 0 0)) 147)::(fb,.cells #[ii 0,ii 0] 36)::(sb,.cells (fnA 4 (inF P)) 81)::(r3,.cells #[ii 0,ii 0] 36)::[]):=hm;obtain ⟨hvb,hpl⟩:=qyi hE;(conv=>whnf);refine qr (fun k:Nat=>[(0,.slice A l.length c),(3,pp r3),(4,pp sb),(6,pp dv),(7,ii k)])
  (fun k w'=>k≤3∧∃ G R,Mem w w' ((dv,.cells (fnA 3 (G)) 147)::(fb,.cells #[ii 0,ii 0] 36)::(sb,.cells (fnA 4 (inF P)) 81)::(r3,.cells #[ii 0,ii 0] 36)::R)∧∀ m,m<k→(doE (qq l m)).2=0∧DRow (qq l m) (G m) R) (fun k=>3-k) 0
  ⟨rfl,rfl,rfl,rfl,rfl,trivial⟩ ⟨by omega,_,[],hm,fun m h=>by omega⟩ ?_
 clear hm;rintro k w10 ρ' ⟨k1,G,R,hm,hG⟩;(conv=>whnf);refine zC (fun _=>zw ?_) (fun _=>zw ?_)
 ·have hPk:=hP k Oo;have hPk1:=hP (k+1) Oo;have hsp:qk l (k+1)=qk l k+vNum l k:=rfl;have hple:=qdm hpl (k:=k) Oo;have hdl:=qo5 hpl (k:=k) Oo;have hvk:=hvb k Oo;obtain ⟨y,ey⟩:∃ y,y=qk l k:=⟨_,rfl⟩
  obtain ⟨z,ez⟩:∃ z,z=vNum l k:=⟨_,rfl⟩
  obtain ⟨B,eB⟩:∃ B,B=(if c=y then A else A.map (·.add (y*1))):=⟨_,rfl⟩
  have hB:SlAt encB 1 w B (qq l k):=by
   rw [eB,qq,← ey];have:=hS.cut (lo:=y) (hi:=y+z) (m:=c) Oo Oo Oo rfl
   rwa [show y+z-y=vNum l k by omega] at this
  rw [hsp,← ey,← ez] at hPk1;rw [← ey] at hPk hple;rw [← ez] at hple hvk;have hdo:=fun w' (hB':SlAt encB 1 w' B (qq l k))=>(qwg (qq l k) B (c-y) w' hB' Oo Oo).mono fun r w'' ⟨h1,h2⟩=>h1.phi h2
  rw [hdl] at hdo;refine DrawV.gen (fun S vals w'=>Ca w ((dv,.cells (fnA 3 (G)) 147)::(fb,.cells #[ii 0,ii 0] 36)::(sb,.cells (fnA 4 (inF P)) 81)::(r3,.cells #[ii 0,ii 0] 36)::R) (PhiD (qq l k)) (.cells #[ii 0,ii 0] 148) (fun _ y=>mkO 148 y) (fun x _=>x) (S 13) (S 15) (S 9) (S 10) (S 11) (S 12) (S 14) (vals 13) (vals 9) (vals 10) (vals 11) (vals 12) (vals 14) w') rfl Jk (fun vals=>Ca.start hm.drew) ?_;clear hm;(conv=>whnf);refine zg ?_;refine zg ?_;refine StepG.of (.pointer (some ⟨sb,0+(k)*tsz Tryz.prog 3,none⟩)) (fun S vals wd hk hp hI=>zw ?_) (zw ?_)
  ·refine IdxV.at_ (k) Oo Oo (zw ?_);exact ⟨rfl,hI⟩
  refine StepG.of (ii (y:Nat)) (fun S vals wd hk hp hI=>zw ?_) (zw ?_)
  ·refine LoadV.fim (x:=((y:Nat):Int)) hI.mem (b:=sb) (F:=P) (n:=4) (t:=81) Js (k) (by rw [show tsz Tryz.prog 3=1 from by kernel_rfl];omega) Oo hPk (zw ?_);exact ⟨rfl,hI⟩
  refine zg ?_;refine zg ?_;refine StepG.of (.pointer (some ⟨sb,0+(k+1)*tsz Tryz.prog 3,none⟩)) (fun S vals wd hk hp hI=>zw ?_) (zw ?_)
  ·refine IdxV.at_ (k+1) Oo Oo (zw ?_);exact ⟨rfl,hI⟩
  refine StepG.of (ii (y+z:Nat)) (fun S vals wd hk hp hI=>zw ?_) (zw ?_)
  ·refine LoadV.fim (x:=((y+z:Nat):Int)) hI.mem (b:=sb) (F:=P) (n:=4) (t:=81) Js (k+1) (by rw [show tsz Tryz.prog 3=1 from by kernel_rfl];omega) Oo hPk1 (zw ?_);exact ⟨rfl,hI⟩
  refine StepG.of (.slice B (vNum l k) (c-y)) (fun S vals wd hk hp hI=>zw ?_) (zw ?_)
  ·refine SliceV.to y (y+z) c rfl rfl rfl Oo Oo znr (fun h=>by cases h) ?_;rw [show tsz Tryz.prog 5=1 from by kernel_rfl,← eB,show y+z-y=vNum l k by omega];(conv=>whnf);exact ⟨rfl,hI⟩
  refine StepG.any (fun S vals wd hk hp hI=>?_) (zw ?_)
  ·dsimp only at hI;rw [hk] at hI;(conv=>whnf);refine zcv (hdo wd (hB.ext hI.mem.ext)) ?_;rintro v w9 ⟨x,u,R',rfl,hmR,hΦ⟩;exact ⟨trivial,hI.called hmR hΦ⟩
  refine StepG.any (fun S vals wd hk hp hI=>?_) (zw ?_)
  ·dsimp only at hI;have h9:S 9=true:=hp 9 Od;rw [hk,h9] at hI;obtain ⟨x,u,hv,hK⟩:=hI.moved;rw [qm hv];(conv=>whnf);exact ⟨trivial,by show Ca _ _ _ _ _ _ (S 13) (S 15) (S 9) true (S 11) (S 12) (S 14) _ _ _ _ _ _ _;rw [h9];exact hK⟩
  refine StepG.any (fun S vals wd hk hp hI=>?_) (zw ?_)
  ·dsimp only at hI;have h10:S 10=true:=hp 10 Od;rw [hk,h10] at hI;obtain ⟨x,u,R',hv,hΦ,hK⟩:=hI.fst;obtain ⟨A1,n1,c1,rfl⟩:=hΦ.slice;rw [qm hv];(conv=>whnf);exact ⟨trivial,by show Ca _ _ _ _ _ _ (S 13) (S 15) (S 9) (S 10) true (S 12) (S 14) _ _ _ _ _ _ _;rw [h10];exact hK⟩
  refine StepG.any (fun S vals wd hk hp hI=>?_) (zw ?_)
  ·dsimp only at hI;have h10:S 10=true:=hp 10 Od;rw [hk,h10] at hI;obtain ⟨x,u,R',hv,hΦ,hK⟩:=hI.snd;obtain ⟨a,e,rfl⟩:=hΦ.agg;rw [qm hv];(conv=>whnf);exact ⟨trivial,by show Ca _ _ _ _ _ _ (S 13) (S 15) (S 9) (S 10) (S 11) true (S 14) _ _ _ _ _ _ _;rw [h10];exact hK⟩
  refine StepG.any (fun S vals wd hk hp hI=>?_) (zw ?_)
  ·dsimp only at hI;rw [hk] at hI;(conv=>whnf);refine ⟨fun x wx hb hw=>?_⟩;subst hb hw;(conv=>whnf);exact ⟨trivial,hI.made⟩
  refine StepG.any (fun S vals wd hk hp hI=>?_) (zw ?_)
  ·dsimp only at hI;have h11:S 11=true:=hp 11 Od;rw [hk,h11] at hI;obtain ⟨x,u,R',hx,hΦ⟩:=hI.see;obtain ⟨A1,n1,c1,rfl⟩:=hΦ.slice;rw [hx] at hI;rw [qm hx];(conv=>whnf);exact ⟨trivial,by show Ca _ _ _ _ _ _ (S 13) (S 15) (S 9) (S 10) (S 11) (S 12) true _ _ _ _ _ _ _;rw [h11];exact hI.keepF (fun _ _=>rfl)⟩
  refine StepG.of undef (fun S vals wd hk hp hI=>?_) (zw ?_)
  ·dsimp only at hI;have h12:S 12=true:=hp 12 Od;have h13:S 13=true:=hp 13 Od;rw [hk,h12,h13] at hI;obtain ⟨x,u,R',hu,hΦ⟩:=hI.see2;obtain ⟨a,e,rfl⟩:=hΦ.agg;rw [hu] at hI;obtain ⟨b,x2,u2,R2,hv,h0,h1,hΦ2,M,hmM,hK⟩:=hI.put';obtain rfl:=h1 rfl;rw [qm hv,qm hu];(conv=>whnf);refine zS hmM 0 fun wx hmx=>zw ?_;exact ⟨rfl,by show Ca _ _ _ _ _ _ (S 13) true (S 9) (S 10) (S 11) (S 12) (S 14) _ _ _ _ _ _ _;rw [h12,h13];exact hK hmx rfl⟩
  intro vals w12 hI;obtain ⟨t9,x,u,R',hv1,hv2,hv3,hv4,hΦ,hm⟩:=hI.done;replace hv2:vals 14=x:=hv2;obtain ⟨A1,n1,c1,ex⟩:=hΦ.slice;rw [ex] at hv2;rw [qm hv1,qm hv2];clear hI hv1 hv2 hv3 hv4
  rcases hΦ with ⟨he0,ha2,_,rfl⟩|⟨hD0,rfl,hDR⟩
  ·have hvw:=q6r hE (fun m h=>(hG m h).1) Oo he0;rw [← ey] at hvw;obtain ⟨a,ea⟩:∃ a:Nat,a=(doE (qq l k)).1:=⟨_,rfl⟩
   obtain ⟨e,ee⟩:∃ e:Nat,e=(doE (qq l k)).2:=⟨_,rfl⟩
   rw [← ea,← ee] at hvw hm;rw [← ea] at ha2;rw [← ee] at he0;have he0i:(e:Int)≠0:=by omega
   have hm:Mem w w12 ((t9,.cells #[ii a,ii e] 148)::(dv,.cells (fnA 3 (G)) 147)::(fb,.cells #[ii 0,ii 0] 36)::(sb,.cells (fnA 4 (inF P)) 81)::(r3,.cells #[ii 0,ii 0] 36)::(R++R')):=by rw [← List.cons_append,← List.cons_append,← List.cons_append,← List.cons_append];exact hm
   (conv=>whnf);refine zr hm 0 ?_;refine zv ?_;refine DrawV.inv (fun S w'=>Mem w w' ((t9,.cells #[ii a,ii e] 148)::(dv,.cells (fnA 3 (G)) 147)::(fb,.cells #[ii 0,ii 0] 36)::(sb,.cells (fnA 4 (inF P)) 81)::(r3,.cells (bif S 10 then #[ii ((y:Int)+a),ii e] else #[ii 0,ii 0]) 36)::(R++R'))) rfl Jk hm.drew ?_;clear hm;(conv=>whnf);refine zi ?_;refine StepI.of (.pointer (some ⟨sb,0+k*tsz Tryz.prog 3,none⟩)) (fun S wd hk hp hI=>zw ?_) (zw ?_)
   ·refine IdxV.at_ k Oo Oo (zw ?_);exact ⟨rfl,hI⟩
   refine StepI.of (ii (y:Nat)) (fun S wd hk hp hI=>zw ?_) (zw ?_)
   ·refine LoadV.fim (x:=((y:Nat):Int)) hI (b:=sb) (F:=P) (n:=4) (t:=81) Js k (by rw [show tsz Tryz.prog 3=1 from by kernel_rfl];omega) Oo hPk (zw ?_);exact ⟨rfl,hI⟩
   refine zi ?_;refine StepI.of (ii a) (fun S wd hk hp hI=>zw ?_) (zw ?_)
   ·refine zr hI 0 ?_;exact ⟨rfl,hI⟩
   refine zi ?_;refine zi ?_;refine StepI.of (ii e) (fun S wd hk hp hI=>zw ?_) (zw ?_)
   ·refine zr hI 0 ?_;exact ⟨rfl,hI⟩
   refine zi ?_;refine zi ?_;refine StepI.of undef (fun S wd hk hp hI=>?_) (zw ?_)
   ·dsimp only at hI;rw [hk] at hI;(conv=>whnf);refine zS hI 4 fun wx hmx=>zw ?_;exact ⟨rfl,hmx⟩
   intro wz hm;(conv=>whnf);refine qa (R:=fun v w'=>VoW l w.heap.size v w'∧Ext w w') (zw ?_);refine zl hm 4 ?_;exact ⟨.err hvw he0 Oo Oo rfl,hm.ext⟩
  ·have hm:Mem w w12 ((t9,.cells #[ii 0,ii 0] 148)::(dv,.cells (fnA 3 (G)) 147)::(fb,.cells #[ii 0,ii 0] 36)::(sb,.cells (fnA 4 (inF P)) 81)::(r3,.cells #[ii 0,ii 0] 36)::(R++R')):=by rw [← List.cons_append,← List.cons_append,← List.cons_append,← List.cons_append];exact hm
   (conv=>whnf);refine zr hm 0 ?_;refine zv ?_;refine StoreV.fn (v:=.slice A1 n1 c1) hm (i:=1) rfl k (by rw [show tsz Tryz.prog 146=1 from by kernel_rfl];omega) Oo rfl ?_;intro w13 hm;have hm:=hm.sub (List.sublist_cons_self ..);refine zu ?_;refine ⟨k+1,⟨rfl,rfl,rfl,rfl,rfl,trivial⟩,⟨by omega,_,_,hm,fun m h=>?_⟩,by omega⟩
   by_cases e:m=k
   ·subst e;rw [qhx,← ex];exact ⟨hD0,hDR.keep fun y hy=>List.mem_append_right _ hy⟩
   ·rw [qaf _ _ _ _ e];exact ⟨(hG m Oo).1,(hG m Oo).2.keep fun y hy=>List.mem_append_left _ hy⟩
 obtain rfl:k=3:=by omega
 refine zcv (qp9 w10) ?_;rintro r w11 ⟨rfl,he11⟩;have hm:=hm.call he11;(conv=>whnf);refine znm hm fun kb w12 hm=>zw ?_;refine zS hm 0 fun w13 hm=>zw ?_;refine qr (fun x:Nat × List TM × oA × Nat=>[(3,pp r3),(4,pp sb),(6,pp dv),(10,.slice x.2.2.1 x.2.1.length x.2.2.2),(11,pp kb),(12,ii x.1)])
  (fun x w'=>x.1≤3∧VTm l x.1 0 x.2.1∧Rw w w' (.slice x.2.2.1 x.2.1.length x.2.2.2) 51 4 x.2.1.length (x.2.1.map encT).flatten ((kb,.cells (fnA 3 (inF fun i:Nat=>((i+1:Nat):Int))) 126)::(dv,.cells (fnA 3 (G)) 147)::(fb,.cells #[ii 0,ii 0] 36)::(sb,.cells (fnA 4 (inF P)) 81)::(r3,.cells #[ii 0,ii 0] 36)::R)) (fun x=>3-x.1) (0,[],none,0)
  ⟨rfl,rfl,rfl,rfl,rfl,rfl,trivial⟩ ⟨by simp,⟨rfl,fun t h=>(by cases h),fun k j h=>Oo⟩,Rw.nil hm⟩ ?_
 clear hm;rintro ⟨k,ts,B,cc⟩ w14 ρ2 ⟨k2,hV,hR⟩;dsimp only at k2 hV hR ⊢;(conv=>whnf);refine zC (fun _=>zw ?_) (fun _=>zw ?_)
 ·refine qr (fun x:Nat × List TM × oA × Nat=>[(3,pp r3),(4,pp sb),(6,pp dv),(10,.slice x.2.2.1 x.2.1.length x.2.2.2),(11,pp kb),(12,ii k),(13,ii x.1)])
   (fun x w'=>x.1≤dN (qq l k)∧VTm l k x.1 x.2.1∧Rw w w' (.slice x.2.2.1 x.2.1.length x.2.2.2) 51 4 x.2.1.length (x.2.1.map encT).flatten ((kb,.cells (fnA 3 (inF fun i:Nat=>((i+1:Nat):Int))) 126)::(dv,.cells (fnA 3 (G)) 147)::(fb,.cells #[ii 0,ii 0] 36)::(sb,.cells (fnA 4 (inF P)) 81)::(r3,.cells #[ii 0,ii 0] 36)::R)) (fun x=>dN (qq l k)-x.1) (0,ts,B,cc)
   ⟨rfl,rfl,rfl,rfl,rfl,rfl,rfl,trivial⟩ ⟨by simp,hV,hR⟩ ?_
  clear hV hR;rintro ⟨j,ts,B,cc⟩ w15 ρ3 ⟨j1,hV,hR⟩;dsimp only at j1 hV hR ⊢;obtain ⟨hD0,es,hes,hel,EB,ec,eG,hEB⟩:=hG k Oo;obtain ⟨hd1,hd2,_⟩:=qv9 (qe1 hD0).1;refine zu ?_;refine LoadV.fn (v:=.slice EB (dN (qq l k)) ec) hR.mem (i:=1) rfl k (by rw [show tsz Tryz.prog 146=1 from by kernel_rfl];omega) Oo eG (zw ?_);refine zC (fun _=>zu ?_) (fun _=>zu ?_)
  ·have hjl:j<es.length:=by omega
   have hsz:es[j].size≤262144:=qis (hes j _ (zge hjl));have hT:SlAt V.zeS 1 w15 EB es:=V.RowB.slf (f:=Value.string) (fun _=>rfl) (by rw [eG] at hEB;exact hEB) hR.mem (fun x hx=>by simp [hx]);obtain ⟨gb,go,hEa,hcl⟩:=hT.at_ (by intro e;rw [e] at hjl;simp at hjl);have hcell:w15.cell? ⟨gb,go+j*1,none⟩=some (.string es[j]):=by
    have:=hcl j _ (zge hjl) 0 _ rfl
    rwa [Nat.add_zero] at this
   subst hEa;refine DrawV.gen (fun S vals w'=>Ca w15.drew [] (PhiR ((k+1:Nat):Int) es[j]) (.cells #[ii 0,.string ⟨#[]⟩,.string ⟨#[]⟩,.string ⟨#[]⟩] 51) (fun x _=>mkO 51 x) (fun _ y=>y) (S 13) (S 14) (S 9) (S 10) (S 11) (S 12) (S 15) (vals 13) (vals 9) (vals 10) (vals 11) (vals 12) (vals 15) w') rfl Jk (fun vals=>Ca.start (Mem.nil _)) (zw ?_);refine zg ?_;refine StepG.of (.pointer (some ⟨kb,0+k*tsz Tryz.prog 3,none⟩)) (fun S vals wd hk hp hI=>zw ?_) (zw ?_)
   ·refine IdxV.at_ k Oo Oo (zw ?_);exact ⟨rfl,hI⟩
   refine StepG.of (ii (k+1:Nat)) (fun S vals wd hk hp hI=>zw ?_) (zw ?_)
   ·refine LoadV.fim (x:=((k+1:Nat):Int)) (hR.mem.drew.call hI.mem.ext) (b:=kb) (F:=fun i:Nat=>((i+1:Nat):Int)) (n:=3) (t:=126) Js k (by rw [show tsz Tryz.prog 3=1 from by kernel_rfl];omega) Oo rfl (zw ?_);exact ⟨rfl,hI⟩
   refine zg ?_;refine StepG.of (.pointer (some ⟨dv,0+k*tsz Tryz.prog 146,none⟩)) (fun S vals wd hk hp hI=>zw ?_) (zw ?_)
   ·refine IdxV.at_ k Oo Oo (zw ?_);exact ⟨rfl,hI⟩
   refine StepG.of (.slice (some ⟨gb,go,none⟩) (dN (qq l k)) ec) (fun S vals wd hk hp hI=>zw ?_) (zw ?_)
   ·refine LoadV.fn (v:=.slice (some ⟨gb,go,none⟩) (dN (qq l k)) ec) (hR.mem.drew.call hI.mem.ext) (i:=1) rfl k (by rw [show tsz Tryz.prog 146=1 from by kernel_rfl];omega) Oo eG (zw ?_);exact ⟨rfl,hI⟩
   refine zg ?_;refine StepG.of (.pointer (some ⟨gb,go+j*tsz Tryz.prog 9,none⟩)) (fun S vals wd hk hp hI=>zw ?_) (zw ?_)
   ·refine ⟨⟨gb,go,j,rfl,by omega,by omega,?_⟩⟩;(conv=>whnf);exact ⟨rfl,hI⟩
   refine StepG.of (.string es[j]) (fun S vals wd hk hp hI=>zw ?_) (zw ?_)
   ·refine LoadV.of (Ext.cell (Ext.trans xr.drew hI.mem.ext) hcell) (zw ?_);exact ⟨rfl,hI⟩
   refine StepG.any (fun S vals wd hk hp hI=>?_) (zw ?_)
   ·dsimp only at hI;rw [hk] at hI;(conv=>whnf);refine zcv (quu ((k+1:Nat):Int) Oo es[j] hsz wd) ?_;rintro v w9 ⟨hrd,h9⟩;obtain ⟨x,u,rfl,hΦ⟩:=hrd.phi;exact ⟨trivial,hI.called ((Mem.nil wd).call h9) hΦ⟩
   refine StepG.any (fun S vals wd hk hp hI=>?_) (zw ?_)
   ·dsimp only at hI;have h9:S 9=true:=hp 9 Od;rw [hk,h9] at hI;obtain ⟨x,u,hv,hK⟩:=hI.moved;rw [qm hv];(conv=>whnf);exact ⟨trivial,by show Ca _ _ _ _ _ _ (S 13) (S 14) (S 9) true (S 11) (S 12) (S 15) _ _ _ _ _ _ _;rw [h9];exact hK⟩
   refine StepG.any (fun S vals wd hk hp hI=>?_) (zw ?_)
   ·dsimp only at hI;have h10:S 10=true:=hp 10 Od;rw [hk,h10] at hI;obtain ⟨x,u,R',hv,hΦ,hK⟩:=hI.fst;obtain ⟨tk,ta,tb,tc,rfl⟩:=hΦ.agg;rw [qm hv];(conv=>whnf);exact ⟨trivial,by show Ca _ _ _ _ _ _ (S 13) (S 14) (S 9) (S 10) true (S 12) (S 15) _ _ _ _ _ _ _;rw [h10];exact hK⟩
   refine StepG.any (fun S vals wd hk hp hI=>?_) (zw ?_)
   ·dsimp only at hI;have h10:S 10=true:=hp 10 Od;rw [hk,h10] at hI;obtain ⟨x,u,R',hv,hΦ,hK⟩:=hI.snd;obtain ⟨e,rfl⟩:=hΦ.int;rw [qm hv];(conv=>whnf);exact ⟨trivial,by show Ca _ _ _ _ _ _ (S 13) (S 14) (S 9) (S 10) (S 11) true (S 15) _ _ _ _ _ _ _;rw [h10];exact hK⟩
   refine StepG.any (fun S vals wd hk hp hI=>?_) (zw ?_)
   ·dsimp only at hI;rw [hk] at hI;(conv=>whnf);refine ⟨fun x wx hb hw=>?_⟩;subst hb hw;(conv=>whnf);exact ⟨trivial,hI.made⟩
   refine StepG.of undef (fun S vals wd hk hp hI=>?_) (zw ?_)
   ·dsimp only at hI;have h11:S 11=true:=hp 11 Od;have h13:S 13=true:=hp 13 Od;rw [hk,h11,h13] at hI;obtain ⟨x,u,R',hx,hΦ⟩:=hI.see;obtain ⟨tk,ta,tb,tc,rfl⟩:=hΦ.agg;rw [hx] at hI;obtain ⟨b,x2,u2,R2,hv,h0,hΦ2,M,hmM,hK⟩:=hI.put1;subst h0;rw [qm hv,qm hx];(conv=>whnf);refine zS hmM 0 fun wx hmx=>zw ?_;exact ⟨rfl,by show Ca _ _ _ _ _ _ (S 13) true (S 9) (S 10) (S 11) (S 12) (S 15) _ _ _ _ _ _ _;rw [h11,h13];exact hK hmx rfl⟩
   refine StepG.any (fun S vals wd hk hp hI=>?_) (zw ?_)
   ·dsimp only at hI;have h12:S 12=true:=hp 12 Od;rw [hk,h12] at hI;obtain ⟨x,u,R',hx,hΦ⟩:=hI.see2;obtain ⟨e,rfl⟩:=hΦ.int;rw [hx] at hI;rw [qm hx];(conv=>whnf);exact ⟨trivial,by show Ca _ _ _ _ _ _ (S 13) (S 14) (S 9) (S 10) (S 11) (S 12) true _ _ _ _ _ _ _;rw [h12];exact hI.keepS (fun _ _=>rfl)⟩
   intro vals w16 hI;obtain ⟨tb,x,u,R',hv1,hv2,hv3,hv4,hΦ,hm⟩:=hI.done;replace hv2:vals 15=u:=hv2;obtain ⟨e,eu⟩:=hΦ.int;rw [eu] at hv2;rw [qm hv1,qm hv2];clear hI hv1 hv2 hv3 hv4;obtain ⟨hR0,hΦ2⟩:=hΦ;subst hR0;have hR:=Rw.join (V.Rw.drew hR) hm
   rcases hΦ2 with ⟨e',he0,hnr,rfl,rfl⟩|⟨t,hrt,htok,rfl,rfl⟩
   ·cases eu;obtain ⟨y,ey⟩:∃ y,y=qk l k:=⟨_,rfl⟩
    have hPk:=hP k Oo;rw [← ey] at hPk;have hm:Mem w w16 ((tb,.cells #[ii 0,.string ⟨#[]⟩,.string ⟨#[]⟩,.string ⟨#[]⟩] 51)::(kb,.cells (fnA 3 (inF fun i:Nat=>((i+1:Nat):Int))) 126)::(dv,.cells (fnA 3 (G)) 147)::(fb,.cells #[ii 0,ii 0] 36)::(sb,.cells (fnA 4 (inF P)) 81)::(r3,.cells #[ii 0,ii 0] 36)::R):=hR.mem;refine zu ?_;refine DrawV.inv (fun S w'=>Mem w w' ((tb,.cells #[ii 0,.string ⟨#[]⟩,.string ⟨#[]⟩,.string ⟨#[]⟩] 51)::(kb,.cells (fnA 3 (inF fun i:Nat=>((i+1:Nat):Int))) 126)::(dv,.cells (fnA 3 (G)) 147)::(fb,.cells #[ii 0,ii 0] 36)::(sb,.cells (fnA 4 (inF P)) 81)::(r3,.cells (bif S 5 then #[ii (y:Nat),ii 170] else #[ii 0,ii 0]) 36)::R)) rfl Jk hm.drew ?_;clear hm;(conv=>whnf);refine zi ?_;refine StepI.of (.pointer (some ⟨sb,0+k*tsz Tryz.prog 3,none⟩)) (fun S wd hk hp hI=>zw ?_) (zw ?_)
    ·refine IdxV.at_ k Oo Oo (zw ?_);exact ⟨rfl,hI⟩
    refine StepI.of (ii (y:Nat)) (fun S wd hk hp hI=>zw ?_) (zw ?_)
    ·refine LoadV.fim (x:=((y:Nat):Int)) hI (b:=sb) (F:=P) (n:=4) (t:=81) Js k (by rw [show tsz Tryz.prog 3=1 from by kernel_rfl];omega) Oo hPk (zw ?_);exact ⟨rfl,hI⟩
    refine zi ?_;refine zi ?_;refine StepI.of undef (fun S wd hk hp hI=>?_) (zw ?_)
    ·dsimp only at hI;rw [hk] at hI;(conv=>whnf);refine zS hI 5 fun wx hmx=>zw ?_;exact ⟨rfl,hmx⟩
    intro wz hm;(conv=>whnf);refine qa (R:=fun v w'=>VoW l w.heap.size v w'∧Ext w w') (zw ?_);refine zl hm 5 ?_;exact ⟨.err (q55 hE (fun m h=>(hG m h).1) hV.vr Oo (show j<dN (qq l k) by omega) ⟨_,hes j _ (zge hjl),hnr⟩) Od (by have:=qdm (qyi hE).2 (k:=k) Oo;omega) Oo rfl,hm.ext⟩
   ·cases eu;have hR:Rw w w16 (.slice B ts.length cc) 51 4 ts.length (ts.map encT).flatten ((tb,.cells #[ii t.kind,.string t.text,.string t.type,.string t.lang] 51)::(kb,.cells (fnA 3 (inF fun i:Nat=>((i+1:Nat):Int))) 126)::(dv,.cells (fnA 3 (G)) 147)::(fb,.cells #[ii 0,ii 0] 36)::(sb,.cells (fnA 4 (inF P)) 81)::(r3,.cells #[ii 0,ii 0] 36)::R):=hR;have hm:=hR.mem;have hlen:=hV.len;have hbd:vTot l k≤8388608:=by
     have hdn:∀ m,m<3→dN (qq l m)≤4194304:=fun m hm=>(qv9 (qe1 (hG m hm).1).1).1
     have h0:=hdn 0 Oo;have h1:=hdn 1 Oo
     rcases (show k=0∨k=1∨k=2 by omega) with rfl|rfl|rfl<;>simp only [vTot]<;>omega
    refine zu ?_;refine zl hm 0 ?_;refine NewV.rw hR fun nb w17 hR=>zw ?_;refine AppV.rw (m:=1) (news:=encT t) qio trmI trmZ Jk Jk Od hR rfl (fun _=>⟨nb,0,rfl,fun k v hv=>?_⟩) (qab t) (by rw [show ((Tryz.prog.info? 51).get Jk).bytes=56 from by kernel_rfl];omega) Oo ?_
    ·rw [qd (hR.mem.get mh),Nat.zero_add];rw [List.getElem?_toArray];exact hv
    clear hR;intro B2 c2 w18 hR;have hR:Rw w w18 (.slice B2 (ts++[t]).length c2) 51 4 (ts++[t]).length ((ts++[t]).map encT).flatten ((kb,.cells (fnA 3 (inF fun i:Nat=>((i+1:Nat):Int))) 126)::(dv,.cells (fnA 3 (G)) 147)::(fb,.cells #[ii 0,ii 0] 36)::(sb,.cells (fnA 4 (inF P)) 81)::(r3,.cells #[ii 0,ii 0] 36)::R):=by
     have e:((ts++[t]).map encT).flatten=(ts.map encT).flatten++encT t:=by simp
     rw [e,zla];exact hR.tail.tail
    refine zu ?_;refine ⟨(j+1,ts++[t],B2,c2),⟨rfl,rfl,rfl,?_,rfl,rfl,rfl,trivial⟩,⟨by simp only;omega,hV.one htok (hes j _ (zge hjl)) hsz hrt,hR⟩,by simp only;omega⟩;show Value.slice B2 (ts.length+1) c2=Value.slice B2 (ts++[t]).length c2;rw [zla];rfl
  ·obtain rfl:j=dN (qq l k):=by omega
   exact ⟨(k+1,ts,B,cc),⟨rfl,rfl,rfl,rfl,rfl,rfl,trivial⟩,⟨by simp only;omega,hV.next,hR⟩,by simp only;omega⟩
 ·obtain rfl:k=3:=by omega
  have hW:(vwE l).2=0:=q2q hE (fun m h=>(hG m h).1) hV.vr;have hlen:ts.length=vTot l 3:=hV.len;refine StoreA.same (hR.mem.get (L:=_) Js:w14.heap[r3]?=some (.cells #[ii 0,ii 0] 36)) rfl Od fun w15 he15=>zw ?_;refine qa (R:=fun v w'=>VoW l w.heap.size v w'∧Ext w w') (zw ?_);refine LoadA.mem (hR.mem.call he15) (i:=4) rfl rfl (zw ?_);rw [hlen] at hR ⊢;exact ⟨.inr ⟨hW,ts,hV,B,cc,rfl,qb3 hR.own he15⟩,hR.mem.ext.trans he15⟩
def txtC (a b:ByteArray):Int:=if slt a b=true then -1 else if seq a b=true then 0 else 1
def cmpT (a b:TM):Int:=
 if a.kind≠b.kind then (if a.kind<b.kind then -1 else 1) else if txtC a.text b.text≠0 then txtC a.text b.text else if txtC a.type b.type≠0 then txtC a.type b.type else txtC a.lang b.lang
theorem qhw (a b:ByteArray) (w:World):Gv Tryz.prog 162 [.string a,.string b] w fun r w'=>r=ii (txtC a b)∧w'=w:=by
 cases h1:slt a b
 ·cases h2:seq a b
  ·refine ze Tryz.func162 Tryz.ntmps162 ?_;rw [h1];refine zv ?_;rw [h1,h2];refine zv ?_;exact ⟨by simp [txtC,h1,h2],rfl⟩
  ·refine ze Tryz.func162 Tryz.ntmps162 ?_;rw [h1];refine zv ?_;rw [h1,h2];refine zv ?_;exact ⟨by simp [txtC,h1,h2],rfl⟩
 ·refine ze Tryz.func162 Tryz.ntmps162 ?_;rw [h1];refine zv ?_;exact ⟨by simp [txtC,h1],rfl⟩
theorem qf1 (a b:TM) (w:World):Gv Tryz.prog 120 [qa4 a,qa4 b] w fun r w'=>r=ii (cmpT a b)∧Ext w w':=by
 refine ze Tryz.func120 Tryz.ntmps120 ?_;refine znm (Mem.nil w) fun b1 w1 hm=>zw ?_;refine znm hm fun b2 w2 hm=>zw ?_
 by_cases hk:a.kind=b.kind
 ·refine LoadV.mem (i:=1) Oa rfl rfl (zw ?_);refine LoadV.mem (i:=0) Oa rfl rfl (zw ?_);refine zt ?_;refine LoadV.mem (i:=1) Oa rfl rfl (zw ?_);refine LoadV.mem (i:=0) Oa rfl rfl (zw ?_);refine zcv (qhw a.text b.text w2) ?_;rintro v w3 ⟨rfl,hw⟩;subst hw;conv=>whnf
  by_cases h1:txtC a.text b.text=0
  ·refine zt ?_;refine LoadV.mem (i:=1) Oa rfl rfl (zw ?_);refine LoadV.mem (i:=0) Oa rfl rfl (zw ?_);refine zcv (qhw a.type b.type w3) ?_;rintro v w4 ⟨rfl,hw⟩;subst hw;conv=>whnf
   by_cases h2:txtC a.type b.type=0
   ·refine zt ?_;refine LoadV.mem (i:=1) Oa rfl rfl (zw ?_);refine LoadV.mem (i:=0) Oa rfl rfl (zw ?_);refine zcv (qhw a.lang b.lang w4) ?_;rintro v w5 ⟨rfl,hw⟩;subst hw;(conv=>whnf);exact ⟨by rw [cmpT,if_neg (by simpa using hk),if_neg (by simpa using h1),if_neg (by simpa using h2)],hm.ext⟩
   ·refine zv ?_;exact ⟨by rw [cmpT,if_neg (by simpa using hk),if_neg (by simpa using h1),if_pos h2],hm.ext⟩
  ·refine zv ?_;exact ⟨by rw [cmpT,if_neg (by simpa using hk),if_pos h1],hm.ext⟩
 ·refine LoadV.mem (i:=1) Oa rfl rfl (zw ?_);refine LoadV.mem (i:=0) Oa rfl rfl (zw ?_);refine zt ?_;refine LoadV.mem (i:=1) Oa rfl rfl (zw ?_);refine LoadV.mem (i:=0) Oa rfl rfl (zw ?_);refine zC (fun _=>zw ?_) (fun _=>zw ?_)
  ·exact ⟨by rw [cmpT,if_pos hk,if_pos Oa],hm.ext⟩
  ·exact ⟨by rw [cmpT,if_pos hk,if_neg Oa],hm.ext⟩
theorem q00 (q:Q4):qck q=if qE 0 q.s≠0 then qE 0 q.s else if qE 1 q.p≠0 then qE 1 q.p else if qE 2 q.o≠0 then qE 2 q.o else qE 3 q.g:=by
 have hlen:((List.range 4).map fun k=>qE k (q.at k)).length=4:=by simp
 have hget:∀ j (hj:j<((List.range 4).map fun k=>qE k (q.at k)).length),((List.range 4).map fun k=>qE k (q.at k))[j]=qE j (q.at j):=fun j hj=>by simp
 have hbad:∀ k,k<4→(∀ j,j<k→qE j (q.at j)=0)→qE k (q.at k)≠0→qck q=qE k (q.at k):=fun k hk h hne=>by
  rw [qck,qof (k:=k) (by rw [hlen];exact hk) (fun j hj hjk=>by rw [hget];exact h j hjk) (by rw [hget];exact hne),hget]
 by_cases h0:qE 0 q.s≠0
 ·rw [if_pos h0];exact hbad 0 Oo (fun j h=>by omega) h0
 rw [if_neg h0]
 by_cases h1:qE 1 q.p≠0
 ·rw [if_pos h1];exact hbad 1 Oo (fun j h=>by (obtain rfl:j=0:=by omega);exact Decidable.not_not.1 h0) h1
 rw [if_neg h1]
 by_cases h2:qE 2 q.o≠0
 ·rw [if_pos h2];exact hbad 2 Oo (fun j h=>by
   rcases (show j=0∨j=1 by omega) with rfl|rfl
   ·exact Decidable.not_not.1 h0
   ·exact Decidable.not_not.1 h1) h2
 rw [if_neg h2]
 by_cases h3:qE 3 q.g≠0
 ·exact hbad 3 Oo (fun j h=>by
   rcases (show j=0∨j=1∨j=2 by omega) with rfl|rfl|rfl
   ·exact Decidable.not_not.1 h0
   ·exact Decidable.not_not.1 h1
   ·exact Decidable.not_not.1 h2) h3
 ·rw [Decidable.not_not.1 h3,qck,qfo fun j hj=>by
   rw [hget];rw [hlen] at hj
   rcases (show j=0∨j=1∨j=2∨j=3 by omega) with rfl|rfl|rfl|rfl
   ·exact Decidable.not_not.1 h0
   ·exact Decidable.not_not.1 h1
   ·exact Decidable.not_not.1 h2
   ·exact Decidable.not_not.1 h3]
theorem q5q {k:Nat} {t:TM} (hk:k=0∨k=1) (h:canB k t=true):qE k t=qbf t:=by rw [qE,if_neg (by rw [h];simp),if_neg Oo]
theorem qE_2 (t:TM):qE 2 t=qbf t:=by
 rw [qE]
 by_cases h:canB 2 t=false
 ·rw [if_pos h];rw [canB,if_neg Oo,if_neg Oo,if_pos Oo,Bool.and_eq_false_iff,decide_eq_false_iff_not,decide_eq_false_iff_not] at h;rw [qbf,if_neg Oo,if_neg Oo]
 ·rw [if_neg h,if_neg Oo]
theorem qil (q:Q4) (hq:qk7 q) (w:World):Gv Tryz.prog 63 [qa0 q] w fun v w'=>v=ii (qck q)∧Ext w w':=by
 refine ze Tryz.func63 Tryz.ntmps63 ?_;refine znm (Mem.nil w) ?_;intro b w1 hm;have hc:CellsAt w1 b 0 (qae q):=CellsAt.mem hm mh;have e0:canB 0 q.s=(decide (q.s.kind=1)||decide (q.s.kind=2)):=by rw [canB,if_pos Oo]
 have e1:canB 1 q.p=decide (q.p.kind=1):=by rw [canB,if_neg Oo,if_pos Oo]
 have e3:canB 3 q.g=(qvl q.g||decide (q.g.kind=1)||decide (q.g.kind=2)):=by rw [canB,if_neg Oo,if_neg Oo,if_neg Oo]
 have hz:∀ t:TM,qbe t ⟨0,⟨#[]⟩,⟨#[]⟩,⟨#[]⟩⟩=qvl t:=fun _=>rfl
 rw [q00];conv=>whnf
 (repeat' (first|refine zp ?_|refine zC (fun _=>zw ?_) (fun _=>zw ?_)|refine LoadV.mem (i:=0) Oa rfl rfl (zw ?_)))
 ·exact ⟨by rw [if_pos (by rw [qE,if_pos (by rw [e0];simp;omega)];decide),qE,if_pos (by rw [e0];simp;omega)];rfl,hm.ext⟩
 all_goals
  have c0:canB 0 q.s=true:=by rw [e0];simp;omega
  rw [q5q (.inl rfl) c0];refine LoadA.cells (qag hc 0 Oo) rfl (zw ?_);refine zcv (qa7 q.s (hq 0) w1) ?_;rintro v w2 ⟨rfl,he2⟩;have hm:=hm.call he2;have hc:=hc.ext he2;conv=>whnf
  by_cases hs:qbf q.s=0
  ·rw [if_neg Oo]
   (repeat' (first|refine zp ?_|refine zC (fun _=>zw ?_) (fun _=>zw ?_)|refine LoadV.mem (i:=0) Oa rfl rfl (zw ?_)))
   ·exact ⟨by rw [if_pos (by rw [qE,if_pos (by rw [e1];simp;omega)];decide),qE,if_pos (by rw [e1];simp;omega)];rfl,hm.ext⟩
   have c1:canB 1 q.p=true:=by rw [e1];simp;omega
   rw [q5q (.inr rfl) c1];refine LoadA.cells (qag hc 1 Oo) rfl (zw ?_);refine zcv (qa7 q.p (hq 1) w2) ?_;rintro v w3 ⟨rfl,he3⟩;have hm:=hm.call he3;have hc:=hc.ext he3;conv=>whnf
   by_cases hp:qbf q.p=0
   ·rw [if_neg Oo];refine zv ?_;rw [qE_2];refine LoadA.cells (qag hc 2 Oo) rfl (zw ?_);refine zcv (qa7 q.o (hq 2) w3) ?_;rintro v w4 ⟨rfl,he4⟩;have hm:=hm.call he4;have hc:=hc.ext he4;conv=>whnf
    by_cases ho:qbf q.o=0
    ·rw [if_neg Oo];refine zv ?_;refine LoadA.cells (qag hc 3 Oo) rfl (zw ?_);refine RunV.eqTerm (a:=q.g) (b:=⟨0,⟨#[]⟩,⟨#[]⟩,⟨#[]⟩⟩) (.inl rfl) ?_;rw [hz];cases hg:qvl q.g
     ·rw [hg] at e3;refine zu ?_
      (repeat' (first|refine zp ?_|refine zC (fun _=>zw ?_) (fun _=>zw ?_)|refine LoadV.mem (i:=0) Oa rfl rfl (zw ?_)))
      ·exact ⟨by rw [qE,if_pos (by rw [e3];simp;omega)];rfl,hm.ext⟩
      all_goals
       have c3:canB 3 q.g=true:=by rw [e3];simp;omega
       refine LoadA.cells (qag hc 3 Oo) rfl (zw ?_);refine zcv (qa7 q.g (hq 3) w4) ?_;rintro v w5 ⟨rfl,he5⟩;(conv=>whnf);exact ⟨by rw [qE,if_neg (by rw [c3];simp),if_neg Oo],hm.ext.trans he5⟩
     ·have c3:canB 3 q.g=true:=by rw [e3,hg];rfl
      have hk0:q.g.kind=0:=by
       have:=qgq.1 ((hz q.g).trans hg);rw [this]
      refine zu ?_;exact ⟨by rw [qE,if_neg (by rw [c3];simp),if_pos ⟨rfl,hk0⟩];rfl,hm.ext⟩
    ·rw [if_pos ho];refine zv ?_;exact ⟨rfl,hm.ext⟩
   ·rw [if_pos hp];refine zv ?_;exact ⟨rfl,hm.ext⟩
  ·rw [if_pos hs];refine zv ?_;exact ⟨rfl,hm.ext⟩
theorem qha {α:Type} (enc:α→List Value) (size:Nat) (henc:∀ x,(enc x).length=size):∀ (l:List α) (j:Nat) (x:α) (k:Nat),l[j]?=some x→k<size→((l.map enc).flatten)[j*size+k]?=(enc x)[k]?
 | [],j,x,k,h,_=>by simp at h
 | y::l,0,x,k,h,hk=>by
  simp only [List.getElem?_cons_zero,Option.some.injEq] at h;subst h;simp only [List.map_cons,List.flatten_cons,Nat.zero_mul,Nat.zero_add];rw [List.getElem?_append_left (by rw [henc];exact hk)]
 | y::l,j+1,x,k,h,hk=>by
  simp only [List.getElem?_cons_succ] at h;simp only [List.map_cons,List.flatten_cons];rw [List.getElem?_append_right (by rw [henc,Nat.succ_mul];omega),henc,show (j+1)*size+k-size=j*size+k by rw [Nat.succ_mul];omega];exact qha enc size henc l j x k h hk
theorem qbs {α:Type} {enc:α→List Value} {size n c base:Nat} {e:TypeId} {A:oA} {w:World} {l:List α} (henc:∀ x,(enc x).length=size) (h:w.ownsRow base e size (.slice A n c) n (l.map enc).flatten) (hn:l.length=n) :
  SlAt enc size w A l∧n≤c:=by
 obtain ⟨h1,⟨h2,h3⟩|⟨g,cap,cur,h2,_,h3,h4,_,h5,h6⟩⟩:=h
 ·subst h3;refine ⟨⟨fun hne=>absurd (List.eq_nil_of_length_eq_zero hn) hne⟩,Nat.zero_le _⟩
 ·cases h2;refine ⟨⟨fun _=>⟨g,0,rfl,fun j x hx k v hv=>?_⟩⟩,h4⟩;have hk:k<size:=by
   have:=(List.getElem?_eq_some_iff.1 hv).1
   rwa [henc] at this
  have hj:j<n:=by rw [← hn];exact (List.getElem?_eq_some_iff.1 hx).1
  have hjk:j*size+k<n*size:=by
   have:(j+1)*size≤n*size:=Nat.mul_le_mul_right _ hj;rw [Nat.succ_mul] at this;omega
  rw [qd h3,Nat.zero_add,← hv,← qha enc size henc l j x k hx hk,← h6,List.getElem?_take,if_pos hjk];simp
theorem qcb (t:TM):(encT t).length=4:=rfl
def qam (out:List TM) (x:TM):List TM:=
 match out.getLast? with
 | some z=>bif qbe z x then out else out++[x]
 | none=>out++[x]
def mrgN:Nat→List TM→List TM→List TM→List TM
 | 0,_,_,out=>out
 | f+1,a,b,out=>
  match a,b with
  | [],[]=>out
  | x::a,[]=>mrgN f a [] (qam out x)
  | [],y::b=>mrgN f [] b (qam out y)
  | x::a,y::b=>if cmpT x y≤0 then mrgN f a (y::b) (qam out x) else mrgN f (x::a) b (qam out y)
def tmsN:Nat→List TM→List TM
 | 0,l=>l
 | f+1,l=>if l.length<2 then l else mrgN ((tmsN f (l.take (l.length/2))).length+(tmsN f (l.drop (l.length/2))).length) (tmsN f (l.take (l.length/2))) (tmsN f (l.drop (l.length/2))) []
theorem qiw (out:List TM) (x:TM):(qam out x).length≤out.length+1:=by
 unfold qam
 split
 ·cases qbe _ x<;>simp
 ·simp
theorem qjs:∀ (f:Nat) (a b out:List TM),(mrgN f a b out).length≤a.length+b.length+out.length
 | 0,a,b,out=>by rw [mrgN];omega
 | f+1,a,b,out=>by
  unfold mrgN
  split
  ·omega
  ·rename_i x a
   have:=qjs f a [] (qam out x);have:=qiw out x;simp only [List.length_cons] at *;omega
  ·rename_i y b
   have:=qjs f [] b (qam out y);have:=qiw out y;simp only [List.length_cons] at *;omega
  ·rename_i x a y b
   split
   ·have:=qjs f a (y::b) (qam out x);have:=qiw out x;simp only [List.length_cons] at *;omega
   ·have:=qjs f (x::a) b (qam out y);have:=qiw out y;simp only [List.length_cons] at *;omega
theorem qnn:∀ (f:Nat) (l:List TM),(tmsN f l).length≤l.length
 | 0,l=>Nat.le_refl _
 | f+1,l=>by
  rw [tmsN]
  split
  ·exact Nat.le_refl _
  ·have h1:=qnn f (l.take (l.length/2));have h2:=qnn f (l.drop (l.length/2));refine Nat.le_trans (qjs _ _ _ _) ?_;rw [List.length_take] at h1;rw [zld] at h2;simp only [List.length_nil];omega
def TmR (l:List TM) (v:Value) (w:World):Prop:=∃ B d,v=.slice B l.length d∧l.length≤d∧SlAt encT 4 w B l
theorem TmR.ext {l:List TM} (v:Value) (w w':World) (h:TmR l v w) (he:Ext w w'):TmR l v w':=by
 obtain ⟨B,d,h1,h2,h3⟩:=h;exact ⟨B,d,h1,h2,h3.ext he⟩
theorem qjf {α:Type} (enc:α→List Value) (size:Nat) (henc:∀ x,(enc x).length=size) (l:List α):((l.map enc).flatten).length=l.length*size:=by
 induction l with
 | nil=>simp
 | cons x l ih=>simp only [List.map_cons,List.flatten_cons,zla,henc,ih,List.length_cons,Nat.succ_mul];omega
theorem ql6 {α:Type} {enc:α→List Value} {size:Nat} (hsz:0<size) (henc:∀ x,(enc x).length=size) {w:World} {b off:Nat} {l:List α} (h:∀ (j:Nat) x,l[j]?=some x→CellsAt w b (off+j*size) (enc x)):CellsAt w b off (l.map enc).flatten:=by
 intro k v hv;have hk:=(List.getElem?_eq_some_iff.1 hv).1;rw [qjf enc size henc] at hk;have hj:k/size<l.length:=(Nat.div_lt_iff_lt_mul hsz).2 hk;have hx:=zge hj;have hm:=Nat.mod_lt k hsz;have he:=qha enc size henc l (k/size) _ (k%size) hx hm;rw [show k/size*size+k%size=k from by rw [Nat.mul_comm];exact Nat.div_add_mod k size] at he;rw [he] at hv;have:=h (k/size) _ hx (k%size) v hv
 rwa [show off+k/size*size+k%size=off+k from by rw [Nat.add_assoc,show k/size*size+k%size=k from by rw [Nat.mul_comm];exact Nat.div_add_mod k size]] at this
theorem qgw (l:List TM) (A:oA) (c:Nat) (w:World) (h2:l.length<2) (hS:SlAt encT 4 w A l) :
  Gv Tryz.prog 64 [.slice A l.length c] w fun v w'=>TmR l v w'∧Ext w w':=by
 refine ze Tryz.func64 Tryz.ntmps64 ?_;refine zv ?_;refine ⟨fun nb w1 hb hw=>?_⟩;have he1:Ext w w1:=by rw [hw];exact xr.alloc _
 have hg:w1.heap[nb]?=some (.cells #[] 51):=by rw [hw,hb];exact heap_alloc_new w _
 have hR:Rw w w1 (.slice (some ⟨nb,0,none⟩) 0 0) 51 4 0 [] []:=⟨(Mem.nil w).call he1,⟨rfl,.inr ⟨nb,0,#[],rfl,by omega,hg,Nat.le_refl _,Nat.zero_le _,rfl,rfl⟩⟩,fun x hx=>by simp at hx⟩
 (conv=>whnf);refine AppV.rw (m:=l.length) (news:=(l.map encT).flatten) qio trmI trmZ Jk Jk Od hR (qjf encT 4 qcb l) (fun hne=>?_) ?_ (by rw [show ((Tryz.prog.info? 51).get Jk).bytes=56 from by kernel_rfl];omega) Oo ?_
 ·obtain ⟨b,off,h3,h4⟩:=hS.at_ (by intro e;subst e;exact hne rfl);exact ⟨b,off,h3,(ql6 Od qcb h4).ext he1⟩
 ·intro u hu;obtain ⟨x,hx,hux⟩:=List.mem_flatten.1 hu;obtain ⟨t,_,rfl⟩:=List.mem_map.1 hx;exact qab t u hux
 intro B d w2 hR2;(conv=>whnf);have e:0+l.length=l.length:=Nat.zero_add _;rw [e] at hR2 ⊢;obtain ⟨h3,h4⟩:=qbs qcb hR2.own rfl;exact ⟨⟨B,d,rfl,h4,h3⟩,hR2.mem.ext⟩
theorem q3j {x y:TM} {a b out:List TM} (h:cmpT x y≤0):mrgN ((x::a).length+(y::b).length) (x::a) (y::b) out=mrgN (a.length+(y::b).length) a (y::b) (qam out x):=by
 rw [show (x::a).length+(y::b).length=(a.length+(y::b).length)+1 by simp;omega,mrgN,if_pos h]
theorem q3i {x y:TM} {a b out:List TM} (h:¬cmpT x y≤0):mrgN ((x::a).length+(y::b).length) (x::a) (y::b) out=mrgN ((x::a).length+b.length) (x::a) b (qam out y):=by
 rw [show (x::a).length+(y::b).length=((x::a).length+b.length)+1 by simp;omega,mrgN,if_neg h]
theorem V.SlAt.pop {w:World} {A:oA} {x:TM} {a l:List TM} {c:Nat} (h:SlAt encT 4 w A l) (e:l=x::a) (hc:l.length≤c) :
  (∃ g o,A=some ⟨g,o,none⟩∧CellsAt w g (o+0*4) (encT x))∧SlAt encT 4 w (if c=1 then A else A.map (·.add (1*4))) a:=by
 subst e;obtain ⟨g,o,h1,h2⟩:=h.at_ Js;refine ⟨⟨g,o,h1,h2 0 x rfl⟩,?_⟩;have:=h.cut (lo:=1) (hi:=(x::a).length) (m:=c) Js znr hc rfl;have e:((x::a).drop 1).take ((x::a).length-1)=a:=by show a.take a.length=a;exact List.take_length
 rwa [e] at this
structure MgG where
 a:List TM
 A:oA
 ca:Nat
 b:List TM
 B:oA
 cb:Nat
 out:List TM
 O:oA
 co:Nat
theorem qra:∀ (n:Nat) (l:List TM) (A:oA) (c:Nat) (w:World),l.length≤n→SlAt encT 4 w A l→l.length≤c→l.length≤16777216→
  Gv Tryz.prog 64 [.slice A l.length c] w fun v w'=>TmR (tmsN n l) v w'∧Ext w w':=by
 intro n
 induction n with
 | zero=>
  intro l A c w hn hS hc hl;exact qgw l A c w Oo hS
 | succ n ih=>
  intro l A c w hn hS hc hl
  by_cases h2:l.length<2
  ·rw [tmsN,if_pos h2];exact qgw l A c w h2 hS
  have et:tmsN (n+1) l=mrgN ((tmsN n (l.take (l.length/2))).length+(tmsN n (l.drop (l.length/2))).length) (tmsN n (l.take (l.length/2))) (tmsN n (l.drop (l.length/2))) []:=by rw [tmsN,if_neg h2]
  rw [et];have hla:(l.take (l.length/2)).length=l.length/2:=by rw [List.length_take];omega
  have hlb:(l.drop (l.length/2)).length=l.length-l.length/2:=zld ..;have hSa:=hS.cut (lo:=0) (hi:=l.length/2) (m:=c) Oo Oo Oo rfl;have hSb:=hS.cut (lo:=l.length/2) (hi:=l.length) (m:=c) Oo Oo Oo rfl;rw [List.drop_zero,Nat.sub_zero] at hSa;rw [List.take_of_length_le (by rw [hlb];exact Nat.le_refl _)] at hSb;have iha:=fun w' h=>ih (l.take (l.length/2)) (if c=0 then A else A.map (·.add (0*4))) c w' Oo h Oo Oo
  have ihb:=fun w' h=>ih (l.drop (l.length/2)) (if c=l.length/2 then A else A.map (·.add (l.length/2*4))) (c-l.length/2) w' Oo h Oo Oo
  rw [hla] at iha;rw [hlb] at ihb;have tla:=qnn n (l.take (l.length/2));have tlb:=qnn n (l.drop (l.length/2));obtain ⟨ta,eta⟩:∃ ta,ta=tmsN n (l.take (l.length/2)):=⟨_,rfl⟩
  obtain ⟨tb,etb⟩:∃ tb,tb=tmsN n (l.drop (l.length/2)):=⟨_,rfl⟩
  rw [← eta] at iha tla ⊢;rw [← etb] at ihb tlb ⊢;rw [hla] at tla;rw [hlb] at tlb;clear et eta etb ih;refine ze Tryz.func64 Tryz.ntmps64 ?_;refine zv ?_;refine DrawV.free Jk Jk (zw ?_);(iterate 4 (refine zd ?_));refine zsd (.slice (if c=0 then A else A.map (·.add (0*4))) (l.length/2) c) (fun wd hd=>zw ?_) (zw ?_)
  ·refine SliceV.to 0 (l.length/2) c rfl rfl rfl Oo Oo znr (fun h=>by cases h) ?_;rw [show tsz Tryz.prog 51=4 from by kernel_rfl];exact ⟨xr,rfl⟩
  apply StepD.of (TmR ta) TmR.ext
  ·intro wd hd;(conv=>whnf);refine zcv (iha wd (hSa.ext ((Ext.refl w).drew.trans hd))) ?_;rintro v w5 ⟨h1,h2⟩;exact ⟨h2,h1⟩
  (conv=>whnf);(iterate 4 (refine zd ?_));refine zsd (.slice (if c=l.length/2 then A else A.map (·.add (l.length/2*4))) (l.length-l.length/2) (c-l.length/2)) (fun wd hd=>zw ?_) (zw ?_)
  ·refine SliceV.to (l.length/2) l.length c rfl rfl rfl Oo Oo znr (fun h=>by cases h) ?_;rw [show tsz Tryz.prog 51=4 from by kernel_rfl];exact ⟨xr,rfl⟩
  apply StepD.of (TmR tb) TmR.ext
  ·intro wd hd;conv=>whnf
   repeat (intro _ _;(conv=>whnf))
   refine zcv (ihb wd (hSb.ext ((Ext.refl w).drew.trans hd))) ?_;rintro v w5 ⟨h1,h2⟩;exact ⟨h2,h1⟩
  (conv=>whnf);apply StepD.of (TmR ta) TmR.ext
  ·intro wd hd;conv=>whnf
   repeat (rintro _ ⟨_,_,rfl,_,_⟩;(conv=>whnf))
   exact ⟨xr,_,_,rfl,by assumption,by assumption⟩
  (conv=>whnf);apply StepD.of (TmR tb) TmR.ext
  ·intro wd hd;conv=>whnf
   repeat (rintro _ ⟨_,_,rfl,_,_⟩;(conv=>whnf))
   exact ⟨xr,_,_,rfl,by assumption,by assumption⟩
  (conv=>whnf);intro w4 he;(conv=>whnf);rintro _ ⟨B1,b1,rfl,hb1,hb2⟩;(conv=>whnf);rintro _ ⟨A1,a1,rfl,ha1,ha2⟩;(conv=>whnf);intro _ _;(conv=>whnf);intro _ _;(conv=>whnf);clear iha ihb hSa hSb;have hw4:Ext w w4:=(Ext.refl w).drew.trans he;refine qr (fun x:MgG=>[(3,.slice x.A x.a.length x.ca),(4,.slice x.B x.b.length x.cb),(5,.slice x.O x.out.length x.co)])
   (fun x w'=>SlAt encT 4 w4 x.A x.a∧x.a.length≤x.ca∧SlAt encT 4 w4 x.B x.b∧x.b.length≤x.cb∧Rw w4 w' (.slice x.O x.out.length x.co) 51 4 x.out.length (x.out.map encT).flatten []∧mrgN (x.a.length+x.b.length) x.a x.b x.out=mrgN (ta.length+tb.length) ta tb []∧x.a.length+x.b.length+x.out.length≤16777216)
   (fun x=>x.a.length+x.b.length) ⟨ta,A1,a1,tb,B1,b1,[],none,0⟩ ⟨rfl,rfl,rfl,trivial⟩ ⟨ha2,ha1,hb2,hb1,Rw.nil (Mem.nil w4),rfl,by simp only [List.length_nil];omega⟩ ?_
  obtain ⟨res,hres⟩:∃ res,res=mrgN (ta.length+tb.length) ta tb []:=⟨_,rfl⟩
  rw [← hres];clear ha2 ha1 hb2 hb1 tla tlb;rintro ⟨a,A,ca,b,B,cb,out,O,co⟩ w5 ρ' ⟨hSa,hca,hSb,hcb,hR,hmr,hle⟩;dsimp only at hSa hca hSb hcb hR hmr hle ⊢;obtain ⟨na,ha⟩|⟨x,a',ea⟩:(a.length=0∧a=[])∨∃ x a',a=x::a':=by
   rcases a with _|⟨x,a'⟩
   ·exact .inl ⟨rfl,rfl⟩
   ·exact .inr ⟨x,a',rfl⟩
  ·obtain ⟨nb,hb⟩|⟨y,b',eb⟩:(b.length=0∧b=[])∨∃ y b',b=y::b':=by
    rcases b with _|⟨y,b'⟩
    ·exact .inl ⟨rfl,rfl⟩
    ·exact .inr ⟨y,b',rfl⟩
   ·refine zu ?_;rw [ha,hb] at hmr;obtain ⟨h3,h4⟩:=qbs qcb hR.own rfl;exact ⟨⟨O,co,by rw [← hmr];rfl,by rw [← hmr];exact h4,by rw [← hmr];exact h3⟩,hw4.trans hR.mem.ext⟩
   ·have nb:b.length=b'.length+1:=by rw [eb];rfl
    obtain ⟨⟨gb,ob,eB,hxb⟩,hSb'⟩:=hSb.pop eb hcb;subst eB;refine zu ?_;refine NewV.rw hR fun tp w6 hR=>zw ?_;refine DrawV.free Jk Jk (zw ?_);(iterate 18 (refine zd ?_));intro w7 he7;have hR:=hR.drew.call he7;refine zu ?_;refine ⟨⟨gb,ob,0,rfl,by omega,by omega,?_⟩⟩;(conv=>whnf);refine LoadA.cells (CellsAt.ext hxb hR.mem.ext) rfl (zw ?_);refine StoreA.rwAll hR rfl (qab y) fun w8 hR=>zw ?_;refine SliceV.to 1 b.length cb rfl rfl rfl Oo Oo znr (fun h=>by cases h) ?_;rw [show tsz Tryz.prog 51=4 from by kernel_rfl];(conv=>whnf);have hmr:mrgN (a.length+b'.length) a b' (qam out y)=res:=by
     rw [← hmr];subst ha eb;rw [show ([]:List TM).length+(y::b').length=(([]:List TM).length+b'.length)+1 by simp];rfl
    rcases hout:out.getLast? with _|z
    ·have hon:out=[]:=List.getLast?_eq_none_iff.1 hout;have ho0:out.length=0:=by rw [hon];rfl
     have hpu:qam out y=out++[y]:=by rw [qam,hout]
     have hR:=hR.drew;refine zy ?_;refine zv ?_;refine zl hR.mem 0 ?_;refine NewV.rw hR fun nb' w17 hR=>zw ?_;refine AppV.rw (m:=1) (news:=encT y) qio trmI trmZ Jk Jk Od hR rfl (fun _=>⟨nb',0,rfl,fun k v hv=>?_⟩) (qab y) (by rw [show ((Tryz.prog.info? 51).get Jk).bytes=56 from by kernel_rfl];omega) Oo ?_
     ·rw [qd (hR.mem.get mh),Nat.zero_add];rw [List.getElem?_toArray];exact hv
     clear hR;intro B2 c2 w18 hR;have hR:Rw w4 w18 (.slice B2 (out++[y]).length c2) 51 4 (out++[y]).length ((out++[y]).map encT).flatten []:=by
      have e:((out++[y]).map encT).flatten=(out.map encT).flatten++encT y:=by simp
      rw [e,zla];exact hR.tail.tail
     (conv=>whnf);rw [hpu] at hmr;refine ⟨⟨a,A,ca,b',if cb=1 then some ⟨gb,ob,none⟩ else (some (⟨gb,ob,none⟩:Addr)).map (·.add (1*4)),cb-1,(out++[y]),B2,c2⟩,⟨rfl,by show Value.slice _ (b.length-1) _=Value.slice _ b'.length _;rw [nb];rfl,?_,trivial⟩,⟨hSa,hca,hSb',by simp only;omega,hR,hmr,?_⟩,?_⟩
     ·first|rfl|(show Value.slice _ (out.length+1) _=Value.slice _ (out++[_]).length _;rw [zla];rfl)
     ·simp only [zla,List.length_singleton];omega
     ·simp only;omega
    ·obtain ⟨ho1,ho2⟩:=qbs qcb hR.own rfl;have hon:out≠[]:=by intro e;rw [e] at hout;cases hout
     have hop:0<out.length:=List.length_pos_iff.2 hon;have hz:out[out.length-1]?=some z:=by rw [← hout,List.getLast?_eq_getElem?]
     obtain ⟨go,oo,eO,hco⟩:=ho1.at_ hon;subst eO;have hcz:=hco (out.length-1) z hz;refine zy ?_;refine zv ?_;refine ⟨⟨go,oo,out.length-1,rfl,by omega,by omega,?_⟩⟩;refine zu ?_;refine LoadA.cells (CellsAt.ext hcz xr.drew) rfl (zu ?_);refine zl hR.mem.drew 0 ?_;refine zv ?_;refine RunV.eqTerm (a:=z) (b:=y) (.inr rfl) ?_;cases hzx:qbe z y
     ·have hpu:qam out y=out++[y]:=by rw [qam,hout];simp only [hzx,cond_false]
      have hR:=hR.drew;refine zu ?_;refine zl hR.mem 0 ?_;refine NewV.rw hR fun nb' w17 hR=>zw ?_;refine AppV.rw (m:=1) (news:=encT y) qio trmI trmZ Jk Jk Od hR rfl (fun _=>⟨nb',0,rfl,fun k v hv=>?_⟩) (qab y) (by rw [show ((Tryz.prog.info? 51).get Jk).bytes=56 from by kernel_rfl];omega) Oo ?_
      ·rw [qd (hR.mem.get mh),Nat.zero_add];rw [List.getElem?_toArray];exact hv
      clear hR;intro B2 c2 w18 hR;have hR:Rw w4 w18 (.slice B2 (out++[y]).length c2) 51 4 (out++[y]).length ((out++[y]).map encT).flatten []:=by
       have e:((out++[y]).map encT).flatten=(out.map encT).flatten++encT y:=by simp
       rw [e,zla];exact hR.tail.tail
      (conv=>whnf);rw [hpu] at hmr;refine ⟨⟨a,A,ca,b',if cb=1 then some ⟨gb,ob,none⟩ else (some (⟨gb,ob,none⟩:Addr)).map (·.add (1*4)),cb-1,(out++[y]),B2,c2⟩,⟨rfl,by show Value.slice _ (b.length-1) _=Value.slice _ b'.length _;rw [nb];rfl,?_,trivial⟩,⟨hSa,hca,hSb',by simp only;omega,hR,hmr,?_⟩,?_⟩
      ·first|rfl|(show Value.slice _ (out.length+1) _=Value.slice _ (out++[_]).length _;rw [zla];rfl)
      ·simp only [zla,List.length_singleton];omega
      ·simp only;omega
     ·have hpu:qam out y=out:=by rw [qam,hout];simp only [hzx,cond_true]
      refine zu ?_;rw [hpu] at hmr;refine ⟨⟨a,A,ca,b',if cb=1 then some ⟨gb,ob,none⟩ else (some (⟨gb,ob,none⟩:Addr)).map (·.add (1*4)),cb-1,out,some ⟨go,oo,none⟩,co⟩,⟨rfl,by show Value.slice _ (b.length-1) _=Value.slice _ b'.length _;rw [nb];rfl,?_,trivial⟩,⟨hSa,hca,hSb',by simp only;omega,hR.tail.drew,hmr,?_⟩,?_⟩
      ·first|rfl|(show Value.slice _ (out.length+1) _=Value.slice _ (out++[_]).length _;rw [zla];rfl)
      ·simp only;omega
      ·simp only;omega
  ·have na:a.length=a'.length+1:=by rw [ea];rfl
   obtain ⟨⟨ga,oa,eA,hxa⟩,hSa'⟩:=hSa.pop ea hca;subst eA;obtain ⟨nb,hb⟩|⟨y,b',eb⟩:(b.length=0∧b=[])∨∃ y b',b=y::b':=by
    rcases b with _|⟨y,b'⟩
    ·exact .inl ⟨rfl,rfl⟩
    ·exact .inr ⟨y,b',rfl⟩
   ·refine zu ?_;refine NewV.rw hR fun tp w6 hR=>zw ?_;refine DrawV.free Jk Jk (zw ?_);(iterate 18 (refine zd ?_));intro w7 he7;have hR:=hR.drew.call he7;refine zu ?_;refine ⟨⟨ga,oa,0,rfl,by omega,by omega,?_⟩⟩;(conv=>whnf);refine LoadA.cells (CellsAt.ext hxa hR.mem.ext) rfl (zw ?_);refine StoreA.rwAll hR rfl (qab x) fun w8 hR=>zw ?_;refine SliceV.to 1 a.length ca rfl rfl rfl Oo Oo znr (fun h=>by cases h) ?_;rw [show tsz Tryz.prog 51=4 from by kernel_rfl];(conv=>whnf);have hmr:mrgN (a'.length+b.length) a' b (qam out x)=res:=by
     rw [← hmr];subst hb ea;rw [show (x::a').length+([]:List TM).length=(a'.length+([]:List TM).length)+1 by simp];rfl
    rcases hout:out.getLast? with _|z
    ·have hon:out=[]:=List.getLast?_eq_none_iff.1 hout;have ho0:out.length=0:=by rw [hon];rfl
     have hpu:qam out x=out++[x]:=by rw [qam,hout]
     have hR:=hR.drew;refine zy ?_;refine zv ?_;refine zl hR.mem 0 ?_;refine NewV.rw hR fun nb' w17 hR=>zw ?_;refine AppV.rw (m:=1) (news:=encT x) qio trmI trmZ Jk Jk Od hR rfl (fun _=>⟨nb',0,rfl,fun k v hv=>?_⟩) (qab x) (by rw [show ((Tryz.prog.info? 51).get Jk).bytes=56 from by kernel_rfl];omega) Oo ?_
     ·rw [qd (hR.mem.get mh),Nat.zero_add];rw [List.getElem?_toArray];exact hv
     clear hR;intro B2 c2 w18 hR;have hR:Rw w4 w18 (.slice B2 (out++[x]).length c2) 51 4 (out++[x]).length ((out++[x]).map encT).flatten []:=by
      have e:((out++[x]).map encT).flatten=(out.map encT).flatten++encT x:=by simp
      rw [e,zla];exact hR.tail.tail
     (conv=>whnf);rw [hpu] at hmr;refine ⟨⟨a',if ca=1 then some ⟨ga,oa,none⟩ else (some (⟨ga,oa,none⟩:Addr)).map (·.add (1*4)),ca-1,b,B,cb,(out++[x]),B2,c2⟩,⟨by show Value.slice _ (a.length-1) _=Value.slice _ a'.length _;rw [na];rfl,rfl,?_,trivial⟩,⟨hSa',by simp only;omega,hSb,hcb,hR,hmr,?_⟩,?_⟩
     ·first|rfl|(show Value.slice _ (out.length+1) _=Value.slice _ (out++[_]).length _;rw [zla];rfl)
     ·simp only [zla,List.length_singleton];omega
     ·simp only;omega
    ·obtain ⟨ho1,ho2⟩:=qbs qcb hR.own rfl;have hon:out≠[]:=by intro e;rw [e] at hout;cases hout
     have hop:0<out.length:=List.length_pos_iff.2 hon;have hz:out[out.length-1]?=some z:=by rw [← hout,List.getLast?_eq_getElem?]
     obtain ⟨go,oo,eO,hco⟩:=ho1.at_ hon;subst eO;have hcz:=hco (out.length-1) z hz;refine zy ?_;refine zv ?_;refine ⟨⟨go,oo,out.length-1,rfl,by omega,by omega,?_⟩⟩;refine zu ?_;refine LoadA.cells (CellsAt.ext hcz xr.drew) rfl (zu ?_);refine zl hR.mem.drew 0 ?_;refine zv ?_;refine RunV.eqTerm (a:=z) (b:=x) (.inr rfl) ?_;cases hzx:qbe z x
     ·have hpu:qam out x=out++[x]:=by rw [qam,hout];simp only [hzx,cond_false]
      have hR:=hR.drew;refine zu ?_;refine zl hR.mem 0 ?_;refine NewV.rw hR fun nb' w17 hR=>zw ?_;refine AppV.rw (m:=1) (news:=encT x) qio trmI trmZ Jk Jk Od hR rfl (fun _=>⟨nb',0,rfl,fun k v hv=>?_⟩) (qab x) (by rw [show ((Tryz.prog.info? 51).get Jk).bytes=56 from by kernel_rfl];omega) Oo ?_
      ·rw [qd (hR.mem.get mh),Nat.zero_add];rw [List.getElem?_toArray];exact hv
      clear hR;intro B2 c2 w18 hR;have hR:Rw w4 w18 (.slice B2 (out++[x]).length c2) 51 4 (out++[x]).length ((out++[x]).map encT).flatten []:=by
       have e:((out++[x]).map encT).flatten=(out.map encT).flatten++encT x:=by simp
       rw [e,zla];exact hR.tail.tail
      (conv=>whnf);rw [hpu] at hmr;refine ⟨⟨a',if ca=1 then some ⟨ga,oa,none⟩ else (some (⟨ga,oa,none⟩:Addr)).map (·.add (1*4)),ca-1,b,B,cb,(out++[x]),B2,c2⟩,⟨by show Value.slice _ (a.length-1) _=Value.slice _ a'.length _;rw [na];rfl,rfl,?_,trivial⟩,⟨hSa',by simp only;omega,hSb,hcb,hR,hmr,?_⟩,?_⟩
      ·first|rfl|(show Value.slice _ (out.length+1) _=Value.slice _ (out++[_]).length _;rw [zla];rfl)
      ·simp only [zla,List.length_singleton];omega
      ·simp only;omega
     ·have hpu:qam out x=out:=by rw [qam,hout];simp only [hzx,cond_true]
      refine zu ?_;rw [hpu] at hmr;refine ⟨⟨a',if ca=1 then some ⟨ga,oa,none⟩ else (some (⟨ga,oa,none⟩:Addr)).map (·.add (1*4)),ca-1,b,B,cb,out,some ⟨go,oo,none⟩,co⟩,⟨by show Value.slice _ (a.length-1) _=Value.slice _ a'.length _;rw [na];rfl,rfl,?_,trivial⟩,⟨hSa',by simp only;omega,hSb,hcb,hR.tail.drew,hmr,?_⟩,?_⟩
      ·first|rfl|(show Value.slice _ (out.length+1) _=Value.slice _ (out++[_]).length _;rw [zla];rfl)
      ·simp only;omega
      ·simp only;omega
   ·have nb:b.length=b'.length+1:=by rw [eb];rfl
    obtain ⟨⟨gb,ob,eB,hxb⟩,hSb'⟩:=hSb.pop eb hcb;subst eB
    by_cases hxy:cmpT x y≤0
    ·refine zu ?_;refine NewV.rw hR fun tp w6 hR=>zw ?_;refine DrawV.free Jk Jk (zw ?_);(iterate 9 (refine zd ?_));refine zf ?_ (by intro wd hd;refine zu ?_;refine ⟨⟨ga,oa,0,rfl,by omega,by omega,?_⟩⟩;exact ⟨xr,rfl⟩);apply zsd (qa4 x)
     ·intro wd hd;refine zu ?_;refine LoadA.cells (CellsAt.ext hxa ((hR.mem.ext.trans (Ext.refl w6).drew).trans hd)) rfl (zw ?_);exact ⟨xr,rfl⟩
     (conv=>whnf);refine zd ?_;refine zf ?_ (by intro wd hd;refine zu ?_;refine ⟨⟨gb,ob,0,rfl,by omega,by omega,?_⟩⟩;exact ⟨xr,rfl⟩);apply zsd (qa4 y)
     ·intro wd hd;refine zu ?_;refine LoadA.cells (CellsAt.ext hxb ((hR.mem.ext.trans (Ext.refl w6).drew).trans hd)) rfl (zw ?_);exact ⟨xr,rfl⟩
     (conv=>whnf);apply zsd (ii (cmpT x y))
     ·intro wd hd;refine zu ?_;refine zcv (qf1 x y wd) ?_;rintro v w7 ⟨rfl,h7⟩;exact ⟨h7,rfl⟩
     (conv=>whnf);(iterate 3 (refine zd ?_));intro w7 he7;have hR:=hR.drew.call he7;refine zu ?_;refine ⟨⟨ga,oa,0,rfl,by omega,by omega,?_⟩⟩;(conv=>whnf);refine LoadA.cells (CellsAt.ext hxa hR.mem.ext) rfl (zw ?_);refine StoreA.rwAll hR rfl (qab x) fun w8 hR=>zw ?_;refine SliceV.to 1 a.length ca rfl rfl rfl Oo Oo znr (fun h=>by cases h) ?_;rw [show tsz Tryz.prog 51=4 from by kernel_rfl];(conv=>whnf);have hmr:mrgN (a'.length+b.length) a' b (qam out x)=res:=by
      rw [← hmr];subst ea eb;exact (q3j hxy).symm
     rcases hout:out.getLast? with _|z
     ·have hon:out=[]:=List.getLast?_eq_none_iff.1 hout;have ho0:out.length=0:=by rw [hon];rfl
      have hpu:qam out x=out++[x]:=by rw [qam,hout]
      have hR:=hR.drew;refine zy ?_;refine zv ?_;refine zl hR.mem 0 ?_;refine NewV.rw hR fun nb' w17 hR=>zw ?_;refine AppV.rw (m:=1) (news:=encT x) qio trmI trmZ Jk Jk Od hR rfl (fun _=>⟨nb',0,rfl,fun k v hv=>?_⟩) (qab x) (by rw [show ((Tryz.prog.info? 51).get Jk).bytes=56 from by kernel_rfl];omega) Oo ?_
      ·rw [qd (hR.mem.get mh),Nat.zero_add];rw [List.getElem?_toArray];exact hv
      clear hR;intro B2 c2 w18 hR;have hR:Rw w4 w18 (.slice B2 (out++[x]).length c2) 51 4 (out++[x]).length ((out++[x]).map encT).flatten []:=by
       have e:((out++[x]).map encT).flatten=(out.map encT).flatten++encT x:=by simp
       rw [e,zla];exact hR.tail.tail
      (conv=>whnf);rw [hpu] at hmr;refine ⟨⟨a',if ca=1 then some ⟨ga,oa,none⟩ else (some (⟨ga,oa,none⟩:Addr)).map (·.add (1*4)),ca-1,b,some ⟨gb,ob,none⟩,cb,(out++[x]),B2,c2⟩,⟨by show Value.slice _ (a.length-1) _=Value.slice _ a'.length _;rw [na];rfl,rfl,?_,trivial⟩,⟨hSa',by simp only;omega,hSb,hcb,hR,hmr,?_⟩,?_⟩
      ·first|rfl|(show Value.slice _ (out.length+1) _=Value.slice _ (out++[_]).length _;rw [zla];rfl)
      ·simp only [zla,List.length_singleton];omega
      ·simp only;omega
     ·obtain ⟨ho1,ho2⟩:=qbs qcb hR.own rfl;have hon:out≠[]:=by intro e;rw [e] at hout;cases hout
      have hop:0<out.length:=List.length_pos_iff.2 hon;have hz:out[out.length-1]?=some z:=by rw [← hout,List.getLast?_eq_getElem?]
      obtain ⟨go,oo,eO,hco⟩:=ho1.at_ hon;subst eO;have hcz:=hco (out.length-1) z hz;refine zy ?_;refine zv ?_;refine ⟨⟨go,oo,out.length-1,rfl,by omega,by omega,?_⟩⟩;refine zu ?_;refine LoadA.cells (CellsAt.ext hcz xr.drew) rfl (zu ?_);refine zl hR.mem.drew 0 ?_;refine zv ?_;refine RunV.eqTerm (a:=z) (b:=x) (.inr rfl) ?_;cases hzx:qbe z x
      ·have hpu:qam out x=out++[x]:=by rw [qam,hout];simp only [hzx,cond_false]
       have hR:=hR.drew;refine zu ?_;refine zl hR.mem 0 ?_;refine NewV.rw hR fun nb' w17 hR=>zw ?_;refine AppV.rw (m:=1) (news:=encT x) qio trmI trmZ Jk Jk Od hR rfl (fun _=>⟨nb',0,rfl,fun k v hv=>?_⟩) (qab x) (by rw [show ((Tryz.prog.info? 51).get Jk).bytes=56 from by kernel_rfl];omega) Oo ?_
       ·rw [qd (hR.mem.get mh),Nat.zero_add];rw [List.getElem?_toArray];exact hv
       clear hR;intro B2 c2 w18 hR;have hR:Rw w4 w18 (.slice B2 (out++[x]).length c2) 51 4 (out++[x]).length ((out++[x]).map encT).flatten []:=by
        have e:((out++[x]).map encT).flatten=(out.map encT).flatten++encT x:=by simp
        rw [e,zla];exact hR.tail.tail
       (conv=>whnf);rw [hpu] at hmr;refine ⟨⟨a',if ca=1 then some ⟨ga,oa,none⟩ else (some (⟨ga,oa,none⟩:Addr)).map (·.add (1*4)),ca-1,b,some ⟨gb,ob,none⟩,cb,(out++[x]),B2,c2⟩,⟨by show Value.slice _ (a.length-1) _=Value.slice _ a'.length _;rw [na];rfl,rfl,?_,trivial⟩,⟨hSa',by simp only;omega,hSb,hcb,hR,hmr,?_⟩,?_⟩
       ·first|rfl|(show Value.slice _ (out.length+1) _=Value.slice _ (out++[_]).length _;rw [zla];rfl)
       ·simp only [zla,List.length_singleton];omega
       ·simp only;omega
      ·have hpu:qam out x=out:=by rw [qam,hout];simp only [hzx,cond_true]
       refine zu ?_;rw [hpu] at hmr;refine ⟨⟨a',if ca=1 then some ⟨ga,oa,none⟩ else (some (⟨ga,oa,none⟩:Addr)).map (·.add (1*4)),ca-1,b,some ⟨gb,ob,none⟩,cb,out,some ⟨go,oo,none⟩,co⟩,⟨by show Value.slice _ (a.length-1) _=Value.slice _ a'.length _;rw [na];rfl,rfl,?_,trivial⟩,⟨hSa',by simp only;omega,hSb,hcb,hR.tail.drew,hmr,?_⟩,?_⟩
       ·first|rfl|(show Value.slice _ (out.length+1) _=Value.slice _ (out++[_]).length _;rw [zla];rfl)
       ·simp only;omega
       ·simp only;omega
    ·refine zu ?_;refine NewV.rw hR fun tp w6 hR=>zw ?_;refine DrawV.free Jk Jk (zw ?_);(iterate 9 (refine zd ?_));refine zf ?_ (by intro wd hd;refine zu ?_;refine ⟨⟨ga,oa,0,rfl,by omega,by omega,?_⟩⟩;exact ⟨xr,rfl⟩);apply zsd (qa4 x)
     ·intro wd hd;refine zu ?_;refine LoadA.cells (CellsAt.ext hxa ((hR.mem.ext.trans (Ext.refl w6).drew).trans hd)) rfl (zw ?_);exact ⟨xr,rfl⟩
     (conv=>whnf);refine zd ?_;refine zf ?_ (by intro wd hd;refine zu ?_;refine ⟨⟨gb,ob,0,rfl,by omega,by omega,?_⟩⟩;exact ⟨xr,rfl⟩);apply zsd (qa4 y)
     ·intro wd hd;refine zu ?_;refine LoadA.cells (CellsAt.ext hxb ((hR.mem.ext.trans (Ext.refl w6).drew).trans hd)) rfl (zw ?_);exact ⟨xr,rfl⟩
     (conv=>whnf);apply zsd (ii (cmpT x y))
     ·intro wd hd;refine zu ?_;refine zcv (qf1 x y wd) ?_;rintro v w7 ⟨rfl,h7⟩;exact ⟨h7,rfl⟩
     (conv=>whnf);(iterate 3 (refine zd ?_));intro w7 he7;have hR:=hR.drew.call he7;refine zu ?_;refine ⟨⟨gb,ob,0,rfl,by omega,by omega,?_⟩⟩;(conv=>whnf);refine LoadA.cells (CellsAt.ext hxb hR.mem.ext) rfl (zw ?_);refine StoreA.rwAll hR rfl (qab y) fun w8 hR=>zw ?_;refine SliceV.to 1 b.length cb rfl rfl rfl Oo Oo znr (fun h=>by cases h) ?_;rw [show tsz Tryz.prog 51=4 from by kernel_rfl];(conv=>whnf);have hmr:mrgN (a.length+b'.length) a b' (qam out y)=res:=by
      rw [← hmr];subst ea eb;exact (q3i hxy).symm
     rcases hout:out.getLast? with _|z
     ·have hon:out=[]:=List.getLast?_eq_none_iff.1 hout;have ho0:out.length=0:=by rw [hon];rfl
      have hpu:qam out y=out++[y]:=by rw [qam,hout]
      have hR:=hR.drew;refine zy ?_;refine zv ?_;refine zl hR.mem 0 ?_;refine NewV.rw hR fun nb' w17 hR=>zw ?_;refine AppV.rw (m:=1) (news:=encT y) qio trmI trmZ Jk Jk Od hR rfl (fun _=>⟨nb',0,rfl,fun k v hv=>?_⟩) (qab y) (by rw [show ((Tryz.prog.info? 51).get Jk).bytes=56 from by kernel_rfl];omega) Oo ?_
      ·rw [qd (hR.mem.get mh),Nat.zero_add];rw [List.getElem?_toArray];exact hv
      clear hR;intro B2 c2 w18 hR;have hR:Rw w4 w18 (.slice B2 (out++[y]).length c2) 51 4 (out++[y]).length ((out++[y]).map encT).flatten []:=by
       have e:((out++[y]).map encT).flatten=(out.map encT).flatten++encT y:=by simp
       rw [e,zla];exact hR.tail.tail
      (conv=>whnf);rw [hpu] at hmr;refine ⟨⟨a,some ⟨ga,oa,none⟩,ca,b',if cb=1 then some ⟨gb,ob,none⟩ else (some (⟨gb,ob,none⟩:Addr)).map (·.add (1*4)),cb-1,(out++[y]),B2,c2⟩,⟨rfl,by show Value.slice _ (b.length-1) _=Value.slice _ b'.length _;rw [nb];rfl,?_,trivial⟩,⟨hSa,hca,hSb',by simp only;omega,hR,hmr,?_⟩,?_⟩
      ·first|rfl|(show Value.slice _ (out.length+1) _=Value.slice _ (out++[_]).length _;rw [zla];rfl)
      ·simp only [zla,List.length_singleton];omega
      ·simp only;omega
     ·obtain ⟨ho1,ho2⟩:=qbs qcb hR.own rfl;have hon:out≠[]:=by intro e;rw [e] at hout;cases hout
      have hop:0<out.length:=List.length_pos_iff.2 hon;have hz:out[out.length-1]?=some z:=by rw [← hout,List.getLast?_eq_getElem?]
      obtain ⟨go,oo,eO,hco⟩:=ho1.at_ hon;subst eO;have hcz:=hco (out.length-1) z hz;refine zy ?_;refine zv ?_;refine ⟨⟨go,oo,out.length-1,rfl,by omega,by omega,?_⟩⟩;refine zu ?_;refine LoadA.cells (CellsAt.ext hcz xr.drew) rfl (zu ?_);refine zl hR.mem.drew 0 ?_;refine zv ?_;refine RunV.eqTerm (a:=z) (b:=y) (.inr rfl) ?_;cases hzx:qbe z y
      ·have hpu:qam out y=out++[y]:=by rw [qam,hout];simp only [hzx,cond_false]
       have hR:=hR.drew;refine zu ?_;refine zl hR.mem 0 ?_;refine NewV.rw hR fun nb' w17 hR=>zw ?_;refine AppV.rw (m:=1) (news:=encT y) qio trmI trmZ Jk Jk Od hR rfl (fun _=>⟨nb',0,rfl,fun k v hv=>?_⟩) (qab y) (by rw [show ((Tryz.prog.info? 51).get Jk).bytes=56 from by kernel_rfl];omega) Oo ?_
       ·rw [qd (hR.mem.get mh),Nat.zero_add];rw [List.getElem?_toArray];exact hv
       clear hR;intro B2 c2 w18 hR;have hR:Rw w4 w18 (.slice B2 (out++[y]).length c2) 51 4 (out++[y]).length ((out++[y]).map encT).flatten []:=by
        have e:((out++[y]).map encT).flatten=(out.map encT).flatten++encT y:=by simp
        rw [e,zla];exact hR.tail.tail
       (conv=>whnf);rw [hpu] at hmr;refine ⟨⟨a,some ⟨ga,oa,none⟩,ca,b',if cb=1 then some ⟨gb,ob,none⟩ else (some (⟨gb,ob,none⟩:Addr)).map (·.add (1*4)),cb-1,(out++[y]),B2,c2⟩,⟨rfl,by show Value.slice _ (b.length-1) _=Value.slice _ b'.length _;rw [nb];rfl,?_,trivial⟩,⟨hSa,hca,hSb',by simp only;omega,hR,hmr,?_⟩,?_⟩
       ·first|rfl|(show Value.slice _ (out.length+1) _=Value.slice _ (out++[_]).length _;rw [zla];rfl)
       ·simp only [zla,List.length_singleton];omega
       ·simp only;omega
      ·have hpu:qam out y=out:=by rw [qam,hout];simp only [hzx,cond_true]
       refine zu ?_;rw [hpu] at hmr;refine ⟨⟨a,some ⟨ga,oa,none⟩,ca,b',if cb=1 then some ⟨gb,ob,none⟩ else (some (⟨gb,ob,none⟩:Addr)).map (·.add (1*4)),cb-1,out,some ⟨go,oo,none⟩,co⟩,⟨rfl,by show Value.slice _ (b.length-1) _=Value.slice _ b'.length _;rw [nb];rfl,?_,trivial⟩,⟨hSa,hca,hSb',by simp only;omega,hR.tail.drew,hmr,?_⟩,?_⟩
       ·first|rfl|(show Value.slice _ (out.length+1) _=Value.slice _ (out++[_]).length _;rw [zla];rfl)
       ·simp only;omega
       ·simp only;omega
open Go.RowKit
namespace V
theorem qqu {n:Nat} {ops:Array Oper} (hS:ShapeW n ops) {listed:Array Bool} (hsz:listed.size=ops.size) (hr:Region.ready .any ops listed=[]) (k:Nat) (hk:k<ops.size):listed.getD k false=true:=by
 induction k using Nat.strongRecOn with
 | _ k ih=>
  cases hv:listed.getD k false with
  | true=>rfl
  | false=>
   exfalso
   have hmem:k∈Region.ready .any ops listed:=by
    refine mem_ready.2 ⟨?_,ops[k],Array.getElem?_eq_getElem hk,fun e he hb=>?_⟩
    ·have:k<listed.size:=by omega
     simp [this] at hv ⊢;exact hv
    ·rw [qca] at hb;have hp:e.on∈qz ops[k]:=qbc.2 ⟨e,by simpa using he,hb,rfl⟩;have h1:=hS.lt k _ (Array.getElem?_eq_getElem hk) _ hp;exact ih _ h1 Oo
   rw [hr] at hmem;cases hmem
theorem InvD.stepW {n:Nat} {ops:Array Oper} {E:List Ent} {w0 w w':World} {ρ:Nat→Value} {listed:Array Bool} {vals ρa:Nat→Value} {a:Act} {i:Nat} {o:Oper} {e:Ent} {v:Value} (hS:ShapeW n ops) (hl:E.length=ops.size)
  (hd:∀ (i:Nat) (o:Oper) (e:Ent),ops[i]?=some o→E[i]?=some e→EntOk e o) (hfree:∀ (k:Nat) (e:Ent),E[k]?=some e→∀ x w w',e.φ x w→e.φ x w')
  (I:InvD n E w0 ρ listed vals ρa a w) (hsz:listed.size=ops.size) (ho:ops[i]?=some o) (he:E[i]?=some e) (hun:listed.getD i false=false) (hx:Ext w0 w') (hφ:e.φ v w') :
  InvD n E w0 ρ (listed.setIfInBounds i true) (fun k=>if k=i then v else vals k) (match o.dst with|some d=>upd ρa d v|none=>ρa) (a.put o.dst v) w':=by
 have hio:i<ops.size:=(Array.getElem?_eq_some_iff.1 ho).1;have hok:=hd i o e ho he;have hlt:∀ (k:Nat) (e:Ent),E[k]?=some e→k<ops.size:=fun k e hk=>by
  rw [← hl]
  rcases Nat.lt_or_ge k E.length with h|h
  ·exact h
  ·rw [List.getElem?_eq_none h] at hk;cases hk
 have hgd:∀ k,(listed.setIfInBounds i true).getD k false=true→k=i∨(k≠i∧listed.getD k false=true):=fun k hk=>by
  by_cases hki:k=i
  ·exact .inl hki
  ·rw [getD_set_ne false (fun e=>hki e.symm)] at hk;exact .inr ⟨hki,hk⟩
 refine ⟨hx,?_,?_,?_,?_⟩
 ·cases hdd:o.dst with
  | none=>exact I.st
  | some d=>exact I.st.put (hS.dn i o ho d hdd) v
 ·intro k hk e' he'
  rcases hgd k hk with rfl|⟨hki,hk⟩
  ·rw [he] at he';cases he'
   simpa using hφ
  ·simp only [if_neg hki];exact hfree k e' he' _ _ _ (I.φ k hk e' he')
 ·intro k hk e' d he' hdd
  rcases hgd k hk with rfl|⟨hki,hk⟩
  ·rw [he] at he';cases he';rw [hok.d] at hdd;simp [hdd,qd5]
  ·simp only [if_neg hki];have hk':=hlt k e' he';have hd2:=(hd k _ e' (Array.getElem?_eq_getElem hk') he').d;cases ho2:o.dst with
   | none=>exact I.at_ k hk e' d he' hdd
   | some d2=>
    have hne:d≠d2:=by
     rintro rfl;exact hki (hS.uniq i o k _ d ho (Array.getElem?_eq_getElem hk') (hd2 ▸ hdd) ho2)
    simp only;rw [qau _ _ _ _ hne];exact I.at_ k hk e' d he' hdd
 ·intro t ht;have h1:ρa t=ρ t:=I.miss t fun k hk e' he'=>ht k (by
   by_cases hki:k=i
   ·subst hki;rw [hun] at hk;cases hk
   ·rw [getD_set_ne false (fun e=>hki e.symm)];exact hk) e' he'
  cases ho2:o.dst with
  | none=>exact h1
  | some d2=>
   have hne:t≠d2:=by
    rintro rfl;refine ht i ?_ e he (by rw [hok.d,ho2]);have:i<listed.size:=by omega
    simp [this]
   simp only;rw [qau _ _ _ _ hne];exact h1
section
variable {P:Program} {n:Nat} {ops:Array Oper} {w0:World} {E:List Ent} {ρ:Nat→Value}
theorem qvj {I:(Nat→Bool)→(Nat→Value)→World→Prop} {Q:(Nat→Value)→World→Prop} {Q':Exit→Act→World→Prop} (hQ:∀ ρ a w,St n ρ a→Q ρ w→Q' .normal a w) (hS:ShapeW n ops) (hl:E.length=ops.size)
  (hE:∀ (i:Nat) (o:Oper) (e:Ent),ops[i]?=some o→E[i]?=some e→q2r P ops.toList I E ρ i o e) (hF:∃ es',AgreeG es' E∧∀ vals w,I (fun _=>true) vals w→Q (frG es' vals (sfr E ρ)) w) :
  ∀ (fuel:Nat) (listed:Array Bool) (vals ρa:Nat→Value) (a:Act) (w:World),listed.size=ops.size→listed.toList.count false≤fuel→(∀ k,listed.getD k false=true→∀ o,ops[k]?=some o→∀ j∈qz o,listed.getD j false=true)→InvD n E w0 ρ listed vals ρa a w0→I (fun j=>listed.getD j true) vals w→wpAny P .any ops Q' fuel listed a w:=by
 obtain ⟨ef,hA,hF⟩:=hF;have hd:∀ (i:Nat) (o:Oper) (e:Ent),ops[i]?=some o→E[i]?=some e→EntOk e o:=fun i o e h1 h2=>by
  obtain ⟨v,_,rfl,_⟩:=hE i o e h1 h2;refine ⟨rfl,fun _ _ _ h _=>h,fun c hc x w hx=>?_⟩;have hc:v=some c:=hc;subst hc;exact hx
 have hlt:∀ (k:Nat) (e:Ent),E[k]?=some e→k<ops.size:=fun k e hk=>by
  rw [← hl];exact (List.getElem?_eq_some_iff.1 hk).1
 have hfree:∀ (k:Nat) (e:Ent),E[k]?=some e→∀ x w w',e.φ x w→e.φ x w':=fun k e he x w w' h=>by
  have hk:=hlt k e he;obtain ⟨v,_,rfl,_⟩:=hE k _ e (Array.getElem?_eq_getElem hk) he;exact h
 have final:∀ (listed:Array Bool) (vals ρa:Nat→Value) (a:Act) (w:World),(∀ k,k<ops.size→listed.getD k false=true)→listed.size=ops.size→InvD n E w0 ρ listed vals ρa a w0→I (fun j=>listed.getD j true) vals w→Q' .normal a w:=fun listed vals ρa a w hall hsz D hI=>by
  have hT:(fun j=>listed.getD j true)=fun _=>true:=by
   funext j
   rcases Nat.lt_or_ge j listed.size with hj|hj
   ·rw [qb2 hj];exact hall j Oo
   ·simp [Array.getElem?_eq_none hj]
  rw [hT] at hI;have he:frG ef vals (sfr E ρ)=ρa:=by
   funext t
   have:=qf9 hd hl hS D E.length (ef.map (·.1)) t (fun k e hk hdt hki=>⟨hall k (hlt k e hk),fun hv=>by
    obtain ⟨d,v,φ⟩:=e;cases hv;cases hdt;exact hA.all k _ _ hk⟩) (fun k e hk _ _=>by rw [hl];exact hlt k e hk)
   rw [List.take_length,qse _ _ hA.in_] at this;exact this
  exact hQ _ _ _ D.st (he ▸ hF vals w hI)
 intro fuel
 induction fuel with
 | zero=>
  intro listed vals ρa a w hsz hc hdc D hI;have hall:∀ k,k<ops.size→listed.getD k false=true:=fun k hk=>by
   have h1:=List.count_eq_zero.1 (show listed.toList.count false=0 by omega);have hk':k<listed.size:=by omega
   cases hv:listed[k] with
   | true=>simp [hk',hv]
   | false=>exact absurd (by rw [← hv];exact Array.mem_toList_iff.2 (Array.getElem_mem hk')) h1
  exact ⟨qgl fun k hk=>by rw [qb2 Oo];exact hall k hk,final listed vals ρa a w hall hsz D hI⟩
 | succ fuel ih=>
  intro listed vals ρa a w hsz hc hdc D hI;refine ⟨fun hr=>final listed vals ρa a w (fun k hk=>qqu hS hsz hr k hk) hsz D hI,fun i hi=>?_⟩;obtain ⟨hun,o,ho,hall⟩:=mem_ready.1 hi;have hio:i<ops.size:=(Array.getElem?_eq_some_iff.1 ho).1;have hnl:listed.getD i false=false:=by rw [← qb2 Oo];exact hun
  have hpl:∀ k∈qz o,listed.getD k false=true:=fun k hk=>by
   obtain ⟨e,he,hb,hon⟩:=qbc.1 hk;rw [← hon];exact hall e (by simpa using he) (by rw [qca];exact hb)
  have hiE:E[i]?=some E[i]:=zge Oo;obtain ⟨v,es,he,hAi,hspec⟩:=hE i o E[i] ho hiE;have hlp:∀ k∈qz o,listed.getD k true=true:=fun k hk=>by
   have:=hpl k hk
   rcases Nat.lt_or_ge k listed.size with hj|hj
   ·rw [qb2 hj];exact this
   ·simp [Array.getElem?_eq_none hj]
  have h:=hspec (fun j=>listed.getD j true) vals w hun hlp hI;have hag:∀ t∈o.looksAt ops,frG es vals (sfr (E.take i) ρ) t=ρa t:=fun t ht=>by
   have hp:∀ (k:Nat) (e:Ent),E[k]?=some e→e.d=some t→k∈qz o∨(i<k∧listed.getD k false≠true):=fun k e hk hdt=>by
    have hk':=hlt k e hk
    rcases hS.look i o k ops[k] t ho (Array.getElem?_eq_getElem hk') ((hd k _ e (Array.getElem?_eq_getElem hk') hk).d ▸ hdt) ht with h|h
    ·exact .inl h
    ·refine .inr ⟨hS.lt k _ (Array.getElem?_eq_getElem hk') i h,fun hl=>?_⟩;have:=hdc k hl _ (Array.getElem?_eq_getElem hk') i h;rw [hnl] at this;cases this
   have:=qf9 hd hl hS D i (es.map (·.1)) t (fun k e hk hdt hki=>by
    rcases hp k e hk hdt with h|h
    ·exact ⟨hpl k h,fun hv=>by
      obtain ⟨d,v,φ⟩:=e;cases hv;cases hdt;exact hAi.all k _ _ (by rw [List.getElem?_take,if_pos hki];exact hk)⟩
    ·omega) (fun k e hk hdt hlk=>by
    rcases hp k e hk hdt with h|h
    ·exact hS.lt i o ho k h
    ·exact absurd hlk h.2)
   rw [qse _ _ hAi.in_] at this;exact this
  refine qlf ho hS D.st hag h fun v' w' ⟨hv,hI'⟩=>?_;have hset:(fun j=>(listed.setIfInBounds i true).getD j true)=setS (fun j=>listed.getD j true) i:=by
   funext j
   unfold setS
   by_cases hji:j=i
   ·subst hji;have:j<listed.size:=by omega
    simp [this]
   ·have:Nat.beq j i=false:=Bool.eq_false_iff.2 fun e=>hji (Nat.eq_of_beq_eq_true e)
    rw [this,getD_set_ne true (fun e=>hji e.symm)];rfl
  have hvals:(fun k=>if k=i then v' else vals k)=upd vals i v':=by
   funext k
   by_cases hk:k=i
   ·subst hk;simp [upd]
   ·rw [if_neg hk,qau _ _ _ _ hk]
  refine ih _ (upd vals i v') _ _ _ (by simp [hsz]) (by have:=qcs listed i hun;omega) (fun k hk o' ho' j hj=>by
   have hset:∀ j,listed.getD j false=true→(listed.setIfInBounds i true).getD j false=true:=fun j hj=>by
    by_cases hji:j=i
    ·subst hji;rw [hnl] at hj;cases hj
    ·rw [getD_set_ne false (fun e=>hji e.symm)];exact hj
   by_cases hki:k=i
   ·subst hki;rw [ho] at ho';cases ho';exact hset j (hpl j hj)
   ·rw [getD_set_ne false (fun e=>hki e.symm)] at hk;exact hset j (hdc k hk o' ho' j hj)) (hvals ▸ InvD.stepW (v:=v') hS hl hd hfree D hsz ho hiE hnl xr (by rw [he];exact hv)) ?_
  rw [hset];exact hI'
end
theorem DrawV.genW {P:Program} {n id:Nat} {ops:Array Oper} {Q:Exit→(Nat→Value)→World→Prop} {ρ:Nat→Value} {w:World} (I:(Nat→Bool)→(Nat→Value)→World→Prop) (hm:P.follows .mixedOrders=true) (hB:qs1 n ops=true)
  (h0:∀ vals,I (fun j=>Nat.ble ops.size j) vals w.drew) (h:regG P ops.toList I (fun ρ' w'=>Q .normal ρ' w') ops.toList 0 [] ρ):DrawV P n id ops Q ρ w:=by
 refine ⟨fun a ha=>wp_region_any hm ?_⟩;obtain ⟨E,h1,h2,h3⟩:=qnj ops.toList [] [] ρ (AgreeG.mk (fun _ _ h=>by cases h) (fun _ _ _ h=>by simp at h)) h;refine qvj (I:=I) (Q:=fun ρ' w'=>Q .normal ρ' w') (E:=E) (w0:=w.drew) (ρ:=ρ) (fun ρ a w h1 h2=>⟨ρ,h1,h2⟩) (qo9 hB) (by simpa using h1) (fun i o e ho he=>?_) (by simpa using h3) _ _ (fun _=>undef) ρ a _ Js Js (fun k hk=>by rw [qh] at hk;cases hk) ⟨xr,ha,?_,?_,fun t _=>rfl⟩ ?_
 ·have:=h2 i o e (by simpa using ho) he
  simpa using this
 ·intro k hk;rw [qh] at hk;cases hk
 ·intro k hk;rw [qh] at hk;cases hk
 ·have:(fun j=>(Array.replicate ops.size false).getD j true)=fun j=>Nat.ble ops.size j:=by
   funext j
   rcases Nat.lt_or_ge j ops.size with hj|hj
   ·have h2:Nat.ble ops.size j=false:=Bool.eq_false_iff.2 fun e=>by have:=Nat.le_of_ble_eq_true e;omega
    simp [hj,h2]
   ·rw [Nat.ble_eq_true_of_le hj];simp [hj]
  rw [this];exact h0 _
end V
def ApI (w0:World) (e:TypeId) (size n m:Nat) (v0:Value) (xs news:List Value) (s1 s2 s3:Bool) (v1 v2 v3:Value) (w':World):Prop:=
 (s1=false∧s2=false∧s3=false∧Rw w0 w' v0 e size n xs [])∨
 (s1=true∧s2=false∧s3=false∧∃ nb,v1=.slice (some ⟨nb,0,none⟩) m m∧Rw w0 w' v0 e size n xs [(nb,.cells news.toArray e)])∨
 (s1=true∧s2=true∧∃ B c,v2=.slice B (n+m) c∧(s3=true→v3=.slice B (n+m) c)∧Rw w0 w' (.slice B (n+m) c) e size (n+m) (xs++news) [])
theorem ApI.ext {w0:World} {e:TypeId} {size n m:Nat} {v0:Value} {xs news:List Value} {s1 s2 s3:Bool} {v1 v2 v3:Value} {w':World} (h:ApI w0 e size n m v0 xs news s1 s2 s3 v1 v2 v3 w'):Ext w0 w':=by
 rcases h with ⟨_,_,_,h⟩|⟨_,_,_,_,_,h⟩|⟨_,_,_,_,_,_,h⟩
 all_goals exact h.mem.ext
theorem ApI.build {w0:World} {e:TypeId} {size n m:Nat} {v0:Value} {xs news:List Value} {s2 s3:Bool} {v1 v2 v3:Value} {w w':World} (h:ApI w0 e size n m v0 xs news false s2 s3 v1 v2 v3 w) {b:Nat} (hb:b=w.heap.size) (hw:w'=w.alloc (.cells news.toArray e)) :
  ApI w0 e size n m v0 xs news true s2 s3 (.slice (some ⟨b,0,none⟩) m m) v2 v3 w':=by
 rcases h with ⟨_,h2,h3,h⟩|⟨h1,_⟩|⟨h1,_⟩
 ·exact .inr (.inl ⟨rfl,h2,h3,b,rfl,h.newBlk hb hw⟩)
 ·cases h1
 ·cases h1
theorem ApI.mid {w0:World} {e:TypeId} {size n m:Nat} {v0:Value} {xs news:List Value} {s3:Bool} {v1 v2 v3:Value} {w:World} (h:ApI w0 e size n m v0 xs news true false s3 v1 v2 v3 w) :
  s3=false∧∃ nb,v1=.slice (some ⟨nb,0,none⟩) m m∧Rw w0 w v0 e size n xs [(nb,.cells news.toArray e)]:=by
 rcases h with ⟨h1,_⟩|⟨_,_,h3,h⟩|⟨_,h2,_⟩
 ·cases h1
 ·exact ⟨h3,h⟩
 ·cases h2
theorem ApI.end_ {w0:World} {e:TypeId} {size n m:Nat} {v0:Value} {xs news:List Value} {s1 s3:Bool} {v1 v2 v3:Value} {w:World} (h:ApI w0 e size n m v0 xs news s1 true s3 v1 v2 v3 w) :
  s1=true∧∃ B c,v2=.slice B (n+m) c∧(s3=true→v3=.slice B (n+m) c)∧Rw w0 w (.slice B (n+m) c) e size (n+m) (xs++news) []:=by
 rcases h with ⟨_,h2,_⟩|⟨_,h2,_⟩|⟨h1,_,h⟩
 ·cases h2
 ·cases h2
 ·exact ⟨h1,h⟩
def trQ (q:Q4):List TM:=[q.s,q.p,q.o]++if q.g.kind=0 then [] else [q.g]
def trms (qs:List Q4):List TM:=(qs.map trQ).flatten
theorem q5y (q:Q4):(trQ q).length≤4:=by unfold trQ;split<;>simp
theorem qyy (qs:List Q4):(trms qs).length≤4*qs.length:=by
 induction qs with
 | nil=>exact Nat.le_refl _
 | cons q qs ih=>
  have:=q5y q;simp only [trms,List.map_cons,List.flatten_cons,zla,List.length_cons] at ih ⊢;omega
theorem qpl (qs:List Q4) (i:Nat) (q:Q4) (h:qs[i]?=some q):trms (qs.take (i+1))=trms (qs.take i)++trQ q:=by
 rw [List.take_add_one,h];simp [trms]
theorem qwk (q:Q4):∀ v∈encT q.s++encT q.p++encT q.o,v.oneCell'=true:=by
 intro v hv
 rcases List.mem_append.1 hv with hv|hv
 ·rcases List.mem_append.1 hv with hv|hv
  ·exact qab _ v hv
  ·exact qab _ v hv
 ·exact qab _ v hv
theorem qpj (qs:List Q4) (A:oA) (c:Nat) (w:World) (hS:SlAt qae 16 w A qs) (hl:qs.length≤4194304) :
  Gv Tryz.prog 35 [.slice A qs.length c] w fun v w'=>TmR (tmsN (trms qs).length (trms qs)) v w'∧Ext w w':=by
 refine ze Tryz.func35 Tryz.ntmps35 ?_;refine qr (fun x:Nat × List TM × oA × Nat=>[(0,.slice A qs.length c),(3,.slice x.2.2.1 x.2.1.length x.2.2.2),(4,ii x.1)])
  (fun x w'=>x.1≤qs.length∧x.2.1=trms (qs.take x.1)∧Rw w w' (.slice x.2.2.1 x.2.1.length x.2.2.2) 51 4 x.2.1.length (x.2.1.map encT).flatten []) (fun x=>qs.length-x.1) (0,[],none,0)
  ⟨rfl,rfl,rfl,trivial⟩ ⟨by simp,rfl,Rw.nil (Mem.nil w)⟩ ?_
 rintro ⟨i,out,B,cb⟩ w1 ρ' ⟨h1,h2,hR⟩;dsimp only at h1 h2 hR ⊢;(conv=>whnf);refine zC (fun _=>zw ?_) (fun _=>zw ?_)
 ·have hil:i<qs.length:=by omega
  obtain ⟨g,o,eA,hc⟩:=hS.at_ (by intro e;rw [e] at hil;simp at hil);subst eA;obtain ⟨q,hq⟩:∃ q,qs[i]?=some q:=⟨_,zge hil⟩
  have hcq:=hc i q hq;have hto:=qyy (qs.take i);rw [← h2,List.length_take,Nat.min_eq_left h1] at hto;refine DrawV.genW (fun S vals w'=>ApI w 51 4 out.length 3 (.slice B out.length cb) (out.map encT).flatten (encT q.s++encT q.p++encT q.o) (S 16) (S 17) (S 18) (vals 16) (vals 17) (vals 18) w') rfl Jk (fun vals=>.inl ⟨rfl,rfl,rfl,hR.drew⟩) ?_;clear hR;(conv=>whnf);(iterate 3 (refine zg ?_));refine StepG.of (.pointer (some ⟨g,o+i*16,none⟩)) (fun S vals wd hk hp hI=>zw ?_) (zw ?_)
  ·refine ⟨⟨g,o,i,rfl,by omega,by omega,?_⟩⟩;rw [show tsz Tryz.prog 53=16 from by kernel_rfl];(conv=>whnf);exact ⟨rfl,hI⟩
  refine StepG.of (.pointer (some ⟨g,o+i*16+0,none⟩)) (fun S vals wd hk hp hI=>zw ?_) (zw ?_)
  ·exact ⟨rfl,hI⟩
  refine StepG.of (qa4 q.s) (fun S vals wd hk hp hI=>zw ?_) (zw ?_)
  ·refine LoadA.cells ((qag hcq 0 Oo).ext hI.ext) rfl (zw ?_);exact ⟨rfl,hI⟩
  refine zg ?_;refine zg ?_;refine StepG.of (.pointer (some ⟨g,o+i*16,none⟩)) (fun S vals wd hk hp hI=>zw ?_) (zw ?_)
  ·refine ⟨⟨g,o,i,rfl,by omega,by omega,?_⟩⟩;rw [show tsz Tryz.prog 53=16 from by kernel_rfl];(conv=>whnf);exact ⟨rfl,hI⟩
  refine StepG.of (.pointer (some ⟨g,o+i*16+4,none⟩)) (fun S vals wd hk hp hI=>zw ?_) (zw ?_)
  ·exact ⟨rfl,hI⟩
  refine StepG.of (qa4 q.p) (fun S vals wd hk hp hI=>zw ?_) (zw ?_)
  ·refine LoadA.cells ((qag hcq 1 Oo).ext hI.ext) rfl (zw ?_);exact ⟨rfl,hI⟩
  refine zg ?_;refine zg ?_;refine StepG.of (.pointer (some ⟨g,o+i*16,none⟩)) (fun S vals wd hk hp hI=>zw ?_) (zw ?_)
  ·refine ⟨⟨g,o,i,rfl,by omega,by omega,?_⟩⟩;rw [show tsz Tryz.prog 53=16 from by kernel_rfl];(conv=>whnf);exact ⟨rfl,hI⟩
  refine StepG.of (.pointer (some ⟨g,o+i*16+8,none⟩)) (fun S vals wd hk hp hI=>zw ?_) (zw ?_)
  ·exact ⟨rfl,hI⟩
  refine StepG.of (qa4 q.o) (fun S vals wd hk hp hI=>zw ?_) (zw ?_)
  ·refine LoadA.cells ((qag hcq 2 Oo).ext hI.ext) rfl (zw ?_);exact ⟨rfl,hI⟩
  refine StepG.any (fun S vals wd hk hp hI=>?_) (zw ?_)
  ·dsimp only at hI;rw [hk] at hI;(conv=>whnf);refine ⟨fun b w' hb hw=>?_⟩;(conv=>whnf);exact ⟨trivial,hI.build hb hw⟩
  refine StepG.any (fun S vals wd hk hp hI=>?_) (zw ?_)
  ·dsimp only at hI;have h16:S 16=true:=hp 16 Od;rw [hk,h16] at hI;obtain ⟨h18,nb,hv,hR⟩:=hI.mid;rw [qm hv];(conv=>whnf);refine AppV.rw (m:=3) (news:=encT q.s++encT q.p++encT q.o) qio trmI trmZ Jk Jk Od hR rfl (fun _=>⟨nb,0,rfl,fun k v hv=>?_⟩) (qwk q) (by rw [show ((Tryz.prog.info? 51).get Jk).bytes=56 from by kernel_rfl];omega) Oo ?_
   ·rw [qd (hR.mem.get mh),Nat.zero_add];rw [List.getElem?_toArray];exact hv
   intro B2 c2 w18 hR2;exact ⟨trivial,.inr (.inr ⟨h16,rfl,B2,c2,rfl,fun h=>absurd (h18.symm.trans h) Od,hR2.tail⟩)⟩
  refine StepG.any (fun S vals wd hk hp hI=>?_) (zw ?_)
  ·dsimp only at hI;have h17:S 17=true:=hp 17 Od;rw [hk,h17] at hI;obtain ⟨h16,B2,c2,hv,_,hR⟩:=hI.end_;rw [qm hv];(conv=>whnf);exact ⟨trivial,.inr (.inr ⟨h16,h17,B2,c2,rfl,fun _=>rfl,hR⟩)⟩
  intro vals w2 hI;obtain ⟨_,B2,c2,hv,hv2,hR⟩:=hI.end_;replace hv2:=hv2 rfl;rw [qm hv,qm hv2];clear hI hv hv2;obtain ⟨out3,eout⟩:∃ out3,out3=out++[q.s,q.p,q.o]:=⟨_,rfl⟩
  have el3:out3.length=out.length+3:=by rw [eout];simp
  have hR:Rw w w2 (.slice B2 out3.length c2) 51 4 out3.length (out3.map encT).flatten []:=by
   have e:(out3.map encT).flatten=(out.map encT).flatten++(encT q.s++encT q.p++encT q.o):=by rw [eout];simp
   rw [e,el3];exact hR
  rw [← el3];have hck:w2.cell? ⟨g,o+i*16+12,none⟩=some (ii q.g.kind):=Ext.cell hR.mem.ext (qag hcq 3 Oo 0 _ rfl);(conv=>whnf);refine ⟨⟨g,o,i,rfl,by omega,by omega,?_⟩⟩;rw [show tsz Tryz.prog 53=16 from by kernel_rfl];(conv=>whnf);refine LoadV.of hck (zw ?_);refine zC (fun _=>zu ?_) (fun _=>zu ?_)
  ·have etr:out3++[q.g]=out++trQ q:=by rw [eout,trQ,if_neg Oo];simp
   refine ⟨⟨g,o,i,rfl,by omega,by omega,?_⟩⟩;rw [show tsz Tryz.prog 53=16 from by kernel_rfl];(conv=>whnf);refine LoadA.cells ((qag hcq 3 Oo).ext hR.mem.ext) rfl (zw ?_);refine NewV.rw hR fun nb w3 hR=>zw ?_;refine AppV.rw (m:=1) (news:=encT q.g) qio trmI trmZ Jk Jk Od hR rfl (fun _=>⟨nb,0,rfl,fun k v hv=>?_⟩) (qab q.g) (by rw [show ((Tryz.prog.info? 51).get Jk).bytes=56 from by kernel_rfl];omega) Oo ?_
   ·rw [qd (hR.mem.get mh),Nat.zero_add];rw [List.getElem?_toArray];exact hv
   clear hR;intro B3 c3 w4 hR;have hR:Rw w w4 (.slice B3 (out++trQ q).length c3) 51 4 (out++trQ q).length ((out++trQ q).map encT).flatten []:=by
    have e:((out++trQ q).map encT).flatten=(out3.map encT).flatten++encT q.g:=by rw [← etr];simp
    rw [e,← etr,zla];exact hR.tail
   refine zu ?_;refine ⟨(i+1,out++trQ q,B3,c3),⟨rfl,?_,rfl,trivial⟩,⟨by simp only;omega,?_,hR⟩,by simp only;omega⟩
   ·show Value.slice B3 (out3.length+1) c3=Value.slice B3 (out++trQ q).length c3;rw [← etr,zla];rfl
   ·show out++trQ q=trms (qs.take (i+1));rw [qpl qs i q hq,← h2]
  ·have etr:out3=out++trQ q:=by rw [eout,trQ,if_pos Oo];simp
   refine ⟨(i+1,out3,B2,c2),⟨rfl,rfl,rfl,trivial⟩,⟨by simp only;omega,?_,hR⟩,by simp only;omega⟩;show out3=trms (qs.take (i+1));rw [qpl qs i q hq,← h2,etr]
 ·obtain rfl:i=qs.length:=by omega
  rw [List.take_length] at h2;subst h2;have hle:=qyy qs;obtain ⟨o1,o2⟩:=qbs qcb hR.own rfl;have hcall:=qra (trms qs).length (trms qs) B cb w1 znr o1 o2 Oo;generalize trms qs=ts at *;refine zcv (hcall) ?_;rintro v w5 ⟨h5,h6⟩;obtain ⟨B5,d5,rfl,_,_⟩:=id h5;(conv=>whnf);exact ⟨h5,hR.mem.ext.trans h6⟩
end Go.Proofs.YtaiiejogocblgaaGreatDoor
