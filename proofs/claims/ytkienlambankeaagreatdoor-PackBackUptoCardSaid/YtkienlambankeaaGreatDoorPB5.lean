/- Lemmas and contracts of functions on the way to the law's card (part 5 of 10). -/
import Derived.Test.YtkienlambankeaaGreatDoorPB4
namespace Go.Proofs.YtkienlambankeaaGreatDoor
set_option maxHeartbeats 8000000
open Go.RowKit V
set_option maxRecDepth 100000
def errV (b:Nat):Value:=.iface 104 (pp b)
def errO (p c:Nat):Obj:=.cells #[ii p,.iface 26 (ii c)] 106
theorem qli (p c:Nat) (w:World):Gv Tryz.prog 102 [ii p,ii c] w fun v w'=>∃ b,v=errV b∧w.heap.size≤b∧w'.heap[b]?=some (errO p c)∧Ext w w':=by
 refine ze Tryz.func102 Tryz.ntmps102 ?_;refine znm (Mem.nil w) fun b w1 hm=>zw ?_;exact ⟨b,rfl,(hm.own _ mh).1,hm.get mh,hm.ext⟩
def ErrTyp (w:World):Prop:=w.cell? ⟨2,0,none⟩=some (.iface 308 (.agg #[.pointer (some ⟨7,37,none⟩)]))
theorem ErrTyp.ext {w w':World} (h:ErrTyp w) (he:Ext w w'):ErrTyp w':=he.cell h
theorem qpa (t:Value) (w:World):Gv Tryz.prog 118 [.nilIface,t] w fun r w'=>r=.bool false∧w'=w:=
 qfa Jk ((qaba t w).mono fun e w' ⟨he,hw⟩=>⟨_,he,rfl,hw⟩)
theorem qo9 (e pb:Nat) {w0 w:World} {L:List (Nat × Obj)} {i:Nat} (hm:Mem w0 w L) (hi:L[i]?=some (pb,.cells #[.pointer none] 104)) (hg:ErrTyp w) :
  Gv Tryz.prog 118 [errV e,.iface 216 (pp pb)] w fun r w'=>r=.bool true∧Mem w0 w' (L.set i (pb,.cells #[pp e] 104))∧
   ∃ w4,Ext w w4∧∀ c,c≠pb→w'.heap[c]?=w4.heap[c]?:=by
 have hb:=hm.get (zmg hi);refine qfa Jk ((qaa9 ⟨e,0,none⟩ ⟨pb,0,none⟩ (.pointer none) w hg (by rw [qc hb];rfl) (by simp [World.frozen?,hb])).mono ?_);rintro r w' ⟨rfl,hw⟩;refine ⟨_,rfl,rfl,?_,_,(((((Ext.refl w).alloc _).alloc _).alloc _).alloc _),fun c hc=>by subst hw;exact Below.heap_setCell _ _ _ _ hc⟩;exact (hm.call (((((Ext.refl w).alloc _).alloc _).alloc _).alloc _)).setCell hi hw
def fE (l:LB) (E:Nat→Nat × Nat):Nat × Nat:=if (sE l).2≠0 then sE l else errF (fun k=>if (E k).2=0 then (0,0) else (ql l k+(E k).1,(E k).2)) 3
def vF (d:Nat→Nat) (l:LB) (k:Nat):Nat→Value:=fun j=>
 if j=6 then ii (vTot l k:Nat) else if j/2<k then (if j%2=0 then .pointer (some ⟨d (j/2),0,none⟩) else ii (vTot l (j/2)+1:Nat)) else (if j%2=0 then .pointer none else ii 0)
structure VocAt (w:World) (b:Nat) (l:LB):Prop where
 h:∃ d,w.heap[b]?=some (.cells (fnA 7 (vF d l 3)) 153)∧∀ k,k<3→DictAt w (d k) (sDict l k)
theorem VocAt.ext {w w':World} {b:Nat} {l:LB} (h:VocAt w b l) (he:Ext w w'):VocAt w' b l:=by
 obtain ⟨d,h1,h2⟩:=h;exact ⟨d,he.get h1,fun k hk=>(h2 k hk).ext he⟩
def DoR (m:LB) (E:Nat × Nat) (v:Value) (w:World):Prop:=
 (E.2≠0∧∃ e,v=.tuple #[.pointer none,e]∧ErrAt w e E.1 E.2)∨(E.2=0∧∃ b,v=.tuple #[pp b,.nilIface]∧DictAt w b m)
def FndR (l:LB) (E:Nat→Nat × Nat) (v:Value) (w:World):Prop:=
 ((fE l E).2≠0∧∃ G e,v=.tuple #[.pointer none,.agg (fnA 3 (inF G)),e]∧ErrAt w e (fE l E).1 (fE l E).2)∨
 ((fE l E).2=0∧∃ b G,v=.tuple #[pp b,.agg (fnA 3 (inF G)),.nilIface]∧(∀ k,k<3→G k=((ql l k:Nat):Int))∧VocAt w b l)
theorem qug (n:Nat) (F:Nat→Value) (j:Nat) (h:j<n):(fnA n F).toList[j]?=some (F j):=by
 have:=qbd n F j h
 simpa using this
theorem qpv {n:Nat} {F G:Nat→Value} (h:∀ j,j<n→F j=G j):fnA n F=fnA n G:=by
 unfold fnA
 congr 1
 exact List.map_congr_left fun j hj=>h j (by simpa using hj)
theorem q31 (n:Nat) (F:Nat→Value) (i:Nat) (a b:Value) (h:i+2≤n):((fnA n F).toList.take i++[a,b]++(fnA n F).toList.drop (i+[a,b].length)).toArray=fnA n (updF (updF F i a) (i+1) b):=by
 rw [← qe8,← qe8,← Array.toList_inj];simp only [Array.toList_setIfInBounds,List.length_cons,List.length_nil];have hl:(fnA n F).toList.length=n:=by simp [qv]
 generalize (fnA n F).toList=xs at hl;apply List.ext_getElem?;intro j;rw [List.getElem?_set,List.getElem?_set,List.append_assoc,List.getElem?_append];simp only [List.length_take,List.length_set,hl]
 by_cases h1:j<i
 ·rw [if_pos Oo,if_neg Oo,if_neg Oo,List.getElem?_take,if_pos h1]
 ·rw [if_neg Oo,List.getElem?_append];simp only [List.length_cons,List.length_nil]
  by_cases h2:j=i
  ·subst h2;rw [if_pos Oo,if_neg Oo,if_pos rfl,if_pos Oo,show j-min j n=0 by omega];rfl
  ·by_cases h3:j=i+1
   ·subst h3;rw [if_pos Oo,if_pos rfl,if_pos Oo,show i+1-min i n=1 by omega];rfl
   ·rw [if_neg Oo,if_neg Oo,if_neg Oo,List.getElem?_drop]
    congr 1
    omega
theorem DictAt.other {w w':World} {b x:Nat} {m:LB} {cs:Array Value} {t:TypeId} {fz:Nat × Nat} (h:DictAt w b m) (hx:w.heap[x]?=some (.cells cs t fz)) (ht:t≠253) (hc:∀ v∈cs.toList,∀ c:Nat,v≠.int .u8 c)
  (hw:∀ c,c≠x→w'.heap[c]?=w.heap[c]?):DictAt w' b m:=by
 obtain ⟨⟨P,cp,E,ce,h1,h2,h3,h4⟩,h5,h6,h7,h8⟩:=h;have hbx:b≠x:=by
  intro e;subst e;rw [hx] at h1
  injection h1 with h1
  injection h1 with _ h1 _
  exact ht h1
 have hne:∀ (z:LB),∀ y∈z,∀ v∈cs.toList,(encB y)[0]?≠some v:=fun z y _ v hv e=>by
  cases e;exact hc _ hv _ rfl
 exact ⟨⟨P,cp,E,ce,by rw [hw b hbx];exact h1,h2.other hx (hne _) (fun _ _ e=>by cases e) hw,h3.other hx (hne _) (fun _ _ e=>by cases e) hw,h4⟩,h5,h6,h7,h8⟩
theorem q7r (d:Nat→Nat) (l:LB) (k j:Nat):∀ c:Nat,vF d l k j≠.int .u8 c:=by
 intro c;unfold vF
 split
 ·intro e;cases e
 ·split
  ·split<;>(intro e;cases e)
  ·split<;>(intro e;cases e)
theorem qaax (d:Nat→Nat) (l:LB) (k b:Nat) (hk:k<3):fnA 7 (updF (updF (updF (vF d l k) (2*k) (pp b)) (2*k+1) (ii (vTot l k+1:Nat))) 6 (ii (vTot l (k+1):Nat))) =
  fnA 7 (vF (fun j=>if j=k then b else d j) l (k+1)):=qpv fun j hj=>by
 rcases (show k=0∨k=1∨k=2 by omega) with rfl|rfl|rfl<;>
 rcases (show j=0∨j=1∨j=2∨j=3∨j=4∨j=5∨j=6 by omega) with rfl|rfl|rfl|rfl|rfl|rfl|rfl<;>rfl
theorem qpx (l:LB) (A:oA) (c:Nat) (w:World) (hS:SlAt encB 1 w A l) (hc:l.length≤c) (hl:l.length≤70368744177664) (hG:ErrTyp w) (f:FuncId) (E:Nat→Nat × Nat) (hEb:∀ k,k<3→(E k).1≤70368744177664)
  (hf:∀ k,k<3→∀ w' B c',Ext w w'→SlAt encB 1 w' B (sDict l k)→(sDict l k).length≤c'→Gv Tryz.prog f [.slice B (sDict l k).length c'] w' fun v w''=>DoR (sDict l k) (E k) v w''∧Ext w' w'') :
  Gv Tryz.prog 57 [.slice A l.length c,.func (.func f) #[] #[]] w fun v w'=>FndR l E v w'∧Ext w w':=by
 refine ze Tryz.func57 Tryz.ntmps57 ?_;refine znm (Mem.nil w) fun r5 w1 hm=>zw ?_;refine zcv (qds _ l w1 ⟨A,c,rfl,hc,hS.ext hm.ext⟩) ?_;rintro v w2 ⟨cb,rfl,hcb,hco,he1⟩;have hm:=hm.fresh he1 hcb hco;(conv=>whnf);refine znm hm fun sz w3 hm=>zw ?_;refine znm hm ?_;intro pl w4 hm;have hm:Mem w w4 [(pl,.cells (fnA 3 (inF (fun _:Nat=>(0:Int)))) 129),(sz,.cells (fnA 3 (inF (fun _:Nat=>(0:Int)))) 129),(cb,curO 244 (.slice A l.length c) (vAt l 0) 0),(r5,.cells (fnA 3 (inF (fun _:Nat=>(0:Int)))) 129)]:=hm;(conv=>whnf);refine qw (fun x:Nat × (Nat→Int)=>[(0,.slice A l.length c),(1,.func (.func f) #[] #[]),(4,.pointer none),(5,pp r5),(6,.nilIface),(7,pp cb),(8,pp sz),(9,pp pl),(24,ii x.1)])
  (fun x w'=>x.1≤3∧(∀ j,j<x.1→(vsF l j).2=0)∧(∀ j,j<x.1→x.2 j=((vNum l j:Nat):Int))∧Mem w w' [(pl,.cells (fnA 3 (inF (fun _:Nat=>(0:Int)))) 129),(sz,.cells (fnA 3 (inF (x.2))) 129),(cb,curO 244 (.slice A l.length c) (vAt l x.1) 0),(r5,.cells (fnA 3 (inF (fun _:Nat=>(0:Int)))) 129)]) (fun x=>3-x.1) (0,fun _:Nat=>(0:Int))
  ⟨rfl,rfl,rfl,rfl,rfl,rfl,rfl,rfl,rfl,trivial⟩ ⟨by simp,fun j h=>by simp at h,fun j h=>by simp at h,hm⟩ ?_
 clear hm hco he1 hcb;rintro ⟨k,Q⟩ w6 ρ' ⟨k1,hz,hQ,hm⟩;dsimp only at k1 hz hQ hm ⊢;have hle:=qgb l k;have hlt:=qs6 l k;(conv=>whnf);refine zC (fun _=>zw ?_) (fun _=>zw ?_)
 ·refine zcv (qiz cb (.slice A l.length c) (vAt l k) 0 w6 (hm.get Js)) ?_;rintro r w7 ⟨rfl,rfl⟩;(conv=>whnf);refine zcv (qch cb (.slice A l.length c) (vAt l k) 0 l _ (hm.get Js) ⟨A,c,rfl,hc,hS.ext hm.ext⟩ hle Oo) ?_;rintro r w8 ⟨rfl,hu⟩
  by_cases he:(numL (l.drop (vAt l k))).2.2=0
  case neg=>
   rw [qov he,qow he] at hu;rw [qou he];obtain ⟨q,eq⟩:∃ q,q=(numL (l.drop (vAt l k))).2.2:=⟨_,rfl⟩
   have hf:vsF l k=(vAt l k,q):=by rw [vsF,qck he,eq]
   rw [← eq] at hu he;have hE1:sE l=(vAt l k,q):=by rw [q7f hz Oo (by rw [hf];exact he),hf]
   have hE:fE l E=(vAt l k,q):=by rw [fE,hE1,if_pos he]
   have hm:Mem w w8 [(pl,.cells (fnA 3 (inF (fun _:Nat=>(0:Int)))) 129),(sz,.cells (fnA 3 (inF (Q))) 129),(cb,curO 244 (.slice A l.length c) (vAt l k) q),(r5,.cells (fnA 3 (inF (fun _:Nat=>(0:Int)))) 129)]:=hm.upd (i:=2) rfl hu;(conv=>whnf);refine zcv (qb2 cb (.slice A l.length c) (vAt l k) q w8 (hm.get Js)) ?_;rintro r w9 ⟨rfl,rfl⟩;refine zu ?_;refine DrawV.gen (fun S vals w'=>Er w [(pl,.cells (fnA 3 (inF (fun _:Nat=>(0:Int)))) 129),(sz,.cells (fnA 3 (inF (Q))) 129),(cb,curO 244 (.slice A l.length c) (vAt l k) q),(r5,.cells (bif S 6 then fnA 3 (inF (fun _:Nat=>(0:Int))) else fnA 3 (inF (fun _:Nat=>(0:Int)))) 129)] (errO (vAt l k) (q)) errV errV errV (S 4) false (S 7) (vals 4) undef (vals 7) w') rfl Jk (fun vals=>Er.start hm.drew) ?_;clear hm;(conv=>whnf);refine StepG.of (.agg (fnA 3 (inF (fun _:Nat=>(0:Int))))) (fun S vals wd hk hp hI=>zw ?_) (zw ?_)
   ·refine LoadA.mem hI.mem (i:=0) rfl (by simp [qv];rfl) (zw ?_);exact ⟨rfl,hI⟩
   refine zg ?_;refine zg ?_;refine StepG.of (ii (q:Nat)) (fun S vals wd hk hp hI=>zw ?_) (zw ?_)
   ·refine zcv (qb2 cb (.slice A l.length c) (vAt l k) q wd (hI.mem.get Js)) ?_;rintro r w9 ⟨rfl,rfl⟩;exact ⟨rfl,hI⟩
   refine StepG.any (fun S vals wd hk hp hI=>?_) (zw ?_)
   ·dsimp only at hI;rw [hk] at hI;(conv=>whnf);refine zcv (qli (vAt l k) (q) wd) ?_;rintro v w8 ⟨eb,rfl,hb,ho,he⟩;exact ⟨trivial,hI.made he hb ho⟩
   refine zg ?_;refine StepG.of undef (fun S vals wd hk hp hI=>?_) (zw ?_)
   ·dsimp only at hI;rw [hk] at hI;(conv=>whnf);refine hI.store (i:=3) rfl (by simp [qv]) (qej 3 _) rfl ?_;intro wx _ hx;(conv=>whnf);exact ⟨rfl,hx⟩
   refine StepG.any (fun S vals wd hk hp hI=>?_) (zw ?_)
   ·have h4:S 4=true:=hp 4 Od;dsimp only at hI;rw [hk,h4] at hI;obtain ⟨eb,hv,_,h3⟩:=hI.see;rw [qu hv];(conv=>whnf);exact ⟨trivial,by show Er _ _ _ _ _ _ (S 4) false true _ _ _ _;rw [h4];exact h3⟩
   intro vals w8 hI;obtain ⟨eb,hv1,hv3,hm⟩:=hI.done;rw [qu hv1,qu hv3];clear hI;have hm:Mem w w8 ((eb,errO (vAt l k) (q))::[(pl,.cells (fnA 3 (inF (fun _:Nat=>(0:Int)))) 129),(sz,.cells (fnA 3 (inF (Q))) 129),(cb,curO 244 (.slice A l.length c) (vAt l k) q),(r5,.cells (fnA 3 (inF (fun _:Nat=>(0:Int)))) 129)]):=hm;(conv=>whnf);refine qi (R:=fun v w'=>FndR l E v w'∧Ext w w') (zw ?_);refine LoadA.mem hm (i:=4) rfl (by simp [qv];rfl) (zw ?_);exact ⟨.inl ⟨by rw [hE];exact he,(fun _:Nat=>(0:Int)),errV eb,rfl,⟨eb,rfl,by rw [hE];exact CellsAt.mem hm mh⟩⟩,hm.ext⟩
  rw [qoy he,qoz he] at hu;rw [qox he];have hm:Mem w w8 [(pl,.cells (fnA 3 (inF (fun _:Nat=>(0:Int)))) 129),(sz,.cells (fnA 3 (inF (Q))) 129),(cb,curO 244 (.slice A l.length c) (vAt l (k+1)) 0),(r5,.cells (fnA 3 (inF (fun _:Nat=>(0:Int)))) 129)]:=hm.upd (i:=2) rfl hu;(conv=>whnf);refine zcv (qb2 cb (.slice A l.length c) (vAt l (k+1)) 0 w8 (hm.get Js)) ?_;rintro r w9 ⟨rfl,rfl⟩;(conv=>whnf);refine zt ?_;refine zC (fun _=>zu ?_) (fun _=>zu ?_)
  ·have hf:vsF l k=(vAt l k,2):=by rw [vsF,qko he Oo]
   have hE1:sE l=(vAt l k,2):=by rw [q7f hz Oo (by rw [hf];exact Nat.succ_ne_zero _),hf]
   have hE:fE l E=(vAt l k,2):=by rw [fE,hE1,if_pos (Nat.succ_ne_zero _)]
   refine DrawV.gen (fun S vals w'=>Er w [(pl,.cells (fnA 3 (inF (fun _:Nat=>(0:Int)))) 129),(sz,.cells (fnA 3 (inF (Q))) 129),(cb,curO 244 (.slice A l.length c) (vAt l (k+1)) 0),(r5,.cells (bif S 4 then fnA 3 (inF (fun _:Nat=>(0:Int))) else fnA 3 (inF (fun _:Nat=>(0:Int)))) 129)] (errO (vAt l k) (2)) errV errV errV (S 2) false (S 5) (vals 2) undef (vals 5) w') rfl Jk (fun vals=>Er.start hm.drew) ?_;clear hm;(conv=>whnf);refine StepG.of (.agg (fnA 3 (inF (fun _:Nat=>(0:Int))))) (fun S vals wd hk hp hI=>zw ?_) (zw ?_)
   ·refine LoadA.mem hI.mem (i:=0) rfl (by simp [qv];rfl) (zw ?_);exact ⟨rfl,hI⟩
   refine zg ?_;refine StepG.any (fun S vals wd hk hp hI=>?_) (zw ?_)
   ·dsimp only at hI;rw [hk] at hI;(conv=>whnf);refine zcv (qli (vAt l k) (2) wd) ?_;rintro v w8 ⟨eb,rfl,hb,ho,he⟩;exact ⟨trivial,hI.made he hb ho⟩
   refine zg ?_;refine StepG.of undef (fun S vals wd hk hp hI=>?_) (zw ?_)
   ·dsimp only at hI;rw [hk] at hI;(conv=>whnf);refine hI.store (i:=3) rfl (by simp [qv]) (qej 3 _) rfl ?_;intro wx _ hx;(conv=>whnf);exact ⟨rfl,hx⟩
   refine StepG.any (fun S vals wd hk hp hI=>?_) (zw ?_)
   ·have h4:S 2=true:=hp 2 Od;dsimp only at hI;rw [hk,h4] at hI;obtain ⟨eb,hv,_,h3⟩:=hI.see;rw [qu hv];(conv=>whnf);exact ⟨trivial,by show Er _ _ _ _ _ _ (S 2) false true _ _ _ _;rw [h4];exact h3⟩
   intro vals w8 hI;obtain ⟨eb,hv1,hv3,hm⟩:=hI.done;rw [qu hv1,qu hv3];clear hI;have hm:Mem w w8 ((eb,errO (vAt l k) (2))::[(pl,.cells (fnA 3 (inF (fun _:Nat=>(0:Int)))) 129),(sz,.cells (fnA 3 (inF (Q))) 129),(cb,curO 244 (.slice A l.length c) (vAt l (k+1)) 0),(r5,.cells (fnA 3 (inF (fun _:Nat=>(0:Int)))) 129)]):=hm;(conv=>whnf);refine qi (R:=fun v w'=>FndR l E v w'∧Ext w w') (zw ?_);refine LoadA.mem hm (i:=4) rfl (by simp [qv];rfl) (zw ?_);exact ⟨.inl ⟨by rw [hE];exact Nat.succ_ne_zero _,(fun _:Nat=>(0:Int)),errV eb,rfl,⟨eb,rfl,by rw [hE];exact CellsAt.mem hm mh⟩⟩,hm.ext⟩
  refine StoreV.fi (x:=((vNum l k:Nat):Int)) hm (i:=1) rfl k (by rw [show tsz Tryz.prog 3=1 from by kernel_rfl];omega) Oo ?_;intro w10 hm;have hm:Mem w w10 [(pl,.cells (fnA 3 (inF (fun _:Nat=>(0:Int)))) 129),(sz,.cells (fnA 3 (inF (updI Q k (vNum l k:Nat)))) 129),(cb,curO 244 (.slice A l.length c) (vAt l (k+1)) 0),(r5,.cells (fnA 3 (inF (fun _:Nat=>(0:Int)))) 129)]:=hm;refine zu ?_;refine ⟨(k+1,updI Q k (vNum l k:Nat)),⟨rfl,rfl,rfl,rfl,rfl,rfl,rfl,rfl,rfl,trivial⟩,⟨by simp only;omega,fun j hj=>?_,fun j hj=>?_,hm⟩,by simp only;omega⟩
  ·by_cases e:j=k
   ·subst e;rw [vsF,qcw he Oo]
   ·exact hz j (by simp only at hj;omega)
  ·simp only at hj ⊢
   by_cases e:j=k
   ·subst e;exact q2i _ _ _
   ·rw [q2j _ _ _ _ e];exact hQ j Oo
 obtain rfl:k=3:=by omega
 have hz0:(errF (vsF l) 3).2=0:=qag hz;have hnb:∀ j,j<3→vNum l j≤67108864:=fun j hj=>qfg (hz j hj)
 refine zcv (qiz cb (.slice A l.length c) (vAt l 3) 0 w6 (hm.get Js)) ?_;rintro r w7 ⟨rfl,rfl⟩;(conv=>whnf);refine LoadA.mem hm (i:=1) rfl (by simp [qv];rfl) (zw ?_);refine qw (fun x:Nat × (Nat→Int)=>[(0,.slice A l.length c),(1,.func (.func f) #[] #[]),(4,.pointer none),(5,pp r5),(6,.nilIface),(8,pp sz),(9,pp pl),(13,ii (ql l x.1:Nat)),(53,.agg (fnA 3 (inF Q))),(54,ii x.1)])
  (fun x w'=>x.1≤3∧(∀ j,j<x.1→x.2 j=((ql l j:Nat):Int))∧Mem w w' [(pl,.cells (fnA 3 (inF (x.2))) 129),(sz,.cells (fnA 3 (inF (Q))) 129),(cb,curO 244 (.slice A l.length c) (vAt l 3) 0),(r5,.cells (fnA 3 (inF (fun _:Nat=>(0:Int)))) 129)]) (fun x=>3-x.1) (0,fun _:Nat=>(0:Int))
  ⟨rfl,rfl,rfl,rfl,rfl,rfl,rfl,rfl,rfl,rfl,trivial⟩ ⟨by simp,fun j h=>by simp at h,hm⟩ ?_
 clear hm;rintro ⟨k,P⟩ w8 ρ2 ⟨k2,hP,hm⟩;dsimp only at k2 hP hm ⊢;have hs1:ql l (k+1)=ql l k+vNum l k:=rfl;have hsb:∀ j,j≤3→ql l j≤l.length+201326592:=by
  have e0:ql l 0=vAt l 3:=rfl;have e1:ql l 1=ql l 0+vNum l 0:=rfl;have e2:ql l 2=ql l 1+vNum l 1:=rfl;have e3:ql l 3=ql l 2+vNum l 2:=rfl;have h0:=hnb 0 Oo;have h1:=hnb 1 Oo;have h2:=hnb 2 Oo;have h3:=qgb l 3;intro j hj
  rcases (show j=0∨j=1∨j=2∨j=3 by omega) with rfl|rfl|rfl|rfl<;>omega
 have hsk:=hsb k Oo;conv=>whnf
 (repeat' (first|refine zp ?_|refine zC (fun _=>zw ?_) (fun _=>zw ?_)))
 ·have hn:=hnb k Oo;refine ⟨ii (vNum l k:Nat),?_,?_⟩
  ·rw [show k*tsz Tryz.prog 3=k from by rw [show tsz Tryz.prog 3=1 from by kernel_rfl];omega];have:=qug 3 (inF Q) k Oo;rw [inF,hQ k Oo] at this;exact this
  (conv=>whnf);refine IdxV.at_ k Oo Oo (zw ?_);refine StoreV.fi (x:=((ql l k:Nat):Int)) hm (i:=0) rfl k (by rw [show tsz Tryz.prog 3=1 from by kernel_rfl];omega) Oo ?_;intro w10 hm;have hm:Mem w w10 [(pl,.cells (fnA 3 (inF (updI P k (ql l k:Nat)))) 129),(sz,.cells (fnA 3 (inF (Q))) 129),(cb,curO 244 (.slice A l.length c) (vAt l 3) 0),(r5,.cells (fnA 3 (inF (fun _:Nat=>(0:Int)))) 129)]:=hm;refine zu ?_;refine ⟨(k+1,updI P k (ql l k:Nat)),⟨rfl,rfl,rfl,rfl,rfl,rfl,rfl,?_,rfl,rfl,trivial⟩,⟨by simp only;omega,fun j hj=>?_,hm⟩,by simp only;omega⟩
  ·show ii _=ii _
   congr 1
  ·simp only at hj ⊢
   by_cases e:j=k
   ·subst e;exact q2i _ _ _
   ·rw [q2j _ _ _ _ e];exact hP j Oo
 ·obtain rfl:k=3:=by omega
  have hsE:sE l=if l.length<ql l 3 then (l.length,10) else if ql l 3<l.length then (ql l 3,13) else (0,0):=by rw [sE,if_neg Oo]
  have hE1:sE l=(l.length,10):=by rw [hsE,if_pos Oo]
  have hE:fE l E=(l.length,10):=by rw [fE,hE1,if_pos (Nat.succ_ne_zero _)]
  refine DrawV.gen (fun S vals w'=>Er w [(pl,.cells (fnA 3 (inF (P))) 129),(sz,.cells (fnA 3 (inF (Q))) 129),(cb,curO 244 (.slice A l.length c) (vAt l 3) 0),(r5,.cells (bif S 5 then fnA 3 (inF (P)) else fnA 3 (inF (fun _:Nat=>(0:Int)))) 129)] (errO (l.length) (10)) errV errV errV (S 3) false (S 6) (vals 3) undef (vals 6) w') rfl Jk (fun vals=>Er.start hm.drew) ?_;clear hm;(conv=>whnf);refine StepG.of (.agg (fnA 3 (inF (P)))) (fun S vals wd hk hp hI=>zw ?_) (zw ?_)
  ·refine LoadA.mem hI.mem (i:=0) rfl (by simp [qv];rfl) (zw ?_);exact ⟨rfl,hI⟩
  refine zg ?_;refine zg ?_;refine StepG.any (fun S vals wd hk hp hI=>?_) (zw ?_)
  ·dsimp only at hI;rw [hk] at hI;(conv=>whnf);refine zcv (qli (l.length) (10) wd) ?_;rintro v w8 ⟨eb,rfl,hb,ho,he⟩;exact ⟨trivial,hI.made he hb ho⟩
  refine zg ?_;refine StepG.of undef (fun S vals wd hk hp hI=>?_) (zw ?_)
  ·dsimp only at hI;rw [hk] at hI;(conv=>whnf);refine hI.store (i:=3) rfl (by simp [qv]) (qej 3 _) rfl ?_;intro wx _ hx;(conv=>whnf);exact ⟨rfl,hx⟩
  refine StepG.any (fun S vals wd hk hp hI=>?_) (zw ?_)
  ·have h4:S 3=true:=hp 3 Od;dsimp only at hI;rw [hk,h4] at hI;obtain ⟨eb,hv,_,h3⟩:=hI.see;rw [qu hv];(conv=>whnf);exact ⟨trivial,by show Er _ _ _ _ _ _ (S 3) false true _ _ _ _;rw [h4];exact h3⟩
  intro vals w8 hI;obtain ⟨eb,hv1,hv3,hm⟩:=hI.done;rw [qu hv1,qu hv3];clear hI;have hm:Mem w w8 ((eb,errO (l.length) (10))::[(pl,.cells (fnA 3 (inF (P))) 129),(sz,.cells (fnA 3 (inF (Q))) 129),(cb,curO 244 (.slice A l.length c) (vAt l 3) 0),(r5,.cells (fnA 3 (inF (P))) 129)]):=hm;(conv=>whnf);refine qi (R:=fun v w'=>FndR l E v w'∧Ext w w') (zw ?_);refine LoadA.mem hm (i:=4) rfl (by simp [qv];rfl) (zw ?_);exact ⟨.inl ⟨by rw [hE];exact Nat.succ_ne_zero _,(P),errV eb,rfl,⟨eb,rfl,by rw [hE];exact CellsAt.mem hm mh⟩⟩,hm.ext⟩
 ·obtain rfl:k=3:=by omega
  have hsE:sE l=if l.length<ql l 3 then (l.length,10) else if ql l 3<l.length then (ql l 3,13) else (0,0):=by rw [sE,if_neg Oo]
  have hE1:sE l=(ql l 3,13):=by rw [hsE,if_neg Oo,if_pos Oo]
  have hE:fE l E=(ql l 3,13):=by rw [fE,hE1,if_pos (Nat.succ_ne_zero _)]
  refine DrawV.gen (fun S vals w'=>Er w [(pl,.cells (fnA 3 (inF (P))) 129),(sz,.cells (fnA 3 (inF (Q))) 129),(cb,curO 244 (.slice A l.length c) (vAt l 3) 0),(r5,.cells (bif S 4 then fnA 3 (inF (P)) else fnA 3 (inF (fun _:Nat=>(0:Int)))) 129)] (errO (ql l 3) (13)) errV errV errV (S 2) false (S 5) (vals 2) undef (vals 5) w') rfl Jk (fun vals=>Er.start hm.drew) ?_;clear hm;(conv=>whnf);refine StepG.of (.agg (fnA 3 (inF (P)))) (fun S vals wd hk hp hI=>zw ?_) (zw ?_)
  ·refine LoadA.mem hI.mem (i:=0) rfl (by simp [qv];rfl) (zw ?_);exact ⟨rfl,hI⟩
  refine zg ?_;refine StepG.any (fun S vals wd hk hp hI=>?_) (zw ?_)
  ·dsimp only at hI;rw [hk] at hI;(conv=>whnf);refine zcv (qli (ql l 3) (13) wd) ?_;rintro v w8 ⟨eb,rfl,hb,ho,he⟩;exact ⟨trivial,hI.made he hb ho⟩
  refine zg ?_;refine StepG.of undef (fun S vals wd hk hp hI=>?_) (zw ?_)
  ·dsimp only at hI;rw [hk] at hI;(conv=>whnf);refine hI.store (i:=3) rfl (by simp [qv]) (qej 3 _) rfl ?_;intro wx _ hx;(conv=>whnf);exact ⟨rfl,hx⟩
  refine StepG.any (fun S vals wd hk hp hI=>?_) (zw ?_)
  ·have h4:S 2=true:=hp 2 Od;dsimp only at hI;rw [hk,h4] at hI;obtain ⟨eb,hv,_,h3⟩:=hI.see;rw [qu hv];(conv=>whnf);exact ⟨trivial,by show Er _ _ _ _ _ _ (S 2) false true _ _ _ _;rw [h4];exact h3⟩
  intro vals w8 hI;obtain ⟨eb,hv1,hv3,hm⟩:=hI.done;rw [qu hv1,qu hv3];clear hI;have hm:Mem w w8 ((eb,errO (ql l 3) (13))::[(pl,.cells (fnA 3 (inF (P))) 129),(sz,.cells (fnA 3 (inF (Q))) 129),(cb,curO 244 (.slice A l.length c) (vAt l 3) 0),(r5,.cells (fnA 3 (inF (P))) 129)]):=hm;(conv=>whnf);refine qi (R:=fun v w'=>FndR l E v w'∧Ext w w') (zw ?_);refine LoadA.mem hm (i:=4) rfl (by simp [qv];rfl) (zw ?_);exact ⟨.inl ⟨by rw [hE];exact Nat.succ_ne_zero _,(P),errV eb,rfl,⟨eb,rfl,by rw [hE];exact CellsAt.mem hm mh⟩⟩,hm.ext⟩
 obtain rfl:k=3:=by omega
 have hpl:ql l 3=l.length:=by omega
 have hE0:(sE l).2=0:=by rw [sE,if_neg Oo,if_neg Oo,if_neg Oo]
 have hfE:fE l E=errF (fun k=>if (E k).2=0 then (0,0) else (ql l k+(E k).1,(E k).2)) 3:=by rw [fE,if_neg Oo]
 refine znm hm ?_;intro vb w9 hm;have hm:Mem w w9 [(vb,.cells (fnA 7 (vF (fun _=>0) l (0))) 153),(pl,.cells (fnA 3 (inF (P))) 129),(sz,.cells (fnA 3 (inF (Q))) 129),(cb,curO 244 (.slice A l.length c) (vAt l 3) 0),(r5,.cells (fnA 3 (inF (fun _:Nat=>(0:Int)))) 129)]:=hm;(conv=>whnf);refine LoadA.mem hm (i:=2) rfl (by simp [qv];rfl) (zw ?_);refine qw (fun x:Nat × (Nat→Nat)=>[(0,.slice A l.length c),(1,.func (.func f) #[] #[]),(4,.pointer none),(5,pp r5),(6,.nilIface),(9,pp pl),(16,pp vb),(84,.agg (fnA 3 (inF Q))),(85,ii x.1)])
  (fun x w'=>x.1≤3∧(∀ j,j<x.1→(E j).2=0)∧(∀ j,j<x.1→DictAt w' (x.2 j) (sDict l j))∧Mem w w' [(vb,.cells (fnA 7 (vF (x.2) l (x.1))) 153),(pl,.cells (fnA 3 (inF (P))) 129),(sz,.cells (fnA 3 (inF (Q))) 129),(cb,curO 244 (.slice A l.length c) (vAt l 3) 0),(r5,.cells (fnA 3 (inF (fun _:Nat=>(0:Int)))) 129)]) (fun x=>3-x.1) (0,fun _=>0)
  ⟨rfl,rfl,rfl,rfl,rfl,rfl,rfl,rfl,rfl,trivial⟩ ⟨by simp,fun j h=>by simp at h,fun j h=>by simp at h,hm⟩ ?_
 clear hm;rintro ⟨k,d⟩ w10 ρ3 ⟨k3,hEz,hD,hm⟩;dsimp only at k3 hEz hD hm ⊢;(conv=>whnf);refine zC (fun _=>zu ?_) (fun _=>zu ?_)
 ·have hn:=hnb k Oo;have hPk:=hP k Oo;have hple:=qhl hpl (k:=k) Oo;have hdl:=q1o hpl (k:=k) Oo;obtain ⟨y,ey⟩:∃ y,y=ql l k:=⟨_,rfl⟩
  obtain ⟨z,ez⟩:∃ z,z=vNum l k:=⟨_,rfl⟩
  obtain ⟨B,eB⟩:∃ B,B=(if y+z=y then A else A.map (·.add (y*1))):=⟨_,rfl⟩
  have hB:SlAt encB 1 w B (sDict l k):=by
   rw [eB,sDict,← ey];have:=hS.cut (lo:=y) (hi:=y+z) (m:=y+z) Oo Oo Oo rfl
   rwa [show y+z-y=vNum l k by omega] at this
  have hfk:=fun w' h1 h2=>hf k Oo w' B z h1 h2 Oo
  rw [hdl] at hfk;refine ⟨ii (vNum l k:Nat),?_,?_⟩
  ·rw [show k*tsz Tryz.prog 3=k from by rw [show tsz Tryz.prog 3=1 from by kernel_rfl];omega];have:=qug 3 (inF Q) k Oo;rw [inF,hQ k Oo] at this;exact this
  rw [← ey] at hPk hple;rw [← ez] at hn hple hfk ⊢;(conv=>whnf);have hEbk:=hEb k Oo
  by_cases hEk:(E k).2=0
  ·refine DrawV.free Jk Jk (zw ?_);(iterate 4 (refine zd ?_));refine zsd (ii (y:Nat)) (fun wd hd=>zw ?_) (zw ?_)
   ·refine LoadV.fim (x:=((y:Nat):Int)) (hm.drew.call hd) (b:=pl) (F:=P) (n:=3) (t:=129) Js k (by rw [show tsz Tryz.prog 3=1 from by kernel_rfl];omega) Oo hPk (zw ?_);exact ⟨xr,rfl⟩
   refine zd ?_;refine zd ?_;refine zsd (ii (y:Nat)) (fun wd hd=>zw ?_) (zw ?_)
   ·refine LoadV.fim (x:=((y:Nat):Int)) (hm.drew.call hd) (b:=pl) (F:=P) (n:=3) (t:=129) Js k (by rw [show tsz Tryz.prog 3=1 from by kernel_rfl];omega) Oo hPk (zw ?_);exact ⟨xr,rfl⟩
   (iterate 4 (refine zd ?_));refine zsd (ii (y:Nat)) (fun wd hd=>zw ?_) (zw ?_)
   ·refine LoadV.fim (x:=((y:Nat):Int)) (hm.drew.call hd) (b:=pl) (F:=P) (n:=3) (t:=129) Js k (by rw [show tsz Tryz.prog 3=1 from by kernel_rfl];omega) Oo hPk (zw ?_);exact ⟨xr,rfl⟩
   refine zd ?_;refine zd ?_;refine zsd (.slice B z z) (fun wd hd=>zw ?_) (zw ?_)
   ·refine SliceV.to y (y+z) (y+z) rfl (by show (_:Int)=_;omega) (by show (_:Int)=_;omega) Oo znr Oo (fun _=>rfl) ?_;rw [show tsz Tryz.prog 5=1 from by kernel_rfl,← eB,show y+z-y=z by omega];(conv=>whnf);exact ⟨xr,rfl⟩
   apply StepD.of (fun v wx=>∃ b,v=.tuple #[pp b,.nilIface]∧DictAt wx b (sDict l k)) (fun _ _ _ ⟨b,h1,h2⟩ he=>⟨b,h1,h2.ext he⟩)
   ·intro wd hd;(conv=>whnf);refine zcv (hfk wd (hm.drew.call hd).ext (hB.ext (hm.drew.call hd).ext)) ?_;rintro v w11 ⟨⟨h0,_⟩|⟨_,b,rfl,hD⟩,he11⟩
    ·exact absurd hEk h0
    ·exact ⟨he11,b,rfl,hD⟩
   (conv=>whnf);apply StepD.of (fun v wx=>∃ b,v=.tuple #[pp b,.nilIface]∧DictAt wx b (sDict l k)) (fun _ _ _ ⟨b,h1,h2⟩ he=>⟨b,h1,h2.ext he⟩)
   ·intro wd hd;(conv=>whnf);rintro v ⟨b,rfl,hD⟩;(conv=>whnf);exact ⟨xr,b,rfl,hD⟩
   (conv=>whnf);apply StepD.of (fun v wx=>∃ b,v=pp b∧DictAt wx b (sDict l k)) (fun _ _ _ ⟨b,h1,h2⟩ he=>⟨b,h1,h2.ext he⟩)
   ·intro wd hd;(conv=>whnf);rintro v ⟨b,rfl,hD⟩;(conv=>whnf);exact ⟨xr,b,rfl,hD⟩
   (conv=>whnf);apply zsd .nilIface
   ·intro wd hd;conv=>whnf
    repeat (rintro v ⟨b,rfl,hD⟩;(conv=>whnf))
    exact ⟨xr,rfl⟩
   (conv=>whnf);apply StepD.of (fun v wx=>∃ b,v=pp b∧DictAt wx b (sDict l k)) (fun _ _ _ ⟨b,h1,h2⟩ he=>⟨b,h1,h2.ext he⟩)
   ·intro wd hd;conv=>whnf
    repeat (rintro v ⟨b,rfl,hD⟩;(conv=>whnf))
    exact ⟨xr,_,rfl,by assumption⟩
   (conv=>whnf);apply zsd .nilIface
   ·intro wd hd;conv=>whnf
    repeat (rintro v ⟨b,rfl,hD⟩;(conv=>whnf))
    exact ⟨xr,rfl⟩
   (conv=>whnf);intro w11 he11;have hm:=hm.drew.call he11;have hD:=fun j hj=>(hD j hj).ext ((Ext.refl w10).drew.trans he11)
   clear he11;(conv=>whnf);rintro v ⟨b,rfl,hDb⟩;conv=>whnf
   repeat (rintro v ⟨_,rfl,_⟩;(conv=>whnf))
   refine ⟨fun pb w12 hpb hw12=>?_⟩;have he12:Ext w11 w12:=by rw [hw12];exact xr.alloc _
   have hm:=hm.new hpb hw12;have hD:=fun j hj=>(hD j hj).ext he12
   have hDb:=hDb.ext he12;clear he12 hw12 hpb;(conv=>whnf);refine zcv (qpa _ w12) ?_;rintro r w13 ⟨rfl,rfl⟩;refine zu ?_;refine DrawV.inv (fun S w'=>Mem w w' [(pb,.cells #[.pointer none] 104),(vb,.cells (bif S 12 then fnA 7 (updF (updF (vF d l k) (2*k) (pp b)) (2*k+1) (ii (vTot l k+1:Nat))) else fnA 7 (vF d l k)) 153),(pl,.cells (fnA 3 (inF (P))) 129),(sz,.cells (fnA 3 (inF (Q))) 129),(cb,curO 244 (.slice A l.length c) (vAt l 3) 0),(r5,.cells (fnA 3 (inF (fun _:Nat=>(0:Int)))) 129)]∧(∀ j,j<k→DictAt w' (d j) (sDict l j))∧DictAt w' b (sDict l k)) rfl Jk ⟨hm.drew,fun j hj=>(hD j hj).ext xr.drew,hDb.ext xr.drew⟩ ?_;have hdk:=hDb.n;have hvt:vTot l k≤8388608:=by
    rcases (show k=0∨k=1∨k=2 by omega) with rfl|rfl|rfl
    ·exact Nat.zero_le _
    ·have h0:=(hD 0 Oo).n;simp only [vTot];omega
    ·have h0:=(hD 0 Oo).n;have h1:=(hD 1 Oo).n;simp only [vTot];omega
   clear hm hD hDb;(conv=>whnf);(iterate 6 (refine zi ?_));refine StepI.of (ii (vTot l k:Nat)) (fun S wd hk hp hI=>zw ?_) (zw ?_)
   ·dsimp only at hI;cases h12:S 12
    ·rw [h12] at hI;refine LoadV.fn (v:=ii (vTot l k:Nat)) hI.1 (i:=1) rfl 6 rfl Oo rfl (zw ?_);exact ⟨rfl,by show Mem _ _ [_,(vb,.cells (bif S 12 then _ else _) _ _),_,_,_,_]∧_;rw [h12];exact hI⟩
    ·rw [h12] at hI;refine LoadV.fn (v:=ii (vTot l k:Nat)) hI.1 (i:=1) rfl 6 rfl Oo (by rw [qac _ _ _ _ Oo,qac _ _ _ _ Oo];rfl) (zw ?_);exact ⟨rfl,by show Mem _ _ [_,(vb,.cells (bif S 12 then _ else _) _ _),_,_,_,_]∧_;rw [h12];exact hI⟩
   (iterate 5 (refine zi ?_));refine StepI.of undef (fun S wd hk hp hI=>?_) (zw ?_)
   ·dsimp only at hI;rw [hk] at hI;(conv=>whnf);have hx:=hI.1.get (zmc mh);refine StoreA.row hI.1 (i:=1) rfl (by rw [show tsz Tryz.prog 150=2 from by kernel_rfl];simp [qv];omega) (by simp [Value.oneCell']) ?_;intro wx hfr _ hmx;have hmx:Mem w wx [(pb,.cells #[.pointer none] 104),(vb,.cells (fnA 7 (updF (updF (vF d l k) (2*k) (pp b)) (2*k+1) (ii (vTot l k+1:Nat)))) 153),(pl,.cells (fnA 3 (inF (P))) 129),(sz,.cells (fnA 3 (inF (Q))) 129),(cb,curO 244 (.slice A l.length c) (vAt l 3) 0),(r5,.cells (fnA 3 (inF (fun _:Nat=>(0:Int)))) 129)]:=by
     have e:=q31 7 (vF d l k) (2*k) (pp b) (ii (vTot l k+1:Nat)) Oo;rw [← e];have e2:0+0+k*tsz Tryz.prog 150=2*k:=by rw [show tsz Tryz.prog 150=2 from by kernel_rfl];omega
     rw [← e2];exact hmx
    (conv=>whnf);refine ⟨rfl,hmx,fun j hj=>(hI.2.1 j hj).other hx Od ?_ hfr,hI.2.2.other hx Od ?_ hfr⟩
    all_goals
     intro v hv c;obtain ⟨m,hm',rfl⟩:=List.mem_map.1 (show v∈(List.range 7).map (vF d l k) from hv);exact q7r d l k m c
   intro w14 hI;obtain ⟨hm,hD,hDb⟩:=hI;have hm:Mem w w14 [(pb,.cells #[.pointer none] 104),(vb,.cells (fnA 7 (updF (updF (vF d l k) (2*k) (pp b)) (2*k+1) (ii (vTot l k+1:Nat)))) 153),(pl,.cells (fnA 3 (inF (P))) 129),(sz,.cells (fnA 3 (inF (Q))) 129),(cb,curO 244 (.slice A l.length c) (vAt l 3) 0),(r5,.cells (fnA 3 (inF (fun _:Nat=>(0:Int)))) 129)]:=hm;(conv=>whnf);refine DrawV.inv (fun S w'=>((S 6=true→S 3=true)∧(S 9=true→S 3=true))∧Mem w w' [(pb,.cells #[.pointer none] 104),(vb,.cells (bif S 9 then fnA 7 (updF (updF (updF (vF d l k) (2*k) (pp b)) (2*k+1) (ii (vTot l k+1:Nat))) 6 (ii (vTot l (k+1):Nat))) else fnA 7 (updF (updF (vF d l k) (2*k) (pp b)) (2*k+1) (ii (vTot l k+1:Nat)))) 153),(pl,.cells (fnA 3 (inF (P))) 129),(sz,.cells (fnA 3 (inF (Q))) 129),(cb,curO 244 (.slice A l.length c) (vAt l 3) 0),(r5,.cells (fnA 3 (inF (fun _:Nat=>(0:Int)))) 129)]∧(∀ j,j<k→DictAt w' (d j) (sDict l j))∧DictAt w' b (sDict l k)) rfl Jk ⟨⟨fun h=>(by cases h),fun h=>(by cases h)⟩,hm.drew,fun j hj=>(hD j hj).ext xr.drew,hDb.ext xr.drew⟩ ?_;clear hm hD hDb;have hvs:vTot l (k+1)=vTot l k+dN (sDict l k):=rfl;(conv=>whnf);(iterate 3 (refine zi ?_));refine StepI.of (ii (vTot l k:Nat)) (fun S wd hk hp hI=>zw ?_) (zw ?_)
   ·have h9:S 9=false:=by
     cases h:S 9
     ·rfl
     ·have:=hI.1.2 h;rw [hk] at this;cases this
    have hI2:=hI.2.1;rw [h9] at hI2;refine LoadV.fn (v:=ii (vTot l k:Nat)) hI2 (i:=1) rfl 6 rfl Oo (by rw [qac _ _ _ _ Oo,qac _ _ _ _ Oo];rfl) (zw ?_);exact ⟨rfl,⟨fun _=>rfl,fun _=>rfl⟩,hI.2⟩
   refine zi ?_;refine StepI.of (ii (dN (sDict l k):Nat)) (fun S wd hk hp hI=>zw ?_) (zw ?_)
   ·refine zcv (qt9 b (sDict l k) wd hI.2.2.2) ?_;rintro r w15 ⟨rfl,rfl⟩;exact ⟨rfl,hI⟩
   refine StepI.of (ii (vTot l (k+1):Nat)) (fun S wd hk hp hI=>zw ?_) (zw ?_)
   ·refine Obl.mk ⟨by omega,by omega⟩ (zw ?_);exact ⟨rfl,⟨fun _=>hp 3 Od,hI.1.2⟩,hI.2⟩
   refine zi ?_;refine zi ?_;refine StepI.of undef (fun S wd hk hp hI=>?_) (zw ?_)
   ·have h6:=hp 6 Od;obtain ⟨hI1,hI2,hI3,hI4⟩:=hI;rw [hk] at hI2;(conv=>whnf);have hx:=hI2.get (zmc mh);refine StoreV.row hI2 (i:=1) rfl (by simp [qv]) rfl ?_;intro wx hfr _ hmx;have hmx:Mem w wx [(pb,.cells #[.pointer none] 104),(vb,.cells (fnA 7 (updF (updF (updF (vF d l k) (2*k) (pp b)) (2*k+1) (ii (vTot l k+1:Nat))) 6 (ii (vTot l (k+1):Nat)))) 153),(pl,.cells (fnA 3 (inF (P))) 129),(sz,.cells (fnA 3 (inF (Q))) 129),(cb,curO 244 (.slice A l.length c) (vAt l 3) 0),(r5,.cells (fnA 3 (inF (fun _:Nat=>(0:Int)))) 129)]:=by
     rw [← qe8];exact hmx
    (conv=>whnf);refine ⟨rfl,⟨hI1.1,fun _=>hI1.1 h6⟩,hmx,fun j hj=>(hI3 j hj).other hx Od ?_ hfr,hI4.other hx Od ?_ hfr⟩
    all_goals
     intro v hv c;obtain ⟨m,hm',rfl⟩:=List.mem_map.1 (show v∈(List.range 7).map (updF (updF (vF d l k) (2*k) (pp b)) (2*k+1) (ii (vTot l k+1:Nat))) from hv);unfold updF
     split
     ·intro e;cases e
     split
     ·intro e;cases e
     exact q7r d l k m c
   intro w15 hI;obtain ⟨_,hm,hD,hDb⟩:=hI;have hm:Mem w w15 [(pb,.cells #[.pointer none] 104),(vb,.cells (fnA 7 (updF (updF (updF (vF d l k) (2*k) (pp b)) (2*k+1) (ii (vTot l k+1:Nat))) 6 (ii (vTot l (k+1):Nat)))) 153),(pl,.cells (fnA 3 (inF (P))) 129),(sz,.cells (fnA 3 (inF (Q))) 129),(cb,curO 244 (.slice A l.length c) (vAt l 3) 0),(r5,.cells (fnA 3 (inF (fun _:Nat=>(0:Int)))) 129)]:=hm;rw [qaax d l k b Oo] at hm;have hm:=hm.sub (List.sublist_cons_self ..);refine zu ?_;refine ⟨(k+1,fun j=>if j=k then b else d j),⟨rfl,rfl,rfl,rfl,rfl,rfl,rfl,rfl,rfl,trivial⟩,⟨by simp only;omega,fun j hj=>?_,fun j hj=>?_,hm⟩,by simp only;omega⟩
   ·by_cases e:j=k
    ·subst e;exact hEk
    ·exact hEz j (by simp only at hj;omega)
   ·simp only at hj ⊢
    by_cases e:j=k
    ·subst e;rw [if_pos rfl];exact hDb
    ·rw [if_neg e];exact hD j Oo
  ·obtain ⟨p,ep⟩:∃ p,p=(E k).1:=⟨_,rfl⟩
   obtain ⟨q,eq⟩:∃ q,q=(E k).2:=⟨_,rfl⟩
   have hEf:fE l E=(y+p,q):=by
    rw [hfE,qbx (k:=k) (fun j hj=>by simp only [if_pos (hEz j hj)]) Oo (by simp only [if_neg hEk];exact hEk),if_neg hEk,ey,ep,eq]
   have hfk2:∀ w',Ext w w'→SlAt encB 1 w' B (sDict l k)→Gv Tryz.prog f [.slice B z z] w' fun v w''=>(∃ e,v=.tuple #[.pointer none,e]∧ErrAt w'' e p q)∧Ext w' w'':=fun w' h1 h2=>(hfk w' h1 h2).mono fun v w'' ⟨h,he⟩=>by
    rcases h with ⟨_,e,h3,h4⟩|⟨h0,_⟩
    ·rw [← ep,← eq] at h4;exact ⟨⟨e,h3,h4⟩,he⟩
    ·exact absurd h0 hEk
   rw [← ep] at hEbk;rw [← eq] at hEk;refine DrawV.free Jk Jk (zw ?_);(iterate 4 (refine zd ?_));refine zsd (ii (y:Nat)) (fun wd hd=>zw ?_) (zw ?_)
   ·refine LoadV.fim (x:=((y:Nat):Int)) (hm.drew.call hd) (b:=pl) (F:=P) (n:=3) (t:=129) Js k (by rw [show tsz Tryz.prog 3=1 from by kernel_rfl];omega) Oo hPk (zw ?_);exact ⟨xr,rfl⟩
   refine zd ?_;refine zd ?_;refine zsd (ii (y:Nat)) (fun wd hd=>zw ?_) (zw ?_)
   ·refine LoadV.fim (x:=((y:Nat):Int)) (hm.drew.call hd) (b:=pl) (F:=P) (n:=3) (t:=129) Js k (by rw [show tsz Tryz.prog 3=1 from by kernel_rfl];omega) Oo hPk (zw ?_);exact ⟨xr,rfl⟩
   (iterate 4 (refine zd ?_));refine zsd (ii (y:Nat)) (fun wd hd=>zw ?_) (zw ?_)
   ·refine LoadV.fim (x:=((y:Nat):Int)) (hm.drew.call hd) (b:=pl) (F:=P) (n:=3) (t:=129) Js k (by rw [show tsz Tryz.prog 3=1 from by kernel_rfl];omega) Oo hPk (zw ?_);exact ⟨xr,rfl⟩
   refine zd ?_;refine zd ?_;refine zsd (.slice B z z) (fun wd hd=>zw ?_) (zw ?_)
   ·refine SliceV.to y (y+z) (y+z) rfl (by show (_:Int)=_;omega) (by show (_:Int)=_;omega) Oo znr Oo (fun _=>rfl) ?_;rw [show tsz Tryz.prog 5=1 from by kernel_rfl,← eB,show y+z-y=z by omega];(conv=>whnf);exact ⟨xr,rfl⟩
   apply StepD.of (fun v wx=>∃ e,v=.tuple #[.pointer none,e]∧ErrAt wx e p q) (fun _ _ _ ⟨e,h1,h2⟩ he=>⟨e,h1,h2.ext he⟩)
   ·intro wd hd;(conv=>whnf);refine zcv (hfk2 wd (hm.drew.call hd).ext (hB.ext (hm.drew.call hd).ext)) ?_;rintro v w11 ⟨⟨e,rfl,hE⟩,he11⟩;exact ⟨he11,e,rfl,hE⟩
   (conv=>whnf);apply StepD.of (fun v wx=>∃ e,v=.tuple #[.pointer none,e]∧ErrAt wx e p q) (fun _ _ _ ⟨e,h1,h2⟩ he=>⟨e,h1,h2.ext he⟩)
   ·intro wd hd;(conv=>whnf);rintro v ⟨e,rfl,hE⟩;obtain ⟨eb,rfl,hec⟩:=hE;(conv=>whnf);exact ⟨xr,_,rfl,eb,rfl,hec⟩
   (conv=>whnf);refine zsd (.pointer none) (fun wd hd=>zw ?_) (zw ?_)
   ·rintro v ⟨e,rfl,eb,rfl,hec⟩;(conv=>whnf);exact ⟨xr,rfl⟩
   apply StepD.of (fun v wx=>ErrAt wx v p q) (fun _ _ _ h he=>h.ext he)
   ·intro wd hd;(conv=>whnf);rintro v ⟨e,rfl,eb,rfl,hec⟩;(conv=>whnf);exact ⟨xr,eb,rfl,hec⟩
   (conv=>whnf);apply zsd (.pointer none)
   ·intro wd hd;conv=>whnf
    repeat (intro _ _;(conv=>whnf))
    exact ⟨xr,rfl⟩
   (conv=>whnf);apply StepD.of (fun v wx=>ErrAt wx v p q) (fun _ _ _ h he=>h.ext he)
   ·intro wd hd;conv=>whnf
    repeat (rintro v ⟨eb,rfl,hec⟩;(conv=>whnf))
    exact ⟨xr,_,rfl,by assumption⟩
   (conv=>whnf);intro w11 he11;have hm:=hm.drew.call he11;clear he11;(conv=>whnf);rintro v ⟨eb,rfl,hec⟩;conv=>whnf
   repeat (intro _ _;(conv=>whnf))
   refine ⟨fun pb w12 hpb hw12=>?_⟩;have he12:Ext w11 w12:=by rw [hw12];exact xr.alloc _
   have hm:=hm.new hpb hw12;have hec:=hec.ext he12;clear he12 hw12 hpb;(conv=>whnf);refine zcv (qo9 eb pb hm (i:=0) rfl (hG.ext hm.ext)) ?_;rintro r w13 ⟨rfl,hm',w4',he4',hfr⟩;have hne:eb≠pb:=by
    intro e;have h1:=hec 0 _ rfl;rw [e,qc (hm.get mh)] at h1;cases h1
   have hec:=(hec.ext he4').other hne hfr;have hm:Mem w w13 [(pb,.cells #[pp eb] 104),(vb,.cells (fnA 7 (vF (d) l (k))) 153),(pl,.cells (fnA 3 (inF (P))) 129),(sz,.cells (fnA 3 (inF (Q))) 129),(cb,curO 244 (.slice A l.length c) (vAt l 3) 0),(r5,.cells (fnA 3 (inF (fun _:Nat=>(0:Int)))) 129)]:=hm';have hr5:eb≠r5:=by
    intro e;have h1:=hec 1 _ rfl;have hg5:w13.heap[r5]?=some (.cells (fnA 3 (inF fun _:Nat=>(0:Int))) 129):=hm.get Js;rw [e,qc hg5] at h1;cases h1
   clear hm' he4' hfr;refine zu ?_;refine DrawV.gen (fun S vals w'=>Er w [(pb,.cells #[pp eb] 104),(vb,.cells (fnA 7 (vF (d) l (k))) 153),(pl,.cells (fnA 3 (inF (P))) 129),(sz,.cells (fnA 3 (inF (Q))) 129),(cb,curO 244 (.slice A l.length c) (vAt l 3) 0),(r5,.cells (bif S 17 then fnA 3 (inF P) else fnA 3 (inF fun _:Nat=>(0:Int))) 129)] (errO (y+p) q) (fun b=>pp b) errV errV (S 14) (S 15) (S 18) (vals 14) (vals 15) (vals 18) w'∧CellsAt w' eb 0 [ii p,.iface 26 (ii q)]) rfl Jk (fun vals=>⟨Er.start hm.drew,hec.ext xr.drew⟩) ?_;clear hm hec;(conv=>whnf);refine StepG.of (.agg (fnA 3 (inF P))) (fun S vals wd hk hp hI=>zw ?_) (zw ?_)
   ·refine LoadA.mem hI.1.mem (i:=2) rfl (by simp [qv];rfl) (zw ?_);exact ⟨rfl,hI⟩
   refine zg ?_;refine zg ?_;refine StepG.of (ii (y:Nat)) (fun S vals wd hk hp hI=>zw ?_) (zw ?_)
   ·refine LoadV.fim (x:=((y:Nat):Int)) hI.1.mem (b:=pl) (F:=P) (n:=3) (t:=129) Js k (by rw [show tsz Tryz.prog 3=1 from by kernel_rfl];omega) Oo hPk (zw ?_);exact ⟨rfl,hI⟩
   refine StepG.of (pp eb) (fun S vals wd hk hp hI=>zw ?_) (zw ?_)
   ·refine zr hI.1.mem 0 ?_;exact ⟨rfl,hI⟩
   refine zg ?_;refine zg ?_;refine StepG.of (ii p) (fun S vals wd hk hp hI=>zw ?_) (zw ?_)
   ·refine LoadV.of (hI.2 0 _ rfl) (zw ?_);exact ⟨rfl,hI⟩
   refine zg ?_;refine StepG.of (pp eb) (fun S vals wd hk hp hI=>zw ?_) (zw ?_)
   ·refine zr hI.1.mem 0 ?_;exact ⟨rfl,hI⟩
   refine zg ?_;refine zg ?_;refine StepG.of (.iface 26 (ii q)) (fun S vals wd hk hp hI=>zw ?_) (zw ?_)
   ·refine LoadV.of (hI.2 1 _ rfl) (zw ?_);exact ⟨rfl,hI⟩
   refine zg ?_;refine StepG.any (fun S vals wd hk hp hI=>?_) (zw ?_)
   ·dsimp only at hI;rw [hk] at hI;(conv=>whnf);refine ⟨fun x wx hb hw=>?_⟩;subst hb hw;(conv=>whnf);exact ⟨trivial,hI.1.alloc,hI.2.ext (xr.alloc _)⟩
   refine StepG.any (fun S vals wd hk hp hI=>?_) (zw ?_)
   ·have h4:S 14=true:=hp 14 Od;dsimp only at hI;rw [hk,h4] at hI;obtain ⟨nb,hv,h3,_⟩:=hI.1.see;rw [qu hv];(conv=>whnf);exact ⟨trivial,by show Er _ _ _ _ _ _ (S 14) true (S 18) _ _ _ _;rw [h4];exact h3,hI.2⟩
   refine zg ?_;refine StepG.of undef (fun S vals wd hk hp hI=>?_) (zw ?_)
   ·dsimp only at hI;rw [hk] at hI;(conv=>whnf);refine hI.1.store (i:=5) rfl (by simp [qv]) (qej 3 _) rfl ?_;intro wx hfr hx;(conv=>whnf);exact ⟨rfl,hx,hI.2.other hr5 hfr⟩
   refine StepG.any (fun S vals wd hk hp hI=>?_) (zw ?_)
   ·have h4:S 15=true:=hp 15 Od;dsimp only at hI;rw [hk,h4] at hI;obtain ⟨nb,hv,h3⟩:=hI.1.see2;rw [qu hv];(conv=>whnf);exact ⟨trivial,by show Er _ _ _ _ _ _ (S 14) (S 15) true _ _ _ _;rw [h4];exact h3,hI.2⟩
   intro vals w14 hI;obtain ⟨nb,hv1,hv3,hm⟩:=hI.1.done;rw [qu hv1,qu hv3];clear hI;have hm:Mem w w14 ((nb,errO (y+p) q)::[(pb,.cells #[pp eb] 104),(vb,.cells (fnA 7 (vF (d) l (k))) 153),(pl,.cells (fnA 3 (inF (P))) 129),(sz,.cells (fnA 3 (inF (Q))) 129),(cb,curO 244 (.slice A l.length c) (vAt l 3) 0),(r5,.cells (fnA 3 (inF (P))) 129)]):=hm;(conv=>whnf);refine qi (R:=fun v w'=>FndR l E v w'∧Ext w w') (zw ?_);refine LoadA.mem hm (i:=6) rfl (by simp [qv];rfl) (zw ?_);exact ⟨.inl ⟨by rw [hEf];exact hEk,P,errV nb,rfl,⟨nb,rfl,by rw [hEf];exact CellsAt.mem hm mh⟩⟩,hm.ext⟩
 obtain rfl:k=3:=by omega
 have hE3:(fE l E).2=0:=by
  rw [hfE];exact qag fun j hj=>by simp only [if_pos (hEz j hj)]
 refine DrawV.inv (fun S w'=>Mem w w' [(vb,.cells (fnA 7 (vF (d) l (3))) 153),(pl,.cells (fnA 3 (inF (P))) 129),(sz,.cells (fnA 3 (inF (Q))) 129),(cb,curO 244 (.slice A l.length c) (vAt l 3) 0),(r5,.cells (bif S 3 then fnA 3 (inF P) else fnA 3 (inF fun _:Nat=>(0:Int))) 129)]∧∀ j,j<3→DictAt w' (d j) (sDict l j)) rfl Jk ⟨hm.drew,fun j hj=>(hD j hj).ext xr.drew⟩ ?_;clear hm hD;(conv=>whnf);refine zi ?_;refine StepI.of (.agg (fnA 3 (inF P))) (fun S wd hk hp hI=>zw ?_) (zw ?_)
 ·refine LoadA.mem hI.1 (i:=1) rfl (by simp [qv];rfl) (zw ?_);exact ⟨rfl,hI⟩
 refine zi ?_;refine StepI.of undef (fun S wd hk hp hI=>?_) (zw ?_)
 ·dsimp only at hI;rw [hk] at hI;(conv=>whnf);have hx:wd.heap[r5]?=some (.cells (fnA 3 (inF fun _:Nat=>(0:Int))) 129):=hI.1.get Js;refine StoreA.row hI.1 (i:=4) rfl (by simp [qv]) (qej 3 P) fun wx hfr _ hmx=>zw ?_;refine ⟨rfl,hmx,fun j hj=>(hI.2 j hj).other hx Od ?_ hfr⟩;intro v hv c;obtain ⟨m,hm',rfl⟩:=List.mem_map.1 (show v∈(List.range 3).map (inF fun _:Nat=>(0:Int)) from hv);intro e;cases e
 refine zi ?_;intro w12 hI;obtain ⟨hm,hD⟩:=hI;have hm:Mem w w12 [(vb,.cells (fnA 7 (vF (d) l (3))) 153),(pl,.cells (fnA 3 (inF (P))) 129),(sz,.cells (fnA 3 (inF (Q))) 129),(cb,curO 244 (.slice A l.length c) (vAt l 3) 0),(r5,.cells (fnA 3 (inF (P))) 129)]:=hm;(conv=>whnf);refine qi (R:=fun v w'=>FndR l E v w'∧Ext w w') (zw ?_);refine LoadA.mem hm (i:=4) rfl (by simp [qv];rfl) (zw ?_);exact ⟨.inr ⟨hE3,vb,P,rfl,fun k hk=>hP k hk,d,hm.get mh,hD⟩,hm.ext⟩
def VVwR (l:LB) (v:Value) (w:World):Prop:=
 ((wE l).2≠0∧∃ e,v=.tuple #[.pointer none,e]∧ErrAt w e (wE l).1 (wE l).2)∨((wE l).2=0∧∃ b,v=.tuple #[pp b,.nilIface]∧VocAt w b l)
theorem qhk (l:LB) (k:Nat):(sDict l k).length≤l.length:=by
 rw [sDict,List.length_take,zld];omega
theorem qte (l:LB) (A:oA) (c:Nat) (w:World) (hS:SlAt encB 1 w A l) (hc:l.length≤c) (hl:l.length≤70368744177664) (hG:ErrTyp w) :
  Gv Tryz.prog 28 [.slice A l.length c] w fun v w'=>VVwR l v w'∧Ext w w':=by
 have hfd:=qpx l A c w hS hc hl hG 58 (fun k=>dE (sDict l k)) (fun k _=>Nat.le_trans (Nat.le_trans (qabo (sDict l k)) (qhk l k)) Oo) (fun k _ w' B c' hx hB hc'=>(qy8 (sDict l k) B c' w' hB hc' (by have:=qhk l k;omega)).mono fun v w'' ⟨h,he⟩=>⟨by
   rcases h with ⟨h0,e,h1,h2⟩|⟨h0,b,h1,_,h2⟩
   ·exact .inl ⟨h0,e,h1,h2⟩
   ·exact .inr ⟨h0,b,h1,h2⟩,he⟩)
 have hE:fE l (fun k=>dE (sDict l k))=wE l:=rfl;refine ze Tryz.func28 Tryz.ntmps28 ?_;refine zcv (hfd) ?_;rintro v w1 ⟨⟨h0,G,e,rfl,eb,rfl,hec⟩|⟨h0,b,G,rfl,hG2,hV⟩,he⟩
 all_goals
  rw [hE] at h0;(conv=>whnf);refine znm (Mem.nil w1) fun t5 w2 hm=>zw ?_;refine StoreA.all hm (i:=0) rfl (by simp [qv]) (qej 3 G) fun w3 hm=>zu ?_
 ·rw [hE] at hec;exact ⟨.inl ⟨h0,_,rfl,eb,rfl,CellsAt.ext hec hm.ext⟩,he.trans hm.ext⟩
 ·exact ⟨.inr ⟨h0,b,rfl,VocAt.ext hV hm.ext⟩,he.trans hm.ext⟩
theorem VocAt.cell {w:World} {b:Nat} {l:LB} (h:VocAt w b l):∃ d:Nat→Nat,(∀ k,k<3→w.cell? ⟨b,2*k,none⟩=some (.pointer (some ⟨d k,0,none⟩))∧w.cell? ⟨b,2*k+1,none⟩=some (ii (vTot l k+1:Nat))∧DictAt w (d k) (sDict l k))∧
  w.cell? ⟨b,6,none⟩=some (ii (vTot l 3:Nat)):=by
 obtain ⟨d,h1,h2⟩:=h;refine ⟨d,fun k hk=>⟨?_,?_,h2 k hk⟩,?_⟩
 ·rw [qc h1,qbd 7 _ _ Oo,vF,if_neg Oo,if_pos Oo,if_pos Oo,show 2*k/2=k by omega]
 ·rw [qc h1,qbd 7 _ _ Oo,vF,if_neg Oo,if_pos Oo,if_neg Oo,show (2*k+1)/2=k by omega]
 ·rw [qc h1,qbd 7 _ _ Oo,vF,if_pos rfl]
theorem VocAt.tot {w:World} {b:Nat} {l:LB} (h:VocAt w b l) {k:Nat} (hk:k≤3):vTot l k≤12582912:=by
 obtain ⟨d,_,h2⟩:=h;have h0:=(h2 0 Oo).n;have h1:=(h2 1 Oo).n;have h3:=(h2 2 Oo).n
 rcases (show k=0∨k=1∨k=2∨k=3 by omega) with rfl|rfl|rfl|rfl<;>simp only [vTot]<;>omega
theorem q2z (b:Nat) (l:LB) (id:Nat) (w:World) (h:VocAt w b l) (hid:id≤16777216) :
  Gv Tryz.prog 157 [pp b,ii id] w fun r w'=>r=ii (if id=0∨vTot l 3<id then -1 else (qb8 l id:Int))∧Ext w w':=by
 obtain ⟨d,hd,hn⟩:=h.cell;have ht:=fun k (hk:k≤3)=>h.tot hk
 refine ze Tryz.func157 Tryz.ntmps157 ?_;refine zC (fun _=>zu ?_) (fun _=>zu ?_)
 ·exact ⟨by rw [if_pos Oo],xr⟩
 refine LoadV.of hn (zw ?_);refine zt ?_;refine zC (fun _=>zw ?_) (fun _=>zw ?_)
 ·exact ⟨by rw [if_pos Oo],xr⟩
 rw [if_neg Oo];refine qw (fun i:Nat=>[(0,pp b),(1,ii id),(5,ii i)])
  (fun i w'=>i≤2∧(∀ j,i<j→j≤2→id≤vTot l j)∧w'=w) (fun i=>i) 2 ⟨rfl,rfl,rfl,trivial⟩ ⟨by omega,fun j h1 h2=>by omega,rfl⟩ ?_
 rintro i w1 ρ' ⟨i1,hj,rfl⟩;obtain ⟨_,hf,_⟩:=hd i Oo;have hti:=ht i Oo;refine zu ?_;refine LoadV.of (v:=ii (vTot l i+1:Nat)) ?_ ?_
 ·rw [← hf]
  congr 2
  rw [show tsz Tryz.prog 150=2 from by kernel_rfl];show 0+0+i*2+1=_;omega
 (conv=>whnf);refine zC (fun _=>zu ?_) (fun _=>zu ?_)
 ·have hi0:i≠0:=by
   intro e;subst e;have:vTot l 0=0:=rfl;omega
  refine ⟨i-1,⟨rfl,rfl,?_,trivial⟩,⟨by omega,fun j h1 h2=>?_,rfl⟩,by omega⟩
  ·show ii _=ii _
   congr 1
   omega
  ·by_cases e:j=i
   ·subst e;omega
   ·exact hj j Oo h2
 ·refine ⟨congrArg (Value.int .i64) ?_,xr⟩;have e:qb8 l id=i:=by
   unfold qb8
   rcases (show i=0∨i=1∨i=2 by omega) with rfl|rfl|rfl
   ·have h1:=hj 1 Oo Oo;have h2:=hj 2 Oo Oo;rw [if_neg Oo,if_neg Oo]
   ·have h2:=hj 2 Oo Oo;rw [if_neg Oo,if_pos Oo]
   ·rw [if_pos Oo]
  rw [e]
def qe6 (w:World):Prop:=CellsAt w 0 0 [ii 1,ii 2,ii 3]
noncomputable def qcg (l:LB) (id:Nat):Option TM:=
 if id=0 then some ⟨0,⟨#[]⟩,⟨#[]⟩,⟨#[]⟩⟩ else if vTot l 3<id then none else
  match dGet (sDict l (qb8 l id)) (id-(vTot l (qb8 l id)+1)) with
  | some s=>qgn ((qb8 l id+1:Nat):Int) s
  | none=>none
def qxt:Value:=.agg #[ii 0,.string ⟨#[]⟩,.string ⟨#[]⟩,.string ⟨#[]⟩]
noncomputable def qml (l:LB) (id:Nat):Value:=
 match qcg l id with
 | some t=>.tuple #[qbq t,.bool true]
 | none=>.tuple #[qxt,.bool false]
theorem qvq {l:LB} {id:Nat} (h0:id≠0) (h:id≤vTot l 3):qb8 l id<3∧vTot l (qb8 l id)<id∧id≤vTot l (qb8 l id+1):=by
 have e0:vTot l 0=0:=rfl;unfold qb8
 split
 ·exact ⟨by omega,by assumption,h⟩
 ·split
  ·refine ⟨by omega,by assumption,?_⟩;show id≤vTot l 2;omega
  ·refine ⟨by omega,by omega,?_⟩;show id≤vTot l 1;omega
theorem q21 (b:Nat) (l:LB) (id:Nat) (w:World) (h:VocAt w b l) (hid:id≤16777216) (hM:MaxLenAt w) (hT:CellsAt w 6 0 qa4) (hK:qe6 w) :
  Gv Tryz.prog 93 [pp b,ii id] w fun r w'=>r=qml l id∧Ext w w':=by
 refine ze Tryz.func93 Tryz.ntmps93 ?_;refine znm (Mem.nil w) fun r4 w1 hm=>zw ?_;refine zcv (q2z b l id w1 (h.ext hm.ext) hid) ?_;rintro r w2 ⟨rfl,he2⟩;have hm:=hm.call he2;conv=>whnf
 by_cases h0:id=0∨vTot l 3<id
 ·rw [if_pos h0];refine zv ?_;refine zS hm 0 fun w3 hm=>zw ?_;refine qi (R:=fun v w'=>v=qml l id∧Ext w w') (zw ?_);refine zl hm 0 ?_;refine ⟨?_,hm.ext⟩;rw [qml,qcg]
  by_cases hi:id=0
  ·rw [if_pos hi];subst hi;rfl
  ·rw [if_neg hi,if_pos Oo];show Value.tuple #[_,.bool (decide ((id:Int)=0))]=_;rw [decide_eq_false Oo];rfl
 ·rw [if_neg h0];obtain ⟨hp3,hp1,hp2⟩:=qvq (l:=l) (id:=id) Oo Oo;have hvt:qml l id=match dGet (sDict l (qb8 l id)) (id-(vTot l (qb8 l id)+1)) with
   | some s=>(match qgn ((qb8 l id+1:Nat):Int) s with|some t=>.tuple #[qbq t,.bool true]|none=>.tuple #[qxt,.bool false])
   | none=>.tuple #[qxt,.bool false]:=by
   rw [qml,qcg,if_neg Oo,if_neg Oo];cases dGet (sDict l (qb8 l id)) (id-(vTot l (qb8 l id)+1))<;>rfl
  rw [hvt];obtain ⟨k,ek⟩:∃ k,k=qb8 l id:=⟨_,rfl⟩
  rw [← ek] at hp3 hp1 hp2 ⊢;obtain ⟨d,hd,hn⟩:=(h.ext hm.ext).cell;obtain ⟨hd1,hd2,hdD⟩:=hd k hp3;have htk:=(h.tot (k:=k) Oo)
  obtain ⟨i,ei⟩:∃ i,i=id-(vTot l k+1):=⟨_,rfl⟩
  rw [← ei];refine zv ?_;have hG:∃ s ok,qh5 (sDict l k) i=.tuple #[.string s,.bool ok]∧s.size≤262144∧((ok=true∧dGet (sDict l k) i=some s.data.toList)∨(ok=false∧dGet (sDict l k) i=none)):=by
   unfold qh5;cases hg:dGet (sDict l k) i with
   | none=>exact ⟨_,_,rfl,by decide,.inr ⟨rfl,rfl⟩⟩
   | some s=>exact ⟨⟨s.toArray⟩,_,rfl,qjk hg,.inl ⟨rfl,rfl⟩⟩
  obtain ⟨s,ok,hgv,hss,hcase⟩:=hG;refine DrawV.free Jk Jk (zw ?_);(iterate 6 (refine zd ?_));apply zsd (.pointer (some ⟨d k,0,none⟩))
  ·intro wd hd';(conv=>whnf);refine LoadV.of (v:=.pointer (some ⟨d k,0,none⟩)) ?_ ?_
   ·have:=((Ext.refl w2).drew.trans hd').cell hd1;rw [← this]
    congr 2
    rw [show tsz Tryz.prog 150=2 from by kernel_rfl];show 0+0+k*2+0=_;omega
   (conv=>whnf);exact ⟨xr,rfl⟩
  (conv=>whnf);(iterate 7 (refine zd ?_));apply zsd (ii (vTot l k+1:Nat))
  ·intro wd hd';(conv=>whnf);refine LoadV.of (v:=ii (vTot l k+1:Nat)) ?_ ?_
   ·have:=((Ext.refl w2).drew.trans hd').cell hd2;rw [← this]
    congr 2
    rw [show tsz Tryz.prog 150=2 from by kernel_rfl];show 0+0+k*2+1=_;omega
   (conv=>whnf);exact ⟨xr,rfl⟩
  (conv=>whnf);apply zsd (ii (i:Nat))
  ·intro wd hd';(conv=>whnf);refine Obl.mk ⟨by omega,by omega⟩ (zw ?_);refine ⟨xr,?_⟩;show ii _=ii _
   congr 1
   omega
  (conv=>whnf);apply zsd (.tuple #[.string s,.bool ok])
  ·intro wd hd';(conv=>whnf);refine zcv (qt7 (d k) (sDict l k) i wd (hdD.ext ((Ext.refl w2).drew.trans hd')) Oo) ?_;rintro v w5 ⟨rfl,he⟩;exact ⟨he,hgv⟩
  (conv=>whnf);(iterate 5 (refine zd ?_));intro w3 he3;have hm:=hm.drew.call he3;clear he3;refine zu ?_;have hkk:((k+1:Nat):Int)=1∨((k+1:Nat):Int)=2∨((k+1:Nat):Int)=3:=by omega
  refine LoadV.of (v:=ii (k+1:Nat)) ?_ ?_
  ·have hKx:=fun j v (hv:([ii 1,ii 2,ii 3]:List Value)[j]?=some v)=>(CellsAt.ext hK hm.ext) j v hv
   rw [show tsz Tryz.prog 3=1 from by kernel_rfl]
   rcases (show k=0∨k=1∨k=2 by omega) with rfl|rfl|rfl
   ·exact hKx 0 _ rfl
   ·exact hKx 1 _ rfl
   ·exact hKx 2 _ rfl
  (conv=>whnf);obtain ⟨t,e,hrv,hrc⟩:∃ t e,qcz ((k+1:Nat):Int) s.data.toList=.tuple #[qbq t,ii (e:Nat)]∧((e=0∧qgn ((k+1:Nat):Int) s.data.toList=some t)∨(e≠0∧qgn ((k+1:Nat):Int) s.data.toList=none)):=by
   unfold qcz;cases hg:qgn ((k+1:Nat):Int) s.data.toList with
   | none=>exact ⟨⟨0,⟨#[]⟩,⟨#[]⟩,⟨#[]⟩⟩,170,rfl,.inr ⟨by decide,rfl⟩⟩
   | some t=>exact ⟨t,0,rfl,.inl ⟨rfl,rfl⟩⟩
  refine zcv (qra ((k+1:Nat):Int) hkk s hss w3 (hM.ext hm.ext) (hT.ext hm.ext)) ?_;rintro r w4 ⟨rfl,he4⟩;have hm:=hm.call he4;rw [hrv];(conv=>whnf);refine znm hm fun t9 w5 hm=>zw ?_;refine zS hm 0 fun w6 hm=>zw ?_
  rcases hcase with ⟨rfl,hg⟩|⟨rfl,hg⟩
  ·rw [hg];dsimp only
   rcases hrc with ⟨rfl,hr⟩|⟨he,hr⟩
   ·rw [hr];refine zv ?_;refine zl hm 0 ?_;refine zS hm 1 fun w7 hm=>zw ?_;refine qi (R:=fun v w'=>v=.tuple #[qbq t,.bool true]∧Ext w w') (zw ?_);refine zl hm 1 ?_;exact ⟨rfl,hm.ext⟩
   ·rw [hr];refine zv ?_;refine zS hm 1 fun w7 hm=>zw ?_;refine qi (R:=fun v w'=>v=.tuple #[qxt,.bool false]∧Ext w w') (zw ?_);refine zl hm 1 ?_;exact ⟨rfl,hm.ext⟩
  ·rw [hg];dsimp only;refine zv ?_;refine zS hm 1 fun w7 hm=>zw ?_;refine qi (R:=fun v w'=>v=.tuple #[qxt,.bool false]∧Ext w w') (zw ?_);refine zl hm 1 ?_;exact ⟨rfl,hm.ext⟩
def zTM:TM:=⟨0,⟨#[]⟩,⟨#[]⟩,⟨#[]⟩⟩
noncomputable def uT (l:LB) (q:Nat→Nat) (j:Nat):TM:=(qcg l (q j)).getD zTM
noncomputable def q4Of (l:LB) (q:Nat→Nat):Q4:=⟨uT l q 1,uT l q 2,uT l q 3,uT l q 0⟩
def zQ:Q4:=⟨zTM,zTM,zTM,zTM⟩
def idsV (q:Nat→Nat):Value:=.agg #[ii (q 0:Nat),ii (q 1:Nat),ii (q 2:Nat),ii (q 3:Nat)]
open Classical in
noncomputable def qgc (l:LB) (q:Nat→Nat):Value:=
 if ∀ j,j<4→qcg l (q j)≠none then .tuple #[qce (q4Of l q),.bool true] else .tuple #[qce zQ,.bool false]
noncomputable def aT (l:LB) (q:Nat→Nat) (k j:Nat):TM:=if j<k then uT l q j else zTM
noncomputable def arrT (l:LB) (q:Nat→Nat) (k:Nat):Q4:=⟨aT l q k 0,aT l q k 1,aT l q k 2,aT l q k 3⟩
theorem q3a (l:LB) (q:Nat→Nat) (k:Nat) (hk:k<4):((qah (arrT l q k)).take (k*4)++encT (uT l q k)++(qah (arrT l q k)).drop (k*4+4))=qah (arrT l q (k+1)):=by
 rcases (show k=0∨k=1∨k=2∨k=3 by omega) with rfl|rfl|rfl|rfl<;>rfl
theorem qq9 (b:Nat) (l:LB) (q:Nat→Nat) (w:World) (h:VocAt w b l) (hq:∀ j,j<4→q j≤16777216) (hM:MaxLenAt w) (hT:CellsAt w 6 0 qa4) (hK:qe6 w) :
  Gv Tryz.prog 44 [pp b,idsV q] w fun r w'=>r=qgc l q∧Ext w w':=by
 unfold idsV;refine ze Tryz.func44 Tryz.ntmps44 ?_;refine znm (Mem.nil w) fun t3 w1 hm=>zw ?_;refine znm hm fun r4 w2 hm=>zw ?_;refine znm hm fun t6 w3 hm=>zw ?_;refine zl hm 2 ?_;obtain ⟨TB,eTB⟩:∃ TB,TB=(t3,Obj.cells #[ii (q 0:Nat),ii (q 1:Nat),ii (q 2:Nat),ii (q 3:Nat)] 75):=⟨_,rfl⟩
 have hm:Mem w w3 [(t6,.cells (qah (arrT l q 0)).toArray 69),(r4,.cells (qah zQ).toArray 68),TB]:=by rw [eTB];exact hm
 clear eTB;refine qw (fun k:Nat=>[(0,pp b),(4,pp r4),(5,.bool false),(6,pp t6),(11,.agg #[ii (q 0:Nat),ii (q 1:Nat),ii (q 2:Nat),ii (q 3:Nat)]),(12,ii k)])
  (fun k w'=>k≤4∧(∀ j,j<k→qcg l (q j)≠none)∧Mem w w' [(t6,.cells (qah (arrT l q k)).toArray 69),(r4,.cells (qah zQ).toArray 68),TB]) (fun k=>4-k) 0
  ⟨rfl,rfl,rfl,rfl,rfl,rfl,trivial⟩ ⟨by omega,fun j h=>by omega,hm⟩ ?_
 clear hm;rintro k w4 ρ' ⟨k1,hj,hm⟩;conv=>whnf
 (repeat' (first|refine zp ?_|refine zC (fun _=>zw ?_) (fun _=>zw ?_)|(refine zJ 0 ?_;(conv=>whnf))))
 ·have hqk:=hq k Oo;refine ⟨ii (q k:Nat),?_,?_⟩
  ·rw [show k*tsz Tryz.prog 3=k from by rw [show tsz Tryz.prog 3=1 from by kernel_rfl];omega]
   rcases (show k=0∨k=1∨k=2∨k=3 by omega) with rfl|rfl|rfl|rfl<;>rfl
  (conv=>whnf);refine zcv (q21 b l (q k) w4 (h.ext hm.ext) hqk (hM.ext hm.ext) (hT.ext hm.ext) (CellsAt.ext hK hm.ext)) ?_;rintro r w5 ⟨rfl,he5⟩;have hm:=hm.call he5;unfold qml;cases hv:qcg l (q k) with
  | none=>
   dsimp only;have hV:qgc l q=.tuple #[qce zQ,.bool false]:=by rw [qgc,if_neg (fun h=>h k Oo hv)]
   rw [hV];unfold qxt;(conv=>whnf);refine znm hm fun t9 w6 hm=>zw ?_;refine zS hm 0 fun w7 hm=>zu ?_;refine zS hm 2 fun w8 hm=>zw ?_;refine qi (R:=fun v w'=>v=.tuple #[qce zQ,.bool false]∧Ext w w') (zw ?_);refine zl hm 2 ?_;exact ⟨rfl,hm.ext⟩
  | some t=>
   dsimp only;have hut:uT l q k=t:=by rw [uT,hv];rfl
   (conv=>whnf);refine znm hm fun t9 w6 hm=>zw ?_;refine zS hm 0 fun w7 hm=>zu ?_;refine zl hm 0 ?_;refine zv ?_;refine StoreA.mem hm (i:=1) rfl ?_ (by simp [Value.oneCell']) ?_
   ·rw [show tsz Tryz.prog 66=4 from by kernel_rfl];show 0+k*4+4≤16;omega
   intro w8 hm;refine zu ?_;refine ⟨k+1,⟨rfl,rfl,rfl,rfl,rfl,rfl,trivial⟩,⟨by omega,fun j hj'=>?_,?_⟩,by omega⟩
   ·by_cases e:j=k
    ·subst e;rw [hv];simp
    ·exact hj j Oo
   ·have hm:=hm.sub (List.sublist_cons_self ..);have e:=q3a l q k Oo;rw [hut] at e;rw [← e];rw [show tsz Tryz.prog 66=4 from by kernel_rfl,Nat.zero_add] at hm;exact hm
 obtain rfl:k=4:=by omega
 have hV:qgc l q=.tuple #[qce (q4Of l q),.bool true]:=by rw [qgc,if_pos hj]
 rw [hV];have hc:CellsAt w4 t6 0 (qah (arrT l q 4)):=CellsAt.mem hm mh;refine LoadA.cells (qad hc 0 Oo) rfl (zw ?_);refine zJ 1 ?_;(conv=>whnf);refine LoadA.cells (qad hc 1 Oo) rfl (zw ?_);refine zJ 2 ?_;(conv=>whnf);refine LoadA.cells (qad hc 2 Oo) rfl (zw ?_);refine zJ 3 ?_;(conv=>whnf);refine LoadA.cells (qad hc 3 Oo) rfl (zw ?_);refine zS hm 1 fun w8 hm=>zw ?_;refine qi (R:=fun v w'=>v=.tuple #[qce (q4Of l q),.bool true]∧Ext w w') (zw ?_);refine zl hm 1 ?_;exact ⟨rfl,hm.ext⟩
theorem VocAt.other {w w':World} {b x:Nat} {l:LB} {cs:Array Value} {t:TypeId} {fz:Nat × Nat} (h:VocAt w b l) (hx:w.heap[x]?=some (.cells cs t fz)) (ht:t≠253) (ht2:t≠153) (hc:∀ v∈cs.toList,∀ c:Nat,v≠.int .u8 c)
  (hw:∀ c,c≠x→w'.heap[c]?=w.heap[c]?):VocAt w' b l:=by
 obtain ⟨d,h1,h2⟩:=h;have hbx:b≠x:=by
  intro e;subst e;rw [hx] at h1
  injection h1 with h1
  injection h1 with _ h1 _
  exact ht2 h1
 exact ⟨d,by rw [hw b hbx];exact h1,fun k hk=>(h2 k hk).other hx ht hc hw⟩
theorem TreeAt.other {w w':World} {b x:Nat} {l:LB} {fz:Nat × Nat} {v:Value} (h:TreeAt w b l) (hx:w.heap[x]?=some (.cells #[v] 37 fz)) (hv:∀ (k:IntKind) (c:Int),v≠.int k c)
  (hw:∀ c,c≠x→w'.heap[c]?=w.heap[c]?):TreeAt w' b l:=by
 have hne:∀ (z:LB),∀ y∈z,∀ u∈(#[v]:Array Value).toList,(encB y)[0]?≠some u:=fun z y _ u hu e=>by
  simp only [List.mem_cons,List.not_mem_nil,or_false] at hu;subst hu;cases e;exact hv _ _ rfl
 refine ⟨fun k hk=>?_,h.n,h.wd⟩;obtain ⟨P,cp,S,cs,V,h1,h2,h3,h4,h5⟩:=h.lv k hk;refine ⟨P,cp,S,cs,V,h1.other ?_ hw,h2.other hx (hne _) (fun _ _ e=>by cases e) hw,h3.other hx (hne _) (fun _ _ e=>by cases e) hw,h4,?_⟩
 ·intro e;have h6:=h1 0 _ rfl;rw [e,qc hx] at h6;have h7:(#[v]:Array Value)[8*k+0]?=some (ii (vNum l k)):=h6
  rcases Nat.eq_zero_or_pos k with rfl|hk0
  ·exact hv _ _ (Option.some.inj h7)
  ·rw [Array.getElem?_eq_none Ys] at h7;cases h7
 ·rcases h5 with h5|⟨h5,h6,vb,h7,h8⟩
  ·exact .inl h5
  ·refine .inr ⟨h5,h6,vb,h7,?_⟩;rw [hw vb ?_]
   ·exact h8
   ·intro e;subst e;rw [hx] at h8
    injection h8 with h8
    injection h8 with _ h8 _
    exact absurd h8 Od
theorem qi3 (c5 place:Nat) {w0 w:World} {M:List (Nat × Obj)} (hm:Mem w0 w ((c5,.cells #[.nilIface] 37)::M)) :
  GvD Tryz.prog 160 [pp c5,ii place] w fun w'=>Ext w w':=by
 refine gvD Jk Tryz.func160 rfl Tryz.ntmps160 rfl (zw ?_);refine znm (Mem.nil w) fun t4 w1 hm1=>zw ?_;refine LoadV.mem (hm.call hm1.ext) (i:=0) rfl rfl (zw ?_);refine zcv (qpa _ w1) ?_;rintro r w2 ⟨rfl,rfl⟩;refine zu ?_;exact hm1.ext
def Mv (w0:World) (M:List (Nat × Obj)) (t4 c5 e:Nat) (o:Obj) (s12 s13 s15:Bool) (v12 v13:Value) (w:World):Prop:=
 (s15=false∧Er w0 ((t4,.cells #[pp e] 104)::(c5,.cells #[errV e] 37)::M) o (fun b=>pp b) errV errV s12 s13 false v12 v13 undef w)∨
 (s15=true∧s12=true∧s13=true∧∃ nb,Mem w0 w ((nb,o)::(t4,.cells #[pp e] 104)::(c5,.cells #[errV nb] 37)::M))
theorem Mv.top {w0:World} {M:List (Nat × Obj)} {t4 c5 e:Nat} {o:Obj} {s12 s13 s15:Bool} {v12 v13:Value} {w:World} (h:Mv w0 M t4 c5 e o s12 s13 s15 v12 v13 w) :
  ∃ X,Mem w0 w ((t4,.cells #[pp e] 104)::X):=by
 rcases h with ⟨_,h⟩|⟨_,_,_,nb,h⟩
 ·exact ⟨_,h.mem⟩
 ·exact ⟨_,h.sub (List.sublist_cons_self ..)⟩
theorem qi2 (c5 e p q place:Nat) {w0 w:World} {M:List (Nat × Obj)} (hm:Mem w0 w ((c5,.cells #[errV e] 37)::M)) (hc:CellsAt w e 0 [ii p,.iface 26 (ii q)]) (hG:ErrTyp w)
  (hp:p≤1152921504606846976) (hpl:place≤1152921504606846976) :
  GvD Tryz.prog 160 [pp c5,ii place] w fun w'=>∃ e',Mem w0 w' ((e',errO (p+place) q)::(c5,.cells #[errV e'] 37)::M):=by
 refine gvD Jk Tryz.func160 rfl Tryz.ntmps160 rfl (zw ?_);refine ⟨fun t4 w1 hb1 hw1=>?_⟩;have he1:Ext w w1:=by rw [hw1];exact xr.alloc _
 have hm:=hm.new hb1 hw1;have hc:=hc.ext he1;have hG:=hG.ext he1;clear hw1 hb1 he1;(conv=>whnf);refine zr hm 1 ?_;refine zcv (qo9 e t4 hm (i:=0) rfl hG) ?_;rintro r w2 ⟨rfl,hm',w4',he4',hfr⟩;have hne:e≠t4:=by
  intro e1;have h1:=hc 0 _ rfl;rw [e1,qc (hm.get mh)] at h1;cases h1
 have hc:=(hc.ext he4').other hne hfr;have hm:Mem w0 w2 ((t4,.cells #[pp e] 104)::(c5,.cells #[errV e] 37)::M):=hm';have hne5:e≠c5:=by
  intro e1;have h1:=hc 0 _ rfl;rw [e1,qc (hm.get (zmc mh))] at h1;cases h1
 clear hm' he4' hfr;refine zu ?_;refine DrawV.gen (fun S vals w'=>Mv w0 M t4 c5 e (errO (p+place) q) (S 12) (S 13) (S 15) (vals 12) (vals 13) w'∧CellsAt w' e 0 [ii p,.iface 26 (ii q)]) rfl Jk (fun vals=>⟨.inl ⟨rfl,Er.start hm.drew⟩,hc.ext xr.drew⟩) ?_;clear hm hc;(conv=>whnf);refine zg ?_;refine StepG.of (pp e) (fun S vals wd hk hp hI=>zw ?_) (zw ?_)
 ·obtain ⟨X,hX⟩:=hI.1.top;refine zr hX 0 ?_;exact ⟨rfl,hI⟩
 refine zg ?_;refine zg ?_;refine StepG.of (ii p) (fun S vals wd hk hp hI=>zw ?_) (zw ?_)
 ·refine LoadV.of (hI.2 0 _ rfl) (zw ?_);exact ⟨rfl,hI⟩
 refine zg ?_;refine zg ?_;refine StepG.of (pp e) (fun S vals wd hk hp hI=>zw ?_) (zw ?_)
 ·obtain ⟨X,hX⟩:=hI.1.top;refine zr hX 0 ?_;exact ⟨rfl,hI⟩
 refine zg ?_;refine zg ?_;refine StepG.of (.iface 26 (ii q)) (fun S vals wd hk hp hI=>zw ?_) (zw ?_)
 ·refine LoadV.of (hI.2 1 _ rfl) (zw ?_);exact ⟨rfl,hI⟩
 refine zg ?_;refine StepG.any (fun S vals wd hk hp hI=>?_) (zw ?_)
 ·dsimp only at hI;rw [hk] at hI;obtain ⟨⟨h15,hE⟩|⟨_,h12,_⟩,hc⟩:=hI
  ·(conv=>whnf);refine ⟨fun x wx hb hw=>?_⟩;subst hb hw;(conv=>whnf);exact ⟨trivial,.inl ⟨h15,hE.alloc⟩,hc.ext (xr.alloc _)⟩
  ·cases h12
 refine StepG.any (fun S vals wd hk hp hI=>?_) (zw ?_)
 ·have h12:S 12=true:=hp 12 Od;dsimp only at hI;rw [hk,h12] at hI;obtain ⟨⟨h15,hE⟩|⟨_,_,h13,_⟩,hc⟩:=hI
  ·obtain ⟨nb,hv,h3,_⟩:=hE.see;rw [qu hv];(conv=>whnf);refine ⟨trivial,.inl ⟨h15,?_⟩,hc⟩;show Er _ _ _ _ _ _ (S 12) true false _ _ _ _;rw [h12];exact h3
  ·cases h13
 refine zg ?_;refine StepG.of undef (fun S vals wd hk hp hI=>?_) (zw ?_)
 ·have h13:S 13=true:=hp 13 Od;dsimp only at hI;rw [hk,h13] at hI;obtain ⟨⟨_,hE⟩|⟨h15,_⟩,hc⟩:=hI
  ·rcases hE.h with ⟨_,h,_⟩|⟨h12,nb,_,hv,_,hmm⟩
   ·cases h
   ·have hv:=hv rfl;rw [qu hv];(conv=>whnf);refine StoreV.row hmm (i:=2) rfl Js rfl fun wx hfr _ hmx=>zw ?_;refine ⟨rfl,.inr ⟨rfl,h12,h13,nb,hmx⟩,hc.other hne5 hfr⟩
  ·cases h15
 intro vals w14 hI;obtain ⟨⟨h15,_⟩|⟨_,_,_,nb,hm⟩,_⟩:=hI
 ·cases h15
 (conv=>whnf);exact ⟨nb,hm.sub (.cons_cons _ (List.sublist_cons_self ..))⟩
theorem V.LoadV.cellsE {w:World} {b o off:Nat} {vs:List Value} {v:Value} {K:Value→Prop} (h:CellsAt w b o vs) (j:Nat) (e:off=o+j) (hv:vs[j]?=some v) (hk:K v):LoadV w b off K:=by
 subst e;exact LoadV.cells h j hv hk
theorem qoj (b:Nat) (l:LB) (w:World) (h:TreeAt w b l):Gv Tryz.prog 91 [pp b] w fun r w'=>r=ii (vNum l 3)∧w'=w:=by
 obtain ⟨P3,cp3,S3,cs3,V3,hc3,hP3,hS3,hl3,hv3⟩:=(h.lv 3 Oo).h;refine ze Tryz.func91 Tryz.ntmps91 ?_;refine zJ 3 ?_;(conv=>whnf);refine LoadV.cellsE hc3 0 (by rw [lvSz];first|done|rfl) rfl (zw ?_);exact ⟨rfl,rfl⟩
def zq:Array Value:=#[ii 0,ii 0,ii 0,ii 0]
def qgp (l:LB) (i:Nat):Value:=
 if i<vNum l 3∧tOk l i=true then .tuple #[.agg #[ii (tNum l i 0),ii (tNum l i 1),ii (tNum l i 2),ii (tNum l i 3)],.bool true] else .tuple #[.agg zq,.bool false]
theorem qer {l:LB} {i:Nat} (h:¬ tOk l i=true):qgp l i=.tuple #[.agg zq,.bool false]:=by rw [qgp,if_neg fun hx=>h hx.2]
theorem qes {l:LB} {i:Nat} (h:tOk l i=true) (j:Nat) (hj:j<4):qe5 l i j=true:=by
 simp only [tOk,Bool.and_eq_true] at h;obtain ⟨⟨⟨h0,h1⟩,h2⟩,h3⟩:=h
 match j,hj with
 | 0,_=>exact h0
 | 1,_=>exact h1
 | 2,_=>exact h2
 | 3,_=>exact h3
theorem qaah (l:LB) (i j k:Nat) (h:k=3-j):qjc (qg l k) (tUp l i j)=tUp l i (j+1):=by subst h;rw [tUp]
def tI (l:LB) (i:Nat):Nat→Nat
 | 4=>tUp l i 3
 | j=>tUp l i j
def kv:Nat→Int
 | 0=>3
 | 1=>2
 | 2=>1
 | 3=>0
 | _=>-1
def qL (l:LB) (i j:Nat):List Value:=[ii (if 3<j then tNum l i 0 else 0:Nat),ii (if 2<j then tNum l i 1 else 0:Nat),ii (if 1<j then tNum l i 2 else 0:Nat),ii (if 0<j then tNum l i 3 else 0:Nat)]
theorem q5o (b:Nat) (l:LB) (i:Nat) (w:World) (h:TreeAt w b l) (hi:i≤1048576):Gv Tryz.prog 92 [pp b,ii i] w fun v w'=>v=qgp l i∧Ext w w':=by
 obtain ⟨P0,cp0,S0,cs0,V0,hc0,hP0,hS0,hl0,hv0⟩:=(h.lv 0 Oo).h;obtain ⟨P1,cp1,S1,cs1,V1,hc1,hP1,hS1,hl1,hv1⟩:=(h.lv 1 Oo).h;obtain ⟨P2,cp2,S2,cs2,V2,hc2,hP2,hS2,hl2,hv2⟩:=(h.lv 2 Oo).h;obtain ⟨P3,cp3,S3,cs3,V3,hc3,hP3,hS3,hl3,hv3⟩:=(h.lv 3 Oo).h;refine ze Tryz.func92 Tryz.ntmps92 ?_;refine znm (Mem.nil w) ?_;intro rb w1 hm;have hm:Mem w w1 [(rb,.cells zq 75)]:=hm;refine zu ?_;refine zcv (qoj b l w1 (h.ext hm.ext)) ?_;rintro r w2 ⟨rfl,rfl⟩;(conv=>whnf);refine zt ?_;refine zC (fun _=>zw ?_) (fun _=>zw ?_)
 ·refine StoreA.all hm (i:=0) rfl rfl Od fun w9 hm=>zw ?_;refine qi (R:=fun v w'=>v=qgp l i∧Ext w w') (zw ?_);refine zl hm 0 ?_;exact ⟨by rw [qgp,if_neg (fun hx=>by omega)];rfl,hm.ext⟩
 have hi3:i<vNum l 3:=by omega
 refine znm hm ?_;intro qb w3 hm;have hm:Mem w w3 [(qb,.cells (qL l i 0).toArray 75),(rb,.cells zq 75)]:=hm;(conv=>whnf);refine qw (fun j:Nat=>[(0,pp b),(1,ii (tI l i j)),(4,pp rb),(5,.bool false),(6,pp qb),(7,ii (kv j))])
  (fun j w'=>j≤4∧(∀ m,m<j→qe5 l i m=true)∧Mem w w' [(qb,.cells (qL l i j).toArray 75),(rb,.cells zq 75)]) (fun j=>4-j) 0 ⟨rfl,rfl,rfl,rfl,rfl,rfl,trivial⟩ ⟨by omega,fun m hm=>by omega,hm⟩ ?_
 clear hm;rintro j w4 ρ' ⟨j1,hf,hm⟩;obtain rfl|rfl|rfl|rfl|rfl:j=0∨j=1∨j=2∨j=3∨j=4:=by omega
 ·have hn3:=h.n 3 Oo;have hkv:kv 0=3:=rfl;obtain ⟨y,ey0⟩:∃ y,y=tI l i 0:=⟨_,rfl⟩
  rw [← ey0];have ey:y=tUp l i 0:=ey0;(conv=>whnf);refine zt ?_;refine zJ 3 ?_;(conv=>whnf);refine LoadV.cellsE (hc3.ext hm.ext) 0 (by rw [lvSz];first|done|rfl) rfl (zw ?_);refine zC (fun _=>zu ?_) (fun _=>zu ?_)
  ·refine StoreA.all hm (i:=1) rfl rfl Od fun w9 hm=>zw ?_;refine qi (R:=fun v w'=>v=qgp l i∧Ext w w') (zw ?_);refine zl hm 1 ?_;exact ⟨by rw [qer (fun hq=>by have hq2:=qes hq 0 Oo;have e:qe5 l i 0=(decide (y<vNum l 3)&&(decide (0=3)||tVec l 3)):=(by subst ey;rfl);rw [e,decide_eq_false (show ¬ y<vNum l 3 by omega)] at hq2;simp at hq2)];rfl,hm.ext⟩
  rcases hv3 with ⟨hx|hx,rfl⟩|⟨_,htv,vb,rfl,hvo⟩
  ·omega
  ·refine LoadV.cellsE (hc3.ext hm.ext) 7 (by rw [lvSz];first|done|rfl) rfl (zu ?_);refine StoreA.all hm (i:=1) rfl rfl Od fun w9 hm=>zw ?_;refine qi (R:=fun v w'=>v=qgp l i∧Ext w w') (zw ?_);refine zl hm 1 ?_;exact ⟨by rw [qer (fun hq=>by have hq2:=qes hq 0 Oo;have e:qe5 l i 0=(decide (y<vNum l 3)&&(decide (0=3)||tVec l 3)):=(by subst ey;rfl);rw [e,show tVec l 3=false from hx] at hq2;simp at hq2)];rfl,hm.ext⟩
  refine LoadV.cellsE (hc3.ext hm.ext) 7 (by rw [lvSz];first|done|rfl) rfl (zu ?_);refine zcv (qdg b _ y (tw l 3) cp3 P3 (qp l 3) _ (by rw [lvSz];exact (hc3.ext hm.ext) 1 _ rfl) (by rw [lvSz];exact (hc3.ext hm.ext) 5 _ rfl) (hP3.ext hm.ext) (h.wd 3 Oo) Oo) ?_;rintro r w10 ⟨rfl,he10⟩;have hm:=hm.call he10;(conv=>whnf);refine zJ 3 ?_;(conv=>whnf);refine StoreV.mem hm (i:=0) rfl (by show 0+3*tsz _ _<4;rw [show tsz Tryz.prog 3=1 from by kernel_rfl];decide) rfl ?_;intro w11 hm;rw [ey] at hm;have hm:Mem w w11 [(qb,.cells (qL l i (0+1)).toArray 75),(rb,.cells zq 75)]:=hm;refine zu ?_;have htv2:=htv;simp only [tVec,Bool.and_eq_true,decide_eq_true_eq] at htv2;obtain ⟨⟨hvok,hvn⟩,hvm⟩:=htv2;refine LoadV.cellsE (hc3.ext hm.ext) 7 (by rw [lvSz];first|done|rfl) rfl (zw ?_);refine zcv (qn4 (qg l 3) S3 cs3 vb y w11 (hS3.ext hm.ext) hl3 hvok (by rw [hvn,hvm];exact hm.ext.get hvo) Oo) ?_;rintro r w12 ⟨rfl,he12⟩;have hm:=hm.call he12;refine zu ?_;refine ⟨0+1,⟨rfl,congrArg (fun n:Nat=>ii (n:Int)) (show qjc (qg l 3) y=tI l i (0+1) by rw [ey];exact qaah l i 0 3 rfl),rfl,rfl,rfl,rfl,trivial⟩,⟨by omega,fun m hm'=>?_,hm⟩,by omega⟩
  by_cases e:m=0
  ·subst e;have e:qe5 l i 0=(decide (y<vNum l 3)&&(decide (0=3)||tVec l 3)):=(by subst ey;rfl);rw [e,decide_eq_true (show y<vNum l 3 by omega),htv];simp
  ·exact hf m Oo
 ·have hn2:=h.n 2 Oo;have hkv:kv 1=2:=rfl;obtain ⟨y,ey0⟩:∃ y,y=tI l i 1:=⟨_,rfl⟩
  rw [← ey0];have ey:y=tUp l i 1:=ey0;(conv=>whnf);refine zt ?_;refine zJ 2 ?_;(conv=>whnf);refine LoadV.cellsE (hc2.ext hm.ext) 0 (by rw [lvSz];first|done|rfl) rfl (zw ?_);refine zC (fun _=>zu ?_) (fun _=>zu ?_)
  ·refine StoreA.all hm (i:=1) rfl rfl Od fun w9 hm=>zw ?_;refine qi (R:=fun v w'=>v=qgp l i∧Ext w w') (zw ?_);refine zl hm 1 ?_;exact ⟨by rw [qer (fun hq=>by have hq2:=qes hq 1 Oo;have e:qe5 l i 1=(decide (y<vNum l 2)&&(decide (1=3)||tVec l 2)):=(by subst ey;rfl);rw [e,decide_eq_false (show ¬ y<vNum l 2 by omega)] at hq2;simp at hq2)];rfl,hm.ext⟩
  rcases hv2 with ⟨hx|hx,rfl⟩|⟨_,htv,vb,rfl,hvo⟩
  ·omega
  ·refine LoadV.cellsE (hc2.ext hm.ext) 7 (by rw [lvSz];first|done|rfl) rfl (zu ?_);refine StoreA.all hm (i:=1) rfl rfl Od fun w9 hm=>zw ?_;refine qi (R:=fun v w'=>v=qgp l i∧Ext w w') (zw ?_);refine zl hm 1 ?_;exact ⟨by rw [qer (fun hq=>by have hq2:=qes hq 1 Oo;have e:qe5 l i 1=(decide (y<vNum l 2)&&(decide (1=3)||tVec l 2)):=(by subst ey;rfl);rw [e,show tVec l 2=false from hx] at hq2;simp at hq2)];rfl,hm.ext⟩
  refine LoadV.cellsE (hc2.ext hm.ext) 7 (by rw [lvSz];first|done|rfl) rfl (zu ?_);refine zcv (qdg b _ y (tw l 2) cp2 P2 (qp l 2) _ (by rw [lvSz];exact (hc2.ext hm.ext) 1 _ rfl) (by rw [lvSz];exact (hc2.ext hm.ext) 5 _ rfl) (hP2.ext hm.ext) (h.wd 2 Oo) Oo) ?_;rintro r w10 ⟨rfl,he10⟩;have hm:=hm.call he10;(conv=>whnf);refine zJ 2 ?_;(conv=>whnf);refine StoreV.mem hm (i:=0) rfl (by show 0+2*tsz _ _<4;rw [show tsz Tryz.prog 3=1 from by kernel_rfl];decide) rfl ?_;intro w11 hm;rw [ey] at hm;have hm:Mem w w11 [(qb,.cells (qL l i (1+1)).toArray 75),(rb,.cells zq 75)]:=hm;refine zu ?_;have htv2:=htv;simp only [tVec,Bool.and_eq_true,decide_eq_true_eq] at htv2;obtain ⟨⟨hvok,hvn⟩,hvm⟩:=htv2;refine LoadV.cellsE (hc2.ext hm.ext) 7 (by rw [lvSz];first|done|rfl) rfl (zw ?_);refine zcv (qn4 (qg l 2) S2 cs2 vb y w11 (hS2.ext hm.ext) hl2 hvok (by rw [hvn,hvm];exact hm.ext.get hvo) Oo) ?_;rintro r w12 ⟨rfl,he12⟩;have hm:=hm.call he12;refine zu ?_;refine ⟨1+1,⟨rfl,congrArg (fun n:Nat=>ii (n:Int)) (show qjc (qg l 2) y=tI l i (1+1) by rw [ey];exact qaah l i 1 2 rfl),rfl,rfl,rfl,rfl,trivial⟩,⟨by omega,fun m hm'=>?_,hm⟩,by omega⟩
  by_cases e:m=1
  ·subst e;have e:qe5 l i 1=(decide (y<vNum l 2)&&(decide (1=3)||tVec l 2)):=(by subst ey;rfl);rw [e,decide_eq_true (show y<vNum l 2 by omega),htv];simp
  ·exact hf m Oo
 ·have hn1:=h.n 1 Oo;have hkv:kv 2=1:=rfl;obtain ⟨y,ey0⟩:∃ y,y=tI l i 2:=⟨_,rfl⟩
  rw [← ey0];have ey:y=tUp l i 2:=ey0;(conv=>whnf);refine zt ?_;refine zJ 1 ?_;(conv=>whnf);refine LoadV.cellsE (hc1.ext hm.ext) 0 (by rw [lvSz];first|done|rfl) rfl (zw ?_);refine zC (fun _=>zu ?_) (fun _=>zu ?_)
  ·refine StoreA.all hm (i:=1) rfl rfl Od fun w9 hm=>zw ?_;refine qi (R:=fun v w'=>v=qgp l i∧Ext w w') (zw ?_);refine zl hm 1 ?_;exact ⟨by rw [qer (fun hq=>by have hq2:=qes hq 2 Oo;have e:qe5 l i 2=(decide (y<vNum l 1)&&(decide (2=3)||tVec l 1)):=(by subst ey;rfl);rw [e,decide_eq_false (show ¬ y<vNum l 1 by omega)] at hq2;simp at hq2)];rfl,hm.ext⟩
  rcases hv1 with ⟨hx|hx,rfl⟩|⟨_,htv,vb,rfl,hvo⟩
  ·omega
  ·refine LoadV.cellsE (hc1.ext hm.ext) 7 (by rw [lvSz];first|done|rfl) rfl (zu ?_);refine StoreA.all hm (i:=1) rfl rfl Od fun w9 hm=>zw ?_;refine qi (R:=fun v w'=>v=qgp l i∧Ext w w') (zw ?_);refine zl hm 1 ?_;exact ⟨by rw [qer (fun hq=>by have hq2:=qes hq 2 Oo;have e:qe5 l i 2=(decide (y<vNum l 1)&&(decide (2=3)||tVec l 1)):=(by subst ey;rfl);rw [e,show tVec l 1=false from hx] at hq2;simp at hq2)];rfl,hm.ext⟩
  refine LoadV.cellsE (hc1.ext hm.ext) 7 (by rw [lvSz];first|done|rfl) rfl (zu ?_);refine zcv (qdg b _ y (tw l 1) cp1 P1 (qp l 1) _ (by rw [lvSz];exact (hc1.ext hm.ext) 1 _ rfl) (by rw [lvSz];exact (hc1.ext hm.ext) 5 _ rfl) (hP1.ext hm.ext) (h.wd 1 Oo) Oo) ?_;rintro r w10 ⟨rfl,he10⟩;have hm:=hm.call he10;(conv=>whnf);refine zJ 1 ?_;(conv=>whnf);refine StoreV.mem hm (i:=0) rfl (by show 0+1*tsz _ _<4;rw [show tsz Tryz.prog 3=1 from by kernel_rfl];decide) rfl ?_;intro w11 hm;rw [ey] at hm;have hm:Mem w w11 [(qb,.cells (qL l i (2+1)).toArray 75),(rb,.cells zq 75)]:=hm;refine zu ?_;have htv2:=htv;simp only [tVec,Bool.and_eq_true,decide_eq_true_eq] at htv2;obtain ⟨⟨hvok,hvn⟩,hvm⟩:=htv2;refine LoadV.cellsE (hc1.ext hm.ext) 7 (by rw [lvSz];first|done|rfl) rfl (zw ?_);refine zcv (qn4 (qg l 1) S1 cs1 vb y w11 (hS1.ext hm.ext) hl1 hvok (by rw [hvn,hvm];exact hm.ext.get hvo) Oo) ?_;rintro r w12 ⟨rfl,he12⟩;have hm:=hm.call he12;refine zu ?_;refine ⟨2+1,⟨rfl,congrArg (fun n:Nat=>ii (n:Int)) (show qjc (qg l 1) y=tI l i (2+1) by rw [ey];exact qaah l i 2 1 rfl),rfl,rfl,rfl,rfl,trivial⟩,⟨by omega,fun m hm'=>?_,hm⟩,by omega⟩
  by_cases e:m=2
  ·subst e;have e:qe5 l i 2=(decide (y<vNum l 1)&&(decide (2=3)||tVec l 1)):=(by subst ey;rfl);rw [e,decide_eq_true (show y<vNum l 1 by omega),htv];simp
  ·exact hf m Oo
 ·have hn0:=h.n 0 Oo;have hkv:kv 3=0:=rfl;obtain ⟨y,ey0⟩:∃ y,y=tI l i 3:=⟨_,rfl⟩
  rw [← ey0];have ey:y=tUp l i 3:=ey0;(conv=>whnf);refine zt ?_;refine zJ 0 ?_;(conv=>whnf);refine LoadV.cellsE (hc0.ext hm.ext) 0 (by rw [lvSz];first|done|rfl) rfl (zw ?_);refine zC (fun _=>zu ?_) (fun _=>zu ?_)
  ·refine StoreA.all hm (i:=1) rfl rfl Od fun w9 hm=>zw ?_;refine qi (R:=fun v w'=>v=qgp l i∧Ext w w') (zw ?_);refine zl hm 1 ?_;exact ⟨by rw [qer (fun hq=>by have hq2:=qes hq 3 Oo;have e:qe5 l i 3=(decide (y<vNum l 0)&&(decide (3=3)||tVec l 0)):=(by subst ey;rfl);rw [e,decide_eq_false (show ¬ y<vNum l 0 by omega)] at hq2;simp at hq2)];rfl,hm.ext⟩
  refine zcv (qdg b _ y (tw l 0) cp0 P0 (qp l 0) _ (by rw [lvSz];exact (hc0.ext hm.ext) 1 _ rfl) (by rw [lvSz];exact (hc0.ext hm.ext) 5 _ rfl) (hP0.ext hm.ext) (h.wd 0 Oo) Oo) ?_;rintro r w10 ⟨rfl,he10⟩;have hm:=hm.call he10;(conv=>whnf);refine zJ 0 ?_;(conv=>whnf);refine StoreV.mem hm (i:=0) rfl (by show 0+0*tsz _ _<4;rw [show tsz Tryz.prog 3=1 from by kernel_rfl];decide) rfl ?_;intro w11 hm;rw [ey] at hm;have hm:Mem w w11 [(qb,.cells (qL l i (3+1)).toArray 75),(rb,.cells zq 75)]:=hm;refine zu ?_;refine ⟨3+1,⟨rfl,congrArg (fun n:Nat=>ii (n:Int)) ey,rfl,rfl,rfl,rfl,trivial⟩,⟨by omega,fun m hm'=>?_,hm⟩,by omega⟩
  by_cases e:m=3
  ·subst e;have e:qe5 l i 3=(decide (y<vNum l 0)&&(decide (3=3)||tVec l 0)):=(by subst ey;rfl);rw [e,decide_eq_true (show y<vNum l 0 by omega)];simp
  ·exact hf m Oo
 ·have hkv:kv 4=-1:=rfl;refine zu ?_;refine zl hm 0 ?_;refine StoreA.all hm (i:=1) rfl rfl (by intro v hv;simp at hv;rcases hv with rfl|rfl|rfl|rfl<;>rfl) fun w9 hm=>zw ?_;refine qi (R:=fun v w'=>v=qgp l i∧Ext w w') (zw ?_);refine zl hm 1 ?_;have hok:tOk l i=true:=by rw [tOk,hf 0 Oo,hf 1 Oo,hf 2 Oo,hf 3 Oo];rfl
  have hg:qgp l i=.tuple #[.agg #[ii (tNum l i 0),ii (tNum l i 1),ii (tNum l i 2),ii (tNum l i 3)],.bool true]:=if_pos ⟨hi3,hok⟩;exact ⟨by rw [hg];rfl,hm.ext⟩
def OkR (E:Nat × Nat) (Ok:Nat→World→Prop) (v:Value) (w:World):Prop:=
 (E.2≠0∧∃ e,v=.tuple #[.pointer none,e]∧ErrAt w e E.1 E.2)∨(E.2=0∧∃ b,v=.tuple #[pp b,.nilIface]∧Ok b w)
theorem qrs (fb n cc place:Nat) (W:oA) (w:World) (h1:w.cell? ⟨fb,4,none⟩=some (.slice W n cc)) (h2:w.cell? ⟨fb,6,none⟩=some (ii place)) (hpl:place≤1152921504606846976) (hG:ErrTyp w) (f:FuncId) (E:Nat × Nat) (hE:E.1≤1152921504606846976) (Ok:Nat→World→Prop)
  (hOk:∀ b w w',Ok b w→Ext w w'→Ok b w') (hOx:∀ (b:Nat) (w w':World) (x:Nat) (fz:Nat × Nat),Ok b w→w.heap[x]?=some (.cells #[.nilIface] 37 fz)→(∀ c,c≠x→w'.heap[c]?=w.heap[c]?)→Ok b w')
  (hf:∀ w',Ext w w'→Gv Tryz.prog f [.slice W n cc] w' fun v w''=>OkR E Ok v w''∧Ext w' w'') :
  Gv Tryz.prog 97 [pp fb,.func (.func f) #[] #[]] w fun v w'=>OkR (if E.2=0 then E else (E.1+place,E.2)) Ok v w'∧Ext w w':=by
 refine gvW Jk Tryz.func97 rfl Tryz.ntmps97 rfl (zw ?_);refine znm (Mem.nil w) fun c5 w1 hm=>zw ?_;refine LoadV.of (v:=ii place) (hm.ext.cell h2) (zw ?_);refine LoadV.of (v:=.slice W n cc) (hm.ext.cell h1) (zw ?_);refine zcv (hf w1 hm.ext) ?_;rintro v w2 ⟨⟨h0,e,rfl,eb,rfl,hec⟩|⟨h0,b,rfl,hb⟩,he2⟩
 ·have hm:=hm.call he2;rw [if_neg h0];(conv=>whnf);refine StoreV.row hm (i:=0) rfl Js rfl ?_;intro w3 hfr _ hm3;have hne:eb≠c5:=by
   intro e1;have h1:=hec 0 _ rfl;rw [e1,qc (hm.get mh)] at h1;cases h1
  have hec:=CellsAt.other hec hne hfr;have hm3:Mem w w3 ((c5,.cells #[errV eb] 37)::[]):=hm3;(conv=>whnf);refine LeaveV.call ((qi2 c5 eb E.1 E.2 place hm3 hec (hG.ext hm3.ext) hE hpl).mono fun w4 ⟨e',hm4⟩=>?_);(conv=>whnf);refine qi (R:=fun v w'=>OkR (E.1+place,E.2) Ok v w'∧Ext w w') (zw ?_);refine zr hm4 1 ?_;exact ⟨.inl ⟨h0,errV e',rfl,e',rfl,CellsAt.mem hm4 mh⟩,hm4.ext⟩
 ·have hm:=hm.call he2;rw [if_pos h0];(conv=>whnf);refine StoreV.row hm (i:=0) rfl Js rfl ?_;intro w3 hfr _ hm3;have hb:=hOx b w2 w3 c5 (0,0) hb (hm.get mh) hfr;have hm3:Mem w w3 ((c5,.cells #[.nilIface] 37)::[]):=hm3;(conv=>whnf);refine LeaveV.call ((qi3 c5 place hm3).mono fun w4 he4=>?_);have hm4:=hm3.call he4;(conv=>whnf);refine qi (R:=fun v w'=>OkR E Ok v w'∧Ext w w') (zw ?_);refine zr hm4 0 ?_;exact ⟨.inr ⟨h0,b,rfl,hOk _ _ _ hb he4⟩,hm4.ext⟩
theorem qwe (fb n cc place:Nat) (W:oA) (w:World) (h1:w.cell? ⟨fb,5,none⟩=some (.slice W n cc)) (h2:w.cell? ⟨fb,7,none⟩=some (ii place)) (hpl:place≤1152921504606846976) (hG:ErrTyp w) (f:FuncId) (E:Nat × Nat) (hE:E.1≤1152921504606846976) (Ok:Nat→World→Prop)
  (hOk:∀ b w w',Ok b w→Ext w w'→Ok b w') (hOx:∀ (b:Nat) (w w':World) (x:Nat) (fz:Nat × Nat),Ok b w→w.heap[x]?=some (.cells #[.nilIface] 37 fz)→(∀ c,c≠x→w'.heap[c]?=w.heap[c]?)→Ok b w')
  (hf:∀ w',Ext w w'→Gv Tryz.prog f [.slice W n cc] w' fun v w''=>OkR E Ok v w''∧Ext w' w'') :
  Gv Tryz.prog 98 [pp fb,.func (.func f) #[] #[]] w fun v w'=>OkR (if E.2=0 then E else (E.1+place,E.2)) Ok v w'∧Ext w w':=by
 refine gvW Jk Tryz.func98 rfl Tryz.ntmps98 rfl (zw ?_);refine znm (Mem.nil w) fun c5 w1 hm=>zw ?_;refine LoadV.of (v:=ii place) (hm.ext.cell h2) (zw ?_);refine LoadV.of (v:=.slice W n cc) (hm.ext.cell h1) (zw ?_);refine zcv (hf w1 hm.ext) ?_;rintro v w2 ⟨⟨h0,e,rfl,eb,rfl,hec⟩|⟨h0,b,rfl,hb⟩,he2⟩
 ·have hm:=hm.call he2;rw [if_neg h0];(conv=>whnf);refine StoreV.row hm (i:=0) rfl Js rfl ?_;intro w3 hfr _ hm3;have hne:eb≠c5:=by
   intro e1;have h1:=hec 0 _ rfl;rw [e1,qc (hm.get mh)] at h1;cases h1
  have hec:=CellsAt.other hec hne hfr;have hm3:Mem w w3 ((c5,.cells #[errV eb] 37)::[]):=hm3;(conv=>whnf);refine LeaveV.call ((qi2 c5 eb E.1 E.2 place hm3 hec (hG.ext hm3.ext) hE hpl).mono fun w4 ⟨e',hm4⟩=>?_);(conv=>whnf);refine qi (R:=fun v w'=>OkR (E.1+place,E.2) Ok v w'∧Ext w w') (zw ?_);refine zr hm4 1 ?_;exact ⟨.inl ⟨h0,errV e',rfl,e',rfl,CellsAt.mem hm4 mh⟩,hm4.ext⟩
 ·have hm:=hm.call he2;rw [if_pos h0];(conv=>whnf);refine StoreV.row hm (i:=0) rfl Js rfl ?_;intro w3 hfr _ hm3;have hb:=hOx b w2 w3 c5 (0,0) hb (hm.get mh) hfr;have hm3:Mem w w3 ((c5,.cells #[.nilIface] 37)::[]):=hm3;(conv=>whnf);refine LeaveV.call ((qi3 c5 place hm3).mono fun w4 he4=>?_);have hm4:=hm3.call he4;(conv=>whnf);refine qi (R:=fun v w'=>OkR E Ok v w'∧Ext w w') (zw ?_);refine zr hm4 0 ?_;exact ⟨.inr ⟨h0,b,rfl,hOk _ _ _ hb he4⟩,hm4.ext⟩
def fpE (l:LB) (E1 E2:Nat × Nat):Nat × Nat:=if E1.2≠0 then (E1.1+28,E1.2) else if E2.2≠0 then (E2.1+(32+hN l 4),E2.2) else (0,0)
def PfR (l:LB) (E1 E2:Nat × Nat) (Ok1 Ok2:Nat→World→Prop) (v:Value) (w:World):Prop:=
 ((fpE l E1 E2).2≠0∧∃ e,v=.tuple #[.pointer none,e]∧ErrAt w e (fpE l E1 E2).1 (fpE l E1 E2).2)∨
 ((fpE l E1 E2).2=0∧∃ b vb tb,v=.tuple #[pp b,.nilIface]∧
  w.heap[b]?=some (.cells #[ii (hN l 2),ii (hN l 3),ii (hN l 4),ii (hN l 5),pp vb,pp tb] 98)∧Ok1 vb w∧Ok2 tb w)
theorem qwx (l:LB) (A B:oA) (w:World) (hG:ErrTyp w) (f1 f2:FuncId) (E1 E2:Nat × Nat) (hE1:E1.1≤1152921504606846976) (hE2:E2.1≤1152921504606846976) (Ok1 Ok2:Nat→World→Prop)
  (hOk1:∀ b w w',Ok1 b w→Ext w w'→Ok1 b w') (hOx1:∀ (b:Nat) (w w':World) (x:Nat) (fz:Nat × Nat),Ok1 b w→w.heap[x]?=some (.cells #[.nilIface] 37 fz)→(∀ c,c≠x→w'.heap[c]?=w.heap[c]?)→Ok1 b w')
  (hOk2:∀ b w w',Ok2 b w→Ext w w'→Ok2 b w') (hOx2:∀ (b:Nat) (w w':World) (x:Nat) (fz:Nat × Nat),Ok2 b w→w.heap[x]?=some (.cells #[.nilIface] 37 fz)→(∀ c,c≠x→w'.heap[c]?=w.heap[c]?)→Ok2 b w')
  (hf1:∀ w',Ext w w'→Gv Tryz.prog f1 [.slice A (hN l 4) (hN l 4)] w' fun v w''=>OkR E1 Ok1 v w''∧Ext w' w'')
  (hf2:∀ w',Ext w w'→Gv Tryz.prog f2 [.slice B (hN l 5) (hN l 5)] w' fun v w''=>OkR E2 Ok2 v w''∧Ext w' w'') :
  Gv Tryz.prog 49 [.agg (okF l A B).toArray,.func (.func f1) #[] #[],.func (.func f2) #[] #[]] w fun v w'=>PfR l E1 E2 Ok1 Ok2 v w'∧Ext w w':=by
 have h4:=qaby l 4;refine ze Tryz.func49 Tryz.ntmps49 ?_;refine znm (Mem.nil w) ?_;intro fb w1 hm;have hg:=hm.get mh;(conv=>whnf);refine zcv (qrs fb (hN l 4) (hN l 4) 28 A w1 (by rw [qc hg];rfl) (by rw [qc hg];rfl) Oo (hG.ext hm.ext) f1 E1 hE1 Ok1 hOk1 hOx1 (fun w' he=>hf1 w' (hm.ext.trans he))) ?_;rintro v w2 ⟨⟨h0,e,rfl,eb,rfl,hec⟩|⟨h0,vb,rfl,hv⟩,he2⟩
 ·have hz:E1.2≠0:=by
   intro h;rw [if_pos h] at h0;exact h0 h
  rw [if_neg hz] at hec h0;have hE:fpE l E1 E2=(E1.1+28,E1.2):=by rw [fpE,if_pos hz]
  refine zu ?_;exact ⟨.inl ⟨by rw [hE];exact hz,_,rfl,eb,rfl,by rw [hE];exact hec⟩,hm.ext.trans he2⟩
 ·have hz:E1.2=0:=by
   refine Decidable.byContradiction fun h=>?_;rw [if_neg h] at h0;exact h h0
  have hm:=hm.call he2;have hg:=hm.get mh;refine zu ?_;refine zcv (qwe fb (hN l 5) (hN l 5) (32+hN l 4) B w2 (by rw [qc hg];rfl) (by rw [qc hg];rfl) Oo (hG.ext hm.ext) f2 E2 hE2 Ok2 hOk2 hOx2 (fun w' he=>hf2 w' (hm.ext.trans he))) ?_;rintro v w3 ⟨⟨h0,e,rfl,eb,rfl,hec⟩|⟨h0,tb,rfl,ht⟩,he3⟩
  ·have hz2:E2.2≠0:=by
    intro h;rw [if_pos h] at h0;exact h0 h
   rw [if_neg hz2] at hec h0;have hE:fpE l E1 E2=(E2.1+(32+hN l 4),E2.2):=by rw [fpE,if_neg Oo,if_pos hz2]
   refine zu ?_;exact ⟨.inl ⟨by rw [hE];exact hz2,_,rfl,eb,rfl,by rw [hE];exact hec⟩,hm.ext.trans he3⟩
  ·have hz2:E2.2=0:=by
    refine Decidable.byContradiction fun h=>?_;rw [if_neg h] at h0;exact h h0
   have hE:(fpE l E1 E2).2=0:=by rw [fpE,if_neg Oo,if_neg Oo]
   have hm:=hm.call he3;have hv:=hOk1 _ _ _ hv he3;refine zu ?_;have hcs:CellsAt w3 fb 0 [ii (hN l 2:Nat),ii (hN l 3:Nat),ii (hN l 4:Nat),ii (hN l 5:Nat)]:=fun k v hv=>by
    have hk:k<4:=(List.getElem?_eq_some_iff.1 hv).1;refine CellsAt.mem hm mh k v ?_
    rcases (show k=0∨k=1∨k=2∨k=3 by omega) with rfl|rfl|rfl|rfl<;>exact hv
   refine LoadA.cells hcs rfl (zw ?_);refine ⟨fun b w4 hb hw=>?_⟩;have he4:Ext w3 w4:=by rw [hw];exact xr.alloc _
   have hm4:=hm.new hb hw;(conv=>whnf);exact ⟨.inr ⟨hE,b,vb,tb,rfl,hm4.get mh,hOk1 _ _ _ hv he4,hOk2 _ _ _ ht he4⟩,hm4.ext⟩
structure PackAt (w:World) (b:Nat) (l:LB):Prop where
 h:∃ vb tb,w.heap[b]?=some (.cells #[ii (hN l 2),ii (hN l 3),ii (hN l 4),ii (hN l 5),pp vb,pp tb] 98)∧VocAt w vb (qk l)∧TreeAt w tb (qe l)
theorem PackAt.ext {w w':World} {b:Nat} {l:LB} (h:PackAt w b l) (he:Ext w w'):PackAt w' b l:=by
 obtain ⟨vb,tb,h1,h2,h3⟩:=h;exact ⟨vb,tb,he.get h1,h2.ext he,h3.ext he⟩
theorem qne {l:LB} (h:(qat l).2=0):l.length=hN l 4+hN l 5+36∧l.length≤67108864:=by
 unfold qat at h
 split at h
 ·cases h
 split at h
 ·cases h
 split at h
 ·cases h
 split at h
 ·cases h
 split at h
 ·cases h
 split at h
 ·cases h
 split at h
 ·cases h
 omega
theorem qwt {l:LB} (h:(qat l).2=0):(qk l).length=hN l 4:=by
 have:=qne h;rw [qk,List.length_take,zld];omega
theorem q01 {l:LB} (h:(qat l).2=0):(qe l).length=hN l 5:=by
 have:=qne h;rw [qe,List.length_take,zld];omega
theorem qeh {f:Nat→Nat × Nat} {B:Nat}:∀ n,(∀ k,k<n→(f k).1≤B)→(errF f n).1≤B
 | 0,_=>Nat.zero_le _
 | n+1,h=>by
  rw [errF]
  split
  ·exact qeh n fun k hk=>h k Oo
  ·exact h n Oo
theorem qadp (l:LB):(sE l).1≤l.length+201326592:=by
 unfold sE
 split
 ·exact Nat.le_trans (qeh 3 fun k _=>qim l k _) (Nat.le_add_right _ _)
 ·rename_i h0
  have hn:∀ k,k<3→vNum l k≤67108864:=fun k hk=>qfg (qau (f:=vsF l) (n:=3) Oo k hk)
  have e0:ql l 0=vAt l 3:=rfl;have e1:ql l 1=ql l 0+vNum l 0:=rfl;have e2:ql l 2=ql l 1+vNum l 1:=rfl;have e3:ql l 3=ql l 2+vNum l 2:=rfl;have h1:=hn 0 Oo;have h2:=hn 1 Oo;have h3:=hn 2 Oo;have h4:=qgb l 3
  split
  ·show l.length≤_;omega
  ·split
   ·show ql l 3≤_;omega
   ·exact Nat.zero_le _
theorem qadr (l:LB):(tE l).1≤l.length:=by
 have h1:∀ k,(tcF l k).1≤l.length:=fun k=>by
  have:=qim l k 1048576;have:=qgb l k;unfold tcF
  split
  ·assumption
  ·split
   ·assumption
   ·exact Nat.zero_le _
 have h2:∀ k,(tvF l k).1≤l.length:=fun k=>by
  unfold tvF
  split
  ·exact Nat.le_refl _
  ·split
   ·show tvAt l k≤_;omega
   ·split
    ·exact Nat.le_refl _
    ·exact Nat.zero_le _
 unfold tE
 split
 ·exact qeh 4 fun k _=>h1 k
 ·split
  ·exact qeh 4 fun k _=>h2 k
  ·split
   ·show tvAt l 4≤_;omega
   ·exact Nat.zero_le _
def pS1 (l:LB):Prop:=(crcL (qk l)).toNat=leN ((l.drop (28+hN l 4)).take 4)
def pS2 (l:LB):Prop:=(crcL (qe l)).toNat=leN ((l.drop (32+hN l 4+hN l 5)).take 4)
def q1c (l:LB) (i:Nat):Prop:=(∀ j,j<4→qcg (qk l) (tNum (qe l) i j)≠none)∧qct (q4Of (qk l) (tNum (qe l) i))=0
def qr7 (l:LB):Prop:=∀ i,i<vNum (qe l) 3→q1c l i
def qr8 (l:LB):Prop:=∀ id,1≤id→id≤vTot (qk l) 3→∃ i,i<vNum (qe l) 3∧∃ j,j<4∧tNum (qe l) i j=id
open Classical in
noncomputable def poE (l:LB):Nat × Nat:=
 if (qat l).2≠0 then qat l else if ¬ pS1 l then (28+hN l 4,30) else if ¬ pS2 l then (32+hN l 4+hN l 5,30)
 else if (vwE (qk l)).2≠0 then (28+(vwE (qk l)).1,(vwE (qk l)).2) else if (toE (qe l)).2≠0 then (32+hN l 4+(toE (qe l)).1,(toE (qe l)).2)
 else if vNum (qe l) 3≠hN l 2 then (8,180) else if vTot (qk l) 3≠hN l 3 then (12,170)
 else if ¬ qr7 l then (32+hN l 4,180) else if ¬ qr8 l then (28,170) else (0,0)
section
variable {l:LB}
theorem qu6 (h:(qat l).2≠0):poE l=qat l:=by rw [poE,if_pos h]
theorem q7b (h:(qat l).2=0) (h1:¬ pS1 l):poE l=(28+hN l 4,30):=by rw [poE,if_neg Oo,if_pos h1]
theorem q7c (h:(qat l).2=0) (h1:pS1 l) (h2:¬ pS2 l):poE l=(32+hN l 4+hN l 5,30):=by rw [poE,if_neg Oo,if_neg (fun g=>g h1),if_pos h2]
theorem qacv (h:(qat l).2=0) (h1:pS1 l) (h2:pS2 l) (h3:(vwE (qk l)).2≠0):poE l=(28+(vwE (qk l)).1,(vwE (qk l)).2):=by
 rw [poE,if_neg Oo,if_neg (fun g=>g h1),if_neg (fun g=>g h2),if_pos h3]
theorem qacu (h:(qat l).2=0) (h1:pS1 l) (h2:pS2 l) (h3:(vwE (qk l)).2=0) (h4:(toE (qe l)).2≠0):poE l=(32+hN l 4+(toE (qe l)).1,(toE (qe l)).2):=by
 rw [poE,if_neg Oo,if_neg (fun g=>g h1),if_neg (fun g=>g h2),if_neg Oo,if_pos h4]
theorem qact (h:(qat l).2=0) (h1:pS1 l) (h2:pS2 l) (h3:(vwE (qk l)).2=0) (h4:(toE (qe l)).2=0) (h5:vNum (qe l) 3≠hN l 2):poE l=(8,180):=by
 rw [poE,if_neg Oo,if_neg (fun g=>g h1),if_neg (fun g=>g h2),if_neg Oo,if_neg Oo,if_pos h5]
theorem qacs (h:(qat l).2=0) (h1:pS1 l) (h2:pS2 l) (h3:(vwE (qk l)).2=0) (h4:(toE (qe l)).2=0) (h5:vNum (qe l) 3=hN l 2) (h6:vTot (qk l) 3≠hN l 3):poE l=(12,170):=by
 rw [poE,if_neg Oo,if_neg (fun g=>g h1),if_neg (fun g=>g h2),if_neg Oo,if_neg Oo,if_neg Oo,if_pos h6]
theorem q08 (h:(qat l).2=0) (h1:pS1 l) (h2:pS2 l) (h3:(vwE (qk l)).2=0) (h4:(toE (qe l)).2=0) (h5:vNum (qe l) 3=hN l 2) (h6:vTot (qk l) 3=hN l 3) (h7:¬ qr7 l):poE l=(32+hN l 4,180):=by
 rw [poE,if_neg Oo,if_neg (fun g=>g h1),if_neg (fun g=>g h2),if_neg Oo,if_neg Oo,if_neg Oo,if_neg Oo,if_pos h7]
theorem qme (h:(qat l).2=0) (h1:pS1 l) (h2:pS2 l) (h3:(vwE (qk l)).2=0) (h4:(toE (qe l)).2=0) (h5:vNum (qe l) 3=hN l 2) (h6:vTot (qk l) 3=hN l 3) (h7:qr7 l) (h8:¬ qr8 l):poE l=(28,170):=by
 rw [poE,if_neg Oo,if_neg (fun g=>g h1),if_neg (fun g=>g h2),if_neg Oo,if_neg Oo,if_neg Oo,if_neg Oo,if_neg (fun g=>g h7),if_pos h8]
theorem q7a (h:(qat l).2=0) (h1:pS1 l) (h2:pS2 l) (h3:(vwE (qk l)).2=0) (h4:(toE (qe l)).2=0) (h5:vNum (qe l) 3=hN l 2) (h6:vTot (qk l) 3=hN l 3) (h7:qr7 l) (h8:qr8 l):poE l=(0,0):=by
 rw [poE,if_neg Oo,if_neg (fun g=>g h1),if_neg (fun g=>g h2),if_neg Oo,if_neg Oo,if_neg Oo,if_neg Oo,if_neg (fun g=>g h7),if_neg (fun g=>g h8)]
theorem qcl (h:(poE l).2=0):(qat l).2=0∧pS1 l∧pS2 l∧(vwE (qk l)).2=0∧(toE (qe l)).2=0∧vNum (qe l) 3=hN l 2∧vTot (qk l) 3=hN l 3∧qr7 l∧qr8 l:=by
 by_cases h0:(qat l).2=0
 case neg=>rw [qu6 h0] at h;exact absurd h h0
 by_cases h1:pS1 l
 case neg=>rw [q7b h0 h1] at h;exact absurd (show (30:Nat)=0 from h) Od
 by_cases h2:pS2 l
 case neg=>rw [q7c h0 h1 h2] at h;exact absurd (show (30:Nat)=0 from h) Od
 by_cases h3:(vwE (qk l)).2=0
 case neg=>rw [qacv h0 h1 h2 h3] at h;dsimp only at h;exact absurd h h3
 by_cases h4:(toE (qe l)).2=0
 case neg=>rw [qacu h0 h1 h2 h3 h4] at h;dsimp only at h;exact absurd h h4
 by_cases h5:vNum (qe l) 3=hN l 2
 case neg=>rw [qact h0 h1 h2 h3 h4 h5] at h;exact absurd (show (180:Nat)=0 from h) Od
 by_cases h6:vTot (qk l) 3=hN l 3
 case neg=>rw [qacs h0 h1 h2 h3 h4 h5 h6] at h;exact absurd (show (170:Nat)=0 from h) Od
 by_cases h7:qr7 l
 case neg=>rw [q08 h0 h1 h2 h3 h4 h5 h6 h7] at h;exact absurd (show (180:Nat)=0 from h) Od
 by_cases h8:qr8 l
 case neg=>rw [qme h0 h1 h2 h3 h4 h5 h6 h7 h8] at h;exact absurd (show (170:Nat)=0 from h) Od
 exact ⟨h0,h1,h2,h3,h4,h5,h6,h7,h8⟩
end
structure VTm (l:LB) (k j:Nat) (ts:List TM):Prop where
 len:ts.length=vTot l k+j
 ok:∀ t∈ts,TermOk t
 at_:∀ k' j',(k'<k∧j'<dN (sDict l k'))∨(k'=k∧j'<j)→∃ s t,dGet (sDict l k') j'=some s∧s.length≤262144∧ReadsAs ((k'+1:Nat):Int) s t∧ts[vTot l k'+j']?=some t
theorem q5q:Tryz.prog.underlying 87=some (.slice 66):=Tryz.underlying87
theorem trmI:Tryz.prog.info? 66=some ((Tryz.prog.info? 66).get Jk):=(Option.some_get _).symm
theorem trmZ:((Tryz.prog.info? 66).get Jk).zero=some ((((Tryz.prog.info? 66).get Jk).zero).get Jk):=(Option.some_get _).symm
def txtC (a b:ByteArray):Int:=if slt a b=true then -1 else if seq a b=true then 0 else 1
def cmpT (a b:TM):Int:=
 if a.kind≠b.kind then (if a.kind<b.kind then -1 else 1) else if txtC a.text b.text≠0 then txtC a.text b.text else if txtC a.type b.type≠0 then txtC a.type b.type else txtC a.lang b.lang
theorem qc6 {α:Type} (enc:α→List Value) (size:Nat) (henc:∀ x,(enc x).length=size):∀ (l:List α) (j:Nat) (x:α) (k:Nat),l[j]?=some x→k<size→((l.map enc).flatten)[j*size+k]?=(enc x)[k]?
 | [],j,x,k,h,_=>by simp at h
 | y::l,0,x,k,h,hk=>by
  simp only [List.getElem?_cons_zero,Option.some.injEq] at h;subst h;simp only [List.map_cons,List.flatten_cons,Nat.zero_mul,Nat.zero_add];rw [List.getElem?_append_left (by rw [henc];exact hk)]
 | y::l,j+1,x,k,h,hk=>by
  simp only [List.getElem?_cons_succ] at h;simp only [List.map_cons,List.flatten_cons];rw [List.getElem?_append_right (by rw [henc,Nat.succ_mul];omega),henc,show (j+1)*size+k-size=j*size+k by rw [Nat.succ_mul];omega];exact qc6 enc size henc l j x k h hk
theorem q9m {α:Type} {enc:α→List Value} {size n c base:Nat} {e:TypeId} {A:oA} {w:World} {l:List α} (henc:∀ x,(enc x).length=size) (h:w.ownsRow base e size (.slice A n c) n (l.map enc).flatten) (hn:l.length=n) :
  SlAt enc size w A l∧n≤c:=by
 obtain ⟨h1,⟨h2,h3⟩|⟨g,cap,cur,h2,_,h3,h4,_,h5,h6⟩⟩:=h
 ·subst h3;refine ⟨⟨fun hne=>absurd (List.eq_nil_of_length_eq_zero hn) hne⟩,Nat.zero_le _⟩
 ·cases h2;refine ⟨⟨fun _=>⟨g,0,rfl,fun j x hx k v hv=>?_⟩⟩,h4⟩;have hk:k<size:=by
   have:=(List.getElem?_eq_some_iff.1 hv).1
   rwa [henc] at this
  have hj:j<n:=by rw [← hn];exact (List.getElem?_eq_some_iff.1 hx).1
  have hjk:j*size+k<n*size:=by
   have:(j+1)*size≤n*size:=Nat.mul_le_mul_right _ hj;rw [Nat.succ_mul] at this;omega
  rw [qc h3,Nat.zero_add,← hv,← qc6 enc size henc l j x k hx hk,← h6,List.getElem?_take,if_pos hjk];simp
theorem qa1 (t:TM):(encT t).length=4:=rfl
def qdl (out:List TM) (x:TM):List TM:=
 match out.getLast? with
 | some z=>bif qa3 z x then out else out++[x]
 | none=>out++[x]
def mrgN:Nat→List TM→List TM→List TM→List TM
 | 0,_,_,out=>out
 | f+1,a,b,out=>
  match a,b with
  | [],[]=>out
  | x::a,[]=>mrgN f a [] (qdl out x)
  | [],y::b=>mrgN f [] b (qdl out y)
  | x::a,y::b=>if cmpT x y≤0 then mrgN f a (y::b) (qdl out x) else mrgN f (x::a) b (qdl out y)
def tmsN:Nat→List TM→List TM
 | 0,l=>l
 | f+1,l=>if l.length<2 then l else mrgN ((tmsN f (l.take (l.length/2))).length+(tmsN f (l.drop (l.length/2))).length) (tmsN f (l.take (l.length/2))) (tmsN f (l.drop (l.length/2))) []
theorem qju (out:List TM) (x:TM):(qdl out x).length≤out.length+1:=by
 unfold qdl
 split
 ·cases qa3 _ x<;>simp
 ·simp
theorem qkl:∀ (f:Nat) (a b out:List TM),(mrgN f a b out).length≤a.length+b.length+out.length
 | 0,a,b,out=>by rw [mrgN];omega
 | f+1,a,b,out=>by
  unfold mrgN
  split
  ·omega
  ·rename_i x a
   have:=qkl f a [] (qdl out x);have:=qju out x;simp only [List.length_cons] at *;omega
  ·rename_i y b
   have:=qkl f [] b (qdl out y);have:=qju out y;simp only [List.length_cons] at *;omega
  ·rename_i x a y b
   split
   ·have:=qkl f a (y::b) (qdl out x);have:=qju out x;simp only [List.length_cons] at *;omega
   ·have:=qkl f (x::a) b (qdl out y);have:=qju out y;simp only [List.length_cons] at *;omega
theorem qsy:∀ (f:Nat) (l:List TM),(tmsN f l).length≤l.length
 | 0,l=>Nat.le_refl _
 | f+1,l=>by
  rw [tmsN]
  split
  ·exact Nat.le_refl _
  ·have h1:=qsy f (l.take (l.length/2));have h2:=qsy f (l.drop (l.length/2));refine Nat.le_trans (qkl _ _ _ _) ?_;rw [List.length_take] at h1;rw [zld] at h2;simp only [List.length_nil];omega
theorem qby {α:Type} (enc:α→List Value) (size:Nat) (henc:∀ x,(enc x).length=size) (l:List α):((l.map enc).flatten).length=l.length*size:=by
 induction l with
 | nil=>simp
 | cons x l ih=>simp only [List.map_cons,List.flatten_cons,zla,henc,ih,List.length_cons,Nat.succ_mul];omega
theorem qgt {α:Type} {enc:α→List Value} {size:Nat} (hsz:0<size) (henc:∀ x,(enc x).length=size) {w:World} {b off:Nat} {l:List α} (h:∀ (j:Nat) x,l[j]?=some x→CellsAt w b (off+j*size) (enc x)):CellsAt w b off (l.map enc).flatten:=by
 intro k v hv;have hk:=(List.getElem?_eq_some_iff.1 hv).1;rw [qby enc size henc] at hk;have hj:k/size<l.length:=(Nat.div_lt_iff_lt_mul hsz).2 hk;have hx:=zge hj;have hm:=Nat.mod_lt k hsz;have he:=qc6 enc size henc l (k/size) _ (k%size) hx hm;rw [show k/size*size+k%size=k from by rw [Nat.mul_comm];exact Nat.div_add_mod k size] at he;rw [he] at hv;have:=h (k/size) _ hx (k%size) v hv
 rwa [show off+k/size*size+k%size=off+k from by rw [Nat.add_assoc,show k/size*size+k%size=k from by rw [Nat.mul_comm];exact Nat.div_add_mod k size]] at this
def trQ (q:Q4):List TM:=[q.s,q.p,q.o]++if q.g.kind=0 then [] else [q.g]
def trms (qs:List Q4):List TM:=(qs.map trQ).flatten
theorem qac7 (q:Q4):(trQ q).length≤4:=by unfold trQ;split<;>simp
theorem qs0 (qs:List Q4):(trms qs).length≤4*qs.length:=by
 induction qs with
 | nil=>exact Nat.le_refl _
 | cons q qs ih=>
  have:=qac7 q;simp only [trms,List.map_cons,List.flatten_cons,zla,List.length_cons] at ih ⊢;omega
theorem qq2 (qs:List Q4) (i:Nat) (q:Q4) (h:qs[i]?=some q):trms (qs.take (i+1))=trms (qs.take i)++trQ q:=by
 rw [List.take_add_one,h];simp [trms]
theorem qza (q:Q4):∀ v∈encT q.s++encT q.p++encT q.o,v.oneCell'=true:=by
 intro v hv
 rcases List.mem_append.1 hv with hv|hv
 ·rcases List.mem_append.1 hv with hv|hv
  ·exact qbe _ v hv
  ·exact qbe _ v hv
 ·exact qbe _ v hv
def sT (ts:List TM) (j:Nat):TM:=if j=0 then zTM else ts.getD (j-1) zTM
def sA (ts:List TM) (q:Nat→Nat) (k j:Nat):TM:=if j<k then sT ts (q j) else zTM
theorem qqe (q:Q4):(qah q).length=16:=rfl
theorem qhf (q:Q4):∀ v∈qah q,v.oneCell'=true:=by
 intro v hv;unfold qah at hv
 rcases List.mem_append.1 hv with hv|hv
 ·exact qbe _ v hv
 ·rcases List.mem_append.1 hv with hv|hv
  ·exact qbe _ v hv
  ·rcases List.mem_append.1 hv with hv|hv
   ·exact qbe _ v hv
   ·exact qbe _ v hv
namespace V
end V
theorem qdSl:Tryz.prog.underlying 22=some (.slice 68):=Tryz.underlying22
theorem qdI:Tryz.prog.info? 68=some ((Tryz.prog.info? 68).get Jk):=(Option.some_get _).symm
theorem qdZ:((Tryz.prog.info? 68).get Jk).zero=some ((((Tryz.prog.info? 68).get Jk).zero).get Jk):=(Option.some_get _).symm
def LtT (a b:TM):Prop:=a.kind<b.kind∨(a.kind=b.kind∧(slt a.text b.text=true∨(a.text=b.text∧(slt a.type b.type=true∨(a.type=b.type∧slt a.lang b.lang=true)))))
theorem qs4 {a b:ByteArray}:txtC a b<0↔slt a b=true:=by
 unfold txtC
 split
 ·simp [*]
 ·split<;>simp [*]
theorem qet {a b:ByteArray}:txtC a b=0↔a=b:=by
 unfold txtC
 split
 ·rename_i h
  constructor
  ·intro h2;exact absurd h2 Od
  ·rintro rfl;rw [qd6] at h;cases h
 ·split
  ·rename_i h;simp [qae.1 h]
  ·rename_i h
   constructor
   ·intro h2;exact absurd h2 Od
   ·rintro rfl;exact absurd (qae.2 rfl) h
theorem qb1 {a b:TM}:cmpT a b<0↔LtT a b:=by
 unfold cmpT LtT
 split
 ·rename_i h
  split
  ·rename_i h2;exact ⟨fun _=>.inl h2,fun _=>by decide⟩
  ·rename_i h2
   exact ⟨fun h3=>absurd h3 Od,fun h3=>by
    rcases h3 with h3|⟨h3,_⟩
    ·exact absurd h3 h2
    ·exact absurd h3 h⟩
 ·rename_i h
  have h:a.kind=b.kind:=Classical.byContradiction h
  split
  ·rename_i h1
   rw [qs4]
   constructor
   ·intro h2;exact .inr ⟨h,.inl h2⟩
   ·rintro (h2|⟨_,h2|⟨h2,_⟩⟩)
    ·omega
    ·exact h2
    ·exact absurd (qet.2 h2) h1
  ·rename_i h1
   have h1:a.text=b.text:=qet.1 (Classical.byContradiction h1)
   split
   ·rename_i h2
    rw [qs4]
    constructor
    ·intro h3;exact .inr ⟨h,.inr ⟨h1,.inl h3⟩⟩
    ·rintro (h3|⟨_,h3|⟨_,h3|⟨h3,_⟩⟩⟩)
     ·omega
     ·rw [h1,qd6] at h3;cases h3
     ·exact h3
     ·exact absurd (qet.2 h3) h2
   ·rename_i h2
    have h2:a.type=b.type:=qet.1 (Classical.byContradiction h2);rw [qs4]
    constructor
    ·intro h3;exact .inr ⟨h,.inr ⟨h1,.inr ⟨h2,h3⟩⟩⟩
    ·rintro (h3|⟨_,h3|⟨_,h3|⟨_,h3⟩⟩⟩)
     ·omega
     ·rw [h1,qd6] at h3;cases h3
     ·rw [h2,qd6] at h3;cases h3
     ·exact h3
theorem qbr {a b:TM}:cmpT a b=0↔a=b:=by
 obtain ⟨ak,at_,ay,al⟩:=a;obtain ⟨bk,bt,by_,bl⟩:=b;unfold cmpT;simp only [TM.mk.injEq]
 split
 ·rename_i h
  constructor
  ·intro h2
   split at h2<;>exact absurd h2 Od
  ·rintro ⟨h2,_⟩;exact absurd h2 h
 ·rename_i h
  have h:ak=bk:=Classical.byContradiction h
  split
  ·rename_i h1
   exact ⟨fun h2=>absurd h2 h1,fun h2=>absurd (qet.2 h2.2.1) h1⟩
  ·rename_i h1
   have h1:at_=bt:=qet.1 (Classical.byContradiction h1)
   split
   ·rename_i h2
    exact ⟨fun h3=>absurd h3 h2,fun h3=>absurd (qet.2 h3.2.2.1) h2⟩
   ·rename_i h2
    have h2:ay=by_:=qet.1 (Classical.byContradiction h2);rw [qet];exact ⟨fun h3=>⟨h,h1,h2,h3⟩,fun h3=>h3.2.2.2⟩
theorem LtT.irrefl (a:TM):¬ LtT a a:=fun h=>by
 have h1:=qb1.2 h;have h2:cmpT a a=0:=qbr.2 rfl;omega
theorem LtT.ne {a b:TM} (h:LtT a b):a≠b:=by
 rintro rfl;exact LtT.irrefl _ h
theorem LtT.trans {a b c:TM} (h:LtT a b) (g:LtT b c):LtT a c:=by
 unfold LtT at *
 rcases h with h|⟨h,h1⟩
 ·rcases g with g|⟨g,_⟩
  ·exact .inl Oo
  ·exact .inl Oo
 ·rcases g with g|⟨g,g1⟩
  ·exact .inl Oo
  ·refine .inr ⟨h.trans g,?_⟩
   rcases h1 with h1|⟨h1,h2⟩
   ·rcases g1 with g1|⟨g1,_⟩
    ·exact .inl (qfl h1 g1)
    ·exact .inl (by rw [← g1];exact h1)
   ·rcases g1 with g1|⟨g1,g2⟩
    ·exact .inl (by rw [h1];exact g1)
    ·refine .inr ⟨h1.trans g1,?_⟩
     rcases h2 with h2|⟨h2,h3⟩
     ·rcases g2 with g2|⟨g2,_⟩
      ·exact .inl (qfl h2 g2)
      ·exact .inl (by rw [← g2];exact h2)
     ·rcases g2 with g2|⟨g2,g3⟩
      ·exact .inl (by rw [h2];exact g2)
      ·exact .inr ⟨h2.trans g2,qfl h3 g3⟩
theorem LtT.tri (a b:TM):LtT a b∨a=b∨LtT b a:=by
 unfold LtT
 rcases Int.lt_trichotomy a.kind b.kind with h|h|h
 ·exact .inl (.inl h)
 ·rcases qk7 a.text b.text with h1|h1|h1
  ·exact .inl (.inr ⟨h,.inl h1⟩)
  ·rcases qk7 a.type b.type with h2|h2|h2
   ·exact .inl (.inr ⟨h,.inr ⟨h1,.inl h2⟩⟩)
   ·rcases qk7 a.lang b.lang with h3|h3|h3
    ·exact .inl (.inr ⟨h,.inr ⟨h1,.inr ⟨h2,h3⟩⟩⟩)
    ·refine .inr (.inl ?_);cases a;cases b;simp_all
    ·exact .inr (.inr (.inr ⟨h.symm,.inr ⟨h1.symm,.inr ⟨h2.symm,h3⟩⟩⟩))
   ·exact .inr (.inr (.inr ⟨h.symm,.inr ⟨h1.symm,.inl h2⟩⟩))
  ·exact .inr (.inr (.inr ⟨h.symm,.inl h1⟩))
 ·exact .inr (.inr (.inl h))
def RiseT (l:List TM):Prop:=l.Pairwise LtT
def AheadT (out l:List TM):Prop:=∀ z,out.getLast?=some z→∀ x∈l,z=x∨LtT z x
theorem RiseT.lt_last {out:List TM} (h:RiseT out) {z:TM} (hz:out.getLast?=some z):∀ x∈out,x=z∨LtT x z:=by
 obtain ⟨ys,rfl⟩:=List.getLast?_eq_some_iff.1 hz;intro x hx
 rcases List.mem_append.1 hx with hx|hx
 ·exact .inr ((List.pairwise_append.1 h).2.2 x hx z (List.mem_singleton.2 rfl))
 ·exact .inl (List.mem_singleton.1 hx)
theorem qfz {out:List TM} {x:TM} (h:RiseT out) (ha:AheadT out [x]):RiseT (qdl out x)∧(∀ y,y∈qdl out x↔y∈out∨y=x)∧(qdl out x).getLast?=some x:=by
 unfold qdl
 split
 ·rename_i z hz
  rcases ha z hz x (List.mem_singleton.2 rfl) with rfl|hlt
  ·rw [qb5.2 rfl];have hm:z∈out:=List.mem_of_getLast? hz;exact ⟨h,fun y=>⟨.inl,fun g=>by rcases g with g|rfl<;>assumption⟩,hz⟩
  ·have:qa3 z x=false:=Bool.eq_false_iff.2 fun e=>hlt.ne (qb5.1 e)
   rw [this];refine ⟨?_,fun y=>by simp,by simp⟩;refine List.pairwise_append.2 ⟨h,List.pairwise_singleton _ _,fun a hA b hB=>?_⟩;rw [List.mem_singleton.1 hB]
   rcases h.lt_last hz a hA with rfl|g
   ·exact hlt
   ·exact g.trans hlt
 ·rename_i hz
  have:out=[]:=List.getLast?_eq_none_iff.1 hz;subst this;exact ⟨List.pairwise_singleton _ _,fun y=>by simp,rfl⟩
theorem AheadT.next {out a:List TM} {x:TM} (hr:RiseT (x::a)) (hl:(qdl out x).getLast?=some x):AheadT (qdl out x) a:=fun z hz y hy=>by
 rw [hl] at hz;cases hz;exact .inr ((List.pairwise_cons.1 hr).1 y hy)
theorem qfe:∀ (f:Nat) (a b out:List TM),a.length+b.length≤f→RiseT a→RiseT b→RiseT out→AheadT out a→AheadT out b→RiseT (mrgN f a b out)∧∀ y,y∈mrgN f a b out↔y∈out∨y∈a∨y∈b
 | 0,a,b,out,hf,_,_,ho,_,_=>by
  have ea:a=[]:=List.eq_nil_of_length_eq_zero Oo;have eb:b=[]:=List.eq_nil_of_length_eq_zero Oo;subst ea eb;exact ⟨ho,fun y=>by simp [mrgN]⟩
 | f+1,[],[],out,_,_,_,ho,_,_=>⟨ho,fun y=>by simp [mrgN]⟩
 | f+1,x::a,[],out,hf,ha,hb,ho,h1,h2=>by
  obtain ⟨p1,p2,p3⟩:=qfz ho (x:=x) fun z hz y hy=>h1 z hz y (by rw [List.mem_singleton.1 hy];exact List.mem_cons_self ..);obtain ⟨r1,r2⟩:=qfe f a [] (qdl out x) (by simpa using hf) (List.pairwise_cons.1 ha).2 hb p1 (.next ha p3) (fun z _ y hy=>by cases hy);refine ⟨r1,fun y=>?_⟩;rw [mrgN,r2,p2];simp [or_assoc]
 | f+1,[],x::b,out,hf,ha,hb,ho,h1,h2=>by
  obtain ⟨p1,p2,p3⟩:=qfz ho (x:=x) fun z hz y hy=>h2 z hz y (by rw [List.mem_singleton.1 hy];exact List.mem_cons_self ..);obtain ⟨r1,r2⟩:=qfe f [] b (qdl out x) (by simpa using hf) ha (List.pairwise_cons.1 hb).2 p1 (fun z _ y hy=>by cases hy) (.next hb p3);refine ⟨r1,fun y=>?_⟩;rw [mrgN,r2,p2];simp [or_assoc]
 | f+1,x::a,u::b,out,hf,ha,hb,ho,h1,h2=>by
  have hx:AheadT out [x]:=fun z hz y hy=>h1 z hz y (by rw [List.mem_singleton.1 hy];exact List.mem_cons_self ..)
  have hu:AheadT out [u]:=fun z hz y hy=>h2 z hz y (by rw [List.mem_singleton.1 hy];exact List.mem_cons_self ..)
  rw [mrgN]
  split
  ·rename_i hle
   obtain ⟨p1,p2,p3⟩:=qfz ho hx;have hxu:x=u∨LtT x u:=by
    rcases Int.lt_or_eq_of_le hle with h|h
    ·exact .inr (qb1.1 h)
    ·exact .inl (qbr.1 h)
   have hah:AheadT (qdl out x) (u::b):=fun z hz y hy=>by
    rw [p3] at hz;cases hz
    rcases List.mem_cons.1 hy with rfl|hy
    ·exact hxu
    ·have:=(List.pairwise_cons.1 hb).1 y hy
     rcases hxu with rfl|h
     ·exact .inr this
     ·exact .inr (h.trans this)
   obtain ⟨r1,r2⟩:=qfe f a (u::b) (qdl out x) (by simp only [List.length_cons] at hf ⊢;omega) (List.pairwise_cons.1 ha).2 hb p1 (.next ha p3) hah;refine ⟨r1,fun y=>?_⟩;rw [r2,p2];simp only [List.mem_cons,or_assoc]
  ·rename_i hle
   obtain ⟨p1,p2,p3⟩:=qfz ho hu;have hux:LtT u x:=by
    rcases LtT.tri x u with h|h|h
    ·exact absurd (Int.le_of_lt (qb1.2 h)) hle
    ·exact absurd (Int.le_of_eq (qbr.2 h)) hle
    ·exact h
   have hah:AheadT (qdl out u) (x::a):=fun z hz y hy=>by
    rw [p3] at hz;cases hz
    rcases List.mem_cons.1 hy with rfl|hy
    ·exact .inr hux
    ·exact .inr (hux.trans ((List.pairwise_cons.1 ha).1 y hy))
   obtain ⟨r1,r2⟩:=qfe f (x::a) b (qdl out u) (by simp only [List.length_cons] at hf ⊢;omega) ha (List.pairwise_cons.1 hb).2 p1 hah (.next hb p3);refine ⟨r1,fun y=>?_⟩;rw [r2,p2];simp only [List.mem_cons]
   constructor
   ·rintro ((h|h)|(h|h)|h)<;>simp [h]
   ·rintro (h|(h|h)|(h|h))<;>simp [h]
theorem qht:∀ (f:Nat) (l:List TM),l.length≤f→RiseT (tmsN f l)∧∀ y,y∈tmsN f l↔y∈l
 | 0,l,h=>by
  have:l=[]:=List.eq_nil_of_length_eq_zero Oo;subst this;exact ⟨List.Pairwise.nil,fun y=>Iff.rfl⟩
 | f+1,l,h=>by
  rw [tmsN]
  split
  ·rename_i h2
   refine ⟨?_,fun y=>Iff.rfl⟩
   match l,h2 with
   | [],_=>exact List.Pairwise.nil
   | [x],_=>exact List.pairwise_singleton _ _
  ·rename_i h2
   obtain ⟨a1,a2⟩:=qht f (l.take (l.length/2)) (by rw [List.length_take];omega);obtain ⟨b1,b2⟩:=qht f (l.drop (l.length/2)) (by rw [zld];omega);obtain ⟨r1,r2⟩:=qfe _ _ _ [] znr a1 b1 List.Pairwise.nil (fun z hz=>by cases hz) (fun z hz=>by cases hz);refine ⟨r1,fun y=>?_⟩;rw [r2,a2,b2,← List.mem_append,List.take_append_drop];simp
theorem qge {m:LB}:∀ {i:Nat},(∀ j,j<i→(dnF m j).2=0)→DSt m i (dSt m i).1 (dSt m i).2∧(0<i→i≤dN m→dGet m (i-1)=some (dSt m i).1)
 | 0,_=>⟨⟨Nat.zero_le _,fun j h=>by cases h⟩,fun h=>by omega⟩
 | i+1,h=>by
  obtain ⟨ih,_⟩:=qge (m:=m) (i:=i) fun j hj=>h j Oo;have hi:=h i Oo;obtain ⟨last,p⟩:LB × Nat:=dSt m i;have hd:dSt m i=((dSt m i).1,(dSt m i).2):=rfl;have hp:i%16=0→qy m (i/16)=(dSt m i).2:=fun h1=>Classical.byContradiction fun h2=>by
   rw [qm4 hd h1 h2] at hi;cases hi
  have he:(entG ((qa m).drop (dSt m i).2) (decide (i%16=0)) (dSt m i).1).2.2=0:=Classical.byContradiction fun h2=>by
   rw [qy3 hd rfl hp h2] at hi;exact h2 hi
  have hs:=ih.step hp rfl he;have e:=qeg hd (first:=decide (i%16=0)) rfl;rw [e];exact ⟨hs,fun _ h3=>hs.get Oo⟩
theorem qj8 {m:LB} (h:(doE m).2=0) {j:Nat} (h0:0<j) (hj:j<dN m) {s t:LB} (hs:dGet m (j-1)=some s) (ht:dGet m j=some t):s<t:=by
 obtain ⟨_,_,hf,_⟩:=qc1 h;have h1:=(qge (m:=m) (i:=j) fun k hk=>hf k Oo).2 h0 Oo;have h2:=(qge (m:=m) (i:=j+1) fun k hk=>hf k Oo).2 Oo Oo;rw [Nat.add_sub_cancel] at h2;rw [hs] at h1;rw [ht] at h2;cases h1;cases h2;have hj2:=hf j hj;have hd:dSt m j=((dSt m j).1,(dSt m j).2):=rfl;have hp:j%16=0→qy m (j/16)=(dSt m j).2:=fun h1=>Classical.byContradiction fun h2=>by
  rw [qm4 hd h1 h2] at hj2;cases hj2
 have he:(entG ((qa m).drop (dSt m j).2) (decide (j%16=0)) (dSt m j).1).2.2=0:=Classical.byContradiction fun h2=>by
  rw [qy3 hd rfl hp h2] at hj2;exact h2 hj2
 have hl:leL (dSt m (j+1)).1 (dSt m j).1≠true:=fun h3=>by
  rw [qeg hd (first:=decide (j%16=0)) rfl] at h3;rw [q6o hd rfl hp he h0 h3] at hj2;cases hj2
 simp only [leL,ne_eq,Bool.or_eq_true,not_or] at hl
 rcases qk7 ⟨(dSt m (j+1)).1.toArray⟩ ⟨(dSt m j).1.toArray⟩ with h3|h3|h3
 ·exact absurd h3 hl.1
 ·exact absurd (qae.2 h3) hl.2
 ·exact qcy.1 h3
theorem qy2 {m:LB} (h:(doE m).2=0):∀ {d j:Nat} {s t:LB},j+1+d<dN m→dGet m j=some s→dGet m (j+1+d)=some t→s<t
 | 0,j,s,t,h1,h2,h3=>qj8 h Oo h1 (by simpa using h2) h3
 | d+1,j,s,t,h1,h2,h3=>by
  obtain ⟨_,_,hf,_⟩:=qc1 h;have h4:=(qge (m:=m) (i:=j+1+d+1) fun k hk=>hf k Oo).2 Oo Oo;rw [Nat.add_sub_cancel] at h4;have h5:=qy2 h Oo h2 h4;have h6:=qj8 h (j:=j+1+(d+1)) Oo h1 (by rw [show j+1+(d+1)-1=j+1+d by omega];exact h4) h3;exact List.lt_trans h5 h6
section
variable {l:LB} {ts:List TM} (hV:VTm l 3 0 ts) (hd:∀ k,k<3→(doE (sDict l k)).2=0)
include hV hd
end
theorem q55 {l:LB} {k:Nat} (h:(vcE l k).2=0):tVec l k=true∧(voE (qg l k)).2=0∧(0<vNum l k→bitN ((qg l k).drop 8) (vNum l k-1)=1):=by
 by_cases h1:tVec l k=true
 ·by_cases h2:(voE (qg l k)).2=0
  ·refine ⟨h1,h2,fun h3=>Classical.byContradiction fun h4=>?_⟩;rw [qvu h1 h2 h3 h4] at h;exact absurd (show (180:Nat)=0 from h) Od
  ·rw [q2t h1 h2] at h;exact absurd h h2
 ·rw [q2r (by simpa using h1)] at h;exact absurd (show (180:Nat)=0 from h) Od
theorem LvlV.of {l:LB} {k:Nat} (h:(vcE l k).2=0):LvlV l k:=by
 obtain ⟨h1,h2,h3⟩:=q55 h;simp only [tVec,Bool.and_eq_true,decide_eq_true_eq] at h1;exact ⟨VecOk.voE h1.1.1 h2,h1.1.2,h1.2,h3⟩
theorem qbt {l:LB} (h:(toE l).2=0):∀ k,1≤k→k≤3→LvlV l k:=fun k h1 h3=>by
 obtain ⟨_,h4⟩:=qcn h;obtain ⟨_,_,h5,_⟩:=qjq (h4 k Oo);exact LvlV.of (h5.resolve_left Oo)
def dTxt (m:LB) (i:Nat):LB:=(blk (qa m) (qy m (i/16)) (i%16)).1
theorem qm5 {m:LB} (h:(doE m).2=0) {i:Nat} (hi:i<dN m):(blk (qa m) (qy m (i/16)) (i%16)).2.2=0∧dGet m i=some (dTxt m i):=by
 obtain ⟨_,_,hf,_⟩:=qc1 h;have h1:=(qge (m:=m) (i:=i+1) fun k hk=>hf k Oo).2 Oo Oo;rw [Nat.add_sub_cancel,dGet,if_pos hi] at h1
 split at h1
 ·rename_i h2
  refine ⟨h2,?_⟩;rw [dGet,if_pos hi,if_pos h2,dTxt]
 ·cases h1
theorem BEnd.full {m:LB} (h:(doE m).2=0) (k:Nat):BEnd m k (min 16 (dN m-16*k)):=by
 refine ⟨fun j hj=>⟨by omega,?_⟩,by omega,fun h1 h2=>by omega⟩;have:=(qm5 h (i:=16*k+j) Oo).1
 rwa [show (16*k+j)/16=k by omega,show (16*k+j)%16=j by omega] at this
theorem qtp (m:LB) (k j:Nat) (hj:j<16):bRow m k j=[ii (16*k+j:Nat),.string ⟨(dTxt m (16*k+j)).toArray⟩]:=by
 rw [bRow,dTxt,show (16*k+j)/16=k by omega,show (16*k+j)%16=j by omega]
theorem qpe:∀ x,x<256→∀ r,r<8→(x/2 ^ r≠0↔∃ s,s<8∧r≤s∧x/2 ^ s%2=1):=by decide +kernel
theorem qnz {d:LB} {n:Nat} (hd:d.length=upN n 8):PadB d n↔n%8≠0∧(d.getD (n/8) 0).toNat/2 ^ (n%8)≠0:=by
 have hu:upN n 8=(n+7)/8:=rfl
 constructor
 ·rintro ⟨t,h1,h2,h3⟩;have h4:n%8≠0:=by omega
  have h5:t/8=n/8:=by omega
  rw [bitN,h5] at h3;exact ⟨h4,(qpe _ (qaf _) _ Oo).2 ⟨t%8,by omega,by omega,h3⟩⟩
 ·rintro ⟨h1,h2⟩;obtain ⟨s,h3,h4,h5⟩:=(qpe _ (qaf _) _ Oo).1 h2;refine ⟨8*(n/8)+s,by omega,by omega,?_⟩;rw [bitN,show (8*(n/8)+s)/8=n/8 by omega,show (8*(n/8)+s)%8=s by omega];exact h5
theorem qyw {d:LB} {n:Nat} (h:¬ PadB d n):∀ {m:Nat},n≤m→m≤8*d.length→cnt d m=cnt d n:=by
 intro m hm
 induction hm with
 | refl=>intro _;rfl
 | step hm ih=>
  rename_i m
  intro hle;rw [cnt,ih Oo];have h1:=qca d m;have h2:bitN d m≠1:=fun e=>h ⟨m,hm,by omega,e⟩
  omega
def mkD (d:LB) (b:Nat):Nat→List (Nat × Nat × Nat)
 | 0=>[]
 | t+1=>if bitN d (8*b+t)=1∧cnt d (8*b+t)%512=0 then mkD d b t++[(512,cnt d (8*b+t)/512,8*b+t)] else mkD d b t
def grD (d:LB) (b:Nat):List (Nat × Nat × Nat):=if 8*b%2048=0 then [(2048,8*b/2048,cnt d (8*b))] else []
def smD (d:LB) (b:Nat):List (Nat × Nat × Nat):=if 8*b%256=0 then [(256,8*b/256,cnt d (8*b)-cnt d (2048*(8*b/2048)))] else []
def dirD (d:LB):Nat→List (Nat × Nat × Nat)
 | 0=>[]
 | b+1=>dirD d b++(grD d b++(smD d b++mkD d b 8))
def plD (n:Nat) (x:Nat × Nat × Nat):Nat:=if x.1=2048 then qh n+4*x.2.1 else if x.1=256 then qr n+2*x.2.1 else qaa n+4*x.2.1
def szD (x:Nat × Nat × Nat):Nat:=if x.1=256 then 2 else 4
def okD (l:LB) (x:Nat × Nat × Nat):Prop:=leN ((l.drop (plD (vN l) x)).take (szD x))=x.2.2
structure SpI (l:LB) (L:List (Nat × Nat × Nat)) (f:Int):Prop where
 none:f<0→f=-1∧∀ x∈L,okD l x
 some:0≤f→(∃ x∈L,¬ okD l x∧f=plD (vN l) x)∧∀ x∈L,¬ okD l x→f≤plD (vN l) x
theorem SpI.nil (l:LB):SpI l [] (-1):=⟨fun _=>⟨rfl,fun x h=>by cases h⟩,fun h=>by omega⟩
theorem SpI.keep {l:LB} {L:List (Nat × Nat × Nat)} {f:Int} {x:Nat × Nat × Nat} (h:SpI l L f) (hx:okD l x∨(0≤f∧f≤plD (vN l) x)):SpI l (L++[x]) f:=by
 refine ⟨fun hf=>⟨(h.none hf).1,fun y hy=>?_⟩,fun hf=>⟨?_,fun y hy hn=>?_⟩⟩
 ·rcases List.mem_append.1 hy with hy|hy
  ·exact (h.none hf).2 y hy
  ·rw [List.mem_singleton.1 hy]
   rcases hx with hx|⟨hx,_⟩
   ·exact hx
   ·omega
 ·obtain ⟨y,hy,g⟩:=(h.some hf).1;exact ⟨y,List.mem_append_left _ hy,g⟩
 ·rcases List.mem_append.1 hy with hy|hy
  ·exact (h.some hf).2 y hy hn
  ·rw [List.mem_singleton.1 hy] at hn ⊢
   rcases hx with hx|⟨_,hx⟩
   ·exact absurd hx hn
   ·exact hx
theorem SpI.take {l:LB} {L:List (Nat × Nat × Nat)} {f:Int} {x:Nat × Nat × Nat} (h:SpI l L f) (hx:¬ okD l x) (hf:f<0∨(plD (vN l) x:Int)<f):SpI l (L++[x]) (plD (vN l) x:Nat):=by
 refine ⟨fun h=>by omega,fun _=>⟨⟨x,List.mem_append_right _ (List.mem_singleton.2 rfl),hx,rfl⟩,fun y hy hn=>?_⟩⟩
 rcases List.mem_append.1 hy with hy|hy
 ·by_cases h0:f<0
  ·exact absurd ((h.none h0).2 y hy) hn
  ·have:=(h.some Oo).2 y hy hn;omega
 ·rw [List.mem_singleton.1 hy];exact Int.le_refl _
theorem qik {d:LB} {b:Nat}:∀ {t:Nat} {x:Nat × Nat × Nat},x∈mkD d b t↔∃ s,s<t∧bitN d (8*b+s)=1∧cnt d (8*b+s)%512=0∧x=(512,cnt d (8*b+s)/512,8*b+s)
 | 0,x=>by simp [mkD]
 | t+1,x=>by
  rw [mkD]
  split
  ·rename_i h
   rw [List.mem_append,qik,List.mem_singleton]
   constructor
   ·rintro (⟨s,h1,h2⟩|rfl)
    ·exact ⟨s,by omega,h2⟩
    ·exact ⟨t,by omega,h.1,h.2,rfl⟩
   ·rintro ⟨s,h1,h2,h3,h4⟩
    by_cases e:s=t
    ·subst e;exact .inr h4
    ·exact .inl ⟨s,by omega,h2,h3,h4⟩
  ·rename_i h
   rw [qik]
   constructor
   ·rintro ⟨s,h1,h2⟩;exact ⟨s,by omega,h2⟩
   ·rintro ⟨s,h1,h2,h3,h4⟩
    by_cases e:s=t
    ·subst e;exact absurd ⟨h2,h3⟩ h
    ·exact ⟨s,by omega,h2,h3,h4⟩
theorem qem {d:LB}:∀ {nb:Nat} {x:Nat × Nat × Nat},x∈dirD d nb↔∃ b,b<nb∧(x∈grD d b∨x∈smD d b∨x∈mkD d b 8)
 | 0,x=>by simp [dirD]
 | nb+1,x=>by
  rw [dirD,List.mem_append,qem,List.mem_append,List.mem_append]
  constructor
  ·rintro (⟨b,h1,h2⟩|h)
   ·exact ⟨b,by omega,h2⟩
   ·exact ⟨nb,by omega,h⟩
  ·rintro ⟨b,h1,h2⟩
   by_cases e:b=nb
   ·subst e;exact .inr h2
   ·exact .inl ⟨b,by omega,h2⟩
theorem qt2 {d:LB} {k:Nat}:∀ {n:Nat},k<cnt d n→∃ i,i<n∧cnt d i=k∧bitN d i=1
 | 0,h=>by simp [cnt] at h
 | n+1,h=>by
  by_cases h1:k<cnt d n
  ·obtain ⟨i,a,b⟩:=qt2 h1;exact ⟨i,by omega,b⟩
  ·have h2:=qca d n;rw [cnt] at h;exact ⟨n,by omega,by omega,by omega⟩
theorem qadn (d:LB) {i:Nat} (hb:bitN d i=1) (hm:cnt d i%512=0):∀ n,i<n→((mL d n).drop (4*(cnt d i/512))).take 4=fixL i 4:=by
 intro n hn
 induction hn with
 | refl=>
  have hl:=q0j d i;have e:4*(cnt d i/512)=(mL d i).length:=by rw [hl];unfold upN;omega
  rw [mL,if_pos ⟨hb,hm⟩,e,List.drop_left,List.take_of_length_le (by rw [qm];exact Nat.le_refl _)]
 | step hn ih=>
  rename_i n
  have hl:=q0j d n;have hc:cnt d i+1≤cnt d n:=by
   have h1:cnt d (i+1)=cnt d i+bitN d i:=rfl;have h2:=qgu (d:=d) (a:=i+1) (b:=n) hn;omega
  rw [mL]
  split
  ·rw [List.drop_append_of_le_length (by rw [hl];unfold upN;omega),List.take_append_of_le_length (by rw [zld,hl];unfold upN;omega)];exact ih
  ·exact ih
theorem q3z {p:Nat→Prop}:∀ {n:Nat},p n→∃ i,p i∧i≤n∧∀ j,j<i→¬ p j:=by
 intro n
 induction n using Nat.strongRecOn with
 | _ n ih=>
  intro h
  by_cases g:∃ j,j<n∧p j
  ·obtain ⟨j,h1,h2⟩:=g;obtain ⟨i,a,b,c⟩:=ih j h1 h2;exact ⟨i,a,by omega,c⟩
  ·exact ⟨n,h,Nat.le_refl _,fun j hj hp=>g ⟨j,hj,hp⟩⟩
theorem qaaj {l m:LB} {a s:Nat} (h:(l.drop a).take s≠(m.drop a).take s):∃ r,r<s∧l[a+r]?≠m[a+r]?:=by
 apply Classical.byContradiction;intro hn;refine h (List.ext_getElem? fun i=>?_)
 by_cases hi:i<s
 ·rw [List.getElem?_take_of_lt hi,List.getElem?_take_of_lt hi,List.getElem?_drop,List.getElem?_drop];exact Classical.byContradiction fun g=>hn ⟨i,hi,g⟩
 ·rw [List.getElem?_eq_none (by rw [List.length_take];omega),List.getElem?_eq_none (by rw [List.length_take];omega)]
theorem qqw {l m:LB} {a s r:Nat} (h:(l.drop a).take s=(m.drop a).take s) (hr:r<s):l[a+r]?=m[a+r]?:=by
 have:=congrArg (fun x=>x[r]?) h
 simpa only [List.getElem?_take_of_lt hr,List.getElem?_drop] using this
section
variable {l:LB} (hv:vOk l=true) (hp:¬ PadB (vD l) (vN l)) (hc:cnt (vD l) (vN l)=vM l)
include hv
theorem qvp:(vD l).length=upN (vN l) 8:=by
 simp only [vOk,Bool.and_eq_true,decide_eq_true_eq] at hv;have h1:qak (vN l) (vM l)=qh (vN l)+4*upN (vN l) 2048+2*upN (vN l) 256+4*upN (vM l) 512:=rfl;have h2:qh (vN l)=8+upN (vN l) 8:=rfl;rw [vD,List.length_take,zld];omega
include hp hc
theorem qm3 {x:Nat × Nat × Nat} (hx:x∈dirD (vD l) (upN (vN l) 8)):qh (vN l)≤plD (vN l) x∧plD (vN l) x+szD x≤qak (vN l) (vM l)∧
  (∀ r,r<szD x→qdu (vN l) (plD (vN l) x+r)=plD (vN l) x)∧((q6 (vD l) (vN l)).drop (plD (vN l) x)).take (szD x)=fixL x.2.2 (szD x)∧x.2.2<256 ^ szD x:=by
 have hdl:=qvp hv;have hN:vN l≤67108864:=by
  simp only [vOk,Bool.and_eq_true,decide_eq_true_eq] at hv;exact hv.1.1.2
 obtain ⟨d,ed⟩:∃ d,d=vD l:=⟨_,rfl⟩
 obtain ⟨n,en⟩:∃ n,n=vN l:=⟨_,rfl⟩
 rw [← ed,← en] at hdl hp hc hx;rw [← en] at hN;rw [← ed,← en];have hW:=qiy d n;rw [hdl] at hW;have hG:qh n=8+upN n 8:=rfl;have hS:qr n=qh n+4*upN n 2048:=rfl;have hM:qaa n=qr n+2*upN n 256:=rfl;have hE:qak n (vM l)=qaa n+4*upN (vM l) 512:=rfl;rw [← hG] at hW;have hgl:=qp0 d n;have hsl:=qve d n;have u8:upN n 8=(n+7)/8:=rfl;have u2048:upN n 2048=(n+2047)/2048:=rfl;have u256:upN n 256=(n+255)/256:=rfl;have u512:upN (vM l) 512=(vM l+511)/512:=rfl;have hcn:∀ i,i≤n→cnt d i≤n:=fun i hi=>Nat.le_trans (qe1 d i) hi
 obtain ⟨b,hb,hx|hx|hx⟩:=qem.1 hx
 ·unfold grD at hx
  split at hx
  ·rename_i h8
   rw [List.mem_singleton.1 hx];have e:plD n (2048,8*b/2048,cnt d (8*b))=qh n+4*(8*b/2048):=rfl;have e2:szD (2048,8*b/2048,cnt d (8*b))=4:=rfl;have hj:8*b/2048<upN n 2048:=by omega
   rw [e,e2];refine ⟨by omega,by omega,fun r hr=>?_,?_,?_⟩
   ·unfold qdu;rw [if_pos Oo];omega
   ·rw [← List.drop_drop,hW,List.drop_append_of_le_length Oo,List.take_append_of_le_length (by rw [zld];omega),qabv _ _ _ hj]
    congr 2;omega
   ·have:=hcn (8*b) Oo;show cnt d (8*b)<4294967296;omega
  ·cases hx
 ·unfold smD at hx
  split at hx
  ·rename_i h8
   rw [List.mem_singleton.1 hx];obtain ⟨v,ev⟩:∃ v,v=cnt d (8*b)-cnt d (2048*(8*b/2048)):=⟨_,rfl⟩
   rw [← ev];have e:plD n (256,8*b/256,v)=qr n+2*(8*b/256):=rfl;have e2:szD (256,8*b/256,v)=2:=rfl;have hj:8*b/256<upN n 256:=by omega
   rw [e,e2];refine ⟨by omega,by omega,fun r hr=>?_,?_,?_⟩
   ·unfold qdu;rw [if_neg Oo,if_pos Oo];omega
   ·have e3:qr n+2*(8*b/256)=qh n+((gL d n).length+2*(8*b/256)):=by omega
    have e4:∀ A B:LB,(A++B).drop (A.length+2*(8*b/256))=B.drop (2*(8*b/256)):=fun A B=>by rw [← List.drop_drop,List.drop_left]
    rw [e3,← List.drop_drop,hW,e4,List.drop_append_of_le_length Oo,List.take_append_of_le_length (by rw [zld];omega),qac0 _ _ _ hj,ev];rw [show 256*(8*b/256)=8*b by omega,show 8*b/256/8=8*b/2048 by omega]
   ·have:=qlz d (2048*(8*b/2048)) (8*b-2048*(8*b/2048));rw [show 2048*(8*b/2048)+(8*b-2048*(8*b/2048))=8*b by omega] at this;show v<65536;omega
  ·cases hx
 ·obtain ⟨s,hs,h1,h2,rfl⟩:=qik.1 hx;obtain ⟨i,ei⟩:∃ i,i=8*b+s:=⟨_,rfl⟩
  rw [← ei] at h1 h2 ⊢;have hin:i<n:=Classical.byContradiction fun g=>hp ⟨i,by omega,by rw [hdl];omega,h1⟩
  have hcl:cnt d i+1≤cnt d n:=by
   have h3:cnt d (i+1)=cnt d i+bitN d i:=rfl;have h4:=qgu (d:=d) (a:=i+1) (b:=n) hin;omega
  have e:plD n (512,cnt d i/512,i)=qaa n+4*(cnt d i/512):=rfl;have e2:szD (512,cnt d i/512,i)=4:=rfl;have hj:cnt d i/512<upN (vM l) 512:=by omega
  rw [e,e2];refine ⟨by omega,by omega,fun r hr=>?_,?_,?_⟩
  ·unfold qdu;rw [if_neg Oo,if_neg Oo];omega
  ·have e3:qaa n+4*(cnt d i/512)=qh n+((gL d n).length+((sL d n).length+4*(cnt d i/512))):=by omega
   have e4:∀ (A B:LB) (k:Nat),(A++B).drop (A.length+k)=B.drop k:=fun A B k=>by rw [← List.drop_drop,List.drop_left]
   rw [e3,← List.drop_drop,hW,e4,e4,qadn d h1 h2 n hin]
  ·show i<4294967296;omega
theorem qr2 {x:Nat × Nat × Nat} (hx:x∈dirD (vD l) (upN (vN l) 8)):okD l x↔(l.drop (plD (vN l) x)).take (szD x)=((q6 (vD l) (vN l)).drop (plD (vN l) x)).take (szD x):=by
 obtain ⟨h1,h2,_,h4,h5⟩:=qm3 hv hp hc hx;have hlen:l.length=qak (vN l) (vM l):=by
  simp only [vOk,Bool.and_eq_true,decide_eq_true_eq] at hv;exact hv.2
 rw [h4];unfold okD
 constructor
 ·intro h;refine qz8 (by rw [qm,List.length_take,zld];omega) ?_;rw [qdw,Nat.mod_eq_of_lt h5];exact h
 ·intro h;rw [h,qdw,Nat.mod_eq_of_lt h5]
omit hp in
theorem qj9 {i:Nat} (h1:qh (vN l)≤i) (h2:i<qak (vN l) (vM l)):∃ x∈dirD (vD l) (upN (vN l) 8),plD (vN l) x=qdu (vN l) i∧plD (vN l) x≤i∧i<plD (vN l) x+szD x:=by
 have hdl:=qvp hv;obtain ⟨d,ed⟩:∃ d,d=vD l:=⟨_,rfl⟩
 obtain ⟨n,en⟩:∃ n,n=vN l:=⟨_,rfl⟩
 rw [← ed,← en] at hdl hc;rw [← en] at h1 h2;rw [← ed,← en];have hG:qh n=8+upN n 8:=rfl;have hS:qr n=qh n+4*upN n 2048:=rfl;have hM:qaa n=qr n+2*upN n 256:=rfl;have hE:qak n (vM l)=qaa n+4*upN (vM l) 512:=rfl;have u8:upN n 8=(n+7)/8:=rfl;have u2048:upN n 2048=(n+2047)/2048:=rfl;have u256:upN n 256=(n+255)/256:=rfl;have u512:upN (vM l) 512=(vM l+511)/512:=rfl
 by_cases g1:i<qr n
 ·obtain ⟨j,ej⟩:∃ j,j=(i-qh n)/4:=⟨_,rfl⟩
  have e:8*(256*j)/2048=j:=by omega
  refine ⟨(2048,8*(256*j)/2048,cnt d (8*(256*j))),qem.2 ⟨256*j,by omega,.inl ?_⟩,?_⟩
  ·unfold grD;rw [if_pos Oo];exact List.mem_singleton.2 rfl
  ·have e1:plD n (2048,8*(256*j)/2048,cnt d (8*(256*j)))=qh n+4*(8*(256*j)/2048):=rfl;have e2:szD (2048,8*(256*j)/2048,cnt d (8*(256*j)))=4:=rfl;rw [e1,e2,e];unfold qdu;rw [if_pos g1];omega
 ·by_cases g2:i<qaa n
  ·obtain ⟨j,ej⟩:∃ j,j=(i-qr n)/2:=⟨_,rfl⟩
   have e:8*(32*j)/256=j:=by omega
   refine ⟨(256,8*(32*j)/256,cnt d (8*(32*j))-cnt d (2048*(8*(32*j)/2048))),qem.2 ⟨32*j,by omega,.inr (.inl ?_)⟩,?_⟩
   ·unfold smD;rw [if_pos Oo];exact List.mem_singleton.2 rfl
   ·obtain ⟨v,ev⟩:∃ v,v=cnt d (8*(32*j))-cnt d (2048*(8*(32*j)/2048)):=⟨_,rfl⟩
    rw [← ev];have e1:plD n (256,8*(32*j)/256,v)=qr n+2*(8*(32*j)/256):=rfl;have e2:szD (256,8*(32*j)/256,v)=2:=rfl;rw [e1,e2,e];unfold qdu;rw [if_neg g1,if_pos g2];omega
  ·obtain ⟨j,ej⟩:∃ j,j=(i-qaa n)/4:=⟨_,rfl⟩
   obtain ⟨i',k1,k2,k3⟩:=qt2 (d:=d) (k:=512*j) (n:=n) Oo;have e0:8*(i' / 8)+i' % 8=i':=by omega
   refine ⟨(512,cnt d i' / 512,i'),qem.2 ⟨i' / 8,by omega,.inr (.inr (qik.2 ⟨i' % 8,by omega,?_⟩))⟩,?_⟩
   ·rw [e0];exact ⟨k3,by omega,rfl⟩
   ·have e1:plD n (512,cnt d i' / 512,i')=qaa n+4*(cnt d i' / 512):=rfl;have e2:szD (512,cnt d i' / 512,i')=4:=rfl;rw [e1,e2];unfold qdu;rw [if_neg g1,if_neg g2];omega
theorem SpI.voE {f:Int} (h:SpI l (dirD (vD l) (upN (vN l) 8)) f):(f=-1∧voE l=(0,0))∨(0≤f∧∃ a:Nat,f=a∧voE l=(a,20)):=by
 by_cases hf:f<0
 ·obtain ⟨h1,h2⟩:=h.none hf;refine .inl ⟨h1,q7t hp hc fun j h3 h4=>?_⟩;obtain ⟨x,hx,_,h5,h6⟩:=qj9 hv hc h3 h4;have:=qqw ((qr2 hv hp hc hx).1 (h2 x hx)) (r:=j-plD (vN l) x) Oo
  rwa [show plD (vN l) x+(j-plD (vN l) x)=j by omega] at this
 ·obtain ⟨⟨x,hx,hbad,e⟩,hmin⟩:=h.some Oo;refine .inr ⟨by omega,plD (vN l) x,e,?_⟩;obtain ⟨g1,g2,g3,_,_⟩:=qm3 hv hp hc hx;obtain ⟨r,hr,hne⟩:=qaaj (fun q=>hbad ((qr2 hv hp hc hx).2 q));obtain ⟨i,⟨k1,k2,k3⟩,k4,k5⟩:=q3z (p:=fun i=>qh (vN l)≤i∧i<qak (vN l) (vM l)∧l[i]?≠(q6 (vD l) (vN l))[i]?) (n:=plD (vN l) x+r) ⟨by omega,by omega,hne⟩;obtain ⟨y,hy,p1,p2,p3⟩:=qj9 hv hc k1 k2;have hyb:¬ okD l y:=fun q=>k3 (by
   have:=qqw ((qr2 hv hp hc hy).1 q) (r:=i-plD (vN l) y) Oo
   rwa [show plD (vN l) y+(i-plD (vN l) y)=i by omega] at this)
  have hle:=hmin y hy hyb;have hst:=g3 (i-plD (vN l) x) Oo;rw [show plD (vN l) x+(i-plD (vN l) x)=i by omega] at hst;rw [← hst];exact qadc hp hc k1 k2 (fun j j1 j2=>Classical.byContradiction fun q=>k5 j j2 ⟨j1,by omega,q⟩) k3
end
theorem qmn:∀ (b:Nat) {a:Nat},a≤b→b<18446744073709551616→qai a≤qai b:=by
 intro b
 induction b using Nat.strongRecOn with
 | _ b ih=>
  intro a h hb
  by_cases ha:a=0
  ·subst ha;rw [qeb];exact Nat.zero_le _
  ·rw [qf5 a ha Oo,qf5 b Oo hb];have:=ih (b/2) Oo (a:=a/2) Oo Oo;omega
theorem q23 {a b:Nat} (ha:a<18446744073709551616) (hb:b<18446744073709551616):qai (max a b)=max (qai a) (qai b):=by
 rcases Nat.le_total a b with h|h
 ·have:=qmn b h hb;rw [Nat.max_eq_right h,Nat.max_eq_right this]
 ·have:=qmn a h ha;rw [Nat.max_eq_left h,Nat.max_eq_left this]
def mxN (f:Nat→Nat):Nat→Nat
 | 0=>0
 | i+1=>max (mxN f i) (f i)
theorem quw {f:Nat→Nat} {B:Nat} (hB:0<B):∀ {n:Nat},(∀ i,i<n→f i<B)→mxN f n<B
 | 0,_=>hB
 | n+1,h=>by
  have h1:=quw hB (n:=n) fun i hi=>h i Oo
  have h2:=h n Oo;rw [mxN];omega
theorem qo4 {f:Nat→Nat} {xs:List Nat}:∀ {n:Nat},(∀ i,i<n→f i<18446744073709551616∧xs.getD i 0=f i)→qai (mxN f n)=wMx xs n
 | 0,_=>qeb
 | n+1,h=>by
  obtain ⟨h1,h2⟩:=h n Oo;rw [mxN,wMx,q23 (quw Od fun i hi=>(h i Oo).1) h1,qo4 fun i hi=>h i Oo,h2]
theorem q6b {l:LB} {k:Nat} (hw:tw l k≤23):qai (mxN (tX l k) (vNum l k))=wMx (unpN (qp l k) (vNum l k) (tw l k)) (vNum l k):=
 qo4 fun i hi=>⟨Nat.lt_trans (qlh _ _ _ hw:tX l k i<2 ^ 23) Od,by simp [unpN,tX,List.getD_eq_getElem?_getD,hi]⟩
theorem qkr (p:LB) (n wd:Nat):opE p n wd≠0↔PadB p (n*wd):=by
 unfold opE PadB
 split
 ·rename_i h;exact ⟨fun _=>h,fun _=>by decide⟩
 ·rename_i h;exact ⟨fun g=>absurd rfl g,fun g=>absurd g h⟩
theorem q4r {p:LB} {n wd:Nat} (hp:p.length=(n*wd+7)/8):opE p n wd≠0↔n*wd%8≠0∧(p.getD (p.length-1) 0).toNat/2 ^ (n*wd%8)≠0:=by
 rw [qkr,qnz (show p.length=upN (n*wd) 8 from hp)]
 constructor
 ·rintro ⟨h1,h2⟩;exact ⟨h1,by rw [show p.length-1=n*wd/8 by omega];exact h2⟩
 ·rintro ⟨h1,h2⟩;exact ⟨h1,by rw [show p.length-1=n*wd/8 by omega] at h2;exact h2⟩
def varL (n:Nat):LB:=if n<128 then [UInt8.ofNat n] else UInt8.ofNat (n%128+128)::varL (n/128)
termination_by n
decreasing_by omega
theorem qan {n:Nat} (h:n<128):varL n=[UInt8.ofNat n]:=by rw [varL,if_pos h]
theorem qd9 {n:Nat} (h:128≤n):varL n=UInt8.ofNat (n%128+128)::varL (n/128):=by rw [varL,if_neg Oo]
theorem qaw {n:Nat} (h:n<256):(UInt8.ofNat n).toNat=n:=by
 simp [UInt8.toNat_ofNat'];omega
theorem q54 (n:Nat):1≤(varL n).length:=by
 by_cases h:n<128
 ·rw [qan h];simp
 ·rw [qd9 Oo];simp
theorem qbg (k:Nat):∀ n,n<2 ^ (7*(k+1))→(varL n).length≤k+1:=by
 induction k with
 | zero=>intro n h;rw [qan (by simpa using h)];simp
 | succ k ih=>
  intro n h
  by_cases hn:n<128
  ·rw [qan hn];simp
  ·rw [qd9 Oo,List.length_cons];have e:2 ^ (7*(k+1+1))=2 ^ (7*(k+1))*128:=by rw [show 7*(k+1+1)=7*(k+1)+7 by omega,Nat.pow_add]
   have:=ih (n/128) (Nat.div_lt_of_lt_mul Oo);omega
theorem qwp:∀ (n i a:Nat) (r:LB),n*2 ^ (7*i)<2 ^ 64→i≤9→(0<i→0<n)→qgi i a (varL n++r)=(a+n*2 ^ (7*i),i+(varL n).length,0):=by
 intro n
 induction n using Nat.strongRecOn with
 | _ n ih=>
  intro i a r hn hi h0;have h9:i=9→n<2:=by intro e;subst e;simp at hn;omega
  by_cases h:n<128
  ·rw [qan h,List.singleton_append,qd3,qaw Oo,if_neg Oo,if_pos h,Nat.mod_eq_of_lt h];rfl
  ·have e:n%128*2 ^ (7*i)+n/128*2 ^ (7*(i+1))=n*2 ^ (7*i):=by
    rw [show 7*(i+1)=7+7*i by omega,Nat.pow_add,← Nat.mul_assoc,← Nat.add_mul]
    congr 1
    have:=Nat.mod_add_div n 128;omega
   rw [qd9 Oo,List.cons_append,qd3,qaw Oo,if_neg Oo,if_neg Oo];rw [ih (n/128) Oo (i+1) _ r Oo Oo Oo];rw [show (n%128+128)%128=n%128 by omega,Nat.add_assoc,e,List.length_cons];refine Prod.ext rfl (Prod.ext ?_ rfl);show i+1+_=i+(_+1);omega
theorem qa2 {n:Nat} (h:n<2 ^ 64) (r:LB):numL (varL n++r)=(n,(varL n).length,0):=by
 rw [numL,qwp n 0 0 r (by simpa using h) Oo Oo];simp
theorem qj5:∀ a b:LB,comL a b≤a.length∧comL a b≤b.length∧a.take (comL a b)=b.take (comL a b)
 | [],[]=>⟨Nat.le_refl _,Nat.le_refl _,rfl⟩
 | [],_::_=>⟨Nat.zero_le _,Nat.zero_le _,rfl⟩
 | _::_,[]=>⟨Nat.zero_le _,Nat.zero_le _,rfl⟩
 | x::a,y::b=>by
  by_cases h:x=y
  ·subst h;obtain ⟨h1,h2,h3⟩:=qj5 a b;rw [comL,if_pos rfl];exact ⟨by simpa using h1,by simpa using h2,by rw [List.take_succ_cons,List.take_succ_cons,h3]⟩
  ·rw [comL,if_neg h];exact ⟨Nat.zero_le _,Nat.zero_le _,rfl⟩
def entE (first:Bool) (ahead s:LB):LB:=
 if first then varL s.length++s else varL (comL ahead s)++(varL (s.length-comL ahead s)++s.drop (comL ahead s))
theorem qf {α:Type} (a b:List α):(a++b).drop a.length=b:=by simp
theorem qpq {first:Bool} {ahead s:LB} (r:LB) (hs:s.length≤262144) (ha:ahead.length≤262144):entG (entE first ahead s++r) first ahead=(s,(entE first ahead s).length,0):=by
 cases first with
 | true=>
  have e:entE true ahead s=varL s.length++s:=by rw [entE,if_pos rfl]
  rw [e,List.append_assoc];have h1:=qa2 (n:=s.length) Oo (s++r);unfold entG;rw [if_pos rfl];dsimp only;rw [if_neg Oo,List.drop_zero,h1];dsimp only;rw [if_neg Oo,if_neg Oo,if_neg Oo,if_neg (by simp only [zla];omega),Nat.zero_add,qf];simp
 | false=>
  have e:entE false ahead s=varL (comL ahead s)++(varL (s.length-comL ahead s)++s.drop (comL ahead s)):=by rw [entE,if_neg Od]
  obtain ⟨c1,c2,c3⟩:=qj5 ahead s;rw [e,List.append_assoc,List.append_assoc];have h1:=qa2 (n:=comL ahead s) Oo (varL (s.length-comL ahead s)++(s.drop (comL ahead s)++r));have h2:=qa2 (n:=s.length-comL ahead s) Oo (s.drop (comL ahead s)++r);unfold entG;rw [if_neg Bool.false_ne_true,h1];dsimp only;rw [if_neg Oo,qf,h2];dsimp only;rw [if_neg Oo,if_neg Oo,if_neg Oo,if_neg (by simp only [zla,zld];omega),c3,← List.drop_drop,qf,qf];refine Prod.ext ?_ (Prod.ext ?_ rfl)
  ·show s.take (comL ahead s)++((s.drop (comL ahead s))++r).take (s.length-comL ahead s)=s;rw [List.take_append_of_le_length (by rw [zld];omega),List.take_of_length_le (l:=s.drop (comL ahead s)) (by rw [zld];omega),List.take_append_drop]
  ·simp only [zla,zld];omega
def tx (L:List LB) (i:Nat):LB:=L.getD i []
def arL (L:List LB):Nat→LB
 | 0=>[]
 | i+1=>arL L i++entE (decide (i%16=0)) (if i=0 then [] else tx L (i-1)) (tx L i)
theorem qmu (L:List LB) {i:Nat}:∀ {n:Nat},i≤n→∃ r,arL L n=arL L i++r
 | 0,h=>⟨[],by rw [Nat.le_zero.1 h,List.append_nil]⟩
 | n+1,h=>by
  by_cases e:i=n+1
  ·exact ⟨[],by rw [e,List.append_nil]⟩
  ·obtain ⟨r,hr⟩:=qmu L (i:=i) (n:=n) Oo;exact ⟨r++_,by rw [arL,hr,List.append_assoc]⟩
theorem qtn (L:List LB) {i n:Nat} (h:i<n):∃ r,(arL L n).drop (arL L i).length=entE (decide (i%16=0)) (if i=0 then [] else tx L (i-1)) (tx L i)++r:=by
 obtain ⟨r,hr⟩:=qmu L (i:=i+1) (n:=n) h;refine ⟨r,?_⟩;rw [hr,arL,List.append_assoc,qf]
def byt (f:Nat→Nat) (b:Nat):Nat:=
 f (8*b)%2+2*(f (8*b+1)%2)+4*(f (8*b+2)%2)+8*(f (8*b+3)%2)+16*(f (8*b+4)%2)+32*(f (8*b+5)%2)+64*(f (8*b+6)%2)+128*(f (8*b+7)%2)
theorem qtx (f:Nat→Nat) (b:Nat):byt f b<256:=by unfold byt;omega
theorem q8a (f:Nat→Nat) (b:Nat):∀ {r:Nat},r<8→byt f b/2 ^ r%2=f (8*b+r)%2
 | 0,_=>by unfold byt;simp;omega
 | 1,_=>by unfold byt;simp;omega
 | 2,_=>by unfold byt;simp;omega
 | 3,_=>by unfold byt;simp;omega
 | 4,_=>by unfold byt;simp;omega
 | 5,_=>by unfold byt;simp;omega
 | 6,_=>by unfold byt;simp;omega
 | 7,_=>by unfold byt;simp;omega
 | _+8,h=>by omega
def qcb (f:Nat→Nat) (n:Nat):LB:=(List.range n).map fun b=>UInt8.ofNat (byt f b)
theorem qc9 (f:Nat→Nat) (n:Nat):(qcb f n).length=n:=by simp [qcb]
theorem q3d (f:Nat→Nat) {n b:Nat} (h:b<n):((qcb f n).getD b 0).toNat=byt f b:=by
 rw [List.getD_eq_getElem?_getD,qcb,List.getElem?_map,List.getElem?_range h];exact qaw (qtx f b)
theorem qgs (f:Nat→Nat) {n t:Nat} (h:t<8*n):bitN (qcb f n) t=f t%2:=by
 rw [bitN,q3d f Oo,q8a f _ Oo]
 congr 2;omega
def qcs (l:List Nat) (w:Nat):LB:=qcb (fun t=>l.getD (t/w) 0/2 ^ (t%w)) ((l.length*w+7)/8)
theorem qay (l:List Nat) (w:Nat):(qcs l w).length=(l.length*w+7)/8:=qc9 _ _
theorem qp9 {l:List Nat} {w i k:Nat} (hi:i<l.length) (hk:k<w):bitN (qcs l w) (i*w+k)=l.getD i 0/2 ^ k%2:=by
 have h1:(i+1)*w≤l.length*w:=Nat.mul_le_mul_right _ hi;rw [Nat.add_mul] at h1;have e1:(i*w+k)/w=i:=by rw [Nat.mul_comm,Nat.mul_add_div Oo,Nat.div_eq_of_lt hk,Nat.add_zero]
 have e2:(i*w+k)%w=k:=by rw [Nat.mul_comm,Nat.mul_add_mod,Nat.mod_eq_of_lt hk]
 rw [qcs,qgs _ Oo];show _/2 ^ _%2=_;rw [e1,e2]
theorem qma {l:List Nat} {w i:Nat} (hi:i<l.length):∀ {k:Nat},k≤w→valB (qcs l w) (i*w) k=l.getD i 0%2 ^ k
 | 0,_=>by rw [valB,Nat.pow_zero,Nat.mod_one]
 | k+1,h=>by
  rw [valB,qma hi Oo,qp9 hi Oo,Nat.mod_pow_succ,Nat.mul_comm (2 ^ k)]
theorem qkv {l:List Nat} {w i:Nat} (hi:i<l.length) (h:l.getD i 0<2 ^ w):valB (qcs l w) (i*w) w=l.getD i 0:=by
 rw [qma hi znr,Nat.mod_eq_of_lt h]
theorem qku (l:List Nat) (w:Nat):¬ PadB (qcs l w) (l.length*w):=by
 rintro ⟨t,h1,h2,h3⟩;rw [qay] at h2;rw [qcs,qgs _ h2] at h3;have hw:0<w:=by
  rcases Nat.eq_zero_or_pos w with e|e
  ·subst e;simp at h2
  ·exact e
 have:l.length≤t/w:=(Nat.le_div_iff_mul_le hw).2 h1;rw [List.getD_eq_getElem?_getD,List.getElem?_eq_none this] at h3;simp at h3
theorem qnn:∀ {n:Nat},n<18446744073709551616→n<2 ^ qai n:=by
 intro n
 induction n using Nat.strongRecOn with
 | _ n ih=>
  intro h
  by_cases h0:n=0
  ·subst h0;decide
  ·have:=ih (n/2) Oo Oo;rw [qf5 n h0 h,Nat.add_comm,Nat.pow_succ];omega
def plcL (L:List LB):List Nat:=(List.range (upN L.length 16)).map fun k=>(arL L (16*k)).length
def qal (L:List LB):LB:=arL L L.length
def qn (L:List LB):LB:=varL L.length++(varL (qal L).length++(qcs (plcL L) (qai (qal L).length)++qal L))
structure DOk (L:List LB):Prop where
 n:L.length≤4194304
 len:∀ i,(tx L i).length≤262144
 rise:∀ i,i+1<L.length→leL (tx L (i+1)) (tx L i)=false
 area:(qal L).length≤67108864
theorem qfy (L:List LB):(plcL L).length=upN L.length 16:=by simp [plcL]
theorem q06 {L:List LB} {k:Nat} (h:k<upN L.length 16):(plcL L).getD k 0=(arL L (16*k)).length:=by
 rw [List.getD_eq_getElem?_getD,plcL,List.getElem?_map,List.getElem?_range h];rfl
section
variable {L:List LB} (h:DOk L)
include h
theorem DOk.num0:numL (qn L)=(L.length,(varL L.length).length,0):=qa2 (by have:=h.n;omega) _
theorem DOk.vAt1:vAt (qn L) 1=(varL L.length).length:=by rw [vAt,vAt,List.drop_zero,h.num0,Nat.zero_add]
theorem DOk.drop1:(qn L).drop (varL L.length).length=varL (qal L).length++(qcs (plcL L) (qai (qal L).length)++qal L):=have _h:=h;qf _ _
theorem DOk.num1:numL ((qn L).drop (vAt (qn L) 1))=((qal L).length,(varL (qal L).length).length,0):=by
 rw [h.vAt1,h.drop1];exact qa2 (by have:=h.area;omega) _
theorem DOk.eN:dN (qn L)=L.length:=by rw [dN,vNum,vAt,List.drop_zero,h.num0]
theorem DOk.eSize:qgy (qn L)=(qal L).length:=by rw [qgy,vNum,h.num1]
theorem DOk.eThird:qa8 (qn L)=(varL L.length).length+(varL (qal L).length).length:=by rw [qa8,vAt,h.num1,h.vAt1]
theorem DOk.eFourth:qj (qn L)=(varL L.length).length+(varL (qal L).length).length+(qcs (plcL L) (qai (qal L).length)).length:=by
 rw [qj,h.eThird,h.eN,dW,h.eSize,qay,qfy]
theorem DOk.eEntries:qa (qn L)=qal L:=by
 rw [qa,h.eFourth,← List.drop_drop,← List.drop_drop,h.drop1,qf,qf]
theorem DOk.ePlaces:qq (qn L)=qcs (plcL L) (qai (qal L).length):=by
 rw [qq,h.eFourth,h.eThird,← List.drop_drop,h.drop1,qf,Nat.add_sub_cancel_left,List.take_append_of_le_length znr,List.take_length]
theorem DOk.len_eq:(qn L).length=(varL L.length).length+(varL (qal L).length).length+(qcs (plcL L) (qai (qal L).length)).length+(qal L).length:=by
 have _h:=h
 rw [qn];simp only [zla];omega
theorem DOk.eE:(dE (qn L)).2=0:=by
 have h2:(errF (dhF (qn L)) 2).2=0:=qag fun k hk=>by
  have hn:=h.n;have ha:=h.area
  match k,hk with
  | 0,_=>rw [dhF,if_pos rfl,qcw (by rw [vAt,List.drop_zero,h.num0]) (by rw [show vNum (qn L) 0=_ from h.eN];exact hn)]
  | 1,_=>rw [dhF,if_neg Od,qcw (by rw [h.num1]) (by rw [show vNum (qn L) 1=_ from h.eSize];exact ha)]
 rw [dE,if_neg Oo,dEnd,h.eFourth,h.eSize,h.len_eq,if_neg Oo,if_neg Oo]
theorem DOk.ePlace {k:Nat} (hk:k<upN L.length 16):qy (qn L) k=(arL L (16*k)).length:=by
 have ha:=h.area;have hn:16*k≤L.length:=by unfold upN at hk;omega
 obtain ⟨r,hr⟩:=qmu L hn;have hl:(arL L (16*k)).length≤(qal L).length:=by rw [qal,hr,zla];omega
 rw [qy,h.ePlaces,dW,h.eSize,qkv (by rw [qfy];exact hk),q06 hk];rw [q06 hk];exact Nat.lt_of_le_of_lt hl (qnn Oo)
theorem DOk.eSt:∀ {i:Nat},i≤L.length→dSt (qn L) i=(if i=0 then [] else tx L (i-1),(arL L i).length)
 | 0,_=>by rw [dSt,if_pos rfl];rfl
 | i+1,hi=>by
  have ih:=DOk.eSt (i:=i) Oo;obtain ⟨r,hr⟩:=qtn L (i:=i) (n:=L.length) hi;have ha:(if i=0 then [] else tx L (i-1)).length≤262144:=by split;exact Nat.zero_le _;exact h.len _
  rw [qeg ih rfl,h.eEntries,qal,hr,qpq r (h.len i) ha,arL,zla,if_neg (Nat.succ_ne_zero i),Nat.add_sub_cancel]
theorem DOk.ent {i:Nat} (hi:i<L.length):∃ r,(qa (qn L)).drop (dSt (qn L) i).2=entE (decide (i%16=0)) (dSt (qn L) i).1 (tx L i)++r:=by
 obtain ⟨r,hr⟩:=qtn L (i:=i) (n:=L.length) hi;refine ⟨r,?_⟩;rw [h.eSt Oo,h.eEntries];exact hr
theorem DOk.enF {i:Nat} (hi:i<L.length):(dnF (qn L) i).2=0:=by
 obtain ⟨r,hr⟩:=h.ent hi;have hl:(dSt (qn L) i).1.length≤262144:=by rw [h.eSt Oo];show (if _ then _ else _:LB).length≤_;split;exact Nat.zero_le _;exact h.len _
 have hE:=qpq (first:=decide (i%16=0)) r (h.len i) hl;have hs1:(dSt (qn L) (i+1)).1=tx L i:=by rw [h.eSt Oo,if_neg (Nat.succ_ne_zero i),Nat.add_sub_cancel]
 rw [dnF,hr,hE,hs1];rw [if_neg (fun g=>g.2 (by rw [h.ePlace (by unfold upN;omega),h.eSt Oo,show 16*(i/16)=i by omega]))];rw [if_neg Js];rw [if_neg (fun g=>by
  have:=h.rise (i-1) Oo;rw [show i-1+1=i by omega] at this;rw [h.eSt Oo,if_neg Oo] at g;exact absurd (g.2.symm.trans this) Od)]
 rw [if_neg (fun g=>g.2 (by
  rw [entE,if_neg (by simpa using g.1),List.append_assoc,qa2 (by have:=(qj5 (dSt (qn L) i).1 (tx L i)).1;omega),qgw]))]
theorem DOk.eoE:doE (qn L)=(0,0):=by
 refine q6q h.eE ?_ (fun j hj=>h.enF (by rw [← h.eN];exact hj)) ?_
 ·refine Classical.byContradiction fun g=>?_;have:=(qkr _ _ _).1 g;rw [h.ePlaces,h.eN,dW,h.eSize,← qfy] at this;exact qku _ _ this
 ·rw [h.eN,h.eSt znr,h.eEntries];exact Nat.lt_irrefl _
theorem DOk.eGet {i:Nat} (hi:i<L.length):dGet (qn L) i=some (tx L i):=by
 have h1:=(qge (m:=qn L) (i:=i+1) fun k hk=>h.enF Oo).2 Oo (by rw [h.eN];omega);rw [Nat.add_sub_cancel,h.eSt Oo,if_neg Oo,Nat.add_sub_cancel] at h1;exact h1
end
def jo3 (a b c:LB):LB:=varL a.length++(varL b.length++(varL c.length++(a++(b++c))))
section
variable {a b c:LB} (h:a.length+b.length+c.length≤67108864)
include h
theorem qzu:numL (jo3 a b c)=(a.length,(varL a.length).length,0):=qa2 Oo _
theorem q6w:vAt (jo3 a b c) 1=(varL a.length).length:=by rw [vAt,vAt,List.drop_zero,qzu h,Nat.zero_add]
theorem qzv:numL ((jo3 a b c).drop (vAt (jo3 a b c) 1))=(b.length,(varL b.length).length,0):=by
 rw [q6w h,jo3,qf];exact qa2 Oo _
theorem q6x:vAt (jo3 a b c) 2=(varL a.length).length+(varL b.length).length:=by rw [vAt,qzv h,q6w h]
theorem qzw:numL ((jo3 a b c).drop (vAt (jo3 a b c) 2))=(c.length,(varL c.length).length,0):=by
 rw [q6x h,jo3,← List.drop_drop,qf,qf];exact qa2 Oo _
theorem q6y:vAt (jo3 a b c) 3=(varL a.length).length+(varL b.length).length+(varL c.length).length:=by rw [vAt,qzw h,q6x h]
theorem qzx:vNum (jo3 a b c) 0=a.length:=by rw [vNum,vAt,List.drop_zero,qzu h]
theorem qzy:vNum (jo3 a b c) 1=b.length:=by rw [vNum,qzv h]
theorem qzz:vNum (jo3 a b c) 2=c.length:=by rw [vNum,qzw h]
theorem q60:ql (jo3 a b c) 1=vAt (jo3 a b c) 3+a.length:=by rw [ql,ql,qzx h]
theorem q61:ql (jo3 a b c) 2=vAt (jo3 a b c) 3+a.length+b.length:=by rw [ql,q60 h,qzy h]
theorem qab4:ql (jo3 a b c) 3=vAt (jo3 a b c) 3+a.length+b.length+c.length:=by rw [ql,q61 h,qzz h]
theorem qnj:(jo3 a b c).drop (vAt (jo3 a b c) 3)=a++(b++c):=by
 rw [q6y h,jo3,← List.drop_drop,← List.drop_drop,qf,qf,qf]
theorem q81:(jo3 a b c).length=vAt (jo3 a b c) 3+a.length+b.length+c.length:=by
 rw [q6y h,jo3];simp only [zla];omega
theorem qab5:(sE (jo3 a b c)).2=0:=by
 have h2:(errF (vsF (jo3 a b c)) 3).2=0:=qag fun k hk=>by
  match k,hk with
  | 0,_=>rw [vsF,qcw (by rw [vAt,List.drop_zero,qzu h]) (by rw [qzx h];omega)]
  | 1,_=>rw [vsF,qcw (by rw [qzv h]) (by rw [qzy h];omega)]
  | 2,_=>rw [vsF,qcw (by rw [qzw h]) (by rw [qzz h];omega)]
 rw [sE,if_neg Oo,qab4 h,q81 h,if_neg (Nat.lt_irrefl _),if_neg (Nat.lt_irrefl _)]
theorem qab1:sDict (jo3 a b c) 0=a:=by
 rw [sDict,ql,qnj h,qzx h,List.take_left]
theorem qab2:sDict (jo3 a b c) 1=b:=by
 rw [sDict,q60 h,← List.drop_drop,qnj h,qf,qzy h,List.take_left]
theorem qab3:sDict (jo3 a b c) 2=c:=by
 rw [sDict,q61 h,← List.drop_drop,← List.drop_drop,qnj h,qf,qf,qzz h,List.take_length]
end
def secE (T:List TM) (k:Nat):List LB:=(T.filter fun t=>decide (t.kind=((k+1:Nat):Int))).map qab
def vocB (T:List TM):LB:=jo3 (qn (secE T 0)) (qn (secE T 1)) (qn (secE T 2))
structure VOk (T:List TM):Prop where
 d:∀ k,k<3→DOk (secE T k)
 size:(qn (secE T 0)).length+(qn (secE T 1)).length+(qn (secE T 2)).length≤67108864
section
variable {T:List TM} (h:VOk T)
include h
theorem VOk.sDict {k:Nat} (hk:k<3):sDict (vocB T) k=qn (secE T k):=
 match k,hk with
 | 0,_=>qab1 h.size
 | 1,_=>qab2 h.size
 | 2,_=>qab3 h.size
theorem VOk.sE:(sE (vocB T)).2=0:=qab5 h.size
theorem VOk.doE {k:Nat} (hk:k<3):(doE (Go.Proofs.YtkienlambankeaaGreatDoor.sDict (vocB T) k)).2=0:=by rw [h.sDict hk,(h.d k hk).eoE]
theorem VOk.dN {k:Nat} (hk:k<3):dN (Go.Proofs.YtkienlambankeaaGreatDoor.sDict (vocB T) k)=(secE T k).length:=by rw [h.sDict hk,(h.d k hk).eN]
theorem VOk.get {k j:Nat} (hk:k<3) (hj:j<(secE T k).length):dGet (Go.Proofs.YtkienlambankeaaGreatDoor.sDict (vocB T) k) j=some (tx (secE T k) j):=by rw [h.sDict hk,(h.d k hk).eGet hj]
theorem VOk.wE:(wE (vocB T)).2=0:=by
 rw [Go.Proofs.YtkienlambankeaaGreatDoor.wE,if_neg (by rw [h.sE];exact fun g=>g rfl)];exact qag fun k hk=>by rw [sdF,if_pos (qc1 (h.doE hk)).1]
theorem VOk.vwE (ht:∀ t∈T,qba t=0):(vwE (vocB T)).2=0:=by
 refine q7v h.sE (fun k hk=>h.doE hk) fun k hk=>q7u fun j hj hb=>?_;rw [h.dN hk] at hj;obtain ⟨s,hs,hn⟩:=hb;rw [h.get hk hj] at hs;cases hs;have hj':j<(T.filter fun t=>decide (t.kind=((k+1:Nat):Int))).length:=by simpa [secE] using hj
 have hm:=List.getElem_mem hj';have hm2:=List.mem_filter.1 hm;refine hn _ ⟨by simpa using hm2.2,ht _ hm2.1,?_⟩;rw [tx,List.getD_eq_getElem?_getD,secE,List.getElem?_map,zge hj'];rfl
end
section
variable {d:LB} {n:Nat} (hn:n≤67108864) (hd:d.length=upN n 8)
include hn
theorem qbh:vN (q6 d n)=n:=by
 have e:(q6 d n).take 4=fixL n 4:=by
  simp only [q6,List.append_assoc];rw [List.take_append_of_le_length (by rw [qm];omega),List.take_of_length_le (by rw [qm];omega)]
 rw [vN,e,qdw,Nat.mod_eq_of_lt (by show n<4294967296;omega)]
theorem qey:vM (q6 d n)=cnt d n:=by
 have hc:=qe1 d n;have e:((q6 d n).drop 4).take 4=fixL (cnt d n) 4:=by
  simp only [q6,List.append_assoc];have:=qf (fixL n 4) (fixL (cnt d n) 4++(d++(gL d n++(sL d n++mL d n))));rw [qm] at this;rw [this,List.take_append_of_le_length (by rw [qm];omega),List.take_of_length_le (by rw [qm];omega)]
 rw [vM,e,qdw,Nat.mod_eq_of_lt (by show cnt d n<4294967296;omega)]
include hd
theorem qcp:vD (q6 d n)=d:=by
 rw [vD,qbh hn];have e:(q6 d n).drop 8=d++(gL d n++(sL d n++mL d n)):=by
  simp only [q6,List.append_assoc];have:=qf (fixL n 4++fixL (cnt d n) 4) (d++(gL d n++(sL d n++mL d n)));rw [zla,qm,qm,List.append_assoc] at this;exact this
 rw [e,← hd,List.take_left]
theorem qlk:vOk (q6 d n)=true:=by
 have hl:=qdj d n;have hc:=qe1 d n;simp only [vOk,Bool.and_eq_true,decide_eq_true_eq,qbh hn,qey hn];refine ⟨⟨⟨by omega,hn⟩,hc⟩,?_⟩;rw [hl,hd];unfold qak qaa qr qh;omega
theorem q6a (hp:¬ PadB d n):voE (q6 d n)=(0,0):=by
 refine q7t ?_ ?_ ?_
 ·rw [qcp hn hd,qbh hn];exact hp
 ·rw [qcp hn hd,qbh hn,qey hn]
 ·intro j _ _;rw [qcp hn hd,qbh hn]
end
def frU (Q:Nat→Nat→Nat) (i:Nat):Nat→Bool
 | 0=>i==0||Q i 0 != Q (i-1) 0
 | k+1=>frU Q i k||Q i (k+1) != Q (i-1) (k+1)
theorem qek (Q:Nat→Nat→Nat):∀ k,frU Q 0 k=true
 | 0=>rfl
 | k+1=>by rw [frU,qek Q k];rfl
theorem qzk {Q:Nat→Nat→Nat} {i k:Nat} (h:frU Q i k=true):∀ {m:Nat},k≤m→frU Q i m=true
 | 0,hm=>by rwa [Nat.le_zero.1 hm] at h
 | m+1,hm=>by
  by_cases e:k=m+1
  ·rwa [e] at h
  ·rw [frU,qzk h (m:=m) Oo];rfl
theorem qfx {Q:Nat→Nat→Nat} {i:Nat}:∀ {k:Nat},frU Q i k=false→0<i∧∀ j,j≤k→Q i j=Q (i-1) j
 | 0,h=>by
  simp only [frU,Bool.or_eq_false_iff,beq_eq_false_iff_ne,bne_eq_false_iff_eq] at h;exact ⟨by omega,fun j hj=>by rw [Nat.le_zero.1 hj];exact h.2⟩
 | k+1,h=>by
  simp only [frU,Bool.or_eq_false_iff,bne_eq_false_iff_eq] at h;obtain ⟨h1,h2⟩:=qfx h.1;refine ⟨h1,fun j hj=>?_⟩
  by_cases e:j=k+1
  ·rw [e];exact h.2
  ·exact h2 j Oo
theorem quh {Q:Nat→Nat→Nat} {i:Nat} (h0:0<i):∀ {k:Nat},(∀ j,j≤k→Q i j=Q (i-1) j)→frU Q i k=false
 | 0,h=>by simp only [frU,Bool.or_eq_false_iff,beq_eq_false_iff_ne,bne_eq_false_iff_eq];exact ⟨by omega,h 0 znr⟩
 | k+1,h=>by
  rw [frU,quh h0 fun j hj=>h j Oo];simp only [Bool.false_or,bne_eq_false_iff_eq];exact h (k+1) znr
def nuT (Q:Nat→Nat→Nat) (k:Nat):Nat→List Nat
 | 0=>[]
 | i+1=>if frU Q i k=true then nuT Q k i++[Q i k] else nuT Q k i
def stT (Q:Nat→Nat→Nat) (k:Nat):Nat→List Bool
 | 0=>[]
 | i+1=>if frU Q i (k+1)=true then stT Q k i++[frU Q i k] else stT Q k i
def leT (Q:Nat→Nat→Nat) (k i:Nat):Nat:=(nuT Q k i).length
section
variable {Q:Nat→Nat→Nat}
theorem qa7 {k i:Nat} (h:frU Q i k=true):leT Q k (i+1)=leT Q k i+1:=by rw [leT,nuT,if_pos h];simp [leT]
theorem qbv {k i:Nat} (h:frU Q i k=false):leT Q k (i+1)=leT Q k i:=by rw [leT,nuT,if_neg (by rw [h];decide)];rfl
theorem qup (k:Nat):∀ i,leT Q k i≤i
 | 0=>Nat.le_refl _
 | i+1=>by
  have:=qup k i;cases h:frU Q i k with
  | true=>rw [qa7 h];omega
  | false=>rw [qbv h];omega
theorem qif (k:Nat) {i:Nat} (h:0<i):0<leT Q k i:=by
 induction i with
 | zero=>omega
 | succ i ih=>
  by_cases e:i=0
  ·subst e;rw [qa7 (qek Q k)];omega
  ·have:=ih Oo;cases h:frU Q i k with
   | true=>rw [qa7 h];omega
   | false=>rw [qbv h];omega
theorem qg6 (k:Nat) {a:Nat}:∀ {b:Nat},a≤b→leT Q k a≤leT Q k b
 | 0,h=>by rw [Nat.le_zero.1 h];exact Nat.le_refl _
 | b+1,h=>by
  by_cases e:a=b+1
  ·rw [e];exact Nat.le_refl _
  ·have:=qg6 k (a:=a) (b:=b) Oo;cases h:frU Q b k with
   | true=>rw [qa7 h];omega
   | false=>rw [qbv h];omega
theorem quq (k:Nat):∀ i,leT Q k i≤leT Q (k+1) i
 | 0=>Nat.le_refl _
 | i+1=>by
  have:=quq k i;cases h:frU Q i k with
  | true=>rw [qa7 h,qa7 (qzk h (m:=k+1) (Nat.le_succ k))];omega
  | false=>
   rw [qbv h];cases h2:frU Q i (k+1) with
   | true=>rw [qa7 h2];omega
   | false=>rw [qbv h2];omega
theorem qbs (k:Nat):∀ i,(stT Q k i).length=leT Q (k+1) i
 | 0=>rfl
 | i+1=>by
  have:=qbs k i;cases h:frU Q i (k+1) with
  | true=>rw [qa7 h,stT,if_pos h];simp [this]
  | false=>rw [qbv h,stT,if_neg (by rw [h];decide),this]
theorem qk9 (k:Nat):∀ i,(stT Q k i).count true=leT Q k i
 | 0=>rfl
 | i+1=>by
  have:=qk9 k i;cases h:frU Q i (k+1) with
  | true=>
   rw [stT,if_pos h,List.count_append,this];cases h2:frU Q i k with
   | true=>rw [qa7 h2];rfl
   | false=>rw [qbv h2];rfl
  | false=>
   have h2:frU Q i k=false:=by
    cases h2:frU Q i k with
    | true=>rw [qzk h2 (m:=k+1) (Nat.le_succ k)] at h;cases h
    | false=>rfl
   rw [qbv h2,stT,if_neg (by rw [h];decide),this]
theorem ql8 (k:Nat):∀ {i n:Nat},i<n→(nuT Q k n).getD (leT Q k (i+1)-1) 0=Q i k
 | i,0,h=>by omega
 | i,n+1,h=>by
  by_cases e:i=n
  ·subst e;cases h2:frU Q i k with
   | true=>
    rw [qa7 h2,Nat.add_sub_cancel,nuT,if_pos h2,List.getD_eq_getElem?_getD];simp [leT]
   | false=>
    have h3:=qfx h2;have h4:=ql8 k (i:=i-1) (n:=i) Oo;rw [qbv h2,nuT,if_neg (by rw [h2];decide)];rw [Nat.sub_add_cancel Oo] at h4;rw [h4];exact (h3.2 k znr).symm
  ·have h4:=ql8 k (i:=i) (n:=n) Oo;have h5:=qg6 (Q:=Q) k (a:=i+1) (b:=n) Oo;have h6:=qif (Q:=Q) k (i:=i+1) Oo;cases h2:frU Q n k with
   | true=>
    rw [nuT,if_pos h2,List.getD_eq_getElem?_getD,List.getElem?_append_left (by show _<leT Q k n;omega),← List.getD_eq_getElem?_getD];exact h4
   | false=>rw [nuT,if_neg (by rw [h2];decide)];exact h4
end
def laT (S:List Bool) (t:Nat):Nat:=if t+1=S.length then 1 else if S.getD (t+1) false=true then 1 else 0
def qav (S:List Bool):LB:=qcb (laT S) (upN S.length 8)
theorem qab7 (S:List Bool) (t:Nat):laT S t%2=laT S t:=by
 unfold laT
 split
 ·rfl
 ·split<;>rfl
theorem qbk (S:List Bool):(qav S).length=upN S.length 8:=qc9 _ _
theorem qg5 {S:List Bool} {t:Nat} (h:t<S.length):bitN (qav S) t=laT S t:=by
 rw [qav,qgs _ (by unfold upN;omega),qab7]
theorem qkg (S:List Bool):¬ PadB (qav S) S.length:=by
 rintro ⟨t,h1,h2,h3⟩;rw [qbk] at h2;rw [qav,qgs _ h2,laT,if_neg Oo,List.getD_eq_getElem?_getD,List.getElem?_eq_none Oo] at h3;cases h3
theorem qmk (S:List Bool) {e:Nat} (h:e<S.length):(S.take (e+1)).count true=(S.take e).count true+(if S.getD e false=true then 1 else 0):=by
 rw [List.take_succ_eq_append_getElem h,List.count_append,List.getD_eq_getElem?_getD,zge h];cases S[e]<;>rfl
theorem qkf {S:List Bool} (h0:S.getD 0 false=true):∀ {e:Nat},e<S.length→cnt (qav S) e+1=(S.take (e+1)).count true
 | 0,h=>by rw [qmk S h,h0];rfl
 | e+1,h=>by
  have ih:=qkf h0 (e:=e) Oo;rw [cnt,qmk S h,qg5 Oo,laT,if_neg Oo];omega
theorem qz5 {S:List Bool} (h0:S.getD 0 false=true) (hl:0<S.length):cnt (qav S) S.length=S.count true:=by
 have h1:=qkf h0 (e:=S.length-1) Oo;obtain ⟨m,hm⟩:∃ m,S.length=m+1:=⟨S.length-1,by omega⟩
 rw [hm,Nat.add_sub_cancel] at h1;rw [← hm,List.take_length] at h1;rw [hm,cnt,qg5 Oo,laT,if_pos hm.symm];exact h1
theorem qoe (Q:Nat→Nat→Nat) (k:Nat) {a:Nat}:∀ {b:Nat},a≤b→∃ r,stT Q k b=stT Q k a++r
 | 0,h=>⟨[],by rw [Nat.le_zero.1 h,List.append_nil]⟩
 | b+1,h=>by
  by_cases e:a=b+1
  ·exact ⟨[],by rw [e,List.append_nil]⟩
  ·obtain ⟨r,hr⟩:=qoe Q k (a:=a) (b:=b) Oo;cases h2:frU Q b (k+1) with
   | true=>exact ⟨r++_,by rw [stT,if_pos h2,hr,List.append_assoc]⟩
   | false=>exact ⟨r,by rw [stT,if_neg (by rw [h2];decide),hr]⟩
theorem qvi (Q:Nat→Nat→Nat) (k:Nat) {n:Nat} (h:0<n):(stT Q k n).getD 0 false=true:=by
 obtain ⟨r,hr⟩:=qoe Q k (a:=1) (b:=n) h;rw [hr,stT,if_pos (qek Q (k+1)),qek Q k];rfl
theorem q12 (Q:Nat→Nat→Nat) (k:Nat) {i n:Nat} (h:i<n):cnt (qav (stT Q k n)) (leT Q (k+1) (i+1)-1)=leT Q k (i+1)-1:=by
 have h1:=qif (Q:=Q) (k+1) (i:=i+1) Oo;have h2:=qg6 (Q:=Q) (k+1) (a:=i+1) (b:=n) h;have h3:=qkf (S:=stT Q k n) (qvi Q k Oo) (e:=leT Q (k+1) (i+1)-1) (by rw [qbs];omega);obtain ⟨r,hr⟩:=qoe Q k (a:=i+1) (b:=n) h;rw [Nat.sub_add_cancel h1] at h3;have h4:(stT Q k n).take (leT Q (k+1) (i+1))=stT Q k (i+1):=by
  rw [hr,← qbs,List.take_left]
 rw [h4,qk9] at h3;omega
def wiT (l:List Nat):Nat:=wMx l l.length
def lvB (Q:Nat→Nat→Nat) (n k:Nat):LB:=
 UInt8.ofNat (wiT (nuT Q k n))::(qcs (nuT Q k n) (wiT (nuT Q k n))++(if k=0 then [] else q6 (qav (stT Q (k-1) n)) (leT Q k n)))
def tlB (Q:Nat→Nat→Nat) (n:Nat):Nat→LB
 | 0=>[]
 | j+1=>lvB Q n (3-j)++tlB Q n j
def qt (Q:Nat→Nat→Nat) (n:Nat):LB:=
 varL (leT Q 0 n)++(varL (leT Q 1 n)++(varL (leT Q 2 n)++(varL (leT Q 3 n)++tlB Q n 4)))
structure TOk (Q:Nat→Nat→Nat) (n:Nat):Prop where
 nle:n≤1048576
 num:∀ i k,i<n→k<4→(k≠0→1≤Q i k)∧Q i k≤4194304
 rise:∀ i,0<i→i<n→∃ k,k<4∧(∀ j,j<k→Q i j=Q (i-1) j)∧Q (i-1) k<Q i k
theorem q7x {l:List Nat} {m:Nat} (h:∀ x∈l,qai x≤m):∀ i,wMx l i≤m
 | 0=>Nat.zero_le _
 | i+1=>by
  have ih:=q7x h i;rw [wMx]
  by_cases hi:i<l.length
  ·have:=h (l.getD i 0) (by rw [List.getD_eq_getElem?_getD,zge hi];exact List.getElem_mem hi);omega
  ·rw [List.getD_eq_getElem?_getD,List.getElem?_eq_none Oo];have:qai (Option.getD (none:Option Nat) 0)=0:=qeb;omega
theorem q7w (l:List Nat) {i:Nat}:∀ {n:Nat},i<n→qai (l.getD i 0)≤wMx l n
 | 0,h=>by omega
 | n+1,h=>by
  rw [wMx]
  by_cases e:i=n
  ·subst e;omega
  ·have:=q7w l (i:=i) (n:=n) Oo;omega
theorem qil {Q:Nat→Nat→Nat} {k x:Nat}:∀ {n:Nat},x∈nuT Q k n→∃ i,i<n∧Q i k=x
 | 0,h=>by cases h
 | n+1,h=>by
  rw [nuT] at h
  split at h
  ·rcases List.mem_append.1 h with h|h
   ·obtain ⟨i,h1,h2⟩:=qil h;exact ⟨i,by omega,h2⟩
   ·exact ⟨n,by omega,(List.mem_singleton.1 h).symm⟩
  ·obtain ⟨i,h1,h2⟩:=qil h;exact ⟨i,by omega,h2⟩
section
variable {Q:Nat→Nat→Nat} {n:Nat} (h:TOk Q n)
include h
theorem TOk.wi {k:Nat} (hk:k<4):wiT (nuT Q k n)≤23:=q7x (fun x hx=>by
 obtain ⟨i,h1,rfl⟩:=qil hx;exact qf6 23 _ (by have:=(h.num i k h1 hk).2;omega) Od) _
theorem TOk.le (k:Nat):leT Q k n≤1048576:=Nat.le_trans (qup k n) h.nle
theorem TOk.n0:numL (qt Q n)=(leT Q 0 n,(varL (leT Q 0 n)).length,0):=qa2 (by have:=h.le 0;omega) _
theorem TOk.a1:vAt (qt Q n) 1=(varL (leT Q 0 n)).length:=by rw [vAt,vAt,List.drop_zero,h.n0,Nat.zero_add]
theorem TOk.n1:numL ((qt Q n).drop (vAt (qt Q n) 1))=(leT Q 1 n,(varL (leT Q 1 n)).length,0):=by
 rw [h.a1,qt,qf];exact qa2 (by have:=h.le 1;omega) _
theorem TOk.a2:vAt (qt Q n) 2=(varL (leT Q 0 n)).length+(varL (leT Q 1 n)).length:=by rw [vAt,h.n1,h.a1]
theorem TOk.n2:numL ((qt Q n).drop (vAt (qt Q n) 2))=(leT Q 2 n,(varL (leT Q 2 n)).length,0):=by
 rw [h.a2,qt,← List.drop_drop,qf,qf];exact qa2 (by have:=h.le 2;omega) _
theorem TOk.a3:vAt (qt Q n) 3=(varL (leT Q 0 n)).length+(varL (leT Q 1 n)).length+(varL (leT Q 2 n)).length:=by rw [vAt,h.n2,h.a2]
theorem TOk.n3:numL ((qt Q n).drop (vAt (qt Q n) 3))=(leT Q 3 n,(varL (leT Q 3 n)).length,0):=by
 rw [h.a3,qt,← List.drop_drop,← List.drop_drop,qf,qf,qf];exact qa2 (by have:=h.le 3;omega) _
theorem TOk.a4:vAt (qt Q n) 4=(varL (leT Q 0 n)).length+(varL (leT Q 1 n)).length+(varL (leT Q 2 n)).length+(varL (leT Q 3 n)).length:=by rw [vAt,h.n3,h.a3]
theorem TOk.numOk {k:Nat} (hk:k<4):(numL ((qt Q n).drop (vAt (qt Q n) k))).2.2=0:=
 match k,hk with
 | 0,_=>by rw [vAt,List.drop_zero,h.n0]
 | 1,_=>by rw [h.n1]
 | 2,_=>by rw [h.n2]
 | 3,_=>by rw [h.n3]
theorem TOk.vNum {k:Nat} (hk:k<4):vNum (qt Q n) k=leT Q k n:=
 match k,hk with
 | 0,_=>by rw [Go.Proofs.YtkienlambankeaaGreatDoor.vNum,vAt,List.drop_zero,h.n0]
 | 1,_=>by rw [Go.Proofs.YtkienlambankeaaGreatDoor.vNum,h.n1]
 | 2,_=>by rw [Go.Proofs.YtkienlambankeaaGreatDoor.vNum,h.n2]
 | 3,_=>by rw [Go.Proofs.YtkienlambankeaaGreatDoor.vNum,h.n3]
theorem TOk.cnt {k:Nat}:cnt (qav (stT Q k n)) (leT Q (k+1) n)=leT Q k n:=by
 by_cases h0:n=0
 ·subst h0;rfl
 ·have hp:=qif (Q:=Q) (k+1) (i:=n) Oo;have:=qz5 (S:=stT Q k n) (qvi Q k Oo) (by rw [qbs];exact hp)
  rwa [qbs,qk9] at this
theorem TOk.lvLen {k:Nat}:(lvB Q n k).length=1+(leT Q k n*wiT (nuT Q k n)+7)/8+(if k=0 then 0 else qak (leT Q k n) (leT Q (k-1) n)):=by
 rw [lvB,List.length_cons,zla,qay];show (leT Q k n*_+7)/8+_+1=_
 by_cases e:k=0
 ·rw [if_pos e,if_pos e];simp;omega
 ·obtain ⟨m,rfl⟩:∃ m,k=m+1:=⟨k-1,by omega⟩
  rw [if_neg e,if_neg e,qdj,Nat.add_sub_cancel,h.cnt,qbk,qbs];unfold qak qaa qr qh;omega
theorem TOk.tail {k:Nat}:k≤4→(qt Q n).drop (tvAt (qt Q n) k)=tlB Q n (4-k):=by
 induction k with
 | zero=>
  intro _;rw [tvAt,h.a4,qt,← List.drop_drop,← List.drop_drop,← List.drop_drop,qf,qf,qf,qf]
 | succ k ih=>
  intro hk;have ih:=ih Oo;obtain ⟨j,hj⟩:∃ j,4-k=j+1:=⟨3-k,by omega⟩
  have hj3:3-j=k:=by omega
  rw [hj,tlB,hj3] at ih;have hw:=h.wi (k:=k) Oo;have e1:((qt Q n).getD (tvAt (qt Q n) k) 0).toNat=wiT (nuT Q k n):=by
   have:(qt Q n).getD (tvAt (qt Q n) k) 0=((qt Q n).drop (tvAt (qt Q n) k)).getD 0 0:=by rw [qe9,Nat.add_zero]
   rw [this,ih,lvB];exact qaw Oo
  have e2:tvAt (qt Q n) (k+1)=tvAt (qt Q n) k+(lvB Q n k).length:=by
   rw [tvAt,e1,h.vNum Oo,h.lvLen]
   by_cases e:k=0
   ·rw [if_pos e,if_pos e];omega
   ·rw [if_neg e,if_neg e,h.vNum (k:=k-1) Oo];omega
  rw [e2,← List.drop_drop,ih,qf,show 4-(k+1)=j by omega]
theorem TOk.tw {k:Nat} (hk:k<4):tw (qt Q n) k=wiT (nuT Q k n):=by
 have ih:=h.tail (k:=k) Oo;obtain ⟨j,hj⟩:∃ j,4-k=j+1:=⟨3-k,by omega⟩
 rw [hj,tlB,show 3-j=k by omega] at ih;have:(qt Q n).getD (tvAt (qt Q n) k) 0=((qt Q n).drop (tvAt (qt Q n) k)).getD 0 0:=by rw [qe9,Nat.add_zero]
 have hw:=h.wi hk;rw [Go.Proofs.YtkienlambankeaaGreatDoor.tw,this,ih,lvB];exact qaw Oo
theorem TOk.tEnd {k:Nat} (hk:k<4):tEnd (qt Q n) k=tvAt (qt Q n) k+1+(qcs (nuT Q k n) (wiT (nuT Q k n))).length:=by
 rw [Go.Proofs.YtkienlambankeaaGreatDoor.tEnd,h.tw hk,h.vNum hk,qay];rfl
theorem TOk.packed {k:Nat} (hk:k<4):qp (qt Q n) k=qcs (nuT Q k n) (wiT (nuT Q k n)):=by
 have ih:=h.tail (k:=k) Oo;obtain ⟨j,hj⟩:∃ j,4-k=j+1:=⟨3-k,by omega⟩
 rw [hj,tlB,show 3-j=k by omega] at ih;rw [qp,h.tEnd hk,Nat.add_sub_cancel_left,← List.drop_drop,ih,lvB,List.cons_append,List.drop_succ_cons,List.drop_zero,List.append_assoc,List.take_left]
theorem TOk.bytes {k:Nat} (hk:k<4) (h0:k≠0):qg (qt Q n) k=q6 (qav (stT Q (k-1) n)) (leT Q k n):=by
 have ih:=h.tail (k:=k) Oo;obtain ⟨j,hj⟩:∃ j,4-k=j+1:=⟨3-k,by omega⟩
 rw [hj,tlB,show 3-j=k by omega] at ih;obtain ⟨m,rfl⟩:∃ m,k=m+1:=⟨k-1,by omega⟩
 have hl:qak (leT Q (m+1) n) (leT Q m n)=(q6 (qav (stT Q m n)) (leT Q (m+1) n)).length:=by
  rw [qdj,h.cnt,qbk,qbs];unfold qak qaa qr qh;omega
 rw [qg,qbn,if_neg h0,h.vNum hk,h.vNum (k:=m+1-1) Oo,Nat.add_sub_cancel_left,Nat.add_sub_cancel,hl,h.tEnd hk,← List.drop_drop,← List.drop_drop,ih,lvB,List.cons_append,List.drop_succ_cons,List.drop_zero,List.append_assoc,qf,if_neg h0,Nat.add_sub_cancel,List.take_left]
end
theorem qpr (Q:Nat→Nat→Nat) (k:Nat) {e:Nat}:∀ {n:Nat},e<leT Q k n→∃ i,i<n∧frU Q i k=true∧leT Q k i=e
 | 0,h=>by cases h
 | n+1,h=>by
  cases h2:frU Q n k with
  | true=>
   rw [qa7 h2] at h
   by_cases e1:e=leT Q k n
   ·exact ⟨n,by omega,h2,e1.symm⟩
   ·obtain ⟨i,h3,h4,h5⟩:=qpr Q k (e:=e) (n:=n) Oo;exact ⟨i,by omega,h4,h5⟩
  | false=>
   rw [qbv h2] at h;obtain ⟨i,h3,h4,h5⟩:=qpr Q k h;exact ⟨i,by omega,h4,h5⟩
theorem q7i (Q:Nat→Nat→Nat) (k:Nat) {i n:Nat} (h:i<n) (hf:frU Q i (k+1)=true):(stT Q k n).getD (leT Q (k+1) i) false=frU Q i k:=by
 obtain ⟨r,hr⟩:=qoe Q k (a:=i+1) (b:=n) h;rw [hr,stT,if_pos hf,← qbs,List.append_assoc,List.getD_eq_getElem?_getD,List.getElem?_append_right znr,Nat.sub_self];rfl
theorem q0n {Q:Nat→Nat→Nat} {k n e:Nat} (h:∀ i,i<n→Q i k<18446744073709551616) (he:e<leT Q k n):(nuT Q k n).getD e 0<2 ^ wiT (nuT Q k n):=by
 have h1:=q7w (nuT Q k n) (i:=e) (n:=(nuT Q k n).length) he;have h2:(nuT Q k n).getD e 0∈nuT Q k n:=by
  rw [List.getD_eq_getElem?_getD,zge (show e<(nuT Q k n).length from he)];exact List.getElem_mem _
 obtain ⟨i,h3,h4⟩:=qil h2;have h5:=h i h3;rw [h4] at h5;exact Nat.lt_of_lt_of_le (qnn h5) (Nat.pow_le_pow_right Od h1)
section
variable {Q:Nat→Nat→Nat} {n:Nat} (h:TOk Q n)
include h
theorem TOk.big {k:Nat} (hk:k<4):∀ i,i<n→Q i k<18446744073709551616:=fun i hi=>by have:=(h.num i k hi hk).2;omega
theorem TOk.tX {k e:Nat} (hk:k<4) (he:e<leT Q k n):tX (qt Q n) k e=(nuT Q k n).getD e 0:=by
 rw [Go.Proofs.YtkienlambankeaaGreatDoor.tX,h.packed hk,h.tw hk];exact qkv he (q0n (h.big hk) he)
theorem TOk.len {k:Nat} (hk:k<4):tvAt (qt Q n) k<(qt Q n).length∧tvAt (qt Q n) (k+1)≤(qt Q n).length:=by
 have h1:=h.tail (k:=k) Oo;have h2:=h.tail (k:=k+1) Oo;obtain ⟨j,hj⟩:∃ j,4-k=j+1:=⟨3-k,by omega⟩
 rw [hj,tlB] at h1;rw [show 4-(k+1)=j by omega] at h2;have l1:=congrArg List.length h1;rw [zld,zla,show 3-j=k by omega,h.lvLen] at l1;refine ⟨by omega,?_⟩;rw [qbn,h.tEnd hk,qay];show tvAt (qt Q n) k+1+(leT Q k n*_+7)/8+_≤_
 by_cases e:k=0
 ·rw [if_pos e] at l1 ⊢;omega
 ·rw [if_neg e] at l1 ⊢;rw [h.vNum hk,h.vNum (k:=k-1) Oo];omega
theorem TOk.tE:(tE (qt Q n)).2=0:=by
 have h1:(errF (tcF (qt Q n)) 4).2=0:=qag fun k hk=>by
  have e0:numE (qt Q n) k 1048576=(0,0):=qcw (h.numOk hk) (by rw [h.vNum hk];exact h.le k);rw [tcF,if_neg (by rw [e0];exact fun g=>g rfl),if_neg];rintro ⟨g1,g2⟩;obtain ⟨m,rfl⟩:∃ m,k=m+1:=⟨k-1,by omega⟩
  rw [Nat.add_sub_cancel,h.vNum hk,h.vNum (k:=m) Oo] at g2;have g3:=quq (Q:=Q) m n
  rcases g2 with g2|g2
  ·omega
  ·refine g2 ⟨fun g4=>?_,fun g4=>by omega⟩
   by_cases e:n=0
   ·subst e;rfl
   ·have:=qif (Q:=Q) m (i:=n) Oo;omega
 have h2:(errF (tvF (qt Q n)) 4).2=0:=qag fun k hk=>by
  obtain ⟨g1,g2⟩:=h.len hk;have g3:=h.wi hk;rw [tvF,if_neg Oo,h.tw hk,if_neg Oo,if_neg Oo]
 have h3:=congrArg List.length (h.tail (k:=4) znr);rw [zld,Nat.sub_self,tlB,List.length_nil] at h3;rw [Go.Proofs.YtkienlambankeaaGreatDoor.tE,if_neg Oo,if_neg Oo,if_neg Oo]
theorem TOk.vec {k:Nat} (hk:k+1<4):vOk (qg (qt Q n) (k+1))=true∧vN (qg (qt Q n) (k+1))=leT Q (k+1) n∧vM (qg (qt Q n) (k+1))=leT Q k n∧
  vD (qg (qt Q n) (k+1))=qav (stT Q k n)∧voE (qg (qt Q n) (k+1))=(0,0):=by
 have hl:=h.le (k+1);have hn:leT Q (k+1) n≤67108864:=by omega
 have hd:(qav (stT Q k n)).length=upN (leT Q (k+1) n) 8:=by rw [qbk,qbs]
 have hp:¬ PadB (qav (stT Q k n)) (leT Q (k+1) n):=by rw [← qbs];exact qkg _
 rw [h.bytes hk Oo,Nat.add_sub_cancel];exact ⟨qlk hn hd,qbh hn,by rw [qey hn,h.cnt],qcp hn hd,q6a hn hd hp⟩
theorem TOk.bit {k e:Nat} (hk:k+1<4) (he:e<leT Q (k+1) n):bitN ((qg (qt Q n) (k+1)).drop 8) e=laT (stT Q k n) e:=by
 obtain ⟨_,h2,_,h4,_⟩:=h.vec hk;have h5:=congrArg (fun d=>bitN d e) h4;rw [vD,h2] at h5;have h6:=qgr ((qg (qt Q n) (k+1)).drop 8) (upN (leT Q (k+1) n) 8) e (by unfold upN;omega);rw [← h6];exact h5.trans (qg5 (by rw [qbs];exact he))
theorem TOk.vcE {k:Nat} (hk:k+1<4):vcE (qt Q n) (k+1)=(0,0):=by
 obtain ⟨h1,h2,h3,h4,h5⟩:=h.vec hk;refine q2s ?_ (by rw [h5]) fun g=>?_
 ·simp only [tVec,Bool.and_eq_true,decide_eq_true_eq];exact ⟨⟨h1,by rw [h2,h.vNum hk]⟩,by rw [h3,Nat.add_sub_cancel,h.vNum Oo]⟩
 ·rw [h.vNum hk] at g ⊢;rw [h.bit hk Oo,laT,if_pos (by rw [qbs];omega)]
theorem TOk.order {k e:Nat} (hk:k<4) (h0:0<e) (he:e<leT Q k n) (hs:k=0∨bitN ((qg (qt Q n) k).drop 8) (e-1)≠1):(nuT Q k n).getD (e-1) 0<(nuT Q k n).getD e 0:=by
 obtain ⟨i,h1,h2,h3⟩:=qpr Q k he;have hi:0<i:=by
  rcases Nat.eq_zero_or_pos i with e|e
  ·subst e;rw [← h3] at h0;exact (Nat.lt_irrefl 0 h0).elim
  ·exact e
 have g1:=ql8 (Q:=Q) k (i:=i) (n:=n) h1;rw [qa7 h2,Nat.add_sub_cancel,h3] at g1;have g2:=ql8 (Q:=Q) k (i:=i-1) (n:=n) Oo;rw [Nat.sub_add_cancel hi,h3] at g2;rw [g1,g2];obtain ⟨m,r1,r2,r3⟩:=h.rise i hi h1;have hm:k≤m:=by
  by_cases e0:k=0
  ·omega
  ·have hs:=hs.resolve_left e0;obtain ⟨p,rfl⟩:∃ p,k=p+1:=⟨k-1,by omega⟩
   rw [h.bit hk Oo,laT,qbs,if_neg Oo,Nat.sub_add_cancel h0,← h3,q7i Q p h1 h2] at hs;have hf:frU Q i p=false:=by
    cases hf:frU Q i p with
    | true=>rw [hf] at hs;exact absurd (if_pos rfl) hs
    | false=>rfl
   have h7:=(qfx hf).2;refine Classical.byContradiction fun g=>?_
   have:=h7 m Oo;omega
 by_cases hmk:m=k
 ·rw [← hmk];exact r3
 ·have:frU Q i k=false:=quh hi fun j hj=>r2 j Oo
  rw [this] at h2;cases h2
end
theorem q2g {l:List Nat} {w:Nat} (h:∀ i,i<l.length→l.getD i 0<2 ^ w):unpN (qcs l w) l.length w=l:=by
 apply List.ext_getElem
 ·simp [unpN]
 ·intro i h1 h2;simp only [unpN,List.getElem_map,List.getElem_range];rw [qkv h2 (h i h2),List.getD_eq_getElem?_getD,zge h2];rfl
section
variable {Q:Nat→Nat→Nat} {n:Nat} (h:TOk Q n)
include h
theorem TOk.lvE {k:Nat} (hk:k<4):(lvE (qt Q n) k).2=0:=by
 refine q64 ?_ ?_ ?_ ?_
 ·refine Classical.byContradiction fun g=>?_;have g1:=(qkr _ _ _).1 g;rw [h.packed hk,h.tw hk,h.vNum hk] at g1;exact qku _ _ g1
 ·rw [h.packed hk,h.tw hk,h.vNum hk,show leT Q k n=(nuT Q k n).length from rfl,q2g fun i hi=>q0n (h.big hk) hi];rfl
 ·by_cases e:k=0
  ·exact .inl e
  ·obtain ⟨m,rfl⟩:∃ m,k=m+1:=⟨k-1,by omega⟩
   exact .inr (by rw [h.vcE hk])
 ·intro e he;rw [h.vNum hk] at he;have hm:(nuT Q k n).getD e 0∈nuT Q k n:=by
   rw [List.getD_eq_getElem?_getD,zge (show e<(nuT Q k n).length from he)];exact List.getElem_mem _
  obtain ⟨i,h1,h2⟩:=qil hm;obtain ⟨h3,h4⟩:=h.num i k h1 hk;rw [h2] at h3 h4;rw [quz]
  ·rw [h.tX hk he];rintro (⟨g1,g2⟩|g1)
   ·have:=h3 g1;omega
   ·omega
  ·rintro ⟨g1,g2,g3⟩;rw [h.tX hk he,h.tX hk Oo] at g3;have:=h.order hk g1 he g2;omega
theorem TOk.toE:(toE (qt Q n)).2=0:=q7j h.tE fun _ hk=>h.lvE hk
theorem TOk.fresh {i:Nat} (hi:i<n):frU Q i 3=true:=by
 by_cases h0:i=0
 ·rw [h0];exact qek Q 3
 ·obtain ⟨k,h1,h2,h3⟩:=h.rise i Oo hi;cases hf:frU Q i 3 with
  | true=>rfl
  | false=>have:=(qfx hf).2 k Oo;omega
theorem TOk.all:∀ {i:Nat},i≤n→leT Q 3 i=i
 | 0,_=>rfl
 | i+1,hi=>by rw [qa7 (h.fresh hi),TOk.all Oo]
theorem TOk.up {i:Nat} (hi:i<n):∀ {j:Nat},j<4→tUp (qt Q n) i j=leT Q (3-j) (i+1)-1
 | 0,_=>by rw [tUp,h.all Oo];rfl
 | j+1,hj=>by
  have ih:=TOk.up hi (j:=j) Oo;obtain ⟨k,hk⟩:∃ k,3-j=k+1:=⟨2-j,by omega⟩
  have hv:=qbt h.toE (3-j) Oo Oo;have hp:=qif (Q:=Q) (k+1) (i:=i+1) Oo;have hm:=qg6 (Q:=Q) (k+1) (a:=i+1) (b:=n) hi;rw [tUp,ih,hv.rank _ (by rw [h.vNum Oo,hk];omega),hk];obtain ⟨_,h2,_,h4,_⟩:=h.vec (k:=k) Oo;rw [← qpg _ _ (by rw [h2];omega),h4,q12 Q k hi,show 3-(j+1)=k by omega]
theorem TOk.tNum {i k:Nat} (hi:i<n) (hk:k<4):tNum (qt Q n) i k=Q i k:=by
 have hp:=qif (Q:=Q) k (i:=i+1) Oo;have hm:=qg6 (Q:=Q) k (a:=i+1) (b:=n) hi;have hw:=h.wi hk;rw [Go.Proofs.YtkienlambankeaaGreatDoor.tNum,h.up hi Oo,show 3-(3-k)=k by omega,qnu _ _ _ (by rw [h.tw hk];omega)];exact (h.tX hk (e:=leT Q k (i+1)-1) Oo).trans (ql8 k hi)
end
def h24 (nq nt nv nr:Nat):LB:=fixL 1095914324 4++(fixL 1 4++(fixL nq 4++(fixL nt 4++(fixL nv 4++fixL nr 4))))
def sumL (p:LB):LB:=fixL (crcL p).toNat 4
def qcr (nq nt:Nat) (V T:LB):LB:=
 h24 nq nt V.length T.length++(sumL (h24 nq nt V.length T.length)++(V++(sumL V++(T++sumL T))))
theorem qgf (a b c d:Nat):(h24 a b c d).length=24:=by simp [h24,qm]
theorem qdt (p:LB):(sumL p).length=4:=qm _ _
theorem qsu (p:LB):leN (sumL p)=(crcL p).toNat:=by
 rw [sumL,qdw,Nat.mod_eq_of_lt];exact (crcL p).isLt
theorem q7 {α:Type} {a b:List α} {n:Nat} (h:a.length=n):(a++b).drop n=b:=by subst h;exact qf a b
theorem qd7 {α:Type} {a b:List α} {n:Nat} (h:a.length=n):(a++b).take n=a:=by subst h;exact List.take_left
theorem qfw (n:Nat) (r:LB) (h:n<4294967296):leN ((fixL n 4++r).take 4)=n:=by
 rw [qd7 (qm n 4),qdw,Nat.mod_eq_of_lt h]
section
variable {nq nt:Nat} {V T:LB} (h1:nq<4294967296) (h2:nt<4294967296) (h3:V.length+T.length+36≤67108864)
theorem qu5 (nq nt:Nat) (V T:LB):(qcr nq nt V T).length=V.length+T.length+36:=by
 simp only [qcr,zla,qgf,qdt];omega
theorem qkw (nq nt:Nat) (V T:LB) (k:Nat) (hk:k≤6):(qcr nq nt V T).drop (4*k)=(h24 nq nt V.length T.length).drop (4*k)++(sumL (h24 nq nt V.length T.length)++(V++(sumL V++(T++sumL T)))):=by
 rw [qcr,List.drop_append_of_le_length (by rw [qgf];omega)]
theorem q9n:hN (qcr nq nt V T) 0=1095914324:=by
 rw [hN,qkw _ _ _ _ 0 Oo,h24];simp only [Nat.mul_zero,List.drop_zero,List.append_assoc];exact qfw _ _ Od
theorem q9o:hN (qcr nq nt V T) 1=1:=by
 rw [hN,qkw _ _ _ _ 1 Oo,h24,q7 (qm _ _)];simp only [List.append_assoc];exact qfw _ _ Od
include h1 in
theorem q9p:hN (qcr nq nt V T) 2=nq:=by
 rw [hN,qkw _ _ _ _ 2 Oo,h24,show 4*2=4+4 from rfl,← List.drop_drop,q7 (qm _ _),q7 (qm _ _)];simp only [List.append_assoc];exact qfw _ _ h1
include h2 in
theorem q9q:hN (qcr nq nt V T) 3=nt:=by
 rw [hN,qkw _ _ _ _ 3 Oo,h24,show 4*3=4+4+4 from rfl,← List.drop_drop,← List.drop_drop,q7 (qm _ _),q7 (qm _ _),q7 (qm _ _)];simp only [List.append_assoc];exact qfw _ _ h2
include h3
theorem qkx:hN (qcr nq nt V T) 4=V.length:=by
 rw [hN,qkw _ _ _ _ 4 Oo,h24,show 4*4=4+4+4+4 from rfl,← List.drop_drop,← List.drop_drop,← List.drop_drop,q7 (qm _ _),q7 (qm _ _),q7 (qm _ _),q7 (qm _ _)];simp only [List.append_assoc];exact qfw _ _ Oo
theorem qsa:hN (qcr nq nt V T) 5=T.length:=by
 rw [hN,qkw _ _ _ _ 5 Oo,h24,show 4*5=4+4+4+4+4 from rfl,← List.drop_drop,← List.drop_drop,← List.drop_drop,← List.drop_drop,q7 (qm _ _),q7 (qm _ _),q7 (qm _ _),q7 (qm _ _),q7 (qm _ _)];exact qfw _ _ Oo
omit h3 in
theorem q9r:hN (qcr nq nt V T) 6=(crcL ((qcr nq nt V T).take 24)).toNat:=by
 rw [hN,qkw _ _ _ _ 6 Oo,List.drop_of_length_le (by rw [qgf];omega),List.nil_append,qd7 (qdt _),qsu,qcr,qd7 (qgf _ _ _ _)]
theorem q03:(qat (qcr nq nt V T)).2=0:=by
 have hl:=qu5 nq nt V T;rw [qat,hl,qkx h3,qsa h3,q9n,q9o,← q9r,if_neg Oo,if_neg Oo,if_neg Oo,if_neg Oo,if_neg Oo,if_neg Oo,if_neg Oo]
omit h3 in
theorem qny (nq nt:Nat) (V T:LB):(qcr nq nt V T).drop 28=V++(sumL V++(T++sumL T)):=by
 rw [qcr,show 28=24+4 from rfl,← List.drop_drop,q7 (qgf _ _ _ _),q7 (qdt _)]
theorem q68:qk (qcr nq nt V T)=V:=by rw [qk,qny,qkx h3,List.take_left]
theorem q67:qe (qcr nq nt V T)=T:=by
 rw [qe,qkx h3,qsa h3,show 32+V.length=28+(V.length+4) by omega,← List.drop_drop,qny,← List.drop_drop,qf,q7 (qdt _),List.take_left]
theorem q9s:pS1 (qcr nq nt V T):=by
 rw [pS1,q68 h3,qkx h3,← List.drop_drop,qny,qf,qd7 (qdt _),qsu]
theorem q9t:pS2 (qcr nq nt V T):=by
 rw [pS2,q67 h3,qkx h3,qsa h3,show 32+V.length+T.length=28+(V.length+(4+T.length)) by omega,← List.drop_drop,qny,← List.drop_drop,qf,← List.drop_drop,q7 (qdt _),qf,List.take_of_length_le (by rw [qdt];exact Nat.le_refl _),qsu]
end
end Go.Proofs.YtkienlambankeaaGreatDoor
