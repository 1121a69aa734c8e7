/- Lemmas and contracts of functions on the way to the law's card (part 5 of 9). -/
import Derived.Test.YtacnkdagblbgfaaGreatDoorMP4
import Derived.OrdersIn
namespace Go.Proofs.YtacnkdagblbgfaaGreatDoor
set_option maxHeartbeats 8000000
open Go.RowKit V
set_option maxRecDepth 100000
def errV (b:Nat):Value:=.iface 255 (pp b)
def errO (p c:Nat):Obj:=.cells #[ii p,.iface 61 (ii c)] 259
theorem qnv (p c:Nat) (w:World):Gv Tryz.prog 156 [ii p,ii c] w fun v w'=>∃ b,v=errV b∧w.heap.size≤b∧w'.heap[b]?=some (errO p c)∧Ext w w':=by
 refine ze Tryz.func156 Tryz.ntmps156 ?_;refine znm (Mem.nil w) fun b w1 hm=>zw ?_;exact ⟨b,rfl,(hm.own _ mh).1,hm.get mh,hm.ext⟩
def ErrTyp (w:World):Prop:=w.cell? ⟨0,0,none⟩=some (.iface 365 (.agg #[.pointer (some ⟨7,74,none⟩)]))
theorem ErrTyp.ext {w w':World} (h:ErrTyp w) (he:Ext w w'):ErrTyp w':=he.cell h
theorem qw7 (t:Value) (w:World):Gv Tryz.prog 157 [.nilIface,t] w fun r w'=>r=.bool false∧w'=w:=
 qfj Ok ((q7l t w).mono fun e w' ⟨he,hw⟩=>⟨_,he,rfl,hw⟩)
theorem qw6 (e pb:Nat) {w0 w:World} {L:List (Nat × Obj)} {i:Nat} (hm:Mem w0 w L) (hi:L[i]?=some (pb,.cells #[.pointer none] 255)) (hg:ErrTyp w) :
  Gv Tryz.prog 157 [errV e,.iface 257 (pp pb)] w fun r w'=>r=.bool true∧Mem w0 w' (L.set i (pb,.cells #[pp e] 255))∧
   ∃ w4,Ext w w4∧∀ c,c≠pb→w'.heap[c]?=w4.heap[c]?:=by
 have hb:=hm.get (zmg hi);refine qfj Ok ((q7k ⟨e,0,none⟩ ⟨pb,0,none⟩ (.pointer none) w hg (by rw [qa hb];rfl) (by simp [World.frozen?,hb])).mono ?_);rintro r w' ⟨rfl,hw⟩;refine ⟨_,rfl,rfl,?_,_,(((((Ext.refl w).alloc _).alloc _).alloc _).alloc _),fun c hc=>by subst hw;exact Below.heap_setCell _ _ _ _ hc⟩;exact (hm.call (((((Ext.refl w).alloc _).alloc _).alloc _).alloc _)).setCell hi hw
def fE (l:LB) (E:Nat→Nat × Nat):Nat × Nat:=if (sE l).2≠0 then sE l else errF (fun k=>if (E k).2=0 then (0,0) else (qm l k+(E k).1,(E k).2)) 3
def vF (d:Nat→Nat) (l:LB) (k:Nat):Nat→Value:=fun j=>
 if j=6 then ii (vTot l k:Nat) else if j/2<k then (if j%2=0 then .pointer (some ⟨d (j/2),0,none⟩) else ii (vTot l (j/2)+1:Nat)) else (if j%2=0 then .pointer none else ii 0)
structure VocAt (w:World) (b:Nat) (l:LB):Prop where
 h:∃ d,w.heap[b]?=some (.cells (fnA 7 (vF d l 3)) 204)∧∀ k,k<3→DictAt w (d k) (sDict l k)
theorem VocAt.ext {w w':World} {b:Nat} {l:LB} (h:VocAt w b l) (he:Ext w w'):VocAt w' b l:=by
 obtain ⟨d,h1,h2⟩:=h;exact ⟨d,he.get h1,fun k hk=>(h2 k hk).ext he⟩
def DoR (m:LB) (E:Nat × Nat) (v:Value) (w:World):Prop:=
 (E.2≠0∧∃ e,v=.tuple #[.pointer none,e]∧ErrAt w e E.1 E.2)∨(E.2=0∧∃ b,v=.tuple #[pp b,.nilIface]∧DictAt w b m)
def FndR (l:LB) (E:Nat→Nat × Nat) (v:Value) (w:World):Prop:=
 ((fE l E).2≠0∧∃ G e,v=.tuple #[.pointer none,.agg (fnA 3 (inF G)),e]∧ErrAt w e (fE l E).1 (fE l E).2)∨
 ((fE l E).2=0∧∃ b G,v=.tuple #[pp b,.agg (fnA 3 (inF G)),.nilIface]∧(∀ k,k<3→G k=((qm l k:Nat):Int))∧VocAt w b l)
theorem qs9 (n:Nat) (F:Nat→Value) (j:Nat) (h:j<n):(fnA n F).toList[j]?=some (F j):=by
 have:=qan n F j h
 simpa using this
theorem qjc {n:Nat} {F G:Nat→Value} (h:∀ j,j<n→F j=G j):fnA n F=fnA n G:=by
 unfold fnA
 congr 1
 exact List.map_congr_left fun j hj=>h j (by simpa using hj)
theorem q17 (n:Nat) (F:Nat→Value) (i:Nat) (a b:Value) (h:i+2≤n):((fnA n F).toList.take i++[a,b]++(fnA n F).toList.drop (i+[a,b].length)).toArray=fnA n (updF (updF F i a) (i+1) b):=by
 rw [← qdw,← qdw,← Array.toList_inj];simp only [Array.toList_setIfInBounds,List.length_cons,List.length_nil];have hl:(fnA n F).toList.length=n:=by simp [qn]
 generalize (fnA n F).toList=xs at hl;apply List.ext_getElem?;intro j;rw [List.getElem?_set,List.getElem?_set,List.append_assoc,List.getElem?_append];simp only [List.length_take,List.length_set,hl]
 by_cases h1:j<i
 ·rw [if_pos Oo,if_neg Oo,if_neg Oo,List.getElem?_take,if_pos h1]
 ·rw [if_neg Oo,List.getElem?_append];simp only [List.length_cons,List.length_nil]
  by_cases h2:j=i
  ·subst h2;rw [if_pos Oo,if_neg Oo,if_pos rfl,if_pos Oo,show j-min j n=0 by omega];rfl
  ·by_cases h3:j=i+1
   ·subst h3;rw [if_pos Oo,if_pos rfl,if_pos Oo,show i+1-min i n=1 by omega];rfl
   ·rw [if_neg Oo,if_neg Oo,if_neg Oo,List.getElem?_drop]
    congr 1
    omega
theorem DictAt.other {w w':World} {b x:Nat} {m:LB} {cs:Array Value} {t:TypeId} {fz:Nat × Nat} (h:DictAt w b m) (hx:w.heap[x]?=some (.cells cs t fz)) (ht:t≠317) (hc:∀ v∈cs.toList,∀ c:Nat,v≠.int .u8 c)
  (hw:∀ c,c≠x→w'.heap[c]?=w.heap[c]?):DictAt w' b m:=by
 obtain ⟨⟨P,cp,E,ce,h1,h2,h3,h4⟩,h5,h6,h7,h8⟩:=h;have hbx:b≠x:=by
  intro e;subst e;rw [hx] at h1
  injection h1 with h1
  injection h1 with _ h1 _
  exact ht h1
 have hne:∀ (z:LB),∀ y∈z,∀ v∈cs.toList,(encB y)[0]?≠some v:=fun z y _ v hv e=>by
  cases e;exact hc _ hv _ rfl
 exact ⟨⟨P,cp,E,ce,by rw [hw b hbx];exact h1,h2.other hx (hne _) (fun _ _ e=>by cases e) hw,h3.other hx (hne _) (fun _ _ e=>by cases e) hw,h4⟩,h5,h6,h7,h8⟩
theorem q4n (d:Nat→Nat) (l:LB) (k j:Nat):∀ c:Nat,vF d l k j≠.int .u8 c:=by
 intro c;unfold vF
 split
 ·intro e;cases e
 ·split
  ·split<;>(intro e;cases e)
  ·split<;>(intro e;cases e)
theorem q7a (d:Nat→Nat) (l:LB) (k b:Nat) (hk:k<3):fnA 7 (updF (updF (updF (vF d l k) (2*k) (pp b)) (2*k+1) (ii (vTot l k+1:Nat))) 6 (ii (vTot l (k+1):Nat))) =
  fnA 7 (vF (fun j=>if j=k then b else d j) l (k+1)):=qjc fun j hj=>by
 rcases (show k=0∨k=1∨k=2 by omega) with rfl|rfl|rfl<;>
 rcases (show j=0∨j=1∨j=2∨j=3∨j=4∨j=5∨j=6 by omega) with rfl|rfl|rfl|rfl|rfl|rfl|rfl<;>rfl
theorem qx7 (l:LB) (A:oA) (c:Nat) (w:World) (hS:SlAt encB 1 w A l) (hc:l.length≤c) (hl:l.length≤70368744177664) (hG:ErrTyp w) (f:FuncId) (E:Nat→Nat × Nat) (hEb:∀ k,k<3→(E k).1≤70368744177664)
  (hf:∀ k,k<3→∀ w' B c',Ext w w'→SlAt encB 1 w' B (sDict l k)→(sDict l k).length≤c'→Gv Tryz.prog f [.slice B (sDict l k).length c'] w' fun v w''=>DoR (sDict l k) (E k) v w''∧Ext w' w'') :
  Gv Tryz.prog 100 [.slice A l.length c,.func (.func f) #[] #[]] w fun v w'=>FndR l E v w'∧Ext w w':=by
 refine ze Tryz.func100 Tryz.ntmps100 ?_;refine znm (Mem.nil w) fun r5 w1 hm=>zw ?_;refine zcv (qnb _ l w1 ⟨A,c,rfl,hc,hS.ext hm.ext⟩) ?_;rintro v w2 ⟨cb,rfl,hcb,hco,he1⟩;have hm:=hm.fresh he1 hcb hco;(conv=>whnf);refine znm hm fun sz w3 hm=>zw ?_;refine znm hm fun pl w4 hm=>zw ?_;refine qe (fun x:Nat × (Nat→Int)=>[(0,.slice A l.length c),(1,.func (.func f) #[] #[]),(4,.pointer none),(5,pp r5),(6,.nilIface),(7,pp cb),(8,pp sz),(9,pp pl),(24,ii x.1)])
  (fun x w'=>x.1≤3∧(∀ j,j<x.1→(vsF l j).2=0)∧(∀ j,j<x.1→x.2 j=((vNum l j:Nat):Int))∧Mem w w' [(pl,.cells (fnA 3 (inF (fun _:Nat=>(0:Int)))) 56),(sz,.cells (fnA 3 (inF (x.2))) 56),(cb,curO 288 (.slice A l.length c) (vAt l x.1) 0),(r5,.cells (fnA 3 (inF (fun _:Nat=>(0:Int)))) 56)]) (fun x=>3-x.1) (0,fun _:Nat=>(0:Int))
  ⟨rfl,rfl,rfl,rfl,rfl,rfl,rfl,rfl,rfl,trivial⟩ ⟨by simp,fun j h=>by simp at h,fun j h=>by simp at h,hm⟩ ?_
 clear hm hco he1 hcb;rintro ⟨k,Q⟩ w6 ρ' ⟨k1,hz,hQ,hm⟩;dsimp only at k1 hz hQ hm ⊢;have hle:=qlm l k;have hlt:=q02 l k;(conv=>whnf);refine zC (fun _=>zw ?_) (fun _=>zw ?_)
 ·refine zcv (qkr cb (.slice A l.length c) (vAt l k) 0 w6 (hm.get Js)) ?_;rintro r w7 ⟨rfl,rfl⟩;(conv=>whnf);refine zcv (qdo cb (.slice A l.length c) (vAt l k) 0 l _ (hm.get Js) ⟨A,c,rfl,hc,hS.ext hm.ext⟩ hle Oo) ?_;rintro r w8 ⟨rfl,hu⟩
  by_cases he:(numL (l.drop (vAt l k))).2.2=0
  case neg=>
   rw [qur he,qus he] at hu;rw [quq he];obtain ⟨q,eq⟩:∃ q,q=(numL (l.drop (vAt l k))).2.2:=⟨_,rfl⟩
   have hf:vsF l k=(vAt l k,q):=by rw [vsF,qtt he,eq]
   rw [← eq] at hu he;have hE1:sE l=(vAt l k,q):=by rw [q4i hz Oo (by rw [hf];exact he),hf]
   have hE:fE l E=(vAt l k,q):=by rw [fE,hE1,if_pos he]
   have hm:Mem w w8 [(pl,.cells (fnA 3 (inF (fun _:Nat=>(0:Int)))) 56),(sz,.cells (fnA 3 (inF (Q))) 56),(cb,curO 288 (.slice A l.length c) (vAt l k) q),(r5,.cells (fnA 3 (inF (fun _:Nat=>(0:Int)))) 56)]:=hm.upd (i:=2) rfl hu;(conv=>whnf);refine zcv (qcg cb (.slice A l.length c) (vAt l k) q w8 (hm.get Js)) ?_;rintro r w9 ⟨rfl,rfl⟩;refine zu ?_;refine DrawV.gen (fun S vals w'=>Er w [(pl,.cells (fnA 3 (inF (fun _:Nat=>(0:Int)))) 56),(sz,.cells (fnA 3 (inF (Q))) 56),(cb,curO 288 (.slice A l.length c) (vAt l k) q),(r5,.cells (bif S 6 then fnA 3 (inF (fun _:Nat=>(0:Int))) else fnA 3 (inF (fun _:Nat=>(0:Int)))) 56)] (errO (vAt l k) (q)) errV errV errV (S 4) false (S 7) (vals 4) undef (vals 7) w') rfl Ok (fun vals=>Er.start hm.drew) ?_;clear hm;(conv=>whnf);refine StepG.of (.agg (fnA 3 (inF (fun _:Nat=>(0:Int))))) (fun S vals wd hk hp hI=>zw ?_) (zw ?_)
   ·refine LoadA.mem hI.mem (i:=0) rfl (by simp [qn];rfl) (zw ?_);exact ⟨rfl,hI⟩
   refine zg ?_;refine zg ?_;refine StepG.of (ii (q:Nat)) (fun S vals wd hk hp hI=>zw ?_) (zw ?_)
   ·refine zcv (qcg cb (.slice A l.length c) (vAt l k) q wd (hI.mem.get Js)) ?_;rintro r w9 ⟨rfl,rfl⟩;exact ⟨rfl,hI⟩
   refine StepG.any (fun S vals wd hk hp hI=>?_) (zw ?_)
   ·dsimp only at hI;rw [hk] at hI;(conv=>whnf);refine zcv (qnv (vAt l k) (q) wd) ?_;rintro v w8 ⟨eb,rfl,hb,ho,he⟩;exact ⟨trivial,hI.made he hb ho⟩
   refine zg ?_;refine StepG.of undef (fun S vals wd hk hp hI=>?_) (zw ?_)
   ·dsimp only at hI;rw [hk] at hI;(conv=>whnf);refine hI.store (i:=3) rfl (by simp [qn]) (qft 3 _) rfl ?_;intro wx _ hx;(conv=>whnf);exact ⟨rfl,hx⟩
   refine StepG.any (fun S vals wd hk hp hI=>?_) (zw ?_)
   ·have h4:S 4=true:=hp 4 Od;dsimp only at hI;rw [hk,h4] at hI;obtain ⟨eb,hv,_,h3⟩:=hI.see;rw [ql hv];(conv=>whnf);exact ⟨trivial,by show Er _ _ _ _ _ _ (S 4) false true _ _ _ _;rw [h4];exact h3⟩
   intro vals w8 hI;obtain ⟨eb,hv1,hv3,hm⟩:=hI.done;rw [ql hv1,ql hv3];clear hI;(conv=>whnf);refine qaa (R:=fun v w'=>FndR l E v w'∧Ext w w') (zw ?_);refine LoadA.mem hm (i:=4) rfl (by simp [qn];rfl) (zw ?_);exact ⟨.inl ⟨by rw [hE];exact he,(fun _:Nat=>(0:Int)),errV eb,rfl,⟨eb,rfl,by rw [hE];exact CellsAt.mem hm mh⟩⟩,hm.ext⟩
  rw [quu he,quv he] at hu;rw [qut he];have hm:Mem w w8 [(pl,.cells (fnA 3 (inF (fun _:Nat=>(0:Int)))) 56),(sz,.cells (fnA 3 (inF (Q))) 56),(cb,curO 288 (.slice A l.length c) (vAt l (k+1)) 0),(r5,.cells (fnA 3 (inF (fun _:Nat=>(0:Int)))) 56)]:=hm.upd (i:=2) rfl hu;(conv=>whnf);refine zcv (qcg cb (.slice A l.length c) (vAt l (k+1)) 0 w8 (hm.get Js)) ?_;rintro r w9 ⟨rfl,rfl⟩;(conv=>whnf);refine zt ?_;refine zC (fun _=>zu ?_) (fun _=>zu ?_)
  ·have hf:vsF l k=(vAt l k,2):=by rw [vsF,qo2 he Oo]
   have hE1:sE l=(vAt l k,2):=by rw [q4i hz Oo (by rw [hf];exact Nat.succ_ne_zero _),hf]
   have hE:fE l E=(vAt l k,2):=by rw [fE,hE1,if_pos (Nat.succ_ne_zero _)]
   refine DrawV.gen (fun S vals w'=>Er w [(pl,.cells (fnA 3 (inF (fun _:Nat=>(0:Int)))) 56),(sz,.cells (fnA 3 (inF (Q))) 56),(cb,curO 288 (.slice A l.length c) (vAt l (k+1)) 0),(r5,.cells (bif S 4 then fnA 3 (inF (fun _:Nat=>(0:Int))) else fnA 3 (inF (fun _:Nat=>(0:Int)))) 56)] (errO (vAt l k) (2)) errV errV errV (S 2) false (S 5) (vals 2) undef (vals 5) w') rfl Ok (fun vals=>Er.start hm.drew) ?_;clear hm;(conv=>whnf);refine StepG.of (.agg (fnA 3 (inF (fun _:Nat=>(0:Int))))) (fun S vals wd hk hp hI=>zw ?_) (zw ?_)
   ·refine LoadA.mem hI.mem (i:=0) rfl (by simp [qn];rfl) (zw ?_);exact ⟨rfl,hI⟩
   refine zg ?_;refine StepG.any (fun S vals wd hk hp hI=>?_) (zw ?_)
   ·dsimp only at hI;rw [hk] at hI;(conv=>whnf);refine zcv (qnv (vAt l k) (2) wd) ?_;rintro v w8 ⟨eb,rfl,hb,ho,he⟩;exact ⟨trivial,hI.made he hb ho⟩
   refine zg ?_;refine StepG.of undef (fun S vals wd hk hp hI=>?_) (zw ?_)
   ·dsimp only at hI;rw [hk] at hI;(conv=>whnf);refine hI.store (i:=3) rfl (by simp [qn]) (qft 3 _) rfl ?_;intro wx _ hx;(conv=>whnf);exact ⟨rfl,hx⟩
   refine StepG.any (fun S vals wd hk hp hI=>?_) (zw ?_)
   ·have h4:S 2=true:=hp 2 Od;dsimp only at hI;rw [hk,h4] at hI;obtain ⟨eb,hv,_,h3⟩:=hI.see;rw [ql hv];(conv=>whnf);exact ⟨trivial,by show Er _ _ _ _ _ _ (S 2) false true _ _ _ _;rw [h4];exact h3⟩
   intro vals w8 hI;obtain ⟨eb,hv1,hv3,hm⟩:=hI.done;rw [ql hv1,ql hv3];clear hI;(conv=>whnf);refine qaa (R:=fun v w'=>FndR l E v w'∧Ext w w') (zw ?_);refine LoadA.mem hm (i:=4) rfl (by simp [qn];rfl) (zw ?_);exact ⟨.inl ⟨by rw [hE];exact Nat.succ_ne_zero _,(fun _:Nat=>(0:Int)),errV eb,rfl,⟨eb,rfl,by rw [hE];exact CellsAt.mem hm mh⟩⟩,hm.ext⟩
  refine StoreV.fi (x:=((vNum l k:Nat):Int)) hm (i:=1) rfl k (by rw [show tsz Tryz.prog 3=1 from by kernel_rfl];omega) Oo fun w10 hm=>zu ?_;refine ⟨(k+1,updI Q k (vNum l k:Nat)),⟨rfl,rfl,rfl,rfl,rfl,rfl,rfl,rfl,rfl,trivial⟩,⟨by simp only;omega,fun j hj=>?_,fun j hj=>?_,hm⟩,by simp only;omega⟩
  ·by_cases e:j=k
   ·subst e;rw [vsF,qfw he Oo]
   ·exact hz j (by simp only at hj;omega)
  ·simp only at hj ⊢
   by_cases e:j=k
   ·subst e;exact q0z _ _ _
   ·rw [q00 _ _ _ _ e];exact hQ j Oo
 obtain rfl:k=3:=by omega
 have hz0:(errF (vsF l) 3).2=0:=qbw hz;have hnb:∀ j,j<3→vNum l j≤67108864:=fun j hj=>qzd (hz j hj)
 refine zcv (qkr cb (.slice A l.length c) (vAt l 3) 0 w6 (hm.get Js)) ?_;rintro r w7 ⟨rfl,rfl⟩;(conv=>whnf);refine LoadA.mem hm (i:=1) rfl (by simp [qn];rfl) (zw ?_);refine qe (fun x:Nat × (Nat→Int)=>[(0,.slice A l.length c),(1,.func (.func f) #[] #[]),(4,.pointer none),(5,pp r5),(6,.nilIface),(8,pp sz),(9,pp pl),(13,ii (qm l x.1:Nat)),(53,.agg (fnA 3 (inF Q))),(54,ii x.1)])
  (fun x w'=>x.1≤3∧(∀ j,j<x.1→x.2 j=((qm l j:Nat):Int))∧Mem w w' [(pl,.cells (fnA 3 (inF (x.2))) 56),(sz,.cells (fnA 3 (inF (Q))) 56),(cb,curO 288 (.slice A l.length c) (vAt l 3) 0),(r5,.cells (fnA 3 (inF (fun _:Nat=>(0:Int)))) 56)]) (fun x=>3-x.1) (0,fun _:Nat=>(0:Int))
  ⟨rfl,rfl,rfl,rfl,rfl,rfl,rfl,rfl,rfl,rfl,trivial⟩ ⟨by simp,fun j h=>by simp at h,hm⟩ ?_
 clear hm;rintro ⟨k,P⟩ w8 ρ2 ⟨k2,hP,hm⟩;dsimp only at k2 hP hm ⊢;have hs1:qm l (k+1)=qm l k+vNum l k:=rfl;have hsb:∀ j,j≤3→qm l j≤l.length+201326592:=by
  have e0:qm l 0=vAt l 3:=rfl;have e1:qm l 1=qm l 0+vNum l 0:=rfl;have e2:qm l 2=qm l 1+vNum l 1:=rfl;have e3:qm l 3=qm l 2+vNum l 2:=rfl;have h0:=hnb 0 Oo;have h1:=hnb 1 Oo;have h2:=hnb 2 Oo;have h3:=qlm l 3;intro j hj
  rcases (show j=0∨j=1∨j=2∨j=3 by omega) with rfl|rfl|rfl|rfl<;>omega
 have hsk:=hsb k Oo;conv=>whnf
 (repeat' (first|refine zp ?_|refine zC (fun _=>zw ?_) (fun _=>zw ?_)))
 ·have hn:=hnb k Oo;refine ⟨ii (vNum l k:Nat),?_,?_⟩
  ·rw [show k*tsz Tryz.prog 3=k from by rw [show tsz Tryz.prog 3=1 from by kernel_rfl];omega];have:=qs9 3 (inF Q) k Oo;rw [inF,hQ k Oo] at this;exact this
  (conv=>whnf);refine IdxV.at_ k Oo Oo (zw ?_);refine StoreV.fi (x:=((qm l k:Nat):Int)) hm (i:=0) rfl k (by rw [show tsz Tryz.prog 3=1 from by kernel_rfl];omega) Oo fun w10 hm=>zu ?_;refine ⟨(k+1,updI P k (qm l k:Nat)),⟨rfl,rfl,rfl,rfl,rfl,rfl,rfl,?_,rfl,rfl,trivial⟩,⟨by simp only;omega,fun j hj=>?_,hm⟩,by simp only;omega⟩
  ·show ii _=ii _
   congr 1
  ·simp only at hj ⊢
   by_cases e:j=k
   ·subst e;exact q0z _ _ _
   ·rw [q00 _ _ _ _ e];exact hP j Oo
 ·obtain rfl:k=3:=by omega
  have hsE:sE l=if l.length<qm l 3 then (l.length,10) else if qm l 3<l.length then (qm l 3,13) else (0,0):=by rw [sE,if_neg Oo]
  have hE1:sE l=(l.length,10):=by rw [hsE,if_pos Oo]
  have hE:fE l E=(l.length,10):=by rw [fE,hE1,if_pos (Nat.succ_ne_zero _)]
  refine DrawV.gen (fun S vals w'=>Er w [(pl,.cells (fnA 3 (inF (P))) 56),(sz,.cells (fnA 3 (inF (Q))) 56),(cb,curO 288 (.slice A l.length c) (vAt l 3) 0),(r5,.cells (bif S 5 then fnA 3 (inF (P)) else fnA 3 (inF (fun _:Nat=>(0:Int)))) 56)] (errO (l.length) (10)) errV errV errV (S 3) false (S 6) (vals 3) undef (vals 6) w') rfl Ok (fun vals=>Er.start hm.drew) ?_;clear hm;(conv=>whnf);refine StepG.of (.agg (fnA 3 (inF (P)))) (fun S vals wd hk hp hI=>zw ?_) (zw ?_)
  ·refine LoadA.mem hI.mem (i:=0) rfl (by simp [qn];rfl) (zw ?_);exact ⟨rfl,hI⟩
  refine zg ?_;refine zg ?_;refine StepG.any (fun S vals wd hk hp hI=>?_) (zw ?_)
  ·dsimp only at hI;rw [hk] at hI;(conv=>whnf);refine zcv (qnv (l.length) (10) wd) ?_;rintro v w8 ⟨eb,rfl,hb,ho,he⟩;exact ⟨trivial,hI.made he hb ho⟩
  refine zg ?_;refine StepG.of undef (fun S vals wd hk hp hI=>?_) (zw ?_)
  ·dsimp only at hI;rw [hk] at hI;(conv=>whnf);refine hI.store (i:=3) rfl (by simp [qn]) (qft 3 _) rfl ?_;intro wx _ hx;(conv=>whnf);exact ⟨rfl,hx⟩
  refine StepG.any (fun S vals wd hk hp hI=>?_) (zw ?_)
  ·have h4:S 3=true:=hp 3 Od;dsimp only at hI;rw [hk,h4] at hI;obtain ⟨eb,hv,_,h3⟩:=hI.see;rw [ql hv];(conv=>whnf);exact ⟨trivial,by show Er _ _ _ _ _ _ (S 3) false true _ _ _ _;rw [h4];exact h3⟩
  intro vals w8 hI;obtain ⟨eb,hv1,hv3,hm⟩:=hI.done;rw [ql hv1,ql hv3];clear hI;(conv=>whnf);refine qaa (R:=fun v w'=>FndR l E v w'∧Ext w w') (zw ?_);refine LoadA.mem hm (i:=4) rfl (by simp [qn];rfl) (zw ?_);exact ⟨.inl ⟨by rw [hE];exact Nat.succ_ne_zero _,(P),errV eb,rfl,⟨eb,rfl,by rw [hE];exact CellsAt.mem hm mh⟩⟩,hm.ext⟩
 ·obtain rfl:k=3:=by omega
  have hsE:sE l=if l.length<qm l 3 then (l.length,10) else if qm l 3<l.length then (qm l 3,13) else (0,0):=by rw [sE,if_neg Oo]
  have hE1:sE l=(qm l 3,13):=by rw [hsE,if_neg Oo,if_pos Oo]
  have hE:fE l E=(qm l 3,13):=by rw [fE,hE1,if_pos (Nat.succ_ne_zero _)]
  refine DrawV.gen (fun S vals w'=>Er w [(pl,.cells (fnA 3 (inF (P))) 56),(sz,.cells (fnA 3 (inF (Q))) 56),(cb,curO 288 (.slice A l.length c) (vAt l 3) 0),(r5,.cells (bif S 4 then fnA 3 (inF (P)) else fnA 3 (inF (fun _:Nat=>(0:Int)))) 56)] (errO (qm l 3) (13)) errV errV errV (S 2) false (S 5) (vals 2) undef (vals 5) w') rfl Ok (fun vals=>Er.start hm.drew) ?_;clear hm;(conv=>whnf);refine StepG.of (.agg (fnA 3 (inF (P)))) (fun S vals wd hk hp hI=>zw ?_) (zw ?_)
  ·refine LoadA.mem hI.mem (i:=0) rfl (by simp [qn];rfl) (zw ?_);exact ⟨rfl,hI⟩
  refine zg ?_;refine StepG.any (fun S vals wd hk hp hI=>?_) (zw ?_)
  ·dsimp only at hI;rw [hk] at hI;(conv=>whnf);refine zcv (qnv (qm l 3) (13) wd) ?_;rintro v w8 ⟨eb,rfl,hb,ho,he⟩;exact ⟨trivial,hI.made he hb ho⟩
  refine zg ?_;refine StepG.of undef (fun S vals wd hk hp hI=>?_) (zw ?_)
  ·dsimp only at hI;rw [hk] at hI;(conv=>whnf);refine hI.store (i:=3) rfl (by simp [qn]) (qft 3 _) rfl ?_;intro wx _ hx;(conv=>whnf);exact ⟨rfl,hx⟩
  refine StepG.any (fun S vals wd hk hp hI=>?_) (zw ?_)
  ·have h4:S 2=true:=hp 2 Od;dsimp only at hI;rw [hk,h4] at hI;obtain ⟨eb,hv,_,h3⟩:=hI.see;rw [ql hv];(conv=>whnf);exact ⟨trivial,by show Er _ _ _ _ _ _ (S 2) false true _ _ _ _;rw [h4];exact h3⟩
  intro vals w8 hI;obtain ⟨eb,hv1,hv3,hm⟩:=hI.done;rw [ql hv1,ql hv3];clear hI;(conv=>whnf);refine qaa (R:=fun v w'=>FndR l E v w'∧Ext w w') (zw ?_);refine LoadA.mem hm (i:=4) rfl (by simp [qn];rfl) (zw ?_);exact ⟨.inl ⟨by rw [hE];exact Nat.succ_ne_zero _,(P),errV eb,rfl,⟨eb,rfl,by rw [hE];exact CellsAt.mem hm mh⟩⟩,hm.ext⟩
 obtain rfl:k=3:=by omega
 have hpl:qm l 3=l.length:=by omega
 have hE0:(sE l).2=0:=by rw [sE,if_neg Oo,if_neg Oo,if_neg Oo]
 have hfE:fE l E=errF (fun k=>if (E k).2=0 then (0,0) else (qm l k+(E k).1,(E k).2)) 3:=by rw [fE,if_neg Oo]
 refine znm hm fun vb w9 hm=>zw ?_;refine LoadA.mem hm (i:=2) rfl (by simp [qn];rfl) (zw ?_);refine qe (fun x:Nat × (Nat→Nat)=>[(0,.slice A l.length c),(1,.func (.func f) #[] #[]),(4,.pointer none),(5,pp r5),(6,.nilIface),(9,pp pl),(16,pp vb),(84,.agg (fnA 3 (inF Q))),(85,ii x.1)])
  (fun x w'=>x.1≤3∧(∀ j,j<x.1→(E j).2=0)∧(∀ j,j<x.1→DictAt w' (x.2 j) (sDict l j))∧Mem w w' [(vb,.cells (fnA 7 (vF (x.2) l (x.1))) 204),(pl,.cells (fnA 3 (inF (P))) 56),(sz,.cells (fnA 3 (inF (Q))) 56),(cb,curO 288 (.slice A l.length c) (vAt l 3) 0),(r5,.cells (fnA 3 (inF (fun _:Nat=>(0:Int)))) 56)]) (fun x=>3-x.1) (0,fun _=>0)
  ⟨rfl,rfl,rfl,rfl,rfl,rfl,rfl,rfl,rfl,trivial⟩ ⟨by simp,fun j h=>by simp at h,fun j h=>by simp at h,hm⟩ ?_
 clear hm;rintro ⟨k,d⟩ w10 ρ3 ⟨k3,hEz,hD,hm⟩;dsimp only at k3 hEz hD hm ⊢;(conv=>whnf);refine zC (fun _=>zu ?_) (fun _=>zu ?_)
 ·have hn:=hnb k Oo;have hPk:=hP k Oo;have hple:=qpm hpl (k:=k) Oo;have hdl:=q0d hpl (k:=k) Oo;obtain ⟨y,ey⟩:∃ y,y=qm l k:=⟨_,rfl⟩
  obtain ⟨z,ez⟩:∃ z,z=vNum l k:=⟨_,rfl⟩
  obtain ⟨B,eB⟩:∃ B,B=(if y+z=y then A else A.map (·.add (y*1))):=⟨_,rfl⟩
  have hB:SlAt encB 1 w B (sDict l k):=by
   rw [eB,sDict,← ey];have:=hS.cut (lo:=y) (hi:=y+z) (m:=y+z) Oo Oo Oo rfl
   rwa [show y+z-y=vNum l k by omega] at this
  have hfk:=fun w' h1 h2=>hf k Oo w' B z h1 h2 Oo
  rw [hdl] at hfk;refine ⟨ii (vNum l k:Nat),?_,?_⟩
  ·rw [show k*tsz Tryz.prog 3=k from by rw [show tsz Tryz.prog 3=1 from by kernel_rfl];omega];have:=qs9 3 (inF Q) k Oo;rw [inF,hQ k Oo] at this;exact this
  rw [← ey] at hPk hple;rw [← ez] at hn hple hfk ⊢;(conv=>whnf);have hEbk:=hEb k Oo
  by_cases hEk:(E k).2=0
  ·refine DrawV.free Ok Ok (zw ?_);(iterate 4 (refine zd ?_));refine zsd (ii (y:Nat)) (fun wd hd=>zw ?_) (zw ?_)
   ·refine LoadV.fim (x:=((y:Nat):Int)) (hm.drew.call hd) (b:=pl) (F:=P) (n:=3) (t:=56) Js k (by rw [show tsz Tryz.prog 3=1 from by kernel_rfl];omega) Oo hPk (zw ?_);exact ⟨xr,rfl⟩
   refine zd ?_;refine zd ?_;refine zsd (ii (y:Nat)) (fun wd hd=>zw ?_) (zw ?_)
   ·refine LoadV.fim (x:=((y:Nat):Int)) (hm.drew.call hd) (b:=pl) (F:=P) (n:=3) (t:=56) Js k (by rw [show tsz Tryz.prog 3=1 from by kernel_rfl];omega) Oo hPk (zw ?_);exact ⟨xr,rfl⟩
   (iterate 4 (refine zd ?_));refine zsd (ii (y:Nat)) (fun wd hd=>zw ?_) (zw ?_)
   ·refine LoadV.fim (x:=((y:Nat):Int)) (hm.drew.call hd) (b:=pl) (F:=P) (n:=3) (t:=56) Js k (by rw [show tsz Tryz.prog 3=1 from by kernel_rfl];omega) Oo hPk (zw ?_);exact ⟨xr,rfl⟩
   refine zd ?_;refine zd ?_;refine zsd (.slice B z z) (fun wd hd=>zw ?_) (zw ?_)
   ·refine SliceV.to y (y+z) (y+z) rfl (by show (_:Int)=_;omega) (by show (_:Int)=_;omega) Oo znr Oo (fun _=>rfl) ?_;rw [show tsz Tryz.prog 5=1 from by kernel_rfl,← eB,show y+z-y=z by omega];(conv=>whnf);exact ⟨xr,rfl⟩
   apply StepD.of (fun v wx=>∃ b,v=.tuple #[pp b,.nilIface]∧DictAt wx b (sDict l k)) (fun _ _ _ ⟨b,h1,h2⟩ he=>⟨b,h1,h2.ext he⟩)
   ·intro wd hd;(conv=>whnf);refine zcv (hfk wd (hm.drew.call hd).ext (hB.ext (hm.drew.call hd).ext)) ?_;rintro v w11 ⟨⟨h0,_⟩|⟨_,b,rfl,hD⟩,he11⟩
    ·exact absurd hEk h0
    ·exact ⟨he11,b,rfl,hD⟩
   (conv=>whnf);apply StepD.of (fun v wx=>∃ b,v=.tuple #[pp b,.nilIface]∧DictAt wx b (sDict l k)) (fun _ _ _ ⟨b,h1,h2⟩ he=>⟨b,h1,h2.ext he⟩)
   ·intro wd hd;(conv=>whnf);rintro v ⟨b,rfl,hD⟩;(conv=>whnf);exact ⟨xr,b,rfl,hD⟩
   (conv=>whnf);apply StepD.of (fun v wx=>∃ b,v=pp b∧DictAt wx b (sDict l k)) (fun _ _ _ ⟨b,h1,h2⟩ he=>⟨b,h1,h2.ext he⟩)
   ·intro wd hd;(conv=>whnf);rintro v ⟨b,rfl,hD⟩;(conv=>whnf);exact ⟨xr,b,rfl,hD⟩
   (conv=>whnf);apply zsd .nilIface
   ·intro wd hd;conv=>whnf
    repeat (rintro v ⟨b,rfl,hD⟩;(conv=>whnf))
    exact ⟨xr,rfl⟩
   (conv=>whnf);apply StepD.of (fun v wx=>∃ b,v=pp b∧DictAt wx b (sDict l k)) (fun _ _ _ ⟨b,h1,h2⟩ he=>⟨b,h1,h2.ext he⟩)
   ·intro wd hd;conv=>whnf
    repeat (rintro v ⟨b,rfl,hD⟩;(conv=>whnf))
    exact ⟨xr,_,rfl,by assumption⟩
   (conv=>whnf);apply zsd .nilIface
   ·intro wd hd;conv=>whnf
    repeat (rintro v ⟨b,rfl,hD⟩;(conv=>whnf))
    exact ⟨xr,rfl⟩
   (conv=>whnf);intro w11 he11;have hm:=hm.drew.call he11;have hD:=fun j hj=>(hD j hj).ext ((Ext.refl w10).drew.trans he11)
   clear he11;(conv=>whnf);rintro v ⟨b,rfl,hDb⟩;conv=>whnf
   repeat (rintro v ⟨_,rfl,_⟩;(conv=>whnf))
   refine ⟨fun pb w12 hpb hw12=>?_⟩;have he12:Ext w11 w12:=by rw [hw12];exact xr.alloc _
   have hm:=hm.new hpb hw12;have hD:=fun j hj=>(hD j hj).ext he12
   have hDb:=hDb.ext he12;clear he12 hw12 hpb;(conv=>whnf);refine zcv (qw7 _ w12) ?_;rintro r w13 ⟨rfl,rfl⟩;refine zu ?_;refine DrawV.inv (fun S w'=>Mem w w' [(pb,.cells #[.pointer none] 255),(vb,.cells (bif S 12 then fnA 7 (updF (updF (vF d l k) (2*k) (pp b)) (2*k+1) (ii (vTot l k+1:Nat))) else fnA 7 (vF d l k)) 204),(pl,.cells (fnA 3 (inF (P))) 56),(sz,.cells (fnA 3 (inF (Q))) 56),(cb,curO 288 (.slice A l.length c) (vAt l 3) 0),(r5,.cells (fnA 3 (inF (fun _:Nat=>(0:Int)))) 56)]∧(∀ j,j<k→DictAt w' (d j) (sDict l j))∧DictAt w' b (sDict l k)) rfl Ok ⟨hm.drew,fun j hj=>(hD j hj).ext xr.drew,hDb.ext xr.drew⟩ ?_;have hdk:=hDb.n;have hvt:vTot l k≤8388608:=by
    rcases (show k=0∨k=1∨k=2 by omega) with rfl|rfl|rfl
    ·exact Nat.zero_le _
    ·have h0:=(hD 0 Oo).n;simp only [vTot];omega
    ·have h0:=(hD 0 Oo).n;have h1:=(hD 1 Oo).n;simp only [vTot];omega
   clear hm hD hDb;(conv=>whnf);(iterate 6 (refine zi ?_));refine StepI.of (ii (vTot l k:Nat)) (fun S wd hk hp hI=>zw ?_) (zw ?_)
   ·dsimp only at hI;cases h12:S 12
    ·rw [h12] at hI;refine LoadV.fn (v:=ii (vTot l k:Nat)) hI.1 (i:=1) rfl 6 rfl Oo rfl (zw ?_);exact ⟨rfl,by show Mem _ _ [_,(vb,.cells (bif S 12 then _ else _) _ _),_,_,_,_]∧_;rw [h12];exact hI⟩
    ·rw [h12] at hI;refine LoadV.fn (v:=ii (vTot l k:Nat)) hI.1 (i:=1) rfl 6 rfl Oo (by rw [qbk _ _ _ _ Oo,qbk _ _ _ _ Oo];rfl) (zw ?_);exact ⟨rfl,by show Mem _ _ [_,(vb,.cells (bif S 12 then _ else _) _ _),_,_,_,_]∧_;rw [h12];exact hI⟩
   (iterate 5 (refine zi ?_));refine StepI.of undef (fun S wd hk hp hI=>?_) (zw ?_)
   ·dsimp only at hI;rw [hk] at hI;(conv=>whnf);have hx:=hI.1.get (zmc mh);refine StoreA.row hI.1 (i:=1) rfl (by rw [show tsz Tryz.prog 201=2 from by kernel_rfl];simp [qn];omega) (by simp [Value.oneCell']) ?_;intro wx hfr _ hmx;have hmx:Mem w wx [(pb,.cells #[.pointer none] 255),(vb,.cells (fnA 7 (updF (updF (vF d l k) (2*k) (pp b)) (2*k+1) (ii (vTot l k+1:Nat)))) 204),(pl,.cells (fnA 3 (inF (P))) 56),(sz,.cells (fnA 3 (inF (Q))) 56),(cb,curO 288 (.slice A l.length c) (vAt l 3) 0),(r5,.cells (fnA 3 (inF (fun _:Nat=>(0:Int)))) 56)]:=by
     have e:=q17 7 (vF d l k) (2*k) (pp b) (ii (vTot l k+1:Nat)) Oo;rw [← e];have e2:0+0+k*tsz Tryz.prog 201=2*k:=by rw [show tsz Tryz.prog 201=2 from by kernel_rfl];omega
     rw [← e2];exact hmx
    (conv=>whnf);refine ⟨rfl,hmx,fun j hj=>(hI.2.1 j hj).other hx Od ?_ hfr,hI.2.2.other hx Od ?_ hfr⟩
    all_goals
     intro v hv c;obtain ⟨m,hm',rfl⟩:=List.mem_map.1 (show v∈(List.range 7).map (vF d l k) from hv);exact q4n d l k m c
   intro w14 hI;obtain ⟨hm,hD,hDb⟩:=hI;(conv=>whnf);refine DrawV.inv (fun S w'=>((S 6=true→S 3=true)∧(S 9=true→S 3=true))∧Mem w w' [(pb,.cells #[.pointer none] 255),(vb,.cells (bif S 9 then fnA 7 (updF (updF (updF (vF d l k) (2*k) (pp b)) (2*k+1) (ii (vTot l k+1:Nat))) 6 (ii (vTot l (k+1):Nat))) else fnA 7 (updF (updF (vF d l k) (2*k) (pp b)) (2*k+1) (ii (vTot l k+1:Nat)))) 204),(pl,.cells (fnA 3 (inF (P))) 56),(sz,.cells (fnA 3 (inF (Q))) 56),(cb,curO 288 (.slice A l.length c) (vAt l 3) 0),(r5,.cells (fnA 3 (inF (fun _:Nat=>(0:Int)))) 56)]∧(∀ j,j<k→DictAt w' (d j) (sDict l j))∧DictAt w' b (sDict l k)) rfl Ok ⟨⟨fun h=>(by cases h),fun h=>(by cases h)⟩,hm.drew,fun j hj=>(hD j hj).ext xr.drew,hDb.ext xr.drew⟩ ?_;clear hm hD hDb;have hvs:vTot l (k+1)=vTot l k+dN (sDict l k):=rfl;(conv=>whnf);(iterate 3 (refine zi ?_));refine StepI.of (ii (vTot l k:Nat)) (fun S wd hk hp hI=>zw ?_) (zw ?_)
   ·have h9:S 9=false:=by
     cases h:S 9
     ·rfl
     ·have:=hI.1.2 h;rw [hk] at this;cases this
    have hI2:=hI.2.1;rw [h9] at hI2;refine LoadV.fn (v:=ii (vTot l k:Nat)) hI2 (i:=1) rfl 6 rfl Oo (by rw [qbk _ _ _ _ Oo,qbk _ _ _ _ Oo];rfl) (zw ?_);exact ⟨rfl,⟨fun _=>rfl,fun _=>rfl⟩,hI.2⟩
   refine zi ?_;refine StepI.of (ii (dN (sDict l k):Nat)) (fun S wd hk hp hI=>zw ?_) (zw ?_)
   ·refine zcv (qs2 b (sDict l k) wd hI.2.2.2) ?_;rintro r w15 ⟨rfl,rfl⟩;exact ⟨rfl,hI⟩
   refine StepI.of (ii (vTot l (k+1):Nat)) (fun S wd hk hp hI=>zw ?_) (zw ?_)
   ·refine Obl.mk ⟨by omega,by omega⟩ (zw ?_);exact ⟨rfl,⟨fun _=>hp 3 Od,hI.1.2⟩,hI.2⟩
   refine zi ?_;refine zi ?_;refine StepI.of undef (fun S wd hk hp hI=>?_) (zw ?_)
   ·have h6:=hp 6 Od;obtain ⟨hI1,hI2,hI3,hI4⟩:=hI;rw [hk] at hI2;(conv=>whnf);have hx:=hI2.get (zmc mh);refine StoreV.row hI2 (i:=1) rfl (by simp [qn]) rfl ?_;intro wx hfr _ hmx;have hmx:Mem w wx [(pb,.cells #[.pointer none] 255),(vb,.cells (fnA 7 (updF (updF (updF (vF d l k) (2*k) (pp b)) (2*k+1) (ii (vTot l k+1:Nat))) 6 (ii (vTot l (k+1):Nat)))) 204),(pl,.cells (fnA 3 (inF (P))) 56),(sz,.cells (fnA 3 (inF (Q))) 56),(cb,curO 288 (.slice A l.length c) (vAt l 3) 0),(r5,.cells (fnA 3 (inF (fun _:Nat=>(0:Int)))) 56)]:=by
     rw [← qdw];exact hmx
    (conv=>whnf);refine ⟨rfl,⟨hI1.1,fun _=>hI1.1 h6⟩,hmx,fun j hj=>(hI3 j hj).other hx Od ?_ hfr,hI4.other hx Od ?_ hfr⟩
    all_goals
     intro v hv c;obtain ⟨m,hm',rfl⟩:=List.mem_map.1 (show v∈(List.range 7).map (updF (updF (vF d l k) (2*k) (pp b)) (2*k+1) (ii (vTot l k+1:Nat))) from hv);unfold updF
     split
     ·intro e;cases e
     split
     ·intro e;cases e
     exact q4n d l k m c
   intro w15 hI;obtain ⟨_,hm,hD,hDb⟩:=hI;rw [q7a d l k b Oo] at hm;have hm:=hm.sub (List.sublist_cons_self ..);refine zu ?_;refine ⟨(k+1,fun j=>if j=k then b else d j),⟨rfl,rfl,rfl,rfl,rfl,rfl,rfl,rfl,rfl,trivial⟩,⟨by simp only;omega,fun j hj=>?_,fun j hj=>?_,hm⟩,by simp only;omega⟩
   ·by_cases e:j=k
    ·subst e;exact hEk
    ·exact hEz j (by simp only at hj;omega)
   ·simp only at hj ⊢
    by_cases e:j=k
    ·subst e;rw [if_pos rfl];exact hDb
    ·rw [if_neg e];exact hD j Oo
  ·obtain ⟨p,ep⟩:∃ p,p=(E k).1:=⟨_,rfl⟩
   obtain ⟨q,eq⟩:∃ q,q=(E k).2:=⟨_,rfl⟩
   have hEf:fE l E=(y+p,q):=by
    rw [hfE,qmh (k:=k) (fun j hj=>by simp only [if_pos (hEz j hj)]) Oo (by simp only [if_neg hEk];exact hEk),if_neg hEk,ey,ep,eq]
   have hfk2:∀ w',Ext w w'→SlAt encB 1 w' B (sDict l k)→Gv Tryz.prog f [.slice B z z] w' fun v w''=>(∃ e,v=.tuple #[.pointer none,e]∧ErrAt w'' e p q)∧Ext w' w'':=fun w' h1 h2=>(hfk w' h1 h2).mono fun v w'' ⟨h,he⟩=>by
    rcases h with ⟨_,e,h3,h4⟩|⟨h0,_⟩
    ·rw [← ep,← eq] at h4;exact ⟨⟨e,h3,h4⟩,he⟩
    ·exact absurd h0 hEk
   rw [← ep] at hEbk;rw [← eq] at hEk;refine DrawV.free Ok Ok (zw ?_);(iterate 4 (refine zd ?_));refine zsd (ii (y:Nat)) (fun wd hd=>zw ?_) (zw ?_)
   ·refine LoadV.fim (x:=((y:Nat):Int)) (hm.drew.call hd) (b:=pl) (F:=P) (n:=3) (t:=56) Js k (by rw [show tsz Tryz.prog 3=1 from by kernel_rfl];omega) Oo hPk (zw ?_);exact ⟨xr,rfl⟩
   refine zd ?_;refine zd ?_;refine zsd (ii (y:Nat)) (fun wd hd=>zw ?_) (zw ?_)
   ·refine LoadV.fim (x:=((y:Nat):Int)) (hm.drew.call hd) (b:=pl) (F:=P) (n:=3) (t:=56) Js k (by rw [show tsz Tryz.prog 3=1 from by kernel_rfl];omega) Oo hPk (zw ?_);exact ⟨xr,rfl⟩
   (iterate 4 (refine zd ?_));refine zsd (ii (y:Nat)) (fun wd hd=>zw ?_) (zw ?_)
   ·refine LoadV.fim (x:=((y:Nat):Int)) (hm.drew.call hd) (b:=pl) (F:=P) (n:=3) (t:=56) Js k (by rw [show tsz Tryz.prog 3=1 from by kernel_rfl];omega) Oo hPk (zw ?_);exact ⟨xr,rfl⟩
   refine zd ?_;refine zd ?_;refine zsd (.slice B z z) (fun wd hd=>zw ?_) (zw ?_)
   ·refine SliceV.to y (y+z) (y+z) rfl (by show (_:Int)=_;omega) (by show (_:Int)=_;omega) Oo znr Oo (fun _=>rfl) ?_;rw [show tsz Tryz.prog 5=1 from by kernel_rfl,← eB,show y+z-y=z by omega];(conv=>whnf);exact ⟨xr,rfl⟩
   apply StepD.of (fun v wx=>∃ e,v=.tuple #[.pointer none,e]∧ErrAt wx e p q) (fun _ _ _ ⟨e,h1,h2⟩ he=>⟨e,h1,h2.ext he⟩)
   ·intro wd hd;(conv=>whnf);refine zcv (hfk2 wd (hm.drew.call hd).ext (hB.ext (hm.drew.call hd).ext)) ?_;rintro v w11 ⟨⟨e,rfl,hE⟩,he11⟩;exact ⟨he11,e,rfl,hE⟩
   (conv=>whnf);apply StepD.of (fun v wx=>∃ e,v=.tuple #[.pointer none,e]∧ErrAt wx e p q) (fun _ _ _ ⟨e,h1,h2⟩ he=>⟨e,h1,h2.ext he⟩)
   ·intro wd hd;(conv=>whnf);rintro v ⟨e,rfl,hE⟩;obtain ⟨eb,rfl,hec⟩:=hE;(conv=>whnf);exact ⟨xr,_,rfl,eb,rfl,hec⟩
   (conv=>whnf);refine zsd (.pointer none) (fun wd hd=>zw ?_) (zw ?_)
   ·rintro v ⟨e,rfl,eb,rfl,hec⟩;(conv=>whnf);exact ⟨xr,rfl⟩
   apply StepD.of (fun v wx=>ErrAt wx v p q) (fun _ _ _ h he=>h.ext he)
   ·intro wd hd;(conv=>whnf);rintro v ⟨e,rfl,eb,rfl,hec⟩;(conv=>whnf);exact ⟨xr,eb,rfl,hec⟩
   (conv=>whnf);apply zsd (.pointer none)
   ·intro wd hd;conv=>whnf
    repeat (intro _ _;(conv=>whnf))
    exact ⟨xr,rfl⟩
   (conv=>whnf);apply StepD.of (fun v wx=>ErrAt wx v p q) (fun _ _ _ h he=>h.ext he)
   ·intro wd hd;conv=>whnf
    repeat (rintro v ⟨eb,rfl,hec⟩;(conv=>whnf))
    exact ⟨xr,_,rfl,by assumption⟩
   (conv=>whnf);intro w11 he11;have hm:=hm.drew.call he11;clear he11;(conv=>whnf);rintro v ⟨eb,rfl,hec⟩;conv=>whnf
   repeat (intro _ _;(conv=>whnf))
   refine ⟨fun pb w12 hpb hw12=>?_⟩;have he12:Ext w11 w12:=by rw [hw12];exact xr.alloc _
   have hm:=hm.new hpb hw12;have hec:=hec.ext he12;clear he12 hw12 hpb;(conv=>whnf);refine zcv (qw6 eb pb hm (i:=0) rfl (hG.ext hm.ext)) ?_;rintro r w13 ⟨rfl,hm',w4',he4',hfr⟩;have hne:eb≠pb:=by
    intro e;have h1:=hec 0 _ rfl;rw [e,qa (hm.get mh)] at h1;cases h1
   have hec:=(hec.ext he4').other hne hfr;have hm:Mem w w13 [(pb,.cells #[pp eb] 255),(vb,.cells (fnA 7 (vF (d) l (k))) 204),(pl,.cells (fnA 3 (inF (P))) 56),(sz,.cells (fnA 3 (inF (Q))) 56),(cb,curO 288 (.slice A l.length c) (vAt l 3) 0),(r5,.cells (fnA 3 (inF (fun _:Nat=>(0:Int)))) 56)]:=hm';have hr5:eb≠r5:=by
    intro e;have h1:=hec 1 _ rfl;have hg5:w13.heap[r5]?=some (.cells (fnA 3 (inF fun _:Nat=>(0:Int))) 56):=hm.get Js;rw [e,qa hg5] at h1;cases h1
   clear hm' he4' hfr;refine zu ?_;refine DrawV.gen (fun S vals w'=>Er w [(pb,.cells #[pp eb] 255),(vb,.cells (fnA 7 (vF (d) l (k))) 204),(pl,.cells (fnA 3 (inF (P))) 56),(sz,.cells (fnA 3 (inF (Q))) 56),(cb,curO 288 (.slice A l.length c) (vAt l 3) 0),(r5,.cells (bif S 17 then fnA 3 (inF P) else fnA 3 (inF fun _:Nat=>(0:Int))) 56)] (errO (y+p) q) (fun b=>pp b) errV errV (S 14) (S 15) (S 18) (vals 14) (vals 15) (vals 18) w'∧CellsAt w' eb 0 [ii p,.iface 61 (ii q)]) rfl Ok (fun vals=>⟨Er.start hm.drew,hec.ext xr.drew⟩) ?_;clear hm hec;(conv=>whnf);refine StepG.of (.agg (fnA 3 (inF P))) (fun S vals wd hk hp hI=>zw ?_) (zw ?_)
   ·refine LoadA.mem hI.1.mem (i:=2) rfl (by simp [qn];rfl) (zw ?_);exact ⟨rfl,hI⟩
   refine zg ?_;refine zg ?_;refine StepG.of (ii (y:Nat)) (fun S vals wd hk hp hI=>zw ?_) (zw ?_)
   ·refine LoadV.fim (x:=((y:Nat):Int)) hI.1.mem (b:=pl) (F:=P) (n:=3) (t:=56) Js k (by rw [show tsz Tryz.prog 3=1 from by kernel_rfl];omega) Oo hPk (zw ?_);exact ⟨rfl,hI⟩
   refine StepG.of (pp eb) (fun S vals wd hk hp hI=>zw ?_) (zw ?_)
   ·refine zr hI.1.mem 0 ?_;exact ⟨rfl,hI⟩
   refine zg ?_;refine zg ?_;refine StepG.of (ii p) (fun S vals wd hk hp hI=>zw ?_) (zw ?_)
   ·refine LoadV.of (hI.2 0 _ rfl) (zw ?_);exact ⟨rfl,hI⟩
   refine zg ?_;refine StepG.of (pp eb) (fun S vals wd hk hp hI=>zw ?_) (zw ?_)
   ·refine zr hI.1.mem 0 ?_;exact ⟨rfl,hI⟩
   refine zg ?_;refine zg ?_;refine StepG.of (.iface 61 (ii q)) (fun S vals wd hk hp hI=>zw ?_) (zw ?_)
   ·refine LoadV.of (hI.2 1 _ rfl) (zw ?_);exact ⟨rfl,hI⟩
   refine zg ?_;refine StepG.any (fun S vals wd hk hp hI=>?_) (zw ?_)
   ·dsimp only at hI;rw [hk] at hI;(conv=>whnf);refine ⟨fun x wx hb hw=>?_⟩;subst hb hw;(conv=>whnf);exact ⟨trivial,hI.1.alloc,hI.2.ext (xr.alloc _)⟩
   refine StepG.any (fun S vals wd hk hp hI=>?_) (zw ?_)
   ·have h4:S 14=true:=hp 14 Od;dsimp only at hI;rw [hk,h4] at hI;obtain ⟨nb,hv,h3,_⟩:=hI.1.see;rw [ql hv];(conv=>whnf);exact ⟨trivial,by show Er _ _ _ _ _ _ (S 14) true (S 18) _ _ _ _;rw [h4];exact h3,hI.2⟩
   refine zg ?_;refine StepG.of undef (fun S vals wd hk hp hI=>?_) (zw ?_)
   ·dsimp only at hI;rw [hk] at hI;(conv=>whnf);refine hI.1.store (i:=5) rfl (by simp [qn]) (qft 3 _) rfl ?_;intro wx hfr hx;(conv=>whnf);exact ⟨rfl,hx,hI.2.other hr5 hfr⟩
   refine StepG.any (fun S vals wd hk hp hI=>?_) (zw ?_)
   ·have h4:S 15=true:=hp 15 Od;dsimp only at hI;rw [hk,h4] at hI;obtain ⟨nb,hv,h3⟩:=hI.1.see2;rw [ql hv];(conv=>whnf);exact ⟨trivial,by show Er _ _ _ _ _ _ (S 14) (S 15) true _ _ _ _;rw [h4];exact h3,hI.2⟩
   intro vals w14 hI;obtain ⟨nb,hv1,hv3,hm⟩:=hI.1.done;rw [ql hv1,ql hv3];clear hI;(conv=>whnf);refine qaa (R:=fun v w'=>FndR l E v w'∧Ext w w') (zw ?_);refine LoadA.mem hm (i:=6) rfl (by simp [qn];rfl) (zw ?_);exact ⟨.inl ⟨by rw [hEf];exact hEk,P,errV nb,rfl,⟨nb,rfl,by rw [hEf];exact CellsAt.mem hm mh⟩⟩,hm.ext⟩
 obtain rfl:k=3:=by omega
 have hE3:(fE l E).2=0:=by
  rw [hfE];exact qbw fun j hj=>by simp only [if_pos (hEz j hj)]
 refine DrawV.inv (fun S w'=>Mem w w' [(vb,.cells (fnA 7 (vF (d) l (3))) 204),(pl,.cells (fnA 3 (inF (P))) 56),(sz,.cells (fnA 3 (inF (Q))) 56),(cb,curO 288 (.slice A l.length c) (vAt l 3) 0),(r5,.cells (bif S 3 then fnA 3 (inF P) else fnA 3 (inF fun _:Nat=>(0:Int))) 56)]∧∀ j,j<3→DictAt w' (d j) (sDict l j)) rfl Ok ⟨hm.drew,fun j hj=>(hD j hj).ext xr.drew⟩ ?_;clear hm hD;(conv=>whnf);refine zi ?_;refine StepI.of (.agg (fnA 3 (inF P))) (fun S wd hk hp hI=>zw ?_) (zw ?_)
 ·refine LoadA.mem hI.1 (i:=1) rfl (by simp [qn];rfl) (zw ?_);exact ⟨rfl,hI⟩
 refine zi ?_;refine StepI.of undef (fun S wd hk hp hI=>?_) (zw ?_)
 ·dsimp only at hI;rw [hk] at hI;(conv=>whnf);have hx:wd.heap[r5]?=some (.cells (fnA 3 (inF fun _:Nat=>(0:Int))) 56):=hI.1.get Js;refine StoreA.row hI.1 (i:=4) rfl (by simp [qn]) (qft 3 P) fun wx hfr _ hmx=>zw ?_;refine ⟨rfl,hmx,fun j hj=>(hI.2 j hj).other hx Od ?_ hfr⟩;intro v hv c;obtain ⟨m,hm',rfl⟩:=List.mem_map.1 (show v∈(List.range 3).map (inF fun _:Nat=>(0:Int)) from hv);intro e;cases e
 refine zi ?_;intro w12 hI;obtain ⟨hm,hD⟩:=hI;(conv=>whnf);refine qaa (R:=fun v w'=>FndR l E v w'∧Ext w w') (zw ?_);refine LoadA.mem hm (i:=4) rfl (by simp [qn];rfl) (zw ?_);exact ⟨.inr ⟨hE3,vb,P,rfl,fun k hk=>hP k hk,d,hm.get mh,hD⟩,hm.ext⟩
def VVwR (l:LB) (v:Value) (w:World):Prop:=
 ((wE l).2≠0∧∃ e,v=.tuple #[.pointer none,e]∧ErrAt w e (wE l).1 (wE l).2)∨((wE l).2=0∧∃ b,v=.tuple #[pp b,.nilIface]∧VocAt w b l)
theorem qt7 (l:LB) (k:Nat):(sDict l k).length≤l.length:=by
 rw [sDict,List.length_take,zld];omega
theorem qr7 (l:LB) (A:oA) (c:Nat) (w:World) (hS:SlAt encB 1 w A l) (hc:l.length≤c) (hl:l.length≤70368744177664) (hG:ErrTyp w) :
  Gv Tryz.prog 56 [.slice A l.length c] w fun v w'=>VVwR l v w'∧Ext w w':=by
 have hfd:=qx7 l A c w hS hc hl hG 101 (fun k=>dE (sDict l k)) (fun k _=>Nat.le_trans (Nat.le_trans (q85 (sDict l k)) (qt7 l k)) Oo) (fun k _ w' B c' hx hB hc'=>(qxy (sDict l k) B c' w' hB hc' (by have:=qt7 l k;omega)).mono fun v w'' ⟨h,he⟩=>⟨by
   rcases h with ⟨h0,e,h1,h2⟩|⟨h0,b,h1,_,h2⟩
   ·exact .inl ⟨h0,e,h1,h2⟩
   ·exact .inr ⟨h0,b,h1,h2⟩,he⟩)
 have hE:fE l (fun k=>dE (sDict l k))=wE l:=rfl;refine ze Tryz.func56 Tryz.ntmps56 ?_;refine zcv (hfd) ?_;rintro v w1 ⟨⟨h0,G,e,rfl,eb,rfl,hec⟩|⟨h0,b,G,rfl,hG2,hV⟩,he⟩
 all_goals
  rw [hE] at h0;(conv=>whnf);refine znm (Mem.nil w1) fun t5 w2 hm=>zw ?_;refine StoreA.all hm (i:=0) rfl (by simp [qn]) (qft 3 G) fun w3 hm=>zu ?_
 ·rw [hE] at hec;exact ⟨.inl ⟨h0,_,rfl,eb,rfl,CellsAt.ext hec hm.ext⟩,he.trans hm.ext⟩
 ·exact ⟨.inr ⟨h0,b,rfl,VocAt.ext hV hm.ext⟩,he.trans hm.ext⟩
theorem VocAt.cell {w:World} {b:Nat} {l:LB} (h:VocAt w b l):∃ d:Nat→Nat,(∀ k,k<3→w.cell? ⟨b,2*k,none⟩=some (.pointer (some ⟨d k,0,none⟩))∧w.cell? ⟨b,2*k+1,none⟩=some (ii (vTot l k+1:Nat))∧DictAt w (d k) (sDict l k))∧
  w.cell? ⟨b,6,none⟩=some (ii (vTot l 3:Nat)):=by
 obtain ⟨d,h1,h2⟩:=h;refine ⟨d,fun k hk=>⟨?_,?_,h2 k hk⟩,?_⟩
 ·rw [qa h1,qan 7 _ _ Oo,vF,if_neg Oo,if_pos Oo,if_pos Oo,show 2*k/2=k by omega]
 ·rw [qa h1,qan 7 _ _ Oo,vF,if_neg Oo,if_pos Oo,if_neg Oo,show (2*k+1)/2=k by omega]
 ·rw [qa h1,qan 7 _ _ Oo,vF,if_pos rfl]
theorem VocAt.tot {w:World} {b:Nat} {l:LB} (h:VocAt w b l) {k:Nat} (hk:k≤3):vTot l k≤12582912:=by
 obtain ⟨d,_,h2⟩:=h;have h0:=(h2 0 Oo).n;have h1:=(h2 1 Oo).n;have h3:=(h2 2 Oo).n
 rcases (show k=0∨k=1∨k=2∨k=3 by omega) with rfl|rfl|rfl|rfl<;>simp only [vTot]<;>omega
noncomputable def q8y (l:LB) (id:Nat):Option TM:=
 if id=0 then some ⟨0,⟨#[]⟩,⟨#[]⟩,⟨#[]⟩⟩ else if vTot l 3<id then none else
  match dGet (sDict l (q7b l id)) (id-(vTot l (q7b l id)+1)) with
  | some s=>q9g ((q7b l id+1:Nat):Int) s
  | none=>none
def zTM:TM:=⟨0,⟨#[]⟩,⟨#[]⟩,⟨#[]⟩⟩
noncomputable def uT (l:LB) (q:Nat→Nat) (j:Nat):TM:=(q8y l (q j)).getD zTM
noncomputable def q4Of (l:LB) (q:Nat→Nat):Q4:=⟨uT l q 1,uT l q 2,uT l q 3,uT l q 0⟩
def zQ:Q4:=⟨zTM,zTM,zTM,zTM⟩
def idsV (q:Nat→Nat):Value:=.agg #[ii (q 0:Nat),ii (q 1:Nat),ii (q 2:Nat),ii (q 3:Nat)]
def pS1 (l:LB):Prop:=(crcL (qh6 l)).toNat=leN ((l.drop (28+hN l 4)).take 4)
def pS2 (l:LB):Prop:=(crcL (qkj l)).toNat=leN ((l.drop (32+hN l 4+hN l 5)).take 4)
def q9c (l:LB) (i:Nat):Prop:=(∀ j,j<4→q8y (qh6 l) (tNum (qkj l) i j)≠none)∧qa9 (q4Of (qh6 l) (tNum (qkj l) i))=0
def q9a (l:LB):Prop:=∀ i,i<vNum (qkj l) 3→q9c l i
def q9b (l:LB):Prop:=∀ id,1≤id→id≤vTot (qh6 l) 3→∃ i,i<vNum (qkj l) 3∧∃ j,j<4∧tNum (qkj l) i j=id
open Classical in
noncomputable def poE (l:LB):Nat × Nat:=
 if (q7w l).2≠0 then q7w l else if ¬ pS1 l then (28+hN l 4,30) else if ¬ pS2 l then (32+hN l 4+hN l 5,30)
 else if (vwE (qh6 l)).2≠0 then (28+(vwE (qh6 l)).1,(vwE (qh6 l)).2) else if (toE (qkj l)).2≠0 then (32+hN l 4+(toE (qkj l)).1,(toE (qkj l)).2)
 else if vNum (qkj l) 3≠hN l 2 then (8,180) else if vTot (qh6 l) 3≠hN l 3 then (12,170)
 else if ¬ q9a l then (32+hN l 4,180) else if ¬ q9b l then (28,170) else (0,0)
section
variable {l:LB}
end
structure VTm (l:LB) (k j:Nat) (ts:List TM):Prop where
 len:ts.length=vTot l k+j
 ok:∀ t∈ts,TermOk t
 at_:∀ k' j',(k'<k∧j'<dN (sDict l k'))∨(k'=k∧j'<j)→∃ s t,dGet (sDict l k') j'=some s∧s.length≤262144∧ReadsAs ((k'+1:Nat):Int) s t∧ts[vTot l k'+j']?=some t
theorem qf0:Tryz.prog.underlying 97=some (.slice 24):=Tryz.underlying97
theorem trmI:Tryz.prog.info? 24=some ((Tryz.prog.info? 24).get Ok):=(Option.some_get _).symm
theorem trmZ:((Tryz.prog.info? 24).get Ok).zero=some ((((Tryz.prog.info? 24).get Ok).zero).get Ok):=(Option.some_get _).symm
def txtC (a b:ByteArray):Int:=if slt a b=true then -1 else if seq a b=true then 0 else 1
def cmpT (a b:TM):Int:=
 if a.kind≠b.kind then (if a.kind<b.kind then -1 else 1) else if txtC a.text b.text≠0 then txtC a.text b.text else if txtC a.type b.type≠0 then txtC a.type b.type else txtC a.lang b.lang
theorem qh0 (a b:ByteArray) (w:World):Gv Tryz.prog 122 [.string a,.string b] w fun r w'=>r=ii (txtC a b)∧w'=w:=by
 cases h1:slt a b
 ·cases h2:seq a b
  ·refine ze Tryz.func122 Tryz.ntmps122 ?_;rw [h1];refine zv ?_;rw [h1,h2];refine zv ?_;exact ⟨by simp [txtC,h1,h2],rfl⟩
  ·refine ze Tryz.func122 Tryz.ntmps122 ?_;rw [h1];refine zv ?_;rw [h1,h2];refine zv ?_;exact ⟨by simp [txtC,h1,h2],rfl⟩
 ·refine ze Tryz.func122 Tryz.ntmps122 ?_;rw [h1];refine zv ?_;exact ⟨by simp [txtC,h1],rfl⟩
theorem qax (a b:TM) (w:World):Gv Tryz.prog 70 [qbq a,qbq b] w fun r w'=>r=ii (cmpT a b)∧Ext w w':=by
 refine ze Tryz.func70 Tryz.ntmps70 ?_;refine znm (Mem.nil w) fun b1 w1 hm=>zw ?_;refine znm hm fun b2 w2 hm=>zw ?_
 by_cases hk:a.kind=b.kind
 ·refine LoadV.mem (i:=1) Oa rfl rfl (zw ?_);refine LoadV.mem (i:=0) Oa rfl rfl (zw ?_);refine zt ?_;refine LoadV.mem (i:=1) Oa rfl rfl (zw ?_);refine LoadV.mem (i:=0) Oa rfl rfl (zw ?_);refine zcv (qh0 a.text b.text w2) ?_;rintro v w3 ⟨rfl,hw⟩;subst hw;conv=>whnf
  by_cases h1:txtC a.text b.text=0
  ·refine zt ?_;refine LoadV.mem (i:=1) Oa rfl rfl (zw ?_);refine LoadV.mem (i:=0) Oa rfl rfl (zw ?_);refine zcv (qh0 a.type b.type w3) ?_;rintro v w4 ⟨rfl,hw⟩;subst hw;conv=>whnf
   by_cases h2:txtC a.type b.type=0
   ·refine zt ?_;refine LoadV.mem (i:=1) Oa rfl rfl (zw ?_);refine LoadV.mem (i:=0) Oa rfl rfl (zw ?_);refine zcv (qh0 a.lang b.lang w4) ?_;rintro v w5 ⟨rfl,hw⟩;subst hw;(conv=>whnf);exact ⟨by rw [cmpT,if_neg (by simpa using hk),if_neg (by simpa using h1),if_neg (by simpa using h2)],hm.ext⟩
   ·refine zv ?_;exact ⟨by rw [cmpT,if_neg (by simpa using hk),if_neg (by simpa using h1),if_pos h2],hm.ext⟩
  ·refine zv ?_;exact ⟨by rw [cmpT,if_neg (by simpa using hk),if_pos h1],hm.ext⟩
 ·refine LoadV.mem (i:=1) Oa rfl rfl (zw ?_);refine LoadV.mem (i:=0) Oa rfl rfl (zw ?_);refine zt ?_;refine LoadV.mem (i:=1) Oa rfl rfl (zw ?_);refine LoadV.mem (i:=0) Oa rfl rfl (zw ?_);refine zC (fun _=>zw ?_) (fun _=>zw ?_)
  ·exact ⟨by rw [cmpT,if_pos hk,if_pos Oa],hm.ext⟩
  ·exact ⟨by rw [cmpT,if_pos hk,if_neg Oa],hm.ext⟩
theorem q26 (q:Q4):qa9 q=if qE 0 q.s≠0 then qE 0 q.s else if qE 1 q.p≠0 then qE 1 q.p else if qE 2 q.o≠0 then qE 2 q.o else qE 3 q.g:=by
 have hlen:((List.range 4).map fun k=>qE k (q.at k)).length=4:=by simp
 have hget:∀ j (hj:j<((List.range 4).map fun k=>qE k (q.at k)).length),((List.range 4).map fun k=>qE k (q.at k))[j]=qE j (q.at j):=fun j hj=>by simp
 have hbad:∀ k,k<4→(∀ j,j<k→qE j (q.at j)=0)→qE k (q.at k)≠0→qa9 q=qE k (q.at k):=fun k hk h hne=>by
  rw [qa9,qjb (k:=k) (by rw [hlen];exact hk) (fun j hj hjk=>by rw [hget];exact h j hjk) (by rw [hget];exact hne),hget]
 by_cases h0:qE 0 q.s≠0
 ·rw [if_pos h0];exact hbad 0 Oo (fun j h=>by omega) h0
 rw [if_neg h0]
 by_cases h1:qE 1 q.p≠0
 ·rw [if_pos h1];exact hbad 1 Oo (fun j h=>by (obtain rfl:j=0:=by omega);exact Decidable.not_not.1 h0) h1
 rw [if_neg h1]
 by_cases h2:qE 2 q.o≠0
 ·rw [if_pos h2];exact hbad 2 Oo (fun j h=>by
   rcases (show j=0∨j=1 by omega) with rfl|rfl
   ·exact Decidable.not_not.1 h0
   ·exact Decidable.not_not.1 h1) h2
 rw [if_neg h2]
 by_cases h3:qE 3 q.g≠0
 ·exact hbad 3 Oo (fun j h=>by
   rcases (show j=0∨j=1∨j=2 by omega) with rfl|rfl|rfl
   ·exact Decidable.not_not.1 h0
   ·exact Decidable.not_not.1 h1
   ·exact Decidable.not_not.1 h2) h3
 ·rw [Decidable.not_not.1 h3,qa9,qdv fun j hj=>by
   rw [hget];rw [hlen] at hj
   rcases (show j=0∨j=1∨j=2∨j=3 by omega) with rfl|rfl|rfl|rfl
   ·exact Decidable.not_not.1 h0
   ·exact Decidable.not_not.1 h1
   ·exact Decidable.not_not.1 h2
   ·exact Decidable.not_not.1 h3]
theorem q8m {k:Nat} {t:TM} (hk:k=0∨k=1) (h:canB k t=true):qE k t=qas t:=by rw [qE,if_neg (by rw [h];simp),if_neg Oo]
theorem qE_2 (t:TM):qE 2 t=qas t:=by
 rw [qE]
 by_cases h:canB 2 t=false
 ·rw [if_pos h];rw [canB,if_neg Oo,if_neg Oo,if_pos Oo,Bool.and_eq_false_iff,decide_eq_false_iff_not,decide_eq_false_iff_not] at h;rw [qas,if_neg Oo,if_neg Oo]
 ·rw [if_neg h,if_neg Oo]
theorem qeb (q:Q4) (hq:qci q) (w:World):Gv Tryz.prog 45 [qef q] w fun v w'=>v=ii (qa9 q)∧Ext w w':=by
 refine ze Tryz.func45 Tryz.ntmps45 ?_;refine znm (Mem.nil w) ?_;intro b w1 hm;have hc:CellsAt w1 b 0 (q7 q):=CellsAt.mem hm mh;have e0:canB 0 q.s=(decide (q.s.kind=1)||decide (q.s.kind=2)):=by rw [canB,if_pos Oo]
 have e1:canB 1 q.p=decide (q.p.kind=1):=by rw [canB,if_neg Oo,if_pos Oo]
 have e3:canB 3 q.g=(qsd q.g||decide (q.g.kind=1)||decide (q.g.kind=2)):=by rw [canB,if_neg Oo,if_neg Oo,if_neg Oo]
 have hz:∀ t:TM,qck t ⟨0,⟨#[]⟩,⟨#[]⟩,⟨#[]⟩⟩=qsd t:=fun _=>rfl
 rw [q26];conv=>whnf
 (repeat' (first|refine zp ?_|refine zC (fun _=>zw ?_) (fun _=>zw ?_)|refine LoadV.mem (i:=0) Oa rfl rfl (zw ?_)))
 ·exact ⟨by rw [if_pos (by rw [qE,if_pos (by rw [e0];simp;omega)];decide),qE,if_pos (by rw [e0];simp;omega)];rfl,hm.ext⟩
 all_goals
  have c0:canB 0 q.s=true:=by rw [e0];simp;omega
  rw [q8m (.inl rfl) c0];refine LoadA.cells (qi hc 0 Oo) rfl (zw ?_);refine zcv (qaz q.s (hq 0) w1) ?_;rintro v w2 ⟨rfl,he2⟩;have hm:=hm.call he2;have hc:=hc.ext he2;conv=>whnf
  by_cases hs:qas q.s=0
  ·rw [if_neg Oo]
   (repeat' (first|refine zp ?_|refine zC (fun _=>zw ?_) (fun _=>zw ?_)|refine LoadV.mem (i:=0) Oa rfl rfl (zw ?_)))
   ·exact ⟨by rw [if_pos (by rw [qE,if_pos (by rw [e1];simp;omega)];decide),qE,if_pos (by rw [e1];simp;omega)];rfl,hm.ext⟩
   have c1:canB 1 q.p=true:=by rw [e1];simp;omega
   rw [q8m (.inr rfl) c1];refine LoadA.cells (qi hc 1 Oo) rfl (zw ?_);refine zcv (qaz q.p (hq 1) w2) ?_;rintro v w3 ⟨rfl,he3⟩;have hm:=hm.call he3;have hc:=hc.ext he3;conv=>whnf
   by_cases hp:qas q.p=0
   ·rw [if_neg Oo];refine zv ?_;rw [qE_2];refine LoadA.cells (qi hc 2 Oo) rfl (zw ?_);refine zcv (qaz q.o (hq 2) w3) ?_;rintro v w4 ⟨rfl,he4⟩;have hm:=hm.call he4;have hc:=hc.ext he4;conv=>whnf
    by_cases ho:qas q.o=0
    ·rw [if_neg Oo];refine zv ?_;refine LoadA.cells (qi hc 3 Oo) rfl (zw ?_);refine RunV.eqTerm (a:=q.g) (b:=⟨0,⟨#[]⟩,⟨#[]⟩,⟨#[]⟩⟩) (.inl rfl) ?_;rw [hz];cases hg:qsd q.g
     ·rw [hg] at e3;refine zu ?_
      (repeat' (first|refine zp ?_|refine zC (fun _=>zw ?_) (fun _=>zw ?_)|refine LoadV.mem (i:=0) Oa rfl rfl (zw ?_)))
      ·exact ⟨by rw [qE,if_pos (by rw [e3];simp;omega)];rfl,hm.ext⟩
      all_goals
       have c3:canB 3 q.g=true:=by rw [e3];simp;omega
       refine LoadA.cells (qi hc 3 Oo) rfl (zw ?_);refine zcv (qaz q.g (hq 3) w4) ?_;rintro v w5 ⟨rfl,he5⟩;(conv=>whnf);exact ⟨by rw [qE,if_neg (by rw [c3];simp),if_neg Oo],hm.ext.trans he5⟩
     ·have c3:canB 3 q.g=true:=by rw [e3,hg];rfl
      have hk0:q.g.kind=0:=by
       have:=qb0.1 ((hz q.g).trans hg);rw [this]
      refine zu ?_;exact ⟨by rw [qE,if_neg (by rw [c3];simp),if_pos ⟨rfl,hk0⟩];rfl,hm.ext⟩
    ·rw [if_pos ho];refine zv ?_;exact ⟨rfl,hm.ext⟩
   ·rw [if_pos hp];refine zv ?_;exact ⟨rfl,hm.ext⟩
  ·rw [if_pos hs];refine zv ?_;exact ⟨rfl,hm.ext⟩
theorem qb2 {α:Type} (enc:α→List Value) (size:Nat) (henc:∀ x,(enc x).length=size):∀ (l:List α) (j:Nat) (x:α) (k:Nat),l[j]?=some x→k<size→((l.map enc).flatten)[j*size+k]?=(enc x)[k]?
 | [],j,x,k,h,_=>by simp at h
 | y::l,0,x,k,h,hk=>by
  simp only [List.getElem?_cons_zero,Option.some.injEq] at h;subst h;simp only [List.map_cons,List.flatten_cons,Nat.zero_mul,Nat.zero_add];rw [List.getElem?_append_left (by rw [henc];exact hk)]
 | y::l,j+1,x,k,h,hk=>by
  simp only [List.getElem?_cons_succ] at h;simp only [List.map_cons,List.flatten_cons];rw [List.getElem?_append_right (by rw [henc,Nat.succ_mul];omega),henc,show (j+1)*size+k-size=j*size+k by rw [Nat.succ_mul];omega];exact qb2 enc size henc l j x k h hk
theorem qd3 {α:Type} {enc:α→List Value} {size n c base:Nat} {e:TypeId} {A:oA} {w:World} {l:List α} (henc:∀ x,(enc x).length=size) (h:w.ownsRow base e size (.slice A n c) n (l.map enc).flatten) (hn:l.length=n) :
  SlAt enc size w A l∧n≤c:=by
 obtain ⟨h1,⟨h2,h3⟩|⟨g,cap,cur,h2,_,h3,h4,_,h5,h6⟩⟩:=h
 ·subst h3;refine ⟨⟨fun hne=>absurd (List.eq_nil_of_length_eq_zero hn) hne⟩,Nat.zero_le _⟩
 ·cases h2;refine ⟨⟨fun _=>⟨g,0,rfl,fun j x hx k v hv=>?_⟩⟩,h4⟩;have hk:k<size:=by
   have:=(List.getElem?_eq_some_iff.1 hv).1
   rwa [henc] at this
  have hj:j<n:=by rw [← hn];exact (List.getElem?_eq_some_iff.1 hx).1
  have hjk:j*size+k<n*size:=by
   have:(j+1)*size≤n*size:=Nat.mul_le_mul_right _ hj;rw [Nat.succ_mul] at this;omega
  rw [qa h3,Nat.zero_add,← hv,← qb2 enc size henc l j x k hx hk,← h6,List.getElem?_take,if_pos hjk];simp
theorem q6 (t:TM):(encT t).length=4:=rfl
def qai (out:List TM) (x:TM):List TM:=
 match out.getLast? with
 | some z=>bif qck z x then out else out++[x]
 | none=>out++[x]
def mrgN:Nat→List TM→List TM→List TM→List TM
 | 0,_,_,out=>out
 | f+1,a,b,out=>
  match a,b with
  | [],[]=>out
  | x::a,[]=>mrgN f a [] (qai out x)
  | [],y::b=>mrgN f [] b (qai out y)
  | x::a,y::b=>if cmpT x y≤0 then mrgN f a (y::b) (qai out x) else mrgN f (x::a) b (qai out y)
def tmsN:Nat→List TM→List TM
 | 0,l=>l
 | f+1,l=>if l.length<2 then l else mrgN ((tmsN f (l.take (l.length/2))).length+(tmsN f (l.drop (l.length/2))).length) (tmsN f (l.take (l.length/2))) (tmsN f (l.drop (l.length/2))) []
theorem qiv (out:List TM) (x:TM):(qai out x).length≤out.length+1:=by
 unfold qai
 split
 ·cases qck _ x<;>simp
 ·simp
theorem qjk:∀ (f:Nat) (a b out:List TM),(mrgN f a b out).length≤a.length+b.length+out.length
 | 0,a,b,out=>by rw [mrgN];omega
 | f+1,a,b,out=>by
  unfold mrgN
  split
  ·omega
  ·rename_i x a
   have:=qjk f a [] (qai out x);have:=qiv out x;simp only [List.length_cons] at *;omega
  ·rename_i y b
   have:=qjk f [] b (qai out y);have:=qiv out y;simp only [List.length_cons] at *;omega
  ·rename_i x a y b
   split
   ·have:=qjk f a (y::b) (qai out x);have:=qiv out x;simp only [List.length_cons] at *;omega
   ·have:=qjk f (x::a) b (qai out y);have:=qiv out y;simp only [List.length_cons] at *;omega
theorem qkc:∀ (f:Nat) (l:List TM),(tmsN f l).length≤l.length
 | 0,l=>Nat.le_refl _
 | f+1,l=>by
  rw [tmsN]
  split
  ·exact Nat.le_refl _
  ·have h1:=qkc f (l.take (l.length/2));have h2:=qkc f (l.drop (l.length/2));refine Nat.le_trans (qjk _ _ _ _) ?_;rw [List.length_take] at h1;rw [zld] at h2;simp only [List.length_nil];omega
def TmR (l:List TM) (v:Value) (w:World):Prop:=∃ B d,v=.slice B l.length d∧l.length≤d∧SlAt encT 4 w B l
theorem TmR.ext {l:List TM} (v:Value) (w w':World) (h:TmR l v w) (he:Ext w w'):TmR l v w':=by
 obtain ⟨B,d,h1,h2,h3⟩:=h;exact ⟨B,d,h1,h2,h3.ext he⟩
theorem qa4 {α:Type} (enc:α→List Value) (size:Nat) (henc:∀ x,(enc x).length=size) (l:List α):((l.map enc).flatten).length=l.length*size:=by
 induction l with
 | nil=>simp
 | cons x l ih=>simp only [List.map_cons,List.flatten_cons,zla,henc,ih,List.length_cons,Nat.succ_mul];omega
theorem qds {α:Type} {enc:α→List Value} {size:Nat} (hsz:0<size) (henc:∀ x,(enc x).length=size) {w:World} {b off:Nat} {l:List α} (h:∀ (j:Nat) x,l[j]?=some x→CellsAt w b (off+j*size) (enc x)):CellsAt w b off (l.map enc).flatten:=by
 intro k v hv;have hk:=(List.getElem?_eq_some_iff.1 hv).1;rw [qa4 enc size henc] at hk;have hj:k/size<l.length:=(Nat.div_lt_iff_lt_mul hsz).2 hk;have hx:=zge hj;have hm:=Nat.mod_lt k hsz;have he:=qb2 enc size henc l (k/size) _ (k%size) hx hm;rw [show k/size*size+k%size=k from by rw [Nat.mul_comm];exact Nat.div_add_mod k size] at he;rw [he] at hv;have:=h (k/size) _ hx (k%size) v hv
 rwa [show off+k/size*size+k%size=off+k from by rw [Nat.add_assoc,show k/size*size+k%size=k from by rw [Nat.mul_comm];exact Nat.div_add_mod k size]] at this
theorem qgu (l:List TM) (A:oA) (c:Nat) (w:World) (h2:l.length<2) (hS:SlAt encT 4 w A l) :
  Gv Tryz.prog 76 [.slice A l.length c] w fun v w'=>TmR l v w'∧Ext w w':=by
 refine ze Tryz.func76 Tryz.ntmps76 ?_;refine zv ?_;refine ⟨fun nb w1 hb hw=>?_⟩;have he1:Ext w w1:=by rw [hw];exact xr.alloc _
 have hg:w1.heap[nb]?=some (.cells #[] 24):=by rw [hw,hb];exact heap_alloc_new w _
 have hR:Rw w w1 (.slice (some ⟨nb,0,none⟩) 0 0) 24 4 0 [] []:=⟨(Mem.nil w).call he1,⟨rfl,.inr ⟨nb,0,#[],rfl,by omega,hg,Nat.le_refl _,Nat.zero_le _,rfl,rfl⟩⟩,fun x hx=>by simp at hx⟩
 (conv=>whnf);refine AppV.rw (m:=l.length) (news:=(l.map encT).flatten) qf0 trmI trmZ Ok Ok Od hR (qa4 encT 4 q6 l) (fun hne=>?_) ?_ (by rw [show ((Tryz.prog.info? 24).get Ok).bytes=56 from by kernel_rfl];omega) Oo ?_
 ·obtain ⟨b,off,h3,h4⟩:=hS.at_ (by intro e;subst e;exact hne rfl);exact ⟨b,off,h3,(qds Od q6 h4).ext he1⟩
 ·intro u hu;obtain ⟨x,hx,hux⟩:=List.mem_flatten.1 hu;obtain ⟨t,_,rfl⟩:=List.mem_map.1 hx;exact qq t u hux
 intro B d w2 hR2;(conv=>whnf);have e:0+l.length=l.length:=Nat.zero_add _;rw [e] at hR2 ⊢;obtain ⟨h3,h4⟩:=qd3 q6 hR2.own rfl;exact ⟨⟨B,d,rfl,h4,h3⟩,hR2.mem.ext⟩
theorem q54 {x y:TM} {a b out:List TM} (h:cmpT x y≤0):mrgN ((x::a).length+(y::b).length) (x::a) (y::b) out=mrgN (a.length+(y::b).length) a (y::b) (qai out x):=by
 rw [show (x::a).length+(y::b).length=(a.length+(y::b).length)+1 by simp;omega,mrgN,if_pos h]
theorem q53 {x y:TM} {a b out:List TM} (h:¬cmpT x y≤0):mrgN ((x::a).length+(y::b).length) (x::a) (y::b) out=mrgN ((x::a).length+b.length) (x::a) b (qai out y):=by
 rw [show (x::a).length+(y::b).length=((x::a).length+b.length)+1 by simp;omega,mrgN,if_neg h]
theorem V.SlAt.pop {w:World} {A:oA} {x:TM} {a l:List TM} {c:Nat} (h:SlAt encT 4 w A l) (e:l=x::a) (hc:l.length≤c) :
  (∃ g o,A=some ⟨g,o,none⟩∧CellsAt w g (o+0*4) (encT x))∧SlAt encT 4 w (if c=1 then A else A.map (·.add (1*4))) a:=by
 subst e;obtain ⟨g,o,h1,h2⟩:=h.at_ Js;refine ⟨⟨g,o,h1,h2 0 x rfl⟩,?_⟩;have:=h.cut (lo:=1) (hi:=(x::a).length) (m:=c) Js znr hc rfl;have e:((x::a).drop 1).take ((x::a).length-1)=a:=by show a.take a.length=a;exact List.take_length
 rwa [e] at this
structure MgG where
 a:List TM
 A:oA
 ca:Nat
 b:List TM
 B:oA
 cb:Nat
 out:List TM
 O:oA
 co:Nat
theorem qrs:∀ (n:Nat) (l:List TM) (A:oA) (c:Nat) (w:World),l.length≤n→SlAt encT 4 w A l→l.length≤c→l.length≤16777216→
  Gv Tryz.prog 76 [.slice A l.length c] w fun v w'=>TmR (tmsN n l) v w'∧Ext w w':=by
 intro n
 induction n with
 | zero=>
  intro l A c w hn hS hc hl;exact qgu l A c w Oo hS
 | succ n ih=>
  intro l A c w hn hS hc hl
  by_cases h2:l.length<2
  ·rw [tmsN,if_pos h2];exact qgu l A c w h2 hS
  have et:tmsN (n+1) l=mrgN ((tmsN n (l.take (l.length/2))).length+(tmsN n (l.drop (l.length/2))).length) (tmsN n (l.take (l.length/2))) (tmsN n (l.drop (l.length/2))) []:=by rw [tmsN,if_neg h2]
  rw [et];have hla:(l.take (l.length/2)).length=l.length/2:=by rw [List.length_take];omega
  have hlb:(l.drop (l.length/2)).length=l.length-l.length/2:=zld ..;have hSa:=hS.cut (lo:=0) (hi:=l.length/2) (m:=c) Oo Oo Oo rfl;have hSb:=hS.cut (lo:=l.length/2) (hi:=l.length) (m:=c) Oo Oo Oo rfl;rw [List.drop_zero,Nat.sub_zero] at hSa;rw [List.take_of_length_le (by rw [hlb];exact Nat.le_refl _)] at hSb;have iha:=fun w' h=>ih (l.take (l.length/2)) (if c=0 then A else A.map (·.add (0*4))) c w' Oo h Oo Oo
  have ihb:=fun w' h=>ih (l.drop (l.length/2)) (if c=l.length/2 then A else A.map (·.add (l.length/2*4))) (c-l.length/2) w' Oo h Oo Oo
  rw [hla] at iha;rw [hlb] at ihb;have tla:=qkc n (l.take (l.length/2));have tlb:=qkc n (l.drop (l.length/2));obtain ⟨ta,eta⟩:∃ ta,ta=tmsN n (l.take (l.length/2)):=⟨_,rfl⟩
  obtain ⟨tb,etb⟩:∃ tb,tb=tmsN n (l.drop (l.length/2)):=⟨_,rfl⟩
  rw [← eta] at iha tla ⊢;rw [← etb] at ihb tlb ⊢;rw [hla] at tla;rw [hlb] at tlb;clear et eta etb ih;refine ze Tryz.func76 Tryz.ntmps76 ?_;refine zv ?_;refine DrawV.free Ok Ok (zw ?_);(iterate 4 (refine zd ?_));refine zsd (.slice (if c=0 then A else A.map (·.add (0*4))) (l.length/2) c) (fun wd hd=>zw ?_) (zw ?_)
  ·refine SliceV.to 0 (l.length/2) c rfl rfl rfl Oo Oo znr (fun h=>by cases h) ?_;rw [show tsz Tryz.prog 24=4 from by kernel_rfl];exact ⟨xr,rfl⟩
  apply StepD.of (TmR ta) TmR.ext
  ·intro wd hd;(conv=>whnf);refine zcv (iha wd (hSa.ext ((Ext.refl w).drew.trans hd))) ?_;rintro v w5 ⟨h1,h2⟩;exact ⟨h2,h1⟩
  (conv=>whnf);(iterate 4 (refine zd ?_));refine zsd (.slice (if c=l.length/2 then A else A.map (·.add (l.length/2*4))) (l.length-l.length/2) (c-l.length/2)) (fun wd hd=>zw ?_) (zw ?_)
  ·refine SliceV.to (l.length/2) l.length c rfl rfl rfl Oo Oo znr (fun h=>by cases h) ?_;rw [show tsz Tryz.prog 24=4 from by kernel_rfl];exact ⟨xr,rfl⟩
  apply StepD.of (TmR tb) TmR.ext
  ·intro wd hd;conv=>whnf
   repeat (intro _ _;(conv=>whnf))
   refine zcv (ihb wd (hSb.ext ((Ext.refl w).drew.trans hd))) ?_;rintro v w5 ⟨h1,h2⟩;exact ⟨h2,h1⟩
  (conv=>whnf);apply StepD.of (TmR ta) TmR.ext
  ·intro wd hd;conv=>whnf
   repeat (rintro _ ⟨_,_,rfl,_,_⟩;(conv=>whnf))
   exact ⟨xr,_,_,rfl,by assumption,by assumption⟩
  (conv=>whnf);apply StepD.of (TmR tb) TmR.ext
  ·intro wd hd;conv=>whnf
   repeat (rintro _ ⟨_,_,rfl,_,_⟩;(conv=>whnf))
   exact ⟨xr,_,_,rfl,by assumption,by assumption⟩
  (conv=>whnf);intro w4 he;(conv=>whnf);rintro _ ⟨B1,b1,rfl,hb1,hb2⟩;(conv=>whnf);rintro _ ⟨A1,a1,rfl,ha1,ha2⟩;(conv=>whnf);intro _ _;(conv=>whnf);intro _ _;(conv=>whnf);clear iha ihb hSa hSb;have hw4:Ext w w4:=(Ext.refl w).drew.trans he;refine qe (fun x:MgG=>[(3,.slice x.A x.a.length x.ca),(4,.slice x.B x.b.length x.cb),(5,.slice x.O x.out.length x.co)])
   (fun x w'=>SlAt encT 4 w4 x.A x.a∧x.a.length≤x.ca∧SlAt encT 4 w4 x.B x.b∧x.b.length≤x.cb∧Rw w4 w' (.slice x.O x.out.length x.co) 24 4 x.out.length (x.out.map encT).flatten []∧mrgN (x.a.length+x.b.length) x.a x.b x.out=mrgN (ta.length+tb.length) ta tb []∧x.a.length+x.b.length+x.out.length≤16777216)
   (fun x=>x.a.length+x.b.length) ⟨ta,A1,a1,tb,B1,b1,[],none,0⟩ ⟨rfl,rfl,rfl,trivial⟩ ⟨ha2,ha1,hb2,hb1,Rw.nil (Mem.nil w4),rfl,by simp only [List.length_nil];omega⟩ ?_
  obtain ⟨res,hres⟩:∃ res,res=mrgN (ta.length+tb.length) ta tb []:=⟨_,rfl⟩
  rw [← hres];clear ha2 ha1 hb2 hb1 tla tlb;rintro ⟨a,A,ca,b,B,cb,out,O,co⟩ w5 ρ' ⟨hSa,hca,hSb,hcb,hR,hmr,hle⟩;dsimp only at hSa hca hSb hcb hR hmr hle ⊢;obtain ⟨na,ha⟩|⟨x,a',ea⟩:(a.length=0∧a=[])∨∃ x a',a=x::a':=by
   rcases a with _|⟨x,a'⟩
   ·exact .inl ⟨rfl,rfl⟩
   ·exact .inr ⟨x,a',rfl⟩
  ·obtain ⟨nb,hb⟩|⟨y,b',eb⟩:(b.length=0∧b=[])∨∃ y b',b=y::b':=by
    rcases b with _|⟨y,b'⟩
    ·exact .inl ⟨rfl,rfl⟩
    ·exact .inr ⟨y,b',rfl⟩
   ·refine zu ?_;rw [ha,hb] at hmr;obtain ⟨h3,h4⟩:=qd3 q6 hR.own rfl;exact ⟨⟨O,co,by rw [← hmr];rfl,by rw [← hmr];exact h4,by rw [← hmr];exact h3⟩,hw4.trans hR.mem.ext⟩
   ·have nb:b.length=b'.length+1:=by rw [eb];rfl
    obtain ⟨⟨gb,ob,eB,hxb⟩,hSb'⟩:=hSb.pop eb hcb;subst eB;refine zu ?_;refine NewV.rw hR fun tp w6 hR=>zw ?_;refine DrawV.free Ok Ok (zw ?_);(iterate 18 (refine zd ?_));intro w7 he7;have hR:=hR.drew.call he7;refine zu ?_;refine ⟨⟨gb,ob,0,rfl,by omega,by omega,?_⟩⟩;(conv=>whnf);refine LoadA.cells (CellsAt.ext hxb hR.mem.ext) rfl (zw ?_);refine StoreA.rwAll hR rfl (qq y) fun w8 hR=>zw ?_;refine SliceV.to 1 b.length cb rfl rfl rfl Oo Oo znr (fun h=>by cases h) ?_;rw [show tsz Tryz.prog 24=4 from by kernel_rfl];(conv=>whnf);have hmr:mrgN (a.length+b'.length) a b' (qai out y)=res:=by
     rw [← hmr];subst ha eb;rw [show ([]:List TM).length+(y::b').length=(([]:List TM).length+b'.length)+1 by simp];rfl
    rcases hout:out.getLast? with _|z
    ·have hon:out=[]:=List.getLast?_eq_none_iff.1 hout;have ho0:out.length=0:=by rw [hon];rfl
     have hpu:qai out y=out++[y]:=by rw [qai,hout]
     have hR:=hR.drew;refine zy ?_;refine zv ?_;refine zl hR.mem 0 ?_;refine NewV.rw hR fun nb' w17 hR=>zw ?_;refine AppV.rw (m:=1) (news:=encT y) qf0 trmI trmZ Ok Ok Od hR rfl (fun _=>⟨nb',0,rfl,fun k v hv=>?_⟩) (qq y) (by rw [show ((Tryz.prog.info? 24).get Ok).bytes=56 from by kernel_rfl];omega) Oo ?_
     ·rw [qa (hR.mem.get mh),Nat.zero_add];rw [List.getElem?_toArray];exact hv
     clear hR;intro B2 c2 w18 hR;have hR:Rw w4 w18 (.slice B2 (out++[y]).length c2) 24 4 (out++[y]).length ((out++[y]).map encT).flatten []:=by
      have e:((out++[y]).map encT).flatten=(out.map encT).flatten++encT y:=by simp
      rw [e,zla];exact hR.tail.tail
     (conv=>whnf);rw [hpu] at hmr;refine ⟨⟨a,A,ca,b',if cb=1 then some ⟨gb,ob,none⟩ else (some (⟨gb,ob,none⟩:Addr)).map (·.add (1*4)),cb-1,(out++[y]),B2,c2⟩,⟨rfl,by show Value.slice _ (b.length-1) _=Value.slice _ b'.length _;rw [nb];rfl,?_,trivial⟩,⟨hSa,hca,hSb',by simp only;omega,hR,hmr,?_⟩,?_⟩
     ·first|rfl|(show Value.slice _ (out.length+1) _=Value.slice _ (out++[_]).length _;rw [zla];rfl)
     ·simp only [zla,List.length_singleton];omega
     ·simp only;omega
    ·obtain ⟨ho1,ho2⟩:=qd3 q6 hR.own rfl;have hon:out≠[]:=by intro e;rw [e] at hout;cases hout
     have hop:0<out.length:=List.length_pos_iff.2 hon;have hz:out[out.length-1]?=some z:=by rw [← hout,List.getLast?_eq_getElem?]
     obtain ⟨go,oo,eO,hco⟩:=ho1.at_ hon;subst eO;have hcz:=hco (out.length-1) z hz;refine zy ?_;refine zv ?_;refine ⟨⟨go,oo,out.length-1,rfl,by omega,by omega,?_⟩⟩;refine zu ?_;refine LoadA.cells (CellsAt.ext hcz xr.drew) rfl (zu ?_);refine zl hR.mem.drew 0 ?_;refine zv ?_;refine RunV.eqTerm (a:=z) (b:=y) (.inr rfl) ?_;cases hzx:qck z y
     ·have hpu:qai out y=out++[y]:=by rw [qai,hout];simp only [hzx,cond_false]
      have hR:=hR.drew;refine zu ?_;refine zl hR.mem 0 ?_;refine NewV.rw hR fun nb' w17 hR=>zw ?_;refine AppV.rw (m:=1) (news:=encT y) qf0 trmI trmZ Ok Ok Od hR rfl (fun _=>⟨nb',0,rfl,fun k v hv=>?_⟩) (qq y) (by rw [show ((Tryz.prog.info? 24).get Ok).bytes=56 from by kernel_rfl];omega) Oo ?_
      ·rw [qa (hR.mem.get mh),Nat.zero_add];rw [List.getElem?_toArray];exact hv
      clear hR;intro B2 c2 w18 hR;have hR:Rw w4 w18 (.slice B2 (out++[y]).length c2) 24 4 (out++[y]).length ((out++[y]).map encT).flatten []:=by
       have e:((out++[y]).map encT).flatten=(out.map encT).flatten++encT y:=by simp
       rw [e,zla];exact hR.tail.tail
      (conv=>whnf);rw [hpu] at hmr;refine ⟨⟨a,A,ca,b',if cb=1 then some ⟨gb,ob,none⟩ else (some (⟨gb,ob,none⟩:Addr)).map (·.add (1*4)),cb-1,(out++[y]),B2,c2⟩,⟨rfl,by show Value.slice _ (b.length-1) _=Value.slice _ b'.length _;rw [nb];rfl,?_,trivial⟩,⟨hSa,hca,hSb',by simp only;omega,hR,hmr,?_⟩,?_⟩
      ·first|rfl|(show Value.slice _ (out.length+1) _=Value.slice _ (out++[_]).length _;rw [zla];rfl)
      ·simp only [zla,List.length_singleton];omega
      ·simp only;omega
     ·have hpu:qai out y=out:=by rw [qai,hout];simp only [hzx,cond_true]
      refine zu ?_;rw [hpu] at hmr;refine ⟨⟨a,A,ca,b',if cb=1 then some ⟨gb,ob,none⟩ else (some (⟨gb,ob,none⟩:Addr)).map (·.add (1*4)),cb-1,out,some ⟨go,oo,none⟩,co⟩,⟨rfl,by show Value.slice _ (b.length-1) _=Value.slice _ b'.length _;rw [nb];rfl,?_,trivial⟩,⟨hSa,hca,hSb',by simp only;omega,hR.tail.drew,hmr,?_⟩,?_⟩
      ·first|rfl|(show Value.slice _ (out.length+1) _=Value.slice _ (out++[_]).length _;rw [zla];rfl)
      ·simp only;omega
      ·simp only;omega
  ·have na:a.length=a'.length+1:=by rw [ea];rfl
   obtain ⟨⟨ga,oa,eA,hxa⟩,hSa'⟩:=hSa.pop ea hca;subst eA;obtain ⟨nb,hb⟩|⟨y,b',eb⟩:(b.length=0∧b=[])∨∃ y b',b=y::b':=by
    rcases b with _|⟨y,b'⟩
    ·exact .inl ⟨rfl,rfl⟩
    ·exact .inr ⟨y,b',rfl⟩
   ·refine zu ?_;refine NewV.rw hR fun tp w6 hR=>zw ?_;refine DrawV.free Ok Ok (zw ?_);(iterate 18 (refine zd ?_));intro w7 he7;have hR:=hR.drew.call he7;refine zu ?_;refine ⟨⟨ga,oa,0,rfl,by omega,by omega,?_⟩⟩;(conv=>whnf);refine LoadA.cells (CellsAt.ext hxa hR.mem.ext) rfl (zw ?_);refine StoreA.rwAll hR rfl (qq x) fun w8 hR=>zw ?_;refine SliceV.to 1 a.length ca rfl rfl rfl Oo Oo znr (fun h=>by cases h) ?_;rw [show tsz Tryz.prog 24=4 from by kernel_rfl];(conv=>whnf);have hmr:mrgN (a'.length+b.length) a' b (qai out x)=res:=by
     rw [← hmr];subst hb ea;rw [show (x::a').length+([]:List TM).length=(a'.length+([]:List TM).length)+1 by simp];rfl
    rcases hout:out.getLast? with _|z
    ·have hon:out=[]:=List.getLast?_eq_none_iff.1 hout;have ho0:out.length=0:=by rw [hon];rfl
     have hpu:qai out x=out++[x]:=by rw [qai,hout]
     have hR:=hR.drew;refine zy ?_;refine zv ?_;refine zl hR.mem 0 ?_;refine NewV.rw hR fun nb' w17 hR=>zw ?_;refine AppV.rw (m:=1) (news:=encT x) qf0 trmI trmZ Ok Ok Od hR rfl (fun _=>⟨nb',0,rfl,fun k v hv=>?_⟩) (qq x) (by rw [show ((Tryz.prog.info? 24).get Ok).bytes=56 from by kernel_rfl];omega) Oo ?_
     ·rw [qa (hR.mem.get mh),Nat.zero_add];rw [List.getElem?_toArray];exact hv
     clear hR;intro B2 c2 w18 hR;have hR:Rw w4 w18 (.slice B2 (out++[x]).length c2) 24 4 (out++[x]).length ((out++[x]).map encT).flatten []:=by
      have e:((out++[x]).map encT).flatten=(out.map encT).flatten++encT x:=by simp
      rw [e,zla];exact hR.tail.tail
     (conv=>whnf);rw [hpu] at hmr;refine ⟨⟨a',if ca=1 then some ⟨ga,oa,none⟩ else (some (⟨ga,oa,none⟩:Addr)).map (·.add (1*4)),ca-1,b,B,cb,(out++[x]),B2,c2⟩,⟨by show Value.slice _ (a.length-1) _=Value.slice _ a'.length _;rw [na];rfl,rfl,?_,trivial⟩,⟨hSa',by simp only;omega,hSb,hcb,hR,hmr,?_⟩,?_⟩
     ·first|rfl|(show Value.slice _ (out.length+1) _=Value.slice _ (out++[_]).length _;rw [zla];rfl)
     ·simp only [zla,List.length_singleton];omega
     ·simp only;omega
    ·obtain ⟨ho1,ho2⟩:=qd3 q6 hR.own rfl;have hon:out≠[]:=by intro e;rw [e] at hout;cases hout
     have hop:0<out.length:=List.length_pos_iff.2 hon;have hz:out[out.length-1]?=some z:=by rw [← hout,List.getLast?_eq_getElem?]
     obtain ⟨go,oo,eO,hco⟩:=ho1.at_ hon;subst eO;have hcz:=hco (out.length-1) z hz;refine zy ?_;refine zv ?_;refine ⟨⟨go,oo,out.length-1,rfl,by omega,by omega,?_⟩⟩;refine zu ?_;refine LoadA.cells (CellsAt.ext hcz xr.drew) rfl (zu ?_);refine zl hR.mem.drew 0 ?_;refine zv ?_;refine RunV.eqTerm (a:=z) (b:=x) (.inr rfl) ?_;cases hzx:qck z x
     ·have hpu:qai out x=out++[x]:=by rw [qai,hout];simp only [hzx,cond_false]
      have hR:=hR.drew;refine zu ?_;refine zl hR.mem 0 ?_;refine NewV.rw hR fun nb' w17 hR=>zw ?_;refine AppV.rw (m:=1) (news:=encT x) qf0 trmI trmZ Ok Ok Od hR rfl (fun _=>⟨nb',0,rfl,fun k v hv=>?_⟩) (qq x) (by rw [show ((Tryz.prog.info? 24).get Ok).bytes=56 from by kernel_rfl];omega) Oo ?_
      ·rw [qa (hR.mem.get mh),Nat.zero_add];rw [List.getElem?_toArray];exact hv
      clear hR;intro B2 c2 w18 hR;have hR:Rw w4 w18 (.slice B2 (out++[x]).length c2) 24 4 (out++[x]).length ((out++[x]).map encT).flatten []:=by
       have e:((out++[x]).map encT).flatten=(out.map encT).flatten++encT x:=by simp
       rw [e,zla];exact hR.tail.tail
      (conv=>whnf);rw [hpu] at hmr;refine ⟨⟨a',if ca=1 then some ⟨ga,oa,none⟩ else (some (⟨ga,oa,none⟩:Addr)).map (·.add (1*4)),ca-1,b,B,cb,(out++[x]),B2,c2⟩,⟨by show Value.slice _ (a.length-1) _=Value.slice _ a'.length _;rw [na];rfl,rfl,?_,trivial⟩,⟨hSa',by simp only;omega,hSb,hcb,hR,hmr,?_⟩,?_⟩
      ·first|rfl|(show Value.slice _ (out.length+1) _=Value.slice _ (out++[_]).length _;rw [zla];rfl)
      ·simp only [zla,List.length_singleton];omega
      ·simp only;omega
     ·have hpu:qai out x=out:=by rw [qai,hout];simp only [hzx,cond_true]
      refine zu ?_;rw [hpu] at hmr;refine ⟨⟨a',if ca=1 then some ⟨ga,oa,none⟩ else (some (⟨ga,oa,none⟩:Addr)).map (·.add (1*4)),ca-1,b,B,cb,out,some ⟨go,oo,none⟩,co⟩,⟨by show Value.slice _ (a.length-1) _=Value.slice _ a'.length _;rw [na];rfl,rfl,?_,trivial⟩,⟨hSa',by simp only;omega,hSb,hcb,hR.tail.drew,hmr,?_⟩,?_⟩
      ·first|rfl|(show Value.slice _ (out.length+1) _=Value.slice _ (out++[_]).length _;rw [zla];rfl)
      ·simp only;omega
      ·simp only;omega
   ·have nb:b.length=b'.length+1:=by rw [eb];rfl
    obtain ⟨⟨gb,ob,eB,hxb⟩,hSb'⟩:=hSb.pop eb hcb;subst eB
    by_cases hxy:cmpT x y≤0
    ·refine zu ?_;refine NewV.rw hR fun tp w6 hR=>zw ?_;refine DrawV.free Ok Ok (zw ?_);(iterate 9 (refine zd ?_));refine zf ?_ (by intro wd hd;refine zu ?_;refine ⟨⟨ga,oa,0,rfl,by omega,by omega,?_⟩⟩;exact ⟨xr,rfl⟩);apply zsd (qbq x)
     ·intro wd hd;refine zu ?_;refine LoadA.cells (CellsAt.ext hxa ((hR.mem.ext.trans (Ext.refl w6).drew).trans hd)) rfl (zw ?_);exact ⟨xr,rfl⟩
     (conv=>whnf);refine zd ?_;refine zf ?_ (by intro wd hd;refine zu ?_;refine ⟨⟨gb,ob,0,rfl,by omega,by omega,?_⟩⟩;exact ⟨xr,rfl⟩);apply zsd (qbq y)
     ·intro wd hd;refine zu ?_;refine LoadA.cells (CellsAt.ext hxb ((hR.mem.ext.trans (Ext.refl w6).drew).trans hd)) rfl (zw ?_);exact ⟨xr,rfl⟩
     (conv=>whnf);apply zsd (ii (cmpT x y))
     ·intro wd hd;refine zu ?_;refine zcv (qax x y wd) ?_;rintro v w7 ⟨rfl,h7⟩;exact ⟨h7,rfl⟩
     (conv=>whnf);(iterate 3 (refine zd ?_));intro w7 he7;have hR:=hR.drew.call he7;refine zu ?_;refine ⟨⟨ga,oa,0,rfl,by omega,by omega,?_⟩⟩;(conv=>whnf);refine LoadA.cells (CellsAt.ext hxa hR.mem.ext) rfl (zw ?_);refine StoreA.rwAll hR rfl (qq x) fun w8 hR=>zw ?_;refine SliceV.to 1 a.length ca rfl rfl rfl Oo Oo znr (fun h=>by cases h) ?_;rw [show tsz Tryz.prog 24=4 from by kernel_rfl];(conv=>whnf);have hmr:mrgN (a'.length+b.length) a' b (qai out x)=res:=by
      rw [← hmr];subst ea eb;exact (q54 hxy).symm
     rcases hout:out.getLast? with _|z
     ·have hon:out=[]:=List.getLast?_eq_none_iff.1 hout;have ho0:out.length=0:=by rw [hon];rfl
      have hpu:qai out x=out++[x]:=by rw [qai,hout]
      have hR:=hR.drew;refine zy ?_;refine zv ?_;refine zl hR.mem 0 ?_;refine NewV.rw hR fun nb' w17 hR=>zw ?_;refine AppV.rw (m:=1) (news:=encT x) qf0 trmI trmZ Ok Ok Od hR rfl (fun _=>⟨nb',0,rfl,fun k v hv=>?_⟩) (qq x) (by rw [show ((Tryz.prog.info? 24).get Ok).bytes=56 from by kernel_rfl];omega) Oo ?_
      ·rw [qa (hR.mem.get mh),Nat.zero_add];rw [List.getElem?_toArray];exact hv
      clear hR;intro B2 c2 w18 hR;have hR:Rw w4 w18 (.slice B2 (out++[x]).length c2) 24 4 (out++[x]).length ((out++[x]).map encT).flatten []:=by
       have e:((out++[x]).map encT).flatten=(out.map encT).flatten++encT x:=by simp
       rw [e,zla];exact hR.tail.tail
      (conv=>whnf);rw [hpu] at hmr;refine ⟨⟨a',if ca=1 then some ⟨ga,oa,none⟩ else (some (⟨ga,oa,none⟩:Addr)).map (·.add (1*4)),ca-1,b,some ⟨gb,ob,none⟩,cb,(out++[x]),B2,c2⟩,⟨by show Value.slice _ (a.length-1) _=Value.slice _ a'.length _;rw [na];rfl,rfl,?_,trivial⟩,⟨hSa',by simp only;omega,hSb,hcb,hR,hmr,?_⟩,?_⟩
      ·first|rfl|(show Value.slice _ (out.length+1) _=Value.slice _ (out++[_]).length _;rw [zla];rfl)
      ·simp only [zla,List.length_singleton];omega
      ·simp only;omega
     ·obtain ⟨ho1,ho2⟩:=qd3 q6 hR.own rfl;have hon:out≠[]:=by intro e;rw [e] at hout;cases hout
      have hop:0<out.length:=List.length_pos_iff.2 hon;have hz:out[out.length-1]?=some z:=by rw [← hout,List.getLast?_eq_getElem?]
      obtain ⟨go,oo,eO,hco⟩:=ho1.at_ hon;subst eO;have hcz:=hco (out.length-1) z hz;refine zy ?_;refine zv ?_;refine ⟨⟨go,oo,out.length-1,rfl,by omega,by omega,?_⟩⟩;refine zu ?_;refine LoadA.cells (CellsAt.ext hcz xr.drew) rfl (zu ?_);refine zl hR.mem.drew 0 ?_;refine zv ?_;refine RunV.eqTerm (a:=z) (b:=x) (.inr rfl) ?_;cases hzx:qck z x
      ·have hpu:qai out x=out++[x]:=by rw [qai,hout];simp only [hzx,cond_false]
       have hR:=hR.drew;refine zu ?_;refine zl hR.mem 0 ?_;refine NewV.rw hR fun nb' w17 hR=>zw ?_;refine AppV.rw (m:=1) (news:=encT x) qf0 trmI trmZ Ok Ok Od hR rfl (fun _=>⟨nb',0,rfl,fun k v hv=>?_⟩) (qq x) (by rw [show ((Tryz.prog.info? 24).get Ok).bytes=56 from by kernel_rfl];omega) Oo ?_
       ·rw [qa (hR.mem.get mh),Nat.zero_add];rw [List.getElem?_toArray];exact hv
       clear hR;intro B2 c2 w18 hR;have hR:Rw w4 w18 (.slice B2 (out++[x]).length c2) 24 4 (out++[x]).length ((out++[x]).map encT).flatten []:=by
        have e:((out++[x]).map encT).flatten=(out.map encT).flatten++encT x:=by simp
        rw [e,zla];exact hR.tail.tail
       (conv=>whnf);rw [hpu] at hmr;refine ⟨⟨a',if ca=1 then some ⟨ga,oa,none⟩ else (some (⟨ga,oa,none⟩:Addr)).map (·.add (1*4)),ca-1,b,some ⟨gb,ob,none⟩,cb,(out++[x]),B2,c2⟩,⟨by show Value.slice _ (a.length-1) _=Value.slice _ a'.length _;rw [na];rfl,rfl,?_,trivial⟩,⟨hSa',by simp only;omega,hSb,hcb,hR,hmr,?_⟩,?_⟩
       ·first|rfl|(show Value.slice _ (out.length+1) _=Value.slice _ (out++[_]).length _;rw [zla];rfl)
       ·simp only [zla,List.length_singleton];omega
       ·simp only;omega
      ·have hpu:qai out x=out:=by rw [qai,hout];simp only [hzx,cond_true]
       refine zu ?_;rw [hpu] at hmr;refine ⟨⟨a',if ca=1 then some ⟨ga,oa,none⟩ else (some (⟨ga,oa,none⟩:Addr)).map (·.add (1*4)),ca-1,b,some ⟨gb,ob,none⟩,cb,out,some ⟨go,oo,none⟩,co⟩,⟨by show Value.slice _ (a.length-1) _=Value.slice _ a'.length _;rw [na];rfl,rfl,?_,trivial⟩,⟨hSa',by simp only;omega,hSb,hcb,hR.tail.drew,hmr,?_⟩,?_⟩
       ·first|rfl|(show Value.slice _ (out.length+1) _=Value.slice _ (out++[_]).length _;rw [zla];rfl)
       ·simp only;omega
       ·simp only;omega
    ·refine zu ?_;refine NewV.rw hR fun tp w6 hR=>zw ?_;refine DrawV.free Ok Ok (zw ?_);(iterate 9 (refine zd ?_));refine zf ?_ (by intro wd hd;refine zu ?_;refine ⟨⟨ga,oa,0,rfl,by omega,by omega,?_⟩⟩;exact ⟨xr,rfl⟩);apply zsd (qbq x)
     ·intro wd hd;refine zu ?_;refine LoadA.cells (CellsAt.ext hxa ((hR.mem.ext.trans (Ext.refl w6).drew).trans hd)) rfl (zw ?_);exact ⟨xr,rfl⟩
     (conv=>whnf);refine zd ?_;refine zf ?_ (by intro wd hd;refine zu ?_;refine ⟨⟨gb,ob,0,rfl,by omega,by omega,?_⟩⟩;exact ⟨xr,rfl⟩);apply zsd (qbq y)
     ·intro wd hd;refine zu ?_;refine LoadA.cells (CellsAt.ext hxb ((hR.mem.ext.trans (Ext.refl w6).drew).trans hd)) rfl (zw ?_);exact ⟨xr,rfl⟩
     (conv=>whnf);apply zsd (ii (cmpT x y))
     ·intro wd hd;refine zu ?_;refine zcv (qax x y wd) ?_;rintro v w7 ⟨rfl,h7⟩;exact ⟨h7,rfl⟩
     (conv=>whnf);(iterate 3 (refine zd ?_));intro w7 he7;have hR:=hR.drew.call he7;refine zu ?_;refine ⟨⟨gb,ob,0,rfl,by omega,by omega,?_⟩⟩;(conv=>whnf);refine LoadA.cells (CellsAt.ext hxb hR.mem.ext) rfl (zw ?_);refine StoreA.rwAll hR rfl (qq y) fun w8 hR=>zw ?_;refine SliceV.to 1 b.length cb rfl rfl rfl Oo Oo znr (fun h=>by cases h) ?_;rw [show tsz Tryz.prog 24=4 from by kernel_rfl];(conv=>whnf);have hmr:mrgN (a.length+b'.length) a b' (qai out y)=res:=by
      rw [← hmr];subst ea eb;exact (q53 hxy).symm
     rcases hout:out.getLast? with _|z
     ·have hon:out=[]:=List.getLast?_eq_none_iff.1 hout;have ho0:out.length=0:=by rw [hon];rfl
      have hpu:qai out y=out++[y]:=by rw [qai,hout]
      have hR:=hR.drew;refine zy ?_;refine zv ?_;refine zl hR.mem 0 ?_;refine NewV.rw hR fun nb' w17 hR=>zw ?_;refine AppV.rw (m:=1) (news:=encT y) qf0 trmI trmZ Ok Ok Od hR rfl (fun _=>⟨nb',0,rfl,fun k v hv=>?_⟩) (qq y) (by rw [show ((Tryz.prog.info? 24).get Ok).bytes=56 from by kernel_rfl];omega) Oo ?_
      ·rw [qa (hR.mem.get mh),Nat.zero_add];rw [List.getElem?_toArray];exact hv
      clear hR;intro B2 c2 w18 hR;have hR:Rw w4 w18 (.slice B2 (out++[y]).length c2) 24 4 (out++[y]).length ((out++[y]).map encT).flatten []:=by
       have e:((out++[y]).map encT).flatten=(out.map encT).flatten++encT y:=by simp
       rw [e,zla];exact hR.tail.tail
      (conv=>whnf);rw [hpu] at hmr;refine ⟨⟨a,some ⟨ga,oa,none⟩,ca,b',if cb=1 then some ⟨gb,ob,none⟩ else (some (⟨gb,ob,none⟩:Addr)).map (·.add (1*4)),cb-1,(out++[y]),B2,c2⟩,⟨rfl,by show Value.slice _ (b.length-1) _=Value.slice _ b'.length _;rw [nb];rfl,?_,trivial⟩,⟨hSa,hca,hSb',by simp only;omega,hR,hmr,?_⟩,?_⟩
      ·first|rfl|(show Value.slice _ (out.length+1) _=Value.slice _ (out++[_]).length _;rw [zla];rfl)
      ·simp only [zla,List.length_singleton];omega
      ·simp only;omega
     ·obtain ⟨ho1,ho2⟩:=qd3 q6 hR.own rfl;have hon:out≠[]:=by intro e;rw [e] at hout;cases hout
      have hop:0<out.length:=List.length_pos_iff.2 hon;have hz:out[out.length-1]?=some z:=by rw [← hout,List.getLast?_eq_getElem?]
      obtain ⟨go,oo,eO,hco⟩:=ho1.at_ hon;subst eO;have hcz:=hco (out.length-1) z hz;refine zy ?_;refine zv ?_;refine ⟨⟨go,oo,out.length-1,rfl,by omega,by omega,?_⟩⟩;refine zu ?_;refine LoadA.cells (CellsAt.ext hcz xr.drew) rfl (zu ?_);refine zl hR.mem.drew 0 ?_;refine zv ?_;refine RunV.eqTerm (a:=z) (b:=y) (.inr rfl) ?_;cases hzx:qck z y
      ·have hpu:qai out y=out++[y]:=by rw [qai,hout];simp only [hzx,cond_false]
       have hR:=hR.drew;refine zu ?_;refine zl hR.mem 0 ?_;refine NewV.rw hR fun nb' w17 hR=>zw ?_;refine AppV.rw (m:=1) (news:=encT y) qf0 trmI trmZ Ok Ok Od hR rfl (fun _=>⟨nb',0,rfl,fun k v hv=>?_⟩) (qq y) (by rw [show ((Tryz.prog.info? 24).get Ok).bytes=56 from by kernel_rfl];omega) Oo ?_
       ·rw [qa (hR.mem.get mh),Nat.zero_add];rw [List.getElem?_toArray];exact hv
       clear hR;intro B2 c2 w18 hR;have hR:Rw w4 w18 (.slice B2 (out++[y]).length c2) 24 4 (out++[y]).length ((out++[y]).map encT).flatten []:=by
        have e:((out++[y]).map encT).flatten=(out.map encT).flatten++encT y:=by simp
        rw [e,zla];exact hR.tail.tail
       (conv=>whnf);rw [hpu] at hmr;refine ⟨⟨a,some ⟨ga,oa,none⟩,ca,b',if cb=1 then some ⟨gb,ob,none⟩ else (some (⟨gb,ob,none⟩:Addr)).map (·.add (1*4)),cb-1,(out++[y]),B2,c2⟩,⟨rfl,by show Value.slice _ (b.length-1) _=Value.slice _ b'.length _;rw [nb];rfl,?_,trivial⟩,⟨hSa,hca,hSb',by simp only;omega,hR,hmr,?_⟩,?_⟩
       ·first|rfl|(show Value.slice _ (out.length+1) _=Value.slice _ (out++[_]).length _;rw [zla];rfl)
       ·simp only [zla,List.length_singleton];omega
       ·simp only;omega
      ·have hpu:qai out y=out:=by rw [qai,hout];simp only [hzx,cond_true]
       refine zu ?_;rw [hpu] at hmr;refine ⟨⟨a,some ⟨ga,oa,none⟩,ca,b',if cb=1 then some ⟨gb,ob,none⟩ else (some (⟨gb,ob,none⟩:Addr)).map (·.add (1*4)),cb-1,out,some ⟨go,oo,none⟩,co⟩,⟨rfl,by show Value.slice _ (b.length-1) _=Value.slice _ b'.length _;rw [nb];rfl,?_,trivial⟩,⟨hSa,hca,hSb',by simp only;omega,hR.tail.drew,hmr,?_⟩,?_⟩
       ·first|rfl|(show Value.slice _ (out.length+1) _=Value.slice _ (out++[_]).length _;rw [zla];rfl)
       ·simp only;omega
       ·simp only;omega
open Go.RowKit
namespace V
theorem qq9 {n:Nat} {ops:Array Oper} (hS:ShapeW n ops) {listed:Array Bool} (hsz:listed.size=ops.size) (hr:Region.ready .any ops listed=[]) (k:Nat) (hk:k<ops.size):listed.getD k false=true:=by
 induction k using Nat.strongRecOn with
 | _ k ih=>
  cases hv:listed.getD k false with
  | true=>rfl
  | false=>
   exfalso
   have hmem:k∈Region.ready .any ops listed:=by
    refine mem_ready.2 ⟨?_,ops[k],Array.getElem?_eq_getElem hk,fun e he hb=>?_⟩
    ·have:k<listed.size:=by omega
     simp [this] at hv ⊢;exact hv
    ·rw [qaj] at hb;have hp:e.on∈qk ops[k]:=qv.2 ⟨e,by simpa using he,hb,rfl⟩;have h1:=hS.lt k _ (Array.getElem?_eq_getElem hk) _ hp;exact ih _ h1 Oo
   rw [hr] at hmem;cases hmem
theorem InvD.stepW {n:Nat} {ops:Array Oper} {E:List Ent} {w0 w w':World} {ρ:Nat→Value} {listed:Array Bool} {vals ρa:Nat→Value} {a:Act} {i:Nat} {o:Oper} {e:Ent} {v:Value} (hS:ShapeW n ops) (hl:E.length=ops.size)
  (hd:∀ (i:Nat) (o:Oper) (e:Ent),ops[i]?=some o→E[i]?=some e→EntOk e o) (hfree:∀ (k:Nat) (e:Ent),E[k]?=some e→∀ x w w',e.φ x w→e.φ x w')
  (I:InvD n E w0 ρ listed vals ρa a w) (hsz:listed.size=ops.size) (ho:ops[i]?=some o) (he:E[i]?=some e) (hun:listed.getD i false=false) (hx:Ext w0 w') (hφ:e.φ v w') :
  InvD n E w0 ρ (listed.setIfInBounds i true) (fun k=>if k=i then v else vals k) (match o.dst with|some d=>upd ρa d v|none=>ρa) (a.put o.dst v) w':=by
 have hio:i<ops.size:=(Array.getElem?_eq_some_iff.1 ho).1;have hok:=hd i o e ho he;have hlt:∀ (k:Nat) (e:Ent),E[k]?=some e→k<ops.size:=fun k e hk=>by
  rw [← hl]
  rcases Nat.lt_or_ge k E.length with h|h
  ·exact h
  ·rw [List.getElem?_eq_none h] at hk;cases hk
 have hgd:∀ k,(listed.setIfInBounds i true).getD k false=true→k=i∨(k≠i∧listed.getD k false=true):=fun k hk=>by
  by_cases hki:k=i
  ·exact .inl hki
  ·rw [getD_set_ne false (fun e=>hki e.symm)] at hk;exact .inr ⟨hki,hk⟩
 refine ⟨hx,?_,?_,?_,?_⟩
 ·cases hdd:o.dst with
  | none=>exact I.st
  | some d=>exact I.st.put (hS.dn i o ho d hdd) v
 ·intro k hk e' he'
  rcases hgd k hk with rfl|⟨hki,hk⟩
  ·rw [he] at he';cases he'
   simpa using hφ
  ·simp only [if_neg hki];exact hfree k e' he' _ _ _ (I.φ k hk e' he')
 ·intro k hk e' d he' hdd
  rcases hgd k hk with rfl|⟨hki,hk⟩
  ·rw [he] at he';cases he';rw [hok.d] at hdd;simp [hdd,qc8]
  ·simp only [if_neg hki];have hk':=hlt k e' he';have hd2:=(hd k _ e' (Array.getElem?_eq_getElem hk') he').d;cases ho2:o.dst with
   | none=>exact I.at_ k hk e' d he' hdd
   | some d2=>
    have hne:d≠d2:=by
     rintro rfl;exact hki (hS.uniq i o k _ d ho (Array.getElem?_eq_getElem hk') (hd2 ▸ hdd) ho2)
    simp only;rw [qah _ _ _ _ hne];exact I.at_ k hk e' d he' hdd
 ·intro t ht;have h1:ρa t=ρ t:=I.miss t fun k hk e' he'=>ht k (by
   by_cases hki:k=i
   ·subst hki;rw [hun] at hk;cases hk
   ·rw [getD_set_ne false (fun e=>hki e.symm)];exact hk) e' he'
  cases ho2:o.dst with
  | none=>exact h1
  | some d2=>
   have hne:t≠d2:=by
    rintro rfl;refine ht i ?_ e he (by rw [hok.d,ho2]);have:i<listed.size:=by omega
    simp [this]
   simp only;rw [qah _ _ _ _ hne];exact h1
section
variable {P:Program} {n:Nat} {ops:Array Oper} {w0:World} {E:List Ent} {ρ:Nat→Value}
theorem qwt {I:(Nat→Bool)→(Nat→Value)→World→Prop} {Q:(Nat→Value)→World→Prop} {Q':Exit→Act→World→Prop} (hQ:∀ ρ a w,St n ρ a→Q ρ w→Q' .normal a w) (hS:ShapeW n ops) (hl:E.length=ops.size)
  (hE:∀ (i:Nat) (o:Oper) (e:Ent),ops[i]?=some o→E[i]?=some e→q4w P ops.toList I E ρ i o e) (hF:∃ es',AgreeG es' E∧∀ vals w,I (fun _=>true) vals w→Q (frG es' vals (sfr E ρ)) w) :
  ∀ (fuel:Nat) (listed:Array Bool) (vals ρa:Nat→Value) (a:Act) (w:World),listed.size=ops.size→listed.toList.count false≤fuel→(∀ k,listed.getD k false=true→∀ o,ops[k]?=some o→∀ j∈qk o,listed.getD j false=true)→InvD n E w0 ρ listed vals ρa a w0→I (fun j=>listed.getD j true) vals w→wpAny P .any ops Q' fuel listed a w:=by
 obtain ⟨ef,hA,hF⟩:=hF;have hd:∀ (i:Nat) (o:Oper) (e:Ent),ops[i]?=some o→E[i]?=some e→EntOk e o:=fun i o e h1 h2=>by
  obtain ⟨v,_,rfl,_⟩:=hE i o e h1 h2;refine ⟨rfl,fun _ _ _ h _=>h,fun c hc x w hx=>?_⟩;have hc:v=some c:=hc;subst hc;exact hx
 have hlt:∀ (k:Nat) (e:Ent),E[k]?=some e→k<ops.size:=fun k e hk=>by
  rw [← hl];exact (List.getElem?_eq_some_iff.1 hk).1
 have hfree:∀ (k:Nat) (e:Ent),E[k]?=some e→∀ x w w',e.φ x w→e.φ x w':=fun k e he x w w' h=>by
  have hk:=hlt k e he;obtain ⟨v,_,rfl,_⟩:=hE k _ e (Array.getElem?_eq_getElem hk) he;exact h
 have final:∀ (listed:Array Bool) (vals ρa:Nat→Value) (a:Act) (w:World),(∀ k,k<ops.size→listed.getD k false=true)→listed.size=ops.size→InvD n E w0 ρ listed vals ρa a w0→I (fun j=>listed.getD j true) vals w→Q' .normal a w:=fun listed vals ρa a w hall hsz D hI=>by
  have hT:(fun j=>listed.getD j true)=fun _=>true:=by
   funext j
   rcases Nat.lt_or_ge j listed.size with hj|hj
   ·rw [qbo hj];exact hall j Oo
   ·simp [Array.getElem?_eq_none hj]
  rw [hT] at hI;have he:frG ef vals (sfr E ρ)=ρa:=by
   funext t
   have:=qgb hd hl hS D E.length (ef.map (·.1)) t (fun k e hk hdt hki=>⟨hall k (hlt k e hk),fun hv=>by
    obtain ⟨d,v,φ⟩:=e;cases hv;cases hdt;exact hA.all k _ _ hk⟩) (fun k e hk _ _=>by rw [hl];exact hlt k e hk)
   rw [List.take_length,qta _ _ hA.in_] at this;exact this
  exact hQ _ _ _ D.st (he ▸ hF vals w hI)
 intro fuel
 induction fuel with
 | zero=>
  intro listed vals ρa a w hsz hc hdc D hI;have hall:∀ k,k<ops.size→listed.getD k false=true:=fun k hk=>by
   have h1:=List.count_eq_zero.1 (show listed.toList.count false=0 by omega);have hk':k<listed.size:=by omega
   cases hv:listed[k] with
   | true=>simp [hk',hv]
   | false=>exact absurd (by rw [← hv];exact Array.mem_toList_iff.2 (Array.getElem_mem hk')) h1
  exact ⟨qet fun k hk=>by rw [qbo Oo];exact hall k hk,final listed vals ρa a w hall hsz D hI⟩
 | succ fuel ih=>
  intro listed vals ρa a w hsz hc hdc D hI;refine ⟨fun hr=>final listed vals ρa a w (fun k hk=>qq9 hS hsz hr k hk) hsz D hI,fun i hi=>?_⟩;obtain ⟨hun,o,ho,hall⟩:=mem_ready.1 hi;have hio:i<ops.size:=(Array.getElem?_eq_some_iff.1 ho).1;have hnl:listed.getD i false=false:=by rw [← qbo Oo];exact hun
  have hpl:∀ k∈qk o,listed.getD k false=true:=fun k hk=>by
   obtain ⟨e,he,hb,hon⟩:=qv.1 hk;rw [← hon];exact hall e (by simpa using he) (by rw [qaj];exact hb)
  have hiE:E[i]?=some E[i]:=zge Oo;obtain ⟨v,es,he,hAi,hspec⟩:=hE i o E[i] ho hiE;have hlp:∀ k∈qk o,listed.getD k true=true:=fun k hk=>by
   have:=hpl k hk
   rcases Nat.lt_or_ge k listed.size with hj|hj
   ·rw [qbo hj];exact this
   ·simp [Array.getElem?_eq_none hj]
  have h:=hspec (fun j=>listed.getD j true) vals w hun hlp hI;have hag:∀ t∈o.looksAt ops,frG es vals (sfr (E.take i) ρ) t=ρa t:=fun t ht=>by
   have hp:∀ (k:Nat) (e:Ent),E[k]?=some e→e.d=some t→k∈qk o∨(i<k∧listed.getD k false≠true):=fun k e hk hdt=>by
    have hk':=hlt k e hk
    rcases hS.look i o k ops[k] t ho (Array.getElem?_eq_getElem hk') ((hd k _ e (Array.getElem?_eq_getElem hk') hk).d ▸ hdt) ht with h|h
    ·exact .inl h
    ·refine .inr ⟨hS.lt k _ (Array.getElem?_eq_getElem hk') i h,fun hl=>?_⟩;have:=hdc k hl _ (Array.getElem?_eq_getElem hk') i h;rw [hnl] at this;cases this
   have:=qgb hd hl hS D i (es.map (·.1)) t (fun k e hk hdt hki=>by
    rcases hp k e hk hdt with h|h
    ·exact ⟨hpl k h,fun hv=>by
      obtain ⟨d,v,φ⟩:=e;cases hv;cases hdt;exact hAi.all k _ _ (by rw [List.getElem?_take,if_pos hki];exact hk)⟩
    ·omega) (fun k e hk hdt hlk=>by
    rcases hp k e hk hdt with h|h
    ·exact hS.lt i o ho k h
    ·exact absurd hlk h.2)
   rw [qta _ _ hAi.in_] at this;exact this
  refine qk3 ho hS D.st hag h fun v' w' ⟨hv,hI'⟩=>?_;have hset:(fun j=>(listed.setIfInBounds i true).getD j true)=setS (fun j=>listed.getD j true) i:=by
   funext j
   unfold setS
   by_cases hji:j=i
   ·subst hji;have:j<listed.size:=by omega
    simp [this]
   ·have:Nat.beq j i=false:=Bool.eq_false_iff.2 fun e=>hji (Nat.eq_of_beq_eq_true e)
    rw [this,getD_set_ne true (fun e=>hji e.symm)];rfl
  have hvals:(fun k=>if k=i then v' else vals k)=upd vals i v':=by
   funext k
   by_cases hk:k=i
   ·subst hk;simp [upd]
   ·rw [if_neg hk,qah _ _ _ _ hk]
  refine ih _ (upd vals i v') _ _ _ (by simp [hsz]) (by have:=countP_set listed i hun;omega) (fun k hk o' ho' j hj=>by
   have hset:∀ j,listed.getD j false=true→(listed.setIfInBounds i true).getD j false=true:=fun j hj=>by
    by_cases hji:j=i
    ·subst hji;rw [hnl] at hj;cases hj
    ·rw [getD_set_ne false (fun e=>hji e.symm)];exact hj
   by_cases hki:k=i
   ·subst hki;rw [ho] at ho';cases ho';exact hset j (hpl j hj)
   ·rw [getD_set_ne false (fun e=>hki e.symm)] at hk;exact hset j (hdc k hk o' ho' j hj)) (hvals ▸ InvD.stepW (v:=v') hS hl hd hfree D hsz ho hiE hnl xr (by rw [he];exact hv)) ?_
  rw [hset];exact hI'
end
theorem DrawV.genW {P:Program} {n id:Nat} {ops:Array Oper} {Q:Exit→(Nat→Value)→World→Prop} {ρ:Nat→Value} {w:World} (I:(Nat→Bool)→(Nat→Value)→World→Prop) (hm:P.follows .mixedOrders=true) (hB:que n ops=true)
  (h0:∀ vals,I (fun j=>Nat.ble ops.size j) vals w.drew) (h:regG P ops.toList I (fun ρ' w'=>Q .normal ρ' w') ops.toList 0 [] ρ):DrawV P n id ops Q ρ w:=by
 refine ⟨fun a ha=>wp_region_any hm ?_⟩;obtain ⟨E,h1,h2,h3⟩:=qt5 ops.toList [] [] ρ (AgreeG.mk (fun _ _ h=>by cases h) (fun _ _ _ h=>by simp at h)) h;refine qwt (I:=I) (Q:=fun ρ' w'=>Q .normal ρ' w') (E:=E) (w0:=w.drew) (ρ:=ρ) (fun ρ a w h1 h2=>⟨ρ,h1,h2⟩) (qps hB) (by simpa using h1) (fun i o e ho he=>?_) (by simpa using h3) _ _ (fun _=>undef) ρ a _ Js Js (fun k hk=>by rw [qc] at hk;cases hk) ⟨xr,ha,?_,?_,fun t _=>rfl⟩ ?_
 ·have:=h2 i o e (by simpa using ho) he
  simpa using this
 ·intro k hk;rw [qc] at hk;cases hk
 ·intro k hk;rw [qc] at hk;cases hk
 ·have:(fun j=>(Array.replicate ops.size false).getD j true)=fun j=>Nat.ble ops.size j:=by
   funext j
   rcases Nat.lt_or_ge j ops.size with hj|hj
   ·have h2:Nat.ble ops.size j=false:=Bool.eq_false_iff.2 fun e=>by have:=Nat.le_of_ble_eq_true e;omega
    simp [hj,h2]
   ·rw [Nat.ble_eq_true_of_le hj];simp [hj]
  rw [this];exact h0 _
end V
def ApI (w0:World) (e:TypeId) (size n m:Nat) (v0:Value) (xs news:List Value) (s1 s2 s3:Bool) (v1 v2 v3:Value) (w':World):Prop:=
 (s1=false∧s2=false∧s3=false∧Rw w0 w' v0 e size n xs [])∨
 (s1=true∧s2=false∧s3=false∧∃ nb,v1=.slice (some ⟨nb,0,none⟩) m m∧Rw w0 w' v0 e size n xs [(nb,.cells news.toArray e)])∨
 (s1=true∧s2=true∧∃ B c,v2=.slice B (n+m) c∧(s3=true→v3=.slice B (n+m) c)∧Rw w0 w' (.slice B (n+m) c) e size (n+m) (xs++news) [])
theorem ApI.ext {w0:World} {e:TypeId} {size n m:Nat} {v0:Value} {xs news:List Value} {s1 s2 s3:Bool} {v1 v2 v3:Value} {w':World} (h:ApI w0 e size n m v0 xs news s1 s2 s3 v1 v2 v3 w'):Ext w0 w':=by
 rcases h with ⟨_,_,_,h⟩|⟨_,_,_,_,_,h⟩|⟨_,_,_,_,_,_,h⟩
 all_goals exact h.mem.ext
theorem ApI.build {w0:World} {e:TypeId} {size n m:Nat} {v0:Value} {xs news:List Value} {s2 s3:Bool} {v1 v2 v3:Value} {w w':World} (h:ApI w0 e size n m v0 xs news false s2 s3 v1 v2 v3 w) {b:Nat} (hb:b=w.heap.size) (hw:w'=w.alloc (.cells news.toArray e)) :
  ApI w0 e size n m v0 xs news true s2 s3 (.slice (some ⟨b,0,none⟩) m m) v2 v3 w':=by
 rcases h with ⟨_,h2,h3,h⟩|⟨h1,_⟩|⟨h1,_⟩
 ·exact .inr (.inl ⟨rfl,h2,h3,b,rfl,h.newBlk hb hw⟩)
 ·cases h1
 ·cases h1
theorem ApI.mid {w0:World} {e:TypeId} {size n m:Nat} {v0:Value} {xs news:List Value} {s3:Bool} {v1 v2 v3:Value} {w:World} (h:ApI w0 e size n m v0 xs news true false s3 v1 v2 v3 w) :
  s3=false∧∃ nb,v1=.slice (some ⟨nb,0,none⟩) m m∧Rw w0 w v0 e size n xs [(nb,.cells news.toArray e)]:=by
 rcases h with ⟨h1,_⟩|⟨_,_,h3,h⟩|⟨_,h2,_⟩
 ·cases h1
 ·exact ⟨h3,h⟩
 ·cases h2
theorem ApI.end_ {w0:World} {e:TypeId} {size n m:Nat} {v0:Value} {xs news:List Value} {s1 s3:Bool} {v1 v2 v3:Value} {w:World} (h:ApI w0 e size n m v0 xs news s1 true s3 v1 v2 v3 w) :
  s1=true∧∃ B c,v2=.slice B (n+m) c∧(s3=true→v3=.slice B (n+m) c)∧Rw w0 w (.slice B (n+m) c) e size (n+m) (xs++news) []:=by
 rcases h with ⟨_,h2,_⟩|⟨_,h2,_⟩|⟨h1,_,h⟩
 ·cases h2
 ·cases h2
 ·exact ⟨h1,h⟩
def trQ (q:Q4):List TM:=[q.s,q.p,q.o]++if q.g.kind=0 then [] else [q.g]
def trms (qs:List Q4):List TM:=(qs.map trQ).flatten
theorem q8u (q:Q4):(trQ q).length≤4:=by unfold trQ;split<;>simp
theorem qkd (qs:List Q4):(trms qs).length≤4*qs.length:=by
 induction qs with
 | nil=>exact Nat.le_refl _
 | cons q qs ih=>
  have:=q8u q;simp only [trms,List.map_cons,List.flatten_cons,zla,List.length_cons] at ih ⊢;omega
theorem qgz (qs:List Q4) (i:Nat) (q:Q4) (h:qs[i]?=some q):trms (qs.take (i+1))=trms (qs.take i)++trQ q:=by
 rw [List.take_add_one,h];simp [trms]
theorem qod (q:Q4):∀ v∈encT q.s++encT q.p++encT q.o,v.oneCell'=true:=by
 intro v hv
 rcases List.mem_append.1 hv with hv|hv
 ·rcases List.mem_append.1 hv with hv|hv
  ·exact qq _ v hv
  ·exact qq _ v hv
 ·exact qq _ v hv
theorem qib (qs:List Q4) (A:oA) (c:Nat) (w:World) (hS:SlAt q7 16 w A qs) (hl:qs.length≤4194304) :
  Gv Tryz.prog 48 [.slice A qs.length c] w fun v w'=>TmR (tmsN (trms qs).length (trms qs)) v w'∧Ext w w':=by
 refine ze Tryz.func48 Tryz.ntmps48 ?_;refine qe (fun x:Nat × List TM × oA × Nat=>[(0,.slice A qs.length c),(3,.slice x.2.2.1 x.2.1.length x.2.2.2),(4,ii x.1)])
  (fun x w'=>x.1≤qs.length∧x.2.1=trms (qs.take x.1)∧Rw w w' (.slice x.2.2.1 x.2.1.length x.2.2.2) 24 4 x.2.1.length (x.2.1.map encT).flatten []) (fun x=>qs.length-x.1) (0,[],none,0)
  ⟨rfl,rfl,rfl,trivial⟩ ⟨by simp,rfl,Rw.nil (Mem.nil w)⟩ ?_
 rintro ⟨i,out,B,cb⟩ w1 ρ' ⟨h1,h2,hR⟩;dsimp only at h1 h2 hR ⊢;(conv=>whnf);refine zC (fun _=>zw ?_) (fun _=>zw ?_)
 ·have hil:i<qs.length:=by omega
  obtain ⟨g,o,eA,hc⟩:=hS.at_ (by intro e;rw [e] at hil;simp at hil);subst eA;obtain ⟨q,hq⟩:∃ q,qs[i]?=some q:=⟨_,zge hil⟩
  have hcq:=hc i q hq;have hto:=qkd (qs.take i);rw [← h2,List.length_take,Nat.min_eq_left h1] at hto;refine DrawV.genW (fun S vals w'=>ApI w 24 4 out.length 3 (.slice B out.length cb) (out.map encT).flatten (encT q.s++encT q.p++encT q.o) (S 16) (S 17) (S 18) (vals 16) (vals 17) (vals 18) w') rfl Ok (fun vals=>.inl ⟨rfl,rfl,rfl,hR.drew⟩) ?_;clear hR;(conv=>whnf);(iterate 3 (refine zg ?_));refine StepG.of (.pointer (some ⟨g,o+i*16,none⟩)) (fun S vals wd hk hp hI=>zw ?_) (zw ?_)
  ·refine ⟨⟨g,o,i,rfl,by omega,by omega,?_⟩⟩;rw [show tsz Tryz.prog 26=16 from by kernel_rfl];(conv=>whnf);exact ⟨rfl,hI⟩
  refine StepG.of (.pointer (some ⟨g,o+i*16+0,none⟩)) (fun S vals wd hk hp hI=>zw ?_) (zw ?_)
  ·exact ⟨rfl,hI⟩
  refine StepG.of (qbq q.s) (fun S vals wd hk hp hI=>zw ?_) (zw ?_)
  ·refine LoadA.cells ((qi hcq 0 Oo).ext hI.ext) rfl (zw ?_);exact ⟨rfl,hI⟩
  refine zg ?_;refine zg ?_;refine StepG.of (.pointer (some ⟨g,o+i*16,none⟩)) (fun S vals wd hk hp hI=>zw ?_) (zw ?_)
  ·refine ⟨⟨g,o,i,rfl,by omega,by omega,?_⟩⟩;rw [show tsz Tryz.prog 26=16 from by kernel_rfl];(conv=>whnf);exact ⟨rfl,hI⟩
  refine StepG.of (.pointer (some ⟨g,o+i*16+4,none⟩)) (fun S vals wd hk hp hI=>zw ?_) (zw ?_)
  ·exact ⟨rfl,hI⟩
  refine StepG.of (qbq q.p) (fun S vals wd hk hp hI=>zw ?_) (zw ?_)
  ·refine LoadA.cells ((qi hcq 1 Oo).ext hI.ext) rfl (zw ?_);exact ⟨rfl,hI⟩
  refine zg ?_;refine zg ?_;refine StepG.of (.pointer (some ⟨g,o+i*16,none⟩)) (fun S vals wd hk hp hI=>zw ?_) (zw ?_)
  ·refine ⟨⟨g,o,i,rfl,by omega,by omega,?_⟩⟩;rw [show tsz Tryz.prog 26=16 from by kernel_rfl];(conv=>whnf);exact ⟨rfl,hI⟩
  refine StepG.of (.pointer (some ⟨g,o+i*16+8,none⟩)) (fun S vals wd hk hp hI=>zw ?_) (zw ?_)
  ·exact ⟨rfl,hI⟩
  refine StepG.of (qbq q.o) (fun S vals wd hk hp hI=>zw ?_) (zw ?_)
  ·refine LoadA.cells ((qi hcq 2 Oo).ext hI.ext) rfl (zw ?_);exact ⟨rfl,hI⟩
  refine StepG.any (fun S vals wd hk hp hI=>?_) (zw ?_)
  ·dsimp only at hI;rw [hk] at hI;(conv=>whnf);refine ⟨fun b w' hb hw=>?_⟩;(conv=>whnf);exact ⟨trivial,hI.build hb hw⟩
  refine StepG.any (fun S vals wd hk hp hI=>?_) (zw ?_)
  ·dsimp only at hI;have h16:S 16=true:=hp 16 Od;rw [hk,h16] at hI;obtain ⟨h18,nb,hv,hR⟩:=hI.mid;rw [ql hv];(conv=>whnf);refine AppV.rw (m:=3) (news:=encT q.s++encT q.p++encT q.o) qf0 trmI trmZ Ok Ok Od hR rfl (fun _=>⟨nb,0,rfl,fun k v hv=>?_⟩) (qod q) (by rw [show ((Tryz.prog.info? 24).get Ok).bytes=56 from by kernel_rfl];omega) Oo ?_
   ·rw [qa (hR.mem.get mh),Nat.zero_add];rw [List.getElem?_toArray];exact hv
   intro B2 c2 w18 hR2;exact ⟨trivial,.inr (.inr ⟨h16,rfl,B2,c2,rfl,fun h=>absurd (h18.symm.trans h) Od,hR2.tail⟩)⟩
  refine StepG.any (fun S vals wd hk hp hI=>?_) (zw ?_)
  ·dsimp only at hI;have h17:S 17=true:=hp 17 Od;rw [hk,h17] at hI;obtain ⟨h16,B2,c2,hv,_,hR⟩:=hI.end_;rw [ql hv];(conv=>whnf);exact ⟨trivial,.inr (.inr ⟨h16,h17,B2,c2,rfl,fun _=>rfl,hR⟩)⟩
  intro vals w2 hI;obtain ⟨_,B2,c2,hv,hv2,hR⟩:=hI.end_;replace hv2:=hv2 rfl;rw [ql hv,ql hv2];clear hI hv hv2;obtain ⟨out3,eout⟩:∃ out3,out3=out++[q.s,q.p,q.o]:=⟨_,rfl⟩
  have el3:out3.length=out.length+3:=by rw [eout];simp
  have hR:Rw w w2 (.slice B2 out3.length c2) 24 4 out3.length (out3.map encT).flatten []:=by
   have e:(out3.map encT).flatten=(out.map encT).flatten++(encT q.s++encT q.p++encT q.o):=by rw [eout];simp
   rw [e,el3];exact hR
  rw [← el3];have hck:w2.cell? ⟨g,o+i*16+12,none⟩=some (ii q.g.kind):=Ext.cell hR.mem.ext (qi hcq 3 Oo 0 _ rfl);(conv=>whnf);refine ⟨⟨g,o,i,rfl,by omega,by omega,?_⟩⟩;rw [show tsz Tryz.prog 26=16 from by kernel_rfl];(conv=>whnf);refine LoadV.of hck (zw ?_);refine zC (fun _=>zu ?_) (fun _=>zu ?_)
  ·have etr:out3++[q.g]=out++trQ q:=by rw [eout,trQ,if_neg Oo];simp
   refine ⟨⟨g,o,i,rfl,by omega,by omega,?_⟩⟩;rw [show tsz Tryz.prog 26=16 from by kernel_rfl];(conv=>whnf);refine LoadA.cells ((qi hcq 3 Oo).ext hR.mem.ext) rfl (zw ?_);refine NewV.rw hR fun nb w3 hR=>zw ?_;refine AppV.rw (m:=1) (news:=encT q.g) qf0 trmI trmZ Ok Ok Od hR rfl (fun _=>⟨nb,0,rfl,fun k v hv=>?_⟩) (qq q.g) (by rw [show ((Tryz.prog.info? 24).get Ok).bytes=56 from by kernel_rfl];omega) Oo ?_
   ·rw [qa (hR.mem.get mh),Nat.zero_add];rw [List.getElem?_toArray];exact hv
   clear hR;intro B3 c3 w4 hR;have hR:Rw w w4 (.slice B3 (out++trQ q).length c3) 24 4 (out++trQ q).length ((out++trQ q).map encT).flatten []:=by
    have e:((out++trQ q).map encT).flatten=(out3.map encT).flatten++encT q.g:=by rw [← etr];simp
    rw [e,← etr,zla];exact hR.tail
   refine zu ?_;refine ⟨(i+1,out++trQ q,B3,c3),⟨rfl,?_,rfl,trivial⟩,⟨by simp only;omega,?_,hR⟩,by simp only;omega⟩
   ·show Value.slice B3 (out3.length+1) c3=Value.slice B3 (out++trQ q).length c3;rw [← etr,zla];rfl
   ·show out++trQ q=trms (qs.take (i+1));rw [qgz qs i q hq,← h2]
  ·have etr:out3=out++trQ q:=by rw [eout,trQ,if_pos Oo];simp
   refine ⟨(i+1,out3,B2,c2),⟨rfl,rfl,rfl,trivial⟩,⟨by simp only;omega,?_,hR⟩,by simp only;omega⟩;show out3=trms (qs.take (i+1));rw [qgz qs i q hq,← h2,etr]
 ·obtain rfl:i=qs.length:=by omega
  rw [List.take_length] at h2;subst h2;have hle:=qkd qs;obtain ⟨o1,o2⟩:=qd3 q6 hR.own rfl;have hcall:=qrs (trms qs).length (trms qs) B cb w1 znr o1 o2 Oo;generalize trms qs=ts at *;refine zcv (hcall) ?_;rintro v w5 ⟨h5,h6⟩;obtain ⟨B5,d5,rfl,_,_⟩:=id h5;(conv=>whnf);exact ⟨h5,hR.mem.ext.trans h6⟩
def sT (ts:List TM) (j:Nat):TM:=if j=0 then zTM else ts.getD (j-1) zTM
def sA (ts:List TM) (q:Nat→Nat) (k j:Nat):TM:=if j<k then sT ts (q j) else zTM
theorem qjt (q:Q4):(q7 q).length=16:=rfl
theorem qct (q:Q4):∀ v∈q7 q,v.oneCell'=true:=by
 intro v hv;unfold q7 at hv
 rcases List.mem_append.1 hv with hv|hv
 ·exact qq _ v hv
 ·rcases List.mem_append.1 hv with hv|hv
  ·exact qq _ v hv
  ·rcases List.mem_append.1 hv with hv|hv
   ·exact qq _ v hv
   ·exact qq _ v hv
namespace V
end V
theorem qdSl:Tryz.prog.underlying 46=some (.slice 26):=Tryz.underlying46
theorem qdI:Tryz.prog.info? 26=some ((Tryz.prog.info? 26).get Ok):=(Option.some_get _).symm
theorem qdZ:((Tryz.prog.info? 26).get Ok).zero=some ((((Tryz.prog.info? 26).get Ok).zero).get Ok):=(Option.some_get _).symm
def LtT (a b:TM):Prop:=a.kind<b.kind∨(a.kind=b.kind∧(slt a.text b.text=true∨(a.text=b.text∧(slt a.type b.type=true∨(a.type=b.type∧slt a.lang b.lang=true)))))
theorem qrw {a b:ByteArray}:txtC a b<0↔slt a b=true:=by
 unfold txtC
 split
 ·simp [*]
 ·split<;>simp [*]
theorem qd7 {a b:ByteArray}:txtC a b=0↔a=b:=by
 unfold txtC
 split
 ·rename_i h
  constructor
  ·intro h2;exact absurd h2 Od
  ·rintro rfl;rw [qdk] at h;cases h
 ·split
  ·rename_i h;simp [qao.1 h]
  ·rename_i h
   constructor
   ·intro h2;exact absurd h2 Od
   ·rintro rfl;exact absurd (qao.2 rfl) h
theorem qbi {a b:TM}:cmpT a b<0↔LtT a b:=by
 unfold cmpT LtT
 split
 ·rename_i h
  split
  ·rename_i h2;exact ⟨fun _=>.inl h2,fun _=>by decide⟩
  ·rename_i h2
   exact ⟨fun h3=>absurd h3 Od,fun h3=>by
    rcases h3 with h3|⟨h3,_⟩
    ·exact absurd h3 h2
    ·exact absurd h3 h⟩
 ·rename_i h
  have h:a.kind=b.kind:=Classical.byContradiction h
  split
  ·rename_i h1
   rw [qrw]
   constructor
   ·intro h2;exact .inr ⟨h,.inl h2⟩
   ·rintro (h2|⟨_,h2|⟨h2,_⟩⟩)
    ·omega
    ·exact h2
    ·exact absurd (qd7.2 h2) h1
  ·rename_i h1
   have h1:a.text=b.text:=qd7.1 (Classical.byContradiction h1)
   split
   ·rename_i h2
    rw [qrw]
    constructor
    ·intro h3;exact .inr ⟨h,.inr ⟨h1,.inl h3⟩⟩
    ·rintro (h3|⟨_,h3|⟨_,h3|⟨h3,_⟩⟩⟩)
     ·omega
     ·rw [h1,qdk] at h3;cases h3
     ·exact h3
     ·exact absurd (qd7.2 h3) h2
   ·rename_i h2
    have h2:a.type=b.type:=qd7.1 (Classical.byContradiction h2);rw [qrw]
    constructor
    ·intro h3;exact .inr ⟨h,.inr ⟨h1,.inr ⟨h2,h3⟩⟩⟩
    ·rintro (h3|⟨_,h3|⟨_,h3|⟨_,h3⟩⟩⟩)
     ·omega
     ·rw [h1,qdk] at h3;cases h3
     ·rw [h2,qdk] at h3;cases h3
     ·exact h3
theorem qbh {a b:TM}:cmpT a b=0↔a=b:=by
 obtain ⟨ak,at_,ay,al⟩:=a;obtain ⟨bk,bt,by_,bl⟩:=b;unfold cmpT;simp only [TM.mk.injEq]
 split
 ·rename_i h
  constructor
  ·intro h2
   split at h2<;>exact absurd h2 Od
  ·rintro ⟨h2,_⟩;exact absurd h2 h
 ·rename_i h
  have h:ak=bk:=Classical.byContradiction h
  split
  ·rename_i h1
   exact ⟨fun h2=>absurd h2 h1,fun h2=>absurd (qd7.2 h2.2.1) h1⟩
  ·rename_i h1
   have h1:at_=bt:=qd7.1 (Classical.byContradiction h1)
   split
   ·rename_i h2
    exact ⟨fun h3=>absurd h3 h2,fun h3=>absurd (qd7.2 h3.2.2.1) h2⟩
   ·rename_i h2
    have h2:ay=by_:=qd7.1 (Classical.byContradiction h2);rw [qd7];exact ⟨fun h3=>⟨h,h1,h2,h3⟩,fun h3=>h3.2.2.2⟩
theorem LtT.irrefl (a:TM):¬ LtT a a:=fun h=>by
 have h1:=qbi.2 h;have h2:cmpT a a=0:=qbh.2 rfl;omega
theorem LtT.ne {a b:TM} (h:LtT a b):a≠b:=by
 rintro rfl;exact LtT.irrefl _ h
theorem LtT.trans {a b c:TM} (h:LtT a b) (g:LtT b c):LtT a c:=by
 unfold LtT at *
 rcases h with h|⟨h,h1⟩
 ·rcases g with g|⟨g,_⟩
  ·exact .inl Oo
  ·exact .inl Oo
 ·rcases g with g|⟨g,g1⟩
  ·exact .inl Oo
  ·refine .inr ⟨h.trans g,?_⟩
   rcases h1 with h1|⟨h1,h2⟩
   ·rcases g1 with g1|⟨g1,_⟩
    ·exact .inl (qey h1 g1)
    ·exact .inl (by rw [← g1];exact h1)
   ·rcases g1 with g1|⟨g1,g2⟩
    ·exact .inl (by rw [h1];exact g1)
    ·refine .inr ⟨h1.trans g1,?_⟩
     rcases h2 with h2|⟨h2,h3⟩
     ·rcases g2 with g2|⟨g2,_⟩
      ·exact .inl (qey h2 g2)
      ·exact .inl (by rw [← g2];exact h2)
     ·rcases g2 with g2|⟨g2,g3⟩
      ·exact .inl (by rw [h2];exact g2)
      ·exact .inr ⟨h2.trans g2,qey h3 g3⟩
theorem LtT.tri (a b:TM):LtT a b∨a=b∨LtT b a:=by
 unfold LtT
 rcases Int.lt_trichotomy a.kind b.kind with h|h|h
 ·exact .inl (.inl h)
 ·rcases qnm a.text b.text with h1|h1|h1
  ·exact .inl (.inr ⟨h,.inl h1⟩)
  ·rcases qnm a.type b.type with h2|h2|h2
   ·exact .inl (.inr ⟨h,.inr ⟨h1,.inl h2⟩⟩)
   ·rcases qnm a.lang b.lang with h3|h3|h3
    ·exact .inl (.inr ⟨h,.inr ⟨h1,.inr ⟨h2,h3⟩⟩⟩)
    ·refine .inr (.inl ?_);cases a;cases b;simp_all
    ·exact .inr (.inr (.inr ⟨h.symm,.inr ⟨h1.symm,.inr ⟨h2.symm,h3⟩⟩⟩))
   ·exact .inr (.inr (.inr ⟨h.symm,.inr ⟨h1.symm,.inl h2⟩⟩))
  ·exact .inr (.inr (.inr ⟨h.symm,.inl h1⟩))
 ·exact .inr (.inr (.inl h))
def RiseT (l:List TM):Prop:=l.Pairwise LtT
def AheadT (out l:List TM):Prop:=∀ z,out.getLast?=some z→∀ x∈l,z=x∨LtT z x
theorem RiseT.lt_last {out:List TM} (h:RiseT out) {z:TM} (hz:out.getLast?=some z):∀ x∈out,x=z∨LtT x z:=by
 obtain ⟨ys,rfl⟩:=List.getLast?_eq_some_iff.1 hz;intro x hx
 rcases List.mem_append.1 hx with hx|hx
 ·exact .inr ((List.pairwise_append.1 h).2.2 x hx z (List.mem_singleton.2 rfl))
 ·exact .inl (List.mem_singleton.1 hx)
theorem qfa {out:List TM} {x:TM} (h:RiseT out) (ha:AheadT out [x]):RiseT (qai out x)∧(∀ y,y∈qai out x↔y∈out∨y=x)∧(qai out x).getLast?=some x:=by
 unfold qai
 split
 ·rename_i z hz
  rcases ha z hz x (List.mem_singleton.2 rfl) with rfl|hlt
  ·rw [qb0.2 rfl];have hm:z∈out:=List.mem_of_getLast? hz;exact ⟨h,fun y=>⟨.inl,fun g=>by rcases g with g|rfl<;>assumption⟩,hz⟩
  ·have:qck z x=false:=Bool.eq_false_iff.2 fun e=>hlt.ne (qb0.1 e)
   rw [this];refine ⟨?_,fun y=>by simp,by simp⟩;refine List.pairwise_append.2 ⟨h,List.pairwise_singleton _ _,fun a hA b hB=>?_⟩;rw [List.mem_singleton.1 hB]
   rcases h.lt_last hz a hA with rfl|g
   ·exact hlt
   ·exact g.trans hlt
 ·rename_i hz
  have:out=[]:=List.getLast?_eq_none_iff.1 hz;subst this;exact ⟨List.pairwise_singleton _ _,fun y=>by simp,rfl⟩
theorem AheadT.next {out a:List TM} {x:TM} (hr:RiseT (x::a)) (hl:(qai out x).getLast?=some x):AheadT (qai out x) a:=fun z hz y hy=>by
 rw [hl] at hz;cases hz;exact .inr ((List.pairwise_cons.1 hr).1 y hy)
theorem qeo:∀ (f:Nat) (a b out:List TM),a.length+b.length≤f→RiseT a→RiseT b→RiseT out→AheadT out a→AheadT out b→RiseT (mrgN f a b out)∧∀ y,y∈mrgN f a b out↔y∈out∨y∈a∨y∈b
 | 0,a,b,out,hf,_,_,ho,_,_=>by
  have ea:a=[]:=List.eq_nil_of_length_eq_zero Oo;have eb:b=[]:=List.eq_nil_of_length_eq_zero Oo;subst ea eb;exact ⟨ho,fun y=>by simp [mrgN]⟩
 | f+1,[],[],out,_,_,_,ho,_,_=>⟨ho,fun y=>by simp [mrgN]⟩
 | f+1,x::a,[],out,hf,ha,hb,ho,h1,h2=>by
  obtain ⟨p1,p2,p3⟩:=qfa ho (x:=x) fun z hz y hy=>h1 z hz y (by rw [List.mem_singleton.1 hy];exact List.mem_cons_self ..);obtain ⟨r1,r2⟩:=qeo f a [] (qai out x) (by simpa using hf) (List.pairwise_cons.1 ha).2 hb p1 (.next ha p3) (fun z _ y hy=>by cases hy);refine ⟨r1,fun y=>?_⟩;rw [mrgN,r2,p2];simp [or_assoc]
 | f+1,[],x::b,out,hf,ha,hb,ho,h1,h2=>by
  obtain ⟨p1,p2,p3⟩:=qfa ho (x:=x) fun z hz y hy=>h2 z hz y (by rw [List.mem_singleton.1 hy];exact List.mem_cons_self ..);obtain ⟨r1,r2⟩:=qeo f [] b (qai out x) (by simpa using hf) ha (List.pairwise_cons.1 hb).2 p1 (fun z _ y hy=>by cases hy) (.next hb p3);refine ⟨r1,fun y=>?_⟩;rw [mrgN,r2,p2];simp [or_assoc]
 | f+1,x::a,u::b,out,hf,ha,hb,ho,h1,h2=>by
  have hx:AheadT out [x]:=fun z hz y hy=>h1 z hz y (by rw [List.mem_singleton.1 hy];exact List.mem_cons_self ..)
  have hu:AheadT out [u]:=fun z hz y hy=>h2 z hz y (by rw [List.mem_singleton.1 hy];exact List.mem_cons_self ..)
  rw [mrgN]
  split
  ·rename_i hle
   obtain ⟨p1,p2,p3⟩:=qfa ho hx;have hxu:x=u∨LtT x u:=by
    rcases Int.lt_or_eq_of_le hle with h|h
    ·exact .inr (qbi.1 h)
    ·exact .inl (qbh.1 h)
   have hah:AheadT (qai out x) (u::b):=fun z hz y hy=>by
    rw [p3] at hz;cases hz
    rcases List.mem_cons.1 hy with rfl|hy
    ·exact hxu
    ·have:=(List.pairwise_cons.1 hb).1 y hy
     rcases hxu with rfl|h
     ·exact .inr this
     ·exact .inr (h.trans this)
   obtain ⟨r1,r2⟩:=qeo f a (u::b) (qai out x) (by simp only [List.length_cons] at hf ⊢;omega) (List.pairwise_cons.1 ha).2 hb p1 (.next ha p3) hah;refine ⟨r1,fun y=>?_⟩;rw [r2,p2];simp only [List.mem_cons,or_assoc]
  ·rename_i hle
   obtain ⟨p1,p2,p3⟩:=qfa ho hu;have hux:LtT u x:=by
    rcases LtT.tri x u with h|h|h
    ·exact absurd (Int.le_of_lt (qbi.2 h)) hle
    ·exact absurd (Int.le_of_eq (qbh.2 h)) hle
    ·exact h
   have hah:AheadT (qai out u) (x::a):=fun z hz y hy=>by
    rw [p3] at hz;cases hz
    rcases List.mem_cons.1 hy with rfl|hy
    ·exact .inr hux
    ·exact .inr (hux.trans ((List.pairwise_cons.1 ha).1 y hy))
   obtain ⟨r1,r2⟩:=qeo f (x::a) b (qai out u) (by simp only [List.length_cons] at hf ⊢;omega) ha (List.pairwise_cons.1 hb).2 p1 hah (.next hb p3);refine ⟨r1,fun y=>?_⟩;rw [r2,p2];simp only [List.mem_cons]
   constructor
   ·rintro ((h|h)|(h|h)|h)<;>simp [h]
   ·rintro (h|(h|h)|(h|h))<;>simp [h]
theorem qgw:∀ (f:Nat) (l:List TM),l.length≤f→RiseT (tmsN f l)∧∀ y,y∈tmsN f l↔y∈l
 | 0,l,h=>by
  have:l=[]:=List.eq_nil_of_length_eq_zero Oo;subst this;exact ⟨List.Pairwise.nil,fun y=>Iff.rfl⟩
 | f+1,l,h=>by
  rw [tmsN]
  split
  ·rename_i h2
   refine ⟨?_,fun y=>Iff.rfl⟩
   match l,h2 with
   | [],_=>exact List.Pairwise.nil
   | [x],_=>exact List.pairwise_singleton _ _
  ·rename_i h2
   obtain ⟨a1,a2⟩:=qgw f (l.take (l.length/2)) (by rw [List.length_take];omega);obtain ⟨b1,b2⟩:=qgw f (l.drop (l.length/2)) (by rw [zld];omega);obtain ⟨r1,r2⟩:=qeo _ _ _ [] znr a1 b1 List.Pairwise.nil (fun z hz=>by cases hz) (fun z hz=>by cases hz);refine ⟨r1,fun y=>?_⟩;rw [r2,a2,b2,← List.mem_append,List.take_append_drop];simp
theorem qqg {m:LB}:∀ {i:Nat},(∀ j,j<i→(dnF m j).2=0)→DSt m i (dSt m i).1 (dSt m i).2∧(0<i→i≤dN m→dGet m (i-1)=some (dSt m i).1)
 | 0,_=>⟨⟨Nat.zero_le _,fun j h=>by cases h⟩,fun h=>by omega⟩
 | i+1,h=>by
  obtain ⟨ih,_⟩:=qqg (m:=m) (i:=i) fun j hj=>h j Oo;have hi:=h i Oo;obtain ⟨last,p⟩:LB × Nat:=dSt m i;have hd:dSt m i=((dSt m i).1,(dSt m i).2):=rfl;have hp:i%16=0→qz m (i/16)=(dSt m i).2:=fun h1=>Classical.byContradiction fun h2=>by
   rw [q11 hd h1 h2] at hi;cases hi
  have he:(entG ((qd m).drop (dSt m i).2) (decide (i%16=0)) (dSt m i).1).2.2=0:=Classical.byContradiction fun h2=>by
   rw [q7r hd rfl hp h2] at hi;exact h2 hi
  have hs:=ih.step hp rfl he;have e:=qsy hd (first:=decide (i%16=0)) rfl;rw [e];exact ⟨hs,fun _ h3=>hs.get Oo⟩
section
variable {l:LB} {ts:List TM} (hV:VTm l 3 0 ts) (hd:∀ k,k<3→(doE (sDict l k)).2=0)
include hV hd
end
def dTxt (m:LB) (i:Nat):LB:=(blk (qd m) (qz m (i/16)) (i%16)).1
theorem qqh {m:LB} (h:(doE m).2=0) {i:Nat} (hi:i<dN m):(blk (qd m) (qz m (i/16)) (i%16)).2.2=0∧dGet m i=some (dTxt m i):=by
 obtain ⟨_,_,hf,_⟩:=qs3 h;have h1:=(qqg (m:=m) (i:=i+1) fun k hk=>hf k Oo).2 Oo Oo;rw [Nat.add_sub_cancel,dGet,if_pos hi] at h1
 split at h1
 ·rename_i h2
  refine ⟨h2,?_⟩;rw [dGet,if_pos hi,if_pos h2,dTxt]
 ·cases h1
theorem BEnd.full {m:LB} (h:(doE m).2=0) (k:Nat):BEnd m k (min 16 (dN m-16*k)):=by
 refine ⟨fun j hj=>⟨by omega,?_⟩,by omega,fun h1 h2=>by omega⟩;have:=(qqh h (i:=16*k+j) Oo).1
 rwa [show (16*k+j)/16=k by omega,show (16*k+j)%16=j by omega] at this
theorem q1j (m:LB) (k j:Nat) (hj:j<16):bRow m k j=[ii (16*k+j:Nat),.string ⟨(dTxt m (16*k+j)).toArray⟩]:=by
 rw [bRow,dTxt,show (16*k+j)/16=k by omega,show (16*k+j)%16=j by omega]
theorem qn4:∀ x,x<256→∀ r,r<8→(x/2 ^ r≠0↔∃ s,s<8∧r≤s∧x/2 ^ s%2=1):=by decide +kernel
theorem qty {d:LB} {n:Nat} (hd:d.length=upN n 8):PadB d n↔n%8≠0∧(d.getD (n/8) 0).toNat/2 ^ (n%8)≠0:=by
 have hu:upN n 8=(n+7)/8:=rfl
 constructor
 ·rintro ⟨t,h1,h2,h3⟩;have h4:n%8≠0:=by omega
  have h5:t/8=n/8:=by omega
  rw [bitN,h5] at h3;exact ⟨h4,(qn4 _ (qbg _) _ Oo).2 ⟨t%8,by omega,by omega,h3⟩⟩
 ·rintro ⟨h1,h2⟩;obtain ⟨s,h3,h4,h5⟩:=(qn4 _ (qbg _) _ Oo).1 h2;refine ⟨8*(n/8)+s,by omega,by omega,?_⟩;rw [bitN,show (8*(n/8)+s)/8=n/8 by omega,show (8*(n/8)+s)%8=s by omega];exact h5
theorem q5b {d:LB} {n:Nat} (h:¬ PadB d n):∀ {m:Nat},n≤m→m≤8*d.length→cnt d m=cnt d n:=by
 intro m hm
 induction hm with
 | refl=>intro _;rfl
 | step hm ih=>
  rename_i m
  intro hle;rw [cnt,ih Oo];have h1:=qfq d m;have h2:bitN d m≠1:=fun e=>h ⟨m,hm,by omega,e⟩
  omega
def mkD (d:LB) (b:Nat):Nat→List (Nat × Nat × Nat)
 | 0=>[]
 | t+1=>if bitN d (8*b+t)=1∧cnt d (8*b+t)%512=0 then mkD d b t++[(512,cnt d (8*b+t)/512,8*b+t)] else mkD d b t
def grD (d:LB) (b:Nat):List (Nat × Nat × Nat):=if 8*b%2048=0 then [(2048,8*b/2048,cnt d (8*b))] else []
def smD (d:LB) (b:Nat):List (Nat × Nat × Nat):=if 8*b%256=0 then [(256,8*b/256,cnt d (8*b)-cnt d (2048*(8*b/2048)))] else []
def dirD (d:LB):Nat→List (Nat × Nat × Nat)
 | 0=>[]
 | b+1=>dirD d b++(grD d b++(smD d b++mkD d b 8))
def plD (n:Nat) (x:Nat × Nat × Nat):Nat:=if x.1=2048 then qx n+4*x.2.1 else if x.1=256 then qal n+2*x.2.1 else qap n+4*x.2.1
def szD (x:Nat × Nat × Nat):Nat:=if x.1=256 then 2 else 4
theorem qhp {d:LB} {b:Nat}:∀ {t:Nat} {x:Nat × Nat × Nat},x∈mkD d b t↔∃ s,s<t∧bitN d (8*b+s)=1∧cnt d (8*b+s)%512=0∧x=(512,cnt d (8*b+s)/512,8*b+s)
 | 0,x=>by simp [mkD]
 | t+1,x=>by
  rw [mkD]
  split
  ·rename_i h
   rw [List.mem_append,qhp,List.mem_singleton]
   constructor
   ·rintro (⟨s,h1,h2⟩|rfl)
    ·exact ⟨s,by omega,h2⟩
    ·exact ⟨t,by omega,h.1,h.2,rfl⟩
   ·rintro ⟨s,h1,h2,h3,h4⟩
    by_cases e:s=t
    ·subst e;exact .inr h4
    ·exact .inl ⟨s,by omega,h2,h3,h4⟩
  ·rename_i h
   rw [qhp]
   constructor
   ·rintro ⟨s,h1,h2⟩;exact ⟨s,by omega,h2⟩
   ·rintro ⟨s,h1,h2,h3,h4⟩
    by_cases e:s=t
    ·subst e;exact absurd ⟨h2,h3⟩ h
    ·exact ⟨s,by omega,h2,h3,h4⟩
theorem qd0 {d:LB}:∀ {nb:Nat} {x:Nat × Nat × Nat},x∈dirD d nb↔∃ b,b<nb∧(x∈grD d b∨x∈smD d b∨x∈mkD d b 8)
 | 0,x=>by simp [dirD]
 | nb+1,x=>by
  rw [dirD,List.mem_append,qd0,List.mem_append,List.mem_append]
  constructor
  ·rintro (⟨b,h1,h2⟩|h)
   ·exact ⟨b,by omega,h2⟩
   ·exact ⟨nb,by omega,h⟩
  ·rintro ⟨b,h1,h2⟩
   by_cases e:b=nb
   ·subst e;exact .inr h2
   ·exact .inl ⟨b,by omega,h2⟩
theorem qsw {d:LB} {k:Nat}:∀ {n:Nat},k<cnt d n→∃ i,i<n∧cnt d i=k∧bitN d i=1
 | 0,h=>by simp [cnt] at h
 | n+1,h=>by
  by_cases h1:k<cnt d n
  ·obtain ⟨i,a,b⟩:=qsw h1;exact ⟨i,by omega,b⟩
  ·have h2:=qfq d n;rw [cnt] at h;exact ⟨n,by omega,by omega,by omega⟩
theorem q88 (d:LB) {i:Nat} (hb:bitN d i=1) (hm:cnt d i%512=0):∀ n,i<n→((mL d n).drop (4*(cnt d i/512))).take 4=fixL i 4:=by
 intro n hn
 induction hn with
 | refl=>
  have hl:=qtk d i;have e:4*(cnt d i/512)=(mL d i).length:=by rw [hl];unfold upN;omega
  rw [mL,if_pos ⟨hb,hm⟩,e,List.drop_left,List.take_of_length_le (by rw [qf];exact Nat.le_refl _)]
 | step hn ih=>
  rename_i n
  have hl:=qtk d n;have hc:cnt d i+1≤cnt d n:=by
   have h1:cnt d (i+1)=cnt d i+bitN d i:=rfl;have h2:=qio (d:=d) (a:=i+1) (b:=n) hn;omega
  rw [mL]
  split
  ·rw [List.drop_append_of_le_length (by rw [hl];unfold upN;omega),List.take_append_of_le_length (by rw [zld,hl];unfold upN;omega)];exact ih
  ·exact ih
section
variable {l:LB} (hv:vOk l=true) (hp:¬ PadB (vD l) (vN l)) (hc:cnt (vD l) (vN l)=vM l)
include hv
theorem q4m:(vD l).length=upN (vN l) 8:=by
 simp only [vOk,Bool.and_eq_true,decide_eq_true_eq] at hv;have h1:qce (vN l) (vM l)=qx (vN l)+4*upN (vN l) 2048+2*upN (vN l) 256+4*upN (vM l) 512:=rfl;have h2:qx (vN l)=8+upN (vN l) 8:=rfl;rw [vD,List.length_take,zld];omega
include hp hc
theorem q5g {x:Nat × Nat × Nat} (hx:x∈dirD (vD l) (upN (vN l) 8)):qx (vN l)≤plD (vN l) x∧plD (vN l) x+szD x≤qce (vN l) (vM l)∧
  (∀ r,r<szD x→qg2 (vN l) (plD (vN l) x+r)=plD (vN l) x)∧((qab (vD l) (vN l)).drop (plD (vN l) x)).take (szD x)=fixL x.2.2 (szD x)∧x.2.2<256 ^ szD x:=by
 have hdl:=q4m hv;have hN:vN l≤67108864:=by
  simp only [vOk,Bool.and_eq_true,decide_eq_true_eq] at hv;exact hv.1.1.2
 obtain ⟨d,ed⟩:∃ d,d=vD l:=⟨_,rfl⟩
 obtain ⟨n,en⟩:∃ n,n=vN l:=⟨_,rfl⟩
 rw [← ed,← en] at hdl hp hc hx;rw [← en] at hN;rw [← ed,← en];have hW:=qwr d n;rw [hdl] at hW;have hG:qx n=8+upN n 8:=rfl;have hS:qal n=qx n+4*upN n 2048:=rfl;have hM:qap n=qal n+2*upN n 256:=rfl;have hE:qce n (vM l)=qap n+4*upN (vM l) 512:=rfl;rw [← hG] at hW;have hgl:=qtb d n;have hsl:=qt9 d n;have u8:upN n 8=(n+7)/8:=rfl;have u2048:upN n 2048=(n+2047)/2048:=rfl;have u256:upN n 256=(n+255)/256:=rfl;have u512:upN (vM l) 512=(vM l+511)/512:=rfl;have hcn:∀ i,i≤n→cnt d i≤n:=fun i hi=>Nat.le_trans (qeh d i) hi
 obtain ⟨b,hb,hx|hx|hx⟩:=qd0.1 hx
 ·unfold grD at hx
  split at hx
  ·rename_i h8
   rw [List.mem_singleton.1 hx];have e:plD n (2048,8*b/2048,cnt d (8*b))=qx n+4*(8*b/2048):=rfl;have e2:szD (2048,8*b/2048,cnt d (8*b))=4:=rfl;have hj:8*b/2048<upN n 2048:=by omega
   rw [e,e2];refine ⟨by omega,by omega,fun r hr=>?_,?_,?_⟩
   ·unfold qg2;rw [if_pos Oo];omega
   ·rw [← List.drop_drop,hW,List.drop_append_of_le_length Oo,List.take_append_of_le_length (by rw [zld];omega),q86 _ _ _ hj]
    congr 2;omega
   ·have:=hcn (8*b) Oo;show cnt d (8*b)<4294967296;omega
  ·cases hx
 ·unfold smD at hx
  split at hx
  ·rename_i h8
   rw [List.mem_singleton.1 hx];obtain ⟨v,ev⟩:∃ v,v=cnt d (8*b)-cnt d (2048*(8*b/2048)):=⟨_,rfl⟩
   rw [← ev];have e:plD n (256,8*b/256,v)=qal n+2*(8*b/256):=rfl;have e2:szD (256,8*b/256,v)=2:=rfl;have hj:8*b/256<upN n 256:=by omega
   rw [e,e2];refine ⟨by omega,by omega,fun r hr=>?_,?_,?_⟩
   ·unfold qg2;rw [if_neg Oo,if_pos Oo];omega
   ·have e3:qal n+2*(8*b/256)=qx n+((gL d n).length+2*(8*b/256)):=by omega
    have e4:∀ A B:LB,(A++B).drop (A.length+2*(8*b/256))=B.drop (2*(8*b/256)):=fun A B=>by rw [← List.drop_drop,List.drop_left]
    rw [e3,← List.drop_drop,hW,e4,List.drop_append_of_le_length Oo,List.take_append_of_le_length (by rw [zld];omega),q9h _ _ _ hj,ev];rw [show 256*(8*b/256)=8*b by omega,show 8*b/256/8=8*b/2048 by omega]
   ·have:=qu8 d (2048*(8*b/2048)) (8*b-2048*(8*b/2048));rw [show 2048*(8*b/2048)+(8*b-2048*(8*b/2048))=8*b by omega] at this;show v<65536;omega
  ·cases hx
 ·obtain ⟨s,hs,h1,h2,rfl⟩:=qhp.1 hx;obtain ⟨i,ei⟩:∃ i,i=8*b+s:=⟨_,rfl⟩
  rw [← ei] at h1 h2 ⊢;have hin:i<n:=Classical.byContradiction fun g=>hp ⟨i,by omega,by rw [hdl];omega,h1⟩
  have hcl:cnt d i+1≤cnt d n:=by
   have h3:cnt d (i+1)=cnt d i+bitN d i:=rfl;have h4:=qio (d:=d) (a:=i+1) (b:=n) hin;omega
  have e:plD n (512,cnt d i/512,i)=qap n+4*(cnt d i/512):=rfl;have e2:szD (512,cnt d i/512,i)=4:=rfl;have hj:cnt d i/512<upN (vM l) 512:=by omega
  rw [e,e2];refine ⟨by omega,by omega,fun r hr=>?_,?_,?_⟩
  ·unfold qg2;rw [if_neg Oo,if_neg Oo];omega
  ·have e3:qap n+4*(cnt d i/512)=qx n+((gL d n).length+((sL d n).length+4*(cnt d i/512))):=by omega
   have e4:∀ (A B:LB) (k:Nat),(A++B).drop (A.length+k)=B.drop k:=fun A B k=>by rw [← List.drop_drop,List.drop_left]
   rw [e3,← List.drop_drop,hW,e4,e4,q88 d h1 h2 n hin]
  ·show i<4294967296;omega
omit hp in
theorem qxv {i:Nat} (h1:qx (vN l)≤i) (h2:i<qce (vN l) (vM l)):∃ x∈dirD (vD l) (upN (vN l) 8),plD (vN l) x=qg2 (vN l) i∧plD (vN l) x≤i∧i<plD (vN l) x+szD x:=by
 have hdl:=q4m hv;obtain ⟨d,ed⟩:∃ d,d=vD l:=⟨_,rfl⟩
 obtain ⟨n,en⟩:∃ n,n=vN l:=⟨_,rfl⟩
 rw [← ed,← en] at hdl hc;rw [← en] at h1 h2;rw [← ed,← en];have hG:qx n=8+upN n 8:=rfl;have hS:qal n=qx n+4*upN n 2048:=rfl;have hM:qap n=qal n+2*upN n 256:=rfl;have hE:qce n (vM l)=qap n+4*upN (vM l) 512:=rfl;have u8:upN n 8=(n+7)/8:=rfl;have u2048:upN n 2048=(n+2047)/2048:=rfl;have u256:upN n 256=(n+255)/256:=rfl;have u512:upN (vM l) 512=(vM l+511)/512:=rfl
 by_cases g1:i<qal n
 ·obtain ⟨j,ej⟩:∃ j,j=(i-qx n)/4:=⟨_,rfl⟩
  have e:8*(256*j)/2048=j:=by omega
  refine ⟨(2048,8*(256*j)/2048,cnt d (8*(256*j))),qd0.2 ⟨256*j,by omega,.inl ?_⟩,?_⟩
  ·unfold grD;rw [if_pos Oo];exact List.mem_singleton.2 rfl
  ·have e1:plD n (2048,8*(256*j)/2048,cnt d (8*(256*j)))=qx n+4*(8*(256*j)/2048):=rfl;have e2:szD (2048,8*(256*j)/2048,cnt d (8*(256*j)))=4:=rfl;rw [e1,e2,e];unfold qg2;rw [if_pos g1];omega
 ·by_cases g2:i<qap n
  ·obtain ⟨j,ej⟩:∃ j,j=(i-qal n)/2:=⟨_,rfl⟩
   have e:8*(32*j)/256=j:=by omega
   refine ⟨(256,8*(32*j)/256,cnt d (8*(32*j))-cnt d (2048*(8*(32*j)/2048))),qd0.2 ⟨32*j,by omega,.inr (.inl ?_)⟩,?_⟩
   ·unfold smD;rw [if_pos Oo];exact List.mem_singleton.2 rfl
   ·obtain ⟨v,ev⟩:∃ v,v=cnt d (8*(32*j))-cnt d (2048*(8*(32*j)/2048)):=⟨_,rfl⟩
    rw [← ev];have e1:plD n (256,8*(32*j)/256,v)=qal n+2*(8*(32*j)/256):=rfl;have e2:szD (256,8*(32*j)/256,v)=2:=rfl;rw [e1,e2,e];unfold qg2;rw [if_neg g1,if_pos g2];omega
  ·obtain ⟨j,ej⟩:∃ j,j=(i-qap n)/4:=⟨_,rfl⟩
   obtain ⟨i',k1,k2,k3⟩:=qsw (d:=d) (k:=512*j) (n:=n) Oo;have e0:8*(i' / 8)+i' % 8=i':=by omega
   refine ⟨(512,cnt d i' / 512,i'),qd0.2 ⟨i' / 8,by omega,.inr (.inr (qhp.2 ⟨i' % 8,by omega,?_⟩))⟩,?_⟩
   ·rw [e0];exact ⟨k3,by omega,rfl⟩
   ·have e1:plD n (512,cnt d i' / 512,i')=qap n+4*(cnt d i' / 512):=rfl;have e2:szD (512,cnt d i' / 512,i')=4:=rfl;rw [e1,e2];unfold qg2;rw [if_neg g1,if_neg g2];omega
end
theorem qlp:∀ (b:Nat) {a:Nat},a≤b→b<18446744073709551616→qp a≤qp b:=by
 intro b
 induction b using Nat.strongRecOn with
 | _ b ih=>
  intro a h hb
  by_cases ha:a=0
  ·subst ha;rw [qcp];exact Nat.zero_le _
  ·rw [qdp a ha Oo,qdp b Oo hb];have:=ih (b/2) Oo (a:=a/2) Oo Oo;omega
theorem q08 {a b:Nat} (ha:a<18446744073709551616) (hb:b<18446744073709551616):qp (max a b)=max (qp a) (qp b):=by
 rcases Nat.le_total a b with h|h
 ·have:=qlp b h hb;rw [Nat.max_eq_right h,Nat.max_eq_right this]
 ·have:=qlp a h ha;rw [Nat.max_eq_left h,Nat.max_eq_left this]
def mxN (f:Nat→Nat):Nat→Nat
 | 0=>0
 | i+1=>max (mxN f i) (f i)
theorem qy8 {f:Nat→Nat} {B:Nat} (hB:0<B):∀ {n:Nat},(∀ i,i<n→f i<B)→mxN f n<B
 | 0,_=>hB
 | n+1,h=>by
  have h1:=qy8 hB (n:=n) fun i hi=>h i Oo
  have h2:=h n Oo;rw [mxN];omega
theorem qu0 {f:Nat→Nat} {xs:List Nat}:∀ {n:Nat},(∀ i,i<n→f i<18446744073709551616∧xs.getD i 0=f i)→qp (mxN f n)=wMx xs n
 | 0,_=>qcp
 | n+1,h=>by
  obtain ⟨h1,h2⟩:=h n Oo;rw [mxN,wMx,q08 (qy8 Od fun i hi=>(h i Oo).1) h1,qu0 fun i hi=>h i Oo,h2]
theorem q6d (p:LB) (n wd:Nat):opE p n wd≠0↔PadB p (n*wd):=by
 unfold opE PadB
 split
 ·rename_i h;exact ⟨fun _=>h,fun _=>by decide⟩
 ·rename_i h;exact ⟨fun g=>absurd rfl g,fun g=>absurd g h⟩
def varL (n:Nat):LB:=if n<128 then [UInt8.ofNat n] else UInt8.ofNat (n%128+128)::varL (n/128)
termination_by n
decreasing_by omega
theorem qco {n:Nat} (h:n<128):varL n=[UInt8.ofNat n]:=by rw [varL,if_pos h]
theorem qdn {n:Nat} (h:128≤n):varL n=UInt8.ofNat (n%128+128)::varL (n/128):=by rw [varL,if_neg Oo]
theorem qak {n:Nat} (h:n<256):(UInt8.ofNat n).toNat=n:=by
 simp [UInt8.toNat_ofNat'];omega
theorem qup (n:Nat):1≤(varL n).length:=by
 by_cases h:n<128
 ·rw [qco h];simp
 ·rw [qdn Oo];simp
theorem qac (k:Nat):∀ n,n<2 ^ (7*(k+1))→(varL n).length≤k+1:=by
 induction k with
 | zero=>intro n h;rw [qco (by simpa using h)];simp
 | succ k ih=>
  intro n h
  by_cases hn:n<128
  ·rw [qco hn];simp
  ·rw [qdn Oo,List.length_cons];have e:2 ^ (7*(k+1+1))=2 ^ (7*(k+1))*128:=by rw [show 7*(k+1+1)=7*(k+1)+7 by omega,Nat.pow_add]
   have:=ih (n/128) (Nat.div_lt_of_lt_mul Oo);omega
theorem qvp:∀ (n i a:Nat) (r:LB),n*2 ^ (7*i)<2 ^ 64→i≤9→(0<i→0<n)→qhs i a (varL n++r)=(a+n*2 ^ (7*i),i+(varL n).length,0):=by
 intro n
 induction n using Nat.strongRecOn with
 | _ n ih=>
  intro i a r hn hi h0;have h9:i=9→n<2:=by intro e;subst e;simp at hn;omega
  by_cases h:n<128
  ·rw [qco h,List.singleton_append,qe8,qak Oo,if_neg Oo,if_pos h,Nat.mod_eq_of_lt h];rfl
  ·have e:n%128*2 ^ (7*i)+n/128*2 ^ (7*(i+1))=n*2 ^ (7*i):=by
    rw [show 7*(i+1)=7+7*i by omega,Nat.pow_add,← Nat.mul_assoc,← Nat.add_mul]
    congr 1
    have:=Nat.mod_add_div n 128;omega
   rw [qdn Oo,List.cons_append,qe8,qak Oo,if_neg Oo,if_neg Oo];rw [ih (n/128) Oo (i+1) _ r Oo Oo Oo];rw [show (n%128+128)%128=n%128 by omega,Nat.add_assoc,e,List.length_cons];refine Prod.ext rfl (Prod.ext ?_ rfl);show i+1+_=i+(_+1);omega
theorem qby {n:Nat} (h:n<2 ^ 64) (r:LB):numL (varL n++r)=(n,(varL n).length,0):=by
 rw [numL,qvp n 0 0 r (by simpa using h) Oo Oo];simp
theorem qhb:∀ a b:LB,comL a b≤a.length∧comL a b≤b.length∧a.take (comL a b)=b.take (comL a b)
 | [],[]=>⟨Nat.le_refl _,Nat.le_refl _,rfl⟩
 | [],_::_=>⟨Nat.zero_le _,Nat.zero_le _,rfl⟩
 | _::_,[]=>⟨Nat.zero_le _,Nat.zero_le _,rfl⟩
 | x::a,y::b=>by
  by_cases h:x=y
  ·subst h;obtain ⟨h1,h2,h3⟩:=qhb a b;rw [comL,if_pos rfl];exact ⟨by simpa using h1,by simpa using h2,by rw [List.take_succ_cons,List.take_succ_cons,h3]⟩
  ·rw [comL,if_neg h];exact ⟨Nat.zero_le _,Nat.zero_le _,rfl⟩
def entE (first:Bool) (ahead s:LB):LB:=
 if first then varL s.length++s else varL (comL ahead s)++(varL (s.length-comL ahead s)++s.drop (comL ahead s))
theorem qj {α:Type} (a b:List α):(a++b).drop a.length=b:=by simp
theorem qoe {first:Bool} {ahead s:LB} (r:LB) (hs:s.length≤262144) (ha:ahead.length≤262144):entG (entE first ahead s++r) first ahead=(s,(entE first ahead s).length,0):=by
 cases first with
 | true=>
  have e:entE true ahead s=varL s.length++s:=by rw [entE,if_pos rfl]
  rw [e,List.append_assoc];have h1:=qby (n:=s.length) Oo (s++r);unfold entG;rw [if_pos rfl];dsimp only;rw [if_neg Oo,List.drop_zero,h1];dsimp only;rw [if_neg Oo,if_neg Oo,if_neg Oo,if_neg (by simp only [zla];omega),Nat.zero_add,qj];simp
 | false=>
  have e:entE false ahead s=varL (comL ahead s)++(varL (s.length-comL ahead s)++s.drop (comL ahead s)):=by rw [entE,if_neg Od]
  obtain ⟨c1,c2,c3⟩:=qhb ahead s;rw [e,List.append_assoc,List.append_assoc];have h1:=qby (n:=comL ahead s) Oo (varL (s.length-comL ahead s)++(s.drop (comL ahead s)++r));have h2:=qby (n:=s.length-comL ahead s) Oo (s.drop (comL ahead s)++r);unfold entG;rw [if_neg Bool.false_ne_true,h1];dsimp only;rw [if_neg Oo,qj,h2];dsimp only;rw [if_neg Oo,if_neg Oo,if_neg Oo,if_neg (by simp only [zla,zld];omega),c3,← List.drop_drop,qj,qj];refine Prod.ext ?_ (Prod.ext ?_ rfl)
  ·show s.take (comL ahead s)++((s.drop (comL ahead s))++r).take (s.length-comL ahead s)=s;rw [List.take_append_of_le_length (by rw [zld];omega),List.take_of_length_le (l:=s.drop (comL ahead s)) (by rw [zld];omega),List.take_append_drop]
  ·simp only [zla,zld];omega
def tx (L:List LB) (i:Nat):LB:=L.getD i []
def arL (L:List LB):Nat→LB
 | 0=>[]
 | i+1=>arL L i++entE (decide (i%16=0)) (if i=0 then [] else tx L (i-1)) (tx L i)
theorem ql0 (L:List LB) {i:Nat}:∀ {n:Nat},i≤n→∃ r,arL L n=arL L i++r
 | 0,h=>⟨[],by rw [Nat.le_zero.1 h,List.append_nil]⟩
 | n+1,h=>by
  by_cases e:i=n+1
  ·exact ⟨[],by rw [e,List.append_nil]⟩
  ·obtain ⟨r,hr⟩:=ql0 L (i:=i) (n:=n) Oo;exact ⟨r++_,by rw [arL,hr,List.append_assoc]⟩
theorem qsn (L:List LB) {i n:Nat} (h:i<n):∃ r,(arL L n).drop (arL L i).length=entE (decide (i%16=0)) (if i=0 then [] else tx L (i-1)) (tx L i)++r:=by
 obtain ⟨r,hr⟩:=ql0 L (i:=i+1) (n:=n) h;refine ⟨r,?_⟩;rw [hr,arL,List.append_assoc,qj]
def byt (f:Nat→Nat) (b:Nat):Nat:=
 f (8*b)%2+2*(f (8*b+1)%2)+4*(f (8*b+2)%2)+8*(f (8*b+3)%2)+16*(f (8*b+4)%2)+32*(f (8*b+5)%2)+64*(f (8*b+6)%2)+128*(f (8*b+7)%2)
theorem qky (f:Nat→Nat) (b:Nat):byt f b<256:=by unfold byt;omega
theorem q46 (f:Nat→Nat) (b:Nat):∀ {r:Nat},r<8→byt f b/2 ^ r%2=f (8*b+r)%2
 | 0,_=>by unfold byt;simp;omega
 | 1,_=>by unfold byt;simp;omega
 | 2,_=>by unfold byt;simp;omega
 | 3,_=>by unfold byt;simp;omega
 | 4,_=>by unfold byt;simp;omega
 | 5,_=>by unfold byt;simp;omega
 | 6,_=>by unfold byt;simp;omega
 | 7,_=>by unfold byt;simp;omega
 | _+8,h=>by omega
def qbm (f:Nat→Nat) (n:Nat):LB:=(List.range n).map fun b=>UInt8.ofNat (byt f b)
theorem qbu (f:Nat→Nat) (n:Nat):(qbm f n).length=n:=by simp [qbm]
theorem q1m (f:Nat→Nat) {n b:Nat} (h:b<n):((qbm f n).getD b 0).toNat=byt f b:=by
 rw [List.getD_eq_getElem?_getD,qbm,List.getElem?_map,List.getElem?_range h];exact qak (qky f b)
theorem qf2 (f:Nat→Nat) {n t:Nat} (h:t<8*n):bitN (qbm f n) t=f t%2:=by
 rw [bitN,q1m f Oo,q46 f _ Oo]
 congr 2;omega
def qcs (l:List Nat) (w:Nat):LB:=qbm (fun t=>l.getD (t/w) 0/2 ^ (t%w)) ((l.length*w+7)/8)
theorem qbl (l:List Nat) (w:Nat):(qcs l w).length=(l.length*w+7)/8:=qbu _ _
theorem qzr {l:List Nat} {w i k:Nat} (hi:i<l.length) (hk:k<w):bitN (qcs l w) (i*w+k)=l.getD i 0/2 ^ k%2:=by
 have h1:(i+1)*w≤l.length*w:=Nat.mul_le_mul_right _ hi;rw [Nat.add_mul] at h1;have e1:(i*w+k)/w=i:=by rw [Nat.mul_comm,Nat.mul_add_div Oo,Nat.div_eq_of_lt hk,Nat.add_zero]
 have e2:(i*w+k)%w=k:=by rw [Nat.mul_comm,Nat.mul_add_mod,Nat.mod_eq_of_lt hk]
 rw [qcs,qf2 _ Oo];show _/2 ^ _%2=_;rw [e1,e2]
theorem qk9 {l:List Nat} {w i:Nat} (hi:i<l.length):∀ {k:Nat},k≤w→valB (qcs l w) (i*w) k=l.getD i 0%2 ^ k
 | 0,_=>by rw [valB,Nat.pow_zero,Nat.mod_one]
 | k+1,h=>by
  rw [valB,qk9 hi Oo,qzr hi Oo,Nat.mod_pow_succ,Nat.mul_comm (2 ^ k)]
theorem qzt {l:List Nat} {w i:Nat} (hi:i<l.length) (h:l.getD i 0<2 ^ w):valB (qcs l w) (i*w) w=l.getD i 0:=by
 rw [qk9 hi znr,Nat.mod_eq_of_lt h]
theorem qzs (l:List Nat) (w:Nat):¬ PadB (qcs l w) (l.length*w):=by
 rintro ⟨t,h1,h2,h3⟩;rw [qbl] at h2;rw [qcs,qf2 _ h2] at h3;have hw:0<w:=by
  rcases Nat.eq_zero_or_pos w with e|e
  ·subst e;simp at h2
  ·exact e
 have:l.length≤t/w:=(Nat.le_div_iff_mul_le hw).2 h1;rw [List.getD_eq_getElem?_getD,List.getElem?_eq_none this] at h3;simp at h3
theorem qir:∀ {n:Nat},n<18446744073709551616→n<2 ^ qp n:=by
 intro n
 induction n using Nat.strongRecOn with
 | _ n ih=>
  intro h
  by_cases h0:n=0
  ·subst h0;decide
  ·have:=ih (n/2) Oo Oo;rw [qdp n h0 h,Nat.add_comm,Nat.pow_succ];omega
def plcL (L:List LB):List Nat:=(List.range (upN L.length 16)).map fun k=>(arL L (16*k)).length
def qr (L:List LB):LB:=arL L L.length
def qh (L:List LB):LB:=varL L.length++(varL (qr L).length++(qcs (plcL L) (qp (qr L).length)++qr L))
structure DOk (L:List LB):Prop where
 n:L.length≤4194304
 len:∀ i,(tx L i).length≤262144
 rise:∀ i,i+1<L.length→leL (tx L (i+1)) (tx L i)=false
 area:(qr L).length≤67108864
theorem qiu (L:List LB):(plcL L).length=upN L.length 16:=by simp [plcL]
theorem qzz {L:List LB} {k:Nat} (h:k<upN L.length 16):(plcL L).getD k 0=(arL L (16*k)).length:=by
 rw [List.getD_eq_getElem?_getD,plcL,List.getElem?_map,List.getElem?_range h];rfl
section
variable {L:List LB} (h:DOk L)
include h
theorem DOk.num0:numL (qh L)=(L.length,(varL L.length).length,0):=qby (by have:=h.n;omega) _
theorem DOk.vAt1:vAt (qh L) 1=(varL L.length).length:=by rw [vAt,vAt,List.drop_zero,h.num0,Nat.zero_add]
theorem DOk.drop1:(qh L).drop (varL L.length).length=varL (qr L).length++(qcs (plcL L) (qp (qr L).length)++qr L):=have _h:=h;qj _ _
theorem DOk.num1:numL ((qh L).drop (vAt (qh L) 1))=((qr L).length,(varL (qr L).length).length,0):=by
 rw [h.vAt1,h.drop1];exact qby (by have:=h.area;omega) _
theorem DOk.eN:dN (qh L)=L.length:=by rw [dN,vNum,vAt,List.drop_zero,h.num0]
theorem DOk.eSize:qva (qh L)=(qr L).length:=by rw [qva,vNum,h.num1]
theorem DOk.eThird:qb9 (qh L)=(varL L.length).length+(varL (qr L).length).length:=by rw [qb9,vAt,h.num1,h.vAt1]
theorem DOk.eFourth:qt (qh L)=(varL L.length).length+(varL (qr L).length).length+(qcs (plcL L) (qp (qr L).length)).length:=by
 rw [qt,h.eThird,h.eN,dW,h.eSize,qbl,qiu]
theorem DOk.eEntries:qd (qh L)=qr L:=by
 rw [qd,h.eFourth,← List.drop_drop,← List.drop_drop,h.drop1,qj,qj]
theorem DOk.ePlaces:qaf (qh L)=qcs (plcL L) (qp (qr L).length):=by
 rw [qaf,h.eFourth,h.eThird,← List.drop_drop,h.drop1,qj,Nat.add_sub_cancel_left,List.take_append_of_le_length znr,List.take_length]
theorem DOk.len_eq:(qh L).length=(varL L.length).length+(varL (qr L).length).length+(qcs (plcL L) (qp (qr L).length)).length+(qr L).length:=by
 have _h:=h;rw [qh];simp only [zla];omega
theorem DOk.eE:(dE (qh L)).2=0:=by
 have h2:(errF (dhF (qh L)) 2).2=0:=qbw fun k hk=>by
  have hn:=h.n;have ha:=h.area
  match k,hk with
  | 0,_=>rw [dhF,if_pos rfl,qfw (by rw [vAt,List.drop_zero,h.num0]) (by rw [show vNum (qh L) 0=_ from h.eN];exact hn)]
  | 1,_=>rw [dhF,if_neg Od,qfw (by rw [h.num1]) (by rw [show vNum (qh L) 1=_ from h.eSize];exact ha)]
 rw [dE,if_neg Oo,dEnd,h.eFourth,h.eSize,h.len_eq,if_neg Oo,if_neg Oo]
theorem DOk.ePlace {k:Nat} (hk:k<upN L.length 16):qz (qh L) k=(arL L (16*k)).length:=by
 have ha:=h.area;have hn:16*k≤L.length:=by unfold upN at hk;omega
 obtain ⟨r,hr⟩:=ql0 L hn;have hl:(arL L (16*k)).length≤(qr L).length:=by rw [qr,hr,zla];omega
 rw [qz,h.ePlaces,dW,h.eSize,qzt (by rw [qiu];exact hk),qzz hk];rw [qzz hk];exact Nat.lt_of_le_of_lt hl (qir Oo)
theorem DOk.eSt:∀ {i:Nat},i≤L.length→dSt (qh L) i=(if i=0 then [] else tx L (i-1),(arL L i).length)
 | 0,_=>by rw [dSt,if_pos rfl];rfl
 | i+1,hi=>by
  have ih:=DOk.eSt (i:=i) Oo;obtain ⟨r,hr⟩:=qsn L (i:=i) (n:=L.length) hi;have ha:(if i=0 then [] else tx L (i-1)).length≤262144:=by split;exact Nat.zero_le _;exact h.len _
  rw [qsy ih rfl,h.eEntries,qr,hr,qoe r (h.len i) ha,arL,zla,if_neg (Nat.succ_ne_zero i),Nat.add_sub_cancel]
theorem DOk.ent {i:Nat} (hi:i<L.length):∃ r,(qd (qh L)).drop (dSt (qh L) i).2=entE (decide (i%16=0)) (dSt (qh L) i).1 (tx L i)++r:=by
 obtain ⟨r,hr⟩:=qsn L (i:=i) (n:=L.length) hi;refine ⟨r,?_⟩;rw [h.eSt Oo,h.eEntries];exact hr
theorem DOk.enF {i:Nat} (hi:i<L.length):(dnF (qh L) i).2=0:=by
 obtain ⟨r,hr⟩:=h.ent hi;have hl:(dSt (qh L) i).1.length≤262144:=by rw [h.eSt Oo];show (if _ then _ else _:LB).length≤_;split;exact Nat.zero_le _;exact h.len _
 have hE:=qoe (first:=decide (i%16=0)) r (h.len i) hl;have hs1:(dSt (qh L) (i+1)).1=tx L i:=by rw [h.eSt Oo,if_neg (Nat.succ_ne_zero i),Nat.add_sub_cancel]
 rw [dnF,hr,hE,hs1];rw [if_neg (fun g=>g.2 (by rw [h.ePlace (by unfold upN;omega),h.eSt Oo,show 16*(i/16)=i by omega]))];rw [if_neg Js];rw [if_neg (fun g=>by
  have:=h.rise (i-1) Oo;rw [show i-1+1=i by omega] at this;rw [h.eSt Oo,if_neg Oo] at g;exact absurd (g.2.symm.trans this) Od)]
 rw [if_neg (fun g=>g.2 (by
  rw [entE,if_neg (by simpa using g.1),List.append_assoc,qby (by have:=(qhb (dSt (qh L) i).1 (tx L i)).1;omega),qn6]))]
theorem DOk.eoE:doE (qh L)=(0,0):=by
 refine q7s h.eE ?_ (fun j hj=>h.enF (by rw [← h.eN];exact hj)) ?_
 ·refine Classical.byContradiction fun g=>?_;have:=(q6d _ _ _).1 g;rw [h.ePlaces,h.eN,dW,h.eSize,← qiu] at this;exact qzs _ _ this
 ·rw [h.eN,h.eSt znr,h.eEntries];exact Nat.lt_irrefl _
theorem DOk.eGet {i:Nat} (hi:i<L.length):dGet (qh L) i=some (tx L i):=by
 have h1:=(qqg (m:=qh L) (i:=i+1) fun k hk=>h.enF Oo).2 Oo (by rw [h.eN];omega);rw [Nat.add_sub_cancel,h.eSt Oo,if_neg Oo,Nat.add_sub_cancel] at h1;exact h1
end
def jo3 (a b c:LB):LB:=varL a.length++(varL b.length++(varL c.length++(a++(b++c))))
section
variable {a b c:LB} (h:a.length+b.length+c.length≤67108864)
include h
theorem qyk:numL (jo3 a b c)=(a.length,(varL a.length).length,0):=qby Oo _
theorem q35:vAt (jo3 a b c) 1=(varL a.length).length:=by rw [vAt,vAt,List.drop_zero,qyk h,Nat.zero_add]
theorem qyl:numL ((jo3 a b c).drop (vAt (jo3 a b c) 1))=(b.length,(varL b.length).length,0):=by
 rw [q35 h,jo3,qj];exact qby Oo _
theorem q36:vAt (jo3 a b c) 2=(varL a.length).length+(varL b.length).length:=by rw [vAt,qyl h,q35 h]
theorem qym:numL ((jo3 a b c).drop (vAt (jo3 a b c) 2))=(c.length,(varL c.length).length,0):=by
 rw [q36 h,jo3,← List.drop_drop,qj,qj];exact qby Oo _
theorem q37:vAt (jo3 a b c) 3=(varL a.length).length+(varL b.length).length+(varL c.length).length:=by rw [vAt,qym h,q36 h]
theorem qyn:vNum (jo3 a b c) 0=a.length:=by rw [vNum,vAt,List.drop_zero,qyk h]
theorem qyo:vNum (jo3 a b c) 1=b.length:=by rw [vNum,qyl h]
theorem qyp:vNum (jo3 a b c) 2=c.length:=by rw [vNum,qym h]
theorem q38:qm (jo3 a b c) 1=vAt (jo3 a b c) 3+a.length:=by rw [qm,qm,qyn h]
theorem q39:qm (jo3 a b c) 2=vAt (jo3 a b c) 3+a.length+b.length:=by rw [qm,q38 h,qyo h]
theorem q75:qm (jo3 a b c) 3=vAt (jo3 a b c) 3+a.length+b.length+c.length:=by rw [qm,q39 h,qyp h]
theorem qmr:(jo3 a b c).drop (vAt (jo3 a b c) 3)=a++(b++c):=by
 rw [q37 h,jo3,← List.drop_drop,← List.drop_drop,qj,qj,qj]
theorem q5r:(jo3 a b c).length=vAt (jo3 a b c) 3+a.length+b.length+c.length:=by
 rw [q37 h,jo3];simp only [zla];omega
theorem q76:(sE (jo3 a b c)).2=0:=by
 have h2:(errF (vsF (jo3 a b c)) 3).2=0:=qbw fun k hk=>by
  match k,hk with
  | 0,_=>rw [vsF,qfw (by rw [vAt,List.drop_zero,qyk h]) (by rw [qyn h];omega)]
  | 1,_=>rw [vsF,qfw (by rw [qyl h]) (by rw [qyo h];omega)]
  | 2,_=>rw [vsF,qfw (by rw [qym h]) (by rw [qyp h];omega)]
 rw [sE,if_neg Oo,q75 h,q5r h,if_neg (Nat.lt_irrefl _),if_neg (Nat.lt_irrefl _)]
theorem q71:sDict (jo3 a b c) 0=a:=by
 rw [sDict,qm,qmr h,qyn h,List.take_left]
theorem q72:sDict (jo3 a b c) 1=b:=by
 rw [sDict,q38 h,← List.drop_drop,qmr h,qj,qyo h,List.take_left]
theorem q73:sDict (jo3 a b c) 2=c:=by
 rw [sDict,q39 h,← List.drop_drop,← List.drop_drop,qmr h,qj,qj,qyp h,List.take_length]
end
def secE (T:List TM) (k:Nat):List LB:=(T.filter fun t=>decide (t.kind=((k+1:Nat):Int))).map qbv
def vocB (T:List TM):LB:=jo3 (qh (secE T 0)) (qh (secE T 1)) (qh (secE T 2))
structure VOk (T:List TM):Prop where
 d:∀ k,k<3→DOk (secE T k)
 size:(qh (secE T 0)).length+(qh (secE T 1)).length+(qh (secE T 2)).length≤67108864
section
variable {T:List TM} (h:VOk T)
include h
theorem VOk.sDict {k:Nat} (hk:k<3):sDict (vocB T) k=qh (secE T k):=
 match k,hk with
 | 0,_=>q71 h.size
 | 1,_=>q72 h.size
 | 2,_=>q73 h.size
theorem VOk.sE:(sE (vocB T)).2=0:=q76 h.size
theorem VOk.doE {k:Nat} (hk:k<3):(doE (Go.Proofs.YtacnkdagblbgfaaGreatDoor.sDict (vocB T) k)).2=0:=by rw [h.sDict hk,(h.d k hk).eoE]
theorem VOk.dN {k:Nat} (hk:k<3):dN (Go.Proofs.YtacnkdagblbgfaaGreatDoor.sDict (vocB T) k)=(secE T k).length:=by rw [h.sDict hk,(h.d k hk).eN]
theorem VOk.wE:(wE (vocB T)).2=0:=by
 rw [Go.Proofs.YtacnkdagblbgfaaGreatDoor.wE,if_neg (by rw [h.sE];exact fun g=>g rfl)];exact qbw fun k hk=>by rw [sdF,if_pos (qs3 (h.doE hk)).1]
end
section
variable {d:LB} {n:Nat} (hn:n≤67108864) (hd:d.length=upN n 8)
include hn
theorem qb8:vN (qab d n)=n:=by
 have e:(qab d n).take 4=fixL n 4:=by
  simp only [qab,List.append_assoc];rw [List.take_append_of_le_length (by rw [qf];omega),List.take_of_length_le (by rw [qf];omega)]
 rw [vN,e,qyz,Nat.mod_eq_of_lt (by show n<4294967296;omega)]
theorem qg4:vM (qab d n)=cnt d n:=by
 have hc:=qeh d n;have e:((qab d n).drop 4).take 4=fixL (cnt d n) 4:=by
  simp only [qab,List.append_assoc];have:=qj (fixL n 4) (fixL (cnt d n) 4++(d++(gL d n++(sL d n++mL d n))));rw [qf] at this;rw [this,List.take_append_of_le_length (by rw [qf];omega),List.take_of_length_le (by rw [qf];omega)]
 rw [vM,e,qyz,Nat.mod_eq_of_lt (by show cnt d n<4294967296;omega)]
include hd
theorem qfc:vD (qab d n)=d:=by
 rw [vD,qb8 hn];have e:(qab d n).drop 8=d++(gL d n++(sL d n++mL d n)):=by
  simp only [qab,List.append_assoc];have:=qj (fixL n 4++fixL (cnt d n) 4) (d++(gL d n++(sL d n++mL d n)));rw [zla,qf,qf,List.append_assoc] at this;exact this
 rw [e,← hd,List.take_left]
theorem qqa:vOk (qab d n)=true:=by
 have hl:=qke d n;have hc:=qeh d n;simp only [vOk,Bool.and_eq_true,decide_eq_true_eq,qb8 hn,qg4 hn];refine ⟨⟨⟨by omega,hn⟩,hc⟩,?_⟩;rw [hl,hd];unfold qce qap qal qx;omega
end
def frU (Q:Nat→Nat→Nat) (i:Nat):Nat→Bool
 | 0=>i==0||Q i 0 != Q (i-1) 0
 | k+1=>frU Q i k||Q i (k+1) != Q (i-1) (k+1)
theorem qga (Q:Nat→Nat→Nat):∀ k,frU Q 0 k=true
 | 0=>rfl
 | k+1=>by rw [frU,qga Q k];rfl
theorem qx8 {Q:Nat→Nat→Nat} {i k:Nat} (h:frU Q i k=true):∀ {m:Nat},k≤m→frU Q i m=true
 | 0,hm=>by rwa [Nat.le_zero.1 hm] at h
 | m+1,hm=>by
  by_cases e:k=m+1
  ·rwa [e] at h
  ·rw [frU,qx8 h (m:=m) Oo];rfl
theorem qml {Q:Nat→Nat→Nat} {i:Nat}:∀ {k:Nat},frU Q i k=false→0<i∧∀ j,j≤k→Q i j=Q (i-1) j
 | 0,h=>by
  simp only [frU,Bool.or_eq_false_iff,beq_eq_false_iff_ne,bne_eq_false_iff_eq] at h;exact ⟨by omega,fun j hj=>by rw [Nat.le_zero.1 hj];exact h.2⟩
 | k+1,h=>by
  simp only [frU,Bool.or_eq_false_iff,bne_eq_false_iff_eq] at h;obtain ⟨h1,h2⟩:=qml h.1;refine ⟨h1,fun j hj=>?_⟩
  by_cases e:j=k+1
  ·rw [e];exact h.2
  ·exact h2 j Oo
theorem q31 {Q:Nat→Nat→Nat} {i:Nat} (h0:0<i):∀ {k:Nat},(∀ j,j≤k→Q i j=Q (i-1) j)→frU Q i k=false
 | 0,h=>by simp only [frU,Bool.or_eq_false_iff,beq_eq_false_iff_ne,bne_eq_false_iff_eq];exact ⟨by omega,h 0 znr⟩
 | k+1,h=>by
  rw [frU,q31 h0 fun j hj=>h j Oo];simp only [Bool.false_or,bne_eq_false_iff_eq];exact h (k+1) znr
def nuT (Q:Nat→Nat→Nat) (k:Nat):Nat→List Nat
 | 0=>[]
 | i+1=>if frU Q i k=true then nuT Q k i++[Q i k] else nuT Q k i
def stT (Q:Nat→Nat→Nat) (k:Nat):Nat→List Bool
 | 0=>[]
 | i+1=>if frU Q i (k+1)=true then stT Q k i++[frU Q i k] else stT Q k i
def leT (Q:Nat→Nat→Nat) (k i:Nat):Nat:=(nuT Q k i).length
section
variable {Q:Nat→Nat→Nat}
theorem qdy {k i:Nat} (h:frU Q i k=true):leT Q k (i+1)=leT Q k i+1:=by rw [leT,nuT,if_pos h];simp [leT]
theorem qc4 {k i:Nat} (h:frU Q i k=false):leT Q k (i+1)=leT Q k i:=by rw [leT,nuT,if_neg (by rw [h];decide)];rfl
theorem qos (k:Nat):∀ i,leT Q k i≤i
 | 0=>Nat.le_refl _
 | i+1=>by
  have:=qos k i;cases h:frU Q i k with
  | true=>rw [qdy h];omega
  | false=>rw [qc4 h];omega
theorem q5x (k:Nat) {i:Nat} (h:0<i):0<leT Q k i:=by
 induction i with
 | zero=>omega
 | succ i ih=>
  by_cases e:i=0
  ·subst e;rw [qdy (qga Q k)];omega
  ·have:=ih Oo;cases h:frU Q i k with
   | true=>rw [qdy h];omega
   | false=>rw [qc4 h];omega
theorem qtg (k:Nat):∀ i,leT Q k i≤leT Q (k+1) i
 | 0=>Nat.le_refl _
 | i+1=>by
  have:=qtg k i;cases h:frU Q i k with
  | true=>rw [qdy h,qdy (qx8 h (m:=k+1) (Nat.le_succ k))];omega
  | false=>
   rw [qc4 h];cases h2:frU Q i (k+1) with
   | true=>rw [qdy h2];omega
   | false=>rw [qc4 h2];omega
theorem qfz (k:Nat):∀ i,(stT Q k i).length=leT Q (k+1) i
 | 0=>rfl
 | i+1=>by
  have:=qfz k i;cases h:frU Q i (k+1) with
  | true=>rw [qdy h,stT,if_pos h];simp [this]
  | false=>rw [qc4 h,stT,if_neg (by rw [h];decide),this]
theorem qpw (k:Nat):∀ i,(stT Q k i).count true=leT Q k i
 | 0=>rfl
 | i+1=>by
  have:=qpw k i;cases h:frU Q i (k+1) with
  | true=>
   rw [stT,if_pos h,List.count_append,this];cases h2:frU Q i k with
   | true=>rw [qdy h2];rfl
   | false=>rw [qc4 h2];rfl
  | false=>
   have h2:frU Q i k=false:=by
    cases h2:frU Q i k with
    | true=>rw [qx8 h2 (m:=k+1) (Nat.le_succ k)] at h;cases h
    | false=>rfl
   rw [qc4 h2,stT,if_neg (by rw [h];decide),this]
end
def laT (S:List Bool) (t:Nat):Nat:=if t+1=S.length then 1 else if S.getD (t+1) false=true then 1 else 0
def qat (S:List Bool):LB:=qbm (laT S) (upN S.length 8)
theorem q78 (S:List Bool) (t:Nat):laT S t%2=laT S t:=by
 unfold laT
 split
 ·rfl
 ·split<;>rfl
theorem qcr (S:List Bool):(qat S).length=upN S.length 8:=qbu _ _
theorem qoq {S:List Bool} {t:Nat} (h:t<S.length):bitN (qat S) t=laT S t:=by
 rw [qat,qf2 _ (by unfold upN;omega),q78]
theorem qyx (S:List Bool):¬ PadB (qat S) S.length:=by
 rintro ⟨t,h1,h2,h3⟩;rw [qcr] at h2;rw [qat,qf2 _ h2,laT,if_neg Oo,List.getD_eq_getElem?_getD,List.getElem?_eq_none Oo] at h3;cases h3
theorem qll (S:List Bool) {e:Nat} (h:e<S.length):(S.take (e+1)).count true=(S.take e).count true+(if S.getD e false=true then 1 else 0):=by
 rw [List.take_succ_eq_append_getElem h,List.count_append,List.getD_eq_getElem?_getD,zge h];cases S[e]<;>rfl
theorem qor {S:List Bool} (h0:S.getD 0 false=true):∀ {e:Nat},e<S.length→cnt (qat S) e+1=(S.take (e+1)).count true
 | 0,h=>by rw [qll S h,h0];rfl
 | e+1,h=>by
  have ih:=qor h0 (e:=e) Oo;rw [cnt,qll S h,qoq Oo,laT,if_neg Oo];omega
theorem qyw {S:List Bool} (h0:S.getD 0 false=true) (hl:0<S.length):cnt (qat S) S.length=S.count true:=by
 have h1:=qor h0 (e:=S.length-1) Oo;obtain ⟨m,hm⟩:∃ m,S.length=m+1:=⟨S.length-1,by omega⟩
 rw [hm,Nat.add_sub_cancel] at h1;rw [← hm,List.take_length] at h1;rw [hm,cnt,qoq Oo,laT,if_pos hm.symm];exact h1
theorem q0o (Q:Nat→Nat→Nat) (k:Nat) {a:Nat}:∀ {b:Nat},a≤b→∃ r,stT Q k b=stT Q k a++r
 | 0,h=>⟨[],by rw [Nat.le_zero.1 h,List.append_nil]⟩
 | b+1,h=>by
  by_cases e:a=b+1
  ·exact ⟨[],by rw [e,List.append_nil]⟩
  ·obtain ⟨r,hr⟩:=q0o Q k (a:=a) (b:=b) Oo;cases h2:frU Q b (k+1) with
   | true=>exact ⟨r++_,by rw [stT,if_pos h2,hr,List.append_assoc]⟩
   | false=>exact ⟨r,by rw [stT,if_neg (by rw [h2];decide),hr]⟩
theorem q3i (Q:Nat→Nat→Nat) (k:Nat) {n:Nat} (h:0<n):(stT Q k n).getD 0 false=true:=by
 obtain ⟨r,hr⟩:=q0o Q k (a:=1) (b:=n) h;rw [hr,stT,if_pos (qga Q (k+1)),qga Q k];rfl
def wiT (l:List Nat):Nat:=wMx l l.length
def lvB (Q:Nat→Nat→Nat) (n k:Nat):LB:=
 UInt8.ofNat (wiT (nuT Q k n))::(qcs (nuT Q k n) (wiT (nuT Q k n))++(if k=0 then [] else qab (qat (stT Q (k-1) n)) (leT Q k n)))
def tlB (Q:Nat→Nat→Nat) (n:Nat):Nat→LB
 | 0=>[]
 | j+1=>lvB Q n (3-j)++tlB Q n j
def qgy (Q:Nat→Nat→Nat) (n:Nat):LB:=
 varL (leT Q 0 n)++(varL (leT Q 1 n)++(varL (leT Q 2 n)++(varL (leT Q 3 n)++tlB Q n 4)))
structure TOk (Q:Nat→Nat→Nat) (n:Nat):Prop where
 nle:n≤1048576
 num:∀ i k,i<n→k<4→(k≠0→1≤Q i k)∧Q i k≤4194304
 rise:∀ i,0<i→i<n→∃ k,k<4∧(∀ j,j<k→Q i j=Q (i-1) j)∧Q (i-1) k<Q i k
theorem q4r {l:List Nat} {m:Nat} (h:∀ x∈l,qp x≤m):∀ i,wMx l i≤m
 | 0=>Nat.zero_le _
 | i+1=>by
  have ih:=q4r h i;rw [wMx]
  by_cases hi:i<l.length
  ·have:=h (l.getD i 0) (by rw [List.getD_eq_getElem?_getD,zge hi];exact List.getElem_mem hi);omega
  ·rw [List.getD_eq_getElem?_getD,List.getElem?_eq_none Oo];have:qp (Option.getD (none:Option Nat) 0)=0:=qcp;omega
theorem q4q (l:List Nat) {i:Nat}:∀ {n:Nat},i<n→qp (l.getD i 0)≤wMx l n
 | 0,h=>by omega
 | n+1,h=>by
  rw [wMx]
  by_cases e:i=n
  ·subst e;omega
  ·have:=q4q l (i:=i) (n:=n) Oo;omega
theorem qhr {Q:Nat→Nat→Nat} {k x:Nat}:∀ {n:Nat},x∈nuT Q k n→∃ i,i<n∧Q i k=x
 | 0,h=>by cases h
 | n+1,h=>by
  rw [nuT] at h
  split at h
  ·rcases List.mem_append.1 h with h|h
   ·obtain ⟨i,h1,h2⟩:=qhr h;exact ⟨i,by omega,h2⟩
   ·exact ⟨n,by omega,(List.mem_singleton.1 h).symm⟩
  ·obtain ⟨i,h1,h2⟩:=qhr h;exact ⟨i,by omega,h2⟩
section
variable {Q:Nat→Nat→Nat} {n:Nat} (h:TOk Q n)
include h
theorem TOk.wi {k:Nat} (hk:k<4):wiT (nuT Q k n)≤23:=q4r (fun x hx=>by
 obtain ⟨i,h1,rfl⟩:=qhr hx;exact qcl 23 _ (by have:=(h.num i k h1 hk).2;omega) Od) _
theorem TOk.le (k:Nat):leT Q k n≤1048576:=Nat.le_trans (qos k n) h.nle
theorem TOk.cnt {k:Nat}:cnt (qat (stT Q k n)) (leT Q (k+1) n)=leT Q k n:=by
 by_cases h0:n=0
 ·subst h0;rfl
 ·have hp:=q5x (Q:=Q) (k+1) (i:=n) Oo;have:=qyw (S:=stT Q k n) (q3i Q k Oo) (by rw [qfz];exact hp)
  rwa [qfz,qpw] at this
theorem TOk.lvLen {k:Nat}:(lvB Q n k).length=1+(leT Q k n*wiT (nuT Q k n)+7)/8+(if k=0 then 0 else qce (leT Q k n) (leT Q (k-1) n)):=by
 rw [lvB,List.length_cons,zla,qbl];show (leT Q k n*_+7)/8+_+1=_
 by_cases e:k=0
 ·rw [if_pos e,if_pos e];simp;omega
 ·obtain ⟨m,rfl⟩:∃ m,k=m+1:=⟨k-1,by omega⟩
  rw [if_neg e,if_neg e,qke,Nat.add_sub_cancel,h.cnt,qcr,qfz];unfold qce qap qal qx;omega
end
theorem q8g {Q:Nat→Nat→Nat} {k n e:Nat} (h:∀ i,i<n→Q i k<18446744073709551616) (he:e<leT Q k n):(nuT Q k n).getD e 0<2 ^ wiT (nuT Q k n):=by
 have h1:=q4q (nuT Q k n) (i:=e) (n:=(nuT Q k n).length) he;have h2:(nuT Q k n).getD e 0∈nuT Q k n:=by
  rw [List.getD_eq_getElem?_getD,zge (show e<(nuT Q k n).length from he)];exact List.getElem_mem _
 obtain ⟨i,h3,h4⟩:=qhr h2;have h5:=h i h3;rw [h4] at h5;exact Nat.lt_of_lt_of_le (qir h5) (Nat.pow_le_pow_right Od h1)
section
variable {Q:Nat→Nat→Nat} {n:Nat} (h:TOk Q n)
include h
theorem TOk.big {k:Nat} (hk:k<4):∀ i,i<n→Q i k<18446744073709551616:=fun i hi=>by have:=(h.num i k hi hk).2;omega
end
abbrev WS:=(Nat→Nat) × (Nat→Nat)
section
variable {Q:Nat→Nat→Nat} {n:Nat}
end
namespace V
section
variable {P:Program} {n:Nat} {r:Option Nat}
theorem q6r {row:String} {args:Array Value} {w:World} {R:Value→World→Prop} (h:Rows P row args w R):RowsIn (Fr r) 0 P row args w R:=fun c cs _=>by
 obtain ⟨v,w',hr,s⟩:=h c cs;exact ⟨v,w',hr,(stepsIn_wide.2 s:StepsIn (Machine.fenced P Fence.wide) P _ _)⟩
theorem qlr {o:Oper} (hnd:r=none∨∀ c,o.op≠.defer c) {a:Act} {ds:List Deferred} {w:World} {K K2:Act→World→Prop} {Q Q2:Exit→Act→World→Prop} (hQ:∀ e a w,Q e a w→e=.normal)
  (hK:∀ a w,K a w→K2 { a with defers:=a.defers++ds } w) (h:o.wp P a w K Q):o.wpIn (Fr r) 0 P { a with defers:=a.defers++ds } w K2 Q2:=by
 refine ⟨fun _ _=>trivial,?_⟩;have he:({ a with defers:=a.defers++ds }:Act).eval=a.eval:=by funext x;cases x<;>rfl
 have hs:o.semAt (Fr r).round a.eval=execOp a.eval o:=by
  rcases hnd with rfl|hnd
  ·exact Oper.semAt_none _ _
  ·exact Oper.semAt_eq _ _ _ hnd
 rw [he,hs];unfold Oper.wp at h;have hp:∀ v,({ a with defers:=a.defers++ds }:Act).put o.dst v={ a.put o.dst v with defers:=(a.put o.dst v).defers++ds }:=fun v=>by cases o.dst<;>rfl
 generalize (execOp a.eval o).run P w=res at h;cases res with
 | ok nx w'=>
  cases nx with
  | value v=>show K2 _ _;rw [hp];exact hK _ _ h
  | skip=>show K2 _ _;rw [hp];exact hK _ _ h
  | defer d=>
   have h1:=hK _ _ h;show K2 _ _;cases hd:o.dst with
   | none=>rw [hd] at h1;exact h1
   | some t=>rw [hd] at h1;exact h1
  | enter f args=>
   refine ⟨fun h=>by simp [Fr] at h,qcn.2 (Calls.mono h fun e w'' he=>?_)⟩;cases e with
   | returned v=>dsimp only at he ⊢;rw [hp];exact hK _ _ he
   | panicked ch=>have:=hQ _ _ _ he;cases this
   | outgrown=>obtain ⟨a',w',hq⟩:=he;have:=hQ _ _ _ hq;cases this
  | row row args=>
   refine ⟨fun h=>by simp [Fr] at h,q6r (Rows.mono h fun v w'' he=>?_)⟩;rw [hp];exact hK _ _ he
  | _=>exact h.elim
 | halt x w'=>
  cases x with
  | panic v=>have:=hQ _ _ _ h;cases this
  | _=>exact h.elim
def qza (ops:List Oper):Bool:=ops.all fun o=>match o.op with
 | .defer _=>false
 | _=>true
theorem qtq {ops:List Oper} (h:qza ops=true) {o:Oper} (ho:o∈ops):∀ c,o.op≠.defer c:=by
 intro c e;have:=List.all_eq_true.1 h o ho;rw [e] at this;cases this
theorem qsl {ops:Array Oper} (hnd:r=none∨qza ops.toList=true) {ds:List Deferred} {Q Q2:Exit→Act→World→Prop} (hQ:∀ e a w,Q e a w→e=.normal)
  (hk:∀ a w,Q .normal a w→Q2 .normal { a with defers:=a.defers++ds } w):∀ (fuel:Nat) (listed:Array Bool) (a:Act) (w:World),wpAny P .any ops Q fuel listed a w→
  wpAnyIn (Fr r) 0 P .any ops Q2 fuel listed { a with defers:=a.defers++ds } w
 | 0,_,_,_,h=>⟨h.1,hk _ _ h.2⟩
 | fuel+1,listed,a,w,h=>by
  refine ⟨fun hr=>hk _ _ (h.1 hr),fun i hi=>?_⟩;have h1:=h.2 i hi;unfold wpOp at h1;unfold wpOpIn;cases ho:ops[i]? with
  | none=>rw [ho] at h1;exact qsl hnd hQ hk fuel _ _ _ h1
  | some o=>
   rw [ho] at h1;dsimp only at h1 ⊢;have hno:r=none∨∀ c,o.op≠.defer c:=hnd.imp_right fun hn=>qtq hn (Array.mem_toList_iff.2 (Array.mem_of_getElem? ho))
   split
   ·rename_i hw
    rw [if_pos hw] at h1
    rcases h1 with h1|⟨_,a',w',hq⟩
    ·exact qlr hno hQ (fun a w h=>qsl hnd hQ hk fuel _ a w h) h1
    ·have:=hQ _ _ _ hq;cases this
   ·rename_i hw
    rw [if_neg hw] at h1;refine ⟨fun _ _=>trivial,?_⟩;have hp:({ a with defers:=a.defers++ds }:Act).put o.dst undef={ a.put o.dst undef with defers:=(a.put o.dst undef).defers++ds }:=by cases o.dst<;>rfl
    rw [hp];exact qsl hnd hQ hk fuel _ _ _ h1
structure AnyV (P:Program) (n:Nat) (ops:Array Oper) (R:(Nat→Value)→World→Prop) (ρ:Nat→Value) (w:World):Prop where
 h:∀ a,St n ρ a→wpAny P .any ops (fun e a' w'=>e=.normal∧∃ ρ',St n ρ' a'∧R ρ' w') ops.size (Array.replicate ops.size false) a w.drew
theorem DrawW.any {id:Nat} {ops:Array Oper} {Q:QW} {ρ:Nat→Value} {ds:List Deferred} {w:World} (hm:P.follows .mixedOrders=true) (hnd:r=none∨qza ops.toList=true)
  (h:AnyV P n ops (fun ρ' w'=>Q .normal ρ' ds w') ρ w):DrawW P n r id ops Q ρ ds w:=by
 refine ⟨fun a ha hd=>wpIn_region_any hm ?_⟩;have e:a={ ({ a with defers:=[] }:Act) with defers:=({ a with defers:=[] }:Act).defers++ds }:=by subst hd;rfl
 have h1:=qsl (r:=r) (ds:=ds) (Q2:=qed n Q) hnd (fun _ _ _ h=>h.1) (fun a' w' h=>?_) _ _ _ _ (h.h { a with defers:=[] } ha)
 ·rw [← e] at h1;exact h1
 ·obtain ⟨_,ρ',hs,hq⟩:=h;have hd':a'.defers++ds=ds:=by rw [hs.defers];rfl
  refine ⟨ρ',?_,?_⟩
  ·show St n ρ' { a' with defers:=[] };have:({ a' with defers:=[] }:Act)=a':=by have:=hs.defers;cases a';cases this;rfl
   rw [this];exact hs
  ·show Q .normal ρ' (a'.defers++ds) w';rw [hd'];exact hq
theorem AnyV.free {ops:Array Oper} {R:(Nat→Value)→World→Prop} {ρ:Nat→Value} {w:World} (hB:qia n ops=true) (h:regD P ops.toList w.drew R ops.toList 0 [] ρ):AnyV P n ops R ρ w:=by
 refine ⟨fun a ha=>?_⟩;obtain ⟨E,h1,h2,h3⟩:=qni ops.toList [] [] ρ (fun k=>rfl) h;refine qlq (Q:=R) (E:=E) (w0:=w.drew) (ρ:=ρ) (fun ρ a w h1 h2=>⟨rfl,ρ,h1,h2⟩) (qdj hB) (by simpa using h1) (fun i o e ho he=>?_) (by simpa using h3) _ _ (fun _=>undef) ρ a _ Js Js ⟨xr,ha,?_,?_,fun t _=>rfl⟩
 ·have:=h2 i o e (by simpa using ho) he
  simpa using this
 ·intro k hk;rw [qc] at hk;cases hk
 ·intro k hk;rw [qc] at hk;cases hk
structure BeginA (J:List (Nat × Obj)→World→Prop) (l:Nat) (ob ob':Obj) (w:World) (ds:List Deferred) (K:World→Prop):Prop where
 d:ds=[]
 h:∃ Y,J ((l,ob)::Y) w∧∀ w2,J ((l,ob')::Y) w2→K w2
def qy6 (D:Nat):Deferred:={ target:=.collected D,args:=#[] }
def q8b (D:Nat):Nat × Obj:=(D,.deferred (some []))
theorem qh4 {fn:Func} {R:Value→World→Prop} {ρ:Nat→Value} {J:List (Nat × Obj)→World→Prop} (hJ:Carr J) (hk:∀ w',J [] w'→resV fn.results ρ w' fn R P n) :
  ∀ (Ds:List Nat) (w:World),J (Ds.map q8b) w→qot P n fn R ρ (Ds.map qy6) w
 | [],w,h=>hk w h
 | D::Ds,w,h=>by
  show LeaveV P n fn R ρ (qy6 D::Ds.map qy6) w;refine LeaveV.mark (hJ.get h mh) fun w' hw=>?_;subst hw;exact qh4 hJ hk Ds _ (hJ.drop (hJ.set _ h))
theorem Carr.setM {J:List (Nat × Obj)→World→Prop} (h:Carr J) {A B:List (Nat × Obj)} {b:Nat} {o:Obj} {w:World} (o':Obj) (k:J (A++(b,o)::B) w):J (A++(b,o')::B) (setO w b o'):=
 h.perm (h.set o' (h.perm k List.perm_middle)) List.perm_middle.symm
theorem LeaveV.marks {fn:Func} {R:Value→World→Prop} {ρ:Nat→Value} {J:List (Nat × Obj)→World→Prop} (hJ:Carr J) (hk:∀ w',J [] w'→resV fn.results ρ w' fn R P n) {D:Nat} {Ds:List Nat} {w:World} (h:J ((D::Ds).map q8b) w) :
  LeaveV P n fn R ρ (qy6 D::Ds.map qy6) w:=qh4 hJ hk (D::Ds) w h
theorem Carr.dropM {J:List (Nat × Obj)→World→Prop} (h:Carr J) {A B:List (Nat × Obj)} {x:Nat × Obj} {w:World} (k:J (A++x::B) w):J (A++B) w:=h.drop (h.perm k List.perm_middle)
theorem qpq {w:World} {b off:Nat} {v:Value} {cs:Array Value} {t:TypeId} {fr:Nat × Nat} (h:w.heap[b]?=some (.cells cs t fr)):w.setCell ⟨b,off,none⟩ v=setO w b (.cells (cs.setIfInBounds off v) t fr):=by
 unfold World.setCell setO
 congr 1
 apply Array.ext_getElem?;intro i
 by_cases hi:i=b
 ·subst hi;have hlt:i<w.heap.size:=by
   rcases Nat.lt_or_ge i w.heap.size with h' | h'
   ·exact h'
   ·rw [Array.getElem?_eq_none h'] at h;cases h
  rw [Array.getElem?_modify,if_pos rfl,h,Array.getElem?_setIfInBounds_self_of_lt hlt];rfl
 ·rw [Array.getElem?_modify,if_neg (fun e=>hi e.symm),Array.getElem?_setIfInBounds_ne (fun e=>hi e.symm)]
theorem StoreV.carr {J:List (Nat × Obj)→World→Prop} (hJ:Carr J) {A B:List (Nat × Obj)} {b off:Nat} {cs:Array Value} {t:TypeId} {v:Value} {w:World} {K:World→Prop} (h:J (A++(b,.cells cs t)::B) w) (ho:off<cs.size) (h1:qbz v=true)
  (hk:∀ w',J (A++(b,.cells (cs.setIfInBounds off v) t)::B) w'→K w'):StoreV w b off v K:=by
 have hg:=hJ.get h (List.mem_append_right _ mh);refine StoreV.own hg ho h1 fun w' hw=>hk w' ?_
 rw [hw,qpq hg];exact hJ.setM _ h
theorem NewV.carr {J:List (Nat × Obj)→World→Prop} (hJ:Carr J) {X:List (Nat × Obj)} {o:Obj} {w:World} {K:Nat→World→Prop} (h:J X w) (hk:∀ b w',J ((b,o)::X) w'→K b w'):NewV w o K:=
 ⟨fun b w' hb hw=>by subst hb hw;exact hk _ _ (hJ.new o h)⟩
end
end V
namespace V
section
variable {P:Program} {n:Nat} {r:Option Nat}
def qpd (ops:List Oper):Nat→List Nat→Bool
 | 0,_=>true
 | j+1,S=>S.contains j&&qpd ops j ((match getL ops j with|some o=>qk o|none=>[])++S)
def q60 (m:Nat) (ops:List Oper):Bool:=
 Nat.blt m ops.length&&qpd ops m (match getL ops m with|some o=>qk o|none=>[])&&(List.range ops.length).all fun j=>
  match getL ops j with
  | none=>true
  | some o=>(qk o).all (fun k=>Nat.blt k j)&&(Nat.ble j m||(qk o).contains (j-1))&&(Nat.ble m j||(match o.guard with|none=>true|some (g,_)=>Nat.blt g m))
structure TailP (m:Nat) (ops:Array Oper):Prop where
 msz:m<ops.size
 reach:∀ o,ops[m]?=some o→qpd ops.toList m (qk o)=true
 lt:∀ (j:Nat) (o:Oper),ops[j]?=some o→∀ k∈qk o,k<j
 next:∀ (j:Nat) (o:Oper),ops[j]?=some o→m<j→j-1∈qk o
 guard:∀ (j:Nat) (o:Oper) (g:Nat) (b:Bool),ops[j]?=some o→j<m→o.guard=some (g,b)→g<m
theorem q3j {m:Nat} {ops:Array Oper} (h:q60 m ops.toList=true):TailP m ops:=by
 simp only [q60,Bool.and_eq_true] at h;obtain ⟨⟨h1,h2⟩,h3⟩:=h;have hm:m<ops.size:=by simpa using h1
 have key:∀ (j:Nat) (o:Oper),ops[j]?=some o→(qk o).all (fun k=>Nat.blt k j)=true∧(Nat.ble j m||(qk o).contains (j-1))=true∧(Nat.ble m j||(match o.guard with|none=>true|some (g,_)=>Nat.blt g m))=true:=fun j o ho=>by
  have hj:=(Array.getElem?_eq_some_iff.1 ho).1;have:=List.all_eq_true.1 h3 j (List.mem_range.2 (by simpa using hj));rw [qg,Array.getElem?_toList,ho] at this;simp only [Bool.and_eq_true] at this;exact ⟨this.1.1,this.1.2,this.2⟩
 refine ⟨hm,fun o ho=>?_,fun j o ho k hk=>?_,fun j o ho hj=>?_,fun j o g b ho hj hg=>?_⟩
 ·rw [qg,Array.getElem?_toList,ho] at h2;exact h2
 ·simpa using List.all_eq_true.1 (key j o ho).1 k hk
 ·have:=(key j o ho).2.1;rw [Bool.or_eq_true] at this
  rcases this with h|h
  ·have:=Nat.le_of_ble_eq_true h;omega
  ·simpa using h
 ·have:=(key j o ho).2.2;rw [hg,Bool.or_eq_true] at this
  rcases this with h|h
  ·have:=Nat.le_of_ble_eq_true h;omega
  ·simpa using h
theorem qt4 {ops:Array Oper} {p:Nat→Prop} (hc:∀ (j:Nat) (o:Oper),ops[j]?=some o→p j→∀ k∈qk o,p k):∀ (j:Nat) (S:List Nat),qpd ops.toList j S=true→(∀ k∈S,p k)→∀ k,k<j→p k
 | 0,_,_,_,k,hk=>by omega
 | j+1,S,h,hS,k,hk=>by
  rw [qpd,Bool.and_eq_true] at h;have hj:p j:=hS j (by simpa using h.1)
  by_cases e:k=j
  ·rw [e];exact hj
  ·refine qt4 hc j _ h.2 (fun i hi=>?_) k Oo
   rcases List.mem_append.1 hi with hi|hi
   ·rw [qg,Array.getElem?_toList] at hi;cases ho:ops[j]? with
    | none=>rw [ho] at hi;cases hi
    | some o=>rw [ho] at hi;exact hc j o ho hj i hi
   ·exact hS i hi
theorem runK {o:Oper} {ops:Array Oper} {i:Nat} {ρ:Nat→Value} {ds:List Deferred} {w:World} {K:(Nat→Value)→List Deferred→World→Prop} {a:Act} {K':Act→World→Prop} {Q':Exit→Act→World→Prop} (hi:ops[i]?=some o)
  (hg:Region.wanted o (yielded ops a.tmps)=true) (ha:Sw n ρ a) (hd:a.defers=ds) (h:runW P n r o K ρ ds w)
  (hk:∀ ρ' ds' a' w',Sw n ρ' a'→a'.defers=ds'→K ρ' ds' w'→K' a' w'):wpOpIn (Fr r) 0 P ops Q' i K' a w:=by
 unfold wpOpIn;rw [hi];dsimp only;rw [if_pos hg];refine q4c ha hd h fun v ds' w' hp=>?_;obtain ⟨ρ',h1,h2,h3⟩:=ha.put ds' hp;exact hk _ _ _ _ h1 h2 h3
theorem q0g {o:Oper} {ops:Array Oper} {i:Nat} {ρ:Nat→Value} {ds:List Deferred} {w:World} {K:(Nat→Value)→List Deferred→World→Prop} {a:Act} {K':Act→World→Prop} {Q':Exit→Act→World→Prop} (hi:ops[i]?=some o)
  (hg:Region.wanted o (yielded ops a.tmps)=false) (ha:Sw n ρ a) (hd:a.defers=ds) (h:qrp n o K ρ ds w)
  (hk:∀ ρ' ds' a' w',Sw n ρ' a'→a'.defers=ds'→K ρ' ds' w'→K' a' w'):wpOpIn (Fr r) 0 P ops Q' i K' a w:=by
 unfold wpOpIn;rw [hi];dsimp only;rw [if_neg (by rw [hg];simp)];refine ⟨fun _ _=>trivial,?_⟩;obtain ⟨ρ',h1,h2,h3⟩:=ha.put ds h;have e:({ a with defers:=ds }:Act)=a:=by subst hd;rfl
 rw [e] at h1 h2;exact hk _ _ _ _ h1 h2 h3
theorem regK {ops:List Oper} {Q:(Nat→Value)→List Deferred→World→Prop} {o:Oper} {rest:List Oper} {i:Nat} (hi:ops.toArray[i]?=some o) {ρ:Nat→Value} {ds:List Deferred} {a:Act} {w:World} {K':Act→World→Prop} {Q':Exit→Act→World→Prop}
  (ha:Sw n ρ a) (hd:a.defers=ds) (h:regW P n r ops Q (o::rest) ρ ds w) (ih':∀ ρ' ds' a' w',Sw n ρ' a'→a'.defers=ds'→regW P n r ops Q rest ρ' ds' w'→K' a' w'):wpOpIn (Fr r) 0 P ops.toArray Q' i K' a w:=by
 unfold regW at h
 split at h
 ·rename_i hg
  exact runK hi (by simp [Region.wanted,hg]) ha hd h ih'
 ·rename_i j want hg
  split at h
  ·rename_i hj
   rw [qg] at hj;refine q0g hi ?_ ha hd h ih';have:ops.toArray[j]?=none:=by simpa using hj
   simp [Region.wanted,hg,yielded,this]
  ·rename_i oj hj
   split at h
   ·rename_i hdd
    refine q0g hi ?_ ha hd h ih';have hj2:=hj;rw [qg] at hj2;have:ops.toArray[j]?=some oj:=by simpa using hj2
    simp [Region.wanted,hg,yielded,this,hdd]
   ·rename_i d hdd
    cases hn:Nat.blt d n<;>rw [hn] at h
    ·exact h.elim
    ·have hn':d<n:=by simpa using hn
     have hy:=ha.yield hj hdd hn';simp only [cond_true] at h
     split at h
     ·rename_i b hb
      rw [hb] at hy;cases b
      ·have h:=h.f rfl;have ha':Sw n _ a:=St.same ha hb;cases want
       ·exact runK hi (by simp [Region.wanted,hg,hy]) ha' hd h ih'
       ·exact q0g hi (by simp [Region.wanted,hg,hy]) ha' hd h ih'
      ·have h:=h.t rfl;have ha':Sw n _ a:=St.same ha hb;cases want
       ·exact q0g hi (by simp [Region.wanted,hg,hy]) ha' hd h ih'
       ·exact runK hi (by simp [Region.wanted,hg,hy]) ha' hd h ih'
     ·rename_i hb
      refine q0g hi ?_ ha hd h ih';have:yielded ops.toArray a.tmps j=none:=by
       rw [hy]
       split
       ·rename_i b hb';exact absurd hb' (hb b)
       ·rfl
      simp [Region.wanted,hg,this]
def qhe (i c:Nat):Array Bool:=(List.replicate i true++List.replicate c false).toArray
theorem qmf {i c j:Nat} (d:Bool) (h:j<i):(qhe i c).getD j d=true:=by
 simp [qhe,List.getElem?_append_left (show j<(List.replicate i true).length by simpa using h),h]
theorem q15 {i c j:Nat} (h:i≤j):(qhe i c).getD j false=false:=by
 rw [qhe,Array.getD_eq_getD_getElem?,List.getElem?_toArray,List.getElem?_append_right (by simpa using h),List.getElem?_replicate]
 split<;>rfl
theorem q14 {i c j:Nat} (h:i≤j) (h2:j<i+c):(qhe i c).getD j true=false:=by
 rw [qhe,Array.getD_eq_getD_getElem?,List.getElem?_toArray,List.getElem?_append_right (by simpa using h),List.getElem?_replicate,if_pos Ys];rfl
theorem qxw (i c:Nat):(qhe i (c+1)).setIfInBounds i true=qhe (i+1) c:=by
 rw [← Array.toList_inj,Array.toList_setIfInBounds];show (List.replicate i true++List.replicate (c+1) false).set i true=List.replicate (i+1) true++List.replicate c false;rw [List.set_append_right _ _ Js,List.length_replicate,Nat.sub_self,List.replicate_succ,List.set_cons_zero,List.replicate_succ',List.append_assoc];rfl
theorem qpj {m:Nat} {ops:Array Oper} (hT:TailP m ops) {Q:QW}:∀ (c i:Nat) (ρ:Nat→Value) (ds:List Deferred) (a:Act) (w:World),m≤i→i+c=ops.size→Sw n ρ a→a.defers=ds→regW P n r ops.toList (Q .normal) (ops.toList.drop i) ρ ds w→
  wpAnyIn (Fr r) 0 P .any ops (qed n Q) c (qhe i c) a w
 | 0,i,ρ,ds,a,w,hmi,hi,ha,hd,h=>by
  refine ⟨qet fun k hk=>qmf _ Oo,ρ,ha,?_⟩;rw [List.drop_of_length_le Ys] at h;subst hd;exact h
 | c+1,i,ρ,ds,a,w,hmi,hi,ha,hd,h=>by
  have hlt:i<ops.size:=by omega
  have hoi:ops[i]?=some ops[i]:=Array.getElem?_eq_getElem hlt;have hrd:i∈Region.ready .any ops (qhe i (c+1)):=by
   refine mem_ready.2 ⟨q14 znr Oo,ops[i],hoi,fun e he hb=>qmf _ ?_⟩;rw [qaj] at hb;exact hT.lt i _ hoi _ (qv.2 ⟨e,by simpa using he,hb,rfl⟩)
  refine ⟨fun hr=>absurd (hr ▸ hrd) (List.not_mem_nil),fun j hj=>?_⟩;obtain ⟨h1,o,ho,h2⟩:=mem_ready.1 hj;have hjs:=(Array.getElem?_eq_some_iff.1 ho).1;have e:j=i:=by
   rcases Nat.lt_or_ge j i with g|g
   ·rw [qmf _ g] at h1;cases h1
   ·rcases Nat.eq_or_lt_of_le g with g|g
    ·exact g.symm
    ·exfalso
     obtain ⟨e,he,hb,hon⟩:=qv.1 (hT.next j o ho Oo);have:=h2 e (by simpa using he) (by rw [qaj];exact hb);rw [hon,q15 Oo] at this;cases this
  subst e;rw [qxw];have hdr:ops.toList.drop j=ops[j]::ops.toList.drop (j+1):=by
   rw [List.drop_eq_getElem_cons (by simpa using hjs)];simp
  rw [hdr] at h;have:=regK (ops:=ops.toList) (i:=j) (Q':=qed n Q) (K':=wpAnyIn (Fr r) 0 P .any ops (qed n Q) c (qhe (j+1) c)) (by simp) ha hd h fun ρ' ds' a' w' h1 h2 h3=>qpj hT c (j+1) ρ' ds' a' w' Oo Oo h1 h2 h3
  simpa using this
theorem q1i {m:Nat} {ops:Array Oper} (hT:TailP m ops) (hnd:r=none∨qza (ops.toList.take m)=true) {ds:List Deferred} {Q:QW}:∀ (fuel:Nat) (L:Array Bool) (a:Act) (w:World),L.size=m→L.toList.count false=fuel→
  (∀ (j:Nat) (o:Oper),ops[j]?=some o→L.getD j false=true→∀ k∈qk o,L.getD k false=true)→
  wpAny P .any (ops.toList.take m).toArray (fun e a' w'=>e=.normal∧∃ ρ',St n ρ' a'∧regW P n r ops.toList (Q .normal) (ops.toList.drop m) ρ' ds w') fuel L a w→
  wpAnyIn (Fr r) 0 P .any ops (qed n Q) (fuel+(ops.size-m)) (L++Array.replicate (ops.size-m) false) { a with defers:=a.defers++ds } w:=by
 intro fuel;have hms:=hT.msz;have hpre:∀ j:Nat,j<m→(ops.toList.take m).toArray[j]?=ops[j]?:=fun j hj=>by
  rw [List.getElem?_toArray,List.getElem?_take,if_pos hj,Array.getElem?_toList]
 have lapp:∀ (L:Array Bool),L.size=m→∀ (j:Nat) (d:Bool),j<m→(L++Array.replicate (ops.size-m) false).getD j d=L.getD j d:=fun L hL j d hj=>by
  rw [Array.getD_eq_getD_getElem?,Array.getD_eq_getD_getElem?,Array.getElem?_append_left Oo]
 have lapp2:∀ (L:Array Bool),L.size=m→∀ j:Nat,m≤j→(L++Array.replicate (ops.size-m) false).getD j false=false:=fun L hL j hj=>by
  rw [Array.getD_eq_getD_getElem?,Array.getElem?_append_right Oo,Array.getElem?_replicate]
  split<;>rfl
 have alld:∀ (L:Array Bool),L.size=m→L.toList.count false=0→L=Array.replicate m true:=fun L hL h0=>by
  apply Array.ext
  ·simp [hL]
  ·intro i h1 h2;have h3:=List.count_eq_zero.1 h0;cases hv:L[i] with
   | true=>simp
   | false=>exact absurd (by rw [← hv];exact Array.mem_toList_iff.2 (Array.getElem_mem h1)) h3
 have fin:∀ (L:Array Bool) (a:Act) (w:World),L.size=m→L.toList.count false=0→(∃ ρ',St n ρ' a∧regW P n r ops.toList (Q .normal) (ops.toList.drop m) ρ' ds w)→
   wpAnyIn (Fr r) 0 P .any ops (qed n Q) (0+(ops.size-m)) (L++Array.replicate (ops.size-m) false) { a with defers:=a.defers++ds } w:=fun L a w hL h0 ⟨ρ',h1,h2⟩=>by
  rw [alld L hL h0,Nat.zero_add];have e:Array.replicate m true++Array.replicate (ops.size-m) false=qhe m (ops.size-m):=by
   rw [← Array.toList_inj,qhe];simp
  rw [e];refine qpj hT (ops.size-m) m ρ' ds _ w znr Oo ?_ ?_ h2
  ·show St n ρ' { a with defers:=[] };have:({ a with defers:=[] }:Act)=a:=by have:=h1.defers;cases a;cases this;rfl
   rw [this];exact h1
  ·show a.defers++ds=ds;rw [h1.defers];rfl
 induction fuel with
 | zero=>
  intro L a w hL h0 hcl h;exact fin L a w hL h0 h.2.2
 | succ fuel ih=>
  intro L a w hL h0 hcl h;have hrd:∀ i,i∈Region.ready .any ops (L++Array.replicate (ops.size-m) false)↔i∈Region.ready .any (ops.toList.take m).toArray L:=by
   intro i
   constructor
   ·intro hi;obtain ⟨g1,o,ho,g2⟩:=mem_ready.1 hi;have him:i<m:=by
     refine Nat.lt_of_not_le fun g=>?_;have hpl:∀ k∈qk o,(L++Array.replicate (ops.size-m) false).getD k false=true:=fun k hk=>by
      obtain ⟨e,he,hb,hon⟩:=qv.1 hk;have:=g2 e (by simpa using he) (by rw [qaj];exact hb)
      rwa [hon] at this
     rcases Nat.eq_or_lt_of_le g with g|g
     ·subst g;have hall:=qt4 (ops:=ops) (p:=fun k=>L.getD k false=true) hcl m _ (hT.reach o ho) fun k hk=>by
       have:=hpl k hk
       rwa [lapp L hL k false (hT.lt _ o ho k hk)] at this
      have hz:L.toList.count false=0:=by
       rw [List.count_eq_zero];intro hmem;obtain ⟨k,hk,e⟩:=List.mem_iff_getElem.1 hmem;have hk':k<L.size:=by simpa using hk
       have:=hall k Oo;simp [hk'] at this e;rw [this] at e;cases e
      omega
     ·have:=hpl _ (hT.next i o ho g);rw [lapp2 L hL _ Oo] at this;cases this
    refine mem_ready.2 ⟨by rw [lapp L hL i true him] at g1;exact g1,o,by rw [hpre i him];exact ho,fun e he hb=>?_⟩;have h1:=g2 e he hb
    rwa [lapp L hL _ _ (Nat.lt_trans (hT.lt i o ho _ (qv.2 ⟨e,by simpa using he,by rw [← qaj];exact hb,rfl⟩)) him)] at h1
   ·intro hi;obtain ⟨g1,o,ho,g2⟩:=mem_ready.1 hi;have him:i<m:=by
     have:=(Array.getElem?_eq_some_iff.1 ho).1;simp at this;omega
    rw [hpre i him] at ho;refine mem_ready.2 ⟨by rw [lapp L hL i true him];exact g1,o,ho,fun e he hb=>?_⟩;rw [lapp L hL _ _ (Nat.lt_trans (hT.lt i o ho _ (qv.2 ⟨e,by simpa using he,by rw [← qaj];exact hb,rfl⟩)) him)];exact g2 e he hb
  have hne:∃ i,i∈Region.ready .any ops (L++Array.replicate (ops.size-m) false):=by
   have hmem:false∈L.toList:=List.count_pos_iff.1 Oo;obtain ⟨k,hk,e⟩:=List.mem_iff_getElem.1 hmem;have hk':k<L.size:=by simpa using hk
   have hex:∃ k,k<m∧L.getD k false=false:=⟨k,by omega,by simp [hk'] at e ⊢;exact e⟩
   have least:∀ k,k<m→L.getD k false=false→∃ i,i∈Region.ready .any ops (L++Array.replicate (ops.size-m) false):=by
    intro k
    induction k using Nat.strongRecOn with
    | _ k ihk=>
     intro hkm hkf;have ho:ops[k]?=some ops[k]:=Array.getElem?_eq_getElem Oo
     by_cases hall:∀ p∈qk ops[k],L.getD p false=true
     ·refine ⟨k,mem_ready.2 ⟨?_,ops[k],ho,fun e he hb=>?_⟩⟩
      ·rw [lapp L hL k true hkm,qbo Oo];exact hkf
      ·have hp:e.on∈qk ops[k]:=qv.2 ⟨e,by simpa using he,by rw [← qaj];exact hb,rfl⟩;rw [lapp L hL _ _ (Nat.lt_trans (hT.lt k _ ho _ hp) hkm)];exact hall _ hp
     ·obtain ⟨p,hp⟩:=Classical.not_forall.1 hall;obtain ⟨hp1,hp2⟩:=Classical.not_imp.1 hp;have:=hT.lt k _ ho p hp1;exact ihk p this Oo (by simpa using hp2)
   obtain ⟨k,h1,h2⟩:=hex;exact least k h1 h2
  rw [show fuel+1+(ops.size-m)=(fuel+(ops.size-m))+1 by omega];refine ⟨fun hr=>(by obtain ⟨i,hi⟩:=hne;rw [hr] at hi;cases hi),fun i hi=>?_⟩;have hi':=(hrd i).1 hi;obtain ⟨g1,o,ho,g2⟩:=mem_ready.1 hi';have him:i<m:=by
   have:=(Array.getElem?_eq_some_iff.1 ho).1;simp at this;omega
  have ho2:=ho;rw [hpre i him] at ho2;have h1:=h.2 i hi';have hLs:(L++Array.replicate (ops.size-m) false).setIfInBounds i true=L.setIfInBounds i true++Array.replicate (ops.size-m) false:=by
   rw [← Array.toList_inj];simp only [Array.toList_setIfInBounds,Array.toList_append];rw [List.set_append_left _ _ (by simpa [hL] using him)]
  have hun:L.getD i true=false:=g1;have hcnt:=V.countP_set L i hun;have ih2:∀ a' w',wpAny P .any (ops.toList.take m).toArray (fun e a' w'=>e=.normal∧∃ ρ',St n ρ' a'∧regW P n r ops.toList (Q .normal) (ops.toList.drop m) ρ' ds w') fuel (L.setIfInBounds i true) a' w'→
    wpAnyIn (Fr r) 0 P .any ops (qed n Q) (fuel+(ops.size-m)) ((L++Array.replicate (ops.size-m) false).setIfInBounds i true) { a' with defers:=a'.defers++ds } w':=fun a' w' hw=>by
   rw [hLs];refine ih _ a' w' (by simp [hL]) Oo (fun j oj hoj hlj k hk=>?_) hw
   by_cases hij:i=j
   ·subst hij;rw [ho2] at hoj;cases hoj;obtain ⟨e,he,hb,hon⟩:=qv.1 hk;have:=g2 e (by simpa using he) (by rw [qaj];exact hb);rw [hon] at this;exact getD_set_true this
   ·rw [getD_set_ne false hij] at hlj;exact getD_set_true (hcl j oj hoj hlj k hk)
  have hwant:∀ tm,Region.wanted o (yielded ops tm)=Region.wanted o (yielded (ops.toList.take m).toArray tm):=fun tm=>by
   cases hg:o.guard with
   | none=>simp [Region.wanted,hg]
   | some gb=>
    obtain ⟨g,b⟩:=gb;have:=hT.guard i o g b ho2 him hg;have e:yielded ops tm g=yielded (ops.toList.take m).toArray tm g:=by
     unfold yielded;rw [hpre g this]
    simp only [Region.wanted,hg,e]
  have hno:r=none∨∀ c,o.op≠.defer c:=hnd.imp_right fun hn=>qtq hn (by
   have:=zmg (show (ops.toList.take m)[i]?=some o by rw [← List.getElem?_toArray];exact ho);exact this)
  unfold wpOp at h1;unfold wpOpIn;rw [ho] at h1;rw [ho2];dsimp only at h1 ⊢;rw [hwant]
  split
  ·rename_i hw
   rw [if_pos hw] at h1
   rcases h1 with h1|⟨_,a',w',hq⟩
   ·exact qlr hno (fun _ _ _ h=>h.1) ih2 h1
   ·have:=hq.1;cases this
  ·rename_i hw
   rw [if_neg hw] at h1;refine ⟨fun _ _=>trivial,?_⟩;have hp:({ a with defers:=a.defers++ds }:Act).put o.dst undef={ a.put o.dst undef with defers:=(a.put o.dst undef).defers++ds }:=by cases o.dst<;>rfl
   rw [hp];exact ih2 _ _ h1
theorem AnyV.freeW {ops:Array Oper} {R:(Nat→Value)→World→Prop} {ρ:Nat→Value} {w:World} (hB:que n ops=true) (h:regD P ops.toList w.drew R ops.toList 0 [] ρ):AnyV P n ops R ρ w:=by
 refine ⟨fun a ha=>?_⟩;obtain ⟨E,h1,h2,h3⟩:=qni ops.toList [] [] ρ (fun k=>rfl) h;refine qsc (Q:=R) (E:=E) (w0:=w.drew) (ρ:=ρ) (fun ρ a w h1 h2=>⟨rfl,ρ,h1,h2⟩) (qps hB) (by simpa using h1) (fun i o e ho he=>?_) (by simpa using h3) _ _ (fun _=>undef) ρ a _ Js Js (fun k hk=>by rw [qc] at hk;cases hk) ⟨xr,ha,?_,?_,fun t _=>rfl⟩
 ·have:=h2 i o e (by simpa using ho) he
  simpa using this
 ·intro k hk;rw [qc] at hk;cases hk
 ·intro k hk;rw [qc] at hk;cases hk
theorem DrawW.tail {id:Nat} {ops:Array Oper} {Q:QW} {ρ:Nat→Value} {ds:List Deferred} {w:World} (m:Nat) (hm:P.follows .mixedOrders=true) (hB:q60 m ops.toList=true) (hnd:r=none∨qza (ops.toList.take m)=true)
  (h:AnyV P n (ops.toList.take m).toArray (fun ρ' w'=>regW P n r ops.toList (Q .normal) (ops.toList.drop m) ρ' ds w') ρ w):DrawW P n r id ops Q ρ ds w:=by
 refine ⟨fun a ha hd=>wpIn_region_any hm ?_⟩;have hT:=q3j hB;have hms:=hT.msz;have e:a={ ({ a with defers:=[] }:Act) with defers:=({ a with defers:=[] }:Act).defers++ds }:=by subst hd;rfl
 have hsz:(ops.toList.take m).toArray.size=m:=by simp;omega
 have h0:=h.h { a with defers:=[] } ha;rw [hsz] at h0;have h1:=q1i (r:=r) (Q:=Q) hT hnd m (Array.replicate m false) { a with defers:=[] } w.drew Js Js (fun j o _ hl=>by rw [qc] at hl;cases hl) h0;rw [← e] at h1;have e2:m+(ops.size-m)=ops.size:=by omega
 have e3:Array.replicate m false++Array.replicate (ops.size-m) false=Array.replicate ops.size false:=by
  rw [← Array.toList_inj];simp [Nat.add_sub_cancel' (Nat.le_of_lt hms)]
 rw [e2,e3] at h1;exact h1
end
end V
end Go.Proofs.YtacnkdagblbgfaaGreatDoor
