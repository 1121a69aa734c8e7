/- Lemmas and contracts of functions on the way to the law's card (part 10 of 16). -/
import Derived.Test.YtccmcfpmknpccaaGreatDoorSH9
namespace Go.Proofs.YtccmcfpmknpccaaGreatDoor
set_option maxHeartbeats 8000000
open Go.RowKit V
structure OrdC {α:Type} (c:α→α→Int):Prop where
 eq:∀ {a b:α},c a b=0↔a=b
 sym:∀ {a b:α},c a b<0↔0<c b a
 trans:∀ {a b d:α},c a b<0→c b d<0→c a d<0
def RiseC {α:Type} (c:α→α→Int) (l:List α):Prop:=l.Pairwise fun a b=>c a b<0
section
variable {α:Type} {c:α→α→Int} (O:OrdC c)
include O
theorem OrdC.irr (a:α):¬ c a a<0:=by have:=O.eq (a:=a) (b:=a) |>.2 rfl;omega
theorem OrdC.tri (a b:α):c a b<0∨a=b∨c b a<0:=by
 rcases Int.lt_trichotomy (c a b) 0 with h|h|h
 ·exact .inl h
 ·exact .inr (.inl (O.eq.1 h))
 ·exact .inr (.inr (O.sym.2 h))
theorem RiseC.same:∀ {a b:List α},RiseC c a→RiseC c b→(∀ y,y∈a↔y∈b)→a=b
 | [],[],_,_,_=>rfl
 | [],x::b,_,_,h=>absurd ((h x).2 mh) Js
 | x::a,[],_,_,h=>absurd ((h x).1 mh) Js
 | x::a,u::b,ha,hb,h=>by
  have h1:=List.pairwise_cons.1 ha;have h2:=List.pairwise_cons.1 hb;have e:x=u:=by
   rcases List.mem_cons.1 ((h x).1 mh) with e|hx
   ·exact e
   ·rcases List.mem_cons.1 ((h u).2 mh) with e|hu
    ·exact e.symm
    ·exact absurd (O.trans (h1.1 u hu) (h2.1 x hx)) (O.irr x)
  subst e;rw [RiseC.same h1.2 h2.2 fun y=>?_]
  constructor
  ·intro hy
   rcases List.mem_cons.1 ((h y).1 (zmc hy)) with e|g
   ·subst e;exact absurd (h1.1 y hy) (O.irr y)
   ·exact g
  ·intro hy
   rcases List.mem_cons.1 ((h y).2 (zmc hy)) with e|g
   ·subst e;exact absurd (h2.1 y hy) (O.irr y)
   ·exact g
end
theorem qp4 {a b:Q4} (h:∀ k,k<4→gat a k=gat b k):a=b:=by
 have h0:a.g=b.g:=h 0 Od;have h1:a.s=b.s:=h 1 Od;have h2:a.p=b.p:=h 2 Od;have h3:a.o=b.o:=h 3 Od;cases a;simp_all
theorem LtQ.tri (a b:Q4):LtQ a b∨a=b∨LtQ b a:=by
 by_cases h:∃ k,k<4∧gat a k≠gat b k
 ·have key:∀ n k,k≤n→k<4→gat a k≠gat b k→LtQ a b∨a=b∨LtQ b a:=by
   intro n
   induction n with
   | zero=>
    intro k hk hk4 hne;have e:k=0:=by omega
    subst e
    rcases LtT.tri (gat a 0) (gat b 0) with g|g|g
    ·exact .inl ⟨0,hk4,fun j hj=>absurd hj (Nat.not_lt_zero _),g⟩
    ·simp_all
    ·exact .inr (.inr ⟨0,hk4,fun j hj=>absurd hj (Nat.not_lt_zero _),g⟩)
   | succ n ih=>
    intro k hk hk4 hne
    by_cases hj:∃ j,j<k∧gat a j≠gat b j
    ·grind
    ·have hs:∀ j,j<k→gat a j=gat b j:=fun j g=>Classical.byContradiction fun hn=>hj ⟨j,g,hn⟩
     rcases LtT.tri (gat a k) (gat b k) with g|g|g
     ·exact .inl ⟨k,hk4,hs,g⟩
     ·simp_all
     ·exact .inr (.inr ⟨k,hk4,fun j hj=>(hs j hj).symm,g⟩)
  grind
 ·exact .inr (.inl (qp4 fun k hk=>Classical.byContradiction fun hn=>h ⟨k,hk,hn⟩))
theorem LtQ.irr (a:Q4):¬ LtQ a a:=fun ⟨_,_,_,h⟩=>h.ne rfl
theorem qpr {a b:Q4}:cmpQ a b=0↔a=b:=by
 constructor
 ·intro h;have e:cmpT a.g b.g=0∧cmpT a.s b.s=0∧cmpT a.p b.p=0∧cmpT a.o b.o=0:=by
   grind [cmpQ]
  obtain ⟨e0,e1,e2,e3⟩:=e;refine qp4 fun k hk=>?_
  rcases (show k=0∨k=1∨k=2∨k=3 by omega) with rfl|rfl|rfl|rfl
  ·exact qan.1 e0
  ·exact qan.1 e1
  ·exact qan.1 e2
  ·exact qan.1 e3
 grind [qan,cmpQ]
theorem ordQ:OrdC cmpQ where
 eq:=qpr
 sym {a b}:=by
  constructor
  ·intro h;have h1:=qcl.1 h;have h2:¬ cmpQ b a<0:=fun g=>LtQ.irr a (h1.trans (qcl.1 g))
   grind [qpr]
  ·intro h
   rcases LtQ.tri a b with g|g|g
   ·exact qcl.2 g
   ·grind [qpr]
   ·have:=qcl.2 g;omega
 trans h g:=qcl.2 ((qcl.1 h).trans (qcl.1 g))
def fitT (p t:TM):Bool:=decide (p.kind=4)||qaj p t
def fitQ (p q:Q4):Bool:=fitT p.s q.s&&fitT p.p q.p&&fitT p.o q.o&&fitT p.g q.g
theorem qlx (p q:Q4):fitQ p q=(fitT (gat p 0) (gat q 0)&&(fitT (gat p 1) (gat q 1)&&(fitT (gat p 2) (gat q 2)&&fitT (gat p 3) (gat q 3)))):=by
 show (fitT p.s q.s&&fitT p.p q.p&&fitT p.o q.o&&fitT p.g q.g)=(fitT p.g q.g&&(fitT p.s q.s&&(fitT p.p q.p&&fitT p.o q.o)))
 grind
def idT (T:List TM) (t:TM):Int:=if t.kind=4 then -1 else (noT T t:Nat)
def KnT (T:List TM) (t:TM):Prop:=t.kind=4∨t∈T∨t=zTM
theorem q8m {T:List TM} (hr:RiseT T) (hk:∀ t∈T,1≤t.kind) {a b:TM} (ha:a∈T∨a=zTM) (hb:b∈T∨b=zTM) (h:noT T a=noT T b):a=b:=by
 grind [List.mem_iff_getElem?,qku,zTM,qf2]
theorem qaba {T:List TM} (hr:RiseT T) (hk:∀ t∈T,1≤t.kind) {P:Nat→Int} {k:Nat} {p t:TM} (hP:P k=idT T p) (ht:t∈T∨t=zTM) (hp:KnT T p):agB P k (noT T t)=fitT p t:=by
 rw [agB,hP,idT,fitT]
 by_cases h4:p.kind=4
 ·simp_all
 ·rw [if_neg h4,decide_eq_false h4,Bool.false_or];have hp:=hp.resolve_left h4
  grind [qu,q8m]
theorem q65 {T:List TM} {qs:List Q4} (hr:RiseT T) (hk:∀ t∈T,1≤t.kind) {P:Nat→Int} {p:Q4} (hP:∀ k,k<4→P k=idT T (gat p k)) (hp:∀ k,k<4→KnT T (gat p k)) {i:Nat} {q:Q4} (hi:qs[i]?=some q) (hq:∀ k,k<4→gat q k∈T∨gat q k=zTM) :
  agF P (noQ T qs) i 0 4=fitQ p q:=by
 grind [qaba,qlx,agF,qhs]
theorem qx1 {T:List TM} {p q:Q4} {k:Nat} (hk4:k<4) (hp:¬ KnT T (gat p k)) (hq:∀ k,k<4→gat q k∈T∨gat q k=zTM):fitQ p q=false:=by
 have h:fitT (gat p k) (gat q k)=false:=by
  grind [fitT,qu,KnT]
 grind [qlx]
def qaa (p:Q4) (qs:List Q4):List Nat:=(List.range qs.length).filter fun i=>match qs[i]? with
 | some q=>fitQ p q
 | none=>false
theorem qja {T:List TM} {qs:List Q4} (hr:RiseT T) (hk:∀ t∈T,1≤t.kind) (hq:∀ q∈qs,∀ k,k<4→gat q k∈T∨gat q k=zTM) {P:Nat→Int} {p:Q4} (hP:∀ k,k<4→P k=idT T (gat p k)) (hp:∀ k,k<4→KnT T (gat p k)) :
  maT P (noQ T qs) 0 0 qs.length=qaa p qs:=by
 grind [maT,qaa,List.filter_congr,q65]
theorem qzn {T:List TM} {qs:List Q4} (hq:∀ q∈qs,∀ k,k<4→gat q k∈T∨gat q k=zTM) {p:Q4} {k:Nat} (hk4:k<4) (hp:¬ KnT T (gat p k)):qaa p qs=[]:=by
 grind [qaa,List.filter_eq_nil_iff,qx1]
theorem qu5 (p:Q4) (qs:List Q4):(qaa p qs).filterMap (fun i=>qs[i]?)=qs.filter (fitQ p):=by
 have key:∀ n,n≤qs.length→((List.range n).filter fun i=>match qs[i]? with
   | some q=>fitQ p q
   | none=>false).filterMap (fun i=>qs[i]?)=(qs.take n).filter (fitQ p):=by
  intro n
  induction n<;>grind [List.range_succ,List.take_add_one]
 have:=key qs.length znr
 rwa [List.take_length] at this
set_option maxRecDepth 100000
theorem qxv {a b:TM} (ha:qa5 a=0) (hb:qa5 b=0) (hk:a.kind=b.kind) (h:qae a=qae b):a=b:=by
 rcases LtT.tri a b with g|g|g
 ·have:=qlu ha hb hk g;rw [h] at this;exact absurd this (List.lt_irrefl _)
 ·exact g
 ·have:=qlu hb ha hk.symm g;rw [h] at this;exact absurd this (List.lt_irrefl _)
open Classical in
noncomputable def idR (T:List TM) (t:TM):Value:=if t∈T∨t=zTM then .tuple #[ii (noT T t:Nat),.bool true] else .tuple #[ii 0,.bool false]
theorem q9y {T:List TM} {k N:Nat} {t:TM} (he:∀ t∈T,qa5 t=0) (ht:qa5 t=0) (ek:t.kind=((k+1:Nat):Int)) (hN:N<(secE T k).length) (hx:(⟨(tx (secE T k) N).toArray⟩:ByteArray)=⟨(qae t).toArray⟩):t∈T:=by
 have h1:tx (secE T k) N=qae t:=by
  have:=congrArg (fun b:ByteArray=>b.data.toList) hx
  simpa using this
 have hlen:(secE T k).length=(ofK T k).length:=by rw [qbr,List.length_map]
 have hj:(ofK T k)[N]?=some ((ofK T k)[N]' Oo):=zge Oo;rw [tx,List.getD_eq_getElem?_getD,qbr,List.getElem?_map,hj] at h1;have hm:=List.getElem_mem (l:=ofK T k) (n:=N) Oo;have hmT:=(List.mem_filter.1 hm).1;have:=qxv (he _ hmT) ht (by rw [qf3 hm,ek]) h1;rw [← this];exact hmT
theorem qua (T:List TM) (h:VOk T) (hr:RiseT T) (hk:∀ t∈T,1≤t.kind∧t.kind≤3) (he:∀ t∈T,qa5 t=0) (b:Nat) (t:TM) (hto:TermOk t) (w:World) (hV:VocAt w b (vocB T))
  (hM:MaxLenAt w) (hT:CellsAt w 4 0 qa6) :
  Gv Tryz.prog 100 [pp b,qt t] w fun r w'=>r=idR T t∧Ext w w':=by
 have hb3:=hV.tot (k:=3) Od;refine ze Tryz.func100 Tryz.ntmps100 ?_;refine znm (Mem.nil w) ?_;intro tb w1 hm;have hm:Mem w w1 [(tb,.cells #[ii t.kind,.string t.text,.string t.type,.string t.lang] 45)]:=hm;(conv=>whnf);refine zl hm 0 ?_;refine RunV.eqTerm (a:=t) (b:=zTM) (.inl rfl) (zw ?_);cases hz:qaj t zTM
 case true=>
  obtain rfl:=qu.1 hz;refine zu ?_;exact ⟨by rw [idR,if_pos (.inr rfl),qf2 rfl];rfl,hm.ext⟩
 have hnz:t≠zTM:=fun e=>by rw [e,qu.2 rfl] at hz;cases hz
 refine zu ?_;refine zl hm 0 ?_;have hen:=qes t hto w1 (hM.ext hm.ext) (hT.ext hm.ext)
 by_cases tE:qa5 t=0
 case neg=>
  rw [if_neg tE] at hen;refine zcv (hen) ?_;rintro r w2 ⟨rfl,he2⟩;have h0:¬ ((qa5 t:Nat):Int)=0:=by omega
  refine zu ?_;exact ⟨by rw [idR,if_neg (fun h=>h.elim (fun h=>tE (he t h)) hnz)],(hm.call he2).ext⟩
 rw [if_pos tE] at hen;refine zcv (hen) ?_;rintro r w2 ⟨rfl,he2⟩;have hm:=hm.call he2;refine zu ?_;have hkt:=qk6 tE;obtain ⟨k,hk3,ek⟩:∃ k:Nat,k<3∧t.kind=((k+1:Nat):Int):=⟨(t.kind-1).toNat,by omega,by omega⟩
 obtain ⟨d,hd,_⟩:=hV.cell;obtain ⟨hc0,hc1,hDk⟩:=hd k hk3;have hcl:CellsAt w b (2*k) [.pointer (some ⟨d k,0,none⟩),ii (vTot (vocB T) k+1:Nat)]:=fun j v hv=>by
  match j,hv with
  | 0,hv=>rw [← hv];exact hc0
  | 1,hv=>rw [← hv];exact hc1
 refine DrawV.gen (fun S vals w'=>Al w [(tb,.cells #[ii t.kind,.string t.text,.string t.type,.string t.lang] 45)] (.cells #[.pointer none,ii 0] 302) (.cells #[.pointer (some ⟨d k,0,none⟩),ii (vTot (vocB T) k+1:Nat)] 302) (.cells #[] 0) (.cells #[] 0) (S 8) false (S 9) false (vals 8) undef w') rfl Jk (fun vals=>Al.start hm.drew) ?_;clear hm;(conv=>whnf);refine zg ?_;refine zg ?_;refine zLg ?_;rw [ek];(iterate 3 (refine zg ?_));refine StepG.of (.pointer (some ⟨b,2*k,none⟩)) (fun S vals wd hk hp hI=>zw ?_) (zw ?_)
 ·refine IdxV.at_ k Oo Oo (zw ?_);exact ⟨congrArg (fun o=>Value.pointer (some ⟨b,o,none⟩)) (by rw [show tsz Tryz.prog 302=2 from by kernel_rfl];show 0+0+k*2=2*k;omega),hI⟩
 refine StepG.of (.agg #[.pointer (some ⟨d k,0,none⟩),ii (vTot (vocB T) k+1:Nat)]) (fun S vals wd hk hp hI=>zw ?_) (zw ?_)
 ·refine LoadA.cells (CellsAt.ext hcl hI.mem.ext) (by rw [show tsz Tryz.prog 302=2 from by kernel_rfl];rfl) (zw ?_);exact ⟨rfl,hI⟩
 refine StepG.any (fun S vals wd hk hp hI=>?_) (zw ?_)
 ·dsimp only at hI;rw [hk] at hI;(conv=>whnf);refine ⟨fun x wx hb hw=>?_⟩;subst hb hw;(conv=>whnf);exact ⟨trivial,hI.new1⟩
 refine StepG.of undef (fun S vals wd hk hp hI=>?_) (zw ?_)
 ·dsimp only at hI;have h9:S 8=true:=hp 8 Od;rw [hk,h9] at hI;obtain ⟨nb,hv,M,hmM,hKx⟩:=hI.put1;rw [qbk hv];(conv=>whnf);refine zS hmM 0 fun wx hmx=>zw ?_;exact ⟨rfl,by show Al _ _ _ _ _ _ (S 8) false true false _ _ _;rw [h9];exact hKx hmx rfl⟩
 intro vals w5 hI;obtain ⟨t8,hv1,hm⟩:=hI.done1;rw [qbk hv1];clear hI;have hm:Mem w w5 [(t8,.cells #[.pointer (some ⟨d k,0,none⟩),ii (vTot (vocB T) k+1:Nat)] 302),(tb,.cells #[ii (k+1:Nat),.string t.text,.string t.type,.string t.lang] 45)]:=hm;(conv=>whnf);refine zr hm 0 ?_;have hDk5:DictAt w5 (d k) (qk (secE T k)):=by
  have:=hDk.ext hm.ext
  rwa [h.sDict hk3] at this
 refine zcv (qsr (secE T k) (h.d k hk3) (d k) ⟨(qae t).toArray⟩ w5 hDk5) ?_;rintro r w6 ⟨⟨N,hN,rfl⟩,he6⟩
 by_cases hf:N<(secE T k).length∧(⟨(tx (secE T k) N).toArray⟩:ByteArray)=⟨(qae t).toArray⟩
 case neg=>
  have hnt:t∉T:=fun ht=>by
   obtain ⟨f1,f2,_⟩:=h.find hr hk hk3 ht ek hN;exact hf ⟨f1,f2⟩
  rw [decide_eq_false hf];have hm:=hm.call he6;refine zu ?_;exact ⟨by rw [idR,if_neg (fun h=>h.elim hnt hnz)],hm.ext⟩
 have ht:t∈T:=q9y he tE ek hf.1 hf.2;obtain ⟨f1,f2,f3⟩:=h.find hr hk hk3 ht ek hN;rw [show decide (N<(secE T k).length∧(⟨(tx (secE T k) N).toArray⟩:ByteArray)=⟨(qae t).toArray⟩)=true from decide_eq_true ⟨f1,f2⟩];have hm:=hm.call he6;have hn3:=(h.d k hk3).n;have htk:=hV.tot (k:=k) Oo;refine zu ?_;refine zr hm 0 ?_;refine zv ?_;refine zcv (qls (d k) (qk (secE T k)) w6 (hDk5.ext he6)) ?_;rintro r w7 ⟨rfl,rfl⟩;rw [(h.d k hk3).eN];refine zu ?_;refine zr hm 0 ?_;refine zv ?_;refine ⟨?_,hm.ext⟩;rw [idR,if_pos (.inl ht),f3];rfl
open Go.RowKit
namespace V
structure Chn (F:List Nat) (w w':World):Prop where
 os:w'.os=w.os
 tape:w'.tape=w.tape
 output:w'.output=w.output
 size:w.heap.size≤w'.heap.size
 block:∀ k,k<w.heap.size→k∉F→w'.heap[k]?=w.heap[k]?
theorem Chn.refl (F:List Nat) (w:World):Chn F w w:=⟨rfl,rfl,rfl,Nat.le_refl _,fun _ _ _=>rfl⟩
theorem Chn.of {w w':World} (F:List Nat) (h:Ext w w'):Chn F w w':=⟨h.os,h.tape,h.output,h.size,fun k hk _=>h.block k hk⟩
theorem Chn.trans {F:List Nat} {a b c:World} (h:Chn F a b) (g:Chn F b c):Chn F a c:=
 ⟨g.os.trans h.os,g.tape.trans h.tape,g.output.trans h.output,Nat.le_trans h.size g.size,fun k hk hn=>(g.block k (Nat.lt_of_lt_of_le hk h.size) hn).trans (h.block k hk hn)⟩
theorem Chn.mono {F G:List Nat} {w w':World} (h:Chn F w w') (hs:∀ k∈F,k∈G):Chn G w w':=⟨h.os,h.tape,h.output,h.size,fun k hk hn=>h.block k hk (by grind)⟩
theorem Chn.ext {F:List Nat} {w0 w w':World} (h:Chn F w w') (he:Ext w0 w) (hF:∀ k∈F,w0.heap.size≤k):Ext w0 w':=
 Below.trans he ⟨h.os,h.tape,h.output,h.size,fun k hk=>h.block k (Nat.lt_of_lt_of_le hk he.size) (by grind)⟩
theorem Chn.grown {w w':World} {r:Option Nat} (h:w.grownBy w' r):Chn r.toList w w':=
 ⟨h.os,h.tape,h.output,h.size,fun k hk hn=>h.block k hk (by grind)⟩
theorem Chn.set {w w':World} {b off:Nat} {cs:Array Value} {t:TypeId} {fr:Nat × Nat} {v:Value} (h:w.heap[b]?=some (.cells cs t fr)) (hw:w'=w.setCell ⟨b,off,none⟩ v) :
  Chn [b] w w'∧w'.heap[b]?=some (.cells (cs.setIfInBounds off v) t fr):=by
 subst hw;exact ⟨⟨rfl,rfl,rfl,by simp,(by grind [Below.heap_setCell])⟩,heap_setCell h⟩
theorem Chn.upd_ {w w':World} {b:Nat} {o:Obj} (h:Chn [b] w w') (ho:w'.heap[b]?=some o):Upd w w' b o:=⟨h.os,h.tape,h.output,h.size,fun k hk hn=>h.block k hk (by grind),ho⟩
structure Sep (w0 w:World) (Fs:List (List Nat)):Prop where
 ext:Ext w0 w
 lo:∀ F∈Fs,∀ k∈F,w0.heap.size≤k∧k<w.heap.size
 ap:Fs.Pairwise fun F G=>∀ k∈F,k∉G
section
variable {w0 w w':World} {Fs:List (List Nat)}
theorem Sep.of {w0 w:World} (h:Ext w0 w):Sep w0 w []:=⟨h,Js,List.Pairwise.nil⟩
theorem Sep.call (h:Sep w0 w Fs) (he:Ext w w'):Sep w0 w' Fs:=
 ⟨h.ext.trans he,fun F hF k hk=>⟨(h.lo F hF k hk).1,Nat.lt_of_lt_of_le (h.lo F hF k hk).2 he.size⟩,h.ap⟩
theorem Sep.add (h:Sep w0 w Fs) {F:List Nat} (he:Ext w w') (hF:∀ k∈F,w.heap.size≤k∧k<w'.heap.size):Sep w0 w' (F::Fs):=by
 refine ⟨h.ext.trans he,fun G hG k hk=>?_,List.pairwise_cons.2 ⟨fun G hG k hk hg=>?_,h.ap⟩⟩
 ·rcases List.mem_cons.1 hG with rfl|hG
  ·exact ⟨Nat.le_trans h.ext.size (hF k hk).1,(hF k hk).2⟩
  ·exact (h.call he).lo G hG k hk
 ·have:=(hF k hk).1;have:=(h.lo G hG k hg).2;omega
theorem Sep.new (h:Sep w0 w Fs) {b:Nat} {o:Obj} (hb:b=w.heap.size) (hw:w'=w.alloc o):Sep w0 w' ([b]::Fs)∧w'.heap[b]?=some o:=by
 subst hb hw;refine ⟨h.add ((Ext.refl w).alloc o) fun k hk=>?_,heap_alloc_new w _⟩
 simp_all
theorem Sep.drop (h:Sep w0 w Fs) (n:Nat):Sep w0 w (Fs.drop n):=
 ⟨h.ext,fun F hF=>h.lo F (by grind),h.ap.sublist (by grind)⟩
theorem Sep.perm {Gs:List (List Nat)} (h:Sep w0 w Fs) (hs:Fs.Perm Gs):Sep w0 w Gs:=
 ⟨h.ext,fun F hF=>h.lo F (by grind),hs.pairwise h.ap (by grind)⟩
theorem Sep.at_ (h:Sep w0 w Fs) {i:Nat} {F:List Nat} (hi:Fs[i]?=some F):∀ k∈F,w0.heap.size≤k∧k<w.heap.size:=h.lo F (by grind)
theorem Sep.apart (h:Sep w0 w Fs) {i j:Nat} {F G:List Nat} (hi:Fs[i]?=some F) (hj:Fs[j]?=some G) (hij:i≠j):∀ k∈G,k∉F:=by
 obtain ⟨h1,rfl⟩:=List.getElem?_eq_some_iff.1 hi;obtain ⟨h2,rfl⟩:=List.getElem?_eq_some_iff.1 hj;intro k hk hf
 rcases Nat.lt_or_gt_of_ne hij with g|g
 ·exact (List.pairwise_iff_getElem.1 h.ap) i j h1 h2 g k hf hk
 ·exact (List.pairwise_iff_getElem.1 h.ap) j i h2 h1 g k hk hf
theorem Sep.chg (h:Sep w0 w Fs) {i:Nat} {F F':List Nat} (hi:Fs[i]?=some F) (hc:Chn F w w') (hn:∀ k∈F',(k∈F∨w.heap.size≤k)∧k<w'.heap.size):Sep w0 w' (Fs.set i F'):=by
 have hF:=h.at_ hi;have hx:Ext w0 w':=hc.ext h.ext (by grind);refine ⟨hx,fun G hG k hk=>?_,?_⟩
 ·rcases List.mem_or_eq_of_mem_set hG with hG|rfl
  ·have:=h.lo G hG k hk;have:=hc.size;omega
  ·obtain ⟨h1,h2⟩:=hn k hk;refine ⟨?_,h2⟩
   rcases h1 with h1|h1
   ·simp_all
   ·exact Nat.le_trans h.ext.size h1
 ·have key:∀ j G,Fs[j]?=some G→j≠i→(∀ k∈F',k∉G):=fun j G hj hji k hk hg=>by
   rcases (hn k hk).1 with h1|h1
   ·exact h.apart hi hj Oo k hg h1
   ·have:=(h.at_ hj k hg).2;omega
  refine List.pairwise_iff_getElem.2 fun a b ha hb hab=>?_;simp only [List.length_set] at ha hb;rw [List.getElem_set,List.getElem_set]
  by_cases e1:i=a
  ·rw [if_pos e1,if_neg Oo];exact key b _ Js Oo
  ·rw [if_neg e1]
   by_cases e2:i=b
   ·rw [if_pos e2];intro k hk hf;exact key a _ Js Oo k hf hk
   ·rw [if_neg e2];exact (List.pairwise_iff_getElem.1 h.ap) a b ha hb hab
theorem Sep.keep (h:Sep w0 w Fs) {i j:Nat} {F G:List Nat} (hi:Fs[i]?=some F) (hc:Chn F w w') (hj:Fs[j]?=some G) (hij:i≠j):∀ k∈G,w'.heap[k]?=w.heap[k]?:=
 fun k hk=>hc.block k (h.at_ hj k hk).2 (h.apart hi hj hij k hk)
end
def rowF (v:Value):List Nat:=v.ownBlock.toList
theorem qao {w w':World} {base size n:Nat} {e:TypeId} {v:Value} {xs:List Value} (h:w.ownsRow base e size v n xs) (hk:∀ k∈rowF v,w'.heap[k]?=w.heap[k]?):w'.ownsRow base e size v n xs:=by
 refine ⟨h.1,h.2.imp id ?_⟩;rintro ⟨g,cap,cur,rfl,h1,h2,h3⟩;exact ⟨g,cap,cur,rfl,h1,by rw [hk g (List.mem_singleton.2 rfl)];exact h2,h3⟩
theorem qhu {w:World} {base size n:Nat} {e:TypeId} {v:Value} {xs:List Value} (h:w.ownsRow base e size v n xs):∀ k∈rowF v,base≤k∧k<w.heap.size:=by
 intro k hk;cases hv:v.ownBlock with
 | none=>grind [rowF]
 | some g=>
  rw [rowF,hv] at hk;rw [List.mem_singleton.1 hk];exact h.lt g hv
theorem AppV.row {P:Program} {e size:Nat} {w:World} {v:Value} {n:Nat} {xs:List Value} {t ty:TypeId} {i:TypeInfo} {z:Value} {A:oA} {m c:Nat} {news:List Value} {K:Value→World→Prop} (ht:P.underlying t=some (.slice e)) (hi:P.info? e=some i) (hz:i.zero=some z)
  (hsize:i.size=size) (hzs:z.cells.size=size) (hsz:0<size) (h:w.ownsRow 0 e size v n xs) (hl:news.length=m*size)
  (hA:news≠[]→∃ b off,A=some ⟨b,off,none⟩∧CellsAt w b off news) (h1:∀ u∈news,u.oneCell'=true) (hb:(n+m)*i.bytes≤140737488355328) (h63:n+m≤140737488355328)
  (hk:∀ A' c' w',w'.ownsRow 0 e size (.slice A' (n+m) c') (n+m) (xs++news)→Chn (rowF v) w w'→(∀ k∈rowF (.slice A' (n+m) c'),(k∈rowF v∨w.heap.size≤k)∧k<w'.heap.size)→K (.slice A' (n+m) c') w'):AppV P #[t,t] ty v (.slice A m c) w K:=by
 refine AppV.own ht hi hz hsize hzs hsz h Oo hl hA h1 hb h63 fun v' w' ho hg hor=>?_;obtain ⟨A',c',rfl⟩:=qbp ho;refine hk A' c' w' ho (Chn.grown hg) fun k hk=>⟨?_,(qhu ho k hk).2⟩
 grind [rowF]
theorem AppV.bys {P:Program} {e:TypeId} {w:World} {v:Value} {x m:LB} {t ty:TypeId} {i:TypeInfo} {z:Value} {B:oA} {d:Nat} {K:Value→World→Prop} (ht:P.underlying t=some (.slice e)) (hi:P.info? e=some i) (hz:i.zero=some z)
  (hsize:i.size=1) (hzs:z.cells.size=1) (hby:i.bytes≤16) (h:w.ownsRow 0 e 1 v x.length (byV x)) (hS:SlAt encB 1 w B m) (hlen:x.length+m.length≤8000000000000)
  (hk:∀ A' c' w',w'.ownsRow 0 e 1 (.slice A' (x.length+m.length) c') (x++m).length (byV (x++m))→Chn (rowF v) w w'→(∀ k∈rowF (.slice A' (x.length+m.length) c'),(k∈rowF v∨w.heap.size≤k)∧k<w'.heap.size)→K (.slice A' (x.length+m.length) c') w') :
  AppV P #[t,t] ty v (.slice B m.length d) w K:=by
 refine AppV.row (news:=byV m) ht hi hz hsize hzs Od h (by grind [qas]) (qr6 hS) (fun u hu=>?_) (Nat.le_trans (Nat.mul_le_mul hlen hby) Od) Oo fun A' c' w' ho hc hn=>hk A' c' w' ?_ hc hn
 ·simp only [byV,List.mem_map] at hu;obtain ⟨v,_,rfl⟩:=hu;rfl
 grind [byV]
theorem BS.keep {w w':World} {v:Value} {l:LB} (h:BS w v l) (hk:∀ k∈rowF v,w'.heap[k]?=w.heap[k]?):BS w' v l:=by
 obtain ⟨A,c,rfl,h2,h3⟩:=h;refine ⟨A,c,rfl,h2,⟨fun hn=>?_⟩⟩;obtain ⟨b,off,rfl,h4⟩:=h3.at_ hn;refine ⟨b,off,rfl,fun j x hx k u hu=>?_⟩;have:=h4 j x hx k u hu;rw [← this,World.cell?_of_block];exact hk b (List.mem_singleton.2 rfl)
structure NewS (e:TypeId) (w w':World) (v:Value) (l:LB):Prop where
 ext:Ext w w'
 h:∃ A c,v=.slice A l.length c∧l.length≤c∧(l=[]∨∃ g cur,A=some ⟨g,0,none⟩∧w'.heap[g]?=some (.cells cur e)∧l.length≤cur.size∧cur.toList.take l.length=byV l∧c≤cur.size)
 lo:∀ k∈rowF v,w.heap.size≤k∧k<w'.heap.size
theorem NewS.bs {e:TypeId} {w w':World} {v:Value} {l:LB} (h:NewS e w w' v l):BS w' v l:=by
 obtain ⟨A,c,rfl,h1,h2⟩:=h.h;refine ⟨A,c,rfl,h1,⟨fun hn=>?_⟩⟩;obtain ⟨g,cur,rfl,h3,h4,h5,_⟩:=h2.resolve_left hn;refine ⟨g,0,rfl,fun j u hu k v hv=>?_⟩;cases k with
 | succ k=>simp [encB] at hv
 | zero=>
  simp only [encB,List.getElem?_cons_zero,Option.some.injEq] at hv;subst hv;have hj:(cur.toList.take l.length)[j]?=some (.int .u8 u.toNat):=by grind [byV]
  grind [qa]
theorem qem (A:oA) (n c m d:Nat):rowF (.slice A n c)=rowF (.slice A m d):=by cases A<;>rfl
theorem NewS.of {e:TypeId} {w w':World} {A:oA} {c:Nat} {l:LB} (he:Ext w w') (h:w'.ownsRow w.heap.size e 1 (.slice A l.length c) l.length (byV l)) (d:Nat) (hd:l.length≤d) (hd2:d≤c):NewS e w w' (.slice A l.length d) l:=by
 refine ⟨he,⟨A,d,rfl,hd,?_⟩,fun k hk=>qhu h k (by grind [qem])⟩
 rcases h.2 with ⟨e1,h0⟩|⟨g,cap,cur,e1,h1,h2,h3,h4,h5,h6⟩
 all_goals simp_all
theorem NewS.back {e:TypeId} {w0 w w':World} {v:Value} {l:LB} (h:NewS e w w' v l) (he:Ext w0 w):NewS e w0 w' v l:=
 ⟨he.trans h.ext,h.h,fun k hk=>⟨Nat.le_trans he.size (h.lo k hk).1,(h.lo k hk).2⟩⟩
end V
namespace V
theorem Ext.first {w w':World} {o:Obj} (he:Ext w w') (ho:w'.heap[w.heap.size]?=some o):Ext (w.alloc o) w':=by
 have hlt:w.heap.size<w'.heap.size:=by
  grind
 refine ⟨he.os,he.tape,he.output,by rw [World.size_alloc];omega,fun k hk=>?_⟩;rw [World.size_alloc] at hk
 by_cases e:k=w.heap.size
 ·grind [heap_alloc_new]
 ·rw [Below.heap_alloc _ _ _ Oo];exact he.block k Oo
def qt2 (w:World) (n k:Nat):List (Nat × Obj):=((List.range k).map fun i=>(n+i,(w.heap[n+i]?).getD (.cells #[] 0))).reverse
section
variable {J:List (Nat × Obj)→World→Prop}
theorem Carr.since (hJ:Carr J) {X:List (Nat × Obj)} {w w':World} (h:J X w) (he:Ext w w'):J (qt2 w' w.heap.size (w'.heap.size-w.heap.size)++X) w':=by
 have key:∀ k,w.heap.size+k≤w'.heap.size→∃ v,v.heap.size=w.heap.size+k∧Ext v w'∧J (qt2 w' w.heap.size k++X) v:=by
  intro k
  induction k with
  | zero=>intro _;exact ⟨w,rfl,he,h⟩
  | succ k ih=>
   intro hk;obtain ⟨v,h1,h2,h3⟩:=ih Oo;have ho:w'.heap[v.heap.size]?=some w'.heap[v.heap.size]:=(by simp)
   refine ⟨v.alloc w'.heap[v.heap.size],by grind [World.size_alloc],h2.first ho,?_⟩;have h4:=hJ.new w'.heap[v.heap.size] h3
   grind [qt2,List.range_succ]
 have hs:=he.size;obtain ⟨v,h1,h2,h3⟩:=key (w'.heap.size-w.heap.size) Oo;exact hJ.ext h3 h2
theorem Carr.dropL (hJ:Carr J) {w:World}:∀ {A Z:List (Nat × Obj)},J (A++Z) w→J Z w
 | [],_,h=>h
 | _::A,_,h=>Carr.dropL hJ (A:=A) (hJ.drop h)
theorem Carr.pick (hJ:Carr J) {w:World}:∀ (Y A Z:List (Nat × Obj)),J (A++Z) w→(Y.map (·.1)).Nodup→(∀ x∈Y,x∈A)→J (Y++Z) w
 | [],A,Z,h,_,_=>hJ.dropL h
 | x::Y,A,Z,h,hn,hs=>by
  obtain ⟨s,t,rfl⟩:=List.append_of_mem (hs x mh);rw [List.map_cons,List.nodup_cons] at hn;have h1:J ((s++t)++x::Z) w:=hJ.perm h (by
   rw [List.append_assoc,List.append_assoc,List.cons_append];exact List.Perm.append_left s (by rw [← List.singleton_append,← List.singleton_append (x:=x) (l:=Z),← List.append_assoc,← List.append_assoc];exact List.perm_append_comm.append_right Z))
  have h2:=Carr.pick hJ Y (s++t) (x::Z) h1 hn.2 (by grind);exact hJ.perm h2 List.perm_middle
theorem Carr.call (hJ:Carr J) {X Y:List (Nat × Obj)} {w w':World} (h:J X w) (hm:Mem w w' Y):J (Y++X) w':=by
 refine hJ.pick Y _ X (hJ.since h hm.ext) hm.nodup fun x hx=>?_;have h1:=(hm.own x hx).1;have h2:=(hm.own x hx).2;have h3:=hm.lt (b:=x.1) (o:=x.2) hx;rw [qt2,List.mem_reverse];refine List.mem_map.2 ⟨x.1-w.heap.size,(by grind),?_⟩
 simp_all
def RowX (e:TypeId) (size:Nat) (v:Value) (n:Nat) (xs:List Value) (Y:List (Nat × Obj)):Prop:=
 xs.length=n*size∧((v=.slice none 0 0∧n=0∧Y=[])∨∃ g cap cur,v=.slice (some ⟨g,0,none⟩) n cap∧Y=[(g,.cells cur e)]∧n≤cap∧cap≤maxLen∧cur.size=cap*size∧cur.toList.take (n*size)=xs)
theorem RowX.nil (e:TypeId) (size:Nat):RowX e size (.slice none 0 0) 0 [] []:=⟨by rw [Nat.zero_mul];rfl,.inl ⟨rfl,rfl,rfl⟩⟩
theorem RowX.own {e:TypeId} {size n:Nat} {v:Value} {xs:List Value} {Y:List (Nat × Obj)} {w:World} (h:RowX e size v n xs Y) (hY:∀ x∈Y,w.heap[x.1]?=some x.2):w.ownsRow 0 e size v n xs:=by
 obtain ⟨h1,⟨rfl,h2,_⟩|⟨g,cap,cur,rfl,rfl,r⟩⟩:=h
 ·exact ⟨h1,.inl ⟨rfl,h2⟩⟩
 ·exact ⟨h1,.inr ⟨g,cap,cur,rfl,Nat.zero_le _,hY _ (List.mem_singleton.2 rfl),r⟩⟩
theorem RowX.of {e:TypeId} {size n base:Nat} {v:Value} {xs:List Value} {w:World} (h:w.ownsRow base e size v n xs):∃ Y,RowX e size v n xs Y∧(Y.map (·.1))=v.ownBlock.toList∧∀ x∈Y,base≤x.1∧w.heap[x.1]?=some x.2:=by
 obtain ⟨h1,⟨rfl,h2⟩|⟨g,cap,cur,rfl,h2,h3,r⟩⟩:=h
 ·exact ⟨[],⟨h1,.inl ⟨rfl,h2,rfl⟩⟩,rfl,Js⟩
 ·exact ⟨[(g,.cells cur e)],⟨h1,.inr ⟨g,cap,cur,rfl,rfl,r⟩⟩,rfl,(by grind)⟩
theorem RowX.slice {e:TypeId} {size n:Nat} {v:Value} {xs:List Value} {Y:List (Nat × Obj)} (h:RowX e size v n xs Y):∃ A c,v=.slice A n c:=by
 obtain ⟨_,⟨rfl,rfl,_⟩|⟨g,cap,cur,rfl,_⟩⟩:=h<;>exact ⟨_,_,rfl⟩
theorem AppV.carr {P:Program} {e size:Nat} {w:World} {v:Value} {n:Nat} {xs:List Value} {t ty:TypeId} {i:TypeInfo} {z:Value} {A:oA} {m c:Nat} {news:List Value} {X Y:List (Nat × Obj)} {K:Value→World→Prop} (hJ:Carr J) (h:J (Y++X) w) (hR:RowX e size v n xs Y)
  (ht:P.underlying t=some (.slice e)) (hi:P.info? e=some i) (hz:i.zero=some z) (hsize:i.size=size) (hzs:z.cells.size=size) (hsz:0<size) (hl:news.length=m*size)
  (hA:news≠[]→∃ b off,A=some ⟨b,off,none⟩∧CellsAt w b off news) (h1:∀ u∈news,u.oneCell'=true) (hb:(n+m)*i.bytes≤140737488355328) (h63:n+m≤140737488355328)
  (hk:∀ A' c' Y' w',RowX e size (.slice A' (n+m) c') (n+m) (xs++news) Y'→J (Y'++X) w'→K (.slice A' (n+m) c') w'):AppV P #[t,t] ty v (.slice A m c) w K:=by
 refine AppV.own ht hi hz hsize hzs hsz (hR.own fun x hx=>hJ.get h (by grind)) Oo hl hA h1 hb h63 fun v' w' ho hg hor=>?_;obtain ⟨Y',hR',hY1,hY2⟩:=RowX.of ho;obtain ⟨A',c',rfl⟩:=hR'.slice;refine hk A' c' Y' w' hR' ?_;obtain ⟨_,⟨rfl,rfl,rfl⟩|⟨g,cap,cur,rfl,rfl,hn1,hn2,hn3,hn4⟩⟩:=hR
 ·have he:Ext w w':=⟨hg.os,hg.tape,hg.output,hg.size,fun k hk=>hg.block k hk (fun e=>by cases e)⟩
  rcases hor with hor|hor
  ·rw [hor] at hY1;have:Y'=[]:=List.map_eq_nil_iff.1 hY1;subst this;exact hJ.ext h he
  ·refine hJ.call h ⟨he,fun x hx=>⟨?_,(hY2 x hx).2⟩,by simp_all⟩
   grind [List.mem_map_of_mem]
 ·have hgo:=hJ.get h mh;have hlt:g<w.heap.size:=by
   grind
  have hs:=hg.size;have ho':w'.heap[g]?=some w'.heap[g]:=(by simp)
  have h2:=hJ.set w'.heap[g] h;have he:Ext (setO w g w'.heap[g]) w':=by
   refine ⟨hg.os,hg.tape,hg.output,by grind [setO],fun k hk=>?_⟩;have hk':k<w.heap.size:=by grind [setO]
   by_cases e:k=g
   ·grind [qjr]
   ·rw [qen e];exact hg.block k hk' (by grind [Value.ownBlock])
  rcases hor with hor|hor
  ·have h3:=hJ.ext h2 he;have e1:Y'=[(g,w'.heap[g])]:=by
    rw [hor] at hY1
    match Y',hY1,hY2 with
    | [x],hY1,hY2=>
     grind [Value.ownBlock]
   simp_all
  ·have h4:J (Y'++(g,w'.heap[g])::X) w':=by
    refine hJ.call h2 ⟨he,fun x hx=>⟨?_,(hY2 x hx).2⟩,by grind⟩
    grind [List.mem_map_of_mem,setO]
   exact hJ.dropM h4
theorem qq4 {w:World} {b:Nat} {cur cs:Array Value} {t:TypeId} (h:w.heap[b]?=some (.cells cur t)):w.setRow b cs=setO w b (.cells cs t):=by
 have hr:=qb3 (cs:=cs) h;unfold World.setRow setO at *
 congr 1
 grind
theorem StoreA.carr {P:Program} (hJ:Carr J) {A B:List (Nat × Obj)} {b:Nat} {cur:Array Value} {t:TypeId} {vs:List Value} {w:World} {K:World→Prop} (h:J (A++(b,.cells cur t)::B) w) (hl:vs.length=cur.size) (h1:∀ v∈vs,v.oneCell'=true)
  (hk:∀ w',J (A++(b,.cells vs.toArray t)::B) w'→K w'):StoreA P w b 0 vs K:=by
 have hg:=hJ.get h (List.mem_append_right _ mh);have hr:=run_storeCells_at P b 0 t vs 0 cur w hg (by simp [hl]) h1;refine ⟨⟨_,hr,hk _ ?_⟩⟩;have e:(cur.toList.take (0+0)++vs++cur.toList.drop (0+0+vs.length)).toArray=vs.toArray:=by
  simp_all
 have e2:∀ z,w.setRow b z=setO w b (.cells z t):=fun z=>qq4 hg
 simp only [Nat.zero_add,Nat.add_zero,List.take_zero,List.nil_append] at e ⊢;rw [e2,e];exact hJ.setM _ h
theorem Carr.ex {α:Type} {p:α→Prop} {J:α→List (Nat × Obj)→World→Prop} (h:∀ c,Carr (J c)):Carr fun X w=>∃ c,p c∧J c X w:=
 ⟨fun ⟨c,q,k⟩ he=>⟨c,q,(h c).ext k he⟩,(by grind [get]),(by grind [new]),(by grind [set]),fun ⟨c,q,k⟩=>⟨c,q,(h c).drop k⟩,fun ⟨c,q,k⟩ hp=>⟨c,q,(h c).perm k hp⟩⟩
theorem Carr.and {p:Prop} {J:List (Nat × Obj)→World→Prop} (h:Carr J):Carr fun X w=>p∧J X w:=
 ⟨fun ⟨q,k⟩ he=>⟨q,h.ext k he⟩,fun ⟨_,k⟩ hx=>h.get k hx,fun o ⟨q,k⟩=>⟨q,h.new o k⟩,fun o' ⟨q,k⟩=>⟨q,h.set o' k⟩,fun ⟨q,k⟩=>⟨q,h.drop k⟩,fun ⟨q,k⟩ hp=>⟨q,h.perm k hp⟩⟩
variable {P:Program} {n:Nat} {r:Option Nat}
end
end V
def TmaΦ (b:Nat) (l:LB) (b1 _:Nat) (w:World):Prop:=TreeAt w b l∧w.cell? ⟨b1,0,none⟩=some (pp b)
def q63 (P:Nat→Int) (b2:Nat) (w:World):Prop:=CellsAt w b2 0 [ii (P 0),ii (P 1),ii (P 2),ii (P 3)]
def tmaR (l:LB) (P:Nat→Int):List (Nat × (Nat→Nat)):=(lvG (treD l) P 3 0 0 (vNum l 0) (fun _=>0,fun _=>0)).1
theorem qk7 (b:Nat) (P:Nat→Int) (w:World):Gv Tryz.prog 127 [pp b,.agg #[ii (P 0),ii (P 1),ii (P 2),ii (P 3)]] w fun r w'=>
  ∃ b1 b2,r=.func (.func 206) #[] #[pp b1,pp b2]∧Mem w w' [(b2,.cells #[ii (P 0),ii (P 1),ii (P 2),ii (P 3)] 95),(b1,.cells #[pp b] 141)]:=by
 refine ze Tryz.func127 Tryz.ntmps127 ?_;refine znm (Mem.nil w) ?_;intro b1 w1 hm;refine znm hm fun b2 w2 hm=>zw ?_;exact ⟨b1,b2,rfl,hm⟩
theorem qk8 (b:Nat) (l:LB) (P:Nat→Int) (b1 b2:Nat) (hvm:∀ k,k<3→tVec l (k+1)=true→vM (qe l (k+1))≤vN (qe l (k+1))) (hP:∀ k,k<4→InR .i64 (P k)) :
  SeqC Tryz.prog 206 [pp b1,pp b2] ((tmaR l P).map mRow) (fun w=>TmaΦ b l b1 b2 w∧q63 P b2 w):=by
 intro y I Ix w cI cIx hI h0 hy;obtain ⟨⟨hT,hc1⟩,hc2⟩:=hI 0 [] w h0;obtain ⟨PP,cp,S,cs,VV,hc,_⟩:=(hT.lv 0 Od).h;have hn0:=hT.n 0 Od;refine gvW Jk Tryz.func206 rfl Tryz.ntmps206 rfl (zw ?_);refine LoadV.of hc1 ?_;refine LoadA.cells hc2 rfl ?_;refine NewV.carr (cI 0) h0 ?_;clear h0;intro wb w1 h0;have h0:I 0 [(wb,wkO b y P (fun _=>0,fun _=>0))] w1:=h0;refine LoadV.of (hI _ _ _ h0).1.2 (zw ?_);refine zJ 0 ?_;(conv=>whnf);obtain ⟨PP,cp,S,cs,VV,hc,_⟩:=((hI _ _ _ h0).1.1.lv 0 Od).h;refine LoadV.cellsE hc 0 (by first|rfl|(rw [lvSz];first|done|rfl)) rfl ?_;have hlv:=qy8 b wb y l P ((tmaR l P).map mRow) I Ix cI cIx (fun k X w h=>(hI k X w h).1.1) hvm hP hy 3 0 0 (vNum l 0) 0 (fun _=>0,fun _=>0) [] w1 rfl Oo hn0 (fun k _=>Nat.zero_le _) (fun t row ht=>by rw [Nat.zero_add,List.getElem?_map];exact congrArg (Option.map mRow) ht) h0;refine zcv hlv ?_;clear h0 hlv;have hlen:((tmaR l P).map mRow).length=(tmaR l P).length:=List.length_map ..;rintro r w2 (⟨rfl,hJ⟩|⟨rfl,j',s',hj',hX⟩)
 ·(conv=>whnf);rw [hlen];rw [Nat.zero_add] at hJ;exact .inl ((cI _).drop hJ)
 ·(conv=>whnf);rw [Nat.zero_add] at hj';exact .inr ⟨j',by rw [hlen];exact hj',(cIx _).drop hX⟩
structure IdxAt (w:World) (x:Nat) (l:LB):Prop where
 h:∃ pb,w.cell? ⟨x,0,none⟩=some (pp pb)∧PackAt w pb l
theorem qsm (b:Nat) (w:World):Gv Tryz.prog 136 [pp b] w fun r w'=>
  r=.agg #[pp b,.pointer (some ⟨b,4,none⟩),.pointer (some ⟨b,8,none⟩),.pointer (some ⟨b,12,none⟩)]∧Ext w w':=by
 refine gvW Jk Tryz.func136 rfl Tryz.ntmps136 rfl (zw ?_);refine znm (Mem.nil w) fun rb w1 hm=>zw ?_;refine DrawW.tail 13 Jk Jk (.inl rfl) (AnyV.free Jk ?_);(conv=>whnf);(iterate 13 (refine zd ?_));intro w2 he2;have hm:=hm.drew.call he2;(conv=>whnf);refine zS hm 0 fun w3 hm=>zw ?_;refine qj (R:=fun r w'=>r=.agg #[pp b,.pointer (some ⟨b,4,none⟩),.pointer (some ⟨b,8,none⟩),.pointer (some ⟨b,12,none⟩)]∧Ext w w') (zw ?_);refine zl hm 0 ?_;exact ⟨rfl,hm.ext⟩
theorem qmo (q:Q4) {i:Nat} (hi:i<4) {k:Nat} {v:Value} (hv:(encT (q.at i))[k]?=some v):(qd q)[4*i+k]?=some v:=by
 have hk:k<4:=(List.getElem?_eq_some_iff.1 hv).1
 match i,hi,k,hk,hv with
 | 0,_,0,_,hv=>exact hv
 | 0,_,1,_,hv=>exact hv
 | 0,_,2,_,hv=>exact hv
 | 0,_,3,_,hv=>exact hv
 | 1,_,0,_,hv=>exact hv
 | 1,_,1,_,hv=>exact hv
 | 1,_,2,_,hv=>exact hv
 | 1,_,3,_,hv=>exact hv
 | 2,_,0,_,hv=>exact hv
 | 2,_,1,_,hv=>exact hv
 | 2,_,2,_,hv=>exact hv
 | 2,_,3,_,hv=>exact hv
 | 3,_,0,_,hv=>exact hv
 | 3,_,1,_,hv=>exact hv
 | 3,_,2,_,hv=>exact hv
 | 3,_,3,_,hv=>exact hv
theorem qi2 (p q:Q4):fitQ p q=true↔∀ i,i<4→fitT (p.at i) (q.at i)=true:=by
 constructor
 ·intro h i hi;simp only [fitQ,Bool.and_eq_true] at h;obtain ⟨⟨⟨h0,h1⟩,h2⟩,h3⟩:=h
  match i,hi with
  | 0,_=>exact h0
  | 1,_=>exact h1
  | 2,_=>exact h2
  | 3,_=>exact h3
 ·intro h;simp only [fitQ,Bool.and_eq_true];exact ⟨⟨⟨h 0 Od,h 1 Od⟩,h 2 Od⟩,h 3 Od⟩
theorem qo8 (p q:Q4) (w:World):Gv Tryz.prog 67 [qq p,qq q] w fun r w'=>r=.bool (fitQ p q)∧Ext w w':=by
 refine ze Tryz.func67 Tryz.ntmps67 ?_;refine znm (Mem.nil w) ?_;intro pb w1 hm;have hm:Mem w w1 [(pb,.cells (qd p).toArray 47)]:=hm;(conv=>whnf);refine znm hm ?_;clear hm;intro qb w2 hm;have hm:Mem w w2 [(qb,.cells (qd q).toArray 47),(pb,.cells (qd p).toArray 47)]:=hm;(conv=>whnf);refine zcv (qsm qb w2) ?_;rintro r w3 ⟨rfl,he3⟩;have hm:=hm.call he3;(conv=>whnf);refine znm hm fun ab w4 hm=>zw ?_;refine zS hm 0 fun w5 hm=>zw ?_;refine zcv (qsm pb w5) ?_;rintro r w6 ⟨rfl,he6⟩;have hm:=hm.call he6;(conv=>whnf);obtain ⟨L,eL⟩:∃ L:List (Nat × Obj),L=[(ab,.cells #[pp qb,.pointer (some ⟨qb,4,none⟩),.pointer (some ⟨qb,8,none⟩),.pointer (some ⟨qb,12,none⟩)] 68),(qb,.cells (qd q).toArray 47),(pb,.cells (qd p).toArray 47)]:=⟨_,rfl⟩
 have hm:Mem w w6 L:=by rw [eL];exact hm
 refine qm (fun i:Nat=>[(5,pp ab),(9,.agg #[pp pb,.pointer (some ⟨pb,4,none⟩),.pointer (some ⟨pb,8,none⟩),.pointer (some ⟨pb,12,none⟩)]),(10,ii i)])
  (fun i w'=>Mem w w' L∧i≤4∧∀ j,j<i→fitT (p.at j) (q.at j)=true) (fun i=>4-i) 0 ⟨rfl,rfl,rfl,trivial⟩ ⟨hm,Nat.zero_le _,fun j hj=>by omega⟩ ?_
 clear hm;rintro i w7 ρ' ⟨hm,hi,hf⟩;rw [eL] at hm;(conv=>whnf);refine zC (fun _=>zu ?_) (fun _=>zu ?_)
 case' refine_2=>
  exact ⟨congrArg Value.bool ((qi2 p q).2 fun j hj=>hf j Oo).symm,hm.ext⟩
 have hi4:i<4:=by omega
 have tp:tsz Tryz.prog 67=1:=by kernel_rfl
 have ptr:∀ b:Nat,[pp b,.pointer (some ⟨b,4,none⟩),.pointer (some ⟨b,8,none⟩),.pointer (some ⟨b,12,none⟩)][i]?=some (.pointer (some ⟨b,4*i,none⟩)):=fun b=>by
  match i,hi4 with
  | 0,_=>rfl
  | 1,_=>rfl
  | 2,_=>rfl
  | 3,_=>rfl
 refine ⟨⟨.pointer (some ⟨pb,4*i,none⟩),by rw [tp,Nat.mul_one];exact ptr pb,?_⟩⟩;have hcp:CellsAt w7 pb (4*i) (encT (p.at i)):=fun k v hv=>by
  rw [qa (hm.get (zmc (zmc (List.mem_singleton.2 rfl)))),List.getElem?_toArray];exact qmo p hi4 hv
 have hcq:CellsAt w7 qb (4*i) (encT (q.at i)):=fun k v hv=>by
  rw [qa (hm.get (zmc mh)),List.getElem?_toArray];exact qmo q hi4 hv
 have hca:w7.cell? ⟨ab,i,none⟩=some (.pointer (some ⟨qb,4*i,none⟩)):=by
  rw [qa (hm.get mh),List.getElem?_toArray];exact ptr qb
 have hkd:w7.cell? ⟨pb,4*i+0,none⟩=some (ii (p.at i).kind):=hcp 0 _ rfl;(conv=>whnf);refine zy ?_;refine zv ?_;refine LoadV.of hkd (zw ?_)
 rcases Classical.em ((p.at i).kind=4) with h4|h4
 case inl=>
  refine zv ?_;refine ⟨i+1,⟨rfl,rfl,rfl,trivial⟩,⟨by rw [eL];exact hm.drew,by omega,fun j hj=>?_⟩,by omega⟩
  by_cases e:j=i
  ·subst e;rw [fitT,h4];rfl
  ·exact hf j Oo
 refine zv ?_;refine LoadA.cells (vs:=encT (p.at i)) hcp rfl (zu ?_);refine LoadV.of (v:=.pointer (some ⟨qb,4*i,none⟩)) (by rw [tp,Nat.zero_add,Nat.mul_one];exact hca) (zu ?_);refine LoadA.cells (vs:=encT (q.at i)) hcq rfl (zu ?_);refine RunV.eqTerm (a:=p.at i) (b:=q.at i) (.inr rfl) ?_;cases hst:qaj (p.at i) (q.at i)
 ·refine zu ?_;refine ⟨?_,hm.ext.drew⟩;have e:fitQ p q=false:=Bool.eq_false_iff.2 fun g=>by
   have:=(qi2 p q).1 g i hi4;rw [fitT,hst,decide_eq_false h4] at this;cases this
  rw [e]
 ·refine zu ?_;refine ⟨i+1,⟨rfl,rfl,rfl,trivial⟩,⟨by rw [eL];exact hm.drew,by omega,fun j hj=>?_⟩,by omega⟩
  by_cases e:j=i
  ·subst e;rw [fitT,hst,Bool.or_true]
  ·exact hf j Oo
def idP (T:List TM) (p:Q4):Nat→Int:=fun k=>idT T (gat p k)
def KnQ (T:List TM) (p:Q4):Prop:=∀ k,k<4→KnT T (gat p k)
open Classical in
noncomputable def qkc (T:List TM) (p:Q4):Value:=if KnQ T p then .tuple #[.agg #[ii (idP T p 0),ii (idP T p 1),ii (idP T p 2),ii (idP T p 3)],.bool true] else .tuple #[.agg zq,.bool false]
def idC (F:Nat→Int):List Value:=[ii (F 0),ii (F 1),ii (F 2),ii (F 3)]
theorem qyh (F:Nat→Int) {i:Nat} (hi:i<4) (x:Int):(idC F).toArray.setIfInBounds i (ii x)=(idC fun j=>if j=i then x else F j).toArray:=by
 match i,hi with
 | 0,_=>rfl
 | 1,_=>rfl
 | 2,_=>rfl
 | 3,_=>rfl
theorem qt1 (T:List TM) (qs:List Q4) (h:EncOk T qs) (x:Nat) (p:Q4) (hp:qak p) (w:World) (hX:IdxAt w x (encP T qs)) (hM:MaxLenAt w) (hT:CellsAt w 4 0 qa6) :
  Gv Tryz.prog 39 [pp x,qq p] w fun r w'=>r=qkc T p∧Ext w w':=by
 refine ze Tryz.func39 Tryz.ntmps39 ?_;refine znm (Mem.nil w) ?_;intro pb w1 hm;have hm:Mem w w1 [(pb,.cells (qd p).toArray 47)]:=hm;(conv=>whnf);refine znm hm fun rb w2 hm=>zw ?_;refine znm hm ?_;clear hm;intro ob w3 hm;have hm:Mem w w3 [(ob,.cells (idC fun _=>0).toArray 95),(rb,.cells zq 95),(pb,.cells (qd p).toArray 47)]:=hm;(conv=>whnf);have hq4:∀ w',Ext w3 w'→∀ i,i<4→CellsAt w' pb (4*i) (encT (p.at i)):=fun w' he i hi k v hv=>by
  rw [qa (he.get (hm.get (zmc (zmc (List.mem_singleton.2 rfl))))),List.getElem?_toArray];exact qmo p hi hv
 refine LoadA.cells (vs:=encT p.g) (hq4 w3 xr 3 Od) rfl (zw ?_);refine LoadA.cells (vs:=encT p.s) (hq4 w3 xr 0 Od) rfl (zw ?_);refine LoadA.cells (vs:=encT p.p) (hq4 w3 xr 1 Od) rfl (zw ?_);refine LoadA.cells (vs:=encT p.o) (hq4 w3 xr 2 Od) rfl (zw ?_);refine qm (fun s:Nat × (Nat→Int)=>[(0,pp x),(4,pp rb),(6,pp ob),(19,.agg (encT p.g++encT p.s++encT p.p++encT p.o).toArray),(20,ii s.1)])
  (fun s w'=>s.1≤4∧(∀ j,j<s.1→s.2 j=idP T p j∧KnT T (gat p j))∧Mem w w' [(ob,.cells (idC s.2).toArray 95),(rb,.cells zq 95),(pb,.cells (qd p).toArray 47)]) (fun s=>4-s.1) (0,fun _=>0) ⟨rfl,rfl,rfl,rfl,rfl,trivial⟩ ⟨Nat.zero_le _,fun j hj=>by omega,hm⟩ ?_
 clear hq4 hm;rintro ⟨i,F⟩ w4 ρ' ⟨hi,hF,hm⟩;dsimp only at hi hF hm ⊢;(conv=>whnf);refine zC (fun _=>zu ?_) (fun _=>zu ?_)
 case' refine_2=>
  obtain rfl:i=4:=by omega
  have hKn:KnQ T p:=fun j hj=>(hF j hj).2
  have e:qkc T p=.tuple #[.agg (idC F).toArray,.bool true]:=by
   rw [qkc,if_pos hKn,← (hF 0 Od).1,← (hF 1 Od).1,← (hF 2 Od).1,← (hF 3 Od).1];rfl
  refine zl hm 0 ?_;refine StoreA.all hm (i:=1) rfl rfl (by simp [Value.oneCell']) fun w5 hm=>zw ?_;refine qj (R:=fun r w'=>r=qkc T p∧Ext w w') (zw ?_);refine zl hm 1 ?_;exact ⟨by rw [e];rfl,hm.ext⟩
 have hi4:i<4:=by omega
 have t4:tsz Tryz.prog 45=4:=by kernel_rfl
 have t1:tsz Tryz.prog 3=1:=by kernel_rfl
 refine ⟨⟨encT (gat p i),?_,?_⟩⟩
 ·rw [t4]
  match i,hi4 with
  | 0,_=>rfl
  | 1,_=>rfl
  | 2,_=>rfl
  | 3,_=>rfl
 obtain ⟨t,et⟩:∃ t,t=gat p i:=⟨_,rfl⟩
 have hto:TermOk t:=by
  rw [et]
  match i,hi4 with
  | 0,_=>exact hp 3
  | 1,_=>exact hp 0
  | 2,_=>exact hp 1
  | 3,_=>exact hp 2
 rw [← et];(conv=>whnf);refine znm hm fun tb w5 hm=>zw ?_;refine StoreA.all (vs:=encT t) hm (i:=0) rfl rfl (qab t) fun w6 hm=>zw ?_;refine zr hm 0 ?_
 rcases Classical.em (t.kind=4) with h4|h4
 case inl=>
  refine zv ?_;refine StoreV.mem hm (i:=1) rfl (by rw [t1];show 0+i*1<4;omega) rfl ?_;clear hm;intro w7 hm;have hm:Mem w w7 [(tb,.cells (encT t).toArray 45),(ob,.cells ((idC F).toArray.setIfInBounds (0+i*tsz Tryz.prog 3) (ii (-1))) 95),(rb,.cells zq 95),(pb,.cells (qd p).toArray 47)]:=hm;rw [t1,Nat.zero_add,Nat.mul_one,qyh F hi4] at hm;refine zu ?_;refine ⟨(i+1,fun j=>if j=i then -1 else F j),⟨rfl,rfl,rfl,rfl,rfl,trivial⟩,⟨by dsimp only;omega,fun j hj=>?_,hm.sub (List.sublist_cons_self ..)⟩,by dsimp only;omega⟩;dsimp only at hj ⊢
  by_cases e:j=i
  ·subst e;rw [if_pos rfl,idP,← et,idT,if_pos h4];exact ⟨rfl,.inl h4⟩
  ·rw [if_neg e];exact hF j Oo
 refine zv ?_;obtain ⟨vp,hxp,hPk⟩:=hX.h;refine DrawV.free Jk Jk (zw ?_);(iterate 3 (refine zd ?_));refine zf ?_ (by intro wd hd;(conv=>whnf);refine LoadV.of (Ext.cell (Ext.trans (Ext.drew xr) hd) (hm.ext.cell hxp)) ?_;(conv=>whnf);exact ⟨xr,rfl⟩);apply StepD.of (fun v w=>∃ vb,v=pp vb∧VocAt w vb (vocB T)) (fun v w w' ⟨vb,h1,h2⟩ he=>⟨vb,h1,h2.ext he⟩)
 ·intro wd hd;(conv=>whnf);refine zcv (qqq vp (encP T qs) wd (hPk.ext (hm.ext.trans ((Ext.refl w6).drew.trans hd)))) ?_;rintro r w7 ⟨⟨vb,rfl,hvb⟩,rfl⟩;rw [h.v] at hvb;exact ⟨xr,vb,rfl,hvb⟩
 (conv=>whnf);apply zsd (qt t)
 ·intro wd hd;conv=>whnf
  (repeat (rintro _ ⟨_,rfl,_⟩;(conv=>whnf)))
  refine LoadA.mem (Mem.call (Mem.drew hm) hd) (i:=0) rfl rfl (zw ?_);exact ⟨xr,rfl⟩
 (conv=>whnf);apply zsd (idR T t)
 ·intro wd hd;conv=>whnf
  (repeat (rintro _ ⟨_,rfl,_⟩;(conv=>whnf)))
  have hxd:=hm.ext.trans ((Ext.refl w6).drew.trans hd);refine zcv (qua T h.voc h.set.rise h.kinds h.term _ t hto wd Oa (hM.ext hxd) (CellsAt.ext hT hxd)) ?_;rintro r w7 ⟨rfl,he7⟩;exact ⟨he7,rfl⟩
 have hid:(KnT T (gat p i)∧idR T t=.tuple #[ii (idP T p i),.bool true])∨(¬ KnT T (gat p i)∧idR T t=.tuple #[ii 0,.bool false]):=by
  rw [← et]
  rcases Classical.em (t∈T∨t=zTM) with g|g
  ·exact .inl ⟨.inr g,by rw [idR,if_pos g,idP,← et,idT,if_neg h4]⟩
  ·exact .inr ⟨fun k=>g (k.resolve_left h4),by rw [idR,if_neg g]⟩
 rcases hid with ⟨hk,eid⟩|⟨hk,eid⟩
 case inr=>
  rw [eid];(conv=>whnf);(iterate 5 (refine zd ?_));intro w7 he7;have hm:=hm.drew.call he7;conv=>whnf
  (repeat (rintro _ ⟨_,rfl,_⟩;(conv=>whnf)))
  refine zv ?_;refine StoreA.all hm (i:=2) rfl rfl Od fun w8 hm=>zw ?_;refine qj (R:=fun r w'=>r=qkc T p∧Ext w w') (zw ?_);refine zl hm 2 ?_;exact ⟨by rw [qkc,if_neg (fun g=>hk (g i hi4))];rfl,hm.ext⟩
 obtain ⟨z,ez⟩:∃ z,z=idP T p i:=⟨_,rfl⟩
 rw [eid,← ez];(conv=>whnf);(iterate 5 (refine zd ?_));intro w7 he7;have hm:=hm.drew.call he7;conv=>whnf
 (repeat (rintro _ ⟨_,rfl,_⟩;(conv=>whnf)))
 refine zv ?_;refine StoreV.mem hm (i:=1) rfl (by rw [t1];show 0+i*1<4;omega) rfl ?_;clear hm;intro w8 hm;have hm:Mem w w8 [(tb,.cells (encT t).toArray 45),(ob,.cells ((idC F).toArray.setIfInBounds (0+i*tsz Tryz.prog 3) (ii z)) 95),(rb,.cells zq 95),(pb,.cells (qd p).toArray 47)]:=hm;rw [t1,Nat.zero_add,Nat.mul_one,qyh F hi4] at hm;refine zu ?_;refine ⟨(i+1,fun j=>if j=i then z else F j),⟨rfl,rfl,rfl,rfl,rfl,trivial⟩,⟨by dsimp only;omega,fun j hj=>?_,hm.sub (List.sublist_cons_self ..)⟩,by dsimp only;omega⟩;dsimp only at hj ⊢
 by_cases e:j=i
 ·subst e;rw [if_pos rfl,ez];exact ⟨rfl,hk⟩
 ·rw [if_neg e];exact hF j Oo
section
variable {P:Nat→Int} {Q:Nat→Nat→Nat} {n:Nat}
theorem qrx {i:Nat}:∀ {m k:Nat},(∀ j,k≤j→j<k+m→P j<0)→agF P Q i k m=true
 | 0,_,_=>rfl
 | m+1,k,h=>by
  rw [agF,qrx (m:=m) (k:=k+1) fun j h1 h2=>h j Oo Oo,agB,decide_eq_true (h k znr Oo)];rfl
theorem q3p {k a b:Nat} (hk:k≤4) (h:∀ j,k≤j→j<4→P j<0):maT P Q k a b=(List.range b).drop a:=by
 grind [maT,List.filter_eq_self,qrx]
theorem qhq {k a b:Nat} (hk:k≤4) (h:∀ j,k≤j→j<4→P j<0):(maT P Q k a b).length=b-a:=by
 grind [q3p]
theorem qzh {k e:Nat} (hk:k<4) (hx:P k=((nuT Q k n).getD e 0:Nat)) (h:∀ j,k+1≤j→j<4→P j<0):(lvM P Q n k e (e+1)).length=bndT Q k (e+1) n-bndT Q k e n:=by
 grind [lvM,qf0,agB,qhq]
def staT (Q:Nat→Nat→Nat) (n:Nat):Nat→Nat→Nat→Nat
 | 0,_,i=>min i n
 | f+1,k,i=>if leT Q k n≤i then n else staT Q n f (k+1) (chT Q n k i)
theorem TOk.sta (h:TOk Q n):∀ {f k:Nat} (i:Nat),f+k=3→staT Q n f k i=bndT Q k i n
 | 0,k,i,hk=>by
  obtain rfl:k=3:=by omega
  rw [staT]
  rcases Nat.le_total i n with g|g
  ·rw [h.bnd3 g,Nat.min_eq_left g]
  ·rw [qlk 3 (by rw [h.all Oo];exact g),Nat.min_eq_right g]
 | f+1,k,i,hk=>by
  rw [staT]
  split
  ·rename_i g
   rw [qlk k g]
  ·rw [TOk.sta h (f:=f) (k:=k+1) _ Oo,qki]
end
def staD (T:LvD) (N:Nat):Nat→Nat→Nat→Nat
 | 0,_,i=>min i N
 | f+1,k,i=>if T.N k≤i then N else staD T N f (k+1) (T.ch k i).1
def finD (T:LvD) (N:Nat) (F:Nat→Int):Nat→Nat→Nat→Nat→Nat × Bool
 | m,k,lo,hi=>
  if min hi (T.N k)≤T.sr k (min lo (min hi (T.N k))) (min hi (T.N k)) (F k)∨(T.nu k (T.sr k (min lo (min hi (T.N k))) (min hi (T.N k)) (F k)):Int)≠F k then
   (staD T N (3-k) k (T.sr k (min lo (min hi (T.N k))) (min hi (T.N k)) (F k)),false)
  else match m with
   | 0=>(T.sr k (min lo (min hi (T.N k))) (min hi (T.N k)) (F k),true)
   | m+1=>finD T N F m (k+1) (T.ch k (T.sr k (min lo (min hi (T.N k))) (min hi (T.N k)) (F k))).1 (T.ch k (T.sr k (min lo (min hi (T.N k))) (min hi (T.N k)) (F k))).2
def cntD (T:LvD) (N one w:Nat) (P:Nat→Int):Nat→Nat→Nat→Nat→Nat
 | 0,_,_,_=>N
 | m+1,j,lo,hi=>
  if w≤j then N else if P j<0 then one else
  if min hi (T.N j)≤T.sr j (min lo (min hi (T.N j))) (min hi (T.N j)) (P j)∨(T.nu j (T.sr j (min lo (min hi (T.N j))) (min hi (T.N j)) (P j)):Int)≠P j then 0 else
  if j=3 then 1 else if j+1=w then staD T N (3-j) j (T.sr j (min lo (min hi (T.N j))) (min hi (T.N j)) (P j)+1)-staD T N (3-j) j (T.sr j (min lo (min hi (T.N j))) (min hi (T.N j)) (P j))
  else cntD T N one w P m (j+1) (T.ch j (T.sr j (min lo (min hi (T.N j))) (min hi (T.N j)) (P j))).1 (T.ch j (T.sr j (min lo (min hi (T.N j))) (min hi (T.N j)) (P j))).2
section
variable {P:Nat→Int} {Q:Nat→Nat→Nat} {n:Nat}
theorem qrb {T:LvD} (hT:CanD T Q n):∀ {f k i:Nat},f+k=3→staD T n f k i=staT Q n f k i
 | 0,k,i,_=>rfl
 | f+1,k,i,hk=>by
  rw [staD,staT,hT.N k Oo]
  split
  ·rfl
  ·rename_i g
   rw [hT.ch k i Oo Oo,qrb hT Oo]
theorem q05 {T:LvD} (hT:CanD T Q n) {k a b x:Nat} (hk:k<4) (hab:a≤b) (hb:b≤leT Q k n) (hr:∀ i j,a≤i→i<j→j<b→(nuT Q k n).getD i 0<(nuT Q k n).getD j 0) (hx:P k=(x:Int)) :
  (a≤T.sr k a b (P k)∧T.sr k a b (P k)≤b)∧(T.sr k a b (P k)<b→T.nu k (T.sr k a b (P k))=(nuT Q k n).getD (T.sr k a b (P k)) 0)∧
  lvM P Q n k a b=if T.sr k a b (P k)<b∧(nuT Q k n).getD (T.sr k a b (P k)) 0=x then lvM P Q n k (T.sr k a b (P k)) (T.sr k a b (P k)+1) else []:=by
 have hnu:∀ e,e<b→T.nu k e=(nuT Q k n).getD e 0:=fun e he=>hT.nu k e hk Oo
 obtain ⟨s1,s2⟩:=T.sr_le k (P k) hab;obtain ⟨s3,s4⟩:=T.sr_spec k (P k) hab (by grind);exact ⟨⟨s1,s2⟩,(by grind),qs5 (P:=P) (n:=n) hk hx hr s1 s2 (by grind) (by grind)⟩
def WinT (Q:Nat→Nat→Nat) (n k a b:Nat):Prop:=a≤b∧b≤leT Q k n∧∀ i j,a≤i→i<j→j<b→(nuT Q k n).getD i 0<(nuT Q k n).getD j 0
theorem TOk.winT (h:TOk Q n):WinT Q n 0 0 (leT Q 0 n):=⟨Nat.zero_le _,Nat.le_refl _,fun _ _ _ h1 h2=>h.tops h1 h2⟩
theorem TOk.winC (h:TOk Q n) {k p:Nat} (hk:k+1<4):WinT Q n (k+1) (chT Q n k p) (chT Q n k (p+1)):=⟨qh8 k n Oo,qw8 k n _,fun _ _ h1 h2 h3=>h.sibs hk h1 h2 h3⟩
theorem q7z (h:TOk Q n) {T:LvD} (hT:CanD T Q n) (hP:∀ k,k<4→0≤P k):∀ {m k a b:Nat},m+k=3→WinT Q n k a b→
  (∃ i,finD T n P m k a b=(i,true)∧lvM P Q n k a b=[i]∧i<n)∨((finD T n P m k a b).2=false∧lvM P Q n k a b=[]):=by
 intro m
 induction m with
 | zero=>
  intro k a b hk hw;obtain rfl:k=3:=by omega
  obtain ⟨hab,hb,hr⟩:=hw;obtain ⟨x,hx⟩:∃ x:Nat,P 3=(x:Int):=⟨(P 3).toNat,by grind⟩
  obtain ⟨⟨s1,s2⟩,s3,s4⟩:=q05 hT Od hab hb hr hx;rw [finD,hT.N 3 Od,Nat.min_eq_left hb,Nat.min_eq_left hab]
  by_cases hc:T.sr 3 a b (P 3)<b∧(nuT Q 3 n).getD (T.sr 3 a b (P 3)) 0=x
  ·have hn:=s3 hc.1;have hlt:T.sr 3 a b (P 3)<n:=by have:=h.all znr;omega
   rw [if_neg (by rintro (g|g);exact absurd hc.1 Oo;exact g (by rw [hn,hc.2,hx]))];refine .inl ⟨_,rfl,?_,hlt⟩;rw [s4,if_pos hc,h.leaf hlt,if_pos (by rw [agB,hc.2,hx,decide_eq_true (p:=(x:Int)=(x:Int)) rfl,Bool.or_true])]
  grind
 | succ m ih=>
  intro k a b hk hw;obtain ⟨hab,hb,hr⟩:=hw;obtain ⟨x,hx⟩:∃ x:Nat,P k=(x:Int):=⟨(P k).toNat,by grind⟩
  obtain ⟨⟨s1,s2⟩,s3,s4⟩:=q05 hT Oo hab hb hr hx;rw [finD,hT.N k Oo,Nat.min_eq_left hb,Nat.min_eq_left hab]
  by_cases hc:T.sr k a b (P k)<b∧(nuT Q k n).getD (T.sr k a b (P k)) 0=x
  ·have hn:=s3 hc.1;rw [if_neg (by rintro (g|g);exact absurd hc.1 Oo;exact g (by rw [hn,hc.2,hx])),s4,if_pos hc,qqe Oo,if_pos (by rw [agB,hc.2,hx,decide_eq_true (p:=(x:Int)=(x:Int)) rfl,Bool.or_true])];rw [hT.ch k _ Oo Oo];exact ih Oo (h.winC Oo)
  grind
theorem q7m (h:TOk Q n) {T:LvD} (hT:CanD T Q n) {w one:Nat} (hw4:w≤4) (hP:∀ j,w≤j→j<4→P j<0):∀ {m j a b:Nat},j<w→m+j=w→WinT Q n j a b→(lvM P Q n j a b).length=one→cntD T n one w P m j a b=one:=by
 intro m
 induction m with
 | zero=>omega
 | succ m ih=>
  intro j a b hj hm hw ho;obtain ⟨hab,hb,hr⟩:=hw;rw [cntD,if_neg Oo]
  split
  ·rfl
  rename_i hneg
  obtain ⟨x,hx⟩:∃ x:Nat,P j=(x:Int):=⟨(P j).toNat,by omega⟩
  obtain ⟨⟨s1,s2⟩,s3,s4⟩:=q05 hT Oo hab hb hr hx;rw [hT.N j Oo,Nat.min_eq_left hb,Nat.min_eq_left hab]
  by_cases hc:T.sr j a b (P j)<b∧(nuT Q j n).getD (T.sr j a b (P j)) 0=x
  ·have hn:=s3 hc.1;rw [s4,if_pos hc] at ho;have hag:agB P j ((nuT Q j n).getD (T.sr j a b (P j)) 0)=true:=by grind [agB]
   rw [if_neg (by rintro (g|g);exact absurd hc.1 Oo;exact g (by rw [hn,hc.2,hx]))]
   by_cases h3:j=3
   ·subst h3;have hlt:T.sr 3 a b (P 3)<n:=by have:=h.all znr;omega
    rw [if_pos rfl,← ho,h.leaf hlt,if_pos hag];rfl
   ·rw [if_neg h3]
    by_cases hlast:j+1=w
    ·rw [if_pos hlast,qrb hT Oo,qrb hT Oo,h.sta _ Oo,h.sta _ Oo,← ho]
     grind [qzh]
    ·rw [if_neg hlast,hT.ch j _ Oo Oo];refine ih Oo Oo (h.winC Oo) ?_
     grind [qqe]
  grind
end
theorem TreeAt.nn {w:World} {b:Nat} {l:LB} (h:TreeAt w b l):∀ k,vNum l k≤1048576∨4≤k:=fun k=>by
 rcases Nat.lt_or_ge k 4 with g|g
 ·exact .inl (h.n k g)
 omega
theorem qkp (F:Nat→Int) {k:Nat} (hk:k<4):(idC F).toArray[k]?=some (ii (F k)):=by
 match k,hk with
 | 0,_=>rfl
 | 1,_=>rfl
 | 2,_=>rfl
 | 3,_=>rfl
def VmOk (l:LB):Prop:=∀ k,k<3→tVec l (k+1)=true→vM (qe l (k+1))≤vN (qe l (k+1))
theorem qep (b:Nat) (l:LB) (k i:Nat) (w:World) (h:TreeAt w b l) (hvm:VmOk l) (hk:k≤3) (hi:i≤1048576) :
  Gv Tryz.prog 130 [pp b,ii k,ii i] w fun r w'=>r=ii (staD (treD l) (vNum l 3) (3-k) k i:Nat)∧Ext w w':=by
 have t8:tsz Tryz.prog 244=8:=by kernel_rfl
 obtain ⟨R,eR⟩:∃ R:Nat,R=staD (treD l) (vNum l 3) (3-k) k i:=⟨_,rfl⟩
 rw [← eR];refine ze Tryz.func130 Tryz.ntmps130 ?_;refine qm (fun x:Nat × Nat=>[(0,pp b),(1,ii x.1),(2,ii x.2)]) (fun x w'=>x.1≤3∧x.2≤1048576∧R=staD (treD l) (vNum l 3) (3-x.1) x.1 x.2∧Ext w w') (fun x=>3-x.1) (k,i) ⟨rfl,rfl,rfl,trivial⟩ ⟨hk,hi,eR,Ext.refl w⟩ ?_;clear hk hi eR;rintro ⟨k,i⟩ w1 ρ' ⟨hk,hi,eR,he⟩;dsimp only at hk hi eR he ⊢;have hn:=h.n 3 Od
 rcases Nat.lt_or_ge k 3 with hk3|hk3
 case inr=>
  obtain rfl:k=3:=by omega
  refine zu ?_;refine zcv (qge b l w1 (h.ext he)) ?_;rintro r w2 ⟨rfl,rfl⟩;(conv=>whnf);refine V.Fall.min2 rfl rfl rfl fun m hm=>?_;(conv=>whnf);refine ⟨?_,he⟩;rw [eR,hm];show ii (min (i:Int) (vNum l 3:Int))=ii ((min i (vNum l 3):Nat):Int)
  grind
 obtain ⟨PP,cp,S,cs,VV,hc,_⟩:=((h.ext he).lv k Oo).h;have hnk:=h.n k Oo;have esub:3-k=(3-(k+1))+1:=by omega
 rw [esub,staD] at eR;have eN:(treD l).N k=vNum l k:=rfl;rw [eN] at eR;have ech:(treD l).ch k i=chB l k i:=rfl;rw [ech] at eR;refine zu ?_;refine LoadV.cellsE hc 0 (by grind) rfl (zw ?_);refine zC (fun _=>zw ?_) (fun _=>zw ?_)
 case refine_1=>
  rw [if_pos Oo] at eR;refine zcv (qge b l w1 (h.ext he)) ?_;rintro r w2 ⟨rfl,rfl⟩;conv=>whnf
  simp_all
 rw [if_neg Oo] at eR;refine zcv (qch b l k i w1 (h.ext he) Oo hi (hvm k Oo)) ?_;rintro r w2 ⟨rfl,he2⟩;have hch:=qsa (i:=i) h.nn Oo (hvm k Oo);refine zu ?_;exact ⟨(k+1,(chB l k i).1),⟨rfl,congrArg (Value.int .i64) Oo,rfl,trivial⟩,⟨by omega,hch.1,eR,he.trans he2⟩,by omega⟩
def tfin (l:LB) (F:Nat→Int):Nat × Bool:=finD (treD l) (vNum l 3) F 3 0 0 (vNum l 0)
theorem q1c (b:Nat) (l:LB) (F:Nat→Int) (w:World) (h:TreeAt w b l) (hvm:VmOk l) :
  Gv Tryz.prog 75 [pp b,.agg #[ii (F 0),ii (F 1),ii (F 2),ii (F 3)]] w fun r w'=>r=.tuple #[ii (tfin l F).1,.bool (tfin l F).2]∧Ext w w':=by
 have t8:tsz Tryz.prog 244=8:=by kernel_rfl
 have t1:tsz Tryz.prog 3=1:=by kernel_rfl
 obtain ⟨R,eR⟩:∃ R:Nat × Bool,R=tfin l F:=⟨_,rfl⟩
 rw [← eR];rw [tfin] at eR;refine ze Tryz.func75 Tryz.ntmps75 ?_;refine znm (Mem.nil w) ?_;intro qb w1 hm;have hm:Mem w w1 [(qb,.cells (idC F).toArray 95)]:=hm;(conv=>whnf);refine DrawV.free Jk Jk (zw ?_);(iterate 3 (refine zd ?_));refine zf ?_ (by intro wd hd;(conv=>whnf);refine zJ 0 ?_;(conv=>whnf);exact ⟨xr,rfl⟩);refine zd ?_;refine zsd (ii (vNum l 0:Nat)) (fun wd hd=>zw ?_) (zw ?_)
 ·obtain ⟨PP,cp,S,cs,VV,hc,_⟩:=((h.ext hm.ext).lv 0 Oo).h;refine LoadV.cellsE (hc.ext (Ext.trans (Ext.drew xr) hd)) 0 Js rfl (zw ?_);exact ⟨xr,rfl⟩
 refine zd ?_;refine zd ?_;intro w2 he2;replace hm:=hm.drew.call he2;(conv=>whnf);refine qm (fun x:Nat × Nat × Nat=>[(0,pp b),(3,pp qb),(6,ii x.2.1),(7,ii x.2.2),(17,ii x.1)])
  (fun x w'=>x.1≤3∧x.2.1≤1048576∧x.2.2≤1048576∧R=finD (treD l) (vNum l 3) F (3-x.1) x.1 x.2.1 x.2.2∧Mem w w' [(qb,.cells (idC F).toArray 95)]) (fun x=>3-x.1) (0,0,vNum l 0)
  ⟨rfl,rfl,rfl,rfl,rfl,trivial⟩ ⟨Nat.zero_le _,Nat.zero_le _,h.n 0 Od,eR,hm⟩ ?_
 clear hm eR;rintro ⟨k,lo,hi⟩ w3 ρ' ⟨hk,hlo,hhi,eR,hm⟩;dsimp only at hk hlo hhi eR hm ⊢;have hk4:k<4:=by omega
 have hnk:=h.n k hk4;have hwd:=h.wd k hk4;obtain ⟨PP,cp,S,cs,VV,hc,hPP,_⟩:=((h.ext hm.ext).lv k hk4).h;obtain ⟨H,eH⟩:∃ H,H=min hi (vNum l k):=⟨_,rfl⟩
 obtain ⟨L,eL⟩:∃ L,L=min lo H:=⟨_,rfl⟩
 have eN:(treD l).N k=vNum l k:=rfl;have hoff:0+0+k*tsz Tryz.prog 244=8*k:=by rw [t8];omega
 refine zu ?_;refine LoadV.cellsE hc 0 Oo rfl (zw ?_);refine V.Fall.min2 rfl rfl rfl fun m hm1=>?_;obtain rfl:m=(H:Int):=by omega
 (conv=>whnf);refine V.Fall.min2 rfl rfl rfl fun m hm2=>?_;obtain rfl:m=(L:Int):=by omega
 refine zu ?_;refine LoadV.mem hm (i:=0) rfl (by rw [t1,show 0+k*1=k by omega];exact qkp F hk4) (zw ?_);have h1:w3.cell? ⟨b,(0+0+k*tsz Tryz.prog 244)+1,none⟩=some (ii (tw l k:Nat)):=by rw [hoff];exact hc 1 _ rfl
 have h5:w3.cell? ⟨b,(0+0+k*tsz Tryz.prog 244)+5,none⟩=some (.slice PP (qg l k).length cp):=by rw [hoff];exact hc 5 _ rfl
 refine zcv (qfj b _ L H (tw l k) cp (F k) PP (qg l k) w3 h1 h5 hPP hwd Oo Oo) ?_;rintro r w4 ⟨rfl,he4⟩;replace hm:=hm.call he4;have hel:=(treD l).sr_le k (F k) (show L≤H by omega);obtain ⟨e,ee⟩:∃ e,e=(treD l).sr k L H (F k):=⟨_,rfl⟩
 have ev:(L+bsr (fun i=>decide (F k≤(numP (qg l k) (tw l k) (L+i):Int))) (H-L) 0 (H-L))=e:=ee.symm;rw [ev];rw [← ee] at hel;have hnu:(treD l).nu k e=numP (qg l k) (tw l k) e:=rfl;have ech:(treD l).ch k e=chB l k e:=rfl;unfold finD at eR;rw [eN,← eH,← eL,← ee,hnu,ech] at eR;have hx:∀ wd,Ext w4.drew wd→Ext w3 wd:=fun wd hd=>he4.trans ((Ext.refl w4).drew.trans hd)
 (conv=>whnf);refine DrawV.free Jk Jk (zw ?_);(iterate 4 (refine zd ?_))
 rcases Nat.lt_or_ge e H with heb|heb
 case inr=>
  rw [if_pos (.inl heb)] at eR;have hd:(decide ((H:Int)≤(e:Int)))=true:=(by grind)
  rw [hd];(iterate 8 (refine zd ?_));intro w5 he5;replace hm:=hm.drew.call he5;refine zu ?_;refine zcv (qep b l k e w5 (h.ext hm.ext) hvm hk Oo) ?_;rintro r w6 ⟨rfl,he6⟩;(conv=>whnf);exact ⟨by rw [eR],hm.ext.trans he6⟩
 have hd:(decide ((H:Int)≤(e:Int)))=false:=(by grind)
 rw [hd];refine zd ?_;refine zd ?_;apply zsd (ii (numP (qg l k) (tw l k) e:Nat))
 ·intro wd hd;refine zu ?_;have hxx:=hx wd hd;refine zcv (qbu b _ e (tw l k) cp PP (qg l k) wd (hxx.cell h1) (hxx.cell h5) (hPP.ext hxx) hwd Oo) ?_
  simp_all
 (conv=>whnf);refine zd ?_;apply zsd (.pointer (some ⟨qb,k,none⟩))
 ·intro wd hd;refine zu ?_
  grind [Ext.refl]
 (conv=>whnf);apply zsd (ii (F k))
 ·intro wd hd;refine zu ?_;refine LoadV.own (Ext.get (Ext.trans (Ext.drew xr) hd) (hm.get (List.mem_singleton.2 rfl))) (qkp F hk4) (zw ?_);exact ⟨xr,rfl⟩
 (conv=>whnf);refine zd ?_;refine zd ?_;intro w5 he5;replace hm:=hm.drew.call he5
 rcases Classical.em (((numP (qg l k) (tw l k) e:Nat):Int)=F k) with hnx|hnx
 case inr=>
  rw [if_pos (.inr hnx)] at eR;refine zu ?_;refine zcv (qep b l k e w5 (h.ext hm.ext) hvm hk Oo) ?_;rintro r w6 ⟨rfl,he6⟩;(conv=>whnf);exact ⟨by rw [eR],hm.ext.trans he6⟩
 rw [if_neg (by rintro (g|g);omega;exact g hnx)] at eR
 rcases Nat.lt_or_ge k 3 with hk3|hk3
 case inr=>
  obtain rfl:k=3:=by omega
  refine zu ?_;exact ⟨by rw [eR];rfl,hm.ext⟩
 obtain ⟨m,em⟩:∃ m,3-k=m+1:=⟨3-(k+1),by omega⟩
 rw [em] at eR;dsimp only at eR;obtain rfl:m=3-(k+1):=by omega
 have hch:=qsa (i:=e) h.nn Oo (hvm k hk3);refine zu ?_;refine zcv (qch b l k e w5 (h.ext hm.ext) Oo Oo (hvm k hk3)) ?_;rintro r w6 ⟨rfl,he6⟩;refine zu ?_;exact ⟨(k+1,(chB l k e).1,(chB l k e).2),⟨rfl,rfl,rfl,rfl,congrArg (Value.int .i64) Oo,trivial⟩,⟨by omega,hch.1,hch.2,eR,hm.call he6⟩,by omega⟩
theorem V.RowX.capd {e:TypeId} {size n:Nat} {v:Value} {xs:List Value} {Y:List (Nat × Obj)} (h:RowX e size v n xs Y):∃ A c,v=.slice A n c∧n≤c∧(n=0∨∃ g,A=some ⟨g,0,none⟩):=by
 obtain ⟨_,⟨rfl,rfl,_⟩|⟨g,cap,cur,rfl,_,h3,_⟩⟩:=h
 all_goals grind
theorem V.RowX.cells {α:Type} {enc:α→List Value} {e sz:Nat} (henc:∀ x,(enc x).length=sz) {g c:Nat} {l:List α} {Y:List (Nat × Obj)} {w:World} (h:RowX e sz (.slice (some ⟨g,0,none⟩) l.length c) l.length (l.map enc).flatten Y) (hY:∀ x∈Y,w.heap[x.1]?=some x.2) :
  ∀ (i:Nat) (x:α),l[i]?=some x→CellsAt w g (0+i*sz) (enc x):=by
 intro i x hi k u hu;obtain ⟨_,⟨h1,_⟩|⟨g',cap,cur,h1,rfl,_,_,_,h5⟩⟩:=h
 ·simp_all
 injection h1 with h1 _ _
 injection h1 with h1
 injection h1 with h1
 subst h1;have hk:k<sz:=by
  grind
 have hil:=(List.getElem?_eq_some_iff.1 hi).1;have hfl:=qbw enc sz henc l i x k hi hk;have hb:(i+1)*sz≤l.length*sz:=Nat.mul_le_mul_right _ hil;rw [← h5,List.getElem?_take,if_pos (by rw [Nat.succ_mul] at hb;omega),hu] at hfl;rw [qa (hY _ (List.mem_singleton.2 rfl)),Nat.zero_add]
 simpa using hfl
theorem qc9 (w0:World):Carr fun X w=>Mem w0 w X:=
 ⟨fun h he=>h.call he,fun h hx=>h.get hx,fun _ h=>h.new rfl rfl,fun o' h=>h.setO (i:=0) o' rfl rfl,fun h=>h.sub Js,fun h hp=>h.perm hp.symm⟩
theorem V.RowX.sl {α:Type} {enc:α→List Value} {e sz n:Nat} {v:Value} (henc:∀ x,(enc x).length=sz) {l:List α} {Y:List (Nat × Obj)} {w:World} (h:RowX e sz v n (l.map enc).flatten Y) (hn:l.length=n) (hY:∀ x∈Y,w.heap[x.1]?=some x.2) :
  ∃ A c,v=.slice A n c∧n≤c∧SlAt enc sz w A l:=by
 subst hn;obtain ⟨A,c,rfl,hc,hg⟩:=V.RowX.capd h;refine ⟨A,c,rfl,hc,⟨fun hne=>?_⟩⟩
 grind [V.RowX.cells]
namespace V
section
variable {J:List (Nat × Obj)→World→Prop} {W Y:List (Nat × Obj)} {o:Obj} {R R2:Value→List (Nat × Obj)→Prop} {s1 s2 s3:Bool} {v u x:Value} {w:World}
end
end V
def wilF (P:Nat→Int):Nat→Nat
 | 0=>0
 | k+1=>if P k<0 then wilF P k else k+1
theorem qrr (P:Nat→Int):∀ k,wilF P k≤k
 | 0=>Nat.le_refl _
 | k+1=>by
  have:=qrr P k;rw [wilF]
  split<;>omega
theorem qm9 {P:Nat→Int}:∀ {k j:Nat},wilF P k≤j→j<k→P j<0
 | 0,j,_,h=>Oo
 | k+1,j,h1,h2=>by
  rw [wilF] at h1
  split at h1
  ·rename_i hn
   rcases Nat.lt_or_ge j k with g|g
   ·exact qm9 h1 g
   ·obtain rfl:j=k:=by omega
    exact hn
  ·omega
theorem q1d (P:Nat→Int) (w:World):Gv Tryz.prog 126 [.agg #[ii (P 0),ii (P 1),ii (P 2),ii (P 3)]] w fun r w'=>r=ii (wilF P 4:Nat)∧Ext w w':=by
 have t1:tsz Tryz.prog 3=1:=by kernel_rfl
 obtain ⟨R,eR⟩:∃ R,R=wilF P 4:=⟨_,rfl⟩
 rw [← eR];refine ze Tryz.func126 Tryz.ntmps126 ?_;refine znm (Mem.nil w) ?_;intro qb w1 hm;have hm:Mem w w1 [(qb,.cells (idC P).toArray 95)]:=hm;(conv=>whnf);refine qm (fun k:Nat=>[(1,pp qb),(3,ii k)]) (fun k w'=>k≤4∧R=wilF P k∧Mem w w' [(qb,.cells (idC P).toArray 95)]) (fun k=>k) 4 ⟨rfl,rfl,trivial⟩ ⟨Nat.le_refl _,eR,hm⟩ ?_;clear hm eR;rintro k w2 ρ' ⟨hk,eR,hm⟩
 rcases Nat.eq_zero_or_pos k with h0|h0
 case inl=>
  subst h0;refine zu ?_;exact ⟨by rw [eR];rfl,hm.ext⟩
 obtain ⟨m,rfl⟩:∃ m,k=m+1:=⟨k-1,by omega⟩
 rw [wilF] at eR;refine zu ?_;refine IdxV.at_ m Oo Oo (zu ?_);refine LoadV.own (hm.get (List.mem_singleton.2 rfl)) (by rw [t1,show 0+m*1=m by omega];exact qkp P Oo) ?_
 rcases Int.lt_or_le (P m) 0 with hn|hn
 ·rw [if_pos hn] at eR;refine zu ?_;exact ⟨m,⟨rfl,congrArg (Value.int .i64) Oo,trivial⟩,(by grind),by omega⟩
 ·rw [if_neg Oo] at eR;refine zu ?_;exact ⟨by rw [eR],hm.ext⟩
def tcnt (l:LB) (P:Nat→Int):Nat:=cntD (treD l) (vNum l 3) (tmaR l P).length (wilF P 4) P (wilF P 4) 0 0 (vNum l 0)
theorem qra (T:LvD) (N:Nat):∀ (f k i:Nat),staD T N f k i≤N
 | 0,k,i=>Nat.min_le_right ..
 | f+1,k,i=>by
  rw [staD]
  split
  ·exact Nat.le_refl _
  ·exact qra T N f _ _
theorem q43 {Q:Nat→Nat→Nat} {n:Nat} (h:TOk Q n) (P:Nat→Int):tcnt (ql Q n) P=(maT P Q 0 0 n).length:=by
 have h3:vNum (ql Q n) 3=n:=by rw [h.vNum Od,h.all Oo]
 have hl:(tmaR (ql Q n) P).length=(maT P Q 0 0 n).length:=by rw [← h.mtch (q:=fun _=>0),List.length_map];rfl
 rw [tcnt,hl,h3]
 rcases Nat.eq_zero_or_pos (wilF P 4) with h0|h0
 ·rw [h0,cntD,qhq Od (fun j _ hj=>qm9 Oo hj)];rfl
 ·refine q7m h h.canD (qrr P 4) (by grind [qm9]) h0 Oo ?_ ?_
  ·rw [h.vNum Od];exact h.winT
  ·rw [h.vNum Od];exact congrArg List.length h.lvM_all
theorem qwd (b:Nat) (l:LB) (P:Nat→Int) (w:World) (h:TreeAt w b l) (hvm:VmOk l) (hP:∀ k,k<4→InR .i64 (P k)) (hlen:(tmaR l P).length≤1048576) :
  Gv Tryz.prog 62 [pp b,.agg #[ii (P 0),ii (P 1),ii (P 2),ii (P 3)]] w fun r w'=>r=ii (tcnt l P:Nat)∧Ext w w':=by
 have t8:tsz Tryz.prog 244=8:=by kernel_rfl
 have t1:tsz Tryz.prog 3=1:=by kernel_rfl
 obtain ⟨W,eW⟩:∃ W,W=wilF P 4:=⟨_,rfl⟩
 have hW4:W≤4:=by grind [qrr]
 obtain ⟨Z,eZ⟩:∃ Z,Z=(tmaR l P).length:=⟨_,rfl⟩
 obtain ⟨R,eR⟩:∃ R:Nat,R=tcnt l P:=⟨_,rfl⟩
 rw [← eR];rw [tcnt,← eW,← eZ] at eR;have h3:=h.n 3 Od;refine gvW Jk Tryz.func62 rfl Tryz.ntmps62 rfl (zw ?_);refine znm (Mem.nil w) ?_;intro qb w1 hm;obtain ⟨qo,eqo⟩:∃ qo:Obj,qo=.cells (idC P).toArray 95:=⟨_,rfl⟩
 have hm:Mem w w1 [(qb,qo)]:=by rw [eqo];exact hm
 have hgq:∀ L w',Mem w w' (L++[(qb,qo)])→w'.heap[qb]?=some (.cells (idC P).toArray 95):=fun L w' h=>by rw [← eqo];exact h.get (List.mem_append_right _ (List.mem_singleton.2 rfl))
 (conv=>whnf);refine LoadA.own (hgq [] _ hm) rfl (zw ?_);refine zcv (q1d P w1) ?_;rintro r w2 ⟨rfl,he2⟩;rw [← eW];replace hm:=hm.call he2;(conv=>whnf);refine DrawW.any Jk (.inl rfl) (AnyV.free Jk ?_);(conv=>whnf);(iterate 3 (refine zd ?_));refine zf ?_ (by intro wd hd;(conv=>whnf);refine zJ 0 ?_;(conv=>whnf);exact ⟨xr,rfl⟩);refine zd ?_;refine zsd (ii (vNum l 0:Nat)) (fun wd hd=>zw ?_) (zw ?_)
 ·obtain ⟨PP,cp,S,cs,VV,hc,_⟩:=((h.ext hm.ext).lv 0 Oo).h;refine LoadV.cellsE (hc.ext (Ext.trans (Ext.drew xr) hd)) 0 Js rfl (zw ?_);exact ⟨xr,rfl⟩
 refine zd ?_;refine zd ?_;intro w3 he3;replace hm:=hm.drew.call he3;(conv=>whnf);refine qza (fun x:Nat × Nat × Nat=>[(0,pp b),(3,pp qb),(5,ii W),(6,ii x.2.1),(7,ii x.2.2),(20,ii W),(21,ii x.1)])
  (fun x w'=>x.1≤W∧x.2.1≤1048576∧x.2.2≤1048576∧R=cntD (treD l) (vNum l 3) Z W P (W-x.1) x.1 x.2.1 x.2.2∧Mem w w' [(qb,qo)]) (fun x=>W-x.1) (0,0,vNum l 0)
  ⟨rfl,rfl,rfl,rfl,rfl,rfl,rfl,trivial⟩ ⟨Nat.zero_le _,Nat.zero_le _,h.n 0 Od,eR,hm⟩ ?_
 clear hm eR;rintro ⟨k,lo,hi⟩ w4 ρ' ⟨hk,hlo,hhi,eR,hm⟩;dsimp only at hk hlo hhi eR hm ⊢
 rcases Nat.lt_or_ge k W with hkW|hkW
 case inr=>
  obtain rfl:k=W:=by omega
  rw [Nat.sub_self,cntD] at eR;refine zu ?_;refine zcv (qge b l w4 (h.ext hm.ext)) ?_;rintro r w5 ⟨rfl,rfl⟩;(conv=>whnf);exact ⟨by rw [eR],hm.ext⟩
 have hk4:k<4:=by omega
 have hnk:=h.n k hk4;have hwd:=h.wd k hk4;obtain ⟨PP,cp,S,cs,VV,hc,hPP,_⟩:=((h.ext hm.ext).lv k hk4).h;obtain ⟨m,em⟩:∃ m,W-k=m+1:=⟨W-(k+1),by omega⟩
 rw [em,cntD,if_neg Oo] at eR;refine zu ?_;refine LoadV.own (hgq [] _ hm) (by rw [t1,show 0+k*1=k by omega];exact qkp P hk4) ?_
 rcases Int.lt_or_le (P k) 0 with hn|hn
 case inl=>
  rw [if_pos hn] at eR;refine zu ?_;have cM:=qc9 w;refine NewV.carr cM hm fun nb w5 hm=>zw ?_;refine StoreV.carr cM (A:=[]) hm Js rfl ?_;clear hm;intro w6 hm;have hm:Mem w w6 ([(nb,.cells #[ii 0] 3)]++[(qb,qo)]):=hm;(conv=>whnf);refine LoadA.own (hgq _ _ hm) rfl (zw ?_);refine zcv (qk7 b P w6) ?_;rintro r w7 ⟨c1,c2,rfl,hm7⟩;replace hm:=cM.call hm hm7;obtain ⟨L,hL⟩:∃ L:List (Nat × Obj),L=[(c2,.cells #[ii (P 0),ii (P 1),ii (P 2),ii (P 3)] 95),(c1,.cells #[pp b] 141)]:=⟨_,rfl⟩
  have hm:Mem w w7 ([]++((nb,.cells #[ii (0:Nat)] 3)::(L++[(qb,qo)]))):=by
   rw [hL];refine hm.perm ?_
   simpa using (List.perm_middle (a:=(nb,Obj.cells #[ii 0] 3)) (l₁:=[(c2,Obj.cells #[ii (P 0),ii (P 1),ii (P 2),ii (P 3)] 95),(c1,Obj.cells #[pp b] 141)]) (l₂:=[(qb,qo)])).symm
  have hL1:(c1,Obj.cells #[pp b] 141)∈L:=by rw [hL];simp
  have hL2:(c2,Obj.cells #[ii (P 0),ii (P 1),ii (P 2),ii (P 3)] 95)∈L:=by rw [hL];simp
  have htl:((tmaR l P).map mRow).length=Z:=by simp_all
  have cJ:∀ k:Nat,Carr fun X w'=>Mem w w' (X++((nb,.cells #[ii k] 3)::(L++[(qb,qo)]))):=fun k=>cM.tail _
  (conv=>whnf);refine qtl (Φ:=fun w=>TmaΦ b l c1 c2 w∧q63 P c2 w) (lb:=[pp c1,pp c2]) (xs:=(tmaR l P).map mRow) rfl Jk (qk8 b l P c1 c2 hvm hP) Od ?_
   (fun k X w'=>Mem w w' (X++((nb,.cells #[ii k] 3)::(L++[(qb,qo)])))) (fun c k X w'=>False∧Mem w w' (X++((nb,.cells #[ii k] 3)::(L++[(qb,qo)]))))
   cJ (fun c k=>Carr.and (cJ k))
   (fun k X w' hh=>⟨⟨h.ext hh.ext,by rw [qa (hh.get (List.mem_append_right _ (zmc (List.mem_append_left _ hL1))))];rfl⟩,fun j v hv=>by rw [qa (hh.get (List.mem_append_right _ (zmc (List.mem_append_left _ hL2)))),Nat.zero_add,← hv];simp⟩) hm ?_ ?_ ?_
  ·intro r hr;obtain ⟨j,_,rfl⟩:=List.mem_map.1 hr;rfl
  ·rintro l2 D od k2 r X w8 w9 hr hJ;have hk2:k2<Z:=by grind
   rw [List.getElem?_map] at hr;cases hrow:(tmaR l P)[k2]? with
   | none=>simp_all
   | some row=>
   rw [hrow,Option.map_some,Option.some.injEq] at hr;subst hr;(conv=>whnf);refine ⟨rfl,rfl,?_⟩;(conv=>whnf);refine LoadV.own (hJ.get (List.mem_append_right ((l2,od)::(D,.deferred (some []))::X) mh)) rfl (zu ?_);refine StoreV.carr cM (A:=(l2,od)::(D,.deferred (some []))::X) hJ Js rfl fun w10 hJ=>zw ?_;exact hJ
  ·rintro D w8 hJ;rw [htl] at hJ;(conv=>whnf);refine LoadV.own (hJ.get (List.mem_append_right _ mh)) rfl (zw ?_);refine LeaveV.marks (J:=fun X w'=>Mem w w' (X++((nb,.cells #[ii Z] 3)::(L++[(qb,qo)])))) (cJ Z) ?_ (D:=D) (Ds:=[]) hJ;intro w' h';(conv=>whnf);exact ⟨by rw [eR],h'.ext⟩
  simp
 rw [if_neg Oo] at eR;obtain ⟨H,eH⟩:∃ H,H=min hi (vNum l k):=⟨_,rfl⟩
 obtain ⟨L,eL⟩:∃ L,L=min lo H:=⟨_,rfl⟩
 have eN:(treD l).N k=vNum l k:=rfl;have hoff:0+0+k*tsz Tryz.prog 244=8*k:=by rw [t8];omega
 refine zu ?_;refine LoadV.cellsE hc 0 Oo rfl (zw ?_);refine V.Fall.min2 rfl rfl rfl fun m hm1=>?_;obtain rfl:m=(H:Int):=by omega
 (conv=>whnf);refine V.Fall.min2 rfl rfl rfl fun m hm2=>?_;obtain rfl:m=(L:Int):=by omega
 refine zu ?_;refine LoadV.own (hgq [] _ hm) (by rw [t1,show 0+k*1=k by omega];exact qkp P hk4) (zw ?_);have h1:w4.cell? ⟨b,(0+0+k*tsz Tryz.prog 244)+1,none⟩=some (ii (tw l k:Nat)):=by rw [hoff];exact hc 1 _ rfl
 have h5:w4.cell? ⟨b,(0+0+k*tsz Tryz.prog 244)+5,none⟩=some (.slice PP (qg l k).length cp):=by rw [hoff];exact hc 5 _ rfl
 refine zcv (qfj b _ L H (tw l k) cp (P k) PP (qg l k) w4 h1 h5 hPP hwd Oo Oo) ?_;rintro r w5 ⟨rfl,he5⟩;replace hm:=hm.call he5;have hel:=(treD l).sr_le k (P k) (show L≤H by omega);obtain ⟨e,ee⟩:∃ e,e=(treD l).sr k L H (P k):=⟨_,rfl⟩
 have ev:(L+bsr (fun i=>decide (P k≤(numP (qg l k) (tw l k) (L+i):Int))) (H-L) 0 (H-L))=e:=ee.symm;rw [ev];rw [← ee] at hel;have hnu:(treD l).nu k e=numP (qg l k) (tw l k) e:=rfl;have ech:(treD l).ch k e=chB l k e:=rfl;rw [eN,← eH,← eL,← ee,hnu,ech] at eR;have hx:∀ wd,Ext w5.drew wd→Ext w4 wd:=fun wd hd=>he5.trans ((Ext.refl w5).drew.trans hd)
 (conv=>whnf);refine DrawW.any Jk (.inl rfl) (AnyV.free Jk ?_);(conv=>whnf);(iterate 4 (refine zd ?_))
 rcases Nat.lt_or_ge e H with heb|heb
 case inr=>
  rw [if_pos (.inl heb)] at eR;have hd:(decide ((H:Int)≤(e:Int)))=true:=(by grind)
  rw [hd];(iterate 8 (refine zd ?_));intro w6 he6;replace hm:=hm.drew.call he6;refine zu ?_;exact ⟨by rw [eR];rfl,hm.ext⟩
 have hd:(decide ((H:Int)≤(e:Int)))=false:=(by grind)
 rw [hd];refine zd ?_;refine zd ?_;apply zsd (ii (numP (qg l k) (tw l k) e:Nat))
 ·intro wd hd;refine zu ?_;have hxx:=hx wd hd;refine zcv (qbu b _ e (tw l k) cp PP (qg l k) wd (hxx.cell h1) (hxx.cell h5) (hPP.ext hxx) hwd Oo) ?_
  grind
 (conv=>whnf);refine zd ?_;apply zsd (.pointer (some ⟨qb,k,none⟩))
 ·intro wd hd;refine zu ?_
  grind [Ext.refl]
 (conv=>whnf);apply zsd (ii (P k))
 ·intro wd hd;refine zu ?_;refine LoadV.own (Ext.get (Ext.trans (Ext.drew xr) hd) (hgq [] _ hm)) (qkp P hk4) (zw ?_);exact ⟨xr,rfl⟩
 (conv=>whnf);refine zd ?_;refine zd ?_;intro w6 he6;replace hm:=hm.drew.call he6
 rcases Classical.em (((numP (qg l k) (tw l k) e:Nat):Int)=P k) with hnx|hnx
 case inr=>
  rw [if_pos (.inr hnx)] at eR;refine zu ?_;exact ⟨by rw [eR];rfl,hm.ext⟩
 rw [if_neg (by rintro (g|g);omega;exact g hnx)] at eR
 rcases Nat.lt_or_ge k 3 with hk3|hk3
 case inr=>
  obtain rfl:k=3:=by omega
  rw [if_pos rfl] at eR;refine zu ?_;exact ⟨by rw [eR];rfl,hm.ext⟩
 rw [if_neg Oo] at eR
 rcases Classical.em (k+1=W) with hlast|hlast
 case inl=>
  rw [if_pos hlast] at eR;refine zu ?_;refine zcv (qep b l k (e+1) w6 (h.ext hm.ext) hvm Oo Oo) ?_;rintro r w7 ⟨rfl,he7⟩;replace hm:=hm.call he7;obtain ⟨y1,ey1⟩:∃ y1,y1=staD (treD l) (vNum l 3) (3-k) k (e+1):=⟨_,rfl⟩
  obtain ⟨y0,ey0⟩:∃ y0,y0=staD (treD l) (vNum l 3) (3-k) k e:=⟨_,rfl⟩
  have hy1:=qra (treD l) (vNum l 3) (3-k) k (e+1);have hy0:=qra (treD l) (vNum l 3) (3-k) k e;rw [← ey1] at hy1 eR ⊢;rw [← ey0] at hy0 eR;(conv=>whnf);refine zcv (qep b l k e w7 (h.ext hm.ext) hvm Oo Oo) ?_;rintro r w8 ⟨rfl,he8⟩;rw [← ey0];replace hm:=hm.call he8;refine zu ?_;refine V.Fall.max2 rfl rfl rfl fun m hmx=>?_
  (conv=>whnf);exact ⟨by grind,hm.ext⟩
 rw [if_neg hlast] at eR;obtain rfl:m=W-(k+1):=by omega
 have hch:=qsa (i:=e) h.nn Oo (hvm k hk3);refine zu ?_;refine zcv (qch b l k e w6 (h.ext hm.ext) Oo Oo (hvm k hk3)) ?_;rintro r w7 ⟨rfl,he7⟩;refine zu ?_;exact ⟨rfl,(k+1,(chB l k e).1,(chB l k e).2),⟨rfl,rfl,rfl,rfl,rfl,rfl,congrArg (Value.int .i64) Oo,trivial⟩,⟨by omega,hch.1,hch.2,eR,hm.call he7⟩,by omega⟩
structure GlobS (w:World):Prop where
 M:MaxLenAt w
 T:CellsAt w 4 0 qa6
 K:qip w
theorem GlobS.ext {w w':World} (h:GlobS w) (he:Ext w w'):GlobS w':=⟨h.M.ext he,CellsAt.ext h.T he,CellsAt.ext h.K he⟩
def sRow (qs:List Q4) (i:Nat):List Value:=[ii i,qq (qs.getD i zQ)]
structure IdxE (w:World) (x pb vb tb:Nat) (l:LB):Prop where
 c:w.cell? ⟨x,0,none⟩=some (pp pb)
 b:w.heap[pb]?=some (.cells #[ii (hN l 2),ii (hN l 3),ii (hN l 4),ii (hN l 5),pp vb,pp tb] 241)
 v:VocAt w vb (qn l)
 t:TreeAt w tb (qr l)
theorem IdxE.ext {w w':World} {x pb vb tb:Nat} {l:LB} (h:IdxE w x pb vb tb l) (he:Ext w w'):IdxE w' x pb vb tb l:=⟨he.cell h.c,he.get h.b,h.v.ext he,h.t.ext he⟩
theorem IdxE.pk {w:World} {x pb vb tb:Nat} {l:LB} (h:IdxE w x pb vb tb l):PackAt w pb l:=⟨vb,tb,h.b,h.v,h.t⟩
theorem IdxE.at_ {w:World} {x pb vb tb:Nat} {l:LB} (h:IdxE w x pb vb tb l):IdxAt w x l:=⟨pb,h.c,h.pk⟩
theorem qdq (b tb:Nat) (a0 a1 a2 a3 a4:Value) (w:World) (h:w.heap[b]?=some (.cells #[a0,a1,a2,a3,a4,pp tb] 241)):Gv Tryz.prog 61 [pp b] w fun v w'=>v=pp tb∧w'=w:=by
 refine ze Tryz.func61 Tryz.ntmps61 ?_;refine LoadV.own h rfl (zw ?_);exact ⟨rfl,rfl⟩
structure SmaΦ (x pb vb tb:Nat) (T:List TM) (qs:List Q4) (p:Q4) (b1 b2:Nat) (w:World):Prop where
 X:IdxE w x pb vb tb (encP T qs)
 G:GlobS w
 c1:w.cell? ⟨b1,0,none⟩=some (pp x)
 c2:CellsAt w b2 0 (qd p)
theorem qhi (x:Nat) (p:Q4) (w:World):Gv Tryz.prog 63 [pp x,qq p] w fun r w'=>
  ∃ b1 b2,r=.func (.func 132) #[] #[pp b1,pp b2]∧Mem w w' [(b2,.cells (qd p).toArray 47),(b1,.cells #[pp x] 26)]:=by
 refine ze Tryz.func63 Tryz.ntmps63 ?_;refine znm (Mem.nil w) fun b1 w1 hm=>zw ?_;refine znm hm fun b2 w2 hm=>zw ?_;exact ⟨b1,b2,rfl,hm⟩
section
variable {T:List TM} {qs:List Q4} (h:EncOk T qs)
include h
theorem EncOk.pq {i:Nat} {q:Q4} (hi:qs[i]?=some q):qd8 (encP T qs) i=.tuple #[qq q,.bool true]:=by
 have hl:=(List.getElem?_eq_some_iff.1 hi).1;have e4:q4Of (qn (encP T qs)) (qIds (encP T qs) i)=q:=h.quad4 hi;have hE:(toE (qr (encP T qs))).2=0:=by rw [h.t];exact h.set.tok.toE
 have hok:PqOk (encP T qs) i:=⟨⟨by rw [h.n];exact hl,q99 (qj1 hE) (by rw [h.n];exact hl)⟩,(fun j hj g=>by
  rw [show qIds (encP T qs) i j=tNum (qr (encP T qs)) i j from rfl,h.told hi hj] at g;cases g),by rw [e4];exact h.quad _ (zmg hi)⟩
 rw [qd8,if_pos hok,e4]
theorem EncOk.tma {p:Q4} (hp:KnQ T p):(tmaR (qr (encP T qs)) (idP T p)).map (·.1)=qaa p qs:=by
 have hm:∀ q∈qs,∀ k,k<4→gat q k∈T∨gat q k=zTM:=fun q hq k hk=>(h.set.mem q hq k hk).imp id fun g=>g.2.2
 rw [tmaR,h.t,h.set.tok.mtch];exact qja h.set.rise (fun t ht=>(h.kinds t ht).1) hm (fun _ _=>rfl) hp
theorem EncOk.tmaN {p:Q4} (hp:¬ KnQ T p):qaa p qs=[]:=by
 have hm:∀ q∈qs,∀ k,k<4→gat q k∈T∨gat q k=zTM:=fun q hq k hk=>(h.set.mem q hq k hk).imp id fun g=>g.2.2
 obtain ⟨k,hk⟩:=Classical.not_forall.1 hp;obtain ⟨h4,hk⟩:=Classical.not_imp.1 hk;exact qzn hm h4 hk
theorem EncOk.vms:∀ k,k<3→tVec (qr (encP T qs)) (k+1)=true→vM (qe (qr (encP T qs)) (k+1))≤vN (qe (qr (encP T qs)) (k+1)):=fun k hk _=>by
 rw [h.t];obtain ⟨_,h2,h3,_⟩:=h.set.tok.vec (k:=k) Oo;rw [h2,h3];exact qn8 k _
end
theorem q3q {p:Q4} {qs:List Q4} {i:Nat} (h:i∈qaa p qs):∃ q,qs[i]?=some q∧fitQ p q=true:=by
 rw [qaa,List.mem_filter] at h;obtain ⟨h1,h2⟩:=h;have:=List.mem_range.1 h1;refine ⟨qs[i],zge this,?_⟩;rw [zge this] at h2;exact h2
theorem qhj (T:List TM) (qs:List Q4) (h:EncOk T qs) (x pb vb tb:Nat) (p:Q4) (hp:qak p) (hP:∀ k,k<4→InR .i64 (idP T p k)) (b1 b2:Nat) :
  SeqC Tryz.prog 132 [pp b1,pp b2] ((qaa p qs).map (sRow qs)) (SmaΦ x pb vb tb T qs p b1 b2):=by
 intro y I Ix w cI cIx hI h0 hy;have hxs:((qaa p qs).map (sRow qs)).length=(qaa p qs).length:=List.length_map ..;refine gvW Jk Tryz.func132 rfl Tryz.ntmps132 rfl (zw ?_);refine NewV.carr (cI 0) h0 fun yb w1 h0=>zw ?_;refine LoadV.of (hI _ _ _ h0).c1 (zw ?_);refine LoadA.cells (hI _ _ _ h0).c2 rfl (zw ?_);refine zcv (qt1 T qs h x p hp w1 (hI _ _ _ h0).X.at_ (hI _ _ _ h0).G.M (hI _ _ _ h0).G.T) ?_;rintro r w2 ⟨rfl,he2⟩;replace h0:=(cI 0).ext h0 he2
 by_cases hK:KnQ T p
 case neg=>
  rw [qkc,if_neg hK];(conv=>whnf);refine NewV.carr (cI 0) h0 fun ib w3 h0=>zw ?_;refine StoreA.carr (cI 0) (A:=[]) h0 rfl Od fun w4 h0=>zu ?_;refine .inl ?_;rw [hxs,h.tmaN hK];exact (cI 0).drop ((cI 0).drop h0)
 rw [qkc,if_pos hK];(conv=>whnf);refine NewV.carr (cI 0) h0 fun ib w3 h0=>zw ?_;refine StoreA.carr (cI 0) (A:=[]) h0 rfl (by simp [Value.oneCell']) fun w4 h0=>zu ?_;refine DrawW.tail 6 Jk Jk (.inl rfl) (AnyV.free Jk ?_);(conv=>whnf);refine zf ?_ (by intro wd hd;(conv=>whnf);refine LoadV.of (Ext.cell (Ext.trans (Ext.drew xr) hd) (hI _ _ _ h0).c1) ?_;(conv=>whnf);exact ⟨xr,rfl⟩);refine zd ?_;refine zd ?_;refine zf ?_ (by intro wd hd;(conv=>whnf);refine LoadV.of (Ext.cell (Ext.trans (Ext.drew xr) hd) (hI _ _ _ h0).X.c) ?_;(conv=>whnf);exact ⟨xr,rfl⟩);refine zsd (pp tb) (fun wd hd=>zw ?_) (zw ?_)
 ·refine zcv (qdq pb tb _ _ _ _ _ wd (Ext.get (Ext.trans (Ext.drew xr) hd) (hI _ _ _ h0).X.b)) ?_;rintro r w5 ⟨rfl,rfl⟩;exact ⟨xr,rfl⟩
 refine zsd (.agg #[ii (idP T p 0),ii (idP T p 1),ii (idP T p 2),ii (idP T p 3)]) (fun wd hd=>zw ?_) (zw ?_)
 ·refine LoadA.own (Ext.get (Ext.trans (Ext.drew xr) hd) ((cI 0).get h0 mh)) rfl (zw ?_);exact ⟨xr,rfl⟩
 intro w5 he5;replace h0:=(cI 0).ext h0 (Ext.trans (Ext.drew xr) he5);(conv=>whnf);refine zcv (qk7 tb (idP T p) w5) ?_;rintro r w6 ⟨c1,c2,rfl,hm6⟩;replace h0:=(cI 0).call h0 hm6;(conv=>whnf);obtain ⟨L,hL⟩:∃ L:List (Nat × Obj),L=[(c2,.cells #[ii (idP T p 0),ii (idP T p 1),ii (idP T p 2),ii (idP T p 3)] 95),(c1,.cells #[pp tb] 141),(ib,.cells #[ii (idP T p 0),ii (idP T p 1),ii (idP T p 2),ii (idP T p 3)] 95),(yb,.cells #[.func (.yield y) #[] #[]] 150)]:=⟨_,rfl⟩
 have hJ:I 0 ([]++L) w6:=by rw [hL];exact h0
 clear h0;have hin:∀ (X:List (Nat × Obj)),(c2,Obj.cells #[ii (idP T p 0),ii (idP T p 1),ii (idP T p 2),ii (idP T p 3)] 95)∈X++L∧(c1,Obj.cells #[pp tb] 141)∈X++L∧(yb,Obj.cells #[.func (.yield y) #[] #[]] 150)∈X++L:=fun X=>by
  rw [hL];refine ⟨?_,?_,?_⟩<;>simp
 have htl:((tmaR (qr (encP T qs)) (idP T p)).map mRow).length=(qaa p qs).length:=by
  rw [List.length_map,← h.tma hK,List.length_map]
 refine qtl (Φ:=fun w=>TmaΦ tb (qr (encP T qs)) c1 c2 w∧q63 (idP T p) c2 w) (lb:=[pp c1,pp c2]) (xs:=(tmaR (qr (encP T qs)) (idP T p)).map mRow) rfl Jk (qk8 tb (qr (encP T qs)) (idP T p) c1 c2 h.vms hP) Od ?_
  (fun k X w'=>I k (X++L) w') (fun c k X w'=>∃ _:PLift (c=.ret),Ix k (X++L) w')
  (fun k=>(cI _).tail _) (fun c k=>Carr.any fun _=>(cIx _).tail _)
  (fun k X w' hh=>⟨⟨(hI _ _ _ hh).X.t,by rw [qa ((cI _).get hh (hin X).2.1)];rfl⟩,fun j v hv=>by rw [qa ((cI _).get hh (hin X).1),Nat.zero_add,← hv];simp⟩) hJ ?_ ?_ ?_
 ·intro r hr;obtain ⟨j,_,rfl⟩:=List.mem_map.1 hr;rfl
 ·rintro l2 D od k r X w7 w8 hr hJ;rw [List.getElem?_map] at hr;cases hrow:(tmaR (qr (encP T qs)) (idP T p))[k]? with
  | none=>rw [hrow] at hr;cases hr
  | some row=>
  rw [hrow,Option.map_some,Option.some.injEq] at hr;subst hr;have hmk:(qaa p qs)[k]?=some row.1:=by rw [← h.tma hK,List.getElem?_map,hrow];rfl
  obtain ⟨q,hq,hfit⟩:=q3q (zmg hmk);have hql:=(List.getElem?_eq_some_iff.1 hq).1;have hlen:=h.set.len;(conv=>whnf);refine ⟨rfl,rfl,?_⟩;(conv=>whnf);refine LoadV.of (hI _ _ _ hJ).c1 (zw ?_);refine LoadV.of (hI _ _ _ hJ).X.c (zw ?_);refine zcv (qog pb (encP T qs) row.1 w8 (hI _ _ _ hJ).X.pk Oo (hI _ _ _ hJ).G.M (hI _ _ _ hJ).G.T (hI _ _ _ hJ).G.K) ?_;rintro r w9 ⟨rfl,he9⟩;replace hJ:=(cI k).ext hJ he9;rw [h.pq hq];(conv=>whnf);refine NewV.carr (cI k) hJ fun nb w10 hJ=>zw ?_;refine StoreA.carr (vs:=qd q) (cI k) (A:=[]) hJ rfl (qaq q) fun w11 hJ=>zu ?_;refine LoadA.cells (vs:=qd p) (hI _ _ _ hJ).c2 rfl (zu ?_);refine LoadA.own ((cI k).get hJ mh) rfl (zu ?_);refine zcv (qo8 p q w11) ?_;rintro r w12 ⟨rfl,he12⟩;replace hJ:=(cI k).ext hJ he12;rw [hfit];refine zu ?_;refine LoadV.carr (cI k) hJ (zmc (hin _).2.2) rfl (zu ?_);refine LoadA.own ((cI k).get hJ mh) rfl (zu ?_);have hrw:((qaa p qs).map (sRow qs))[k]?=some [ii row.1,qq q]:=by
   have e:qs.getD row.1 zQ=q:=by rw [List.getD_eq_getElem?_getD,hq];rfl
   rw [List.getElem?_map,hmk,Option.map_some,sRow,e]
  refine YieldV.mono (hy k _ _ w12 hrw hJ) ?_;clear hJ;rintro v w13 (⟨rfl,hJ⟩|⟨rfl,hX⟩)
  ·refine zu ?_;exact (cI _).drop hJ
  ·refine zu ?_;exact ⟨⟨rfl⟩,(cIx _).drop hX⟩
 ·rintro D w7 hJ;rw [htl] at hJ;(conv=>whnf);refine LeaveV.marks (J:=fun X w'=>I (qaa p qs).length X w') (cI _) ?_ (D:=D) (Ds:=[]) ((cI _).dropL ((cI _).perm hJ List.perm_append_comm));intro w' h';(conv=>whnf);exact .inl (by rw [hxs];exact h')
 ·rintro D c k w7 hk ⟨⟨rfl⟩,hX⟩;rw [htl] at hk;(conv=>whnf);refine LeaveV.marks (J:=fun X w'=>Ix k X w') (cIx _) ?_ (D:=D) (Ds:=[]) ((cIx _).dropL ((cIx _).perm hX List.perm_append_comm));intro w' h';(conv=>whnf);exact .inr ⟨k,by rw [hxs];exact hk,h'⟩
theorem qaay (T:List TM) (h:VOk T) (hr:RiseT T) (hk:∀ t∈T,1≤t.kind∧t.kind≤3) (he:∀ t∈T,qa5 t=0) (b:Nat) (t:TM) (ht:t∈T∨t=zTM) (hto:TermOk t) (w:World) (hV:VocAt w b (vocB T))
  (hM:MaxLenAt w) (hT:CellsAt w 4 0 qa6) :
  Gv Tryz.prog 100 [pp b,qt t] w fun r w'=>r=.tuple #[ii (noT T t:Nat),.bool true]∧Ext w w':=by
 have hb3:=hV.tot (k:=3) Od;refine ze Tryz.func100 Tryz.ntmps100 ?_;refine znm (Mem.nil w) ?_;intro tb w1 hm;have hm:Mem w w1 [(tb,.cells #[ii t.kind,.string t.text,.string t.type,.string t.lang] 45)]:=hm;(conv=>whnf);refine zL hm 0 ?_;refine RunV.eqTerm (a:=t) (b:=zTM) (.inl rfl) (zw ?_);cases hz:qaj t zTM
 case true=>
  obtain rfl:=qu.1 hz;refine zu ?_;exact ⟨by rw [qf2 rfl];rfl,hm.ext⟩
 have ht:t∈T:=ht.resolve_right fun e=>by rw [e,qu.2 rfl] at hz;cases hz
 refine zu ?_;refine zL hm 0 ?_;have hen:=qes t hto w1 (hM.ext hm.ext) (hT.ext hm.ext);rw [if_pos (he t ht)] at hen;refine zcv (hen) ?_;rintro r w2 ⟨rfl,he2⟩;have hm:=hm.call he2;refine zu ?_;have hkt:=hk t ht;obtain ⟨k,hk3,ek⟩:∃ k:Nat,k<3∧t.kind=((k+1:Nat):Int):=⟨(t.kind-1).toNat,by omega,by omega⟩
 obtain ⟨d,hd,_⟩:=hV.cell;obtain ⟨hc0,hc1,hDk⟩:=hd k hk3;have hcl:CellsAt w b (2*k) [.pointer (some ⟨d k,0,none⟩),ii (vTot (vocB T) k+1:Nat)]:=fun j v hv=>by
  match j,hv with
  | 0,hv=>rw [← hv];exact hc0
  | 1,hv=>rw [← hv];exact hc1
 refine DrawV.gen (fun S vals w'=>Al w [(tb,.cells #[ii t.kind,.string t.text,.string t.type,.string t.lang] 45)] (.cells #[.pointer none,ii 0] 302) (.cells #[.pointer (some ⟨d k,0,none⟩),ii (vTot (vocB T) k+1:Nat)] 302) (.cells #[] 0) (.cells #[] 0) (S 8) false (S 9) false (vals 8) undef w') rfl Jk (fun vals=>Al.start hm.drew) ?_;clear hm;(conv=>whnf);refine zg ?_;refine zg ?_;refine StepG.of (ii t.kind) (fun S vals wd hk hp hI=>zw ?_) ?_
 ·refine zr hI.mem 0 ?_;exact ⟨rfl,hI⟩
 rw [ek];(iterate 3 (refine zg ?_));refine StepG.of (.pointer (some ⟨b,2*k,none⟩)) (fun S vals wd hk hp hI=>zw ?_) ?_
 ·refine IdxV.at_ k Oo Oo (zw ?_);exact ⟨congrArg (fun o=>Value.pointer (some ⟨b,o,none⟩)) (by rw [show tsz Tryz.prog 302=2 from by kernel_rfl];show 0+0+k*2=2*k;omega),hI⟩
 refine StepG.of (.agg #[.pointer (some ⟨d k,0,none⟩),ii (vTot (vocB T) k+1:Nat)]) (fun S vals wd hk hp hI=>zw ?_) ?_
 ·refine LoadA.cells (CellsAt.ext hcl hI.mem.ext) (by rw [show tsz Tryz.prog 302=2 from by kernel_rfl];rfl) (zw ?_);exact ⟨rfl,hI⟩
 refine StepG.any (fun S vals wd hk hp hI=>?_) ?_
 ·dsimp only at hI;rw [hk] at hI;(conv=>whnf);refine ⟨fun x wx hb hw=>?_⟩;subst hb hw;(conv=>whnf);exact ⟨trivial,hI.new1⟩
 refine StepG.of undef (fun S vals wd hk hp hI=>?_) ?_
 ·dsimp only at hI;have h9:S 8=true:=hp 8 Od;rw [hk,h9] at hI;obtain ⟨nb,hv,M,hmM,hKx⟩:=hI.put1;rw [qbk hv];refine zS hmM 0 fun wx hmx=>zw ?_;exact ⟨rfl,by show Al _ _ _ _ _ _ (S 8) false true false _ _ _;rw [h9];exact hKx hmx rfl⟩
 intro vals w5 hI;obtain ⟨t8,hv1,hm⟩:=hI.done1;rw [qbk hv1];clear hI;have hm:Mem w w5 [(t8,.cells #[.pointer (some ⟨d k,0,none⟩),ii (vTot (vocB T) k+1:Nat)] 302),(tb,.cells #[ii (k+1:Nat),.string t.text,.string t.type,.string t.lang] 45)]:=hm;(conv=>whnf);refine zr hm 0 ?_;have hDk5:DictAt w5 (d k) (qk (secE T k)):=by
  have:=hDk.ext hm.ext
  rwa [h.sDict hk3] at this
 refine zcv (qsr (secE T k) (h.d k hk3) (d k) ⟨(qae t).toArray⟩ w5 hDk5) ?_;rintro r w6 ⟨⟨N,hN,rfl⟩,he6⟩;obtain ⟨f1,f2,f3⟩:=h.find hr hk hk3 ht ek hN;rw [show decide (N<(secE T k).length∧(⟨(tx (secE T k) N).toArray⟩:ByteArray)=⟨(qae t).toArray⟩)=true from decide_eq_true ⟨f1,f2⟩];have hm:=hm.call he6;have hn3:=(h.d k hk3).n;have htk:=hV.tot (k:=k) Oo;refine zu ?_;refine zr hm 0 ?_;refine zv ?_;refine zcv (qls (d k) (qk (secE T k)) w6 (hDk5.ext he6)) ?_;rintro r w7 ⟨rfl,rfl⟩;rw [(h.d k hk3).eN];refine zu ?_;refine zr hm 0 ?_;refine zv ?_;refine ⟨?_,hm.ext⟩;rw [f3];rfl
def idF (T:List TM) (q:Q4) (i j:Nat):Int:=if j<i then (noT T (gat q j):Nat) else 0
def gQ (q:Q4):Q4:=⟨q.g,q.s,q.p,q.o⟩
theorem q29 (q:Q4) {k:Nat} (hk:k<4):(gQ q).at k=gat q k:=by
 rcases (show k=0∨k=1∨k=2∨k=3 by omega) with rfl|rfl|rfl|rfl<;>rfl
theorem qyi (T:List TM) (q:Q4) {i:Nat} (_hi:i<4):(fnA 4 (inF (idF T q i))).setIfInBounds i (ii (noT T (gat q i):Nat))=fnA 4 (inF (idF T q (i+1))):=by
 rw [qdl];refine qda fun j hj=>?_
 by_cases e:j=i
 ·subst e;rw [qaz,inF,idF,if_pos (Nat.lt_succ_self _)]
 ·rw [q6 _ _ _ _ e,inF,inF,idF,idF]
  congr 1
  by_cases h:j<i
  ·rw [if_pos h,if_pos Oo]
  ·rw [if_neg h,if_neg Oo]
theorem q5k (T:List TM) (h:VOk T) (hr:RiseT T) (hk:∀ t∈T,1≤t.kind∧t.kind≤3) (he:∀ t∈T,qa5 t=0) (b:Nat) (q:Q4) (hq:∀ k,k<4→gat q k∈T∨gat q k=zTM) (hqo:qak q) (w:World) (hV:VocAt w b (vocB T))
  (hM:MaxLenAt w) (hT:CellsAt w 4 0 qa6) :
  Gv Tryz.prog 74 [pp b,qq q] w fun r w'=>r=.tuple #[idsV fun k=>noT T (gat q k),.bool true]∧Ext w w':=by
 refine ze Tryz.func74 Tryz.ntmps74 ?_;refine znm (Mem.nil w) ?_;intro b3 w1 hm;have hm:Mem w w1 [(b3,.cells (qd q).toArray 47)]:=hm;refine znm hm ?_;intro b4 w2 hm;refine znm hm ?_;intro b6 w3 hm;have hm:Mem w w3 [(b6,.cells (fnA 4 (inF (idF T q 0))) 95),(b4,.cells #[ii 0,ii 0,ii 0,ii 0] 95),(b3,.cells (qd q).toArray 47)]:=hm;have hc:CellsAt w3 b3 0 (qd q):=CellsAt.mem hm (zmg (i:=2) rfl);refine LoadA.cells (qv hc 3 Oo) rfl ?_;refine LoadA.cells (qv hc 0 Oo) rfl ?_;refine LoadA.cells (qv hc 1 Oo) rfl ?_;refine LoadA.cells (qv hc 2 Oo) rfl ?_;refine qm (fun k:Nat=>[(0,pp b),(4,pp b4),(6,pp b6),(19,qq (gQ q)),(20,ii k)])
  (fun k w'=>k≤4∧Mem w w' [(b6,.cells (fnA 4 (inF (idF T q k))) 95),(b4,.cells #[ii 0,ii 0,ii 0,ii 0] 95),(b3,.cells (qd q).toArray 47)]) (fun k=>4-k) 0 ⟨rfl,rfl,rfl,rfl,rfl,trivial⟩ ⟨by omega,hm⟩ ?_
 clear hm hc;rintro k w4 ρ' ⟨k1,hm⟩;(conv=>whnf);refine zC (fun _=>zu ?_) (fun _=>zu ?_)
 ·have hk4:k<4:=by omega
  refine Wit.eq (y:=encT ((gQ q).at k)) (qjj (gQ q) k hk4) ?_;rw [q29 q hk4];refine znm hm ?_;clear hm;intro b8 w5 hm;refine StoreA.all (vs:=encT (gat q k)) hm (i:=0) rfl rfl (qab _) ?_;clear hm;intro w6 hm;have hm:Mem w w6 [(b8,.cells (encT (gat q k)).toArray 45),(b6,.cells (fnA 4 (inF (idF T q k))) 95),(b4,.cells #[ii 0,ii 0,ii 0,ii 0] 95),(b3,.cells (qd q).toArray 47)]:=hm;refine zl hm 0 ?_;refine zcv (qaay T h hr hk he b (gat q k) (hq k hk4) (by rw [← q29 q hk4];have:=hqo;rcases (show k=0∨k=1∨k=2∨k=3 by omega) with rfl|rfl|rfl|rfl;exact this 3;exact this 0;exact this 1;exact this 2) w6 (hV.ext hm.ext) (hM.ext hm.ext) (hT.ext hm.ext)) ?_;rintro r w7 ⟨rfl,he7⟩;have hm:=hm.call he7;refine zu ?_;rw [show 0+k*tsz Tryz.prog 3=k by rw [show tsz Tryz.prog 3=1 from by kernel_rfl];omega];refine StoreV.mem hm (i:=1) rfl (by rw [qa1];omega) rfl ?_;clear hm;intro w8 hm;have hm:Mem w w8 [(b8,.cells (encT (gat q k)).toArray 45),(b6,.cells ((fnA 4 (inF (idF T q k))).setIfInBounds k (ii (noT T (gat q k):Nat))) 95),(b4,.cells #[ii 0,ii 0,ii 0,ii 0] 95),(b3,.cells (qd q).toArray 47)]:=hm;rw [qyi T q hk4] at hm;refine zu ?_;exact ⟨k+1,⟨rfl,rfl,rfl,rfl,congrArg (Value.int .i64) Oo,trivial⟩,⟨by omega,hm.sub (List.sublist_cons_self ..)⟩,by omega⟩
 ·refine zL hm 0 ?_;refine zS hm 1 ?_;intro w8 hm;obtain rfl:k=4:=by omega
  refine qj (R:=fun v w'=>v=.tuple #[idsV fun k=>noT T (gat q k),.bool true]∧Ext w w') ?_;refine zl hm 1 ?_;exact ⟨rfl,hm.ext⟩
theorem qx2 {p t:TM} (h:p.kind≠4):fitT p t=true↔p=t:=by
 grind [fitT,qu]
theorem qi3 {p q:Q4} (h:∀ k,k<4→(gat p k).kind≠4):fitQ p q=true↔p=q:=by
 rw [qlx];simp only [Bool.and_eq_true]
 constructor
 ·rintro ⟨h0,h1,h2,h3⟩;refine qp4 fun k hk=>?_
  grind [qx2]
 grind [qx2]
theorem qej {p:Q4} {qs:List Q4} {i:Nat}:i∈qaa p qs↔∃ q,qs[i]?=some q∧fitQ p q=true:=by
 grind [qaa]
theorem qoa {p:Q4} {qs:List Q4} (h:∀ k,k<4→(gat p k).kind≠4):(qaa p qs=[]↔p∉qs)∧∀ i,qaa p qs=[i]→qs[i]?=some p:=by
 constructor
 ·constructor
  ·intro e hp;obtain ⟨i,hi⟩:=List.mem_iff_getElem?.1 hp;have:i∈qaa p qs:=(by grind [qej,qi3])
   simp_all
  ·intro hp;refine List.eq_nil_iff_forall_not_mem.2 fun i hi=>?_
   grind [qej,qi3]
 ·intro i e;obtain ⟨q,hq,hf⟩:=qej.1 (show i∈qaa p qs by rw [e];exact List.mem_singleton.2 rfl)
  grind [qi3]
theorem q3r (p:Q4) (qs:List Q4):(qaa p qs).length=(qs.filter (fitQ p)).length:=by
 rw [← qu5];have:∀ (L:List Nat),(∀ i∈L,∃ q,qs[i]?=some q)→(L.filterMap fun i=>qs[i]?).length=L.length:=by
  intro L
  induction L<;>grind [List.mem_cons_self]
 grind [qej]
end Go.Proofs.YtccmcfpmknpccaaGreatDoor
