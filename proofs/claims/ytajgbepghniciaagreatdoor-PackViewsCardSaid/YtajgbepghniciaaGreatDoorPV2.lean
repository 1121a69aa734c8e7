/- Lemmas and contracts of functions on the way to the law's card (part 2 of 13). -/
import Derived.Test.YtajgbepghniciaaGreatDoorPV1
import Derived.Orders
import Derived.Shelf.Strings.Builder1
import Derived.Shelf.Strings.Builder2
import Derived.Shelf.Strings.OnBuilder
import Derived.Shelf.Small.Utf8
import Derived.Shelf.Small.Strs
import Derived.Shelf.Strings.BuilderF
import Derived.Shelf.Strings.BuilderK
import Derived.Shelf.Strings.Search1
import Derived.Shelf.Strings.Search2
import Derived.Shelf.Strings.Search3
import Derived.Shelf.Strings.Cut
import Derived.Shelf.Strings.Count
import Derived.Shelf.LaysM
import Derived.Shelf.Strings.Shaped
import Derived.Shelf.Strings.Runes
import Derived.Shelf.Unicode.DecodeSlow
import Derived.Shelf.Slices.Turned
import Derived.Test.YtajgbepghniciaaGreatDoorProg
namespace Go.Proofs.YtajgbepghniciaaGreatDoor
open Go.RowKit
namespace V
def qsa (e:Edge):Bool:=
 match e.ground with
 | .textOnly _ | .gcOnly _=>false
 | _=>true
theorem qbx (e:Edge):Region.binds .any e=qsa e:=by
 unfold Region.binds qsa;cases e.ground<;>rfl
def qjx:List Edge→List Nat
 | []=>[]
 | e::l=>bif qsa e then e.on::qjx l else qjx l
def qu (o:Oper):List Nat:=qjx o.after.toList
theorem qa3 {l:List Edge} {k:Nat}:k∈qjx l↔∃ e∈l,qsa e=true∧e.on=k:=by
 induction l with
 | nil=>simp [qjx]
 | cons e l ih=>
  simp only [qjx];cases hb:qsa e
  ·simp only [cond_false,ih,List.mem_cons]
   constructor
   ·rintro ⟨e',h1,h2,h3⟩;exact ⟨e',.inr h1,h2,h3⟩
   ·rintro ⟨e',rfl|h1,h2,h3⟩
    ·rw [hb] at h2;cases h2
    ·exact ⟨e',h1,h2,h3⟩
  ·simp only [cond_true,List.mem_cons,ih]
   constructor
   ·rintro (rfl|⟨e',h1,h2,h3⟩)
    ·exact ⟨e,.inl rfl,hb,rfl⟩
    ·exact ⟨e',.inr h1,h2,h3⟩
   ·rintro ⟨e',rfl|h1,h2,h3⟩
    ·exact .inl h3.symm
    ·exact .inr ⟨e',h1,h2,h3⟩
structure Ent where
 d:Option Tmp
 v:Option Value
 φ:Value→World→Prop
def allv (es:List Ent):List Nat→(Nat→Value)→World→((Nat→Value)→Prop)→Prop
 | [],ρ,_,K=>K ρ
 | k::ks,ρ,w,K=>
  match getL es k with
  | some ⟨some d,none,φ⟩=>∀ v,φ v w→allv es ks (upd ρ d v) w K
  | _=>allv es ks ρ w K
def frS (es:List Ent) (vals:Nat→Value) (k:Nat) (ρ:Nat→Value):Nat→Value:=
 match getL es k with
 | some ⟨some d,none,_⟩=>upd ρ d (vals k)
 | _=>ρ
def fr (es:List Ent) (vals:Nat→Value):List Nat→(Nat→Value)→(Nat→Value)
 | [],ρ=>ρ
 | k::ks,ρ=>fr es vals ks (frS es vals k ρ)
theorem qfg {es:List Ent} {vals:Nat→Value} {k d:Nat} {φ:Value→World→Prop} {ρ:Nat→Value} (h:getL es k=some ⟨some d,none,φ⟩):frS es vals k ρ=upd ρ d (vals k):=by simp [frS,h]
theorem qhq {es:List Ent} {vals:Nat→Value} {k:Nat} {ρ:Nat→Value} (h:∀ d φ,getL es k≠some ⟨some d,none,φ⟩):frS es vals k ρ=ρ:=by
 unfold frS
 split
 ·rename_i d φ hk;exact absurd hk (h _ _)
 ·rfl
theorem qj8 {es:List Ent} {vals:Nat→Value} {w:World} {K:(Nat→Value)→Prop}:∀ (ks:List Nat) (ρ:Nat→Value),
  (∀ k∈ks,∀ e,getL es k=some e→e.φ (vals k) w)→allv es ks ρ w K→K (fr es vals ks ρ):=by
 intro ks
 induction ks with
 | nil=>intro ρ _ h;exact h
 | cons k ks ih=>
  intro ρ hv h;have hv':∀ k∈ks,∀ e,getL es k=some e→e.φ (vals k) w:=fun k hk=>hv k (List.mem_cons_of_mem _ hk)
  unfold allv at h;unfold fr
  split at h
  ·rename_i d φ hk
   rw [qfg hk];exact ih _ hv' (h (vals k) (hv k (List.mem_cons_self ..) _ hk))
  ·rename_i hk
   rw [qhq hk];exact ih _ hv' h
theorem qdk (ρ:Nat→Value) (d:Nat) (v:Value):upd ρ d v d=v:=by simp [upd]
theorem qam (ρ:Nat→Value) (d t:Nat) (v:Value) (h:t≠d):upd ρ d v t=ρ t:=by
 unfold upd;have e':Nat.beq t d=false:=Bool.eq_false_iff.2 fun e=>h (Nat.eq_of_beq_eq_true e)
 rw [e'];rfl
theorem qkr {es:List Ent} {vals:Nat→Value} {t:Nat}:∀ (ks:List Nat) (ρ:Nat→Value),(∀ k∈ks,∀ φ,getL es k≠some ⟨some t,none,φ⟩)→fr es vals ks ρ t=ρ t:=by
 intro ks
 induction ks with
 | nil=>intro ρ _;rfl
 | cons k ks ih=>
  intro ρ h;have h':∀ k∈ks,∀ φ,getL es k≠some ⟨some t,none,φ⟩:=fun k hk=>h k (List.mem_cons_of_mem _ hk)
  unfold fr;rw [ih _ h']
  by_cases hk:∃ d φ,getL es k=some ⟨some d,none,φ⟩
  ·obtain ⟨d,φ,hk⟩:=hk;rw [qfg hk,qam];rintro rfl;exact h k (List.mem_cons_self ..) φ hk
  ·rw [qhq (fun d φ e=>hk ⟨d,φ,e⟩)]
theorem qxl {es:List Ent} {vals:Nat→Value} {t k0:Nat} {x:Value} (hx:x=vals k0) (hu:∀ k φ,getL es k=some ⟨some t,none,φ⟩→k=k0):∀ (ks:List Nat) (ρ:Nat→Value),
  (ρ t=x∨(k0∈ks∧∃ φ,getL es k0=some ⟨some t,none,φ⟩))→fr es vals ks ρ t=x:=by
 intro ks
 induction ks with
 | nil=>
  intro ρ h
  rcases h with h|⟨h,_⟩
  ·exact h
  ·cases h
 | cons k ks ih=>
  intro ρ h;unfold fr
  by_cases hk:∃ d φ,getL es k=some ⟨some d,none,φ⟩
  ·obtain ⟨d,φ,hk⟩:=hk;rw [qfg hk]
   by_cases hd:t=d
   ·subst hd;have:=hu k φ hk;subst this;exact ih _ (.inl (by rw [qdk,hx]))
   ·refine ih _ ?_
    rcases h with h|⟨h,φ0,h0⟩
    ·exact .inl (by rw [qam _ _ _ _ hd];exact h)
    ·rcases List.mem_cons.1 h with rfl|h
     ·rw [hk] at h0;cases h0;exact absurd rfl hd
     ·exact .inr ⟨h,φ0,h0⟩
  ·rw [qhq (fun d φ e=>hk ⟨d,φ,e⟩)];refine ih _ ?_
   rcases h with h|⟨h,φ0,h0⟩
   ·exact .inl h
   ·rcases List.mem_cons.1 h with rfl|h
    ·exact absurd ⟨_,_,h0⟩ hk
    ·exact .inr ⟨h,φ0,h0⟩
def qbi (P:Program) (ops:List Oper) (o:Oper) (ρ:Nat→Value) (w:World) (K:Value→World→Prop):Prop:=
 match o.guard with
 | none=>opV P o ρ w K
 | some (j,want)=>
  match getL ops j with
  | none=>K undef w
  | some oj=>match oj.dst with
   | none=>K undef w
   | some d=>
    match ρ d with
    | .bool b=>Tst b
      (match want with
       | true=>opV P o ρ w K
       | false=>K undef w)
      (match want with
       | true=>K undef w
       | false=>opV P o ρ w K)
    | _=>K undef w
structure StepD (A:(Value→World→Prop)→Prop) (K:Option Value→(Value→World→Prop)→Prop):Prop where
 h:(∃ v,A (fun u _=>u=v)∧K (some v) (fun u _=>u=v))∨(∃ φ:Value→World→Prop,(∀ v w w',φ v w→Ext w w'→φ v w')∧A φ∧K none φ)
theorem StepD.still {A:(Value→World→Prop)→Prop} {K:Option Value→(Value→World→Prop)→Prop} (v:Value) (h:A (fun u _=>u=v)) (hk:K (some v) (fun u _=>u=v)):StepD A K:=⟨.inl ⟨v,h,hk⟩⟩
theorem StepD.of {A:(Value→World→Prop)→Prop} {K:Option Value→(Value→World→Prop)→Prop} (φ:Value→World→Prop) (hs:∀ v w w',φ v w→Ext w w'→φ v w') (h:A φ) (hk:K none φ):StepD A K:=⟨.inr ⟨φ,hs,h,hk⟩⟩
def updO (ρ:Nat→Value):Option Tmp→Option Value→Nat→Value
 | some d,some v=>upd ρ d v
 | _,_=>ρ
def qid:List (Nat × Nat × (Value→World→Prop))→Nat→Option (Nat × (Value→World→Prop))
 | [],_=>none
 | (i,d,φ)::es,k=>bif Nat.beq i k then some (d,φ) else qid es k
def allA (es:List (Nat × Nat × (Value→World→Prop))):List Nat→(Nat→Value)→World→((Nat→Value)→Prop)→Prop
 | [],ρ,_,K=>K ρ
 | k::ks,ρ,w,K=>
  match qid es k with
  | some (d,φ)=>∀ v,φ v w→allA es ks (upd ρ d v) w K
  | none=>allA es ks ρ w K
def idxs:List (Nat × Nat × (Value→World→Prop))→List Nat
 | []=>[]
 | (i,_,_)::es=>i::idxs es
def qq9 (k:Nat) (φ:Value→World→Prop) (es:List (Nat × Nat × (Value→World→Prop))):Option Tmp→Option Value→List (Nat × Nat × (Value→World→Prop))
 | some d,none=>(k,d,φ)::es
 | _,_=>es
def regD (P:Program) (ops:List Oper) (w0:World) (Q:(Nat→Value)→World→Prop):List Oper→Nat→List (Nat × Nat × (Value→World→Prop))→(Nat→Value)→Prop
 | [],_,es,ρ=>∀ w,Ext w0 w→allA es (idxs es) ρ w fun ρ'=>Q ρ' w
 | o::l,k,es,ρ=>StepD
   (fun φ=>∀ w,Ext w0 w→allA es (qu o) ρ w fun ρ'=>qbi P ops o ρ' w fun v w'=>Ext w w'∧φ v w')
   (fun v φ=>regD P ops w0 Q l (k+1) (qq9 k φ es o.dst v) (updO ρ o.dst v))
def sfr:List Ent→(Nat→Value)→(Nat→Value)
 | [],ρ=>ρ
 | e::l,ρ=>sfr l (updO ρ e.d e.v)
theorem qek (a b:List Ent) (ρ:Nat→Value):sfr (a++b) ρ=sfr b (sfr a ρ):=by
 induction a generalizing ρ with
 | nil=>rfl
 | cons e a ih=>simp [sfr,ih]
structure EntOk (e:Ent) (o:Oper):Prop where
 d:e.d=o.dst
 st:∀ v w w',e.φ v w→Ext w w'→e.φ v w'
 v:∀ x,e.v=some x→∀ u w,e.φ u w→u=x
section
variable {P:Program} {n:Nat} {ops:List Oper} {w0:World}
def Agree (es:List (Nat × Nat × (Value→World→Prop))) (F:List Ent):Prop:=
 ∀ k,(match getL F k with|some ⟨some d,none,φ⟩=>qid es k=some (d,φ)|_=>qid es k=none)
theorem qr7 {es:List (Nat × Nat × (Value→World→Prop))} {F:List Ent} (h:Agree es F) {w:World} {K:(Nat→Value)→Prop}:∀ (ks:List Nat) (ρ:Nat→Value),allA es ks ρ w K→allv F ks ρ w K:=by
 intro ks
 induction ks with
 | nil=>intro ρ h;exact h
 | cons k ks ih=>
  intro ρ ha;have hk:=h k;unfold allA at ha;unfold allv
  split
  ·rename_i d φ hg
   rw [hg] at hk;simp only at hk;rw [hk] at ha;exact fun v hv=>ih _ (ha v hv)
  ·rename_i hg
   split at hk
   ·rename_i d φ hg';exact absurd hg' (hg d φ)
   ·rw [hk] at ha;exact ih _ ha
theorem qwg {es:List (Nat × Nat × (Value→World→Prop))} {k d:Nat} {φ:Value→World→Prop} (h:qid es k=some (d,φ)):k∈idxs es:=by
 induction es with
 | nil=>cases h
 | cons x es ih=>
  obtain ⟨i,d',φ'⟩:=x;simp only [qid] at h;cases hb:Nat.beq i k<;>rw [hb] at h
  ·exact List.mem_cons_of_mem _ (ih h)
  ·rw [Nat.eq_of_beq_eq_true hb];exact List.mem_cons_self ..
theorem Agree.push {es:List (Nat × Nat × (Value→World→Prop))} {F:List Ent} (h:Agree es F) (dst:Option Tmp) (v:Option Value) (φ:Value→World→Prop):Agree (qq9 F.length φ es dst v) (F++[⟨dst,v,φ⟩]):=by
 intro k;have hk:=h k;have hg:∀ k,k<F.length→getL (F++[⟨dst,v,φ⟩]) k=getL F k:=fun k hk=>by rw [qo,qo,List.getElem?_append_left hk]
 have hlast:getL (F++[⟨dst,v,φ⟩]) F.length=some ⟨dst,v,φ⟩:=by rw [qo,List.getElem?_append_right (Nat.le_refl _)];simp
 have hnone:∀ k,F.length≤k→getL F k=none:=fun k hk=>by rw [qo,List.getElem?_eq_none hk]
 have hout:∀ k,F.length<k→getL (F++[⟨dst,v,φ⟩]) k=none:=fun k hk=>by rw [qo,List.getElem?_eq_none (by simp;omega)]
 have hL:qid es F.length=none:=by have:=h F.length;rw [hnone _ (Nat.le_refl _)] at this;exact this
 have other:k≠F.length→qid (qq9 F.length φ es dst v) k=qid es k:=fun hne=>by
  unfold qq9
  split
  ·have:Nat.beq F.length k=false:=Bool.eq_false_iff.2 fun e=>hne (Nat.eq_of_beq_eq_true e).symm
   simp only [qid,this,cond_false]
  ·rfl
 rcases Nat.lt_trichotomy k F.length with hlt|rfl|hgt
 ·rw [hg k hlt,other (by omega)];exact hk
 ·rw [hlast];have hrefl:Nat.beq F.length F.length=true:=by simp
  cases dst with
  | none=>exact hL
  | some d=>
   cases v with
   | none=>simp only [qq9,qid,hrefl,cond_true]
   | some v=>exact hL
 ·rw [hout k hgt,other (by omega)];rw [hnone k (by omega)] at hk;exact hk
theorem qpq {Q:(Nat→Value)→World→Prop} (l:List Oper):∀ (es:List (Nat × Nat × (Value→World→Prop))) (F:List Ent) (ρ0:Nat→Value),Agree es F→regD P ops w0 Q l F.length es (sfr F ρ0)→
  ∃ E:List Ent,E.length=l.length∧(∀ i o e,l[i]?=some o→E[i]?=some e→EntOk e o∧
   ∀ w,Ext w0 w→allv (F++E.take i) (qu o) (sfr (F++E.take i) ρ0) w fun ρ'=>qbi P ops o ρ' w fun v w'=>Ext w w'∧e.φ v w')∧
   ∃ ks:List Nat,(∀ k d φ,getL (F++E) k=some ⟨some d,none,φ⟩→k∈ks)∧∀ w,Ext w0 w→allv (F++E) ks (sfr (F++E) ρ0) w fun ρ'=>Q ρ' w:=by
 induction l with
 | nil=>
  intro es F ρ0 hA h;refine ⟨[],rfl,fun i o e hi=>by simp at hi,idxs es,?_,?_⟩
  ·intro k d φ hk;rw [List.append_nil] at hk;have:=hA k;rw [hk] at this;exact qwg this
  ·intro w hw;rw [List.append_nil];exact qr7 hA _ _ (h w hw)
 | cons o l ih=>
  intro es F ρ0 hAg h;have key:∀ (v:Option Value) (φ:Value→World→Prop),EntOk ⟨o.dst,v,φ⟩ o→
    (∀ w,Ext w0 w→allA es (qu o) (sfr F ρ0) w fun ρ'=>qbi P ops o ρ' w fun v w'=>Ext w w'∧φ v w')→
    regD P ops w0 Q l (F.length+1) (qq9 F.length φ es o.dst v) (updO (sfr F ρ0) o.dst v)→
    ∃ E:List Ent,E.length=(o::l).length∧(∀ i o' e,(o::l)[i]?=some o'→E[i]?=some e→EntOk e o'∧
     ∀ w,Ext w0 w→allv (F++E.take i) (qu o') (sfr (F++E.take i) ρ0) w fun ρ'=>qbi P ops o' ρ' w fun v w'=>Ext w w'∧e.φ v w')∧
     ∃ ks:List Nat,(∀ k d φ,getL (F++E) k=some ⟨some d,none,φ⟩→k∈ks)∧∀ w,Ext w0 w→allv (F++E) ks (sfr (F++E) ρ0) w fun ρ'=>Q ρ' w:=fun v φ hok hA hK=>by
   have e1:updO (sfr F ρ0) o.dst v=sfr (F++[⟨o.dst,v,φ⟩]) ρ0:=by rw [qek];rfl
   have e2:F.length+1=(F++[(⟨o.dst,v,φ⟩:Ent)]).length:=by simp
   rw [e1,e2] at hK;obtain ⟨E,h1,h2,ks,h3,h4⟩:=ih _ _ ρ0 (hAg.push o.dst v φ) hK;refine ⟨⟨o.dst,v,φ⟩::E,by simp [h1],fun i o' e hi he=>?_,ks,by simpa using h3,by simpa using h4⟩;cases i with
   | zero=>
    simp at hi he;subst hi he;refine ⟨hok,fun w hw=>?_⟩;rw [List.take_zero,List.append_nil];exact qr7 hAg _ _ (hA w hw)
   | succ i=>
    simp at hi he;obtain ⟨k1,k2⟩:=h2 i o' e hi he;exact ⟨k1,by simpa using k2⟩
  obtain ⟨v,hA,hK⟩|⟨φ,hs,hA,hK⟩:=h.h
  ·exact key (some v) _ ⟨rfl,fun _ _ _ h _=>h,fun x hx u w hu=>by cases hx;exact hu⟩ hA hK
  ·exact key none φ ⟨rfl,hs,fun x hx=>by cases hx⟩ hA hK
end
theorem qpz {t:Nat}:∀ (es:List Ent) (ρ:Nat→Value),(∀ e∈es,e.d=some t→e.v=none)→sfr es ρ t=ρ t:=by
 intro es
 induction es with
 | nil=>intro ρ _;rfl
 | cons e es ih=>
  intro ρ h;rw [sfr,ih _ (fun e' he'=>h e' (List.mem_cons_of_mem _ he'))];have he:=h e (List.mem_cons_self ..);obtain ⟨d,v,φ⟩:=e;cases d with
  | none=>rfl
  | some d=>cases v with
   | none=>rfl
   | some v=>
    have hne:t≠d:=by rintro rfl;have:=he rfl;cases this
    exact qam _ _ _ _ hne
theorem qul {t:Nat} {x:Value}:∀ (es:List Ent) (ρ:Nat→Value),(∀ e∈es,e.d=some t→e.v=some x)→(ρ t=x∨∃ e∈es,e.d=some t)→sfr es ρ t=x:=by
 intro es
 induction es with
 | nil=>
  intro ρ _ h
  rcases h with h|⟨e,he,_⟩
  ·exact h
  ·cases he
 | cons e es ih=>
  intro ρ hu h;rw [sfr];refine ih _ (fun e' he'=>hu e' (List.mem_cons_of_mem _ he')) ?_;have he:=hu e (List.mem_cons_self ..);obtain ⟨d,v,φ⟩:=e
  by_cases hd:d=some t
  ·subst hd;have:=he rfl;simp only at this;subst this;exact .inl (qdk _ _ _)
  ·rcases h with h|⟨e',he',hd'⟩
   ·left
    cases d with
    | none=>exact h
    | some d=>cases v with
     | none=>exact h
     | some v=>exact (qam _ _ _ _ (fun e=>hd (by rw [e]))).trans h
   ·rcases List.mem_cons.1 he' with rfl|he'
    ·exact absurd hd' hd
    ·exact .inr ⟨e',he',hd'⟩
def qj1 (n:Nat) (ops:Array Oper):Bool:=
 Region.noSelect ops&&(List.range ops.size).all fun j=>
  match ops[j]? with
  | none=>true
  | some o=>(qu o).all (fun k=>decide (k<j))&&(match o.dst with|some d=>decide (d<n)|none=>true)&&(List.range ops.size).all fun k=>
   match ops[k]? with
   | none=>true
   | some ok=>match ok.dst with
    | none=>true
    | some t=>(!(o.looksAt ops).contains t||(qu o).contains k)&&(k==j||o.dst != some t)
structure ShapeP (n:Nat) (ops:Array Oper):Prop where
 sel:Region.noSelect ops=true
 lt:∀ (j:Nat) (o:Oper),ops[j]?=some o→∀ k∈qu o,k<j
 dn:∀ (j:Nat) (o:Oper),ops[j]?=some o→∀ d,o.dst=some d→d<n
 look:∀ (j:Nat) (o:Oper) (k:Nat) (ok:Oper) (t:Nat),ops[j]?=some o→ops[k]?=some ok→ok.dst=some t→t∈o.looksAt ops→k∈qu o
 uniq:∀ (j:Nat) (o:Oper) (k:Nat) (ok:Oper) (t:Nat),ops[j]?=some o→ops[k]?=some ok→ok.dst=some t→o.dst=some t→k=j
theorem qfx {n:Nat} {ops:Array Oper} (h:qj1 n ops=true):ShapeP n ops:=by
 simp only [qj1,Bool.and_eq_true] at h;obtain ⟨h1,h2⟩:=h;have key:∀ (j:Nat) (o:Oper),ops[j]?=some o→((qu o).all (fun k=>decide (k<j))&&(match o.dst with|some d=>decide (d<n)|none=>true)&&(List.range ops.size).all fun k=>
   match ops[k]? with
   | none=>true
   | some ok=>match ok.dst with
    | none=>true
    | some t=>(!(o.looksAt ops).contains t||(qu o).contains k)&&(k==j||o.dst != some t))=true:=fun j o hj=>by
  have:=List.all_eq_true.1 h2 j (List.mem_range.2 (Array.getElem?_eq_some_iff.1 hj).1);rw [hj] at this;exact this
 have key2:∀ (j:Nat) (o:Oper) (k:Nat) (ok:Oper) (t:Nat),ops[j]?=some o→ops[k]?=some ok→ok.dst=some t→((!(o.looksAt ops).contains t||(qu o).contains k)&&(k==j||o.dst != some t))=true:=fun j o k ok t hj hk ht=>by
  have:=key j o hj;simp only [Bool.and_eq_true] at this;have:=List.all_eq_true.1 this.2 k (List.mem_range.2 (Array.getElem?_eq_some_iff.1 hk).1);rw [hk] at this;simp only [ht] at this
  simpa using this
 refine ⟨h1,fun j o hj k hk=>?_,fun j o hj d hd=>?_,fun j o k ok t hj hk ht hl=>?_,fun j o k ok t hj hk ht ho=>?_⟩
 ·have:=key j o hj;simp only [Bool.and_eq_true] at this
  simpa using List.all_eq_true.1 this.1.1 k hk
 ·have:=key j o hj;simp only [Bool.and_eq_true] at this;have:=this.1.2;rw [hd] at this
  simpa using this
 ·have:=key2 j o k ok t hj hk ht;simp only [Bool.and_eq_true,Bool.or_eq_true,Bool.not_eq_true'] at this
  rcases this.1 with h|h
  ·rw [List.contains_eq_mem,decide_eq_false_iff_not] at h;exact absurd hl h
  ·simpa using h
 ·have:=key2 j o k ok t hj hk ht;simp only [Bool.and_eq_true,Bool.or_eq_true,beq_iff_eq] at this
  rcases this.2 with h|h
  ·exact h
  ·rw [ho] at h;simp at h
structure InvD (n:Nat) (E:List Ent) (w0:World) (ρ:Nat→Value) (listed:Array Bool) (vals:Nat→Value) (ρa:Nat→Value) (a:Act) (w:World):Prop where
 ext:Ext w0 w
 st:St n ρa a
 φ:∀ k,listed.getD k false=true→∀ e,E[k]?=some e→e.φ (vals k) w
 at_:∀ k,listed.getD k false=true→∀ e d,E[k]?=some e→e.d=some d→ρa d=vals k
 miss:∀ t,(∀ k,listed.getD k false=true→∀ e,E[k]?=some e→e.d≠some t)→ρa t=ρ t
section
variable {P:Program} {n:Nat} {ops:Array Oper} {w0:World} {E:List Ent} {ρ:Nat→Value}
theorem qcq (hd:∀ (i:Nat) (o:Oper) (e:Ent),ops[i]?=some o→E[i]?=some e→EntOk e o) (hl:E.length=ops.size) (hS:ShapeP n ops) {listed:Array Bool} {vals ρa:Nat→Value} {a:Act} {w:World} (I:InvD n E w0 ρ listed vals ρa a w)
  (i:Nat) (ks:List Nat) (t:Nat) (h1:∀ (k:Nat) (e:Ent),E[k]?=some e→e.d=some t→k<i→listed.getD k false=true∧(e.v=none→k∈ks)) (h2:∀ (k:Nat) (e:Ent),E[k]?=some e→e.d=some t→listed.getD k false=true→k<i) :
  fr (E.take i) vals ks (sfr (E.take i) ρ) t=ρa t:=by
 have op_of:∀ (k:Nat) (e:Ent),E[k]?=some e→∃ o,ops[k]?=some o∧EntOk e o:=fun k e hk=>by
  have hlt:k<ops.size:=by
   rw [← hl]
   rcases Nat.lt_or_ge k E.length with h|h
   ·exact h
   ·rw [List.getElem?_eq_none h] at hk;cases hk
  exact ⟨ops[k],Array.getElem?_eq_getElem hlt,hd k _ e (Array.getElem?_eq_getElem hlt) hk⟩
 have uniq:∀ (k k':Nat) (e e':Ent),E[k]?=some e→E[k']?=some e'→e.d=some t→e'.d=some t→k'=k:=fun k k' e e' hk hk' hd1 hd2=>by
  obtain ⟨o,ho,hok⟩:=op_of k e hk;obtain ⟨o',ho',hok'⟩:=op_of k' e' hk';exact hS.uniq k o k' o' t ho ho' (hok'.d ▸ hd2) (hok.d ▸ hd1)
 have inE:∀ (k:Nat) (e:Ent),getL (E.take i) k=some e→E[k]?=some e∧k<i:=fun k e hk=>by
  rw [qo,List.getElem?_take] at hk
  split at hk
  ·exact ⟨hk,by assumption⟩
  ·cases hk
 by_cases hex:∃ (k:Nat) (e:Ent),E[k]?=some e∧e.d=some t∧k<i
 ·obtain ⟨k,e,hk,hdt,hki⟩:=hex;obtain ⟨hlis,hks⟩:=h1 k e hk hdt hki;obtain ⟨o,ho,hok⟩:=op_of k e hk;have hra:=I.at_ k hlis e t hk hdt;have hmem:e∈E.take i:=List.mem_of_getElem? (i:=k) (by rw [List.getElem?_take,if_pos hki];exact hk);have huE:∀ e'∈E.take i,e'.d=some t→e'=e:=fun e' he' hd'=>by
   obtain ⟨k',hk'⟩:=List.mem_iff_getElem?.1 he';have hk'':=(inE k' e' (by rw [qo];exact hk')).1;have:=uniq k k' e e' hk hk'' hdt hd';subst this;rw [hk] at hk'';exact (Option.some.inj hk'').symm
  cases hv:e.v with
  | some x=>
   have hx:vals k=x:=hok.v x hv _ _ (I.φ k hlis e hk);rw [qkr,qul _ _ (fun e' he' hd'=>by rw [huE e' he' hd'];exact hv) (.inr ⟨e,hmem,hdt⟩),hra,hx];intro k' _ φ hk';have:=huE _ (List.mem_of_getElem? (i:=k') (by rw [qo] at hk';exact hk')) rfl;rw [← this] at hv;cases hv
  | none=>
   obtain ⟨ed,ev,eφ⟩:=e;simp only at hdt hv;subst hdt hv;rw [qxl (k0:=k) rfl (fun k' φ hk'=>?_) _ _ (.inr ⟨hks rfl,eφ,by rw [qo,List.getElem?_take,if_pos hki];exact hk⟩),hra];exact uniq k k' _ _ hk (inE k' _ hk').1 rfl rfl
 ·have hno:∀ k e,E[k]?=some e→k<i→e.d≠some t:=fun k e hk hki hd=>hex ⟨k,e,hk,hd,hki⟩
  rw [qkr,qpz]
  ·refine (I.miss t fun k hk e he hd=>?_).symm;exact hno k e he (h2 k e he hd hk) hd
  ·intro e he hd;obtain ⟨k',hk'⟩:=List.mem_iff_getElem?.1 he;obtain ⟨h3,h4⟩:=inE k' e (by rw [qo];exact hk');exact absurd hd (hno k' e h3 h4)
  ·intro k' _ φ hk';obtain ⟨h3,h4⟩:=inE k' _ hk';exact hno k' _ h3 h4 rfl
theorem qt1 {o:Oper} {ρ1 ρ2:Nat→Value} (hsel:∀ cs b,o.op≠.select cs b) (h:∀ t∈o.looksAt ops,ρ1 t=ρ2 t):execOp (ev ρ1) o=execOp (ev ρ2) o:=by
 refine execOp_congr o hsel fun x hx=>?_;cases x with
 | tmp t=>exact h t (List.mem_append_left _ (List.mem_filterMap.2 ⟨.tmp t,by simpa using hx,rfl⟩))
 | const v=>rfl
 | global g=>rfl
 | func f=>rfl
theorem qfj {o oj:Oper} {j d:Nat} {want:Bool} (hg:o.guard=some (j,want)) (hj:ops[j]?=some oj) (hd:oj.dst=some d):d∈o.looksAt ops:=by
 refine List.mem_append_right _ ?_;simp [hg,hj,hd]
theorem qdy {o:Oper} {ρ' ρa:Nat→Value} {a:Act} {w:World} {K:Value→World→Prop} {K2:Act→World→Prop} {Q':Exit→Act→World→Prop} {i:Nat} (hi:ops[i]?=some o) (hS:ShapeP n ops)
  (ha:St n ρa a) (hag:∀ t∈o.looksAt ops,ρ' t=ρa t) (h:qbi P ops.toList o ρ' w K) (hk:∀ v w',K v w'→K2 (a.put o.dst v) w'):wpOp P ops Q' i K2 a w:=by
 have hsel:=Region.noSelect_spec hS.sel i o;have run:opV P o ρ' w K→Region.wanted o (yielded ops a.tmps)=true→wpOp P ops Q' i K2 a w:=fun h hw=>by
  unfold wpOp;rw [hi];simp only [hw,if_true];have hok:=qpl h;rw [qt1 (ops:=ops) (fun cs b=>hsel cs b hi) hag] at hok;exact .inl (OpOk.wp ha.eval hok hk)
 have skip:K undef w→Region.wanted o (yielded ops a.tmps)=false→wpOp P ops Q' i K2 a w:=fun h hw=>by
  unfold wpOp;rw [hi];simp only [hw,Bool.false_eq_true,if_false];exact hk _ _ h
 unfold qbi at h
 split at h
 ·rename_i hg
  exact run h (by simp [Region.wanted,hg])
 ·rename_i j want hg
  split at h
  ·rename_i hj
   rw [qo] at hj;have:ops[j]?=none:=by simpa using hj
   exact skip h (by simp [Region.wanted,hg,yielded,this])
  ·rename_i oj hj
   have hj':=hj;rw [qo] at hj';have hoj:ops[j]?=some oj:=by simpa using hj'
   split at h
   ·rename_i hd
    exact skip h (by simp [Region.wanted,hg,yielded,hoj,hd])
   ·rename_i d hd
    have hy:=ha.yield hj hd (hS.dn j oj hoj d hd);rw [Array.toArray_toList] at hy;rw [hag d (qfj hg hoj hd)] at h
    split at h
    ·rename_i b hb
     rw [hb] at hy;cases b
     ·have h:=h.f rfl;cases want
      ·exact run h (by simp [Region.wanted,hg,hy])
      ·exact skip h (by simp [Region.wanted,hg,hy])
     ·have h:=h.t rfl;cases want
      ·exact skip h (by simp [Region.wanted,hg,hy])
      ·exact run h (by simp [Region.wanted,hg,hy])
    ·rename_i hb
     refine skip h ?_;have:yielded ops a.tmps j=none:=by
      rw [hy]
      split
      ·rename_i b hb';exact absurd hb' (hb b)
      ·rfl
     simp [Region.wanted,hg,this]
theorem qe (m j:Nat):(Array.replicate m false).getD j false=false:=by
 rcases Nat.lt_or_ge j m with h|h
 ·simp [h]
 ·simp [h]
theorem qcf (listed:Array Bool) (i:Nat) (hi:listed.getD i true=false):(listed.setIfInBounds i true).toList.count false+1=listed.toList.count false:=by
 have hlt:i<listed.toList.length:=by
  rcases Nat.lt_or_ge i listed.size with h|h
  ·simpa using h
  ·simp [Array.getElem?_eq_none h] at hi
 have hv:listed.toList[i]=false:=by
  have h':i<listed.size:=by simpa using hlt
  simpa [h'] using hi
 rw [Array.toList_setIfInBounds];have:∀ (l:List Bool) (i:Nat) (h:i<l.length),l[i]=false→(l.set i true).count false+1=l.count false:=by
  intro l
  induction l with
  | nil=>intro i h;simp at h
  | cons b l ih=>
   intro i h hb;cases i with
   | zero=>simp at hb;subst hb;simp
   | succ i=>
    have:=ih i (by simpa using h) (by simpa using hb);cases b<;>simp<;>omega
 exact this _ _ hlt hv
theorem qr1 {Q:(Nat→Value)→World→Prop} {Q':Exit→Act→World→Prop} (hQ:∀ ρ a w,St n ρ a→Q ρ w→Q' .normal a w) (hS:ShapeP n ops) (hl:E.length=ops.size)
  (hE:∀ (i:Nat) (o:Oper) (e:Ent),ops[i]?=some o→E[i]?=some e→EntOk e o∧
   ∀ w,Ext w0 w→allv (E.take i) (qu o) (sfr (E.take i) ρ) w fun ρ'=>qbi P ops.toList o ρ' w fun v w'=>Ext w w'∧e.φ v w')
  (hF:∃ ks:List Nat,(∀ k d φ,getL E k=some ⟨some d,none,φ⟩→k∈ks)∧∀ w,Ext w0 w→allv E ks (sfr E ρ) w fun ρ'=>Q ρ' w) :
  ∀ (fuel:Nat) (listed:Array Bool) (vals ρa:Nat→Value) (a:Act) (w:World),listed.size=ops.size→listed.toList.count false≤fuel→InvD n E w0 ρ listed vals ρa a w→wpAny P .any ops Q' fuel listed a w:=by
 obtain ⟨ks,hks,hF⟩:=hF;have hd:∀ (i:Nat) (o:Oper) (e:Ent),ops[i]?=some o→E[i]?=some e→EntOk e o:=fun i o e h1 h2=>(hE i o e h1 h2).1
 have hlt:∀ (k:Nat) (e:Ent),E[k]?=some e→k<ops.size:=fun k e hk=>by
  rw [← hl]
  rcases Nat.lt_or_ge k E.length with h|h
  ·exact h
  ·rw [List.getElem?_eq_none h] at hk;cases hk
 have final:∀ (listed:Array Bool) (vals ρa:Nat→Value) (a:Act) (w:World),(∀ k,k<ops.size→listed.getD k false=true)→InvD n E w0 ρ listed vals ρa a w→Q' .normal a w:=fun listed vals ρa a w hall I=>by
  have h:=qj8 (vals:=vals) _ _ (fun k _ e hk=>by
   rw [qo] at hk;exact I.φ k (hall k (hlt k e hk)) e hk) (hF w I.ext)
  have he:fr E vals ks (sfr E ρ)=ρa:=by
   funext t
   have:=qcq hd hl hS I E.length ks t (fun k e hk hdt hki=>⟨hall k (hlt k e hk),fun hv=>hks k t e.φ (by
    obtain ⟨ed,ev,eφ⟩:=e;simp only at hdt hv;subst hdt hv;rw [qo];exact hk)⟩) (fun k e hk _ _=>by rw [hl];exact hlt k e hk)
   rwa [List.take_length] at this
  rw [he] at h;exact hQ _ _ _ I.st h
 have nodone:∀ (listed:Array Bool),listed.size=ops.size→Region.ready .any ops listed=[]→∀ k,k<ops.size→listed.getD k false=true:=fun listed hsz hr k hk=>by
  induction k using Nat.strongRecOn with
  | _ k ih=>
   cases hv:listed.getD k false with
   | true=>rfl
   | false=>
    exfalso
    have hmem:k∈Region.ready .any ops listed:=by
     refine mem_ready.2 ⟨?_,ops[k],Array.getElem?_eq_getElem hk,fun e he hb=>?_⟩
     ·have:k<listed.size:=by omega
      simp [this] at hv ⊢;exact hv
     ·rw [qbx] at hb;have hp:e.on∈qu ops[k]:=qa3.2 ⟨e,by simpa using he,hb,rfl⟩;have h1:=hS.lt k _ (Array.getElem?_eq_getElem hk) _ hp;exact ih _ h1 (by omega)
    rw [hr] at hmem;cases hmem
 intro fuel
 induction fuel with
 | zero=>
  intro listed vals ρa a w hsz hc I;have hall:∀ k,k<ops.size→listed.getD k false=true:=fun k hk=>by
   have h0:listed.toList.count false=0:=by omega
   have h1:=List.count_eq_zero.1 h0;have hk':k<listed.size:=by omega
   cases hv:listed[k] with
   | true=>simp [hk',hv]
   | false=>exact absurd (by rw [← hv];exact Array.mem_toList_iff.2 (Array.getElem_mem hk')) h1
  refine ⟨?_,final listed vals ρa a w hall I⟩;rw [List.eq_nil_iff_forall_not_mem];intro j hj;obtain ⟨h1,o,ho,_⟩:=mem_ready.1 hj;have h2:=hall j (Array.getElem?_eq_some_iff.1 ho).1;have hk':j<listed.size:=by have:=(Array.getElem?_eq_some_iff.1 ho).1;omega
  simp [hk'] at h1 h2;rw [h1] at h2;cases h2
 | succ fuel ih=>
  intro listed vals ρa a w hsz hc I;refine ⟨fun hr=>final listed vals ρa a w (nodone listed hsz hr) I,fun i hi=>?_⟩;obtain ⟨hun,o,ho,hall⟩:=mem_ready.1 hi;have hio:i<ops.size:=(Array.getElem?_eq_some_iff.1 ho).1;have hiE:i<E.length:=by omega
  obtain ⟨hok,hspec⟩:=hE i o E[i] ho (List.getElem?_eq_getElem hiE);have hpl:∀ k∈qu o,listed.getD k false=true:=fun k hk=>by
   obtain ⟨e,he,hb,hon⟩:=qa3.1 hk;rw [← hon];exact hall e (by simpa using he) (by rw [qbx];exact hb)
  have h:=qj8 (vals:=vals) _ _ (fun k hk e he=>by
   rw [qo,List.getElem?_take,if_pos (hS.lt i o ho k hk)] at he;exact I.φ k (hpl k hk) e he) (hspec w I.ext)
  have hag:∀ t∈o.looksAt ops,fr (E.take i) vals (qu o) (sfr (E.take i) ρ) t=ρa t:=fun t ht=>by
   have hp:∀ (k:Nat) (e:Ent),E[k]?=some e→e.d=some t→k∈qu o:=fun k e hk hdt=>by
    have hk':=hlt k e hk;exact hS.look i o k ops[k] t ho (Array.getElem?_eq_getElem hk') ((hd k _ e (Array.getElem?_eq_getElem hk') hk).d ▸ hdt) ht
   exact qcq hd hl hS I i (qu o) t (fun k e hk hdt _=>⟨hpl k (hp k e hk hdt),fun _=>hp k e hk hdt⟩) (fun k e hk hdt _=>hS.lt i o ho k (hp k e hk hdt))
  refine qdy ho hS I.st hag h fun v w' ⟨hx,hφ⟩=>?_;have hgd:∀ k,(listed.setIfInBounds i true).getD k false=true→k=i∨(k≠i∧listed.getD k false=true):=fun k hk=>by
   by_cases hki:k=i
   ·exact .inl hki
   ·rw [getD_set_ne false (fun e=>hki e.symm)] at hk;exact .inr ⟨hki,hk⟩
  have hnl:listed.getD i false=false:=by
   have:i<listed.size:=by omega
   simp [this] at hun ⊢;exact hun
  refine ih _ (fun k=>if k=i then v else vals k) (match o.dst with|some d=>upd ρa d v|none=>ρa) _ _ (by simp [hsz]) (by have:=qcf listed i hun;omega) ⟨I.ext.trans hx,?_,?_,?_,?_⟩
  ·cases hdd:o.dst with
   | none=>exact I.st
   | some d=>exact I.st.put (hS.dn i o ho d hdd) v
  ·intro k hk e he
   rcases hgd k hk with rfl|⟨hki,hk⟩
   ·rw [List.getElem?_eq_getElem hiE] at he;cases he
    simpa using hφ
   ·simp only [if_neg hki];have hk':=hlt k e he;exact (hd k _ e (Array.getElem?_eq_getElem hk') he).st _ _ _ (I.φ k hk e he) hx
  ·intro k hk e d he hdd
   rcases hgd k hk with rfl|⟨hki,hk⟩
   ·rw [List.getElem?_eq_getElem hiE] at he;cases he;rw [hok.d] at hdd;simp [hdd,qdk]
   ·simp only [if_neg hki];have hk':=hlt k e he;have hd2:=(hd k _ e (Array.getElem?_eq_getElem hk') he).d;cases ho2:o.dst with
    | none=>exact I.at_ k hk e d he hdd
    | some d2=>
     have hne:d≠d2:=by
      rintro rfl;exact hki (hS.uniq i o k _ d ho (Array.getElem?_eq_getElem hk') (hd2 ▸ hdd) ho2)
     simp only;rw [qam _ _ _ _ hne];exact I.at_ k hk e d he hdd
  ·intro t ht;have h1:ρa t=ρ t:=I.miss t fun k hk e he=>ht k (by
    by_cases hki:k=i
    ·subst hki;rw [hnl] at hk;cases hk
    ·rw [getD_set_ne false (fun e=>hki e.symm)];exact hk) e he
   cases ho2:o.dst with
   | none=>exact h1
   | some d2=>
    have hne:t≠d2:=by
     rintro rfl;refine ht i ?_ E[i] (List.getElem?_eq_getElem hiE) (by rw [hok.d,ho2]);have:i<listed.size:=by omega
     simp [this]
    simp only;rw [qam _ _ _ _ hne];exact h1
end
theorem DrawV.free {P:Program} {n id:Nat} {ops:Array Oper} {Q:Exit→(Nat→Value)→World→Prop} {ρ:Nat→Value} {w:World} (hm:P.follows .mixedOrders=true) (hB:qj1 n ops=true)
  (h:regD P ops.toList w.drew (fun ρ' w'=>Q .normal ρ' w') ops.toList 0 [] ρ):DrawV P n id ops Q ρ w:=by
 refine ⟨fun a ha=>wp_region_any hm ?_⟩;obtain ⟨E,h1,h2,h3⟩:=qpq ops.toList [] [] ρ (fun k=>rfl) h;refine qr1 (Q:=fun ρ' w'=>Q .normal ρ' w') (E:=E) (w0:=w.drew) (ρ:=ρ) (fun ρ a w h1 h2=>⟨ρ,h1,h2⟩) (qfx hB) (by simpa using h1) (fun i o e ho he=>?_) (by simpa using h3) _ _ (fun _=>undef) ρ a _ (by simp) (by simp) ⟨Ext.refl _,ha,?_,?_,fun t _=>rfl⟩
 ·have:=h2 i o e (by simpa using ho) he
  simpa using this
 ·intro k hk;rw [qe] at hk;cases hk
 ·intro k hk;rw [qe] at hk;cases hk
end V
end Go.Proofs.YtajgbepghniciaaGreatDoor
namespace Go.Proofs.YtajgbepghniciaaGreatDoor
open Go.RowKit
namespace V
def resC (P:Program) (ρ:Nat→Value) (w:World):List ResultVar→(List Value→Prop)→Prop
 | [],K=>K []
 | .tmp t::l,K=>qgj (ρ t) fun v=>resC P ρ w l fun vs=>K (v::vs)
 | .cell c ty::l,K=>qqs P ty (ρ c) w fun v=>resC P ρ w l fun vs=>K (v::vs)
def one (vs:List Value):Value:=
 match vs with
 | [v]=>v
 | l=>.tuple l.toArray
theorem qqt {P:Program} {w:World} {t:TypeId} {x:Value} {K:Value→Prop} (h:qqs P t x w K):∃ v,(do loadVar t (← asAddr x):Sem Value).run P w=.ok v w∧K v:=by
 unfold qqs at h
 split at h
 ·rename_i d b off hu
  cases ha:aggD d<;>rw [ha] at h
  ·obtain ⟨v,hv,hk⟩:=h;rw [qa4] at hk;refine ⟨v,?_,hk⟩;simp [asAddr,loadVar,qc4 hu,ha,go_sem,hv]
  ·cases hT:hasT P t<;>rw [hT] at h
   ·exact h.elim
   ·obtain ⟨cs,hl,hc,hk⟩:=h;rw [qak] at hk;refine ⟨_,?_,hk⟩;have:=run_loadCells_list (P:=P) w ⟨b,off,none⟩ cs (fun j v hv=>by
     have hj:j<cs.length:=by
      rcases Nat.lt_or_ge j cs.length with h|h
      ·exact h
      ·rw [List.getElem?_eq_none h] at hv;cases hv
     rw [qai,hc j (by omega)];exact hv)
    simp [asAddr,loadVar,qc4 hu,ha,qx hT,← hl,this]
 ·exact h.elim
theorem qy8 {P:Program} {ρ:Nat→Value} {w:World} {tmps:Array Value} (hρ:∀ t,tmps.getD t undef=ρ t) (l:List ResultVar):∀ K:List Value→Prop,resC P ρ w l K→
  ∃ vs,(l.mapM (resF tmps)).run P w=.ok vs w∧K vs:=by
 induction l with
 | nil=>intro K h;exact ⟨[],by simp,h⟩
 | cons x l ih=>
  intro K h;cases x with
  | tmp t=>
   simp only [resC,qa4] at h;obtain ⟨vs,h1,h2⟩:=ih _ h;exact ⟨ρ t::vs,by rw [List.mapM_cons];simp only [Sem.run_bind,resF,Sem.run_pure,Result.andThen_ok,hρ];rw [h1];rfl,h2⟩
  | cell c ty=>
   simp only [resC] at h;obtain ⟨v,hv,hk⟩:=qqt h;obtain ⟨vs,h1,h2⟩:=ih _ hk;refine ⟨v::vs,?_,h2⟩;have e:resF tmps (.cell c ty)=(do loadVar ty (← asAddr (ρ c))):=by rw [← hρ];rfl
   rw [List.mapM_cons,Sem.run_bind,e,hv,Result.andThen_ok,Sem.run_bind,h1];rfl
theorem qa {P:Program} {n:Nat} {fn:Func} {ρ:Nat→Value} {w:World} {R:Value→World→Prop} (h:resC P ρ w fn.results.toList fun vs=>R (one vs) w) :
  ∀ a,St n ρ a→∃ v,(results fn a.tmps).run P w=.ok v w∧R v w:=by
 intro a ha;obtain ⟨vs,h1,h2⟩:=qy8 ha.get fn.results.toList _ h;refine ⟨one vs,?_,h2⟩;have e:results fn a.tmps=(do let vs ← fn.results.mapM (resF a.tmps);pure (if h:vs.size=1 then vs[0] else .tuple vs)):=by
  unfold results;congr 1
 rw [e,Array.mapM_eq_mapM_toList];simp [h1]
 match vs with
 | [v]=>rfl
 | []=>rfl
 | v::u::l=>simp [one]
end V
end Go.Proofs.YtajgbepghniciaaGreatDoor
namespace Go.Proofs.YtajgbepghniciaaGreatDoor
open Go.RowKit
namespace V
structure Chg (w w':World) (B:List (Option Nat)):Prop where
 os:w'.os=w.os
 tape:w'.tape=w.tape
 output:w'.output=w.output
 size:w.heap.size≤w'.heap.size
 block:∀ k,k<w.heap.size→some k∉B→w'.heap[k]?=w.heap[k]?
theorem Chg.ext {w w':World} {B:List (Option Nat)} (h:Ext w w'):Chg w w' B:=⟨h.os,h.tape,h.output,h.size,fun k hk _=>h.block k hk⟩
structure EntO where
 d:Option Tmp
 v:Option Value
 u:Option Nat
 φ:Value→World→Prop
def EntO.plain (e:EntO):Ent:=⟨e.d,e.v,fun x _=>∀ c,e.v=some c→x=c⟩
def qv9 (u:Option Nat) (i:Option Nat):Bool:=
 match u with
 | none=>true
 | some a=>match i with
  | none=>false
  | some b=>Nat.beq a b
abbrev AL:=List (Nat × Nat × Option Nat × (Value→World→Prop))
def qen:AL→Nat→Option (Nat × Option Nat × (Value→World→Prop))
 | [],_=>none
 | (i,x)::es,k=>bif Nat.beq i k then some x else qen es k
def allO (base:Nat) (es:AL) (i:Option Nat):List Nat→(Nat→Value)→World→((Nat→Value)→Prop)→Prop
 | [],ρ,_,K=>K ρ
 | k::ks,ρ,w,K=>
  match qen es k with
  | some (d,u,φ)=>bif qv9 u i then ∀ v,φ v w→(∀ g,v.ownBlock=some g→base≤g∧g<w.heap.size)→allO base es i ks (upd ρ d v) w K else ∀ v,allO base es i ks (upd ρ d v) w K
  | none=>allO base es i ks ρ w K
def qhn (es:AL) (i:Nat):List Nat→(Nat→Value)→List (Option Nat)
 | [],_=>[]
 | k::ks,ρ=>
  match qen es k with
  | some (d,u,_)=>match u with
   | some j=>bif Nat.beq j i then (ρ d).ownBlock::qhn es i ks ρ else qhn es i ks ρ
   | none=>qhn es i ks ρ
  | none=>qhn es i ks ρ
def idxO:AL→List Nat
 | []=>[]
 | (i,_)::es=>i::idxO es
def qra (k:Nat) (u:Option Nat) (φ:Value→World→Prop) (es:AL):Option Tmp→Option Value→AL
 | some d,none=>(k,d,u,φ)::es
 | _,_=>es
def Loc (base:Nat) (φ:Value→World→Prop):Prop:=
 ∀ v w w',φ v w→(∀ k,k<w.heap.size→(k<base∨v.ownBlock=some k)→w'.heap[k]?=w.heap[k]?)→w.heap.size≤w'.heap.size→φ v w'
def PostO (w:World) (B:List (Option Nat)) (still:Bool) (φ:Value→World→Prop) (v:Value) (w':World):Prop:=
 Chg w w' B∧φ v w'∧(still=false→∀ g,v.ownBlock=some g→g<w'.heap.size∧(some g∈B∨w.heap.size≤g))
structure StepO (base:Nat) (A:Bool→(Value→World→Prop)→Prop) (K:Option Value→Option Nat→(Value→World→Prop)→Prop):Prop where
 h:(∃ v,A true (fun u _=>u=v)∧K (some v) none (fun u _=>u=v))∨(∃ u φ,Loc base φ∧A false φ∧K none u φ)
theorem StepO.still {base:Nat} {A:Bool→(Value→World→Prop)→Prop} {K:Option Value→Option Nat→(Value→World→Prop)→Prop} (v:Value) (h:A true (fun u _=>u=v)) (hk:K (some v) none (fun u _=>u=v)):StepO base A K:=⟨.inl ⟨v,h,hk⟩⟩
def regO (P:Program) (ops:List Oper) (w0:World) (Q:(Nat→Value)→World→Prop):List Oper→Nat→AL→(Nat→Value)→Prop
 | [],_,_,_=>False
 | [o],k,es,ρ=>∀ w,Ext w0 w→allO w0.heap.size es (some k) (idxO es) ρ w fun ρ'=>qbi P ops o ρ' w fun v w'=>Q (updO ρ' o.dst (some v)) w'
 | o::l,k,es,ρ=>StepO w0.heap.size
   (fun still φ=>∀ w,Ext w0 w→allO w0.heap.size es (some k) (qu o) ρ w fun ρ'=>qbi P ops o ρ' w (PostO w (qhn es k (qu o) ρ') still φ))
   (fun v u φ=>regO P ops w0 Q l (k+1) (qra k u φ es o.dst v) (updO ρ o.dst v))
structure EntOkO (base:Nat) (e:EntO) (o:Oper):Prop where
 d:e.d=o.dst
 loc:Loc base e.φ
 st:e.v≠none→∀ x w w',e.φ x w→e.φ x w'
 v:∀ c,e.v=some c→∀ x w,e.φ x w→x=c
def AgreeO (es:AL) (F:List EntO):Prop:=
 ∀ k,(match getL F k with|some ⟨some d,none,u,φ⟩=>qen es k=some (d,u,φ)|_=>qen es k=none)
theorem AgreeO.look {es:AL} {F:List EntO} (h:AgreeO es F) {k d:Nat} {u:Option Nat} {φ:Value→World→Prop}:qen es k=some (d,u,φ)↔F[k]?=some ⟨some d,none,u,φ⟩:=by
 have hk:=h k;rw [qo] at hk
 constructor
 ·intro hl
  split at hk
  ·rename_i d' u' φ' hg
   rw [hk] at hl;cases hl;exact hg
  ·rw [hk] at hl;cases hl
 ·intro hg;rw [hg] at hk;exact hk
theorem qwf {es:AL} {k:Nat} {x:Nat × Option Nat × (Value→World→Prop)} (h:qen es k=some x):k∈idxO es:=by
 induction es with
 | nil=>cases h
 | cons y es ih=>
  obtain ⟨i,z⟩:=y;simp only [qen] at h;cases hb:Nat.beq i k<;>rw [hb] at h
  ·exact List.mem_cons_of_mem _ (ih h)
  ·rw [Nat.eq_of_beq_eq_true hb];exact List.mem_cons_self ..
theorem AgreeO.push {es:AL} {F:List EntO} (h:AgreeO es F) (dst:Option Tmp) (v:Option Value) (u:Option Nat) (φ:Value→World→Prop):AgreeO (qra F.length u φ es dst v) (F++[⟨dst,v,u,φ⟩]):=by
 intro k;have hk:=h k;have hg:∀ k,k<F.length→getL (F++[⟨dst,v,u,φ⟩]) k=getL F k:=fun k hk=>by rw [qo,qo,List.getElem?_append_left hk]
 have hlast:getL (F++[⟨dst,v,u,φ⟩]) F.length=some ⟨dst,v,u,φ⟩:=by rw [qo,List.getElem?_append_right (Nat.le_refl _)];simp
 have hnone:∀ k,F.length≤k→getL F k=none:=fun k hk=>by rw [qo,List.getElem?_eq_none hk]
 have hout:∀ k,F.length<k→getL (F++[⟨dst,v,u,φ⟩]) k=none:=fun k hk=>by rw [qo,List.getElem?_eq_none (by simp;omega)]
 have hL:qen es F.length=none:=by have:=h F.length;rw [hnone _ (Nat.le_refl _)] at this;exact this
 have other:k≠F.length→qen (qra F.length u φ es dst v) k=qen es k:=fun hne=>by
  unfold qra
  split
  ·have:Nat.beq F.length k=false:=Bool.eq_false_iff.2 fun e=>hne (Nat.eq_of_beq_eq_true e).symm
   simp only [qen,this,cond_false]
  ·rfl
 rcases Nat.lt_trichotomy k F.length with hlt|rfl|hgt
 ·rw [hg k hlt,other (by omega)];exact hk
 ·rw [hlast];have hrefl:Nat.beq F.length F.length=true:=by simp
  cases dst with
  | none=>exact hL
  | some d=>
   cases v with
   | none=>simp only [qra,qen,hrefl,cond_true]
   | some v=>exact hL
 ·rw [hout k hgt,other (by omega)];rw [hnone k (by omega)] at hk;exact hk
section
variable {P:Program} {n:Nat} {ops:List Oper} {w0:World}
def qxz (P:Program) (ops:List Oper) (w0:World) (F:List EntO) (ρ0:Nat→Value) (i:Nat) (o:Oper) (e:EntO):Prop:=
 EntOkO w0.heap.size e o∧∃ es,AgreeO es (F.take i)∧∀ w,Ext w0 w→allO w0.heap.size es (some i) (qu o) (sfr ((F.take i).map EntO.plain) ρ0) w fun ρ'=>
  qbi P ops o ρ' w (PostO w (qhn es i (qu o) ρ') e.v.isSome e.φ)
theorem qws {Q:(Nat→Value)→World→Prop} (l:List Oper):∀ (es:AL) (F:List EntO) (ρ0:Nat→Value),AgreeO es F→regO P ops w0 Q l F.length es (sfr (F.map EntO.plain) ρ0)→
  ∃ (E:List EntO) (o:Oper),E.length+1=l.length∧l[E.length]?=some o∧(∀ i o' e,l[i]?=some o'→E[i]?=some e→qxz P ops w0 (F++E) ρ0 (F.length+i) o' e)∧
   ∃ es',AgreeO es' (F++E)∧∀ w,Ext w0 w→allO w0.heap.size es' (some (F++E).length) (idxO es') (sfr ((F++E).map EntO.plain) ρ0) w fun ρ'=>
    qbi P ops o ρ' w fun v w'=>Q (updO ρ' o.dst (some v)) w':=by
 induction l with
 | nil=>intro es F ρ0 _ h;exact h.elim
 | cons o l ih=>
  intro es F ρ0 hAg h;cases l with
  | nil=>
   refine ⟨[],o,rfl,rfl,fun i o' e _ he=>by simp at he,es,by simpa using hAg,?_⟩
   simpa [regO] using h
  | cons o2 l=>
   have key:∀ (v:Option Value) (u:Option Nat) (φ:Value→World→Prop),EntOkO w0.heap.size ⟨o.dst,v,u,φ⟩ o→
     (∀ w,Ext w0 w→allO w0.heap.size es (some F.length) (qu o) (sfr (F.map EntO.plain) ρ0) w fun ρ'=>qbi P ops o ρ' w (PostO w (qhn es F.length (qu o) ρ') v.isSome φ))→
     regO P ops w0 Q (o2::l) (F.length+1) (qra F.length u φ es o.dst v) (updO (sfr (F.map EntO.plain) ρ0) o.dst v)→
     ∃ (E:List EntO) (o':Oper),E.length+1=(o::o2::l).length∧(o::o2::l)[E.length]?=some o'∧(∀ i o' e,(o::o2::l)[i]?=some o'→E[i]?=some e→qxz P ops w0 (F++E) ρ0 (F.length+i) o' e)∧
      ∃ es',AgreeO es' (F++E)∧∀ w,Ext w0 w→allO w0.heap.size es' (some (F++E).length) (idxO es') (sfr ((F++E).map EntO.plain) ρ0) w fun ρ'=>
       qbi P ops o' ρ' w fun v w'=>Q (updO ρ' o'.dst (some v)) w':=fun v u φ hok hA hK=>by
    have e1:updO (sfr (F.map EntO.plain) ρ0) o.dst v=sfr ((F++[(⟨o.dst,v,u,φ⟩:EntO)]).map EntO.plain) ρ0:=by rw [List.map_append,qek];rfl
    have e2:F.length+1=(F++[(⟨o.dst,v,u,φ⟩:EntO)]).length:=by simp
    rw [e1,e2] at hK;obtain ⟨E,o',h1,h2,h3,es',h4,h5⟩:=ih _ _ ρ0 (hAg.push o.dst v u φ) hK;refine ⟨⟨o.dst,v,u,φ⟩::E,o',by simp only [List.length_cons] at h1 ⊢;omega,by simpa using h2,fun i o' e hi he=>?_,es',by simpa using h4,by simpa using h5⟩;cases i with
    | zero=>
     simp at hi he;subst hi he;refine ⟨hok,es,by simpa using hAg,?_⟩
     simpa using hA
    | succ i=>
     simp at hi he;have:=h3 i o' e hi he
     simpa [Nat.add_assoc,Nat.add_comm 1 i] using this
   obtain ⟨v,hA,hK⟩|⟨u,φ,hl,hA,hK⟩:=h.h
   ·exact key (some v) none _ ⟨rfl,fun _ _ _ h _ _=>h,fun _ _ _ _ h=>h,fun c hc x w hx=>by cases hc;exact hx⟩ hA hK
   ·exact key none u φ ⟨rfl,hl,fun h=>absurd rfl h,fun c hc=>by cases hc⟩ hA hK
theorem qmi {F:List EntO} {k:Nat}:getL (F.map EntO.plain) k=(F[k]?).map EntO.plain:=by rw [qo,List.getElem?_map]
theorem qr8 {base:Nat} {es:AL} {i:Option Nat} {F:List EntO} {vals:Nat→Value} {w:World} {K:(Nat→Value)→Prop} (hA:AgreeO es F):∀ (ks:List Nat) (ρ:Nat→Value),
  (∀ k∈ks,∀ e,F[k]?=some e→e.v=none→qv9 e.u i=true→e.φ (vals k) w∧∀ g,(vals k).ownBlock=some g→base≤g∧g<w.heap.size)→allO base es i ks ρ w K→K (fr (F.map EntO.plain) vals ks ρ):=by
 intro ks
 induction ks with
 | nil=>intro ρ _ h;exact h
 | cons k ks ih=>
  intro ρ hv h;have hv':=fun k' (hk':k'∈ks)=>hv k' (List.mem_cons_of_mem _ hk')
  unfold allO at h;rw [fr];cases hl:qen es k with
  | none=>
   rw [hl] at h;rw [qhq]
   ·exact ih _ hv' h
   ·intro d φ hg;rw [qmi] at hg;obtain ⟨e,he,hp⟩:=Option.map_eq_some_iff.1 hg;obtain ⟨ed,ev,eu,eφ⟩:=e;simp only [EntO.plain,Ent.mk.injEq] at hp;obtain ⟨h1,h2,_⟩:=hp;subst h1 h2;rw [hA.look.2 he] at hl;cases hl
  | some x=>
   obtain ⟨d,u,φ⟩:=x;have hg:=hA.look.1 hl;rw [hl] at h;simp only at h;rw [qfg (d:=d) (φ:=(EntO.plain ⟨some d,none,u,φ⟩).φ) (by rw [qmi,hg];rfl)];cases hb:qv9 u i<;>rw [hb] at h
   ·exact ih _ hv' (h _)
   ·obtain ⟨h1,h2⟩:=hv k (List.mem_cons_self ..) _ hg rfl hb;exact ih _ hv' (h _ h1 h2)
theorem qu3 {es:AL} {i:Nat} {ρ:Nat→Value} {g:Nat}:∀ ks,some g∈qhn es i ks ρ→∃ k d φ,k∈ks∧qen es k=some (d,some i,φ)∧(ρ d).ownBlock=some g:=by
 intro ks
 induction ks with
 | nil=>intro h;cases h
 | cons k ks ih=>
  intro h;have next:some g∈qhn es i ks ρ→∃ k' d φ,k'∈k::ks∧qen es k'=some (d,some i,φ)∧(ρ d).ownBlock=some g:=fun h=>by
   obtain ⟨k',d,φ,h1,h2,h3⟩:=ih h;exact ⟨k',d,φ,List.mem_cons_of_mem _ h1,h2,h3⟩
  unfold qhn at h
  split at h
  ·rename_i d u φ hl
   split at h
   ·rename_i j
    cases hb:Nat.beq j i<;>rw [hb] at h
    ·exact next h
    ·have:=Nat.eq_of_beq_eq_true hb;subst this
     rcases List.mem_cons.1 h with h|h
     ·exact ⟨k,d,φ,List.mem_cons_self ..,hl,h.symm⟩
     ·exact next h
   ·exact next h
  ·exact next h
structure InvO (F:List EntO) (w0:World) (listed:Array Bool) (vals:Nat→Value) (w:World):Prop where
 φ:∀ (k:Nat) (e:EntO),F[k]?=some e→listed.getD k false=true→(∀ j,e.u=some j→listed.getD j false=false)→e.φ (vals k) w
 own:∀ (k:Nat) (e:EntO) (g:Nat),F[k]?=some e→e.v=none→listed.getD k false=true→(∀ j,e.u=some j→listed.getD j false=false)→(vals k).ownBlock=some g→w0.heap.size≤g∧g<w.heap.size
 apart:∀ (k k':Nat) (e e':EntO) (g:Nat),F[k]?=some e→F[k']?=some e'→e.v=none→e'.v=none→listed.getD k false=true→listed.getD k' false=true→
  (∀ j,e.u=some j→listed.getD j false=false)→(∀ j,e'.u=some j→listed.getD j false=false)→k≠k'→(vals k).ownBlock=some g→(vals k').ownBlock≠some g
theorem qh9 {u:Option Nat} {i:Nat} {listed:Array Bool} (h:qv9 u (some i)=true) (hi:listed.getD i false=false):∀ j,u=some j→listed.getD j false=false:=by
 intro j hj;subst hj;have:j=i:=Nat.eq_of_beq_eq_true h;rw [this];exact hi
end
theorem qr0 {P:Program} {md:Region.Mode} {ops:Array Oper} {Q:Exit→Act→World→Prop} {listed:Array Bool} {a:Act} {w:World} (hr:Region.ready md ops listed=[]) (h:Q .normal a w):∀ fuel,wpAny P md ops Q fuel listed a w
 | 0=>⟨hr,h⟩
 | _+1=>⟨fun _=>h,by rw [hr];simp⟩
theorem qfs {ops:Array Oper} {listed:Array Bool} {md:Region.Mode} (h:∀ k,k<ops.size→listed.getD k true=true):Region.ready md ops listed=[]:=by
 rw [List.eq_nil_iff_forall_not_mem];intro j hj;obtain ⟨h1,o,ho,_⟩:=mem_ready.1 hj;rw [h j (Array.getElem?_eq_some_iff.1 ho).1] at h1;cases h1
theorem qgs {n:Nat} {ops:Array Oper} (hS:ShapeP n ops) {listed:Array Bool} (hsz:listed.size=ops.size) (hr:Region.ready .any ops listed=[]) (k:Nat) (hk:k<ops.size):listed.getD k false=true:=by
 induction k using Nat.strongRecOn with
 | _ k ih=>
  cases hv:listed.getD k false with
  | true=>rfl
  | false=>
   exfalso
   have hmem:k∈Region.ready .any ops listed:=by
    refine mem_ready.2 ⟨?_,ops[k],Array.getElem?_eq_getElem hk,fun e he hb=>?_⟩
    ·have:k<listed.size:=by omega
     simp [this] at hv ⊢;exact hv
    ·rw [qbx] at hb;have hp:e.on∈qu ops[k]:=qa3.2 ⟨e,by simpa using he,hb,rfl⟩;have h1:=hS.lt k _ (Array.getElem?_eq_getElem hk) _ hp;exact ih _ h1 (by omega)
   rw [hr] at hmem;cases hmem
theorem qbq {listed:Array Bool} {i:Nat} (hi:i<listed.size):listed.getD i true=listed.getD i false:=by simp [hi]
theorem InvD.step {n:Nat} {ops:Array Oper} {E:List Ent} {w0 w w':World} {ρ:Nat→Value} {listed:Array Bool} {vals ρa:Nat→Value} {a:Act} {i:Nat} {o:Oper} {e:Ent} {v:Value} (hS:ShapeP n ops) (hl:E.length=ops.size)
  (hd:∀ (i:Nat) (o:Oper) (e:Ent),ops[i]?=some o→E[i]?=some e→EntOk e o) (hfree:∀ (k:Nat) (e:Ent),E[k]?=some e→∀ x w w',e.φ x w→e.φ x w')
  (I:InvD n E w0 ρ listed vals ρa a w) (hsz:listed.size=ops.size) (ho:ops[i]?=some o) (he:E[i]?=some e) (hun:listed.getD i false=false) (hx:Ext w0 w') (hφ:e.φ v w') :
  InvD n E w0 ρ (listed.setIfInBounds i true) (fun k=>if k=i then v else vals k) (match o.dst with|some d=>upd ρa d v|none=>ρa) (a.put o.dst v) w':=by
 have hio:i<ops.size:=(Array.getElem?_eq_some_iff.1 ho).1;have hok:=hd i o e ho he;have hlt:∀ (k:Nat) (e:Ent),E[k]?=some e→k<ops.size:=fun k e hk=>by
  rw [← hl]
  rcases Nat.lt_or_ge k E.length with h|h
  ·exact h
  ·rw [List.getElem?_eq_none h] at hk;cases hk
 have hgd:∀ k,(listed.setIfInBounds i true).getD k false=true→k=i∨(k≠i∧listed.getD k false=true):=fun k hk=>by
  by_cases hki:k=i
  ·exact .inl hki
  ·rw [getD_set_ne false (fun e=>hki e.symm)] at hk;exact .inr ⟨hki,hk⟩
 refine ⟨hx,?_,?_,?_,?_⟩
 ·cases hdd:o.dst with
  | none=>exact I.st
  | some d=>exact I.st.put (hS.dn i o ho d hdd) v
 ·intro k hk e' he'
  rcases hgd k hk with rfl|⟨hki,hk⟩
  ·rw [he] at he';cases he'
   simpa using hφ
  ·simp only [if_neg hki];exact hfree k e' he' _ _ _ (I.φ k hk e' he')
 ·intro k hk e' d he' hdd
  rcases hgd k hk with rfl|⟨hki,hk⟩
  ·rw [he] at he';cases he';rw [hok.d] at hdd;simp [hdd,qdk]
  ·simp only [if_neg hki];have hk':=hlt k e' he';have hd2:=(hd k _ e' (Array.getElem?_eq_getElem hk') he').d;cases ho2:o.dst with
   | none=>exact I.at_ k hk e' d he' hdd
   | some d2=>
    have hne:d≠d2:=by
     rintro rfl;exact hki (hS.uniq i o k _ d ho (Array.getElem?_eq_getElem hk') (hd2 ▸ hdd) ho2)
    simp only;rw [qam _ _ _ _ hne];exact I.at_ k hk e' d he' hdd
 ·intro t ht;have h1:ρa t=ρ t:=I.miss t fun k hk e' he'=>ht k (by
   by_cases hki:k=i
   ·subst hki;rw [hun] at hk;cases hk
   ·rw [getD_set_ne false (fun e=>hki e.symm)];exact hk) e' he'
  cases ho2:o.dst with
  | none=>exact h1
  | some d2=>
   have hne:t≠d2:=by
    rintro rfl;refine ht i ?_ e he (by rw [hok.d,ho2]);have:i<listed.size:=by omega
    simp [this]
   simp only;rw [qam _ _ _ _ hne];exact h1
section
variable {P:Program} {n:Nat} {ops:Array Oper} {w0:World} {F:List EntO} {ρ:Nat→Value}
theorem qvf {Q:(Nat→Value)→World→Prop} {Q':Exit→Act→World→Prop} (hQ:∀ ρ a w,St n ρ a→Q ρ w→Q' .normal a w) (hS:ShapeP n ops) {ol:Oper} (hm:F.length+1=ops.size) (hol:ops[F.length]?=some ol)
  (hwait:∀ k,k<F.length→k∈qu ol) (hF:∀ (i:Nat) (o:Oper) (e:EntO),ops[i]?=some o→F[i]?=some e→qxz P ops.toList w0 F ρ i o e)
  (hlast:∃ es,AgreeO es F∧∀ w,Ext w0 w→allO w0.heap.size es (some F.length) (idxO es) (sfr (F.map EntO.plain) ρ) w fun ρ'=>qbi P ops.toList ol ρ' w fun v w'=>Q (updO ρ' ol.dst (some v)) w') :
  ∀ (fuel:Nat) (listed:Array Bool) (vals ρa:Nat→Value) (a:Act) (w:World),listed.size=ops.size→listed.toList.count false≤fuel→listed.getD F.length false=false→
   InvD n (F.map EntO.plain++[⟨ol.dst,none,fun _ _=>True⟩]) w0 ρ listed vals ρa a w→InvO F w0 listed vals w→wpAny P .any ops Q' fuel listed a w:=by
 obtain ⟨E,hE⟩:∃ E,E=F.map EntO.plain++[(⟨ol.dst,none,fun _ _=>True⟩:Ent)]:=⟨_,rfl⟩
 rw [← hE];have hEl:E.length=ops.size:=by rw [hE];simp;omega
 have hEi:∀ (i:Nat) (e:EntO),F[i]?=some e→E[i]?=some e.plain:=fun i e he=>by
  have hi:i<F.length:=(List.getElem?_eq_some_iff.1 he).1;rw [hE,List.getElem?_append_left (by simpa using hi),List.getElem?_map,he];rfl
 have hEc:∀ (i:Nat) (e:Ent),E[i]?=some e→(∃ e',F[i]?=some e'∧e=e'.plain)∨(i=F.length∧e=⟨ol.dst,none,fun _ _=>True⟩):=fun i e he=>by
  rcases Nat.lt_or_ge i F.length with hi|hi
  ·left
   rw [hE,List.getElem?_append_left (by simpa using hi),List.getElem?_map,List.getElem?_eq_getElem hi] at he;exact ⟨F[i],List.getElem?_eq_getElem hi,(Option.some.inj he).symm⟩
  ·right
   rw [hE,List.getElem?_append_right (by simpa using hi)] at he;simp only [List.length_map] at he;have:i-F.length=0:=by
    rcases Nat.eq_zero_or_pos (i-F.length) with h|h
    ·exact h
    ·rw [List.getElem?_eq_none (by simp;omega)] at he;cases he
   rw [this] at he;exact ⟨by omega,(by simpa using he:_=e).symm⟩
 have hEt:∀ i,i≤F.length→E.take i=(F.take i).map EntO.plain:=fun i hi=>by
  rw [hE,List.take_append_of_le_length (by simpa using hi),List.map_take]
 have hd:∀ (i:Nat) (o:Oper) (e:Ent),ops[i]?=some o→E[i]?=some e→EntOk e o:=fun i o e ho he=>by
  rcases hEc i e he with ⟨e',he',rfl⟩|⟨rfl,rfl⟩
  ·have:=(hF i o e' ho he').1;exact ⟨this.d,fun _ _ _ h _=>h,fun x hx u w hu=>hu x hx⟩
  ·rw [hol] at ho;cases ho;exact ⟨rfl,fun _ _ _ h _=>h,fun x hx=>by cases hx⟩
 have hfree:∀ (k:Nat) (e:Ent),E[k]?=some e→∀ x w w',e.φ x w→e.φ x w':=fun k e he x w w' h=>by
  rcases hEc k e he with ⟨e',he',rfl⟩|⟨rfl,rfl⟩
  ·exact h
  ·trivial
 have hlt:∀ (k:Nat) (e:Ent),E[k]?=some e→k<ops.size:=fun k e hk=>by
  rw [← hEl];exact (List.getElem?_eq_some_iff.1 hk).1
 intro fuel
 induction fuel with
 | zero=>
  intro listed vals ρa a w hsz hc hlm I J
  exfalso
  have hk':F.length<listed.size:=by omega
  have h1:=List.count_eq_zero.1 (show listed.toList.count false=0 by omega);refine h1 ?_;have:listed[F.length]=false:=by simpa [hk'] using hlm
  rw [← this];exact Array.mem_toList_iff.2 (Array.getElem_mem hk')
 | succ fuel ih=>
  intro listed vals ρa a w hsz hc hlm I J;refine ⟨fun hr=>?_,fun i hi=>?_⟩
  ·have:=qgs hS hsz hr F.length (by omega);rw [hlm] at this;cases this
  obtain ⟨hun,o,ho,hall⟩:=mem_ready.1 hi;have hio:i<ops.size:=(Array.getElem?_eq_some_iff.1 ho).1;have hnl:listed.getD i false=false:=by rw [← qbq (by omega)];exact hun
  have hpl:∀ k∈qu o,listed.getD k false=true:=fun k hk=>by
   obtain ⟨e,he,hb,hon⟩:=qa3.1 hk;rw [← hon];exact hall e (by simpa using he) (by rw [qbx];exact hb)
  rcases Nat.lt_or_ge i F.length with hiF|hiF
  ·
   have hFi:F[i]?=some F[i]:=List.getElem?_eq_getElem hiF;obtain ⟨e,he⟩:∃ e,e=F[i]:=⟨_,rfl⟩
   rw [← he] at hFi;obtain ⟨hok,es,hAg,hspec⟩:=hF i o e ho hFi;have hget:∀ (k:Nat) (e':EntO),(F.take i)[k]?=some e'→F[k]?=some e'∧k<i:=fun k e' h=>by
    rw [List.getElem?_take] at h
    split at h
    ·exact ⟨h,by assumption⟩
    ·cases h
   have h:=qr8 (vals:=vals) hAg (qu o) _ (fun k hk e' he' hv hkb=>by
    obtain ⟨h1,_⟩:=hget k e' he';have hal:=qh9 hkb hnl;exact ⟨J.φ k e' h1 (hpl k hk) hal,fun g hg=>J.own k e' g h1 hv (hpl k hk) hal hg⟩) (hspec w I.ext)
   have hfrm:∀ t,(∀ (k:Nat) (e':Ent),E[k]?=some e'→e'.d=some t→k∈qu o)→fr ((F.take i).map EntO.plain) vals (qu o) (sfr ((F.take i).map EntO.plain) ρ) t=ρa t:=fun t hp=>by
    rw [← hEt i (by omega)];exact qcq hd hEl hS I i (qu o) t (fun k e hk hdt _=>⟨hpl k (hp k e hk hdt),fun _=>hp k e hk hdt⟩) (fun k e hk hdt _=>hS.lt i o ho k (hp k e hk hdt))
   have hag:∀ t∈o.looksAt ops,fr ((F.take i).map EntO.plain) vals (qu o) (sfr ((F.take i).map EntO.plain) ρ) t=ρa t:=fun t ht=>hfrm t fun k e' hk hdt=>by
    have hk':=hlt k e' hk;exact hS.look i o k ops[k] t ho (Array.getElem?_eq_getElem hk') ((hd k _ e' (Array.getElem?_eq_getElem hk') hk).d ▸ hdt) ht
   refine qdy ho hS I.st hag h fun v w' ⟨hchg,hφ,hown⟩=>?_;have hB:∀ g,some g∈qhn es i (qu o) (fr ((F.take i).map EntO.plain) vals (qu o) (sfr ((F.take i).map EntO.plain) ρ))→
     ∃ k e',F[k]?=some e'∧e'.v=none∧e'.u=some i∧listed.getD k false=true∧(vals k).ownBlock=some g:=fun g hg=>by
    obtain ⟨k,d,φ,hk,hlk,ho'⟩:=qu3 _ hg;have hFk:=hAg.look.1 hlk;obtain ⟨h1,_⟩:=hget k _ hFk;refine ⟨k,_,h1,rfl,rfl,hpl k hk,?_⟩;have hra:=I.at_ k (hpl k hk) _ d (hEi k _ h1) rfl;rw [← hra,← hfrm d fun k' e' hk' hdt=>?_]
    ·exact ho'
    ·have hlk':=hlt k' e' hk';have hlk2:=hlt k _ (hEi k _ h1);have hd1:=(hd k' _ e' (Array.getElem?_eq_getElem hlk') hk').d;have hd2:=(hd k _ _ (Array.getElem?_eq_getElem hlk2) (hEi k _ h1)).d;have:k'=k:=hS.uniq k _ k' _ d (Array.getElem?_eq_getElem hlk2) (Array.getElem?_eq_getElem hlk') (hd1 ▸ hdt) (by rw [← hd2];rfl);rw [this];exact hk
   have alive_i:∀ e':EntO,e'.u=some i→∀ j,e'.u=some j→listed.getD j false=false:=fun e' hu j hj=>by
    rw [hu] at hj;cases hj;exact hnl
   have hBge:∀ g,some g∈qhn es i (qu o) (fr ((F.take i).map EntO.plain) vals (qu o) (sfr ((F.take i).map EntO.plain) ρ))→w0.heap.size≤g∧g<w.heap.size:=fun g hg=>by
    obtain ⟨k,e',h1,h2,h3,h4,h5⟩:=hB g hg;exact J.own k e' g h1 h2 h4 (alive_i e' h3) h5
   have hx:Ext w0 w':=⟨hchg.os.trans I.ext.os,hchg.tape.trans I.ext.tape,hchg.output.trans I.ext.output,Nat.le_trans I.ext.size hchg.size,fun k hk=>by
    rw [hchg.block k (Nat.lt_of_lt_of_le hk I.ext.size) (fun hmem=>by have:=(hBge k hmem).1;omega)];exact I.ext.block k hk⟩
   have hgd:∀ k,(listed.setIfInBounds i true).getD k false=true→k=i∨(k≠i∧listed.getD k false=true):=fun k hk=>by
    by_cases hki:k=i
    ·exact .inl hki
    ·rw [getD_set_ne false (fun e=>hki e.symm)] at hk;exact .inr ⟨hki,hk⟩
   have hal:∀ (e':EntO),(∀ j,e'.u=some j→(listed.setIfInBounds i true).getD j false=false)→(∀ j,e'.u=some j→listed.getD j false=false)∧e'.u≠some i:=fun e' h=>by
    refine ⟨fun j hj=>?_,fun hu=>?_⟩
    ·have:=h j hj
     by_cases hji:j=i
     ·subst hji;exact hnl
     ·rwa [getD_set_ne false (fun e=>hji e.symm)] at this
    ·have:=h i hu;have hil:i<listed.size:=by omega
     simp [hil] at this
   have hsome:e.v=none→e.v.isSome=false:=fun h=>by rw [h];rfl
   refine ih _ _ _ _ _ (by simp [hsz]) (by have:=qcf listed i hun;omega) (by rw [getD_set_ne false (by omega)];exact hlm) (InvD.step hS hEl hd hfree I hsz ho (hEi i e hFi) hnl hx (fun c hc=>hok.v c hc v w' hφ)) ⟨?_,?_,?_⟩
   ·intro k e' hk hlk halv;obtain ⟨ha1,ha2⟩:=hal e' halv
    rcases hgd k hlk with rfl|⟨hki,hlk⟩
    ·rw [hFi] at hk;cases hk
     simpa using hφ
    ·simp only [if_neg hki];have hold:=J.φ k e' hk hlk ha1;have hk':k<ops.size:=by have:=(List.getElem?_eq_some_iff.1 hk).1;omega
     have hok':=(hF k ops[k] e' (Array.getElem?_eq_getElem hk') hk).1
     by_cases hv:e'.v=none
     ·refine hok'.loc _ w w' hold (fun b hb hor=>hchg.block b hb fun hmem=>?_) hchg.size;obtain ⟨k2,e2,h1,h2,h3,h4,h5⟩:=hB b hmem
      rcases hor with hlt' | hob
      ·have:=(hBge b hmem).1;omega
      ·have hne:k≠k2:=by
        rintro rfl;rw [hk] at h1;cases h1;exact ha2 h3
       exact J.apart k k2 e' e2 b hk h1 hv h2 hlk h4 ha1 (alive_i e2 h3) hne hob h5
     ·exact hok'.st hv _ _ _ hold
   ·intro k e' g hk hv hlk halv hg;obtain ⟨ha1,ha2⟩:=hal e' halv
    rcases hgd k hlk with rfl|⟨hki,hlk⟩
    ·rw [hFi] at hk;cases hk;simp only [if_true] at hg;obtain ⟨h1,h2⟩:=hown (hsome hv) g hg;refine ⟨?_,h1⟩
     rcases h2 with h2|h2
     ·exact (hBge g h2).1
     ·have:=I.ext.size;omega
    ·simp only [if_neg hki] at hg;have:=J.own k e' g hk hv hlk ha1 hg;have:=hchg.size;omega
   ·intro k k' e1 e2 g hk hk' hv hv' hlk hlk' hal1 hal2 hne hg hg';obtain ⟨ha1,ha1'⟩:=hal e1 hal1;obtain ⟨ha2,ha2'⟩:=hal e2 hal2;have new:∀ (k:Nat) (e1:EntO),F[k]?=some e1→e1.v=none→listed.getD k false=true→(∀ j,e1.u=some j→listed.getD j false=false)→e1.u≠some i→e.v=none→v.ownBlock=some g→(vals k).ownBlock≠some g:=fun k e1 hk hv hlk ha ha' hev hg hg'=>by
     obtain ⟨_,h2⟩:=hown (hsome hev) g hg
     rcases h2 with h2|h2
     ·obtain ⟨k2,e2,q1,q2,q3,q4,q5⟩:=hB g h2;have hne:k≠k2:=by
       rintro rfl;rw [hk] at q1;cases q1;exact ha' q3
      exact J.apart k k2 e1 e2 g hk q1 hv q2 hlk q4 ha (alive_i e2 q3) hne hg' q5
     ·have:=(J.own k e1 g hk hv hlk ha hg').2;omega
    rcases hgd k hlk with rfl|⟨hki,hlk2⟩
    ·rw [hFi] at hk;cases hk
     rcases hgd k' hlk' with rfl|⟨hki',hlk2'⟩
     ·exact hne rfl
     ·simp only [if_true,if_neg hki'] at hg hg';exact new k' e2 hk' hv' hlk2' ha2 ha2' hv hg hg'
    ·rcases hgd k' hlk' with rfl|⟨hki',hlk2'⟩
     ·rw [hFi] at hk';cases hk';simp only [if_true,if_neg hki] at hg hg';exact new k e1 hk hv hlk2 ha1 ha1' hv' hg' hg
     ·simp only [if_neg hki,if_neg hki'] at hg hg';exact J.apart k k' e1 e2 g hk hk' hv hv' hlk2 hlk2' ha1 ha2 hne hg hg'
  ·
   have hil:i=F.length:=by omega
   subst hil;rw [hol] at ho;cases ho;obtain ⟨es,hAg,hspec⟩:=hlast;have hlk:∀ (k:Nat) (e':EntO),F[k]?=some e'→listed.getD k false=true:=fun k e' hk=>hpl k (hwait k (List.getElem?_eq_some_iff.1 hk).1)
   have h:=qr8 (vals:=vals) hAg (idxO es) _ (fun k _ e' he' hv hkb=>by
    have hal:=qh9 hkb hnl;exact ⟨J.φ k e' he' (hlk k e' he') hal,fun g hg=>J.own k e' g he' hv (hlk k e' he') hal hg⟩) (hspec w I.ext)
   have hfr:fr (F.map EntO.plain) vals (idxO es) (sfr (F.map EntO.plain) ρ)=ρa:=by
    funext t
    have:=qcq hd hEl hS I F.length (idxO es) t (fun k e hk hdt hki=>?_) (fun k e hk hdt hlk'=>?_)
    ·rw [hEt _ (Nat.le_refl _),List.take_length] at this;exact this
    ·rcases hEc k e hk with ⟨e',he',rfl⟩|⟨rfl,_⟩
     ·refine ⟨hlk k e' he',fun hv=>?_⟩;obtain ⟨ed,ev,eu,eφ⟩:=e';simp only [EntO.plain] at hdt hv;subst hdt hv;exact qwf (hAg.look.2 he')
     ·omega
    ·rcases hEc k e hk with ⟨e',he',rfl⟩|⟨rfl,_⟩
     ·exact (List.getElem?_eq_some_iff.1 he').1
     ·rw [hnl] at hlk';cases hlk'
   rw [hfr] at h;refine qdy hol hS I.st (fun _ _=>rfl) h fun v w' hq=>?_;refine qr0 (qfs fun k hk=>?_) ?_ _
   ·have hk':k<listed.size:=by omega
    by_cases hki:k=F.length
    ·subst hki;simp [hk']
    ·rw [getD_set_ne true (fun e=>hki e.symm),qbq hk'];exact hpl k (hwait k (by omega))
   ·refine hQ _ _ _ ?_ hq;cases hdd:ol.dst with
    | none=>exact I.st
    | some d=>exact I.st.put (hS.dn _ ol hol d hdd) v
end
def qz6 (ops:Array Oper):Bool:=
 match ops[ops.size-1]? with
 | some o=>(List.range (ops.size-1)).all fun k=>(qu o).contains k
 | none=>false
theorem DrawV.own {P:Program} {n id:Nat} {ops:Array Oper} {Q:Exit→(Nat→Value)→World→Prop} {ρ:Nat→Value} {w:World} (hm:P.follows .mixedOrders=true) (hB:(qj1 n ops&&qz6 ops)=true)
  (h:regO P ops.toList w.drew (fun ρ' w'=>Q .normal ρ' w') ops.toList 0 [] ρ):DrawV P n id ops Q ρ w:=by
 refine ⟨fun a ha=>wp_region_any hm ?_⟩;simp only [Bool.and_eq_true] at hB;obtain ⟨F,ol,h1,h2,h3,h4⟩:=qws ops.toList [] [] ρ (fun k=>rfl) h;have hsz:F.length+1=ops.size:=by simpa using h1
 have hol:ops[F.length]?=some ol:=by simpa using h2
 refine qvf (Q:=fun ρ' w'=>Q .normal ρ' w') (F:=F) (w0:=w.drew) (ρ:=ρ) (fun ρ a w h1 h2=>⟨ρ,h1,h2⟩) (qfx hB.1) hsz hol (fun k hk=>?_) (fun i o e ho he=>?_) (by simpa using h4) _ _ (fun _=>undef) ρ a _ (by simp) (by simp) ?_ ⟨Ext.refl _,ha,?_,?_,fun t _=>rfl⟩ ⟨?_,?_,?_⟩
 ·have hl:=hB.2;unfold qz6 at hl;rw [show ops.size-1=F.length by omega,hol] at hl
  simpa using List.all_eq_true.1 hl k (List.mem_range.2 hk)
 ·have:=h3 i o e (by simpa using ho) he
  simpa using this
 ·exact qe _ _
 ·intro k hk;rw [qe] at hk;cases hk
 ·intro k hk;rw [qe] at hk;cases hk
 ·intro k e _ hk;rw [qe] at hk;cases hk
 ·intro k e g _ _ hk;rw [qe] at hk;cases hk
 ·intro k k' e e' g _ _ _ _ hk;rw [qe] at hk;cases hk
end V
end Go.Proofs.YtajgbepghniciaaGreatDoor
namespace Go.Proofs.YtajgbepghniciaaGreatDoor
open Go.RowKit
namespace V
def setS (S:Nat→Bool) (k:Nat):Nat→Bool:=fun j=>bif Nat.beq j k then true else S j
structure StepI (A:Value→Prop) (K:Value→Prop):Prop where
 h:∃ v,A v∧K v
theorem StepI.of {A K:Value→Prop} (v:Value) (h:A v) (hk:K v):StepI A K:=⟨v,h,hk⟩
def regI (P:Program) (ops:List Oper) (I:(Nat→Bool)→World→Prop) (Q:(Nat→Value)→World→Prop):List Oper→Nat→(Nat→Value)→Prop
 | [],_,ρ=>∀ w,I (fun _=>true) w→Q ρ w
 | o::l,k,ρ=>StepI (fun v=>∀ S w,S k=false→(∀ j∈qu o,S j=true)→I S w→qbi P ops o ρ w fun v' w'=>v'=v∧I (setS S k) w')
   (fun v=>regI P ops I Q l (k+1) (updO ρ o.dst (some v)))
section
variable {P:Program} {n:Nat}
def qzr (P:Program) (ops:List Oper) (I:(Nat→Bool)→World→Prop) (F:List Ent) (ρ0:Nat→Value) (i:Nat) (o:Oper) (e:Ent):Prop:=
 ∃ v,e=⟨o.dst,some v,fun x _=>x=v⟩∧∀ S w,S i=false→(∀ j∈qu o,S j=true)→I S w→qbi P ops o (sfr (F.take i) ρ0) w fun v' w'=>v'=v∧I (setS S i) w'
theorem qwr {ops:List Oper} {I:(Nat→Bool)→World→Prop} {Q:(Nat→Value)→World→Prop} (l:List Oper):∀ (F:List Ent) (ρ0:Nat→Value),regI P ops I Q l F.length (sfr F ρ0)→
  ∃ E:List Ent,E.length=l.length∧(∀ i o e,l[i]?=some o→E[i]?=some e→qzr P ops I (F++E) ρ0 (F.length+i) o e)∧∀ w,I (fun _=>true) w→Q (sfr (F++E) ρ0) w:=by
 induction l with
 | nil=>intro F ρ0 h;exact ⟨[],rfl,fun i o e hi=>by simp at hi,by rw [List.append_nil];exact h⟩
 | cons o l ih=>
  intro F ρ0 h;obtain ⟨v,hA,hK⟩:=h.h;have e1:updO (sfr F ρ0) o.dst (some v)=sfr (F++[(⟨o.dst,some v,fun x _=>x=v⟩:Ent)]) ρ0:=by rw [qek];rfl
  have e2:F.length+1=(F++[(⟨o.dst,some v,fun x _=>x=v⟩:Ent)]).length:=by simp
  rw [e1,e2] at hK;obtain ⟨E,h1,h2,h3⟩:=ih _ ρ0 hK;refine ⟨⟨o.dst,some v,fun x _=>x=v⟩::E,by simp [h1],fun i o' e hi he=>?_,by simpa using h3⟩;cases i with
  | zero=>
   simp at hi he;subst hi he;exact ⟨v,rfl,by simpa using hA⟩
  | succ i=>
   simp at hi he;have:=h2 i o' e hi he
   simpa [Nat.add_assoc,Nat.add_comm 1 i] using this
variable {ops:Array Oper} {w0:World} {E:List Ent} {ρ:Nat→Value}
theorem qve {I:(Nat→Bool)→World→Prop} {Q:(Nat→Value)→World→Prop} {Q':Exit→Act→World→Prop} (hQ:∀ ρ a w,St n ρ a→Q ρ w→Q' .normal a w) (hS:ShapeP n ops) (hl:E.length=ops.size)
  (hE:∀ (i:Nat) (o:Oper) (e:Ent),ops[i]?=some o→E[i]?=some e→qzr P ops.toList I E ρ i o e) (hF:∀ w,I (fun _=>true) w→Q (sfr E ρ) w) :
  ∀ (fuel:Nat) (listed:Array Bool) (vals ρa:Nat→Value) (a:Act) (w:World),listed.size=ops.size→listed.toList.count false≤fuel→InvD n E w0 ρ listed vals ρa a w0→I (fun j=>listed.getD j true) w→wpAny P .any ops Q' fuel listed a w:=by
 have hd:∀ (i:Nat) (o:Oper) (e:Ent),ops[i]?=some o→E[i]?=some e→EntOk e o:=fun i o e h1 h2=>by
  obtain ⟨v,rfl,_⟩:=hE i o e h1 h2;exact ⟨rfl,fun _ _ _ h _=>h,fun c hc x w hx=>by cases hc;exact hx⟩
 have hlt:∀ (k:Nat) (e:Ent),E[k]?=some e→k<ops.size:=fun k e hk=>by
  rw [← hl];exact (List.getElem?_eq_some_iff.1 hk).1
 have hfree:∀ (k:Nat) (e:Ent),E[k]?=some e→∀ x w w',e.φ x w→e.φ x w':=fun k e he x w w' h=>by
  have hk:=hlt k e he;obtain ⟨v,rfl,_⟩:=hE k _ e (Array.getElem?_eq_getElem hk) he;exact h
 have hsome:∀ (k:Nat) (e:Ent),E[k]?=some e→e.v≠none:=fun k e he=>by
  have hk:=hlt k e he;obtain ⟨v,rfl,_⟩:=hE k _ e (Array.getElem?_eq_getElem hk) he;simp
 have final:∀ (listed:Array Bool) (vals ρa:Nat→Value) (a:Act) (w:World),(∀ k,k<ops.size→listed.getD k false=true)→listed.size=ops.size→InvD n E w0 ρ listed vals ρa a w0→I (fun j=>listed.getD j true) w→Q' .normal a w:=fun listed vals ρa a w hall hsz D hI=>by
  have hT:(fun j=>listed.getD j true)=fun _=>true:=by
   funext j
   rcases Nat.lt_or_ge j listed.size with hj|hj
   ·rw [qbq hj];exact hall j (by omega)
   ·simp [Array.getElem?_eq_none hj]
  rw [hT] at hI;have he:sfr E ρ=ρa:=by
   funext t
   have:=qcq hd hl hS D E.length [] t (fun k e hk hdt hki=>⟨hall k (hlt k e hk),fun hv=>absurd hv (hsome k e hk)⟩) (fun k e hk _ _=>by rw [hl];exact hlt k e hk)
   rwa [List.take_length] at this
  exact hQ _ _ _ D.st (he ▸ hF w hI)
 intro fuel
 induction fuel with
 | zero=>
  intro listed vals ρa a w hsz hc D hI;have hall:∀ k,k<ops.size→listed.getD k false=true:=fun k hk=>by
   have h1:=List.count_eq_zero.1 (show listed.toList.count false=0 by omega);have hk':k<listed.size:=by omega
   cases hv:listed[k] with
   | true=>simp [hk',hv]
   | false=>exact absurd (by rw [← hv];exact Array.mem_toList_iff.2 (Array.getElem_mem hk')) h1
  exact ⟨qfs fun k hk=>by rw [qbq (by omega)];exact hall k hk,final listed vals ρa a w hall hsz D hI⟩
 | succ fuel ih=>
  intro listed vals ρa a w hsz hc D hI;refine ⟨fun hr=>final listed vals ρa a w (fun k hk=>qgs hS hsz hr k hk) hsz D hI,fun i hi=>?_⟩;obtain ⟨hun,o,ho,hall⟩:=mem_ready.1 hi;have hio:i<ops.size:=(Array.getElem?_eq_some_iff.1 ho).1;have hnl:listed.getD i false=false:=by rw [← qbq (by omega)];exact hun
  have hpl:∀ k∈qu o,listed.getD k false=true:=fun k hk=>by
   obtain ⟨e,he,hb,hon⟩:=qa3.1 hk;rw [← hon];exact hall e (by simpa using he) (by rw [qbx];exact hb)
  have hiE:E[i]?=some E[i]:=List.getElem?_eq_getElem (by omega);obtain ⟨v,he,hspec⟩:=hE i o E[i] ho hiE;have hlp:∀ k∈qu o,listed.getD k true=true:=fun k hk=>by
   have:=hpl k hk
   rcases Nat.lt_or_ge k listed.size with hj|hj
   ·rw [qbq hj];exact this
   ·simp [Array.getElem?_eq_none hj]
  have h:=hspec (fun j=>listed.getD j true) w hun hlp hI;have hag:∀ t∈o.looksAt ops,sfr (E.take i) ρ t=ρa t:=fun t ht=>by
   have hp:∀ (k:Nat) (e:Ent),E[k]?=some e→e.d=some t→k∈qu o:=fun k e hk hdt=>by
    have hk':=hlt k e hk;exact hS.look i o k ops[k] t ho (Array.getElem?_eq_getElem hk') ((hd k _ e (Array.getElem?_eq_getElem hk') hk).d ▸ hdt) ht
   exact qcq hd hl hS D i [] t (fun k e hk hdt _=>⟨hpl k (hp k e hk hdt),fun hv=>absurd hv (hsome k e hk)⟩) (fun k e hk hdt _=>hS.lt i o ho k (hp k e hk hdt))
  refine qdy ho hS D.st hag h fun v' w' ⟨hv,hI'⟩=>?_;have hset:(fun j=>(listed.setIfInBounds i true).getD j true)=setS (fun j=>listed.getD j true) i:=by
   funext j
   unfold setS
   by_cases hji:j=i
   ·subst hji;have:j<listed.size:=by omega
    simp [this]
   ·have:Nat.beq j i=false:=Bool.eq_false_iff.2 fun e=>hji (Nat.eq_of_beq_eq_true e)
    rw [this,getD_set_ne true (fun e=>hji e.symm)];rfl
  refine ih _ _ _ _ _ (by simp [hsz]) (by have:=qcf listed i hun;omega) (InvD.step (v:=v') hS hl hd hfree D hsz ho hiE hnl (Ext.refl _) (by rw [he];exact hv)) ?_;rw [hset];exact hI'
end
theorem DrawV.inv {P:Program} {n id:Nat} {ops:Array Oper} {Q:Exit→(Nat→Value)→World→Prop} {ρ:Nat→Value} {w:World} (I:(Nat→Bool)→World→Prop) (hm:P.follows .mixedOrders=true) (hB:qj1 n ops=true)
  (h0:I (fun j=>Nat.ble ops.size j) w.drew) (h:regI P ops.toList I (fun ρ' w'=>Q .normal ρ' w') ops.toList 0 ρ):DrawV P n id ops Q ρ w:=by
 refine ⟨fun a ha=>wp_region_any hm ?_⟩;obtain ⟨E,h1,h2,h3⟩:=qwr ops.toList [] ρ h;refine qve (I:=I) (Q:=fun ρ' w'=>Q .normal ρ' w') (E:=E) (w0:=w.drew) (ρ:=ρ) (fun ρ a w h1 h2=>⟨ρ,h1,h2⟩) (qfx hB) (by simpa using h1) (fun i o e ho he=>?_) (by simpa using h3) _ _ (fun _=>undef) ρ a _ (by simp) (by simp) ⟨Ext.refl _,ha,?_,?_,fun t _=>rfl⟩ ?_
 ·have:=h2 i o e (by simpa using ho) he
  simpa using this
 ·intro k hk;rw [qe] at hk;cases hk
 ·intro k hk;rw [qe] at hk;cases hk
 ·have:(fun j=>(Array.replicate ops.size false).getD j true)=fun j=>Nat.ble ops.size j:=by
   funext j
   rcases Nat.lt_or_ge j ops.size with hj|hj
   ·have h2:Nat.ble ops.size j=false:=Bool.eq_false_iff.2 fun e=>by have:=Nat.le_of_ble_eq_true e;omega
    simp [hj,h2]
   ·rw [Nat.ble_eq_true_of_le hj];simp [hj]
  rw [this];exact h0
end V
end Go.Proofs.YtajgbepghniciaaGreatDoor
namespace Go.Proofs.YtajgbepghniciaaGreatDoor
open Go.RowKit
namespace V
structure StepG (A:Option Value→Prop) (K:Option Value→Prop):Prop where
 h:∃ v,A v∧K v
theorem StepG.of {A K:Option Value→Prop} (v:Value) (h:A (some v)) (hk:K (some v)):StepG A K:=⟨some v,h,hk⟩
theorem StepG.any {A K:Option Value→Prop} (h:A none) (hk:K none):StepG A K:=⟨none,h,hk⟩
def frG:List (Nat × Nat)→(Nat→Value)→(Nat→Value)→(Nat→Value)
 | [],_,ρ=>ρ
 | (k,d)::es,vals,ρ=>frG es vals (upd ρ d (vals k))
def q0g (k:Nat) (es:List (Nat × Nat)):Option Tmp→Option Value→List (Nat × Nat)
 | some d,none=>(k,d)::es
 | _,_=>es
def isG:Option Value→Value→Prop
 | some c,x=>x=c
 | none,_=>True
def regG (P:Program) (ops:List Oper) (I:(Nat→Bool)→(Nat→Value)→World→Prop) (Q:(Nat→Value)→World→Prop):List Oper→Nat→List (Nat × Nat)→(Nat→Value)→Prop
 | [],_,es,ρ=>∀ vals w,I (fun _=>true) vals w→Q (frG es vals ρ) w
 | o::l,k,es,ρ=>StepG (fun v=>∀ S vals w,S k=false→(∀ j∈qu o,S j=true)→I S vals w→qbi P ops o (frG es vals ρ) w fun v' w'=>isG v v'∧I (setS S k) (upd vals k v') w')
   (fun v=>regG P ops I Q l (k+1) (q0g k es o.dst v) (updO ρ o.dst v))
def entG (d:Option Tmp) (v:Option Value):Ent:=⟨d,v,fun x _=>isG v x⟩
structure AgreeG (es:List (Nat × Nat)) (F:List Ent):Prop where
 in_:∀ k d,(k,d)∈es→F[k]?=some (entG (some d) none)
 all:∀ k d φ,F[k]?=some ⟨some d,none,φ⟩→k∈es.map (·.1)
theorem AgreeG.push {es:List (Nat × Nat)} {F:List Ent} (h:AgreeG es F) (d:Option Tmp) (v:Option Value):AgreeG (q0g F.length es d v) (F++[entG d v]):=by
 have old:∀ k d',(k,d')∈es→(F++[entG d v])[k]?=some (entG (some d') none):=fun k d' hk=>by
  have:=h.in_ k d' hk;rw [List.getElem?_append_left (List.getElem?_eq_some_iff.1 this).1,this]
 have back:∀ k d' φ,(F++[entG d v])[k]?=some ⟨some d',none,φ⟩→k∈es.map (·.1)∨(k=F.length∧entG d v=⟨some d',none,φ⟩):=fun k d' φ hk=>by
  rcases Nat.lt_or_ge k F.length with hlt|hge
  ·rw [List.getElem?_append_left hlt] at hk;exact .inl (h.all _ _ _ hk)
  ·rw [List.getElem?_append_right hge] at hk;obtain ⟨h0,h1⟩:=List.getElem?_eq_some_iff.1 hk;have:k-F.length=0:=by simpa using h0
   refine .inr ⟨by omega,?_⟩
   simpa [this] using h1
 cases d with
 | none=>
  refine ⟨old,fun k d' φ hk=>?_⟩
  rcases back k d' φ hk with hk|⟨rfl,e⟩
  ·exact hk
  ·cases e
 | some d=>
  cases v with
  | none=>
   refine ⟨fun k d' hk=>?_,fun k d' φ hk=>?_⟩
   ·rcases List.mem_cons.1 hk with e|hk
    ·cases e;rw [List.getElem?_append_right (Nat.le_refl _),Nat.sub_self];rfl
    ·exact old k d' hk
   ·rcases back k d' φ hk with hk|⟨rfl,_⟩
    ·exact List.mem_cons_of_mem _ hk
    ·exact List.mem_cons_self ..
  | some c=>
   refine ⟨old,fun k d' φ hk=>?_⟩
   rcases back k d' φ hk with hk|⟨rfl,e⟩
   ·exact hk
   ·cases e
theorem qpc {es0:List Ent} {vals:Nat→Value}:∀ (es:List (Nat × Nat)) (ρ:Nat→Value),(∀ k d,(k,d)∈es→es0[k]?=some (entG (some d) none))→fr es0 vals (es.map (·.1)) ρ=frG es vals ρ:=by
 intro es
 induction es with
 | nil=>intro ρ _;rfl
 | cons x es ih=>
  obtain ⟨k,d⟩:=x;intro ρ h;show fr es0 vals (k::es.map (·.1)) ρ=_;unfold fr;rw [qfg (d:=d) (φ:=fun x _=>isG none x) (by rw [qo];exact h k d (List.mem_cons_self ..)),ih _ fun k d hk=>h k d (List.mem_cons_of_mem _ hk)];rfl
section
variable {P:Program} {n:Nat}
def qxy (P:Program) (ops:List Oper) (I:(Nat→Bool)→(Nat→Value)→World→Prop) (F:List Ent) (ρ0:Nat→Value) (i:Nat) (o:Oper) (e:Ent):Prop:=
 ∃ v es,e=entG o.dst v∧AgreeG es (F.take i)∧∀ S vals w,S i=false→(∀ j∈qu o,S j=true)→I S vals w→qbi P ops o (frG es vals (sfr (F.take i) ρ0)) w fun v' w'=>isG v v'∧I (setS S i) (upd vals i v') w'
theorem qpr {ops:List Oper} {I:(Nat→Bool)→(Nat→Value)→World→Prop} {Q:(Nat→Value)→World→Prop} (l:List Oper):∀ (es:List (Nat × Nat)) (F:List Ent) (ρ0:Nat→Value),AgreeG es F→regG P ops I Q l F.length es (sfr F ρ0)→
  ∃ E:List Ent,E.length=l.length∧(∀ i o e,l[i]?=some o→E[i]?=some e→qxy P ops I (F++E) ρ0 (F.length+i) o e)∧∃ es',AgreeG es' (F++E)∧∀ vals w,I (fun _=>true) vals w→Q (frG es' vals (sfr (F++E) ρ0)) w:=by
 induction l with
 | nil=>intro es F ρ0 hA h;exact ⟨[],rfl,fun i o e hi=>by simp at hi,es,by rw [List.append_nil];exact hA,by rw [List.append_nil];exact h⟩
 | cons o l ih=>
  intro es F ρ0 hA h;obtain ⟨v,hv,hK⟩:=h.h;have e1:updO (sfr F ρ0) o.dst v=sfr (F++[entG o.dst v]) ρ0:=by rw [qek];rfl
  have e2:F.length+1=(F++[entG o.dst v]).length:=by simp
  rw [e1,e2] at hK;obtain ⟨E,h1,h2,h3⟩:=ih _ _ ρ0 (hA.push o.dst v) hK;refine ⟨entG o.dst v::E,by simp [h1],fun i o' e hi he=>?_,by simpa using h3⟩;cases i with
  | zero=>
   simp at hi he;subst hi he;exact ⟨v,es,rfl,by simpa using hA,by simpa using hv⟩
  | succ i=>
   simp at hi he;have:=h2 i o' e hi he
   simpa [Nat.add_assoc,Nat.add_comm 1 i] using this
variable {ops:Array Oper} {w0:World} {E:List Ent} {ρ:Nat→Value}
theorem qvd {I:(Nat→Bool)→(Nat→Value)→World→Prop} {Q:(Nat→Value)→World→Prop} {Q':Exit→Act→World→Prop} (hQ:∀ ρ a w,St n ρ a→Q ρ w→Q' .normal a w) (hS:ShapeP n ops) (hl:E.length=ops.size)
  (hE:∀ (i:Nat) (o:Oper) (e:Ent),ops[i]?=some o→E[i]?=some e→qxy P ops.toList I E ρ i o e) (hF:∃ es',AgreeG es' E∧∀ vals w,I (fun _=>true) vals w→Q (frG es' vals (sfr E ρ)) w) :
  ∀ (fuel:Nat) (listed:Array Bool) (vals ρa:Nat→Value) (a:Act) (w:World),listed.size=ops.size→listed.toList.count false≤fuel→InvD n E w0 ρ listed vals ρa a w0→I (fun j=>listed.getD j true) vals w→wpAny P .any ops Q' fuel listed a w:=by
 obtain ⟨ef,hA,hF⟩:=hF;have hd:∀ (i:Nat) (o:Oper) (e:Ent),ops[i]?=some o→E[i]?=some e→EntOk e o:=fun i o e h1 h2=>by
  obtain ⟨v,_,rfl,_⟩:=hE i o e h1 h2;refine ⟨rfl,fun _ _ _ h _=>h,fun c hc x w hx=>?_⟩;have hc:v=some c:=hc;subst hc;exact hx
 have hlt:∀ (k:Nat) (e:Ent),E[k]?=some e→k<ops.size:=fun k e hk=>by
  rw [← hl];exact (List.getElem?_eq_some_iff.1 hk).1
 have hfree:∀ (k:Nat) (e:Ent),E[k]?=some e→∀ x w w',e.φ x w→e.φ x w':=fun k e he x w w' h=>by
  have hk:=hlt k e he;obtain ⟨v,_,rfl,_⟩:=hE k _ e (Array.getElem?_eq_getElem hk) he;exact h
 have final:∀ (listed:Array Bool) (vals ρa:Nat→Value) (a:Act) (w:World),(∀ k,k<ops.size→listed.getD k false=true)→listed.size=ops.size→InvD n E w0 ρ listed vals ρa a w0→I (fun j=>listed.getD j true) vals w→Q' .normal a w:=fun listed vals ρa a w hall hsz D hI=>by
  have hT:(fun j=>listed.getD j true)=fun _=>true:=by
   funext j
   rcases Nat.lt_or_ge j listed.size with hj|hj
   ·rw [qbq hj];exact hall j (by omega)
   ·simp [Array.getElem?_eq_none hj]
  rw [hT] at hI;have he:frG ef vals (sfr E ρ)=ρa:=by
   funext t
   have:=qcq hd hl hS D E.length (ef.map (·.1)) t (fun k e hk hdt hki=>⟨hall k (hlt k e hk),fun hv=>by
    obtain ⟨d,v,φ⟩:=e;cases hv;cases hdt;exact hA.all k _ _ hk⟩) (fun k e hk _ _=>by rw [hl];exact hlt k e hk)
   rw [List.take_length,qpc _ _ hA.in_] at this;exact this
  exact hQ _ _ _ D.st (he ▸ hF vals w hI)
 intro fuel
 induction fuel with
 | zero=>
  intro listed vals ρa a w hsz hc D hI;have hall:∀ k,k<ops.size→listed.getD k false=true:=fun k hk=>by
   have h1:=List.count_eq_zero.1 (show listed.toList.count false=0 by omega);have hk':k<listed.size:=by omega
   cases hv:listed[k] with
   | true=>simp [hk',hv]
   | false=>exact absurd (by rw [← hv];exact Array.mem_toList_iff.2 (Array.getElem_mem hk')) h1
  exact ⟨qfs fun k hk=>by rw [qbq (by omega)];exact hall k hk,final listed vals ρa a w hall hsz D hI⟩
 | succ fuel ih=>
  intro listed vals ρa a w hsz hc D hI;refine ⟨fun hr=>final listed vals ρa a w (fun k hk=>qgs hS hsz hr k hk) hsz D hI,fun i hi=>?_⟩;obtain ⟨hun,o,ho,hall⟩:=mem_ready.1 hi;have hio:i<ops.size:=(Array.getElem?_eq_some_iff.1 ho).1;have hnl:listed.getD i false=false:=by rw [← qbq (by omega)];exact hun
  have hpl:∀ k∈qu o,listed.getD k false=true:=fun k hk=>by
   obtain ⟨e,he,hb,hon⟩:=qa3.1 hk;rw [← hon];exact hall e (by simpa using he) (by rw [qbx];exact hb)
  have hiE:E[i]?=some E[i]:=List.getElem?_eq_getElem (by omega);obtain ⟨v,es,he,hAi,hspec⟩:=hE i o E[i] ho hiE;have hlp:∀ k∈qu o,listed.getD k true=true:=fun k hk=>by
   have:=hpl k hk
   rcases Nat.lt_or_ge k listed.size with hj|hj
   ·rw [qbq hj];exact this
   ·simp [Array.getElem?_eq_none hj]
  have h:=hspec (fun j=>listed.getD j true) vals w hun hlp hI;have hag:∀ t∈o.looksAt ops,frG es vals (sfr (E.take i) ρ) t=ρa t:=fun t ht=>by
   have hp:∀ (k:Nat) (e:Ent),E[k]?=some e→e.d=some t→k∈qu o:=fun k e hk hdt=>by
    have hk':=hlt k e hk;exact hS.look i o k ops[k] t ho (Array.getElem?_eq_getElem hk') ((hd k _ e (Array.getElem?_eq_getElem hk') hk).d ▸ hdt) ht
   have:=qcq hd hl hS D i (es.map (·.1)) t (fun k e hk hdt hki=>⟨hpl k (hp k e hk hdt),fun hv=>by
    obtain ⟨d,v,φ⟩:=e;cases hv;cases hdt;exact hAi.all k _ _ (by rw [List.getElem?_take,if_pos hki];exact hk)⟩) (fun k e hk hdt _=>hS.lt i o ho k (hp k e hk hdt))
   rw [qpc _ _ hAi.in_] at this;exact this
  refine qdy ho hS D.st hag h fun v' w' ⟨hv,hI'⟩=>?_;have hset:(fun j=>(listed.setIfInBounds i true).getD j true)=setS (fun j=>listed.getD j true) i:=by
   funext j
   unfold setS
   by_cases hji:j=i
   ·subst hji;have:j<listed.size:=by omega
    simp [this]
   ·have:Nat.beq j i=false:=Bool.eq_false_iff.2 fun e=>hji (Nat.eq_of_beq_eq_true e)
    rw [this,getD_set_ne true (fun e=>hji e.symm)];rfl
  have hvals:(fun k=>if k=i then v' else vals k)=upd vals i v':=by
   funext k
   by_cases hk:k=i
   ·subst hk;simp [upd]
   ·rw [if_neg hk,qam _ _ _ _ hk]
  refine ih _ (upd vals i v') _ _ _ (by simp [hsz]) (by have:=qcf listed i hun;omega) (hvals ▸ InvD.step (v:=v') hS hl hd hfree D hsz ho hiE hnl (Ext.refl _) (by rw [he];exact hv)) ?_;rw [hset];exact hI'
end
theorem DrawV.gen {P:Program} {n id:Nat} {ops:Array Oper} {Q:Exit→(Nat→Value)→World→Prop} {ρ:Nat→Value} {w:World} (I:(Nat→Bool)→(Nat→Value)→World→Prop) (hm:P.follows .mixedOrders=true) (hB:qj1 n ops=true)
  (h0:∀ vals,I (fun j=>Nat.ble ops.size j) vals w.drew) (h:regG P ops.toList I (fun ρ' w'=>Q .normal ρ' w') ops.toList 0 [] ρ):DrawV P n id ops Q ρ w:=by
 refine ⟨fun a ha=>wp_region_any hm ?_⟩;obtain ⟨E,h1,h2,h3⟩:=qpr ops.toList [] [] ρ (AgreeG.mk (fun _ _ h=>by cases h) (fun _ _ _ h=>by simp at h)) h;refine qvd (I:=I) (Q:=fun ρ' w'=>Q .normal ρ' w') (E:=E) (w0:=w.drew) (ρ:=ρ) (fun ρ a w h1 h2=>⟨ρ,h1,h2⟩) (qfx hB) (by simpa using h1) (fun i o e ho he=>?_) (by simpa using h3) _ _ (fun _=>undef) ρ a _ (by simp) (by simp) ⟨Ext.refl _,ha,?_,?_,fun t _=>rfl⟩ ?_
 ·have:=h2 i o e (by simpa using ho) he
  simpa using this
 ·intro k hk;rw [qe] at hk;cases hk
 ·intro k hk;rw [qe] at hk;cases hk
 ·have:(fun j=>(Array.replicate ops.size false).getD j true)=fun j=>Nat.ble ops.size j:=by
   funext j
   rcases Nat.lt_or_ge j ops.size with hj|hj
   ·have h2:Nat.ble ops.size j=false:=Bool.eq_false_iff.2 fun e=>by have:=Nat.le_of_ble_eq_true e;omega
    simp [hj,h2]
   ·rw [Nat.ble_eq_true_of_le hj];simp [hj]
  rw [this];exact h0 _
end V
end Go.Proofs.YtajgbepghniciaaGreatDoor
namespace Go.Proofs.YtajgbepghniciaaGreatDoor
open Go.RowKit
namespace V
theorem zA {a b k:Prop} (h:k) (h1:a:=by omega) (h2:b:=by omega):Obl (a∧b) k:=⟨⟨h1,h2⟩,h⟩
theorem zB {a b c d k:Prop} (h:k) (h1:a:=by omega) (h2:b:=by omega) (h3:c:=by omega) (h4:d:=by omega):Obl (a∧b∧c∧d) k:=⟨⟨h1,h2,h3,h4⟩,h⟩
theorem zC {c p q:Prop} [Decidable c] (h1:c→p) (h2:¬ c→q):Tst (decide c) p q:=.dec h1 h2
theorem zY {c p q:Prop} [Decidable c] (h:c→p) (hc:c:=by omega):Tst (decide c) p q:=.dec h fun g=>absurd hc g
theorem zN {c p q:Prop} [Decidable c] (h:¬ c→q) (hc:¬ c:=by omega):Tst (decide c) p q:=.dec (fun g=>absurd g hc) h
theorem zX {j n:Nat} {K:Nat→Prop} (hk:K j) (h:j<n:=by omega):IdxV (j:Int) n K:=⟨j,rfl,h,hk⟩
theorem zJ {i:Int} {n:Nat} (j:Nat) {K:Nat→Prop} (hk:K j) (e:i=(j:Int):=by rfl) (h:j<n:=by decide):IdxV i n K:=⟨j,e,h,hk⟩
theorem zW {w:World} {k:Prop} (h:k):SameW w w k:=⟨rfl,h⟩
theorem zD {A:(Value→World→Prop)→Prop} {K:Option Value→(Value→World→Prop)→Prop} {v:Value} (hk:K (some v) (fun u _=>u=v)) (h:A (fun u _=>u=v):=by (intro wd hd;(conv=>whnf);exact ⟨Ext.refl _,rfl⟩)):StepD A K:=.still v h hk
theorem zI {A K:Value→Prop} {v:Value} (hk:K v) (h:A v:=by (intro S wd hk hp hI;(conv=>whnf);exact ⟨rfl,hI⟩)):StepI A K:=.of v h hk
theorem zG {A K:Option Value→Prop} {v:Value} (hk:K (some v)) (h:A (some v):=by (intro S vals wd hk hp hI;(conv=>whnf);exact ⟨rfl,hI⟩)):StepG A K:=.of v h hk
theorem zO {base:Nat} {A:Bool→(Value→World→Prop)→Prop} {K:Option Value→Option Nat→(Value→World→Prop)→Prop} {v:Value} (hk:K (some v) none (fun u _=>u=v)) (h:A true (fun u _=>u=v):=by (intro wd hd;(conv=>whnf);exact PostO.still (Ext.refl _) rfl)):StepO base A K:=.still v h hk
theorem zT {p q:Prop} (h:p):Tst true p q:=.tt h
theorem zU {p q:Prop} (h:q):Tst false p q:=.ff h
theorem zP {b:Bool} {p q:Prop} (h:Tst b q p):Tst (!b) p q:=.not h
theorem zL {w0 w:World} {L:List (Nat × Obj)} {b size:Nat} {cs:Array Value} {t:TypeId} {fr:Nat × Nat} {K:List Value→Prop} (h:Mem w0 w L) (i:Nat) (hk:K cs.toList) (hi:L[i]?=some (b,.cells cs t fr):=by exact rfl)
  (hs:cs.toList.length=size:=by exact rfl):LoadA w b 0 size K:=.mem h hi hs hk
theorem zR {w0 w:World} {L:List (Nat × Obj)} {b off:Nat} {cs:Array Value} {t:TypeId} {fr:Nat × Nat} {v:Value} {K:Value→Prop} (h:Mem w0 w L) (i:Nat) (hk:K v) (hi:L[i]?=some (b,.cells cs t fr):=by exact rfl)
  (hv:cs[off]?=some v:=by exact rfl):LoadV w b off K:=.mem h hi hv hk
theorem zE {P:Program} {n:Nat} {f:FuncId} {fn:Func} {c:Code} {vs:List Value} {w:World} {R:Value→World→Prop} (hf:P.funcs[f]?=some fn) (hn:fn.ntmps=n) (h:qem P n c (qx5 P n fn R) (ini vs) w)
  (he:qdx P f=true:=by kernel_rfl) (hb:fn.body=some c:=by exact rfl) (hl:Nat.ble vs.length n=true:=by exact rfl):Gv P f vs w R:=gv he hf hb hn hl h
theorem zS {P:Program} {w0 w:World} {L:List (Nat × Obj)} {b:Nat} {cur:Array Value} {t:TypeId} {vs:List Value} {K:World→Prop} (h:Mem w0 w L) (i:Nat)
  (hk:∀ w',Mem w0 w' (L.set i (b,.cells vs.toArray t (0,0)))→K w') (hi:L[i]?=some (b,.cells cur t (0,0)):=by exact rfl) (hl:cur.size=vs.length:=by exact rfl) (h1:∀ v∈vs,v.oneCell'=true:=by simp [Value.oneCell']):StoreA P w b 0 vs K:=by
 refine StoreA.mem h hi (by omega) h1 fun w' hw=>hk w' ?_;have e:(cur.toList.take 0++vs++cur.toList.drop (0+vs.length)).toArray=vs.toArray:=by
  rw [List.take_zero,List.nil_append,List.drop_eq_nil_of_le (by simp;omega),List.append_nil]
 rwa [e] at hw
end V
open Go.RowKit V
set_option maxRecDepth 100000
def qal (r:Int):Bool:=decide (0≤r∧r≤1114111∧(r<55296∨57343<r))
theorem qiv (r:Int) (b:Bool):b=qal r↔(b=true↔(0≤r∧r≤1114111∧(r<55296∨57343<r))):=by
 unfold qal;rw [Bool.eq_iff_iff];simp
theorem qrp (r:Int) (w:World) :
  Gv Tryz.prog 252 [.int .i32 r] w fun v w'=>v=.bool (qal r)∧w'=w:=by
 refine zE Tryz.func252 Tryz.ntmps252 ?_;conv=>whnf
 (repeat' (first|((with_reducible refine zT ?_);(conv=>whnf))|((with_reducible refine zU ?_);(conv=>whnf))|((with_reducible refine zC (fun _=>?_) (fun _=>?_))<;>first|(exfalso;omega)|(conv=>whnf))))
 all_goals (refine ⟨congrArg Value.bool ((qiv r _).2 ?_),rfl⟩;simp;try omega)
def qa8 (c:Nat):Nat × Nat:=
 if c<0x80 then (1,c) else if c<0xC0 then (0,0) else if c<0xE0 then (2,c%32) else if c<0xF0 then (3,c%16) else if c<0xF8 then (4,c%8) else (0,0)
theorem qkz (c:Nat) (_h:c<256):(qa8 c).1≤4∧(qa8 c).2<128:=by
 unfold qa8;repeat (first|split|(refine ⟨?_,?_⟩<;>dsimp only<;>omega))
theorem qwb (c:UInt8) (w:World) :
  Gv Tryz.prog 250 [.int .u8 c.toNat] w fun v w'=>v=.tuple #[.int .i64 (qa8 c.toNat).1,.int .i32 (qa8 c.toNat).2]∧w'=w:=by
 refine zE Tryz.func250 Tryz.ntmps250 ?_;conv=>whnf
 (repeat' (first|((with_reducible refine zC (fun _=>?_) (fun _=>?_))<;>first|(exfalso;omega)|(conv=>whnf))|(refine Wit.conv ⟨by omega,by omega⟩ ?_;(conv=>whnf))))
 ·exact ⟨by rw [qa8,if_pos (by omega)];rfl,rfl⟩
 ·exact ⟨by rw [qa8,if_neg (by omega),if_pos (by omega)];rfl,rfl⟩
 ·refine Wit.eq (qao 5 rfl ⟨by omega,by omega⟩ ⟨by omega,by omega⟩) ?_;(conv=>whnf);refine Wit.conv ⟨by omega,by omega⟩ ?_;(conv=>whnf);exact ⟨by rw [qa8,if_neg (by omega),if_neg (by omega),if_pos (by omega)];rfl,rfl⟩
 ·refine Wit.eq (qao 4 rfl ⟨by omega,by omega⟩ ⟨by omega,by omega⟩) ?_;(conv=>whnf);refine Wit.conv ⟨by omega,by omega⟩ ?_;(conv=>whnf);exact ⟨by rw [qa8,if_neg (by omega),if_neg (by omega),if_neg (by omega),if_pos (by omega)];rfl,rfl⟩
 ·refine Wit.eq (qao 3 rfl ⟨by omega,by omega⟩ ⟨by omega,by omega⟩) ?_;(conv=>whnf);refine Wit.conv ⟨by omega,by omega⟩ ?_;(conv=>whnf);exact ⟨by rw [qa8,if_neg (by omega),if_neg (by omega),if_neg (by omega),if_neg (by omega),if_pos (by omega)];rfl,rfl⟩
 ·exact ⟨by rw [qa8,if_neg (by omega),if_neg (by omega),if_neg (by omega),if_neg (by omega),if_neg (by omega)];rfl,rfl⟩
def qdo (n:Nat):Nat:=if n=2 then 0x80 else if n=3 then 0x800 else if n=4 then 0x10000 else 0
theorem qts (n:Nat) (h:n≤4) (w:World) :
  Gv Tryz.prog 251 [.int .i64 n] w fun v w'=>v=.int .i32 (qdo n)∧w'=w:=by
 refine zE Tryz.func251 Tryz.ntmps251 ?_;(conv=>whnf);refine zX ?_;(conv=>whnf);refine ⟨.int .i32 (qdo n),?_,?_⟩
 ·obtain rfl|rfl|rfl|rfl|rfl:n=0∨n=1∨n=2∨n=3∨n=4:=by omega
  all_goals rfl
 ·(conv=>whnf);exact ⟨rfl,rfl⟩
def accR (r:Nat) (l:List UInt8):Nat:=l.foldl (fun r c=>r*64+c.toNat%64) r
def cont (c:UInt8):Bool:=c.toNat/64==2
def decN:List UInt8→Nat × Nat
 | []=>(0,0)
 | b::t=>
  let n:=(qa8 b.toNat).1
  if n=0∨t.length<n-1 then (0,0)
  else if (t.take (n-1)).all cont then
   let r:=accR (qa8 b.toNat).2 (t.take (n-1))
   if r<qdo n∨qal r=false then (0,0) else (r,n)
  else (0,0)
theorem qx0 (r:Nat) (l:List UInt8):accR r l<(r+1)*64 ^ l.length:=by
 induction l generalizing r with
 | nil=>simp [accR]
 | cons c l ih=>
  have h1:=ih (r*64+c.toNat%64);have h2:c.toNat%64<64:=Nat.mod_lt _ (by omega);simp only [accR,List.foldl_cons,List.length_cons] at *;refine Nat.lt_of_lt_of_le h1 ?_;rw [Nat.pow_succ,Nat.mul_comm (64 ^ _) 64,← Nat.mul_assoc];exact Nat.mul_le_mul_right _ (by omega)
theorem qks {l:List UInt8} {k:Nat} (h:k<l.length):l.take (k+1)=l.take k++[l.getD k 0]:=by
 rw [List.take_succ_eq_append_getElem h,List.getD_eq_getElem?_getD,List.getElem?_eq_getElem h,Option.getD_some]
theorem qau (s:ByteArray) (p:Nat) (h:p<s.size):s.data.toList.drop p=gb s p::s.data.toList.drop (p+1):=by
 have h':p<s.data.toList.length:=by simpa using h
 rw [List.drop_eq_getElem_cons h',gb,List.getD_eq_getElem?_getD,List.getElem?_eq_getElem h',Option.getD_some]
theorem qst (s:ByteArray) (p k:Nat):(s.data.toList.drop p).getD k 0=gb s (p+k):=by
 simp [gb,List.getD_eq_getElem?_getD]
theorem qc9 (s:ByteArray) (p:Nat):(s.data.toList.drop p).length=s.size-p:=by simp
theorem qzt (m:Nat) (h:m<256):m &&&192=m/64*64:=by
 have:∀ m:Fin 256,m.1 &&&192=m.1/64*64:=by decide +kernel
 exact this ⟨m,h⟩
theorem qpi (s:ByteArray) (p:Nat) (hp:p<s.size) (hs:s.size≤140737488355328) (w:World) :
  Gv Tryz.prog 204 [.string s,.int .i64 p] w fun v w'=>v=.tuple #[.int .i32 (decN (s.data.toList.drop p)).1,.int .i64 (decN (s.data.toList.drop p)).2]∧w'=w:=by
 obtain ⟨t,ht⟩:∃ t,t=s.data.toList.drop (p+1):=⟨_,rfl⟩
 obtain ⟨n,hn⟩:∃ n,n=(qa8 (gb s p).toNat).1:=⟨_,rfl⟩
 obtain ⟨r,hr⟩:∃ r,r=(qa8 (gb s p).toNat).2:=⟨_,rfl⟩
 have hlead:=qwb (gb s p) w;have hb:=qkz (gb s p).toNat (gb s p).toNat_lt;rw [← hn,← hr] at hlead hb;obtain ⟨hb1,hb2⟩:=hb;have htl:t.length=s.size-(p+1):=by rw [ht,qc9]
 have hd:decN (s.data.toList.drop p)=if n=0∨t.length<n-1 then (0,0) else if (t.take (n-1)).all cont then
   (if accR r (t.take (n-1))<qdo n∨qal (accR r (t.take (n-1)))=false then (0,0) else (accR r (t.take (n-1)),n)) else (0,0):=by
  rw [qau s p hp,← ht,hn,hr];rfl
 refine zE Tryz.func204 Tryz.ntmps204 ?_;(conv=>whnf);refine zN (fun _=>?_);(conv=>whnf);(iterate 4 (refine zU ?_;(conv=>whnf)));refine zN (fun _=>?_);(conv=>whnf);refine zX ?_;(conv=>whnf);refine CallV.of (hlead) ?_;rintro v w' ⟨rfl,rfl⟩;conv=>whnf
 (repeat' (first|(refine zA ?_;(conv=>whnf))|((with_reducible refine zT ?_);(conv=>whnf))|((with_reducible refine zU ?_);(conv=>whnf))|((with_reducible refine zC (fun _=>?_) (fun _=>?_))<;>first|(exfalso;omega)|(conv=>whnf))))
 ·exact ⟨by rw [hd,if_pos (by omega)];rfl,rfl⟩
 ·exact ⟨by rw [hd,if_pos (by omega)];rfl,rfl⟩
 ·refine qm (fun k:Nat=>[(0,.string s),(1,.int .i64 p),(6,.int .i64 n),(7,.int .i32 (accR r (t.take (k-1)))),(8,.int .i64 k)])
   (fun k w1=>1≤k∧k≤n∧(t.take (k-1)).all cont=true∧w1=w') (fun k=>n-k) 1 ⟨rfl,rfl,rfl,rfl,rfl,trivial⟩ ⟨by omega,by omega,rfl,rfl⟩ ?_
  rintro k w1 ρ' ⟨h1,h2,h3,rfl⟩;have hacc:=qx0 r (t.take (k-1));have hlen:(t.take (k-1)).length=k-1:=by rw [List.length_take];omega
  rw [hlen] at hacc;conv=>whnf
  (repeat' (first|(refine zA ?_;(conv=>whnf))|((with_reducible refine zC (fun _=>?_) (fun _=>?_))<;>first|(exfalso;omega)|(conv=>whnf))))
  ·refine IdxV.at_ (p+k) (by omega) (by omega) ?_;(conv=>whnf);have hc:(gb s (p+k)).toNat<256:=(gb s (p+k)).toNat_lt;have hg:t.getD (k-1) 0=gb s (p+k):=by rw [ht,qst];congr 1;omega
   have ht1:t.take k=t.take (k-1)++[gb s (p+k)]:=by
    have:=qks (l:=t) (k:=k-1) (by omega);rw [hg,show k-1+1=k from by omega] at this;exact this
   have hacc2:accR r (t.take (k-1))<524288:=by
    refine Nat.lt_of_lt_of_le hacc (Nat.le_trans (Nat.mul_le_mul (Nat.succ_le_of_lt hb2) (Nat.pow_le_pow_right (by omega) (show k-1≤2 by omega))) (by decide))
   refine Wit.eq (y:=(((gb s (p+k)).toNat/64*64:Nat):Int)) (by rw [← qzt _ hc];exact qov (n:=192) ⟨by omega,by omega⟩ ⟨by decide,by decide⟩) ?_;(conv=>whnf);refine zC (fun _=>?_) (fun _=>?_)<;>(conv=>whnf)
   ·refine ⟨?_,rfl⟩;rw [hd,if_neg (by omega),if_neg ?_]
    ·rfl
    ·rw [Bool.not_eq_true];apply List.all_eq_false.2;refine ⟨gb s (p+k),?_,?_⟩
     ·have:gb s (p+k)∈t.take k:=by rw [ht1];simp
      exact List.mem_of_mem_take (i:=k) (by rw [List.take_take,Nat.min_eq_left (by omega)];exact this)
     ·simp [cont];omega
   ·refine Wit.shl ⟨by decide,by decide⟩ (m:=64) (by decide) rfl ⟨by omega,by omega⟩ ?_;(conv=>whnf);refine Wit.eq (qao 6 rfl ⟨by omega,by omega⟩ ⟨by omega,by omega⟩) ?_;(conv=>whnf);refine Wit.conv ⟨by omega,by omega⟩ ?_;(conv=>whnf);refine Wit.eq (y:=((accR r (t.take k):Nat):Int)) ?_ ?_
    ·have:=qvj (k:=.i32) (a:=accR r (t.take (k-1))) (b:=(gb s (p+k)).toNat%64) 6 ⟨by omega,by omega⟩ (by omega);rw [ht1]
     simpa [accR] using this
    (conv=>whnf);refine zA ?_;(conv=>whnf);refine ⟨k+1,⟨rfl,rfl,rfl,rfl,rfl,trivial⟩,⟨by omega,by omega,?_,rfl⟩,by omega⟩;rw [show k+1-1=k from by omega,ht1,List.all_append,h3];simp [cont];omega
  ·obtain rfl:k=n:=by omega
   refine CallV.of (qts k hb1 _) ?_;rintro v w' ⟨rfl,rfl⟩;conv=>whnf
   (repeat' (first|((with_reducible refine zT ?_);(conv=>whnf))|((with_reducible refine zU ?_);(conv=>whnf))|((with_reducible refine zC (fun _=>?_) (fun _=>?_))<;>first|(exfalso;omega)|(conv=>whnf))))
   ·refine ⟨?_,rfl⟩;rw [hd,if_neg (by omega),if_pos h3,if_pos (.inl (by omega))];rfl
   ·refine CallV.of (qrp _ _) ?_;rintro v w' ⟨rfl,rfl⟩;(conv=>whnf);cases hsc:qal (accR r (t.take (k-1)))
    ·(conv=>whnf);(iterate 2 (refine zU ?_;(conv=>whnf)));refine zP ?_;refine zU ?_;(conv=>whnf);refine ⟨?_,rfl⟩;rw [hd,if_neg (by omega),if_pos h3,if_pos (.inr hsc)];rfl
    ·(conv=>whnf);(iterate 2 (refine zU ?_;(conv=>whnf)));refine zP ?_;refine zT ?_;(conv=>whnf);refine ⟨?_,rfl⟩;rw [hd,if_neg (by omega),if_pos h3,if_neg (by rw [hsc];simp;omega)]
def scal (l:List UInt8):Option (List Nat):=
 match l with
 | []=>some []
 | b::t=>if _h:(decN (b::t)).2=0 then none else (scal ((b::t).drop (decN (b::t)).2)).map ((decN (b::t)).1::·)
termination_by l.length
decreasing_by simp [List.length_drop];omega
theorem qgb (l:List UInt8):(decN l).2≤l.length:=by
 unfold decN
 split
 ·simp
 ·rename_i b t
  have:=qkz b.toNat b.toNat_lt;simp only
  split
  ·simp
  ·split
   ·split<;>simp;omega
   ·simp
theorem qvu (l:List UInt8):(decN l).2≤4:=by
 unfold decN
 split
 ·simp
 ·rename_i b t
  have:=qkz b.toNat b.toNat_lt;simp only
  split
  ·simp
  ·split
   ·split<;>simp;omega
   ·simp
theorem qfw {l:List UInt8} (h:l≠[]) (h0:(decN l).2=0):scal l=none:=by
 match l,h with
 | a::t,_=>rw [scal,dif_pos h0]
theorem qd8 {l:List UInt8} (h:l≠[]) (h0:(decN l).2≠0):scal l=(scal (l.drop (decN l).2)).map ((decN l).1::·):=by
 match l,h with
 | a::t,_=>rw [scal,dif_neg h0]
theorem qge (s:ByteArray) (p:Nat) (h:p<s.size):s.data.toList.drop p≠[]:=by
 rw [qau s p h];simp
theorem qlt (s:ByteArray) (hs:s.size≤140737488355328) (w:World) :
  Gv Tryz.prog 147 [.string s] w fun v w'=>(∃ i:Int,v=.int .i64 i∧i<4611686018427387904∧(scal s.data.toList≠none→i=-1)∧(scal s.data.toList=none→0≤i))∧w'=w:=by
 refine zE Tryz.func147 Tryz.ntmps147 ?_;(conv=>whnf);refine qm (fun p:Nat=>[(0,.string s),(3,.int .i64 p)]) (fun p w1=>p≤s.size∧(scal s.data.toList=none↔scal (s.data.toList.drop p)=none)∧w1=w) (fun p=>s.size-p) 0 ⟨rfl,rfl,trivial⟩ ⟨by omega,by simp,rfl⟩ ?_;rintro p w1 ρ' ⟨h1,h2,rfl⟩;(conv=>whnf);refine zC (fun _=>?_) (fun _=>?_)<;>(conv=>whnf)
 ·refine CallV.of (qpi s p (by omega) hs _) ?_;rintro v w' ⟨rfl,rfl⟩;have hle:=qgb (s.data.toList.drop p);rw [qc9] at hle;conv=>whnf
  (repeat' (first|(refine zA ?_;(conv=>whnf))|((with_reducible refine zC (fun _=>?_) (fun _=>?_))<;>first|(exfalso;omega)|(conv=>whnf))))
  ·refine ⟨⟨p,rfl,by omega,fun h=>?_,fun _=>by omega⟩,rfl⟩;exact absurd (h2.2 (qfw (qge s p (by omega)) (by omega))) h
  ·refine ⟨p+(decN (s.data.toList.drop p)).2,⟨rfl,rfl,trivial⟩,⟨by omega,?_,rfl⟩,by omega⟩;rw [h2,qd8 (qge s p (by omega)) (by omega),List.drop_drop];simp
 ·refine ⟨⟨-1,rfl,by omega,fun _=>rfl,fun h=>?_⟩,rfl⟩;rw [h2,List.drop_eq_nil_of_le (by simp;omega)] at h;rw [scal] at h;cases h
end Go.Proofs.YtajgbepghniciaaGreatDoor
namespace Go.Proofs
open Go.Shelf
def Tryz.lays169_ren:Go.Shelf.Ren:=⟨fun|169=>195|n=>n,fun|70=>301|9=>9|0=>0|72=>303|37=>45|127=>359|3=>3|5=>5|n=>n,fun|n=>n⟩
theorem Tryz.lays169:Go.Proofs.Lays.n169 Tryz.prog Tryz.lays169_ren:={
 mixed:=by kernel_rfl
 f169:=Tryz.func195.trans (congrArg some (by kernel_rfl))
 t0:=Tryz.underlying0
 a0:=Tryz.isAgg0
 z0:=Tryz.sizeOf0
 v0:=Tryz.zeroValue0
 t3:=Tryz.underlying3
 a3:=Tryz.isAgg3
 z3:=Tryz.sizeOf3
 v3:=Tryz.zeroValue3
 t9:=Tryz.underlying9
 a9:=Tryz.isAgg9
 z9:=Tryz.sizeOf9
 v9:=Tryz.zeroValue9
 t37:=Tryz.underlying45
 a37:=Tryz.isAgg45
 z37:=Tryz.sizeOf45
 v37:=Tryz.zeroValue45
 t70:=Tryz.underlying301
 a70:=Tryz.isAgg301
 z70:=Tryz.sizeOf301
 v70:=Tryz.zeroValue301
 t72:=Tryz.underlying303
 a72:=Tryz.isAgg303
 z72:=Tryz.sizeOf303
 v72:=Tryz.zeroValue303
 t127:=Tryz.underlying359
 a127:=Tryz.isAgg359
 z127:=Tryz.sizeOf359
 v127:=Tryz.zeroValue359 }
theorem Tryz.Builder_Extra_169:Builder.Extra Tryz.prog Tryz.lays169_ren:={
 sizeBuilder:=by kernel_rfl
 liesBuilder:=by kernel_rfl
 t5:=Tryz.underlying5
 a5:=Tryz.isAgg5
 z5:=Tryz.sizeOf5
 v5:=Tryz.zeroValue5
 infoByte:=by kernel_rfl
 cellsByte:=by kernel_rfl
 sizeByte:=by kernel_rfl
 neB5:=by decide }
open Go.RowKit in
theorem Tryz.Builder_String_any (B b:Nat) (l:List UInt8) (w:World) (h:Lib.IsBuilder 303 5 B b (Lib.byteCells l) w) (hBw:B≤w.heap.size) :
  Calls Tryz.prog 195 #[.pointer (some ⟨b,0,none⟩)] w fun e w'=>e=.returned (.string ⟨l.toArray⟩)∧Below B w w':=Any.Builder_String_any Tryz.lays169 Tryz.Builder_Extra_169 B b l w h hBw
def Tryz.lays165_ren:Go.Shelf.Ren:=⟨fun|165=>193|240=>245|241=>246|276=>296|277=>297|n=>n,fun|70=>301|3=>3|0=>0|4=>4|9=>9|20=>20|72=>303|37=>45|164=>332|5=>5|n=>n,fun|n=>n⟩
theorem Tryz.lays165:Go.Proofs.Lays.n165 Tryz.prog Tryz.lays165_ren:={
 mixed:=by kernel_rfl
 f165:=Tryz.func193.trans (congrArg some (by kernel_rfl))
 f240:=Tryz.func245.trans (congrArg some (by kernel_rfl))
 f241:=Tryz.func246.trans (congrArg some (by kernel_rfl))
 f276:=Tryz.func296.trans (congrArg some (by kernel_rfl))
 f277:=Tryz.func297.trans (congrArg some (by kernel_rfl))
 t0:=Tryz.underlying0
 a0:=Tryz.isAgg0
 z0:=Tryz.sizeOf0
 v0:=Tryz.zeroValue0
 t3:=Tryz.underlying3
 a3:=Tryz.isAgg3
 z3:=Tryz.sizeOf3
 v3:=Tryz.zeroValue3
 t4:=Tryz.underlying4
 a4:=Tryz.isAgg4
 z4:=Tryz.sizeOf4
 v4:=Tryz.zeroValue4
 t9:=Tryz.underlying9
 a9:=Tryz.isAgg9
 z9:=Tryz.sizeOf9
 v9:=Tryz.zeroValue9
 t20:=Tryz.underlying20
 a20:=Tryz.isAgg20
 z20:=Tryz.sizeOf20
 v20:=Tryz.zeroValue20
 t37:=Tryz.underlying45
 a37:=Tryz.isAgg45
 z37:=Tryz.sizeOf45
 v37:=Tryz.zeroValue45
 t70:=Tryz.underlying301
 a70:=Tryz.isAgg301
 z70:=Tryz.sizeOf301
 v70:=Tryz.zeroValue301
 t72:=Tryz.underlying303
 a72:=Tryz.isAgg303
 z72:=Tryz.sizeOf303
 v72:=Tryz.zeroValue303
 t164:=Tryz.underlying332
 a164:=Tryz.isAgg332
 z164:=Tryz.sizeOf332
 v164:=Tryz.zeroValue332 }
theorem Tryz.Builder_Extra_165:Builder.Extra Tryz.prog Tryz.lays165_ren:={
 sizeBuilder:=by kernel_rfl
 liesBuilder:=by kernel_rfl
 t5:=Tryz.underlying5
 a5:=Tryz.isAgg5
 z5:=Tryz.sizeOf5
 v5:=Tryz.zeroValue5
 infoByte:=by kernel_rfl
 cellsByte:=by kernel_rfl
 sizeByte:=by kernel_rfl
 neB5:=by decide }
open Go.RowKit in
theorem Tryz.Builder_Grow_fresh (B b n:Nat) (w:World) (hB:B≤b) (hbk:w.heap[b]?=some (.cells #[.pointer none,.slice none 0 0] 303 (0,0))) (hBw:B≤w.heap.size) (hn:n≤281474976710656) :
  Calls Tryz.prog 193 #[.pointer (some ⟨b,0,none⟩),.int .i64 n] w fun e w'=>e=.returned (.tuple #[])∧(Lib.BuilderAt 303 5 B b (.pointer (some ⟨b,0,none⟩)) [] w'∧Below B w w'):=Any.Builder_Grow_fresh Tryz.lays165 Tryz.Builder_Extra_165 B b n w hB hbk hBw hn
def Tryz.lays119_ren:Go.Shelf.Ren:=⟨fun|119=>314|n=>n,fun|21=>21|4=>4|n=>n,fun|n=>n⟩
theorem Tryz.lays119:Go.Proofs.Lays.n119 Tryz.prog Tryz.lays119_ren:={
 mixed:=by kernel_rfl
 f119:=Tryz.func314.trans (congrArg some (by kernel_rfl))
 t4:=Tryz.underlying4
 a4:=Tryz.isAgg4
 z4:=Tryz.sizeOf4
 v4:=Tryz.zeroValue4
 t21:=Tryz.underlying21
 a21:=Tryz.isAgg21
 z21:=Tryz.sizeOf21
 v21:=Tryz.zeroValue21 }
theorem Tryz.utf8_ValidRune (r:Int) (w:World) :
  Calls Tryz.prog 314 #[.int .i32 r] w fun e w'=>e=.returned (.bool (Lib.validRune r))∧w'=w:=Any.utf8_ValidRune Tryz.lays119 r w
def Tryz.lays137_ren:Go.Shelf.Ren:=⟨fun|137=>293|217=>313|266=>321|n=>n,fun|9=>9|5=>5|3=>3|n=>n,fun|n=>n⟩
theorem Tryz.lays137:Go.Proofs.Lays.n137 Tryz.prog Tryz.lays137_ren:={
 mixed:=by kernel_rfl
 f137:=Tryz.func293.trans (congrArg some (by kernel_rfl))
 f217:=Tryz.func313.trans (congrArg some (by kernel_rfl))
 f266:=Tryz.func321.trans (congrArg some (by kernel_rfl))
 t3:=Tryz.underlying3
 a3:=Tryz.isAgg3
 z3:=Tryz.sizeOf3
 v3:=Tryz.zeroValue3
 t5:=Tryz.underlying5
 a5:=Tryz.isAgg5
 z5:=Tryz.sizeOf5
 v5:=Tryz.zeroValue5
 t9:=Tryz.underlying9
 a9:=Tryz.isAgg9
 z9:=Tryz.sizeOf9
 v9:=Tryz.zeroValue9 }
open Go.RowKit in
theorem Tryz.strings_IndexByte (s:ByteArray) (c:Int) (w:World) :
  Calls Tryz.prog 293 #[.string s,.int .u8 c] w fun e w'=>e=.returned (.int .i64 (Lib.indexByte s.data.toList c.toNat.toUInt8))∧w'=w:=Any.strings_IndexByte Tryz.lays137 s c w
def Tryz.lays219_ren:Go.Shelf.Ren:=⟨fun|219=>311|217=>313|225=>316|224=>315|267=>319|266=>321|314=>322|n=>n,fun|9=>9|3=>3|4=>4|5=>5|46=>168|146=>417|51=>113|n=>n,fun|1=>4|n=>n⟩
def Tryz.lays143_ren:Go.Shelf.Ren:=⟨fun|143=>305|219=>311|217=>313|225=>316|224=>315|267=>319|266=>321|314=>322|n=>n,fun|9=>9|3=>3|4=>4|5=>5|46=>168|146=>417|51=>113|n=>n,fun|1=>4|n=>n⟩
theorem Tryz.lays143:Go.Proofs.Lays.n143 Tryz.prog Tryz.lays143_ren:={
 mixed:=by kernel_rfl
 f143:=Tryz.func305.trans (congrArg some (by kernel_rfl))
 f217:=Tryz.func313.trans (congrArg some (by kernel_rfl))
 f219:=Tryz.func311.trans (congrArg some (by kernel_rfl))
 f224:=Tryz.func315.trans (congrArg some (by kernel_rfl))
 f225:=Tryz.func316.trans (congrArg some (by kernel_rfl))
 f266:=Tryz.func321.trans (congrArg some (by kernel_rfl))
 f267:=Tryz.func319.trans (congrArg some (by kernel_rfl))
 f314:=Tryz.func322.trans (congrArg some (by kernel_rfl))
 t3:=Tryz.underlying3
 a3:=Tryz.isAgg3
 z3:=Tryz.sizeOf3
 v3:=Tryz.zeroValue3
 t4:=Tryz.underlying4
 a4:=Tryz.isAgg4
 z4:=Tryz.sizeOf4
 v4:=Tryz.zeroValue4
 t5:=Tryz.underlying5
 a5:=Tryz.isAgg5
 z5:=Tryz.sizeOf5
 v5:=Tryz.zeroValue5
 t9:=Tryz.underlying9
 a9:=Tryz.isAgg9
 z9:=Tryz.sizeOf9
 v9:=Tryz.zeroValue9
 t46:=Tryz.underlying168
 a46:=Tryz.isAgg168
 z46:=Tryz.sizeOf168
 v46:=Tryz.zeroValue168
 t51:=Tryz.underlying113
 a51:=Tryz.isAgg113
 z51:=Tryz.sizeOf113
 v51:=Tryz.zeroValue113
 t146:=Tryz.underlying417
 a146:=Tryz.isAgg417
 z146:=Tryz.sizeOf417
 v146:=Tryz.zeroValue417
 g1:=by kernel_rfl }
open Go.RowKit Go.Lib in
theorem Tryz.strings_Index (s sub:ByteArray) (m:Int) (w:World) (hs:s.size<4294967281) (hm:w.cell? ⟨4,0,none⟩=some (.int .i64 m)) :
  Calls Tryz.prog 305 #[.string s,.string sub] w fun e w'=>e=.returned (.int .i64 (Lib.index s.data.toList sub.data.toList))∧w'=w:=Any.strings_Index Tryz.lays143 s sub m w hs hm
def Tryz.lays145_ren:Go.Shelf.Ren:=⟨fun|145=>240|220=>291|219=>311|217=>313|225=>316|224=>315|267=>319|266=>321|314=>322|n=>n,fun|9=>9|4=>4|59=>288|3=>3|5=>5|46=>168|146=>417|51=>113|n=>n,fun|1=>4|n=>n⟩
theorem Tryz.lays145:Go.Proofs.Lays.n145 Tryz.prog Tryz.lays145_ren:={
 mixed:=by kernel_rfl
 f145:=Tryz.func240.trans (congrArg some (by kernel_rfl))
 f217:=Tryz.func313.trans (congrArg some (by kernel_rfl))
 f219:=Tryz.func311.trans (congrArg some (by kernel_rfl))
 f220:=Tryz.func291.trans (congrArg some (by kernel_rfl))
 f224:=Tryz.func315.trans (congrArg some (by kernel_rfl))
 f225:=Tryz.func316.trans (congrArg some (by kernel_rfl))
 f266:=Tryz.func321.trans (congrArg some (by kernel_rfl))
 f267:=Tryz.func319.trans (congrArg some (by kernel_rfl))
 f314:=Tryz.func322.trans (congrArg some (by kernel_rfl))
 t3:=Tryz.underlying3
 a3:=Tryz.isAgg3
 z3:=Tryz.sizeOf3
 v3:=Tryz.zeroValue3
 t4:=Tryz.underlying4
 a4:=Tryz.isAgg4
 z4:=Tryz.sizeOf4
 v4:=Tryz.zeroValue4
 t5:=Tryz.underlying5
 a5:=Tryz.isAgg5
 z5:=Tryz.sizeOf5
 v5:=Tryz.zeroValue5
 t9:=Tryz.underlying9
 a9:=Tryz.isAgg9
 z9:=Tryz.sizeOf9
 v9:=Tryz.zeroValue9
 t46:=Tryz.underlying168
 a46:=Tryz.isAgg168
 z46:=Tryz.sizeOf168
 v46:=Tryz.zeroValue168
 t51:=Tryz.underlying113
 a51:=Tryz.isAgg113
 z51:=Tryz.sizeOf113
 v51:=Tryz.zeroValue113
 t59:=Tryz.underlying288
 a59:=Tryz.isAgg288
 z59:=Tryz.sizeOf288
 v59:=Tryz.zeroValue288
 t146:=Tryz.underlying417
 a146:=Tryz.isAgg417
 z146:=Tryz.sizeOf417
 v146:=Tryz.zeroValue417
 g1:=by kernel_rfl }
open Go.RowKit Go.Lib in
theorem Tryz.strings_Cut (s sep:ByteArray) (m:Int) (w:World) (hs:s.size<4294967281) (hm:w.cell? ⟨4,0,none⟩=some (.int .i64 m)) :
  Calls Tryz.prog 240 #[.string s,.string sep] w fun e w'=>e=.returned (.tuple #[.string ⟨(Lib.cut s.data.toList sep.data.toList).1.toArray⟩,.string ⟨(Lib.cut s.data.toList sep.data.toList).2.1.toArray⟩,.bool (Lib.cut s.data.toList sep.data.toList).2.2])∧∃ n,w'=w.drewN n:=Any.strings_Cut Tryz.lays145 s sep m w hs hm
def Tryz.lays138_ren:Go.Shelf.Ren:=⟨fun|138=>304|195=>317|218=>318|143=>305|219=>311|217=>313|225=>316|224=>315|267=>319|266=>321|314=>322|n=>n,fun|9=>9|3=>3|4=>4|5=>5|0=>0|46=>168|146=>417|51=>113|n=>n,fun|1=>4|n=>n⟩
theorem Tryz.lays138:Go.Proofs.Lays.n138 Tryz.prog Tryz.lays138_ren:={
 mixed:=by kernel_rfl
 f138:=Tryz.func304.trans (congrArg some (by kernel_rfl))
 f143:=Tryz.func305.trans (congrArg some (by kernel_rfl))
 f195:=Tryz.func317.trans (congrArg some (by kernel_rfl))
 f217:=Tryz.func313.trans (congrArg some (by kernel_rfl))
 f218:=Tryz.func318.trans (congrArg some (by kernel_rfl))
 f219:=Tryz.func311.trans (congrArg some (by kernel_rfl))
 f224:=Tryz.func315.trans (congrArg some (by kernel_rfl))
 f225:=Tryz.func316.trans (congrArg some (by kernel_rfl))
 f266:=Tryz.func321.trans (congrArg some (by kernel_rfl))
 f267:=Tryz.func319.trans (congrArg some (by kernel_rfl))
 f314:=Tryz.func322.trans (congrArg some (by kernel_rfl))
 t0:=Tryz.underlying0
 a0:=Tryz.isAgg0
 z0:=Tryz.sizeOf0
 v0:=Tryz.zeroValue0
 t3:=Tryz.underlying3
 a3:=Tryz.isAgg3
 z3:=Tryz.sizeOf3
 v3:=Tryz.zeroValue3
 t4:=Tryz.underlying4
 a4:=Tryz.isAgg4
 z4:=Tryz.sizeOf4
 v4:=Tryz.zeroValue4
 t5:=Tryz.underlying5
 a5:=Tryz.isAgg5
 z5:=Tryz.sizeOf5
 v5:=Tryz.zeroValue5
 t9:=Tryz.underlying9
 a9:=Tryz.isAgg9
 z9:=Tryz.sizeOf9
 v9:=Tryz.zeroValue9
 t46:=Tryz.underlying168
 a46:=Tryz.isAgg168
 z46:=Tryz.sizeOf168
 v46:=Tryz.zeroValue168
 t51:=Tryz.underlying113
 a51:=Tryz.isAgg113
 z51:=Tryz.sizeOf113
 v51:=Tryz.zeroValue113
 t146:=Tryz.underlying417
 a146:=Tryz.isAgg417
 z146:=Tryz.sizeOf417
 v146:=Tryz.zeroValue417
 g1:=by kernel_rfl }
def Tryz.lays151_ren:Go.Shelf.Ren:=⟨fun|151=>255|152=>302|137=>293|119=>314|224=>315|225=>316|217=>313|266=>321|n=>n,fun|9=>9|21=>21|4=>4|3=>3|5=>5|0=>0|46=>168|n=>n,fun|n=>n⟩
theorem Tryz.lays151:Go.Proofs.Lays.n151 Tryz.prog Tryz.lays151_ren:={
 mixed:=by kernel_rfl
 f119:=Tryz.func314.trans (congrArg some (by kernel_rfl))
 f137:=Tryz.func293.trans (congrArg some (by kernel_rfl))
 f151:=Tryz.func255.trans (congrArg some (by kernel_rfl))
 f152:=Tryz.func302.trans (congrArg some (by kernel_rfl))
 f217:=Tryz.func313.trans (congrArg some (by kernel_rfl))
 f224:=Tryz.func315.trans (congrArg some (by kernel_rfl))
 f225:=Tryz.func316.trans (congrArg some (by kernel_rfl))
 f266:=Tryz.func321.trans (congrArg some (by kernel_rfl))
 t0:=Tryz.underlying0
 a0:=Tryz.isAgg0
 z0:=Tryz.sizeOf0
 v0:=Tryz.zeroValue0
 t3:=Tryz.underlying3
 a3:=Tryz.isAgg3
 z3:=Tryz.sizeOf3
 v3:=Tryz.zeroValue3
 t4:=Tryz.underlying4
 a4:=Tryz.isAgg4
 z4:=Tryz.sizeOf4
 v4:=Tryz.zeroValue4
 t5:=Tryz.underlying5
 a5:=Tryz.isAgg5
 z5:=Tryz.sizeOf5
 v5:=Tryz.zeroValue5
 t9:=Tryz.underlying9
 a9:=Tryz.isAgg9
 z9:=Tryz.sizeOf9
 v9:=Tryz.zeroValue9
 t21:=Tryz.underlying21
 a21:=Tryz.isAgg21
 z21:=Tryz.sizeOf21
 v21:=Tryz.zeroValue21
 t46:=Tryz.underlying168
 a46:=Tryz.isAgg168
 z46:=Tryz.sizeOf168
 v46:=Tryz.zeroValue168 }
open Go.RowKit Go.Lib in
theorem Tryz.strings_ContainsRune_ascii (s:ByteArray) (r:Int) (w:World) (h0:0≤r) (h1:r<128) :
  Calls Tryz.prog 255 #[.string s,.int .i32 r] w fun e w'=>e=.returned (.bool (decide (0≤Lib.indexByte s.data.toList r.toNat.toUInt8)))∧w'=w:=Any.strings_ContainsRune_ascii Tryz.lays151 s r w h0 h1
def Tryz.lays110_ren:Go.Shelf.Ren:=⟨fun|110=>263|109=>306|n=>n,fun|31=>37|9=>9|4=>4|3=>3|0=>0|n=>n,fun|n=>n⟩
theorem Tryz.lays110:Go.Proofs.Lays.n110 Tryz.prog Tryz.lays110_ren:={
 mixed:=by kernel_rfl
 f109:=Tryz.func306.trans (congrArg some (by kernel_rfl))
 f110:=Tryz.func263.trans (congrArg some (by kernel_rfl))
 t0:=Tryz.underlying0
 a0:=Tryz.isAgg0
 z0:=Tryz.sizeOf0
 v0:=Tryz.zeroValue0
 t3:=Tryz.underlying3
 a3:=Tryz.isAgg3
 z3:=Tryz.sizeOf3
 v3:=Tryz.zeroValue3
 t4:=Tryz.underlying4
 a4:=Tryz.isAgg4
 z4:=Tryz.sizeOf4
 v4:=Tryz.zeroValue4
 t9:=Tryz.underlying9
 a9:=Tryz.isAgg9
 z9:=Tryz.sizeOf9
 v9:=Tryz.zeroValue9
 t31:=Tryz.underlying37
 a31:=Tryz.isAgg37
 z31:=Tryz.sizeOf37
 v31:=Tryz.zeroValue37 }
open Go.Lib in
theorem Tryz.slices_Contains_string (b off n c:Nat) (zs:List ByteArray) (x:ByteArray) (w:World) (hz:n≤zs.length) (hbig:n≤9223372036854775807) (hc:∀ j,j<zs.length→w.cell? ⟨b,off+j,none⟩=some (.string (zs.getD j ByteArray.empty))) :
  Calls Tryz.prog 263 #[.slice (some ⟨b,off,none⟩) n c,.string x] w fun e w'=>e=.returned (.bool (Lib.containsS (zs.take n) x))∧w'=w:=Any.slices_Contains_string Tryz.lays110 b off n c zs x w hz hbig hc
open Go.Lib in
theorem Tryz.slices_Contains_string_empty (a:Option Addr) (c:Nat) (x:ByteArray) (w:World) :
  Calls Tryz.prog 263 #[.slice a 0 c,.string x] w fun e w'=>e=.returned (.bool false)∧w'=w:=Any.slices_Contains_string_empty Tryz.lays110 a c x w
end Go.Proofs
namespace Go.Proofs.YtajgbepghniciaaGreatDoor
open Go.RowKit V
set_option maxRecDepth 100000
theorem qqp {P:Program} {f:FuncId} {vs:List Value} {w:World} {v:Value} (he:qdx P f=true) (h:Calls P f vs.toArray w fun e w'=>e=.returned v∧w'=w) :
  Gv P f vs w fun u w'=>u=v∧w'=w:=⟨he,h.mono fun _ _ ⟨h1,h2⟩=>⟨v,h1,rfl,h2⟩⟩
def signs:ByteArray:=⟨#[60,62,34,123,125,124,94,96,92]⟩
theorem qku (s:ByteArray) (c:Int) (w:World) :
  Gv Tryz.prog 293 [.string s,.int .u8 c] w fun v w'=>v=.int .i64 (Lib.indexByte s.data.toList c.toNat.toUInt8)∧w'=w:=
 qqp (by kernel_rfl) (Tryz.strings_IndexByte s c w)
theorem qlo (r:Int) (w:World) :
  Gv Tryz.prog 314 [.int .i32 r] w fun v w'=>v=.bool (Lib.validRune r)∧w'=w:=
 qqp (by kernel_rfl) (Tryz.utf8_ValidRune r w)
theorem qng (r:Nat) (h:128≤r):2≤(Utf8.encode r).size∧(Utf8.encode r).size≤4∧128≤(gb (Utf8.encode r) ((Utf8.encode r).size-1)).toNat:=by
 unfold Utf8.encode;simp only;obtain ⟨c,hc,hc2⟩:∃ c,(if Utf8.valid r=true then (r:Int).toNat else Utf8.runeError)=c∧128≤c:=by
  refine ⟨_,rfl,?_⟩
  split
  ·simpa using h
  ·decide
 rw [hc];rw [if_neg (by omega)];have hm:c%64<64:=Nat.mod_lt _ (by omega)
 split
 ·refine ⟨show 2≤2 by decide,show 2≤4 by decide,?_⟩;show 128≤(UInt8.ofNat (0x80+c%64)).toNat;rw [UInt8.toNat_ofNat',Nat.mod_eq_of_lt (by omega)];omega
 ·split
  ·refine ⟨show 2≤3 by decide,show 3≤4 by decide,?_⟩;show 128≤(UInt8.ofNat (0x80+c%64)).toNat;rw [UInt8.toNat_ofNat',Nat.mod_eq_of_lt (by omega)];omega
  ·refine ⟨show 2≤4 by decide,show 4≤4 by decide,?_⟩;show 128≤(UInt8.ofNat (0x80+c%64)).toNat;rw [UInt8.toNat_ofNat',Nat.mod_eq_of_lt (by omega)];omega
theorem qm4:∀ pos:Fin 9,(Utf8.decode signs pos.1).2=1∧(Utf8.decode signs pos.1).1<128:=by decide
theorem qm5:∀ pos:Fin 9,(gb signs pos.1).toNat<128:=by decide
theorem qm3:∀ y∈signs.data.toList,y.toNat<128:=by
 intro y hy;simp only [signs,List.mem_cons,List.not_mem_nil,or_false] at hy
 rcases hy with rfl|rfl|rfl|rfl|rfl|rfl|rfl|rfl|rfl<;>decide
theorem qi7 (l:List UInt8) (c:UInt8) (h:∀ x∈l,x≠c):Lib.indexByte l c=-1:=by
 induction l with
 | nil=>rfl
 | cons x l ih=>
  have h1:(x==c)=false:=by simpa using h x (by simp)
  have h2:=ih fun y hy=>h y (by simp [hy])
  simp only [Lib.indexByte,h1,h2];simp
theorem qi8 (r:Nat) (h0:128≤r) (h1:r≤1114111) (w:World) :
  Gv Tryz.prog 302 [.string signs,.int .i32 r] w fun v w'=>v=.int .i64 (-1)∧Ext w w':=by
 have he:=qng r h0;refine zE Tryz.func302 Tryz.ntmps302 ?_;(conv=>whnf);refine zY (fun _=>?_);(conv=>whnf);(iterate 2 (refine zT ?_;(conv=>whnf)));refine zN (fun _=>?_);(conv=>whnf);refine zC (fun _=>?_) (fun _=>?_)<;>(conv=>whnf)
 ·refine NewV.mem (Mem.nil w) ?_;intro b w1 hm;(conv=>whnf);refine qm (fun pos:Nat=>[(175,.pointer (some ⟨b,0,none⟩))]) (fun pos w2=>pos≤9∧Mem w w2 [(b,.stringIter signs pos)]) (fun pos=>9-pos) 0 ⟨rfl,trivial⟩ ⟨by omega,hm⟩ ?_;rintro pos w2 ρ' ⟨hp,hm⟩;(conv=>whnf);refine NextS.mem hm (i:=0) rfl ?_ ?_
  ·intro hlt w3 hm3;have hlt':pos<9:=hlt;have hd:=qm4 ⟨pos,hlt'⟩;simp only at hd;rw [hd.1] at hm3;(conv=>whnf);refine zT ?_;(conv=>whnf);refine zN (fun _=>?_);(conv=>whnf);exact ⟨pos+1,⟨rfl,trivial⟩,⟨by omega,hm3⟩,by omega⟩
  ·intro hge;(conv=>whnf);refine zU ?_;(conv=>whnf);exact ⟨rfl,hm.ext⟩
 ·refine CallV.of (qlo _ _) ?_;rintro v w1 ⟨rfl,rfl⟩;(conv=>whnf);cases hv:Lib.validRune r
  ·(conv=>whnf);refine zP ?_;refine zU ?_;(conv=>whnf);exact ⟨rfl,Ext.refl _⟩
  ·(conv=>whnf);refine zP ?_;refine zT ?_;(conv=>whnf);refine ScopeV.straight ?_;(conv=>whnf);refine zA ?_;(conv=>whnf);have hsg:signs.size=9:=rfl;refine qm (fun _:Unit=>[(0,.string signs),(7,.string (Utf8.encode r)),(8,.int .i64 ((Utf8.encode r).size-1)),(9,.int .i64 ((Utf8.encode r).size-1))]) (fun _ w2=>w2=w1) (fun _=>0) () ⟨rfl,rfl,rfl,rfl,trivial⟩ rfl ?_;rintro _ w2 ρ' rfl;(conv=>whnf);refine zY (fun _=>?_);(conv=>whnf);refine ScopeV.straight ?_;(conv=>whnf);refine DrawV.quiet (by kernel_rfl) (by kernel_rfl) ?_;(conv=>whnf);(iterate 2 (refine zW ?_;(conv=>whnf)));refine IdxV.at_ ((Utf8.encode r).size-1) (by omega) (by omega) ?_;(conv=>whnf);(iterate 3 (refine zW ?_;(conv=>whnf)));refine IdxV.at_ ((Utf8.encode r).size-1) (by omega) (by omega) ?_;(conv=>whnf);(iterate 2 (refine zW ?_;(conv=>whnf)));refine zC (fun _=>?_) (fun _=>?_)<;>(conv=>whnf)
   have hlow:=qm5 ⟨(Utf8.encode r).size-1,by omega⟩;simp only at hlow
   ·refine DrawV.quiet (by kernel_rfl) (by kernel_rfl) ?_;(conv=>whnf);(iterate 2 (refine zW ?_;(conv=>whnf)));refine zA ?_;(conv=>whnf);refine zW ?_;(conv=>whnf);refine SliceS.at_ (Utf8.encode r).size 9 (show (((Utf8.encode (r:Int)).size:Int)-1+1:Int)=((Utf8.encode (r:Int)).size:Int) by omega) rfl (by omega) (by decide) ?_;(conv=>whnf);(iterate 3 (refine zW ?_;(conv=>whnf)));refine IdxV.at_ ((Utf8.encode r).size-1) (by omega) (by omega) ?_;(conv=>whnf);refine zW ?_;(conv=>whnf);refine ⟨_,qku _ _ _,?_⟩;rw [qi7]
    ·(conv=>whnf);refine zW ?_;(conv=>whnf);refine zY (fun _=>?_);(conv=>whnf);exact ⟨rfl,(Ext.refl _).drew.drew⟩
    ·intro x hx e;rw [Lib.extract_data] at hx;have hx1:=List.mem_of_mem_take hx;have h2:=qm3 x (List.mem_of_mem_drop hx1);rw [e] at h2;have h3:((((gb (Utf8.encode (r:Int)) ((Utf8.encode (r:Int)).size-1)).toNat:Int)).toNat.toUInt8).toNat=(gb (Utf8.encode (r:Int)) ((Utf8.encode (r:Int)).size-1)).toNat:=by
      rw [Int.toNat_natCast];simp
     omega
   ·have hlow:=qm5 ⟨(Utf8.encode r).size-1,by omega⟩;simp only at hlow;omega
theorem ql5 (l:List UInt8) (c:UInt8):-1≤Lib.indexByte l c:=by
 induction l with
 | nil=>exact Int.le_refl _
 | cons x l ih=>
  simp only [Lib.indexByte]
  split
  ·omega
  ·split<;>omega
theorem qkv (l:List UInt8) (c:UInt8):0≤Lib.indexByte l c↔c∈l:=by
 induction l with
 | nil=>simp [Lib.indexByte]
 | cons x l ih=>
  simp only [Lib.indexByte,List.mem_cons]
  by_cases h:x=c
  ·subst h;simp
  ·have h1:(x==c)=false:=by simpa using h
   have h2:¬ c=x:=fun e=>h e.symm
   rw [h1];simp only [Bool.false_eq_true,if_false,h2,false_or,← ih];have hge:=ql5 l c
   split
   ·rename_i e;simp at e;omega
   ·rename_i e;simp at e;omega
def barB (c:UInt8):Bool:=decide (c.toNat≤32∨c∈signs.data.toList)
def barR (r:Nat):Bool:=decide (r<128)&&barB (UInt8.ofNat r)
theorem qlu (r:Nat) (h1:r≤1114111) (w:World) :
  Gv Tryz.prog 255 [.string signs,.int .i32 r] w fun v w'=>v=.bool (decide (r<128∧UInt8.ofNat r∈signs.data.toList))∧Ext w w':=by
 by_cases h:r<128
 ·have hk:=Tryz.strings_ContainsRune_ascii signs (r:Int) w (by omega) (by omega);refine (qqp (by kernel_rfl) hk).mono ?_;rintro v w' ⟨rfl,rfl⟩;refine ⟨congrArg Value.bool ?_,Ext.refl _⟩;rw [Bool.eq_iff_iff,decide_eq_true_iff,decide_eq_true_iff,qkv];simp [h]
 ·refine zE Tryz.func255 Tryz.ntmps255 ?_;(conv=>whnf);refine CallV.of (qi8 r (by omega) h1 w) ?_;rintro v w' ⟨rfl,he⟩;(conv=>whnf);exact ⟨congrArg Value.bool (decide_eq_false (fun hh=>h hh.1)).symm,he⟩
theorem qjk (r:Nat) (h1:r≤1114111) (w:World) :
  Gv Tryz.prog 209 [.int .i32 r] w fun v w'=>v=.bool (barR r)∧Ext w w':=by
 have hn:r<128→(UInt8.ofNat r).toNat=r:=fun h=>by rw [UInt8.toNat_ofNat'];omega
 refine zE Tryz.func209 Tryz.ntmps209 ?_;conv=>whnf
 (repeat' (first|((with_reducible refine zT ?_);(conv=>whnf))|((with_reducible refine zU ?_);(conv=>whnf))|((with_reducible refine zC (fun _=>?_) (fun _=>?_))<;>first|(exfalso;omega)|(conv=>whnf))))
 ·refine ⟨congrArg Value.bool ?_,Ext.refl _⟩;have:=hn (by omega);simp [barR,barB,this];omega
 ·refine CallV.of (qlu r h1 w) ?_;rintro v w' ⟨rfl,he⟩;(conv=>whnf);refine zU ?_;(conv=>whnf);refine ⟨congrArg Value.bool ?_,he⟩
  by_cases h:r<128
  ·have:=hn h;simp [barR,barB,this,h];omega
  ·simp [barR,h]
theorem get!_gb (s:ByteArray) (k:Nat):s.get! k=gb s k:=by
 obtain ⟨⟨l⟩⟩:=s;simp [ByteArray.get!,gb,List.getD_eq_getElem?_getD,getElem!_def]
 split
 ·simp_all
 ·rename_i h;simp_all;rfl
theorem qgc (s:ByteArray) (pos:Nat) (hb:(gb s pos).toNat<128):Utf8.decode s pos=((gb s pos).toNat,1):=by
 unfold Utf8.decode;simp only [Nat.add_zero,get!_gb];rw [if_pos hb]
theorem qh3 (s:ByteArray) (pos:Nat) (h:pos<s.size) (hb:128≤(gb s pos).toNat) :
  128≤(Utf8.decode s pos).1∧(Utf8.decode s pos).1≤1114111∧1≤(Utf8.decode s pos).2∧pos+(Utf8.decode s pos).2≤s.size∧∀ j,j<(Utf8.decode s pos).2→128≤(gb s (pos+j)).toNat:=by
 unfold Utf8.decode;simp only [Nat.add_zero,get!_gb];rw [if_neg (by omega)];have one:∀ j,j<1→128≤(gb s (pos+j)).toNat:=fun j hj=>by (obtain rfl:j=0:=by omega);exact hb
 have hb0:=(gb s pos).toNat_lt
 split
 ·rename_i hc
  simp only [Bool.and_eq_true,beq_iff_eq,decide_eq_true_eq] at hc
  split
  ·refine ⟨by omega,by dsimp only;omega,by dsimp only;omega,by dsimp only;omega,fun j hj=>?_⟩
   rcases Nat.lt_or_ge j 1 with h1|h1
   ·exact one j h1
   ·obtain rfl:j=1:=by dsimp only at hj;omega
    omega
  ·exact ⟨by decide,by decide,by decide,by dsimp only;omega,one⟩
 ·split
  ·rename_i hc
   simp only [Bool.and_eq_true,beq_iff_eq,decide_eq_true_eq] at hc
   split
   ·refine ⟨by dsimp only;simp at *;omega,by dsimp only;omega,by dsimp only;omega,by dsimp only;omega,fun j hj=>?_⟩
    rcases Nat.lt_or_ge j 1 with h1|h1
    ·exact one j h1
    ·obtain rfl|rfl:j=1∨j=2:=by dsimp only at hj;omega
     ·omega
     ·omega
   ·exact ⟨by decide,by decide,by decide,by dsimp only;omega,one⟩
  ·split
   ·rename_i hc
    simp only [Bool.and_eq_true,beq_iff_eq,decide_eq_true_eq] at hc
    split
    ·rename_i hv
     simp only [Bool.and_eq_true,decide_eq_true_eq,Utf8.valid,Bool.or_eq_true] at hv;refine ⟨by dsimp only;omega,by dsimp only;omega,by dsimp only;omega,by dsimp only;omega,fun j hj=>?_⟩
     rcases Nat.lt_or_ge j 1 with h1|h1
     ·exact one j h1
     ·obtain rfl|rfl|rfl:j=1∨j=2∨j=3:=by dsimp only at hj;omega
      ·omega
      ·omega
      ·omega
    ·exact ⟨by decide,by decide,by decide,by dsimp only;omega,one⟩
   ·exact ⟨by decide,by decide,by decide,by dsimp only;omega,one⟩
theorem qj9 (s:ByteArray) (n:Nat):∀ pos,pos+n≤s.size→(∀ j,j<n→128≤(gb s (pos+j)).toNat)→
  (s.data.toList.drop pos).any barB=(s.data.toList.drop (pos+n)).any barB:=by
 induction n with
 | zero=>intro pos _ _;rfl
 | succ n ih=>
  intro pos hle hh;have h0:=hh 0 (by omega);have hb:barB (gb s pos)=false:=by
   simp only [barB,decide_eq_false_iff_not,not_or];exact ⟨by simp only [Nat.add_zero] at h0;omega,fun hm=>by have:=qm3 _ hm;simp only [Nat.add_zero] at h0;omega⟩
  rw [qau s pos (by omega),List.any_cons,hb,Bool.false_or,ih (pos+1) (by omega) (fun j hj=>by have:=hh (j+1) (by omega);rwa [show pos+1+j=pos+(j+1) from by omega])]
  congr 2;omega
theorem qkw (s:ByteArray) (hs:s.size≤140737488355328) (w:World) :
  Gv Tryz.prog 208 [.string s,.func (.func 209) #[] #[]] w fun v w'=>(∃ i:Int,v=.int .i64 i∧(0≤i↔s.data.toList.any barB=true))∧Ext w w':=by
 have hin:Gv Tryz.prog 254 [.string s,.func (.func 209) #[] #[],.bool true] w fun v w'=>(∃ i:Int,v=.int .i64 i∧(0≤i↔s.data.toList.any barB=true))∧Ext w w':=by
  refine zE Tryz.func254 Tryz.ntmps254 ?_;(conv=>whnf);refine NewV.mem (Mem.nil w) ?_;intro b w1 hm;(conv=>whnf);refine qm (fun pos:Nat=>[(1,.func (.func 209) #[] #[]),(2,.bool true),(10,.pointer (some ⟨b,0,none⟩))])
   (fun pos w2=>pos≤s.size∧Mem w w2 [(b,.stringIter s pos)]∧s.data.toList.any barB=(s.data.toList.drop pos).any barB) (fun pos=>s.size-pos) 0 ⟨rfl,rfl,rfl,trivial⟩ ⟨by omega,hm,rfl⟩ ?_
  rintro pos w2 ρ' ⟨hp,hm,ha⟩;(conv=>whnf);refine NextS.mem hm (i:=0) rfl ?_ ?_
  ·intro hlt w3 hm3
   by_cases hb:(gb s pos).toNat<128
   ·have hd:=qgc s pos hb;rw [hd] at hm3 ⊢;simp only at hm3 ⊢;have hbb:UInt8.ofNat (gb s pos).toNat=gb s pos:=by simp
    (conv=>whnf);refine zT ?_;(conv=>whnf);refine CallV.of (qjk _ (by omega) _) ?_;rintro v w4 ⟨rfl,he⟩;have hm4:=hm3.call he;(conv=>whnf);have hbr:barR (gb s pos).toNat=barB (gb s pos):=by rw [barR,decide_eq_true hb,hbb,Bool.true_and]
    rw [hbr];cases hbar:barB (gb s pos)
    ·(conv=>whnf);refine Tst.beqT ?_;refine zU ?_;(conv=>whnf);refine ⟨pos+1,⟨rfl,rfl,rfl,trivial⟩,⟨by omega,hm4,?_⟩,by omega⟩;rw [ha,qau s pos hlt,List.any_cons,hbar,Bool.false_or]
    ·(conv=>whnf);refine Tst.beqT ?_;refine zT ?_;(conv=>whnf);refine ⟨⟨pos,rfl,?_⟩,hm4.ext⟩;rw [ha,qau s pos hlt,List.any_cons,hbar];simp;try omega
   ·have hd:=qh3 s pos hlt (by omega);obtain ⟨d1,d2,d3,d4,d5⟩:=hd;(conv=>whnf);refine zT ?_;(conv=>whnf);refine CallV.of (qjk _ d2 _) ?_;rintro v w4 ⟨rfl,he⟩;have hm4:=hm3.call he;have hbr:barR (Utf8.decode s pos).1=false:=by simp [barR];omega
    rw [hbr];(conv=>whnf);refine Tst.beqT ?_;refine zU ?_;(conv=>whnf);refine ⟨pos+(Utf8.decode s pos).2,⟨rfl,rfl,rfl,trivial⟩,⟨by omega,hm4,?_⟩,by omega⟩;rw [ha];exact qj9 s _ pos d4 d5
  ·intro hge;(conv=>whnf);refine zU ?_;(conv=>whnf);refine ⟨⟨-1,rfl,?_⟩,hm.ext⟩;rw [ha,List.drop_eq_nil_of_le (by simp;omega)];simp
 refine zE Tryz.func208 Tryz.ntmps208 ?_;(conv=>whnf);refine CallV.of (hin) ?_;rintro v w' ⟨⟨i,rfl,hi⟩,he⟩;(conv=>whnf);exact ⟨⟨i,rfl,hi⟩,he⟩
def refE (s:ByteArray):Nat:=
 if 65536<s.size then 2 else if scal s.data.toList=none then 40 else if s.data.toList.any barB then 50 else 0
theorem qlh (s:ByteArray) (hs:s.size≤140737488355328) (w:World) :
  Gv Tryz.prog 145 [.string s] w fun v w'=>v=.int .i64 (refE s)∧Ext w w':=by
 refine zE Tryz.func145 Tryz.ntmps145 ?_;(conv=>whnf);refine zC (fun _=>?_) (fun _=>?_)<;>(conv=>whnf)
 ·exact ⟨by rw [refE,if_pos (by omega)];rfl,Ext.refl _⟩
 ·refine CallV.of (qlt s hs _) ?_;rintro v w' ⟨⟨i,rfl,h1,h2,h3⟩,rfl⟩;(conv=>whnf);refine zC (fun _=>?_) (fun _=>?_)<;>(conv=>whnf)
  ·refine ⟨?_,Ext.refl _⟩;rw [refE,if_neg (by omega),if_pos (by
    by_cases h:scal s.data.toList=none
    ·exact h
    ·have:=h2 h;omega)]
   rfl
  ·have hsc:scal s.data.toList≠none:=fun h=>by have:=h3 h;omega
   refine CallV.of (qkw s hs _) ?_;rintro v w1 ⟨⟨j,rfl,hj⟩,he⟩;(conv=>whnf);refine zC (fun _=>?_) (fun _=>?_)<;>(conv=>whnf)
   ·refine ⟨?_,he⟩;rw [refE,if_neg (by omega),if_neg hsc,if_pos (hj.1 (by omega))];rfl
   ·refine ⟨?_,he⟩;rw [refE,if_neg (by omega),if_neg hsc,if_neg (fun h=>by have:=hj.2 h;omega)];rfl
def qdc (c:UInt8):Bool:=decide (97≤c.toNat∧c.toNat≤122∨65≤c.toNat∧c.toNat≤90)
def qoa (c:UInt8):Bool:=qdc c||decide (48≤c.toNat∧c.toNat≤57∨c.toNat=43∨c.toNat=45∨c.toNat=46)
def qas:List UInt8→Nat→Nat
 | [],_=>0
 | c::l,k=>if c.toNat=58 then k else if k=0∧qdc c=false∨qoa c=false then 0 else qas l (k+1)
theorem qgw (c:UInt8) (l:List UInt8) (k:Nat) (h1:c.toNat≠58)
  (h2:97≤c.toNat∧c.toNat≤122∨65≤c.toNat∧c.toNat≤90∨(0<k∧(48≤c.toNat∧c.toNat≤57∨c.toNat=43∨c.toNat=45∨c.toNat=46))) :
  qas (c::l) k=qas l (k+1):=by
 rw [qas,if_neg h1,if_neg];simp only [qoa,qdc,Bool.or_eq_false_iff,decide_eq_false_iff_not];omega
theorem qct (c:UInt8) (l:List UInt8) (k:Nat) (h1:c.toNat≠58∨k=0)
  (h2:¬ (97≤c.toNat∧c.toNat≤122∨65≤c.toNat∧c.toNat≤90∨(0<k∧(48≤c.toNat∧c.toNat≤57∨c.toNat=43∨c.toNat=45∨c.toNat=46)))) :
  qas (c::l) k=0:=by
 rw [qas]
 split
 ·omega
 ·rw [if_pos];simp only [qoa,qdc,Bool.or_eq_false_iff,decide_eq_false_iff_not];omega
theorem qiw (c:UInt8) (l:List UInt8) (k:Nat) (h1:c.toNat=58):qas (c::l) k=k:=by
 rw [qas,if_pos h1]
theorem qcp (s:ByteArray):s.extract 0 0=⟨#[]⟩:=by
 obtain ⟨⟨l⟩⟩:=s;rw [ByteArray.extract_mk];simp
theorem qrr (s:ByteArray) (hs:s.size≤140737488355328) (w:World) :
  Gv Tryz.prog 146 [.string s] w fun v w'=>v=.string (s.extract 0 (qas s.data.toList 0))∧Ext w w':=by
 refine zE Tryz.func146 Tryz.ntmps146 ?_;(conv=>whnf);refine NewV.mem (Mem.nil w) ?_;intro b w1 hm;(conv=>whnf);refine qm (fun pos:Nat=>[(0,.string s),(7,.pointer (some ⟨b,0,none⟩))])
  (fun pos w2=>pos≤s.size∧Mem w w2 [(b,.stringIter s pos)]∧qas s.data.toList 0=qas (s.data.toList.drop pos) pos) (fun pos=>s.size-pos) 0 ⟨rfl,rfl,trivial⟩ ⟨by omega,hm,rfl⟩ ?_
 rintro pos w2 ρ' ⟨hp,hm,ha⟩;(conv=>whnf);refine NextS.mem hm (i:=0) rfl ?_ ?_
 ·intro hlt w3 hm3;have hget:=qau s pos hlt;rw [hget] at ha
  by_cases hb:(gb s pos).toNat<128
  ·have hd:=qgc s pos hb;rw [hd] at hm3 ⊢;simp only at hm3 ⊢;conv=>whnf
   (repeat' (first|((with_reducible refine zT ?_);(conv=>whnf))|((with_reducible refine zU ?_);(conv=>whnf))|((with_reducible refine zC (fun _=>?_) (fun _=>?_))<;>first|(exfalso;omega)|(conv=>whnf))))
   all_goals first
    | (refine ⟨pos+1,⟨rfl,rfl,trivial⟩,⟨by omega,hm3,?_⟩,by omega⟩;rw [ha];exact qgw _ _ _ (by omega) (by omega))
    | (refine ⟨?_,hm3.ext⟩;rw [ha,qct _ _ _ (by omega) (by omega),qcp])
    | (refine SliceS.at_ 0 pos rfl rfl (by omega) (by omega) ?_;(conv=>whnf);skip;exact ⟨by rw [ha,qiw _ _ _ (by omega)],hm3.ext⟩)
  ·obtain ⟨d1,d2,d3,d4,d5⟩:=qh3 s pos hlt (by omega);generalize (Utf8.decode s pos).1=r at d1 d2 ⊢;generalize (Utf8.decode s pos).2=n at d3 d4 d5 hm3;conv=>whnf
   (repeat' (first|((with_reducible refine zT ?_);(conv=>whnf))|((with_reducible refine zU ?_);(conv=>whnf))|((with_reducible refine zC (fun _=>?_) (fun _=>?_))<;>first|(exfalso;omega)|(conv=>whnf))))
   all_goals first
    | (refine ⟨?_,hm3.ext⟩;rw [ha,qct _ _ _ (by omega) (by omega),qcp])
 ·intro hge;rw [List.drop_eq_nil_of_le (by simp;omega)] at ha;(conv=>whnf);refine zU ?_;(conv=>whnf);exact ⟨by rw [ha,qas,qcp],hm.ext⟩
def iriE (s:ByteArray):Nat:=if refE s≠0 then refE s else if qas s.data.toList 0=0 then 51 else 0
theorem qrq (l:List UInt8) (k:Nat):qas l k≤k+l.length:=by
 induction l generalizing k with
 | nil=>simp [qas]
 | cons c l ih=>
  rw [qas];have:=ih (k+1);simp only [List.length_cons]
  split
  ·omega
  ·split<;>omega
theorem qff (s:ByteArray) (n:Nat) (hn:n≤s.size):s.extract 0 n=⟨#[]⟩↔n=0:=by
 constructor
 ·intro h;have:=congrArg ByteArray.size h;rw [ByteArray.size_extract] at this;have h0:(ByteArray.mk #[]).size=0:=rfl;omega
 ·rintro rfl;exact qcp s
theorem qg5 (s:ByteArray) (hs:s.size≤140737488355328) (w:World) :
  Gv Tryz.prog 86 [.string s] w fun v w'=>v=.int .i64 (iriE s)∧Ext w w':=by
 refine zE Tryz.func86 Tryz.ntmps86 ?_;(conv=>whnf);refine CallV.of (qlh s hs _) ?_;rintro v w1 ⟨rfl,he⟩;(conv=>whnf);refine zC (fun _=>?_) (fun _=>?_)<;>(conv=>whnf)
 ·exact ⟨by rw [iriE,if_pos (by omega)],he⟩
 ·refine CallV.of (qrr s hs _) ?_;rintro v w2 ⟨rfl,he2⟩;have hle:=qrq s.data.toList 0;have hle':qas s.data.toList 0≤s.size:=by simpa using hle
  (conv=>whnf);refine Tst.seq (fun h=>?_) (fun h=>?_)
  ·(conv=>whnf);exact ⟨by rw [iriE,if_neg (by omega),if_pos ((qff s _ hle').1 h)];rfl,he.trans he2⟩
  ·(conv=>whnf);exact ⟨by rw [iriE,if_neg (by omega),if_neg (fun e=>h ((qff s _ hle').2 e))];rfl,he.trans he2⟩
open Go.RowKit V
set_option maxRecDepth 100000
def es:ByteArray:=⟨#[]⟩
structure PN where
 op:Int
 iri:ByteArray
 a:Int
 b:Int
 fA:Option Addr
 fc:Nat
 f:List ByteArray
 vA:Option Addr
 vc:Nat
 v:List ByteArray
end Go.Proofs.YtajgbepghniciaaGreatDoor
