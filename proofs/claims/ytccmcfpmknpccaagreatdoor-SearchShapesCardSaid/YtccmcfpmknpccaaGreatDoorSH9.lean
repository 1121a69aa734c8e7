/- Lemmas and contracts of functions on the way to the law's card (part 9 of 16). -/
import Derived.Test.YtccmcfpmknpccaaGreatDoorSH8
namespace Go.Proofs.YtccmcfpmknpccaaGreatDoor
set_option maxHeartbeats 8000000
open Go.RowKit
namespace V
section
variable {P:Program} {n:Nat} {r:Option Nat}
def qoj (ops:List Oper):Nat→List Nat→Bool
 | 0,_=>true
 | j+1,S=>S.contains j&&qoj ops j ((match getL ops j with|some o=>qay o|none=>[])++S)
def qaab (m:Nat) (ops:List Oper):Bool:=
 Nat.blt m ops.length&&qoj ops m (match getL ops m with|some o=>qay o|none=>[])&&(List.range ops.length).all fun j=>
  match getL ops j with
  | none=>true
  | some o=>(qay o).all (fun k=>Nat.blt k j)&&(Nat.ble j m||(qay o).contains (j-1))&&(Nat.ble m j||(match o.guard with|none=>true|some (g,_)=>Nat.blt g m))
structure TailP (m:Nat) (ops:Array Oper):Prop where
 msz:m<ops.size
 reach:∀ o,ops[m]?=some o→qoj ops.toList m (qay o)=true
 lt:∀ (j:Nat) (o:Oper),ops[j]?=some o→∀ k∈qay o,k<j
 next:∀ (j:Nat) (o:Oper),ops[j]?=some o→m<j→j-1∈qay o
 guard:∀ (j:Nat) (o:Oper) (g:Nat) (b:Bool),ops[j]?=some o→j<m→o.guard=some (g,b)→g<m
theorem q4x {m:Nat} {ops:Array Oper} (h:qaab m ops.toList=true):TailP m ops:=by
 simp only [qaab,Bool.and_eq_true] at h;obtain ⟨⟨h1,h2⟩,h3⟩:=h;have hm:m<ops.size:=by simpa using h1
 have key:∀ (j:Nat) (o:Oper),ops[j]?=some o→(qay o).all (fun k=>Nat.blt k j)=true∧(Nat.ble j m||(qay o).contains (j-1))=true∧(Nat.ble m j||(match o.guard with|none=>true|some (g,_)=>Nat.blt g m))=true:=fun j o ho=>by
  have hj:=(Array.getElem?_eq_some_iff.1 ho).1;have:=List.all_eq_true.1 h3 j (List.mem_range.2 (by simpa using hj))
  grind [qax]
 refine ⟨hm,fun o ho=>?_,fun j o ho k hk=>?_,fun j o ho hj=>?_,fun j o g b ho hj hg=>?_⟩
 ·grind [qax]
 ·simp_all
 ·have:=(key j o ho).2.1;rw [Bool.or_eq_true] at this
  rcases this with h|h
  ·have:=Nat.le_of_ble_eq_true h;omega
  simp_all
 ·have:=(key j o ho).2.2;rw [hg,Bool.or_eq_true] at this
  rcases this with h|h
  ·have:=Nat.le_of_ble_eq_true h;omega
  simp_all
theorem qtq {ops:Array Oper} {p:Nat→Prop} (hc:∀ (j:Nat) (o:Oper),ops[j]?=some o→p j→∀ k∈qay o,p k):∀ (j:Nat) (S:List Nat),qoj ops.toList j S=true→(∀ k∈S,p k)→∀ k,k<j→p k
 | 0,_,_,_,k,hk=>by omega
 | j+1,S,h,hS,k,hk=>by
  rw [qoj,Bool.and_eq_true] at h;have hj:p j:=(by grind)
  by_cases e:k=j
  ·simp_all
  ·refine qtq hc j _ h.2 (fun i hi=>?_) k Oo
   grind [qax]
theorem runK {o:Oper} {ops:Array Oper} {i:Nat} {ρ:Nat→Value} {ds:List Deferred} {w:World} {K:(Nat→Value)→List Deferred→World→Prop} {a:Act} {K':Act→World→Prop} {Q':Exit→Act→World→Prop} (hi:ops[i]?=some o)
  (hg:Region.wanted o (yielded ops a.tmps)=true) (ha:Sw n ρ a) (hd:a.defers=ds) (h:runW P n r o K ρ ds w)
  (hk:∀ ρ' ds' a' w',Sw n ρ' a'→a'.defers=ds'→K ρ' ds' w'→K' a' w'):wpOpIn (Fr r) 0 P ops Q' i K' a w:=by
 unfold wpOpIn;rw [hi];dsimp only;rw [if_pos hg];refine q6g ha hd h fun v ds' w' hp=>?_;obtain ⟨ρ',h1,h2,h3⟩:=ha.put ds' hp
 grind
theorem q0x {o:Oper} {ops:Array Oper} {i:Nat} {ρ:Nat→Value} {ds:List Deferred} {w:World} {K:(Nat→Value)→List Deferred→World→Prop} {a:Act} {K':Act→World→Prop} {Q':Exit→Act→World→Prop} (hi:ops[i]?=some o)
  (hg:Region.wanted o (yielded ops a.tmps)=false) (ha:Sw n ρ a) (hd:a.defers=ds) (h:qq6 n o K ρ ds w)
  (hk:∀ ρ' ds' a' w',Sw n ρ' a'→a'.defers=ds'→K ρ' ds' w'→K' a' w'):wpOpIn (Fr r) 0 P ops Q' i K' a w:=by
 unfold wpOpIn;rw [hi];dsimp only;rw [if_neg (by rw [hg];simp)];refine ⟨fun _ _=>trivial,?_⟩;obtain ⟨ρ',h1,h2,h3⟩:=ha.put ds h;have e:({ a with defers:=ds }:Act)=a:=by subst hd;rfl
 grind
theorem regK {ops:List Oper} {Q:(Nat→Value)→List Deferred→World→Prop} {o:Oper} {rest:List Oper} {i:Nat} (hi:ops.toArray[i]?=some o) {ρ:Nat→Value} {ds:List Deferred} {a:Act} {w:World} {K':Act→World→Prop} {Q':Exit→Act→World→Prop}
  (ha:Sw n ρ a) (hd:a.defers=ds) (h:regW P n r ops Q (o::rest) ρ ds w) (ih':∀ ρ' ds' a' w',Sw n ρ' a'→a'.defers=ds'→regW P n r ops Q rest ρ' ds' w'→K' a' w'):wpOpIn (Fr r) 0 P ops.toArray Q' i K' a w:=by
 unfold regW at h
 split at h
 ·grind [runK,Region.wanted]
 ·rename_i j want hg
  split at h
  ·grind [qax,q0x,Region.wanted,yielded]
  ·rename_i oj hj
   split at h
   ·grind [q0x,qax,Region.wanted,yielded]
   ·rename_i d hdd
    cases hn:Nat.blt d n<;>rw [hn] at h
    ·exact h.elim
    ·have hn':d<n:=by simpa using hn
     have hy:=ha.yield hj hdd hn';simp only [cond_true] at h
     split at h
     ·rename_i b hb
      rw [hb] at hy;cases b
      ·have h:=h.f rfl;have ha':Sw n _ a:=St.same ha hb
       grind [runK,Region.wanted,q0x]
      ·have h:=h.t rfl;have ha':Sw n _ a:=St.same ha hb
       grind [q0x,Region.wanted,runK]
     grind [q0x,Region.wanted]
def qgu (i c:Nat):Array Bool:=(List.replicate i true++List.replicate c false).toArray
theorem qlt {i c j:Nat} (d:Bool) (h:j<i):(qgu i c).getD j d=true:=by
 simp_all [qgu,List.getElem?_append_left]
theorem q2y {i c j:Nat} (h:i≤j):(qgu i c).getD j false=false:=by
 rw [qgu,Array.getD_eq_getD_getElem?,List.getElem?_toArray,List.getElem?_append_right (by simpa using h),List.getElem?_replicate]
 grind
theorem q2x {i c j:Nat} (h:i≤j) (h2:j<i+c):(qgu i c).getD j true=false:=by
 simp_all [qgu]
theorem qxo (i c:Nat):(qgu i (c+1)).setIfInBounds i true=qgu (i+1) c:=by
 rw [← Array.toList_inj,Array.toList_setIfInBounds];show (List.replicate i true++List.replicate (c+1) false).set i true=List.replicate (i+1) true++List.replicate c false
 grind [List.replicate_succ']
theorem qon {m:Nat} {ops:Array Oper} (hT:TailP m ops) {Q:QW}:∀ (c i:Nat) (ρ:Nat→Value) (ds:List Deferred) (a:Act) (w:World),m≤i→i+c=ops.size→Sw n ρ a→a.defers=ds→regW P n r ops.toList (Q .normal) (ops.toList.drop i) ρ ds w→
  wpAnyIn (Fr r) 0 P .any ops (qdm n Q) c (qgu i c) a w
 | 0,i,ρ,ds,a,w,hmi,hi,ha,hd,h=>by
  refine ⟨qol fun k hk=>qlt _ Oo,ρ,ha,?_⟩;rw [List.drop_of_length_le Ys] at h;subst hd;exact h
 | c+1,i,ρ,ds,a,w,hmi,hi,ha,hd,h=>by
  have hlt:i<ops.size:=by omega
  have hoi:ops[i]?=some ops[i]:=(by simp)
  have hrd:i∈Region.ready .any ops (qgu i (c+1)):=by
   refine mem_ready.2 ⟨(by grind [q2x]),ops[i],hoi,fun e he hb=>qlt _ ?_⟩;rw [qdh] at hb;exact hT.lt i _ hoi _ (qb4.2 ⟨e,by simpa using he,hb,rfl⟩)
  refine ⟨(by grind),fun j hj=>?_⟩;obtain ⟨h1,o,ho,h2⟩:=mem_ready.1 hj;have hjs:=(Array.getElem?_eq_some_iff.1 ho).1;have e:j=i:=by
   rcases Nat.lt_or_ge j i with g|g
   ·rw [qlt _ g] at h1;cases h1
   ·rcases Nat.eq_or_lt_of_le g with g|g
    ·exact g.symm
    ·exfalso
     obtain ⟨e,he,hb,hon⟩:=qb4.1 (hT.next j o ho Oo)
     grind [qdh,q2y]
  subst e;rw [qxo];have hdr:ops.toList.drop j=ops[j]::ops.toList.drop (j+1):=by
   grind [List.drop_eq_getElem_cons]
  rw [hdr] at h;have:=regK (ops:=ops.toList) (i:=j) (Q':=qdm n Q) (K':=wpAnyIn (Fr r) 0 P .any ops (qdm n Q) c (qgu (j+1) c)) Oo ha hd h fun ρ' ds' a' w' h1 h2 h3=>qon hT c (j+1) ρ' ds' a' w' Oo Oo h1 h2 h3
  omega
theorem q15 {m:Nat} {ops:Array Oper} (hT:TailP m ops) (hnd:r=none∨qzp (ops.toList.take m)=true) {ds:List Deferred} {Q:QW}:∀ (fuel:Nat) (L:Array Bool) (a:Act) (w:World),L.size=m→L.toList.count false=fuel→
  (∀ (j:Nat) (o:Oper),ops[j]?=some o→L.getD j false=true→∀ k∈qay o,L.getD k false=true)→
  wpAny P .any (ops.toList.take m).toArray (fun e a' w'=>e=.normal∧∃ ρ',St n ρ' a'∧regW P n r ops.toList (Q .normal) (ops.toList.drop m) ρ' ds w') fuel L a w→
  wpAnyIn (Fr r) 0 P .any ops (qdm n Q) (fuel+(ops.size-m)) (L++Array.replicate (ops.size-m) false) { a with defers:=a.defers++ds } w:=by
 intro fuel;have hms:=hT.msz;have hpre:∀ j:Nat,j<m→(ops.toList.take m).toArray[j]?=ops[j]?:=(by grind)
 have lapp:∀ (L:Array Bool),L.size=m→∀ (j:Nat) (d:Bool),j<m→(L++Array.replicate (ops.size-m) false).getD j d=L.getD j d:=fun L hL j d hj=>by
  simp_all [Array.getElem?_append_left]
 have lapp2:∀ (L:Array Bool),L.size=m→∀ j:Nat,m≤j→(L++Array.replicate (ops.size-m) false).getD j false=false:=fun L hL j hj=>by
  rw [Array.getD_eq_getD_getElem?,Array.getElem?_append_right Oo,Array.getElem?_replicate]
  grind
 have alld:∀ (L:Array Bool),L.size=m→L.toList.count false=0→L=Array.replicate m true:=(by grind [Array.getElem_mem])
 have fin:∀ (L:Array Bool) (a:Act) (w:World),L.size=m→L.toList.count false=0→(∃ ρ',St n ρ' a∧regW P n r ops.toList (Q .normal) (ops.toList.drop m) ρ' ds w)→
   wpAnyIn (Fr r) 0 P .any ops (qdm n Q) (0+(ops.size-m)) (L++Array.replicate (ops.size-m) false) { a with defers:=a.defers++ds } w:=fun L a w hL h0 ⟨ρ',h1,h2⟩=>by
  rw [alld L hL h0,Nat.zero_add];have e:Array.replicate m true++Array.replicate (ops.size-m) false=qgu m (ops.size-m):=by
   simp [qgu]
  rw [e];refine qon hT (ops.size-m) m ρ' ds _ w Oo Oo ?_ ?_ h2
  ·show St n ρ' { a with defers:=[] };have:({ a with defers:=[] }:Act)=a:=by have:=h1.defers;cases a;cases this;rfl
   simp_all
  ·show a.defers++ds=ds;rw [h1.defers];rfl
 induction fuel with
 | zero=>
  intro L a w hL h0 hcl h;exact fin L a w hL h0 h.2.2
 | succ fuel ih=>
  intro L a w hL h0 hcl h;have hrd:∀ i,i∈Region.ready .any ops (L++Array.replicate (ops.size-m) false)↔i∈Region.ready .any (ops.toList.take m).toArray L:=by
   intro i
   constructor
   ·intro hi;obtain ⟨g1,o,ho,g2⟩:=mem_ready.1 hi;have him:i<m:=by
     refine Nat.lt_of_not_le fun g=>?_;have hpl:∀ k∈qay o,(L++Array.replicate (ops.size-m) false).getD k false=true:=fun k hk=>by
      obtain ⟨e,he,hb,hon⟩:=qb4.1 hk
      grind [qdh]
     rcases Nat.eq_or_lt_of_le g with g|g
     ·subst g;have hall:=qtq (ops:=ops) (p:=fun k=>L.getD k false=true) hcl m _ (hT.reach o ho) fun k hk=>by
       have:=hpl k hk
       rwa [lapp L hL k false (by grind)] at this
      have hz:L.toList.count false=0:=by
       rw [List.count_eq_zero];intro hmem;obtain ⟨k,hk,e⟩:=List.mem_iff_getElem.1 hmem;have hk':k<L.size:=by omega
       have:=hall k Oo;simp [hk'] at this e
       grind
      omega
     ·have:=hpl _ (hT.next i o ho g)
      grind
    refine mem_ready.2 ⟨by simp_all,o,by simp_all,fun e he hb=>?_⟩;have h1:=g2 e he hb
    rwa [lapp L hL _ _ (by grind)] at h1
   ·intro hi;obtain ⟨g1,o,ho,g2⟩:=mem_ready.1 hi;have him:i<m:=by
     grind
    rw [hpre i him] at ho;refine mem_ready.2 ⟨by simp_all,o,ho,fun e he hb=>?_⟩;rw [lapp L hL _ _ (by grind)]
    simp_all
  have hne:∃ i,i∈Region.ready .any ops (L++Array.replicate (ops.size-m) false):=by
   have hmem:false∈L.toList:=(by grind)
   obtain ⟨k,hk,e⟩:=List.mem_iff_getElem.1 hmem;have hk':k<L.size:=by omega
   have hex:∃ k,k<m∧L.getD k false=false:=⟨k,by omega,by simp_all⟩
   have least:∀ k,k<m→L.getD k false=false→∃ i,i∈Region.ready .any ops (L++Array.replicate (ops.size-m) false):=by
    intro k
    induction k using Nat.strongRecOn with
    | _ k ihk=>
     intro hkm hkf;have ho:ops[k]?=some ops[k]:=(by simp)
     by_cases hall:∀ p∈qay ops[k],L.getD p false=true
     ·refine ⟨k,mem_ready.2 ⟨?_,ops[k],ho,fun e he hb=>?_⟩⟩
      ·simp_all
      ·have hp:e.on∈qay ops[k]:=qb4.2 ⟨e,by simpa using he,by rw [← qdh];exact hb,rfl⟩;rw [lapp L hL _ _ (by grind)];exact hall _ hp
     ·obtain ⟨p,hp⟩:=Classical.not_forall.1 hall;obtain ⟨hp1,hp2⟩:=Classical.not_imp.1 hp;have:=hT.lt k _ ho p hp1
      grind
   grind
  rw [show fuel+1+(ops.size-m)=(fuel+(ops.size-m))+1 by omega];refine ⟨(by grind),fun i hi=>?_⟩;have hi':=(hrd i).1 hi;obtain ⟨g1,o,ho,g2⟩:=mem_ready.1 hi';have him:i<m:=by
   grind
  have ho2:=ho;rw [hpre i him] at ho2;have h1:=h.2 i hi';have hLs:(L++Array.replicate (ops.size-m) false).setIfInBounds i true=L.setIfInBounds i true++Array.replicate (ops.size-m) false:=by
   rw [← Array.toList_inj];simp only [Array.toList_setIfInBounds,Array.toList_append];rw [List.set_append_left _ _ (by simpa [hL] using him)]
  have hun:L.getD i true=false:=g1;have hcnt:=V.countP_set L i hun;have ih2:∀ a' w',wpAny P .any (ops.toList.take m).toArray (fun e a' w'=>e=.normal∧∃ ρ',St n ρ' a'∧regW P n r ops.toList (Q .normal) (ops.toList.drop m) ρ' ds w') fuel (L.setIfInBounds i true) a' w'→
    wpAnyIn (Fr r) 0 P .any ops (qdm n Q) (fuel+(ops.size-m)) ((L++Array.replicate (ops.size-m) false).setIfInBounds i true) { a' with defers:=a'.defers++ds } w':=fun a' w' hw=>by
   rw [hLs];refine ih _ a' w' (by simp [hL]) Oo (fun j oj hoj hlj k hk=>?_) hw
   by_cases hij:i=j
   ·subst hij;rw [ho2] at hoj;cases hoj;obtain ⟨e,he,hb,hon⟩:=qb4.1 hk;have:=g2 e (by simpa using he) (by rw [qdh];exact hb);rw [hon] at this;exact getD_set_true this
   ·rw [getD_set_ne false hij] at hlj
    grind [getD_set_true]
  have hwant:∀ tm,Region.wanted o (yielded ops tm)=Region.wanted o (yielded (ops.toList.take m).toArray tm):=fun tm=>by
   cases hg:o.guard with
   | none=>simp [Region.wanted,hg]
   | some gb=>
    obtain ⟨g,b⟩:=gb;have:=hT.guard i o g b ho2 him hg;have e:yielded ops tm g=yielded (ops.toList.take m).toArray tm g:=by
     grind [yielded]
    simp only [Region.wanted,hg,e]
  have hno:r=none∨∀ c,o.op≠.defer c:=(by grind [qtc])
  unfold wpOp at h1;unfold wpOpIn;rw [ho] at h1;rw [ho2];dsimp only at h1 ⊢;rw [hwant]
  split
  ·rename_i hw
   rw [if_pos hw] at h1
   rcases h1 with h1|⟨_,a',w',hq⟩
   ·exact qld hno (fun _ _ _ h=>h.1) ih2 h1
   grind
  ·rename_i hw
   rw [if_neg hw] at h1;refine ⟨fun _ _=>trivial,?_⟩;have hp:({ a with defers:=a.defers++ds }:Act).put o.dst undef={ a.put o.dst undef with defers:=(a.put o.dst undef).defers++ds }:=by cases o.dst<;>rfl
   grind
theorem DrawW.tail {id:Nat} {ops:Array Oper} {Q:QW} {ρ:Nat→Value} {ds:List Deferred} {w:World} (m:Nat) (hm:P.follows .mixedOrders=true) (hB:qaab m ops.toList=true) (hnd:r=none∨qzp (ops.toList.take m)=true)
  (h:AnyV P n (ops.toList.take m).toArray (fun ρ' w'=>regW P n r ops.toList (Q .normal) (ops.toList.drop m) ρ' ds w') ρ w):DrawW P n r id ops Q ρ ds w:=by
 refine ⟨fun a ha hd=>wpIn_region_any hm ?_⟩;have hT:=q4x hB;have hms:=hT.msz;have e:a={ ({ a with defers:=[] }:Act) with defers:=({ a with defers:=[] }:Act).defers++ds }:=by subst hd;rfl
 have hsz:(ops.toList.take m).toArray.size=m:=by simp;omega
 have h0:=h.h { a with defers:=[] } ha;rw [hsz] at h0;have h1:=q15 (r:=r) (Q:=Q) hT hnd m (Array.replicate m false) { a with defers:=[] } w.drew Js Js (fun j o _ hl=>by rw [qd1] at hl;cases hl) h0;rw [← e] at h1;have e2:m+(ops.size-m)=ops.size:=by omega
 have e3:Array.replicate m false++Array.replicate (ops.size-m) false=Array.replicate ops.size false:=by
  rw [← Array.toList_inj];simp [Nat.add_sub_cancel' (Nat.le_of_lt hms)]
 rw [e2,e3] at h1;exact h1
end
end V
open Go.RowKit V
set_option maxRecDepth 100000
def wkC (tb y:Nat) (P:Nat→Int) (s:WS):List Value:=[pp tb,ii (P 0),ii (P 1),ii (P 2),ii (P 3),ii (s.1 0),ii (s.1 1),ii (s.1 2),ii (s.1 3),ii (s.2 0),ii (s.2 1),ii (s.2 2),ii (s.2 3),.func (.yield y) #[] #[]]
def wkO (tb y:Nat) (P:Nat→Int) (s:WS):Obj:=.cells (wkC tb y P s).toArray 347
def mAgg (q:Nat→Nat):Value:=.agg #[ii (q 0),ii (q 1),ii (q 2),ii (q 3)]
def mRow (r:Nat × (Nat→Nat)):List Value:=[ii r.1,mAgg r.2]
section
variable {tb y:Nat} {P:Nat→Int} {s:WS} {k:Nat}
theorem qade (hk:k<4):(wkC tb y P s).toArray[1+k]?=some (ii (P k)):=by
 match k,hk with
 | 0,_=>rfl
 | 1,_=>rfl
 | 2,_=>rfl
 | 3,_=>rfl
theorem qaa2 (hk:k<4):(wkC tb y P s).toArray[5+k]?=some (ii (s.1 k)):=by
 match k,hk with
 | 0,_=>rfl
 | 1,_=>rfl
 | 2,_=>rfl
 | 3,_=>rfl
theorem qaa3 (hk:k<4) (v:Nat):(wkC tb y P s).toArray.setIfInBounds (5+k) (ii v)=(wkC tb y P (updN s.1 k v,s.2)).toArray:=by
 match k,hk with
 | 0,_=>rfl
 | 1,_=>rfl
 | 2,_=>rfl
 | 3,_=>rfl
theorem qaa4 (hk:k<4) (v:Nat):(wkC tb y P s).toArray.setIfInBounds (9+k) (ii v)=(wkC tb y P (s.1,updN s.2 k v)).toArray:=by
 match k,hk with
 | 0,_=>rfl
 | 1,_=>rfl
 | 2,_=>rfl
 | 3,_=>rfl
end
theorem V.LoadA.part {w:World} {b off size:Nat} {cs:Array Value} {t:TypeId} {fr:Nat × Nat} {vs:List Value} {K:List Value→Prop} (h:w.heap[b]?=some (.cells cs t fr)) (hs:vs.length=size) (hv:∀ i,i<size→cs[off+i]?=vs[i]?) (hk:K vs):LoadA w b off size K:=
 ⟨vs,hs,fun j hj=>by rw [qa h];exact hv j hj,hk⟩
def RowsAt (xs:List (List Value)) (j:Nat) (R:List (Nat × (Nat→Nat))):Prop:=∀ t row,R[t]?=some row→xs[j+t]?=some (mRow row)
theorem RowsAt.left {xs:List (List Value)} {j:Nat} {R S:List (Nat × (Nat→Nat))} (h:RowsAt xs j (R++S)):RowsAt xs j R:=fun t row ht=>h t row (by rw [List.getElem?_append_left (List.getElem?_eq_some_iff.1 ht).1];exact ht)
theorem RowsAt.right {xs:List (List Value)} {j:Nat} {R S:List (Nat × (Nat→Nat))} (h:RowsAt xs j (R++S)):RowsAt xs (j+R.length) S:=fun t row ht=>by
 rw [Nat.add_assoc];exact h _ row (by rw [List.getElem?_append_right Oo,Nat.add_sub_cancel_left];exact ht)
def PastOk (s:WS):Prop:=∀ k,k<4→s.1 k≤1048576
theorem PastOk.upd {s:WS} (h:PastOk s) {k v:Nat} (hv:v≤1048576):PastOk (updN s.1 k v,s.2):=fun i hi=>by
 show updN s.1 k v i≤_;unfold updN
 split
 ·exact hv
 ·exact h i hi
theorem qst {f:Nat→WS→WR} (hf:∀ i s,PastOk s→PastOk (f i s).2):∀ m i s,PastOk s→PastOk (goL f m i s).2
 | 0,_,_,h=>h
 | m+1,i,s,h=>qst hf m (i+1) _ (hf i s h)
theorem qs7 {T:LvD} (hN:∀ k,k<4→T.N k≤1048576) {P:Nat→Int} {f:Nat→WS→WR} {k lo hi:Nat} (hk:k<4) (hf:∀ i s,PastOk s→PastOk (f i s).2) {s:WS} (h:PastOk s):PastOk (lvS T P f k lo hi s).2:=by
 rw [lvS]
 split
 ·exact h
 ·refine qst (f:=fun i s=>f i (s.1,updN s.2 k (T.nu k i))) (fun i s hs=>hf i _ hs) _ _ _ (h.upd ?_);have:=hN k hk;omega
theorem qmd {T:LvD} (hN:∀ k,k<4→T.N k≤1048576) {P:Nat→Int}:∀ {d k lo hi:Nat} {s:WS},k+d=3→PastOk s→PastOk (lvG T P d k lo hi s).2
 | 0,k,lo,hi,s,hk,h=>qs7 hN Oo (fun _ _ h=>h) h
 | d+1,k,lo,hi,s,hk,h=>qs7 hN Oo (fun i s h=>qmd hN Oo h) h
section
variable (tb wb y:Nat) (l:LB) (P:Nat→Int) (xs:List (List Value)) (I Ix:Nat→List (Nat × Obj)→World→Prop)
theorem qy8 (cI:∀ k,Carr (I k)) (_:∀ k,Carr (Ix k)) (hΦ:∀ k X w,I k X w→TreeAt w tb l) (hvm:∀ k,k<3→tVec l (k+1)=true→vM (qe l (k+1))≤vN (qe l (k+1))) (hP:∀ k,k<4→InR .i64 (P k))
  (hy:∀ k x X w,xs[k]?=some x→I k X w→YieldV Tryz.prog y x w fun v w'=>(v=.bool true∧I (k+1) X w')∨(v=.bool false∧Ix k X w')) :
  ∀ (d k lo hi j:Nat) (s:WS) (X:List (Nat × Obj)) (w:World),k+d=3→lo≤1048576→hi≤1048576→PastOk s→RowsAt xs j (lvG (treD l) P d k lo hi s).1→I j ((wb,wkO tb y P s)::X) w→
  Gv Tryz.prog 207 [pp wb,ii k,ii lo,ii hi] w fun r w'=>
   (r=.bool true∧I (j+(lvG (treD l) P d k lo hi s).1.length) ((wb,wkO tb y P (lvG (treD l) P d k lo hi s).2)::X) w')∨
   (r=.bool false∧∃ j' s',j'<j+(lvG (treD l) P d k lo hi s).1.length∧Ix j' ((wb,wkO tb y P s')::X) w'):=by
 have t1:tsz Tryz.prog 3=1:=by kernel_rfl
 have t8:tsz Tryz.prog 244=8:=by kernel_rfl
 intro d
 induction d using Nat.strongRecOn with
 | _ d ih=>
 intro k lo hi j s X w hkd hlo hhi hpo hR hI;obtain ⟨F,eF,hF0,hF1⟩:∃ F:Nat→WS→WR,lvG (treD l) P d k lo hi s=lvS (treD l) P F k lo hi s∧(d=0→∀ i s,F i s=([(i,s.2)],s))∧(∀ d',d=d'+1→∀ i s,F i s=lvG (treD l) P d' (k+1) (chB l k i).1 (chB l k i).2 s):=by
  cases d with
  | zero=>exact ⟨_,rfl,fun _ _ _=>rfl,fun _ h=>by cases h⟩
  | succ d=>exact ⟨_,rfl,fun h=>by (cases h),fun d' h i s=>by cases h;rfl⟩
 rw [eF] at hR ⊢;clear eF;have hk:k<4:=by omega
 have hn:=(hΦ _ _ _ hI).n k hk;have hwd:=(hΦ _ _ _ hI).wd k hk;have hFp:∀ i s,PastOk s→PastOk (F i s).2:=fun i s hs=>by
  cases d with
  | zero=>rw [hF0 rfl];exact hs
  | succ d=>rw [hF1 d rfl];exact qmd (T:=treD l) (fun k hk=>(hΦ _ _ _ hI).n k hk) Oo hs
 have hsk:=hpo k hk;unfold lvS at hR ⊢;obtain ⟨a,ea⟩:∃ a,a=max lo (s.1 k):=⟨_,rfl⟩
 obtain ⟨b,eb⟩:∃ b,b=min hi ((treD l).N k):=⟨_,rfl⟩
 have eb':b=min hi (vNum l k):=eb;rw [← ea,← eb] at hR ⊢;have hlv:=fun X w (h:I j X w)=>((hΦ _ _ _ h).lv k hk).h
 refine gvW Jk Tryz.func207 rfl Tryz.ntmps207 rfl (zw ?_);refine LoadV.own ((cI _).get hI mh) rfl (zw ?_);refine IdxV.at_ k rfl hk (zw ?_);refine DrawW.any Jk (.inl rfl) (AnyV.free Jk ?_);(conv=>whnf);(iterate 5 (refine zd ?_));refine zsd (.pointer (some ⟨wb,5+k,none⟩)) (fun wd hd=>zw ?_) (zw ?_)
 ·refine IdxV.at_ k rfl hk (zw ?_);exact ⟨xr,congrArg (fun o=>Value.pointer (some ⟨wb,o,none⟩)) (by rw [t1];show 0+5+k*1=5+k;omega)⟩
 refine zsd (ii (s.1 k:Nat)) (fun wd hd=>zw ?_) (zw ?_)
 ·refine LoadV.own (Ext.get (Ext.trans (Ext.drew xr) hd) ((cI _).get hI mh)) (qaa2 hk) (zw ?_);exact ⟨xr,rfl⟩
 refine zsd (ii (a:Nat)) (fun wd hd=>zw ?_) (zw ?_)
 ·refine V.Fall.max2 rfl rfl rfl fun m hm=>?_;exact ⟨xr,congrArg (Value.int .i64) Oo⟩
 (iterate 4 (refine zd ?_));refine zsd (ii (vNum l k:Nat)) (fun wd hd=>zw ?_) (zw ?_)
 ·obtain ⟨PP,cp,S,cs,VV,hc,_⟩:=hlv _ _ hI;refine LoadV.cellsE (hc.ext (Ext.trans (Ext.drew xr) hd)) 0 (by rw [t8];show 0+0+k*8+0=8*k+0;omega) rfl (zw ?_);exact ⟨xr,rfl⟩
 refine zsd (ii (b:Nat)) (fun wd hd=>zw ?_) (zw ?_)
 ·refine V.Fall.min2 rfl rfl rfl fun m hm=>?_;exact ⟨xr,congrArg (Value.int .i64) Oo⟩
 refine zd ?_;refine zd ?_;intro w1 he1;replace hI:=(cI j).ext hI (Ext.trans (Ext.drew xr) he1);(conv=>whnf);refine zC (fun _=>zu ?_) (fun _=>zu ?_)
 ·refine .inl ⟨rfl,?_⟩;rw [if_pos Oo];exact hI
 rw [if_neg Oo] at hR ⊢;refine StoreV.carr (cI j) (A:=[]) hI (by rw [t1];show 0+5+k*1<14;omega) rfl ?_;clear hI;intro w2 hI;have hI:I j ((wb,.cells ((wkC tb y P s).toArray.setIfInBounds (0+5+k*tsz Tryz.prog 3) (ii (b:Nat))) 347)::X) w2:=hI;rw [t1,show 0+5+k*1=5+k by omega,qaa3 hk] at hI;have hI:I j ((wb,wkO tb y P (updN s.1 k b,s.2))::X) w2:=hI;have hpo1:PastOk (updN s.1 k b,s.2):=hpo.upd Oo;obtain ⟨s1,es1⟩:∃ s1:WS,s1=(updN s.1 k b,s.2):=⟨_,rfl⟩
 rw [← es1] at hI hpo1 hR ⊢;refine zu ?_;have hpat:(wkC tb y P s1).toArray[0+1+k*tsz Tryz.prog 3]?=some (ii (P k)):=by
  rw [t1,show 0+1+k*1=1+k by omega];exact qade hk
 refine LoadV.own ((cI j).get hI mh) hpat ?_;have hPk:=hP k hk;have hoff:0+0+k*tsz Tryz.prog 244=8*k:=by rw [t8];omega
 (conv=>whnf);refine zC (fun _=>zw ?_) (fun _=>zw ?_)
 case' refine_1=>
  obtain ⟨PP,cp,S,cs,VV,hc,hPP,_⟩:=hlv _ _ hI;have h1:w2.cell? ⟨tb,(0+0+k*tsz Tryz.prog 244)+1,none⟩=some (ii (tw l k:Nat)):=by rw [hoff];exact hc 1 _ rfl
  have h5:w2.cell? ⟨tb,(0+0+k*tsz Tryz.prog 244)+5,none⟩=some (.slice PP (qg l k).length cp):=by rw [hoff];exact hc 5 _ rfl
  refine zcv (qfj tb _ a b (tw l k) cp (P k) PP (qg l k) w2 h1 h5 hPP hwd Oo Oo) ?_;rintro r w3 ⟨rfl,he3⟩;replace hI:=(cI j).ext hI he3;have hel:=(treD l).sr_le k (P k) (show a≤b by omega);obtain ⟨e,ee⟩:∃ e,e=(treD l).sr k a b (P k):=⟨_,rfl⟩
  have ev:(a+bsr (fun i=>decide (P k≤(numP (qg l k) (tw l k) (a+i):Int))) (b-a) 0 (b-a))=e:=ee.symm;rw [ev];rw [← ee] at hel
  rcases Nat.eq_or_lt_of_le hel.2 with heb|heb
  case inl=>
   refine zu ?_;refine .inl ⟨rfl,?_⟩;have hw:(treD l).win P k a b=(e,e):=by rw [LvD.win,if_neg Oo,if_neg (by rw [← ee];omega),← ee]
   rw [hw,Nat.sub_self];exact hI
  have hnu:(treD l).nu k e=numP (qg l k) (tw l k) e:=rfl
  rcases Classical.em (((numP (qg l k) (tw l k) e:Nat):Int)=P k) with hnx|hnx
  case inr=>
   refine zu ?_;refine zcv (qbu tb _ e (tw l k) cp PP (qg l k) w3 (he3.cell h1) (he3.cell h5) (hPP.ext he3) hwd Oo) ?_;rintro r w4 ⟨rfl,he4⟩;replace hI:=(cI j).ext hI he4;refine zu ?_;refine .inl ⟨rfl,?_⟩;have hw:(treD l).win P k a b=(e,e):=by rw [LvD.win,if_neg Oo,if_neg (by rw [← ee,hnu];exact fun g=>hnx g.2),← ee]
   rw [hw,Nat.sub_self];exact hI
  refine zu ?_;refine zcv (qbu tb _ e (tw l k) cp PP (qg l k) w3 (he3.cell h1) (he3.cell h5) (hPP.ext he3) hwd Oo) ?_;rintro r w4 ⟨rfl,he4⟩;replace hI:=(cI j).ext hI he4;refine zu ?_;have hw:(treD l).win P k a b=(e,e+1):=by rw [LvD.win,if_neg Oo,if_pos (by rw [← ee,hnu];exact ⟨heb,hnx⟩),← ee]
  obtain ⟨u,eu⟩:∃ u,u=e+1:=⟨_,rfl⟩
  have euz:(e:Int)+1=(u:Int):=by omega
  rw [hw,← eu] at hR ⊢;rw [euz];have hw1:a≤e:=hel.1;have hw2:e≤u:=by omega
  have hw3:u≤b:=by omega
  obtain ⟨w5,ew5⟩:∃ w5,w5=w4:=⟨_,rfl⟩
  rw [← ew5] at hI ⊢
 case' refine_2=>
  have hw:(treD l).win P k a b=(a,b):=by rw [LvD.win,if_pos Oo]
  rw [hw] at hR ⊢;obtain ⟨e,ee⟩:∃ e,e=a:=⟨_,rfl⟩
  obtain ⟨u,eu⟩:∃ u,u=b:=⟨_,rfl⟩
  have hw1:a≤e:=by omega
  have hw2:e≤u:=by omega
  have hw3:u≤b:=by omega
  rw [← eu] at hR ⊢;rw [← ee] at hR ⊢;obtain ⟨w5,ew5⟩:∃ w5,w5=w2:=⟨_,rfl⟩
  rw [← ew5] at hI ⊢
 all_goals
  clear ew5 es1;obtain ⟨FF,eFF⟩:∃ FF:Nat→WS→WR,FF=fun i s=>F i (s.1,updN s.2 k ((treD l).nu k i)):=⟨_,rfl⟩
  rw [← eFF] at hR ⊢;obtain ⟨G,eG⟩:∃ G:WR,G=goL FF (u-e) e s1:=⟨_,rfl⟩
  rw [← eG] at hR ⊢;refine qza (fun x:Nat × WS × Nat=>[(0,pp wb),(1,ii k),(3,ii u),(9,.pointer (some ⟨tb,0+0+k*tsz Tryz.prog 244,none⟩)),(11,ii x.1)])
   (fun x w'=>e≤x.1∧x.1≤u∧PastOk x.2.1∧RowsAt xs x.2.2 (goL FF (u-x.1) x.1 x.2.1).1∧(goL FF (u-x.1) x.1 x.2.1).2=G.2∧x.2.2+(goL FF (u-x.1) x.1 x.2.1).1.length=j+G.1.length∧I x.2.2 ((wb,wkO tb y P x.2.1)::X) w') (fun x=>u-x.1) (e,s1,j)
   ⟨rfl,rfl,rfl,rfl,rfl,trivial⟩ ⟨Nat.le_refl _,hw2,hpo1,by rw [eG] at hR;exact hR,by rw [eG],by rw [eG],hI⟩ ?_
  clear hI hR eG hpo1;rintro ⟨i,t,jj⟩ w6 ρ' ⟨i1,i2,hpt,hRt,hG2,hGl,hI⟩;dsimp only at i1 i2 hpt hRt hG2 hGl hI ⊢;conv=>whnf
  (repeat' refine zC (fun _=>zw ?_) (fun _=>zw ?_))
  case' refine_2=>
   obtain rfl:i=u:=by omega
   rw [Nat.sub_self] at hG2 hGl;have hG2:t=G.2:=hG2;have hGl:jj+0=j+G.1.length:=hGl;rw [Nat.add_zero] at hGl;rw [← hGl,← hG2];exact .inl ⟨rfl,hI⟩
  have hiu:i<u:=by omega
  have esub:u-i=(u-(i+1))+1:=by omega
  obtain ⟨t2,et2⟩:∃ t2:WS,t2=(t.1,updN t.2 k ((treD l).nu k i)):=⟨_,rfl⟩
  have eFi:FF i t=F i t2:=by rw [eFF,et2]
  rw [esub,goL,eFi] at hRt hG2 hGl;dsimp only at hRt hG2 hGl;have hpt2:PastOk t2:=by rw [et2];exact hpt
  refine DrawW.tail 8 Jk Jk (.inl rfl) (AnyV.free Jk ?_);(conv=>whnf);(iterate 4 (refine zd ?_));refine zsd (ii (numP (qg l k) (tw l k) i:Nat)) (fun wd hd=>zw ?_) (zw ?_)
  ·have hIw:=(cI jj).ext hI (Ext.trans (Ext.drew xr) hd);obtain ⟨PP,cp,S,cs,VV,hc,hPP,_⟩:=((hΦ _ _ _ hIw).lv k hk).h;have h1:wd.cell? ⟨tb,(0+0+k*tsz Tryz.prog 244)+1,none⟩=some (ii (tw l k:Nat)):=by rw [hoff];exact hc 1 _ rfl
   have h5:wd.cell? ⟨tb,(0+0+k*tsz Tryz.prog 244)+5,none⟩=some (.slice PP (qg l k).length cp):=by rw [hoff];exact hc 5 _ rfl
   refine zcv (qbu tb _ i (tw l k) cp PP (qg l k) wd h1 h5 hPP hwd Oo) ?_;rintro r w7 ⟨rfl,he7⟩;exact ⟨he7,rfl⟩
  refine zd ?_;refine zd ?_;refine zsd (.pointer (some ⟨wb,9+k,none⟩)) (fun wd hd=>zw ?_) (zw ?_)
  ·refine IdxV.at_ k rfl hk (zw ?_);exact ⟨xr,congrArg (fun o=>Value.pointer (some ⟨wb,o,none⟩)) (by rw [t1];show 0+9+k*1=9+k;omega)⟩
  intro w7 he7;replace hI:=(cI jj).ext hI (Ext.trans (Ext.drew xr) he7);(conv=>whnf);refine StoreV.carr (cI jj) (A:=[]) hI (by show 9+k<14;omega) rfl ?_;clear hI;intro w8 hI;have hI:I jj ((wb,.cells ((wkC tb y P t).toArray.setIfInBounds (9+k) (ii (numP (qg l k) (tw l k) i:Nat))) 347)::X) w8:=hI;rw [qaa4 hk] at hI;have hI:I jj ((wb,wkO tb y P t2)::X) w8:=by rw [et2];exact hI
  (conv=>whnf)
  rcases Nat.eq_zero_or_pos d with hd0|hd0
  case inl=>
   have hk3:k=3:=by omega
   rw [hF0 hd0] at hRt hG2 hGl;dsimp only at hRt hG2 hGl;refine zu ?_;refine DrawW.tail 9 Jk Jk (.inl rfl) (AnyV.free Jk ?_);(conv=>whnf);(iterate 3 (refine zd ?_));refine zf ?_ (by intro wd hd;(conv=>whnf);refine LoadV.own (Ext.get (Ext.trans (Ext.drew xr) hd) ((cI jj).get hI mh)) rfl ?_;(conv=>whnf);exact ⟨xr,rfl⟩);(iterate 4 (refine zd ?_));refine zsd (mAgg t2.2) (fun wd hd=>zw ?_) (zw ?_)
   ·refine V.LoadA.part (vs:=[ii (t2.2 0),ii (t2.2 1),ii (t2.2 2),ii (t2.2 3)]) (Ext.get (Ext.trans (Ext.drew xr) hd) ((cI jj).get hI mh)) rfl (fun i hi=>?_) ?_
    ·match i,hi with
     | 0,_=>rfl
     | 1,_=>rfl
     | 2,_=>rfl
     | 3,_=>rfl
    (conv=>whnf);exact ⟨xr,rfl⟩
   intro w9 he9;replace hI:=(cI jj).ext hI (Ext.trans (Ext.drew xr) he9);(conv=>whnf);refine YieldV.mono (hy jj (mRow (i,t2.2)) _ w9 (hRt 0 (i,t2.2) rfl) hI) ?_;clear hI;rintro v w10 (⟨rfl,hI⟩|⟨rfl,hX⟩)
   ·refine zu ?_;refine ⟨rfl,(i+1,t2,jj+1),⟨rfl,rfl,rfl,rfl,congrArg (Value.int .i64) (by show (i:Int)+1=((i+1:Nat):Int);omega),trivial⟩,⟨by dsimp only;omega,by dsimp only;omega,hpt2,hRt.right,hG2,?_,hI⟩,by dsimp only;omega⟩;rw [← hGl,zla,List.length_singleton];dsimp only;omega
   ·refine zu ?_;exact .inr ⟨rfl,jj,t2,by rw [← hGl,zla,List.length_singleton];omega,hX⟩
  obtain ⟨d',rfl⟩:∃ d',d=d'+1:=⟨d-1,by omega⟩
  have hk3:k+1<4:=by omega
  rw [hF1 d' rfl] at hRt hG2 hGl;refine zu ?_;refine LoadV.own ((cI jj).get hI mh) rfl (zw ?_);have hT8:=hΦ _ _ _ hI;have hcl:=qsa (l:=l) (k:=k) (i:=i) (fun k=>by
   by_cases hk4:k<4
   ·exact .inl (hT8.n k hk4)
   ·exact .inr Oo) hk3 (hvm k Oo)
  refine zcv (qch tb l k i w8 hT8 hk3 Oo (hvm k Oo)) ?_;rintro r w9 ⟨rfl,he9⟩;replace hI:=(cI jj).ext hI he9;obtain ⟨c1,ec1⟩:∃ c1,c1=(chB l k i).1:=⟨_,rfl⟩
  obtain ⟨c2,ec2⟩:∃ c2,c2=(chB l k i).2:=⟨_,rfl⟩
  rw [← ec1] at hcl hRt hG2 hGl ⊢;rw [← ec2] at hcl hRt hG2 hGl ⊢;refine zu ?_;rw [show (k:Int)+1=((k+1:Nat):Int) by omega];refine zcv (ih d' (Nat.lt_succ_self d') (k+1) c1 c2 jj t2 X w9 Oo hcl.1 hcl.2 hpt2 hRt.left hI) ?_;clear hI;rintro r w10 (⟨rfl,hI⟩|⟨rfl,j',s',hj',hX⟩)
  ·refine zu ?_;refine ⟨rfl,(i+1,(lvG (treD l) P d' (k+1) c1 c2 t2).2,jj+(lvG (treD l) P d' (k+1) c1 c2 t2).1.length),⟨rfl,rfl,rfl,rfl,congrArg (Value.int .i64) (by show (i:Int)+1=((i+1:Nat):Int);omega),trivial⟩,⟨by dsimp only;omega,by dsimp only;omega,qmd (T:=treD l) (fun k hk=>hT8.n k hk) Oo hpt2,hRt.right,hG2,?_,hI⟩,by dsimp only;omega⟩;rw [← hGl,zla];dsimp only;omega
  ·refine zu ?_;exact .inr ⟨rfl,j',s',by rw [← hGl,zla];omega,hX⟩
end
def tz8 (x:Nat):Nat:=if x%2=1 then 0 else if x/2%2=1 then 1 else if x/4%2=1 then 2 else if x/8%2=1 then 3 else if x/16%2=1 then 4 else if x/32%2=1 then 5 else if x/64%2=1 then 6 else if x/128%2=1 then 7 else 8
def hi8 (x t:Nat):Nat:=x/2 ^ t*2 ^ t
theorem qabq {x t:Nat} (h:x<256):hi8 x t<256:=Nat.lt_of_le_of_lt (Nat.div_mul_le_self _ _) h
theorem q3c (x:Nat):hi8 x 0=x:=by simp [hi8]
theorem qaam:∀ x,x<256→∀ t,t<9→hi8 x t≠0→t≤tz8 (hi8 x t)∧tz8 (hi8 x t)<8∧x/2 ^ tz8 (hi8 x t)%2=1∧(hi8 x t) &&&(hi8 x t-1)=hi8 x (tz8 (hi8 x t)+1):=by decide +kernel
theorem qaan:∀ x,x<256→∀ t,t<9→∀ s,s<8→t≤s→s<tz8 (hi8 x t)→x/2 ^ s%2=0:=by decide +kernel
theorem qac5:∀ x,x<256→∀ t,t<9→hi8 x t=0→∀ s,s<8→t≤s→x/2 ^ s%2=0:=by decide +kernel
theorem qwz (d:LB) (b s:Nat) (hs:s<8):bitN d (8*b+s)=(d.getD b 0).toNat/2 ^ s%2:=by
 grind [bitN]
theorem qs9 {d:LB} {b t:Nat}:∀ {u:Nat},t≤u→(∀ s,t≤s→s<u→bitN d (8*b+s)=0)→mkD d b u=mkD d b t∧cnt d (8*b+u)=cnt d (8*b+t):=by
 intro u hu
 induction hu<;>grind [mkD,cnt]
theorem qzk {d:LB} {b t:Nat} (ht:t<9) (h:hi8 (d.getD b 0).toNat t≠0) {u:Nat} (hu:u=tz8 (hi8 (d.getD b 0).toNat t)) :
  t≤u∧u<8∧bitN d (8*b+u)=1∧cnt d (8*b+u)=cnt d (8*b+t)∧mkD d b u=mkD d b t∧(hi8 (d.getD b 0).toNat t) &&&(hi8 (d.getD b 0).toNat t-1)=hi8 (d.getD b 0).toNat (u+1):=by
 obtain ⟨h1,h2,h3,h4⟩:=qaam _ (q9 _) t ht h
 grind [qs9,qwz,qaan,q9]
theorem q8i {d:LB} {b t:Nat} (ht:t<9) (h:hi8 (d.getD b 0).toNat t=0):mkD d b 8=mkD d b t∧cnt d (8*(b+1))=cnt d (8*b+t):=by
 grind [qs9,qwz,qac5,q9]
theorem qvd (d:LB) (A:oA) (l c n:Nat) (w:World) (hS:SlAt encB 1 w A d) (hl:d.length=l) (hd:d.length=upN n 8) (hb:n≤67108864) :
  Gv Tryz.prog 265 [.slice A l c,ii n] w fun v w'=>(∃ b,v=.bool b∧(b=true↔¬ PadB d n))∧w'=w:=by
 have hu:upN n 8=(n+7)/8:=rfl;refine ze Tryz.func265 Tryz.ntmps265 ?_;refine zt ?_;refine zC (fun _=>zu ?_) (fun _=>zu ?_)
 ·exact ⟨⟨true,rfl,⟨fun _ h=>((qth hd).1 h).1 Oo,fun _=>rfl⟩⟩,rfl⟩
 have hi:n/8<d.length:=by omega
 refine ElemV.bs hS hl (n/8) Oo Oo ?_;intro eb eo hc;refine zu ?_;refine LoadV.of hc (zu ?_);refine V.Wit.shrN (n%8) Oo (by show n%8<8;omega) (zu ?_);have hg:d.getD (n/8) 0=d[n/8]:=by rw [List.getD_eq_getElem?_getD,zge hi];rfl
 refine ⟨⟨_,rfl,?_⟩,rfl⟩;rw [qth hd,hg];obtain ⟨X,eX⟩:∃ X,X=d[n/8].toNat/2 ^ (n%8):=⟨_,rfl⟩
 rw [← eX];simp only [decide_eq_true_eq];omega
theorem qxh (d:LB) (A:oA) (l c:Nat) (w:World) (hS:SlAt encB 1 w A d) (hl:d.length=l) (hb:l≤67108864) :
  Gv Tryz.prog 266 [.slice A l c] w fun v w'=>v=ii (cnt d (8*d.length))∧w'=w:=by
 refine ze Tryz.func266 Tryz.ntmps266 ?_;refine qm (fun i:Nat=>[(3,ii (cnt d (8*i))),(6,.slice A l c),(7,ii l),(8,ii i)]) (fun i w'=>i≤l∧w'=w) (fun i=>l-i) 0 ⟨rfl,rfl,rfl,rfl,trivial⟩ ⟨Nat.zero_le _,rfl⟩ ?_;rintro i w1 ρ' ⟨i1,rfl⟩;have hc8:=qd0 d (8*i);(conv=>whnf);refine zC (fun _=>zw ?_) (fun _=>zw ?_)
 ·have hi:i<d.length:=by omega
  refine ElemV.bs hS hl i rfl Oo ?_;intro eb eo hc;(conv=>whnf);refine LoadV.of hc (zw ?_);refine zcv (qje d[i].toNat _ (q9 _)) ?_;rintro r w2 ⟨rfl,rfl⟩;have h8:qd7 d[i].toNat≤8:=by unfold qd7;omega
  have hs:cnt d (8*(i+1))=cnt d (8*i)+qd7 d[i].toNat:=by
   have:=qsd d i 1;rw [this,qa8,qa8,Nat.add_zero,List.getD_eq_getElem?_getD,zge hi,Nat.zero_add];rfl
  refine zu ?_;exact ⟨i+1,⟨by rw [hs];exact congrArg (Value.int .i64) Oo,rfl,rfl,rfl,trivial⟩,⟨by omega,rfl⟩,by omega⟩
 ·obtain rfl:i=l:=by omega
  exact ⟨by rw [hl],rfl⟩
theorem qaal (x:Nat) (w:World) (hx:x<256):Gv Tryz.prog 331 [.int .u8 x] w fun r w'=>r=ii (tz8 x)∧w'=w:=by
 refine ze Tryz.func331 Tryz.ntmps331 ?_;refine IdxV.nat (by show x<256;exact hx) (zw ?_);refine Wit.conv (qah (Nat.lt_of_lt_of_le (q9 _) Od)) (zw ?_);refine ⟨congrArg (Value.int .i64) (congrArg Int.ofNat ?_),rfl⟩;clear w
 revert x
 decide +kernel
theorem ah8 (d:LB) (b:Nat):ahN d (8*(b+1))=cnt d (2048*(8*b/2048)):=by
 rw [ahN,if_neg Oo,show (8*(b+1)-1)/2048=8*b/2048 by omega]
theorem ah8' (d:LB) (b:Nat) (h:8*b%2048≠0):ahN d (8*b)=cnt d (2048*(8*b/2048)):=by
 rw [ahN,if_neg Oo,show (8*b-1)/2048=8*b/2048 by omega]
theorem qr1 (x:Nat) (h:x<256) (h0:x≠0):qc2 .and .u8 (x:Int) ((x:Int)-1)=((x &&&(x-1):Nat):Int):=by
 have e:(x:Int)-1=((x-1:Nat):Int):=by omega
 rw [e];exact qlj (qdz h) (qdz Oo)
theorem qlr (d:LB) (A:oA) (l c n:Nat) (w:World) (hl:d.length=l) (hd:d.length=upN n 8) (hb:n≤67108864) (g:FuncId) (c1 c2:Value) (I:List (Nat × Nat × Nat)→World→Prop)
  (hIx:∀ L w',I L w'→SlAt encB 1 w' A d) (h0:I [] w)
  (ht:∀ L x w',I L w'→x∈dirD d (upN n 8)→Gv Tryz.prog g [ii x.1,ii x.2.1,ii x.2.2,c1,c2] w' fun r w''=>r=.bool true∧I (L++[x]) w'') :
  Gv Tryz.prog 268 [.slice A l c,ii n,.func (.func g) #[] #[c1,c2]] w fun r w'=>r=.bool true∧I (dirD d (upN n 8)) w':=by
 have hu:upN n 8=(n+7)/8:=rfl;refine ze Tryz.func268 Tryz.ntmps268 ?_;refine qm (fun b:Nat=>[(0,.slice A l c),(1,ii n),(2,.func (.func g) #[] #[c1,c2]),(7,ii (cnt d (8*b))),(8,ii (ahN d (8*b))),(9,ii (8*b:Nat))]) (fun b w'=>b≤upN n 8∧I (dirD d b) w') (fun b=>upN n 8-b) 0
  ⟨rfl,rfl,rfl,rfl,rfl,rfl,trivial⟩ ⟨Nat.zero_le _,h0⟩ ?_
 rintro b w1 ρ' ⟨b1,hI⟩;have hcb:=qd0 d (8*b);have hcm:cnt d (2048*(8*b/2048))≤cnt d (8*b):=qei Oo;have hnext:∀ {x},b<upN n 8→x∈grD d b∨x∈smD d b∨x∈mkD d b 8→x∈dirD d (upN n 8):=fun hbn hx=>qdn.2 ⟨b,hbn,hx⟩
 (conv=>whnf)
 (repeat' (first|refine zp ?_|refine zC (fun _=>zw ?_) (fun _=>zw ?_)))
 case' refine_1.refine_1=>
  have hbn:b<upN n 8:=by omega
  have hbl:b<d.length:=by omega
  rw [show ((8*b:Nat):Int)/2048=((8*b/2048:Nat):Int) by omega];have hgr:grD d b=[(2048,8*b/2048,cnt d (8*b))]:=by rw [grD,if_pos Oo]
  have hsm:smD d b=[(256,8*b/256,cnt d (8*b)-cnt d (2048*(8*b/2048)))]:=by rw [smD,if_pos Oo]
  have ha:cnt d (8*b)=cnt d (2048*(8*b/2048)):=by rw [show 2048*(8*b/2048)=8*b by omega]
  refine zcv (ht (dirD d b) (2048,8*b/2048,cnt d (8*b)) w1 hI (hnext hbn (.inl (by rw [hgr];exact List.mem_singleton.2 rfl)))) ?_;rintro r w2 ⟨rfl,hI2⟩;rw [← hgr] at hI2;refine zu ?_;rw [show ((8*b:Nat):Int)/256=((8*b/256:Nat):Int) by omega,show (cnt d (8*b):Int)-(cnt d (8*b):Int)=((cnt d (8*b)-cnt d (2048*(8*b/2048)):Nat):Int) by omega];refine zcv (ht (dirD d b++grD d b) (256,8*b/256,cnt d (8*b)-cnt d (2048*(8*b/2048))) w2 hI2 (hnext hbn (.inr (.inl (by rw [hsm];exact List.mem_singleton.2 rfl))))) ?_;rintro r w3 ⟨rfl,hI3⟩;rw [← hsm,List.append_assoc] at hI3;refine zu ?_
 case' refine_1.refine_2.refine_1=>
  have hbn:b<upN n 8:=by omega
  have hbl:b<d.length:=by omega
  have hgr:grD d b=[]:=by rw [grD,if_neg Oo]
  have hsm:smD d b=[(256,8*b/256,cnt d (8*b)-cnt d (2048*(8*b/2048)))]:=by rw [smD,if_pos Oo]
  have ha:=ah8' d b Oo;refine zv ?_;rw [show ((8*b:Nat):Int)/256=((8*b/256:Nat):Int) by omega,show (cnt d (8*b):Int)-(ahN d (8*b):Int)=((cnt d (8*b)-cnt d (2048*(8*b/2048)):Nat):Int) by omega];refine zcv (ht (dirD d b) (256,8*b/256,cnt d (8*b)-cnt d (2048*(8*b/2048))) w1 hI (hnext hbn (.inr (.inl (by rw [hsm];exact List.mem_singleton.2 rfl))))) ?_;rintro r w3 ⟨rfl,hI3⟩;rw [← hsm,← List.nil_append (smD d b),← hgr] at hI3;refine zu ?_
 case' refine_1.refine_2.refine_2=>
  have hbn:b<upN n 8:=by omega
  have hbl:b<d.length:=by omega
  have hgr:grD d b=[]:=by rw [grD,if_neg Oo]
  have hsm:smD d b=[]:=by rw [smD,if_neg Oo]
  have ha:=ah8' d b Oo;have hI3:I (dirD d b++(grD d b++smD d b)) w1:=by rw [hgr,hsm,List.append_nil,List.append_nil];exact hI
 case' refine_2=>
  obtain rfl:b=upN n 8:=by omega
  exact ⟨rfl,hI⟩
 all_goals
  refine ElemV.bs (hIx _ _ hI3) hl b Oo Oo ?_;intro eb eo hc;(conv=>whnf);refine LoadV.of hc (zw ?_);have hX:d[b]=d.getD b 0:=by rw [List.getD_eq_getElem?_getD,zge hbl];rfl
  refine qm (fun t:Nat=>[(0,.slice A l c),(1,ii n),(2,.func (.func g) #[] #[c1,c2]),(7,ii (cnt d (8*b+t))),(8,ii (cnt d (2048*(8*b/2048)))),(9,ii (8*b:Nat)),(10,.int .u8 (hi8 (d.getD b 0).toNat t))])
   (fun t w'=>t≤8∧I (dirD d b++(grD d b++(smD d b++mkD d b t))) w') (fun t=>9-t) 0
   ⟨rfl,rfl,rfl,rfl,congrArg (fun n:Nat=>ii n) ha,rfl,congrArg (fun n:Nat=>Value.int .u8 n) (by rw [q3c,hX]),trivial⟩ ⟨Nat.zero_le _,by rw [mkD,List.append_nil];exact hI3⟩ ?_
  rintro t w4 ρ2 ⟨t8,hI4⟩;have hlt:=qabq (t:=t) (q9 (d.getD b 0));have hct:=qd0 d (8*b+t);conv=>whnf
  (repeat' (first|refine zp ?_|refine zC (fun _=>zw ?_) (fun _=>zw ?_)))
  ·rename_i hz h5
   obtain ⟨m1,m2,m3,m4,m5,m6⟩:=qzk (d:=d) (b:=b) (t:=t) Oo Oo rfl;obtain ⟨u,eu⟩:∃ u,u=tz8 (hi8 (d.getD b 0).toNat t):=⟨_,rfl⟩
   have hq:=qaal (hi8 (d.getD b 0).toNat t);rw [← eu] at m1 m2 m3 m4 m5 m6 hq;have hc1:cnt d (8*b+(u+1))=cnt d (8*b+t)+1:=by rw [show 8*b+(u+1)=8*b+u+1 from rfl,cnt,m3,m4]
   have hmk:mkD d b (u+1)=mkD d b t++[(512,cnt d (8*b+t)/512,8*b+u)]:=by rw [mkD,if_pos ⟨m3,by omega⟩,m5,m4]
   rw [show (cnt d (8*b+t):Int)/512=((cnt d (8*b+t)/512:Nat):Int) by omega];refine zcv (hq w4 hlt) ?_;rintro r w5 ⟨rfl,rfl⟩;refine zu ?_;rw [show ((8*b:Nat):Int)+(u:Int)=((8*b+u:Nat):Int) by omega];refine zcv (ht _ (512,cnt d (8*b+t)/512,8*b+u) w5 hI4 (hnext hbn (.inr (.inr (qg6.2 ⟨u,m2,m3,by omega,by rw [m4]⟩))))) ?_;rintro r w6 ⟨rfl,hI6⟩;rw [List.append_assoc,List.append_assoc,List.append_assoc,← hmk] at hI6;refine zu ?_;refine Wit.eq (qr1 _ hlt Oo) ?_;rw [m6];(conv=>whnf);exact ⟨u+1,⟨rfl,rfl,rfl,by rw [hc1];rfl,rfl,rfl,rfl,trivial⟩,⟨by omega,hI6⟩,by omega⟩
  ·rename_i hz h5
   obtain ⟨m1,m2,m3,m4,m5,m6⟩:=qzk (d:=d) (b:=b) (t:=t) Oo Oo rfl;obtain ⟨u,eu⟩:∃ u,u=tz8 (hi8 (d.getD b 0).toNat t):=⟨_,rfl⟩
   rw [← eu] at m1 m2 m3 m4 m5 m6;have hc1:cnt d (8*b+(u+1))=cnt d (8*b+t)+1:=by rw [show 8*b+(u+1)=8*b+u+1 from rfl,cnt,m3,m4]
   have hmk:mkD d b (u+1)=mkD d b t:=by rw [mkD,if_neg Oo,m5]
   refine Wit.eq (qr1 _ hlt Oo) ?_;rw [m6];(conv=>whnf);exact ⟨u+1,⟨rfl,rfl,rfl,by rw [hc1];rfl,rfl,rfl,rfl,trivial⟩,⟨by omega,by rw [hmk];exact hI4⟩,by omega⟩
  ·obtain ⟨m1,m2⟩:=q8i (d:=d) (b:=b) (t:=t) Oo Oo;exact ⟨b+1,⟨rfl,rfl,rfl,by rw [m2];rfl,by rw [ah8];rfl,congrArg (Value.int .i64) Oo,trivial⟩,⟨by omega,by rw [dirD,m1];exact hI4⟩,by omega⟩
theorem qxm {d:LB} {nb:Nat} {x:Nat × Nat × Nat} (h:x∈dirD d nb):x.1=2048∨x.1=256∨x.1=512:=by
 obtain ⟨b,_,hx|hx|hx⟩:=qdn.1 h
 ·unfold grD at hx
  split at hx
  ·rw [List.mem_singleton.1 hx];exact .inl rfl
  ·cases hx
 ·unfold smD at hx
  split at hx
  ·rw [List.mem_singleton.1 hx];exact .inr (.inl rfl)
  ·cases hx
 ·obtain ⟨s,_,_,_,e⟩:=qg6.1 hx;rw [e];exact .inr (.inr rfl)
theorem q0m (k n:Nat) (w:World):Gv Tryz.prog 255 [ii k,ii n] w fun r w'=>r=.bool (decide (¬ ((k≠0∧n=0)∨4194304<n)))∧w'=w:=by
 refine ze Tryz.func255 Tryz.ntmps255 ?_;refine V.Fall.min2 rfl rfl rfl fun m hm=>?_;(conv=>whnf);refine zC (fun _=>zu ?_) (fun _=>zu ?_)
 all_goals refine ⟨congrArg Value.bool ?_,rfl⟩
 all_goals first|exact (decide_eq_false Oo).symm|exact decide_eq_decide.2 Oo
section
variable {w0 w w':World} {t:TypeId} {n:Nat} {s:Bool} {v:Value}
end
theorem qwt (a b:ByteArray) (w:World) (ha:a.size≤4194304) :
  Gv Tryz.prog 254 [.string a,.string b] w fun r w'=>r=ii (comL a.data.toList b.data.toList)∧Ext w w':=by
 have la:a.data.toList.length=a.size:=rfl;have lb:b.data.toList.length=b.size:=rfl;refine ze Tryz.func254 Tryz.ntmps254 ?_;refine qm (fun i:Nat=>[(0,.string a),(1,.string b),(5,ii i)]) (fun i w'=>i≤a.size∧i≤b.size∧(∀ j,j<i→a.data.toList[j]?=b.data.toList[j]?)∧Ext w w') (fun i=>a.size-i) 0 ⟨rfl,rfl,rfl,trivial⟩ ⟨Nat.zero_le _,Nat.zero_le _,fun j h=>by omega,xr⟩ ?_;rintro i w1 ρ' ⟨i1,i2,i3,he⟩;(conv=>whnf);refine zy ?_
 (repeat' (first|refine zp ?_|refine zC (fun _=>zw ?_) (fun _=>zw ?_)))
 all_goals first
  | exact ⟨i+1,⟨rfl,rfl,rfl,trivial⟩,⟨by omega,by omega,fun j hj=>by
    by_cases e:j=i
    ·subst e;rw [ql0 Oo,ql0 Oo];exact congrArg some (UInt8.toNat_inj.1 Oo)
    ·exact i3 j Oo,he.drew⟩,by omega⟩
  | exact ⟨by rw [qps i3 Oo Oo fun g1 g2=>by omega],he.drew⟩
  | (refine ⟨?_,he.drew⟩;rw [qps i3 Oo Oo fun g1 g2=>by
    rw [ql0 Oo,ql0 Oo];intro e;have:=congrArg UInt8.toNat (Option.some.inj e);omega])
def qadg (w:World) (x:Nat):Prop:=(∀ off k c,w.cell? ⟨x,off,none⟩≠some (.int k c))∧∀ cs t fz,w.heap[x]?=some (.cells cs t fz)→t≠395∧t≠305∧t≠381∧t≠241
section
variable {w w':World} {x:Nat} (ha:qadg w x) (hw:∀ c,c≠x→w'.heap[c]?=w.heap[c]?)
include ha hw
end
namespace V
end V
theorem qqq (b:Nat) (l:LB) (w:World) (h:PackAt w b l):Gv Tryz.prog 73 [pp b] w fun v w'=>(∃ vb,v=pp vb∧VocAt w vb (qn l))∧w'=w:=by
 obtain ⟨vb,tb,h1,h2,h3⟩:=h;refine ze Tryz.func73 Tryz.ntmps73 ?_;refine LoadV.own h1 rfl (zw ?_);exact ⟨⟨vb,rfl,h2⟩,rfl⟩
theorem q5e {l:LB} {id:Nat} {t:TM} (h:qdv l id=some t):TermOk t:=by
 unfold qdv at h
 split at h
 ·cases h;exact ⟨(show InR .i64 0 from ⟨by decide,by decide⟩),Nat.zero_le _,Nat.zero_le _,Nat.zero_le _⟩
 ·split at h
  ·cases h
  ·split at h
   ·rename_i s hs
    have h3:qdy l id<3:=by unfold qdy;split<;>(try split)<;>omega
    exact q4g h (qsi hs) ⟨by omega,by omega⟩
   ·cases h
theorem qad0 (l:LB) (q:Nat→Nat) (j:Nat):TermOk (uT l q j):=by
 unfold uT;cases h:qdv l (q j) with
 | none=>exact ⟨(show InR .i64 0 from ⟨by decide,by decide⟩),Nat.zero_le _,Nat.zero_le _,Nat.zero_le _⟩
 | some t=>exact q5e h
theorem q9j (l:LB) (q:Nat→Nat):qak (q4Of l q):=by
 intro k;unfold q4Of Q4.at
 split<;>exact qad0 _ _ _
def qIds (l:LB) (i:Nat):Nat→Nat:=fun k=>tNum (qr l) i k
def PqOk (l:LB) (i:Nat):Prop:=(i<vNum (qr l) 3∧tOk (qr l) i=true)∧(∀ j,j<4→qdv (qn l) (qIds l i j)≠none)∧qbx (q4Of (qn l) (qIds l i))=0
open Classical in
noncomputable def qd8 (l:LB) (i:Nat):Value:=if PqOk l i then .tuple #[qq (q4Of (qn l) (qIds l i)),.bool true] else .tuple #[qq zQ,.bool false]
theorem qog (b:Nat) (l:LB) (i:Nat) (w:World) (h:PackAt w b l) (hi:i≤1048576) (hM:MaxLenAt w) (hT:CellsAt w 4 0 qa6) (hK:qip w) :
  Gv Tryz.prog 76 [pp b,ii i] w fun v w'=>v=qd8 l i∧Ext w w':=by
 obtain ⟨vb,tb,h1,h2,h3⟩:=h;have hwd:=h3.wd;refine ze Tryz.func76 Tryz.ntmps76 ?_;refine znm (Mem.nil w) ?_;intro r4 w1 hm;refine LoadV.own (hm.ext.get h1) rfl (zw ?_);refine zcv (q44 tb (qr l) i w1 (h3.ext hm.ext) hi) ?_;rintro v w2 ⟨rfl,he2⟩;have hm:=hm.call he2
 by_cases hok:i<vNum (qr l) 3∧tOk (qr l) i=true
 case neg=>
  have hv:qd8 l i=.tuple #[qq zQ,.bool false]:=by rw [qd8,if_neg (fun hx=>hok hx.1)]
  rw [hv,qm0,if_neg hok];unfold zq;refine znm hm ?_;intro t6 w3 hm;refine zS hm 0 fun w4 hm=>zu ?_;refine zS hm 1 ?_;intro w5 hm;refine qj (R:=fun v w'=>v=.tuple #[qq zQ,.bool false]∧Ext w w') ?_;refine zl hm 1 ?_;exact ⟨rfl,hm.ext⟩
 rw [qm0,if_pos hok];refine znm hm ?_;intro t6 w3 hm;refine zS hm 0 ?_;intro w4 hm;have hm:Mem w w4 [(t6,.cells #[ii (qIds l i 0:Nat),ii (qIds l i 1:Nat),ii (qIds l i 2:Nat),ii (qIds l i 3:Nat)] 95),(r4,.cells (qd zQ).toArray 47)]:=hm;have hqb:∀ j,j<4→qIds l i j≤16777216:=fun j hj=>by
  have h1:=q8q (qg (qr l) j) (tw (qr l) j) (tUp (qr l) i (3-j));have h2:2 ^ tw (qr l) j≤2 ^ 23:=Nat.pow_le_pow_right Od (hwd j hj);have h3:(2:Nat) ^ 23=8388608:=by decide
  show tNum (qr l) i j≤_;unfold tNum;omega
 refine zu ?_;obtain ⟨u,ok,hqv,hcs⟩:∃ u ok,qh1 (qn l) (qIds l i)=.tuple #[qq u,.bool ok]∧qak u∧((ok=true∧u=q4Of (qn l) (qIds l i)∧∀ j,j<4→qdv (qn l) (qIds l i j)≠none)∨(ok=false∧¬ ∀ j,j<4→qdv (qn l) (qIds l i j)≠none)):=by
  by_cases hall:∀ j,j<4→qdv (qn l) (qIds l i j)≠none
  ·exact ⟨_,true,by rw [qh1,if_pos hall],q9j _ _,.inl ⟨rfl,rfl,hall⟩⟩
  ·refine ⟨zQ,false,by rw [qh1,if_neg hall],?_,.inr ⟨rfl,hall⟩⟩;intro k;unfold zQ Q4.at
   split<;>exact ⟨(show InR .i64 0 from ⟨by decide,by decide⟩),Nat.zero_le _,Nat.zero_le _,Nat.zero_le _⟩
 obtain ⟨hqo,hcs⟩:=hcs;refine DrawV.gen (fun S vals w'=>Al w [(t6,.cells #[ii (qIds l i 0:Nat),ii (qIds l i 1:Nat),ii (qIds l i 2:Nat),ii (qIds l i 3:Nat)] 95),(r4,.cells (qd zQ).toArray 47)] (.cells (qd zQ).toArray 47) (.cells (qd u).toArray 47) (.cells #[] 0) (.cells #[] 0) (S 9) false (S 10) false (vals 9) undef w') rfl Jk (fun vals=>Al.start hm.drew) ?_;clear hm;(conv=>whnf);(iterate 3 (refine zg ?_));refine StepG.of (pp vb) (fun S vals wd hk hp hI=>zw ?_) ?_
 ·refine LoadV.own (hI.mem.ext.get h1) rfl (zw ?_);exact ⟨rfl,hI⟩
 refine StepG.of (idsV (qIds l i)) (fun S vals wd hk hp hI=>zw ?_) ?_
 ·refine zl hI.mem 0 ?_;exact ⟨rfl,hI⟩
 refine StepG.of (.tuple #[qq u,.bool ok]) (fun S vals wd hk hp hI=>zw ?_) (zw ?_)
 ·refine zcv (q1w vb (qn l) (qIds l i) wd (h2.ext hI.mem.ext) hqb (hM.ext hI.mem.ext) (hT.ext hI.mem.ext) (CellsAt.ext hK hI.mem.ext)) ?_;rintro v w5 ⟨rfl,he⟩;exact ⟨hqv,hI.call he⟩
 (iterate 3 (refine zg ?_));refine StepG.any (fun S vals wd hk hp hI=>?_) ?_
 ·dsimp only at hI;rw [hk] at hI;(conv=>whnf);refine ⟨fun x wx hb hw=>?_⟩;subst hb hw;(conv=>whnf);exact ⟨trivial,hI.new1⟩
 refine StepG.of undef (fun S vals wd hk hp hI=>?_) (zw ?_)
 ·dsimp only at hI;have h9:S 9=true:=hp 9 Od;rw [hk,h9] at hI;obtain ⟨nb,hv,M,hmM,hKx⟩:=hI.put1;rw [qbk hv];refine zS hmM 0 fun wx hmx=>zw ?_;exact ⟨rfl,by show Al _ _ _ _ _ _ (S 9) false true false _ _ _;rw [h9];exact hKx hmx rfl⟩
 refine zg ?_;intro vals w5 hI;obtain ⟨t8,hv1,hm⟩:=hI.done1;rw [qbk hv1];clear hI;have hm:Mem w w5 [(t8,.cells (qd u).toArray 47),(t6,.cells #[ii (qIds l i 0:Nat),ii (qIds l i 1:Nat),ii (qIds l i 2:Nat),ii (qIds l i 3:Nat)] 95),(r4,.cells (qd zQ).toArray 47)]:=hm;conv=>whnf
 rcases hcs with ⟨rfl,rfl,hall⟩|⟨rfl,hall⟩
 ·refine zv ?_;refine zl hm 0 ?_;refine zv ?_;refine zcv (qfq (q4Of (qn l) (qIds l i)) hqo w5 (hM.ext hm.ext) (hT.ext hm.ext)) ?_;rintro v w6 ⟨rfl,he6⟩;have hm:=hm.call he6;conv=>whnf
  by_cases hz:qbx (q4Of (qn l) (qIds l i))=0
  ·have hv:qd8 l i=.tuple #[qq (q4Of (qn l) (qIds l i)),.bool true]:=by rw [qd8,if_pos ⟨hok,hall,hz⟩]
   rw [hv];refine zv ?_;refine zL hm 0 ?_;refine zS hm 2 ?_;intro w7 hm;refine qj (R:=fun v w'=>v=.tuple #[qq (q4Of (qn l) (qIds l i)),.bool true]∧Ext w w') ?_;refine zl hm 2 ?_;exact ⟨rfl,hm.ext⟩
  ·have hv:qd8 l i=.tuple #[qq zQ,.bool false]:=by rw [qd8,if_neg (fun hx=>hz hx.2.2)]
   rw [hv];refine zv ?_;refine zS hm 2 ?_;intro w7 hm;refine qj (R:=fun v w'=>v=.tuple #[qq zQ,.bool false]∧Ext w w') ?_;refine zl hm 2 ?_;exact ⟨rfl,hm.ext⟩
 ·have hv:qd8 l i=.tuple #[qq zQ,.bool false]:=by rw [qd8,if_neg (fun hx=>hall hx.2.1)]
  rw [hv];refine zv ?_;refine zS hm 2 ?_;intro w7 hm;refine qj (R:=fun v w'=>v=.tuple #[qq zQ,.bool false]∧Ext w w') ?_;refine zl hm 2 ?_;exact ⟨rfl,hm.ext⟩
namespace V
theorem LoadA.own {w:World} {b size:Nat} {cs:Array Value} {t:TypeId} {fr:Nat × Nat} {K:List Value→Prop} (h:w.heap[b]?=some (.cells cs t fr)) (hs:cs.toList.length=size) (hk:K cs.toList):LoadA w b 0 size K:=
 ⟨cs.toList,hs,fun j _=>by rw [qa h,Nat.zero_add];simp,hk⟩
end V
theorem qwk (b:Nat) (l:LB) (w:World) (h:VocAt w b l):Gv Tryz.prog 115 [pp b] w fun r w'=>r=ii (vTot l 3)∧w'=w:=by
 obtain ⟨d,_,hn⟩:=h.cell;refine ze Tryz.func115 Tryz.ntmps115 ?_;refine LoadV.of hn (zw ?_);exact ⟨rfl,rfl⟩
def h24 (nq nt nv nr:Nat):LB:=fixL 1095914324 4++(fixL 1 4++(fixL nq 4++(fixL nt 4++(fixL nv 4++fixL nr 4))))
def sumL (p:LB):LB:=fixL (crcL p).toNat 4
def qcw (nq nt:Nat) (V T:LB):LB:=
 h24 nq nt V.length T.length++(sumL (h24 nq nt V.length T.length)++(V++(sumL V++(T++sumL T))))
theorem ql1 (a b c d:Nat):(h24 a b c d).length=24:=by rfl
theorem qds (p:LB):(sumL p).length=4:=qh _ _
theorem qrc (p:LB):leN (sumL p)=(crcL p).toNat:=by
 grind [sumL,qg0,crcL]
theorem qad {α:Type} {a b:List α} {n:Nat} (h:a.length=n):(a++b).drop n=b:=by simp_all
theorem qfu (n:Nat) (r:LB) (h:n<4294967296):leN ((fixL n 4++r).take 4)=n:=by
 grind [qh,qg0]
section
variable {nq nt:Nat} {V T:LB} (h1:nq<4294967296) (h2:nt<4294967296) (h3:V.length+T.length+36≤67108864)
theorem qtg (nq nt:Nat) (V T:LB):(qcw nq nt V T).length=V.length+T.length+36:=by
 grind [qcw,ql1,qds]
theorem qoe (nq nt:Nat) (V T:LB) (k:Nat) (hk:k≤6):(qcw nq nt V T).drop (4*k)=(h24 nq nt V.length T.length).drop (4*k)++(sumL (h24 nq nt V.length T.length)++(V++(sumL V++(T++sumL T)))):=by
 grind [qcw,ql1]
theorem q82:hN (qcw nq nt V T) 0=1095914324:=by
 rw [hN,qoe _ _ _ _ 0 Oo,h24];simp only [Nat.mul_zero,List.drop_zero,List.append_assoc];exact qfu _ _ Od
theorem q83:hN (qcw nq nt V T) 1=1:=by
 rfl
include h1 in
theorem q84:hN (qcw nq nt V T) 2=nq:=by
 rw [hN,qoe _ _ _ _ 2 Oo,h24,show 4*2=4+4 from rfl,← List.drop_drop,qad (qh _ _),qad (qh _ _)]
 grind [qfu]
include h2 in
theorem q85:hN (qcw nq nt V T) 3=nt:=by
 rw [hN,qoe _ _ _ _ 3 Oo,h24,show 4*3=4+4+4 from rfl,← List.drop_drop,← List.drop_drop,qad (qh _ _),qad (qh _ _),qad (qh _ _)]
 grind [qfu]
include h3
theorem qji:hN (qcw nq nt V T) 4=V.length:=by
 rw [hN,qoe _ _ _ _ 4 Oo,h24,show 4*4=4+4+4+4 from rfl,← List.drop_drop,← List.drop_drop,← List.drop_drop,qad (qh _ _),qad (qh _ _),qad (qh _ _),qad (qh _ _)]
 grind [qfu]
theorem qqm:hN (qcw nq nt V T) 5=T.length:=by
 rw [hN,qoe _ _ _ _ 5 Oo,h24,show 4*5=4+4+4+4+4 from rfl,← List.drop_drop,← List.drop_drop,← List.drop_drop,← List.drop_drop,qad (qh _ _),qad (qh _ _),qad (qh _ _),qad (qh _ _),qad (qh _ _)]
 grind [qfu]
omit h3 in
theorem q86:hN (qcw nq nt V T) 6=(crcL ((qcw nq nt V T).take 24)).toNat:=by
 grind [hN,ql1,qds,qrc,qcw]
theorem qz4:(qb1 (qcw nq nt V T)).2=0:=by
 grind [qtg,qb1,qji,qqm,q82,q83,q86]
omit h3 in
theorem qmk (nq nt:Nat) (V T:LB):(qcw nq nt V T).drop 28=V++(sumL V++(T++sumL T)):=by
 rfl
theorem q6k:qn (qcw nq nt V T)=V:=by grind [qn,qmk,qji]
theorem q6j:qr (qcw nq nt V T)=T:=by
 rw [qr,qji h3,qqm h3,show 32+V.length=28+(V.length+4) by omega,← List.drop_drop,qmk,← List.drop_drop,qf,qad (qds _),List.take_left]
theorem q87:pS1 (qcw nq nt V T):=by
 grind [pS1,q6k,qji,List.drop_drop,qmk,qf,qds,qrc]
theorem q88:pS2 (qcw nq nt V T):=by
 rw [pS2,q6j h3,qji h3,qqm h3,show 32+V.length+T.length=28+(V.length+(4+T.length)) by omega,← List.drop_drop,qmk,← List.drop_drop,qf,← List.drop_drop,qad (qds _),qf,List.take_of_length_le (by grind [qds]),qrc]
end
theorem RiseT.at {T:List TM} (h:RiseT T) {i j:Nat} {a b:TM} (hij:i<j) (ha:T[i]?=some a) (hb:T[j]?=some b):LtT a b:=by
 obtain ⟨h1,rfl⟩:=List.getElem?_eq_some_iff.1 ha;obtain ⟨h2,rfl⟩:=List.getElem?_eq_some_iff.1 hb;exact (List.pairwise_iff_getElem.1 h) i j h1 h2 hij
theorem RiseT.inj {T:List TM} (h:RiseT T) {i j:Nat} {a:TM} (ha:T[i]?=some a) (hb:T[j]?=some a):i=j:=by
 rcases Nat.lt_trichotomy i j with g|g|g
 ·exact absurd (h.at g ha hb) (LtT.irrefl a)
 ·exact g
 ·exact absurd (h.at g hb ha) (LtT.irrefl a)
theorem RiseT.lt {T:List TM} (h:RiseT T) {i j:Nat} {a b:TM} (ha:T[i]?=some a) (hb:T[j]?=some b) (hl:LtT a b):i<j:=by
 rcases Nat.lt_trichotomy i j with g|g|g
 ·exact g
 ·grind [LtT.irrefl]
 ·exact absurd (hl.trans (h.at g hb ha)) (LtT.irrefl a)
theorem RiseT.ext:∀ {S T:List TM},RiseT S→RiseT T→(∀ y,y∈S↔y∈T)→S=T
 | [],[],_,_,_=>rfl
 | [],b::T,_,_,h=>absurd ((h b).2 mh) Js
 | a::S,[],_,_,h=>absurd ((h a).1 mh) Js
 | a::S,b::T,hs,ht,h=>by
  obtain ⟨s1,s2⟩:=List.pairwise_cons.1 hs;obtain ⟨t1,t2⟩:=List.pairwise_cons.1 ht;have e:a=b:=by
   rcases List.mem_cons.1 ((h a).1 mh) with g|g
   ·exact g
   ·rcases List.mem_cons.1 ((h b).2 mh) with g2|g2
    ·exact g2.symm
    ·exact absurd ((t1 a g).trans (s1 b g2)) (LtT.irrefl b)
  subst e
  congr 1
  refine RiseT.ext s2 t2 fun y=>⟨fun hy=>?_,fun hy=>?_⟩
  ·rcases List.mem_cons.1 ((h y).1 (zmc hy)) with g|g
   ·subst g;exact absurd (s1 y hy) (LtT.irrefl y)
   ·exact g
  ·rcases List.mem_cons.1 ((h y).2 (zmc hy)) with g|g
   ·subst g;exact absurd (t1 y hy) (LtT.irrefl y)
   ·exact g
def noT (T:List TM) (t:TM):Nat:=if t.kind=0 then 0 else T.findIdx (fun x=>cmpT x t==0)+1
theorem qf2 {T:List TM} {t:TM} (h:t.kind=0):noT T t=0:=by rw [noT,if_pos h]
theorem qku {T:List TM} (h:RiseT T) {i:Nat} {t:TM} (ht:T[i]?=some t) (hk:t.kind≠0):noT T t=i+1:=by
 obtain ⟨h1,h2⟩:=List.getElem?_eq_some_iff.1 ht;rw [noT,if_neg hk];have h3:T.findIdx (fun x=>cmpT x t==0)<T.length:=List.findIdx_lt_length_of_exists ⟨t,zmg ht,by simp [qan]⟩;have h4:=List.findIdx_getElem (w:=h3);rw [beq_iff_eq,qan] at h4;have:=h.inj (i:=T.findIdx (fun x=>cmpT x t==0)) (j:=i) (by simp_all) ht;omega
theorem qaca (T:List TM) (t:TM) (h:t∈T∨t.kind=0):noT T t≤T.length:=by
 grind [noT,qan]
theorem qacb {T:List TM} (h:RiseT T) (_:∀ t∈T,0≤t.kind) {a b:TM} (ha:a∈T∨a.kind=0) (hb:b∈T) (hk:b.kind≠0) (hl:LtT a b):noT T a<noT T b:=by
 obtain ⟨j,hj⟩:=List.mem_iff_getElem?.1 hb;rw [qku h hj hk]
 by_cases e:a.kind=0
 ·rw [qf2 e];omega
 ·obtain ⟨i,hi⟩:=List.mem_iff_getElem?.1 (ha.resolve_right e);rw [qku h hi e];have:=h.lt hi hj hl;omega
def gat (q:Q4):Nat→TM
 | 0=>q.g
 | 1=>q.s
 | 2=>q.p
 | _=>q.o
def LtQ (q r:Q4):Prop:=∃ k,k<4∧(∀ j,j<k→gat q j=gat r j)∧LtT (gat q k) (gat r k)
def noQ (T:List TM) (qs:List Q4) (i k:Nat):Nat:=match qs[i]? with
 | some q=>noT T (gat q k)
 | none=>0
theorem qhs {T:List TM} {qs:List Q4} {i k:Nat} {q:Q4} (h:qs[i]?=some q):noQ T qs i k=noT T (gat q k):=by rw [noQ,h]
structure SetOk (T:List TM) (qs:List Q4):Prop where
 rise:RiseT T
 few:T.length≤4194304
 kind:∀ t∈T,0<t.kind
 mem:∀ q∈qs,∀ k,k<4→gat q k∈T∨(k=0∧(gat q k).kind=0∧gat q k=zTM)
 len:qs.length≤1048576
 ord:qs.Pairwise LtQ
theorem SetOk.tok {T:List TM} {qs:List Q4} (h:SetOk T qs):TOk (noQ T qs) qs.length:=by
 refine ⟨h.len,fun i k hi hk=>?_,fun i h0 hi=>?_⟩
 ·have hq:qs[i]?=some qs[i]:=zge hi;rw [qhs hq]
  rcases h.mem _ (List.getElem_mem hi) k hk with g|⟨g1,g2,_⟩
  ·refine ⟨fun _=>?_,Nat.le_trans (qaca _ _ (.inl g)) h.few⟩;have:=h.kind _ g
   grind [noT]
  grind [qf2]
 ·have hq:qs[i]?=some qs[i]:=zge hi;have hp:qs[i-1]?=some qs[i-1]:=zge Oo;obtain ⟨k,h1,h2,h3⟩:=(List.pairwise_iff_getElem.1 h.ord) (i-1) i Oo hi Oo;refine ⟨k,h1,fun j hj=>?_,?_⟩
  ·grind [qhs]
  ·rw [qhs hq,qhs hp];have hb:gat qs[i] k∈T:=by
    rcases h.mem _ (List.getElem_mem hi) k h1 with g|⟨g1,g2,g3⟩
    ·exact g
    ·exfalso
     rcases h.mem _ (List.getElem_mem (show i-1<qs.length by omega)) k h1 with f|⟨f1,f2,f3⟩
     ·have:=h.kind _ f
      rcases h3 with h3|⟨h3,_⟩<;>omega
     grind [LtT.irrefl]
   refine qacb h.rise (fun t ht=>by have:=h.kind t ht;omega) ?_ hb (by have:=h.kind _ hb;omega) h3
   rcases h.mem _ (List.getElem_mem (show i-1<qs.length by omega)) k h1 with f|⟨f1,f2,f3⟩
   all_goals simp_all
def ofK (T:List TM) (k:Nat):List TM:=T.filter fun t=>decide (t.kind=((k+1:Nat):Int))
theorem qbr (T:List TM) (k:Nat):secE T k=(ofK T k).map qae:=rfl
theorem qf3 {T:List TM} {k:Nat} {t:TM} (h:t∈ofK T k):t.kind=((k+1:Nat):Int):=by simpa using (List.mem_filter.1 h).2
theorem qig {T:List TM} (h:RiseT T) (k:Nat):RiseT (ofK T k):=h.filter _
theorem qqi {T:List TM} (h:RiseT T) (hk:∀ t∈T,1≤t.kind∧t.kind≤3):T=ofK T 0++(ofK T 1++ofK T 2):=by
 have hc:∀ {i j:Nat},i<j→∀ a∈ofK T i,∀ b∈ofK T j,LtT a b:=fun hij a ha b hb=>.inl (by grind [qf3])
 refine RiseT.ext h ?_ fun y=>⟨fun hy=>?_,fun hy=>?_⟩
 ·refine List.pairwise_append.2 ⟨qig h 0,List.pairwise_append.2 ⟨qig h 1,qig h 2,fun a ha b hb=>hc Od a ha b hb⟩,fun a ha b hb=>?_⟩
  grind
 ·have:=hk y hy;have hd:y.kind=1∨y.kind=2∨y.kind=3:=by omega
  rcases hd with e|e|e
  ·exact List.mem_append_left _ (List.mem_filter.2 ⟨hy,by rw [e];rfl⟩)
  ·exact List.mem_append_right _ (List.mem_append_left _ (List.mem_filter.2 ⟨hy,by rw [e];rfl⟩))
  ·exact List.mem_append_right _ (List.mem_append_right _ (List.mem_filter.2 ⟨hy,by rw [e];rfl⟩))
 ·rcases List.mem_append.1 hy with hy|hy
  ·exact (List.mem_filter.1 hy).1
  ·rcases List.mem_append.1 hy with hy|hy
   ·exact (List.mem_filter.1 hy).1
   ·exact (List.mem_filter.1 hy).1
section
variable {T:List TM} (h:VOk T) (hr:RiseT T) (hk:∀ t∈T,1≤t.kind∧t.kind≤3) (ht:∀ t∈T,qa5 t=0)
include h
theorem VOk.tot1:vTot (vocB T) 1=(ofK T 0).length:=by rw [vTot,vTot,h.dN Od,qbr,List.length_map,Nat.zero_add]
theorem VOk.tot2:vTot (vocB T) 2=(ofK T 0).length+(ofK T 1).length:=by rw [vTot,h.tot1,h.dN Od,qbr,List.length_map]
theorem VOk.tot3:vTot (vocB T) 3=(ofK T 0).length+(ofK T 1).length+(ofK T 2).length:=by rw [vTot,h.tot2,h.dN Od,qbr,List.length_map]
include hr hk
theorem VOk.tot:vTot (vocB T) 3=T.length:=by
 have e:=congrArg List.length (qqi hr hk);simp only [zla] at e;rw [h.tot3];omega
include ht
theorem VOk.sec {k j:Nat} {t:TM} (hk3:k<3) (hj:(ofK T k)[j]?=some t):(match dGet (Go.Proofs.YtccmcfpmknpccaaGreatDoor.sDict (vocB T) k) j with
  | some s=>qf6 ((k+1:Nat):Int) s
  | none=>none)=some t:=by
 have _h:=hr;have _k:=hk;obtain ⟨h1,h2⟩:=List.getElem?_eq_some_iff.1 hj;have hm:=zmg hj;rw [h.get hk3 (by grind [qbr])];refine qk0 ⟨qf3 hm,ht t (List.mem_filter.1 hm).1,?_⟩
 grind [tx,qbr]
theorem VOk.term {i:Nat} {t:TM} (hi:T[i]?=some t):qdv (vocB T) (i+1)=some t:=by
 have e:=qqi hr hk;have hl:=(List.getElem?_eq_some_iff.1 hi).1;have t1:=h.tot1;have t2:=h.tot2;have t3:=h.tot3;have tt:=h.tot hr hk;rw [qdv,if_neg Oo,if_neg Oo];rw [e] at hi
 by_cases c2:vTot (vocB T) 2<i+1
 ·rw [qdy,if_pos c2];refine h.sec hr hk ht Od ?_
  grind
 ·by_cases c1:vTot (vocB T) 1<i+1
  ·rw [qdy,if_neg c2,if_pos c1];refine h.sec hr hk ht Od ?_
   grind
  ·rw [qdy,if_neg c2,if_neg c1];refine h.sec hr hk ht Od ?_
   grind [vTot]
end
def encP (T:List TM) (qs:List Q4):LB:=qcw qs.length T.length (vocB T) (ql (noQ T qs) qs.length)
structure EncOk (T:List TM) (qs:List Q4):Prop where
 set:SetOk T qs
 voc:VOk T
 kind3:∀ t∈T,t.kind≤3
 term:∀ t∈T,qa5 t=0
 quad:∀ q∈qs,qbx q=0
 used:∀ t∈T,∃ q∈qs,∃ k,k<4∧gat q k=t
 size:(vocB T).length+(ql (noQ T qs) qs.length).length+36≤67108864
section
variable {T:List TM} {qs:List Q4} (h:EncOk T qs)
include h
theorem EncOk.v:qn (encP T qs)=vocB T:=q6k h.size
theorem EncOk.t:qr (encP T qs)=ql (noQ T qs) qs.length:=q6j h.size
theorem EncOk.kinds:∀ t∈T,1≤t.kind∧t.kind≤3:=fun t ht=>⟨by have:=h.set.kind t ht;omega,h.kind3 t ht⟩
theorem EncOk.n:vNum (qr (encP T qs)) 3=qs.length:=by rw [h.t,h.set.tok.vNum Od,h.set.tok.all znr]
theorem EncOk.no {t:TM} (ht:t∈T∨t=zTM):qdv (qn (encP T qs)) (noT T t)=some t:=by
 rw [h.v]
 rcases ht with ht|ht
 ·obtain ⟨i,hi⟩:=List.mem_iff_getElem?.1 ht;rw [qku h.set.rise hi (by have:=h.set.kind t ht;omega)];exact h.voc.term h.set.rise h.kinds h.term hi
 ·subst ht;rfl
theorem EncOk.told {i:Nat} {q:Q4} (hi:qs[i]?=some q) {k:Nat} (hk:k<4):qdv (qn (encP T qs)) (tNum (qr (encP T qs)) i k)=some (gat q k):=by
 have hl:=(List.getElem?_eq_some_iff.1 hi).1;rw [h.t,h.set.tok.tNum hl hk,qhs hi];refine h.no ?_
 rcases h.set.mem q (zmg hi) k hk with g|⟨_,_,g⟩
 all_goals simp_all
theorem EncOk.quad4 {i:Nat} {q:Q4} (hi:qs[i]?=some q):q4Of (qn (encP T qs)) (tNum (qr (encP T qs)) i)=q:=by
 unfold q4Of uT;rw [h.told hi (k:=0) Od,h.told hi (k:=1) Od,h.told hi (k:=2) Od,h.told hi (k:=3) Od];rfl
theorem EncOk.poE:poE (encP T qs)=(0,0):=by
 have hq:qs.length<4294967296:=by have:=h.set.len;omega
 have hT:T.length<4294967296:=by have:=h.set.few;omega
 refine qack (qz4 h.size) (q87 h.size) (q88 h.size) ?_ ?_ ?_ ?_ ?_ ?_
 ·rw [h.v];exact h.voc.vwE h.term
 ·rw [h.t];exact h.set.tok.toE
 ·rw [h.n];exact (q84 hq).symm
 ·rw [h.v,h.voc.tot h.set.rise h.kinds];exact (q85 hT).symm
 ·intro i hi;rw [h.n] at hi;have hi2:qs[i]?=some qs[i]:=zge hi;exact ⟨fun j hj=>by rw [h.told hi2 hj];simp,by rw [h.quad4 hi2];exact h.quad _ (List.getElem_mem hi)⟩
 ·intro id h1 h2;rw [h.v,h.voc.tot h.set.rise h.kinds] at h2;have ht:T[id-1]?=some T[id-1]:=zge Oo;obtain ⟨q,hq,k,hk,e⟩:=h.used _ (zmg ht);obtain ⟨i,hi⟩:=List.mem_iff_getElem?.1 hq;have hl:=(List.getElem?_eq_some_iff.1 hi).1;refine ⟨i,by rw [h.n];exact hl,k,hk,?_⟩;rw [h.t,h.set.tok.tNum hl hk,qhs hi,e,qku h.set.rise ht (by have:=h.set.kind _ (zmg ht);omega)];omega
end
theorem q6w {c:UInt8} (h:c≠0):(0:UInt8)<c:=by
 grind
theorem qaap {c d:UInt8} (h:c<d):d≠0:=fun e=>by
 simp_all
theorem qs3 (p:LB) {a b:LB} (h:a<b):p++a<p++b:=by
 induction p<;>grind [List.cons_lt_cons_iff]
theorem qxx:∀ {a b:LB} (r s:LB),a<b→escL a++(0::0::r)<escL b++(0::0::s)
 | _,[],_,_,h=>absurd h (List.not_lt_nil _)
 | [],d::b,r,s,_=>by
  by_cases hd:d=0
  ·subst hd;rw [qcn];exact List.cons_lt_cons_iff.2 (.inr ⟨rfl,List.cons_lt_cons_iff.2 (.inl Od)⟩)
  ·rw [qbv _ hd];exact List.cons_lt_cons_iff.2 (.inl (q6w hd))
 | c::a,d::b,r,s,h=>by
  rcases List.cons_lt_cons_iff.1 h with h1|⟨rfl,h1⟩
  ·rw [qbv _ (qaap h1)]
   by_cases hc:c=0
   ·subst hc;rw [qcn];exact List.cons_lt_cons_iff.2 (.inl h1)
   ·rw [qbv _ hc];exact List.cons_lt_cons_iff.2 (.inl h1)
  ·by_cases hc:c=0
   ·subst hc;rw [qcn,qcn];exact qs3 [0,1] (qxx r s h1)
   ·rw [qbv _ hc,qbv _ hc];exact qs3 [c] (qxx r s h1)
theorem q6u:∀ {a b:LB} (r s:LB),(∀ c∈b,c≠0)→a<b→a++(0::r)<b++(0::s)
 | _,[],_,_,_,h=>absurd h (List.not_lt_nil _)
 | [],d::b,r,s,hb,_=>List.cons_lt_cons_iff.2 (.inl (q6w (hb d mh)))
 | c::a,d::b,r,s,hb,h=>by
  rcases List.cons_lt_cons_iff.1 h with h1|⟨rfl,h1⟩
  ·exact List.cons_lt_cons_iff.2 (.inl h1)
  ·exact qs3 [c] (q6u r s (fun x hx=>hb x (zmc hx)) h1)
theorem qlu {a b:TM} (ha:qa5 a=0) (hb:qa5 b=0) (hk:a.kind=b.kind) (h:LtT a b):qae a<qae b:=by
 have h:slt a.text b.text=true∨(a.text=b.text∧(slt a.type b.type=true∨(a.type=b.type∧slt a.lang b.lang=true))):=by
  rcases h with g|⟨_,g⟩
  all_goals omega
 simp only [qc6] at h
 by_cases h3:b.kind=3
 ·have ra:ReadsAs 3 (qae a) a:=⟨by omega,ha,rfl⟩
  have rb:ReadsAs 3 (qae b) b:=⟨h3,hb,rfl⟩
  obtain ⟨ea,_⟩:=ra.lit;obtain ⟨eb,hz⟩:=rb.lit
  grind [qxx,qs3,q6u]
 ·have ra:ReadsAs a.kind (qae a) a:=⟨rfl,ha,rfl⟩
  have rb:ReadsAs b.kind (qae b) b:=⟨rfl,hb,rfl⟩
  obtain ⟨a1,a2,a3⟩:=ra.plain Oo;obtain ⟨b1,b2,b3⟩:=rb.plain h3
  simp_all
open Classical in
noncomputable def dicE (L:List LB):Nat:=
 if 4194304<L.length∨∃ i,262144<(tx L i).length then 2 else if ∃ i,i+1<L.length∧leL (tx L (i+1)) (tx L i)=true then 160 else if 67108864<(qal L).length then 1 else 0
theorem LtQ.trans {a b c:Q4} (h:LtQ a b) (g:LtQ b c):LtQ a c:=by
 obtain ⟨k,h1,h2,h3⟩:=h;obtain ⟨m,g1,g2,g3⟩:=g
 rcases Nat.lt_trichotomy k m with e|e|e
 ·exact ⟨k,h1,fun j hj=>(h2 j hj).trans (g2 j Oo),by rw [← g2 k e];exact h3⟩
 ·subst e;exact ⟨k,h1,fun j hj=>(h2 j hj).trans (g2 j hj),h3.trans g3⟩
 ·exact ⟨m,g1,fun j hj=>(h2 j Oo).trans (g2 j hj),by rw [h2 m e];exact g3⟩
theorem qz5 {α:Type} {R:α→α→Prop} (ht:∀ a b c,R a b→R b c→R a c) {l:List α} (h:∀ i a b,l[i]?=some a→l[i+1]?=some b→R a b):l.Pairwise R:=by
 refine List.pairwise_iff_getElem.2 fun i j hi hj hij=>?_;obtain ⟨d,rfl⟩:∃ d,j=i+1+d:=⟨j-(i+1),by omega⟩
 clear hij
 induction d with
 | zero=>exact h i _ _ (zge hi) (zge hj)
 | succ d ih=>exact ht _ _ _ (ih Oo) (h (i+1+d) _ _ (zge Oo) (zge hj))
section
variable {l:LB} (h:(poE l).2=0)
include h
end
def cmpQ (a b:Q4):Int:=if cmpT a.g b.g≠0 then cmpT a.g b.g else if cmpT a.s b.s≠0 then cmpT a.s b.s else if cmpT a.p b.p≠0 then cmpT a.p b.p else cmpT a.o b.o
theorem qcl {a b:Q4}:cmpQ a b<0↔LtQ a b:=by
 unfold cmpQ
 constructor
 ·intro h
  by_cases h0:cmpT a.g b.g≠0
  ·rw [if_pos h0] at h;exact ⟨0,by decide,fun j hj=>absurd hj (Nat.not_lt_zero _),qat.1 h⟩
  rw [if_neg h0] at h;have e0:=qan.1 (Classical.not_not.1 h0)
  by_cases h1:cmpT a.s b.s≠0
  ·rw [if_pos h1] at h;exact ⟨1,by decide,fun j hj=>by obtain rfl:j=0:=(by omega);exact e0,qat.1 h⟩
  rw [if_neg h1] at h;have e1:=qan.1 (Classical.not_not.1 h1)
  by_cases h2:cmpT a.p b.p≠0
  ·rw [if_pos h2] at h;refine ⟨2,by decide,fun j hj=>?_,qat.1 h⟩
   rcases (show j=0∨j=1 by omega) with rfl|rfl
   ·exact e0
   ·exact e1
  rw [if_neg h2] at h;have e2:=qan.1 (Classical.not_not.1 h2);refine ⟨3,by decide,fun j hj=>?_,qat.1 h⟩
  rcases (show j=0∨j=1∨j=2 by omega) with rfl|rfl|rfl
  ·exact e0
  ·exact e1
  ·exact e2
 ·rintro ⟨k,hk,h1,h2⟩
  match k,hk with
  | 0,_=>
   have:=qat.2 h2;have g:cmpT a.g b.g<0:=this;omega
  | 1,_=>
   have g:cmpT a.s b.s<0:=qat.2 h2;rw [if_neg (fun x=>x (qan.2 (h1 0 Od))),if_pos Oo];exact g
  | 2,_=>
   have g:cmpT a.p b.p<0:=qat.2 h2;rw [if_neg (fun x=>x (qan.2 (h1 0 Od))),if_neg (fun x=>x (qan.2 (h1 1 Od))),if_pos Oo];exact g
  | 3,_=>
   have g:cmpT a.o b.o<0:=qat.2 h2;rw [if_neg (fun x=>x (qan.2 (h1 0 Od))),if_neg (fun x=>x (qan.2 (h1 1 Od))),if_neg (fun x=>x (qan.2 (h1 2 Od)))];exact g
def q13 (qs:List Q4) (n:Nat):Prop:=∀ i,i+1<n→∀ a b,qs[i]?=some a→qs[i+1]?=some b→LtQ a b
open Classical in
noncomputable def valE (qs:List Q4):Nat:=if 1048576<qs.length then 2 else if qcf (qs.map qbx)≠0 then qcf (qs.map qbx) else if q13 qs qs.length then 0 else 6
theorem q1n {qs:List Q4} (h:1048576<qs.length):valE qs=2:=by rw [valE,if_pos h]
theorem q1o {qs:List Q4} (h:¬ 1048576<qs.length) {i e:Nat} {q:Q4} (hq:qs[i]?=some q) (hj:∀ j r,j<i→qs[j]?=some r→qbx r=0) (he:qbx q=e) (h0:e≠0):valE qs=e:=by
 have hl:=(List.getElem?_eq_some_iff.1 hq).1;have e1:qcf (qs.map qbx)=e:=by
  rw [qi1 (k:=i) (by simp_all) (fun j hj1 hj2=>by grind)
   (by simp_all),List.getElem_map,(List.getElem?_eq_some_iff.1 hq).2,he]
 grind [valE]
theorem qkz {qs:List Q4} (h:∀ q∈qs,qbx q=0):qcf (qs.map qbx)=0:=
 qdk fun j hj=>by simp_all
theorem q5f {qs:List Q4} (h:¬ 1048576<qs.length) (hq:∀ q∈qs,qbx q=0) {i:Nat} {a b:Q4} (ha:qs[i]?=some a) (hb:qs[i+1]?=some b) (hn:¬ LtQ a b):valE qs=6:=by
 have hl:=(List.getElem?_eq_some_iff.1 hb).1;rw [valE,if_neg h,qkz hq,if_neg (fun g=>g rfl),if_neg (fun g=>hn (g i hl a b ha hb))]
theorem qaav {qs:List Q4} (h:¬ 1048576<qs.length) (hq:∀ q∈qs,qbx q=0) (hr:q13 qs qs.length):valE qs=0:=by
 grind [valE,qkz]
theorem qgw:∀ {l:List Nat},qcf l=0→∀ x∈l,x=0
 | [],_,x,hx=>by cases hx
 | y::l,h,x,hx=>by
  rw [qcf] at h
  by_cases e:y=0
  ·rw [if_neg (fun g=>g e)] at h
   rcases List.mem_cons.1 hx with rfl|hx
   ·exact e
   ·exact qgw h x hx
  ·rw [if_pos e] at h;exact absurd h e
theorem qef {qs:List Q4} (h:valE qs=0):qs.length≤1048576∧(∀ q∈qs,qbx q=0)∧qs.Pairwise LtQ:=by
 unfold valE at h
 by_cases h1:1048576<qs.length
 case pos=>simp_all
 rw [if_neg h1] at h
 by_cases h2:qcf (qs.map qbx)≠0
 case pos=>simp_all
 rw [if_neg h2] at h
 by_cases h3:q13 qs qs.length
 case neg=>simp_all
 refine ⟨by omega,fun q hq=>qgw (Classical.not_not.1 h2) _ (List.mem_map.2 ⟨q,hq,rfl⟩),qz5 (R:=LtQ) (fun _ _ _ h g=>LtQ.trans h g) fun i a b ha hb=>h3 i (List.getElem?_eq_some_iff.1 hb).1 a b ha hb⟩
theorem qmp {q:Q4} (h:qbx q=0) {k:Nat} (hk:k<4):qE k (q.at k)=0:=qgw h _ (List.mem_map.2 ⟨k,List.mem_range.2 hk,rfl⟩)
theorem qmn {k:Nat} {t:TM} (h:qE k t=0):canB k t=true∧((k=3∧t.kind=0)∨qa5 t=0):=by
 grind [qE]
theorem qk6 {t:TM} (h:qa5 t=0):1≤t.kind∧t.kind≤3:=by
 grind [qa5]
theorem q5r {t:TM} (h:qwm t=true):t=zTM:=qu.1 h
theorem qmq {q:Q4} (h:qbx q=0) {k:Nat} (hk:k<4):(qa5 (gat q k)=0∧gat q k∈trQ q)∨(k=0∧(gat q k).kind=0∧gat q k=zTM):=by
 match k,hk with
 | 0,_=>
  obtain ⟨h1,h2⟩:=qmn (qmp h (k:=3) Od)
  by_cases h0:q.g.kind=0
  ·refine .inr ⟨rfl,h0,?_⟩;have h1:canB 3 q.g=true:=h1;rw [canB,if_neg Oo,if_neg Oo,if_neg Oo] at h1;simp only [Bool.or_eq_true,decide_eq_true_eq] at h1
   rcases h1 with (h1|h1)|h1
   ·exact q5r h1
   all_goals omega
  ·refine .inl ⟨h2.resolve_left fun g=>h0 g.2,?_⟩;rw [trQ,if_neg h0];exact List.mem_append_right _ (List.mem_singleton.2 rfl)
 | 1,_=>
  obtain ⟨_,h2⟩:=qmn (qmp h (k:=0) Od);exact .inl ⟨h2.resolve_left fun g=>absurd g.1 Od,List.mem_append_left _ mh⟩
 | 2,_=>
  obtain ⟨_,h2⟩:=qmn (qmp h (k:=1) Od);exact .inl ⟨h2.resolve_left fun g=>absurd g.1 Od,List.mem_append_left _ (zmc mh)⟩
 | 3,_=>
  obtain ⟨_,h2⟩:=qmn (qmp h (k:=2) Od);exact .inl ⟨h2.resolve_left fun g=>absurd g.1 Od,List.mem_append_left _ (zmc (zmc mh))⟩
theorem qrg {q:Q4} {t:TM} (h:t∈trQ q):∃ k,k<4∧gat q k=t∧(k=0→(gat q k).kind≠0):=by
 rw [trQ] at h
 rcases List.mem_append.1 h with h|h
 ·simp only [List.mem_cons,List.not_mem_nil,or_false] at h
  rcases h with rfl|rfl|rfl
  ·exact ⟨1,by decide,rfl,fun g=>by cases g⟩
  ·exact ⟨2,by decide,rfl,fun g=>by cases g⟩
  ·exact ⟨3,by decide,rfl,fun g=>by cases g⟩
 ·by_cases h0:q.g.kind=0
  ·simp_all
  ·rw [if_neg h0] at h;rw [List.mem_singleton.1 h];exact ⟨0,by decide,rfl,fun _=>h0⟩
def tmsQ (qs:List Q4):List TM:=tmsN (trms qs).length (trms qs)
theorem qeb (qs:List Q4):RiseT (tmsQ qs):=(qgf _ (trms qs) znr).1
theorem qs8 {qs:List Q4} {t:TM}:t∈trms qs↔∃ q∈qs,t∈trQ q:=by
 grind [trms]
theorem qdo {qs:List Q4} {t:TM}:t∈tmsQ qs↔∃ q∈qs,t∈trQ q:=by
 rw [← qs8];exact (qgf _ (trms qs) znr).2 t
section
variable {qs:List Q4} (h:valE qs=0)
include h
theorem qdd {t:TM} (ht:t∈tmsQ qs):qa5 t=0∧1≤t.kind∧t.kind≤3:=by
 obtain ⟨q,hq,hm⟩:=qdo.1 ht;obtain ⟨k,hk,rfl,h0⟩:=qrg hm
 rcases qmq ((qef h).2.1 q hq) hk with g|⟨g1,g2,_⟩
 all_goals simp_all [qk6]
theorem qt5 (hn:(tmsQ qs).length≤4194304):SetOk (tmsQ qs) qs:=by
 obtain ⟨h1,h2,h3⟩:=qef h;refine ⟨qeb qs,hn,fun t ht=>by have:=qdd h ht;omega,fun q hq k hk=>?_,h1,h3⟩
 grind [qmq,qdo]
theorem q45 (hn:(tmsQ qs).length≤4194304) (hv:VOk (tmsQ qs)) (hs:(vocB (tmsQ qs)).length+(ql (noQ (tmsQ qs) qs) qs.length).length+36≤67108864):EncOk (tmsQ qs) qs:=by
 refine ⟨qt5 h hn,hv,fun t ht=>(qdd h ht).2.2,fun t ht=>(qdd h ht).1,fun q hq=>(qef h).2.1 q hq,fun t ht=>?_,hs⟩
 grind [qdo,qrg]
end
theorem EncOk.terms {T:List TM} {qs:List Q4} (h:EncOk T qs):T=tmsQ qs:=by
 refine RiseT.ext h.set.rise (qeb qs) fun t=>⟨fun ht=>?_,fun ht=>?_⟩
 ·obtain ⟨q,hq,k,hk,e⟩:=h.used t ht
  rcases qmq (h.quad q hq) hk with g|⟨_,g,_⟩
  ·grind [qdo]
  ·have:=h.set.kind t ht;simp_all
 ·obtain ⟨q,hq,hm⟩:=qdo.1 ht;obtain ⟨k,hk,e,h0⟩:=qrg hm
  rcases h.set.mem q hq k hk with g|⟨g1,g2,_⟩
  all_goals simp_all
theorem qabi {L:List LB} (h:¬ 4194304<L.length) (h2:∀ i,¬ 262144<(tx L i).length) {i:Nat} (hi:i+1<L.length) (hl:leL (tx L (i+1)) (tx L i)=true):dicE L=160:=by
 rw [dicE,if_neg (fun g=>g.elim h fun ⟨i,g⟩=>h2 i g),if_pos ⟨i,hi,hl⟩]
theorem qxl {L:List LB} (h:¬ 4194304<L.length) (h2:∀ i,¬ 262144<(tx L i).length) (h3:∀ i,i+1<L.length→leL (tx L (i+1)) (tx L i)=false) (h4:67108864<(qal L).length):dicE L=1:=by
 grind [dicE]
theorem q7r {L:List LB} (h:DOk L):dicE L=0:=by
 have h1:=h.n;have h4:=h.area;rw [dicE,if_neg (fun g=>g.elim Oo fun ⟨i,g⟩=>by have:=h.len i;omega),if_neg (fun ⟨i,g,g2⟩=>by rw [h.rise i g] at g2;cases g2),if_neg Oo]
theorem qfs {L:List LB} (h:dicE L=0):DOk L:=by
 unfold dicE at h
 by_cases h1:4194304<L.length∨∃ i,262144<(tx L i).length
 case pos=>simp_all
 rw [if_neg h1] at h
 by_cases h2:∃ i,i+1<L.length∧leL (tx L (i+1)) (tx L i)=true
 case pos=>simp_all
 rw [if_neg h2] at h
 by_cases h3:67108864<(qal L).length
 case pos=>simp_all
 refine ⟨Nat.not_lt.1 fun g=>h1 (.inl g),fun i=>Nat.not_lt.1 fun g=>h1 (.inr ⟨i,g⟩),fun i hi=>?_,by omega⟩
 simp_all
noncomputable def qc7 (T:List TM):Nat:=if dicE (secE T 0)≠0 then dicE (secE T 0) else if dicE (secE T 1)≠0 then dicE (secE T 1) else dicE (secE T 2)
theorem q5n {T:List TM} {k:Nat} (hk:k<3) (h:∀ j,j<k→dicE (secE T j)=0) (h0:dicE (secE T k)≠0):qc7 T=dicE (secE T k):=by
 grind [qc7]
theorem qub {T:List TM} (h:∀ k,k<3→dicE (secE T k)=0):qc7 T=0:=by
 grind [qc7]
theorem qla {T:List TM} (h:qc7 T=0):∀ k,k<3→dicE (secE T k)=0:=by
 unfold qc7 at h
 grind
def pkB (qs:List Q4):LB:=encP (tmsQ qs) qs
theorem qqo (qs:List Q4):(pkB qs).length=(vocB (tmsQ qs)).length+(ql (noQ (tmsQ qs) qs) qs.length).length+36:=qtg _ _ _ _
noncomputable def encE (qs:List Q4) (most:Int):Nat:=
 if valE qs≠0 then valE qs else if qc7 (tmsQ qs)≠0 then qc7 (tmsQ qs) else if most<((pkB qs).length:Int)∨67108864<(pkB qs).length then 1 else 0
section
variable {qs:List Q4} {most:Int}
theorem qsn (h:valE qs≠0):encE qs most=valE qs:=by rw [encE,if_pos h]
theorem qso (h:valE qs=0) (h2:qc7 (tmsQ qs)≠0):encE qs most=qc7 (tmsQ qs):=by grind [encE]
theorem qic (h:valE qs=0) (h2:qc7 (tmsQ qs)=0) (h3:most<((pkB qs).length:Int)∨67108864<(pkB qs).length):encE qs most=1:=by grind [encE]
theorem qpz (h:valE qs=0) (h2:qc7 (tmsQ qs)=0) (h3:¬ (most<((pkB qs).length:Int)∨67108864<(pkB qs).length)):encE qs most=0:=by grind [encE]
theorem qi0 (h:encE qs most=0):valE qs=0∧qc7 (tmsQ qs)=0∧((pkB qs).length:Int)≤most∧(pkB qs).length≤67108864:=by
 grind [encE]
theorem q6a (a b c:LB):a.length+b.length+c.length≤(jo3 a b c).length:=by
 grind [jo3]
theorem q20 (hn:(tmsQ qs).length≤4194304) (h:encE qs most=0):EncOk (tmsQ qs) qs:=by
 obtain ⟨h1,h2,_,h4⟩:=qi0 h;rw [qqo] at h4;refine q45 h1 hn ⟨fun k hk=>qfs (qla h2 k hk),?_⟩ h4
 grind [q6a,vocB]
theorem EncOk.pk {T:List TM} (h:EncOk T qs):encP T qs=pkB qs:=by rw [pkB,← h.terms]
end
theorem qq9 (g:FuncId) (c1 c2:Value) (n:Nat) (p:Nat→Bool) (w:World) (hn:n≤4194304) (hp:∀ i j,i≤j→p i=true→p j=true)
  (hg:∀ i w',i<n→Ext w w'→Gv Tryz.prog g [ii i,c1,c2] w' fun r w''=>r=.bool (p i)∧Ext w' w'') :
  Gv Tryz.prog 208 [ii n,.func (.func g) #[] #[c1,c2]] w fun r w'=>∃ k:Nat,r=ii k∧k≤n∧(∀ i,i<k→p i=false)∧(∀ i,k≤i→i<n→p i=true)∧Ext w w':=by
 refine ze Tryz.func208 Tryz.ntmps208 ?_;refine qm (fun s:Nat × Nat=>[(1,.func (.func g) #[] #[c1,c2]),(5,ii s.1),(6,ii s.2)])
  (fun s w'=>s.1≤s.2∧s.2≤n∧(∀ i,i<s.1→p i=false)∧(∀ i,s.2≤i→i<n→p i=true)∧Ext w w') (fun s=>s.2-s.1) (0,n) ⟨rfl,rfl,rfl,trivial⟩ ⟨Nat.zero_le _,Nat.le_refl _,fun i h=>by omega,fun i h1 h2=>by omega,xr⟩ ?_
 rintro ⟨a,b⟩ w1 ρ' ⟨h1,h2,h3,h4,he⟩;dsimp only at h1 h2 h3 h4 ⊢;(conv=>whnf);refine zC (fun _=>zu ?_) (fun _=>zu ?_)
 ·obtain ⟨h,eh⟩:∃ h,h=(a+b)/2:=⟨_,rfl⟩
  rw [← Int.natCast_add];refine V.Wit.shrN 1 rfl Od ?_;rw [Nat.pow_one,← eh];refine zu ?_;refine zcv (hg h w1 Oo he) ?_;rintro r w2 ⟨rfl,he2⟩;have he:=he.trans he2;cases hph:p h
  ·refine zu ?_;refine ⟨(h+1,b),⟨rfl,rfl,rfl,trivial⟩,⟨by show h+1≤b;omega,h2,fun i hi=>?_,h4,he⟩,by show b-(h+1)<b-a;omega⟩
   by_cases hip:p i=true
   ·have:=hp i h (by show i≤h;have hi:i<h+1:=hi;omega) hip;rw [hph] at this;cases this
   ·simpa using hip
  ·refine zu ?_;refine ⟨(a,h),⟨rfl,rfl,rfl,trivial⟩,⟨by show a≤h;omega,by show h≤n;omega,h3,fun i hi _=>hp h i hi hph,he⟩,by show h-a<b-a;omega⟩
 ·obtain rfl:a=b:=by omega
  exact ⟨a,rfl,h2,h3,h4,he⟩
def ltx (L:List LB) (i:Nat) (s:ByteArray):Bool:=slt ⟨(tx L i).toArray⟩ s
theorem DOk.up {L:List LB} (h:DOk L) {i j:Nat} (hij:i<j) (hj:j<L.length):slt ⟨(tx L i).toArray⟩ ⟨(tx L j).toArray⟩=true:=by
 induction j with
 | zero=>omega
 | succ j ih=>
  have h1:slt ⟨(tx L j).toArray⟩ ⟨(tx L (j+1)).toArray⟩=true:=by
   have h2:=h.rise j hj;simp only [leL,Bool.or_eq_false_iff] at h2
   rcases qmv ⟨(tx L j).toArray⟩ ⟨(tx L (j+1)).toArray⟩ with g|g|g
   ·exact g
   ·rw [g] at h2;have:=h2.2;simp [seq] at this
   ·rw [g] at h2;exact absurd h2.1 Od
  by_cases e:i=j
  ·subst e;exact h1
  ·exact qjt (ih Oo Oo) h1
theorem DOk.ltx_up {L:List LB} (h:DOk L) {i j:Nat} {s:ByteArray} (hij:i≤j) (hj:j<L.length) (hs:ltx L j s=true):ltx L i s=true:=by
 by_cases e:i=j
 ·subst e;exact hs
 ·exact qjt (h.up Oo hj) hs
theorem qnu (b:Nat) (t s:ByteArray) (w:World) (hb:w.cell? ⟨b,0,none⟩=some (.string s)) :
  Gv Tryz.prog 248 [.string t,pp b] w fun r w'=>r=.bool (slt t s)∧Ext w w':=by
 refine ze Tryz.func248 Tryz.ntmps248 ?_;refine LoadV.of hb (zw ?_);exact ⟨rfl,xr⟩
theorem quh (L:List LB) (hL:DOk L) (b b2 b3 sb i:Nat) (s:ByteArray) (w:World) (hD:DictAt w b (qk L)) (hi:i<upN L.length 16)
  (h2:w.cell? ⟨b2,0,none⟩=some (pp b)) (h3:w.cell? ⟨b3,0,none⟩=some (.func (.func 248) #[] #[pp sb])) (hs:w.cell? ⟨sb,0,none⟩=some (.string s)) :
  Gv Tryz.prog 321 [ii i,pp b2,pp b3] w fun r w'=>r=.bool (!ltx L (16*i) s)∧Ext w w':=by
 have hi16:16*i<L.length:=by unfold upN at hi;omega
 have hn:=hL.n;have hpl:=qnq hD i;have hx:qew (qc (qk L)) (qy (qk L) i) true []=blk (qc (qk L)) (qy (qk L) i) 0:=rfl;have hg:=qpx (m:=qk L) (by rw [hL.eoE]) (i:=16*i) (by rw [hL.eN];exact hi16);rw [hL.eGet hi16,dTxt,show 16*i/16=i by omega,show 16*i%16=0 by omega] at hg;obtain ⟨q1,q2⟩:=hg;have q2:=Option.some.inj q2;obtain ⟨x,ex⟩:∃ x,x=blk (qc (qk L)) (qy (qk L) i) 0:=⟨_,rfl⟩
 rw [← ex] at q1 q2 hx;obtain ⟨P,cp,E',ce,hd1,_,_,_⟩:=id hD.1;refine ze Tryz.func321 Tryz.ntmps321 ?_;refine DrawV.free Jk Jk (zw ?_);apply zsd
 ·intro wd hd;(conv=>whnf);refine LoadV.of (((Ext.refl w).drew.trans hd).cell h2) (zw ?_);exact ⟨xr,rfl⟩
 (conv=>whnf);apply zsd
 ·intro wd hd;(conv=>whnf);refine LoadV.of (((Ext.refl w).drew.trans hd).cell h2) (zw ?_);exact ⟨xr,rfl⟩
 (conv=>whnf);refine zd ?_;apply zsd
 ·intro wd hd;(conv=>whnf);refine zcv (qof b (qk L) i wd (hD.ext ((Ext.refl w).drew.trans hd)) (by rw [hL.eN];exact hi)) ?_;rintro v w' ⟨rfl,rfl⟩;exact ⟨xr,rfl⟩
 (conv=>whnf);apply zsd
 ·intro wd hd;(conv=>whnf);refine zcv (qnt b (qk L) (qy (qk L) i) true ⟨#[]⟩ wd (hD.ext ((Ext.refl w).drew.trans hd)) Oo Od) ?_;rintro v w' ⟨rfl,he⟩;exact ⟨he,rfl⟩
 (conv=>whnf);have hx':qew (qc (qk L)) (qy (qk L) i) true (⟨#[]⟩:ByteArray).data.toList=x:=hx;rw [hx'];clear hx hx' ex;obtain ⟨x1,x2,x3⟩:=x;dsimp only at q1 q2;subst q1 q2;(iterate 7 (refine zd ?_));intro w2 he2;have he2:=(Ext.refl w).drew.trans he2;(conv=>whnf);refine zC (fun _=>zu ?_) (fun _=>zu ?_)
 ·rename_i hx
  exact absurd rfl hx
 refine LoadV.of (he2.cell h3) (zu ?_);refine zcv (qnu sb ⟨(tx L (16*i)).toArray⟩ s w2 (he2.cell hs)) ?_;rintro r w3 ⟨rfl,he3⟩;refine zu ?_;exact ⟨rfl,he2.trans he3⟩
structure AhN (L:List LB) (s:ByteArray) (N:Nat):Prop where
 le:N≤L.length
 lt:∀ i,i<N→ltx L i s=true
 ge:N<L.length→ltx L N s=false
theorem DOk.txt {L:List LB} (h:DOk L) {i:Nat} (hi:i<L.length):dTxt (qk L) i=tx L i:=by
 have hg:=(qpx (m:=qk L) (by rw [h.eoE]) (i:=i) (by rw [h.eN];exact hi)).2;rw [h.eGet hi] at hg;exact (Option.some.inj hg).symm
theorem qw1 (b k:Nat) (w:World):Gv Tryz.prog 324 [pp b,ii k] w fun r w'=>
  ∃ b1 b2,r=.func (.func 370) #[] #[pp b1,pp b2]∧Mem w w' [(b2,.cells #[ii k] 3),(b1,.cells #[pp b] 300)]:=by
 refine ze Tryz.func324 Tryz.ntmps324 ?_;refine znm (Mem.nil w) ?_;intro b1 w1 hm;refine znm hm fun b2 w2 hm=>zw ?_;exact ⟨b1,b2,rfl,hm⟩
theorem qws (L:List LB) (hL:DOk L) (b sb:Nat) (s:ByteArray) (w:World) (hD:DictAt w b (qk L)) (hs:w.cell? ⟨sb,0,none⟩=some (.string s)) :
  Gv Tryz.prog 247 [pp b,.func (.func 248) #[] #[pp sb]] w fun r w'=>(∃ N:Nat,r=ii N∧AhN L s N)∧Ext w w':=by
 have hn:=hL.n;have hub:upN L.length 16≤4194304:=Nat.le_trans (qbi _ _ Od) hn;refine gvW Jk Tryz.func247 rfl Tryz.ntmps247 rfl (zw ?_);refine znm (Mem.nil w) ?_;intro b2 w1 hm;refine znm hm fun b3 w2 hm=>zw ?_;obtain ⟨fv,efv⟩:∃ fv:Value,fv=.func (.func 248) #[] #[pp sb]:=⟨_,rfl⟩
 refine zR hm 1 ?_;obtain ⟨P,cp,E,ce,hd1,_,_,_⟩:=(hD.ext hm.ext).1;refine LoadV.own hd1 rfl ?_;rw [hL.eN];(conv=>whnf);refine zcv (qkh L.length w2 hn) ?_;rintro v w' ⟨rfl,rfl⟩;(conv=>whnf);have hss:=qq9 321 (pp b2) (pp b3) (upN L.length 16) (fun i => !(decide (16*i<L.length)&&ltx L (16*i) s)) w' hub (fun i j hij h=>by
  simp only [Bool.not_eq_true',Bool.and_eq_false_iff,decide_eq_false_iff_not] at h ⊢
  by_cases hj:16*j<L.length
  ·right
   have h1:=h.resolve_left (fun g=>g Oo);cases hx:ltx L (16*j) s
   ·rfl
   ·rw [hL.ltx_up Oo hj hx] at h1;cases h1
  ·exact .inl hj) (fun i w2 hi he=>(quh L hL b b2 b3 sb i s w2 (hD.ext (hm.ext.trans he)) hi (by rw [qa (he.get (hm.get (zmc mh)))];rfl) (by rw [qa (he.get (hm.get mh))];rfl) ((hm.ext.trans he).cell hs)).mono fun r w3 ⟨h1,h2⟩=>⟨by
    have hi16:16*i<L.length:=by unfold upN at hi;omega
    rw [h1,decide_eq_true hi16,Bool.true_and],h2⟩)
 refine zcv (hss) ?_;rintro v w3 ⟨k,rfl,hk1,hk2,hk3,he3⟩;have hm:=hm.call he3;clear hss;have hin:∀ i,i<upN L.length 16→16*i<L.length:=fun i h=>by unfold upN at h;omega
 have hk2:∀ i,i<k→ltx L (16*i) s=true:=fun i h=>by
  have h1:=hk2 i h;have h2:=hin i Oo
  simpa [h2] using h1
 have hk3:∀ i,k≤i→16*i<L.length→ltx L (16*i) s=false:=fun i h h2=>by
  have h1:=hk3 i h (by unfold upN;omega)
  simpa [h2] using h1
 clear hd1;(conv=>whnf);refine zC (fun _=>zu ?_) (fun _=>zu ?_)
 ·obtain rfl:k=0:=by omega
  exact ⟨⟨0,rfl,Nat.zero_le _,fun i h=>by omega,fun h=>hk3 0 znr h⟩,hm.ext⟩
 obtain ⟨q,rfl⟩:∃ q,k=q+1:=⟨k-1,by omega⟩
 rw [show (((q+1:Nat):Int)-1)=(q:Int) by omega];refine znm hm ?_;intro b6 w4 hm;refine StoreV.mem hm (i:=0) rfl Js rfl ?_;intro w5 hm;refine zr hm 2 ?_;refine zv ?_;rw [show (((q+1:Nat):Int)-1)=(q:Int) by omega];refine zcv (qw1 b q w5) ?_;rintro v w6 ⟨b1,b7,rfl,hm7⟩;have hm:=hm.glue hm7;have hdn:dN (qk L)=L.length:=hL.eN;obtain ⟨n,en⟩:∃ n,n=min 16 (L.length-16*q):=⟨_,rfl⟩
 have hbe:BEnd (qk L) q n:=by
  have:=BEnd.full (m:=qk L) (by rw [hL.eoE]) q;rw [hdn,← en] at this;exact this
 have hq16:=hin q Oo;obtain ⟨R,eR⟩:∃ R:Nat→List (Nat × Obj),R=fun k=>[(b7,.cells #[ii q] 3),(b1,.cells #[pp b] 300),(b6,.cells #[ii (16*q+k:Nat)] 3),(b3,.cells #[fv] 360),(b2,.cells #[pp b] 300)]:=⟨_,rfl⟩
 have hm:Mem w w6 (R 0):=by
  rw [eR,efv];dsimp only;rw [show ((16*q+0:Nat):Int)=(q:Int)*16 by omega];exact hm
 have hin1:∀ k,(b1,Obj.cells #[pp b] 300)∈R k:=fun k=>by rw [eR];exact zmg (i:=1) rfl
 have hin7:∀ k,(b7,Obj.cells #[ii q] 3)∈R k:=fun k=>by rw [eR];exact zmg (i:=0) rfl
 have hlen:((List.range n).map (bRow (qk L) q)).length=n:=by simp
 refine qtl (Φ:=BlkΦ b (qk L) q b1 b7) (lb:=[pp b1,pp b7]) (xs:=(List.range n).map (bRow (qk L) q)) rfl Jk (qng b (qk L) q n b1 b7 (by rw [hdn];omega) hbe).toC Od ?_
  (fun k X w'=>∃ _:Unit,(k≤n∧∀ j,j<k→ltx L (16*q+j) s=true)∧Mem w w' (X++R k))
  (fun c k X w'=>∃ _:Unit,(c=.exit 0∧k<n∧(∀ j,j<k→ltx L (16*q+j) s=true)∧ltx L (16*q+k) s=false)∧Mem w w' (X++R k))
  (fun k=>Carr.mem _ _) (fun c k=>Carr.mem _ _) (fun k X w' ⟨_,_,hm'⟩=>⟨hD.ext hm'.ext,by rw [qa (hm'.get (List.mem_append_right _ (hin1 _)))];rfl,by rw [qa (hm'.get (List.mem_append_right _ (hin7 _)))];rfl⟩) ⟨(),⟨Nat.zero_le _,fun j h=>by omega⟩,by simpa using hm⟩ ?_ ?_ ?_
 ·intro x hx;obtain ⟨j,_,rfl⟩:=List.mem_map.1 hx;rfl
 ·clear hm hm7;rintro l D ob k x X w7 w8 hx ⟨_,⟨hk,hj⟩,hm⟩;have hkn:k<n:=by
   have:=(List.getElem?_eq_some_iff.1 hx).1
   rwa [hlen] at this
  rw [List.getElem?_map,List.getElem?_range hkn,Option.map_some,Option.some.injEq,q19 _ _ _ Oo,hL.txt Oo] at hx;subst hx;obtain ⟨X',eX'⟩:∃ X',X'=(l,ob)::(D,.deferred (some []))::X:=⟨_,rfl⟩
  rw [← eX'] at hm ⊢;have hm:Mem w w8 (R k++X'):=hm.perm List.perm_append_comm;rw [eR] at hm ⊢;dsimp only at hm ⊢;rw [efv] at hm ⊢;(conv=>whnf);refine ⟨rfl,rfl,?_⟩;refine zr hm 3 ?_;refine zcv (qnu sb ⟨(tx L (16*q+k)).toArray⟩ s w8 (hm.ext.cell hs)) ?_;rintro r w9 ⟨rfl,he9⟩;have hm:=hm.call he9;cases hlt:slt ⟨(tx L (16*q+k)).toArray⟩ s
  ·refine zu ?_;exact ⟨(),⟨rfl,hkn,hj,hlt⟩,hm.perm List.perm_append_comm⟩
  ·refine zu ?_;refine StoreV.mem hm (i:=2) rfl Js rfl fun w10 hm=>zw ?_;refine ⟨(),⟨hkn,fun j' hj'=>?_⟩,?_⟩
   ·by_cases e:j'=k
    ·subst e;exact hlt
    ·exact hj j' Oo
   ·rw [show ((16*q+(k+1):Nat):Int)=((16*q+k:Nat):Int)+1 by omega];exact hm.perm List.perm_append_comm
 ·clear hm hm7;rintro D w8 ⟨_,⟨hk,hj⟩,hm⟩;rw [hlen] at hk hj hm;have hm:=hm.perm (List.Perm.cons _ (show (([]:List (Nat × Obj))++R n).Perm (R n) from List.Perm.refl _));rw [eR] at hm;refine zR hm 3 ?_;refine LeaveV.mark (hm.get mh) fun w9 hw=>?_;have hm:=hm.setO (i:=0) _ rfl hw;(conv=>whnf);refine ⟨⟨16*q+n,rfl,by omega,fun i hi=>?_,fun hl=>?_⟩,hm.ext⟩
  ·by_cases g:i<16*q
   ·exact hL.ltx_up (j:=16*q) Oo hq16 (hk2 q Oo)
   ·obtain ⟨j,rfl⟩:∃ j,i=16*q+j:=⟨i-16*q,by omega⟩
    exact hj j Oo
  ·have hN:16*q+n=16*(q+1):=by omega
   rw [hN] at hl ⊢;exact hk3 (q+1) znr hl
 ·clear hm hm7;rintro D c k w8 hkl ⟨_,⟨rfl,hk,hj,hx⟩,hm⟩;rw [eR] at hm;refine zR hm 3 ?_;refine LeaveV.mark (hm.get mh) fun w9 hw=>?_;have hm:=hm.setO (i:=0) _ rfl hw;(conv=>whnf);refine ⟨⟨16*q+k,rfl,by omega,fun i hi=>?_,fun hl=>?_⟩,hm.ext⟩
  ·by_cases g:i<16*q
   ·exact hL.ltx_up (j:=16*q) Oo hq16 (hk2 q Oo)
   ·obtain ⟨j,rfl⟩:∃ j,i=16*q+j:=⟨i-16*q,by omega⟩
    exact hj j Oo
  ·exact hx
theorem qsr (L:List LB) (hL:DOk L) (b:Nat) (s:ByteArray) (w:World) (hD:DictAt w b (qk L)) :
  Gv Tryz.prog 176 [pp b,.string s] w fun r w'=>(∃ N:Nat,AhN L s N∧r=.tuple #[ii N,.bool (decide (N<L.length∧(⟨(tx L N).toArray⟩:ByteArray)=s))])∧Ext w w':=by
 have hn:=hL.n;refine ze Tryz.func176 Tryz.ntmps176 ?_;refine znm (Mem.nil w) fun sb w1 hm=>zw ?_;refine zcv (qws L hL b sb s w1 (hD.ext hm.ext) (by rw [qa (hm.get mh)];rfl)) ?_;rintro r w2 ⟨⟨N,rfl,hN⟩,he2⟩;have hm:=hm.call he2;have hle:=hN.le;(conv=>whnf);refine zcv (qsj b (qk L) N w2 (hD.ext hm.ext) Oo) ?_;rintro r w3 ⟨rfl,he3⟩;have hm:=hm.call he3
 by_cases hlt:N<L.length
 ·have hg:qgs (qk L) N=.tuple #[.string ⟨(tx L N).toArray⟩,.bool true]:=by rw [qgs,hL.eGet hlt]
  rw [hg];(conv=>whnf);refine zy ?_;refine zv ?_;refine zr hm.drew 0 ?_;refine zv ?_;refine ⟨⟨N,hN,?_⟩,hm.drew.ext⟩;have e:seq ⟨(tx L N).toArray⟩ s=decide (N<L.length∧(⟨(tx L N).toArray⟩:ByteArray)=s):=by
   cases hq:seq ⟨(tx L N).toArray⟩ s
   ·exact (decide_eq_false fun g=>qou.1 hq g.2).symm
   ·exact (decide_eq_true ⟨hlt,qa9.1 hq⟩).symm
  rw [e]
 ·have hg:qgs (qk L) N=.tuple #[.string ⟨#[]⟩,.bool false]:=by rw [qgs,dGet,if_neg (by rw [hL.eN];exact hlt)]
  rw [hg];(conv=>whnf);refine zy ?_;refine zv ?_;refine ⟨⟨N,hN,?_⟩,hm.drew.ext⟩;have e:decide (N<L.length∧(⟨(tx L N).toArray⟩:ByteArray)=s)=false:=decide_eq_false fun g=>hlt g.1
  rw [e]
theorem AhN.at {L:List LB} (h:DOk L) {s:ByteArray} {N j:Nat} (hN:AhN L s N) (hj:j<L.length) (he:(⟨(tx L j).toArray⟩:ByteArray)=s):N=j:=by
 rcases Nat.lt_trichotomy N j with g|g|g
 ·have h1:=hN.ge Oo;have h2:=h.up g hj
  grind [ltx]
 ·exact g
 ·have h1:=hN.lt j g
  grind [ltx,qhh]
section
variable {T:List TM} (h:VOk T) (hr:RiseT T) (hk:∀ t∈T,1≤t.kind∧t.kind≤3)
include h hr hk
theorem VOk.num {k j:Nat} {t:TM} (hk3:k<3) (hj:(ofK T k)[j]?=some t):noT T t=vTot (vocB T) k+1+j:=by
 have e:=qqi hr hk;have t1:=h.tot1;have t2:=h.tot2;have t0:vTot (vocB T) 0=0:=rfl;have hl:=(List.getElem?_eq_some_iff.1 hj).1;have hki:=qf3 (zmg hj);obtain ⟨A,eA⟩:∃ A,A=ofK T 0:=⟨_,rfl⟩
 obtain ⟨B,eB⟩:∃ B,B=ofK T 1:=⟨_,rfl⟩
 obtain ⟨C,eC⟩:∃ C,C=ofK T 2:=⟨_,rfl⟩
 have hG:∀ m:Nat,T[m]?=(A++(B++C))[m]?:=fun m=>by grind
 have hT:T[vTot (vocB T) k+j]?=some t:=by
  rw [hG]
  rcases (show k=0∨k=1∨k=2 by omega) with rfl|rfl|rfl
  all_goals grind
 grind [qku]
theorem VOk.find {k N:Nat} {t:TM} (hk3:k<3) (ht:t∈T) (hkt:t.kind=((k+1:Nat):Int)) (hN:AhN (secE T k) ⟨(qae t).toArray⟩ N):N<(secE T k).length∧(⟨(tx (secE T k) N).toArray⟩:ByteArray)=⟨(qae t).toArray⟩∧noT T t=vTot (vocB T) k+1+N:=by
 have hm:t∈ofK T k:=List.mem_filter.2 ⟨ht,by simpa using hkt⟩;obtain ⟨j,hj⟩:=List.mem_iff_getElem?.1 hm;have hl:=(List.getElem?_eq_some_iff.1 hj).1;have hx:tx (secE T k) j=qae t:=by grind [tx,qbr]
 have hlen:(secE T k).length=(ofK T k).length:=by grind [qbr]
 obtain rfl:=hN.at (h.d k hk3) (j:=j) Oo (by rw [hx])
 exact ⟨by omega,by rw [hx],h.num hr hk hk3 hj⟩
end
end Go.Proofs.YtccmcfpmknpccaaGreatDoor
