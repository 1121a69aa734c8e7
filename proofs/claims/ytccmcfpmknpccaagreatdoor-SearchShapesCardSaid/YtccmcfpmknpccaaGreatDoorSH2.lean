/- Lemmas and contracts of functions on the way to the law's card (part 2 of 16). -/
import Derived.Test.YtccmcfpmknpccaaGreatDoorSH1
import Derived.Orders
import Derived.Shelf.Strings.Builder1
import Derived.Shelf.Strings.Builder2
import Derived.Shelf.Small.Utf8
import Derived.Shelf.Small.Bits
import Derived.Shelf.Small.Strs
import Derived.Shelf.Strings.BuilderF
import Derived.Shelf.Strings.BuilderK
import Derived.Shelf.Utf8.RuneCount
import Derived.Shelf.Strconv.Itoa0
import Derived.Shelf.Strings.Search1
import Derived.Shelf.Strings.Search2
import Derived.Shelf.Strings.Search3
import Derived.Shelf.Strings.Cut
import Derived.Shelf.Strings.Count
import Derived.Shelf.LaysM
import Derived.Shelf.Strings.Shaped
import Derived.Shelf.Strings.Split
import Derived.Shelf.Strings.Replace
import Derived.Shelf.Strings.SplitShaped
import Derived.Shelf.Unicode.Decode
import Derived.Shelf.Strings.Runes
import Derived.Shelf.Strings.RuneCount
import Derived.Shelf.Strings.Explode
import Derived.Shelf.Unicode.DecodeSlow
import Derived.Shelf.Unicode.DecodeAny
import Derived.Shelf.Slices.Turned
import Derived.Ground.Names2Prog
import Derived.Shelf.Slices.SearchI
import Derived.Test.YtccmcfpmknpccaaGreatDoorProg
namespace Go.Proofs.YtccmcfpmknpccaaGreatDoor
open Go.RowKit
namespace V
def q7b (e:Edge):Bool:=
 match e.ground with
 | .textOnly _ | .gcOnly _=>false
 | _=>true
theorem qdh (e:Edge):Region.binds .any e=q7b e:=by
 rfl
def qoh:List Edge→List Nat
 | []=>[]
 | e::l=>bif q7b e then e.on::qoh l else qoh l
def qay (o:Oper):List Nat:=qoh o.after.toList
theorem qb4 {l:List Edge} {k:Nat}:k∈qoh l↔∃ e∈l,q7b e=true∧e.on=k:=by
 induction l<;>grind [qoh]
theorem qca (ρ:Nat→Value) (d:Nat) (v:Value):upd ρ d v d=v:=by simp [upd]
theorem qaw (ρ:Nat→Value) (d t:Nat) (v:Value) (h:t≠d):upd ρ d v t=ρ t:=by
 grind [Nat.eq_of_beq_eq_true,upd]
def qco (P:Program) (ops:List Oper) (o:Oper) (ρ:Nat→Value) (w:World) (K:Value→World→Prop):Prop:=
 match o.guard with
 | none=>opV P o ρ w K
 | some (j,want)=>
  match getL ops j with
  | none=>K undef w
  | some oj=>match oj.dst with
   | none=>K undef w
   | some d=>
    match ρ d with
    | .bool b=>Tst b
      (match want with
       | true=>opV P o ρ w K
       | false=>K undef w)
      (match want with
       | true=>K undef w
       | false=>opV P o ρ w K)
    | _=>K undef w
structure StepD (A:(Value→World→Prop)→Prop) (K:Option Value→(Value→World→Prop)→Prop):Prop where
 h:(∃ v,A (fun u _=>u=v)∧K (some v) (fun u _=>u=v))∨(∃ φ:Value→World→Prop,(∀ v w w',φ v w→Ext w w'→φ v w')∧A φ∧K none φ)
theorem StepD.still {A:(Value→World→Prop)→Prop} {K:Option Value→(Value→World→Prop)→Prop} (v:Value) (h:A (fun u _=>u=v)) (hk:K (some v) (fun u _=>u=v)):StepD A K:=⟨(by grind)⟩
theorem StepD.of {A:(Value→World→Prop)→Prop} {K:Option Value→(Value→World→Prop)→Prop} (φ:Value→World→Prop) (hs:∀ v w w',φ v w→Ext w w'→φ v w') (h:A φ) (hk:K none φ):StepD A K:=⟨(by grind)⟩
structure StepG (A:Option Value→Prop) (K:Option Value→Prop):Prop where
 h:∃ v,A v∧K v
theorem StepG.of {A K:Option Value→Prop} (v:Value) (h:A (some v)) (hk:K (some v)):StepG A K:=⟨some v,h,hk⟩
theorem StepG.any {A K:Option Value→Prop} (h:A none) (hk:K none):StepG A K:=⟨none,h,hk⟩
structure StepI (A:Value→Prop) (K:Value→Prop):Prop where
 h:∃ v,A v∧K v
theorem StepI.of {A K:Value→Prop} (v:Value) (h:A v) (hk:K v):StepI A K:=⟨v,h,hk⟩
def updO (ρ:Nat→Value):Option Tmp→Option Value→Nat→Value
 | some d,some v=>upd ρ d v
 | _,_=>ρ
abbrev EL (α:Type):=List (Nat × Nat × α)
def qfc {α:Type}:EL α→Nat→Option (Nat × α)
 | [],_=>none
 | (i,x)::es,k=>bif Nat.beq i k then some x else qfc es k
def allA (es:EL (Value→World→Prop)):List Nat→(Nat→Value)→World→((Nat→Value)→Prop)→Prop
 | [],ρ,_,K=>K ρ
 | k::ks,ρ,w,K=>
  match qfc es k with
  | some (d,φ)=>∀ v,φ v w→allA es ks (upd ρ d v) w K
  | none=>allA es ks ρ w K
def idxs {α:Type}:EL α→List Nat
 | []=>[]
 | (i,_)::es=>i::idxs es
def qj9 {α:Type} (k:Nat) (x:α) (es:EL α):Option Tmp→Option Value→EL α
 | some d,none=>(k,d,x)::es
 | _,_=>es
def regD (P:Program) (ops:List Oper) (w0:World) (Q:(Nat→Value)→World→Prop):List Oper→Nat→EL (Value→World→Prop)→(Nat→Value)→Prop
 | [],_,es,ρ=>∀ w,Ext w0 w→allA es (idxs es) ρ w fun ρ'=>Q ρ' w
 | o::l,k,es,ρ=>StepD
   (fun φ=>∀ w,Ext w0 w→allA es (qay o) ρ w fun ρ'=>qco P ops o ρ' w fun v w'=>Ext w w'∧φ v w')
   (fun v φ=>regD P ops w0 Q l (k+1) (qj9 k φ es o.dst v) (updO ρ o.dst v))
def setS (S:Nat→Bool) (k:Nat):Nat→Bool:=fun j=>bif Nat.beq j k then true else S j
def isG:Option Value→Value→Prop
 | some c,x=>x=c
 | none,_=>True
def frG:EL Unit→(Nat→Value)→(Nat→Value)→(Nat→Value)
 | [],_,ρ=>ρ
 | (k,d,_)::es,vals,ρ=>frG es vals (upd ρ d (vals k))
def regG (P:Program) (ops:List Oper) (I:(Nat→Bool)→(Nat→Value)→World→Prop) (Q:(Nat→Value)→World→Prop):List Oper→Nat→EL Unit→(Nat→Value)→Prop
 | [],_,es,ρ=>∀ vals w,I (fun _=>true) vals w→Q (frG es vals ρ) w
 | o::l,k,es,ρ=>StepG (fun v=>∀ S vals w,S k=false→(∀ j∈qay o,S j=true)→I S vals w→qco P ops o (frG es vals ρ) w fun v' w'=>isG v v'∧I (setS S k) (upd vals k v') w')
   (fun v=>regG P ops I Q l (k+1) (qj9 k () es o.dst v) (updO ρ o.dst v))
def regI (P:Program) (ops:List Oper) (I:(Nat→Bool)→World→Prop) (Q:(Nat→Value)→World→Prop):List Oper→Nat→(Nat→Value)→Prop
 | [],_,ρ=>∀ w,I (fun _=>true) w→Q ρ w
 | o::l,k,ρ=>StepI (fun v=>∀ S w,S k=false→(∀ j∈qay o,S j=true)→I S w→qco P ops o ρ w fun v' w'=>v'=v∧I (setS S k) w')
   (fun v=>regI P ops I Q l (k+1) (updO ρ o.dst (some v)))
def shB (n:Nat) (ops:Array Oper) (j k:Nat) (o ok:Oper):Bool:=
 (qay o).all (fun i=>decide (i<j))&&(match o.dst with|some d=>decide (d<n)|none=>true)&&match ok.dst with
  | some t=>(!(o.looksAt ops).contains t||((qay o).contains k||(qay ok).contains j))&&(k==j||o.dst != some t)
  | none=>true
def qhy (n:Nat) (ops:Array Oper):Bool:=
 Region.noSelect ops&&(List.range ops.size).all fun j=>(List.range ops.size).all fun k=>match ops[j]?,ops[k]? with
  | some o,some ok=>shB n ops j k o ok
  | _,_=>true
structure ShapeW (n:Nat) (ops:Array Oper):Prop where
 sel:Region.noSelect ops=true
 lt:∀ (j:Nat) (o:Oper),ops[j]?=some o→∀ k∈qay o,k<j
 dn:∀ (j:Nat) (o:Oper),ops[j]?=some o→∀ d,o.dst=some d→d<n
 look:∀ (j:Nat) (o:Oper) (k:Nat) (ok:Oper) (t:Nat),ops[j]?=some o→ops[k]?=some ok→ok.dst=some t→t∈o.looksAt ops→k∈qay o∨j∈qay ok
 uniq:∀ (j:Nat) (o:Oper) (k:Nat) (ok:Oper) (t:Nat),ops[j]?=some o→ops[k]?=some ok→ok.dst=some t→o.dst=some t→k=j
theorem qoy {n:Nat} {ops:Array Oper} (h:qhy n ops=true):ShapeW n ops:=by
 obtain ⟨h1,h2⟩:=Bool.and_eq_true_iff.1 h;have key:∀ {j k:Nat} {o ok:Oper},ops[j]?=some o→ops[k]?=some ok→shB n ops j k o ok=true:=fun {j k o ok} hj hk=>by
  have:=List.all_eq_true.1 (List.all_eq_true.1 h2 j (List.mem_range.2 (Array.getElem?_eq_some_iff.1 hj).1)) k (by grind)
  simp_all
 refine ⟨h1,fun j o hj k hk=>?_,fun j o hj d hd=>?_,fun j o k ok t hj hk ht hl=>?_,fun j o k ok t hj hk ht ho=>?_⟩
 all_goals grind [shB]
section
variable {P:Program} {n:Nat} {ops:Array Oper} {ρ:Nat→Value}
theorem q8w {o:Oper} {ρ1 ρ2:Nat→Value} (hsel:∀ cs b,o.op≠.select cs b) (h:∀ t∈o.looksAt ops,ρ1 t=ρ2 t):execOp (ev ρ1) o=execOp (ev ρ2) o:=by
 refine execOp_congr o hsel fun x hx=>?_;cases x with
 | tmp t=>exact h t (List.mem_append_left _ (List.mem_filterMap.2 ⟨.tmp t,by simpa using hx,rfl⟩))
 | const v=>rfl
 | global g=>rfl
 | func f=>rfl
theorem qmb {o oj:Oper} {j d:Nat} {want:Bool} (hg:o.guard=some (j,want)) (hj:ops[j]?=some oj) (hd:oj.dst=some d):d∈o.looksAt ops:=by
 refine List.mem_append_right _ ?_
 simp_all
theorem qyd {o:Oper} {ρ' ρa:Nat→Value} {a:Act} {w:World} {K:Value→World→Prop} {K2:Act→World→Prop} {Q':Exit→Act→World→Prop} {i:Nat} (hi:ops[i]?=some o) (hS:ShapeW n ops)
  (ha:St n ρa a) (hag:∀ t∈o.looksAt ops,ρ' t=ρa t) (h:qco P ops.toList o ρ' w K) (hk:∀ v w',K v w'→K2 (a.put o.dst v) w'):wpOp P ops Q' i K2 a w:=by
 have hsel:=Region.noSelect_spec hS.sel i o;have run:opV P o ρ' w K→Region.wanted o (yielded ops a.tmps)=true→wpOp P ops Q' i K2 a w:=fun h hw=>by
  unfold wpOp;rw [hi];simp only [hw,if_true];have hok:=qzx h;rw [q8w (ops:=ops) (by grind) hag] at hok;exact .inl (OpOk.wp ha.eval hok hk)
 have skip:K undef w→Region.wanted o (yielded ops a.tmps)=false→wpOp P ops Q' i K2 a w:=(by grind [wpOp])
 unfold qco at h
 split at h
 ·grind [Region.wanted]
 ·rename_i j want hg
  split at h
  ·grind [qax,Region.wanted,yielded]
  ·rename_i oj hj
   rw [qax] at hj;have hoj:ops[j]?=some oj:=by simpa using hj
   split at h
   ·grind [Region.wanted,yielded]
   ·rename_i d hd
    have hy:=ha.yield (by rw [qax];exact hj) hd (hS.dn j oj hoj d hd);rw [Array.toArray_toList] at hy;rw [hag d (qmb hg hoj hd)] at h
    split at h
    ·rename_i b hb
     rw [hb] at hy;cases b
     ·have h:=h.f rfl
      grind [Region.wanted]
     ·have h:=h.t rfl
      grind [Region.wanted]
    grind [Region.wanted]
theorem qd1 (m j:Nat):(Array.replicate m false).getD j false=false:=by
 rcases Nat.lt_or_ge j m with h|h<;>simp [h]
theorem countP_set (listed:Array Bool) (i:Nat) (hi:listed.getD i true=false):(listed.setIfInBounds i true).toList.count false+1=listed.toList.count false:=by
 have hlt:i<listed.toList.length:=by
  grind
 have hv:listed.toList[i]=false:=by
  have h':i<listed.size:=by omega
  simp_all
 grind
theorem qol {ops:Array Oper} {listed:Array Bool} {md:Region.Mode} (h:∀ k,k<ops.size→listed.getD k true=true):Region.ready md ops listed=[]:=by
 rw [List.eq_nil_iff_forall_not_mem]
 grind [mem_ready]
theorem qvq (hS:ShapeW n ops) {listed:Array Bool} (hsz:listed.size=ops.size) (hr:Region.ready .any ops listed=[]) (k:Nat) (hk:k<ops.size):listed.getD k true=true:=by
 induction k using Nat.strongRecOn with
 | _ k ih=>
  cases hv:listed.getD k true with
  | true=>rfl
  | false=>
   have hmem:k∈Region.ready .any ops listed:=mem_ready.2 ⟨hv,ops[k],Js,fun e he hb=>by
    rw [qdh] at hb;have h1:=hS.lt k _ (Array.getElem?_eq_getElem hk) _ (qb4.2 ⟨e,by simpa using he,hb,rfl⟩)
    grind⟩
   simp_all
theorem qmt {listed:Array Bool} {i:Nat}:(fun j=>(listed.setIfInBounds i true).getD j true)=setS (fun j=>listed.getD j true) i:=by
 funext j
 unfold setS
 by_cases hji:j=i
 ·simp_all
 ·have:Nat.beq j i=false:=(by grind [Nat.eq_of_beq_eq_true])
  rw [this,getD_set_ne true Oo];rfl
theorem qdc {S:Nat→Bool} {i k:Nat} (h:setS S i k=true):k=i∨(k≠i∧S k=true):=by
 grind [Nat.eq_of_beq_eq_true,setS]
def frE:List (Nat × Nat × Option Value)→(Nat→Value)→(Nat→Value)→(Nat→Value)
 | [],_,ρ=>ρ
 | (k,d,v)::es,vals,ρ=>frE es vals (upd ρ d (v.getD (vals k)))
theorem qss {vals:Nat→Value} {t:Nat} {x:Value}:∀ (es:List (Nat × Nat × Option Value)) (ρ:Nat→Value),(∀ k v,(k,t,v)∈es→v.getD (vals k)=x)→(ρ t=x∨∃ k v,(k,t,v)∈es)→frE es vals ρ t=x
 | [],ρ,_,h=>h.elim id Js
 | (k,d,v)::es,ρ,hx,h=>by
  refine qss es _ (by grind) ?_
  grind [qca,qaw]
theorem qbj {vals:Nat→Value}:∀ (a b:List (Nat × Nat × Option Value)) (ρ:Nat→Value),frE (a++b) vals ρ=frE b vals (frE a vals ρ)
 | [],_,_=>rfl
 | _::a,b,_=>qbj a b _
structure FrI (ops:Array Oper) (ρ:Nat→Value) (E:Nat→Option Value) (S:Nat→Bool) (vals ρa:Nat→Value):Prop where
 at_:∀ k o d,ops[k]?=some o→o.dst=some d→S k=true→ρa d=vals k
 miss:∀ t,(∀ k o,ops[k]?=some o→S k=true→o.dst≠some t)→ρa t=ρ t
 still:∀ k o c,ops[k]?=some o→E k=some c→S k=true→vals k=c
structure Kn (ops:Array Oper) (E:Nat→Option Value) (i:Nat) (pr:Nat→Prop) (es:List (Nat × Nat × Option Value)):Prop where
 in_:∀ k d v,(k,d,v)∈es→k<i∧E k=v∧∃ o,ops[k]?=some o∧o.dst=some d
 all:∀ k o d,k<i→pr k→ops[k]?=some o→o.dst=some d→(k,d,E k)∈es
theorem Kn.frame {E:Nat→Option Value} {i:Nat} {pr:Nat→Prop} {es:List (Nat × Nat × Option Value)} {S:Nat→Bool} {vals ρa:Nat→Value} (h:Kn ops E i pr es) (hS:ShapeW n ops) (F:FrI ops ρ E S vals ρa) {t:Nat}
  (h1:∀ k o,ops[k]?=some o→o.dst=some t→(k<i→S k=true∧pr k)∧(S k=true→k<i)):frE es vals ρ t=ρa t:=by
 by_cases hx:∃ k o,ops[k]?=some o∧o.dst=some t∧S k=true
 ·obtain ⟨k,o,ho,hd,hk⟩:=hx;have hi:=(h1 k o ho hd).2 hk;rw [F.at_ k o t ho hd hk];refine qss _ _ (fun k' v hm=>?_) (.inr ⟨k,_,h.all k o t hi (by grind) ho hd⟩);obtain ⟨_,he,o',ho',hd'⟩:=h.in_ _ _ _ hm;obtain rfl:=hS.uniq k o k' o' t ho ho' hd' hd;cases v with
  | none=>rfl
  | some c=>exact (F.still k' o c ho he hk).symm
 ·rw [F.miss t (by grind)];refine qss _ _ (fun k v hm=>?_) (.inl rfl);obtain ⟨hi,_,o,ho,hd⟩:=h.in_ _ _ _ hm
  grind
def qaa7 (P:Program) (ops:Array Oper) (E:Nat→Option Value) (I:(Nat→Bool)→(Nat→Value)→World→Prop) (ρ:Nat→Value) (i:Nat) (o:Oper):Prop:=
 ∃ es,Kn ops E i (·∈qay o) es∧∀ S vals w,S i=false→(∀ j∈qay o,S j=true)→I S vals w→∃ R:Value→World→Prop,qco P ops.toList o (frE es vals ρ) w R∧∀ v' w',R v' w'→isG (E i) v'∧I (setS S i) (upd vals i v') w'
theorem q14 {E:Nat→Option Value} {I:(Nat→Bool)→(Nat→Value)→World→Prop} {Q:(Nat→Value)→World→Prop} (hS:ShapeW n ops)
  (hE:∀ i o,ops[i]?=some o→qaa7 P ops E I ρ i o) (hF:∃ es,Kn ops E ops.size (fun _=>True) es∧∀ vals w,I (fun _=>true) vals w→Q (frE es vals ρ) w) :
  ∀ (fuel:Nat) (L:Array Bool) (vals ρa:Nat→Value) (a:Act) (w:World),L.toList.count false≤fuel→L.size=ops.size→(∀ k o,ops[k]?=some o→L.getD k true=true→∀ j∈qay o,L.getD j true=true)→
  FrI ops ρ E (fun j=>L.getD j true) vals ρa→St n ρa a→I (fun j=>L.getD j true) vals w→wpAny P .any ops (fun e a' w'=>e=.normal∧∃ ρ',St n ρ' a'∧Q ρ' w') fuel L a w:=by
 obtain ⟨ef,hA,hF⟩:=hF;have final:∀ (L:Array Bool) (vals ρa:Nat→Value) (a:Act) (w:World),(∀ k,k<ops.size→L.getD k true=true)→L.size=ops.size→FrI ops ρ E (fun j=>L.getD j true) vals ρa→St n ρa a→I (fun j=>L.getD j true) vals w→
   (Exit.normal=.normal∧∃ ρ',St n ρ' a∧Q ρ' w):=fun L vals ρa a w hall hsz F ha hI=>by
  have hT:(fun j=>L.getD j true)=fun _=>true:=by
   grind
  have he:frE ef vals ρ=ρa:=funext fun t=>hA.frame hS F (by grind)
  grind
 intro fuel
 induction fuel with
 | zero=>
  intro L vals ρa a w hc hsz _ F ha hI;have hall:∀ k,k<ops.size→L.getD k true=true:=fun k hk=>by
   have h1:=List.count_eq_zero.1 (show L.toList.count false=0 by omega);have hk':k<L.size:=by omega
   cases hv:L[k] with
   | true=>simp [hk',hv]
   | false=>grind
  exact ⟨qol hall,final L vals ρa a w hall hsz F ha hI⟩
 | succ fuel ih=>
  intro L vals ρa a w hc hsz hdc F ha hI;refine ⟨(by grind [qvq]),fun i hi=>?_⟩;obtain ⟨hun,o,ho,hall⟩:=mem_ready.1 hi;have hpl:∀ k∈qay o,L.getD k true=true:=fun k hk=>by
   obtain ⟨e,he,hb,hon⟩:=qb4.1 hk
   grind [qdh]
  obtain ⟨es,hK,hsp⟩:=hE i o ho;obtain ⟨R,h,hR⟩:=hsp _ vals w hun hpl hI;refine qyd ho hS ha (fun t ht=>hK.frame hS F fun k ok hk hd=>?_) h fun v' w' hr=>?_
  ·rcases hS.look i o k ok t ho hk hd ht with h|h
   ·exact ⟨(by grind),fun _=>hS.lt i o ho k h⟩
   ·have:=hS.lt k ok hk i h
    grind
  ·obtain ⟨hv,hI'⟩:=hR v' w' hr;rw [← qmt] at hI';refine ih _ (upd vals i v') (match o.dst with|some d=>upd ρa d v' | none=>ρa) _ _ (by grind [countP_set]) (by simp [hsz]) ?_ ?_ ?_ hI'
   ·have hup:∀ j,L.getD j true=true→(L.setIfInBounds i true).getD j true=true:=fun j hj=>by
     rw [congrFun qmt j,setS,hj];simp
    intro k ok hk hl j hj;rw [congrFun qmt k] at hl
    grind [qdc]
   ·rw [qmt];refine ⟨fun k ok d hk hd hs=>?_,fun t ht=>?_,fun k ok c hk he hs=>?_⟩
    ·rcases qdc hs with rfl|⟨hki,hs⟩
     ·obtain rfl:=Option.some.inj (ho.symm.trans hk)
      simp_all [qca]
     ·rw [qaw _ _ _ _ hki,← F.at_ k ok d hk hd hs];cases hdo:o.dst with
      | none=>rfl
      | some d'=>exact qaw _ _ _ _ fun e=>hki (hS.uniq i o k ok d ho hk hd (e ▸ hdo))
    ·rw [← F.miss t (by grind [setS])];cases hdo:o.dst with
     | none=>rfl
     | some d'=>exact qaw _ _ _ _ fun e=>ht i o ho (by simp [setS]) (e ▸ hdo)
    ·rcases qdc hs with rfl|⟨hki,hs⟩
     ·rw [he] at hv;rw [qca];exact hv
     ·rw [qaw _ _ _ _ hki];exact F.still k ok c hk he hs
   ·cases hdd:o.dst with
    | none=>exact ha
    | some d=>exact ha.put (hS.dn i o ho d hdd) v'
end
structure AnyV (P:Program) (n:Nat) (ops:Array Oper) (R:(Nat→Value)→World→Prop) (ρ:Nat→Value) (w:World):Prop where
 h:∀ a,St n ρ a→wpAny P .any ops (fun e a' w'=>e=.normal∧∃ ρ',St n ρ' a'∧R ρ' w') ops.size (Array.replicate ops.size false) a w.drew
theorem AnyV.draw {P:Program} {n id:Nat} {ops:Array Oper} {Q:Exit→(Nat→Value)→World→Prop} {ρ:Nat→Value} {w:World} (hm:P.follows .mixedOrders=true) (h:AnyV P n ops (fun ρ' w'=>Q .normal ρ' w') ρ w):DrawV P n id ops Q ρ w:=
 ⟨fun a ha=>Code.wp_mono (by grind) (wp_region_any hm (h.h a ha))⟩
section
variable {P:Program} {n:Nat} {ops:Array Oper} {R:(Nat→Value)→World→Prop} {ρ:Nat→Value} {w:World}
theorem AnyV.core {E:Nat→Option Value} {I:(Nat→Bool)→(Nat→Value)→World→Prop} (hB:qhy n ops=true) (h0:∀ vals,I (fun j=>Nat.ble ops.size j) vals w.drew)
  (hE:∀ i o,ops[i]?=some o→qaa7 P ops E I ρ i o) (hF:∃ es,Kn ops E ops.size (fun _=>True) es∧∀ vals w,I (fun _=>true) vals w→R (frE es vals ρ) w):AnyV P n ops R ρ w:=by
 have e:(fun j=>(Array.replicate ops.size false).getD j true)=fun j=>Nat.ble ops.size j:=by
  funext j
  rcases Nat.lt_or_ge j ops.size with hj|hj
  ·have h2:Nat.ble ops.size j=false:=Bool.eq_false_iff.2 fun e=>by have:=Nat.le_of_ble_eq_true e;omega
   simp [hj,h2]
  simp_all
 have no:∀ {k o},ops[k]?=some o→Nat.ble ops.size k=true→False:=(by grind [Nat.le_of_ble_eq_true])
 refine ⟨fun a ha=>q14 (qoy hB) hE hF _ _ (fun _=>undef) ρ a _ Js Js (fun k o ho hk=>?_) ?_ ha ?_⟩
 ·simp_all
 ·rw [e];exact ⟨(by grind),fun _ _=>rfl,(by grind)⟩
 simp_all
def regX {α:Type} (A:Nat→Oper→EL α→(Nat→Value)→Option Value→α→Prop) (B:EL α→(Nat→Value)→Prop):List Oper→Nat→EL α→(Nat→Value)→Prop
 | [],_,es,ρ=>B es ρ
 | o::l,k,es,ρ=>∃ v x,A k o es ρ v x∧regX A B l (k+1) (qj9 k x es o.dst v) (updO ρ o.dst v)
structure Sofar {α:Type} (ops:Array Oper) (E:Nat→Option Value) (X:Nat→α) (k:Nat) (es:EL α) (st:List (Nat × Nat × Option Value)):Prop where
 st:∀ j d v,(j,d,v)∈st↔j<k∧E j=v∧v≠none∧∃ o,ops[j]?=some o∧o.dst=some d
 es:∀ j d x,(j,d,x)∈es↔j<k∧E j=none∧X j=x∧∃ o,ops[j]?=some o∧o.dst=some d
section
variable {α:Type}
theorem qms {A:Nat→Oper→EL α→(Nat→Value)→Option Value→α→Prop} {B:EL α→(Nat→Value)→Prop}:∀ (l:List Oper) (k:Nat) (es:EL α) (ρk:Nat→Value) (E:Nat→Option Value) (X:Nat→α) (st:List (Nat × Nat × Option Value)),
  (∀ (j:Nat) (o:Oper),l[j]?=some o→ops[k+j]?=some o)→(∀ vals,ρk=frE st vals ρ)→Sofar ops E X k es st→regX A B l k es ρk→∃ E' X',(∀ j,j<k∨k+l.length≤j→E' j=E j∧X' j=X j)∧
   (∀ i o,k≤i→i<k+l.length→ops[i]?=some o→∃ es st ρi,(∀ vals,ρi=frE st vals ρ)∧Sofar ops E' X' i es st∧A i o es ρi (E' i) (X' i))∧
   ∃ es st ρi,(∀ vals,ρi=frE st vals ρ)∧Sofar ops E' X' (k+l.length) es st∧B es ρi
 | [],k,es,ρk,E,X,st,_,hρ,hs,h=>⟨E,X,Js,(by grind),es,st,ρk,hρ,hs,h⟩
 | o::l,k,es,ρk,E,X,st,hl,hρ,hs,⟨v,x,hA,h⟩=>by
  have ho:ops[k]?=some o:=hl 0 o rfl;have hl':∀ (j:Nat) (o:Oper),l[j]?=some o→ops[k+1+j]?=some o:=fun j o h=>by rw [show k+1+j=k+(j+1) by omega];simp_all
  obtain ⟨E1,hE,hEk⟩:∃ E1:Nat→Option Value,(∀ j,j≠k→E1 j=E j)∧E1 k=v:=⟨fun j=>if j=k then v else E j,(by grind),if_pos rfl⟩
  obtain ⟨X1,hX,hXk⟩:∃ X1:Nat→α,(∀ j,j≠k→X1 j=X j)∧X1 k=x:=⟨fun j=>if j=k then x else X j,(by grind),if_pos rfl⟩
  have old:∀ {E':Nat→Option Value} {X':Nat→α},(∀ j,j<k→E' j=E j∧X' j=X j)→Sofar ops E' X' k es st:=fun h=>⟨fun j d v=>(hs.st j d v).trans (by grind),fun j d x=>(hs.es j d x).trans (by grind)⟩
  have hs1:=old fun j hj=>⟨hE j (Nat.ne_of_lt hj),hX j (Nat.ne_of_lt hj)⟩
  obtain ⟨st1,h1,h2⟩:∃ st1,(∀ vals,updO ρk o.dst v=frE st1 vals ρ)∧Sofar ops E1 X1 (k+1) (qj9 k x es o.dst v) st1:=by
   cases hd:o.dst with
   | none=>exact ⟨st,hρ,⟨by grind [hs1.st],by grind [hs1.es,qj9]⟩⟩
   | some d=>
    cases v with
    | none=>exact ⟨st,hρ,⟨by grind [hs1.st],by grind [hs1.es,qj9]⟩⟩
    | some c=>exact ⟨st++[(k,d,some c)],fun vals=>by rw [qbj,← hρ];rfl,⟨by grind [hs1.st],by grind [hs1.es,qj9]⟩⟩
  obtain ⟨E',X',k1,k2,k3⟩:=qms l (k+1) _ _ E1 X1 st1 hl' h1 h2 h;have hln:k+(o::l).length=k+1+l.length:=by grind
  rw [hln];have k4:∀ j,j<k∨k+1+l.length≤j→E' j=E j∧X' j=X j:=(by grind)
  refine ⟨E',X',k4,fun i o' hi hi2 ho'=>?_,k3⟩
  by_cases e:i=k
  ·subst e;obtain rfl:=Option.some.inj (ho.symm.trans ho');refine ⟨es,st,ρk,hρ,(by grind),?_⟩
   simp_all
  grind
theorem q0h {A:Nat→Oper→EL α→(Nat→Value)→Option Value→α→Prop} {B:EL α→(Nat→Value)→Prop} (x:α) (h:regX A B ops.toList 0 [] ρ):∃ E X,(∀ i o,ops[i]?=some o→∃ es st ρi,(∀ vals,ρi=frE st vals ρ)∧Sofar ops E X i es st∧A i o es ρi (E i) (X i))∧
  ∃ es st ρi,(∀ vals,ρi=frE st vals ρ)∧Sofar ops E X ops.size es st∧B es ρi:=by
 obtain ⟨E,X,_,h1,h2⟩:=qms (ops:=ops) (ρ:=ρ) _ 0 [] ρ (fun _=>none) (fun _=>x) [] Js (fun _=>rfl) ⟨by simp,by simp⟩ h
 grind
theorem qcp {es:EL α} {k:Nat} {x:Nat × α} (h:qfc es k=some x):(k,x)∈es:=by
 induction es<;>grind [qfc,Nat.eq_of_beq_eq_true]
theorem qg2 {es:EL α} {k:Nat} {x:Nat × α} (h:(k,x)∈es):k∈idxs es∧∃ x,qfc es k=some x:=by
 induction es with
 | nil=>cases h
 | cons y es ih=>
  obtain ⟨i,y⟩:=y;simp only [qfc,idxs];cases hb:Nat.beq i k
  ·rcases List.mem_cons.1 h with e|h
   all_goals simp_all
  simp_all
def subA (es:EL α) (ks:List Nat):List (Nat × Nat × Option Value):=ks.filterMap fun k=>(qfc es k).map fun x=>(k,x.1,none)
theorem Sofar.kn {E:Nat→Option Value} {X:Nat→α} {i:Nat} {es:EL α} {st:List (Nat × Nat × Option Value)} (hs:Sofar ops E X i es st) {pr:Nat→Prop} {ks:List Nat} (hk:∀ k x,(k,x)∈es→pr k→k∈ks):Kn ops E i pr (st++subA es ks):=by
 refine ⟨fun k d v hm=>?_,fun k o d hki hp ho hd=>?_⟩
 ·rcases List.mem_append.1 hm with hm|hm
  ·obtain ⟨h1,h2,_,h3⟩:=(hs.st _ _ _).1 hm
   simp_all
  ·obtain ⟨k',_,h⟩:=List.mem_filterMap.1 hm;obtain ⟨x,hx,e⟩:=Option.map_eq_some_iff.1 h;cases e;obtain ⟨h1,h2,_,h3⟩:=(hs.es _ _ _).1 (qcp hx)
   simp_all
 ·cases he:E k with
  | some c=>exact List.mem_append_left _ ((hs.st _ _ _).2 (by grind))
  | none=>
   have hm:=(hs.es k d (X k)).2 (by grind);obtain ⟨x,hx⟩:=(qg2 hm).2;obtain ⟨_,_,_,o',ho',hd'⟩:=(hs.es _ _ _).1 (qcp hx);obtain rfl:=Option.some.inj (ho.symm.trans ho');obtain rfl:=Option.some.inj (hd.symm.trans hd');exact List.mem_append_right _ (List.mem_filterMap.2 ⟨k,hk _ _ hm hp,by rw [hx];rfl⟩)
end
theorem qpl {es:EL (Value→World→Prop)} {vals:Nat→Value} {w:World} {K:(Nat→Value)→Prop}:∀ (ks:List Nat) (ρ:Nat→Value),(∀ k d φ,qfc es k=some (d,φ)→k∈ks→φ (vals k) w)→allA es ks ρ w K→K (frE (subA es ks) vals ρ)
 | [],_,_,h=>h
 | k::ks,ρ,hv,h=>by
  unfold allA at h;have ih:=fun ρ h=>qpl (vals:=vals) (K:=K) ks ρ (fun k' d φ hl hm=>hv k' d φ hl (List.mem_cons_of_mem _ hm)) h
  unfold subA at ih ⊢;cases hk:qfc es k with
  | none=>rw [hk] at h;simpa [hk] using ih _ h
  | some x=>
   rw [hk] at h;have:=ih _ (h _ (hv k _ _ hk (List.mem_cons_self ..)))
   simpa [hk,frE] using this
theorem q0g {P:Program} {ops:List Oper} {w0:World} {Q:(Nat→Value)→World→Prop}:∀ (l:List Oper) (k:Nat) (es:EL (Value→World→Prop)) (ρ:Nat→Value),regD P ops w0 Q l k es ρ→
  regX (fun _ o es ρ v φ=>(∀ u w,φ u w→isG v u)∧(∀ u w w',φ u w→Ext w w'→φ u w')∧∀ w,Ext w0 w→allA es (qay o) ρ w fun ρ'=>qco P ops o ρ' w fun v w'=>Ext w w'∧φ v w') (fun es ρ=>∀ w,Ext w0 w→allA es (idxs es) ρ w fun ρ'=>Q ρ' w) l k es ρ
 | [],_,_,_,h=>h
 | _::l,_,_,_,⟨.inl ⟨v,h1,h2⟩⟩=>⟨some v,_,⟨fun _ _ h=>h,(by grind),h1⟩,q0g l _ _ _ h2⟩
 | _::l,_,_,_,⟨.inr ⟨φ,h0,h1,h2⟩⟩=>⟨none,φ,⟨fun _ _ _=>trivial,h0,h1⟩,q0g l _ _ _ h2⟩
theorem AnyV.free (hB:qhy n ops=true) (h:regD P ops.toList w.drew R ops.toList 0 [] ρ):AnyV P n ops R ρ w:=by
 obtain ⟨E,X,h1,es,st,ρe,hr,hs,h2⟩:=q0h (fun _ _=>True) (q0g _ _ _ _ h);refine .core (E:=E) (I:=fun S vals w1=>Ext w.drew w1∧∀ (k:Nat) (o:Oper),ops[k]?=some o→S k=true→X k (vals k) w1) hB (fun vals=>⟨Ext.refl _,fun k o ho hk=>?_⟩) (fun i o ho=>?_) ⟨_,hs.kn (ks:=idxs es) (by grind [qg2]),fun vals w1 hI=>?_⟩
 ·simp_all
 ·obtain ⟨es,st,ρi,hr,hs,hv,_,h3⟩:=h1 i o ho;refine ⟨_,hs.kn (ks:=qay o) fun _ _ _ h=>h,fun S vals w1 hS hp hI=>⟨fun v w'=>Ext w1 w'∧X i v w',?_,fun v' w' ⟨hx,hφ⟩=>⟨hv _ _ hφ,hI.1.trans hx,fun k o' ho' hk=>?_⟩⟩⟩
  ·rw [qbj,← hr vals];exact qpl _ _ (fun k d φ hl hm=>by
    obtain ⟨_,_,e,o',ho',_⟩:=(hs.es _ _ _).1 (qcp hl)
    grind) (h3 w1 hI.1)
  grind [qdc,qca,qaw]
 ·rw [qbj,← hr vals];exact qpl _ _ (fun k d φ hl _=>by
   obtain ⟨_,_,e,o',ho',_⟩:=(hs.es _ _ _).1 (qcp hl)
   grind) (h2 w1 hI.1)
theorem qx5 {vals:Nat→Value}:∀ (es:EL Unit) (ρ:Nat→Value),frG es vals ρ=frE (es.map fun x=>(x.1,x.2.1,none)) vals ρ
 | [],_=>rfl
 | _::es,_=>qx5 es _
theorem Sofar.knG {E:Nat→Option Value} {X:Nat→Unit} {i:Nat} {es:EL Unit} {st:List (Nat × Nat × Option Value)} (hs:Sofar ops E X i es st) {pr:Nat→Prop}:Kn ops E i pr (st++es.map fun x=>(x.1,x.2.1,none)):=by
 refine ⟨fun k d v hm=>?_,fun k o d hki hp ho hd=>?_⟩
 ·rcases List.mem_append.1 hm with hm|hm
  ·obtain ⟨h1,h2,_,h3⟩:=(hs.st _ _ _).1 hm
   simp_all
  ·obtain ⟨x,hx,e⟩:=List.mem_map.1 hm;cases e;obtain ⟨h1,h2,_,h3⟩:=(hs.es _ _ _).1 hx
   simp_all
 ·cases he:E k with
  | some c=>exact List.mem_append_left _ ((hs.st _ _ _).2 (by grind))
  | none=>exact List.mem_append_right _ (List.mem_map.2 ⟨_,(hs.es k d (X k)).2 (by grind),rfl⟩)
theorem q6l {P:Program} {ops:List Oper} {I:(Nat→Bool)→(Nat→Value)→World→Prop} {Q:(Nat→Value)→World→Prop}:∀ (l:List Oper) (k:Nat) (es:EL Unit) (ρ:Nat→Value),regG P ops I Q l k es ρ→
  regX (fun k o es ρ v _=>∀ S vals w,S k=false→(∀ j∈qay o,S j=true)→I S vals w→qco P ops o (frG es vals ρ) w fun v' w'=>isG v v'∧I (setS S k) (upd vals k v') w') (fun es ρ=>∀ vals w,I (fun _=>true) vals w→Q (frG es vals ρ) w) l k es ρ
 | [],_,_,_,h=>h
 | _::l,_,_,_,⟨v,h1,h2⟩=>⟨v,_,h1,q6l l _ _ _ h2⟩
theorem AnyV.gen (I:(Nat→Bool)→(Nat→Value)→World→Prop) (hB:qhy n ops=true) (h0:∀ vals,I (fun j=>Nat.ble ops.size j) vals w.drew) (h:regG P ops.toList I R ops.toList 0 [] ρ):AnyV P n ops R ρ w:=by
 obtain ⟨E,X,h1,es,st,ρe,hr,hs,h2⟩:=q0h () (q6l _ _ _ _ h);refine .core (E:=E) (I:=I) hB h0 (fun i o ho=>?_) ⟨_,hs.knG,fun vals w1 hI=>?_⟩
 ·obtain ⟨es,st,ρi,hr,hs,h3⟩:=h1 i o ho;refine ⟨_,hs.knG,fun S vals w1 hS hp hI=>⟨_,?_,fun v' w' h=>h⟩⟩
  grind [qbj,qx5]
 grind [qbj,qx5]
theorem qtr {P:Program} {ops:List Oper} {I:(Nat→Bool)→World→Prop} {Q:(Nat→Value)→World→Prop}:∀ (l:List Oper) (k:Nat) (ρ:Nat→Value),regI P ops I Q l k ρ→regG P ops (fun S _ w=>I S w) Q l k [] ρ
 | [],_,_,h=>fun _ w hI=>h w hI
 | o::l,k,ρ,⟨v,h1,h2⟩=>⟨some v,fun S _ w hk hp hI=>h1 S w hk hp hI,by
  have:qj9 k () [] o.dst (some v)=[]:=by cases o.dst<;>rfl
  rw [this];exact qtr l _ _ h2⟩
end
section
variable {P:Program} {n id:Nat} {ops:Array Oper} {Q:Exit→(Nat→Value)→World→Prop} {ρ:Nat→Value} {w:World}
theorem DrawV.free (hm:P.follows .mixedOrders=true) (hB:qhy n ops=true) (h:regD P ops.toList w.drew (fun ρ' w'=>Q .normal ρ' w') ops.toList 0 [] ρ):DrawV P n id ops Q ρ w:=(AnyV.free hB h).draw hm
theorem DrawV.gen (I:(Nat→Bool)→(Nat→Value)→World→Prop) (hm:P.follows .mixedOrders=true) (hB:qhy n ops=true) (h0:∀ vals,I (fun j=>Nat.ble ops.size j) vals w.drew) (h:regG P ops.toList I (fun ρ' w'=>Q .normal ρ' w') ops.toList 0 [] ρ):DrawV P n id ops Q ρ w:=(AnyV.gen I hB h0 h).draw hm
theorem DrawV.inv (I:(Nat→Bool)→World→Prop) (hm:P.follows .mixedOrders=true) (hB:qhy n ops=true) (h0:I (fun j=>Nat.ble ops.size j) w.drew) (h:regI P ops.toList I (fun ρ' w'=>Q .normal ρ' w') ops.toList 0 ρ):DrawV P n id ops Q ρ w:=.gen (fun S _ w=>I S w) hm hB (fun _=>h0) (qtr _ _ _ h)
end
end V
namespace V
def resC (P:Program) (ρ:Nat→Value) (w:World):List ResultVar→(List Value→Prop)→Prop
 | [],K=>K []
 | .tmp t::l,K=>qgy (ρ t) fun v=>resC P ρ w l fun vs=>K (v::vs)
 | .cell c ty::l,K=>qu0 P ty (ρ c) w fun v=>resC P ρ w l fun vs=>K (v::vs)
def one (vs:List Value):Value:=
 match vs with
 | [v]=>v
 | l=>.tuple l.toArray
theorem qu1 {P:Program} {w:World} {t:TypeId} {x:Value} {K:Value→Prop} (h:qu0 P t x w K):∃ v,(do loadVar t (← asAddr x):Sem Value).run P w=.ok v w∧K v:=by
 unfold qu0 at h
 split at h
 ·rename_i d b off hu
  cases ha:aggD d<;>rw [ha] at h
  ·obtain ⟨v,hv,hk⟩:=h
   simp_all [qbc,asAddr,loadVar,qdb]
  ·cases hT:hasT P t<;>rw [hT] at h
   ·exact h.elim
   ·obtain ⟨cs,hl,hc,hk⟩:=h;rw [qap] at hk;refine ⟨_,?_,hk⟩;have:=run_loadCells_list (P:=P) w ⟨b,off,none⟩ cs (fun j v hv=>by
     have hj:j<cs.length:=by
      rcases Nat.lt_or_ge j cs.length with h|h
      ·exact h
      ·rw [List.getElem?_eq_none h] at hv;cases hv
     rw [q7,hc j Oo];exact hv)
    simp_all [asAddr,loadVar,qdb,qw]
 ·exact h.elim
theorem q9q {P:Program} {ρ:Nat→Value} {w:World} {tmps:Array Value} (hρ:∀ t,tmps.getD t undef=ρ t) (l:List ResultVar):∀ K:List Value→Prop,resC P ρ w l K→
  ∃ vs,(l.mapM (resF tmps)).run P w=.ok vs w∧K vs:=by
 induction l with
 | nil=>intro K h;exact ⟨[],by simp,h⟩
 | cons x l ih=>
  intro K h;cases x with
  | tmp t=>
   simp only [resC,qbc] at h
   grind [Sem.run_bind,resF,Sem.run_pure,Result.andThen_ok]
  | cell c ty=>
   simp only [resC] at h;obtain ⟨v,hv,hk⟩:=qu1 h;obtain ⟨vs,h1,h2⟩:=ih _ hk;refine ⟨v::vs,?_,h2⟩;have e:resF tmps (.cell c ty)=(do loadVar ty (← asAddr (ρ c))):=by rw [← hρ];rfl
   rw [List.mapM_cons,Sem.run_bind,e,hv,Result.andThen_ok,Sem.run_bind,h1];rfl
theorem qj {P:Program} {n:Nat} {fn:Func} {ρ:Nat→Value} {w:World} {R:Value→World→Prop} (h:resC P ρ w fn.results.toList fun vs=>R (one vs) w) :
  ∀ a,St n ρ a→∃ v,(results fn a.tmps).run P w=.ok v w∧R v w:=by
 intro a ha;obtain ⟨vs,h1,h2⟩:=q9q ha.get fn.results.toList _ h;refine ⟨one vs,?_,h2⟩;have e:results fn a.tmps=(do let vs ← fn.results.mapM (resF a.tmps);pure (if h:vs.size=1 then vs[0] else .tuple vs)):=by
  rfl
 rw [e,Array.mapM_eq_mapM_toList];simp [h1]
 match vs with
 | [v]=>rfl
 | []=>rfl
 | v::u::l=>simp [one]
end V
namespace V
structure Chg (w w':World) (B:List (Option Nat)):Prop where
 os:w'.os=w.os
 tape:w'.tape=w.tape
 output:w'.output=w.output
 size:w.heap.size≤w'.heap.size
 block:∀ k,k<w.heap.size→some k∉B→w'.heap[k]?=w.heap[k]?
theorem Chg.ext {w w':World} {B:List (Option Nat)} (h:Ext w w'):Chg w w' B:=⟨h.os,h.tape,h.output,h.size,fun k hk _=>h.block k hk⟩
def q3f (u:Option Nat) (i:Option Nat):Bool:=
 match u with
 | none=>true
 | some a=>match i with
  | none=>false
  | some b=>Nat.beq a b
abbrev AL:=EL (Option Nat × (Value→World→Prop))
def allO (base:Nat) (es:AL) (i:Option Nat):List Nat→(Nat→Value)→World→((Nat→Value)→Prop)→Prop
 | [],ρ,_,K=>K ρ
 | k::ks,ρ,w,K=>
  match qfc es k with
  | some (d,u,φ)=>bif q3f u i then ∀ v,φ v w→(∀ g,v.ownBlock=some g→base≤g∧g<w.heap.size)→allO base es i ks (upd ρ d v) w K else ∀ v,allO base es i ks (upd ρ d v) w K
  | none=>allO base es i ks ρ w K
def qj3 (es:AL) (i:Nat):List Nat→(Nat→Value)→List (Option Nat)
 | [],_=>[]
 | k::ks,ρ=>
  match qfc es k with
  | some (d,u,_)=>match u with
   | some j=>bif Nat.beq j i then (ρ d).ownBlock::qj3 es i ks ρ else qj3 es i ks ρ
   | none=>qj3 es i ks ρ
  | none=>qj3 es i ks ρ
def Loc (base:Nat) (φ:Value→World→Prop):Prop:=
 ∀ v w w',φ v w→(∀ k,k<w.heap.size→(k<base∨v.ownBlock=some k)→w'.heap[k]?=w.heap[k]?)→w.heap.size≤w'.heap.size→φ v w'
def PostO (w:World) (B:List (Option Nat)) (still:Bool) (φ:Value→World→Prop) (v:Value) (w':World):Prop:=
 Chg w w' B∧φ v w'∧(still=false→∀ g,v.ownBlock=some g→g<w'.heap.size∧(some g∈B∨w.heap.size≤g))
structure StepO (base:Nat) (A:Bool→(Value→World→Prop)→Prop) (K:Option Value→Option Nat→(Value→World→Prop)→Prop):Prop where
 h:(∃ v,A true (fun u _=>u=v)∧K (some v) none (fun u _=>u=v))∨(∃ u φ,Loc base φ∧A false φ∧K none u φ)
theorem StepO.still {base:Nat} {A:Bool→(Value→World→Prop)→Prop} {K:Option Value→Option Nat→(Value→World→Prop)→Prop} (v:Value) (h:A true (fun u _=>u=v)) (hk:K (some v) none (fun u _=>u=v)):StepO base A K:=⟨(by grind)⟩
def regO (P:Program) (ops:List Oper) (w0:World) (Q:(Nat→Value)→World→Prop):List Oper→Nat→AL→(Nat→Value)→Prop
 | [],_,_,_=>False
 | [o],k,es,ρ=>∀ w,Ext w0 w→allO w0.heap.size es (some k) (idxs es) ρ w fun ρ'=>qco P ops o ρ' w fun v w'=>Q (updO ρ' o.dst (some v)) w'
 | o::l,k,es,ρ=>StepO w0.heap.size
   (fun still φ=>∀ w,Ext w0 w→allO w0.heap.size es (some k) (qay o) ρ w fun ρ'=>qco P ops o ρ' w (PostO w (qj3 es k (qay o) ρ') still φ))
   (fun v u φ=>regO P ops w0 Q l (k+1) (qj9 k (u,φ) es o.dst v) (updO ρ o.dst v))
section
variable {P:Program} {n:Nat} {ops:Array Oper} {base:Nat}
theorem qnx {v1 v2:Nat→Value}:∀ (es:List (Nat × Nat × Option Value)) (ρ:Nat→Value),(∀ k d v,(k,d,v)∈es→v1 k=v2 k)→frE es v1 ρ=frE es v2 ρ
 | [],_,_=>rfl
 | (k,d,v)::es,ρ,h=>by
  rw [frE,frE,h k d v (List.mem_cons_self ..)];exact qnx es _ fun k d v hm=>h k d v (List.mem_cons_of_mem _ hm)
theorem qpm {es:AL} {i:Option Nat} {vals:Nat→Value} {w:World} {K:(Nat→Value)→Prop}:∀ (ks:List Nat) (ρ:Nat→Value),
  (∀ k d u φ,qfc es k=some (d,u,φ)→k∈ks→q3f u i=true→φ (vals k) w∧∀ g,(vals k).ownBlock=some g→base≤g∧g<w.heap.size)→allO base es i ks ρ w K→K (frE (subA es ks) vals ρ)
 | [],_,_,h=>h
 | k::ks,ρ,hv,h=>by
  unfold allO at h;have ih:=fun ρ h=>qpm (vals:=vals) (K:=K) ks ρ (fun k' d u φ hl hm=>hv k' d u φ hl (List.mem_cons_of_mem _ hm)) h
  unfold subA at ih ⊢;cases hk:qfc es k with
  | none=>rw [hk] at h;simpa [hk] using ih _ h
  | some x=>
   obtain ⟨d,u,φ⟩:=x;rw [hk] at h;have hv:=hv k d u φ hk (List.mem_cons_self ..);have:K (frE (ks.filterMap fun k=>(qfc es k).map fun x=>(k,x.1,none)) vals (upd ρ d (vals k))):=by
    simp only at h;cases hb:q3f u i<;>rw [hb] at h
    ·exact ih _ (h _)
    ·exact ih _ (h _ (hv hb).1 (hv hb).2)
   simpa [hk,frE] using this
theorem qpg {es:AL} {i:Nat} {ρ:Nat→Value} {g:Nat}:∀ ks,some g∈qj3 es i ks ρ→∃ k d φ,k∈ks∧qfc es k=some (d,some i,φ)∧(ρ d).ownBlock=some g
 | [],h=>by cases h
 | k::ks,h=>by
  have ih:=qpg (es:=es) (i:=i) (ρ:=ρ) (g:=g) ks;unfold qj3 at h
  split at h
  ·rename_i d u φ hl
   split at h
   ·rename_i j
    cases hb:Nat.beq j i<;>rw [hb] at h
    ·grind
    ·have:=Nat.eq_of_beq_eq_true hb;subst this
     rcases List.mem_cons.1 h with h|h
     ·exact ⟨k,d,φ,List.mem_cons_self ..,hl,h.symm⟩
     ·grind
   ·grind
  ·grind
def Live (X:Nat→Option Nat × (Value→World→Prop)) (S:Nat→Bool) (k:Nat):Prop:=S k=true∧∀ j,(X k).1=some j→S j=false
structure InvO (base m:Nat) (E:Nat→Option Value) (X:Nat→Option Nat × (Value→World→Prop)) (S:Nat→Bool) (vals:Nat→Value) (w:World):Prop where
 φ:∀ k,k<m→Live X S k→(X k).2 (vals k) w
 own:∀ k g,k<m→E k=none→Live X S k→(vals k).ownBlock=some g→base≤g∧g<w.heap.size
 apart:∀ k k' g,k<m→k'<m→E k=none→E k'=none→Live X S k→Live X S k'→k≠k'→(vals k).ownBlock=some g→(vals k').ownBlock≠some g
theorem qkq {X:Nat→Option Nat × (Value→World→Prop)} {S:Nat→Bool} {k i:Nat} (h:q3f (X k).1 (some i)=true) (hk:S k=true) (hi:S i=false):Live X S k:=by
 refine ⟨hk,fun j hj=>?_⟩;rw [hj] at h;have:j=i:=Nat.eq_of_beq_eq_true h
 simp_all
theorem InvO.step {m i:Nat} {E:Nat→Option Value} {X:Nat→Option Nat × (Value→World→Prop)} {S:Nat→Bool} {vals:Nat→Value} {w w':World} {v:Value} {B:List (Option Nat)} (J:InvO base m E X S vals w) (hi:S i=false) (hbs:base≤w.heap.size)
  (hloc:∀ k,k<m→E k=none→Loc base (X k).2) (hst:∀ k,k<m→E k≠none→∀ x w w',(X k).2 x w→(X k).2 x w')
  (hB:∀ g,some g∈B→∃ k,k<m∧E k=none∧(X k).1=some i∧S k=true∧(vals k).ownBlock=some g) (h:PostO w B (E i).isSome (X i).2 v w'):InvO base m E X (setS S i) (upd vals i v) w':=by
 obtain ⟨hchg,hφ,hown⟩:=h;have hBl:∀ g,some g∈B→∃ k,k<m∧E k=none∧(X k).1=some i∧Live X S k∧(vals k).ownBlock=some g:=fun g hg=>by
  obtain ⟨k,h1,h2,h3,h4,h5⟩:=hB g hg;exact ⟨k,h1,h2,h3,⟨h4,fun j hj=>by rw [h3] at hj;cases hj;exact hi⟩,h5⟩
 have hBge:∀ g,some g∈B→base≤g∧g<w.heap.size:=fun g hg=>by
  obtain ⟨k,h1,h2,_,h4,h5⟩:=hBl g hg;exact J.own k g h1 h2 h4 h5
 have hlv:∀ {k},Live X (setS S i) k→k=i∨(k≠i∧Live X S k∧(X k).1≠some i):=fun {k} ⟨h1,h2⟩=>by
  rcases qdc h1 with rfl|⟨hk,h1⟩
  ·omega
  ·refine .inr ⟨hk,⟨h1,fun j hj=>?_⟩,fun hu=>?_⟩
   all_goals simp_all [setS]
 have new:∀ k g,k<m→E k=none→Live X S k→(X k).1≠some i→E i=none→v.ownBlock=some g→(vals k).ownBlock≠some g:=fun k g hk hE hl hu hei hg hg'=>by
  rcases (hown (by rw [hei];rfl) g hg).2 with h2|h2
  ·obtain ⟨k2,h3,h4,h5,h6,h7⟩:=hBl g h2;exact J.apart k k2 g hk h3 hE h4 hl h6 (by grind) hg' h7
  ·have:=(J.own k g hk hE hl hg').2;omega
 refine ⟨fun k hk hl=>?_,fun k g hk hE hl hg=>?_,fun k k' g hk hk' hE hE' hl hl' hne hg hg'=>?_⟩
 ·rcases hlv hl with rfl|⟨hki,hl,hu⟩
  ·grind [qca]
  ·rw [qaw _ _ _ _ hki];have hold:=J.φ k hk hl
   by_cases hE:E k=none
   ·refine hloc k hk hE _ w w' hold (fun b hb hor=>hchg.block b hb fun hmem=>?_) hchg.size
    rcases hor with h|h
    ·grind
    ·obtain ⟨k2,h3,h4,h5,h6,h7⟩:=hBl b hmem;exact J.apart k k2 b hk h3 hE h4 hl h6 (by grind) h h7
   grind
 ·rcases hlv hl with rfl|⟨hki,hl,hu⟩
  ·grind [qca]
  ·rw [qaw _ _ _ _ hki] at hg;have:=J.own k g hk hE hl hg;have:=hchg.size;omega
 ·rcases hlv hl with rfl|⟨hki,kl,hu⟩<;>rcases hlv hl' with rfl|⟨hki',kl',hu'⟩
  ·omega
  ·grind [qca,qaw]
  ·grind [qca,qaw]
  ·rw [qaw _ _ _ _ hki] at hg;rw [qaw _ _ _ _ hki'] at hg';exact J.apart k k' g hk hk' hE hE' kl kl' hne hg hg'
def AO (P:Program) (ops:List Oper) (w0:World) (k:Nat) (o:Oper) (es:AL) (ρ:Nat→Value) (v:Option Value) (x:Option Nat × (Value→World→Prop)):Prop:=
 (v=none→Loc w0.heap.size x.2)∧(v≠none→∀ u w w',x.2 u w→x.2 u w')∧(∀ u w,x.2 u w→isG v u)∧∀ w,Ext w0 w→allO w0.heap.size es (some k) (qay o) ρ w fun ρ'=>qco P ops o ρ' w (PostO w (qj3 es k (qay o) ρ') v.isSome x.2)
theorem q6m {ops:List Oper} {w0:World} {Q:(Nat→Value)→World→Prop}:∀ (l:List Oper) (k:Nat) (es:AL) (ρ:Nat→Value),regO P ops w0 Q l k es ρ→∃ l' o,l=l'++[o]∧
  regX (AO P ops w0)
   (fun es ρ=>∀ w,Ext w0 w→allO w0.heap.size es (some (k+l'.length)) (idxs es) ρ w fun ρ'=>qco P ops o ρ' w fun v w'=>Q (updO ρ' o.dst (some v)) w') l' k es ρ
 | [],_,_,_,h=>h.elim
 | [o],k,es,ρ,h=>⟨[],o,rfl,h⟩
 | o::o2::l,k,es,ρ,h=>by
  have key:∀ v x,AO P ops w0 k o es ρ v x→regO P ops w0 Q (o2::l) (k+1) (qj9 k x es o.dst v) (updO ρ o.dst v)→∃ l' o1,o::o2::l=l'++[o1]∧regX (AO P ops w0) (fun es ρ=>∀ w,Ext w0 w→allO w0.heap.size es (some (k+l'.length)) (idxs es) ρ w fun ρ'=>qco P ops o1 ρ' w fun v w'=>Q (updO ρ' o1.dst (some v)) w') l' k es ρ:=fun v x hA hK=>by
   obtain ⟨l',o',e,hX⟩:=q6m (o2::l) _ _ _ hK;refine ⟨o::l',o',by rw [e];rfl,v,x,hA,?_⟩;rw [show k+(o::l').length=k+1+l'.length by rw [List.length_cons];omega];exact hX
  obtain ⟨v,h1,h2⟩|⟨u,φ,h0,h1,h2⟩:=StepO.h h
  ·exact key (some v) (none,_) ⟨(nomatch ·),Js,fun _ _ h=>h,h1⟩ h2
  ·exact key none (u,φ) ⟨fun _=>h0,Js,fun _ _ _=>trivial,h1⟩ h2
end
def qa0 (ops:Array Oper):Bool:=
 match ops[ops.size-1]? with
 | some o=>(List.range (ops.size-1)).all fun k=>(qay o).contains k
 | none=>false
theorem DrawV.own {P:Program} {n id:Nat} {ops:Array Oper} {Q:Exit→(Nat→Value)→World→Prop} {ρ:Nat→Value} {w:World} (hm:P.follows .mixedOrders=true) (hB:(qhy n ops&&qa0 ops)=true)
  (h:regO P ops.toList w.drew (fun ρ' w'=>Q .normal ρ' w') ops.toList 0 [] ρ):DrawV P n id ops Q ρ w:=by
 obtain ⟨hW,hL⟩:=Bool.and_eq_true_iff.1 hB;obtain ⟨l,ol,el,hX⟩:=q6m _ _ _ _ h;have hS:=qoy hW;obtain ⟨m,em⟩:∃ m,m=l.length:=⟨_,rfl⟩
 have hsz:ops.size=m+1:=by have:=congrArg List.length el;grind
 have hol:ops[m]?=some ol:=by rw [← Array.getElem?_toList,el,em];simp
 have hwait:∀ k,k<m→k∈qay ol:=fun k hk=>by
  simp_all [qa0]
 obtain ⟨E,X,hk,h1,es,st,ρe,hr,hs,h2⟩:=qms (ops:=ops) (ρ:=ρ) l 0 [] ρ (fun _=>none) (fun _=>(none,fun _ _=>True)) [] (fun j o hj=>by
  rw [← Array.getElem?_toList,el,Nat.zero_add,List.getElem?_append_left (List.getElem?_eq_some_iff.1 hj).1];exact hj) (fun _=>rfl) ⟨by simp,by simp⟩ hX
 rw [Nat.zero_add,← em] at hs h2;have h1:=fun i o (hi:i<m) ho=>h1 i o (Nat.zero_le _) Oo ho
 have hEm:E m=none:=(by grind)
 have kn:=hs.kn (pr:=fun _=>True) (ks:=idxs es) (by grind [qg2]);obtain ⟨ea,eea⟩:∃ ea,ea=st++subA es (idxs es):=⟨_,rfl⟩
 rw [← eea] at kn;obtain ⟨eb,eeb⟩:∃ eb:List (Nat × Nat × Option Value),eb=match ol.dst with|some d=>[(m,d,none)]|none=>[]:=⟨_,rfl⟩
 have lastE:∀ vals ρ',frE eb vals ρ'=updO ρ' ol.dst (some (vals m)):=fun vals ρ'=>by subst eeb;cases ol.dst<;>rfl
 have drw:∀ {S:Nat→Bool} {vals:Nat→Value} {w1:World},(bif S m then (∀ j,j<m→S j=true)∧Q .normal (frE (ea++eb) vals ρ) w1 else Ext w.drew w1∧InvO w.drew.heap.size m E X S vals w1)→S m=false→Ext w.drew w1∧InvO w.drew.heap.size m E X S vals w1:=(by grind)
 refine (AnyV.core (E:=E) (I:=fun S vals w1=>bif S m then (∀ j,j<m→S j=true)∧Q .normal (frE (ea++eb) vals ρ) w1 else Ext w.drew w1∧InvO w.drew.heap.size m E X S vals w1) hW (fun vals=>?_) (fun i o ho=>?_) ⟨ea++eb,⟨fun k d v hm=>?_,fun k o d hk _ ho hd=>?_⟩,Js⟩).draw hm
 ·have no:∀ {k},k≤m→Nat.ble ops.size k=false:=fun {k} hk=>Bool.eq_false_iff.2 fun e=>by have:=Nat.le_of_ble_eq_true e;omega
  have nl:∀ {k},k<m→¬ Live X (fun j=>Nat.ble ops.size j) k:=fun {k} hk hl=>by have h:Nat.ble ops.size k=true:=hl.1;grind
  show bif Nat.ble ops.size m then _ else _;rw [no (Nat.le_refl _)];exact ⟨Ext.refl _,(by grind),(by grind),(by grind)⟩
 ·have hi:=(Array.getElem?_eq_some_iff.1 ho).1
  rcases Nat.lt_or_ge i m with hi' | hi'
  ·obtain ⟨es',st',ρi,hr',hs',_,_,hv,hsp⟩:=h1 i o hi' ho;have kn':=hs'.kn (pr:=(·∈qay o)) (ks:=qay o) fun _ _ _ h=>h
   refine ⟨_,kn',fun S vals w1 hSi hp hI=>?_⟩;cases hSm:S m with
   | true=>grind
   | false=>
    obtain ⟨hx,J⟩:=drw hI hSm;have hB:∀ g,some g∈qj3 es' i (qay o) (frE (st'++subA es' (qay o)) vals ρ)→∃ k,k<m∧E k=none∧(X k).1=some i∧S k=true∧(vals k).ownBlock=some g:=fun g hg=>by
     obtain ⟨k,d,φ,hk,hl,ho'⟩:=qpg _ hg;obtain ⟨h3,h4,h5,ok,h6,h7⟩:=(hs'.es _ _ _).1 (qcp hl);refine ⟨k,by omega,h4,by rw [h5],hp k hk,?_⟩;rw [← ho']
     congr 1
     refine (qss _ _ (fun k' v hm=>?_) (.inr ⟨k,_,kn'.all k ok d h3 hk h6 h7⟩)).symm;obtain ⟨_,h8,ok',h9,h10⟩:=kn'.in_ _ _ _ hm;obtain rfl:=hS.uniq k ok k' ok' d h6 h9 h10 h7
     grind
    refine ⟨PostO w1 (qj3 es' i (qay o) (frE (st'++subA es' (qay o)) vals ρ)) (E i).isSome (X i).2,?_,fun v' w' hpo=>⟨hv _ _ hpo.2.1,?_⟩⟩
    ·rw [qbj,← hr' vals];refine qpm (K:=fun ρ'=>qco P ops.toList o ρ' w1 (PostO w1 (qj3 es' i (qay o) ρ') (E i).isSome (X i).2)) _ _ (fun k d u φ hl hm hkb=>?_) (hsp w1 hx);obtain ⟨h3,h4,h5,_⟩:=(hs'.es _ _ _).1 (qcp hl);have hlv:Live X S k:=(by grind [qkq])
     exact ⟨by have:=J.φ k Oo hlv;simp_all,fun g hg=>J.own k g Oo h4 hlv hg⟩
    ·have e:setS S i m=false:=by
      grind [setS,Nat.eq_of_beq_eq_true]
     show bif setS S i m then _ else _;rw [e];refine ⟨⟨hpo.1.os.trans hx.os,hpo.1.tape.trans hx.tape,hpo.1.output.trans hx.output,Nat.le_trans hx.size hpo.1.size,fun k hk=>?_⟩,J.step hSi hx.size (fun k hk hE=>?_) (fun k hk hE=>?_) hB hpo⟩
     ·rw [hpo.1.block k (Nat.lt_of_lt_of_le hk hx.size) fun hm=>?_]
      ·exact hx.block k hk
      ·obtain ⟨k',h3,h4,h5,h6,h7⟩:=hB k hm;have:=(J.own k' k h3 h4 ⟨h6,fun j hj=>by rw [h5] at hj;cases hj;exact hSi⟩ h7).1;omega
     ·obtain ⟨_,_,_,_,_,h,_⟩:=h1 k _ hk (Array.getElem?_eq_getElem Oo);exact h hE
     ·obtain ⟨_,_,_,_,_,_,h,_⟩:=h1 k _ hk (Array.getElem?_eq_getElem Oo);exact h hE
  ·obtain rfl:i=m:=by omega
   obtain rfl:=Option.some.inj (hol.symm.trans ho);refine ⟨ea,⟨kn.in_,fun k o d hk _=>kn.all k o d hk trivial⟩,fun S vals w1 hSi hp hI=>?_⟩;obtain ⟨hx,J⟩:=drw hI hSi;refine ⟨fun v w'=>Q .normal (updO (frE ea vals ρ) ol.dst (some v)) w',?_,fun v' w' hq=>⟨by rw [hEm];trivial,?_⟩⟩
   ·rw [eea,qbj,← hr vals];refine qpm (K:=fun ρ'=>qco P ops.toList ol ρ' w1 fun v w'=>Q .normal (updO ρ' ol.dst (some v)) w') _ _ (fun k d u φ hl _ hkb=>?_) (h2 w1 hx);obtain ⟨h3,h4,h5,_⟩:=(hs.es _ _ _).1 (qcp hl);have hlv:Live X S k:=(by grind [qkq])
    exact ⟨by have:=J.φ k h3 hlv;simp_all,fun g hg=>J.own k g h3 h4 hlv hg⟩
   ·have e:setS S i i=true:=by simp [setS]
    show bif setS S i i then _ else _;rw [e];refine ⟨(by grind [setS]),?_⟩;rw [qbj,lastE,qca,qnx ea ρ fun k d v hm=>?_]
    ·exact hq
    ·exact qaw _ _ _ _ (Nat.ne_of_lt (kn.in_ _ _ _ hm).1)
 ·rcases List.mem_append.1 hm with hm|hm
  ·obtain ⟨h3,h4⟩:=kn.in_ _ _ _ hm
   grind
  grind
 ·rcases Nat.lt_or_ge k m with hk' | hk'
  ·exact List.mem_append_left _ (kn.all k o d hk' trivial ho hd)
  grind
end V
namespace V
theorem zA {a b k:Prop} (h:k) (h1:a:=by omega) (h2:b:=by omega):Obl (a∧b) k:=⟨⟨h1,h2⟩,h⟩
theorem zB {a b c d k:Prop} (h:k) (h1:a:=by omega) (h2:b:=by omega) (h3:c:=by omega) (h4:d:=by omega):Obl (a∧b∧c∧d) k:=⟨⟨h1,h2,h3,h4⟩,h⟩
theorem zC {c p q:Prop} [Decidable c] (h1:c→p) (h2:¬ c→q):Tst (decide c) p q:=.dec h1 h2
theorem zY {c p q:Prop} [Decidable c] (h:c→p) (hc:c:=by omega):Tst (decide c) p q:=.dec h fun g=>absurd hc g
theorem zN {c p q:Prop} [Decidable c] (h:¬ c→q) (hc:¬ c:=by omega):Tst (decide c) p q:=.dec (fun g=>absurd g hc) h
theorem zV {k:IntKind} {n:Int} {K:Int→Prop} (hk:K n) (h:InR k n:=by exact ⟨by omega,by omega⟩):Wit (fun r=>k.wrap n=r) K:=⟨n,h.wrap,hk⟩
theorem zX {j n:Nat} {K:Nat→Prop} (hk:K j) (h:j<n:=by omega):IdxV (j:Int) n K:=⟨j,rfl,h,hk⟩
theorem zJ {i:Int} {n:Nat} (j:Nat) {K:Nat→Prop} (hk:K j) (e:i=(j:Int):=by rfl) (h:j<n:=by decide):IdxV i n K:=⟨j,e,h,hk⟩
theorem zW {w:World} {k:Prop} (h:k):SameW w w k:=⟨rfl,h⟩
theorem zD {A:(Value→World→Prop)→Prop} {K:Option Value→(Value→World→Prop)→Prop} {v:Value} (hk:K (some v) (fun u _=>u=v)) (h:A (fun u _=>u=v):=by (intro wd hd;(conv=>whnf);exact ⟨Ext.refl _,rfl⟩)):StepD A K:=.still v h hk
theorem zI {A K:Value→Prop} {v:Value} (hk:K v) (h:A v:=by (intro S wd hk hp hI;(conv=>whnf);exact ⟨rfl,hI⟩)):StepI A K:=.of v h hk
theorem zG {A K:Option Value→Prop} {v:Value} (hk:K (some v)) (h:A (some v):=by (intro S vals wd hk hp hI;(conv=>whnf);exact ⟨rfl,hI⟩)):StepG A K:=.of v h hk
theorem zM {A K:Option Value→Prop} (hk:K none) (h:A none:=by (intro S vals wd hk hp hI;(conv=>whnf);exact ⟨trivial,hI⟩)):StepG A K:=.any h hk
theorem zO {base:Nat} {A:Bool→(Value→World→Prop)→Prop} {K:Option Value→Option Nat→(Value→World→Prop)→Prop} {v:Value} (hk:K (some v) none (fun u _=>u=v)) (h:A true (fun u _=>u=v):=by (intro wd hd;(conv=>whnf);exact PostO.still (Ext.refl _) rfl)):StepO base A K:=.still v h hk
theorem zT {p q:Prop} (h:p):Tst true p q:=.tt h
theorem zU {p q:Prop} (h:q):Tst false p q:=.ff h
theorem zP {b:Bool} {p q:Prop} (h:Tst b q p):Tst (!b) p q:=.not h
theorem zL {w0 w:World} {L:List (Nat × Obj)} {b size:Nat} {cs:Array Value} {t:TypeId} {fr:Nat × Nat} {K:List Value→Prop} (h:Mem w0 w L) (i:Nat) (hk:K cs.toList) (hi:L[i]?=some (b,.cells cs t fr):=by exact rfl)
  (hs:cs.toList.length=size:=by exact rfl):LoadA w b 0 size K:=.mem h hi hs hk
theorem zR {w0 w:World} {L:List (Nat × Obj)} {b off:Nat} {cs:Array Value} {t:TypeId} {fr:Nat × Nat} {v:Value} {K:Value→Prop} (h:Mem w0 w L) (i:Nat) (hk:K v) (hi:L[i]?=some (b,.cells cs t fr):=by exact rfl)
  (hv:cs[off]?=some v:=by exact rfl):LoadV w b off K:=.mem h hi hv hk
theorem zE {P:Program} {n:Nat} {f:FuncId} {fn:Func} {c:Code} {vs:List Value} {w:World} {R:Value→World→Prop} (hf:P.funcs[f]?=some fn) (hn:fn.ntmps=n) (h:qgr P n c (q2g P n fn R) (ini vs) w)
  (he:qcm P f=true:=by kernel_rfl) (hb:fn.body=some c:=by exact rfl) (hl:Nat.ble vs.length n=true:=by exact rfl):Gv P f vs w R:=gv he hf hb hn hl h
theorem zS {P:Program} {w0 w:World} {L:List (Nat × Obj)} {b:Nat} {cur:Array Value} {t:TypeId} {vs:List Value} {K:World→Prop} (h:Mem w0 w L) (i:Nat)
  (hk:∀ w',Mem w0 w' (L.set i (b,.cells vs.toArray t (0,0)))→K w') (hi:L[i]?=some (b,.cells cur t (0,0)):=by exact rfl) (hl:cur.size=vs.length:=by exact rfl) (h1:∀ v∈vs,v.oneCell'=true:=by simp [Value.oneCell']):StoreA P w b 0 vs K:=by
 refine StoreA.mem h hi Oo h1 fun w' hw=>hk w' ?_;have e:(cur.toList.take 0++vs++cur.toList.drop (0+vs.length)).toArray=vs.toArray:=by
  rw [List.take_zero,List.nil_append,List.drop_eq_nil_of_le Ys,List.append_nil]
 rwa [e] at hw
structure Hid (q:Prop):Prop where
 h:q
theorem zw {p q:Prop} (h:q) (e:p=q:=by conv=>lhs;whnf):p:=e.mpr h
theorem zv {p q:Prop} (h:q) (e:Hid q→p:=by
  intro h
  (repeat' (first|(refine Obl.mk ⟨by omega,by omega⟩ ?_;conv=>whnf)|(refine Obl.mk ⟨by omega,by omega,⟨by omega,by omega⟩⟩ ?_;conv=>whnf)|((with_reducible refine Tst.tt ?_);conv=>whnf)|((with_reducible refine Tst.ff ?_);conv=>whnf)|((with_reducible refine Tst.dec (fun _=>?_) (fun _=>?_))<;>first|(exfalso;omega)|(conv=>whnf))|((with_reducible refine Tst.not ?_))|(refine Wit.conv ⟨by omega,by omega⟩ ?_;conv=>whnf)|((with_reducible refine IdxV.nat Oo ?_);conv=>whnf)|((with_reducible refine SameW.mk rfl ?_);conv=>whnf)|((with_reducible refine Tst.beqT ?_))|((with_reducible refine Tst.beqF ?_))|(refine Tst.yes rfl ?_;conv=>whnf)|(refine Tst.no rfl ?_;conv=>whnf)))
  exact h.1):p:=e ⟨h⟩
theorem zu {p q:Prop} (h:q) (e:Hid q→p:=by
  intro h;conv=>whnf
  (repeat' (first|(refine Obl.mk ⟨by omega,by omega⟩ ?_;conv=>whnf)|(refine Obl.mk ⟨by omega,by omega,⟨by omega,by omega⟩⟩ ?_;conv=>whnf)|((with_reducible refine Tst.tt ?_);conv=>whnf)|((with_reducible refine Tst.ff ?_);conv=>whnf)|((with_reducible refine Tst.dec (fun _=>?_) (fun _=>?_))<;>first|(exfalso;omega)|(conv=>whnf))|((with_reducible refine Tst.not ?_))|(refine Wit.conv ⟨by omega,by omega⟩ ?_;conv=>whnf)|((with_reducible refine IdxV.nat Oo ?_);conv=>whnf)|((with_reducible refine SameW.mk rfl ?_);conv=>whnf)|((with_reducible refine Tst.beqT ?_))|((with_reducible refine Tst.beqF ?_))|(refine Tst.yes rfl ?_;conv=>whnf)|(refine Tst.no rfl ?_;conv=>whnf)))
  exact h.1):p:=e ⟨h⟩
theorem zt {p q:Prop} (h:q) (e:Hid q→p:=by
  intro h
  (repeat' (first|(refine Obl.mk ⟨by omega,by omega⟩ ?_;conv=>whnf)|(refine Obl.mk ⟨by omega,by omega,⟨by omega,by omega⟩⟩ ?_;conv=>whnf)|((with_reducible refine Tst.tt ?_);conv=>whnf)|((with_reducible refine Tst.ff ?_);conv=>whnf)|((with_reducible refine zY (fun _=>?_));conv=>whnf)|((with_reducible refine zN (fun _=>?_));conv=>whnf)|((with_reducible refine Tst.not ?_))|(refine Wit.conv ⟨by omega,by omega⟩ ?_;conv=>whnf)|((with_reducible refine IdxV.nat Oo ?_);conv=>whnf)|((with_reducible refine SameW.mk rfl ?_);conv=>whnf)|((with_reducible refine Tst.beqT ?_))|((with_reducible refine Tst.beqF ?_))|(refine Tst.yes rfl ?_;conv=>whnf)|(refine Tst.no rfl ?_;conv=>whnf)))
  exact h.1):p:=e ⟨h⟩
theorem zp {p q:Prop} (h:q) (e:Hid q→p:=by
  intro h
  (first|(refine Obl.mk ⟨by omega,by omega⟩ ?_;conv=>whnf)|(refine Obl.mk ⟨by omega,by omega,⟨by omega,by omega⟩⟩ ?_;conv=>whnf)|((with_reducible refine Tst.tt ?_);conv=>whnf)|((with_reducible refine Tst.ff ?_);conv=>whnf)|((with_reducible refine zY (fun _=>?_));conv=>whnf)|((with_reducible refine zN (fun _=>?_));conv=>whnf)|((with_reducible refine Tst.not ?_))|(refine Wit.conv ⟨by omega,by omega⟩ ?_;conv=>whnf)|((with_reducible refine IdxV.nat Oo ?_);conv=>whnf)|((with_reducible refine SameW.mk rfl ?_);conv=>whnf)|((with_reducible refine Tst.beqT ?_))|((with_reducible refine Tst.beqF ?_))|(refine Tst.yes rfl ?_;conv=>whnf)|(refine Tst.no rfl ?_;conv=>whnf))
  (repeat' (first|(refine Obl.mk ⟨by omega,by omega⟩ ?_;conv=>whnf)|(refine Obl.mk ⟨by omega,by omega,⟨by omega,by omega⟩⟩ ?_;conv=>whnf)|((with_reducible refine Tst.tt ?_);conv=>whnf)|((with_reducible refine Tst.ff ?_);conv=>whnf)|((with_reducible refine zY (fun _=>?_));conv=>whnf)|((with_reducible refine zN (fun _=>?_));conv=>whnf)|((with_reducible refine Tst.not ?_))|(refine Wit.conv ⟨by omega,by omega⟩ ?_;conv=>whnf)|((with_reducible refine IdxV.nat Oo ?_);conv=>whnf)|((with_reducible refine SameW.mk rfl ?_);conv=>whnf)|((with_reducible refine Tst.beqT ?_))|((with_reducible refine Tst.beqF ?_))|(refine Tst.yes rfl ?_;conv=>whnf)|(refine Tst.no rfl ?_;conv=>whnf)))
  exact h.1):p:=e ⟨h⟩
theorem zd {A:(Value→World→Prop)→Prop} {K:Option Value→(Value→World→Prop)→Prop} {v:Value} {q:Prop} (hk:q) (h:A (fun u _=>u=v):=by
  intro wd hd;conv=>whnf
  (repeat (intro _ _;(conv=>whnf)))
  first
  | exact ⟨Ext.refl _,rfl⟩
  | refine zv ?_;exact ⟨Ext.refl _,rfl⟩) (e:K (some v) (fun u _=>u=v)=q:=by conv=>lhs;whnf):StepD A K:=.still v h (e.mpr hk)
theorem zo {base:Nat} {A:Bool→(Value→World→Prop)→Prop} {K:Option Value→Option Nat→(Value→World→Prop)→Prop} {v:Value} {q:Prop} (hk:q) (h:A true (fun u _=>u=v):=by
  intro wd hd;conv=>whnf
  (repeat (intro _;(conv=>whnf)))
  first
  | exact PostO.still (Ext.refl _) rfl
  | refine zv ?_;exact PostO.still (Ext.refl _) rfl) (e:K (some v) none (fun u _=>u=v)=q:=by conv=>lhs;whnf):StepO base A K:=.still v h (e.mpr hk)
theorem zi {A K:Value→Prop} {v:Value} {q:Prop} (hk:q) (h:A v:=by
  intro S wd hk hp hI;conv=>whnf
  first
  | exact ⟨rfl,hI⟩
  | refine zv ?_;exact ⟨rfl,hI⟩) (e:K v=q:=by conv=>lhs;whnf):StepI A K:=.of v h (e.mpr hk)
theorem zg {A K:Option Value→Prop} {v:Value} {q:Prop} (hk:q) (h:A (some v):=by
  intro S vals wd hk hp hI;conv=>whnf
  first
  | exact ⟨rfl,hI⟩
  | refine zv ?_;exact ⟨rfl,hI⟩) (e:K (some v)=q:=by conv=>lhs;whnf):StepG A K:=.of v h (e.mpr hk)
theorem zm {A K:Option Value→Prop} {q:Prop} (hk:q) (h:A none:=by
  intro S vals wd hk hp hI;conv=>whnf
  first
  | exact ⟨trivial,hI⟩
  | refine zv ?_;exact ⟨trivial,hI⟩) (e:K none=q:=by conv=>lhs;whnf):StepG A K:=.any h (e.mpr hk)
theorem zLd {A:(Value→World→Prop)→Prop} {K:Option Value→(Value→World→Prop)→Prop} {v:Value} {q:Prop} (hk:q) (h:A (fun u _=>u=v):=by
  intro wd hd;refine zu ?_;have hm:=Mem.call (Mem.drew Oa) hd
  first
  | (refine LoadA.mem hm (i:=0) rfl rfl ?_;(conv=>whnf);exact ⟨Ext.refl _,rfl⟩)
  | (refine LoadA.mem hm (i:=1) rfl rfl ?_;(conv=>whnf);exact ⟨Ext.refl _,rfl⟩)
  | (refine LoadA.mem hm (i:=2) rfl rfl ?_;(conv=>whnf);exact ⟨Ext.refl _,rfl⟩)
  | (refine LoadA.mem hm (i:=3) rfl rfl ?_;(conv=>whnf);exact ⟨Ext.refl _,rfl⟩)
  | (refine LoadA.mem hm (i:=4) rfl rfl ?_;(conv=>whnf);exact ⟨Ext.refl _,rfl⟩)
  | (refine LoadA.mem hm (i:=5) rfl rfl ?_;(conv=>whnf);exact ⟨Ext.refl _,rfl⟩)
  | (refine LoadV.mem hm (i:=0) rfl rfl ?_;(conv=>whnf);exact ⟨Ext.refl _,rfl⟩)
  | (refine LoadV.mem hm (i:=1) rfl rfl ?_;(conv=>whnf);exact ⟨Ext.refl _,rfl⟩)
  | (refine LoadV.mem hm (i:=2) rfl rfl ?_;(conv=>whnf);exact ⟨Ext.refl _,rfl⟩)
  | (refine LoadV.mem hm (i:=3) rfl rfl ?_;(conv=>whnf);exact ⟨Ext.refl _,rfl⟩)
  | (refine LoadV.mem hm (i:=4) rfl rfl ?_;(conv=>whnf);exact ⟨Ext.refl _,rfl⟩)
  | (refine LoadV.mem hm (i:=5) rfl rfl ?_;(conv=>whnf);exact ⟨Ext.refl _,rfl⟩)) (e:K (some v) (fun u _=>u=v)=q:=by conv=>lhs;whnf):StepD A K:=.still v h (e.mpr hk)
theorem zLi {A K:Value→Prop} {v:Value} {q:Prop} (hk:q) (h:A v:=by
  intro S wd hk hp hI;conv=>whnf
  first
  | (refine LoadA.mem hI (i:=0) rfl rfl ?_;(conv=>whnf);exact ⟨rfl,hI⟩)
  | (refine LoadA.mem hI (i:=1) rfl rfl ?_;(conv=>whnf);exact ⟨rfl,hI⟩)
  | (refine LoadA.mem hI (i:=2) rfl rfl ?_;(conv=>whnf);exact ⟨rfl,hI⟩)
  | (refine LoadA.mem hI (i:=3) rfl rfl ?_;(conv=>whnf);exact ⟨rfl,hI⟩)
  | (refine LoadA.mem hI (i:=4) rfl rfl ?_;(conv=>whnf);exact ⟨rfl,hI⟩)
  | (refine LoadA.mem hI (i:=5) rfl rfl ?_;(conv=>whnf);exact ⟨rfl,hI⟩)
  | (refine LoadV.mem hI (i:=0) rfl rfl ?_;(conv=>whnf);exact ⟨rfl,hI⟩)
  | (refine LoadV.mem hI (i:=1) rfl rfl ?_;(conv=>whnf);exact ⟨rfl,hI⟩)
  | (refine LoadV.mem hI (i:=2) rfl rfl ?_;(conv=>whnf);exact ⟨rfl,hI⟩)
  | (refine LoadV.mem hI (i:=3) rfl rfl ?_;(conv=>whnf);exact ⟨rfl,hI⟩)
  | (refine LoadV.mem hI (i:=4) rfl rfl ?_;(conv=>whnf);exact ⟨rfl,hI⟩)
  | (refine LoadV.mem hI (i:=5) rfl rfl ?_;(conv=>whnf);exact ⟨rfl,hI⟩)) (e:K v=q:=by conv=>lhs;whnf):StepI A K:=.of v h (e.mpr hk)
theorem zLg {A K:Option Value→Prop} {v:Value} {q:Prop} (hk:q) (h:A (some v):=by
  intro S vals wd hk hp hI;conv=>whnf
  first
  | (refine LoadA.mem hI.mem (i:=0) rfl rfl ?_;(conv=>whnf);exact ⟨rfl,hI⟩)
  | (refine LoadA.mem hI.mem (i:=1) rfl rfl ?_;(conv=>whnf);exact ⟨rfl,hI⟩)
  | (refine LoadA.mem hI.mem (i:=2) rfl rfl ?_;(conv=>whnf);exact ⟨rfl,hI⟩)
  | (refine LoadA.mem hI.mem (i:=3) rfl rfl ?_;(conv=>whnf);exact ⟨rfl,hI⟩)
  | (refine LoadA.mem hI.mem (i:=4) rfl rfl ?_;(conv=>whnf);exact ⟨rfl,hI⟩)
  | (refine LoadA.mem hI.mem (i:=5) rfl rfl ?_;(conv=>whnf);exact ⟨rfl,hI⟩)
  | (refine LoadV.mem hI.mem (i:=0) rfl rfl ?_;(conv=>whnf);exact ⟨rfl,hI⟩)
  | (refine LoadV.mem hI.mem (i:=1) rfl rfl ?_;(conv=>whnf);exact ⟨rfl,hI⟩)
  | (refine LoadV.mem hI.mem (i:=2) rfl rfl ?_;(conv=>whnf);exact ⟨rfl,hI⟩)
  | (refine LoadV.mem hI.mem (i:=3) rfl rfl ?_;(conv=>whnf);exact ⟨rfl,hI⟩)
  | (refine LoadV.mem hI.mem (i:=4) rfl rfl ?_;(conv=>whnf);exact ⟨rfl,hI⟩)
  | (refine LoadV.mem hI.mem (i:=5) rfl rfl ?_;(conv=>whnf);exact ⟨rfl,hI⟩)) (e:K (some v)=q:=by conv=>lhs;whnf):StepG A K:=.of v h (e.mpr hk)
theorem zSi {A K:Value→Prop} {q:Prop} (hk:q) (h:A undef:=by
  intro S wd hk hp hI
  try dsimp only at hI
  rw [hk] at hI;conv=>whnf
  first
  | (refine StoreA.all hI (i:=0) rfl rfl (by simp [Value.oneCell']) fun wx hx=>?_;(conv=>whnf);exact ⟨rfl,hx⟩)
  | (refine StoreA.all hI (i:=1) rfl rfl (by simp [Value.oneCell']) fun wx hx=>?_;(conv=>whnf);exact ⟨rfl,hx⟩)
  | (refine StoreA.all hI (i:=2) rfl rfl (by simp [Value.oneCell']) fun wx hx=>?_;(conv=>whnf);exact ⟨rfl,hx⟩)
  | (refine StoreA.all hI (i:=3) rfl rfl (by simp [Value.oneCell']) fun wx hx=>?_;(conv=>whnf);exact ⟨rfl,hx⟩)
  | (refine StoreA.all hI (i:=4) rfl rfl (by simp [Value.oneCell']) fun wx hx=>?_;(conv=>whnf);exact ⟨rfl,hx⟩)
  | (refine StoreA.all hI (i:=5) rfl rfl (by simp [Value.oneCell']) fun wx hx=>?_;(conv=>whnf);exact ⟨rfl,hx⟩)) (e:K undef=q:=by conv=>lhs;whnf):StepI A K:=.of undef h (e.mpr hk)
theorem zr {w0 w:World} {L:List (Nat × Obj)} {b off:Nat} {cs:Array Value} {t:TypeId} {fr:Nat × Nat} {v:Value} {K:Value→Prop} {q:Prop} (h:Mem w0 w L) (i:Nat) (hk:q) (hi:L[i]?=some (b,.cells cs t fr):=by exact rfl)
  (hv:cs[off]?=some v:=by exact rfl) (e:K v=q:=by conv=>lhs;whnf):LoadV w b off K:=.mem h hi hv (e.mpr hk)
theorem zl {w0 w:World} {L:List (Nat × Obj)} {b size:Nat} {cs:Array Value} {t:TypeId} {fr:Nat × Nat} {K:List Value→Prop} {q:Prop} (h:Mem w0 w L) (i:Nat) (hk:q) (hi:L[i]?=some (b,.cells cs t fr):=by exact rfl)
  (hs:cs.toList.length=size:=by exact rfl) (e:K cs.toList=q:=by conv=>lhs;whnf):LoadA w b 0 size K:=.mem h hi hs (e.mpr hk)
theorem ze {P:Program} {n:Nat} {f:FuncId} {fn:Func} {c:Code} {vs:List Value} {w:World} {R:Value→World→Prop} {q:Prop} (hf:P.funcs[f]?=some fn) (hn:fn.ntmps=n) (h:q)
  (he:qcm P f=true:=by kernel_rfl) (hb:fn.body=some c:=by exact rfl) (hl:Nat.ble vs.length n=true:=by exact rfl) (e:qgr P n c (q2g P n fn R) (ini vs) w=q:=by conv=>lhs;whnf):Gv P f vs w R:=gv he hf hb hn hl (e.mpr h)
theorem zy {P:Program} {n id:Nat} {ops:Array Oper} {Q:Exit→(Nat→Value)→World→Prop} {ρ:Nat→Value} {w:World} {q:Prop} (h:q) (hm:P.follows .mixedOrders=true:=by kernel_rfl) (hB:Region.lexB .any ops=true:=by kernel_rfl)
  (e:regQ P n ops.toList w.drew (fun ρ'=>Q .normal ρ' w.drew) ops.toList ρ=q:=by conv=>lhs;whnf):DrawV P n id ops Q ρ w:=.quiet hm hB (e.mpr h)
theorem xr {w:World}:Ext w w:=.refl w
theorem zf {A:(Value→World→Prop)→Prop} {K:Option Value→(Value→World→Prop)→Prop} {v:Value} {q:Prop} (hk:q) (h:A (fun u _=>u=v)) (e:K (some v) (fun u _=>u=v)=q:=by conv=>lhs;whnf):StepD A K:=.still v h (e.mpr hk)
theorem zcv {P:Program} {f:FuncId} {args:List Value} {w:World} {R K:Value→World→Prop} (h:Gv P f args w R) (hk:∀ v w',R v w'→K v w'):CallV P f args w K:=.of h hk
theorem zsd {A:(Value→World→Prop)→Prop} {K:Option Value→(Value→World→Prop)→Prop} (v:Value) (h:A (fun u _=>u=v)) (hk:K (some v) (fun u _=>u=v)):StepD A K:=.still v h hk
theorem znm {w0 w:World} {L:List (Nat × Obj)} {o:Obj} {K:Nat→World→Prop} (h:Mem w0 w L) (hk:∀ b w',Mem w0 w' ((b,o)::L)→K b w'):NewV w o K:=.mem h hk
end V
open Go.RowKit V
set_option maxRecDepth 100000
def qhc (r:Int):Bool:=decide (0≤r∧r≤1114111∧(r<55296∨57343<r))
theorem qq1 (r:Int) (b:Bool):b=qhc r↔(b=true↔(0≤r∧r≤1114111∧(r<55296∨57343<r))):=by
 unfold qhc;rw [Bool.eq_iff_iff];simp
theorem qvy (r:Int) (w:World) :
  Gv Tryz.prog 288 [.int .i32 r] w fun v w'=>v=.bool (qhc r)∧w'=w:=by
 refine ze Tryz.func288 Tryz.ntmps288 ?_
 (repeat' (first|refine zp ?_|refine zC (fun _=>zw ?_) (fun _=>zw ?_)))
 all_goals (refine ⟨congrArg Value.bool ((qq1 r _).2 ?_),rfl⟩;simp;try omega)
def qfb (c:Nat):Nat × Nat:=
 if c<0x80 then (1,c) else if c<0xC0 then (0,0) else if c<0xE0 then (2,c%32) else if c<0xF0 then (3,c%16) else if c<0xF8 then (4,c%8) else (0,0)
theorem qsz (c:Nat) (_h:c<256):(qfb c).1≤4∧(qfb c).2<128:=by
 unfold qfb;repeat (first|split|(refine ⟨?_,?_⟩<;>dsimp only<;>omega))
theorem q3k (c:UInt8) (w:World) :
  Gv Tryz.prog 286 [.int .u8 c.toNat] w fun v w'=>v=.tuple #[ii (qfb c.toNat).1,.int .i32 (qfb c.toNat).2]∧w'=w:=by
 refine ze Tryz.func286 Tryz.ntmps286 ?_
 (repeat' (first|refine zp ?_|refine zC (fun _=>zw ?_) (fun _=>zw ?_)))
 ·exact ⟨by rw [qfb,if_pos Oo];rfl,rfl⟩
 ·exact ⟨by rw [qfb,if_neg Oo,if_pos Oo];rfl,rfl⟩
 ·refine Wit.eq (qbb 5 rfl ⟨by omega,by omega⟩ ⟨by omega,by omega⟩) (zu ?_);exact ⟨by rw [qfb,if_neg Oo,if_neg Oo,if_pos Oo];rfl,rfl⟩
 ·refine Wit.eq (qbb 4 rfl ⟨by omega,by omega⟩ ⟨by omega,by omega⟩) (zu ?_);exact ⟨by rw [qfb,if_neg Oo,if_neg Oo,if_neg Oo,if_pos Oo];rfl,rfl⟩
 ·refine Wit.eq (qbb 3 rfl ⟨by omega,by omega⟩ ⟨by omega,by omega⟩) (zu ?_);exact ⟨by rw [qfb,if_neg Oo,if_neg Oo,if_neg Oo,if_neg Oo,if_pos Oo];rfl,rfl⟩
 ·exact ⟨by rw [qfb,if_neg Oo,if_neg Oo,if_neg Oo,if_neg Oo,if_neg Oo];rfl,rfl⟩
def qs1 (n:Nat):Nat:=if n=2 then 0x80 else if n=3 then 0x800 else if n=4 then 0x10000 else 0
theorem qy4 (n:Nat) (h:n≤4) (w:World) :
  Gv Tryz.prog 287 [ii n] w fun v w'=>v=.int .i32 (qs1 n)∧w'=w:=by
 refine ze Tryz.func287 Tryz.ntmps287 ?_;refine zv ?_;refine ⟨.int .i32 (qs1 n),?_,?_⟩
 ·obtain rfl|rfl|rfl|rfl|rfl:n=0∨n=1∨n=2∨n=3∨n=4:=by omega
  all_goals rfl
 ·(conv=>whnf);exact ⟨rfl,rfl⟩
def accR (r:Nat) (l:LB):Nat:=l.foldl (fun r c=>r*64+c.toNat%64) r
def cont (c:UInt8):Bool:=c.toNat/64==2
def decN:LB→Nat × Nat
 | []=>(0,0)
 | b::t=>
  let n:=(qfb b.toNat).1
  if n=0∨t.length<n-1 then (0,0)
  else if (t.take (n-1)).all cont then
   let r:=accR (qfb b.toNat).2 (t.take (n-1))
   if r<qs1 n∨qhc r=false then (0,0) else (r,n)
  else (0,0)
theorem q64 (r:Nat) (l:LB):accR r l<(r+1)*64 ^ l.length:=by
 induction l generalizing r with
 | nil=>simp [accR]
 | cons c l ih=>
  have h1:=ih (r*64+c.toNat%64);have h2:c.toNat%64<64:=Nat.mod_lt _ Oo;simp only [accR,List.foldl_cons,List.length_cons] at *;refine Nat.lt_of_lt_of_le h1 ?_;rw [Nat.pow_succ,Nat.mul_comm (64 ^ _) 64,← Nat.mul_assoc];exact Nat.mul_le_mul_right _ Oo
theorem q3a {l:LB} {k:Nat} (h:k<l.length):l.take (k+1)=l.take k++[l.getD k 0]:=by
 rw [List.take_succ_eq_append_getElem h,List.getD_eq_getElem?_getD,zge h,Option.getD_some]
theorem qcy (s:ByteArray) (p:Nat) (h:p<s.size):s.data.toList.drop p=gb s p::s.data.toList.drop (p+1):=by
 have h':p<s.data.toList.length:=by simpa using h
 rw [List.drop_eq_getElem_cons h',gb,List.getD_eq_getElem?_getD,zge h',Option.getD_some]
theorem qxp (s:ByteArray) (p k:Nat):(s.data.toList.drop p).getD k 0=gb s (p+k):=by
 simp [gb,List.getD_eq_getElem?_getD]
theorem qib (s:ByteArray) (p:Nat):(s.data.toList.drop p).length=s.size-p:=by simp
theorem qabb (m:Nat) (h:m<256):m &&&192=m/64*64:=by
 have:∀ m:Fin 256,m.1 &&&192=m.1/64*64:=by decide +kernel
 exact this ⟨m,h⟩
theorem qta (s:ByteArray) (p:Nat) (hp:p<s.size) (hs:s.size≤140737488355328) (w:World) :
  Gv Tryz.prog 216 [.string s,ii p] w fun v w'=>v=.tuple #[.int .i32 (decN (s.data.toList.drop p)).1,ii (decN (s.data.toList.drop p)).2]∧w'=w:=by
 obtain ⟨t,ht⟩:∃ t,t=s.data.toList.drop (p+1):=⟨_,rfl⟩
 obtain ⟨n,hn⟩:∃ n,n=(qfb (gb s p).toNat).1:=⟨_,rfl⟩
 obtain ⟨r,hr⟩:∃ r,r=(qfb (gb s p).toNat).2:=⟨_,rfl⟩
 have hlead:=q3k (gb s p) w;have hb:=qsz (gb s p).toNat (gb s p).toNat_lt;rw [← hn,← hr] at hlead hb;obtain ⟨hb1,hb2⟩:=hb;have htl:t.length=s.size-(p+1):=by rw [ht,qib]
 have hd:decN (s.data.toList.drop p)=if n=0∨t.length<n-1 then (0,0) else if (t.take (n-1)).all cont then
   (if accR r (t.take (n-1))<qs1 n∨qhc (accR r (t.take (n-1)))=false then (0,0) else (accR r (t.take (n-1)),n)) else (0,0):=by
  rw [qcy s p hp,← ht,hn,hr];rfl
 refine ze Tryz.func216 Tryz.ntmps216 ?_;refine zv ?_;refine zcv (hlead) ?_;rintro v w' ⟨rfl,rfl⟩;conv=>whnf
 (repeat' (first|refine zp ?_|refine zC (fun _=>zw ?_) (fun _=>zw ?_)))
 ·exact ⟨by rw [hd,if_pos Oo];rfl,rfl⟩
 ·exact ⟨by rw [hd,if_pos Oo];rfl,rfl⟩
 ·refine qm (fun k:Nat=>[(0,.string s),(1,ii p),(6,ii n),(7,.int .i32 (accR r (t.take (k-1)))),(8,ii k)])
   (fun k w1=>1≤k∧k≤n∧(t.take (k-1)).all cont=true∧w1=w') (fun k=>n-k) 1 ⟨rfl,rfl,rfl,rfl,rfl,trivial⟩ ⟨by omega,by omega,rfl,rfl⟩ ?_
  rintro k w1 ρ' ⟨h1,h2,h3,rfl⟩;have hacc:=q64 r (t.take (k-1));have hlen:(t.take (k-1)).length=k-1:=by rw [List.length_take];omega
  rw [hlen] at hacc;(conv=>whnf);refine zC (fun _=>zu ?_) (fun _=>zu ?_)
  ·refine IdxV.at_ (p+k) Oo Oo (zw ?_);have hc:(gb s (p+k)).toNat<256:=(gb s (p+k)).toNat_lt;have hg:t.getD (k-1) 0=gb s (p+k):=by rw [ht,qxp];congr 1;omega
   have ht1:t.take k=t.take (k-1)++[gb s (p+k)]:=by
    have:=q3a (l:=t) (k:=k-1) Oo;rw [hg,show k-1+1=k from by omega] at this;exact this
   have hacc2:accR r (t.take (k-1))<524288:=by
    refine Nat.lt_of_lt_of_le hacc (Nat.le_trans (Nat.mul_le_mul (Nat.succ_le_of_lt hb2) (Nat.pow_le_pow_right Oo (show k-1≤2 by omega))) Od)
   refine Wit.eq (y:=(((gb s (p+k)).toNat/64*64:Nat):Int)) (by rw [← qabb _ hc];exact qlj (n:=192) ⟨by omega,by omega⟩ ⟨by decide,by decide⟩) (zw ?_);refine zC (fun _=>zw ?_) (fun _=>zw ?_)
   ·refine ⟨?_,rfl⟩;rw [hd,if_neg Oo,if_neg ?_]
    ·rfl
    ·rw [Bool.not_eq_true];apply List.all_eq_false.2;refine ⟨gb s (p+k),?_,?_⟩
     ·have:gb s (p+k)∈t.take k:=by rw [ht1];simp
      exact List.mem_of_mem_take (i:=k) (by rw [List.take_take,Nat.min_eq_left Oo];exact this)
     ·simp [cont];omega
   ·refine Wit.shl ⟨by decide,by decide⟩ (m:=64) Od rfl ⟨by omega,by omega⟩ (zw ?_);refine Wit.eq (qbb 6 rfl ⟨by omega,by omega⟩ ⟨by omega,by omega⟩) (zu ?_);refine Wit.eq (y:=((accR r (t.take k):Nat):Int)) ?_ ?_
    ·have:=q2d (k:=.i32) (a:=accR r (t.take (k-1))) (b:=(gb s (p+k)).toNat%64) 6 ⟨by omega,by omega⟩ Oo;rw [ht1]
     simpa [accR] using this
    refine zu ?_;refine ⟨k+1,⟨rfl,rfl,rfl,rfl,rfl,trivial⟩,⟨by omega,by omega,?_,rfl⟩,by omega⟩;rw [show k+1-1=k from by omega,ht1,List.all_append,h3];simp [cont];omega
  ·obtain rfl:k=n:=by omega
   refine zcv (qy4 k hb1 _) ?_;rintro v w' ⟨rfl,rfl⟩;(conv=>whnf);refine zC (fun _=>zu ?_) (fun _=>zu ?_)
   ·refine ⟨?_,rfl⟩;rw [hd,if_neg Oo,if_pos h3,if_pos (.inl Oo)];rfl
   ·refine zcv (qvy _ _) ?_;rintro v w' ⟨rfl,rfl⟩;(conv=>whnf);cases hsc:qhc (accR r (t.take (k-1)))
    ·refine zu ?_;refine ⟨?_,rfl⟩;rw [hd,if_neg Oo,if_pos h3,if_pos (.inr hsc)];rfl
    ·refine zu ?_;refine ⟨?_,rfl⟩;rw [hd,if_neg Oo,if_pos h3,if_neg (by rw [hsc];simp;omega)]
def scal (l:LB):Option (List Nat):=
 match l with
 | []=>some []
 | b::t=>if _h:(decN (b::t)).2=0 then none else (scal ((b::t).drop (decN (b::t)).2)).map ((decN (b::t)).1::·)
termination_by l.length
decreasing_by simp;omega
theorem qpw (l:LB):(decN l).2≤l.length:=by
 unfold decN
 split
 ·simp
 ·rename_i b t
  have:=qsz b.toNat b.toNat_lt;simp only
  split
  ·simp
  ·split
   ·split<;>simp;omega
   ·simp
theorem qot {l:LB} (h:l≠[]) (h0:(decN l).2=0):scal l=none:=by
 match l,h with
 | a::t,_=>rw [scal,dif_pos h0]
theorem qjp {l:LB} (h:l≠[]) (h0:(decN l).2≠0):scal l=(scal (l.drop (decN l).2)).map ((decN l).1::·):=by
 match l,h with
 | a::t,_=>rw [scal,dif_neg h0]
theorem qxq (s:ByteArray) (p:Nat) (h:p<s.size):s.data.toList.drop p≠[]:=by
 rw [qcy s p h];simp
theorem qnj (s:ByteArray) (hs:s.size≤140737488355328) (w:World) :
  Gv Tryz.prog 140 [.string s] w fun v w'=>(∃ i:Int,v=ii i∧i<4611686018427387904∧(scal s.data.toList≠none→i=-1)∧(scal s.data.toList=none→0≤i))∧w'=w:=by
 refine ze Tryz.func140 Tryz.ntmps140 ?_;refine qm (fun p:Nat=>[(0,.string s),(3,ii p)]) (fun p w1=>p≤s.size∧(scal s.data.toList=none↔scal (s.data.toList.drop p)=none)∧w1=w) (fun p=>s.size-p) 0 ⟨rfl,rfl,trivial⟩ ⟨by omega,by simp,rfl⟩ ?_;rintro p w1 ρ' ⟨h1,h2,rfl⟩;(conv=>whnf);refine zC (fun _=>zw ?_) (fun _=>zw ?_)
 ·refine zcv (qta s p Oo hs _) ?_;rintro v w' ⟨rfl,rfl⟩;have hle:=qpw (s.data.toList.drop p);rw [qib] at hle;(conv=>whnf);refine zC (fun _=>zu ?_) (fun _=>zu ?_)
  ·refine ⟨⟨p,rfl,by omega,fun h=>?_,fun _=>by omega⟩,rfl⟩;exact absurd (h2.2 (qot (qxq s p Oo) Oo)) h
  ·refine ⟨p+(decN (s.data.toList.drop p)).2,⟨rfl,rfl,trivial⟩,⟨by omega,?_,rfl⟩,by omega⟩;rw [h2,qjp (qxq s p Oo) Oo,List.drop_drop];simp
 ·refine ⟨⟨-1,rfl,by omega,fun _=>rfl,fun h=>?_⟩,rfl⟩;rw [h2,List.drop_eq_nil_of_le Ys] at h;rw [scal] at h;cases h
end Go.Proofs.YtccmcfpmknpccaaGreatDoor
namespace Go.Proofs
open YtccmcfpmknpccaaGreatDoor YtccmcfpmknpccaaGreatDoor.V
open Go.Shelf
def Tryz.lays169_ren:Go.Shelf.Ren:=⟨fun|169=>369|n=>n,fun|70=>470|9=>9|0=>0|72=>472|37=>32|127=>484|3=>3|5=>5|n=>n,fun|n=>n⟩
theorem Tryz.lays169:Go.Proofs.Lays.n169 Tryz.prog Tryz.lays169_ren:={
 mixed:=by kernel_rfl
 f169:=Tryz.func369.trans (congrArg some Jk)
 t0:=Tryz.underlying0
 a0:=Tryz.isAgg0
 z0:=Tryz.sizeOf0
 v0:=Tryz.zeroValue0
 t3:=Tryz.underlying3
 a3:=Tryz.isAgg3
 z3:=Tryz.sizeOf3
 v3:=Tryz.zeroValue3
 t9:=Tryz.underlying9
 a9:=Tryz.isAgg9
 z9:=Tryz.sizeOf9
 v9:=Tryz.zeroValue9
 t37:=Tryz.underlying32
 a37:=Tryz.isAgg32
 z37:=Tryz.sizeOf32
 v37:=Tryz.zeroValue32
 t70:=Tryz.underlying470
 a70:=Tryz.isAgg470
 z70:=Tryz.sizeOf470
 v70:=Tryz.zeroValue470
 t72:=Tryz.underlying472
 a72:=Tryz.isAgg472
 z72:=Tryz.sizeOf472
 v72:=Tryz.zeroValue472
 t127:=Tryz.underlying484
 a127:=Tryz.isAgg484
 z127:=Tryz.sizeOf484
 v127:=Tryz.zeroValue484 }
theorem Tryz.Builder_Extra_169:Builder.Extra Tryz.prog Tryz.lays169_ren:={
 sizeBuilder:=by kernel_rfl
 liesBuilder:=by kernel_rfl
 t5:=Tryz.underlying5
 a5:=Tryz.isAgg5
 z5:=Tryz.sizeOf5
 v5:=Tryz.zeroValue5
 infoByte:=by kernel_rfl
 cellsByte:=by kernel_rfl
 sizeByte:=by kernel_rfl
 neB5:=by decide }
open Go.RowKit in
theorem Tryz.Builder_String_any (B b:Nat) (l:LB) (w:World) (h:Lib.IsBuilder 472 5 B b (Lib.byteCells l) w) (hBw:B≤w.heap.size) :
  Calls Tryz.prog 369 #[pp b] w fun e w'=>e=.returned (.string ⟨l.toArray⟩)∧Below B w w':=Any.Builder_String_any Tryz.lays169 Tryz.Builder_Extra_169 B b l w h hBw
def Tryz.lays165_ren:Go.Shelf.Ren:=⟨fun|165=>366|240=>385|241=>386|276=>392|277=>393|n=>n,fun|70=>470|3=>3|0=>0|4=>4|9=>9|20=>20|72=>472|37=>32|164=>207|5=>5|n=>n,fun|n=>n⟩
theorem Tryz.lays165:Go.Proofs.Lays.n165 Tryz.prog Tryz.lays165_ren:={
 mixed:=by kernel_rfl
 f165:=Tryz.func366.trans (congrArg some Jk)
 f240:=Tryz.func385.trans (congrArg some Jk)
 f241:=Tryz.func386.trans (congrArg some Jk)
 f276:=Tryz.func392.trans (congrArg some Jk)
 f277:=Tryz.func393.trans (congrArg some Jk)
 t0:=Tryz.underlying0
 a0:=Tryz.isAgg0
 z0:=Tryz.sizeOf0
 v0:=Tryz.zeroValue0
 t3:=Tryz.underlying3
 a3:=Tryz.isAgg3
 z3:=Tryz.sizeOf3
 v3:=Tryz.zeroValue3
 t4:=Tryz.underlying4
 a4:=Tryz.isAgg4
 z4:=Tryz.sizeOf4
 v4:=Tryz.zeroValue4
 t9:=Tryz.underlying9
 a9:=Tryz.isAgg9
 z9:=Tryz.sizeOf9
 v9:=Tryz.zeroValue9
 t20:=Tryz.underlying20
 a20:=Tryz.isAgg20
 z20:=Tryz.sizeOf20
 v20:=Tryz.zeroValue20
 t37:=Tryz.underlying32
 a37:=Tryz.isAgg32
 z37:=Tryz.sizeOf32
 v37:=Tryz.zeroValue32
 t70:=Tryz.underlying470
 a70:=Tryz.isAgg470
 z70:=Tryz.sizeOf470
 v70:=Tryz.zeroValue470
 t72:=Tryz.underlying472
 a72:=Tryz.isAgg472
 z72:=Tryz.sizeOf472
 v72:=Tryz.zeroValue472
 t164:=Tryz.underlying207
 a164:=Tryz.isAgg207
 z164:=Tryz.sizeOf207
 v164:=Tryz.zeroValue207 }
theorem Tryz.Builder_Extra_165:Builder.Extra Tryz.prog Tryz.lays165_ren:={
 sizeBuilder:=by kernel_rfl
 liesBuilder:=by kernel_rfl
 t5:=Tryz.underlying5
 a5:=Tryz.isAgg5
 z5:=Tryz.sizeOf5
 v5:=Tryz.zeroValue5
 infoByte:=by kernel_rfl
 cellsByte:=by kernel_rfl
 sizeByte:=by kernel_rfl
 neB5:=by decide }
open Go.RowKit in
theorem Tryz.Builder_Grow_fresh (B b n:Nat) (w:World) (hB:B≤b) (hbk:w.heap[b]?=some (.cells #[.pointer none,.slice none 0 0] 472)) (hBw:B≤w.heap.size) (hn:n≤281474976710656) :
  Calls Tryz.prog 366 #[pp b,ii n] w fun e w'=>e=.returned (.tuple #[])∧(Lib.BuilderAt 472 5 B b (pp b) [] w'∧Below B w w'):=Any.Builder_Grow_fresh Tryz.lays165 Tryz.Builder_Extra_165 B b n w hB hbk hBw hn
def Tryz.lays119_ren:Go.Shelf.Ren:=⟨fun|119=>373|n=>n,fun|21=>21|4=>4|n=>n,fun|n=>n⟩
theorem Tryz.lays119:Go.Proofs.Lays.n119 Tryz.prog Tryz.lays119_ren:={
 mixed:=by kernel_rfl
 f119:=Tryz.func373.trans (congrArg some Jk)
 t4:=Tryz.underlying4
 a4:=Tryz.isAgg4
 z4:=Tryz.sizeOf4
 v4:=Tryz.zeroValue4
 t21:=Tryz.underlying21
 a21:=Tryz.isAgg21
 z21:=Tryz.sizeOf21
 v21:=Tryz.zeroValue21 }
theorem Tryz.utf8_ValidRune (r:Int) (w:World) :
  Calls Tryz.prog 373 #[.int .i32 r] w fun e w'=>e=.returned (.bool (Lib.validRune r))∧w'=w:=Any.utf8_ValidRune Tryz.lays119 r w
def Tryz.lays213_ren:Go.Shelf.Ren:=⟨fun|213=>125|265=>205|n=>n,fun|9=>9|3=>3|n=>n,fun|n=>n⟩
def Tryz.lays106_ren:Go.Shelf.Ren:=⟨fun|106=>60|213=>125|265=>205|n=>n,fun|9=>9|3=>3|n=>n,fun|n=>n⟩
theorem Tryz.lays106:Go.Proofs.Lays.n106 Tryz.prog Tryz.lays106_ren:={
 mixed:=by kernel_rfl
 f106:=Tryz.func60.trans (congrArg some Jk)
 f213:=Tryz.func125.trans (congrArg some Jk)
 f265:=Tryz.func205.trans (congrArg some Jk)
 t3:=Tryz.underlying3
 a3:=Tryz.isAgg3
 z3:=Tryz.sizeOf3
 v3:=Tryz.zeroValue3
 t9:=Tryz.underlying9
 a9:=Tryz.isAgg9
 z9:=Tryz.sizeOf9
 v9:=Tryz.zeroValue9 }
open Go.RowKit in
theorem Tryz.strings_Compare (a b:ByteArray) (w:World) :
  Calls Tryz.prog 60 #[.string a,.string b] w fun e w'=>e=.returned (ii (Lib.compareBytes a.data.toList b.data.toList))∧w'=w:=Any.strings_Compare Tryz.lays106 a b w
def Tryz.lays137_ren:Go.Shelf.Ren:=⟨fun|137=>372|217=>388|266=>394|n=>n,fun|9=>9|5=>5|3=>3|n=>n,fun|n=>n⟩
theorem Tryz.lays137:Go.Proofs.Lays.n137 Tryz.prog Tryz.lays137_ren:={
 mixed:=by kernel_rfl
 f137:=Tryz.func372.trans (congrArg some Jk)
 f217:=Tryz.func388.trans (congrArg some Jk)
 f266:=Tryz.func394.trans (congrArg some Jk)
 t3:=Tryz.underlying3
 a3:=Tryz.isAgg3
 z3:=Tryz.sizeOf3
 v3:=Tryz.zeroValue3
 t5:=Tryz.underlying5
 a5:=Tryz.isAgg5
 z5:=Tryz.sizeOf5
 v5:=Tryz.zeroValue5
 t9:=Tryz.underlying9
 a9:=Tryz.isAgg9
 z9:=Tryz.sizeOf9
 v9:=Tryz.zeroValue9 }
open Go.RowKit in
theorem Tryz.strings_IndexByte (s:ByteArray) (c:Int) (w:World) :
  Calls Tryz.prog 372 #[.string s,.int .u8 c] w fun e w'=>e=.returned (ii (Lib.indexByte s.data.toList c.toNat.toUInt8))∧w'=w:=Any.strings_IndexByte Tryz.lays137 s c w
def Tryz.lays129_ren:Go.Shelf.Ren:=⟨fun|129=>259|n=>n,fun|53=>164|3=>3|4=>4|46=>272|5=>5|9=>9|n=>n,fun|n=>n⟩
theorem Tryz.lays129:Go.Proofs.Lays.n129 Tryz.prog Tryz.lays129_ren:={
 mixed:=by kernel_rfl
 f129:=Tryz.func259.trans (congrArg some Jk)
 t3:=Tryz.underlying3
 a3:=Tryz.isAgg3
 z3:=Tryz.sizeOf3
 v3:=Tryz.zeroValue3
 t4:=Tryz.underlying4
 a4:=Tryz.isAgg4
 z4:=Tryz.sizeOf4
 v4:=Tryz.zeroValue4
 t5:=Tryz.underlying5
 a5:=Tryz.isAgg5
 z5:=Tryz.sizeOf5
 v5:=Tryz.zeroValue5
 t9:=Tryz.underlying9
 a9:=Tryz.isAgg9
 z9:=Tryz.sizeOf9
 v9:=Tryz.zeroValue9
 t46:=Tryz.underlying272
 a46:=Tryz.isAgg272
 z46:=Tryz.sizeOf272
 v46:=Tryz.zeroValue272
 t53:=Tryz.underlying164
 a53:=Tryz.isAgg164
 z53:=Tryz.sizeOf164
 v53:=Tryz.zeroValue164 }
theorem Tryz.bits_Len64 (x:Int) (w:World) (h0:0≤x) (h1:x≤18446744073709551615) :
  Calls Tryz.prog 259 #[.int .u64 x] w fun e w'=>e=.returned (ii (Lib.bitLen x.toNat))∧w'=w:=Any.bits_Len64 Tryz.lays129 x w h0 h1
def Tryz.lays219_ren:Go.Shelf.Ren:=⟨fun|219=>378|217=>388|225=>375|224=>374|267=>389|266=>394|314=>395|n=>n,fun|9=>9|3=>3|4=>4|5=>5|46=>272|146=>491|51=>179|n=>n,fun|1=>1|n=>n⟩
def Tryz.lays143_ren:Go.Shelf.Ren:=⟨fun|143=>341|219=>378|217=>388|225=>375|224=>374|267=>389|266=>394|314=>395|n=>n,fun|9=>9|3=>3|4=>4|5=>5|46=>272|146=>491|51=>179|n=>n,fun|1=>1|n=>n⟩
theorem Tryz.lays143:Go.Proofs.Lays.n143 Tryz.prog Tryz.lays143_ren:={
 mixed:=by kernel_rfl
 f143:=Tryz.func341.trans (congrArg some Jk)
 f217:=Tryz.func388.trans (congrArg some Jk)
 f219:=Tryz.func378.trans (congrArg some Jk)
 f224:=Tryz.func374.trans (congrArg some Jk)
 f225:=Tryz.func375.trans (congrArg some Jk)
 f266:=Tryz.func394.trans (congrArg some Jk)
 f267:=Tryz.func389.trans (congrArg some Jk)
 f314:=Tryz.func395.trans (congrArg some Jk)
 t3:=Tryz.underlying3
 a3:=Tryz.isAgg3
 z3:=Tryz.sizeOf3
 v3:=Tryz.zeroValue3
 t4:=Tryz.underlying4
 a4:=Tryz.isAgg4
 z4:=Tryz.sizeOf4
 v4:=Tryz.zeroValue4
 t5:=Tryz.underlying5
 a5:=Tryz.isAgg5
 z5:=Tryz.sizeOf5
 v5:=Tryz.zeroValue5
 t9:=Tryz.underlying9
 a9:=Tryz.isAgg9
 z9:=Tryz.sizeOf9
 v9:=Tryz.zeroValue9
 t46:=Tryz.underlying272
 a46:=Tryz.isAgg272
 z46:=Tryz.sizeOf272
 v46:=Tryz.zeroValue272
 t51:=Tryz.underlying179
 a51:=Tryz.isAgg179
 z51:=Tryz.sizeOf179
 v51:=Tryz.zeroValue179
 t146:=Tryz.underlying491
 a146:=Tryz.isAgg491
 z146:=Tryz.sizeOf491
 v146:=Tryz.zeroValue491
 g1:=by kernel_rfl }
open Go.RowKit Go.Lib in
theorem Tryz.strings_Index (s sub:ByteArray) (m:Int) (w:World) (hs:s.size<4294967281) (hm:w.cell? ⟨1,0,none⟩=some (ii m)) :
  Calls Tryz.prog 341 #[.string s,.string sub] w fun e w'=>e=.returned (ii (Lib.index s.data.toList sub.data.toList))∧w'=w:=Any.strings_Index Tryz.lays143 s sub m w hs hm
def Tryz.lays145_ren:Go.Shelf.Ren:=⟨fun|145=>344|220=>379|219=>378|217=>388|225=>375|224=>374|267=>389|266=>394|314=>395|n=>n,fun|9=>9|4=>4|59=>388|3=>3|5=>5|46=>272|146=>491|51=>179|n=>n,fun|1=>1|n=>n⟩
theorem Tryz.lays145:Go.Proofs.Lays.n145 Tryz.prog Tryz.lays145_ren:={
 mixed:=by kernel_rfl
 f145:=Tryz.func344.trans (congrArg some Jk)
 f217:=Tryz.func388.trans (congrArg some Jk)
 f219:=Tryz.func378.trans (congrArg some Jk)
 f220:=Tryz.func379.trans (congrArg some Jk)
 f224:=Tryz.func374.trans (congrArg some Jk)
 f225:=Tryz.func375.trans (congrArg some Jk)
 f266:=Tryz.func394.trans (congrArg some Jk)
 f267:=Tryz.func389.trans (congrArg some Jk)
 f314:=Tryz.func395.trans (congrArg some Jk)
 t3:=Tryz.underlying3
 a3:=Tryz.isAgg3
 z3:=Tryz.sizeOf3
 v3:=Tryz.zeroValue3
 t4:=Tryz.underlying4
 a4:=Tryz.isAgg4
 z4:=Tryz.sizeOf4
 v4:=Tryz.zeroValue4
 t5:=Tryz.underlying5
 a5:=Tryz.isAgg5
 z5:=Tryz.sizeOf5
 v5:=Tryz.zeroValue5
 t9:=Tryz.underlying9
 a9:=Tryz.isAgg9
 z9:=Tryz.sizeOf9
 v9:=Tryz.zeroValue9
 t46:=Tryz.underlying272
 a46:=Tryz.isAgg272
 z46:=Tryz.sizeOf272
 v46:=Tryz.zeroValue272
 t51:=Tryz.underlying179
 a51:=Tryz.isAgg179
 z51:=Tryz.sizeOf179
 v51:=Tryz.zeroValue179
 t59:=Tryz.underlying388
 a59:=Tryz.isAgg388
 z59:=Tryz.sizeOf388
 v59:=Tryz.zeroValue388
 t146:=Tryz.underlying491
 a146:=Tryz.isAgg491
 z146:=Tryz.sizeOf491
 v146:=Tryz.zeroValue491
 g1:=by kernel_rfl }
open Go.RowKit Go.Lib in
theorem Tryz.strings_Cut (s sep:ByteArray) (m:Int) (w:World) (hs:s.size<4294967281) (hm:w.cell? ⟨1,0,none⟩=some (ii m)) :
  Calls Tryz.prog 344 #[.string s,.string sep] w fun e w'=>e=.returned (.tuple #[.string ⟨(Lib.cut s.data.toList sep.data.toList).1.toArray⟩,.string ⟨(Lib.cut s.data.toList sep.data.toList).2.1.toArray⟩,.bool (Lib.cut s.data.toList sep.data.toList).2.2])∧∃ n,w'=w.drewN n:=Any.strings_Cut Tryz.lays145 s sep m w hs hm
def Tryz.lays138_ren:Go.Shelf.Ren:=⟨fun|138=>340|195=>376|218=>377|143=>341|219=>378|217=>388|225=>375|224=>374|267=>389|266=>394|314=>395|n=>n,fun|9=>9|3=>3|4=>4|5=>5|0=>0|46=>272|146=>491|51=>179|n=>n,fun|1=>1|n=>n⟩
theorem Tryz.lays138:Go.Proofs.Lays.n138 Tryz.prog Tryz.lays138_ren:={
 mixed:=by kernel_rfl
 f138:=Tryz.func340.trans (congrArg some Jk)
 f143:=Tryz.func341.trans (congrArg some Jk)
 f195:=Tryz.func376.trans (congrArg some Jk)
 f217:=Tryz.func388.trans (congrArg some Jk)
 f218:=Tryz.func377.trans (congrArg some Jk)
 f219:=Tryz.func378.trans (congrArg some Jk)
 f224:=Tryz.func374.trans (congrArg some Jk)
 f225:=Tryz.func375.trans (congrArg some Jk)
 f266:=Tryz.func394.trans (congrArg some Jk)
 f267:=Tryz.func389.trans (congrArg some Jk)
 f314:=Tryz.func395.trans (congrArg some Jk)
 t0:=Tryz.underlying0
 a0:=Tryz.isAgg0
 z0:=Tryz.sizeOf0
 v0:=Tryz.zeroValue0
 t3:=Tryz.underlying3
 a3:=Tryz.isAgg3
 z3:=Tryz.sizeOf3
 v3:=Tryz.zeroValue3
 t4:=Tryz.underlying4
 a4:=Tryz.isAgg4
 z4:=Tryz.sizeOf4
 v4:=Tryz.zeroValue4
 t5:=Tryz.underlying5
 a5:=Tryz.isAgg5
 z5:=Tryz.sizeOf5
 v5:=Tryz.zeroValue5
 t9:=Tryz.underlying9
 a9:=Tryz.isAgg9
 z9:=Tryz.sizeOf9
 v9:=Tryz.zeroValue9
 t46:=Tryz.underlying272
 a46:=Tryz.isAgg272
 z46:=Tryz.sizeOf272
 v46:=Tryz.zeroValue272
 t51:=Tryz.underlying179
 a51:=Tryz.isAgg179
 z51:=Tryz.sizeOf179
 v51:=Tryz.zeroValue179
 t146:=Tryz.underlying491
 a146:=Tryz.isAgg491
 z146:=Tryz.sizeOf491
 v146:=Tryz.zeroValue491
 g1:=by kernel_rfl }
open Go.RowKit Go.Lib in
theorem Tryz.strings_Count_any (s sep:ByteArray) (m:Int) (w:World) (hs:s.size<4294967281) (hm:w.cell? ⟨1,0,none⟩=some (ii m)) (h1:1≤sep.size) :
  Calls Tryz.prog 340 #[.string s,.string sep] w fun e w'=>e=.returned (ii (Lib.countB s sep))∧w'=w:=Any.strings_Count_any Tryz.lays138 s sep m w hs hm h1
def Tryz.lays221_ren:Go.Shelf.Ren:=⟨fun|221=>289|268=>339|138=>340|143=>341|195=>376|197=>368|218=>377|219=>378|260=>387|217=>388|225=>375|224=>374|267=>389|266=>394|314=>395|n=>n,fun|9=>9|3=>3|31=>159|4=>4|0=>0|105=>353|21=>21|5=>5|46=>272|119=>487|139=>490|138=>489|146=>491|51=>179|n=>n,fun|1=>1|3=>5|4=>6|n=>n⟩
def Tryz.lays146_ren:Go.Shelf.Ren:=⟨fun|146=>217|221=>289|268=>339|138=>340|143=>341|195=>376|197=>368|218=>377|219=>378|260=>387|217=>388|225=>375|224=>374|267=>389|266=>394|314=>395|n=>n,fun|9=>9|31=>159|3=>3|4=>4|0=>0|105=>353|21=>21|5=>5|46=>272|119=>487|139=>490|138=>489|146=>491|51=>179|n=>n,fun|1=>1|3=>5|4=>6|n=>n⟩
theorem Tryz.lays146:Go.Proofs.Lays.n146 Tryz.prog Tryz.lays146_ren:={
 mixed:=by kernel_rfl
 f138:=Tryz.func340.trans (congrArg some Jk)
 f143:=Tryz.func341.trans (congrArg some Jk)
 f146:=Tryz.func217.trans (congrArg some Jk)
 f195:=Tryz.func376.trans (congrArg some Jk)
 f197:=Tryz.func368.trans (congrArg some Jk)
 f217:=Tryz.func388.trans (congrArg some Jk)
 f218:=Tryz.func377.trans (congrArg some Jk)
 f219:=Tryz.func378.trans (congrArg some Jk)
 f221:=Tryz.func289.trans (congrArg some Jk)
 f224:=Tryz.func374.trans (congrArg some Jk)
 f225:=Tryz.func375.trans (congrArg some Jk)
 f260:=Tryz.func387.trans (congrArg some Jk)
 f266:=Tryz.func394.trans (congrArg some Jk)
 f267:=Tryz.func389.trans (congrArg some Jk)
 f268:=Tryz.func339.trans (congrArg some Jk)
 f314:=Tryz.func395.trans (congrArg some Jk)
 t0:=Tryz.underlying0
 a0:=Tryz.isAgg0
 z0:=Tryz.sizeOf0
 v0:=Tryz.zeroValue0
 t3:=Tryz.underlying3
 a3:=Tryz.isAgg3
 z3:=Tryz.sizeOf3
 v3:=Tryz.zeroValue3
 t4:=Tryz.underlying4
 a4:=Tryz.isAgg4
 z4:=Tryz.sizeOf4
 v4:=Tryz.zeroValue4
 t5:=Tryz.underlying5
 a5:=Tryz.isAgg5
 z5:=Tryz.sizeOf5
 v5:=Tryz.zeroValue5
 t9:=Tryz.underlying9
 a9:=Tryz.isAgg9
 z9:=Tryz.sizeOf9
 v9:=Tryz.zeroValue9
 t21:=Tryz.underlying21
 a21:=Tryz.isAgg21
 z21:=Tryz.sizeOf21
 v21:=Tryz.zeroValue21
 t31:=Tryz.underlying159
 a31:=Tryz.isAgg159
 z31:=Tryz.sizeOf159
 v31:=Tryz.zeroValue159
 t46:=Tryz.underlying272
 a46:=Tryz.isAgg272
 z46:=Tryz.sizeOf272
 v46:=Tryz.zeroValue272
 t51:=Tryz.underlying179
 a51:=Tryz.isAgg179
 z51:=Tryz.sizeOf179
 v51:=Tryz.zeroValue179
 t105:=Tryz.underlying353
 a105:=Tryz.isAgg353
 z105:=Tryz.sizeOf353
 v105:=Tryz.zeroValue353
 t119:=Tryz.underlying487
 a119:=Tryz.isAgg487
 z119:=Tryz.sizeOf487
 t138:=Tryz.underlying489
 a138:=Tryz.isAgg489
 z138:=Tryz.sizeOf489
 v138:=Tryz.zeroValue489
 t139:=Tryz.underlying490
 a139:=Tryz.isAgg490
 z139:=Tryz.sizeOf490
 v139:=Tryz.zeroValue490
 t146:=Tryz.underlying491
 a146:=Tryz.isAgg491
 z146:=Tryz.sizeOf491
 v146:=Tryz.zeroValue491
 g1:=by kernel_rfl
 g3:=by kernel_rfl
 g4:=by kernel_rfl }
open Go.RowKit Go.Lib in
theorem Tryz.strings_Split (s sep:ByteArray) (m:Int) (w:World) (hs:s.size<4294967281) (hm:w.cell? ⟨1,0,none⟩=some (ii m)) (h1:1≤sep.size) :
  Calls Tryz.prog 217 #[.string s,.string sep] w fun e w'=>
   e=.returned (.slice (some ⟨w.heap.size,0,none⟩) (Lib.countB s sep+1) (Lib.countB s sep+1))∧w'=w.alloc (.cells ((Lib.splitB sep 0 (Lib.countB s sep) s).map Value.string).toArray 9):=Any.strings_Split Tryz.lays146 Jk s sep m w hs hm h1
def Tryz.lays151_ren:Go.Shelf.Ren:=⟨fun|151=>282|152=>337|137=>372|119=>373|224=>374|225=>375|217=>388|266=>394|n=>n,fun|9=>9|21=>21|4=>4|3=>3|5=>5|0=>0|46=>272|n=>n,fun|n=>n⟩
theorem Tryz.lays151:Go.Proofs.Lays.n151 Tryz.prog Tryz.lays151_ren:={
 mixed:=by kernel_rfl
 f119:=Tryz.func373.trans (congrArg some Jk)
 f137:=Tryz.func372.trans (congrArg some Jk)
 f151:=Tryz.func282.trans (congrArg some Jk)
 f152:=Tryz.func337.trans (congrArg some Jk)
 f217:=Tryz.func388.trans (congrArg some Jk)
 f224:=Tryz.func374.trans (congrArg some Jk)
 f225:=Tryz.func375.trans (congrArg some Jk)
 f266:=Tryz.func394.trans (congrArg some Jk)
 t0:=Tryz.underlying0
 a0:=Tryz.isAgg0
 z0:=Tryz.sizeOf0
 v0:=Tryz.zeroValue0
 t3:=Tryz.underlying3
 a3:=Tryz.isAgg3
 z3:=Tryz.sizeOf3
 v3:=Tryz.zeroValue3
 t4:=Tryz.underlying4
 a4:=Tryz.isAgg4
 z4:=Tryz.sizeOf4
 v4:=Tryz.zeroValue4
 t5:=Tryz.underlying5
 a5:=Tryz.isAgg5
 z5:=Tryz.sizeOf5
 v5:=Tryz.zeroValue5
 t9:=Tryz.underlying9
 a9:=Tryz.isAgg9
 z9:=Tryz.sizeOf9
 v9:=Tryz.zeroValue9
 t21:=Tryz.underlying21
 a21:=Tryz.isAgg21
 z21:=Tryz.sizeOf21
 v21:=Tryz.zeroValue21
 t46:=Tryz.underlying272
 a46:=Tryz.isAgg272
 z46:=Tryz.sizeOf272
 v46:=Tryz.zeroValue272 }
open Go.RowKit Go.Lib in
theorem Tryz.strings_ContainsRune_ascii (s:ByteArray) (r:Int) (w:World) (h0:0≤r) (h1:r<128) :
  Calls Tryz.prog 282 #[.string s,.int .i32 r] w fun e w'=>e=.returned (.bool (decide (0≤Lib.indexByte s.data.toList r.toNat.toUInt8)))∧w'=w:=Any.strings_ContainsRune_ascii Tryz.lays151 s r w h0 h1
def Tryz.lays110_ren:Go.Shelf.Ren:=⟨fun|110=>296|109=>343|n=>n,fun|31=>159|9=>9|4=>4|3=>3|0=>0|n=>n,fun|n=>n⟩
theorem Tryz.lays110:Go.Proofs.Lays.n110 Tryz.prog Tryz.lays110_ren:={
 mixed:=by kernel_rfl
 f109:=Tryz.func343.trans (congrArg some Jk)
 f110:=Tryz.func296.trans (congrArg some Jk)
 t0:=Tryz.underlying0
 a0:=Tryz.isAgg0
 z0:=Tryz.sizeOf0
 v0:=Tryz.zeroValue0
 t3:=Tryz.underlying3
 a3:=Tryz.isAgg3
 z3:=Tryz.sizeOf3
 v3:=Tryz.zeroValue3
 t4:=Tryz.underlying4
 a4:=Tryz.isAgg4
 z4:=Tryz.sizeOf4
 v4:=Tryz.zeroValue4
 t9:=Tryz.underlying9
 a9:=Tryz.isAgg9
 z9:=Tryz.sizeOf9
 v9:=Tryz.zeroValue9
 t31:=Tryz.underlying159
 a31:=Tryz.isAgg159
 z31:=Tryz.sizeOf159
 v31:=Tryz.zeroValue159 }
open Go.Lib in
theorem Tryz.slices_Contains_string (b off n c:Nat) (zs:List ByteArray) (x:ByteArray) (w:World) (hz:n≤zs.length) (hbig:n≤9223372036854775807) (hc:∀ j,j<zs.length→w.cell? ⟨b,off+j,none⟩=some (.string (zs.getD j ByteArray.empty))) :
  Calls Tryz.prog 296 #[.slice (some ⟨b,off,none⟩) n c,.string x] w fun e w'=>e=.returned (.bool (Lib.containsS (zs.take n) x))∧w'=w:=Any.slices_Contains_string Tryz.lays110 b off n c zs x w hz hbig hc
open Go.Lib in
theorem Tryz.slices_Contains_string_empty (a:oA) (c:Nat) (x:ByteArray) (w:World) :
  Calls Tryz.prog 296 #[.slice a 0 c,.string x] w fun e w'=>e=.returned (.bool false)∧w'=w:=Any.slices_Contains_string_empty Tryz.lays110 a c x w
end Go.Proofs
