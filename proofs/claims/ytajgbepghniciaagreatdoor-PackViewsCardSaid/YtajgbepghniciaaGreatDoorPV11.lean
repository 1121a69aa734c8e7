/- Lemmas and contracts of functions on the way to the law's card (part 11 of 13). -/
import Derived.Test.YtajgbepghniciaaGreatDoorPV10
import Derived.TacticsIn
import Derived.RangeFuncSeq
import Derived.RangeFuncLeaves
namespace Go.Proofs.YtajgbepghniciaaGreatDoor
open Go.RowKit
namespace V
def Fr (r:Option Nat):Fence:={ fn:=fun _=>True,depth:=none,alive:=false,round:=r }
theorem qed {r:Option Nat} {m:Nat} {P:Program} {f:FuncId} {args:Array Value} {w:World} {R:Ending→World→Prop}:CallsIn (Fr r) m P f args w R↔Calls P f args w R:=by
 show CallsIn Fence.wide m P f args w R↔_;exact callsIn_wide
def Sw (n:Nat) (ρ:Nat→Value) (a:Act):Prop:=St n ρ { a with defers:=[] }
theorem Sw.eval {n:Nat} {ρ:Nat→Value} {a:Act} (h:Sw n ρ a):a.eval=ev ρ:=by
 have:=St.eval h;rw [← this];funext x;cases x<;>rfl
theorem Sw.put {n:Nat} {ρ:Nat→Value} {a:Act} (h:Sw n ρ a) (ds:List Deferred) {dst:Option Tmp} {v:Value} {K:(Nat→Value)→Prop} (hk:putV n dst ρ v K) :
  ∃ ρ',Sw n ρ' ({ a with defers:=ds }.put dst v)∧({ a with defers:=ds }.put dst v).defers=ds∧K ρ':=by
 obtain ⟨ρ',h1,h2⟩:=putV.st hk h;refine ⟨ρ',?_,?_,h2⟩
 ·cases dst<;>exact h1
 ·cases dst<;>rfl
theorem Sw.st {n:Nat} {ρ:Nat→Value} {a:Act} (h:Sw n ρ a) (hd:a.defers=[]):St n ρ a:=by
 have:a={ a with defers:=[] }:=by cases a;cases hd;rfl
 rw [this];exact h
theorem St.sw {n:Nat} {ρ:Nat→Value} {a:Act} (h:St n ρ a):Sw n ρ a:=by
 have:a={ a with defers:=[] }:=by have:=h.defers;cases a;cases this;rfl
 unfold Sw;rw [← this];exact h
structure YieldV (P:Program) (l:Nat) (args:List Value) (w:World) (K:Value→World→Prop):Prop where
 h:YieldAt (Fr none) 0 P l args.toArray w fun e w'=>∃ v,e=.returned v∧K v w'
theorem YieldV.mono {P:Program} {l:Nat} {args:List Value} {w:World} {K K':Value→World→Prop} (h:YieldV P l args w K) (hk:∀ v w',K v w'→K' v w'):YieldV P l args w K':=by
 obtain ⟨fn,tmps,asg,b,h1,h2⟩:=h.h;exact ⟨⟨fn,tmps,asg,b,h1,h2.mono fun e w' ⟨v,he,hv⟩=>⟨v,he,hk _ _ hv⟩⟩⟩
def qx9 (P:Program) (c:Call) (ty:TypeId) (ρ:Nat→Value) (w:World) (s:Sem Next) (K:Value→World→Prop):Prop:=
 match c.callee with
 | .value f=>match ev ρ f with
  | .func (.yield l) first captured=>match first.toList,captured.toList with
   | [],[]=>qb2 (evs ρ c.args.toList) fun vs=>YieldV P l vs w K
   | _,_=>False
  | .func (.func g) first captured=>qb2 (evs ρ c.args.toList) fun vs=>
   match first.toList,captured.toList with
   | [],[]=>CallV P g vs w K
   | x,y=>CallV P g (x++(vs++y)) w K
  | _=>Fall P s w K
 | .builtin .len=>lenV P (getL c.argTypes.toList 0) (evs ρ c.args.toList) w s K
 | .builtin .append=>appV P c.argTypes ty (evs ρ c.args.toList) w s K
 | _=>Fall P s w K
def defW (c:Call) (ρ:Nat→Value) (K:Deferred→Prop):Prop:=
 match c.callee with
 | .value f=>match ev ρ f with
  | .func (.func g) first captured=>match first.toList,captured.toList with
   | [],[]=>qb2 (evs ρ c.args.toList) fun vs=>K { target:=.fn (.func g) #[],args:=vs.toArray }
   | _,_=>False
  | _=>False
 | _=>False
def opW (P:Program) (r:Option Nat) (o:Oper) (ρ:Nat→Value) (ds:List Deferred) (w:World) (K:Value→List Deferred→World→Prop):Prop:=
 match o.op with
 | .call c=>qx9 P c o.type ρ w (execOp (ev ρ) o) fun v w'=>K v ds w'
 | .defer c=>match r with
  | none=>defW c ρ fun d=>K undef (d::ds) w
  | some _=>False
 | _=>opV P o ρ w fun v w'=>K v ds w'
section
variable {P:Program} {n:Nat} {r:Option Nat}
theorem qvm {ρ:Nat→Value} {w:World} {o:Oper} {c:Call} {K:Value→World→Prop} (ho:o.op=.call c) (h:qx9 P c o.type ρ w (execOp (ev ρ) o) K) :
  OpOk P (execOp (ev ρ) o) w K∨∃ l f tmps asg b,(execOp (ev ρ) o).run P w=.ok (.round l f tmps asg b) w∧RoundIn (Fr none) 0 P l f tmps asg b w fun e w'=>∃ v,e=.returned v∧K v w':=by
 have key:qsh P c o.type ρ w (execOp (ev ρ) o) K→OpOk P (execOp (ev ρ) o) w K:=qo1 ho;unfold qx9 at h;unfold qsh at key
 split at h
 ·rename_i f hc
  simp only [hc] at key
  split at h
  ·rename_i l first captured hf
   split at h
   ·rename_i h1 h2
    rw [qak] at h;obtain ⟨f',tmps,asg,b,hy,hR⟩:=h.h;refine .inr ⟨l,f',tmps,asg,b,?_,hR⟩;have e1:first=#[]:=by rw [← Array.toList_inj];simpa using h1
    have e2:captured=#[]:=by rw [← Array.toList_inj];simpa using h2
    subst e1 e2;rw [qdm] at hy;have e3:(c.args.toList.map (ev ρ)).toArray=c.args.map (ev ρ):=by rw [← Array.toList_inj];simp
    rw [e3] at hy;simp only [execOp,ho,resolve,hc,hf];simp [go_sem,Deferred.ofValue,invoke,hy]
   ·exact h.elim
  ·rename_i g first captured hf
   rw [hf] at key;exact .inl (key h)
  ·rename_i hn1 hn2
   exact .inl (.inl h.ok)
 ·rename_i hc
  simp only [hc] at key;exact .inl (key h)
 ·rename_i hc
  simp only [hc] at key;exact .inl (key h)
 ·exact .inl (.inl h.ok)
theorem q0d {o:Oper} {ρ:Nat→Value} {ds:List Deferred} {w:World} {K:Value→List Deferred→World→Prop} {a:Act} {next:Act→World→Prop} {Q:Exit→Act→World→Prop}
  (ha:Sw n ρ a) (hd:a.defers=ds) (h:opW P r o ρ ds w K) (hn:∀ v ds' w',K v ds' w'→next ({ a with defers:=ds' }.put o.dst v) w'):o.wpIn (Fr r) 0 P a w next Q:=by
 refine ⟨fun _ _=>trivial,?_⟩;have hds:({ a with defers:=ds }:Act)=a:=by subst hd;rfl
 have hn0:∀ v w',K v ds w'→next (a.put o.dst v) w':=fun v w' hk=>by have:=hn v ds w' hk;rwa [hds] at this
 rw [ha.eval];unfold opW at h
 split at h
 ·rename_i c ho
  rw [Oper.semAt_eq _ _ _ (by intro c' e;rw [ho] at e;cases e)]
  rcases qvm ho h with ((⟨v,w',h1,h2⟩|⟨w',h1,h2⟩)|⟨f,args,h1,h2⟩)|⟨l,f,tmps,asg,b,h1,h2⟩
  ·rw [h1];exact hn0 _ _ h2
  ·rw [h1];exact hn0 _ _ h2
  ·rw [h1,Oper.uponIn_enter];refine ⟨fun h=>by simp [Fr] at h,qed.2 (h2.mono fun e w' ⟨v,he,hk⟩=>?_)⟩;subst he;exact hn0 _ _ hk
  ·rw [h1,Oper.uponIn_round];refine ⟨fun h=>by simp [Fr] at h,?_⟩;have h2:RoundIn (Fr r) 0 P l f tmps asg b w _:=h2;refine h2.mono fun e w' ⟨v,he,hk⟩=>?_;subst he;exact hn0 _ _ hk
 ·rename_i c ho
  split at h
  ·unfold defW at h
   split at h
   ·rename_i f hc
    split at h
    ·rename_i g first captured hf
     split at h
     ·rename_i h1 h2
      rw [qak] at h;have e1:first=#[]:=by rw [← Array.toList_inj];simpa using h1
      have e2:captured=#[]:=by rw [← Array.toList_inj];simpa using h2
      subst e1 e2;rw [qdm] at h;have e3:(c.args.toList.map (ev ρ)).toArray=c.args.map (ev ρ):=by rw [← Array.toList_inj];simp
      rw [e3] at h;have e4:(Oper.semAt none (ev ρ) o).run P w=.ok (.defer { target:=.fn (.func g) #[],args:=c.args.map (ev ρ) }) w:=by
       simp only [Oper.semAt_none,execOp,ho,resolve,hc,hf];simp [go_sem,Deferred.ofValue]
      have e5:(Fr none).round=none:=rfl;rw [e5,e4,Oper.uponIn_defer];subst hd;exact hn _ _ _ h
     ·exact h.elim
    ·exact h.elim
   ·exact h.elim
  ·exact h.elim
 ·rename_i hn1 hn2
  rw [Oper.semAt_eq _ _ _ (fun c e=>hn2 c e)]
  rcases qpl h with (⟨v,w',h1,h2⟩|⟨w',h1,h2⟩)|⟨f,args,h1,h2⟩
  ·rw [h1];exact hn0 _ _ h2
  ·rw [h1];exact hn0 _ _ h2
  ·rw [h1,Oper.uponIn_enter];refine ⟨fun h=>by simp [Fr] at h,qed.2 (h2.mono fun e w' ⟨v,he,hk⟩=>?_)⟩;subst he;exact hn0 _ _ hk
end
def runW (P:Program) (n:Nat) (r:Option Nat) (o:Oper) (K:(Nat→Value)→List Deferred→World→Prop) (ρ:Nat→Value) (ds:List Deferred) (w:World):Prop:=
 opW P r o ρ ds w fun v ds' w'=>putV n o.dst ρ v fun ρ'=>K ρ' ds' w'
def qrt (n:Nat) (o:Oper) (K:(Nat→Value)→List Deferred→World→Prop) (ρ:Nat→Value) (ds:List Deferred) (w:World):Prop:=
 putV n o.dst ρ undef fun ρ'=>K ρ' ds w
def regW (P:Program) (n:Nat) (r:Option Nat) (ops:List Oper) (Q:(Nat→Value)→List Deferred→World→Prop):List Oper→(Nat→Value)→List Deferred→World→Prop
 | [],ρ,ds,w=>Q ρ ds w
 | o::rest,ρ,ds,w=>
  match o.guard with
  | none=>runW P n r o (regW P n r ops Q rest) ρ ds w
  | some (j,want)=>
   match getL ops j with
   | none=>qrt n o (regW P n r ops Q rest) ρ ds w
   | some oj=>match oj.dst with
    | none=>qrt n o (regW P n r ops Q rest) ρ ds w
    | some d=>bif Nat.blt d n then
      match ρ d with
      | .bool b=>Tst b
        (match want with
         | true=>runW P n r o (regW P n r ops Q rest) (upd ρ d (.bool true)) ds w
         | false=>qrt n o (regW P n r ops Q rest) (upd ρ d (.bool true)) ds w)
        (match want with
         | true=>qrt n o (regW P n r ops Q rest) (upd ρ d (.bool false)) ds w
         | false=>runW P n r o (regW P n r ops Q rest) (upd ρ d (.bool false)) ds w)
      | _=>qrt n o (regW P n r ops Q rest) ρ ds w
     else False
abbrev QW:=Exit→(Nat→Value)→List Deferred→World→Prop
def seqW (K:(Nat→Value)→List Deferred→World→Prop) (Q:QW):QW
 | .normal,ρ,ds,w=>K ρ ds w
 | .exit i,ρ,ds,w=>Q (.exit i) ρ ds w
 | .goto l,ρ,ds,w=>Q (.goto l) ρ ds w
 | .ret,ρ,ds,w=>Q .ret ρ ds w
 | .panic c,ρ,ds,w=>Q (.panic c) ρ ds w
 | .outgrown,ρ,ds,w=>Q .outgrown ρ ds w
def qox (id:Nat) (Q:QW):QW
 | .normal,ρ,ds,w=>Q .normal ρ ds w
 | .exit i,ρ,ds,w=>bif Nat.beq i id then Q .normal ρ ds w else Q (.exit i) ρ ds w
 | .goto l,ρ,ds,w=>Q (.goto l) ρ ds w
 | .ret,ρ,ds,w=>Q .ret ρ ds w
 | .panic c,ρ,ds,w=>Q (.panic c) ρ ds w
 | .outgrown,ρ,ds,w=>Q .outgrown ρ ds w
def qic (n:Nat) (Q:QW):Exit→Act→World→Prop:=fun e a w=>∃ ρ,Sw n ρ a∧Q e ρ a.defers w
structure LoopW (P:Program) (n:Nat) (r:Option Nat) (body:Code) (Q:QW) (ρ:Nat→Value) (ds:List Deferred) (w:World):Prop where
 h:∀ a,Sw n ρ a→a.defers=ds→(Code.loop body).wpIn (Fr r) 0 P (qic n Q) a w
structure DrawW (P:Program) (n:Nat) (r:Option Nat) (id:Nat) (ops:Array Oper) (Q:QW) (ρ:Nat→Value) (ds:List Deferred) (w:World):Prop where
 h:∀ a,Sw n ρ a→a.defers=ds→(Code.region id ops true).wpIn (Fr r) 0 P (qic n Q) a w
structure ScopeW (P:Program) (n:Nat) (r:Option Nat) (c:Code) (Q:QW) (ρ:Nat→Value) (ds:List Deferred) (w:World):Prop where
 h:∀ a,Sw n ρ a→a.defers=ds→(Code.scope c).wpIn (Fr r) 0 P (qic n Q) a w
structure RangeW (P:Program) (n:Nat) (r:Option Nat) (f:Operand) (ps:Array Tmp) (assign body:Code) (Q:QW) (ρ:Nat→Value) (ds:List Deferred) (w:World):Prop where
 h:∀ a,Sw n ρ a→a.defers=ds→(Code.rangeFunc f ps assign body).wpIn (Fr r) 0 P (qic n Q) a w
def qh2 (P:Program) (n:Nat) (r:Option Nat):Code→QW→(Nat→Value)→List Deferred→World→Prop
 | .skip,Q,ρ,ds,w=>Q .normal ρ ds w
 | .region id ops draw,Q,ρ,ds,w=>
  match draw with
  | false=>regW P n r ops.toList (Q .normal) ops.toList ρ ds w
  | true=>DrawW P n r id ops Q ρ ds w
 | .seq a b,Q,ρ,ds,w=>qh2 P n r a (seqW (qh2 P n r b Q) Q) ρ ds w
 | .cond c t e,Q,ρ,ds,w=>
  match ev ρ c with
  | .bool b=>Tst b (qh2 P n r t Q ρ ds w) (qh2 P n r e Q ρ ds w)
  | _=>False
 | .block id c,Q,ρ,ds,w=>qh2 P n r c (qox id Q) ρ ds w
 | .loop c,Q,ρ,ds,w=>LoopW P n r c Q ρ ds w
 | .exit id,Q,ρ,ds,w=>Q (.exit id) ρ ds w
 | .label _,Q,ρ,ds,w=>Q .normal ρ ds w
 | .ret,Q,ρ,ds,w=>Q .ret ρ ds w
 | .goto l,Q,ρ,ds,w=>Q (.goto l) ρ ds w
 | .scope c,Q,ρ,ds,w=>ScopeW P n r c Q ρ ds w
 | .rangeFunc f p a b,Q,ρ,ds,w=>RangeW P n r f p a b Q ρ ds w
 | .refuse _,_,_,_,_=>False
section
variable {P:Program} {n:Nat} {r:Option Nat}
theorem Sw.yield {ρ:Nat→Value} {a:Act} (ha:Sw n ρ a) {ops:List Oper} {j d:Nat} {oj:Oper} (hj:getL ops j=some oj) (hd:oj.dst=some d) (hn:d<n) :
  yielded ops.toArray a.tmps j=match ρ d with | .bool b=>some b|_=>none:=St.yield ha hj hd hn
theorem qn8 {o:Oper} {ops:Array Oper} {ρ:Nat→Value} {ds:List Deferred} {w:World} {K:(Nat→Value)→List Deferred→World→Prop} {a:Act} {rest:List Oper} {Q':Exit→Act→World→Prop}
  (hg:Region.wanted o (yielded ops a.tmps)=true) (ha:Sw n ρ a) (hd:a.defers=ds) (h:runW P n r o K ρ ds w)
  (hk:∀ ρ' ds' a' w',Sw n ρ' a'→a'.defers=ds'→K ρ' ds' w'→wpListIn (Fr r) 0 P ops Q' rest a' w') :
  wpListIn (Fr r) 0 P ops Q' (o::rest) a w:=by
 unfold wpListIn;rw [if_pos hg];refine q0d ha hd h fun v ds' w' hp=>?_;obtain ⟨ρ',h1,h2,h3⟩:=ha.put ds' hp;exact hk _ _ _ _ h1 h2 h3
theorem qf0 {o:Oper} {ops:Array Oper} {ρ:Nat→Value} {ds:List Deferred} {w:World} {K:(Nat→Value)→List Deferred→World→Prop} {a:Act} {rest:List Oper} {Q':Exit→Act→World→Prop}
  (hg:Region.wanted o (yielded ops a.tmps)=false) (ha:Sw n ρ a) (hd:a.defers=ds) (h:qrt n o K ρ ds w)
  (hk:∀ ρ' ds' a' w',Sw n ρ' a'→a'.defers=ds'→K ρ' ds' w'→wpListIn (Fr r) 0 P ops Q' rest a' w') :
  wpListIn (Fr r) 0 P ops Q' (o::rest) a w:=by
 unfold wpListIn;rw [if_neg (by rw [hg];simp)];refine ⟨fun _ _=>trivial,?_⟩;obtain ⟨ρ',h1,h2,h3⟩:=ha.put ds h;have e:({ a with defers:=ds }:Act)=a:=by subst hd;rfl
 rw [e] at h1 h2;exact hk _ _ _ _ h1 h2 h3
theorem qy5 {ops:List Oper} {Q:(Nat→Value)→List Deferred→World→Prop} {Q':Exit→Act→World→Prop} (hQ:∀ ρ ds a w,Sw n ρ a→a.defers=ds→Q ρ ds w→Q' .normal a w) (l:List Oper) :
  ∀ (ρ:Nat→Value) (ds:List Deferred) (a:Act) (w:World),Sw n ρ a→a.defers=ds→regW P n r ops Q l ρ ds w→wpListIn (Fr r) 0 P ops.toArray Q' l a w:=by
 induction l with
 | nil=>intro ρ ds a w ha hd h;exact hQ _ _ _ _ ha hd h
 | cons o rest ih=>
  intro ρ ds a w ha hd h;unfold regW at h;have ih':∀ ρ' ds' a' w',Sw n ρ' a'→a'.defers=ds'→regW P n r ops Q rest ρ' ds' w'→wpListIn (Fr r) 0 P ops.toArray Q' rest a' w':=fun ρ' ds' a' w'=>ih ρ' ds' a' w'
  split at h
  ·rename_i hg
   exact qn8 (by simp [Region.wanted,hg]) ha hd h ih'
  ·rename_i j want hg
   split at h
   ·rename_i hj
    rw [qo] at hj;refine qf0 ?_ ha hd h ih';have:ops.toArray[j]?=none:=by simpa using hj
    simp [Region.wanted,hg,yielded,this]
   ·rename_i oj hj
    split at h
    ·rename_i hdd
     refine qf0 ?_ ha hd h ih';have hj2:=hj;rw [qo] at hj2;have:ops.toArray[j]?=some oj:=by simpa using hj2
     simp [Region.wanted,hg,yielded,this,hdd]
    ·rename_i d hdd
     cases hn:Nat.blt d n<;>rw [hn] at h
     ·exact h.elim
     ·have hn':d<n:=by simpa using hn
      have hy:=ha.yield hj hdd hn';simp only [cond_true] at h
      split at h
      ·rename_i b hb
       rw [hb] at hy;cases b
       ·have h:=h.f rfl;have ha':Sw n _ a:=St.same ha hb;cases want
        ·exact qn8 (by simp [Region.wanted,hg,hy]) ha' hd h ih'
        ·exact qf0 (by simp [Region.wanted,hg,hy]) ha' hd h ih'
       ·have h:=h.t rfl;have ha':Sw n _ a:=St.same ha hb;cases want
        ·exact qf0 (by simp [Region.wanted,hg,hy]) ha' hd h ih'
        ·exact qn8 (by simp [Region.wanted,hg,hy]) ha' hd h ih'
      ·rename_i hb
       refine qf0 ?_ ha hd h ih';have:yielded ops.toArray a.tmps j=none:=by
        rw [hy]
        split
        ·rename_i b hb';exact absurd hb' (hb b)
        ·rfl
       simp [Region.wanted,hg,this]
theorem qtv {K:(Nat→Value)→List Deferred→World→Prop} {Q:QW} {e:Exit} {a:Act} {w:World} (h:qic n (seqW K Q) e a w) :
  Exit.then (fun a w=>∃ ρ,Sw n ρ a∧K ρ a.defers w) (qic n Q) e a w:=by
 obtain ⟨ρ,h1,h2⟩:=h;cases e<;>exact ⟨ρ,h1,h2⟩
theorem qnp {id:Nat} {Q:QW} {e:Exit} {a:Act} {w:World} (h:qic n (qox id Q) e a w) :
  Exit.inBlock id (qic n Q) e a w:=by
 obtain ⟨ρ,h1,h2⟩:=h;cases e with
 | exit i=>
  by_cases hi:i=id
  ·have hb:Nat.beq i id=true:=by subst hi;simp
   simp only [qox,hb,cond_true] at h2;simp only [Exit.inBlock,hi,if_true];exact ⟨ρ,h1,h2⟩
  ·have hb:Nat.beq i id=false:=Bool.eq_false_iff.2 fun h=>hi (Nat.eq_of_beq_eq_true h)
   simp only [qox,hb,cond_false] at h2;simp only [Exit.inBlock,hi,if_false];exact ⟨ρ,h1,h2⟩
 | normal=>exact ⟨ρ,h1,h2⟩
 | goto l=>exact ⟨ρ,h1,h2⟩
 | ret=>exact ⟨ρ,h1,h2⟩
 | panic c=>exact ⟨ρ,h1,h2⟩
 | outgrown=>exact ⟨ρ,h1,h2⟩
theorem qhp (c:Code):∀ (Q:QW) (ρ:Nat→Value) (ds:List Deferred) (w:World),qh2 P n r c Q ρ ds w→∀ a,Sw n ρ a→a.defers=ds→c.wpIn (Fr r) 0 P (qic n Q) a w:=by
 induction c with
 | skip=>intro Q ρ ds w h a ha hd;subst hd;exact Go.wpIn_skip ⟨ρ,ha,h⟩
 | region id ops draw=>
  intro Q ρ ds w h a ha hd;cases draw
  ·refine wpIn_region_list ?_;have:=qy5 (Q':=qic n Q) (fun ρ ds a w ha hd h=>by subst hd;exact ⟨ρ,ha,h⟩) ops.toList ρ ds a w ha hd h
   simpa using this
  ·exact h.h a ha hd
 | seq x y hx hy=>
  intro Q ρ ds w h a ha hd;refine Go.wpIn_seq (Go.wpIn_mono (hx _ _ _ _ h a ha hd) fun e a w h=>?_);have:=qtv h;cases e with
  | normal=>obtain ⟨ρ',h1,h2⟩:=this;exact hy _ _ _ _ h2 _ h1 rfl
  | exit i=>exact this
  | goto l=>exact this
  | ret=>exact this
  | panic c=>exact this
  | outgrown=>exact this
 | cond c t e ht he=>
  intro Q ρ ds w h a ha hd;unfold qh2 at h
  split at h
  ·rename_i b hb
   refine Go.wpIn_cond_split (t:=b) (by rw [ha.eval,hb]) (fun e=>ht _ _ _ _ (h.t e) a ha hd) (fun e=>he _ _ _ _ (h.f e) a ha hd)
  ·exact h.elim
 | block id c hc=>
  intro Q ρ ds w h a ha hd;exact Go.wpIn_block (Go.wpIn_mono (hc _ _ _ _ h a ha hd) fun e a w h=>qnp h)
 | loop c hc=>intro Q ρ ds w h a ha hd;exact h.h a ha hd
 | rangeFunc f p x b hx hb=>intro Q ρ ds w h a ha hd;exact h.h a ha hd
 | exit id=>intro Q ρ ds w h a ha hd;subst hd;exact Go.wpIn_exit ⟨ρ,ha,h⟩
 | scope c hc=>intro Q ρ ds w h a ha hd;exact h.h a ha hd
 | label l=>intro Q ρ ds w h a ha hd;subst hd;exact Go.wpIn_label ⟨ρ,ha,h⟩
 | goto l=>intro Q ρ ds w h a ha hd;subst hd;exact Go.wpIn_goto ⟨ρ,ha,h⟩
 | ret=>intro Q ρ ds w h a ha hd;subst hd;exact Go.wpIn_ret ⟨ρ,ha,h⟩
 | refuse why=>intro Q ρ ds w h a ha hd;exact h.elim
theorem DrawW.of {id:Nat} {ops:Array Oper} {Q:QW} {ρ:Nat→Value} {w:World} (h:DrawV P n id ops (fun e ρ' w'=>Q e ρ' [] w') ρ w):DrawW P n none id ops Q ρ [] w:=by
 refine ⟨fun a ha hd=>?_⟩;have:=h.h a (ha.st hd);show (Code.region id ops true).wpIn Fence.wide 0 P _ a w;refine wpIn_wide.2 (Go.wp_mono this fun e a w ⟨ρ',h1,h2⟩=>⟨ρ',h1.sw,?_⟩);rw [h1.defers];exact h2
theorem q0z {α:Type} (l:α→List (Nat × Value)) (I:α→World→Prop) (μ:α→Nat) {body:Code} {Q:QW} {ρ:Nat→Value} {ds:List Deferred} {w:World} (x0:α)
  (h0:qlq (l x0) ρ) (hI:I x0 w)
  (hr:∀ x w ρ',I x w→qh2 P n r body (seqW (fun ρ'' ds'' w'=>ds''=ds∧∃ x',qlq (l x') ρ''∧I x' w'∧μ x'<μ x) Q) (over (l x) ρ') ds w):LoopW P n r body Q ρ ds w:=by
 refine ⟨fun a ha hd=>?_⟩;intro b k cs hro hb hroom;have key:∀ m x,μ x=m→∀ ρ a w,qlq (l x) ρ→Sw n ρ a→a.defers=ds→I x w→
   ∃ e a' w',qic n Q e a' w'∧ArrivesIn (Machine.fenced P (Fr r)) P (lone (b.atR a (.code body::.inLoop body::k)) cs w) b k cs e a' w':=by
  intro m
  induction m using Nat.strongRecOn with
  | _ m ih=>
   intro x hm ρ a w hag hst hds hI;have h1:=hr x w ρ hI;rw [qmf hag] at h1;obtain ⟨e,a₁,w₁,hq,harr⟩:=qhp body _ _ _ _ h1 a hst hds b (.inLoop body::k) cs hro hb hroom;obtain ⟨ρ₁,hst₁,hq⟩:=hq;cases e with
   | normal=>
    obtain ⟨hds',x',hag',hI',hlt⟩:=hq;obtain ⟨e₂,a₂,w₂,hq₂,harr₂⟩:=ih (μ x') (hm ▸ hlt) x' rfl ρ₁ a₁ w₁ hag' hst₁ hds' hI';exact ⟨e₂,a₂,w₂,hq₂,.of_steps (StepsIn.trans harr (.one (fenced_calm hb hroom rfl) stepR_inLoop)) harr₂⟩
   | exit id=>exact ⟨_,a₁,w₁,⟨ρ₁,hst₁,hq⟩,.pass (x:=.inLoop body) rfl (fun _ _=>.inl (by simp)) harr⟩
   | goto l=>exact ⟨_,a₁,w₁,⟨ρ₁,hst₁,hq⟩,.pass (x:=.inLoop body) rfl (fun _ _=>.inl (by simp)) harr⟩
   | ret=>exact ⟨_,a₁,w₁,⟨ρ₁,hst₁,hq⟩,.pass (x:=.inLoop body) rfl (fun _ _=>.inl (by simp)) harr⟩
   | panic ch=>exact ⟨_,a₁,w₁,⟨ρ₁,hst₁,hq⟩,.pass (x:=.inLoop body) rfl (fun _ _=>.inl (by simp)) harr⟩
   | outgrown=>exact ⟨_,a₁,w₁,⟨ρ₁,hst₁,hq⟩,.pass (x:=.inLoop body) rfl (fun _ _=>.inl (by simp)) harr⟩
 obtain ⟨e,a',w',hq,harr⟩:=key _ x0 rfl ρ a w h0 ha hd hI;exact ⟨e,a',w',hq,.of_steps (.one (fenced_calm hb hroom rfl) stepR_loop) harr⟩
structure LeaveV (P:Program) (n:Nat) (fn:Func) (R:Value→World→Prop) (ρ:Nat→Value) (ds:List Deferred) (w:World):Prop where
 h:∀ a,Sw n ρ a→LeavesInM (Fr none) 0 P fn a.tmps (fun e w'=>∃ v,e=.returned v∧R v w') ds .returning w
def ql7 (P:Program) (n:Nat) (fn:Func) (R:Value→World→Prop) (ρ:Nat→Value) (ds:List Deferred) (w:World):Prop:=
 match ds with
 | []=>resV fn.results ρ w fn R P n
 | d::ds=>LeaveV P n fn R ρ (d::ds) w
theorem qfi {fn:Func} {R:Value→World→Prop} {ρ:Nat→Value} {ds:List Deferred} {w:World} (h:ql7 P n fn R ρ ds w) {a:Act} (ha:Sw n ρ a) :
  LeavesInM (Fr none) 0 P fn a.tmps (fun e w'=>∃ v,e=.returned v∧R v w') ds .returning w:=by
 cases ds with
 | nil=>
  obtain ⟨v,h1,h2⟩:=qip rfl ha h;exact ⟨v,h1,v,rfl,h2⟩
 | cons d ds=>exact h.h a ha
theorem LeaveV.mark {fn:Func} {R:Value→World→Prop} {ρ:Nat→Value} {D:Nat} {ds:List Deferred} {w:World} (h:w.heap[D]?=some (.deferred (some [])))
  (hk:∀ w',w'=setO w D (.deferred none)→ql7 P n fn R ρ ds w'):LeaveV P n fn R ρ ({ target:=.collected D,args:=#[] }::ds) w:=
 ⟨fun a ha=>⟨by simp,.inl ⟨D,_,rfl,run_takeDeferred h,qfi (hk _ rfl) ha⟩⟩⟩
def GvD (P:Program) (f:FuncId) (args:List Value) (w:World) (R:World→Prop):Prop:=
 qdx P f=true∧CallsDIn (Fr none) 0 P f args.toArray .returning w fun e u' w'=>u'=.returning∧∃ v,e=.returned v∧R w'
theorem LeaveV.call {fn:Func} {R:Value→World→Prop} {ρ:Nat→Value} {g:FuncId} {vs:List Value} {ds:List Deferred} {w:World}
  (h:GvD P g vs w fun w'=>ql7 P n fn R ρ ds w'):LeaveV P n fn R ρ ({ target:=.fn (.func g) #[],args:=vs.toArray }::ds) w:=by
 refine ⟨fun a ha=>⟨by simp,.inr ⟨fun h=>by simp [Fr] at h,.func g,#[],g,vs.toArray,rfl,?_,fun _ _=>trivial,?_⟩⟩⟩
 ·simp only [invoke,Array.append_empty];exact qcs h.1 _
 ·refine h.2.mono ?_;rintro e u' w' ⟨rfl,v,rfl,hk⟩;exact qfi hk ha
def q0v (P:Program) (n:Nat) (fn:Func) (R:Value→World→Prop):QW
 | .normal,ρ,ds,w=>ql7 P n fn R ρ ds w
 | .ret,ρ,ds,w=>ql7 P n fn R ρ ds w
 | _,_,_,_=>False
theorem qxo {vs:List Value} {n:Nat} (hl:vs.length≤n):Sw n (ini vs) { tmps:=vs.toArray++Array.replicate (n-vs.toArray.size) undef,defers:=[] }:=by
 refine ⟨by simp;omega,fun t=>?_,rfl⟩;rw [qxn,Array.getD_eq_getD_getElem?];simp only [Array.getElem?_append,List.size_toArray]
 split
 ·simp
 ·rename_i ht
  rw [List.getElem?_eq_none (by omega)];simp only [Array.getElem?_replicate]
  split<;>rfl
theorem gvW {f:FuncId} {fn:Func} {c:Code} {vs:List Value} {w:World} {R:Value→World→Prop} (he:qdx P f=true) (hf:P.funcs[f]?=some fn) (hb:fn.body=some c) (hn:fn.ntmps=n)
  (hl:Nat.ble vs.length n=true) (h:qh2 P n none c (q0v P n fn R) (ini vs) [] w):Gv P f vs w R:=by
 have hl':vs.length≤n:=by simpa using hl
 refine ⟨he,qed (r:=none) (m:=0) |>.1 (callsIn_of_wp_marks hf hb trivial (Go.wpIn_mono (qhp c _ _ _ _ h _ (by rw [hn];exact qxo hl') rfl) fun e a w hq=>?_))⟩;obtain ⟨ρ,hst,hq⟩:=hq;cases e with
 | normal=>exact qfi hq hst
 | ret=>exact qfi hq hst
 | exit i=>exact hq.elim
 | goto i=>exact hq.elim
 | panic i=>exact hq.elim
 | outgrown=>exact hq.elim
theorem gvD {f:FuncId} {fn:Func} {c:Code} {vs:List Value} {w:World} {R:World→Prop} (he:qdx P f=true) (hf:P.funcs[f]?=some fn) (hb:fn.body=some c) (hn:fn.ntmps=n)
  (hl:Nat.ble vs.length n=true) (h:qem P n c (qx5 P n fn (fun _ w'=>R w')) (ini vs) w):GvD P f vs w R:=by
 have hl':vs.length≤n:=by simpa using hl
 have h1:c.wpIn (Fr none) 0 P (bodyPost P fn fun e w'=>∃ v,e=.returned v∧R w') { tmps:=vs.toArray++Array.replicate (fn.ntmps-vs.toArray.size) undef,defers:=[] } w:=by
  refine wpIn_wide.2 (Go.wp_mono (qho c _ _ _ h _ (by rw [hn];exact (qxo hl').st rfl)) fun e a w hq=>?_);obtain ⟨ρ,hst,hq⟩:=hq;cases e with
  | normal=>
   obtain ⟨v,h1,h2⟩:=qip rfl hst hq;exact ⟨hst.defers,v,h1,v,rfl,h2⟩
  | ret=>
   obtain ⟨v,h1,h2⟩:=qip rfl hst hq;exact ⟨hst.defers,v,h1,v,rfl,h2⟩
  | exit i=>exact hq.elim
  | goto i=>exact hq.elim
  | panic i=>exact hq.elim
  | outgrown=>exact hq.elim
 exact ⟨he,callsDIn_of_wp hf hb trivial h1⟩
theorem GvD.mono {f:FuncId} {vs:List Value} {w:World} {R R':World→Prop} (h:GvD P f vs w R) (hr:∀ w',R w'→R' w'):GvD P f vs w R':=
 ⟨h.1,h.2.mono fun _ _ _ ⟨hu,v,he,hv⟩=>⟨hu,v,he,hr _ hv⟩⟩
structure Carr (J:List (Nat × Obj)→World→Prop):Prop where
 ext:∀ {X w w'},J X w→Ext w w'→J X w'
 get:∀ {X w} {b:Nat} {o:Obj},J X w→(b,o)∈X→w.heap[b]?=some o
 new:∀ {X w} (o:Obj),J X w→J ((w.heap.size,o)::X) (w.alloc o)
 set:∀ {X w} {b:Nat} {o:Obj} (o':Obj),J ((b,o)::X) w→J ((b,o')::X) (setO w b o')
 drop:∀ {X w} {x:Nat × Obj},J (x::X) w→J X w
def SeqV (P:Program) (gf:FuncId) (lb:List Value) (xs:List (List Value)) (w0:World):Prop:=
 ∀ (l:Nat) (I Ix:Nat→World→Prop) (w:World),(∀ k w,I k w→Ext w0 w)→(∀ k w w',I k w→Ext w w'→I k w')→(∀ k w w',Ix k w→Ext w w'→Ix k w')→I 0 w→
  (∀ k x w,xs[k]?=some x→I k w→YieldV P l x w fun v w'=>(v=.bool true∧I (k+1) w')∨(v=.bool false∧Ix k w'))→
  Gv P gf (.func (.yield l) #[] #[]::lb) w fun _ w'=>I xs.length w'∨∃ k,k<xs.length∧Ix k w'
def qwx:List Tmp→List Value→(Nat→Value)→Nat→Value
 | p::ps,v::vs,ρ=>qwx ps vs (upd ρ p v)
 | _,_,ρ=>ρ
theorem qwy:∀ (ps:List Tmp) (vs:List Value) (ρ:Nat→Value) (t:Array Value),ps.all (Nat.blt · n)=true→St n ρ ⟨t,[]⟩→
  St n (qwx ps vs ρ) ⟨(ps.zip vs).foldl (fun t (p,v)=>t.setIfInBounds p v) t,[]⟩:=by
 intro ps
 induction ps with
 | nil=>intro vs ρ t _ h;exact h
 | cons p ps ih=>
  intro vs ρ t hp h;cases vs with
  | nil=>exact h
  | cons v vs=>
   simp only [List.all_cons,Bool.and_eq_true] at hp;exact ih vs _ _ hp.2 (h.put (by simpa using hp.1) v)
structure BeginV (w1 w2:World) (ds:List Deferred) (K:Prop):Prop where
 w:w2=w1
 d:ds=[]
 k:K
def q00 (K:(Nat→Value)→List Deferred→World→Prop):QW
 | .normal,ρ,ds,w=>K ρ ds w
 | _,_,_,_=>False
def q0j (J:World→Prop) (Jx:Code→World→Prop):QW
 | .normal,_,_,w=>J w
 | .ret,_,_,w=>Jx .ret w
 | .exit id,_,_,w=>Jx (.exit id) w
 | .goto t,_,_,w=>Jx (.goto t) w
 | _,_,_,_=>False
def q06 (c:Code) (Q:QW) (ρ:Nat→Value) (ds:List Deferred) (w:World):Prop:=
 match c with
 | .ret=>Q .ret ρ ds w
 | .exit id=>Q (.exit id) ρ ds w
 | .goto t=>Q (.goto t) ρ ds w
 | _=>False
theorem q0i {f:Operand} {ps:Array Tmp} {assign body:Code} {Q:QW} {ρ:Nat→Value} {ds:List Deferred} {w w0:World} {gf:FuncId} {lb:List Value} {xs:List (List Value)}
  (hf:ev ρ f=.func (.func gf) #[] lb.toArray) (he:qdx P gf=true) (hseq:SeqV P gf lb xs w0) (hpn:ps.toList.all (Nat.blt · n)=true) (hps:∀ x∈xs,x.length=ps.size)
  (J:Nat→List (Nat × Obj)→World→Prop) (Jx:Code→Nat→List (Nat × Obj)→World→Prop) (hJ:∀ k,Carr (J k)) (hJx:∀ c k,Carr (Jx c k)) (hw:∀ k X w,J k X w→Ext w0 w) (h0:J 0 [] w)
  (hbody:∀ l D ob k x w1 w2,xs[k]?=some x→J k [(l,ob),(D,.deferred (some []))] w2→
   qh2 P n (some l) assign (q00 fun ρ1 ds1 w1'=>BeginV w1 w1' ds1
    (qh2 P n (some l) body (q0j (J (k+1) [(l,ob),(D,.deferred (some []))]) (fun c=>Jx c k [(l,ob),(D,.deferred (some []))])) ρ1 [] w2)) (qwx ps.toList x ρ) [] w1)
  (hdone:∀ D w',J xs.length [(D,.deferred (some []))] w'→Q .normal ρ ({ target:=.collected D,args:=#[] }::ds) w')
  (hstop:∀ D c k w',k<xs.length→Jx c k [(D,.deferred (some []))] w'→q06 c Q ρ ({ target:=.collected D,args:=#[] }::ds) w'):RangeW P n none f ps assign body Q ρ ds w:=by
 refine ⟨fun a ha hd=>?_⟩;subst hd;refine wpIn_rangeFunc ?_;intro fn hfn;obtain ⟨rec,hrec⟩:∃ rec:LoopState→Option Code→Loop,rec=fun st pe=>{ state:=st,pending:=pe,fn,tmps:=a.tmps,params:=ps,assign,body,defers:=w.heap.size }:=⟨_,rfl⟩
 obtain ⟨W1,hW1⟩:∃ W1,(w.alloc (.deferred (some []))).alloc (.loop (rec .ready none))=W1:=⟨_,rfl⟩
 have hD:=(hJ 0).new (.deferred (some [])) h0;have hL:=(hJ 0).new (.loop (rec .ready none)) hD;rw [hW1,World.size_alloc] at hL;refine ⟨w.heap.size+1,[{ target:=.collected w.heap.size,args:=#[] }],W1,{ target:=.fn (.func gf) lb.toArray,args:=#[.func (.yield (w.heap.size+1)) #[] #[]] },W1,gf,
  #[.func (.yield (w.heap.size+1)) #[] #[]]++lb.toArray,W1,?_,?_,fun _ _=>trivial,?_,fun h=>by simp [Fr] at h,?_⟩
 ·rw [← hW1,hrec];exact run_enterLoop_outer _ _ _ _ _
 ·have:a.eval f=.func (.func gf) #[] lb.toArray:=by rw [ha.eval,hf]
  simp only [resolve,this];simp [go_sem]
 ·simp only [invoke];exact qcs he _
 ·have ea:#[Value.func (.yield (w.heap.size+1)) #[] #[]]++lb.toArray=(Value.func (.yield (w.heap.size+1)) #[] #[]::lb).toArray:=by rw [← Array.toList_inj];simp
  rw [ea];refine qed.2 ((hseq (w.heap.size+1) (fun k W=>J k [(w.heap.size+1,.loop (rec .ready none)),(w.heap.size,.deferred (some []))] W)
   (fun k W=>∃ c,Jx c k [(w.heap.size+1,.loop (rec .done (some c))),(w.heap.size,.deferred (some []))] W) W1
   (fun k W h=>hw _ _ _ h) (fun k W W' h hx=>(hJ k).ext h hx) (fun k W W' h hx=>h.imp fun c hc=>(hJx c k).ext hc hx) hL ?_).2.mono ?_)
  ·intro k x W hx hk;have hl:=(hJ k).get hk (List.mem_cons_self ..);have hy:=run_yield (P:=P) (args:=x.toArray) hl (by rw [hrec];simpa using hps x (List.mem_of_getElem? hx));rw [hrec] at hy;refine ⟨⟨fn,_,assign,body,hy,roundIn_of_wpIn hfn ?_⟩⟩;have h1:=hbody (w.heap.size+1) w.heap.size _ k x W _ hx ((hJ k).set (.loop { rec .ready none with state:=.busy }) hk);have hz:(ps.zip x.toArray).foldl (fun t (p,v)=>t.setIfInBounds p v) a.tmps=(ps.toList.zip x).foldl (fun t (p,v)=>t.setIfInBounds p v) a.tmps:=by
    rw [← Array.foldl_toList];simp
   have hst:Sw n (qwx ps.toList x ρ) { tmps:=(ps.zip x.toArray).foldl (fun t (p,v)=>t.setIfInBounds p v) a.tmps,defers:=[] }:=by
    rw [hz];exact qwy _ _ _ _ hpn ha
   refine Go.wpIn_mono (F:=Fr (some (w.heap.size+1))) (qhp assign _ _ _ _ h1 _ hst rfl) fun e a1 w1 hq=>?_;obtain ⟨ρ1,hst1,hq⟩:=hq;cases e with
   | normal=>
    obtain ⟨hw1,hd1,hb1⟩:=hq;subst hw1;refine ⟨_,run_beginRound hl (by rw [hrec]),?_⟩;refine Go.wpIn_mono (F:=Fr (some (w.heap.size+1))) (qhp body _ _ _ _ hb1 _ hst1 hd1) fun e a2 w2 hq=>?_;obtain ⟨ρ2,hst2,hq⟩:=hq;cases e with
    | normal=>
     refine ⟨_,_,run_endRound none ((hJ _).get hq (List.mem_cons_self ..)),_,rfl,.inl ⟨rfl,?_⟩⟩;have:=(hJ (k+1)).set (.loop (rec .ready none)) hq;rw [hrec] at this ⊢;exact this
    | ret=>
     refine ⟨_,_,run_endRound (some .ret) ((hJx _ _).get hq (List.mem_cons_self ..)),_,rfl,.inr ⟨rfl,.ret,?_⟩⟩;have:=(hJx _ k).set (.loop (rec .done (some .ret))) hq;rw [hrec] at this ⊢;exact this
    | exit id=>
     refine ⟨_,_,run_endRound (some (.exit id)) ((hJx _ _).get hq (List.mem_cons_self ..)),_,rfl,.inr ⟨rfl,.exit id,?_⟩⟩;have:=(hJx _ k).set (.loop (rec .done (some (.exit id)))) hq;rw [hrec] at this ⊢;exact this
    | goto t=>
     refine ⟨_,_,run_endRound (some (.goto t)) ((hJx _ _).get hq (List.mem_cons_self ..)),_,rfl,.inr ⟨rfl,.goto t,?_⟩⟩;have:=(hJx _ k).set (.loop (rec .done (some (.goto t)))) hq;rw [hrec] at this ⊢;exact this
    | panic ch=>exact hq.elim
    | outgrown=>exact hq.elim
   | ret=>exact hq.elim
   | exit id=>exact hq.elim
   | goto t=>exact hq.elim
   | panic ch=>exact hq.elim
   | outgrown=>exact hq.elim
  ·rintro e W2 ⟨v,rfl,h|⟨k,hk,c,h⟩⟩
   ·have hl:=(hJ _).get h (List.mem_cons_self ..);have:=run_endLoop (P:=P) hl (by rw [hrec];simp);rw [hrec] at this;exact ⟨none,_,this,ρ,ha,hdone _ _ ((hJ _).drop ((hJ _).set _ h))⟩
   ·have hl:=(hJx _ _).get h (List.mem_cons_self ..);have:=run_endLoop (P:=P) hl (by rw [hrec];simp);rw [hrec] at this;refine ⟨some c,_,this,?_⟩;have hs:=hstop _ c k _ hk ((hJx _ _).drop ((hJx _ _).set (.loop { rec .done (some c) with state:=.exhausted }) h));rw [hrec] at hs;cases c with
    | ret=>exact Go.wpIn_ret ⟨ρ,ha,hs⟩
    | exit id=>exact Go.wpIn_exit ⟨ρ,ha,hs⟩
    | goto t=>exact Go.wpIn_goto ⟨ρ,ha,hs⟩
    | _=>exact hs.elim
theorem Mem.glue {a b c:World} {L M:List (Nat × Obj)} (h:Mem a b L) (k:Mem b c M):Mem a c (M++L):=by
 refine ⟨h.ext.trans k.ext,fun x hx=>?_,?_⟩
 ·rcases List.mem_append.1 hx with hx|hx
  ·exact ⟨Nat.le_trans h.ext.size (k.own x hx).1,(k.own x hx).2⟩
  ·exact ⟨(h.own x hx).1,k.ext.get (h.own x hx).2⟩
 ·rw [List.map_append,List.nodup_append];refine ⟨k.nodup,h.nodup,?_⟩;intro u hu v hv e;obtain ⟨x,hx,rfl⟩:=List.mem_map.1 hu;obtain ⟨y,hy,rfl⟩:=List.mem_map.1 hv;have h1:=(k.own x hx).1;have h2:=h.lt (b:=y.1) (o:=y.2) hy;omega
theorem Carr.mem {σ:Type} {w0:World} (A:σ→Prop) (L:σ→List (Nat × Obj)):Carr fun X w=>∃ s,A s∧Mem w0 w (X++L s):=by
 refine ⟨?_,?_,?_,?_,?_⟩
 ·rintro X w w' ⟨s,hs,hm⟩ he;exact ⟨s,hs,hm.call he⟩
 ·rintro X w b o ⟨s,hs,hm⟩ hx;exact hm.get (List.mem_append_left _ hx)
 ·rintro X w o ⟨s,hs,hm⟩;exact ⟨s,hs,hm.new rfl rfl⟩
 ·rintro X w b o o' ⟨s,hs,hm⟩;exact ⟨s,hs,hm.setO (i:=0) o' rfl rfl⟩
 ·rintro X w x ⟨s,hs,hm⟩;exact ⟨s,hs,hm.sub (List.sublist_cons_self ..)⟩
end
end V
open Go.RowKit V
set_option maxRecDepth 100000
def bSt (E:List UInt8) (p:Nat):Nat→List UInt8 × Nat
 | 0=>([],p)
 | j+1=>((blk E p j).1,(blk E p j).2.1)
theorem qzx {E:List UInt8} {p:Nat}:∀ {j:Nat},(∀ i,i<j→(blk E p i).2.2=0)→blk E p j=qcc E (bSt E p j).2 (decide (j=0)) (bSt E p j).1
 | 0,_=>rfl
 | j+1,h=>by
  rw [blk,if_neg (by rw [h j (by omega)];simp)];rfl
def bRow (m:List UInt8) (k j:Nat):List Value:=[.int .i64 (16*k+j:Nat),.string ⟨(blk (qj m) (qad m k) j).1.toArray⟩]
structure BEnd (m:List UInt8) (k n:Nat):Prop where
 ok:∀ j,j<n→16*k+j<dN m∧(blk (qj m) (qad m k) j).2.2=0
 le:n≤16
 stop:n<16→16*k+n<dN m→(blk (qj m) (qad m k) n).2.2≠0
theorem BEnd.ex (m:List UInt8) (k:Nat):∃ n,BEnd m k n:=by
 have:∀ d j,j+d=16→(∀ i,i<j→16*k+i<dN m∧(blk (qj m) (qad m k) i).2.2=0)→∃ n,BEnd m k n:=by
  intro d
  induction d with
  | zero=>intro j hj h;exact ⟨j,h,by omega,fun h=>by omega⟩
  | succ d ih=>
   intro j hj h
   by_cases hg:16*k+j<dN m∧(blk (qj m) (qad m k) j).2.2=0
   ·refine ih (j+1) (by omega) fun i hi=>?_
    by_cases e:i=j
    ·subst e;exact hg
    ·exact h i (by omega)
   ·exact ⟨j,h,by omega,fun _ h1 h2=>hg ⟨h1,h2⟩⟩
 exact this 16 0 rfl fun i h=>by omega
theorem qss {w:World} {b:Nat} {m:List UInt8} (h:DictAt w b m) (k:Nat):qad m k≤134217728:=by
 have:=qln (qz m) (k*dW m) (dW m) h.width;unfold qad;omega
theorem qzw {m:List UInt8} {k n j:Nat} (h:BEnd m k n) (hj:j≤n) (hE:(qj m).length≤67108864) (hp:qad m k≤134217728) :
  (bSt (qj m) (qad m k) j).1.length≤262144∧(bSt (qj m) (qad m k) j).2≤134217728:=by
 cases j with
 | zero=>exact ⟨by simp [bSt],hp⟩
 | succ j=>
  have:=qxg (h.ok j (by omega)).2;exact ⟨this.1,by have:=this.2;simp only [bSt];omega⟩
set_option maxHeartbeats 1000000 in
theorem qse (b:Nat) (m:List UInt8) (k n b1 b2:Nat) (w0:World) (h:DictAt w0 b m) (hk:k<upN (dN m) 16) (hn:BEnd m k n)
  (h1:w0.cell? ⟨b1,0,none⟩=some (.pointer (some ⟨b,0,none⟩))) (h2:w0.cell? ⟨b2,0,none⟩=some (.int .i64 k)) :
  SeqV Tryz.prog 288 [.pointer (some ⟨b1,0,none⟩),.pointer (some ⟨b2,0,none⟩)] ((List.range n).map (bRow m k)) w0:=by
 intro l I Ix w hI sI sIx h0 hy;have hx0:=hI 0 w h0;have hub:upN (dN m) 16≤4194304:=Nat.le_trans (qaq _ _ (by decide)) h.n;have hEl:(qj m).length≤67108864:=by rw [h.entries];exact h.size
 have hpl:=qss h k;refine gvW (by kernel_rfl) Tryz.func288 rfl Tryz.ntmps288 rfl ?_;(conv=>whnf);refine LoadV.of (hx0.cell h1) ?_;(conv=>whnf);refine LoadV.of (hx0.cell h2) ?_;(conv=>whnf);refine CallV.of (qt2 b m k w (h.ext hx0) hk) ?_;rintro v w' ⟨rfl,rfl⟩;(conv=>whnf);refine LoadV.of (hx0.cell h2) ?_;(conv=>whnf);refine zA ?_;(conv=>whnf);refine q0z (fun j:Nat=>[(0,.func (.yield l) #[] #[]),(1,.pointer (some ⟨b1,0,none⟩)),(2,.pointer (some ⟨b2,0,none⟩)),(4,.int .i64 (bSt (qj m) (qad m k) j).2),(5,.string ⟨(bSt (qj m) (qad m k) j).1.toArray⟩),(6,.int .i64 ((k:Int)*16+j))])
  (fun j w'=>j≤n∧I j w') (fun j=>n-j) 0 ⟨rfl,rfl,rfl,rfl,rfl,by show Value.int .i64 _=Value.int .i64 _;congr 1,trivial⟩ ⟨by omega,h0⟩ ?_
 rintro j w1 ρ' ⟨hj,hIj⟩;have hx:=hI j w1 hIj;obtain ⟨hs1,hs2⟩:=qzw hn hj hEl hpl;have hb:=fun hg:∀ i,i<j→(blk (qj m) (qad m k) i).2.2=0=>qzx hg
 have hb:=hb fun i hi=>(hn.ok i (by omega)).2
 have hle:=hn.le;(conv=>whnf);refine LoadV.of (hx.cell h1) ?_;(conv=>whnf);obtain ⟨⟨P,cp,E,ce,hd1,_,_,_⟩,_⟩:=h.ext hx;refine LoadV.own hd1 rfl ?_;have hxs:((List.range n).map (bRow m k)).length=n:=by simp
 have hend:j=n→I ((List.range n).map (bRow m k)).length w1:=fun e=>by rw [hxs,← e];exact hIj
 (conv=>whnf)
 (repeat' (first|((with_reducible refine zT ?_);(conv=>whnf))|((with_reducible refine zU ?_);(conv=>whnf))|((with_reducible refine zC (fun _=>?_) (fun _=>?_))<;>first|(exfalso;omega)|(conv=>whnf))))
 ·refine LoadV.of (hx.cell h2) ?_;(conv=>whnf);(iterate 2 (refine zT ?_;(conv=>whnf);refine zA ?_;(conv=>whnf)));(iterate 2 (refine zT ?_;(conv=>whnf)));refine zC (fun _=>?_) (fun _=>?_)<;>(conv=>whnf)
  ·refine LoadV.of (hx.cell h1) ?_;(conv=>whnf);have e16:decide (((k:Int)*16+(j:Int))%16=0)=decide (j=0):=decide_eq_decide.2 (by omega);refine Obl.mk ⟨by omega,by omega⟩ ?_;(conv=>whnf);rw [e16];refine CallV.of (qsz b m (bSt (qj m) (qad m k) j).2 (decide (j=0)) ⟨(bSt (qj m) (qad m k) j).1.toArray⟩ w1 (h.ext hx) (by omega) (by show (bSt (qj m) (qad m k) j).1.length≤_;omega)) ?_;rintro v w2 ⟨rfl,he2⟩;have hb':qcc (qj m) (bSt (qj m) (qad m k) j).2 (decide (j=0)) (⟨(bSt (qj m) (qad m k) j).1.toArray⟩:ByteArray).data.toList=blk (qj m) (qad m k) j:=hb.symm;rw [hb'];obtain ⟨x,ex⟩:∃ x,x=blk (qj m) (qad m k) j:=⟨_,rfl⟩
   have hok:=hn.ok j;have hst:=hn.stop;rw [← ex] at hok ⊢;conv=>whnf
   by_cases hx0:x.2.2=0
   ·have hjn:j<n:=by
     refine Decidable.byContradiction fun hc=>?_;obtain rfl:j=n:=by omega
     exact hst (by omega) (by omega) (by rw [← ex];exact hx0)
    refine zN (fun _=>?_);(conv=>whnf);(iterate 3 (refine zU ?_;(conv=>whnf)));refine YieldV.mono (hy j [Value.int .i64 ((k:Int)*16+j),.string ⟨x.1.toArray⟩] w2 ?_ (sI _ _ _ hIj he2)) ?_
    ·rw [List.getElem?_map,List.getElem?_range hjn,Option.map_some,bRow,← ex]
     congr 3
     omega
    rintro v w3 (⟨rfl,hI3⟩|⟨rfl,hX⟩)
    ·(conv=>whnf);(iterate 2 (refine zU ?_;(conv=>whnf)));refine zP ?_;refine zT ?_;(conv=>whnf);refine zA ?_;(conv=>whnf);refine ⟨rfl,j+1,⟨rfl,rfl,rfl,?_,?_,?_,trivial⟩,⟨by omega,hI3⟩,by omega⟩
     ·simp only [bSt,← ex];rfl
     ·simp only [bSt,← ex];rfl
     ·show Value.int .i64 _=Value.int .i64 _
      congr 1
    ·(conv=>whnf);(iterate 2 (refine zU ?_;(conv=>whnf)));refine zP ?_;refine zU ?_;(conv=>whnf);exact .inr ⟨j,by rw [hxs];exact hjn,hX⟩
   ·have hjn:j=n:=by
     refine Decidable.byContradiction fun hc=>?_;exact hx0 (hok (by omega)).2
    refine zY (fun _=>?_);(conv=>whnf);(iterate 6 (refine zT ?_;(conv=>whnf)));exact .inl (sI _ _ _ (hend hjn) he2)
  ·have hjn:j=n:=by omega
   exact .inl (hend hjn)
 ·have hjn:j=n:=by
   refine Decidable.byContradiction fun hc=>?_;have:=(hn.ok j (by omega)).1;omega
  exact .inl (hend hjn)
theorem qsd (b k:Nat) (w:World):Gv Tryz.prog 239 [.pointer (some ⟨b,0,none⟩),.int .i64 k] w fun r w'=>
  (∃ b1 b2,r=.func (.func 288) #[] #[.pointer (some ⟨b1,0,none⟩),.pointer (some ⟨b2,0,none⟩)]∧w'.cell? ⟨b1,0,none⟩=some (.pointer (some ⟨b,0,none⟩))∧w'.cell? ⟨b2,0,none⟩=some (.int .i64 k))∧Ext w w':=by
 refine zE Tryz.func239 Tryz.ntmps239 ?_;(conv=>whnf);refine NewV.mem (Mem.nil w) ?_;intro b1 w1 hm;(conv=>whnf);refine NewV.mem hm ?_;intro b2 w2 hm;(conv=>whnf);refine ⟨⟨b1,b2,rfl,?_,?_⟩,hm.ext⟩
 ·rw [qd (hm.get (List.mem_cons_of_mem _ (List.mem_cons_self ..)))];rfl
 ·rw [qd (hm.get (List.mem_cons_self ..))];rfl
def qkh (m:List UInt8) (i:Nat):Value:=
 match dGet m i with
 | some s=>.tuple #[.string ⟨s.toArray⟩,.bool true]
 | none=>.tuple #[.string ⟨#[]⟩,.bool false]
set_option maxHeartbeats 1000000 in
theorem qvv (b:Nat) (m:List UInt8) (i:Nat) (w:World) (h:DictAt w b m) (hi:i≤16777216) :
  Gv Tryz.prog 189 [.pointer (some ⟨b,0,none⟩),.int .i64 i] w fun r w'=>r=qkh m i∧Ext w w':=by
 refine gvW (by kernel_rfl) Tryz.func189 rfl Tryz.ntmps189 rfl ?_;(conv=>whnf);refine NewV.mem (Mem.nil w) ?_;intro bi w1 hm;(conv=>whnf);refine NewV.mem hm ?_;intro bs w2 hm;(conv=>whnf);refine NewV.mem hm ?_;intro bb w3 hm;(conv=>whnf);refine DrawW.of ?_;obtain ⟨⟨P,cp,E,ce,hd1,_,_,_⟩,_⟩:=h.ext hm.ext;refine DrawV.quiet (by kernel_rfl) (by kernel_rfl) ?_;(conv=>whnf);refine LoadV.mem (hm.drew) (i:=2) rfl rfl ?_;(conv=>whnf);(iterate 3 (refine zW ?_;(conv=>whnf)));refine zN (fun _=>?_);(conv=>whnf);refine LoadV.mem (hm.drew) (i:=2) rfl rfl ?_;(conv=>whnf);(iterate 4 (refine zW ?_;(conv=>whnf);refine zU ?_;(conv=>whnf)));refine LoadV.own hd1 rfl ?_;(conv=>whnf);(iterate 2 (refine zW ?_;(conv=>whnf);refine zU ?_;(conv=>whnf)));refine zW ?_;(conv=>whnf);refine zC (fun _=>?_) (fun _=>?_)<;>(conv=>whnf)
 ·have hg:qkh m i=.tuple #[.string ⟨#[]⟩,.bool false]:=by rw [qkh,dGet,if_neg (by omega)]
  rw [hg];refine StoreV.mem hm.drew (i:=1) rfl (by simp) rfl ?_;intro w4 hm;(conv=>whnf);refine StoreV.mem hm (i:=0) rfl (by simp) rfl ?_;intro w5 hm;(conv=>whnf);refine qa (R:=fun v w'=>v=.tuple #[.string ⟨#[]⟩,.bool false]∧Ext w w') ?_;(conv=>whnf);refine zR hm 1 ?_;(conv=>whnf);refine zR hm 0 ?_;(conv=>whnf);exact ⟨rfl,hm.ext⟩
 have hm:=hm.drew;refine zR hm 2 ?_;(conv=>whnf);refine zB ?_;(conv=>whnf);refine CallV.of (qsd b (i/16) w3.drew) ?_;rintro v w4 ⟨⟨b1,b2,rfl,hb1,hb2⟩,he4⟩;have hm:=hm.call he4;have hD4:=h.ext hm.ext;(conv=>whnf);obtain ⟨n,hn⟩:=BEnd.ex m (i/16);have hn16:=hn.le;have hki:i/16<upN (dN m) 16:=by unfold upN;omega
 have hlen:((List.range n).map (bRow m (i/16))).length=n:=by simp
 refine q0i (w0:=w4) (lb:=[.pointer (some ⟨b1,0,none⟩),.pointer (some ⟨b2,0,none⟩)]) (xs:=(List.range n).map (bRow m (i/16))) rfl (by kernel_rfl) (qse b m (i/16) n b1 b2 w4 hD4 hki hn hb1 hb2) (by decide) ?_
  (fun k X w'=>∃ _:Unit,k≤i%16∧Mem w4 w' (X++[]))
  (fun c k X w'=>∃ _:Unit,(c=.ret∧k=i%16)∧Mem w w' (X++[(bb,.cells #[.bool true] 4 (0,0)),(bs,.cells #[.string ⟨(blk (qj m) (qad m (i/16)) (i%16)).1.toArray⟩] 9 (0,0)),(bi,.cells #[.int .i64 i] 3 (0,0))]))
  (fun k=>Carr.mem _ _) (fun c k=>Carr.mem _ _) (fun k X w' ⟨_,_,hm⟩=>hm.ext) ⟨(),Nat.zero_le _,by simpa using Mem.nil w4⟩ ?_ ?_ ?_
 ·intro x hx;obtain ⟨j,_,rfl⟩:=List.mem_map.1 hx;rfl
 ·rintro l D ob k x w5 w6 hx ⟨_,hk,hmJ⟩;have hkn:k<n:=by
   have:=(List.getElem?_eq_some_iff.1 hx).1
   rwa [hlen] at this
  rw [List.getElem?_map,List.getElem?_range hkn,Option.map_some,Option.some.injEq] at hx;subst hx;have hm:=hm.glue hmJ;(conv=>whnf);refine ⟨rfl,rfl,?_⟩;(conv=>whnf);refine zR hm 4 ?_;(conv=>whnf);refine zC (fun _=>?_) (fun _=>?_)<;>(conv=>whnf)
  ·obtain rfl:k=i%16:=by omega
   refine StoreV.mem hm (i:=3) rfl (by simp) rfl ?_;intro w7 hm;(conv=>whnf);refine StoreV.mem hm (i:=2) rfl (by simp) rfl ?_;intro w8 hm;(conv=>whnf);exact ⟨(),⟨rfl,rfl⟩,hm⟩
  ·exact ⟨(),by omega,hmJ⟩
 ·rintro D w5 ⟨_,hk,hmJ⟩;rw [hlen] at hk;have hm:=hm.glue hmJ;have hg:qkh m i=.tuple #[.string ⟨#[]⟩,.bool false]:=by
   have hst:=hn.stop;have hne:(blk (qj m) (qad m (i/16)) (i%16)).2.2≠0:=by
    have h1:=hst (by omega) (by omega);rw [qvk h1 (i:=i%16) (by omega)];exact h1
   rw [qkh,dGet,if_pos (by omega),if_neg hne]
  rw [hg];(conv=>whnf);refine StoreV.mem hm (i:=2) rfl (by simp) rfl ?_;intro w6 hm;(conv=>whnf);refine StoreV.mem hm (i:=1) rfl (by simp) rfl ?_;intro w7 hm;(conv=>whnf);refine LeaveV.mark (hm.get (List.mem_cons_self ..)) fun w8 hw=>?_;have hm:=hm.setO (i:=0) _ rfl hw;(conv=>whnf);refine qa (R:=fun v w'=>v=.tuple #[.string ⟨#[]⟩,.bool false]∧Ext w w') ?_;(conv=>whnf);refine zR hm 2 ?_;(conv=>whnf);refine zR hm 1 ?_;(conv=>whnf);exact ⟨rfl,hm.ext⟩
 ·rintro D c k w5 hkl ⟨_,⟨rfl,rfl⟩,hm⟩;rw [hlen] at hkl;have hg:qkh m i=.tuple #[.string ⟨(blk (qj m) (qad m (i/16)) (i%16)).1.toArray⟩,.bool true]:=by
   rw [qkh,dGet,if_pos (by omega),if_pos (hn.ok _ hkl).2]
  rw [hg];(conv=>whnf);refine LeaveV.mark (hm.get (List.mem_cons_self ..)) fun w8 hw=>?_;have hm:=hm.setO (i:=0) _ rfl hw;(conv=>whnf);refine qa (R:=fun v w'=>v=.tuple #[.string ⟨(blk (qj m) (qad m (i/16)) (i%16)).1.toArray⟩,.bool true]∧Ext w w') ?_;(conv=>whnf);refine zR hm 2 ?_;(conv=>whnf);refine zR hm 1 ?_;(conv=>whnf);exact ⟨rfl,hm.ext⟩
end Go.Proofs.YtajgbepghniciaaGreatDoor
namespace Go.Proofs.YtajgbepghniciaaGreatDoor
open Go.RowKit
namespace V
theorem StoreA.row {P:Program} {w0 w:World} {L:List (Nat × Obj)} {i b off:Nat} {cur:Array Value} {t:TypeId} {vs:List Value} {K:World→Prop} (h:Mem w0 w L)
  (hi:L[i]?=some (b,.cells cur t (0,0))) (hl:off+vs.length≤cur.size) (h1:∀ v∈vs,v.oneCell'=true)
  (hk:∀ w',(∀ c,c≠b→w'.heap[c]?=w.heap[c]?)→w.heap.size≤w'.heap.size→Mem w0 w' (L.set i (b,.cells (cur.toList.take off++vs++cur.toList.drop (off+vs.length)).toArray t (0,0)))→K w'):StoreA P w b off vs K:=by
 have hm:(b,Obj.cells cur t (0,0))∈L:=List.mem_of_getElem? hi;have hg:=h.get hm;have hr:=run_storeCells_at P b off t vs 0 cur w hg (by simpa using hl) h1;simp only [Nat.add_zero] at hr;refine ⟨_,hr,hk _ (fun c hc=>ql hc) (by simp [World.setRow]) ?_⟩;refine h.set hi ?_ (qbt hg) (fun c hc=>ql hc);exact Below.trans h.ext ⟨rfl,rfl,rfl,by simp [World.setRow],fun k hk=>ql (by have:=(h.own _ hm).1;simp only at this;omega)⟩
structure Er (w0:World) (L:List (Nat × Obj)) (o:Obj) (m1 m2 m3:Nat→Value) (c1 c2 c3:Bool) (v1 v2 v3:Value) (w:World):Prop where
 h:(c1=false∧c2=false∧c3=false∧Mem w0 w L)∨(c1=true∧∃ b,v1=m1 b∧(c2=true→v2=m2 b)∧(c3=true→v3=m3 b)∧Mem w0 w ((b,o)::L))
section
variable {w0 w w':World} {L L':List (Nat × Obj)} {o:Obj} {m1 m2 m3:Nat→Value} {c1 c2 c3:Bool} {v1 v2 v3:Value}
theorem Er.start (h:Mem w0 w L):Er w0 L o m1 m2 m3 false false false v1 v2 v3 w:=⟨.inl ⟨rfl,rfl,rfl,h⟩⟩
theorem Er.mem (h:Er w0 L o m1 m2 m3 c1 c2 c3 v1 v2 v3 w):Mem w0 w L:=by
 rcases h.h with ⟨_,_,_,h⟩|⟨_,b,_,_,_,h⟩
 ·exact h
 ·exact h.sub (List.sublist_cons_self ..)
theorem Er.made (h:Er w0 L o m1 m2 m3 false c2 c3 v1 v2 v3 w) {b:Nat} (he:Ext w w') (hb:w.heap.size≤b) (ho:w'.heap[b]?=some o):Er w0 L o m1 m2 m3 true c2 c3 (m1 b) v2 v3 w':=by
 rcases h.h with ⟨_,h2,h3,hm⟩|⟨h1,_⟩
 ·exact ⟨.inr ⟨rfl,b,rfl,fun h=>(by rw [h2] at h;cases h),fun h=>(by rw [h3] at h;cases h),hm.fresh he hb ho⟩⟩
 ·cases h1
theorem Er.alloc (h:Er w0 L o m1 m2 m3 false c2 c3 v1 v2 v3 w):Er w0 L o m1 m2 m3 true c2 c3 (m1 w.heap.size) v2 v3 (w.alloc o):=
 h.made ((Ext.refl w).alloc o) (Nat.le_refl _) (heap_alloc_new w o)
theorem Er.see (h:Er w0 L o m1 m2 m3 true c2 c3 v1 v2 v3 w):∃ b,v1=m1 b∧Er w0 L o m1 m2 m3 true true c3 (m1 b) (m2 b) v3 w∧Er w0 L o m1 m2 m3 true c2 true (m1 b) v2 (m3 b) w:=by
 rcases h.h with ⟨h1,_⟩|⟨_,b,h2,h3,h4,h⟩
 ·cases h1
 ·exact ⟨b,h2,⟨.inr ⟨rfl,b,rfl,fun _=>rfl,h4,h⟩⟩,⟨.inr ⟨rfl,b,rfl,h3,fun _=>rfl,h⟩⟩⟩
theorem Er.see2 (h:Er w0 L o m1 m2 m3 c1 true c3 v1 v2 v3 w):∃ b,v2=m2 b∧Er w0 L o m1 m2 m3 c1 true true v1 (m2 b) (m3 b) w:=by
 rcases h.h with ⟨_,h1,_⟩|⟨h0,b,h2,h3,h4,h⟩
 ·cases h1
 ·exact ⟨b,h3 rfl,⟨.inr ⟨h0,b,h2,fun _=>rfl,fun _=>rfl,h⟩⟩⟩
theorem Er.store {P:Program} {K:World→Prop} {i b:Nat} {cur:Array Value} {t:TypeId} {vs:List Value} (h:Er w0 L o m1 m2 m3 c1 c2 c3 v1 v2 v3 w) (hi:L[i]?=some (b,.cells cur t (0,0)))
  (hl:cur.size=vs.length) (hv:∀ v∈vs,v.oneCell'=true) (hL:L.set i (b,.cells vs.toArray t (0,0))=L') (hk:∀ w',(∀ c,c≠b→w'.heap[c]?=w.heap[c]?)→Er w0 L' o m1 m2 m3 c1 c2 c3 v1 v2 v3 w'→K w'):StoreA P w b 0 vs K:=by
 subst hL;have e:(cur.toList.take 0++vs++cur.toList.drop (0+vs.length)).toArray=vs.toArray:=by
  rw [List.take_zero,List.nil_append,List.drop_eq_nil_of_le (by simp;omega),List.append_nil]
 rcases h.h with ⟨h1,h2,h3,h⟩|⟨h1,x,h2,h3,h4,h⟩
 ·refine StoreA.row h hi (by omega) hv fun w' hf _ hm=>hk w' hf ⟨.inl ⟨h1,h2,h3,?_⟩⟩
  rwa [e] at hm
 ·refine StoreA.row h (i:=i+1) hi (by omega) hv fun w' hf _ hm=>hk w' hf ⟨.inr ⟨h1,x,h2,h3,h4,?_⟩⟩;rw [e] at hm;exact hm
theorem Er.done (h:Er w0 L o m1 m2 m3 true c2 true v1 v2 v3 w):∃ b,v1=m1 b∧v3=m3 b∧Mem w0 w ((b,o)::L):=by
 rcases h.h with ⟨h1,_⟩|⟨_,b,h2,_,h4,h⟩
 ·cases h1
 ·exact ⟨b,h2,h4 rfl,h⟩
end
theorem StoreV.row {w0 w:World} {L:List (Nat × Obj)} {i b off:Nat} {cs:Array Value} {t:TypeId} {v:Value} {K:World→Prop} (h:Mem w0 w L) (hi:L[i]?=some (b,.cells cs t (0,0)))
  (ho:off<cs.size) (h1:qdf v=true) (hk:∀ w',(∀ c,c≠b→w'.heap[c]?=w.heap[c]?)→w.heap.size≤w'.heap.size→Mem w0 w' (L.set i (b,.cells (cs.setIfInBounds off v) t (0,0)))→K w'):StoreV w b off v K:=
 StoreV.own (h.get (List.mem_of_getElem? hi)) ho h1 fun w' hw=>hk w' (fun c hc=>by subst hw;exact Below.heap_setCell _ _ _ _ hc) (by subst hw;simp [World.setCell]) (h.setCell hi hw)
theorem CellsAt.other {w w':World} {x b off:Nat} {vs:List Value} (h:CellsAt w b off vs) (hb:b≠x) (hw:∀ c,c≠x→w'.heap[c]?=w.heap[c]?):CellsAt w' b off vs:=by
 intro k v hv;have:=h k v hv;unfold World.cell? at this ⊢;simp only at this ⊢;rw [hw b hb];exact this
theorem SlAt.other {α:Type} {enc:α→List Value} {size:Nat} {w w':World} {A:Option Addr} {l:List α} {x:Nat} {cs:Array Value} {t:TypeId} {fz:Nat × Nat} (h:SlAt enc size w A l) (hx:w.heap[x]?=some (.cells cs t fz))
  (hne:∀ y∈l,∀ v∈cs.toList,(enc y)[0]?≠some v) (hen:∀ y∈l,enc y≠[]) (hw:∀ c,c≠x→w'.heap[c]?=w.heap[c]?):SlAt enc size w' A l:=by
 refine ⟨fun hn=>?_⟩;obtain ⟨b,off,h1,h2⟩:=h.at_ hn;refine ⟨b,off,h1,fun j y hy=>(h2 j y hy).other ?_ hw⟩;intro hbx;subst hbx;have hy':y∈l:=List.mem_of_getElem? hy;obtain ⟨v,hv⟩:∃ v,(enc y)[0]?=some v:=by
  cases he:enc y with
  | nil=>exact absurd he (hen y hy')
  | cons v r=>exact ⟨v,rfl⟩
 have h3:=h2 j y hy 0 v hv;rw [qd hx] at h3;exact hne y hy' v (Array.mem_toList_iff.2 (Array.mem_of_getElem? h3)) hv
end V
open Go.RowKit V
set_option maxRecDepth 100000
def errV (b:Nat):Value:=.iface 135 (.pointer (some ⟨b,0,none⟩))
def errO (p c:Nat):Obj:=.cells #[.int .i64 p,.iface 26 (.int .i64 c)] 137 (0,0)
theorem qlp (p c:Nat) (w:World):Gv Tryz.prog 162 [.int .i64 p,.int .i64 c] w fun v w'=>∃ b,v=errV b∧w.heap.size≤b∧w'.heap[b]?=some (errO p c)∧Ext w w':=by
 refine zE Tryz.func162 Tryz.ntmps162 ?_;(conv=>whnf);refine NewV.mem (Mem.nil w) ?_;intro b w1 hm;(conv=>whnf);exact ⟨b,rfl,(hm.own _ (List.mem_cons_self ..)).1,hm.get (List.mem_cons_self ..),hm.ext⟩
def ErrTyp (w:World):Prop:=w.cell? ⟨1,0,none⟩=some (.iface 385 (.agg #[.pointer (some ⟨7,49,none⟩)]))
theorem ErrTyp.ext {w w':World} (h:ErrTyp w) (he:Ext w w'):ErrTyp w':=he.cell h
theorem qls (t:Value) (w:World):Gv Tryz.prog 163 [.nilIface,t] w fun r w'=>r=.bool false∧w'=w:=
 qg4 (by kernel_rfl) ((qzv t w).mono fun e w' ⟨he,hw⟩=>⟨_,he,rfl,hw⟩)
theorem qlr (e pb:Nat) {w0 w:World} {L:List (Nat × Obj)} {i:Nat} (hm:Mem w0 w L) (hi:L[i]?=some (pb,.cells #[.pointer none] 135 (0,0))) (hg:ErrTyp w) :
  Gv Tryz.prog 163 [errV e,.iface 267 (.pointer (some ⟨pb,0,none⟩))] w fun r w'=>r=.bool true∧Mem w0 w' (L.set i (pb,.cells #[.pointer (some ⟨e,0,none⟩)] 135 (0,0)))∧
   ∃ w4,Ext w w4∧∀ c,c≠pb→w'.heap[c]?=w4.heap[c]?:=by
 have hb:=hm.get (List.mem_of_getElem? hi);refine qg4 (by kernel_rfl) ((qzu ⟨e,0,none⟩ ⟨pb,0,none⟩ (.pointer none) w hg (by rw [qd hb];rfl) (by simp [World.frozen?,hb])).mono ?_);rintro r w' ⟨rfl,hw⟩;refine ⟨_,rfl,rfl,?_,_,(((((Ext.refl w).alloc _).alloc _).alloc _).alloc _),fun c hc=>by subst hw;exact Below.heap_setCell _ _ _ _ hc⟩;exact (hm.call (((((Ext.refl w).alloc _).alloc _).alloc _).alloc _)).setCell hi hw
def fE (l:List UInt8) (E:Nat→Nat × Nat):Nat × Nat:=if (sE l).2≠0 then sE l else errF (fun k=>if (E k).2=0 then (0,0) else (qi l k+(E k).1,(E k).2)) 3
def vF (d:Nat→Nat) (l:List UInt8) (k:Nat):Nat→Value:=fun j=>
 if j=6 then .int .i64 (vTot l k:Nat) else if j/2<k then (if j%2=0 then .pointer (some ⟨d (j/2),0,none⟩) else .int .i64 (vTot l (j/2)+1:Nat)) else (if j%2=0 then .pointer none else .int .i64 0)
structure VocAt (w:World) (b:Nat) (l:List UInt8):Prop where
 h:∃ d,w.heap[b]?=some (.cells (fnA 7 (vF d l 3)) 264 (0,0))∧∀ k,k<3→DictAt w (d k) (qn l k)
theorem VocAt.ext {w w':World} {b:Nat} {l:List UInt8} (h:VocAt w b l) (he:Ext w w'):VocAt w' b l:=by
 obtain ⟨d,h1,h2⟩:=h;exact ⟨d,he.get h1,fun k hk=>(h2 k hk).ext he⟩
def DoR (m:List UInt8) (E:Nat × Nat) (v:Value) (w:World):Prop:=
 (E.2≠0∧∃ e,v=.tuple #[.pointer none,e]∧ErrAt w e E.1 E.2)∨(E.2=0∧∃ b,v=.tuple #[.pointer (some ⟨b,0,none⟩),.nilIface]∧DictAt w b m)
def FndR (l:List UInt8) (E:Nat→Nat × Nat) (v:Value) (w:World):Prop:=
 ((fE l E).2≠0∧∃ G e,v=.tuple #[.pointer none,.agg (fnA 3 (inF G)),e]∧ErrAt w e (fE l E).1 (fE l E).2)∨
 ((fE l E).2=0∧∃ b G,v=.tuple #[.pointer (some ⟨b,0,none⟩),.agg (fnA 3 (inF G)),.nilIface]∧(∀ k,k<3→G k=((qi l k:Nat):Int))∧VocAt w b l)
theorem qpb (n:Nat) (F:Nat→Value) (j:Nat) (h:j<n):(fnA n F).toList[j]?=some (F j):=by
 have:=qgi n F j h
 simpa using this
theorem qs6 {n:Nat} {F G:Nat→Value} (h:∀ j,j<n→F j=G j):fnA n F=fnA n G:=by
 unfold fnA
 congr 1
 exact List.map_congr_left fun j hj=>h j (by simpa using hj)
theorem qv1 (n:Nat) (F:Nat→Value) (i:Nat) (a b:Value) (h:i+2≤n):((fnA n F).toList.take i++[a,b]++(fnA n F).toList.drop (i+[a,b].length)).toArray=fnA n (updF (updF F i a) (i+1) b):=by
 rw [← qh6,← qh6,← Array.toList_inj];simp only [Array.toList_setIfInBounds,List.length_cons,List.length_nil];have hl:(fnA n F).toList.length=n:=by simp [qg]
 generalize (fnA n F).toList=xs at hl;apply List.ext_getElem?;intro j;rw [List.getElem?_set,List.getElem?_set,List.append_assoc,List.getElem?_append];simp only [List.length_take,List.length_set,hl]
 by_cases h1:j<i
 ·rw [if_pos (by omega),if_neg (by omega),if_neg (by omega),List.getElem?_take,if_pos h1]
 ·rw [if_neg (by omega),List.getElem?_append];simp only [List.length_cons,List.length_nil]
  by_cases h2:j=i
  ·subst h2;rw [if_pos (by omega),if_neg (by omega),if_pos rfl,if_pos (by omega),show j-min j n=0 by omega];rfl
  ·by_cases h3:j=i+1
   ·subst h3;rw [if_pos (by omega),if_pos rfl,if_pos (by omega),show i+1-min i n=1 by omega];rfl
   ·rw [if_neg (by omega),if_neg (by omega),if_neg (by omega),List.getElem?_drop]
    congr 1
    omega
theorem DictAt.other {w w':World} {b x:Nat} {m:List UInt8} {cs:Array Value} {t:TypeId} {fz:Nat × Nat} (h:DictAt w b m) (hx:w.heap[x]?=some (.cells cs t fz)) (ht:t≠345) (hc:∀ v∈cs.toList,∀ c:Nat,v≠.int .u8 c)
  (hw:∀ c,c≠x→w'.heap[c]?=w.heap[c]?):DictAt w' b m:=by
 obtain ⟨⟨P,cp,E,ce,h1,h2,h3,h4⟩,h5,h6,h7,h8⟩:=h;have hbx:b≠x:=by
  intro e;subst e;rw [hx] at h1
  injection h1 with h1
  injection h1 with _ h1 _
  exact ht h1
 have hne:∀ (z:List UInt8),∀ y∈z,∀ v∈cs.toList,(encB y)[0]?≠some v:=fun z y _ v hv e=>by
  cases e;exact hc _ hv _ rfl
 exact ⟨⟨P,cp,E,ce,by rw [hw b hbx];exact h1,h2.other hx (hne _) (fun _ _ e=>by cases e) hw,h3.other hx (hne _) (fun _ _ e=>by cases e) hw,h4⟩,h5,h6,h7,h8⟩
theorem qxv (d:Nat→Nat) (l:List UInt8) (k j:Nat):∀ c:Nat,vF d l k j≠.int .u8 c:=by
 intro c;unfold vF
 split
 ·intro e;cases e
 ·split
  ·split<;>(intro e;cases e)
  ·split<;>(intro e;cases e)
theorem qzo (d:Nat→Nat) (l:List UInt8) (k b:Nat) (hk:k<3):fnA 7 (updF (updF (updF (vF d l k) (2*k) (.pointer (some ⟨b,0,none⟩))) (2*k+1) (.int .i64 (vTot l k+1:Nat))) 6 (.int .i64 (vTot l (k+1):Nat))) =
  fnA 7 (vF (fun j=>if j=k then b else d j) l (k+1)):=qs6 fun j hj=>by
 rcases (show k=0∨k=1∨k=2 by omega) with rfl|rfl|rfl<;>
 rcases (show j=0∨j=1∨j=2∨j=3∨j=4∨j=5∨j=6 by omega) with rfl|rfl|rfl|rfl|rfl|rfl|rfl<;>rfl
set_option maxHeartbeats 8000000 in
theorem qs7 (l:List UInt8) (A:Option Addr) (c:Nat) (w:World) (hS:SlAt encB 1 w A l) (hc:l.length≤c) (hl:l.length≤70368744177664) (hG:ErrTyp w) (f:FuncId) (E:Nat→Nat × Nat) (hEb:∀ k,k<3→(E k).1≤70368744177664)
  (hf:∀ k,k<3→∀ w' B c',Ext w w'→SlAt encB 1 w' B (qn l k)→(qn l k).length≤c'→Gv Tryz.prog f [.slice B (qn l k).length c'] w' fun v w''=>DoR (qn l k) (E k) v w''∧Ext w' w'') :
  Gv Tryz.prog 97 [.slice A l.length c,.func (.func f) #[] #[]] w fun v w'=>FndR l E v w'∧Ext w w':=by
 refine zE Tryz.func97 Tryz.ntmps97 ?_;(conv=>whnf);refine NewV.mem (Mem.nil w) ?_;intro r5 w1 hm;(conv=>whnf);refine CallV.of (qdg _ l w1 ⟨A,c,rfl,hc,hS.ext hm.ext⟩) ?_;rintro v w2 ⟨cb,rfl,hcb,hco,he1⟩;have hm:=hm.fresh he1 hcb hco;(conv=>whnf);refine NewV.mem hm ?_;intro sz w3 hm;(conv=>whnf);refine NewV.mem hm ?_;intro pl w4 hm;have hm:Mem w w4 [(pl,.cells (fnA 3 (inF (fun _:Nat=>(0:Int)))) 124 (0,0)),(sz,.cells (fnA 3 (inF (fun _:Nat=>(0:Int)))) 124 (0,0)),(cb,curO 251 (.slice A l.length c) (vAt l 0) 0),(r5,.cells (fnA 3 (inF (fun _:Nat=>(0:Int)))) 124 (0,0))]:=hm;(conv=>whnf);refine qm (fun x:Nat × (Nat→Int)=>[(0,.slice A l.length c),(1,.func (.func f) #[] #[]),(4,.pointer none),(5,.pointer (some ⟨r5,0,none⟩)),(6,.nilIface),(7,.pointer (some ⟨cb,0,none⟩)),(8,.pointer (some ⟨sz,0,none⟩)),(9,.pointer (some ⟨pl,0,none⟩)),(24,.int .i64 x.1)])
  (fun x w'=>x.1≤3∧(∀ j,j<x.1→(vsF l j).2=0)∧(∀ j,j<x.1→x.2 j=((vNum l j:Nat):Int))∧Mem w w' [(pl,.cells (fnA 3 (inF (fun _:Nat=>(0:Int)))) 124 (0,0)),(sz,.cells (fnA 3 (inF (x.2))) 124 (0,0)),(cb,curO 251 (.slice A l.length c) (vAt l x.1) 0),(r5,.cells (fnA 3 (inF (fun _:Nat=>(0:Int)))) 124 (0,0))]) (fun x=>3-x.1) (0,fun _:Nat=>(0:Int))
  ⟨rfl,rfl,rfl,rfl,rfl,rfl,rfl,rfl,rfl,trivial⟩ ⟨by simp,fun j h=>by simp at h,fun j h=>by simp at h,hm⟩ ?_
 clear hm hco he1 hcb;rintro ⟨k,Q⟩ w6 ρ' ⟨k1,hz,hQ,hm⟩;dsimp only at k1 hz hQ hm ⊢;have hle:=qbs l k;have hlt:=qe7 l k;(conv=>whnf);refine zC (fun _=>?_) (fun _=>?_)<;>(conv=>whnf)
 ·refine CallV.of (qg2 cb (.slice A l.length c) (vAt l k) 0 w6 (hm.get (by simp))) ?_;rintro r w7 ⟨rfl,rfl⟩;(conv=>whnf);refine CallV.of (qch cb (.slice A l.length c) (vAt l k) 0 l _ (hm.get (by simp)) ⟨A,c,rfl,hc,hS.ext hm.ext⟩ hle (by omega)) ?_;rintro r w8 ⟨rfl,hu⟩
  by_cases he:(numL (l.drop (vAt l k))).2.2=0
  case neg=>
   rw [qhw he,qhx he] at hu;rw [qhv he];obtain ⟨q,eq⟩:∃ q,q=(numL (l.drop (vAt l k))).2.2:=⟨_,rfl⟩
   have hf:vsF l k=(vAt l k,q):=by rw [vsF,qde he,eq]
   rw [← eq] at hu he;have hE1:sE l=(vAt l k,q):=by rw [qpv hz (by omega) (by rw [hf];exact he),hf]
   have hE:fE l E=(vAt l k,q):=by rw [fE,hE1,if_pos he]
   have hm:Mem w w8 [(pl,.cells (fnA 3 (inF (fun _:Nat=>(0:Int)))) 124 (0,0)),(sz,.cells (fnA 3 (inF (Q))) 124 (0,0)),(cb,curO 251 (.slice A l.length c) (vAt l k) q),(r5,.cells (fnA 3 (inF (fun _:Nat=>(0:Int)))) 124 (0,0))]:=hm.upd (i:=2) rfl hu;(conv=>whnf);refine CallV.of (qbp cb (.slice A l.length c) (vAt l k) q w8 (hm.get (by simp))) ?_;rintro r w9 ⟨rfl,rfl⟩;(conv=>whnf);refine zY (fun _=>?_);(conv=>whnf);refine DrawV.gen (fun S vals w'=>Er w [(pl,.cells (fnA 3 (inF (fun _:Nat=>(0:Int)))) 124 (0,0)),(sz,.cells (fnA 3 (inF (Q))) 124 (0,0)),(cb,curO 251 (.slice A l.length c) (vAt l k) q),(r5,.cells (bif S 6 then fnA 3 (inF (fun _:Nat=>(0:Int))) else fnA 3 (inF (fun _:Nat=>(0:Int)))) 124 (0,0))] (errO (vAt l k) (q)) errV errV errV (S 4) false (S 7) (vals 4) undef (vals 7) w') rfl (by kernel_rfl) (fun vals=>Er.start hm.drew) ?_;clear hm;(conv=>whnf);refine StepG.of (.agg (fnA 3 (inF (fun _:Nat=>(0:Int))))) (fun S vals wd hk hp hI=>?_) ?_
   ·(conv=>whnf);refine LoadA.mem hI.mem (i:=0) rfl (by simp [qg];rfl) ?_;(conv=>whnf);exact ⟨rfl,hI⟩
   (conv=>whnf);refine zG ?_;(conv=>whnf);refine zG ?_;(conv=>whnf);refine StepG.of (.int .i64 (q:Nat)) (fun S vals wd hk hp hI=>?_) ?_
   ·(conv=>whnf);refine CallV.of (qbp cb (.slice A l.length c) (vAt l k) q wd (hI.mem.get (by simp))) ?_;rintro r w9 ⟨rfl,rfl⟩;exact ⟨rfl,hI⟩
   (conv=>whnf);refine StepG.any (fun S vals wd hk hp hI=>?_) ?_
   ·dsimp only at hI;rw [hk] at hI;(conv=>whnf);refine CallV.of (qlp (vAt l k) (q) wd) ?_;rintro v w8 ⟨eb,rfl,hb,ho,he⟩;exact ⟨trivial,hI.made he hb ho⟩
   (conv=>whnf);refine zG ?_;(conv=>whnf);refine StepG.of undef (fun S vals wd hk hp hI=>?_) ?_
   ·dsimp only at hI;rw [hk] at hI;(conv=>whnf);refine hI.store (i:=3) rfl (by simp [qg]) (qar 3 _) rfl ?_;intro wx _ hx;(conv=>whnf);exact ⟨rfl,hx⟩
   (conv=>whnf);refine StepG.any (fun S vals wd hk hp hI=>?_) ?_
   ·have h4:S 4=true:=hp 4 (by decide);dsimp only at hI;rw [hk,h4] at hI;obtain ⟨eb,hv,_,h3⟩:=hI.see;rw [qh hv];(conv=>whnf);exact ⟨trivial,by show Er _ _ _ _ _ _ (S 4) false true _ _ _ _;rw [h4];exact h3⟩
   (conv=>whnf);intro vals w8 hI;obtain ⟨eb,hv1,hv3,hm⟩:=hI.done;rw [qh hv1,qh hv3];clear hI;have hm:Mem w w8 ((eb,errO (vAt l k) (q))::[(pl,.cells (fnA 3 (inF (fun _:Nat=>(0:Int)))) 124 (0,0)),(sz,.cells (fnA 3 (inF (Q))) 124 (0,0)),(cb,curO 251 (.slice A l.length c) (vAt l k) q),(r5,.cells (fnA 3 (inF (fun _:Nat=>(0:Int)))) 124 (0,0))]):=hm;(conv=>whnf);refine qa (R:=fun v w'=>FndR l E v w'∧Ext w w') ?_;(conv=>whnf);refine LoadA.mem hm (i:=4) rfl (by simp [qg];rfl) ?_;(conv=>whnf);exact ⟨.inl ⟨by rw [hE];exact he,(fun _:Nat=>(0:Int)),errV eb,rfl,⟨eb,rfl,by rw [hE];exact CellsAt.mem hm (List.mem_cons_self ..)⟩⟩,hm.ext⟩
  rw [qhz he,qh0 he] at hu;rw [qhy he];have hm:Mem w w8 [(pl,.cells (fnA 3 (inF (fun _:Nat=>(0:Int)))) 124 (0,0)),(sz,.cells (fnA 3 (inF (Q))) 124 (0,0)),(cb,curO 251 (.slice A l.length c) (vAt l (k+1)) 0),(r5,.cells (fnA 3 (inF (fun _:Nat=>(0:Int)))) 124 (0,0))]:=hm.upd (i:=2) rfl hu;(conv=>whnf);refine CallV.of (qbp cb (.slice A l.length c) (vAt l (k+1)) 0 w8 (hm.get (by simp))) ?_;rintro r w9 ⟨rfl,rfl⟩;conv=>whnf
  (repeat' (first|((with_reducible refine zC (fun _=>?_) (fun _=>?_))<;>first|(exfalso;omega)|(conv=>whnf))|(refine Wit.conv ⟨by omega,by omega⟩ ?_;(conv=>whnf))|((with_reducible refine zX ?_);(conv=>whnf))))
  ·have hf:vsF l k=(vAt l k,2):=by rw [vsF,qcj he (by omega)]
   have hE1:sE l=(vAt l k,2):=by rw [qpv hz (by omega) (by rw [hf];exact Nat.succ_ne_zero _),hf]
   have hE:fE l E=(vAt l k,2):=by rw [fE,hE1,if_pos (Nat.succ_ne_zero _)]
   refine DrawV.gen (fun S vals w'=>Er w [(pl,.cells (fnA 3 (inF (fun _:Nat=>(0:Int)))) 124 (0,0)),(sz,.cells (fnA 3 (inF (Q))) 124 (0,0)),(cb,curO 251 (.slice A l.length c) (vAt l (k+1)) 0),(r5,.cells (bif S 4 then fnA 3 (inF (fun _:Nat=>(0:Int))) else fnA 3 (inF (fun _:Nat=>(0:Int)))) 124 (0,0))] (errO (vAt l k) (2)) errV errV errV (S 2) false (S 5) (vals 2) undef (vals 5) w') rfl (by kernel_rfl) (fun vals=>Er.start hm.drew) ?_;clear hm;(conv=>whnf);refine StepG.of (.agg (fnA 3 (inF (fun _:Nat=>(0:Int))))) (fun S vals wd hk hp hI=>?_) ?_
   ·(conv=>whnf);refine LoadA.mem hI.mem (i:=0) rfl (by simp [qg];rfl) ?_;(conv=>whnf);exact ⟨rfl,hI⟩
   (conv=>whnf);refine zG ?_;(conv=>whnf);refine StepG.any (fun S vals wd hk hp hI=>?_) ?_
   ·dsimp only at hI;rw [hk] at hI;(conv=>whnf);refine CallV.of (qlp (vAt l k) (2) wd) ?_;rintro v w8 ⟨eb,rfl,hb,ho,he⟩;exact ⟨trivial,hI.made he hb ho⟩
   (conv=>whnf);refine zG ?_;(conv=>whnf);refine StepG.of undef (fun S vals wd hk hp hI=>?_) ?_
   ·dsimp only at hI;rw [hk] at hI;(conv=>whnf);refine hI.store (i:=3) rfl (by simp [qg]) (qar 3 _) rfl ?_;intro wx _ hx;(conv=>whnf);exact ⟨rfl,hx⟩
   (conv=>whnf);refine StepG.any (fun S vals wd hk hp hI=>?_) ?_
   ·have h4:S 2=true:=hp 2 (by decide);dsimp only at hI;rw [hk,h4] at hI;obtain ⟨eb,hv,_,h3⟩:=hI.see;rw [qh hv];(conv=>whnf);exact ⟨trivial,by show Er _ _ _ _ _ _ (S 2) false true _ _ _ _;rw [h4];exact h3⟩
   (conv=>whnf);intro vals w8 hI;obtain ⟨eb,hv1,hv3,hm⟩:=hI.done;rw [qh hv1,qh hv3];clear hI;have hm:Mem w w8 ((eb,errO (vAt l k) (2))::[(pl,.cells (fnA 3 (inF (fun _:Nat=>(0:Int)))) 124 (0,0)),(sz,.cells (fnA 3 (inF (Q))) 124 (0,0)),(cb,curO 251 (.slice A l.length c) (vAt l (k+1)) 0),(r5,.cells (fnA 3 (inF (fun _:Nat=>(0:Int)))) 124 (0,0))]):=hm;(conv=>whnf);refine qa (R:=fun v w'=>FndR l E v w'∧Ext w w') ?_;(conv=>whnf);refine LoadA.mem hm (i:=4) rfl (by simp [qg];rfl) ?_;(conv=>whnf);exact ⟨.inl ⟨by rw [hE];exact Nat.succ_ne_zero _,(fun _:Nat=>(0:Int)),errV eb,rfl,⟨eb,rfl,by rw [hE];exact CellsAt.mem hm (List.mem_cons_self ..)⟩⟩,hm.ext⟩
  refine StoreV.fi (x:=((vNum l k:Nat):Int)) hm (i:=1) rfl k (by rw [show tsz Tryz.prog 3=1 from by kernel_rfl];omega) (by omega) ?_;intro w10 hm;have hm:Mem w w10 [(pl,.cells (fnA 3 (inF (fun _:Nat=>(0:Int)))) 124 (0,0)),(sz,.cells (fnA 3 (inF (updI Q k (vNum l k:Nat)))) 124 (0,0)),(cb,curO 251 (.slice A l.length c) (vAt l (k+1)) 0),(r5,.cells (fnA 3 (inF (fun _:Nat=>(0:Int)))) 124 (0,0))]:=hm;(conv=>whnf);refine zA ?_;(conv=>whnf);refine ⟨(k+1,updI Q k (vNum l k:Nat)),⟨rfl,rfl,rfl,rfl,rfl,rfl,rfl,rfl,rfl,trivial⟩,⟨by simp only;omega,fun j hj=>?_,fun j hj=>?_,hm⟩,by simp only;omega⟩
  ·by_cases e:j=k
   ·subst e;rw [vsF,qbu he (by omega)]
   ·exact hz j (by simp only at hj;omega)
  ·simp only at hj ⊢
   by_cases e:j=k
   ·subst e;exact qbk _ _ _
   ·rw [qae _ _ _ _ e];exact hQ j (by omega)
 obtain rfl:k=3:=by omega
 have hz0:(errF (vsF l) 3).2=0:=qap hz;have hnb:∀ j,j<3→vNum l j≤67108864:=fun j hj=>qb4 (hz j hj)
 refine CallV.of (qg2 cb (.slice A l.length c) (vAt l 3) 0 w6 (hm.get (by simp))) ?_;rintro r w7 ⟨rfl,rfl⟩;(conv=>whnf);refine LoadA.mem hm (i:=1) rfl (by simp [qg];rfl) ?_;(conv=>whnf);refine qm (fun x:Nat × (Nat→Int)=>[(0,.slice A l.length c),(1,.func (.func f) #[] #[]),(4,.pointer none),(5,.pointer (some ⟨r5,0,none⟩)),(6,.nilIface),(8,.pointer (some ⟨sz,0,none⟩)),(9,.pointer (some ⟨pl,0,none⟩)),(13,.int .i64 (qi l x.1:Nat)),(53,.agg (fnA 3 (inF Q))),(54,.int .i64 x.1)])
  (fun x w'=>x.1≤3∧(∀ j,j<x.1→x.2 j=((qi l j:Nat):Int))∧Mem w w' [(pl,.cells (fnA 3 (inF (x.2))) 124 (0,0)),(sz,.cells (fnA 3 (inF (Q))) 124 (0,0)),(cb,curO 251 (.slice A l.length c) (vAt l 3) 0),(r5,.cells (fnA 3 (inF (fun _:Nat=>(0:Int)))) 124 (0,0))]) (fun x=>3-x.1) (0,fun _:Nat=>(0:Int))
  ⟨rfl,rfl,rfl,rfl,rfl,rfl,rfl,rfl,rfl,rfl,trivial⟩ ⟨by simp,fun j h=>by simp at h,hm⟩ ?_
 clear hm;rintro ⟨k,P⟩ w8 ρ2 ⟨k2,hP,hm⟩;dsimp only at k2 hP hm ⊢;have hs1:qi l (k+1)=qi l k+vNum l k:=rfl;have hsb:∀ j,j≤3→qi l j≤l.length+201326592:=by
  have e0:qi l 0=vAt l 3:=rfl;have e1:qi l 1=qi l 0+vNum l 0:=rfl;have e2:qi l 2=qi l 1+vNum l 1:=rfl;have e3:qi l 3=qi l 2+vNum l 2:=rfl;have h0:=hnb 0 (by omega);have h1:=hnb 1 (by omega);have h2:=hnb 2 (by omega);have h3:=qbs l 3;intro j hj
  rcases (show j=0∨j=1∨j=2∨j=3 by omega) with rfl|rfl|rfl|rfl<;>omega
 have hsk:=hsb k (by omega);conv=>whnf
 (repeat' (first|((with_reducible refine zC (fun _=>?_) (fun _=>?_))<;>first|(exfalso;omega)|(conv=>whnf))|((with_reducible refine zX ?_);(conv=>whnf))))
 ·have hn:=hnb k (by omega);refine ⟨.int .i64 (vNum l k:Nat),?_,?_⟩
  ·rw [show k*tsz Tryz.prog 3=k from by rw [show tsz Tryz.prog 3=1 from by kernel_rfl];omega];have:=qpb 3 (inF Q) k (by omega);rw [inF,hQ k (by omega)] at this;exact this
  (conv=>whnf);refine IdxV.at_ k (by omega) (by omega) ?_;(conv=>whnf);refine StoreV.fi (x:=((qi l k:Nat):Int)) hm (i:=0) rfl k (by rw [show tsz Tryz.prog 3=1 from by kernel_rfl];omega) (by omega) ?_;intro w10 hm;have hm:Mem w w10 [(pl,.cells (fnA 3 (inF (updI P k (qi l k:Nat)))) 124 (0,0)),(sz,.cells (fnA 3 (inF (Q))) 124 (0,0)),(cb,curO 251 (.slice A l.length c) (vAt l 3) 0),(r5,.cells (fnA 3 (inF (fun _:Nat=>(0:Int)))) 124 (0,0))]:=hm;(conv=>whnf);(iterate 2 (refine zA ?_;(conv=>whnf)));refine ⟨(k+1,updI P k (qi l k:Nat)),⟨rfl,rfl,rfl,rfl,rfl,rfl,rfl,?_,rfl,rfl,trivial⟩,⟨by simp only;omega,fun j hj=>?_,hm⟩,by simp only;omega⟩
  ·show Value.int .i64 _=Value.int .i64 _
   congr 1
  ·simp only at hj ⊢
   by_cases e:j=k
   ·subst e;exact qbk _ _ _
   ·rw [qae _ _ _ _ e];exact hP j (by omega)
 ·obtain rfl:k=3:=by omega
  have hsE:sE l=if l.length<qi l 3 then (l.length,10) else if qi l 3<l.length then (qi l 3,13) else (0,0):=by rw [sE,if_neg (by omega)]
  have hE1:sE l=(l.length,10):=by rw [hsE,if_pos (by omega)]
  have hE:fE l E=(l.length,10):=by rw [fE,hE1,if_pos (Nat.succ_ne_zero _)]
  refine DrawV.gen (fun S vals w'=>Er w [(pl,.cells (fnA 3 (inF (P))) 124 (0,0)),(sz,.cells (fnA 3 (inF (Q))) 124 (0,0)),(cb,curO 251 (.slice A l.length c) (vAt l 3) 0),(r5,.cells (bif S 5 then fnA 3 (inF (P)) else fnA 3 (inF (fun _:Nat=>(0:Int)))) 124 (0,0))] (errO (l.length) (10)) errV errV errV (S 3) false (S 6) (vals 3) undef (vals 6) w') rfl (by kernel_rfl) (fun vals=>Er.start hm.drew) ?_;clear hm;(conv=>whnf);refine StepG.of (.agg (fnA 3 (inF (P)))) (fun S vals wd hk hp hI=>?_) ?_
  ·(conv=>whnf);refine LoadA.mem hI.mem (i:=0) rfl (by simp [qg];rfl) ?_;(conv=>whnf);exact ⟨rfl,hI⟩
  (conv=>whnf);refine zG ?_;(conv=>whnf);refine zG ?_;(conv=>whnf);refine StepG.any (fun S vals wd hk hp hI=>?_) ?_
  ·dsimp only at hI;rw [hk] at hI;(conv=>whnf);refine CallV.of (qlp (l.length) (10) wd) ?_;rintro v w8 ⟨eb,rfl,hb,ho,he⟩;exact ⟨trivial,hI.made he hb ho⟩
  (conv=>whnf);refine zG ?_;(conv=>whnf);refine StepG.of undef (fun S vals wd hk hp hI=>?_) ?_
  ·dsimp only at hI;rw [hk] at hI;(conv=>whnf);refine hI.store (i:=3) rfl (by simp [qg]) (qar 3 _) rfl ?_;intro wx _ hx;(conv=>whnf);exact ⟨rfl,hx⟩
  (conv=>whnf);refine StepG.any (fun S vals wd hk hp hI=>?_) ?_
  ·have h4:S 3=true:=hp 3 (by decide);dsimp only at hI;rw [hk,h4] at hI;obtain ⟨eb,hv,_,h3⟩:=hI.see;rw [qh hv];(conv=>whnf);exact ⟨trivial,by show Er _ _ _ _ _ _ (S 3) false true _ _ _ _;rw [h4];exact h3⟩
  (conv=>whnf);intro vals w8 hI;obtain ⟨eb,hv1,hv3,hm⟩:=hI.done;rw [qh hv1,qh hv3];clear hI;have hm:Mem w w8 ((eb,errO (l.length) (10))::[(pl,.cells (fnA 3 (inF (P))) 124 (0,0)),(sz,.cells (fnA 3 (inF (Q))) 124 (0,0)),(cb,curO 251 (.slice A l.length c) (vAt l 3) 0),(r5,.cells (fnA 3 (inF (P))) 124 (0,0))]):=hm;(conv=>whnf);refine qa (R:=fun v w'=>FndR l E v w'∧Ext w w') ?_;(conv=>whnf);refine LoadA.mem hm (i:=4) rfl (by simp [qg];rfl) ?_;(conv=>whnf);exact ⟨.inl ⟨by rw [hE];exact Nat.succ_ne_zero _,(P),errV eb,rfl,⟨eb,rfl,by rw [hE];exact CellsAt.mem hm (List.mem_cons_self ..)⟩⟩,hm.ext⟩
 ·obtain rfl:k=3:=by omega
  have hsE:sE l=if l.length<qi l 3 then (l.length,10) else if qi l 3<l.length then (qi l 3,13) else (0,0):=by rw [sE,if_neg (by omega)]
  have hE1:sE l=(qi l 3,13):=by rw [hsE,if_neg (by omega),if_pos (by omega)]
  have hE:fE l E=(qi l 3,13):=by rw [fE,hE1,if_pos (Nat.succ_ne_zero _)]
  refine DrawV.gen (fun S vals w'=>Er w [(pl,.cells (fnA 3 (inF (P))) 124 (0,0)),(sz,.cells (fnA 3 (inF (Q))) 124 (0,0)),(cb,curO 251 (.slice A l.length c) (vAt l 3) 0),(r5,.cells (bif S 4 then fnA 3 (inF (P)) else fnA 3 (inF (fun _:Nat=>(0:Int)))) 124 (0,0))] (errO (qi l 3) (13)) errV errV errV (S 2) false (S 5) (vals 2) undef (vals 5) w') rfl (by kernel_rfl) (fun vals=>Er.start hm.drew) ?_;clear hm;(conv=>whnf);refine StepG.of (.agg (fnA 3 (inF (P)))) (fun S vals wd hk hp hI=>?_) ?_
  ·(conv=>whnf);refine LoadA.mem hI.mem (i:=0) rfl (by simp [qg];rfl) ?_;(conv=>whnf);exact ⟨rfl,hI⟩
  (conv=>whnf);refine zG ?_;(conv=>whnf);refine StepG.any (fun S vals wd hk hp hI=>?_) ?_
  ·dsimp only at hI;rw [hk] at hI;(conv=>whnf);refine CallV.of (qlp (qi l 3) (13) wd) ?_;rintro v w8 ⟨eb,rfl,hb,ho,he⟩;exact ⟨trivial,hI.made he hb ho⟩
  (conv=>whnf);refine zG ?_;(conv=>whnf);refine StepG.of undef (fun S vals wd hk hp hI=>?_) ?_
  ·dsimp only at hI;rw [hk] at hI;(conv=>whnf);refine hI.store (i:=3) rfl (by simp [qg]) (qar 3 _) rfl ?_;intro wx _ hx;(conv=>whnf);exact ⟨rfl,hx⟩
  (conv=>whnf);refine StepG.any (fun S vals wd hk hp hI=>?_) ?_
  ·have h4:S 2=true:=hp 2 (by decide);dsimp only at hI;rw [hk,h4] at hI;obtain ⟨eb,hv,_,h3⟩:=hI.see;rw [qh hv];(conv=>whnf);exact ⟨trivial,by show Er _ _ _ _ _ _ (S 2) false true _ _ _ _;rw [h4];exact h3⟩
  (conv=>whnf);intro vals w8 hI;obtain ⟨eb,hv1,hv3,hm⟩:=hI.done;rw [qh hv1,qh hv3];clear hI;have hm:Mem w w8 ((eb,errO (qi l 3) (13))::[(pl,.cells (fnA 3 (inF (P))) 124 (0,0)),(sz,.cells (fnA 3 (inF (Q))) 124 (0,0)),(cb,curO 251 (.slice A l.length c) (vAt l 3) 0),(r5,.cells (fnA 3 (inF (P))) 124 (0,0))]):=hm;(conv=>whnf);refine qa (R:=fun v w'=>FndR l E v w'∧Ext w w') ?_;(conv=>whnf);refine LoadA.mem hm (i:=4) rfl (by simp [qg];rfl) ?_;(conv=>whnf);exact ⟨.inl ⟨by rw [hE];exact Nat.succ_ne_zero _,(P),errV eb,rfl,⟨eb,rfl,by rw [hE];exact CellsAt.mem hm (List.mem_cons_self ..)⟩⟩,hm.ext⟩
 obtain rfl:k=3:=by omega
 have hpl:qi l 3=l.length:=by omega
 have hE0:(sE l).2=0:=by rw [sE,if_neg (by omega),if_neg (by omega),if_neg (by omega)]
 have hfE:fE l E=errF (fun k=>if (E k).2=0 then (0,0) else (qi l k+(E k).1,(E k).2)) 3:=by rw [fE,if_neg (by omega)]
 refine NewV.mem hm ?_;intro vb w9 hm;have hm:Mem w w9 [(vb,.cells (fnA 7 (vF (fun _=>0) l (0))) 264 (0,0)),(pl,.cells (fnA 3 (inF (P))) 124 (0,0)),(sz,.cells (fnA 3 (inF (Q))) 124 (0,0)),(cb,curO 251 (.slice A l.length c) (vAt l 3) 0),(r5,.cells (fnA 3 (inF (fun _:Nat=>(0:Int)))) 124 (0,0))]:=hm;(conv=>whnf);refine LoadA.mem hm (i:=2) rfl (by simp [qg];rfl) ?_;(conv=>whnf);refine qm (fun x:Nat × (Nat→Nat)=>[(0,.slice A l.length c),(1,.func (.func f) #[] #[]),(4,.pointer none),(5,.pointer (some ⟨r5,0,none⟩)),(6,.nilIface),(9,.pointer (some ⟨pl,0,none⟩)),(16,.pointer (some ⟨vb,0,none⟩)),(84,.agg (fnA 3 (inF Q))),(85,.int .i64 x.1)])
  (fun x w'=>x.1≤3∧(∀ j,j<x.1→(E j).2=0)∧(∀ j,j<x.1→DictAt w' (x.2 j) (qn l j))∧Mem w w' [(vb,.cells (fnA 7 (vF (x.2) l (x.1))) 264 (0,0)),(pl,.cells (fnA 3 (inF (P))) 124 (0,0)),(sz,.cells (fnA 3 (inF (Q))) 124 (0,0)),(cb,curO 251 (.slice A l.length c) (vAt l 3) 0),(r5,.cells (fnA 3 (inF (fun _:Nat=>(0:Int)))) 124 (0,0))]) (fun x=>3-x.1) (0,fun _=>0)
  ⟨rfl,rfl,rfl,rfl,rfl,rfl,rfl,rfl,rfl,trivial⟩ ⟨by simp,fun j h=>by simp at h,fun j h=>by simp at h,hm⟩ ?_
 clear hm;rintro ⟨k,d⟩ w10 ρ3 ⟨k3,hEz,hD,hm⟩;dsimp only at k3 hEz hD hm ⊢;conv=>whnf
 (repeat' (first|((with_reducible refine zC (fun _=>?_) (fun _=>?_))<;>first|(exfalso;omega)|(conv=>whnf))|((with_reducible refine zX ?_);(conv=>whnf))))
 ·have hn:=hnb k (by omega);have hPk:=hP k (by omega);have hple:=qc6 hpl (k:=k) (by omega);have hdl:=qiu hpl (k:=k) (by omega);obtain ⟨y,ey⟩:∃ y,y=qi l k:=⟨_,rfl⟩
  obtain ⟨z,ez⟩:∃ z,z=vNum l k:=⟨_,rfl⟩
  obtain ⟨B,eB⟩:∃ B,B=(if y+z=y then A else A.map (·.add (y*1))):=⟨_,rfl⟩
  have hB:SlAt encB 1 w B (qn l k):=by
   rw [eB,qn,← ey];have:=hS.cut (lo:=y) (hi:=y+z) (m:=y+z) (by omega) (by omega) (by omega) rfl
   rwa [show y+z-y=vNum l k by omega] at this
  have hfk:=fun w' h1 h2=>hf k (by omega) w' B z h1 h2 (by omega)
  rw [hdl] at hfk;refine ⟨.int .i64 (vNum l k:Nat),?_,?_⟩
  ·rw [show k*tsz Tryz.prog 3=k from by rw [show tsz Tryz.prog 3=1 from by kernel_rfl];omega];have:=qpb 3 (inF Q) k (by omega);rw [inF,hQ k (by omega)] at this;exact this
  rw [← ey] at hPk hple;rw [← ez] at hn hple hfk ⊢;(conv=>whnf);have hEbk:=hEb k (by omega)
  by_cases hEk:(E k).2=0
  ·refine DrawV.free (by kernel_rfl) (by kernel_rfl) ?_;(conv=>whnf);refine zD ?_;(conv=>whnf);refine zD ?_;(conv=>whnf);refine zD ?_;(conv=>whnf);refine zD ?_ (by intro wd hd;(conv=>whnf);(refine zX ?_;(conv=>whnf));exact ⟨Ext.refl _,rfl⟩);(conv=>whnf);apply StepD.still (.int .i64 (y:Nat))
   ·intro wd hd;(conv=>whnf);refine LoadV.fim (x:=((y:Nat):Int)) (hm.drew.call hd) (b:=pl) (F:=P) (n:=3) (t:=124) (by simp) k (by rw [show tsz Tryz.prog 3=1 from by kernel_rfl];omega) (by omega) hPk ?_;(conv=>whnf);exact ⟨Ext.refl _,rfl⟩
   (conv=>whnf);refine zD ?_;(conv=>whnf);refine zD ?_ (by intro wd hd;(conv=>whnf);(refine zX ?_;(conv=>whnf));exact ⟨Ext.refl _,rfl⟩);(conv=>whnf);apply StepD.still (.int .i64 (y:Nat))
   ·intro wd hd;(conv=>whnf);refine LoadV.fim (x:=((y:Nat):Int)) (hm.drew.call hd) (b:=pl) (F:=P) (n:=3) (t:=124) (by simp) k (by rw [show tsz Tryz.prog 3=1 from by kernel_rfl];omega) (by omega) hPk ?_;(conv=>whnf);exact ⟨Ext.refl _,rfl⟩
   (conv=>whnf);refine zD ?_;(conv=>whnf);refine zD ?_ (by intro wd hd;(conv=>whnf);(refine zA ?_;(conv=>whnf));exact ⟨Ext.refl _,rfl⟩);(conv=>whnf);refine zD ?_;(conv=>whnf);refine zD ?_ (by intro wd hd;(conv=>whnf);(refine zX ?_;(conv=>whnf));exact ⟨Ext.refl _,rfl⟩);(conv=>whnf);apply StepD.still (.int .i64 (y:Nat))
   ·intro wd hd;(conv=>whnf);refine LoadV.fim (x:=((y:Nat):Int)) (hm.drew.call hd) (b:=pl) (F:=P) (n:=3) (t:=124) (by simp) k (by rw [show tsz Tryz.prog 3=1 from by kernel_rfl];omega) (by omega) hPk ?_;(conv=>whnf);exact ⟨Ext.refl _,rfl⟩
   (conv=>whnf);refine zD ?_;(conv=>whnf);refine zD ?_ (by intro wd hd;(conv=>whnf);(refine zA ?_;(conv=>whnf));exact ⟨Ext.refl _,rfl⟩);(conv=>whnf);apply StepD.still (.slice B z z)
   ·intro wd hd;(conv=>whnf);refine SliceV.to y (y+z) (y+z) rfl (by show (_:Int)=_;omega) (by show (_:Int)=_;omega) (by omega) (Nat.le_refl _) (by omega) (fun _=>rfl) ?_;rw [show tsz Tryz.prog 5=1 from by kernel_rfl,← eB,show y+z-y=z by omega];(conv=>whnf);exact ⟨Ext.refl _,rfl⟩
   (conv=>whnf);apply StepD.of (fun v wx=>∃ b,v=.tuple #[.pointer (some ⟨b,0,none⟩),.nilIface]∧DictAt wx b (qn l k)) (fun _ _ _ ⟨b,h1,h2⟩ he=>⟨b,h1,h2.ext he⟩)
   ·intro wd hd;(conv=>whnf);refine CallV.of (hfk wd (hm.drew.call hd).ext (hB.ext (hm.drew.call hd).ext)) ?_;rintro v w11 ⟨⟨h0,_⟩|⟨_,b,rfl,hD⟩,he11⟩
    ·exact absurd hEk h0
    ·exact ⟨he11,b,rfl,hD⟩
   (conv=>whnf);apply StepD.of (fun v wx=>∃ b,v=.tuple #[.pointer (some ⟨b,0,none⟩),.nilIface]∧DictAt wx b (qn l k)) (fun _ _ _ ⟨b,h1,h2⟩ he=>⟨b,h1,h2.ext he⟩)
   ·intro wd hd;(conv=>whnf);rintro v ⟨b,rfl,hD⟩;(conv=>whnf);exact ⟨Ext.refl _,b,rfl,hD⟩
   (conv=>whnf);apply StepD.of (fun v wx=>∃ b,v=.pointer (some ⟨b,0,none⟩)∧DictAt wx b (qn l k)) (fun _ _ _ ⟨b,h1,h2⟩ he=>⟨b,h1,h2.ext he⟩)
   ·intro wd hd;(conv=>whnf);rintro v ⟨b,rfl,hD⟩;(conv=>whnf);exact ⟨Ext.refl _,b,rfl,hD⟩
   (conv=>whnf);apply StepD.still .nilIface
   ·intro wd hd;conv=>whnf
    repeat (rintro v ⟨b,rfl,hD⟩;(conv=>whnf))
    exact ⟨Ext.refl _,rfl⟩
   (conv=>whnf);apply StepD.of (fun v wx=>∃ b,v=.pointer (some ⟨b,0,none⟩)∧DictAt wx b (qn l k)) (fun _ _ _ ⟨b,h1,h2⟩ he=>⟨b,h1,h2.ext he⟩)
   ·intro wd hd;conv=>whnf
    repeat (rintro v ⟨b,rfl,hD⟩;(conv=>whnf))
    exact ⟨Ext.refl _,_,rfl,by assumption⟩
   (conv=>whnf);apply StepD.still .nilIface
   ·intro wd hd;conv=>whnf
    repeat (rintro v ⟨b,rfl,hD⟩;(conv=>whnf))
    exact ⟨Ext.refl _,rfl⟩
   (conv=>whnf);intro w11 he11;have hm:=hm.drew.call he11;have hD:=fun j hj=>(hD j hj).ext ((Ext.refl w10).drew.trans he11)
   clear he11;(conv=>whnf);rintro v ⟨b,rfl,hDb⟩;conv=>whnf
   repeat (rintro v ⟨_,rfl,_⟩;(conv=>whnf))
   refine ⟨fun pb w12 hpb hw12=>?_⟩;have he12:Ext w11 w12:=by rw [hw12];exact (Ext.refl _).alloc _
   have hm:=hm.new hpb hw12;have hD:=fun j hj=>(hD j hj).ext he12
   have hDb:=hDb.ext he12;clear he12 hw12 hpb;(conv=>whnf);refine CallV.of (qls _ w12) ?_;rintro r w13 ⟨rfl,rfl⟩;(conv=>whnf);refine zU ?_;(conv=>whnf);refine DrawV.inv (fun S w'=>Mem w w' [(pb,.cells #[.pointer none] 135 (0,0)),(vb,.cells (bif S 12 then fnA 7 (updF (updF (vF d l k) (2*k) (.pointer (some ⟨b,0,none⟩))) (2*k+1) (.int .i64 (vTot l k+1:Nat))) else fnA 7 (vF d l k)) 264 (0,0)),(pl,.cells (fnA 3 (inF (P))) 124 (0,0)),(sz,.cells (fnA 3 (inF (Q))) 124 (0,0)),(cb,curO 251 (.slice A l.length c) (vAt l 3) 0),(r5,.cells (fnA 3 (inF (fun _:Nat=>(0:Int)))) 124 (0,0))]∧(∀ j,j<k→DictAt w' (d j) (qn l j))∧DictAt w' b (qn l k)) rfl (by kernel_rfl) ⟨hm.drew,fun j hj=>(hD j hj).ext (Ext.refl _).drew,hDb.ext (Ext.refl _).drew⟩ ?_;have hdk:=hDb.n;have hvt:vTot l k≤8388608:=by
    rcases (show k=0∨k=1∨k=2 by omega) with rfl|rfl|rfl
    ·exact Nat.zero_le _
    ·have h0:=(hD 0 (by omega)).n;simp only [vTot];omega
    ·have h0:=(hD 0 (by omega)).n;have h1:=(hD 1 (by omega)).n;simp only [vTot];omega
   clear hm hD hDb;(conv=>whnf);refine zI ?_;(conv=>whnf);refine zI ?_;(conv=>whnf);refine zI ?_;(conv=>whnf);refine zI ?_;(conv=>whnf);refine zI ?_;(conv=>whnf);refine zI ?_;(conv=>whnf);refine StepI.of (.int .i64 (vTot l k:Nat)) (fun S wd hk hp hI=>?_) ?_
   ·(conv=>whnf);dsimp only at hI;cases h12:S 12
    ·rw [h12] at hI;refine LoadV.fn (v:=.int .i64 (vTot l k:Nat)) hI.1 (i:=1) rfl 6 rfl (by omega) rfl ?_;(conv=>whnf);exact ⟨rfl,by show Mem _ _ [_,(vb,.cells (bif S 12 then _ else _) _ _),_,_,_,_]∧_;rw [h12];exact hI⟩
    ·rw [h12] at hI;refine LoadV.fn (v:=.int .i64 (vTot l k:Nat)) hI.1 (i:=1) rfl 6 rfl (by omega) (by rw [q9 _ _ _ _ (by omega),q9 _ _ _ _ (by omega)];rfl) ?_;(conv=>whnf);exact ⟨rfl,by show Mem _ _ [_,(vb,.cells (bif S 12 then _ else _) _ _),_,_,_,_]∧_;rw [h12];exact hI⟩
   (conv=>whnf);refine zI ?_ (by intro S wd hk hp hI;(conv=>whnf);(refine zA ?_;(conv=>whnf));exact ⟨rfl,hI⟩);(conv=>whnf);refine zI ?_;(conv=>whnf);refine zI ?_;(conv=>whnf);refine zI ?_;(conv=>whnf);refine zI ?_ (by intro S wd hk hp hI;(conv=>whnf);(refine zX ?_;(conv=>whnf));exact ⟨rfl,hI⟩);(conv=>whnf);refine StepI.of undef (fun S wd hk hp hI=>?_) ?_
   ·dsimp only at hI;rw [hk] at hI;(conv=>whnf);have hx:=hI.1.get (List.mem_cons_of_mem _ (List.mem_cons_self ..));refine StoreA.row hI.1 (i:=1) rfl (by rw [show tsz Tryz.prog 261=2 from by kernel_rfl];simp [qg];omega) (by simp [Value.oneCell']) ?_;intro wx hfr _ hmx;have hmx:Mem w wx [(pb,.cells #[.pointer none] 135 (0,0)),(vb,.cells (fnA 7 (updF (updF (vF d l k) (2*k) (.pointer (some ⟨b,0,none⟩))) (2*k+1) (.int .i64 (vTot l k+1:Nat)))) 264 (0,0)),(pl,.cells (fnA 3 (inF (P))) 124 (0,0)),(sz,.cells (fnA 3 (inF (Q))) 124 (0,0)),(cb,curO 251 (.slice A l.length c) (vAt l 3) 0),(r5,.cells (fnA 3 (inF (fun _:Nat=>(0:Int)))) 124 (0,0))]:=by
     have e:=qv1 7 (vF d l k) (2*k) (.pointer (some ⟨b,0,none⟩)) (.int .i64 (vTot l k+1:Nat)) (by omega);rw [← e];have e2:0+0+k*tsz Tryz.prog 261=2*k:=by rw [show tsz Tryz.prog 261=2 from by kernel_rfl];omega
     rw [← e2];exact hmx
    (conv=>whnf);refine ⟨rfl,hmx,fun j hj=>(hI.2.1 j hj).other hx (by decide) ?_ hfr,hI.2.2.other hx (by decide) ?_ hfr⟩
    all_goals
     intro v hv c;obtain ⟨m,hm',rfl⟩:=List.mem_map.1 (show v∈(List.range 7).map (vF d l k) from hv);exact qxv d l k m c
   (conv=>whnf);intro w14 hI;obtain ⟨hm,hD,hDb⟩:=hI;have hm:Mem w w14 [(pb,.cells #[.pointer none] 135 (0,0)),(vb,.cells (fnA 7 (updF (updF (vF d l k) (2*k) (.pointer (some ⟨b,0,none⟩))) (2*k+1) (.int .i64 (vTot l k+1:Nat)))) 264 (0,0)),(pl,.cells (fnA 3 (inF (P))) 124 (0,0)),(sz,.cells (fnA 3 (inF (Q))) 124 (0,0)),(cb,curO 251 (.slice A l.length c) (vAt l 3) 0),(r5,.cells (fnA 3 (inF (fun _:Nat=>(0:Int)))) 124 (0,0))]:=hm;(conv=>whnf);refine DrawV.inv (fun S w'=>((S 6=true→S 3=true)∧(S 9=true→S 3=true))∧Mem w w' [(pb,.cells #[.pointer none] 135 (0,0)),(vb,.cells (bif S 9 then fnA 7 (updF (updF (updF (vF d l k) (2*k) (.pointer (some ⟨b,0,none⟩))) (2*k+1) (.int .i64 (vTot l k+1:Nat))) 6 (.int .i64 (vTot l (k+1):Nat))) else fnA 7 (updF (updF (vF d l k) (2*k) (.pointer (some ⟨b,0,none⟩))) (2*k+1) (.int .i64 (vTot l k+1:Nat)))) 264 (0,0)),(pl,.cells (fnA 3 (inF (P))) 124 (0,0)),(sz,.cells (fnA 3 (inF (Q))) 124 (0,0)),(cb,curO 251 (.slice A l.length c) (vAt l 3) 0),(r5,.cells (fnA 3 (inF (fun _:Nat=>(0:Int)))) 124 (0,0))]∧(∀ j,j<k→DictAt w' (d j) (qn l j))∧DictAt w' b (qn l k)) rfl (by kernel_rfl) ⟨⟨fun h=>(by cases h),fun h=>(by cases h)⟩,hm.drew,fun j hj=>(hD j hj).ext (Ext.refl _).drew,hDb.ext (Ext.refl _).drew⟩ ?_;clear hm hD hDb;have hvs:vTot l (k+1)=vTot l k+dN (qn l k):=rfl;(conv=>whnf);refine zI ?_;(conv=>whnf);refine zI ?_;(conv=>whnf);refine zI ?_;(conv=>whnf);refine StepI.of (.int .i64 (vTot l k:Nat)) (fun S wd hk hp hI=>?_) ?_
   ·(conv=>whnf);have h9:S 9=false:=by
     cases h:S 9
     ·rfl
     ·have:=hI.1.2 h;rw [hk] at this;cases this
    have hI2:=hI.2.1;rw [h9] at hI2;refine LoadV.fn (v:=.int .i64 (vTot l k:Nat)) hI2 (i:=1) rfl 6 rfl (by omega) (by rw [q9 _ _ _ _ (by omega),q9 _ _ _ _ (by omega)];rfl) ?_;(conv=>whnf);exact ⟨rfl,⟨fun _=>rfl,fun _=>rfl⟩,hI.2⟩
   (conv=>whnf);refine zI ?_;(conv=>whnf);refine StepI.of (.int .i64 (dN (qn l k):Nat)) (fun S wd hk hp hI=>?_) ?_
   ·(conv=>whnf);refine CallV.of (qvw b (qn l k) wd hI.2.2.2) ?_;rintro r w15 ⟨rfl,rfl⟩;exact ⟨rfl,hI⟩
   (conv=>whnf);refine StepI.of (.int .i64 (vTot l (k+1):Nat)) (fun S wd hk hp hI=>?_) ?_
   ·(conv=>whnf);refine Obl.mk ⟨by omega,by omega⟩ ?_;(conv=>whnf);exact ⟨rfl,⟨fun _=>hp 3 (by decide),hI.1.2⟩,hI.2⟩
   (conv=>whnf);refine zI ?_;(conv=>whnf);refine zI ?_;(conv=>whnf);refine StepI.of undef (fun S wd hk hp hI=>?_) ?_
   ·have h6:=hp 6 (by decide);obtain ⟨hI1,hI2,hI3,hI4⟩:=hI;rw [hk] at hI2;(conv=>whnf);have hx:=hI2.get (List.mem_cons_of_mem _ (List.mem_cons_self ..));refine StoreV.row hI2 (i:=1) rfl (by simp [qg]) rfl ?_;intro wx hfr _ hmx;have hmx:Mem w wx [(pb,.cells #[.pointer none] 135 (0,0)),(vb,.cells (fnA 7 (updF (updF (updF (vF d l k) (2*k) (.pointer (some ⟨b,0,none⟩))) (2*k+1) (.int .i64 (vTot l k+1:Nat))) 6 (.int .i64 (vTot l (k+1):Nat)))) 264 (0,0)),(pl,.cells (fnA 3 (inF (P))) 124 (0,0)),(sz,.cells (fnA 3 (inF (Q))) 124 (0,0)),(cb,curO 251 (.slice A l.length c) (vAt l 3) 0),(r5,.cells (fnA 3 (inF (fun _:Nat=>(0:Int)))) 124 (0,0))]:=by
     rw [← qh6];exact hmx
    (conv=>whnf);refine ⟨rfl,⟨hI1.1,fun _=>hI1.1 h6⟩,hmx,fun j hj=>(hI3 j hj).other hx (by decide) ?_ hfr,hI4.other hx (by decide) ?_ hfr⟩
    all_goals
     intro v hv c;obtain ⟨m,hm',rfl⟩:=List.mem_map.1 (show v∈(List.range 7).map (updF (updF (vF d l k) (2*k) (.pointer (some ⟨b,0,none⟩))) (2*k+1) (.int .i64 (vTot l k+1:Nat))) from hv);unfold updF
     split
     ·intro e;cases e
     split
     ·intro e;cases e
     exact qxv d l k m c
   (conv=>whnf);intro w15 hI;obtain ⟨_,hm,hD,hDb⟩:=hI;have hm:Mem w w15 [(pb,.cells #[.pointer none] 135 (0,0)),(vb,.cells (fnA 7 (updF (updF (updF (vF d l k) (2*k) (.pointer (some ⟨b,0,none⟩))) (2*k+1) (.int .i64 (vTot l k+1:Nat))) 6 (.int .i64 (vTot l (k+1):Nat)))) 264 (0,0)),(pl,.cells (fnA 3 (inF (P))) 124 (0,0)),(sz,.cells (fnA 3 (inF (Q))) 124 (0,0)),(cb,curO 251 (.slice A l.length c) (vAt l 3) 0),(r5,.cells (fnA 3 (inF (fun _:Nat=>(0:Int)))) 124 (0,0))]:=hm;rw [qzo d l k b (by omega)] at hm;have hm:=hm.sub (List.sublist_cons_self ..);(conv=>whnf);refine zA ?_;(conv=>whnf);refine ⟨(k+1,fun j=>if j=k then b else d j),⟨rfl,rfl,rfl,rfl,rfl,rfl,rfl,rfl,rfl,trivial⟩,⟨by simp only;omega,fun j hj=>?_,fun j hj=>?_,hm⟩,by simp only;omega⟩
   ·by_cases e:j=k
    ·subst e;exact hEk
    ·exact hEz j (by simp only at hj;omega)
   ·simp only at hj ⊢
    by_cases e:j=k
    ·subst e;rw [if_pos rfl];exact hDb
    ·rw [if_neg e];exact hD j (by omega)
  ·obtain ⟨p,ep⟩:∃ p,p=(E k).1:=⟨_,rfl⟩
   obtain ⟨q,eq⟩:∃ q,q=(E k).2:=⟨_,rfl⟩
   have hEf:fE l E=(y+p,q):=by
    rw [hfE,qan (k:=k) (fun j hj=>by simp only [if_pos (hEz j hj)]) (by omega) (by simp only [if_neg hEk];exact hEk),if_neg hEk,ey,ep,eq]
   have hfk2:∀ w',Ext w w'→SlAt encB 1 w' B (qn l k)→Gv Tryz.prog f [.slice B z z] w' fun v w''=>(∃ e,v=.tuple #[.pointer none,e]∧ErrAt w'' e p q)∧Ext w' w'':=fun w' h1 h2=>(hfk w' h1 h2).mono fun v w'' ⟨h,he⟩=>by
    rcases h with ⟨_,e,h3,h4⟩|⟨h0,_⟩
    ·rw [← ep,← eq] at h4;exact ⟨⟨e,h3,h4⟩,he⟩
    ·exact absurd h0 hEk
   rw [← ep] at hEbk;rw [← eq] at hEk;refine DrawV.free (by kernel_rfl) (by kernel_rfl) ?_;(conv=>whnf);refine zD ?_;(conv=>whnf);refine zD ?_;(conv=>whnf);refine zD ?_;(conv=>whnf);refine zD ?_ (by intro wd hd;(conv=>whnf);(refine zX ?_;(conv=>whnf));exact ⟨Ext.refl _,rfl⟩);(conv=>whnf);apply StepD.still (.int .i64 (y:Nat))
   ·intro wd hd;(conv=>whnf);refine LoadV.fim (x:=((y:Nat):Int)) (hm.drew.call hd) (b:=pl) (F:=P) (n:=3) (t:=124) (by simp) k (by rw [show tsz Tryz.prog 3=1 from by kernel_rfl];omega) (by omega) hPk ?_;(conv=>whnf);exact ⟨Ext.refl _,rfl⟩
   (conv=>whnf);refine zD ?_;(conv=>whnf);refine zD ?_ (by intro wd hd;(conv=>whnf);(refine zX ?_;(conv=>whnf));exact ⟨Ext.refl _,rfl⟩);(conv=>whnf);apply StepD.still (.int .i64 (y:Nat))
   ·intro wd hd;(conv=>whnf);refine LoadV.fim (x:=((y:Nat):Int)) (hm.drew.call hd) (b:=pl) (F:=P) (n:=3) (t:=124) (by simp) k (by rw [show tsz Tryz.prog 3=1 from by kernel_rfl];omega) (by omega) hPk ?_;(conv=>whnf);exact ⟨Ext.refl _,rfl⟩
   (conv=>whnf);refine zD ?_;(conv=>whnf);refine zD ?_ (by intro wd hd;(conv=>whnf);(refine zA ?_;(conv=>whnf));exact ⟨Ext.refl _,rfl⟩);(conv=>whnf);refine zD ?_;(conv=>whnf);refine zD ?_ (by intro wd hd;(conv=>whnf);(refine zX ?_;(conv=>whnf));exact ⟨Ext.refl _,rfl⟩);(conv=>whnf);apply StepD.still (.int .i64 (y:Nat))
   ·intro wd hd;(conv=>whnf);refine LoadV.fim (x:=((y:Nat):Int)) (hm.drew.call hd) (b:=pl) (F:=P) (n:=3) (t:=124) (by simp) k (by rw [show tsz Tryz.prog 3=1 from by kernel_rfl];omega) (by omega) hPk ?_;(conv=>whnf);exact ⟨Ext.refl _,rfl⟩
   (conv=>whnf);refine zD ?_;(conv=>whnf);refine zD ?_ (by intro wd hd;(conv=>whnf);(refine zA ?_;(conv=>whnf));exact ⟨Ext.refl _,rfl⟩);(conv=>whnf);apply StepD.still (.slice B z z)
   ·intro wd hd;(conv=>whnf);refine SliceV.to y (y+z) (y+z) rfl (by show (_:Int)=_;omega) (by show (_:Int)=_;omega) (by omega) (Nat.le_refl _) (by omega) (fun _=>rfl) ?_;rw [show tsz Tryz.prog 5=1 from by kernel_rfl,← eB,show y+z-y=z by omega];(conv=>whnf);exact ⟨Ext.refl _,rfl⟩
   (conv=>whnf);apply StepD.of (fun v wx=>∃ e,v=.tuple #[.pointer none,e]∧ErrAt wx e p q) (fun _ _ _ ⟨e,h1,h2⟩ he=>⟨e,h1,h2.ext he⟩)
   ·intro wd hd;(conv=>whnf);refine CallV.of (hfk2 wd (hm.drew.call hd).ext (hB.ext (hm.drew.call hd).ext)) ?_;rintro v w11 ⟨⟨e,rfl,hE⟩,he11⟩;exact ⟨he11,e,rfl,hE⟩
   (conv=>whnf);apply StepD.of (fun v wx=>∃ e,v=.tuple #[.pointer none,e]∧ErrAt wx e p q) (fun _ _ _ ⟨e,h1,h2⟩ he=>⟨e,h1,h2.ext he⟩)
   ·intro wd hd;(conv=>whnf);rintro v ⟨e,rfl,hE⟩;obtain ⟨eb,rfl,hec⟩:=hE;(conv=>whnf);exact ⟨Ext.refl _,_,rfl,eb,rfl,hec⟩
   (conv=>whnf);apply StepD.still (.pointer none)
   ·intro wd hd;(conv=>whnf);rintro v ⟨e,rfl,eb,rfl,hec⟩;(conv=>whnf);exact ⟨Ext.refl _,rfl⟩
   (conv=>whnf);apply StepD.of (fun v wx=>ErrAt wx v p q) (fun _ _ _ h he=>h.ext he)
   ·intro wd hd;(conv=>whnf);rintro v ⟨e,rfl,eb,rfl,hec⟩;(conv=>whnf);exact ⟨Ext.refl _,eb,rfl,hec⟩
   (conv=>whnf);apply StepD.still (.pointer none)
   ·intro wd hd;conv=>whnf
    repeat (intro _ _;(conv=>whnf))
    exact ⟨Ext.refl _,rfl⟩
   (conv=>whnf);apply StepD.of (fun v wx=>ErrAt wx v p q) (fun _ _ _ h he=>h.ext he)
   ·intro wd hd;conv=>whnf
    repeat (rintro v ⟨eb,rfl,hec⟩;(conv=>whnf))
    exact ⟨Ext.refl _,_,rfl,by assumption⟩
   (conv=>whnf);intro w11 he11;have hm:=hm.drew.call he11;clear he11;(conv=>whnf);rintro v ⟨eb,rfl,hec⟩;conv=>whnf
   repeat (intro _ _;(conv=>whnf))
   refine ⟨fun pb w12 hpb hw12=>?_⟩;have he12:Ext w11 w12:=by rw [hw12];exact (Ext.refl _).alloc _
   have hm:=hm.new hpb hw12;have hec:=hec.ext he12;clear he12 hw12 hpb;(conv=>whnf);refine CallV.of (qlr eb pb hm (i:=0) rfl (hG.ext hm.ext)) ?_;rintro r w13 ⟨rfl,hm',w4',he4',hfr⟩;have hne:eb≠pb:=by
    intro e;have h1:=hec 0 _ rfl;rw [e,qd (hm.get (List.mem_cons_self ..))] at h1;cases h1
   have hec:=(hec.ext he4').other hne hfr;have hm:Mem w w13 [(pb,.cells #[.pointer (some ⟨eb,0,none⟩)] 135 (0,0)),(vb,.cells (fnA 7 (vF (d) l (k))) 264 (0,0)),(pl,.cells (fnA 3 (inF (P))) 124 (0,0)),(sz,.cells (fnA 3 (inF (Q))) 124 (0,0)),(cb,curO 251 (.slice A l.length c) (vAt l 3) 0),(r5,.cells (fnA 3 (inF (fun _:Nat=>(0:Int)))) 124 (0,0))]:=hm';have hr5:eb≠r5:=by
    intro e;have h1:=hec 1 _ rfl;have hg5:w13.heap[r5]?=some (.cells (fnA 3 (inF fun _:Nat=>(0:Int))) 124 (0,0)):=hm.get (by simp);rw [e,qd hg5] at h1;cases h1
   clear hm' he4' hfr;(conv=>whnf);refine zT ?_;(conv=>whnf);refine DrawV.gen (fun S vals w'=>Er w [(pb,.cells #[.pointer (some ⟨eb,0,none⟩)] 135 (0,0)),(vb,.cells (fnA 7 (vF (d) l (k))) 264 (0,0)),(pl,.cells (fnA 3 (inF (P))) 124 (0,0)),(sz,.cells (fnA 3 (inF (Q))) 124 (0,0)),(cb,curO 251 (.slice A l.length c) (vAt l 3) 0),(r5,.cells (bif S 17 then fnA 3 (inF P) else fnA 3 (inF fun _:Nat=>(0:Int))) 124 (0,0))] (errO (y+p) q) (fun b=>.pointer (some ⟨b,0,none⟩)) errV errV (S 14) (S 15) (S 18) (vals 14) (vals 15) (vals 18) w'∧CellsAt w' eb 0 [.int .i64 p,.iface 26 (.int .i64 q)]) rfl (by kernel_rfl) (fun vals=>⟨Er.start hm.drew,hec.ext (Ext.refl _).drew⟩) ?_;clear hm hec;(conv=>whnf);refine StepG.of (.agg (fnA 3 (inF P))) (fun S vals wd hk hp hI=>?_) ?_
   ·(conv=>whnf);refine LoadA.mem hI.1.mem (i:=2) rfl (by simp [qg];rfl) ?_;(conv=>whnf);exact ⟨rfl,hI⟩
   (conv=>whnf);refine zG ?_;(conv=>whnf);refine zG ?_ (by intro S vals wd hk hp hI;(conv=>whnf);(refine zX ?_;(conv=>whnf));exact ⟨rfl,hI⟩);(conv=>whnf);refine StepG.of (.int .i64 (y:Nat)) (fun S vals wd hk hp hI=>?_) ?_
   ·(conv=>whnf);refine LoadV.fim (x:=((y:Nat):Int)) hI.1.mem (b:=pl) (F:=P) (n:=3) (t:=124) (by simp) k (by rw [show tsz Tryz.prog 3=1 from by kernel_rfl];omega) (by omega) hPk ?_;(conv=>whnf);exact ⟨rfl,hI⟩
   (conv=>whnf);refine StepG.of (.pointer (some ⟨eb,0,none⟩)) (fun S vals wd hk hp hI=>?_) ?_
   ·(conv=>whnf);refine zR hI.1.mem 0 ?_;(conv=>whnf);exact ⟨rfl,hI⟩
   (conv=>whnf);refine zG ?_;(conv=>whnf);refine zG ?_;(conv=>whnf);refine StepG.of (.int .i64 p) (fun S vals wd hk hp hI=>?_) ?_
   ·(conv=>whnf);refine LoadV.of (hI.2 0 _ rfl) ?_;(conv=>whnf);exact ⟨rfl,hI⟩
   (conv=>whnf);refine zG ?_ (by intro S vals wd hk hp hI;(conv=>whnf);(refine zA ?_;(conv=>whnf));exact ⟨rfl,hI⟩);(conv=>whnf);refine StepG.of (.pointer (some ⟨eb,0,none⟩)) (fun S vals wd hk hp hI=>?_) ?_
   ·(conv=>whnf);refine zR hI.1.mem 0 ?_;(conv=>whnf);exact ⟨rfl,hI⟩
   (conv=>whnf);refine zG ?_;(conv=>whnf);refine zG ?_;(conv=>whnf);refine StepG.of (.iface 26 (.int .i64 q)) (fun S vals wd hk hp hI=>?_) ?_
   ·(conv=>whnf);refine LoadV.of (hI.2 1 _ rfl) ?_;(conv=>whnf);exact ⟨rfl,hI⟩
   (conv=>whnf);refine zG ?_;(conv=>whnf);refine StepG.any (fun S vals wd hk hp hI=>?_) ?_
   ·dsimp only at hI;rw [hk] at hI;(conv=>whnf);refine ⟨fun x wx hb hw=>?_⟩;subst hb hw;(conv=>whnf);exact ⟨trivial,hI.1.alloc,hI.2.ext ((Ext.refl _).alloc _)⟩
   (conv=>whnf);refine StepG.any (fun S vals wd hk hp hI=>?_) ?_
   ·have h4:S 14=true:=hp 14 (by decide);dsimp only at hI;rw [hk,h4] at hI;obtain ⟨nb,hv,h3,_⟩:=hI.1.see;rw [qh hv];(conv=>whnf);exact ⟨trivial,by show Er _ _ _ _ _ _ (S 14) true (S 18) _ _ _ _;rw [h4];exact h3,hI.2⟩
   (conv=>whnf);refine zG ?_;(conv=>whnf);refine StepG.of undef (fun S vals wd hk hp hI=>?_) ?_
   ·dsimp only at hI;rw [hk] at hI;(conv=>whnf);refine hI.1.store (i:=5) rfl (by simp [qg]) (qar 3 _) rfl ?_;intro wx hfr hx;(conv=>whnf);exact ⟨rfl,hx,hI.2.other hr5 hfr⟩
   (conv=>whnf);refine StepG.any (fun S vals wd hk hp hI=>?_) ?_
   ·have h4:S 15=true:=hp 15 (by decide);dsimp only at hI;rw [hk,h4] at hI;obtain ⟨nb,hv,h3⟩:=hI.1.see2;rw [qh hv];(conv=>whnf);exact ⟨trivial,by show Er _ _ _ _ _ _ (S 14) (S 15) true _ _ _ _;rw [h4];exact h3,hI.2⟩
   (conv=>whnf);intro vals w14 hI;obtain ⟨nb,hv1,hv3,hm⟩:=hI.1.done;rw [qh hv1,qh hv3];clear hI;have hm:Mem w w14 ((nb,errO (y+p) q)::[(pb,.cells #[.pointer (some ⟨eb,0,none⟩)] 135 (0,0)),(vb,.cells (fnA 7 (vF (d) l (k))) 264 (0,0)),(pl,.cells (fnA 3 (inF (P))) 124 (0,0)),(sz,.cells (fnA 3 (inF (Q))) 124 (0,0)),(cb,curO 251 (.slice A l.length c) (vAt l 3) 0),(r5,.cells (fnA 3 (inF (P))) 124 (0,0))]):=hm;(conv=>whnf);refine qa (R:=fun v w'=>FndR l E v w'∧Ext w w') ?_;(conv=>whnf);refine LoadA.mem hm (i:=6) rfl (by simp [qg];rfl) ?_;(conv=>whnf);exact ⟨.inl ⟨by rw [hEf];exact hEk,P,errV nb,rfl,⟨nb,rfl,by rw [hEf];exact CellsAt.mem hm (List.mem_cons_self ..)⟩⟩,hm.ext⟩
 obtain rfl:k=3:=by omega
 have hE3:(fE l E).2=0:=by
  rw [hfE];exact qap fun j hj=>by simp only [if_pos (hEz j hj)]
 refine DrawV.inv (fun S w'=>Mem w w' [(vb,.cells (fnA 7 (vF (d) l (3))) 264 (0,0)),(pl,.cells (fnA 3 (inF (P))) 124 (0,0)),(sz,.cells (fnA 3 (inF (Q))) 124 (0,0)),(cb,curO 251 (.slice A l.length c) (vAt l 3) 0),(r5,.cells (bif S 3 then fnA 3 (inF P) else fnA 3 (inF fun _:Nat=>(0:Int))) 124 (0,0))]∧∀ j,j<3→DictAt w' (d j) (qn l j)) rfl (by kernel_rfl) ⟨hm.drew,fun j hj=>(hD j hj).ext (Ext.refl _).drew⟩ ?_;clear hm hD;(conv=>whnf);refine zI ?_;(conv=>whnf);refine StepI.of (.agg (fnA 3 (inF P))) (fun S wd hk hp hI=>?_) ?_
 ·(conv=>whnf);refine LoadA.mem hI.1 (i:=1) rfl (by simp [qg];rfl) ?_;(conv=>whnf);exact ⟨rfl,hI⟩
 (conv=>whnf);refine zI ?_;(conv=>whnf);refine StepI.of undef (fun S wd hk hp hI=>?_) ?_
 ·dsimp only at hI;rw [hk] at hI;(conv=>whnf);have hx:wd.heap[r5]?=some (.cells (fnA 3 (inF fun _:Nat=>(0:Int))) 124 (0,0)):=hI.1.get (by simp);refine StoreA.row hI.1 (i:=4) rfl (by simp [qg]) (qar 3 P) ?_;intro wx hfr _ hmx;(conv=>whnf);refine ⟨rfl,hmx,fun j hj=>(hI.2 j hj).other hx (by decide) ?_ hfr⟩;intro v hv c;obtain ⟨m,hm',rfl⟩:=List.mem_map.1 (show v∈(List.range 3).map (inF fun _:Nat=>(0:Int)) from hv);intro e;cases e
 (conv=>whnf);refine zI ?_;(conv=>whnf);intro w12 hI;obtain ⟨hm,hD⟩:=hI;have hm:Mem w w12 [(vb,.cells (fnA 7 (vF (d) l (3))) 264 (0,0)),(pl,.cells (fnA 3 (inF (P))) 124 (0,0)),(sz,.cells (fnA 3 (inF (Q))) 124 (0,0)),(cb,curO 251 (.slice A l.length c) (vAt l 3) 0),(r5,.cells (fnA 3 (inF (P))) 124 (0,0))]:=hm;(conv=>whnf);refine qa (R:=fun v w'=>FndR l E v w'∧Ext w w') ?_;(conv=>whnf);refine LoadA.mem hm (i:=4) rfl (by simp [qg];rfl) ?_;(conv=>whnf);exact ⟨.inr ⟨hE3,vb,P,rfl,fun k hk=>hP k hk,d,hm.get (List.mem_cons_self ..),hD⟩,hm.ext⟩
open Go.RowKit V
set_option maxRecDepth 100000
def VVwR (l:List UInt8) (v:Value) (w:World):Prop:=
 ((wE l).2≠0∧∃ e,v=.tuple #[.pointer none,e]∧ErrAt w e (wE l).1 (wE l).2)∨((wE l).2=0∧∃ b,v=.tuple #[.pointer (some ⟨b,0,none⟩),.nilIface]∧VocAt w b l)
theorem qli (l:List UInt8) (k:Nat):(qn l k).length≤l.length:=by
 rw [qn,List.length_take,List.length_drop];omega
theorem qon (l:List UInt8) (A:Option Addr) (c:Nat) (w:World) (hS:SlAt encB 1 w A l) (hc:l.length≤c) (hl:l.length≤70368744177664) (hG:ErrTyp w) :
  Gv Tryz.prog 54 [.slice A l.length c] w fun v w'=>VVwR l v w'∧Ext w w':=by
 have hfd:=qs7 l A c w hS hc hl hG 98 (fun k=>dE (qn l k)) (fun k _=>Nat.le_trans (Nat.le_trans (qvr (qn l k)) (qli l k)) (by omega)) (fun k _ w' B c' hx hB hc'=>(qsv (qn l k) B c' w' hB hc' (by have:=qli l k;omega)).mono fun v w'' ⟨h,he⟩=>⟨by
   rcases h with ⟨h0,e,h1,h2⟩|⟨h0,b,h1,_,h2⟩
   ·exact .inl ⟨h0,e,h1,h2⟩
   ·exact .inr ⟨h0,b,h1,h2⟩,he⟩)
 have hE:fE l (fun k=>dE (qn l k))=wE l:=rfl;refine zE Tryz.func54 Tryz.ntmps54 ?_;(conv=>whnf);refine CallV.of (hfd) ?_;rintro v w1 ⟨⟨h0,G,e,rfl,eb,rfl,hec⟩|⟨h0,b,G,rfl,hG2,hV⟩,he⟩
 all_goals
  rw [hE] at h0;(conv=>whnf);refine NewV.mem (Mem.nil w1) ?_;intro t5 w2 hm;(conv=>whnf);refine StoreA.all hm (i:=0) rfl (by simp [qg]) (qar 3 G) ?_;intro w3 hm;conv=>whnf
  (repeat' (first|(refine Tst.yes rfl ?_;(conv=>whnf))|(refine Tst.no rfl ?_;(conv=>whnf))))
 ·rw [hE] at hec;exact ⟨.inl ⟨h0,_,rfl,eb,rfl,CellsAt.ext hec hm.ext⟩,he.trans hm.ext⟩
 ·exact ⟨.inr ⟨h0,b,rfl,VocAt.ext hV hm.ext⟩,he.trans hm.ext⟩
theorem VocAt.cell {w:World} {b:Nat} {l:List UInt8} (h:VocAt w b l):∃ d:Nat→Nat,(∀ k,k<3→w.cell? ⟨b,2*k,none⟩=some (.pointer (some ⟨d k,0,none⟩))∧w.cell? ⟨b,2*k+1,none⟩=some (.int .i64 (vTot l k+1:Nat))∧DictAt w (d k) (qn l k))∧
  w.cell? ⟨b,6,none⟩=some (.int .i64 (vTot l 3:Nat)):=by
 obtain ⟨d,h1,h2⟩:=h;refine ⟨d,fun k hk=>⟨?_,?_,h2 k hk⟩,?_⟩
 ·rw [qd h1,qgi 7 _ _ (by omega),vF,if_neg (by omega),if_pos (by omega),if_pos (by omega),show 2*k/2=k by omega]
 ·rw [qd h1,qgi 7 _ _ (by omega),vF,if_neg (by omega),if_pos (by omega),if_neg (by omega),show (2*k+1)/2=k by omega]
 ·rw [qd h1,qgi 7 _ _ (by omega),vF,if_pos rfl]
theorem VocAt.tot {w:World} {b:Nat} {l:List UInt8} (h:VocAt w b l) {k:Nat} (hk:k≤3):vTot l k≤12582912:=by
 obtain ⟨d,_,h2⟩:=h;have h0:=(h2 0 (by omega)).n;have h1:=(h2 1 (by omega)).n;have h3:=(h2 2 (by omega)).n
 rcases (show k=0∨k=1∨k=2∨k=3 by omega) with rfl|rfl|rfl|rfl<;>simp only [vTot]<;>omega
theorem qu5 (b:Nat) (l:List UInt8) (id:Nat) (w:World) (h:VocAt w b l) (hid:id≤16777216) :
  Gv Tryz.prog 188 [.pointer (some ⟨b,0,none⟩),.int .i64 id] w fun r w'=>r=.int .i64 (if id=0∨vTot l 3<id then -1 else (qb9 l id:Int))∧Ext w w':=by
 obtain ⟨d,hd,hn⟩:=h.cell;have ht:=fun k (hk:k≤3)=>h.tot hk
 refine zE Tryz.func188 Tryz.ntmps188 ?_;conv=>whnf
 (repeat' (first|((with_reducible refine zT ?_);(conv=>whnf))|((with_reducible refine zU ?_);(conv=>whnf))|((with_reducible refine zC (fun _=>?_) (fun _=>?_))<;>first|(exfalso;omega)|(conv=>whnf))))
 ·exact ⟨by rw [if_pos (by omega)],Ext.refl _⟩
 refine LoadV.of hn ?_;(conv=>whnf);(iterate 2 (refine zU ?_;(conv=>whnf)));refine zC (fun _=>?_) (fun _=>?_)<;>(conv=>whnf)
 ·exact ⟨by rw [if_pos (by omega)],Ext.refl _⟩
 rw [if_neg (by omega)];refine qm (fun i:Nat=>[(0,.pointer (some ⟨b,0,none⟩)),(1,.int .i64 id),(5,.int .i64 i)])
  (fun i w'=>i≤2∧(∀ j,i<j→j≤2→id≤vTot l j)∧w'=w) (fun i=>i) 2 ⟨rfl,rfl,rfl,trivial⟩ ⟨by omega,fun j h1 h2=>by omega,rfl⟩ ?_
 rintro i w1 ρ' ⟨i1,hj,rfl⟩;obtain ⟨_,hf,_⟩:=hd i (by omega);have hti:=ht i (by omega);(conv=>whnf);refine zX ?_;(conv=>whnf);refine LoadV.of (v:=.int .i64 (vTot l i+1:Nat)) ?_ ?_
 ·rw [← hf]
  congr 2
  rw [show tsz Tryz.prog 261=2 from by kernel_rfl];show 0+0+i*2+1=_;omega
 (conv=>whnf)
 (repeat' (first|(refine zA ?_;(conv=>whnf))|((with_reducible refine zC (fun _=>?_) (fun _=>?_))<;>first|(exfalso;omega)|(conv=>whnf))))
 ·have hi0:i≠0:=by
   intro e;subst e;have:vTot l 0=0:=rfl;omega
  refine ⟨i-1,⟨rfl,rfl,?_,trivial⟩,⟨by omega,fun j h1 h2=>?_,rfl⟩,by omega⟩
  ·show Value.int .i64 _=Value.int .i64 _
   congr 1
   omega
  ·by_cases e:j=i
   ·subst e;omega
   ·exact hj j (by omega) h2
 ·refine ⟨congrArg (Value.int .i64) ?_,Ext.refl _⟩;have e:qb9 l id=i:=by
   unfold qb9
   rcases (show i=0∨i=1∨i=2 by omega) with rfl|rfl|rfl
   ·have h1:=hj 1 (by omega) (by omega);have h2:=hj 2 (by omega) (by omega);rw [if_neg (by omega),if_neg (by omega)]
   ·have h2:=hj 2 (by omega) (by omega);rw [if_neg (by omega),if_pos (by omega)]
   ·rw [if_pos (by omega)]
  rw [e]
def qf8 (w:World):Prop:=CellsAt w 0 0 [.int .i64 1,.int .i64 2,.int .i64 3]
noncomputable def qeb (l:List UInt8) (id:Nat):Option TM:=
 if id=0 then some ⟨0,⟨#[]⟩,⟨#[]⟩,⟨#[]⟩⟩ else if vTot l 3<id then none else
  match dGet (qn l (qb9 l id)) (id-(vTot l (qb9 l id)+1)) with
  | some s=>qgr ((qb9 l id+1:Nat):Int) s
  | none=>none
def qrv:Value:=.agg #[.int .i64 0,.string ⟨#[]⟩,.string ⟨#[]⟩,.string ⟨#[]⟩]
noncomputable def qj4 (l:List UInt8) (id:Nat):Value:=
 match qeb l id with
 | some t=>.tuple #[qa2 t,.bool true]
 | none=>.tuple #[qrv,.bool false]
theorem qp8 {l:List UInt8} {id:Nat} (h0:id≠0) (h:id≤vTot l 3):qb9 l id<3∧vTot l (qb9 l id)<id∧id≤vTot l (qb9 l id+1):=by
 have e0:vTot l 0=0:=rfl;unfold qb9
 split
 ·exact ⟨by omega,by assumption,h⟩
 ·split
  ·refine ⟨by omega,by assumption,?_⟩;show id≤vTot l 2;omega
  ·refine ⟨by omega,by omega,?_⟩;show id≤vTot l 1;omega
set_option maxHeartbeats 2000000 in
theorem qu9 (b:Nat) (l:List UInt8) (id:Nat) (w:World) (h:VocAt w b l) (hid:id≤16777216) (hM:MaxLenAt w) (hT:CellsAt w 3 0 qbo) (hK:qf8 w) :
  Gv Tryz.prog 121 [.pointer (some ⟨b,0,none⟩),.int .i64 id] w fun r w'=>r=qj4 l id∧Ext w w':=by
 refine zE Tryz.func121 Tryz.ntmps121 ?_;(conv=>whnf);refine NewV.mem (Mem.nil w) ?_;intro r4 w1 hm;(conv=>whnf);refine CallV.of (qu5 b l id w1 (h.ext hm.ext) hid) ?_;rintro r w2 ⟨rfl,he2⟩;have hm:=hm.call he2;conv=>whnf
 by_cases h0:id=0∨vTot l 3<id
 ·rw [if_pos h0];refine zY (fun _=>?_);(conv=>whnf);refine zS hm 0 ?_;intro w3 hm;(conv=>whnf);refine qa (R:=fun v w'=>v=qj4 l id∧Ext w w') ?_;(conv=>whnf);refine zL hm 0 ?_;(conv=>whnf);refine ⟨?_,hm.ext⟩;rw [qj4,qeb]
  by_cases hi:id=0
  ·rw [if_pos hi];subst hi;rfl
  ·rw [if_neg hi,if_pos (by omega)];show Value.tuple #[_,.bool (decide ((id:Int)=0))]=_;rw [decide_eq_false (by omega)];rfl
 ·rw [if_neg h0];obtain ⟨hp3,hp1,hp2⟩:=qp8 (l:=l) (id:=id) (by omega) (by omega);have hvt:qj4 l id=match dGet (qn l (qb9 l id)) (id-(vTot l (qb9 l id)+1)) with
   | some s=>(match qgr ((qb9 l id+1:Nat):Int) s with|some t=>.tuple #[qa2 t,.bool true]|none=>.tuple #[qrv,.bool false])
   | none=>.tuple #[qrv,.bool false]:=by
   rw [qj4,qeb,if_neg (by omega),if_neg (by omega)];cases dGet (qn l (qb9 l id)) (id-(vTot l (qb9 l id)+1))<;>rfl
  rw [hvt];obtain ⟨k,ek⟩:∃ k,k=qb9 l id:=⟨_,rfl⟩
  rw [← ek] at hp3 hp1 hp2 ⊢;obtain ⟨d,hd,hn⟩:=(h.ext hm.ext).cell;obtain ⟨hd1,hd2,hdD⟩:=hd k hp3;have htk:=(h.tot (k:=k) (by omega))
  obtain ⟨i,ei⟩:∃ i,i=id-(vTot l k+1):=⟨_,rfl⟩
  rw [← ei];refine zN (fun _=>?_);(conv=>whnf);have hG:∃ s ok,qkh (qn l k) i=.tuple #[.string s,.bool ok]∧s.size≤262144∧((ok=true∧dGet (qn l k) i=some s.data.toList)∨(ok=false∧dGet (qn l k) i=none)):=by
   unfold qkh;cases hg:dGet (qn l k) i with
   | none=>exact ⟨_,_,rfl,by decide,.inr ⟨rfl,rfl⟩⟩
   | some s=>exact ⟨⟨s.toArray⟩,_,rfl,qki hg,.inl ⟨rfl,rfl⟩⟩
  obtain ⟨s,ok,hgv,hss,hcase⟩:=hG;refine DrawV.free (by kernel_rfl) (by kernel_rfl) ?_;(conv=>whnf);refine zD ?_;(conv=>whnf);refine zD ?_;(conv=>whnf);refine zD ?_;(conv=>whnf);refine zD ?_;(conv=>whnf);refine zD ?_ (by intro wd hd;(conv=>whnf);(refine zX ?_;(conv=>whnf));exact ⟨Ext.refl _,rfl⟩);(conv=>whnf);refine zD ?_;(conv=>whnf);apply StepD.still (.pointer (some ⟨d k,0,none⟩))
  ·intro wd hd';(conv=>whnf);refine LoadV.of (v:=.pointer (some ⟨d k,0,none⟩)) ?_ ?_
   ·have:=((Ext.refl w2).drew.trans hd').cell hd1;rw [← this]
    congr 2
    rw [show tsz Tryz.prog 261=2 from by kernel_rfl];show 0+0+k*2+0=_;omega
   (conv=>whnf);exact ⟨Ext.refl _,rfl⟩
  (conv=>whnf);refine zD ?_;(conv=>whnf);refine zD ?_;(conv=>whnf);refine zD ?_;(conv=>whnf);refine zD ?_;(conv=>whnf);refine zD ?_;(conv=>whnf);refine zD ?_ (by intro wd hd;(conv=>whnf);(refine zX ?_;(conv=>whnf));exact ⟨Ext.refl _,rfl⟩);(conv=>whnf);refine zD ?_;(conv=>whnf);apply StepD.still (.int .i64 (vTot l k+1:Nat))
  ·intro wd hd';(conv=>whnf);refine LoadV.of (v:=.int .i64 (vTot l k+1:Nat)) ?_ ?_
   ·have:=((Ext.refl w2).drew.trans hd').cell hd2;rw [← this]
    congr 2
    rw [show tsz Tryz.prog 261=2 from by kernel_rfl];show 0+0+k*2+1=_;omega
   (conv=>whnf);exact ⟨Ext.refl _,rfl⟩
  (conv=>whnf);apply StepD.still (.int .i64 (i:Nat))
  ·intro wd hd';(conv=>whnf);refine Obl.mk ⟨by omega,by omega⟩ ?_;(conv=>whnf);refine ⟨Ext.refl _,?_⟩;show Value.int .i64 _=Value.int .i64 _
   congr 1
   omega
  (conv=>whnf);apply StepD.still (.tuple #[.string s,.bool ok])
  ·intro wd hd';(conv=>whnf);refine CallV.of (qvv (d k) (qn l k) i wd (hdD.ext ((Ext.refl w2).drew.trans hd')) (by omega)) ?_;rintro v w5 ⟨rfl,he⟩;exact ⟨he,hgv⟩
  (conv=>whnf);refine zD ?_;(conv=>whnf);refine zD ?_;(conv=>whnf);refine zD ?_;(conv=>whnf);refine zD ?_;(conv=>whnf);refine zD ?_;(conv=>whnf);intro w3 he3;have hm:=hm.drew.call he3;clear he3;(conv=>whnf);refine zX ?_;(conv=>whnf);have hkk:((k+1:Nat):Int)=1∨((k+1:Nat):Int)=2∨((k+1:Nat):Int)=3:=by omega
  refine LoadV.of (v:=.int .i64 (k+1:Nat)) ?_ ?_
  ·have hKx:=fun j v (hv:([.int .i64 1,.int .i64 2,.int .i64 3]:List Value)[j]?=some v)=>(CellsAt.ext hK hm.ext) j v hv
   rw [show tsz Tryz.prog 3=1 from by kernel_rfl]
   rcases (show k=0∨k=1∨k=2 by omega) with rfl|rfl|rfl
   ·exact hKx 0 _ rfl
   ·exact hKx 1 _ rfl
   ·exact hKx 2 _ rfl
  (conv=>whnf);obtain ⟨t,e,hrv,hrc⟩:∃ t e,qcu ((k+1:Nat):Int) s.data.toList=.tuple #[qa2 t,.int .i64 (e:Nat)]∧((e=0∧qgr ((k+1:Nat):Int) s.data.toList=some t)∨(e≠0∧qgr ((k+1:Nat):Int) s.data.toList=none)):=by
   unfold qcu;cases hg:qgr ((k+1:Nat):Int) s.data.toList with
   | none=>exact ⟨⟨0,⟨#[]⟩,⟨#[]⟩,⟨#[]⟩⟩,170,rfl,.inr ⟨by decide,rfl⟩⟩
   | some t=>exact ⟨t,0,rfl,.inl ⟨rfl,rfl⟩⟩
  refine CallV.of (qu7 ((k+1:Nat):Int) hkk s hss w3 (hM.ext hm.ext) (hT.ext hm.ext)) ?_;rintro r w4 ⟨rfl,he4⟩;have hm:=hm.call he4;rw [hrv];(conv=>whnf);refine NewV.mem hm ?_;intro t9 w5 hm;(conv=>whnf);refine zS hm 0 ?_;intro w6 hm;conv=>whnf
  rcases hcase with ⟨rfl,hg⟩|⟨rfl,hg⟩
  ·rw [hg];dsimp only
   rcases hrc with ⟨rfl,hr⟩|⟨he,hr⟩
   ·rw [hr];refine zP ?_;refine zT ?_;(conv=>whnf);(iterate 2 (refine zU ?_;(conv=>whnf)));refine zN (fun _=>?_);(conv=>whnf);refine zL hm 0 ?_;(conv=>whnf);refine zS hm 1 ?_;intro w7 hm;(conv=>whnf);refine qa (R:=fun v w'=>v=.tuple #[qa2 t,.bool true]∧Ext w w') ?_;(conv=>whnf);refine zL hm 1 ?_;(conv=>whnf);exact ⟨rfl,hm.ext⟩
   ·rw [hr];refine zP ?_;refine zT ?_;(conv=>whnf);(iterate 2 (refine zU ?_;(conv=>whnf)));refine zY (fun _=>?_);(conv=>whnf);refine zS hm 1 ?_;intro w7 hm;(conv=>whnf);refine qa (R:=fun v w'=>v=.tuple #[qrv,.bool false]∧Ext w w') ?_;(conv=>whnf);refine zL hm 1 ?_;(conv=>whnf);exact ⟨rfl,hm.ext⟩
  ·rw [hg];dsimp only;refine zP ?_;refine zU ?_;(conv=>whnf);(iterate 3 (refine zT ?_;(conv=>whnf)));refine zS hm 1 ?_;intro w7 hm;(conv=>whnf);refine qa (R:=fun v w'=>v=.tuple #[qrv,.bool false]∧Ext w w') ?_;(conv=>whnf);refine zL hm 1 ?_;(conv=>whnf);exact ⟨rfl,hm.ext⟩
open Go.RowKit V
set_option maxRecDepth 100000
def zTM:TM:=⟨0,⟨#[]⟩,⟨#[]⟩,⟨#[]⟩⟩
noncomputable def uT (l:List UInt8) (q:Nat→Nat) (j:Nat):TM:=(qeb l (q j)).getD zTM
noncomputable def q4Of (l:List UInt8) (q:Nat→Nat):Q4:=⟨uT l q 1,uT l q 2,uT l q 3,uT l q 0⟩
def zQ:Q4:=⟨zTM,zTM,zTM,zTM⟩
def idsV (q:Nat→Nat):Value:=.agg #[.int .i64 (q 0:Nat),.int .i64 (q 1:Nat),.int .i64 (q 2:Nat),.int .i64 (q 3:Nat)]
open Classical in
noncomputable def qhc (l:List UInt8) (q:Nat→Nat):Value:=
 if ∀ j,j<4→qeb l (q j)≠none then .tuple #[qat (q4Of l q),.bool true] else .tuple #[qat zQ,.bool false]
noncomputable def aT (l:List UInt8) (q:Nat→Nat) (k j:Nat):TM:=if j<k then uT l q j else zTM
noncomputable def arrT (l:List UInt8) (q:Nat→Nat) (k:Nat):Q4:=⟨aT l q k 0,aT l q k 1,aT l q k 2,aT l q k 3⟩
theorem qvg (l:List UInt8) (q:Nat→Nat) (k:Nat) (hk:k<4):((qaw (arrT l q k)).take (k*4)++encT (uT l q k)++(qaw (arrT l q k)).drop (k*4+4))=qaw (arrT l q (k+1)):=by
 rcases (show k=0∨k=1∨k=2∨k=3 by omega) with rfl|rfl|rfl|rfl<;>rfl
set_option maxHeartbeats 2000000 in
theorem qu6 (b:Nat) (l:List UInt8) (q:Nat→Nat) (w:World) (h:VocAt w b l) (hq:∀ j,j<4→q j≤16777216) (hM:MaxLenAt w) (hT:CellsAt w 3 0 qbo) (hK:qf8 w) :
  Gv Tryz.prog 67 [.pointer (some ⟨b,0,none⟩),idsV q] w fun r w'=>r=qhc l q∧Ext w w':=by
 unfold idsV;refine zE Tryz.func67 Tryz.ntmps67 ?_;(conv=>whnf);refine NewV.mem (Mem.nil w) ?_;intro t3 w1 hm;(conv=>whnf);refine NewV.mem hm ?_;intro r4 w2 hm;(conv=>whnf);refine NewV.mem hm ?_;intro t6 w3 hm;(conv=>whnf);refine zL hm 2 ?_;(conv=>whnf);obtain ⟨TB,eTB⟩:∃ TB,TB=(t3,Obj.cells #[.int .i64 (q 0:Nat),.int .i64 (q 1:Nat),.int .i64 (q 2:Nat),.int .i64 (q 3:Nat)] 153 (0,0)):=⟨_,rfl⟩
 have hm:Mem w w3 [(t6,.cells (qaw (arrT l q 0)).toArray 157 (0,0)),(r4,.cells (qaw zQ).toArray 75 (0,0)),TB]:=by rw [eTB];exact hm
 clear eTB;refine qm (fun k:Nat=>[(0,.pointer (some ⟨b,0,none⟩)),(4,.pointer (some ⟨r4,0,none⟩)),(5,.bool false),(6,.pointer (some ⟨t6,0,none⟩)),(11,.agg #[.int .i64 (q 0:Nat),.int .i64 (q 1:Nat),.int .i64 (q 2:Nat),.int .i64 (q 3:Nat)]),(12,.int .i64 k)])
  (fun k w'=>k≤4∧(∀ j,j<k→qeb l (q j)≠none)∧Mem w w' [(t6,.cells (qaw (arrT l q k)).toArray 157 (0,0)),(r4,.cells (qaw zQ).toArray 75 (0,0)),TB]) (fun k=>4-k) 0
  ⟨rfl,rfl,rfl,rfl,rfl,rfl,trivial⟩ ⟨by omega,fun j h=>by omega,hm⟩ ?_
 clear hm;rintro k w4 ρ' ⟨k1,hj,hm⟩;conv=>whnf
 (repeat' (first|((with_reducible refine zC (fun _=>?_) (fun _=>?_))<;>first|(exfalso;omega)|(conv=>whnf))|((with_reducible refine zX ?_);(conv=>whnf))|(refine zJ 0 ?_;(conv=>whnf))))
 ·have hqk:=hq k (by omega);refine ⟨.int .i64 (q k:Nat),?_,?_⟩
  ·rw [show k*tsz Tryz.prog 3=k from by rw [show tsz Tryz.prog 3=1 from by kernel_rfl];omega]
   rcases (show k=0∨k=1∨k=2∨k=3 by omega) with rfl|rfl|rfl|rfl<;>rfl
  (conv=>whnf);refine CallV.of (qu9 b l (q k) w4 (h.ext hm.ext) hqk (hM.ext hm.ext) (hT.ext hm.ext) (CellsAt.ext hK hm.ext)) ?_;rintro r w5 ⟨rfl,he5⟩;have hm:=hm.call he5;unfold qj4;cases hv:qeb l (q k) with
  | none=>
   dsimp only;have hV:qhc l q=.tuple #[qat zQ,.bool false]:=by rw [qhc,if_neg (fun h=>h k (by omega) hv)]
   rw [hV];unfold qrv;(conv=>whnf);refine NewV.mem hm ?_;intro t9 w6 hm;(conv=>whnf);refine zS hm 0 ?_;intro w7 hm;(conv=>whnf);refine zP ?_;refine zU ?_;(conv=>whnf);refine zS hm 2 ?_;intro w8 hm;(conv=>whnf);refine qa (R:=fun v w'=>v=.tuple #[qat zQ,.bool false]∧Ext w w') ?_;(conv=>whnf);refine zL hm 2 ?_;(conv=>whnf);exact ⟨rfl,hm.ext⟩
  | some t=>
   dsimp only;have hut:uT l q k=t:=by rw [uT,hv];rfl
   (conv=>whnf);refine NewV.mem hm ?_;intro t9 w6 hm;(conv=>whnf);refine zS hm 0 ?_;intro w7 hm;(conv=>whnf);refine zP ?_;refine zT ?_;(conv=>whnf);refine zL hm 0 ?_;(conv=>whnf);refine zX ?_;(conv=>whnf);refine StoreA.mem hm (i:=1) rfl ?_ (by simp [Value.oneCell']) ?_
   ·rw [show tsz Tryz.prog 73=4 from by kernel_rfl];show 0+k*4+4≤16;omega
   intro w8 hm;(conv=>whnf);refine zA ?_;(conv=>whnf);refine ⟨k+1,⟨rfl,rfl,rfl,rfl,rfl,rfl,trivial⟩,⟨by omega,fun j hj'=>?_,?_⟩,by omega⟩
   ·by_cases e:j=k
    ·subst e;rw [hv];simp
    ·exact hj j (by omega)
   ·have hm:=hm.sub (List.sublist_cons_self ..);have e:=qvg l q k (by omega);rw [hut] at e;rw [← e];rw [show tsz Tryz.prog 73=4 from by kernel_rfl,Nat.zero_add] at hm;exact hm
 obtain rfl:k=4:=by omega
 have hV:qhc l q=.tuple #[qat (q4Of l q),.bool true]:=by rw [qhc,if_pos hj]
 rw [hV];have hc:CellsAt w4 t6 0 (qaw (arrT l q 4)):=CellsAt.mem hm (List.mem_cons_self ..);refine LoadA.cells (qaa hc 0 (by omega)) rfl ?_;(conv=>whnf);refine zJ 1 ?_;(conv=>whnf);refine LoadA.cells (qaa hc 1 (by omega)) rfl ?_;(conv=>whnf);refine zJ 2 ?_;(conv=>whnf);refine LoadA.cells (qaa hc 2 (by omega)) rfl ?_;(conv=>whnf);refine zJ 3 ?_;(conv=>whnf);refine LoadA.cells (qaa hc 3 (by omega)) rfl ?_;(conv=>whnf);refine zS hm 1 ?_;intro w8 hm;(conv=>whnf);refine qa (R:=fun v w'=>v=.tuple #[qat (q4Of l q),.bool true]∧Ext w w') ?_;(conv=>whnf);refine zL hm 1 ?_;(conv=>whnf);exact ⟨rfl,hm.ext⟩
open Go.RowKit V
set_option maxRecDepth 100000
def sT (ts:List TM) (j:Nat):TM:=if j=0 then zTM else ts.getD (j-1) zTM
def sQ (ts:List TM) (q:Nat→Nat):Q4:=⟨sT ts (q 1),sT ts (q 2),sT ts (q 3),sT ts (q 0)⟩
def sA (ts:List TM) (q:Nat→Nat) (k j:Nat):TM:=if j<k then sT ts (q j) else zTM
def sR (ts:List TM) (q:Nat→Nat) (k:Nat):Q4:=⟨sA ts q k 0,sA ts q k 1,sA ts q k 2,sA ts q k 3⟩
def idE (q:Nat→Nat):List Value:=[.int .i64 (q 0:Nat),.int .i64 (q 1:Nat),.int .i64 (q 2:Nat),.int .i64 (q 3:Nat)]
theorem qz3 (q:Nat→Nat) (k:Nat) (hk:k<4):(idE q)[k]?=some (.int .i64 (q k:Nat)):=by
 rcases (show k=0∨k=1∨k=2∨k=3 by omega) with rfl|rfl|rfl|rfl<;>rfl
theorem q0k (ts:List TM) (q:Nat→Nat) (k:Nat) (hk:k<4):((qaw (sR ts q k)).take (k*4)++encT (sT ts (q k))++(qaw (sR ts q k)).drop (k*4+4))=qaw (sR ts q (k+1)):=by
 rcases (show k=0∨k=1∨k=2∨k=3 by omega) with rfl|rfl|rfl|rfl<;>rfl
theorem qzd (ts:List TM) (q:Nat→Nat) (k:Nat) (h:q k=0):sR ts q (k+1)=sR ts q k:=by
 have e:∀ j,sA ts q (k+1) j=sA ts q k j:=fun j=>by
  unfold sA
  by_cases h1:j<k
  ·rw [if_pos h1,if_pos (by omega)]
  ·by_cases h2:j=k
   ·subst h2;rw [if_pos (by omega),if_neg (by omega),h];rfl
   ·rw [if_neg (by omega),if_neg h1]
 simp only [sR,e]
theorem qw7:TermOk zTM:=⟨⟨by decide,by decide⟩,by decide,by decide,by decide⟩
theorem qwv {ts:List TM} (h:∀ t∈ts,TermOk t) {j:Nat} (hj:j≤ts.length):TermOk (sT ts j):=by
 unfold sT
 split
 ·exact qw7
 ·have hl:j-1<ts.length:=by omega
  rw [List.getD_eq_getElem?_getD,List.getElem?_eq_getElem hl];exact h _ (List.getElem_mem hl)
theorem q05 {ts:List TM} (h:∀ t∈ts,TermOk t) {q:Nat→Nat} (hj:∀ j,j<4→q j≤ts.length):qji (sQ ts q):=by
 intro k;unfold Q4.at
 split
 ·exact qwv h (hj 1 (by omega))
 ·exact qwv h (hj 2 (by omega))
 ·exact qwv h (hj 3 (by omega))
 ·exact qwv h (hj 0 (by omega))
theorem qmm (q:Q4):(qaw q).length=16:=rfl
theorem qfq (q:Q4):∀ v∈qaw q,v.oneCell'=true:=by
 intro v hv;unfold qaw at hv
 rcases List.mem_append.1 hv with hv|hv
 ·exact qy _ v hv
 ·rcases List.mem_append.1 hv with hv|hv
  ·exact qy _ v hv
  ·rcases List.mem_append.1 hv with hv|hv
   ·exact qy _ v hv
   ·exact qy _ v hv
namespace V
theorem StoreA.rwAt {P:Program} {w0 w:World} {v:Value} {e:TypeId} {size n:Nat} {xs:List Value} {L:List (Nat × Obj)} {b off:Nat} {cur:Array Value} {t:TypeId} {vs:List Value} {K:World→Prop} (h:Rw w0 w v e size n xs ((b,.cells cur t (0,0))::L))
  (hl:off+vs.length≤cur.size) (h1:∀ v∈vs,v.oneCell'=true) (hk:∀ w',Rw w0 w' v e size n xs ((b,.cells (cur.toList.take off++vs++cur.toList.drop (off+vs.length)).toArray t (0,0))::L)→K w'):StoreA P w b off vs K:=by
 have hg:=h.mem.get (List.mem_cons_self ..);have hb:v.ownBlock≠some b:=h.apart _ (List.mem_cons_self ..);have hr:=run_storeCells_at P b off t vs 0 cur w hg (by simpa using hl) h1;have ec:(cur.toList.take (off+0)++vs++cur.toList.drop (off+0+vs.length)).toArray=(cur.toList.take off++vs++cur.toList.drop (off+vs.length)).toArray:=by rw [Nat.add_zero]
 rw [ec] at hr;refine ⟨_,hr,hk _ ⟨?_,?_,fun y hy=>?_⟩⟩
 ·have:=h.mem.set (i:=0) (b:=b) (o:=.cells cur t (0,0)) (o':=.cells (cur.toList.take off++vs++cur.toList.drop (off+vs.length)).toArray t (0,0)) rfl (w':=w.setRow b _) ?_ (qbt hg) (fun c hc=>ql hc)
  ·exact this
  ·exact Below.trans h.mem.ext ⟨rfl,rfl,rfl,by simp [World.setRow],fun k hk=>ql (by have:=(h.mem.own _ (List.mem_cons_self ..)).1;simp only at this;omega)⟩
 ·refine h.own.kept (row:=some b) ⟨rfl,rfl,rfl,by simp [World.setRow],fun k _ hk=>ql (fun e=>hk (by simp [e]))⟩ (Or.inr hb)
 ·rcases List.mem_cons.1 hy with rfl|hy
  ·exact hb
  ·exact h.apart y (List.mem_cons_of_mem _ hy)
end V
theorem qdSl:Tryz.prog.underlying 68=some (.slice 75):=Tryz.underlying68
theorem qdI:Tryz.prog.info? 75=some ((Tryz.prog.info? 75).get (by kernel_rfl)):=(Option.some_get _).symm
theorem qdZ:((Tryz.prog.info? 75).get (by kernel_rfl)).zero=some ((((Tryz.prog.info? 75).get (by kernel_rfl)).zero).get (by kernel_rfl)):=(Option.some_get _).symm
def SdR (ts:List TM) (is:List (Nat→Nat)) (base:Nat) (v:Value) (w:World):Prop:=
 v=.tuple #[.slice none 0 0,.bool false]∨
 ((∀ q∈is,(∀ j,j<4→q j≤ts.length)∧qc3 (sQ ts q)=0)∧∃ B c,v=.tuple #[.slice B is.length c,.bool true]∧w.ownsRow base 75 16 (.slice B is.length c) is.length ((is.map (sQ ts)).map qaw).flatten)
set_option maxHeartbeats 4000000 in
theorem qww (ts:List TM) (is:List (Nat→Nat)) (A B:Option Addr) (cA cB:Nat) (w:World) (hA:SlAt encT 4 w A ts) (hB:SlAt idE 4 w B is) (hok:∀ t∈ts,TermOk t) (hts:ts.length≤16777216) (hl:is.length≤4194304) :
  Gv Tryz.prog 64 [.slice A ts.length cA,.slice B is.length cB] w fun v w'=>SdR ts is w.heap.size v w'∧Ext w w':=by
 refine zE Tryz.func64 Tryz.ntmps64 ?_;(conv=>whnf);refine qm (fun x:Nat × Option Addr × Nat=>[(0,.slice A ts.length cA),(1,.slice B is.length cB),(6,.slice x.2.1 x.1 x.2.2),(7,.int .i64 x.1)])
  (fun x w'=>x.1≤is.length∧(∀ q∈is.take x.1,(∀ j,j<4→q j≤ts.length)∧qc3 (sQ ts q)=0)∧Rw w w' (.slice x.2.1 x.1 x.2.2) 75 16 x.1 (((is.take x.1).map (sQ ts)).map qaw).flatten []) (fun x=>is.length-x.1) (0,none,0)
  ⟨rfl,rfl,rfl,rfl,trivial⟩ ⟨by simp,by simp,Rw.nil (Mem.nil w)⟩ ?_
 rintro ⟨i,C,cc⟩ w1 ρ' ⟨h1,h2,hR⟩;dsimp only at h1 h2 hR ⊢;(conv=>whnf);refine zC (fun _=>?_) (fun _=>?_)<;>(conv=>whnf)
 ·have hil:i<is.length:=by omega
  obtain ⟨gi,oi,eB,hci⟩:=hB.at_ (by intro e;rw [e] at hil;simp at hil);subst eB;obtain ⟨q,hq⟩:∃ q,is[i]?=some q:=⟨_,List.getElem?_eq_getElem hil⟩
  have hcq:=hci i q hq;refine NewV.rw hR ?_;clear hR;intro tb w2 hR;have hR:Rw w w2 (.slice C i cc) 75 16 i (((is.take i).map (sQ ts)).map qaw).flatten [(tb,.cells (qaw (sR ts q 0)).toArray 157 (0,0))]:=hR;(conv=>whnf);refine qm (fun k:Nat=>[(0,.slice A ts.length cA),(1,.slice (some ⟨gi,oi,none⟩) is.length cB),(6,.slice C i cc),(7,.int .i64 i),(8,.pointer (some ⟨tb,0,none⟩)),(9,.int .i64 k)])
   (fun k w'=>k≤4∧(∀ j,j<k→q j≤ts.length)∧Rw w w' (.slice C i cc) 75 16 i (((is.take i).map (sQ ts)).map qaw).flatten [(tb,.cells (qaw (sR ts q k)).toArray 157 (0,0))]) (fun k=>4-k) 0
   ⟨rfl,rfl,rfl,rfl,rfl,rfl,trivial⟩ ⟨by omega,fun j h=>by omega,hR⟩ ?_
  clear hR;rintro k w3 ρ2 ⟨k1,hj,hR⟩;conv=>whnf
  (repeat' (first|((with_reducible refine zC (fun _=>?_) (fun _=>?_))<;>first|(exfalso;omega)|(conv=>whnf))|(refine zJ 0 ?_;(conv=>whnf))))
  ·have hck:w3.cell? ⟨gi,oi+i*4+k,none⟩=some (.int .i64 (q k:Nat)):=Ext.cell hR.mem.ext (hcq k _ (qz3 q k (by omega)));refine ⟨⟨gi,oi,i,rfl,by omega,by omega,?_⟩⟩;rw [show tsz Tryz.prog 153=4 from by kernel_rfl];(conv=>whnf);refine zX ?_;(conv=>whnf);rw [show tsz Tryz.prog 3=1 from by kernel_rfl,Nat.mul_one];refine LoadV.of hck ?_;(conv=>whnf);refine zC (fun _=>?_) (fun _=>?_)<;>(conv=>whnf)
   ·exact ⟨.inl rfl,hR.mem.ext⟩
   refine ⟨⟨gi,oi,i,rfl,by omega,by omega,?_⟩⟩;rw [show tsz Tryz.prog 153=4 from by kernel_rfl];(conv=>whnf);refine zX ?_;(conv=>whnf);rw [show tsz Tryz.prog 3=1 from by kernel_rfl,Nat.mul_one];refine LoadV.of hck ?_;conv=>whnf
   (repeat' (first|(refine zA ?_;(conv=>whnf))|((with_reducible refine zC (fun _=>?_) (fun _=>?_))<;>first|(exfalso;omega)|(conv=>whnf))))
   ·have hts0:0<ts.length:=by omega
    obtain ⟨ga,oa,eA,hca⟩:=hA.at_ (by intro e;rw [e] at hts0;simp at hts0);subst eA;have hkl:q k-1<ts.length:=by omega
    have hct:=hca (q k-1) _ (List.getElem?_eq_getElem hkl);have est:sT ts (q k)=ts[q k-1]:=by rw [sT,if_neg (by omega),List.getD_eq_getElem?_getD,List.getElem?_eq_getElem hkl];rfl
    refine ⟨⟨gi,oi,i,rfl,by omega,by omega,?_⟩⟩;rw [show tsz Tryz.prog 153=4 from by kernel_rfl];(conv=>whnf);refine zX ?_;(conv=>whnf);rw [show tsz Tryz.prog 3=1 from by kernel_rfl,Nat.mul_one];refine LoadV.of hck ?_;(conv=>whnf);refine zA ?_;(conv=>whnf);refine ⟨⟨ga,oa,q k-1,rfl,by omega,by omega,?_⟩⟩;rw [show tsz Tryz.prog 73=4 from by kernel_rfl];(conv=>whnf);refine LoadA.cells (hct.ext hR.mem.ext) rfl ?_;(conv=>whnf);refine zX ?_;(conv=>whnf);rw [show tsz Tryz.prog 73=4 from by kernel_rfl,Nat.zero_add];refine StoreA.rwAt hR (by show k*4+4≤16;omega) (qy _) ?_;clear hR hck;intro w4 hR;(conv=>whnf);refine zA ?_;(conv=>whnf);refine ⟨k+1,⟨rfl,rfl,rfl,rfl,rfl,rfl,trivial⟩,⟨by omega,fun j hj'=>?_,?_⟩,by omega⟩
    ·by_cases e:j=k
     ·subst e;omega
     ·exact hj j (by omega)
    ·rw [← q0k ts q k (by omega),est];exact hR
   ·refine ⟨k+1,⟨rfl,rfl,rfl,rfl,rfl,rfl,trivial⟩,⟨by omega,fun j hj'=>?_,?_⟩,by omega⟩
    ·by_cases e:j=k
     ·subst e;omega
     ·exact hj j (by omega)
    ·rw [qzd ts q k (by omega)];exact hR
  ·obtain rfl:k=4:=by omega
   have hc:CellsAt w3 tb 0 (qaw (sR ts q 4)):=CellsAt.mem hR.mem (List.mem_cons_self ..);rw [show tsz Tryz.prog 73=4 from by kernel_rfl];refine LoadA.cells (qaa hc 0 (by omega)) rfl ?_;(conv=>whnf);refine zJ 1 ?_;(conv=>whnf);rw [show tsz Tryz.prog 73=4 from by kernel_rfl];refine LoadA.cells (qaa hc 1 (by omega)) rfl ?_;(conv=>whnf);refine zJ 2 ?_;(conv=>whnf);rw [show tsz Tryz.prog 73=4 from by kernel_rfl];refine LoadA.cells (qaa hc 2 (by omega)) rfl ?_;(conv=>whnf);refine zJ 3 ?_;(conv=>whnf);rw [show tsz Tryz.prog 73=4 from by kernel_rfl];refine LoadA.cells (qaa hc 3 (by omega)) rfl ?_;(conv=>whnf);have hqo:=q05 hok hj;refine NewV.rw hR ?_;clear hR hc;intro qb w4 hR;(conv=>whnf);refine StoreA.rwAll (vs:=qaw (sQ ts q)) hR rfl (qfq _) ?_;clear hR;intro w5 hR;(conv=>whnf);refine zL hR.mem 0 ?_;(conv=>whnf);refine CallV.of (qhj (sQ ts q) hqo w5) ?_;rintro v w6 ⟨rfl,he6⟩;have hR:=hR.call he6;(conv=>whnf);refine zC (fun _=>?_) (fun _=>?_)<;>(conv=>whnf)
   ·exact ⟨.inl rfl,hR.mem.ext⟩
   refine zL hR.mem 0 ?_;(conv=>whnf);refine NewV.rw hR ?_;clear hR;intro nb w7 hR;(conv=>whnf);refine AppV.rw (m:=1) (news:=qaw (sQ ts q)) qdSl qdI qdZ (by kernel_rfl) (by kernel_rfl) (by decide) hR rfl (fun _=>⟨nb,0,rfl,fun k v hv=>?_⟩) (qfq _) (by rw [show ((Tryz.prog.info? 75).get (by kernel_rfl)).bytes=224 from by kernel_rfl];omega) (by omega) ?_
   ·rw [qd (hR.mem.get (List.mem_cons_self ..)),Nat.zero_add];rw [List.getElem?_toArray];exact hv
   clear hR;intro C2 c2 w8 hR;have et:is.take (i+1)=is.take i++[q]:=by rw [List.take_add_one,hq];rfl
   have hR:Rw w w8 (.slice C2 (i+1) c2) 75 16 (i+1) (((is.take (i+1)).map (sQ ts)).map qaw).flatten []:=by
    have e:(((is.take (i+1)).map (sQ ts)).map qaw).flatten=(((is.take i).map (sQ ts)).map qaw).flatten++qaw (sQ ts q):=by rw [et];simp
    rw [e];exact hR.tail.tail.tail
   (conv=>whnf);refine zA ?_;(conv=>whnf);refine ⟨(i+1,C2,c2),⟨rfl,rfl,rfl,rfl,trivial⟩,⟨by simp only;omega,?_,hR⟩,by simp only;omega⟩;show ∀ q∈is.take (i+1),_;rw [et];intro q' hq'
   rcases List.mem_append.1 hq' with hq' | hq'
   ·exact h2 q' hq'
   ·rw [List.mem_singleton.1 hq'];exact ⟨hj,by omega⟩
 ·obtain rfl:i=is.length:=by omega
  rw [List.take_length] at h2 hR;exact ⟨.inr ⟨h2,C,cc,rfl,hR.own⟩,hR.mem.ext⟩
open Go.RowKit V
set_option maxRecDepth 100000
theorem VocAt.other {w w':World} {b x:Nat} {l:List UInt8} {cs:Array Value} {t:TypeId} {fz:Nat × Nat} (h:VocAt w b l) (hx:w.heap[x]?=some (.cells cs t fz)) (ht:t≠345) (ht2:t≠264) (hc:∀ v∈cs.toList,∀ c:Nat,v≠.int .u8 c)
  (hw:∀ c,c≠x→w'.heap[c]?=w.heap[c]?):VocAt w' b l:=by
 obtain ⟨d,h1,h2⟩:=h;have hbx:b≠x:=by
  intro e;subst e;rw [hx] at h1
  injection h1 with h1
  injection h1 with _ h1 _
  exact ht2 h1
 exact ⟨d,by rw [hw b hbx];exact h1,fun k hk=>(h2 k hk).other hx ht hc hw⟩
theorem TreeAt.other {w w':World} {b x:Nat} {l:List UInt8} {fz:Nat × Nat} {v:Value} (h:TreeAt w b l) (hx:w.heap[x]?=some (.cells #[v] 49 fz)) (hv:∀ (k:IntKind) (c:Int),v≠.int k c)
  (hw:∀ c,c≠x→w'.heap[c]?=w.heap[c]?):TreeAt w' b l:=by
 have hne:∀ (z:List UInt8),∀ y∈z,∀ u∈(#[v]:Array Value).toList,(encB y)[0]?≠some u:=fun z y _ u hu e=>by
  simp only [List.mem_cons,List.not_mem_nil,or_false] at hu;subst hu;cases e;exact hv _ _ rfl
 refine ⟨fun k hk=>?_,h.n,h.wd⟩;obtain ⟨P,cp,S,cs,V,h1,h2,h3,h4,h5⟩:=h.lv k hk;refine ⟨P,cp,S,cs,V,h1.other ?_ hw,h2.other hx (hne _) (fun _ _ e=>by cases e) hw,h3.other hx (hne _) (fun _ _ e=>by cases e) hw,h4,?_⟩
 ·intro e;have h6:=h1 0 _ rfl;rw [e,qd hx] at h6;have h7:(#[v]:Array Value)[8*k+0]?=some (.int .i64 (vNum l k)):=h6
  rcases Nat.eq_zero_or_pos k with rfl|hk0
  ·exact hv _ _ (Option.some.inj h7)
  ·rw [Array.getElem?_eq_none (by simp;omega)] at h7;cases h7
 ·rcases h5 with h5|⟨h5,h6,vb,h7,h8⟩
  ·exact .inl h5
  ·refine .inr ⟨h5,h6,vb,h7,?_⟩;rw [hw vb ?_]
   ·exact h8
   ·intro e;subst e;rw [hx] at h8
    injection h8 with h8
    injection h8 with _ h8 _
    exact absurd h8 (by decide)
theorem qg7 (c5 place:Nat) {w0 w:World} {M:List (Nat × Obj)} (hm:Mem w0 w ((c5,.cells #[.nilIface] 49 (0,0))::M)) :
  GvD Tryz.prog 159 [.pointer (some ⟨c5,0,none⟩),.int .i64 place] w fun w'=>Ext w w':=by
 refine gvD (by kernel_rfl) Tryz.func159 rfl Tryz.ntmps159 rfl ?_;(conv=>whnf);refine NewV.mem (Mem.nil w) ?_;intro t4 w1 hm1;(conv=>whnf);refine LoadV.mem (hm.call hm1.ext) (i:=0) rfl rfl ?_;(conv=>whnf);refine CallV.of (qls _ w1) ?_;rintro r w2 ⟨rfl,rfl⟩;(conv=>whnf);refine zU ?_;(conv=>whnf);exact hm1.ext
def Mv (w0:World) (M:List (Nat × Obj)) (t4 c5 e:Nat) (o:Obj) (s12 s13 s15:Bool) (v12 v13:Value) (w:World):Prop:=
 (s15=false∧Er w0 ((t4,.cells #[.pointer (some ⟨e,0,none⟩)] 135 (0,0))::(c5,.cells #[errV e] 49 (0,0))::M) o (fun b=>.pointer (some ⟨b,0,none⟩)) errV errV s12 s13 false v12 v13 undef w)∨
 (s15=true∧s12=true∧s13=true∧∃ nb,Mem w0 w ((nb,o)::(t4,.cells #[.pointer (some ⟨e,0,none⟩)] 135 (0,0))::(c5,.cells #[errV nb] 49 (0,0))::M))
theorem Mv.top {w0:World} {M:List (Nat × Obj)} {t4 c5 e:Nat} {o:Obj} {s12 s13 s15:Bool} {v12 v13:Value} {w:World} (h:Mv w0 M t4 c5 e o s12 s13 s15 v12 v13 w) :
  ∃ X,Mem w0 w ((t4,.cells #[.pointer (some ⟨e,0,none⟩)] 135 (0,0))::X):=by
 rcases h with ⟨_,h⟩|⟨_,_,_,nb,h⟩
 ·exact ⟨_,h.mem⟩
 ·exact ⟨_,h.sub (List.sublist_cons_self ..)⟩
set_option maxHeartbeats 2000000 in
theorem qg6 (c5 e p q place:Nat) {w0 w:World} {M:List (Nat × Obj)} (hm:Mem w0 w ((c5,.cells #[errV e] 49 (0,0))::M)) (hc:CellsAt w e 0 [.int .i64 p,.iface 26 (.int .i64 q)]) (hG:ErrTyp w)
  (hp:p≤1152921504606846976) (hpl:place≤1152921504606846976) :
  GvD Tryz.prog 159 [.pointer (some ⟨c5,0,none⟩),.int .i64 place] w fun w'=>∃ e',Mem w0 w' ((e',errO (p+place) q)::(c5,.cells #[errV e'] 49 (0,0))::M):=by
 refine gvD (by kernel_rfl) Tryz.func159 rfl Tryz.ntmps159 rfl ?_;(conv=>whnf);refine ⟨fun t4 w1 hb1 hw1=>?_⟩;have he1:Ext w w1:=by rw [hw1];exact (Ext.refl _).alloc _
 have hm:=hm.new hb1 hw1;have hc:=hc.ext he1;have hG:=hG.ext he1;clear hw1 hb1 he1;(conv=>whnf);refine zR hm 1 ?_;(conv=>whnf);refine CallV.of (qlr e t4 hm (i:=0) rfl hG) ?_;rintro r w2 ⟨rfl,hm',w4',he4',hfr⟩;have hne:e≠t4:=by
  intro e1;have h1:=hc 0 _ rfl;rw [e1,qd (hm.get (List.mem_cons_self ..))] at h1;cases h1
 have hc:=(hc.ext he4').other hne hfr;have hm:Mem w0 w2 ((t4,.cells #[.pointer (some ⟨e,0,none⟩)] 135 (0,0))::(c5,.cells #[errV e] 49 (0,0))::M):=hm';have hne5:e≠c5:=by
  intro e1;have h1:=hc 0 _ rfl;rw [e1,qd (hm.get (List.mem_cons_of_mem _ (List.mem_cons_self ..)))] at h1;cases h1
 clear hm' he4' hfr;(conv=>whnf);refine zT ?_;(conv=>whnf);refine DrawV.gen (fun S vals w'=>Mv w0 M t4 c5 e (errO (p+place) q) (S 12) (S 13) (S 15) (vals 12) (vals 13) w'∧CellsAt w' e 0 [.int .i64 p,.iface 26 (.int .i64 q)]) rfl (by kernel_rfl) (fun vals=>⟨.inl ⟨rfl,Er.start hm.drew⟩,hc.ext (Ext.refl _).drew⟩) ?_;clear hm hc;(conv=>whnf);refine zG ?_;(conv=>whnf);refine StepG.of (.pointer (some ⟨e,0,none⟩)) (fun S vals wd hk hp hI=>?_) ?_
 ·(conv=>whnf);obtain ⟨X,hX⟩:=hI.1.top;refine zR hX 0 ?_;(conv=>whnf);exact ⟨rfl,hI⟩
 (conv=>whnf);refine zG ?_;(conv=>whnf);refine zG ?_;(conv=>whnf);refine StepG.of (.int .i64 p) (fun S vals wd hk hp hI=>?_) ?_
 ·(conv=>whnf);refine LoadV.of (hI.2 0 _ rfl) ?_;(conv=>whnf);exact ⟨rfl,hI⟩
 (conv=>whnf);refine zG ?_;(conv=>whnf);refine zG ?_ (by intro S vals wd hk hp hI;(conv=>whnf);(refine zA ?_;(conv=>whnf));exact ⟨rfl,hI⟩);(conv=>whnf);refine StepG.of (.pointer (some ⟨e,0,none⟩)) (fun S vals wd hk hp hI=>?_) ?_
 ·(conv=>whnf);obtain ⟨X,hX⟩:=hI.1.top;refine zR hX 0 ?_;(conv=>whnf);exact ⟨rfl,hI⟩
 (conv=>whnf);refine zG ?_;(conv=>whnf);refine zG ?_;(conv=>whnf);refine StepG.of (.iface 26 (.int .i64 q)) (fun S vals wd hk hp hI=>?_) ?_
 ·(conv=>whnf);refine LoadV.of (hI.2 1 _ rfl) ?_;(conv=>whnf);exact ⟨rfl,hI⟩
 (conv=>whnf);refine zG ?_;(conv=>whnf);refine StepG.any (fun S vals wd hk hp hI=>?_) ?_
 ·dsimp only at hI;rw [hk] at hI;obtain ⟨⟨h15,hE⟩|⟨_,h12,_⟩,hc⟩:=hI
  ·(conv=>whnf);refine ⟨fun x wx hb hw=>?_⟩;subst hb hw;(conv=>whnf);exact ⟨trivial,.inl ⟨h15,hE.alloc⟩,hc.ext ((Ext.refl _).alloc _)⟩
  ·cases h12
 (conv=>whnf);refine StepG.any (fun S vals wd hk hp hI=>?_) ?_
 ·have h12:S 12=true:=hp 12 (by decide);dsimp only at hI;rw [hk,h12] at hI;obtain ⟨⟨h15,hE⟩|⟨_,_,h13,_⟩,hc⟩:=hI
  ·obtain ⟨nb,hv,h3,_⟩:=hE.see;rw [qh hv];(conv=>whnf);refine ⟨trivial,.inl ⟨h15,?_⟩,hc⟩;show Er _ _ _ _ _ _ (S 12) true false _ _ _ _;rw [h12];exact h3
  ·cases h13
 (conv=>whnf);refine zG ?_;(conv=>whnf);refine StepG.of undef (fun S vals wd hk hp hI=>?_) ?_
 ·have h13:S 13=true:=hp 13 (by decide);dsimp only at hI;rw [hk,h13] at hI;obtain ⟨⟨_,hE⟩|⟨h15,_⟩,hc⟩:=hI
  ·rcases hE.h with ⟨_,h,_⟩|⟨h12,nb,_,hv,_,hmm⟩
   ·cases h
   ·have hv:=hv rfl;rw [qh hv];(conv=>whnf);refine StoreV.row hmm (i:=2) rfl (by simp) rfl ?_;intro wx hfr _ hmx;(conv=>whnf);refine ⟨rfl,.inr ⟨rfl,h12,h13,nb,hmx⟩,hc.other hne5 hfr⟩
  ·cases h15
 (conv=>whnf);intro vals w14 hI;obtain ⟨⟨h15,_⟩|⟨_,_,_,nb,hm⟩,_⟩:=hI
 ·cases h15
 (conv=>whnf);exact ⟨nb,hm.sub (.cons_cons _ (List.sublist_cons_self ..))⟩
end Go.Proofs.YtajgbepghniciaaGreatDoor
