/- Lemmas and contracts of functions on the way to the law's card (part 4 of 10). -/
import Derived.Test.YtkienlambankeaaGreatDoorPG3
import Derived.TacticsIn
import Derived.RangeFuncSeq
import Derived.RangeFuncLeaves
namespace Go.Proofs.YtkienlambankeaaGreatDoor
set_option maxHeartbeats 8000000
open Go.RowKit
namespace V
def Fr (r:Option Nat):Fence:={ fn:=fun _=>True,depth:=none,alive:=false,round:=r }
theorem qc7 {r:Option Nat} {m:Nat} {P:Program} {f:FuncId} {args:Array Value} {w:World} {R:Ending→World→Prop}:CallsIn (Fr r) m P f args w R↔Calls P f args w R:=by
 show CallsIn Fence.wide m P f args w R↔_;exact callsIn_wide
def Sw (n:Nat) (ρ:Nat→Value) (a:Act):Prop:=St n ρ { a with defers:=[] }
theorem Sw.eval {n:Nat} {ρ:Nat→Value} {a:Act} (h:Sw n ρ a):a.eval=ev ρ:=by
 have:=St.eval h;rw [← this];funext x;cases x<;>rfl
theorem Sw.put {n:Nat} {ρ:Nat→Value} {a:Act} (h:Sw n ρ a) (ds:List Deferred) {dst:Option Tmp} {v:Value} {K:(Nat→Value)→Prop} (hk:putV n dst ρ v K) :
  ∃ ρ',Sw n ρ' ({ a with defers:=ds }.put dst v)∧({ a with defers:=ds }.put dst v).defers=ds∧K ρ':=by
 obtain ⟨ρ',h1,h2⟩:=putV.st hk h;refine ⟨ρ',?_,?_,h2⟩
 ·cases dst<;>exact h1
 ·cases dst<;>rfl
theorem Sw.st {n:Nat} {ρ:Nat→Value} {a:Act} (h:Sw n ρ a) (hd:a.defers=[]):St n ρ a:=by
 have:a={ a with defers:=[] }:=by cases a;cases hd;rfl
 rw [this];exact h
theorem St.sw {n:Nat} {ρ:Nat→Value} {a:Act} (h:St n ρ a):Sw n ρ a:=by
 have:a={ a with defers:=[] }:=by have:=h.defers;cases a;cases this;rfl
 unfold Sw;rw [← this];exact h
structure YieldV (P:Program) (l:Nat) (args:List Value) (w:World) (K:Value→World→Prop):Prop where
 h:YieldAt (Fr none) 0 P l args.toArray w fun e w'=>∃ v,e=.returned v∧K v w'
theorem YieldV.mono {P:Program} {l:Nat} {args:List Value} {w:World} {K K':Value→World→Prop} (h:YieldV P l args w K) (hk:∀ v w',K v w'→K' v w'):YieldV P l args w K':=by
 obtain ⟨fn,tmps,asg,b,h1,h2⟩:=h.h;exact ⟨⟨fn,tmps,asg,b,h1,h2.mono fun e w' ⟨v,he,hv⟩=>⟨v,he,hk _ _ hv⟩⟩⟩
def q8u (P:Program) (c:Call) (ty:TypeId) (ρ:Nat→Value) (w:World) (s:Sem Next) (K:Value→World→Prop):Prop:=
 match c.callee with
 | .value f=>match ev ρ f with
  | .func (.yield l) first captured=>match first.toList,captured.toList with
   | [],[]=>qb6 (evs ρ c.args.toList) fun vs=>YieldV P l vs w K
   | _,_=>False
  | .func (.func g) first captured=>qb6 (evs ρ c.args.toList) fun vs=>
   match first.toList,captured.toList with
   | [],[]=>CallV P g vs w K
   | x,y=>CallV P g (x++(vs++y)) w K
  | _=>Fall P s w K
 | .builtin .len=>lenV P (getL c.argTypes.toList 0) (evs ρ c.args.toList) w s K
 | .builtin .append=>appV P c.argTypes ty (evs ρ c.args.toList) w s K
 | .invoke recv name=>match ev ρ recv with
  | .iface t v=>qb6 (evs ρ c.args.toList) fun vs=>InvV P t v name vs w K
  | _=>Fall P s w K
 | _=>Fall P s w K
def defW (c:Call) (ρ:Nat→Value) (K:Deferred→Prop):Prop:=
 match c.callee with
 | .value f=>match ev ρ f with
  | .func (.func g) first captured=>match first.toList,captured.toList with
   | [],[]=>qb6 (evs ρ c.args.toList) fun vs=>K { target:=.fn (.func g) #[],args:=vs.toArray }
   | _,_=>False
  | _=>False
 | _=>False
def opW (P:Program) (r:Option Nat) (o:Oper) (ρ:Nat→Value) (ds:List Deferred) (w:World) (K:Value→List Deferred→World→Prop):Prop:=
 match o.op with
 | .call c=>q8u P c o.type ρ w (execOp (ev ρ) o) fun v w'=>K v ds w'
 | .defer c=>match r with
  | none=>defW c ρ fun d=>K undef (d::ds) w
  | some _=>False
 | _=>opV P o ρ w fun v w'=>K v ds w'
section
variable {P:Program} {n:Nat} {r:Option Nat}
theorem q3w {ρ:Nat→Value} {w:World} {o:Oper} {c:Call} {K:Value→World→Prop} (ho:o.op=.call c) (h:q8u P c o.type ρ w (execOp (ev ρ) o) K) :
  OpOk P (execOp (ev ρ) o) w K∨∃ l f tmps asg b,(execOp (ev ρ) o).run P w=.ok (.round l f tmps asg b) w∧RoundIn (Fr none) 0 P l f tmps asg b w fun e w'=>∃ v,e=.returned v∧K v w':=by
 have key:qyu P c o.type ρ w (execOp (ev ρ) o) K→OpOk P (execOp (ev ρ) o) w K:=quh ho;unfold q8u at h;unfold qyu at key
 split at h
 ·rename_i f hc
  simp only [hc] at key
  split at h
  ·rename_i l first captured hf
   split at h
   ·rename_i h1 h2
    rw [qat] at h;obtain ⟨f',tmps,asg,b,hy,hR⟩:=h.h;refine .inr ⟨l,f',tmps,asg,b,?_,hR⟩;have e1:first=#[]:=by rw [← Array.toList_inj];simpa using h1
    have e2:captured=#[]:=by rw [← Array.toList_inj];simpa using h2
    subst e1 e2;rw [qdp] at hy;have e3:(c.args.toList.map (ev ρ)).toArray=c.args.map (ev ρ):=by rw [← Array.toList_inj];simp
    rw [e3] at hy;simp only [execOp,ho,resolve,hc,hf];simp [go_sem,Deferred.ofValue,invoke,hy]
   ·exact h.elim
  ·rename_i g first captured hf
   rw [hf] at key;exact .inl (key h)
  ·rename_i hn1 hn2
   exact .inl (.inl h.ok)
 ·rename_i hc
  simp only [hc] at key;exact .inl (key h)
 ·rename_i hc
  simp only [hc] at key;exact .inl (key h)
 ·rename_i hc
  simp only [hc] at key;exact .inl (key h)
 ·exact .inl (.inl h.ok)
theorem qadm {o:Oper} {ρ:Nat→Value} {ds:List Deferred} {w:World} {K:Value→List Deferred→World→Prop} {a:Act} {next:Act→World→Prop} {Q:Exit→Act→World→Prop}
  (ha:Sw n ρ a) (hd:a.defers=ds) (h:opW P r o ρ ds w K) (hn:∀ v ds' w',K v ds' w'→next ({ a with defers:=ds' }.put o.dst v) w'):o.wpIn (Fr r) 0 P a w next Q:=by
 refine ⟨fun _ _=>trivial,?_⟩;have hds:({ a with defers:=ds }:Act)=a:=by subst hd;rfl
 have hn0:∀ v w',K v ds w'→next (a.put o.dst v) w':=fun v w' hk=>by have:=hn v ds w' hk;rwa [hds] at this
 rw [ha.eval];unfold opW at h
 split at h
 ·rename_i c ho
  rw [Oper.semAt_eq _ _ _ (by intro c' e;rw [ho] at e;cases e)]
  rcases q3w ho h with ((⟨v,w',h1,h2⟩|⟨w',h1,h2⟩)|⟨f,args,h1,h2⟩)|⟨l,f,tmps,asg,b,h1,h2⟩
  ·rw [h1];exact hn0 _ _ h2
  ·rw [h1];exact hn0 _ _ h2
  ·rw [h1,Oper.uponIn_enter];refine ⟨fun h=>by simp [Fr] at h,qc7.2 (h2.mono fun e w' ⟨v,he,hk⟩=>?_)⟩;subst he;exact hn0 _ _ hk
  ·rw [h1,Oper.uponIn_round];refine ⟨fun h=>by simp [Fr] at h,?_⟩;have h2:RoundIn (Fr r) 0 P l f tmps asg b w _:=h2;refine h2.mono fun e w' ⟨v,he,hk⟩=>?_;subst he;exact hn0 _ _ hk
 ·rename_i c ho
  split at h
  ·unfold defW at h
   split at h
   ·rename_i f hc
    split at h
    ·rename_i g first captured hf
     split at h
     ·rename_i h1 h2
      rw [qat] at h;have e1:first=#[]:=by rw [← Array.toList_inj];simpa using h1
      have e2:captured=#[]:=by rw [← Array.toList_inj];simpa using h2
      subst e1 e2;rw [qdp] at h;have e3:(c.args.toList.map (ev ρ)).toArray=c.args.map (ev ρ):=by rw [← Array.toList_inj];simp
      rw [e3] at h;have e4:(Oper.semAt none (ev ρ) o).run P w=.ok (.defer { target:=.fn (.func g) #[],args:=c.args.map (ev ρ) }) w:=by
       simp only [Oper.semAt_none,execOp,ho,resolve,hc,hf];simp [go_sem,Deferred.ofValue]
      have e5:(Fr none).round=none:=rfl;rw [e5,e4,Oper.uponIn_defer];subst hd;exact hn _ _ _ h
     ·exact h.elim
    ·exact h.elim
   ·exact h.elim
  ·exact h.elim
 ·rename_i hn1 hn2
  rw [Oper.semAt_eq _ _ _ (fun c e=>hn2 c e)]
  rcases qvf h with (⟨v,w',h1,h2⟩|⟨w',h1,h2⟩)|⟨f,args,h1,h2⟩
  ·rw [h1];exact hn0 _ _ h2
  ·rw [h1];exact hn0 _ _ h2
  ·rw [h1,Oper.uponIn_enter];refine ⟨fun h=>by simp [Fr] at h,qc7.2 (h2.mono fun e w' ⟨v,he,hk⟩=>?_)⟩;subst he;exact hn0 _ _ hk
end
def runW (P:Program) (n:Nat) (r:Option Nat) (o:Oper) (K:(Nat→Value)→List Deferred→World→Prop) (ρ:Nat→Value) (ds:List Deferred) (w:World):Prop:=
 opW P r o ρ ds w fun v ds' w'=>putV n o.dst ρ v fun ρ'=>K ρ' ds' w'
def qxs (n:Nat) (o:Oper) (K:(Nat→Value)→List Deferred→World→Prop) (ρ:Nat→Value) (ds:List Deferred) (w:World):Prop:=
 putV n o.dst ρ undef fun ρ'=>K ρ' ds w
def regW (P:Program) (n:Nat) (r:Option Nat) (ops:List Oper) (Q:(Nat→Value)→List Deferred→World→Prop):List Oper→(Nat→Value)→List Deferred→World→Prop
 | [],ρ,ds,w=>Q ρ ds w
 | o::rest,ρ,ds,w=>
  match o.guard with
  | none=>runW P n r o (regW P n r ops Q rest) ρ ds w
  | some (j,want)=>
   match getL ops j with
   | none=>qxs n o (regW P n r ops Q rest) ρ ds w
   | some oj=>match oj.dst with
    | none=>qxs n o (regW P n r ops Q rest) ρ ds w
    | some d=>bif Nat.blt d n then
      match ρ d with
      | .bool b=>Tst b
        (match want with
         | true=>runW P n r o (regW P n r ops Q rest) (upd ρ d (.bool true)) ds w
         | false=>qxs n o (regW P n r ops Q rest) (upd ρ d (.bool true)) ds w)
        (match want with
         | true=>qxs n o (regW P n r ops Q rest) (upd ρ d (.bool false)) ds w
         | false=>runW P n r o (regW P n r ops Q rest) (upd ρ d (.bool false)) ds w)
      | _=>qxs n o (regW P n r ops Q rest) ρ ds w
     else False
abbrev QW:=Exit→(Nat→Value)→List Deferred→World→Prop
def seqW (K:(Nat→Value)→List Deferred→World→Prop) (Q:QW):QW
 | .normal,ρ,ds,w=>K ρ ds w
 | .exit i,ρ,ds,w=>Q (.exit i) ρ ds w
 | .goto l,ρ,ds,w=>Q (.goto l) ρ ds w
 | .ret,ρ,ds,w=>Q .ret ρ ds w
 | .panic c,ρ,ds,w=>Q (.panic c) ρ ds w
 | .outgrown,ρ,ds,w=>Q .outgrown ρ ds w
def qud (id:Nat) (Q:QW):QW
 | .normal,ρ,ds,w=>Q .normal ρ ds w
 | .exit i,ρ,ds,w=>bif Nat.beq i id then Q .normal ρ ds w else Q (.exit i) ρ ds w
 | .goto l,ρ,ds,w=>Q (.goto l) ρ ds w
 | .ret,ρ,ds,w=>Q .ret ρ ds w
 | .panic c,ρ,ds,w=>Q (.panic c) ρ ds w
 | .outgrown,ρ,ds,w=>Q .outgrown ρ ds w
def qig (n:Nat) (Q:QW):Exit→Act→World→Prop:=fun e a w=>∃ ρ,Sw n ρ a∧Q e ρ a.defers w
structure LoopW (P:Program) (n:Nat) (r:Option Nat) (body:Code) (Q:QW) (ρ:Nat→Value) (ds:List Deferred) (w:World):Prop where
 h:∀ a,Sw n ρ a→a.defers=ds→(Code.loop body).wpIn (Fr r) 0 P (qig n Q) a w
structure DrawW (P:Program) (n:Nat) (r:Option Nat) (id:Nat) (ops:Array Oper) (Q:QW) (ρ:Nat→Value) (ds:List Deferred) (w:World):Prop where
 h:∀ a,Sw n ρ a→a.defers=ds→(Code.region id ops true).wpIn (Fr r) 0 P (qig n Q) a w
structure ScopeW (P:Program) (n:Nat) (r:Option Nat) (c:Code) (Q:QW) (ρ:Nat→Value) (ds:List Deferred) (w:World):Prop where
 h:∀ a,Sw n ρ a→a.defers=ds→(Code.scope c).wpIn (Fr r) 0 P (qig n Q) a w
structure RangeW (P:Program) (n:Nat) (r:Option Nat) (f:Operand) (ps:Array Tmp) (assign body:Code) (Q:QW) (ρ:Nat→Value) (ds:List Deferred) (w:World):Prop where
 h:∀ a,Sw n ρ a→a.defers=ds→(Code.rangeFunc f ps assign body).wpIn (Fr r) 0 P (qig n Q) a w
def qgs (P:Program) (n:Nat) (r:Option Nat):Code→QW→(Nat→Value)→List Deferred→World→Prop
 | .skip,Q,ρ,ds,w=>Q .normal ρ ds w
 | .region id ops draw,Q,ρ,ds,w=>
  match draw with
  | false=>regW P n r ops.toList (Q .normal) ops.toList ρ ds w
  | true=>DrawW P n r id ops Q ρ ds w
 | .seq a b,Q,ρ,ds,w=>qgs P n r a (seqW (qgs P n r b Q) Q) ρ ds w
 | .cond c t e,Q,ρ,ds,w=>
  match ev ρ c with
  | .bool b=>Tst b (qgs P n r t Q ρ ds w) (qgs P n r e Q ρ ds w)
  | _=>False
 | .block id c,Q,ρ,ds,w=>qgs P n r c (qud id Q) ρ ds w
 | .loop c,Q,ρ,ds,w=>LoopW P n r c Q ρ ds w
 | .exit id,Q,ρ,ds,w=>Q (.exit id) ρ ds w
 | .label _,Q,ρ,ds,w=>Q .normal ρ ds w
 | .ret,Q,ρ,ds,w=>Q .ret ρ ds w
 | .goto l,Q,ρ,ds,w=>Q (.goto l) ρ ds w
 | .scope c,Q,ρ,ds,w=>ScopeW P n r c Q ρ ds w
 | .rangeFunc f p a b,Q,ρ,ds,w=>RangeW P n r f p a b Q ρ ds w
 | .refuse _,_,_,_,_=>False
section
variable {P:Program} {n:Nat} {r:Option Nat}
theorem Sw.yield {ρ:Nat→Value} {a:Act} (ha:Sw n ρ a) {ops:List Oper} {j d:Nat} {oj:Oper} (hj:getL ops j=some oj) (hd:oj.dst=some d) (hn:d<n) :
  yielded ops.toArray a.tmps j=match ρ d with | .bool b=>some b|_=>none:=St.yield ha hj hd hn
theorem qs4 {o:Oper} {ops:Array Oper} {ρ:Nat→Value} {ds:List Deferred} {w:World} {K:(Nat→Value)→List Deferred→World→Prop} {a:Act} {rest:List Oper} {Q':Exit→Act→World→Prop}
  (hg:Region.wanted o (yielded ops a.tmps)=true) (ha:Sw n ρ a) (hd:a.defers=ds) (h:runW P n r o K ρ ds w)
  (hk:∀ ρ' ds' a' w',Sw n ρ' a'→a'.defers=ds'→K ρ' ds' w'→wpListIn (Fr r) 0 P ops Q' rest a' w') :
  wpListIn (Fr r) 0 P ops Q' (o::rest) a w:=by
 unfold wpListIn;rw [if_pos hg];refine qadm ha hd h fun v ds' w' hp=>?_;obtain ⟨ρ',h1,h2,h3⟩:=ha.put ds' hp;exact hk _ _ _ _ h1 h2 h3
theorem qho {o:Oper} {ops:Array Oper} {ρ:Nat→Value} {ds:List Deferred} {w:World} {K:(Nat→Value)→List Deferred→World→Prop} {a:Act} {rest:List Oper} {Q':Exit→Act→World→Prop}
  (hg:Region.wanted o (yielded ops a.tmps)=false) (ha:Sw n ρ a) (hd:a.defers=ds) (h:qxs n o K ρ ds w)
  (hk:∀ ρ' ds' a' w',Sw n ρ' a'→a'.defers=ds'→K ρ' ds' w'→wpListIn (Fr r) 0 P ops Q' rest a' w') :
  wpListIn (Fr r) 0 P ops Q' (o::rest) a w:=by
 unfold wpListIn;rw [if_neg (by rw [hg];simp)];refine ⟨fun _ _=>trivial,?_⟩;obtain ⟨ρ',h1,h2,h3⟩:=ha.put ds h;have e:({ a with defers:=ds }:Act)=a:=by subst hd;rfl
 rw [e] at h1 h2;exact hk _ _ _ _ h1 h2 h3
theorem qaao {ops:List Oper} {Q:(Nat→Value)→List Deferred→World→Prop} {Q':Exit→Act→World→Prop} (hQ:∀ ρ ds a w,Sw n ρ a→a.defers=ds→Q ρ ds w→Q' .normal a w) (l:List Oper) :
  ∀ (ρ:Nat→Value) (ds:List Deferred) (a:Act) (w:World),Sw n ρ a→a.defers=ds→regW P n r ops Q l ρ ds w→wpListIn (Fr r) 0 P ops.toArray Q' l a w:=by
 induction l with
 | nil=>intro ρ ds a w ha hd h;exact hQ _ _ _ _ ha hd h
 | cons o rest ih=>
  intro ρ ds a w ha hd h;unfold regW at h;have ih':∀ ρ' ds' a' w',Sw n ρ' a'→a'.defers=ds'→regW P n r ops Q rest ρ' ds' w'→wpListIn (Fr r) 0 P ops.toArray Q' rest a' w':=fun ρ' ds' a' w'=>ih ρ' ds' a' w'
  split at h
  ·rename_i hg
   exact qs4 (by simp [Region.wanted,hg]) ha hd h ih'
  ·rename_i j want hg
   split at h
   ·rename_i hj
    rw [qo] at hj;refine qho ?_ ha hd h ih';have:ops.toArray[j]?=none:=by simpa using hj
    simp [Region.wanted,hg,yielded,this]
   ·rename_i oj hj
    split at h
    ·rename_i hdd
     refine qho ?_ ha hd h ih';have hj2:=hj;rw [qo] at hj2;have:ops.toArray[j]?=some oj:=by simpa using hj2
     simp [Region.wanted,hg,yielded,this,hdd]
    ·rename_i d hdd
     cases hn:Nat.blt d n<;>rw [hn] at h
     ·exact h.elim
     ·have hn':d<n:=by simpa using hn
      have hy:=ha.yield hj hdd hn';simp only [cond_true] at h
      split at h
      ·rename_i b hb
       rw [hb] at hy;cases b
       ·have h:=h.f rfl;have ha':Sw n _ a:=St.same ha hb;cases want
        ·exact qs4 (by simp [Region.wanted,hg,hy]) ha' hd h ih'
        ·exact qho (by simp [Region.wanted,hg,hy]) ha' hd h ih'
       ·have h:=h.t rfl;have ha':Sw n _ a:=St.same ha hb;cases want
        ·exact qho (by simp [Region.wanted,hg,hy]) ha' hd h ih'
        ·exact qs4 (by simp [Region.wanted,hg,hy]) ha' hd h ih'
      ·rename_i hb
       refine qho ?_ ha hd h ih';have:yielded ops.toArray a.tmps j=none:=by
        rw [hy]
        split
        ·rename_i b hb';exact absurd hb' (hb b)
        ·rfl
       simp [Region.wanted,hg,this]
theorem q0l {K:(Nat→Value)→List Deferred→World→Prop} {Q:QW} {e:Exit} {a:Act} {w:World} (h:qig n (seqW K Q) e a w) :
  Exit.then (fun a w=>∃ ρ,Sw n ρ a∧K ρ a.defers w) (qig n Q) e a w:=by
 obtain ⟨ρ,h1,h2⟩:=h;cases e<;>exact ⟨ρ,h1,h2⟩
theorem qsf {id:Nat} {Q:QW} {e:Exit} {a:Act} {w:World} (h:qig n (qud id Q) e a w) :
  Exit.inBlock id (qig n Q) e a w:=by
 obtain ⟨ρ,h1,h2⟩:=h;cases e with
 | exit i=>
  by_cases hi:i=id
  ·have hb:Nat.beq i id=true:=by subst hi;simp
   simp only [qud,hb,cond_true] at h2;simp only [Exit.inBlock,hi,if_true];exact ⟨ρ,h1,h2⟩
  ·have hb:Nat.beq i id=false:=Bool.eq_false_iff.2 fun h=>hi (Nat.eq_of_beq_eq_true h)
   simp only [qud,hb,cond_false] at h2;simp only [Exit.inBlock,hi,if_false];exact ⟨ρ,h1,h2⟩
 | normal=>exact ⟨ρ,h1,h2⟩
 | goto l=>exact ⟨ρ,h1,h2⟩
 | ret=>exact ⟨ρ,h1,h2⟩
 | panic c=>exact ⟨ρ,h1,h2⟩
 | outgrown=>exact ⟨ρ,h1,h2⟩
theorem qeg (c:Code):∀ (Q:QW) (ρ:Nat→Value) (ds:List Deferred) (w:World),qgs P n r c Q ρ ds w→∀ a,Sw n ρ a→a.defers=ds→c.wpIn (Fr r) 0 P (qig n Q) a w:=by
 induction c with
 | skip=>intro Q ρ ds w h a ha hd;subst hd;exact Go.wpIn_skip ⟨ρ,ha,h⟩
 | region id ops draw=>
  intro Q ρ ds w h a ha hd;cases draw
  ·refine wpIn_region_list ?_;have:=qaao (Q':=qig n Q) (fun ρ ds a w ha hd h=>by subst hd;exact ⟨ρ,ha,h⟩) ops.toList ρ ds a w ha hd h
   simpa using this
  ·exact h.h a ha hd
 | seq x y hx hy=>
  intro Q ρ ds w h a ha hd;refine Go.wpIn_seq (Go.wpIn_mono (hx _ _ _ _ h a ha hd) fun e a w h=>?_);have:=q0l h;cases e with
  | normal=>obtain ⟨ρ',h1,h2⟩:=this;exact hy _ _ _ _ h2 _ h1 rfl
  | exit i=>exact this
  | goto l=>exact this
  | ret=>exact this
  | panic c=>exact this
  | outgrown=>exact this
 | cond c t e ht he=>
  intro Q ρ ds w h a ha hd;unfold qgs at h
  split at h
  ·rename_i b hb
   refine Go.wpIn_cond_split (t:=b) (by rw [ha.eval,hb]) (fun e=>ht _ _ _ _ (h.t e) a ha hd) (fun e=>he _ _ _ _ (h.f e) a ha hd)
  ·exact h.elim
 | block id c hc=>
  intro Q ρ ds w h a ha hd;exact Go.wpIn_block (Go.wpIn_mono (hc _ _ _ _ h a ha hd) fun e a w h=>qsf h)
 | loop c hc=>intro Q ρ ds w h a ha hd;exact h.h a ha hd
 | rangeFunc f p x b hx hb=>intro Q ρ ds w h a ha hd;exact h.h a ha hd
 | exit id=>intro Q ρ ds w h a ha hd;subst hd;exact Go.wpIn_exit ⟨ρ,ha,h⟩
 | scope c hc=>intro Q ρ ds w h a ha hd;exact h.h a ha hd
 | label l=>intro Q ρ ds w h a ha hd;subst hd;exact Go.wpIn_label ⟨ρ,ha,h⟩
 | goto l=>intro Q ρ ds w h a ha hd;subst hd;exact Go.wpIn_goto ⟨ρ,ha,h⟩
 | ret=>intro Q ρ ds w h a ha hd;subst hd;exact Go.wpIn_ret ⟨ρ,ha,h⟩
 | refuse why=>intro Q ρ ds w h a ha hd;exact h.elim
theorem DrawW.of {id:Nat} {ops:Array Oper} {Q:QW} {ρ:Nat→Value} {w:World} (h:DrawV P n id ops (fun e ρ' w'=>Q e ρ' [] w') ρ w):DrawW P n none id ops Q ρ [] w:=by
 refine ⟨fun a ha hd=>?_⟩;have:=h.h a (ha.st hd);show (Code.region id ops true).wpIn Fence.wide 0 P _ a w;refine wpIn_wide.2 (Go.wp_mono this fun e a w ⟨ρ',h1,h2⟩=>⟨ρ',h1.sw,?_⟩);rw [h1.defers];exact h2
theorem qwu {α:Type} (l:α→List (Nat × Value)) (I:α→World→Prop) (μ:α→Nat) {body:Code} {Q:QW} {ρ:Nat→Value} {ds:List Deferred} {w:World} (x0:α)
  (h0:qj0 (l x0) ρ) (hI:I x0 w)
  (hr:∀ x w ρ',I x w→qgs P n r body (seqW (fun ρ'' ds'' w'=>ds''=ds∧∃ x',qj0 (l x') ρ''∧I x' w'∧μ x'<μ x) Q) (over (l x) ρ') ds w):LoopW P n r body Q ρ ds w:=by
 refine ⟨fun a ha hd=>?_⟩;intro b k cs hro hb hroom;have key:∀ m x,μ x=m→∀ ρ a w,qj0 (l x) ρ→Sw n ρ a→a.defers=ds→I x w→
   ∃ e a' w',qig n Q e a' w'∧ArrivesIn (Machine.fenced P (Fr r)) P (lone (b.atR a (.code body::.inLoop body::k)) cs w) b k cs e a' w':=by
  intro m
  induction m using Nat.strongRecOn with
  | _ m ih=>
   intro x hm ρ a w hag hst hds hI;have h1:=hr x w ρ hI;rw [qkq hag] at h1;obtain ⟨e,a₁,w₁,hq,harr⟩:=qeg body _ _ _ _ h1 a hst hds b (.inLoop body::k) cs hro hb hroom;obtain ⟨ρ₁,hst₁,hq⟩:=hq;cases e with
   | normal=>
    obtain ⟨hds',x',hag',hI',hlt⟩:=hq;obtain ⟨e₂,a₂,w₂,hq₂,harr₂⟩:=ih (μ x') (hm ▸ hlt) x' rfl ρ₁ a₁ w₁ hag' hst₁ hds' hI';exact ⟨e₂,a₂,w₂,hq₂,.of_steps (StepsIn.trans harr (.one (fenced_calm hb hroom rfl) stepR_inLoop)) harr₂⟩
   | exit id=>exact ⟨_,a₁,w₁,⟨ρ₁,hst₁,hq⟩,.pass (x:=.inLoop body) rfl (fun _ _=>.inl Js) harr⟩
   | goto l=>exact ⟨_,a₁,w₁,⟨ρ₁,hst₁,hq⟩,.pass (x:=.inLoop body) rfl (fun _ _=>.inl Js) harr⟩
   | ret=>exact ⟨_,a₁,w₁,⟨ρ₁,hst₁,hq⟩,.pass (x:=.inLoop body) rfl (fun _ _=>.inl Js) harr⟩
   | panic ch=>exact ⟨_,a₁,w₁,⟨ρ₁,hst₁,hq⟩,.pass (x:=.inLoop body) rfl (fun _ _=>.inl Js) harr⟩
   | outgrown=>exact ⟨_,a₁,w₁,⟨ρ₁,hst₁,hq⟩,.pass (x:=.inLoop body) rfl (fun _ _=>.inl Js) harr⟩
 obtain ⟨e,a',w',hq,harr⟩:=key _ x0 rfl ρ a w h0 ha hd hI;exact ⟨e,a',w',hq,.of_steps (.one (fenced_calm hb hroom rfl) stepR_loop) harr⟩
structure LeaveV (P:Program) (n:Nat) (fn:Func) (R:Value→World→Prop) (ρ:Nat→Value) (ds:List Deferred) (w:World):Prop where
 h:∀ a,Sw n ρ a→LeavesInM (Fr none) 0 P fn a.tmps (fun e w'=>∃ v,e=.returned v∧R v w') ds .returning w
def qkh (P:Program) (n:Nat) (fn:Func) (R:Value→World→Prop) (ρ:Nat→Value) (ds:List Deferred) (w:World):Prop:=
 match ds with
 | []=>resV fn.results ρ w fn R P n
 | d::ds=>LeaveV P n fn R ρ (d::ds) w
theorem qg5 {fn:Func} {R:Value→World→Prop} {ρ:Nat→Value} {ds:List Deferred} {w:World} (h:qkh P n fn R ρ ds w) {a:Act} (ha:Sw n ρ a) :
  LeavesInM (Fr none) 0 P fn a.tmps (fun e w'=>∃ v,e=.returned v∧R v w') ds .returning w:=by
 cases ds with
 | nil=>
  obtain ⟨v,h1,h2⟩:=qk0 rfl ha h;exact ⟨v,h1,v,rfl,h2⟩
 | cons d ds=>exact h.h a ha
theorem LeaveV.mark {fn:Func} {R:Value→World→Prop} {ρ:Nat→Value} {D:Nat} {ds:List Deferred} {w:World} (h:w.heap[D]?=some (.deferred (some [])))
  (hk:∀ w',w'=setO w D (.deferred none)→qkh P n fn R ρ ds w'):LeaveV P n fn R ρ ({ target:=.collected D,args:=#[] }::ds) w:=
 ⟨fun a ha=>⟨by simp,.inl ⟨D,_,rfl,run_takeDeferred h,qg5 (hk _ rfl) ha⟩⟩⟩
def GvD (P:Program) (f:FuncId) (args:List Value) (w:World) (R:World→Prop):Prop:=
 qd5 P f=true∧CallsDIn (Fr none) 0 P f args.toArray .returning w fun e u' w'=>u'=.returning∧∃ v,e=.returned v∧R w'
theorem LeaveV.call {fn:Func} {R:Value→World→Prop} {ρ:Nat→Value} {g:FuncId} {vs:List Value} {ds:List Deferred} {w:World}
  (h:GvD P g vs w fun w'=>qkh P n fn R ρ ds w'):LeaveV P n fn R ρ ({ target:=.fn (.func g) #[],args:=vs.toArray }::ds) w:=by
 refine ⟨fun a ha=>⟨by simp,.inr ⟨fun h=>by simp [Fr] at h,.func g,#[],g,vs.toArray,rfl,?_,fun _ _=>trivial,?_⟩⟩⟩
 ·simp only [invoke,Array.append_empty];exact qcz h.1 _
 ·refine h.2.mono ?_;rintro e u' w' ⟨rfl,v,rfl,hk⟩;exact qg5 hk ha
def qaec (P:Program) (n:Nat) (fn:Func) (R:Value→World→Prop):QW
 | .normal,ρ,ds,w=>qkh P n fn R ρ ds w
 | .ret,ρ,ds,w=>qkh P n fn R ρ ds w
 | _,_,_,_=>False
theorem q7a {vs:List Value} {n:Nat} (hl:vs.length≤n):Sw n (ini vs) { tmps:=vs.toArray++Array.replicate (n-vs.toArray.size) undef,defers:=[] }:=by
 refine ⟨by simp;omega,fun t=>?_,rfl⟩;rw [q69,Array.getD_eq_getD_getElem?];simp only [Array.getElem?_append,List.size_toArray]
 split
 ·simp
 ·rename_i ht
  rw [List.getElem?_eq_none Oo];simp only [Array.getElem?_replicate]
  split<;>rfl
theorem gvW {f:FuncId} {fn:Func} {c:Code} {vs:List Value} {w:World} {R:Value→World→Prop} (he:qd5 P f=true) (hf:P.funcs[f]?=some fn) (hb:fn.body=some c) (hn:fn.ntmps=n)
  (hl:Nat.ble vs.length n=true) (h:qgs P n none c (qaec P n fn R) (ini vs) [] w):Gv P f vs w R:=by
 have hl':vs.length≤n:=by simpa using hl
 refine ⟨he,qc7 (r:=none) (m:=0) |>.1 (callsIn_of_wp_marks hf hb trivial (Go.wpIn_mono (qeg c _ _ _ _ h _ (by rw [hn];exact q7a hl') rfl) fun e a w hq=>?_))⟩;obtain ⟨ρ,hst,hq⟩:=hq;cases e with
 | normal=>exact qg5 hq hst
 | ret=>exact qg5 hq hst
 | exit i=>exact hq.elim
 | goto i=>exact hq.elim
 | panic i=>exact hq.elim
 | outgrown=>exact hq.elim
theorem gvD {f:FuncId} {fn:Func} {c:Code} {vs:List Value} {w:World} {R:World→Prop} (he:qd5 P f=true) (hf:P.funcs[f]?=some fn) (hb:fn.body=some c) (hn:fn.ntmps=n)
  (hl:Nat.ble vs.length n=true) (h:qh2 P n c (q3r P n fn (fun _ w'=>R w')) (ini vs) w):GvD P f vs w R:=by
 have hl':vs.length≤n:=by simpa using hl
 have h1:c.wpIn (Fr none) 0 P (bodyPost P fn fun e w'=>∃ v,e=.returned v∧R w') { tmps:=vs.toArray++Array.replicate (fn.ntmps-vs.toArray.size) undef,defers:=[] } w:=by
  refine wpIn_wide.2 (Go.wp_mono (qjj c _ _ _ h _ (by rw [hn];exact (q7a hl').st rfl)) fun e a w hq=>?_);obtain ⟨ρ,hst,hq⟩:=hq;cases e with
  | normal=>
   obtain ⟨v,h1,h2⟩:=qk0 rfl hst hq;exact ⟨hst.defers,v,h1,v,rfl,h2⟩
  | ret=>
   obtain ⟨v,h1,h2⟩:=qk0 rfl hst hq;exact ⟨hst.defers,v,h1,v,rfl,h2⟩
  | exit i=>exact hq.elim
  | goto i=>exact hq.elim
  | panic i=>exact hq.elim
  | outgrown=>exact hq.elim
 exact ⟨he,callsDIn_of_wp hf hb trivial h1⟩
theorem GvD.mono {f:FuncId} {vs:List Value} {w:World} {R R':World→Prop} (h:GvD P f vs w R) (hr:∀ w',R w'→R' w'):GvD P f vs w R':=
 ⟨h.1,h.2.mono fun _ _ _ ⟨hu,v,he,hv⟩=>⟨hu,v,he,hr _ hv⟩⟩
structure Carr (J:List (Nat × Obj)→World→Prop):Prop where
 ext:∀ {X w w'},J X w→Ext w w'→J X w'
 get:∀ {X w} {b:Nat} {o:Obj},J X w→(b,o)∈X→w.heap[b]?=some o
 new:∀ {X w} (o:Obj),J X w→J ((w.heap.size,o)::X) (w.alloc o)
 set:∀ {X w} {b:Nat} {o:Obj} (o':Obj),J ((b,o)::X) w→J ((b,o')::X) (setO w b o')
 drop:∀ {X w} {x:Nat × Obj},J (x::X) w→J X w
 perm:∀ {X Y w},J X w→X.Perm Y→J Y w
theorem Carr.tail {J:List (Nat × Obj)→World→Prop} (h:Carr J) (L:List (Nat × Obj)):Carr fun X w=>J (X++L) w:=
 ⟨h.ext,fun k hx=>h.get k (List.mem_append_left _ hx),fun o k=>h.new o k,fun o' k=>h.set o' k,h.drop,fun k hp=>h.perm k (hp.append_right L)⟩
theorem Carr.any {α:Type} {J:α→List (Nat × Obj)→World→Prop} (h:∀ c,Carr (J c)):Carr fun X w=>∃ c,J c X w:=
 ⟨fun ⟨c,k⟩ he=>⟨c,(h c).ext k he⟩,fun ⟨c,k⟩ hx=>(h c).get k hx,fun o ⟨c,k⟩=>⟨c,(h c).new o k⟩,fun o' ⟨c,k⟩=>⟨c,(h c).set o' k⟩,fun ⟨c,k⟩=>⟨c,(h c).drop k⟩,fun ⟨c,k⟩ hp=>⟨c,(h c).perm k hp⟩⟩
def SeqV (P:Program) (gf:FuncId) (lb:List Value) (xs:List (List Value)) (Φ:World→Prop):Prop:=
 ∀ (l:Nat) (I Ix:Nat→World→Prop) (w:World),(∀ k w,I k w→Φ w)→(∀ k w w',I k w→Ext w w'→I k w')→(∀ k w w',Ix k w→Ext w w'→Ix k w')→I 0 w→
  (∀ k x w,xs[k]?=some x→I k w→YieldV P l x w fun v w'=>(v=.bool true∧I (k+1) w')∨(v=.bool false∧Ix k w'))→
  Gv P gf (.func (.yield l) #[] #[]::lb) w fun _ w'=>I xs.length w'∨∃ k,k<xs.length∧Ix k w'
def SeqC (P:Program) (gf:FuncId) (lb:List Value) (xs:List (List Value)) (Φ:World→Prop):Prop:=
 ∀ (l:Nat) (I Ix:Nat→List (Nat × Obj)→World→Prop) (w:World),(∀ k,Carr (I k))→(∀ k,Carr (Ix k))→(∀ k X w,I k X w→Φ w)→I 0 [] w→
  (∀ k x X w,xs[k]?=some x→I k X w→YieldV P l x w fun v w'=>(v=.bool true∧I (k+1) X w')∨(v=.bool false∧Ix k X w'))→
  Gv P gf (.func (.yield l) #[] #[]::lb) w fun _ w'=>I xs.length [] w'∨∃ k,k<xs.length∧Ix k [] w'
theorem SeqV.toC {P:Program} {gf:FuncId} {lb:List Value} {xs:List (List Value)} {Φ:World→Prop} (h:SeqV P gf lb xs Φ):SeqC P gf lb xs Φ:=
 fun l I Ix w hI hIx hw h0 hy=>h l (fun k w=>I k [] w) (fun k w=>Ix k [] w) w (fun k w g=>hw k [] w g) (fun k _ _ g he=>(hI k).ext g he) (fun k _ _ g he=>(hIx k).ext g he) h0 fun k x w hx g=>hy k x [] w hx g
def qxq:List Tmp→List Value→(Nat→Value)→Nat→Value
 | p::ps,v::vs,ρ=>qxq ps vs (upd ρ p v)
 | _,_,ρ=>ρ
theorem qvr:∀ (ps:List Tmp) (vs:List Value) (ρ:Nat→Value) (t:Array Value),ps.all (Nat.blt · n)=true→St n ρ ⟨t,[]⟩→
  St n (qxq ps vs ρ) ⟨(ps.zip vs).foldl (fun t (p,v)=>t.setIfInBounds p v) t,[]⟩:=by
 intro ps
 induction ps with
 | nil=>intro vs ρ t _ h;exact h
 | cons p ps ih=>
  intro vs ρ t hp h;cases vs with
  | nil=>exact h
  | cons v vs=>
   simp only [List.all_cons,Bool.and_eq_true] at hp;exact ih vs _ _ hp.2 (h.put (by simpa using hp.1) v)
structure BeginV (w1 w2:World) (ds:List Deferred) (K:Prop):Prop where
 w:w2=w1
 d:ds=[]
 k:K
def qadi (K:(Nat→Value)→List Deferred→World→Prop):QW
 | .normal,ρ,ds,w=>K ρ ds w
 | _,_,_,_=>False
def q7r (J:World→Prop) (Jx:Code→World→Prop):QW
 | .normal,_,_,w=>J w
 | .ret,_,_,w=>Jx .ret w
 | .exit id,_,_,w=>Jx (.exit id) w
 | .goto t,_,_,w=>Jx (.goto t) w
 | _,_,_,_=>False
def qadz (c:Code) (Q:QW) (ρ:Nat→Value) (ds:List Deferred) (w:World):Prop:=
 match c with
 | .ret=>Q .ret ρ ds w
 | .exit id=>Q (.exit id) ρ ds w
 | .goto t=>Q (.goto t) ρ ds w
 | _=>False
theorem qvj {f:Operand} {ps:Array Tmp} {assign body:Code} {Q:QW} {ρ:Nat→Value} {ds:List Deferred} {w:World} {Φ:World→Prop} {gf:FuncId} {lb:List Value} {xs:List (List Value)}
  (hf:ev ρ f=.func (.func gf) #[] lb.toArray) (he:qd5 P gf=true) (hseq:SeqC P gf lb xs Φ) (hpn:ps.toList.all (Nat.blt · n)=true) (hps:∀ x∈xs,x.length=ps.size)
  (J:Nat→List (Nat × Obj)→World→Prop) (Jx:Code→Nat→List (Nat × Obj)→World→Prop) (hJ:∀ k,Carr (J k)) (hJx:∀ c k,Carr (Jx c k)) (hw:∀ k X w,J k X w→Φ w) (h0:J 0 [] w)
  (hbody:∀ l D ob k x X w1 w2,xs[k]?=some x→J k ((l,ob)::(D,.deferred (some []))::X) w2→
   qgs P n (some l) assign (qadi fun ρ1 ds1 w1'=>BeginV w1 w1' ds1
    (qgs P n (some l) body (q7r (J (k+1) ((l,ob)::(D,.deferred (some []))::X)) (fun c=>Jx c k ((l,ob)::(D,.deferred (some []))::X))) ρ1 [] w2)) (qxq ps.toList x ρ) [] w1)
  (hdone:∀ D w',J xs.length [(D,.deferred (some []))] w'→Q .normal ρ ({ target:=.collected D,args:=#[] }::ds) w')
  (hstop:∀ D c k w',k<xs.length→Jx c k [(D,.deferred (some []))] w'→qadz c Q ρ ({ target:=.collected D,args:=#[] }::ds) w'):RangeW P n none f ps assign body Q ρ ds w:=by
 refine ⟨fun a ha hd=>?_⟩;subst hd;refine wpIn_rangeFunc ?_;intro fn hfn;obtain ⟨rec,hrec⟩:∃ rec:LoopState→Option Code→Loop,rec=fun st pe=>{ state:=st,pending:=pe,fn,tmps:=a.tmps,params:=ps,assign,body,defers:=w.heap.size }:=⟨_,rfl⟩
 obtain ⟨W1,hW1⟩:∃ W1,(w.alloc (.deferred (some []))).alloc (.loop (rec .ready none))=W1:=⟨_,rfl⟩
 have hD:=(hJ 0).new (.deferred (some [])) h0;have hL:=(hJ 0).new (.loop (rec .ready none)) hD;rw [hW1,World.size_alloc] at hL;refine ⟨w.heap.size+1,[{ target:=.collected w.heap.size,args:=#[] }],W1,{ target:=.fn (.func gf) lb.toArray,args:=#[.func (.yield (w.heap.size+1)) #[] #[]] },W1,gf,
  #[.func (.yield (w.heap.size+1)) #[] #[]]++lb.toArray,W1,?_,?_,fun _ _=>trivial,?_,fun h=>by simp [Fr] at h,?_⟩
 ·rw [← hW1,hrec];exact run_enterLoop_outer _ _ _ _ _
 ·have:a.eval f=.func (.func gf) #[] lb.toArray:=by rw [ha.eval,hf]
  simp only [resolve,this];simp [go_sem]
 ·simp only [invoke];exact qcz he _
 ·have ea:#[Value.func (.yield (w.heap.size+1)) #[] #[]]++lb.toArray=(Value.func (.yield (w.heap.size+1)) #[] #[]::lb).toArray:=by rw [← Array.toList_inj];simp
  rw [ea];refine qc7.2 ((hseq (w.heap.size+1) (fun k X W=>J k (X++[(w.heap.size+1,.loop (rec .ready none)),(w.heap.size,.deferred (some []))]) W)
   (fun k X W=>∃ c,Jx c k (X++[(w.heap.size+1,.loop (rec .done (some c))),(w.heap.size,.deferred (some []))]) W) W1
   (fun k=>(hJ k).tail _) (fun k=>Carr.any fun c=>(hJx c k).tail _) (fun k X W h=>hw _ _ _ h) hL ?_).2.mono ?_)
  ·intro k x X W hx hk;replace hk:=(hJ k).perm hk List.perm_append_comm;have hl:=(hJ k).get hk mh;have hy:=run_yield (P:=P) (args:=x.toArray) hl (by rw [hrec];simpa using hps x (zmg hx));rw [hrec] at hy;refine ⟨⟨fn,_,assign,body,hy,roundIn_of_wpIn hfn ?_⟩⟩;have h1:=hbody (w.heap.size+1) w.heap.size _ k x X W _ hx ((hJ k).set (.loop { rec .ready none with state:=.busy }) hk);have hz:(ps.zip x.toArray).foldl (fun t (p,v)=>t.setIfInBounds p v) a.tmps=(ps.toList.zip x).foldl (fun t (p,v)=>t.setIfInBounds p v) a.tmps:=by
    rw [← Array.foldl_toList];simp
   have hst:Sw n (qxq ps.toList x ρ) { tmps:=(ps.zip x.toArray).foldl (fun t (p,v)=>t.setIfInBounds p v) a.tmps,defers:=[] }:=by
    rw [hz];exact qvr _ _ _ _ hpn ha
   refine Go.wpIn_mono (F:=Fr (some (w.heap.size+1))) (qeg assign _ _ _ _ h1 _ hst rfl) fun e a1 w1 hq=>?_;obtain ⟨ρ1,hst1,hq⟩:=hq;cases e with
   | normal=>
    obtain ⟨hw1,hd1,hb1⟩:=hq;subst hw1;refine ⟨_,run_beginRound hl (by rw [hrec]),?_⟩;refine Go.wpIn_mono (F:=Fr (some (w.heap.size+1))) (qeg body _ _ _ _ hb1 _ hst1 hd1) fun e a2 w2 hq=>?_;obtain ⟨ρ2,hst2,hq⟩:=hq;cases e with
    | normal=>
     refine ⟨_,_,run_endRound none ((hJ _).get hq mh),_,rfl,.inl ⟨rfl,?_⟩⟩;have:=(hJ (k+1)).perm ((hJ (k+1)).set (.loop (rec .ready none)) hq) (List.perm_append_comm (l₁:=[_,_]));rw [hrec] at this ⊢;exact this
    | ret=>
     refine ⟨_,_,run_endRound (some .ret) ((hJx _ _).get hq mh),_,rfl,.inr ⟨rfl,.ret,?_⟩⟩;have:=(hJx _ k).perm ((hJx _ k).set (.loop (rec .done (some .ret))) hq) (List.perm_append_comm (l₁:=[_,_]));rw [hrec] at this ⊢;exact this
    | exit id=>
     refine ⟨_,_,run_endRound (some (.exit id)) ((hJx _ _).get hq mh),_,rfl,.inr ⟨rfl,.exit id,?_⟩⟩;have:=(hJx _ k).perm ((hJx _ k).set (.loop (rec .done (some (.exit id)))) hq) (List.perm_append_comm (l₁:=[_,_]));rw [hrec] at this ⊢;exact this
    | goto t=>
     refine ⟨_,_,run_endRound (some (.goto t)) ((hJx _ _).get hq mh),_,rfl,.inr ⟨rfl,.goto t,?_⟩⟩;have:=(hJx _ k).perm ((hJx _ k).set (.loop (rec .done (some (.goto t)))) hq) (List.perm_append_comm (l₁:=[_,_]));rw [hrec] at this ⊢;exact this
    | panic ch=>exact hq.elim
    | outgrown=>exact hq.elim
   | ret=>exact hq.elim
   | exit id=>exact hq.elim
   | goto t=>exact hq.elim
   | panic ch=>exact hq.elim
   | outgrown=>exact hq.elim
  ·rintro e W2 ⟨v,rfl,h|⟨k,hk,c,h⟩⟩
   ·have hl:=(hJ _).get h mh;have:=run_endLoop (P:=P) hl (by rw [hrec];simp);rw [hrec] at this;exact ⟨none,_,this,ρ,ha,hdone _ _ ((hJ _).drop ((hJ _).set _ h))⟩
   ·have hl:=(hJx _ _).get h mh;have:=run_endLoop (P:=P) hl (by rw [hrec];simp);rw [hrec] at this;refine ⟨some c,_,this,?_⟩;have hs:=hstop _ c k _ hk ((hJx _ _).drop ((hJx _ _).set (.loop { rec .done (some c) with state:=.exhausted }) h));rw [hrec] at hs;cases c with
    | ret=>exact Go.wpIn_ret ⟨ρ,ha,hs⟩
    | exit id=>exact Go.wpIn_exit ⟨ρ,ha,hs⟩
    | goto t=>exact Go.wpIn_goto ⟨ρ,ha,hs⟩
    | _=>exact hs.elim
theorem Mem.glue {a b c:World} {L M:List (Nat × Obj)} (h:Mem a b L) (k:Mem b c M):Mem a c (M++L):=by
 refine ⟨h.ext.trans k.ext,fun x hx=>?_,?_⟩
 ·rcases List.mem_append.1 hx with hx|hx
  ·exact ⟨Nat.le_trans h.ext.size (k.own x hx).1,(k.own x hx).2⟩
  ·exact ⟨(h.own x hx).1,k.ext.get (h.own x hx).2⟩
 ·rw [List.map_append,List.nodup_append];refine ⟨k.nodup,h.nodup,?_⟩;intro u hu v hv e;obtain ⟨x,hx,rfl⟩:=List.mem_map.1 hu;obtain ⟨y,hy,rfl⟩:=List.mem_map.1 hv;have h1:=(k.own x hx).1;have h2:=h.lt (b:=y.1) (o:=y.2) hy;omega
theorem Mem.glue2 {a b c:World} {L M:List (Nat × Obj)} (h:Mem a b L) (k:Mem b c M):Mem a c (L++M):=(h.glue k).perm List.perm_append_comm
theorem Carr.mem {σ:Type} {w0:World} (A:σ→Prop) (L:σ→List (Nat × Obj)):Carr fun X w=>∃ s,A s∧Mem w0 w (X++L s):=by
 refine ⟨?_,?_,?_,?_,?_,?_⟩
 ·rintro X w w' ⟨s,hs,hm⟩ he;exact ⟨s,hs,hm.call he⟩
 ·rintro X w b o ⟨s,hs,hm⟩ hx;exact hm.get (List.mem_append_left _ hx)
 ·rintro X w o ⟨s,hs,hm⟩;exact ⟨s,hs,hm.new rfl rfl⟩
 ·rintro X w b o o' ⟨s,hs,hm⟩;exact ⟨s,hs,hm.setO (i:=0) o' rfl rfl⟩
 ·rintro X w x ⟨s,hs,hm⟩;exact ⟨s,hs,hm.sub (List.sublist_cons_self ..)⟩
 ·rintro X Y w ⟨s,hs,hm⟩ hp;exact ⟨s,hs,hm.perm (hp.symm.append_right _)⟩
end
end V
open Go.RowKit V
set_option maxRecDepth 100000
def bSt (E:LB) (p:Nat):Nat→LB × Nat
 | 0=>([],p)
 | j+1=>((blk E p j).1,(blk E p j).2.1)
theorem qacd {E:LB} {p:Nat}:∀ {j:Nat},(∀ i,i<j→(blk E p i).2.2=0)→blk E p j=qcb E (bSt E p j).2 (decide (j=0)) (bSt E p j).1
 | 0,_=>rfl
 | j+1,h=>by
  rw [blk,if_neg (by rw [h j Oo];simp)];rfl
def bRow (m:LB) (k j:Nat):List Value:=[ii (16*k+j:Nat),.string ⟨(blk (qa m) (q6 m k) j).1.toArray⟩]
structure BEnd (m:LB) (k n:Nat):Prop where
 ok:∀ j,j<n→16*k+j<dN m∧(blk (qa m) (q6 m k) j).2.2=0
 le:n≤16
 stop:n<16→16*k+n<dN m→(blk (qa m) (q6 m k) n).2.2≠0
theorem BEnd.ex (m:LB) (k:Nat):∃ n,BEnd m k n:=by
 have:∀ d j,j+d=16→(∀ i,i<j→16*k+i<dN m∧(blk (qa m) (q6 m k) i).2.2=0)→∃ n,BEnd m k n:=by
  intro d
  induction d with
  | zero=>intro j hj h;exact ⟨j,h,by omega,fun h=>by omega⟩
  | succ d ih=>
   intro j hj h
   by_cases hg:16*k+j<dN m∧(blk (qa m) (q6 m k) j).2.2=0
   ·refine ih (j+1) Oo fun i hi=>?_
    by_cases e:i=j
    ·subst e;exact hg
    ·exact h i Oo
   ·exact ⟨j,h,by omega,fun _ h1 h2=>hg ⟨h1,h2⟩⟩
 exact this 16 0 rfl fun i h=>by omega
theorem qp0 {w:World} {b:Nat} {m:LB} (h:DictAt w b m) (k:Nat):q6 m k≤134217728:=by
 have:=qlf (qr m) (k*dW m) (dW m) h.width;unfold q6;omega
theorem qacb {m:LB} {k n j:Nat} (h:BEnd m k n) (hj:j≤n) (hE:(qa m).length≤67108864) (hp:q6 m k≤134217728) :
  (bSt (qa m) (q6 m k) j).1.length≤262144∧(bSt (qa m) (q6 m k) j).2≤134217728:=by
 cases j with
 | zero=>exact ⟨by simp [bSt],hp⟩
 | succ j=>
  have:=q6w (h.ok j Oo).2;exact ⟨this.1,by have:=this.2;simp only [bSt];omega⟩
def BlkΦ (b:Nat) (m:LB) (k b1 b2:Nat) (w:World):Prop:=DictAt w b m∧w.cell? ⟨b1,0,none⟩=some (pp b)∧w.cell? ⟨b2,0,none⟩=some (ii k)
theorem qj2 (b:Nat) (m:LB) (k n b1 b2:Nat) (hk:k<upN (dN m) 16) (hn:BEnd m k n) :
  SeqV Tryz.prog 207 [pp b1,pp b2] ((List.range n).map (bRow m k)) (BlkΦ b m k b1 b2):=by
 intro l I Ix w hI sI sIx h0 hy;obtain ⟨h,h1,h2⟩:=hI 0 w h0;have hub:upN (dN m) 16≤4194304:=Nat.le_trans (qaq _ _ Od) h.n;have hEl:(qa m).length≤67108864:=by rw [h.entries];exact h.size
 have hpl:=qp0 h k;refine gvW Jk Tryz.func207 rfl Tryz.ntmps207 rfl (zw ?_);refine LoadV.of h1 (zw ?_);refine LoadV.of h2 (zw ?_);refine zcv (qkx b m k w h hk) ?_;rintro v w' ⟨rfl,rfl⟩;(conv=>whnf);refine LoadV.of h2 (zu ?_);refine qwu (fun j:Nat=>[(0,.func (.yield l) #[] #[]),(1,pp b1),(2,pp b2),(4,ii (bSt (qa m) (q6 m k) j).2),(5,.string ⟨(bSt (qa m) (q6 m k) j).1.toArray⟩),(6,ii ((k:Int)*16+j))])
  (fun j w'=>j≤n∧I j w') (fun j=>n-j) 0 ⟨rfl,rfl,rfl,rfl,rfl,by show ii _=ii _;congr 1,trivial⟩ ⟨by omega,h0⟩ ?_
 rintro j w1 ρ' ⟨hj,hIj⟩;obtain ⟨hD1,hc1,hc2⟩:=hI j w1 hIj;obtain ⟨hs1,hs2⟩:=qacb hn hj hEl hpl;have hb:=fun hg:∀ i,i<j→(blk (qa m) (q6 m k) i).2.2=0=>qacd hg
 have hb:=hb fun i hi=>(hn.ok i Oo).2
 have hle:=hn.le;(conv=>whnf);refine LoadV.of hc1 (zw ?_);obtain ⟨⟨P,cp,E,ce,hd1,_,_,_⟩,_⟩:=id hD1;refine LoadV.own hd1 rfl ?_;have hxs:((List.range n).map (bRow m k)).length=n:=by simp
 have hend:j=n→I ((List.range n).map (bRow m k)).length w1:=fun e=>by rw [hxs,← e];exact hIj
 (conv=>whnf);refine zC (fun _=>zu ?_) (fun _=>zu ?_)
 ·refine LoadV.of hc2 (zw ?_);refine zt ?_;refine zC (fun _=>zw ?_) (fun _=>zw ?_)
  ·refine LoadV.of hc1 (zw ?_);have e16:decide (((k:Int)*16+(j:Int))%16=0)=decide (j=0):=decide_eq_decide.2 Oo;refine Obl.mk ⟨by omega,by omega⟩ (zw ?_);rw [e16];refine zcv (qka b m (bSt (qa m) (q6 m k) j).2 (decide (j=0)) ⟨(bSt (qa m) (q6 m k) j).1.toArray⟩ w1 hD1 Oo (by show (bSt (qa m) (q6 m k) j).1.length≤_;omega)) ?_;rintro v w2 ⟨rfl,he2⟩;have hb':qcb (qa m) (bSt (qa m) (q6 m k) j).2 (decide (j=0)) (⟨(bSt (qa m) (q6 m k) j).1.toArray⟩:ByteArray).data.toList=blk (qa m) (q6 m k) j:=hb.symm;rw [hb'];obtain ⟨x,ex⟩:∃ x,x=blk (qa m) (q6 m k) j:=⟨_,rfl⟩
   have hok:=hn.ok j;have hst:=hn.stop;rw [← ex] at hok ⊢;conv=>whnf
   by_cases hx0:x.2.2=0
   ·have hjn:j<n:=by
     refine Decidable.byContradiction fun hc=>?_;obtain rfl:j=n:=by omega
     exact hst Oo Oo (by rw [← ex];exact hx0)
    refine zv ?_;refine YieldV.mono (hy j [ii ((k:Int)*16+j),.string ⟨x.1.toArray⟩] w2 ?_ (sI _ _ _ hIj he2)) ?_
    ·rw [List.getElem?_map,List.getElem?_range hjn,Option.map_some,bRow,← ex]
     congr 3
     omega
    rintro v w3 (⟨rfl,hI3⟩|⟨rfl,hX⟩)
    ·refine zu ?_;refine ⟨rfl,j+1,⟨rfl,rfl,rfl,?_,?_,?_,trivial⟩,⟨by omega,hI3⟩,by omega⟩
     ·simp only [bSt,← ex];rfl
     ·simp only [bSt,← ex];rfl
     ·show ii _=ii _
      congr 1
    ·refine zu ?_;exact .inr ⟨j,by rw [hxs];exact hjn,hX⟩
   ·have hjn:j=n:=by
     refine Decidable.byContradiction fun hc=>?_;exact hx0 (hok Oo).2
    refine zv ?_;exact .inl (sI _ _ _ (hend hjn) he2)
  ·have hjn:j=n:=by omega
   exact .inl (hend hjn)
 ·have hjn:j=n:=by
   refine Decidable.byContradiction fun hc=>?_;have:=(hn.ok j Oo).1;omega
  exact .inl (hend hjn)
theorem qyn (b k:Nat) (w:World):Gv Tryz.prog 168 [pp b,ii k] w fun r w'=>
  (∃ b1 b2,r=.func (.func 207) #[] #[pp b1,pp b2]∧w'.cell? ⟨b1,0,none⟩=some (pp b)∧w'.cell? ⟨b2,0,none⟩=some (ii k))∧Ext w w':=by
 refine ze Tryz.func168 Tryz.ntmps168 ?_;refine znm (Mem.nil w) fun b1 w1 hm=>zw ?_;refine znm hm fun b2 w2 hm=>zw ?_;refine ⟨⟨b1,b2,rfl,?_,?_⟩,hm.ext⟩
 ·rw [qc (hm.get (zmc mh))];rfl
 ·rw [qc (hm.get mh)];rfl
def qh3 (m:LB) (i:Nat):Value:=
 match dGet m i with
 | some s=>.tuple #[.string ⟨s.toArray⟩,.bool true]
 | none=>.tuple #[.string ⟨#[]⟩,.bool false]
theorem qup (b:Nat) (m:LB) (i:Nat) (w:World) (h:DictAt w b m) (hi:i≤16777216) :
  Gv Tryz.prog 158 [pp b,ii i] w fun r w'=>r=qh3 m i∧Ext w w':=by
 refine gvW Jk Tryz.func158 rfl Tryz.ntmps158 rfl (zw ?_);refine znm (Mem.nil w) fun bi w1 hm=>zw ?_;refine znm hm fun bs w2 hm=>zw ?_;refine znm hm fun bb w3 hm=>zw ?_;refine DrawW.of ?_;obtain ⟨⟨P,cp,E,ce,hd1,_,_,_⟩,_⟩:=h.ext hm.ext;refine zy ?_;refine LoadV.mem (hm.drew) (i:=2) rfl rfl (zu ?_);refine LoadV.mem (hm.drew) (i:=2) rfl rfl (zu ?_);refine LoadV.own hd1 rfl (zw ?_);refine zt ?_;refine zC (fun _=>zw ?_) (fun _=>zw ?_)
 ·have hg:qh3 m i=.tuple #[.string ⟨#[]⟩,.bool false]:=by rw [qh3,dGet,if_neg Oo]
  rw [hg];refine StoreV.mem hm.drew (i:=1) rfl Js rfl fun w4 hm=>zw ?_;refine StoreV.mem hm (i:=0) rfl Js rfl fun w5 hm=>zw ?_;refine qj (R:=fun v w'=>v=.tuple #[.string ⟨#[]⟩,.bool false]∧Ext w w') (zw ?_);refine zr hm 1 ?_;refine zr hm 0 ?_;exact ⟨rfl,hm.ext⟩
 have hm:=hm.drew;refine zr hm 2 ?_;refine zv ?_;refine zcv (qyn b (i/16) w3.drew) ?_;rintro v w4 ⟨⟨b1,b2,rfl,hb1,hb2⟩,he4⟩;have hm:=hm.call he4;have hD4:=h.ext hm.ext;(conv=>whnf);obtain ⟨n,hn⟩:=BEnd.ex m (i/16);have hn16:=hn.le;have hki:i/16<upN (dN m) 16:=by unfold upN;omega
 have hlen:((List.range n).map (bRow m (i/16))).length=n:=by simp
 refine qvj (Φ:=BlkΦ b m (i/16) b1 b2) (lb:=[pp b1,pp b2]) (xs:=(List.range n).map (bRow m (i/16))) rfl Jk (qj2 b m (i/16) n b1 b2 hki hn).toC Od ?_
  (fun k X w'=>∃ _:Unit,k≤i%16∧Mem w4 w' (X++[]))
  (fun c k X w'=>∃ _:Unit,(c=.ret∧k=i%16)∧Mem w w' (X++[(bb,.cells #[.bool true] 4),(bs,.cells #[.string ⟨(blk (qa m) (q6 m (i/16)) (i%16)).1.toArray⟩] 9),(bi,.cells #[ii i] 3)]))
  (fun k=>Carr.mem _ _) (fun c k=>Carr.mem _ _) (fun k X w' ⟨_,_,hm⟩=>⟨hD4.ext hm.ext,hm.ext.cell hb1,hm.ext.cell hb2⟩) ⟨(),Nat.zero_le _,by simpa using Mem.nil w4⟩ ?_ ?_ ?_
 ·intro x hx;obtain ⟨j,_,rfl⟩:=List.mem_map.1 hx;rfl
 ·rintro l D ob k x X w5 w6 hx ⟨_,hk,hmJ⟩;have hkn:k<n:=by
   have:=(List.getElem?_eq_some_iff.1 hx).1
   rwa [hlen] at this
  rw [List.getElem?_map,List.getElem?_range hkn,Option.map_some,Option.some.injEq] at hx;subst hx;have hm:=hm.glue2 hmJ;(conv=>whnf);refine ⟨rfl,rfl,?_⟩;(conv=>whnf);refine zr hm 2 ?_;refine zC (fun _=>zw ?_) (fun _=>zw ?_)
  ·obtain rfl:k=i%16:=by omega
   refine StoreV.mem hm (i:=1) rfl Js rfl fun w7 hm=>zw ?_;refine StoreV.mem hm (i:=0) rfl Js rfl ?_;intro w8 hm;rw [List.append_nil] at hm;(conv=>whnf);exact ⟨(),⟨rfl,rfl⟩,hm.perm List.perm_append_comm⟩
  ·exact ⟨(),by omega,hmJ⟩
 ·rintro D w5 ⟨_,hk,hmJ⟩;rw [hlen] at hk;have hm:=hm.glue hmJ;have hg:qh3 m i=.tuple #[.string ⟨#[]⟩,.bool false]:=by
   have hst:=hn.stop;have hne:(blk (qa m) (q6 m (i/16)) (i%16)).2.2≠0:=by
    have h1:=hst Oo Oo;rw [q3p h1 (i:=i%16) Oo];exact h1
   rw [qh3,dGet,if_pos Oo,if_neg hne]
  rw [hg];(conv=>whnf);refine StoreV.mem hm (i:=2) rfl Js rfl fun w6 hm=>zw ?_;refine StoreV.mem hm (i:=1) rfl Js rfl fun w7 hm=>zw ?_;refine LeaveV.mark (hm.get mh) fun w8 hw=>?_;have hm:=hm.setO (i:=0) _ rfl hw;(conv=>whnf);refine qj (R:=fun v w'=>v=.tuple #[.string ⟨#[]⟩,.bool false]∧Ext w w') (zw ?_);refine zr hm 2 ?_;refine zr hm 1 ?_;exact ⟨rfl,hm.ext⟩
 ·rintro D c k w5 hkl ⟨_,⟨rfl,rfl⟩,hm⟩;rw [hlen] at hkl;have hg:qh3 m i=.tuple #[.string ⟨(blk (qa m) (q6 m (i/16)) (i%16)).1.toArray⟩,.bool true]:=by
   rw [qh3,dGet,if_pos Oo,if_pos (hn.ok _ hkl).2]
  rw [hg];(conv=>whnf);refine LeaveV.mark (hm.get mh) fun w8 hw=>?_;have hm:=hm.setO (i:=0) _ rfl hw;(conv=>whnf);refine qj (R:=fun v w'=>v=.tuple #[.string ⟨(blk (qa m) (q6 m (i/16)) (i%16)).1.toArray⟩,.bool true]∧Ext w w') (zw ?_);refine zr hm 2 ?_;refine zr hm 1 ?_;exact ⟨rfl,hm.ext⟩
namespace V
def byV (l:LB):List Value:=l.map fun c=>Value.int .u8 c.toNat
theorem qam (l:LB):(byV l).length=l.length:=by simp [byV]
section
variable {P:Program} {e:TypeId} {w0 w w':World} {a b c:Value} {x y z:LB}
theorem qbt {base size n:Nat} {v:Value} {xs:List Value} (h:w.ownsRow base e size v n xs):∃ A c,v=.slice A n c:=by
 rcases h.2 with ⟨rfl,rfl⟩|⟨g,cap,cur,rfl,_⟩
 ·exact ⟨_,_,rfl⟩
 ·exact ⟨_,_,rfl⟩
theorem qm0 {A:oA} {l:LB} (h:SlAt encB 1 w A l):byV l≠[]→∃ b off,A=some ⟨b,off,none⟩∧CellsAt w b off (byV l):=by
 intro hne;obtain ⟨b,off,h1,h2⟩:=h.at_ (by rintro rfl;exact hne rfl);refine ⟨b,off,h1,fun k v hv=>?_⟩;rw [byV,List.getElem?_map] at hv;obtain ⟨u,hu,rfl⟩:=Option.map_eq_some_iff.1 hv;have:=h2 k u hu 0 (.int .u8 u.toNat) rfl
 simpa using this
theorem qvg {base:Nat} {v:Value} {l:LB} (h:w.ownsRow base e 1 v l.length (byV l)):BS w v l:=by
 rcases h.2 with ⟨rfl,h0⟩|⟨g,cap,cur,rfl,h1,h2,h3,h4,h5,h6⟩
 ·have:l=[]:=List.eq_nil_of_length_eq_zero h0;subst this;exact BS.nil w
 ·refine ⟨_,cap,rfl,h3,⟨fun _=>⟨g,0,rfl,fun j u hu k v hv=>?_⟩⟩⟩;cases k with
  | succ k=>simp [encB] at hv
  | zero=>
   simp only [encB,List.getElem?_cons_zero,Option.some.injEq] at hv;subst hv;have hj:(cur.toList.take (l.length*1))[j]?=some (.int .u8 u.toNat):=by rw [h6,byV,List.getElem?_map,hu];rfl
   rw [List.getElem?_take] at hj
   split at hj
   ·rw [qc h2]
    simpa using hj
   ·cases hj
end
end V
structure LvlV (l:LB) (k:Nat):Prop where
 vec:VecOk (qg l k)
 n:vN (qg l k)=vNum l k
 m:vM (qg l k)=vNum l (k-1)
 last:0<vNum l k→bitN ((qg l k).drop 8) (vNum l k-1)=1
theorem LvlV.tvec {l:LB} {k:Nat} (h:LvlV l k):tVec l k=true:=by
 unfold tVec;rw [h.vec.ok,decide_eq_true h.n,decide_eq_true h.m];rfl
theorem LvlV.rank {l:LB} {k:Nat} (h:LvlV l k) (i:Nat) (hi:i≤vNum l k):qjc (qg l k) i=cnt ((qg l k).drop 8) i:=h.vec.rank i (by rw [h.n];exact hi)
theorem LvlV.lt {l:LB} {k:Nat} (h:LvlV l k) (i:Nat) (hi:i<vNum l k):qjc (qg l k) i<vNum l (k-1):=by
 rw [h.rank i Oo,← h.m,← h.vec.ones,h.n];have e:vNum l k=vNum l k-1+1:=by omega
 have h1:=h.last Oo;have h2:cnt ((qg l k).drop 8) i≤cnt ((qg l k).drop 8) (vNum l k-1):=qgr Oo;rw [e,cnt,h1];omega
section
variable {l:LB} (hL:∀ k,1≤k→k≤3→LvlV l k) {i:Nat} (hi:i<vNum l 3)
include hL hi
theorem qla:∀ j,j≤3→tUp l i j<vNum l (3-j)
 | 0,_=>hi
 | j+1,hj=>by
  have h:=qla j Oo;have:=(hL (3-j) Oo Oo).lt _ h;rw [tUp];have e:3-j-1=3-(j+1):=by omega
  rwa [e] at this
theorem q2g:tOk l i=true:=by
 have h:=qla hL hi;unfold tOk qe4;rw [decide_eq_true (h 0 Oo),decide_eq_true (h 1 Oo),decide_eq_true (h 2 Oo),decide_eq_true (h 3 Oo),(hL 3 Oo Oo).tvec,(hL 2 Oo Oo).tvec,(hL 1 Oo Oo).tvec];rfl
theorem qot {j:Nat} (hj:j<3) (h:tUp l (i+1) j=tUp l i j+1) (hb:bitN ((qg l (3-j)).drop 8) (tUp l i j)=1):tUp l (i+1) (j+1)=tUp l i (j+1)+1:=by
 have hlt:=qla hL hi j Oo;have hv:=hL (3-j) Oo Oo;rw [tUp,tUp,h,hv.rank _ Oo,hv.rank _ Oo,cnt,hb]
theorem qos {j:Nat} (hj:j<3) (h:tUp l (i+1) j=tUp l i j+1) (hb:bitN ((qg l (3-j)).drop 8) (tUp l i j)≠1):tUp l (i+1) (j+1)=tUp l i (j+1):=by
 have hlt:=qla hL hi j Oo;have hv:=hL (3-j) Oo Oo;have h0:=qcc ((qg l (3-j)).drop 8) (tUp l i j);have hb0:bitN ((qg l (3-j)).drop 8) (tUp l i j)=0:=by omega
 rw [tUp,tUp,h,hv.rank _ Oo,hv.rank _ Oo,cnt,hb0];rfl
end
theorem qou {l:LB} {i i' j:Nat} (h:tUp l i' j=tUp l i j):∀ {m:Nat},j≤m→tUp l i' m=tUp l i m:=by
 intro m hm
 induction hm with
 | refl=>exact h
 | step _ ih=>rw [tUp,tUp,ih]
theorem qvu (l:LB):∀ j,tUp l 0 j=0
 | 0=>rfl
 | j+1=>by rw [tUp,qvu l j,qjc,if_pos (.inl rfl)]
structure DSt (m:LB) (i:Nat) (last:LB) (p:Nat):Prop where
 le:p≤(qa m).length
 st:∀ j,i=j+1→blk (qa m) (q6 m (j/16)) (j%16)=(last,p,0)
theorem DSt.step {m:LB} {i:Nat} {last:LB} {p:Nat} (h:DSt m i last p) (hp:i%16=0→q6 m (i/16)=p) {first:Bool} (hf:first=decide (i%16=0))
  (he:(entG ((qa m).drop p) first last).2.2=0):DSt m (i+1) (entG ((qa m).drop p) first last).1 (p+(entG ((qa m).drop p) first last).2.1):=by
 have hlen:=(qcn he).2;have hle:=h.le;rw [zld] at hlen;refine ⟨by omega,fun j hj=>?_⟩;obtain rfl:j=i:=by omega
 have hat:∀ b x,entG ((qa m).drop p) b x=entG ((qa m).drop p) first last→qcb (qa m) p b x=((entG ((qa m).drop p) first last).1,p+(entG ((qa m).drop p) first last).2.1,0):=fun b x e=>by
  rw [qcb,if_neg Oo,e,if_neg Oo]
 by_cases h0:j%16=0
 ·rw [h0,hp h0];have hf1:first=true:=by rw [hf,decide_eq_true h0]
  subst hf1;exact hat _ _ (by simp only [entG,if_true,Nat.not_lt_zero,if_false,List.take_zero])
 ·have hf1:first=false:=by rw [hf,decide_eq_false h0]
  subst hf1;obtain ⟨k,rfl⟩:∃ k,j=k+1:=⟨j-1,by omega⟩
  have hk:=h.st k rfl;have e1:(k+1)/16=k/16:=by omega
  have e2:(k+1)%16=k%16+1:=by omega
  rw [e1,e2,blk,hk,if_neg Js];exact hat _ _ rfl
theorem DSt.get {m:LB} {i:Nat} {last:LB} {p:Nat} (h:DSt m (i+1) last p) (hi:i<dN m):dGet m i=some last:=by
 have:=h.st i rfl;rw [dGet,if_pos hi,this,if_pos rfl]
def gL (d:LB):Nat→LB
 | 0=>[]
 | i+1=>if i%2048=0 then gL d i++fixL (cnt d i) 4 else gL d i
def sL (d:LB):Nat→LB
 | 0=>[]
 | i+1=>if i%256=0 then sL d i++fixL (cnt d i-cnt d (2048*(i/2048))) 2 else sL d i
def mL (d:LB):Nat→LB
 | 0=>[]
 | i+1=>if bitN d i=1∧cnt d i%512=0 then mL d i++fixL i 4 else mL d i
theorem qqc (d:LB) (i:Nat):(gL d i).length=4*upN i 2048:=by
 induction i with
 | zero=>rfl
 | succ i ih=>
  rw [gL]
  split
  ·rw [zla,ih,qh];unfold upN;omega
  ·rw [ih];unfold upN;omega
theorem qvo (d:LB) (i:Nat):(sL d i).length=2*upN i 256:=by
 induction i with
 | zero=>rfl
 | succ i ih=>
  rw [sL]
  split
  ·rw [zla,ih,qh];unfold upN;omega
  ·rw [ih];unfold upN;omega
theorem q0q (d:LB) (i:Nat):(mL d i).length=4*upN (cnt d i) 512:=by
 induction i with
 | zero=>simp [mL,cnt,upN]
 | succ i ih=>
  have hb:=qcc d i;rw [mL,cnt]
  split
  ·rename_i h
   rw [zla,ih,qh,h.1];unfold upN;omega
  ·rename_i h
   rw [ih]
   by_cases h1:bitN d i=1
   ·have:cnt d i%512≠0:=fun e=>h ⟨h1,e⟩
    rw [h1];unfold upN;omega
   ·have:bitN d i=0:=by omega
    rw [this];rfl
theorem qacu (d:LB) (i j:Nat) (hj:j<upN i 2048):((gL d i).drop (4*j)).take 4=fixL (cnt d (2048*j)) 4:=by
 induction i with
 | zero=>simp [upN] at hj
 | succ i ih=>
  have hlen:=qqc d i;rw [gL]
  split
  ·rename_i h
   by_cases hlt:j<upN i 2048
   ·rw [List.drop_append_of_le_length Oo,List.take_append_of_le_length (by rw [zld];omega)];exact ih hlt
   ·have e1:4*j=(gL d i).length:=by rw [hlen];unfold upN at hj hlt ⊢;omega
    have e2:i=2048*j:=by unfold upN at hj hlt;omega
    rw [e1,List.drop_left,List.take_of_length_le (by rw [qh];exact Nat.le_refl _),← e2]
  ·rename_i h
   exact ih (by unfold upN at hj ⊢;omega)
theorem qadv (d:LB) (i j:Nat) (hj:j<upN i 256):((sL d i).drop (2*j)).take 2=fixL (cnt d (256*j)-cnt d (2048*(j/8))) 2:=by
 induction i with
 | zero=>simp [upN] at hj
 | succ i ih=>
  have hlen:=qvo d i;rw [sL]
  split
  ·rename_i h
   by_cases hlt:j<upN i 256
   ·rw [List.drop_append_of_le_length Oo,List.take_append_of_le_length (by rw [zld];omega)];exact ih hlt
   ·have e1:2*j=(sL d i).length:=by rw [hlen];unfold upN at hj hlt ⊢;omega
    have e2:i=256*j:=by unfold upN at hj hlt;omega
    have e3:i/2048=j/8:=by omega
    rw [e1,List.drop_left,List.take_of_length_le (by rw [qh];exact Nat.le_refl _),e3,← e2]
  ·rename_i h
   exact ih (by unfold upN at hj ⊢;omega)
theorem qly (d:LB) (a b:Nat):cnt d (a+b)≤cnt d a+b:=by
 induction b with
 | zero=>exact Nat.le_refl _
 | succ b ih=>have:=qcc d (a+b);rw [← Nat.add_assoc,cnt];omega
def vD (l:LB):LB:=(l.drop 8).take (upN (vN l) 8)
theorem qps (l:LB) (n:Nat) (hn:n≤vN l):cnt (vD l) n=cnt (l.drop 8) n:=qum _ _ _ (by unfold upN;omega)
theorem VecOk.of {l:LB} (hv:vOk l=true) (h1:cnt (vD l) (vN l)=vM l) (hd:l.drop (qi (vN l))=gL (vD l) (vN l)++(sL (vD l) (vN l)++mL (vD l) (vN l))):VecOk l:=by
 have hn:vN l≤67108864:=by
  simp only [vOk,Bool.and_eq_true,decide_eq_true_eq] at hv;exact hv.1.1.2
 refine ⟨hv,fun j hj=>?_,fun j hj=>?_,by rw [← qps l _ znr];exact h1⟩
 ·have hlen:=qqc (vD l) (vN l);rw [← List.drop_drop,hd,List.drop_append_of_le_length Oo,List.take_append_of_le_length (by rw [zld];omega),qacu _ _ _ hj,qd0];have hle:2048*j≤vN l:=by unfold upN at hj;omega
  have hc:=qe0 (vD l) (2048*j);rw [Nat.mod_eq_of_lt (by show _<4294967296;omega),qps l _ hle]
 ·have hlen:=qqc (vD l) (vN l);have hlen2:=qvo (vD l) (vN l);have e:qu (vN l)+2*j=qi (vN l)+((gL (vD l) (vN l)).length+2*j):=by rw [hlen,qu];omega
  have e2:∀ A B:LB,(A++B).drop (A.length+2*j)=B.drop (2*j):=fun A B=>by rw [← List.drop_drop,List.drop_left]
  rw [e,← List.drop_drop,hd,e2,List.drop_append_of_le_length Oo,List.take_append_of_le_length (by rw [zld];omega),qadv _ _ _ hj,qd0];have hle:256*j≤vN l:=by unfold upN at hj;omega
  have hc:cnt (vD l) (256*j)≤cnt (vD l) (2048*(j/8))+2048:=by
   have:=qly (vD l) (2048*(j/8)) (256*j-2048*(j/8));have e4:2048*(j/8)+(256*j-2048*(j/8))=256*j:=by omega
   rw [e4] at this;omega
  rw [Nat.mod_eq_of_lt (by show _<65536;omega),qps l _ hle,qps l _ Oo]
def q8 (d:LB) (n:Nat):LB:=fixL n 4++fixL (cnt d n) 4++d++gL d n++sL d n++mL d n
def ahN (d:LB) (i:Nat):Nat:=if i=0 then 0 else cnt d (2048*((i-1)/2048))
theorem V.AppV.rwB {P:Program} {w0 w:World} {e t ty:TypeId} {i:TypeInfo} {z:Value} {L:List (Nat × Obj)} {A B:oA} {c d:Nat} {x m:LB} {K:Value→World→Prop} (ht:P.underlying t=some (.slice e)) (hi:P.info? e=some i) (hz:i.zero=some z)
  (hsize:i.size=1) (hzs:z.cells.size=1) (hby:i.bytes≤16) (h:Rw w0 w (.slice A x.length c) e 1 x.length (byV x) L) (hS:SlAt encB 1 w B m) (hlen:x.length+m.length≤8000000000000)
  (hk:∀ A' c' w',Rw w0 w' (.slice A' (x++m).length c') e 1 (x++m).length (byV (x++m)) L→K (.slice A' (x++m).length c') w'):AppV P #[t,t] ty (.slice A x.length c) (.slice B m.length d) w K:=by
 refine AppV.rw (news:=byV m) ht hi hz hsize hzs Od h (by rw [qam,Nat.mul_one]) (qm0 hS) (fun u hu=>?_) (Nat.le_trans (Nat.mul_le_mul hlen hby) Od) Oo ?_
 ·simp only [byV,List.mem_map] at hu;obtain ⟨v,_,rfl⟩:=hu;rfl
 ·intro A' c' w' hR;rw [← zla] at hR ⊢;exact hk A' c' w' (by rw [byV,List.map_append];exact hR)
def PadB (d:LB) (n:Nat):Prop:=∃ t,n≤t∧t<8*d.length∧bitN d t=1
def qdy (n i:Nat):Nat:=
 if i<qu n then qi n+(i-qi n)/4*4 else if i<qaa n then qu n+(i-qu n)/2*2 else qaa n+(i-qaa n)/4*4
def spF (l:LB) (t:Nat):Nat × Nat:=
 if l[qi (vN l)+t]?=(q8 (vD l) (vN l))[qi (vN l)+t]? then (0,0) else (qdy (vN l) (qi (vN l)+t),20)
open Classical in
noncomputable def voE (l:LB):Nat × Nat:=
 if PadB (vD l) (vN l) then (7+upN (vN l) 8,12) else if cnt (vD l) (vN l)≠vM l then (4,20) else errF (spF l) (qag (vN l) (vM l)-qi (vN l))
theorem qpc {l:LB} (h:PadB (vD l) (vN l)):voE l=(7+upN (vN l) 8,12):=by rw [voE,if_pos h]
theorem qtv {l:LB} (h:¬ PadB (vD l) (vN l)) (h2:cnt (vD l) (vN l)≠vM l):voE l=(4,20):=by rw [voE,if_neg h,if_pos h2]
theorem qad8 {l:LB} (h:¬ PadB (vD l) (vN l)) (h2:cnt (vD l) (vN l)=vM l) {i:Nat} (hi:qi (vN l)≤i) (hi2:i<qag (vN l) (vM l))
  (hj:∀ j,qi (vN l)≤j→j<i→l[j]?=(q8 (vD l) (vN l))[j]?) (hne:l[i]?≠(q8 (vD l) (vN l))[i]?):voE l=(qdy (vN l) i,20):=by
 obtain ⟨t,rfl⟩:∃ t,i=qi (vN l)+t:=⟨i-qi (vN l),by omega⟩
 have hk:spF l t=(qdy (vN l) (qi (vN l)+t),20):=by rw [spF,if_neg hne]
 rw [voE,if_neg h,if_neg Oo,qbx (k:=t) (fun j h3=>by rw [spF,if_pos (hj _ Oo Oo)]) Oo (by rw [hk];exact Nat.succ_ne_zero 19),hk]
theorem q77 {l:LB} (h:¬ PadB (vD l) (vN l)) (h2:cnt (vD l) (vN l)=vM l) (hj:∀ j,qi (vN l)≤j→j<qag (vN l) (vM l)→l[j]?=(q8 (vD l) (vN l))[j]?):voE l=(0,0):=by
 have hz:∀ k,k<qag (vN l) (vM l)-qi (vN l)→spF l k=(0,0):=fun k hk=>by rw [spF,if_pos (hj _ Oo Oo)]
 rw [voE,if_neg h,if_neg Oo];have:∀ n,n≤qag (vN l) (vM l)-qi (vN l)→errF (spF l) n=(0,0):=by
  intro n hn
  induction n with
  | zero=>rfl
  | succ n ih=>rw [errF,ih Oo,if_neg Od,hz n Oo]
 exact this _ znr
theorem qpd {l:LB} (h:(voE l).2=0):¬ PadB (vD l) (vN l)∧cnt (vD l) (vN l)=vM l∧∀ j,qi (vN l)≤j→j<qag (vN l) (vM l)→l[j]?=(q8 (vD l) (vN l))[j]?:=by
 by_cases h1:PadB (vD l) (vN l)
 ·rw [qpc h1] at h;cases h
 by_cases h2:cnt (vD l) (vN l)=vM l
 ·refine ⟨h1,h2,fun j hj hj2=>?_⟩;rw [voE,if_neg h1,if_neg Oo] at h;have h3:=qaw h (j-qi (vN l)) Oo;rw [spF,show qi (vN l)+(j-qi (vN l))=j by omega] at h3
  split at h3
  ·assumption
  ·cases h3
 ·rw [qtv h1 h2] at h;cases h
theorem q2w (n i:Nat) (h:qi n≤i):qdy n i≤i:=by
 unfold qdy
 split
 ·omega
 ·split<;>omega
theorem q76 (l:LB):(voE l).1≤qag (vN l) (vM l)+8:=by
 have hv:qag (vN l) (vM l)=qi (vN l)+4*upN (vN l) 2048+2*upN (vN l) 256+4*upN (vM l) 512:=rfl;have hg:qi (vN l)=8+upN (vN l) 8:=rfl
 by_cases h1:PadB (vD l) (vN l)
 ·rw [qpc h1];show 7+upN (vN l) 8≤_;omega
 by_cases h2:cnt (vD l) (vN l)=vM l
 ·rw [voE,if_neg h1,if_neg Oo];have:∀ n,n≤qag (vN l) (vM l)-qi (vN l)→(errF (spF l) n).1≤qag (vN l) (vM l):=by
   intro n hn
   induction n with
   | zero=>exact Nat.zero_le _
   | succ n ih=>
    rw [errF]
    split
    ·exact ih Oo
    ·rw [spF]
     split
     ·exact Nat.zero_le _
     ·have:=q2w (vN l) (qi (vN l)+n) Oo;show qdy _ _≤_;omega
  have:=this _ znr;omega
 ·rw [qtv h1 h2];show 4≤_;omega
namespace V
theorem SliceV.to {size:Nat} {A:oA} {n c:Nat} {lo hi mx:Option Value} {K:Value→Prop} (a b m:Nat) (h1:bnd lo 0 a) (h2:bnd hi n b) (h3:bnd mx c m) (hab:a≤b) (hbm:b≤m) (hm:m≤c)
  (hs:mx.isSome=true→hi.isSome=true) (hk:K (.slice (if m=a then A else A.map (·.add (a*size))) (b-a) (m-a))):SliceV size A n c lo hi mx K:=
 ⟨a,b,m,h1,h2,h3,hab,hbm,hm,hs,fun A' e=>by rw [e];exact hk⟩
end V
def hdL (m:LB) (k:Nat):List Value:=[ii (if 0<k then vNum m 0 else 0:Nat),ii (if 1<k then vNum m 1 else 0:Nat)]
def DShR (m:LB) (v:Value) (w0 w:World):Prop:=
 ((dE m).2≠0∧∃ e,v=.tuple #[.pointer none,ii 0,ii 0,e]∧ErrAt w e (dE m).1 (dE m).2)∨
 ((dE m).2=0∧∃ b,v=.tuple #[pp b,ii (qa9 m),ii (ql m),.nilIface]∧w0.heap.size≤b∧DictAt w b m)
theorem ql2 (m:LB) (A:oA) (c:Nat) (w:World) (hS:SlAt encB 1 w A m) (hc:m.length≤c) (hl:m.length≤140737488355328) :
  Gv Tryz.prog 120 [.slice A m.length c] w fun v w'=>DShR m v w w'∧Ext w w':=by
 have hv0:BS w (.slice A m.length c) m:=⟨A,c,rfl,hc,hS⟩
 refine ze Tryz.func120 Tryz.ntmps120 ?_;refine zcv (qdv _ m w hv0) ?_;rintro v w1 ⟨cb,rfl,hcb,hco,he1⟩;have hm:Mem w w1 [(cb,curO 244 (.slice A m.length c) (vAt m 0) 0)]:=(Mem.nil w).fresh he1 hcb hco;(conv=>whnf);refine znm hm ?_;intro hd w2 hm;have hm:Mem w w2 [(hd,.cells (hdL m 0).toArray 115),(cb,curO 244 (.slice A m.length c) (vAt m 0) 0)]:=hm;(conv=>whnf);refine qy (fun k:Nat=>[(0,.slice A m.length c),(2,.pointer none),(3,ii 0),(4,ii 0),(5,.nilIface),(6,pp cb),(7,pp hd),(16,.agg #[.int .u64 4194304,.int .u64 67108864]),(17,ii k)])
  (fun k w'=>k≤2∧(∀ j,j<k→(numL (m.drop (vAt m j))).2.2=0∧vNum m j≤67108864∧(dhF m j).2=0)∧Mem w w' [(hd,.cells (hdL m k).toArray 115),(cb,curO 244 (.slice A m.length c) (vAt m k) 0)]) (fun k=>2-k) 0
  ⟨rfl,rfl,rfl,rfl,rfl,rfl,rfl,rfl,rfl,trivial⟩ ⟨by omega,fun j hj=>by omega,hm⟩ ?_
 clear hm hco he1 hcb;rintro k w3 ρ' ⟨k1,hj,hm⟩;(conv=>whnf);refine zC (fun _=>zu ?_) (fun _=>zu ?_)
 ·have hv:BS w3 (.slice A m.length c) m:=hv0.ext hm.ext;have hle:=qf8 m k;have hlt:=qtp m k;have hmost:∃ mo:Nat,mo=(if k=0 then 4194304 else 67108864)∧(#[Value.int .u64 4194304,.int .u64 67108864]:Array Value).toList[k*tsz Tryz.prog 51]?=some (.int .u64 mo):=by
   refine ⟨_,rfl,?_⟩;rw [show tsz Tryz.prog 51=1 from by kernel_rfl];obtain rfl|rfl:k=0∨k=1:=by omega
   all_goals rfl
  obtain ⟨mo,emo,hmo⟩:=hmost;refine ⟨_,hmo,?_⟩;(conv=>whnf);refine zcv (qiz cb _ (vAt m k) 0 w3 (hm.get (zmc mh))) ?_;rintro r w4 ⟨rfl,rfl⟩;(conv=>whnf);refine zcv (qcm cb _ (vAt m k) 0 m _ (hm.get (zmc mh)) hv hle hl) ?_;rintro r w5 ⟨rfl,hu⟩
  by_cases he:(numL (m.drop (vAt m k))).2.2=0
  ·rw [qo9 he,qpa he] at hu;rw [qo8 he];have hm:Mem w w5 [(hd,.cells (hdL m k).toArray 115),(cb,curO 244 (.slice A m.length c) (vAt m (k+1)) 0)]:=hm.upd (i:=1) rfl hu;(conv=>whnf);refine zcv (qb4 cb _ _ 0 w5 (hm.get (zmc mh))) ?_;rintro r w6 ⟨rfl,rfl⟩;(conv=>whnf);refine zt ?_;refine zC (fun _=>zw ?_) (fun _=>zw ?_)
   ·refine zcv (qbb (vAt m k) 2 w6) ?_;rintro r w7 ⟨hE,he7⟩;have hdh:dhF m k=(vAt m k,2):=qkm he (by rw [← emo];omega);have hdE:dE m=(vAt m k,2):=by
     have:=qbx (f:=dhF m) (n:=2) (k:=k) (fun j h=>(hj j h).2.2) Oo (by rw [hdh];simp);rw [dE,this,hdh,if_pos Js]
    obtain ⟨eb,rfl,hec⟩:=hE;(conv=>whnf);refine ⟨.inl ⟨by rw [hdE];simp,_,rfl,?_⟩,hm.ext.trans he7⟩;rw [hdE];exact ⟨eb,rfl,hec⟩
   ·have hmo2:mo≤67108864:=by rw [emo];split<;>omega
    refine Wit.conv (qa7 Oo) (zu ?_);have e2:0+k*tsz Tryz.prog 3=k:=by rw [show tsz Tryz.prog 3=1 from by kernel_rfl];omega
    refine StoreV.mem hm (i:=0) rfl (by rw [e2];simp [hdL];omega) rfl ?_;intro w8 hm;rw [e2] at hm;have hset:(hdL m k).toArray.setIfInBounds k (ii (vNum m k))=(hdL m (k+1)).toArray:=by
     obtain rfl|rfl:k=0∨k=1:=by omega
     all_goals rfl
    have hm:Mem w w8 [(hd,.cells (hdL m (k+1)).toArray 115),(cb,curO 244 (.slice A m.length c) (vAt m (k+1)) 0)]:=by rw [← hset];exact hm
    refine zu ?_;refine ⟨k+1,⟨rfl,rfl,rfl,rfl,rfl,rfl,rfl,rfl,rfl,trivial⟩,⟨by omega,fun j hjk=>?_,hm⟩,by omega⟩
    by_cases ej:j=k
    ·subst ej;exact ⟨he,by omega,by rw [dhF,qc0 he (by rw [← emo];omega)]⟩
    ·exact hj j Oo
  ·rw [qo6 he,qo7 he] at hu;rw [qo5 he];have hm:Mem w w5 [(hd,.cells (hdL m k).toArray 115),(cb,curO 244 (.slice A m.length c) (vAt m k) (numL (m.drop (vAt m k))).2.2)]:=hm.upd (i:=1) rfl hu;(conv=>whnf);refine zcv (qb4 cb _ _ _ w5 (hm.get (zmc mh))) ?_;rintro r w6 ⟨rfl,rfl⟩;refine zu ?_;refine zcv (qbb (vAt m k) (numL (m.drop (vAt m k))).2.2 w6) ?_;rintro r w7 ⟨hE,he7⟩;have hdh:dhF m k=(vAt m k,(numL (m.drop (vAt m k))).2.2):=qcp he;have hdE:dE m=(vAt m k,(numL (m.drop (vAt m k))).2.2):=by
    have:=qbx (f:=dhF m) (n:=2) (k:=k) (fun j h=>(hj j h).2.2) Oo (by rw [hdh];exact he);rw [dE,this,hdh,if_pos he]
   obtain ⟨eb,rfl,hec⟩:=hE;(conv=>whnf);refine ⟨.inl ⟨by rw [hdE];exact he,_,rfl,?_⟩,hm.ext.trans he7⟩;rw [hdE];exact ⟨eb,rfl,hec⟩
 ·obtain rfl:k=2:=by omega
  have hm:Mem w w3 [(hd,.cells #[ii (vNum m 0),ii (vNum m 1)] 115),(cb,curO 244 (.slice A m.length c) (vAt m 2) 0)]:=hm;obtain ⟨f1,f2,f3⟩:=hj 0 Oo;obtain ⟨g1,g2,g3⟩:=hj 1 Oo;have hn0:vNum m 0≤4194304:=qn1 f1 f3;have hz:(errF (dhF m) 2).2=0:=qad fun k hk=>by
   obtain rfl|rfl:k=0∨k=1:=by omega
   ·exact f3
   ·exact g3
  have hWb:dW m≤27:=qf2 27 _ (by show vNum m 1<_;simp only [Nat.reducePow];omega) Od;refine DrawV.free Jk Jk (zw ?_);refine zf ?_ (by intro wd hd;(conv=>whnf);refine zJ 0 ?_;(conv=>whnf);exact ⟨xr,rfl⟩);refine zf ?_ (by intro wd hd;(conv=>whnf);refine LoadV.mem (Mem.call (Mem.drew hm) hd) (i:=0) rfl rfl ?_;(conv=>whnf);exact ⟨xr,rfl⟩);refine zf ?_ (by intro wd hd;(conv=>whnf);refine zJ 1 ?_;(conv=>whnf);exact ⟨xr,rfl⟩);refine zf ?_ (by intro wd hd;(conv=>whnf);refine LoadV.mem (Mem.call (Mem.drew hm) hd) (i:=0) rfl rfl ?_;(conv=>whnf);exact ⟨xr,rfl⟩);refine zd ?_;apply zsd
  ·intro wd hd;(conv=>whnf);refine zcv (qfp (vNum m 1) wd Oo) ?_;rintro v w9 ⟨rfl,rfl⟩;exact ⟨xr,rfl⟩
  (conv=>whnf);refine zd ?_;apply StepD.of (fun v wx=>∃ b,v=pp b∧w3.drew.heap.size≤b∧wx.heap[b]?=some (.cells #[ii (dN m),ii (dW m),.slice none 0 0,.slice none 0 0] 253))
   (fun _ _ _ h he=>let ⟨b,h1,h2,h3⟩:=h;⟨b,h1,h2,he.get h3⟩)
  ·intro wd hd;(conv=>whnf);refine ⟨fun x wx hb hw=>?_⟩;subst hb hw;(conv=>whnf);exact ⟨xr.alloc _,_,rfl,hd.size,heap_alloc_new _ _⟩
  (conv=>whnf);apply StepD.of (fun v wx=>∃ b,v=pp b∧w3.drew.heap.size≤b∧wx.heap[b]?=some (.cells #[ii (dN m),ii (dW m),.slice none 0 0,.slice none 0 0] 253))
   (fun _ _ _ h he=>let ⟨b,h1,h2,h3⟩:=h;⟨b,h1,h2,he.get h3⟩)
  ·intro wd hd;(conv=>whnf);rintro _ _;(conv=>whnf);rintro v ⟨b,rfl,h1,h2⟩;(conv=>whnf);exact ⟨xr,b,rfl,h1,h2⟩
  (conv=>whnf);intro w9 he9;(conv=>whnf);rintro v ⟨b,rfl,hb,ho⟩;(conv=>whnf);intro _ _;(conv=>whnf);have hm:=hm.drew.fresh he9 hb ho;refine zcv (qiz cb _ (vAt m 2) 0 w9 (hm.get (zmc (zmc mh)))) ?_;rintro r w10 ⟨rfl,rfl⟩;(conv=>whnf);have hub:upN (dN m) 16≤4194304:=Nat.le_trans (qaq _ _ Od) hn0;have hmul:upN (dN m) 16*dW m≤4194304*27:=Nat.mul_le_mul hub hWb;obtain ⟨f,ef⟩:∃ f,f=upN (dN m) 16*dW m:=⟨_,rfl⟩
  have efi:((upN (dN m) 16:Nat):Int)*((dW m:Nat):Int)=(f:Int):=by rw [ef,Int.natCast_mul]
  rw [← ef] at hmul;have e3:qa9 m=vAt m 2:=rfl;have e4:ql m=qa9 m+(f+7)/8:=by rw [ef];rfl
  have e5:dEnd m=ql m+vNum m 1:=rfl;have h2l:=qf8 m 2;refine zy ?_;have hm:=hm.drew;refine zt ?_;refine LoadV.mem (i:=0) Oa rfl rfl (zw ?_);refine zt ?_;refine ⟨ii (upN (dN m) 16),qfq (dN m) _ hn0,?_⟩;conv=>whnf
  (repeat' (first|refine zp ?_|refine zC (fun _=>zw ?_) (fun _=>zw ?_)|(refine zJ 1 ?_;(conv=>whnf))|refine LoadV.mem (i:=0) Oa rfl rfl (zw ?_)|refine LoadV.mem (i:=1) Oa rfl rfl (zw ?_)))
  ·have hdE:dE m=(m.length,10):=by rw [dE,if_neg Oo,if_pos Oo]
   refine zcv (qbb m.length 10 _) ?_;rintro r w7 ⟨⟨eb,rfl,hec⟩,he7⟩;(conv=>whnf);refine ⟨.inl ⟨by rw [hdE];simp,_,rfl,?_⟩,hm.ext.trans he7⟩;rw [hdE];exact ⟨eb,rfl,hec⟩
  ·have hdE:dE m=(dEnd m,13):=by rw [dE,if_neg Oo,if_neg Oo,if_pos Oo]
   have hEnd:(((vAt m 2:Nat):Int)+(((upN (dN m) 16:Nat):Int)*((dW m:Nat):Int)+7)/8+((vNum m 1:Nat):Int))=((dEnd m:Nat):Int):=by omega
   rw [hEnd];refine zcv (qbb (dEnd m) 13 _) ?_;rintro r w7 ⟨⟨eb,rfl,hec⟩,he7⟩;(conv=>whnf);refine ⟨.inl ⟨by rw [hdE];simp,_,rfl,?_⟩,hm.ext.trans he7⟩;rw [hdE];exact ⟨eb,rfl,hec⟩
  have hdE:dE m=(0,0):=by rw [dE,if_neg Oo,if_neg Oo,if_neg Oo]
  have hlen:m.length=dEnd m:=by omega
  obtain ⟨w11,ew11⟩:∃ w11:World,w11=w10.drew:=⟨_,rfl⟩
  rw [← ew11] at hm ⊢;obtain ⟨PV,hPV⟩:∃ PV:Value,PV=.slice (if c=qa9 m then A else A.map (·.add (qa9 m*1))) (ql m-qa9 m) (c-qa9 m):=⟨_,rfl⟩
  obtain ⟨EV,hEV⟩:∃ EV:Value,EV=.slice (if c=ql m then A else A.map (·.add (ql m*1))) (dEnd m-ql m) (c-ql m):=⟨_,rfl⟩
  refine DrawV.inv (fun S w'=>Mem w w' [(b,.cells #[ii (dN m),ii (dW m),(bif S 12 then PV else .slice none 0 0),(bif S 15 then EV else .slice none 0 0)] 253),(hd,.cells #[ii (vNum m 0),ii (vNum m 1)] 115),(cb,curO 244 (.slice A m.length c) (vAt m 2) 0)]) rfl Jk hm.drew (zw ?_);(iterate 5 (refine zi ?_));refine StepI.of PV (fun S wd hk hp hI=>zw ?_) (zw ?_)
  ·refine SliceV.to (qa9 m) (ql m) c (by show (_:Int)=_;omega) (by show (_:Int)=_;omega) rfl Oo Oo znr (fun h=>by cases h) (zw ?_);exact ⟨hPV.symm,hI⟩
  (iterate 3 (refine zi ?_));refine StepI.of EV (fun S wd hk hp hI=>zw ?_) ?_
  ·refine SliceV.to (ql m) (dEnd m) c (by show (_:Int)=_;omega) (by show (_:Int)=_;omega) rfl Oo Oo znr (fun h=>by cases h) (zw ?_);exact ⟨hEV.symm,hI⟩
  subst hPV hEV;(conv=>whnf);refine zi ?_;refine zi ?_;refine StepI.of undef (fun S wd hk hp hI=>?_) (zw ?_)
  ·dsimp only at hI;rw [hk] at hI;(conv=>whnf);refine StoreV.mem hI (i:=0) rfl (show 2<4 by decide) rfl fun wx hmx=>zw ?_;exact ⟨rfl,hmx⟩
  refine zi ?_;refine zi ?_;refine StepI.of undef (fun S wd hk hp hI=>?_) (zw ?_)
  ·dsimp only at hI;rw [hk] at hI;(conv=>whnf);refine StoreV.mem hI (i:=0) rfl (show 3<4 by decide) rfl fun wx hmx=>zw ?_;exact ⟨rfl,hmx⟩
  intro w12 hI;(conv=>whnf);obtain ⟨o1,o2⟩:=hI.own _ mh;have l1:(qr m).length=ql m-qa9 m:=by rw [qr,List.length_take,zld];omega
  have l2:(qa m).length=dEnd m-ql m:=by rw [qa,zld];omega
  have e9:(((vAt m 2:Nat):Int)+(((upN (dN m) 16:Nat):Int)*((dW m:Nat):Int)+7)/8)=((ql m:Nat):Int):=by omega
  rw [e9];have c1:SlAt encB 1 w (if c=qa9 m then A else A.map (·.add (qa9 m*1))) (qr m):=hS.cut (m:=c) Oo Oo Oo rfl;have c2:SlAt encB 1 w (if c=ql m then A else A.map (·.add (ql m*1))) (qa m):=by
   have:=hS.cut (m:=c) (lo:=ql m) (hi:=m.length) (A':=if c=ql m then A else A.map (·.add (ql m*1))) Oo Oo Oo rfl
   rwa [List.take_of_length_le Js] at this
  refine ⟨.inr ⟨by rw [hdE],b,rfl,o1,⟨⟨_,c-qa9 m,_,c-ql m,?_,c1.ext hI.ext,c2.ext hI.ext,?_⟩,hn0,g2,?_,?_⟩⟩,hI.ext⟩
  ·rw [l1,l2];exact o2
  ·rw [l2];omega
  ·rw [l1,← ef];omega
  ·rw [l2];show _=vNum m 1;omega
def DVwR (m:LB) (v:Value) (w0 w:World):Prop:=
 ((dE m).2≠0∧∃ e,v=.tuple #[.pointer none,e]∧ErrAt w e (dE m).1 (dE m).2)∨
 ((dE m).2=0∧∃ b,v=.tuple #[pp b,.nilIface]∧w0.heap.size≤b∧DictAt w b m)
theorem qzh (m:LB) (A:oA) (c:Nat) (w:World) (hS:SlAt encB 1 w A m) (hc:m.length≤c) (hl:m.length≤140737488355328) :
  Gv Tryz.prog 58 [.slice A m.length c] w fun v w'=>DVwR m v w w'∧Ext w w':=by
 have hsh:=ql2 m A c w hS hc hl;refine ze Tryz.func58 Tryz.ntmps58 ?_;refine zcv (hsh) ?_;rintro v w1 ⟨⟨h0,e,rfl,b,rfl,hE⟩|⟨h0,b,rfl,hb,hD⟩,he⟩
 ·(conv=>whnf);exact ⟨.inl ⟨h0,_,rfl,b,rfl,hE⟩,he⟩
 ·(conv=>whnf);exact ⟨.inr ⟨h0,b,rfl,hb,hD⟩,he⟩
theorem q6m (s:Value) (n m b:Nat) (w:World) (hb:w.heap[b]?=some (vecO 263 s n m)):Gv Tryz.prog 109 [pp b] w fun r w'=>r=ii n∧w'=w:=by
 refine ze Tryz.func109 Tryz.ntmps109 ?_;refine LoadV.own hb rfl (zw ?_);exact ⟨rfl,rfl⟩
theorem q27 (s:Value) (n m b:Nat) (w:World) (hb:w.heap[b]?=some (vecO 263 s n m)):Gv Tryz.prog 110 [pp b] w fun r w'=>r=ii m∧w'=w:=by
 refine ze Tryz.func110 Tryz.ntmps110 ?_;refine LoadV.own hb rfl (zw ?_);exact ⟨rfl,rfl⟩
theorem qko (x:Nat) (w:World) (hx:x<256):Gv Tryz.prog 188 [.int .u8 x] w fun r w'=>r=ii (qe2 x)∧w'=w:=by
 refine ze Tryz.func188 Tryz.ntmps188 ?_;refine IdxV.nat (by show x<256;exact hx) (zw ?_);refine Wit.conv (qa7 (Nat.lt_of_lt_of_le (qac _) Od)) (zw ?_);refine ⟨congrArg (Value.int .i64) (congrArg Int.ofNat ?_),rfl⟩;clear w
 revert x
 decide +kernel
theorem qoe (l:LB) (A:oA) (c b i:Nat) (w:World) (hS:SlAt encB 1 w A l) (hc:l.length≤c) (hv:vOk l=true) (hb:w.heap[b]?=some (vecO 263 (.slice A l.length c) (vN l) (vM l))) (hi:i≤67108864) :
  Gv Tryz.prog 156 [pp b,ii i] w fun r w'=>r=ii (qjc l i)∧Ext w w':=by
 refine ze Tryz.func156 Tryz.ntmps156 ?_;simp only [vOk,Bool.and_eq_true,decide_eq_true_eq] at hv;obtain ⟨⟨⟨v1,v2⟩,v3⟩,v4⟩:=hv;have u1:=qaq (vN l) 8 Od;have u2:=qaq (vN l) 2048 Od;have u3:=qaq (vN l) 256 Od;have u4:=qaq (vM l) 512 Od;have g1:qi (vN l)=8+upN (vN l) 8:=rfl;have g2:qu (vN l)=qi (vN l)+4*upN (vN l) 2048:=rfl;have g3:qaa (vN l)=qu (vN l)+2*upN (vN l) 256:=rfl;have g4:qag (vN l) (vM l)=qaa (vN l)+4*upN (vM l) 512:=rfl;rw [qjc];refine zC (fun _=>zu ?_) (fun _=>zu ?_)
 ·exact ⟨by rw [if_pos Oo];rfl,xr⟩
 refine LoadV.own hb rfl (zw ?_);refine zt ?_;refine zC (fun _=>zw ?_) (fun _=>zw ?_)
 ·exact ⟨by rw [if_pos Oo];rfl,xr⟩
 refine LoadV.own hb rfl (zw ?_);refine zC (fun _=>zw ?_) (fun _=>zw ?_)
 ·refine LoadV.own hb rfl (zw ?_);exact ⟨by rw [if_neg Oo,if_pos Oo],xr⟩
 obtain ⟨g,off,hA,_⟩:=hS.at_ (by intro e;rw [e] at v1;simp at v1);subst hA;have k1:i/2048+1≤upN (vN l) 2048:=by unfold upN;omega
 have k2:i/256+1≤upN (vN l) 256:=by unfold upN;omega
 have k3:i/8+1≤upN (vN l) 8:=by unfold upN;omega
 refine DrawV.free Jk Jk (zw ?_);(iterate 3 (refine zd ?_));refine zf ?_ (by intro wd hd;(conv=>whnf);refine LoadV.own (Ext.get (Ext.trans (Ext.drew xr) hd) hb) rfl ?_;(conv=>whnf);exact ⟨xr,rfl⟩);(iterate 4 (refine zd ?_));refine zf ?_ (by intro wd hd;(conv=>whnf);refine LoadV.own (Ext.get (Ext.trans (Ext.drew xr) hd) hb) rfl ?_;(conv=>whnf);exact ⟨xr,rfl⟩);(iterate 4 (refine zd ?_));apply zsd
 ·intro wd hd;(conv=>whnf);refine SliceV.rest (qi (vN l)+4*(i/2048)) (by show (qi (vN l):Int)+4*((i:Int)/2048)=((qi (vN l)+4*(i/2048):Nat):Int);omega) hc Oo (zw ?_);exact ⟨xr,rfl⟩
 (conv=>whnf);apply zsd
 ·intro wd hd;(conv=>whnf);refine zcv (qg0 (l.drop (qi (vN l)+4*(i/2048))) _ _ _ wd (SlAt.rest (hS.ext ((Ext.refl w).drew.trans hd)) Oo) (by rw [zld]) (by rw [zld];omega)) ?_;rintro v w9 ⟨rfl,h9⟩;exact ⟨h9,rfl⟩
 (conv=>whnf);(iterate 3 (refine zd ?_));refine zf ?_ (by intro wd hd;(conv=>whnf);refine LoadV.own (Ext.get (Ext.trans (Ext.drew xr) hd) hb) rfl ?_;(conv=>whnf);exact ⟨xr,rfl⟩);(iterate 4 (refine zd ?_));refine zf ?_ (by intro wd hd;(conv=>whnf);refine LoadV.own (Ext.get (Ext.trans (Ext.drew xr) hd) hb) rfl ?_;(conv=>whnf);exact ⟨xr,rfl⟩);(iterate 4 (refine zd ?_));apply zsd
 ·intro wd hd;(conv=>whnf);refine SliceV.rest (qu (vN l)+2*(i/256)) (by show (qu (vN l):Int)+2*((i:Int)/256)=((qu (vN l)+2*(i/256):Nat):Int);omega) hc Oo (zw ?_);exact ⟨xr,rfl⟩
 (conv=>whnf);apply zsd
 ·intro wd hd;(conv=>whnf);refine zcv (q2n (l.drop (qu (vN l)+2*(i/256))) _ _ _ wd (SlAt.rest (hS.ext ((Ext.refl w).drew.trans hd)) Oo) (by rw [zld]) (by rw [zld];omega)) ?_;rintro v w9 ⟨rfl,h9⟩;exact ⟨h9,rfl⟩
 (conv=>whnf);have hG:=qa1 (l.drop (qi (vN l)+4*(i/2048))) 4 (by rw [zld];omega);have hH:=qa1 (l.drop (qu (vN l)+2*(i/256))) 2 (by rw [zld];omega);obtain ⟨G,eG⟩:∃ G,G=leN ((l.drop (qi (vN l)+4*(i/2048))).take 4):=⟨_,rfl⟩
 obtain ⟨H,eH⟩:∃ H,H=leN ((l.drop (qu (vN l)+2*(i/256))).take 2):=⟨_,rfl⟩
 rw [← eG] at hG ⊢;rw [← eH] at hH ⊢;simp only [Nat.reduceMul,Nat.reducePow] at hG hH;refine zd ?_;refine zd ?_;intro w1 he1;(conv=>whnf);have hx:=(Ext.refl w).drew.trans he1;refine zv ?_;have hof:∀ k,k≤i%256/8→qaz l (8+i/256*32) k≤8*k:=fun k hk=>by
  clear hG hH
  induction k with
  | zero=>exact Nat.le_refl _
  | succ k ih=>
   have:=ih Oo;have h8:qe2 (l.getD (8+i/256*32+k) 0).toNat≤8:=by unfold qe2;omega
   rw [qaz];omega
 refine qy (fun k:Nat=>[(0,pp b),(1,ii i),(5,ii (G+H+qaz l (8+i/256*32) k:Nat)),(7,ii (i/256*256+8*k:Nat))]) (fun k w'=>k≤i%256/8∧Ext w w') (fun k=>i%256/8-k) 0
  ⟨rfl,rfl,by simp only [qaz];rfl,by simp;rfl,trivial⟩ ⟨by omega,hx⟩ ?_
 rintro k w2 ρ' ⟨k1,he2⟩;have hk:=hof k k1;(conv=>whnf);refine zt ?_;refine zC (fun _=>zw ?_) (fun _=>zw ?_)
 ·refine zy ?_;refine zv ?_;have hx2:=he2.drew;refine LoadV.own (hx2.get hb) rfl (zu ?_);refine LoadV.own (hx2.get hb) rfl (zu ?_);have hj:8+i/256*32+k<l.length:=by omega
  refine ElemV.bs (hS.ext hx2) rfl (8+i/256*32+k) Oo hj ?_;intro eb eo hcell;have hlt:=qac (l[8+i/256*32+k]);refine zu ?_;refine LoadV.of hcell (zu ?_);refine ⟨ii (qe2 (l[8+i/256*32+k]).toNat),qko _ _ hlt,?_⟩;have h8:qe2 (l[8+i/256*32+k]).toNat≤8:=by unfold qe2;omega
  have hon:qaz l (8+i/256*32) (k+1)=qaz l (8+i/256*32) k+qe2 (l[8+i/256*32+k]).toNat:=by
   rw [qaz,List.getD_eq_getElem?_getD,zge hj];rfl
  refine zu ?_;exact ⟨k+1,⟨rfl,rfl,by rw [hon];exact congrArg (Value.int .i64) Oo,by exact congrArg (Value.int .i64) Oo,trivial⟩,⟨by omega,hx2⟩,by omega⟩
 ·obtain rfl:k=i%256/8:=by omega
  refine zy ?_;refine zv ?_;have hx2:=he2.drew;refine LoadV.own (hx2.get hb) rfl (zu ?_);refine LoadV.own (hx2.get hb) rfl (zu ?_);have hj:8+i/8<l.length:=by omega
  refine ElemV.bs (hS.ext hx2) rfl (8+i/8) Oo hj ?_;intro eb eo hcell;have hlt:=qac (l[8+i/8]);have hpw:2 ^ (i%8)≤2 ^ 7:=Nat.pow_le_pow_right Od Oo;have hpp:=Nat.two_pow_pos (i%8);simp only [Nat.reducePow] at hpw;refine zu ?_;refine LoadV.of hcell (zu ?_);refine V.Wit.shlN (a:=1) (i%8) Oo (by show i%8<8;omega) (qez Oo) ?_;rw [Nat.one_mul];refine zu ?_;refine Wit.eq (qbp (k:=.u8) (m:=(l[8+i/8]).toNat) (i%8) Oo (qez hlt) ⟨by omega,by omega⟩) ?_;have hm8:(l[8+i/8]).toNat%2 ^ (i%8)<256:=Nat.lt_of_le_of_lt (Nat.mod_le _ _) hlt;refine zu ?_;refine ⟨ii (qe2 ((l[8+i/8]).toNat%2 ^ (i%8))),qko _ _ hm8,?_⟩;have h8:qe2 ((l[8+i/8]).toNat%2 ^ (i%8))≤8:=by unfold qe2;omega
  refine zu ?_;refine V.Fall.max2 rfl rfl rfl fun mx hmx=>?_;(conv=>whnf);refine V.Fall.min2 rfl rfl rfl fun mn hmn=>?_;(conv=>whnf);refine ⟨congrArg (Value.int .i64) ?_,hx2⟩;rw [if_neg Oo,if_neg Oo,List.getD_eq_getElem?_getD,zge hj,Option.getD_some];omega
theorem qdj (b off i wd cp:Nat) (P:oA) (p:LB) (w:World) (h1:w.cell? ⟨b,off+1,none⟩=some (ii wd)) (h5:w.cell? ⟨b,off+5,none⟩=some (.slice P p.length cp)) (hP:SlAt encB 1 w P p) (hw:wd≤23) (hi:i≤4194304) :
  Gv Tryz.prog 155 [.pointer (some ⟨b,off,none⟩),ii i] w fun r w'=>r=ii (numP p wd i)∧Ext w w':=by
 have hb:i*wd≤4194304*23:=Nat.mul_le_mul hi hw;rw [numP];obtain ⟨f,ef⟩:∃ f,f=i*wd:=⟨_,rfl⟩
 have efi:(i:Int)*(wd:Int)=(f:Int):=by rw [ef,Int.natCast_mul]
 rw [← ef] at hb ⊢;obtain ⟨m,em⟩:∃ m,m=p.drop (f/8):=⟨_,rfl⟩
 have hml:m.length=p.length-f/8:=by rw [em,zld]
 rw [← em];refine ze Tryz.func155 Tryz.ntmps155 ?_;refine LoadV.of h1 (zw ?_);rw [efi];refine zv ?_;refine qy (fun k:Nat=>[(0,.pointer (some ⟨b,off,none⟩)),(5,ii f),(6,ii (leN (m.take k))),(7,ii k)]) (fun k w'=>k≤4∧k≤m.length∧w'=w) (fun k=>4-k) 0 ⟨rfl,rfl,rfl,rfl,trivial⟩ ⟨by omega,by omega,rfl⟩ ?_;rintro k w1 ρ' ⟨k1,k2,rfl⟩;have hlt:=qa1 m k k2;have hp:=pow8 k k1;have fin:∀ x,x=leN (m.take 4)→x<4294967296:=fun x hx=>by
  rw [hx];have:=qu1 (m.take 4);have h3:256 ^ (m.take 4).length≤256 ^ 4:=Nat.pow_le_pow_right Od Ys;have h4:(256:Nat) ^ 4=4294967296:=by decide
  omega
 have hpw:2 ^ wd≤2 ^ 23:=Nat.pow_le_pow_right Od hw;have hpp:=Nat.two_pow_pos wd;simp only [Nat.reducePow] at hpw;(conv=>whnf);refine zC (fun _=>zu ?_) (fun _=>zu ?_)
 ·refine LoadV.of h5 (zw ?_);refine zt ?_;refine zC (fun _=>zw ?_) (fun _=>zw ?_)
  ·have hk:k<m.length:=by omega
   refine LoadV.of h5 (zu ?_);refine ElemV.bs hP rfl (f/8+k) Oo Oo ?_;intro eb eo hc;have hmk:p[f/8+k]' Oo=m[k]:=by simp [em]
   rw [hmk] at hc;have hb4:=qac m[k];have hp:=pow8 (k+1) Oo;have hlt1:=qa1 m (k+1) Oo;rw [qjp m k hk] at hlt1;(conv=>whnf);refine LoadV.of hc (zu ?_);refine V.Wit.shlN (8*k) Oo (by show 8*k<64;omega) (qa7 Oo) (zw ?_);refine Wit.eq (qc3 (8*k) (qa7 Oo) hlt) (zu ?_);exact ⟨k+1,⟨rfl,rfl,by rw [qjp m k hk];rfl,rfl,trivial⟩,⟨by omega,by omega,rfl⟩,by omega⟩
  ·have e4:leN (m.take k)=leN (m.take 4):=by rw [List.take_of_length_le Oo,List.take_of_length_le Oo]
   rw [e4];have hx:=fin _ rfl;generalize leN (m.take 4)=x at hx ⊢;have hx2:x/2 ^ (f%8)≤x:=Nat.div_le_self _ _;refine zy ?_;refine zv ?_;refine V.Wit.shrN (f%8) Oo (by show f%8<64;omega) (zu ?_);refine LoadV.of h1 (zu ?_);refine V.Wit.shlN (a:=1) wd Oo (by show wd<64;omega) (qa7 Oo) ?_;rw [Nat.one_mul];refine zu ?_;refine Wit.eq (qbp (k:=.i64) (m:=x/2 ^ (f%8)) wd Oo (qa7 Oo) ⟨by omega,by omega⟩) (zu ?_);exact ⟨rfl,(Ext.refl w1).drew⟩
 ·obtain rfl:k=4:=by omega
  have hx:=fin _ rfl;generalize leN (m.take 4)=x at hx ⊢;have hx2:x/2 ^ (f%8)≤x:=Nat.div_le_self _ _;refine zy ?_;refine zv ?_;refine V.Wit.shrN (f%8) Oo (by show f%8<64;omega) (zu ?_);refine LoadV.of h1 (zu ?_);refine V.Wit.shlN (a:=1) wd Oo (by show wd<64;omega) (qa7 Oo) ?_;rw [Nat.one_mul];refine zu ?_;refine Wit.eq (qbp (k:=.i64) (m:=x/2 ^ (f%8)) wd Oo (qa7 Oo) ⟨by omega,by omega⟩) (zu ?_);exact ⟨rfl,(Ext.refl w1).drew⟩
def fnA (n:Nat) (F:Nat→Value):Array Value:=((List.range n).map F).toArray
def updF (F:Nat→Value) (i:Nat) (v:Value):Nat→Value:=fun j=>if j=i then v else F j
theorem qb9 (F:Nat→Value) (i:Nat) (v:Value):updF F i v i=v:=by simp [updF]
theorem qab (F:Nat→Value) (i j:Nat) (v:Value) (h:j≠i):updF F i v j=F j:=by simp [updF,h]
theorem qw (n:Nat) (F:Nat→Value):(fnA n F).size=n:=by simp [fnA]
theorem qbc (n:Nat) (F:Nat→Value) (i:Nat) (h:i<n):(fnA n F)[i]?=some (F i):=by
 rw [fnA,List.getElem?_toArray,List.getElem?_map,List.getElem?_range h];rfl
theorem qe6 (n:Nat) (F:Nat→Value) (i:Nat) (v:Value):(fnA n F).setIfInBounds i v=fnA n (updF F i v):=by
 rw [← Array.toList_inj];simp only [fnA,Array.toList_setIfInBounds];apply List.ext_getElem?;intro j;rw [List.getElem?_set,List.getElem?_map,List.getElem?_map]
 by_cases e:i=j
 ·subst e;rw [if_pos rfl]
  by_cases h:i<n
  ·rw [if_pos (by simpa using h),List.getElem?_range h];simp [updF]
  ·rw [if_neg (by simpa using h),List.getElem?_eq_none (by simpa using h)];rfl
 ·rw [if_neg e]
  by_cases h:j<n
  ·rw [List.getElem?_range h];simp [updF,Ne.symm e]
  ·rw [List.getElem?_eq_none (by simpa using h)];rfl
theorem V.LoadV.fn {w0 w:World} {L:List (Nat × Obj)} {i b off n:Nat} {F:Nat→Value} {t:TypeId} {v:Value} {K:Value→Prop} (h:Mem w0 w L) (hi:L[i]?=some (b,.cells (fnA n F) t)) (j:Nat) (e:off=j) (hj:j<n) (hv:F j=v) (hk:K v):LoadV w b off K:=by
 subst e;exact LoadV.mem h hi (by rw [qbc n F _ hj,hv]) hk
theorem V.StoreV.fn {w0 w:World} {L:List (Nat × Obj)} {i b off n:Nat} {F:Nat→Value} {t:TypeId} {v:Value} {K:World→Prop} (h:Mem w0 w L) (hi:L[i]?=some (b,.cells (fnA n F) t)) (j:Nat) (e:off=j) (hj:j<n) (h1:qc1 v=true)
  (hk:∀ w',Mem w0 w' (L.set i (b,.cells (fnA n (updF F j v)) t))→K w'):StoreV w b off v K:=by
 subst e;refine StoreV.mem h hi (by rw [qw];exact hj) h1 fun w' hm=>hk w' ?_
 rwa [qe6] at hm
theorem lvSz:tsz Tryz.prog 198=8:=by kernel_rfl
theorem qte (l:LB) (v:Value) (tb cb:Nat) (F:Nat→Value) (w0 w:World) (hm:Mem w0 w [(cb,curO 244 v 0 0),(tb,.cells (fnA 32 F) 201)]) (hv0:BS w0 v l) (hl:l.length≤140737488355328) :
  Gv Tryz.prog 104 [pp tb,pp cb] w fun r w'=>
   ((errF (tcF l) 4).2≠0∧ErrAt w' r (errF (tcF l) 4).1 (errF (tcF l) 4).2∧Ext w0 w')∨
   ((∀ k,k<4→(tcF l k).2=0)∧r=.nilIface∧∃ F',(∀ k,k<4→F' (8*k)=ii (vNum l k))∧(∀ j,j%8≠0→F' j=F j)∧Mem w0 w' [(cb,curO 244 v (vAt l 4) 0),(tb,.cells (fnA 32 F') 201)]):=by
 refine ze Tryz.func104 Tryz.ntmps104 ?_;refine qy (fun x:Nat × (Nat→Value)=>[(0,pp tb),(1,pp cb),(4,.nilIface),(9,ii x.1)])
  (fun x w'=>x.1≤4∧(∀ j,j<x.1→(tcF l j).2=0)∧(∀ k,k<x.1→x.2 (8*k)=ii (vNum l k))∧(∀ j,j%8≠0→x.2 j=F j)∧Mem w0 w' [(cb,curO 244 v (vAt l x.1) 0),(tb,.cells (fnA 32 x.2) 201)]) (fun x=>4-x.1) (0,F)
  ⟨rfl,rfl,rfl,rfl,trivial⟩ ⟨by simp,fun j h=>by simp at h,fun j h=>by simp at h,fun j _=>rfl,hm⟩ ?_
 clear hm;rintro ⟨k,F1⟩ w1 ρ' ⟨k1,hz,hF,hF2,hm⟩;dsimp only at k1 hz hF hF2 hm ⊢;(conv=>whnf);refine zC (fun _=>zw ?_) (fun _=>zw ?_)
 ·have hv:BS w1 v l:=hv0.ext hm.ext;have hle:=qf8 l k;have hlt:=qtp l k;refine zcv (qiz cb _ (vAt l k) 0 w1 (hm.get mh)) ?_;rintro r w2 ⟨rfl,rfl⟩;(conv=>whnf);refine zcv (qcm cb _ (vAt l k) 0 l _ (hm.get mh) hv hle hl) ?_;rintro r w3 ⟨rfl,hu⟩
  by_cases he:(numL (l.drop (vAt l k))).2.2=0
  ·rw [qo9 he,qpa he] at hu;rw [qo8 he];have hm:Mem w0 w3 [(cb,curO 244 v (vAt l (k+1)) 0),(tb,.cells (fnA 32 F1) 201)]:=hm.upd (i:=0) rfl hu;(conv=>whnf);refine zcv (qb4 cb _ _ 0 w3 (hm.get mh)) ?_;rintro r w4 ⟨rfl,rfl⟩;(conv=>whnf);refine zt ?_;refine zC (fun _=>zu ?_) (fun _=>zu ?_)
   ·have hf:tcF l k=(vAt l k,2):=by rw [tcF,qkm he Oo,if_pos Js]
    refine zcv (qaf (vAt l k) 2 _) ?_;rintro r w7 ⟨⟨eb,rfl,hec⟩,he7⟩;have hE:=qbx (f:=tcF l) (n:=4) (k:=k) hz Oo (by rw [hf];simp);(conv=>whnf);refine .inl ⟨by rw [hE,hf];simp,?_,hm.ext.trans he7⟩;rw [hE,hf];exact ⟨eb,rfl,hec⟩
   ·refine StoreV.fn hm (i:=1) rfl (8*k) (by rw [lvSz];dsimp only;omega) Oo rfl ?_;intro w5 hm;have hm:Mem w0 w5 [(cb,curO 244 v (vAt l (k+1)) 0),(tb,.cells (fnA 32 (updF F1 (8*k) (ii (vNum l k)))) 201)]:=hm;(conv=>whnf);refine zC (fun _=>zu ?_) (fun _=>zu ?_)
    ·refine IdxV.at_ (k-1) Oo Oo (zu ?_);refine LoadV.fn (v:=ii (vNum l (k-1))) hm (i:=1) rfl (8*(k-1)) (by rw [lvSz];dsimp only;omega) Oo (by rw [qab _ _ _ _ Oo];exact hF (k-1) Oo) (zw ?_);refine zt ?_;refine zC (fun _=>zu ?_) (fun _=>zu ?_)
     ·have hf:tcF l k=(vAt l k,180):=by rw [tcF,qc0 he Oo,if_neg Js,if_pos ⟨by omega,by omega⟩]
      refine zcv (qaf (vAt l k) 180 _) ?_;rintro r w7 ⟨⟨eb,rfl,hec⟩,he7⟩;have hE:=qbx (f:=tcF l) (n:=4) (k:=k) hz Oo (by rw [hf];simp);(conv=>whnf);refine .inl ⟨by rw [hE,hf];simp,?_,hm.ext.trans he7⟩;rw [hE,hf];exact ⟨eb,rfl,hec⟩
     ·refine IdxV.at_ (k-1) Oo Oo (zu ?_);refine LoadV.fn (v:=ii (vNum l (k-1))) hm (i:=1) rfl (8*(k-1)) (by rw [lvSz];dsimp only;omega) Oo (by rw [qab _ _ _ _ Oo];exact hF (k-1) Oo) (zu ?_);refine Tst.iff (vNum l (k-1)=0↔vNum l k=0) (by rw [beq_iff_eq,decide_eq_decide];omega) (fun h=>?_) (fun h=>?_)
      ·refine zu ?_;have hf:(tcF l k).2=0:=by rw [tcF,qc0 he Oo,if_neg Js,if_neg Oo]
       refine ⟨(k+1,updF F1 (8*k) (ii (vNum l k))),⟨rfl,rfl,rfl,rfl,trivial⟩,⟨by simp only;omega,fun j hj=>?_,fun j hj=>?_,fun j hj=>?_,hm⟩,by simp only;omega⟩
       ·by_cases e:j=k
        ·subst e;exact hf
        ·exact hz j (by simp only at hj;omega)
       ·by_cases e:j=k
        ·subst e;exact qb9 _ _ _
        ·simp only at hj ⊢;rw [qab _ _ _ _ Oo];exact hF j Oo
       ·simp only;rw [qab _ _ _ _ Oo];exact hF2 j hj
      ·(conv=>whnf);have hf:tcF l k=(vAt l k,180):=by rw [tcF,qc0 he Oo,if_neg Js,if_pos ⟨by omega,.inr h⟩]
       refine zcv (qaf (vAt l k) 180 _) ?_;rintro r w7 ⟨⟨eb,rfl,hec⟩,he7⟩;have hE:=qbx (f:=tcF l) (n:=4) (k:=k) hz Oo (by rw [hf];simp);(conv=>whnf);refine .inl ⟨by rw [hE,hf];simp,?_,hm.ext.trans he7⟩;rw [hE,hf];exact ⟨eb,rfl,hec⟩
    ·have hk0:k=0:=by omega
     have hf:(tcF l k).2=0:=by rw [tcF,qc0 he Oo,if_neg Js,if_neg Oo]
     refine ⟨(k+1,updF F1 (8*k) (ii (vNum l k))),⟨rfl,rfl,rfl,rfl,trivial⟩,⟨by simp only;omega,fun j hj=>?_,fun j hj=>?_,fun j hj=>?_,hm⟩,by simp only;omega⟩
     ·by_cases e:j=k
      ·subst e;exact hf
      ·exact hz j (by simp only at hj;omega)
     ·by_cases e:j=k
      ·subst e;exact qb9 _ _ _
      ·simp only at hj ⊢;rw [qab _ _ _ _ Oo];exact hF j Oo
     ·simp only;rw [qab _ _ _ _ Oo];exact hF2 j hj
  ·rw [qo6 he,qo7 he] at hu;rw [qo5 he];have hm:Mem w0 w3 [(cb,curO 244 v (vAt l k) (numL (l.drop (vAt l k))).2.2),(tb,.cells (fnA 32 F1) 201)]:=hm.upd (i:=0) rfl hu;(conv=>whnf);refine zcv (qb4 cb _ _ _ w3 (hm.get mh)) ?_;rintro r w4 ⟨rfl,rfl⟩;refine zu ?_;have hf:tcF l k=(vAt l k,(numL (l.drop (vAt l k))).2.2):=by rw [tcF,qcp he,if_pos he]
   refine zcv (qaf (vAt l k) (numL (l.drop (vAt l k))).2.2 _) ?_;rintro r w7 ⟨⟨eb,rfl,hec⟩,he7⟩;have hE:=qbx (f:=tcF l) (n:=4) (k:=k) hz Oo (by rw [hf];exact he);(conv=>whnf);refine .inl ⟨by rw [hE,hf];exact he,?_,hm.ext.trans he7⟩;rw [hE,hf];exact ⟨eb,rfl,hec⟩
 ·obtain rfl:k=4:=by omega
  exact .inr ⟨hz,rfl,F1,hF,hF2,hm⟩
namespace V
def qvs (n:Nat) (ops:Array Oper):Bool:=
 Region.noSelect ops&&(List.range ops.size).all fun j=>
  match ops[j]? with
  | none=>true
  | some o=>(qx o).all (fun k=>decide (k<j))&&(match o.dst with|some d=>decide (d<n)|none=>true)&&(List.range ops.size).all fun k=>
   match ops[k]? with
   | none=>true
   | some ok=>match ok.dst with
    | none=>true
    | some t=>(!(o.looksAt ops).contains t||((qx o).contains k||(qx ok).contains j))&&(k==j||o.dst != some t)
structure ShapeW (n:Nat) (ops:Array Oper):Prop where
 sel:Region.noSelect ops=true
 lt:∀ (j:Nat) (o:Oper),ops[j]?=some o→∀ k∈qx o,k<j
 dn:∀ (j:Nat) (o:Oper),ops[j]?=some o→∀ d,o.dst=some d→d<n
 look:∀ (j:Nat) (o:Oper) (k:Nat) (ok:Oper) (t:Nat),ops[j]?=some o→ops[k]?=some ok→ok.dst=some t→t∈o.looksAt ops→k∈qx o∨j∈qx ok
 uniq:∀ (j:Nat) (o:Oper) (k:Nat) (ok:Oper) (t:Nat),ops[j]?=some o→ops[k]?=some ok→ok.dst=some t→o.dst=some t→k=j
theorem qq8 {n:Nat} {ops:Array Oper} (h:qvs n ops=true):ShapeW n ops:=by
 simp only [qvs,Bool.and_eq_true] at h;obtain ⟨h1,h2⟩:=h;have key:∀ (j:Nat) (o:Oper),ops[j]?=some o→((qx o).all (fun k=>decide (k<j))&&(match o.dst with|some d=>decide (d<n)|none=>true)&&(List.range ops.size).all fun k=>
   match ops[k]? with
   | none=>true
   | some ok=>match ok.dst with
    | none=>true
    | some t=>(!(o.looksAt ops).contains t||((qx o).contains k||(qx ok).contains j))&&(k==j||o.dst != some t))=true:=fun j o hj=>by
  have:=List.all_eq_true.1 h2 j (List.mem_range.2 (Array.getElem?_eq_some_iff.1 hj).1);rw [hj] at this;exact this
 have key2:∀ (j:Nat) (o:Oper) (k:Nat) (ok:Oper) (t:Nat),ops[j]?=some o→ops[k]?=some ok→ok.dst=some t→((!(o.looksAt ops).contains t||((qx o).contains k||(qx ok).contains j))&&(k==j||o.dst != some t))=true:=fun j o k ok t hj hk ht=>by
  have:=key j o hj;simp only [Bool.and_eq_true] at this;have:=List.all_eq_true.1 this.2 k (List.mem_range.2 (Array.getElem?_eq_some_iff.1 hk).1);rw [hk] at this;simp only [ht] at this
  simpa using this
 refine ⟨h1,fun j o hj k hk=>?_,fun j o hj d hd=>?_,fun j o k ok t hj hk ht hl=>?_,fun j o k ok t hj hk ht ho=>?_⟩
 ·have:=key j o hj;simp only [Bool.and_eq_true] at this
  simpa using List.all_eq_true.1 this.1.1 k hk
 ·have:=key j o hj;simp only [Bool.and_eq_true] at this;have:=this.1.2;rw [hd] at this
  simpa using this
 ·have:=key2 j o k ok t hj hk ht;simp only [Bool.and_eq_true,Bool.or_eq_true,Bool.not_eq_true'] at this
  rcases this.1 with h|h
  ·rw [List.contains_eq_mem,decide_eq_false_iff_not] at h;exact absurd hl h
  ·simpa using h
 ·have:=key2 j o k ok t hj hk ht;simp only [Bool.and_eq_true,Bool.or_eq_true,beq_iff_eq] at this
  rcases this.2 with h|h
  ·exact h
  ·rw [ho] at h;simp at h
section
variable {P:Program} {n:Nat} {ops:Array Oper} {w0:World} {E:List Ent} {ρ:Nat→Value}
theorem qg2 (hd:∀ (i:Nat) (o:Oper) (e:Ent),ops[i]?=some o→E[i]?=some e→EntOk e o) (hl:E.length=ops.size) (hS:ShapeW n ops) {listed:Array Bool} {vals ρa:Nat→Value} {a:Act} {w:World} (I:InvD n E w0 ρ listed vals ρa a w)
  (i:Nat) (ks:List Nat) (t:Nat) (h1:∀ (k:Nat) (e:Ent),E[k]?=some e→e.d=some t→k<i→listed.getD k false=true∧(e.v=none→k∈ks)) (h2:∀ (k:Nat) (e:Ent),E[k]?=some e→e.d=some t→listed.getD k false=true→k<i) :
  fr (E.take i) vals ks (sfr (E.take i) ρ) t=ρa t:=by
 have op_of:∀ (k:Nat) (e:Ent),E[k]?=some e→∃ o,ops[k]?=some o∧EntOk e o:=fun k e hk=>by
  have hlt:k<ops.size:=by
   rw [← hl]
   rcases Nat.lt_or_ge k E.length with h|h
   ·exact h
   ·rw [List.getElem?_eq_none h] at hk;cases hk
  exact ⟨ops[k],Array.getElem?_eq_getElem hlt,hd k _ e (Array.getElem?_eq_getElem hlt) hk⟩
 have uniq:∀ (k k':Nat) (e e':Ent),E[k]?=some e→E[k']?=some e'→e.d=some t→e'.d=some t→k'=k:=fun k k' e e' hk hk' hd1 hd2=>by
  obtain ⟨o,ho,hok⟩:=op_of k e hk;obtain ⟨o',ho',hok'⟩:=op_of k' e' hk';exact hS.uniq k o k' o' t ho ho' (hok'.d ▸ hd2) (hok.d ▸ hd1)
 have inE:∀ (k:Nat) (e:Ent),getL (E.take i) k=some e→E[k]?=some e∧k<i:=fun k e hk=>by
  rw [qo,List.getElem?_take] at hk
  split at hk
  ·exact ⟨hk,by assumption⟩
  ·cases hk
 by_cases hex:∃ (k:Nat) (e:Ent),E[k]?=some e∧e.d=some t∧k<i
 ·obtain ⟨k,e,hk,hdt,hki⟩:=hex;obtain ⟨hlis,hks⟩:=h1 k e hk hdt hki;obtain ⟨o,ho,hok⟩:=op_of k e hk;have hra:=I.at_ k hlis e t hk hdt;have hmem:e∈E.take i:=zmg (i:=k) (by rw [List.getElem?_take,if_pos hki];exact hk);have huE:∀ e'∈E.take i,e'.d=some t→e'=e:=fun e' he' hd'=>by
   obtain ⟨k',hk'⟩:=List.mem_iff_getElem?.1 he';have hk'':=(inE k' e' (by rw [qo];exact hk')).1;have:=uniq k k' e e' hk hk'' hdt hd';subst this;rw [hk] at hk'';exact (Option.some.inj hk'').symm
  cases hv:e.v with
  | some x=>
   have hx:vals k=x:=hok.v x hv _ _ (I.φ k hlis e hk);rw [qib,qta _ _ (fun e' he' hd'=>by rw [huE e' he' hd'];exact hv) (.inr ⟨e,hmem,hdt⟩),hra,hx];intro k' _ φ hk';have:=huE _ (zmg (i:=k') (by rw [qo] at hk';exact hk')) rfl;rw [← this] at hv;cases hv
  | none=>
   obtain ⟨ed,ev,eφ⟩:=e;simp only at hdt hv;subst hdt hv;rw [qzt (k0:=k) rfl (fun k' φ hk'=>?_) _ _ (.inr ⟨hks rfl,eφ,by rw [qo,List.getElem?_take,if_pos hki];exact hk⟩),hra];exact uniq k k' _ _ hk (inE k' _ hk').1 rfl rfl
 ·have hno:∀ k e,E[k]?=some e→k<i→e.d≠some t:=fun k e hk hki hd=>hex ⟨k,e,hk,hd,hki⟩
  rw [qib,qom]
  ·refine (I.miss t fun k hk e he hd=>?_).symm;exact hno k e he (h2 k e he hd hk) hd
  ·intro e he hd;obtain ⟨k',hk'⟩:=List.mem_iff_getElem?.1 he;obtain ⟨h3,h4⟩:=inE k' e (by rw [qo];exact hk');exact absurd hd (hno k' e h3 h4)
  ·intro k' _ φ hk';obtain ⟨h3,h4⟩:=inE k' _ hk';exact hno k' _ h3 h4 rfl
theorem ql6 {o:Oper} {ρ' ρa:Nat→Value} {a:Act} {w:World} {K:Value→World→Prop} {K2:Act→World→Prop} {Q':Exit→Act→World→Prop} {i:Nat} (hi:ops[i]?=some o) (hS:ShapeW n ops)
  (ha:St n ρa a) (hag:∀ t∈o.looksAt ops,ρ' t=ρa t) (h:qa6 P ops.toList o ρ' w K) (hk:∀ v w',K v w'→K2 (a.put o.dst v) w'):wpOp P ops Q' i K2 a w:=by
 have hsel:=Region.noSelect_spec hS.sel i o;have run:opV P o ρ' w K→Region.wanted o (yielded ops a.tmps)=true→wpOp P ops Q' i K2 a w:=fun h hw=>by
  unfold wpOp;rw [hi];simp only [hw,if_true];have hok:=qvf h;rw [q03 (ops:=ops) (fun cs b=>hsel cs b hi) hag] at hok;exact .inl (OpOk.wp ha.eval hok hk)
 have skip:K undef w→Region.wanted o (yielded ops a.tmps)=false→wpOp P ops Q' i K2 a w:=fun h hw=>by
  unfold wpOp;rw [hi];simp only [hw,Bool.false_eq_true,if_false];exact hk _ _ h
 unfold qa6 at h
 split at h
 ·rename_i hg
  exact run h (by simp [Region.wanted,hg])
 ·rename_i j want hg
  split at h
  ·rename_i hj
   rw [qo] at hj;have:ops[j]?=none:=by simpa using hj
   exact skip h (by simp [Region.wanted,hg,yielded,this])
  ·rename_i oj hj
   have hj':=hj;rw [qo] at hj';have hoj:ops[j]?=some oj:=by simpa using hj'
   split at h
   ·rename_i hd
    exact skip h (by simp [Region.wanted,hg,yielded,hoj,hd])
   ·rename_i d hd
    have hy:=ha.yield hj hd (hS.dn j oj hoj d hd);rw [Array.toArray_toList] at hy;rw [hag d (qg6 hg hoj hd)] at h
    split at h
    ·rename_i b hb
     rw [hb] at hy;cases b
     ·have h:=h.f rfl;cases want
      ·exact run h (by simp [Region.wanted,hg,hy])
      ·exact skip h (by simp [Region.wanted,hg,hy])
     ·have h:=h.t rfl;cases want
      ·exact skip h (by simp [Region.wanted,hg,hy])
      ·exact run h (by simp [Region.wanted,hg,hy])
    ·rename_i hb
     refine skip h ?_;have:yielded ops a.tmps j=none:=by
      rw [hy]
      split
      ·rename_i b hb';exact absurd hb' (hb b)
      ·rfl
     simp [Region.wanted,hg,this]
theorem qt0 {Q:(Nat→Value)→World→Prop} {Q':Exit→Act→World→Prop} (hQ:∀ ρ a w,St n ρ a→Q ρ w→Q' .normal a w) (hS:ShapeW n ops) (hl:E.length=ops.size)
  (hE:∀ (i:Nat) (o:Oper) (e:Ent),ops[i]?=some o→E[i]?=some e→EntOk e o∧
   ∀ w,Ext w0 w→allv (E.take i) (qx o) (sfr (E.take i) ρ) w fun ρ'=>qa6 P ops.toList o ρ' w fun v w'=>Ext w w'∧e.φ v w')
  (hF:∃ ks:List Nat,(∀ k d φ,getL E k=some ⟨some d,none,φ⟩→k∈ks)∧∀ w,Ext w0 w→allv E ks (sfr E ρ) w fun ρ'=>Q ρ' w) :
  ∀ (fuel:Nat) (listed:Array Bool) (vals ρa:Nat→Value) (a:Act) (w:World),listed.size=ops.size→listed.toList.count false≤fuel→(∀ k,listed.getD k false=true→∀ o,ops[k]?=some o→∀ j∈qx o,listed.getD j false=true)→InvD n E w0 ρ listed vals ρa a w→wpAny P .any ops Q' fuel listed a w:=by
 obtain ⟨ks,hks,hF⟩:=hF;have hd:∀ (i:Nat) (o:Oper) (e:Ent),ops[i]?=some o→E[i]?=some e→EntOk e o:=fun i o e h1 h2=>(hE i o e h1 h2).1
 have hlt:∀ (k:Nat) (e:Ent),E[k]?=some e→k<ops.size:=fun k e hk=>by
  rw [← hl]
  rcases Nat.lt_or_ge k E.length with h|h
  ·exact h
  ·rw [List.getElem?_eq_none h] at hk;cases hk
 have final:∀ (listed:Array Bool) (vals ρa:Nat→Value) (a:Act) (w:World),(∀ k,k<ops.size→listed.getD k false=true)→InvD n E w0 ρ listed vals ρa a w→Q' .normal a w:=fun listed vals ρa a w hall I=>by
  have h:=qhw (vals:=vals) _ _ (fun k _ e hk=>by
   rw [qo] at hk;exact I.φ k (hall k (hlt k e hk)) e hk) (hF w I.ext)
  have he:fr E vals ks (sfr E ρ)=ρa:=by
   funext t
   have:=qg2 hd hl hS I E.length ks t (fun k e hk hdt hki=>⟨hall k (hlt k e hk),fun hv=>hks k t e.φ (by
    obtain ⟨ed,ev,eφ⟩:=e;simp only at hdt hv;subst hdt hv;rw [qo];exact hk)⟩) (fun k e hk _ _=>by rw [hl];exact hlt k e hk)
   rwa [List.take_length] at this
  rw [he] at h;exact hQ _ _ _ I.st h
 have nodone:∀ (listed:Array Bool),listed.size=ops.size→Region.ready .any ops listed=[]→∀ k,k<ops.size→listed.getD k false=true:=fun listed hsz hr k hk=>by
  induction k using Nat.strongRecOn with
  | _ k ih=>
   cases hv:listed.getD k false with
   | true=>rfl
   | false=>
    exfalso
    have hmem:k∈Region.ready .any ops listed:=by
     refine mem_ready.2 ⟨?_,ops[k],Array.getElem?_eq_getElem hk,fun e he hb=>?_⟩
     ·have:k<listed.size:=by omega
      simp [this] at hv ⊢;exact hv
     ·rw [qbu] at hb;have hp:e.on∈qx ops[k]:=qav.2 ⟨e,by simpa using he,hb,rfl⟩;have h1:=hS.lt k _ (Array.getElem?_eq_getElem hk) _ hp;exact ih _ h1 Oo
    rw [hr] at hmem;cases hmem
 intro fuel
 induction fuel with
 | zero=>
  intro listed vals ρa a w hsz hc hdc I;have hall:∀ k,k<ops.size→listed.getD k false=true:=fun k hk=>by
   have h0:listed.toList.count false=0:=by omega
   have h1:=List.count_eq_zero.1 h0;have hk':k<listed.size:=by omega
   cases hv:listed[k] with
   | true=>simp [hk',hv]
   | false=>exact absurd (by rw [← hv];exact Array.mem_toList_iff.2 (Array.getElem_mem hk')) h1
  refine ⟨?_,final listed vals ρa a w hall I⟩;rw [List.eq_nil_iff_forall_not_mem];intro j hj;obtain ⟨h1,o,ho,_⟩:=mem_ready.1 hj;have h2:=hall j (Array.getElem?_eq_some_iff.1 ho).1;have hk':j<listed.size:=by have:=(Array.getElem?_eq_some_iff.1 ho).1;omega
  simp [hk'] at h1 h2;rw [h1] at h2;cases h2
 | succ fuel ih=>
  intro listed vals ρa a w hsz hc hdc I;refine ⟨fun hr=>final listed vals ρa a w (nodone listed hsz hr) I,fun i hi=>?_⟩;obtain ⟨hun,o,ho,hall⟩:=mem_ready.1 hi;have hio:i<ops.size:=(Array.getElem?_eq_some_iff.1 ho).1;have hiE:i<E.length:=by omega
  obtain ⟨hok,hspec⟩:=hE i o E[i] ho (zge hiE);have hpl:∀ k∈qx o,listed.getD k false=true:=fun k hk=>by
   obtain ⟨e,he,hb,hon⟩:=qav.1 hk;rw [← hon];exact hall e (by simpa using he) (by rw [qbu];exact hb)
  have h:=qhw (vals:=vals) _ _ (fun k hk e he=>by
   rw [qo,List.getElem?_take,if_pos (hS.lt i o ho k hk)] at he;exact I.φ k (hpl k hk) e he) (hspec w I.ext)
  have hag:∀ t∈o.looksAt ops,fr (E.take i) vals (qx o) (sfr (E.take i) ρ) t=ρa t:=fun t ht=>by
   have hp:∀ (k:Nat) (e:Ent),E[k]?=some e→e.d=some t→k∈qx o∨(i<k∧listed.getD k false≠true):=fun k e hk hdt=>by
    have hk':=hlt k e hk
    rcases hS.look i o k ops[k] t ho (Array.getElem?_eq_getElem hk') ((hd k _ e (Array.getElem?_eq_getElem hk') hk).d ▸ hdt) ht with h|h
    ·exact .inl h
    ·refine .inr ⟨hS.lt k _ (Array.getElem?_eq_getElem hk') i h,fun hl=>?_⟩;have:=hdc k hl _ (Array.getElem?_eq_getElem hk') i h;have hi':i<listed.size:=by omega
     simp [hi'] at hun this;rw [hun] at this;cases this
   exact qg2 hd hl hS I i (qx o) t (fun k e hk hdt hki=>by
    rcases hp k e hk hdt with h|h
    ·exact ⟨hpl k h,fun _=>h⟩
    ·omega) (fun k e hk hdt hlk=>by
    rcases hp k e hk hdt with h|h
    ·exact hS.lt i o ho k h
    ·exact absurd hlk h.2)
  refine ql6 ho hS I.st hag h fun v w' ⟨hx,hφ⟩=>?_;have hgd:∀ k,(listed.setIfInBounds i true).getD k false=true→k=i∨(k≠i∧listed.getD k false=true):=fun k hk=>by
   by_cases hki:k=i
   ·exact .inl hki
   ·rw [getD_set_ne false (fun e=>hki e.symm)] at hk;exact .inr ⟨hki,hk⟩
  have hnl:listed.getD i false=false:=by
   have:i<listed.size:=by omega
   simp [this] at hun ⊢;exact hun
  refine ih _ (fun k=>if k=i then v else vals k) (match o.dst with|some d=>upd ρa d v|none=>ρa) _ _ (by simp [hsz]) (by have:=qce listed i hun;omega) (fun k hk o' ho' j hj=>by
   have hset:∀ j,listed.getD j false=true→(listed.setIfInBounds i true).getD j false=true:=fun j hj=>by
    by_cases hji:j=i
    ·subst hji;rw [hnl] at hj;cases hj
    ·rw [getD_set_ne false (fun e=>hji e.symm)];exact hj
   rcases hgd k hk with rfl|⟨hki,hk⟩
   ·rw [ho] at ho';cases ho';exact hset j (hpl j hj)
   ·exact hset j (hdc k hk o' ho' j hj)) ⟨I.ext.trans hx,?_,?_,?_,?_⟩
  ·cases hdd:o.dst with
   | none=>exact I.st
   | some d=>exact I.st.put (hS.dn i o ho d hdd) v
  ·intro k hk e he
   rcases hgd k hk with rfl|⟨hki,hk⟩
   ·rw [zge hiE] at he;cases he
    simpa using hφ
   ·simp only [if_neg hki];have hk':=hlt k e he;exact (hd k _ e (Array.getElem?_eq_getElem hk') he).st _ _ _ (I.φ k hk e he) hx
  ·intro k hk e d he hdd
   rcases hgd k hk with rfl|⟨hki,hk⟩
   ·rw [zge hiE] at he;cases he;rw [hok.d] at hdd;simp [hdd,qdx]
   ·simp only [if_neg hki];have hk':=hlt k e he;have hd2:=(hd k _ e (Array.getElem?_eq_getElem hk') he).d;cases ho2:o.dst with
    | none=>exact I.at_ k hk e d he hdd
    | some d2=>
     have hne:d≠d2:=by
      rintro rfl;exact hki (hS.uniq i o k _ d ho (Array.getElem?_eq_getElem hk') (hd2 ▸ hdd) ho2)
     simp only;rw [qal _ _ _ _ hne];exact I.at_ k hk e d he hdd
  ·intro t ht;have h1:ρa t=ρ t:=I.miss t fun k hk e he=>ht k (by
    by_cases hki:k=i
    ·subst hki;rw [hnl] at hk;cases hk
    ·rw [getD_set_ne false (fun e=>hki e.symm)];exact hk) e he
   cases ho2:o.dst with
   | none=>exact h1
   | some d2=>
    have hne:t≠d2:=by
     rintro rfl;refine ht i ?_ E[i] (zge hiE) (by rw [hok.d,ho2]);have:i<listed.size:=by omega
     simp [this]
    simp only;rw [qal _ _ _ _ hne];exact h1
end
theorem DrawV.freeW {P:Program} {n id:Nat} {ops:Array Oper} {Q:Exit→(Nat→Value)→World→Prop} {ρ:Nat→Value} {w:World} (hm:P.follows .mixedOrders=true) (hB:qvs n ops=true)
  (h:regD P ops.toList w.drew (fun ρ' w'=>Q .normal ρ' w') ops.toList 0 [] ρ):DrawV P n id ops Q ρ w:=by
 refine ⟨fun a ha=>wp_region_any hm ?_⟩;obtain ⟨E,h1,h2,h3⟩:=qoi ops.toList [] [] ρ (fun k=>rfl) h;refine qt0 (Q:=fun ρ' w'=>Q .normal ρ' w') (E:=E) (w0:=w.drew) (ρ:=ρ) (fun ρ a w h1 h2=>⟨ρ,h1,h2⟩) (qq8 hB) (by simpa using h1) (fun i o e ho he=>?_) (by simpa using h3) _ _ (fun _=>undef) ρ a _ Js Js (fun k hk=>by rw [qd] at hk;cases hk) ⟨xr,ha,?_,?_,fun t _=>rfl⟩
 ·have:=h2 i o e (by simpa using ho) he
  simpa using this
 ·intro k hk;rw [qd] at hk;cases hk
 ·intro k hk;rw [qd] at hk;cases hk
end V
def VecP (w:World) (V s:Value) (l:LB) (k:Nat):Prop:=
 ((k=0∨tVec l k=false)∧V=.pointer none)∨(0<k∧tVec l k=true∧∃ vb,V=pp vb∧w.heap[vb]?=some (vecO 263 s (vNum l k) (vNum l (k-1))))
structure LvAt (w:World) (b:Nat) (l:LB) (k:Nat):Prop where
 h:∃ P cp S cs V,CellsAt w b (8*k) [ii (vNum l k),ii (tw l k),ii (tvAt l k),ii (tvAt l k+1:Nat),ii (tEnd l k),.slice P (qp l k).length cp,.slice S (qg l k).length cs,V]∧
  SlAt encB 1 w P (qp l k)∧SlAt encB 1 w S (qg l k)∧(qg l k).length≤cs∧VecP w V (.slice S (qg l k).length cs) l k
theorem VecP.ext {w w':World} {V s:Value} {l:LB} {k:Nat} (h:VecP w V s l k) (he:Ext w w'):VecP w' V s l k:=by
 rcases h with h|⟨h1,h2,vb,h3,h4⟩
 ·exact .inl h
 ·exact .inr ⟨h1,h2,vb,h3,he.get h4⟩
theorem LvAt.ext {w w':World} {b:Nat} {l:LB} {k:Nat} (h:LvAt w b l k) (he:Ext w w'):LvAt w' b l k:=by
 obtain ⟨P,cp,S,cs,V,h1,h2,h3,h4,h5⟩:=h;exact ⟨P,cp,S,cs,V,h1.ext he,h2.ext he,h3.ext he,h4,h5.ext he⟩
structure TreeAt (w:World) (b:Nat) (l:LB):Prop where
 lv:∀ k,k<4→LvAt w b l k
 n:∀ k,k<4→vNum l k≤1048576
 wd:∀ k,k<4→tw l k≤23
theorem TreeAt.ext {w w':World} {b:Nat} {l:LB} (h:TreeAt w b l) (he:Ext w w'):TreeAt w' b l:=⟨fun k hk=>(h.lv k hk).ext he,h.n,h.wd⟩
def tF0 (j:Nat):Value:=if j%8<5 then ii 0 else if j%8<7 then .slice none 0 0 else .pointer none
def TVwR (l:LB) (v:Value) (w0 w:World):Prop:=
 ((tE l).2≠0∧∃ e,v=.tuple #[.pointer none,e]∧ErrAt w e (tE l).1 (tE l).2)∨
 ((tE l).2=0∧∃ b,v=.tuple #[pp b,.nilIface]∧w0.heap.size≤b∧TreeAt w b l)
def tPV (A:oA) (c:Nat) (l:LB) (k:Nat):Value:=.slice (if c=tvAt l k+1 then A else A.map (·.add ((tvAt l k+1)*1))) (tEnd l k-(tvAt l k+1)) (c-(tvAt l k+1))
def tSV (A:oA) (c:Nat) (l:LB) (k:Nat):Value:=.slice (if c=tEnd l k then A else A.map (·.add (tEnd l k*1))) (tvAt l (k+1)-tEnd l k) (c-tEnd l k)
def VecM (L:List (Nat × Obj)) (V s:Value) (l:LB) (k:Nat):Prop:=
 ((k=0∨tVec l k=false)∧V=.pointer none)∨(0<k∧tVec l k=true∧∃ vb,V=pp vb∧(vb,vecO 263 s (vNum l k) (vNum l (k-1)))∈L)
structure LvF (L:List (Nat × Obj)) (A:oA) (c:Nat) (l:LB) (F:Nat→Value) (j:Nat):Prop where
 f1:F (8*j+1)=ii (tw l j)
 f2:F (8*j+2)=ii (tvAt l j)
 f3:F (8*j+3)=ii (tvAt l j+1:Nat)
 f4:F (8*j+4)=ii (tEnd l j)
 f5:F (8*j+5)=tPV A c l j
 f6:F (8*j+6)=tSV A c l j
 f7:VecM L (F (8*j+7)) (tSV A c l j) l j
theorem LvF.same {L:List (Nat × Obj)} {A:oA} {c:Nat} {l:LB} {F G:Nat→Value} {j:Nat} (h:LvF L A c l F j) (hs:∀ i,i<8→G (8*j+i)=F (8*j+i)):LvF L A c l G j:=
 ⟨by rw [hs 1 Oo];exact h.f1,by rw [hs 2 Oo];exact h.f2,by rw [hs 3 Oo];exact h.f3,by rw [hs 4 Oo];exact h.f4,by rw [hs 5 Oo];exact h.f5,by rw [hs 6 Oo];exact h.f6,by rw [hs 7 Oo];exact h.f7⟩
theorem VecM.more {L:List (Nat × Obj)} {x:Nat × Obj} {V s:Value} {l:LB} {k:Nat} (h:VecM L V s l k):VecM (x::L) V s l k:=by
 rcases h with h|⟨h1,h2,vb,h3,h4⟩
 ·exact .inl h
 ·exact .inr ⟨h1,h2,vb,h3,zmc h4⟩
theorem LvF.more {L:List (Nat × Obj)} {x:Nat × Obj} {A:oA} {c:Nat} {l:LB} {F:Nat→Value} {j:Nat} (h:LvF L A c l F j):LvF (x::L) A c l F j:=⟨h.f1,h.f2,h.f3,h.f4,h.f5,h.f6,h.f7.more⟩
def twoF (G:Nat→Value) (i j:Nat) (p q:Value) (a b:Bool):Nat→Value:=fun x=>if x=i then (bif a then p else G x) else if x=j then (bif b then q else G x) else G x
theorem qow (G:Nat→Value) (i j:Nat) (p q:Value) (a b:Bool):updF (twoF G i j p q a b) i p=twoF G i j p q true b:=by
 funext x
 by_cases h:x=i
 ·subst h;simp [updF,twoF]
 ·simp [updF,twoF,h]
theorem qvx (G:Nat→Value) (i j:Nat) (p q:Value) (a b:Bool) (hij:j≠i):updF (twoF G i j p q a b) j q=twoF G i j p q a true:=by
 funext x
 by_cases h:x=j
 ·subst h;simp [updF,twoF,hij]
 ·simp [updF,twoF,h]
theorem qtl (G:Nat→Value) (i j:Nat) (p q:Value):twoF G i j p q false false=G:=by
 funext x
 simp [twoF]
theorem qah (G:Nat→Value) (i j:Nat) (p q:Value) (a b:Bool) (x:Nat) (h1:x≠i) (h2:x≠j):twoF G i j p q a b x=G x:=by simp [twoF,h1,h2]
theorem qrk {l:LB} {k:Nat} (h:(tvF l k).2=0):tvAt l k<l.length∧tw l k≤23∧tvAt l (k+1)≤l.length:=by
 rw [tvF] at h
 split at h
 ·cases h
 split at h
 ·cases h
 split at h
 ·cases h
 ·omega
theorem q2i {l:LB} {k:Nat} (h:(tcF l k).2=0):vNum l k≤1048576:=by
 rw [tcF] at h
 split at h
 ·rename_i h0;exact absurd h h0
 ·rename_i h0
  unfold numE at h0
  split at h0
  ·rename_i h1;exact absurd h1 h0
  ·split at h0
   ·exact absurd Js h0
   ·omega
theorem q50 {l:LB} {k:Nat} (h:(tcF l k).2=0) (hk:0<k):vNum l (k-1)≤vNum l k:=by
 rw [tcF] at h
 split at h
 ·rename_i h0;exact absurd h h0
 ·split at h
  ·cases h
  ·omega
theorem q2m (l:LB) (A:oA) (c:Nat) (w:World) (hS:SlAt encB 1 w A l) (hc:l.length≤c) (hl:l.length≤140737488355328) :
  Gv Tryz.prog 52 [.slice A l.length c] w fun v w'=>TVwR l v w w'∧Ext w w':=by
 have hv0:BS w (.slice A l.length c) l:=⟨A,c,rfl,hc,hS⟩
 refine ze Tryz.func52 Tryz.ntmps52 ?_;refine znm (Mem.nil w) ?_;intro tb w1 hm;have hm:Mem w w1 [(tb,.cells (fnA 32 tF0) 201)]:=hm;(conv=>whnf);refine zcv (qdv _ l w1 (hv0.ext hm.ext)) ?_;rintro v w2 ⟨cb,rfl,hcb,hco,he2⟩;have hm:Mem w w2 [(cb,curO 244 (.slice A l.length c) 0 0),(tb,.cells (fnA 32 tF0) 201)]:=hm.fresh he2 hcb hco;(conv=>whnf);refine zcv (qte l _ tb cb tF0 w w2 hm hv0 hl) ?_;rintro v w3 (⟨h0,⟨eb,rfl,hec⟩,he⟩|⟨hz,rfl,F1,hF1,hF1b,hm⟩)
 ·refine zu ?_;have hE:tE l=errF (tcF l) 4:=by rw [tE,if_pos h0]
  exact ⟨.inl ⟨by rw [hE];exact h0,_,rfl,by rw [hE];exact ⟨eb,rfl,hec⟩⟩,he⟩
 refine zu ?_;refine zcv (qiz cb _ (vAt l 4) 0 w3 (hm.get mh)) ?_;rintro v w4 ⟨rfl,rfl⟩;have hm:=hm.sub (List.sublist_cons_self ..);have hz0:(errF (tcF l) 4).2=0:=qad hz;have ev0:vAt l 4=tvAt l 0:=rfl;rw [ev0];(conv=>whnf);refine qy (fun x:Nat × (Nat→Value) × List (Nat × Obj)=>[(0,.slice A l.length c),(2,.pointer none),(3,.nilIface),(4,pp tb),(7,ii (tvAt l x.1)),(24,ii x.1)])
  (fun x w'=>x.1≤4∧(∀ j,j<x.1→(tvF l j).2=0)∧(∀ j,j<4→x.2.1 (8*j)=ii (vNum l j))∧(∀ j,j<4→x.1≤j→x.2.1 (8*j+7)=.pointer none)∧(∀ j,j<x.1→LvF x.2.2 A c l x.2.1 j)∧Mem w w' ((tb,.cells (fnA 32 x.2.1) 201)::x.2.2)) (fun x=>4-x.1) (0,F1,[])
  ⟨rfl,rfl,rfl,rfl,rfl,rfl,trivial⟩ ⟨by simp,fun j h=>by simp at h,hF1,fun j _ _=>by simp only;rw [hF1b _ Oo];simp only [tF0];rw [if_neg Oo,if_neg Oo],fun j h=>by simp at h,hm⟩ ?_
 clear hm hF1 hF1b hco;rintro ⟨k,F,L⟩ w5 ρ' ⟨k1,hv,hF,hF7,hL,hm⟩;dsimp only at k1 hv hF hF7 hL hm ⊢;have hn:=fun j hj=>q2i (hz j hj)
 (conv=>whnf)
 (repeat' (first|refine zp ?_|refine zC (fun _=>zw ?_) (fun _=>zw ?_)))
 ·refine zcv (qaf (l.length) 10 _) ?_;rintro r w7 ⟨⟨eb,rfl,hec⟩,he7⟩;have hf:tvF l k=(l.length,10):=by rw [tvF,if_pos Oo]
  have hE:=qbx (f:=tvF l) (n:=4) (k:=k) hv Oo (by rw [hf];simp);have hT:tE l=(l.length,10):=by rw [tE,if_neg Oo,if_pos (by rw [hE,hf];simp),hE,hf]
  (conv=>whnf);exact ⟨.inl ⟨by rw [hT];simp,_,rfl,by rw [hT];exact ⟨eb,rfl,hec⟩⟩,hm.ext.trans he7⟩
 ·refine ElemV.bs (hS.ext hm.ext) rfl (tvAt l k) rfl Oo ?_;intro eb eo hc1;have hlt:tvAt l k<l.length:=by omega
  have hw:l[tvAt l k].toNat=tw l k:=by rw [tw,List.getD_eq_getElem?_getD,zge hlt];rfl
  have hwb:tw l k<256:=by rw [← hw];exact qac _
  rw [hw] at hc1;(conv=>whnf);refine LoadV.of hc1 (zu ?_);refine StoreV.fn (v:=ii (tvAt l k)) hm (i:=0) rfl (8*k+2) (by try rw [lvSz];dsimp only;omega) Oo rfl fun w6 hm=>zw ?_;refine StoreV.fn (v:=ii (tw l k)) hm (i:=0) rfl (8*k+1) (by try rw [lvSz];dsimp only;omega) Oo rfl fun w7 hm=>zw ?_;refine LoadV.fn (v:=ii (tw l k)) hm (i:=0) rfl (8*k+1) (by rw [lvSz];dsimp only;omega) Oo (by simp [updF]) (zw ?_);refine zC (fun _=>zu ?_) (fun _=>zu ?_)
  ·refine zcv (qaf (tvAt l k) 14 _) ?_;rintro r w7 ⟨⟨eb,rfl,hec⟩,he7⟩;have hf:tvF l k=(tvAt l k,14):=by rw [tvF,if_neg Oo,if_pos Oo]
   have hE:=qbx (f:=tvF l) (n:=4) (k:=k) hv Oo (by rw [hf];simp);have hT:tE l=(tvAt l k,14):=by rw [tE,if_neg Oo,if_pos (by rw [hE,hf];simp),hE,hf]
   (conv=>whnf);exact ⟨.inl ⟨by rw [hT];simp,_,rfl,by rw [hT];exact ⟨eb,rfl,hec⟩⟩,hm.ext.trans he7⟩
  have hw23:tw l k≤23:=by omega
  have hnk:=hn k Oo;have hmul:vNum l k*tw l k≤1048576*23:=Nat.mul_le_mul hnk hw23;obtain ⟨f,ef⟩:∃ f,f=vNum l k*tw l k:=⟨_,rfl⟩
  have efi:((vNum l k:Nat):Int)*((tw l k:Nat):Int)=(f:Int):=by rw [ef,Int.natCast_mul]
  rw [← ef] at hmul;have hte0:tEnd l k=tvAt l k+1+(f+7)/8:=by rw [ef];rfl
  have hte:(((tvAt l k:Nat):Int)+1+(((vNum l k:Nat):Int)*((tw l k:Nat):Int)+7)/8)=((tEnd l k:Nat):Int):=by omega
  refine StoreV.fn (v:=ii (((tvAt l k:Nat):Int)+1)) hm (i:=0) rfl (8*k+3) (by try rw [lvSz];dsimp only;omega) Oo rfl fun w8 hm=>zw ?_;obtain ⟨F5,eF5⟩:∃ F5,F5=updF (updF (updF F (8*k+2) (ii (tvAt l k))) (8*k+1) (ii (tw l k))) (8*k+3) (ii (((tvAt l k:Nat):Int)+1)):=⟨_,rfl⟩
  have hm:Mem w w8 ((tb,.cells (fnA 32 F5) 201)::L):=by rw [eF5];exact hm
  have q3:F5 (8*k+3)=ii (((tvAt l k:Nat):Int)+1):=by rw [eF5];simp [updF]
  have q1:F5 (8*k+1)=ii (tw l k):=by rw [eF5];simp [updF]
  have q0:F5 (8*k)=ii (vNum l k):=by rw [eF5];simp only [updF];rw [if_neg Oo,if_neg Oo,if_neg Oo];exact hF k Oo
  refine DrawV.inv (fun S w'=>Mem w w' ((tb,.cells (fnA 32 (twoF F5 (8*k+4) 1000 (ii (tEnd l k)) undef (S 19) false)) 201)::L)) rfl Jk (by show Mem w w8.drew ((tb,.cells (fnA 32 (twoF F5 (8*k+4) 1000 (ii (tEnd l k)) undef false false)) 201)::L);rw [qtl];exact hm.drew) ?_;clear hm;(conv=>whnf);(iterate 4 (refine zi ?_));refine StepI.of (ii (((tvAt l k:Nat):Int)+1)) (fun S wd hk hp hI=>zw ?_) (zw ?_)
  ·refine LoadV.fn (v:=ii (((tvAt l k:Nat):Int)+1)) hI (i:=0) rfl (8*k+3) (by rw [lvSz];dsimp only;omega) Oo (by rw [qah _ _ _ _ _ _ _ _ Oo Oo];exact q3) (zw ?_);exact ⟨rfl,hI⟩
  (iterate 3 (refine zi ?_));refine StepI.of (ii (vNum l k)) (fun S wd hk hp hI=>zw ?_) (zw ?_)
  ·refine LoadV.fn (v:=ii (vNum l k)) hI (i:=0) rfl (8*k) (by rw [lvSz];dsimp only;omega) Oo (by rw [qah _ _ _ _ _ _ _ _ Oo Oo];exact q0) (zw ?_);exact ⟨rfl,hI⟩
  (iterate 3 (refine zi ?_));refine StepI.of (ii (tw l k)) (fun S wd hk hp hI=>zw ?_) (zw ?_)
  ·refine LoadV.fn (v:=ii (tw l k)) hI (i:=0) rfl (8*k+1) (by rw [lvSz];dsimp only;omega) Oo (by rw [qah _ _ _ _ _ _ _ _ Oo Oo];exact q1) (zw ?_);exact ⟨rfl,hI⟩
  (iterate 6 (refine zi ?_));refine StepI.of undef (fun S wd hk hp hI=>?_) (zw ?_)
  ·dsimp only at hI;rw [hk] at hI;(conv=>whnf);rw [hte];refine StoreV.fn (v:=ii (tEnd l k)) hI (i:=0) rfl (8*k+4) (by rw [lvSz];dsimp only;omega) Oo rfl ?_;intro wx hmx;rw [qow] at hmx;(conv=>whnf);exact ⟨rfl,hmx⟩
  intro w10 hm;dsimp only at hm;obtain ⟨G,eG⟩:∃ G,G=twoF F5 (8*k+4) 1000 (ii (tEnd l k)) undef true false:=⟨_,rfl⟩
  have hm:Mem w w10 ((tb,.cells (fnA 32 G) 201)::L):=by rw [eG];exact hm
  have ge:∀ x,x<1000→x≠8*k+1→x≠8*k+2→x≠8*k+3→x≠8*k+4→G x=F x:=fun x h0 h1 h2 h3 h4=>by rw [eG,qah _ _ _ _ _ _ _ _ h4 Oo,eF5,qab _ _ _ _ h3,qab _ _ _ _ h1,qab _ _ _ _ h2]
  have gn:∀ j,j<4→G (8*j)=ii (vNum l j):=fun j hj=>by rw [ge _ Oo Oo Oo Oo Oo];exact hF j hj
  have g1:G (8*k+1)=ii (tw l k):=by rw [eG,qah _ _ _ _ _ _ _ _ Oo Oo];exact q1
  have g2:G (8*k+2)=ii (tvAt l k):=by rw [eG,qah _ _ _ _ _ _ _ _ Oo Oo,eF5];simp [updF]
  have g3:G (8*k+3)=ii (tvAt l k+1:Nat):=by rw [eG,qah _ _ _ _ _ _ _ _ Oo Oo];exact q3
  have g4:G (8*k+4)=ii (tEnd l k):=by rw [eG];simp [twoF]
  have g7:∀ j,j<4→k≤j→G (8*j+7)=.pointer none:=fun j hj4 hj=>by rw [ge _ Oo Oo Oo Oo Oo];exact hF7 j hj4 hj
  have gL:∀ j,j<k→LvF L A c l G j:=fun j hj=>(hL j hj).same fun i hi=>ge _ Oo Oo Oo Oo Oo
  clear ge eG eF5 q0 q1 q3 hF hF7 hL hte;(conv=>whnf);refine LoadV.fn (v:=ii (tEnd l k)) hm (i:=0) rfl (8*k+4) (by rw [lvSz];dsimp only;omega) Oo g4 (zw ?_)
  (repeat' refine zC (fun _=>zw ?_) (fun _=>zw ?_))
  ·have hmo:=q50 (hz k Oo) Oo;have hnk1:=hn (k-1) Oo;have hvl:=qlh (vNum l k) (vNum l (k-1)) Oo hmo;have hnx:tvAt l (k+1)=tEnd l k+qag (vNum l k) (vNum l (k-1)):=by rw [qbn,if_neg Oo]
   refine DrawV.freeW Jk Jk (zw ?_);(iterate 4 (refine zd ?_));apply zsd
   ·intro wd hd;(conv=>whnf);refine LoadV.fn (v:=ii (vNum l k)) (Mem.call (Mem.drew hm) hd) (i:=0) rfl (8*k) (by rw [lvSz];dsimp only;omega) Oo (gn k Oo) (zw ?_);exact ⟨xr,rfl⟩
   (conv=>whnf);(iterate 5 (refine zd ?_));apply zsd
   ·intro wd hd;(conv=>whnf);refine IdxV.at_ (k-1) Oo Oo (zw ?_);exact ⟨xr,rfl⟩
   (conv=>whnf);refine zd ?_;apply zsd
   ·intro wd hd;(conv=>whnf);refine LoadV.fn (v:=ii (vNum l (k-1))) (Mem.call (Mem.drew hm) hd) (i:=0) rfl (8*(k-1)) (by rw [lvSz];dsimp only;omega) Oo (gn (k-1) Oo) (zw ?_);exact ⟨xr,rfl⟩
   (conv=>whnf);apply zsd
   ·intro wd hd;(conv=>whnf);refine zcv (q1y (vNum l k) (vNum l (k-1)) wd Oo hmo) ?_;rintro v w9 ⟨rfl,h9⟩;exact ⟨h9,rfl⟩
   (conv=>whnf);refine zd ?_;refine zd ?_;intro w11 he11
   (repeat (intro _ _;(conv=>whnf)))
   (conv=>whnf);have hm:=hm.drew.call he11;clear he11;have hsum:(((tEnd l k:Nat):Int)+((qag (vNum l k) (vNum l (k-1)):Nat):Int))=((tvAt l (k+1):Nat):Int):=by omega
   rw [hsum];refine zC (fun _=>zw ?_) (fun _=>zw ?_)
   ·refine zcv (qaf (l.length) 10 _) ?_;rintro r w7 ⟨⟨eb,rfl,hec⟩,he7⟩;have hf:tvF l k=(l.length,10):=by rw [tvF,if_neg Oo,if_neg Oo,if_pos Oo]
    have hE:=qbx (f:=tvF l) (n:=4) (k:=k) hv Oo (by rw [hf];simp);have hT:tE l=(l.length,10):=by rw [tE,if_neg Oo,if_pos (by rw [hE,hf];simp),hE,hf]
    (conv=>whnf);exact ⟨.inl ⟨by rw [hT];simp,_,rfl,by rw [hT];exact ⟨eb,rfl,hec⟩⟩,hm.ext.trans he7⟩
   have hfz:tvF l k=(0,0):=by rw [tvF,if_neg Oo,if_neg Oo,if_neg Oo]
   have hte3:tvAt l k+1≤tEnd l k:=by omega
   have hte4:tEnd l k≤tvAt l (k+1):=by omega
   have hte5:tvAt l (k+1)≤l.length:=by omega
   obtain ⟨w12,ew12⟩:∃ w12:World,w12=w11:=⟨_,rfl⟩
   rw [← ew12] at hm ⊢;refine DrawV.inv (fun S w'=>Mem w w' ((tb,.cells (fnA 32 (twoF G (8*k+5) (8*k+6) (tPV A c l k) (tSV A c l k) (S 21) (S 24))) 201)::L)) rfl Jk (by show Mem w w12.drew ((tb,.cells (fnA 32 (twoF G (8*k+5) (8*k+6) (tPV A c l k) (tSV A c l k) false false)) 201)::L);rw [qtl];exact hm.drew) ?_;clear hm ew12;(conv=>whnf);(iterate 6 (refine zi ?_));refine StepI.of (ii (tvAt l k+1:Nat)) (fun S wd hk hp hI=>zw ?_) (zw ?_)
   ·refine LoadV.fn (v:=ii (tvAt l k+1:Nat)) hI (i:=0) rfl (8*k+3) (by rw [lvSz];dsimp only;omega) Oo (by rw [qah _ _ _ _ _ _ _ _ Oo Oo];exact g3) (zw ?_);exact ⟨rfl,hI⟩
   (iterate 3 (refine zi ?_));refine StepI.of (ii (tEnd l k)) (fun S wd hk hp hI=>zw ?_) (zw ?_)
   ·refine LoadV.fn (v:=ii (tEnd l k)) hI (i:=0) rfl (8*k+4) (by rw [lvSz];dsimp only;omega) Oo (by rw [qah _ _ _ _ _ _ _ _ Oo Oo];exact g4) (zw ?_);exact ⟨rfl,hI⟩
   refine StepI.of (tPV A c l k) (fun S wd hk hp hI=>zw ?_) (zw ?_)
   ·refine SliceV.to (tvAt l k+1) (tEnd l k) c (by show (_:Int)=_;omega) rfl rfl Oo Oo znr (fun h=>by cases h) (zw ?_);exact ⟨rfl,hI⟩
   (iterate 4 (refine zi ?_));refine StepI.of (ii (tEnd l k)) (fun S wd hk hp hI=>zw ?_) (zw ?_)
   ·refine LoadV.fn (v:=ii (tEnd l k)) hI (i:=0) rfl (8*k+4) (by rw [lvSz];dsimp only;omega) Oo (by rw [qah _ _ _ _ _ _ _ _ Oo Oo];exact g4) (zw ?_);exact ⟨rfl,hI⟩
   refine zi ?_;refine StepI.of (tSV A c l k) (fun S wd hk hp hI=>zw ?_) (zw ?_)
   ·refine SliceV.to (tEnd l k) (tvAt l (k+1)) c rfl (by show (_:Int)=_;omega) rfl Oo Oo znr (fun h=>by cases h) (zw ?_);exact ⟨rfl,hI⟩
   refine zi ?_;refine zi ?_;refine StepI.of undef (fun S wd hk hp hI=>?_) (zw ?_)
   ·dsimp only at hI;rw [hk] at hI;(conv=>whnf);refine StoreV.fn (v:=tPV A c l k) hI (i:=0) rfl (8*k+5) (by rw [lvSz];dsimp only;omega) Oo rfl ?_;intro wx hmx;rw [qow] at hmx;(conv=>whnf);exact ⟨rfl,hmx⟩
   refine zi ?_;refine zi ?_;refine StepI.of undef (fun S wd hk hp hI=>?_) (zw ?_)
   ·dsimp only at hI;rw [hk] at hI;(conv=>whnf);refine StoreV.fn (v:=tSV A c l k) hI (i:=0) rfl (8*k+6) (by rw [lvSz];dsimp only;omega) Oo rfl ?_;intro wx hmx;rw [qvx _ _ _ _ _ _ _ Oo] at hmx;(conv=>whnf);exact ⟨rfl,hmx⟩
   intro w13 hm;dsimp only at hm;obtain ⟨H,eH⟩:∃ H,H=twoF G (8*k+5) (8*k+6) (tPV A c l k) (tSV A c l k) true true:=⟨_,rfl⟩
   rw [← eH] at hm;have hn':∀ j,j<4→H (8*j)=ii (vNum l j):=fun j hj=>by rw [eH,qah _ _ _ _ _ _ _ _ Oo Oo];exact gn j hj
   have h1':H (8*k+1)=ii (tw l k):=by rw [eH,qah _ _ _ _ _ _ _ _ Oo Oo];exact g1
   have h2':H (8*k+2)=ii (tvAt l k):=by rw [eH,qah _ _ _ _ _ _ _ _ Oo Oo];exact g2
   have h3':H (8*k+3)=ii (tvAt l k+1:Nat):=by rw [eH,qah _ _ _ _ _ _ _ _ Oo Oo];exact g3
   have h4':H (8*k+4)=ii (tEnd l k):=by rw [eH,qah _ _ _ _ _ _ _ _ Oo Oo];exact g4
   have h5':H (8*k+5)=tPV A c l k:=by rw [eH];simp [twoF]
   have h6':H (8*k+6)=tSV A c l k:=by rw [eH];simp [twoF]
   have h7':∀ j,j<4→k≤j→H (8*j+7)=.pointer none:=fun j hj4 hj=>by rw [eH,qah _ _ _ _ _ _ _ _ Oo Oo];exact g7 j hj4 hj
   have hL':∀ j,j<k→LvF L A c l H j:=fun j hj=>(gL j hj).same fun i hi=>by rw [eH,qah _ _ _ _ _ _ _ _ Oo Oo]
   clear eH gn g1 g2 g3 g4 g7 gL;refine zu ?_;have lenB:(qg l k).length=tvAt l (k+1)-tEnd l k:=by rw [qg,List.length_take,zld];omega
   have hSB:SlAt encB 1 w (if c=tEnd l k then A else A.map (·.add (tEnd l k*1))) (qg l k):=hS.cut (m:=c) Oo Oo Oo rfl;refine LoadV.fn (v:=tSV A c l k) hm (i:=0) rfl (8*k+6) (by rw [lvSz];dsimp only;omega) Oo h6' (zw ?_);have hvv:=q3b (qg l k) _ (c-tEnd l k) w13 (hSB.ext hm.ext) (by rw [lenB];omega) (by rw [lenB];omega);rw [lenB] at hvv;refine zcv (hvv) ?_;rintro r w14 ⟨⟨h0,e,q1,q2,rfl,eb2,rfl,hec2⟩|⟨h1,vb,rfl,hvb,hvo⟩,he14⟩
   ·have hm:=hm.call he14;(conv=>whnf);refine zy ?_;have hm:=hm.drew;refine zv ?_;refine ⟨(k+1,H,L),⟨rfl,rfl,rfl,rfl,(by show _=ii ((tvAt l (k+1):Nat):Int);exact congrArg (Value.int .i64) Oo),rfl,trivial⟩,⟨by simp only;omega,fun j hj=>?_,hn',fun j hj4 hj=>h7' j hj4 (by simp only at hj;omega),fun j hj=>?_,hm⟩,by simp only;omega⟩
    ·by_cases e:j=k
     ·subst e;rw [hfz]
     ·exact hv j (by simp only at hj;omega)
    ·by_cases e:j=k
     ·subst e;exact ⟨h1',h2',h3',h4',h5',h6',.inl ⟨.inr (by rw [tVec,h0];rfl),h7' j Oo znr⟩⟩
     ·exact hL' j (by simp only at hj;omega)
   ·have hm0:=hm.fresh he14 hvb hvo;have hm:Mem w w14 ((tb,.cells (fnA 32 H) 201)::(vb,vecO 263 (tSV A c l k) (vN (qg l k)) (vM (qg l k)))::L):=hm0.perm (List.Perm.swap ..);clear hm0;(conv=>whnf);refine zy ?_;have hm:=hm.drew;refine zv ?_;refine ⟨ii (vN (qg l k)),q6m _ _ _ _ _ (hm.get (zmc mh)),?_⟩;refine zu ?_;refine LoadV.fn (v:=ii (vNum l k)) hm (i:=0) rfl (8*k) (by rw [lvSz];dsimp only;omega) Oo (hn' k Oo) (zw ?_);refine zt ?_;refine zC (fun _=>zu ?_) (fun _=>zu ?_)
    ·refine ⟨ii (vM (qg l k)),q27 _ _ _ _ _ (hm.get (zmc mh)),?_⟩;refine zu ?_;refine IdxV.at_ (k-1) Oo Oo (zu ?_);refine LoadV.fn (v:=ii (vNum l (k-1))) hm (i:=0) rfl (8*(k-1)) (by rw [lvSz];dsimp only;omega) Oo (hn' (k-1) Oo) (zw ?_);refine zt ?_;refine zC (fun _=>zu ?_) (fun _=>zu ?_)
     ·refine StoreV.fn (v:=pp vb) hm (i:=0) rfl (8*k+7) (by rw [lvSz];dsimp only;omega) Oo rfl ?_;intro w15 hm;have e1:vN (qg l k)=vNum l k:=by omega
      have e2:vM (qg l k)=vNum l (k-1):=by omega
      rw [e1,e2] at hm;have htv:tVec l k=true:=by rw [tVec,h1,decide_eq_true e1,decide_eq_true e2];rfl
      refine zu ?_;refine ⟨(k+1,updF H (8*k+7) (pp vb),(vb,vecO 263 (tSV A c l k) (vNum l k) (vNum l (k-1)))::L),⟨rfl,rfl,rfl,rfl,(by show _=ii ((tvAt l (k+1):Nat):Int);exact congrArg (Value.int .i64) Oo),rfl,trivial⟩,⟨by simp only;omega,fun j hj=>?_,fun j hj=>?_,fun j hj4 hj=>?_,fun j hj=>?_,hm⟩,by simp only;omega⟩
      ·by_cases e:j=k
       ·subst e;rw [hfz]
       ·exact hv j (by simp only at hj;omega)
      ·simp only;rw [qab _ _ _ _ Oo];exact hn' j hj
      ·simp only at hj ⊢;rw [qab _ _ _ _ Oo];exact h7' j hj4 Oo
      ·by_cases e:j=k
       ·subst e;refine ⟨?_,?_,?_,?_,?_,?_,.inr ⟨by omega,htv,vb,qb9 _ _ _,List.mem_cons_self ..⟩⟩
        ·simp only;rw [qab _ _ _ _ Oo];exact h1'
        ·simp only;rw [qab _ _ _ _ Oo];exact h2'
        ·simp only;rw [qab _ _ _ _ Oo];exact h3'
        ·simp only;rw [qab _ _ _ _ Oo];exact h4'
        ·simp only;rw [qab _ _ _ _ Oo];exact h5'
        ·simp only;rw [qab _ _ _ _ Oo];exact h6'
       ·exact ((hL' j (by simp only at hj;omega)).same fun i hi=>by simp only;rw [qab _ _ _ _ Oo]).more
     ·have hm:=hm.sub (List.Sublist.cons_cons _ (List.sublist_cons_self ..));have nv:tVec l k=false:=by rw [tVec,decide_eq_false (show ¬ vM (qg l k)=vNum l (k-1) by omega),Bool.and_false]
      refine ⟨(k+1,H,L),⟨rfl,rfl,rfl,rfl,(by show _=ii ((tvAt l (k+1):Nat):Int);exact congrArg (Value.int .i64) Oo),rfl,trivial⟩,⟨by simp only;omega,fun j hj=>?_,hn',fun j hj4 hj=>h7' j hj4 (by simp only at hj;omega),fun j hj=>?_,hm⟩,by simp only;omega⟩
      ·by_cases e:j=k
       ·subst e;rw [hfz]
       ·exact hv j (by simp only at hj;omega)
      ·by_cases e:j=k
       ·subst e;exact ⟨h1',h2',h3',h4',h5',h6',.inl ⟨.inr nv,h7' j Oo znr⟩⟩
       ·exact hL' j (by simp only at hj;omega)
    ·have hm:=hm.sub (List.Sublist.cons_cons _ (List.sublist_cons_self ..));have nv:tVec l k=false:=by rw [tVec,decide_eq_false (show ¬ vN (qg l k)=vNum l k by omega),Bool.and_false];rfl
     refine ⟨(k+1,H,L),⟨rfl,rfl,rfl,rfl,(by show _=ii ((tvAt l (k+1):Nat):Int);exact congrArg (Value.int .i64) Oo),rfl,trivial⟩,⟨by simp only;omega,fun j hj=>?_,hn',fun j hj4 hj=>h7' j hj4 (by simp only at hj;omega),fun j hj=>?_,hm⟩,by simp only;omega⟩
     ·by_cases e:j=k
      ·subst e;rw [hfz]
      ·exact hv j (by simp only at hj;omega)
     ·by_cases e:j=k
      ·subst e;exact ⟨h1',h2',h3',h4',h5',h6',.inl ⟨.inr nv,h7' j Oo znr⟩⟩
      ·exact hL' j (by simp only at hj;omega)
  ·have hk0:k=0:=by omega
   have hnx:tvAt l (k+1)=tEnd l k:=by rw [qbn,if_pos hk0];rfl
   refine zcv (qaf (l.length) 10 _) ?_;rintro r w7 ⟨⟨eb,rfl,hec⟩,he7⟩;have hf:tvF l k=(l.length,10):=by rw [tvF,if_neg Oo,if_neg Oo,if_pos Oo]
   have hE:=qbx (f:=tvF l) (n:=4) (k:=k) hv Oo (by rw [hf];simp);have hT:tE l=(l.length,10):=by rw [tE,if_neg Oo,if_pos (by rw [hE,hf];simp),hE,hf]
   (conv=>whnf);exact ⟨.inl ⟨by rw [hT];simp,_,rfl,by rw [hT];exact ⟨eb,rfl,hec⟩⟩,hm.ext.trans he7⟩
  have hk0:k=0:=by omega
  have hnx:tvAt l (k+1)=tEnd l k:=by rw [qbn,if_pos hk0];rfl
  have hfz:tvF l k=(0,0):=by rw [tvF,if_neg Oo,if_neg Oo,if_neg Oo]
  have hte3:tvAt l k+1≤tEnd l k:=by omega
  have hte4:tEnd l k≤tvAt l (k+1):=by omega
  have hte5:tvAt l (k+1)≤l.length:=by omega
  obtain ⟨w12,ew12⟩:∃ w12:World,w12=w10:=⟨_,rfl⟩
  rw [← ew12] at hm ⊢;refine DrawV.inv (fun S w'=>Mem w w' ((tb,.cells (fnA 32 (twoF G (8*k+5) (8*k+6) (tPV A c l k) (tSV A c l k) (S 21) (S 24))) 201)::L)) rfl Jk (by show Mem w w12.drew ((tb,.cells (fnA 32 (twoF G (8*k+5) (8*k+6) (tPV A c l k) (tSV A c l k) false false)) 201)::L);rw [qtl];exact hm.drew) ?_;clear hm ew12;(conv=>whnf);(iterate 6 (refine zi ?_));refine StepI.of (ii (tvAt l k+1:Nat)) (fun S wd hk hp hI=>zw ?_) (zw ?_)
  ·refine LoadV.fn (v:=ii (tvAt l k+1:Nat)) hI (i:=0) rfl (8*k+3) (by rw [lvSz];dsimp only;omega) Oo (by rw [qah _ _ _ _ _ _ _ _ Oo Oo];exact g3) (zw ?_);exact ⟨rfl,hI⟩
  (iterate 3 (refine zi ?_));refine StepI.of (ii (tEnd l k)) (fun S wd hk hp hI=>zw ?_) (zw ?_)
  ·refine LoadV.fn (v:=ii (tEnd l k)) hI (i:=0) rfl (8*k+4) (by rw [lvSz];dsimp only;omega) Oo (by rw [qah _ _ _ _ _ _ _ _ Oo Oo];exact g4) (zw ?_);exact ⟨rfl,hI⟩
  refine StepI.of (tPV A c l k) (fun S wd hk hp hI=>zw ?_) (zw ?_)
  ·refine SliceV.to (tvAt l k+1) (tEnd l k) c (by show (_:Int)=_;omega) rfl rfl Oo Oo znr (fun h=>by cases h) (zw ?_);exact ⟨rfl,hI⟩
  (iterate 4 (refine zi ?_));refine StepI.of (ii (tEnd l k)) (fun S wd hk hp hI=>zw ?_) (zw ?_)
  ·refine LoadV.fn (v:=ii (tEnd l k)) hI (i:=0) rfl (8*k+4) (by rw [lvSz];dsimp only;omega) Oo (by rw [qah _ _ _ _ _ _ _ _ Oo Oo];exact g4) (zw ?_);exact ⟨rfl,hI⟩
  refine zi ?_;refine StepI.of (tSV A c l k) (fun S wd hk hp hI=>zw ?_) (zw ?_)
  ·refine SliceV.to (tEnd l k) (tvAt l (k+1)) c rfl (by show (_:Int)=_;omega) rfl Oo Oo znr (fun h=>by cases h) (zw ?_);exact ⟨rfl,hI⟩
  refine zi ?_;refine zi ?_;refine StepI.of undef (fun S wd hk hp hI=>?_) (zw ?_)
  ·dsimp only at hI;rw [hk] at hI;(conv=>whnf);refine StoreV.fn (v:=tPV A c l k) hI (i:=0) rfl (8*k+5) (by rw [lvSz];dsimp only;omega) Oo rfl ?_;intro wx hmx;rw [qow] at hmx;(conv=>whnf);exact ⟨rfl,hmx⟩
  refine zi ?_;refine zi ?_;refine StepI.of undef (fun S wd hk hp hI=>?_) (zw ?_)
  ·dsimp only at hI;rw [hk] at hI;(conv=>whnf);refine StoreV.fn (v:=tSV A c l k) hI (i:=0) rfl (8*k+6) (by rw [lvSz];dsimp only;omega) Oo rfl ?_;intro wx hmx;rw [qvx _ _ _ _ _ _ _ Oo] at hmx;(conv=>whnf);exact ⟨rfl,hmx⟩
  intro w13 hm;dsimp only at hm;obtain ⟨H,eH⟩:∃ H,H=twoF G (8*k+5) (8*k+6) (tPV A c l k) (tSV A c l k) true true:=⟨_,rfl⟩
  rw [← eH] at hm;have hn':∀ j,j<4→H (8*j)=ii (vNum l j):=fun j hj=>by rw [eH,qah _ _ _ _ _ _ _ _ Oo Oo];exact gn j hj
  have h1':H (8*k+1)=ii (tw l k):=by rw [eH,qah _ _ _ _ _ _ _ _ Oo Oo];exact g1
  have h2':H (8*k+2)=ii (tvAt l k):=by rw [eH,qah _ _ _ _ _ _ _ _ Oo Oo];exact g2
  have h3':H (8*k+3)=ii (tvAt l k+1:Nat):=by rw [eH,qah _ _ _ _ _ _ _ _ Oo Oo];exact g3
  have h4':H (8*k+4)=ii (tEnd l k):=by rw [eH,qah _ _ _ _ _ _ _ _ Oo Oo];exact g4
  have h5':H (8*k+5)=tPV A c l k:=by rw [eH];simp [twoF]
  have h6':H (8*k+6)=tSV A c l k:=by rw [eH];simp [twoF]
  have h7':∀ j,j<4→k≤j→H (8*j+7)=.pointer none:=fun j hj4 hj=>by rw [eH,qah _ _ _ _ _ _ _ _ Oo Oo];exact g7 j hj4 hj
  have hL':∀ j,j<k→LvF L A c l H j:=fun j hj=>(gL j hj).same fun i hi=>by rw [eH,qah _ _ _ _ _ _ _ _ Oo Oo]
  clear eH gn g1 g2 g3 g4 g7 gL;refine zu ?_;refine ⟨(k+1,H,L),⟨rfl,rfl,rfl,rfl,(by show _=ii ((tvAt l (k+1):Nat):Int);exact congrArg (Value.int .i64) Oo),rfl,trivial⟩,⟨by simp only;omega,fun j hj=>?_,hn',fun j hj4 hj=>h7' j hj4 (by simp only at hj;omega),fun j hj=>?_,hm⟩,by simp only;omega⟩
  ·by_cases e:j=k
   ·subst e;rw [hfz]
   ·exact hv j (by simp only at hj;omega)
  ·by_cases e:j=k
   ·subst e;exact ⟨h1',h2',h3',h4',h5',h6',.inl ⟨.inl hk0,h7' j Oo znr⟩⟩
   ·exact hL' j (by simp only at hj;omega)
 ·obtain rfl:k=4:=by omega
  have hT:tE l=(tvAt l 4,13):=by
   have:=qad hv;rw [tE,if_neg Oo,if_neg Oo,if_pos Oo]
  refine zcv (qaf (tvAt l 4) 13 _) ?_;rintro r w7 ⟨⟨eb,rfl,hec⟩,he7⟩;(conv=>whnf);exact ⟨.inl ⟨by rw [hT];simp,_,rfl,by rw [hT];exact ⟨eb,rfl,hec⟩⟩,hm.ext.trans he7⟩
 ·obtain rfl:k=4:=by omega
  have hT:tE l=(0,0):=by
   have:=qad hv;rw [tE,if_neg Oo,if_neg Oo,if_neg Oo]
  obtain ⟨o1,o2⟩:=hm.own _ mh;refine ⟨.inr ⟨by rw [hT],tb,rfl,o1,⟨fun j hj=>?_,fun j hj=>q2i (hz j hj),fun j hj=>(qrk (hv j hj)).2.1⟩⟩,hm.ext⟩;obtain ⟨z1,z2,z3⟩:=qrk (hv j hj);have hLj:=hL j hj;have t1:tvAt l j+1≤tEnd l j:=by show _≤tvAt l j+1+_;omega
  have t2:tEnd l j≤tvAt l (j+1):=by rw [qbn];omega
  have lenP:(qp l j).length=tEnd l j-(tvAt l j+1):=by rw [qp,List.length_take,zld];omega
  have lenB:(qg l j).length=tvAt l (j+1)-tEnd l j:=by rw [qg,List.length_take,zld];omega
  have hSP:SlAt encB 1 w (if c=tvAt l j+1 then A else A.map (·.add ((tvAt l j+1)*1))) (qp l j):=hS.cut (m:=c) Oo Oo Oo rfl;have hSB:SlAt encB 1 w (if c=tEnd l j then A else A.map (·.add (tEnd l j*1))) (qg l j):=hS.cut (m:=c) Oo Oo Oo rfl;refine ⟨⟨_,c-(tvAt l j+1),_,c-tEnd l j,F (8*j+7),?_,hSP.ext hm.ext,hSB.ext hm.ext,by rw [lenB];omega,?_⟩⟩
  ·intro i v hiv;rw [qc o2];have hi8:i<8:=(List.getElem?_eq_some_iff.1 hiv).1;rw [qbc 32 F _ Oo];rw [lenP,lenB] at hiv
   match i,hi8 with
   | 0,_=>rw [← hiv];exact congrArg some (hF j hj)
   | 1,_=>rw [← hiv];exact congrArg some hLj.f1
   | 2,_=>rw [← hiv];exact congrArg some hLj.f2
   | 3,_=>rw [← hiv];exact congrArg some hLj.f3
   | 4,_=>rw [← hiv];exact congrArg some hLj.f4
   | 5,_=>rw [← hiv];exact congrArg some hLj.f5
   | 6,_=>rw [← hiv];exact congrArg some hLj.f6
   | 7,_=>rw [← hiv];rfl
  ·rw [lenB]
   rcases hLj.f7 with h|⟨h1,h2,vb,h3,h4⟩
   ·exact .inl h
   ·exact .inr ⟨h1,h2,vb,h3,hm.get (zmc h4)⟩
def fltV (a e:Int):Value:=.agg #[ii a,ii e]
theorem qdl (d:LB) (n:Nat):(q8 d n).length=8+d.length+4*upN n 2048+2*upN n 256+4*upN (cnt d n) 512:=by
 simp only [q8,zla,qh,qqc,qvo,q0q]
theorem qiy (d:LB) (n:Nat):(q8 d n).drop (8+d.length)=gL d n++(sL d n++mL d n):=by
 have e:q8 d n=(fixL n 4++fixL (cnt d n) 4++d)++(gL d n++(sL d n++mL d n)):=by simp only [q8,List.append_assoc]
 have e2:8+d.length=(fixL n 4++fixL (cnt d n) 4++d).length:=by simp only [zla,qh]
 rw [e,e2,List.drop_left]
theorem qzg {l m:LB} {a:Nat} (hlen:l.length=m.length) (h:∀ j,a≤j→j<l.length→l[j]?=m[j]?):l.drop a=m.drop a:=by
 apply List.ext_getElem?;intro i;rw [List.getElem?_drop,List.getElem?_drop]
 by_cases hi:a+i<l.length
 ·exact h (a+i) Oo hi
 ·rw [List.getElem?_eq_none Oo,List.getElem?_eq_none Oo]
theorem VecOk.voE {l:LB} (hv:vOk l=true) (h:(voE l).2=0):VecOk l:=by
 obtain ⟨_,h2,h3⟩:=qpd h;simp only [vOk,Bool.and_eq_true,decide_eq_true_eq] at hv;have hve:qag (vN l) (vM l)=qi (vN l)+4*upN (vN l) 2048+2*upN (vN l) 256+4*upN (vM l) 512:=rfl;have hgg:qi (vN l)=8+upN (vN l) 8:=rfl;have hdl:(vD l).length=upN (vN l) 8:=by rw [vD,List.length_take,zld];omega
 have hwl:=qdl (vD l) (vN l);have hlen:l.length=(q8 (vD l) (vN l)).length:=by rw [hwl,h2,hdl];omega
 refine VecOk.of (by simp only [vOk,Bool.and_eq_true,decide_eq_true_eq];exact hv) h2 ?_;rw [← qiy,hdl,← hgg];exact qzg hlen fun j h4 h5=>h3 j Oo Oo
def inF (F:Nat→Int):Nat→Value:=fun j=>ii (F j)
def updI (F:Nat→Int) (i:Nat) (v:Int):Nat→Int:=fun j=>if j=i then v else F j
theorem q2r (F:Nat→Int) (i:Nat) (v:Int):updI F i v i=v:=by simp [updI]
theorem q2s (F:Nat→Int) (i j:Nat) (v:Int) (h:j≠i):updI F i v j=F j:=by simp [updI,h]
theorem qabj (F:Nat→Int) (i:Nat) (v:Int):updF (inF F) i (ii v)=inF (updI F i v):=by
 funext j
 by_cases h:j=i
 ·simp [updF,updI,inF,h]
 ·simp [updF,updI,inF,h]
theorem V.LoadV.fi {w0 w:World} {L:List (Nat × Obj)} {i b off n:Nat} {F:Nat→Int} {t:TypeId} {x:Int} {K:Value→Prop} (h:Mem w0 w L) (hi:L[i]?=some (b,.cells (fnA n (inF F)) t)) (j:Nat) (e:off=j) (hj:j<n) (hv:F j=x) (hk:K (ii x)):LoadV w b off K:=
 LoadV.fn h hi j e hj (by rw [← hv];rfl) hk
theorem V.StoreV.fi {w0 w:World} {L:List (Nat × Obj)} {i b off n:Nat} {F:Nat→Int} {t:TypeId} {x:Int} {K:World→Prop} (h:Mem w0 w L) (hi:L[i]?=some (b,.cells (fnA n (inF F)) t)) (j:Nat) (e:off=j) (hj:j<n)
  (hk:∀ w',Mem w0 w' (L.set i (b,.cells (fnA n (inF (updI F j x))) t))→K w'):StoreV w b off (ii x) K:=
 StoreV.fn h hi j e hj rfl fun w' hm=>hk w' (by rw [qabj] at hm;exact hm)
theorem qel (n:Nat) (F:Nat→Int):∀ v∈(fnA n (inF F)).toList,v.oneCell'=true:=by
 intro v hv;simp only [fnA,List.mem_map] at hv;obtain ⟨j,_,rfl⟩:=hv;rfl
theorem qmr (v:Value) (n:Nat):qbh [v] n=List.replicate n v:=by
 induction n with
 | zero=>rfl
 | succ n ih=>rw [qbh,ih];rfl
def encU (n:Nat):List Value:=[.int .u64 n]
def unpN (p:LB) (n wd:Nat):List Nat:=(List.range n).map fun i=>valB p (i*wd) wd
open Classical in
noncomputable def opE (p:LB) (n wd:Nat):Nat:=if ∃ t,n*wd≤t∧t<8*p.length∧bitN p t=1 then 12 else 0
theorem qr6 {f:Nat→Nat × Nat} {n k:Nat} {a e:Nat} (h:∀ j,j<k→(f j).2=0) (hk:k<n) (he:f k=(a,e)) (h0:e≠0):errF f n=(a,e):=by
 rw [qbx h hk (by rw [he];exact h0),he]
theorem q91 {p:LB} {n wd:Nat} (h:opE p n wd≠0):0<p.length:=by
 unfold opE at h
 split at h
 ·rename_i g
  obtain ⟨t,_,g2,_⟩:=g;omega
 ·exact absurd rfl h
def wMx (xs:List Nat):Nat→Nat
 | 0=>0
 | i+1=>max (wMx xs i) (qae (xs.getD i 0))
noncomputable def vcE (l:LB) (k:Nat):Nat × Nat:=
 if tVec l k=false then (tEnd l k,180) else if (voE (qg l k)).2≠0 then (tEnd l k+(voE (qg l k)).1,(voE (qg l k)).2)
 else if 0<vNum l k∧bitN ((qg l k).drop 8) (vNum l k-1)≠1 then (tEnd l k,180) else (0,0)
theorem q21 {l:LB} {k:Nat} (h:tVec l k=false):vcE l k=(tEnd l k,180):=by rw [vcE,if_pos h]
theorem q23 {l:LB} {k:Nat} (h:tVec l k=true) (h2:(voE (qg l k)).2≠0):vcE l k=(tEnd l k+(voE (qg l k)).1,(voE (qg l k)).2):=by rw [vcE,if_neg (by rw [h];decide),if_pos h2]
theorem qv5 {l:LB} {k:Nat} (h:tVec l k=true) (h2:(voE (qg l k)).2=0) (h3:0<vNum l k) (h4:bitN ((qg l k).drop 8) (vNum l k-1)≠1):vcE l k=(tEnd l k,180):=by
 rw [vcE,if_neg (by rw [h];decide),if_neg Oo,if_pos ⟨h3,h4⟩]
theorem q22 {l:LB} {k:Nat} (h:tVec l k=true) (h2:(voE (qg l k)).2=0) (h4:0<vNum l k→bitN ((qg l k).drop 8) (vNum l k-1)=1):vcE l k=(0,0):=by
 rw [vcE,if_neg (by rw [h];decide),if_neg Oo,if_neg (fun g=>g.2 (h4 g.1))]
def tX (l:LB) (k i:Nat):Nat:=valB (qp l k) (i*tw l k) (tw l k)
def nmF (l:LB) (k i:Nat):Nat × Nat:=
 if (k≠0∧tX l k i=0)∨4194304<tX l k i then (tvAt l k+1,180)
 else if 0<i∧(k=0∨bitN ((qg l k).drop 8) (i-1)≠1)∧tX l k i≤tX l k (i-1) then (tvAt l k+1,160) else (0,0)
noncomputable def lvE (l:LB) (k:Nat):Nat × Nat:=
 if opE (qp l k) (vNum l k) (tw l k)≠0 then (tEnd l k-1,12) else if wMx (unpN (qp l k) (vNum l k) (tw l k)) (vNum l k)≠tw l k then (tvAt l k,14)
 else if k≠0∧(vcE l k).2≠0 then vcE l k else errF (nmF l k) (vNum l k)
noncomputable def toE (l:LB):Nat × Nat:=if (tE l).2≠0 then tE l else errF (lvE l) 4
section
variable {l:LB} {k:Nat}
theorem q0p (h:opE (qp l k) (vNum l k) (tw l k)≠0):lvE l k=(tEnd l k-1,12):=by rw [lvE,if_pos h]
theorem qqj (h:opE (qp l k) (vNum l k) (tw l k)=0) (h2:wMx (unpN (qp l k) (vNum l k) (tw l k)) (vNum l k)≠tw l k):lvE l k=(tvAt l k,14):=by
 rw [lvE,if_neg Oo,if_pos h2]
theorem qnw (h:opE (qp l k) (vNum l k) (tw l k)=0) (h2:wMx (unpN (qp l k) (vNum l k) (tw l k)) (vNum l k)=tw l k) (h3:k≠0) (h4:(vcE l k).2≠0):lvE l k=vcE l k:=by
 rw [lvE,if_neg Oo,if_neg Oo,if_pos ⟨h3,h4⟩]
theorem qsh (h:opE (qp l k) (vNum l k) (tw l k)=0) (h2:wMx (unpN (qp l k) (vNum l k) (tw l k)) (vNum l k)=tw l k) (h3:k=0∨(vcE l k).2=0):lvE l k=errF (nmF l k) (vNum l k):=by
 rw [lvE,if_neg Oo,if_neg Oo,if_neg Oo]
theorem qadd (h:opE (qp l k) (vNum l k) (tw l k)=0) (h2:wMx (unpN (qp l k) (vNum l k) (tw l k)) (vNum l k)=tw l k) (h3:k=0∨(vcE l k).2=0) {i a e:Nat}
  (h4:∀ j,j<i→(nmF l k j).2=0) (h5:i<vNum l k) (h6:nmF l k i=(a,e)) (h7:e≠0):lvE l k=(a,e):=by rw [qsh h h2 h3];exact qr6 h4 h5 h6 h7
theorem q7j (h:opE (qp l k) (vNum l k) (tw l k)=0) (h2:wMx (unpN (qp l k) (vNum l k) (tw l k)) (vNum l k)=tw l k) (h3:k=0∨(vcE l k).2=0)
  (h4:∀ j,j<vNum l k→(nmF l k j).2=0):(lvE l k).2=0:=by rw [qsh h h2 h3];exact qad h4
theorem qjq (h:(lvE l k).2=0):opE (qp l k) (vNum l k) (tw l k)=0∧wMx (unpN (qp l k) (vNum l k) (tw l k)) (vNum l k)=tw l k∧(k=0∨(vcE l k).2=0)∧∀ j,j<vNum l k→(nmF l k j).2=0:=by
 by_cases h1:opE (qp l k) (vNum l k) (tw l k)=0
 ·by_cases h2:wMx (unpN (qp l k) (vNum l k) (tw l k)) (vNum l k)=tw l k
  ·by_cases h3:k=0∨(vcE l k).2=0
   ·exact ⟨h1,h2,h3,qaw (by rw [← qsh h1 h2 h3];exact h)⟩
   ·rw [qnw h1 h2 Oo Oo] at h;exact absurd h Oo
  ·rw [qqj h1 h2] at h;cases h
 ·rw [q0p h1] at h;cases h
theorem q0s {i:Nat} (h:(k≠0∧tX l k i=0)∨4194304<tX l k i):nmF l k i=(tvAt l k+1,180):=by rw [nmF,if_pos h]
theorem q0t {i:Nat} (h:¬ ((k≠0∧tX l k i=0)∨4194304<tX l k i)) (h2:0<i∧(k=0∨bitN ((qg l k).drop 8) (i-1)≠1)∧tX l k i≤tX l k (i-1)):nmF l k i=(tvAt l k+1,160):=by rw [nmF,if_neg h,if_pos h2]
theorem qvc {i:Nat} (h:¬ ((k≠0∧tX l k i=0)∨4194304<tX l k i)) (h2:¬ (0<i∧(k=0∨bitN ((qg l k).drop 8) (i-1)≠1)∧tX l k i≤tX l k (i-1))):nmF l k i=(0,0):=by rw [nmF,if_neg h,if_neg h2]
theorem qnz {i:Nat} (h:∀ j,j<i→(nmF l k j).2=0) (h2:nmF l k i=(0,0)):∀ j,j<i+1→(nmF l k j).2=0:=fun j hj=>by
 by_cases e:j=i
 ·subst e;rw [h2]
 ·exact h j Oo
end
theorem qaa9 {l:LB} (h:(tE l).2≠0):toE l=tE l:=by rw [toE,if_pos h]
theorem qaep {l:LB} (h:(tE l).2=0) {k:Nat} (h2:∀ j,j<k→(lvE l j).2=0) (h3:k<4) (h4:(lvE l k).2≠0):toE l=lvE l k:=by
 rw [toE,if_neg Oo];exact qbx h2 h3 h4
theorem q7x {l:LB} (h:(tE l).2=0) (h2:∀ k,k<4→(lvE l k).2=0):(toE l).2=0:=by
 rw [toE,if_neg Oo];exact qad h2
theorem qct {l:LB} (h:(toE l).2=0):(tE l).2=0∧∀ k,k<4→(lvE l k).2=0:=by
 by_cases h1:(tE l).2=0
 ·rw [toE,if_neg Oo] at h;exact ⟨h1,qaw h⟩
 ·rw [qaa9 h1] at h;exact absurd h h1
def comL:LB→LB→Nat
 | x::a,y::b=>if x=y then comL a b+1 else 0
 | _,_=>0
theorem qgt:∀ a b:LB,comL a b=comL b a
 | [],[]=>rfl
 | [],_::_=>rfl
 | _::_,[]=>rfl
 | x::a,y::b=>by
  by_cases h:x=y
  ·rw [comL,comL,if_pos h,if_pos h.symm,qgt a b]
  ·rw [comL,comL,if_neg h,if_neg (fun e=>h e.symm)]
theorem qry:∀ {i:Nat} {a b:LB},(∀ j,j<i→a[j]?=b[j]?)→i≤a.length→i≤b.length→(i<a.length→i<b.length→a[i]?≠b[i]?)→comL a b=i
 | 0,[],_,_,_,_,_=>by cases ‹LB›<;>rfl
 | 0,_::_,[],_,_,_,_=>rfl
 | 0,x::a,y::b,_,_,_,h=>by
  have:=h Js Js;rw [comL,if_neg (fun e=>this (by rw [e];rfl))]
 | i+1,[],_,_,h,_,_=>by simp at h
 | i+1,_::_,[],_,_,h,_=>by simp at h
 | i+1,x::a,y::b,h1,h2,h3,h4=>by
  have h0:=h1 0 Oo;simp only [List.getElem?_cons_zero,Option.some.injEq] at h0;have ih:=qry (i:=i) (a:=a) (b:=b) (fun j hj=>by have:=h1 (j+1) Oo;simpa using this) (by simpa using h2) (by simpa using h3) (fun g1 g2=>by have:=h4 (by simpa using g1) (by simpa using g2);simpa using this);rw [comL,if_pos h0,ih]
theorem qnk {s:ByteArray} {i:Nat} (h:i<s.size):s.data.toList[i]?=some (gb s i):=by
 have hl:s.data.toList.length=s.size:=rfl;rw [gb,List.getD_eq_getElem?_getD,zge Oo];rfl
def leL (a b:LB):Bool:=slt ⟨a.toArray⟩ ⟨b.toArray⟩||seq ⟨a.toArray⟩ ⟨b.toArray⟩
def dSt (m:LB):Nat→LB × Nat
 | 0=>([],0)
 | i+1=>((entG ((qa m).drop (dSt m i).2) (decide (i%16=0)) (dSt m i).1).1,(dSt m i).2+(entG ((qa m).drop (dSt m i).2) (decide (i%16=0)) (dSt m i).1).2.1)
def dnF (m:LB) (i:Nat):Nat × Nat:=
 if i%16=0∧q6 m (i/16)≠(dSt m i).2 then (ql m+(dSt m i).2,161)
 else if (entG ((qa m).drop (dSt m i).2) (decide (i%16=0)) (dSt m i).1).2.2≠0 then (ql m+(dSt m i).2,(entG ((qa m).drop (dSt m i).2) (decide (i%16=0)) (dSt m i).1).2.2)
 else if 0<i∧leL (dSt m (i+1)).1 (dSt m i).1=true then (ql m+(dSt m i).2,160)
 else if i%16≠0∧(numL ((qa m).drop (dSt m i).2)).1≠comL (dSt m (i+1)).1 (dSt m i).1 then (ql m+(dSt m i).2,161) else (0,0)
noncomputable def doE (m:LB):Nat × Nat:=
 if (dE m).2≠0 then dE m else if opE (qr m) (upN (dN m) 16) (dW m)≠0 then (ql m-1,12)
 else if (errF (dnF m) (dN m)).2≠0 then errF (dnF m) (dN m) else if (dSt m (dN m)).2<(qa m).length then (ql m+(dSt m (dN m)).2,13) else (0,0)
section
variable {m last:LB} {i p:Nat} (hd:dSt m i=(last,p))
include hd
theorem qei {first:Bool} (hf:first=decide (i%16=0)):dSt m (i+1)=((entG ((qa m).drop p) first last).1,p+(entG ((qa m).drop p) first last).2.1):=by rw [dSt,hd,hf]
theorem qna (h1:i%16=0) (h2:q6 m (i/16)≠p):dnF m i=(ql m+p,161):=by rw [dnF,hd,if_pos ⟨h1,h2⟩]
theorem qzc {first:Bool} (hf:first=decide (i%16=0)) (h1:i%16=0→q6 m (i/16)=p) (h2:(entG ((qa m).drop p) first last).2.2≠0):dnF m i=(ql m+p,(entG ((qa m).drop p) first last).2.2):=by
 subst hf;rw [dnF,hd,if_neg (fun h=>h.2 (h1 h.1)),if_pos h2]
theorem q65 {first:Bool} (hf:first=decide (i%16=0)) (h1:i%16=0→q6 m (i/16)=p) (h2:(entG ((qa m).drop p) first last).2.2=0) (h3:0<i) (h4:leL (entG ((qa m).drop p) first last).1 last=true):dnF m i=(ql m+p,160):=by
 rw [dnF,qei hd hf,hd,if_neg (fun h=>h.2 (h1 h.1)),← hf,if_neg (fun g=>g h2),if_pos ⟨h3,h4⟩]
theorem q32 {first:Bool} (hf:first=decide (i%16=0)) (h1:i%16≠0) (h2:(entG ((qa m).drop p) first last).2.2=0) (h4:leL (entG ((qa m).drop p) first last).1 last=false)
  (h5:(numL ((qa m).drop p)).1≠comL (entG ((qa m).drop p) first last).1 last):dnF m i=(ql m+p,161):=by
 rw [dnF,qei hd hf,hd,if_neg (fun h=>h1 h.1),← hf,if_neg (fun g=>g h2),if_neg (fun h=>by rw [h4] at h;cases h.2),if_pos ⟨h1,h5⟩]
theorem qaee {first:Bool} (hf:first=decide (i%16=0)) (h1:i%16=0→q6 m (i/16)=p) (h2:(entG ((qa m).drop p) first last).2.2=0) (h4:0<i→leL (entG ((qa m).drop p) first last).1 last=false)
  (h5:i%16≠0→(numL ((qa m).drop p)).1=comL (entG ((qa m).drop p) first last).1 last):dnF m i=(0,0):=by
 rw [dnF,qei hd hf,hd,if_neg (fun h=>h.2 (h1 h.1)),← hf,if_neg (fun g=>g h2),if_neg (fun h=>by rw [h4 h.1] at h;cases h.2),if_neg (fun h=>h.2 (h5 h.1))]
end
section
variable {m:LB}
theorem qnc (h:(dE m).2≠0):doE m=dE m:=by rw [doE,if_pos h]
theorem qzd (h:(dE m).2=0) (h2:opE (qr m) (upN (dN m) 16) (dW m)≠0):doE m=(ql m-1,12):=by rw [doE,if_neg Oo,if_pos h2]
theorem qacl (h:(dE m).2=0) (h2:opE (qr m) (upN (dN m) 16) (dW m)=0) {i a e:Nat} (h3:∀ j,j<i→(dnF m j).2=0) (h4:i<dN m) (h5:dnF m i=(a,e)) (h6:e≠0):doE m=(a,e):=by
 have:=qr6 h3 h4 h5 h6;rw [doE,if_neg Oo,if_neg Oo,this,if_pos h6]
theorem qus (h:(dE m).2=0) (h2:opE (qr m) (upN (dN m) 16) (dW m)=0) (h3:∀ j,j<dN m→(dnF m j).2=0) (h4:(dSt m (dN m)).2<(qa m).length):doE m=(ql m+(dSt m (dN m)).2,13):=by
 have:=qad h3;rw [doE,if_neg Oo,if_neg Oo,if_neg Oo,if_pos h4]
theorem q67 (h:(dE m).2=0) (h2:opE (qr m) (upN (dN m) 16) (dW m)=0) (h3:∀ j,j<dN m→(dnF m j).2=0) (h4:¬ (dSt m (dN m)).2<(qa m).length):doE m=(0,0):=by
 have:=qad h3;rw [doE,if_neg Oo,if_neg Oo,if_neg Oo,if_neg h4]
theorem qc4 (h:(doE m).2=0):(dE m).2=0∧opE (qr m) (upN (dN m) 16) (dW m)=0∧(∀ j,j<dN m→(dnF m j).2=0)∧¬ (dSt m (dN m)).2<(qa m).length:=by
 by_cases h1:(dE m).2=0
 ·by_cases h2:opE (qr m) (upN (dN m) 16) (dW m)=0
  ·by_cases h3:(errF (dnF m) (dN m)).2=0
   ·by_cases h4:(dSt m (dN m)).2<(qa m).length
    ·rw [qus h1 h2 (qaw h3) h4] at h;cases h
    ·exact ⟨h1,h2,qaw h3,h4⟩
   ·rw [doE,if_neg Oo,if_neg Oo,if_pos h3] at h;exact absurd h h3
  ·rw [qzd h1 h2] at h;cases h
 ·rw [qnc h1] at h;exact absurd h h1
end
noncomputable def veF (l:LB) (k:Nat):Nat × Nat:=if (doE (sDict l k)).2=0 then (0,0) else (qm l k+(doE (sDict l k)).1,(doE (sDict l k)).2)
def vrB (l:LB) (k j:Nat):Prop:=∃ s,dGet (sDict l k) j=some s∧∀ t,¬ ReadsAs ((k+1:Nat):Int) s t
open Classical in
noncomputable def vrF (l:LB) (k:Nat):Nat × Nat:=if ∃ j,j<dN (sDict l k)∧vrB l k j then (qm l k,170) else (0,0)
noncomputable def vwE (l:LB):Nat × Nat:=if (sE l).2≠0 then sE l else if (errF (veF l) 3).2≠0 then errF (veF l) 3 else errF (vrF l) 3
section
variable {l:LB}
theorem qv6 {k:Nat} (h:(doE (sDict l k)).2=0):(veF l k).2=0:=by rw [veF,if_pos h]
theorem q29 {k j:Nat} (hj:j<dN (sDict l k)) (h:vrB l k j):vrF l k=(qm l k,170):=by rw [vrF,if_pos ⟨j,hj,h⟩]
theorem q78 {k:Nat} (h:∀ j,j<dN (sDict l k)→¬ vrB l k j):(vrF l k).2=0:=by rw [vrF,if_neg (fun ⟨j,h1,h2⟩=>h j h1 h2)]
theorem qabr {k:Nat} (h:(vrF l k).2=0) {j:Nat} (hj:j<dN (sDict l k)):¬ vrB l k j:=fun hb=>by rw [q29 hj hb] at h;cases h
theorem qaeu (h:(sE l).2≠0):vwE l=sE l:=by rw [vwE,if_pos h]
theorem qaet (h:(sE l).2=0) (h2:∀ k,k<3→(doE (sDict l k)).2=0) {k:Nat} (h3:∀ j,j<k→(vrF l j).2=0) (hk:k<3) {j:Nat} (hj:j<dN (sDict l k)) (hb:vrB l k j):vwE l=(qm l k,170):=by
 have:=qad (f:=veF l) (n:=3) fun j hj=>qv6 (h2 j hj)
 rw [vwE,if_neg Oo,if_neg Oo];exact qr6 h3 hk (q29 hj hb) Od
theorem q79 (h:(sE l).2=0) (h2:∀ k,k<3→(doE (sDict l k)).2=0) (h3:∀ k,k<3→(vrF l k).2=0):(vwE l).2=0:=by
 have:=qad (f:=veF l) (n:=3) fun j hj=>qv6 (h2 j hj)
 rw [vwE,if_neg Oo,if_neg Oo];exact qad h3
theorem qhv (h:(vwE l).2=0):(sE l).2=0∧(∀ k,k<3→(doE (sDict l k)).2=0)∧∀ k,k<3→(vrF l k).2=0:=by
 by_cases h1:(sE l).2=0
 ·by_cases h2:(errF (veF l) 3).2=0
  ·rw [vwE,if_neg Oo,if_neg Oo] at h;refine ⟨h1,fun k hk=>?_,qaw h⟩;have:=qaw h2 k hk;unfold veF at this
   split at this
   ·assumption
   ·exact absurd this Oa
  ·rw [vwE,if_neg Oo,if_pos h2] at h;exact absurd h h2
 ·rw [qaeu h1] at h;exact absurd h h1
end
theorem qfe {l:LB} {k most:Nat} (h:(numE l k most).2=0):vNum l k≤most:=by
 unfold numE at h
 split at h
 ·rename_i g;exact absurd h g
 ·split at h
  ·cases h
  ·omega
theorem qaed {l:LB} (h:(dE l).2=0):dN l≤4194304∧qgv l≤67108864∧dEnd l=l.length:=by
 unfold dE at h
 split at h
 ·rename_i h0;exact absurd h h0
 rename_i h0
 have hh:=qaw (f:=dhF l) (n:=2) Oo;have h1:=hh 0 Oo;have h2:=hh 1 Oo
 split at h
 ·cases h
 rename_i g1
 split at h
 ·cases h
 rename_i g2
 refine ⟨?_,?_,by omega⟩
 ·exact qfe h1
 ·exact qfe h2
theorem q47 {w:World} {b b' e size n:Nat} {v:Value} {xs:List Value} (h:w.ownsRow b' e size v n xs) (hb:b≤b'):w.ownsRow b e size v n xs:=by
 refine ⟨h.1,?_⟩
 rcases h.2 with h|⟨g,cap,cur,h1,h2,h3⟩
 ·exact .inl h
 ·exact .inr ⟨g,cap,cur,h1,Nat.le_trans hb h2,h3⟩
theorem q5s {w0 w w':World} {v:Value} {e:TypeId} {n:Nat} {xs:List Value} {L:List (Nat × Obj)} (hm:Mem w0 w L) (he:Ext w w') (h:w'.ownsRow w.heap.size e 1 v n xs):Rw w0 w' v e 1 n xs L:=by
 refine ⟨hm.call he,⟨h.1,h.2.imp id fun ⟨g,cap,cur,e1,hb,r⟩=>⟨g,cap,cur,e1,Nat.le_trans hm.ext.size hb,r⟩⟩,fun x hx e=>?_⟩;have h1:=(h.lt x.1 e).1;have h2:=hm.lt (b:=x.1) (o:=x.2) hx;omega
theorem qabf:Tryz.prog.underlying 136=some (.slice 51):=Tryz.underlying136
theorem u64I:Tryz.prog.info? 51=some ((Tryz.prog.info? 51).get Jk):=(Option.some_get _).symm
theorem u64Z:((Tryz.prog.info? 51).get Jk).zero=some (.int .u64 0):=by kernel_rfl
theorem qk9 {l:LB} (hT:(tE l).2=0):(∀ k,k<4→(tcF l k).2=0)∧∀ k,k<4→(tvF l k).2=0:=by
 have ht0:(errF (tcF l) 4).2=0∧(errF (tvF l) 4).2=0:=by
  rw [tE] at hT
  split at hT
  ·rename_i h;exact absurd hT h
  ·split at hT
   ·rename_i h;exact absurd hT h
   ·constructor<;>omega
 exact ⟨qaw ht0.1,qaw ht0.2⟩
theorem qng {f:Nat→Nat × Nat} {b:Nat} (h:∀ k,(f k).1≤b):∀ n,(errF f n).1≤b
 | 0=>Nat.zero_le _
 | n+1=>by
  rw [errF]
  split
  ·exact qng h n
  ·exact h n
theorem qil (l:LB) (k most:Nat):(numE l k most).1≤l.length:=by
 unfold numE
 split
 ·exact qf8 l k
 ·split
  ·exact qf8 l k
  ·exact Nat.zero_le _
theorem qach (m:LB):(dE m).1≤m.length:=by
 unfold dE
 split
 ·exact qng (fun k=>qil m k _) 2
 ·split
  ·exact Nat.le_refl _
  ·split
   ·simp only;omega
   ·exact Nat.zero_le _
theorem qne {m a:LB} (h:(entG m false a).2.2=0):(numL m).1≤a.length:=by
 unfold entG at h;simp only [Bool.false_eq_true,if_false] at h
 split at h
 ·rename_i g;exact absurd h g
 split at h
 ·rename_i g;exact absurd h g
 split at h
 ·cases h
 ·omega
theorem q7h (a b:ByteArray):leL a.data.toList b.data.toList=(slt a b||seq a b):=rfl
theorem q7s {l:LB} {k:Nat} (h:∀ j,j<k→(vsF l j).2=0) (hk:k<3) (he:(vsF l k).2≠0):sE l=vsF l k:=by
 have:=qbx (f:=vsF l) h hk he;rw [sE,this,if_pos he]
theorem qaei:Tryz.prog.underlying 74=some (.slice 75):=Tryz.underlying74
theorem idsI:Tryz.prog.info? 75=some ((Tryz.prog.info? 75).get Jk):=(Option.some_get _).symm
theorem idsZ:((Tryz.prog.info? 75).get Jk).zero=some ((((Tryz.prog.info? 75).get Jk).zero).get Jk):=(Option.some_get _).symm
structure Al (w0:World) (L:List (Nat × Obj)) (o1 o1' o2 o2':Obj) (s1 s2 t1 t2:Bool) (v1 v2:Value) (w:World):Prop where
 h:∃ b1 b2:Nat,(s1=true→v1=pp b1)∧(s2=true→v2=pp b2)∧(s1=false→t1=false)∧(s2=false→t2=false)∧
  Mem w0 w ((bif s1 then [(b1,bif t1 then o1' else o1)] else [])++((bif s2 then [(b2,bif t2 then o2' else o2)] else [])++L))
section
variable {w0 w w':World} {L:List (Nat × Obj)} {o1 o1' o2 o2':Obj} {s1 s2 t1 t2:Bool} {v1 v2:Value}
theorem Al.start (h:Mem w0 w L):Al w0 L o1 o1' o2 o2' false false false false v1 v2 w:=⟨0,0,fun h=>(by cases h),fun h=>(by cases h),fun _=>rfl,fun _=>rfl,h⟩
theorem Al.call (h:Al w0 L o1 o1' o2 o2' s1 s2 t1 t2 v1 v2 w) (he:Ext w w'):Al w0 L o1 o1' o2 o2' s1 s2 t1 t2 v1 v2 w':=by
 obtain ⟨b1,b2,h1,h2,h3,h4,h5⟩:=h;exact ⟨b1,b2,h1,h2,h3,h4,h5.call he⟩
theorem Al.mem (h:Al w0 L o1 o1' o2 o2' s1 s2 t1 t2 v1 v2 w):Mem w0 w L:=by
 obtain ⟨b1,b2,h1,h2,h3,h4,h5⟩:=h;exact h5.sub ((List.sublist_append_right _ _).trans (List.sublist_append_right _ _))
theorem Al.new1 (h:Al w0 L o1 o1' o2 o2' false s2 t1 t2 v1 v2 w):Al w0 L o1 o1' o2 o2' true s2 t1 t2 (.pointer (some ⟨w.heap.size,0,none⟩)) v2 (w.alloc o1):=by
 obtain ⟨b1,b2,h1,h2,h3,h4,h5⟩:=h;refine ⟨w.heap.size,b2,fun _=>rfl,h2,fun h=>(by cases h),h4,?_⟩;rw [h3 rfl];exact h5.new rfl rfl
theorem Al.put1 (h:Al w0 L o1 o1' o2 o2' true s2 false t2 v1 v2 w):∃ b,v1=pp b∧∃ M,Mem w0 w ((b,o1)::M)∧∀ {w' u1},Mem w0 w' ((b,o1')::M)→u1=pp b→Al w0 L o1 o1' o2 o2' true s2 true t2 u1 v2 w':=by
 obtain ⟨b1,b2,h1,h2,h3,h4,h5⟩:=h;exact ⟨b1,h1 rfl,_,h5,fun hm hu=>⟨b1,b2,fun _=>hu,h2,fun h=>(by cases h),h4,hm⟩⟩
theorem Al.done1 (h:Al w0 L o1 o1' o2 o2' true false true t2 v1 v2 w):∃ b1,v1=pp b1∧Mem w0 w ((b1,o1')::L):=by
 obtain ⟨b1,b2,h1,h2,h3,h4,h5⟩:=h;exact ⟨b1,h1 rfl,h5⟩
end
theorem LoadV.fim {w0 w:World} {L:List (Nat × Obj)} {b off n:Nat} {F:Nat→Int} {t:TypeId} {x:Int} {K:Value→Prop} (h:Mem w0 w L) (hi:(b,Obj.cells (fnA n (inF F)) t)∈L) (j:Nat) (e:off=j) (hj:j<n) (hv:F j=x) (hk:K (ii x)):LoadV w b off K:=by
 obtain ⟨i,hi⟩:=List.getElem?_of_mem hi;exact LoadV.fi h hi j e hj hv hk
theorem qadt {l:LB} (h:(sE l).2=0):(∀ k,k<3→vNum l k≤67108864)∧qm l 3=l.length:=by
 unfold sE at h
 split at h
 ·rename_i h0;exact absurd h h0
 rename_i h0
 split at h
 ·cases h
 rename_i g1
 split at h
 ·cases h
 rename_i g2
 exact ⟨fun k hk=>qfe (qaw (f:=vsF l) (n:=3) Oo k hk),by omega⟩
theorem qhj {l:LB} (h:qm l 3=l.length) {k:Nat} (hk:k<3):qm l k+vNum l k≤l.length:=by
 have e1:qm l 1=qm l 0+vNum l 0:=rfl;have e2:qm l 2=qm l 1+vNum l 1:=rfl;have e3:qm l 3=qm l 2+vNum l 2:=rfl
 rcases (show k=0∨k=1∨k=2 by omega) with rfl|rfl|rfl<;>omega
theorem q1z {l:LB} (h:qm l 3=l.length) {k:Nat} (hk:k<3):(sDict l k).length=vNum l k:=by
 have:=qhj h hk;rw [sDict,List.length_take,zld];omega
namespace V
theorem StoreA.row {P:Program} {w0 w:World} {L:List (Nat × Obj)} {i b off:Nat} {cur:Array Value} {t:TypeId} {vs:List Value} {K:World→Prop} (h:Mem w0 w L)
  (hi:L[i]?=some (b,.cells cur t)) (hl:off+vs.length≤cur.size) (h1:∀ v∈vs,v.oneCell'=true)
  (hk:∀ w',(∀ c,c≠b→w'.heap[c]?=w.heap[c]?)→w.heap.size≤w'.heap.size→Mem w0 w' (L.set i (b,.cells (cur.toList.take off++vs++cur.toList.drop (off+vs.length)).toArray t))→K w'):StoreA P w b off vs K:=by
 have hm:(b,Obj.cells cur t)∈L:=zmg hi;have hg:=h.get hm;have hr:=run_storeCells_at P b off t vs 0 cur w hg (by simpa using hl) h1;simp only [Nat.add_zero] at hr;refine ⟨_,hr,hk _ (fun c hc=>qz hc) (by simp [World.setRow]) ?_⟩;refine h.set hi ?_ (qde hg) (fun c hc=>qz hc);exact Below.trans h.ext ⟨rfl,rfl,rfl,by simp [World.setRow],fun k hk=>qz (by have:=(h.own _ hm).1;simp only at this;omega)⟩
structure Er (w0:World) (L:List (Nat × Obj)) (o:Obj) (m1 m2 m3:Nat→Value) (c1 c2 c3:Bool) (v1 v2 v3:Value) (w:World):Prop where
 h:(c1=false∧c2=false∧c3=false∧Mem w0 w L)∨(c1=true∧∃ b,v1=m1 b∧(c2=true→v2=m2 b)∧(c3=true→v3=m3 b)∧Mem w0 w ((b,o)::L))
section
variable {w0 w w':World} {L L':List (Nat × Obj)} {o:Obj} {m1 m2 m3:Nat→Value} {c1 c2 c3:Bool} {v1 v2 v3:Value}
theorem Er.start (h:Mem w0 w L):Er w0 L o m1 m2 m3 false false false v1 v2 v3 w:=⟨.inl ⟨rfl,rfl,rfl,h⟩⟩
theorem Er.mem (h:Er w0 L o m1 m2 m3 c1 c2 c3 v1 v2 v3 w):Mem w0 w L:=by
 rcases h.h with ⟨_,_,_,h⟩|⟨_,b,_,_,_,h⟩
 ·exact h
 ·exact h.sub (List.sublist_cons_self ..)
theorem Er.made (h:Er w0 L o m1 m2 m3 false c2 c3 v1 v2 v3 w) {b:Nat} (he:Ext w w') (hb:w.heap.size≤b) (ho:w'.heap[b]?=some o):Er w0 L o m1 m2 m3 true c2 c3 (m1 b) v2 v3 w':=by
 rcases h.h with ⟨_,h2,h3,hm⟩|⟨h1,_⟩
 ·exact ⟨.inr ⟨rfl,b,rfl,fun h=>(by rw [h2] at h;cases h),fun h=>(by rw [h3] at h;cases h),hm.fresh he hb ho⟩⟩
 ·cases h1
theorem Er.alloc (h:Er w0 L o m1 m2 m3 false c2 c3 v1 v2 v3 w):Er w0 L o m1 m2 m3 true c2 c3 (m1 w.heap.size) v2 v3 (w.alloc o):=
 h.made ((Ext.refl w).alloc o) znr (heap_alloc_new w o)
theorem Er.see (h:Er w0 L o m1 m2 m3 true c2 c3 v1 v2 v3 w):∃ b,v1=m1 b∧Er w0 L o m1 m2 m3 true true c3 (m1 b) (m2 b) v3 w∧Er w0 L o m1 m2 m3 true c2 true (m1 b) v2 (m3 b) w:=by
 rcases h.h with ⟨h1,_⟩|⟨_,b,h2,h3,h4,h⟩
 ·cases h1
 ·exact ⟨b,h2,⟨.inr ⟨rfl,b,rfl,fun _=>rfl,h4,h⟩⟩,⟨.inr ⟨rfl,b,rfl,h3,fun _=>rfl,h⟩⟩⟩
theorem Er.see2 (h:Er w0 L o m1 m2 m3 c1 true c3 v1 v2 v3 w):∃ b,v2=m2 b∧Er w0 L o m1 m2 m3 c1 true true v1 (m2 b) (m3 b) w:=by
 rcases h.h with ⟨_,h1,_⟩|⟨h0,b,h2,h3,h4,h⟩
 ·cases h1
 ·exact ⟨b,h3 rfl,⟨.inr ⟨h0,b,h2,fun _=>rfl,fun _=>rfl,h⟩⟩⟩
theorem Er.store {P:Program} {K:World→Prop} {i b:Nat} {cur:Array Value} {t:TypeId} {vs:List Value} (h:Er w0 L o m1 m2 m3 c1 c2 c3 v1 v2 v3 w) (hi:L[i]?=some (b,.cells cur t))
  (hl:cur.size=vs.length) (hv:∀ v∈vs,v.oneCell'=true) (hL:L.set i (b,.cells vs.toArray t)=L') (hk:∀ w',(∀ c,c≠b→w'.heap[c]?=w.heap[c]?)→Er w0 L' o m1 m2 m3 c1 c2 c3 v1 v2 v3 w'→K w'):StoreA P w b 0 vs K:=by
 subst hL;have e:(cur.toList.take 0++vs++cur.toList.drop (0+vs.length)).toArray=vs.toArray:=by
  rw [List.take_zero,List.nil_append,List.drop_eq_nil_of_le Ys,List.append_nil]
 rcases h.h with ⟨h1,h2,h3,h⟩|⟨h1,x,h2,h3,h4,h⟩
 ·refine StoreA.row h hi Oo hv fun w' hf _ hm=>hk w' hf ⟨.inl ⟨h1,h2,h3,?_⟩⟩
  rwa [e] at hm
 ·refine StoreA.row h (i:=i+1) hi Oo hv fun w' hf _ hm=>hk w' hf ⟨.inr ⟨h1,x,h2,h3,h4,?_⟩⟩;rw [e] at hm;exact hm
theorem Er.done (h:Er w0 L o m1 m2 m3 true c2 true v1 v2 v3 w):∃ b,v1=m1 b∧v3=m3 b∧Mem w0 w ((b,o)::L):=by
 rcases h.h with ⟨h1,_⟩|⟨_,b,h2,_,h4,h⟩
 ·cases h1
 ·exact ⟨b,h2,h4 rfl,h⟩
end
theorem StoreV.row {w0 w:World} {L:List (Nat × Obj)} {i b off:Nat} {cs:Array Value} {t:TypeId} {v:Value} {K:World→Prop} (h:Mem w0 w L) (hi:L[i]?=some (b,.cells cs t))
  (ho:off<cs.size) (h1:qc1 v=true) (hk:∀ w',(∀ c,c≠b→w'.heap[c]?=w.heap[c]?)→w.heap.size≤w'.heap.size→Mem w0 w' (L.set i (b,.cells (cs.setIfInBounds off v) t))→K w'):StoreV w b off v K:=
 StoreV.own (h.get (zmg hi)) ho h1 fun w' hw=>hk w' (fun c hc=>by subst hw;exact Below.heap_setCell _ _ _ _ hc) (by subst hw;simp [World.setCell]) (h.setCell hi hw)
theorem CellsAt.other {w w':World} {x b off:Nat} {vs:List Value} (h:CellsAt w b off vs) (hb:b≠x) (hw:∀ c,c≠x→w'.heap[c]?=w.heap[c]?):CellsAt w' b off vs:=by
 intro k v hv;have:=h k v hv;unfold World.cell? at this ⊢;simp only at this ⊢;rw [hw b hb];exact this
theorem SlAt.other {α:Type} {enc:α→List Value} {size:Nat} {w w':World} {A:oA} {l:List α} {x:Nat} {cs:Array Value} {t:TypeId} {fz:Nat × Nat} (h:SlAt enc size w A l) (hx:w.heap[x]?=some (.cells cs t fz))
  (hne:∀ y∈l,∀ v∈cs.toList,(enc y)[0]?≠some v) (hen:∀ y∈l,enc y≠[]) (hw:∀ c,c≠x→w'.heap[c]?=w.heap[c]?):SlAt enc size w' A l:=by
 refine ⟨fun hn=>?_⟩;obtain ⟨b,off,h1,h2⟩:=h.at_ hn;refine ⟨b,off,h1,fun j y hy=>(h2 j y hy).other ?_ hw⟩;intro hbx;subst hbx;have hy':y∈l:=zmg hy;obtain ⟨v,hv⟩:∃ v,(enc y)[0]?=some v:=by
  cases he:enc y with
  | nil=>exact absurd he (hen y hy')
  | cons v r=>exact ⟨v,rfl⟩
 have h3:=h2 j y hy 0 v hv;rw [qc hx] at h3;exact hne y hy' v (Array.mem_toList_iff.2 (Array.mem_of_getElem? h3)) hv
end V
end Go.Proofs.YtkienlambankeaaGreatDoor
