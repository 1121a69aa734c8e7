/- Lemmas and contracts of functions on the way to the law's card (part 5 of 10). -/
import Derived.Test.YtaiiejogocblgaaGreatDoorPO4
import Derived.TacticsIn
import Derived.RangeFuncSeq
import Derived.RangeFuncLeaves
import Derived.Lib.Replace
import Derived.Lib.CutLaws
import Derived.Lib.ReplaceLaws
import Derived.LaidEql
import Derived.Stop.Asserts
import Derived.RowKitTokens
namespace Go.Proofs.YtaiiejogocblgaaGreatDoor
set_option maxHeartbeats 8000000
open Go.RowKit
namespace V
def Fr (r:Option Nat):Fence:={ fn:=fun _=>True,depth:=none,alive:=false,round:=r }
theorem qcr {r:Option Nat} {m:Nat} {P:Program} {f:FuncId} {args:Array Value} {w:World} {R:Ending→World→Prop}:CallsIn (Fr r) m P f args w R↔Calls P f args w R:=by
 show CallsIn Fence.wide m P f args w R↔_;exact callsIn_wide
def Sw (n:Nat) (ρ:Nat→Value) (a:Act):Prop:=St n ρ { a with defers:=[] }
theorem Sw.eval {n:Nat} {ρ:Nat→Value} {a:Act} (h:Sw n ρ a):a.eval=ev ρ:=by
 have:=St.eval h;rw [← this];funext x;cases x<;>rfl
theorem Sw.put {n:Nat} {ρ:Nat→Value} {a:Act} (h:Sw n ρ a) (ds:List Deferred) {dst:Option Tmp} {v:Value} {K:(Nat→Value)→Prop} (hk:putV n dst ρ v K) :
  ∃ ρ',Sw n ρ' ({ a with defers:=ds }.put dst v)∧({ a with defers:=ds }.put dst v).defers=ds∧K ρ':=by
 obtain ⟨ρ',h1,h2⟩:=putV.st hk h;refine ⟨ρ',?_,?_,h2⟩
 ·cases dst<;>exact h1
 ·cases dst<;>rfl
theorem Sw.st {n:Nat} {ρ:Nat→Value} {a:Act} (h:Sw n ρ a) (hd:a.defers=[]):St n ρ a:=by
 have:a={ a with defers:=[] }:=by cases a;cases hd;rfl
 rw [this];exact h
theorem St.sw {n:Nat} {ρ:Nat→Value} {a:Act} (h:St n ρ a):Sw n ρ a:=by
 have:a={ a with defers:=[] }:=by have:=h.defers;cases a;cases this;rfl
 unfold Sw;rw [← this];exact h
structure YieldV (P:Program) (l:Nat) (args:List Value) (w:World) (K:Value→World→Prop):Prop where
 h:YieldAt (Fr none) 0 P l args.toArray w fun e w'=>∃ v,e=.returned v∧K v w'
theorem YieldV.mono {P:Program} {l:Nat} {args:List Value} {w:World} {K K':Value→World→Prop} (h:YieldV P l args w K) (hk:∀ v w',K v w'→K' v w'):YieldV P l args w K':=by
 obtain ⟨fn,tmps,asg,b,h1,h2⟩:=h.h;exact ⟨⟨fn,tmps,asg,b,h1,h2.mono fun e w' ⟨v,he,hv⟩=>⟨v,he,hk _ _ hv⟩⟩⟩
def q2z (P:Program) (c:Call) (ty:TypeId) (ρ:Nat→Value) (w:World) (s:Sem Next) (K:Value→World→Prop):Prop:=
 match c.callee with
 | .value f=>match ev ρ f with
  | .func (.yield l) first captured=>match first.toList,captured.toList with
   | [],[]=>qb1 (evs ρ c.args.toList) fun vs=>YieldV P l vs w K
   | _,_=>False
  | .func (.func g) first captured=>qb1 (evs ρ c.args.toList) fun vs=>
   match first.toList,captured.toList with
   | [],[]=>CallV P g vs w K
   | x,y=>CallV P g (x++(vs++y)) w K
  | _=>Fall P s w K
 | .builtin .len=>lenV P (getL c.argTypes.toList 0) (evs ρ c.args.toList) w s K
 | .builtin .append=>appV P c.argTypes ty (evs ρ c.args.toList) w s K
 | .invoke recv name=>match ev ρ recv with
  | .iface t v=>qb1 (evs ρ c.args.toList) fun vs=>InvV P t v name vs w K
  | _=>Fall P s w K
 | _=>Fall P s w K
def defW (c:Call) (ρ:Nat→Value) (K:Deferred→Prop):Prop:=
 match c.callee with
 | .value f=>match ev ρ f with
  | .func (.func g) first captured=>match first.toList,captured.toList with
   | [],[]=>qb1 (evs ρ c.args.toList) fun vs=>K { target:=.fn (.func g) #[],args:=vs.toArray }
   | _,_=>False
  | _=>False
 | _=>False
def opW (P:Program) (r:Option Nat) (o:Oper) (ρ:Nat→Value) (ds:List Deferred) (w:World) (K:Value→List Deferred→World→Prop):Prop:=
 match o.op with
 | .call c=>q2z P c o.type ρ w (execOp (ev ρ) o) fun v w'=>K v ds w'
 | .defer c=>match r with
  | none=>defW c ρ fun d=>K undef (d::ds) w
  | some _=>False
 | _=>opV P o ρ w fun v w'=>K v ds w'
section
variable {P:Program} {n:Nat} {r:Option Nat}
theorem qzr {ρ:Nat→Value} {w:World} {o:Oper} {c:Call} {K:Value→World→Prop} (ho:o.op=.call c) (h:q2z P c o.type ρ w (execOp (ev ρ) o) K) :
  OpOk P (execOp (ev ρ) o) w K∨∃ l f tmps asg b,(execOp (ev ρ) o).run P w=.ok (.round l f tmps asg b) w∧RoundIn (Fr none) 0 P l f tmps asg b w fun e w'=>∃ v,e=.returned v∧K v w':=by
 have key:qvz P c o.type ρ w (execOp (ev ρ) o) K→OpOk P (execOp (ev ρ) o) w K:=qr0 ho;unfold q2z at h;unfold qvz at key
 split at h
 ·rename_i f hc
  simp only [hc] at key
  split at h
  ·rename_i l first captured hf
   split at h
   ·rename_i h1 h2
    rw [qaj] at h;obtain ⟨f',tmps,asg,b,hy,hR⟩:=h.h;refine .inr ⟨l,f',tmps,asg,b,?_,hR⟩;have e1:first=#[]:=by rw [← Array.toList_inj];simpa using h1
    have e2:captured=#[]:=by rw [← Array.toList_inj];simpa using h2
    subst e1 e2;rw [qdh] at hy;have e3:(c.args.toList.map (ev ρ)).toArray=c.args.map (ev ρ):=by rw [← Array.toList_inj];simp
    rw [e3] at hy;simp only [execOp,ho,resolve,hc,hf];simp [go_sem,Deferred.ofValue,invoke,hy]
   ·exact h.elim
  ·rename_i g first captured hf
   rw [hf] at key;exact .inl (key h)
  ·rename_i hn1 hn2
   exact .inl (.inl h.ok)
 ·rename_i hc
  simp only [hc] at key;exact .inl (key h)
 ·rename_i hc
  simp only [hc] at key;exact .inl (key h)
 ·rename_i hc
  simp only [hc] at key;exact .inl (key h)
 ·exact .inl (.inl h.ok)
theorem q5m {o:Oper} {ρ:Nat→Value} {ds:List Deferred} {w:World} {K:Value→List Deferred→World→Prop} {a:Act} {next:Act→World→Prop} {Q:Exit→Act→World→Prop}
  (ha:Sw n ρ a) (hd:a.defers=ds) (h:opW P r o ρ ds w K) (hn:∀ v ds' w',K v ds' w'→next ({ a with defers:=ds' }.put o.dst v) w'):o.wpIn (Fr r) 0 P a w next Q:=by
 refine ⟨fun _ _=>trivial,?_⟩;have hds:({ a with defers:=ds }:Act)=a:=by subst hd;rfl
 have hn0:∀ v w',K v ds w'→next (a.put o.dst v) w':=fun v w' hk=>by have:=hn v ds w' hk;rwa [hds] at this
 rw [ha.eval];unfold opW at h
 split at h
 ·rename_i c ho
  rw [Oper.semAt_eq _ _ _ (by intro c' e;rw [ho] at e;cases e)]
  rcases qzr ho h with ((⟨v,w',h1,h2⟩|⟨w',h1,h2⟩)|⟨f,args,h1,h2⟩)|⟨l,f,tmps,asg,b,h1,h2⟩
  ·rw [h1];exact hn0 _ _ h2
  ·rw [h1];exact hn0 _ _ h2
  ·rw [h1,Oper.uponIn_enter];refine ⟨fun h=>by simp [Fr] at h,qcr.2 (h2.mono fun e w' ⟨v,he,hk⟩=>?_)⟩;subst he;exact hn0 _ _ hk
  ·rw [h1,Oper.uponIn_round];refine ⟨fun h=>by simp [Fr] at h,?_⟩;have h2:RoundIn (Fr r) 0 P l f tmps asg b w _:=h2;refine h2.mono fun e w' ⟨v,he,hk⟩=>?_;subst he;exact hn0 _ _ hk
 ·rename_i c ho
  split at h
  ·unfold defW at h
   split at h
   ·rename_i f hc
    split at h
    ·rename_i g first captured hf
     split at h
     ·rename_i h1 h2
      rw [qaj] at h;have e1:first=#[]:=by rw [← Array.toList_inj];simpa using h1
      have e2:captured=#[]:=by rw [← Array.toList_inj];simpa using h2
      subst e1 e2;rw [qdh] at h;have e3:(c.args.toList.map (ev ρ)).toArray=c.args.map (ev ρ):=by rw [← Array.toList_inj];simp
      rw [e3] at h;have e4:(Oper.semAt none (ev ρ) o).run P w=.ok (.defer { target:=.fn (.func g) #[],args:=c.args.map (ev ρ) }) w:=by
       simp only [Oper.semAt_none,execOp,ho,resolve,hc,hf];simp [go_sem,Deferred.ofValue]
      have e5:(Fr none).round=none:=rfl;rw [e5,e4,Oper.uponIn_defer];subst hd;exact hn _ _ _ h
     ·exact h.elim
    ·exact h.elim
   ·exact h.elim
  ·exact h.elim
 ·rename_i hn1 hn2
  rw [Oper.semAt_eq _ _ _ (fun c e=>hn2 c e)]
  rcases qsp h with (⟨v,w',h1,h2⟩|⟨w',h1,h2⟩)|⟨f,args,h1,h2⟩
  ·rw [h1];exact hn0 _ _ h2
  ·rw [h1];exact hn0 _ _ h2
  ·rw [h1,Oper.uponIn_enter];refine ⟨fun h=>by simp [Fr] at h,qcr.2 (h2.mono fun e w' ⟨v,he,hk⟩=>?_)⟩;subst he;exact hn0 _ _ hk
end
def runW (P:Program) (n:Nat) (r:Option Nat) (o:Oper) (K:(Nat→Value)→List Deferred→World→Prop) (ρ:Nat→Value) (ds:List Deferred) (w:World):Prop:=
 opW P r o ρ ds w fun v ds' w'=>putV n o.dst ρ v fun ρ'=>K ρ' ds' w'
def qu9 (n:Nat) (o:Oper) (K:(Nat→Value)→List Deferred→World→Prop) (ρ:Nat→Value) (ds:List Deferred) (w:World):Prop:=
 putV n o.dst ρ undef fun ρ'=>K ρ' ds w
def regW (P:Program) (n:Nat) (r:Option Nat) (ops:List Oper) (Q:(Nat→Value)→List Deferred→World→Prop):List Oper→(Nat→Value)→List Deferred→World→Prop
 | [],ρ,ds,w=>Q ρ ds w
 | o::rest,ρ,ds,w=>
  match o.guard with
  | none=>runW P n r o (regW P n r ops Q rest) ρ ds w
  | some (j,want)=>
   match getL ops j with
   | none=>qu9 n o (regW P n r ops Q rest) ρ ds w
   | some oj=>match oj.dst with
    | none=>qu9 n o (regW P n r ops Q rest) ρ ds w
    | some d=>bif Nat.blt d n then
      match ρ d with
      | .bool b=>Tst b
        (match want with
         | true=>runW P n r o (regW P n r ops Q rest) (upd ρ d (.bool true)) ds w
         | false=>qu9 n o (regW P n r ops Q rest) (upd ρ d (.bool true)) ds w)
        (match want with
         | true=>qu9 n o (regW P n r ops Q rest) (upd ρ d (.bool false)) ds w
         | false=>runW P n r o (regW P n r ops Q rest) (upd ρ d (.bool false)) ds w)
      | _=>qu9 n o (regW P n r ops Q rest) ρ ds w
     else False
abbrev QW:=Exit→(Nat→Value)→List Deferred→World→Prop
def seqW (K:(Nat→Value)→List Deferred→World→Prop) (Q:QW):QW
 | .normal,ρ,ds,w=>K ρ ds w
 | .exit i,ρ,ds,w=>Q (.exit i) ρ ds w
 | .goto l,ρ,ds,w=>Q (.goto l) ρ ds w
 | .ret,ρ,ds,w=>Q .ret ρ ds w
 | .panic c,ρ,ds,w=>Q (.panic c) ρ ds w
 | .outgrown,ρ,ds,w=>Q .outgrown ρ ds w
def qrw (id:Nat) (Q:QW):QW
 | .normal,ρ,ds,w=>Q .normal ρ ds w
 | .exit i,ρ,ds,w=>bif Nat.beq i id then Q .normal ρ ds w else Q (.exit i) ρ ds w
 | .goto l,ρ,ds,w=>Q (.goto l) ρ ds w
 | .ret,ρ,ds,w=>Q .ret ρ ds w
 | .panic c,ρ,ds,w=>Q (.panic c) ρ ds w
 | .outgrown,ρ,ds,w=>Q .outgrown ρ ds w
def qhf (n:Nat) (Q:QW):Exit→Act→World→Prop:=fun e a w=>∃ ρ,Sw n ρ a∧Q e ρ a.defers w
structure LoopW (P:Program) (n:Nat) (r:Option Nat) (body:Code) (Q:QW) (ρ:Nat→Value) (ds:List Deferred) (w:World):Prop where
 h:∀ a,Sw n ρ a→a.defers=ds→(Code.loop body).wpIn (Fr r) 0 P (qhf n Q) a w
structure DrawW (P:Program) (n:Nat) (r:Option Nat) (id:Nat) (ops:Array Oper) (Q:QW) (ρ:Nat→Value) (ds:List Deferred) (w:World):Prop where
 h:∀ a,Sw n ρ a→a.defers=ds→(Code.region id ops true).wpIn (Fr r) 0 P (qhf n Q) a w
structure ScopeW (P:Program) (n:Nat) (r:Option Nat) (c:Code) (Q:QW) (ρ:Nat→Value) (ds:List Deferred) (w:World):Prop where
 h:∀ a,Sw n ρ a→a.defers=ds→(Code.scope c).wpIn (Fr r) 0 P (qhf n Q) a w
structure RangeW (P:Program) (n:Nat) (r:Option Nat) (f:Operand) (ps:Array Tmp) (assign body:Code) (Q:QW) (ρ:Nat→Value) (ds:List Deferred) (w:World):Prop where
 h:∀ a,Sw n ρ a→a.defers=ds→(Code.rangeFunc f ps assign body).wpIn (Fr r) 0 P (qhf n Q) a w
def qf0 (P:Program) (n:Nat) (r:Option Nat):Code→QW→(Nat→Value)→List Deferred→World→Prop
 | .skip,Q,ρ,ds,w=>Q .normal ρ ds w
 | .region id ops draw,Q,ρ,ds,w=>
  match draw with
  | false=>regW P n r ops.toList (Q .normal) ops.toList ρ ds w
  | true=>DrawW P n r id ops Q ρ ds w
 | .seq a b,Q,ρ,ds,w=>qf0 P n r a (seqW (qf0 P n r b Q) Q) ρ ds w
 | .cond c t e,Q,ρ,ds,w=>
  match ev ρ c with
  | .bool b=>Tst b (qf0 P n r t Q ρ ds w) (qf0 P n r e Q ρ ds w)
  | _=>False
 | .block id c,Q,ρ,ds,w=>qf0 P n r c (qrw id Q) ρ ds w
 | .loop c,Q,ρ,ds,w=>LoopW P n r c Q ρ ds w
 | .exit id,Q,ρ,ds,w=>Q (.exit id) ρ ds w
 | .label _,Q,ρ,ds,w=>Q .normal ρ ds w
 | .ret,Q,ρ,ds,w=>Q .ret ρ ds w
 | .goto l,Q,ρ,ds,w=>Q (.goto l) ρ ds w
 | .scope c,Q,ρ,ds,w=>ScopeW P n r c Q ρ ds w
 | .rangeFunc f p a b,Q,ρ,ds,w=>RangeW P n r f p a b Q ρ ds w
 | .refuse _,_,_,_,_=>False
section
variable {P:Program} {n:Nat} {r:Option Nat}
theorem Sw.yield {ρ:Nat→Value} {a:Act} (ha:Sw n ρ a) {ops:List Oper} {j d:Nat} {oj:Oper} (hj:getL ops j=some oj) (hd:oj.dst=some d) (hn:d<n) :
  yielded ops.toArray a.tmps j=match ρ d with | .bool b=>some b|_=>none:=St.yield ha hj hd hn
theorem qq1 {o:Oper} {ops:Array Oper} {ρ:Nat→Value} {ds:List Deferred} {w:World} {K:(Nat→Value)→List Deferred→World→Prop} {a:Act} {rest:List Oper} {Q':Exit→Act→World→Prop}
  (hg:Region.wanted o (yielded ops a.tmps)=true) (ha:Sw n ρ a) (hd:a.defers=ds) (h:runW P n r o K ρ ds w)
  (hk:∀ ρ' ds' a' w',Sw n ρ' a'→a'.defers=ds'→K ρ' ds' w'→wpListIn (Fr r) 0 P ops Q' rest a' w') :
  wpListIn (Fr r) 0 P ops Q' (o::rest) a w:=by
 unfold wpListIn;rw [if_pos hg];refine q5m ha hd h fun v ds' w' hp=>?_;obtain ⟨ρ',h1,h2,h3⟩:=ha.put ds' hp;exact hk _ _ _ _ h1 h2 h3
theorem qgu {o:Oper} {ops:Array Oper} {ρ:Nat→Value} {ds:List Deferred} {w:World} {K:(Nat→Value)→List Deferred→World→Prop} {a:Act} {rest:List Oper} {Q':Exit→Act→World→Prop}
  (hg:Region.wanted o (yielded ops a.tmps)=false) (ha:Sw n ρ a) (hd:a.defers=ds) (h:qu9 n o K ρ ds w)
  (hk:∀ ρ' ds' a' w',Sw n ρ' a'→a'.defers=ds'→K ρ' ds' w'→wpListIn (Fr r) 0 P ops Q' rest a' w') :
  wpListIn (Fr r) 0 P ops Q' (o::rest) a w:=by
 unfold wpListIn;rw [if_neg (by rw [hg];simp)];refine ⟨fun _ _=>trivial,?_⟩;obtain ⟨ρ',h1,h2,h3⟩:=ha.put ds h;have e:({ a with defers:=ds }:Act)=a:=by subst hd;rfl
 rw [e] at h1 h2;exact hk _ _ _ _ h1 h2 h3
theorem q31 {ops:List Oper} {Q:(Nat→Value)→List Deferred→World→Prop} {Q':Exit→Act→World→Prop} (hQ:∀ ρ ds a w,Sw n ρ a→a.defers=ds→Q ρ ds w→Q' .normal a w) (l:List Oper) :
  ∀ (ρ:Nat→Value) (ds:List Deferred) (a:Act) (w:World),Sw n ρ a→a.defers=ds→regW P n r ops Q l ρ ds w→wpListIn (Fr r) 0 P ops.toArray Q' l a w:=by
 induction l with
 | nil=>intro ρ ds a w ha hd h;exact hQ _ _ _ _ ha hd h
 | cons o rest ih=>
  intro ρ ds a w ha hd h;unfold regW at h;have ih':∀ ρ' ds' a' w',Sw n ρ' a'→a'.defers=ds'→regW P n r ops Q rest ρ' ds' w'→wpListIn (Fr r) 0 P ops.toArray Q' rest a' w':=fun ρ' ds' a' w'=>ih ρ' ds' a' w'
  split at h
  ·rename_i hg
   exact qq1 (by simp [Region.wanted,hg]) ha hd h ih'
  ·rename_i j want hg
   split at h
   ·rename_i hj
    rw [qu] at hj;refine qgu ?_ ha hd h ih';have:ops.toArray[j]?=none:=by simpa using hj
    simp [Region.wanted,hg,yielded,this]
   ·rename_i oj hj
    split at h
    ·rename_i hdd
     refine qgu ?_ ha hd h ih';have hj2:=hj;rw [qu] at hj2;have:ops.toArray[j]?=some oj:=by simpa using hj2
     simp [Region.wanted,hg,yielded,this,hdd]
    ·rename_i d hdd
     cases hn:Nat.blt d n<;>rw [hn] at h
     ·exact h.elim
     ·have hn':d<n:=by simpa using hn
      have hy:=ha.yield hj hdd hn';simp only [cond_true] at h
      split at h
      ·rename_i b hb
       rw [hb] at hy;cases b
       ·have h:=h.f rfl;have ha':Sw n _ a:=St.same ha hb;cases want
        ·exact qq1 (by simp [Region.wanted,hg,hy]) ha' hd h ih'
        ·exact qgu (by simp [Region.wanted,hg,hy]) ha' hd h ih'
       ·have h:=h.t rfl;have ha':Sw n _ a:=St.same ha hb;cases want
        ·exact qgu (by simp [Region.wanted,hg,hy]) ha' hd h ih'
        ·exact qq1 (by simp [Region.wanted,hg,hy]) ha' hd h ih'
      ·rename_i hb
       refine qgu ?_ ha hd h ih';have:yielded ops.toArray a.tmps j=none:=by
        rw [hy]
        split
        ·rename_i b hb';exact absurd hb' (hb b)
        ·rfl
       simp [Region.wanted,hg,this]
theorem qxh {K:(Nat→Value)→List Deferred→World→Prop} {Q:QW} {e:Exit} {a:Act} {w:World} (h:qhf n (seqW K Q) e a w) :
  Exit.then (fun a w=>∃ ρ,Sw n ρ a∧K ρ a.defers w) (qhf n Q) e a w:=by
 obtain ⟨ρ,h1,h2⟩:=h;cases e<;>exact ⟨ρ,h1,h2⟩
theorem qqd {id:Nat} {Q:QW} {e:Exit} {a:Act} {w:World} (h:qhf n (qrw id Q) e a w) :
  Exit.inBlock id (qhf n Q) e a w:=by
 obtain ⟨ρ,h1,h2⟩:=h;cases e with
 | exit i=>
  by_cases hi:i=id
  ·have hb:Nat.beq i id=true:=by subst hi;simp
   simp only [qrw,hb,cond_true] at h2;simp only [Exit.inBlock,hi,if_true];exact ⟨ρ,h1,h2⟩
  ·have hb:Nat.beq i id=false:=Bool.eq_false_iff.2 fun h=>hi (Nat.eq_of_beq_eq_true h)
   simp only [qrw,hb,cond_false] at h2;simp only [Exit.inBlock,hi,if_false];exact ⟨ρ,h1,h2⟩
 | normal=>exact ⟨ρ,h1,h2⟩
 | goto l=>exact ⟨ρ,h1,h2⟩
 | ret=>exact ⟨ρ,h1,h2⟩
 | panic c=>exact ⟨ρ,h1,h2⟩
 | outgrown=>exact ⟨ρ,h1,h2⟩
theorem qdt (c:Code):∀ (Q:QW) (ρ:Nat→Value) (ds:List Deferred) (w:World),qf0 P n r c Q ρ ds w→∀ a,Sw n ρ a→a.defers=ds→c.wpIn (Fr r) 0 P (qhf n Q) a w:=by
 induction c with
 | skip=>intro Q ρ ds w h a ha hd;subst hd;exact Go.wpIn_skip ⟨ρ,ha,h⟩
 | region id ops draw=>
  intro Q ρ ds w h a ha hd;cases draw
  ·refine wpIn_region_list ?_;have:=q31 (Q':=qhf n Q) (fun ρ ds a w ha hd h=>by subst hd;exact ⟨ρ,ha,h⟩) ops.toList ρ ds a w ha hd h
   simpa using this
  ·exact h.h a ha hd
 | seq x y hx hy=>
  intro Q ρ ds w h a ha hd;refine Go.wpIn_seq (Go.wpIn_mono (hx _ _ _ _ h a ha hd) fun e a w h=>?_);have:=qxh h;cases e with
  | normal=>obtain ⟨ρ',h1,h2⟩:=this;exact hy _ _ _ _ h2 _ h1 rfl
  | exit i=>exact this
  | goto l=>exact this
  | ret=>exact this
  | panic c=>exact this
  | outgrown=>exact this
 | cond c t e ht he=>
  intro Q ρ ds w h a ha hd;unfold qf0 at h
  split at h
  ·rename_i b hb
   refine Go.wpIn_cond_split (t:=b) (by rw [ha.eval,hb]) (fun e=>ht _ _ _ _ (h.t e) a ha hd) (fun e=>he _ _ _ _ (h.f e) a ha hd)
  ·exact h.elim
 | block id c hc=>
  intro Q ρ ds w h a ha hd;exact Go.wpIn_block (Go.wpIn_mono (hc _ _ _ _ h a ha hd) fun e a w h=>qqd h)
 | loop c hc=>intro Q ρ ds w h a ha hd;exact h.h a ha hd
 | rangeFunc f p x b hx hb=>intro Q ρ ds w h a ha hd;exact h.h a ha hd
 | exit id=>intro Q ρ ds w h a ha hd;subst hd;exact Go.wpIn_exit ⟨ρ,ha,h⟩
 | scope c hc=>intro Q ρ ds w h a ha hd;exact h.h a ha hd
 | label l=>intro Q ρ ds w h a ha hd;subst hd;exact Go.wpIn_label ⟨ρ,ha,h⟩
 | goto l=>intro Q ρ ds w h a ha hd;subst hd;exact Go.wpIn_goto ⟨ρ,ha,h⟩
 | ret=>intro Q ρ ds w h a ha hd;subst hd;exact Go.wpIn_ret ⟨ρ,ha,h⟩
 | refuse why=>intro Q ρ ds w h a ha hd;exact h.elim
theorem DrawW.of {id:Nat} {ops:Array Oper} {Q:QW} {ρ:Nat→Value} {w:World} (h:DrawV P n id ops (fun e ρ' w'=>Q e ρ' [] w') ρ w):DrawW P n none id ops Q ρ [] w:=by
 refine ⟨fun a ha hd=>?_⟩;have:=h.h a (ha.st hd);show (Code.region id ops true).wpIn Fence.wide 0 P _ a w;refine wpIn_wide.2 (Go.wp_mono this fun e a w ⟨ρ',h1,h2⟩=>⟨ρ',h1.sw,?_⟩);rw [h1.defers];exact h2
theorem qt5 {α:Type} (l:α→List (Nat × Value)) (I:α→World→Prop) (μ:α→Nat) {body:Code} {Q:QW} {ρ:Nat→Value} {ds:List Deferred} {w:World} (x0:α)
  (h0:qi6 (l x0) ρ) (hI:I x0 w)
  (hr:∀ x w ρ',I x w→qf0 P n r body (seqW (fun ρ'' ds'' w'=>ds''=ds∧∃ x',qi6 (l x') ρ''∧I x' w'∧μ x'<μ x) Q) (over (l x) ρ') ds w):LoopW P n r body Q ρ ds w:=by
 refine ⟨fun a ha hd=>?_⟩;intro b k cs hro hb hroom;have key:∀ m x,μ x=m→∀ ρ a w,qi6 (l x) ρ→Sw n ρ a→a.defers=ds→I x w→
   ∃ e a' w',qhf n Q e a' w'∧ArrivesIn (Machine.fenced P (Fr r)) P (lone (b.atR a (.code body::.inLoop body::k)) cs w) b k cs e a' w':=by
  intro m
  induction m using Nat.strongRecOn with
  | _ m ih=>
   intro x hm ρ a w hag hst hds hI;have h1:=hr x w ρ hI;rw [qjx hag] at h1;obtain ⟨e,a₁,w₁,hq,harr⟩:=qdt body _ _ _ _ h1 a hst hds b (.inLoop body::k) cs hro hb hroom;obtain ⟨ρ₁,hst₁,hq⟩:=hq;cases e with
   | normal=>
    obtain ⟨hds',x',hag',hI',hlt⟩:=hq;obtain ⟨e₂,a₂,w₂,hq₂,harr₂⟩:=ih (μ x') (hm ▸ hlt) x' rfl ρ₁ a₁ w₁ hag' hst₁ hds' hI';exact ⟨e₂,a₂,w₂,hq₂,.of_steps (StepsIn.trans harr (.one (fenced_calm hb hroom rfl) stepR_inLoop)) harr₂⟩
   | exit id=>exact ⟨_,a₁,w₁,⟨ρ₁,hst₁,hq⟩,.pass (x:=.inLoop body) rfl (fun _ _=>.inl Js) harr⟩
   | goto l=>exact ⟨_,a₁,w₁,⟨ρ₁,hst₁,hq⟩,.pass (x:=.inLoop body) rfl (fun _ _=>.inl Js) harr⟩
   | ret=>exact ⟨_,a₁,w₁,⟨ρ₁,hst₁,hq⟩,.pass (x:=.inLoop body) rfl (fun _ _=>.inl Js) harr⟩
   | panic ch=>exact ⟨_,a₁,w₁,⟨ρ₁,hst₁,hq⟩,.pass (x:=.inLoop body) rfl (fun _ _=>.inl Js) harr⟩
   | outgrown=>exact ⟨_,a₁,w₁,⟨ρ₁,hst₁,hq⟩,.pass (x:=.inLoop body) rfl (fun _ _=>.inl Js) harr⟩
 obtain ⟨e,a',w',hq,harr⟩:=key _ x0 rfl ρ a w h0 ha hd hI;exact ⟨e,a',w',hq,.of_steps (.one (fenced_calm hb hroom rfl) stepR_loop) harr⟩
structure LeaveV (P:Program) (n:Nat) (fn:Func) (R:Value→World→Prop) (ρ:Nat→Value) (ds:List Deferred) (w:World):Prop where
 h:∀ a,Sw n ρ a→LeavesInM (Fr none) 0 P fn a.tmps (fun e w'=>∃ v,e=.returned v∧R v w') ds .returning w
def qjm (P:Program) (n:Nat) (fn:Func) (R:Value→World→Prop) (ρ:Nat→Value) (ds:List Deferred) (w:World):Prop:=
 match ds with
 | []=>resV fn.results ρ w fn R P n
 | d::ds=>LeaveV P n fn R ρ (d::ds) w
theorem qgb {fn:Func} {R:Value→World→Prop} {ρ:Nat→Value} {ds:List Deferred} {w:World} (h:qjm P n fn R ρ ds w) {a:Act} (ha:Sw n ρ a) :
  LeavesInM (Fr none) 0 P fn a.tmps (fun e w'=>∃ v,e=.returned v∧R v w') ds .returning w:=by
 cases ds with
 | nil=>
  obtain ⟨v,h1,h2⟩:=qj9 rfl ha h;exact ⟨v,h1,v,rfl,h2⟩
 | cons d ds=>exact h.h a ha
theorem LeaveV.mark {fn:Func} {R:Value→World→Prop} {ρ:Nat→Value} {D:Nat} {ds:List Deferred} {w:World} (h:w.heap[D]?=some (.deferred (some [])))
  (hk:∀ w',w'=setO w D (.deferred none)→qjm P n fn R ρ ds w'):LeaveV P n fn R ρ ({ target:=.collected D,args:=#[] }::ds) w:=
 ⟨fun a ha=>⟨by simp,.inl ⟨D,_,rfl,run_takeDeferred h,qgb (hk _ rfl) ha⟩⟩⟩
def GvD (P:Program) (f:FuncId) (args:List Value) (w:World) (R:World→Prop):Prop:=
 qdg P f=true∧CallsDIn (Fr none) 0 P f args.toArray .returning w fun e u' w'=>u'=.returning∧∃ v,e=.returned v∧R w'
theorem LeaveV.call {fn:Func} {R:Value→World→Prop} {ρ:Nat→Value} {g:FuncId} {vs:List Value} {ds:List Deferred} {w:World}
  (h:GvD P g vs w fun w'=>qjm P n fn R ρ ds w'):LeaveV P n fn R ρ ({ target:=.fn (.func g) #[],args:=vs.toArray }::ds) w:=by
 refine ⟨fun a ha=>⟨by simp,.inr ⟨fun h=>by simp [Fr] at h,.func g,#[],g,vs.toArray,rfl,?_,fun _ _=>trivial,?_⟩⟩⟩
 ·simp only [invoke,Array.append_empty];exact qci h.1 _
 ·refine h.2.mono ?_;rintro e u' w' ⟨rfl,v,rfl,hk⟩;exact qgb hk ha
def q6a (P:Program) (n:Nat) (fn:Func) (R:Value→World→Prop):QW
 | .normal,ρ,ds,w=>qjm P n fn R ρ ds w
 | .ret,ρ,ds,w=>qjm P n fn R ρ ds w
 | _,_,_,_=>False
theorem q2a {vs:List Value} {n:Nat} (hl:vs.length≤n):Sw n (ini vs) { tmps:=vs.toArray++Array.replicate (n-vs.toArray.size) undef,defers:=[] }:=by
 refine ⟨by simp;omega,fun t=>?_,rfl⟩;rw [q19,Array.getD_eq_getD_getElem?];simp only [Array.getElem?_append,List.size_toArray]
 split
 ·simp
 ·rename_i ht
  rw [List.getElem?_eq_none Oo];simp only [Array.getElem?_replicate]
  split<;>rfl
theorem gvW {f:FuncId} {fn:Func} {c:Code} {vs:List Value} {w:World} {R:Value→World→Prop} (he:qdg P f=true) (hf:P.funcs[f]?=some fn) (hb:fn.body=some c) (hn:fn.ntmps=n)
  (hl:Nat.ble vs.length n=true) (h:qf0 P n none c (q6a P n fn R) (ini vs) [] w):Gv P f vs w R:=by
 have hl':vs.length≤n:=by simpa using hl
 refine ⟨he,qcr (r:=none) (m:=0) |>.1 (callsIn_of_wp_marks hf hb trivial (Go.wpIn_mono (qdt c _ _ _ _ h _ (by rw [hn];exact q2a hl') rfl) fun e a w hq=>?_))⟩;obtain ⟨ρ,hst,hq⟩:=hq;cases e with
 | normal=>exact qgb hq hst
 | ret=>exact qgb hq hst
 | exit i=>exact hq.elim
 | goto i=>exact hq.elim
 | panic i=>exact hq.elim
 | outgrown=>exact hq.elim
theorem gvD {f:FuncId} {fn:Func} {c:Code} {vs:List Value} {w:World} {R:World→Prop} (he:qdg P f=true) (hf:P.funcs[f]?=some fn) (hb:fn.body=some c) (hn:fn.ntmps=n)
  (hl:Nat.ble vs.length n=true) (h:qei P n c (qzp P n fn (fun _ w'=>R w')) (ini vs) w):GvD P f vs w R:=by
 have hl':vs.length≤n:=by simpa using hl
 have h1:c.wpIn (Fr none) 0 P (bodyPost P fn fun e w'=>∃ v,e=.returned v∧R w') { tmps:=vs.toArray++Array.replicate (fn.ntmps-vs.toArray.size) undef,defers:=[] } w:=by
  refine wpIn_wide.2 (Go.wp_mono (qir c _ _ _ h _ (by rw [hn];exact (q2a hl').st rfl)) fun e a w hq=>?_);obtain ⟨ρ,hst,hq⟩:=hq;cases e with
  | normal=>
   obtain ⟨v,h1,h2⟩:=qj9 rfl hst hq;exact ⟨hst.defers,v,h1,v,rfl,h2⟩
  | ret=>
   obtain ⟨v,h1,h2⟩:=qj9 rfl hst hq;exact ⟨hst.defers,v,h1,v,rfl,h2⟩
  | exit i=>exact hq.elim
  | goto i=>exact hq.elim
  | panic i=>exact hq.elim
  | outgrown=>exact hq.elim
 exact ⟨he,callsDIn_of_wp hf hb trivial h1⟩
theorem GvD.mono {f:FuncId} {vs:List Value} {w:World} {R R':World→Prop} (h:GvD P f vs w R) (hr:∀ w',R w'→R' w'):GvD P f vs w R':=
 ⟨h.1,h.2.mono fun _ _ _ ⟨hu,v,he,hv⟩=>⟨hu,v,he,hr _ hv⟩⟩
structure Carr (J:List (Nat × Obj)→World→Prop):Prop where
 ext:∀ {X w w'},J X w→Ext w w'→J X w'
 get:∀ {X w} {b:Nat} {o:Obj},J X w→(b,o)∈X→w.heap[b]?=some o
 new:∀ {X w} (o:Obj),J X w→J ((w.heap.size,o)::X) (w.alloc o)
 set:∀ {X w} {b:Nat} {o:Obj} (o':Obj),J ((b,o)::X) w→J ((b,o')::X) (setO w b o')
 drop:∀ {X w} {x:Nat × Obj},J (x::X) w→J X w
 perm:∀ {X Y w},J X w→X.Perm Y→J Y w
theorem Carr.tail {J:List (Nat × Obj)→World→Prop} (h:Carr J) (L:List (Nat × Obj)):Carr fun X w=>J (X++L) w:=
 ⟨h.ext,fun k hx=>h.get k (List.mem_append_left _ hx),fun o k=>h.new o k,fun o' k=>h.set o' k,h.drop,fun k hp=>h.perm k (hp.append_right L)⟩
theorem Carr.any {α:Type} {J:α→List (Nat × Obj)→World→Prop} (h:∀ c,Carr (J c)):Carr fun X w=>∃ c,J c X w:=
 ⟨fun ⟨c,k⟩ he=>⟨c,(h c).ext k he⟩,fun ⟨c,k⟩ hx=>(h c).get k hx,fun o ⟨c,k⟩=>⟨c,(h c).new o k⟩,fun o' ⟨c,k⟩=>⟨c,(h c).set o' k⟩,fun ⟨c,k⟩=>⟨c,(h c).drop k⟩,fun ⟨c,k⟩ hp=>⟨c,(h c).perm k hp⟩⟩
def SeqV (P:Program) (gf:FuncId) (lb:List Value) (xs:List (List Value)) (Φ:World→Prop):Prop:=
 ∀ (l:Nat) (I Ix:Nat→World→Prop) (w:World),(∀ k w,I k w→Φ w)→(∀ k w w',I k w→Ext w w'→I k w')→(∀ k w w',Ix k w→Ext w w'→Ix k w')→I 0 w→
  (∀ k x w,xs[k]?=some x→I k w→YieldV P l x w fun v w'=>(v=.bool true∧I (k+1) w')∨(v=.bool false∧Ix k w'))→
  Gv P gf (.func (.yield l) #[] #[]::lb) w fun _ w'=>I xs.length w'∨∃ k,k<xs.length∧Ix k w'
def SeqC (P:Program) (gf:FuncId) (lb:List Value) (xs:List (List Value)) (Φ:World→Prop):Prop:=
 ∀ (l:Nat) (I Ix:Nat→List (Nat × Obj)→World→Prop) (w:World),(∀ k,Carr (I k))→(∀ k,Carr (Ix k))→(∀ k X w,I k X w→Φ w)→I 0 [] w→
  (∀ k x X w,xs[k]?=some x→I k X w→YieldV P l x w fun v w'=>(v=.bool true∧I (k+1) X w')∨(v=.bool false∧Ix k X w'))→
  Gv P gf (.func (.yield l) #[] #[]::lb) w fun _ w'=>I xs.length [] w'∨∃ k,k<xs.length∧Ix k [] w'
theorem SeqV.toC {P:Program} {gf:FuncId} {lb:List Value} {xs:List (List Value)} {Φ:World→Prop} (h:SeqV P gf lb xs Φ):SeqC P gf lb xs Φ:=
 fun l I Ix w hI hIx hw h0 hy=>h l (fun k w=>I k [] w) (fun k w=>Ix k [] w) w (fun k w g=>hw k [] w g) (fun k _ _ g he=>(hI k).ext g he) (fun k _ _ g he=>(hIx k).ext g he) h0 fun k x w hx g=>hy k x [] w hx g
def qu7:List Tmp→List Value→(Nat→Value)→Nat→Value
 | p::ps,v::vs,ρ=>qu7 ps vs (upd ρ p v)
 | _,_,ρ=>ρ
theorem qsz:∀ (ps:List Tmp) (vs:List Value) (ρ:Nat→Value) (t:Array Value),ps.all (Nat.blt · n)=true→St n ρ ⟨t,[]⟩→
  St n (qu7 ps vs ρ) ⟨(ps.zip vs).foldl (fun t (p,v)=>t.setIfInBounds p v) t,[]⟩:=by
 intro ps
 induction ps with
 | nil=>intro vs ρ t _ h;exact h
 | cons p ps ih=>
  intro vs ρ t hp h;cases vs with
  | nil=>exact h
  | cons v vs=>
   simp only [List.all_cons,Bool.and_eq_true] at hp;exact ih vs _ _ hp.2 (h.put (by simpa using hp.1) v)
structure BeginV (w1 w2:World) (ds:List Deferred) (K:Prop):Prop where
 w:w2=w1
 d:ds=[]
 k:K
def q5j (K:(Nat→Value)→List Deferred→World→Prop):QW
 | .normal,ρ,ds,w=>K ρ ds w
 | _,_,_,_=>False
def q2f (J:World→Prop) (Jx:Code→World→Prop):QW
 | .normal,_,_,w=>J w
 | .ret,_,_,w=>Jx .ret w
 | .exit id,_,_,w=>Jx (.exit id) w
 | .goto t,_,_,w=>Jx (.goto t) w
 | _,_,_,_=>False
def q5v (c:Code) (Q:QW) (ρ:Nat→Value) (ds:List Deferred) (w:World):Prop:=
 match c with
 | .ret=>Q .ret ρ ds w
 | .exit id=>Q (.exit id) ρ ds w
 | .goto t=>Q (.goto t) ρ ds w
 | _=>False
theorem qx6 {f:Operand} {ps:Array Tmp} {assign body:Code} {Q:QW} {ρ:Nat→Value} {ds:List Deferred} {w:World} {Φ:World→Prop} {gf:FuncId} {lb:List Value} {xs:List (List Value)}
  (hf:ev ρ f=.func (.func gf) #[] lb.toArray) (he:qdg P gf=true) (hseq:SeqC P gf lb xs Φ) (hpn:ps.toList.all (Nat.blt · n)=true) (hps:∀ x∈xs,x.length=ps.size)
  (J:Nat→List (Nat × Obj)→World→Prop) (Jx:Code→Nat→List (Nat × Obj)→World→Prop) (hJ:∀ k,Carr (J k)) (hJx:∀ c k,Carr (Jx c k)) (hw:∀ k X w,J k X w→Φ w) (h0:J 0 [] w)
  (hbody:∀ l D ob k x X w1 w2,xs[k]?=some x→J k ((l,ob)::(D,.deferred (some []))::X) w2→
   qf0 P n (some l) assign (q5j fun ρ1 ds1 w1'=>BeginV w1 w1' ds1
    (qf0 P n (some l) body (q2f (J (k+1) ((l,ob)::(D,.deferred (some []))::X)) (fun c=>Jx c k ((l,ob)::(D,.deferred (some []))::X))) ρ1 [] w2)) (qu7 ps.toList x ρ) [] w1)
  (hdone:∀ D w',J xs.length [(D,.deferred (some []))] w'→Q .normal ρ ({ target:=.collected D,args:=#[] }::ds) w')
  (hstop:∀ D c k w',k<xs.length→Jx c k [(D,.deferred (some []))] w'→q5v c Q ρ ({ target:=.collected D,args:=#[] }::ds) w'):RangeW P n none f ps assign body Q ρ ds w:=by
 refine ⟨fun a ha hd=>?_⟩;subst hd;refine wpIn_rangeFunc ?_;intro fn hfn;obtain ⟨rec,hrec⟩:∃ rec:LoopState→Option Code→Loop,rec=fun st pe=>{ state:=st,pending:=pe,fn,tmps:=a.tmps,params:=ps,assign,body,defers:=w.heap.size }:=⟨_,rfl⟩
 obtain ⟨W1,hW1⟩:∃ W1,(w.alloc (.deferred (some []))).alloc (.loop (rec .ready none))=W1:=⟨_,rfl⟩
 have hD:=(hJ 0).new (.deferred (some [])) h0;have hL:=(hJ 0).new (.loop (rec .ready none)) hD;rw [hW1,World.size_alloc] at hL;refine ⟨w.heap.size+1,[{ target:=.collected w.heap.size,args:=#[] }],W1,{ target:=.fn (.func gf) lb.toArray,args:=#[.func (.yield (w.heap.size+1)) #[] #[]] },W1,gf,
  #[.func (.yield (w.heap.size+1)) #[] #[]]++lb.toArray,W1,?_,?_,fun _ _=>trivial,?_,fun h=>by simp [Fr] at h,?_⟩
 ·rw [← hW1,hrec];exact run_enterLoop_outer _ _ _ _ _
 ·have:a.eval f=.func (.func gf) #[] lb.toArray:=by rw [ha.eval,hf]
  simp only [resolve,this];simp [go_sem]
 ·simp only [invoke];exact qci he _
 ·have ea:#[Value.func (.yield (w.heap.size+1)) #[] #[]]++lb.toArray=(Value.func (.yield (w.heap.size+1)) #[] #[]::lb).toArray:=by rw [← Array.toList_inj];simp
  rw [ea];refine qcr.2 ((hseq (w.heap.size+1) (fun k X W=>J k (X++[(w.heap.size+1,.loop (rec .ready none)),(w.heap.size,.deferred (some []))]) W)
   (fun k X W=>∃ c,Jx c k (X++[(w.heap.size+1,.loop (rec .done (some c))),(w.heap.size,.deferred (some []))]) W) W1
   (fun k=>(hJ k).tail _) (fun k=>Carr.any fun c=>(hJx c k).tail _) (fun k X W h=>hw _ _ _ h) hL ?_).2.mono ?_)
  ·intro k x X W hx hk;replace hk:=(hJ k).perm hk List.perm_append_comm;have hl:=(hJ k).get hk mh;have hy:=run_yield (P:=P) (args:=x.toArray) hl (by rw [hrec];simpa using hps x (zmg hx));rw [hrec] at hy;refine ⟨⟨fn,_,assign,body,hy,roundIn_of_wpIn hfn ?_⟩⟩;have h1:=hbody (w.heap.size+1) w.heap.size _ k x X W _ hx ((hJ k).set (.loop { rec .ready none with state:=.busy }) hk);have hz:(ps.zip x.toArray).foldl (fun t (p,v)=>t.setIfInBounds p v) a.tmps=(ps.toList.zip x).foldl (fun t (p,v)=>t.setIfInBounds p v) a.tmps:=by
    rw [← Array.foldl_toList];simp
   have hst:Sw n (qu7 ps.toList x ρ) { tmps:=(ps.zip x.toArray).foldl (fun t (p,v)=>t.setIfInBounds p v) a.tmps,defers:=[] }:=by
    rw [hz];exact qsz _ _ _ _ hpn ha
   refine Go.wpIn_mono (F:=Fr (some (w.heap.size+1))) (qdt assign _ _ _ _ h1 _ hst rfl) fun e a1 w1 hq=>?_;obtain ⟨ρ1,hst1,hq⟩:=hq;cases e with
   | normal=>
    obtain ⟨hw1,hd1,hb1⟩:=hq;subst hw1;refine ⟨_,run_beginRound hl (by rw [hrec]),?_⟩;refine Go.wpIn_mono (F:=Fr (some (w.heap.size+1))) (qdt body _ _ _ _ hb1 _ hst1 hd1) fun e a2 w2 hq=>?_;obtain ⟨ρ2,hst2,hq⟩:=hq;cases e with
    | normal=>
     refine ⟨_,_,run_endRound none ((hJ _).get hq mh),_,rfl,.inl ⟨rfl,?_⟩⟩;have:=(hJ (k+1)).perm ((hJ (k+1)).set (.loop (rec .ready none)) hq) (List.perm_append_comm (l₁:=[_,_]));rw [hrec] at this ⊢;exact this
    | ret=>
     refine ⟨_,_,run_endRound (some .ret) ((hJx _ _).get hq mh),_,rfl,.inr ⟨rfl,.ret,?_⟩⟩;have:=(hJx _ k).perm ((hJx _ k).set (.loop (rec .done (some .ret))) hq) (List.perm_append_comm (l₁:=[_,_]));rw [hrec] at this ⊢;exact this
    | exit id=>
     refine ⟨_,_,run_endRound (some (.exit id)) ((hJx _ _).get hq mh),_,rfl,.inr ⟨rfl,.exit id,?_⟩⟩;have:=(hJx _ k).perm ((hJx _ k).set (.loop (rec .done (some (.exit id)))) hq) (List.perm_append_comm (l₁:=[_,_]));rw [hrec] at this ⊢;exact this
    | goto t=>
     refine ⟨_,_,run_endRound (some (.goto t)) ((hJx _ _).get hq mh),_,rfl,.inr ⟨rfl,.goto t,?_⟩⟩;have:=(hJx _ k).perm ((hJx _ k).set (.loop (rec .done (some (.goto t)))) hq) (List.perm_append_comm (l₁:=[_,_]));rw [hrec] at this ⊢;exact this
    | panic ch=>exact hq.elim
    | outgrown=>exact hq.elim
   | ret=>exact hq.elim
   | exit id=>exact hq.elim
   | goto t=>exact hq.elim
   | panic ch=>exact hq.elim
   | outgrown=>exact hq.elim
  ·rintro e W2 ⟨v,rfl,h|⟨k,hk,c,h⟩⟩
   ·have hl:=(hJ _).get h mh;have:=run_endLoop (P:=P) hl (by rw [hrec];simp);rw [hrec] at this;exact ⟨none,_,this,ρ,ha,hdone _ _ ((hJ _).drop ((hJ _).set _ h))⟩
   ·have hl:=(hJx _ _).get h mh;have:=run_endLoop (P:=P) hl (by rw [hrec];simp);rw [hrec] at this;refine ⟨some c,_,this,?_⟩;have hs:=hstop _ c k _ hk ((hJx _ _).drop ((hJx _ _).set (.loop { rec .done (some c) with state:=.exhausted }) h));rw [hrec] at hs;cases c with
    | ret=>exact Go.wpIn_ret ⟨ρ,ha,hs⟩
    | exit id=>exact Go.wpIn_exit ⟨ρ,ha,hs⟩
    | goto t=>exact Go.wpIn_goto ⟨ρ,ha,hs⟩
    | _=>exact hs.elim
theorem Mem.glue {a b c:World} {L M:List (Nat × Obj)} (h:Mem a b L) (k:Mem b c M):Mem a c (M++L):=by
 refine ⟨h.ext.trans k.ext,fun x hx=>?_,?_⟩
 ·rcases List.mem_append.1 hx with hx|hx
  ·exact ⟨Nat.le_trans h.ext.size (k.own x hx).1,(k.own x hx).2⟩
  ·exact ⟨(h.own x hx).1,k.ext.get (h.own x hx).2⟩
 ·rw [List.map_append,List.nodup_append];refine ⟨k.nodup,h.nodup,?_⟩;intro u hu v hv e;obtain ⟨x,hx,rfl⟩:=List.mem_map.1 hu;obtain ⟨y,hy,rfl⟩:=List.mem_map.1 hv;have h1:=(k.own x hx).1;have h2:=h.lt (b:=y.1) (o:=y.2) hy;omega
theorem Mem.glue2 {a b c:World} {L M:List (Nat × Obj)} (h:Mem a b L) (k:Mem b c M):Mem a c (L++M):=(h.glue k).perm List.perm_append_comm
theorem Carr.mem {σ:Type} {w0:World} (A:σ→Prop) (L:σ→List (Nat × Obj)):Carr fun X w=>∃ s,A s∧Mem w0 w (X++L s):=by
 refine ⟨?_,?_,?_,?_,?_,?_⟩
 ·rintro X w w' ⟨s,hs,hm⟩ he;exact ⟨s,hs,hm.call he⟩
 ·rintro X w b o ⟨s,hs,hm⟩ hx;exact hm.get (List.mem_append_left _ hx)
 ·rintro X w o ⟨s,hs,hm⟩;exact ⟨s,hs,hm.new rfl rfl⟩
 ·rintro X w b o o' ⟨s,hs,hm⟩;exact ⟨s,hs,hm.setO (i:=0) o' rfl rfl⟩
 ·rintro X w x ⟨s,hs,hm⟩;exact ⟨s,hs,hm.sub (List.sublist_cons_self ..)⟩
 ·rintro X Y w ⟨s,hs,hm⟩ hp;exact ⟨s,hs,hm.perm (hp.symm.append_right _)⟩
end
end V
namespace V
def byV (l:LB):List Value:=l.map fun c=>Value.int .u8 c.toNat
theorem qvy (l:LB):(byV l).length=l.length:=by simp [byV]
structure Tri (e:TypeId) (w0 w:World) (a b c:Value) (x y z:LB):Prop where
 ext:Ext w0 w
 oa:w.ownsRow w0.heap.size e 1 a x.length (byV x)
 ob:w.ownsRow w0.heap.size e 1 b y.length (byV y)
 oc:w.ownsRow w0.heap.size e 1 c z.length (byV z)
 ab:∀ g,a.ownBlock=some g→b.ownBlock≠some g
 ac:∀ g,a.ownBlock=some g→c.ownBlock≠some g
 bc:∀ g,b.ownBlock=some g→c.ownBlock≠some g
section
variable {P:Program} {e:TypeId} {w0 w w':World} {a b c:Value} {x y z:LB}
theorem Tri.nil (w:World):Tri e w w (.slice none 0 0) (.slice none 0 0) (.slice none 0 0) [] [] []:=
 ⟨Ext.refl w,World.ownsRow_nil _ _ _ _,World.ownsRow_nil _ _ _ _,World.ownsRow_nil _ _ _ _,fun g h=>(by cases h),fun g h=>(by cases h),fun g h=>(by cases h)⟩
theorem qb3 {base size n:Nat} {v:Value} {xs:List Value} (h:w.ownsRow base e size v n xs) (he:Ext w w'):w'.ownsRow base e size v n xs:=
 h.kept (row:=none) ⟨he.os,he.tape,he.output,he.size,fun k hk _=>he.block k hk⟩ (by cases v.ownBlock<;>simp)
theorem Tri.call (h:Tri e w0 w a b c x y z) (he:Ext w w'):Tri e w0 w' a b c x y z:=
 ⟨h.ext.trans he,qb3 h.oa he,qb3 h.ob he,qb3 h.oc he,h.ab,h.ac,h.bc⟩
theorem Tri.rot (h:Tri e w0 w a b c x y z):Tri e w0 w b c a y z x:=
 ⟨h.ext,h.ob,h.oc,h.oa,h.bc,fun g hb ha=>h.ab g ha hb,fun g hc ha=>h.ac g ha hc⟩
theorem qjy {base size n:Nat} {v:Value} {xs:List Value} (h:w.ownsRow base e size v n xs):∃ A c,v=.slice A n c:=by
 rcases h.2 with ⟨rfl,rfl⟩|⟨g,cap,cur,rfl,_⟩
 ·exact ⟨_,_,rfl⟩
 ·exact ⟨_,_,rfl⟩
theorem qrz {A:oA} {l:LB} (h:SlAt encB 1 w A l):byV l≠[]→∃ b off,A=some ⟨b,off,none⟩∧CellsAt w b off (byV l):=by
 intro hne;obtain ⟨b,off,h1,h2⟩:=h.at_ (by rintro rfl;exact hne rfl);refine ⟨b,off,h1,fun k v hv=>?_⟩;rw [byV,List.getElem?_map] at hv;obtain ⟨u,hu,rfl⟩:=Option.map_eq_some_iff.1 hv;have:=h2 k u hu 0 (.int .u8 u.toNat) rfl
 simpa using this
theorem Tri.app {t ty:TypeId} {i:TypeInfo} {zv:Value} {B:oA} {d:Nat} {m:LB} {K:Value→World→Prop} (h:Tri e w0 w a b c x y z) (ht:P.underlying t=some (.slice e)) (hi:P.info? e=some i) (hz:i.zero=some zv)
  (hsize:i.size=1) (hzs:zv.cells.size=1) (hby:i.bytes≤16) (hS:SlAt encB 1 w B m) (hlen:x.length+m.length≤8000000000000)
  (hk:∀ A' c' w',Tri e w0 w' (.slice A' (x.length+m.length) c') b c (x++m) y z→K (.slice A' (x.length+m.length) c') w'):AppV P #[t,t] ty a (.slice B m.length d) w K:=by
 refine AppV.own (news:=byV m) ht hi hz hsize hzs Od h.oa h.ext.size (by rw [qvy,Nat.mul_one]) (qrz hS) (fun u hu=>?_) (Nat.le_trans (Nat.mul_le_mul hlen hby) Od) Oo ?_
 ·simp only [byV,List.mem_map] at hu;obtain ⟨v,_,rfl⟩:=hu;rfl
 ·intro v' w' ho hg hor;obtain ⟨A',c',rfl⟩:=qjy ho;have ap:∀ (v:Value) (l:LB),w.ownsRow w0.heap.size e 1 v l.length (byV l)→(∀ g,a.ownBlock=some g→v.ownBlock≠some g)→(v.ownBlock=none∨v.ownBlock≠a.ownBlock)∧∀ g,Value.ownBlock (.slice A' (x.length+m.length) c')=some g→v.ownBlock≠some g:=fun v l hv hap=>by
   constructor
   ·cases hvb:v.ownBlock with
    | none=>exact .inl rfl
    | some g=>exact .inr fun e=>hap g e.symm hvb
   ·intro g hg' hvb
    rcases hor with hor|hor
    ·exact hap g (by rw [← hor];exact hg') hvb
    ·rw [hor] at hg';have:=(hv.lt g hvb).2;have e:w.heap.size=g:=Option.some.inj hg';omega
  obtain ⟨b1,b2⟩:=ap b y h.ob h.ab;obtain ⟨c1,c2⟩:=ap c z h.oc h.ac;refine hk A' c' w' ⟨?_,?_,h.ob.kept hg b1,h.oc.kept hg c1,b2,c2,h.bc⟩
  ·exact Below.grown h.ext hg h.ext.size (fun k hk=>(h.oa.lt k hk).1)
  ·rw [byV,List.map_append,zla];exact ho
theorem qgj {base:Nat} {v:Value} {l:LB} (h:w.ownsRow base e 1 v l.length (byV l)):BS w v l:=by
 rcases h.2 with ⟨rfl,h0⟩|⟨g,cap,cur,rfl,h1,h2,h3,h4,h5,h6⟩
 ·have:l=[]:=List.eq_nil_of_length_eq_zero h0;subst this;exact BS.nil w
 ·refine ⟨_,cap,rfl,h3,⟨fun _=>⟨g,0,rfl,fun j u hu k v hv=>?_⟩⟩⟩;cases k with
  | succ k=>simp [encB] at hv
  | zero=>
   simp only [encB,List.getElem?_cons_zero,Option.some.injEq] at hv;subst hv;have hj:(cur.toList.take (l.length*1))[j]?=some (.int .u8 u.toNat):=by rw [h6,byV,List.getElem?_map,hu];rfl
   rw [List.getElem?_take] at hj
   split at hj
   ·rw [qd h2]
    simpa using hj
   ·cases hj
end
end V
open Go.RowKit V
structure LvlV (l:LB) (k:Nat):Prop where
 vec:VecOk (qi l k)
 n:vN (qi l k)=vNum l k
 m:vM (qi l k)=vNum l (k-1)
 last:0<vNum l k→bitN ((qi l k).drop 8) (vNum l k-1)=1
theorem LvlV.tvec {l:LB} {k:Nat} (h:LvlV l k):tVec l k=true:=by
 unfold tVec;rw [h.vec.ok,decide_eq_true h.n,decide_eq_true h.m];rfl
theorem LvlV.rank {l:LB} {k:Nat} (h:LvlV l k) (i:Nat) (hi:i≤vNum l k):qii (qi l k) i=cnt ((qi l k).drop 8) i:=h.vec.rank i (by rw [h.n];exact hi)
theorem LvlV.lt {l:LB} {k:Nat} (h:LvlV l k) (i:Nat) (hi:i<vNum l k):qii (qi l k) i<vNum l (k-1):=by
 rw [h.rank i Oo,← h.m,← h.vec.ones,h.n];have e:vNum l k=vNum l k-1+1:=by omega
 have h1:=h.last Oo;have h2:cnt ((qi l k).drop 8) i≤cnt ((qi l k).drop 8) (vNum l k-1):=qez Oo;rw [e,cnt,h1];omega
section
variable {l:LB} (hL:∀ k,1≤k→k≤3→LvlV l k) {i:Nat} (hi:i<vNum l 3)
include hL hi
theorem qkm:∀ j,j≤3→tUp l i j<vNum l (3-j)
 | 0,_=>hi
 | j+1,hj=>by
  have h:=qkm j Oo;have:=(hL (3-j) Oo Oo).lt _ h;rw [tUp];have e:3-j-1=3-(j+1):=by omega
  rwa [e] at this
theorem qq8:tOk l i=true:=by
 have h:=qkm hL hi;unfold tOk qee;rw [decide_eq_true (h 0 Oo),decide_eq_true (h 1 Oo),decide_eq_true (h 2 Oo),decide_eq_true (h 3 Oo),(hL 3 Oo Oo).tvec,(hL 2 Oo Oo).tvec,(hL 1 Oo Oo).tvec];rfl
theorem q4g {j:Nat} (hj:j<3) (h:tUp l (i+1) j=tUp l i j+1) (hb:bitN ((qi l (3-j)).drop 8) (tUp l i j)=1):tUp l (i+1) (j+1)=tUp l i (j+1)+1:=by
 have hlt:=qkm hL hi j Oo;have hv:=hL (3-j) Oo Oo;rw [tUp,tUp,h,hv.rank _ Oo,hv.rank _ Oo,cnt,hb]
theorem q1f {j:Nat} (hj:j<3) (h:tUp l (i+1) j=tUp l i j+1) (hb:bitN ((qi l (3-j)).drop 8) (tUp l i j)≠1):tUp l (i+1) (j+1)=tUp l i (j+1):=by
 have hlt:=qkm hL hi j Oo;have hv:=hL (3-j) Oo Oo;have h0:=qct ((qi l (3-j)).drop 8) (tUp l i j);have hb0:bitN ((qi l (3-j)).drop 8) (tUp l i j)=0:=by omega
 rw [tUp,tUp,h,hv.rank _ Oo,hv.rank _ Oo,cnt,hb0];rfl
end
theorem q1g {l:LB} {i i' j:Nat} (h:tUp l i' j=tUp l i j):∀ {m:Nat},j≤m→tUp l i' m=tUp l i m:=by
 intro m hm
 induction hm with
 | refl=>exact h
 | step _ ih=>rw [tUp,tUp,ih]
theorem qs3 (l:LB):∀ j,tUp l 0 j=0
 | 0=>rfl
 | j+1=>by rw [tUp,qs3 l j,qii,if_pos (.inl rfl)]
structure DSt (m:LB) (i:Nat) (last:LB) (p:Nat):Prop where
 le:p≤(qe m).length
 st:∀ j,i=j+1→blk (qe m) (qy m (j/16)) (j%16)=(last,p,0)
theorem DSt.step {m:LB} {i:Nat} {last:LB} {p:Nat} (h:DSt m i last p) (hp:i%16=0→qy m (i/16)=p) {first:Bool} (hf:first=decide (i%16=0))
  (he:(entG ((qe m).drop p) first last).2.2=0):DSt m (i+1) (entG ((qe m).drop p) first last).1 (p+(entG ((qe m).drop p) first last).2.1):=by
 have hlen:=(qas he).2;have hle:=h.le;rw [zld] at hlen;refine ⟨by omega,fun j hj=>?_⟩;obtain rfl:j=i:=by omega
 have hat:∀ b x,entG ((qe m).drop p) b x=entG ((qe m).drop p) first last→qce (qe m) p b x=((entG ((qe m).drop p) first last).1,p+(entG ((qe m).drop p) first last).2.1,0):=fun b x e=>by
  rw [qce,if_neg Oo,e,if_neg Oo]
 by_cases h0:j%16=0
 ·rw [h0,hp h0];have hf1:first=true:=by rw [hf,decide_eq_true h0]
  subst hf1;exact hat _ _ (by simp only [entG,if_true,Nat.not_lt_zero,if_false,List.take_zero])
 ·have hf1:first=false:=by rw [hf,decide_eq_false h0]
  subst hf1;obtain ⟨k,rfl⟩:∃ k,j=k+1:=⟨j-1,by omega⟩
  have hk:=h.st k rfl;have e1:(k+1)/16=k/16:=by omega
  have e2:(k+1)%16=k%16+1:=by omega
  rw [e1,e2,blk,hk,if_neg Js];exact hat _ _ rfl
theorem DSt.get {m:LB} {i:Nat} {last:LB} {p:Nat} (h:DSt m (i+1) last p) (hi:i<dN m):dGet m i=some last:=by
 have:=h.st i rfl;rw [dGet,if_pos hi,this,if_pos rfl]
def gL (d:LB):Nat→LB
 | 0=>[]
 | i+1=>if i%2048=0 then gL d i++fixL (cnt d i) 4 else gL d i
def sL (d:LB):Nat→LB
 | 0=>[]
 | i+1=>if i%256=0 then sL d i++fixL (cnt d i-cnt d (2048*(i/2048))) 2 else sL d i
def mL (d:LB):Nat→LB
 | 0=>[]
 | i+1=>if bitN d i=1∧cnt d i%512=0 then mL d i++fixL i 4 else mL d i
theorem qle (d:LB) (i:Nat):(gL d i).length=4*upN i 2048:=by
 induction i with
 | zero=>rfl
 | succ i ih=>
  rw [gL]
  split
  ·rw [zla,ih,q9];unfold upN;omega
  ·rw [ih];unfold upN;omega
theorem qo6 (d:LB) (i:Nat):(sL d i).length=2*upN i 256:=by
 induction i with
 | zero=>rfl
 | succ i ih=>
  rw [sL]
  split
  ·rw [zla,ih,q9];unfold upN;omega
  ·rw [ih];unfold upN;omega
theorem qsi (d:LB) (i:Nat):(mL d i).length=4*upN (cnt d i) 512:=by
 induction i with
 | zero=>simp [mL,cnt,upN]
 | succ i ih=>
  have hb:=qct d i;rw [mL,cnt]
  split
  ·rename_i h
   rw [zla,ih,q9,h.1];unfold upN;omega
  ·rename_i h
   rw [ih]
   by_cases h1:bitN d i=1
   ·have:cnt d i%512≠0:=fun e=>h ⟨h1,e⟩
    rw [h1];unfold upN;omega
   ·have:bitN d i=0:=by omega
    rw [this];rfl
theorem q47 (d:LB) (i j:Nat) (hj:j<upN i 2048):((gL d i).drop (4*j)).take 4=fixL (cnt d (2048*j)) 4:=by
 induction i with
 | zero=>simp [upN] at hj
 | succ i ih=>
  have hlen:=qle d i;rw [gL]
  split
  ·rename_i h
   by_cases hlt:j<upN i 2048
   ·rw [List.drop_append_of_le_length Oo,List.take_append_of_le_length (by rw [zld];omega)];exact ih hlt
   ·have e1:4*j=(gL d i).length:=by rw [hlen];unfold upN at hj hlt ⊢;omega
    have e2:i=2048*j:=by unfold upN at hj hlt;omega
    rw [e1,List.drop_left,List.take_of_length_le (by rw [q9];exact Nat.le_refl _),← e2]
  ·rename_i h
   exact ih (by unfold upN at hj ⊢;omega)
theorem q5r (d:LB) (i j:Nat) (hj:j<upN i 256):((sL d i).drop (2*j)).take 2=fixL (cnt d (256*j)-cnt d (2048*(j/8))) 2:=by
 induction i with
 | zero=>simp [upN] at hj
 | succ i ih=>
  have hlen:=qo6 d i;rw [sL]
  split
  ·rename_i h
   by_cases hlt:j<upN i 256
   ·rw [List.drop_append_of_le_length Oo,List.take_append_of_le_length (by rw [zld];omega)];exact ih hlt
   ·have e1:2*j=(sL d i).length:=by rw [hlen];unfold upN at hj hlt ⊢;omega
    have e2:i=256*j:=by unfold upN at hj hlt;omega
    have e3:i/2048=j/8:=by omega
    rw [e1,List.drop_left,List.take_of_length_le (by rw [q9];exact Nat.le_refl _),e3,← e2]
  ·rename_i h
   exact ih (by unfold upN at hj ⊢;omega)
theorem qlb (d:LB) (a b:Nat):cnt d (a+b)≤cnt d a+b:=by
 induction b with
 | zero=>exact Nat.le_refl _
 | succ b ih=>have:=qct d (a+b);rw [← Nat.add_assoc,cnt];omega
def vD (l:LB):LB:=(l.drop 8).take (upN (vN l) 8)
theorem qr5 (l:LB) (n:Nat) (hn:n≤vN l):cnt (vD l) n=cnt (l.drop 8) n:=qr4 _ _ _ (by unfold upN;omega)
theorem VecOk.of {l:LB} (hv:vOk l=true) (h1:cnt (vD l) (vN l)=vM l) (hd:l.drop (qn (vN l))=gL (vD l) (vN l)++(sL (vD l) (vN l)++mL (vD l) (vN l))):VecOk l:=by
 have hn:vN l≤67108864:=by
  simp only [vOk,Bool.and_eq_true,decide_eq_true_eq] at hv;exact hv.1.1.2
 refine ⟨hv,fun j hj=>?_,fun j hj=>?_,by rw [← qr5 l _ znr];exact h1⟩
 ·have hlen:=qle (vD l) (vN l);rw [← List.drop_drop,hd,List.drop_append_of_le_length Oo,List.take_append_of_le_length (by rw [zld];omega),q47 _ _ _ hj,qhd];have hle:2048*j≤vN l:=by unfold upN at hj;omega
  have hc:=qh3 (vD l) (2048*j);rw [Nat.mod_eq_of_lt (by show _<4294967296;omega),qr5 l _ hle]
 ·have hlen:=qle (vD l) (vN l);have hlen2:=qo6 (vD l) (vN l);have e:q7 (vN l)+2*j=qn (vN l)+((gL (vD l) (vN l)).length+2*j):=by rw [hlen,q7];omega
  have e2:∀ A B:LB,(A++B).drop (A.length+2*j)=B.drop (2*j):=fun A B=>by rw [← List.drop_drop,List.drop_left]
  rw [e,← List.drop_drop,hd,e2,List.drop_append_of_le_length Oo,List.take_append_of_le_length (by rw [zld];omega),q5r _ _ _ hj,qhd];have hle:256*j≤vN l:=by unfold upN at hj;omega
  have hc:cnt (vD l) (256*j)≤cnt (vD l) (2048*(j/8))+2048:=by
   have:=qlb (vD l) (2048*(j/8)) (256*j-2048*(j/8));have e4:2048*(j/8)+(256*j-2048*(j/8))=256*j:=by omega
   rw [e4] at this;omega
  rw [Nat.mod_eq_of_lt (by show _<65536;omega),qr5 l _ hle,qr5 l _ Oo]
set_option maxRecDepth 100000
theorem qey (d:LB) (A:oA) (n c t:Nat) (w:World) (hS:SlAt encB 1 w A d) (hn:d.length=n) (ht:t/8<d.length) (hd:d.length≤67108864) :
  Gv Tryz.prog 196 [.slice A n c,ii t] w fun v w'=>v=.bool (decide (bitN d t=1))∧w'=w:=by
 have hlt:=qv d[t/8];have hlt2:d[t/8].toNat/2 ^ (t%8)<256:=Nat.lt_of_le_of_lt (Nat.div_le_self _ _) hlt;have hb:d[t/8].toNat/2 ^ (t%8)%2 ^ 1=bitN d t:=by
  rw [bitN,List.getD_eq_getElem?_getD,zge ht];rfl
 have ht':t/8<n:=hn ▸ ht;refine ze Tryz.func196 Tryz.ntmps196 ?_;refine zv ?_;refine ElemV.bs hS hn (t/8) Oo ht' ?_;intro eb eo hc;(conv=>whnf);refine LoadV.of hc (zu ?_);refine V.Wit.shrN (t%8) Oo (by show t%8<8;omega) (zw ?_);refine Wit.eq (qav (k:=.u8) (m:=d[t/8].toNat/2 ^ (t%8)) 1 rfl (qfy hlt2) ⟨by omega,by omega⟩) ?_;rw [hb];(conv=>whnf);refine ⟨congrArg Value.bool ?_,rfl⟩;rw [Bool.eq_iff_iff];simp only [decide_eq_true_eq];omega
theorem qsv (n k:Nat) (w:World) (hk:k≤4) :
  Gv Tryz.prog 233 [ii n,ii k] w fun r w'=>w'.ownsRow w.heap.size 5 1 r k (byV (fixL n k))∧Ext w w':=by
 refine ze Tryz.func233 Tryz.ntmps233 ?_;refine qr (fun x:Nat × oA × Nat=>[(0,ii n),(1,ii k),(5,.slice x.2.1 x.1 x.2.2),(6,ii x.1)])
  (fun x w2=>x.1≤k∧Rw w w2 (.slice x.2.1 x.1 x.2.2) 5 1 x.1 (byV (fixL n x.1)) []) (fun x=>k-x.1) (0,none,0) ⟨rfl,rfl,rfl,rfl,trivial⟩ ⟨by simp,Rw.nil (Mem.nil w)⟩ ?_
 rintro ⟨i,A,c⟩ w2 ρ' ⟨h1,hR⟩;dsimp only at h1 hR ⊢;(conv=>whnf);refine zC (fun _=>zu ?_) (fun _=>zu ?_)
 ·refine V.Wit.shrN (8*i) Oo (by show 8*i<64;omega) (zw ?_);refine V.Wit.low8 (zw ?_);refine NewV.rw hR fun nb w4 hR4=>zw ?_;refine AppV.one qeh bytI bytZ Jk rfl (by decide +kernel) hR4 rfl Oo ?_;intro B' d' w5 hR5;refine zu ?_;refine ⟨(i+1,B',d'),⟨rfl,rfl,rfl,rfl,trivial⟩,⟨by simp only;omega,?_⟩,by simp only;omega⟩;simp only [fixL,byV,List.map_append,List.map_cons,List.map_nil];have e:(UInt8.ofNat (n/2 ^ (8*i)%256)).toNat=n/2 ^ (8*i)%256:=by simp
  rw [e];exact hR5
 ·obtain rfl:i=k:=by omega
  exact ⟨hR.own,hR.mem.ext⟩
theorem qtq (d:LB) (A:oA) (l c n:Nat) (w:World) (hS:SlAt encB 1 w A d) (hl:d.length=l) (hn:n≤8*d.length) (hb:n≤67108864) (hd:d.length≤67108864) :
  Gv Tryz.prog 194 [.slice A l c,ii n] w fun v w'=>v=ii (cnt d n)∧w'=w:=by
 refine ze Tryz.func194 Tryz.ntmps194 ?_;refine qr (fun i:Nat=>[(0,.slice A l c),(1,ii n),(5,ii (cnt d i)),(6,ii i)]) (fun i w'=>i≤n∧w'=w) (fun i=>n-i) 0 ⟨rfl,rfl,rfl,rfl,trivial⟩ ⟨Nat.zero_le _,rfl⟩ ?_;rintro i w1 ρ' ⟨i1,rfl⟩;have hc:=qh3 d i;have hb1:=qct d i;have hs:cnt d (i+1)=cnt d i+bitN d i:=rfl;(conv=>whnf);refine zC (fun _=>zw ?_) (fun _=>zw ?_)
 ·refine zcv (qey d A l c i _ hS hl Oo hd) ?_;rintro r w2 ⟨rfl,rfl⟩;(conv=>whnf);refine zC (fun _=>zu ?_) (fun _=>zu ?_)
  ·exact ⟨i+1,⟨rfl,rfl,by rw [hs];exact congrArg (Value.int .i64) Oo,rfl,trivial⟩,⟨by omega,rfl⟩,by omega⟩
  ·exact ⟨i+1,⟨rfl,rfl,by rw [hs];exact congrArg (Value.int .i64) Oo,rfl,trivial⟩,⟨by omega,rfl⟩,by omega⟩
 ·obtain rfl:i=n:=by omega
  exact ⟨rfl,rfl⟩
theorem qql (d:LB) (A:oA) (l c n:Nat) (w:World) (hS:SlAt encB 1 w A d) (hl:d.length=l) (hn:n≤8*d.length) (hd:d.length≤67108864) :
  Gv Tryz.prog 193 [.slice A l c,ii n] w fun v w'=>(∃ b,v=.bool b∧(b=true↔¬ ∃ t,n≤t∧t<8*d.length∧bitN d t=1))∧w'=w:=by
 refine ze Tryz.func193 Tryz.ntmps193 ?_;refine qr (fun i:Nat=>[(0,.slice A l c),(5,ii i)]) (fun i w'=>n≤i∧i≤8*d.length∧(∀ t,n≤t→t<i→bitN d t≠1)∧w'=w) (fun i=>8*d.length-i) n ⟨rfl,rfl,trivial⟩ ⟨Nat.le_refl _,hn,fun t h1 h2=>by omega,rfl⟩ ?_;rintro i w1 ρ' ⟨i0,i1,i2,rfl⟩;(conv=>whnf);refine zt ?_;refine zC (fun _=>zw ?_) (fun _=>zw ?_)
 ·refine zcv (qey d A l c i _ hS hl Oo hd) ?_;rintro r w2 ⟨rfl,rfl⟩
  by_cases hb:bitN d i=1
  ·rw [decide_eq_true hb];refine zu ?_;exact ⟨⟨_,rfl,⟨fun h=>(by cases h),fun h=>absurd ⟨i,i0,by omega,hb⟩ h⟩⟩,rfl⟩
  ·rw [decide_eq_false hb];refine zu ?_;refine ⟨i+1,⟨rfl,rfl,trivial⟩,⟨by omega,by omega,fun t h1 h2=>?_,rfl⟩,by omega⟩
   by_cases e:t=i
   ·subst e;exact hb
   ·exact i2 t h1 Oo
 ·obtain rfl:i=8*d.length:=by omega
  exact ⟨⟨_,rfl,⟨fun _=>by rintro ⟨t,h1,h2,h3⟩;exact i2 t h1 h2 h3,fun _=>rfl⟩⟩,rfl⟩
theorem q6o (l:LB):leN ((l.drop 0).take 4)=vN l:=rfl
theorem qch (l:LB) (A:oA) (n c:Nat) (w:World) (hS:SlAt encB 1 w A l) (hn:l.length=n) (h8:8≤l.length) (hl:l.length≤140737488355328) :
  Gv Tryz.prog 156 [.slice A n c] w fun v w'=>v=.tuple #[ii (vN l),ii (vM l)]∧Ext w w':=by
 refine ze Tryz.func156 Tryz.ntmps156 ?_;refine zcv (qs6 l A n c 0 w hS hn Oo hl) ?_;rintro r w1 ⟨rfl,he⟩;rw [q6o];(conv=>whnf);refine zcv (qs6 l A n c 4 w1 (hS.ext he) hn Oo hl) ?_;rintro r w2 ⟨rfl,he2⟩;(conv=>whnf);exact ⟨rfl,he.trans he2⟩
theorem qn6 (l:LB) (A:oA) (n c:Nat) (w:World) (hS:SlAt encB 1 w A l) (hn:l.length=n) (hc:n≤c) (h8:8≤l.length) (hv:vN l≤67108864) (hg:qn (vN l)≤l.length) (hl:l.length≤140737488355328) :
  Gv Tryz.prog 192 [.slice A n c] w fun v w'=>(∃ B d,v=.slice B (upN (vN l) 8) d∧SlAt encB 1 w' B (vD l))∧Ext w w':=by
 have hu:=qak (vN l) 8 Od;have hgg:qn (vN l)=8+upN (vN l) 8:=rfl;refine ze Tryz.func192 Tryz.ntmps192 ?_;refine zcv (qch l A n c w hS hn h8 hl) ?_;rintro r w1 ⟨rfl,he⟩;(conv=>whnf);refine zcv (qfw (vN l) 8 w1 Oo Od Od) ?_;rintro r w2 ⟨rfl,rfl⟩;refine zu ?_;refine SliceV.bs (hS.ext he) hn 8 (8+upN (vN l) 8) c rfl (by show (8:Int)+_=_;omega) rfl Oo Oo Oo znr (fun _=>rfl) ?_;intro B hB;have e:8+upN (vN l) 8-8=upN (vN l) 8:=by omega
 rw [e] at hB ⊢;(conv=>whnf);exact ⟨⟨B,_,rfl,hB⟩,he⟩
def qcj (d:LB) (n:Nat):LB:=fixL n 4++fixL (cnt d n) 4++d++gL d n++sL d n++mL d n
def ahN (d:LB) (i:Nat):Nat:=if i=0 then 0 else cnt d (2048*((i-1)/2048))
theorem q18 (d:LB) (i:Nat) (h:i%2048=0):gL d (i+1)=gL d i++fixL (cnt d i) 4:=by rw [gL,if_pos h]
theorem qwu (d:LB) (i:Nat) (h:i%2048≠0):gL d (i+1)=gL d i:=by rw [gL,if_neg h]
theorem qsx (d:LB) (i:Nat) (h:i%256=0):sL d (i+1)=sL d i++fixL (cnt d i-cnt d (2048*(i/2048))) 2:=by rw [sL,if_pos h]
theorem q39 (d:LB) (i:Nat) (h:i%256≠0):sL d (i+1)=sL d i:=by rw [sL,if_neg h]
theorem qlj (d:LB) (i:Nat) (h:bitN d i=1) (h2:cnt d i%512=0):mL d (i+1)=mL d i++fixL i 4:=by rw [mL,if_pos ⟨h,h2⟩]
theorem qhh (d:LB) (i:Nat) (h:¬ (bitN d i=1∧cnt d i%512=0)):mL d (i+1)=mL d i:=by rw [mL,if_neg h]
theorem q4s (d:LB) (i:Nat) (h:i%2048=0):ahN d (i+1)=cnt d i:=by
 rw [ahN,if_neg Oo];have e:2048*((i+1-1)/2048)=i:=by omega
 rw [e]
theorem qvn (d:LB) (i:Nat) (h:i%2048≠0):ahN d (i+1)=ahN d i:=by
 rw [ahN,ahN,if_neg Oo,if_neg Oo];have e:(i+1-1)/2048=(i-1)/2048:=by omega
 rw [e]
theorem ql0 (d:LB) (i:Nat):ahN d (i+1)=cnt d (2048*(i/2048)):=by
 rw [ahN,if_neg Oo];rfl
theorem q58 (d:LB) (i:Nat):ahN d i≤cnt d i:=by
 rw [ahN]
 split
 ·exact Nat.zero_le _
 ·exact qez Oo
theorem V.AppV.rwB {P:Program} {w0 w:World} {e t ty:TypeId} {i:TypeInfo} {z:Value} {L:List (Nat × Obj)} {A B:oA} {c d:Nat} {x m:LB} {K:Value→World→Prop} (ht:P.underlying t=some (.slice e)) (hi:P.info? e=some i) (hz:i.zero=some z)
  (hsize:i.size=1) (hzs:z.cells.size=1) (hby:i.bytes≤16) (h:Rw w0 w (.slice A x.length c) e 1 x.length (byV x) L) (hS:SlAt encB 1 w B m) (hlen:x.length+m.length≤8000000000000)
  (hk:∀ A' c' w',Rw w0 w' (.slice A' (x++m).length c') e 1 (x++m).length (byV (x++m)) L→K (.slice A' (x++m).length c') w'):AppV P #[t,t] ty (.slice A x.length c) (.slice B m.length d) w K:=by
 refine AppV.rw (news:=byV m) ht hi hz hsize hzs Od h (by rw [qvy,Nat.mul_one]) (qrz hS) (fun u hu=>?_) (Nat.le_trans (Nat.mul_le_mul hlen hby) Od) Oo ?_
 ·simp only [byV,List.mem_map] at hu;obtain ⟨v,_,rfl⟩:=hu;rfl
 ·intro A' c' w' hR;rw [← zla] at hR ⊢;exact hk A' c' w' (by rw [byV,List.map_append];exact hR)
theorem qcz (n k:Nat) (w:World) (hk:k≤4) :
  Gv Tryz.prog 233 [ii n,ii k] w fun r w'=>(∃ A c,r=.slice A (fixL n k).length c∧SlAt encB 1 w' A (fixL n k))∧Ext w w':=by
 refine (qsv n k w hk).mono ?_;rintro r w' ⟨ho,he⟩;obtain ⟨A,c,e,_,hS⟩:=qgj (l:=fixL n k) (by rw [q9];exact ho);exact ⟨⟨A,c,e,hS⟩,he⟩
theorem qvh (d:LB) (A:oA) (l c n:Nat) (w:World) (hS:SlAt encB 1 w A d) (hl:d.length=l) (hn:n≤8*d.length) (hb:n≤67108864) (hd:d.length≤67108864) :
  Gv Tryz.prog 195 [.slice A l c,ii n] w fun v w'=>(∃ B cb,v=.slice B (qcj d n).length cb∧SlAt encB 1 w' B (qcj d n))∧Ext w w':=by
 refine ze Tryz.func195 Tryz.ntmps195 ?_;refine qr (fun x:Nat × (oA × Nat) × (oA × Nat) × (oA × Nat)=>[(0,.slice A l c),(1,ii n),(5,.slice x.2.1.1 (gL d x.1).length x.2.1.2),(6,.slice x.2.2.1.1 (sL d x.1).length x.2.2.1.2),(7,.slice x.2.2.2.1 (mL d x.1).length x.2.2.2.2),(8,ii (cnt d x.1)),(9,ii (ahN d x.1)),(10,ii x.1)])
  (fun x w'=>x.1≤n∧V.Tri 5 w w' (.slice x.2.1.1 (gL d x.1).length x.2.1.2) (.slice x.2.2.1.1 (sL d x.1).length x.2.2.1.2) (.slice x.2.2.2.1 (mL d x.1).length x.2.2.2.2) (gL d x.1) (sL d x.1) (mL d x.1)) (fun x=>n-x.1) (0,(none,0),(none,0),(none,0))
  ⟨rfl,rfl,rfl,rfl,rfl,rfl,rfl,rfl,trivial⟩ ⟨Nat.zero_le _,Tri.nil w⟩ ?_
 rintro ⟨i,⟨GA,gc⟩,⟨SA,sc⟩,⟨MA,mc⟩⟩ w1 ρ' ⟨i1,hT⟩;dsimp only at i1 hT ⊢;have hc:=qh3 d i;have hah:=q58 d i;have hgl:=qle d i;have hsl:=qo6 d i;have hml:=qsi d i;have hu1:=qak i 2048 Od;have hu2:=qak i 256 Od;have hu3:=qak (cnt d i) 512 Od;have hs:cnt d (i+1)=cnt d i+bitN d i:=rfl;have hb1:=qct d i;conv=>whnf
 (repeat' (first|refine zp ?_|refine zC (fun _=>zw ?_) (fun _=>zw ?_)))
 ·have hah1:ahN d (i+1)=cnt d i:=q4s d i Oo;refine zcv (qcz (cnt d i) 4 w1 Od) ?_;rintro r w2 ⟨⟨B,cb,rfl,hSB⟩,he⟩;have hT:=hT.call he;(conv=>whnf);refine V.Tri.app hT qeh bytI bytZ Jk rfl (by decide +kernel) hSB (by rw [q9];omega) ?_;intro GA gc w3 hT;have e1:(gL d i).length+(fixL (cnt d i) 4).length=(gL d (i+1)).length:=by rw [q18 d i Oo,zla]
  rw [e1] at hT ⊢;rw [← q18 d i Oo] at hT;refine zu ?_;have es:((cnt d i:Nat):Int)-((cnt d i:Nat):Int)=((cnt d i-ahN d (i+1):Nat):Int):=by rw [hah1];omega
  rw [es];refine zcv (qcz (cnt d i-ahN d (i+1)) 2 _ Od) ?_;rintro r w4 ⟨⟨B2,cb2,rfl,hSB2⟩,he2⟩;have hT:=(hT.call he2).rot;(conv=>whnf);refine V.Tri.app hT qeh bytI bytZ Jk rfl (by decide +kernel) hSB2 (by rw [q9];omega) ?_;intro SA sc w5 hT;have e2:(sL d i).length+(fixL (cnt d i-ahN d (i+1)) 2).length=(sL d (i+1)).length:=by rw [qsx d i Oo,zla,ql0]
  rw [e2] at hT ⊢;rw [ql0,← qsx d i Oo] at hT;have hT:=hT.rot.rot;(conv=>whnf);refine zcv (qey d A l c i _ (hS.ext hT.ext) hl Oo hd) ?_;rintro r w6 ⟨rfl,rfl⟩;conv=>whnf
  (repeat' (first|refine zp ?_|refine zC (fun _=>zw ?_) (fun _=>zw ?_)))
  ·have e3:((cnt d i:Nat):Int)+1=((cnt d (i+1):Nat):Int):=by rw [hs];omega
   refine zcv (qcz i 4 _ Od) ?_;rintro r w7 ⟨⟨B3,cb3,rfl,hSB3⟩,he3⟩;have hT:=(hT.call he3).rot.rot;(conv=>whnf);refine V.Tri.app hT qeh bytI bytZ Jk rfl (by decide +kernel) hSB3 (by rw [q9];omega) ?_;intro MA mc w8 hT;have e4:(mL d i).length+(fixL i 4).length=(mL d (i+1)).length:=by rw [qlj d i ‹_› Oo,zla]
   rw [e4] at hT ⊢;rw [← qlj d i ‹_› Oo] at hT;have hT:=hT.rot;refine zu ?_;exact ⟨(i+1,(GA,gc),(SA,sc),(MA,mc)),⟨rfl,rfl,rfl,rfl,rfl,by rw [← e3];rfl,by rw [hah1];rfl,rfl,trivial⟩,⟨by simp only;omega,hT⟩,by simp only;omega⟩
  ·have e3:((cnt d i:Nat):Int)+1=((cnt d (i+1):Nat):Int):=by rw [hs];omega
   rw [← qhh d i (fun h=>by omega)] at hT ⊢;exact ⟨(i+1,(GA,gc),(SA,sc),(MA,mc)),⟨rfl,rfl,rfl,rfl,rfl,by rw [← e3];rfl,by rw [hah1];rfl,rfl,trivial⟩,⟨by simp only;omega,hT⟩,by simp only;omega⟩
  ·have e3:cnt d i=cnt d (i+1):=by rw [hs];omega
   rw [← qhh d i (fun h=>by omega)] at hT ⊢;rw [e3];exact ⟨(i+1,(GA,gc),(SA,sc),(MA,mc)),⟨rfl,rfl,rfl,rfl,rfl,rfl,by rw [hah1,e3];rfl,rfl,trivial⟩,⟨by simp only;omega,hT⟩,by simp only;omega⟩
 ·have hah1:ahN d (i+1)=ahN d i:=qvn d i Oo;rw [← qwu d i Oo] at hT ⊢;have es:((cnt d i:Nat):Int)-((ahN d i:Nat):Int)=((cnt d i-ahN d (i+1):Nat):Int):=by rw [hah1];omega
  rw [es];refine zcv (qcz (cnt d i-ahN d (i+1)) 2 _ Od) ?_;rintro r w4 ⟨⟨B2,cb2,rfl,hSB2⟩,he2⟩;have hT:=(hT.call he2).rot;(conv=>whnf);refine V.Tri.app hT qeh bytI bytZ Jk rfl (by decide +kernel) hSB2 (by rw [q9];omega) ?_;intro SA sc w5 hT;have e2:(sL d i).length+(fixL (cnt d i-ahN d (i+1)) 2).length=(sL d (i+1)).length:=by rw [qsx d i Oo,zla,ql0]
  rw [e2] at hT ⊢;rw [ql0,← qsx d i Oo] at hT;have hT:=hT.rot.rot;(conv=>whnf);refine zcv (qey d A l c i _ (hS.ext hT.ext) hl Oo hd) ?_;rintro r w6 ⟨rfl,rfl⟩;conv=>whnf
  (repeat' (first|refine zp ?_|refine zC (fun _=>zw ?_) (fun _=>zw ?_)))
  ·have e3:((cnt d i:Nat):Int)+1=((cnt d (i+1):Nat):Int):=by rw [hs];omega
   refine zcv (qcz i 4 _ Od) ?_;rintro r w7 ⟨⟨B3,cb3,rfl,hSB3⟩,he3⟩;have hT:=(hT.call he3).rot.rot;(conv=>whnf);refine V.Tri.app hT qeh bytI bytZ Jk rfl (by decide +kernel) hSB3 (by rw [q9];omega) ?_;intro MA mc w8 hT;have e4:(mL d i).length+(fixL i 4).length=(mL d (i+1)).length:=by rw [qlj d i ‹_› Oo,zla]
   rw [e4] at hT ⊢;rw [← qlj d i ‹_› Oo] at hT;have hT:=hT.rot;refine zu ?_;exact ⟨(i+1,(GA,gc),(SA,sc),(MA,mc)),⟨rfl,rfl,rfl,rfl,rfl,by rw [← e3];rfl,by rw [hah1];rfl,rfl,trivial⟩,⟨by simp only;omega,hT⟩,by simp only;omega⟩
  ·have e3:((cnt d i:Nat):Int)+1=((cnt d (i+1):Nat):Int):=by rw [hs];omega
   rw [← qhh d i (fun h=>by omega)] at hT ⊢;exact ⟨(i+1,(GA,gc),(SA,sc),(MA,mc)),⟨rfl,rfl,rfl,rfl,rfl,by rw [← e3];rfl,by rw [hah1];rfl,rfl,trivial⟩,⟨by simp only;omega,hT⟩,by simp only;omega⟩
  ·have e3:cnt d i=cnt d (i+1):=by rw [hs];omega
   rw [← qhh d i (fun h=>by omega)] at hT ⊢;rw [e3];exact ⟨(i+1,(GA,gc),(SA,sc),(MA,mc)),⟨rfl,rfl,rfl,rfl,rfl,rfl,by rw [hah1];rfl,rfl,trivial⟩,⟨by simp only;omega,hT⟩,by simp only;omega⟩
 ·have hah1:ahN d (i+1)=ahN d i:=qvn d i Oo;rw [← qwu d i Oo,← q39 d i Oo] at hT ⊢;refine zcv (qey d A l c i _ (hS.ext hT.ext) hl Oo hd) ?_;rintro r w6 ⟨rfl,rfl⟩;conv=>whnf
  (repeat' (first|refine zp ?_|refine zC (fun _=>zw ?_) (fun _=>zw ?_)))
  ·have e3:((cnt d i:Nat):Int)+1=((cnt d (i+1):Nat):Int):=by rw [hs];omega
   refine zcv (qcz i 4 _ Od) ?_;rintro r w7 ⟨⟨B3,cb3,rfl,hSB3⟩,he3⟩;have hT:=(hT.call he3).rot.rot;(conv=>whnf);refine V.Tri.app hT qeh bytI bytZ Jk rfl (by decide +kernel) hSB3 (by rw [q9];omega) ?_;intro MA mc w8 hT;have e4:(mL d i).length+(fixL i 4).length=(mL d (i+1)).length:=by rw [qlj d i ‹_› Oo,zla]
   rw [e4] at hT ⊢;rw [← qlj d i ‹_› Oo] at hT;have hT:=hT.rot;refine zu ?_;exact ⟨(i+1,(GA,gc),(SA,sc),(MA,mc)),⟨rfl,rfl,rfl,rfl,rfl,by rw [← e3];rfl,by rw [hah1];rfl,rfl,trivial⟩,⟨by simp only;omega,hT⟩,by simp only;omega⟩
  ·have e3:((cnt d i:Nat):Int)+1=((cnt d (i+1):Nat):Int):=by rw [hs];omega
   rw [← qhh d i (fun h=>by omega)] at hT ⊢;exact ⟨(i+1,(GA,gc),(SA,sc),(MA,mc)),⟨rfl,rfl,rfl,rfl,rfl,by rw [← e3];rfl,by rw [hah1];rfl,rfl,trivial⟩,⟨by simp only;omega,hT⟩,by simp only;omega⟩
  ·have e3:cnt d i=cnt d (i+1):=by rw [hs];omega
   rw [← qhh d i (fun h=>by omega)] at hT ⊢;rw [e3];exact ⟨(i+1,(GA,gc),(SA,sc),(MA,mc)),⟨rfl,rfl,rfl,rfl,rfl,rfl,by rw [hah1];rfl,rfl,trivial⟩,⟨by simp only;omega,hT⟩,by simp only;omega⟩
 ·obtain rfl:i=n:=by omega
  have hG:SlAt encB 1 w1 GA (gL d i):=by
   obtain ⟨_,_,e,_,h⟩:=qgj hT.oa;cases e;exact h
  have hH:SlAt encB 1 w1 SA (sL d i):=by
   obtain ⟨_,_,e,_,h⟩:=qgj hT.ob;cases e;exact h
  have hI:SlAt encB 1 w1 MA (mL d i):=by
   obtain ⟨_,_,e,_,h⟩:=qgj hT.oc;cases e;exact h
  refine zcv (qsv i 4 w1 Od) ?_;rintro r w2 ⟨ho,he⟩;obtain ⟨B,cb,rfl⟩:=qjy ho;have hR:Rw w1 w2 (.slice B (fixL i 4).length cb) 5 1 (fixL i 4).length (byV (fixL i 4)) []:=⟨⟨he,by simp,by simp⟩,ho,by simp⟩
  (conv=>whnf);refine zcv (qcz (cnt d i) 4 w2 Od) ?_;rintro r w3 ⟨⟨B2,cb2,rfl,hS2⟩,he2⟩;have hR:=hR.call he2;(conv=>whnf);refine AppV.rwB (x:=fixL i 4) qeh bytI bytZ Jk rfl (by decide +kernel) hR hS2 (by rw [q9,q9];omega) ?_;intro C1 c1 w4 hR;(conv=>whnf);subst hl;refine AppV.rwB (x:=fixL i 4++fixL (cnt d i) 4) qeh bytI bytZ Jk rfl (by decide +kernel) hR (hS.ext (hT.ext.trans hR.mem.ext)) (by simp only [zla,q9];omega) ?_;intro C2 c2 w5 hR;(conv=>whnf);refine AppV.rwB (x:=fixL i 4++fixL (cnt d i) 4++d) qeh bytI bytZ Jk rfl (by decide +kernel) hR (hG.ext hR.mem.ext) (by simp only [zla,q9];omega) ?_;intro C3 c3 w6 hR;(conv=>whnf);refine AppV.rwB (x:=fixL i 4++fixL (cnt d i) 4++d++gL d i) qeh bytI bytZ Jk rfl (by decide +kernel) hR (hH.ext hR.mem.ext) (by simp only [zla,q9];omega) ?_;intro C4 c4 w7 hR;(conv=>whnf);refine AppV.rwB (x:=fixL i 4++fixL (cnt d i) 4++d++gL d i++sL d i) qeh bytI bytZ Jk rfl (by decide +kernel) hR (hI.ext hR.mem.ext) (by simp only [zla,q9];omega) ?_;intro C5 c5 w8 hR;(conv=>whnf);obtain ⟨_,_,e,_,h⟩:=qgj hR.own;cases e;exact ⟨⟨C5,c5,rfl,h⟩,hT.ext.trans hR.mem.ext⟩
def PadB (d:LB) (n:Nat):Prop:=∃ t,n≤t∧t<8*d.length∧bitN d t=1
def qbu (n i:Nat):Nat:=
 if i<q7 n then qn n+(i-qn n)/4*4 else if i<qaq n then q7 n+(i-q7 n)/2*2 else qaq n+(i-qaq n)/4*4
def spF (l:LB) (t:Nat):Nat × Nat:=
 if l[qn (vN l)+t]?=(qcj (vD l) (vN l))[qn (vN l)+t]? then (0,0) else (qbu (vN l) (qn (vN l)+t),20)
open Classical in
noncomputable def voE (l:LB):Nat × Nat:=
 if PadB (vD l) (vN l) then (7+upN (vN l) 8,12) else if cnt (vD l) (vN l)≠vM l then (4,20) else errF (spF l) (qal (vN l) (vM l)-qn (vN l))
theorem qku {l:LB} (h:PadB (vD l) (vN l)):voE l=(7+upN (vN l) 8,12):=by rw [voE,if_pos h]
theorem qnx {l:LB} (h:¬ PadB (vD l) (vN l)) (h2:cnt (vD l) (vN l)≠vM l):voE l=(4,20):=by rw [voE,if_neg h,if_pos h2]
theorem q2m {l:LB} (h:¬ PadB (vD l) (vN l)) (h2:cnt (vD l) (vN l)=vM l) {i:Nat} (hi:qn (vN l)≤i) (hi2:i<qal (vN l) (vM l))
  (hj:∀ j,qn (vN l)≤j→j<i→l[j]?=(qcj (vD l) (vN l))[j]?) (hne:l[i]?≠(qcj (vD l) (vN l))[i]?):voE l=(qbu (vN l) i,20):=by
 obtain ⟨t,rfl⟩:∃ t,i=qn (vN l)+t:=⟨i-qn (vN l),by omega⟩
 have hk:spF l t=(qbu (vN l) (qn (vN l)+t),20):=by rw [spF,if_neg hne]
 rw [voE,if_neg h,if_neg Oo,qar (k:=t) (fun j h3=>by rw [spF,if_pos (hj _ Oo Oo)]) Oo (by rw [hk];exact Nat.succ_ne_zero 19),hk]
theorem qy9 {l:LB} (h:¬ PadB (vD l) (vN l)) (h2:cnt (vD l) (vN l)=vM l) (hj:∀ j,qn (vN l)≤j→j<qal (vN l) (vM l)→l[j]?=(qcj (vD l) (vN l))[j]?):voE l=(0,0):=by
 have hz:∀ k,k<qal (vN l) (vM l)-qn (vN l)→spF l k=(0,0):=fun k hk=>by rw [spF,if_pos (hj _ Oo Oo)]
 rw [voE,if_neg h,if_neg Oo];have:∀ n,n≤qal (vN l) (vM l)-qn (vN l)→errF (spF l) n=(0,0):=by
  intro n hn
  induction n with
  | zero=>rfl
  | succ n ih=>rw [errF,ih Oo,if_neg Od,hz n Oo]
 exact this _ znr
theorem qtf {l:LB} (h:(voE l).2=0):¬ PadB (vD l) (vN l)∧cnt (vD l) (vN l)=vM l∧∀ j,qn (vN l)≤j→j<qal (vN l) (vM l)→l[j]?=(qcj (vD l) (vN l))[j]?:=by
 by_cases h1:PadB (vD l) (vN l)
 ·rw [qku h1] at h;cases h
 by_cases h2:cnt (vD l) (vN l)=vM l
 ·refine ⟨h1,h2,fun j hj hj2=>?_⟩;rw [voE,if_neg h1,if_neg Oo] at h;have h3:=qay h (j-qn (vN l)) Oo;rw [spF,show qn (vN l)+(j-qn (vN l))=j by omega] at h3
  split at h3
  ·assumption
  ·cases h3
 ·rw [qnx h1 h2] at h;cases h
theorem qy6 (n i:Nat) (h:qn n≤i):qbu n i≤i:=by
 unfold qbu
 split
 ·omega
 ·split<;>omega
theorem qy8 (l:LB):(voE l).1≤qal (vN l) (vM l)+8:=by
 have hv:qal (vN l) (vM l)=qn (vN l)+4*upN (vN l) 2048+2*upN (vN l) 256+4*upN (vM l) 512:=rfl;have hg:qn (vN l)=8+upN (vN l) 8:=rfl
 by_cases h1:PadB (vD l) (vN l)
 ·rw [qku h1];show 7+upN (vN l) 8≤_;omega
 by_cases h2:cnt (vD l) (vN l)=vM l
 ·rw [voE,if_neg h1,if_neg Oo];have:∀ n,n≤qal (vN l) (vM l)-qn (vN l)→(errF (spF l) n).1≤qal (vN l) (vM l):=by
   intro n hn
   induction n with
   | zero=>exact Nat.zero_le _
   | succ n ih=>
    rw [errF]
    split
    ·exact ih Oo
    ·rw [spF]
     split
     ·exact Nat.zero_le _
     ·have:=qy6 (vN l) (qn (vN l)+n) Oo;show qbu _ _≤_;omega
  have:=this _ znr;omega
 ·rw [qnx h1 h2];show 4≤_;omega
def fltV (a e:Int):Value:=.agg #[ii a,ii e]
def q51 (l:LB):Prop:=8≤l.length∧vN l≤67108864∧vM l≤vN l
def HdR (l:LB) (v:Value):Prop:=(q51 l∧v=fltV 0 0)∨(¬ q51 l∧∃ a e:Int,e≠0∧0≤a∧a≤1099511627776∧v=fltV a e)
theorem qw2 (l:LB) (A:oA) (n c:Nat) (w:World) (hS:SlAt encB 1 w A l) (hn:l.length=n) (hl:l.length≤140737488355328) :
  Gv Tryz.prog 191 [.slice A n c] w fun v w'=>HdR l v∧Ext w w':=by
 refine ze Tryz.func191 Tryz.ntmps191 ?_;refine znm (Mem.nil w) fun b w1 hm=>zw ?_;refine zC (fun _=>zw ?_) (fun _=>zw ?_)
 ·refine StoreA.all hm (i:=0) rfl rfl (by intro v hv;simp at hv;rcases hv with rfl|rfl<;>rfl) fun w2 hm=>zw ?_;refine qa (R:=fun v w'=>HdR l v∧Ext w w') (zw ?_);refine zl hm 0 ?_;exact ⟨.inr ⟨fun h=>by have:=h.1;omega,_,_,by decide,by omega,by omega,rfl⟩,hm.ext⟩
 have h8:8≤l.length:=by omega
 have hN:=qan l 4 Oo;have hM:=qan (l.drop 4) 4 (by rw [zld];omega);refine zcv (qch l A n c w1 (hS.ext hm.ext) hn h8 hl) ?_;rintro r w2 ⟨rfl,he⟩;have hm:=hm.call he;conv=>whnf
 (repeat' refine zC (fun _=>zw ?_) (fun _=>zw ?_))
 ·refine StoreA.all hm (i:=0) rfl rfl Od fun w2 hm=>zw ?_;refine qa (R:=fun v w'=>HdR l v∧Ext w w') (zw ?_);refine zl hm 0 ?_;exact ⟨.inr ⟨fun h=>by have:=h.2.1;omega,_,_,by decide,by omega,by omega,rfl⟩,hm.ext⟩
 ·refine StoreA.all hm (i:=0) rfl rfl Od fun w2 hm=>zw ?_;refine qa (R:=fun v w'=>HdR l v∧Ext w w') (zw ?_);refine zl hm 0 ?_;exact ⟨.inr ⟨fun h=>by have:=h.2.2;omega,_,_,by decide,by omega,by omega,rfl⟩,hm.ext⟩
 ·refine StoreA.all hm (i:=0) rfl rfl Od fun w2 hm=>zw ?_;refine qa (R:=fun v w'=>HdR l v∧Ext w w') (zw ?_);refine zl hm 0 ?_;exact ⟨.inl ⟨⟨h8,by omega,by omega⟩,rfl⟩,hm.ext⟩
def VoR (l:LB) (v:Value):Prop:=v=fltV (voE l).1 (voE l).2
theorem VoR.mk {l:LB} {a e:Nat} {x y:Int} (h:voE l=(a,e)) (h1:x=a) (h2:y=e):VoR l (.agg #[ii x,ii y]):=by
 subst h1 h2;rw [VoR,h];rfl
theorem qps (d:LB) (n:Nat):(qcj d n).length=8+d.length+4*upN n 2048+2*upN n 256+4*upN (cnt d n) 512:=by
 simp only [qcj,zla,q9,qle,qo6,qsi]
theorem qlw (d:LB) (n:Nat):(qcj d n).drop (8+d.length)=gL d n++(sL d n++mL d n):=by
 have e:qcj d n=(fixL n 4++fixL (cnt d n) 4++d)++(gL d n++(sL d n++mL d n)):=by simp only [qcj,List.append_assoc]
 have e2:8+d.length=(fixL n 4++fixL (cnt d n) 4++d).length:=by simp only [zla,q9]
 rw [e,e2,List.drop_left]
theorem qwj {l m:LB} {a:Nat} (hlen:l.length=m.length) (h:∀ j,a≤j→j<l.length→l[j]?=m[j]?):l.drop a=m.drop a:=by
 apply List.ext_getElem?;intro i;rw [List.getElem?_drop,List.getElem?_drop]
 by_cases hi:a+i<l.length
 ·exact h (a+i) Oo hi
 ·rw [List.getElem?_eq_none Oo,List.getElem?_eq_none Oo]
theorem VecOk.voE {l:LB} (hv:vOk l=true) (h:(voE l).2=0):VecOk l:=by
 obtain ⟨_,h2,h3⟩:=qtf h;simp only [vOk,Bool.and_eq_true,decide_eq_true_eq] at hv;have hve:qal (vN l) (vM l)=qn (vN l)+4*upN (vN l) 2048+2*upN (vN l) 256+4*upN (vM l) 512:=rfl;have hgg:qn (vN l)=8+upN (vN l) 8:=rfl;have hdl:(vD l).length=upN (vN l) 8:=by rw [vD,List.length_take,zld];omega
 have hwl:=qps (vD l) (vN l);have hlen:l.length=(qcj (vD l) (vN l)).length:=by rw [hwl,h2,hdl];omega
 refine VecOk.of (by simp only [vOk,Bool.and_eq_true,decide_eq_true_eq];exact hv) h2 ?_;rw [← qlw,hdl,← hgg];exact qwj hlen fun j h4 h5=>h3 j Oo Oo
theorem qvg (l:LB) (A:oA) (n c:Nat) (w:World) (hS:SlAt encB 1 w A l) (hn:l.length=n) (hc:n≤c) (hl:l.length≤67108864) (hv:vOk l=true) :
  Gv Tryz.prog 157 [.slice A n c] w fun v w'=>VoR l v∧Ext w w':=by
 refine ze Tryz.func157 Tryz.ntmps157 ?_;refine znm (Mem.nil w) fun b w1 hm=>zw ?_;refine zcv (qw2 l A n c w1 (hS.ext hm.ext) hn Oo) ?_;rintro r w2 ⟨⟨⟨h8,hN,hM⟩,rfl⟩|⟨hno,_,_,_,_,_,rfl⟩,he⟩
 case inr=>
  simp only [vOk,Bool.and_eq_true,decide_eq_true_eq] at hv;exact absurd ⟨hv.1.1.1,hv.1.1.2,hv.1.2⟩ hno
 have hm:=hm.call he;(conv=>whnf);refine znm hm fun fb w3 hm=>zw ?_;refine StoreA.all hm (i:=0) rfl rfl Od fun w4 hm=>zw ?_;refine LoadV.mem (i:=0) Oa rfl rfl (zw ?_);refine zt ?_;have hm:=hm.sub (List.sublist_cons_self ..);refine zcv (qch l A n c w4 (hS.ext hm.ext) hn h8 Oo) ?_;rintro r w5 ⟨rfl,he5⟩;have hm:=hm.call he5;(conv=>whnf);refine zcv (qhs (vN l) (vM l) w5 hN hM) ?_;rintro r w6 ⟨rfl,he6⟩;have hm:=hm.call he6;have hsz:l.length=qal (vN l) (vM l):=by
  simp only [vOk,Bool.and_eq_true,decide_eq_true_eq] at hv;exact hv.2
 refine zu ?_;have hgl:qn (vN l)≤l.length:=by
  have:qal (vN l) (vM l)=qn (vN l)+4*upN (vN l) 2048+2*upN (vN l) 256+4*upN (vM l) 512:=rfl;omega
 have hgg:qn (vN l)=8+upN (vN l) 8:=rfl;have hdl:(vD l).length=upN (vN l) 8:=by rw [vD,List.length_take,zld];omega
 have hun:vN l≤8*(vD l).length:=by rw [hdl];unfold upN;omega
 refine zcv (qn6 l A n c w6 (hS.ext hm.ext) hn hc h8 hN hgl Oo) ?_;rintro r w7 ⟨⟨B,d,rfl,hD⟩,he7⟩;have hm:=hm.call he7;(conv=>whnf);refine zcv (qql (vD l) B _ d (vN l) w7 hD hdl hun Oo) ?_;rintro r w8 ⟨⟨pb,rfl,hpb⟩,rfl⟩;have hpb:pb=true↔¬ PadB (vD l) (vN l):=hpb;(conv=>whnf);cases pb
 ·have hpad:PadB (vD l) (vN l):=Classical.byContradiction fun h=>by have:=hpb.2 h;cases this
  clear hpb;refine zv ?_;refine StoreA.all hm (i:=0) rfl rfl (by intro v hv;simp at hv;rcases hv with rfl|rfl<;>rfl) fun w9 hm=>zw ?_;refine qa (R:=fun v w'=>VoR l v∧Ext w w') (zw ?_);refine zl hm 0 ?_;exact ⟨.mk (qku hpad) Oo rfl,hm.ext⟩
 have hpad:¬ PadB (vD l) (vN l):=hpb.1 rfl;clear hpb;refine zv ?_;refine zcv (qtq (vD l) B _ d (vN l) _ hD hdl hun hN Oo) ?_;rintro r w8 ⟨rfl,rfl⟩;(conv=>whnf);refine zC (fun _=>zw ?_) (fun _=>zw ?_)
 ·refine StoreA.all hm (i:=0) rfl rfl (by intro v hv;simp at hv;rcases hv with rfl|rfl<;>rfl) fun w9 hm=>zw ?_;refine qa (R:=fun v w'=>VoR l v∧Ext w w') (zw ?_);refine zl hm 0 ?_;exact ⟨.mk (qnx hpad Oo) rfl rfl,hm.ext⟩
 have hcn:cnt (vD l) (vN l)=vM l:=by omega
 have u1:=qak (vN l) 2048 Od;have u2:=qak (vN l) 256 Od;have u3:=qak (vN l) 8 Od;have u4:=qak (vM l) 512 Od;have hve:qal (vN l) (vM l)=qn (vN l)+4*upN (vN l) 2048+2*upN (vN l) 256+4*upN (vM l) 512:=rfl;refine zcv (qvh (vD l) B _ d (vN l) _ hD hdl hun hN Oo) ?_;rintro r w10 ⟨⟨C,cc,rfl,hW⟩,he10⟩;have hm:=hm.call he10;refine zu ?_;refine zcv (qfw (vN l) 2048 _ Oo Od Od) ?_;rintro r w11 ⟨rfl,rfl⟩;refine zu ?_;refine zcv (qfw (vN l) 256 _ Oo Od Od) ?_;rintro r w11 ⟨rfl,rfl⟩;refine zu ?_;have hwl:=qps (vD l) (vN l);rw [hcn,hdl] at hwl;obtain ⟨wt,ewt⟩:∃ wt,wt=qcj (vD l) (vN l):=⟨_,rfl⟩
 rw [← ewt] at hwl hW ⊢;obtain ⟨w12,ew12⟩:∃ w12:World,w12=w11:=⟨_,rfl⟩
 have hst:∀ i,8+upN (vN l) 8≤i→i<qal (vN l) (vM l)→(∀ j,8+upN (vN l) 8≤j→j<i→l[j]?=wt[j]?)→(h1:i<l.length)→(h2:i<wt.length)→l[i].toNat≠wt[i].toNat→voE l=(qbu (vN l) i,20):=fun i a1 a2 a3 a4 a5 a6=>by
  refine q2m hpad hcn a1 a2 (fun j b1 b2=>by rw [← ewt];exact a3 j b1 b2) ?_;rw [← ewt,zge a4,zge a5];intro h;exact a6 (congrArg UInt8.toNat (Option.some.inj h))
 have hsm:q7 (vN l)=8+upN (vN l) 8+4*upN (vN l) 2048:=rfl;have hmk:qaq (vN l)=8+upN (vN l) 8+4*upN (vN l) 2048+2*upN (vN l) 256:=rfl;refine qr (fun i:Nat=>[(0,.slice A n c),(2,pp b),(6,ii (qal (vN l) (vM l))),(9,.slice C wt.length cc),(10,ii (8+upN (vN l) 8:Nat)),(11,ii (8+upN (vN l) 8+4*upN (vN l) 2048:Nat)),(12,ii (8+upN (vN l) 8+4*upN (vN l) 2048+2*upN (vN l) 256:Nat)),(13,ii i)])
  (fun i w'=>8+upN (vN l) 8≤i∧i≤qal (vN l) (vM l)∧(∀ j,8+upN (vN l) 8≤j→j<i→l[j]?=wt[j]?)∧Ext w11 w'∧Mem w w' [(b,.cells #[ii 0,ii 0] 273)]) (fun i=>qal (vN l) (vM l)-i) (8+upN (vN l) 8)
  ⟨rfl,rfl,rfl,rfl,by exact congrArg (Value.int .i64) Oo,by exact congrArg (Value.int .i64) Oo,by exact congrArg (Value.int .i64) Oo,by exact congrArg (Value.int .i64) Oo,trivial⟩ ⟨Nat.le_refl _,by omega,fun j h1 h2=>by omega,xr,hm⟩ ?_
 clear hm;rintro i w13 ρ' ⟨i1,i2,hj,hx,hm⟩;(conv=>whnf);refine zC (fun _=>zu ?_) (fun _=>zu ?_)
 ·refine zy ?_;have hm:=hm.drew;have hx:=hx.drew;refine zv ?_;refine ElemV.bs (hS.ext hm.ext) hn i rfl Oo ?_;intro eb eo hc1;refine zu ?_;refine LoadV.of hc1 (zu ?_);refine ElemV.bs (hW.ext hx) rfl i rfl Oo ?_;intro eb2 eo2 hc2;refine zu ?_;refine LoadV.of hc2 (zw ?_)
  (repeat' (first|refine zp ?_|refine zC (fun _=>zw ?_) (fun _=>zw ?_)))
  ·refine ⟨i+1,⟨rfl,rfl,rfl,rfl,rfl,rfl,rfl,rfl,trivial⟩,⟨by omega,by omega,fun j h1 h2=>?_,hx,hm⟩,by omega⟩
   by_cases ej:j=i
   ·subst ej;rw [zge Oo,zge Oo];exact congrArg some (UInt8.toNat_inj.1 Oo)
   ·exact hj j h1 Oo
  ·refine StoreA.all hm (i:=0) rfl rfl (by intro v hv;simp at hv;rcases hv with rfl|rfl<;>rfl) fun w9 hm=>zw ?_;refine qa (R:=fun v w'=>VoR l v∧Ext w w') (zw ?_);refine zl hm 0 ?_;refine ⟨.mk (hst i Oo Oo hj Oo Oo Oo) ?_ rfl,hm.ext⟩;show _=((qbu _ _:Nat):Int);unfold qbu;rw [if_pos Oo];omega
  ·refine StoreA.all hm (i:=0) rfl rfl (by intro v hv;simp at hv;rcases hv with rfl|rfl<;>rfl) fun w9 hm=>zw ?_;refine qa (R:=fun v w'=>VoR l v∧Ext w w') (zw ?_);refine zl hm 0 ?_;refine ⟨.mk (hst i Oo Oo hj Oo Oo Oo) ?_ rfl,hm.ext⟩;show _=((qbu _ _:Nat):Int);unfold qbu;rw [if_neg Oo,if_pos Oo];omega
  ·refine StoreA.all hm (i:=0) rfl rfl (by intro v hv;simp at hv;rcases hv with rfl|rfl<;>rfl) fun w9 hm=>zw ?_;refine qa (R:=fun v w'=>VoR l v∧Ext w w') (zw ?_);refine zl hm 0 ?_;refine ⟨.mk (hst i Oo Oo hj Oo Oo Oo) ?_ rfl,hm.ext⟩;show _=((qbu _ _:Nat):Int);unfold qbu;rw [if_neg Oo,if_neg Oo];omega
 ·obtain rfl:i=qal (vN l) (vM l):=by omega
  refine StoreA.all hm (i:=0) rfl rfl Od fun w9 hm=>zw ?_;refine qa (R:=fun v w'=>VoR l v∧Ext w w') (zw ?_);refine zl hm 0 ?_;refine ⟨.mk (qy9 hpad hcn fun j h1 h2=>?_) rfl rfl,hm.ext⟩;rw [← ewt];exact hj j Oo h2
def inF (F:Nat→Int):Nat→Value:=fun j=>ii (F j)
def updI (F:Nat→Int) (i:Nat) (v:Int):Nat→Int:=fun j=>if j=i then v else F j
theorem qb4 (F:Nat→Int) (i:Nat) (v:Int):updI F i v i=v:=by simp [updI]
theorem qap (F:Nat→Int) (i j:Nat) (v:Int) (h:j≠i):updI F i v j=F j:=by simp [updI,h]
theorem qy3 (F:Nat→Int) (i:Nat) (v:Int):updF (inF F) i (ii v)=inF (updI F i v):=by
 funext j
 by_cases h:j=i
 ·simp [updF,updI,inF,h]
 ·simp [updF,updI,inF,h]
theorem V.LoadV.fi {w0 w:World} {L:List (Nat × Obj)} {i b off n:Nat} {F:Nat→Int} {t:TypeId} {x:Int} {K:Value→Prop} (h:Mem w0 w L) (hi:L[i]?=some (b,.cells (fnA n (inF F)) t)) (j:Nat) (e:off=j) (hj:j<n) (hv:F j=x) (hk:K (ii x)):LoadV w b off K:=
 LoadV.fn h hi j e hj (by rw [← hv];rfl) hk
theorem V.StoreV.fi {w0 w:World} {L:List (Nat × Obj)} {i b off n:Nat} {F:Nat→Int} {t:TypeId} {x:Int} {K:World→Prop} (h:Mem w0 w L) (hi:L[i]?=some (b,.cells (fnA n (inF F)) t)) (j:Nat) (e:off=j) (hj:j<n)
  (hk:∀ w',Mem w0 w' (L.set i (b,.cells (fnA n (inF (updI F j x))) t))→K w'):StoreV w b off (ii x) K:=
 StoreV.fn h hi j e hj rfl fun w' hm=>hk w' (by rw [qy3] at hm;exact hm)
def RcR (l:LB) (hb:Nat) (F:Nat→Int) (L:List (Nat × Obj)) (w0:World) (r:Value) (w':World):Prop:=
 ((errF (tcF l) 4).2≠0∧r=.tuple #[ii 0,fltV (errF (tcF l) 4).1 (errF (tcF l) 4).2]∧∃ F',Mem w0 w' ((hb,.cells (fnA 13 (inF F')) 155)::L))∨
 ((∀ k,k<4→(tcF l k).2=0)∧r=.tuple #[ii (vAt l 4),fltV 0 0]∧∃ F',(∀ k,k<4→F' k=((vNum l k:Nat):Int))∧(∀ j,4≤j→F' j=F j)∧Mem w0 w' ((hb,.cells (fnA 13 (inF F')) 155)::L))
theorem qqs (l:LB) (A:oA) (n c hb:Nat) (F:Nat→Int) (w0 w:World) (L:List (Nat × Obj)) (hm:Mem w0 w ((hb,.cells (fnA 13 (inF F)) 155)::L)) (hS:SlAt encB 1 w0 A l) (hn:l.length=n) (hc:n≤c) (hl:l.length≤140737488355328) :
  Gv Tryz.prog 115 [.slice A n c,pp hb] w fun r w'=>RcR l hb F L w0 r w':=by
 refine ze Tryz.func115 Tryz.ntmps115 ?_;refine znm hm fun rb w1 hm=>zw ?_;refine qr (fun x:Nat × (Nat→Int)=>[(0,.slice A n c),(1,pp hb),(4,ii 0),(5,pp rb),(6,ii (vAt l x.1)),(7,ii x.1)])
  (fun x w'=>x.1≤4∧(∀ j,j<x.1→(tcF l j).2=0)∧(∀ k,k<x.1→x.2 k=((vNum l k:Nat):Int))∧(∀ j,4≤j→x.2 j=F j)∧Mem w0 w' ((rb,.cells #[ii 0,ii 0] 92)::(hb,.cells (fnA 13 (inF x.2)) 155)::L)) (fun x=>4-x.1) (0,F)
  ⟨rfl,rfl,rfl,rfl,rfl,rfl,trivial⟩ ⟨by simp,fun j h=>by simp at h,fun j h=>by simp at h,fun j _=>rfl,hm⟩ ?_
 clear hm;rintro ⟨k,F1⟩ w2 ρ' ⟨k1,hz,hF,hF2,hm⟩;dsimp only at k1 hz hF hF2 hm ⊢;have hle:=qb5 l k;have hlt:=qfx l k;(conv=>whnf);refine zC (fun _=>zw ?_) (fun _=>zw ?_)
 ·refine SliceV.bs (hS.ext hm.ext) hn (vAt l k) n c rfl rfl rfl Oo znr hc znr (fun h=>by cases h) ?_;intro A' hA';rw [List.take_of_length_le (by rw [zld];omega)] at hA';(conv=>whnf);refine zcv (qbj (l.drop (vAt l k)) A' _ _ w2 hA' (by rw [zld];omega) (by rw [zld];omega)) ?_;rintro r w3 ⟨rfl,rfl⟩;have evn:(numL (l.drop (vAt l k))).1=vNum l k:=rfl;have eva:vAt l k+(numL (l.drop (vAt l k))).2.1=vAt l (k+1):=rfl;have hle2:=qb5 l (k+1);obtain ⟨q,eq⟩:∃ q,q=(numL (l.drop (vAt l k))).2.2:=⟨_,rfl⟩
  obtain ⟨s,es⟩:∃ s,s=(numL (l.drop (vAt l k))).2.1:=⟨_,rfl⟩
  rw [numV,evn,← eq,← es];rw [← es] at eva;conv=>whnf
  (repeat' (first|refine zp ?_|refine zC (fun _=>zw ?_) (fun _=>zw ?_)))
  ·have hf:tcF l k=(vAt l k,q):=by rw [tcF,qd1 Oo,if_pos (by show (numL (l.drop (vAt l k))).2.2≠0;omega),eq]
   have hE:=qar (f:=tcF l) (n:=4) (k:=k) hz Oo (by rw [hf];show q≠0;omega);refine StoreA.all hm (i:=0) rfl rfl (by intro v hv;simp at hv;rcases hv with rfl|rfl<;>rfl) fun w9 hm=>zw ?_;refine qa (R:=fun r w'=>RcR l hb F L w0 r w') (zw ?_);refine zl hm 0 ?_;exact .inl ⟨by rw [hE,hf];show q≠0;omega,by rw [hE,hf];rfl,F1,hm.sub (List.sublist_cons_self ..)⟩
  ·have hf:tcF l k=(vAt l k,2):=by rw [tcF,qcv Oo Oo,if_pos Js]
   have hE:=qar (f:=tcF l) (n:=4) (k:=k) hz Oo (by rw [hf];simp);refine StoreA.all hm (i:=0) rfl rfl (by intro v hv;simp at hv;rcases hv with rfl|rfl<;>rfl) fun w9 hm=>zw ?_;refine qa (R:=fun r w'=>RcR l hb F L w0 r w') (zw ?_);refine zl hm 0 ?_;exact .inl ⟨by rw [hE,hf];simp,by rw [hE,hf];rfl,F1,hm.sub (List.sublist_cons_self ..)⟩
  refine StoreV.fi (x:=((vNum l k:Nat):Int)) hm (i:=1) rfl k (by rw [show tsz Tryz.prog 3=1 from by kernel_rfl];dsimp only;omega) Oo fun w4 hm=>zw ?_;refine zy ?_;have hm:=hm.drew;refine zt ?_;refine zC (fun _=>zu ?_) (fun _=>zu ?_)
  ·refine LoadV.fi (x:=((vNum l (k):Nat):Int)) hm (i:=1) rfl (k) (by rw [show tsz Tryz.prog 3=1 from by kernel_rfl];dsimp only;omega) Oo (qb4 _ _ _) (zu ?_);refine IdxV.at_ (k-1) Oo Oo (zu ?_);refine LoadV.fi (x:=((vNum l (k-1):Nat):Int)) hm (i:=1) rfl (k-1) (by rw [show tsz Tryz.prog 3=1 from by kernel_rfl];dsimp only;omega) Oo (by rw [qap _ _ _ _ Oo];exact hF (k-1) Oo) (zw ?_);refine zt ?_;refine zC (fun _=>zu ?_) (fun _=>zu ?_)
   ·have hf:tcF l k=(vAt l k,180):=by rw [tcF,qb7 Oo Oo,if_neg Js,if_pos ⟨by omega,.inl Oo⟩]
    have hE:=qar (f:=tcF l) (n:=4) (k:=k) hz Oo (by rw [hf];simp);refine StoreA.all hm (i:=0) rfl rfl (by intro v hv;simp at hv;rcases hv with rfl|rfl<;>rfl) fun w9 hm=>zw ?_;refine qa (R:=fun r w'=>RcR l hb F L w0 r w') (zw ?_);refine zl hm 0 ?_;exact .inl ⟨by rw [hE,hf];simp,by rw [hE,hf];rfl,updI F1 k (vNum l k:Nat),hm.sub (List.sublist_cons_self ..)⟩
   refine LoadV.fi (x:=((vNum l (k):Nat):Int)) hm (i:=1) rfl (k) (by rw [show tsz Tryz.prog 3=1 from by kernel_rfl];dsimp only;omega) Oo (qb4 _ _ _) (zu ?_);refine IdxV.at_ (k-1) Oo Oo (zu ?_);refine LoadV.fi (x:=((vNum l (k-1):Nat):Int)) hm (i:=1) rfl (k-1) (by rw [show tsz Tryz.prog 3=1 from by kernel_rfl];dsimp only;omega) Oo (by rw [qap _ _ _ _ Oo];exact hF (k-1) Oo) (zu ?_);refine Tst.iff (vNum l k=0↔vNum l (k-1)=0) (by rw [beq_iff_eq,decide_eq_decide];omega) (fun h=>?_) (fun h=>?_)
   ·refine zu ?_;have hf:(tcF l k).2=0:=by rw [tcF,qb7 Oo Oo,if_neg Js,if_neg Oo]
    refine ⟨(k+1,updI F1 k (vNum l k:Nat)),⟨rfl,rfl,rfl,rfl,(by show _=ii ((vAt l (k+1):Nat):Int);exact congrArg (Value.int .i64) Oo),rfl,trivial⟩,⟨by simp only;omega,fun j hj=>?_,fun j hj=>?_,fun j hj=>?_,hm⟩,by simp only;omega⟩
    ·by_cases e:j=k
     ·subst e;exact hf
     ·exact hz j (by simp only at hj;omega)
    ·by_cases e:j=k
     ·subst e;exact qb4 _ _ _
     ·simp only at hj ⊢;rw [qap _ _ _ _ Oo];exact hF j Oo
    ·simp only;rw [qap _ _ _ _ Oo];exact hF2 j hj
   ·(conv=>whnf);have hf:tcF l k=(vAt l k,180):=by rw [tcF,qb7 Oo Oo,if_neg Js,if_pos ⟨by omega,.inr (fun hq=>h hq.symm)⟩]
    have hE:=qar (f:=tcF l) (n:=4) (k:=k) hz Oo (by rw [hf];simp);refine StoreA.all hm (i:=0) rfl rfl (by intro v hv;simp at hv;rcases hv with rfl|rfl<;>rfl) fun w9 hm=>zw ?_;refine qa (R:=fun r w'=>RcR l hb F L w0 r w') (zw ?_);refine zl hm 0 ?_;exact .inl ⟨by rw [hE,hf];simp,by rw [hE,hf];rfl,updI F1 k (vNum l k:Nat),hm.sub (List.sublist_cons_self ..)⟩
  ·have hk0:k=0:=by omega
   have hf:(tcF l k).2=0:=by rw [tcF,qb7 Oo Oo,if_neg Js,if_neg Oo]
   refine ⟨(k+1,updI F1 k (vNum l k:Nat)),⟨rfl,rfl,rfl,rfl,(by show _=ii ((vAt l (k+1):Nat):Int);exact congrArg (Value.int .i64) Oo),rfl,trivial⟩,⟨by simp only;omega,fun j hj=>?_,fun j hj=>?_,fun j hj=>?_,hm⟩,by simp only;omega⟩
   ·by_cases e:j=k
    ·subst e;exact hf
    ·exact hz j (by simp only at hj;omega)
   ·by_cases e:j=k
    ·subst e;exact qb4 _ _ _
    ·simp only at hj ⊢;rw [qap _ _ _ _ Oo];exact hF j Oo
   ·simp only;rw [qap _ _ _ _ Oo];exact hF2 j hj
 ·obtain rfl:k=4:=by omega
  refine StoreA.all hm (i:=0) rfl rfl Od fun w9 hm=>zw ?_;refine qa (R:=fun r w'=>RcR l hb F L w0 r w') (zw ?_);refine zl hm 0 ?_;exact .inr ⟨hz,rfl,F1,hF,hF2,hm.sub (List.sublist_cons_self ..)⟩
def hdV (F:Nat→Int):Value:=.agg (fnA 13 (inF F))
structure HdF (l:LB) (F:Nat→Int):Prop where
 c:∀ k,k<4→F k=((vNum l k:Nat):Int)
 w:∀ k,k<4→F (4+k)=((tvAt l k:Nat):Int)
 v:∀ k,k<4→F (8+k)=((tEnd l k:Nat):Int)
theorem qbh (n:Nat) (F:Nat→Int):∀ v∈(fnA n (inF F)).toList,v.oneCell'=true:=by
 intro v hv;simp only [fnA,List.mem_map] at hv;obtain ⟨j,_,rfl⟩:=hv;rfl
def TvR (l:LB) (r:Value):Prop:=
 ((tE l).2≠0∧∃ F,r=.tuple #[hdV F,fltV (tE l).1 (tE l).2])∨((tE l).2=0∧∃ F,HdF l F∧r=.tuple #[hdV F,fltV 0 0])
theorem qyh (l:LB) (A:oA) (n c:Nat) (w:World) (hS:SlAt encB 1 w A l) (hn:l.length=n) (hc:n≤c) (hl:l.length≤140737488355328) :
  Gv Tryz.prog 61 [.slice A n c] w fun r w'=>TvR l r∧Ext w w':=by
 subst hn;refine ze Tryz.func61 Tryz.ntmps61 ?_;refine znm (Mem.nil w) fun r2 w1 hm=>zw ?_;refine znm hm fun r3 w2 hm=>zw ?_;refine znm hm fun hb w3 hm=>zw ?_;refine StoreA.all hm (i:=0) rfl rfl Od fun w4 hm=>zw ?_;refine zcv (qqs l A _ c hb (fun _=>0) w w4 _ hm hS rfl hc hl) ?_;rintro r w5 (⟨h0,rfl,F1,hm⟩|⟨hz,rfl,F1,hF1,hF1b,hm⟩)
 ·(conv=>whnf);refine znm hm fun fb w6 hm=>zw ?_;refine zS hm 0 fun w7 hm=>zw ?_;refine zr hm 0 ?_;refine zv ?_
  ·have hm:Mem w w7 ((fb,.cells #[ii (errF (tcF l) 4).1,ii (errF (tcF l) 4).2] 92)::[(hb,.cells (fnA 13 (inF F1)) 155),(r3,.cells #[ii 0,ii 0] 92),(r2,.cells (fnA 13 (inF fun _=>0)) 155)]):=hm;have hE:tE l=errF (tcF l) 4:=by rw [tE,if_pos h0]
   refine DrawV.inv (fun S w'=>Mem w w' [(fb,.cells #[ii (errF (tcF l) 4).1,ii (errF (tcF l) 4).2] 92),(hb,.cells (fnA 13 (inF F1)) 155),(r3,.cells (bif S 3 then #[ii (errF (tcF l) 4).1,ii (errF (tcF l) 4).2] else #[ii 0,ii 0]) 92),(r2,.cells (bif S 2 then fnA 13 (inF F1) else fnA 13 (inF fun _=>0)) 155)]) rfl Jk hm.drew ?_;clear hm;(conv=>whnf);refine StepI.of (hdV F1) (fun S wd hk hp hI=>zw ?_) (zw ?_)
   ·refine zl hI 1 ?_;exact ⟨rfl,hI⟩
   refine StepI.of (fltV (errF (tcF l) 4).1 (errF (tcF l) 4).2) (fun S wd hk hp hI=>zw ?_) (zw ?_)
   ·refine zl hI 0 ?_;exact ⟨rfl,hI⟩
   refine StepI.of undef (fun S wd hk hp hI=>?_) (zw ?_)
   ·dsimp only at hI;rw [hk] at hI;(conv=>whnf);refine StoreA.all hI (i:=3) rfl rfl (qbh 13 F1) fun wx hmx=>zw ?_;exact ⟨rfl,hmx⟩
   refine StepI.of undef (fun S wd hk hp hI=>?_) (zw ?_)
   ·dsimp only at hI;rw [hk] at hI;(conv=>whnf);refine zS hI 2 fun wx hmx=>zw ?_;exact ⟨rfl,hmx⟩
   intro w12 hm;(conv=>whnf);refine qa (R:=fun r w'=>TvR l r∧Ext w w') (zw ?_);refine zl hm 3 ?_;refine zl hm 2 ?_;exact ⟨.inl ⟨by rw [hE];exact h0,F1,by rw [hE];rfl⟩,hm.ext⟩
 have hz0:(errF (tcF l) 4).2=0:=qaa hz;have hn':=fun j hj=>qfk (hz j hj)
 have ev0:vAt l 4=tvAt l 0:=rfl;rw [ev0];(conv=>whnf);refine znm hm fun fb w6 hm=>zw ?_;refine StoreA.all hm (i:=0) rfl rfl Od fun w7 hm=>zw ?_;refine zr hm 0 ?_;refine zv ?_;have hm:Mem w w7 [(hb,.cells (fnA 13 (inF F1)) 155),(r3,.cells #[ii 0,ii 0] 92),(r2,.cells (fnA 13 (inF fun _=>0)) 155)]:=hm.sub (List.sublist_cons_self ..);refine qr (fun x:Nat × (Nat→Int)=>[(0,.slice A l.length c),(2,pp r2),(3,pp r3),(4,pp hb),(5,ii (tvAt l x.1)),(7,ii x.1)])
  (fun x w'=>x.1≤4∧(∀ j,j<x.1→(tvF l j).2=0)∧(∀ k,k<4→x.2 k=((vNum l k:Nat):Int))∧(∀ k,k<x.1→x.2 (4+k)=((tvAt l k:Nat):Int)∧x.2 (8+k)=((tEnd l k:Nat):Int))∧Mem w w' [(hb,.cells (fnA 13 (inF x.2)) 155),(r3,.cells #[ii 0,ii 0] 92),(r2,.cells (fnA 13 (inF fun _=>0)) 155)]) (fun x=>4-x.1) (0,F1)
  ⟨rfl,rfl,rfl,rfl,rfl,rfl,trivial⟩ ⟨by simp,fun j h=>by simp at h,hF1,fun j h=>by simp at h,hm⟩ ?_
 clear hm hF1 hF1b;rintro ⟨k,F⟩ w8 ρ' ⟨k1,hv,hF,hW,hm⟩;dsimp only at k1 hv hF hW hm ⊢;conv=>whnf
 (repeat' refine zC (fun _=>zw ?_) (fun _=>zw ?_))
 ·have hf:tvF l k=(l.length,10):=by rw [tvF,if_pos Oo]
  have hE:=qar (f:=tvF l) (n:=4) (k:=k) hv Oo (by rw [hf];simp);have hT:tE l=(l.length,10):=by rw [tE,if_neg Oo,if_pos (by rw [hE,hf];simp),hE,hf]
  refine zl hm 0 ?_;refine zS hm 2 fun w20 hm=>zw ?_;refine zS hm 1 fun w21 hm=>zw ?_;refine qa (R:=fun r w'=>TvR l r∧Ext w w') (zw ?_);refine zl hm 2 ?_;refine zl hm 1 ?_;exact ⟨.inl ⟨by rw [hT];simp,F,by rw [hT];rfl⟩,hm.ext⟩
 ·refine ElemV.bs (hS.ext hm.ext) rfl (tvAt l k) rfl Oo ?_;intro eb eo hc1;have hlt:tvAt l k<l.length:=by omega
  have hw:l[tvAt l k].toNat=tw l k:=by rw [tw,List.getD_eq_getElem?_getD,zge hlt];rfl
  have hwb:tw l k<256:=by rw [← hw];exact qv _
  rw [hw] at hc1;(conv=>whnf);refine LoadV.of hc1 (zw ?_);refine zC (fun _=>zu ?_) (fun _=>zu ?_)
  ·have hf:tvF l k=(tvAt l k,14):=by rw [tvF,if_neg Oo,if_pos Oo]
   have hE:=qar (f:=tvF l) (n:=4) (k:=k) hv Oo (by rw [hf];simp);have hT:tE l=(tvAt l k,14):=by rw [tE,if_neg Oo,if_pos (by rw [hE,hf];simp),hE,hf]
   refine zl hm 0 ?_;refine zS hm 2 fun w20 hm=>zw ?_;refine zS hm 1 fun w21 hm=>zw ?_;refine qa (R:=fun r w'=>TvR l r∧Ext w w') (zw ?_);refine zl hm 2 ?_;refine zl hm 1 ?_;exact ⟨.inl ⟨by rw [hT];simp,F,by rw [hT];rfl⟩,hm.ext⟩
  have hw23:tw l k≤23:=by omega
  have hnk:=hn' k Oo;have hmul:vNum l k*tw l k≤1048576*23:=Nat.mul_le_mul hnk hw23;obtain ⟨f,ef⟩:∃ f,f=vNum l k*tw l k:=⟨_,rfl⟩
  have efi:((vNum l k:Nat):Int)*((tw l k:Nat):Int)=(f:Int):=by rw [ef,Int.natCast_mul]
  rw [← ef] at hmul;have hte0:tEnd l k=tvAt l k+1+(f+7)/8:=by rw [ef];rfl
  have hte:(((tvAt l k:Nat):Int)+1+(((vNum l k:Nat):Int)*((tw l k:Nat):Int)+7)/8)=((tEnd l k:Nat):Int):=by omega
  refine StoreV.fi (x:=((tvAt l k:Nat):Int)) hm (i:=0) rfl (4+k) (by rw [show tsz Tryz.prog 3=1 from by kernel_rfl];dsimp only;omega) Oo fun w9 hm=>zw ?_;refine zy ?_;have hm:=hm.drew;refine zv ?_;refine LoadV.fi (x:=((vNum l k:Nat):Int)) hm (i:=0) rfl k (by rw [show tsz Tryz.prog 3=1 from by kernel_rfl];dsimp only;omega) Oo (by rw [qap _ _ _ _ Oo];exact hF k Oo) (zu ?_);refine ElemV.bs (hS.ext hm.ext) rfl (tvAt l k) rfl Oo ?_;intro eb3 eo3 hc3;rw [hw] at hc3;refine zu ?_;refine LoadV.of hc3 (zu ?_);rw [hte];refine StoreV.fi (x:=((tEnd l k:Nat):Int)) hm (i:=0) rfl (8+k) (by rw [show tsz Tryz.prog 3=1 from by kernel_rfl];dsimp only;omega) Oo ?_;intro w10 hm;obtain ⟨G,eG⟩:∃ G,G=updI (updI F (4+k) ((tvAt l k:Nat):Int)) (8+k) ((tEnd l k:Nat):Int):=⟨_,rfl⟩
  have hm:Mem w w10 [(hb,.cells (fnA 13 (inF G)) 155),(r3,.cells #[ii 0,ii 0] 92),(r2,.cells (fnA 13 (inF fun _=>0)) 155)]:=by rw [eG];exact hm
  have gF:∀ j,j<4→G j=((vNum l j:Nat):Int):=fun j hj=>by rw [eG,qap _ _ _ _ Oo,qap _ _ _ _ Oo];exact hF j hj
  have gW:∀ j,j<k+1→G (4+j)=((tvAt l j:Nat):Int)∧G (8+j)=((tEnd l j:Nat):Int):=fun j hj=>by
   by_cases e:j=k
   ·subst e;refine ⟨?_,by rw [eG];exact qb4 _ _ _⟩;rw [eG,qap _ _ _ _ Oo];exact qb4 _ _ _
   ·rw [eG,qap _ _ _ _ Oo,qap _ _ _ _ Oo,qap _ _ _ _ Oo,qap _ _ _ _ Oo];exact hW j Oo
  clear eG hF hW;conv=>whnf
  (repeat' (first|refine zp ?_|refine zC (fun _=>zw ?_) (fun _=>zw ?_)))
  ·have hmo:=qnm (hz k Oo) Oo;have hnk1:=hn' (k-1) Oo;have hvl:=qkt (vNum l k) (vNum l (k-1)) Oo hmo;have hnx:tvAt l (k+1)=tEnd l k+qal (vNum l k) (vNum l (k-1)):=by rw [qa9,if_neg Oo]
   refine DrawV.freeW Jk Jk (zw ?_);(iterate 4 (refine zd ?_));apply zsd
   ·intro wd hd;(conv=>whnf);refine LoadV.fi (x:=((vNum l k:Nat):Int)) (Mem.call (Mem.drew hm) hd) (i:=0) rfl k (by rw [show tsz Tryz.prog 3=1 from by kernel_rfl];dsimp only;omega) Oo (gF k Oo) (zw ?_);exact ⟨xr,rfl⟩
   (conv=>whnf);(iterate 3 (refine zd ?_));apply zsd
   ·intro wd hd;(conv=>whnf);refine IdxV.at_ (k-1) Oo Oo (zw ?_);exact ⟨xr,rfl⟩
   (conv=>whnf);apply zsd
   ·intro wd hd;(conv=>whnf);refine LoadV.fi (x:=((vNum l (k-1):Nat):Int)) (Mem.call (Mem.drew hm) hd) (i:=0) rfl (k-1) (by rw [show tsz Tryz.prog 3=1 from by kernel_rfl];dsimp only;omega) Oo (gF (k-1) Oo) (zw ?_);exact ⟨xr,rfl⟩
   (conv=>whnf);apply zsd
   ·intro wd hd;(conv=>whnf);refine zcv (qhs (vNum l k) (vNum l (k-1)) wd Oo hmo) ?_;rintro v w9 ⟨rfl,h9⟩;exact ⟨h9,rfl⟩
   (conv=>whnf);refine zd ?_;refine zd ?_;intro w11 he11
   (repeat (intro _ _;(conv=>whnf)))
   (conv=>whnf);have hm:=hm.drew.call he11;clear he11;have hsum:(((tEnd l k:Nat):Int)+((qal (vNum l k) (vNum l (k-1)):Nat):Int))=((tvAt l (k+1):Nat):Int):=by omega
   rw [hsum];refine zC (fun _=>zu ?_) (fun _=>zu ?_)
   ·have hf:tvF l k=(l.length,10):=by rw [tvF,if_neg Oo,if_neg Oo,if_pos Oo]
    have hE:=qar (f:=tvF l) (n:=4) (k:=k) hv Oo (by rw [hf];simp);have hT:tE l=(l.length,10):=by rw [tE,if_neg Oo,if_pos (by rw [hE,hf];simp),hE,hf]
    refine zl hm 0 ?_;refine zS hm 2 fun w20 hm=>zw ?_;refine zS hm 1 fun w21 hm=>zw ?_;refine qa (R:=fun r w'=>TvR l r∧Ext w w') (zw ?_);refine zl hm 2 ?_;refine zl hm 1 ?_;exact ⟨.inl ⟨by rw [hT];simp,G,by rw [hT];rfl⟩,hm.ext⟩
   have hfz:tvF l k=(0,0):=by rw [tvF,if_neg Oo,if_neg Oo,if_neg Oo]
   refine ⟨(k+1,G),⟨rfl,rfl,rfl,rfl,(by show _=ii ((tvAt l (k+1):Nat):Int);exact congrArg (Value.int .i64) Oo),rfl,trivial⟩,⟨by simp only;omega,fun j hj=>?_,gF,gW,hm⟩,by simp only;omega⟩
   by_cases e:j=k
   ·subst e;rw [hfz]
   ·exact hv j (by simp only at hj;omega)
  ·have hk0:k=0:=by omega
   have hnx:tvAt l (k+1)=tEnd l k:=by rw [qa9,if_pos hk0];rfl
   have hf:tvF l k=(l.length,10):=by rw [tvF,if_neg Oo,if_neg Oo,if_pos Oo]
   have hE:=qar (f:=tvF l) (n:=4) (k:=k) hv Oo (by rw [hf];simp);have hT:tE l=(l.length,10):=by rw [tE,if_neg Oo,if_pos (by rw [hE,hf];simp),hE,hf]
   refine zl hm 0 ?_;refine zS hm 2 fun w20 hm=>zw ?_;refine zS hm 1 fun w21 hm=>zw ?_;refine qa (R:=fun r w'=>TvR l r∧Ext w w') (zw ?_);refine zl hm 2 ?_;refine zl hm 1 ?_;exact ⟨.inl ⟨by rw [hT];simp,G,by rw [hT];rfl⟩,hm.ext⟩
  have hk0:k=0:=by omega
  have hnx:tvAt l (k+1)=tEnd l k:=by rw [qa9,if_pos hk0];rfl
  have hfz:tvF l k=(0,0):=by rw [tvF,if_neg Oo,if_neg Oo,if_neg Oo]
  refine ⟨(k+1,G),⟨rfl,rfl,rfl,rfl,(by show _=ii ((tvAt l (k+1):Nat):Int);exact congrArg (Value.int .i64) Oo),rfl,trivial⟩,⟨by simp only;omega,fun j hj=>?_,gF,gW,hm⟩,by simp only;omega⟩
  by_cases e:j=k
  ·subst e;rw [hfz]
  ·exact hv j (by simp only at hj;omega)
 ·obtain rfl:k=4:=by omega
  refine StoreV.fi (x:=((tvAt l 4:Nat):Int)) hm (i:=0) rfl 12 (by rfl) Oo fun w9 hm=>zw ?_;refine zC (fun _=>zw ?_) (fun _=>zw ?_)
  ·have hT:tE l=(tvAt l 4,13):=by
    have:=qaa hv;rw [tE,if_neg Oo,if_neg Oo,if_pos Oo]
   refine zl hm 0 ?_;refine zS hm 2 fun w20 hm=>zw ?_;refine zS hm 1 fun w21 hm=>zw ?_;refine qa (R:=fun r w'=>TvR l r∧Ext w w') (zw ?_);refine zl hm 2 ?_;refine zl hm 1 ?_;exact ⟨.inl ⟨by rw [hT];simp,_,by rw [hT];rfl⟩,hm.ext⟩
  ·have hT:tE l=(0,0):=by
    have:=qaa hv;rw [tE,if_neg Oo,if_neg Oo,if_neg Oo]
   have hd:HdF l (updI F 12 ((tvAt l 4:Nat):Int)):=⟨fun k hk=>by rw [qap _ _ _ _ Oo];exact hF k hk,fun k hk=>by rw [qap _ _ _ _ Oo];exact (hW k hk).1,fun k hk=>by rw [qap _ _ _ _ Oo];exact (hW k hk).2⟩
   refine zl hm 0 ?_;refine zS hm 2 fun w20 hm=>zw ?_;refine zS hm 1 fun w21 hm=>zw ?_;refine qa (R:=fun r w'=>TvR l r∧Ext w w') (zw ?_);refine zl hm 2 ?_;refine zl hm 1 ?_;exact ⟨.inr ⟨by rw [hT],_,hd,rfl⟩,hm.ext⟩
theorem qht (x:Nat) (w:World) (hx:x<18446744073709551616):Gv Tryz.prog 109 [.int .u64 x] w fun r w'=>r=ii (qbm x)∧w'=w:=by
 refine ze Tryz.func109 Tryz.ntmps109 ?_;refine qr (fun s:Nat × Nat=>[(0,.int .u64 s.2),(3,ii s.1)]) (fun s w'=>s.1+qbm s.2=qbm x∧s.2<18446744073709551616∧w'=w) (fun s=>s.2) (0,x) ⟨rfl,rfl,trivial⟩ ⟨Nat.zero_add _,hx,rfl⟩ ?_;rintro ⟨k,y⟩ w1 ρ' ⟨h1,h2,rfl⟩;dsimp only at h1 h2 ⊢;have hW:qbm x≤64:=qd7 64 x (by simpa using hx) Od;(conv=>whnf);refine zC (fun _=>zu ?_) (fun _=>zu ?_)
 ·have hh:=qfb y Oo h2;refine V.Wit.shrN 1 rfl Od (zw ?_);exact ⟨(k+1,y/2),⟨rfl,rfl,trivial⟩,⟨by simp only;omega,by simp only;omega,rfl⟩,by simp only;omega⟩
 ·obtain rfl:y=0:=by omega
  rw [qdp] at h1;exact ⟨congrArg (Value.int .i64) Oo,rfl⟩
theorem qut (n wd:Nat) (w:World) (h:n*wd≤4398046511104):Gv Tryz.prog 153 [ii n,ii wd] w fun r w'=>r=ii ((n*wd+7)/8:Nat)∧w'=w:=by
 obtain ⟨f,ef⟩:∃ f,f=n*wd:=⟨_,rfl⟩
 have efi:(n:Int)*(wd:Int)=(f:Int):=by rw [ef,Int.natCast_mul]
 rw [← ef] at h ⊢;refine ze Tryz.func153 Tryz.ntmps153 ?_;rw [efi];refine zv ?_;exact ⟨congrArg (Value.int .i64) Oo,rfl⟩
def celU (p:LB) (wd n i k:Nat):List Value:=(List.range n).map fun j=>Value.int .u64 ((if j<i then valB p (j*wd) wd else if j=i then valB p (i*wd) k else 0:Nat):Int)
theorem qlz (v:Value) (n:Nat):qba [v] n=List.replicate n v:=by
 induction n with
 | zero=>rfl
 | succ n ih=>rw [qba,ih];rfl
theorem qv2 (p:LB) (wd n:Nat):celU p wd n 0 0=qba [Value.int .u64 0] n:=by
 rw [qlz,celU,List.eq_replicate_iff];refine ⟨by simp,fun v hv=>?_⟩;obtain ⟨j,_,rfl⟩:=List.mem_map.1 hv;rw [if_neg Oo]
 split<;>rfl
theorem qv0 (p:LB) (wd n i k:Nat) (h:i<n):(celU p wd n i k)[i]?=some (.int .u64 (valB p (i*wd) k)):=by
 rw [celU,List.getElem?_map,List.getElem?_range h];simp
theorem qv1 (p:LB) (wd n i:Nat):celU p wd n (i+1) 0=celU p wd n i wd:=by
 unfold celU;refine List.map_congr_left fun j _=>?_
 congr 2
 by_cases h1:j<i
 ·rw [if_pos Oo,if_pos h1]
 ·by_cases h2:j=i
  ·subst h2;rw [if_pos Oo,if_neg h1,if_pos rfl]
  ·rw [if_neg Oo,if_neg h1,if_neg h2]
   split<;>rfl
theorem qzs (p:LB) (wd n i k:Nat) (h:i<n):(celU p wd n i k).set i (.int .u64 (valB p (i*wd) (k+1)))=celU p wd n i (k+1):=by
 apply List.ext_getElem?;intro j;rw [List.getElem?_set]
 by_cases e:i=j
 ·subst e;rw [if_pos rfl,if_pos (by simp [celU];exact h),qv0 _ _ _ _ _ h]
 ·rw [if_neg e];simp only [celU,List.getElem?_map]
  by_cases hj:j<n
  ·rw [List.getElem?_range hj];simp only [Option.map_some,if_neg (fun h=>e h.symm:¬ j=i)]
  ·rw [List.getElem?_eq_none Ys];rfl
def encU (n:Nat):List Value:=[.int .u64 n]
def unpN (p:LB) (n wd:Nat):List Nat:=(List.range n).map fun i=>valB p (i*wd) wd
open Classical in
noncomputable def opE (p:LB) (n wd:Nat):Nat:=if ∃ t,n*wd≤t∧t<8*p.length∧bitN p t=1 then 12 else 0
def unpV (p:LB) (n wd:Nat):List Value:=(unpN p n wd).map fun x:Nat=>Value.int .u64 (x:Int)
def OpR (p:LB) (n wd base:Nat) (v:Value) (w:World):Prop:=
 (opE p n wd≠0∧v=.tuple #[.slice none 0 0,ii (opE p n wd)])∨(opE p n wd=0∧wd=0∧v=.tuple #[.slice none 0 0,ii 0])∨
 (opE p n wd=0∧wd≠0∧∃ b,v=.tuple #[.slice (some ⟨b,0,none⟩) n n,ii 0]∧base≤b∧w.heap[b]?=some (.cells (unpV p n wd).toArray 116))
theorem qo3 (p:LB) (A:oA) (c n wd:Nat) (w:World) (hS:SlAt encB 1 w A p) (hp:p.length=(n*wd+7)/8) (hn:n≤4194304) (hw:wd≤64) :
  Gv Tryz.prog 108 [.slice A p.length c,ii n,ii wd] w fun v w'=>OpR p n wd w.heap.size v w'∧Ext w w':=by
 have hb:n*wd≤4194304*64:=Nat.mul_le_mul hn hw;obtain ⟨f,ef⟩:∃ f,f=n*wd:=⟨_,rfl⟩
 have efi:(n:Int)*(wd:Int)=(f:Int):=by rw [ef,Int.natCast_mul]
 have hby:=fun w=>qut n wd w Oo
 rw [← ef] at hp hb hby;refine ze Tryz.func108 Tryz.ntmps108 ?_;refine zv ?_;refine zcv (hby w) ?_;rintro r w1 ⟨rfl,rfl⟩;refine zu ?_;refine zcv (hby _) ?_;rintro r w1 ⟨rfl,rfl⟩;refine zu ?_;rw [efi];refine qr (fun i:Nat=>[(0,.slice A p.length c),(1,ii n),(2,ii wd),(8,ii i)]) (fun i w'=>f≤i∧i≤8*p.length∧(∀ t,f≤t→t<i→bitN p t≠1)∧w'=_) (fun i=>8*p.length-i) f ⟨rfl,rfl,rfl,rfl,trivial⟩ ⟨Nat.le_refl _,by omega,fun t h1 h2=>by omega,rfl⟩ ?_;rintro i w2 ρ' ⟨i0,i1,hno,rfl⟩;conv=>whnf
 (repeat' (first|refine zp ?_|refine zC (fun _=>zw ?_) (fun _=>zw ?_)))
 ·refine ElemV.bs hS rfl (i/8) Oo Oo ?_;intro eb eo hc;(conv=>whnf);refine LoadV.of hc (zu ?_);refine V.Wit.shrN (i%8) Oo (by show i%8<8;omega) (zw ?_);have hlt:=qv p[i/8];have hlt2:p[i/8].toNat/2 ^ (i%8)<256:=Nat.lt_of_le_of_lt (Nat.div_le_self _ _) hlt;refine Wit.eq (qav (k:=.u8) (m:=p[i/8].toNat/2 ^ (i%8)) 1 rfl (qfy hlt2) ⟨by omega,by omega⟩) ?_;have hbi:p[i/8].toNat/2 ^ (i%8)%2 ^ 1=bitN p i:=by
   rw [bitN,List.getD_eq_getElem?_getD,zge Oo];rfl
  rw [hbi];(conv=>whnf);refine zC (fun _=>zu ?_) (fun _=>zu ?_)
  ·have hb:bitN p i=1:=by
    have:=qct p i;omega
   have hE:opE p n wd=12:=by rw [opE,if_pos ⟨i,by rw [← ef];exact i0,by omega,hb⟩]
   exact ⟨.inl ⟨by rw [hE];decide,by rw [hE];rfl⟩,xr⟩
  ·refine ⟨i+1,⟨rfl,rfl,rfl,rfl,trivial⟩,⟨by omega,by omega,fun t h1 h2=>?_,rfl⟩,by omega⟩
   by_cases e:t=i
   ·subst e;omega
   ·exact hno t h1 Oo
 ·have hw0:wd=0:=by omega
  have hE:opE p n wd=0:=by rw [opE,if_neg (fun ⟨t,h1,h2,h3⟩=>hno t (by rw [ef];exact h1) Oo h3)]
  exact ⟨.inr (.inl ⟨hE,hw0,rfl⟩),xr⟩
 ·have hE:opE p n wd=0:=by rw [opE,if_neg (fun ⟨t,h1,h2,h3⟩=>hno t (by rw [ef];exact h1) Oo h3)]
  refine ⟨n,n,rfl,rfl,Nat.le_refl _,by show n*8≤_;omega,by omega,fun b w3 hb hw=>?_⟩;have hm:=(Mem.nil w2).new hb hw;have hz:(qba [Value.int .u64 0] n).toArray=(celU p wd n 0 0).toArray:=by rw [qv2]
  have hm:Mem w2 w3 [(b,.cells (celU p wd n 0 0).toArray 116)]:=by rw [← hz];exact hm
  (conv=>whnf);refine qr (fun i:Nat=>[(0,.slice A p.length c),(1,ii n),(2,ii wd),(9,.slice (some ⟨b,0,none⟩) n n),(10,ii i)]) (fun i w'=>i≤n∧Mem w2 w' [(b,.cells (celU p wd n i 0).toArray 116)]) (fun i=>n-i) 0 ⟨rfl,rfl,rfl,rfl,rfl,trivial⟩ ⟨Nat.zero_le _,hm⟩ ?_;clear hm hb hw;rintro i w4 ρ2 ⟨i1,hm⟩;(conv=>whnf);refine zC (fun _=>zw ?_) (fun _=>zw ?_)
  ·have hm1:i*wd+wd≤f:=by rw [ef,← Nat.succ_mul];exact Nat.mul_le_mul_right _ Oo
   obtain ⟨g,eg⟩:∃ g,g=i*wd:=⟨_,rfl⟩
   have egi:(i:Int)*(wd:Int)=(g:Int):=by rw [eg,Int.natCast_mul]
   rw [← eg] at hm1;refine qr (fun k:Nat=>[(0,.slice A p.length c),(1,ii n),(2,ii wd),(9,.slice (some ⟨b,0,none⟩) n n),(10,ii i),(11,ii k)]) (fun k w'=>k≤wd∧Mem w2 w' [(b,.cells (celU p wd n i k).toArray 116)]) (fun k=>wd-k) 0 ⟨rfl,rfl,rfl,rfl,rfl,rfl,trivial⟩ ⟨Nat.zero_le _,hm⟩ ?_;clear hm;rintro k w5 ρ3 ⟨k1,hm⟩;(conv=>whnf);refine zC (fun _=>zu ?_) (fun _=>zu ?_)
   ·have hvs:=qkr p g k;have hvs2:valB p g (k+1)<2 ^ 64:=qhz _ _ _ Oo;have hlen:(celU p wd n i k).length=n:=by simp [celU]
    have hld:(celU p wd n i k)[i]?=some (.int .u64 (valB p g k)):=by rw [eg];exact qv0 p wd n i k Oo
    refine DrawV.own rfl Jk (zw ?_);(iterate 4 (refine zo ?_));apply StepO.still
    ·intro wd hd;(conv=>whnf);refine ElemV.own1 i rfl Oo (zw ?_);exact PostO.still xr rfl
    (conv=>whnf);apply StepO.still
    ·intro wd hd;(conv=>whnf);refine LoadV.mem (Mem.call (Mem.drew hm) hd) (i:=0) rfl (by rw [List.getElem?_toArray];exact hld) ?_;(conv=>whnf);exact PostO.still xr rfl
    (conv=>whnf);have hj:(g+k)/8<p.length:=by omega
    obtain ⟨gb,go,hA,hcl⟩:=hS.at_ (by intro e;rw [e] at hj;simp at hj);subst hA;have hcell:w2.cell? ⟨gb,go+(g+k)/8*1,none⟩=some (.int .u8 p[(g+k)/8].toNat):=by
     have:=hcl ((g+k)/8) _ (zge hj) 0 _ rfl
     rwa [Nat.add_zero] at this
    have hlt:=qv p[(g+k)/8];have hlt2:p[(g+k)/8].toNat/2 ^ ((g+k)%8)<256:=Nat.lt_of_le_of_lt (Nat.div_le_self _ _) hlt;have hbit:p[(g+k)/8].toNat/2 ^ ((g+k)%8)%2 ^ 1=bitN p (g+k):=by
     rw [bitN,List.getD_eq_getElem?_getD,zge hj];rfl
    have hb1:=qct p (g+k);have e64:2 ^ 64=18446744073709551616:=by decide
    (iterate 3 (refine zo ?_));apply StepO.still
    ·intro wd1 hd;(conv=>whnf);refine ⟨⟨gb,go,(g+k)/8,rfl,by omega,by omega,?_⟩⟩;exact PostO.still xr rfl
    (conv=>whnf);apply StepO.still
    ·intro wd1 hd;(conv=>whnf);refine LoadV.of (Ext.cell (hm.ext.trans (Ext.trans xr.drew hd)) hcell) (zw ?_);exact PostO.still xr rfl
    (conv=>whnf);refine zo ?_;refine zo ?_;apply StepO.still
    ·intro wd1 hd;(conv=>whnf);refine V.Wit.shrN ((g+k)%8) Oo (by show (g+k)%8<8;omega) (zw ?_);exact PostO.still xr rfl
    (conv=>whnf);apply StepO.still
    ·intro wd1 hd;(conv=>whnf);refine Wit.eq (qav (k:=.u8) (m:=p[(g+k)/8].toNat/2 ^ ((g+k)%8)) 1 rfl (qfy hlt2) ⟨by omega,by omega⟩) ?_;rw [hbit];(conv=>whnf);exact PostO.still xr rfl
    (conv=>whnf);refine zo ?_;refine zo ?_;apply StepO.still
    ·intro wd1 hd;(conv=>whnf);refine V.Wit.shlN k Oo (by show k<64;omega) (qef (by rw [valB] at hvs2;omega)) (zw ?_);exact PostO.still xr rfl
    (conv=>whnf);apply StepO.still
    ·intro wd1 hd;(conv=>whnf);refine Wit.eq (qbn k (qef (by rw [valB] at hvs2;omega)) hvs) (zw ?_);exact PostO.still xr rfl
    (conv=>whnf);apply StepO.still
    ·intro wd1 hd;(conv=>whnf);refine ElemV.own1 i rfl Oo (zw ?_);exact PostO.still xr rfl
    (conv=>whnf);intro w6 hd6
    (repeat (intro _;(conv=>whnf)))
    (conv=>whnf);refine StoreV.mem (hm.drew.call hd6) (i:=0) rfl (by simp [celU];omega) rfl ?_;intro w7 hm;have hset:(celU p wd n i k).toArray.setIfInBounds i (.int .u64 (valB p g k+bitN p (g+k)*2 ^ k:Nat))=(celU p wd n i (k+1)).toArray:=by
     have:=qzs p wd n i k Oo;rw [← eg,valB] at this;rw [← this];simp
    have hm:Mem w2 w7 [(b,.cells (celU p wd n i (k+1)).toArray 116)]:=by rw [← hset];exact hm
    refine zu ?_;exact ⟨k+1,⟨rfl,rfl,rfl,rfl,rfl,rfl,trivial⟩,⟨by omega,hm⟩,by omega⟩
   ·obtain rfl:k=wd:=by omega
    exact ⟨i+1,⟨rfl,rfl,rfl,rfl,rfl,trivial⟩,⟨by omega,by rw [qv1];exact hm⟩,by omega⟩
  ·obtain rfl:i=n:=by omega
   obtain ⟨o1,o2⟩:=hm.own _ mh;have hfin:celU p wd i i 0=unpV p i wd:=by
    rw [unpV,unpN,List.map_map,celU];refine List.map_congr_left fun j hj=>?_;rw [if_pos (List.mem_range.1 hj)];rfl
   exact ⟨.inr (.inr ⟨hE,by omega,b,rfl,o1,by rw [← hfin];exact o2⟩),hm.ext⟩
theorem qmh {f:Nat→Nat × Nat} {n k:Nat} {a e:Nat} (h:∀ j,j<k→(f j).2=0) (hk:k<n) (he:f k=(a,e)) (h0:e≠0):errF f n=(a,e):=by
 rw [qar h hk (by rw [he];exact h0),he]
theorem q52 {l:LB} (h:(voE l).2=0):voE l=(0,0):=by
 obtain ⟨h1,h2,h3⟩:=qtf h;exact qy9 h1 h2 h3
theorem qxq {p:LB} {n wd:Nat} (h:opE p n wd≠0):0<p.length:=by
 unfold opE at h
 split at h
 ·rename_i g
  obtain ⟨t,_,g2,_⟩:=g;omega
 ·exact absurd rfl h
def wMx (xs:List Nat):Nat→Nat
 | 0=>0
 | i+1=>max (wMx xs i) (qbm (xs.getD i 0))
noncomputable def vcE (l:LB) (k:Nat):Nat × Nat:=
 if tVec l k=false then (tEnd l k,180) else if (voE (qi l k)).2≠0 then (tEnd l k+(voE (qi l k)).1,(voE (qi l k)).2)
 else if 0<vNum l k∧bitN ((qi l k).drop 8) (vNum l k-1)≠1 then (tEnd l k,180) else (0,0)
theorem qpo {l:LB} {k:Nat} (h:tVec l k=false):vcE l k=(tEnd l k,180):=by rw [vcE,if_pos h]
theorem qte {l:LB} {k:Nat} (h:tVec l k=true) (h2:(voE (qi l k)).2≠0):vcE l k=(tEnd l k+(voE (qi l k)).1,(voE (qi l k)).2):=by rw [vcE,if_neg (by rw [h];decide),if_pos h2]
theorem qnv {l:LB} {k:Nat} (h:tVec l k=true) (h2:(voE (qi l k)).2=0) (h3:0<vNum l k) (h4:bitN ((qi l k).drop 8) (vNum l k-1)≠1):vcE l k=(tEnd l k,180):=by
 rw [vcE,if_neg (by rw [h];decide),if_neg Oo,if_pos ⟨h3,h4⟩]
theorem qtd {l:LB} {k:Nat} (h:tVec l k=true) (h2:(voE (qi l k)).2=0) (h4:0<vNum l k→bitN ((qi l k).drop 8) (vNum l k-1)=1):vcE l k=(0,0):=by
 rw [vcE,if_neg (by rw [h];decide),if_neg Oo,if_neg (fun g=>g.2 (h4 g.1))]
theorem qyv {l:LB} {k:Nat} (h:¬ (vN (qi l k)=vNum l k∧vM (qi l k)=vNum l (k-1))):tVec l k=false:=by
 rw [Bool.eq_false_iff];intro h1;simp only [tVec,Bool.and_eq_true,decide_eq_true_eq] at h1;exact h ⟨h1.1.2,h1.2⟩
def tX (l:LB) (k i:Nat):Nat:=valB (qj l k) (i*tw l k) (tw l k)
def nmF (l:LB) (k i:Nat):Nat × Nat:=
 if (k≠0∧tX l k i=0)∨4194304<tX l k i then (tvAt l k+1,180)
 else if 0<i∧(k=0∨bitN ((qi l k).drop 8) (i-1)≠1)∧tX l k i≤tX l k (i-1) then (tvAt l k+1,160) else (0,0)
noncomputable def lvE (l:LB) (k:Nat):Nat × Nat:=
 if opE (qj l k) (vNum l k) (tw l k)≠0 then (tEnd l k-1,12) else if wMx (unpN (qj l k) (vNum l k) (tw l k)) (vNum l k)≠tw l k then (tvAt l k,14)
 else if k≠0∧(vcE l k).2≠0 then vcE l k else errF (nmF l k) (vNum l k)
noncomputable def toE (l:LB):Nat × Nat:=if (tE l).2≠0 then tE l else errF (lvE l) 4
section
variable {l:LB} {k:Nat}
theorem qqg (h:opE (qj l k) (vNum l k) (tw l k)≠0):lvE l k=(tEnd l k-1,12):=by rw [lvE,if_pos h]
theorem qjq (h:opE (qj l k) (vNum l k) (tw l k)=0) (h2:wMx (unpN (qj l k) (vNum l k) (tw l k)) (vNum l k)≠tw l k):lvE l k=(tvAt l k,14):=by
 rw [lvE,if_neg Oo,if_pos h2]
theorem qjp (h:opE (qj l k) (vNum l k) (tw l k)=0) (h2:wMx (unpN (qj l k) (vNum l k) (tw l k)) (vNum l k)=tw l k) (h3:k≠0) (h4:(vcE l k).2≠0):lvE l k=vcE l k:=by
 rw [lvE,if_neg Oo,if_neg Oo,if_pos ⟨h3,h4⟩]
theorem qqf (h:opE (qj l k) (vNum l k) (tw l k)=0) (h2:wMx (unpN (qj l k) (vNum l k) (tw l k)) (vNum l k)=tw l k) (h3:k=0∨(vcE l k).2=0):lvE l k=errF (nmF l k) (vNum l k):=by
 rw [lvE,if_neg Oo,if_neg Oo,if_neg Oo]
theorem qli (h:opE (qj l k) (vNum l k) (tw l k)=0) (h2:wMx (unpN (qj l k) (vNum l k) (tw l k)) (vNum l k)=tw l k) (h3:k=0∨(vcE l k).2=0) {i a e:Nat}
  (h4:∀ j,j<i→(nmF l k j).2=0) (h5:i<vNum l k) (h6:nmF l k i=(a,e)) (h7:e≠0):lvE l k=(a,e):=by rw [qqf h h2 h3];exact qmh h4 h5 h6 h7
theorem qxi (h:opE (qj l k) (vNum l k) (tw l k)=0) (h2:wMx (unpN (qj l k) (vNum l k) (tw l k)) (vNum l k)=tw l k) (h3:k=0∨(vcE l k).2=0)
  (h4:∀ j,j<vNum l k→(nmF l k j).2=0):(lvE l k).2=0:=by rw [qqf h h2 h3];exact qaa h4
theorem q0o (h:(lvE l k).2=0):opE (qj l k) (vNum l k) (tw l k)=0∧wMx (unpN (qj l k) (vNum l k) (tw l k)) (vNum l k)=tw l k∧(k=0∨(vcE l k).2=0)∧∀ j,j<vNum l k→(nmF l k j).2=0:=by
 by_cases h1:opE (qj l k) (vNum l k) (tw l k)=0
 ·by_cases h2:wMx (unpN (qj l k) (vNum l k) (tw l k)) (vNum l k)=tw l k
  ·by_cases h3:k=0∨(vcE l k).2=0
   ·exact ⟨h1,h2,h3,qay (by rw [← qqf h1 h2 h3];exact h)⟩
   ·rw [qjp h1 h2 Oo Oo] at h;exact absurd h Oo
  ·rw [qjq h1 h2] at h;cases h
 ·rw [qqg h1] at h;cases h
theorem qm0 {i:Nat} (h:(k≠0∧tX l k i=0)∨4194304<tX l k i):nmF l k i=(tvAt l k+1,180):=by rw [nmF,if_pos h]
theorem qqh {i:Nat} (h:¬ ((k≠0∧tX l k i=0)∨4194304<tX l k i)) (h2:0<i∧(k=0∨bitN ((qi l k).drop 8) (i-1)≠1)∧tX l k i≤tX l k (i-1)):nmF l k i=(tvAt l k+1,160):=by rw [nmF,if_neg h,if_pos h2]
theorem qh9 {i:Nat} (h:¬ ((k≠0∧tX l k i=0)∨4194304<tX l k i)) (h2:¬ (0<i∧(k=0∨bitN ((qi l k).drop 8) (i-1)≠1)∧tX l k i≤tX l k (i-1))):nmF l k i=(0,0):=by rw [nmF,if_neg h,if_neg h2]
theorem qc7 {i:Nat} (h:∀ j,j<i→(nmF l k j).2=0) (h2:nmF l k i=(0,0)):∀ j,j<i+1→(nmF l k j).2=0:=fun j hj=>by
 by_cases e:j=i
 ·subst e;rw [h2]
 ·exact h j Oo
end
theorem q1k {l:LB} (h:(tE l).2≠0):toE l=tE l:=by rw [toE,if_pos h]
theorem q5w {l:LB} (h:(tE l).2=0) {k:Nat} (h2:∀ j,j<k→(lvE l j).2=0) (h3:k<4) (h4:(lvE l k).2≠0):toE l=lvE l k:=by
 rw [toE,if_neg Oo];exact qar h2 h3 h4
theorem q2h {l:LB} (h:(tE l).2=0) (h2:∀ k,k<4→(lvE l k).2=0):(toE l).2=0:=by
 rw [toE,if_neg Oo];exact qaa h2
theorem qs5 {l:LB} (h:(toE l).2=0):(tE l).2=0∧∀ k,k<4→(lvE l k).2=0:=by
 by_cases h1:(tE l).2=0
 ·rw [toE,if_neg Oo] at h;exact ⟨h1,qay h⟩
 ·rw [q1k h1] at h;exact absurd h h1
def comL:LB→LB→Nat
 | x::a,y::b=>if x=y then comL a b+1 else 0
 | _,_=>0
theorem qn4:∀ a b:LB,comL a b=comL b a
 | [],[]=>rfl
 | [],_::_=>rfl
 | _::_,[]=>rfl
 | x::a,y::b=>by
  by_cases h:x=y
  ·rw [comL,comL,if_pos h,if_pos h.symm,qn4 a b]
  ·rw [comL,comL,if_neg h,if_neg (fun e=>h e.symm)]
theorem qi9:∀ {i:Nat} {a b:LB},(∀ j,j<i→a[j]?=b[j]?)→i≤a.length→i≤b.length→(i<a.length→i<b.length→a[i]?≠b[i]?)→comL a b=i
 | 0,[],_,_,_,_,_=>by cases ‹LB›<;>rfl
 | 0,_::_,[],_,_,_,_=>rfl
 | 0,x::a,y::b,_,_,_,h=>by
  have:=h Js Js;rw [comL,if_neg (fun e=>this (by rw [e];rfl))]
 | i+1,[],_,_,h,_,_=>by simp at h
 | i+1,_::_,[],_,_,h,_=>by simp at h
 | i+1,x::a,y::b,h1,h2,h3,h4=>by
  have h0:=h1 0 Oo;simp only [List.getElem?_cons_zero,Option.some.injEq] at h0;have ih:=qi9 (i:=i) (a:=a) (b:=b) (fun j hj=>by have:=h1 (j+1) Oo;simpa using this) (by simpa using h2) (by simpa using h3) (fun g1 g2=>by have:=h4 (by simpa using g1) (by simpa using g2);simpa using this);rw [comL,if_pos h0,ih]
theorem qbv {s:ByteArray} {i:Nat} (h:i<s.size):s.data.toList[i]?=some (gb s i):=by
 have hl:s.data.toList.length=s.size:=rfl;rw [gb,List.getD_eq_getElem?_getD,zge Oo];rfl
def leL (a b:LB):Bool:=slt ⟨a.toArray⟩ ⟨b.toArray⟩||seq ⟨a.toArray⟩ ⟨b.toArray⟩
def dSt (m:LB):Nat→LB × Nat
 | 0=>([],0)
 | i+1=>((entG ((qe m).drop (dSt m i).2) (decide (i%16=0)) (dSt m i).1).1,(dSt m i).2+(entG ((qe m).drop (dSt m i).2) (decide (i%16=0)) (dSt m i).1).2.1)
def dnF (m:LB) (i:Nat):Nat × Nat:=
 if i%16=0∧qy m (i/16)≠(dSt m i).2 then (qf m+(dSt m i).2,161)
 else if (entG ((qe m).drop (dSt m i).2) (decide (i%16=0)) (dSt m i).1).2.2≠0 then (qf m+(dSt m i).2,(entG ((qe m).drop (dSt m i).2) (decide (i%16=0)) (dSt m i).1).2.2)
 else if 0<i∧leL (dSt m (i+1)).1 (dSt m i).1=true then (qf m+(dSt m i).2,160)
 else if i%16≠0∧(numL ((qe m).drop (dSt m i).2)).1≠comL (dSt m (i+1)).1 (dSt m i).1 then (qf m+(dSt m i).2,161) else (0,0)
noncomputable def doE (m:LB):Nat × Nat:=
 if (dE m).2≠0 then dE m else if opE (qt m) (upN (dN m) 16) (dW m)≠0 then (qf m-1,12)
 else if (errF (dnF m) (dN m)).2≠0 then errF (dnF m) (dN m) else if (dSt m (dN m)).2<(qe m).length then (qf m+(dSt m (dN m)).2,13) else (0,0)
section
variable {m last:LB} {i p:Nat} (hd:dSt m i=(last,p))
include hd
theorem qdu {first:Bool} (hf:first=decide (i%16=0)):dSt m (i+1)=((entG ((qe m).drop p) first last).1,p+(entG ((qe m).drop p) first last).2.1):=by rw [dSt,hd,hf]
theorem qf3 (h1:i%16=0) (h2:qy m (i/16)≠p):dnF m i=(qf m+p,161):=by rw [dnF,hd,if_pos ⟨h1,h2⟩]
theorem qld {first:Bool} (hf:first=decide (i%16=0)) (h1:i%16=0→qy m (i/16)=p) (h2:(entG ((qe m).drop p) first last).2.2≠0):dnF m i=(qf m+p,(entG ((qe m).drop p) first last).2.2):=by
 subst hf;rw [dnF,hd,if_neg (fun h=>h.2 (h1 h.1)),if_pos h2]
theorem qoa {first:Bool} (hf:first=decide (i%16=0)) (h1:i%16=0→qy m (i/16)=p) (h2:(entG ((qe m).drop p) first last).2.2=0) (h3:0<i) (h4:leL (entG ((qe m).drop p) first last).1 last=true):dnF m i=(qf m+p,160):=by
 rw [dnF,qdu hd hf,hd,if_neg (fun h=>h.2 (h1 h.1)),← hf,if_neg (fun g=>g h2),if_pos ⟨h3,h4⟩]
theorem qr8 {first:Bool} (hf:first=decide (i%16=0)) (h1:i%16≠0) (h2:(entG ((qe m).drop p) first last).2.2=0) (h4:leL (entG ((qe m).drop p) first last).1 last=false)
  (h5:(numL ((qe m).drop p)).1≠comL (entG ((qe m).drop p) first last).1 last):dnF m i=(qf m+p,161):=by
 rw [dnF,qdu hd hf,hd,if_neg (fun h=>h1 h.1),← hf,if_neg (fun g=>g h2),if_neg (fun h=>by rw [h4] at h;cases h.2),if_pos ⟨h1,h5⟩]
theorem q42 {first:Bool} (hf:first=decide (i%16=0)) (h1:i%16=0→qy m (i/16)=p) (h2:(entG ((qe m).drop p) first last).2.2=0) (h4:0<i→leL (entG ((qe m).drop p) first last).1 last=false)
  (h5:i%16≠0→(numL ((qe m).drop p)).1=comL (entG ((qe m).drop p) first last).1 last):dnF m i=(0,0):=by
 rw [dnF,qdu hd hf,hd,if_neg (fun h=>h.2 (h1 h.1)),← hf,if_neg (fun g=>g h2),if_neg (fun h=>by rw [h4 h.1] at h;cases h.2),if_neg (fun h=>h.2 (h5 h.1))]
end
section
variable {m:LB}
theorem qit (h:(dE m).2≠0):doE m=dE m:=by rw [doE,if_pos h]
theorem qp2 (h:(dE m).2=0) (h2:opE (qt m) (upN (dN m) 16) (dW m)≠0):doE m=(qf m-1,12):=by rw [doE,if_neg Oo,if_pos h2]
theorem qf4 (h:(dE m).2=0) (h2:opE (qt m) (upN (dN m) 16) (dW m)=0) {i a e:Nat} (h3:∀ j,j<i→(dnF m j).2=0) (h4:i<dN m) (h5:dnF m i=(a,e)) (h6:e≠0):doE m=(a,e):=by
 have:=qmh h3 h4 h5 h6;rw [doE,if_neg Oo,if_neg Oo,this,if_pos h6]
theorem qmd (h:(dE m).2=0) (h2:opE (qt m) (upN (dN m) 16) (dW m)=0) (h3:∀ j,j<dN m→(dnF m j).2=0) (h4:(dSt m (dN m)).2<(qe m).length):doE m=(qf m+(dSt m (dN m)).2,13):=by
 have:=qaa h3;rw [doE,if_neg Oo,if_neg Oo,if_neg Oo,if_pos h4]
theorem q14 (h:(dE m).2=0) (h2:opE (qt m) (upN (dN m) 16) (dW m)=0) (h3:∀ j,j<dN m→(dnF m j).2=0) (h4:¬ (dSt m (dN m)).2<(qe m).length):doE m=(0,0):=by
 have:=qaa h3;rw [doE,if_neg Oo,if_neg Oo,if_neg Oo,if_neg h4]
theorem qe1 (h:(doE m).2=0):(dE m).2=0∧opE (qt m) (upN (dN m) 16) (dW m)=0∧(∀ j,j<dN m→(dnF m j).2=0)∧¬ (dSt m (dN m)).2<(qe m).length:=by
 by_cases h1:(dE m).2=0
 ·by_cases h2:opE (qt m) (upN (dN m) 16) (dW m)=0
  ·by_cases h3:(errF (dnF m) (dN m)).2=0
   ·by_cases h4:(dSt m (dN m)).2<(qe m).length
    ·rw [qmd h1 h2 (qay h3) h4] at h;cases h
    ·exact ⟨h1,h2,qay h3,h4⟩
   ·rw [doE,if_neg Oo,if_neg Oo,if_pos h3] at h;exact absurd h h3
  ·rw [qp2 h1 h2] at h;cases h
 ·rw [qit h1] at h;exact absurd h h1
end
def escL:LB→LB
 | []=>[]
 | c::r=>if c=0 then 0::1::escL r else c::escL r
theorem qbg (r:LB):escL (0::r)=0::1::escL r:=by rw [escL,if_pos rfl]
theorem qaw {c:UInt8} (r:LB) (h:c≠0):escL (c::r)=c::escL r:=by rw [escL,if_neg h]
theorem qsb (l:LB):(escL l).length≤2*l.length:=by
 induction l with
 | nil=>exact Nat.le_refl _
 | cons c r ih=>
  rw [escL]
  split<;>simp only [List.length_cons]<;>omega
theorem q25 (l:LB):l.length≤(escL l).length:=by
 induction l with
 | nil=>exact Nat.le_refl _
 | cons c r ih=>
  rw [escL]
  split<;>simp only [List.length_cons]<;>omega
section
variable {old new:LB}
theorem qe7 {s:LB} (ho:(old==new)=false) (h:Lib.index s old=-1):Lib.replaceAll s old new=s:=by
 unfold Lib.replaceAll Lib.replace;rw [ho];simp only [Bool.false_eq_true,if_false,Lib.replaceNum,Int.reduceNeg,Int.reduceLT,true_or,if_true,Lib.count_miss h,Lib.replaceK]
theorem qgn {s:LB} {i:Nat} (ho:(old==new)=false) (hn:old≠[]) (h:Lib.index s old=i):Lib.replaceAll s old new=s.take i++new++Lib.replaceAll (s.drop (i+old.length)) old new:=by
 have hc:=Lib.count_hit hn h;unfold Lib.replaceAll Lib.replace;rw [ho];simp only [Bool.false_eq_true,if_false,Lib.replaceNum,Int.reduceNeg,Int.reduceLT,true_or,if_true];rw [hc,Nat.add_comm 1,Lib.replaceK_hit _ _ _ _ i h]
theorem qx9 {s:LB} (ho:(old==new)=false) (hn:old≠[]) (h:old.isPrefixOf s=true):Lib.replaceAll s old new=new++Lib.replaceAll (s.drop old.length) old new:=by
 have hi:Lib.index s old=((0:Nat):Int):=Lib.index_first (Nat.zero_le _) (by simpa [Lib.occAt] using h) (fun j hj=>by omega);rw [qgn ho hn hi];simp
theorem qya (ho:(old==new)=false) (hn:old≠[]):Lib.replaceAll [] old new=[]:=qe7 ho (by cases old with|nil=>exact absurd rfl hn|cons _ _=>rfl)
theorem qsu {c:UInt8} {r:LB} (ho:(old==new)=false) (hn:old≠[]) (h:old.isPrefixOf (c::r)=false):Lib.replaceAll (c::r) old new=c::Lib.replaceAll r old new:=by
 have hix:Lib.index (c::r) old=if Lib.index r old==-1 then -1 else Lib.index r old+1:=by rw [Lib.index,h];simp
 by_cases hm:Lib.index r old=-1
 ·rw [qe7 ho hm,qe7 ho (by rw [hix,hm];rfl)]
 ·obtain ⟨i,hi⟩:∃ i:Nat,Lib.index r old=i:=⟨(Lib.index r old).toNat,by have:=Lib.index_ge r old;omega⟩
  have hi':Lib.index (c::r) old=((i+1:Nat):Int):=by
   rw [hix,hi];have:((i:Int)==-1)=false:=by rw [beq_eq_false_iff_ne];omega
   rw [this];simp
  rw [qgn ho hn hi,qgn ho hn hi'];have e:i+1+old.length=i+old.length+1:=by omega
  rw [e];simp
end
theorem q32 (l:LB):Lib.replaceAll l [0] [0,1]=escL l:=by
 induction l with
 | nil=>exact qya Od Js
 | cons c r ih=>
  by_cases h:c=0
  ·subst h;rw [qx9 Od Js (by rfl),qbg];simp [ih]
  ·rw [qsu Od Js (by simp [List.isPrefixOf,Ne.symm h]),qaw _ h,ih]
theorem qj8 (l:LB):Lib.replaceAll (escL l) [0,1] [0]=l:=by
 induction l with
 | nil=>exact qya Od Js
 | cons c r ih=>
  by_cases h:c=0
  ·subst h;rw [qbg,qx9 Od Js (by rfl)];simp [ih]
  ·rw [qaw _ h,qsu Od Js (by simp [List.isPrefixOf,Ne.symm h]),ih]
theorem qv7 {s sep:LB} {i:Nat} (hi:i≤s.length) (h:Lib.occAt s sep i=true) (hn:∀ j,j<i→Lib.occAt s sep j=false):Lib.cut s sep=(s.take i,s.drop (i+sep.length),true):=by
 rw [Lib.cut,Lib.index_first hi h hn,if_pos Oo];simp
theorem qxn {a b:LB} {sep:LB}:Lib.occAt (a++(sep++b)) sep a.length=true:=by
 unfold Lib.occAt;rw [List.drop_left];exact List.isPrefixOf_iff_prefix.2 (List.prefix_append _ _)
theorem q26 (l b:LB):∀ j,j<(escL l).length→Lib.occAt (escL l++([0,0]++b)) [0,0] j=false:=by
 induction l with
 | nil=>intro j hj;simp [escL] at hj
 | cons c r ih=>
  intro j hj
  by_cases h:c=0
  ·subst h;rw [qbg] at hj ⊢
   match j with
   | 0=>rfl
   | 1=>rfl
   | j+2=>exact ih j (by simpa using hj)
  ·rw [qaw _ h] at hj ⊢
   match j with
   | 0=>simp [Lib.occAt,List.isPrefixOf,Ne.symm h]
   | j+1=>exact ih j (by simpa using hj)
theorem qpy (l b:LB):Lib.cut (escL l++([0,0]++b)) [0,0]=(escL l,b,true):=by
 rw [qv7 (i:=(escL l).length) Js qxn (q26 l b)];have e:escL l++([0,0]++b)=(escL l++[0,0])++b:=by rw [List.append_assoc]
 rw [List.take_left,e];have e2:(escL l).length+([0,0]:LB).length=(escL l++[0,0]).length:=by simp
 rw [e2,List.drop_left]
theorem ql9 (a b:LB) (h:∀ c∈a,c≠0):Lib.cut (a++([0]++b)) [0]=(a,b,true):=by
 rw [qv7 (i:=a.length) Js qxn (fun j hj=>by
  unfold Lib.occAt;rw [List.drop_append_of_le_length Oo,List.drop_eq_getElem_cons hj,List.cons_append,List.isPrefixOf,beq_eq_false_iff_ne.2 (Ne.symm (h _ (List.getElem_mem hj)))];rfl)]
 have e:a++([0]++b)=(a++[0])++b:=by rw [List.append_assoc]
 rw [List.take_left,e];have e2:a.length+([0]:LB).length=(a++[0]).length:=by simp
 rw [e2,List.drop_left]
def qa5 (t:TM):LB:=if t.kind=3 then escL t.text.data.toList++([0,0]++(t.type.data.toList++([0]++t.lang.data.toList))) else t.text.data.toList
structure ReadsAs (kind:Int) (s:LB) (t:TM):Prop where
 kind:t.kind=kind
 ok:qbf t=0
 entry:qa5 t=s
theorem qw3 {s:ByteArray} (h:iriE s=0):∀ c∈s.data.toList,c≠0:=by
 rintro c hc rfl;have hr:refE s=0:=by
  by_cases h1:refE s=0
  ·exact h1
  ·rw [iriE,if_pos h1] at h;exact h
 unfold refE at hr
 split at hr
 ·cases hr
 split at hr
 ·cases hr
 split at hr
 ·cases hr
 rename_i h3
 exact h3 (List.any_eq_true.2 ⟨0,hc,by simp [barB]⟩)
theorem ReadsAs.plain {kind:Int} {s:LB} {t:TM} (h:ReadsAs kind s t) (hk:kind≠3):t.text.data.toList=s∧t.type=⟨#[]⟩∧t.lang=⟨#[]⟩:=by
 have hk':t.kind≠3:=by rw [h.kind];exact hk
 have h1:=h.ok;have h2:=h.entry;rw [qa5,if_neg hk'] at h2;rw [qbf] at h1
 split at h1
 ·split at h1
  ·cases h1
  ·rename_i h3
   refine ⟨h2,?_,?_⟩
   ·have:¬ seq t.type ⟨#[]⟩=false:=fun e=>h3 (.inl e)
    exact qx.1 (by simpa using this)
   ·have:¬ seq t.lang ⟨#[]⟩=false:=fun e=>h3 (.inr e)
    exact qx.1 (by simpa using this)
 ·cases h1
theorem ReadsAs.lit {s:LB} {t:TM} (h:ReadsAs 3 s t):s=escL t.text.data.toList++([0,0]++(t.type.data.toList++([0]++t.lang.data.toList)))∧∀ c∈t.type.data.toList,c≠0:=by
 have h1:=h.ok;have h2:=h.entry;rw [qa5,if_pos h.kind] at h2;refine ⟨h2.symm,qw3 ?_⟩;rw [qbf,if_neg (by rw [h.kind];decide),if_pos h.kind,litE] at h1
 split at h1
 ·cases h1
 split at h1
 ·cases h1
 split at h1
 ·rename_i h3;exact absurd h1 h3
 ·rename_i h3;omega
theorem qz2 {a b:LB} (h:escL a=escL b):a=b:=by
 rw [← qj8 a,← qj8 b,h]
theorem qb6 {a b:ByteArray} (h:a.data.toList=b.data.toList):a=b:=by
 cases a;cases b;simp only [ByteArray.mk.injEq];exact Array.toList_inj.1 h
theorem ReadsAs.unique {kind:Int} {s:LB} {t u:TM} (h:ReadsAs kind s t) (g:ReadsAs kind s u):t=u:=by
 obtain ⟨tk,tt,ty,tl⟩:=t;obtain ⟨uk,ut,uy,ul⟩:=u;have e1:tk=uk:=h.kind.trans g.kind.symm;subst e1
 by_cases hk:kind=3
 ·subst hk;obtain ⟨h1,h2⟩:=h.lit;obtain ⟨g1,g2⟩:=g.lit;dsimp only at h1 h2 g1 g2;have hc:=qpy tt.data.toList (ty.data.toList++([0]++tl.data.toList));have gc:=qpy ut.data.toList (uy.data.toList++([0]++ul.data.toList));rw [← h1,g1,gc] at hc;simp only [Prod.mk.injEq,and_true] at hc;obtain ⟨q1,q2⟩:=hc;have hz:=ql9 ty.data.toList tl.data.toList h2;rw [← q2,ql9 uy.data.toList ul.data.toList g2] at hz;simp only [Prod.mk.injEq,and_true] at hz;rw [qb6 (qz2 q1.symm),qb6 hz.1.symm,qb6 hz.2.symm]
 ·obtain ⟨h1,h2,h3⟩:=h.plain hk;obtain ⟨g1,g2,g3⟩:=g.plain hk;dsimp only at h1 h2 h3 g1 g2 g3;rw [qb6 (h1.trans g1.symm),h2,h3,g2,g3]
open Classical in
noncomputable def qhp (kind:Int) (s:LB):Option TM:=if h:∃ t,ReadsAs kind s t then some h.choose else none
theorem qlr {kind:Int} {s:LB} {t:TM} (h:ReadsAs kind s t):qhp kind s=some t:=by
 have hx:∃ t,ReadsAs kind s t:=⟨t,h⟩
 rw [qhp,dif_pos hx,ReadsAs.unique hx.choose_spec h]
theorem quv {kind:Int} {s:LB} (h:∀ t,¬ ReadsAs kind s t):qhp kind s=none:=by
 rw [qhp,dif_neg (fun ⟨t,ht⟩=>h t ht)]
theorem qqt {kind:Int} {s:LB} {t:TM} (h:qhp kind s=some t):ReadsAs kind s t:=by
 unfold qhp at h
 split at h
 ·rename_i hx
  cases h;exact hx.choose_spec
 ·cases h
theorem ReadsAs.size {kind:Int} {s:LB} {t:TM} (h:ReadsAs kind s t):t.text.size≤s.length∧t.type.size≤s.length∧t.lang.size≤s.length:=by
 by_cases hk:kind=3
 ·subst hk;obtain ⟨h1,_⟩:=h.lit;have:=q25 t.text.data.toList;have e1:t.text.data.toList.length=t.text.size:=rfl;have e2:t.type.data.toList.length=t.type.size:=rfl;have e3:t.lang.data.toList.length=t.lang.size:=rfl;rw [h1];simp only [zla,List.length_cons,List.length_nil];omega
 ·obtain ⟨h1,h2,h3⟩:=h.plain hk;rw [← h1,h2,h3];exact ⟨Nat.le_refl _,Nat.zero_le _,Nat.zero_le _⟩
theorem q03 {kind:Int} {s:LB} {t:TM} (h:qhp kind s=some t) (hs:s.length≤262144) (hk:InR .i64 kind):TermOk t:=by
 have hr:=qqt h;obtain ⟨h1,h2,h3⟩:=hr.size;exact ⟨by rw [hr.kind];exact hk,by omega,by omega,by omega⟩
noncomputable def veF (l:LB) (k:Nat):Nat × Nat:=if (doE (qq l k)).2=0 then (0,0) else (qk l k+(doE (qq l k)).1,(doE (qq l k)).2)
def vrB (l:LB) (k j:Nat):Prop:=∃ s,dGet (qq l k) j=some s∧∀ t,¬ ReadsAs ((k+1:Nat):Int) s t
open Classical in
noncomputable def vrF (l:LB) (k:Nat):Nat × Nat:=if ∃ j,j<dN (qq l k)∧vrB l k j then (qk l k,170) else (0,0)
noncomputable def vwE (l:LB):Nat × Nat:=if (sE l).2≠0 then sE l else if (errF (veF l) 3).2≠0 then errF (veF l) 3 else errF (vrF l) 3
section
variable {l:LB}
theorem qnw {k:Nat} (h:(doE (qq l k)).2=0):(veF l k).2=0:=by rw [veF,if_pos h]
theorem q4p {k j:Nat} (hj:j<dN (qq l k)) (h:vrB l k j):vrF l k=(qk l k,170):=by rw [vrF,if_pos ⟨j,hj,h⟩]
theorem q2n {k:Nat} (h:∀ j,j<dN (qq l k)→¬ vrB l k j):(vrF l k).2=0:=by rw [vrF,if_neg (fun ⟨j,h1,h2⟩=>h j h1 h2)]
theorem q56 (h:(sE l).2≠0):vwE l=sE l:=by rw [vwE,if_pos h]
theorem q6r (h:(sE l).2=0) {k:Nat} (h2:∀ j,j<k→(doE (qq l j)).2=0) (hk:k<3) (h3:(doE (qq l k)).2≠0):vwE l=(qk l k+(doE (qq l k)).1,(doE (qq l k)).2):=by
 have e:veF l k=(qk l k+(doE (qq l k)).1,(doE (qq l k)).2):=by rw [veF,if_neg h3]
 have:=qmh (f:=veF l) (fun j hj=>qnw (h2 j hj)) hk e h3;rw [vwE,if_neg Oo,this,if_pos h3]
theorem q55 (h:(sE l).2=0) (h2:∀ k,k<3→(doE (qq l k)).2=0) {k:Nat} (h3:∀ j,j<k→(vrF l j).2=0) (hk:k<3) {j:Nat} (hj:j<dN (qq l k)) (hb:vrB l k j):vwE l=(qk l k,170):=by
 have:=qaa (f:=veF l) (n:=3) fun j hj=>qnw (h2 j hj)
 rw [vwE,if_neg Oo,if_neg Oo];exact qmh h3 hk (q4p hj hb) Od
theorem q2q (h:(sE l).2=0) (h2:∀ k,k<3→(doE (qq l k)).2=0) (h3:∀ k,k<3→(vrF l k).2=0):(vwE l).2=0:=by
 have:=qaa (f:=veF l) (n:=3) fun j hj=>qnw (h2 j hj)
 rw [vwE,if_neg Oo,if_neg Oo];exact qaa h3
theorem qtg (h:(vwE l).2=0):(sE l).2=0∧(∀ k,k<3→(doE (qq l k)).2=0)∧∀ k,k<3→(vrF l k).2=0:=by
 by_cases h1:(sE l).2=0
 ·by_cases h2:(errF (veF l) 3).2=0
  ·rw [vwE,if_neg Oo,if_neg Oo] at h;refine ⟨h1,fun k hk=>?_,qay h⟩;have:=qay h2 k hk;unfold veF at this
   split at this
   ·assumption
   ·exact absurd this Oa
  ·rw [vwE,if_neg Oo,if_pos h2] at h;exact absurd h h2
 ·rw [q56 h1] at h;exact absurd h h1
theorem q57 (h:(vwE l).2=0):(wE l).2=0:=by
 obtain ⟨h1,h2,_⟩:=qtg h;rw [wE,if_neg Oo];exact qaa fun m hm=>by rw [sdF,if_pos (qe1 (h2 m hm)).1]
end
theorem qje {y x y2:LB} (h:y=x++y2):escL y=escL x++escL y2:=by
 subst h
 induction x with
 | nil=>rfl
 | cons c x ih=>
  by_cases hc:c=0
  ·subst hc;rw [List.cons_append,qbg,qbg,ih];rfl
  ·rw [List.cons_append,qaw _ hc,qaw _ hc,ih];rfl
def ScanI (s:LB) (i:Nat) (x:LB):Prop:=∀ y r,s=escL y++([0,0]++r)→i=(escL x).length∧∃ y2,y=x++y2
theorem ScanI.start (s:LB):ScanI s 0 []:=fun y _ _=>⟨rfl,y,rfl⟩
theorem ScanI.at_ {s x y r:LB} {i:Nat} (h:ScanI s i x) (hs:s=escL y++([0,0]++r)):∃ y2,y=x++y2∧i=(escL x).length∧s.drop i=escL y2++([0,0]++r):=by
 obtain ⟨h1,y2,h2⟩:=h y r hs;refine ⟨y2,h2,h1,?_⟩;rw [hs,qje h2,h1,List.append_assoc,List.drop_left]
theorem qjc {s:LB} {i j:Nat} {t:LB} (h:s.drop i=t):s[i+j]?=t[j]?:=by rw [← h,List.getElem?_drop]
theorem ScanI.one {s x:LB} {i:Nat} {c:UInt8} (h:ScanI s i x) (hc:s[i]?=some c) (h0:c≠0):ScanI s (i+1) (x++[c]):=fun y r hs=>by
 obtain ⟨y2,h1,h2,h3⟩:=h.at_ hs;have hg:=qjc (j:=0) h3;rw [Nat.add_zero,hc] at hg;cases y2 with
 | nil=>simp [escL] at hg;exact absurd hg h0
 | cons d y3=>
  by_cases hd:d=0
  ·subst hd;rw [qbg] at hg;simp at hg;exact absurd hg h0
  ·rw [qaw _ hd] at hg;simp only [List.cons_append,List.getElem?_cons_zero,Option.some.injEq] at hg;subst hg;refine ⟨?_,y3,by rw [h1,List.append_assoc];rfl⟩;rw [qje rfl,qaw _ hd,zla,h2];rfl
theorem ScanI.two {s x:LB} {i:Nat} {d:UInt8} (h:ScanI s i x) (hc:s[i]?=some 0) (hd:s[i+1]?=some d) (h0:d≠0):ScanI s (i+2) (x++[0]):=fun y r hs=>by
 obtain ⟨y2,h1,h2,h3⟩:=h.at_ hs;have hg:=qjc (j:=0) h3;have hg1:=qjc (j:=1) h3;rw [Nat.add_zero,hc] at hg;rw [hd] at hg1;cases y2 with
 | nil=>simp [escL] at hg1;exact absurd hg1 h0
 | cons e y3=>
  by_cases he:e=0
  ·subst he;refine ⟨?_,y3,by rw [h1,List.append_assoc];rfl⟩;rw [qje rfl,qbg,zla,h2];rfl
  ·rw [qaw _ he] at hg;simp at hg;exact absurd hg.symm he
theorem ScanI.end_ {s x y r:LB} {i:Nat} (h:ScanI s i x) (hs:s=escL y++([0,0]++r)):i+1<s.length:=by
 obtain ⟨y2,h1,h2,h3⟩:=h.at_ hs;have:=congrArg List.length h3;rw [zld] at this;simp only [zla,List.length_cons,List.length_nil] at this;omega
theorem ScanI.stop {s x y r:LB} {i:Nat} (h:ScanI s i x) (hs:s=escL y++([0,0]++r)) (hc:s[i]?=some 0) (hd:s[i+1]?=some 0):y=x∧s.drop (i+2)=r:=by
 obtain ⟨y2,h1,h2,h3⟩:=h.at_ hs;have hg:=qjc (j:=0) h3;have hg1:=qjc (j:=1) h3;rw [Nat.add_zero,hc] at hg;rw [hd] at hg1;cases y2 with
 | nil=>
  refine ⟨by rw [h1,List.append_nil],?_⟩;rw [← List.drop_drop,h3];rfl
 | cons e y3=>
  by_cases he:e=0
  ·subst he;rw [qbg] at hg1;simp at hg1
  ·rw [qaw _ he] at hg;simp at hg;exact absurd hg.symm he
theorem qbx (s:ByteArray) (a b:Nat):(s.extract a b).data.toList=(s.data.toList.drop a).take (b-a):=by
 simp [ByteArray.data_extract]
theorem qzu (s sep:ByteArray) (w:World) (hM:MaxLenAt w) (hs:s.size≤4194304) (h1:1≤sep.size):Gv Tryz.prog 168 [.string s,.string sep] w fun r w'=>r=ii (Lib.countB s sep)∧w'=w:=by
 obtain ⟨m,hm⟩:=hM;exact qh5 Jk ((Tryz.strings_Count_any s sep m w Oo hm h1).mono fun e w' ⟨he,hw⟩=>⟨_,he,rfl,hw⟩)
theorem q0e (s sep:ByteArray) (w:World) (hM:MaxLenAt w) (hs:s.size≤4194304):Gv Tryz.prog 170 [.string s,.string sep] w fun r w'=>r=ii (Lib.indexB s sep)∧w'=w:=by
 obtain ⟨m,hm⟩:=hM;exact qh5 Jk ((Tryz.strings_Index s sep m w Oo hm).mono fun e w' ⟨he,hw⟩=>⟨_,he,rfl,hw⟩)
theorem q12 (s sep:ByteArray) (w:World) (hM:MaxLenAt w) (hs:s.size≤4194304):Gv Tryz.prog 86 [.string s,.string sep] w fun r w'=>
  r=.tuple #[.string ⟨(Lib.cut s.data.toList sep.data.toList).1.toArray⟩,.string ⟨(Lib.cut s.data.toList sep.data.toList).2.1.toArray⟩,.bool (Lib.cut s.data.toList sep.data.toList).2.2]∧Ext w w':=by
 obtain ⟨m,hm⟩:=hM;refine qh5 Jk ((Tryz.strings_Cut s sep m w Oo hm).mono fun e w' ⟨he,n,hw⟩=>⟨_,he,rfl,?_⟩);subst hw;exact ⟨rfl,rfl,rfl,Nat.le_refl _,fun _ _=>rfl⟩
theorem q3a (b n:Nat) (w0 w:World) (h:Mem w0 w [(b,.cells #[.pointer none,.slice none 0 0] 294)]) (hn:n≤281474976710656) :
  Gv Tryz.prog 169 [pp b,ii n] w fun r w'=>r=.tuple #[]∧Bld w0 w' b [] []:=by
 have ho:=h.own _ mh;refine qh5 Jk ((Tryz.Builder_Grow_fresh w0.heap.size b n w ho.1 ho.2 h.ext.size hn).mono fun e w' ⟨he,⟨h1,v,h2,h3,h4⟩,h5⟩=>⟨_,he,rfl,⟨_,v,.inr rfl,⟨⟨Below.trans h.ext h5,?_,by simp⟩,h3,?_⟩⟩⟩)
 ·intro x hx;simp only [List.mem_cons,List.not_mem_nil,or_false] at hx;subst hx;exact ⟨h1,h2⟩
 ·intro x hx;simp only [List.mem_cons,List.not_mem_nil,or_false] at hx;subst hx;exact h4
theorem qp5 (s:ByteArray):s.extract 0 s.size=s:=qb6 (by rw [qbx];simp;exact List.take_of_length_le znr)
theorem qqy (s old new:ByteArray) (w:World) (hM:MaxLenAt w) (hne:seq old new=false) (hs:s.size≤4194304) (ho:(old.size=1∧new.size=2)∨(old.size=2∧new.size=1)) :
  Gv Tryz.prog 134 [.string s,.string old,.string new,ii (-1)] w fun r w'=>r=.string ⟨(Lib.replaceAll s.data.toList old.data.toList new.data.toList).toArray⟩∧Ext w w':=by
 have h1:1≤old.size:=by omega
 have hoe:(old.data.toList==new.data.toList)=false:=by
  rw [beq_eq_false_iff_ne];intro e;have:old=new:=qb6 e;rw [qx.2 this] at hne;cases hne
 have hon:old.data.toList≠[]:=by
  intro e;have:old.data.toList.length=0:=by rw [e];rfl
  have h2:old.data.toList.length=old.size:=rfl;omega
 refine ze Tryz.func134 Tryz.ntmps134 ?_;rw [hne];refine zv ?_;refine zcv (qzu s old w hM hs h1) ?_;rintro v w' ⟨rfl,rfl⟩;(conv=>whnf);have hKo:=Lib.countB_mul_le old h1 s.size s znr;obtain ⟨K,eK⟩:∃ K,K=Lib.countB s old:=⟨_,rfl⟩
 rw [← eK] at hKo ⊢
 by_cases hK:K=0
 ·have hr:Lib.replaceAll s.data.toList old.data.toList new.data.toList=s.data.toList:=by
   rcases Lib.indexB_cases s old with hix|⟨i,hix,_⟩
   ·exact qe7 hoe hix
   ·have:=Lib.countB_hit s old i h1 hix;omega
  refine zv ?_;exact ⟨by rw [hr],xr⟩
 refine zv ?_;refine znm (Mem.nil w') fun b w1 hm=>zw ?_;have hK1:K≤s.size:=Nat.le_trans (Nat.le_mul_of_pos_right K h1) hKo;obtain ⟨d,hd,hd1,hd2⟩:∃ d:Int,(K:Int)*((new.size:Int)-(old.size:Int))=d∧-(K:Int)≤d∧d≤K:=by
  rcases ho with ⟨h1,h2⟩|⟨h1,h2⟩
  ·exact ⟨K,by rw [h1,h2];omega,by omega,by omega⟩
  ·exact ⟨-K,by rw [h1,h2];omega,by omega,by omega⟩
 refine Obl.mk ⟨by omega,by omega⟩ (zw ?_);rw [hd];refine Obl.mk ⟨by omega,by omega⟩ (zw ?_);refine Obl.mk ⟨by omega,by omega⟩ (zw ?_);obtain ⟨M,eM⟩:∃ M:Nat,(s.size:Int)+d=M:=⟨((s.size:Int)+d).toNat,by omega⟩
 rw [eM];refine zcv (q3a b M w' w1 hm Oo) ?_;rintro r w2 ⟨rfl,hB⟩;refine zu ?_;refine qr (fun x:Nat × Nat × LB=>[(0,.string s),(1,.string old),(2,.string new),(10,pp b),(11,ii x.2.1),(52,ii K),(53,ii x.1)])
  (fun x w''=>x.1≤K∧x.2.1≤s.size∧x.1+Lib.countB (s.extract x.2.1 s.size) old=K∧x.2.2++Lib.replaceAll (s.data.toList.drop x.2.1) old.data.toList new.data.toList=Lib.replaceAll s.data.toList old.data.toList new.data.toList∧x.2.2.length≤2*x.2.1∧Bld w' w'' b x.2.2 []) (fun x=>K-x.1) (0,0,[])
  ⟨rfl,rfl,rfl,rfl,rfl,rfl,rfl,trivial⟩ ⟨by simp,by simp,by rw [qp5,← eK];omega,by simp,by simp,hB⟩ ?_
 clear hB;rintro ⟨j,p,l⟩ w3 ρ' ⟨hj,hp,hc,hr,hl,hB⟩;dsimp only at hj hp hc hr hl hB ⊢;have hrl:(s.extract p s.size).data.toList=s.data.toList.drop p:=by
  rw [qbx,List.take_of_length_le];have:s.data.toList.length=s.size:=rfl;simp only [zld];omega
 obtain ⟨r,er⟩:∃ r,r=s.extract p s.size:=⟨_,rfl⟩
 have hrs:r.size=s.size-p:=by
  have e1:r.size=r.data.toList.length:=rfl;have e2:s.data.toList.length=s.size:=rfl;rw [e1,er,hrl,zld,e2]
 rw [← er] at hc hrl;(conv=>whnf);refine zC (fun _=>zw ?_) (fun _=>zw ?_)
 ·refine SliceS.at_ p s.size rfl rfl hp znr ?_;rw [← er];(conv=>whnf);refine zcv (q0e r old w3 (hM.ext hB.ext) Oo) ?_;rintro v w4 ⟨rfl,rfl⟩
  rcases Lib.indexB_cases r old with hix|⟨i,hix,hio⟩
  ·have:=Lib.countB_miss r old hix;omega
  rw [hix];have hhit:=Lib.countB_hit r old i h1 hix;have hrx:r.extract (i+old.size) r.size=s.extract (p+i+old.size) s.size:=by
   refine qb6 ?_;rw [qbx,qbx,hrl,List.drop_drop,show p+(i+old.size)=p+i+old.size by omega,show r.size-(i+old.size)=s.size-(p+i+old.size) by omega]
  rw [hrx] at hhit;have hrep:=qgn hoe hon (s:=s.data.toList.drop p) (i:=i) (by rw [← hrl];exact hix);refine zu ?_;refine SliceS.at_ p (p+i) rfl (by show _=_;omega) Oo Oo (zw ?_);refine zcv (qc2 b l (s.extract p (p+i)) w' w4 [] hB (fun x hx=>by cases hx) (by simp [ByteArray.size_extract];omega)) ?_;rintro v w5 ⟨rfl,hB⟩;have hwl:(s.extract p (p+i)).data.toList.length=i:=by
   have:s.data.toList.length=s.size:=rfl;rw [qbx,List.length_take,zld];omega
  (conv=>whnf);refine zcv (qc2 b (l++(s.extract p (p+i)).data.toList) new w' w5 [] hB (fun x hx=>by cases hx) (by rw [zla];omega)) ?_;rintro v w6 ⟨rfl,hB⟩;refine zu ?_;have hnl:new.data.toList.length=new.size:=rfl;refine ⟨(j+1,p+i+old.size,l++(s.extract p (p+i)).data.toList++new.data.toList),⟨rfl,rfl,rfl,rfl,by show ii _=ii _;congr 1,rfl,rfl,trivial⟩,⟨by simp only;omega,by simp only;omega,by simp only;omega,?_,by simp only [zla];omega,hB⟩,by simp only;omega⟩;rw [← hr,hrep,qbx,show p+i-p=i by omega,List.drop_drop,show p+(i+old.data.toList.length)=p+i+old.size from by show p+(i+old.size)=_;omega];simp [List.append_assoc]
 ·obtain rfl:j=K:=by omega
  have hix:Lib.indexB r old=-1:=by
   rcases Lib.indexB_cases r old with hix|⟨i,hix,hio⟩
   ·exact hix
   ·have:=Lib.countB_hit r old i h1 hix;omega
  have hrep:=qe7 hoe (s:=s.data.toList.drop p) (by rw [← hrl];exact hix);refine SliceS.at_ p s.size rfl rfl hp znr ?_;rw [← er];(conv=>whnf);refine zcv (qc2 b l r w' w3 [] hB (fun x hx=>by cases hx) Oo) ?_;rintro v w4 ⟨rfl,hB⟩;(conv=>whnf);refine zcv (qg2 b (l++r.data.toList) w' w4 [] hB) ?_;rintro v w5 ⟨rfl,he⟩;(conv=>whnf);exact ⟨by rw [← hr,hrep,hrl],he⟩
theorem qfh (s old new:ByteArray) (w:World) (hM:MaxLenAt w) (hne:seq old new=false) (hs:s.size≤4194304) (ho:(old.size=1∧new.size=2)∨(old.size=2∧new.size=1)) :
  Gv Tryz.prog 87 [.string s,.string old,.string new] w fun r w'=>r=.string ⟨(Lib.replaceAll s.data.toList old.data.toList new.data.toList).toArray⟩∧Ext w w':=by
 refine ze Tryz.func87 Tryz.ntmps87 ?_;refine zcv (qqy s old new w hM hne hs ho) ?_;rintro v w' ⟨rfl,he⟩;(conv=>whnf);exact ⟨rfl,he⟩
theorem qh0 (t:TM) (ht:TermOk t) (w:World) (hM:MaxLenAt w) (hT:CellsAt w 6 0 qbr) :
  Gv Tryz.prog 88 [qa4 t] w fun r w'=>r=(if qbf t=0 then .tuple #[.string ⟨(qa5 t).toArray⟩,ii 0] else .tuple #[.string ⟨#[]⟩,ii (qbf t)])∧Ext w w':=by
 refine ze Tryz.func88 Tryz.ntmps88 ?_;refine znm (Mem.nil w) fun tb w1 hm=>zw ?_;refine zl hm 0 ?_;refine zcv (qgv t ht w1 (hM.ext hm.ext) (hT.ext hm.ext)) ?_;rintro r w2 ⟨rfl,he2⟩;have hm:=hm.call he2;obtain ⟨e,ee⟩:∃ e,e=qbf t:=⟨_,rfl⟩
 rw [← ee];conv=>whnf
 (repeat' (first|refine zC (fun _=>zw ?_) (fun _=>zw ?_)|refine LoadV.mem (i:=0) Oa rfl rfl (zw ?_)))
 ·rw [if_neg Oo];exact ⟨rfl,hm.ext⟩
 ·have h1:qa5 t=t.text.data.toList:=by rw [qa5,if_neg Oa]
  rw [if_pos Oo,h1];exact ⟨rfl,hm.ext⟩
 rw [if_pos Oo];have hk3:t.kind=3:=by omega
 have htx:=ht.text;have hty:=ht.type;have htl:=ht.lang;obtain ⟨R,eR,hRl⟩:∃ R:ByteArray,R=⟨(Lib.replaceAll t.text.data.toList [0] [0,1]).toArray⟩∧R.data.toList=escL t.text.data.toList:=⟨_,rfl,q32 _⟩
 have hRs:R.size≤2*t.text.size:=by
  have h1:R.size=R.data.toList.length:=rfl;have h2:=qsb t.text.data.toList;rw [h1,hRl];exact h2
 have hz2:(⟨#[0,0]⟩:ByteArray).size=2:=rfl;have hz1:(⟨#[0]⟩:ByteArray).size=1:=rfl;refine DrawV.free Jk Jk (zw ?_);refine zd ?_;refine zf ?_ (by intro wd hd;(conv=>whnf);refine LoadV.mem (Mem.call (Mem.drew hm) hd) (i:=0) rfl rfl ?_;(conv=>whnf);exact ⟨xr,rfl⟩);refine zsd (.string R) (fun wd hd=>zw ?_) (zw ?_)
 ·refine zcv (qfh t.text ⟨#[0]⟩ ⟨#[0,1]⟩ wd (hM.ext (hm.drew.call hd).ext) rfl Oo (.inl ⟨rfl,rfl⟩)) ?_;rintro r w5 ⟨rfl,he⟩;exact ⟨he,by rw [eR]⟩
 apply zsd
 ·intro wd hd;(conv=>whnf);refine Obl.mk (by rw [hz2];omega) (zw ?_);exact ⟨xr,rfl⟩
 (conv=>whnf);refine zd ?_;refine zf ?_ (by intro wd hd;(conv=>whnf);refine LoadV.mem (Mem.call (Mem.drew hm) hd) (i:=0) rfl rfl ?_;(conv=>whnf);exact ⟨xr,rfl⟩);apply zsd
 ·intro wd hd;(conv=>whnf);refine Obl.mk (by simp only [ByteArray.size_append];rw [hz2];omega) (zw ?_);exact ⟨xr,rfl⟩
 (conv=>whnf);apply zsd
 ·intro wd hd;(conv=>whnf);refine Obl.mk (by simp only [ByteArray.size_append];rw [hz2,hz1];omega) (zw ?_);exact ⟨xr,rfl⟩
 (conv=>whnf);refine zd ?_;refine zf ?_ (by intro wd hd;(conv=>whnf);refine LoadV.mem (Mem.call (Mem.drew hm) hd) (i:=0) rfl rfl ?_;(conv=>whnf);exact ⟨xr,rfl⟩);apply zsd
 ·intro wd hd;(conv=>whnf);refine Obl.mk (by simp only [ByteArray.size_append];rw [hz2,hz1];omega) (zw ?_);exact ⟨xr,rfl⟩
 (conv=>whnf);refine zd ?_;refine zd ?_;intro w3 he3;(conv=>whnf);refine ⟨?_,(hm.drew.call he3).ext⟩;have:R++⟨#[0,0]⟩++t.type++⟨#[0]⟩++t.lang=⟨(qa5 t).toArray⟩:=qb6 (by simp [qa5,hk3,hRl,ByteArray.data_append]);rw [this]
noncomputable def qcn (kind:Int) (s:LB):Value:=
 match qhp kind s with
 | some t=>.tuple #[qa4 t,.int .i64 0]
 | none=>.tuple #[.agg #[.int .i64 0,.string ⟨#[]⟩,.string ⟨#[]⟩,.string ⟨#[]⟩],.int .i64 170]
theorem qd6 {kind:Int} {s:LB} {t:TM} (h:ReadsAs kind s t):qcn kind s=.tuple #[qa4 t,ii 0]:=by rw [qcn,qlr h]
theorem qbl {kind:Int} {s:LB} (h:∀ t,¬ ReadsAs kind s t):qcn kind s=.tuple #[.agg #[ii 0,.string ⟨#[]⟩,.string ⟨#[]⟩,.string ⟨#[]⟩],ii 170]:=by rw [qcn,quv h]
theorem qv8 (s sep:LB):(Lib.cut s sep).1.length≤s.length∧(Lib.cut s sep).2.1.length≤s.length:=by
 unfold Lib.cut
 split<;>simp<;>exact Nat.min_le_right _ _
theorem q33:∀ (l:LB),(Lib.replaceAll l [0,1] [0]).length≤l.length:=by
 intro l
 induction h:l.length using Nat.strongRecOn generalizing l with
 | _ n ih=>
  by_cases hm:Lib.index l [0,1]=-1
  ·rw [qe7 Od hm];omega
  ·obtain ⟨i,hi⟩:∃ i:Nat,Lib.index l [0,1]=i:=⟨(Lib.index l [0,1]).toNat,by have:=Lib.index_ge l [0,1];omega⟩
   have hroom:i+2≤l.length:=by
    rcases Lib.indexB_cases ⟨l.toArray⟩ ⟨#[0,1]⟩ with h1|⟨j,h1,h2⟩
    ·exact absurd h1 hm
    ·have h3:(Lib.index l [0,1])=j:=h1;have h4:j+2≤l.length:=h2;omega
   rw [qgn Od Js hi,show i+([0,1]:LB).length=i+2 from rfl];have:=ih (l.drop (i+2)).length (by rw [zld];omega) (l.drop (i+2)) rfl;simp only [zla,List.length_take,List.length_cons,List.length_nil,zld] at this ⊢;omega
theorem qpq (kind:Int) (hk:kind=1∨kind=2∨kind=3) (s:ByteArray) (hs:s.size≤262144) (w:World) (hM:MaxLenAt w) (hT:CellsAt w 6 0 qbr) :
  Gv Tryz.prog 46 [ii kind,.string s] w fun r w'=>r=qcn kind s.data.toList∧Ext w w':=by
 rcases hk with rfl|rfl|rfl
 all_goals
  refine ze Tryz.func46 Tryz.ntmps46 ?_;refine znm (Mem.nil w) fun r4 w1 hm=>zw ?_;refine znm hm fun tb w2 hm=>zw ?_;refine zS hm 0 fun w3 hm=>zu ?_
 ·obtain ⟨t,et⟩:∃ t:TM,t=⟨1,s,⟨#[]⟩,⟨#[]⟩⟩:=⟨_,rfl⟩
  have hkind:t.kind=1:=by rw [et]
  have ht:TermOk t:=by rw [et];exact ⟨(show InR .i64 1 from ⟨by decide,by decide⟩),by show s.size≤_;omega,(show (0:Nat)≤1048576 by decide),(show (0:Nat)≤1048576 by decide)⟩
  have hm:Mem w w3 [(tb,.cells #[ii t.kind,.string t.text,.string t.type,.string t.lang] 51),(r4,.cells #[ii 0,.string ⟨#[]⟩,.string ⟨#[]⟩,.string ⟨#[]⟩] 51)]:=by rw [et];exact hm
  have huniq:∀ u,ReadsAs 1 s.data.toList u→u=t:=fun u hu=>by
   obtain ⟨h1,h2,h3⟩:=hu.plain Od;have h4:=hu.kind;rw [et];obtain ⟨uk,ux,uy,ul⟩:=u;dsimp only at h1 h2 h3 h4;rw [h2,h3,h4,qb6 h1]
  clear et;refine zl hm 0 ?_;refine zcv (qh0 t ht _ (hM.ext hm.ext) (hT.ext hm.ext)) ?_;rintro r w5 ⟨rfl,he⟩;have hm:=hm.call he
  by_cases hE:qbf t=0
  ·rw [if_pos hE];cases hq:seq ⟨(qa5 t).toArray⟩ s
   ·have hv:qcn 1 s.data.toList=.tuple #[.agg #[ii 0,.string ⟨#[]⟩,.string ⟨#[]⟩,.string ⟨#[]⟩],ii 170]:=qbl fun u hu=>by
     have e:=huniq u hu;subst e;have:(⟨(qa5 u).toArray⟩:ByteArray)=s:=qb6 hu.entry;rw [qx.2 this] at hq;cases hq
    rw [hv];refine zu ?_;rw [hq];refine zu ?_;refine zS hm 1 fun w6 hm=>zw ?_;refine qa (R:=fun v w'=>v=.tuple #[.agg #[ii 0,.string ⟨#[]⟩,.string ⟨#[]⟩,.string ⟨#[]⟩],ii 170]∧Ext w w') (zw ?_);refine zl hm 1 ?_;exact ⟨rfl,hm.ext⟩
   ·have hr:ReadsAs 1 s.data.toList t:=⟨hkind,hE,congrArg (fun b:ByteArray=>b.data.toList) (qx.1 hq)⟩
    rw [qd6 hr];refine zu ?_;rw [hq];refine zu ?_;refine zl hm 0 ?_;refine zS hm 1 fun w6 hm=>zw ?_;refine qa (R:=fun v w'=>v=.tuple #[qa4 t,ii 0]∧Ext w w') (zw ?_);refine zl hm 1 ?_;exact ⟨rfl,hm.ext⟩
  ·rw [if_neg hE];have hv:qcn 1 s.data.toList=.tuple #[.agg #[ii 0,.string ⟨#[]⟩,.string ⟨#[]⟩,.string ⟨#[]⟩],ii 170]:=qbl fun u hu=>hE (huniq u hu ▸ hu.ok)
   rw [hv];refine zu ?_;refine zS hm 1 fun w6 hm=>zw ?_;refine qa (R:=fun v w'=>v=.tuple #[.agg #[ii 0,.string ⟨#[]⟩,.string ⟨#[]⟩,.string ⟨#[]⟩],ii 170]∧Ext w w') (zw ?_);refine zl hm 1 ?_;exact ⟨rfl,hm.ext⟩
 ·obtain ⟨t,et⟩:∃ t:TM,t=⟨2,s,⟨#[]⟩,⟨#[]⟩⟩:=⟨_,rfl⟩
  have hkind:t.kind=2:=by rw [et]
  have ht:TermOk t:=by rw [et];exact ⟨(show InR .i64 2 from ⟨by decide,by decide⟩),by show s.size≤_;omega,(show (0:Nat)≤1048576 by decide),(show (0:Nat)≤1048576 by decide)⟩
  have hm:Mem w w3 [(tb,.cells #[ii t.kind,.string t.text,.string t.type,.string t.lang] 51),(r4,.cells #[ii 0,.string ⟨#[]⟩,.string ⟨#[]⟩,.string ⟨#[]⟩] 51)]:=by rw [et];exact hm
  have huniq:∀ u,ReadsAs 2 s.data.toList u→u=t:=fun u hu=>by
   obtain ⟨h1,h2,h3⟩:=hu.plain Od;have h4:=hu.kind;rw [et];obtain ⟨uk,ux,uy,ul⟩:=u;dsimp only at h1 h2 h3 h4;rw [h2,h3,h4,qb6 h1]
  clear et;refine zl hm 0 ?_;refine zcv (qh0 t ht _ (hM.ext hm.ext) (hT.ext hm.ext)) ?_;rintro r w5 ⟨rfl,he⟩;have hm:=hm.call he
  by_cases hE:qbf t=0
  ·rw [if_pos hE];cases hq:seq ⟨(qa5 t).toArray⟩ s
   ·have hv:qcn 2 s.data.toList=.tuple #[.agg #[ii 0,.string ⟨#[]⟩,.string ⟨#[]⟩,.string ⟨#[]⟩],ii 170]:=qbl fun u hu=>by
     have e:=huniq u hu;subst e;have:(⟨(qa5 u).toArray⟩:ByteArray)=s:=qb6 hu.entry;rw [qx.2 this] at hq;cases hq
    rw [hv];refine zu ?_;rw [hq];refine zu ?_;refine zS hm 1 fun w6 hm=>zw ?_;refine qa (R:=fun v w'=>v=.tuple #[.agg #[ii 0,.string ⟨#[]⟩,.string ⟨#[]⟩,.string ⟨#[]⟩],ii 170]∧Ext w w') (zw ?_);refine zl hm 1 ?_;exact ⟨rfl,hm.ext⟩
   ·have hr:ReadsAs 2 s.data.toList t:=⟨hkind,hE,congrArg (fun b:ByteArray=>b.data.toList) (qx.1 hq)⟩
    rw [qd6 hr];refine zu ?_;rw [hq];refine zu ?_;refine zl hm 0 ?_;refine zS hm 1 fun w6 hm=>zw ?_;refine qa (R:=fun v w'=>v=.tuple #[qa4 t,ii 0]∧Ext w w') (zw ?_);refine zl hm 1 ?_;exact ⟨rfl,hm.ext⟩
  ·rw [if_neg hE];have hv:qcn 2 s.data.toList=.tuple #[.agg #[ii 0,.string ⟨#[]⟩,.string ⟨#[]⟩,.string ⟨#[]⟩],ii 170]:=qbl fun u hu=>hE (huniq u hu ▸ hu.ok)
   rw [hv];refine zu ?_;refine zS hm 1 fun w6 hm=>zw ?_;refine qa (R:=fun v w'=>v=.tuple #[.agg #[ii 0,.string ⟨#[]⟩,.string ⟨#[]⟩,.string ⟨#[]⟩],ii 170]∧Ext w w') (zw ?_);refine zl hm 1 ?_;exact ⟨rfl,hm.ext⟩
 ·have hcs:=fun w' hM'=>q12 s ⟨#[0,0]⟩ w' hM' Oo
  obtain ⟨tx,rs,ok,ec⟩:∃ tx rs ok,Lib.cut s.data.toList [0,0]=(tx,rs,ok):=⟨_,_,_,rfl⟩
  obtain ⟨ty,la,fi,ed⟩:∃ ty la fi,Lib.cut rs [0]=(ty,la,fi):=⟨_,_,_,rfl⟩
  have hls:s.data.toList.length=s.size:=rfl;have hl1:=qv8 s.data.toList [0,0];rw [ec] at hl1;dsimp only at hl1;have hl2:=qv8 rs [0];rw [ed] at hl2;dsimp only at hl2;refine zcv (hcs w3 (hM.ext hm.ext)) ?_;rintro r w4 ⟨rfl,he4⟩;have hm:=hm.call he4;have ec':Lib.cut s.data.toList (⟨#[0,0]⟩:ByteArray).data.toList=(tx,rs,ok):=ec;rw [ec'];(conv=>whnf);refine zcv (q12 ⟨rs.toArray⟩ ⟨#[0]⟩ w4 (hM.ext hm.ext) (by show rs.length≤_;omega)) ?_;rintro r w5 ⟨rfl,he5⟩;have hm:=hm.call he5;have ed':Lib.cut (⟨rs.toArray⟩:ByteArray).data.toList (⟨#[0]⟩:ByteArray).data.toList=(ty,la,fi):=ed;rw [ed'];have hgood:∀ u,ReadsAs 3 s.data.toList u→tx=escL u.text.data.toList∧ty=u.type.data.toList∧la=u.lang.data.toList∧ok=true∧fi=true:=fun u hu=>by
   obtain ⟨h1,h2⟩:=hu.lit;have h3:=qpy u.text.data.toList (u.type.data.toList++([0]++u.lang.data.toList));rw [← h1,ec] at h3;cases h3;have h4:=ql9 u.type.data.toList u.lang.data.toList h2;rw [ed] at h4;cases h4;exact ⟨rfl,rfl,rfl,rfl,rfl⟩
  by_cases hok:ok=true∧fi=true
  ·obtain ⟨rfl,rfl⟩:=hok;obtain ⟨t,et⟩:∃ t:TM,t=⟨3,⟨(Lib.replaceAll tx [0,1] [0]).toArray⟩,⟨ty.toArray⟩,⟨la.toArray⟩⟩:=⟨_,rfl⟩
   have hkind:t.kind=3:=by rw [et]
   have hrl:=q33 tx;have ht:TermOk t:=by
    rw [et];refine ⟨(show InR .i64 3 from ⟨by decide,by decide⟩),?_,?_,?_⟩
    ·show (Lib.replaceAll tx [0,1] [0]).length≤_;omega
    ·show ty.length≤_;omega
    ·show la.length≤_;omega
   have huniq:∀ u,ReadsAs 3 s.data.toList u→u=t:=fun u hu=>by
    obtain ⟨h1,h2,h3,_,_⟩:=hgood u hu;have h4:=hu.kind;rw [et];obtain ⟨uk,ux,uy,ul⟩:=u;dsimp only at h1 h2 h3 h4;rw [h4,h1,qj8,h2,h3]
   refine zu ?_;refine zcv (qfh ⟨tx.toArray⟩ ⟨#[0,1]⟩ ⟨#[0]⟩ w5 (hM.ext hm.ext) rfl (by show tx.length≤_;omega) (.inr ⟨rfl,rfl⟩)) ?_;rintro r w6 ⟨rfl,he6⟩;have hm:=hm.call he6;(conv=>whnf);refine StoreV.mem hm (i:=0) rfl (by first|(show 1<4;decide)|simp) rfl fun w7 hm=>zw ?_;refine StoreV.mem hm (i:=0) rfl (by first|(show 2<4;decide)|simp) rfl fun w8 hm=>zw ?_;refine StoreV.mem hm (i:=0) rfl (by first|(show 3<4;decide)|simp) rfl ?_;intro w9 hm;have hm:Mem w w9 [(tb,.cells #[ii t.kind,.string t.text,.string t.type,.string t.lang] 51),(r4,.cells #[ii 0,.string ⟨#[]⟩,.string ⟨#[]⟩,.string ⟨#[]⟩] 51)]:=by rw [et];exact hm
   clear et;(conv=>whnf);refine zl hm 0 ?_;refine zcv (qh0 t ht _ (hM.ext hm.ext) (hT.ext hm.ext)) ?_;rintro r w5 ⟨rfl,he⟩;have hm:=hm.call he
   by_cases hE:qbf t=0
   ·rw [if_pos hE];cases hq:seq ⟨(qa5 t).toArray⟩ s
    ·have hv:qcn 3 s.data.toList=.tuple #[.agg #[ii 0,.string ⟨#[]⟩,.string ⟨#[]⟩,.string ⟨#[]⟩],ii 170]:=qbl fun u hu=>by
      have e:=huniq u hu;subst e;have:(⟨(qa5 u).toArray⟩:ByteArray)=s:=qb6 hu.entry;rw [qx.2 this] at hq;cases hq
     rw [hv];refine zu ?_;rw [hq];refine zu ?_;refine zS hm 1 fun w6 hm=>zw ?_;refine qa (R:=fun v w'=>v=.tuple #[.agg #[ii 0,.string ⟨#[]⟩,.string ⟨#[]⟩,.string ⟨#[]⟩],ii 170]∧Ext w w') (zw ?_);refine zl hm 1 ?_;exact ⟨rfl,hm.ext⟩
    ·have hr:ReadsAs 3 s.data.toList t:=⟨hkind,hE,congrArg (fun b:ByteArray=>b.data.toList) (qx.1 hq)⟩
     rw [qd6 hr];refine zu ?_;rw [hq];refine zu ?_;refine zl hm 0 ?_;refine zS hm 1 fun w6 hm=>zw ?_;refine qa (R:=fun v w'=>v=.tuple #[qa4 t,ii 0]∧Ext w w') (zw ?_);refine zl hm 1 ?_;exact ⟨rfl,hm.ext⟩
   ·rw [if_neg hE];have hv:qcn 3 s.data.toList=.tuple #[.agg #[ii 0,.string ⟨#[]⟩,.string ⟨#[]⟩,.string ⟨#[]⟩],ii 170]:=qbl fun u hu=>hE (huniq u hu ▸ hu.ok)
    rw [hv];refine zu ?_;refine zS hm 1 fun w6 hm=>zw ?_;refine qa (R:=fun v w'=>v=.tuple #[.agg #[ii 0,.string ⟨#[]⟩,.string ⟨#[]⟩,.string ⟨#[]⟩],ii 170]∧Ext w w') (zw ?_);refine zl hm 1 ?_;exact ⟨rfl,hm.ext⟩
  ·have hv:qcn 3 s.data.toList=.tuple #[.agg #[ii 0,.string ⟨#[]⟩,.string ⟨#[]⟩,.string ⟨#[]⟩],ii 170]:=qbl fun u hu=>hok ⟨(hgood u hu).2.2.2.1,(hgood u hu).2.2.2.2⟩
   rw [hv];have hcase:ok=false∨(ok=true∧fi=false):=by
    cases ok
    ·exact .inl rfl
    ·cases fi
     ·exact .inr ⟨rfl,rfl⟩
     ·exact absurd ⟨rfl,rfl⟩ hok
   rcases hcase with rfl|⟨rfl,rfl⟩
   all_goals
    refine zu ?_;refine zS hm 1 fun w6 hm=>zw ?_;refine qa (R:=fun v w'=>v=.tuple #[.agg #[ii 0,.string ⟨#[]⟩,.string ⟨#[]⟩,.string ⟨#[]⟩],ii 170]∧Ext w w') (zw ?_);refine zl hm 1 ?_;exact ⟨rfl,hm.ext⟩
open Go.RowKit Go.Extern.Stop Go.Stop Go.Extern
theorem q4w (t:Value) (w:World) :
  Calls Tryz.prog 74 #[.nilIface,t] w fun e w'=>e=.returned (.bool false)∧w'=w:=by
 go_enter Tryz.func74,Tryz.ntmps74
 go_wp2
 go_ret
 exact ⟨rfl,rfl⟩
theorem qna (t:Addr) (w:World):(ReflectliteValue.unpack (.iface 180 (.pointer (some t)))).run Tryz.prog w
  = .ok (.agg #[.pointer (some ⟨7,180,none⟩),.pointer (some ⟨w.heap.size,0,none⟩),.int .u64 150]) (w.alloc (.cells #[.pointer (some t)] 180)):=by kernel_rfl
theorem qur (a:Addr) (w:World):(ReflectliteValue.methodAny (ReflectliteValue.valueError "reflectlite.Value.Type" 0) (fun t _ _ _=>ReflectliteType.toType t) #[.agg #[.pointer (some ⟨7,180,none⟩),.pointer (some a),.int .u64 150]]).run Tryz.prog w
  = .ok (.iface 279 (.agg #[.pointer (some ⟨7,180,none⟩)])) w:=by kernel_rfl
theorem qk1 (h:Value) (w:World):(Go.method 484 279 (.agg #[h]) "Kind").run Tryz.prog w=.ok (281,h) w:=by kernel_rfl
theorem quq (w:World):((ReflectliteType.abiMethod fun t=>(fun a:Nat=>Value.int IntKind.u8 (a:Int)) <$> Rtype.kind t) #[.pointer (some ⟨7,180,none⟩)]).run Tryz.prog w=.ok (.int .u8 22) w:=by kernel_rfl
theorem qup (w:World):((ReflectliteType.abiMethod fun t=>(fun a:Nat=>Value.int IntKind.u8 (a:Int)) <$> Rtype.kind t) #[.pointer (some ⟨7,98,none⟩)]).run Tryz.prog w=.ok (.int .u8 22) w:=by kernel_rfl
theorem rlm (z:Sem Value) (f:TypeId→Addr→Nat→Nat→Sem Value) (v:Value) :
  ReflectliteValue.method z f #[v]=(do match ← ReflectliteValue.parts v with|none=>z|some (t,a,fl)=>f t a fl (fl%32)):=rfl
theorem qj4 (a:Addr) (w:World):(ReflectliteValue.parts (.agg #[.pointer (some ⟨7,180,none⟩),.pointer (some a),.int .u64 150])).run Tryz.prog w=.ok (some (180,a,150)) w:=by kernel_rfl
theorem qqq (a p:Addr) (W:World) (ha:W.cell? a=some (.pointer (some p))) :
  (ReflectliteValue.method (ReflectliteValue.valueError "reflectlite.Value.IsNil" 0) ReflectliteValue.isNil #[.agg #[.pointer (some ⟨7,180,none⟩),.pointer (some a),.int .u64 150]]).run Tryz.prog W=.ok (.bool false) W:=by
 rw [rlm];simp only [Sem.run_bind,qj4,Result.andThen];simp [ReflectliteValue.isNil,loadVar,isAgg,underlying,Tryz.underlying180,ha,Result.andThen]
theorem qk0 (h:Value) (w:World):(Go.method 484 279 (.agg #[h]) "Elem").run Tryz.prog w=.ok (298,.agg #[h]) w:=by kernel_rfl
theorem qfd (h:Value) (w:World):(Go.method 484 279 (.agg #[h]) "Implements").run Tryz.prog w=.ok (299,.agg #[h]) w:=by kernel_rfl
theorem qed (h:Value) (w:World):(Go.method 484 279 (.agg #[h]) "AssignableTo").run Tryz.prog w=.ok (296,.agg #[h]) w:=by kernel_rfl
theorem qun (w:World):(ReflectliteType.method ReflectliteType.elem #[.agg #[.pointer (some ⟨7,180,none⟩)]]).run Tryz.prog w=.ok (.iface 279 (.agg #[.pointer (some ⟨7,98,none⟩)])) w:=by kernel_rfl
theorem qik (w:World):(ReflectliteType.relation "Implements" ReflectliteType.implements_ #[.agg #[.pointer (some ⟨7,98,none⟩)],.iface 279 (.agg #[.pointer (some ⟨7,26,none⟩)])]).run Tryz.prog w=.ok (.bool true) w:=by kernel_rfl
theorem qox (v:Value) (w:World):(ReflectliteType.typeOf #[.iface 98 v]).run Tryz.prog w=.ok (.iface 279 (.agg #[.pointer (some ⟨7,98,none⟩)])) w:=by kernel_rfl
theorem qij (w:World):(ReflectliteType.relation "AssignableTo" ReflectliteType.assignableTo #[.agg #[.pointer (some ⟨7,98,none⟩)],.iface 279 (.agg #[.pointer (some ⟨7,98,none⟩)])]).run Tryz.prog w=.ok (.bool true) w:=by kernel_rfl
theorem qm9 (e:Addr) (w:World):(ReflectliteValue.unpack (.iface 98 (.pointer (some e)))).run Tryz.prog w
  = .ok (.agg #[.pointer (some ⟨7,98,none⟩),.pointer (some ⟨w.heap.size,0,none⟩),.int .u64 150]) (w.alloc (.cells #[.pointer (some e)] 98)):=by kernel_rfl
theorem qov (w:World):(Rtype.elem? 180).run Tryz.prog w=.ok (some 98) w:=by kernel_rfl
theorem q01 (p:Addr) (w:World):(ReflectliteValue.mk 98 p ReflectliteValue.flagAddr).run Tryz.prog w=.ok (.agg #[.pointer (some ⟨7,98,none⟩),.pointer (some p),.int .u64 406]) w:=by kernel_rfl
theorem qqp (a p:Addr) (W:World) (ha:W.cell? a=some (.pointer (some p))) :
  (ReflectliteValue.method (ReflectliteValue.valueError "reflectlite.Value.Elem" 0) ReflectliteValue.elem #[.agg #[.pointer (some ⟨7,180,none⟩),.pointer (some a),.int .u64 150]]).run Tryz.prog W
   = .ok (.agg #[.pointer (some ⟨7,98,none⟩),.pointer (some p),.int .u64 406]) W:=by
 rw [rlm];simp only [Sem.run_bind,qj4,Result.andThen];simp [ReflectliteValue.elem,loadVar,isAgg,underlying,Tryz.underlying180,ha,Result.andThen,qov,q01]
theorem rls (v x:Value):ReflectliteValue.set #[v,x]=(do
  let (some (dst,a,fl),some (src,b,_)):=(← ReflectliteValue.parts v,← ReflectliteValue.parts x)
   | unsupported (.noEntry "extern/(internal/reflectlite.Value).Set.zeroValue")
  if fl/ReflectliteValue.flagAddr%2==0 then unsupported (.noEntry "extern/(internal/reflectlite.Value).Set.unaddressable")
  let val ← loadVar src b
  if ← Rtype.directlyAssignable dst src then storeVar dst a val
  else if ← Rtype.implements dst src then
   if (← Rtype.kind src)==20 then
    match val with
    | .nilIface=>unsupported (.noEntry "extern/reflectlite: a nil value of one interface type handed on as a value of another")
    | _=>storeVar dst a val
   else storeVar dst a (.iface src val)
  else panicString ("reflectlite.Set: value of type "++(← Rtype.spelt src)++ " is not assignable to type "++(← Rtype.spelt dst))
  pure (.tuple #[])):=rfl
theorem qow (a:Addr) (w:World):(ReflectliteValue.parts (.agg #[.pointer (some ⟨7,98,none⟩),.pointer (some a),.int .u64 406])).run Tryz.prog w=.ok (some (98,a,406)) w:=by kernel_rfl
theorem qqr (a:Addr) (w:World):(ReflectliteValue.parts (.agg #[.pointer (some ⟨7,98,none⟩),.pointer (some a),.int .u64 150])).run Tryz.prog w=.ok (some (98,a,150)) w:=by kernel_rfl
theorem qou (w:World):(Rtype.directlyAssignable 98 98).run Tryz.prog w=.ok true w:=by kernel_rfl
theorem qx7 (ta b e:Addr) (old:Value) (W:World) (hb:W.cell? b=some (.pointer (some e))) (ht:W.cell? ta=some old) (hf:W.frozen? ta=false) :
  (ReflectliteValue.set #[.agg #[.pointer (some ⟨7,98,none⟩),.pointer (some ta),.int .u64 406],.agg #[.pointer (some ⟨7,98,none⟩),.pointer (some b),.int .u64 150]]).run Tryz.prog W
   = .ok (.tuple #[]) (W.setCell ta (.pointer (some e))):=by
 rw [rls];simp only [Sem.run_bind,qow,qqr,Result.andThen];simp [ReflectliteValue.flagAddr,loadVar,isAgg,underlying,Tryz.underlying98,hb,Result.andThen,qou,storeVar,Value.cells,storeCells,Addr.add];rw [run_store Tryz.prog W ta _ _ (by rfl)];simp [ht,hf]
theorem q4v (e t:Addr) (old:Value) (w:World) (hg:w.cell? ⟨2,0,none⟩=some (.iface 279 (.agg #[.pointer (some ⟨7,26,none⟩)]))) (ht0:w.cell? t=some old) (hf0:w.frozen? t=false) :
  Calls Tryz.prog 74 #[.iface 98 (.pointer (some e)),.iface 180 (.pointer (some t))] w fun ev w'=>ev=.returned (.bool true)∧w'=((((w.alloc (.cells #[.pointer (some t)] 180)).alloc (.cells #[.pointer (some ⟨7,180,none⟩),.pointer (some ⟨w.heap.size,0,none⟩),.int .u64 150] 244)).alloc (.cells #[.pointer (some ⟨7,180,none⟩),.pointer (some ⟨w.heap.size,0,none⟩),.int .u64 150] 244)).alloc (.cells #[.pointer (some e)] 98)).setCell t (.pointer (some e)):=by
 have h6:=@run_callFunc_extern Tryz.prog 126 _ (fun args=>ReflectliteValue.unpack (args.getD 0 (.tuple #[]))) Tryz.func126 Jk Jk Jk Jk;have h7:=@run_callFunc_extern Tryz.prog 127 _ (ReflectliteValue.methodAny (ReflectliteValue.valueError "reflectlite.Value.Type" 0) (fun t _ _ _=>ReflectliteType.toType t)) Tryz.func127 Jk Jk Jk Jk;have h8:=@run_callFunc_extern Tryz.prog 128 _ (ReflectliteValue.method (ReflectliteValue.valueError "reflectlite.Value.IsNil" 0) ReflectliteValue.isNil) Tryz.func128 Jk Jk Jk Jk;have h27:=@run_callFunc_extern Tryz.prog 281 _ (ReflectliteType.abiMethod fun t=>do pure (.int .u8 (← Rtype.kind t))) Tryz.func281 Jk Jk Jk Jk;have h37:=@run_callFunc_extern Tryz.prog 298 _ (ReflectliteType.method ReflectliteType.elem) Tryz.func298 Jk Jk Jk Jk;have h38:=@run_callFunc_extern Tryz.prog 299 _ (ReflectliteType.relation "Implements" ReflectliteType.implements_) Tryz.func299 Jk Jk Jk Jk;have h10:=@run_callFunc_extern Tryz.prog 164 _ ReflectliteType.typeOf Tryz.func164 Jk Jk Jk Jk;have h35:=@run_callFunc_extern Tryz.prog 296 _ (ReflectliteType.relation "AssignableTo" ReflectliteType.assignableTo) Tryz.func296 Jk Jk Jk Jk;have h11:=@run_callFunc_extern Tryz.prog 165 _ (ReflectliteValue.method (ReflectliteValue.valueError "reflectlite.Value.Elem" 0) ReflectliteValue.elem) Tryz.func165 Jk Jk Jk Jk;have h12:=@run_callFunc_extern Tryz.prog 166 _ ReflectliteValue.set Tryz.func166 Jk Jk Jk Jk;have tO:=qox;have mA:=qed;have a25:=qij;have v25:=qm9;have f6:=qna;have f7:=qur;have mK:=qk1;have mE:=qk0;have mI:=qfd;have k27:=quq;have k25:=qup;have e27:=qun;have i25:=qik;have n8:=qqq ⟨w.heap.size,0,none⟩ t ((w.alloc (.cells #[.pointer (some t)] 180)).alloc (.cells #[.pointer (some ⟨7,180,none⟩),.pointer (some ⟨w.heap.size,0,none⟩),.int .u64 150] 244)) Js;have hlt:2<w.heap.size:=by
  rcases Nat.lt_or_ge 2 w.heap.size with h|h
  ·exact h
  ·simp [World.cell?,Array.getElem?_eq_none h] at hg
 have hg2:((w.alloc (.cells #[.pointer (some t)] 180)).alloc (.cells #[.pointer (some ⟨7,180,none⟩),.pointer (some ⟨w.heap.size,0,none⟩),.int .u64 150] 244)).cell? ⟨2,0,none⟩=some (.iface 279 (.agg #[.pointer (some ⟨7,26,none⟩)])):=by
  rw [World.cell?_alloc_lt _ _ ⟨2,0,none⟩ Ys,World.cell?_alloc_lt _ _ ⟨2,0,none⟩ hlt];exact hg
 have htl:t.block<w.heap.size:=by
  rcases Nat.lt_or_ge t.block w.heap.size with h|h
  ·exact h
  ·simp [World.cell?,Array.getElem?_eq_none h] at ht0
 have el:=qqp ⟨w.heap.size,0,none⟩ t (((w.alloc (.cells #[.pointer (some t)] 180)).alloc (.cells #[.pointer (some ⟨7,180,none⟩),.pointer (some ⟨w.heap.size,0,none⟩),.int .u64 150] 244)).alloc (.cells #[.pointer (some ⟨7,180,none⟩),.pointer (some ⟨w.heap.size,0,none⟩),.int .u64 150] 244)) (by rw [World.cell?_alloc_lt _ _ ⟨w.heap.size,0,none⟩ Ys];simp);have st:=qx7 t ⟨w.heap.size+1+1+1,0,none⟩ e old ((((w.alloc (.cells #[.pointer (some t)] 180)).alloc (.cells #[.pointer (some ⟨7,180,none⟩),.pointer (some ⟨w.heap.size,0,none⟩),.int .u64 150] 244)).alloc (.cells #[.pointer (some ⟨7,180,none⟩),.pointer (some ⟨w.heap.size,0,none⟩),.int .u64 150] 244)).alloc (.cells #[.pointer (some e)] 98))
  (by rw [World.cell?_alloc_at _ _ _ _ Js];rfl)
  (by rw [World.cell?_alloc_lt _ _ t Ys,World.cell?_alloc_lt _ _ t Ys,World.cell?_alloc_lt _ _ t Ys,World.cell?_alloc_lt _ _ t htl];exact ht0)
  (by rw [World.frozen?_alloc_old _ _ t Ys,World.frozen?_alloc_old _ _ t Ys,World.frozen?_alloc_old _ _ t Ys,World.frozen?_alloc_old _ _ t (Nat.ne_of_lt htl)];exact hf0)
 go_enter Tryz.func74,Tryz.ntmps74
 go_wp2
 refine wp_loop_rounds 1 ?_;rw [rounds_succ]
 go_wp2
 go_ret
 exact ⟨rfl,rfl⟩
def entV (x:LB × Nat × Nat):Value:=.tuple #[.string ⟨x.1.toArray⟩,ii x.2.1,ii x.2.2]
theorem qwl {m ahead:LB} {first:Bool} {s y:Nat × Nat × Nat} (es:s=if first then (0,0,0) else numL m) (ey:y=numL (m.drop s.2.1)) (e2:s.2.2=0) (he2:y.2.2=0) :
  entG m first ahead=if ahead.length<s.1 then ([],0,161) else if 262144<y.1∨262144<s.1+y.1 then ([],0,2) else if m.length-s.2.1-y.2.1<y.1 then ([],0,10) else (ahead.take s.1++(m.drop (s.2.1+y.2.1)).take y.1,s.2.1+y.2.1+y.1,0):=by
 unfold entG;rw [← es];dsimp only;rw [if_neg Oo,← ey,if_neg Oo]
theorem qoc (b:Nat) (m:LB) (p:Nat) (first:Bool) (last:ByteArray) (w:World) (h:DictAt w b m) (hp:p≤4294967296) (hlast:last.size≤262144) :
  Gv Tryz.prog 81 [pp b,ii p,.bool first,.string last] w fun r w'=>r=entV (qce (qe m) p first last.data.toList)∧Ext w w':=by
 obtain ⟨⟨P,cp,E,ce,h1,h2,h3,h4⟩,h5,h6,h7,h8⟩:=h;obtain ⟨D,eD⟩:∃ D,D=qe m:=⟨_,rfl⟩
 rw [← eD] at h1 h3 h4 h8 ⊢;refine ze Tryz.func81 Tryz.ntmps81 ?_;refine zv ?_;refine LoadV.own h1 rfl (zw ?_);refine zt ?_;refine zC (fun _=>zw ?_) (fun _=>zw ?_)
 ·rw [qce,if_pos Oo];exact ⟨rfl,xr⟩
 refine LoadV.own h1 rfl (zw ?_);refine SliceV.bs h3 rfl p D.length ce rfl rfl rfl Oo znr h4 znr (fun h=>by cases h) ?_;intro A' hA';rw [List.take_of_length_le Js] at hA';(conv=>whnf);obtain ⟨B,eB⟩:∃ B,B=D.drop p:=⟨_,rfl⟩
 have hBl:B.length=D.length-p:=by rw [eB,zld]
 rw [← eB] at hA';have hvB:∀ w',Ext w w'→BS w' (.slice A' (D.length-p) (ce-p)) B:=fun w' he=>⟨A',ce-p,by rw [hBl],by rw [hBl];omega,hA'.ext he⟩
 refine zcv (qc8 _ B w (hvB w xr)) ?_;rintro v w1 ⟨cb,rfl,hcb,hco,he1⟩;have hm:Mem w w1 [(cb,curO 170 (.slice A' (D.length-p) (ce-p)) 0 0)]:=(Mem.nil w).fresh he1 hcb hco;(conv=>whnf);obtain ⟨s,es⟩:∃ s:Nat × Nat × Nat,s=if first then (0,0,0) else numL B:=⟨_,rfl⟩
 have hsb:s.1<18446744073709551616∧s.2.1≤B.length:=by
  have:=qao B;rw [es];split
  ·exact ⟨by decide,Nat.zero_le _⟩
  ·exact ⟨this.1,this.2.1⟩
 cases first
 ·refine zv ?_;refine zcv (qb9 cb _ 0 0 B w1 (hm.get mh) (hvB w1 hm.ext) (Nat.zero_le _) Oo) ?_;rintro r w2 ⟨rfl,hu⟩
  by_cases he:(numL (B.drop 0)).2.2=0
  ·obtain ⟨q1,q2,q3⟩:=qnu he;rw [q2,q3,Nat.zero_add] at hu;rw [q1];have es:s=numL B:=es;have hm:Mem w w2 [(cb,curO 170 (.slice A' (D.length-p) (ce-p)) s.2.1 0)]:=by rw [es];exact hm.upd (i:=0) rfl hu
   have e1:(numL (B.drop 0)).1=s.1:=by rw [es];rfl
   have e2:s.2.2=0:=by rw [es];exact he
   rw [e1];clear q1 q2 q3 hu e1;(conv=>whnf);refine zcv (qb0 cb _ _ 0 w2 (hm.get mh)) ?_;rintro r w3 ⟨rfl,rfl⟩;refine zu ?_;refine zcv (qb9 cb _ s.2.1 0 B _ (hm.get mh) (hvB _ hm.ext) hsb.2 Oo) ?_;rintro r w4 ⟨rfl,hu⟩;have hx1:=qao (B.drop s.2.1);rw [zld] at hx1
   by_cases he2:(numL (B.drop s.2.1)).2.2=0
   ·obtain ⟨q1,q2,q3⟩:=qnu he2;rw [q2,q3] at hu;rw [q1];clear q1 q2 q3;obtain ⟨y,ey⟩:∃ y,y=numL (B.drop s.2.1):=⟨_,rfl⟩
    rw [← ey] at he2 hu hx1 ⊢;have hE:=qwl (ahead:=last.data.toList) (first:=false) es ey e2 he2;have hll:last.data.toList.length=last.size:=rfl;have hm:Mem w w4 [(cb,curO 170 (.slice A' (D.length-p) (ce-p)) (s.2.1+y.2.1) 0)]:=hm.upd (i:=0) rfl hu;(conv=>whnf);refine zcv (qb0 cb _ _ 0 w4 (hm.get mh)) ?_;rintro r w5 ⟨rfl,rfl⟩;conv=>whnf
    (repeat' (first|refine zp ?_|refine zC (fun _=>zw ?_) (fun _=>zw ?_)))
    ·have hent:entG B false last.data.toList=([],0,161):=by rw [hE,if_pos Oo]
     rw [qce,if_neg Oo,← eB,hent];exact ⟨rfl,hm.ext⟩
    ·have hent:entG B false last.data.toList=([],0,2):=by rw [hE,if_neg Oo,if_pos Oo]
     rw [qce,if_neg Oo,← eB,hent];exact ⟨rfl,hm.ext⟩
    ·have hent:entG B false last.data.toList=([],0,2):=by rw [hE,if_neg Oo,if_pos Oo]
     rw [qce,if_neg Oo,← eB,hent];exact ⟨rfl,hm.ext⟩
    refine zcv (qmv cb _ (s.2.1+y.2.1) 0 B w5 (hm.get mh) (hvB w5 hm.ext) Oo Oo) ?_;rintro r w6 ⟨rfl,he6⟩;have hm:=hm.call he6;(conv=>whnf);refine zt ?_;refine zC (fun _=>zw ?_) (fun _=>zw ?_)
    ·have hent:entG B false last.data.toList=([],0,10):=by rw [hE,if_neg Oo,if_neg Oo,if_pos Oo]
     rw [qce,if_neg Oo,← eB,hent];exact ⟨rfl,hm.ext⟩
    have hent:entG B false last.data.toList=(last.data.toList.take s.1++(B.drop (s.2.1+y.2.1)).take y.1,s.2.1+y.2.1+y.1,0):=by rw [hE,if_neg Oo,if_neg Oo,if_neg Oo]
    rw [qce,if_neg Oo,← eB,hent];refine zcv (qh2 cb _ (s.2.1+y.2.1) 0 w6 (hm.get mh)) ?_;rintro r w7 ⟨rfl,rfl⟩;refine zu ?_;refine zy ?_;have hm:=hm.drew;refine zv ?_;refine SliceS.at_ 0 s.1 rfl (by show (_:Int)=_;omega) Oo Oo (zu ?_);refine LoadV.own (hm.ext.get h1) rfl (zu ?_);refine SliceV.bs (h3.ext hm.ext) rfl (p+(s.2.1+y.2.1)) (p+(s.2.1+y.2.1)+y.1) ce (by show (_:Int)=_;omega) (by show (_:Int)=_;omega) rfl Oo Oo Oo znr (fun h=>by cases h) ?_;intro A2 hA2;refine zu ?_;have ecut:((D.drop (p+(s.2.1+y.2.1))).take (p+(s.2.1+y.2.1)+y.1-(p+(s.2.1+y.2.1))))=(B.drop (s.2.1+y.2.1)).take y.1:=by
     rw [eB,List.drop_drop];congr 1;omega
    rw [ecut] at hA2;refine BytesS.sl hA2 (by rw [List.length_take,zld];omega) (zu ?_);have z1:(last.extract 0 s.1).size=s.1:=by rw [ByteArray.size_extract];omega
    have z2:(⟨((B.drop (s.2.1+y.2.1)).take y.1).toArray⟩:ByteArray).size=y.1:=by
     show (List.toArray _).size=_;rw [List.size_toArray,List.length_take,zld];omega
    refine Obl.mk (by rw [z1,z2];omega) (zw ?_);have hcat:last.extract 0 s.1++⟨((B.drop (s.2.1+y.2.1)).take y.1).toArray⟩=(⟨(last.data.toList.take s.1++(B.drop (s.2.1+y.2.1)).take y.1).toArray⟩:ByteArray):=by
     apply ByteArray.ext;rw [← Array.toList_inj,ByteArray.data_append,ByteArray.data_extract];simp
    rw [hcat,if_neg Js];refine zv ?_;refine ⟨?_,hm.ext⟩;have e8:((p:Int)+((s.2.1+y.2.1:Nat):Int)+((y.1:Nat):Int))=((p+(s.2.1+y.2.1+y.1):Nat):Int):=by omega
    rw [e8];rfl
   ·obtain ⟨q1,q2,q3⟩:=qrh he2;rw [q2,q3] at hu;rw [q1];have hm:Mem w w4 [(cb,curO 170 (.slice A' (D.length-p) (ce-p)) s.2.1 (numL (B.drop s.2.1)).2.2)]:=hm.upd (i:=0) rfl hu;(conv=>whnf);refine zcv (qb0 cb _ _ _ w4 (hm.get mh)) ?_;rintro r w5 ⟨rfl,rfl⟩;refine zu ?_;have hent:(entG B false last.data.toList)=([],0,(numL (B.drop s.2.1)).2.2):=by
     simp only [entG,Bool.false_eq_true,if_false,← es];rw [if_neg Oo,if_pos he2]
    rw [qce,if_neg Oo,← eB,hent,if_pos he2];exact ⟨rfl,hm.ext⟩
  ·obtain ⟨q1,q2,q3⟩:=qrh he;rw [q2,q3] at hu;rw [q1];have hm:Mem w w2 [(cb,curO 170 (.slice A' (D.length-p) (ce-p)) 0 (numL B).2.2)]:=hm.upd (i:=0) rfl hu;have he':(numL B).2.2≠0:=he;(conv=>whnf);refine zcv (qb0 cb _ _ _ w2 (hm.get mh)) ?_;rintro r w3 ⟨rfl,rfl⟩;refine zu ?_;have hent:qce D p false last.data.toList=([],0,(numL B).2.2):=by
    have:(entG B false last.data.toList).2.2=(numL B).2.2:=by
     simp only [entG,Bool.false_eq_true,if_false];rw [if_pos he']
    rw [qce,if_neg Oo,← eB,this,if_pos he']
   rw [hent];exact ⟨rfl,hm.ext⟩
 ·refine zv ?_;have es:s=(0,0,0):=es;have hm:Mem w w1 [(cb,curO 170 (.slice A' (D.length-p) (ce-p)) s.2.1 0)]:=by rw [es];exact hm
  have e2:s.2.2=0:=by rw [es]
  refine zcv (qb0 cb _ _ 0 w1 (hm.get mh)) ?_;rintro r w3 ⟨rfl,rfl⟩;refine zu ?_;refine zcv (qb9 cb _ s.2.1 0 B _ (hm.get mh) (hvB _ hm.ext) hsb.2 Oo) ?_;rintro r w4 ⟨rfl,hu⟩;have hx1:=qao (B.drop s.2.1);rw [zld] at hx1
  by_cases he2:(numL (B.drop s.2.1)).2.2=0
  ·obtain ⟨q1,q2,q3⟩:=qnu he2;rw [q2,q3] at hu;rw [q1];clear q1 q2 q3;obtain ⟨y,ey⟩:∃ y,y=numL (B.drop s.2.1):=⟨_,rfl⟩
   rw [← ey] at he2 hu hx1 ⊢;have hE:=qwl (ahead:=last.data.toList) (first:=true) es ey e2 he2;have hll:last.data.toList.length=last.size:=rfl;have hs1:s.1=0:=by rw [es]
   have hm:Mem w w4 [(cb,curO 170 (.slice A' (D.length-p) (ce-p)) (s.2.1+y.2.1) 0)]:=hm.upd (i:=0) rfl hu;(conv=>whnf);refine zcv (qb0 cb _ _ 0 w4 (hm.get mh)) ?_;rintro r w5 ⟨rfl,rfl⟩;(conv=>whnf);refine zt ?_;refine zC (fun _=>zu ?_) (fun _=>zu ?_)
   ·have hent:entG B true last.data.toList=([],0,2):=by rw [hE,if_neg Oo,if_pos Oo]
    rw [qce,if_neg Oo,← eB,hent];exact ⟨rfl,hm.ext⟩
   refine zcv (qmv cb _ (s.2.1+y.2.1) 0 B w5 (hm.get mh) (hvB w5 hm.ext) Oo Oo) ?_;rintro r w6 ⟨rfl,he6⟩;have hm:=hm.call he6;(conv=>whnf);refine zt ?_;refine zC (fun _=>zw ?_) (fun _=>zw ?_)
   ·have hent:entG B true last.data.toList=([],0,10):=by rw [hE,if_neg Oo,if_neg Oo,if_pos Oo]
    rw [qce,if_neg Oo,← eB,hent];exact ⟨rfl,hm.ext⟩
   have hent:entG B true last.data.toList=(last.data.toList.take s.1++(B.drop (s.2.1+y.2.1)).take y.1,s.2.1+y.2.1+y.1,0):=by rw [hE,if_neg Oo,if_neg Oo,if_neg Oo]
   rw [qce,if_neg Oo,← eB,hent];refine zcv (qh2 cb _ (s.2.1+y.2.1) 0 w6 (hm.get mh)) ?_;rintro r w7 ⟨rfl,rfl⟩;refine zu ?_;refine zy ?_;have hm:=hm.drew;refine zv ?_;refine SliceS.at_ 0 s.1 rfl (by show (_:Int)=_;omega) Oo Oo (zu ?_);refine LoadV.own (hm.ext.get h1) rfl (zu ?_);refine SliceV.bs (h3.ext hm.ext) rfl (p+(s.2.1+y.2.1)) (p+(s.2.1+y.2.1)+y.1) ce (by show (_:Int)=_;omega) (by show (_:Int)=_;omega) rfl Oo Oo Oo znr (fun h=>by cases h) ?_;intro A2 hA2;refine zu ?_;have ecut:((D.drop (p+(s.2.1+y.2.1))).take (p+(s.2.1+y.2.1)+y.1-(p+(s.2.1+y.2.1))))=(B.drop (s.2.1+y.2.1)).take y.1:=by
    rw [eB,List.drop_drop];congr 1;omega
   rw [ecut] at hA2;refine BytesS.sl hA2 (by rw [List.length_take,zld];omega) (zu ?_);have z1:(last.extract 0 s.1).size=s.1:=by rw [ByteArray.size_extract];omega
   have z2:(⟨((B.drop (s.2.1+y.2.1)).take y.1).toArray⟩:ByteArray).size=y.1:=by
    show (List.toArray _).size=_;rw [List.size_toArray,List.length_take,zld];omega
   refine Obl.mk (by rw [z1,z2];omega) (zw ?_);have hcat:last.extract 0 s.1++⟨((B.drop (s.2.1+y.2.1)).take y.1).toArray⟩=(⟨(last.data.toList.take s.1++(B.drop (s.2.1+y.2.1)).take y.1).toArray⟩:ByteArray):=by
    apply ByteArray.ext;rw [← Array.toList_inj,ByteArray.data_append,ByteArray.data_extract];simp
   rw [hcat,if_neg Js];refine zv ?_;refine ⟨?_,hm.ext⟩;have e8:((p:Int)+((s.2.1+y.2.1:Nat):Int)+((y.1:Nat):Int))=((p+(s.2.1+y.2.1+y.1):Nat):Int):=by omega
   rw [e8];rfl
  ·obtain ⟨q1,q2,q3⟩:=qrh he2;rw [q2,q3] at hu;rw [q1];have hm:Mem w w4 [(cb,curO 170 (.slice A' (D.length-p) (ce-p)) s.2.1 (numL (B.drop s.2.1)).2.2)]:=hm.upd (i:=0) rfl hu;(conv=>whnf);refine zcv (qb0 cb _ _ _ w4 (hm.get mh)) ?_;rintro r w5 ⟨rfl,rfl⟩;refine zu ?_;have hent:(entG B true last.data.toList)=([],0,(numL (B.drop s.2.1)).2.2):=by
    simp only [entG,if_true,← es];rw [if_neg Oo,if_pos he2]
   rw [qce,if_neg Oo,← eB,hent,if_pos he2];exact ⟨rfl,hm.ext⟩
end Go.Proofs.YtaiiejogocblgaaGreatDoor
