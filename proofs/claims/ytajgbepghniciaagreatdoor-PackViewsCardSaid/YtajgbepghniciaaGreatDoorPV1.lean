/- Lemmas and contracts of functions on the way to the law's card (part 1 of 13). -/
import Derived.Test.YtajgbepghniciaaGreatDoorProg
import Derived.WalkKit
import Derived.WalkSpells
import Derived.StillTactics
import Derived.Lib.Hide
import Derived.IntWalk
import Derived.Still
import Derived.Scope
import Derived.Maps.AppendAt
import Derived.Lib.AppendStr
namespace Go.Proofs.YtajgbepghniciaaGreatDoor
open Go.RowKit
namespace V
def upd (ρ:Nat→Value) (d:Nat) (v:Value):Nat→Value:=fun t=>bif Nat.beq t d then v else ρ t
def ev (ρ:Nat→Value):Operand→Value
 | .tmp t=>ρ t
 | .const v=>v
 | .global g=>.pointer (some ⟨g,0,none⟩)
 | .func f=>.func (.func f) #[] #[]
def qdf:Value→Bool
 | .agg _ | .tuple _=>false
 | _=>true
structure St (n:Nat) (ρ:Nat→Value) (a:Act):Prop where
 size:a.tmps.size=n
 get:∀ t,a.tmps.getD t undef=ρ t
 defers:a.defers=[]
theorem St.eval {n:Nat} {ρ:Nat→Value} {a:Act} (h:St n ρ a):a.eval=ev ρ:=by
 funext x;cases x<;>simp [Act.eval,ev,h.get]
theorem St.put {n:Nat} {ρ:Nat→Value} {a:Act} (h:St n ρ a) {d:Nat} (hd:d<n) (v:Value):St n (upd ρ d v) (a.put (some d) v):=by
 refine ⟨by simp [Act.put,h.size],fun t=>?_,by simp [Act.put,h.defers]⟩;have hg:=h.get t;have hs:=h.size;simp only [Act.put,upd,Array.getD_eq_getD_getElem?] at hg ⊢
 by_cases e:t=d
 ·subst e;simp [hs,hd]
 ·have e':Nat.beq t d=false:=Bool.eq_false_iff.2 fun h=>e (Nat.eq_of_beq_eq_true h)
  rw [e',Array.getElem?_setIfInBounds_ne (fun x=>e x.symm)]
  simpa using hg
theorem St.same {n:Nat} {ρ:Nat→Value} {a:Act} (h:St n ρ a) {d:Nat} {v:Value} (hv:ρ d=v):St n (upd ρ d v) a:=by
 refine ⟨h.size,fun t=>?_,h.defers⟩;rw [h.get];unfold upd
 by_cases e:t=d
 ·subst e;simp [hv]
 ·have e':Nat.beq t d=false:=Bool.eq_false_iff.2 fun h=>e (Nat.eq_of_beq_eq_true h)
  rw [e'];rfl
structure Tst (b:Bool) (p q:Prop):Prop where
 t:b=true→p
 f:b=false→q
theorem Tst.tt {p q:Prop} (h:p):Tst true p q:=⟨fun _=>h,fun e=>by cases e⟩
theorem Tst.ff {p q:Prop} (h:q):Tst false p q:=⟨(fun e=>by cases e),fun _=>h⟩
theorem Tst.dec {c p q:Prop} [Decidable c] (h1:c→p) (h2:¬ c→q):Tst (decide c) p q:=⟨fun e=>h1 (of_decide_eq_true e),fun e=>h2 (of_decide_eq_false e)⟩
theorem Tst.not {b:Bool} {p q:Prop} (h:Tst b q p):Tst (!b) p q:=⟨fun e=>h.f (by simpa using e),fun e=>h.t (by simpa using e)⟩
theorem Tst.beqT {b c:Bool} {p q:Prop} (h:Tst b p q) (hc:c=true:=by rfl):Tst (b==c) p q:=by subst hc;cases b<;>exact h
theorem Tst.beqF {b c:Bool} {p q:Prop} (h:Tst b q p) (hc:c=false:=by rfl):Tst (b==c) p q:=by
 subst hc;cases b
 ·exact ⟨fun _=>h.f rfl,fun e=>by cases e⟩
 ·exact ⟨(fun e=>by cases e),fun _=>h.t rfl⟩
theorem Tst.iff (c:Prop) {b:Bool} {p q:Prop} (hb:b=true↔c) (h1:c→p) (h2:¬ c→q):Tst b p q:=⟨fun e=>h1 (hb.1 e),fun e=>h2 (fun hc=>by rw [hb.2 hc] at e;cases e)⟩
theorem Tst.yes {b:Bool} {p q:Prop} (hb:b=true) (h:p):Tst b p q:=⟨fun _=>h,fun e=>by rw [hb] at e;cases e⟩
theorem Tst.no {b:Bool} {p q:Prop} (hb:b=false) (h:q):Tst b p q:=⟨(fun e=>by rw [hb] at e;cases e),fun _=>h⟩
structure Obl (p k:Prop):Prop where
 o:p
 k:k
structure Wit {α:Type} (p:α→Prop) (K:α→Prop):Prop where
 h:∃ x,p x∧K x
def qdx (P:Program) (f:FuncId):Bool:=
 match P.funcs[f]? with
 | some fn => !(fn.name== "runtime.NumGoroutine")&&fn.body.isSome
 | none=>false
def Gv (P:Program) (f:FuncId) (args:List Value) (w:World) (R:Value→World→Prop):Prop:=
 qdx P f=true∧Calls P f args.toArray w fun e w'=>∃ v,e=.returned v∧R v w'
structure RunV (P:Program) (s:Sem Value) (w:World) (K:Value→World→Prop):Prop where
 h:∃ v w',s.run P w=.ok v w'∧K v w'
structure Fall (P:Program) (s:Sem Next) (w:World) (K:Value→World→Prop):Prop where
 h:(∃ v w',s.run P w=.ok (.value v) w'∧K v w')∨(∃ w',s.run P w=.ok .skip w'∧K undef w')
structure LoadV (w:World) (b off:Nat) (K:Value→Prop):Prop where
 h:∃ v,w.cell? ⟨b,off,none⟩=some v∧K v
structure LoadA (w:World) (b off size:Nat) (K:List Value→Prop):Prop where
 h:∃ cs:List Value,cs.length=size∧(∀ i,i<size→w.cell? ⟨b,off+i,none⟩=cs[i]?)∧K cs
structure StoreV (w:World) (b off:Nat) (v:Value) (K:World→Prop):Prop where
 h:(∃ o,w.cell? ⟨b,off,none⟩=some o)∧w.frozen? ⟨b,off,none⟩=false∧qdf v=true∧K (w.setCell ⟨b,off,none⟩ v)
structure StoreA (P:Program) (w:World) (b off:Nat) (vs:List Value) (K:World→Prop):Prop where
 h:∃ w',(storeCells ⟨b,off,none⟩ vs).run P w=.ok () w'∧K w'
structure AppV (P:Program) (argTypes:Array TypeId) (ty:TypeId) (s x:Value) (w:World) (K:Value→World→Prop):Prop where
 h:∃ v w',(Builtin.append_ argTypes ty #[s,x]).run P w=.ok v w'∧K v w'
structure NewV (w:World) (o:Obj) (K:Nat→World→Prop):Prop where
 h:∀ b w',b=w.heap.size→w'=w.alloc o→K b w'
structure ElemV (A:Option Addr) (i:Int) (len size:Nat) (K:Value→Prop):Prop where
 h:∃ (b off j:Nat),A=some ⟨b,off,none⟩∧i=(j:Int)∧j<len∧K (.pointer (some ⟨b,off+j*size,none⟩))
structure LoopV (P:Program) (n:Nat) (body:Code) (Q:Exit→(Nat→Value)→World→Prop) (ρ:Nat→Value) (w:World):Prop where
 h:∀ a,St n ρ a→(Code.loop body).wp P (fun e a' w'=>∃ ρ',St n ρ' a'∧Q e ρ' w') a w
structure DrawV (P:Program) (n id:Nat) (ops:Array Oper) (Q:Exit→(Nat→Value)→World→Prop) (ρ:Nat→Value) (w:World):Prop where
 h:∀ a,St n ρ a→(Code.region id ops true).wp P (fun e a' w'=>∃ ρ',St n ρ' a'∧Q e ρ' w') a w
structure CodeV (P:Program) (n:Nat) (c:Code) (Q:Exit→(Nat→Value)→World→Prop) (ρ:Nat→Value) (w:World):Prop where
 h:∀ a,St n ρ a→c.wp P (fun e a' w'=>∃ ρ',St n ρ' a'∧Q e ρ' w') a w
def InR (k:IntKind) (n:Int):Prop:=
 match k with
 | .i64=>-9223372036854775808≤n∧n≤9223372036854775807
 | .i32=>-2147483648≤n∧n≤2147483647
 | .i16=>-32768≤n∧n≤32767
 | .i8=>-128≤n∧n≤127
 | .u64=>0≤n∧n≤18446744073709551615
 | .u32=>0≤n∧n≤4294967295
 | .u16=>0≤n∧n≤65535
 | .u8=>0≤n∧n≤255
def eqk:IntKind→IntKind→Bool
 | .i64,.i64 | .i32,.i32 | .i16,.i16 | .i8,.i8 | .u64,.u64 | .u32,.u32 | .u16,.u16 | .u8,.u8=>true
 | _,_=>false
theorem qzz {k j:IntKind} (h:eqk k j=true):k=j:=by cases k<;>cases j<;>first|rfl|cases h
def gb (s:ByteArray) (k:Nat):UInt8:=s.data.toList.getD k 0
def seq (x y:ByteArray):Bool:=x.data==y.data
def slt (x y:ByteArray):Bool:=Op.bytesLess x.toList y.toList
def qel (op:BinOp) (k:IntKind) (x y:Int):Int:=
 let a:=BitVec.ofInt k.bits x
 let b:=BitVec.ofInt k.bits y
 match op with
 | .and=>k.wrap (a &&&b).toNat
 | .or=>k.wrap (a |||b).toNat
 | .xor=>k.wrap (a ^^^ b).toNat
 | _=>k.wrap (a &&& ~~~b).toNat
def qgj (v:Value) (K:Value→Prop):Prop:=
 match v with
 | .bool b=>K (.bool b)
 | .int k n=>K (.int k n)
 | .float k n=>K (.float k n)
 | .complex k a b=>K (.complex k a b)
 | .string s=>K (.string s)
 | .pointer a=>K (.pointer a)
 | .slice a l c=>K (.slice a l c)
 | .map r=>K (.map r)
 | .chan r=>K (.chan r)
 | .func f a c=>K (.func f a c)
 | .nilFunc=>K .nilFunc
 | .iface t v=>K (.iface t v)
 | .nilIface=>K .nilIface
 | .agg cs=>K (.agg cs)
 | .tuple vs=>K (.tuple vs)
theorem qa4 (v:Value) (K:Value→Prop):qgj v K=K v:=by cases v<;>rfl
def qb2:List Value→(List Value→Prop)→Prop
 | [],K=>K []
 | v::l,K=>qgj v fun u=>qb2 l fun r=>K (u::r)
theorem qak (l:List Value):∀ K:List Value→Prop,qb2 l K=K l:=by
 induction l with
 | nil=>intro K;rfl
 | cons v l ih=>intro K;simp only [qb2,qa4,ih]
def evs (ρ:Nat→Value):List Operand→List Value
 | []=>[]
 | x::l=>ev ρ x::evs ρ l
theorem qdm (ρ:Nat→Value) (l:List Operand):evs ρ l=l.map (ev ρ):=by induction l<;>simp [evs, *]
def setL:List Value→Nat→Value→List Value
 | [],_,_=>[]
 | _::l,0,v=>v::l
 | x::l,i+1,v=>x::setL l i v
theorem qzf (l:List Value) (i:Nat) (v:Value):setL l i v=l.set i v:=by
 induction l generalizing i with
 | nil=>rfl
 | cons x l ih=>cases i<;>simp [setL,ih]
def qe1:Operand→Bool
 | .const _=>true
 | _=>false
def isEq:BinOp→Bool
 | .eql | .neq=>true
 | _=>false
def eqOp:BinOp→Bool
 | .eql=>true
 | _=>false
def qig (P:Program) (t:TypeId) (xo yo:Operand) (x y:Value):Option Bool:=
 match x,y with
 | .pointer none,.pointer b=>match P.underlying t with|some (.pointer _)=>some b.isNone|_=>none
 | .pointer (some _),.pointer none=>match P.underlying t with|some (.pointer _)=>some false|_=>none
 | .slice none _ _,.slice b _ _=>match P.underlying t with|some (.slice _)=>some b.isNone|_=>none
 | .slice (some _) _ _,.slice none _ _=>match P.underlying t with|some (.slice _)=>some false|_=>none
 | .nilIface,.nilIface=>match P.underlying t with|some (.interface _)=>(bif qe1 xo||qe1 yo then some true else none)|_=>none
 | .nilIface,.iface _ _=>match P.underlying t with|some (.interface _)=>some false|_=>none
 | .iface _ _,.nilIface=>match P.underlying t with|some (.interface _)=>some false|_=>none
 | _,_=>none
def binV (P:Program) (op:BinOp) (t:TypeId) (xo yo:Operand) (x y:Value) (w:World) (K:Value→Prop) (KW:Value→World→Prop):Prop:=
 match x,y with
 | .int k a,.int k' b=>
  match op with
  | .shl=>Wit (fun r=>0≤b∧b<k.bits∧k.wrap (a*2 ^ b.toNat)=r) (fun r=>K (.int k r))
  | .shr=>Wit (fun r=>0≤b∧b<k.bits∧a/2 ^ b.toNat=r) (fun r=>K (.int k r))
  | _=>bif eqk k k' then
   match op with
   | .add=>Obl (InR k (a+b)) (K (.int k (a+b)))
   | .sub=>Obl (InR k (a-b)) (K (.int k (a-b)))
   | .mul=>Obl (InR k (a*b)) (K (.int k (a*b)))
   | .quo=>Obl (0≤a∧0<b∧InR k (a/b)) (K (.int k (a/b)))
   | .rem=>Obl (0≤a∧0<b) (K (.int k (a%b)))
   | .eql=>K (.bool (decide (a=b)))
   | .neq=>K (.bool (decide (a≠b)))
   | .lss=>K (.bool (decide (a<b)))
   | .leq=>K (.bool (decide (a≤b)))
   | .gtr=>K (.bool (decide (b<a)))
   | .geq=>K (.bool (decide (b≤a)))
   | _=>Wit (fun r=>qel op k a b=r) (fun r=>K (.int k r))
   else False
 | .string a,.string b=>
  match op with
  | .add=>Obl (a.size+b.size≤9223372036854775807) (K (.string (a++b)))
  | .eql=>K (.bool (seq a b))
  | .neq=>K (.bool (!seq a b))
  | .lss=>K (.bool (slt a b))
  | .leq=>K (.bool (slt a b||seq a b))
  | .gtr=>K (.bool (!(slt a b||seq a b)))
  | .geq=>K (.bool (!slt a b))
  | _=>False
 | .bool a,.bool b=>
  match op,P.underlying t with
  | .eql,some .bool=>K (.bool (a==b))
  | .neq,some .bool=>K (.bool (!(a==b)))
  | _,_=>False
 | x,y=>bif isEq op then (match qig P t xo yo x y with|some b=>K (.bool (bif eqOp op then b else !b))|none=>RunV P (do eqGuard op t xo yo x y;binOp op t x y) w KW) else RunV P (do eqGuard op t xo yo x y;binOp op t x y) w KW
theorem qjj (a b:ByteArray):(a.toList==b.toList)=seq a b:=by
 unfold seq;rw [ByteArray.toList_eq,ByteArray.toList_eq,Bool.eq_iff_iff,beq_iff_eq,beq_iff_eq]
 constructor
 ·intro h;exact Array.toList_inj.1 h
 ·intro h;rw [h]
theorem q7 {a b:ByteArray}:seq a b=true↔a=b:=by
 unfold seq;rw [beq_iff_eq];cases a;cases b;simp
theorem qui {a b:ByteArray}:seq a b=false↔a≠b:=by
 rw [← Bool.not_eq_true,q7]
theorem Tst.seq {a b:ByteArray} {p q:Prop} (h1:a=b→p) (h2:a≠b→q):Tst (seq a b) p q:=⟨fun e=>h1 (q7.1 e),fun e=>h2 (qui.1 e)⟩
theorem InR.wrap {k:IntKind} {n:Int} (h:InR k n):k.wrap n=n:=by
 cases k<;>obtain ⟨h1,h2⟩:=h<;>simp [IntKind.bits,IntKind.signed,IntKind.wrap]<;>(try split)<;>omega
theorem qb0 {P:Program} {w:World} {k:IntKind} {a b:Int} {op:BinOp} (t:TypeId) (xo yo:Operand) (h:op=.and∨op=.or∨op=.xor∨op=.andNot) :
  (do eqGuard op t xo yo (.int k a) (.int k b);binOp op t (.int k a) (.int k b):Sem Value).run P w=.ok (.int k (qel op k a b)) w:=by
 rcases h with rfl|rfl|rfl|rfl<;>simp [eqGuard,binOp,Op.intBits,qel,go_sem]<;>rfl
theorem qhl {P:Program} {w:World} {t:TypeId} {a b:Bool} (d:Nat) (hu:P.underlying t=some .bool) :
  (Op.equalIn (d+1) t (.bool a) (.bool b)).run P w=.ok (a==b) w:=by
 simp [Op.equalIn,run_underlying hu]
theorem qeu {P:Program} {w:World} {t:TypeId} {a b:Bool} (hu:P.underlying t=some .bool) :
  (Op.equal t (.bool a) (.bool b)).run P w=.ok (a==b) w:=qhl 9999 hu
theorem qit {P:Program} {w:World} {t:TypeId} {xo yo:Operand} {x y:Value} {b:Bool} (d:Nat) (h:qig P t xo yo x y=some b):(Op.equalIn (d+1) t x y).run P w=.ok b w:=by
 unfold qig at h
 split at h
 ·split at h
  ·rename_i hu;cases h;simp [Op.equalIn,run_underlying hu]
  ·cases h
 ·split at h
  ·rename_i hu;cases h;simp [Op.equalIn,run_underlying hu]
  ·cases h
 ·split at h
  ·rename_i hu;cases h;simp [Op.equalIn,run_underlying hu]
  ·cases h
 ·split at h
  ·rename_i hu;cases h;simp [Op.equalIn,run_underlying hu]
  ·cases h
 ·split at h
  ·rename_i hu
   cases hc:qe1 xo||qe1 yo<;>rw [hc] at h
   ·cases h
   ·cases h;simp [Op.equalIn,run_underlying hu]
  ·cases h
 ·split at h
  ·rename_i hu;cases h;simp [Op.equalIn,run_underlying hu]
  ·cases h
 ·split at h
  ·rename_i hu;cases h;simp [Op.equalIn,run_underlying hu]
  ·cases h
 ·cases h
theorem qiq {P:Program} {w:World} {t:TypeId} {xo yo:Operand} {x y:Value} {b:Bool} {op:BinOp} (h:qig P t xo yo x y=some b):(eqGuard op t xo yo x y).run P w=.ok () w:=by
 unfold qig at h
 split at h
 all_goals try (cases op<;>simp [eqGuard];done)
 ·split at h
  ·cases hc:qe1 xo||qe1 yo<;>rw [hc] at h
   ·cases h
   ·cases op<;>cases xo<;>cases yo<;>simp_all [eqGuard,qe1]
  ·cases h
 ·cases h
theorem qza {P:Program} {w:World} {t:TypeId} {xo yo:Operand} {x y:Value} {b:Bool} {op:BinOp} (ho:isEq op=true) (h:qig P t xo yo x y=some b)
  (h1:∀ k a,x≠.int k a) (h2:∀ a,x≠.string a) (h3:∀ a,x≠.bool a) :
  (do eqGuard op t xo yo x y;binOp op t x y:Sem Value).run P w=.ok (.bool (bif eqOp op then b else !b)) w:=by
 have hg:=qiq (w:=w) (op:=op) h;have he:=qit (w:=w) 9999 h;cases op<;>first|(cases ho;done)|skip
 ·unfold qig at h;cases x<;>cases y<;>first|(cases h;done)|(simp [hg,binOp,Op.equal,Op.maxDepth,he,eqOp])
 ·unfold qig at h;cases x<;>cases y<;>first|(cases h;done)|(simp [hg,binOp,Op.equal,Op.maxDepth,he,eqOp])
theorem qqb {P:Program} {op:BinOp} {t:TypeId} {xo yo:Operand} {x y:Value} {w:World} {K:Value→World→Prop}
  (h:binV P op t xo yo x y w (fun v=>K v w) K) :
  ∃ v w',(do eqGuard op t xo yo x y;binOp op t x y:Sem Value).run P w=.ok v w'∧K v w':=by
 unfold binV at h
 split at h
 ·rename_i k a k' b
  have hkk:op≠.shl→op≠.shr→eqk k k'=true:=by
   intro h1 h2;cases e:eqk k k'
   ·rw [e] at h;cases op<;>first|exact absurd rfl h1|exact absurd rfl h2|exact h.elim
   ·rfl
  cases op<;>simp only at h
  case shl=>
   obtain ⟨r,⟨h0,h1,rfl⟩,hk⟩:=h;refine ⟨_,w,?_,hk⟩;have e:¬ b<0:=by omega
   have e2:min b.toNat k.bits=b.toNat:=by omega
   have es:Op.shift .shl k a k' b=pure (.int k (k.wrap (a*2 ^ b.toNat))):=by simp only [Op.shift,if_neg e,e2]
   simp [eqGuard,binOp,es,go_sem]
  case shr=>
   obtain ⟨r,⟨h0,h1,rfl⟩,hk⟩:=h;refine ⟨_,w,?_,hk⟩;have e:¬ b<0:=by omega
   have e2:min b.toNat k.bits=b.toNat:=by omega
   have e3:a.fdiv (2 ^ b.toNat)=a/2 ^ b.toNat:=Int.fdiv_eq_ediv_of_nonneg _ (by exact Int.le_of_lt (Int.pow_pos (by decide)));have es:Op.shift .shr k a k' b=pure (.int k (a/2 ^ b.toNat)):=by simp only [Op.shift,if_neg e,e2,e3]
   simp [eqGuard,binOp,es,go_sem]
  all_goals (obtain rfl:=qzz (hkk (by simp) (by simp));rw [hkk (by simp) (by simp)] at h;simp only [cond_true] at h)
  case add=>obtain ⟨hr,hk⟩:=h;exact ⟨_,w,by simp [eqGuard,binOp,Op.intArith,go_sem,hr.wrap],hk⟩
  case sub=>obtain ⟨hr,hk⟩:=h;exact ⟨_,w,by simp [eqGuard,binOp,Op.intArith,go_sem,hr.wrap],hk⟩
  case mul=>obtain ⟨hr,hk⟩:=h;exact ⟨_,w,by simp [eqGuard,binOp,Op.intArith,go_sem,hr.wrap],hk⟩
  case quo=>
   obtain ⟨⟨h0,h1,hr⟩,hk⟩:=h;refine ⟨_,w,?_,hk⟩;have e:b≠0:=by omega
   have e2:a.tdiv b=a/b:=Int.tdiv_eq_ediv_of_nonneg h0;simp [eqGuard,binOp,Op.intDiv,go_sem,e,e2,hr.wrap]
  case rem=>
   obtain ⟨⟨h0,h1⟩,hk⟩:=h;refine ⟨_,w,?_,hk⟩;have e:b≠0:=by omega
   have e2:a.tmod b=a%b:=Int.tmod_eq_emod_of_nonneg h0;simp [eqGuard,binOp,Op.intDiv,go_sem,e,e2]
  case and=>obtain ⟨r,rfl,hk⟩:=h;exact ⟨_,w,qb0 _ _ _ (by simp),hk⟩
  case or=>obtain ⟨r,rfl,hk⟩:=h;exact ⟨_,w,qb0 _ _ _ (by simp),hk⟩
  case xor=>obtain ⟨r,rfl,hk⟩:=h;exact ⟨_,w,qb0 _ _ _ (by simp),hk⟩
  case andNot=>obtain ⟨r,rfl,hk⟩:=h;exact ⟨_,w,qb0 _ _ _ (by simp),hk⟩
  case eql=>
   refine ⟨_,w,?_,h⟩;have e:(a==b)=decide (a=b):=rfl;simp [eqGuard,binOp,Op.intCmp,go_sem,e]
  case neq=>
   refine ⟨_,w,?_,h⟩;have e:(a != b)=decide (a≠b):=by rw [Bool.eq_iff_iff];simp
   simp [eqGuard,binOp,Op.intCmp,go_sem,e]
  case lss=>exact ⟨_,w,by simp [eqGuard,binOp,Op.intCmp,go_sem],h⟩
  case leq=>exact ⟨_,w,by simp [eqGuard,binOp,Op.intCmp,go_sem],h⟩
  case gtr=>exact ⟨_,w,by simp [eqGuard,binOp,Op.intCmp,go_sem],h⟩
  case geq=>exact ⟨_,w,by simp [eqGuard,binOp,Op.intCmp,go_sem],h⟩
 ·rename_i a b
  cases op<;>simp only at h
  case add=>
   obtain ⟨h1,hk⟩:=h;refine ⟨_,w,?_,hk⟩;simp [eqGuard,binOp,Op.stringOp,go_sem];omega
  case eql=>exact ⟨_,w,by simp [eqGuard,binOp,Op.stringOp,go_sem,qjj],h⟩
  case neq=>exact ⟨_,w,by simp [eqGuard,binOp,Op.stringOp,go_sem,qjj],h⟩
  case lss=>exact ⟨_,w,by simp [eqGuard,binOp,Op.stringOp,go_sem,slt],h⟩
  case leq=>exact ⟨_,w,by simp [eqGuard,binOp,Op.stringOp,go_sem,slt,qjj],h⟩
  case gtr=>exact ⟨_,w,by simp [eqGuard,binOp,Op.stringOp,go_sem,slt,qjj],h⟩
  case geq=>exact ⟨_,w,by simp [eqGuard,binOp,Op.stringOp,go_sem,slt],h⟩
 ·rename_i a b
  split at h
  ·rename_i hu
   exact ⟨_,w,by simp [eqGuard,binOp,qeu hu,go_sem],h⟩
  ·rename_i hu
   exact ⟨_,w,by simp [eqGuard,binOp,qeu hu,go_sem],h⟩
  ·exact h.elim
 ·cases ho:isEq op<;>rw [ho] at h<;>dsimp only [cond_true,cond_false] at h
  ·obtain ⟨v,w',h1,h2⟩:=h;exact ⟨v,w',h1,h2⟩
  ·split at h
   ·rename_i b hb
    exact ⟨_,w,qza ho hb (fun k a e=>by subst e;simp [qig] at hb) (fun a e=>by subst e;simp [qig] at hb) (fun a e=>by subst e;simp [qig] at hb),h⟩
   ·obtain ⟨v,w',h1,h2⟩:=h;exact ⟨v,w',h1,h2⟩
def aggD:TypeDesc→Bool
 | .struct _ | .array _ _=>true
 | _=>false
def tsz (P:Program) (t:TypeId):Nat:=match P.info? t with|some i=>i.size|none=>0
def hasT (P:Program) (t:TypeId):Bool:=(P.info? t).isSome
def getL {α:Type}:List α→Nat→Option α
 | [],_=>none
 | v::_,0=>some v
 | _::l,i+1=>getL l i
theorem qo {α:Type} (l:List α) (i:Nat):getL l i=l[i]?:=by
 induction l generalizing i with
 | nil=>rfl
 | cons v l ih=>cases i<;>simp [getL,ih]
structure IdxV (i:Int) (n:Nat) (K:Nat→Prop):Prop where
 h:∃ j:Nat,i=(j:Int)∧j<n∧K j
def OpOk2 (P:Program) (s:Sem Next) (w:World) (K:Value→World→Prop):Prop:=
 (∃ v w',s.run P w=.ok (.value v) w'∧K v w')∨(∃ w',s.run P w=.ok .skip w'∧K undef w')
def OpOk (P:Program) (s:Sem Next) (w:World) (K:Value→World→Prop):Prop:=
 OpOk2 P s w K∨(∃ f args,s.run P w=.ok (.enter f args) w∧Calls P f args w fun e w'=>∃ v,e=.returned v∧K v w')
theorem OpOk2.val {P:Program} {s:Sem Value} {w:World} {K:Value→World→Prop} (h:∃ v w',s.run P w=.ok v w'∧K v w') :
  OpOk2 P (do pure (.value (← s))) w K:=by
 obtain ⟨v,w',h1,h2⟩:=h;exact .inl ⟨v,w',by simp [h1],h2⟩
theorem OpOk2.unit {P:Program} {s:Sem Unit} {w:World} {K:Value→World→Prop} (h:∃ w',s.run P w=.ok () w'∧K undef w') :
  OpOk2 P (do s;pure .skip) w K:=by
 obtain ⟨w',h1,h2⟩:=h;exact .inr ⟨w',by simp [h1],h2⟩
theorem OpOk.wp {P:Program} {o:Oper} {ρ:Nat→Value} {w:World} {K:Value→World→Prop} {a:Act} {next:Act→World→Prop} {Q:Exit→Act→World→Prop}
  (he:a.eval=ev ρ) (h:OpOk P (execOp (ev ρ) o) w K) (hn:∀ v w',K v w'→next (a.put o.dst v) w'):o.wp P a w next Q:=by
 unfold Oper.wp;rw [he]
 rcases h with (⟨v,w',h1,h2⟩|⟨w',h1,h2⟩)|⟨f,args,h1,h2⟩
 ·rw [h1];exact hn _ _ h2
 ·rw [h1];exact hn _ _ h2
 ·rw [h1,Oper.upon_enter];refine h2.mono fun e w' ⟨v,he,hk⟩=>?_;subst he;exact hn _ _ hk
def qy0 (c a b:Value) (K:Value→Prop):Prop:=
 match c with
 | .bool t=>Tst t (qgj a K) (qgj b K)
 | _=>False
def idxV (P:Program) (t:TypeId) (x i:Value) (K:Value→Prop):Prop:=
 match P.underlying t,x,i with
 | some .string,.string s,.int _ i=>IdxV i s.size fun j=>K (.int .u8 (gb s j).toNat)
 | some (.array n e),.agg cs,.int _ i=>
  match P.underlying e with
  | some d=>bif hasT P e then bif aggD d then IdxV i n fun j=>Wit (fun l:List Value=>(cs.toList.drop (j*tsz P e)).take (tsz P e)=l) fun l=>K (.agg l.toArray)
   else IdxV i n fun j=>Wit (fun v:Value=>cs.toList[j*tsz P e]?=some v) K else False
  | none=>False
 | _,_,_=>False
def qkt (P:Program) (t:TypeId) (x i:Value) (K:Value→Prop):Prop:=
 match P.underlying t,x,i with
 | some (.slice e),.slice A len _,.int _ i=>bif hasT P e then ElemV A i len (tsz P e) K else False
 | some (.array n e),.pointer (some ⟨b,off,none⟩),.int _ i=>bif hasT P e then IdxV i n fun j=>K (.pointer (some ⟨b,off+j*tsz P e,none⟩)) else False
 | _,_,_=>False
def qqs (P:Program) (t:TypeId) (x:Value) (w:World) (K:Value→Prop):Prop:=
 match P.underlying t,x with
 | some d,.pointer (some ⟨b,off,none⟩)=>
  bif aggD d then bif hasT P t then LoadA w b off (tsz P t) fun cs=>qb2 cs fun l=>K (.agg l.toArray) else False
  else LoadV w b off fun v=>qgj v K
 | _,_=>False
def qp1 (P:Program) (t:TypeId) (x v:Value) (w:World) (s:Sem Next) (K:Value→World→Prop):Prop:=
 match x with
 | .pointer (some ⟨b,off,none⟩)=>
  match v with
  | .tuple _=>Fall P s w K
  | .agg cs=>bif hasT P t&&Nat.beq (tsz P t) cs.toList.length then StoreA P w b off cs.toList fun w'=>K undef w' else False
  | v=>bif hasT P t&&Nat.beq (tsz P t) 1 then StoreV w b off v fun w'=>K undef w' else False
 | _=>False
def qko (x:Value) (ix:Nat) (K:Value→Prop):Prop:=
 match x with
 | .tuple vs=>match getL vs.toList ix with
  | some v=>qgj v K
  | none=>False
 | _=>False
def qgf (P:Program) (t:TypeId) (x:Value) (f:Nat) (K:Value→Prop):Prop:=
 match P.underlying t,x with
 | some (.struct fs),.pointer (some ⟨b,off,none⟩)=>
  match getL fs.toList f with
  | some f=>bif hasT P f.type && !Nat.beq (tsz P f.type) 0 then K (.pointer (some ⟨b,off+f.offset,none⟩)) else False
  | none=>False
 | _,_=>False
def qs2 (P:Program) (t:TypeId) (x:Value) (f:Nat) (K:Value→Prop):Prop:=
 match P.underlying t,x with
 | some (.struct fs),.agg cs=>
  match getL fs.toList f with
  | some f=>match P.underlying f.type with
   | some d=>bif aggD d then bif hasT P f.type then qb2 ((cs.toList.drop f.offset).take (tsz P f.type)) fun l=>K (.agg l.toArray) else False
    else match getL cs.toList f.offset with
     | some v=>qgj v K
     | none=>False
   | none=>False
  | none=>False
 | _,_=>False
def boxV (t:TypeId) (v:Value) (w:World) (K:Value→World→Prop):Prop:=
 qb2 v.cells.toList fun l=>NewV w (.cells l.toArray t) fun b w'=>K (.pointer (some ⟨b,0,none⟩)) w'
def qot (P:Program) (t:TypeId) (w:World) (K:Value→World→Prop):Prop:=
 match P.info? t with
 | some i=>match i.zero with
  | some z=>boxV t z w K
  | none=>False
 | none=>False
def CellsAt (w:World) (b off:Nat) (vs:List Value):Prop:=∀ k v,vs[k]?=some v→w.cell? ⟨b,off+k,none⟩=some v
def byteCells (l:List UInt8):List Value:=l.map fun c=>.int .u8 c.toNat
structure BytesS (w:World) (A:Option Addr) (n:Nat) (K:Value→Prop):Prop where
 h:∃ l:List UInt8,l.length=n∧(l≠[]→∃ b off,A=some ⟨b,off,none⟩∧CellsAt w b off (byteCells l))∧K (.string ⟨l.toArray⟩)
structure NewBytesV (s:ByteArray) (e:TypeId) (w:World) (K:Value→World→Prop):Prop where
 h:∀ cap cs b w',s.size≤cap→cs=(byteCells s.data.toList++List.replicate (cap-s.size) (Value.int .u8 0)).toArray→b=w.heap.size→
  w'=w.drew.alloc (.cells cs e (cs.size,cs.size+1))→K (.slice (some ⟨b,0,none⟩) s.size cap) w'
def qyb (P:Program) (src dst:TypeId) (x:Value) (w:World) (s:Sem Next) (K:Value→World→Prop):Prop:=
 match P.underlying src,P.underlying dst,x with
 | some _,some (.int k),.int _ n=>Wit (fun r=>k.wrap n=r) fun r=>K (.int k r) w
 | some .string,some .string,.string s=>K (.string s) w
 | some (.int _),some .string,.int _ n=>K (.string (Utf8.encode n)) w
 | some (.slice e),some .string,.slice A n _=>match P.underlying e with
  | some (.int .u8)=>BytesS w A n fun v=>K v w
  | _=>Fall P s w K
 | some .string,some (.slice e),.string x=>match P.underlying e with
  | some (.int .u8)=>NewBytesV x e w K
  | _=>Fall P s w K
 | _,_,_=>Fall P s w K
def unV (op:UnOp) (x:Value) (K:Value→Prop):Prop:=
 match op,x with
 | .not,.bool b=>K (.bool (!b))
 | .neg,.int k n=>Obl (InR k (-n)) (K (.int k (-n)))
 | .xor,.int k n=>Wit (fun r=>qel .xor k (if k.signed then -1 else k.max) n=r) (fun r=>K (.int k r))
 | _,_=>False
def bnd (o:Option Value) (d n:Nat):Prop:=
 match o with
 | none=>n=d
 | some (.int _ i)=>i=(n:Int)
 | _=>False
structure SliceS (s:ByteArray) (lo hi:Option Value) (K:Value→Prop):Prop where
 h:∃ l h:Nat,bnd lo 0 l∧bnd hi s.size h∧l≤h∧h≤s.size∧K (.string (s.extract l h))
structure SliceV (size:Nat) (A:Option Addr) (len cap:Nat) (lo hi mx:Option Value) (K:Value→Prop):Prop where
 h:∃ l h m:Nat,bnd lo 0 l∧bnd hi len h∧bnd mx cap m∧l≤h∧h≤m∧m≤cap∧(mx.isSome=true→hi.isSome=true)∧
  ∀ A',A'=(if m=l then A else A.map (·.add (l*size)))→K (.slice A' (h-l) (m-l))
def evo (ρ:Nat→Value):Option Operand→Option Value
 | none=>none
 | some x=>some (ev ρ x)
def qup (P:Program) (t:TypeId) (x:Value) (lo hi mx:Option Value) (w:World) (s:Sem Next) (K:Value→World→Prop):Prop:=
 match P.underlying t,x with
 | some .string,.string s=>match mx with
  | none=>SliceS s lo hi fun v=>K v w
  | some _=>False
 | some (.slice e),.slice A len cap=>bif hasT P e then SliceV (tsz P e) A len cap lo hi mx fun v=>K v w else False
 | _,_=>Fall P s w K
def lenV (P:Program) (t:Option TypeId) (x:List Value) (w:World) (s:Sem Next) (K:Value→World→Prop):Prop:=
 match t,x with
 | some t,v::_=>match P.underlying t,v with
  | some .string,.string s=>K (.int .i64 s.size) w
  | some (.slice _),.slice _ n _=>K (.int .i64 n) w
  | _,_=>Fall P s w K
 | _,_=>Fall P s w K
structure CallV (P:Program) (f:FuncId) (args:List Value) (w:World) (K:Value→World→Prop):Prop where
 h:Gv P f args w K∨∃ v w',(callFunc f args.toArray).run P w=.ok (.value v) w'∧K v w'
def appV (P:Program) (argTypes:Array TypeId) (ty:TypeId) (vs:List Value) (w:World) (s:Sem Next) (K:Value→World→Prop):Prop:=
 match vs with
 | [a,b]=>qgj a fun a=>qgj b fun b=>AppV P argTypes ty a b w fun v w'=>qgj v fun v=>K v w'
 | _=>Fall P s w K
def qsh (P:Program) (c:Call) (ty:TypeId) (ρ:Nat→Value) (w:World) (s:Sem Next) (K:Value→World→Prop):Prop:=
 match c.callee with
 | .value f=>match ev ρ f with
  | .func (.func g) first captured=>qb2 (evs ρ c.args.toList) fun vs=>
   match first.toList,captured.toList with
   | [],[]=>CallV P g vs w K
   | x,y=>CallV P g (x++(vs++y)) w K
  | _=>Fall P s w K
 | .builtin .len=>lenV P (getL c.argTypes.toList 0) (evs ρ c.args.toList) w s K
 | .builtin .append=>appV P c.argTypes ty (evs ρ c.args.toList) w s K
 | _=>Fall P s w K
def csz:Value→Nat
 | .agg cs=>cs.size
 | _=>1
def qm1:List Value→Nat→List Value→List Value
 | l,_,[]=>l
 | l,off,v::vs=>qm1 (setL l off v) (off+1) vs
def ql0 (place:Nat→Option (Nat × Nat)) (cells:List Value):List (Nat × Value)→Option (List Value)
 | []=>some cells
 | (i,v)::rest=>
  match place i with
  | none=>none
  | some (off,size)=>bif Nat.beq (csz v) size&&Nat.ble (off+csz v) cells.length then ql0 place (qm1 cells off v.cells.toList) rest else none
def evp (ρ:Nat→Value):List (Nat × Operand)→List (Nat × Value)
 | []=>[]
 | (i,x)::l=>(i,ev ρ x)::evp ρ l
def qc2 (P:Program):List Field→List (Nat × Nat)
 | []=>[]
 | f::l=>(f.offset,tsz P f.type)::qc2 P l
def allT (P:Program):List Field→Bool
 | []=>true
 | f::l=>hasT P f.type&&allT P l
def qjl (P:Program) (t:TypeId) (parts:List (Nat × Value)) (K:Value→Prop):Prop:=
 match P.info? t with
 | some i=>match i.zero with
  | some z=>match P.underlying t with
   | some (.struct fs)=>bif allT P fs.toList then
     match ql0 (fun k=>getL (qc2 P fs.toList) k) z.cells.toList parts with
     | some l=>qb2 l fun l=>K (.agg l.toArray)
     | none=>False
    else False
   | some (.array _ e)=>bif hasT P e then
     match ql0 (fun k=>some (k*tsz P e,tsz P e)) z.cells.toList parts with
     | some l=>qb2 l fun l=>K (.agg l.toArray)
     | none=>False
    else False
   | _=>False
  | none=>False
 | none=>False
def qa6 (z:List Value):Nat→List Value
 | 0=>[]
 | n+1=>z++qa6 z n
def qex (P:Program) (t:TypeId) (len:Nat) (parts:List (Nat × Value)) (w:World) (K:Value→World→Prop):Prop:=
 match P.underlying t with
 | some (.slice e)=>match P.info? e with
  | some i=>match i.zero with
   | some z=>bif Nat.beq z.cells.toList.length i.size&&Nat.ble (len*i.size) 16777216 && !Nat.beq i.size 0 then
     match ql0 (fun k=>some (k*i.size,i.size)) (qa6 z.cells.toList len) parts with
     | some l=>qb2 l fun l=>NewV w (.cells l.toArray e) fun b w'=>K (.slice (some ⟨b,0,none⟩) len len) w'
     | none=>False
    else False
   | none=>False
  | none=>False
 | _=>False
structure MakeV (z:List Value) (bytes e:Nat) (len cap:Int) (w:World) (K:Value→World→Prop):Prop where
 h:∃ l c:Nat,len=(l:Int)∧cap=(c:Int)∧l≤c∧c*bytes≤140737488355328∧c<9223372036854775808∧
  ∀ b w',b=w.heap.size→w'=w.alloc (.cells (qa6 z c).toArray e)→K (.slice (some ⟨b,0,none⟩) l c) w'
def qgo (P:Program) (t:TypeId) (len cap:Value) (w:World) (K:Value→World→Prop):Prop:=
 match P.underlying t,len,cap with
 | some (.slice e),.int _ len,.int _ cap=>match P.info? e with
  | some i=>match i.zero with
   | some z=>bif Nat.beq z.cells.toList.length i.size && !Nat.beq i.size 0 then MakeV z.cells.toList i.bytes e len cap w K else False
   | none=>False
  | none=>False
 | _,_,_=>False
def qgn (P:Program) (t:TypeId) (x:Value) (K:Value→Prop):Prop:=
 match P.underlying t with
 | some (.interface _)=>False
 | some _=>K (.iface t x)
 | none=>False
def nilV (P:Program) (x:Value) (w:World) (s:Sem Next) (K:Value→World→Prop):Prop:=
 match x with
 | .pointer (some a)=>K (.pointer (some a)) w
 | _=>Fall P s w K
def setO (w:World) (r:Nat) (o:Obj):World:={ w with heap:=w.heap.setIfInBounds r o }
def qt7 (P:Program) (t:TypeId) (x:Value) (w:World) (s:Sem Next) (K:Value→World→Prop):Prop:=
 match P.underlying t,x with
 | some .string,.string s=>NewV w (.stringIter s 0) fun b w'=>K (.pointer (some ⟨b,0,none⟩)) w'
 | _,_=>Fall P s w K
structure NextS (w:World) (r:Nat) (K:Value→World→Prop):Prop where
 h:∃ s pos,w.heap[r]?=some (.stringIter s pos)∧
  (pos<s.size→∀ w',w'=setO w r (.stringIter s (pos+(Utf8.decode s pos).2))→K (.tuple #[.bool true,.int .i64 pos,.int .i32 (Utf8.decode s pos).1]) w')∧
  (¬ pos<s.size→K (.tuple #[.bool false]) w)
def qys (P:Program) (x:Value) (isString:Bool) (w:World) (s:Sem Next) (K:Value→World→Prop):Prop:=
 match isString,x with
 | true,.pointer (some ⟨r,0,none⟩)=>NextS w r K
 | _,_=>Fall P s w K
def opV (P:Program) (o:Oper) (ρ:Nat→Value) (w:World) (K:Value→World→Prop):Prop:=
 match o.op with
 | .move x | .assign x=>qgj (ev ρ x) fun v=>K v w
 | .pick c a b=>qy0 (ev ρ c) (ev ρ a) (ev ρ b) fun v=>K v w
 | .binOp op t x y _=>binV P op t x y (ev ρ x) (ev ρ y) w (fun v=>K v w) K
 | .unOp op _ x=>unV op (ev ρ x) fun v=>K v w
 | .convert src dst x=>qyb P src dst (ev ρ x) w (execOp (ev ρ) o) K
 | .index t x i=>idxV P t (ev ρ x) (ev ρ i) fun v=>K v w
 | .indexAddr t x i=>qkt P t (ev ρ x) (ev ρ i) fun v=>K v w
 | .load t x=>qqs P t (ev ρ x) w fun v=>K v w
 | .store t x v=>qp1 P t (ev ρ x) (ev ρ v) w (execOp (ev ρ) o) K
 | .extract x ix=>qko (ev ρ x) ix fun v=>K v w
 | .fieldAddr t x f=>qgf P t (ev ρ x) f fun v=>K v w
 | .field t x f=>qs2 P t (ev ρ x) f fun v=>K v w
 | .box t x=>boxV t (ev ρ x) w K
 | .alloc t=>qot P t w K
 | .slice t x lo hi mx=>qup P t (ev ρ x) (evo ρ lo) (evo ρ hi) (evo ρ mx) w (execOp (ev ρ) o) K
 | .nilCheck x=>nilV P (ev ρ x) w (execOp (ev ρ) o) K
 | .call c=>qsh P c o.type ρ w (execOp (ev ρ) o) K
 | .build t parts=>qjl P t (evp ρ parts.toList) fun v=>K v w
 | .buildSlice t len parts=>qex P t len (evp ρ parts.toList) w K
 | .makeSlice t l c=>qgo P t (ev ρ l) (ev ρ c) w K
 | .makeFunc fn first captured=>qb2 (evs ρ first.toList) fun a=>qb2 (evs ρ captured.toList) fun b=>K (.func fn a.toArray b.toArray) w
 | .makeInterface t x=>qgn P t (ev ρ x) fun v=>K v w
 | .range t x=>qt7 P t (ev ρ x) w (execOp (ev ρ) o) K
 | .next it b=>qys P (ev ρ it) b w (execOp (ev ρ) o) K
 | _=>Fall P (execOp (ev ρ) o) w K
section
variable {P:Program} {w:World}
theorem Fall.ok {s:Sem Next} {K:Value→World→Prop} (h:Fall P s w K):OpOk2 P s w K:=by
 rcases h.h with h|h
 ·exact .inl h
 ·exact .inr h
theorem q0f {v:Value} {K:Value→World→Prop} (h:K v w):OpOk2 P (pure (.value v)) w K:=.inl ⟨v,w,rfl,h⟩
theorem valV {s:Sem Value} {v:Value} {K:Value→World→Prop} (hs:s.run P w=.ok v w) (h:K v w):OpOk2 P (do pure (.value (← s))) w K:=
 OpOk2.val ⟨v,w,hs,h⟩
theorem qv6 {t:TypeId} (h:hasT P t=true):∃ i,P.info? t=some i∧tsz P t=i.size:=by
 unfold hasT at h;unfold tsz;cases e:P.info? t with
 | none=>rw [e] at h;cases h
 | some i=>exact ⟨i,rfl,rfl⟩
theorem qx {t:TypeId} (h:hasT P t=true):(sizeOf t).run P w=.ok (tsz P t) w:=by
 obtain ⟨i,h1,h2⟩:=qv6 h;simp [sizeOf,typeInfo,h1,h2]
theorem qc4 {t:TypeId} {d:TypeDesc} (h:P.underlying t=some d):(isAgg t).run P w=.ok (aggD d) w:=by
 cases d<;>simp [isAgg,run_underlying h,aggD]
theorem qhb {t:TypeId} {d:TypeDesc} (h:P.underlying t=some d) (hd:aggD d=true) (hi:hasT P t=true) (cs:Array Value) (off:Nat) :
  (part t cs off).run P w=.ok (.agg ((cs.toList.drop off).take (tsz P t)).toArray) w:=by
 simp [part,qc4 h,hd,qx hi];rw [← Array.toList_inj];simp [List.take_drop]
theorem qfv {t:TypeId} {d:TypeDesc} (h:P.underlying t=some d) (hd:aggD d=false) (cs:Array Value) (off:Nat) {v:Value} (hv:cs.toList[off]?=some v) :
  (part t cs off).run P w=.ok v w:=by
 have hv':cs[off]?=some v:=by simpa using hv
 simp [part,qc4 h,hd,hv']
theorem qwl {ρ:Nat→Value} {c a b:Operand} {K:Value→World→Prop} (h:qy0 (ev ρ c) (ev ρ a) (ev ρ b) (fun v=>K v w)) :
  OpOk2 P (do pure (.value (if ← asBool (ev ρ c) then ev ρ a else ev ρ b))) w K:=by
 unfold qy0 at h
 split at h
 ·rename_i t e
  rw [e];cases t
  ·have:=h.f rfl;rw [qa4] at this;exact .inl ⟨_,w,by simp [asBool],this⟩
  ·have:=h.t rfl;rw [qa4] at this;exact .inl ⟨_,w,by simp [asBool],this⟩
 ·exact h.elim
theorem qz2 (s:ByteArray) (j:Nat) (h:j<s.size):s[j]?=some (gb s j):=by
 unfold gb;have h':j<s.data.toList.length:=by simpa using h
 rw [List.getD_eq_getElem?_getD,List.getElem?_eq_getElem h',Option.getD_some];exact getElem?_pos s j h
theorem qyl {t:TypeId} {x i:Value} {K:Value→World→Prop} (h:idxV P t x i (fun v=>K v w)) :
  OpOk2 P (do pure (.value (← Instr.index t x i))) w K:=by
 unfold idxV at h
 split at h
 ·rename_i hu
  obtain ⟨j,rfl,hj,hk⟩:=h;refine valV ?_ hk;simp [Instr.index,asIntOf,run_underlying hu,qz2 _ _ hj]
 ·rename_i hu
  split at h
  ·rename_i d hd
   cases hT:hasT P _<;>rw [hT] at h
   ·exact h.elim
   ·cases ha:aggD d<;>rw [ha] at h
    ·obtain ⟨j,rfl,hj,v,hv,hk⟩:=h;refine valV ?_ hk;simp [Instr.index,asIntOf,run_underlying hu,hj,qx hT,qfv hd ha _ _ hv]
    ·obtain ⟨j,rfl,hj,l,hl,hk⟩:=h;subst hl;refine valV ?_ hk;simp [Instr.index,asIntOf,run_underlying hu,hj,qx hT,qhb hd ha hT]
  ·exact h.elim
 ·exact h.elim
theorem qai (b off n:Nat):(⟨b,off,none⟩:Addr).add n=⟨b,off+n,none⟩:=by
 unfold Addr.add;split
 ·subst_vars;rfl
 ·rfl
theorem qnl {t:TypeId} {x i:Value} {K:Value→World→Prop} (h:qkt P t x i (fun v=>K v w)) :
  OpOk2 P (do pure (.value (← Instr.indexAt t x i))) w K:=by
 unfold qkt at h
 split at h
 ·rename_i hu
  cases hT:hasT P _<;>rw [hT] at h
  ·exact h.elim
  ·obtain ⟨b,off,j,rfl,rfl,hj,hk⟩:=h;refine valV ?_ hk;simp [Instr.indexAt,asIntOf,run_underlying hu,hj,qx hT,qai]
 ·rename_i hu
  cases hT:hasT P _<;>rw [hT] at h
  ·exact h.elim
  ·obtain ⟨j,rfl,hj,hk⟩:=h;refine valV ?_ hk;simp [Instr.indexAt,asIntOf,run_underlying hu,hj,qx hT,qai,Instr.sureAddr]
 ·exact h.elim
theorem qwd {t:TypeId} {x:Value} {K:Value→World→Prop} (h:qqs P t x w (fun v=>K v w)) :
  OpOk2 P (do pure (.value (← Instr.loadAt t x))) w K:=by
 unfold qqs at h
 split at h
 ·rename_i d b off hu
  cases ha:aggD d<;>rw [ha] at h
  ·obtain ⟨v,hv,hk⟩:=h;rw [qa4] at hk;refine valV ?_ hk;simp [Instr.loadAt,Instr.sureAddr,loadVar,qc4 hu,ha,go_sem,hv]
  ·cases hT:hasT P t<;>rw [hT] at h
   ·exact h.elim
   ·obtain ⟨cs,hl,hc,hk⟩:=h;rw [qak] at hk;refine valV ?_ hk;have:=run_loadCells_list (P:=P) w ⟨b,off,none⟩ cs (fun j v hv=>by
     have hj:j<cs.length:=by
      rcases Nat.lt_or_ge j cs.length with h|h
      ·exact h
      ·rw [List.getElem?_eq_none h] at hv;cases hv
     rw [qai,hc j (by omega)];exact hv)
    simp [Instr.loadAt,Instr.sureAddr,loadVar,qc4 hu,ha,qx hT,← hl,this]
 ·exact h.elim
theorem quu {t:TypeId} {x v:Value} {s:Sem Next} {K:Value→World→Prop} (hs:s=(do Instr.storeAt t x v;pure .skip)) (h:qp1 P t x v w s K) :
  OpOk2 P s w K:=by
 unfold qp1 at h
 split at h
 ·rename_i b off
  split at h
  ·exact h.ok
  ·rename_i cs
   cases hT:hasT P t<;>rw [hT] at h
   ·exact h.elim
   ·cases hn:Nat.beq (tsz P t) cs.toList.length<;>rw [hn] at h
    ·exact h.elim
    ·obtain ⟨w',h1,hk⟩:=h;subst hs;have hn':tsz P t=cs.size:=by simpa using Nat.eq_of_beq_eq_true hn
     refine OpOk2.unit ⟨_,?_,hk⟩;have hc:(Value.agg cs).cells=cs:=rfl;simp only [Instr.storeAt,Instr.sureAddr,storeVar,hc];simp [qx hT,hn',h1]
  ·rename_i hv1 hv2
   cases hT:hasT P t<;>rw [hT] at h
   ·exact h.elim
   ·cases hn:Nat.beq (tsz P t) 1<;>rw [hn] at h
    ·exact h.elim
    ·obtain ⟨⟨o,ho⟩,hf,h1,hk⟩:=h;subst hs;have hn':tsz P t=1:=Nat.eq_of_beq_eq_true hn;refine OpOk2.unit ⟨_,?_,hk⟩;cases v<;>first
      | (exact (hv1 _ rfl).elim)
      | (exact (hv2 _ rfl).elim)
      | simp [Instr.storeAt,Instr.sureAddr,storeVar,Value.cells,qx hT,hn',storeCells,store,Sem.run,Addr.add,ho,hf]
 ·exact h.elim
theorem qnh {x:Value} {ix:Nat} {K:Value→World→Prop} (h:qko x ix (fun v=>K v w)) :
  OpOk2 P (do pure (.value (← Instr.extract x ix))) w K:=by
 unfold qko at h
 split at h
 ·rename_i vs
  split at h
  ·rename_i v hv
   rw [qa4] at h;rw [qo] at hv;have hv':vs[ix]?=some v:=by simpa using hv
   refine valV ?_ h;simp [Instr.extract,hv']
  ·exact h.elim
 ·exact h.elim
theorem qkp {t:TypeId} {x:Value} {f:Nat} {K:Value→World→Prop} (h:qgf P t x f (fun v=>K v w)) :
  OpOk2 P (do pure (.value (← Instr.fieldAt t x f))) w K:=by
 unfold qgf at h
 split at h
 ·rename_i fs b off hu
  split at h
  ·rename_i fd hfd
   rw [qo] at hfd;have hfd':fs[f]?=some fd:=by simpa using hfd
   cases hT:hasT P fd.type<;>rw [hT] at h
   ·exact h.elim
   ·cases hz:Nat.beq (tsz P fd.type) 0<;>rw [hz] at h
    ·refine valV ?_ h;have hz':¬ tsz P fd.type=0:=fun e=>by rw [e] at hz;cases hz
     simp [Instr.fieldAt,run_underlying hu,hfd',Instr.sureAddr,fieldPlace,qx hT,hz',qai]
    ·exact h.elim
  ·exact h.elim
 ·exact h.elim
theorem qs3 {t:TypeId} {x:Value} {f:Nat} {K:Value→World→Prop} (h:qs2 P t x f (fun v=>K v w)) :
  OpOk2 P (do pure (.value (← Instr.field t x f))) w K:=by
 unfold qs2 at h
 split at h
 ·rename_i fs cs hu
  split at h
  ·rename_i fd hfd
   rw [qo] at hfd;have hfd':fs[f]?=some fd:=by simpa using hfd
   split at h
   ·rename_i d hd
    cases ha:aggD d<;>rw [ha] at h
    ·simp only [cond_false] at h
     split at h
     ·rename_i v hv
      rw [qa4] at h;rw [qo] at hv;refine valV ?_ h;simp [Instr.field,run_underlying hu,hfd',asAgg,qfv hd ha _ _ hv]
     ·exact h.elim
    ·cases hT:hasT P fd.type<;>rw [hT] at h
     ·exact h.elim
     ·simp only [cond_true,qak] at h;refine valV ?_ h;simp [Instr.field,run_underlying hu,hfd',asAgg,qhb hd ha hT]
   ·exact h.elim
  ·exact h.elim
 ·exact h.elim
theorem qoz {t:TypeId} {v:Value} {K:Value→World→Prop} (h:boxV t v w K) :
  ∃ a,(newVar t v).run P w=.ok a (w.alloc (.cells v.cells t))∧K (.pointer (some a)) (w.alloc (.cells v.cells t)):=by
 unfold boxV at h;rw [qak] at h;refine ⟨⟨w.heap.size,0,none⟩,by simp [newVar,newRow,go_sem],?_⟩;have:=h.h w.heap.size (w.alloc (.cells v.cells t)) rfl (by simp);exact this
theorem qx6 {t:TypeId} {v:Value} {K:Value→World→Prop} (h:boxV t v w K):OpOk2 P (do pure (.value (← Instr.box t v))) w K:=by
 obtain ⟨a,h1,h2⟩:=qoz (P:=P) h;exact OpOk2.val ⟨_,_,by simp [Instr.box,h1],h2⟩
theorem qr9 {t:TypeId} {K:Value→World→Prop} (h:qot P t w K):OpOk2 P (do pure (.value (← Instr.alloc t true (.tuple #[])))) w K:=by
 unfold qot at h
 split at h
 ·rename_i i hi
  split at h
  ·rename_i z hz
   obtain ⟨a,h1,h2⟩:=qoz (P:=P) h;exact OpOk2.val ⟨_,_,by simp [Instr.alloc,zeroValue,typeInfo,hi,hz,h1],h2⟩
  ·exact h.elim
 ·exact h.elim
theorem qun (w:World) (cs:Array Value) (e:TypeId) (n:Nat) (hn:n=w.heap.size):(w.alloc (.cells cs e)).shape? n=some (e,cs.size):=by
 subst hn;unfold World.shape?;rw [heap_alloc_new]
theorem qqn (w:World) (cs:Array Value) (e:TypeId) (n:Nat) (hn:n=w.heap.size):(w.alloc (.cells cs e)).freeze ⟨n,cs.size,none⟩ 1=w.alloc (.cells cs e (cs.size,cs.size+1)):=by
 subst hn;unfold World.freeze World.alloc;rw [if_neg (by decide)];simp only
 congr 1
 apply Array.ext
 ·simp
 ·intro i h1 h2;rw [Array.getElem_modify];simp only [Array.getElem_push]
  split
  ·rename_i hi
   subst hi;simp
  ·rename_i hi
   simp at h2;rw [dif_pos (by omega),dif_pos (by omega)]
theorem qvp {src dst:TypeId} {x:Value} {s:Sem Next} {K:Value→World→Prop} (hs:s=(do pure (.value (← convert src dst x)))) (h:qyb P src dst x w s K) :
  OpOk2 P s w K:=by
 unfold qyb at h
 split at h
 ·rename_i d k n h1 h2
  obtain ⟨r,rfl,hk⟩:=h;subst hs;refine valV ?_ hk;cases d<;>simp [convert,run_underlying h1,run_underlying h2,Conv.intToInt]
 ·rename_i sx h1 h2
  subst hs;refine valV ?_ h;simp [convert,run_underlying h1,run_underlying h2]
 ·rename_i h1 h2
  subst hs;refine valV ?_ h;simp [convert,run_underlying h1,run_underlying h2,Conv.intToString]
 ·rename_i e A n c h1 h2
  split at h
  ·rename_i he
   subst hs;obtain ⟨l,hl,hA,hk⟩:=h;refine valV ?_ hk;cases A with
   | none=>
    have hl0:l=[]:=by
     cases l with
     | nil=>rfl
     | cons x r=>obtain ⟨b,off,h0,_⟩:=hA (by simp);cases h0
    subst hl0;exact run_convert_bytes_nil w src e h1 he _ _ dst h2
   | some a=>
    rw [run_convert_bytes_string w src dst e _ _ _ h1 he h2];have hc:(loadCells a n).run P w=.ok ((l.map fun c=>(c.toNat:Int)).map (Value.int .u8)).toArray w:=by
     have:=run_loadCells_list (P:=P) w a (byteCells l) (fun j v hv=>by
      obtain ⟨b,off,h0,h3⟩:=hA (by intro e;subst e;simp [byteCells] at hv);cases h0;rw [qai];exact h3 j v hv)
     rw [show (byteCells l).length=n by simp [byteCells,hl]] at this;rw [this,byteCells,List.map_map];rfl
    rw [run_bytesToString w a n c _ hc,foldl_push_bytes]
    congr 3
    simp [ByteArray.empty,ByteArray.emptyWithCapacity];show ([]:List UInt8)++_=l;rw [List.nil_append];have:∀ l:List UInt8,l.map ((fun n:Int=>UInt8.ofNat n.toNat) ∘ fun c:UInt8=>(c.toNat:Int))=l:=by
     intro l;induction l with
     | nil=>rfl
     | cons x r ih=>simp [ih]
    exact this l
  ·exact h.ok
 ·rename_i e x h1 h2
  split at h
  ·rename_i he
   subst hs;have hcut:∀ t,x.size≤Question.cut (.appendCap x.size 0 e) t:=fun t=>by simp [Question.cut]
   have hk:=h.h (Question.cut (.appendCap x.size 0 e) (w.tape w.drawn (.appendCap x.size 0 e))) _ w.heap.size _ (hcut _) rfl rfl rfl;refine OpOk2.val ⟨_,_,?_,hk⟩;generalize hcap:Question.cut (.appendCap x.size 0 e) (w.tape w.drawn (.appendCap x.size 0 e))=cap;have hcells:(x.data.map (fun b=>Value.int .u8 b.toNat)++Array.replicate (cap-x.size) (Value.int .u8 0))=(byteCells x.data.toList++List.replicate (cap-x.size) (Value.int .u8 0)).toArray:=by
    rw [← Array.toList_inj];simp [byteCells]
   simp only [convert];simp [run_underlying h1,run_underlying h2,run_underlying he,Conv.stringToBytes,choose,Sem.run,Question.forced,hcap,hcells,newRow,newObj,markStringish,shape,freeze];rw [qun w.drew _ _ w.heap.size rfl];simp only [Sem.run,Result.andThen];rw [qqn w.drew _ _ w.heap.size rfl];simp
  ·exact h.ok
 ·exact h.ok
theorem q0p {op:UnOp} {x:Value} {K:Value→World→Prop} (h:unV op x (fun v=>K v w)):OpOk2 P (do pure (.value (← Op.unary op x))) w K:=by
 unfold unV at h
 split at h
 ·exact valV (by simp [Op.unary]) h
 ·obtain ⟨hr,hk⟩:=h;refine valV ?_ hk;simp [Op.unary,Op.intArith,hr.wrap]
 ·obtain ⟨r,rfl,hk⟩:=h;refine valV ?_ hk;simp [Op.unary,Op.intBits,qel]
 ·exact h.elim
theorem qbw {o:Value} {d n y:Nat} {c:BoundsCode} (h:bnd (some o) d n) (hy:n≤y):(Instr.sliceBound o y c).run P w=.ok n w:=by
 unfold bnd at h
 split at h
 ·rename_i e;cases e
 ·rename_i k i e
  cases e;subst h;simp [Instr.sliceBound,asIntOf,hy]
 ·exact h.elim
theorem quq {t:TypeId} {x:Value} {lo hi mx:Option Value} {s:Sem Next} {K:Value→World→Prop}
  (hs:s=(do pure (.value (← Instr.sliceAt t x lo hi mx)))) (h:qup P t x lo hi mx w s K):OpOk2 P s w K:=by
 unfold qup at h
 split at h
 ·rename_i sx hu
  subst hs
  split at h
  ·obtain ⟨l,hh,h1,h2,h3,h4,hk⟩:=h;refine valV ?_ hk;cases lo with
   | none=>
    cases hi with
    | none=>
     cases h1;cases h2;simp [Instr.sliceAt,Instr.slice,Instr.sliceBounds,run_underlying hu]
    | some b=>
     cases h1;simp [Instr.sliceAt,Instr.slice,Instr.sliceBounds,run_underlying hu,qbw h2 h4]
   | some a=>
    cases hi with
    | none=>
     cases h2;simp [Instr.sliceAt,Instr.slice,Instr.sliceBounds,run_underlying hu,qbw h1 h3]
    | some b=>simp [Instr.sliceAt,Instr.slice,Instr.sliceBounds,run_underlying hu,qbw h1 h3,qbw h2 h4]
  ·exact h.elim
 ·rename_i e A len cap hu
  subst hs;cases hT:hasT P e<;>rw [hT] at h
  ·exact h.elim
  ·obtain ⟨l,hh,m,h1,h2,h3,h4,h5,h6,h7,hk⟩:=h;have hk:=hk _ rfl;refine valV ?_ hk;cases mx with
   | none=>
    cases h3;cases lo with
    | none=>
     cases hi with
     | none=>
      cases h1;cases h2;simp [Instr.sliceAt,Instr.slice,Instr.sliceBounds,run_underlying hu,qx hT]
     | some b=>
      cases h1;simp [Instr.sliceAt,Instr.slice,Instr.sliceBounds,run_underlying hu,qx hT,qbw h2 h5]
    | some a=>
     cases hi with
     | none=>
      cases h2;simp [Instr.sliceAt,Instr.slice,Instr.sliceBounds,run_underlying hu,qx hT,qbw h1 h4]
     | some b=>simp [Instr.sliceAt,Instr.slice,Instr.sliceBounds,run_underlying hu,qx hT,qbw h1 h4,qbw h2 h5]
   | some c=>
    cases hi with
    | none=>exact absurd (h7 rfl) (by simp)
    | some b=>
     cases lo with
     | none=>
      cases h1;simp [Instr.sliceAt,Instr.slice,Instr.sliceBounds,run_underlying hu,qx hT,qbw h2 h5,qbw h3 h6]
     | some a=>simp [Instr.sliceAt,Instr.slice,Instr.sliceBounds,run_underlying hu,qx hT,qbw h1 h4,qbw h2 h5,qbw h3 h6]
 ·exact h.ok
theorem qyu {ρ:Nat→Value} {o:Oper} {x:Operand} {K:Value→World→Prop} (ho:o.op=.nilCheck x) (h:nilV P (ev ρ x) w (execOp (ev ρ) o) K) :
  OpOk2 P (execOp (ev ρ) o) w K:=by
 unfold nilV at h
 split at h
 ·rename_i a e
  refine .inl ⟨_,w,?_,h⟩;simp [execOp,ho,e]
 ·exact h.ok
theorem qcs {f:FuncId} (h:qdx P f=true) (args:Array Value):(callFunc f args).run P w=.ok (.enter f args) w:=by
 unfold qdx at h;cases e:P.funcs[f]? with
 | none=>rw [e] at h;cases h
 | some fn=>
  rw [e] at h;simp only [Bool.and_eq_true,Bool.not_eq_true'] at h;have h1:¬ fn.name = "runtime.NumGoroutine":=by simpa using h.1
  have h2:¬ fn.body=none:=by
   intro hb;rw [hb] at h;cases h.2
  simp [callFunc,go_sem,e,h1,h2]
theorem CallV.ok {f:FuncId} {vs:List Value} {K:Value→World→Prop} (h:CallV P f vs w K):OpOk P (callFunc f vs.toArray) w K:=by
 rcases h.h with ⟨h1,h2⟩|⟨v,w',h1,h2⟩
 ·exact .inr ⟨f,vs.toArray,qcs h1 _,h2⟩
 ·exact .inl (.inl ⟨v,w',h1,h2⟩)
theorem qtu {ρ:Nat→Value} {o:Oper} {c:Call} {K:Value→World→Prop} (ho:o.op=.call c) (hc:c.callee=.builtin .len)
  (h:lenV P (getL c.argTypes.toList 0) (evs ρ c.args.toList) w (execOp (ev ρ) o) K):OpOk2 P (execOp (ev ρ) o) w K:=by
 unfold lenV at h
 split at h
 ·rename_i t v vs ht hv
  rw [qo] at ht;have ht':c.argTypes[0]?=some t:=by simpa using ht
  rw [qdm] at hv;have hv':(c.args.map (ev ρ))[0]?=some v:=by
   have:(c.args.map (ev ρ)).toList[0]?=some v:=by simp only [Array.toList_map,hv,List.getElem?_cons_zero]
   simpa using this
  have he:execOp (ev ρ) o=(do pure (.value (← Builtin.len_ c.argTypes o.type (c.args.map (ev ρ))))):=by
   simp only [execOp,ho,resolve,hc];rfl
  split at h
  ·rename_i s hu
   rw [he];exact valV (by simp only [Builtin.len_,ht',hv'];simp [run_underlying hu,goInt]) h
  ·rename_i hu
   rw [he];exact valV (by simp only [Builtin.len_,ht',hv'];simp [run_underlying hu,goInt]) h
  ·exact h.ok
 ·exact h.ok
theorem qx1 {ρ:Nat→Value} {o:Oper} {c:Call} {K:Value→World→Prop} (ho:o.op=.call c) (hc:c.callee=.builtin .append)
  (h:appV P c.argTypes o.type (evs ρ c.args.toList) w (execOp (ev ρ) o) K):OpOk2 P (execOp (ev ρ) o) w K:=by
 unfold appV at h
 split at h
 ·rename_i a b hv
  rw [qa4,qa4] at h;obtain ⟨v,w',h1,hk⟩:=h;rw [qa4] at hk;have he:execOp (ev ρ) o=(do pure (.value (← Builtin.append_ c.argTypes o.type (c.args.map (ev ρ))))):=by
   simp only [execOp,ho,resolve,hc];rfl
  have hv':c.args.map (ev ρ)=#[a,b]:=by
   rw [qdm] at hv;rw [← Array.toList_inj];simpa using hv
  rw [he,hv'];exact OpOk2.val ⟨v,w',h1,hk⟩
 ·exact h.ok
theorem qo1 {ρ:Nat→Value} {o:Oper} {c:Call} {K:Value→World→Prop} (ho:o.op=.call c) (h:qsh P c o.type ρ w (execOp (ev ρ) o) K) :
  OpOk P (execOp (ev ρ) o) w K:=by
 unfold qsh at h
 split at h
 ·rename_i f hc
  split at h
  ·rename_i g first captured hf
   rw [qak,qdm] at h;have he:execOp (ev ρ) o=callFunc g (first++c.args.map (ev ρ)++captured):=by
    simp only [execOp,ho,resolve,hc,hf];rfl
   rw [he];have key:CallV P g (first.toList++(c.args.toList.map (ev ρ)++captured.toList)) w K:=by
    split at h
    ·rename_i h1 h2;rw [h1,h2];simpa using h
    ·exact h
   have e2:(first.toList++(c.args.toList.map (ev ρ)++captured.toList)).toArray=first++c.args.map (ev ρ)++captured:=by
    rw [← Array.toList_inj];simp
   rw [← e2];exact key.ok
  ·exact .inl h.ok
 ·rename_i hc;exact .inl (qtu ho hc h)
 ·rename_i hc;exact .inl (qx1 ho hc h)
 ·exact .inl h.ok
theorem qzy (v:Value):csz v=v.cells.size:=by cases v<;>rfl
theorem quj (vs:List Value):∀ (cells:Array Value) (off k:Nat),
  (vs.zipIdx k).foldl (fun cs (x:Value × Nat)=>cs.setIfInBounds (off+x.2) x.1) cells=(qm1 cells.toList (off+k) vs).toArray:=by
 induction vs with
 | nil=>intro cells off k;simp [qm1]
 | cons v vs ih=>
  intro cells off k;simp only [List.zipIdx_cons,List.foldl_cons,qm1];rw [ih,qzf];simp [Nat.add_assoc]
theorem qnj (place:Nat→Option (Nat × Nat)) (parts:List (Nat × Value)):∀ (cells:List Value) (l:List Value),ql0 place cells parts=some l→
  Instr.fill place cells.toArray parts=some l.toArray:=by
 induction parts with
 | nil=>intro cells l h;cases h;rfl
 | cons x parts ih=>
  obtain ⟨i,v⟩:=x;intro cells l h;simp only [ql0] at h;unfold Instr.fill;cases e:place i with
  | none=>rw [e] at h;cases h
  | some os=>
   obtain ⟨off,size⟩:=os;rw [e] at h;simp only at h ⊢;cases hb:(Nat.beq (csz v) size&&Nat.ble (off+csz v) cells.length)<;>rw [hb] at h
   ·cases h
   ·simp only [cond_true] at h;simp only [Bool.and_eq_true,Nat.ble_eq] at hb;rw [qzy] at hb;replace hb:=And.intro (Nat.eq_of_beq_eq_true hb.1) hb.2;have hc:¬ (v.cells.size≠size||off+v.cells.size > cells.toArray.size)=true:=by
     simp only [List.size_toArray,Bool.or_eq_true,decide_eq_true_eq,not_or];exact ⟨fun hh=>hh hb.1,by omega⟩
    rw [if_neg hc];have:=quj v.cells.toList cells.toArray off 0;rw [← ih _ _ h]
    congr 1
    rw [← Array.foldl_toList,Array.toList_zipIdx]
    simpa using this
theorem qro {fs:Array Field} (h:allT P fs.toList=true) :
  (fs.mapM fun f=>Prod.mk f.offset <$> sizeOf f.type:Sem (Array (Nat × Nat))).run P w=.ok (qc2 P fs.toList).toArray w:=by
 obtain ⟨l⟩:=fs;rw [Array.mapM_eq_mapM_toList];have:∀ l:List Field,allT P l=true→(l.mapM fun f=>(Prod.mk f.offset <$> sizeOf f.type:Sem (Nat × Nat))).run P w=.ok (qc2 P l) w:=by
  intro l
  induction l with
  | nil=>intro _;simp [qc2]
  | cons f l ih=>
   intro h;simp only [allT,Bool.and_eq_true] at h;simp [List.mapM_cons,qx h.1,ih h.2,qc2]
 simp [this l h]
theorem qsf {t:TypeId} {parts:Array (Nat × Value)} {K:Value→World→Prop} (h:qjl P t parts.toList (fun v=>K v w)) :
  OpOk2 P (do pure (.value (← Instr.build t parts))) w K:=by
 unfold qjl at h
 split at h
 ·rename_i i hi
  split at h
  ·rename_i z hz
   have hz0:(zeroValue t).run P w=.ok z w:=by simp [zeroValue,typeInfo,hi,hz]
   split at h
   ·rename_i fs hu
    cases hT:allT P fs.toList<;>rw [hT] at h
    ·exact h.elim
    ·simp only [cond_true] at h
     split at h
     ·rename_i l hl
      rw [qak] at h;refine valV ?_ h;have hf:=qnj _ _ _ _ hl;have hp:=qro (w:=w) hT;have e:(fun k=>getL (qc2 P fs.toList) k)=fun x=>(qc2 P fs.toList).toArray[x]?:=by
       funext k;rw [qo];simp
      rw [e] at hf;have hf':Instr.fill (fun x=>(qc2 P fs.toList)[x]?) z.cells parts.toList=some l.toArray:=by simpa using hf
      simp only [Instr.build];simp [hz0,run_underlying hu,hp,hf']
     ·exact h.elim
   ·rename_i n e hu
    cases hT:hasT P e<;>rw [hT] at h
    ·exact h.elim
    ·simp only [cond_true] at h
     split at h
     ·rename_i l hl
      rw [qak] at h;refine valV ?_ h;have hf:=qnj _ _ _ _ hl;have hf':Instr.fill (fun k=>some (k*tsz P e,tsz P e)) z.cells parts.toList=some l.toArray:=by simpa using hf
      simp only [Instr.build];simp [hz0,run_underlying hu,qx hT,hf']
     ·exact h.elim
   ·exact h.elim
  ·exact h.elim
 ·exact h.elim
theorem qf7 (z:List Value) (n:Nat):(qa6 z n).length=n*z.length:=by
 induction n with
 | zero=>simp [qa6]
 | succ n ih=>simp [qa6,ih,Nat.succ_mul,Nat.add_comm]
theorem qr4 (z:List Value) (n:Nat):∀ i,i<n*z.length→(qa6 z n)[i]?=z[i%z.length]?:=by
 induction n with
 | zero=>intro i hi;simp at hi
 | succ n ih=>
  intro i hi;simp only [qa6]
  by_cases h:i<z.length
  ·rw [List.getElem?_append_left h,Nat.mod_eq_of_lt h]
  ·rw [List.getElem?_append_right (by omega),ih _ (by rw [Nat.succ_mul] at hi;omega),← Nat.mod_eq_sub_mod (by omega)]
theorem qqa (z:Array Value) (hz:0<z.size) (n:Nat):(Array.range (n*z.size)).map (z[· % z.size]!)=(qa6 z.toList n).toArray:=by
 rw [← Array.toList_inj];apply List.ext_getElem?;intro i;have hl:(qa6 z.toList n).length=n*z.size:=by rw [qf7];simp
 by_cases hi:i<n*z.size
 ·have h1:=qr4 z.toList n i (by simpa using hi);have h2:i%z.size<z.size:=Nat.mod_lt _ hz;rw [show (qa6 z.toList n).toArray.toList=qa6 z.toList n from rfl,h1];simp [hi,h2]
 ·rw [show (qa6 z.toList n).toArray.toList=qa6 z.toList n from rfl,List.getElem?_eq_none (by simp;omega),List.getElem?_eq_none (by omega)]
theorem qi6 {t:TypeId} {len:Nat} {parts:Array (Nat × Value)} {K:Value→World→Prop} (h:qex P t len parts.toList w K) :
  OpOk2 P (do pure (.value (← Instr.buildSlice t len parts))) w K:=by
 unfold qex at h
 split at h
 ·rename_i e hu
  split at h
  ·rename_i i hi
   split at h
   ·rename_i z hz
    have hz0:(zeroValue e).run P w=.ok z w:=by simp [zeroValue,typeInfo,hi,hz]
    have hs0:(sizeOf e).run P w=.ok i.size w:=by simp [sizeOf,typeInfo,hi]
    cases hb:(Nat.beq z.cells.toList.length i.size&&Nat.ble (len*i.size) 16777216 && !Nat.beq i.size 0)<;>rw [hb] at h
    ·exact h.elim
    ·simp only [cond_true] at h;simp only [Bool.and_eq_true,Nat.ble_eq,Bool.not_eq_true'] at hb;obtain ⟨⟨b1,b2⟩,b3⟩:=hb;have b1:=Nat.eq_of_beq_eq_true b1;have b3:0<i.size:=Nat.pos_of_ne_zero fun e=>by rw [e] at b3;cases b3
     have b1':z.cells.size=i.size:=by simpa using b1
     split at h
     ·rename_i l hl
      rw [qak] at h;have h:=h.h w.heap.size _ rfl rfl;have hf:=qnj _ _ _ _ hl;have hzz:=qqa z.cells (by omega) len;rw [b1'] at hzz;refine OpOk2.val ⟨_,_,?_,h⟩;have hn:¬ len*i.size > 2 ^ 24:=by omega
      by_cases h0:len*i.size=0
      ·have hl0:len=0:=by
        rcases Nat.mul_eq_zero.1 h0 with h|h
        ·exact h
        ·omega
       subst hl0;have hf0:Instr.fill (fun i_1=>some (i_1*i.size,i.size)) #[] parts.toList=some l.toArray:=by simpa [qa6] using hf
       simp [Instr.buildSlice,run_underlying hu,hs0,hf0,newRow,newObj,Sem.run,show Array.range 0=#[] from rfl]
      ·rw [← hzz] at hf;have hn':¬ 16777216<len*i.size:=by omega
       simp only [Instr.buildSlice];simp [run_underlying hu,hs0,hn',h0,hz0,b1',hf,newRow,newObj,Sem.run]
     ·exact h.elim
   ·exact h.elim
  ·exact h.elim
 ·exact h.elim
theorem qk4 {t:TypeId} {len cap:Value} {K:Value→World→Prop} (h:qgo P t len cap w K) :
  OpOk2 P (do pure (.value (← Instr.makeSlice t len cap))) w K:=by
 unfold qgo at h
 split at h
 ·rename_i e k1 len k2 cap hu
  split at h
  ·rename_i i hi
   split at h
   ·rename_i z hz
    have hz0:(zeroValue e).run P w=.ok z w:=by simp [zeroValue,typeInfo,hi,hz]
    have hs0:(sizeOf e).run P w=.ok i.size w:=by simp [sizeOf,typeInfo,hi]
    have ht0:(typeInfo e).run P w=.ok i w:=by simp [typeInfo,hi]
    cases hb:(Nat.beq z.cells.toList.length i.size && !Nat.beq i.size 0)<;>rw [hb] at h
    ·exact h.elim
    ·simp only [cond_true] at h;simp only [Bool.and_eq_true,Bool.not_eq_true'] at hb;obtain ⟨b1,b3⟩:=hb;have b1:=Nat.eq_of_beq_eq_true b1;have b3:0<i.size:=Nat.pos_of_ne_zero fun e=>by rw [e] at b3;cases b3
     have b1':z.cells.size=i.size:=by simpa using b1
     obtain ⟨l,c,rfl,rfl,hlc,hcb,hc,hk⟩:=h;have hk:=hk _ _ rfl rfl;have hzz:=qqa z.cells (by omega) c;rw [b1'] at hzz;have wl:IntKind.i64.wrap (l:Int)=l:=InR.wrap (k:=.i64) ⟨by omega,by omega⟩;have wc:IntKind.i64.wrap (c:Int)=c:=InR.wrap (k:=.i64) ⟨by omega,by omega⟩;have hb1:¬ (281474976710656:Int)<(i.bytes:Int)*(c:Int):=by
      have:(i.bytes:Int)*(c:Int)=((c*i.bytes:Nat):Int):=by rw [Int.natCast_mul,Int.mul_comm]
      rw [this];omega
     refine OpOk2.val ⟨_,_,?_,hk⟩;simp only [Instr.makeSlice,asInt,asIntOf];have n1:¬ ((c:Int)<0):=by omega
     have n2:¬ ((l:Int)<0):=by omega
     have n3:¬ c<l:=by omega
     simp [run_underlying hu,ht0,wl,wc,hb1,n1,n2,n3,askRoom,roomBytes,hs0,newRow,newObj,Sem.run]
     split
     ·rename_i h0
      have hc0:c=0:=by
       rcases Nat.mul_eq_zero.1 h0 with h|h
       ·exact h
       ·omega
      subst hc0;simp [qa6,show Array.range 0=#[] from rfl]
     ·simp [hz0,b1',hzz]
   ·exact h.elim
  ·exact h.elim
 ·exact h.elim
theorem qk3 {t:TypeId} {x:Value} {K:Value→World→Prop} (h:qgn P t x (fun v=>K v w)):OpOk2 P (do pure (.value (← Instr.makeInterface t x))) w K:=by
 unfold qgn at h
 split at h
 ·exact h.elim
 ·rename_i d hd hu
  refine valV ?_ h;cases d<;>first|exact absurd rfl (hd _)|simp [Instr.makeInterface,run_underlying hu]
 ·exact h.elim
theorem qxk (ρ:Nat→Value) (l:List (Nat × Operand)):evp ρ l=l.map fun x=>(x.1,ev ρ x.2):=by
 induction l with
 | nil=>rfl
 | cons x l ih=>obtain ⟨i,x⟩:=x;simp [evp,ih]
theorem qt8 {t:TypeId} {x:Value} {s:Sem Next} {K:Value→World→Prop} (hs:s=(do pure (.value (← Instr.range t x)))) (h:qt7 P t x w s K):OpOk2 P s w K:=by
 unfold qt7 at h
 split at h
 ·rename_i sx hu
  subst hs;refine OpOk2.val ⟨_,_,?_,h.h w.heap.size _ rfl rfl⟩;simp [Instr.range,run_underlying hu,newObj,Sem.run]
 ·exact h.ok
theorem qwh {x:Value} {b:Bool} {ty:TypeId} {s:Sem Next} {K:Value→World→Prop} (hs:s=(do pure (.value (← Instr.next x b ty)))) (h:qys P x b w s K):OpOk2 P s w K:=by
 unfold qys at h
 split at h
 ·rename_i r
  subst hs;obtain ⟨s,pos,hr,h1,h2⟩:=h
  by_cases hp:pos<s.size
  ·refine OpOk2.val ⟨_,_,?_,h1 hp _ rfl⟩;simp [Instr.next,getObj,setObj,Sem.run,hr,hp,goInt,setO]
  ·refine OpOk2.val ⟨_,_,?_,h2 hp⟩;simp [Instr.next,getObj,Sem.run,hr,hp]
 ·exact h.ok
theorem qt0 {o:Oper} {ρ:Nat→Value} {K:Value→World→Prop} (hc:∀ c,o.op≠.call c) (h:opV P o ρ w K):OpOk2 P (execOp (ev ρ) o) w K:=by
 unfold opV at h
 split at h
 ·rename_i x ho;rw [qa4] at h;simp only [execOp,ho];exact q0f h
 ·rename_i x ho;rw [qa4] at h;simp only [execOp,ho];exact q0f h
 ·rename_i c a b ho;simp only [execOp,ho];exact qwl h
 ·rename_i op t x y yt ho;simp only [execOp,ho];exact OpOk2.val (qqb h)
 ·rename_i op t x ho;simp only [execOp,ho];exact q0p h
 ·rename_i src dst x ho;exact qvp (by simp only [execOp,ho]) h
 ·rename_i t x i ho;simp only [execOp,ho];exact qyl h
 ·rename_i t x i ho;simp only [execOp,ho];exact qnl h
 ·rename_i t x ho;simp only [execOp,ho];exact qwd h
 ·rename_i t x v ho;exact quu (by simp only [execOp,ho]) h
 ·rename_i x ix ho;simp only [execOp,ho];exact qnh h
 ·rename_i t x f ho;simp only [execOp,ho];exact qkp h
 ·rename_i t x f ho;simp only [execOp,ho];exact qs3 h
 ·rename_i t x ho;simp only [execOp,ho];exact qx6 h
 ·rename_i t ho;simp only [execOp,ho];exact qr9 h
 ·rename_i t x lo hi mx ho
  refine quq ?_ h;simp only [execOp,ho];cases lo<;>cases hi<;>cases mx<;>rfl
 ·rename_i x ho;exact qyu ho h
 ·rename_i c ho;exact absurd ho (hc c)
 ·rename_i t parts ho
  rw [qxk] at h;simp only [execOp,ho];refine qsf ?_
  simpa using h
 ·rename_i t len parts ho
  rw [qxk] at h;simp only [execOp,ho];refine qi6 ?_
  simpa using h
 ·rename_i t l c ho
  simp only [execOp,ho];exact qk4 h
 ·rename_i fn first captured ho
  rw [qak,qak,qdm,qdm] at h;simp only [execOp,ho];refine valV ?_ h;have e1:∀ a:Array Operand,(a.toList.map (ev ρ)).toArray=a.map (ev ρ):=fun a=>by rw [← Array.toList_inj];simp
  simp only [Instr.makeFunc,e1];rfl
 ·rename_i t x ho;simp only [execOp,ho];exact qk3 h
 ·rename_i t x ho;exact qt8 (by simp only [execOp,ho]) h
 ·rename_i it b ho;exact qwh (ty:=o.type) (by simp only [execOp,ho]) h
 ·exact h.ok
theorem qpl {o:Oper} {ρ:Nat→Value} {K:Value→World→Prop} (h:opV P o ρ w K):OpOk P (execOp (ev ρ) o) w K:=by
 by_cases hc:∃ c,o.op=.call c
 ·obtain ⟨c,ho⟩:=hc;unfold opV at h;rw [ho] at h;exact qo1 ho h
 ·exact .inl (qt0 (fun c e=>hc ⟨c,e⟩) h)
end
def putV (n:Nat) (dst:Option Tmp) (ρ:Nat→Value) (v:Value) (K:(Nat→Value)→Prop):Prop:=
 match dst with
 | none=>K ρ
 | some d=>bif Nat.blt d n then K (upd ρ d v) else False
def runO (P:Program) (n:Nat) (o:Oper) (K:(Nat→Value)→World→Prop) (ρ:Nat→Value) (w:World):Prop:=
 opV P o ρ w fun v w'=>putV n o.dst ρ v fun ρ'=>K ρ' w'
def qrs (n:Nat) (o:Oper) (K:(Nat→Value)→World→Prop) (ρ:Nat→Value) (w:World):Prop:=
 putV n o.dst ρ undef fun ρ'=>K ρ' w
def regV (P:Program) (n:Nat) (ops:List Oper) (Q:(Nat→Value)→World→Prop):List Oper→(Nat→Value)→World→Prop
 | [],ρ,w=>Q ρ w
 | o::rest,ρ,w=>
  match o.guard with
  | none=>runO P n o (regV P n ops Q rest) ρ w
  | some (j,want)=>
   match getL ops j with
   | none=>qrs n o (regV P n ops Q rest) ρ w
   | some oj=>match oj.dst with
    | none=>qrs n o (regV P n ops Q rest) ρ w
    | some d=>bif Nat.blt d n then
      match ρ d with
      | .bool b=>Tst b
        (match want with
         | true=>runO P n o (regV P n ops Q rest) (upd ρ d (.bool true)) w
         | false=>qrs n o (regV P n ops Q rest) (upd ρ d (.bool true)) w)
        (match want with
         | true=>qrs n o (regV P n ops Q rest) (upd ρ d (.bool false)) w
         | false=>runO P n o (regV P n ops Q rest) (upd ρ d (.bool false)) w)
      | _=>qrs n o (regV P n ops Q rest) ρ w
     else False
def seqQ (K:(Nat→Value)→World→Prop) (Q:Exit→(Nat→Value)→World→Prop):Exit→(Nat→Value)→World→Prop
 | .normal,ρ,w=>K ρ w
 | .exit i,ρ,w=>Q (.exit i) ρ w
 | .goto l,ρ,w=>Q (.goto l) ρ w
 | .ret,ρ,w=>Q .ret ρ w
 | .panic c,ρ,w=>Q (.panic c) ρ w
 | .outgrown,ρ,w=>Q .outgrown ρ w
def qow (id:Nat) (Q:Exit→(Nat→Value)→World→Prop):Exit→(Nat→Value)→World→Prop
 | .normal,ρ,w=>Q .normal ρ w
 | .exit i,ρ,w=>bif Nat.beq i id then Q .normal ρ w else Q (.exit i) ρ w
 | .goto l,ρ,w=>Q (.goto l) ρ w
 | .ret,ρ,w=>Q .ret ρ w
 | .panic c,ρ,w=>Q (.panic c) ρ w
 | .outgrown,ρ,w=>Q .outgrown ρ w
def q0l (Q:Exit→(Nat→Value)→World→Prop):Exit→(Nat→Value)→World→Prop
 | .goto _,_,_=>False
 | .normal,ρ,w=>Q .normal ρ w
 | .exit i,ρ,w=>Q (.exit i) ρ w
 | .ret,ρ,w=>Q .ret ρ w
 | .panic c,ρ,w=>Q (.panic c) ρ w
 | .outgrown,ρ,w=>Q .outgrown ρ w
structure ScopeV (P:Program) (n:Nat) (c:Code) (Q:Exit→(Nat→Value)→World→Prop) (ρ:Nat→Value) (w:World):Prop where
 h:∀ a,St n ρ a→(Code.scope c).wp P (fun e a' w'=>∃ ρ',St n ρ' a'∧Q e ρ' w') a w
def qem (P:Program) (n:Nat):Code→(Exit→(Nat→Value)→World→Prop)→(Nat→Value)→World→Prop
 | .skip,Q,ρ,w=>Q .normal ρ w
 | .region id ops draw,Q,ρ,w=>
  match draw with
  | false=>regV P n ops.toList (Q .normal) ops.toList ρ w
  | true=>DrawV P n id ops Q ρ w
 | .seq a b,Q,ρ,w=>qem P n a (seqQ (qem P n b Q) Q) ρ w
 | .cond c t e,Q,ρ,w=>
  match ev ρ c with
  | .bool b=>Tst b (qem P n t Q ρ w) (qem P n e Q ρ w)
  | _=>False
 | .block id c,Q,ρ,w=>qem P n c (qow id Q) ρ w
 | .loop c,Q,ρ,w=>LoopV P n c Q ρ w
 | .exit id,Q,ρ,w=>Q (.exit id) ρ w
 | .label _,Q,ρ,w=>Q .normal ρ w
 | .ret,Q,ρ,w=>Q .ret ρ w
 | .goto l,Q,ρ,w=>Q (.goto l) ρ w
 | .scope c,Q,ρ,w=>ScopeV P n c Q ρ w
 | .rangeFunc f p a b,Q,ρ,w=>CodeV P n (.rangeFunc f p a b) Q ρ w
 | .refuse _,_,_,_=>False
def lift (n:Nat) (Q:Exit→(Nat→Value)→World→Prop):Exit→Act→World→Prop:=fun e a w=>∃ ρ,St n ρ a∧Q e ρ w
section
variable {P:Program} {n:Nat}
theorem putV.st {dst:Option Tmp} {ρ:Nat→Value} {v:Value} {K:(Nat→Value)→Prop} {a:Act} (h:putV n dst ρ v K) (ha:St n ρ a) :
  ∃ ρ',St n ρ' (a.put dst v)∧K ρ':=by
 unfold putV at h
 split at h
 ·exact ⟨ρ,ha,h⟩
 ·rename_i d
  cases hd:Nat.blt d n<;>rw [hd] at h
  ·exact h.elim
  ·exact ⟨_,ha.put (by simpa using hd) v,h⟩
theorem St.yield {ρ:Nat→Value} {a:Act} (ha:St n ρ a) {ops:List Oper} {j d:Nat} {oj:Oper} (hj:getL ops j=some oj) (hd:oj.dst=some d) (hn:d<n) :
  yielded ops.toArray a.tmps j=match ρ d with | .bool b=>some b|_=>none:=by
 have h1:ops.toArray[j]?=some oj:=by rw [qo] at hj;simpa using hj
 have h2:a.tmps[d]?=some (ρ d):=by
  have hs:=ha.size;have:=ha.get d;rw [Array.getD_eq_getD_getElem?,Array.getElem?_eq_getElem (by omega)] at this;rw [Array.getElem?_eq_getElem (by omega)]
  simpa using this
 simp only [yielded,h1,Option.bind_some,hd,h2];cases ρ d<;>rfl
theorem qn6 {o:Oper} {ops:Array Oper} {ρ:Nat→Value} {w:World} {K:(Nat→Value)→World→Prop} {a:Act} {rest:List Oper} {Q':Exit→Act→World→Prop}
  (hg:Region.wanted o (yielded ops a.tmps)=true) (ha:St n ρ a) (h:runO P n o K ρ w) (hk:∀ ρ' a' w',St n ρ' a'→K ρ' w'→wpList P ops Q' rest a' w') :
  wpList P ops Q' (o::rest) a w:=by
 unfold wpList;rw [if_pos hg];refine .inl (OpOk.wp ha.eval (qpl h) fun v w' hp=>?_);obtain ⟨ρ',h1,h2⟩:=putV.st hp ha;exact hk _ _ _ h1 h2
theorem qfy {o:Oper} {ops:Array Oper} {ρ:Nat→Value} {w:World} {K:(Nat→Value)→World→Prop} {a:Act} {rest:List Oper} {Q':Exit→Act→World→Prop}
  (hg:Region.wanted o (yielded ops a.tmps)=false) (ha:St n ρ a) (h:qrs n o K ρ w) (hk:∀ ρ' a' w',St n ρ' a'→K ρ' w'→wpList P ops Q' rest a' w') :
  wpList P ops Q' (o::rest) a w:=by
 unfold wpList;rw [if_neg (by rw [hg];simp)];obtain ⟨ρ',h1,h2⟩:=putV.st h ha;exact hk _ _ _ h1 h2
theorem qy4 {ops:List Oper} {Q:(Nat→Value)→World→Prop} {Q':Exit→Act→World→Prop} (hQ:∀ ρ a w,St n ρ a→Q ρ w→Q' .normal a w) (l:List Oper) :
  ∀ (ρ:Nat→Value) (a:Act) (w:World),St n ρ a→regV P n ops Q l ρ w→wpList P ops.toArray Q' l a w:=by
 induction l with
 | nil=>intro ρ a w ha h;exact hQ _ _ _ ha h
 | cons o rest ih=>
  intro ρ a w ha h;unfold regV at h;have ih':∀ ρ' a' w',St n ρ' a'→regV P n ops Q rest ρ' w'→wpList P ops.toArray Q' rest a' w':=fun ρ' a' w'=>ih ρ' a' w'
  split at h
  ·rename_i hg
   exact qn6 (by simp [Region.wanted,hg]) ha h ih'
  ·rename_i j want hg
   split at h
   ·rename_i hj
    rw [qo] at hj;refine qfy ?_ ha h ih';have:ops.toArray[j]?=none:=by simpa using hj
    simp [Region.wanted,hg,yielded,this]
   ·rename_i oj hj
    split at h
    ·rename_i hd
     refine qfy ?_ ha h ih';have hj2:=hj;rw [qo] at hj2;have:ops.toArray[j]?=some oj:=by simpa using hj2
     simp [Region.wanted,hg,yielded,this,hd]
    ·rename_i d hd
     cases hn:Nat.blt d n<;>rw [hn] at h
     ·exact h.elim
     ·have hn':d<n:=by simpa using hn
      have hy:=ha.yield hj hd hn';simp only [cond_true] at h
      split at h
      ·rename_i b hb
       rw [hb] at hy;cases b
       ·have h:=h.f rfl;have ha':=ha.same hb;cases want
        ·exact qn6 (by simp [Region.wanted,hg,hy]) ha' h ih'
        ·exact qfy (by simp [Region.wanted,hg,hy]) ha' h ih'
       ·have h:=h.t rfl;have ha':=ha.same hb;cases want
        ·exact qfy (by simp [Region.wanted,hg,hy]) ha' h ih'
        ·exact qn6 (by simp [Region.wanted,hg,hy]) ha' h ih'
      ·rename_i hb
       refine qfy ?_ ha h ih';have:yielded ops.toArray a.tmps j=none:=by
        rw [hy]
        split
        ·rename_i b hb';exact absurd hb' (hb b)
        ·rfl
       simp [Region.wanted,hg,this]
theorem qwc {K:(Nat→Value)→World→Prop} {Q:Exit→(Nat→Value)→World→Prop} {e:Exit} {a:Act} {w:World} (h:lift n (seqQ K Q) e a w) :
  Exit.then (fun a w=>∃ ρ,St n ρ a∧K ρ w) (lift n Q) e a w:=by
 obtain ⟨ρ,h1,h2⟩:=h;cases e<;>exact ⟨ρ,h1,h2⟩
theorem qqr {id:Nat} {Q:Exit→(Nat→Value)→World→Prop} {e:Exit} {a:Act} {w:World} (h:lift n (qow id Q) e a w) :
  Exit.inBlock id (lift n Q) e a w:=by
 obtain ⟨ρ,h1,h2⟩:=h;cases e with
 | exit i=>
  by_cases hi:i=id
  ·have hb:Nat.beq i id=true:=by subst hi;simp
   simp only [qow,hb,cond_true] at h2;simp only [Exit.inBlock,hi,if_true];exact ⟨ρ,h1,h2⟩
  ·have hb:Nat.beq i id=false:=Bool.eq_false_iff.2 fun h=>hi (Nat.eq_of_beq_eq_true h)
   simp only [qow,hb,cond_false] at h2;simp only [Exit.inBlock,hi,if_false];exact ⟨ρ,h1,h2⟩
 | normal=>exact ⟨ρ,h1,h2⟩
 | goto l=>exact ⟨ρ,h1,h2⟩
 | ret=>exact ⟨ρ,h1,h2⟩
 | panic c=>exact ⟨ρ,h1,h2⟩
 | outgrown=>exact ⟨ρ,h1,h2⟩
theorem qho (c:Code):∀ (Q:Exit→(Nat→Value)→World→Prop) (ρ:Nat→Value) (w:World),qem P n c Q ρ w→∀ a,St n ρ a→c.wp P (lift n Q) a w:=by
 induction c with
 | skip=>intro Q ρ w h a ha;exact wp_skip ⟨ρ,ha,h⟩
 | region id ops draw=>
  intro Q ρ w h a ha;cases draw
  ·refine wp_region_list ?_;have:=qy4 (Q':=lift n Q) (fun ρ a w ha h=>⟨ρ,ha,h⟩) ops.toList ρ a w ha h
   simpa using this
  ·exact h.h a ha
 | seq x y hx hy=>
  intro Q ρ w h a ha;refine wp_seq (wp_mono (hx _ _ _ h a ha) fun e a w h=>?_);have:=qwc h;cases e with
  | normal=>obtain ⟨ρ',h1,h2⟩:=this;exact hy _ _ _ h2 _ h1
  | exit i=>exact this
  | goto l=>exact this
  | ret=>exact this
  | panic c=>exact this
  | outgrown=>exact this
 | cond c t e ht he=>
  intro Q ρ w h a ha;unfold qem at h
  split at h
  ·rename_i b hb
   refine wp_cond_split (t:=b) (by rw [ha.eval,hb]) (fun e=>ht _ _ _ (h.t e) a ha) (fun e=>he _ _ _ (h.f e) a ha)
  ·exact h.elim
 | block id c hc=>
  intro Q ρ w h a ha;exact wp_block (wp_mono (hc _ _ _ h a ha) fun e a w h=>qqr h)
 | loop c hc=>intro Q ρ w h a ha;exact h.h a ha
 | rangeFunc f p x b hx hb=>intro Q ρ w h a ha;exact h.h a ha
 | exit id=>intro Q ρ w h a ha;exact wp_exit ⟨ρ,ha,h⟩
 | scope c hc=>intro Q ρ w h a ha;exact h.h a ha
 | label l=>intro Q ρ w h a ha;exact wp_label ⟨ρ,ha,h⟩
 | goto l=>intro Q ρ w h a ha;exact wp_goto ⟨ρ,ha,h⟩
 | ret=>intro Q ρ w h a ha;exact wp_ret ⟨ρ,ha,h⟩
 | refuse why=>intro Q ρ w h a ha;exact h.elim
theorem ScopeV.straight {P:Program} {n:Nat} {c:Code} {Q:Exit→(Nat→Value)→World→Prop} {ρ:Nat→Value} {w:World} (h:qem P n c (q0l Q) ρ w):ScopeV P n c Q ρ w:=by
 refine ⟨fun a ha=>wp_scope_straight (wp_mono (qho c _ _ _ h a ha) fun e a w h=>?_)⟩;obtain ⟨ρ',h1,h2⟩:=h;cases e<;>first|exact h2.elim|exact ⟨ρ',h1,h2⟩
structure SameW (w' w:World) (k:Prop):Prop where
 h:w'=w
 k:k
structure CallQ (P:Program) (f:FuncId) (args:List Value) (w:World) (K:Value→Prop):Prop where
 h:∃ v,Gv P f args w (fun u w'=>u=v∧w'=w)∧K v
def qx8 (P:Program) (c:Call) (ρ:Nat→Value) (w:World) (s:Sem Next) (K:Value→Prop):Prop:=
 match c.callee with
 | .value f=>match ev ρ f with
  | .func (.func g) first captured=>qb2 (evs ρ c.args.toList) fun vs=>
   match first.toList,captured.toList with
   | [],[]=>CallQ P g vs w K
   | x,y=>CallQ P g (x++(vs++y)) w K
  | _=>False
 | .builtin .len=>lenV P (getL c.argTypes.toList 0) (evs ρ c.args.toList) w s fun v w'=>SameW w' w (K v)
 | _=>False
def opQ (P:Program) (o:Oper) (ρ:Nat→Value) (w:World) (K:Value→Prop):Prop:=
 match o.op with
 | .call c=>qx8 P c ρ w (execOp (ev ρ) o) K
 | _=>opV P o ρ w fun v w'=>SameW w' w (K v)
section
variable {P:Program} {w:World} {n:Nat}
def StillOk (P:Program) (s:Sem Next) (w:World) (K:Value→Prop):Prop:=
 OpOk2 P s w (fun v w'=>w'=w∧K v)∨
 (∃ f args v,s.run P w=.ok (.enter f args) w∧Calls P f args w (fun e w'=>e=.returned v∧w'=w)∧K v)
theorem OpOk2.same {s:Sem Next} {K:Value→Prop} (h:OpOk2 P s w fun v w'=>SameW w' w (K v)):StillOk P s w K:=by
 refine .inl ?_
 rcases h with ⟨v,w',h1,h2⟩|⟨w',h1,h2⟩
 ·exact .inl ⟨v,w',h1,h2.h,h2.k⟩
 ·exact .inr ⟨w',h1,h2.h,h2.k⟩
theorem qvl {ρ:Nat→Value} {o:Oper} {c:Call} {K:Value→Prop} (ho:o.op=.call c) (h:qx8 P c ρ w (execOp (ev ρ) o) K) :
  StillOk P (execOp (ev ρ) o) w K:=by
 unfold qx8 at h
 split at h
 ·rename_i f hc
  split at h
  ·rename_i g first captured hf
   rw [qak,qdm] at h;have he:execOp (ev ρ) o=callFunc g (first++c.args.map (ev ρ)++captured):=by
    simp only [execOp,ho,resolve,hc,hf];rfl
   rw [he];have key:CallQ P g (first.toList++(c.args.toList.map (ev ρ)++captured.toList)) w K:=by
    split at h
    ·rename_i h1 h2;rw [h1,h2];simpa using h
    ·exact h
   have e2:(first.toList++(c.args.toList.map (ev ρ)++captured.toList)).toArray=first++c.args.map (ev ρ)++captured:=by
    rw [← Array.toList_inj];simp
   rw [← e2];obtain ⟨v,⟨h1,h2⟩,hk⟩:=key;refine .inr ⟨g,_,v,qcs h1 _,h2.mono ?_,hk⟩;rintro e w' ⟨u,he,rfl,hw⟩;exact ⟨he,hw⟩
  ·exact h.elim
 ·rename_i hc;exact (qtu ho hc h).same
 ·exact h.elim
theorem q0c {o:Oper} {ρ:Nat→Value} {K:Value→Prop} (h:opQ P o ρ w K):StillOk P (execOp (ev ρ) o) w K:=by
 unfold opQ at h
 split at h
 ·rename_i c ho;exact qvl ho h
 ·rename_i hc;exact (qt0 (fun c e=>hc c e) h).same
theorem StillOk.still {o:Oper} {ρ:Nat→Value} {K:Value→Prop} {a:Act} {next:Act→Prop} (he:a.eval=ev ρ) (h:StillOk P (execOp (ev ρ) o) w K)
  (hn:∀ v,K v→next (a.put o.dst v)):o.still P a w next:=by
 unfold Oper.still;rw [he]
 rcases h with (⟨v,w',h1,h2,h3⟩|⟨w',h1,h2,h3⟩)|⟨f,args,v,h1,h2,h3⟩
 ·rw [h1];exact ⟨h2,hn _ h3⟩
 ·rw [h1];exact ⟨h2,hn _ h3⟩
 ·rw [h1];exact ⟨rfl,v,h2,hn _ h3⟩
def runQ (P:Program) (n:Nat) (o:Oper) (K:(Nat→Value)→Prop) (ρ:Nat→Value) (w:World):Prop:=
 opQ P o ρ w fun v=>putV n o.dst ρ v K
def regQ (P:Program) (n:Nat) (ops:List Oper) (w:World) (Q:(Nat→Value)→Prop):List Oper→(Nat→Value)→Prop
 | [],ρ=>Q ρ
 | o::rest,ρ=>
  match o.guard with
  | none=>runQ P n o (regQ P n ops w Q rest) ρ w
  | some (j,want)=>
   match getL ops j with
   | none=>putV n o.dst ρ undef (regQ P n ops w Q rest)
   | some oj=>match oj.dst with
    | none=>putV n o.dst ρ undef (regQ P n ops w Q rest)
    | some d=>bif Nat.blt d n then
      match ρ d with
      | .bool b=>Tst b
        (match want with
         | true=>runQ P n o (regQ P n ops w Q rest) (upd ρ d (.bool true)) w
         | false=>putV n o.dst (upd ρ d (.bool true)) undef (regQ P n ops w Q rest))
        (match want with
         | true=>putV n o.dst (upd ρ d (.bool false)) undef (regQ P n ops w Q rest)
         | false=>runQ P n o (regQ P n ops w Q rest) (upd ρ d (.bool false)) w)
      | _=>putV n o.dst ρ undef (regQ P n ops w Q rest)
     else False
theorem qn7 {o:Oper} {ops:Array Oper} {ρ:Nat→Value} {K:(Nat→Value)→Prop} {a:Act} {rest:List Oper} {Q':Act→Prop}
  (hg:Region.wanted o (yielded ops a.tmps)=true) (ha:St n ρ a) (h:runQ P n o K ρ w) (hk:∀ ρ' a',St n ρ' a'→K ρ'→wpStill P ops w Q' rest a') :
  wpStill P ops w Q' (o::rest) a:=by
 unfold wpStill;rw [if_pos hg];refine StillOk.still ha.eval (q0c h) fun v hp=>?_;obtain ⟨ρ',h1,h2⟩:=putV.st hp ha;exact hk _ _ h1 h2
theorem qfz {o:Oper} {ops:Array Oper} {ρ:Nat→Value} {K:(Nat→Value)→Prop} {a:Act} {rest:List Oper} {Q':Act→Prop}
  (hg:Region.wanted o (yielded ops a.tmps)=false) (ha:St n ρ a) (h:putV n o.dst ρ undef K) (hk:∀ ρ' a',St n ρ' a'→K ρ'→wpStill P ops w Q' rest a') :
  wpStill P ops w Q' (o::rest) a:=by
 unfold wpStill;rw [if_neg (by rw [hg];simp)];obtain ⟨ρ',h1,h2⟩:=putV.st h ha;exact hk _ _ h1 h2
theorem qy3 {ops:List Oper} {Q:(Nat→Value)→Prop} {Q':Act→Prop} (hQ:∀ ρ a,St n ρ a→Q ρ→Q' a) (l:List Oper) :
  ∀ (ρ:Nat→Value) (a:Act),St n ρ a→regQ P n ops w Q l ρ→wpStill P ops.toArray w Q' l a:=by
 induction l with
 | nil=>intro ρ a ha h;exact hQ _ _ ha h
 | cons o rest ih=>
  intro ρ a ha h;unfold regQ at h;have ih':∀ ρ' a',St n ρ' a'→regQ P n ops w Q rest ρ'→wpStill P ops.toArray w Q' rest a':=fun ρ' a'=>ih ρ' a'
  split at h
  ·rename_i hg
   exact qn7 (by simp [Region.wanted,hg]) ha h ih'
  ·rename_i j want hg
   split at h
   ·rename_i hj
    rw [qo] at hj;refine qfz ?_ ha h ih';have:ops.toArray[j]?=none:=by simpa using hj
    simp [Region.wanted,hg,yielded,this]
   ·rename_i oj hj
    split at h
    ·rename_i hd
     refine qfz ?_ ha h ih';have hj2:=hj;rw [qo] at hj2;have:ops.toArray[j]?=some oj:=by simpa using hj2
     simp [Region.wanted,hg,yielded,this,hd]
    ·rename_i d hd
     cases hn:Nat.blt d n<;>rw [hn] at h
     ·exact h.elim
     ·have hn':d<n:=by simpa using hn
      have hy:=ha.yield hj hd hn';simp only [cond_true] at h
      split at h
      ·rename_i b hb
       rw [hb] at hy;cases b
       ·have h:=h.f rfl;have ha':=ha.same hb;cases want
        ·exact qn7 (by simp [Region.wanted,hg,hy]) ha' h ih'
        ·exact qfz (by simp [Region.wanted,hg,hy]) ha' h ih'
       ·have h:=h.t rfl;have ha':=ha.same hb;cases want
        ·exact qfz (by simp [Region.wanted,hg,hy]) ha' h ih'
        ·exact qn7 (by simp [Region.wanted,hg,hy]) ha' h ih'
      ·rename_i hb
       refine qfz ?_ ha h ih';have:yielded ops.toArray a.tmps j=none:=by
        rw [hy]
        split
        ·rename_i b hb';exact absurd hb' (hb b)
        ·rfl
       simp [Region.wanted,hg,this]
theorem DrawV.quiet {id:Nat} {ops:Array Oper} {Q:Exit→(Nat→Value)→World→Prop} {ρ:Nat→Value} (hm:P.follows .mixedOrders=true) (hB:Region.lexB .any ops=true)
  (h:regQ P n ops.toList w.drew (fun ρ'=>Q .normal ρ' w.drew) ops.toList ρ):DrawV P n id ops Q ρ w:=by
 refine ⟨fun a ha=>wp_region_still hm hB ?_⟩;have:=qy3 (w:=w.drew) (Q':=fun a'=>∃ ρ',St n ρ' a'∧Q .normal ρ' w.drew) (fun ρ a ha h=>⟨ρ,ha,h⟩) ops.toList ρ a ha h
 simpa using this
end
def over:List (Nat × Value)→(Nat→Value)→Nat→Value
 | [],ρ=>ρ
 | (t,v)::l,ρ=>upd (over l ρ) t v
def qlq:List (Nat × Value)→(Nat→Value)→Prop
 | [],_=>True
 | (t,v)::l,ρ=>ρ t=v∧qlq l ρ
theorem qmf {l:List (Nat × Value)} {ρ:Nat→Value} (h:qlq l ρ):over l ρ=ρ:=by
 induction l with
 | nil=>rfl
 | cons x l ih=>
  obtain ⟨t,v⟩:=x;obtain ⟨h1,h2⟩:=h
  funext u
  simp only [over,ih h2,upd]
  by_cases e:u=t
  ·subst e;simp [h1]
  ·have e':Nat.beq u t=false:=Bool.eq_false_iff.2 fun h=>e (Nat.eq_of_beq_eq_true h)
   rw [e'];rfl
theorem qm {α:Type} (l:α→List (Nat × Value)) (I:α→World→Prop) (μ:α→Nat) {body:Code} {Q:Exit→(Nat→Value)→World→Prop} {ρ:Nat→Value} {w:World} (x0:α)
  (h0:qlq (l x0) ρ) (hI:I x0 w)
  (hr:∀ x w ρ',I x w→qem P n body (seqQ (fun ρ'' w'=>∃ x',qlq (l x') ρ''∧I x' w'∧μ x'<μ x) Q) (over (l x) ρ') w):LoopV P n body Q ρ w:=by
 refine ⟨fun a ha=>?_⟩;have key:∀ m x,μ x=m→∀ ρ a w,qlq (l x) ρ→St n ρ a→I x w→∀ (b:Frame) (k:List Item) (cs:List Frame),
   ∃ e a' w',lift n Q e a' w'∧Arrives P (lone (b.at a (.code body::.inLoop body::k)) cs w) b k cs e a' w':=by
  intro m
  induction m using Nat.strongRecOn with
  | _ m ih=>
   intro x hm ρ a w hag hst hI b k cs;have h1:=hr x w ρ hI;rw [qmf hag] at h1;obtain ⟨e,a₁,w₁,hq,harr⟩:=qho body _ _ _ h1 a hst b (.inLoop body::k) cs;obtain ⟨ρ₁,hst₁,hq⟩:=hq;cases e with
   | normal=>
    obtain ⟨x',hag',hI',hlt⟩:=hq;obtain ⟨e₂,a₂,w₂,hq₂,harr₂⟩:=ih (μ x') (hm ▸ hlt) x' rfl ρ₁ a₁ w₁ hag' hst₁ hI' b k cs;exact ⟨e₂,a₂,w₂,hq₂,.of_steps (Steps.trans harr (.one step_inLoop)) harr₂⟩
   | exit id=>exact ⟨_,a₁,w₁,⟨ρ₁,hst₁,hq⟩,.pass (x:=.inLoop body) rfl (fun _ _=>.inl (by simp)) harr⟩
   | goto l=>exact ⟨_,a₁,w₁,⟨ρ₁,hst₁,hq⟩,.pass (x:=.inLoop body) rfl (fun _ _=>.inl (by simp)) harr⟩
   | ret=>exact ⟨_,a₁,w₁,⟨ρ₁,hst₁,hq⟩,.pass (x:=.inLoop body) rfl (fun _ _=>.inl (by simp)) harr⟩
   | panic ch=>exact ⟨_,a₁,w₁,⟨ρ₁,hst₁,hq⟩,.pass (x:=.inLoop body) rfl (fun _ _=>.inl (by simp)) harr⟩
   | outgrown=>exact ⟨_,a₁,w₁,⟨ρ₁,hst₁,hq⟩,.pass (x:=.inLoop body) rfl (fun _ _=>.inl (by simp)) harr⟩
 intro b k cs;obtain ⟨e,a',w',hq,harr⟩:=key _ x0 rfl ρ a w h0 ha hI b k cs;exact ⟨e,a',w',hq,.of_steps (.one step_loop) harr⟩
def ini:List Value→Nat→Value
 | [],_=>undef
 | v::_,0=>v
 | _::l,t+1=>ini l t
theorem qxn (l:List Value) (t:Nat):ini l t=(l[t]?).getD undef:=by
 induction l generalizing t with
 | nil=>simp [ini]
 | cons v l ih=>cases t<;>simp [ini,ih]
def qf4:List ResultVar→Option (List Operand)
 | []=>some []
 | .tmp t::l=>match qf4 l with
  | some r=>some (.tmp t::r)
  | none=>none
 | .cell _ _::_=>none
def resV (rs:Array ResultVar) (ρ:Nat→Value) (w:World) (fn:Func) (R:Value→World→Prop) (P:Program) (n:Nat):Prop:=
 match rs.toList with
 | [.tmp t]=>qgj (ρ t) fun v=>R v w
 | l=>match qf4 l with
  | some ts=>qb2 (evs ρ ts) fun vs=>R (.tuple vs.toArray) w
  | none=>∀ a,St n ρ a→∃ v,(results fn a.tmps).run P w=.ok v w∧R v w
def qx5 (P:Program) (n:Nat) (fn:Func) (R:Value→World→Prop):Exit→(Nat→Value)→World→Prop
 | .normal,ρ,w=>resV fn.results ρ w fn R P n
 | .ret,ρ,w=>resV fn.results ρ w fn R P n
 | _,_,_=>False
def resF (tmps:Array Value):ResultVar→Sem Value
 | .tmp t=>pure (tmps.getD t undef)
 | .cell a t=>do loadVar t (← asAddr (tmps.getD a undef))
theorem qmx (tmps:Array Value) (w:World) (ρ:Nat→Value) (hρ:∀ t,tmps.getD t undef=ρ t):∀ (l:List ResultVar) (ts:List Operand),qf4 l=some ts→
  (l.mapM (resF tmps)).run P w=.ok (evs ρ ts) w:=by
 intro l
 induction l with
 | nil=>intro ts h;cases h;simp [evs]
 | cons x l ih=>
  intro ts h;cases x with
  | cell a t=>cases h
  | tmp t=>
   simp only [qf4] at h;cases e:qf4 l with
   | none=>rw [e] at h;cases h
   | some r=>
    rw [e] at h;cases h;simp [List.mapM_cons,ih r e,evs,ev,resF,hρ]
theorem qip {rs:Array ResultVar} {ρ:Nat→Value} {w:World} {fn:Func} {R:Value→World→Prop} (hrs:fn.results=rs) {a:Act} (ha:St n ρ a) (h:resV rs ρ w fn R P n) :
  ∃ v,(results fn a.tmps).run P w=.ok v w∧R v w:=by
 unfold resV at h;have hm:∀ ts,qf4 rs.toList=some ts→(results fn a.tmps).run P w=.ok (if h:(evs ρ ts).toArray.size=1 then (evs ρ ts).toArray[0] else .tuple (evs ρ ts).toArray) w:=by
  intro ts hts;have:=qmx (P:=P) a.tmps w ρ ha.get rs.toList ts hts;have e:results fn a.tmps=(do let vs ← fn.results.mapM (resF a.tmps);pure (if h:vs.size=1 then vs[0] else .tuple vs)):=by
   unfold results;congr 1
  rw [e,hrs,Array.mapM_eq_mapM_toList];simp [this]
 split at h
 ·rename_i t hl
  rw [qa4] at h;refine ⟨ρ t,?_,h⟩;rw [hm [.tmp t] (by rw [hl];rfl)];simp [evs,ev]
 ·rename_i l hl
  split at h
  ·rename_i ts hts
   rw [qak] at h;refine ⟨_,?_,h⟩;rw [hm ts hts];have hne:¬ (evs ρ ts).toArray.size=1:=by
    intro h1;rw [qdm] at h1;simp at h1
    match rs.toList,hts,hl with
    | [],hts,_=>cases hts;cases h1
    | [.tmp t],_,hl=>exact hl t rfl
    | .tmp t::y::r,hts,_=>
     simp only [qf4] at hts
     revert hts
     cases y with
     | cell a t=>intro hts;cases hts
     | tmp u=>
      simp only [qf4];cases qf4 r<;>intro hts<;>cases hts
      simp at h1
    | .cell a t::r,hts,_=>cases hts
   rw [dif_neg hne]
  ·exact h a ha
theorem Gv.mono {f:FuncId} {vs:List Value} {w:World} {R R':Value→World→Prop} (h:Gv P f vs w R) (hr:∀ v w',R v w'→R' v w'):Gv P f vs w R':=
 ⟨h.1,h.2.mono fun _ _ ⟨v,he,hv⟩=>⟨v,he,hr _ _ hv⟩⟩
theorem CallV.of {f:FuncId} {vs:List Value} {w:World} {R K:Value→World→Prop} (h:Gv P f vs w R) (hr:∀ v w',R v w'→K v w'):CallV P f vs w K:=
 ⟨.inl (h.mono hr)⟩
theorem gv {f:FuncId} {fn:Func} {c:Code} {vs:List Value} {w:World} {R:Value→World→Prop} (he:qdx P f=true) (hf:P.funcs[f]?=some fn) (hb:fn.body=some c) (hn:fn.ntmps=n)
  (hl:Nat.ble vs.length n=true) (h:qem P n c (qx5 P n fn R) (ini vs) w):Gv P f vs w R:=by
 have hl':vs.length≤n:=by simpa using hl
 refine ⟨he,calls_of_wp hf hb (wp_mono (qho c _ _ _ h _ ⟨?_,?_,rfl⟩) fun e a w hq=>?_)⟩
 ·simp [hn];omega
 ·intro t;rw [qxn,Array.getD_eq_getD_getElem?];simp only [Array.getElem?_append,List.size_toArray,hn]
  split
  ·simp
  ·rename_i ht
   rw [List.getElem?_eq_none (by omega)];simp only [Array.getElem?_replicate]
   split<;>rfl
 ·obtain ⟨ρ,hst,hq⟩:=hq;cases e with
  | normal=>
   obtain ⟨v,h1,h2⟩:=qip rfl hst hq;exact ⟨hst.defers,v,h1,v,rfl,h2⟩
  | ret=>
   obtain ⟨v,h1,h2⟩:=qip rfl hst hq;exact ⟨hst.defers,v,h1,v,rfl,h2⟩
  | exit i=>exact hq.elim
  | goto i=>exact hq.elim
  | panic i=>exact hq.elim
  | outgrown=>exact hq.elim
end
theorem Wit.conv {k:IntKind} {n:Int} {K:Int→Prop} (h:InR k n) (hk:K n):Wit (fun r=>k.wrap n=r) K:=⟨n,h.wrap,hk⟩
theorem Wit.eq {α:Type} {x y:α} {K:α→Prop} (h:x=y) (hk:K y):Wit (fun r=>x=r) K:=⟨y,h,hk⟩
theorem Wit.shl {k:IntKind} {a b m r:Int} {K:Int→Prop} (h0:0≤b∧b<k.bits) (hm:(2:Int) ^ b.toNat=m) (hr:a*m=r) (hi:InR k r) (hk:K r) :
  Wit (fun r=>0≤b∧b<k.bits∧k.wrap (a*2 ^ b.toNat)=r) K:=⟨r,⟨h0.1,h0.2,by rw [hm,hr];exact hi.wrap⟩,hk⟩
theorem Wit.shr {k:IntKind} {a b m r:Int} {K:Int→Prop} (h0:0≤b∧b<k.bits) (hm:(2:Int) ^ b.toNat=m) (hr:a/m=r) (hk:K r) :
  Wit (fun r=>0≤b∧b<k.bits∧a/2 ^ b.toNat=r) K:=⟨r,⟨h0.1,h0.2,by rw [hm,hr]⟩,hk⟩
theorem IdxV.nat {j n:Nat} {K:Nat→Prop} (h:j<n) (hk:K j):IdxV (j:Int) n K:=⟨j,rfl,h,hk⟩
theorem IdxV.at_ {i:Int} (j:Nat) {n:Nat} {K:Nat→Prop} (e:i=(j:Int)) (h:j<n) (hk:K j):IdxV i n K:=⟨j,e,h,hk⟩
theorem SliceS.at_ {s:ByteArray} {lo hi:Option Value} {K:Value→Prop} (l h:Nat) (h1:bnd lo 0 l) (h2:bnd hi s.size h) (h3:l≤h) (h4:h≤s.size) (hk:K (.string (s.extract l h))) :
  SliceS s lo hi K:=⟨l,h,h1,h2,h3,h4,hk⟩
theorem qfn (k:IntKind) (m:Nat) (hm:m<2 ^ k.bits):(BitVec.ofInt k.bits (m:Int)).toNat=m:=by
 simp;exact Nat.mod_eq_of_lt hm
theorem InR.lt {k:IntKind} {m:Nat} (h:InR k m):m<2 ^ k.bits:=by
 cases k<;>obtain ⟨h1,h2⟩:=h<;>simp [IntKind.bits]<;>omega
theorem InR.le {k:IntKind} {m n:Nat} (h:InR k n) (hm:m≤n):InR k m:=by
 cases k<;>obtain ⟨h1,h2⟩:=h<;>exact ⟨by omega,by omega⟩
theorem qov {k:IntKind} {m n:Nat} (hm:InR k m) (hn:InR k n):qel .and k m n=((m &&&n:Nat):Int):=by
 simp only [qel];rw [BitVec.toNat_and,qfn k m (InR.lt hm),qfn k n (InR.lt hn)];exact InR.wrap (InR.le hm Nat.and_le_left)
theorem qsc {k:IntKind} {m n:Nat} (hm:InR k m) (hn:InR k n) (h:InR k ((m |||n:Nat):Int)):qel .or k m n=((m |||n:Nat):Int):=by
 simp only [qel];rw [BitVec.toNat_or,qfn k m (InR.lt hm),qfn k n (InR.lt hn)];exact InR.wrap h
theorem qao {k:IntKind} {m:Nat} (i:Nat) {c:Int} (hc:c=((2 ^ i-1:Nat):Int)) (hm:InR k m) (hn:InR k c):qel .and k m c=((m%2 ^ i:Nat):Int):=by
 subst hc;rw [qov hm hn,Nat.and_two_pow_sub_one_eq_mod]
theorem qvj {k:IntKind} {a b:Nat} (i:Nat) (ha:InR k ((a*2 ^ i+b:Nat):Int)) (hb:b<2 ^ i):qel .or k ((a*2 ^ i:Nat):Int) b=((a*2 ^ i+b:Nat):Int):=by
 have e:(a*2 ^ i |||b)=a*2 ^ i+b:=by rw [Nat.mul_comm];exact (Nat.two_pow_add_eq_or_of_lt hb a).symm
 rw [qsc (InR.le ha (by omega)) (InR.le ha (by omega)) (by rw [e];exact ha),e]
end V
end Go.Proofs.YtajgbepghniciaaGreatDoor
namespace Go.Proofs.YtajgbepghniciaaGreatDoor
open Go.RowKit
namespace V
def Ext (w w':World):Prop:=Below w.heap.size w w'
theorem Ext.refl (w:World):Ext w w:=Below.refl _ _
theorem Ext.trans {a b c:World} (h:Ext a b) (k:Ext b c):Ext a c:=Below.trans h (Below.mono k h.size)
theorem Ext.alloc {a w:World} (h:Ext a w) (o:Obj):Ext a (w.alloc o):=Below.alloc h h.size o
theorem Ext.get {w w':World} (h:Ext w w') {b:Nat} {o:Obj} (hb:w.heap[b]?=some o):w'.heap[b]?=some o:=by
 rw [h.block b]
 ·exact hb
 ·rcases Nat.lt_or_ge b w.heap.size with h|h
  ·exact h
  ·rw [Array.getElem?_eq_none h] at hb;cases hb
theorem Ext.cell {w w':World} (h:Ext w w') {a:Addr} {v:Value} (hv:w.cell? a=some v):w'.cell? a=some v:=by
 have hlt:a.block<w.heap.size:=by
  rcases Nat.lt_or_ge a.block w.heap.size with h|h
  ·exact h
  ·unfold World.cell? at hv;rw [Array.getElem?_eq_none h] at hv;cases hv
 rw [Below.cell h hlt];exact hv
theorem Ext.drew {a w:World} (h:Ext a w):Ext a w.drew:=Below.drew h
theorem qj0 {w:World} {r b:Nat} {o:Obj} (h:b≠r):(setO w r o).heap[b]?=w.heap[b]?:=by
 simp only [setO];rw [Array.getElem?_setIfInBounds_ne (fun e=>h e.symm)]
theorem quk {w:World} {r:Nat} {o o':Obj} (h:w.heap[r]?=some o'):(setO w r o).heap[r]?=some o:=by
 have hlt:r<w.heap.size:=by
  rcases Nat.lt_or_ge r w.heap.size with h' | h'
  ·exact h'
  ·rw [Array.getElem?_eq_none h'] at h;cases h
 simp [setO,hlt]
theorem Ext.setO {a w:World} (h:Ext a w) {r:Nat} (hr:a.heap.size≤r) (o:Obj):Ext a (setO w r o):=
 Below.trans h ⟨rfl,rfl,rfl,by simp [V.setO],fun k hk=>qj0 (by omega)⟩
theorem Ext.setCell {a w:World} (h:Ext a w) {p:Addr} (hr:a.heap.size≤p.block) (v:Value):Ext a (w.setCell p v):=Below.setCell h hr v
structure Mem (w0 w:World) (L:List (Nat × Obj)):Prop where
 ext:Ext w0 w
 own:∀ x∈L,w0.heap.size≤x.1∧w.heap[x.1]?=some x.2
 nodup:(L.map (·.1)).Nodup
section
variable {w0 w w':World} {L:List (Nat × Obj)}
theorem Mem.nil (w:World):Mem w w []:=⟨Ext.refl w,fun _ h=>by simp at h,by simp⟩
theorem Mem.lt (h:Mem w0 w L) {b:Nat} {o:Obj} (hx:(b,o)∈L):b<w.heap.size:=by
 have:=(h.own _ hx).2
 rcases Nat.lt_or_ge b w.heap.size with h' | h'
 ·exact h'
 ·rw [Array.getElem?_eq_none h'] at this;cases this
theorem Mem.get (h:Mem w0 w L) {b:Nat} {o:Obj} (hx:(b,o)∈L):w.heap[b]?=some o:=(h.own _ hx).2
theorem Mem.new (h:Mem w0 w L) {b:Nat} {o:Obj} (hb:b=w.heap.size) (hw:w'=w.alloc o):Mem w0 w' ((b,o)::L):=by
 subst hb hw;refine ⟨h.ext.alloc o,?_,?_⟩
 ·intro x hx
  rcases List.mem_cons.1 hx with rfl|hx
  ·exact ⟨h.ext.size,heap_alloc_new w _⟩
  ·exact ⟨(h.own x hx).1,by rw [Below.heap_alloc _ _ _ (h.lt (b:=x.1) (o:=x.2) hx)];exact (h.own x hx).2⟩
 ·simp only [List.map_cons,List.nodup_cons];refine ⟨fun hm=>?_,h.nodup⟩;obtain ⟨x,hx,e⟩:=List.mem_map.1 hm;have:=h.lt (b:=x.1) (o:=x.2) hx;omega
theorem Mem.call (h:Mem w0 w L) (he:Ext w w'):Mem w0 w' L:=
 ⟨h.ext.trans he,fun x hx=>⟨(h.own x hx).1,he.get (h.own x hx).2⟩,h.nodup⟩
theorem Mem.drew (h:Mem w0 w L):Mem w0 w.drew L:=⟨h.ext.drew,h.own,h.nodup⟩
theorem Mem.set (h:Mem w0 w L) {i b:Nat} {o o':Obj} (hi:L[i]?=some (b,o)) (hs:Ext w0 w') (hb:w'.heap[b]?=some o')
  (ho:∀ c,c≠b→w'.heap[c]?=w.heap[c]?):Mem w0 w' (L.set i (b,o')):=by
 have hil:i<L.length:=by
  rcases Nat.lt_or_ge i L.length with h' | h'
  ·exact h'
  ·rw [List.getElem?_eq_none h'] at hi;cases hi
 have hib:L[i]=(b,o):=by rw [List.getElem?_eq_getElem hil] at hi;exact Option.some.inj hi
 have hn:((L.set i (b,o')).map (·.1))=L.map (·.1):=by
  rw [List.map_set];have:(L.map (·.1))[i]?=some b:=by rw [List.getElem?_map,hi];rfl
  apply List.ext_getElem?;intro j;rw [List.getElem?_set]
  split
  ·rename_i e;subst e
   rw [this];simp [hil]
  ·rfl
 refine ⟨hs,?_,by rw [hn];exact h.nodup⟩;intro x hx
 rcases List.mem_or_eq_of_mem_set hx with hx' | rfl
 ·refine ⟨(h.own x hx').1,?_⟩
  by_cases e:x.1=b
  ·obtain ⟨j,hj,hje⟩:=List.mem_iff_getElem.1 hx
   by_cases hij:j=i
   ·subst hij;rw [List.getElem_set_self] at hje;rw [← hje];exact hb
   ·have h1:(L.map (·.1))[j]'(by simpa using hj)=b:=by
     have:(L.set i (b,o'))[j]=L[j]'(by simpa using hj):=List.getElem_set_ne (fun e=>hij e.symm) _;rw [List.getElem_map,← this,hje,e]
    have h2:(L.map (·.1))[i]'(by simpa using hil)=b:=by rw [List.getElem_map,hib]
    have:=(List.getElem_inj h.nodup).1 (h1.trans h2.symm);exact absurd this hij
  ·rw [ho _ e];exact (h.own x hx').2
 ·exact ⟨(h.own (b,o) (hib ▸ List.getElem_mem hil)).1,hb⟩
theorem Mem.setO (h:Mem w0 w L) {i b:Nat} {o:Obj} (o':Obj) (hi:L[i]?=some (b,o)) (hw:w'=setO w b o'):Mem w0 w' (L.set i (b,o')):=by
 subst hw;have hm:(b,o)∈L:=List.mem_of_getElem? hi;exact h.set hi (h.ext.setO (h.own _ hm).1 o') (quk (h.get hm)) (fun c hc=>qj0 hc)
theorem heap_setCell {w:World} {b off:Nat} {v:Value} {cs:Array Value} {t:TypeId} {fr:Nat × Nat} (h:w.heap[b]?=some (.cells cs t fr)) :
  (w.setCell ⟨b,off,none⟩ v).heap[b]?=some (.cells (cs.setIfInBounds off v) t fr):=by
 simp [World.setCell,Array.getElem?_modify,h]
theorem Mem.setCell (h:Mem w0 w L) {i b off:Nat} {v:Value} {cs:Array Value} {t:TypeId} {fr:Nat × Nat} (hi:L[i]?=some (b,.cells cs t fr)) (hw:w'=w.setCell ⟨b,off,none⟩ v) :
  Mem w0 w' (L.set i (b,.cells (cs.setIfInBounds off v) t fr)):=by
 subst hw;have hm:(b,Obj.cells cs t fr)∈L:=List.mem_of_getElem? hi;exact h.set hi (h.ext.setCell (h.own _ hm).1 v) (heap_setCell (h.get hm)) (fun c hc=>Below.heap_setCell _ _ _ _ hc)
theorem Mem.sub {L':List (Nat × Obj)} (h:Mem w0 w L) (hs:L'.Sublist L):Mem w0 w L':=
 ⟨h.ext,fun x hx=>h.own x (hs.subset hx),(hs.map _).nodup h.nodup⟩
theorem Mem.perm {L':List (Nat × Obj)} (h:Mem w0 w L) (hs:L'.Perm L):Mem w0 w L':=
 ⟨h.ext,fun x hx=>h.own x (hs.mem_iff.1 hx),(hs.map _).nodup_iff.2 h.nodup⟩
end
theorem qd {w:World} {b off:Nat} {cs:Array Value} {t:TypeId} {fr:Nat × Nat} (h:w.heap[b]?=some (.cells cs t fr)):w.cell? ⟨b,off,none⟩=cs[off]?:=by
 simp [World.cell?,h]
theorem LoadV.own {w:World} {b off:Nat} {cs:Array Value} {t:TypeId} {fr:Nat × Nat} {v:Value} {K:Value→Prop} (h:w.heap[b]?=some (.cells cs t fr)) (hv:cs[off]?=some v) (hk:K v) :
  LoadV w b off K:=⟨v,by rw [qd h];exact hv,hk⟩
theorem LoadV.of {w:World} {b off:Nat} {v:Value} {K:Value→Prop} (h:w.cell? ⟨b,off,none⟩=some v) (hk:K v):LoadV w b off K:=⟨v,h,hk⟩
theorem StoreV.own {w:World} {b off:Nat} {cs:Array Value} {t:TypeId} {v:Value} {K:World→Prop} (h:w.heap[b]?=some (.cells cs t (0,0))) (ho:off<cs.size) (h1:qdf v=true)
  (hk:∀ w',w'=w.setCell ⟨b,off,none⟩ v→K w'):StoreV w b off v K:=by
 refine ⟨⟨cs[off],?_⟩,?_,h1,hk _ rfl⟩
 ·rw [qd h];exact Array.getElem?_eq_getElem ho
 ·simp [World.frozen?,h]
theorem NewV.mem {w0 w:World} {L:List (Nat × Obj)} {o:Obj} {K:Nat→World→Prop} (h:Mem w0 w L) (hk:∀ b w',Mem w0 w' ((b,o)::L)→K b w'):NewV w o K:=
 ⟨fun b w' hb hw=>hk b w' (h.new hb hw)⟩
theorem NextS.mem {w0 w:World} {L:List (Nat × Obj)} {r pos:Nat} {s:ByteArray} {K:Value→World→Prop} (h:Mem w0 w L) {i:Nat} (hi:L[i]?=some (r,.stringIter s pos))
  (h1:pos<s.size→∀ w',Mem w0 w' (L.set i (r,.stringIter s (pos+(Utf8.decode s pos).2)))→K (.tuple #[.bool true,.int .i64 pos,.int .i32 (Utf8.decode s pos).1]) w')
  (h2:¬ pos<s.size→K (.tuple #[.bool false]) w):NextS w r K:=
 ⟨s,pos,h.get (List.mem_of_getElem? hi),fun hp w' hw=>h1 hp w' (h.setO _ hi hw),h2⟩
theorem LoadV.mem {w0 w:World} {L:List (Nat × Obj)} {i b off:Nat} {cs:Array Value} {t:TypeId} {fr:Nat × Nat} {v:Value} {K:Value→Prop} (h:Mem w0 w L) (hi:L[i]?=some (b,.cells cs t fr))
  (hv:cs[off]?=some v) (hk:K v):LoadV w b off K:=LoadV.own (h.get (List.mem_of_getElem? hi)) hv hk
theorem LoadA.mem {w0 w:World} {L:List (Nat × Obj)} {i b size:Nat} {cs:Array Value} {t:TypeId} {fr:Nat × Nat} {K:List Value→Prop} (h:Mem w0 w L) (hi:L[i]?=some (b,.cells cs t fr))
  (hs:cs.toList.length=size) (hk:K cs.toList):LoadA w b 0 size K:=
 ⟨cs.toList,hs,fun j _=>by rw [qd (h.get (List.mem_of_getElem? hi)),Nat.zero_add];simp,hk⟩
theorem StoreV.mem {w0 w:World} {L:List (Nat × Obj)} {i b off:Nat} {cs:Array Value} {t:TypeId} {v:Value} {K:World→Prop} (h:Mem w0 w L) (hi:L[i]?=some (b,.cells cs t (0,0)))
  (ho:off<cs.size) (h1:qdf v=true) (hk:∀ w',Mem w0 w' (L.set i (b,.cells (cs.setIfInBounds off v) t (0,0)))→K w'):StoreV w b off v K:=
 StoreV.own (h.get (List.mem_of_getElem? hi)) ho h1 fun w' hw=>hk w' (h.setCell hi hw)
theorem CellsAt.ext {w w':World} {b off:Nat} {vs:List Value} (h:CellsAt w b off vs) (he:Ext w w'):CellsAt w' b off vs:=fun k v hv=>he.cell (h k v hv)
theorem LoadV.cells {w:World} {b off:Nat} {vs:List Value} {v:Value} {K:Value→Prop} (h:CellsAt w b off vs) (k:Nat) (hv:vs[k]?=some v) (hk:K v):LoadV w b (off+k) K:=⟨v,h k v hv,hk⟩
theorem LoadV.cell0 {w:World} {b off:Nat} {v:Value} {vs:List Value} {K:Value→Prop} (h:CellsAt w b off (v::vs)) (hk:K v):LoadV w b off K:=⟨v,h 0 v rfl,hk⟩
theorem LoadA.cells {w:World} {b off size:Nat} {vs:List Value} {K:List Value→Prop} (h:CellsAt w b off vs) (hs:vs.length=size) (hk:K vs):LoadA w b off size K:=
 ⟨vs,hs,fun i hi=>by
  have hl:i<vs.length:=by omega
  rw [h i vs[i] (List.getElem?_eq_getElem hl),List.getElem?_eq_getElem hl],hk⟩
structure SlAt {α:Type} (enc:α→List Value) (size:Nat) (w:World) (A:Option Addr) (l:List α):Prop where
 at_:l≠[]→∃ b off,A=some ⟨b,off,none⟩∧∀ (j:Nat) x,l[j]?=some x→CellsAt w b (off+j*size) (enc x)
theorem SlAt.ext {α:Type} {enc:α→List Value} {size:Nat} {w w':World} {A:Option Addr} {l:List α} (h:SlAt enc size w A l) (he:Ext w w'):SlAt enc size w' A l:=
 ⟨fun hn=>let ⟨b,off,h1,h2⟩:=h.at_ hn;⟨b,off,h1,fun j x hx=>(h2 j x hx).ext he⟩⟩
theorem ElemV.sl {α:Type} {enc:α→List Value} {size len:Nat} {w:World} {A:Option Addr} {l:List α} {i:Int} {K:Value→Prop} (h:SlAt enc size w A l) (hl:l.length=len) (j:Nat) (e:i=(j:Int)) (hj:j<len)
  (hk:∀ b off,CellsAt w b off (enc (l[j]'(hl ▸ hj)))→K (.pointer (some ⟨b,off,none⟩))):ElemV A i len size K:=by
 obtain ⟨b,off,h1,h2⟩:=h.at_ (by intro e;subst e;simp at hl;omega);exact ⟨b,off,j,h1,e,hj,hk _ _ (h2 j _ (List.getElem?_eq_getElem (hl ▸ hj)))⟩
theorem ElemV.own1 {b len size:Nat} {i:Int} {K:Value→Prop} (j:Nat) (e:i=(j:Int)) (hj:j<len) (hk:K (.pointer (some ⟨b,j,none⟩))) (hs:size=1:=by rfl):ElemV (some ⟨b,0,none⟩) i len size K:=by
 subst hs;exact ⟨b,0,j,rfl,e,hj,by rw [Nat.mul_one,Nat.zero_add];exact hk⟩
def encS (s:ByteArray):List Value:=[.string s]
def encI (n:Int):List Value:=[.int .i64 n]
theorem qbt {w:World} {b:Nat} {cur cs:Array Value} {t:TypeId} (h:w.heap[b]?=some (.cells cur t (0,0))):(w.setRow b cs).heap[b]?=some (.cells cs t (0,0)):=
 setRow_heap w b cur cs t _ h
theorem ql {w:World} {b c:Nat} {cs:Array Value} (h:c≠b):(w.setRow b cs).heap[c]?=w.heap[c]?:=by
 simp only [World.setRow,Array.getElem?_modify];rw [if_neg (fun e=>h e.symm)]
theorem StoreA.mem {P:Program} {w0 w:World} {L:List (Nat × Obj)} {i b off:Nat} {cur:Array Value} {t:TypeId} {vs:List Value} {K:World→Prop} (h:Mem w0 w L)
  (hi:L[i]?=some (b,.cells cur t (0,0))) (hl:off+vs.length≤cur.size) (h1:∀ v∈vs,v.oneCell'=true)
  (hk:∀ w',Mem w0 w' (L.set i (b,.cells (cur.toList.take off++vs++cur.toList.drop (off+vs.length)).toArray t (0,0)))→K w'):StoreA P w b off vs K:=by
 have hm:(b,Obj.cells cur t (0,0))∈L:=List.mem_of_getElem? hi;have hg:=h.get hm;have hr:=run_storeCells_at P b off t vs 0 cur w hg (by simpa using hl) h1;simp only [Nat.add_zero] at hr;refine ⟨_,hr,hk _ ?_⟩;refine h.set hi ?_ (qbt hg) (fun c hc=>ql hc);exact Below.trans h.ext ⟨rfl,rfl,rfl,by simp [World.setRow],fun k hk=>ql (by have:=(h.own _ hm).1;simp only at this;omega)⟩
structure Rw (w0 w:World) (v:Value) (e:TypeId) (size n:Nat) (xs:List Value) (L:List (Nat × Obj)):Prop where
 mem:Mem w0 w L
 own:w.ownsRow w0.heap.size e size v n xs
 apart:∀ x∈L,v.ownBlock≠some x.1
section
variable {P:Program} {w0 w w':World} {v:Value} {e:TypeId} {size n:Nat} {xs:List Value} {L:List (Nat × Obj)}
theorem Rw.nil (h:Mem w0 w L):Rw w0 w (.slice none 0 0) e size 0 [] L:=⟨h,World.ownsRow_nil _ _ _ _,fun _ _=>by simp [Value.ownBlock]⟩
theorem Rw.slice (h:Rw w0 w v e size n xs L):∃ A c,v=.slice A n c:=by
 rcases h.own.2 with ⟨rfl,rfl⟩|⟨g,cap,cur,rfl,_⟩
 ·exact ⟨_,_,rfl⟩
 ·exact ⟨_,_,rfl⟩
theorem Rw.len (h:Rw w0 w v e size n xs L):xs.length=n*size:=h.own.1
theorem Rw.grown {row:Option Nat} (h:Rw w0 w v e size n xs L) (hg:w.grownBy w' row) (hr:∀ k,row=some k→w0.heap.size≤k∧∀ x∈L,x.1≠k):Mem w0 w' L:=by
 refine ⟨Below.grown h.mem.ext hg h.mem.ext.size (fun k hk=>(hr k hk).1),fun x hx=>⟨(h.mem.own x hx).1,?_⟩,h.mem.nodup⟩;rw [hg.block x.1 (h.mem.lt hx) (fun e=>(hr x.1 e.symm).2 x hx rfl)];exact (h.mem.own x hx).2
theorem Rw.call (h:Rw w0 w v e size n xs L) (he:Ext w w'):Rw w0 w' v e size n xs L:=by
 refine ⟨h.mem.call he,h.own.kept (row:=none) ⟨he.os,he.tape,he.output,he.size,fun k hk _=>he.block k hk⟩ ?_,h.apart⟩;cases v.ownBlock<;>simp
theorem Rw.newBlk (h:Rw w0 w v e size n xs L) {b:Nat} {o:Obj} (hb:b=w.heap.size) (hw:w'=w.alloc o):Rw w0 w' v e size n xs ((b,o)::L):=by
 have hx:Ext w w':=by rw [hw];exact (Ext.refl w).alloc o
 refine ⟨h.mem.new hb hw,(h.call hx).own,fun x hx=>?_⟩
 rcases List.mem_cons.1 hx with rfl|hx
 ·intro e;have:=h.own.lt _ e;simp only at this;omega
 ·exact h.apart x hx
theorem AppV.rw {t ty:TypeId} {i:TypeInfo} {z:Value} {A:Option Addr} {m c:Nat} {news:List Value} {K:Value→World→Prop} (ht:P.underlying t=some (.slice e)) (hi:P.info? e=some i) (hz:i.zero=some z)
  (hsize:i.size=size) (hzs:z.cells.size=size) (hsz:0<size) (h:Rw w0 w v e size n xs L) (hl:news.length=m*size)
  (hA:news≠[]→∃ b off,A=some ⟨b,off,none⟩∧CellsAt w b off news) (h1:∀ u∈news,u.oneCell'=true) (hb:(n+m)*i.bytes≤140737488355328) (h63:n+m≤140737488355328)
  (hk:∀ A' c' w',Rw w0 w' (.slice A' (n+m) c') e size (n+m) (xs++news) L→K (.slice A' (n+m) c') w'):AppV P #[t,t] ty v (.slice A m c) w K:=by
 cases A with
 | none=>
  have hn:news=[]:=by
   cases hnn:news with
   | nil=>rfl
   | cons x r=>obtain ⟨b,off,h0,_⟩:=hA (by rw [hnn];simp);cases h0
  subst hn;have hm:m=0:=by
   rcases Nat.mul_eq_zero.1 (show m*size=0 by simpa using hl.symm) with h|h
   ·exact h
   ·omega
  subst hm;obtain ⟨A',c',rfl⟩:=h.slice;refine ⟨_,w,?_,hk A' c' w (by simpa using h)⟩
  rcases h.own.2 with ⟨e1,e2⟩|⟨g,cap,cur,e1,_,_,hnc,_⟩
  ·cases e1;simp [Builtin.append_,run_underlying ht,sizeOf,typeInfo,hi,Builtin.lenOf,Builtin.firstCells]
  ·cases e1;simp [Builtin.append_,run_underlying ht,sizeOf,typeInfo,hi,Builtin.lenOf,Builtin.firstCells,hnc,storeCells]
 | some a=>
  have hcells:∀ j u,news[j]?=some u→w.cell? (a.add j)=some u:=by
   intro j u hu;obtain ⟨b,off,h0,h1⟩:=hA (by intro e;rw [e] at hu;simp at hu);cases h0;rw [qai];exact h1 j u hu
  obtain ⟨v',w',hrun,h2,h3,_,h5⟩:=run_append_own_at (P:=P) w w0.heap.size t ty e i z size i.bytes ht hi hz hsize rfl hzs hsz v n xs h.own a m c news hl hcells h1 (by simp only [maxLen];omega) hb h.mem.ext.size;have hR:Rw w0 w' v' e size (n+m) (xs++news) L:=by
   refine ⟨h.grown h3 (fun k hk=>⟨(h.own.lt k hk).1,fun x hx e=>h.apart x hx (by rw [hk,e])⟩),h2,fun x hx=>?_⟩
   rcases h5 with h5|h5<;>rw [h5]
   ·exact h.apart x hx
   ·intro e;have:=h.mem.lt (b:=x.1) (o:=x.2) hx;simp only [Option.some.injEq] at e;omega
  obtain ⟨A',c',rfl⟩:=hR.slice;exact ⟨_,w',hrun,hk A' c' w' hR⟩
end
end V
end Go.Proofs.YtajgbepghniciaaGreatDoor
