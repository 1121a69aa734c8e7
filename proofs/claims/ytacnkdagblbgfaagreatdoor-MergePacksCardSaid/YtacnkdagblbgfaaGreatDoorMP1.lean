/- Lemmas and contracts of functions on the way to the law's card (part 1 of 9). -/
import Derived.Test.YtacnkdagblbgfaaGreatDoorProg
import Derived.WalkKit
import Derived.WalkSpells
import Derived.StillTactics
import Derived.Lib.Hide
import Derived.IntWalk
import Derived.Still
import Derived.Scope
import Derived.Maps.AppendAt
import Derived.Lib.AppendStr
import Derived.Orders
namespace Go.Proofs.YtacnkdagblbgfaaGreatDoor
open Go.RowKit
theorem Oo {p:Prop} (e:p:=by omega):p:=e
theorem Ok {p:Prop} (e:p:=by kernel_rfl):p:=e
theorem Od {p:Prop} (e:p:=by decide):p:=e
theorem Js {p:Prop} (e:p:=by simp):p:=e
theorem Ys {p:Prop} (e:p:=by (simp;omega)):p:=e
theorem Oa {p:Prop} (e:p:=by assumption):p:=e
theorem mh {α:Type} {a:α} {l:List α}:a∈a::l:=List.mem_cons_self ..
abbrev LB:=List UInt8
abbrev oA:=Option Addr
abbrev ii (n:Int):Value:=.int .i64 n
abbrev pp (b:Nat):Value:=.pointer (some ⟨b,0,none⟩)
theorem zge {α:Type} {l:List α} {i:Nat} (h:i<l.length):l[i]?=some l[i]:=List.getElem?_eq_getElem h
theorem zld {α:Type} {i:Nat} {l:List α}:(l.drop i).length=l.length-i:=List.length_drop ..
theorem zla {α:Type} {l m:List α}:(l++m).length=l.length+m.length:=List.length_append ..
theorem znr {n:Nat}:n≤n:=Nat.le_refl _
theorem zmg {α:Type} {l:List α} {i:Nat} {a:α} (h:l[i]?=some a):a∈l:=List.mem_of_getElem? h
theorem zmc {α:Type} {a y:α} {l:List α} (h:a∈l):a∈y::l:=List.mem_cons_of_mem _ h
namespace V
def upd (ρ:Nat→Value) (d:Nat) (v:Value):Nat→Value:=fun t=>bif Nat.beq t d then v else ρ t
def ev (ρ:Nat→Value):Operand→Value
 | .tmp t=>ρ t
 | .const v=>v
 | .global g=>.pointer (some ⟨g,0,none⟩)
 | .func f=>.func (.func f) #[] #[]
def qbz:Value→Bool
 | .agg _ | .tuple _=>false
 | _=>true
structure St (n:Nat) (ρ:Nat→Value) (a:Act):Prop where
 size:a.tmps.size=n
 get:∀ t,a.tmps.getD t undef=ρ t
 defers:a.defers=[]
theorem St.eval {n:Nat} {ρ:Nat→Value} {a:Act} (h:St n ρ a):a.eval=ev ρ:=by
 funext x;cases x<;>simp [Act.eval,ev,h.get]
theorem St.put {n:Nat} {ρ:Nat→Value} {a:Act} (h:St n ρ a) {d:Nat} (hd:d<n) (v:Value):St n (upd ρ d v) (a.put (some d) v):=by
 refine ⟨by simp [Act.put,h.size],fun t=>?_,by simp [Act.put,h.defers]⟩;have hg:=h.get t;have hs:=h.size;simp only [Act.put,upd,Array.getD_eq_getD_getElem?] at hg ⊢
 by_cases e:t=d
 ·subst e;simp [hs,hd]
 ·have e':Nat.beq t d=false:=Bool.eq_false_iff.2 fun h=>e (Nat.eq_of_beq_eq_true h)
  rw [e',Array.getElem?_setIfInBounds_ne (fun x=>e x.symm)]
  simpa using hg
theorem St.same {n:Nat} {ρ:Nat→Value} {a:Act} (h:St n ρ a) {d:Nat} {v:Value} (hv:ρ d=v):St n (upd ρ d v) a:=by
 refine ⟨h.size,fun t=>?_,h.defers⟩;rw [h.get];unfold upd
 by_cases e:t=d
 ·subst e;simp [hv]
 ·have e':Nat.beq t d=false:=Bool.eq_false_iff.2 fun h=>e (Nat.eq_of_beq_eq_true h)
  rw [e'];rfl
structure Tst (b:Bool) (p q:Prop):Prop where
 t:b=true→p
 f:b=false→q
theorem Tst.tt {p q:Prop} (h:p):Tst true p q:=⟨fun _=>h,fun e=>by cases e⟩
theorem Tst.ff {p q:Prop} (h:q):Tst false p q:=⟨(fun e=>by cases e),fun _=>h⟩
theorem Tst.dec {c p q:Prop} [Decidable c] (h1:c→p) (h2:¬ c→q):Tst (decide c) p q:=⟨fun e=>h1 (of_decide_eq_true e),fun e=>h2 (of_decide_eq_false e)⟩
theorem Tst.not {b:Bool} {p q:Prop} (h:Tst b q p):Tst (!b) p q:=⟨fun e=>h.f (by simpa using e),fun e=>h.t (by simpa using e)⟩
theorem Tst.beqT {b c:Bool} {p q:Prop} (h:Tst b p q) (hc:c=true:=by rfl):Tst (b==c) p q:=by subst hc;cases b<;>exact h
theorem Tst.beqF {b c:Bool} {p q:Prop} (h:Tst b q p) (hc:c=false:=by rfl):Tst (b==c) p q:=by
 subst hc;cases b
 ·exact ⟨fun _=>h.f rfl,fun e=>by cases e⟩
 ·exact ⟨(fun e=>by cases e),fun _=>h.t rfl⟩
theorem Tst.yes {b:Bool} {p q:Prop} (hb:b=true) (h:p):Tst b p q:=⟨fun _=>h,fun e=>by rw [hb] at e;cases e⟩
theorem Tst.no {b:Bool} {p q:Prop} (hb:b=false) (h:q):Tst b p q:=⟨(fun e=>by rw [hb] at e;cases e),fun _=>h⟩
theorem Tst.both {b:Bool} {p q:Prop} (h1:b=true→p) (h2:b=false→q):Tst b p q:=⟨h1,h2⟩
structure Obl (p k:Prop):Prop where
 o:p
 k:k
structure Wit {α:Type} (p:α→Prop) (K:α→Prop):Prop where
 h:∃ x,p x∧K x
def qei (P:Program) (f:FuncId):Bool:=
 match P.funcs[f]? with
 | some fn => !(fn.name== "runtime.NumGoroutine")&&fn.body.isSome
 | none=>false
def Gv (P:Program) (f:FuncId) (args:List Value) (w:World) (R:Value→World→Prop):Prop:=
 qei P f=true∧Calls P f args.toArray w fun e w'=>∃ v,e=.returned v∧R v w'
structure RunV (P:Program) (s:Sem Value) (w:World) (K:Value→World→Prop):Prop where
 h:∃ v w',s.run P w=.ok v w'∧K v w'
structure Fall (P:Program) (s:Sem Next) (w:World) (K:Value→World→Prop):Prop where
 h:(∃ v w',s.run P w=.ok (.value v) w'∧K v w')∨(∃ w',s.run P w=.ok .skip w'∧K undef w')
structure LoadV (w:World) (b off:Nat) (K:Value→Prop):Prop where
 h:∃ v,w.cell? ⟨b,off,none⟩=some v∧K v
structure LoadA (w:World) (b off size:Nat) (K:List Value→Prop):Prop where
 h:∃ cs:List Value,cs.length=size∧(∀ i,i<size→w.cell? ⟨b,off+i,none⟩=cs[i]?)∧K cs
structure StoreV (w:World) (b off:Nat) (v:Value) (K:World→Prop):Prop where
 h:(∃ o,w.cell? ⟨b,off,none⟩=some o)∧w.frozen? ⟨b,off,none⟩=false∧qbz v=true∧K (w.setCell ⟨b,off,none⟩ v)
structure StoreA (P:Program) (w:World) (b off:Nat) (vs:List Value) (K:World→Prop):Prop where
 h:∃ w',(storeCells ⟨b,off,none⟩ vs).run P w=.ok () w'∧K w'
structure AppV (P:Program) (argTypes:Array TypeId) (ty:TypeId) (s x:Value) (w:World) (K:Value→World→Prop):Prop where
 h:∃ v w',(Builtin.append_ argTypes ty #[s,x]).run P w=.ok v w'∧K v w'
structure NewV (w:World) (o:Obj) (K:Nat→World→Prop):Prop where
 h:∀ b w',b=w.heap.size→w'=w.alloc o→K b w'
structure ElemV (A:Option Addr) (i:Int) (len size:Nat) (K:Value→Prop):Prop where
 h:∃ (b off j:Nat),A=some ⟨b,off,none⟩∧i=(j:Int)∧j<len∧K (.pointer (some ⟨b,off+j*size,none⟩))
structure LoopV (P:Program) (n:Nat) (body:Code) (Q:Exit→(Nat→Value)→World→Prop) (ρ:Nat→Value) (w:World):Prop where
 h:∀ a,St n ρ a→(Code.loop body).wp P (fun e a' w'=>∃ ρ',St n ρ' a'∧Q e ρ' w') a w
structure DrawV (P:Program) (n id:Nat) (ops:Array Oper) (Q:Exit→(Nat→Value)→World→Prop) (ρ:Nat→Value) (w:World):Prop where
 h:∀ a,St n ρ a→(Code.region id ops true).wp P (fun e a' w'=>∃ ρ',St n ρ' a'∧Q e ρ' w') a w
structure CodeV (P:Program) (n:Nat) (c:Code) (Q:Exit→(Nat→Value)→World→Prop) (ρ:Nat→Value) (w:World):Prop where
 h:∀ a,St n ρ a→c.wp P (fun e a' w'=>∃ ρ',St n ρ' a'∧Q e ρ' w') a w
def InR (k:IntKind) (n:Int):Prop:=
 match k with
 | .i64=>-9223372036854775808≤n∧n≤9223372036854775807
 | .i32=>-2147483648≤n∧n≤2147483647
 | .i16=>-32768≤n∧n≤32767
 | .i8=>-128≤n∧n≤127
 | .u64=>0≤n∧n≤18446744073709551615
 | .u32=>0≤n∧n≤4294967295
 | .u16=>0≤n∧n≤65535
 | .u8=>0≤n∧n≤255
def eqk:IntKind→IntKind→Bool
 | .i64,.i64 | .i32,.i32 | .i16,.i16 | .i8,.i8 | .u64,.u64 | .u32,.u32 | .u16,.u16 | .u8,.u8=>true
 | _,_=>false
theorem q7t {k j:IntKind} (h:eqk k j=true):k=j:=by cases k<;>cases j<;>first|rfl|cases h
def gb (s:ByteArray) (k:Nat):UInt8:=s.data.toList.getD k 0
def seq (x y:ByteArray):Bool:=x.data==y.data
def slt (x y:ByteArray):Bool:=Op.bytesLess x.toList y.toList
def qdd (op:BinOp) (k:IntKind) (x y:Int):Int:=
 let a:=BitVec.ofInt k.bits x
 let b:=BitVec.ofInt k.bits y
 match op with
 | .and=>k.wrap (a &&&b).toNat
 | .or=>k.wrap (a |||b).toNat
 | .xor=>k.wrap (a ^^^ b).toNat
 | _=>k.wrap (a &&& ~~~b).toNat
def qhi (v:Value) (K:Value→Prop):Prop:=
 match v with
 | .bool b=>K (.bool b)
 | .int k n=>K (.int k n)
 | .float k n=>K (.float k n)
 | .complex k a b=>K (.complex k a b)
 | .string s=>K (.string s)
 | .pointer a=>K (.pointer a)
 | .slice a l c=>K (.slice a l c)
 | .map r=>K (.map r)
 | .chan r=>K (.chan r)
 | .func f a c=>K (.func f a c)
 | .nilFunc=>K .nilFunc
 | .iface t v=>K (.iface t v)
 | .nilIface=>K .nilIface
 | .agg cs=>K (.agg cs)
 | .tuple vs=>K (.tuple vs)
theorem qa1 (v:Value) (K:Value→Prop):qhi v K=K v:=by cases v<;>rfl
def qbx:List Value→(List Value→Prop)→Prop
 | [],K=>K []
 | v::l,K=>qhi v fun u=>qbx l fun r=>K (u::r)
theorem qag (l:List Value):∀ K:List Value→Prop,qbx l K=K l:=by
 induction l with
 | nil=>intro K;rfl
 | cons v l ih=>intro K;simp only [qbx,qa1,ih]
def evs (ρ:Nat→Value):List Operand→List Value
 | []=>[]
 | x::l=>ev ρ x::evs ρ l
theorem qc0 (ρ:Nat→Value) (l:List Operand):evs ρ l=l.map (ev ρ):=by induction l<;>simp [evs, *]
def setL:List Value→Nat→Value→List Value
 | [],_,_=>[]
 | _::l,0,v=>v::l
 | x::l,i+1,v=>x::setL l i v
theorem q6v (l:List Value) (i:Nat) (v:Value):setL l i v=l.set i v:=by
 induction l generalizing i with
 | nil=>rfl
 | cons x l ih=>cases i<;>simp [setL,ih]
def qfu:Operand→Bool
 | .const _=>true
 | _=>false
def isEq:BinOp→Bool
 | .eql | .neq=>true
 | _=>false
def eqOp:BinOp→Bool
 | .eql=>true
 | _=>false
def qjm (P:Program) (t:TypeId) (xo yo:Operand) (x y:Value):Option Bool:=
 match x,y with
 | .pointer none,.pointer b=>match P.underlying t with|some (.pointer _)=>some b.isNone|_=>none
 | .pointer (some _),.pointer none=>match P.underlying t with|some (.pointer _)=>some false|_=>none
 | .slice none _ _,.slice b _ _=>match P.underlying t with|some (.slice _)=>some b.isNone|_=>none
 | .slice (some _) _ _,.slice none _ _=>match P.underlying t with|some (.slice _)=>some false|_=>none
 | .nilIface,.nilIface=>match P.underlying t with|some (.interface _)=>(bif qfu xo||qfu yo then some true else none)|_=>none
 | .nilIface,.iface _ _=>match P.underlying t with|some (.interface _)=>some false|_=>none
 | .iface _ _,.nilIface=>match P.underlying t with|some (.interface _)=>some false|_=>none
 | _,_=>none
def binV (P:Program) (op:BinOp) (t:TypeId) (xo yo:Operand) (x y:Value) (w:World) (K:Value→Prop) (KW:Value→World→Prop):Prop:=
 match x,y with
 | .int k a,.int k' b=>
  match op with
  | .shl=>Wit (fun r=>0≤b∧b<k.bits∧k.wrap (a*2 ^ b.toNat)=r) (fun r=>K (.int k r))
  | .shr=>Wit (fun r=>0≤b∧b<k.bits∧a/2 ^ b.toNat=r) (fun r=>K (.int k r))
  | _=>bif eqk k k' then
   match op with
   | .add=>Obl (InR k (a+b)) (K (.int k (a+b)))
   | .sub=>Obl (InR k (a-b)) (K (.int k (a-b)))
   | .mul=>Obl (InR k (a*b)) (K (.int k (a*b)))
   | .quo=>Obl (0≤a∧0<b∧InR k (a/b)) (K (.int k (a/b)))
   | .rem=>Obl (0≤a∧0<b) (K (.int k (a%b)))
   | .eql=>K (.bool (decide (a=b)))
   | .neq=>K (.bool (decide (a≠b)))
   | .lss=>K (.bool (decide (a<b)))
   | .leq=>K (.bool (decide (a≤b)))
   | .gtr=>K (.bool (decide (b<a)))
   | .geq=>K (.bool (decide (b≤a)))
   | _=>Wit (fun r=>qdd op k a b=r) (fun r=>K (.int k r))
   else False
 | .string a,.string b=>
  match op with
  | .add=>Obl (a.size+b.size≤9223372036854775807) (K (.string (a++b)))
  | .eql=>K (.bool (seq a b))
  | .neq=>K (.bool (!seq a b))
  | .lss=>K (.bool (slt a b))
  | .leq=>K (.bool (slt a b||seq a b))
  | .gtr=>K (.bool (!(slt a b||seq a b)))
  | .geq=>K (.bool (!slt a b))
  | _=>False
 | .bool a,.bool b=>
  match op,P.underlying t with
  | .eql,some .bool=>K (.bool (a==b))
  | .neq,some .bool=>K (.bool (!(a==b)))
  | _,_=>False
 | x,y=>bif isEq op then (match qjm P t xo yo x y with|some b=>K (.bool (bif eqOp op then b else !b))|none=>RunV P (do eqGuard op t xo yo x y;binOp op t x y) w KW) else RunV P (do eqGuard op t xo yo x y;binOp op t x y) w KW
theorem qn0 (a b:ByteArray):(a.toList==b.toList)=seq a b:=by
 unfold seq;rw [ByteArray.toList_eq,ByteArray.toList_eq,Bool.eq_iff_iff,beq_iff_eq,beq_iff_eq]
 constructor
 ·intro h;exact Array.toList_inj.1 h
 ·intro h;rw [h]
theorem qao {a b:ByteArray}:seq a b=true↔a=b:=by
 unfold seq;rw [beq_iff_eq];cases a;cases b;simp
theorem qpo {a b:ByteArray}:seq a b=false↔a≠b:=by
 rw [← Bool.not_eq_true,qao]
theorem Tst.seq {a b:ByteArray} {p q:Prop} (h1:a=b→p) (h2:a≠b→q):Tst (seq a b) p q:=⟨fun e=>h1 (qao.1 e),fun e=>h2 (qpo.1 e)⟩
theorem InR.wrap {k:IntKind} {n:Int} (h:InR k n):k.wrap n=n:=by
 cases k<;>obtain ⟨h1,h2⟩:=h<;>simp [IntKind.bits,IntKind.signed,IntKind.wrap]<;>(try split)<;>omega
theorem qb7 {P:Program} {w:World} {k:IntKind} {a b:Int} {op:BinOp} (t:TypeId) (xo yo:Operand) (h:op=.and∨op=.or∨op=.xor∨op=.andNot) :
  (do eqGuard op t xo yo (.int k a) (.int k b);binOp op t (.int k a) (.int k b):Sem Value).run P w=.ok (.int k (qdd op k a b)) w:=by
 rcases h with rfl|rfl|rfl|rfl<;>simp [eqGuard,binOp,Op.intBits,qdd,go_sem]<;>rfl
theorem qii {P:Program} {w:World} {t:TypeId} {a b:Bool} (d:Nat) (hu:P.underlying t=some .bool) :
  (Op.equalIn (d+1) t (.bool a) (.bool b)).run P w=.ok (a==b) w:=by
 simp [Op.equalIn,run_underlying hu]
theorem qfn {P:Program} {w:World} {t:TypeId} {a b:Bool} (hu:P.underlying t=some .bool) :
  (Op.equal t (.bool a) (.bool b)).run P w=.ok (a==b) w:=qii 9999 hu
theorem qjz {P:Program} {w:World} {t:TypeId} {xo yo:Operand} {x y:Value} {b:Bool} (d:Nat) (h:qjm P t xo yo x y=some b):(Op.equalIn (d+1) t x y).run P w=.ok b w:=by
 unfold qjm at h
 split at h
 ·split at h
  ·rename_i hu;cases h;simp [Op.equalIn,run_underlying hu]
  ·cases h
 ·split at h
  ·rename_i hu;cases h;simp [Op.equalIn,run_underlying hu]
  ·cases h
 ·split at h
  ·rename_i hu;cases h;simp [Op.equalIn,run_underlying hu]
  ·cases h
 ·split at h
  ·rename_i hu;cases h;simp [Op.equalIn,run_underlying hu]
  ·cases h
 ·split at h
  ·rename_i hu
   cases hc:qfu xo||qfu yo<;>rw [hc] at h
   ·cases h
   ·cases h;simp [Op.equalIn,run_underlying hu]
  ·cases h
 ·split at h
  ·rename_i hu;cases h;simp [Op.equalIn,run_underlying hu]
  ·cases h
 ·split at h
  ·rename_i hu;cases h;simp [Op.equalIn,run_underlying hu]
  ·cases h
 ·cases h
theorem qjy {P:Program} {w:World} {t:TypeId} {xo yo:Operand} {x y:Value} {b:Bool} {op:BinOp} (h:qjm P t xo yo x y=some b):(eqGuard op t xo yo x y).run P w=.ok () w:=by
 unfold qjm at h
 split at h
 all_goals try (cases op<;>simp [eqGuard];done)
 ·split at h
  ·cases hc:qfu xo||qfu yo<;>rw [hc] at h
   ·cases h
   ·cases op<;>cases xo<;>cases yo<;>simp_all [eqGuard,qfu]
  ·cases h
 ·cases h
theorem q6t {P:Program} {w:World} {t:TypeId} {xo yo:Operand} {x y:Value} {b:Bool} {op:BinOp} (ho:isEq op=true) (h:qjm P t xo yo x y=some b)
  (h1:∀ k a,x≠.int k a) (h2:∀ a,x≠.string a) (h3:∀ a,x≠.bool a) :
  (do eqGuard op t xo yo x y;binOp op t x y:Sem Value).run P w=.ok (.bool (bif eqOp op then b else !b)) w:=by
 have hg:=qjy (w:=w) (op:=op) h;have he:=qjz (w:=w) 9999 h;cases op<;>first|(cases ho;done)|skip
 ·unfold qjm at h;cases x<;>cases y<;>first|(cases h;done)|(simp [hg,binOp,Op.equal,Op.maxDepth,he,eqOp])
 ·unfold qjm at h;cases x<;>cases y<;>first|(cases h;done)|(simp [hg,binOp,Op.equal,Op.maxDepth,he,eqOp])
theorem qu5 {P:Program} {op:BinOp} {t:TypeId} {xo yo:Operand} {x y:Value} {w:World} {K:Value→World→Prop}
  (h:binV P op t xo yo x y w (fun v=>K v w) K) :
  ∃ v w',(do eqGuard op t xo yo x y;binOp op t x y:Sem Value).run P w=.ok v w'∧K v w':=by
 unfold binV at h
 split at h
 ·rename_i k a k' b
  have hkk:op≠.shl→op≠.shr→eqk k k'=true:=by
   intro h1 h2;cases e:eqk k k'
   ·rw [e] at h;cases op<;>first|exact absurd rfl h1|exact absurd rfl h2|exact h.elim
   ·rfl
  cases op<;>simp only at h
  case shl=>
   obtain ⟨r,⟨h0,h1,rfl⟩,hk⟩:=h;refine ⟨_,w,?_,hk⟩;have e:¬ b<0:=by omega
   have e2:min b.toNat k.bits=b.toNat:=by omega
   have es:Op.shift .shl k a k' b=pure (.int k (k.wrap (a*2 ^ b.toNat))):=by simp only [Op.shift,if_neg e,e2]
   simp [eqGuard,binOp,es,go_sem]
  case shr=>
   obtain ⟨r,⟨h0,h1,rfl⟩,hk⟩:=h;refine ⟨_,w,?_,hk⟩;have e:¬ b<0:=by omega
   have e2:min b.toNat k.bits=b.toNat:=by omega
   have e3:a.fdiv (2 ^ b.toNat)=a/2 ^ b.toNat:=Int.fdiv_eq_ediv_of_nonneg _ (by exact Int.le_of_lt (Int.pow_pos Od));have es:Op.shift .shr k a k' b=pure (.int k (a/2 ^ b.toNat)):=by simp only [Op.shift,if_neg e,e2,e3]
   simp [eqGuard,binOp,es,go_sem]
  all_goals (obtain rfl:=q7t (hkk Js Js);rw [hkk Js Js] at h;simp only [cond_true] at h)
  case add=>obtain ⟨hr,hk⟩:=h;exact ⟨_,w,by simp [eqGuard,binOp,Op.intArith,go_sem,hr.wrap],hk⟩
  case sub=>obtain ⟨hr,hk⟩:=h;exact ⟨_,w,by simp [eqGuard,binOp,Op.intArith,go_sem,hr.wrap],hk⟩
  case mul=>obtain ⟨hr,hk⟩:=h;exact ⟨_,w,by simp [eqGuard,binOp,Op.intArith,go_sem,hr.wrap],hk⟩
  case quo=>
   obtain ⟨⟨h0,h1,hr⟩,hk⟩:=h;refine ⟨_,w,?_,hk⟩;have e:b≠0:=by omega
   have e2:a.tdiv b=a/b:=Int.tdiv_eq_ediv_of_nonneg h0;simp [eqGuard,binOp,Op.intDiv,go_sem,e,e2,hr.wrap]
  case rem=>
   obtain ⟨⟨h0,h1⟩,hk⟩:=h;refine ⟨_,w,?_,hk⟩;have e:b≠0:=by omega
   have e2:a.tmod b=a%b:=Int.tmod_eq_emod_of_nonneg h0;simp [eqGuard,binOp,Op.intDiv,go_sem,e,e2]
  case and=>obtain ⟨r,rfl,hk⟩:=h;exact ⟨_,w,qb7 _ _ _ Js,hk⟩
  case or=>obtain ⟨r,rfl,hk⟩:=h;exact ⟨_,w,qb7 _ _ _ Js,hk⟩
  case xor=>obtain ⟨r,rfl,hk⟩:=h;exact ⟨_,w,qb7 _ _ _ Js,hk⟩
  case andNot=>obtain ⟨r,rfl,hk⟩:=h;exact ⟨_,w,qb7 _ _ _ Js,hk⟩
  case eql=>
   refine ⟨_,w,?_,h⟩;have e:(a==b)=decide (a=b):=rfl;simp [eqGuard,binOp,Op.intCmp,go_sem,e]
  case neq=>
   refine ⟨_,w,?_,h⟩;have e:(a != b)=decide (a≠b):=by rw [Bool.eq_iff_iff];simp
   simp [eqGuard,binOp,Op.intCmp,go_sem,e]
  case lss=>exact ⟨_,w,by simp [eqGuard,binOp,Op.intCmp,go_sem],h⟩
  case leq=>exact ⟨_,w,by simp [eqGuard,binOp,Op.intCmp,go_sem],h⟩
  case gtr=>exact ⟨_,w,by simp [eqGuard,binOp,Op.intCmp,go_sem],h⟩
  case geq=>exact ⟨_,w,by simp [eqGuard,binOp,Op.intCmp,go_sem],h⟩
 ·rename_i a b
  cases op<;>simp only at h
  case add=>
   obtain ⟨h1,hk⟩:=h;refine ⟨_,w,?_,hk⟩;simp [eqGuard,binOp,Op.stringOp,go_sem];omega
  case eql=>exact ⟨_,w,by simp [eqGuard,binOp,Op.stringOp,go_sem,qn0],h⟩
  case neq=>exact ⟨_,w,by simp [eqGuard,binOp,Op.stringOp,go_sem,qn0],h⟩
  case lss=>exact ⟨_,w,by simp [eqGuard,binOp,Op.stringOp,go_sem,slt],h⟩
  case leq=>exact ⟨_,w,by simp [eqGuard,binOp,Op.stringOp,go_sem,slt,qn0],h⟩
  case gtr=>exact ⟨_,w,by simp [eqGuard,binOp,Op.stringOp,go_sem,slt,qn0],h⟩
  case geq=>exact ⟨_,w,by simp [eqGuard,binOp,Op.stringOp,go_sem,slt],h⟩
 ·rename_i a b
  split at h
  ·rename_i hu
   exact ⟨_,w,by simp [eqGuard,binOp,qfn hu,go_sem],h⟩
  ·rename_i hu
   exact ⟨_,w,by simp [eqGuard,binOp,qfn hu,go_sem],h⟩
  ·exact h.elim
 ·cases ho:isEq op<;>rw [ho] at h<;>dsimp only [cond_true,cond_false] at h
  ·obtain ⟨v,w',h1,h2⟩:=h;exact ⟨v,w',h1,h2⟩
  ·split at h
   ·rename_i b hb
    exact ⟨_,w,q6t ho hb (fun k a e=>by subst e;simp [qjm] at hb) (fun a e=>by subst e;simp [qjm] at hb) (fun a e=>by subst e;simp [qjm] at hb),h⟩
   ·obtain ⟨v,w',h1,h2⟩:=h;exact ⟨v,w',h1,h2⟩
def aggD:TypeDesc→Bool
 | .struct _ | .array _ _=>true
 | _=>false
def tsz (P:Program) (t:TypeId):Nat:=match P.info? t with|some i=>i.size|none=>0
def hasT (P:Program) (t:TypeId):Bool:=(P.info? t).isSome
def getL {α:Type}:List α→Nat→Option α
 | [],_=>none
 | v::_,0=>some v
 | _::l,i+1=>getL l i
theorem qg {α:Type} (l:List α) (i:Nat):getL l i=l[i]?:=by
 induction l generalizing i with
 | nil=>rfl
 | cons v l ih=>cases i<;>simp [getL,ih]
structure IdxV (i:Int) (n:Nat) (K:Nat→Prop):Prop where
 h:∃ j:Nat,i=(j:Int)∧j<n∧K j
def OpOk2 (P:Program) (s:Sem Next) (w:World) (K:Value→World→Prop):Prop:=
 (∃ v w',s.run P w=.ok (.value v) w'∧K v w')∨(∃ w',s.run P w=.ok .skip w'∧K undef w')
def OpOk (P:Program) (s:Sem Next) (w:World) (K:Value→World→Prop):Prop:=
 OpOk2 P s w K∨(∃ f args,s.run P w=.ok (.enter f args) w∧Calls P f args w fun e w'=>∃ v,e=.returned v∧K v w')
theorem OpOk2.val {P:Program} {s:Sem Value} {w:World} {K:Value→World→Prop} (h:∃ v w',s.run P w=.ok v w'∧K v w') :
  OpOk2 P (do pure (.value (← s))) w K:=by
 obtain ⟨v,w',h1,h2⟩:=h;exact .inl ⟨v,w',by simp [h1],h2⟩
theorem OpOk2.unit {P:Program} {s:Sem Unit} {w:World} {K:Value→World→Prop} (h:∃ w',s.run P w=.ok () w'∧K undef w') :
  OpOk2 P (do s;pure .skip) w K:=by
 obtain ⟨w',h1,h2⟩:=h;exact .inr ⟨w',by simp [h1],h2⟩
theorem OpOk.wp {P:Program} {o:Oper} {ρ:Nat→Value} {w:World} {K:Value→World→Prop} {a:Act} {next:Act→World→Prop} {Q:Exit→Act→World→Prop}
  (he:a.eval=ev ρ) (h:OpOk P (execOp (ev ρ) o) w K) (hn:∀ v w',K v w'→next (a.put o.dst v) w'):o.wp P a w next Q:=by
 unfold Oper.wp;rw [he]
 rcases h with (⟨v,w',h1,h2⟩|⟨w',h1,h2⟩)|⟨f,args,h1,h2⟩
 ·rw [h1];exact hn _ _ h2
 ·rw [h1];exact hn _ _ h2
 ·rw [h1,Oper.upon_enter];refine h2.mono fun e w' ⟨v,he,hk⟩=>?_;subst he;exact hn _ _ hk
def q6h (c a b:Value) (K:Value→Prop):Prop:=
 match c with
 | .bool t=>Tst t (qhi a K) (qhi b K)
 | _=>False
def idxV (P:Program) (t:TypeId) (x i:Value) (K:Value→Prop):Prop:=
 match P.underlying t,x,i with
 | some .string,.string s,.int _ i=>IdxV i s.size fun j=>K (.int .u8 (gb s j).toNat)
 | some (.array n e),.agg cs,.int _ i=>
  match P.underlying e with
  | some d=>bif hasT P e then bif aggD d then IdxV i n fun j=>Wit (fun l:List Value=>(cs.toList.drop (j*tsz P e)).take (tsz P e)=l) fun l=>K (.agg l.toArray)
   else IdxV i n fun j=>Wit (fun v:Value=>cs.toList[j*tsz P e]?=some v) K else False
  | none=>False
 | _,_,_=>False
def qmn (P:Program) (t:TypeId) (x i:Value) (K:Value→Prop):Prop:=
 match P.underlying t,x,i with
 | some (.slice e),.slice A len _,.int _ i=>bif hasT P e then ElemV A i len (tsz P e) K else False
 | some (.array n e),.pointer (some ⟨b,off,none⟩),.int _ i=>bif hasT P e then IdxV i n fun j=>K (.pointer (some ⟨b,off+j*tsz P e,none⟩)) else False
 | _,_,_=>False
def qvk (P:Program) (t:TypeId) (x:Value) (w:World) (K:Value→Prop):Prop:=
 match P.underlying t,x with
 | some d,.pointer (some ⟨b,off,none⟩)=>
  bif aggD d then bif hasT P t then LoadA w b off (tsz P t) fun cs=>qbx cs fun l=>K (.agg l.toArray) else False
  else LoadV w b off fun v=>qhi v K
 | _,_=>False
def quh (P:Program) (t:TypeId) (x v:Value) (w:World) (s:Sem Next) (K:Value→World→Prop):Prop:=
 match x with
 | .pointer (some ⟨b,off,none⟩)=>
  match v with
  | .tuple _=>Fall P s w K
  | .agg cs=>bif hasT P t&&Nat.beq (tsz P t) cs.toList.length then StoreA P w b off cs.toList fun w'=>K undef w' else False
  | v=>bif hasT P t&&Nat.beq (tsz P t) 1 then StoreV w b off v fun w'=>K undef w' else False
 | _=>False
def qmj (x:Value) (ix:Nat) (K:Value→Prop):Prop:=
 match x with
 | .tuple vs=>match getL vs.toList ix with
  | some v=>qhi v K
  | none=>False
 | _=>False
def qhg (P:Program) (t:TypeId) (x:Value) (f:Nat) (K:Value→Prop):Prop:=
 match P.underlying t,x with
 | some (.struct fs),.pointer (some ⟨b,off,none⟩)=>
  match getL fs.toList f with
  | some f=>bif hasT P f.type && !Nat.beq (tsz P f.type) 0 then K (.pointer (some ⟨b,off+f.offset,none⟩)) else False
  | none=>False
 | _,_=>False
def qx4 (P:Program) (t:TypeId) (x:Value) (f:Nat) (K:Value→Prop):Prop:=
 match P.underlying t,x with
 | some (.struct fs),.agg cs=>
  match getL fs.toList f with
  | some f=>match P.underlying f.type with
   | some d=>bif aggD d then bif hasT P f.type then qbx ((cs.toList.drop f.offset).take (tsz P f.type)) fun l=>K (.agg l.toArray) else False
    else match getL cs.toList f.offset with
     | some v=>qhi v K
     | none=>False
   | none=>False
  | none=>False
 | _,_=>False
def boxV (t:TypeId) (v:Value) (w:World) (K:Value→World→Prop):Prop:=
 qbx v.cells.toList fun l=>NewV w (.cells l.toArray t) fun b w'=>K (.pointer (some ⟨b,0,none⟩)) w'
def qsk (P:Program) (t:TypeId) (w:World) (K:Value→World→Prop):Prop:=
 match P.info? t with
 | some i=>match i.zero with
  | some z=>boxV t z w K
  | none=>False
 | none=>False
def CellsAt (w:World) (b off:Nat) (vs:List Value):Prop:=∀ k v,vs[k]?=some v→w.cell? ⟨b,off+k,none⟩=some v
def byteCells (l:List UInt8):List Value:=l.map fun c=>.int .u8 c.toNat
structure BytesS (w:World) (A:Option Addr) (n:Nat) (K:Value→Prop):Prop where
 h:∃ l:List UInt8,l.length=n∧(l≠[]→∃ b off,A=some ⟨b,off,none⟩∧CellsAt w b off (byteCells l))∧K (.string ⟨l.toArray⟩)
structure NewBytesV (s:ByteArray) (e:TypeId) (w:World) (K:Value→World→Prop):Prop where
 h:∀ cap cs b w',s.size≤cap→cs=(byteCells s.data.toList++List.replicate (cap-s.size) (Value.int .u8 0)).toArray→b=w.heap.size→
  w'=w.drew.alloc (.cells cs e (cs.size,cs.size+1))→K (.slice (some ⟨b,0,none⟩) s.size cap) w'
def q5c (P:Program) (src dst:TypeId) (x:Value) (w:World) (s:Sem Next) (K:Value→World→Prop):Prop:=
 match P.underlying src,P.underlying dst,x with
 | some _,some (.int k),.int _ n=>Wit (fun r=>k.wrap n=r) fun r=>K (.int k r) w
 | some .string,some .string,.string s=>K (.string s) w
 | some (.int _),some .string,.int _ n=>K (.string (Utf8.encode n)) w
 | some (.slice e),some .string,.slice A n _=>match P.underlying e with
  | some (.int .u8)=>BytesS w A n fun v=>K v w
  | _=>Fall P s w K
 | some .string,some (.slice e),.string x=>match P.underlying e with
  | some (.int .u8)=>NewBytesV x e w K
  | _=>Fall P s w K
 | _,_,_=>Fall P s w K
def unV (op:UnOp) (x:Value) (K:Value→Prop):Prop:=
 match op,x with
 | .not,.bool b=>K (.bool (!b))
 | .neg,.int k n=>Obl (InR k (-n)) (K (.int k (-n)))
 | .xor,.int k n=>Wit (fun r=>qdd .xor k (if k.signed then -1 else k.max) n=r) (fun r=>K (.int k r))
 | _,_=>False
def bnd (o:Option Value) (d n:Nat):Prop:=
 match o with
 | none=>n=d
 | some (.int _ i)=>i=(n:Int)
 | _=>False
structure SliceS (s:ByteArray) (lo hi:Option Value) (K:Value→Prop):Prop where
 h:∃ l h:Nat,bnd lo 0 l∧bnd hi s.size h∧l≤h∧h≤s.size∧K (.string (s.extract l h))
structure SliceV (size:Nat) (A:Option Addr) (len cap:Nat) (lo hi mx:Option Value) (K:Value→Prop):Prop where
 h:∃ l h m:Nat,bnd lo 0 l∧bnd hi len h∧bnd mx cap m∧l≤h∧h≤m∧m≤cap∧(mx.isSome=true→hi.isSome=true)∧
  ∀ A',A'=(if m=l then A else A.map (·.add (l*size)))→K (.slice A' (h-l) (m-l))
def evo (ρ:Nat→Value):Option Operand→Option Value
 | none=>none
 | some x=>some (ev ρ x)
def q0h (P:Program) (t:TypeId) (x:Value) (lo hi mx:Option Value) (w:World) (s:Sem Next) (K:Value→World→Prop):Prop:=
 match P.underlying t,x with
 | some .string,.string s=>match mx with
  | none=>SliceS s lo hi fun v=>K v w
  | some _=>False
 | some (.slice e),.slice A len cap=>bif hasT P e then SliceV (tsz P e) A len cap lo hi mx fun v=>K v w else False
 | _,_=>Fall P s w K
def lenV (P:Program) (t:Option TypeId) (x:List Value) (w:World) (s:Sem Next) (K:Value→World→Prop):Prop:=
 match t,x with
 | some t,v::_=>match P.underlying t,v with
  | some .string,.string s=>K (.int .i64 s.size) w
  | some (.slice _),.slice _ n _=>K (.int .i64 n) w
  | _,_=>Fall P s w K
 | _,_=>Fall P s w K
structure CallV (P:Program) (f:FuncId) (args:List Value) (w:World) (K:Value→World→Prop):Prop where
 h:Gv P f args w K∨∃ v w',(callFunc f args.toArray).run P w=.ok (.value v) w'∧K v w'
def appV (P:Program) (argTypes:Array TypeId) (ty:TypeId) (vs:List Value) (w:World) (s:Sem Next) (K:Value→World→Prop):Prop:=
 match vs with
 | [a,b]=>qhi a fun a=>qhi b fun b=>AppV P argTypes ty a b w fun v w'=>qhi v fun v=>K v w'
 | _=>Fall P s w K
structure InvV (P:Program) (t:TypeId) (v:Value) (name:String) (vs:List Value) (w:World) (K:Value→World→Prop):Prop where
 h:∃ f r,(method (P.types.size+Made.depth) t v name).run P w=.ok (f,r) w∧CallV P f (r::vs) w K
def qxg (P:Program) (c:Call) (ty:TypeId) (ρ:Nat→Value) (w:World) (s:Sem Next) (K:Value→World→Prop):Prop:=
 match c.callee with
 | .value f=>match ev ρ f with
  | .func (.func g) first captured=>qbx (evs ρ c.args.toList) fun vs=>
   match first.toList,captured.toList with
   | [],[]=>CallV P g vs w K
   | x,y=>CallV P g (x++(vs++y)) w K
  | _=>Fall P s w K
 | .builtin .len=>lenV P (getL c.argTypes.toList 0) (evs ρ c.args.toList) w s K
 | .builtin .append=>appV P c.argTypes ty (evs ρ c.args.toList) w s K
 | .invoke recv name=>match ev ρ recv with
  | .iface t v=>qbx (evs ρ c.args.toList) fun vs=>InvV P t v name vs w K
  | _=>Fall P s w K
 | _=>Fall P s w K
def csz:Value→Nat
 | .agg cs=>cs.size
 | _=>1
def qpp:List Value→Nat→List Value→List Value
 | l,_,[]=>l
 | l,off,v::vs=>qpp (setL l off v) (off+1) vs
def qoh (place:Nat→Option (Nat × Nat)) (cells:List Value):List (Nat × Value)→Option (List Value)
 | []=>some cells
 | (i,v)::rest=>
  match place i with
  | none=>none
  | some (off,size)=>bif Nat.beq (csz v) size&&Nat.ble (off+csz v) cells.length then qoh place (qpp cells off v.cells.toList) rest else none
def evp (ρ:Nat→Value):List (Nat × Operand)→List (Nat × Value)
 | []=>[]
 | (i,x)::l=>(i,ev ρ x)::evp ρ l
def qdh (P:Program):List Field→List (Nat × Nat)
 | []=>[]
 | f::l=>(f.offset,tsz P f.type)::qdh P l
def allT (P:Program):List Field→Bool
 | []=>true
 | f::l=>hasT P f.type&&allT P l
def qkx (P:Program) (t:TypeId) (parts:List (Nat × Value)) (K:Value→Prop):Prop:=
 match P.info? t with
 | some i=>match i.zero with
  | some z=>match P.underlying t with
   | some (.struct fs)=>bif allT P fs.toList then
     match qoh (fun k=>getL (qdh P fs.toList) k) z.cells.toList parts with
     | some l=>qbx l fun l=>K (.agg l.toArray)
     | none=>False
    else False
   | some (.array _ e)=>bif hasT P e then
     match qoh (fun k=>some (k*tsz P e,tsz P e)) z.cells.toList parts with
     | some l=>qbx l fun l=>K (.agg l.toArray)
     | none=>False
    else False
   | _=>False
  | none=>False
 | none=>False
def qbb (z:List Value):Nat→List Value
 | 0=>[]
 | n+1=>z++qbb z n
def qfs (P:Program) (t:TypeId) (len:Nat) (parts:List (Nat × Value)) (w:World) (K:Value→World→Prop):Prop:=
 match P.underlying t with
 | some (.slice e)=>match P.info? e with
  | some i=>match i.zero with
   | some z=>bif Nat.beq z.cells.toList.length i.size&&Nat.ble (len*i.size) 16777216 && !Nat.beq i.size 0 then
     match qoh (fun k=>some (k*i.size,i.size)) (qbb z.cells.toList len) parts with
     | some l=>qbx l fun l=>NewV w (.cells l.toArray e) fun b w'=>K (.slice (some ⟨b,0,none⟩) len len) w'
     | none=>False
    else False
   | none=>False
  | none=>False
 | _=>False
structure MakeV (z:List Value) (bytes e:Nat) (len cap:Int) (w:World) (K:Value→World→Prop):Prop where
 h:∃ l c:Nat,len=(l:Int)∧cap=(c:Int)∧l≤c∧c*bytes≤140737488355328∧c<9223372036854775808∧
  ∀ b w',b=w.heap.size→w'=w.alloc (.cells (qbb z c).toArray e)→K (.slice (some ⟨b,0,none⟩) l c) w'
def qho (P:Program) (t:TypeId) (len cap:Value) (w:World) (K:Value→World→Prop):Prop:=
 match P.underlying t,len,cap with
 | some (.slice e),.int _ len,.int _ cap=>match P.info? e with
  | some i=>match i.zero with
   | some z=>bif Nat.beq z.cells.toList.length i.size && !Nat.beq i.size 0 then MakeV z.cells.toList i.bytes e len cap w K else False
   | none=>False
  | none=>False
 | _,_,_=>False
def qhn (P:Program) (t:TypeId) (x:Value) (K:Value→Prop):Prop:=
 match P.underlying t with
 | some (.interface _)=>False
 | some _=>K (.iface t x)
 | none=>False
def nilV (P:Program) (x:Value) (w:World) (s:Sem Next) (K:Value→World→Prop):Prop:=
 match x with
 | .pointer (some a)=>K (.pointer (some a)) w
 | _=>Fall P s w K
def setO (w:World) (r:Nat) (o:Obj):World:={ w with heap:=w.heap.setIfInBounds r o }
def qz2 (P:Program) (t:TypeId) (x:Value) (w:World) (s:Sem Next) (K:Value→World→Prop):Prop:=
 match P.underlying t,x with
 | some .string,.string s=>NewV w (.stringIter s 0) fun b w'=>K (.pointer (some ⟨b,0,none⟩)) w'
 | _,_=>Fall P s w K
structure NextS (w:World) (r:Nat) (K:Value→World→Prop):Prop where
 h:∃ s pos,w.heap[r]?=some (.stringIter s pos)∧
  (pos<s.size→∀ w',w'=setO w r (.stringIter s (pos+(Utf8.decode s pos).2))→K (.tuple #[.bool true,.int .i64 pos,.int .i32 (Utf8.decode s pos).1]) w')∧
  (¬ pos<s.size→K (.tuple #[.bool false]) w)
def q55 (P:Program) (x:Value) (isString:Bool) (w:World) (s:Sem Next) (K:Value→World→Prop):Prop:=
 match isString,x with
 | true,.pointer (some ⟨r,0,none⟩)=>NextS w r K
 | _,_=>Fall P s w K
def opV (P:Program) (o:Oper) (ρ:Nat→Value) (w:World) (K:Value→World→Prop):Prop:=
 match o.op with
 | .move x | .assign x=>qhi (ev ρ x) fun v=>K v w
 | .pick c a b=>q6h (ev ρ c) (ev ρ a) (ev ρ b) fun v=>K v w
 | .binOp op t x y _=>binV P op t x y (ev ρ x) (ev ρ y) w (fun v=>K v w) K
 | .unOp op _ x=>unV op (ev ρ x) fun v=>K v w
 | .convert src dst x=>q5c P src dst (ev ρ x) w (execOp (ev ρ) o) K
 | .index t x i=>idxV P t (ev ρ x) (ev ρ i) fun v=>K v w
 | .indexAddr t x i=>qmn P t (ev ρ x) (ev ρ i) fun v=>K v w
 | .load t x=>qvk P t (ev ρ x) w fun v=>K v w
 | .store t x v=>quh P t (ev ρ x) (ev ρ v) w (execOp (ev ρ) o) K
 | .extract x ix=>qmj (ev ρ x) ix fun v=>K v w
 | .fieldAddr t x f=>qhg P t (ev ρ x) f fun v=>K v w
 | .field t x f=>qx4 P t (ev ρ x) f fun v=>K v w
 | .box t x=>boxV t (ev ρ x) w K
 | .alloc t=>qsk P t w K
 | .slice t x lo hi mx=>q0h P t (ev ρ x) (evo ρ lo) (evo ρ hi) (evo ρ mx) w (execOp (ev ρ) o) K
 | .nilCheck x=>nilV P (ev ρ x) w (execOp (ev ρ) o) K
 | .call c=>qxg P c o.type ρ w (execOp (ev ρ) o) K
 | .build t parts=>qkx P t (evp ρ parts.toList) fun v=>K v w
 | .buildSlice t len parts=>qfs P t len (evp ρ parts.toList) w K
 | .makeSlice t l c=>qho P t (ev ρ l) (ev ρ c) w K
 | .makeFunc fn first captured=>qbx (evs ρ first.toList) fun a=>qbx (evs ρ captured.toList) fun b=>K (.func fn a.toArray b.toArray) w
 | .makeInterface t x=>qhn P t (ev ρ x) fun v=>K v w
 | .range t x=>qz2 P t (ev ρ x) w (execOp (ev ρ) o) K
 | .next it b=>q55 P (ev ρ it) b w (execOp (ev ρ) o) K
 | _=>Fall P (execOp (ev ρ) o) w K
section
variable {P:Program} {w:World}
theorem Fall.ok {s:Sem Next} {K:Value→World→Prop} (h:Fall P s w K):OpOk2 P s w K:=by
 rcases h.h with h|h
 ·exact .inl h
 ·exact .inr h
theorem q8k {v:Value} {K:Value→World→Prop} (h:K v w):OpOk2 P (pure (.value v)) w K:=.inl ⟨v,w,rfl,h⟩
theorem valV {s:Sem Value} {v:Value} {K:Value→World→Prop} (hs:s.run P w=.ok v w) (h:K v w):OpOk2 P (do pure (.value (← s))) w K:=
 OpOk2.val ⟨v,w,hs,h⟩
theorem q2a {t:TypeId} (h:hasT P t=true):∃ i,P.info? t=some i∧tsz P t=i.size:=by
 unfold hasT at h;unfold tsz;cases e:P.info? t with
 | none=>rw [e] at h;cases h
 | some i=>exact ⟨i,rfl,rfl⟩
theorem qw {t:TypeId} (h:hasT P t=true):(sizeOf t).run P w=.ok (tsz P t) w:=by
 obtain ⟨i,h1,h2⟩:=q2a h;simp [sizeOf,typeInfo,h1,h2]
theorem qcd {t:TypeId} {d:TypeDesc} (h:P.underlying t=some d):(isAgg t).run P w=.ok (aggD d) w:=by
 cases d<;>simp [isAgg,run_underlying h,aggD]
theorem qh9 {t:TypeId} {d:TypeDesc} (h:P.underlying t=some d) (hd:aggD d=true) (hi:hasT P t=true) (cs:Array Value) (off:Nat) :
  (part t cs off).run P w=.ok (.agg ((cs.toList.drop off).take (tsz P t)).toArray) w:=by
 simp [part,qcd h,hd,qw hi];rw [← Array.toList_inj];simp [List.take_drop]
theorem qgn {t:TypeId} {d:TypeDesc} (h:P.underlying t=some d) (hd:aggD d=false) (cs:Array Value) (off:Nat) {v:Value} (hv:cs.toList[off]?=some v) :
  (part t cs off).run P w=.ok v w:=by
 have hv':cs[off]?=some v:=by simpa using hv
 simp [part,qcd h,hd,hv']
theorem q21 {ρ:Nat→Value} {c a b:Operand} {K:Value→World→Prop} (h:q6h (ev ρ c) (ev ρ a) (ev ρ b) (fun v=>K v w)) :
  OpOk2 P (do pure (.value (if ← asBool (ev ρ c) then ev ρ a else ev ρ b))) w K:=by
 unfold q6h at h
 split at h
 ·rename_i t e
  rw [e];cases t
  ·have:=h.f rfl;rw [qa1] at this;exact .inl ⟨_,w,by simp [asBool],this⟩
  ·have:=h.t rfl;rw [qa1] at this;exact .inl ⟨_,w,by simp [asBool],this⟩
 ·exact h.elim
theorem q7v (s:ByteArray) (j:Nat) (h:j<s.size):s[j]?=some (gb s j):=by
 unfold gb;have h':j<s.data.toList.length:=by simpa using h
 rw [List.getD_eq_getElem?_getD,List.getElem?_eq_getElem h',Option.getD_some];exact getElem?_pos s j h
theorem q5p {t:TypeId} {x i:Value} {K:Value→World→Prop} (h:idxV P t x i (fun v=>K v w)) :
  OpOk2 P (do pure (.value (← Instr.index t x i))) w K:=by
 unfold idxV at h
 split at h
 ·rename_i hu
  obtain ⟨j,rfl,hj,hk⟩:=h;refine valV ?_ hk;simp [Instr.index,asIntOf,run_underlying hu,q7v _ _ hj]
 ·rename_i hu
  split at h
  ·rename_i d hd
   cases hT:hasT P _<;>rw [hT] at h
   ·exact h.elim
   ·cases ha:aggD d<;>rw [ha] at h
    ·obtain ⟨j,rfl,hj,v,hv,hk⟩:=h;refine valV ?_ hk;simp [Instr.index,asIntOf,run_underlying hu,hj,qw hT,qgn hd ha _ _ hv]
    ·obtain ⟨j,rfl,hj,l,hl,hk⟩:=h;subst hl;refine valV ?_ hk;simp [Instr.index,asIntOf,run_underlying hu,hj,qw hT,qh9 hd ha hT]
  ·exact h.elim
 ·exact h.elim
theorem qad (b off n:Nat):(⟨b,off,none⟩:Addr).add n=⟨b,off+n,none⟩:=by
 unfold Addr.add;split
 ·subst_vars;rfl
 ·rfl
theorem qqq {t:TypeId} {x i:Value} {K:Value→World→Prop} (h:qmn P t x i (fun v=>K v w)) :
  OpOk2 P (do pure (.value (← Instr.indexAt t x i))) w K:=by
 unfold qmn at h
 split at h
 ·rename_i hu
  cases hT:hasT P _<;>rw [hT] at h
  ·exact h.elim
  ·obtain ⟨b,off,j,rfl,rfl,hj,hk⟩:=h;refine valV ?_ hk;simp [Instr.indexAt,asIntOf,run_underlying hu,hj,qw hT,qad]
 ·rename_i hu
  cases hT:hasT P _<;>rw [hT] at h
  ·exact h.elim
  ·obtain ⟨j,rfl,hj,hk⟩:=h;refine valV ?_ hk;simp [Instr.indexAt,asIntOf,run_underlying hu,hj,qw hT,qad,Instr.sureAddr]
 ·exact h.elim
theorem q2m {t:TypeId} {x:Value} {K:Value→World→Prop} (h:qvk P t x w (fun v=>K v w)) :
  OpOk2 P (do pure (.value (← Instr.loadAt t x))) w K:=by
 unfold qvk at h
 split at h
 ·rename_i d b off hu
  cases ha:aggD d<;>rw [ha] at h
  ·obtain ⟨v,hv,hk⟩:=h;rw [qa1] at hk;refine valV ?_ hk;simp [Instr.loadAt,Instr.sureAddr,loadVar,qcd hu,ha,go_sem,hv]
  ·cases hT:hasT P t<;>rw [hT] at h
   ·exact h.elim
   ·obtain ⟨cs,hl,hc,hk⟩:=h;rw [qag] at hk;refine valV ?_ hk;have:=run_loadCells_list (P:=P) w ⟨b,off,none⟩ cs (fun j v hv=>by
     have hj:j<cs.length:=by
      rcases Nat.lt_or_ge j cs.length with h|h
      ·exact h
      ·rw [List.getElem?_eq_none h] at hv;cases hv
     rw [qad,hc j Oo];exact hv)
    simp [Instr.loadAt,Instr.sureAddr,loadVar,qcd hu,ha,qw hT,← hl,this]
 ·exact h.elim
theorem q0q {t:TypeId} {x v:Value} {s:Sem Next} {K:Value→World→Prop} (hs:s=(do Instr.storeAt t x v;pure .skip)) (h:quh P t x v w s K) :
  OpOk2 P s w K:=by
 unfold quh at h
 split at h
 ·rename_i b off
  split at h
  ·exact h.ok
  ·rename_i cs
   cases hT:hasT P t<;>rw [hT] at h
   ·exact h.elim
   ·cases hn:Nat.beq (tsz P t) cs.toList.length<;>rw [hn] at h
    ·exact h.elim
    ·obtain ⟨w',h1,hk⟩:=h;subst hs;have hn':tsz P t=cs.size:=by simpa using Nat.eq_of_beq_eq_true hn
     refine OpOk2.unit ⟨_,?_,hk⟩;have hc:(Value.agg cs).cells=cs:=rfl;simp only [Instr.storeAt,Instr.sureAddr,storeVar,hc];simp [qw hT,hn',h1]
  ·rename_i hv1 hv2
   cases hT:hasT P t<;>rw [hT] at h
   ·exact h.elim
   ·cases hn:Nat.beq (tsz P t) 1<;>rw [hn] at h
    ·exact h.elim
    ·obtain ⟨⟨o,ho⟩,hf,h1,hk⟩:=h;subst hs;have hn':tsz P t=1:=Nat.eq_of_beq_eq_true hn;refine OpOk2.unit ⟨_,?_,hk⟩;cases v<;>first
      | (exact (hv1 _ rfl).elim)
      | (exact (hv2 _ rfl).elim)
      | simp [Instr.storeAt,Instr.sureAddr,storeVar,Value.cells,qw hT,hn',storeCells,store,Sem.run,Addr.add,ho,hf]
 ·exact h.elim
theorem qqm {x:Value} {ix:Nat} {K:Value→World→Prop} (h:qmj x ix (fun v=>K v w)) :
  OpOk2 P (do pure (.value (← Instr.extract x ix))) w K:=by
 unfold qmj at h
 split at h
 ·rename_i vs
  split at h
  ·rename_i v hv
   rw [qa1] at h;rw [qg] at hv;have hv':vs[ix]?=some v:=by simpa using hv
   refine valV ?_ h;simp [Instr.extract,hv']
  ·exact h.elim
 ·exact h.elim
theorem qmk {t:TypeId} {x:Value} {f:Nat} {K:Value→World→Prop} (h:qhg P t x f (fun v=>K v w)) :
  OpOk2 P (do pure (.value (← Instr.fieldAt t x f))) w K:=by
 unfold qhg at h
 split at h
 ·rename_i fs b off hu
  split at h
  ·rename_i fd hfd
   rw [qg] at hfd;have hfd':fs[f]?=some fd:=by simpa using hfd
   cases hT:hasT P fd.type<;>rw [hT] at h
   ·exact h.elim
   ·cases hz:Nat.beq (tsz P fd.type) 0<;>rw [hz] at h
    ·refine valV ?_ h;have hz':¬ tsz P fd.type=0:=fun e=>by rw [e] at hz;cases hz
     simp [Instr.fieldAt,run_underlying hu,hfd',Instr.sureAddr,fieldPlace,qw hT,hz',qad]
    ·exact h.elim
  ·exact h.elim
 ·exact h.elim
theorem qx5 {t:TypeId} {x:Value} {f:Nat} {K:Value→World→Prop} (h:qx4 P t x f (fun v=>K v w)) :
  OpOk2 P (do pure (.value (← Instr.field t x f))) w K:=by
 unfold qx4 at h
 split at h
 ·rename_i fs cs hu
  split at h
  ·rename_i fd hfd
   rw [qg] at hfd;have hfd':fs[f]?=some fd:=by simpa using hfd
   split at h
   ·rename_i d hd
    cases ha:aggD d<;>rw [ha] at h
    ·simp only [cond_false] at h
     split at h
     ·rename_i v hv
      rw [qa1] at h;rw [qg] at hv;refine valV ?_ h;simp [Instr.field,run_underlying hu,hfd',asAgg,qgn hd ha _ _ hv]
     ·exact h.elim
    ·cases hT:hasT P fd.type<;>rw [hT] at h
     ·exact h.elim
     ·simp only [cond_true,qag] at h;refine valV ?_ h;simp [Instr.field,run_underlying hu,hfd',asAgg,qh9 hd ha hT]
   ·exact h.elim
  ·exact h.elim
 ·exact h.elim
theorem qss {t:TypeId} {v:Value} {K:Value→World→Prop} (h:boxV t v w K) :
  ∃ a,(newVar t v).run P w=.ok a (w.alloc (.cells v.cells t))∧K (.pointer (some a)) (w.alloc (.cells v.cells t)):=by
 unfold boxV at h;rw [qag] at h;refine ⟨⟨w.heap.size,0,none⟩,by simp [newVar,newRow,go_sem],?_⟩;have:=h.h w.heap.size (w.alloc (.cells v.cells t)) rfl Js;exact this
theorem q44 {t:TypeId} {v:Value} {K:Value→World→Prop} (h:boxV t v w K):OpOk2 P (do pure (.value (← Instr.box t v))) w K:=by
 obtain ⟨a,h1,h2⟩:=qss (P:=P) h;exact OpOk2.val ⟨_,_,by simp [Instr.box,h1],h2⟩
theorem qw4 {t:TypeId} {K:Value→World→Prop} (h:qsk P t w K):OpOk2 P (do pure (.value (← Instr.alloc t true (.tuple #[])))) w K:=by
 unfold qsk at h
 split at h
 ·rename_i i hi
  split at h
  ·rename_i z hz
   obtain ⟨a,h1,h2⟩:=qss (P:=P) h;exact OpOk2.val ⟨_,_,by simp [Instr.alloc,zeroValue,typeInfo,hi,hz,h1],h2⟩
  ·exact h.elim
 ·exact h.elim
theorem q0f (w:World) (cs:Array Value) (e:TypeId) (n:Nat) (hn:n=w.heap.size):(w.alloc (.cells cs e)).shape? n=some (e,cs.size):=by
 subst hn;unfold World.shape?;rw [heap_alloc_new]
theorem qvg (w:World) (cs:Array Value) (e:TypeId) (n:Nat) (hn:n=w.heap.size):(w.alloc (.cells cs e)).freeze ⟨n,cs.size,none⟩ 1=w.alloc (.cells cs e (cs.size,cs.size+1)):=by
 subst hn;unfold World.freeze World.alloc;rw [if_neg Od];simp only
 congr 1
 apply Array.ext
 ·simp
 ·intro i h1 h2;rw [Array.getElem_modify];simp only [Array.getElem_push]
  split
  ·rename_i hi
   subst hi;simp
  ·rename_i hi
   simp at h2;rw [dif_pos Oo,dif_pos Oo]
theorem q1w {src dst:TypeId} {x:Value} {s:Sem Next} {K:Value→World→Prop} (hs:s=(do pure (.value (← convert src dst x)))) (h:q5c P src dst x w s K) :
  OpOk2 P s w K:=by
 unfold q5c at h
 split at h
 ·rename_i d k n h1 h2
  obtain ⟨r,rfl,hk⟩:=h;subst hs;refine valV ?_ hk;cases d<;>simp [convert,run_underlying h1,run_underlying h2,Conv.intToInt]
 ·rename_i sx h1 h2
  subst hs;refine valV ?_ h;simp [convert,run_underlying h1,run_underlying h2]
 ·rename_i h1 h2
  subst hs;refine valV ?_ h;simp [convert,run_underlying h1,run_underlying h2,Conv.intToString]
 ·rename_i e A n c h1 h2
  split at h
  ·rename_i he
   subst hs;obtain ⟨l,hl,hA,hk⟩:=h;refine valV ?_ hk;cases A with
   | none=>
    have hl0:l=[]:=by
     cases l with
     | nil=>rfl
     | cons x r=>obtain ⟨b,off,h0,_⟩:=hA Js;cases h0
    subst hl0;exact run_convert_bytes_nil w src e h1 he _ _ dst h2
   | some a=>
    rw [run_convert_bytes_string w src dst e _ _ _ h1 he h2];have hc:(loadCells a n).run P w=.ok ((l.map fun c=>(c.toNat:Int)).map (Value.int .u8)).toArray w:=by
     have:=run_loadCells_list (P:=P) w a (byteCells l) (fun j v hv=>by
      obtain ⟨b,off,h0,h3⟩:=hA (by intro e;subst e;simp [byteCells] at hv);cases h0;rw [qad];exact h3 j v hv)
     rw [show (byteCells l).length=n by simp [byteCells,hl]] at this;rw [this,byteCells,List.map_map];rfl
    rw [run_bytesToString w a n c _ hc,foldl_push_bytes]
    congr 3
    simp [ByteArray.empty,ByteArray.emptyWithCapacity];show ([]:List UInt8)++_=l;rw [List.nil_append];have:∀ l:List UInt8,l.map ((fun n:Int=>UInt8.ofNat n.toNat) ∘ fun c:UInt8=>(c.toNat:Int))=l:=by
     intro l;induction l with
     | nil=>rfl
     | cons x r ih=>simp [ih]
    exact this l
  ·exact h.ok
 ·rename_i e x h1 h2
  split at h
  ·rename_i he
   subst hs;have hcut:∀ t,x.size≤Question.cut (.appendCap x.size 0 e) t:=fun t=>by simp [Question.cut]
   have hk:=h.h (Question.cut (.appendCap x.size 0 e) (w.tape w.drawn (.appendCap x.size 0 e))) _ w.heap.size _ (hcut _) rfl rfl rfl;refine OpOk2.val ⟨_,_,?_,hk⟩;generalize hcap:Question.cut (.appendCap x.size 0 e) (w.tape w.drawn (.appendCap x.size 0 e))=cap;have hcells:(x.data.map (fun b=>Value.int .u8 b.toNat)++Array.replicate (cap-x.size) (Value.int .u8 0))=(byteCells x.data.toList++List.replicate (cap-x.size) (Value.int .u8 0)).toArray:=by
    rw [← Array.toList_inj];simp [byteCells]
   simp only [convert];simp [run_underlying h1,run_underlying h2,run_underlying he,Conv.stringToBytes,choose,Sem.run,Question.forced,hcap,hcells,newRow,newObj,markStringish,shape,freeze];rw [q0f w.drew _ _ w.heap.size rfl];simp only [Sem.run,Result.andThen];rw [qvg w.drew _ _ w.heap.size rfl];simp
  ·exact h.ok
 ·exact h.ok
theorem q8w {op:UnOp} {x:Value} {K:Value→World→Prop} (h:unV op x (fun v=>K v w)):OpOk2 P (do pure (.value (← Op.unary op x))) w K:=by
 unfold unV at h
 split at h
 ·exact valV (by simp [Op.unary]) h
 ·obtain ⟨hr,hk⟩:=h;refine valV ?_ hk;simp [Op.unary,Op.intArith,hr.wrap]
 ·obtain ⟨r,rfl,hk⟩:=h;refine valV ?_ hk;simp [Op.unary,Op.intBits,qdd]
 ·exact h.elim
theorem qb3 {o:Value} {d n y:Nat} {c:BoundsCode} (h:bnd (some o) d n) (hy:n≤y):(Instr.sliceBound o y c).run P w=.ok n w:=by
 unfold bnd at h
 split at h
 ·rename_i e;cases e
 ·rename_i k i e
  cases e;subst h;simp [Instr.sliceBound,asIntOf,hy]
 ·exact h.elim
theorem q0i {t:TypeId} {x:Value} {lo hi mx:Option Value} {s:Sem Next} {K:Value→World→Prop}
  (hs:s=(do pure (.value (← Instr.sliceAt t x lo hi mx)))) (h:q0h P t x lo hi mx w s K):OpOk2 P s w K:=by
 unfold q0h at h
 split at h
 ·rename_i sx hu
  subst hs
  split at h
  ·obtain ⟨l,hh,h1,h2,h3,h4,hk⟩:=h;refine valV ?_ hk;cases lo with
   | none=>
    cases hi with
    | none=>
     cases h1;cases h2;simp [Instr.sliceAt,Instr.slice,Instr.sliceBounds,run_underlying hu]
    | some b=>
     cases h1;simp [Instr.sliceAt,Instr.slice,Instr.sliceBounds,run_underlying hu,qb3 h2 h4]
   | some a=>
    cases hi with
    | none=>
     cases h2;simp [Instr.sliceAt,Instr.slice,Instr.sliceBounds,run_underlying hu,qb3 h1 h3]
    | some b=>simp [Instr.sliceAt,Instr.slice,Instr.sliceBounds,run_underlying hu,qb3 h1 h3,qb3 h2 h4]
  ·exact h.elim
 ·rename_i e A len cap hu
  subst hs;cases hT:hasT P e<;>rw [hT] at h
  ·exact h.elim
  ·obtain ⟨l,hh,m,h1,h2,h3,h4,h5,h6,h7,hk⟩:=h;have hk:=hk _ rfl;refine valV ?_ hk;cases mx with
   | none=>
    cases h3;cases lo with
    | none=>
     cases hi with
     | none=>
      cases h1;cases h2;simp [Instr.sliceAt,Instr.slice,Instr.sliceBounds,run_underlying hu,qw hT]
     | some b=>
      cases h1;simp [Instr.sliceAt,Instr.slice,Instr.sliceBounds,run_underlying hu,qw hT,qb3 h2 h5]
    | some a=>
     cases hi with
     | none=>
      cases h2;simp [Instr.sliceAt,Instr.slice,Instr.sliceBounds,run_underlying hu,qw hT,qb3 h1 h4]
     | some b=>simp [Instr.sliceAt,Instr.slice,Instr.sliceBounds,run_underlying hu,qw hT,qb3 h1 h4,qb3 h2 h5]
   | some c=>
    cases hi with
    | none=>exact absurd (h7 rfl) Js
    | some b=>
     cases lo with
     | none=>
      cases h1;simp [Instr.sliceAt,Instr.slice,Instr.sliceBounds,run_underlying hu,qw hT,qb3 h2 h5,qb3 h3 h6]
     | some a=>simp [Instr.sliceAt,Instr.slice,Instr.sliceBounds,run_underlying hu,qw hT,qb3 h1 h4,qb3 h2 h5,qb3 h3 h6]
 ·exact h.ok
theorem q57 {ρ:Nat→Value} {o:Oper} {x:Operand} {K:Value→World→Prop} (ho:o.op=.nilCheck x) (h:nilV P (ev ρ x) w (execOp (ev ρ) o) K) :
  OpOk2 P (execOp (ev ρ) o) w K:=by
 unfold nilV at h
 split at h
 ·rename_i a e
  refine .inl ⟨_,w,?_,h⟩;simp [execOp,ho,e]
 ·exact h.ok
theorem qc6 {f:FuncId} (h:qei P f=true) (args:Array Value):(callFunc f args).run P w=.ok (.enter f args) w:=by
 unfold qei at h;cases e:P.funcs[f]? with
 | none=>rw [e] at h;cases h
 | some fn=>
  rw [e] at h;simp only [Bool.and_eq_true,Bool.not_eq_true'] at h;have h1:¬ fn.name = "runtime.NumGoroutine":=by simpa using h.1
  have h2:¬ fn.body=none:=by
   intro hb;rw [hb] at h;cases h.2
  simp [callFunc,go_sem,e,h1,h2]
theorem CallV.ok {f:FuncId} {vs:List Value} {K:Value→World→Prop} (h:CallV P f vs w K):OpOk P (callFunc f vs.toArray) w K:=by
 rcases h.h with ⟨h1,h2⟩|⟨v,w',h1,h2⟩
 ·exact .inr ⟨f,vs.toArray,qc6 h1 _,h2⟩
 ·exact .inl (.inl ⟨v,w',h1,h2⟩)
theorem qy2 {ρ:Nat→Value} {o:Oper} {c:Call} {K:Value→World→Prop} (ho:o.op=.call c) (hc:c.callee=.builtin .len)
  (h:lenV P (getL c.argTypes.toList 0) (evs ρ c.args.toList) w (execOp (ev ρ) o) K):OpOk2 P (execOp (ev ρ) o) w K:=by
 unfold lenV at h
 split at h
 ·rename_i t v vs ht hv
  rw [qg] at ht;have ht':c.argTypes[0]?=some t:=by simpa using ht
  rw [qc0] at hv;have hv':(c.args.map (ev ρ))[0]?=some v:=by
   have:(c.args.map (ev ρ)).toList[0]?=some v:=by simp only [Array.toList_map,hv,List.getElem?_cons_zero]
   simpa using this
  have he:execOp (ev ρ) o=(do pure (.value (← Builtin.len_ c.argTypes o.type (c.args.map (ev ρ))))):=by
   simp only [execOp,ho,resolve,hc];rfl
  split at h
  ·rename_i s hu
   rw [he];exact valV (by simp only [Builtin.len_,ht',hv'];simp [run_underlying hu,goInt]) h
  ·rename_i hu
   rw [he];exact valV (by simp only [Builtin.len_,ht',hv'];simp [run_underlying hu,goInt]) h
  ·exact h.ok
 ·exact h.ok
theorem q4z {ρ:Nat→Value} {o:Oper} {c:Call} {K:Value→World→Prop} (ho:o.op=.call c) (hc:c.callee=.builtin .append)
  (h:appV P c.argTypes o.type (evs ρ c.args.toList) w (execOp (ev ρ) o) K):OpOk2 P (execOp (ev ρ) o) w K:=by
 unfold appV at h
 split at h
 ·rename_i a b hv
  rw [qa1,qa1] at h;obtain ⟨v,w',h1,hk⟩:=h;rw [qa1] at hk;have he:execOp (ev ρ) o=(do pure (.value (← Builtin.append_ c.argTypes o.type (c.args.map (ev ρ))))):=by
   simp only [execOp,ho,resolve,hc];rfl
  have hv':c.args.map (ev ρ)=#[a,b]:=by
   rw [qc0] at hv;rw [← Array.toList_inj];simpa using hv
  rw [he,hv'];exact OpOk2.val ⟨v,w',h1,hk⟩
 ·exact h.ok
theorem OpOk.congr {s s':Sem Next} {K:Value→World→Prop} (he:s.run P w=s'.run P w) (h:OpOk P s' w K):OpOk P s w K:=by
 unfold OpOk OpOk2 at *;rw [he];exact h
theorem qsu {ρ:Nat→Value} {o:Oper} {c:Call} {K:Value→World→Prop} (ho:o.op=.call c) (h:qxg P c o.type ρ w (execOp (ev ρ) o) K) :
  OpOk P (execOp (ev ρ) o) w K:=by
 unfold qxg at h
 split at h
 ·rename_i f hc
  split at h
  ·rename_i g first captured hf
   rw [qag,qc0] at h;have he:execOp (ev ρ) o=callFunc g (first++c.args.map (ev ρ)++captured):=by
    simp only [execOp,ho,resolve,hc,hf];rfl
   rw [he];have key:CallV P g (first.toList++(c.args.toList.map (ev ρ)++captured.toList)) w K:=by
    split at h
    ·rename_i h1 h2;rw [h1,h2];simpa using h
    ·exact h
   have e2:(first.toList++(c.args.toList.map (ev ρ)++captured.toList)).toArray=first++c.args.map (ev ρ)++captured:=by
    rw [← Array.toList_inj];simp
   rw [← e2];exact key.ok
  ·exact .inl h.ok
 ·rename_i hc;exact .inl (qy2 ho hc h)
 ·rename_i hc;exact .inl (q4z ho hc h)
 ·rename_i recv name hc
  split at h
  ·rename_i t v hr
   rw [qag,qc0] at h;obtain ⟨f,r,hm,hk⟩:=h.h;have e1:execOp (ev ρ) o=invoke (.fn (.method name) #[]) (#[ev ρ recv]++c.args.map (ev ρ)):=by
    simp only [execOp,ho,resolve,hc];rfl
   have e2:invoke (.fn (.method name) #[]) (#[ev ρ recv]++c.args.map (ev ρ))=callMethod (ev ρ recv) name (c.args.map (ev ρ)):=by
    have h0:(#[ev ρ recv]++c.args.map (ev ρ))[0]?=some (ev ρ recv):=by rw [Array.getElem?_append_left Js];rfl
    have h1:(#[ev ρ recv]++c.args.map (ev ρ)).extract 1 (#[ev ρ recv]++c.args.map (ev ρ)).size=c.args.map (ev ρ):=by
     rw [← Array.toList_inj];simp;exact List.take_of_length_le Js
    unfold invoke;simp only [h0,h1]
   have e3:(callMethod (.iface t v) name (c.args.map (ev ρ))).run P w=(callFunc f (#[r]++c.args.map (ev ρ))).run P w:=by
    simp only [callMethod];simp [go_sem];rw [show P.types.size+100=P.types.size+Made.depth from rfl,hm];rfl
   have e4:(r::c.args.toList.map (ev ρ)).toArray=#[r]++c.args.map (ev ρ):=by
    rw [← Array.toList_inj];simp
   refine OpOk.congr (s':=callFunc f (r::c.args.toList.map (ev ρ)).toArray) ?_ hk.ok;rw [e1,e2,hr,e3,e4]
  ·exact .inl h.ok
 ·exact .inl h.ok
theorem q7q (v:Value):csz v=v.cells.size:=by cases v<;>rfl
theorem q0e (vs:List Value):∀ (cells:Array Value) (off k:Nat),
  (vs.zipIdx k).foldl (fun cs (x:Value × Nat)=>cs.setIfInBounds (off+x.2) x.1) cells=(qpp cells.toList (off+k) vs).toArray:=by
 induction vs with
 | nil=>intro cells off k;simp [qpp]
 | cons v vs ih=>
  intro cells off k;simp only [List.zipIdx_cons,List.foldl_cons,qpp];rw [ih,q6v];simp [Nat.add_assoc]
theorem qqo (place:Nat→Option (Nat × Nat)) (parts:List (Nat × Value)):∀ (cells:List Value) (l:List Value),qoh place cells parts=some l→
  Instr.fill place cells.toArray parts=some l.toArray:=by
 induction parts with
 | nil=>intro cells l h;cases h;rfl
 | cons x parts ih=>
  obtain ⟨i,v⟩:=x;intro cells l h;simp only [qoh] at h;unfold Instr.fill;cases e:place i with
  | none=>rw [e] at h;cases h
  | some os=>
   obtain ⟨off,size⟩:=os;rw [e] at h;simp only at h ⊢;cases hb:(Nat.beq (csz v) size&&Nat.ble (off+csz v) cells.length)<;>rw [hb] at h
   ·cases h
   ·simp only [cond_true] at h;simp only [Bool.and_eq_true,Nat.ble_eq] at hb;rw [q7q] at hb;replace hb:=And.intro (Nat.eq_of_beq_eq_true hb.1) hb.2;have hc:¬ (v.cells.size≠size||off+v.cells.size > cells.toArray.size)=true:=by
     simp only [List.size_toArray,Bool.or_eq_true,decide_eq_true_eq,not_or];exact ⟨fun hh=>hh hb.1,by omega⟩
    rw [if_neg hc];have:=q0e v.cells.toList cells.toArray off 0;rw [← ih _ _ h]
    congr 1
    rw [← Array.foldl_toList,Array.toList_zipIdx]
    simpa using this
theorem qwc {fs:Array Field} (h:allT P fs.toList=true) :
  (fs.mapM fun f=>Prod.mk f.offset <$> sizeOf f.type:Sem (Array (Nat × Nat))).run P w=.ok (qdh P fs.toList).toArray w:=by
 obtain ⟨l⟩:=fs;rw [Array.mapM_eq_mapM_toList];have:∀ l:List Field,allT P l=true→(l.mapM fun f=>(Prod.mk f.offset <$> sizeOf f.type:Sem (Nat × Nat))).run P w=.ok (qdh P l) w:=by
  intro l
  induction l with
  | nil=>intro _;simp [qdh]
  | cons f l ih=>
   intro h;simp only [allT,Bool.and_eq_true] at h;simp [List.mapM_cons,qw h.1,ih h.2,qdh]
 simp [this l h]
theorem qxd {t:TypeId} {parts:Array (Nat × Value)} {K:Value→World→Prop} (h:qkx P t parts.toList (fun v=>K v w)) :
  OpOk2 P (do pure (.value (← Instr.build t parts))) w K:=by
 unfold qkx at h
 split at h
 ·rename_i i hi
  split at h
  ·rename_i z hz
   have hz0:(zeroValue t).run P w=.ok z w:=by simp [zeroValue,typeInfo,hi,hz]
   split at h
   ·rename_i fs hu
    cases hT:allT P fs.toList<;>rw [hT] at h
    ·exact h.elim
    ·simp only [cond_true] at h
     split at h
     ·rename_i l hl
      rw [qag] at h;refine valV ?_ h;have hf:=qqo _ _ _ _ hl;have hp:=qwc (w:=w) hT;have e:(fun k=>getL (qdh P fs.toList) k)=fun x=>(qdh P fs.toList).toArray[x]?:=by
       funext k;rw [qg];simp
      rw [e] at hf;have hf':Instr.fill (fun x=>(qdh P fs.toList)[x]?) z.cells parts.toList=some l.toArray:=by simpa using hf
      simp only [Instr.build];simp [hz0,run_underlying hu,hp,hf']
     ·exact h.elim
   ·rename_i n e hu
    cases hT:hasT P e<;>rw [hT] at h
    ·exact h.elim
    ·simp only [cond_true] at h
     split at h
     ·rename_i l hl
      rw [qag] at h;refine valV ?_ h;have hf:=qqo _ _ _ _ hl;have hf':Instr.fill (fun k=>some (k*tsz P e,tsz P e)) z.cells parts.toList=some l.toArray:=by simpa using hf
      simp only [Instr.build];simp [hz0,run_underlying hu,qw hT,hf']
     ·exact h.elim
   ·exact h.elim
  ·exact h.elim
 ·exact h.elim
theorem qnx (z:List Value) (n:Nat):(qbb z n).length=n*z.length:=by
 induction n with
 | zero=>simp [qbb]
 | succ n ih=>simp [qbb,ih,Nat.succ_mul,Nat.add_comm]
theorem qwu (z:List Value) (n:Nat):∀ i,i<n*z.length→(qbb z n)[i]?=z[i%z.length]?:=by
 induction n with
 | zero=>intro i hi;simp at hi
 | succ n ih=>
  intro i hi;simp only [qbb]
  by_cases h:i<z.length
  ·rw [List.getElem?_append_left h,Nat.mod_eq_of_lt h]
  ·rw [List.getElem?_append_right Oo,ih _ (by rw [Nat.succ_mul] at hi;omega),← Nat.mod_eq_sub_mod Oo]
theorem qu2 (z:Array Value) (hz:0<z.size) (n:Nat):(Array.range (n*z.size)).map (z[· % z.size]!)=(qbb z.toList n).toArray:=by
 rw [← Array.toList_inj];apply List.ext_getElem?;intro i;have hl:(qbb z.toList n).length=n*z.size:=by rw [qnx];simp
 by_cases hi:i<n*z.size
 ·have h1:=qwu z.toList n i (by simpa using hi);have h2:i%z.size<z.size:=Nat.mod_lt _ hz;rw [show (qbb z.toList n).toArray.toList=qbb z.toList n from rfl,h1];simp [hi,h2]
 ·rw [show (qbb z.toList n).toArray.toList=qbb z.toList n from rfl,List.getElem?_eq_none Ys,List.getElem?_eq_none Oo]
theorem qkf {t:TypeId} {len:Nat} {parts:Array (Nat × Value)} {K:Value→World→Prop} (h:qfs P t len parts.toList w K) :
  OpOk2 P (do pure (.value (← Instr.buildSlice t len parts))) w K:=by
 unfold qfs at h
 split at h
 ·rename_i e hu
  split at h
  ·rename_i i hi
   split at h
   ·rename_i z hz
    have hz0:(zeroValue e).run P w=.ok z w:=by simp [zeroValue,typeInfo,hi,hz]
    have hs0:(sizeOf e).run P w=.ok i.size w:=by simp [sizeOf,typeInfo,hi]
    cases hb:(Nat.beq z.cells.toList.length i.size&&Nat.ble (len*i.size) 16777216 && !Nat.beq i.size 0)<;>rw [hb] at h
    ·exact h.elim
    ·simp only [cond_true] at h;simp only [Bool.and_eq_true,Nat.ble_eq,Bool.not_eq_true'] at hb;obtain ⟨⟨b1,b2⟩,b3⟩:=hb;have b1:=Nat.eq_of_beq_eq_true b1;have b3:0<i.size:=Nat.pos_of_ne_zero fun e=>by rw [e] at b3;cases b3
     have b1':z.cells.size=i.size:=by simpa using b1
     split at h
     ·rename_i l hl
      rw [qag] at h;have h:=h.h w.heap.size _ rfl rfl;have hf:=qqo _ _ _ _ hl;have hzz:=qu2 z.cells Oo len;rw [b1'] at hzz;refine OpOk2.val ⟨_,_,?_,h⟩;have hn:¬ len*i.size > 2 ^ 24:=by omega
      by_cases h0:len*i.size=0
      ·have hl0:len=0:=by
        rcases Nat.mul_eq_zero.1 h0 with h|h
        ·exact h
        ·omega
       subst hl0;have hf0:Instr.fill (fun i_1=>some (i_1*i.size,i.size)) #[] parts.toList=some l.toArray:=by simpa [qbb] using hf
       simp [Instr.buildSlice,run_underlying hu,hs0,hf0,newRow,newObj,Sem.run,show Array.range 0=#[] from rfl]
      ·rw [← hzz] at hf;have hn':¬ 16777216<len*i.size:=by omega
       simp only [Instr.buildSlice];simp [run_underlying hu,hs0,hn',h0,hz0,b1',hf,newRow,newObj,Sem.run]
     ·exact h.elim
   ·exact h.elim
  ·exact h.elim
 ·exact h.elim
theorem qmx {t:TypeId} {len cap:Value} {K:Value→World→Prop} (h:qho P t len cap w K) :
  OpOk2 P (do pure (.value (← Instr.makeSlice t len cap))) w K:=by
 unfold qho at h
 split at h
 ·rename_i e k1 len k2 cap hu
  split at h
  ·rename_i i hi
   split at h
   ·rename_i z hz
    have hz0:(zeroValue e).run P w=.ok z w:=by simp [zeroValue,typeInfo,hi,hz]
    have hs0:(sizeOf e).run P w=.ok i.size w:=by simp [sizeOf,typeInfo,hi]
    have ht0:(typeInfo e).run P w=.ok i w:=by simp [typeInfo,hi]
    cases hb:(Nat.beq z.cells.toList.length i.size && !Nat.beq i.size 0)<;>rw [hb] at h
    ·exact h.elim
    ·simp only [cond_true] at h;simp only [Bool.and_eq_true,Bool.not_eq_true'] at hb;obtain ⟨b1,b3⟩:=hb;have b1:=Nat.eq_of_beq_eq_true b1;have b3:0<i.size:=Nat.pos_of_ne_zero fun e=>by rw [e] at b3;cases b3
     have b1':z.cells.size=i.size:=by simpa using b1
     obtain ⟨l,c,rfl,rfl,hlc,hcb,hc,hk⟩:=h;have hk:=hk _ _ rfl rfl;have hzz:=qu2 z.cells Oo c;rw [b1'] at hzz;have wl:IntKind.i64.wrap (l:Int)=l:=InR.wrap (k:=.i64) ⟨by omega,by omega⟩;have wc:IntKind.i64.wrap (c:Int)=c:=InR.wrap (k:=.i64) ⟨by omega,by omega⟩;have hb1:¬ (281474976710656:Int)<(i.bytes:Int)*(c:Int):=by
      have:(i.bytes:Int)*(c:Int)=((c*i.bytes:Nat):Int):=by rw [Int.natCast_mul,Int.mul_comm]
      rw [this];omega
     refine OpOk2.val ⟨_,_,?_,hk⟩;simp only [Instr.makeSlice,asInt,asIntOf];have n1:¬ ((c:Int)<0):=by omega
     have n2:¬ ((l:Int)<0):=by omega
     have n3:¬ c<l:=by omega
     simp [run_underlying hu,ht0,wl,wc,hb1,n1,n2,n3,askRoom,roomBytes,hs0,newRow,newObj,Sem.run]
     split
     ·rename_i h0
      have hc0:c=0:=by
       rcases Nat.mul_eq_zero.1 h0 with h|h
       ·exact h
       ·omega
      subst hc0;simp [qbb,show Array.range 0=#[] from rfl]
     ·simp [hz0,b1',hzz]
   ·exact h.elim
  ·exact h.elim
 ·exact h.elim
theorem qmw {t:TypeId} {x:Value} {K:Value→World→Prop} (h:qhn P t x (fun v=>K v w)):OpOk2 P (do pure (.value (← Instr.makeInterface t x))) w K:=by
 unfold qhn at h
 split at h
 ·exact h.elim
 ·rename_i d hd hu
  refine valV ?_ h;cases d<;>first|exact absurd rfl (hd _)|simp [Instr.makeInterface,run_underlying hu]
 ·exact h.elim
theorem q30 (ρ:Nat→Value) (l:List (Nat × Operand)):evp ρ l=l.map fun x=>(x.1,ev ρ x.2):=by
 induction l with
 | nil=>rfl
 | cons x l ih=>obtain ⟨i,x⟩:=x;simp [evp,ih]
theorem qz3 {t:TypeId} {x:Value} {s:Sem Next} {K:Value→World→Prop} (hs:s=(do pure (.value (← Instr.range t x)))) (h:qz2 P t x w s K):OpOk2 P s w K:=by
 unfold qz2 at h
 split at h
 ·rename_i sx hu
  subst hs;refine OpOk2.val ⟨_,_,?_,h.h w.heap.size _ rfl rfl⟩;simp [Instr.range,run_underlying hu,newObj,Sem.run]
 ·exact h.ok
theorem q2r {x:Value} {b:Bool} {ty:TypeId} {s:Sem Next} {K:Value→World→Prop} (hs:s=(do pure (.value (← Instr.next x b ty)))) (h:q55 P x b w s K):OpOk2 P s w K:=by
 unfold q55 at h
 split at h
 ·rename_i r
  subst hs;obtain ⟨s,pos,hr,h1,h2⟩:=h
  by_cases hp:pos<s.size
  ·refine OpOk2.val ⟨_,_,?_,h1 hp _ rfl⟩;simp [Instr.next,getObj,setObj,Sem.run,hr,hp,goInt,setO]
  ·refine OpOk2.val ⟨_,_,?_,h2 hp⟩;simp [Instr.next,getObj,Sem.run,hr,hp]
 ·exact h.ok
theorem qzl {o:Oper} {ρ:Nat→Value} {K:Value→World→Prop} (hc:∀ c,o.op≠.call c) (h:opV P o ρ w K):OpOk2 P (execOp (ev ρ) o) w K:=by
 unfold opV at h
 split at h
 ·rename_i x ho;rw [qa1] at h;simp only [execOp,ho];exact q8k h
 ·rename_i x ho;rw [qa1] at h;simp only [execOp,ho];exact q8k h
 ·rename_i c a b ho;simp only [execOp,ho];exact q21 h
 ·rename_i op t x y yt ho;simp only [execOp,ho];exact OpOk2.val (qu5 h)
 ·rename_i op t x ho;simp only [execOp,ho];exact q8w h
 ·rename_i src dst x ho;exact q1w (by simp only [execOp,ho]) h
 ·rename_i t x i ho;simp only [execOp,ho];exact q5p h
 ·rename_i t x i ho;simp only [execOp,ho];exact qqq h
 ·rename_i t x ho;simp only [execOp,ho];exact q2m h
 ·rename_i t x v ho;exact q0q (by simp only [execOp,ho]) h
 ·rename_i x ix ho;simp only [execOp,ho];exact qqm h
 ·rename_i t x f ho;simp only [execOp,ho];exact qmk h
 ·rename_i t x f ho;simp only [execOp,ho];exact qx5 h
 ·rename_i t x ho;simp only [execOp,ho];exact q44 h
 ·rename_i t ho;simp only [execOp,ho];exact qw4 h
 ·rename_i t x lo hi mx ho
  refine q0i ?_ h;simp only [execOp,ho];cases lo<;>cases hi<;>cases mx<;>rfl
 ·rename_i x ho;exact q57 ho h
 ·rename_i c ho;exact absurd ho (hc c)
 ·rename_i t parts ho
  rw [q30] at h;simp only [execOp,ho];refine qxd ?_
  simpa using h
 ·rename_i t len parts ho
  rw [q30] at h;simp only [execOp,ho];refine qkf ?_
  simpa using h
 ·rename_i t l c ho
  simp only [execOp,ho];exact qmx h
 ·rename_i fn first captured ho
  rw [qag,qag,qc0,qc0] at h;simp only [execOp,ho];refine valV ?_ h;have e1:∀ a:Array Operand,(a.toList.map (ev ρ)).toArray=a.map (ev ρ):=fun a=>by rw [← Array.toList_inj];simp
  simp only [Instr.makeFunc,e1];rfl
 ·rename_i t x ho;simp only [execOp,ho];exact qmw h
 ·rename_i t x ho;exact qz3 (by simp only [execOp,ho]) h
 ·rename_i it b ho;exact q2r (ty:=o.type) (by simp only [execOp,ho]) h
 ·exact h.ok
theorem qtv {o:Oper} {ρ:Nat→Value} {K:Value→World→Prop} (h:opV P o ρ w K):OpOk P (execOp (ev ρ) o) w K:=by
 by_cases hc:∃ c,o.op=.call c
 ·obtain ⟨c,ho⟩:=hc;unfold opV at h;rw [ho] at h;exact qsu ho h
 ·exact .inl (qzl (fun c e=>hc ⟨c,e⟩) h)
end
def putV (n:Nat) (dst:Option Tmp) (ρ:Nat→Value) (v:Value) (K:(Nat→Value)→Prop):Prop:=
 match dst with
 | none=>K ρ
 | some d=>bif Nat.blt d n then K (upd ρ d v) else False
def runO (P:Program) (n:Nat) (o:Oper) (K:(Nat→Value)→World→Prop) (ρ:Nat→Value) (w:World):Prop:=
 opV P o ρ w fun v w'=>putV n o.dst ρ v fun ρ'=>K ρ' w'
def qwh (n:Nat) (o:Oper) (K:(Nat→Value)→World→Prop) (ρ:Nat→Value) (w:World):Prop:=
 putV n o.dst ρ undef fun ρ'=>K ρ' w
def regV (P:Program) (n:Nat) (ops:List Oper) (Q:(Nat→Value)→World→Prop):List Oper→(Nat→Value)→World→Prop
 | [],ρ,w=>Q ρ w
 | o::rest,ρ,w=>
  match o.guard with
  | none=>runO P n o (regV P n ops Q rest) ρ w
  | some (j,want)=>
   match getL ops j with
   | none=>qwh n o (regV P n ops Q rest) ρ w
   | some oj=>match oj.dst with
    | none=>qwh n o (regV P n ops Q rest) ρ w
    | some d=>bif Nat.blt d n then
      match ρ d with
      | .bool b=>Tst b
        (match want with
         | true=>runO P n o (regV P n ops Q rest) (upd ρ d (.bool true)) w
         | false=>qwh n o (regV P n ops Q rest) (upd ρ d (.bool true)) w)
        (match want with
         | true=>qwh n o (regV P n ops Q rest) (upd ρ d (.bool false)) w
         | false=>runO P n o (regV P n ops Q rest) (upd ρ d (.bool false)) w)
      | _=>qwh n o (regV P n ops Q rest) ρ w
     else False
def seqQ (K:(Nat→Value)→World→Prop) (Q:Exit→(Nat→Value)→World→Prop):Exit→(Nat→Value)→World→Prop
 | .normal,ρ,w=>K ρ w
 | .exit i,ρ,w=>Q (.exit i) ρ w
 | .goto l,ρ,w=>Q (.goto l) ρ w
 | .ret,ρ,w=>Q .ret ρ w
 | .panic c,ρ,w=>Q (.panic c) ρ w
 | .outgrown,ρ,w=>Q .outgrown ρ w
def qsq (id:Nat) (Q:Exit→(Nat→Value)→World→Prop):Exit→(Nat→Value)→World→Prop
 | .normal,ρ,w=>Q .normal ρ w
 | .exit i,ρ,w=>bif Nat.beq i id then Q .normal ρ w else Q (.exit i) ρ w
 | .goto l,ρ,w=>Q (.goto l) ρ w
 | .ret,ρ,w=>Q .ret ρ w
 | .panic c,ρ,w=>Q (.panic c) ρ w
 | .outgrown,ρ,w=>Q .outgrown ρ w
def q8p (Q:Exit→(Nat→Value)→World→Prop):Exit→(Nat→Value)→World→Prop
 | .goto _,_,_=>False
 | .normal,ρ,w=>Q .normal ρ w
 | .exit i,ρ,w=>Q (.exit i) ρ w
 | .ret,ρ,w=>Q .ret ρ w
 | .panic c,ρ,w=>Q (.panic c) ρ w
 | .outgrown,ρ,w=>Q .outgrown ρ w
structure ScopeV (P:Program) (n:Nat) (c:Code) (Q:Exit→(Nat→Value)→World→Prop) (ρ:Nat→Value) (w:World):Prop where
 h:∀ a,St n ρ a→(Code.scope c).wp P (fun e a' w'=>∃ ρ',St n ρ' a'∧Q e ρ' w') a w
def qfd (P:Program) (n:Nat):Code→(Exit→(Nat→Value)→World→Prop)→(Nat→Value)→World→Prop
 | .skip,Q,ρ,w=>Q .normal ρ w
 | .region id ops draw,Q,ρ,w=>
  match draw with
  | false=>regV P n ops.toList (Q .normal) ops.toList ρ w
  | true=>DrawV P n id ops Q ρ w
 | .seq a b,Q,ρ,w=>qfd P n a (seqQ (qfd P n b Q) Q) ρ w
 | .cond c t e,Q,ρ,w=>
  match ev ρ c with
  | .bool b=>Tst b (qfd P n t Q ρ w) (qfd P n e Q ρ w)
  | _=>False
 | .block id c,Q,ρ,w=>qfd P n c (qsq id Q) ρ w
 | .loop c,Q,ρ,w=>LoopV P n c Q ρ w
 | .exit id,Q,ρ,w=>Q (.exit id) ρ w
 | .label _,Q,ρ,w=>Q .normal ρ w
 | .ret,Q,ρ,w=>Q .ret ρ w
 | .goto l,Q,ρ,w=>Q (.goto l) ρ w
 | .scope c,Q,ρ,w=>ScopeV P n c Q ρ w
 | .rangeFunc f p a b,Q,ρ,w=>CodeV P n (.rangeFunc f p a b) Q ρ w
 | .refuse _,_,_,_=>False
def lift (n:Nat) (Q:Exit→(Nat→Value)→World→Prop):Exit→Act→World→Prop:=fun e a w=>∃ ρ,St n ρ a∧Q e ρ w
section
variable {P:Program} {n:Nat}
theorem putV.st {dst:Option Tmp} {ρ:Nat→Value} {v:Value} {K:(Nat→Value)→Prop} {a:Act} (h:putV n dst ρ v K) (ha:St n ρ a) :
  ∃ ρ',St n ρ' (a.put dst v)∧K ρ':=by
 unfold putV at h
 split at h
 ·exact ⟨ρ,ha,h⟩
 ·rename_i d
  cases hd:Nat.blt d n<;>rw [hd] at h
  ·exact h.elim
  ·exact ⟨_,ha.put (by simpa using hd) v,h⟩
theorem St.yield {ρ:Nat→Value} {a:Act} (ha:St n ρ a) {ops:List Oper} {j d:Nat} {oj:Oper} (hj:getL ops j=some oj) (hd:oj.dst=some d) (hn:d<n) :
  yielded ops.toArray a.tmps j=match ρ d with | .bool b=>some b|_=>none:=by
 have h1:ops.toArray[j]?=some oj:=by rw [qg] at hj;simpa using hj
 have h2:a.tmps[d]?=some (ρ d):=by
  have hs:=ha.size;have:=ha.get d;rw [Array.getD_eq_getD_getElem?,Array.getElem?_eq_getElem Oo] at this;rw [Array.getElem?_eq_getElem Oo]
  simpa using this
 simp only [yielded,h1,Option.bind_some,hd,h2];cases ρ d<;>rfl
theorem qrh {o:Oper} {ops:Array Oper} {ρ:Nat→Value} {w:World} {K:(Nat→Value)→World→Prop} {a:Act} {rest:List Oper} {Q':Exit→Act→World→Prop}
  (hg:Region.wanted o (yielded ops a.tmps)=true) (ha:St n ρ a) (h:runO P n o K ρ w) (hk:∀ ρ' a' w',St n ρ' a'→K ρ' w'→wpList P ops Q' rest a' w') :
  wpList P ops Q' (o::rest) a w:=by
 unfold wpList;rw [if_pos hg];refine .inl (OpOk.wp ha.eval (qtv h) fun v w' hp=>?_);obtain ⟨ρ',h1,h2⟩:=putV.st hp ha;exact hk _ _ _ h1 h2
theorem qgq {o:Oper} {ops:Array Oper} {ρ:Nat→Value} {w:World} {K:(Nat→Value)→World→Prop} {a:Act} {rest:List Oper} {Q':Exit→Act→World→Prop}
  (hg:Region.wanted o (yielded ops a.tmps)=false) (ha:St n ρ a) (h:qwh n o K ρ w) (hk:∀ ρ' a' w',St n ρ' a'→K ρ' w'→wpList P ops Q' rest a' w') :
  wpList P ops Q' (o::rest) a w:=by
 unfold wpList;rw [if_neg (by rw [hg];simp)];obtain ⟨ρ',h1,h2⟩:=putV.st h ha;exact hk _ _ _ h1 h2
theorem q6l {ops:List Oper} {Q:(Nat→Value)→World→Prop} {Q':Exit→Act→World→Prop} (hQ:∀ ρ a w,St n ρ a→Q ρ w→Q' .normal a w) (l:List Oper) :
  ∀ (ρ:Nat→Value) (a:Act) (w:World),St n ρ a→regV P n ops Q l ρ w→wpList P ops.toArray Q' l a w:=by
 induction l with
 | nil=>intro ρ a w ha h;exact hQ _ _ _ ha h
 | cons o rest ih=>
  intro ρ a w ha h;unfold regV at h;have ih':∀ ρ' a' w',St n ρ' a'→regV P n ops Q rest ρ' w'→wpList P ops.toArray Q' rest a' w':=fun ρ' a' w'=>ih ρ' a' w'
  split at h
  ·rename_i hg
   exact qrh (by simp [Region.wanted,hg]) ha h ih'
  ·rename_i j want hg
   split at h
   ·rename_i hj
    rw [qg] at hj;refine qgq ?_ ha h ih';have:ops.toArray[j]?=none:=by simpa using hj
    simp [Region.wanted,hg,yielded,this]
   ·rename_i oj hj
    split at h
    ·rename_i hd
     refine qgq ?_ ha h ih';have hj2:=hj;rw [qg] at hj2;have:ops.toArray[j]?=some oj:=by simpa using hj2
     simp [Region.wanted,hg,yielded,this,hd]
    ·rename_i d hd
     cases hn:Nat.blt d n<;>rw [hn] at h
     ·exact h.elim
     ·have hn':d<n:=by simpa using hn
      have hy:=ha.yield hj hd hn';simp only [cond_true] at h
      split at h
      ·rename_i b hb
       rw [hb] at hy;cases b
       ·have h:=h.f rfl;have ha':=ha.same hb;cases want
        ·exact qrh (by simp [Region.wanted,hg,hy]) ha' h ih'
        ·exact qgq (by simp [Region.wanted,hg,hy]) ha' h ih'
       ·have h:=h.t rfl;have ha':=ha.same hb;cases want
        ·exact qgq (by simp [Region.wanted,hg,hy]) ha' h ih'
        ·exact qrh (by simp [Region.wanted,hg,hy]) ha' h ih'
      ·rename_i hb
       refine qgq ?_ ha h ih';have:yielded ops.toArray a.tmps j=none:=by
        rw [hy]
        split
        ·rename_i b hb';exact absurd hb' (hb b)
        ·rfl
       simp [Region.wanted,hg,this]
theorem q2l {K:(Nat→Value)→World→Prop} {Q:Exit→(Nat→Value)→World→Prop} {e:Exit} {a:Act} {w:World} (h:lift n (seqQ K Q) e a w) :
  Exit.then (fun a w=>∃ ρ,St n ρ a∧K ρ w) (lift n Q) e a w:=by
 obtain ⟨ρ,h1,h2⟩:=h;cases e<;>exact ⟨ρ,h1,h2⟩
theorem qvj {id:Nat} {Q:Exit→(Nat→Value)→World→Prop} {e:Exit} {a:Act} {w:World} (h:lift n (qsq id Q) e a w) :
  Exit.inBlock id (lift n Q) e a w:=by
 obtain ⟨ρ,h1,h2⟩:=h;cases e with
 | exit i=>
  by_cases hi:i=id
  ·have hb:Nat.beq i id=true:=by subst hi;simp
   simp only [qsq,hb,cond_true] at h2;simp only [Exit.inBlock,hi,if_true];exact ⟨ρ,h1,h2⟩
  ·have hb:Nat.beq i id=false:=Bool.eq_false_iff.2 fun h=>hi (Nat.eq_of_beq_eq_true h)
   simp only [qsq,hb,cond_false] at h2;simp only [Exit.inBlock,hi,if_false];exact ⟨ρ,h1,h2⟩
 | normal=>exact ⟨ρ,h1,h2⟩
 | goto l=>exact ⟨ρ,h1,h2⟩
 | ret=>exact ⟨ρ,h1,h2⟩
 | panic c=>exact ⟨ρ,h1,h2⟩
 | outgrown=>exact ⟨ρ,h1,h2⟩
theorem ql8 (c:Code):∀ (Q:Exit→(Nat→Value)→World→Prop) (ρ:Nat→Value) (w:World),qfd P n c Q ρ w→∀ a,St n ρ a→c.wp P (lift n Q) a w:=by
 induction c with
 | skip=>intro Q ρ w h a ha;exact wp_skip ⟨ρ,ha,h⟩
 | region id ops draw=>
  intro Q ρ w h a ha;cases draw
  ·refine wp_region_list ?_;have:=q6l (Q':=lift n Q) (fun ρ a w ha h=>⟨ρ,ha,h⟩) ops.toList ρ a w ha h
   simpa using this
  ·exact h.h a ha
 | seq x y hx hy=>
  intro Q ρ w h a ha;refine wp_seq (wp_mono (hx _ _ _ h a ha) fun e a w h=>?_);have:=q2l h;cases e with
  | normal=>obtain ⟨ρ',h1,h2⟩:=this;exact hy _ _ _ h2 _ h1
  | exit i=>exact this
  | goto l=>exact this
  | ret=>exact this
  | panic c=>exact this
  | outgrown=>exact this
 | cond c t e ht he=>
  intro Q ρ w h a ha;unfold qfd at h
  split at h
  ·rename_i b hb
   refine wp_cond_split (t:=b) (by rw [ha.eval,hb]) (fun e=>ht _ _ _ (h.t e) a ha) (fun e=>he _ _ _ (h.f e) a ha)
  ·exact h.elim
 | block id c hc=>
  intro Q ρ w h a ha;exact wp_block (wp_mono (hc _ _ _ h a ha) fun e a w h=>qvj h)
 | loop c hc=>intro Q ρ w h a ha;exact h.h a ha
 | rangeFunc f p x b hx hb=>intro Q ρ w h a ha;exact h.h a ha
 | exit id=>intro Q ρ w h a ha;exact wp_exit ⟨ρ,ha,h⟩
 | scope c hc=>intro Q ρ w h a ha;exact h.h a ha
 | label l=>intro Q ρ w h a ha;exact wp_label ⟨ρ,ha,h⟩
 | goto l=>intro Q ρ w h a ha;exact wp_goto ⟨ρ,ha,h⟩
 | ret=>intro Q ρ w h a ha;exact wp_ret ⟨ρ,ha,h⟩
 | refuse why=>intro Q ρ w h a ha;exact h.elim
theorem ScopeV.straight {P:Program} {n:Nat} {c:Code} {Q:Exit→(Nat→Value)→World→Prop} {ρ:Nat→Value} {w:World} (h:qfd P n c (q8p Q) ρ w):ScopeV P n c Q ρ w:=by
 refine ⟨fun a ha=>wp_scope_straight (wp_mono (ql8 c _ _ _ h a ha) fun e a w h=>?_)⟩;obtain ⟨ρ',h1,h2⟩:=h;cases e<;>first|exact h2.elim|exact ⟨ρ',h1,h2⟩
structure SameW (w' w:World) (k:Prop):Prop where
 h:w'=w
 k:k
structure CallQ (P:Program) (f:FuncId) (args:List Value) (w:World) (K:Value→Prop):Prop where
 h:∃ v,Gv P f args w (fun u w'=>u=v∧w'=w)∧K v
def q48 (P:Program) (c:Call) (ρ:Nat→Value) (w:World) (s:Sem Next) (K:Value→Prop):Prop:=
 match c.callee with
 | .value f=>match ev ρ f with
  | .func (.func g) first captured=>qbx (evs ρ c.args.toList) fun vs=>
   match first.toList,captured.toList with
   | [],[]=>CallQ P g vs w K
   | x,y=>CallQ P g (x++(vs++y)) w K
  | _=>False
 | .builtin .len=>lenV P (getL c.argTypes.toList 0) (evs ρ c.args.toList) w s fun v w'=>SameW w' w (K v)
 | _=>False
def opQ (P:Program) (o:Oper) (ρ:Nat→Value) (w:World) (K:Value→Prop):Prop:=
 match o.op with
 | .call c=>q48 P c ρ w (execOp (ev ρ) o) K
 | _=>opV P o ρ w fun v w'=>SameW w' w (K v)
section
variable {P:Program} {w:World} {n:Nat}
def StillOk (P:Program) (s:Sem Next) (w:World) (K:Value→Prop):Prop:=
 OpOk2 P s w (fun v w'=>w'=w∧K v)∨
 (∃ f args v,s.run P w=.ok (.enter f args) w∧Calls P f args w (fun e w'=>e=.returned v∧w'=w)∧K v)
theorem OpOk2.same {s:Sem Next} {K:Value→Prop} (h:OpOk2 P s w fun v w'=>SameW w' w (K v)):StillOk P s w K:=by
 refine .inl ?_
 rcases h with ⟨v,w',h1,h2⟩|⟨w',h1,h2⟩
 ·exact .inl ⟨v,w',h1,h2.h,h2.k⟩
 ·exact .inr ⟨w',h1,h2.h,h2.k⟩
theorem q1s {ρ:Nat→Value} {o:Oper} {c:Call} {K:Value→Prop} (ho:o.op=.call c) (h:q48 P c ρ w (execOp (ev ρ) o) K) :
  StillOk P (execOp (ev ρ) o) w K:=by
 unfold q48 at h
 split at h
 ·rename_i f hc
  split at h
  ·rename_i g first captured hf
   rw [qag,qc0] at h;have he:execOp (ev ρ) o=callFunc g (first++c.args.map (ev ρ)++captured):=by
    simp only [execOp,ho,resolve,hc,hf];rfl
   rw [he];have key:CallQ P g (first.toList++(c.args.toList.map (ev ρ)++captured.toList)) w K:=by
    split at h
    ·rename_i h1 h2;rw [h1,h2];simpa using h
    ·exact h
   have e2:(first.toList++(c.args.toList.map (ev ρ)++captured.toList)).toArray=first++c.args.map (ev ρ)++captured:=by
    rw [← Array.toList_inj];simp
   rw [← e2];obtain ⟨v,⟨h1,h2⟩,hk⟩:=key;refine .inr ⟨g,_,v,qc6 h1 _,h2.mono ?_,hk⟩;rintro e w' ⟨u,he,rfl,hw⟩;exact ⟨he,hw⟩
  ·exact h.elim
 ·rename_i hc;exact (qy2 ho hc h).same
 ·exact h.elim
theorem q8i {o:Oper} {ρ:Nat→Value} {K:Value→Prop} (h:opQ P o ρ w K):StillOk P (execOp (ev ρ) o) w K:=by
 unfold opQ at h
 split at h
 ·rename_i c ho;exact q1s ho h
 ·rename_i hc;exact (qzl (fun c e=>hc c e) h).same
theorem StillOk.still {o:Oper} {ρ:Nat→Value} {K:Value→Prop} {a:Act} {next:Act→Prop} (he:a.eval=ev ρ) (h:StillOk P (execOp (ev ρ) o) w K)
  (hn:∀ v,K v→next (a.put o.dst v)):o.still P a w next:=by
 unfold Oper.still;rw [he]
 rcases h with (⟨v,w',h1,h2,h3⟩|⟨w',h1,h2,h3⟩)|⟨f,args,v,h1,h2,h3⟩
 ·rw [h1];exact ⟨h2,hn _ h3⟩
 ·rw [h1];exact ⟨h2,hn _ h3⟩
 ·rw [h1];exact ⟨rfl,v,h2,hn _ h3⟩
def runQ (P:Program) (n:Nat) (o:Oper) (K:(Nat→Value)→Prop) (ρ:Nat→Value) (w:World):Prop:=
 opQ P o ρ w fun v=>putV n o.dst ρ v K
def regQ (P:Program) (n:Nat) (ops:List Oper) (w:World) (Q:(Nat→Value)→Prop):List Oper→(Nat→Value)→Prop
 | [],ρ=>Q ρ
 | o::rest,ρ=>
  match o.guard with
  | none=>runQ P n o (regQ P n ops w Q rest) ρ w
  | some (j,want)=>
   match getL ops j with
   | none=>putV n o.dst ρ undef (regQ P n ops w Q rest)
   | some oj=>match oj.dst with
    | none=>putV n o.dst ρ undef (regQ P n ops w Q rest)
    | some d=>bif Nat.blt d n then
      match ρ d with
      | .bool b=>Tst b
        (match want with
         | true=>runQ P n o (regQ P n ops w Q rest) (upd ρ d (.bool true)) w
         | false=>putV n o.dst (upd ρ d (.bool true)) undef (regQ P n ops w Q rest))
        (match want with
         | true=>putV n o.dst (upd ρ d (.bool false)) undef (regQ P n ops w Q rest)
         | false=>runQ P n o (regQ P n ops w Q rest) (upd ρ d (.bool false)) w)
      | _=>putV n o.dst ρ undef (regQ P n ops w Q rest)
     else False
theorem qri {o:Oper} {ops:Array Oper} {ρ:Nat→Value} {K:(Nat→Value)→Prop} {a:Act} {rest:List Oper} {Q':Act→Prop}
  (hg:Region.wanted o (yielded ops a.tmps)=true) (ha:St n ρ a) (h:runQ P n o K ρ w) (hk:∀ ρ' a',St n ρ' a'→K ρ'→wpStill P ops w Q' rest a') :
  wpStill P ops w Q' (o::rest) a:=by
 unfold wpStill;rw [if_pos hg];refine StillOk.still ha.eval (q8i h) fun v hp=>?_;obtain ⟨ρ',h1,h2⟩:=putV.st hp ha;exact hk _ _ h1 h2
theorem qgr {o:Oper} {ops:Array Oper} {ρ:Nat→Value} {K:(Nat→Value)→Prop} {a:Act} {rest:List Oper} {Q':Act→Prop}
  (hg:Region.wanted o (yielded ops a.tmps)=false) (ha:St n ρ a) (h:putV n o.dst ρ undef K) (hk:∀ ρ' a',St n ρ' a'→K ρ'→wpStill P ops w Q' rest a') :
  wpStill P ops w Q' (o::rest) a:=by
 unfold wpStill;rw [if_neg (by rw [hg];simp)];obtain ⟨ρ',h1,h2⟩:=putV.st h ha;exact hk _ _ h1 h2
theorem q6k {ops:List Oper} {Q:(Nat→Value)→Prop} {Q':Act→Prop} (hQ:∀ ρ a,St n ρ a→Q ρ→Q' a) (l:List Oper) :
  ∀ (ρ:Nat→Value) (a:Act),St n ρ a→regQ P n ops w Q l ρ→wpStill P ops.toArray w Q' l a:=by
 induction l with
 | nil=>intro ρ a ha h;exact hQ _ _ ha h
 | cons o rest ih=>
  intro ρ a ha h;unfold regQ at h;have ih':∀ ρ' a',St n ρ' a'→regQ P n ops w Q rest ρ'→wpStill P ops.toArray w Q' rest a':=fun ρ' a'=>ih ρ' a'
  split at h
  ·rename_i hg
   exact qri (by simp [Region.wanted,hg]) ha h ih'
  ·rename_i j want hg
   split at h
   ·rename_i hj
    rw [qg] at hj;refine qgr ?_ ha h ih';have:ops.toArray[j]?=none:=by simpa using hj
    simp [Region.wanted,hg,yielded,this]
   ·rename_i oj hj
    split at h
    ·rename_i hd
     refine qgr ?_ ha h ih';have hj2:=hj;rw [qg] at hj2;have:ops.toArray[j]?=some oj:=by simpa using hj2
     simp [Region.wanted,hg,yielded,this,hd]
    ·rename_i d hd
     cases hn:Nat.blt d n<;>rw [hn] at h
     ·exact h.elim
     ·have hn':d<n:=by simpa using hn
      have hy:=ha.yield hj hd hn';simp only [cond_true] at h
      split at h
      ·rename_i b hb
       rw [hb] at hy;cases b
       ·have h:=h.f rfl;have ha':=ha.same hb;cases want
        ·exact qri (by simp [Region.wanted,hg,hy]) ha' h ih'
        ·exact qgr (by simp [Region.wanted,hg,hy]) ha' h ih'
       ·have h:=h.t rfl;have ha':=ha.same hb;cases want
        ·exact qgr (by simp [Region.wanted,hg,hy]) ha' h ih'
        ·exact qri (by simp [Region.wanted,hg,hy]) ha' h ih'
      ·rename_i hb
       refine qgr ?_ ha h ih';have:yielded ops.toArray a.tmps j=none:=by
        rw [hy]
        split
        ·rename_i b hb';exact absurd hb' (hb b)
        ·rfl
       simp [Region.wanted,hg,this]
theorem DrawV.quiet {id:Nat} {ops:Array Oper} {Q:Exit→(Nat→Value)→World→Prop} {ρ:Nat→Value} (hm:P.follows .mixedOrders=true) (hB:Region.lexB .any ops=true)
  (h:regQ P n ops.toList w.drew (fun ρ'=>Q .normal ρ' w.drew) ops.toList ρ):DrawV P n id ops Q ρ w:=by
 refine ⟨fun a ha=>wp_region_still hm hB ?_⟩;have:=q6k (w:=w.drew) (Q':=fun a'=>∃ ρ',St n ρ' a'∧Q .normal ρ' w.drew) (fun ρ a ha h=>⟨ρ,ha,h⟩) ops.toList ρ a ha h
 simpa using this
end
def over:List (Nat × Value)→(Nat→Value)→Nat→Value
 | [],ρ=>ρ
 | (t,v)::l,ρ=>upd (over l ρ) t v
def qnz:List (Nat × Value)→(Nat→Value)→Prop
 | [],_=>True
 | (t,v)::l,ρ=>ρ t=v∧qnz l ρ
theorem qo3 {l:List (Nat × Value)} {ρ:Nat→Value} (h:qnz l ρ):over l ρ=ρ:=by
 induction l with
 | nil=>rfl
 | cons x l ih=>
  obtain ⟨t,v⟩:=x;obtain ⟨h1,h2⟩:=h
  funext u
  simp only [over,ih h2,upd]
  by_cases e:u=t
  ·subst e;simp [h1]
  ·have e':Nat.beq u t=false:=Bool.eq_false_iff.2 fun h=>e (Nat.eq_of_beq_eq_true h)
   rw [e'];rfl
theorem qe {α:Type} (l:α→List (Nat × Value)) (I:α→World→Prop) (μ:α→Nat) {body:Code} {Q:Exit→(Nat→Value)→World→Prop} {ρ:Nat→Value} {w:World} (x0:α)
  (h0:qnz (l x0) ρ) (hI:I x0 w)
  (hr:∀ x w ρ',I x w→qfd P n body (seqQ (fun ρ'' w'=>∃ x',qnz (l x') ρ''∧I x' w'∧μ x'<μ x) Q) (over (l x) ρ') w):LoopV P n body Q ρ w:=by
 refine ⟨fun a ha=>?_⟩;have key:∀ m x,μ x=m→∀ ρ a w,qnz (l x) ρ→St n ρ a→I x w→∀ (b:Frame) (k:List Item) (cs:List Frame),
   ∃ e a' w',lift n Q e a' w'∧Arrives P (lone (b.at a (.code body::.inLoop body::k)) cs w) b k cs e a' w':=by
  intro m
  induction m using Nat.strongRecOn with
  | _ m ih=>
   intro x hm ρ a w hag hst hI b k cs;have h1:=hr x w ρ hI;rw [qo3 hag] at h1;obtain ⟨e,a₁,w₁,hq,harr⟩:=ql8 body _ _ _ h1 a hst b (.inLoop body::k) cs;obtain ⟨ρ₁,hst₁,hq⟩:=hq;cases e with
   | normal=>
    obtain ⟨x',hag',hI',hlt⟩:=hq;obtain ⟨e₂,a₂,w₂,hq₂,harr₂⟩:=ih (μ x') (hm ▸ hlt) x' rfl ρ₁ a₁ w₁ hag' hst₁ hI' b k cs;exact ⟨e₂,a₂,w₂,hq₂,.of_steps (Steps.trans harr (.one step_inLoop)) harr₂⟩
   | exit id=>exact ⟨_,a₁,w₁,⟨ρ₁,hst₁,hq⟩,.pass (x:=.inLoop body) rfl (fun _ _=>.inl Js) harr⟩
   | goto l=>exact ⟨_,a₁,w₁,⟨ρ₁,hst₁,hq⟩,.pass (x:=.inLoop body) rfl (fun _ _=>.inl Js) harr⟩
   | ret=>exact ⟨_,a₁,w₁,⟨ρ₁,hst₁,hq⟩,.pass (x:=.inLoop body) rfl (fun _ _=>.inl Js) harr⟩
   | panic ch=>exact ⟨_,a₁,w₁,⟨ρ₁,hst₁,hq⟩,.pass (x:=.inLoop body) rfl (fun _ _=>.inl Js) harr⟩
   | outgrown=>exact ⟨_,a₁,w₁,⟨ρ₁,hst₁,hq⟩,.pass (x:=.inLoop body) rfl (fun _ _=>.inl Js) harr⟩
 intro b k cs;obtain ⟨e,a',w',hq,harr⟩:=key _ x0 rfl ρ a w h0 ha hI b k cs;exact ⟨e,a',w',hq,.of_steps (.one step_loop) harr⟩
def ini:List Value→Nat→Value
 | [],_=>undef
 | v::_,0=>v
 | _::l,t+1=>ini l t
theorem q34 (l:List Value) (t:Nat):ini l t=(l[t]?).getD undef:=by
 induction l generalizing t with
 | nil=>simp [ini]
 | cons v l ih=>cases t<;>simp [ini,ih]
def qgv:List ResultVar→Option (List Operand)
 | []=>some []
 | .tmp t::l=>match qgv l with
  | some r=>some (.tmp t::r)
  | none=>none
 | .cell _ _::_=>none
def resV (rs:Array ResultVar) (ρ:Nat→Value) (w:World) (fn:Func) (R:Value→World→Prop) (P:Program) (n:Nat):Prop:=
 match rs.toList with
 | [.tmp t]=>qhi (ρ t) fun v=>R v w
 | l=>match qgv l with
  | some ts=>qbx (evs ρ ts) fun vs=>R (.tuple vs.toArray) w
  | none=>∀ a,St n ρ a→∃ v,(results fn a.tmps).run P w=.ok v w∧R v w
def q43 (P:Program) (n:Nat) (fn:Func) (R:Value→World→Prop):Exit→(Nat→Value)→World→Prop
 | .normal,ρ,w=>resV fn.results ρ w fn R P n
 | .ret,ρ,w=>resV fn.results ρ w fn R P n
 | _,_,_=>False
def resF (tmps:Array Value):ResultVar→Sem Value
 | .tmp t=>pure (tmps.getD t undef)
 | .cell a t=>do loadVar t (← asAddr (tmps.getD a undef))
theorem qpl (tmps:Array Value) (w:World) (ρ:Nat→Value) (hρ:∀ t,tmps.getD t undef=ρ t):∀ (l:List ResultVar) (ts:List Operand),qgv l=some ts→
  (l.mapM (resF tmps)).run P w=.ok (evs ρ ts) w:=by
 intro l
 induction l with
 | nil=>intro ts h;cases h;simp [evs]
 | cons x l ih=>
  intro ts h;cases x with
  | cell a t=>cases h
  | tmp t=>
   simp only [qgv] at h;cases e:qgv l with
   | none=>rw [e] at h;cases h
   | some r=>
    rw [e] at h;cases h;simp [List.mapM_cons,ih r e,evs,ev,resF,hρ]
theorem qre {rs:Array ResultVar} {ρ:Nat→Value} {w:World} {fn:Func} {R:Value→World→Prop} (hrs:fn.results=rs) {a:Act} (ha:St n ρ a) (h:resV rs ρ w fn R P n) :
  ∃ v,(results fn a.tmps).run P w=.ok v w∧R v w:=by
 unfold resV at h;have hm:∀ ts,qgv rs.toList=some ts→(results fn a.tmps).run P w=.ok (if h:(evs ρ ts).toArray.size=1 then (evs ρ ts).toArray[0] else .tuple (evs ρ ts).toArray) w:=by
  intro ts hts;have:=qpl (P:=P) a.tmps w ρ ha.get rs.toList ts hts;have e:results fn a.tmps=(do let vs ← fn.results.mapM (resF a.tmps);pure (if h:vs.size=1 then vs[0] else .tuple vs)):=by
   unfold results;congr 1
  rw [e,hrs,Array.mapM_eq_mapM_toList];simp [this]
 split at h
 ·rename_i t hl
  rw [qa1] at h;refine ⟨ρ t,?_,h⟩;rw [hm [.tmp t] (by rw [hl];rfl)];simp [evs,ev]
 ·rename_i l hl
  split at h
  ·rename_i ts hts
   rw [qag] at h;refine ⟨_,?_,h⟩;rw [hm ts hts];have hne:¬ (evs ρ ts).toArray.size=1:=by
    intro h1;rw [qc0] at h1;simp at h1
    match rs.toList,hts,hl with
    | [],hts,_=>cases hts;cases h1
    | [.tmp t],_,hl=>exact hl t rfl
    | .tmp t::y::r,hts,_=>
     simp only [qgv] at hts
     revert hts
     cases y with
     | cell a t=>intro hts;cases hts
     | tmp u=>
      simp only [qgv];cases qgv r<;>intro hts<;>cases hts
      simp at h1
    | .cell a t::r,hts,_=>cases hts
   rw [dif_neg hne]
  ·exact h a ha
theorem Gv.mono {f:FuncId} {vs:List Value} {w:World} {R R':Value→World→Prop} (h:Gv P f vs w R) (hr:∀ v w',R v w'→R' v w'):Gv P f vs w R':=
 ⟨h.1,h.2.mono fun _ _ ⟨v,he,hv⟩=>⟨v,he,hr _ _ hv⟩⟩
theorem CallV.of {f:FuncId} {vs:List Value} {w:World} {R K:Value→World→Prop} (h:Gv P f vs w R) (hr:∀ v w',R v w'→K v w'):CallV P f vs w K:=
 ⟨.inl (h.mono hr)⟩
theorem gv {f:FuncId} {fn:Func} {c:Code} {vs:List Value} {w:World} {R:Value→World→Prop} (he:qei P f=true) (hf:P.funcs[f]?=some fn) (hb:fn.body=some c) (hn:fn.ntmps=n)
  (hl:Nat.ble vs.length n=true) (h:qfd P n c (q43 P n fn R) (ini vs) w):Gv P f vs w R:=by
 have hl':vs.length≤n:=by simpa using hl
 refine ⟨he,calls_of_wp hf hb (wp_mono (ql8 c _ _ _ h _ ⟨?_,?_,rfl⟩) fun e a w hq=>?_)⟩
 ·simp [hn];omega
 ·intro t;rw [q34,Array.getD_eq_getD_getElem?];simp only [Array.getElem?_append,List.size_toArray,hn]
  split
  ·simp
  ·rename_i ht
   rw [List.getElem?_eq_none Oo];simp only [Array.getElem?_replicate]
   split<;>rfl
 ·obtain ⟨ρ,hst,hq⟩:=hq;cases e with
  | normal=>
   obtain ⟨v,h1,h2⟩:=qre rfl hst hq;exact ⟨hst.defers,v,h1,v,rfl,h2⟩
  | ret=>
   obtain ⟨v,h1,h2⟩:=qre rfl hst hq;exact ⟨hst.defers,v,h1,v,rfl,h2⟩
  | exit i=>exact hq.elim
  | goto i=>exact hq.elim
  | panic i=>exact hq.elim
  | outgrown=>exact hq.elim
end
theorem Wit.conv {k:IntKind} {n:Int} {K:Int→Prop} (h:InR k n) (hk:K n):Wit (fun r=>k.wrap n=r) K:=⟨n,h.wrap,hk⟩
theorem Wit.eq {α:Type} {x y:α} {K:α→Prop} (h:x=y) (hk:K y):Wit (fun r=>x=r) K:=⟨y,h,hk⟩
theorem Wit.shl {k:IntKind} {a b m r:Int} {K:Int→Prop} (h0:0≤b∧b<k.bits) (hm:(2:Int) ^ b.toNat=m) (hr:a*m=r) (hi:InR k r) (hk:K r) :
  Wit (fun r=>0≤b∧b<k.bits∧k.wrap (a*2 ^ b.toNat)=r) K:=⟨r,⟨h0.1,h0.2,by rw [hm,hr];exact hi.wrap⟩,hk⟩
theorem Wit.shr {k:IntKind} {a b m r:Int} {K:Int→Prop} (h0:0≤b∧b<k.bits) (hm:(2:Int) ^ b.toNat=m) (hr:a/m=r) (hk:K r) :
  Wit (fun r=>0≤b∧b<k.bits∧a/2 ^ b.toNat=r) K:=⟨r,⟨h0.1,h0.2,by rw [hm,hr]⟩,hk⟩
theorem IdxV.nat {j n:Nat} {K:Nat→Prop} (h:j<n) (hk:K j):IdxV (j:Int) n K:=⟨j,rfl,h,hk⟩
theorem IdxV.at_ {i:Int} (j:Nat) {n:Nat} {K:Nat→Prop} (e:i=(j:Int)) (h:j<n) (hk:K j):IdxV i n K:=⟨j,e,h,hk⟩
theorem SliceS.at_ {s:ByteArray} {lo hi:Option Value} {K:Value→Prop} (l h:Nat) (h1:bnd lo 0 l) (h2:bnd hi s.size h) (h3:l≤h) (h4:h≤s.size) (hk:K (.string (s.extract l h))) :
  SliceS s lo hi K:=⟨l,h,h1,h2,h3,h4,hk⟩
theorem qgh (k:IntKind) (m:Nat) (hm:m<2 ^ k.bits):(BitVec.ofInt k.bits (m:Int)).toNat=m:=by
 simp;exact Nat.mod_eq_of_lt hm
theorem InR.lt {k:IntKind} {m:Nat} (h:InR k m):m<2 ^ k.bits:=by
 cases k<;>obtain ⟨h1,h2⟩:=h<;>simp [IntKind.bits]<;>omega
theorem InR.le {k:IntKind} {m n:Nat} (h:InR k n) (hm:m≤n):InR k m:=by
 cases k<;>obtain ⟨h1,h2⟩:=h<;>exact ⟨by omega,by omega⟩
theorem ql2 {k:IntKind} {m n:Nat} (hm:InR k m) (hn:InR k n):qdd .and k m n=((m &&&n:Nat):Int):=by
 simp only [qdd];rw [BitVec.toNat_and,qgh k m (InR.lt hm),qgh k n (InR.lt hn)];exact InR.wrap (InR.le hm Nat.and_le_left)
theorem qqe {k:IntKind} {m n:Nat} (hm:InR k m) (hn:InR k n) (h:InR k ((m |||n:Nat):Int)):qdd .or k m n=((m |||n:Nat):Int):=by
 simp only [qdd];rw [BitVec.toNat_or,qgh k m (InR.lt hm),qgh k n (InR.lt hn)];exact InR.wrap h
theorem qbc {k:IntKind} {m:Nat} (i:Nat) {c:Int} (hc:c=((2 ^ i-1:Nat):Int)) (hm:InR k m) (hn:InR k c):qdd .and k m c=((m%2 ^ i:Nat):Int):=by
 subst hc;rw [ql2 hm hn,Nat.and_two_pow_sub_one_eq_mod]
theorem q1n {k:IntKind} {a b:Nat} (i:Nat) (ha:InR k ((a*2 ^ i+b:Nat):Int)) (hb:b<2 ^ i):qdd .or k ((a*2 ^ i:Nat):Int) b=((a*2 ^ i+b:Nat):Int):=by
 have e:(a*2 ^ i |||b)=a*2 ^ i+b:=by rw [Nat.mul_comm];exact (Nat.two_pow_add_eq_or_of_lt hb a).symm
 rw [qqe (InR.le ha Oo) (InR.le ha Oo) (by rw [e];exact ha),e]
end V
namespace V
def Ext (w w':World):Prop:=Below w.heap.size w w'
theorem Ext.refl (w:World):Ext w w:=Below.refl _ _
theorem Ext.trans {a b c:World} (h:Ext a b) (k:Ext b c):Ext a c:=Below.trans h (Below.mono k h.size)
theorem Ext.alloc {a w:World} (h:Ext a w) (o:Obj):Ext a (w.alloc o):=Below.alloc h h.size o
theorem Ext.get {w w':World} (h:Ext w w') {b:Nat} {o:Obj} (hb:w.heap[b]?=some o):w'.heap[b]?=some o:=by
 rw [h.block b]
 ·exact hb
 ·rcases Nat.lt_or_ge b w.heap.size with h|h
  ·exact h
  ·rw [Array.getElem?_eq_none h] at hb;cases hb
theorem Ext.cell {w w':World} (h:Ext w w') {a:Addr} {v:Value} (hv:w.cell? a=some v):w'.cell? a=some v:=by
 have hlt:a.block<w.heap.size:=by
  rcases Nat.lt_or_ge a.block w.heap.size with h|h
  ·exact h
  ·unfold World.cell? at hv;rw [Array.getElem?_eq_none h] at hv;cases hv
 rw [Below.cell h hlt];exact hv
theorem Ext.drew {a w:World} (h:Ext a w):Ext a w.drew:=Below.drew h
theorem qhy {w:World} {r b:Nat} {o:Obj} (h:b≠r):(setO w r o).heap[b]?=w.heap[b]?:=by
 simp only [setO];rw [Array.getElem?_setIfInBounds_ne (fun e=>h e.symm)]
theorem qpr {w:World} {r:Nat} {o o':Obj} (h:w.heap[r]?=some o'):(setO w r o).heap[r]?=some o:=by
 have hlt:r<w.heap.size:=by
  rcases Nat.lt_or_ge r w.heap.size with h' | h'
  ·exact h'
  ·rw [Array.getElem?_eq_none h'] at h;cases h
 simp [setO,hlt]
theorem Ext.setO {a w:World} (h:Ext a w) {r:Nat} (hr:a.heap.size≤r) (o:Obj):Ext a (setO w r o):=
 Below.trans h ⟨rfl,rfl,rfl,by simp [V.setO],fun k hk=>qhy Oo⟩
theorem Ext.setCell {a w:World} (h:Ext a w) {p:Addr} (hr:a.heap.size≤p.block) (v:Value):Ext a (w.setCell p v):=Below.setCell h hr v
structure Mem (w0 w:World) (L:List (Nat × Obj)):Prop where
 ext:Ext w0 w
 own:∀ x∈L,w0.heap.size≤x.1∧w.heap[x.1]?=some x.2
 nodup:(L.map (·.1)).Nodup
section
variable {w0 w w':World} {L:List (Nat × Obj)}
theorem Mem.nil (w:World):Mem w w []:=⟨Ext.refl w,fun _ h=>by simp at h,by simp⟩
theorem Mem.lt (h:Mem w0 w L) {b:Nat} {o:Obj} (hx:(b,o)∈L):b<w.heap.size:=by
 have:=(h.own _ hx).2
 rcases Nat.lt_or_ge b w.heap.size with h' | h'
 ·exact h'
 ·rw [Array.getElem?_eq_none h'] at this;cases this
theorem Mem.get (h:Mem w0 w L) {b:Nat} {o:Obj} (hx:(b,o)∈L):w.heap[b]?=some o:=(h.own _ hx).2
theorem Mem.new (h:Mem w0 w L) {b:Nat} {o:Obj} (hb:b=w.heap.size) (hw:w'=w.alloc o):Mem w0 w' ((b,o)::L):=by
 subst hb hw;refine ⟨h.ext.alloc o,?_,?_⟩
 ·intro x hx
  rcases List.mem_cons.1 hx with rfl|hx
  ·exact ⟨h.ext.size,heap_alloc_new w _⟩
  ·exact ⟨(h.own x hx).1,by rw [Below.heap_alloc _ _ _ (h.lt (b:=x.1) (o:=x.2) hx)];exact (h.own x hx).2⟩
 ·simp only [List.map_cons,List.nodup_cons];refine ⟨fun hm=>?_,h.nodup⟩;obtain ⟨x,hx,e⟩:=List.mem_map.1 hm;have:=h.lt (b:=x.1) (o:=x.2) hx;omega
theorem Mem.call (h:Mem w0 w L) (he:Ext w w'):Mem w0 w' L:=
 ⟨h.ext.trans he,fun x hx=>⟨(h.own x hx).1,he.get (h.own x hx).2⟩,h.nodup⟩
theorem Mem.drew (h:Mem w0 w L):Mem w0 w.drew L:=⟨h.ext.drew,h.own,h.nodup⟩
theorem Mem.set (h:Mem w0 w L) {i b:Nat} {o o':Obj} (hi:L[i]?=some (b,o)) (hs:Ext w0 w') (hb:w'.heap[b]?=some o')
  (ho:∀ c,c≠b→w'.heap[c]?=w.heap[c]?):Mem w0 w' (L.set i (b,o')):=by
 have hil:i<L.length:=by
  rcases Nat.lt_or_ge i L.length with h' | h'
  ·exact h'
  ·rw [List.getElem?_eq_none h'] at hi;cases hi
 have hib:L[i]=(b,o):=by rw [List.getElem?_eq_getElem hil] at hi;exact Option.some.inj hi
 have hn:((L.set i (b,o')).map (·.1))=L.map (·.1):=by
  rw [List.map_set];have:(L.map (·.1))[i]?=some b:=by rw [List.getElem?_map,hi];rfl
  apply List.ext_getElem?;intro j;rw [List.getElem?_set]
  split
  ·rename_i e;subst e
   rw [this];simp [hil]
  ·rfl
 refine ⟨hs,?_,by rw [hn];exact h.nodup⟩;intro x hx
 rcases List.mem_or_eq_of_mem_set hx with hx' | rfl
 ·refine ⟨(h.own x hx').1,?_⟩
  by_cases e:x.1=b
  ·obtain ⟨j,hj,hje⟩:=List.mem_iff_getElem.1 hx
   by_cases hij:j=i
   ·subst hij;rw [List.getElem_set_self] at hje;rw [← hje];exact hb
   ·have h1:(L.map (·.1))[j]'(by simpa using hj)=b:=by
     have:(L.set i (b,o'))[j]=L[j]'(by simpa using hj):=List.getElem_set_ne (fun e=>hij e.symm) _;rw [List.getElem_map,← this,hje,e]
    have h2:(L.map (·.1))[i]'(by simpa using hil)=b:=by rw [List.getElem_map,hib]
    have:=(List.getElem_inj h.nodup).1 (h1.trans h2.symm);exact absurd this hij
  ·rw [ho _ e];exact (h.own x hx').2
 ·exact ⟨(h.own (b,o) (hib ▸ List.getElem_mem hil)).1,hb⟩
theorem Mem.setO (h:Mem w0 w L) {i b:Nat} {o:Obj} (o':Obj) (hi:L[i]?=some (b,o)) (hw:w'=setO w b o'):Mem w0 w' (L.set i (b,o')):=by
 subst hw;have hm:(b,o)∈L:=List.mem_of_getElem? hi;exact h.set hi (h.ext.setO (h.own _ hm).1 o') (qpr (h.get hm)) (fun c hc=>qhy hc)
theorem heap_setCell {w:World} {b off:Nat} {v:Value} {cs:Array Value} {t:TypeId} {fr:Nat × Nat} (h:w.heap[b]?=some (.cells cs t fr)) :
  (w.setCell ⟨b,off,none⟩ v).heap[b]?=some (.cells (cs.setIfInBounds off v) t fr):=by
 simp [World.setCell,Array.getElem?_modify,h]
theorem Mem.setCell (h:Mem w0 w L) {i b off:Nat} {v:Value} {cs:Array Value} {t:TypeId} {fr:Nat × Nat} (hi:L[i]?=some (b,.cells cs t fr)) (hw:w'=w.setCell ⟨b,off,none⟩ v) :
  Mem w0 w' (L.set i (b,.cells (cs.setIfInBounds off v) t fr)):=by
 subst hw;have hm:(b,Obj.cells cs t fr)∈L:=List.mem_of_getElem? hi;exact h.set hi (h.ext.setCell (h.own _ hm).1 v) (heap_setCell (h.get hm)) (fun c hc=>Below.heap_setCell _ _ _ _ hc)
theorem Mem.sub {L':List (Nat × Obj)} (h:Mem w0 w L) (hs:L'.Sublist L):Mem w0 w L':=
 ⟨h.ext,fun x hx=>h.own x (hs.subset hx),(hs.map _).nodup h.nodup⟩
theorem Mem.perm {L':List (Nat × Obj)} (h:Mem w0 w L) (hs:L'.Perm L):Mem w0 w L':=
 ⟨h.ext,fun x hx=>h.own x (hs.mem_iff.1 hx),(hs.map _).nodup_iff.2 h.nodup⟩
end
theorem qa {w:World} {b off:Nat} {cs:Array Value} {t:TypeId} {fr:Nat × Nat} (h:w.heap[b]?=some (.cells cs t fr)):w.cell? ⟨b,off,none⟩=cs[off]?:=by
 simp [World.cell?,h]
theorem LoadV.own {w:World} {b off:Nat} {cs:Array Value} {t:TypeId} {fr:Nat × Nat} {v:Value} {K:Value→Prop} (h:w.heap[b]?=some (.cells cs t fr)) (hv:cs[off]?=some v) (hk:K v) :
  LoadV w b off K:=⟨v,by rw [qa h];exact hv,hk⟩
theorem LoadV.of {w:World} {b off:Nat} {v:Value} {K:Value→Prop} (h:w.cell? ⟨b,off,none⟩=some v) (hk:K v):LoadV w b off K:=⟨v,h,hk⟩
theorem StoreV.own {w:World} {b off:Nat} {cs:Array Value} {t:TypeId} {v:Value} {K:World→Prop} (h:w.heap[b]?=some (.cells cs t (0,0))) (ho:off<cs.size) (h1:qbz v=true)
  (hk:∀ w',w'=w.setCell ⟨b,off,none⟩ v→K w'):StoreV w b off v K:=by
 refine ⟨⟨cs[off],?_⟩,?_,h1,hk _ rfl⟩
 ·rw [qa h];exact Array.getElem?_eq_getElem ho
 ·simp [World.frozen?,h]
theorem NewV.mem {w0 w:World} {L:List (Nat × Obj)} {o:Obj} {K:Nat→World→Prop} (h:Mem w0 w L) (hk:∀ b w',Mem w0 w' ((b,o)::L)→K b w'):NewV w o K:=
 ⟨fun b w' hb hw=>hk b w' (h.new hb hw)⟩
theorem NextS.mem {w0 w:World} {L:List (Nat × Obj)} {r pos:Nat} {s:ByteArray} {K:Value→World→Prop} (h:Mem w0 w L) {i:Nat} (hi:L[i]?=some (r,.stringIter s pos))
  (h1:pos<s.size→∀ w',Mem w0 w' (L.set i (r,.stringIter s (pos+(Utf8.decode s pos).2)))→K (.tuple #[.bool true,.int .i64 pos,.int .i32 (Utf8.decode s pos).1]) w')
  (h2:¬ pos<s.size→K (.tuple #[.bool false]) w):NextS w r K:=
 ⟨s,pos,h.get (List.mem_of_getElem? hi),fun hp w' hw=>h1 hp w' (h.setO _ hi hw),h2⟩
theorem LoadV.mem {w0 w:World} {L:List (Nat × Obj)} {i b off:Nat} {cs:Array Value} {t:TypeId} {fr:Nat × Nat} {v:Value} {K:Value→Prop} (h:Mem w0 w L) (hi:L[i]?=some (b,.cells cs t fr))
  (hv:cs[off]?=some v) (hk:K v):LoadV w b off K:=LoadV.own (h.get (List.mem_of_getElem? hi)) hv hk
theorem LoadA.mem {w0 w:World} {L:List (Nat × Obj)} {i b size:Nat} {cs:Array Value} {t:TypeId} {fr:Nat × Nat} {K:List Value→Prop} (h:Mem w0 w L) (hi:L[i]?=some (b,.cells cs t fr))
  (hs:cs.toList.length=size) (hk:K cs.toList):LoadA w b 0 size K:=
 ⟨cs.toList,hs,fun j _=>by rw [qa (h.get (List.mem_of_getElem? hi)),Nat.zero_add];simp,hk⟩
theorem StoreV.mem {w0 w:World} {L:List (Nat × Obj)} {i b off:Nat} {cs:Array Value} {t:TypeId} {v:Value} {K:World→Prop} (h:Mem w0 w L) (hi:L[i]?=some (b,.cells cs t (0,0)))
  (ho:off<cs.size) (h1:qbz v=true) (hk:∀ w',Mem w0 w' (L.set i (b,.cells (cs.setIfInBounds off v) t (0,0)))→K w'):StoreV w b off v K:=
 StoreV.own (h.get (List.mem_of_getElem? hi)) ho h1 fun w' hw=>hk w' (h.setCell hi hw)
theorem CellsAt.ext {w w':World} {b off:Nat} {vs:List Value} (h:CellsAt w b off vs) (he:Ext w w'):CellsAt w' b off vs:=fun k v hv=>he.cell (h k v hv)
theorem LoadV.cells {w:World} {b off:Nat} {vs:List Value} {v:Value} {K:Value→Prop} (h:CellsAt w b off vs) (k:Nat) (hv:vs[k]?=some v) (hk:K v):LoadV w b (off+k) K:=⟨v,h k v hv,hk⟩
theorem LoadV.cell0 {w:World} {b off:Nat} {v:Value} {vs:List Value} {K:Value→Prop} (h:CellsAt w b off (v::vs)) (hk:K v):LoadV w b off K:=⟨v,h 0 v rfl,hk⟩
theorem LoadA.cells {w:World} {b off size:Nat} {vs:List Value} {K:List Value→Prop} (h:CellsAt w b off vs) (hs:vs.length=size) (hk:K vs):LoadA w b off size K:=
 ⟨vs,hs,fun i hi=>by
  have hl:i<vs.length:=by omega
  rw [h i vs[i] (List.getElem?_eq_getElem hl),List.getElem?_eq_getElem hl],hk⟩
structure SlAt {α:Type} (enc:α→List Value) (size:Nat) (w:World) (A:Option Addr) (l:List α):Prop where
 at_:l≠[]→∃ b off,A=some ⟨b,off,none⟩∧∀ (j:Nat) x,l[j]?=some x→CellsAt w b (off+j*size) (enc x)
theorem SlAt.ext {α:Type} {enc:α→List Value} {size:Nat} {w w':World} {A:Option Addr} {l:List α} (h:SlAt enc size w A l) (he:Ext w w'):SlAt enc size w' A l:=
 ⟨fun hn=>let ⟨b,off,h1,h2⟩:=h.at_ hn;⟨b,off,h1,fun j x hx=>(h2 j x hx).ext he⟩⟩
theorem ElemV.sl {α:Type} {enc:α→List Value} {size len:Nat} {w:World} {A:Option Addr} {l:List α} {i:Int} {K:Value→Prop} (h:SlAt enc size w A l) (hl:l.length=len) (j:Nat) (e:i=(j:Int)) (hj:j<len)
  (hk:∀ b off,CellsAt w b off (enc (l[j]'(hl ▸ hj)))→K (.pointer (some ⟨b,off,none⟩))):ElemV A i len size K:=by
 obtain ⟨b,off,h1,h2⟩:=h.at_ (by intro e;subst e;simp at hl;omega);exact ⟨b,off,j,h1,e,hj,hk _ _ (h2 j _ (List.getElem?_eq_getElem (hl ▸ hj)))⟩
theorem ElemV.own1 {b len size:Nat} {i:Int} {K:Value→Prop} (j:Nat) (e:i=(j:Int)) (hj:j<len) (hk:K (.pointer (some ⟨b,j,none⟩))) (hs:size=1:=by rfl):ElemV (some ⟨b,0,none⟩) i len size K:=by
 subst hs;exact ⟨b,0,j,rfl,e,hj,by rw [Nat.mul_one,Nat.zero_add];exact hk⟩
def zeS (s:ByteArray):List Value:=[.string s]
def zeI (n:Int):List Value:=[.int .i64 n]
theorem qcq {w:World} {b:Nat} {cur cs:Array Value} {t:TypeId} (h:w.heap[b]?=some (.cells cur t (0,0))):(w.setRow b cs).heap[b]?=some (.cells cs t (0,0)):=
 setRow_heap w b cur cs t _ h
theorem qu {w:World} {b c:Nat} {cs:Array Value} (h:c≠b):(w.setRow b cs).heap[c]?=w.heap[c]?:=by
 simp only [World.setRow,Array.getElem?_modify];rw [if_neg (fun e=>h e.symm)]
theorem StoreA.mem {P:Program} {w0 w:World} {L:List (Nat × Obj)} {i b off:Nat} {cur:Array Value} {t:TypeId} {vs:List Value} {K:World→Prop} (h:Mem w0 w L)
  (hi:L[i]?=some (b,.cells cur t (0,0))) (hl:off+vs.length≤cur.size) (h1:∀ v∈vs,v.oneCell'=true)
  (hk:∀ w',Mem w0 w' (L.set i (b,.cells (cur.toList.take off++vs++cur.toList.drop (off+vs.length)).toArray t (0,0)))→K w'):StoreA P w b off vs K:=by
 have hm:(b,Obj.cells cur t (0,0))∈L:=List.mem_of_getElem? hi;have hg:=h.get hm;have hr:=run_storeCells_at P b off t vs 0 cur w hg (by simpa using hl) h1;simp only [Nat.add_zero] at hr;refine ⟨_,hr,hk _ ?_⟩;refine h.set hi ?_ (qcq hg) (fun c hc=>qu hc);exact Below.trans h.ext ⟨rfl,rfl,rfl,by simp [World.setRow],fun k hk=>qu (by have:=(h.own _ hm).1;simp only at this;omega)⟩
structure Rw (w0 w:World) (v:Value) (e:TypeId) (size n:Nat) (xs:List Value) (L:List (Nat × Obj)):Prop where
 mem:Mem w0 w L
 own:w.ownsRow w0.heap.size e size v n xs
 apart:∀ x∈L,v.ownBlock≠some x.1
section
variable {P:Program} {w0 w w':World} {v:Value} {e:TypeId} {size n:Nat} {xs:List Value} {L:List (Nat × Obj)}
theorem Rw.nil (h:Mem w0 w L):Rw w0 w (.slice none 0 0) e size 0 [] L:=⟨h,World.ownsRow_nil _ _ _ _,fun _ _=>by simp [Value.ownBlock]⟩
theorem Rw.slice (h:Rw w0 w v e size n xs L):∃ A c,v=.slice A n c:=by
 rcases h.own.2 with ⟨rfl,rfl⟩|⟨g,cap,cur,rfl,_⟩
 ·exact ⟨_,_,rfl⟩
 ·exact ⟨_,_,rfl⟩
theorem Rw.len (h:Rw w0 w v e size n xs L):xs.length=n*size:=h.own.1
theorem Rw.grown {row:Option Nat} (h:Rw w0 w v e size n xs L) (hg:w.grownBy w' row) (hr:∀ k,row=some k→w0.heap.size≤k∧∀ x∈L,x.1≠k):Mem w0 w' L:=by
 refine ⟨Below.grown h.mem.ext hg h.mem.ext.size (fun k hk=>(hr k hk).1),fun x hx=>⟨(h.mem.own x hx).1,?_⟩,h.mem.nodup⟩;rw [hg.block x.1 (h.mem.lt hx) (fun e=>(hr x.1 e.symm).2 x hx rfl)];exact (h.mem.own x hx).2
theorem Rw.call (h:Rw w0 w v e size n xs L) (he:Ext w w'):Rw w0 w' v e size n xs L:=by
 refine ⟨h.mem.call he,h.own.kept (row:=none) ⟨he.os,he.tape,he.output,he.size,fun k hk _=>he.block k hk⟩ ?_,h.apart⟩;cases v.ownBlock<;>simp
theorem Rw.newBlk (h:Rw w0 w v e size n xs L) {b:Nat} {o:Obj} (hb:b=w.heap.size) (hw:w'=w.alloc o):Rw w0 w' v e size n xs ((b,o)::L):=by
 have hx:Ext w w':=by rw [hw];exact (Ext.refl w).alloc o
 refine ⟨h.mem.new hb hw,(h.call hx).own,fun x hx=>?_⟩
 rcases List.mem_cons.1 hx with rfl|hx
 ·intro e;have:=h.own.lt _ e;simp only at this;omega
 ·exact h.apart x hx
theorem AppV.rw {t ty:TypeId} {i:TypeInfo} {z:Value} {A:Option Addr} {m c:Nat} {news:List Value} {K:Value→World→Prop} (ht:P.underlying t=some (.slice e)) (hi:P.info? e=some i) (hz:i.zero=some z)
  (hsize:i.size=size) (hzs:z.cells.size=size) (hsz:0<size) (h:Rw w0 w v e size n xs L) (hl:news.length=m*size)
  (hA:news≠[]→∃ b off,A=some ⟨b,off,none⟩∧CellsAt w b off news) (h1:∀ u∈news,u.oneCell'=true) (hb:(n+m)*i.bytes≤140737488355328) (h63:n+m≤140737488355328)
  (hk:∀ A' c' w',Rw w0 w' (.slice A' (n+m) c') e size (n+m) (xs++news) L→K (.slice A' (n+m) c') w'):AppV P #[t,t] ty v (.slice A m c) w K:=by
 cases A with
 | none=>
  have hn:news=[]:=by
   cases hnn:news with
   | nil=>rfl
   | cons x r=>obtain ⟨b,off,h0,_⟩:=hA (by rw [hnn];simp);cases h0
  subst hn;have hm:m=0:=by
   rcases Nat.mul_eq_zero.1 (show m*size=0 by simpa using hl.symm) with h|h
   ·exact h
   ·omega
  subst hm;obtain ⟨A',c',rfl⟩:=h.slice;refine ⟨_,w,?_,hk A' c' w (by simpa using h)⟩
  rcases h.own.2 with ⟨e1,e2⟩|⟨g,cap,cur,e1,_,_,hnc,_⟩
  ·cases e1;simp [Builtin.append_,run_underlying ht,sizeOf,typeInfo,hi,Builtin.lenOf,Builtin.firstCells]
  ·cases e1;simp [Builtin.append_,run_underlying ht,sizeOf,typeInfo,hi,Builtin.lenOf,Builtin.firstCells,hnc,storeCells]
 | some a=>
  have hcells:∀ j u,news[j]?=some u→w.cell? (a.add j)=some u:=by
   intro j u hu;obtain ⟨b,off,h0,h1⟩:=hA (by intro e;rw [e] at hu;simp at hu);cases h0;rw [qad];exact h1 j u hu
  obtain ⟨v',w',hrun,h2,h3,_,h5⟩:=run_append_own_at (P:=P) w w0.heap.size t ty e i z size i.bytes ht hi hz hsize rfl hzs hsz v n xs h.own a m c news hl hcells h1 (by simp only [maxLen];omega) hb h.mem.ext.size;have hR:Rw w0 w' v' e size (n+m) (xs++news) L:=by
   refine ⟨h.grown h3 (fun k hk=>⟨(h.own.lt k hk).1,fun x hx e=>h.apart x hx (by rw [hk,e])⟩),h2,fun x hx=>?_⟩
   rcases h5 with h5|h5<;>rw [h5]
   ·exact h.apart x hx
   ·intro e;have:=h.mem.lt (b:=x.1) (o:=x.2) hx;simp only [Option.some.injEq] at e;omega
  obtain ⟨A',c',rfl⟩:=hR.slice;exact ⟨_,w',hrun,hk A' c' w' hR⟩
end
end V
namespace V
def qxa (e:Edge):Bool:=
 match e.ground with
 | .textOnly _ | .gcOnly _=>false
 | _=>true
theorem qaj (e:Edge):Region.binds .any e=qxa e:=by
 unfold Region.binds qxa;cases e.ground<;>rfl
def qld:List Edge→List Nat
 | []=>[]
 | e::l=>bif qxa e then e.on::qld l else qld l
def qk (o:Oper):List Nat:=qld o.after.toList
theorem qv {l:List Edge} {k:Nat}:k∈qld l↔∃ e∈l,qxa e=true∧e.on=k:=by
 induction l with
 | nil=>simp [qld]
 | cons e l ih=>
  simp only [qld];cases hb:qxa e
  ·simp only [cond_false,ih,List.mem_cons]
   constructor
   ·rintro ⟨e',h1,h2,h3⟩;exact ⟨e',.inr h1,h2,h3⟩
   ·rintro ⟨e',rfl|h1,h2,h3⟩
    ·rw [hb] at h2;cases h2
    ·exact ⟨e',h1,h2,h3⟩
  ·simp only [cond_true,List.mem_cons,ih]
   constructor
   ·rintro (rfl|⟨e',h1,h2,h3⟩)
    ·exact ⟨e,.inl rfl,hb,rfl⟩
    ·exact ⟨e',.inr h1,h2,h3⟩
   ·rintro ⟨e',rfl|h1,h2,h3⟩
    ·exact .inl h3.symm
    ·exact .inr ⟨e',h1,h2,h3⟩
structure Ent where
 d:Option Tmp
 v:Option Value
 φ:Value→World→Prop
def allv (es:List Ent):List Nat→(Nat→Value)→World→((Nat→Value)→Prop)→Prop
 | [],ρ,_,K=>K ρ
 | k::ks,ρ,w,K=>
  match getL es k with
  | some ⟨some d,none,φ⟩=>∀ v,φ v w→allv es ks (upd ρ d v) w K
  | _=>allv es ks ρ w K
def frS (es:List Ent) (vals:Nat→Value) (k:Nat) (ρ:Nat→Value):Nat→Value:=
 match getL es k with
 | some ⟨some d,none,_⟩=>upd ρ d (vals k)
 | _=>ρ
def fr (es:List Ent) (vals:Nat→Value):List Nat→(Nat→Value)→(Nat→Value)
 | [],ρ=>ρ
 | k::ks,ρ=>fr es vals ks (frS es vals k ρ)
theorem qf9 {es:List Ent} {vals:Nat→Value} {k d:Nat} {φ:Value→World→Prop} {ρ:Nat→Value} (h:getL es k=some ⟨some d,none,φ⟩):frS es vals k ρ=upd ρ d (vals k):=by simp [frS,h]
theorem qiq {es:List Ent} {vals:Nat→Value} {k:Nat} {ρ:Nat→Value} (h:∀ d φ,getL es k≠some ⟨some d,none,φ⟩):frS es vals k ρ=ρ:=by
 unfold frS
 split
 ·rename_i d φ hk;exact absurd hk (h _ _)
 ·rfl
theorem qg6 {es:List Ent} {vals:Nat→Value} {w:World} {K:(Nat→Value)→Prop}:∀ (ks:List Nat) (ρ:Nat→Value),
  (∀ k∈ks,∀ e,getL es k=some e→e.φ (vals k) w)→allv es ks ρ w K→K (fr es vals ks ρ):=by
 intro ks
 induction ks with
 | nil=>intro ρ _ h;exact h
 | cons k ks ih=>
  intro ρ hv h;have hv':∀ k∈ks,∀ e,getL es k=some e→e.φ (vals k) w:=fun k hk=>hv k (List.mem_cons_of_mem _ hk)
  unfold allv at h;unfold fr
  split at h
  ·rename_i d φ hk
   rw [qf9 hk];exact ih _ hv' (h (vals k) (hv k (List.mem_cons_self ..) _ hk))
  ·rename_i hk
   rw [qiq hk];exact ih _ hv' h
theorem qc8 (ρ:Nat→Value) (d:Nat) (v:Value):upd ρ d v d=v:=by simp [upd]
theorem qah (ρ:Nat→Value) (d t:Nat) (v:Value) (h:t≠d):upd ρ d v t=ρ t:=by
 unfold upd;have e':Nat.beq t d=false:=Bool.eq_false_iff.2 fun e=>h (Nat.eq_of_beq_eq_true e)
 rw [e'];rfl
theorem qhj {es:List Ent} {vals:Nat→Value} {t:Nat}:∀ (ks:List Nat) (ρ:Nat→Value),(∀ k∈ks,∀ φ,getL es k≠some ⟨some t,none,φ⟩)→fr es vals ks ρ t=ρ t:=by
 intro ks
 induction ks with
 | nil=>intro ρ _;rfl
 | cons k ks ih=>
  intro ρ h;have h':∀ k∈ks,∀ φ,getL es k≠some ⟨some t,none,φ⟩:=fun k hk=>h k (List.mem_cons_of_mem _ hk)
  unfold fr;rw [ih _ h']
  by_cases hk:∃ d φ,getL es k=some ⟨some d,none,φ⟩
  ·obtain ⟨d,φ,hk⟩:=hk;rw [qf9 hk,qah];rintro rfl;exact h k (List.mem_cons_self ..) φ hk
  ·rw [qiq (fun d φ e=>hk ⟨d,φ,e⟩)]
theorem qx9 {es:List Ent} {vals:Nat→Value} {t k0:Nat} {x:Value} (hx:x=vals k0) (hu:∀ k φ,getL es k=some ⟨some t,none,φ⟩→k=k0):∀ (ks:List Nat) (ρ:Nat→Value),
  (ρ t=x∨(k0∈ks∧∃ φ,getL es k0=some ⟨some t,none,φ⟩))→fr es vals ks ρ t=x:=by
 intro ks
 induction ks with
 | nil=>
  intro ρ h
  rcases h with h|⟨h,_⟩
  ·exact h
  ·cases h
 | cons k ks ih=>
  intro ρ h;unfold fr
  by_cases hk:∃ d φ,getL es k=some ⟨some d,none,φ⟩
  ·obtain ⟨d,φ,hk⟩:=hk;rw [qf9 hk]
   by_cases hd:t=d
   ·subst hd;have:=hu k φ hk;subst this;exact ih _ (.inl (by rw [qc8,hx]))
   ·refine ih _ ?_
    rcases h with h|⟨h,φ0,h0⟩
    ·exact .inl (by rw [qah _ _ _ _ hd];exact h)
    ·rcases List.mem_cons.1 h with rfl|h
     ·rw [hk] at h0;cases h0;exact absurd rfl hd
     ·exact .inr ⟨h,φ0,h0⟩
  ·rw [qiq (fun d φ e=>hk ⟨d,φ,e⟩)];refine ih _ ?_
   rcases h with h|⟨h,φ0,h0⟩
   ·exact .inl h
   ·rcases List.mem_cons.1 h with rfl|h
    ·exact absurd ⟨_,_,h0⟩ hk
    ·exact .inr ⟨h,φ0,h0⟩
def qav (P:Program) (ops:List Oper) (o:Oper) (ρ:Nat→Value) (w:World) (K:Value→World→Prop):Prop:=
 match o.guard with
 | none=>opV P o ρ w K
 | some (j,want)=>
  match getL ops j with
  | none=>K undef w
  | some oj=>match oj.dst with
   | none=>K undef w
   | some d=>
    match ρ d with
    | .bool b=>Tst b
      (match want with
       | true=>opV P o ρ w K
       | false=>K undef w)
      (match want with
       | true=>K undef w
       | false=>opV P o ρ w K)
    | _=>K undef w
structure StepD (A:(Value→World→Prop)→Prop) (K:Option Value→(Value→World→Prop)→Prop):Prop where
 h:(∃ v,A (fun u _=>u=v)∧K (some v) (fun u _=>u=v))∨(∃ φ:Value→World→Prop,(∀ v w w',φ v w→Ext w w'→φ v w')∧A φ∧K none φ)
theorem StepD.still {A:(Value→World→Prop)→Prop} {K:Option Value→(Value→World→Prop)→Prop} (v:Value) (h:A (fun u _=>u=v)) (hk:K (some v) (fun u _=>u=v)):StepD A K:=⟨.inl ⟨v,h,hk⟩⟩
theorem StepD.of {A:(Value→World→Prop)→Prop} {K:Option Value→(Value→World→Prop)→Prop} (φ:Value→World→Prop) (hs:∀ v w w',φ v w→Ext w w'→φ v w') (h:A φ) (hk:K none φ):StepD A K:=⟨.inr ⟨φ,hs,h,hk⟩⟩
def updO (ρ:Nat→Value):Option Tmp→Option Value→Nat→Value
 | some d,some v=>upd ρ d v
 | _,_=>ρ
def qjj:List (Nat × Nat × (Value→World→Prop))→Nat→Option (Nat × (Value→World→Prop))
 | [],_=>none
 | (i,d,φ)::es,k=>bif Nat.beq i k then some (d,φ) else qjj es k
def allA (es:List (Nat × Nat × (Value→World→Prop))):List Nat→(Nat→Value)→World→((Nat→Value)→Prop)→Prop
 | [],ρ,_,K=>K ρ
 | k::ks,ρ,w,K=>
  match qjj es k with
  | some (d,φ)=>∀ v,φ v w→allA es ks (upd ρ d v) w K
  | none=>allA es ks ρ w K
def idxs:List (Nat × Nat × (Value→World→Prop))→List Nat
 | []=>[]
 | (i,_,_)::es=>i::idxs es
def qo7 (k:Nat) (φ:Value→World→Prop) (es:List (Nat × Nat × (Value→World→Prop))):Option Tmp→Option Value→List (Nat × Nat × (Value→World→Prop))
 | some d,none=>(k,d,φ)::es
 | _,_=>es
def regD (P:Program) (ops:List Oper) (w0:World) (Q:(Nat→Value)→World→Prop):List Oper→Nat→List (Nat × Nat × (Value→World→Prop))→(Nat→Value)→Prop
 | [],_,es,ρ=>∀ w,Ext w0 w→allA es (idxs es) ρ w fun ρ'=>Q ρ' w
 | o::l,k,es,ρ=>StepD
   (fun φ=>∀ w,Ext w0 w→allA es (qk o) ρ w fun ρ'=>qav P ops o ρ' w fun v w'=>Ext w w'∧φ v w')
   (fun v φ=>regD P ops w0 Q l (k+1) (qo7 k φ es o.dst v) (updO ρ o.dst v))
def sfr:List Ent→(Nat→Value)→(Nat→Value)
 | [],ρ=>ρ
 | e::l,ρ=>sfr l (updO ρ e.d e.v)
theorem qdi (a b:List Ent) (ρ:Nat→Value):sfr (a++b) ρ=sfr b (sfr a ρ):=by
 induction a generalizing ρ with
 | nil=>rfl
 | cons e a ih=>simp [sfr,ih]
structure EntOk (e:Ent) (o:Oper):Prop where
 d:e.d=o.dst
 st:∀ v w w',e.φ v w→Ext w w'→e.φ v w'
 v:∀ x,e.v=some x→∀ u w,e.φ u w→u=x
section
variable {P:Program} {n:Nat} {ops:List Oper} {w0:World}
def Agree (es:List (Nat × Nat × (Value→World→Prop))) (F:List Ent):Prop:=
 ∀ k,(match getL F k with|some ⟨some d,none,φ⟩=>qjj es k=some (d,φ)|_=>qjj es k=none)
theorem qlx {es:List (Nat × Nat × (Value→World→Prop))} {F:List Ent} (h:Agree es F) {w:World} {K:(Nat→Value)→Prop}:∀ (ks:List Nat) (ρ:Nat→Value),allA es ks ρ w K→allv F ks ρ w K:=by
 intro ks
 induction ks with
 | nil=>intro ρ h;exact h
 | cons k ks ih=>
  intro ρ ha;have hk:=h k;unfold allA at ha;unfold allv
  split
  ·rename_i d φ hg
   rw [hg] at hk;simp only at hk;rw [hk] at ha;exact fun v hv=>ih _ (ha v hv)
  ·rename_i hg
   split at hk
   ·rename_i d φ hg';exact absurd hg' (hg d φ)
   ·rw [hk] at ha;exact ih _ ha
theorem qtl {es:List (Nat × Nat × (Value→World→Prop))} {k d:Nat} {φ:Value→World→Prop} (h:qjj es k=some (d,φ)):k∈idxs es:=by
 induction es with
 | nil=>cases h
 | cons x es ih=>
  obtain ⟨i,d',φ'⟩:=x;simp only [qjj] at h;cases hb:Nat.beq i k<;>rw [hb] at h
  ·exact List.mem_cons_of_mem _ (ih h)
  ·rw [Nat.eq_of_beq_eq_true hb];exact List.mem_cons_self ..
theorem Agree.push {es:List (Nat × Nat × (Value→World→Prop))} {F:List Ent} (h:Agree es F) (dst:Option Tmp) (v:Option Value) (φ:Value→World→Prop):Agree (qo7 F.length φ es dst v) (F++[⟨dst,v,φ⟩]):=by
 intro k;have hk:=h k;have hg:∀ k,k<F.length→getL (F++[⟨dst,v,φ⟩]) k=getL F k:=fun k hk=>by rw [qg,qg,List.getElem?_append_left hk]
 have hlast:getL (F++[⟨dst,v,φ⟩]) F.length=some ⟨dst,v,φ⟩:=by rw [qg,List.getElem?_append_right (Nat.le_refl _)];simp
 have hnone:∀ k,F.length≤k→getL F k=none:=fun k hk=>by rw [qg,List.getElem?_eq_none hk]
 have hout:∀ k,F.length<k→getL (F++[⟨dst,v,φ⟩]) k=none:=fun k hk=>by rw [qg,List.getElem?_eq_none Ys]
 have hL:qjj es F.length=none:=by have:=h F.length;rw [hnone _ (Nat.le_refl _)] at this;exact this
 have other:k≠F.length→qjj (qo7 F.length φ es dst v) k=qjj es k:=fun hne=>by
  unfold qo7
  split
  ·have:Nat.beq F.length k=false:=Bool.eq_false_iff.2 fun e=>hne (Nat.eq_of_beq_eq_true e).symm
   simp only [qjj,this,cond_false]
  ·rfl
 rcases Nat.lt_trichotomy k F.length with hlt|rfl|hgt
 ·rw [hg k hlt,other Oo];exact hk
 ·rw [hlast];have hrefl:Nat.beq F.length F.length=true:=by simp
  cases dst with
  | none=>exact hL
  | some d=>
   cases v with
   | none=>simp only [qo7,qjj,hrefl,cond_true]
   | some v=>exact hL
 ·rw [hout k hgt,other Oo];rw [hnone k Oo] at hk;exact hk
theorem qni {Q:(Nat→Value)→World→Prop} (l:List Oper):∀ (es:List (Nat × Nat × (Value→World→Prop))) (F:List Ent) (ρ0:Nat→Value),Agree es F→regD P ops w0 Q l F.length es (sfr F ρ0)→
  ∃ E:List Ent,E.length=l.length∧(∀ i o e,l[i]?=some o→E[i]?=some e→EntOk e o∧
   ∀ w,Ext w0 w→allv (F++E.take i) (qk o) (sfr (F++E.take i) ρ0) w fun ρ'=>qav P ops o ρ' w fun v w'=>Ext w w'∧e.φ v w')∧
   ∃ ks:List Nat,(∀ k d φ,getL (F++E) k=some ⟨some d,none,φ⟩→k∈ks)∧∀ w,Ext w0 w→allv (F++E) ks (sfr (F++E) ρ0) w fun ρ'=>Q ρ' w:=by
 induction l with
 | nil=>
  intro es F ρ0 hA h;refine ⟨[],rfl,fun i o e hi=>by simp at hi,idxs es,?_,?_⟩
  ·intro k d φ hk;rw [List.append_nil] at hk;have:=hA k;rw [hk] at this;exact qtl this
  ·intro w hw;rw [List.append_nil];exact qlx hA _ _ (h w hw)
 | cons o l ih=>
  intro es F ρ0 hAg h;have key:∀ (v:Option Value) (φ:Value→World→Prop),EntOk ⟨o.dst,v,φ⟩ o→
    (∀ w,Ext w0 w→allA es (qk o) (sfr F ρ0) w fun ρ'=>qav P ops o ρ' w fun v w'=>Ext w w'∧φ v w')→
    regD P ops w0 Q l (F.length+1) (qo7 F.length φ es o.dst v) (updO (sfr F ρ0) o.dst v)→
    ∃ E:List Ent,E.length=(o::l).length∧(∀ i o' e,(o::l)[i]?=some o'→E[i]?=some e→EntOk e o'∧
     ∀ w,Ext w0 w→allv (F++E.take i) (qk o') (sfr (F++E.take i) ρ0) w fun ρ'=>qav P ops o' ρ' w fun v w'=>Ext w w'∧e.φ v w')∧
     ∃ ks:List Nat,(∀ k d φ,getL (F++E) k=some ⟨some d,none,φ⟩→k∈ks)∧∀ w,Ext w0 w→allv (F++E) ks (sfr (F++E) ρ0) w fun ρ'=>Q ρ' w:=fun v φ hok hA hK=>by
   have e1:updO (sfr F ρ0) o.dst v=sfr (F++[⟨o.dst,v,φ⟩]) ρ0:=by rw [qdi];rfl
   have e2:F.length+1=(F++[(⟨o.dst,v,φ⟩:Ent)]).length:=by simp
   rw [e1,e2] at hK;obtain ⟨E,h1,h2,ks,h3,h4⟩:=ih _ _ ρ0 (hAg.push o.dst v φ) hK;refine ⟨⟨o.dst,v,φ⟩::E,by simp [h1],fun i o' e hi he=>?_,ks,by simpa using h3,by simpa using h4⟩;cases i with
   | zero=>
    simp at hi he;subst hi he;refine ⟨hok,fun w hw=>?_⟩;rw [List.take_zero,List.append_nil];exact qlx hAg _ _ (hA w hw)
   | succ i=>
    simp at hi he;obtain ⟨k1,k2⟩:=h2 i o' e hi he;exact ⟨k1,by simpa using k2⟩
  obtain ⟨v,hA,hK⟩|⟨φ,hs,hA,hK⟩:=h.h
  ·exact key (some v) _ ⟨rfl,fun _ _ _ h _=>h,fun x hx u w hu=>by cases hx;exact hu⟩ hA hK
  ·exact key none φ ⟨rfl,hs,fun x hx=>by cases hx⟩ hA hK
end
theorem qnk {t:Nat}:∀ (es:List Ent) (ρ:Nat→Value),(∀ e∈es,e.d=some t→e.v=none)→sfr es ρ t=ρ t:=by
 intro es
 induction es with
 | nil=>intro ρ _;rfl
 | cons e es ih=>
  intro ρ h;rw [sfr,ih _ (fun e' he'=>h e' (List.mem_cons_of_mem _ he'))];have he:=h e (List.mem_cons_self ..);obtain ⟨d,v,φ⟩:=e;cases d with
  | none=>rfl
  | some d=>cases v with
   | none=>rfl
   | some v=>
    have hne:t≠d:=by rintro rfl;have:=he rfl;cases this
    exact qah _ _ _ _ hne
theorem qro {t:Nat} {x:Value}:∀ (es:List Ent) (ρ:Nat→Value),(∀ e∈es,e.d=some t→e.v=some x)→(ρ t=x∨∃ e∈es,e.d=some t)→sfr es ρ t=x:=by
 intro es
 induction es with
 | nil=>
  intro ρ _ h
  rcases h with h|⟨e,he,_⟩
  ·exact h
  ·cases he
 | cons e es ih=>
  intro ρ hu h;rw [sfr];refine ih _ (fun e' he'=>hu e' (List.mem_cons_of_mem _ he')) ?_;have he:=hu e (List.mem_cons_self ..);obtain ⟨d,v,φ⟩:=e
  by_cases hd:d=some t
  ·subst hd;have:=he rfl;simp only at this;subst this;exact .inl (qc8 _ _ _)
  ·rcases h with h|⟨e',he',hd'⟩
   ·left
    cases d with
    | none=>exact h
    | some d=>cases v with
     | none=>exact h
     | some v=>exact (qah _ _ _ _ (fun e=>hd (by rw [e]))).trans h
   ·rcases List.mem_cons.1 he' with rfl|he'
    ·exact absurd hd' hd
    ·exact .inr ⟨e',he',hd'⟩
def qia (n:Nat) (ops:Array Oper):Bool:=
 Region.noSelect ops&&(List.range ops.size).all fun j=>
  match ops[j]? with
  | none=>true
  | some o=>(qk o).all (fun k=>decide (k<j))&&(match o.dst with|some d=>decide (d<n)|none=>true)&&(List.range ops.size).all fun k=>
   match ops[k]? with
   | none=>true
   | some ok=>match ok.dst with
    | none=>true
    | some t=>(!(o.looksAt ops).contains t||(qk o).contains k)&&(k==j||o.dst != some t)
structure ShapeP (n:Nat) (ops:Array Oper):Prop where
 sel:Region.noSelect ops=true
 lt:∀ (j:Nat) (o:Oper),ops[j]?=some o→∀ k∈qk o,k<j
 dn:∀ (j:Nat) (o:Oper),ops[j]?=some o→∀ d,o.dst=some d→d<n
 look:∀ (j:Nat) (o:Oper) (k:Nat) (ok:Oper) (t:Nat),ops[j]?=some o→ops[k]?=some ok→ok.dst=some t→t∈o.looksAt ops→k∈qk o
 uniq:∀ (j:Nat) (o:Oper) (k:Nat) (ok:Oper) (t:Nat),ops[j]?=some o→ops[k]?=some ok→ok.dst=some t→o.dst=some t→k=j
theorem qdj {n:Nat} {ops:Array Oper} (h:qia n ops=true):ShapeP n ops:=by
 simp only [qia,Bool.and_eq_true] at h;obtain ⟨h1,h2⟩:=h;have key:∀ (j:Nat) (o:Oper),ops[j]?=some o→((qk o).all (fun k=>decide (k<j))&&(match o.dst with|some d=>decide (d<n)|none=>true)&&(List.range ops.size).all fun k=>
   match ops[k]? with
   | none=>true
   | some ok=>match ok.dst with
    | none=>true
    | some t=>(!(o.looksAt ops).contains t||(qk o).contains k)&&(k==j||o.dst != some t))=true:=fun j o hj=>by
  have:=List.all_eq_true.1 h2 j (List.mem_range.2 (Array.getElem?_eq_some_iff.1 hj).1);rw [hj] at this;exact this
 have key2:∀ (j:Nat) (o:Oper) (k:Nat) (ok:Oper) (t:Nat),ops[j]?=some o→ops[k]?=some ok→ok.dst=some t→((!(o.looksAt ops).contains t||(qk o).contains k)&&(k==j||o.dst != some t))=true:=fun j o k ok t hj hk ht=>by
  have:=key j o hj;simp only [Bool.and_eq_true] at this;have:=List.all_eq_true.1 this.2 k (List.mem_range.2 (Array.getElem?_eq_some_iff.1 hk).1);rw [hk] at this;simp only [ht] at this
  simpa using this
 refine ⟨h1,fun j o hj k hk=>?_,fun j o hj d hd=>?_,fun j o k ok t hj hk ht hl=>?_,fun j o k ok t hj hk ht ho=>?_⟩
 ·have:=key j o hj;simp only [Bool.and_eq_true] at this
  simpa using List.all_eq_true.1 this.1.1 k hk
 ·have:=key j o hj;simp only [Bool.and_eq_true] at this;have:=this.1.2;rw [hd] at this
  simpa using this
 ·have:=key2 j o k ok t hj hk ht;simp only [Bool.and_eq_true,Bool.or_eq_true,Bool.not_eq_true'] at this
  rcases this.1 with h|h
  ·rw [List.contains_eq_mem,decide_eq_false_iff_not] at h;exact absurd hl h
  ·simpa using h
 ·have:=key2 j o k ok t hj hk ht;simp only [Bool.and_eq_true,Bool.or_eq_true,beq_iff_eq] at this
  rcases this.2 with h|h
  ·exact h
  ·rw [ho] at h;simp at h
structure InvD (n:Nat) (E:List Ent) (w0:World) (ρ:Nat→Value) (listed:Array Bool) (vals:Nat→Value) (ρa:Nat→Value) (a:Act) (w:World):Prop where
 ext:Ext w0 w
 st:St n ρa a
 φ:∀ k,listed.getD k false=true→∀ e,E[k]?=some e→e.φ (vals k) w
 at_:∀ k,listed.getD k false=true→∀ e d,E[k]?=some e→e.d=some d→ρa d=vals k
 miss:∀ t,(∀ k,listed.getD k false=true→∀ e,E[k]?=some e→e.d≠some t)→ρa t=ρ t
section
variable {P:Program} {n:Nat} {ops:Array Oper} {w0:World} {E:List Ent} {ρ:Nat→Value}
theorem qc3 (hd:∀ (i:Nat) (o:Oper) (e:Ent),ops[i]?=some o→E[i]?=some e→EntOk e o) (hl:E.length=ops.size) (hS:ShapeP n ops) {listed:Array Bool} {vals ρa:Nat→Value} {a:Act} {w:World} (I:InvD n E w0 ρ listed vals ρa a w)
  (i:Nat) (ks:List Nat) (t:Nat) (h1:∀ (k:Nat) (e:Ent),E[k]?=some e→e.d=some t→k<i→listed.getD k false=true∧(e.v=none→k∈ks)) (h2:∀ (k:Nat) (e:Ent),E[k]?=some e→e.d=some t→listed.getD k false=true→k<i) :
  fr (E.take i) vals ks (sfr (E.take i) ρ) t=ρa t:=by
 have op_of:∀ (k:Nat) (e:Ent),E[k]?=some e→∃ o,ops[k]?=some o∧EntOk e o:=fun k e hk=>by
  have hlt:k<ops.size:=by
   rw [← hl]
   rcases Nat.lt_or_ge k E.length with h|h
   ·exact h
   ·rw [List.getElem?_eq_none h] at hk;cases hk
  exact ⟨ops[k],Array.getElem?_eq_getElem hlt,hd k _ e (Array.getElem?_eq_getElem hlt) hk⟩
 have uniq:∀ (k k':Nat) (e e':Ent),E[k]?=some e→E[k']?=some e'→e.d=some t→e'.d=some t→k'=k:=fun k k' e e' hk hk' hd1 hd2=>by
  obtain ⟨o,ho,hok⟩:=op_of k e hk;obtain ⟨o',ho',hok'⟩:=op_of k' e' hk';exact hS.uniq k o k' o' t ho ho' (hok'.d ▸ hd2) (hok.d ▸ hd1)
 have inE:∀ (k:Nat) (e:Ent),getL (E.take i) k=some e→E[k]?=some e∧k<i:=fun k e hk=>by
  rw [qg,List.getElem?_take] at hk
  split at hk
  ·exact ⟨hk,by assumption⟩
  ·cases hk
 by_cases hex:∃ (k:Nat) (e:Ent),E[k]?=some e∧e.d=some t∧k<i
 ·obtain ⟨k,e,hk,hdt,hki⟩:=hex;obtain ⟨hlis,hks⟩:=h1 k e hk hdt hki;obtain ⟨o,ho,hok⟩:=op_of k e hk;have hra:=I.at_ k hlis e t hk hdt;have hmem:e∈E.take i:=List.mem_of_getElem? (i:=k) (by rw [List.getElem?_take,if_pos hki];exact hk);have huE:∀ e'∈E.take i,e'.d=some t→e'=e:=fun e' he' hd'=>by
   obtain ⟨k',hk'⟩:=List.mem_iff_getElem?.1 he';have hk'':=(inE k' e' (by rw [qg];exact hk')).1;have:=uniq k k' e e' hk hk'' hdt hd';subst this;rw [hk] at hk'';exact (Option.some.inj hk'').symm
  cases hv:e.v with
  | some x=>
   have hx:vals k=x:=hok.v x hv _ _ (I.φ k hlis e hk);rw [qhj,qro _ _ (fun e' he' hd'=>by rw [huE e' he' hd'];exact hv) (.inr ⟨e,hmem,hdt⟩),hra,hx];intro k' _ φ hk';have:=huE _ (List.mem_of_getElem? (i:=k') (by rw [qg] at hk';exact hk')) rfl;rw [← this] at hv;cases hv
  | none=>
   obtain ⟨ed,ev,eφ⟩:=e;simp only at hdt hv;subst hdt hv;rw [qx9 (k0:=k) rfl (fun k' φ hk'=>?_) _ _ (.inr ⟨hks rfl,eφ,by rw [qg,List.getElem?_take,if_pos hki];exact hk⟩),hra];exact uniq k k' _ _ hk (inE k' _ hk').1 rfl rfl
 ·have hno:∀ k e,E[k]?=some e→k<i→e.d≠some t:=fun k e hk hki hd=>hex ⟨k,e,hk,hd,hki⟩
  rw [qhj,qnk]
  ·refine (I.miss t fun k hk e he hd=>?_).symm;exact hno k e he (h2 k e he hd hk) hd
  ·intro e he hd;obtain ⟨k',hk'⟩:=List.mem_iff_getElem?.1 he;obtain ⟨h3,h4⟩:=inE k' e (by rw [qg];exact hk');exact absurd hd (hno k' e h3 h4)
  ·intro k' _ φ hk';obtain ⟨h3,h4⟩:=inE k' _ hk';exact hno k' _ h3 h4 rfl
theorem qzn {o:Oper} {ρ1 ρ2:Nat→Value} (hsel:∀ cs b,o.op≠.select cs b) (h:∀ t∈o.looksAt ops,ρ1 t=ρ2 t):execOp (ev ρ1) o=execOp (ev ρ2) o:=by
 refine execOp_congr o hsel fun x hx=>?_;cases x with
 | tmp t=>exact h t (List.mem_append_left _ (List.mem_filterMap.2 ⟨.tmp t,by simpa using hx,rfl⟩))
 | const v=>rfl
 | global g=>rfl
 | func f=>rfl
theorem qgd {o oj:Oper} {j d:Nat} {want:Bool} (hg:o.guard=some (j,want)) (hj:ops[j]?=some oj) (hd:oj.dst=some d):d∈o.looksAt ops:=by
 refine List.mem_append_right _ ?_;simp [hg,hj,hd]
theorem qdf {o:Oper} {ρ' ρa:Nat→Value} {a:Act} {w:World} {K:Value→World→Prop} {K2:Act→World→Prop} {Q':Exit→Act→World→Prop} {i:Nat} (hi:ops[i]?=some o) (hS:ShapeP n ops)
  (ha:St n ρa a) (hag:∀ t∈o.looksAt ops,ρ' t=ρa t) (h:qav P ops.toList o ρ' w K) (hk:∀ v w',K v w'→K2 (a.put o.dst v) w'):wpOp P ops Q' i K2 a w:=by
 have hsel:=Region.noSelect_spec hS.sel i o;have run:opV P o ρ' w K→Region.wanted o (yielded ops a.tmps)=true→wpOp P ops Q' i K2 a w:=fun h hw=>by
  unfold wpOp;rw [hi];simp only [hw,if_true];have hok:=qtv h;rw [qzn (ops:=ops) (fun cs b=>hsel cs b hi) hag] at hok;exact .inl (OpOk.wp ha.eval hok hk)
 have skip:K undef w→Region.wanted o (yielded ops a.tmps)=false→wpOp P ops Q' i K2 a w:=fun h hw=>by
  unfold wpOp;rw [hi];simp only [hw,Bool.false_eq_true,if_false];exact hk _ _ h
 unfold qav at h
 split at h
 ·rename_i hg
  exact run h (by simp [Region.wanted,hg])
 ·rename_i j want hg
  split at h
  ·rename_i hj
   rw [qg] at hj;have:ops[j]?=none:=by simpa using hj
   exact skip h (by simp [Region.wanted,hg,yielded,this])
  ·rename_i oj hj
   have hj':=hj;rw [qg] at hj';have hoj:ops[j]?=some oj:=by simpa using hj'
   split at h
   ·rename_i hd
    exact skip h (by simp [Region.wanted,hg,yielded,hoj,hd])
   ·rename_i d hd
    have hy:=ha.yield hj hd (hS.dn j oj hoj d hd);rw [Array.toArray_toList] at hy;rw [hag d (qgd hg hoj hd)] at h
    split at h
    ·rename_i b hb
     rw [hb] at hy;cases b
     ·have h:=h.f rfl;cases want
      ·exact run h (by simp [Region.wanted,hg,hy])
      ·exact skip h (by simp [Region.wanted,hg,hy])
     ·have h:=h.t rfl;cases want
      ·exact skip h (by simp [Region.wanted,hg,hy])
      ·exact run h (by simp [Region.wanted,hg,hy])
    ·rename_i hb
     refine skip h ?_;have:yielded ops a.tmps j=none:=by
      rw [hy]
      split
      ·rename_i b hb';exact absurd hb' (hb b)
      ·rfl
     simp [Region.wanted,hg,this]
theorem qc (m j:Nat):(Array.replicate m false).getD j false=false:=by
 rcases Nat.lt_or_ge j m with h|h
 ·simp [h]
 ·simp [h]
theorem countP_set (listed:Array Bool) (i:Nat) (hi:listed.getD i true=false):(listed.setIfInBounds i true).toList.count false+1=listed.toList.count false:=by
 have hlt:i<listed.toList.length:=by
  rcases Nat.lt_or_ge i listed.size with h|h
  ·simpa using h
  ·simp [Array.getElem?_eq_none h] at hi
 have hv:listed.toList[i]=false:=by
  have h':i<listed.size:=by simpa using hlt
  simpa [h'] using hi
 rw [Array.toList_setIfInBounds];have:∀ (l:List Bool) (i:Nat) (h:i<l.length),l[i]=false→(l.set i true).count false+1=l.count false:=by
  intro l
  induction l with
  | nil=>intro i h;simp at h
  | cons b l ih=>
   intro i h hb;cases i with
   | zero=>simp at hb;subst hb;simp
   | succ i=>
    have:=ih i (by simpa using h) (by simpa using hb);cases b<;>simp<;>omega
 exact this _ _ hlt hv
theorem qlq {Q:(Nat→Value)→World→Prop} {Q':Exit→Act→World→Prop} (hQ:∀ ρ a w,St n ρ a→Q ρ w→Q' .normal a w) (hS:ShapeP n ops) (hl:E.length=ops.size)
  (hE:∀ (i:Nat) (o:Oper) (e:Ent),ops[i]?=some o→E[i]?=some e→EntOk e o∧
   ∀ w,Ext w0 w→allv (E.take i) (qk o) (sfr (E.take i) ρ) w fun ρ'=>qav P ops.toList o ρ' w fun v w'=>Ext w w'∧e.φ v w')
  (hF:∃ ks:List Nat,(∀ k d φ,getL E k=some ⟨some d,none,φ⟩→k∈ks)∧∀ w,Ext w0 w→allv E ks (sfr E ρ) w fun ρ'=>Q ρ' w) :
  ∀ (fuel:Nat) (listed:Array Bool) (vals ρa:Nat→Value) (a:Act) (w:World),listed.size=ops.size→listed.toList.count false≤fuel→InvD n E w0 ρ listed vals ρa a w→wpAny P .any ops Q' fuel listed a w:=by
 obtain ⟨ks,hks,hF⟩:=hF;have hd:∀ (i:Nat) (o:Oper) (e:Ent),ops[i]?=some o→E[i]?=some e→EntOk e o:=fun i o e h1 h2=>(hE i o e h1 h2).1
 have hlt:∀ (k:Nat) (e:Ent),E[k]?=some e→k<ops.size:=fun k e hk=>by
  rw [← hl]
  rcases Nat.lt_or_ge k E.length with h|h
  ·exact h
  ·rw [List.getElem?_eq_none h] at hk;cases hk
 have final:∀ (listed:Array Bool) (vals ρa:Nat→Value) (a:Act) (w:World),(∀ k,k<ops.size→listed.getD k false=true)→InvD n E w0 ρ listed vals ρa a w→Q' .normal a w:=fun listed vals ρa a w hall I=>by
  have h:=qg6 (vals:=vals) _ _ (fun k _ e hk=>by
   rw [qg] at hk;exact I.φ k (hall k (hlt k e hk)) e hk) (hF w I.ext)
  have he:fr E vals ks (sfr E ρ)=ρa:=by
   funext t
   have:=qc3 hd hl hS I E.length ks t (fun k e hk hdt hki=>⟨hall k (hlt k e hk),fun hv=>hks k t e.φ (by
    obtain ⟨ed,ev,eφ⟩:=e;simp only at hdt hv;subst hdt hv;rw [qg];exact hk)⟩) (fun k e hk _ _=>by rw [hl];exact hlt k e hk)
   rwa [List.take_length] at this
  rw [he] at h;exact hQ _ _ _ I.st h
 have nodone:∀ (listed:Array Bool),listed.size=ops.size→Region.ready .any ops listed=[]→∀ k,k<ops.size→listed.getD k false=true:=fun listed hsz hr k hk=>by
  induction k using Nat.strongRecOn with
  | _ k ih=>
   cases hv:listed.getD k false with
   | true=>rfl
   | false=>
    exfalso
    have hmem:k∈Region.ready .any ops listed:=by
     refine mem_ready.2 ⟨?_,ops[k],Array.getElem?_eq_getElem hk,fun e he hb=>?_⟩
     ·have:k<listed.size:=by omega
      simp [this] at hv ⊢;exact hv
     ·rw [qaj] at hb;have hp:e.on∈qk ops[k]:=qv.2 ⟨e,by simpa using he,hb,rfl⟩;have h1:=hS.lt k _ (Array.getElem?_eq_getElem hk) _ hp;exact ih _ h1 Oo
    rw [hr] at hmem;cases hmem
 intro fuel
 induction fuel with
 | zero=>
  intro listed vals ρa a w hsz hc I;have hall:∀ k,k<ops.size→listed.getD k false=true:=fun k hk=>by
   have h0:listed.toList.count false=0:=by omega
   have h1:=List.count_eq_zero.1 h0;have hk':k<listed.size:=by omega
   cases hv:listed[k] with
   | true=>simp [hk',hv]
   | false=>exact absurd (by rw [← hv];exact Array.mem_toList_iff.2 (Array.getElem_mem hk')) h1
  refine ⟨?_,final listed vals ρa a w hall I⟩;rw [List.eq_nil_iff_forall_not_mem];intro j hj;obtain ⟨h1,o,ho,_⟩:=mem_ready.1 hj;have h2:=hall j (Array.getElem?_eq_some_iff.1 ho).1;have hk':j<listed.size:=by have:=(Array.getElem?_eq_some_iff.1 ho).1;omega
  simp [hk'] at h1 h2;rw [h1] at h2;cases h2
 | succ fuel ih=>
  intro listed vals ρa a w hsz hc I;refine ⟨fun hr=>final listed vals ρa a w (nodone listed hsz hr) I,fun i hi=>?_⟩;obtain ⟨hun,o,ho,hall⟩:=mem_ready.1 hi;have hio:i<ops.size:=(Array.getElem?_eq_some_iff.1 ho).1;have hiE:i<E.length:=by omega
  obtain ⟨hok,hspec⟩:=hE i o E[i] ho (List.getElem?_eq_getElem hiE);have hpl:∀ k∈qk o,listed.getD k false=true:=fun k hk=>by
   obtain ⟨e,he,hb,hon⟩:=qv.1 hk;rw [← hon];exact hall e (by simpa using he) (by rw [qaj];exact hb)
  have h:=qg6 (vals:=vals) _ _ (fun k hk e he=>by
   rw [qg,List.getElem?_take,if_pos (hS.lt i o ho k hk)] at he;exact I.φ k (hpl k hk) e he) (hspec w I.ext)
  have hag:∀ t∈o.looksAt ops,fr (E.take i) vals (qk o) (sfr (E.take i) ρ) t=ρa t:=fun t ht=>by
   have hp:∀ (k:Nat) (e:Ent),E[k]?=some e→e.d=some t→k∈qk o:=fun k e hk hdt=>by
    have hk':=hlt k e hk;exact hS.look i o k ops[k] t ho (Array.getElem?_eq_getElem hk') ((hd k _ e (Array.getElem?_eq_getElem hk') hk).d ▸ hdt) ht
   exact qc3 hd hl hS I i (qk o) t (fun k e hk hdt _=>⟨hpl k (hp k e hk hdt),fun _=>hp k e hk hdt⟩) (fun k e hk hdt _=>hS.lt i o ho k (hp k e hk hdt))
  refine qdf ho hS I.st hag h fun v w' ⟨hx,hφ⟩=>?_;have hgd:∀ k,(listed.setIfInBounds i true).getD k false=true→k=i∨(k≠i∧listed.getD k false=true):=fun k hk=>by
   by_cases hki:k=i
   ·exact .inl hki
   ·rw [getD_set_ne false (fun e=>hki e.symm)] at hk;exact .inr ⟨hki,hk⟩
  have hnl:listed.getD i false=false:=by
   have:i<listed.size:=by omega
   simp [this] at hun ⊢;exact hun
  refine ih _ (fun k=>if k=i then v else vals k) (match o.dst with|some d=>upd ρa d v|none=>ρa) _ _ (by simp [hsz]) (by have:=countP_set listed i hun;omega) ⟨I.ext.trans hx,?_,?_,?_,?_⟩
  ·cases hdd:o.dst with
   | none=>exact I.st
   | some d=>exact I.st.put (hS.dn i o ho d hdd) v
  ·intro k hk e he
   rcases hgd k hk with rfl|⟨hki,hk⟩
   ·rw [List.getElem?_eq_getElem hiE] at he;cases he
    simpa using hφ
   ·simp only [if_neg hki];have hk':=hlt k e he;exact (hd k _ e (Array.getElem?_eq_getElem hk') he).st _ _ _ (I.φ k hk e he) hx
  ·intro k hk e d he hdd
   rcases hgd k hk with rfl|⟨hki,hk⟩
   ·rw [List.getElem?_eq_getElem hiE] at he;cases he;rw [hok.d] at hdd;simp [hdd,qc8]
   ·simp only [if_neg hki];have hk':=hlt k e he;have hd2:=(hd k _ e (Array.getElem?_eq_getElem hk') he).d;cases ho2:o.dst with
    | none=>exact I.at_ k hk e d he hdd
    | some d2=>
     have hne:d≠d2:=by
      rintro rfl;exact hki (hS.uniq i o k _ d ho (Array.getElem?_eq_getElem hk') (hd2 ▸ hdd) ho2)
     simp only;rw [qah _ _ _ _ hne];exact I.at_ k hk e d he hdd
  ·intro t ht;have h1:ρa t=ρ t:=I.miss t fun k hk e he=>ht k (by
    by_cases hki:k=i
    ·subst hki;rw [hnl] at hk;cases hk
    ·rw [getD_set_ne false (fun e=>hki e.symm)];exact hk) e he
   cases ho2:o.dst with
   | none=>exact h1
   | some d2=>
    have hne:t≠d2:=by
     rintro rfl;refine ht i ?_ E[i] (List.getElem?_eq_getElem hiE) (by rw [hok.d,ho2]);have:i<listed.size:=by omega
     simp [this]
    simp only;rw [qah _ _ _ _ hne];exact h1
end
theorem DrawV.free {P:Program} {n id:Nat} {ops:Array Oper} {Q:Exit→(Nat→Value)→World→Prop} {ρ:Nat→Value} {w:World} (hm:P.follows .mixedOrders=true) (hB:qia n ops=true)
  (h:regD P ops.toList w.drew (fun ρ' w'=>Q .normal ρ' w') ops.toList 0 [] ρ):DrawV P n id ops Q ρ w:=by
 refine ⟨fun a ha=>wp_region_any hm ?_⟩;obtain ⟨E,h1,h2,h3⟩:=qni ops.toList [] [] ρ (fun k=>rfl) h;refine qlq (Q:=fun ρ' w'=>Q .normal ρ' w') (E:=E) (w0:=w.drew) (ρ:=ρ) (fun ρ a w h1 h2=>⟨ρ,h1,h2⟩) (qdj hB) (by simpa using h1) (fun i o e ho he=>?_) (by simpa using h3) _ _ (fun _=>undef) ρ a _ Js Js ⟨Ext.refl _,ha,?_,?_,fun t _=>rfl⟩
 ·have:=h2 i o e (by simpa using ho) he
  simpa using this
 ·intro k hk;rw [qc] at hk;cases hk
 ·intro k hk;rw [qc] at hk;cases hk
end V
namespace V
def resC (P:Program) (ρ:Nat→Value) (w:World):List ResultVar→(List Value→Prop)→Prop
 | [],K=>K []
 | .tmp t::l,K=>qhi (ρ t) fun v=>resC P ρ w l fun vs=>K (v::vs)
 | .cell c ty::l,K=>qvk P ty (ρ c) w fun v=>resC P ρ w l fun vs=>K (v::vs)
def one (vs:List Value):Value:=
 match vs with
 | [v]=>v
 | l=>.tuple l.toArray
theorem qvl {P:Program} {w:World} {t:TypeId} {x:Value} {K:Value→Prop} (h:qvk P t x w K):∃ v,(do loadVar t (← asAddr x):Sem Value).run P w=.ok v w∧K v:=by
 unfold qvk at h
 split at h
 ·rename_i d b off hu
  cases ha:aggD d<;>rw [ha] at h
  ·obtain ⟨v,hv,hk⟩:=h;rw [qa1] at hk;refine ⟨v,?_,hk⟩;simp [asAddr,loadVar,qcd hu,ha,go_sem,hv]
  ·cases hT:hasT P t<;>rw [hT] at h
   ·exact h.elim
   ·obtain ⟨cs,hl,hc,hk⟩:=h;rw [qag] at hk;refine ⟨_,?_,hk⟩;have:=run_loadCells_list (P:=P) w ⟨b,off,none⟩ cs (fun j v hv=>by
     have hj:j<cs.length:=by
      rcases Nat.lt_or_ge j cs.length with h|h
      ·exact h
      ·rw [List.getElem?_eq_none h] at hv;cases hv
     rw [qad,hc j Oo];exact hv)
    simp [asAddr,loadVar,qcd hu,ha,qw hT,← hl,this]
 ·exact h.elim
theorem q6q {P:Program} {ρ:Nat→Value} {w:World} {tmps:Array Value} (hρ:∀ t,tmps.getD t undef=ρ t) (l:List ResultVar):∀ K:List Value→Prop,resC P ρ w l K→
  ∃ vs,(l.mapM (resF tmps)).run P w=.ok vs w∧K vs:=by
 induction l with
 | nil=>intro K h;exact ⟨[],by simp,h⟩
 | cons x l ih=>
  intro K h;cases x with
  | tmp t=>
   simp only [resC,qa1] at h;obtain ⟨vs,h1,h2⟩:=ih _ h;exact ⟨ρ t::vs,by rw [List.mapM_cons];simp only [Sem.run_bind,resF,Sem.run_pure,Result.andThen_ok,hρ];rw [h1];rfl,h2⟩
  | cell c ty=>
   simp only [resC] at h;obtain ⟨v,hv,hk⟩:=qvl h;obtain ⟨vs,h1,h2⟩:=ih _ hk;refine ⟨v::vs,?_,h2⟩;have e:resF tmps (.cell c ty)=(do loadVar ty (← asAddr (ρ c))):=by rw [← hρ];rfl
   rw [List.mapM_cons,Sem.run_bind,e,hv,Result.andThen_ok,Sem.run_bind,h1];rfl
theorem qaa {P:Program} {n:Nat} {fn:Func} {ρ:Nat→Value} {w:World} {R:Value→World→Prop} (h:resC P ρ w fn.results.toList fun vs=>R (one vs) w) :
  ∀ a,St n ρ a→∃ v,(results fn a.tmps).run P w=.ok v w∧R v w:=by
 intro a ha;obtain ⟨vs,h1,h2⟩:=q6q ha.get fn.results.toList _ h;refine ⟨one vs,?_,h2⟩;have e:results fn a.tmps=(do let vs ← fn.results.mapM (resF a.tmps);pure (if h:vs.size=1 then vs[0] else .tuple vs)):=by
  unfold results;congr 1
 rw [e,Array.mapM_eq_mapM_toList];simp [h1]
 match vs with
 | [v]=>rfl
 | []=>rfl
 | v::u::l=>simp [one]
end V
namespace V
structure Chg (w w':World) (B:List (Option Nat)):Prop where
 os:w'.os=w.os
 tape:w'.tape=w.tape
 output:w'.output=w.output
 size:w.heap.size≤w'.heap.size
 block:∀ k,k<w.heap.size→some k∉B→w'.heap[k]?=w.heap[k]?
theorem Chg.ext {w w':World} {B:List (Option Nat)} (h:Ext w w'):Chg w w' B:=⟨h.os,h.tape,h.output,h.size,fun k hk _=>h.block k hk⟩
structure EntO where
 d:Option Tmp
 v:Option Value
 u:Option Nat
 φ:Value→World→Prop
def EntO.plain (e:EntO):Ent:=⟨e.d,e.v,fun x _=>∀ c,e.v=some c→x=c⟩
def q2f (u:Option Nat) (i:Option Nat):Bool:=
 match u with
 | none=>true
 | some a=>match i with
  | none=>false
  | some b=>Nat.beq a b
abbrev AL:=List (Nat × Nat × Option Nat × (Value→World→Prop))
def qfe:AL→Nat→Option (Nat × Option Nat × (Value→World→Prop))
 | [],_=>none
 | (i,x)::es,k=>bif Nat.beq i k then some x else qfe es k
def allO (base:Nat) (es:AL) (i:Option Nat):List Nat→(Nat→Value)→World→((Nat→Value)→Prop)→Prop
 | [],ρ,_,K=>K ρ
 | k::ks,ρ,w,K=>
  match qfe es k with
  | some (d,u,φ)=>bif q2f u i then ∀ v,φ v w→(∀ g,v.ownBlock=some g→base≤g∧g<w.heap.size)→allO base es i ks (upd ρ d v) w K else ∀ v,allO base es i ks (upd ρ d v) w K
  | none=>allO base es i ks ρ w K
def qik (es:AL) (i:Nat):List Nat→(Nat→Value)→List (Option Nat)
 | [],_=>[]
 | k::ks,ρ=>
  match qfe es k with
  | some (d,u,_)=>match u with
   | some j=>bif Nat.beq j i then (ρ d).ownBlock::qik es i ks ρ else qik es i ks ρ
   | none=>qik es i ks ρ
  | none=>qik es i ks ρ
def idxO:AL→List Nat
 | []=>[]
 | (i,_)::es=>i::idxO es
def qvy (k:Nat) (u:Option Nat) (φ:Value→World→Prop) (es:AL):Option Tmp→Option Value→AL
 | some d,none=>(k,d,u,φ)::es
 | _,_=>es
def Loc (base:Nat) (φ:Value→World→Prop):Prop:=
 ∀ v w w',φ v w→(∀ k,k<w.heap.size→(k<base∨v.ownBlock=some k)→w'.heap[k]?=w.heap[k]?)→w.heap.size≤w'.heap.size→φ v w'
def PostO (w:World) (B:List (Option Nat)) (still:Bool) (φ:Value→World→Prop) (v:Value) (w':World):Prop:=
 Chg w w' B∧φ v w'∧(still=false→∀ g,v.ownBlock=some g→g<w'.heap.size∧(some g∈B∨w.heap.size≤g))
structure StepO (base:Nat) (A:Bool→(Value→World→Prop)→Prop) (K:Option Value→Option Nat→(Value→World→Prop)→Prop):Prop where
 h:(∃ v,A true (fun u _=>u=v)∧K (some v) none (fun u _=>u=v))∨(∃ u φ,Loc base φ∧A false φ∧K none u φ)
theorem StepO.still {base:Nat} {A:Bool→(Value→World→Prop)→Prop} {K:Option Value→Option Nat→(Value→World→Prop)→Prop} (v:Value) (h:A true (fun u _=>u=v)) (hk:K (some v) none (fun u _=>u=v)):StepO base A K:=⟨.inl ⟨v,h,hk⟩⟩
def regO (P:Program) (ops:List Oper) (w0:World) (Q:(Nat→Value)→World→Prop):List Oper→Nat→AL→(Nat→Value)→Prop
 | [],_,_,_=>False
 | [o],k,es,ρ=>∀ w,Ext w0 w→allO w0.heap.size es (some k) (idxO es) ρ w fun ρ'=>qav P ops o ρ' w fun v w'=>Q (updO ρ' o.dst (some v)) w'
 | o::l,k,es,ρ=>StepO w0.heap.size
   (fun still φ=>∀ w,Ext w0 w→allO w0.heap.size es (some k) (qk o) ρ w fun ρ'=>qav P ops o ρ' w (PostO w (qik es k (qk o) ρ') still φ))
   (fun v u φ=>regO P ops w0 Q l (k+1) (qvy k u φ es o.dst v) (updO ρ o.dst v))
structure EntOkO (base:Nat) (e:EntO) (o:Oper):Prop where
 d:e.d=o.dst
 loc:Loc base e.φ
 st:e.v≠none→∀ x w w',e.φ x w→e.φ x w'
 v:∀ c,e.v=some c→∀ x w,e.φ x w→x=c
def AgreeO (es:AL) (F:List EntO):Prop:=
 ∀ k,(match getL F k with|some ⟨some d,none,u,φ⟩=>qfe es k=some (d,u,φ)|_=>qfe es k=none)
theorem AgreeO.look {es:AL} {F:List EntO} (h:AgreeO es F) {k d:Nat} {u:Option Nat} {φ:Value→World→Prop}:qfe es k=some (d,u,φ)↔F[k]?=some ⟨some d,none,u,φ⟩:=by
 have hk:=h k;rw [qg] at hk
 constructor
 ·intro hl
  split at hk
  ·rename_i d' u' φ' hg
   rw [hk] at hl;cases hl;exact hg
  ·rw [hk] at hl;cases hl
 ·intro hg;rw [hg] at hk;exact hk
theorem q2q {es:AL} {k:Nat} {x:Nat × Option Nat × (Value→World→Prop)} (h:qfe es k=some x):k∈idxO es:=by
 induction es with
 | nil=>cases h
 | cons y es ih=>
  obtain ⟨i,z⟩:=y;simp only [qfe] at h;cases hb:Nat.beq i k<;>rw [hb] at h
  ·exact List.mem_cons_of_mem _ (ih h)
  ·rw [Nat.eq_of_beq_eq_true hb];exact List.mem_cons_self ..
theorem AgreeO.push {es:AL} {F:List EntO} (h:AgreeO es F) (dst:Option Tmp) (v:Option Value) (u:Option Nat) (φ:Value→World→Prop):AgreeO (qvy F.length u φ es dst v) (F++[⟨dst,v,u,φ⟩]):=by
 intro k;have hk:=h k;have hg:∀ k,k<F.length→getL (F++[⟨dst,v,u,φ⟩]) k=getL F k:=fun k hk=>by rw [qg,qg,List.getElem?_append_left hk]
 have hlast:getL (F++[⟨dst,v,u,φ⟩]) F.length=some ⟨dst,v,u,φ⟩:=by rw [qg,List.getElem?_append_right (Nat.le_refl _)];simp
 have hnone:∀ k,F.length≤k→getL F k=none:=fun k hk=>by rw [qg,List.getElem?_eq_none hk]
 have hout:∀ k,F.length<k→getL (F++[⟨dst,v,u,φ⟩]) k=none:=fun k hk=>by rw [qg,List.getElem?_eq_none Ys]
 have hL:qfe es F.length=none:=by have:=h F.length;rw [hnone _ (Nat.le_refl _)] at this;exact this
 have other:k≠F.length→qfe (qvy F.length u φ es dst v) k=qfe es k:=fun hne=>by
  unfold qvy
  split
  ·have:Nat.beq F.length k=false:=Bool.eq_false_iff.2 fun e=>hne (Nat.eq_of_beq_eq_true e).symm
   simp only [qfe,this,cond_false]
  ·rfl
 rcases Nat.lt_trichotomy k F.length with hlt|rfl|hgt
 ·rw [hg k hlt,other Oo];exact hk
 ·rw [hlast];have hrefl:Nat.beq F.length F.length=true:=by simp
  cases dst with
  | none=>exact hL
  | some d=>
   cases v with
   | none=>simp only [qvy,qfe,hrefl,cond_true]
   | some v=>exact hL
 ·rw [hout k hgt,other Oo];rw [hnone k Oo] at hk;exact hk
section
variable {P:Program} {n:Nat} {ops:List Oper} {w0:World}
def q4x (P:Program) (ops:List Oper) (w0:World) (F:List EntO) (ρ0:Nat→Value) (i:Nat) (o:Oper) (e:EntO):Prop:=
 EntOkO w0.heap.size e o∧∃ es,AgreeO es (F.take i)∧∀ w,Ext w0 w→allO w0.heap.size es (some i) (qk o) (sfr ((F.take i).map EntO.plain) ρ0) w fun ρ'=>
  qav P ops o ρ' w (PostO w (qik es i (qk o) ρ') e.v.isSome e.φ)
theorem q3b {Q:(Nat→Value)→World→Prop} (l:List Oper):∀ (es:AL) (F:List EntO) (ρ0:Nat→Value),AgreeO es F→regO P ops w0 Q l F.length es (sfr (F.map EntO.plain) ρ0)→
  ∃ (E:List EntO) (o:Oper),E.length+1=l.length∧l[E.length]?=some o∧(∀ i o' e,l[i]?=some o'→E[i]?=some e→q4x P ops w0 (F++E) ρ0 (F.length+i) o' e)∧
   ∃ es',AgreeO es' (F++E)∧∀ w,Ext w0 w→allO w0.heap.size es' (some (F++E).length) (idxO es') (sfr ((F++E).map EntO.plain) ρ0) w fun ρ'=>
    qav P ops o ρ' w fun v w'=>Q (updO ρ' o.dst (some v)) w':=by
 induction l with
 | nil=>intro es F ρ0 _ h;exact h.elim
 | cons o l ih=>
  intro es F ρ0 hAg h;cases l with
  | nil=>
   refine ⟨[],o,rfl,rfl,fun i o' e _ he=>by simp at he,es,by simpa using hAg,?_⟩
   simpa [regO] using h
  | cons o2 l=>
   have key:∀ (v:Option Value) (u:Option Nat) (φ:Value→World→Prop),EntOkO w0.heap.size ⟨o.dst,v,u,φ⟩ o→
     (∀ w,Ext w0 w→allO w0.heap.size es (some F.length) (qk o) (sfr (F.map EntO.plain) ρ0) w fun ρ'=>qav P ops o ρ' w (PostO w (qik es F.length (qk o) ρ') v.isSome φ))→
     regO P ops w0 Q (o2::l) (F.length+1) (qvy F.length u φ es o.dst v) (updO (sfr (F.map EntO.plain) ρ0) o.dst v)→
     ∃ (E:List EntO) (o':Oper),E.length+1=(o::o2::l).length∧(o::o2::l)[E.length]?=some o'∧(∀ i o' e,(o::o2::l)[i]?=some o'→E[i]?=some e→q4x P ops w0 (F++E) ρ0 (F.length+i) o' e)∧
      ∃ es',AgreeO es' (F++E)∧∀ w,Ext w0 w→allO w0.heap.size es' (some (F++E).length) (idxO es') (sfr ((F++E).map EntO.plain) ρ0) w fun ρ'=>
       qav P ops o' ρ' w fun v w'=>Q (updO ρ' o'.dst (some v)) w':=fun v u φ hok hA hK=>by
    have e1:updO (sfr (F.map EntO.plain) ρ0) o.dst v=sfr ((F++[(⟨o.dst,v,u,φ⟩:EntO)]).map EntO.plain) ρ0:=by rw [List.map_append,qdi];rfl
    have e2:F.length+1=(F++[(⟨o.dst,v,u,φ⟩:EntO)]).length:=by simp
    rw [e1,e2] at hK;obtain ⟨E,o',h1,h2,h3,es',h4,h5⟩:=ih _ _ ρ0 (hAg.push o.dst v u φ) hK;refine ⟨⟨o.dst,v,u,φ⟩::E,o',by simp only [List.length_cons] at h1 ⊢;omega,by simpa using h2,fun i o' e hi he=>?_,es',by simpa using h4,by simpa using h5⟩;cases i with
    | zero=>
     simp at hi he;subst hi he;refine ⟨hok,es,by simpa using hAg,?_⟩
     simpa using hA
    | succ i=>
     simp at hi he;have:=h3 i o' e hi he
     simpa [Nat.add_assoc,Nat.add_comm 1 i] using this
   obtain ⟨v,hA,hK⟩|⟨u,φ,hl,hA,hK⟩:=h.h
   ·exact key (some v) none _ ⟨rfl,fun _ _ _ h _ _=>h,fun _ _ _ _ h=>h,fun c hc x w hx=>by cases hc;exact hx⟩ hA hK
   ·exact key none u φ ⟨rfl,hl,fun h=>absurd rfl h,fun c hc=>by cases hc⟩ hA hK
theorem qo6 {F:List EntO} {k:Nat}:getL (F.map EntO.plain) k=(F[k]?).map EntO.plain:=by rw [qg,List.getElem?_map]
theorem qw3 {base:Nat} {es:AL} {i:Option Nat} {F:List EntO} {vals:Nat→Value} {w:World} {K:(Nat→Value)→Prop} (hA:AgreeO es F):∀ (ks:List Nat) (ρ:Nat→Value),
  (∀ k∈ks,∀ e,F[k]?=some e→e.v=none→q2f e.u i=true→e.φ (vals k) w∧∀ g,(vals k).ownBlock=some g→base≤g∧g<w.heap.size)→allO base es i ks ρ w K→K (fr (F.map EntO.plain) vals ks ρ):=by
 intro ks
 induction ks with
 | nil=>intro ρ _ h;exact h
 | cons k ks ih=>
  intro ρ hv h;have hv':=fun k' (hk':k'∈ks)=>hv k' (List.mem_cons_of_mem _ hk')
  unfold allO at h;rw [fr];cases hl:qfe es k with
  | none=>
   rw [hl] at h;rw [qiq]
   ·exact ih _ hv' h
   ·intro d φ hg;rw [qo6] at hg;obtain ⟨e,he,hp⟩:=Option.map_eq_some_iff.1 hg;obtain ⟨ed,ev,eu,eφ⟩:=e;simp only [EntO.plain,Ent.mk.injEq] at hp;obtain ⟨h1,h2,_⟩:=hp;subst h1 h2;rw [hA.look.2 he] at hl;cases hl
  | some x=>
   obtain ⟨d,u,φ⟩:=x;have hg:=hA.look.1 hl;rw [hl] at h;simp only at h;rw [qf9 (d:=d) (φ:=(EntO.plain ⟨some d,none,u,φ⟩).φ) (by rw [qo6,hg];rfl)];cases hb:q2f u i<;>rw [hb] at h
   ·exact ih _ hv' (h _)
   ·obtain ⟨h1,h2⟩:=hv k (List.mem_cons_self ..) _ hg rfl hb;exact ih _ hv' (h _ h1 h2)
theorem q01 {es:AL} {i:Nat} {ρ:Nat→Value} {g:Nat}:∀ ks,some g∈qik es i ks ρ→∃ k d φ,k∈ks∧qfe es k=some (d,some i,φ)∧(ρ d).ownBlock=some g:=by
 intro ks
 induction ks with
 | nil=>intro h;cases h
 | cons k ks ih=>
  intro h;have next:some g∈qik es i ks ρ→∃ k' d φ,k'∈k::ks∧qfe es k'=some (d,some i,φ)∧(ρ d).ownBlock=some g:=fun h=>by
   obtain ⟨k',d,φ,h1,h2,h3⟩:=ih h;exact ⟨k',d,φ,List.mem_cons_of_mem _ h1,h2,h3⟩
  unfold qik at h
  split at h
  ·rename_i d u φ hl
   split at h
   ·rename_i j
    cases hb:Nat.beq j i<;>rw [hb] at h
    ·exact next h
    ·have:=Nat.eq_of_beq_eq_true hb;subst this
     rcases List.mem_cons.1 h with h|h
     ·exact ⟨k,d,φ,List.mem_cons_self ..,hl,h.symm⟩
     ·exact next h
   ·exact next h
  ·exact next h
structure InvO (F:List EntO) (w0:World) (listed:Array Bool) (vals:Nat→Value) (w:World):Prop where
 φ:∀ (k:Nat) (e:EntO),F[k]?=some e→listed.getD k false=true→(∀ j,e.u=some j→listed.getD j false=false)→e.φ (vals k) w
 own:∀ (k:Nat) (e:EntO) (g:Nat),F[k]?=some e→e.v=none→listed.getD k false=true→(∀ j,e.u=some j→listed.getD j false=false)→(vals k).ownBlock=some g→w0.heap.size≤g∧g<w.heap.size
 apart:∀ (k k':Nat) (e e':EntO) (g:Nat),F[k]?=some e→F[k']?=some e'→e.v=none→e'.v=none→listed.getD k false=true→listed.getD k' false=true→
  (∀ j,e.u=some j→listed.getD j false=false)→(∀ j,e'.u=some j→listed.getD j false=false)→k≠k'→(vals k).ownBlock=some g→(vals k').ownBlock≠some g
theorem qjf {u:Option Nat} {i:Nat} {listed:Array Bool} (h:q2f u (some i)=true) (hi:listed.getD i false=false):∀ j,u=some j→listed.getD j false=false:=by
 intro j hj;subst hj;have:j=i:=Nat.eq_of_beq_eq_true h;rw [this];exact hi
end
theorem qws {P:Program} {md:Region.Mode} {ops:Array Oper} {Q:Exit→Act→World→Prop} {listed:Array Bool} {a:Act} {w:World} (hr:Region.ready md ops listed=[]) (h:Q .normal a w):∀ fuel,wpAny P md ops Q fuel listed a w
 | 0=>⟨hr,h⟩
 | _+1=>⟨fun _=>h,by rw [hr];simp⟩
theorem qet {ops:Array Oper} {listed:Array Bool} {md:Region.Mode} (h:∀ k,k<ops.size→listed.getD k true=true):Region.ready md ops listed=[]:=by
 rw [List.eq_nil_iff_forall_not_mem];intro j hj;obtain ⟨h1,o,ho,_⟩:=mem_ready.1 hj;rw [h j (Array.getElem?_eq_some_iff.1 ho).1] at h1;cases h1
theorem qht {n:Nat} {ops:Array Oper} (hS:ShapeP n ops) {listed:Array Bool} (hsz:listed.size=ops.size) (hr:Region.ready .any ops listed=[]) (k:Nat) (hk:k<ops.size):listed.getD k false=true:=by
 induction k using Nat.strongRecOn with
 | _ k ih=>
  cases hv:listed.getD k false with
  | true=>rfl
  | false=>
   exfalso
   have hmem:k∈Region.ready .any ops listed:=by
    refine mem_ready.2 ⟨?_,ops[k],Array.getElem?_eq_getElem hk,fun e he hb=>?_⟩
    ·have:k<listed.size:=by omega
     simp [this] at hv ⊢;exact hv
    ·rw [qaj] at hb;have hp:e.on∈qk ops[k]:=qv.2 ⟨e,by simpa using he,hb,rfl⟩;have h1:=hS.lt k _ (Array.getElem?_eq_getElem hk) _ hp;exact ih _ h1 Oo
   rw [hr] at hmem;cases hmem
theorem qbo {listed:Array Bool} {i:Nat} (hi:i<listed.size):listed.getD i true=listed.getD i false:=by simp [hi]
theorem InvD.step {n:Nat} {ops:Array Oper} {E:List Ent} {w0 w w':World} {ρ:Nat→Value} {listed:Array Bool} {vals ρa:Nat→Value} {a:Act} {i:Nat} {o:Oper} {e:Ent} {v:Value} (hS:ShapeP n ops) (hl:E.length=ops.size)
  (hd:∀ (i:Nat) (o:Oper) (e:Ent),ops[i]?=some o→E[i]?=some e→EntOk e o) (hfree:∀ (k:Nat) (e:Ent),E[k]?=some e→∀ x w w',e.φ x w→e.φ x w')
  (I:InvD n E w0 ρ listed vals ρa a w) (hsz:listed.size=ops.size) (ho:ops[i]?=some o) (he:E[i]?=some e) (hun:listed.getD i false=false) (hx:Ext w0 w') (hφ:e.φ v w') :
  InvD n E w0 ρ (listed.setIfInBounds i true) (fun k=>if k=i then v else vals k) (match o.dst with|some d=>upd ρa d v|none=>ρa) (a.put o.dst v) w':=by
 have hio:i<ops.size:=(Array.getElem?_eq_some_iff.1 ho).1;have hok:=hd i o e ho he;have hlt:∀ (k:Nat) (e:Ent),E[k]?=some e→k<ops.size:=fun k e hk=>by
  rw [← hl]
  rcases Nat.lt_or_ge k E.length with h|h
  ·exact h
  ·rw [List.getElem?_eq_none h] at hk;cases hk
 have hgd:∀ k,(listed.setIfInBounds i true).getD k false=true→k=i∨(k≠i∧listed.getD k false=true):=fun k hk=>by
  by_cases hki:k=i
  ·exact .inl hki
  ·rw [getD_set_ne false (fun e=>hki e.symm)] at hk;exact .inr ⟨hki,hk⟩
 refine ⟨hx,?_,?_,?_,?_⟩
 ·cases hdd:o.dst with
  | none=>exact I.st
  | some d=>exact I.st.put (hS.dn i o ho d hdd) v
 ·intro k hk e' he'
  rcases hgd k hk with rfl|⟨hki,hk⟩
  ·rw [he] at he';cases he'
   simpa using hφ
  ·simp only [if_neg hki];exact hfree k e' he' _ _ _ (I.φ k hk e' he')
 ·intro k hk e' d he' hdd
  rcases hgd k hk with rfl|⟨hki,hk⟩
  ·rw [he] at he';cases he';rw [hok.d] at hdd;simp [hdd,qc8]
  ·simp only [if_neg hki];have hk':=hlt k e' he';have hd2:=(hd k _ e' (Array.getElem?_eq_getElem hk') he').d;cases ho2:o.dst with
   | none=>exact I.at_ k hk e' d he' hdd
   | some d2=>
    have hne:d≠d2:=by
     rintro rfl;exact hki (hS.uniq i o k _ d ho (Array.getElem?_eq_getElem hk') (hd2 ▸ hdd) ho2)
    simp only;rw [qah _ _ _ _ hne];exact I.at_ k hk e' d he' hdd
 ·intro t ht;have h1:ρa t=ρ t:=I.miss t fun k hk e' he'=>ht k (by
   by_cases hki:k=i
   ·subst hki;rw [hun] at hk;cases hk
   ·rw [getD_set_ne false (fun e=>hki e.symm)];exact hk) e' he'
  cases ho2:o.dst with
  | none=>exact h1
  | some d2=>
   have hne:t≠d2:=by
    rintro rfl;refine ht i ?_ e he (by rw [hok.d,ho2]);have:i<listed.size:=by omega
    simp [this]
   simp only;rw [qah _ _ _ _ hne];exact h1
section
variable {P:Program} {n:Nat} {ops:Array Oper} {w0:World} {F:List EntO} {ρ:Nat→Value}
theorem q1b {Q:(Nat→Value)→World→Prop} {Q':Exit→Act→World→Prop} (hQ:∀ ρ a w,St n ρ a→Q ρ w→Q' .normal a w) (hS:ShapeP n ops) {ol:Oper} (hm:F.length+1=ops.size) (hol:ops[F.length]?=some ol)
  (hwait:∀ k,k<F.length→k∈qk ol) (hF:∀ (i:Nat) (o:Oper) (e:EntO),ops[i]?=some o→F[i]?=some e→q4x P ops.toList w0 F ρ i o e)
  (hlast:∃ es,AgreeO es F∧∀ w,Ext w0 w→allO w0.heap.size es (some F.length) (idxO es) (sfr (F.map EntO.plain) ρ) w fun ρ'=>qav P ops.toList ol ρ' w fun v w'=>Q (updO ρ' ol.dst (some v)) w') :
  ∀ (fuel:Nat) (listed:Array Bool) (vals ρa:Nat→Value) (a:Act) (w:World),listed.size=ops.size→listed.toList.count false≤fuel→listed.getD F.length false=false→
   InvD n (F.map EntO.plain++[⟨ol.dst,none,fun _ _=>True⟩]) w0 ρ listed vals ρa a w→InvO F w0 listed vals w→wpAny P .any ops Q' fuel listed a w:=by
 obtain ⟨E,hE⟩:∃ E,E=F.map EntO.plain++[(⟨ol.dst,none,fun _ _=>True⟩:Ent)]:=⟨_,rfl⟩
 rw [← hE];have hEl:E.length=ops.size:=by rw [hE];simp;omega
 have hEi:∀ (i:Nat) (e:EntO),F[i]?=some e→E[i]?=some e.plain:=fun i e he=>by
  have hi:i<F.length:=(List.getElem?_eq_some_iff.1 he).1;rw [hE,List.getElem?_append_left (by simpa using hi),List.getElem?_map,he];rfl
 have hEc:∀ (i:Nat) (e:Ent),E[i]?=some e→(∃ e',F[i]?=some e'∧e=e'.plain)∨(i=F.length∧e=⟨ol.dst,none,fun _ _=>True⟩):=fun i e he=>by
  rcases Nat.lt_or_ge i F.length with hi|hi
  ·left
   rw [hE,List.getElem?_append_left (by simpa using hi),List.getElem?_map,List.getElem?_eq_getElem hi] at he;exact ⟨F[i],List.getElem?_eq_getElem hi,(Option.some.inj he).symm⟩
  ·right
   rw [hE,List.getElem?_append_right (by simpa using hi)] at he;simp only [List.length_map] at he;have:i-F.length=0:=by
    rcases Nat.eq_zero_or_pos (i-F.length) with h|h
    ·exact h
    ·rw [List.getElem?_eq_none Ys] at he;cases he
   rw [this] at he;exact ⟨by omega,(by simpa using he:_=e).symm⟩
 have hEt:∀ i,i≤F.length→E.take i=(F.take i).map EntO.plain:=fun i hi=>by
  rw [hE,List.take_append_of_le_length (by simpa using hi),List.map_take]
 have hd:∀ (i:Nat) (o:Oper) (e:Ent),ops[i]?=some o→E[i]?=some e→EntOk e o:=fun i o e ho he=>by
  rcases hEc i e he with ⟨e',he',rfl⟩|⟨rfl,rfl⟩
  ·have:=(hF i o e' ho he').1;exact ⟨this.d,fun _ _ _ h _=>h,fun x hx u w hu=>hu x hx⟩
  ·rw [hol] at ho;cases ho;exact ⟨rfl,fun _ _ _ h _=>h,fun x hx=>by cases hx⟩
 have hfree:∀ (k:Nat) (e:Ent),E[k]?=some e→∀ x w w',e.φ x w→e.φ x w':=fun k e he x w w' h=>by
  rcases hEc k e he with ⟨e',he',rfl⟩|⟨rfl,rfl⟩
  ·exact h
  ·trivial
 have hlt:∀ (k:Nat) (e:Ent),E[k]?=some e→k<ops.size:=fun k e hk=>by
  rw [← hEl];exact (List.getElem?_eq_some_iff.1 hk).1
 intro fuel
 induction fuel with
 | zero=>
  intro listed vals ρa a w hsz hc hlm I J
  exfalso
  have hk':F.length<listed.size:=by omega
  have h1:=List.count_eq_zero.1 (show listed.toList.count false=0 by omega);refine h1 ?_;have:listed[F.length]=false:=by simpa [hk'] using hlm
  rw [← this];exact Array.mem_toList_iff.2 (Array.getElem_mem hk')
 | succ fuel ih=>
  intro listed vals ρa a w hsz hc hlm I J;refine ⟨fun hr=>?_,fun i hi=>?_⟩
  ·have:=qht hS hsz hr F.length Oo;rw [hlm] at this;cases this
  obtain ⟨hun,o,ho,hall⟩:=mem_ready.1 hi;have hio:i<ops.size:=(Array.getElem?_eq_some_iff.1 ho).1;have hnl:listed.getD i false=false:=by rw [← qbo Oo];exact hun
  have hpl:∀ k∈qk o,listed.getD k false=true:=fun k hk=>by
   obtain ⟨e,he,hb,hon⟩:=qv.1 hk;rw [← hon];exact hall e (by simpa using he) (by rw [qaj];exact hb)
  rcases Nat.lt_or_ge i F.length with hiF|hiF
  ·
   have hFi:F[i]?=some F[i]:=List.getElem?_eq_getElem hiF;obtain ⟨e,he⟩:∃ e,e=F[i]:=⟨_,rfl⟩
   rw [← he] at hFi;obtain ⟨hok,es,hAg,hspec⟩:=hF i o e ho hFi;have hget:∀ (k:Nat) (e':EntO),(F.take i)[k]?=some e'→F[k]?=some e'∧k<i:=fun k e' h=>by
    rw [List.getElem?_take] at h
    split at h
    ·exact ⟨h,by assumption⟩
    ·cases h
   have h:=qw3 (vals:=vals) hAg (qk o) _ (fun k hk e' he' hv hkb=>by
    obtain ⟨h1,_⟩:=hget k e' he';have hal:=qjf hkb hnl;exact ⟨J.φ k e' h1 (hpl k hk) hal,fun g hg=>J.own k e' g h1 hv (hpl k hk) hal hg⟩) (hspec w I.ext)
   have hfrm:∀ t,(∀ (k:Nat) (e':Ent),E[k]?=some e'→e'.d=some t→k∈qk o)→fr ((F.take i).map EntO.plain) vals (qk o) (sfr ((F.take i).map EntO.plain) ρ) t=ρa t:=fun t hp=>by
    rw [← hEt i Oo];exact qc3 hd hEl hS I i (qk o) t (fun k e hk hdt _=>⟨hpl k (hp k e hk hdt),fun _=>hp k e hk hdt⟩) (fun k e hk hdt _=>hS.lt i o ho k (hp k e hk hdt))
   have hag:∀ t∈o.looksAt ops,fr ((F.take i).map EntO.plain) vals (qk o) (sfr ((F.take i).map EntO.plain) ρ) t=ρa t:=fun t ht=>hfrm t fun k e' hk hdt=>by
    have hk':=hlt k e' hk;exact hS.look i o k ops[k] t ho (Array.getElem?_eq_getElem hk') ((hd k _ e' (Array.getElem?_eq_getElem hk') hk).d ▸ hdt) ht
   refine qdf ho hS I.st hag h fun v w' ⟨hchg,hφ,hown⟩=>?_;have hB:∀ g,some g∈qik es i (qk o) (fr ((F.take i).map EntO.plain) vals (qk o) (sfr ((F.take i).map EntO.plain) ρ))→
     ∃ k e',F[k]?=some e'∧e'.v=none∧e'.u=some i∧listed.getD k false=true∧(vals k).ownBlock=some g:=fun g hg=>by
    obtain ⟨k,d,φ,hk,hlk,ho'⟩:=q01 _ hg;have hFk:=hAg.look.1 hlk;obtain ⟨h1,_⟩:=hget k _ hFk;refine ⟨k,_,h1,rfl,rfl,hpl k hk,?_⟩;have hra:=I.at_ k (hpl k hk) _ d (hEi k _ h1) rfl;rw [← hra,← hfrm d fun k' e' hk' hdt=>?_]
    ·exact ho'
    ·have hlk':=hlt k' e' hk';have hlk2:=hlt k _ (hEi k _ h1);have hd1:=(hd k' _ e' (Array.getElem?_eq_getElem hlk') hk').d;have hd2:=(hd k _ _ (Array.getElem?_eq_getElem hlk2) (hEi k _ h1)).d;have:k'=k:=hS.uniq k _ k' _ d (Array.getElem?_eq_getElem hlk2) (Array.getElem?_eq_getElem hlk') (hd1 ▸ hdt) (by rw [← hd2];rfl);rw [this];exact hk
   have alive_i:∀ e':EntO,e'.u=some i→∀ j,e'.u=some j→listed.getD j false=false:=fun e' hu j hj=>by
    rw [hu] at hj;cases hj;exact hnl
   have hBge:∀ g,some g∈qik es i (qk o) (fr ((F.take i).map EntO.plain) vals (qk o) (sfr ((F.take i).map EntO.plain) ρ))→w0.heap.size≤g∧g<w.heap.size:=fun g hg=>by
    obtain ⟨k,e',h1,h2,h3,h4,h5⟩:=hB g hg;exact J.own k e' g h1 h2 h4 (alive_i e' h3) h5
   have hx:Ext w0 w':=⟨hchg.os.trans I.ext.os,hchg.tape.trans I.ext.tape,hchg.output.trans I.ext.output,Nat.le_trans I.ext.size hchg.size,fun k hk=>by
    rw [hchg.block k (Nat.lt_of_lt_of_le hk I.ext.size) (fun hmem=>by have:=(hBge k hmem).1;omega)];exact I.ext.block k hk⟩
   have hgd:∀ k,(listed.setIfInBounds i true).getD k false=true→k=i∨(k≠i∧listed.getD k false=true):=fun k hk=>by
    by_cases hki:k=i
    ·exact .inl hki
    ·rw [getD_set_ne false (fun e=>hki e.symm)] at hk;exact .inr ⟨hki,hk⟩
   have hal:∀ (e':EntO),(∀ j,e'.u=some j→(listed.setIfInBounds i true).getD j false=false)→(∀ j,e'.u=some j→listed.getD j false=false)∧e'.u≠some i:=fun e' h=>by
    refine ⟨fun j hj=>?_,fun hu=>?_⟩
    ·have:=h j hj
     by_cases hji:j=i
     ·subst hji;exact hnl
     ·rwa [getD_set_ne false (fun e=>hji e.symm)] at this
    ·have:=h i hu;have hil:i<listed.size:=by omega
     simp [hil] at this
   have hsome:e.v=none→e.v.isSome=false:=fun h=>by rw [h];rfl
   refine ih _ _ _ _ _ (by simp [hsz]) (by have:=countP_set listed i hun;omega) (by rw [getD_set_ne false Oo];exact hlm) (InvD.step hS hEl hd hfree I hsz ho (hEi i e hFi) hnl hx (fun c hc=>hok.v c hc v w' hφ)) ⟨?_,?_,?_⟩
   ·intro k e' hk hlk halv;obtain ⟨ha1,ha2⟩:=hal e' halv
    rcases hgd k hlk with rfl|⟨hki,hlk⟩
    ·rw [hFi] at hk;cases hk
     simpa using hφ
    ·simp only [if_neg hki];have hold:=J.φ k e' hk hlk ha1;have hk':k<ops.size:=by have:=(List.getElem?_eq_some_iff.1 hk).1;omega
     have hok':=(hF k ops[k] e' (Array.getElem?_eq_getElem hk') hk).1
     by_cases hv:e'.v=none
     ·refine hok'.loc _ w w' hold (fun b hb hor=>hchg.block b hb fun hmem=>?_) hchg.size;obtain ⟨k2,e2,h1,h2,h3,h4,h5⟩:=hB b hmem
      rcases hor with hlt' | hob
      ·have:=(hBge b hmem).1;omega
      ·have hne:k≠k2:=by
        rintro rfl;rw [hk] at h1;cases h1;exact ha2 h3
       exact J.apart k k2 e' e2 b hk h1 hv h2 hlk h4 ha1 (alive_i e2 h3) hne hob h5
     ·exact hok'.st hv _ _ _ hold
   ·intro k e' g hk hv hlk halv hg;obtain ⟨ha1,ha2⟩:=hal e' halv
    rcases hgd k hlk with rfl|⟨hki,hlk⟩
    ·rw [hFi] at hk;cases hk;simp only [if_true] at hg;obtain ⟨h1,h2⟩:=hown (hsome hv) g hg;refine ⟨?_,h1⟩
     rcases h2 with h2|h2
     ·exact (hBge g h2).1
     ·have:=I.ext.size;omega
    ·simp only [if_neg hki] at hg;have:=J.own k e' g hk hv hlk ha1 hg;have:=hchg.size;omega
   ·intro k k' e1 e2 g hk hk' hv hv' hlk hlk' hal1 hal2 hne hg hg';obtain ⟨ha1,ha1'⟩:=hal e1 hal1;obtain ⟨ha2,ha2'⟩:=hal e2 hal2;have new:∀ (k:Nat) (e1:EntO),F[k]?=some e1→e1.v=none→listed.getD k false=true→(∀ j,e1.u=some j→listed.getD j false=false)→e1.u≠some i→e.v=none→v.ownBlock=some g→(vals k).ownBlock≠some g:=fun k e1 hk hv hlk ha ha' hev hg hg'=>by
     obtain ⟨_,h2⟩:=hown (hsome hev) g hg
     rcases h2 with h2|h2
     ·obtain ⟨k2,e2,q1,q2,q3,q4,q5⟩:=hB g h2;have hne:k≠k2:=by
       rintro rfl;rw [hk] at q1;cases q1;exact ha' q3
      exact J.apart k k2 e1 e2 g hk q1 hv q2 hlk q4 ha (alive_i e2 q3) hne hg' q5
     ·have:=(J.own k e1 g hk hv hlk ha hg').2;omega
    rcases hgd k hlk with rfl|⟨hki,hlk2⟩
    ·rw [hFi] at hk;cases hk
     rcases hgd k' hlk' with rfl|⟨hki',hlk2'⟩
     ·exact hne rfl
     ·simp only [if_true,if_neg hki'] at hg hg';exact new k' e2 hk' hv' hlk2' ha2 ha2' hv hg hg'
    ·rcases hgd k' hlk' with rfl|⟨hki',hlk2'⟩
     ·rw [hFi] at hk';cases hk';simp only [if_true,if_neg hki] at hg hg';exact new k e1 hk hv hlk2 ha1 ha1' hv' hg' hg
     ·simp only [if_neg hki,if_neg hki'] at hg hg';exact J.apart k k' e1 e2 g hk hk' hv hv' hlk2 hlk2' ha1 ha2 hne hg hg'
  ·
   have hil:i=F.length:=by omega
   subst hil;rw [hol] at ho;cases ho;obtain ⟨es,hAg,hspec⟩:=hlast;have hlk:∀ (k:Nat) (e':EntO),F[k]?=some e'→listed.getD k false=true:=fun k e' hk=>hpl k (hwait k (List.getElem?_eq_some_iff.1 hk).1)
   have h:=qw3 (vals:=vals) hAg (idxO es) _ (fun k _ e' he' hv hkb=>by
    have hal:=qjf hkb hnl;exact ⟨J.φ k e' he' (hlk k e' he') hal,fun g hg=>J.own k e' g he' hv (hlk k e' he') hal hg⟩) (hspec w I.ext)
   have hfr:fr (F.map EntO.plain) vals (idxO es) (sfr (F.map EntO.plain) ρ)=ρa:=by
    funext t
    have:=qc3 hd hEl hS I F.length (idxO es) t (fun k e hk hdt hki=>?_) (fun k e hk hdt hlk'=>?_)
    ·rw [hEt _ (Nat.le_refl _),List.take_length] at this;exact this
    ·rcases hEc k e hk with ⟨e',he',rfl⟩|⟨rfl,_⟩
     ·refine ⟨hlk k e' he',fun hv=>?_⟩;obtain ⟨ed,ev,eu,eφ⟩:=e';simp only [EntO.plain] at hdt hv;subst hdt hv;exact q2q (hAg.look.2 he')
     ·omega
    ·rcases hEc k e hk with ⟨e',he',rfl⟩|⟨rfl,_⟩
     ·exact (List.getElem?_eq_some_iff.1 he').1
     ·rw [hnl] at hlk';cases hlk'
   rw [hfr] at h;refine qdf hol hS I.st (fun _ _=>rfl) h fun v w' hq=>?_;refine qws (qet fun k hk=>?_) ?_ _
   ·have hk':k<listed.size:=by omega
    by_cases hki:k=F.length
    ·subst hki;simp [hk']
    ·rw [getD_set_ne true (fun e=>hki e.symm),qbo hk'];exact hpl k (hwait k Oo)
   ·refine hQ _ _ _ ?_ hq;cases hdd:ol.dst with
    | none=>exact I.st
    | some d=>exact I.st.put (hS.dn _ ol hol d hdd) v
end
def qat (ops:Array Oper):Bool:=
 match ops[ops.size-1]? with
 | some o=>(List.range (ops.size-1)).all fun k=>(qk o).contains k
 | none=>false
theorem DrawV.own {P:Program} {n id:Nat} {ops:Array Oper} {Q:Exit→(Nat→Value)→World→Prop} {ρ:Nat→Value} {w:World} (hm:P.follows .mixedOrders=true) (hB:(qia n ops&&qat ops)=true)
  (h:regO P ops.toList w.drew (fun ρ' w'=>Q .normal ρ' w') ops.toList 0 [] ρ):DrawV P n id ops Q ρ w:=by
 refine ⟨fun a ha=>wp_region_any hm ?_⟩;simp only [Bool.and_eq_true] at hB;obtain ⟨F,ol,h1,h2,h3,h4⟩:=q3b ops.toList [] [] ρ (fun k=>rfl) h;have hsz:F.length+1=ops.size:=by simpa using h1
 have hol:ops[F.length]?=some ol:=by simpa using h2
 refine q1b (Q:=fun ρ' w'=>Q .normal ρ' w') (F:=F) (w0:=w.drew) (ρ:=ρ) (fun ρ a w h1 h2=>⟨ρ,h1,h2⟩) (qdj hB.1) hsz hol (fun k hk=>?_) (fun i o e ho he=>?_) (by simpa using h4) _ _ (fun _=>undef) ρ a _ Js Js ?_ ⟨Ext.refl _,ha,?_,?_,fun t _=>rfl⟩ ⟨?_,?_,?_⟩
 ·have hl:=hB.2;unfold qat at hl;rw [show ops.size-1=F.length by omega,hol] at hl
  simpa using List.all_eq_true.1 hl k (List.mem_range.2 hk)
 ·have:=h3 i o e (by simpa using ho) he
  simpa using this
 ·exact qc _ _
 ·intro k hk;rw [qc] at hk;cases hk
 ·intro k hk;rw [qc] at hk;cases hk
 ·intro k e _ hk;rw [qc] at hk;cases hk
 ·intro k e g _ _ hk;rw [qc] at hk;cases hk
 ·intro k k' e e' g _ _ _ _ hk;rw [qc] at hk;cases hk
end V
namespace V
def setS (S:Nat→Bool) (k:Nat):Nat→Bool:=fun j=>bif Nat.beq j k then true else S j
structure StepI (A:Value→Prop) (K:Value→Prop):Prop where
 h:∃ v,A v∧K v
theorem StepI.of {A K:Value→Prop} (v:Value) (h:A v) (hk:K v):StepI A K:=⟨v,h,hk⟩
def regI (P:Program) (ops:List Oper) (I:(Nat→Bool)→World→Prop) (Q:(Nat→Value)→World→Prop):List Oper→Nat→(Nat→Value)→Prop
 | [],_,ρ=>∀ w,I (fun _=>true) w→Q ρ w
 | o::l,k,ρ=>StepI (fun v=>∀ S w,S k=false→(∀ j∈qk o,S j=true)→I S w→qav P ops o ρ w fun v' w'=>v'=v∧I (setS S k) w')
   (fun v=>regI P ops I Q l (k+1) (updO ρ o.dst (some v)))
section
variable {P:Program} {n:Nat}
def q7h (P:Program) (ops:List Oper) (I:(Nat→Bool)→World→Prop) (F:List Ent) (ρ0:Nat→Value) (i:Nat) (o:Oper) (e:Ent):Prop:=
 ∃ v,e=⟨o.dst,some v,fun x _=>x=v⟩∧∀ S w,S i=false→(∀ j∈qk o,S j=true)→I S w→qav P ops o (sfr (F.take i) ρ0) w fun v' w'=>v'=v∧I (setS S i) w'
theorem q3a {ops:List Oper} {I:(Nat→Bool)→World→Prop} {Q:(Nat→Value)→World→Prop} (l:List Oper):∀ (F:List Ent) (ρ0:Nat→Value),regI P ops I Q l F.length (sfr F ρ0)→
  ∃ E:List Ent,E.length=l.length∧(∀ i o e,l[i]?=some o→E[i]?=some e→q7h P ops I (F++E) ρ0 (F.length+i) o e)∧∀ w,I (fun _=>true) w→Q (sfr (F++E) ρ0) w:=by
 induction l with
 | nil=>intro F ρ0 h;exact ⟨[],rfl,fun i o e hi=>by simp at hi,by rw [List.append_nil];exact h⟩
 | cons o l ih=>
  intro F ρ0 h;obtain ⟨v,hA,hK⟩:=h.h;have e1:updO (sfr F ρ0) o.dst (some v)=sfr (F++[(⟨o.dst,some v,fun x _=>x=v⟩:Ent)]) ρ0:=by rw [qdi];rfl
  have e2:F.length+1=(F++[(⟨o.dst,some v,fun x _=>x=v⟩:Ent)]).length:=by simp
  rw [e1,e2] at hK;obtain ⟨E,h1,h2,h3⟩:=ih _ ρ0 hK;refine ⟨⟨o.dst,some v,fun x _=>x=v⟩::E,by simp [h1],fun i o' e hi he=>?_,by simpa using h3⟩;cases i with
  | zero=>
   simp at hi he;subst hi he;exact ⟨v,rfl,by simpa using hA⟩
  | succ i=>
   simp at hi he;have:=h2 i o' e hi he
   simpa [Nat.add_assoc,Nat.add_comm 1 i] using this
variable {ops:Array Oper} {w0:World} {E:List Ent} {ρ:Nat→Value}
theorem q1a {I:(Nat→Bool)→World→Prop} {Q:(Nat→Value)→World→Prop} {Q':Exit→Act→World→Prop} (hQ:∀ ρ a w,St n ρ a→Q ρ w→Q' .normal a w) (hS:ShapeP n ops) (hl:E.length=ops.size)
  (hE:∀ (i:Nat) (o:Oper) (e:Ent),ops[i]?=some o→E[i]?=some e→q7h P ops.toList I E ρ i o e) (hF:∀ w,I (fun _=>true) w→Q (sfr E ρ) w) :
  ∀ (fuel:Nat) (listed:Array Bool) (vals ρa:Nat→Value) (a:Act) (w:World),listed.size=ops.size→listed.toList.count false≤fuel→InvD n E w0 ρ listed vals ρa a w0→I (fun j=>listed.getD j true) w→wpAny P .any ops Q' fuel listed a w:=by
 have hd:∀ (i:Nat) (o:Oper) (e:Ent),ops[i]?=some o→E[i]?=some e→EntOk e o:=fun i o e h1 h2=>by
  obtain ⟨v,rfl,_⟩:=hE i o e h1 h2;exact ⟨rfl,fun _ _ _ h _=>h,fun c hc x w hx=>by cases hc;exact hx⟩
 have hlt:∀ (k:Nat) (e:Ent),E[k]?=some e→k<ops.size:=fun k e hk=>by
  rw [← hl];exact (List.getElem?_eq_some_iff.1 hk).1
 have hfree:∀ (k:Nat) (e:Ent),E[k]?=some e→∀ x w w',e.φ x w→e.φ x w':=fun k e he x w w' h=>by
  have hk:=hlt k e he;obtain ⟨v,rfl,_⟩:=hE k _ e (Array.getElem?_eq_getElem hk) he;exact h
 have hsome:∀ (k:Nat) (e:Ent),E[k]?=some e→e.v≠none:=fun k e he=>by
  have hk:=hlt k e he;obtain ⟨v,rfl,_⟩:=hE k _ e (Array.getElem?_eq_getElem hk) he;simp
 have final:∀ (listed:Array Bool) (vals ρa:Nat→Value) (a:Act) (w:World),(∀ k,k<ops.size→listed.getD k false=true)→listed.size=ops.size→InvD n E w0 ρ listed vals ρa a w0→I (fun j=>listed.getD j true) w→Q' .normal a w:=fun listed vals ρa a w hall hsz D hI=>by
  have hT:(fun j=>listed.getD j true)=fun _=>true:=by
   funext j
   rcases Nat.lt_or_ge j listed.size with hj|hj
   ·rw [qbo hj];exact hall j Oo
   ·simp [Array.getElem?_eq_none hj]
  rw [hT] at hI;have he:sfr E ρ=ρa:=by
   funext t
   have:=qc3 hd hl hS D E.length [] t (fun k e hk hdt hki=>⟨hall k (hlt k e hk),fun hv=>absurd hv (hsome k e hk)⟩) (fun k e hk _ _=>by rw [hl];exact hlt k e hk)
   rwa [List.take_length] at this
  exact hQ _ _ _ D.st (he ▸ hF w hI)
 intro fuel
 induction fuel with
 | zero=>
  intro listed vals ρa a w hsz hc D hI;have hall:∀ k,k<ops.size→listed.getD k false=true:=fun k hk=>by
   have h1:=List.count_eq_zero.1 (show listed.toList.count false=0 by omega);have hk':k<listed.size:=by omega
   cases hv:listed[k] with
   | true=>simp [hk',hv]
   | false=>exact absurd (by rw [← hv];exact Array.mem_toList_iff.2 (Array.getElem_mem hk')) h1
  exact ⟨qet fun k hk=>by rw [qbo Oo];exact hall k hk,final listed vals ρa a w hall hsz D hI⟩
 | succ fuel ih=>
  intro listed vals ρa a w hsz hc D hI;refine ⟨fun hr=>final listed vals ρa a w (fun k hk=>qht hS hsz hr k hk) hsz D hI,fun i hi=>?_⟩;obtain ⟨hun,o,ho,hall⟩:=mem_ready.1 hi;have hio:i<ops.size:=(Array.getElem?_eq_some_iff.1 ho).1;have hnl:listed.getD i false=false:=by rw [← qbo Oo];exact hun
  have hpl:∀ k∈qk o,listed.getD k false=true:=fun k hk=>by
   obtain ⟨e,he,hb,hon⟩:=qv.1 hk;rw [← hon];exact hall e (by simpa using he) (by rw [qaj];exact hb)
  have hiE:E[i]?=some E[i]:=List.getElem?_eq_getElem Oo;obtain ⟨v,he,hspec⟩:=hE i o E[i] ho hiE;have hlp:∀ k∈qk o,listed.getD k true=true:=fun k hk=>by
   have:=hpl k hk
   rcases Nat.lt_or_ge k listed.size with hj|hj
   ·rw [qbo hj];exact this
   ·simp [Array.getElem?_eq_none hj]
  have h:=hspec (fun j=>listed.getD j true) w hun hlp hI;have hag:∀ t∈o.looksAt ops,sfr (E.take i) ρ t=ρa t:=fun t ht=>by
   have hp:∀ (k:Nat) (e:Ent),E[k]?=some e→e.d=some t→k∈qk o:=fun k e hk hdt=>by
    have hk':=hlt k e hk;exact hS.look i o k ops[k] t ho (Array.getElem?_eq_getElem hk') ((hd k _ e (Array.getElem?_eq_getElem hk') hk).d ▸ hdt) ht
   exact qc3 hd hl hS D i [] t (fun k e hk hdt _=>⟨hpl k (hp k e hk hdt),fun hv=>absurd hv (hsome k e hk)⟩) (fun k e hk hdt _=>hS.lt i o ho k (hp k e hk hdt))
  refine qdf ho hS D.st hag h fun v' w' ⟨hv,hI'⟩=>?_;have hset:(fun j=>(listed.setIfInBounds i true).getD j true)=setS (fun j=>listed.getD j true) i:=by
   funext j
   unfold setS
   by_cases hji:j=i
   ·subst hji;have:j<listed.size:=by omega
    simp [this]
   ·have:Nat.beq j i=false:=Bool.eq_false_iff.2 fun e=>hji (Nat.eq_of_beq_eq_true e)
    rw [this,getD_set_ne true (fun e=>hji e.symm)];rfl
  refine ih _ _ _ _ _ (by simp [hsz]) (by have:=countP_set listed i hun;omega) (InvD.step (v:=v') hS hl hd hfree D hsz ho hiE hnl (Ext.refl _) (by rw [he];exact hv)) ?_;rw [hset];exact hI'
end
theorem DrawV.inv {P:Program} {n id:Nat} {ops:Array Oper} {Q:Exit→(Nat→Value)→World→Prop} {ρ:Nat→Value} {w:World} (I:(Nat→Bool)→World→Prop) (hm:P.follows .mixedOrders=true) (hB:qia n ops=true)
  (h0:I (fun j=>Nat.ble ops.size j) w.drew) (h:regI P ops.toList I (fun ρ' w'=>Q .normal ρ' w') ops.toList 0 ρ):DrawV P n id ops Q ρ w:=by
 refine ⟨fun a ha=>wp_region_any hm ?_⟩;obtain ⟨E,h1,h2,h3⟩:=q3a ops.toList [] ρ h;refine q1a (I:=I) (Q:=fun ρ' w'=>Q .normal ρ' w') (E:=E) (w0:=w.drew) (ρ:=ρ) (fun ρ a w h1 h2=>⟨ρ,h1,h2⟩) (qdj hB) (by simpa using h1) (fun i o e ho he=>?_) (by simpa using h3) _ _ (fun _=>undef) ρ a _ Js Js ⟨Ext.refl _,ha,?_,?_,fun t _=>rfl⟩ ?_
 ·have:=h2 i o e (by simpa using ho) he
  simpa using this
 ·intro k hk;rw [qc] at hk;cases hk
 ·intro k hk;rw [qc] at hk;cases hk
 ·have:(fun j=>(Array.replicate ops.size false).getD j true)=fun j=>Nat.ble ops.size j:=by
   funext j
   rcases Nat.lt_or_ge j ops.size with hj|hj
   ·have h2:Nat.ble ops.size j=false:=Bool.eq_false_iff.2 fun e=>by have:=Nat.le_of_ble_eq_true e;omega
    simp [hj,h2]
   ·rw [Nat.ble_eq_true_of_le hj];simp [hj]
  rw [this];exact h0
end V
namespace V
structure StepG (A:Option Value→Prop) (K:Option Value→Prop):Prop where
 h:∃ v,A v∧K v
theorem StepG.of {A K:Option Value→Prop} (v:Value) (h:A (some v)) (hk:K (some v)):StepG A K:=⟨some v,h,hk⟩
theorem StepG.any {A K:Option Value→Prop} (h:A none) (hk:K none):StepG A K:=⟨none,h,hk⟩
def frG:List (Nat × Nat)→(Nat→Value)→(Nat→Value)→(Nat→Value)
 | [],_,ρ=>ρ
 | (k,d)::es,vals,ρ=>frG es vals (upd ρ d (vals k))
def q8l (k:Nat) (es:List (Nat × Nat)):Option Tmp→Option Value→List (Nat × Nat)
 | some d,none=>(k,d)::es
 | _,_=>es
def isG:Option Value→Value→Prop
 | some c,x=>x=c
 | none,_=>True
def regG (P:Program) (ops:List Oper) (I:(Nat→Bool)→(Nat→Value)→World→Prop) (Q:(Nat→Value)→World→Prop):List Oper→Nat→List (Nat × Nat)→(Nat→Value)→Prop
 | [],_,es,ρ=>∀ vals w,I (fun _=>true) vals w→Q (frG es vals ρ) w
 | o::l,k,es,ρ=>StepG (fun v=>∀ S vals w,S k=false→(∀ j∈qk o,S j=true)→I S vals w→qav P ops o (frG es vals ρ) w fun v' w'=>isG v v'∧I (setS S k) (upd vals k v') w')
   (fun v=>regG P ops I Q l (k+1) (q8l k es o.dst v) (updO ρ o.dst v))
def entG (d:Option Tmp) (v:Option Value):Ent:=⟨d,v,fun x _=>isG v x⟩
structure AgreeG (es:List (Nat × Nat)) (F:List Ent):Prop where
 in_:∀ k d,(k,d)∈es→F[k]?=some (entG (some d) none)
 all:∀ k d φ,F[k]?=some ⟨some d,none,φ⟩→k∈es.map (·.1)
theorem AgreeG.push {es:List (Nat × Nat)} {F:List Ent} (h:AgreeG es F) (d:Option Tmp) (v:Option Value):AgreeG (q8l F.length es d v) (F++[entG d v]):=by
 have old:∀ k d',(k,d')∈es→(F++[entG d v])[k]?=some (entG (some d') none):=fun k d' hk=>by
  have:=h.in_ k d' hk;rw [List.getElem?_append_left (List.getElem?_eq_some_iff.1 this).1,this]
 have back:∀ k d' φ,(F++[entG d v])[k]?=some ⟨some d',none,φ⟩→k∈es.map (·.1)∨(k=F.length∧entG d v=⟨some d',none,φ⟩):=fun k d' φ hk=>by
  rcases Nat.lt_or_ge k F.length with hlt|hge
  ·rw [List.getElem?_append_left hlt] at hk;exact .inl (h.all _ _ _ hk)
  ·rw [List.getElem?_append_right hge] at hk;obtain ⟨h0,h1⟩:=List.getElem?_eq_some_iff.1 hk;have:k-F.length=0:=by simpa using h0
   refine .inr ⟨by omega,?_⟩
   simpa [this] using h1
 cases d with
 | none=>
  refine ⟨old,fun k d' φ hk=>?_⟩
  rcases back k d' φ hk with hk|⟨rfl,e⟩
  ·exact hk
  ·cases e
 | some d=>
  cases v with
  | none=>
   refine ⟨fun k d' hk=>?_,fun k d' φ hk=>?_⟩
   ·rcases List.mem_cons.1 hk with e|hk
    ·cases e;rw [List.getElem?_append_right (Nat.le_refl _),Nat.sub_self];rfl
    ·exact old k d' hk
   ·rcases back k d' φ hk with hk|⟨rfl,_⟩
    ·exact List.mem_cons_of_mem _ hk
    ·exact List.mem_cons_self ..
  | some c=>
   refine ⟨old,fun k d' φ hk=>?_⟩
   rcases back k d' φ hk with hk|⟨rfl,e⟩
   ·exact hk
   ·cases e
theorem qta {es0:List Ent} {vals:Nat→Value}:∀ (es:List (Nat × Nat)) (ρ:Nat→Value),(∀ k d,(k,d)∈es→es0[k]?=some (entG (some d) none))→fr es0 vals (es.map (·.1)) ρ=frG es vals ρ:=by
 intro es
 induction es with
 | nil=>intro ρ _;rfl
 | cons x es ih=>
  obtain ⟨k,d⟩:=x;intro ρ h;show fr es0 vals (k::es.map (·.1)) ρ=_;unfold fr;rw [qf9 (d:=d) (φ:=fun x _=>isG none x) (by rw [qg];exact h k d (List.mem_cons_self ..)),ih _ fun k d hk=>h k d (List.mem_cons_of_mem _ hk)];rfl
section
variable {P:Program} {n:Nat}
def q4w (P:Program) (ops:List Oper) (I:(Nat→Bool)→(Nat→Value)→World→Prop) (F:List Ent) (ρ0:Nat→Value) (i:Nat) (o:Oper) (e:Ent):Prop:=
 ∃ v es,e=entG o.dst v∧AgreeG es (F.take i)∧∀ S vals w,S i=false→(∀ j∈qk o,S j=true)→I S vals w→qav P ops o (frG es vals (sfr (F.take i) ρ0)) w fun v' w'=>isG v v'∧I (setS S i) (upd vals i v') w'
theorem qt5 {ops:List Oper} {I:(Nat→Bool)→(Nat→Value)→World→Prop} {Q:(Nat→Value)→World→Prop} (l:List Oper):∀ (es:List (Nat × Nat)) (F:List Ent) (ρ0:Nat→Value),AgreeG es F→regG P ops I Q l F.length es (sfr F ρ0)→
  ∃ E:List Ent,E.length=l.length∧(∀ i o e,l[i]?=some o→E[i]?=some e→q4w P ops I (F++E) ρ0 (F.length+i) o e)∧∃ es',AgreeG es' (F++E)∧∀ vals w,I (fun _=>true) vals w→Q (frG es' vals (sfr (F++E) ρ0)) w:=by
 induction l with
 | nil=>intro es F ρ0 hA h;exact ⟨[],rfl,fun i o e hi=>by simp at hi,es,by rw [List.append_nil];exact hA,by rw [List.append_nil];exact h⟩
 | cons o l ih=>
  intro es F ρ0 hA h;obtain ⟨v,hv,hK⟩:=h.h;have e1:updO (sfr F ρ0) o.dst v=sfr (F++[entG o.dst v]) ρ0:=by rw [qdi];rfl
  have e2:F.length+1=(F++[entG o.dst v]).length:=by simp
  rw [e1,e2] at hK;obtain ⟨E,h1,h2,h3⟩:=ih _ _ ρ0 (hA.push o.dst v) hK;refine ⟨entG o.dst v::E,by simp [h1],fun i o' e hi he=>?_,by simpa using h3⟩;cases i with
  | zero=>
   simp at hi he;subst hi he;exact ⟨v,es,rfl,by simpa using hA,by simpa using hv⟩
  | succ i=>
   simp at hi he;have:=h2 i o' e hi he
   simpa [Nat.add_assoc,Nat.add_comm 1 i] using this
variable {ops:Array Oper} {w0:World} {E:List Ent} {ρ:Nat→Value}
theorem q09 {I:(Nat→Bool)→(Nat→Value)→World→Prop} {Q:(Nat→Value)→World→Prop} {Q':Exit→Act→World→Prop} (hQ:∀ ρ a w,St n ρ a→Q ρ w→Q' .normal a w) (hS:ShapeP n ops) (hl:E.length=ops.size)
  (hE:∀ (i:Nat) (o:Oper) (e:Ent),ops[i]?=some o→E[i]?=some e→q4w P ops.toList I E ρ i o e) (hF:∃ es',AgreeG es' E∧∀ vals w,I (fun _=>true) vals w→Q (frG es' vals (sfr E ρ)) w) :
  ∀ (fuel:Nat) (listed:Array Bool) (vals ρa:Nat→Value) (a:Act) (w:World),listed.size=ops.size→listed.toList.count false≤fuel→InvD n E w0 ρ listed vals ρa a w0→I (fun j=>listed.getD j true) vals w→wpAny P .any ops Q' fuel listed a w:=by
 obtain ⟨ef,hA,hF⟩:=hF;have hd:∀ (i:Nat) (o:Oper) (e:Ent),ops[i]?=some o→E[i]?=some e→EntOk e o:=fun i o e h1 h2=>by
  obtain ⟨v,_,rfl,_⟩:=hE i o e h1 h2;refine ⟨rfl,fun _ _ _ h _=>h,fun c hc x w hx=>?_⟩;have hc:v=some c:=hc;subst hc;exact hx
 have hlt:∀ (k:Nat) (e:Ent),E[k]?=some e→k<ops.size:=fun k e hk=>by
  rw [← hl];exact (List.getElem?_eq_some_iff.1 hk).1
 have hfree:∀ (k:Nat) (e:Ent),E[k]?=some e→∀ x w w',e.φ x w→e.φ x w':=fun k e he x w w' h=>by
  have hk:=hlt k e he;obtain ⟨v,_,rfl,_⟩:=hE k _ e (Array.getElem?_eq_getElem hk) he;exact h
 have final:∀ (listed:Array Bool) (vals ρa:Nat→Value) (a:Act) (w:World),(∀ k,k<ops.size→listed.getD k false=true)→listed.size=ops.size→InvD n E w0 ρ listed vals ρa a w0→I (fun j=>listed.getD j true) vals w→Q' .normal a w:=fun listed vals ρa a w hall hsz D hI=>by
  have hT:(fun j=>listed.getD j true)=fun _=>true:=by
   funext j
   rcases Nat.lt_or_ge j listed.size with hj|hj
   ·rw [qbo hj];exact hall j Oo
   ·simp [Array.getElem?_eq_none hj]
  rw [hT] at hI;have he:frG ef vals (sfr E ρ)=ρa:=by
   funext t
   have:=qc3 hd hl hS D E.length (ef.map (·.1)) t (fun k e hk hdt hki=>⟨hall k (hlt k e hk),fun hv=>by
    obtain ⟨d,v,φ⟩:=e;cases hv;cases hdt;exact hA.all k _ _ hk⟩) (fun k e hk _ _=>by rw [hl];exact hlt k e hk)
   rw [List.take_length,qta _ _ hA.in_] at this;exact this
  exact hQ _ _ _ D.st (he ▸ hF vals w hI)
 intro fuel
 induction fuel with
 | zero=>
  intro listed vals ρa a w hsz hc D hI;have hall:∀ k,k<ops.size→listed.getD k false=true:=fun k hk=>by
   have h1:=List.count_eq_zero.1 (show listed.toList.count false=0 by omega);have hk':k<listed.size:=by omega
   cases hv:listed[k] with
   | true=>simp [hk',hv]
   | false=>exact absurd (by rw [← hv];exact Array.mem_toList_iff.2 (Array.getElem_mem hk')) h1
  exact ⟨qet fun k hk=>by rw [qbo Oo];exact hall k hk,final listed vals ρa a w hall hsz D hI⟩
 | succ fuel ih=>
  intro listed vals ρa a w hsz hc D hI;refine ⟨fun hr=>final listed vals ρa a w (fun k hk=>qht hS hsz hr k hk) hsz D hI,fun i hi=>?_⟩;obtain ⟨hun,o,ho,hall⟩:=mem_ready.1 hi;have hio:i<ops.size:=(Array.getElem?_eq_some_iff.1 ho).1;have hnl:listed.getD i false=false:=by rw [← qbo Oo];exact hun
  have hpl:∀ k∈qk o,listed.getD k false=true:=fun k hk=>by
   obtain ⟨e,he,hb,hon⟩:=qv.1 hk;rw [← hon];exact hall e (by simpa using he) (by rw [qaj];exact hb)
  have hiE:E[i]?=some E[i]:=List.getElem?_eq_getElem Oo;obtain ⟨v,es,he,hAi,hspec⟩:=hE i o E[i] ho hiE;have hlp:∀ k∈qk o,listed.getD k true=true:=fun k hk=>by
   have:=hpl k hk
   rcases Nat.lt_or_ge k listed.size with hj|hj
   ·rw [qbo hj];exact this
   ·simp [Array.getElem?_eq_none hj]
  have h:=hspec (fun j=>listed.getD j true) vals w hun hlp hI;have hag:∀ t∈o.looksAt ops,frG es vals (sfr (E.take i) ρ) t=ρa t:=fun t ht=>by
   have hp:∀ (k:Nat) (e:Ent),E[k]?=some e→e.d=some t→k∈qk o:=fun k e hk hdt=>by
    have hk':=hlt k e hk;exact hS.look i o k ops[k] t ho (Array.getElem?_eq_getElem hk') ((hd k _ e (Array.getElem?_eq_getElem hk') hk).d ▸ hdt) ht
   have:=qc3 hd hl hS D i (es.map (·.1)) t (fun k e hk hdt hki=>⟨hpl k (hp k e hk hdt),fun hv=>by
    obtain ⟨d,v,φ⟩:=e;cases hv;cases hdt;exact hAi.all k _ _ (by rw [List.getElem?_take,if_pos hki];exact hk)⟩) (fun k e hk hdt _=>hS.lt i o ho k (hp k e hk hdt))
   rw [qta _ _ hAi.in_] at this;exact this
  refine qdf ho hS D.st hag h fun v' w' ⟨hv,hI'⟩=>?_;have hset:(fun j=>(listed.setIfInBounds i true).getD j true)=setS (fun j=>listed.getD j true) i:=by
   funext j
   unfold setS
   by_cases hji:j=i
   ·subst hji;have:j<listed.size:=by omega
    simp [this]
   ·have:Nat.beq j i=false:=Bool.eq_false_iff.2 fun e=>hji (Nat.eq_of_beq_eq_true e)
    rw [this,getD_set_ne true (fun e=>hji e.symm)];rfl
  have hvals:(fun k=>if k=i then v' else vals k)=upd vals i v':=by
   funext k
   by_cases hk:k=i
   ·subst hk;simp [upd]
   ·rw [if_neg hk,qah _ _ _ _ hk]
  refine ih _ (upd vals i v') _ _ _ (by simp [hsz]) (by have:=countP_set listed i hun;omega) (hvals ▸ InvD.step (v:=v') hS hl hd hfree D hsz ho hiE hnl (Ext.refl _) (by rw [he];exact hv)) ?_;rw [hset];exact hI'
end
theorem DrawV.gen {P:Program} {n id:Nat} {ops:Array Oper} {Q:Exit→(Nat→Value)→World→Prop} {ρ:Nat→Value} {w:World} (I:(Nat→Bool)→(Nat→Value)→World→Prop) (hm:P.follows .mixedOrders=true) (hB:qia n ops=true)
  (h0:∀ vals,I (fun j=>Nat.ble ops.size j) vals w.drew) (h:regG P ops.toList I (fun ρ' w'=>Q .normal ρ' w') ops.toList 0 [] ρ):DrawV P n id ops Q ρ w:=by
 refine ⟨fun a ha=>wp_region_any hm ?_⟩;obtain ⟨E,h1,h2,h3⟩:=qt5 ops.toList [] [] ρ (AgreeG.mk (fun _ _ h=>by cases h) (fun _ _ _ h=>by simp at h)) h;refine q09 (I:=I) (Q:=fun ρ' w'=>Q .normal ρ' w') (E:=E) (w0:=w.drew) (ρ:=ρ) (fun ρ a w h1 h2=>⟨ρ,h1,h2⟩) (qdj hB) (by simpa using h1) (fun i o e ho he=>?_) (by simpa using h3) _ _ (fun _=>undef) ρ a _ Js Js ⟨Ext.refl _,ha,?_,?_,fun t _=>rfl⟩ ?_
 ·have:=h2 i o e (by simpa using ho) he
  simpa using this
 ·intro k hk;rw [qc] at hk;cases hk
 ·intro k hk;rw [qc] at hk;cases hk
 ·have:(fun j=>(Array.replicate ops.size false).getD j true)=fun j=>Nat.ble ops.size j:=by
   funext j
   rcases Nat.lt_or_ge j ops.size with hj|hj
   ·have h2:Nat.ble ops.size j=false:=Bool.eq_false_iff.2 fun e=>by have:=Nat.le_of_ble_eq_true e;omega
    simp [hj,h2]
   ·rw [Nat.ble_eq_true_of_le hj];simp [hj]
  rw [this];exact h0 _
end V
end Go.Proofs.YtacnkdagblbgfaaGreatDoor
