/- Lemmas and contracts of functions on the way to the law's card (part 1 of 16). -/
import Derived.Test.YtccmcfpmknpccaaGreatDoorProg
import Derived.WalkKit
import Derived.WalkSpells
import Derived.StillTactics
import Derived.Lib.Hide
import Derived.IntWalk
import Derived.Still
import Derived.Scope
import Derived.Maps.AppendAt
import Derived.Lib.AppendStr
namespace Go.Proofs.YtccmcfpmknpccaaGreatDoor
open Go.RowKit
theorem Oo {p:Prop} (e:p:=by omega):p:=e
theorem Jk {p:Prop} (e:p:=by kernel_rfl):p:=e
theorem Od {p:Prop} (e:p:=by decide):p:=e
theorem Js {p:Prop} (e:p:=by simp):p:=e
theorem Ys {p:Prop} (e:p:=by (simp;omega)):p:=e
theorem Oa {p:Prop} (e:p:=by assumption):p:=e
theorem mh {α:Type} {a:α} {l:List α}:a∈a::l:=List.mem_cons_self ..
abbrev LB:=List UInt8
abbrev oA:=Option Addr
abbrev ii (n:Int):Value:=.int .i64 n
abbrev pp (b:Nat):Value:=.pointer (some ⟨b,0,none⟩)
theorem zge {α:Type} {l:List α} {i:Nat} (h:i<l.length):l[i]?=some l[i]:=List.getElem?_eq_getElem h
theorem zld {α:Type} {i:Nat} {l:List α}:(l.drop i).length=l.length-i:=List.length_drop ..
theorem zla {α:Type} {l m:List α}:(l++m).length=l.length+m.length:=List.length_append ..
theorem znr {n:Nat}:n≤n:=Nat.le_refl _
theorem zmg {α:Type} {l:List α} {i:Nat} {a:α} (h:l[i]?=some a):a∈l:=List.mem_of_getElem? h
theorem zmc {α:Type} {a y:α} {l:List α} (h:a∈l):a∈y::l:=List.mem_cons_of_mem _ h
namespace V
def upd (ρ:Nat→Value) (d:Nat) (v:Value):Nat→Value:=fun t=>bif Nat.beq t d then v else ρ t
def ev (ρ:Nat→Value):Operand→Value
 | .tmp t=>ρ t
 | .const v=>v
 | .global g=>.pointer (some ⟨g,0,none⟩)
 | .func f=>.func (.func f) #[] #[]
def qb6:Value→Bool
 | .agg _ | .tuple _=>false
 | _=>true
structure St (n:Nat) (ρ:Nat→Value) (a:Act):Prop where
 size:a.tmps.size=n
 get:∀ t,a.tmps.getD t undef=ρ t
 defers:a.defers=[]
theorem St.eval {n:Nat} {ρ:Nat→Value} {a:Act} (h:St n ρ a):a.eval=ev ρ:=by
 funext x;cases x<;>simp [Act.eval,ev,h.get]
theorem St.put {n:Nat} {ρ:Nat→Value} {a:Act} (h:St n ρ a) {d:Nat} (hd:d<n) (v:Value):St n (upd ρ d v) (a.put (some d) v):=by
 refine ⟨by simp [Act.put,h.size],fun t=>?_,by simp [Act.put,h.defers]⟩;have hg:=h.get t;have hs:=h.size;simp only [Act.put,upd,Array.getD_eq_getD_getElem?] at hg ⊢
 by_cases e:t=d
 ·simp_all
 grind [Nat.eq_of_beq_eq_true]
theorem St.same {n:Nat} {ρ:Nat→Value} {a:Act} (h:St n ρ a) {d:Nat} {v:Value} (hv:ρ d=v):St n (upd ρ d v) a:=by
 refine ⟨h.size,fun t=>?_,h.defers⟩;rw [h.get]
 grind [upd,Nat.eq_of_beq_eq_true]
structure Tst (b:Bool) (p q:Prop):Prop where
 t:b=true→p
 f:b=false→q
theorem Tst.tt {p q:Prop} (h:p):Tst true p q:=⟨fun _=>h,Js⟩
theorem Tst.ff {p q:Prop} (h:q):Tst false p q:=⟨Js,fun _=>h⟩
theorem Tst.dec {c p q:Prop} [Decidable c] (h1:c→p) (h2:¬ c→q):Tst (decide c) p q:=⟨(by grind),(by grind)⟩
theorem Tst.not {b:Bool} {p q:Prop} (h:Tst b q p):Tst (!b) p q:=⟨fun e=>h.f (by simpa using e),fun e=>h.t (by simpa using e)⟩
theorem Tst.beqT {b c:Bool} {p q:Prop} (h:Tst b p q) (hc:c=true:=by rfl):Tst (b==c) p q:=by subst hc;cases b<;>exact h
theorem Tst.beqF {b c:Bool} {p q:Prop} (h:Tst b q p) (hc:c=false:=by rfl):Tst (b==c) p q:=by
 subst hc;cases b
 ·exact ⟨fun _=>h.f rfl,Js⟩
 ·exact ⟨Js,fun _=>h.t rfl⟩
theorem Tst.iff (c:Prop) {b:Bool} {p q:Prop} (hb:b=true↔c) (h1:c→p) (h2:¬ c→q):Tst b p q:=⟨(by grind),(by grind)⟩
theorem Tst.yes {b:Bool} {p q:Prop} (hb:b=true) (h:p):Tst b p q:=⟨fun _=>h,(by grind)⟩
theorem Tst.no {b:Bool} {p q:Prop} (hb:b=false) (h:q):Tst b p q:=⟨(by grind),fun _=>h⟩
theorem Tst.both {b:Bool} {p q:Prop} (h1:b=true→p) (h2:b=false→q):Tst b p q:=⟨h1,h2⟩
structure Obl (p k:Prop):Prop where
 o:p
 k:k
structure Wit {α:Type} (p:α→Prop) (K:α→Prop):Prop where
 h:∃ x,p x∧K x
def qcm (P:Program) (f:FuncId):Bool:=
 match P.funcs[f]? with
 | some fn => !(fn.name== "runtime.NumGoroutine")&&fn.body.isSome
 | none=>false
def Gv (P:Program) (f:FuncId) (args:List Value) (w:World) (R:Value→World→Prop):Prop:=
 qcm P f=true∧Calls P f args.toArray w fun e w'=>∃ v,e=.returned v∧R v w'
structure RunV (P:Program) (s:Sem Value) (w:World) (K:Value→World→Prop):Prop where
 h:∃ v w',s.run P w=.ok v w'∧K v w'
structure Fall (P:Program) (s:Sem Next) (w:World) (K:Value→World→Prop):Prop where
 h:(∃ v w',s.run P w=.ok (.value v) w'∧K v w')∨(∃ w',s.run P w=.ok .skip w'∧K undef w')
structure LoadV (w:World) (b off:Nat) (K:Value→Prop):Prop where
 h:∃ v,w.cell? ⟨b,off,none⟩=some v∧K v
structure LoadA (w:World) (b off size:Nat) (K:List Value→Prop):Prop where
 h:∃ cs:List Value,cs.length=size∧(∀ i,i<size→w.cell? ⟨b,off+i,none⟩=cs[i]?)∧K cs
structure StoreV (w:World) (b off:Nat) (v:Value) (K:World→Prop):Prop where
 h:(∃ o,w.cell? ⟨b,off,none⟩=some o)∧w.frozen? ⟨b,off,none⟩=false∧qb6 v=true∧K (w.setCell ⟨b,off,none⟩ v)
structure StoreA (P:Program) (w:World) (b off:Nat) (vs:List Value) (K:World→Prop):Prop where
 h:∃ w',(storeCells ⟨b,off,none⟩ vs).run P w=.ok () w'∧K w'
structure AppV (P:Program) (argTypes:Array TypeId) (ty:TypeId) (s x:Value) (w:World) (K:Value→World→Prop):Prop where
 h:∃ v w',(Builtin.append_ argTypes ty #[s,x]).run P w=.ok v w'∧K v w'
structure NewV (w:World) (o:Obj) (K:Nat→World→Prop):Prop where
 h:∀ b w',b=w.heap.size→w'=w.alloc o→K b w'
structure ElemV (A:Option Addr) (i:Int) (len size:Nat) (K:Value→Prop):Prop where
 h:∃ (b off j:Nat),A=some ⟨b,off,none⟩∧i=(j:Int)∧j<len∧K (.pointer (some ⟨b,off+j*size,none⟩))
structure LoopV (P:Program) (n:Nat) (body:Code) (Q:Exit→(Nat→Value)→World→Prop) (ρ:Nat→Value) (w:World):Prop where
 h:∀ a,St n ρ a→(Code.loop body).wp P (fun e a' w'=>∃ ρ',St n ρ' a'∧Q e ρ' w') a w
structure DrawV (P:Program) (n id:Nat) (ops:Array Oper) (Q:Exit→(Nat→Value)→World→Prop) (ρ:Nat→Value) (w:World):Prop where
 h:∀ a,St n ρ a→(Code.region id ops true).wp P (fun e a' w'=>∃ ρ',St n ρ' a'∧Q e ρ' w') a w
structure CodeV (P:Program) (n:Nat) (c:Code) (Q:Exit→(Nat→Value)→World→Prop) (ρ:Nat→Value) (w:World):Prop where
 h:∀ a,St n ρ a→c.wp P (fun e a' w'=>∃ ρ',St n ρ' a'∧Q e ρ' w') a w
def InR (k:IntKind) (n:Int):Prop:=
 match k with
 | .i64=>-9223372036854775808≤n∧n≤9223372036854775807
 | .i32=>-2147483648≤n∧n≤2147483647
 | .i16=>-32768≤n∧n≤32767
 | .i8=>-128≤n∧n≤127
 | .u64=>0≤n∧n≤18446744073709551615
 | .u32=>0≤n∧n≤4294967295
 | .u16=>0≤n∧n≤65535
 | .u8=>0≤n∧n≤255
def eqk:IntKind→IntKind→Bool
 | .i64,.i64 | .i32,.i32 | .i16,.i16 | .i8,.i8 | .u64,.u64 | .u32,.u32 | .u16,.u16 | .u8,.u8=>true
 | _,_=>false
theorem qabl {k j:IntKind} (h:eqk k j=true):k=j:=by cases k<;>cases j<;>first|rfl|cases h
def gb (s:ByteArray) (k:Nat):UInt8:=s.data.toList.getD k 0
def seq (x y:ByteArray):Bool:=x.data==y.data
def slt (x y:ByteArray):Bool:=Op.bytesLess x.toList y.toList
def qc2 (op:BinOp) (k:IntKind) (x y:Int):Int:=
 let a:=BitVec.ofInt k.bits x
 let b:=BitVec.ofInt k.bits y
 match op with
 | .and=>k.wrap (a &&&b).toNat
 | .or=>k.wrap (a |||b).toNat
 | .xor=>k.wrap (a ^^^ b).toNat
 | _=>k.wrap (a &&& ~~~b).toNat
def qgy (v:Value) (K:Value→Prop):Prop:=
 match v with
 | .bool b=>K (.bool b)
 | .int k n=>K (.int k n)
 | .float k n=>K (.float k n)
 | .complex k a b=>K (.complex k a b)
 | .string s=>K (.string s)
 | .pointer a=>K (.pointer a)
 | .slice a l c=>K (.slice a l c)
 | .map r=>K (.map r)
 | .chan r=>K (.chan r)
 | .func f a c=>K (.func f a c)
 | .nilFunc=>K .nilFunc
 | .iface t v=>K (.iface t v)
 | .nilIface=>K .nilIface
 | .agg cs=>K (.agg cs)
 | .tuple vs=>K (.tuple vs)
theorem qbc (v:Value) (K:Value→Prop):qgy v K=K v:=by cases v<;>rfl
def qby:List Value→(List Value→Prop)→Prop
 | [],K=>K []
 | v::l,K=>qgy v fun u=>qby l fun r=>K (u::r)
theorem qap (l:List Value):∀ K:List Value→Prop,qby l K=K l:=by
 induction l<;>grind [qby,qbc]
def evs (ρ:Nat→Value):List Operand→List Value
 | []=>[]
 | x::l=>ev ρ x::evs ρ l
theorem qcz (ρ:Nat→Value) (l:List Operand):evs ρ l=l.map (ev ρ):=by induction l<;>simp [evs, *]
def setL:List Value→Nat→Value→List Value
 | [],_,_=>[]
 | _::l,0,v=>v::l
 | x::l,i+1,v=>x::setL l i v
theorem q90 (l:List Value) (i:Nat) (v:Value):setL l i v=l.set i v:=by
 induction l generalizing i with
 | nil=>rfl
 | cons x l ih=>cases i<;>simp [setL,ih]
def qfa:Operand→Bool
 | .const _=>true
 | _=>false
def isEq:BinOp→Bool
 | .eql | .neq=>true
 | _=>false
def eqOp:BinOp→Bool
 | .eql=>true
 | _=>false
def qjd (P:Program) (t:TypeId) (xo yo:Operand) (x y:Value):Option Bool:=
 match x,y with
 | .pointer none,.pointer b=>match P.underlying t with|some (.pointer _)=>some b.isNone|_=>none
 | .pointer (some _),.pointer none=>match P.underlying t with|some (.pointer _)=>some false|_=>none
 | .slice none _ _,.slice b _ _=>match P.underlying t with|some (.slice _)=>some b.isNone|_=>none
 | .slice (some _) _ _,.slice none _ _=>match P.underlying t with|some (.slice _)=>some false|_=>none
 | .nilIface,.nilIface=>match P.underlying t with|some (.interface _)=>(bif qfa xo||qfa yo then some true else none)|_=>none
 | .nilIface,.iface _ _=>match P.underlying t with|some (.interface _)=>some false|_=>none
 | .iface _ _,.nilIface=>match P.underlying t with|some (.interface _)=>some false|_=>none
 | _,_=>none
def binV (P:Program) (op:BinOp) (t:TypeId) (xo yo:Operand) (x y:Value) (w:World) (K:Value→Prop) (KW:Value→World→Prop):Prop:=
 match x,y with
 | .int k a,.int k' b=>
  match op with
  | .shl=>Wit (fun r=>0≤b∧b<k.bits∧k.wrap (a*2 ^ b.toNat)=r) (fun r=>K (.int k r))
  | .shr=>Wit (fun r=>0≤b∧b<k.bits∧a/2 ^ b.toNat=r) (fun r=>K (.int k r))
  | _=>bif eqk k k' then
   match op with
   | .add=>Obl (InR k (a+b)) (K (.int k (a+b)))
   | .sub=>Obl (InR k (a-b)) (K (.int k (a-b)))
   | .mul=>Obl (InR k (a*b)) (K (.int k (a*b)))
   | .quo=>Obl (0≤a∧0<b∧InR k (a/b)) (K (.int k (a/b)))
   | .rem=>Obl (0≤a∧0<b) (K (.int k (a%b)))
   | .eql=>K (.bool (decide (a=b)))
   | .neq=>K (.bool (decide (a≠b)))
   | .lss=>K (.bool (decide (a<b)))
   | .leq=>K (.bool (decide (a≤b)))
   | .gtr=>K (.bool (decide (b<a)))
   | .geq=>K (.bool (decide (b≤a)))
   | _=>Wit (fun r=>qc2 op k a b=r) (fun r=>K (.int k r))
   else False
 | .string a,.string b=>
  match op with
  | .add=>Obl (a.size+b.size≤9223372036854775807) (K (.string (a++b)))
  | .eql=>K (.bool (seq a b))
  | .neq=>K (.bool (!seq a b))
  | .lss=>K (.bool (slt a b))
  | .leq=>K (.bool (slt a b||seq a b))
  | .gtr=>K (.bool (!(slt a b||seq a b)))
  | .geq=>K (.bool (!slt a b))
  | _=>False
 | .bool a,.bool b=>
  match op,P.underlying t with
  | .eql,some .bool=>K (.bool (a==b))
  | .neq,some .bool=>K (.bool (!(a==b)))
  | _,_=>False
 | x,y=>bif isEq op then (match qjd P t xo yo x y with|some b=>K (.bool (bif eqOp op then b else !b))|none=>RunV P (do eqGuard op t xo yo x y;binOp op t x y) w KW) else RunV P (do eqGuard op t xo yo x y;binOp op t x y) w KW
theorem qke (a b:ByteArray):(a.toList==b.toList)=seq a b:=by
 grind [seq,ByteArray.toList_eq,Array.toList_inj]
theorem qa9 {a b:ByteArray}:seq a b=true↔a=b:=by
 unfold seq;rw [beq_iff_eq];cases a;cases b;simp
theorem qou {a b:ByteArray}:seq a b=false↔a≠b:=by
 grind [qa9]
theorem Tst.seq {a b:ByteArray} {p q:Prop} (h1:a=b→p) (h2:a≠b→q):Tst (seq a b) p q:=⟨fun e=>h1 (qa9.1 e),fun e=>h2 (qou.1 e)⟩
theorem InR.wrap {k:IntKind} {n:Int} (h:InR k n):k.wrap n=n:=by
 cases k<;>obtain ⟨h1,h2⟩:=h<;>simp [IntKind.bits,IntKind.signed,IntKind.wrap]<;>(try split)<;>omega
theorem qb9 {P:Program} {w:World} {k:IntKind} {a b:Int} {op:BinOp} (t:TypeId) (xo yo:Operand) (h:op=.and∨op=.or∨op=.xor∨op=.andNot) :
  (do eqGuard op t xo yo (.int k a) (.int k b);binOp op t (.int k a) (.int k b):Sem Value).run P w=.ok (.int k (qc2 op k a b)) w:=by
 rcases h with rfl|rfl|rfl|rfl<;>simp [eqGuard,binOp,Op.intBits,qc2,go_sem]<;>rfl
theorem qh3 {P:Program} {w:World} {t:TypeId} {a b:Bool} (d:Nat) (hu:P.underlying t=some .bool) :
  (Op.equalIn (d+1) t (.bool a) (.bool b)).run P w=.ok (a==b) w:=by
 simp [Op.equalIn,run_underlying hu]
theorem qe6 {P:Program} {w:World} {t:TypeId} {a b:Bool} (hu:P.underlying t=some .bool) :
  (Op.equal t (.bool a) (.bool b)).run P w=.ok (a==b) w:=qh3 9999 hu
theorem qjn {P:Program} {w:World} {t:TypeId} {xo yo:Operand} {x y:Value} {b:Bool} (d:Nat) (h:qjd P t xo yo x y=some b):(Op.equalIn (d+1) t x y).run P w=.ok b w:=by
 unfold qjd at h
 split at h
 ·split at h
  all_goals simp_all [Op.equalIn,run_underlying]
 ·split at h
  all_goals simp_all [Op.equalIn,run_underlying]
 ·split at h
  ·rename_i hu;cases h;simp [Op.equalIn,run_underlying hu]
  ·cases h
 ·split at h
  ·rename_i hu;cases h;simp [Op.equalIn,run_underlying hu]
  ·cases h
 ·split at h
  ·rename_i hu
   cases hc:qfa xo||qfa yo<;>rw [hc] at h
   all_goals simp_all [Op.equalIn,run_underlying]
  ·cases h
 ·split at h
  all_goals simp_all [Op.equalIn,run_underlying]
 ·split at h
  all_goals simp_all [Op.equalIn,run_underlying]
 ·cases h
theorem qjm {P:Program} {w:World} {t:TypeId} {xo yo:Operand} {x y:Value} {b:Bool} {op:BinOp} (h:qjd P t xo yo x y=some b):(eqGuard op t xo yo x y).run P w=.ok () w:=by
 unfold qjd at h
 split at h
 all_goals try (cases op<;>simp [eqGuard];done)
 ·split at h
  ·cases hc:qfa xo||qfa yo<;>rw [hc] at h
   ·cases h
   ·cases op<;>cases xo<;>cases yo<;>simp_all [eqGuard,qfa]
  ·cases h
 ·cases h
theorem q9u {P:Program} {w:World} {t:TypeId} {xo yo:Operand} {x y:Value} {b:Bool} {op:BinOp} (ho:isEq op=true) (h:qjd P t xo yo x y=some b)
  (h1:∀ k a,x≠.int k a) (h2:∀ a,x≠.string a) (h3:∀ a,x≠.bool a) :
  (do eqGuard op t xo yo x y;binOp op t x y:Sem Value).run P w=.ok (.bool (bif eqOp op then b else !b)) w:=by
 have hg:=qjm (w:=w) (op:=op) h;have he:=qjn (w:=w) 9999 h;cases op<;>first|(cases ho;done)|skip
 ·unfold qjd at h;cases x<;>cases y<;>first|(cases h;done)|(simp [hg,binOp,Op.equal,Op.maxDepth,he,eqOp])
 ·unfold qjd at h;cases x<;>cases y<;>first|(cases h;done)|(simp [hg,binOp,Op.equal,Op.maxDepth,he,eqOp])
theorem quj {P:Program} {op:BinOp} {t:TypeId} {xo yo:Operand} {x y:Value} {w:World} {K:Value→World→Prop}
  (h:binV P op t xo yo x y w (fun v=>K v w) K) :
  ∃ v w',(do eqGuard op t xo yo x y;binOp op t x y:Sem Value).run P w=.ok v w'∧K v w':=by
 unfold binV at h
 split at h
 ·rename_i k a k' b
  have hkk:op≠.shl→op≠.shr→eqk k k'=true:=by
   grind
  cases op<;>simp only at h
  case shl=>
   obtain ⟨r,⟨h0,h1,rfl⟩,hk⟩:=h;refine ⟨_,w,?_,hk⟩;have e:¬ b<0:=by omega
   have e2:min b.toNat k.bits=b.toNat:=by omega
   have es:Op.shift .shl k a k' b=pure (.int k (k.wrap (a*2 ^ b.toNat))):=by grind [Op.shift]
   simp_all [eqGuard,binOp]
  case shr=>
   obtain ⟨r,⟨h0,h1,rfl⟩,hk⟩:=h;refine ⟨_,w,?_,hk⟩;have e:¬ b<0:=by omega
   have e2:min b.toNat k.bits=b.toNat:=by omega
   have e3:a.fdiv (2 ^ b.toNat)=a/2 ^ b.toNat:=(by grind)
   have es:Op.shift .shr k a k' b=pure (.int k (a/2 ^ b.toNat)):=by grind [Op.shift]
   simp_all [eqGuard,binOp]
  all_goals (obtain rfl:=qabl (hkk Js Js);rw [hkk Js Js] at h;simp only [cond_true] at h)
  case add=>obtain ⟨hr,hk⟩:=h;exact ⟨_,w,by simp [eqGuard,binOp,Op.intArith,go_sem,hr.wrap],hk⟩
  case sub=>obtain ⟨hr,hk⟩:=h;exact ⟨_,w,by simp [eqGuard,binOp,Op.intArith,go_sem,hr.wrap],hk⟩
  case mul=>obtain ⟨hr,hk⟩:=h;exact ⟨_,w,by simp [eqGuard,binOp,Op.intArith,go_sem,hr.wrap],hk⟩
  case quo=>
   obtain ⟨⟨h0,h1,hr⟩,hk⟩:=h;refine ⟨_,w,?_,hk⟩;have e:b≠0:=by omega
   have e2:a.tdiv b=a/b:=(by grind)
   simp [eqGuard,binOp,Op.intDiv,go_sem,e,e2,hr.wrap]
  case rem=>
   obtain ⟨⟨h0,h1⟩,hk⟩:=h;refine ⟨_,w,?_,hk⟩;have e:b≠0:=by omega
   simp_all [Int.tmod_eq_emod_of_nonneg,eqGuard,binOp,Op.intDiv]
  case and=>obtain ⟨r,rfl,hk⟩:=h;grind [qb9]
  case or=>obtain ⟨r,rfl,hk⟩:=h;grind [qb9]
  case xor=>obtain ⟨r,rfl,hk⟩:=h;grind [qb9]
  case andNot=>obtain ⟨r,rfl,hk⟩:=h;grind [qb9]
  case eql=>
   refine ⟨_,w,?_,h⟩;have e:(a==b)=decide (a=b):=rfl;simp [eqGuard,binOp,Op.intCmp,go_sem,e]
  case neq=>
   refine ⟨_,w,?_,h⟩;have e:(a != b)=decide (a≠b):=by grind
   simp [eqGuard,binOp,Op.intCmp,go_sem,e]
  case lss=>exact ⟨_,w,by simp [eqGuard,binOp,Op.intCmp],h⟩
  case leq=>exact ⟨_,w,by simp [eqGuard,binOp,Op.intCmp],h⟩
  case gtr=>exact ⟨_,w,by simp [eqGuard,binOp,Op.intCmp],h⟩
  case geq=>exact ⟨_,w,by simp [eqGuard,binOp,Op.intCmp],h⟩
 ·rename_i a b
  cases op<;>simp only at h
  case add=>
   obtain ⟨h1,hk⟩:=h;refine ⟨_,w,?_,hk⟩;simp [eqGuard,binOp,Op.stringOp,go_sem];omega
  case eql=>exact ⟨_,w,by simp [eqGuard,binOp,Op.stringOp,qke],h⟩
  case neq=>exact ⟨_,w,by simp [eqGuard,binOp,Op.stringOp,qke],h⟩
  case lss=>exact ⟨_,w,by rfl,h⟩
  case leq=>exact ⟨_,w,by simp [eqGuard,binOp,Op.stringOp,slt,qke],h⟩
  case gtr=>exact ⟨_,w,by simp [eqGuard,binOp,Op.stringOp,slt,qke],h⟩
  case geq=>exact ⟨_,w,by rfl,h⟩
 ·rename_i a b
  split at h
  ·rename_i hu
   exact ⟨_,w,by simp [eqGuard,binOp,qe6 hu,go_sem],h⟩
  ·rename_i hu
   exact ⟨_,w,by simp [eqGuard,binOp,qe6 hu,go_sem],h⟩
  ·exact h.elim
 ·cases ho:isEq op<;>rw [ho] at h<;>dsimp only [cond_true,cond_false] at h
  ·obtain ⟨v,w',h1,h2⟩:=h
   grind
  ·split at h
   ·rename_i b hb
    exact ⟨_,w,q9u ho hb (by grind [qjd]) (by grind [qjd]) (by grind [qjd]),h⟩
   ·obtain ⟨v,w',h1,h2⟩:=h
    grind
def aggD:TypeDesc→Bool
 | .struct _ | .array _ _=>true
 | _=>false
def tsz (P:Program) (t:TypeId):Nat:=match P.info? t with|some i=>i.size|none=>0
def hasT (P:Program) (t:TypeId):Bool:=(P.info? t).isSome
def getL {α:Type}:List α→Nat→Option α
 | [],_=>none
 | v::_,0=>some v
 | _::l,i+1=>getL l i
theorem qax {α:Type} (l:List α) (i:Nat):getL l i=l[i]?:=by
 induction l generalizing i with
 | nil=>rfl
 | cons v l ih=>cases i<;>simp [getL,ih]
structure IdxV (i:Int) (n:Nat) (K:Nat→Prop):Prop where
 h:∃ j:Nat,i=(j:Int)∧j<n∧K j
def OpOk2 (P:Program) (s:Sem Next) (w:World) (K:Value→World→Prop):Prop:=
 (∃ v w',s.run P w=.ok (.value v) w'∧K v w')∨(∃ w',s.run P w=.ok .skip w'∧K undef w')
def OpOk (P:Program) (s:Sem Next) (w:World) (K:Value→World→Prop):Prop:=
 OpOk2 P s w K∨(∃ f args,s.run P w=.ok (.enter f args) w∧Calls P f args w fun e w'=>∃ v,e=.returned v∧K v w')
theorem OpOk2.val {P:Program} {s:Sem Value} {w:World} {K:Value→World→Prop} (h:∃ v w',s.run P w=.ok v w'∧K v w') :
  OpOk2 P (do pure (.value (← s))) w K:=by
 obtain ⟨v,w',h1,h2⟩:=h;exact .inl ⟨v,w',by simp [h1],h2⟩
theorem OpOk2.unit {P:Program} {s:Sem Unit} {w:World} {K:Value→World→Prop} (h:∃ w',s.run P w=.ok () w'∧K undef w') :
  OpOk2 P (do s;pure .skip) w K:=by
 obtain ⟨w',h1,h2⟩:=h;exact .inr ⟨w',by simp [h1],h2⟩
theorem OpOk.wp {P:Program} {o:Oper} {ρ:Nat→Value} {w:World} {K:Value→World→Prop} {a:Act} {next:Act→World→Prop} {Q:Exit→Act→World→Prop}
  (he:a.eval=ev ρ) (h:OpOk P (execOp (ev ρ) o) w K) (hn:∀ v w',K v w'→next (a.put o.dst v) w'):o.wp P a w next Q:=by
 unfold Oper.wp;rw [he]
 rcases h with (⟨v,w',h1,h2⟩|⟨w',h1,h2⟩)|⟨f,args,h1,h2⟩
 ·rw [h1];exact hn _ _ h2
 ·rw [h1];exact hn _ _ h2
 ·rw [h1,Oper.upon_enter];refine h2.mono fun e w' ⟨v,he,hk⟩=>?_
  simp_all
def q89 (c a b:Value) (K:Value→Prop):Prop:=
 match c with
 | .bool t=>Tst t (qgy a K) (qgy b K)
 | _=>False
def idxV (P:Program) (t:TypeId) (x i:Value) (K:Value→Prop):Prop:=
 match P.underlying t,x,i with
 | some .string,.string s,.int _ i=>IdxV i s.size fun j=>K (.int .u8 (gb s j).toNat)
 | some (.array n e),.agg cs,.int _ i=>
  match P.underlying e with
  | some d=>bif hasT P e then bif aggD d then IdxV i n fun j=>Wit (fun l:List Value=>(cs.toList.drop (j*tsz P e)).take (tsz P e)=l) fun l=>K (.agg l.toArray)
   else IdxV i n fun j=>Wit (fun v:Value=>cs.toList[j*tsz P e]?=some v) K else False
  | none=>False
 | _,_,_=>False
def ql4 (P:Program) (t:TypeId) (x i:Value) (K:Value→Prop):Prop:=
 match P.underlying t,x,i with
 | some (.slice e),.slice A len _,.int _ i=>bif hasT P e then ElemV A i len (tsz P e) K else False
 | some (.array n e),.pointer (some ⟨b,off,none⟩),.int _ i=>bif hasT P e then IdxV i n fun j=>K (.pointer (some ⟨b,off+j*tsz P e,none⟩)) else False
 | _,_,_=>False
def qu0 (P:Program) (t:TypeId) (x:Value) (w:World) (K:Value→Prop):Prop:=
 match P.underlying t,x with
 | some d,.pointer (some ⟨b,off,none⟩)=>
  bif aggD d then bif hasT P t then LoadA w b off (tsz P t) fun cs=>qby cs fun l=>K (.agg l.toArray) else False
  else LoadV w b off fun v=>qgy v K
 | _,_=>False
def q07 (P:Program) (t:TypeId) (x v:Value) (w:World) (s:Sem Next) (K:Value→World→Prop):Prop:=
 match x with
 | .pointer (some ⟨b,off,none⟩)=>
  match v with
  | .tuple _=>Fall P s w K
  | .agg cs=>bif hasT P t&&Nat.beq (tsz P t) cs.toList.length then StoreA P w b off cs.toList fun w'=>K undef w' else False
  | v=>bif hasT P t&&Nat.beq (tsz P t) 1 then StoreV w b off v fun w'=>K undef w' else False
 | _=>False
def qlv (x:Value) (ix:Nat) (K:Value→Prop):Prop:=
 match x with
 | .tuple vs=>match getL vs.toList ix with
  | some v=>qgy v K
  | none=>False
 | _=>False
def qgv (P:Program) (t:TypeId) (x:Value) (f:Nat) (K:Value→Prop):Prop:=
 match P.underlying t,x with
 | some (.struct fs),.pointer (some ⟨b,off,none⟩)=>
  match getL fs.toList f with
  | some f=>bif hasT P f.type && !Nat.beq (tsz P f.type) 0 then K (.pointer (some ⟨b,off+f.offset,none⟩)) else False
  | none=>False
 | _,_=>False
def qxy (P:Program) (t:TypeId) (x:Value) (f:Nat) (K:Value→Prop):Prop:=
 match P.underlying t,x with
 | some (.struct fs),.agg cs=>
  match getL fs.toList f with
  | some f=>match P.underlying f.type with
   | some d=>bif aggD d then bif hasT P f.type then qby ((cs.toList.drop f.offset).take (tsz P f.type)) fun l=>K (.agg l.toArray) else False
    else match getL cs.toList f.offset with
     | some v=>qgy v K
     | none=>False
   | none=>False
  | none=>False
 | _,_=>False
def boxV (t:TypeId) (v:Value) (w:World) (K:Value→World→Prop):Prop:=
 qby v.cells.toList fun l=>NewV w (.cells l.toArray t) fun b w'=>K (.pointer (some ⟨b,0,none⟩)) w'
def qwu (P:Program) (t:TypeId) (w:World) (K:Value→World→Prop):Prop:=
 match P.info? t with
 | some i=>match i.zero with
  | some z=>boxV t z w K
  | none=>False
 | none=>False
def CellsAt (w:World) (b off:Nat) (vs:List Value):Prop:=∀ k v,vs[k]?=some v→w.cell? ⟨b,off+k,none⟩=some v
def byteCells (l:List UInt8):List Value:=l.map fun c=>.int .u8 c.toNat
structure BytesS (w:World) (A:Option Addr) (n:Nat) (K:Value→Prop):Prop where
 h:∃ l:List UInt8,l.length=n∧(l≠[]→∃ b off,A=some ⟨b,off,none⟩∧CellsAt w b off (byteCells l))∧K (.string ⟨l.toArray⟩)
structure NewBytesV (s:ByteArray) (e:TypeId) (w:World) (K:Value→World→Prop):Prop where
 h:∀ cap cs b w',s.size≤cap→cs=(byteCells s.data.toList++List.replicate (cap-s.size) (Value.int .u8 0)).toArray→b=w.heap.size→
  w'=w.drew.alloc (.cells cs e (cs.size,cs.size+1))→K (.slice (some ⟨b,0,none⟩) s.size cap) w'
def q7o (P:Program) (src dst:TypeId) (x:Value) (w:World) (s:Sem Next) (K:Value→World→Prop):Prop:=
 match P.underlying src,P.underlying dst,x with
 | some _,some (.int k),.int _ n=>Wit (fun r=>k.wrap n=r) fun r=>K (.int k r) w
 | some .string,some .string,.string s=>K (.string s) w
 | some (.int _),some .string,.int _ n=>K (.string (Utf8.encode n)) w
 | some (.slice e),some .string,.slice A n _=>match P.underlying e with
  | some (.int .u8)=>BytesS w A n fun v=>K v w
  | _=>Fall P s w K
 | some .string,some (.slice e),.string x=>match P.underlying e with
  | some (.int .u8)=>NewBytesV x e w K
  | _=>Fall P s w K
 | _,_,_=>Fall P s w K
def unV (op:UnOp) (x:Value) (K:Value→Prop):Prop:=
 match op,x with
 | .not,.bool b=>K (.bool (!b))
 | .neg,.int k n=>Obl (InR k (-n)) (K (.int k (-n)))
 | .xor,.int k n=>Wit (fun r=>qc2 .xor k (if k.signed then -1 else k.max) n=r) (fun r=>K (.int k r))
 | _,_=>False
def bnd (o:Option Value) (d n:Nat):Prop:=
 match o with
 | none=>n=d
 | some (.int _ i)=>i=(n:Int)
 | _=>False
structure SliceS (s:ByteArray) (lo hi:Option Value) (K:Value→Prop):Prop where
 h:∃ l h:Nat,bnd lo 0 l∧bnd hi s.size h∧l≤h∧h≤s.size∧K (.string (s.extract l h))
structure SliceV (size:Nat) (A:Option Addr) (len cap:Nat) (lo hi mx:Option Value) (K:Value→Prop):Prop where
 h:∃ l h m:Nat,bnd lo 0 l∧bnd hi len h∧bnd mx cap m∧l≤h∧h≤m∧m≤cap∧(mx.isSome=true→hi.isSome=true)∧
  ∀ A',A'=(if m=l then A else A.map (·.add (l*size)))→K (.slice A' (h-l) (m-l))
def evo (ρ:Nat→Value):Option Operand→Option Value
 | none=>none
 | some x=>some (ev ρ x)
def q0y (P:Program) (t:TypeId) (x:Value) (lo hi mx:Option Value) (w:World) (s:Sem Next) (K:Value→World→Prop):Prop:=
 match P.underlying t,x with
 | some .string,.string s=>match mx with
  | none=>SliceS s lo hi fun v=>K v w
  | some _=>False
 | some (.slice e),.slice A len cap=>bif hasT P e then SliceV (tsz P e) A len cap lo hi mx fun v=>K v w else False
 | _,_=>Fall P s w K
def lenV (P:Program) (t:Option TypeId) (x:List Value) (w:World) (s:Sem Next) (K:Value→World→Prop):Prop:=
 match t,x with
 | some t,v::_=>match P.underlying t,v with
  | some .string,.string s=>K (.int .i64 s.size) w
  | some (.slice _),.slice _ n _=>K (.int .i64 n) w
  | _,_=>Fall P s w K
 | _,_=>Fall P s w K
structure CallV (P:Program) (f:FuncId) (args:List Value) (w:World) (K:Value→World→Prop):Prop where
 h:Gv P f args w K∨∃ v w',(callFunc f args.toArray).run P w=.ok (.value v) w'∧K v w'
def appV (P:Program) (argTypes:Array TypeId) (ty:TypeId) (vs:List Value) (w:World) (s:Sem Next) (K:Value→World→Prop):Prop:=
 match vs with
 | [a,b]=>qgy a fun a=>qgy b fun b=>AppV P argTypes ty a b w fun v w'=>qgy v fun v=>K v w'
 | _=>Fall P s w K
structure InvV (P:Program) (t:TypeId) (v:Value) (name:String) (vs:List Value) (w:World) (K:Value→World→Prop):Prop where
 h:∃ f r,(method (P.types.size+Made.depth) t v name).run P w=.ok (f,r) w∧CallV P f (r::vs) w K
def qw6 (P:Program) (c:Call) (ty:TypeId) (ρ:Nat→Value) (w:World) (s:Sem Next) (K:Value→World→Prop):Prop:=
 match c.callee with
 | .value f=>match ev ρ f with
  | .func (.func g) first captured=>qby (evs ρ c.args.toList) fun vs=>
   match first.toList,captured.toList with
   | [],[]=>CallV P g vs w K
   | x,y=>CallV P g (x++(vs++y)) w K
  | _=>Fall P s w K
 | .builtin .len=>lenV P (getL c.argTypes.toList 0) (evs ρ c.args.toList) w s K
 | .builtin .append=>appV P c.argTypes ty (evs ρ c.args.toList) w s K
 | .invoke recv name=>match ev ρ recv with
  | .iface t v=>qby (evs ρ c.args.toList) fun vs=>InvV P t v name vs w K
  | _=>Fall P s w K
 | _=>Fall P s w K
def csz:Value→Nat
 | .agg cs=>cs.size
 | _=>1
def qov:List Value→Nat→List Value→List Value
 | l,_,[]=>l
 | l,off,v::vs=>qov (setL l off v) (off+1) vs
def qut (place:Nat→Option (Nat × Nat)) (cells:List Value):List (Nat × Value)→Option (List Value)
 | []=>some cells
 | (i,v)::rest=>
  match place i with
  | none=>none
  | some (off,size)=>bif Nat.beq (csz v) size&&Nat.ble (off+csz v) cells.length then qut place (qov cells off v.cells.toList) rest else none
def evp (ρ:Nat→Value):List (Nat × Operand)→List (Nat × Value)
 | []=>[]
 | (i,x)::l=>(i,ev ρ x)::evp ρ l
def qe2 (P:Program):List Field→List (Nat × Nat)
 | []=>[]
 | f::l=>(f.offset,tsz P f.type)::qe2 P l
def allT (P:Program):List Field→Bool
 | []=>true
 | f::l=>hasT P f.type&&allT P l
def qw2 (P:Program) (t:TypeId) (parts:List (Nat × Value)) (K:Value→Prop):Prop:=
 match P.info? t with
 | some i=>match i.zero with
  | some z=>match P.underlying t with
   | some (.struct fs)=>bif allT P fs.toList then
     match qut (fun k=>getL (qe2 P fs.toList) k) z.cells.toList parts with
     | some l=>qby l fun l=>K (.agg l.toArray)
     | none=>False
    else False
   | some (.array _ e)=>bif hasT P e then
     match qut (fun k=>some (k*tsz P e,tsz P e)) z.cells.toList parts with
     | some l=>qby l fun l=>K (.agg l.toArray)
     | none=>False
    else False
   | _=>False
  | none=>False
 | none=>False
def qcv (z:List Value):Nat→List Value
 | 0=>[]
 | n+1=>z++qcv z n
def qe8 (P:Program) (t:TypeId) (len:Nat) (parts:List (Nat × Value)) (w:World) (K:Value→World→Prop):Prop:=
 match P.underlying t with
 | some (.slice e)=>match P.info? e with
  | some i=>match i.zero with
   | some z=>bif Nat.beq z.cells.toList.length i.size&&Nat.ble (len*i.size) 16777216 && !Nat.beq i.size 0 then
     match qut (fun k=>some (k*i.size,i.size)) (qcv z.cells.toList len) parts with
     | some l=>qby l fun l=>NewV w (.cells l.toArray e) fun b w'=>K (.slice (some ⟨b,0,none⟩) len len) w'
     | none=>False
    else False
   | none=>False
  | none=>False
 | _=>False
structure MakeV (z:List Value) (bytes e:Nat) (len cap:Int) (w:World) (K:Value→World→Prop):Prop where
 h:∃ l c:Nat,len=(l:Int)∧cap=(c:Int)∧l≤c∧c*bytes≤140737488355328∧c<9223372036854775808∧
  ∀ b w',b=w.heap.size→w'=w.alloc (.cells (qcv z c).toArray e)→K (.slice (some ⟨b,0,none⟩) l c) w'
def qg5 (P:Program) (t:TypeId) (len cap:Value) (w:World) (K:Value→World→Prop):Prop:=
 match P.underlying t,len,cap with
 | some (.slice e),.int _ len,.int _ cap=>match P.info? e with
  | some i=>match i.zero with
   | some z=>bif Nat.beq z.cells.toList.length i.size && !Nat.beq i.size 0 then MakeV z.cells.toList i.bytes e len cap w K else False
   | none=>False
  | none=>False
 | _,_,_=>False
def qg4 (P:Program) (t:TypeId) (x:Value) (K:Value→Prop):Prop:=
 match P.underlying t with
 | some (.interface _)=>False
 | some _=>K (.iface t x)
 | none=>False
def nilV (P:Program) (x:Value) (w:World) (s:Sem Next) (K:Value→World→Prop):Prop:=
 match x with
 | .pointer (some a)=>K (.pointer (some a)) w
 | _=>Fall P s w K
def setO (w:World) (r:Nat) (o:Obj):World:={ w with heap:=w.heap.setIfInBounds r o }
def q0d (P:Program) (t:TypeId) (x:Value) (w:World) (s:Sem Next) (K:Value→World→Prop):Prop:=
 match P.underlying t,x with
 | some .string,.string s=>NewV w (.stringIter s 0) fun b w'=>K (.pointer (some ⟨b,0,none⟩)) w'
 | _,_=>Fall P s w K
structure NextS (w:World) (r:Nat) (K:Value→World→Prop):Prop where
 h:∃ s pos,w.heap[r]?=some (.stringIter s pos)∧
  (pos<s.size→∀ w',w'=setO w r (.stringIter s (pos+(Utf8.decode s pos).2))→K (.tuple #[.bool true,.int .i64 pos,.int .i32 (Utf8.decode s pos).1]) w')∧
  (¬ pos<s.size→K (.tuple #[.bool false]) w)
def q8j (P:Program) (x:Value) (isString:Bool) (w:World) (s:Sem Next) (K:Value→World→Prop):Prop:=
 match isString,x with
 | true,.pointer (some ⟨r,0,none⟩)=>NextS w r K
 | _,_=>Fall P s w K
def opV (P:Program) (o:Oper) (ρ:Nat→Value) (w:World) (K:Value→World→Prop):Prop:=
 match o.op with
 | .move x | .assign x=>qgy (ev ρ x) fun v=>K v w
 | .pick c a b=>q89 (ev ρ c) (ev ρ a) (ev ρ b) fun v=>K v w
 | .binOp op t x y _=>binV P op t x y (ev ρ x) (ev ρ y) w (fun v=>K v w) K
 | .unOp op _ x=>unV op (ev ρ x) fun v=>K v w
 | .convert src dst x=>q7o P src dst (ev ρ x) w (execOp (ev ρ) o) K
 | .index t x i=>idxV P t (ev ρ x) (ev ρ i) fun v=>K v w
 | .indexAddr t x i=>ql4 P t (ev ρ x) (ev ρ i) fun v=>K v w
 | .load t x=>qu0 P t (ev ρ x) w fun v=>K v w
 | .store t x v=>q07 P t (ev ρ x) (ev ρ v) w (execOp (ev ρ) o) K
 | .extract x ix=>qlv (ev ρ x) ix fun v=>K v w
 | .fieldAddr t x f=>qgv P t (ev ρ x) f fun v=>K v w
 | .field t x f=>qxy P t (ev ρ x) f fun v=>K v w
 | .box t x=>boxV t (ev ρ x) w K
 | .alloc t=>qwu P t w K
 | .slice t x lo hi mx=>q0y P t (ev ρ x) (evo ρ lo) (evo ρ hi) (evo ρ mx) w (execOp (ev ρ) o) K
 | .nilCheck x=>nilV P (ev ρ x) w (execOp (ev ρ) o) K
 | .call c=>qw6 P c o.type ρ w (execOp (ev ρ) o) K
 | .build t parts=>qw2 P t (evp ρ parts.toList) fun v=>K v w
 | .buildSlice t len parts=>qe8 P t len (evp ρ parts.toList) w K
 | .makeSlice t l c=>qg5 P t (ev ρ l) (ev ρ c) w K
 | .makeFunc fn first captured=>qby (evs ρ first.toList) fun a=>qby (evs ρ captured.toList) fun b=>K (.func fn a.toArray b.toArray) w
 | .makeInterface t x=>qg4 P t (ev ρ x) fun v=>K v w
 | .range t x=>q0d P t (ev ρ x) w (execOp (ev ρ) o) K
 | .next it b=>q8j P (ev ρ it) b w (execOp (ev ρ) o) K
 | _=>Fall P (execOp (ev ρ) o) w K
section
variable {P:Program} {w:World}
theorem Fall.ok {s:Sem Next} {K:Value→World→Prop} (h:Fall P s w K):OpOk2 P s w K:=by
 rcases h.h with h|h
 ·exact .inl h
 ·exact .inr h
theorem qacn {v:Value} {K:Value→World→Prop} (h:K v w):OpOk2 P (pure (.value v)) w K:=.inl ⟨v,w,rfl,h⟩
theorem valV {s:Sem Value} {v:Value} {K:Value→World→Prop} (hs:s.run P w=.ok v w) (h:K v w):OpOk2 P (do pure (.value (← s))) w K:=
 OpOk2.val (by grind)
theorem q3b {t:TypeId} (h:hasT P t=true):∃ i,P.info? t=some i∧tsz P t=i.size:=by
 unfold hasT at h;unfold tsz;cases e:P.info? t<;>grind
theorem qw {t:TypeId} (h:hasT P t=true):(sizeOf t).run P w=.ok (tsz P t) w:=by
 obtain ⟨i,h1,h2⟩:=q3b h;simp [sizeOf,typeInfo,h1,h2]
theorem qdb {t:TypeId} {d:TypeDesc} (h:P.underlying t=some d):(isAgg t).run P w=.ok (aggD d) w:=by
 cases d<;>simp [isAgg,run_underlying h,aggD]
theorem qhw {t:TypeId} {d:TypeDesc} (h:P.underlying t=some d) (hd:aggD d=true) (hi:hasT P t=true) (cs:Array Value) (off:Nat) :
  (part t cs off).run P w=.ok (.agg ((cs.toList.drop off).take (tsz P t)).toArray) w:=by
 simp [part,qdb h,hd,qw hi]
 grind
theorem qf9 {t:TypeId} {d:TypeDesc} (h:P.underlying t=some d) (hd:aggD d=false) (cs:Array Value) (off:Nat) {v:Value} (hv:cs.toList[off]?=some v) :
  (part t cs off).run P w=.ok v w:=by
 simp_all [part,qdb]
theorem q34 {ρ:Nat→Value} {c a b:Operand} {K:Value→World→Prop} (h:q89 (ev ρ c) (ev ρ a) (ev ρ b) (fun v=>K v w)) :
  OpOk2 P (do pure (.value (if ← asBool (ev ρ c) then ev ρ a else ev ρ b))) w K:=by
 unfold q89 at h
 split at h
 ·rename_i t e
  rw [e];cases t
  ·have:=h.f rfl;rw [qbc] at this;exact .inl ⟨_,w,by rfl,this⟩
  ·have:=h.t rfl;rw [qbc] at this;exact .inl ⟨_,w,by rfl,this⟩
 ·exact h.elim
theorem qabo (s:ByteArray) (j:Nat) (h:j<s.size):s[j]?=some (gb s j):=by
 unfold gb;have h':j<s.data.toList.length:=by simpa using h
 rw [List.getD_eq_getElem?_getD,List.getElem?_eq_getElem h',Option.getD_some];exact getElem?_pos s j h
theorem q76 {t:TypeId} {x i:Value} {K:Value→World→Prop} (h:idxV P t x i (fun v=>K v w)) :
  OpOk2 P (do pure (.value (← Instr.index t x i))) w K:=by
 unfold idxV at h
 split at h
 ·rename_i hu
  obtain ⟨j,rfl,hj,hk⟩:=h;refine valV ?_ hk;simp [Instr.index,asIntOf,run_underlying hu,qabo _ _ hj]
 ·rename_i hu
  split at h
  ·rename_i d hd
   cases hT:hasT P _<;>rw [hT] at h
   ·exact h.elim
   ·cases ha:aggD d<;>rw [ha] at h
    ·obtain ⟨j,rfl,hj,v,hv,hk⟩:=h;refine valV ?_ hk
     simp_all [Instr.index,asIntOf,run_underlying,qw,qf9]
    ·obtain ⟨j,rfl,hj,l,hl,hk⟩:=h;subst hl;refine valV ?_ hk
     simp_all [Instr.index,asIntOf,run_underlying,qw,qhw]
  ·exact h.elim
 ·exact h.elim
theorem q7 (b off n:Nat):(⟨b,off,none⟩:Addr).add n=⟨b,off+n,none⟩:=by
 grind [Addr.add]
theorem qp7 {t:TypeId} {x i:Value} {K:Value→World→Prop} (h:ql4 P t x i (fun v=>K v w)) :
  OpOk2 P (do pure (.value (← Instr.indexAt t x i))) w K:=by
 unfold ql4 at h
 split at h
 ·rename_i hu
  cases hT:hasT P _<;>rw [hT] at h
  ·exact h.elim
  ·obtain ⟨b,off,j,rfl,rfl,hj,hk⟩:=h;refine valV ?_ hk;simp [Instr.indexAt,asIntOf,run_underlying hu,hj,qw hT,q7]
 ·rename_i hu
  cases hT:hasT P _<;>rw [hT] at h
  ·exact h.elim
  ·obtain ⟨j,rfl,hj,hk⟩:=h;refine valV ?_ hk;simp [Instr.indexAt,asIntOf,run_underlying hu,hj,qw hT,q7,Instr.sureAddr]
 ·exact h.elim
theorem q3m {t:TypeId} {x:Value} {K:Value→World→Prop} (h:qu0 P t x w (fun v=>K v w)) :
  OpOk2 P (do pure (.value (← Instr.loadAt t x))) w K:=by
 unfold qu0 at h
 split at h
 ·rename_i d b off hu
  cases ha:aggD d<;>rw [ha] at h
  ·obtain ⟨v,hv,hk⟩:=h;rw [qbc] at hk;refine valV ?_ hk
   simp_all [Instr.loadAt,Instr.sureAddr,loadVar,qdb]
  ·cases hT:hasT P t<;>rw [hT] at h
   ·exact h.elim
   ·obtain ⟨cs,hl,hc,hk⟩:=h;rw [qap] at hk;refine valV ?_ hk;have:=run_loadCells_list (P:=P) w ⟨b,off,none⟩ cs (fun j v hv=>by
     have hj:j<cs.length:=by
      rcases Nat.lt_or_ge j cs.length with h|h
      ·exact h
      ·rw [List.getElem?_eq_none h] at hv;cases hv
     rw [q7,hc j Oo];exact hv)
    simp_all [Instr.loadAt,Instr.sureAddr,loadVar,qdb,qw]
 ·exact h.elim
theorem q08 {t:TypeId} {x v:Value} {s:Sem Next} {K:Value→World→Prop} (hs:s=(do Instr.storeAt t x v;pure .skip)) (h:q07 P t x v w s K) :
  OpOk2 P s w K:=by
 unfold q07 at h
 split at h
 ·rename_i b off
  split at h
  ·exact h.ok
  ·rename_i cs
   cases hT:hasT P t<;>rw [hT] at h
   ·exact h.elim
   ·cases hn:Nat.beq (tsz P t) cs.toList.length<;>rw [hn] at h
    ·exact h.elim
    ·obtain ⟨w',h1,hk⟩:=h;subst hs;have hn':tsz P t=cs.size:=by simp_all
     refine OpOk2.unit ⟨_,?_,hk⟩;have hc:(Value.agg cs).cells=cs:=rfl
     simp_all [Instr.storeAt,Instr.sureAddr,storeVar,qw]
  ·rename_i hv1 hv2
   cases hT:hasT P t<;>rw [hT] at h
   ·exact h.elim
   ·cases hn:Nat.beq (tsz P t) 1<;>rw [hn] at h
    ·exact h.elim
    ·obtain ⟨⟨o,ho⟩,hf,h1,hk⟩:=h;subst hs;have hn':tsz P t=1:=Nat.eq_of_beq_eq_true hn;refine OpOk2.unit ⟨_,?_,hk⟩
     simp_all [Instr.storeAt,Instr.sureAddr,storeVar,Value.cells,qw,storeCells,store,Sem.run,Addr.add]
 ·exact h.elim
theorem qp1 {x:Value} {ix:Nat} {K:Value→World→Prop} (h:qlv x ix (fun v=>K v w)) :
  OpOk2 P (do pure (.value (← Instr.extract x ix))) w K:=by
 unfold qlv at h
 split at h
 ·rename_i vs
  split at h
  ·rename_i v hv
   rw [qbc] at h;rw [qax] at hv;have hv':vs[ix]?=some v:=by simpa using hv
   refine valV ?_ h;simp [Instr.extract,hv']
  ·exact h.elim
 ·exact h.elim
theorem qlw {t:TypeId} {x:Value} {f:Nat} {K:Value→World→Prop} (h:qgv P t x f (fun v=>K v w)) :
  OpOk2 P (do pure (.value (← Instr.fieldAt t x f))) w K:=by
 unfold qgv at h
 split at h
 ·rename_i fs b off hu
  split at h
  ·rename_i fd hfd
   rw [qax] at hfd;have hfd':fs[f]?=some fd:=by simpa using hfd
   cases hT:hasT P fd.type<;>rw [hT] at h
   ·exact h.elim
   ·cases hz:Nat.beq (tsz P fd.type) 0<;>rw [hz] at h
    ·refine valV ?_ h;have hz':¬ tsz P fd.type=0:=fun e=>by simp_all
     simp_all [Instr.fieldAt,run_underlying,Instr.sureAddr,fieldPlace,qw,q7]
    ·exact h.elim
  ·exact h.elim
 ·exact h.elim
theorem qxz {t:TypeId} {x:Value} {f:Nat} {K:Value→World→Prop} (h:qxy P t x f (fun v=>K v w)) :
  OpOk2 P (do pure (.value (← Instr.field t x f))) w K:=by
 unfold qxy at h
 split at h
 ·rename_i fs cs hu
  split at h
  ·rename_i fd hfd
   rw [qax] at hfd;have hfd':fs[f]?=some fd:=by simpa using hfd
   split at h
   ·rename_i d hd
    cases ha:aggD d<;>rw [ha] at h
    ·simp only [cond_false] at h
     split at h
     ·rename_i v hv
      rw [qbc] at h;rw [qax] at hv;refine valV ?_ h
      simp_all [Instr.field,run_underlying,asAgg,qf9]
     ·exact h.elim
    ·cases hT:hasT P fd.type<;>rw [hT] at h
     ·exact h.elim
     ·simp only [cond_true,qap] at h;refine valV ?_ h
      simp_all [Instr.field,run_underlying,asAgg,qhw]
   ·exact h.elim
  ·exact h.elim
 ·exact h.elim
theorem qr4 {t:TypeId} {v:Value} {K:Value→World→Prop} (h:boxV t v w K) :
  ∃ a,(newVar t v).run P w=.ok a (w.alloc (.cells v.cells t))∧K (.pointer (some a)) (w.alloc (.cells v.cells t)):=by
 unfold boxV at h;rw [qap] at h;refine ⟨⟨w.heap.size,0,none⟩,by rfl,?_⟩;have:=h.h w.heap.size (w.alloc (.cells v.cells t)) rfl Js;exact this
theorem q7c {t:TypeId} {v:Value} {K:Value→World→Prop} (h:boxV t v w K):OpOk2 P (do pure (.value (← Instr.box t v))) w K:=by
 obtain ⟨a,h1,h2⟩:=qr4 (P:=P) h;exact OpOk2.val ⟨_,_,by simp [Instr.box,h1],h2⟩
theorem qwv {t:TypeId} {K:Value→World→Prop} (h:qwu P t w K):OpOk2 P (do pure (.value (← Instr.alloc t true (.tuple #[])))) w K:=by
 unfold qwu at h
 split at h
 ·rename_i i hi
  split at h
  ·rename_i z hz
   obtain ⟨a,h1,h2⟩:=qr4 (P:=P) h;exact OpOk2.val ⟨_,_,by simp_all [Instr.alloc,zeroValue,typeInfo],h2⟩
  ·exact h.elim
 ·exact h.elim
theorem q0w (w:World) (cs:Array Value) (e:TypeId) (n:Nat) (hn:n=w.heap.size):(w.alloc (.cells cs e)).shape? n=some (e,cs.size):=by
 grind [World.shape?,heap_alloc_new]
theorem quu (w:World) (cs:Array Value) (e:TypeId) (n:Nat) (hn:n=w.heap.size):(w.alloc (.cells cs e)).freeze ⟨n,cs.size,none⟩ 1=w.alloc (.cells cs e (cs.size,cs.size+1)):=by
 subst hn;unfold World.freeze World.alloc;rw [if_neg Od];simp only
 congr 1
 grind
theorem q2q {src dst:TypeId} {x:Value} {s:Sem Next} {K:Value→World→Prop} (hs:s=(do pure (.value (← convert src dst x)))) (h:q7o P src dst x w s K) :
  OpOk2 P s w K:=by
 unfold q7o at h
 split at h
 ·rename_i d k n h1 h2
  obtain ⟨r,rfl,hk⟩:=h;subst hs;refine valV ?_ hk
  simp_all [convert,run_underlying,Conv.intToInt]
 ·rename_i sx h1 h2
  subst hs;refine valV ?_ h
  simp_all [convert,run_underlying]
 ·rename_i h1 h2
  subst hs;refine valV ?_ h
  simp_all [convert,run_underlying,Conv.intToString]
 ·rename_i e A n c h1 h2
  split at h
  ·rename_i he
   subst hs;obtain ⟨l,hl,hA,hk⟩:=h;refine valV ?_ hk;cases A with
   | none=>
    have hl0:l=[]:=by
     simp_all
    subst hl0;exact run_convert_bytes_nil w src e h1 he _ _ dst h2
   | some a=>
    rw [run_convert_bytes_string w src dst e _ _ _ h1 he h2];have hc:(loadCells a n).run P w=.ok ((l.map fun c=>(c.toNat:Int)).map (Value.int .u8)).toArray w:=by
     have:=run_loadCells_list (P:=P) w a (byteCells l) (fun j v hv=>by
      obtain ⟨b,off,h0,h3⟩:=hA (by grind [byteCells]);cases h0;rw [q7];exact h3 j v hv)
     simp_all [byteCells]
    rw [run_bytesToString w a n c _ hc,foldl_push_bytes]
    congr 3
    simp [ByteArray.empty,ByteArray.emptyWithCapacity];show ([]:List UInt8)++_=l;rw [List.nil_append];have:∀ l:List UInt8,l.map ((fun n:Int=>UInt8.ofNat n.toNat) ∘ fun c:UInt8=>(c.toNat:Int))=l:=by
     intro l;induction l with
     | nil=>rfl
     | cons x r ih=>simp [ih]
    exact this l
  ·exact h.ok
 ·rename_i e x h1 h2
  split at h
  ·rename_i he
   subst hs;have hcut:∀ t,x.size≤Question.cut (.appendCap x.size 0 e) t:=fun t=>by simp [Question.cut]
   have hk:=h.h (Question.cut (.appendCap x.size 0 e) (w.tape w.drawn (.appendCap x.size 0 e))) _ w.heap.size _ (hcut _) rfl rfl rfl;refine OpOk2.val ⟨_,_,?_,hk⟩;generalize hcap:Question.cut (.appendCap x.size 0 e) (w.tape w.drawn (.appendCap x.size 0 e))=cap;have hcells:(x.data.map (fun b=>Value.int .u8 b.toNat)++Array.replicate (cap-x.size) (Value.int .u8 0))=(byteCells x.data.toList++List.replicate (cap-x.size) (Value.int .u8 0)).toArray:=by
    grind [byteCells]
   simp only [convert];simp [run_underlying h1,run_underlying h2,run_underlying he,Conv.stringToBytes,choose,Sem.run,Question.forced,hcap,hcells,newRow,newObj,markStringish,shape,freeze];rw [q0w w.drew _ _ w.heap.size rfl];simp only [Sem.run,Result.andThen];rw [quu w.drew _ _ w.heap.size rfl];simp
  ·exact h.ok
 ·exact h.ok
theorem qac6 {op:UnOp} {x:Value} {K:Value→World→Prop} (h:unV op x (fun v=>K v w)):OpOk2 P (do pure (.value (← Op.unary op x))) w K:=by
 unfold unV at h
 split at h
 ·exact valV (by rfl) h
 ·obtain ⟨hr,hk⟩:=h;refine valV ?_ hk;simp [Op.unary,Op.intArith,hr.wrap]
 ·obtain ⟨r,rfl,hk⟩:=h;refine valV ?_ hk;rfl
 ·exact h.elim
theorem qb7 {o:Value} {d n y:Nat} {c:BoundsCode} (h:bnd (some o) d n) (hy:n≤y):(Instr.sliceBound o y c).run P w=.ok n w:=by
 unfold bnd at h
 split at h
 all_goals simp_all [Instr.sliceBound,asIntOf]
theorem q0z {t:TypeId} {x:Value} {lo hi mx:Option Value} {s:Sem Next} {K:Value→World→Prop}
  (hs:s=(do pure (.value (← Instr.sliceAt t x lo hi mx)))) (h:q0y P t x lo hi mx w s K):OpOk2 P s w K:=by
 unfold q0y at h
 split at h
 ·rename_i sx hu
  subst hs
  split at h
  ·obtain ⟨l,hh,h1,h2,h3,h4,hk⟩:=h;refine valV ?_ hk;cases lo with
   | none=>
    cases hi with
    | none=>
     cases h1;cases h2;simp [Instr.sliceAt,Instr.slice,Instr.sliceBounds,run_underlying hu]
    | some b=>
     cases h1;simp [Instr.sliceAt,Instr.slice,Instr.sliceBounds,run_underlying hu,qb7 h2 h4]
   | some a=>
    cases hi with
    | none=>
     cases h2;simp [Instr.sliceAt,Instr.slice,Instr.sliceBounds,run_underlying hu,qb7 h1 h3]
    | some b=>simp [Instr.sliceAt,Instr.slice,Instr.sliceBounds,run_underlying hu,qb7 h1 h3,qb7 h2 h4]
  ·exact h.elim
 ·rename_i e A len cap hu
  subst hs;cases hT:hasT P e<;>rw [hT] at h
  ·exact h.elim
  ·obtain ⟨l,hh,m,h1,h2,h3,h4,h5,h6,h7,hk⟩:=h;have hk:=hk _ rfl;refine valV ?_ hk;cases mx with
   | none=>
    cases h3;cases lo with
    | none=>
     cases hi with
     | none=>
      cases h1;cases h2;simp [Instr.sliceAt,Instr.slice,Instr.sliceBounds,run_underlying hu,qw hT]
     | some b=>
      cases h1;simp [Instr.sliceAt,Instr.slice,Instr.sliceBounds,run_underlying hu,qw hT,qb7 h2 h5]
    | some a=>
     cases hi with
     | none=>
      cases h2;simp [Instr.sliceAt,Instr.slice,Instr.sliceBounds,run_underlying hu,qw hT,qb7 h1 h4]
     | some b=>simp [Instr.sliceAt,Instr.slice,Instr.sliceBounds,run_underlying hu,qw hT,qb7 h1 h4,qb7 h2 h5]
   | some c=>
    cases hi with
    | none=>simp_all
    | some b=>
     cases lo with
     | none=>
      cases h1;simp [Instr.sliceAt,Instr.slice,Instr.sliceBounds,run_underlying hu,qw hT,qb7 h2 h5,qb7 h3 h6]
     | some a=>simp [Instr.sliceAt,Instr.slice,Instr.sliceBounds,run_underlying hu,qw hT,qb7 h1 h4,qb7 h2 h5,qb7 h3 h6]
 ·exact h.ok
theorem q8l {ρ:Nat→Value} {o:Oper} {x:Operand} {K:Value→World→Prop} (ho:o.op=.nilCheck x) (h:nilV P (ev ρ x) w (execOp (ev ρ) o) K) :
  OpOk2 P (execOp (ev ρ) o) w K:=by
 unfold nilV at h
 split at h
 ·rename_i a e
  refine .inl ⟨_,w,?_,h⟩;simp [execOp,ho,e]
 ·exact h.ok
theorem qce {f:FuncId} (h:qcm P f=true) (args:Array Value):(callFunc f args).run P w=.ok (.enter f args) w:=by
 unfold qcm at h;cases e:P.funcs[f]? with
 | none=>simp_all
 | some fn=>
  rw [e] at h;simp only [Bool.and_eq_true,Bool.not_eq_true'] at h;have h1:¬ fn.name = "runtime.NumGoroutine":=by simpa using h.1
  have h2:¬ fn.body=none:=by
   grind
  simp_all [callFunc]
theorem CallV.ok {f:FuncId} {vs:List Value} {K:Value→World→Prop} (h:CallV P f vs w K):OpOk P (callFunc f vs.toArray) w K:=by
 rcases h.h with ⟨h1,h2⟩|⟨v,w',h1,h2⟩
 ·exact .inr ⟨f,vs.toArray,qce h1 _,h2⟩
 ·exact .inl (.inl ⟨v,w',h1,h2⟩)
theorem qy6 {ρ:Nat→Value} {o:Oper} {c:Call} {K:Value→World→Prop} (ho:o.op=.call c) (hc:c.callee=.builtin .len)
  (h:lenV P (getL c.argTypes.toList 0) (evs ρ c.args.toList) w (execOp (ev ρ) o) K):OpOk2 P (execOp (ev ρ) o) w K:=by
 unfold lenV at h
 split at h
 ·rename_i t v vs ht hv
  rw [qax] at ht;have ht':c.argTypes[0]?=some t:=by simpa using ht
  rw [qcz] at hv;have hv':(c.args.map (ev ρ))[0]?=some v:=by
   grind [List.getElem?_cons_zero]
  have he:execOp (ev ρ) o=(do pure (.value (← Builtin.len_ c.argTypes o.type (c.args.map (ev ρ))))):=by
   simp only [execOp,ho,resolve,hc];rfl
  split at h
  ·rename_i s hu
   rw [he];exact valV (by simp only [Builtin.len_,ht',hv'];simp [run_underlying hu,goInt]) h
  ·rename_i hu
   rw [he];exact valV (by simp only [Builtin.len_,ht',hv'];simp [run_underlying hu,goInt]) h
  ·exact h.ok
 ·exact h.ok
theorem q67 {ρ:Nat→Value} {o:Oper} {c:Call} {K:Value→World→Prop} (ho:o.op=.call c) (hc:c.callee=.builtin .append)
  (h:appV P c.argTypes o.type (evs ρ c.args.toList) w (execOp (ev ρ) o) K):OpOk2 P (execOp (ev ρ) o) w K:=by
 unfold appV at h
 split at h
 ·rename_i a b hv
  rw [qbc,qbc] at h;obtain ⟨v,w',h1,hk⟩:=h;rw [qbc] at hk;have he:execOp (ev ρ) o=(do pure (.value (← Builtin.append_ c.argTypes o.type (c.args.map (ev ρ))))):=by
   simp only [execOp,ho,resolve,hc];rfl
  have hv':c.args.map (ev ρ)=#[a,b]:=by
   grind [qcz]
  grind [OpOk2.val]
 ·exact h.ok
theorem OpOk.congr {s s':Sem Next} {K:Value→World→Prop} (he:s.run P w=s'.run P w) (h:OpOk P s' w K):OpOk P s w K:=by
 grind [OpOk,OpOk2]
theorem qr9 {ρ:Nat→Value} {o:Oper} {c:Call} {K:Value→World→Prop} (ho:o.op=.call c) (h:qw6 P c o.type ρ w (execOp (ev ρ) o) K) :
  OpOk P (execOp (ev ρ) o) w K:=by
 unfold qw6 at h
 split at h
 ·rename_i f hc
  split at h
  ·rename_i g first captured hf
   rw [qap,qcz] at h;have he:execOp (ev ρ) o=callFunc g (first++c.args.map (ev ρ)++captured):=by
    simp only [execOp,ho,resolve,hc,hf];rfl
   rw [he];have key:CallV P g (first.toList++(c.args.toList.map (ev ρ)++captured.toList)) w K:=by
    split at h
    ·rename_i h1 h2;rw [h1,h2];simpa using h
    ·exact h
   have e2:(first.toList++(c.args.toList.map (ev ρ)++captured.toList)).toArray=first++c.args.map (ev ρ)++captured:=by
    simp
   rw [← e2];exact key.ok
  ·exact .inl h.ok
 ·rename_i hc;exact .inl (qy6 ho hc h)
 ·rename_i hc;exact .inl (q67 ho hc h)
 ·rename_i recv name hc
  split at h
  ·rename_i t v hr
   rw [qap,qcz] at h;obtain ⟨f,r,hm,hk⟩:=h.h;have e1:execOp (ev ρ) o=invoke (.fn (.method name) #[]) (#[ev ρ recv]++c.args.map (ev ρ)):=by
    grind [execOp,resolve]
   have e2:invoke (.fn (.method name) #[]) (#[ev ρ recv]++c.args.map (ev ρ))=callMethod (ev ρ recv) name (c.args.map (ev ρ)):=by
    have h0:(#[ev ρ recv]++c.args.map (ev ρ))[0]?=some (ev ρ recv):=by grind
    have h1:(#[ev ρ recv]++c.args.map (ev ρ)).extract 1 (#[ev ρ recv]++c.args.map (ev ρ)).size=c.args.map (ev ρ):=by
     simp
    grind [invoke]
   have e3:(callMethod (.iface t v) name (c.args.map (ev ρ))).run P w=(callFunc f (#[r]++c.args.map (ev ρ))).run P w:=by
    simp_all [callMethod]
   have e4:(r::c.args.toList.map (ev ρ)).toArray=#[r]++c.args.map (ev ρ):=by
    simp
   refine OpOk.congr (s':=callFunc f (r::c.args.toList.map (ev ρ)).toArray) ?_ hk.ok
   grind
  ·exact .inl h.ok
 ·exact .inl h.ok
theorem qabh (v:Value):csz v=v.cells.size:=by cases v<;>rfl
theorem q0u (vs:List Value):∀ (cells:Array Value) (off k:Nat),
  (vs.zipIdx k).foldl (fun cs (x:Value × Nat)=>cs.setIfInBounds (off+x.2) x.1) cells=(qov cells.toList (off+k) vs).toArray:=by
 induction vs with
 | nil=>simp [qov]
 | cons v vs ih=>
  simp_all [qov,q90,Nat.add_assoc]
theorem qp3 (place:Nat→Option (Nat × Nat)) (parts:List (Nat × Value)):∀ (cells:List Value) (l:List Value),qut place cells parts=some l→
  Instr.fill place cells.toArray parts=some l.toArray:=by
 induction parts with
 | nil=>intro cells l h;cases h;rfl
 | cons x parts ih=>
  obtain ⟨i,v⟩:=x;intro cells l h;simp only [qut] at h;unfold Instr.fill;cases e:place i with
  | none=>simp_all
  | some os=>
   obtain ⟨off,size⟩:=os;rw [e] at h;simp only at h ⊢;cases hb:(Nat.beq (csz v) size&&Nat.ble (off+csz v) cells.length)<;>rw [hb] at h
   ·cases h
   ·simp only [cond_true] at h;simp only [Bool.and_eq_true,Nat.ble_eq] at hb;rw [qabh] at hb;replace hb:=And.intro (Nat.eq_of_beq_eq_true hb.1) hb.2;have hc:¬ (v.cells.size≠size||off+v.cells.size > cells.toArray.size)=true:=by
     grind
    rw [if_neg hc];have:=q0u v.cells.toList cells.toArray off 0
    grind [Array.toList_zipIdx]
theorem qvw {fs:Array Field} (h:allT P fs.toList=true) :
  (fs.mapM fun f=>Prod.mk f.offset <$> sizeOf f.type:Sem (Array (Nat × Nat))).run P w=.ok (qe2 P fs.toList).toArray w:=by
 obtain ⟨l⟩:=fs;rw [Array.mapM_eq_mapM_toList];have:∀ l:List Field,allT P l=true→(l.mapM fun f=>(Prod.mk f.offset <$> sizeOf f.type:Sem (Nat × Nat))).run P w=.ok (qe2 P l) w:=by
  intro l
  induction l with
  | nil=>simp [qe2]
  | cons f l ih=>
   simp_all [allT,qw,qe2]
 simp [this l h]
theorem qw3 {t:TypeId} {parts:Array (Nat × Value)} {K:Value→World→Prop} (h:qw2 P t parts.toList (fun v=>K v w)) :
  OpOk2 P (do pure (.value (← Instr.build t parts))) w K:=by
 unfold qw2 at h
 split at h
 ·rename_i i hi
  split at h
  ·rename_i z hz
   have hz0:(zeroValue t).run P w=.ok z w:=by simp [zeroValue,typeInfo,hi,hz]
   split at h
   ·rename_i fs hu
    cases hT:allT P fs.toList<;>rw [hT] at h
    ·exact h.elim
    ·simp only [cond_true] at h
     split at h
     ·rename_i l hl
      rw [qap] at h;refine valV ?_ h;have hf:=qp3 _ _ _ _ hl
      simp_all [qvw,qax,Instr.build,run_underlying]
     ·exact h.elim
   ·rename_i n e hu
    cases hT:hasT P e<;>rw [hT] at h
    ·exact h.elim
    ·simp only [cond_true] at h
     split at h
     ·rename_i l hl
      rw [qap] at h;refine valV ?_ h;have hf:=qp3 _ _ _ _ hl
      simp_all [Instr.build,run_underlying,qw]
     ·exact h.elim
   ·exact h.elim
  ·exact h.elim
 ·exact h.elim
theorem qna (z:List Value) (n:Nat):(qcv z n).length=n*z.length:=by
 induction n<;>grind [qcv]
theorem qwn (z:List Value) (n:Nat):∀ i,i<n*z.length→(qcv z n)[i]?=z[i%z.length]?:=by
 induction n<;>grind [qcv,Nat.mod_eq_of_lt,List.getElem?_append_right,Nat.mod_eq_sub_mod]
theorem qug (z:Array Value) (_:0<z.size) (n:Nat):(Array.range (n*z.size)).map (z[· % z.size]!)=(qcv z.toList n).toArray:=by
 rw [← Array.toList_inj];apply List.ext_getElem?
 grind [qna,qwn]
theorem qj5 {t:TypeId} {len:Nat} {parts:Array (Nat × Value)} {K:Value→World→Prop} (h:qe8 P t len parts.toList w K) :
  OpOk2 P (do pure (.value (← Instr.buildSlice t len parts))) w K:=by
 unfold qe8 at h
 split at h
 ·rename_i e hu
  split at h
  ·rename_i i hi
   split at h
   ·rename_i z hz
    have hz0:(zeroValue e).run P w=.ok z w:=by simp [zeroValue,typeInfo,hi,hz]
    have hs0:(sizeOf e).run P w=.ok i.size w:=by simp [sizeOf,typeInfo,hi]
    cases hb:(Nat.beq z.cells.toList.length i.size&&Nat.ble (len*i.size) 16777216 && !Nat.beq i.size 0)<;>rw [hb] at h
    ·exact h.elim
    ·simp only [cond_true] at h;simp only [Bool.and_eq_true,Nat.ble_eq,Bool.not_eq_true'] at hb;obtain ⟨⟨b1,b2⟩,b3⟩:=hb;have b1:=Nat.eq_of_beq_eq_true b1;have b3:0<i.size:=(by grind)
     have b1':z.cells.size=i.size:=by omega
     split at h
     ·rename_i l hl
      rw [qap] at h;have h:=h.h w.heap.size _ rfl rfl;have hf:=qp3 _ _ _ _ hl;have hzz:=qug z.cells Oo len;rw [b1'] at hzz;refine OpOk2.val ⟨_,_,?_,h⟩;have hn:¬ len*i.size > 2 ^ 24:=by omega
      by_cases h0:len*i.size=0
      ·have hl0:len=0:=by
        grind [Nat.mul_eq_zero]
       subst hl0;have hf0:Instr.fill (fun i_1=>some (i_1*i.size,i.size)) #[] parts.toList=some l.toArray:=by grind
       simp [Instr.buildSlice,run_underlying hu,hs0,hf0,newRow,newObj,Sem.run,show Array.range 0=#[] from rfl]
      ·rw [← hzz] at hf;have hn':¬ 16777216<len*i.size:=by omega
       simp only [Instr.buildSlice];simp [run_underlying hu,hs0,hn',h0,hz0,b1',hf,newRow,newObj,Sem.run]
     ·exact h.elim
   ·exact h.elim
  ·exact h.elim
 ·exact h.elim
theorem qmg {t:TypeId} {len cap:Value} {K:Value→World→Prop} (h:qg5 P t len cap w K) :
  OpOk2 P (do pure (.value (← Instr.makeSlice t len cap))) w K:=by
 unfold qg5 at h
 split at h
 ·rename_i e k1 len k2 cap hu
  split at h
  ·rename_i i hi
   split at h
   ·rename_i z hz
    have hz0:(zeroValue e).run P w=.ok z w:=by simp [zeroValue,typeInfo,hi,hz]
    have hs0:(sizeOf e).run P w=.ok i.size w:=by simp [sizeOf,typeInfo,hi]
    have ht0:(typeInfo e).run P w=.ok i w:=by simp [typeInfo,hi]
    cases hb:(Nat.beq z.cells.toList.length i.size && !Nat.beq i.size 0)<;>rw [hb] at h
    ·exact h.elim
    ·simp only [cond_true] at h;simp only [Bool.and_eq_true,Bool.not_eq_true'] at hb;obtain ⟨b1,b3⟩:=hb;have b1:=Nat.eq_of_beq_eq_true b1;have b3:0<i.size:=(by grind)
     have b1':z.cells.size=i.size:=by omega
     obtain ⟨l,c,rfl,rfl,hlc,hcb,hc,hk⟩:=h;have hk:=hk _ _ rfl rfl;have hzz:=qug z.cells Oo c;rw [b1'] at hzz;have wl:IntKind.i64.wrap (l:Int)=l:=InR.wrap (k:=.i64) ⟨by omega,by omega⟩;have wc:IntKind.i64.wrap (c:Int)=c:=InR.wrap (k:=.i64) ⟨by omega,by omega⟩;have hb1:¬ (281474976710656:Int)<(i.bytes:Int)*(c:Int):=by
      grind
     refine OpOk2.val ⟨_,_,?_,hk⟩;simp only [Instr.makeSlice,asInt,asIntOf];have n1:¬ ((c:Int)<0):=by omega
     have n2:¬ ((l:Int)<0):=by omega
     have n3:¬ c<l:=by omega
     simp [run_underlying hu,ht0,wl,wc,hb1,n1,n2,n3,askRoom,roomBytes,hs0,newRow,newObj,Sem.run]
     split
     ·grind
     simp_all
   ·exact h.elim
  ·exact h.elim
 ·exact h.elim
theorem qmf {t:TypeId} {x:Value} {K:Value→World→Prop} (h:qg4 P t x (fun v=>K v w)):OpOk2 P (do pure (.value (← Instr.makeInterface t x))) w K:=by
 unfold qg4 at h
 split at h
 ·exact h.elim
 ·rename_i d hd hu
  refine valV ?_ h
  simp_all [Instr.makeInterface,run_underlying]
 ·exact h.elim
theorem q52 (ρ:Nat→Value) (l:List (Nat × Operand)):evp ρ l=l.map fun x=>(x.1,ev ρ x.2):=by
 induction l<;>grind [evp]
theorem q0e {t:TypeId} {x:Value} {s:Sem Next} {K:Value→World→Prop} (hs:s=(do pure (.value (← Instr.range t x)))) (h:q0d P t x w s K):OpOk2 P s w K:=by
 unfold q0d at h
 split at h
 ·rename_i sx hu
  subst hs;refine OpOk2.val ⟨_,_,?_,h.h w.heap.size _ rfl rfl⟩
  simp_all [Instr.range,run_underlying]
 ·exact h.ok
theorem q3t {x:Value} {b:Bool} {ty:TypeId} {s:Sem Next} {K:Value→World→Prop} (hs:s=(do pure (.value (← Instr.next x b ty)))) (h:q8j P x b w s K):OpOk2 P s w K:=by
 unfold q8j at h
 split at h
 ·rename_i r
  subst hs;obtain ⟨s,pos,hr,h1,h2⟩:=h
  by_cases hp:pos<s.size
  ·refine OpOk2.val ⟨_,_,?_,h1 hp _ rfl⟩;simp [Instr.next,getObj,setObj,Sem.run,hr,hp,goInt,setO]
  ·refine OpOk2.val ⟨_,_,?_,h2 hp⟩;simp [Instr.next,getObj,Sem.run,hr,hp]
 ·exact h.ok
theorem qzy {o:Oper} {ρ:Nat→Value} {K:Value→World→Prop} (hc:∀ c,o.op≠.call c) (h:opV P o ρ w K):OpOk2 P (execOp (ev ρ) o) w K:=by
 unfold opV at h
 split at h
 ·grind [qbc,execOp,qacn]
 ·grind [qbc,execOp,qacn]
 ·grind [execOp,q34]
 ·grind [execOp,OpOk2.val,quj]
 ·grind [execOp,qac6]
 ·grind [q2q,execOp]
 ·grind [execOp,q76]
 ·grind [execOp,qp7]
 ·grind [execOp,q3m]
 ·grind [q08,execOp]
 ·grind [execOp,qp1]
 ·grind [execOp,qlw]
 ·grind [execOp,qxz]
 ·grind [execOp,q7c]
 ·grind [execOp,qwv]
 ·rename_i t x lo hi mx ho
  refine q0z ?_ h;simp only [execOp,ho];cases lo<;>cases hi<;>cases mx<;>rfl
 ·grind [q8l]
 ·simp_all
 ·rename_i t parts ho
  rw [q52] at h;simp only [execOp,ho];refine qw3 ?_
  simpa using h
 ·rename_i t len parts ho
  rw [q52] at h;simp only [execOp,ho];refine qj5 ?_
  simpa using h
 ·grind [execOp,qmg]
 ·rename_i fn first captured ho
  rw [qap,qap,qcz,qcz] at h;simp only [execOp,ho];refine valV ?_ h;have e1:∀ a:Array Operand,(a.toList.map (ev ρ)).toArray=a.map (ev ρ):=(by grind)
  simp_all [Instr.makeFunc]
 ·grind [execOp,qmf]
 ·grind [q0e,execOp]
 ·grind [q3t,execOp]
 ·exact h.ok
theorem qzx {o:Oper} {ρ:Nat→Value} {K:Value→World→Prop} (h:opV P o ρ w K):OpOk P (execOp (ev ρ) o) w K:=by
 by_cases hc:∃ c,o.op=.call c
 ·grind [opV,qr9]
 ·exact .inl (qzy (fun c e=>hc ⟨c,e⟩) h)
end
def putV (n:Nat) (dst:Option Tmp) (ρ:Nat→Value) (v:Value) (K:(Nat→Value)→Prop):Prop:=
 match dst with
 | none=>K ρ
 | some d=>bif Nat.blt d n then K (upd ρ d v) else False
def runO (P:Program) (n:Nat) (o:Oper) (K:(Nat→Value)→World→Prop) (ρ:Nat→Value) (w:World):Prop:=
 opV P o ρ w fun v w'=>putV n o.dst ρ v fun ρ'=>K ρ' w'
def qv3 (n:Nat) (o:Oper) (K:(Nat→Value)→World→Prop) (ρ:Nat→Value) (w:World):Prop:=
 putV n o.dst ρ undef fun ρ'=>K ρ' w
def regV (P:Program) (n:Nat) (ops:List Oper) (Q:(Nat→Value)→World→Prop):List Oper→(Nat→Value)→World→Prop
 | [],ρ,w=>Q ρ w
 | o::rest,ρ,w=>
  match o.guard with
  | none=>runO P n o (regV P n ops Q rest) ρ w
  | some (j,want)=>
   match getL ops j with
   | none=>qv3 n o (regV P n ops Q rest) ρ w
   | some oj=>match oj.dst with
    | none=>qv3 n o (regV P n ops Q rest) ρ w
    | some d=>bif Nat.blt d n then
      match ρ d with
      | .bool b=>Tst b
        (match want with
         | true=>runO P n o (regV P n ops Q rest) (upd ρ d (.bool true)) w
         | false=>qv3 n o (regV P n ops Q rest) (upd ρ d (.bool true)) w)
        (match want with
         | true=>qv3 n o (regV P n ops Q rest) (upd ρ d (.bool false)) w
         | false=>runO P n o (regV P n ops Q rest) (upd ρ d (.bool false)) w)
      | _=>qv3 n o (regV P n ops Q rest) ρ w
     else False
def seqQ (K:(Nat→Value)→World→Prop) (Q:Exit→(Nat→Value)→World→Prop):Exit→(Nat→Value)→World→Prop
 | .normal,ρ,w=>K ρ w
 | .exit i,ρ,w=>Q (.exit i) ρ w
 | .goto l,ρ,w=>Q (.goto l) ρ w
 | .ret,ρ,w=>Q .ret ρ w
 | .panic c,ρ,w=>Q (.panic c) ρ w
 | .outgrown,ρ,w=>Q .outgrown ρ w
def qr2 (id:Nat) (Q:Exit→(Nat→Value)→World→Prop):Exit→(Nat→Value)→World→Prop
 | .normal,ρ,w=>Q .normal ρ w
 | .exit i,ρ,w=>bif Nat.beq i id then Q .normal ρ w else Q (.exit i) ρ w
 | .goto l,ρ,w=>Q (.goto l) ρ w
 | .ret,ρ,w=>Q .ret ρ w
 | .panic c,ρ,w=>Q (.panic c) ρ w
 | .outgrown,ρ,w=>Q .outgrown ρ w
def qact (Q:Exit→(Nat→Value)→World→Prop):Exit→(Nat→Value)→World→Prop
 | .goto _,_,_=>False
 | .normal,ρ,w=>Q .normal ρ w
 | .exit i,ρ,w=>Q (.exit i) ρ w
 | .ret,ρ,w=>Q .ret ρ w
 | .panic c,ρ,w=>Q (.panic c) ρ w
 | .outgrown,ρ,w=>Q .outgrown ρ w
structure ScopeV (P:Program) (n:Nat) (c:Code) (Q:Exit→(Nat→Value)→World→Prop) (ρ:Nat→Value) (w:World):Prop where
 h:∀ a,St n ρ a→(Code.scope c).wp P (fun e a' w'=>∃ ρ',St n ρ' a'∧Q e ρ' w') a w
def qgr (P:Program) (n:Nat):Code→(Exit→(Nat→Value)→World→Prop)→(Nat→Value)→World→Prop
 | .skip,Q,ρ,w=>Q .normal ρ w
 | .region id ops draw,Q,ρ,w=>
  match draw with
  | false=>regV P n ops.toList (Q .normal) ops.toList ρ w
  | true=>DrawV P n id ops Q ρ w
 | .seq a b,Q,ρ,w=>qgr P n a (seqQ (qgr P n b Q) Q) ρ w
 | .cond c t e,Q,ρ,w=>
  match ev ρ c with
  | .bool b=>Tst b (qgr P n t Q ρ w) (qgr P n e Q ρ w)
  | _=>False
 | .block id c,Q,ρ,w=>qgr P n c (qr2 id Q) ρ w
 | .loop c,Q,ρ,w=>LoopV P n c Q ρ w
 | .exit id,Q,ρ,w=>Q (.exit id) ρ w
 | .label _,Q,ρ,w=>Q .normal ρ w
 | .ret,Q,ρ,w=>Q .ret ρ w
 | .goto l,Q,ρ,w=>Q (.goto l) ρ w
 | .scope c,Q,ρ,w=>ScopeV P n c Q ρ w
 | .rangeFunc f p a b,Q,ρ,w=>CodeV P n (.rangeFunc f p a b) Q ρ w
 | .refuse _,_,_,_=>False
def lift (n:Nat) (Q:Exit→(Nat→Value)→World→Prop):Exit→Act→World→Prop:=fun e a w=>∃ ρ,St n ρ a∧Q e ρ w
section
variable {P:Program} {n:Nat}
theorem putV.st {dst:Option Tmp} {ρ:Nat→Value} {v:Value} {K:(Nat→Value)→Prop} {a:Act} (h:putV n dst ρ v K) (ha:St n ρ a) :
  ∃ ρ',St n ρ' (a.put dst v)∧K ρ':=by
 unfold putV at h
 split at h
 ·exact ⟨ρ,ha,h⟩
 ·rename_i d
  cases hd:Nat.blt d n<;>rw [hd] at h
  ·exact h.elim
  ·exact ⟨_,ha.put (by simpa using hd) v,h⟩
theorem St.yield {ρ:Nat→Value} {a:Act} (ha:St n ρ a) {ops:List Oper} {j d:Nat} {oj:Oper} (hj:getL ops j=some oj) (hd:oj.dst=some d) (hn:d<n) :
  yielded ops.toArray a.tmps j=match ρ d with | .bool b=>some b|_=>none:=by
 have h1:ops.toArray[j]?=some oj:=by grind [qax]
 have h2:a.tmps[d]?=some (ρ d):=by
  have hs:=ha.size;have:=ha.get d
  simp_all
 grind [yielded]
theorem qqw {o:Oper} {ops:Array Oper} {ρ:Nat→Value} {w:World} {K:(Nat→Value)→World→Prop} {a:Act} {rest:List Oper} {Q':Exit→Act→World→Prop}
  (hg:Region.wanted o (yielded ops a.tmps)=true) (ha:St n ρ a) (h:runO P n o K ρ w) (hk:∀ ρ' a' w',St n ρ' a'→K ρ' w'→wpList P ops Q' rest a' w') :
  wpList P ops Q' (o::rest) a w:=by
 unfold wpList;rw [if_pos hg];refine .inl (OpOk.wp ha.eval (qzx h) fun v w' hp=>?_)
 grind [putV.st]
theorem qga {o:Oper} {ops:Array Oper} {ρ:Nat→Value} {w:World} {K:(Nat→Value)→World→Prop} {a:Act} {rest:List Oper} {Q':Exit→Act→World→Prop}
  (hg:Region.wanted o (yielded ops a.tmps)=false) (ha:St n ρ a) (h:qv3 n o K ρ w) (hk:∀ ρ' a' w',St n ρ' a'→K ρ' w'→wpList P ops Q' rest a' w') :
  wpList P ops Q' (o::rest) a w:=by
 unfold wpList;rw [if_neg (by rw [hg];simp)];obtain ⟨ρ',h1,h2⟩:=putV.st h ha
 grind
theorem q9m {ops:List Oper} {Q:(Nat→Value)→World→Prop} {Q':Exit→Act→World→Prop} (hQ:∀ ρ a w,St n ρ a→Q ρ w→Q' .normal a w) (l:List Oper) :
  ∀ (ρ:Nat→Value) (a:Act) (w:World),St n ρ a→regV P n ops Q l ρ w→wpList P ops.toArray Q' l a w:=by
 induction l with
 | nil=>intro ρ a w ha h;exact hQ _ _ _ ha h
 | cons o rest ih=>
  intro ρ a w ha h;unfold regV at h;have ih':∀ ρ' a' w',St n ρ' a'→regV P n ops Q rest ρ' w'→wpList P ops.toArray Q' rest a' w':=(by omega)
  split at h
  ·grind [qqw,Region.wanted]
  ·rename_i j want hg
   split at h
   ·grind [qax,qga,Region.wanted,yielded]
   ·rename_i oj hj
    split at h
    ·grind [qga,qax,Region.wanted,yielded]
    ·rename_i d hd
     cases hn:Nat.blt d n<;>rw [hn] at h
     ·exact h.elim
     ·have hn':d<n:=by simpa using hn
      have hy:=ha.yield hj hd hn';simp only [cond_true] at h
      split at h
      ·rename_i b hb
       rw [hb] at hy;cases b
       ·have h:=h.f rfl;have ha':=ha.same hb
        grind [qqw,Region.wanted,qga]
       ·have h:=h.t rfl;have ha':=ha.same hb
        grind [qga,Region.wanted,qqw]
      grind [qga,Region.wanted]
theorem q3l {K:(Nat→Value)→World→Prop} {Q:Exit→(Nat→Value)→World→Prop} {e:Exit} {a:Act} {w:World} (h:lift n (seqQ K Q) e a w) :
  Exit.then (fun a w=>∃ ρ,St n ρ a∧K ρ w) (lift n Q) e a w:=by
 obtain ⟨ρ,h1,h2⟩:=h;cases e<;>exact ⟨ρ,h1,h2⟩
theorem quz {id:Nat} {Q:Exit→(Nat→Value)→World→Prop} {e:Exit} {a:Act} {w:World} (h:lift n (qr2 id Q) e a w) :
  Exit.inBlock id (lift n Q) e a w:=by
 obtain ⟨ρ,h1,h2⟩:=h;cases e with
 | exit i=>
  by_cases hi:i=id
  ·have hb:Nat.beq i id=true:=by subst hi;simp
   simp only [qr2,hb,cond_true] at h2;simp only [Exit.inBlock,hi,if_true];exact ⟨ρ,h1,h2⟩
  ·have hb:Nat.beq i id=false:=(by grind [Nat.eq_of_beq_eq_true])
   simp only [qr2,hb,cond_false] at h2;simp only [Exit.inBlock,hi,if_false];exact ⟨ρ,h1,h2⟩
 | normal=>exact ⟨ρ,h1,h2⟩
 | goto l=>exact ⟨ρ,h1,h2⟩
 | ret=>exact ⟨ρ,h1,h2⟩
 | panic c=>exact ⟨ρ,h1,h2⟩
 | outgrown=>exact ⟨ρ,h1,h2⟩
theorem qh9 (c:Code):∀ (Q:Exit→(Nat→Value)→World→Prop) (ρ:Nat→Value) (w:World),qgr P n c Q ρ w→∀ a,St n ρ a→c.wp P (lift n Q) a w:=by
 induction c with
 | skip=>intro Q ρ w h a ha;exact wp_skip ⟨ρ,ha,h⟩
 | region id ops draw=>
  intro Q ρ w h a ha;cases draw
  ·refine wp_region_list ?_;have:=q9m (Q':=lift n Q) (fun ρ a w ha h=>⟨ρ,ha,h⟩) ops.toList ρ a w ha h;omega
  ·exact h.h a ha
 | seq x y hx hy=>
  intro Q ρ w h a ha;refine wp_seq (wp_mono (hx _ _ _ h a ha) fun e a w h=>?_);have:=q3l h;cases e with
  | normal=>obtain ⟨ρ',h1,h2⟩:=this;exact hy _ _ _ h2 _ h1
  | exit i=>exact this
  | goto l=>exact this
  | ret=>exact this
  | panic c=>exact this
  | outgrown=>exact this
 | cond c t e ht he=>
  intro Q ρ w h a ha;unfold qgr at h
  split at h
  ·rename_i b hb
   refine wp_cond_split (t:=b) (by rw [ha.eval,hb]) (fun e=>ht _ _ _ (h.t e) a ha) (fun e=>he _ _ _ (h.f e) a ha)
  ·exact h.elim
 | block id c hc=>
  intro Q ρ w h a ha;exact wp_block (wp_mono (hc _ _ _ h a ha) fun e a w h=>quz h)
 | loop c hc=>intro Q ρ w h a ha;exact h.h a ha
 | rangeFunc f p x b hx hb=>intro Q ρ w h a ha;exact h.h a ha
 | exit id=>intro Q ρ w h a ha;exact wp_exit ⟨ρ,ha,h⟩
 | scope c hc=>intro Q ρ w h a ha;exact h.h a ha
 | label l=>intro Q ρ w h a ha;exact wp_label ⟨ρ,ha,h⟩
 | goto l=>intro Q ρ w h a ha;exact wp_goto ⟨ρ,ha,h⟩
 | ret=>intro Q ρ w h a ha;exact wp_ret ⟨ρ,ha,h⟩
 | refuse why=>intro Q ρ w h a ha;exact h.elim
theorem ScopeV.straight {P:Program} {n:Nat} {c:Code} {Q:Exit→(Nat→Value)→World→Prop} {ρ:Nat→Value} {w:World} (h:qgr P n c (qact Q) ρ w):ScopeV P n c Q ρ w:=by
 refine ⟨fun a ha=>wp_scope_straight (wp_mono (qh9 c _ _ _ h a ha) fun e a w h=>?_)⟩;obtain ⟨ρ',h1,h2⟩:=h;cases e<;>first|exact h2.elim|exact ⟨ρ',h1,h2⟩
structure SameW (w' w:World) (k:Prop):Prop where
 h:w'=w
 k:k
structure CallQ (P:Program) (f:FuncId) (args:List Value) (w:World) (K:Value→Prop):Prop where
 h:∃ v,Gv P f args w (fun u w'=>u=v∧w'=w)∧K v
def q7g (P:Program) (c:Call) (ρ:Nat→Value) (w:World) (s:Sem Next) (K:Value→Prop):Prop:=
 match c.callee with
 | .value f=>match ev ρ f with
  | .func (.func g) first captured=>qby (evs ρ c.args.toList) fun vs=>
   match first.toList,captured.toList with
   | [],[]=>CallQ P g vs w K
   | x,y=>CallQ P g (x++(vs++y)) w K
  | _=>False
 | .builtin .len=>lenV P (getL c.argTypes.toList 0) (evs ρ c.args.toList) w s fun v w'=>SameW w' w (K v)
 | _=>False
def opQ (P:Program) (o:Oper) (ρ:Nat→Value) (w:World) (K:Value→Prop):Prop:=
 match o.op with
 | .call c=>q7g P c ρ w (execOp (ev ρ) o) K
 | _=>opV P o ρ w fun v w'=>SameW w' w (K v)
section
variable {P:Program} {w:World} {n:Nat}
def StillOk (P:Program) (s:Sem Next) (w:World) (K:Value→Prop):Prop:=
 OpOk2 P s w (fun v w'=>w'=w∧K v)∨
 (∃ f args v,s.run P w=.ok (.enter f args) w∧Calls P f args w (fun e w'=>e=.returned v∧w'=w)∧K v)
theorem OpOk2.same {s:Sem Next} {K:Value→Prop} (h:OpOk2 P s w fun v w'=>SameW w' w (K v)):StillOk P s w K:=by
 refine .inl ?_
 rcases h with ⟨v,w',h1,h2⟩|⟨w',h1,h2⟩
 ·exact .inl ⟨v,w',h1,h2.h,h2.k⟩
 ·exact .inr ⟨w',h1,h2.h,h2.k⟩
theorem q2i {ρ:Nat→Value} {o:Oper} {c:Call} {K:Value→Prop} (ho:o.op=.call c) (h:q7g P c ρ w (execOp (ev ρ) o) K) :
  StillOk P (execOp (ev ρ) o) w K:=by
 unfold q7g at h
 split at h
 ·rename_i f hc
  split at h
  ·rename_i g first captured hf
   rw [qap,qcz] at h;have he:execOp (ev ρ) o=callFunc g (first++c.args.map (ev ρ)++captured):=by
    simp only [execOp,ho,resolve,hc,hf];rfl
   rw [he];have key:CallQ P g (first.toList++(c.args.toList.map (ev ρ)++captured.toList)) w K:=by
    grind
   have e2:(first.toList++(c.args.toList.map (ev ρ)++captured.toList)).toArray=first++c.args.map (ev ρ)++captured:=by
    simp
   rw [← e2];obtain ⟨v,⟨h1,h2⟩,hk⟩:=key;refine .inr ⟨g,_,v,qce h1 _,h2.mono ?_,hk⟩
   simp_all
  ·exact h.elim
 ·rename_i hc;exact (qy6 ho hc h).same
 ·exact h.elim
theorem qach {o:Oper} {ρ:Nat→Value} {K:Value→Prop} (h:opQ P o ρ w K):StillOk P (execOp (ev ρ) o) w K:=by
 unfold opQ at h
 split at h
 ·grind [q2i]
 ·rename_i hc;exact (qzy (fun c e=>hc c e) h).same
theorem StillOk.still {o:Oper} {ρ:Nat→Value} {K:Value→Prop} {a:Act} {next:Act→Prop} (he:a.eval=ev ρ) (h:StillOk P (execOp (ev ρ) o) w K)
  (hn:∀ v,K v→next (a.put o.dst v)):o.still P a w next:=by
 unfold Oper.still;rw [he]
 rcases h with (⟨v,w',h1,h2,h3⟩|⟨w',h1,h2,h3⟩)|⟨f,args,v,h1,h2,h3⟩
 ·rw [h1];exact ⟨h2,hn _ h3⟩
 ·rw [h1];exact ⟨h2,hn _ h3⟩
 ·rw [h1];exact ⟨rfl,v,h2,hn _ h3⟩
def runQ (P:Program) (n:Nat) (o:Oper) (K:(Nat→Value)→Prop) (ρ:Nat→Value) (w:World):Prop:=
 opQ P o ρ w fun v=>putV n o.dst ρ v K
def regQ (P:Program) (n:Nat) (ops:List Oper) (w:World) (Q:(Nat→Value)→Prop):List Oper→(Nat→Value)→Prop
 | [],ρ=>Q ρ
 | o::rest,ρ=>
  match o.guard with
  | none=>runQ P n o (regQ P n ops w Q rest) ρ w
  | some (j,want)=>
   match getL ops j with
   | none=>putV n o.dst ρ undef (regQ P n ops w Q rest)
   | some oj=>match oj.dst with
    | none=>putV n o.dst ρ undef (regQ P n ops w Q rest)
    | some d=>bif Nat.blt d n then
      match ρ d with
      | .bool b=>Tst b
        (match want with
         | true=>runQ P n o (regQ P n ops w Q rest) (upd ρ d (.bool true)) w
         | false=>putV n o.dst (upd ρ d (.bool true)) undef (regQ P n ops w Q rest))
        (match want with
         | true=>putV n o.dst (upd ρ d (.bool false)) undef (regQ P n ops w Q rest)
         | false=>runQ P n o (regQ P n ops w Q rest) (upd ρ d (.bool false)) w)
      | _=>putV n o.dst ρ undef (regQ P n ops w Q rest)
     else False
theorem qqx {o:Oper} {ops:Array Oper} {ρ:Nat→Value} {K:(Nat→Value)→Prop} {a:Act} {rest:List Oper} {Q':Act→Prop}
  (hg:Region.wanted o (yielded ops a.tmps)=true) (ha:St n ρ a) (h:runQ P n o K ρ w) (hk:∀ ρ' a',St n ρ' a'→K ρ'→wpStill P ops w Q' rest a') :
  wpStill P ops w Q' (o::rest) a:=by
 unfold wpStill;rw [if_pos hg];refine StillOk.still ha.eval (qach h) fun v hp=>?_
 grind [putV.st]
theorem qgb {o:Oper} {ops:Array Oper} {ρ:Nat→Value} {K:(Nat→Value)→Prop} {a:Act} {rest:List Oper} {Q':Act→Prop}
  (hg:Region.wanted o (yielded ops a.tmps)=false) (ha:St n ρ a) (h:putV n o.dst ρ undef K) (hk:∀ ρ' a',St n ρ' a'→K ρ'→wpStill P ops w Q' rest a') :
  wpStill P ops w Q' (o::rest) a:=by
 grind [wpStill,putV.st]
theorem q9l {ops:List Oper} {Q:(Nat→Value)→Prop} {Q':Act→Prop} (hQ:∀ ρ a,St n ρ a→Q ρ→Q' a) (l:List Oper) :
  ∀ (ρ:Nat→Value) (a:Act),St n ρ a→regQ P n ops w Q l ρ→wpStill P ops.toArray w Q' l a:=by
 induction l with
 | nil=>intro ρ a ha h;exact hQ _ _ ha h
 | cons o rest ih=>
  intro ρ a ha h;unfold regQ at h;have ih':∀ ρ' a',St n ρ' a'→regQ P n ops w Q rest ρ'→wpStill P ops.toArray w Q' rest a':=(by omega)
  split at h
  ·grind [qqx,Region.wanted]
  ·rename_i j want hg
   split at h
   ·grind [qax,qgb,Region.wanted,yielded]
   ·rename_i oj hj
    split at h
    ·grind [qgb,qax,Region.wanted,yielded]
    ·rename_i d hd
     cases hn:Nat.blt d n<;>rw [hn] at h
     ·exact h.elim
     ·have hn':d<n:=by simpa using hn
      have hy:=ha.yield hj hd hn';simp only [cond_true] at h
      split at h
      ·rename_i b hb
       rw [hb] at hy;cases b
       ·have h:=h.f rfl;have ha':=ha.same hb
        grind [qqx,Region.wanted,qgb]
       ·have h:=h.t rfl;have ha':=ha.same hb
        grind [qgb,Region.wanted,qqx]
      grind [qgb,Region.wanted]
theorem DrawV.quiet {id:Nat} {ops:Array Oper} {Q:Exit→(Nat→Value)→World→Prop} {ρ:Nat→Value} (hm:P.follows .mixedOrders=true) (hB:Region.lexB .any ops=true)
  (h:regQ P n ops.toList w.drew (fun ρ'=>Q .normal ρ' w.drew) ops.toList ρ):DrawV P n id ops Q ρ w:=by
 refine ⟨fun a ha=>wp_region_still hm hB ?_⟩;have:=q9l (w:=w.drew) (Q':=fun a'=>∃ ρ',St n ρ' a'∧Q .normal ρ' w.drew) (fun ρ a ha h=>⟨ρ,ha,h⟩) ops.toList ρ a ha h
 simp_all
end
def over:List (Nat × Value)→(Nat→Value)→Nat→Value
 | [],ρ=>ρ
 | (t,v)::l,ρ=>upd (over l ρ) t v
def qiq:List (Nat × Value)→(Nat→Value)→Prop
 | [],_=>True
 | (t,v)::l,ρ=>ρ t=v∧qiq l ρ
theorem qjf {l:List (Nat × Value)} {ρ:Nat→Value} (h:qiq l ρ):over l ρ=ρ:=by
 induction l with
 | nil=>rfl
 | cons x l ih=>
  obtain ⟨t,v⟩:=x;obtain ⟨h1,h2⟩:=h
  funext u
  simp only [over,ih h2,upd]
  grind [Nat.eq_of_beq_eq_true]
theorem qm {α:Type} (l:α→List (Nat × Value)) (I:α→World→Prop) (μ:α→Nat) {body:Code} {Q:Exit→(Nat→Value)→World→Prop} {ρ:Nat→Value} {w:World} (x0:α)
  (h0:qiq (l x0) ρ) (hI:I x0 w)
  (hr:∀ x w ρ',I x w→qgr P n body (seqQ (fun ρ'' w'=>∃ x',qiq (l x') ρ''∧I x' w'∧μ x'<μ x) Q) (over (l x) ρ') w):LoopV P n body Q ρ w:=by
 refine ⟨fun a ha=>?_⟩;have key:∀ m x,μ x=m→∀ ρ a w,qiq (l x) ρ→St n ρ a→I x w→∀ (b:Frame) (k:List Item) (cs:List Frame),
   ∃ e a' w',lift n Q e a' w'∧Arrives P (lone (b.at a (.code body::.inLoop body::k)) cs w) b k cs e a' w':=by
  intro m
  induction m using Nat.strongRecOn with
  | _ m ih=>
   intro x hm ρ a w hag hst hI b k cs;have h1:=hr x w ρ hI;rw [qjf hag] at h1;obtain ⟨e,a₁,w₁,hq,harr⟩:=qh9 body _ _ _ h1 a hst b (.inLoop body::k) cs;obtain ⟨ρ₁,hst₁,hq⟩:=hq;cases e with
   | normal=>
    obtain ⟨x',hag',hI',hlt⟩:=hq;obtain ⟨e₂,a₂,w₂,hq₂,harr₂⟩:=ih (μ x') (hm ▸ hlt) x' rfl ρ₁ a₁ w₁ hag' hst₁ hI' b k cs;exact ⟨e₂,a₂,w₂,hq₂,.of_steps (Steps.trans harr (.one step_inLoop)) harr₂⟩
   | exit id=>exact ⟨_,a₁,w₁,⟨ρ₁,hst₁,hq⟩,.pass (x:=.inLoop body) rfl Js harr⟩
   | goto l=>exact ⟨_,a₁,w₁,⟨ρ₁,hst₁,hq⟩,.pass (x:=.inLoop body) rfl Js harr⟩
   | ret=>exact ⟨_,a₁,w₁,⟨ρ₁,hst₁,hq⟩,.pass (x:=.inLoop body) rfl Js harr⟩
   | panic ch=>exact ⟨_,a₁,w₁,⟨ρ₁,hst₁,hq⟩,.pass (x:=.inLoop body) rfl Js harr⟩
   | outgrown=>exact ⟨_,a₁,w₁,⟨ρ₁,hst₁,hq⟩,.pass (x:=.inLoop body) rfl Js harr⟩
 intro b k cs;obtain ⟨e,a',w',hq,harr⟩:=key _ x0 rfl ρ a w h0 ha hI b k cs;exact ⟨e,a',w',hq,.of_steps (.one step_loop) harr⟩
def ini:List Value→Nat→Value
 | [],_=>undef
 | v::_,0=>v
 | _::l,t+1=>ini l t
theorem q55 (l:List Value) (t:Nat):ini l t=(l[t]?).getD undef:=by
 induction l generalizing t with
 | nil=>simp [ini]
 | cons v l ih=>cases t<;>simp [ini,ih]
def qh0:List ResultVar→Option (List Operand)
 | []=>some []
 | .tmp t::l=>match qh0 l with
  | some r=>some (.tmp t::r)
  | none=>none
 | .cell _ _::_=>none
def resV (rs:Array ResultVar) (ρ:Nat→Value) (w:World) (fn:Func) (R:Value→World→Prop) (P:Program) (n:Nat):Prop:=
 match rs.toList with
 | [.tmp t]=>qgy (ρ t) fun v=>R v w
 | l=>match qh0 l with
  | some ts=>qby (evs ρ ts) fun vs=>R (.tuple vs.toArray) w
  | none=>∀ a,St n ρ a→∃ v,(results fn a.tmps).run P w=.ok v w∧R v w
def q2g (P:Program) (n:Nat) (fn:Func) (R:Value→World→Prop):Exit→(Nat→Value)→World→Prop
 | .normal,ρ,w=>resV fn.results ρ w fn R P n
 | .ret,ρ,w=>resV fn.results ρ w fn R P n
 | _,_,_=>False
def resF (tmps:Array Value):ResultVar→Sem Value
 | .tmp t=>pure (tmps.getD t undef)
 | .cell a t=>do loadVar t (← asAddr (tmps.getD a undef))
theorem qoq (tmps:Array Value) (w:World) (ρ:Nat→Value) (hρ:∀ t,tmps.getD t undef=ρ t):∀ (l:List ResultVar) (ts:List Operand),qh0 l=some ts→
  (l.mapM (resF tmps)).run P w=.ok (evs ρ ts) w:=by
 intro l
 induction l with
 | nil=>intro ts h;cases h;simp [evs]
 | cons x l ih=>
  intro ts h;cases x with
  | cell a t=>cases h
  | tmp t=>
   simp only [qh0] at h;cases e:qh0 l with
   | none=>simp_all
   | some r=>
    rw [e] at h;cases h
    simp_all [evs,ev,resF]
theorem qjl {rs:Array ResultVar} {ρ:Nat→Value} {w:World} {fn:Func} {R:Value→World→Prop} (hrs:fn.results=rs) {a:Act} (ha:St n ρ a) (h:resV rs ρ w fn R P n) :
  ∃ v,(results fn a.tmps).run P w=.ok v w∧R v w:=by
 unfold resV at h;have hm:∀ ts,qh0 rs.toList=some ts→(results fn a.tmps).run P w=.ok (if h:(evs ρ ts).toArray.size=1 then (evs ρ ts).toArray[0] else .tuple (evs ρ ts).toArray) w:=by
  intro ts hts;have:=qoq (P:=P) a.tmps w ρ ha.get rs.toList ts hts;have e:results fn a.tmps=(do let vs ← fn.results.mapM (resF a.tmps);pure (if h:vs.size=1 then vs[0] else .tuple vs)):=by
   rfl
  simp_all [Array.mapM_eq_mapM_toList]
 split at h
 ·rename_i t hl
  rw [qbc] at h;refine ⟨ρ t,?_,h⟩;rw [hm [.tmp t] (by rw [hl];rfl)];rfl
 ·rename_i l hl
  split at h
  ·rename_i ts hts
   rw [qap] at h;refine ⟨_,?_,h⟩;rw [hm ts hts];have hne:¬ (evs ρ ts).toArray.size=1:=by
    intro h1;rw [qcz] at h1;simp at h1
    match rs.toList,hts,hl with
    | [],hts,_=>cases hts;cases h1
    | [.tmp t],_,hl=>exact hl t rfl
    | .tmp t::y::r,hts,_=>
     simp only [qh0] at hts
     revert hts
     cases y<;>grind [qh0]
    | .cell a t::r,hts,_=>cases hts
   simp_all
  ·exact h a ha
theorem Gv.mono {f:FuncId} {vs:List Value} {w:World} {R R':Value→World→Prop} (h:Gv P f vs w R) (hr:∀ v w',R v w'→R' v w'):Gv P f vs w R':=
 ⟨h.1,h.2.mono (by grind)⟩
theorem CallV.of {f:FuncId} {vs:List Value} {w:World} {R K:Value→World→Prop} (h:Gv P f vs w R) (hr:∀ v w',R v w'→K v w'):CallV P f vs w K:=
 ⟨.inl (h.mono hr)⟩
theorem gv {f:FuncId} {fn:Func} {c:Code} {vs:List Value} {w:World} {R:Value→World→Prop} (he:qcm P f=true) (hf:P.funcs[f]?=some fn) (hb:fn.body=some c) (hn:fn.ntmps=n)
  (hl:Nat.ble vs.length n=true) (h:qgr P n c (q2g P n fn R) (ini vs) w):Gv P f vs w R:=by
 have hl':vs.length≤n:=by simpa using hl
 refine ⟨he,calls_of_wp hf hb (wp_mono (qh9 c _ _ _ h _ ⟨?_,?_,rfl⟩) fun e a w hq=>?_)⟩
 ·simp_all
 ·intro t;rw [q55,Array.getD_eq_getD_getElem?]
  grind
 ·obtain ⟨ρ,hst,hq⟩:=hq;cases e with
  | normal=>
   obtain ⟨v,h1,h2⟩:=qjl rfl hst hq;exact ⟨hst.defers,v,h1,v,rfl,h2⟩
  | ret=>
   obtain ⟨v,h1,h2⟩:=qjl rfl hst hq;exact ⟨hst.defers,v,h1,v,rfl,h2⟩
  | exit i=>exact hq.elim
  | goto i=>exact hq.elim
  | panic i=>exact hq.elim
  | outgrown=>exact hq.elim
end
theorem Wit.conv {k:IntKind} {n:Int} {K:Int→Prop} (h:InR k n) (hk:K n):Wit (fun r=>k.wrap n=r) K:=⟨n,h.wrap,hk⟩
theorem Wit.eq {α:Type} {x y:α} {K:α→Prop} (h:x=y) (hk:K y):Wit (fun r=>x=r) K:=⟨y,h,hk⟩
theorem Wit.shl {k:IntKind} {a b m r:Int} {K:Int→Prop} (h0:0≤b∧b<k.bits) (hm:(2:Int) ^ b.toNat=m) (hr:a*m=r) (hi:InR k r) (hk:K r) :
  Wit (fun r=>0≤b∧b<k.bits∧k.wrap (a*2 ^ b.toNat)=r) K:=⟨r,⟨h0.1,h0.2,by rw [hm,hr];exact hi.wrap⟩,hk⟩
theorem Wit.shr {k:IntKind} {a b m r:Int} {K:Int→Prop} (h0:0≤b∧b<k.bits) (hm:(2:Int) ^ b.toNat=m) (hr:a/m=r) (hk:K r) :
  Wit (fun r=>0≤b∧b<k.bits∧a/2 ^ b.toNat=r) K:=⟨r,(by grind),hk⟩
theorem IdxV.nat {j n:Nat} {K:Nat→Prop} (h:j<n) (hk:K j):IdxV (j:Int) n K:=⟨j,rfl,h,hk⟩
theorem IdxV.at_ {i:Int} (j:Nat) {n:Nat} {K:Nat→Prop} (e:i=(j:Int)) (h:j<n) (hk:K j):IdxV i n K:=⟨j,e,h,hk⟩
theorem SliceS.at_ {s:ByteArray} {lo hi:Option Value} {K:Value→Prop} (l h:Nat) (h1:bnd lo 0 l) (h2:bnd hi s.size h) (h3:l≤h) (h4:h≤s.size) (hk:K (.string (s.extract l h))) :
  SliceS s lo hi K:=⟨l,h,h1,h2,h3,h4,hk⟩
theorem InR.lt {k:IntKind} {m:Nat} (h:InR k m):m<2 ^ k.bits:=by
 cases k<;>obtain ⟨h1,h2⟩:=h<;>simp [IntKind.bits]<;>omega
theorem InR.le {k:IntKind} {m n:Nat} (h:InR k n) (hm:m≤n):InR k m:=by
 cases k<;>obtain ⟨h1,h2⟩:=h<;>exact ⟨by omega,by omega⟩
theorem qlj {k:IntKind} {m n:Nat} (hm:InR k m) (hn:InR k n):qc2 .and k m n=((m &&&n:Nat):Int):=by
 grind [qc2,InR.lt,InR.wrap,InR.le,Nat.and_le_left]
theorem qpp {k:IntKind} {m n:Nat} (hm:InR k m) (hn:InR k n) (h:InR k ((m |||n:Nat):Int)):qc2 .or k m n=((m |||n:Nat):Int):=by
 grind [qc2,InR.lt,InR.wrap]
theorem qbb {k:IntKind} {m:Nat} (i:Nat) {c:Int} (hc:c=((2 ^ i-1:Nat):Int)) (hm:InR k m) (hn:InR k c):qc2 .and k m c=((m%2 ^ i:Nat):Int):=by
 grind [qlj,Nat.and_two_pow_sub_one_eq_mod]
theorem q2d {k:IntKind} {a b:Nat} (i:Nat) (ha:InR k ((a*2 ^ i+b:Nat):Int)) (hb:b<2 ^ i):qc2 .or k ((a*2 ^ i:Nat):Int) b=((a*2 ^ i+b:Nat):Int):=by
 have e:(a*2 ^ i |||b)=a*2 ^ i+b:=by grind [Nat.mul_comm,Nat.two_pow_add_eq_or_of_lt]
 rw [qpp (InR.le ha Oo) (InR.le ha Oo) (by simp_all),e]
end V
namespace V
def Ext (w w':World):Prop:=Below w.heap.size w w'
theorem Ext.refl (w:World):Ext w w:=Below.refl _ _
theorem Ext.trans {a b c:World} (h:Ext a b) (k:Ext b c):Ext a c:=Below.trans h (Below.mono k h.size)
theorem Ext.alloc {a w:World} (h:Ext a w) (o:Obj):Ext a (w.alloc o):=Below.alloc h h.size o
theorem Ext.get {w w':World} (h:Ext w w') {b:Nat} {o:Obj} (hb:w.heap[b]?=some o):w'.heap[b]?=some o:=by
 rw [h.block b]
 all_goals grind
theorem Ext.cell {w w':World} (h:Ext w w') {a:Addr} {v:Value} (hv:w.cell? a=some v):w'.cell? a=some v:=by
 have hlt:a.block<w.heap.size:=by
  grind [World.cell?]
 rw [Below.cell h hlt];exact hv
theorem Ext.drew {a w:World} (h:Ext a w):Ext a w.drew:=Below.drew h
theorem qen {w:World} {r b:Nat} {o:Obj} (h:b≠r):(setO w r o).heap[b]?=w.heap[b]?:=by
 grind [setO]
theorem qjr {w:World} {r:Nat} {o o':Obj} (h:w.heap[r]?=some o'):(setO w r o).heap[r]?=some o:=by
 grind [setO]
theorem Ext.setO {a w:World} (h:Ext a w) {r:Nat} (hr:a.heap.size≤r) (o:Obj):Ext a (setO w r o):=
 Below.trans h ⟨rfl,rfl,rfl,by simp [V.setO],(by grind [qen])⟩
theorem Ext.setCell {a w:World} (h:Ext a w) {p:Addr} (hr:a.heap.size≤p.block) (v:Value):Ext a (w.setCell p v):=Below.setCell h hr v
structure Mem (w0 w:World) (L:List (Nat × Obj)):Prop where
 ext:Ext w0 w
 own:∀ x∈L,w0.heap.size≤x.1∧w.heap[x.1]?=some x.2
 nodup:(L.map (·.1)).Nodup
section
variable {w0 w w':World} {L:List (Nat × Obj)}
theorem Mem.nil (w:World):Mem w w []:=⟨Ext.refl w,Js,by simp⟩
theorem Mem.lt (h:Mem w0 w L) {b:Nat} {o:Obj} (hx:(b,o)∈L):b<w.heap.size:=by
 have:=(h.own _ hx).2
 grind
theorem Mem.get (h:Mem w0 w L) {b:Nat} {o:Obj} (hx:(b,o)∈L):w.heap[b]?=some o:=(h.own _ hx).2
theorem Mem.new (h:Mem w0 w L) {b:Nat} {o:Obj} (hb:b=w.heap.size) (hw:w'=w.alloc o):Mem w0 w' ((b,o)::L):=by
 subst hb hw;refine ⟨h.ext.alloc o,?_,?_⟩
 ·intro x hx
  rcases List.mem_cons.1 hx with rfl|hx
  ·exact ⟨h.ext.size,heap_alloc_new w _⟩
  ·exact ⟨(h.own x hx).1,by rw [Below.heap_alloc _ _ _ (h.lt (b:=x.1) (o:=x.2) hx)];exact (h.own x hx).2⟩
 ·simp only [List.map_cons,List.nodup_cons];refine ⟨fun hm=>?_,h.nodup⟩;obtain ⟨x,hx,e⟩:=List.mem_map.1 hm;have:=h.lt (b:=x.1) (o:=x.2) hx;omega
theorem Mem.call (h:Mem w0 w L) (he:Ext w w'):Mem w0 w' L:=
 ⟨h.ext.trans he,fun x hx=>⟨(h.own x hx).1,he.get (h.own x hx).2⟩,h.nodup⟩
theorem Mem.drew (h:Mem w0 w L):Mem w0 w.drew L:=⟨h.ext.drew,h.own,h.nodup⟩
theorem Mem.set (h:Mem w0 w L) {i b:Nat} {o o':Obj} (hi:L[i]?=some (b,o)) (hs:Ext w0 w') (hb:w'.heap[b]?=some o')
  (ho:∀ c,c≠b→w'.heap[c]?=w.heap[c]?):Mem w0 w' (L.set i (b,o')):=by
 have hil:i<L.length:=by
  grind
 have hib:L[i]=(b,o):=by simp_all
 have hn:((L.set i (b,o')).map (·.1))=L.map (·.1):=by
  rw [List.map_set];have:(L.map (·.1))[i]?=some b:=by simp_all
  apply List.ext_getElem?
  grind
 refine ⟨hs,?_,by rw [hn];exact h.nodup⟩;intro x hx
 rcases List.mem_or_eq_of_mem_set hx with hx' | rfl
 ·refine ⟨(h.own x hx').1,?_⟩
  by_cases e:x.1=b
  ·obtain ⟨j,hj,hje⟩:=List.mem_iff_getElem.1 hx
   by_cases hij:j=i
   ·grind
   ·have h1:(L.map (·.1))[j]'(by grind)=b:=by
     grind
    have h2:(L.map (·.1))[i]'(by simpa using hil)=b:=by simp_all
    have:=(List.getElem_inj h.nodup).1 (h1.trans h2.symm);omega
  ·rw [ho _ e];exact (h.own x hx').2
 ·exact ⟨(h.own (b,o) (by grind)).1,hb⟩
theorem Mem.setO (h:Mem w0 w L) {i b:Nat} {o:Obj} (o':Obj) (hi:L[i]?=some (b,o)) (hw:w'=setO w b o'):Mem w0 w' (L.set i (b,o')):=by
 subst hw;have hm:(b,o)∈L:=(by grind)
 exact h.set hi (h.ext.setO (h.own _ hm).1 o') (qjr (h.get hm)) (fun c hc=>qen hc)
theorem heap_setCell {w:World} {b off:Nat} {v:Value} {cs:Array Value} {t:TypeId} {fr:Nat × Nat} (h:w.heap[b]?=some (.cells cs t fr)) :
  (w.setCell ⟨b,off,none⟩ v).heap[b]?=some (.cells (cs.setIfInBounds off v) t fr):=by
 grind [World.setCell]
theorem Mem.setCell (h:Mem w0 w L) {i b off:Nat} {v:Value} {cs:Array Value} {t:TypeId} {fr:Nat × Nat} (hi:L[i]?=some (b,.cells cs t fr)) (hw:w'=w.setCell ⟨b,off,none⟩ v) :
  Mem w0 w' (L.set i (b,.cells (cs.setIfInBounds off v) t fr)):=by
 subst hw;have hm:(b,Obj.cells cs t fr)∈L:=(by grind)
 exact h.set hi (h.ext.setCell (h.own _ hm).1 v) (heap_setCell (h.get hm)) (by grind [Below.heap_setCell])
theorem Mem.sub {L':List (Nat × Obj)} (h:Mem w0 w L) (hs:L'.Sublist L):Mem w0 w L':=
 ⟨h.ext,fun x hx=>h.own x (by grind),(hs.map _).nodup h.nodup⟩
theorem Mem.perm {L':List (Nat × Obj)} (h:Mem w0 w L) (hs:L'.Perm L):Mem w0 w L':=
 ⟨h.ext,fun x hx=>h.own x (by grind),(hs.map _).nodup_iff.2 h.nodup⟩
end
theorem qa {w:World} {b off:Nat} {cs:Array Value} {t:TypeId} {fr:Nat × Nat} (h:w.heap[b]?=some (.cells cs t fr)):w.cell? ⟨b,off,none⟩=cs[off]?:=by
 simp [World.cell?,h]
theorem LoadV.own {w:World} {b off:Nat} {cs:Array Value} {t:TypeId} {fr:Nat × Nat} {v:Value} {K:Value→Prop} (h:w.heap[b]?=some (.cells cs t fr)) (hv:cs[off]?=some v) (hk:K v) :
  LoadV w b off K:=⟨v,by grind [qa],hk⟩
theorem LoadV.of {w:World} {b off:Nat} {v:Value} {K:Value→Prop} (h:w.cell? ⟨b,off,none⟩=some v) (hk:K v):LoadV w b off K:=⟨v,h,hk⟩
theorem StoreV.own {w:World} {b off:Nat} {cs:Array Value} {t:TypeId} {v:Value} {K:World→Prop} (h:w.heap[b]?=some (.cells cs t (0,0))) (ho:off<cs.size) (h1:qb6 v=true)
  (hk:∀ w',w'=w.setCell ⟨b,off,none⟩ v→K w'):StoreV w b off v K:=by
 refine ⟨⟨cs[off],?_⟩,?_,h1,hk _ rfl⟩
 ·rw [qa h];simp
 ·simp [World.frozen?,h]
theorem NewV.mem {w0 w:World} {L:List (Nat × Obj)} {o:Obj} {K:Nat→World→Prop} (h:Mem w0 w L) (hk:∀ b w',Mem w0 w' ((b,o)::L)→K b w'):NewV w o K:=
 ⟨fun b w' hb hw=>hk b w' (h.new hb hw)⟩
theorem NextS.mem {w0 w:World} {L:List (Nat × Obj)} {r pos:Nat} {s:ByteArray} {K:Value→World→Prop} (h:Mem w0 w L) {i:Nat} (hi:L[i]?=some (r,.stringIter s pos))
  (h1:pos<s.size→∀ w',Mem w0 w' (L.set i (r,.stringIter s (pos+(Utf8.decode s pos).2)))→K (.tuple #[.bool true,.int .i64 pos,.int .i32 (Utf8.decode s pos).1]) w')
  (h2:¬ pos<s.size→K (.tuple #[.bool false]) w):NextS w r K:=
 ⟨s,pos,h.get (by grind),fun hp w' hw=>h1 hp w' (h.setO _ hi hw),h2⟩
theorem LoadV.mem {w0 w:World} {L:List (Nat × Obj)} {i b off:Nat} {cs:Array Value} {t:TypeId} {fr:Nat × Nat} {v:Value} {K:Value→Prop} (h:Mem w0 w L) (hi:L[i]?=some (b,.cells cs t fr))
  (hv:cs[off]?=some v) (hk:K v):LoadV w b off K:=LoadV.own (h.get (List.mem_of_getElem? hi)) hv hk
theorem LoadA.mem {w0 w:World} {L:List (Nat × Obj)} {i b size:Nat} {cs:Array Value} {t:TypeId} {fr:Nat × Nat} {K:List Value→Prop} (h:Mem w0 w L) (hi:L[i]?=some (b,.cells cs t fr))
  (hs:cs.toList.length=size) (hk:K cs.toList):LoadA w b 0 size K:=
 ⟨cs.toList,hs,fun j _=>by rw [qa (h.get (List.mem_of_getElem? hi)),Nat.zero_add];simp,hk⟩
theorem StoreV.mem {w0 w:World} {L:List (Nat × Obj)} {i b off:Nat} {cs:Array Value} {t:TypeId} {v:Value} {K:World→Prop} (h:Mem w0 w L) (hi:L[i]?=some (b,.cells cs t (0,0)))
  (ho:off<cs.size) (h1:qb6 v=true) (hk:∀ w',Mem w0 w' (L.set i (b,.cells (cs.setIfInBounds off v) t (0,0)))→K w'):StoreV w b off v K:=
 StoreV.own (h.get (List.mem_of_getElem? hi)) ho h1 fun w' hw=>hk w' (h.setCell hi hw)
theorem CellsAt.ext {w w':World} {b off:Nat} {vs:List Value} (h:CellsAt w b off vs) (he:Ext w w'):CellsAt w' b off vs:=fun k v hv=>he.cell (h k v hv)
theorem LoadV.cells {w:World} {b off:Nat} {vs:List Value} {v:Value} {K:Value→Prop} (h:CellsAt w b off vs) (k:Nat) (hv:vs[k]?=some v) (hk:K v):LoadV w b (off+k) K:=⟨v,h k v hv,hk⟩
theorem LoadV.cell0 {w:World} {b off:Nat} {v:Value} {vs:List Value} {K:Value→Prop} (h:CellsAt w b off (v::vs)) (hk:K v):LoadV w b off K:=⟨v,h 0 v rfl,hk⟩
theorem LoadA.cells {w:World} {b off size:Nat} {vs:List Value} {K:List Value→Prop} (h:CellsAt w b off vs) (hs:vs.length=size) (hk:K vs):LoadA w b off size K:=
 ⟨vs,hs,fun i hi=>by
  have hl:i<vs.length:=by omega
  rw [h i vs[i] Js,List.getElem?_eq_getElem hl],hk⟩
structure SlAt {α:Type} (enc:α→List Value) (size:Nat) (w:World) (A:Option Addr) (l:List α):Prop where
 at_:l≠[]→∃ b off,A=some ⟨b,off,none⟩∧∀ (j:Nat) x,l[j]?=some x→CellsAt w b (off+j*size) (enc x)
theorem SlAt.ext {α:Type} {enc:α→List Value} {size:Nat} {w w':World} {A:Option Addr} {l:List α} (h:SlAt enc size w A l) (he:Ext w w'):SlAt enc size w' A l:=
 ⟨fun hn=>let ⟨b,off,h1,h2⟩:=h.at_ hn;⟨b,off,h1,fun j x hx=>(h2 j x hx).ext he⟩⟩
theorem ElemV.sl {α:Type} {enc:α→List Value} {size len:Nat} {w:World} {A:Option Addr} {l:List α} {i:Int} {K:Value→Prop} (h:SlAt enc size w A l) (hl:l.length=len) (j:Nat) (e:i=(j:Int)) (hj:j<len)
  (hk:∀ b off,CellsAt w b off (enc (l[j]'(hl ▸ hj)))→K (.pointer (some ⟨b,off,none⟩))):ElemV A i len size K:=by
 obtain ⟨b,off,h1,h2⟩:=h.at_ (by grind);exact ⟨b,off,j,h1,e,hj,(by grind)⟩
theorem ElemV.own1 {b len size:Nat} {i:Int} {K:Value→Prop} (j:Nat) (e:i=(j:Int)) (hj:j<len) (hk:K (.pointer (some ⟨b,j,none⟩))) (hs:size=1:=by rfl):ElemV (some ⟨b,0,none⟩) i len size K:=by
 subst hs;exact ⟨b,0,j,rfl,e,hj,by simp_all⟩
def zeS (s:ByteArray):List Value:=[.string s]
theorem qb3 {w:World} {b:Nat} {cur cs:Array Value} {t:TypeId} (h:w.heap[b]?=some (.cells cur t (0,0))):(w.setRow b cs).heap[b]?=some (.cells cs t (0,0)):=
 setRow_heap w b cur cs t _ h
theorem qp {w:World} {b c:Nat} {cs:Array Value} (h:c≠b):(w.setRow b cs).heap[c]?=w.heap[c]?:=by
 grind [World.setRow]
theorem StoreA.mem {P:Program} {w0 w:World} {L:List (Nat × Obj)} {i b off:Nat} {cur:Array Value} {t:TypeId} {vs:List Value} {K:World→Prop} (h:Mem w0 w L)
  (hi:L[i]?=some (b,.cells cur t (0,0))) (hl:off+vs.length≤cur.size) (h1:∀ v∈vs,v.oneCell'=true)
  (hk:∀ w',Mem w0 w' (L.set i (b,.cells (cur.toList.take off++vs++cur.toList.drop (off+vs.length)).toArray t (0,0)))→K w'):StoreA P w b off vs K:=by
 have hm:(b,Obj.cells cur t (0,0))∈L:=(by grind)
 have hg:=h.get hm;have hr:=run_storeCells_at P b off t vs 0 cur w hg (by simpa using hl) h1;simp only [Nat.add_zero] at hr;refine ⟨_,hr,hk _ ?_⟩;refine h.set hi ?_ (qb3 hg) (fun c hc=>qp hc);exact Below.trans h.ext ⟨rfl,rfl,rfl,by simp,fun k hk=>qp (by have:=(h.own _ hm).1;omega)⟩
structure Rw (w0 w:World) (v:Value) (e:TypeId) (size n:Nat) (xs:List Value) (L:List (Nat × Obj)):Prop where
 mem:Mem w0 w L
 own:w.ownsRow w0.heap.size e size v n xs
 apart:∀ x∈L,v.ownBlock≠some x.1
section
variable {P:Program} {w0 w w':World} {v:Value} {e:TypeId} {size n:Nat} {xs:List Value} {L:List (Nat × Obj)}
theorem Rw.nil (h:Mem w0 w L):Rw w0 w (.slice none 0 0) e size 0 [] L:=⟨h,World.ownsRow_nil _ _ _ _,fun _ _=>by simp [Value.ownBlock]⟩
theorem Rw.slice (h:Rw w0 w v e size n xs L):∃ A c,v=.slice A n c:=by
 rcases h.own.2 with ⟨rfl,rfl⟩|⟨g,cap,cur,rfl,_⟩
 all_goals simp
theorem Rw.grown {row:Option Nat} (h:Rw w0 w v e size n xs L) (hg:w.grownBy w' row) (hr:∀ k,row=some k→w0.heap.size≤k∧∀ x∈L,x.1≠k):Mem w0 w' L:=by
 refine ⟨Below.grown h.mem.ext hg h.mem.ext.size (by grind),fun x hx=>⟨(h.mem.own x hx).1,?_⟩,h.mem.nodup⟩;rw [hg.block x.1 (h.mem.lt hx) (by grind)];exact (h.mem.own x hx).2
theorem Rw.call (h:Rw w0 w v e size n xs L) (he:Ext w w'):Rw w0 w' v e size n xs L:=by
 refine ⟨h.mem.call he,h.own.kept (row:=none) ⟨he.os,he.tape,he.output,he.size,fun k hk _=>he.block k hk⟩ ?_,h.apart⟩
 grind
theorem Rw.newBlk (h:Rw w0 w v e size n xs L) {b:Nat} {o:Obj} (hb:b=w.heap.size) (hw:w'=w.alloc o):Rw w0 w' v e size n xs ((b,o)::L):=by
 have hx:Ext w w':=by rw [hw];exact (Ext.refl w).alloc o
 refine ⟨h.mem.new hb hw,(h.call hx).own,fun x hx=>?_⟩
 rcases List.mem_cons.1 hx with rfl|hx
 ·intro e;have:=h.own.lt _ e;omega
 ·exact h.apart x hx
theorem AppV.rw {t ty:TypeId} {i:TypeInfo} {z:Value} {A:Option Addr} {m c:Nat} {news:List Value} {K:Value→World→Prop} (ht:P.underlying t=some (.slice e)) (hi:P.info? e=some i) (hz:i.zero=some z)
  (hsize:i.size=size) (hzs:z.cells.size=size) (hsz:0<size) (h:Rw w0 w v e size n xs L) (hl:news.length=m*size)
  (hA:news≠[]→∃ b off,A=some ⟨b,off,none⟩∧CellsAt w b off news) (h1:∀ u∈news,u.oneCell'=true) (hb:(n+m)*i.bytes≤140737488355328) (h63:n+m≤140737488355328)
  (hk:∀ A' c' w',Rw w0 w' (.slice A' (n+m) c') e size (n+m) (xs++news) L→K (.slice A' (n+m) c') w'):AppV P #[t,t] ty v (.slice A m c) w K:=by
 cases A with
 | none=>
  have hn:news=[]:=by
   simp_all
  subst hn;have hm:m=0:=by
   grind [Nat.mul_eq_zero]
  subst hm;obtain ⟨A',c',rfl⟩:=h.slice;refine ⟨_,w,?_,hk A' c' w (by simpa using h)⟩
  rcases h.own.2 with ⟨e1,e2⟩|⟨g,cap,cur,e1,_,_,hnc,_⟩
  ·cases e1;simp [Builtin.append_,run_underlying ht,sizeOf,typeInfo,hi,Builtin.lenOf,Builtin.firstCells]
  ·cases e1;simp [Builtin.append_,run_underlying ht,sizeOf,typeInfo,hi,Builtin.lenOf,Builtin.firstCells,hnc,storeCells]
 | some a=>
  have hcells:∀ j u,news[j]?=some u→w.cell? (a.add j)=some u:=by
   intro j u hu;obtain ⟨b,off,h0,h1⟩:=hA (by grind);cases h0;rw [q7];exact h1 j u hu
  obtain ⟨v',w',hrun,h2,h3,_,h5⟩:=run_append_own_at (P:=P) w w0.heap.size t ty e i z size i.bytes ht hi hz hsize rfl hzs hsz v n xs h.own a m c news hl hcells h1 (by grind [maxLen]) hb h.mem.ext.size;have hR:Rw w0 w' v' e size (n+m) (xs++news) L:=by
   refine ⟨h.grown h3 (fun k hk=>⟨(h.own.lt k hk).1,fun x hx e=>h.apart x hx (by rw [hk,e])⟩),h2,fun x hx=>?_⟩
   rcases h5 with h5|h5<;>rw [h5]
   ·exact h.apart x hx
   ·intro e;have:=h.mem.lt (b:=x.1) (o:=x.2) hx
    simp_all
  obtain ⟨A',c',rfl⟩:=hR.slice;exact ⟨_,w',hrun,(by grind)⟩
end
end V
end Go.Proofs.YtccmcfpmknpccaaGreatDoor
