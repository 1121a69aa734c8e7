/- Part 1 of 11. -/
import Derived.Test.YtacnkdagblbgfaaGreatDoorProg
import Derived.WalkKit
import Derived.WalkSpells
import Derived.StillTactics
import Derived.Lib.Hide
import Derived.IntWalk
import Derived.Still
import Derived.Scope
import Derived.Maps.AppendAt
import Derived.Lib.AppendStr
import Derived.Orders
namespace Go.Proofs.YtacnkdagblbgfaaGreatDoor
open Go.RowKit
abbrev Aa:=@if_neg
abbrev Ad:=@if_pos
abbrev Ae:=@List.getElem?_eq_some_iff
abbrev Af:=@congrArg
abbrev Ag:=@List.getD_eq_getElem?_getD
abbrev Ah:=@List.mem_singleton
abbrev Ai:=@List.mem_append_right
abbrev Aj:=@Array.getElem?_eq_getElem
abbrev Ak:=@List.append_assoc
abbrev Am:=@Nat.zero_le
abbrev Ao:=@List.getElem?_map
abbrev Aq:=@Nat.le_refl
abbrev Ar:=@List.getElem?_toArray
abbrev As:=@List.length_cons
abbrev Au:=@List.getElem?_eq_none
abbrev Aw:=@Nat.zero_add
abbrev Az:=@decide_eq_true
abbrev AB:=@List.map_append
abbrev AC:=@List.length_map
abbrev AD:=@List.mem_cons
abbrev AE:=@List.perm_append_comm
abbrev AF:=@List.take_of_length_le
abbrev AG:=@List.length_take
abbrev AH:=@decide_eq_false
abbrev AI:=@List.append_nil
abbrev AJ:=@Bool.and_eq_true
abbrev AK:=@List.mem_cons_self
abbrev AM:=@List.drop_drop
abbrev AO:=@List.map_cons
abbrev AP:=@List.sublist_cons_self
abbrev AQ:=@List.getElem?_append_left
abbrev AR:=@List.getElem?_append_right
abbrev AS:=@Array.getElem?_eq_some_iff
abbrev AT:=@List.getElem_mem
abbrev AU:=@Nat.le_trans
abbrev AV:=@Bool.eq_iff_iff
abbrev AW:=@List.eq_nil_of_length_eq_zero
abbrev AX:=@Nat.lt_or_ge
abbrev AY:=@List.mem_map
abbrev AZ:=@List.length_singleton
abbrev Ba:=@List.mem_append
abbrev Bb:=@List.mem_append_left
abbrev Bc:=@List.getElem?_take
abbrev Bd:=@Array.getElem?_eq_none
abbrev Be:=@List.drop_eq_nil_of_le
abbrev Bf:=@Array.toList_inj
abbrev Bg:=@List.take_length
abbrev Bh:=@List.pairwise_cons
abbrev Bi:=@List.mem_iff_getElem?
abbrev Bj:=@Classical.byContradiction
abbrev Bk:=@Nat.mul_one
abbrev Bl:=@Nat.eq_of_beq_eq_true
abbrev Bm:=@List.take_succ_eq_append_getElem
abbrev Bn:=@Option.some_get
abbrev Bo:=@List.getElem?_eq_getElem
abbrev Bp:=@Option.some.injEq
abbrev Br:=@List.nil_append
abbrev Bs:=@Nat.pow_le_pow_right
abbrev Bt:=@List.getElem?_range
abbrev Bu:=@List.drop_eq_getElem_cons
abbrev Bw:=@Nat.lt_of_lt_of_le
abbrev Bx:=@Bool.eq_false_iff
abbrev Bz:=@List.take_zero
abbrev B0:=@List.mem_filter
abbrev B4:=@Option.map_some
abbrev B9:=@List.getElem?_cons_zero
abbrev BA:=@List.drop_zero
abbrev BB:=@Option.some.inj
abbrev BC:=@List.cons_lt_cons_iff
abbrev BD:=@Nat.mod_eq_of_lt
abbrev BF:=@List.getElem?_set_self
abbrev BG:=@Nat.add_sub_cancel
abbrev BH:=@Nat.add_zero
abbrev BI:=@Nat.mul_le_mul_right
abbrev BJ:=@List.take_add_one
abbrev BK:=@List.take_append_of_le_length
abbrev BL:=@List.cons_append
abbrev BM:=@List.map_nil
abbrev BN:=@Array.getD_eq_getD_getElem?
abbrev BO:=@List.perm_middle
abbrev BP:=@List.length_nil
abbrev BQ:=@List.drop_append_of_le_length
abbrev BR:=@of_decide_eq_true
abbrev BT:=@Nat.mul_le_mul
abbrev BU:=@List.take_succ_cons
abbrev BV:=@List.mem_cons_of_mem
abbrev BW:=@List.ext_getElem?
abbrev BX:=@List.getElem?_set
abbrev BY:=@List.mem_range
abbrev BZ:=@Nat.eq_zero_or_pos
abbrev Ca:=@Nat.lt_of_le_of_lt
abbrev Cb:=@List.length_filter_le
abbrev Cc:=@List.length_pos_iff
abbrev Cd:=@List.pairwise_iff_getElem
abbrev Ce:=@List.all_eq_true
abbrev Cf:=@List.mem_of_getElem?
abbrev Cg:=@Array.mem_toList_iff
abbrev Ch:=@Nat.sub_add_cancel
abbrev Ci:=@List.perm_append_comm_assoc
abbrev Cj:=@Array.getElem?_toList
abbrev Ck:=@List.take_append_drop
abbrev Cl:=@List.Perm.append_left
abbrev Cm:=@beq_eq_false_iff_ne
abbrev Cn:=@Nat.not_lt_zero
abbrev Co:=@Array.toList_setIfInBounds
abbrev Cp:=@Decidable.not_not
abbrev Cq:=@List.getLast?_eq_none_iff
abbrev Cr:=@List.getElem?_drop
abbrev Cs:=@List.getElem_cons_zero
abbrev Ct:=@List.filter_append
abbrev Cu:=@List.not_mem_nil
abbrev Cv:=@List.flatten_cons
abbrev Cw:=@List.mem_iff_getElem
abbrev Cx:=@List.getElem_map
abbrev Cy:=@ByteArray.size_extract
abbrev Cz:=@Nat.succ_ne_zero
abbrev C0:=@Classical.not_not
abbrev C7:=@Nat.add_assoc
abbrev C9:=@List.take_left
abbrev CA:=@Bool.or_eq_true
abbrev CB:=@Nat.add_comm
abbrev CD:=@Nat.mul_comm
abbrev CE:=@Nat.sub_self
abbrev CF:=@Bool.false_eq_true
abbrev CG:=@List.count_eq_zero
abbrev CH:=@UInt8.toNat_ofNat'
abbrev CI:=@Option.getD_some
abbrev CJ:=@List.pairwise_singleton
abbrev CK:=@List.size_toArray
abbrev CL:=@Array.getElem_mem
abbrev CM:=@List.mem_map_of_mem
abbrev CN:=@List.flatten_append
abbrev CO:=@List.foldl_cons
abbrev CP:=@List.length_set
abbrev CQ:=@Array.getElem?_setIfInBounds_ne
abbrev CR:=@Decidable.byContradiction
abbrev CS:=@List.getLast?_eq_getElem?
abbrev CT:=@Nat.le_of_ble_eq_true
abbrev CU:=@beq_iff_eq
abbrev CV:=@Nat.mod_lt
abbrev CW:=@Nat.succ_mul
abbrev CX:=@List.mem_of_mem_take
abbrev CY:=@Bool.or_eq_false_iff
abbrev CZ:=@List.foldl_nil
abbrev Da:=@List.pairwise_append
abbrev Db:=@Int.toNat_natCast
abbrev Dc:=@Nat.add_sub_cancel_left
abbrev Dd:=@Nat.min_eq_left
abbrev De:=@ByteArray.data_extract
abbrev Df:=@List.getElem_cons_succ
abbrev Dg:=@List.drop_of_length_le
abbrev Dh:=@Bool.true_and
abbrev Di:=@List.all_cons
abbrev Dj:=@List.sum_cons
abbrev Dk:=@Nat.lt_succ_self
abbrev Dl:=@List.length_tail
abbrev Dm:=@Array.getElem?_modify
abbrev Dn:=@List.singleton_append
abbrev Do:=@Array.mapM_eq_mapM_toList
abbrev Dp:=@List.mem_or_eq_of_mem_set
abbrev Dq:=@List.sublist_append_right
abbrev Dr:=@Int.natCast_mul
abbrev Dt:=@List.head?_cons
abbrev Du:=@Bool.not_eq_true'
abbrev Dv:=@Nat.lt_trichotomy
abbrev Dw:=@Nat.le_succ
abbrev Dx:=@Bool.false_or
abbrev Dy:=@Bool.and_true
abbrev Dz:=@Nat.lt_irrefl
abbrev D0:=@Bool.not_eq_true
abbrev D1:=@List.eq_nil_iff_forall_not_mem
abbrev D2:=@Bool.and_false
abbrev D3:=@List.getElem?_cons_succ
abbrev D4:=@List.length_eq_zero_iff
abbrev D5:=@List.drop_left
abbrev D6:=@List.all_nil
abbrev D7:=@Nat.sub_zero
abbrev D8:=@Classical.em
abbrev D9:=@UInt8.toNat_inj
abbrev DA:=@Nat.div_le_self
abbrev DB:=@List.range_succ
abbrev DC:=@Nat.ble_eq_true_of_le
abbrev DD:=@ByteArray.size_append
abbrev DE:=@List.all_eq_false
abbrev DF:=@Array.getElem?_setIfInBounds_self_of_lt
abbrev DG:=@List.getElem?_append
abbrev DH:=@List.map_map
abbrev DI:=@Nat.pow_succ
abbrev DJ:=@Nat.zero_lt_succ
abbrev DK:=@List.set_set
abbrev DL:=@List.mem_flatten
abbrev DM:=@Nat.shiftRight_eq_div_pow
abbrev DN:=@List.map_congr_left
abbrev DO:=@Array.toList_append
abbrev DP:=@Array.getElem?_replicate
abbrev DQ:=@List.nodup_cons
abbrev DR:=@List.all_append
abbrev DS:=@List.not_lt_nil
abbrev DT:=@Nat.not_lt
abbrev DU:=@Nat.eq_or_lt_of_le
abbrev DV:=@List.filter_cons_of_pos
abbrev DW:=@Option.map_eq_some_iff
abbrev DX:=@List.filter_congr
abbrev DY:=@List.findIdx_lt_length_of_exists
abbrev DZ:=@List.set_append_right
abbrev Ea:=@ByteArray.data_append
abbrev Eb:=@Array.mem_of_getElem?
abbrev Ec:=@UInt8.lt_iff_toNat_lt
abbrev Ed:=@Nat.and_two_pow_sub_one_eq_mod
abbrev Ee:=@List.any_cons
abbrev Ef:=@Prod.mk.injEq
abbrev Eg:=@List.mem_of_mem_drop
abbrev Eh:=@Nat.add_mul
abbrev Ei:=@Nat.le_zero
abbrev Ej:=@Nat.mul_eq_zero
abbrev Ek:=@List.any_append
abbrev El:=@List.drop_succ_cons
abbrev Em:=@Array.foldl_toList
abbrev En:=@List.mapM_cons
abbrev Eo:=@Nat.pos_of_ne_zero
abbrev Ep:=@Nat.pow_add
abbrev Eq:=@Nat.one_mul
abbrev Es:=@List.any_eq_true
abbrev Et:=@Nat.div_eq_of_lt
abbrev Eu:=@List.nil_sublist
abbrev Ev:=@List.map_set
abbrev Ew:=@Bool.or_true
abbrev Ex:=@Nat.zero_mul
abbrev Ey:=@Prod.ext
abbrev Ez:=World
abbrev E0:=ByteArray
abbrev E4:=Program
abbrev E6:=TypeId
abbrev E7:=UInt8
abbrev E8:=Value
abbrev E9:=Value→World→Prop
abbrev EB:=Nat→Value
abbrev EC:=World→Prop
abbrev ED:=List (Nat×Obj)
abbrev EE:=List Value
abbrev EF:=List Nat
noncomputable abbrev EG:=Tryz.prog
abbrev EH:=Array Value
abbrev EI:=List Deferred
theorem fq{p:Prop}(e:p:=by(repeat' first|exact trivial|refine And.intro rfl ?_)):p:=e
theorem Oo{p:Prop}(e:p:=by omega):p:=e
theorem Jk{p:Prop}(e:p:=by kernel_rfl):p:=e
theorem Od{p:Prop}(e:p:=by decide):p:=e
theorem Js{p:Prop}(e:p:=by simp):p:=e
theorem Ys{p:Prop}(e:p:=by(simp;omega)):p:=e
theorem Oa{p:Prop}(e:p:=by assumption):p:=e
theorem mh{α:Type}{a:α}{l:List α}:a∈a::l:=AK ..
abbrev LB:=List E7
abbrev oA:=Option Addr
abbrev ii(n:Int):E8:=.int .i64 n
abbrev pp(b:Nat):E8:=.pointer (some ⟨b,0,none⟩)
variable {b base c d g i id j k m off r:Nat} {vals ρ ρa:EB} {a:Act} {p q:Prop} {P:E4} {w w' w0:Ez} {xo yo:Operand} {x y:E8} {K R:E9} {o oj:Oper} {mx:Option E8} {f:FuncId} {vs:EE} {ty:E6} {ops:Array Oper} {Q':Exit->Act->EC} {body:Code} {s:E0} {o':Obj} {cs cur:EH} {L L':ED} {listed:Array Bool} {K2:Act->EC} {I:(Nat->Bool)->EB->EC}
theorem zge{α:Type}{l:List α}(h:i<l.length):l[i]?=some l[i]:=Bo h
theorem zld{α:Type}{l:List α}:(l.drop i).length=l.length-i:=List.length_drop ..
theorem zla{α:Type}{l m:List α}:(l++m).length=l.length+m.length:=List.length_append ..
theorem znr{n:Nat}:n<=n:=Aq _
theorem zmg{α:Type}{l:List α}{a:α}(h:l[i]?=some a):a∈l:=Cf h
theorem zmc{α:Type}{a y:α}{l:List α}(h:a∈l):a∈y::l:=BV _ h
namespace V
def upd(ρ:EB)(d:Nat)(v:E8):Nat->E8:=fun t=>bif Nat.beq t d then v else ρ t
def ev(ρ:EB):Operand->E8
 | .tmp t=>ρ t
 | .const v=>v
 | .global g=>.pointer (some ⟨g,0,none⟩)
 | .func f=>.func (.func f) #[] #[]
def qcx:E8->Bool
 | .agg _ | .tuple _=>false
 | _=>true
structure St(n:Nat)(ρ:EB)(a:Act):Prop where
 size:a.tmps.size=n
 get:∀t,a.tmps.getD t undef=ρ t
 defers:a.defers=[]
theorem St.eval{n:Nat}(h:St n ρ a):a.eval=ev ρ:=by
 funext x;cases x<;>simp[Act.eval,ev,h.get]
theorem St.put{n:Nat}(h:St n ρ a)(hd:d<n)(v:E8):St n (upd ρ d v) (a.put (some d) v):=by
 refine⟨by simp[Act.put,h.size],fun t=>?_,by simp[Act.put,h.defers]⟩;have hg:=h.get t;have hs:=h.size;simp only[Act.put,upd,BN]at hg|-
 by_cases e:t=d
 ·subst e;simp[hs,hd]
 ·have e':Nat.beq t d=false:=Bx.2 fun h=>e (Bl h)
  rw[e',CQ (fun x=>e x.symm)]
  simpa using hg
theorem St.same{n:Nat}(h:St n ρ a){v:E8}(hv:ρ d=v):St n (upd ρ d v) a:=by
 refine⟨h.size,fun t=>?_,h.defers⟩;rw[h.get];unfold upd
 by_cases e:t=d
 ·subst e;simp[hv]
 ·have e':Nat.beq t d=false:=Bx.2 fun h=>e (Bl h)
  rw[e'];rfl
structure Tst(b:Bool)(p q:Prop):Prop where
 t:b=true->p
 f:b=false->q
theorem Tst.tt(h:p):Tst true p q:=⟨fun _=>h,fun e=>by cases e⟩
theorem Tst.ff(h:q):Tst false p q:=⟨(fun e=>by cases e),fun _=>h⟩
theorem Tst.dec{c:Prop}[Decidable c](h1:c->p)(h2:¬c->q):Tst (decide c) p q:=⟨fun e=>h1 (BR e),fun e=>h2 (of_decide_eq_false e)⟩
theorem Tst.not{b:Bool}(h:Tst b q p):Tst (!b) p q:=⟨fun e=>h.f (by simpa using e),fun e=>h.t (by simpa using e)⟩
theorem Tst.beqT{b c:Bool}(h:Tst b p q)(hc:c=true:=by rfl):Tst (b==c) p q:=by subst hc;cases b<;>exact h
theorem Tst.beqF{b c:Bool}(h:Tst b q p)(hc:c=false:=by rfl):Tst (b==c) p q:=by
 subst hc;cases b
 ·exact⟨fun _=>h.f rfl,fun e=>by cases e⟩
 ·exact⟨(fun e=>by cases e),fun _=>h.t rfl⟩
theorem Tst.iff(c:Prop){b:Bool}(hb:b=true↔c)(h1:c->p)(h2:¬c->q):Tst b p q:=⟨fun e=>h1 (hb.1 e),fun e=>h2 (fun hc=>by rw[hb.2 hc]at e;cases e)⟩
theorem Tst.yes{b:Bool}(hb:b=true)(h:p):Tst b p q:=⟨fun _=>h,fun e=>by rw[hb]at e;cases e⟩
theorem Tst.no{b:Bool}(hb:b=false)(h:q):Tst b p q:=⟨(fun e=>by rw[hb]at e;cases e),fun _=>h⟩
theorem Tst.both{b:Bool}(h1:b=true->p)(h2:b=false->q):Tst b p q:=⟨h1,h2⟩
structure Obl(p k:Prop):Prop where
 o:p
 k:k
structure Wit{α:Type}(p:α->Prop)(K:α->Prop):Prop where
 h:∃x,p x/\K x
def qdc(P:E4)(f:FuncId):Bool:=
 match P.funcs[f]? with
 | some fn => !(fn.name== "runtime.NumGoroutine")&&fn.body.isSome
 | none=>false
def Gv(P:E4)(f:FuncId)(args:EE)(w:Ez)(R:E9):Prop:=
 qdc P f=true/\Calls P f args.toArray w fun e w'=>∃v,e=.returned v/\R v w'
structure RunV(P:E4)(s:Sem E8)(w:Ez)(K:E9):Prop where
 h:∃v w',s.run P w=.ok v w'/\K v w'
structure Fall(P:E4)(s:Sem Next)(w:Ez)(K:E9):Prop where
 h:(∃v w',s.run P w=.ok (.value v) w'/\K v w')\/(∃w',s.run P w=.ok .skip w'/\K undef w')
structure LoadV(w:Ez)(b off:Nat)(K:E8->Prop):Prop where
 h:∃v,w.cell? ⟨b,off,none⟩=some v/\K v
structure LoadA(w:Ez)(b off size:Nat)(K:EE->Prop):Prop where
 h:∃cs:EE,cs.length=size/\(∀i,i<size->w.cell? ⟨b,off+i,none⟩=cs[i]?)/\K cs
structure StoreV(w:Ez)(b off:Nat)(v:E8)(K:EC):Prop where
 h:(∃o,w.cell? ⟨b,off,none⟩=some o)/\w.frozen? ⟨b,off,none⟩=false/\qcx v=true/\K (w.setCell ⟨b,off,none⟩ v)
structure StoreA(P:E4)(w:Ez)(b off:Nat)(vs:EE)(K:EC):Prop where
 h:∃w',(storeCells ⟨b,off,none⟩ vs).run P w=.ok () w'/\K w'
structure AppV(P:E4)(argTypes:Array E6)(ty:E6)(s x:E8)(w:Ez)(K:E9):Prop where
 h:∃v w',(Builtin.append_ argTypes ty #[s,x]).run P w=.ok v w'/\K v w'
structure NewV(w:Ez)(o:Obj)(K:Nat->EC):Prop where
 h:∀b w',b=w.heap.size->w'=w.alloc o->K b w'
structure ElemV(A:Option Addr)(i:Int)(len size:Nat)(K:E8->Prop):Prop where
 h:∃(b off j:Nat),A=some ⟨b,off,none⟩/\i=(j:Int)/\j<len/\K (.pointer (some ⟨b,off+j*size,none⟩))
structure LoopV(P:E4)(n:Nat)(body:Code)(Q:Exit->EB->EC)(ρ:EB)(w:Ez):Prop where
 h:∀a,St n ρ a->(Code.loop body).wp P (fun e a' w'=>∃ρ',St n ρ' a'/\Q e ρ' w') a w
structure DrawV(P:E4)(n id:Nat)(ops:Array Oper)(Q:Exit->EB->EC)(ρ:EB)(w:Ez):Prop where
 h:∀a,St n ρ a->(Code.region id ops true).wp P (fun e a' w'=>∃ρ',St n ρ' a'/\Q e ρ' w') a w
structure CodeV(P:E4)(n:Nat)(c:Code)(Q:Exit->EB->EC)(ρ:EB)(w:Ez):Prop where
 h:∀a,St n ρ a->c.wp P (fun e a' w'=>∃ρ',St n ρ' a'/\Q e ρ' w') a w
def InR(k:IntKind)(n:Int):Prop:=
 match k with
 | .i64=>-9223372036854775808<=n/\n<=9223372036854775807
 | .i32=>-2147483648<=n/\n<=2147483647
 | .i16=>-32768<=n/\n<=32767
 | .i8=>-128<=n/\n<=127
 | .u64=>0<=n/\n<=18446744073709551615
 | .u32=>0<=n/\n<=4294967295
 | .u16=>0<=n/\n<=65535
 | .u8=>0<=n/\n<=255
def eqk:IntKind->IntKind->Bool
 | .i64,.i64 | .i32,.i32 | .i16,.i16 | .i8,.i8 | .u64,.u64 | .u32,.u32 | .u16,.u16 | .u8,.u8=>true
 | _,_=>false
theorem qac5{k j:IntKind}(h:eqk k j=true):k=j:=by cases k<;>cases j<;>first|rfl|cases h
def gb(s:E0)(k:Nat):E7:=s.data.toList.getD k 0
def seq(x y:E0):Bool:=x.data==y.data
def slt(x y:E0):Bool:=Op.bytesLess x.toList y.toList
def qex(op:BinOp)(k:IntKind)(x y:Int):Int:=
 let a:=BitVec.ofInt k.bits x
 let b:=BitVec.ofInt k.bits y
 match op with
 | .and=>k.wrap (a &&&b).toNat
 | .or=>k.wrap (a |||b).toNat
 | .xor=>k.wrap (a ^^^ b).toNat
 | _=>k.wrap (a &&& ~~~b).toNat
def qis(v:E8)(K:E8->Prop):Prop:=
 match v with
 | .bool b=>K (.bool b)
 | .int k n=>K (.int k n)
 | .float k n=>K (.float k n)
 | .complex k a b=>K (.complex k a b)
 | .string s=>K (.string s)
 | .pointer a=>K (.pointer a)
 | .slice a l c=>K (.slice a l c)
 | .map r=>K (.map r)
 | .chan r=>K (.chan r)
 | .func f a c=>K (.func f a c)
 | .nilFunc=>K .nilFunc
 | .iface t v=>K (.iface t v)
 | .nilIface=>K .nilIface
 | .agg cs=>K (.agg cs)
 | .tuple vs=>K (.tuple vs)
theorem qbk(v:E8)(K:E8->Prop):qis v K=K v:=by cases v<;>rfl
def qcc:EE->(EE->Prop)->Prop
 | [],K=>K []
 | v::l,K=>qis v fun u=>qcc l fun r=>K (u::r)
theorem qai(l:EE):∀K:EE->Prop,qcc l K=K l:=by
 induction l with
 | nil=>intro K;rfl
 | cons v l ih=>intro K;simp only[qcc,qbk,ih]
def evs(ρ:EB):List Operand->EE
 | []=>[]
 | x::l=>ev ρ x::evs ρ l
theorem qeu(ρ:EB)(l:List Operand):evs ρ l=l.map (ev ρ):=by induction l<;>simp[evs, *]
def setL:EE->Nat->E8->EE
 | [],_,_=>[]
 | _::l,0,v=>v::l
 | x::l,i+1,v=>x::setL l i v
theorem qabz(l:EE)(i:Nat)(v:E8):setL l i v=l.set i v:=by
 induction l generalizing i with
 | nil=>rfl
 | cons x l ih=>cases i<;>simp[setL,ih]
def qgs:Operand->Bool
 | .const _=>true
 | _=>false
def isEq:BinOp->Bool
 | .eql | .neq=>true
 | _=>false
def eqOp:BinOp->Bool
 | .eql=>true
 | _=>false
def qlb(P:E4)(t:E6)(xo yo:Operand)(x y:E8):Option Bool:=
 match x,y with
 | .pointer none,.pointer b=>match P.underlying t with|some (.pointer _)=>some b.isNone|_=>none
 | .pointer (some _),.pointer none=>match P.underlying t with|some (.pointer _)=>some false|_=>none
 | .slice none _ _,.slice b _ _=>match P.underlying t with|some (.slice _)=>some b.isNone|_=>none
 | .slice (some _) _ _,.slice none _ _=>match P.underlying t with|some (.slice _)=>some false|_=>none
 | .nilIface,.nilIface=>match P.underlying t with|some (.interface _)=>(bif qgs xo||qgs yo then some true else none)|_=>none
 | .nilIface,.iface _ _=>match P.underlying t with|some (.interface _)=>some false|_=>none
 | .iface _ _,.nilIface=>match P.underlying t with|some (.interface _)=>some false|_=>none
 | _,_=>none
def binV(P:E4)(op:BinOp)(t:E6)(xo yo:Operand)(x y:E8)(w:Ez)(K:E8->Prop)(KW:E9):Prop:=
 match x,y with
 | .int k a,.int k' b=>
  match op with
  | .shl=>Wit (fun r=>0<=b/\b<k.bits/\k.wrap (a*2 ^ b.toNat)=r) (fun r=>K (.int k r))
  | .shr=>Wit (fun r=>0<=b/\b<k.bits/\a/2 ^ b.toNat=r) (fun r=>K (.int k r))
  | _=>bif eqk k k' then
   match op with
   | .add=>Obl (InR k (a+b)) (K (.int k (a+b)))
   | .sub=>Obl (InR k (a-b)) (K (.int k (a-b)))
   | .mul=>Obl (InR k (a*b)) (K (.int k (a*b)))
   | .quo=>Obl (0<=a/\0<b/\InR k (a/b)) (K (.int k (a/b)))
   | .rem=>Obl (0<=a/\0<b) (K (.int k (a%b)))
   | .eql=>K (.bool (decide (a=b)))
   | .neq=>K (.bool (decide (a≠b)))
   | .lss=>K (.bool (decide (a<b)))
   | .leq=>K (.bool (decide (a<=b)))
   | .gtr=>K (.bool (decide (b<a)))
   | .geq=>K (.bool (decide (b<=a)))
   | _=>Wit (fun r=>qex op k a b=r) (fun r=>K (.int k r))
   else False
 | .string a,.string b=>
  match op with
  | .add=>Obl (a.size+b.size<=9223372036854775807) (K (.string (a++b)))
  | .eql=>K (.bool (seq a b))
  | .neq=>K (.bool (!seq a b))
  | .lss=>K (.bool (slt a b))
  | .leq=>K (.bool (slt a b||seq a b))
  | .gtr=>K (.bool (!(slt a b||seq a b)))
  | .geq=>K (.bool (!slt a b))
  | _=>False
 | .bool a,.bool b=>
  match op,P.underlying t with
  | .eql,some .bool=>K (.bool (a==b))
  | .neq,some .bool=>K (.bool (!(a==b)))
  | _,_=>False
 | x,y=>bif isEq op then(match qlb P t xo yo x y with|some b=>K (.bool (bif eqOp op then b else !b))|none=>RunV P (do eqGuard op t xo yo x y;binOp op t x y) w KW)else RunV P (do eqGuard op t xo yo x y;binOp op t x y) w KW
theorem qmn(a b:E0):(a.toList==b.toList)=seq a b:=by
 unfold seq;rw[ByteArray.toList_eq,ByteArray.toList_eq,AV,CU,CU]
 constructor
 ·intro h;exact Bf.1 h
 ·intro h;rw[h]
theorem qac{a b:E0}:seq a b=true↔a=b:=by
 unfold seq;rw[CU];cases a;cases b;simp
theorem qr4{a b:E0}:seq a b=false↔a≠b:=by
 rw[<-D0,qac]
theorem Tst.seq{a b:E0}{p q:Prop}(h1:a=b->p)(h2:a≠b->q):Tst (seq a b) p q:=⟨fun e=>h1 (qac.1 e),fun e=>h2 (qr4.1 e)⟩
theorem InR.wrap{k:IntKind}{n:Int}(h:InR k n):k.wrap n=n:=by
 cases k<;>obtain⟨h1,h2⟩:=h<;>simp[IntKind.bits,IntKind.signed,IntKind.wrap]<;>(try split)<;>omega
theorem qcn{k:IntKind}{a b:Int}{op:BinOp}(t:E6)(xo yo:Operand)(h:op=.and\/op=.or\/op=.xor\/op=.andNot):
  (do eqGuard op t xo yo (.int k a) (.int k b);binOp op t (.int k a) (.int k b):Sem E8).run P w=.ok (.int k (qex op k a b)) w:=by
 rcases h with rfl|rfl|rfl|rfl<;>simp[eqGuard,binOp,Op.intBits,qex,go_sem]<;>rfl
theorem qj4{t:E6}{a b:Bool}(d:Nat)(hu:P.underlying t=some .bool):
  (Op.equalIn (d+1) t (.bool a) (.bool b)).run P w=.ok (a==b) w:=by
 simp[Op.equalIn,run_underlying hu]
theorem qgm{t:E6}{a b:Bool}(hu:P.underlying t=some .bool):
  (Op.equal t (.bool a) (.bool b)).run P w=.ok (a==b) w:=qj4 9999 hu
theorem qls{t:E6}{b:Bool}(d:Nat)(h:qlb P t xo yo x y=some b):(Op.equalIn (d+1) t x y).run P w=.ok b w:=by
 unfold qlb at h
 split at h
 ·split at h
  ·rename_i hu;cases h;simp[Op.equalIn,run_underlying hu]
  ·cases h
 ·split at h
  ·rename_i hu;cases h;simp[Op.equalIn,run_underlying hu]
  ·cases h
 ·split at h
  ·rename_i hu;cases h;simp[Op.equalIn,run_underlying hu]
  ·cases h
 ·split at h
  ·rename_i hu;cases h;simp[Op.equalIn,run_underlying hu]
  ·cases h
 ·split at h
  ·rename_i hu
   cases hc:qgs xo||qgs yo<;>rw[hc]at h
   ·cases h
   ·cases h;simp[Op.equalIn,run_underlying hu]
  ·cases h
 ·split at h
  ·rename_i hu;cases h;simp[Op.equalIn,run_underlying hu]
  ·cases h
 ·split at h
  ·rename_i hu;cases h;simp[Op.equalIn,run_underlying hu]
  ·cases h
 ·cases h
theorem qlr{t:E6}{b:Bool}{op:BinOp}(h:qlb P t xo yo x y=some b):(eqGuard op t xo yo x y).run P w=.ok () w:=by
 unfold qlb at h
 split at h
 all_goals try (cases op<;>simp[eqGuard];done)
 ·split at h
  ·cases hc:qgs xo||qgs yo<;>rw[hc]at h
   ·cases h
   ·cases op<;>cases xo<;>cases yo<;>simp_all[eqGuard,qgs]
  ·cases h
 ·cases h
theorem qabu{t:E6}{b:Bool}{op:BinOp}(ho:isEq op=true)(h:qlb P t xo yo x y=some b)(h1:∀k a,x≠.int k a)(h2:∀a,x≠.string a)(h3:∀a,x≠.bool a):
  (do eqGuard op t xo yo x y;binOp op t x y:Sem E8).run P w=.ok (.bool (bif eqOp op then b else !b)) w:=by
 have hg:=qlr (w:=w) (op:=op) h;have he:=qls (w:=w) 9999 h;cases op<;>first|(cases ho;done)|skip
 ·unfold qlb at h;cases x<;>cases y<;>first|(cases h;done)|(simp[hg,binOp,Op.equal,Op.maxDepth,he,eqOp])
 ·unfold qlb at h;cases x<;>cases y<;>first|(cases h;done)|(simp[hg,binOp,Op.equal,Op.maxDepth,he,eqOp])
theorem qxe{op:BinOp}{t:E6}(h:binV P op t xo yo x y w (fun v=>K v w) K):
  ∃v w',(do eqGuard op t xo yo x y;binOp op t x y:Sem E8).run P w=.ok v w'/\K v w':=by
 unfold binV at h
 split at h
 ·rename_i k a k' b
  have hkk:op≠.shl->op≠.shr->eqk k k'=true:=by
   intro h1 h2;cases e:eqk k k'
   ·rw[e]at h;cases op<;>first|exact absurd rfl h1|exact absurd rfl h2|exact h.elim
   ·rfl
  cases op<;>simp only at h
  case shl=>
   obtain⟨r,⟨h0,h1,rfl⟩,hk⟩:=h;refine⟨_,w,?_,hk⟩;have e:¬b<0:=by omega
   have e2:min b.toNat k.bits=b.toNat:=by omega
   have es:Op.shift .shl k a k' b=pure (.int k (k.wrap (a*2 ^ b.toNat))):=by simp only[Op.shift,Aa e,e2]
   simp[eqGuard,binOp,es,go_sem]
  case shr=>
   obtain⟨r,⟨h0,h1,rfl⟩,hk⟩:=h;refine⟨_,w,?_,hk⟩;have e:¬b<0:=by omega
   have e2:min b.toNat k.bits=b.toNat:=by omega
   have e3:a.fdiv (2 ^ b.toNat)=a/2 ^ b.toNat:=Int.fdiv_eq_ediv_of_nonneg _ (by exact Int.le_of_lt (Int.pow_pos Od));have es:Op.shift .shr k a k' b=pure (.int k (a/2 ^ b.toNat)):=by simp only[Op.shift,Aa e,e2,e3]
   simp[eqGuard,binOp,es,go_sem]
  all_goals(obtain rfl:=qac5 (hkk Js Js);rw[hkk Js Js]at h;simp only[cond_true]at h)
  case add=>obtain⟨hr,hk⟩:=h;exact⟨_,w,by simp[eqGuard,binOp,Op.intArith,go_sem,hr.wrap],hk⟩
  case sub=>obtain⟨hr,hk⟩:=h;exact⟨_,w,by simp[eqGuard,binOp,Op.intArith,go_sem,hr.wrap],hk⟩
  case mul=>obtain⟨hr,hk⟩:=h;exact⟨_,w,by simp[eqGuard,binOp,Op.intArith,go_sem,hr.wrap],hk⟩
  case quo=>
   obtain⟨⟨h0,h1,hr⟩,hk⟩:=h;refine⟨_,w,?_,hk⟩;have e:b≠0:=by omega
   have e2:a.tdiv b=a/b:=Int.tdiv_eq_ediv_of_nonneg h0;simp[eqGuard,binOp,Op.intDiv,go_sem,e,e2,hr.wrap]
  case rem=>
   obtain⟨⟨h0,h1⟩,hk⟩:=h;refine⟨_,w,?_,hk⟩;have e:b≠0:=by omega
   have e2:a.tmod b=a%b:=Int.tmod_eq_emod_of_nonneg h0;simp[eqGuard,binOp,Op.intDiv,go_sem,e,e2]
  case and=>obtain⟨r,rfl,hk⟩:=h;exact⟨_,w,qcn _ _ _ Js,hk⟩
  case or=>obtain⟨r,rfl,hk⟩:=h;exact⟨_,w,qcn _ _ _ Js,hk⟩
  case xor=>obtain⟨r,rfl,hk⟩:=h;exact⟨_,w,qcn _ _ _ Js,hk⟩
  case andNot=>obtain⟨r,rfl,hk⟩:=h;exact⟨_,w,qcn _ _ _ Js,hk⟩
  case eql=>
   refine⟨_,w,?_,h⟩;have e:(a==b)=decide (a=b):=rfl;simp[eqGuard,binOp,Op.intCmp,go_sem,e]
  case neq=>
   refine⟨_,w,?_,h⟩;have e:(a != b)=decide (a≠b):=by rw[AV];simp
   simp[eqGuard,binOp,Op.intCmp,go_sem,e]
  case lss=>exact⟨_,w,by simp[eqGuard,binOp,Op.intCmp,go_sem],h⟩
  case leq=>exact⟨_,w,by simp[eqGuard,binOp,Op.intCmp,go_sem],h⟩
  case gtr=>exact⟨_,w,by simp[eqGuard,binOp,Op.intCmp,go_sem],h⟩
  case geq=>exact⟨_,w,by simp[eqGuard,binOp,Op.intCmp,go_sem],h⟩
 ·rename_i a b
  cases op<;>simp only at h
  case add=>
   obtain⟨h1,hk⟩:=h;refine⟨_,w,?_,hk⟩;simp[eqGuard,binOp,Op.stringOp,go_sem];omega
  case eql=>exact⟨_,w,by simp[eqGuard,binOp,Op.stringOp,go_sem,qmn],h⟩
  case neq=>exact⟨_,w,by simp[eqGuard,binOp,Op.stringOp,go_sem,qmn],h⟩
  case lss=>exact⟨_,w,by simp[eqGuard,binOp,Op.stringOp,go_sem,slt],h⟩
  case leq=>exact⟨_,w,by simp[eqGuard,binOp,Op.stringOp,go_sem,slt,qmn],h⟩
  case gtr=>exact⟨_,w,by simp[eqGuard,binOp,Op.stringOp,go_sem,slt,qmn],h⟩
  case geq=>exact⟨_,w,by simp[eqGuard,binOp,Op.stringOp,go_sem,slt],h⟩
 ·rename_i a b
  split at h
  ·rename_i hu
   exact⟨_,w,by simp[eqGuard,binOp,qgm hu,go_sem],h⟩
  ·rename_i hu
   exact⟨_,w,by simp[eqGuard,binOp,qgm hu,go_sem],h⟩
  ·exact h.elim
 ·cases ho:isEq op<;>rw[ho]at h<;>dsimp only[cond_true,cond_false]at h
  ·obtain⟨v,w',h1,h2⟩:=h;exact⟨v,w',h1,h2⟩
  ·split at h
   ·rename_i b hb
    exact⟨_,w,qabu ho hb (fun k a e=>by subst e;simp[qlb]at hb) (fun a e=>by subst e;simp[qlb]at hb) (fun a e=>by subst e;simp[qlb]at hb),h⟩
   ·obtain⟨v,w',h1,h2⟩:=h;exact⟨v,w',h1,h2⟩
def aggD:TypeDesc->Bool
 | .struct _ | .array _ _=>true
 | _=>false
def tsz(P:E4)(t:E6):Nat:=match P.info? t with|some i=>i.size|none=>0
def hasT(P:E4)(t:E6):Bool:=(P.info? t).isSome
def getL{α:Type}:List α->Nat->Option α
 | [],_=>none
 | v::_,0=>some v
 | _::l,i+1=>getL l i
theorem qm{α:Type}(l:List α)(i:Nat):getL l i=l[i]?:=by
 induction l generalizing i with
 | nil=>rfl
 | cons v l ih=>cases i<;>simp[getL,ih]
structure IdxV(i:Int)(n:Nat)(K:Nat->Prop):Prop where
 h:∃j:Nat,i=(j:Int)/\j<n/\K j
def OpOk2(P:E4)(s:Sem Next)(w:Ez)(K:E9):Prop:=
 (∃v w',s.run P w=.ok (.value v) w'/\K v w')\/(∃w',s.run P w=.ok .skip w'/\K undef w')
def OpOk(P:E4)(s:Sem Next)(w:Ez)(K:E9):Prop:=
 OpOk2 P s w K\/(∃f args,s.run P w=.ok (.enter f args) w/\Calls P f args w fun e w'=>∃v,e=.returned v/\K v w')
theorem OpOk2.val{s:Sem E8}(h:∃v w',s.run P w=.ok v w'/\K v w'):
  OpOk2 P (do pure (.value (<-s))) w K:=by
 obtain⟨v,w',h1,h2⟩:=h;exact .inl ⟨v,w',by simp[h1],h2⟩
theorem OpOk2.unit{s:Sem Unit}(h:∃w',s.run P w=.ok () w'/\K undef w'):
  OpOk2 P (do s;pure .skip) w K:=by
 obtain⟨w',h1,h2⟩:=h;exact .inr ⟨w',by simp[h1],h2⟩
theorem OpOk.wp{next:Act->EC}{Q:Exit->Act->EC}(he:a.eval=ev ρ)(h:OpOk P (execOp (ev ρ) o) w K)(hn:∀v w',K v w'->next (a.put o.dst v) w'):o.wp P a w next Q:=by
 unfold Oper.wp;rw[he]
 rcases h with(⟨v,w',h1,h2⟩|⟨w',h1,h2⟩)|⟨f,args,h1,h2⟩
 ·rw[h1];exact hn _ _ h2
 ·rw[h1];exact hn _ _ h2
 ·rw[h1,Oper.upon_enter];refine h2.mono fun e w' ⟨v,he,hk⟩=>?_;subst he;exact hn _ _ hk
def qabe(c a b:E8)(K:E8->Prop):Prop:=
 match c with
 | .bool t=>Tst t (qis a K) (qis b K)
 | _=>False
def idxV(P:E4)(t:E6)(x i:E8)(K:E8->Prop):Prop:=
 match P.underlying t,x,i with
 | some .string,.string s,.int _ i=>IdxV i s.size fun j=>K (.int .u8 (gb s j).toNat)
 | some (.array n e),.agg cs,.int _ i=>
  match P.underlying e with
  | some d=>bif hasT P e then bif aggD d then IdxV i n fun j=>Wit (fun l:EE=>(cs.toList.drop (j*tsz P e)).take (tsz P e)=l) fun l=>K (.agg l.toArray)
   else IdxV i n fun j=>Wit (fun v:E8=>cs.toList[j*tsz P e]?=some v) K else False
  | none=>False
 | _,_,_=>False
def qoq(P:E4)(t:E6)(x i:E8)(K:E8->Prop):Prop:=
 match P.underlying t,x,i with
 | some (.slice e),.slice A len _,.int _ i=>bif hasT P e then ElemV A i len (tsz P e) K else False
 | some (.array n e),.pointer (some ⟨b,off,none⟩),.int _ i=>bif hasT P e then IdxV i n fun j=>K (.pointer (some ⟨b,off+j*tsz P e,none⟩))else False
 | _,_,_=>False
def qxx(P:E4)(t:E6)(x:E8)(w:Ez)(K:E8->Prop):Prop:=
 match P.underlying t,x with
 | some d,.pointer (some ⟨b,off,none⟩)=>
  bif aggD d then bif hasT P t then LoadA w b off (tsz P t) fun cs=>qcc cs fun l=>K (.agg l.toArray)else False
  else LoadV w b off fun v=>qis v K
 | _,_=>False
def qw0(P:E4)(t:E6)(x v:E8)(w:Ez)(s:Sem Next)(K:E9):Prop:=
 match x with
 | .pointer (some ⟨b,off,none⟩)=>
  match v with
  | .tuple _=>Fall P s w K
  | .agg cs=>bif hasT P t&&Nat.beq (tsz P t) cs.toList.length then StoreA P w b off cs.toList fun w'=>K undef w' else False
  | v=>bif hasT P t&&Nat.beq (tsz P t) 1 then StoreV w b off v fun w'=>K undef w' else False
 | _=>False
def qog(x:E8)(ix:Nat)(K:E8->Prop):Prop:=
 match x with
 | .tuple vs=>match getL vs.toList ix with
  | some v=>qis v K
  | none=>False
 | _=>False
def qio(P:E4)(t:E6)(x:E8)(f:Nat)(K:E8->Prop):Prop:=
 match P.underlying t,x with
 | some (.struct fs),.pointer (some ⟨b,off,none⟩)=>
  match getL fs.toList f with
  | some f=>bif hasT P f.type && !Nat.beq (tsz P f.type) 0 then K (.pointer (some ⟨b,off+f.offset,none⟩))else False
  | none=>False
 | _,_=>False
def q0l(P:E4)(t:E6)(x:E8)(f:Nat)(K:E8->Prop):Prop:=
 match P.underlying t,x with
 | some (.struct fs),.agg cs=>
  match getL fs.toList f with
  | some f=>match P.underlying f.type with
   | some d=>bif aggD d then bif hasT P f.type then qcc ((cs.toList.drop f.offset).take (tsz P f.type)) fun l=>K (.agg l.toArray)else False
    else match getL cs.toList f.offset with
     | some v=>qis v K
     | none=>False
   | none=>False
  | none=>False
 | _,_=>False
def boxV(t:E6)(v:E8)(w:Ez)(K:E9):Prop:=
 qcc v.cells.toList fun l=>NewV w (.cells l.toArray t) fun b w'=>K (.pointer (some ⟨b,0,none⟩)) w'
def qu4(P:E4)(t:E6)(w:Ez)(K:E9):Prop:=
 match P.info? t with
 | some i=>match i.zero with
  | some z=>boxV t z w K
  | none=>False
 | none=>False
def CellsAt(w:Ez)(b off:Nat)(vs:EE):Prop:=∀k v,vs[k]?=some v->w.cell? ⟨b,off+k,none⟩=some v
def byteCells(l:List E7):EE:=l.map fun c=>.int .u8 c.toNat
structure BytesS(w:Ez)(A:Option Addr)(n:Nat)(K:E8->Prop):Prop where
 h:∃l:List E7,l.length=n/\(l≠[]->∃b off,A=some ⟨b,off,none⟩/\CellsAt w b off (byteCells l))/\K (.string ⟨l.toArray⟩)
structure NewBytesV(s:E0)(e:E6)(w:Ez)(K:E9):Prop where
 h:∀cap cs b w',s.size<=cap->cs=(byteCells s.data.toList++List.replicate (cap-s.size) (Value.int .u8 0)).toArray->b=w.heap.size->
  w'=w.drew.alloc (.cells cs e (cs.size,cs.size+1))->K (.slice (some ⟨b,0,none⟩) s.size cap) w'
def q9p(P:E4)(src dst:E6)(x:E8)(w:Ez)(s:Sem Next)(K:E9):Prop:=
 match P.underlying src,P.underlying dst,x with
 | some _,some (.int k),.int _ n=>Wit (fun r=>k.wrap n=r) fun r=>K (.int k r) w
 | some .string,some .string,.string s=>K (.string s) w
 | some (.int _),some .string,.int _ n=>K (.string (Utf8.encode n)) w
 | some (.slice e),some .string,.slice A n _=>match P.underlying e with
  | some (.int .u8)=>BytesS w A n fun v=>K v w
  | _=>Fall P s w K
 | some .string,some (.slice e),.string x=>match P.underlying e with
  | some (.int .u8)=>NewBytesV x e w K
  | _=>Fall P s w K
 | _,_,_=>Fall P s w K
def unV(op:UnOp)(x:E8)(K:E8->Prop):Prop:=
 match op,x with
 | .not,.bool b=>K (.bool (!b))
 | .neg,.int k n=>Obl (InR k (-n)) (K (.int k (-n)))
 | .xor,.int k n=>Wit (fun r=>qex .xor k (if k.signed then -1 else k.max) n=r) (fun r=>K (.int k r))
 | _,_=>False
def bnd(o:Option E8)(d n:Nat):Prop:=
 match o with
 | none=>n=d
 | some (.int _ i)=>i=(n:Int)
 | _=>False
structure SliceS(s:E0)(lo hi:Option E8)(K:E8->Prop):Prop where
 h:∃l h:Nat,bnd lo 0 l/\bnd hi s.size h/\l<=h/\h<=s.size/\K (.string (s.extract l h))
structure SliceV(size:Nat)(A:Option Addr)(len cap:Nat)(lo hi mx:Option E8)(K:E8->Prop):Prop where
 h:∃l h m:Nat,bnd lo 0 l/\bnd hi len h/\bnd mx cap m/\l<=h/\h<=m/\m<=cap/\(mx.isSome=true->hi.isSome=true)/\
  ∀A',A'=(if m=l then A else A.map (·.add (l*size)))->K (.slice A' (h-l) (m-l))
def evo(ρ:EB):Option Operand->Option E8
 | none=>none
 | some x=>some (ev ρ x)
def q3c(P:E4)(t:E6)(x:E8)(lo hi mx:Option E8)(w:Ez)(s:Sem Next)(K:E9):Prop:=
 match P.underlying t,x with
 | some .string,.string s=>match mx with
  | none=>SliceS s lo hi fun v=>K v w
  | some _=>False
 | some (.slice e),.slice A len cap=>bif hasT P e then SliceV (tsz P e) A len cap lo hi mx fun v=>K v w else False
 | _,_=>Fall P s w K
def lenV(P:E4)(t:Option E6)(x:EE)(w:Ez)(s:Sem Next)(K:E9):Prop:=
 match t,x with
 | some t,v::_=>match P.underlying t,v with
  | some .string,.string s=>K (.int .i64 s.size) w
  | some (.slice _),.slice _ n _=>K (.int .i64 n) w
  | _,_=>Fall P s w K
 | _,_=>Fall P s w K
structure CallV(P:E4)(f:FuncId)(args:EE)(w:Ez)(K:E9):Prop where
 h:Gv P f args w K\/∃v w',(callFunc f args.toArray).run P w=.ok (.value v) w'/\K v w'
def appV(P:E4)(argTypes:Array E6)(ty:E6)(vs:EE)(w:Ez)(s:Sem Next)(K:E9):Prop:=
 match vs with
 | [a,b]=>qis a fun a=>qis b fun b=>AppV P argTypes ty a b w fun v w'=>qis v fun v=>K v w'
 | _=>Fall P s w K
structure InvV(P:E4)(t:E6)(v:E8)(name:String)(vs:EE)(w:Ez)(K:E9):Prop where
 h:∃f r,(method (P.types.size+Made.depth) t v name).run P w=.ok (f,r) w/\CallV P f (r::vs) w K
def qzy(P:E4)(c:Call)(ty:E6)(ρ:EB)(w:Ez)(s:Sem Next)(K:E9):Prop:=
 match c.callee with
 | .value f=>match ev ρ f with
  | .func (.func g) first captured=>qcc (evs ρ c.args.toList) fun vs=>
   match first.toList,captured.toList with
   | [],[]=>CallV P g vs w K
   | x,y=>CallV P g (x++(vs++y)) w K
  | _=>Fall P s w K
 | .builtin .len=>lenV P (getL c.argTypes.toList 0) (evs ρ c.args.toList) w s K
 | .builtin .append=>appV P c.argTypes ty (evs ρ c.args.toList) w s K
 | .invoke recv name=>match ev ρ recv with
  | .iface t v=>qcc (evs ρ c.args.toList) fun vs=>InvV P t v name vs w K
  | _=>Fall P s w K
 | _=>Fall P s w K
def csz:E8->Nat
 | .agg cs=>cs.size
 | _=>1
def qr5:EE->Nat->EE->EE
 | l,_,[]=>l
 | l,off,v::vs=>qr5 (setL l off v) (off+1) vs
def qqv(place:Nat->Option (Nat×Nat))(cells:EE):List (Nat×E8)->Option EE
 | []=>some cells
 | (i,v)::rest=>
  match place i with
  | none=>none
  | some (off,size)=>bif Nat.beq (csz v) size&&Nat.ble (off+csz v) cells.length then qqv place (qr5 cells off v.cells.toList) rest else none
def evp(ρ:EB):List (Nat×Operand)->List (Nat×E8)
 | []=>[]
 | (i,x)::l=>(i,ev ρ x)::evp ρ l
def qd0(P:E4):List Field->List (Nat×Nat)
 | []=>[]
 | f::l=>(f.offset,tsz P f.type)::qd0 P l
def allT(P:E4):List Field->Bool
 | []=>true
 | f::l=>hasT P f.type&&allT P l
def qms(P:E4)(t:E6)(parts:List (Nat×E8))(K:E8->Prop):Prop:=
 match P.info? t with
 | some i=>match i.zero with
  | some z=>match P.underlying t with
   | some (.struct fs)=>bif allT P fs.toList then
     match qqv (fun k=>getL (qd0 P fs.toList) k) z.cells.toList parts with
     | some l=>qcc l fun l=>K (.agg l.toArray)
     | none=>False
    else False
   | some (.array _ e)=>bif hasT P e then
     match qqv (fun k=>some (k*tsz P e,tsz P e)) z.cells.toList parts with
     | some l=>qcc l fun l=>K (.agg l.toArray)
     | none=>False
    else False
   | _=>False
  | none=>False
 | none=>False
def qca(z:EE):Nat->EE
 | 0=>[]
 | n+1=>z++qca z n
def qgq(P:E4)(t:E6)(len:Nat)(parts:List (Nat×E8))(w:Ez)(K:E9):Prop:=
 match P.underlying t with
 | some (.slice e)=>match P.info? e with
  | some i=>match i.zero with
   | some z=>bif Nat.beq z.cells.toList.length i.size&&Nat.ble (len*i.size) 16777216 && !Nat.beq i.size 0 then
     match qqv (fun k=>some (k*i.size,i.size)) (qca z.cells.toList len) parts with
     | some l=>qcc l fun l=>NewV w (.cells l.toArray e) fun b w'=>K (.slice (some ⟨b,0,none⟩) len len) w'
     | none=>False
    else False
   | none=>False
  | none=>False
 | _=>False
structure MakeV(z:EE)(bytes e:Nat)(len cap:Int)(w:Ez)(K:E9):Prop where
 h:∃l c:Nat,len=(l:Int)/\cap=(c:Int)/\l<=c/\c*bytes<=140737488355328/\c<9223372036854775808/\
  ∀b w',b=w.heap.size->w'=w.alloc (.cells (qca z c).toArray e)->K (.slice (some ⟨b,0,none⟩) l c) w'
def qi1(P:E4)(t:E6)(len cap:E8)(w:Ez)(K:E9):Prop:=
 match P.underlying t,len,cap with
 | some (.slice e),.int _ len,.int _ cap=>match P.info? e with
  | some i=>match i.zero with
   | some z=>bif Nat.beq z.cells.toList.length i.size && !Nat.beq i.size 0 then MakeV z.cells.toList i.bytes e len cap w K else False
   | none=>False
  | none=>False
 | _,_,_=>False
def qi0(P:E4)(t:E6)(x:E8)(K:E8->Prop):Prop:=
 match P.underlying t with
 | some (.interface _)=>False
 | some _=>K (.iface t x)
 | none=>False
def nilV(P:E4)(x:E8)(w:Ez)(s:Sem Next)(K:E9):Prop:=
 match x with
 | .pointer (some a)=>K (.pointer (some a)) w
 | _=>Fall P s w K
def setO(w:Ez)(r:Nat)(o:Obj):Ez:={ w with heap:=w.heap.setIfInBounds r o }
def q2s(P:E4)(t:E6)(x:E8)(w:Ez)(s:Sem Next)(K:E9):Prop:=
 match P.underlying t,x with
 | some .string,.string s=>NewV w (.stringIter s 0) fun b w'=>K (.pointer (some ⟨b,0,none⟩)) w'
 | _,_=>Fall P s w K
structure NextS(w:Ez)(r:Nat)(K:E9):Prop where
 h:∃s pos,w.heap[r]?=some (.stringIter s pos)/\
  (pos<s.size->∀w',w'=setO w r (.stringIter s (pos+(Utf8.decode s pos).2))->K (.tuple #[.bool true,.int .i64 pos,.int .i32 (Utf8.decode s pos).1]) w')/\
  (¬pos<s.size->K (.tuple #[.bool false]) w)
def qaas(P:E4)(x:E8)(isString:Bool)(w:Ez)(s:Sem Next)(K:E9):Prop:=
 match isString,x with
 | true,.pointer (some ⟨r,0,none⟩)=>NextS w r K
 | _,_=>Fall P s w K
def opV(P:E4)(o:Oper)(ρ:EB)(w:Ez)(K:E9):Prop:=
 match o.op with
 | .move x | .assign x=>qis (ev ρ x) fun v=>K v w
 | .pick c a b=>qabe (ev ρ c) (ev ρ a) (ev ρ b) fun v=>K v w
 | .binOp op t x y _=>binV P op t x y (ev ρ x) (ev ρ y) w (fun v=>K v w) K
 | .unOp op _ x=>unV op (ev ρ x) fun v=>K v w
 | .convert src dst x=>q9p P src dst (ev ρ x) w (execOp (ev ρ) o) K
 | .index t x i=>idxV P t (ev ρ x) (ev ρ i) fun v=>K v w
 | .indexAddr t x i=>qoq P t (ev ρ x) (ev ρ i) fun v=>K v w
 | .load t x=>qxx P t (ev ρ x) w fun v=>K v w
 | .store t x v=>qw0 P t (ev ρ x) (ev ρ v) w (execOp (ev ρ) o) K
 | .extract x ix=>qog (ev ρ x) ix fun v=>K v w
 | .fieldAddr t x f=>qio P t (ev ρ x) f fun v=>K v w
 | .field t x f=>q0l P t (ev ρ x) f fun v=>K v w
 | .box t x=>boxV t (ev ρ x) w K
 | .alloc t=>qu4 P t w K
 | .slice t x lo hi mx=>q3c P t (ev ρ x) (evo ρ lo) (evo ρ hi) (evo ρ mx) w (execOp (ev ρ) o) K
 | .nilCheck x=>nilV P (ev ρ x) w (execOp (ev ρ) o) K
 | .call c=>qzy P c o.type ρ w (execOp (ev ρ) o) K
 | .build t parts=>qms P t (evp ρ parts.toList) fun v=>K v w
 | .buildSlice t len parts=>qgq P t len (evp ρ parts.toList) w K
 | .makeSlice t l c=>qi1 P t (ev ρ l) (ev ρ c) w K
 | .makeFunc fn first captured=>qcc (evs ρ first.toList) fun a=>qcc (evs ρ captured.toList) fun b=>K (.func fn a.toArray b.toArray) w
 | .makeInterface t x=>qi0 P t (ev ρ x) fun v=>K v w
 | .range t x=>q2s P t (ev ρ x) w (execOp (ev ρ) o) K
 | .next it b=>qaas P (ev ρ it) b w (execOp (ev ρ) o) K
 | _=>Fall P (execOp (ev ρ) o) w K
section
variable {P:E4} {w:Ez}
theorem Fall.ok{s:Sem Next}(h:Fall P s w K):OpOk2 P s w K:=by
 rcases h.h with h|h
 ·exact .inl h
 ·exact .inr h
theorem qad4{v:E8}(h:K v w):OpOk2 P (pure (.value v)) w K:=.inl ⟨v,w,rfl,h⟩
theorem valV{s:Sem E8}{v:E8}(hs:s.run P w=.ok v w)(h:K v w):OpOk2 P (do pure (.value (<-s))) w K:=
 OpOk2.val ⟨v,w,hs,h⟩
theorem q5i{t:E6}(h:hasT P t=true):∃i,P.info? t=some i/\tsz P t=i.size:=by
 unfold hasT at h;unfold tsz;cases e:P.info? t with
 | none=>rw[e]at h;cases h
 | some i=>exact⟨i,rfl,rfl⟩
theorem q8{t:E6}(h:hasT P t=true):(sizeOf t).run P w=.ok (tsz P t) w:=by
 obtain⟨i,h1,h2⟩:=q5i h;simp[sizeOf,typeInfo,h1,h2]
theorem qd1{t:E6}{d:TypeDesc}(h:P.underlying t=some d):(isAgg t).run P w=.ok (aggD d) w:=by
 cases d<;>simp[isAgg,run_underlying h,aggD]
theorem qjs{t:E6}{d:TypeDesc}(h:P.underlying t=some d)(hd:aggD d=true)(hi:hasT P t=true)(cs:EH)(off:Nat):
  (part t cs off).run P w=.ok (.agg ((cs.toList.drop off).take (tsz P t)).toArray) w:=by
 simp[part,qd1 h,hd,q8 hi];rw[<-Bf];simp[List.take_drop]
theorem qhx{t:E6}{d:TypeDesc}(h:P.underlying t=some d)(hd:aggD d=false)(cs:EH)(off:Nat){v:E8}(hv:cs.toList[off]?=some v):
  (part t cs off).run P w=.ok v w:=by
 have hv':cs[off]?=some v:=by simpa using hv
 simp[part,qd1 h,hd,hv']
theorem q6b{c a b:Operand}(h:qabe (ev ρ c) (ev ρ a) (ev ρ b) (fun v=>K v w)):
  OpOk2 P (do pure (.value (if <-asBool (ev ρ c)then ev ρ a else ev ρ b))) w K:=by
 unfold qabe at h
 split at h
 ·rename_i t e
  rw[e];cases t
  ·have:=h.f rfl;rw[qbk]at this;exact .inl ⟨_,w,by simp[asBool],this⟩
  ·have:=h.t rfl;rw[qbk]at this;exact .inl ⟨_,w,by simp[asBool],this⟩
 ·exact h.elim
theorem qac7(s:E0)(j:Nat)(h:j<s.size):s[j]?=some (gb s j):=by
 unfold gb;have h':j<s.data.toList.length:=by simpa using h
 rw[Ag,Bo h',CI];exact getElem?_pos s j h
theorem q97{t:E6}{i:E8}(h:idxV P t x i (fun v=>K v w)):
  OpOk2 P (do pure (.value (<-Instr.index t x i))) w K:=by
 unfold idxV at h
 split at h
 ·rename_i hu
  obtain⟨j,rfl,hj,hk⟩:=h;refine valV ?_ hk;simp[Instr.index,asIntOf,run_underlying hu,qac7 _ _ hj]
 ·rename_i hu
  split at h
  ·rename_i d hd
   cases hT:hasT P _<;>rw[hT]at h
   ·exact h.elim
   ·cases ha:aggD d<;>rw[ha]at h
    ·obtain⟨j,rfl,hj,v,hv,hk⟩:=h;refine valV ?_ hk;simp[Instr.index,asIntOf,run_underlying hu,hj,q8 hT,qhx hd ha _ _ hv]
    ·obtain⟨j,rfl,hj,l,hl,hk⟩:=h;subst hl;refine valV ?_ hk;simp[Instr.index,asIntOf,run_underlying hu,hj,q8 hT,qjs hd ha hT]
  ·exact h.elim
 ·exact h.elim
theorem qan(b off n:Nat):(⟨b,off,none⟩:Addr).add n=⟨b,off+n,none⟩:=by
 unfold Addr.add;split
 ·subst_vars;rfl
 ·rfl
theorem qs4{t:E6}{i:E8}(h:qoq P t x i (fun v=>K v w)):
  OpOk2 P (do pure (.value (<-Instr.indexAt t x i))) w K:=by
 unfold qoq at h
 split at h
 ·rename_i hu
  cases hT:hasT P _<;>rw[hT]at h
  ·exact h.elim
  ·obtain⟨b,off,j,rfl,rfl,hj,hk⟩:=h;refine valV ?_ hk;simp[Instr.indexAt,asIntOf,run_underlying hu,hj,q8 hT,qan]
 ·rename_i hu
  cases hT:hasT P _<;>rw[hT]at h
  ·exact h.elim
  ·obtain⟨j,rfl,hj,hk⟩:=h;refine valV ?_ hk;simp[Instr.indexAt,asIntOf,run_underlying hu,hj,q8 hT,qan,Instr.sureAddr]
 ·exact h.elim
theorem q5u{t:E6}(h:qxx P t x w (fun v=>K v w)):
  OpOk2 P (do pure (.value (<-Instr.loadAt t x))) w K:=by
 unfold qxx at h
 split at h
 ·rename_i d b off hu
  cases ha:aggD d<;>rw[ha]at h
  ·obtain⟨v,hv,hk⟩:=h;rw[qbk]at hk;refine valV ?_ hk;simp[Instr.loadAt,Instr.sureAddr,loadVar,qd1 hu,ha,go_sem,hv]
  ·cases hT:hasT P t<;>rw[hT]at h
   ·exact h.elim
   ·obtain⟨cs,hl,hc,hk⟩:=h;rw[qai]at hk;refine valV ?_ hk;have:=run_loadCells_list (P:=P) w ⟨b,off,none⟩ cs (fun j v hv=>by
     have hj:j<cs.length:=by
      rcases AX j cs.length with h|h
      ·exact h
      ·rw[Au h]at hv;cases hv
     rw[qan,hc j Oo];exact hv)
    simp[Instr.loadAt,Instr.sureAddr,loadVar,qd1 hu,ha,q8 hT,<-hl,this]
 ·exact h.elim
theorem q3i{t:E6}{v:E8}{s:Sem Next}(hs:s=(do Instr.storeAt t x v;pure .skip))(h:qw0 P t x v w s K):
  OpOk2 P s w K:=by
 unfold qw0 at h
 split at h
 ·rename_i b off
  split at h
  ·exact h.ok
  ·rename_i cs
   cases hT:hasT P t<;>rw[hT]at h
   ·exact h.elim
   ·cases hn:Nat.beq (tsz P t) cs.toList.length<;>rw[hn]at h
    ·exact h.elim
    ·obtain⟨w',h1,hk⟩:=h;subst hs;have hn':tsz P t=cs.size:=by simpa using Bl hn
     refine OpOk2.unit ⟨_,?_,hk⟩;have hc:(Value.agg cs).cells=cs:=rfl;simp only[Instr.storeAt,Instr.sureAddr,storeVar,hc];simp[q8 hT,hn',h1]
  ·rename_i hv1 hv2
   cases hT:hasT P t<;>rw[hT]at h
   ·exact h.elim
   ·cases hn:Nat.beq (tsz P t) 1<;>rw[hn]at h
    ·exact h.elim
    ·obtain⟨⟨o,ho⟩,hf,h1,hk⟩:=h;subst hs;have hn':tsz P t=1:=Bl hn;refine OpOk2.unit ⟨_,?_,hk⟩;cases v<;>first
      | (exact(hv1 _ rfl).elim)
      | (exact(hv2 _ rfl).elim)
      | simp[Instr.storeAt,Instr.sureAddr,storeVar,Value.cells,q8 hT,hn',storeCells,store,Sem.run,Addr.add,ho,hf]
 ·exact h.elim
theorem qsx{ix:Nat}(h:qog x ix (fun v=>K v w)):
  OpOk2 P (do pure (.value (<-Instr.extract x ix))) w K:=by
 unfold qog at h
 split at h
 ·rename_i vs
  split at h
  ·rename_i v hv
   rw[qbk]at h;rw[qm]at hv;have hv':vs[ix]?=some v:=by simpa using hv
   refine valV ?_ h;simp[Instr.extract,hv']
  ·exact h.elim
 ·exact h.elim
theorem qoh{t:E6}{f:Nat}(h:qio P t x f (fun v=>K v w)):
  OpOk2 P (do pure (.value (<-Instr.fieldAt t x f))) w K:=by
 unfold qio at h
 split at h
 ·rename_i fs b off hu
  split at h
  ·rename_i fd hfd
   rw[qm]at hfd;have hfd':fs[f]?=some fd:=by simpa using hfd
   cases hT:hasT P fd.type<;>rw[hT]at h
   ·exact h.elim
   ·cases hz:Nat.beq (tsz P fd.type) 0<;>rw[hz]at h
    ·refine valV ?_ h;have hz':¬tsz P fd.type=0:=fun e=>by rw[e]at hz;cases hz
     simp[Instr.fieldAt,run_underlying hu,hfd',Instr.sureAddr,fieldPlace,q8 hT,hz',qan]
    ·exact h.elim
  ·exact h.elim
 ·exact h.elim
theorem q0m{t:E6}{f:Nat}(h:q0l P t x f (fun v=>K v w)):
  OpOk2 P (do pure (.value (<-Instr.field t x f))) w K:=by
 unfold q0l at h
 split at h
 ·rename_i fs cs hu
  split at h
  ·rename_i fd hfd
   rw[qm]at hfd;have hfd':fs[f]?=some fd:=by simpa using hfd
   split at h
   ·rename_i d hd
    cases ha:aggD d<;>rw[ha]at h
    ·simp only[cond_false]at h
     split at h
     ·rename_i v hv
      rw[qbk]at h;rw[qm]at hv;refine valV ?_ h;simp[Instr.field,run_underlying hu,hfd',asAgg,qhx hd ha _ _ hv]
     ·exact h.elim
    ·cases hT:hasT P fd.type<;>rw[hT]at h
     ·exact h.elim
     ·simp only[cond_true,qai]at h;refine valV ?_ h;simp[Instr.field,run_underlying hu,hfd',asAgg,qjs hd ha hT]
   ·exact h.elim
  ·exact h.elim
 ·exact h.elim
theorem qvb{t:E6}{v:E8}(h:boxV t v w K):
  ∃a,(newVar t v).run P w=.ok a (w.alloc (.cells v.cells t))/\K (.pointer (some a)) (w.alloc (.cells v.cells t)):=by
 unfold boxV at h;rw[qai]at h;refine⟨⟨w.heap.size,0,none⟩,by simp[newVar,newRow,go_sem],?_⟩;have:=h.h w.heap.size (w.alloc (.cells v.cells t)) rfl Js;exact this
theorem q9d{t:E6}{v:E8}(h:boxV t v w K):OpOk2 P (do pure (.value (<-Instr.box t v))) w K:=by
 obtain⟨a,h1,h2⟩:=qvb (P:=P) h;exact OpOk2.val ⟨_,_,by simp[Instr.box,h1],h2⟩
theorem qzo{t:E6}(h:qu4 P t w K):OpOk2 P (do pure (.value (<-Instr.alloc t true (.tuple #[])))) w K:=by
 unfold qu4 at h
 split at h
 ·rename_i i hi
  split at h
  ·rename_i z hz
   obtain⟨a,h1,h2⟩:=qvb (P:=P) h;exact OpOk2.val ⟨_,_,by simp[Instr.alloc,zeroValue,typeInfo,hi,hz,h1],h2⟩
  ·exact h.elim
 ·exact h.elim
theorem q3a(w:Ez)(cs:EH)(e:E6)(n:Nat)(hn:n=w.heap.size):(w.alloc (.cells cs e)).shape? n=some (e,cs.size):=by
 subst hn;unfold World.shape?;rw[heap_alloc_new]
theorem qxr(w:Ez)(cs:EH)(e:E6)(n:Nat)(hn:n=w.heap.size):(w.alloc (.cells cs e)).freeze ⟨n,cs.size,none⟩ 1=w.alloc (.cells cs e (cs.size,cs.size+1)):=by
 subst hn;unfold World.freeze World.alloc;rw[Aa Od];simp only
 congr 1
 apply Array.ext
 ·simp
 ·intro i h1 h2;rw[Array.getElem_modify];simp only[Array.getElem_push]
  split
  ·rename_i hi
   subst hi;simp
  ·rename_i hi
   simp at h2;rw[dif_pos Oo,dif_pos Oo]
theorem q4x{src dst:E6}{s:Sem Next}(hs:s=(do pure (.value (<-convert src dst x))))(h:q9p P src dst x w s K):
  OpOk2 P s w K:=by
 unfold q9p at h
 split at h
 ·rename_i d k n h1 h2
  obtain⟨r,rfl,hk⟩:=h;subst hs;refine valV ?_ hk;cases d<;>simp[convert,run_underlying h1,run_underlying h2,Conv.intToInt]
 ·rename_i sx h1 h2
  subst hs;refine valV ?_ h;simp[convert,run_underlying h1,run_underlying h2]
 ·rename_i h1 h2
  subst hs;refine valV ?_ h;simp[convert,run_underlying h1,run_underlying h2,Conv.intToString]
 ·rename_i e A n c h1 h2
  split at h
  ·rename_i he
   subst hs;obtain⟨l,hl,hA,hk⟩:=h;refine valV ?_ hk;cases A with
   | none=>
    have hl0:l=[]:=by
     cases l with
     | nil=>rfl
     | cons x r=>obtain⟨b,off,h0,_⟩:=hA Js;cases h0
    subst hl0;exact run_convert_bytes_nil w src e h1 he _ _ dst h2
   | some a=>
    rw[run_convert_bytes_string w src dst e _ _ _ h1 he h2];have hc:(loadCells a n).run P w=.ok ((l.map fun c=>(c.toNat:Int)).map (Value.int .u8)).toArray w:=by
     have:=run_loadCells_list (P:=P) w a (byteCells l) (fun j v hv=>by
      obtain⟨b,off,h0,h3⟩:=hA (by intro e;subst e;simp[byteCells]at hv);cases h0;rw[qan];exact h3 j v hv)
     rw[show(byteCells l).length=n by simp[byteCells,hl]]at this;rw[this,byteCells,DH];rfl
    rw[run_bytesToString w a n c _ hc,foldl_push_bytes]
    congr 3
    simp[ByteArray.empty,ByteArray.emptyWithCapacity];show([]:List E7)++_=l;rw[Br];have:∀l:List E7,l.map ((fun n:Int=>UInt8.ofNat n.toNat) ∘ fun c:E7=>(c.toNat:Int))=l:=by
     intro l;induction l with
     | nil=>rfl
     | cons x r ih=>simp[ih]
    exact this l
  ·exact h.ok
 ·rename_i e x h1 h2
  split at h
  ·rename_i he
   subst hs;have hcut:∀t,x.size<=Question.cut (.appendCap x.size 0 e) t:=fun t=>by simp[Question.cut]
   have hk:=h.h (Question.cut (.appendCap x.size 0 e) (w.tape w.drawn (.appendCap x.size 0 e))) _ w.heap.size _ (hcut _) rfl rfl rfl;refine OpOk2.val ⟨_,_,?_,hk⟩;generalize hcap:Question.cut (.appendCap x.size 0 e) (w.tape w.drawn (.appendCap x.size 0 e))=cap;have hcells:(x.data.map (fun b=>Value.int .u8 b.toNat)++Array.replicate (cap-x.size) (Value.int .u8 0))=(byteCells x.data.toList++List.replicate (cap-x.size) (Value.int .u8 0)).toArray:=by
    rw[<-Bf];simp[byteCells]
   simp only[convert];simp[run_underlying h1,run_underlying h2,run_underlying he,Conv.stringToBytes,choose,Sem.run,Question.forced,hcap,hcells,newRow,newObj,markStringish,shape,freeze];rw[q3a w.drew _ _ w.heap.size rfl];simp only[Sem.run,Result.andThen];rw[qxr w.drew _ _ w.heap.size rfl];simp
  ·exact h.ok
 ·exact h.ok
theorem qaeg{op:UnOp}(h:unV op x (fun v=>K v w)):OpOk2 P (do pure (.value (<-Op.unary op x))) w K:=by
 unfold unV at h
 split at h
 ·exact valV (by simp[Op.unary]) h
 ·obtain⟨hr,hk⟩:=h;refine valV ?_ hk;simp[Op.unary,Op.intArith,hr.wrap]
 ·obtain⟨r,rfl,hk⟩:=h;refine valV ?_ hk;simp[Op.unary,Op.intBits,qex]
 ·exact h.elim
theorem qcm{o:E8}{n y:Nat}{c:BoundsCode}(h:bnd (some o) d n)(hy:n<=y):(Instr.sliceBound o y c).run P w=.ok n w:=by
 unfold bnd at h
 split at h
 ·rename_i e;cases e
 ·rename_i k i e
  cases e;subst h;simp[Instr.sliceBound,asIntOf,hy]
 ·exact h.elim
theorem q3d{t:E6}{lo hi:Option E8}{s:Sem Next}(hs:s=(do pure (.value (<-Instr.sliceAt t x lo hi mx))))(h:q3c P t x lo hi mx w s K):OpOk2 P s w K:=by
 unfold q3c at h
 split at h
 ·rename_i sx hu
  subst hs
  split at h
  ·obtain⟨l,hh,h1,h2,h3,h4,hk⟩:=h;refine valV ?_ hk;cases lo with
   | none=>
    cases hi with
    | none=>
     cases h1;cases h2;simp[Instr.sliceAt,Instr.slice,Instr.sliceBounds,run_underlying hu]
    | some b=>
     cases h1;simp[Instr.sliceAt,Instr.slice,Instr.sliceBounds,run_underlying hu,qcm h2 h4]
   | some a=>
    cases hi with
    | none=>
     cases h2;simp[Instr.sliceAt,Instr.slice,Instr.sliceBounds,run_underlying hu,qcm h1 h3]
    | some b=>simp[Instr.sliceAt,Instr.slice,Instr.sliceBounds,run_underlying hu,qcm h1 h3,qcm h2 h4]
  ·exact h.elim
 ·rename_i e A len cap hu
  subst hs;cases hT:hasT P e<;>rw[hT]at h
  ·exact h.elim
  ·obtain⟨l,hh,m,h1,h2,h3,h4,h5,h6,h7,hk⟩:=h;have hk:=hk _ rfl;refine valV ?_ hk;cases mx with
   | none=>
    cases h3;cases lo with
    | none=>
     cases hi with
     | none=>
      cases h1;cases h2;simp[Instr.sliceAt,Instr.slice,Instr.sliceBounds,run_underlying hu,q8 hT]
     | some b=>
      cases h1;simp[Instr.sliceAt,Instr.slice,Instr.sliceBounds,run_underlying hu,q8 hT,qcm h2 h5]
    | some a=>
     cases hi with
     | none=>
      cases h2;simp[Instr.sliceAt,Instr.slice,Instr.sliceBounds,run_underlying hu,q8 hT,qcm h1 h4]
     | some b=>simp[Instr.sliceAt,Instr.slice,Instr.sliceBounds,run_underlying hu,q8 hT,qcm h1 h4,qcm h2 h5]
   | some c=>
    cases hi with
    | none=>exact absurd (h7 rfl) Js
    | some b=>
     cases lo with
     | none=>
      cases h1;simp[Instr.sliceAt,Instr.slice,Instr.sliceBounds,run_underlying hu,q8 hT,qcm h2 h5,qcm h3 h6]
     | some a=>simp[Instr.sliceAt,Instr.slice,Instr.sliceBounds,run_underlying hu,q8 hT,qcm h1 h4,qcm h2 h5,qcm h3 h6]
 ·exact h.ok
theorem qaau{x:Operand}(ho:o.op=.nilCheck x)(h:nilV P (ev ρ x) w (execOp (ev ρ) o) K):
  OpOk2 P (execOp (ev ρ) o) w K:=by
 unfold nilV at h
 split at h
 ·rename_i a e
  refine .inl ⟨_,w,?_,h⟩;simp[execOp,ho,e]
 ·exact h.ok
theorem qcu(h:qdc P f=true)(args:EH):(callFunc f args).run P w=.ok (.enter f args) w:=by
 unfold qdc at h;cases e:P.funcs[f]? with
 | none=>rw[e]at h;cases h
 | some fn=>
  rw[e]at h;simp only[AJ,Du]at h;have h1:¬fn.name = "runtime.NumGoroutine":=by simpa using h.1
  have h2:¬fn.body=none:=by
   intro hb;rw[hb]at h;cases h.2
  simp[callFunc,go_sem,e,h1,h2]
theorem CallV.ok(h:CallV P f vs w K):OpOk P (callFunc f vs.toArray) w K:=by
 rcases h.h with⟨h1,h2⟩|⟨v,w',h1,h2⟩
 ·exact .inr ⟨f,vs.toArray,qcu h1 _,h2⟩
 ·exact .inl (.inl ⟨v,w',h1,h2⟩)
theorem q1p{c:Call}(ho:o.op=.call c)(hc:c.callee=.builtin .len)(h:lenV P (getL c.argTypes.toList 0) (evs ρ c.args.toList) w (execOp (ev ρ) o) K):OpOk2 P (execOp (ev ρ) o) w K:=by
 unfold lenV at h
 split at h
 ·rename_i t v vs ht hv
  rw[qm]at ht;have ht':c.argTypes[0]?=some t:=by simpa using ht
  rw[qeu]at hv;have hv':(c.args.map (ev ρ))[0]?=some v:=by
   have:(c.args.map (ev ρ)).toList[0]?=some v:=by simp only[Array.toList_map,hv,B9]
   simpa using this
  have he:execOp (ev ρ) o=(do pure (.value (<-Builtin.len_ c.argTypes o.type (c.args.map (ev ρ))))):=by
   simp only[execOp,ho,resolve,hc];rfl
  split at h
  ·rename_i s hu
   rw[he];exact valV (by simp only[Builtin.len_,ht',hv'];simp[run_underlying hu,goInt]) h
  ·rename_i hu
   rw[he];exact valV (by simp only[Builtin.len_,ht',hv'];simp[run_underlying hu,goInt]) h
  ·exact h.ok
 ·exact h.ok
theorem q88{c:Call}(ho:o.op=.call c)(hc:c.callee=.builtin .append)(h:appV P c.argTypes o.type (evs ρ c.args.toList) w (execOp (ev ρ) o) K):OpOk2 P (execOp (ev ρ) o) w K:=by
 unfold appV at h
 split at h
 ·rename_i a b hv
  rw[qbk,qbk]at h;obtain⟨v,w',h1,hk⟩:=h;rw[qbk]at hk;have he:execOp (ev ρ) o=(do pure (.value (<-Builtin.append_ c.argTypes o.type (c.args.map (ev ρ))))):=by
   simp only[execOp,ho,resolve,hc];rfl
  have hv':c.args.map (ev ρ)=#[a,b]:=by
   rw[qeu]at hv;rw[<-Bf];simpa using hv
  rw[he,hv'];exact OpOk2.val ⟨v,w',h1,hk⟩
 ·exact h.ok
theorem OpOk.congr{s s':Sem Next}(he:s.run P w=s'.run P w)(h:OpOk P s' w K):OpOk P s w K:=by
 unfold OpOk OpOk2 at *;rw[he];exact h
theorem qve{c:Call}(ho:o.op=.call c)(h:qzy P c o.type ρ w (execOp (ev ρ) o) K):
  OpOk P (execOp (ev ρ) o) w K:=by
 unfold qzy at h
 split at h
 ·rename_i f hc
  split at h
  ·rename_i g first captured hf
   rw[qai,qeu]at h;have he:execOp (ev ρ) o=callFunc g (first++c.args.map (ev ρ)++captured):=by
    simp only[execOp,ho,resolve,hc,hf];rfl
   rw[he];have key:CallV P g (first.toList++(c.args.toList.map (ev ρ)++captured.toList)) w K:=by
    split at h
    ·rename_i h1 h2;rw[h1,h2];simpa using h
    ·exact h
   have e2:(first.toList++(c.args.toList.map (ev ρ)++captured.toList)).toArray=first++c.args.map (ev ρ)++captured:=by
    rw[<-Bf];simp
   rw[<-e2];exact key.ok
  ·exact .inl h.ok
 ·rename_i hc;exact .inl (q1p ho hc h)
 ·rename_i hc;exact .inl (q88 ho hc h)
 ·rename_i recv name hc
  split at h
  ·rename_i t v hr
   rw[qai,qeu]at h;obtain⟨f,r,hm,hk⟩:=h.h;have e1:execOp (ev ρ) o=invoke (.fn (.method name) #[]) (#[ev ρ recv]++c.args.map (ev ρ)):=by
    simp only[execOp,ho,resolve,hc];rfl
   have e2:invoke (.fn (.method name) #[]) (#[ev ρ recv]++c.args.map (ev ρ))=callMethod (ev ρ recv) name (c.args.map (ev ρ)):=by
    have h0:(#[ev ρ recv]++c.args.map (ev ρ))[0]?=some (ev ρ recv):=by rw[Array.getElem?_append_left Js];rfl
    have h1:(#[ev ρ recv]++c.args.map (ev ρ)).extract 1 (#[ev ρ recv]++c.args.map (ev ρ)).size=c.args.map (ev ρ):=by
     rw[<-Bf];simp;exact AF Js
    unfold invoke;simp only[h0,h1]
   have e3:(callMethod (.iface t v) name (c.args.map (ev ρ))).run P w=(callFunc f (#[r]++c.args.map (ev ρ))).run P w:=by
    simp only[callMethod];simp[go_sem];rw[show P.types.size+100=P.types.size+Made.depth from rfl,hm];rfl
   have e4:(r::c.args.toList.map (ev ρ)).toArray=#[r]++c.args.map (ev ρ):=by
    rw[<-Bf];simp
   refine OpOk.congr (s':=callFunc f (r::c.args.toList.map (ev ρ)).toArray) ?_ hk.ok;rw[e1,e2,hr,e3,e4]
  ·exact .inl h.ok
 ·exact .inl h.ok
theorem qac1(v:E8):csz v=v.cells.size:=by cases v<;>rfl
theorem q27(vs:EE):∀(cells:EH) (off k:Nat),
  (vs.zipIdx k).foldl (fun cs (x:E8×Nat)=>cs.setIfInBounds (off+x.2) x.1) cells=(qr5 cells.toList (off+k) vs).toArray:=by
 induction vs with
 | nil=>intro cells off k;simp[qr5]
 | cons v vs ih=>
  intro cells off k;simp only[List.zipIdx_cons,CO,qr5];rw[ih,qabz];simp[C7]
theorem qsz(place:Nat->Option (Nat×Nat))(parts:List (Nat×E8)):∀(cells:EE) (l:EE),qqv place cells parts=some l->
  Instr.fill place cells.toArray parts=some l.toArray:=by
 induction parts with
 | nil=>intro cells l h;cases h;rfl
 | cons x parts ih=>
  obtain⟨i,v⟩:=x;intro cells l h;simp only[qqv]at h;unfold Instr.fill;cases e:place i with
  | none=>rw[e]at h;cases h
  | some os=>
   obtain⟨off,size⟩:=os;rw[e]at h;simp only at h|-;cases hb:(Nat.beq (csz v) size&&Nat.ble (off+csz v) cells.length)<;>rw[hb]at h
   ·cases h
   ·simp only[cond_true]at h;simp only[AJ,Nat.ble_eq]at hb;rw[qac1]at hb;replace hb:=And.intro (Bl hb.1) hb.2;have hc:¬(v.cells.size≠size||off+v.cells.size > cells.toArray.size)=true:=by
     simp only[CK,CA,decide_eq_true_eq,not_or];exact⟨fun hh=>hh hb.1,by omega⟩
    rw[Aa hc];have:=q27 v.cells.toList cells.toArray off 0;rw[<-ih _ _ h]
    congr 1
    rw[<-Em,Array.toList_zipIdx]
    simpa using this
theorem qyv{fs:Array Field}(h:allT P fs.toList=true):
  (fs.mapM fun f=>Prod.mk f.offset <$> sizeOf f.type:Sem (Array (Nat×Nat))).run P w=.ok (qd0 P fs.toList).toArray w:=by
 obtain⟨l⟩:=fs;rw[Do];have:∀l:List Field,allT P l=true->(l.mapM fun f=>(Prod.mk f.offset <$> sizeOf f.type:Sem (Nat×Nat))).run P w=.ok (qd0 P l) w:=by
  intro l
  induction l with
  | nil=>intro _;simp[qd0]
  | cons f l ih=>
   intro h;simp only[allT,AJ]at h;simp[q8 h.1,ih h.2,qd0]
 simp[this l h]
theorem qzw{t:E6}{parts:Array (Nat×E8)}(h:qms P t parts.toList (fun v=>K v w)):
  OpOk2 P (do pure (.value (<-Instr.build t parts))) w K:=by
 unfold qms at h
 split at h
 ·rename_i i hi
  split at h
  ·rename_i z hz
   have hz0:(zeroValue t).run P w=.ok z w:=by simp[zeroValue,typeInfo,hi,hz]
   split at h
   ·rename_i fs hu
    cases hT:allT P fs.toList<;>rw[hT]at h
    ·exact h.elim
    ·simp only[cond_true]at h
     split at h
     ·rename_i l hl
      rw[qai]at h;refine valV ?_ h;have hf:=qsz _ _ _ _ hl;have hp:=qyv (w:=w) hT;have e:(fun k=>getL (qd0 P fs.toList) k)=fun x=>(qd0 P fs.toList).toArray[x]?:=by
       funext k;rw[qm];simp
      rw[e]at hf;have hf':Instr.fill (fun x=>(qd0 P fs.toList)[x]?) z.cells parts.toList=some l.toArray:=by simpa using hf
      simp only[Instr.build];simp[hz0,run_underlying hu,hp,hf']
     ·exact h.elim
   ·rename_i n e hu
    cases hT:hasT P e<;>rw[hT]at h
    ·exact h.elim
    ·simp only[cond_true]at h
     split at h
     ·rename_i l hl
      rw[qai]at h;refine valV ?_ h;have hf:=qsz _ _ _ _ hl;have hf':Instr.fill (fun k=>some (k*tsz P e,tsz P e)) z.cells parts.toList=some l.toArray:=by simpa using hf
      simp only[Instr.build];simp[hz0,run_underlying hu,q8 hT,hf']
     ·exact h.elim
   ·exact h.elim
  ·exact h.elim
 ·exact h.elim
theorem qp9(z:EE)(n:Nat):(qca z n).length=n*z.length:=by
 induction n with
 | zero=>simp[qca]
 | succ n ih=>simp[qca,ih,CW,CB]
theorem qzh(z:EE)(n:Nat):∀i,i<n*z.length->(qca z n)[i]?=z[i%z.length]?:=by
 induction n with
 | zero=>intro i hi;simp at hi
 | succ n ih=>
  intro i hi;simp only[qca]
  by_cases h:i<z.length
  ·rw[AQ h,BD h]
  ·rw[AR Oo,ih _ (by rw[CW]at hi;omega),<-Nat.mod_eq_sub_mod Oo]
theorem qxc(z:EH)(hz:0<z.size)(n:Nat):(Array.range (n*z.size)).map (z[· % z.size]!)=(qca z.toList n).toArray:=by
 rw[<-Bf];apply BW;intro i;have hl:(qca z.toList n).length=n*z.size:=by rw[qp9];simp
 by_cases hi:i<n*z.size
 ·have h1:=qzh z.toList n i (by simpa using hi);have h2:i%z.size<z.size:=CV _ hz;rw[show(qca z.toList n).toArray.toList=qca z.toList n from rfl,h1];simp[hi,h2]
 ·rw[show(qca z.toList n).toArray.toList=qca z.toList n from rfl,Au Ys,Au Oo]
theorem qma{t:E6}{len:Nat}{parts:Array (Nat×E8)}(h:qgq P t len parts.toList w K):
  OpOk2 P (do pure (.value (<-Instr.buildSlice t len parts))) w K:=by
 unfold qgq at h
 split at h
 ·rename_i e hu
  split at h
  ·rename_i i hi
   split at h
   ·rename_i z hz
    have hz0:(zeroValue e).run P w=.ok z w:=by simp[zeroValue,typeInfo,hi,hz]
    have hs0:(sizeOf e).run P w=.ok i.size w:=by simp[sizeOf,typeInfo,hi]
    cases hb:(Nat.beq z.cells.toList.length i.size&&Nat.ble (len*i.size) 16777216 && !Nat.beq i.size 0)<;>rw[hb]at h
    ·exact h.elim
    ·simp only[cond_true]at h;simp only[AJ,Nat.ble_eq,Du]at hb;obtain⟨⟨b1,b2⟩,b3⟩:=hb;have b1:=Bl b1;have b3:0<i.size:=Eo fun e=>by rw[e]at b3;cases b3
     have b1':z.cells.size=i.size:=by simpa using b1
     split at h
     ·rename_i l hl
      rw[qai]at h;have h:=h.h w.heap.size _ rfl rfl;have hf:=qsz _ _ _ _ hl;have hzz:=qxc z.cells Oo len;rw[b1']at hzz;refine OpOk2.val ⟨_,_,?_,h⟩;have hn:¬len*i.size > 2 ^ 24:=by omega
      by_cases h0:len*i.size=0
      ·have hl0:len=0:=by
        rcases Ej.1 h0 with h|h
        ·exact h
        ·omega
       subst hl0;have hf0:Instr.fill (fun i_1=>some (i_1*i.size,i.size)) #[] parts.toList=some l.toArray:=by simpa[qca]using hf
       simp[Instr.buildSlice,run_underlying hu,hs0,hf0,newRow,newObj,Sem.run,show Array.range 0=#[]from rfl]
      ·rw[<-hzz]at hf;have hn':¬16777216<len*i.size:=by omega
       simp only[Instr.buildSlice];simp[run_underlying hu,hs0,hn',h0,hz0,b1',hf,newRow,newObj,Sem.run]
     ·exact h.elim
   ·exact h.elim
  ·exact h.elim
 ·exact h.elim
theorem qo5{t:E6}{len cap:E8}(h:qi1 P t len cap w K):
  OpOk2 P (do pure (.value (<-Instr.makeSlice t len cap))) w K:=by
 unfold qi1 at h
 split at h
 ·rename_i e k1 len k2 cap hu
  split at h
  ·rename_i i hi
   split at h
   ·rename_i z hz
    have hz0:(zeroValue e).run P w=.ok z w:=by simp[zeroValue,typeInfo,hi,hz]
    have hs0:(sizeOf e).run P w=.ok i.size w:=by simp[sizeOf,typeInfo,hi]
    have ht0:(typeInfo e).run P w=.ok i w:=by simp[typeInfo,hi]
    cases hb:(Nat.beq z.cells.toList.length i.size && !Nat.beq i.size 0)<;>rw[hb]at h
    ·exact h.elim
    ·simp only[cond_true]at h;simp only[AJ,Du]at hb;obtain⟨b1,b3⟩:=hb;have b1:=Bl b1;have b3:0<i.size:=Eo fun e=>by rw[e]at b3;cases b3
     have b1':z.cells.size=i.size:=by simpa using b1
     obtain⟨l,c,rfl,rfl,hlc,hcb,hc,hk⟩:=h;have hk:=hk _ _ rfl rfl;have hzz:=qxc z.cells Oo c;rw[b1']at hzz;have wl:IntKind.i64.wrap (l:Int)=l:=InR.wrap (k:=.i64) ⟨by omega,by omega⟩;have wc:IntKind.i64.wrap (c:Int)=c:=InR.wrap (k:=.i64) ⟨by omega,by omega⟩;have hb1:¬(281474976710656:Int)<(i.bytes:Int)*(c:Int):=by
      have:(i.bytes:Int)*(c:Int)=((c*i.bytes:Nat):Int):=by rw[Dr,Int.mul_comm]
      rw[this];omega
     refine OpOk2.val ⟨_,_,?_,hk⟩;simp only[Instr.makeSlice,asInt,asIntOf];have n1:¬((c:Int)<0):=by omega
     have n2:¬((l:Int)<0):=by omega
     have n3:¬c<l:=by omega
     simp[run_underlying hu,ht0,wl,wc,hb1,n1,n2,n3,askRoom,roomBytes,hs0,newRow,newObj,Sem.run]
     split
     ·rename_i h0
      have hc0:c=0:=by
       rcases Ej.1 h0 with h|h
       ·exact h
       ·omega
      subst hc0;simp[qca,show Array.range 0=#[]from rfl]
     ·simp[hz0,b1',hzz]
   ·exact h.elim
  ·exact h.elim
 ·exact h.elim
theorem qo4{t:E6}(h:qi0 P t x (fun v=>K v w)):OpOk2 P (do pure (.value (<-Instr.makeInterface t x))) w K:=by
 unfold qi0 at h
 split at h
 ·exact h.elim
 ·rename_i d hd hu
  refine valV ?_ h;cases d<;>first|exact absurd rfl (hd _)|simp[Instr.makeInterface,run_underlying hu]
 ·exact h.elim
theorem q7z(ρ:EB)(l:List (Nat×Operand)):evp ρ l=l.map fun x=>(x.1,ev ρ x.2):=by
 induction l with
 | nil=>rfl
 | cons x l ih=>obtain⟨i,x⟩:=x;simp[evp,ih]
theorem q2t{t:E6}{s:Sem Next}(hs:s=(do pure (.value (<-Instr.range t x))))(h:q2s P t x w s K):OpOk2 P s w K:=by
 unfold q2s at h
 split at h
 ·rename_i sx hu
  subst hs;refine OpOk2.val ⟨_,_,?_,h.h w.heap.size _ rfl rfl⟩;simp[Instr.range,run_underlying hu,newObj,Sem.run]
 ·exact h.ok
theorem q53{b:Bool}{s:Sem Next}(hs:s=(do pure (.value (<-Instr.next x b ty))))(h:qaas P x b w s K):OpOk2 P s w K:=by
 unfold qaas at h
 split at h
 ·rename_i r
  subst hs;obtain⟨s,pos,hr,h1,h2⟩:=h
  by_cases hp:pos<s.size
  ·refine OpOk2.val ⟨_,_,?_,h1 hp _ rfl⟩;simp[Instr.next,getObj,setObj,Sem.run,hr,hp,goInt,setO]
  ·refine OpOk2.val ⟨_,_,?_,h2 hp⟩;simp[Instr.next,getObj,Sem.run,hr,hp]
 ·exact h.ok
theorem q2b(hc:∀c,o.op≠.call c)(h:opV P o ρ w K):OpOk2 P (execOp (ev ρ) o) w K:=by
 unfold opV at h
 split at h
 ·rename_i x ho;rw[qbk]at h;simp only[execOp,ho];exact qad4 h
 ·rename_i x ho;rw[qbk]at h;simp only[execOp,ho];exact qad4 h
 ·rename_i c a b ho;simp only[execOp,ho];exact q6b h
 ·rename_i op t x y yt ho;simp only[execOp,ho];exact OpOk2.val (qxe h)
 ·rename_i op t x ho;simp only[execOp,ho];exact qaeg h
 ·rename_i src dst x ho;exact q4x (by simp only[execOp,ho]) h
 ·rename_i t x i ho;simp only[execOp,ho];exact q97 h
 ·rename_i t x i ho;simp only[execOp,ho];exact qs4 h
 ·rename_i t x ho;simp only[execOp,ho];exact q5u h
 ·rename_i t x v ho;exact q3i (by simp only[execOp,ho]) h
 ·rename_i x ix ho;simp only[execOp,ho];exact qsx h
 ·rename_i t x f ho;simp only[execOp,ho];exact qoh h
 ·rename_i t x f ho;simp only[execOp,ho];exact q0m h
 ·rename_i t x ho;simp only[execOp,ho];exact q9d h
 ·rename_i t ho;simp only[execOp,ho];exact qzo h
 ·rename_i t x lo hi mx ho
  refine q3d ?_ h;simp only[execOp,ho];cases lo<;>cases hi<;>cases mx<;>rfl
 ·rename_i x ho;exact qaau ho h
 ·rename_i c ho;exact absurd ho (hc c)
 ·rename_i t parts ho
  rw[q7z]at h;simp only[execOp,ho];refine qzw ?_
  simpa using h
 ·rename_i t len parts ho
  rw[q7z]at h;simp only[execOp,ho];refine qma ?_
  simpa using h
 ·rename_i t l c ho
  simp only[execOp,ho];exact qo5 h
 ·rename_i fn first captured ho
  rw[qai,qai,qeu,qeu]at h;simp only[execOp,ho];refine valV ?_ h;have e1:∀a:Array Operand,(a.toList.map (ev ρ)).toArray=a.map (ev ρ):=fun a=>by rw[<-Bf];simp
  simp only[Instr.makeFunc,e1];rfl
 ·rename_i t x ho;simp only[execOp,ho];exact qo4 h
 ·rename_i t x ho;exact q2t (by simp only[execOp,ho]) h
 ·rename_i it b ho;exact q53 (ty:=o.type) (by simp only[execOp,ho]) h
 ·exact h.ok
theorem qwg(h:opV P o ρ w K):OpOk P (execOp (ev ρ) o) w K:=by
 by_cases hc:∃c,o.op=.call c
 ·obtain⟨c,ho⟩:=hc;unfold opV at h;rw[ho]at h;exact qve ho h
 ·exact .inl (q2b (fun c e=>hc ⟨c,e⟩) h)
end
def putV(n:Nat)(dst:Option Tmp)(ρ:EB)(v:E8)(K:EB->Prop):Prop:=
 match dst with
 | none=>K ρ
 | some d=>bif Nat.blt d n then K (upd ρ d v)else False
def runO(P:E4)(n:Nat)(o:Oper)(K:EB->EC)(ρ:EB)(w:Ez):Prop:=
 opV P o ρ w fun v w'=>putV n o.dst ρ v fun ρ'=>K ρ' w'
def qy2(n:Nat)(o:Oper)(K:EB->EC)(ρ:EB)(w:Ez):Prop:=
 putV n o.dst ρ undef fun ρ'=>K ρ' w
def regV(P:E4)(n:Nat)(ops:List Oper)(Q:EB->EC):List Oper->EB->Ez->Prop
 | [],ρ,w=>Q ρ w
 | o::rest,ρ,w=>
  match o.guard with
  | none=>runO P n o (regV P n ops Q rest) ρ w
  | some (j,want)=>
   match getL ops j with
   | none=>qy2 n o (regV P n ops Q rest) ρ w
   | some oj=>match oj.dst with
    | none=>qy2 n o (regV P n ops Q rest) ρ w
    | some d=>bif Nat.blt d n then
      match ρ d with
      | .bool b=>Tst b
        (match want with
         | true=>runO P n o (regV P n ops Q rest) (upd ρ d (.bool true)) w
         | false=>qy2 n o (regV P n ops Q rest) (upd ρ d (.bool true)) w)
        (match want with
         | true=>qy2 n o (regV P n ops Q rest) (upd ρ d (.bool false)) w
         | false=>runO P n o (regV P n ops Q rest) (upd ρ d (.bool false)) w)
      | _=>qy2 n o (regV P n ops Q rest) ρ w
     else False
def seqQ(K:EB->EC)(Q:Exit->EB->EC):Exit->EB->Ez->Prop
 | .normal,ρ,w=>K ρ w
 | .exit i,ρ,w=>Q (.exit i) ρ w
 | .goto l,ρ,w=>Q (.goto l) ρ w
 | .ret,ρ,w=>Q .ret ρ w
 | .panic c,ρ,w=>Q (.panic c) ρ w
 | .outgrown,ρ,w=>Q .outgrown ρ w
def qu9(id:Nat)(Q:Exit->EB->EC):Exit->EB->Ez->Prop
 | .normal,ρ,w=>Q .normal ρ w
 | .exit i,ρ,w=>bif Nat.beq i id then Q .normal ρ w else Q (.exit i) ρ w
 | .goto l,ρ,w=>Q (.goto l) ρ w
 | .ret,ρ,w=>Q .ret ρ w
 | .panic c,ρ,w=>Q (.panic c) ρ w
 | .outgrown,ρ,w=>Q .outgrown ρ w
def qad8(Q:Exit->EB->EC):Exit->EB->Ez->Prop
 | .goto _,_,_=>False
 | .normal,ρ,w=>Q .normal ρ w
 | .exit i,ρ,w=>Q (.exit i) ρ w
 | .ret,ρ,w=>Q .ret ρ w
 | .panic c,ρ,w=>Q (.panic c) ρ w
 | .outgrown,ρ,w=>Q .outgrown ρ w
structure ScopeV(P:E4)(n:Nat)(c:Code)(Q:Exit->EB->EC)(ρ:EB)(w:Ez):Prop where
 h:∀a,St n ρ a->(Code.scope c).wp P (fun e a' w'=>∃ρ',St n ρ' a'/\Q e ρ' w') a w
def qe4(P:E4)(n:Nat):Code->(Exit->EB->EC)->EB->Ez->Prop
 | .skip,Q,ρ,w=>Q .normal ρ w
 | .region id ops draw,Q,ρ,w=>
  match draw with
  | false=>regV P n ops.toList (Q .normal) ops.toList ρ w
  | true=>DrawV P n id ops Q ρ w
 | .seq a b,Q,ρ,w=>qe4 P n a (seqQ (qe4 P n b Q) Q) ρ w
 | .cond c t e,Q,ρ,w=>
  match ev ρ c with
  | .bool b=>Tst b (qe4 P n t Q ρ w) (qe4 P n e Q ρ w)
  | _=>False
 | .block id c,Q,ρ,w=>qe4 P n c (qu9 id Q) ρ w
 | .loop c,Q,ρ,w=>LoopV P n c Q ρ w
 | .exit id,Q,ρ,w=>Q (.exit id) ρ w
 | .label _,Q,ρ,w=>Q .normal ρ w
 | .ret,Q,ρ,w=>Q .ret ρ w
 | .goto l,Q,ρ,w=>Q (.goto l) ρ w
 | .scope c,Q,ρ,w=>ScopeV P n c Q ρ w
 | .rangeFunc f p a b,Q,ρ,w=>CodeV P n (.rangeFunc f p a b) Q ρ w
 | .refuse _,_,_,_=>False
def lift(n:Nat)(Q:Exit->EB->EC):Exit->Act->Ez->Prop:=fun e a w=>∃ρ,St n ρ a/\Q e ρ w
section
variable {P:E4} {n:Nat}
theorem putV.st{dst:Option Tmp}{v:E8}{K:EB->Prop}(h:putV n dst ρ v K)(ha:St n ρ a):
  ∃ρ',St n ρ' (a.put dst v)/\K ρ':=by
 unfold putV at h
 split at h
 ·exact⟨ρ,ha,h⟩
 ·rename_i d
  cases hd:Nat.blt d n<;>rw[hd]at h
  ·exact h.elim
  ·exact⟨_,ha.put (by simpa using hd) v,h⟩
theorem St.yield(ha:St n ρ a){ops:List Oper}(hj:getL ops j=some oj)(hd:oj.dst=some d)(hn:d<n):
  yielded ops.toArray a.tmps j=match ρ d with | .bool b=>some b|_=>none:=by
 have h1:ops.toArray[j]?=some oj:=by rw[qm]at hj;simpa using hj
 have h2:a.tmps[d]?=some (ρ d):=by
  have hs:=ha.size;have:=ha.get d;rw[BN,Aj Oo]at this;rw[Aj Oo]
  simpa using this
 simp only[yielded,h1,Option.bind_some,hd,h2];cases ρ d<;>rfl
theorem qtz{K:EB->EC}{rest:List Oper}(hg:Region.wanted o (yielded ops a.tmps)=true)(ha:St n ρ a)(h:runO P n o K ρ w)(hk:∀ρ' a' w',St n ρ' a'->K ρ' w'->wpList P ops Q' rest a' w'):
  wpList P ops Q' (o::rest) a w:=by
 unfold wpList;rw[Ad hg];refine .inl (OpOk.wp ha.eval (qwg h) fun v w' hp=>?_);obtain⟨ρ',h1,h2⟩:=putV.st hp ha;exact hk _ _ _ h1 h2
theorem qhz{K:EB->EC}{rest:List Oper}(hg:Region.wanted o (yielded ops a.tmps)=false)(ha:St n ρ a)(h:qy2 n o K ρ w)(hk:∀ρ' a' w',St n ρ' a'->K ρ' w'->wpList P ops Q' rest a' w'):
  wpList P ops Q' (o::rest) a w:=by
 unfold wpList;rw[Aa (by rw[hg];simp)];obtain⟨ρ',h1,h2⟩:=putV.st h ha;exact hk _ _ _ h1 h2
theorem qabn{ops:List Oper}{Q:EB->EC}(hQ:∀ρ a w,St n ρ a->Q ρ w->Q' .normal a w)(l:List Oper):
  ∀(ρ:EB) (a:Act) (w:Ez),St n ρ a->regV P n ops Q l ρ w->wpList P ops.toArray Q' l a w:=by
 induction l with
 | nil=>intro ρ a w ha h;exact hQ _ _ _ ha h
 | cons o rest ih=>
  intro ρ a w ha h;unfold regV at h;have ih':∀ρ' a' w',St n ρ' a'->regV P n ops Q rest ρ' w'->wpList P ops.toArray Q' rest a' w':=fun ρ' a' w'=>ih ρ' a' w'
  split at h
  ·rename_i hg
   exact qtz (by simp[Region.wanted,hg]) ha h ih'
  ·rename_i j want hg
   split at h
   ·rename_i hj
    rw[qm]at hj;refine qhz ?_ ha h ih';have:ops.toArray[j]?=none:=by simpa using hj
    simp[Region.wanted,hg,yielded,this]
   ·rename_i oj hj
    split at h
    ·rename_i hd
     refine qhz ?_ ha h ih';have hj2:=hj;rw[qm]at hj2;have:ops.toArray[j]?=some oj:=by simpa using hj2
     simp[Region.wanted,hg,yielded,this,hd]
    ·rename_i d hd
     cases hn:Nat.blt d n<;>rw[hn]at h
     ·exact h.elim
     ·have hn':d<n:=by simpa using hn
      have hy:=ha.yield hj hd hn';simp only[cond_true]at h
      split at h
      ·rename_i b hb
       rw[hb]at hy;cases b
       ·have h:=h.f rfl;have ha':=ha.same hb;cases want
        ·exact qtz (by simp[Region.wanted,hg,hy]) ha' h ih'
        ·exact qhz (by simp[Region.wanted,hg,hy]) ha' h ih'
       ·have h:=h.t rfl;have ha':=ha.same hb;cases want
        ·exact qhz (by simp[Region.wanted,hg,hy]) ha' h ih'
        ·exact qtz (by simp[Region.wanted,hg,hy]) ha' h ih'
      ·rename_i hb
       refine qhz ?_ ha h ih';have:yielded ops.toArray a.tmps j=none:=by
        rw[hy]
        split
        ·rename_i b hb';exact absurd hb' (hb b)
        ·rfl
       simp[Region.wanted,hg,this]
theorem q5t{K:EB->EC}{Q:Exit->EB->EC}{e:Exit}(h:lift n (seqQ K Q) e a w):
  Exit.then (fun a w=>∃ρ,St n ρ a/\K ρ w) (lift n Q) e a w:=by
 obtain⟨ρ,h1,h2⟩:=h;cases e<;>exact⟨ρ,h1,h2⟩
theorem qxw{Q:Exit->EB->EC}{e:Exit}(h:lift n (qu9 id Q) e a w):
  Exit.inBlock id (lift n Q) e a w:=by
 obtain⟨ρ,h1,h2⟩:=h;cases e with
 | exit i=>
  by_cases hi:i=id
  ·have hb:Nat.beq i id=true:=by subst hi;simp
   simp only[qu9,hb,cond_true]at h2;simp only[Exit.inBlock,hi,if_true];exact⟨ρ,h1,h2⟩
  ·have hb:Nat.beq i id=false:=Bx.2 fun h=>hi (Bl h)
   simp only[qu9,hb,cond_false]at h2;simp only[Exit.inBlock,hi,if_false];exact⟨ρ,h1,h2⟩
 | normal=>exact⟨ρ,h1,h2⟩
 | goto l=>exact⟨ρ,h1,h2⟩
 | ret=>exact⟨ρ,h1,h2⟩
 | panic c=>exact⟨ρ,h1,h2⟩
 | outgrown=>exact⟨ρ,h1,h2⟩
theorem qka(c:Code):∀(Q:Exit->EB->EC) (ρ:EB) (w:Ez),qe4 P n c Q ρ w->∀a,St n ρ a->c.wp P (lift n Q) a w:=by
 induction c with
 | skip=>intro Q ρ w h a ha;exact wp_skip ⟨ρ,ha,h⟩
 | region id ops draw=>
  intro Q ρ w h a ha;cases draw
  ·refine wp_region_list ?_;have:=qabn (Q':=lift n Q) (fun ρ a w ha h=>⟨ρ,ha,h⟩) ops.toList ρ a w ha h
   simpa using this
  ·exact h.h a ha
 | seq x y hx hy=>
  intro Q ρ w h a ha;refine wp_seq (wp_mono (hx _ _ _ h a ha) fun e a w h=>?_);have:=q5t h;cases e with
  | normal=>obtain⟨ρ',h1,h2⟩:=this;exact hy _ _ _ h2 _ h1
  | exit i=>exact this
  | goto l=>exact this
  | ret=>exact this
  | panic c=>exact this
  | outgrown=>exact this
 | cond c t e ht he=>
  intro Q ρ w h a ha;unfold qe4 at h
  split at h
  ·rename_i b hb
   refine wp_cond_split (t:=b) (by rw[ha.eval,hb]) (fun e=>ht _ _ _ (h.t e) a ha) (fun e=>he _ _ _ (h.f e) a ha)
  ·exact h.elim
 | block id c hc=>
  intro Q ρ w h a ha;exact wp_block (wp_mono (hc _ _ _ h a ha) fun e a w h=>qxw h)
 | loop c hc=>intro Q ρ w h a ha;exact h.h a ha
 | rangeFunc f p x b hx hb=>intro Q ρ w h a ha;exact h.h a ha
 | exit id=>intro Q ρ w h a ha;exact wp_exit ⟨ρ,ha,h⟩
 | scope c hc=>intro Q ρ w h a ha;exact h.h a ha
 | label l=>intro Q ρ w h a ha;exact wp_label ⟨ρ,ha,h⟩
 | goto l=>intro Q ρ w h a ha;exact wp_goto ⟨ρ,ha,h⟩
 | ret=>intro Q ρ w h a ha;exact wp_ret ⟨ρ,ha,h⟩
 | refuse why=>intro Q ρ w h a ha;exact h.elim
theorem ScopeV.straight{n:Nat}{c:Code}{Q:Exit->EB->EC}(h:qe4 P n c (qad8 Q) ρ w):ScopeV P n c Q ρ w:=by
 refine⟨fun a ha=>wp_scope_straight (wp_mono (qka c _ _ _ h a ha) fun e a w h=>?_)⟩;obtain⟨ρ',h1,h2⟩:=h;cases e<;>first|exact h2.elim|exact⟨ρ',h1,h2⟩
structure SameW(w' w:Ez)(k:Prop):Prop where
 h:w'=w
 k:k
structure CallQ(P:E4)(f:FuncId)(args:EE)(w:Ez)(K:E8->Prop):Prop where
 h:∃v,Gv P f args w (fun u w'=>u=v/\w'=w)/\K v
def q9i(P:E4)(c:Call)(ρ:EB)(w:Ez)(s:Sem Next)(K:E8->Prop):Prop:=
 match c.callee with
 | .value f=>match ev ρ f with
  | .func (.func g) first captured=>qcc (evs ρ c.args.toList) fun vs=>
   match first.toList,captured.toList with
   | [],[]=>CallQ P g vs w K
   | x,y=>CallQ P g (x++(vs++y)) w K
  | _=>False
 | .builtin .len=>lenV P (getL c.argTypes.toList 0) (evs ρ c.args.toList) w s fun v w'=>SameW w' w (K v)
 | _=>False
def opQ(P:E4)(o:Oper)(ρ:EB)(w:Ez)(K:E8->Prop):Prop:=
 match o.op with
 | .call c=>q9i P c ρ w (execOp (ev ρ) o) K
 | _=>opV P o ρ w fun v w'=>SameW w' w (K v)
section
variable {P:E4} {w:Ez} {n:Nat}
def StillOk(P:E4)(s:Sem Next)(w:Ez)(K:E8->Prop):Prop:=
 OpOk2 P s w (fun v w'=>w'=w/\K v)\/
 (∃f args v,s.run P w=.ok (.enter f args) w/\Calls P f args w (fun e w'=>e=.returned v/\w'=w)/\K v)
theorem OpOk2.same{s:Sem Next}{K:E8->Prop}(h:OpOk2 P s w fun v w'=>SameW w' w (K v)):StillOk P s w K:=by
 refine .inl ?_
 rcases h with⟨v,w',h1,h2⟩|⟨w',h1,h2⟩
 ·exact .inl ⟨v,w',h1,h2.h,h2.k⟩
 ·exact .inr ⟨w',h1,h2.h,h2.k⟩
theorem q4s{c:Call}{K:E8->Prop}(ho:o.op=.call c)(h:q9i P c ρ w (execOp (ev ρ) o) K):
  StillOk P (execOp (ev ρ) o) w K:=by
 unfold q9i at h
 split at h
 ·rename_i f hc
  split at h
  ·rename_i g first captured hf
   rw[qai,qeu]at h;have he:execOp (ev ρ) o=callFunc g (first++c.args.map (ev ρ)++captured):=by
    simp only[execOp,ho,resolve,hc,hf];rfl
   rw[he];have key:CallQ P g (first.toList++(c.args.toList.map (ev ρ)++captured.toList)) w K:=by
    split at h
    ·rename_i h1 h2;rw[h1,h2];simpa using h
    ·exact h
   have e2:(first.toList++(c.args.toList.map (ev ρ)++captured.toList)).toArray=first++c.args.map (ev ρ)++captured:=by
    rw[<-Bf];simp
   rw[<-e2];obtain⟨v,⟨h1,h2⟩,hk⟩:=key;refine .inr ⟨g,_,v,qcu h1 _,h2.mono ?_,hk⟩;rintro e w' ⟨u,he,rfl,hw⟩;exact⟨he,hw⟩
  ·exact h.elim
 ·rename_i hc;exact(q1p ho hc h).same
 ·exact h.elim
theorem qadw{K:E8->Prop}(h:opQ P o ρ w K):StillOk P (execOp (ev ρ) o) w K:=by
 unfold opQ at h
 split at h
 ·rename_i c ho;exact q4s ho h
 ·rename_i hc;exact(q2b (fun c e=>hc c e) h).same
theorem StillOk.still{K:E8->Prop}{next:Act->Prop}(he:a.eval=ev ρ)(h:StillOk P (execOp (ev ρ) o) w K)(hn:∀v,K v->next (a.put o.dst v)):o.still P a w next:=by
 unfold Oper.still;rw[he]
 rcases h with(⟨v,w',h1,h2,h3⟩|⟨w',h1,h2,h3⟩)|⟨f,args,v,h1,h2,h3⟩
 ·rw[h1];exact⟨h2,hn _ h3⟩
 ·rw[h1];exact⟨h2,hn _ h3⟩
 ·rw[h1];exact⟨rfl,v,h2,hn _ h3⟩
def runQ(P:E4)(n:Nat)(o:Oper)(K:EB->Prop)(ρ:EB)(w:Ez):Prop:=
 opQ P o ρ w fun v=>putV n o.dst ρ v K
def regQ(P:E4)(n:Nat)(ops:List Oper)(w:Ez)(Q:EB->Prop):List Oper->EB->Prop
 | [],ρ=>Q ρ
 | o::rest,ρ=>
  match o.guard with
  | none=>runQ P n o (regQ P n ops w Q rest) ρ w
  | some (j,want)=>
   match getL ops j with
   | none=>putV n o.dst ρ undef (regQ P n ops w Q rest)
   | some oj=>match oj.dst with
    | none=>putV n o.dst ρ undef (regQ P n ops w Q rest)
    | some d=>bif Nat.blt d n then
      match ρ d with
      | .bool b=>Tst b
        (match want with
         | true=>runQ P n o (regQ P n ops w Q rest) (upd ρ d (.bool true)) w
         | false=>putV n o.dst (upd ρ d (.bool true)) undef (regQ P n ops w Q rest))
        (match want with
         | true=>putV n o.dst (upd ρ d (.bool false)) undef (regQ P n ops w Q rest)
         | false=>runQ P n o (regQ P n ops w Q rest) (upd ρ d (.bool false)) w)
      | _=>putV n o.dst ρ undef (regQ P n ops w Q rest)
     else False
theorem qt0{K:EB->Prop}{rest:List Oper}{Q':Act->Prop}(hg:Region.wanted o (yielded ops a.tmps)=true)(ha:St n ρ a)(h:runQ P n o K ρ w)(hk:∀ρ' a',St n ρ' a'->K ρ'->wpStill P ops w Q' rest a'):
  wpStill P ops w Q' (o::rest) a:=by
 unfold wpStill;rw[Ad hg];refine StillOk.still ha.eval (qadw h) fun v hp=>?_;obtain⟨ρ',h1,h2⟩:=putV.st hp ha;exact hk _ _ h1 h2
theorem qh0{K:EB->Prop}{rest:List Oper}{Q':Act->Prop}(hg:Region.wanted o (yielded ops a.tmps)=false)(ha:St n ρ a)(h:putV n o.dst ρ undef K)(hk:∀ρ' a',St n ρ' a'->K ρ'->wpStill P ops w Q' rest a'):
  wpStill P ops w Q' (o::rest) a:=by
 unfold wpStill;rw[Aa (by rw[hg];simp)];obtain⟨ρ',h1,h2⟩:=putV.st h ha;exact hk _ _ h1 h2
theorem qabm{ops:List Oper}{Q:EB->Prop}{Q':Act->Prop}(hQ:∀ρ a,St n ρ a->Q ρ->Q' a)(l:List Oper):
  ∀(ρ:EB) (a:Act),St n ρ a->regQ P n ops w Q l ρ->wpStill P ops.toArray w Q' l a:=by
 induction l with
 | nil=>intro ρ a ha h;exact hQ _ _ ha h
 | cons o rest ih=>
  intro ρ a ha h;unfold regQ at h;have ih':∀ρ' a',St n ρ' a'->regQ P n ops w Q rest ρ'->wpStill P ops.toArray w Q' rest a':=fun ρ' a'=>ih ρ' a'
  split at h
  ·rename_i hg
   exact qt0 (by simp[Region.wanted,hg]) ha h ih'
  ·rename_i j want hg
   split at h
   ·rename_i hj
    rw[qm]at hj;refine qh0 ?_ ha h ih';have:ops.toArray[j]?=none:=by simpa using hj
    simp[Region.wanted,hg,yielded,this]
   ·rename_i oj hj
    split at h
    ·rename_i hd
     refine qh0 ?_ ha h ih';have hj2:=hj;rw[qm]at hj2;have:ops.toArray[j]?=some oj:=by simpa using hj2
     simp[Region.wanted,hg,yielded,this,hd]
    ·rename_i d hd
     cases hn:Nat.blt d n<;>rw[hn]at h
     ·exact h.elim
     ·have hn':d<n:=by simpa using hn
      have hy:=ha.yield hj hd hn';simp only[cond_true]at h
      split at h
      ·rename_i b hb
       rw[hb]at hy;cases b
       ·have h:=h.f rfl;have ha':=ha.same hb;cases want
        ·exact qt0 (by simp[Region.wanted,hg,hy]) ha' h ih'
        ·exact qh0 (by simp[Region.wanted,hg,hy]) ha' h ih'
       ·have h:=h.t rfl;have ha':=ha.same hb;cases want
        ·exact qh0 (by simp[Region.wanted,hg,hy]) ha' h ih'
        ·exact qt0 (by simp[Region.wanted,hg,hy]) ha' h ih'
      ·rename_i hb
       refine qh0 ?_ ha h ih';have:yielded ops.toArray a.tmps j=none:=by
        rw[hy]
        split
        ·rename_i b hb';exact absurd hb' (hb b)
        ·rfl
       simp[Region.wanted,hg,this]
theorem DrawV.quiet{Q:Exit->EB->EC}(hm:P.follows .mixedOrders=true)(hB:Region.lexB .any ops=true)(h:regQ P n ops.toList w.drew (fun ρ'=>Q .normal ρ' w.drew) ops.toList ρ):DrawV P n id ops Q ρ w:=by
 refine⟨fun a ha=>wp_region_still hm hB ?_⟩;have:=qabm (w:=w.drew) (Q':=fun a'=>∃ρ',St n ρ' a'/\Q .normal ρ' w.drew) (fun ρ a ha h=>⟨ρ,ha,h⟩) ops.toList ρ a ha h
 simpa using this
end
def over:List (Nat×E8)->EB->Nat->E8
 | [],ρ=>ρ
 | (t,v)::l,ρ=>upd (over l ρ) t v
def qqa:List (Nat×E8)->EB->Prop
 | [],_=>True
 | (t,v)::l,ρ=>ρ t=v/\qqa l ρ
theorem qrj{l:List (Nat×E8)}(h:qqa l ρ):over l ρ=ρ:=by
 induction l with
 | nil=>rfl
 | cons x l ih=>
  obtain⟨t,v⟩:=x;obtain⟨h1,h2⟩:=h
  funext u
  simp only[over,ih h2,upd]
  by_cases e:u=t
  ·subst e;simp[h1]
  ·have e':Nat.beq u t=false:=Bx.2 fun h=>e (Bl h)
   rw[e'];rfl
theorem qj{α:Type}(l:α->List (Nat×E8))(I:α->EC)(μ:α->Nat){Q:Exit->EB->EC}(x0:α)(h0:qqa (l x0) ρ)(hI:I x0 w)(hr:∀x w ρ',I x w->qe4 P n body (seqQ (fun ρ'' w'=>∃x',qqa (l x') ρ''/\I x' w'/\μ x'<μ x) Q) (over (l x) ρ') w):LoopV P n body Q ρ w:=by
 refine⟨fun a ha=>?_⟩;have key:∀m x,μ x=m->∀ρ a w,qqa (l x) ρ->St n ρ a->I x w->∀(b:Frame) (k:List Item) (cs:List Frame),
   ∃e a' w',lift n Q e a' w'/\Arrives P (lone (b.at a (.code body::.inLoop body::k)) cs w) b k cs e a' w':=by
  intro m
  induction m using Nat.strongRecOn with
  | _ m ih=>
   intro x hm ρ a w hag hst hI b k cs;have h1:=hr x w ρ hI;rw[qrj hag]at h1;obtain⟨e,a₁,w₁,hq,harr⟩:=qka body _ _ _ h1 a hst b (.inLoop body::k) cs;obtain⟨ρ₁,hst₁,hq⟩:=hq;cases e with
   | normal=>
    obtain⟨x',hag',hI',hlt⟩:=hq;obtain⟨e₂,a₂,w₂,hq₂,harr₂⟩:=ih (μ x') (hm ▸ hlt) x' rfl ρ₁ a₁ w₁ hag' hst₁ hI' b k cs;exact⟨e₂,a₂,w₂,hq₂,.of_steps (Steps.trans harr (.one step_inLoop)) harr₂⟩
   | exit id=>exact⟨_,a₁,w₁,⟨ρ₁,hst₁,hq⟩,.pass (x:=.inLoop body) rfl (fun _ _=>.inl Js) harr⟩
   | goto l=>exact⟨_,a₁,w₁,⟨ρ₁,hst₁,hq⟩,.pass (x:=.inLoop body) rfl (fun _ _=>.inl Js) harr⟩
   | ret=>exact⟨_,a₁,w₁,⟨ρ₁,hst₁,hq⟩,.pass (x:=.inLoop body) rfl (fun _ _=>.inl Js) harr⟩
   | panic ch=>exact⟨_,a₁,w₁,⟨ρ₁,hst₁,hq⟩,.pass (x:=.inLoop body) rfl (fun _ _=>.inl Js) harr⟩
   | outgrown=>exact⟨_,a₁,w₁,⟨ρ₁,hst₁,hq⟩,.pass (x:=.inLoop body) rfl (fun _ _=>.inl Js) harr⟩
 intro b k cs;obtain⟨e,a',w',hq,harr⟩:=key _ x0 rfl ρ a w h0 ha hI b k cs;exact⟨e,a',w',hq,.of_steps (.one step_loop) harr⟩
def ini:EE->Nat->E8
 | [],_=>undef
 | v::_,0=>v
 | _::l,t+1=>ini l t
theorem q73(l:EE)(t:Nat):ini l t=(l[t]?).getD undef:=by
 induction l generalizing t with
 | nil=>simp[ini]
 | cons v l ih=>cases t<;>simp[ini,ih]
def qh6:List ResultVar->Option (List Operand)
 | []=>some []
 | .tmp t::l=>match qh6 l with
  | some r=>some (.tmp t::r)
  | none=>none
 | .cell _ _::_=>none
def resV(rs:Array ResultVar)(ρ:EB)(w:Ez)(fn:Func)(R:E9)(P:E4)(n:Nat):Prop:=
 match rs.toList with
 | [.tmp t]=>qis (ρ t) fun v=>R v w
 | l=>match qh6 l with
  | some ts=>qcc (evs ρ ts) fun vs=>R (.tuple vs.toArray) w
  | none=>∀a,St n ρ a->∃v,(results fn a.tmps).run P w=.ok v w/\R v w
def q4q(P:E4)(n:Nat)(fn:Func)(R:E9):Exit->EB->Ez->Prop
 | .normal,ρ,w=>resV fn.results ρ w fn R P n
 | .ret,ρ,w=>resV fn.results ρ w fn R P n
 | _,_,_=>False
def resF(tmps:EH):ResultVar->Sem E8
 | .tmp t=>pure (tmps.getD t undef)
 | .cell a t=>do loadVar t (<-asAddr (tmps.getD a undef))
theorem qr2(tmps:EH)(w:Ez)(ρ:EB)(hρ:∀t,tmps.getD t undef=ρ t):∀(l:List ResultVar) (ts:List Operand),qh6 l=some ts->
  (l.mapM (resF tmps)).run P w=.ok (evs ρ ts) w:=by
 intro l
 induction l with
 | nil=>intro ts h;cases h;simp[evs]
 | cons x l ih=>
  intro ts h;cases x with
  | cell a t=>cases h
  | tmp t=>
   simp only[qh6]at h;cases e:qh6 l with
   | none=>rw[e]at h;cases h
   | some r=>
    rw[e]at h;cases h;simp[ih r e,evs,ev,resF,hρ]
theorem qlq{rs:Array ResultVar}{fn:Func}(hrs:fn.results=rs)(ha:St n ρ a)(h:resV rs ρ w fn R P n):
  ∃v,(results fn a.tmps).run P w=.ok v w/\R v w:=by
 unfold resV at h;have hm:∀ts,qh6 rs.toList=some ts->(results fn a.tmps).run P w=.ok (if h:(evs ρ ts).toArray.size=1 then(evs ρ ts).toArray[0]else .tuple (evs ρ ts).toArray) w:=by
  intro ts hts;have:=qr2 (P:=P) a.tmps w ρ ha.get rs.toList ts hts;have e:results fn a.tmps=(do let vs <-fn.results.mapM (resF a.tmps);pure (if h:vs.size=1 then vs[0]else .tuple vs)):=by
   unfold results;congr 1
  rw[e,hrs,Do];simp[this]
 split at h
 ·rename_i t hl
  rw[qbk]at h;refine⟨ρ t,?_,h⟩;rw[hm [.tmp t] (by rw[hl];rfl)];simp[evs,ev]
 ·rename_i l hl
  split at h
  ·rename_i ts hts
   rw[qai]at h;refine⟨_,?_,h⟩;rw[hm ts hts];have hne:¬(evs ρ ts).toArray.size=1:=by
    intro h1;rw[qeu]at h1;simp at h1
    match rs.toList,hts,hl with
    | [],hts,_=>cases hts;cases h1
    | [.tmp t],_,hl=>exact hl t rfl
    | .tmp t::y::r,hts,_=>
     simp only[qh6]at hts
     revert hts
     cases y with
     | cell a t=>intro hts;cases hts
     | tmp u=>
      simp only[qh6];cases qh6 r<;>intro hts<;>cases hts
      simp at h1
    | .cell a t::r,hts,_=>cases hts
   rw[dif_neg hne]
  ·exact h a ha
theorem Gv.mono{R':E9}(h:Gv P f vs w R)(hr:∀v w',R v w'->R' v w'):Gv P f vs w R':=
 ⟨h.1,h.2.mono fun _ _ ⟨v,he,hv⟩=>⟨v,he,hr _ _ hv⟩⟩
theorem CallV.of(h:Gv P f vs w R)(hr:∀v w',R v w'->K v w'):CallV P f vs w K:=
 ⟨.inl (h.mono hr)⟩
theorem gv{fn:Func}{c:Code}(he:qdc P f=true)(hf:P.funcs[f]?=some fn)(hb:fn.body=some c)(hn:fn.ntmps=n)(hl:Nat.ble vs.length n=true)(h:qe4 P n c (q4q P n fn R) (ini vs) w):Gv P f vs w R:=by
 have hl':vs.length<=n:=by simpa using hl
 refine⟨he,calls_of_wp hf hb (wp_mono (qka c _ _ _ h _ ⟨?_,?_,rfl⟩) fun e a w hq=>?_)⟩
 ·simp[hn];omega
 ·intro t;rw[q73,BN];simp only[Array.getElem?_append,CK,hn]
  split
  ·simp
  ·rename_i ht
   rw[Au Oo];simp only[DP]
   split<;>rfl
 ·obtain⟨ρ,hst,hq⟩:=hq;cases e with
  | normal=>
   obtain⟨v,h1,h2⟩:=qlq rfl hst hq;exact⟨hst.defers,v,h1,v,rfl,h2⟩
  | ret=>
   obtain⟨v,h1,h2⟩:=qlq rfl hst hq;exact⟨hst.defers,v,h1,v,rfl,h2⟩
  | exit i=>exact hq.elim
  | goto i=>exact hq.elim
  | panic i=>exact hq.elim
  | outgrown=>exact hq.elim
end
theorem Wit.conv{k:IntKind}{n:Int}{K:Int->Prop}(h:InR k n)(hk:K n):Wit (fun r=>k.wrap n=r) K:=⟨n,h.wrap,hk⟩
theorem Wit.eq{α:Type}{x y:α}{K:α->Prop}(h:x=y)(hk:K y):Wit (fun r=>x=r) K:=⟨y,h,hk⟩
theorem Wit.shl{k:IntKind}{a b m r:Int}{K:Int->Prop}(h0:0<=b/\b<k.bits)(hm:(2:Int) ^ b.toNat=m)(hr:a*m=r)(hi:InR k r)(hk:K r):
  Wit (fun r=>0<=b/\b<k.bits/\k.wrap (a*2 ^ b.toNat)=r) K:=⟨r,⟨h0.1,h0.2,by rw[hm,hr];exact hi.wrap⟩,hk⟩
theorem Wit.shr{k:IntKind}{a b m r:Int}{K:Int->Prop}(h0:0<=b/\b<k.bits)(hm:(2:Int) ^ b.toNat=m)(hr:a/m=r)(hk:K r):
  Wit (fun r=>0<=b/\b<k.bits/\a/2 ^ b.toNat=r) K:=⟨r,⟨h0.1,h0.2,by rw[hm,hr]⟩,hk⟩
theorem IdxV.nat{n:Nat}{K:Nat->Prop}(h:j<n)(hk:K j):IdxV (j:Int) n K:=⟨j,rfl,h,hk⟩
theorem IdxV.at_{i:Int}(j:Nat){n:Nat}{K:Nat->Prop}(e:i=(j:Int))(h:j<n)(hk:K j):IdxV i n K:=⟨j,e,h,hk⟩
theorem SliceS.at_{lo hi:Option E8}{K:E8->Prop}(l h:Nat)(h1:bnd lo 0 l)(h2:bnd hi s.size h)(h3:l<=h)(h4:h<=s.size)(hk:K (.string (s.extract l h))):
  SliceS s lo hi K:=⟨l,h,h1,h2,h3,h4,hk⟩
theorem qho(k:IntKind)(m:Nat)(hm:m<2 ^ k.bits):(BitVec.ofInt k.bits (m:Int)).toNat=m:=by
 simp;exact BD hm
theorem InR.lt{k:IntKind}(h:InR k m):m<2 ^ k.bits:=by
 cases k<;>obtain⟨h1,h2⟩:=h<;>simp[IntKind.bits]<;>omega
theorem InR.le{k:IntKind}{n:Nat}(h:InR k n)(hm:m<=n):InR k m:=by
 cases k<;>obtain⟨h1,h2⟩:=h<;>exact⟨by omega,by omega⟩
theorem qu8{k:IntKind}{n:Nat}(hm:InR k m)(hn:InR k n):qex .and k m n=((m &&&n:Nat):Int):=by
 simp only[qex];rw[BitVec.toNat_and,qho k m (InR.lt hm),qho k n (InR.lt hn)];exact InR.wrap (InR.le hm Nat.and_le_left)
theorem qso{k:IntKind}{n:Nat}(hm:InR k m)(hn:InR k n)(h:InR k ((m |||n:Nat):Int)):qex .or k m n=((m |||n:Nat):Int):=by
 simp only[qex];rw[BitVec.toNat_or,qho k m (InR.lt hm),qho k n (InR.lt hn)];exact InR.wrap h
theorem qbb{k:IntKind}(i:Nat){c:Int}(hc:c=((2 ^ i-1:Nat):Int))(hm:InR k m)(hn:InR k c):qex .and k m c=((m%2 ^ i:Nat):Int):=by
 subst hc;rw[qu8 hm hn,Ed]
theorem q4m{k:IntKind}{a:Nat}(i:Nat)(ha:InR k ((a*2 ^ i+b:Nat):Int))(hb:b<2 ^ i):qex .or k ((a*2 ^ i:Nat):Int) b=((a*2 ^ i+b:Nat):Int):=by
 have e:(a*2 ^ i |||b)=a*2 ^ i+b:=by rw[CD];exact(Nat.two_pow_add_eq_or_of_lt hb a).symm
 rw[qso (InR.le ha Oo) (InR.le ha Oo) (by rw[e];exact ha),e]
end V
namespace V
def Ext(w w':Ez):Prop:=Below w.heap.size w w'
theorem Ext.refl(w:Ez):Ext w w:=Below.refl _ _
theorem Ext.trans{a b c:Ez}(h:Ext a b)(k:Ext b c):Ext a c:=Below.trans h (Below.mono k h.size)
theorem Ext.alloc{a:Ez}(h:Ext a w)(o:Obj):Ext a (w.alloc o):=Below.alloc h h.size o
theorem Ext.get(h:Ext w w'){o:Obj}(hb:w.heap[b]?=some o):w'.heap[b]?=some o:=by
 rw[h.block b]
 ·exact hb
 ·rcases AX b w.heap.size with h|h
  ·exact h
  ·rw[Bd h]at hb;cases hb
theorem Ext.cell(h:Ext w w'){a:Addr}{v:E8}(hv:w.cell? a=some v):w'.cell? a=some v:=by
 have hlt:a.block<w.heap.size:=by
  rcases AX a.block w.heap.size with h|h
  ·exact h
  ·unfold World.cell? at hv;rw[Bd h]at hv;cases hv
 rw[Below.cell h hlt];exact hv
theorem Ext.drew{a:Ez}(h:Ext a w):Ext a w.drew:=Below.drew h
theorem qd3{o:Obj}(h:b≠r):(setO w r o).heap[b]?=w.heap[b]?:=by
 simp only[setO];rw[CQ (fun e=>h e.symm)]
theorem qlx{o:Obj}(h:w.heap[r]?=some o'):(setO w r o).heap[r]?=some o:=by
 have hlt:r<w.heap.size:=by
  rcases AX r w.heap.size with h' | h'
  ·exact h'
  ·rw[Bd h']at h;cases h
 simp[setO,hlt]
theorem Ext.setO{a w:Ez}(h:Ext a w){r:Nat}(hr:a.heap.size<=r)(o:Obj):Ext a (setO w r o):=
 Below.trans h ⟨rfl,rfl,rfl,by simp[V.setO],fun k hk=>qd3 Oo⟩
theorem Ext.setCell{a:Ez}(h:Ext a w){p:Addr}(hr:a.heap.size<=p.block)(v:E8):Ext a (w.setCell p v):=Below.setCell h hr v
structure Mem(w0 w:Ez)(L:ED):Prop where
 ext:Ext w0 w
 own:∀x∈L,w0.heap.size<=x.1/\w.heap[x.1]?=some x.2
 nodup:(L.map (·.1)).Nodup
section
variable {w0 w w':Ez} {L:ED}
theorem Mem.nil(w:Ez):Mem w w []:=⟨Ext.refl w,fun _ h=>by simp at h,by simp⟩
theorem Mem.lt(h:Mem w0 w L){o:Obj}(hx:(b,o)∈L):b<w.heap.size:=by
 have:=(h.own _ hx).2
 rcases AX b w.heap.size with h' | h'
 ·exact h'
 ·rw[Bd h']at this;cases this
theorem Mem.get(h:Mem w0 w L){o:Obj}(hx:(b,o)∈L):w.heap[b]?=some o:=(h.own _ hx).2
theorem Mem.new(h:Mem w0 w L){o:Obj}(hb:b=w.heap.size)(hw:w'=w.alloc o):Mem w0 w' ((b,o)::L):=by
 subst hb hw;refine⟨h.ext.alloc o,?_,?_⟩
 ·intro x hx
  rcases AD.1 hx with rfl|hx
  ·exact⟨h.ext.size,heap_alloc_new w _⟩
  ·exact⟨(h.own x hx).1,by rw[Below.heap_alloc _ _ _ (h.lt (b:=x.1) (o:=x.2) hx)];exact(h.own x hx).2⟩
 ·simp only[AO,DQ];refine⟨fun hm=>?_,h.nodup⟩;obtain⟨x,hx,e⟩:=AY.1 hm;have:=h.lt (b:=x.1) (o:=x.2) hx;omega
theorem Mem.call(h:Mem w0 w L)(he:Ext w w'):Mem w0 w' L:=
 ⟨h.ext.trans he,fun x hx=>⟨(h.own x hx).1,he.get (h.own x hx).2⟩,h.nodup⟩
theorem Mem.drew(h:Mem w0 w L):Mem w0 w.drew L:=⟨h.ext.drew,h.own,h.nodup⟩
theorem Mem.set(h:Mem w0 w L){o:Obj}(hi:L[i]?=some (b,o))(hs:Ext w0 w')(hb:w'.heap[b]?=some o')(ho:∀c,c≠b->w'.heap[c]?=w.heap[c]?):Mem w0 w' (L.set i (b,o')):=by
 have hil:i<L.length:=by
  rcases AX i L.length with h' | h'
  ·exact h'
  ·rw[Au h']at hi;cases hi
 have hib:L[i]=(b,o):=by rw[Bo hil]at hi;exact BB hi
 have hn:((L.set i (b,o')).map (·.1))=L.map (·.1):=by
  rw[Ev];have:(L.map (·.1))[i]?=some b:=by rw[Ao,hi];rfl
  apply BW;intro j;rw[BX]
  split
  ·rename_i e;subst e
   rw[this];simp[hil]
  ·rfl
 refine⟨hs,?_,by rw[hn];exact h.nodup⟩;intro x hx
 rcases Dp hx with hx' | rfl
 ·refine⟨(h.own x hx').1,?_⟩
  by_cases e:x.1=b
  ·obtain⟨j,hj,hje⟩:=Cw.1 hx
   by_cases hij:j=i
   ·subst hij;rw[List.getElem_set_self]at hje;rw[<-hje];exact hb
   ·have h1:(L.map (·.1))[j]'(by simpa using hj)=b:=by
     have:(L.set i (b,o'))[j]=L[j]'(by simpa using hj):=List.getElem_set_ne (fun e=>hij e.symm) _;rw[Cx,<-this,hje,e]
    have h2:(L.map (·.1))[i]'(by simpa using hil)=b:=by rw[Cx,hib]
    have:=(List.getElem_inj h.nodup).1 (h1.trans h2.symm);exact absurd this hij
  ·rw[ho _ e];exact(h.own x hx').2
 ·exact⟨(h.own (b,o) (hib ▸ AT hil)).1,hb⟩
theorem Mem.setO(h:Mem w0 w L){i b:Nat}{o:Obj}(o':Obj)(hi:L[i]?=some (b,o))(hw:w'=setO w b o'):Mem w0 w' (L.set i (b,o')):=by
 subst hw;have hm:(b,o)∈L:=Cf hi;exact h.set hi (h.ext.setO (h.own _ hm).1 o') (qlx (h.get hm)) (fun c hc=>qd3 hc)
theorem heap_setCell{v:E8}{t:E6}{fr:Nat×Nat}(h:w.heap[b]?=some (.cells cs t fr)):
  (w.setCell ⟨b,off,none⟩ v).heap[b]?=some (.cells (cs.setIfInBounds off v) t fr):=by
 simp[World.setCell,Dm,h]
theorem Mem.setCell(h:Mem w0 w L){v:E8}{t:E6}{fr:Nat×Nat}(hi:L[i]?=some (b,.cells cs t fr))(hw:w'=w.setCell ⟨b,off,none⟩ v):
  Mem w0 w' (L.set i (b,.cells (cs.setIfInBounds off v) t fr)):=by
 subst hw;have hm:(b,Obj.cells cs t fr)∈L:=Cf hi;exact h.set hi (h.ext.setCell (h.own _ hm).1 v) (heap_setCell (h.get hm)) (fun c hc=>Below.heap_setCell _ _ _ _ hc)
theorem Mem.sub(h:Mem w0 w L)(hs:L'.Sublist L):Mem w0 w L':=
 ⟨h.ext,fun x hx=>h.own x (hs.subset hx),(hs.map _).nodup h.nodup⟩
theorem Mem.perm(h:Mem w0 w L)(hs:L'.Perm L):Mem w0 w L':=
 ⟨h.ext,fun x hx=>h.own x (hs.mem_iff.1 hx),(hs.map _).nodup_iff.2 h.nodup⟩
end
theorem qa{t:E6}{fr:Nat×Nat}(h:w.heap[b]?=some (.cells cs t fr)):w.cell? ⟨b,off,none⟩=cs[off]?:=by
 simp[World.cell?,h]
theorem LoadV.own{t:E6}{fr:Nat×Nat}{v:E8}{K:E8->Prop}(h:w.heap[b]?=some (.cells cs t fr))(hv:cs[off]?=some v)(hk:K v):
  LoadV w b off K:=⟨v,by rw[qa h];exact hv,hk⟩
theorem LoadV.of{v:E8}{K:E8->Prop}(h:w.cell? ⟨b,off,none⟩=some v)(hk:K v):LoadV w b off K:=⟨v,h,hk⟩
theorem StoreV.own{t:E6}{v:E8}{K:EC}(h:w.heap[b]?=some (.cells cs t (0,0)))(ho:off<cs.size)(h1:qcx v=true)(hk:∀w',w'=w.setCell ⟨b,off,none⟩ v->K w'):StoreV w b off v K:=by
 refine⟨⟨cs[off],?_⟩,?_,h1,hk _ rfl⟩
 ·rw[qa h];exact Aj ho
 ·simp[World.frozen?,h]
theorem NewV.mem{o:Obj}{K:Nat->EC}(h:Mem w0 w L)(hk:∀b w',Mem w0 w' ((b,o)::L)->K b w'):NewV w o K:=
 ⟨fun b w' hb hw=>hk b w' (h.new hb hw)⟩
theorem NextS.mem{pos:Nat}(h:Mem w0 w L)(hi:L[i]?=some (r,.stringIter s pos))(h1:pos<s.size->∀w',Mem w0 w' (L.set i (r,.stringIter s (pos+(Utf8.decode s pos).2)))->K (.tuple #[.bool true,.int .i64 pos,.int .i32 (Utf8.decode s pos).1]) w')(h2:¬pos<s.size->K (.tuple #[.bool false]) w):NextS w r K:=
 ⟨s,pos,h.get (Cf hi),fun hp w' hw=>h1 hp w' (h.setO _ hi hw),h2⟩
theorem LoadV.mem{t:E6}{fr:Nat×Nat}{v:E8}{K:E8->Prop}(h:Mem w0 w L)(hi:L[i]?=some (b,.cells cs t fr))(hv:cs[off]?=some v)(hk:K v):LoadV w b off K:=LoadV.own (h.get (Cf hi)) hv hk
theorem LoadA.mem{size:Nat}{t:E6}{fr:Nat×Nat}{K:EE->Prop}(h:Mem w0 w L)(hi:L[i]?=some (b,.cells cs t fr))(hs:cs.toList.length=size)(hk:K cs.toList):LoadA w b 0 size K:=
 ⟨cs.toList,hs,fun j _=>by rw[qa (h.get (Cf hi)),Aw];simp,hk⟩
theorem StoreV.mem{t:E6}{v:E8}{K:EC}(h:Mem w0 w L)(hi:L[i]?=some (b,.cells cs t (0,0)))(ho:off<cs.size)(h1:qcx v=true)(hk:∀w',Mem w0 w' (L.set i (b,.cells (cs.setIfInBounds off v) t (0,0)))->K w'):StoreV w b off v K:=
 StoreV.own (h.get (Cf hi)) ho h1 fun w' hw=>hk w' (h.setCell hi hw)
theorem CellsAt.ext(h:CellsAt w b off vs)(he:Ext w w'):CellsAt w' b off vs:=fun k v hv=>he.cell (h k v hv)
theorem LoadV.cells{v:E8}{K:E8->Prop}(h:CellsAt w b off vs)(k:Nat)(hv:vs[k]?=some v)(hk:K v):LoadV w b (off+k) K:=⟨v,h k v hv,hk⟩
theorem LoadV.cell0{v:E8}{K:E8->Prop}(h:CellsAt w b off (v::vs))(hk:K v):LoadV w b off K:=⟨v,h 0 v rfl,hk⟩
theorem LoadA.cells{size:Nat}{K:EE->Prop}(h:CellsAt w b off vs)(hs:vs.length=size)(hk:K vs):LoadA w b off size K:=
 ⟨vs,hs,fun i hi=>by
  have hl:i<vs.length:=by omega
  rw[h i vs[i] (Bo hl),Bo hl],hk⟩
structure SlAt{α:Type}(enc:α->EE)(size:Nat)(w:Ez)(A:Option Addr)(l:List α):Prop where
 at_:l≠[]->∃b off,A=some ⟨b,off,none⟩/\∀(j:Nat) x,l[j]?=some x->CellsAt w b (off+j*size) (enc x)
theorem SlAt.ext{α:Type}{enc:α->EE}{size:Nat}{A:Option Addr}{l:List α}(h:SlAt enc size w A l)(he:Ext w w'):SlAt enc size w' A l:=
 ⟨fun hn=>let⟨b,off,h1,h2⟩:=h.at_ hn;⟨b,off,h1,fun j x hx=>(h2 j x hx).ext he⟩⟩
theorem ElemV.sl{α:Type}{enc:α->EE}{size len:Nat}{A:Option Addr}{l:List α}{i:Int}{K:E8->Prop}(h:SlAt enc size w A l)(hl:l.length=len)(j:Nat)(e:i=(j:Int))(hj:j<len)(hk:∀b off,CellsAt w b off (enc (l[j]'(hl ▸ hj)))->K (.pointer (some ⟨b,off,none⟩))):ElemV A i len size K:=by
 obtain⟨b,off,h1,h2⟩:=h.at_ (by intro e;subst e;simp at hl;omega);exact⟨b,off,j,h1,e,hj,hk _ _ (h2 j _ (Bo (hl ▸ hj)))⟩
theorem ElemV.own1{len size:Nat}{i:Int}{K:E8->Prop}(j:Nat)(e:i=(j:Int))(hj:j<len)(hk:K (.pointer (some ⟨b,j,none⟩)))(hs:size=1:=by rfl):ElemV (some ⟨b,0,none⟩) i len size K:=by
 subst hs;exact⟨b,0,j,rfl,e,hj,by rw[Bk,Aw];exact hk⟩
def zeS(s:E0):EE:=[.string s]
def zeI(n:Int):EE:=[.int .i64 n]
theorem qcl{t:E6}(h:w.heap[b]?=some (.cells cur t (0,0))):(w.setRow b cs).heap[b]?=some (.cells cs t (0,0)):=
 setRow_heap w b cur cs t _ h
theorem qw(h:c≠b):(w.setRow b cs).heap[c]?=w.heap[c]?:=by
 simp only[World.setRow,Dm];rw[Aa (fun e=>h e.symm)]
theorem StoreA.mem{t:E6}{K:EC}(h:Mem w0 w L)(hi:L[i]?=some (b,.cells cur t (0,0)))(hl:off+vs.length<=cur.size)(h1:∀v∈vs,v.oneCell'=true)(hk:∀w',Mem w0 w' (L.set i (b,.cells (cur.toList.take off++vs++cur.toList.drop (off+vs.length)).toArray t (0,0)))->K w'):StoreA P w b off vs K:=by
 have hm:(b,Obj.cells cur t (0,0))∈L:=Cf hi;have hg:=h.get hm;have hr:=run_storeCells_at P b off t vs 0 cur w hg (by simpa using hl) h1;simp only[BH]at hr;refine⟨_,hr,hk _ ?_⟩;refine h.set hi ?_ (qcl hg) (fun c hc=>qw hc);exact Below.trans h.ext ⟨rfl,rfl,rfl,by simp[World.setRow],fun k hk=>qw (by have:=(h.own _ hm).1;simp only at this;omega)⟩
structure Rw(w0 w:Ez)(v:E8)(e:E6)(size n:Nat)(xs:EE)(L:ED):Prop where
 mem:Mem w0 w L
 own:w.ownsRow w0.heap.size e size v n xs
 apart:∀x∈L,v.ownBlock≠some x.1
section
variable {P:E4} {w0 w w':Ez} {v:E8} {e:E6} {size n:Nat} {xs:EE} {L:ED}
theorem Rw.nil(h:Mem w0 w L):Rw w0 w (.slice none 0 0) e size 0 [] L:=⟨h,World.ownsRow_nil _ _ _ _,fun _ _=>by simp[Value.ownBlock]⟩
theorem Rw.slice(h:Rw w0 w v e size n xs L):∃A c,v=.slice A n c:=by
 rcases h.own.2 with⟨rfl,rfl⟩|⟨g,cap,cur,rfl,_⟩
 ·exact⟨_,_,rfl⟩
 ·exact⟨_,_,rfl⟩
theorem Rw.len(h:Rw w0 w v e size n xs L):xs.length=n*size:=h.own.1
theorem Rw.grown{row:Option Nat}(h:Rw w0 w v e size n xs L)(hg:w.grownBy w' row)(hr:∀k,row=some k->w0.heap.size<=k/\∀x∈L,x.1≠k):Mem w0 w' L:=by
 refine⟨Below.grown h.mem.ext hg h.mem.ext.size (fun k hk=>(hr k hk).1),fun x hx=>⟨(h.mem.own x hx).1,?_⟩,h.mem.nodup⟩;rw[hg.block x.1 (h.mem.lt hx) (fun e=>(hr x.1 e.symm).2 x hx rfl)];exact(h.mem.own x hx).2
theorem Rw.call(h:Rw w0 w v e size n xs L)(he:Ext w w'):Rw w0 w' v e size n xs L:=by
 refine⟨h.mem.call he,h.own.kept (row:=none) ⟨he.os,he.tape,he.output,he.size,fun k hk _=>he.block k hk⟩ ?_,h.apart⟩;cases v.ownBlock<;>simp
theorem Rw.newBlk(h:Rw w0 w v e size n xs L){o:Obj}(hb:b=w.heap.size)(hw:w'=w.alloc o):Rw w0 w' v e size n xs ((b,o)::L):=by
 have hx:Ext w w':=by rw[hw];exact(Ext.refl w).alloc o
 refine⟨h.mem.new hb hw,(h.call hx).own,fun x hx=>?_⟩
 rcases AD.1 hx with rfl|hx
 ·intro e;have:=h.own.lt _ e;simp only at this;omega
 ·exact h.apart x hx
theorem AppV.rw{t ty:E6}{i:TypeInfo}{z:E8}{A:Option Addr}{m c:Nat}{news:EE}{K:E9}(ht:P.underlying t=some (.slice e))(hi:P.info? e=some i)(hz:i.zero=some z)(hsize:i.size=size)(hzs:z.cells.size=size)(hsz:0<size)(h:Rw w0 w v e size n xs L)(hl:news.length=m*size)(hA:news≠[]->∃b off,A=some ⟨b,off,none⟩/\CellsAt w b off news)(h1:∀u∈news,u.oneCell'=true)(hb:(n+m)*i.bytes<=140737488355328)(h63:n+m<=140737488355328)(hk:∀A' c' w',Rw w0 w' (.slice A' (n+m) c') e size (n+m) (xs++news) L->K (.slice A' (n+m) c') w'):AppV P #[t,t] ty v (.slice A m c) w K:=by
 cases A with
 | none=>
  have hn:news=[]:=by
   cases hnn:news with
   | nil=>rfl
   | cons x r=>obtain⟨b,off,h0,_⟩:=hA (by rw[hnn];simp);cases h0
  subst hn;have hm:m=0:=by
   rcases Ej.1 (show m*size=0 by simpa using hl.symm)with h|h
   ·exact h
   ·omega
  subst hm;obtain⟨A',c',rfl⟩:=h.slice;refine⟨_,w,?_,hk A' c' w (by simpa using h)⟩
  rcases h.own.2 with⟨e1,e2⟩|⟨g,cap,cur,e1,_,_,hnc,_⟩
  ·cases e1;simp[Builtin.append_,run_underlying ht,sizeOf,typeInfo,hi,Builtin.lenOf,Builtin.firstCells]
  ·cases e1;simp[Builtin.append_,run_underlying ht,sizeOf,typeInfo,hi,Builtin.lenOf,Builtin.firstCells,hnc,storeCells]
 | some a=>
  have hcells:∀j u,news[j]?=some u->w.cell? (a.add j)=some u:=by
   intro j u hu;obtain⟨b,off,h0,h1⟩:=hA (by intro e;rw[e]at hu;simp at hu);cases h0;rw[qan];exact h1 j u hu
  obtain⟨v',w',hrun,h2,h3,_,h5⟩:=run_append_own_at (P:=P) w w0.heap.size t ty e i z size i.bytes ht hi hz hsize rfl hzs hsz v n xs h.own a m c news hl hcells h1 (by simp only[maxLen];omega) hb h.mem.ext.size;have hR:Rw w0 w' v' e size (n+m) (xs++news) L:=by
   refine⟨h.grown h3 (fun k hk=>⟨(h.own.lt k hk).1,fun x hx e=>h.apart x hx (by rw[hk,e])⟩),h2,fun x hx=>?_⟩
   rcases h5 with h5|h5<;>rw[h5]
   ·exact h.apart x hx
   ·intro e;have:=h.mem.lt (b:=x.1) (o:=x.2) hx;simp only[Bp]at e;omega
  obtain⟨A',c',rfl⟩:=hR.slice;exact⟨_,w',hrun,hk A' c' w' hR⟩
end
end V
namespace V
def qzq(e:Edge):Bool:=
 match e.ground with
 | .textOnly _ | .gcOnly _=>false
 | _=>true
theorem qau(e:Edge):Region.binds .any e=qzq e:=by
 unfold Region.binds qzq;cases e.ground<;>rfl
def qm8:List Edge->EF
 | []=>[]
 | e::l=>bif qzq e then e.on::qm8 l else qm8 l
def qu(o:Oper):EF:=qm8 o.after.toList
theorem qab{l:List Edge}:k∈qm8 l↔∃e∈l,qzq e=true/\e.on=k:=by
 induction l with
 | nil=>simp[qm8]
 | cons e l ih=>
  simp only[qm8];cases hb:qzq e
  ·simp only[cond_false,ih,AD]
   constructor
   ·rintro⟨e',h1,h2,h3⟩;exact⟨e',.inr h1,h2,h3⟩
   ·rintro⟨e',rfl|h1,h2,h3⟩
    ·rw[hb]at h2;cases h2
    ·exact⟨e',h1,h2,h3⟩
  ·simp only[cond_true,AD,ih]
   constructor
   ·rintro(rfl|⟨e',h1,h2,h3⟩)
    ·exact⟨e,.inl rfl,hb,rfl⟩
    ·exact⟨e',.inr h1,h2,h3⟩
   ·rintro⟨e',rfl|h1,h2,h3⟩
    ·exact .inl h3.symm
    ·exact .inr ⟨e',h1,h2,h3⟩
structure Ent where
 d:Option Tmp
 v:Option E8
 φ:E8->Ez->Prop
def allv(es:List Ent):EF->EB->Ez->(EB->Prop)->Prop
 | [],ρ,_,K=>K ρ
 | k::ks,ρ,w,K=>
  match getL es k with
  | some ⟨some d,none,φ⟩=>∀v,φ v w->allv es ks (upd ρ d v) w K
  | _=>allv es ks ρ w K
def frS(es:List Ent)(vals:EB)(k:Nat)(ρ:EB):Nat->E8:=
 match getL es k with
 | some ⟨some d,none,_⟩=>upd ρ d (vals k)
 | _=>ρ
def fr(es:List Ent)(vals:EB):EF->EB->EB
 | [],ρ=>ρ
 | k::ks,ρ=>fr es vals ks (frS es vals k ρ)
theorem qhb{es:List Ent}{φ:E9}(h:getL es k=some ⟨some d,none,φ⟩):frS es vals k ρ=upd ρ d (vals k):=by simp[frS,h]
theorem qkb{es:List Ent}(h:∀d φ,getL es k≠some ⟨some d,none,φ⟩):frS es vals k ρ=ρ:=by
 unfold frS
 split
 ·rename_i d φ hk;exact absurd hk (h _ _)
 ·rfl
theorem qnr{es:List Ent}{K:EB->Prop}:∀(ks:EF) (ρ:EB),
  (∀k∈ks,∀e,getL es k=some e->e.φ (vals k) w)->allv es ks ρ w K->K (fr es vals ks ρ):=by
 intro ks
 induction ks with
 | nil=>intro ρ _ h;exact h
 | cons k ks ih=>
  intro ρ hv h;have hv':∀k∈ks,∀e,getL es k=some e->e.φ (vals k) w:=fun k hk=>hv k (BV _ hk)
  unfold allv at h;unfold fr
  split at h
  ·rename_i d φ hk
   rw[qhb hk];exact ih _ hv' (h (vals k) (hv k (AK ..) _ hk))
  ·rename_i hk
   rw[qkb hk];exact ih _ hv' h
theorem qet(ρ:EB)(d:Nat)(v:E8):upd ρ d v d=v:=by simp[upd]
theorem qaq(ρ:EB)(d t:Nat)(v:E8)(h:t≠d):upd ρ d v t=ρ t:=by
 unfold upd;have e':Nat.beq t d=false:=Bx.2 fun e=>h (Bl e)
 rw[e'];rfl
theorem qol{es:List Ent}{t:Nat}:∀(ks:EF) (ρ:EB),(∀k∈ks,∀φ,getL es k≠some ⟨some t,none,φ⟩)->fr es vals ks ρ t=ρ t:=by
 intro ks
 induction ks with
 | nil=>intro ρ _;rfl
 | cons k ks ih=>
  intro ρ h;have h':∀k∈ks,∀φ,getL es k≠some ⟨some t,none,φ⟩:=fun k hk=>h k (BV _ hk)
  unfold fr;rw[ih _ h']
  by_cases hk:∃d φ,getL es k=some ⟨some d,none,φ⟩
  ·obtain⟨d,φ,hk⟩:=hk;rw[qhb hk,qaq];rintro rfl;exact h k (AK ..) φ hk
  ·rw[qkb (fun d φ e=>hk ⟨d,φ,e⟩)]
theorem q71{es:List Ent}{t k0:Nat}(hx:x=vals k0)(hu:∀k φ,getL es k=some ⟨some t,none,φ⟩->k=k0):∀(ks:EF) (ρ:EB),
  (ρ t=x\/(k0∈ks/\∃φ,getL es k0=some ⟨some t,none,φ⟩))->fr es vals ks ρ t=x:=by
 intro ks
 induction ks with
 | nil=>
  intro ρ h
  rcases h with h|⟨h,_⟩
  ·exact h
  ·cases h
 | cons k ks ih=>
  intro ρ h;unfold fr
  by_cases hk:∃d φ,getL es k=some ⟨some d,none,φ⟩
  ·obtain⟨d,φ,hk⟩:=hk;rw[qhb hk]
   by_cases hd:t=d
   ·subst hd;have:=hu k φ hk;subst this;exact ih _ (.inl (by rw[qet,hx]))
   ·refine ih _ ?_
    rcases h with h|⟨h,φ0,h0⟩
    ·exact .inl (by rw[qaq _ _ _ _ hd];exact h)
    ·rcases AD.1 h with rfl|h
     ·rw[hk]at h0;cases h0;exact absurd rfl hd
     ·exact .inr ⟨h,φ0,h0⟩
  ·rw[qkb (fun d φ e=>hk ⟨d,φ,e⟩)];refine ih _ ?_
   rcases h with h|⟨h,φ0,h0⟩
   ·exact .inl h
   ·rcases AD.1 h with rfl|h
    ·exact absurd ⟨_,_,h0⟩ hk
    ·exact .inr ⟨h,φ0,h0⟩
def qb2(P:E4)(ops:List Oper)(o:Oper)(ρ:EB)(w:Ez)(K:E9):Prop:=
 match o.guard with
 | none=>opV P o ρ w K
 | some (j,want)=>
  match getL ops j with
  | none=>K undef w
  | some oj=>match oj.dst with
   | none=>K undef w
   | some d=>
    match ρ d with
    | .bool b=>Tst b
      (match want with
       | true=>opV P o ρ w K
       | false=>K undef w)
      (match want with
       | true=>K undef w
       | false=>opV P o ρ w K)
    | _=>K undef w
structure StepD(A:E9->Prop)(K:Option E8->E9->Prop):Prop where
 h:(∃v,A (fun u _=>u=v)/\K (some v) (fun u _=>u=v))\/(∃φ:E8->Ez->Prop,(∀v w w',φ v w->Ext w w'->φ v w')/\A φ/\K none φ)
theorem StepD.still{A:E9->Prop}{K:Option E8->E9->Prop}(v:E8)(h:A (fun u _=>u=v))(hk:K (some v) (fun u _=>u=v)):StepD A K:=⟨.inl ⟨v,h,hk⟩⟩
theorem StepD.of{A:E9->Prop}{K:Option E8->E9->Prop}(φ:E9)(hs:∀v w w',φ v w->Ext w w'->φ v w')(h:A φ)(hk:K none φ):StepD A K:=⟨.inr ⟨φ,hs,h,hk⟩⟩
def updO(ρ:EB):Option Tmp->Option E8->Nat->E8
 | some d,some v=>upd ρ d v
 | _,_=>ρ
def qk4:List (Nat×Nat×E9)->Nat->Option (Nat×E9)
 | [],_=>none
 | (i,d,φ)::es,k=>bif Nat.beq i k then some (d,φ)else qk4 es k
def allA(es:List (Nat×Nat×E9)):EF->EB->Ez->(EB->Prop)->Prop
 | [],ρ,_,K=>K ρ
 | k::ks,ρ,w,K=>
  match qk4 es k with
  | some (d,φ)=>∀v,φ v w->allA es ks (upd ρ d v) w K
  | none=>allA es ks ρ w K
def idxs:List (Nat×Nat×E9)->EF
 | []=>[]
 | (i,_,_)::es=>i::idxs es
def qyh(k:Nat)(φ:E9)(es:List (Nat×Nat×E9)):Option Tmp->Option E8->List (Nat×Nat×E9)
 | some d,none=>(k,d,φ)::es
 | _,_=>es
def regD(P:E4)(ops:List Oper)(w0:Ez)(Q:EB->EC):List Oper->Nat->List (Nat×Nat×E9)->EB->Prop
 | [],_,es,ρ=>∀w,Ext w0 w->allA es (idxs es) ρ w fun ρ'=>Q ρ' w
 | o::l,k,es,ρ=>StepD
   (fun φ=>∀w,Ext w0 w->allA es (qu o) ρ w fun ρ'=>qb2 P ops o ρ' w fun v w'=>Ext w w'/\φ v w')
   (fun v φ=>regD P ops w0 Q l (k+1) (qyh k φ es o.dst v) (updO ρ o.dst v))
def sfr:List Ent->EB->EB
 | [],ρ=>ρ
 | e::l,ρ=>sfr l (updO ρ e.d e.v)
theorem qf5(a b:List Ent)(ρ:EB):sfr (a++b) ρ=sfr b (sfr a ρ):=by
 induction a generalizing ρ with
 | nil=>rfl
 | cons e a ih=>simp[sfr,ih]
structure EntOk(e:Ent)(o:Oper):Prop where
 d:e.d=o.dst
 st:∀v w w',e.φ v w->Ext w w'->e.φ v w'
 v:∀x,e.v=some x->∀u w,e.φ u w->u=x
section
variable {P:E4} {n:Nat} {ops:List Oper} {w0:Ez}
def Agree(es:List (Nat×Nat×E9))(F:List Ent):Prop:=
 ∀k,(match getL F k with|some ⟨some d,none,φ⟩=>qk4 es k=some (d,φ)|_=>qk4 es k=none)
theorem qzm{es:List (Nat×Nat×E9)}{F:List Ent}(h:Agree es F){K:EB->Prop}:∀(ks:EF) (ρ:EB),allA es ks ρ w K->allv F ks ρ w K:=by
 intro ks
 induction ks with
 | nil=>intro ρ h;exact h
 | cons k ks ih=>
  intro ρ ha;have hk:=h k;unfold allA at ha;unfold allv
  split
  ·rename_i d φ hg
   rw[hg]at hk;simp only at hk;rw[hk]at ha;exact fun v hv=>ih _ (ha v hv)
  ·rename_i hg
   split at hk
   ·rename_i d φ hg';exact absurd hg' (hg d φ)
   ·rw[hk]at ha;exact ih _ ha
theorem q50{es:List (Nat×Nat×E9)}{φ:E9}(h:qk4 es k=some (d,φ)):k∈idxs es:=by
 induction es with
 | nil=>cases h
 | cons x es ih=>
  obtain⟨i,d',φ'⟩:=x;simp only[qk4]at h;cases hb:Nat.beq i k<;>rw[hb]at h
  ·exact BV _ (ih h)
  ·rw[Bl hb];exact AK ..
theorem Agree.push{es:List (Nat×Nat×E9)}{F:List Ent}(h:Agree es F)(dst:Option Tmp)(v:Option E8)(φ:E9):Agree (qyh F.length φ es dst v) (F++[⟨dst,v,φ⟩]):=by
 intro k;have hk:=h k;have hg:∀k,k<F.length->getL (F++[⟨dst,v,φ⟩]) k=getL F k:=fun k hk=>by rw[qm,qm,AQ hk]
 have hlast:getL (F++[⟨dst,v,φ⟩]) F.length=some ⟨dst,v,φ⟩:=by rw[qm,AR (Aq _)];simp
 have hnone:∀k,F.length<=k->getL F k=none:=fun k hk=>by rw[qm,Au hk]
 have hout:∀k,F.length<k->getL (F++[⟨dst,v,φ⟩]) k=none:=fun k hk=>by rw[qm,Au Ys]
 have hL:qk4 es F.length=none:=by have:=h F.length;rw[hnone _ (Aq _)]at this;exact this
 have other:k≠F.length->qk4 (qyh F.length φ es dst v) k=qk4 es k:=fun hne=>by
  unfold qyh
  split
  ·have:Nat.beq F.length k=false:=Bx.2 fun e=>hne (Bl e).symm
   simp only[qk4,this,cond_false]
  ·rfl
 rcases Dv k F.length with hlt|rfl|hgt
 ·rw[hg k hlt,other Oo];exact hk
 ·rw[hlast];have hrefl:Nat.beq F.length F.length=true:=by simp
  cases dst with
  | none=>exact hL
  | some d=>
   cases v with
   | none=>simp only[qyh,qk4,hrefl,cond_true]
   | some v=>exact hL
 ·rw[hout k hgt,other Oo];rw[hnone k Oo]at hk;exact hk
theorem qkj{Q:EB->EC}(l:List Oper):∀(es:List (Nat×Nat×E9)) (F:List Ent) (ρ0:EB),Agree es F->regD P ops w0 Q l F.length es (sfr F ρ0)->
  ∃E:List Ent,E.length=l.length/\(∀i o e,l[i]?=some o->E[i]?=some e->EntOk e o/\
   ∀w,Ext w0 w->allv (F++E.take i) (qu o) (sfr (F++E.take i) ρ0) w fun ρ'=>qb2 P ops o ρ' w fun v w'=>Ext w w'/\e.φ v w')/\
   ∃ks:EF,(∀k d φ,getL (F++E) k=some ⟨some d,none,φ⟩->k∈ks)/\∀w,Ext w0 w->allv (F++E) ks (sfr (F++E) ρ0) w fun ρ'=>Q ρ' w:=by
 induction l with
 | nil=>
  intro es F ρ0 hA h;refine⟨[],rfl,fun i o e hi=>by simp at hi,idxs es,?_,?_⟩
  ·intro k d φ hk;rw[AI]at hk;have:=hA k;rw[hk]at this;exact q50 this
  ·intro w hw;rw[AI];exact qzm hA _ _ (h w hw)
 | cons o l ih=>
  intro es F ρ0 hAg h;have key:∀(v:Option E8) (φ:E9),EntOk ⟨o.dst,v,φ⟩ o->
    (∀w,Ext w0 w->allA es (qu o) (sfr F ρ0) w fun ρ'=>qb2 P ops o ρ' w fun v w'=>Ext w w'/\φ v w')->
    regD P ops w0 Q l (F.length+1) (qyh F.length φ es o.dst v) (updO (sfr F ρ0) o.dst v)->
    ∃E:List Ent,E.length=(o::l).length/\(∀i o' e,(o::l)[i]?=some o'->E[i]?=some e->EntOk e o'/\
     ∀w,Ext w0 w->allv (F++E.take i) (qu o') (sfr (F++E.take i) ρ0) w fun ρ'=>qb2 P ops o' ρ' w fun v w'=>Ext w w'/\e.φ v w')/\
     ∃ks:EF,(∀k d φ,getL (F++E) k=some ⟨some d,none,φ⟩->k∈ks)/\∀w,Ext w0 w->allv (F++E) ks (sfr (F++E) ρ0) w fun ρ'=>Q ρ' w:=fun v φ hok hA hK=>by
   have e1:updO (sfr F ρ0) o.dst v=sfr (F++[⟨o.dst,v,φ⟩]) ρ0:=by rw[qf5];rfl
   have e2:F.length+1=(F++[(⟨o.dst,v,φ⟩:Ent)]).length:=by simp
   rw[e1,e2]at hK;obtain⟨E,h1,h2,ks,h3,h4⟩:=ih _ _ ρ0 (hAg.push o.dst v φ) hK;refine⟨⟨o.dst,v,φ⟩::E,by simp[h1],fun i o' e hi he=>?_,ks,by simpa using h3,by simpa using h4⟩;cases i with
   | zero=>
    simp at hi he;subst hi he;refine⟨hok,fun w hw=>?_⟩;rw[Bz,AI];exact qzm hAg _ _ (hA w hw)
   | succ i=>
    simp at hi he;obtain⟨k1,k2⟩:=h2 i o' e hi he;exact⟨k1,by simpa using k2⟩
  obtain⟨v,hA,hK⟩|⟨φ,hs,hA,hK⟩:=h.h
  ·exact key (some v) _ ⟨rfl,fun _ _ _ h _=>h,fun x hx u w hu=>by cases hx;exact hu⟩ hA hK
  ·exact key none φ ⟨rfl,hs,fun x hx=>by cases hx⟩ hA hK
end
theorem qwx{t:Nat}:∀(es:List Ent) (ρ:EB),(∀e∈es,e.d=some t->e.v=none)->sfr es ρ t=ρ t:=by
 intro es
 induction es with
 | nil=>intro ρ _;rfl
 | cons e es ih=>
  intro ρ h;rw[sfr,ih _ (fun e' he'=>h e' (BV _ he'))];have he:=h e (AK ..);obtain⟨d,v,φ⟩:=e;cases d with
  | none=>rfl
  | some d=>cases v with
   | none=>rfl
   | some v=>
    have hne:t≠d:=by rintro rfl;have:=he rfl;cases this
    exact qaq _ _ _ _ hne
theorem q28{t:Nat}:∀(es:List Ent) (ρ:EB),(∀e∈es,e.d=some t->e.v=some x)->(ρ t=x\/∃e∈es,e.d=some t)->sfr es ρ t=x:=by
 intro es
 induction es with
 | nil=>
  intro ρ _ h
  rcases h with h|⟨e,he,_⟩
  ·exact h
  ·cases he
 | cons e es ih=>
  intro ρ hu h;rw[sfr];refine ih _ (fun e' he'=>hu e' (BV _ he')) ?_;have he:=hu e (AK ..);obtain⟨d,v,φ⟩:=e
  by_cases hd:d=some t
  ·subst hd;have:=he rfl;simp only at this;subst this;exact .inl (qet _ _ _)
  ·rcases h with h|⟨e',he',hd'⟩
   ·left
    cases d with
    | none=>exact h
    | some d=>cases v with
     | none=>exact h
     | some v=>exact(qaq _ _ _ _ (fun e=>hd (by rw[e]))).trans h
   ·rcases AD.1 he' with rfl|he'
    ·exact absurd hd' hd
    ·exact .inr ⟨e',he',hd'⟩
def qjt(n:Nat)(ops:Array Oper):Bool:=
 Region.noSelect ops&&(List.range ops.size).all fun j=>
  match ops[j]? with
  | none=>true
  | some o=>(qu o).all (fun k=>decide (k<j))&&(match o.dst with|some d=>decide (d<n)|none=>true)&&(List.range ops.size).all fun k=>
   match ops[k]? with
   | none=>true
   | some ok=>match ok.dst with
    | none=>true
    | some t=>(!(o.looksAt ops).contains t||(qu o).contains k)&&(k==j||o.dst != some t)
structure ShapeP(n:Nat)(ops:Array Oper):Prop where
 sel:Region.noSelect ops=true
 lt:∀(j:Nat) (o:Oper),ops[j]?=some o->∀k∈qu o,k<j
 dn:∀(j:Nat) (o:Oper),ops[j]?=some o->∀d,o.dst=some d->d<n
 look:∀(j:Nat) (o:Oper) (k:Nat) (ok:Oper) (t:Nat),ops[j]?=some o->ops[k]?=some ok->ok.dst=some t->t∈o.looksAt ops->k∈qu o
 uniq:∀(j:Nat) (o:Oper) (k:Nat) (ok:Oper) (t:Nat),ops[j]?=some o->ops[k]?=some ok->ok.dst=some t->o.dst=some t->k=j
theorem qd4{n:Nat}(h:qjt n ops=true):ShapeP n ops:=by
 simp only[qjt,AJ]at h;obtain⟨h1,h2⟩:=h;have key:∀(j:Nat) (o:Oper),ops[j]?=some o->((qu o).all (fun k=>decide (k<j))&&(match o.dst with|some d=>decide (d<n)|none=>true)&&(List.range ops.size).all fun k=>
   match ops[k]? with
   | none=>true
   | some ok=>match ok.dst with
    | none=>true
    | some t=>(!(o.looksAt ops).contains t||(qu o).contains k)&&(k==j||o.dst != some t))=true:=fun j o hj=>by
  have:=Ce.1 h2 j (BY.2 (AS.1 hj).1);rw[hj]at this;exact this
 have key2:∀(j:Nat) (o:Oper) (k:Nat) (ok:Oper) (t:Nat),ops[j]?=some o->ops[k]?=some ok->ok.dst=some t->((!(o.looksAt ops).contains t||(qu o).contains k)&&(k==j||o.dst != some t))=true:=fun j o k ok t hj hk ht=>by
  have:=key j o hj;simp only[AJ]at this;have:=Ce.1 this.2 k (BY.2 (AS.1 hk).1);rw[hk]at this;simp only[ht]at this
  simpa using this
 refine⟨h1,fun j o hj k hk=>?_,fun j o hj d hd=>?_,fun j o k ok t hj hk ht hl=>?_,fun j o k ok t hj hk ht ho=>?_⟩
 ·have:=key j o hj;simp only[AJ]at this
  simpa using Ce.1 this.1.1 k hk
 ·have:=key j o hj;simp only[AJ]at this;have:=this.1.2;rw[hd]at this
  simpa using this
 ·have:=key2 j o k ok t hj hk ht;simp only[AJ,CA,Du]at this
  rcases this.1 with h|h
  ·rw[List.contains_eq_mem,decide_eq_false_iff_not]at h;exact absurd hl h
  ·simpa using h
 ·have:=key2 j o k ok t hj hk ht;simp only[AJ,CA,CU]at this
  rcases this.2 with h|h
  ·exact h
  ·rw[ho]at h;simp at h
structure InvD(n:Nat)(E:List Ent)(w0:Ez)(ρ:EB)(listed:Array Bool)(vals:EB)(ρa:EB)(a:Act)(w:Ez):Prop where
 ext:Ext w0 w
 st:St n ρa a
 φ:∀k,listed.getD k false=true->∀e,E[k]?=some e->e.φ (vals k) w
 at_:∀k,listed.getD k false=true->∀e d,E[k]?=some e->e.d=some d->ρa d=vals k
 miss:∀t,(∀k,listed.getD k false=true->∀e,E[k]?=some e->e.d≠some t)->ρa t=ρ t
section
variable {P:E4} {n:Nat} {ops:Array Oper} {w0:Ez} {E:List Ent} {ρ:EB}
theorem qdl(hd:∀(i:Nat) (o:Oper) (e:Ent),ops[i]?=some o->E[i]?=some e->EntOk e o)(hl:E.length=ops.size)(hS:ShapeP n ops)(I:InvD n E w0 ρ listed vals ρa a w)(i:Nat)(ks:EF)(t:Nat)(h1:∀(k:Nat) (e:Ent),E[k]?=some e->e.d=some t->k<i->listed.getD k false=true/\(e.v=none->k∈ks))(h2:∀(k:Nat) (e:Ent),E[k]?=some e->e.d=some t->listed.getD k false=true->k<i):
  fr (E.take i) vals ks (sfr (E.take i) ρ) t=ρa t:=by
 have op_of:∀(k:Nat) (e:Ent),E[k]?=some e->∃o,ops[k]?=some o/\EntOk e o:=fun k e hk=>by
  have hlt:k<ops.size:=by
   rw[<-hl]
   rcases AX k E.length with h|h
   ·exact h
   ·rw[Au h]at hk;cases hk
  exact⟨ops[k],Aj hlt,hd k _ e (Aj hlt) hk⟩
 have uniq:∀(k k':Nat) (e e':Ent),E[k]?=some e->E[k']?=some e'->e.d=some t->e'.d=some t->k'=k:=fun k k' e e' hk hk' hd1 hd2=>by
  obtain⟨o,ho,hok⟩:=op_of k e hk;obtain⟨o',ho',hok'⟩:=op_of k' e' hk';exact hS.uniq k o k' o' t ho ho' (hok'.d ▸ hd2) (hok.d ▸ hd1)
 have inE:∀(k:Nat) (e:Ent),getL (E.take i) k=some e->E[k]?=some e/\k<i:=fun k e hk=>by
  rw[qm,Bc]at hk
  split at hk
  ·exact⟨hk,by assumption⟩
  ·cases hk
 by_cases hex:∃(k:Nat) (e:Ent),E[k]?=some e/\e.d=some t/\k<i
 ·obtain⟨k,e,hk,hdt,hki⟩:=hex;obtain⟨hlis,hks⟩:=h1 k e hk hdt hki;obtain⟨o,ho,hok⟩:=op_of k e hk;have hra:=I.at_ k hlis e t hk hdt;have hmem:e∈E.take i:=Cf (i:=k) (by rw[Bc,Ad hki];exact hk);have huE:∀e'∈E.take i,e'.d=some t->e'=e:=fun e' he' hd'=>by
   obtain⟨k',hk'⟩:=Bi.1 he';have hk'':=(inE k' e' (by rw[qm];exact hk')).1;have:=uniq k k' e e' hk hk'' hdt hd';subst this;rw[hk]at hk'';exact(BB hk'').symm
  cases hv:e.v with
  | some x=>
   have hx:vals k=x:=hok.v x hv _ _ (I.φ k hlis e hk);rw[qol,q28 _ _ (fun e' he' hd'=>by rw[huE e' he' hd'];exact hv) (.inr ⟨e,hmem,hdt⟩),hra,hx];intro k' _ φ hk';have:=huE _ (Cf (i:=k') (by rw[qm]at hk';exact hk')) rfl;rw[<-this]at hv;cases hv
  | none=>
   obtain⟨ed,ev,eφ⟩:=e;simp only at hdt hv;subst hdt hv;rw[q71 (k0:=k) rfl (fun k' φ hk'=>?_) _ _ (.inr ⟨hks rfl,eφ,by rw[qm,Bc,Ad hki];exact hk⟩),hra];exact uniq k k' _ _ hk (inE k' _ hk').1 rfl rfl
 ·have hno:∀k e,E[k]?=some e->k<i->e.d≠some t:=fun k e hk hki hd=>hex ⟨k,e,hk,hd,hki⟩
  rw[qol,qwx]
  ·refine(I.miss t fun k hk e he hd=>?_).symm;exact hno k e he (h2 k e he hd hk) hd
  ·intro e he hd;obtain⟨k',hk'⟩:=Bi.1 he;obtain⟨h3,h4⟩:=inE k' e (by rw[qm];exact hk');exact absurd hd (hno k' e h3 h4)
  ·intro k' _ φ hk';obtain⟨h3,h4⟩:=inE k' _ hk';exact hno k' _ h3 h4 rfl
theorem q2c{ρ1 ρ2:EB}(hsel:∀cs b,o.op≠.select cs b)(h:∀t∈o.looksAt ops,ρ1 t=ρ2 t):execOp (ev ρ1) o=execOp (ev ρ2) o:=by
 refine execOp_congr o hsel fun x hx=>?_;cases x with
 | tmp t=>exact h t (Bb _ (List.mem_filterMap.2 ⟨.tmp t,by simpa using hx,rfl⟩))
 | const v=>rfl
 | global g=>rfl
 | func f=>rfl
theorem qhi{want:Bool}(hg:o.guard=some (j,want))(hj:ops[j]?=some oj)(hd:oj.dst=some d):d∈o.looksAt ops:=by
 refine Ai _ ?_;simp[hg,hj,hd]
theorem qe6{ρ':EB}(hi:ops[i]?=some o)(hS:ShapeP n ops)(ha:St n ρa a)(hag:∀t∈o.looksAt ops,ρ' t=ρa t)(h:qb2 P ops.toList o ρ' w K)(hk:∀v w',K v w'->K2 (a.put o.dst v) w'):wpOp P ops Q' i K2 a w:=by
 have hsel:=Region.noSelect_spec hS.sel i o;have run:opV P o ρ' w K->Region.wanted o (yielded ops a.tmps)=true->wpOp P ops Q' i K2 a w:=fun h hw=>by
  unfold wpOp;rw[hi];simp only[hw,if_true];have hok:=qwg h;rw[q2c (ops:=ops) (fun cs b=>hsel cs b hi) hag]at hok;exact .inl (OpOk.wp ha.eval hok hk)
 have skip:K undef w->Region.wanted o (yielded ops a.tmps)=false->wpOp P ops Q' i K2 a w:=fun h hw=>by
  unfold wpOp;rw[hi];simp only[hw,CF,if_false];exact hk _ _ h
 unfold qb2 at h
 split at h
 ·rename_i hg
  exact run h (by simp[Region.wanted,hg])
 ·rename_i j want hg
  split at h
  ·rename_i hj
   rw[qm]at hj;have:ops[j]?=none:=by simpa using hj
   exact skip h (by simp[Region.wanted,hg,yielded,this])
  ·rename_i oj hj
   have hj':=hj;rw[qm]at hj';have hoj:ops[j]?=some oj:=by simpa using hj'
   split at h
   ·rename_i hd
    exact skip h (by simp[Region.wanted,hg,yielded,hoj,hd])
   ·rename_i d hd
    have hy:=ha.yield hj hd (hS.dn j oj hoj d hd);rw[Array.toArray_toList]at hy;rw[hag d (qhi hg hoj hd)]at h
    split at h
    ·rename_i b hb
     rw[hb]at hy;cases b
     ·have h:=h.f rfl;cases want
      ·exact run h (by simp[Region.wanted,hg,hy])
      ·exact skip h (by simp[Region.wanted,hg,hy])
     ·have h:=h.t rfl;cases want
      ·exact skip h (by simp[Region.wanted,hg,hy])
      ·exact run h (by simp[Region.wanted,hg,hy])
    ·rename_i hb
     refine skip h ?_;have:yielded ops a.tmps j=none:=by
      rw[hy]
      split
      ·rename_i b hb';exact absurd hb' (hb b)
      ·rfl
     simp[Region.wanted,hg,this]
theorem qc(m j:Nat):(Array.replicate m false).getD j false=false:=by
 rcases AX j m with h|h
 ·simp[h]
 ·simp[h]
theorem countP_set(listed:Array Bool)(i:Nat)(hi:listed.getD i true=false):(listed.setIfInBounds i true).toList.count false+1=listed.toList.count false:=by
 have hlt:i<listed.toList.length:=by
  rcases AX i listed.size with h|h
  ·simpa using h
  ·simp[Bd h]at hi
 have hv:listed.toList[i]=false:=by
  have h':i<listed.size:=by simpa using hlt
  simpa[h']using hi
 rw[Co];have:∀(l:List Bool) (i:Nat) (h:i<l.length),l[i]=false->(l.set i true).count false+1=l.count false:=by
  intro l
  induction l with
  | nil=>intro i h;simp at h
  | cons b l ih=>
   intro i h hb;cases i with
   | zero=>simp at hb;subst hb;simp
   | succ i=>
    have:=ih i (by simpa using h) (by simpa using hb);cases b<;>simp<;>omega
 exact this _ _ hlt hv
theorem qnm{Q:EB->EC}(hQ:∀ρ a w,St n ρ a->Q ρ w->Q' .normal a w)(hS:ShapeP n ops)(hl:E.length=ops.size)(hE:∀(i:Nat) (o:Oper) (e:Ent),ops[i]?=some o->E[i]?=some e->EntOk e o/\
   ∀w,Ext w0 w->allv (E.take i) (qu o) (sfr (E.take i) ρ) w fun ρ'=>qb2 P ops.toList o ρ' w fun v w'=>Ext w w'/\e.φ v w')(hF:∃ks:EF,(∀k d φ,getL E k=some ⟨some d,none,φ⟩->k∈ks)/\∀w,Ext w0 w->allv E ks (sfr E ρ) w fun ρ'=>Q ρ' w):
  ∀(fuel:Nat) (listed:Array Bool) (vals ρa:EB) (a:Act) (w:Ez),listed.size=ops.size->listed.toList.count false<=fuel->InvD n E w0 ρ listed vals ρa a w->wpAny P .any ops Q' fuel listed a w:=by
 obtain⟨ks,hks,hF⟩:=hF;have hd:∀(i:Nat) (o:Oper) (e:Ent),ops[i]?=some o->E[i]?=some e->EntOk e o:=fun i o e h1 h2=>(hE i o e h1 h2).1
 have hlt:∀(k:Nat) (e:Ent),E[k]?=some e->k<ops.size:=fun k e hk=>by
  rw[<-hl]
  rcases AX k E.length with h|h
  ·exact h
  ·rw[Au h]at hk;cases hk
 have final:∀(listed:Array Bool) (vals ρa:EB) (a:Act) (w:Ez),(∀k,k<ops.size->listed.getD k false=true)->InvD n E w0 ρ listed vals ρa a w->Q' .normal a w:=fun listed vals ρa a w hall I=>by
  have h:=qnr (vals:=vals) _ _ (fun k _ e hk=>by
   rw[qm]at hk;exact I.φ k (hall k (hlt k e hk)) e hk) (hF w I.ext)
  have he:fr E vals ks (sfr E ρ)=ρa:=by
   funext t
   have:=qdl hd hl hS I E.length ks t (fun k e hk hdt hki=>⟨hall k (hlt k e hk),fun hv=>hks k t e.φ (by
    obtain⟨ed,ev,eφ⟩:=e;simp only at hdt hv;subst hdt hv;rw[qm];exact hk)⟩) (fun k e hk _ _=>by rw[hl];exact hlt k e hk)
   rwa[Bg]at this
  rw[he]at h;exact hQ _ _ _ I.st h
 have nodone:∀(listed:Array Bool),listed.size=ops.size->Region.ready .any ops listed=[]->∀k,k<ops.size->listed.getD k false=true:=fun listed hsz hr k hk=>by
  induction k using Nat.strongRecOn with
  | _ k ih=>
   cases hv:listed.getD k false with
   | true=>rfl
   | false=>
    exfalso
    have hmem:k∈Region.ready .any ops listed:=by
     refine mem_ready.2 ⟨?_,ops[k],Aj hk,fun e he hb=>?_⟩
     ·have:k<listed.size:=by omega
      simp[this]at hv|-;exact hv
     ·rw[qau]at hb;have hp:e.on∈qu ops[k]:=qab.2 ⟨e,by simpa using he,hb,rfl⟩;have h1:=hS.lt k _ (Aj hk) _ hp;exact ih _ h1 Oo
    rw[hr]at hmem;cases hmem
 intro fuel
 induction fuel with
 | zero=>
  intro listed vals ρa a w hsz hc I;have hall:∀k,k<ops.size->listed.getD k false=true:=fun k hk=>by
   have h0:listed.toList.count false=0:=by omega
   have h1:=CG.1 h0;have hk':k<listed.size:=by omega
   cases hv:listed[k]with
   | true=>simp[hk',hv]
   | false=>exact absurd (by rw[<-hv];exact Cg.2 (CL hk')) h1
  refine⟨?_,final listed vals ρa a w hall I⟩;rw[D1];intro j hj;obtain⟨h1,o,ho,_⟩:=mem_ready.1 hj;have h2:=hall j (AS.1 ho).1;have hk':j<listed.size:=by have:=(AS.1 ho).1;omega
  simp[hk']at h1 h2;rw[h1]at h2;cases h2
 | succ fuel ih=>
  intro listed vals ρa a w hsz hc I;refine⟨fun hr=>final listed vals ρa a w (nodone listed hsz hr) I,fun i hi=>?_⟩;obtain⟨hun,o,ho,hall⟩:=mem_ready.1 hi;have hio:i<ops.size:=(AS.1 ho).1;have hiE:i<E.length:=by omega
  obtain⟨hok,hspec⟩:=hE i o E[i] ho (Bo hiE);have hpl:∀k∈qu o,listed.getD k false=true:=fun k hk=>by
   obtain⟨e,he,hb,hon⟩:=qab.1 hk;rw[<-hon];exact hall e (by simpa using he) (by rw[qau];exact hb)
  have h:=qnr (vals:=vals) _ _ (fun k hk e he=>by
   rw[qm,Bc,Ad (hS.lt i o ho k hk)]at he;exact I.φ k (hpl k hk) e he) (hspec w I.ext)
  have hag:∀t∈o.looksAt ops,fr (E.take i) vals (qu o) (sfr (E.take i) ρ) t=ρa t:=fun t ht=>by
   have hp:∀(k:Nat) (e:Ent),E[k]?=some e->e.d=some t->k∈qu o:=fun k e hk hdt=>by
    have hk':=hlt k e hk;exact hS.look i o k ops[k] t ho (Aj hk') ((hd k _ e (Aj hk') hk).d ▸ hdt) ht
   exact qdl hd hl hS I i (qu o) t (fun k e hk hdt _=>⟨hpl k (hp k e hk hdt),fun _=>hp k e hk hdt⟩) (fun k e hk hdt _=>hS.lt i o ho k (hp k e hk hdt))
  refine qe6 ho hS I.st hag h fun v w' ⟨hx,hφ⟩=>?_;have hgd:∀k,(listed.setIfInBounds i true).getD k false=true->k=i\/(k≠i/\listed.getD k false=true):=fun k hk=>by
   by_cases hki:k=i
   ·exact .inl hki
   ·rw[getD_set_ne false (fun e=>hki e.symm)]at hk;exact .inr ⟨hki,hk⟩
  have hnl:listed.getD i false=false:=by
   have:i<listed.size:=by omega
   simp[this]at hun|-;exact hun
  refine ih _ (fun k=>if k=i then v else vals k) (match o.dst with|some d=>upd ρa d v|none=>ρa) _ _ (by simp[hsz]) (by have:=countP_set listed i hun;omega) ⟨I.ext.trans hx,?_,?_,?_,?_⟩
  ·cases hdd:o.dst with
   | none=>exact I.st
   | some d=>exact I.st.put (hS.dn i o ho d hdd) v
  ·intro k hk e he
   rcases hgd k hk with rfl|⟨hki,hk⟩
   ·rw[Bo hiE]at he;cases he
    simpa using hφ
   ·simp only[Aa hki];have hk':=hlt k e he;exact(hd k _ e (Aj hk') he).st _ _ _ (I.φ k hk e he) hx
  ·intro k hk e d he hdd
   rcases hgd k hk with rfl|⟨hki,hk⟩
   ·rw[Bo hiE]at he;cases he;rw[hok.d]at hdd;simp[hdd,qet]
   ·simp only[Aa hki];have hk':=hlt k e he;have hd2:=(hd k _ e (Aj hk') he).d;cases ho2:o.dst with
    | none=>exact I.at_ k hk e d he hdd
    | some d2=>
     have hne:d≠d2:=by
      rintro rfl;exact hki (hS.uniq i o k _ d ho (Aj hk') (hd2 ▸ hdd) ho2)
     simp only;rw[qaq _ _ _ _ hne];exact I.at_ k hk e d he hdd
  ·intro t ht;have h1:ρa t=ρ t:=I.miss t fun k hk e he=>ht k (by
    by_cases hki:k=i
    ·subst hki;rw[hnl]at hk;cases hk
    ·rw[getD_set_ne false (fun e=>hki e.symm)];exact hk) e he
   cases ho2:o.dst with
   | none=>exact h1
   | some d2=>
    have hne:t≠d2:=by
     rintro rfl;refine ht i ?_ E[i] (Bo hiE) (by rw[hok.d,ho2]);have:i<listed.size:=by omega
     simp[this]
    simp only;rw[qaq _ _ _ _ hne];exact h1
end
theorem DrawV.free{n:Nat}{Q:Exit->EB->EC}(hm:P.follows .mixedOrders=true)(hB:qjt n ops=true)(h:regD P ops.toList w.drew (fun ρ' w'=>Q .normal ρ' w') ops.toList 0 [] ρ):DrawV P n id ops Q ρ w:=by
 refine⟨fun a ha=>wp_region_any hm ?_⟩;obtain⟨E,h1,h2,h3⟩:=qkj ops.toList [] [] ρ (fun k=>rfl) h;refine qnm (Q:=fun ρ' w'=>Q .normal ρ' w') (E:=E) (w0:=w.drew) (ρ:=ρ) (fun ρ a w h1 h2=>⟨ρ,h1,h2⟩) (qd4 hB) (by simpa using h1) (fun i o e ho he=>?_) (by simpa using h3) _ _ (fun _=>undef) ρ a _ Js Js ⟨Ext.refl _,ha,?_,?_,fun t _=>rfl⟩
 ·have:=h2 i o e (by simpa using ho) he
  simpa using this
 ·intro k hk;rw[qc]at hk;cases hk
 ·intro k hk;rw[qc]at hk;cases hk
end V
namespace V
def resC(P:E4)(ρ:EB)(w:Ez):List ResultVar->(EE->Prop)->Prop
 | [],K=>K []
 | .tmp t::l,K=>qis (ρ t) fun v=>resC P ρ w l fun vs=>K (v::vs)
 | .cell c ty::l,K=>qxx P ty (ρ c) w fun v=>resC P ρ w l fun vs=>K (v::vs)
def one(vs:EE):E8:=
 match vs with
 | [v]=>v
 | l=>.tuple l.toArray
theorem qxy{t:E6}{K:E8->Prop}(h:qxx P t x w K):∃v,(do loadVar t (<-asAddr x):Sem E8).run P w=.ok v w/\K v:=by
 unfold qxx at h
 split at h
 ·rename_i d b off hu
  cases ha:aggD d<;>rw[ha]at h
  ·obtain⟨v,hv,hk⟩:=h;rw[qbk]at hk;refine⟨v,?_,hk⟩;simp[asAddr,loadVar,qd1 hu,ha,go_sem,hv]
  ·cases hT:hasT P t<;>rw[hT]at h
   ·exact h.elim
   ·obtain⟨cs,hl,hc,hk⟩:=h;rw[qai]at hk;refine⟨_,?_,hk⟩;have:=run_loadCells_list (P:=P) w ⟨b,off,none⟩ cs (fun j v hv=>by
     have hj:j<cs.length:=by
      rcases AX j cs.length with h|h
      ·exact h
      ·rw[Au h]at hv;cases hv
     rw[qan,hc j Oo];exact hv)
    simp[asAddr,loadVar,qd1 hu,ha,q8 hT,<-hl,this]
 ·exact h.elim
theorem qabr{tmps:EH}(hρ:∀t,tmps.getD t undef=ρ t)(l:List ResultVar):∀K:EE->Prop,resC P ρ w l K->
  ∃vs,(l.mapM (resF tmps)).run P w=.ok vs w/\K vs:=by
 induction l with
 | nil=>intro K h;exact⟨[],by simp,h⟩
 | cons x l ih=>
  intro K h;cases x with
  | tmp t=>
   simp only[resC,qbk]at h;obtain⟨vs,h1,h2⟩:=ih _ h;exact⟨ρ t::vs,by rw[En];simp only[Sem.run_bind,resF,Sem.run_pure,Result.andThen_ok,hρ];rw[h1];rfl,h2⟩
  | cell c ty=>
   simp only[resC]at h;obtain⟨v,hv,hk⟩:=qxy h;obtain⟨vs,h1,h2⟩:=ih _ hk;refine⟨v::vs,?_,h2⟩;have e:resF tmps (.cell c ty)=(do loadVar ty (<-asAddr (ρ c))):=by rw[<-hρ];rfl
   rw[En,Sem.run_bind,e,hv,Result.andThen_ok,Sem.run_bind,h1];rfl
theorem qh{n:Nat}{fn:Func}(h:resC P ρ w fn.results.toList fun vs=>R (one vs) w):
  ∀a,St n ρ a->∃v,(results fn a.tmps).run P w=.ok v w/\R v w:=by
 intro a ha;obtain⟨vs,h1,h2⟩:=qabr ha.get fn.results.toList _ h;refine⟨one vs,?_,h2⟩;have e:results fn a.tmps=(do let vs <-fn.results.mapM (resF a.tmps);pure (if h:vs.size=1 then vs[0]else .tuple vs)):=by
  unfold results;congr 1
 rw[e,Do];simp[h1]
 match vs with
 | [v]=>rfl
 | []=>rfl
 | v::u::l=>simp[one]
end V
namespace V
structure Chg(w w':Ez)(B:List (Option Nat)):Prop where
 os:w'.os=w.os
 tape:w'.tape=w.tape
 output:w'.output=w.output
 size:w.heap.size<=w'.heap.size
 block:∀k,k<w.heap.size->some k∉B->w'.heap[k]?=w.heap[k]?
theorem Chg.ext{B:List (Option Nat)}(h:Ext w w'):Chg w w' B:=⟨h.os,h.tape,h.output,h.size,fun k hk _=>h.block k hk⟩
structure EntO where
 d:Option Tmp
 v:Option E8
 u:Option Nat
 φ:E8->Ez->Prop
def EntO.plain(e:EntO):Ent:=⟨e.d,e.v,fun x _=>∀c,e.v=some c->x=c⟩
def q5o(u:Option Nat)(i:Option Nat):Bool:=
 match u with
 | none=>true
 | some a=>match i with
  | none=>false
  | some b=>Nat.beq a b
abbrev AL:=List (Nat×Nat×Option Nat×E9)
def qgc:AL->Nat->Option (Nat×Option Nat×E9)
 | [],_=>none
 | (i,x)::es,k=>bif Nat.beq i k then some x else qgc es k
def allO(base:Nat)(es:AL)(i:Option Nat):EF->EB->Ez->(EB->Prop)->Prop
 | [],ρ,_,K=>K ρ
 | k::ks,ρ,w,K=>
  match qgc es k with
  | some (d,u,φ)=>bif q5o u i then ∀v,φ v w->(∀g,v.ownBlock=some g->base<=g/\g<w.heap.size)->allO base es i ks (upd ρ d v) w K else ∀v,allO base es i ks (upd ρ d v) w K
  | none=>allO base es i ks ρ w K
def qj5(es:AL)(i:Nat):EF->EB->List (Option Nat)
 | [],_=>[]
 | k::ks,ρ=>
  match qgc es k with
  | some (d,u,_)=>match u with
   | some j=>bif Nat.beq j i then(ρ d).ownBlock::qj5 es i ks ρ else qj5 es i ks ρ
   | none=>qj5 es i ks ρ
  | none=>qj5 es i ks ρ
def idxO:AL->EF
 | []=>[]
 | (i,_)::es=>i::idxO es
def qyi(k:Nat)(u:Option Nat)(φ:E9)(es:AL):Option Tmp->Option E8->AL
 | some d,none=>(k,d,u,φ)::es
 | _,_=>es
def Loc(base:Nat)(φ:E9):Prop:=
 ∀v w w',φ v w->(∀k,k<w.heap.size->(k<base\/v.ownBlock=some k)->w'.heap[k]?=w.heap[k]?)->w.heap.size<=w'.heap.size->φ v w'
def PostO(w:Ez)(B:List (Option Nat))(still:Bool)(φ:E9)(v:E8)(w':Ez):Prop:=
 Chg w w' B/\φ v w'/\(still=false->∀g,v.ownBlock=some g->g<w'.heap.size/\(some g∈B\/w.heap.size<=g))
structure StepO(base:Nat)(A:Bool->E9->Prop)(K:Option E8->Option Nat->E9->Prop):Prop where
 h:(∃v,A true (fun u _=>u=v)/\K (some v) none (fun u _=>u=v))\/(∃u φ,Loc base φ/\A false φ/\K none u φ)
theorem StepO.still{A:Bool->E9->Prop}{K:Option E8->Option Nat->E9->Prop}(v:E8)(h:A true (fun u _=>u=v))(hk:K (some v) none (fun u _=>u=v)):StepO base A K:=⟨.inl ⟨v,h,hk⟩⟩
def regO(P:E4)(ops:List Oper)(w0:Ez)(Q:EB->EC):List Oper->Nat->AL->EB->Prop
 | [],_,_,_=>False
 | [o],k,es,ρ=>∀w,Ext w0 w->allO w0.heap.size es (some k) (idxO es) ρ w fun ρ'=>qb2 P ops o ρ' w fun v w'=>Q (updO ρ' o.dst (some v)) w'
 | o::l,k,es,ρ=>StepO w0.heap.size
   (fun still φ=>∀w,Ext w0 w->allO w0.heap.size es (some k) (qu o) ρ w fun ρ'=>qb2 P ops o ρ' w (PostO w (qj5 es k (qu o) ρ') still φ))
   (fun v u φ=>regO P ops w0 Q l (k+1) (qyi k u φ es o.dst v) (updO ρ o.dst v))
structure EntOkO(base:Nat)(e:EntO)(o:Oper):Prop where
 d:e.d=o.dst
 loc:Loc base e.φ
 st:e.v≠none->∀x w w',e.φ x w->e.φ x w'
 v:∀c,e.v=some c->∀x w,e.φ x w->x=c
def AgreeO(es:AL)(F:List EntO):Prop:=
 ∀k,(match getL F k with|some ⟨some d,none,u,φ⟩=>qgc es k=some (d,u,φ)|_=>qgc es k=none)
theorem AgreeO.look{es:AL}{F:List EntO}(h:AgreeO es F){u:Option Nat}{φ:E9}:qgc es k=some (d,u,φ)↔F[k]?=some ⟨some d,none,u,φ⟩:=by
 have hk:=h k;rw[qm]at hk
 constructor
 ·intro hl
  split at hk
  ·rename_i d' u' φ' hg
   rw[hk]at hl;cases hl;exact hg
  ·rw[hk]at hl;cases hl
 ·intro hg;rw[hg]at hk;exact hk
theorem q5z{es:AL}{x:Nat×Option Nat×E9}(h:qgc es k=some x):k∈idxO es:=by
 induction es with
 | nil=>cases h
 | cons y es ih=>
  obtain⟨i,z⟩:=y;simp only[qgc]at h;cases hb:Nat.beq i k<;>rw[hb]at h
  ·exact BV _ (ih h)
  ·rw[Bl hb];exact AK ..
theorem AgreeO.push{es:AL}{F:List EntO}(h:AgreeO es F)(dst:Option Tmp)(v:Option E8)(u:Option Nat)(φ:E9):AgreeO (qyi F.length u φ es dst v) (F++[⟨dst,v,u,φ⟩]):=by
 intro k;have hk:=h k;have hg:∀k,k<F.length->getL (F++[⟨dst,v,u,φ⟩]) k=getL F k:=fun k hk=>by rw[qm,qm,AQ hk]
 have hlast:getL (F++[⟨dst,v,u,φ⟩]) F.length=some ⟨dst,v,u,φ⟩:=by rw[qm,AR (Aq _)];simp
 have hnone:∀k,F.length<=k->getL F k=none:=fun k hk=>by rw[qm,Au hk]
 have hout:∀k,F.length<k->getL (F++[⟨dst,v,u,φ⟩]) k=none:=fun k hk=>by rw[qm,Au Ys]
 have hL:qgc es F.length=none:=by have:=h F.length;rw[hnone _ (Aq _)]at this;exact this
 have other:k≠F.length->qgc (qyi F.length u φ es dst v) k=qgc es k:=fun hne=>by
  unfold qyi
  split
  ·have:Nat.beq F.length k=false:=Bx.2 fun e=>hne (Bl e).symm
   simp only[qgc,this,cond_false]
  ·rfl
 rcases Dv k F.length with hlt|rfl|hgt
 ·rw[hg k hlt,other Oo];exact hk
 ·rw[hlast];have hrefl:Nat.beq F.length F.length=true:=by simp
  cases dst with
  | none=>exact hL
  | some d=>
   cases v with
   | none=>simp only[qyi,qgc,hrefl,cond_true]
   | some v=>exact hL
 ·rw[hout k hgt,other Oo];rw[hnone k Oo]at hk;exact hk
section
variable {P:E4} {n:Nat} {ops:List Oper} {w0:Ez}
def q83(P:E4)(ops:List Oper)(w0:Ez)(F:List EntO)(ρ0:EB)(i:Nat)(o:Oper)(e:EntO):Prop:=
 EntOkO w0.heap.size e o/\∃es,AgreeO es (F.take i)/\∀w,Ext w0 w->allO w0.heap.size es (some i) (qu o) (sfr ((F.take i).map EntO.plain) ρ0) w fun ρ'=>
  qb2 P ops o ρ' w (PostO w (qj5 es i (qu o) ρ') e.v.isSome e.φ)
theorem q6m{Q:EB->EC}(l:List Oper):∀(es:AL) (F:List EntO) (ρ0:EB),AgreeO es F->regO P ops w0 Q l F.length es (sfr (F.map EntO.plain) ρ0)->
  ∃(E:List EntO) (o:Oper),E.length+1=l.length/\l[E.length]?=some o/\(∀i o' e,l[i]?=some o'->E[i]?=some e->q83 P ops w0 (F++E) ρ0 (F.length+i) o' e)/\
   ∃es',AgreeO es' (F++E)/\∀w,Ext w0 w->allO w0.heap.size es' (some (F++E).length) (idxO es') (sfr ((F++E).map EntO.plain) ρ0) w fun ρ'=>
    qb2 P ops o ρ' w fun v w'=>Q (updO ρ' o.dst (some v)) w':=by
 induction l with
 | nil=>intro es F ρ0 _ h;exact h.elim
 | cons o l ih=>
  intro es F ρ0 hAg h;cases l with
  | nil=>
   refine⟨[],o,rfl,rfl,fun i o' e _ he=>by simp at he,es,by simpa using hAg,?_⟩
   simpa[regO]using h
  | cons o2 l=>
   have key:∀(v:Option E8) (u:Option Nat) (φ:E9),EntOkO w0.heap.size ⟨o.dst,v,u,φ⟩ o->
     (∀w,Ext w0 w->allO w0.heap.size es (some F.length) (qu o) (sfr (F.map EntO.plain) ρ0) w fun ρ'=>qb2 P ops o ρ' w (PostO w (qj5 es F.length (qu o) ρ') v.isSome φ))->
     regO P ops w0 Q (o2::l) (F.length+1) (qyi F.length u φ es o.dst v) (updO (sfr (F.map EntO.plain) ρ0) o.dst v)->
     ∃(E:List EntO) (o':Oper),E.length+1=(o::o2::l).length/\(o::o2::l)[E.length]?=some o'/\(∀i o' e,(o::o2::l)[i]?=some o'->E[i]?=some e->q83 P ops w0 (F++E) ρ0 (F.length+i) o' e)/\
      ∃es',AgreeO es' (F++E)/\∀w,Ext w0 w->allO w0.heap.size es' (some (F++E).length) (idxO es') (sfr ((F++E).map EntO.plain) ρ0) w fun ρ'=>
       qb2 P ops o' ρ' w fun v w'=>Q (updO ρ' o'.dst (some v)) w':=fun v u φ hok hA hK=>by
    have e1:updO (sfr (F.map EntO.plain) ρ0) o.dst v=sfr ((F++[(⟨o.dst,v,u,φ⟩:EntO)]).map EntO.plain) ρ0:=by rw[AB,qf5];rfl
    have e2:F.length+1=(F++[(⟨o.dst,v,u,φ⟩:EntO)]).length:=by simp
    rw[e1,e2]at hK;obtain⟨E,o',h1,h2,h3,es',h4,h5⟩:=ih _ _ ρ0 (hAg.push o.dst v u φ) hK;refine⟨⟨o.dst,v,u,φ⟩::E,o',by simp only[As]at h1|-;omega,by simpa using h2,fun i o' e hi he=>?_,es',by simpa using h4,by simpa using h5⟩;cases i with
    | zero=>
     simp at hi he;subst hi he;refine⟨hok,es,by simpa using hAg,?_⟩
     simpa using hA
    | succ i=>
     simp at hi he;have:=h3 i o' e hi he
     simpa[C7,CB 1 i]using this
   obtain⟨v,hA,hK⟩|⟨u,φ,hl,hA,hK⟩:=h.h
   ·exact key (some v) none _ ⟨rfl,fun _ _ _ h _ _=>h,fun _ _ _ _ h=>h,fun c hc x w hx=>by cases hc;exact hx⟩ hA hK
   ·exact key none u φ ⟨rfl,hl,fun h=>absurd rfl h,fun c hc=>by cases hc⟩ hA hK
theorem qro{F:List EntO}:getL (F.map EntO.plain) k=(F[k]?).map EntO.plain:=by rw[qm,Ao]
theorem qzn{es:AL}{i:Option Nat}{F:List EntO}{K:EB->Prop}(hA:AgreeO es F):∀(ks:EF) (ρ:EB),
  (∀k∈ks,∀e,F[k]?=some e->e.v=none->q5o e.u i=true->e.φ (vals k) w/\∀g,(vals k).ownBlock=some g->base<=g/\g<w.heap.size)->allO base es i ks ρ w K->K (fr (F.map EntO.plain) vals ks ρ):=by
 intro ks
 induction ks with
 | nil=>intro ρ _ h;exact h
 | cons k ks ih=>
  intro ρ hv h;have hv':=fun k' (hk':k'∈ks)=>hv k' (BV _ hk')
  unfold allO at h;rw[fr];cases hl:qgc es k with
  | none=>
   rw[hl]at h;rw[qkb]
   ·exact ih _ hv' h
   ·intro d φ hg;rw[qro]at hg;obtain⟨e,he,hp⟩:=DW.1 hg;obtain⟨ed,ev,eu,eφ⟩:=e;simp only[EntO.plain,Ent.mk.injEq]at hp;obtain⟨h1,h2,_⟩:=hp;subst h1 h2;rw[hA.look.2 he]at hl;cases hl
  | some x=>
   obtain⟨d,u,φ⟩:=x;have hg:=hA.look.1 hl;rw[hl]at h;simp only at h;rw[qhb (d:=d) (φ:=(EntO.plain ⟨some d,none,u,φ⟩).φ) (by rw[qro,hg];rfl)];cases hb:q5o u i<;>rw[hb]at h
   ·exact ih _ hv' (h _)
   ·obtain⟨h1,h2⟩:=hv k (AK ..) _ hg rfl hb;exact ih _ hv' (h _ h1 h2)
theorem q3v{es:AL}:∀ks,some g∈qj5 es i ks ρ->∃k d φ,k∈ks/\qgc es k=some (d,some i,φ)/\(ρ d).ownBlock=some g:=by
 intro ks
 induction ks with
 | nil=>intro h;cases h
 | cons k ks ih=>
  intro h;have next:some g∈qj5 es i ks ρ->∃k' d φ,k'∈k::ks/\qgc es k'=some (d,some i,φ)/\(ρ d).ownBlock=some g:=fun h=>by
   obtain⟨k',d,φ,h1,h2,h3⟩:=ih h;exact⟨k',d,φ,BV _ h1,h2,h3⟩
  unfold qj5 at h
  split at h
  ·rename_i d u φ hl
   split at h
   ·rename_i j
    cases hb:Nat.beq j i<;>rw[hb]at h
    ·exact next h
    ·have:=Bl hb;subst this
     rcases AD.1 h with h|h
     ·exact⟨k,d,φ,AK ..,hl,h.symm⟩
     ·exact next h
   ·exact next h
  ·exact next h
structure InvO(F:List EntO)(w0:Ez)(listed:Array Bool)(vals:EB)(w:Ez):Prop where
 φ:∀(k:Nat) (e:EntO),F[k]?=some e->listed.getD k false=true->(∀j,e.u=some j->listed.getD j false=false)->e.φ (vals k) w
 own:∀(k:Nat) (e:EntO) (g:Nat),F[k]?=some e->e.v=none->listed.getD k false=true->(∀j,e.u=some j->listed.getD j false=false)->(vals k).ownBlock=some g->w0.heap.size<=g/\g<w.heap.size
 apart:∀(k k':Nat) (e e':EntO) (g:Nat),F[k]?=some e->F[k']?=some e'->e.v=none->e'.v=none->listed.getD k false=true->listed.getD k' false=true->
  (∀j,e.u=some j->listed.getD j false=false)->(∀j,e'.u=some j->listed.getD j false=false)->k≠k'->(vals k).ownBlock=some g->(vals k').ownBlock≠some g
theorem qk0{u:Option Nat}(h:q5o u (some i)=true)(hi:listed.getD i false=false):∀j,u=some j->listed.getD j false=false:=by
 intro j hj;subst hj;have:j=i:=Bl h;rw[this];exact hi
end
theorem qzf{md:Region.Mode}{Q:Exit->Act->EC}(hr:Region.ready md ops listed=[])(h:Q .normal a w):∀fuel,wpAny P md ops Q fuel listed a w
 | 0=>⟨hr,h⟩
 | _+1=>⟨fun _=>h,by rw[hr];simp⟩
theorem qfi{md:Region.Mode}(h:∀k,k<ops.size->listed.getD k true=true):Region.ready md ops listed=[]:=by
 rw[D1];intro j hj;obtain⟨h1,o,ho,_⟩:=mem_ready.1 hj;rw[h j (AS.1 ho).1]at h1;cases h1
theorem qi9{n:Nat}(hS:ShapeP n ops)(hsz:listed.size=ops.size)(hr:Region.ready .any ops listed=[])(k:Nat)(hk:k<ops.size):listed.getD k false=true:=by
 induction k using Nat.strongRecOn with
 | _ k ih=>
  cases hv:listed.getD k false with
  | true=>rfl
  | false=>
   exfalso
   have hmem:k∈Region.ready .any ops listed:=by
    refine mem_ready.2 ⟨?_,ops[k],Aj hk,fun e he hb=>?_⟩
    ·have:k<listed.size:=by omega
     simp[this]at hv|-;exact hv
    ·rw[qau]at hb;have hp:e.on∈qu ops[k]:=qab.2 ⟨e,by simpa using he,hb,rfl⟩;have h1:=hS.lt k _ (Aj hk) _ hp;exact ih _ h1 Oo
   rw[hr]at hmem;cases hmem
theorem qb4(hi:i<listed.size):listed.getD i true=listed.getD i false:=by simp[hi]
theorem InvD.step{n:Nat}{E:List Ent}{e:Ent}{v:E8}(hS:ShapeP n ops)(hl:E.length=ops.size)(hd:∀(i:Nat) (o:Oper) (e:Ent),ops[i]?=some o->E[i]?=some e->EntOk e o)(hfree:∀(k:Nat) (e:Ent),E[k]?=some e->∀x w w',e.φ x w->e.φ x w')(I:InvD n E w0 ρ listed vals ρa a w)(hsz:listed.size=ops.size)(ho:ops[i]?=some o)(he:E[i]?=some e)(hun:listed.getD i false=false)(hx:Ext w0 w')(hφ:e.φ v w'):
  InvD n E w0 ρ (listed.setIfInBounds i true) (fun k=>if k=i then v else vals k) (match o.dst with|some d=>upd ρa d v|none=>ρa) (a.put o.dst v) w':=by
 have hio:i<ops.size:=(AS.1 ho).1;have hok:=hd i o e ho he;have hlt:∀(k:Nat) (e:Ent),E[k]?=some e->k<ops.size:=fun k e hk=>by
  rw[<-hl]
  rcases AX k E.length with h|h
  ·exact h
  ·rw[Au h]at hk;cases hk
 have hgd:∀k,(listed.setIfInBounds i true).getD k false=true->k=i\/(k≠i/\listed.getD k false=true):=fun k hk=>by
  by_cases hki:k=i
  ·exact .inl hki
  ·rw[getD_set_ne false (fun e=>hki e.symm)]at hk;exact .inr ⟨hki,hk⟩
 refine⟨hx,?_,?_,?_,?_⟩
 ·cases hdd:o.dst with
  | none=>exact I.st
  | some d=>exact I.st.put (hS.dn i o ho d hdd) v
 ·intro k hk e' he'
  rcases hgd k hk with rfl|⟨hki,hk⟩
  ·rw[he]at he';cases he'
   simpa using hφ
  ·simp only[Aa hki];exact hfree k e' he' _ _ _ (I.φ k hk e' he')
 ·intro k hk e' d he' hdd
  rcases hgd k hk with rfl|⟨hki,hk⟩
  ·rw[he]at he';cases he';rw[hok.d]at hdd;simp[hdd,qet]
  ·simp only[Aa hki];have hk':=hlt k e' he';have hd2:=(hd k _ e' (Aj hk') he').d;cases ho2:o.dst with
   | none=>exact I.at_ k hk e' d he' hdd
   | some d2=>
    have hne:d≠d2:=by
     rintro rfl;exact hki (hS.uniq i o k _ d ho (Aj hk') (hd2 ▸ hdd) ho2)
    simp only;rw[qaq _ _ _ _ hne];exact I.at_ k hk e' d he' hdd
 ·intro t ht;have h1:ρa t=ρ t:=I.miss t fun k hk e' he'=>ht k (by
   by_cases hki:k=i
   ·subst hki;rw[hun]at hk;cases hk
   ·rw[getD_set_ne false (fun e=>hki e.symm)];exact hk) e' he'
  cases ho2:o.dst with
  | none=>exact h1
  | some d2=>
   have hne:t≠d2:=by
    rintro rfl;refine ht i ?_ e he (by rw[hok.d,ho2]);have:i<listed.size:=by omega
    simp[this]
   simp only;rw[qaq _ _ _ _ hne];exact h1
section
variable {P:E4} {n:Nat} {ops:Array Oper} {w0:Ez} {F:List EntO} {ρ:EB}
theorem q39{Q:EB->EC}(hQ:∀ρ a w,St n ρ a->Q ρ w->Q' .normal a w)(hS:ShapeP n ops){ol:Oper}(hm:F.length+1=ops.size)(hol:ops[F.length]?=some ol)(hwait:∀k,k<F.length->k∈qu ol)(hF:∀(i:Nat) (o:Oper) (e:EntO),ops[i]?=some o->F[i]?=some e->q83 P ops.toList w0 F ρ i o e)(hlast:∃es,AgreeO es F/\∀w,Ext w0 w->allO w0.heap.size es (some F.length) (idxO es) (sfr (F.map EntO.plain) ρ) w fun ρ'=>qb2 P ops.toList ol ρ' w fun v w'=>Q (updO ρ' ol.dst (some v)) w'):
  ∀(fuel:Nat) (listed:Array Bool) (vals ρa:EB) (a:Act) (w:Ez),listed.size=ops.size->listed.toList.count false<=fuel->listed.getD F.length false=false->
   InvD n (F.map EntO.plain++[⟨ol.dst,none,fun _ _=>True⟩]) w0 ρ listed vals ρa a w->InvO F w0 listed vals w->wpAny P .any ops Q' fuel listed a w:=by
 obtain⟨E,hE⟩:∃E,E=F.map EntO.plain++[(⟨ol.dst,none,fun _ _=>True⟩:Ent)]:=⟨_,rfl⟩
 rw[<-hE];have hEl:E.length=ops.size:=by rw[hE];simp;omega
 have hEi:∀(i:Nat) (e:EntO),F[i]?=some e->E[i]?=some e.plain:=fun i e he=>by
  have hi:i<F.length:=(Ae.1 he).1;rw[hE,AQ (by simpa using hi),Ao,he];rfl
 have hEc:∀(i:Nat) (e:Ent),E[i]?=some e->(∃e',F[i]?=some e'/\e=e'.plain)\/(i=F.length/\e=⟨ol.dst,none,fun _ _=>True⟩):=fun i e he=>by
  rcases AX i F.length with hi|hi
  ·left
   rw[hE,AQ (by simpa using hi),Ao,Bo hi]at he;exact⟨F[i],Bo hi,(BB he).symm⟩
  ·right
   rw[hE,AR (by simpa using hi)]at he;simp only[AC]at he;have:i-F.length=0:=by
    rcases BZ (i-F.length)with h|h
    ·exact h
    ·rw[Au Ys]at he;cases he
   rw[this]at he;exact⟨by omega,(by simpa using he:_=e).symm⟩
 have hEt:∀i,i<=F.length->E.take i=(F.take i).map EntO.plain:=fun i hi=>by
  rw[hE,BK (by simpa using hi),List.map_take]
 have hd:∀(i:Nat) (o:Oper) (e:Ent),ops[i]?=some o->E[i]?=some e->EntOk e o:=fun i o e ho he=>by
  rcases hEc i e he with⟨e',he',rfl⟩|⟨rfl,rfl⟩
  ·have:=(hF i o e' ho he').1;exact⟨this.d,fun _ _ _ h _=>h,fun x hx u w hu=>hu x hx⟩
  ·rw[hol]at ho;cases ho;exact⟨rfl,fun _ _ _ h _=>h,fun x hx=>by cases hx⟩
 have hfree:∀(k:Nat) (e:Ent),E[k]?=some e->∀x w w',e.φ x w->e.φ x w':=fun k e he x w w' h=>by
  rcases hEc k e he with⟨e',he',rfl⟩|⟨rfl,rfl⟩
  ·exact h
  ·trivial
 have hlt:∀(k:Nat) (e:Ent),E[k]?=some e->k<ops.size:=fun k e hk=>by
  rw[<-hEl];exact(Ae.1 hk).1
 intro fuel
 induction fuel with
 | zero=>
  intro listed vals ρa a w hsz hc hlm I J
  exfalso
  have hk':F.length<listed.size:=by omega
  have h1:=CG.1 (show listed.toList.count false=0 by omega);refine h1 ?_;have:listed[F.length]=false:=by simpa[hk']using hlm
  rw[<-this];exact Cg.2 (CL hk')
 | succ fuel ih=>
  intro listed vals ρa a w hsz hc hlm I J;refine⟨fun hr=>?_,fun i hi=>?_⟩
  ·have:=qi9 hS hsz hr F.length Oo;rw[hlm]at this;cases this
  obtain⟨hun,o,ho,hall⟩:=mem_ready.1 hi;have hio:i<ops.size:=(AS.1 ho).1;have hnl:listed.getD i false=false:=by rw[<-qb4 Oo];exact hun
  have hpl:∀k∈qu o,listed.getD k false=true:=fun k hk=>by
   obtain⟨e,he,hb,hon⟩:=qab.1 hk;rw[<-hon];exact hall e (by simpa using he) (by rw[qau];exact hb)
  rcases AX i F.length with hiF|hiF
  ·
   have hFi:F[i]?=some F[i]:=Bo hiF;obtain⟨e,he⟩:∃e,e=F[i]:=⟨_,rfl⟩
   rw[<-he]at hFi;obtain⟨hok,es,hAg,hspec⟩:=hF i o e ho hFi;have hget:∀(k:Nat) (e':EntO),(F.take i)[k]?=some e'->F[k]?=some e'/\k<i:=fun k e' h=>by
    rw[Bc]at h
    split at h
    ·exact⟨h,by assumption⟩
    ·cases h
   have h:=qzn (vals:=vals) hAg (qu o) _ (fun k hk e' he' hv hkb=>by
    obtain⟨h1,_⟩:=hget k e' he';have hal:=qk0 hkb hnl;exact⟨J.φ k e' h1 (hpl k hk) hal,fun g hg=>J.own k e' g h1 hv (hpl k hk) hal hg⟩) (hspec w I.ext)
   have hfrm:∀t,(∀(k:Nat) (e':Ent),E[k]?=some e'->e'.d=some t->k∈qu o)->fr ((F.take i).map EntO.plain) vals (qu o) (sfr ((F.take i).map EntO.plain) ρ) t=ρa t:=fun t hp=>by
    rw[<-hEt i Oo];exact qdl hd hEl hS I i (qu o) t (fun k e hk hdt _=>⟨hpl k (hp k e hk hdt),fun _=>hp k e hk hdt⟩) (fun k e hk hdt _=>hS.lt i o ho k (hp k e hk hdt))
   have hag:∀t∈o.looksAt ops,fr ((F.take i).map EntO.plain) vals (qu o) (sfr ((F.take i).map EntO.plain) ρ) t=ρa t:=fun t ht=>hfrm t fun k e' hk hdt=>by
    have hk':=hlt k e' hk;exact hS.look i o k ops[k] t ho (Aj hk') ((hd k _ e' (Aj hk') hk).d ▸ hdt) ht
   refine qe6 ho hS I.st hag h fun v w' ⟨hchg,hφ,hown⟩=>?_;have hB:∀g,some g∈qj5 es i (qu o) (fr ((F.take i).map EntO.plain) vals (qu o) (sfr ((F.take i).map EntO.plain) ρ))->
     ∃k e',F[k]?=some e'/\e'.v=none/\e'.u=some i/\listed.getD k false=true/\(vals k).ownBlock=some g:=fun g hg=>by
    obtain⟨k,d,φ,hk,hlk,ho'⟩:=q3v _ hg;have hFk:=hAg.look.1 hlk;obtain⟨h1,_⟩:=hget k _ hFk;refine⟨k,_,h1,rfl,rfl,hpl k hk,?_⟩;have hra:=I.at_ k (hpl k hk) _ d (hEi k _ h1) rfl;rw[<-hra,<-hfrm d fun k' e' hk' hdt=>?_]
    ·exact ho'
    ·have hlk':=hlt k' e' hk';have hlk2:=hlt k _ (hEi k _ h1);have hd1:=(hd k' _ e' (Aj hlk') hk').d;have hd2:=(hd k _ _ (Aj hlk2) (hEi k _ h1)).d;have:k'=k:=hS.uniq k _ k' _ d (Aj hlk2) (Aj hlk') (hd1 ▸ hdt) (by rw[<-hd2];rfl);rw[this];exact hk
   have alive_i:∀e':EntO,e'.u=some i->∀j,e'.u=some j->listed.getD j false=false:=fun e' hu j hj=>by
    rw[hu]at hj;cases hj;exact hnl
   have hBge:∀g,some g∈qj5 es i (qu o) (fr ((F.take i).map EntO.plain) vals (qu o) (sfr ((F.take i).map EntO.plain) ρ))->w0.heap.size<=g/\g<w.heap.size:=fun g hg=>by
    obtain⟨k,e',h1,h2,h3,h4,h5⟩:=hB g hg;exact J.own k e' g h1 h2 h4 (alive_i e' h3) h5
   have hx:Ext w0 w':=⟨hchg.os.trans I.ext.os,hchg.tape.trans I.ext.tape,hchg.output.trans I.ext.output,AU I.ext.size hchg.size,fun k hk=>by
    rw[hchg.block k (Bw hk I.ext.size) (fun hmem=>by have:=(hBge k hmem).1;omega)];exact I.ext.block k hk⟩
   have hgd:∀k,(listed.setIfInBounds i true).getD k false=true->k=i\/(k≠i/\listed.getD k false=true):=fun k hk=>by
    by_cases hki:k=i
    ·exact .inl hki
    ·rw[getD_set_ne false (fun e=>hki e.symm)]at hk;exact .inr ⟨hki,hk⟩
   have hal:∀(e':EntO),(∀j,e'.u=some j->(listed.setIfInBounds i true).getD j false=false)->(∀j,e'.u=some j->listed.getD j false=false)/\e'.u≠some i:=fun e' h=>by
    refine⟨fun j hj=>?_,fun hu=>?_⟩
    ·have:=h j hj
     by_cases hji:j=i
     ·subst hji;exact hnl
     ·rwa[getD_set_ne false (fun e=>hji e.symm)]at this
    ·have:=h i hu;have hil:i<listed.size:=by omega
     simp[hil]at this
   have hsome:e.v=none->e.v.isSome=false:=fun h=>by rw[h];rfl
   refine ih _ _ _ _ _ (by simp[hsz]) (by have:=countP_set listed i hun;omega) (by rw[getD_set_ne false Oo];exact hlm) (InvD.step hS hEl hd hfree I hsz ho (hEi i e hFi) hnl hx (fun c hc=>hok.v c hc v w' hφ)) ⟨?_,?_,?_⟩
   ·intro k e' hk hlk halv;obtain⟨ha1,ha2⟩:=hal e' halv
    rcases hgd k hlk with rfl|⟨hki,hlk⟩
    ·rw[hFi]at hk;cases hk
     simpa using hφ
    ·simp only[Aa hki];have hold:=J.φ k e' hk hlk ha1;have hk':k<ops.size:=by have:=(Ae.1 hk).1;omega
     have hok':=(hF k ops[k] e' (Aj hk') hk).1
     by_cases hv:e'.v=none
     ·refine hok'.loc _ w w' hold (fun b hb hor=>hchg.block b hb fun hmem=>?_) hchg.size;obtain⟨k2,e2,h1,h2,h3,h4,h5⟩:=hB b hmem
      rcases hor with hlt' | hob
      ·have:=(hBge b hmem).1;omega
      ·have hne:k≠k2:=by
        rintro rfl;rw[hk]at h1;cases h1;exact ha2 h3
       exact J.apart k k2 e' e2 b hk h1 hv h2 hlk h4 ha1 (alive_i e2 h3) hne hob h5
     ·exact hok'.st hv _ _ _ hold
   ·intro k e' g hk hv hlk halv hg;obtain⟨ha1,ha2⟩:=hal e' halv
    rcases hgd k hlk with rfl|⟨hki,hlk⟩
    ·rw[hFi]at hk;cases hk;simp only[if_true]at hg;obtain⟨h1,h2⟩:=hown (hsome hv) g hg;refine⟨?_,h1⟩
     rcases h2 with h2|h2
     ·exact(hBge g h2).1
     ·have:=I.ext.size;omega
    ·simp only[Aa hki]at hg;have:=J.own k e' g hk hv hlk ha1 hg;have:=hchg.size;omega
   ·intro k k' e1 e2 g hk hk' hv hv' hlk hlk' hal1 hal2 hne hg hg';obtain⟨ha1,ha1'⟩:=hal e1 hal1;obtain⟨ha2,ha2'⟩:=hal e2 hal2;have new:∀(k:Nat) (e1:EntO),F[k]?=some e1->e1.v=none->listed.getD k false=true->(∀j,e1.u=some j->listed.getD j false=false)->e1.u≠some i->e.v=none->v.ownBlock=some g->(vals k).ownBlock≠some g:=fun k e1 hk hv hlk ha ha' hev hg hg'=>by
     obtain⟨_,h2⟩:=hown (hsome hev) g hg
     rcases h2 with h2|h2
     ·obtain⟨k2,e2,q1,q2,q3,q4,q5⟩:=hB g h2;have hne:k≠k2:=by
       rintro rfl;rw[hk]at q1;cases q1;exact ha' q3
      exact J.apart k k2 e1 e2 g hk q1 hv q2 hlk q4 ha (alive_i e2 q3) hne hg' q5
     ·have:=(J.own k e1 g hk hv hlk ha hg').2;omega
    rcases hgd k hlk with rfl|⟨hki,hlk2⟩
    ·rw[hFi]at hk;cases hk
     rcases hgd k' hlk' with rfl|⟨hki',hlk2'⟩
     ·exact hne rfl
     ·simp only[if_true,Aa hki']at hg hg';exact new k' e2 hk' hv' hlk2' ha2 ha2' hv hg hg'
    ·rcases hgd k' hlk' with rfl|⟨hki',hlk2'⟩
     ·rw[hFi]at hk';cases hk';simp only[if_true,Aa hki]at hg hg';exact new k e1 hk hv hlk2 ha1 ha1' hv' hg' hg
     ·simp only[Aa hki,Aa hki']at hg hg';exact J.apart k k' e1 e2 g hk hk' hv hv' hlk2 hlk2' ha1 ha2 hne hg hg'
  ·
   have hil:i=F.length:=by omega
   subst hil;rw[hol]at ho;cases ho;obtain⟨es,hAg,hspec⟩:=hlast;have hlk:∀(k:Nat) (e':EntO),F[k]?=some e'->listed.getD k false=true:=fun k e' hk=>hpl k (hwait k (Ae.1 hk).1)
   have h:=qzn (vals:=vals) hAg (idxO es) _ (fun k _ e' he' hv hkb=>by
    have hal:=qk0 hkb hnl;exact⟨J.φ k e' he' (hlk k e' he') hal,fun g hg=>J.own k e' g he' hv (hlk k e' he') hal hg⟩) (hspec w I.ext)
   have hfr:fr (F.map EntO.plain) vals (idxO es) (sfr (F.map EntO.plain) ρ)=ρa:=by
    funext t
    have:=qdl hd hEl hS I F.length (idxO es) t (fun k e hk hdt hki=>?_) (fun k e hk hdt hlk'=>?_)
    ·rw[hEt _ (Aq _),Bg]at this;exact this
    ·rcases hEc k e hk with⟨e',he',rfl⟩|⟨rfl,_⟩
     ·refine⟨hlk k e' he',fun hv=>?_⟩;obtain⟨ed,ev,eu,eφ⟩:=e';simp only[EntO.plain]at hdt hv;subst hdt hv;exact q5z (hAg.look.2 he')
     ·omega
    ·rcases hEc k e hk with⟨e',he',rfl⟩|⟨rfl,_⟩
     ·exact(Ae.1 he').1
     ·rw[hnl]at hlk';cases hlk'
   rw[hfr]at h;refine qe6 hol hS I.st (fun _ _=>rfl) h fun v w' hq=>?_;refine qzf (qfi fun k hk=>?_) ?_ _
   ·have hk':k<listed.size:=by omega
    by_cases hki:k=F.length
    ·subst hki;simp[hk']
    ·rw[getD_set_ne true (fun e=>hki e.symm),qb4 hk'];exact hpl k (hwait k Oo)
   ·refine hQ _ _ _ ?_ hq;cases hdd:ol.dst with
    | none=>exact I.st
    | some d=>exact I.st.put (hS.dn _ ol hol d hdd) v
end
def qb3(ops:Array Oper):Bool:=
 match ops[ops.size-1]? with
 | some o=>(List.range (ops.size-1)).all fun k=>(qu o).contains k
 | none=>false
theorem DrawV.own{n:Nat}{Q:Exit->EB->EC}(hm:P.follows .mixedOrders=true)(hB:(qjt n ops&&qb3 ops)=true)(h:regO P ops.toList w.drew (fun ρ' w'=>Q .normal ρ' w') ops.toList 0 [] ρ):DrawV P n id ops Q ρ w:=by
 refine⟨fun a ha=>wp_region_any hm ?_⟩;simp only[AJ]at hB;obtain⟨F,ol,h1,h2,h3,h4⟩:=q6m ops.toList [] [] ρ (fun k=>rfl) h;have hsz:F.length+1=ops.size:=by simpa using h1
 have hol:ops[F.length]?=some ol:=by simpa using h2
 refine q39 (Q:=fun ρ' w'=>Q .normal ρ' w') (F:=F) (w0:=w.drew) (ρ:=ρ) (fun ρ a w h1 h2=>⟨ρ,h1,h2⟩) (qd4 hB.1) hsz hol (fun k hk=>?_) (fun i o e ho he=>?_) (by simpa using h4) _ _ (fun _=>undef) ρ a _ Js Js ?_ ⟨Ext.refl _,ha,?_,?_,fun t _=>rfl⟩ ⟨?_,?_,?_⟩
 ·have hl:=hB.2;unfold qb3 at hl;rw[show ops.size-1=F.length by omega,hol]at hl
  simpa using Ce.1 hl k (BY.2 hk)
 ·have:=h3 i o e (by simpa using ho) he
  simpa using this
 ·exact qc _ _
 ·intro k hk;rw[qc]at hk;cases hk
 ·intro k hk;rw[qc]at hk;cases hk
 ·intro k e _ hk;rw[qc]at hk;cases hk
 ·intro k e g _ _ hk;rw[qc]at hk;cases hk
 ·intro k k' e e' g _ _ _ _ hk;rw[qc]at hk;cases hk
end V
namespace V
def setS(S:Nat->Bool)(k:Nat):Nat->Bool:=fun j=>bif Nat.beq j k then true else S j
structure StepI(A:E8->Prop)(K:E8->Prop):Prop where
 h:∃v,A v/\K v
theorem StepI.of{A K:E8->Prop}(v:E8)(h:A v)(hk:K v):StepI A K:=⟨v,h,hk⟩
def regI(P:E4)(ops:List Oper)(I:(Nat->Bool)->EC)(Q:EB->EC):List Oper->Nat->EB->Prop
 | [],_,ρ=>∀w,I (fun _=>true) w->Q ρ w
 | o::l,k,ρ=>StepI (fun v=>∀S w,S k=false->(∀j∈qu o,S j=true)->I S w->qb2 P ops o ρ w fun v' w'=>v'=v/\I (setS S k) w')
   (fun v=>regI P ops I Q l (k+1) (updO ρ o.dst (some v)))
section
variable {P:E4} {n:Nat}
def qacp(P:E4)(ops:List Oper)(I:(Nat->Bool)->EC)(F:List Ent)(ρ0:EB)(i:Nat)(o:Oper)(e:Ent):Prop:=
 ∃v,e=⟨o.dst,some v,fun x _=>x=v⟩/\∀S w,S i=false->(∀j∈qu o,S j=true)->I S w->qb2 P ops o (sfr (F.take i) ρ0) w fun v' w'=>v'=v/\I (setS S i) w'
theorem q6l{ops:List Oper}{I:(Nat->Bool)->EC}{Q:EB->EC}(l:List Oper):∀(F:List Ent) (ρ0:EB),regI P ops I Q l F.length (sfr F ρ0)->
  ∃E:List Ent,E.length=l.length/\(∀i o e,l[i]?=some o->E[i]?=some e->qacp P ops I (F++E) ρ0 (F.length+i) o e)/\∀w,I (fun _=>true) w->Q (sfr (F++E) ρ0) w:=by
 induction l with
 | nil=>intro F ρ0 h;exact⟨[],rfl,fun i o e hi=>by simp at hi,by rw[AI];exact h⟩
 | cons o l ih=>
  intro F ρ0 h;obtain⟨v,hA,hK⟩:=h.h;have e1:updO (sfr F ρ0) o.dst (some v)=sfr (F++[(⟨o.dst,some v,fun x _=>x=v⟩:Ent)]) ρ0:=by rw[qf5];rfl
  have e2:F.length+1=(F++[(⟨o.dst,some v,fun x _=>x=v⟩:Ent)]).length:=by simp
  rw[e1,e2]at hK;obtain⟨E,h1,h2,h3⟩:=ih _ ρ0 hK;refine⟨⟨o.dst,some v,fun x _=>x=v⟩::E,by simp[h1],fun i o' e hi he=>?_,by simpa using h3⟩;cases i with
  | zero=>
   simp at hi he;subst hi he;exact⟨v,rfl,by simpa using hA⟩
  | succ i=>
   simp at hi he;have:=h2 i o' e hi he
   simpa[C7,CB 1 i]using this
variable {ops:Array Oper} {w0:Ez} {E:List Ent} {ρ:EB}
theorem q38{I:(Nat->Bool)->EC}{Q:EB->EC}(hQ:∀ρ a w,St n ρ a->Q ρ w->Q' .normal a w)(hS:ShapeP n ops)(hl:E.length=ops.size)(hE:∀(i:Nat) (o:Oper) (e:Ent),ops[i]?=some o->E[i]?=some e->qacp P ops.toList I E ρ i o e)(hF:∀w,I (fun _=>true) w->Q (sfr E ρ) w):
  ∀(fuel:Nat) (listed:Array Bool) (vals ρa:EB) (a:Act) (w:Ez),listed.size=ops.size->listed.toList.count false<=fuel->InvD n E w0 ρ listed vals ρa a w0->I (fun j=>listed.getD j true) w->wpAny P .any ops Q' fuel listed a w:=by
 have hd:∀(i:Nat) (o:Oper) (e:Ent),ops[i]?=some o->E[i]?=some e->EntOk e o:=fun i o e h1 h2=>by
  obtain⟨v,rfl,_⟩:=hE i o e h1 h2;exact⟨rfl,fun _ _ _ h _=>h,fun c hc x w hx=>by cases hc;exact hx⟩
 have hlt:∀(k:Nat) (e:Ent),E[k]?=some e->k<ops.size:=fun k e hk=>by
  rw[<-hl];exact(Ae.1 hk).1
 have hfree:∀(k:Nat) (e:Ent),E[k]?=some e->∀x w w',e.φ x w->e.φ x w':=fun k e he x w w' h=>by
  have hk:=hlt k e he;obtain⟨v,rfl,_⟩:=hE k _ e (Aj hk) he;exact h
 have hsome:∀(k:Nat) (e:Ent),E[k]?=some e->e.v≠none:=fun k e he=>by
  have hk:=hlt k e he;obtain⟨v,rfl,_⟩:=hE k _ e (Aj hk) he;simp
 have final:∀(listed:Array Bool) (vals ρa:EB) (a:Act) (w:Ez),(∀k,k<ops.size->listed.getD k false=true)->listed.size=ops.size->InvD n E w0 ρ listed vals ρa a w0->I (fun j=>listed.getD j true) w->Q' .normal a w:=fun listed vals ρa a w hall hsz D hI=>by
  have hT:(fun j=>listed.getD j true)=fun _=>true:=by
   funext j
   rcases AX j listed.size with hj|hj
   ·rw[qb4 hj];exact hall j Oo
   ·simp[Bd hj]
  rw[hT]at hI;have he:sfr E ρ=ρa:=by
   funext t
   have:=qdl hd hl hS D E.length [] t (fun k e hk hdt hki=>⟨hall k (hlt k e hk),fun hv=>absurd hv (hsome k e hk)⟩) (fun k e hk _ _=>by rw[hl];exact hlt k e hk)
   rwa[Bg]at this
  exact hQ _ _ _ D.st (he ▸ hF w hI)
 intro fuel
 induction fuel with
 | zero=>
  intro listed vals ρa a w hsz hc D hI;have hall:∀k,k<ops.size->listed.getD k false=true:=fun k hk=>by
   have h1:=CG.1 (show listed.toList.count false=0 by omega);have hk':k<listed.size:=by omega
   cases hv:listed[k]with
   | true=>simp[hk',hv]
   | false=>exact absurd (by rw[<-hv];exact Cg.2 (CL hk')) h1
  exact⟨qfi fun k hk=>by rw[qb4 Oo];exact hall k hk,final listed vals ρa a w hall hsz D hI⟩
 | succ fuel ih=>
  intro listed vals ρa a w hsz hc D hI;refine⟨fun hr=>final listed vals ρa a w (fun k hk=>qi9 hS hsz hr k hk) hsz D hI,fun i hi=>?_⟩;obtain⟨hun,o,ho,hall⟩:=mem_ready.1 hi;have hio:i<ops.size:=(AS.1 ho).1;have hnl:listed.getD i false=false:=by rw[<-qb4 Oo];exact hun
  have hpl:∀k∈qu o,listed.getD k false=true:=fun k hk=>by
   obtain⟨e,he,hb,hon⟩:=qab.1 hk;rw[<-hon];exact hall e (by simpa using he) (by rw[qau];exact hb)
  have hiE:E[i]?=some E[i]:=Bo Oo;obtain⟨v,he,hspec⟩:=hE i o E[i] ho hiE;have hlp:∀k∈qu o,listed.getD k true=true:=fun k hk=>by
   have:=hpl k hk
   rcases AX k listed.size with hj|hj
   ·rw[qb4 hj];exact this
   ·simp[Bd hj]
  have h:=hspec (fun j=>listed.getD j true) w hun hlp hI;have hag:∀t∈o.looksAt ops,sfr (E.take i) ρ t=ρa t:=fun t ht=>by
   have hp:∀(k:Nat) (e:Ent),E[k]?=some e->e.d=some t->k∈qu o:=fun k e hk hdt=>by
    have hk':=hlt k e hk;exact hS.look i o k ops[k] t ho (Aj hk') ((hd k _ e (Aj hk') hk).d ▸ hdt) ht
   exact qdl hd hl hS D i [] t (fun k e hk hdt _=>⟨hpl k (hp k e hk hdt),fun hv=>absurd hv (hsome k e hk)⟩) (fun k e hk hdt _=>hS.lt i o ho k (hp k e hk hdt))
  refine qe6 ho hS D.st hag h fun v' w' ⟨hv,hI'⟩=>?_;have hset:(fun j=>(listed.setIfInBounds i true).getD j true)=setS (fun j=>listed.getD j true) i:=by
   funext j
   unfold setS
   by_cases hji:j=i
   ·subst hji;have:j<listed.size:=by omega
    simp[this]
   ·have:Nat.beq j i=false:=Bx.2 fun e=>hji (Bl e)
    rw[this,getD_set_ne true (fun e=>hji e.symm)];rfl
  refine ih _ _ _ _ _ (by simp[hsz]) (by have:=countP_set listed i hun;omega) (InvD.step (v:=v') hS hl hd hfree D hsz ho hiE hnl (Ext.refl _) (by rw[he];exact hv)) ?_;rw[hset];exact hI'
end
theorem DrawV.inv{n:Nat}{Q:Exit->EB->EC}(I:(Nat->Bool)->EC)(hm:P.follows .mixedOrders=true)(hB:qjt n ops=true)(h0:I (fun j=>Nat.ble ops.size j) w.drew)(h:regI P ops.toList I (fun ρ' w'=>Q .normal ρ' w') ops.toList 0 ρ):DrawV P n id ops Q ρ w:=by
 refine⟨fun a ha=>wp_region_any hm ?_⟩;obtain⟨E,h1,h2,h3⟩:=q6l ops.toList [] ρ h;refine q38 (I:=I) (Q:=fun ρ' w'=>Q .normal ρ' w') (E:=E) (w0:=w.drew) (ρ:=ρ) (fun ρ a w h1 h2=>⟨ρ,h1,h2⟩) (qd4 hB) (by simpa using h1) (fun i o e ho he=>?_) (by simpa using h3) _ _ (fun _=>undef) ρ a _ Js Js ⟨Ext.refl _,ha,?_,?_,fun t _=>rfl⟩ ?_
 ·have:=h2 i o e (by simpa using ho) he
  simpa using this
 ·intro k hk;rw[qc]at hk;cases hk
 ·intro k hk;rw[qc]at hk;cases hk
 ·have:(fun j=>(Array.replicate ops.size false).getD j true)=fun j=>Nat.ble ops.size j:=by
   funext j
   rcases AX j ops.size with hj|hj
   ·have h2:Nat.ble ops.size j=false:=Bx.2 fun e=>by have:=CT e;omega
    simp[hj,h2]
   ·rw[DC hj];simp[hj]
  rw[this];exact h0
end V
namespace V
structure StepG(A:Option E8->Prop)(K:Option E8->Prop):Prop where
 h:∃v,A v/\K v
theorem StepG.of{A K:Option E8->Prop}(v:E8)(h:A (some v))(hk:K (some v)):StepG A K:=⟨some v,h,hk⟩
theorem StepG.any{A K:Option E8->Prop}(h:A none)(hk:K none):StepG A K:=⟨none,h,hk⟩
def frG:List (Nat×Nat)->EB->EB->EB
 | [],_,ρ=>ρ
 | (k,d)::es,vals,ρ=>frG es vals (upd ρ d (vals k))
def qad5(k:Nat)(es:List (Nat×Nat)):Option Tmp->Option E8->List (Nat×Nat)
 | some d,none=>(k,d)::es
 | _,_=>es
def isG:Option E8->E8->Prop
 | some c,x=>x=c
 | none,_=>True
def regG(P:E4)(ops:List Oper)(I:(Nat->Bool)->EB->EC)(Q:EB->EC):List Oper->Nat->List (Nat×Nat)->EB->Prop
 | [],_,es,ρ=>∀vals w,I (fun _=>true) vals w->Q (frG es vals ρ) w
 | o::l,k,es,ρ=>StepG (fun v=>∀S vals w,S k=false->(∀j∈qu o,S j=true)->I S vals w->qb2 P ops o (frG es vals ρ) w fun v' w'=>isG v v'/\I (setS S k) (upd vals k v') w')
   (fun v=>regG P ops I Q l (k+1) (qad5 k es o.dst v) (updO ρ o.dst v))
def entG(d:Option Tmp)(v:Option E8):Ent:=⟨d,v,fun x _=>isG v x⟩
structure AgreeG(es:List (Nat×Nat))(F:List Ent):Prop where
 in_:∀k d,(k,d)∈es->F[k]?=some (entG (some d) none)
 all:∀k d φ,F[k]?=some ⟨some d,none,φ⟩->k∈es.map (·.1)
theorem AgreeG.push{es:List (Nat×Nat)}{F:List Ent}(h:AgreeG es F)(d:Option Tmp)(v:Option E8):AgreeG (qad5 F.length es d v) (F++[entG d v]):=by
 have old:∀k d',(k,d')∈es->(F++[entG d v])[k]?=some (entG (some d') none):=fun k d' hk=>by
  have:=h.in_ k d' hk;rw[AQ (Ae.1 this).1,this]
 have back:∀k d' φ,(F++[entG d v])[k]?=some ⟨some d',none,φ⟩->k∈es.map (·.1)\/(k=F.length/\entG d v=⟨some d',none,φ⟩):=fun k d' φ hk=>by
  rcases AX k F.length with hlt|hge
  ·rw[AQ hlt]at hk;exact .inl (h.all _ _ _ hk)
  ·rw[AR hge]at hk;obtain⟨h0,h1⟩:=Ae.1 hk;have:k-F.length=0:=by simpa using h0
   refine .inr ⟨by omega,?_⟩
   simpa[this]using h1
 cases d with
 | none=>
  refine⟨old,fun k d' φ hk=>?_⟩
  rcases back k d' φ hk with hk|⟨rfl,e⟩
  ·exact hk
  ·cases e
 | some d=>
  cases v with
  | none=>
   refine⟨fun k d' hk=>?_,fun k d' φ hk=>?_⟩
   ·rcases AD.1 hk with e|hk
    ·cases e;rw[AR (Aq _),CE];rfl
    ·exact old k d' hk
   ·rcases back k d' φ hk with hk|⟨rfl,_⟩
    ·exact BV _ hk
    ·exact AK ..
  | some c=>
   refine⟨old,fun k d' φ hk=>?_⟩
   rcases back k d' φ hk with hk|⟨rfl,e⟩
   ·exact hk
   ·cases e
theorem qv0{es0:List Ent}:∀(es:List (Nat×Nat)) (ρ:EB),(∀k d,(k,d)∈es->es0[k]?=some (entG (some d) none))->fr es0 vals (es.map (·.1)) ρ=frG es vals ρ:=by
 intro es
 induction es with
 | nil=>intro ρ _;rfl
 | cons x es ih=>
  obtain⟨k,d⟩:=x;intro ρ h;show fr es0 vals (k::es.map (·.1)) ρ=_;unfold fr;rw[qhb (d:=d) (φ:=fun x _=>isG none x) (by rw[qm];exact h k d (AK ..)),ih _ fun k d hk=>h k d (BV _ hk)];rfl
section
variable {P:E4} {n:Nat}
def q82(P:E4)(ops:List Oper)(I:(Nat->Bool)->EB->EC)(F:List Ent)(ρ0:EB)(i:Nat)(o:Oper)(e:Ent):Prop:=
 ∃v es,e=entG o.dst v/\AgreeG es (F.take i)/\∀S vals w,S i=false->(∀j∈qu o,S j=true)->I S vals w->qb2 P ops o (frG es vals (sfr (F.take i) ρ0)) w fun v' w'=>isG v v'/\I (setS S i) (upd vals i v') w'
theorem qpq{ops:List Oper}{Q:EB->EC}(l:List Oper):∀(es:List (Nat×Nat)) (F:List Ent) (ρ0:EB),AgreeG es F->regG P ops I Q l F.length es (sfr F ρ0)->
  ∃E:List Ent,E.length=l.length/\(∀i o e,l[i]?=some o->E[i]?=some e->q82 P ops I (F++E) ρ0 (F.length+i) o e)/\∃es',AgreeG es' (F++E)/\∀vals w,I (fun _=>true) vals w->Q (frG es' vals (sfr (F++E) ρ0)) w:=by
 induction l with
 | nil=>intro es F ρ0 hA h;exact⟨[],rfl,fun i o e hi=>by simp at hi,es,by rw[AI];exact hA,by rw[AI];exact h⟩
 | cons o l ih=>
  intro es F ρ0 hA h;obtain⟨v,hv,hK⟩:=h.h;have e1:updO (sfr F ρ0) o.dst v=sfr (F++[entG o.dst v]) ρ0:=by rw[qf5];rfl
  have e2:F.length+1=(F++[entG o.dst v]).length:=by simp
  rw[e1,e2]at hK;obtain⟨E,h1,h2,h3⟩:=ih _ _ ρ0 (hA.push o.dst v) hK;refine⟨entG o.dst v::E,by simp[h1],fun i o' e hi he=>?_,by simpa using h3⟩;cases i with
  | zero=>
   simp at hi he;subst hi he;exact⟨v,es,rfl,by simpa using hA,by simpa using hv⟩
  | succ i=>
   simp at hi he;have:=h2 i o' e hi he
   simpa[C7,CB 1 i]using this
variable {ops:Array Oper} {w0:Ez} {E:List Ent} {ρ:EB}
theorem qsk{Q:EB->EC}(hQ:∀ρ a w,St n ρ a->Q ρ w->Q' .normal a w)(hS:ShapeP n ops)(hl:E.length=ops.size)(hE:∀(i:Nat) (o:Oper) (e:Ent),ops[i]?=some o->E[i]?=some e->q82 P ops.toList I E ρ i o e)(hF:∃es',AgreeG es' E/\∀vals w,I (fun _=>true) vals w->Q (frG es' vals (sfr E ρ)) w):
  ∀(fuel:Nat) (listed:Array Bool) (vals ρa:EB) (a:Act) (w:Ez),listed.size=ops.size->listed.toList.count false<=fuel->InvD n E w0 ρ listed vals ρa a w0->I (fun j=>listed.getD j true) vals w->wpAny P .any ops Q' fuel listed a w:=by
 obtain⟨ef,hA,hF⟩:=hF;have hd:∀(i:Nat) (o:Oper) (e:Ent),ops[i]?=some o->E[i]?=some e->EntOk e o:=fun i o e h1 h2=>by
  obtain⟨v,_,rfl,_⟩:=hE i o e h1 h2;refine⟨rfl,fun _ _ _ h _=>h,fun c hc x w hx=>?_⟩;have hc:v=some c:=hc;subst hc;exact hx
 have hlt:∀(k:Nat) (e:Ent),E[k]?=some e->k<ops.size:=fun k e hk=>by
  rw[<-hl];exact(Ae.1 hk).1
 have hfree:∀(k:Nat) (e:Ent),E[k]?=some e->∀x w w',e.φ x w->e.φ x w':=fun k e he x w w' h=>by
  have hk:=hlt k e he;obtain⟨v,_,rfl,_⟩:=hE k _ e (Aj hk) he;exact h
 have final:∀(listed:Array Bool) (vals ρa:EB) (a:Act) (w:Ez),(∀k,k<ops.size->listed.getD k false=true)->listed.size=ops.size->InvD n E w0 ρ listed vals ρa a w0->I (fun j=>listed.getD j true) vals w->Q' .normal a w:=fun listed vals ρa a w hall hsz D hI=>by
  have hT:(fun j=>listed.getD j true)=fun _=>true:=by
   funext j
   rcases AX j listed.size with hj|hj
   ·rw[qb4 hj];exact hall j Oo
   ·simp[Bd hj]
  rw[hT]at hI;have he:frG ef vals (sfr E ρ)=ρa:=by
   funext t
   have:=qdl hd hl hS D E.length (ef.map (·.1)) t (fun k e hk hdt hki=>⟨hall k (hlt k e hk),fun hv=>by
    obtain⟨d,v,φ⟩:=e;cases hv;cases hdt;exact hA.all k _ _ hk⟩) (fun k e hk _ _=>by rw[hl];exact hlt k e hk)
   rw[Bg,qv0 _ _ hA.in_]at this;exact this
  exact hQ _ _ _ D.st (he ▸ hF vals w hI)
 intro fuel
 induction fuel with
 | zero=>
  intro listed vals ρa a w hsz hc D hI;have hall:∀k,k<ops.size->listed.getD k false=true:=fun k hk=>by
   have h1:=CG.1 (show listed.toList.count false=0 by omega);have hk':k<listed.size:=by omega
   cases hv:listed[k]with
   | true=>simp[hk',hv]
   | false=>exact absurd (by rw[<-hv];exact Cg.2 (CL hk')) h1
  exact⟨qfi fun k hk=>by rw[qb4 Oo];exact hall k hk,final listed vals ρa a w hall hsz D hI⟩
 | succ fuel ih=>
  intro listed vals ρa a w hsz hc D hI;refine⟨fun hr=>final listed vals ρa a w (fun k hk=>qi9 hS hsz hr k hk) hsz D hI,fun i hi=>?_⟩;obtain⟨hun,o,ho,hall⟩:=mem_ready.1 hi;have hio:i<ops.size:=(AS.1 ho).1;have hnl:listed.getD i false=false:=by rw[<-qb4 Oo];exact hun
  have hpl:∀k∈qu o,listed.getD k false=true:=fun k hk=>by
   obtain⟨e,he,hb,hon⟩:=qab.1 hk;rw[<-hon];exact hall e (by simpa using he) (by rw[qau];exact hb)
  have hiE:E[i]?=some E[i]:=Bo Oo;obtain⟨v,es,he,hAi,hspec⟩:=hE i o E[i] ho hiE;have hlp:∀k∈qu o,listed.getD k true=true:=fun k hk=>by
   have:=hpl k hk
   rcases AX k listed.size with hj|hj
   ·rw[qb4 hj];exact this
   ·simp[Bd hj]
  have h:=hspec (fun j=>listed.getD j true) vals w hun hlp hI;have hag:∀t∈o.looksAt ops,frG es vals (sfr (E.take i) ρ) t=ρa t:=fun t ht=>by
   have hp:∀(k:Nat) (e:Ent),E[k]?=some e->e.d=some t->k∈qu o:=fun k e hk hdt=>by
    have hk':=hlt k e hk;exact hS.look i o k ops[k] t ho (Aj hk') ((hd k _ e (Aj hk') hk).d ▸ hdt) ht
   have:=qdl hd hl hS D i (es.map (·.1)) t (fun k e hk hdt hki=>⟨hpl k (hp k e hk hdt),fun hv=>by
    obtain⟨d,v,φ⟩:=e;cases hv;cases hdt;exact hAi.all k _ _ (by rw[Bc,Ad hki];exact hk)⟩) (fun k e hk hdt _=>hS.lt i o ho k (hp k e hk hdt))
   rw[qv0 _ _ hAi.in_]at this;exact this
  refine qe6 ho hS D.st hag h fun v' w' ⟨hv,hI'⟩=>?_;have hset:(fun j=>(listed.setIfInBounds i true).getD j true)=setS (fun j=>listed.getD j true) i:=by
   funext j
   unfold setS
   by_cases hji:j=i
   ·subst hji;have:j<listed.size:=by omega
    simp[this]
   ·have:Nat.beq j i=false:=Bx.2 fun e=>hji (Bl e)
    rw[this,getD_set_ne true (fun e=>hji e.symm)];rfl
  have hvals:(fun k=>if k=i then v' else vals k)=upd vals i v':=by
   funext k
   by_cases hk:k=i
   ·subst hk;simp[upd]
   ·rw[Aa hk,qaq _ _ _ _ hk]
  refine ih _ (upd vals i v') _ _ _ (by simp[hsz]) (by have:=countP_set listed i hun;omega) (hvals ▸ InvD.step (v:=v') hS hl hd hfree D hsz ho hiE hnl (Ext.refl _) (by rw[he];exact hv)) ?_;rw[hset];exact hI'
end
theorem DrawV.gen{n:Nat}{Q:Exit->EB->EC}(I:(Nat->Bool)->EB->EC)(hm:P.follows .mixedOrders=true)(hB:qjt n ops=true)(h0:∀vals,I (fun j=>Nat.ble ops.size j) vals w.drew)(h:regG P ops.toList I (fun ρ' w'=>Q .normal ρ' w') ops.toList 0 [] ρ):DrawV P n id ops Q ρ w:=by
 refine⟨fun a ha=>wp_region_any hm ?_⟩;obtain⟨E,h1,h2,h3⟩:=qpq ops.toList [] [] ρ (AgreeG.mk (fun _ _ h=>by cases h) (fun _ _ _ h=>by simp at h)) h;refine qsk (I:=I) (Q:=fun ρ' w'=>Q .normal ρ' w') (E:=E) (w0:=w.drew) (ρ:=ρ) (fun ρ a w h1 h2=>⟨ρ,h1,h2⟩) (qd4 hB) (by simpa using h1) (fun i o e ho he=>?_) (by simpa using h3) _ _ (fun _=>undef) ρ a _ Js Js ⟨Ext.refl _,ha,?_,?_,fun t _=>rfl⟩ ?_
 ·have:=h2 i o e (by simpa using ho) he
  simpa using this
 ·intro k hk;rw[qc]at hk;cases hk
 ·intro k hk;rw[qc]at hk;cases hk
 ·have:(fun j=>(Array.replicate ops.size false).getD j true)=fun j=>Nat.ble ops.size j:=by
   funext j
   rcases AX j ops.size with hj|hj
   ·have h2:Nat.ble ops.size j=false:=Bx.2 fun e=>by have:=CT e;omega
    simp[hj,h2]
   ·rw[DC hj];simp[hj]
  rw[this];exact h0 _
end V
end Go.Proofs.YtacnkdagblbgfaaGreatDoor
