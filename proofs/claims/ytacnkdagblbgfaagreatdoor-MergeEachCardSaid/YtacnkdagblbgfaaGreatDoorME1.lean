/- Lemmas and contracts of functions on the way to the law's card (part 1 of 11). -/
import Derived.Test.YtacnkdagblbgfaaGreatDoorProg
import Derived.WalkKit
import Derived.WalkSpells
import Derived.StillTactics
import Derived.Lib.Hide
import Derived.IntWalk
import Derived.Still
import Derived.Scope
import Derived.Maps.AppendAt
import Derived.Lib.AppendStr
import Derived.Orders
namespace Go.Proofs.YtacnkdagblbgfaaGreatDoor
open Go.RowKit
abbrev Aa:=@if_neg
abbrev Ad:=@if_pos
abbrev Ae:=@List.getElem?_eq_some_iff
abbrev Af:=@congrArg
abbrev Ag:=@List.append_assoc
abbrev Ah:=@List.getD_eq_getElem?_getD
abbrev Ai:=@List.mem_append_right
abbrev Aj:=@Array.getElem?_eq_getElem
abbrev Ak:=@List.mem_singleton
abbrev Am:=@Nat.zero_le
abbrev Ar:=@Nat.le_refl
abbrev Au:=@List.getElem?_map
abbrev Aw:=@List.length_cons
abbrev Az:=@List.getElem?_eq_none
abbrev AB:=@List.getElem?_toArray
abbrev AC:=@Nat.zero_add
abbrev AD:=@decide_eq_true
abbrev AE:=@List.take_of_length_le
abbrev AF:=@List.mem_cons
abbrev AG:=@List.map_append
abbrev AH:=@List.perm_append_comm
abbrev AI:=@List.length_map
abbrev AJ:=@decide_eq_false
abbrev AK:=@List.length_take
abbrev AM:=@Bool.and_eq_true
abbrev AO:=@List.mem_cons_self
abbrev AP:=@List.drop_drop
abbrev AQ:=@List.mem_append_left
abbrev AR:=@List.getElem?_append_left
abbrev AS:=@List.sublist_cons_self
abbrev AT:=@List.getElem_mem
abbrev AU:=@Array.getElem?_eq_some_iff
abbrev AV:=@List.getElem?_append_right
abbrev AW:=@List.map_cons
abbrev AX:=@Bool.eq_iff_iff
abbrev AY:=@List.append_nil
abbrev AZ:=@List.eq_nil_of_length_eq_zero
abbrev Ba:=@Nat.lt_or_ge
abbrev Bb:=@Array.getElem?_eq_none
abbrev Bc:=@List.mem_map
abbrev Bd:=@Nat.le_trans
abbrev Be:=@Nat.mul_one
abbrev Bf:=@List.drop_eq_nil_of_le
abbrev Bg:=@List.mem_iff_getElem?
abbrev Bh:=@List.length_singleton
abbrev Bi:=@List.getElem?_take
abbrev Bj:=@List.mem_append
abbrev Bk:=@Array.toList_inj
abbrev Bl:=@List.pairwise_cons
abbrev Bm:=@Classical.byContradiction
abbrev Bn:=@Nat.eq_of_beq_eq_true
abbrev Bo:=@List.take_succ_eq_append_getElem
abbrev Bp:=@Option.some_get
abbrev Bq:=@List.take_length
abbrev Br:=@List.nil_append
abbrev Bs:=@Option.some.inj
abbrev Bt:=@List.getElem?_eq_getElem
abbrev Bu:=@Nat.pow_le_pow_right
abbrev Bw:=@List.getElem?_range
abbrev Bx:=@Nat.lt_of_lt_of_le
abbrev Bz:=@Bool.eq_false_iff
abbrev B0:=@Nat.mul_le_mul_right
abbrev B4:=@Option.some.injEq
abbrev B8:=@List.take_zero
abbrev B9:=@List.drop_eq_getElem_cons
abbrev BA:=@List.getElem?_cons_zero
abbrev BB:=@List.drop_zero
abbrev BC:=@List.cons_lt_cons_iff
abbrev BD:=@Nat.mod_eq_of_lt
abbrev BE:=@List.getElem?_set_self
abbrev BF:=@List.mem_filter
abbrev BG:=@Option.map_some
abbrev BH:=@Nat.add_sub_cancel
abbrev BI:=@Nat.add_zero
abbrev BJ:=@List.take_append_of_le_length
abbrev BK:=@List.getElem?_set
abbrev BL:=@List.perm_middle
abbrev BM:=@List.Perm.append_left
abbrev BN:=@Array.getD_eq_getD_getElem?
abbrev BO:=@List.cons_append
abbrev BP:=@List.map_nil
abbrev BQ:=@List.drop_append_of_le_length
abbrev BR:=@of_decide_eq_true
abbrev BT:=@List.ext_getElem?
abbrev BU:=@List.take_add_one
abbrev BV:=@List.length_nil
abbrev BW:=@Nat.mul_le_mul
abbrev BX:=@List.take_succ_cons
abbrev BY:=@List.mem_cons_of_mem
abbrev BZ:=@Nat.not_lt_zero
abbrev Ca:=@List.mem_range
abbrev Cb:=@Nat.eq_zero_or_pos
abbrev Cc:=@Nat.lt_of_le_of_lt
abbrev Cd:=@List.length_pos_iff
abbrev Ce:=@List.pairwise_iff_getElem
abbrev Cf:=@List.all_eq_true
abbrev Cg:=@List.mem_of_getElem?
abbrev Ch:=@Array.mem_toList_iff
abbrev Ci:=@Nat.sub_add_cancel
abbrev Cj:=@Array.toList_setIfInBounds
abbrev Ck:=@Decidable.not_not
abbrev Cl:=@List.getLast?_eq_none_iff
abbrev Cm:=@List.getElem?_drop
abbrev Cn:=@List.getElem_cons_zero
abbrev Co:=@List.not_mem_nil
abbrev Cp:=@List.mem_map_of_mem
abbrev Cq:=@Array.getElem?_toList
abbrev Cr:=@List.take_append_drop
abbrev Cs:=@List.mem_iff_getElem
abbrev Ct:=@List.take_left
abbrev Cu:=@List.getElem_map
abbrev Cv:=@ByteArray.size_extract
abbrev Cw:=@Nat.succ_ne_zero
abbrev Cx:=@Classical.not_not
abbrev Cy:=@Nat.add_assoc
abbrev Cz:=@Bool.or_eq_true
abbrev C0:=@Nat.add_comm
abbrev C7:=@Nat.mul_comm
abbrev C9:=@List.length_set
abbrev CA:=@Bool.false_eq_true
abbrev CB:=@List.count_eq_zero
abbrev CD:=@UInt8.toNat_ofNat'
abbrev CE:=@Option.getD_some
abbrev CF:=@List.pairwise_singleton
abbrev CG:=@List.perm_append_comm_assoc
abbrev CH:=@List.size_toArray
abbrev CI:=@Array.getElem_mem
abbrev CJ:=@Nat.sub_self
abbrev CK:=@List.flatten_cons
abbrev CL:=@List.foldl_cons
abbrev CM:=@Nat.min_eq_left
abbrev CN:=@Array.getElem?_setIfInBounds_ne
abbrev CO:=@List.mem_or_eq_of_mem_set
abbrev CP:=@Decidable.byContradiction
abbrev CQ:=@List.getLast?_eq_getElem?
abbrev CR:=@Nat.le_of_ble_eq_true
abbrev CS:=@Nat.mod_lt
abbrev CT:=@Nat.succ_mul
abbrev CU:=@List.mem_of_mem_take
abbrev CV:=@Bool.or_eq_false_iff
abbrev CW:=@List.foldl_nil
abbrev CX:=@List.pairwise_append
abbrev CY:=@Int.toNat_natCast
abbrev CZ:=@Nat.add_sub_cancel_left
abbrev Da:=@beq_eq_false_iff_ne
abbrev Db:=@List.flatten_append
abbrev Dc:=@ByteArray.data_extract
abbrev Dd:=@List.getElem_cons_succ
abbrev De:=@List.drop_of_length_le
abbrev Df:=@Bool.true_and
abbrev Dg:=@List.all_cons
abbrev Dh:=@Nat.lt_succ_self
abbrev Di:=@List.length_tail
abbrev Dj:=@beq_iff_eq
abbrev Dk:=@List.filter_append
abbrev Dl:=@Array.getElem?_modify
abbrev Dm:=@List.singleton_append
abbrev Dn:=@Int.natCast_mul
abbrev Do:=@Bool.not_eq_true'
abbrev Dp:=@Nat.lt_trichotomy
abbrev Dq:=@Nat.le_succ
abbrev Dr:=@Bool.false_or
abbrev Dt:=@Bool.and_true
abbrev Du:=@Nat.lt_irrefl
abbrev Dv:=@Bool.not_eq_true
abbrev Dw:=@List.eq_nil_iff_forall_not_mem
abbrev Dx:=@Bool.and_false
abbrev Dy:=@List.getElem?_cons_succ
abbrev Dz:=@List.length_eq_zero_iff
abbrev D0:=@List.drop_left
abbrev D1:=@List.all_nil
abbrev D2:=@Classical.em
abbrev D3:=@UInt8.toNat_inj
abbrev D4:=@Nat.div_le_self
abbrev D5:=@Nat.ble_eq_true_of_le
abbrev D6:=@ByteArray.size_append
abbrev D7:=@List.all_eq_false
abbrev D8:=@Array.getElem?_setIfInBounds_self_of_lt
abbrev D9:=@List.getElem?_append
abbrev DA:=@Nat.pow_succ
abbrev DB:=@List.set_set
abbrev DC:=@List.mem_flatten
abbrev DD:=@Array.mapM_eq_mapM_toList
abbrev DE:=@Nat.shiftRight_eq_div_pow
abbrev DF:=@Array.toList_append
abbrev DG:=@Array.getElem?_replicate
abbrev DH:=@List.nodup_cons
abbrev DI:=@List.all_append
abbrev DJ:=@List.range_succ
abbrev DK:=@List.not_lt_nil
abbrev DL:=@Nat.not_lt
abbrev DM:=@Nat.eq_or_lt_of_le
abbrev DN:=@Nat.add_mul
abbrev DO:=@List.map_set
abbrev DP:=@Option.map_eq_some_iff
abbrev DQ:=@List.findIdx_lt_length_of_exists
abbrev DR:=@List.set_append_right
abbrev DS:=@ByteArray.data_append
abbrev DT:=@Array.mem_of_getElem?
abbrev DU:=@UInt8.lt_iff_toNat_lt
abbrev DV:=@List.length_filter_le
abbrev DW:=@Nat.and_two_pow_sub_one_eq_mod
abbrev DX:=@List.any_cons
abbrev DY:=@Prod.mk.injEq
abbrev DZ:=@List.sum_cons
abbrev Ea:=@List.mem_of_mem_drop
abbrev Eb:=@Nat.le_zero
abbrev Ec:=@Nat.mul_eq_zero
abbrev Ed:=@List.any_append
abbrev Ee:=@List.drop_succ_cons
abbrev Ef:=@List.map_congr_left
abbrev Eg:=@List.map_map
abbrev Eh:=@Array.foldl_toList
abbrev Ei:=@List.mapM_cons
abbrev Ej:=@Nat.pos_of_ne_zero
abbrev Ek:=@Nat.pow_add
abbrev El:=@Nat.one_mul
abbrev Em:=@List.any_eq_true
abbrev En:=@Nat.div_eq_of_lt
abbrev Eo:=@Prod.ext
abbrev Ep:=@Bool.or_true
abbrev Eq:=@Nat.zero_mul
abbrev Es:=@Nat.sub_zero
abbrev Et:=World
abbrev Eu:=ByteArray
abbrev Ev:=Program
abbrev Ew:=TypeId
abbrev Ex:=UInt8
abbrev Ey:=List (Nat×Obj)
abbrev Ez:=List Value
abbrev E0:=List Nat
noncomputable abbrev E4:=Tryz.prog
abbrev E6:=Array Value
abbrev E7:=List Deferred
theorem Oo{p:Prop}(e:p:=by omega):p:=e
theorem Jk{p:Prop}(e:p:=by kernel_rfl):p:=e
theorem Od{p:Prop}(e:p:=by decide):p:=e
theorem Js{p:Prop}(e:p:=by simp):p:=e
theorem Ys{p:Prop}(e:p:=by(simp;omega)):p:=e
theorem Oa{p:Prop}(e:p:=by assumption):p:=e
theorem mh{α:Type}{a:α}{l:List α}:a∈a::l:=AO ..
abbrev LB:=List Ex
abbrev oA:=Option Addr
abbrev ii(n:Int):Value:=.int .i64 n
abbrev pp(b:Nat):Value:=.pointer (some ⟨b,0,none⟩)
theorem zge{α:Type}{l:List α}{i:Nat}(h:i<l.length):l[i]?=some l[i]:=Bt h
theorem zld{α:Type}{i:Nat}{l:List α}:(l.drop i).length=l.length-i:=List.length_drop ..
theorem zla{α:Type}{l m:List α}:(l++m).length=l.length+m.length:=List.length_append ..
theorem znr{n:Nat}:n<=n:=Ar _
theorem zmg{α:Type}{l:List α}{i:Nat}{a:α}(h:l[i]?=some a):a∈l:=Cg h
theorem zmc{α:Type}{a y:α}{l:List α}(h:a∈l):a∈y::l:=BY _ h
namespace V
def upd(ρ:Nat->Value)(d:Nat)(v:Value):Nat->Value:=fun t=>bif Nat.beq t d then v else ρ t
def ev(ρ:Nat->Value):Operand->Value
 | .tmp t=>ρ t
 | .const v=>v
 | .global g=>.pointer (some ⟨g,0,none⟩)
 | .func f=>.func (.func f) #[] #[]
def qcx:Value->Bool
 | .agg _ | .tuple _=>false
 | _=>true
structure St(n:Nat)(ρ:Nat->Value)(a:Act):Prop where
 size:a.tmps.size=n
 get:∀t,a.tmps.getD t undef=ρ t
 defers:a.defers=[]
theorem St.eval{n:Nat}{ρ:Nat->Value}{a:Act}(h:St n ρ a):a.eval=ev ρ:=by
 funext x;cases x<;>simp[Act.eval,ev,h.get]
theorem St.put{n:Nat}{ρ:Nat->Value}{a:Act}(h:St n ρ a){d:Nat}(hd:d<n)(v:Value):St n (upd ρ d v) (a.put (some d) v):=by
 refine⟨by simp[Act.put,h.size],fun t=>?_,by simp[Act.put,h.defers]⟩;have hg:=h.get t;have hs:=h.size;simp only[Act.put,upd,BN]at hg|-
 by_cases e:t=d
 ·subst e;simp[hs,hd]
 ·have e':Nat.beq t d=false:=Bz.2 fun h=>e (Bn h)
  rw[e',CN (fun x=>e x.symm)]
  simpa using hg
theorem St.same{n:Nat}{ρ:Nat->Value}{a:Act}(h:St n ρ a){d:Nat}{v:Value}(hv:ρ d=v):St n (upd ρ d v) a:=by
 refine⟨h.size,fun t=>?_,h.defers⟩;rw[h.get];unfold upd
 by_cases e:t=d
 ·subst e;simp[hv]
 ·have e':Nat.beq t d=false:=Bz.2 fun h=>e (Bn h)
  rw[e'];rfl
structure Tst(b:Bool)(p q:Prop):Prop where
 t:b=true->p
 f:b=false->q
theorem Tst.tt{p q:Prop}(h:p):Tst true p q:=⟨fun _=>h,fun e=>by cases e⟩
theorem Tst.ff{p q:Prop}(h:q):Tst false p q:=⟨(fun e=>by cases e),fun _=>h⟩
theorem Tst.dec{c p q:Prop}[Decidable c](h1:c->p)(h2:¬c->q):Tst (decide c) p q:=⟨fun e=>h1 (BR e),fun e=>h2 (of_decide_eq_false e)⟩
theorem Tst.not{b:Bool}{p q:Prop}(h:Tst b q p):Tst (!b) p q:=⟨fun e=>h.f (by simpa using e),fun e=>h.t (by simpa using e)⟩
theorem Tst.beqT{b c:Bool}{p q:Prop}(h:Tst b p q)(hc:c=true:=by rfl):Tst (b==c) p q:=by subst hc;cases b<;>exact h
theorem Tst.beqF{b c:Bool}{p q:Prop}(h:Tst b q p)(hc:c=false:=by rfl):Tst (b==c) p q:=by
 subst hc;cases b
 ·exact⟨fun _=>h.f rfl,fun e=>by cases e⟩
 ·exact⟨(fun e=>by cases e),fun _=>h.t rfl⟩
theorem Tst.iff(c:Prop){b:Bool}{p q:Prop}(hb:b=true↔c)(h1:c->p)(h2:¬c->q):Tst b p q:=⟨fun e=>h1 (hb.1 e),fun e=>h2 (fun hc=>by rw[hb.2 hc]at e;cases e)⟩
theorem Tst.yes{b:Bool}{p q:Prop}(hb:b=true)(h:p):Tst b p q:=⟨fun _=>h,fun e=>by rw[hb]at e;cases e⟩
theorem Tst.no{b:Bool}{p q:Prop}(hb:b=false)(h:q):Tst b p q:=⟨(fun e=>by rw[hb]at e;cases e),fun _=>h⟩
theorem Tst.both{b:Bool}{p q:Prop}(h1:b=true->p)(h2:b=false->q):Tst b p q:=⟨h1,h2⟩
structure Obl(p k:Prop):Prop where
 o:p
 k:k
structure Wit{α:Type}(p:α->Prop)(K:α->Prop):Prop where
 h:∃x,p x/\K x
def qdx(P:Ev)(f:FuncId):Bool:=
 match P.funcs[f]? with
 | some fn => !(fn.name== "runtime.NumGoroutine")&&fn.body.isSome
 | none=>false
def Gv(P:Ev)(f:FuncId)(args:Ez)(w:Et)(R:Value->Et->Prop):Prop:=
 qdx P f=true/\Calls P f args.toArray w fun e w'=>∃v,e=.returned v/\R v w'
structure RunV(P:Ev)(s:Sem Value)(w:Et)(K:Value->Et->Prop):Prop where
 h:∃v w',s.run P w=.ok v w'/\K v w'
structure Fall(P:Ev)(s:Sem Next)(w:Et)(K:Value->Et->Prop):Prop where
 h:(∃v w',s.run P w=.ok (.value v) w'/\K v w')\/(∃w',s.run P w=.ok .skip w'/\K undef w')
structure LoadV(w:Et)(b off:Nat)(K:Value->Prop):Prop where
 h:∃v,w.cell? ⟨b,off,none⟩=some v/\K v
structure LoadA(w:Et)(b off size:Nat)(K:Ez->Prop):Prop where
 h:∃cs:Ez,cs.length=size/\(∀i,i<size->w.cell? ⟨b,off+i,none⟩=cs[i]?)/\K cs
structure StoreV(w:Et)(b off:Nat)(v:Value)(K:Et->Prop):Prop where
 h:(∃o,w.cell? ⟨b,off,none⟩=some o)/\w.frozen? ⟨b,off,none⟩=false/\qcx v=true/\K (w.setCell ⟨b,off,none⟩ v)
structure StoreA(P:Ev)(w:Et)(b off:Nat)(vs:Ez)(K:Et->Prop):Prop where
 h:∃w',(storeCells ⟨b,off,none⟩ vs).run P w=.ok () w'/\K w'
structure AppV(P:Ev)(argTypes:Array Ew)(ty:Ew)(s x:Value)(w:Et)(K:Value->Et->Prop):Prop where
 h:∃v w',(Builtin.append_ argTypes ty #[s,x]).run P w=.ok v w'/\K v w'
structure NewV(w:Et)(o:Obj)(K:Nat->Et->Prop):Prop where
 h:∀b w',b=w.heap.size->w'=w.alloc o->K b w'
structure ElemV(A:Option Addr)(i:Int)(len size:Nat)(K:Value->Prop):Prop where
 h:∃(b off j:Nat),A=some ⟨b,off,none⟩/\i=(j:Int)/\j<len/\K (.pointer (some ⟨b,off+j*size,none⟩))
structure LoopV(P:Ev)(n:Nat)(body:Code)(Q:Exit->(Nat->Value)->Et->Prop)(ρ:Nat->Value)(w:Et):Prop where
 h:∀a,St n ρ a->(Code.loop body).wp P (fun e a' w'=>∃ρ',St n ρ' a'/\Q e ρ' w') a w
structure DrawV(P:Ev)(n id:Nat)(ops:Array Oper)(Q:Exit->(Nat->Value)->Et->Prop)(ρ:Nat->Value)(w:Et):Prop where
 h:∀a,St n ρ a->(Code.region id ops true).wp P (fun e a' w'=>∃ρ',St n ρ' a'/\Q e ρ' w') a w
structure CodeV(P:Ev)(n:Nat)(c:Code)(Q:Exit->(Nat->Value)->Et->Prop)(ρ:Nat->Value)(w:Et):Prop where
 h:∀a,St n ρ a->c.wp P (fun e a' w'=>∃ρ',St n ρ' a'/\Q e ρ' w') a w
def InR(k:IntKind)(n:Int):Prop:=
 match k with
 | .i64=>-9223372036854775808<=n/\n<=9223372036854775807
 | .i32=>-2147483648<=n/\n<=2147483647
 | .i16=>-32768<=n/\n<=32767
 | .i8=>-128<=n/\n<=127
 | .u64=>0<=n/\n<=18446744073709551615
 | .u32=>0<=n/\n<=4294967295
 | .u16=>0<=n/\n<=65535
 | .u8=>0<=n/\n<=255
def eqk:IntKind->IntKind->Bool
 | .i64,.i64 | .i32,.i32 | .i16,.i16 | .i8,.i8 | .u64,.u64 | .u32,.u32 | .u16,.u16 | .u8,.u8=>true
 | _,_=>false
theorem qacd{k j:IntKind}(h:eqk k j=true):k=j:=by cases k<;>cases j<;>first|rfl|cases h
def gb(s:Eu)(k:Nat):Ex:=s.data.toList.getD k 0
def seq(x y:Eu):Bool:=x.data==y.data
def slt(x y:Eu):Bool:=Op.bytesLess x.toList y.toList
def qev(op:BinOp)(k:IntKind)(x y:Int):Int:=
 let a:=BitVec.ofInt k.bits x
 let b:=BitVec.ofInt k.bits y
 match op with
 | .and=>k.wrap (a &&&b).toNat
 | .or=>k.wrap (a |||b).toNat
 | .xor=>k.wrap (a ^^^ b).toNat
 | _=>k.wrap (a &&& ~~~b).toNat
def qil(v:Value)(K:Value->Prop):Prop:=
 match v with
 | .bool b=>K (.bool b)
 | .int k n=>K (.int k n)
 | .float k n=>K (.float k n)
 | .complex k a b=>K (.complex k a b)
 | .string s=>K (.string s)
 | .pointer a=>K (.pointer a)
 | .slice a l c=>K (.slice a l c)
 | .map r=>K (.map r)
 | .chan r=>K (.chan r)
 | .func f a c=>K (.func f a c)
 | .nilFunc=>K .nilFunc
 | .iface t v=>K (.iface t v)
 | .nilIface=>K .nilIface
 | .agg cs=>K (.agg cs)
 | .tuple vs=>K (.tuple vs)
theorem qbl(v:Value)(K:Value->Prop):qil v K=K v:=by cases v<;>rfl
def qce:Ez->(Ez->Prop)->Prop
 | [],K=>K []
 | v::l,K=>qil v fun u=>qce l fun r=>K (u::r)
theorem qai(l:Ez):∀K:Ez->Prop,qce l K=K l:=by
 induction l with
 | nil=>intro K;rfl
 | cons v l ih=>intro K;simp only[qce,qbl,ih]
def evs(ρ:Nat->Value):List Operand->Ez
 | []=>[]
 | x::l=>ev ρ x::evs ρ l
theorem qes(ρ:Nat->Value)(l:List Operand):evs ρ l=l.map (ev ρ):=by induction l<;>simp[evs, *]
def setL:Ez->Nat->Value->Ez
 | [],_,_=>[]
 | _::l,0,v=>v::l
 | x::l,i+1,v=>x::setL l i v
theorem qaa5(l:Ez)(i:Nat)(v:Value):setL l i v=l.set i v:=by
 induction l generalizing i with
 | nil=>rfl
 | cons x l ih=>cases i<;>simp[setL,ih]
def qgp:Operand->Bool
 | .const _=>true
 | _=>false
def isEq:BinOp->Bool
 | .eql | .neq=>true
 | _=>false
def eqOp:BinOp->Bool
 | .eql=>true
 | _=>false
def qky(P:Ev)(t:Ew)(xo yo:Operand)(x y:Value):Option Bool:=
 match x,y with
 | .pointer none,.pointer b=>match P.underlying t with|some (.pointer _)=>some b.isNone|_=>none
 | .pointer (some _),.pointer none=>match P.underlying t with|some (.pointer _)=>some false|_=>none
 | .slice none _ _,.slice b _ _=>match P.underlying t with|some (.slice _)=>some b.isNone|_=>none
 | .slice (some _) _ _,.slice none _ _=>match P.underlying t with|some (.slice _)=>some false|_=>none
 | .nilIface,.nilIface=>match P.underlying t with|some (.interface _)=>(bif qgp xo||qgp yo then some true else none)|_=>none
 | .nilIface,.iface _ _=>match P.underlying t with|some (.interface _)=>some false|_=>none
 | .iface _ _,.nilIface=>match P.underlying t with|some (.interface _)=>some false|_=>none
 | _,_=>none
def binV(P:Ev)(op:BinOp)(t:Ew)(xo yo:Operand)(x y:Value)(w:Et)(K:Value->Prop)(KW:Value->Et->Prop):Prop:=
 match x,y with
 | .int k a,.int k' b=>
  match op with
  | .shl=>Wit (fun r=>0<=b/\b<k.bits/\k.wrap (a*2 ^ b.toNat)=r) (fun r=>K (.int k r))
  | .shr=>Wit (fun r=>0<=b/\b<k.bits/\a/2 ^ b.toNat=r) (fun r=>K (.int k r))
  | _=>bif eqk k k' then
   match op with
   | .add=>Obl (InR k (a+b)) (K (.int k (a+b)))
   | .sub=>Obl (InR k (a-b)) (K (.int k (a-b)))
   | .mul=>Obl (InR k (a*b)) (K (.int k (a*b)))
   | .quo=>Obl (0<=a/\0<b/\InR k (a/b)) (K (.int k (a/b)))
   | .rem=>Obl (0<=a/\0<b) (K (.int k (a%b)))
   | .eql=>K (.bool (decide (a=b)))
   | .neq=>K (.bool (decide (a≠b)))
   | .lss=>K (.bool (decide (a<b)))
   | .leq=>K (.bool (decide (a<=b)))
   | .gtr=>K (.bool (decide (b<a)))
   | .geq=>K (.bool (decide (b<=a)))
   | _=>Wit (fun r=>qev op k a b=r) (fun r=>K (.int k r))
   else False
 | .string a,.string b=>
  match op with
  | .add=>Obl (a.size+b.size<=9223372036854775807) (K (.string (a++b)))
  | .eql=>K (.bool (seq a b))
  | .neq=>K (.bool (!seq a b))
  | .lss=>K (.bool (slt a b))
  | .leq=>K (.bool (slt a b||seq a b))
  | .gtr=>K (.bool (!(slt a b||seq a b)))
  | .geq=>K (.bool (!slt a b))
  | _=>False
 | .bool a,.bool b=>
  match op,P.underlying t with
  | .eql,some .bool=>K (.bool (a==b))
  | .neq,some .bool=>K (.bool (!(a==b)))
  | _,_=>False
 | x,y=>bif isEq op then(match qky P t xo yo x y with|some b=>K (.bool (bif eqOp op then b else !b))|none=>RunV P (do eqGuard op t xo yo x y;binOp op t x y) w KW)else RunV P (do eqGuard op t xo yo x y;binOp op t x y) w KW
theorem ql8(a b:Eu):(a.toList==b.toList)=seq a b:=by
 unfold seq;rw[ByteArray.toList_eq,ByteArray.toList_eq,AX,Dj,Dj]
 constructor
 ·intro h;exact Bk.1 h
 ·intro h;rw[h]
theorem qac{a b:Eu}:seq a b=true↔a=b:=by
 unfold seq;rw[Dj];cases a;cases b;simp
theorem qrf{a b:Eu}:seq a b=false↔a≠b:=by
 rw[<-Dv,qac]
theorem Tst.seq{a b:Eu}{p q:Prop}(h1:a=b->p)(h2:a≠b->q):Tst (seq a b) p q:=⟨fun e=>h1 (qac.1 e),fun e=>h2 (qrf.1 e)⟩
theorem InR.wrap{k:IntKind}{n:Int}(h:InR k n):k.wrap n=n:=by
 cases k<;>obtain⟨h1,h2⟩:=h<;>simp[IntKind.bits,IntKind.signed,IntKind.wrap]<;>(try split)<;>omega
theorem qcn{P:Ev}{w:Et}{k:IntKind}{a b:Int}{op:BinOp}(t:Ew)(xo yo:Operand)(h:op=.and\/op=.or\/op=.xor\/op=.andNot):
  (do eqGuard op t xo yo (.int k a) (.int k b);binOp op t (.int k a) (.int k b):Sem Value).run P w=.ok (.int k (qev op k a b)) w:=by
 rcases h with rfl|rfl|rfl|rfl<;>simp[eqGuard,binOp,Op.intBits,qev,go_sem]<;>rfl
theorem qjt{P:Ev}{w:Et}{t:Ew}{a b:Bool}(d:Nat)(hu:P.underlying t=some .bool):
  (Op.equalIn (d+1) t (.bool a) (.bool b)).run P w=.ok (a==b) w:=by
 simp[Op.equalIn,run_underlying hu]
theorem qgk{P:Ev}{w:Et}{t:Ew}{a b:Bool}(hu:P.underlying t=some .bool):
  (Op.equal t (.bool a) (.bool b)).run P w=.ok (a==b) w:=qjt 9999 hu
theorem qle{P:Ev}{w:Et}{t:Ew}{xo yo:Operand}{x y:Value}{b:Bool}(d:Nat)(h:qky P t xo yo x y=some b):(Op.equalIn (d+1) t x y).run P w=.ok b w:=by
 unfold qky at h
 split at h
 ·split at h
  ·rename_i hu;cases h;simp[Op.equalIn,run_underlying hu]
  ·cases h
 ·split at h
  ·rename_i hu;cases h;simp[Op.equalIn,run_underlying hu]
  ·cases h
 ·split at h
  ·rename_i hu;cases h;simp[Op.equalIn,run_underlying hu]
  ·cases h
 ·split at h
  ·rename_i hu;cases h;simp[Op.equalIn,run_underlying hu]
  ·cases h
 ·split at h
  ·rename_i hu
   cases hc:qgp xo||qgp yo<;>rw[hc]at h
   ·cases h
   ·cases h;simp[Op.equalIn,run_underlying hu]
  ·cases h
 ·split at h
  ·rename_i hu;cases h;simp[Op.equalIn,run_underlying hu]
  ·cases h
 ·split at h
  ·rename_i hu;cases h;simp[Op.equalIn,run_underlying hu]
  ·cases h
 ·cases h
theorem qld{P:Ev}{w:Et}{t:Ew}{xo yo:Operand}{x y:Value}{b:Bool}{op:BinOp}(h:qky P t xo yo x y=some b):(eqGuard op t xo yo x y).run P w=.ok () w:=by
 unfold qky at h
 split at h
 all_goals try (cases op<;>simp[eqGuard];done)
 ·split at h
  ·cases hc:qgp xo||qgp yo<;>rw[hc]at h
   ·cases h
   ·cases op<;>cases xo<;>cases yo<;>simp_all[eqGuard,qgp]
  ·cases h
 ·cases h
theorem qaa0{P:Ev}{w:Et}{t:Ew}{xo yo:Operand}{x y:Value}{b:Bool}{op:BinOp}(ho:isEq op=true)(h:qky P t xo yo x y=some b)(h1:∀k a,x≠.int k a)(h2:∀a,x≠.string a)(h3:∀a,x≠.bool a):
  (do eqGuard op t xo yo x y;binOp op t x y:Sem Value).run P w=.ok (.bool (bif eqOp op then b else !b)) w:=by
 have hg:=qld (w:=w) (op:=op) h;have he:=qle (w:=w) 9999 h;cases op<;>first|(cases ho;done)|skip
 ·unfold qky at h;cases x<;>cases y<;>first|(cases h;done)|(simp[hg,binOp,Op.equal,Op.maxDepth,he,eqOp])
 ·unfold qky at h;cases x<;>cases y<;>first|(cases h;done)|(simp[hg,binOp,Op.equal,Op.maxDepth,he,eqOp])
theorem qwd{P:Ev}{op:BinOp}{t:Ew}{xo yo:Operand}{x y:Value}{w:Et}{K:Value->Et->Prop}(h:binV P op t xo yo x y w (fun v=>K v w) K):
  ∃v w',(do eqGuard op t xo yo x y;binOp op t x y:Sem Value).run P w=.ok v w'/\K v w':=by
 unfold binV at h
 split at h
 ·rename_i k a k' b
  have hkk:op≠.shl->op≠.shr->eqk k k'=true:=by
   intro h1 h2;cases e:eqk k k'
   ·rw[e]at h;cases op<;>first|exact absurd rfl h1|exact absurd rfl h2|exact h.elim
   ·rfl
  cases op<;>simp only at h
  case shl=>
   obtain⟨r,⟨h0,h1,rfl⟩,hk⟩:=h;refine⟨_,w,?_,hk⟩;have e:¬b<0:=by omega
   have e2:min b.toNat k.bits=b.toNat:=by omega
   have es:Op.shift .shl k a k' b=pure (.int k (k.wrap (a*2 ^ b.toNat))):=by simp only[Op.shift,Aa e,e2]
   simp[eqGuard,binOp,es,go_sem]
  case shr=>
   obtain⟨r,⟨h0,h1,rfl⟩,hk⟩:=h;refine⟨_,w,?_,hk⟩;have e:¬b<0:=by omega
   have e2:min b.toNat k.bits=b.toNat:=by omega
   have e3:a.fdiv (2 ^ b.toNat)=a/2 ^ b.toNat:=Int.fdiv_eq_ediv_of_nonneg _ (by exact Int.le_of_lt (Int.pow_pos Od));have es:Op.shift .shr k a k' b=pure (.int k (a/2 ^ b.toNat)):=by simp only[Op.shift,Aa e,e2,e3]
   simp[eqGuard,binOp,es,go_sem]
  all_goals(obtain rfl:=qacd (hkk Js Js);rw[hkk Js Js]at h;simp only[cond_true]at h)
  case add=>obtain⟨hr,hk⟩:=h;exact⟨_,w,by simp[eqGuard,binOp,Op.intArith,go_sem,hr.wrap],hk⟩
  case sub=>obtain⟨hr,hk⟩:=h;exact⟨_,w,by simp[eqGuard,binOp,Op.intArith,go_sem,hr.wrap],hk⟩
  case mul=>obtain⟨hr,hk⟩:=h;exact⟨_,w,by simp[eqGuard,binOp,Op.intArith,go_sem,hr.wrap],hk⟩
  case quo=>
   obtain⟨⟨h0,h1,hr⟩,hk⟩:=h;refine⟨_,w,?_,hk⟩;have e:b≠0:=by omega
   have e2:a.tdiv b=a/b:=Int.tdiv_eq_ediv_of_nonneg h0;simp[eqGuard,binOp,Op.intDiv,go_sem,e,e2,hr.wrap]
  case rem=>
   obtain⟨⟨h0,h1⟩,hk⟩:=h;refine⟨_,w,?_,hk⟩;have e:b≠0:=by omega
   have e2:a.tmod b=a%b:=Int.tmod_eq_emod_of_nonneg h0;simp[eqGuard,binOp,Op.intDiv,go_sem,e,e2]
  case and=>obtain⟨r,rfl,hk⟩:=h;exact⟨_,w,qcn _ _ _ Js,hk⟩
  case or=>obtain⟨r,rfl,hk⟩:=h;exact⟨_,w,qcn _ _ _ Js,hk⟩
  case xor=>obtain⟨r,rfl,hk⟩:=h;exact⟨_,w,qcn _ _ _ Js,hk⟩
  case andNot=>obtain⟨r,rfl,hk⟩:=h;exact⟨_,w,qcn _ _ _ Js,hk⟩
  case eql=>
   refine⟨_,w,?_,h⟩;have e:(a==b)=decide (a=b):=rfl;simp[eqGuard,binOp,Op.intCmp,go_sem,e]
  case neq=>
   refine⟨_,w,?_,h⟩;have e:(a != b)=decide (a≠b):=by rw[AX];simp
   simp[eqGuard,binOp,Op.intCmp,go_sem,e]
  case lss=>exact⟨_,w,by simp[eqGuard,binOp,Op.intCmp,go_sem],h⟩
  case leq=>exact⟨_,w,by simp[eqGuard,binOp,Op.intCmp,go_sem],h⟩
  case gtr=>exact⟨_,w,by simp[eqGuard,binOp,Op.intCmp,go_sem],h⟩
  case geq=>exact⟨_,w,by simp[eqGuard,binOp,Op.intCmp,go_sem],h⟩
 ·rename_i a b
  cases op<;>simp only at h
  case add=>
   obtain⟨h1,hk⟩:=h;refine⟨_,w,?_,hk⟩;simp[eqGuard,binOp,Op.stringOp,go_sem];omega
  case eql=>exact⟨_,w,by simp[eqGuard,binOp,Op.stringOp,go_sem,ql8],h⟩
  case neq=>exact⟨_,w,by simp[eqGuard,binOp,Op.stringOp,go_sem,ql8],h⟩
  case lss=>exact⟨_,w,by simp[eqGuard,binOp,Op.stringOp,go_sem,slt],h⟩
  case leq=>exact⟨_,w,by simp[eqGuard,binOp,Op.stringOp,go_sem,slt,ql8],h⟩
  case gtr=>exact⟨_,w,by simp[eqGuard,binOp,Op.stringOp,go_sem,slt,ql8],h⟩
  case geq=>exact⟨_,w,by simp[eqGuard,binOp,Op.stringOp,go_sem,slt],h⟩
 ·rename_i a b
  split at h
  ·rename_i hu
   exact⟨_,w,by simp[eqGuard,binOp,qgk hu,go_sem],h⟩
  ·rename_i hu
   exact⟨_,w,by simp[eqGuard,binOp,qgk hu,go_sem],h⟩
  ·exact h.elim
 ·cases ho:isEq op<;>rw[ho]at h<;>dsimp only[cond_true,cond_false]at h
  ·obtain⟨v,w',h1,h2⟩:=h;exact⟨v,w',h1,h2⟩
  ·split at h
   ·rename_i b hb
    exact⟨_,w,qaa0 ho hb (fun k a e=>by subst e;simp[qky]at hb) (fun a e=>by subst e;simp[qky]at hb) (fun a e=>by subst e;simp[qky]at hb),h⟩
   ·obtain⟨v,w',h1,h2⟩:=h;exact⟨v,w',h1,h2⟩
def aggD:TypeDesc->Bool
 | .struct _ | .array _ _=>true
 | _=>false
def tsz(P:Ev)(t:Ew):Nat:=match P.info? t with|some i=>i.size|none=>0
def hasT(P:Ev)(t:Ew):Bool:=(P.info? t).isSome
def getL{α:Type}:List α->Nat->Option α
 | [],_=>none
 | v::_,0=>some v
 | _::l,i+1=>getL l i
theorem ql{α:Type}(l:List α)(i:Nat):getL l i=l[i]?:=by
 induction l generalizing i with
 | nil=>rfl
 | cons v l ih=>cases i<;>simp[getL,ih]
structure IdxV(i:Int)(n:Nat)(K:Nat->Prop):Prop where
 h:∃j:Nat,i=(j:Int)/\j<n/\K j
def OpOk2(P:Ev)(s:Sem Next)(w:Et)(K:Value->Et->Prop):Prop:=
 (∃v w',s.run P w=.ok (.value v) w'/\K v w')\/(∃w',s.run P w=.ok .skip w'/\K undef w')
def OpOk(P:Ev)(s:Sem Next)(w:Et)(K:Value->Et->Prop):Prop:=
 OpOk2 P s w K\/(∃f args,s.run P w=.ok (.enter f args) w/\Calls P f args w fun e w'=>∃v,e=.returned v/\K v w')
theorem OpOk2.val{P:Ev}{s:Sem Value}{w:Et}{K:Value->Et->Prop}(h:∃v w',s.run P w=.ok v w'/\K v w'):
  OpOk2 P (do pure (.value (<-s))) w K:=by
 obtain⟨v,w',h1,h2⟩:=h;exact .inl ⟨v,w',by simp[h1],h2⟩
theorem OpOk2.unit{P:Ev}{s:Sem Unit}{w:Et}{K:Value->Et->Prop}(h:∃w',s.run P w=.ok () w'/\K undef w'):
  OpOk2 P (do s;pure .skip) w K:=by
 obtain⟨w',h1,h2⟩:=h;exact .inr ⟨w',by simp[h1],h2⟩
theorem OpOk.wp{P:Ev}{o:Oper}{ρ:Nat->Value}{w:Et}{K:Value->Et->Prop}{a:Act}{next:Act->Et->Prop}{Q:Exit->Act->Et->Prop}(he:a.eval=ev ρ)(h:OpOk P (execOp (ev ρ) o) w K)(hn:∀v w',K v w'->next (a.put o.dst v) w'):o.wp P a w next Q:=by
 unfold Oper.wp;rw[he]
 rcases h with(⟨v,w',h1,h2⟩|⟨w',h1,h2⟩)|⟨f,args,h1,h2⟩
 ·rw[h1];exact hn _ _ h2
 ·rw[h1];exact hn _ _ h2
 ·rw[h1,Oper.upon_enter];refine h2.mono fun e w' ⟨v,he,hk⟩=>?_;subst he;exact hn _ _ hk
def qaaj(c a b:Value)(K:Value->Prop):Prop:=
 match c with
 | .bool t=>Tst t (qil a K) (qil b K)
 | _=>False
def idxV(P:Ev)(t:Ew)(x i:Value)(K:Value->Prop):Prop:=
 match P.underlying t,x,i with
 | some .string,.string s,.int _ i=>IdxV i s.size fun j=>K (.int .u8 (gb s j).toNat)
 | some (.array n e),.agg cs,.int _ i=>
  match P.underlying e with
  | some d=>bif hasT P e then bif aggD d then IdxV i n fun j=>Wit (fun l:Ez=>(cs.toList.drop (j*tsz P e)).take (tsz P e)=l) fun l=>K (.agg l.toArray)
   else IdxV i n fun j=>Wit (fun v:Value=>cs.toList[j*tsz P e]?=some v) K else False
  | none=>False
 | _,_,_=>False
def qn5(P:Ev)(t:Ew)(x i:Value)(K:Value->Prop):Prop:=
 match P.underlying t,x,i with
 | some (.slice e),.slice A len _,.int _ i=>bif hasT P e then ElemV A i len (tsz P e) K else False
 | some (.array n e),.pointer (some ⟨b,off,none⟩),.int _ i=>bif hasT P e then IdxV i n fun j=>K (.pointer (some ⟨b,off+j*tsz P e,none⟩))else False
 | _,_,_=>False
def qwy(P:Ev)(t:Ew)(x:Value)(w:Et)(K:Value->Prop):Prop:=
 match P.underlying t,x with
 | some d,.pointer (some ⟨b,off,none⟩)=>
  bif aggD d then bif hasT P t then LoadA w b off (tsz P t) fun cs=>qce cs fun l=>K (.agg l.toArray)else False
  else LoadV w b off fun v=>qil v K
 | _,_=>False
def qv1(P:Ev)(t:Ew)(x v:Value)(w:Et)(s:Sem Next)(K:Value->Et->Prop):Prop:=
 match x with
 | .pointer (some ⟨b,off,none⟩)=>
  match v with
  | .tuple _=>Fall P s w K
  | .agg cs=>bif hasT P t&&Nat.beq (tsz P t) cs.toList.length then StoreA P w b off cs.toList fun w'=>K undef w' else False
  | v=>bif hasT P t&&Nat.beq (tsz P t) 1 then StoreV w b off v fun w'=>K undef w' else False
 | _=>False
def qnu(x:Value)(ix:Nat)(K:Value->Prop):Prop:=
 match x with
 | .tuple vs=>match getL vs.toList ix with
  | some v=>qil v K
  | none=>False
 | _=>False
def qih(P:Ev)(t:Ew)(x:Value)(f:Nat)(K:Value->Prop):Prop:=
 match P.underlying t,x with
 | some (.struct fs),.pointer (some ⟨b,off,none⟩)=>
  match getL fs.toList f with
  | some f=>bif hasT P f.type && !Nat.beq (tsz P f.type) 0 then K (.pointer (some ⟨b,off+f.offset,none⟩))else False
  | none=>False
 | _,_=>False
def qzk(P:Ev)(t:Ew)(x:Value)(f:Nat)(K:Value->Prop):Prop:=
 match P.underlying t,x with
 | some (.struct fs),.agg cs=>
  match getL fs.toList f with
  | some f=>match P.underlying f.type with
   | some d=>bif aggD d then bif hasT P f.type then qce ((cs.toList.drop f.offset).take (tsz P f.type)) fun l=>K (.agg l.toArray)else False
    else match getL cs.toList f.offset with
     | some v=>qil v K
     | none=>False
   | none=>False
  | none=>False
 | _,_=>False
def boxV(t:Ew)(v:Value)(w:Et)(K:Value->Et->Prop):Prop:=
 qce v.cells.toList fun l=>NewV w (.cells l.toArray t) fun b w'=>K (.pointer (some ⟨b,0,none⟩)) w'
def qt8(P:Ev)(t:Ew)(w:Et)(K:Value->Et->Prop):Prop:=
 match P.info? t with
 | some i=>match i.zero with
  | some z=>boxV t z w K
  | none=>False
 | none=>False
def CellsAt(w:Et)(b off:Nat)(vs:Ez):Prop:=∀k v,vs[k]?=some v->w.cell? ⟨b,off+k,none⟩=some v
def byteCells(l:List Ex):Ez:=l.map fun c=>.int .u8 c.toNat
structure BytesS(w:Et)(A:Option Addr)(n:Nat)(K:Value->Prop):Prop where
 h:∃l:List Ex,l.length=n/\(l≠[]->∃b off,A=some ⟨b,off,none⟩/\CellsAt w b off (byteCells l))/\K (.string ⟨l.toArray⟩)
structure NewBytesV(s:Eu)(e:Ew)(w:Et)(K:Value->Et->Prop):Prop where
 h:∀cap cs b w',s.size<=cap->cs=(byteCells s.data.toList++List.replicate (cap-s.size) (Value.int .u8 0)).toArray->b=w.heap.size->
  w'=w.drew.alloc (.cells cs e (cs.size,cs.size+1))->K (.slice (some ⟨b,0,none⟩) s.size cap) w'
def q8w(P:Ev)(src dst:Ew)(x:Value)(w:Et)(s:Sem Next)(K:Value->Et->Prop):Prop:=
 match P.underlying src,P.underlying dst,x with
 | some _,some (.int k),.int _ n=>Wit (fun r=>k.wrap n=r) fun r=>K (.int k r) w
 | some .string,some .string,.string s=>K (.string s) w
 | some (.int _),some .string,.int _ n=>K (.string (Utf8.encode n)) w
 | some (.slice e),some .string,.slice A n _=>match P.underlying e with
  | some (.int .u8)=>BytesS w A n fun v=>K v w
  | _=>Fall P s w K
 | some .string,some (.slice e),.string x=>match P.underlying e with
  | some (.int .u8)=>NewBytesV x e w K
  | _=>Fall P s w K
 | _,_,_=>Fall P s w K
def unV(op:UnOp)(x:Value)(K:Value->Prop):Prop:=
 match op,x with
 | .not,.bool b=>K (.bool (!b))
 | .neg,.int k n=>Obl (InR k (-n)) (K (.int k (-n)))
 | .xor,.int k n=>Wit (fun r=>qev .xor k (if k.signed then -1 else k.max) n=r) (fun r=>K (.int k r))
 | _,_=>False
def bnd(o:Option Value)(d n:Nat):Prop:=
 match o with
 | none=>n=d
 | some (.int _ i)=>i=(n:Int)
 | _=>False
structure SliceS(s:Eu)(lo hi:Option Value)(K:Value->Prop):Prop where
 h:∃l h:Nat,bnd lo 0 l/\bnd hi s.size h/\l<=h/\h<=s.size/\K (.string (s.extract l h))
structure SliceV(size:Nat)(A:Option Addr)(len cap:Nat)(lo hi mx:Option Value)(K:Value->Prop):Prop where
 h:∃l h m:Nat,bnd lo 0 l/\bnd hi len h/\bnd mx cap m/\l<=h/\h<=m/\m<=cap/\(mx.isSome=true->hi.isSome=true)/\
  ∀A',A'=(if m=l then A else A.map (·.add (l*size)))->K (.slice A' (h-l) (m-l))
def evo(ρ:Nat->Value):Option Operand->Option Value
 | none=>none
 | some x=>some (ev ρ x)
def q2a(P:Ev)(t:Ew)(x:Value)(lo hi mx:Option Value)(w:Et)(s:Sem Next)(K:Value->Et->Prop):Prop:=
 match P.underlying t,x with
 | some .string,.string s=>match mx with
  | none=>SliceS s lo hi fun v=>K v w
  | some _=>False
 | some (.slice e),.slice A len cap=>bif hasT P e then SliceV (tsz P e) A len cap lo hi mx fun v=>K v w else False
 | _,_=>Fall P s w K
def lenV(P:Ev)(t:Option Ew)(x:Ez)(w:Et)(s:Sem Next)(K:Value->Et->Prop):Prop:=
 match t,x with
 | some t,v::_=>match P.underlying t,v with
  | some .string,.string s=>K (.int .i64 s.size) w
  | some (.slice _),.slice _ n _=>K (.int .i64 n) w
  | _,_=>Fall P s w K
 | _,_=>Fall P s w K
structure CallV(P:Ev)(f:FuncId)(args:Ez)(w:Et)(K:Value->Et->Prop):Prop where
 h:Gv P f args w K\/∃v w',(callFunc f args.toArray).run P w=.ok (.value v) w'/\K v w'
def appV(P:Ev)(argTypes:Array Ew)(ty:Ew)(vs:Ez)(w:Et)(s:Sem Next)(K:Value->Et->Prop):Prop:=
 match vs with
 | [a,b]=>qil a fun a=>qil b fun b=>AppV P argTypes ty a b w fun v w'=>qil v fun v=>K v w'
 | _=>Fall P s w K
structure InvV(P:Ev)(t:Ew)(v:Value)(name:String)(vs:Ez)(w:Et)(K:Value->Et->Prop):Prop where
 h:∃f r,(method (P.types.size+Made.depth) t v name).run P w=.ok (f,r) w/\CallV P f (r::vs) w K
def qyy(P:Ev)(c:Call)(ty:Ew)(ρ:Nat->Value)(w:Et)(s:Sem Next)(K:Value->Et->Prop):Prop:=
 match c.callee with
 | .value f=>match ev ρ f with
  | .func (.func g) first captured=>qce (evs ρ c.args.toList) fun vs=>
   match first.toList,captured.toList with
   | [],[]=>CallV P g vs w K
   | x,y=>CallV P g (x++(vs++y)) w K
  | _=>Fall P s w K
 | .builtin .len=>lenV P (getL c.argTypes.toList 0) (evs ρ c.args.toList) w s K
 | .builtin .append=>appV P c.argTypes ty (evs ρ c.args.toList) w s K
 | .invoke recv name=>match ev ρ recv with
  | .iface t v=>qce (evs ρ c.args.toList) fun vs=>InvV P t v name vs w K
  | _=>Fall P s w K
 | _=>Fall P s w K
def csz:Value->Nat
 | .agg cs=>cs.size
 | _=>1
def qrg:Ez->Nat->Ez->Ez
 | l,_,[]=>l
 | l,off,v::vs=>qrg (setL l off v) (off+1) vs
def qp9(place:Nat->Option (Nat×Nat))(cells:Ez):List (Nat×Value)->Option Ez
 | []=>some cells
 | (i,v)::rest=>
  match place i with
  | none=>none
  | some (off,size)=>bif Nat.beq (csz v) size&&Nat.ble (off+csz v) cells.length then qp9 place (qrg cells off v.cells.toList) rest else none
def evp(ρ:Nat->Value):List (Nat×Operand)->List (Nat×Value)
 | []=>[]
 | (i,x)::l=>(i,ev ρ x)::evp ρ l
def qd1(P:Ev):List Field->List (Nat×Nat)
 | []=>[]
 | f::l=>(f.offset,tsz P f.type)::qd1 P l
def allT(P:Ev):List Field->Bool
 | []=>true
 | f::l=>hasT P f.type&&allT P l
def qmd(P:Ev)(t:Ew)(parts:List (Nat×Value))(K:Value->Prop):Prop:=
 match P.info? t with
 | some i=>match i.zero with
  | some z=>match P.underlying t with
   | some (.struct fs)=>bif allT P fs.toList then
     match qp9 (fun k=>getL (qd1 P fs.toList) k) z.cells.toList parts with
     | some l=>qce l fun l=>K (.agg l.toArray)
     | none=>False
    else False
   | some (.array _ e)=>bif hasT P e then
     match qp9 (fun k=>some (k*tsz P e,tsz P e)) z.cells.toList parts with
     | some l=>qce l fun l=>K (.agg l.toArray)
     | none=>False
    else False
   | _=>False
  | none=>False
 | none=>False
def qcc(z:Ez):Nat->Ez
 | 0=>[]
 | n+1=>z++qcc z n
def qgn(P:Ev)(t:Ew)(len:Nat)(parts:List (Nat×Value))(w:Et)(K:Value->Et->Prop):Prop:=
 match P.underlying t with
 | some (.slice e)=>match P.info? e with
  | some i=>match i.zero with
   | some z=>bif Nat.beq z.cells.toList.length i.size&&Nat.ble (len*i.size) 16777216 && !Nat.beq i.size 0 then
     match qp9 (fun k=>some (k*i.size,i.size)) (qcc z.cells.toList len) parts with
     | some l=>qce l fun l=>NewV w (.cells l.toArray e) fun b w'=>K (.slice (some ⟨b,0,none⟩) len len) w'
     | none=>False
    else False
   | none=>False
  | none=>False
 | _=>False
structure MakeV(z:Ez)(bytes e:Nat)(len cap:Int)(w:Et)(K:Value->Et->Prop):Prop where
 h:∃l c:Nat,len=(l:Int)/\cap=(c:Int)/\l<=c/\c*bytes<=140737488355328/\c<9223372036854775808/\
  ∀b w',b=w.heap.size->w'=w.alloc (.cells (qcc z c).toArray e)->K (.slice (some ⟨b,0,none⟩) l c) w'
def qiu(P:Ev)(t:Ew)(len cap:Value)(w:Et)(K:Value->Et->Prop):Prop:=
 match P.underlying t,len,cap with
 | some (.slice e),.int _ len,.int _ cap=>match P.info? e with
  | some i=>match i.zero with
   | some z=>bif Nat.beq z.cells.toList.length i.size && !Nat.beq i.size 0 then MakeV z.cells.toList i.bytes e len cap w K else False
   | none=>False
  | none=>False
 | _,_,_=>False
def qit(P:Ev)(t:Ew)(x:Value)(K:Value->Prop):Prop:=
 match P.underlying t with
 | some (.interface _)=>False
 | some _=>K (.iface t x)
 | none=>False
def nilV(P:Ev)(x:Value)(w:Et)(s:Sem Next)(K:Value->Et->Prop):Prop:=
 match x with
 | .pointer (some a)=>K (.pointer (some a)) w
 | _=>Fall P s w K
def setO(w:Et)(r:Nat)(o:Obj):Et:={ w with heap:=w.heap.setIfInBounds r o }
def q1p(P:Ev)(t:Ew)(x:Value)(w:Et)(s:Sem Next)(K:Value->Et->Prop):Prop:=
 match P.underlying t,x with
 | some .string,.string s=>NewV w (.stringIter s 0) fun b w'=>K (.pointer (some ⟨b,0,none⟩)) w'
 | _,_=>Fall P s w K
structure NextS(w:Et)(r:Nat)(K:Value->Et->Prop):Prop where
 h:∃s pos,w.heap[r]?=some (.stringIter s pos)/\
  (pos<s.size->∀w',w'=setO w r (.stringIter s (pos+(Utf8.decode s pos).2))->K (.tuple #[.bool true,.int .i64 pos,.int .i32 (Utf8.decode s pos).1]) w')/\
  (¬pos<s.size->K (.tuple #[.bool false]) w)
def q9x(P:Ev)(x:Value)(isString:Bool)(w:Et)(s:Sem Next)(K:Value->Et->Prop):Prop:=
 match isString,x with
 | true,.pointer (some ⟨r,0,none⟩)=>NextS w r K
 | _,_=>Fall P s w K
def opV(P:Ev)(o:Oper)(ρ:Nat->Value)(w:Et)(K:Value->Et->Prop):Prop:=
 match o.op with
 | .move x | .assign x=>qil (ev ρ x) fun v=>K v w
 | .pick c a b=>qaaj (ev ρ c) (ev ρ a) (ev ρ b) fun v=>K v w
 | .binOp op t x y _=>binV P op t x y (ev ρ x) (ev ρ y) w (fun v=>K v w) K
 | .unOp op _ x=>unV op (ev ρ x) fun v=>K v w
 | .convert src dst x=>q8w P src dst (ev ρ x) w (execOp (ev ρ) o) K
 | .index t x i=>idxV P t (ev ρ x) (ev ρ i) fun v=>K v w
 | .indexAddr t x i=>qn5 P t (ev ρ x) (ev ρ i) fun v=>K v w
 | .load t x=>qwy P t (ev ρ x) w fun v=>K v w
 | .store t x v=>qv1 P t (ev ρ x) (ev ρ v) w (execOp (ev ρ) o) K
 | .extract x ix=>qnu (ev ρ x) ix fun v=>K v w
 | .fieldAddr t x f=>qih P t (ev ρ x) f fun v=>K v w
 | .field t x f=>qzk P t (ev ρ x) f fun v=>K v w
 | .box t x=>boxV t (ev ρ x) w K
 | .alloc t=>qt8 P t w K
 | .slice t x lo hi mx=>q2a P t (ev ρ x) (evo ρ lo) (evo ρ hi) (evo ρ mx) w (execOp (ev ρ) o) K
 | .nilCheck x=>nilV P (ev ρ x) w (execOp (ev ρ) o) K
 | .call c=>qyy P c o.type ρ w (execOp (ev ρ) o) K
 | .build t parts=>qmd P t (evp ρ parts.toList) fun v=>K v w
 | .buildSlice t len parts=>qgn P t len (evp ρ parts.toList) w K
 | .makeSlice t l c=>qiu P t (ev ρ l) (ev ρ c) w K
 | .makeFunc fn first captured=>qce (evs ρ first.toList) fun a=>qce (evs ρ captured.toList) fun b=>K (.func fn a.toArray b.toArray) w
 | .makeInterface t x=>qit P t (ev ρ x) fun v=>K v w
 | .range t x=>q1p P t (ev ρ x) w (execOp (ev ρ) o) K
 | .next it b=>q9x P (ev ρ it) b w (execOp (ev ρ) o) K
 | _=>Fall P (execOp (ev ρ) o) w K
section
variable {P:Ev} {w:Et}
theorem Fall.ok{s:Sem Next}{K:Value->Et->Prop}(h:Fall P s w K):OpOk2 P s w K:=by
 rcases h.h with h|h
 ·exact .inl h
 ·exact .inr h
theorem qadb{v:Value}{K:Value->Et->Prop}(h:K v w):OpOk2 P (pure (.value v)) w K:=.inl ⟨v,w,rfl,h⟩
theorem valV{s:Sem Value}{v:Value}{K:Value->Et->Prop}(hs:s.run P w=.ok v w)(h:K v w):OpOk2 P (do pure (.value (<-s))) w K:=
 OpOk2.val ⟨v,w,hs,h⟩
theorem q4k{t:Ew}(h:hasT P t=true):∃i,P.info? t=some i/\tsz P t=i.size:=by
 unfold hasT at h;unfold tsz;cases e:P.info? t with
 | none=>rw[e]at h;cases h
 | some i=>exact⟨i,rfl,rfl⟩
theorem q8{t:Ew}(h:hasT P t=true):(sizeOf t).run P w=.ok (tsz P t) w:=by
 obtain⟨i,h1,h2⟩:=q4k h;simp[sizeOf,typeInfo,h1,h2]
theorem qd2{t:Ew}{d:TypeDesc}(h:P.underlying t=some d):(isAgg t).run P w=.ok (aggD d) w:=by
 cases d<;>simp[isAgg,run_underlying h,aggD]
theorem qjg{t:Ew}{d:TypeDesc}(h:P.underlying t=some d)(hd:aggD d=true)(hi:hasT P t=true)(cs:E6)(off:Nat):
  (part t cs off).run P w=.ok (.agg ((cs.toList.drop off).take (tsz P t)).toArray) w:=by
 simp[part,qd2 h,hd,q8 hi];rw[<-Bk];simp[List.take_drop]
theorem qhv{t:Ew}{d:TypeDesc}(h:P.underlying t=some d)(hd:aggD d=false)(cs:E6)(off:Nat){v:Value}(hv:cs.toList[off]?=some v):
  (part t cs off).run P w=.ok v w:=by
 have hv':cs[off]?=some v:=by simpa using hv
 simp[part,qd2 h,hd,hv']
theorem q5d{ρ:Nat->Value}{c a b:Operand}{K:Value->Et->Prop}(h:qaaj (ev ρ c) (ev ρ a) (ev ρ b) (fun v=>K v w)):
  OpOk2 P (do pure (.value (if <-asBool (ev ρ c)then ev ρ a else ev ρ b))) w K:=by
 unfold qaaj at h
 split at h
 ·rename_i t e
  rw[e];cases t
  ·have:=h.f rfl;rw[qbl]at this;exact .inl ⟨_,w,by simp[asBool],this⟩
  ·have:=h.t rfl;rw[qbl]at this;exact .inl ⟨_,w,by simp[asBool],this⟩
 ·exact h.elim
theorem qacf(s:Eu)(j:Nat)(h:j<s.size):s[j]?=some (gb s j):=by
 unfold gb;have h':j<s.data.toList.length:=by simpa using h
 rw[Ah,Bt h',CE];exact getElem?_pos s j h
theorem q9c{t:Ew}{x i:Value}{K:Value->Et->Prop}(h:idxV P t x i (fun v=>K v w)):
  OpOk2 P (do pure (.value (<-Instr.index t x i))) w K:=by
 unfold idxV at h
 split at h
 ·rename_i hu
  obtain⟨j,rfl,hj,hk⟩:=h;refine valV ?_ hk;simp[Instr.index,asIntOf,run_underlying hu,qacf _ _ hj]
 ·rename_i hu
  split at h
  ·rename_i d hd
   cases hT:hasT P _<;>rw[hT]at h
   ·exact h.elim
   ·cases ha:aggD d<;>rw[ha]at h
    ·obtain⟨j,rfl,hj,v,hv,hk⟩:=h;refine valV ?_ hk;simp[Instr.index,asIntOf,run_underlying hu,hj,q8 hT,qhv hd ha _ _ hv]
    ·obtain⟨j,rfl,hj,l,hl,hk⟩:=h;subst hl;refine valV ?_ hk;simp[Instr.index,asIntOf,run_underlying hu,hj,q8 hT,qjg hd ha hT]
  ·exact h.elim
 ·exact h.elim
theorem qan(b off n:Nat):(⟨b,off,none⟩:Addr).add n=⟨b,off+n,none⟩:=by
 unfold Addr.add;split
 ·subst_vars;rfl
 ·rfl
theorem qsc{t:Ew}{x i:Value}{K:Value->Et->Prop}(h:qn5 P t x i (fun v=>K v w)):
  OpOk2 P (do pure (.value (<-Instr.indexAt t x i))) w K:=by
 unfold qn5 at h
 split at h
 ·rename_i hu
  cases hT:hasT P _<;>rw[hT]at h
  ·exact h.elim
  ·obtain⟨b,off,j,rfl,rfl,hj,hk⟩:=h;refine valV ?_ hk;simp[Instr.indexAt,asIntOf,run_underlying hu,hj,q8 hT,qan]
 ·rename_i hu
  cases hT:hasT P _<;>rw[hT]at h
  ·exact h.elim
  ·obtain⟨j,rfl,hj,hk⟩:=h;refine valV ?_ hk;simp[Instr.indexAt,asIntOf,run_underlying hu,hj,q8 hT,qan,Instr.sureAddr]
 ·exact h.elim
theorem q4w{t:Ew}{x:Value}{K:Value->Et->Prop}(h:qwy P t x w (fun v=>K v w)):
  OpOk2 P (do pure (.value (<-Instr.loadAt t x))) w K:=by
 unfold qwy at h
 split at h
 ·rename_i d b off hu
  cases ha:aggD d<;>rw[ha]at h
  ·obtain⟨v,hv,hk⟩:=h;rw[qbl]at hk;refine valV ?_ hk;simp[Instr.loadAt,Instr.sureAddr,loadVar,qd2 hu,ha,go_sem,hv]
  ·cases hT:hasT P t<;>rw[hT]at h
   ·exact h.elim
   ·obtain⟨cs,hl,hc,hk⟩:=h;rw[qai]at hk;refine valV ?_ hk;have:=run_loadCells_list (P:=P) w ⟨b,off,none⟩ cs (fun j v hv=>by
     have hj:j<cs.length:=by
      rcases Ba j cs.length with h|h
      ·exact h
      ·rw[Az h]at hv;cases hv
     rw[qan,hc j Oo];exact hv)
    simp[Instr.loadAt,Instr.sureAddr,loadVar,qd2 hu,ha,q8 hT,<-hl,this]
 ·exact h.elim
theorem q2g{t:Ew}{x v:Value}{s:Sem Next}{K:Value->Et->Prop}(hs:s=(do Instr.storeAt t x v;pure .skip))(h:qv1 P t x v w s K):
  OpOk2 P s w K:=by
 unfold qv1 at h
 split at h
 ·rename_i b off
  split at h
  ·exact h.ok
  ·rename_i cs
   cases hT:hasT P t<;>rw[hT]at h
   ·exact h.elim
   ·cases hn:Nat.beq (tsz P t) cs.toList.length<;>rw[hn]at h
    ·exact h.elim
    ·obtain⟨w',h1,hk⟩:=h;subst hs;have hn':tsz P t=cs.size:=by simpa using Bn hn
     refine OpOk2.unit ⟨_,?_,hk⟩;have hc:(Value.agg cs).cells=cs:=rfl;simp only[Instr.storeAt,Instr.sureAddr,storeVar,hc];simp[q8 hT,hn',h1]
  ·rename_i hv1 hv2
   cases hT:hasT P t<;>rw[hT]at h
   ·exact h.elim
   ·cases hn:Nat.beq (tsz P t) 1<;>rw[hn]at h
    ·exact h.elim
    ·obtain⟨⟨o,ho⟩,hf,h1,hk⟩:=h;subst hs;have hn':tsz P t=1:=Bn hn;refine OpOk2.unit ⟨_,?_,hk⟩;cases v<;>first
      | (exact(hv1 _ rfl).elim)
      | (exact(hv2 _ rfl).elim)
      | simp[Instr.storeAt,Instr.sureAddr,storeVar,Value.cells,q8 hT,hn',storeCells,store,Sem.run,Addr.add,ho,hf]
 ·exact h.elim
theorem qr5{x:Value}{ix:Nat}{K:Value->Et->Prop}(h:qnu x ix (fun v=>K v w)):
  OpOk2 P (do pure (.value (<-Instr.extract x ix))) w K:=by
 unfold qnu at h
 split at h
 ·rename_i vs
  split at h
  ·rename_i v hv
   rw[qbl]at h;rw[ql]at hv;have hv':vs[ix]?=some v:=by simpa using hv
   refine valV ?_ h;simp[Instr.extract,hv']
  ·exact h.elim
 ·exact h.elim
theorem qnv{t:Ew}{x:Value}{f:Nat}{K:Value->Et->Prop}(h:qih P t x f (fun v=>K v w)):
  OpOk2 P (do pure (.value (<-Instr.fieldAt t x f))) w K:=by
 unfold qih at h
 split at h
 ·rename_i fs b off hu
  split at h
  ·rename_i fd hfd
   rw[ql]at hfd;have hfd':fs[f]?=some fd:=by simpa using hfd
   cases hT:hasT P fd.type<;>rw[hT]at h
   ·exact h.elim
   ·cases hz:Nat.beq (tsz P fd.type) 0<;>rw[hz]at h
    ·refine valV ?_ h;have hz':¬tsz P fd.type=0:=fun e=>by rw[e]at hz;cases hz
     simp[Instr.fieldAt,run_underlying hu,hfd',Instr.sureAddr,fieldPlace,q8 hT,hz',qan]
    ·exact h.elim
  ·exact h.elim
 ·exact h.elim
theorem qzl{t:Ew}{x:Value}{f:Nat}{K:Value->Et->Prop}(h:qzk P t x f (fun v=>K v w)):
  OpOk2 P (do pure (.value (<-Instr.field t x f))) w K:=by
 unfold qzk at h
 split at h
 ·rename_i fs cs hu
  split at h
  ·rename_i fd hfd
   rw[ql]at hfd;have hfd':fs[f]?=some fd:=by simpa using hfd
   split at h
   ·rename_i d hd
    cases ha:aggD d<;>rw[ha]at h
    ·simp only[cond_false]at h
     split at h
     ·rename_i v hv
      rw[qbl]at h;rw[ql]at hv;refine valV ?_ h;simp[Instr.field,run_underlying hu,hfd',asAgg,qhv hd ha _ _ hv]
     ·exact h.elim
    ·cases hT:hasT P fd.type<;>rw[hT]at h
     ·exact h.elim
     ·simp only[cond_true,qai]at h;refine valV ?_ h;simp[Instr.field,run_underlying hu,hfd',asAgg,qjg hd ha hT]
   ·exact h.elim
  ·exact h.elim
 ·exact h.elim
theorem quf{t:Ew}{v:Value}{K:Value->Et->Prop}(h:boxV t v w K):
  ∃a,(newVar t v).run P w=.ok a (w.alloc (.cells v.cells t))/\K (.pointer (some a)) (w.alloc (.cells v.cells t)):=by
 unfold boxV at h;rw[qai]at h;refine⟨⟨w.heap.size,0,none⟩,by simp[newVar,newRow,go_sem],?_⟩;have:=h.h w.heap.size (w.alloc (.cells v.cells t)) rfl Js;exact this
theorem q8l{t:Ew}{v:Value}{K:Value->Et->Prop}(h:boxV t v w K):OpOk2 P (do pure (.value (<-Instr.box t v))) w K:=by
 obtain⟨a,h1,h2⟩:=quf (P:=P) h;exact OpOk2.val ⟨_,_,by simp[Instr.box,h1],h2⟩
theorem qyo{t:Ew}{K:Value->Et->Prop}(h:qt8 P t w K):OpOk2 P (do pure (.value (<-Instr.alloc t true (.tuple #[])))) w K:=by
 unfold qt8 at h
 split at h
 ·rename_i i hi
  split at h
  ·rename_i z hz
   obtain⟨a,h1,h2⟩:=quf (P:=P) h;exact OpOk2.val ⟨_,_,by simp[Instr.alloc,zeroValue,typeInfo,hi,hz,h1],h2⟩
  ·exact h.elim
 ·exact h.elim
theorem q18(w:Et)(cs:E6)(e:Ew)(n:Nat)(hn:n=w.heap.size):(w.alloc (.cells cs e)).shape? n=some (e,cs.size):=by
 subst hn;unfold World.shape?;rw[heap_alloc_new]
theorem qws(w:Et)(cs:E6)(e:Ew)(n:Nat)(hn:n=w.heap.size):(w.alloc (.cells cs e)).freeze ⟨n,cs.size,none⟩ 1=w.alloc (.cells cs e (cs.size,cs.size+1)):=by
 subst hn;unfold World.freeze World.alloc;rw[Aa Od];simp only
 congr 1
 apply Array.ext
 ·simp
 ·intro i h1 h2;rw[Array.getElem_modify];simp only[Array.getElem_push]
  split
  ·rename_i hi
   subst hi;simp
  ·rename_i hi
   simp at h2;rw[dif_pos Oo,dif_pos Oo]
theorem q3z{src dst:Ew}{x:Value}{s:Sem Next}{K:Value->Et->Prop}(hs:s=(do pure (.value (<-convert src dst x))))(h:q8w P src dst x w s K):
  OpOk2 P s w K:=by
 unfold q8w at h
 split at h
 ·rename_i d k n h1 h2
  obtain⟨r,rfl,hk⟩:=h;subst hs;refine valV ?_ hk;cases d<;>simp[convert,run_underlying h1,run_underlying h2,Conv.intToInt]
 ·rename_i sx h1 h2
  subst hs;refine valV ?_ h;simp[convert,run_underlying h1,run_underlying h2]
 ·rename_i h1 h2
  subst hs;refine valV ?_ h;simp[convert,run_underlying h1,run_underlying h2,Conv.intToString]
 ·rename_i e A n c h1 h2
  split at h
  ·rename_i he
   subst hs;obtain⟨l,hl,hA,hk⟩:=h;refine valV ?_ hk;cases A with
   | none=>
    have hl0:l=[]:=by
     cases l with
     | nil=>rfl
     | cons x r=>obtain⟨b,off,h0,_⟩:=hA Js;cases h0
    subst hl0;exact run_convert_bytes_nil w src e h1 he _ _ dst h2
   | some a=>
    rw[run_convert_bytes_string w src dst e _ _ _ h1 he h2];have hc:(loadCells a n).run P w=.ok ((l.map fun c=>(c.toNat:Int)).map (Value.int .u8)).toArray w:=by
     have:=run_loadCells_list (P:=P) w a (byteCells l) (fun j v hv=>by
      obtain⟨b,off,h0,h3⟩:=hA (by intro e;subst e;simp[byteCells]at hv);cases h0;rw[qan];exact h3 j v hv)
     rw[show(byteCells l).length=n by simp[byteCells,hl]]at this;rw[this,byteCells,Eg];rfl
    rw[run_bytesToString w a n c _ hc,foldl_push_bytes]
    congr 3
    simp[ByteArray.empty,ByteArray.emptyWithCapacity];show([]:List Ex)++_=l;rw[Br];have:∀l:List Ex,l.map ((fun n:Int=>UInt8.ofNat n.toNat) ∘ fun c:Ex=>(c.toNat:Int))=l:=by
     intro l;induction l with
     | nil=>rfl
     | cons x r ih=>simp[ih]
    exact this l
  ·exact h.ok
 ·rename_i e x h1 h2
  split at h
  ·rename_i he
   subst hs;have hcut:∀t,x.size<=Question.cut (.appendCap x.size 0 e) t:=fun t=>by simp[Question.cut]
   have hk:=h.h (Question.cut (.appendCap x.size 0 e) (w.tape w.drawn (.appendCap x.size 0 e))) _ w.heap.size _ (hcut _) rfl rfl rfl;refine OpOk2.val ⟨_,_,?_,hk⟩;generalize hcap:Question.cut (.appendCap x.size 0 e) (w.tape w.drawn (.appendCap x.size 0 e))=cap;have hcells:(x.data.map (fun b=>Value.int .u8 b.toNat)++Array.replicate (cap-x.size) (Value.int .u8 0))=(byteCells x.data.toList++List.replicate (cap-x.size) (Value.int .u8 0)).toArray:=by
    rw[<-Bk];simp[byteCells]
   simp only[convert];simp[run_underlying h1,run_underlying h2,run_underlying he,Conv.stringToBytes,choose,Sem.run,Question.forced,hcap,hcells,newRow,newObj,markStringish,shape,freeze];rw[q18 w.drew _ _ w.heap.size rfl];simp only[Sem.run,Result.andThen];rw[qws w.drew _ _ w.heap.size rfl];simp
  ·exact h.ok
 ·exact h.ok
theorem qado{op:UnOp}{x:Value}{K:Value->Et->Prop}(h:unV op x (fun v=>K v w)):OpOk2 P (do pure (.value (<-Op.unary op x))) w K:=by
 unfold unV at h
 split at h
 ·exact valV (by simp[Op.unary]) h
 ·obtain⟨hr,hk⟩:=h;refine valV ?_ hk;simp[Op.unary,Op.intArith,hr.wrap]
 ·obtain⟨r,rfl,hk⟩:=h;refine valV ?_ hk;simp[Op.unary,Op.intBits,qev]
 ·exact h.elim
theorem qcm{o:Value}{d n y:Nat}{c:BoundsCode}(h:bnd (some o) d n)(hy:n<=y):(Instr.sliceBound o y c).run P w=.ok n w:=by
 unfold bnd at h
 split at h
 ·rename_i e;cases e
 ·rename_i k i e
  cases e;subst h;simp[Instr.sliceBound,asIntOf,hy]
 ·exact h.elim
theorem q2b{t:Ew}{x:Value}{lo hi mx:Option Value}{s:Sem Next}{K:Value->Et->Prop}(hs:s=(do pure (.value (<-Instr.sliceAt t x lo hi mx))))(h:q2a P t x lo hi mx w s K):OpOk2 P s w K:=by
 unfold q2a at h
 split at h
 ·rename_i sx hu
  subst hs
  split at h
  ·obtain⟨l,hh,h1,h2,h3,h4,hk⟩:=h;refine valV ?_ hk;cases lo with
   | none=>
    cases hi with
    | none=>
     cases h1;cases h2;simp[Instr.sliceAt,Instr.slice,Instr.sliceBounds,run_underlying hu]
    | some b=>
     cases h1;simp[Instr.sliceAt,Instr.slice,Instr.sliceBounds,run_underlying hu,qcm h2 h4]
   | some a=>
    cases hi with
    | none=>
     cases h2;simp[Instr.sliceAt,Instr.slice,Instr.sliceBounds,run_underlying hu,qcm h1 h3]
    | some b=>simp[Instr.sliceAt,Instr.slice,Instr.sliceBounds,run_underlying hu,qcm h1 h3,qcm h2 h4]
  ·exact h.elim
 ·rename_i e A len cap hu
  subst hs;cases hT:hasT P e<;>rw[hT]at h
  ·exact h.elim
  ·obtain⟨l,hh,m,h1,h2,h3,h4,h5,h6,h7,hk⟩:=h;have hk:=hk _ rfl;refine valV ?_ hk;cases mx with
   | none=>
    cases h3;cases lo with
    | none=>
     cases hi with
     | none=>
      cases h1;cases h2;simp[Instr.sliceAt,Instr.slice,Instr.sliceBounds,run_underlying hu,q8 hT]
     | some b=>
      cases h1;simp[Instr.sliceAt,Instr.slice,Instr.sliceBounds,run_underlying hu,q8 hT,qcm h2 h5]
    | some a=>
     cases hi with
     | none=>
      cases h2;simp[Instr.sliceAt,Instr.slice,Instr.sliceBounds,run_underlying hu,q8 hT,qcm h1 h4]
     | some b=>simp[Instr.sliceAt,Instr.slice,Instr.sliceBounds,run_underlying hu,q8 hT,qcm h1 h4,qcm h2 h5]
   | some c=>
    cases hi with
    | none=>exact absurd (h7 rfl) Js
    | some b=>
     cases lo with
     | none=>
      cases h1;simp[Instr.sliceAt,Instr.slice,Instr.sliceBounds,run_underlying hu,q8 hT,qcm h2 h5,qcm h3 h6]
     | some a=>simp[Instr.sliceAt,Instr.slice,Instr.sliceBounds,run_underlying hu,q8 hT,qcm h1 h4,qcm h2 h5,qcm h3 h6]
 ·exact h.ok
theorem q9z{ρ:Nat->Value}{o:Oper}{x:Operand}{K:Value->Et->Prop}(ho:o.op=.nilCheck x)(h:nilV P (ev ρ x) w (execOp (ev ρ) o) K):
  OpOk2 P (execOp (ev ρ) o) w K:=by
 unfold nilV at h
 split at h
 ·rename_i a e
  refine .inl ⟨_,w,?_,h⟩;simp[execOp,ho,e]
 ·exact h.ok
theorem qcu{f:FuncId}(h:qdx P f=true)(args:E6):(callFunc f args).run P w=.ok (.enter f args) w:=by
 unfold qdx at h;cases e:P.funcs[f]? with
 | none=>rw[e]at h;cases h
 | some fn=>
  rw[e]at h;simp only[AM,Do]at h;have h1:¬fn.name = "runtime.NumGoroutine":=by simpa using h.1
  have h2:¬fn.body=none:=by
   intro hb;rw[hb]at h;cases h.2
  simp[callFunc,go_sem,e,h1,h2]
theorem CallV.ok{f:FuncId}{vs:Ez}{K:Value->Et->Prop}(h:CallV P f vs w K):OpOk P (callFunc f vs.toArray) w K:=by
 rcases h.h with⟨h1,h2⟩|⟨v,w',h1,h2⟩
 ·exact .inr ⟨f,vs.toArray,qcu h1 _,h2⟩
 ·exact .inl (.inl ⟨v,w',h1,h2⟩)
theorem q0n{ρ:Nat->Value}{o:Oper}{c:Call}{K:Value->Et->Prop}(ho:o.op=.call c)(hc:c.callee=.builtin .len)(h:lenV P (getL c.argTypes.toList 0) (evs ρ c.args.toList) w (execOp (ev ρ) o) K):OpOk2 P (execOp (ev ρ) o) w K:=by
 unfold lenV at h
 split at h
 ·rename_i t v vs ht hv
  rw[ql]at ht;have ht':c.argTypes[0]?=some t:=by simpa using ht
  rw[qes]at hv;have hv':(c.args.map (ev ρ))[0]?=some v:=by
   have:(c.args.map (ev ρ)).toList[0]?=some v:=by simp only[Array.toList_map,hv,BA]
   simpa using this
  have he:execOp (ev ρ) o=(do pure (.value (<-Builtin.len_ c.argTypes o.type (c.args.map (ev ρ))))):=by
   simp only[execOp,ho,resolve,hc];rfl
  split at h
  ·rename_i s hu
   rw[he];exact valV (by simp only[Builtin.len_,ht',hv'];simp[run_underlying hu,goInt]) h
  ·rename_i hu
   rw[he];exact valV (by simp only[Builtin.len_,ht',hv'];simp[run_underlying hu,goInt]) h
  ·exact h.ok
 ·exact h.ok
theorem q8g{ρ:Nat->Value}{o:Oper}{c:Call}{K:Value->Et->Prop}(ho:o.op=.call c)(hc:c.callee=.builtin .append)(h:appV P c.argTypes o.type (evs ρ c.args.toList) w (execOp (ev ρ) o) K):OpOk2 P (execOp (ev ρ) o) w K:=by
 unfold appV at h
 split at h
 ·rename_i a b hv
  rw[qbl,qbl]at h;obtain⟨v,w',h1,hk⟩:=h;rw[qbl]at hk;have he:execOp (ev ρ) o=(do pure (.value (<-Builtin.append_ c.argTypes o.type (c.args.map (ev ρ))))):=by
   simp only[execOp,ho,resolve,hc];rfl
  have hv':c.args.map (ev ρ)=#[a,b]:=by
   rw[qes]at hv;rw[<-Bk];simpa using hv
  rw[he,hv'];exact OpOk2.val ⟨v,w',h1,hk⟩
 ·exact h.ok
theorem OpOk.congr{s s':Sem Next}{K:Value->Et->Prop}(he:s.run P w=s'.run P w)(h:OpOk P s' w K):OpOk P s w K:=by
 unfold OpOk OpOk2 at *;rw[he];exact h
theorem qui{ρ:Nat->Value}{o:Oper}{c:Call}{K:Value->Et->Prop}(ho:o.op=.call c)(h:qyy P c o.type ρ w (execOp (ev ρ) o) K):
  OpOk P (execOp (ev ρ) o) w K:=by
 unfold qyy at h
 split at h
 ·rename_i f hc
  split at h
  ·rename_i g first captured hf
   rw[qai,qes]at h;have he:execOp (ev ρ) o=callFunc g (first++c.args.map (ev ρ)++captured):=by
    simp only[execOp,ho,resolve,hc,hf];rfl
   rw[he];have key:CallV P g (first.toList++(c.args.toList.map (ev ρ)++captured.toList)) w K:=by
    split at h
    ·rename_i h1 h2;rw[h1,h2];simpa using h
    ·exact h
   have e2:(first.toList++(c.args.toList.map (ev ρ)++captured.toList)).toArray=first++c.args.map (ev ρ)++captured:=by
    rw[<-Bk];simp
   rw[<-e2];exact key.ok
  ·exact .inl h.ok
 ·rename_i hc;exact .inl (q0n ho hc h)
 ·rename_i hc;exact .inl (q8g ho hc h)
 ·rename_i recv name hc
  split at h
  ·rename_i t v hr
   rw[qai,qes]at h;obtain⟨f,r,hm,hk⟩:=h.h;have e1:execOp (ev ρ) o=invoke (.fn (.method name) #[]) (#[ev ρ recv]++c.args.map (ev ρ)):=by
    simp only[execOp,ho,resolve,hc];rfl
   have e2:invoke (.fn (.method name) #[]) (#[ev ρ recv]++c.args.map (ev ρ))=callMethod (ev ρ recv) name (c.args.map (ev ρ)):=by
    have h0:(#[ev ρ recv]++c.args.map (ev ρ))[0]?=some (ev ρ recv):=by rw[Array.getElem?_append_left Js];rfl
    have h1:(#[ev ρ recv]++c.args.map (ev ρ)).extract 1 (#[ev ρ recv]++c.args.map (ev ρ)).size=c.args.map (ev ρ):=by
     rw[<-Bk];simp;exact AE Js
    unfold invoke;simp only[h0,h1]
   have e3:(callMethod (.iface t v) name (c.args.map (ev ρ))).run P w=(callFunc f (#[r]++c.args.map (ev ρ))).run P w:=by
    simp only[callMethod];simp[go_sem];rw[show P.types.size+100=P.types.size+Made.depth from rfl,hm];rfl
   have e4:(r::c.args.toList.map (ev ρ)).toArray=#[r]++c.args.map (ev ρ):=by
    rw[<-Bk];simp
   refine OpOk.congr (s':=callFunc f (r::c.args.toList.map (ev ρ)).toArray) ?_ hk.ok;rw[e1,e2,hr,e3,e4]
  ·exact .inl h.ok
 ·exact .inl h.ok
theorem qab9(v:Value):csz v=v.cells.size:=by cases v<;>rfl
theorem q15(vs:Ez):∀(cells:E6) (off k:Nat),
  (vs.zipIdx k).foldl (fun cs (x:Value×Nat)=>cs.setIfInBounds (off+x.2) x.1) cells=(qrg cells.toList (off+k) vs).toArray:=by
 induction vs with
 | nil=>intro cells off k;simp[qrg]
 | cons v vs ih=>
  intro cells off k;simp only[List.zipIdx_cons,CL,qrg];rw[ih,qaa5];simp[Cy]
theorem qr7(place:Nat->Option (Nat×Nat))(parts:List (Nat×Value)):∀(cells:Ez) (l:Ez),qp9 place cells parts=some l->
  Instr.fill place cells.toArray parts=some l.toArray:=by
 induction parts with
 | nil=>intro cells l h;cases h;rfl
 | cons x parts ih=>
  obtain⟨i,v⟩:=x;intro cells l h;simp only[qp9]at h;unfold Instr.fill;cases e:place i with
  | none=>rw[e]at h;cases h
  | some os=>
   obtain⟨off,size⟩:=os;rw[e]at h;simp only at h|-;cases hb:(Nat.beq (csz v) size&&Nat.ble (off+csz v) cells.length)<;>rw[hb]at h
   ·cases h
   ·simp only[cond_true]at h;simp only[AM,Nat.ble_eq]at hb;rw[qab9]at hb;replace hb:=And.intro (Bn hb.1) hb.2;have hc:¬(v.cells.size≠size||off+v.cells.size > cells.toArray.size)=true:=by
     simp only[CH,Cz,decide_eq_true_eq,not_or];exact⟨fun hh=>hh hb.1,by omega⟩
    rw[Aa hc];have:=q15 v.cells.toList cells.toArray off 0;rw[<-ih _ _ h]
    congr 1
    rw[<-Eh,Array.toList_zipIdx]
    simpa using this
theorem qxu{fs:Array Field}(h:allT P fs.toList=true):
  (fs.mapM fun f=>Prod.mk f.offset <$> sizeOf f.type:Sem (Array (Nat×Nat))).run P w=.ok (qd1 P fs.toList).toArray w:=by
 obtain⟨l⟩:=fs;rw[DD];have:∀l:List Field,allT P l=true->(l.mapM fun f=>(Prod.mk f.offset <$> sizeOf f.type:Sem (Nat×Nat))).run P w=.ok (qd1 P l) w:=by
  intro l
  induction l with
  | nil=>intro _;simp[qd1]
  | cons f l ih=>
   intro h;simp only[allT,AM]at h;simp[q8 h.1,ih h.2,qd1]
 simp[this l h]
theorem qyw{t:Ew}{parts:Array (Nat×Value)}{K:Value->Et->Prop}(h:qmd P t parts.toList (fun v=>K v w)):
  OpOk2 P (do pure (.value (<-Instr.build t parts))) w K:=by
 unfold qmd at h
 split at h
 ·rename_i i hi
  split at h
  ·rename_i z hz
   have hz0:(zeroValue t).run P w=.ok z w:=by simp[zeroValue,typeInfo,hi,hz]
   split at h
   ·rename_i fs hu
    cases hT:allT P fs.toList<;>rw[hT]at h
    ·exact h.elim
    ·simp only[cond_true]at h
     split at h
     ·rename_i l hl
      rw[qai]at h;refine valV ?_ h;have hf:=qr7 _ _ _ _ hl;have hp:=qxu (w:=w) hT;have e:(fun k=>getL (qd1 P fs.toList) k)=fun x=>(qd1 P fs.toList).toArray[x]?:=by
       funext k;rw[ql];simp
      rw[e]at hf;have hf':Instr.fill (fun x=>(qd1 P fs.toList)[x]?) z.cells parts.toList=some l.toArray:=by simpa using hf
      simp only[Instr.build];simp[hz0,run_underlying hu,hp,hf']
     ·exact h.elim
   ·rename_i n e hu
    cases hT:hasT P e<;>rw[hT]at h
    ·exact h.elim
    ·simp only[cond_true]at h
     split at h
     ·rename_i l hl
      rw[qai]at h;refine valV ?_ h;have hf:=qr7 _ _ _ _ hl;have hf':Instr.fill (fun k=>some (k*tsz P e,tsz P e)) z.cells parts.toList=some l.toArray:=by simpa using hf
      simp only[Instr.build];simp[hz0,run_underlying hu,q8 hT,hf']
     ·exact h.elim
   ·exact h.elim
  ·exact h.elim
 ·exact h.elim
theorem qpo(z:Ez)(n:Nat):(qcc z n).length=n*z.length:=by
 induction n with
 | zero=>simp[qcc]
 | succ n ih=>simp[qcc,ih,CT,C0]
theorem qyg(z:Ez)(n:Nat):∀i,i<n*z.length->(qcc z n)[i]?=z[i%z.length]?:=by
 induction n with
 | zero=>intro i hi;simp at hi
 | succ n ih=>
  intro i hi;simp only[qcc]
  by_cases h:i<z.length
  ·rw[AR h,BD h]
  ·rw[AV Oo,ih _ (by rw[CT]at hi;omega),<-Nat.mod_eq_sub_mod Oo]
theorem qwb(z:E6)(hz:0<z.size)(n:Nat):(Array.range (n*z.size)).map (z[· % z.size]!)=(qcc z.toList n).toArray:=by
 rw[<-Bk];apply BT;intro i;have hl:(qcc z.toList n).length=n*z.size:=by rw[qpo];simp
 by_cases hi:i<n*z.size
 ·have h1:=qyg z.toList n i (by simpa using hi);have h2:i%z.size<z.size:=CS _ hz;rw[show(qcc z.toList n).toArray.toList=qcc z.toList n from rfl,h1];simp[hi,h2]
 ·rw[show(qcc z.toList n).toArray.toList=qcc z.toList n from rfl,Az Ys,Az Oo]
theorem qlv{t:Ew}{len:Nat}{parts:Array (Nat×Value)}{K:Value->Et->Prop}(h:qgn P t len parts.toList w K):
  OpOk2 P (do pure (.value (<-Instr.buildSlice t len parts))) w K:=by
 unfold qgn at h
 split at h
 ·rename_i e hu
  split at h
  ·rename_i i hi
   split at h
   ·rename_i z hz
    have hz0:(zeroValue e).run P w=.ok z w:=by simp[zeroValue,typeInfo,hi,hz]
    have hs0:(sizeOf e).run P w=.ok i.size w:=by simp[sizeOf,typeInfo,hi]
    cases hb:(Nat.beq z.cells.toList.length i.size&&Nat.ble (len*i.size) 16777216 && !Nat.beq i.size 0)<;>rw[hb]at h
    ·exact h.elim
    ·simp only[cond_true]at h;simp only[AM,Nat.ble_eq,Do]at hb;obtain⟨⟨b1,b2⟩,b3⟩:=hb;have b1:=Bn b1;have b3:0<i.size:=Ej fun e=>by rw[e]at b3;cases b3
     have b1':z.cells.size=i.size:=by simpa using b1
     split at h
     ·rename_i l hl
      rw[qai]at h;have h:=h.h w.heap.size _ rfl rfl;have hf:=qr7 _ _ _ _ hl;have hzz:=qwb z.cells Oo len;rw[b1']at hzz;refine OpOk2.val ⟨_,_,?_,h⟩;have hn:¬len*i.size > 2 ^ 24:=by omega
      by_cases h0:len*i.size=0
      ·have hl0:len=0:=by
        rcases Ec.1 h0 with h|h
        ·exact h
        ·omega
       subst hl0;have hf0:Instr.fill (fun i_1=>some (i_1*i.size,i.size)) #[] parts.toList=some l.toArray:=by simpa[qcc]using hf
       simp[Instr.buildSlice,run_underlying hu,hs0,hf0,newRow,newObj,Sem.run,show Array.range 0=#[]from rfl]
      ·rw[<-hzz]at hf;have hn':¬16777216<len*i.size:=by omega
       simp only[Instr.buildSlice];simp[run_underlying hu,hs0,hn',h0,hz0,b1',hf,newRow,newObj,Sem.run]
     ·exact h.elim
   ·exact h.elim
  ·exact h.elim
 ·exact h.elim
theorem qok{t:Ew}{len cap:Value}{K:Value->Et->Prop}(h:qiu P t len cap w K):
  OpOk2 P (do pure (.value (<-Instr.makeSlice t len cap))) w K:=by
 unfold qiu at h
 split at h
 ·rename_i e k1 len k2 cap hu
  split at h
  ·rename_i i hi
   split at h
   ·rename_i z hz
    have hz0:(zeroValue e).run P w=.ok z w:=by simp[zeroValue,typeInfo,hi,hz]
    have hs0:(sizeOf e).run P w=.ok i.size w:=by simp[sizeOf,typeInfo,hi]
    have ht0:(typeInfo e).run P w=.ok i w:=by simp[typeInfo,hi]
    cases hb:(Nat.beq z.cells.toList.length i.size && !Nat.beq i.size 0)<;>rw[hb]at h
    ·exact h.elim
    ·simp only[cond_true]at h;simp only[AM,Do]at hb;obtain⟨b1,b3⟩:=hb;have b1:=Bn b1;have b3:0<i.size:=Ej fun e=>by rw[e]at b3;cases b3
     have b1':z.cells.size=i.size:=by simpa using b1
     obtain⟨l,c,rfl,rfl,hlc,hcb,hc,hk⟩:=h;have hk:=hk _ _ rfl rfl;have hzz:=qwb z.cells Oo c;rw[b1']at hzz;have wl:IntKind.i64.wrap (l:Int)=l:=InR.wrap (k:=.i64) ⟨by omega,by omega⟩;have wc:IntKind.i64.wrap (c:Int)=c:=InR.wrap (k:=.i64) ⟨by omega,by omega⟩;have hb1:¬(281474976710656:Int)<(i.bytes:Int)*(c:Int):=by
      have:(i.bytes:Int)*(c:Int)=((c*i.bytes:Nat):Int):=by rw[Dn,Int.mul_comm]
      rw[this];omega
     refine OpOk2.val ⟨_,_,?_,hk⟩;simp only[Instr.makeSlice,asInt,asIntOf];have n1:¬((c:Int)<0):=by omega
     have n2:¬((l:Int)<0):=by omega
     have n3:¬c<l:=by omega
     simp[run_underlying hu,ht0,wl,wc,hb1,n1,n2,n3,askRoom,roomBytes,hs0,newRow,newObj,Sem.run]
     split
     ·rename_i h0
      have hc0:c=0:=by
       rcases Ec.1 h0 with h|h
       ·exact h
       ·omega
      subst hc0;simp[qcc,show Array.range 0=#[]from rfl]
     ·simp[hz0,b1',hzz]
   ·exact h.elim
  ·exact h.elim
 ·exact h.elim
theorem qoj{t:Ew}{x:Value}{K:Value->Et->Prop}(h:qit P t x (fun v=>K v w)):OpOk2 P (do pure (.value (<-Instr.makeInterface t x))) w K:=by
 unfold qit at h
 split at h
 ·exact h.elim
 ·rename_i d hd hu
  refine valV ?_ h;cases d<;>first|exact absurd rfl (hd _)|simp[Instr.makeInterface,run_underlying hu]
 ·exact h.elim
theorem q61(ρ:Nat->Value)(l:List (Nat×Operand)):evp ρ l=l.map fun x=>(x.1,ev ρ x.2):=by
 induction l with
 | nil=>rfl
 | cons x l ih=>obtain⟨i,x⟩:=x;simp[evp,ih]
theorem q1q{t:Ew}{x:Value}{s:Sem Next}{K:Value->Et->Prop}(hs:s=(do pure (.value (<-Instr.range t x))))(h:q1p P t x w s K):OpOk2 P s w K:=by
 unfold q1p at h
 split at h
 ·rename_i sx hu
  subst hs;refine OpOk2.val ⟨_,_,?_,h.h w.heap.size _ rfl rfl⟩;simp[Instr.range,run_underlying hu,newObj,Sem.run]
 ·exact h.ok
theorem q45{x:Value}{b:Bool}{ty:Ew}{s:Sem Next}{K:Value->Et->Prop}(hs:s=(do pure (.value (<-Instr.next x b ty))))(h:q9x P x b w s K):OpOk2 P s w K:=by
 unfold q9x at h
 split at h
 ·rename_i r
  subst hs;obtain⟨s,pos,hr,h1,h2⟩:=h
  by_cases hp:pos<s.size
  ·refine OpOk2.val ⟨_,_,?_,h1 hp _ rfl⟩;simp[Instr.next,getObj,setObj,Sem.run,hr,hp,goInt,setO]
  ·refine OpOk2.val ⟨_,_,?_,h2 hp⟩;simp[Instr.next,getObj,Sem.run,hr,hp]
 ·exact h.ok
theorem q08{o:Oper}{ρ:Nat->Value}{K:Value->Et->Prop}(hc:∀c,o.op≠.call c)(h:opV P o ρ w K):OpOk2 P (execOp (ev ρ) o) w K:=by
 unfold opV at h
 split at h
 ·rename_i x ho;rw[qbl]at h;simp only[execOp,ho];exact qadb h
 ·rename_i x ho;rw[qbl]at h;simp only[execOp,ho];exact qadb h
 ·rename_i c a b ho;simp only[execOp,ho];exact q5d h
 ·rename_i op t x y yt ho;simp only[execOp,ho];exact OpOk2.val (qwd h)
 ·rename_i op t x ho;simp only[execOp,ho];exact qado h
 ·rename_i src dst x ho;exact q3z (by simp only[execOp,ho]) h
 ·rename_i t x i ho;simp only[execOp,ho];exact q9c h
 ·rename_i t x i ho;simp only[execOp,ho];exact qsc h
 ·rename_i t x ho;simp only[execOp,ho];exact q4w h
 ·rename_i t x v ho;exact q2g (by simp only[execOp,ho]) h
 ·rename_i x ix ho;simp only[execOp,ho];exact qr5 h
 ·rename_i t x f ho;simp only[execOp,ho];exact qnv h
 ·rename_i t x f ho;simp only[execOp,ho];exact qzl h
 ·rename_i t x ho;simp only[execOp,ho];exact q8l h
 ·rename_i t ho;simp only[execOp,ho];exact qyo h
 ·rename_i t x lo hi mx ho
  refine q2b ?_ h;simp only[execOp,ho];cases lo<;>cases hi<;>cases mx<;>rfl
 ·rename_i x ho;exact q9z ho h
 ·rename_i c ho;exact absurd ho (hc c)
 ·rename_i t parts ho
  rw[q61]at h;simp only[execOp,ho];refine qyw ?_
  simpa using h
 ·rename_i t len parts ho
  rw[q61]at h;simp only[execOp,ho];refine qlv ?_
  simpa using h
 ·rename_i t l c ho
  simp only[execOp,ho];exact qok h
 ·rename_i fn first captured ho
  rw[qai,qai,qes,qes]at h;simp only[execOp,ho];refine valV ?_ h;have e1:∀a:Array Operand,(a.toList.map (ev ρ)).toArray=a.map (ev ρ):=fun a=>by rw[<-Bk];simp
  simp only[Instr.makeFunc,e1];rfl
 ·rename_i t x ho;simp only[execOp,ho];exact qoj h
 ·rename_i t x ho;exact q1q (by simp only[execOp,ho]) h
 ·rename_i it b ho;exact q45 (ty:=o.type) (by simp only[execOp,ho]) h
 ·exact h.ok
theorem qvh{o:Oper}{ρ:Nat->Value}{K:Value->Et->Prop}(h:opV P o ρ w K):OpOk P (execOp (ev ρ) o) w K:=by
 by_cases hc:∃c,o.op=.call c
 ·obtain⟨c,ho⟩:=hc;unfold opV at h;rw[ho]at h;exact qui ho h
 ·exact .inl (q08 (fun c e=>hc ⟨c,e⟩) h)
end
def putV(n:Nat)(dst:Option Tmp)(ρ:Nat->Value)(v:Value)(K:(Nat->Value)->Prop):Prop:=
 match dst with
 | none=>K ρ
 | some d=>bif Nat.blt d n then K (upd ρ d v)else False
def runO(P:Ev)(n:Nat)(o:Oper)(K:(Nat->Value)->Et->Prop)(ρ:Nat->Value)(w:Et):Prop:=
 opV P o ρ w fun v w'=>putV n o.dst ρ v fun ρ'=>K ρ' w'
def qx1(n:Nat)(o:Oper)(K:(Nat->Value)->Et->Prop)(ρ:Nat->Value)(w:Et):Prop:=
 putV n o.dst ρ undef fun ρ'=>K ρ' w
def regV(P:Ev)(n:Nat)(ops:List Oper)(Q:(Nat->Value)->Et->Prop):List Oper->(Nat->Value)->Et->Prop
 | [],ρ,w=>Q ρ w
 | o::rest,ρ,w=>
  match o.guard with
  | none=>runO P n o (regV P n ops Q rest) ρ w
  | some (j,want)=>
   match getL ops j with
   | none=>qx1 n o (regV P n ops Q rest) ρ w
   | some oj=>match oj.dst with
    | none=>qx1 n o (regV P n ops Q rest) ρ w
    | some d=>bif Nat.blt d n then
      match ρ d with
      | .bool b=>Tst b
        (match want with
         | true=>runO P n o (regV P n ops Q rest) (upd ρ d (.bool true)) w
         | false=>qx1 n o (regV P n ops Q rest) (upd ρ d (.bool true)) w)
        (match want with
         | true=>qx1 n o (regV P n ops Q rest) (upd ρ d (.bool false)) w
         | false=>runO P n o (regV P n ops Q rest) (upd ρ d (.bool false)) w)
      | _=>qx1 n o (regV P n ops Q rest) ρ w
     else False
def seqQ(K:(Nat->Value)->Et->Prop)(Q:Exit->(Nat->Value)->Et->Prop):Exit->(Nat->Value)->Et->Prop
 | .normal,ρ,w=>K ρ w
 | .exit i,ρ,w=>Q (.exit i) ρ w
 | .goto l,ρ,w=>Q (.goto l) ρ w
 | .ret,ρ,w=>Q .ret ρ w
 | .panic c,ρ,w=>Q (.panic c) ρ w
 | .outgrown,ρ,w=>Q .outgrown ρ w
def qud(id:Nat)(Q:Exit->(Nat->Value)->Et->Prop):Exit->(Nat->Value)->Et->Prop
 | .normal,ρ,w=>Q .normal ρ w
 | .exit i,ρ,w=>bif Nat.beq i id then Q .normal ρ w else Q (.exit i) ρ w
 | .goto l,ρ,w=>Q (.goto l) ρ w
 | .ret,ρ,w=>Q .ret ρ w
 | .panic c,ρ,w=>Q (.panic c) ρ w
 | .outgrown,ρ,w=>Q .outgrown ρ w
def qadf(Q:Exit->(Nat->Value)->Et->Prop):Exit->(Nat->Value)->Et->Prop
 | .goto _,_,_=>False
 | .normal,ρ,w=>Q .normal ρ w
 | .exit i,ρ,w=>Q (.exit i) ρ w
 | .ret,ρ,w=>Q .ret ρ w
 | .panic c,ρ,w=>Q (.panic c) ρ w
 | .outgrown,ρ,w=>Q .outgrown ρ w
structure ScopeV(P:Ev)(n:Nat)(c:Code)(Q:Exit->(Nat->Value)->Et->Prop)(ρ:Nat->Value)(w:Et):Prop where
 h:∀a,St n ρ a->(Code.scope c).wp P (fun e a' w'=>∃ρ',St n ρ' a'/\Q e ρ' w') a w
def qe2(P:Ev)(n:Nat):Code->(Exit->(Nat->Value)->Et->Prop)->(Nat->Value)->Et->Prop
 | .skip,Q,ρ,w=>Q .normal ρ w
 | .region id ops draw,Q,ρ,w=>
  match draw with
  | false=>regV P n ops.toList (Q .normal) ops.toList ρ w
  | true=>DrawV P n id ops Q ρ w
 | .seq a b,Q,ρ,w=>qe2 P n a (seqQ (qe2 P n b Q) Q) ρ w
 | .cond c t e,Q,ρ,w=>
  match ev ρ c with
  | .bool b=>Tst b (qe2 P n t Q ρ w) (qe2 P n e Q ρ w)
  | _=>False
 | .block id c,Q,ρ,w=>qe2 P n c (qud id Q) ρ w
 | .loop c,Q,ρ,w=>LoopV P n c Q ρ w
 | .exit id,Q,ρ,w=>Q (.exit id) ρ w
 | .label _,Q,ρ,w=>Q .normal ρ w
 | .ret,Q,ρ,w=>Q .ret ρ w
 | .goto l,Q,ρ,w=>Q (.goto l) ρ w
 | .scope c,Q,ρ,w=>ScopeV P n c Q ρ w
 | .rangeFunc f p a b,Q,ρ,w=>CodeV P n (.rangeFunc f p a b) Q ρ w
 | .refuse _,_,_,_=>False
def lift(n:Nat)(Q:Exit->(Nat->Value)->Et->Prop):Exit->Act->Et->Prop:=fun e a w=>∃ρ,St n ρ a/\Q e ρ w
section
variable {P:Ev} {n:Nat}
theorem putV.st{dst:Option Tmp}{ρ:Nat->Value}{v:Value}{K:(Nat->Value)->Prop}{a:Act}(h:putV n dst ρ v K)(ha:St n ρ a):
  ∃ρ',St n ρ' (a.put dst v)/\K ρ':=by
 unfold putV at h
 split at h
 ·exact⟨ρ,ha,h⟩
 ·rename_i d
  cases hd:Nat.blt d n<;>rw[hd]at h
  ·exact h.elim
  ·exact⟨_,ha.put (by simpa using hd) v,h⟩
theorem St.yield{ρ:Nat->Value}{a:Act}(ha:St n ρ a){ops:List Oper}{j d:Nat}{oj:Oper}(hj:getL ops j=some oj)(hd:oj.dst=some d)(hn:d<n):
  yielded ops.toArray a.tmps j=match ρ d with | .bool b=>some b|_=>none:=by
 have h1:ops.toArray[j]?=some oj:=by rw[ql]at hj;simpa using hj
 have h2:a.tmps[d]?=some (ρ d):=by
  have hs:=ha.size;have:=ha.get d;rw[BN,Aj Oo]at this;rw[Aj Oo]
  simpa using this
 simp only[yielded,h1,Option.bind_some,hd,h2];cases ρ d<;>rfl
theorem qs3{o:Oper}{ops:Array Oper}{ρ:Nat->Value}{w:Et}{K:(Nat->Value)->Et->Prop}{a:Act}{rest:List Oper}{Q':Exit->Act->Et->Prop}(hg:Region.wanted o (yielded ops a.tmps)=true)(ha:St n ρ a)(h:runO P n o K ρ w)(hk:∀ρ' a' w',St n ρ' a'->K ρ' w'->wpList P ops Q' rest a' w'):
  wpList P ops Q' (o::rest) a w:=by
 unfold wpList;rw[Ad hg];refine .inl (OpOk.wp ha.eval (qvh h) fun v w' hp=>?_);obtain⟨ρ',h1,h2⟩:=putV.st hp ha;exact hk _ _ _ h1 h2
theorem qhy{o:Oper}{ops:Array Oper}{ρ:Nat->Value}{w:Et}{K:(Nat->Value)->Et->Prop}{a:Act}{rest:List Oper}{Q':Exit->Act->Et->Prop}(hg:Region.wanted o (yielded ops a.tmps)=false)(ha:St n ρ a)(h:qx1 n o K ρ w)(hk:∀ρ' a' w',St n ρ' a'->K ρ' w'->wpList P ops Q' rest a' w'):
  wpList P ops Q' (o::rest) a w:=by
 unfold wpList;rw[Aa (by rw[hg];simp)];obtain⟨ρ',h1,h2⟩:=putV.st h ha;exact hk _ _ _ h1 h2
theorem qaat{ops:List Oper}{Q:(Nat->Value)->Et->Prop}{Q':Exit->Act->Et->Prop}(hQ:∀ρ a w,St n ρ a->Q ρ w->Q' .normal a w)(l:List Oper):
  ∀(ρ:Nat->Value) (a:Act) (w:Et),St n ρ a->regV P n ops Q l ρ w->wpList P ops.toArray Q' l a w:=by
 induction l with
 | nil=>intro ρ a w ha h;exact hQ _ _ _ ha h
 | cons o rest ih=>
  intro ρ a w ha h;unfold regV at h;have ih':∀ρ' a' w',St n ρ' a'->regV P n ops Q rest ρ' w'->wpList P ops.toArray Q' rest a' w':=fun ρ' a' w'=>ih ρ' a' w'
  split at h
  ·rename_i hg
   exact qs3 (by simp[Region.wanted,hg]) ha h ih'
  ·rename_i j want hg
   split at h
   ·rename_i hj
    rw[ql]at hj;refine qhy ?_ ha h ih';have:ops.toArray[j]?=none:=by simpa using hj
    simp[Region.wanted,hg,yielded,this]
   ·rename_i oj hj
    split at h
    ·rename_i hd
     refine qhy ?_ ha h ih';have hj2:=hj;rw[ql]at hj2;have:ops.toArray[j]?=some oj:=by simpa using hj2
     simp[Region.wanted,hg,yielded,this,hd]
    ·rename_i d hd
     cases hn:Nat.blt d n<;>rw[hn]at h
     ·exact h.elim
     ·have hn':d<n:=by simpa using hn
      have hy:=ha.yield hj hd hn';simp only[cond_true]at h
      split at h
      ·rename_i b hb
       rw[hb]at hy;cases b
       ·have h:=h.f rfl;have ha':=ha.same hb;cases want
        ·exact qs3 (by simp[Region.wanted,hg,hy]) ha' h ih'
        ·exact qhy (by simp[Region.wanted,hg,hy]) ha' h ih'
       ·have h:=h.t rfl;have ha':=ha.same hb;cases want
        ·exact qhy (by simp[Region.wanted,hg,hy]) ha' h ih'
        ·exact qs3 (by simp[Region.wanted,hg,hy]) ha' h ih'
      ·rename_i hb
       refine qhy ?_ ha h ih';have:yielded ops.toArray a.tmps j=none:=by
        rw[hy]
        split
        ·rename_i b hb';exact absurd hb' (hb b)
        ·rfl
       simp[Region.wanted,hg,this]
theorem q4v{K:(Nat->Value)->Et->Prop}{Q:Exit->(Nat->Value)->Et->Prop}{e:Exit}{a:Act}{w:Et}(h:lift n (seqQ K Q) e a w):
  Exit.then (fun a w=>∃ρ,St n ρ a/\K ρ w) (lift n Q) e a w:=by
 obtain⟨ρ,h1,h2⟩:=h;cases e<;>exact⟨ρ,h1,h2⟩
theorem qwx{id:Nat}{Q:Exit->(Nat->Value)->Et->Prop}{e:Exit}{a:Act}{w:Et}(h:lift n (qud id Q) e a w):
  Exit.inBlock id (lift n Q) e a w:=by
 obtain⟨ρ,h1,h2⟩:=h;cases e with
 | exit i=>
  by_cases hi:i=id
  ·have hb:Nat.beq i id=true:=by subst hi;simp
   simp only[qud,hb,cond_true]at h2;simp only[Exit.inBlock,hi,if_true];exact⟨ρ,h1,h2⟩
  ·have hb:Nat.beq i id=false:=Bz.2 fun h=>hi (Bn h)
   simp only[qud,hb,cond_false]at h2;simp only[Exit.inBlock,hi,if_false];exact⟨ρ,h1,h2⟩
 | normal=>exact⟨ρ,h1,h2⟩
 | goto l=>exact⟨ρ,h1,h2⟩
 | ret=>exact⟨ρ,h1,h2⟩
 | panic c=>exact⟨ρ,h1,h2⟩
 | outgrown=>exact⟨ρ,h1,h2⟩
theorem qjy(c:Code):∀(Q:Exit->(Nat->Value)->Et->Prop) (ρ:Nat->Value) (w:Et),qe2 P n c Q ρ w->∀a,St n ρ a->c.wp P (lift n Q) a w:=by
 induction c with
 | skip=>intro Q ρ w h a ha;exact wp_skip ⟨ρ,ha,h⟩
 | region id ops draw=>
  intro Q ρ w h a ha;cases draw
  ·refine wp_region_list ?_;have:=qaat (Q':=lift n Q) (fun ρ a w ha h=>⟨ρ,ha,h⟩) ops.toList ρ a w ha h
   simpa using this
  ·exact h.h a ha
 | seq x y hx hy=>
  intro Q ρ w h a ha;refine wp_seq (wp_mono (hx _ _ _ h a ha) fun e a w h=>?_);have:=q4v h;cases e with
  | normal=>obtain⟨ρ',h1,h2⟩:=this;exact hy _ _ _ h2 _ h1
  | exit i=>exact this
  | goto l=>exact this
  | ret=>exact this
  | panic c=>exact this
  | outgrown=>exact this
 | cond c t e ht he=>
  intro Q ρ w h a ha;unfold qe2 at h
  split at h
  ·rename_i b hb
   refine wp_cond_split (t:=b) (by rw[ha.eval,hb]) (fun e=>ht _ _ _ (h.t e) a ha) (fun e=>he _ _ _ (h.f e) a ha)
  ·exact h.elim
 | block id c hc=>
  intro Q ρ w h a ha;exact wp_block (wp_mono (hc _ _ _ h a ha) fun e a w h=>qwx h)
 | loop c hc=>intro Q ρ w h a ha;exact h.h a ha
 | rangeFunc f p x b hx hb=>intro Q ρ w h a ha;exact h.h a ha
 | exit id=>intro Q ρ w h a ha;exact wp_exit ⟨ρ,ha,h⟩
 | scope c hc=>intro Q ρ w h a ha;exact h.h a ha
 | label l=>intro Q ρ w h a ha;exact wp_label ⟨ρ,ha,h⟩
 | goto l=>intro Q ρ w h a ha;exact wp_goto ⟨ρ,ha,h⟩
 | ret=>intro Q ρ w h a ha;exact wp_ret ⟨ρ,ha,h⟩
 | refuse why=>intro Q ρ w h a ha;exact h.elim
theorem ScopeV.straight{P:Ev}{n:Nat}{c:Code}{Q:Exit->(Nat->Value)->Et->Prop}{ρ:Nat->Value}{w:Et}(h:qe2 P n c (qadf Q) ρ w):ScopeV P n c Q ρ w:=by
 refine⟨fun a ha=>wp_scope_straight (wp_mono (qjy c _ _ _ h a ha) fun e a w h=>?_)⟩;obtain⟨ρ',h1,h2⟩:=h;cases e<;>first|exact h2.elim|exact⟨ρ',h1,h2⟩
structure SameW(w' w:Et)(k:Prop):Prop where
 h:w'=w
 k:k
structure CallQ(P:Ev)(f:FuncId)(args:Ez)(w:Et)(K:Value->Prop):Prop where
 h:∃v,Gv P f args w (fun u w'=>u=v/\w'=w)/\K v
def q8q(P:Ev)(c:Call)(ρ:Nat->Value)(w:Et)(s:Sem Next)(K:Value->Prop):Prop:=
 match c.callee with
 | .value f=>match ev ρ f with
  | .func (.func g) first captured=>qce (evs ρ c.args.toList) fun vs=>
   match first.toList,captured.toList with
   | [],[]=>CallQ P g vs w K
   | x,y=>CallQ P g (x++(vs++y)) w K
  | _=>False
 | .builtin .len=>lenV P (getL c.argTypes.toList 0) (evs ρ c.args.toList) w s fun v w'=>SameW w' w (K v)
 | _=>False
def opQ(P:Ev)(o:Oper)(ρ:Nat->Value)(w:Et)(K:Value->Prop):Prop:=
 match o.op with
 | .call c=>q8q P c ρ w (execOp (ev ρ) o) K
 | _=>opV P o ρ w fun v w'=>SameW w' w (K v)
section
variable {P:Ev} {w:Et} {n:Nat}
def StillOk(P:Ev)(s:Sem Next)(w:Et)(K:Value->Prop):Prop:=
 OpOk2 P s w (fun v w'=>w'=w/\K v)\/
 (∃f args v,s.run P w=.ok (.enter f args) w/\Calls P f args w (fun e w'=>e=.returned v/\w'=w)/\K v)
theorem OpOk2.same{s:Sem Next}{K:Value->Prop}(h:OpOk2 P s w fun v w'=>SameW w' w (K v)):StillOk P s w K:=by
 refine .inl ?_
 rcases h with⟨v,w',h1,h2⟩|⟨w',h1,h2⟩
 ·exact .inl ⟨v,w',h1,h2.h,h2.k⟩
 ·exact .inr ⟨w',h1,h2.h,h2.k⟩
theorem q3u{ρ:Nat->Value}{o:Oper}{c:Call}{K:Value->Prop}(ho:o.op=.call c)(h:q8q P c ρ w (execOp (ev ρ) o) K):
  StillOk P (execOp (ev ρ) o) w K:=by
 unfold q8q at h
 split at h
 ·rename_i f hc
  split at h
  ·rename_i g first captured hf
   rw[qai,qes]at h;have he:execOp (ev ρ) o=callFunc g (first++c.args.map (ev ρ)++captured):=by
    simp only[execOp,ho,resolve,hc,hf];rfl
   rw[he];have key:CallQ P g (first.toList++(c.args.toList.map (ev ρ)++captured.toList)) w K:=by
    split at h
    ·rename_i h1 h2;rw[h1,h2];simpa using h
    ·exact h
   have e2:(first.toList++(c.args.toList.map (ev ρ)++captured.toList)).toArray=first++c.args.map (ev ρ)++captured:=by
    rw[<-Bk];simp
   rw[<-e2];obtain⟨v,⟨h1,h2⟩,hk⟩:=key;refine .inr ⟨g,_,v,qcu h1 _,h2.mono ?_,hk⟩;rintro e w' ⟨u,he,rfl,hw⟩;exact⟨he,hw⟩
  ·exact h.elim
 ·rename_i hc;exact(q0n ho hc h).same
 ·exact h.elim
theorem qac3{o:Oper}{ρ:Nat->Value}{K:Value->Prop}(h:opQ P o ρ w K):StillOk P (execOp (ev ρ) o) w K:=by
 unfold opQ at h
 split at h
 ·rename_i c ho;exact q3u ho h
 ·rename_i hc;exact(q08 (fun c e=>hc c e) h).same
theorem StillOk.still{o:Oper}{ρ:Nat->Value}{K:Value->Prop}{a:Act}{next:Act->Prop}(he:a.eval=ev ρ)(h:StillOk P (execOp (ev ρ) o) w K)(hn:∀v,K v->next (a.put o.dst v)):o.still P a w next:=by
 unfold Oper.still;rw[he]
 rcases h with(⟨v,w',h1,h2,h3⟩|⟨w',h1,h2,h3⟩)|⟨f,args,v,h1,h2,h3⟩
 ·rw[h1];exact⟨h2,hn _ h3⟩
 ·rw[h1];exact⟨h2,hn _ h3⟩
 ·rw[h1];exact⟨rfl,v,h2,hn _ h3⟩
def runQ(P:Ev)(n:Nat)(o:Oper)(K:(Nat->Value)->Prop)(ρ:Nat->Value)(w:Et):Prop:=
 opQ P o ρ w fun v=>putV n o.dst ρ v K
def regQ(P:Ev)(n:Nat)(ops:List Oper)(w:Et)(Q:(Nat->Value)->Prop):List Oper->(Nat->Value)->Prop
 | [],ρ=>Q ρ
 | o::rest,ρ=>
  match o.guard with
  | none=>runQ P n o (regQ P n ops w Q rest) ρ w
  | some (j,want)=>
   match getL ops j with
   | none=>putV n o.dst ρ undef (regQ P n ops w Q rest)
   | some oj=>match oj.dst with
    | none=>putV n o.dst ρ undef (regQ P n ops w Q rest)
    | some d=>bif Nat.blt d n then
      match ρ d with
      | .bool b=>Tst b
        (match want with
         | true=>runQ P n o (regQ P n ops w Q rest) (upd ρ d (.bool true)) w
         | false=>putV n o.dst (upd ρ d (.bool true)) undef (regQ P n ops w Q rest))
        (match want with
         | true=>putV n o.dst (upd ρ d (.bool false)) undef (regQ P n ops w Q rest)
         | false=>runQ P n o (regQ P n ops w Q rest) (upd ρ d (.bool false)) w)
      | _=>putV n o.dst ρ undef (regQ P n ops w Q rest)
     else False
theorem qs4{o:Oper}{ops:Array Oper}{ρ:Nat->Value}{K:(Nat->Value)->Prop}{a:Act}{rest:List Oper}{Q':Act->Prop}(hg:Region.wanted o (yielded ops a.tmps)=true)(ha:St n ρ a)(h:runQ P n o K ρ w)(hk:∀ρ' a',St n ρ' a'->K ρ'->wpStill P ops w Q' rest a'):
  wpStill P ops w Q' (o::rest) a:=by
 unfold wpStill;rw[Ad hg];refine StillOk.still ha.eval (qac3 h) fun v hp=>?_;obtain⟨ρ',h1,h2⟩:=putV.st hp ha;exact hk _ _ h1 h2
theorem qhz{o:Oper}{ops:Array Oper}{ρ:Nat->Value}{K:(Nat->Value)->Prop}{a:Act}{rest:List Oper}{Q':Act->Prop}(hg:Region.wanted o (yielded ops a.tmps)=false)(ha:St n ρ a)(h:putV n o.dst ρ undef K)(hk:∀ρ' a',St n ρ' a'->K ρ'->wpStill P ops w Q' rest a'):
  wpStill P ops w Q' (o::rest) a:=by
 unfold wpStill;rw[Aa (by rw[hg];simp)];obtain⟨ρ',h1,h2⟩:=putV.st h ha;exact hk _ _ h1 h2
theorem qaas{ops:List Oper}{Q:(Nat->Value)->Prop}{Q':Act->Prop}(hQ:∀ρ a,St n ρ a->Q ρ->Q' a)(l:List Oper):
  ∀(ρ:Nat->Value) (a:Act),St n ρ a->regQ P n ops w Q l ρ->wpStill P ops.toArray w Q' l a:=by
 induction l with
 | nil=>intro ρ a ha h;exact hQ _ _ ha h
 | cons o rest ih=>
  intro ρ a ha h;unfold regQ at h;have ih':∀ρ' a',St n ρ' a'->regQ P n ops w Q rest ρ'->wpStill P ops.toArray w Q' rest a':=fun ρ' a'=>ih ρ' a'
  split at h
  ·rename_i hg
   exact qs4 (by simp[Region.wanted,hg]) ha h ih'
  ·rename_i j want hg
   split at h
   ·rename_i hj
    rw[ql]at hj;refine qhz ?_ ha h ih';have:ops.toArray[j]?=none:=by simpa using hj
    simp[Region.wanted,hg,yielded,this]
   ·rename_i oj hj
    split at h
    ·rename_i hd
     refine qhz ?_ ha h ih';have hj2:=hj;rw[ql]at hj2;have:ops.toArray[j]?=some oj:=by simpa using hj2
     simp[Region.wanted,hg,yielded,this,hd]
    ·rename_i d hd
     cases hn:Nat.blt d n<;>rw[hn]at h
     ·exact h.elim
     ·have hn':d<n:=by simpa using hn
      have hy:=ha.yield hj hd hn';simp only[cond_true]at h
      split at h
      ·rename_i b hb
       rw[hb]at hy;cases b
       ·have h:=h.f rfl;have ha':=ha.same hb;cases want
        ·exact qs4 (by simp[Region.wanted,hg,hy]) ha' h ih'
        ·exact qhz (by simp[Region.wanted,hg,hy]) ha' h ih'
       ·have h:=h.t rfl;have ha':=ha.same hb;cases want
        ·exact qhz (by simp[Region.wanted,hg,hy]) ha' h ih'
        ·exact qs4 (by simp[Region.wanted,hg,hy]) ha' h ih'
      ·rename_i hb
       refine qhz ?_ ha h ih';have:yielded ops.toArray a.tmps j=none:=by
        rw[hy]
        split
        ·rename_i b hb';exact absurd hb' (hb b)
        ·rfl
       simp[Region.wanted,hg,this]
theorem DrawV.quiet{id:Nat}{ops:Array Oper}{Q:Exit->(Nat->Value)->Et->Prop}{ρ:Nat->Value}(hm:P.follows .mixedOrders=true)(hB:Region.lexB .any ops=true)(h:regQ P n ops.toList w.drew (fun ρ'=>Q .normal ρ' w.drew) ops.toList ρ):DrawV P n id ops Q ρ w:=by
 refine⟨fun a ha=>wp_region_still hm hB ?_⟩;have:=qaas (w:=w.drew) (Q':=fun a'=>∃ρ',St n ρ' a'/\Q .normal ρ' w.drew) (fun ρ a ha h=>⟨ρ,ha,h⟩) ops.toList ρ a ha h
 simpa using this
end
def over:List (Nat×Value)->(Nat->Value)->Nat->Value
 | [],ρ=>ρ
 | (t,v)::l,ρ=>upd (over l ρ) t v
def qpp:List (Nat×Value)->(Nat->Value)->Prop
 | [],_=>True
 | (t,v)::l,ρ=>ρ t=v/\qpp l ρ
theorem qqu{l:List (Nat×Value)}{ρ:Nat->Value}(h:qpp l ρ):over l ρ=ρ:=by
 induction l with
 | nil=>rfl
 | cons x l ih=>
  obtain⟨t,v⟩:=x;obtain⟨h1,h2⟩:=h
  funext u
  simp only[over,ih h2,upd]
  by_cases e:u=t
  ·subst e;simp[h1]
  ·have e':Nat.beq u t=false:=Bz.2 fun h=>e (Bn h)
   rw[e'];rfl
theorem qj{α:Type}(l:α->List (Nat×Value))(I:α->Et->Prop)(μ:α->Nat){body:Code}{Q:Exit->(Nat->Value)->Et->Prop}{ρ:Nat->Value}{w:Et}(x0:α)(h0:qpp (l x0) ρ)(hI:I x0 w)(hr:∀x w ρ',I x w->qe2 P n body (seqQ (fun ρ'' w'=>∃x',qpp (l x') ρ''/\I x' w'/\μ x'<μ x) Q) (over (l x) ρ') w):LoopV P n body Q ρ w:=by
 refine⟨fun a ha=>?_⟩;have key:∀m x,μ x=m->∀ρ a w,qpp (l x) ρ->St n ρ a->I x w->∀(b:Frame) (k:List Item) (cs:List Frame),
   ∃e a' w',lift n Q e a' w'/\Arrives P (lone (b.at a (.code body::.inLoop body::k)) cs w) b k cs e a' w':=by
  intro m
  induction m using Nat.strongRecOn with
  | _ m ih=>
   intro x hm ρ a w hag hst hI b k cs;have h1:=hr x w ρ hI;rw[qqu hag]at h1;obtain⟨e,a₁,w₁,hq,harr⟩:=qjy body _ _ _ h1 a hst b (.inLoop body::k) cs;obtain⟨ρ₁,hst₁,hq⟩:=hq;cases e with
   | normal=>
    obtain⟨x',hag',hI',hlt⟩:=hq;obtain⟨e₂,a₂,w₂,hq₂,harr₂⟩:=ih (μ x') (hm ▸ hlt) x' rfl ρ₁ a₁ w₁ hag' hst₁ hI' b k cs;exact⟨e₂,a₂,w₂,hq₂,.of_steps (Steps.trans harr (.one step_inLoop)) harr₂⟩
   | exit id=>exact⟨_,a₁,w₁,⟨ρ₁,hst₁,hq⟩,.pass (x:=.inLoop body) rfl (fun _ _=>.inl Js) harr⟩
   | goto l=>exact⟨_,a₁,w₁,⟨ρ₁,hst₁,hq⟩,.pass (x:=.inLoop body) rfl (fun _ _=>.inl Js) harr⟩
   | ret=>exact⟨_,a₁,w₁,⟨ρ₁,hst₁,hq⟩,.pass (x:=.inLoop body) rfl (fun _ _=>.inl Js) harr⟩
   | panic ch=>exact⟨_,a₁,w₁,⟨ρ₁,hst₁,hq⟩,.pass (x:=.inLoop body) rfl (fun _ _=>.inl Js) harr⟩
   | outgrown=>exact⟨_,a₁,w₁,⟨ρ₁,hst₁,hq⟩,.pass (x:=.inLoop body) rfl (fun _ _=>.inl Js) harr⟩
 intro b k cs;obtain⟨e,a',w',hq,harr⟩:=key _ x0 rfl ρ a w h0 ha hI b k cs;exact⟨e,a',w',hq,.of_steps (.one step_loop) harr⟩
def ini:Ez->Nat->Value
 | [],_=>undef
 | v::_,0=>v
 | _::l,t+1=>ini l t
theorem q66(l:Ez)(t:Nat):ini l t=(l[t]?).getD undef:=by
 induction l generalizing t with
 | nil=>simp[ini]
 | cons v l ih=>cases t<;>simp[ini,ih]
def qh3:List ResultVar->Option (List Operand)
 | []=>some []
 | .tmp t::l=>match qh3 l with
  | some r=>some (.tmp t::r)
  | none=>none
 | .cell _ _::_=>none
def resV(rs:Array ResultVar)(ρ:Nat->Value)(w:Et)(fn:Func)(R:Value->Et->Prop)(P:Ev)(n:Nat):Prop:=
 match rs.toList with
 | [.tmp t]=>qil (ρ t) fun v=>R v w
 | l=>match qh3 l with
  | some ts=>qce (evs ρ ts) fun vs=>R (.tuple vs.toArray) w
  | none=>∀a,St n ρ a->∃v,(results fn a.tmps).run P w=.ok v w/\R v w
def q3s(P:Ev)(n:Nat)(fn:Func)(R:Value->Et->Prop):Exit->(Nat->Value)->Et->Prop
 | .normal,ρ,w=>resV fn.results ρ w fn R P n
 | .ret,ρ,w=>resV fn.results ρ w fn R P n
 | _,_,_=>False
def resF(tmps:E6):ResultVar->Sem Value
 | .tmp t=>pure (tmps.getD t undef)
 | .cell a t=>do loadVar t (<-asAddr (tmps.getD a undef))
theorem qrd(tmps:E6)(w:Et)(ρ:Nat->Value)(hρ:∀t,tmps.getD t undef=ρ t):∀(l:List ResultVar) (ts:List Operand),qh3 l=some ts->
  (l.mapM (resF tmps)).run P w=.ok (evs ρ ts) w:=by
 intro l
 induction l with
 | nil=>intro ts h;cases h;simp[evs]
 | cons x l ih=>
  intro ts h;cases x with
  | cell a t=>cases h
  | tmp t=>
   simp only[qh3]at h;cases e:qh3 l with
   | none=>rw[e]at h;cases h
   | some r=>
    rw[e]at h;cases h;simp[ih r e,evs,ev,resF,hρ]
theorem qlc{rs:Array ResultVar}{ρ:Nat->Value}{w:Et}{fn:Func}{R:Value->Et->Prop}(hrs:fn.results=rs){a:Act}(ha:St n ρ a)(h:resV rs ρ w fn R P n):
  ∃v,(results fn a.tmps).run P w=.ok v w/\R v w:=by
 unfold resV at h;have hm:∀ts,qh3 rs.toList=some ts->(results fn a.tmps).run P w=.ok (if h:(evs ρ ts).toArray.size=1 then(evs ρ ts).toArray[0]else .tuple (evs ρ ts).toArray) w:=by
  intro ts hts;have:=qrd (P:=P) a.tmps w ρ ha.get rs.toList ts hts;have e:results fn a.tmps=(do let vs <-fn.results.mapM (resF a.tmps);pure (if h:vs.size=1 then vs[0]else .tuple vs)):=by
   unfold results;congr 1
  rw[e,hrs,DD];simp[this]
 split at h
 ·rename_i t hl
  rw[qbl]at h;refine⟨ρ t,?_,h⟩;rw[hm [.tmp t] (by rw[hl];rfl)];simp[evs,ev]
 ·rename_i l hl
  split at h
  ·rename_i ts hts
   rw[qai]at h;refine⟨_,?_,h⟩;rw[hm ts hts];have hne:¬(evs ρ ts).toArray.size=1:=by
    intro h1;rw[qes]at h1;simp at h1
    match rs.toList,hts,hl with
    | [],hts,_=>cases hts;cases h1
    | [.tmp t],_,hl=>exact hl t rfl
    | .tmp t::y::r,hts,_=>
     simp only[qh3]at hts
     revert hts
     cases y with
     | cell a t=>intro hts;cases hts
     | tmp u=>
      simp only[qh3];cases qh3 r<;>intro hts<;>cases hts
      simp at h1
    | .cell a t::r,hts,_=>cases hts
   rw[dif_neg hne]
  ·exact h a ha
theorem Gv.mono{f:FuncId}{vs:Ez}{w:Et}{R R':Value->Et->Prop}(h:Gv P f vs w R)(hr:∀v w',R v w'->R' v w'):Gv P f vs w R':=
 ⟨h.1,h.2.mono fun _ _ ⟨v,he,hv⟩=>⟨v,he,hr _ _ hv⟩⟩
theorem CallV.of{f:FuncId}{vs:Ez}{w:Et}{R K:Value->Et->Prop}(h:Gv P f vs w R)(hr:∀v w',R v w'->K v w'):CallV P f vs w K:=
 ⟨.inl (h.mono hr)⟩
theorem gv{f:FuncId}{fn:Func}{c:Code}{vs:Ez}{w:Et}{R:Value->Et->Prop}(he:qdx P f=true)(hf:P.funcs[f]?=some fn)(hb:fn.body=some c)(hn:fn.ntmps=n)(hl:Nat.ble vs.length n=true)(h:qe2 P n c (q3s P n fn R) (ini vs) w):Gv P f vs w R:=by
 have hl':vs.length<=n:=by simpa using hl
 refine⟨he,calls_of_wp hf hb (wp_mono (qjy c _ _ _ h _ ⟨?_,?_,rfl⟩) fun e a w hq=>?_)⟩
 ·simp[hn];omega
 ·intro t;rw[q66,BN];simp only[Array.getElem?_append,CH,hn]
  split
  ·simp
  ·rename_i ht
   rw[Az Oo];simp only[DG]
   split<;>rfl
 ·obtain⟨ρ,hst,hq⟩:=hq;cases e with
  | normal=>
   obtain⟨v,h1,h2⟩:=qlc rfl hst hq;exact⟨hst.defers,v,h1,v,rfl,h2⟩
  | ret=>
   obtain⟨v,h1,h2⟩:=qlc rfl hst hq;exact⟨hst.defers,v,h1,v,rfl,h2⟩
  | exit i=>exact hq.elim
  | goto i=>exact hq.elim
  | panic i=>exact hq.elim
  | outgrown=>exact hq.elim
end
theorem Wit.conv{k:IntKind}{n:Int}{K:Int->Prop}(h:InR k n)(hk:K n):Wit (fun r=>k.wrap n=r) K:=⟨n,h.wrap,hk⟩
theorem Wit.eq{α:Type}{x y:α}{K:α->Prop}(h:x=y)(hk:K y):Wit (fun r=>x=r) K:=⟨y,h,hk⟩
theorem Wit.shl{k:IntKind}{a b m r:Int}{K:Int->Prop}(h0:0<=b/\b<k.bits)(hm:(2:Int) ^ b.toNat=m)(hr:a*m=r)(hi:InR k r)(hk:K r):
  Wit (fun r=>0<=b/\b<k.bits/\k.wrap (a*2 ^ b.toNat)=r) K:=⟨r,⟨h0.1,h0.2,by rw[hm,hr];exact hi.wrap⟩,hk⟩
theorem Wit.shr{k:IntKind}{a b m r:Int}{K:Int->Prop}(h0:0<=b/\b<k.bits)(hm:(2:Int) ^ b.toNat=m)(hr:a/m=r)(hk:K r):
  Wit (fun r=>0<=b/\b<k.bits/\a/2 ^ b.toNat=r) K:=⟨r,⟨h0.1,h0.2,by rw[hm,hr]⟩,hk⟩
theorem IdxV.nat{j n:Nat}{K:Nat->Prop}(h:j<n)(hk:K j):IdxV (j:Int) n K:=⟨j,rfl,h,hk⟩
theorem IdxV.at_{i:Int}(j:Nat){n:Nat}{K:Nat->Prop}(e:i=(j:Int))(h:j<n)(hk:K j):IdxV i n K:=⟨j,e,h,hk⟩
theorem SliceS.at_{s:Eu}{lo hi:Option Value}{K:Value->Prop}(l h:Nat)(h1:bnd lo 0 l)(h2:bnd hi s.size h)(h3:l<=h)(h4:h<=s.size)(hk:K (.string (s.extract l h))):
  SliceS s lo hi K:=⟨l,h,h1,h2,h3,h4,hk⟩
theorem qhm(k:IntKind)(m:Nat)(hm:m<2 ^ k.bits):(BitVec.ofInt k.bits (m:Int)).toNat=m:=by
 simp;exact BD hm
theorem InR.lt{k:IntKind}{m:Nat}(h:InR k m):m<2 ^ k.bits:=by
 cases k<;>obtain⟨h1,h2⟩:=h<;>simp[IntKind.bits]<;>omega
theorem InR.le{k:IntKind}{m n:Nat}(h:InR k n)(hm:m<=n):InR k m:=by
 cases k<;>obtain⟨h1,h2⟩:=h<;>exact⟨by omega,by omega⟩
theorem quc{k:IntKind}{m n:Nat}(hm:InR k m)(hn:InR k n):qev .and k m n=((m &&&n:Nat):Int):=by
 simp only[qev];rw[BitVec.toNat_and,qhm k m (InR.lt hm),qhm k n (InR.lt hn)];exact InR.wrap (InR.le hm Nat.and_le_left)
theorem qrw{k:IntKind}{m n:Nat}(hm:InR k m)(hn:InR k n)(h:InR k ((m |||n:Nat):Int)):qev .or k m n=((m |||n:Nat):Int):=by
 simp only[qev];rw[BitVec.toNat_or,qhm k m (InR.lt hm),qhm k n (InR.lt hn)];exact InR.wrap h
theorem qa9{k:IntKind}{m:Nat}(i:Nat){c:Int}(hc:c=((2 ^ i-1:Nat):Int))(hm:InR k m)(hn:InR k c):qev .and k m c=((m%2 ^ i:Nat):Int):=by
 subst hc;rw[quc hm hn,DW]
theorem q3o{k:IntKind}{a b:Nat}(i:Nat)(ha:InR k ((a*2 ^ i+b:Nat):Int))(hb:b<2 ^ i):qev .or k ((a*2 ^ i:Nat):Int) b=((a*2 ^ i+b:Nat):Int):=by
 have e:(a*2 ^ i |||b)=a*2 ^ i+b:=by rw[C7];exact(Nat.two_pow_add_eq_or_of_lt hb a).symm
 rw[qrw (InR.le ha Oo) (InR.le ha Oo) (by rw[e];exact ha),e]
end V
namespace V
def Ext(w w':Et):Prop:=Below w.heap.size w w'
theorem Ext.refl(w:Et):Ext w w:=Below.refl _ _
theorem Ext.trans{a b c:Et}(h:Ext a b)(k:Ext b c):Ext a c:=Below.trans h (Below.mono k h.size)
theorem Ext.alloc{a w:Et}(h:Ext a w)(o:Obj):Ext a (w.alloc o):=Below.alloc h h.size o
theorem Ext.get{w w':Et}(h:Ext w w'){b:Nat}{o:Obj}(hb:w.heap[b]?=some o):w'.heap[b]?=some o:=by
 rw[h.block b]
 ·exact hb
 ·rcases Ba b w.heap.size with h|h
  ·exact h
  ·rw[Bb h]at hb;cases hb
theorem Ext.cell{w w':Et}(h:Ext w w'){a:Addr}{v:Value}(hv:w.cell? a=some v):w'.cell? a=some v:=by
 have hlt:a.block<w.heap.size:=by
  rcases Ba a.block w.heap.size with h|h
  ·exact h
  ·unfold World.cell? at hv;rw[Bb h]at hv;cases hv
 rw[Below.cell h hlt];exact hv
theorem Ext.drew{a w:Et}(h:Ext a w):Ext a w.drew:=Below.drew h
theorem qbj{w:Et}{r b:Nat}{o:Obj}(h:b≠r):(setO w r o).heap[b]?=w.heap[b]?:=by
 simp only[setO];rw[CN (fun e=>h e.symm)]
theorem qfl{w:Et}{r:Nat}{o o':Obj}(h:w.heap[r]?=some o'):(setO w r o).heap[r]?=some o:=by
 have hlt:r<w.heap.size:=by
  rcases Ba r w.heap.size with h' | h'
  ·exact h'
  ·rw[Bb h']at h;cases h
 simp[setO,hlt]
theorem Ext.setO{a w:Et}(h:Ext a w){r:Nat}(hr:a.heap.size<=r)(o:Obj):Ext a (setO w r o):=
 Below.trans h ⟨rfl,rfl,rfl,by simp[V.setO],fun k hk=>qbj Oo⟩
theorem Ext.setCell{a w:Et}(h:Ext a w){p:Addr}(hr:a.heap.size<=p.block)(v:Value):Ext a (w.setCell p v):=Below.setCell h hr v
structure Mem(w0 w:Et)(L:Ey):Prop where
 ext:Ext w0 w
 own:∀x∈L,w0.heap.size<=x.1/\w.heap[x.1]?=some x.2
 nodup:(L.map (·.1)).Nodup
section
variable {w0 w w':Et} {L:Ey}
theorem Mem.nil(w:Et):Mem w w []:=⟨Ext.refl w,fun _ h=>by simp at h,by simp⟩
theorem Mem.lt(h:Mem w0 w L){b:Nat}{o:Obj}(hx:(b,o)∈L):b<w.heap.size:=by
 have:=(h.own _ hx).2
 rcases Ba b w.heap.size with h' | h'
 ·exact h'
 ·rw[Bb h']at this;cases this
theorem Mem.get(h:Mem w0 w L){b:Nat}{o:Obj}(hx:(b,o)∈L):w.heap[b]?=some o:=(h.own _ hx).2
theorem Mem.new(h:Mem w0 w L){b:Nat}{o:Obj}(hb:b=w.heap.size)(hw:w'=w.alloc o):Mem w0 w' ((b,o)::L):=by
 subst hb hw;refine⟨h.ext.alloc o,?_,?_⟩
 ·intro x hx
  rcases AF.1 hx with rfl|hx
  ·exact⟨h.ext.size,heap_alloc_new w _⟩
  ·exact⟨(h.own x hx).1,by rw[Below.heap_alloc _ _ _ (h.lt (b:=x.1) (o:=x.2) hx)];exact(h.own x hx).2⟩
 ·simp only[AW,DH];refine⟨fun hm=>?_,h.nodup⟩;obtain⟨x,hx,e⟩:=Bc.1 hm;have:=h.lt (b:=x.1) (o:=x.2) hx;omega
theorem Mem.call(h:Mem w0 w L)(he:Ext w w'):Mem w0 w' L:=
 ⟨h.ext.trans he,fun x hx=>⟨(h.own x hx).1,he.get (h.own x hx).2⟩,h.nodup⟩
theorem Mem.drew(h:Mem w0 w L):Mem w0 w.drew L:=⟨h.ext.drew,h.own,h.nodup⟩
theorem Mem.set(h:Mem w0 w L){i b:Nat}{o o':Obj}(hi:L[i]?=some (b,o))(hs:Ext w0 w')(hb:w'.heap[b]?=some o')(ho:∀c,c≠b->w'.heap[c]?=w.heap[c]?):Mem w0 w' (L.set i (b,o')):=by
 have hil:i<L.length:=by
  rcases Ba i L.length with h' | h'
  ·exact h'
  ·rw[Az h']at hi;cases hi
 have hib:L[i]=(b,o):=by rw[Bt hil]at hi;exact Bs hi
 have hn:((L.set i (b,o')).map (·.1))=L.map (·.1):=by
  rw[DO];have:(L.map (·.1))[i]?=some b:=by rw[Au,hi];rfl
  apply BT;intro j;rw[BK]
  split
  ·rename_i e;subst e
   rw[this];simp[hil]
  ·rfl
 refine⟨hs,?_,by rw[hn];exact h.nodup⟩;intro x hx
 rcases CO hx with hx' | rfl
 ·refine⟨(h.own x hx').1,?_⟩
  by_cases e:x.1=b
  ·obtain⟨j,hj,hje⟩:=Cs.1 hx
   by_cases hij:j=i
   ·subst hij;rw[List.getElem_set_self]at hje;rw[<-hje];exact hb
   ·have h1:(L.map (·.1))[j]'(by simpa using hj)=b:=by
     have:(L.set i (b,o'))[j]=L[j]'(by simpa using hj):=List.getElem_set_ne (fun e=>hij e.symm) _;rw[Cu,<-this,hje,e]
    have h2:(L.map (·.1))[i]'(by simpa using hil)=b:=by rw[Cu,hib]
    have:=(List.getElem_inj h.nodup).1 (h1.trans h2.symm);exact absurd this hij
  ·rw[ho _ e];exact(h.own x hx').2
 ·exact⟨(h.own (b,o) (hib ▸ AT hil)).1,hb⟩
theorem Mem.setO(h:Mem w0 w L){i b:Nat}{o:Obj}(o':Obj)(hi:L[i]?=some (b,o))(hw:w'=setO w b o'):Mem w0 w' (L.set i (b,o')):=by
 subst hw;have hm:(b,o)∈L:=Cg hi;exact h.set hi (h.ext.setO (h.own _ hm).1 o') (qfl (h.get hm)) (fun c hc=>qbj hc)
theorem heap_setCell{w:Et}{b off:Nat}{v:Value}{cs:E6}{t:Ew}{fr:Nat×Nat}(h:w.heap[b]?=some (.cells cs t fr)):
  (w.setCell ⟨b,off,none⟩ v).heap[b]?=some (.cells (cs.setIfInBounds off v) t fr):=by
 simp[World.setCell,Dl,h]
theorem Mem.setCell(h:Mem w0 w L){i b off:Nat}{v:Value}{cs:E6}{t:Ew}{fr:Nat×Nat}(hi:L[i]?=some (b,.cells cs t fr))(hw:w'=w.setCell ⟨b,off,none⟩ v):
  Mem w0 w' (L.set i (b,.cells (cs.setIfInBounds off v) t fr)):=by
 subst hw;have hm:(b,Obj.cells cs t fr)∈L:=Cg hi;exact h.set hi (h.ext.setCell (h.own _ hm).1 v) (heap_setCell (h.get hm)) (fun c hc=>Below.heap_setCell _ _ _ _ hc)
theorem Mem.sub{L':Ey}(h:Mem w0 w L)(hs:L'.Sublist L):Mem w0 w L':=
 ⟨h.ext,fun x hx=>h.own x (hs.subset hx),(hs.map _).nodup h.nodup⟩
theorem Mem.perm{L':Ey}(h:Mem w0 w L)(hs:L'.Perm L):Mem w0 w L':=
 ⟨h.ext,fun x hx=>h.own x (hs.mem_iff.1 hx),(hs.map _).nodup_iff.2 h.nodup⟩
end
theorem qa{w:Et}{b off:Nat}{cs:E6}{t:Ew}{fr:Nat×Nat}(h:w.heap[b]?=some (.cells cs t fr)):w.cell? ⟨b,off,none⟩=cs[off]?:=by
 simp[World.cell?,h]
theorem LoadV.own{w:Et}{b off:Nat}{cs:E6}{t:Ew}{fr:Nat×Nat}{v:Value}{K:Value->Prop}(h:w.heap[b]?=some (.cells cs t fr))(hv:cs[off]?=some v)(hk:K v):
  LoadV w b off K:=⟨v,by rw[qa h];exact hv,hk⟩
theorem LoadV.of{w:Et}{b off:Nat}{v:Value}{K:Value->Prop}(h:w.cell? ⟨b,off,none⟩=some v)(hk:K v):LoadV w b off K:=⟨v,h,hk⟩
theorem StoreV.own{w:Et}{b off:Nat}{cs:E6}{t:Ew}{v:Value}{K:Et->Prop}(h:w.heap[b]?=some (.cells cs t (0,0)))(ho:off<cs.size)(h1:qcx v=true)(hk:∀w',w'=w.setCell ⟨b,off,none⟩ v->K w'):StoreV w b off v K:=by
 refine⟨⟨cs[off],?_⟩,?_,h1,hk _ rfl⟩
 ·rw[qa h];exact Aj ho
 ·simp[World.frozen?,h]
theorem NewV.mem{w0 w:Et}{L:Ey}{o:Obj}{K:Nat->Et->Prop}(h:Mem w0 w L)(hk:∀b w',Mem w0 w' ((b,o)::L)->K b w'):NewV w o K:=
 ⟨fun b w' hb hw=>hk b w' (h.new hb hw)⟩
theorem NextS.mem{w0 w:Et}{L:Ey}{r pos:Nat}{s:Eu}{K:Value->Et->Prop}(h:Mem w0 w L){i:Nat}(hi:L[i]?=some (r,.stringIter s pos))(h1:pos<s.size->∀w',Mem w0 w' (L.set i (r,.stringIter s (pos+(Utf8.decode s pos).2)))->K (.tuple #[.bool true,.int .i64 pos,.int .i32 (Utf8.decode s pos).1]) w')(h2:¬pos<s.size->K (.tuple #[.bool false]) w):NextS w r K:=
 ⟨s,pos,h.get (Cg hi),fun hp w' hw=>h1 hp w' (h.setO _ hi hw),h2⟩
theorem LoadV.mem{w0 w:Et}{L:Ey}{i b off:Nat}{cs:E6}{t:Ew}{fr:Nat×Nat}{v:Value}{K:Value->Prop}(h:Mem w0 w L)(hi:L[i]?=some (b,.cells cs t fr))(hv:cs[off]?=some v)(hk:K v):LoadV w b off K:=LoadV.own (h.get (Cg hi)) hv hk
theorem LoadA.mem{w0 w:Et}{L:Ey}{i b size:Nat}{cs:E6}{t:Ew}{fr:Nat×Nat}{K:Ez->Prop}(h:Mem w0 w L)(hi:L[i]?=some (b,.cells cs t fr))(hs:cs.toList.length=size)(hk:K cs.toList):LoadA w b 0 size K:=
 ⟨cs.toList,hs,fun j _=>by rw[qa (h.get (Cg hi)),AC];simp,hk⟩
theorem StoreV.mem{w0 w:Et}{L:Ey}{i b off:Nat}{cs:E6}{t:Ew}{v:Value}{K:Et->Prop}(h:Mem w0 w L)(hi:L[i]?=some (b,.cells cs t (0,0)))(ho:off<cs.size)(h1:qcx v=true)(hk:∀w',Mem w0 w' (L.set i (b,.cells (cs.setIfInBounds off v) t (0,0)))->K w'):StoreV w b off v K:=
 StoreV.own (h.get (Cg hi)) ho h1 fun w' hw=>hk w' (h.setCell hi hw)
theorem CellsAt.ext{w w':Et}{b off:Nat}{vs:Ez}(h:CellsAt w b off vs)(he:Ext w w'):CellsAt w' b off vs:=fun k v hv=>he.cell (h k v hv)
theorem LoadV.cells{w:Et}{b off:Nat}{vs:Ez}{v:Value}{K:Value->Prop}(h:CellsAt w b off vs)(k:Nat)(hv:vs[k]?=some v)(hk:K v):LoadV w b (off+k) K:=⟨v,h k v hv,hk⟩
theorem LoadV.cell0{w:Et}{b off:Nat}{v:Value}{vs:Ez}{K:Value->Prop}(h:CellsAt w b off (v::vs))(hk:K v):LoadV w b off K:=⟨v,h 0 v rfl,hk⟩
theorem LoadA.cells{w:Et}{b off size:Nat}{vs:Ez}{K:Ez->Prop}(h:CellsAt w b off vs)(hs:vs.length=size)(hk:K vs):LoadA w b off size K:=
 ⟨vs,hs,fun i hi=>by
  have hl:i<vs.length:=by omega
  rw[h i vs[i] (Bt hl),Bt hl],hk⟩
structure SlAt{α:Type}(enc:α->Ez)(size:Nat)(w:Et)(A:Option Addr)(l:List α):Prop where
 at_:l≠[]->∃b off,A=some ⟨b,off,none⟩/\∀(j:Nat) x,l[j]?=some x->CellsAt w b (off+j*size) (enc x)
theorem SlAt.ext{α:Type}{enc:α->Ez}{size:Nat}{w w':Et}{A:Option Addr}{l:List α}(h:SlAt enc size w A l)(he:Ext w w'):SlAt enc size w' A l:=
 ⟨fun hn=>let⟨b,off,h1,h2⟩:=h.at_ hn;⟨b,off,h1,fun j x hx=>(h2 j x hx).ext he⟩⟩
theorem ElemV.sl{α:Type}{enc:α->Ez}{size len:Nat}{w:Et}{A:Option Addr}{l:List α}{i:Int}{K:Value->Prop}(h:SlAt enc size w A l)(hl:l.length=len)(j:Nat)(e:i=(j:Int))(hj:j<len)(hk:∀b off,CellsAt w b off (enc (l[j]'(hl ▸ hj)))->K (.pointer (some ⟨b,off,none⟩))):ElemV A i len size K:=by
 obtain⟨b,off,h1,h2⟩:=h.at_ (by intro e;subst e;simp at hl;omega);exact⟨b,off,j,h1,e,hj,hk _ _ (h2 j _ (Bt (hl ▸ hj)))⟩
theorem ElemV.own1{b len size:Nat}{i:Int}{K:Value->Prop}(j:Nat)(e:i=(j:Int))(hj:j<len)(hk:K (.pointer (some ⟨b,j,none⟩)))(hs:size=1:=by rfl):ElemV (some ⟨b,0,none⟩) i len size K:=by
 subst hs;exact⟨b,0,j,rfl,e,hj,by rw[Be,AC];exact hk⟩
def zeS(s:Eu):Ez:=[.string s]
def zeI(n:Int):Ez:=[.int .i64 n]
theorem qcl{w:Et}{b:Nat}{cur cs:E6}{t:Ew}(h:w.heap[b]?=some (.cells cur t (0,0))):(w.setRow b cs).heap[b]?=some (.cells cs t (0,0)):=
 setRow_heap w b cur cs t _ h
theorem qw{w:Et}{b c:Nat}{cs:E6}(h:c≠b):(w.setRow b cs).heap[c]?=w.heap[c]?:=by
 simp only[World.setRow,Dl];rw[Aa (fun e=>h e.symm)]
theorem StoreA.mem{P:Ev}{w0 w:Et}{L:Ey}{i b off:Nat}{cur:E6}{t:Ew}{vs:Ez}{K:Et->Prop}(h:Mem w0 w L)(hi:L[i]?=some (b,.cells cur t (0,0)))(hl:off+vs.length<=cur.size)(h1:∀v∈vs,v.oneCell'=true)(hk:∀w',Mem w0 w' (L.set i (b,.cells (cur.toList.take off++vs++cur.toList.drop (off+vs.length)).toArray t (0,0)))->K w'):StoreA P w b off vs K:=by
 have hm:(b,Obj.cells cur t (0,0))∈L:=Cg hi;have hg:=h.get hm;have hr:=run_storeCells_at P b off t vs 0 cur w hg (by simpa using hl) h1;simp only[BI]at hr;refine⟨_,hr,hk _ ?_⟩;refine h.set hi ?_ (qcl hg) (fun c hc=>qw hc);exact Below.trans h.ext ⟨rfl,rfl,rfl,by simp[World.setRow],fun k hk=>qw (by have:=(h.own _ hm).1;simp only at this;omega)⟩
structure Rw(w0 w:Et)(v:Value)(e:Ew)(size n:Nat)(xs:Ez)(L:Ey):Prop where
 mem:Mem w0 w L
 own:w.ownsRow w0.heap.size e size v n xs
 apart:∀x∈L,v.ownBlock≠some x.1
section
variable {P:Ev} {w0 w w':Et} {v:Value} {e:Ew} {size n:Nat} {xs:Ez} {L:Ey}
theorem Rw.nil(h:Mem w0 w L):Rw w0 w (.slice none 0 0) e size 0 [] L:=⟨h,World.ownsRow_nil _ _ _ _,fun _ _=>by simp[Value.ownBlock]⟩
theorem Rw.slice(h:Rw w0 w v e size n xs L):∃A c,v=.slice A n c:=by
 rcases h.own.2 with⟨rfl,rfl⟩|⟨g,cap,cur,rfl,_⟩
 ·exact⟨_,_,rfl⟩
 ·exact⟨_,_,rfl⟩
theorem Rw.len(h:Rw w0 w v e size n xs L):xs.length=n*size:=h.own.1
theorem Rw.grown{row:Option Nat}(h:Rw w0 w v e size n xs L)(hg:w.grownBy w' row)(hr:∀k,row=some k->w0.heap.size<=k/\∀x∈L,x.1≠k):Mem w0 w' L:=by
 refine⟨Below.grown h.mem.ext hg h.mem.ext.size (fun k hk=>(hr k hk).1),fun x hx=>⟨(h.mem.own x hx).1,?_⟩,h.mem.nodup⟩;rw[hg.block x.1 (h.mem.lt hx) (fun e=>(hr x.1 e.symm).2 x hx rfl)];exact(h.mem.own x hx).2
theorem Rw.call(h:Rw w0 w v e size n xs L)(he:Ext w w'):Rw w0 w' v e size n xs L:=by
 refine⟨h.mem.call he,h.own.kept (row:=none) ⟨he.os,he.tape,he.output,he.size,fun k hk _=>he.block k hk⟩ ?_,h.apart⟩;cases v.ownBlock<;>simp
theorem Rw.newBlk(h:Rw w0 w v e size n xs L){b:Nat}{o:Obj}(hb:b=w.heap.size)(hw:w'=w.alloc o):Rw w0 w' v e size n xs ((b,o)::L):=by
 have hx:Ext w w':=by rw[hw];exact(Ext.refl w).alloc o
 refine⟨h.mem.new hb hw,(h.call hx).own,fun x hx=>?_⟩
 rcases AF.1 hx with rfl|hx
 ·intro e;have:=h.own.lt _ e;simp only at this;omega
 ·exact h.apart x hx
theorem AppV.rw{t ty:Ew}{i:TypeInfo}{z:Value}{A:Option Addr}{m c:Nat}{news:Ez}{K:Value->Et->Prop}(ht:P.underlying t=some (.slice e))(hi:P.info? e=some i)(hz:i.zero=some z)(hsize:i.size=size)(hzs:z.cells.size=size)(hsz:0<size)(h:Rw w0 w v e size n xs L)(hl:news.length=m*size)(hA:news≠[]->∃b off,A=some ⟨b,off,none⟩/\CellsAt w b off news)(h1:∀u∈news,u.oneCell'=true)(hb:(n+m)*i.bytes<=140737488355328)(h63:n+m<=140737488355328)(hk:∀A' c' w',Rw w0 w' (.slice A' (n+m) c') e size (n+m) (xs++news) L->K (.slice A' (n+m) c') w'):AppV P #[t,t] ty v (.slice A m c) w K:=by
 cases A with
 | none=>
  have hn:news=[]:=by
   cases hnn:news with
   | nil=>rfl
   | cons x r=>obtain⟨b,off,h0,_⟩:=hA (by rw[hnn];simp);cases h0
  subst hn;have hm:m=0:=by
   rcases Ec.1 (show m*size=0 by simpa using hl.symm)with h|h
   ·exact h
   ·omega
  subst hm;obtain⟨A',c',rfl⟩:=h.slice;refine⟨_,w,?_,hk A' c' w (by simpa using h)⟩
  rcases h.own.2 with⟨e1,e2⟩|⟨g,cap,cur,e1,_,_,hnc,_⟩
  ·cases e1;simp[Builtin.append_,run_underlying ht,sizeOf,typeInfo,hi,Builtin.lenOf,Builtin.firstCells]
  ·cases e1;simp[Builtin.append_,run_underlying ht,sizeOf,typeInfo,hi,Builtin.lenOf,Builtin.firstCells,hnc,storeCells]
 | some a=>
  have hcells:∀j u,news[j]?=some u->w.cell? (a.add j)=some u:=by
   intro j u hu;obtain⟨b,off,h0,h1⟩:=hA (by intro e;rw[e]at hu;simp at hu);cases h0;rw[qan];exact h1 j u hu
  obtain⟨v',w',hrun,h2,h3,_,h5⟩:=run_append_own_at (P:=P) w w0.heap.size t ty e i z size i.bytes ht hi hz hsize rfl hzs hsz v n xs h.own a m c news hl hcells h1 (by simp only[maxLen];omega) hb h.mem.ext.size;have hR:Rw w0 w' v' e size (n+m) (xs++news) L:=by
   refine⟨h.grown h3 (fun k hk=>⟨(h.own.lt k hk).1,fun x hx e=>h.apart x hx (by rw[hk,e])⟩),h2,fun x hx=>?_⟩
   rcases h5 with h5|h5<;>rw[h5]
   ·exact h.apart x hx
   ·intro e;have:=h.mem.lt (b:=x.1) (o:=x.2) hx;simp only[B4]at e;omega
  obtain⟨A',c',rfl⟩:=hR.slice;exact⟨_,w',hrun,hk A' c' w' hR⟩
end
end V
namespace V
def qyq(e:Edge):Bool:=
 match e.ground with
 | .textOnly _ | .gcOnly _=>false
 | _=>true
theorem qau(e:Edge):Region.binds .any e=qyq e:=by
 unfold Region.binds qyq;cases e.ground<;>rfl
def qms:List Edge->E0
 | []=>[]
 | e::l=>bif qyq e then e.on::qms l else qms l
def qt(o:Oper):E0:=qms o.after.toList
theorem qab{l:List Edge}{k:Nat}:k∈qms l↔∃e∈l,qyq e=true/\e.on=k:=by
 induction l with
 | nil=>simp[qms]
 | cons e l ih=>
  simp only[qms];cases hb:qyq e
  ·simp only[cond_false,ih,AF]
   constructor
   ·rintro⟨e',h1,h2,h3⟩;exact⟨e',.inr h1,h2,h3⟩
   ·rintro⟨e',rfl|h1,h2,h3⟩
    ·rw[hb]at h2;cases h2
    ·exact⟨e',h1,h2,h3⟩
  ·simp only[cond_true,AF,ih]
   constructor
   ·rintro(rfl|⟨e',h1,h2,h3⟩)
    ·exact⟨e,.inl rfl,hb,rfl⟩
    ·exact⟨e',.inr h1,h2,h3⟩
   ·rintro⟨e',rfl|h1,h2,h3⟩
    ·exact .inl h3.symm
    ·exact .inr ⟨e',h1,h2,h3⟩
structure Ent where
 d:Option Tmp
 v:Option Value
 φ:Value->Et->Prop
def allv(es:List Ent):E0->(Nat->Value)->Et->((Nat->Value)->Prop)->Prop
 | [],ρ,_,K=>K ρ
 | k::ks,ρ,w,K=>
  match getL es k with
  | some ⟨some d,none,φ⟩=>∀v,φ v w->allv es ks (upd ρ d v) w K
  | _=>allv es ks ρ w K
def frS(es:List Ent)(vals:Nat->Value)(k:Nat)(ρ:Nat->Value):Nat->Value:=
 match getL es k with
 | some ⟨some d,none,_⟩=>upd ρ d (vals k)
 | _=>ρ
def fr(es:List Ent)(vals:Nat->Value):E0->(Nat->Value)->(Nat->Value)
 | [],ρ=>ρ
 | k::ks,ρ=>fr es vals ks (frS es vals k ρ)
theorem qg9{es:List Ent}{vals:Nat->Value}{k d:Nat}{φ:Value->Et->Prop}{ρ:Nat->Value}(h:getL es k=some ⟨some d,none,φ⟩):frS es vals k ρ=upd ρ d (vals k):=by simp[frS,h]
theorem qjz{es:List Ent}{vals:Nat->Value}{k:Nat}{ρ:Nat->Value}(h:∀d φ,getL es k≠some ⟨some d,none,φ⟩):frS es vals k ρ=ρ:=by
 unfold frS
 split
 ·rename_i d φ hk;exact absurd hk (h _ _)
 ·rfl
theorem qna{es:List Ent}{vals:Nat->Value}{w:Et}{K:(Nat->Value)->Prop}:∀(ks:E0) (ρ:Nat->Value),
  (∀k∈ks,∀e,getL es k=some e->e.φ (vals k) w)->allv es ks ρ w K->K (fr es vals ks ρ):=by
 intro ks
 induction ks with
 | nil=>intro ρ _ h;exact h
 | cons k ks ih=>
  intro ρ hv h;have hv':∀k∈ks,∀e,getL es k=some e->e.φ (vals k) w:=fun k hk=>hv k (BY _ hk)
  unfold allv at h;unfold fr
  split at h
  ·rename_i d φ hk
   rw[qg9 hk];exact ih _ hv' (h (vals k) (hv k (AO ..) _ hk))
  ·rename_i hk
   rw[qjz hk];exact ih _ hv' h
theorem qer(ρ:Nat->Value)(d:Nat)(v:Value):upd ρ d v d=v:=by simp[upd]
theorem qaq(ρ:Nat->Value)(d t:Nat)(v:Value)(h:t≠d):upd ρ d v t=ρ t:=by
 unfold upd;have e':Nat.beq t d=false:=Bz.2 fun e=>h (Bn e)
 rw[e'];rfl
theorem qn0{es:List Ent}{vals:Nat->Value}{t:Nat}:∀(ks:E0) (ρ:Nat->Value),(∀k∈ks,∀φ,getL es k≠some ⟨some t,none,φ⟩)->fr es vals ks ρ t=ρ t:=by
 intro ks
 induction ks with
 | nil=>intro ρ _;rfl
 | cons k ks ih=>
  intro ρ h;have h':∀k∈ks,∀φ,getL es k≠some ⟨some t,none,φ⟩:=fun k hk=>h k (BY _ hk)
  unfold fr;rw[ih _ h']
  by_cases hk:∃d φ,getL es k=some ⟨some d,none,φ⟩
  ·obtain⟨d,φ,hk⟩:=hk;rw[qg9 hk,qaq];rintro rfl;exact h k (AO ..) φ hk
  ·rw[qjz (fun d φ e=>hk ⟨d,φ,e⟩)]
theorem q63{es:List Ent}{vals:Nat->Value}{t k0:Nat}{x:Value}(hx:x=vals k0)(hu:∀k φ,getL es k=some ⟨some t,none,φ⟩->k=k0):∀(ks:E0) (ρ:Nat->Value),
  (ρ t=x\/(k0∈ks/\∃φ,getL es k0=some ⟨some t,none,φ⟩))->fr es vals ks ρ t=x:=by
 intro ks
 induction ks with
 | nil=>
  intro ρ h
  rcases h with h|⟨h,_⟩
  ·exact h
  ·cases h
 | cons k ks ih=>
  intro ρ h;unfold fr
  by_cases hk:∃d φ,getL es k=some ⟨some d,none,φ⟩
  ·obtain⟨d,φ,hk⟩:=hk;rw[qg9 hk]
   by_cases hd:t=d
   ·subst hd;have:=hu k φ hk;subst this;exact ih _ (.inl (by rw[qer,hx]))
   ·refine ih _ ?_
    rcases h with h|⟨h,φ0,h0⟩
    ·exact .inl (by rw[qaq _ _ _ _ hd];exact h)
    ·rcases AF.1 h with rfl|h
     ·rw[hk]at h0;cases h0;exact absurd rfl hd
     ·exact .inr ⟨h,φ0,h0⟩
  ·rw[qjz (fun d φ e=>hk ⟨d,φ,e⟩)];refine ih _ ?_
   rcases h with h|⟨h,φ0,h0⟩
   ·exact .inl h
   ·rcases AF.1 h with rfl|h
    ·exact absurd ⟨_,_,h0⟩ hk
    ·exact .inr ⟨h,φ0,h0⟩
def qb4(P:Ev)(ops:List Oper)(o:Oper)(ρ:Nat->Value)(w:Et)(K:Value->Et->Prop):Prop:=
 match o.guard with
 | none=>opV P o ρ w K
 | some (j,want)=>
  match getL ops j with
  | none=>K undef w
  | some oj=>match oj.dst with
   | none=>K undef w
   | some d=>
    match ρ d with
    | .bool b=>Tst b
      (match want with
       | true=>opV P o ρ w K
       | false=>K undef w)
      (match want with
       | true=>K undef w
       | false=>opV P o ρ w K)
    | _=>K undef w
structure StepD(A:(Value->Et->Prop)->Prop)(K:Option Value->(Value->Et->Prop)->Prop):Prop where
 h:(∃v,A (fun u _=>u=v)/\K (some v) (fun u _=>u=v))\/(∃φ:Value->Et->Prop,(∀v w w',φ v w->Ext w w'->φ v w')/\A φ/\K none φ)
theorem StepD.still{A:(Value->Et->Prop)->Prop}{K:Option Value->(Value->Et->Prop)->Prop}(v:Value)(h:A (fun u _=>u=v))(hk:K (some v) (fun u _=>u=v)):StepD A K:=⟨.inl ⟨v,h,hk⟩⟩
theorem StepD.of{A:(Value->Et->Prop)->Prop}{K:Option Value->(Value->Et->Prop)->Prop}(φ:Value->Et->Prop)(hs:∀v w w',φ v w->Ext w w'->φ v w')(h:A φ)(hk:K none φ):StepD A K:=⟨.inr ⟨φ,hs,h,hk⟩⟩
def updO(ρ:Nat->Value):Option Tmp->Option Value->Nat->Value
 | some d,some v=>upd ρ d v
 | _,_=>ρ
def qks:List (Nat×Nat×(Value->Et->Prop))->Nat->Option (Nat×(Value->Et->Prop))
 | [],_=>none
 | (i,d,φ)::es,k=>bif Nat.beq i k then some (d,φ)else qks es k
def allA(es:List (Nat×Nat×(Value->Et->Prop))):E0->(Nat->Value)->Et->((Nat->Value)->Prop)->Prop
 | [],ρ,_,K=>K ρ
 | k::ks,ρ,w,K=>
  match qks es k with
  | some (d,φ)=>∀v,φ v w->allA es ks (upd ρ d v) w K
  | none=>allA es ks ρ w K
def idxs:List (Nat×Nat×(Value->Et->Prop))->E0
 | []=>[]
 | (i,_,_)::es=>i::idxs es
def qxg(k:Nat)(φ:Value->Et->Prop)(es:List (Nat×Nat×(Value->Et->Prop))):Option Tmp->Option Value->List (Nat×Nat×(Value->Et->Prop))
 | some d,none=>(k,d,φ)::es
 | _,_=>es
def regD(P:Ev)(ops:List Oper)(w0:Et)(Q:(Nat->Value)->Et->Prop):List Oper->Nat->List (Nat×Nat×(Value->Et->Prop))->(Nat->Value)->Prop
 | [],_,es,ρ=>∀w,Ext w0 w->allA es (idxs es) ρ w fun ρ'=>Q ρ' w
 | o::l,k,es,ρ=>StepD
   (fun φ=>∀w,Ext w0 w->allA es (qt o) ρ w fun ρ'=>qb4 P ops o ρ' w fun v w'=>Ext w w'/\φ v w')
   (fun v φ=>regD P ops w0 Q l (k+1) (qxg k φ es o.dst v) (updO ρ o.dst v))
def sfr:List Ent->(Nat->Value)->(Nat->Value)
 | [],ρ=>ρ
 | e::l,ρ=>sfr l (updO ρ e.d e.v)
theorem qf4(a b:List Ent)(ρ:Nat->Value):sfr (a++b) ρ=sfr b (sfr a ρ):=by
 induction a generalizing ρ with
 | nil=>rfl
 | cons e a ih=>simp[sfr,ih]
structure EntOk(e:Ent)(o:Oper):Prop where
 d:e.d=o.dst
 st:∀v w w',e.φ v w->Ext w w'->e.φ v w'
 v:∀x,e.v=some x->∀u w,e.φ u w->u=x
section
variable {P:Ev} {n:Nat} {ops:List Oper} {w0:Et}
def Agree(es:List (Nat×Nat×(Value->Et->Prop)))(F:List Ent):Prop:=
 ∀k,(match getL F k with|some ⟨some d,none,φ⟩=>qks es k=some (d,φ)|_=>qks es k=none)
theorem qym{es:List (Nat×Nat×(Value->Et->Prop))}{F:List Ent}(h:Agree es F){w:Et}{K:(Nat->Value)->Prop}:∀(ks:E0) (ρ:Nat->Value),allA es ks ρ w K->allv F ks ρ w K:=by
 intro ks
 induction ks with
 | nil=>intro ρ h;exact h
 | cons k ks ih=>
  intro ρ ha;have hk:=h k;unfold allA at ha;unfold allv
  split
  ·rename_i d φ hg
   rw[hg]at hk;simp only at hk;rw[hk]at ha;exact fun v hv=>ih _ (ha v hv)
  ·rename_i hg
   split at hk
   ·rename_i d φ hg';exact absurd hg' (hg d φ)
   ·rw[hk]at ha;exact ih _ ha
theorem q42{es:List (Nat×Nat×(Value->Et->Prop))}{k d:Nat}{φ:Value->Et->Prop}(h:qks es k=some (d,φ)):k∈idxs es:=by
 induction es with
 | nil=>cases h
 | cons x es ih=>
  obtain⟨i,d',φ'⟩:=x;simp only[qks]at h;cases hb:Nat.beq i k<;>rw[hb]at h
  ·exact BY _ (ih h)
  ·rw[Bn hb];exact AO ..
theorem Agree.push{es:List (Nat×Nat×(Value->Et->Prop))}{F:List Ent}(h:Agree es F)(dst:Option Tmp)(v:Option Value)(φ:Value->Et->Prop):Agree (qxg F.length φ es dst v) (F++[⟨dst,v,φ⟩]):=by
 intro k;have hk:=h k;have hg:∀k,k<F.length->getL (F++[⟨dst,v,φ⟩]) k=getL F k:=fun k hk=>by rw[ql,ql,AR hk]
 have hlast:getL (F++[⟨dst,v,φ⟩]) F.length=some ⟨dst,v,φ⟩:=by rw[ql,AV (Ar _)];simp
 have hnone:∀k,F.length<=k->getL F k=none:=fun k hk=>by rw[ql,Az hk]
 have hout:∀k,F.length<k->getL (F++[⟨dst,v,φ⟩]) k=none:=fun k hk=>by rw[ql,Az Ys]
 have hL:qks es F.length=none:=by have:=h F.length;rw[hnone _ (Ar _)]at this;exact this
 have other:k≠F.length->qks (qxg F.length φ es dst v) k=qks es k:=fun hne=>by
  unfold qxg
  split
  ·have:Nat.beq F.length k=false:=Bz.2 fun e=>hne (Bn e).symm
   simp only[qks,this,cond_false]
  ·rfl
 rcases Dp k F.length with hlt|rfl|hgt
 ·rw[hg k hlt,other Oo];exact hk
 ·rw[hlast];have hrefl:Nat.beq F.length F.length=true:=by simp
  cases dst with
  | none=>exact hL
  | some d=>
   cases v with
   | none=>simp only[qxg,qks,hrefl,cond_true]
   | some v=>exact hL
 ·rw[hout k hgt,other Oo];rw[hnone k Oo]at hk;exact hk
theorem qj7{Q:(Nat->Value)->Et->Prop}(l:List Oper):∀(es:List (Nat×Nat×(Value->Et->Prop))) (F:List Ent) (ρ0:Nat->Value),Agree es F->regD P ops w0 Q l F.length es (sfr F ρ0)->
  ∃E:List Ent,E.length=l.length/\(∀i o e,l[i]?=some o->E[i]?=some e->EntOk e o/\
   ∀w,Ext w0 w->allv (F++E.take i) (qt o) (sfr (F++E.take i) ρ0) w fun ρ'=>qb4 P ops o ρ' w fun v w'=>Ext w w'/\e.φ v w')/\
   ∃ks:E0,(∀k d φ,getL (F++E) k=some ⟨some d,none,φ⟩->k∈ks)/\∀w,Ext w0 w->allv (F++E) ks (sfr (F++E) ρ0) w fun ρ'=>Q ρ' w:=by
 induction l with
 | nil=>
  intro es F ρ0 hA h;refine⟨[],rfl,fun i o e hi=>by simp at hi,idxs es,?_,?_⟩
  ·intro k d φ hk;rw[AY]at hk;have:=hA k;rw[hk]at this;exact q42 this
  ·intro w hw;rw[AY];exact qym hA _ _ (h w hw)
 | cons o l ih=>
  intro es F ρ0 hAg h;have key:∀(v:Option Value) (φ:Value->Et->Prop),EntOk ⟨o.dst,v,φ⟩ o->
    (∀w,Ext w0 w->allA es (qt o) (sfr F ρ0) w fun ρ'=>qb4 P ops o ρ' w fun v w'=>Ext w w'/\φ v w')->
    regD P ops w0 Q l (F.length+1) (qxg F.length φ es o.dst v) (updO (sfr F ρ0) o.dst v)->
    ∃E:List Ent,E.length=(o::l).length/\(∀i o' e,(o::l)[i]?=some o'->E[i]?=some e->EntOk e o'/\
     ∀w,Ext w0 w->allv (F++E.take i) (qt o') (sfr (F++E.take i) ρ0) w fun ρ'=>qb4 P ops o' ρ' w fun v w'=>Ext w w'/\e.φ v w')/\
     ∃ks:E0,(∀k d φ,getL (F++E) k=some ⟨some d,none,φ⟩->k∈ks)/\∀w,Ext w0 w->allv (F++E) ks (sfr (F++E) ρ0) w fun ρ'=>Q ρ' w:=fun v φ hok hA hK=>by
   have e1:updO (sfr F ρ0) o.dst v=sfr (F++[⟨o.dst,v,φ⟩]) ρ0:=by rw[qf4];rfl
   have e2:F.length+1=(F++[(⟨o.dst,v,φ⟩:Ent)]).length:=by simp
   rw[e1,e2]at hK;obtain⟨E,h1,h2,ks,h3,h4⟩:=ih _ _ ρ0 (hAg.push o.dst v φ) hK;refine⟨⟨o.dst,v,φ⟩::E,by simp[h1],fun i o' e hi he=>?_,ks,by simpa using h3,by simpa using h4⟩;cases i with
   | zero=>
    simp at hi he;subst hi he;refine⟨hok,fun w hw=>?_⟩;rw[B8,AY];exact qym hAg _ _ (hA w hw)
   | succ i=>
    simp at hi he;obtain⟨k1,k2⟩:=h2 i o' e hi he;exact⟨k1,by simpa using k2⟩
  obtain⟨v,hA,hK⟩|⟨φ,hs,hA,hK⟩:=h.h
  ·exact key (some v) _ ⟨rfl,fun _ _ _ h _=>h,fun x hx u w hu=>by cases hx;exact hu⟩ hA hK
  ·exact key none φ ⟨rfl,hs,fun x hx=>by cases hx⟩ hA hK
end
theorem qvz{t:Nat}:∀(es:List Ent) (ρ:Nat->Value),(∀e∈es,e.d=some t->e.v=none)->sfr es ρ t=ρ t:=by
 intro es
 induction es with
 | nil=>intro ρ _;rfl
 | cons e es ih=>
  intro ρ h;rw[sfr,ih _ (fun e' he'=>h e' (BY _ he'))];have he:=h e (AO ..);obtain⟨d,v,φ⟩:=e;cases d with
  | none=>rfl
  | some d=>cases v with
   | none=>rfl
   | some v=>
    have hne:t≠d:=by rintro rfl;have:=he rfl;cases this
    exact qaq _ _ _ _ hne
theorem q16{t:Nat}{x:Value}:∀(es:List Ent) (ρ:Nat->Value),(∀e∈es,e.d=some t->e.v=some x)->(ρ t=x\/∃e∈es,e.d=some t)->sfr es ρ t=x:=by
 intro es
 induction es with
 | nil=>
  intro ρ _ h
  rcases h with h|⟨e,he,_⟩
  ·exact h
  ·cases he
 | cons e es ih=>
  intro ρ hu h;rw[sfr];refine ih _ (fun e' he'=>hu e' (BY _ he')) ?_;have he:=hu e (AO ..);obtain⟨d,v,φ⟩:=e
  by_cases hd:d=some t
  ·subst hd;have:=he rfl;simp only at this;subst this;exact .inl (qer _ _ _)
  ·rcases h with h|⟨e',he',hd'⟩
   ·left
    cases d with
    | none=>exact h
    | some d=>cases v with
     | none=>exact h
     | some v=>exact(qaq _ _ _ _ (fun e=>hd (by rw[e]))).trans h
   ·rcases AF.1 he' with rfl|he'
    ·exact absurd hd' hd
    ·exact .inr ⟨e',he',hd'⟩
def qji(n:Nat)(ops:Array Oper):Bool:=
 Region.noSelect ops&&(List.range ops.size).all fun j=>
  match ops[j]? with
  | none=>true
  | some o=>(qt o).all (fun k=>decide (k<j))&&(match o.dst with|some d=>decide (d<n)|none=>true)&&(List.range ops.size).all fun k=>
   match ops[k]? with
   | none=>true
   | some ok=>match ok.dst with
    | none=>true
    | some t=>(!(o.looksAt ops).contains t||(qt o).contains k)&&(k==j||o.dst != some t)
structure ShapeP(n:Nat)(ops:Array Oper):Prop where
 sel:Region.noSelect ops=true
 lt:∀(j:Nat) (o:Oper),ops[j]?=some o->∀k∈qt o,k<j
 dn:∀(j:Nat) (o:Oper),ops[j]?=some o->∀d,o.dst=some d->d<n
 look:∀(j:Nat) (o:Oper) (k:Nat) (ok:Oper) (t:Nat),ops[j]?=some o->ops[k]?=some ok->ok.dst=some t->t∈o.looksAt ops->k∈qt o
 uniq:∀(j:Nat) (o:Oper) (k:Nat) (ok:Oper) (t:Nat),ops[j]?=some o->ops[k]?=some ok->ok.dst=some t->o.dst=some t->k=j
theorem qd4{n:Nat}{ops:Array Oper}(h:qji n ops=true):ShapeP n ops:=by
 simp only[qji,AM]at h;obtain⟨h1,h2⟩:=h;have key:∀(j:Nat) (o:Oper),ops[j]?=some o->((qt o).all (fun k=>decide (k<j))&&(match o.dst with|some d=>decide (d<n)|none=>true)&&(List.range ops.size).all fun k=>
   match ops[k]? with
   | none=>true
   | some ok=>match ok.dst with
    | none=>true
    | some t=>(!(o.looksAt ops).contains t||(qt o).contains k)&&(k==j||o.dst != some t))=true:=fun j o hj=>by
  have:=Cf.1 h2 j (Ca.2 (AU.1 hj).1);rw[hj]at this;exact this
 have key2:∀(j:Nat) (o:Oper) (k:Nat) (ok:Oper) (t:Nat),ops[j]?=some o->ops[k]?=some ok->ok.dst=some t->((!(o.looksAt ops).contains t||(qt o).contains k)&&(k==j||o.dst != some t))=true:=fun j o k ok t hj hk ht=>by
  have:=key j o hj;simp only[AM]at this;have:=Cf.1 this.2 k (Ca.2 (AU.1 hk).1);rw[hk]at this;simp only[ht]at this
  simpa using this
 refine⟨h1,fun j o hj k hk=>?_,fun j o hj d hd=>?_,fun j o k ok t hj hk ht hl=>?_,fun j o k ok t hj hk ht ho=>?_⟩
 ·have:=key j o hj;simp only[AM]at this
  simpa using Cf.1 this.1.1 k hk
 ·have:=key j o hj;simp only[AM]at this;have:=this.1.2;rw[hd]at this
  simpa using this
 ·have:=key2 j o k ok t hj hk ht;simp only[AM,Cz,Do]at this
  rcases this.1 with h|h
  ·rw[List.contains_eq_mem,decide_eq_false_iff_not]at h;exact absurd hl h
  ·simpa using h
 ·have:=key2 j o k ok t hj hk ht;simp only[AM,Cz,Dj]at this
  rcases this.2 with h|h
  ·exact h
  ·rw[ho]at h;simp at h
structure InvD(n:Nat)(E:List Ent)(w0:Et)(ρ:Nat->Value)(listed:Array Bool)(vals:Nat->Value)(ρa:Nat->Value)(a:Act)(w:Et):Prop where
 ext:Ext w0 w
 st:St n ρa a
 φ:∀k,listed.getD k false=true->∀e,E[k]?=some e->e.φ (vals k) w
 at_:∀k,listed.getD k false=true->∀e d,E[k]?=some e->e.d=some d->ρa d=vals k
 miss:∀t,(∀k,listed.getD k false=true->∀e,E[k]?=some e->e.d≠some t)->ρa t=ρ t
section
variable {P:Ev} {n:Nat} {ops:Array Oper} {w0:Et} {E:List Ent} {ρ:Nat->Value}
theorem qdl(hd:∀(i:Nat) (o:Oper) (e:Ent),ops[i]?=some o->E[i]?=some e->EntOk e o)(hl:E.length=ops.size)(hS:ShapeP n ops){listed:Array Bool}{vals ρa:Nat->Value}{a:Act}{w:Et}(I:InvD n E w0 ρ listed vals ρa a w)(i:Nat)(ks:E0)(t:Nat)(h1:∀(k:Nat) (e:Ent),E[k]?=some e->e.d=some t->k<i->listed.getD k false=true/\(e.v=none->k∈ks))(h2:∀(k:Nat) (e:Ent),E[k]?=some e->e.d=some t->listed.getD k false=true->k<i):
  fr (E.take i) vals ks (sfr (E.take i) ρ) t=ρa t:=by
 have op_of:∀(k:Nat) (e:Ent),E[k]?=some e->∃o,ops[k]?=some o/\EntOk e o:=fun k e hk=>by
  have hlt:k<ops.size:=by
   rw[<-hl]
   rcases Ba k E.length with h|h
   ·exact h
   ·rw[Az h]at hk;cases hk
  exact⟨ops[k],Aj hlt,hd k _ e (Aj hlt) hk⟩
 have uniq:∀(k k':Nat) (e e':Ent),E[k]?=some e->E[k']?=some e'->e.d=some t->e'.d=some t->k'=k:=fun k k' e e' hk hk' hd1 hd2=>by
  obtain⟨o,ho,hok⟩:=op_of k e hk;obtain⟨o',ho',hok'⟩:=op_of k' e' hk';exact hS.uniq k o k' o' t ho ho' (hok'.d ▸ hd2) (hok.d ▸ hd1)
 have inE:∀(k:Nat) (e:Ent),getL (E.take i) k=some e->E[k]?=some e/\k<i:=fun k e hk=>by
  rw[ql,Bi]at hk
  split at hk
  ·exact⟨hk,by assumption⟩
  ·cases hk
 by_cases hex:∃(k:Nat) (e:Ent),E[k]?=some e/\e.d=some t/\k<i
 ·obtain⟨k,e,hk,hdt,hki⟩:=hex;obtain⟨hlis,hks⟩:=h1 k e hk hdt hki;obtain⟨o,ho,hok⟩:=op_of k e hk;have hra:=I.at_ k hlis e t hk hdt;have hmem:e∈E.take i:=Cg (i:=k) (by rw[Bi,Ad hki];exact hk);have huE:∀e'∈E.take i,e'.d=some t->e'=e:=fun e' he' hd'=>by
   obtain⟨k',hk'⟩:=Bg.1 he';have hk'':=(inE k' e' (by rw[ql];exact hk')).1;have:=uniq k k' e e' hk hk'' hdt hd';subst this;rw[hk]at hk'';exact(Bs hk'').symm
  cases hv:e.v with
  | some x=>
   have hx:vals k=x:=hok.v x hv _ _ (I.φ k hlis e hk);rw[qn0,q16 _ _ (fun e' he' hd'=>by rw[huE e' he' hd'];exact hv) (.inr ⟨e,hmem,hdt⟩),hra,hx];intro k' _ φ hk';have:=huE _ (Cg (i:=k') (by rw[ql]at hk';exact hk')) rfl;rw[<-this]at hv;cases hv
  | none=>
   obtain⟨ed,ev,eφ⟩:=e;simp only at hdt hv;subst hdt hv;rw[q63 (k0:=k) rfl (fun k' φ hk'=>?_) _ _ (.inr ⟨hks rfl,eφ,by rw[ql,Bi,Ad hki];exact hk⟩),hra];exact uniq k k' _ _ hk (inE k' _ hk').1 rfl rfl
 ·have hno:∀k e,E[k]?=some e->k<i->e.d≠some t:=fun k e hk hki hd=>hex ⟨k,e,hk,hd,hki⟩
  rw[qn0,qvz]
  ·refine(I.miss t fun k hk e he hd=>?_).symm;exact hno k e he (h2 k e he hd hk) hd
  ·intro e he hd;obtain⟨k',hk'⟩:=Bg.1 he;obtain⟨h3,h4⟩:=inE k' e (by rw[ql];exact hk');exact absurd hd (hno k' e h3 h4)
  ·intro k' _ φ hk';obtain⟨h3,h4⟩:=inE k' _ hk';exact hno k' _ h3 h4 rfl
theorem q09{o:Oper}{ρ1 ρ2:Nat->Value}(hsel:∀cs b,o.op≠.select cs b)(h:∀t∈o.looksAt ops,ρ1 t=ρ2 t):execOp (ev ρ1) o=execOp (ev ρ2) o:=by
 refine execOp_congr o hsel fun x hx=>?_;cases x with
 | tmp t=>exact h t (AQ _ (List.mem_filterMap.2 ⟨.tmp t,by simpa using hx,rfl⟩))
 | const v=>rfl
 | global g=>rfl
 | func f=>rfl
theorem qhg{o oj:Oper}{j d:Nat}{want:Bool}(hg:o.guard=some (j,want))(hj:ops[j]?=some oj)(hd:oj.dst=some d):d∈o.looksAt ops:=by
 refine Ai _ ?_;simp[hg,hj,hd]
theorem qe5{o:Oper}{ρ' ρa:Nat->Value}{a:Act}{w:Et}{K:Value->Et->Prop}{K2:Act->Et->Prop}{Q':Exit->Act->Et->Prop}{i:Nat}(hi:ops[i]?=some o)(hS:ShapeP n ops)(ha:St n ρa a)(hag:∀t∈o.looksAt ops,ρ' t=ρa t)(h:qb4 P ops.toList o ρ' w K)(hk:∀v w',K v w'->K2 (a.put o.dst v) w'):wpOp P ops Q' i K2 a w:=by
 have hsel:=Region.noSelect_spec hS.sel i o;have run:opV P o ρ' w K->Region.wanted o (yielded ops a.tmps)=true->wpOp P ops Q' i K2 a w:=fun h hw=>by
  unfold wpOp;rw[hi];simp only[hw,if_true];have hok:=qvh h;rw[q09 (ops:=ops) (fun cs b=>hsel cs b hi) hag]at hok;exact .inl (OpOk.wp ha.eval hok hk)
 have skip:K undef w->Region.wanted o (yielded ops a.tmps)=false->wpOp P ops Q' i K2 a w:=fun h hw=>by
  unfold wpOp;rw[hi];simp only[hw,CA,if_false];exact hk _ _ h
 unfold qb4 at h
 split at h
 ·rename_i hg
  exact run h (by simp[Region.wanted,hg])
 ·rename_i j want hg
  split at h
  ·rename_i hj
   rw[ql]at hj;have:ops[j]?=none:=by simpa using hj
   exact skip h (by simp[Region.wanted,hg,yielded,this])
  ·rename_i oj hj
   have hj':=hj;rw[ql]at hj';have hoj:ops[j]?=some oj:=by simpa using hj'
   split at h
   ·rename_i hd
    exact skip h (by simp[Region.wanted,hg,yielded,hoj,hd])
   ·rename_i d hd
    have hy:=ha.yield hj hd (hS.dn j oj hoj d hd);rw[Array.toArray_toList]at hy;rw[hag d (qhg hg hoj hd)]at h
    split at h
    ·rename_i b hb
     rw[hb]at hy;cases b
     ·have h:=h.f rfl;cases want
      ·exact run h (by simp[Region.wanted,hg,hy])
      ·exact skip h (by simp[Region.wanted,hg,hy])
     ·have h:=h.t rfl;cases want
      ·exact skip h (by simp[Region.wanted,hg,hy])
      ·exact run h (by simp[Region.wanted,hg,hy])
    ·rename_i hb
     refine skip h ?_;have:yielded ops a.tmps j=none:=by
      rw[hy]
      split
      ·rename_i b hb';exact absurd hb' (hb b)
      ·rfl
     simp[Region.wanted,hg,this]
theorem qc(m j:Nat):(Array.replicate m false).getD j false=false:=by
 rcases Ba j m with h|h
 ·simp[h]
 ·simp[h]
theorem countP_set(listed:Array Bool)(i:Nat)(hi:listed.getD i true=false):(listed.setIfInBounds i true).toList.count false+1=listed.toList.count false:=by
 have hlt:i<listed.toList.length:=by
  rcases Ba i listed.size with h|h
  ·simpa using h
  ·simp[Bb h]at hi
 have hv:listed.toList[i]=false:=by
  have h':i<listed.size:=by simpa using hlt
  simpa[h']using hi
 rw[Cj];have:∀(l:List Bool) (i:Nat) (h:i<l.length),l[i]=false->(l.set i true).count false+1=l.count false:=by
  intro l
  induction l with
  | nil=>intro i h;simp at h
  | cons b l ih=>
   intro i h hb;cases i with
   | zero=>simp at hb;subst hb;simp
   | succ i=>
    have:=ih i (by simpa using h) (by simpa using hb);cases b<;>simp<;>omega
 exact this _ _ hlt hv
theorem qm5{Q:(Nat->Value)->Et->Prop}{Q':Exit->Act->Et->Prop}(hQ:∀ρ a w,St n ρ a->Q ρ w->Q' .normal a w)(hS:ShapeP n ops)(hl:E.length=ops.size)(hE:∀(i:Nat) (o:Oper) (e:Ent),ops[i]?=some o->E[i]?=some e->EntOk e o/\
   ∀w,Ext w0 w->allv (E.take i) (qt o) (sfr (E.take i) ρ) w fun ρ'=>qb4 P ops.toList o ρ' w fun v w'=>Ext w w'/\e.φ v w')(hF:∃ks:E0,(∀k d φ,getL E k=some ⟨some d,none,φ⟩->k∈ks)/\∀w,Ext w0 w->allv E ks (sfr E ρ) w fun ρ'=>Q ρ' w):
  ∀(fuel:Nat) (listed:Array Bool) (vals ρa:Nat->Value) (a:Act) (w:Et),listed.size=ops.size->listed.toList.count false<=fuel->InvD n E w0 ρ listed vals ρa a w->wpAny P .any ops Q' fuel listed a w:=by
 obtain⟨ks,hks,hF⟩:=hF;have hd:∀(i:Nat) (o:Oper) (e:Ent),ops[i]?=some o->E[i]?=some e->EntOk e o:=fun i o e h1 h2=>(hE i o e h1 h2).1
 have hlt:∀(k:Nat) (e:Ent),E[k]?=some e->k<ops.size:=fun k e hk=>by
  rw[<-hl]
  rcases Ba k E.length with h|h
  ·exact h
  ·rw[Az h]at hk;cases hk
 have final:∀(listed:Array Bool) (vals ρa:Nat->Value) (a:Act) (w:Et),(∀k,k<ops.size->listed.getD k false=true)->InvD n E w0 ρ listed vals ρa a w->Q' .normal a w:=fun listed vals ρa a w hall I=>by
  have h:=qna (vals:=vals) _ _ (fun k _ e hk=>by
   rw[ql]at hk;exact I.φ k (hall k (hlt k e hk)) e hk) (hF w I.ext)
  have he:fr E vals ks (sfr E ρ)=ρa:=by
   funext t
   have:=qdl hd hl hS I E.length ks t (fun k e hk hdt hki=>⟨hall k (hlt k e hk),fun hv=>hks k t e.φ (by
    obtain⟨ed,ev,eφ⟩:=e;simp only at hdt hv;subst hdt hv;rw[ql];exact hk)⟩) (fun k e hk _ _=>by rw[hl];exact hlt k e hk)
   rwa[Bq]at this
  rw[he]at h;exact hQ _ _ _ I.st h
 have nodone:∀(listed:Array Bool),listed.size=ops.size->Region.ready .any ops listed=[]->∀k,k<ops.size->listed.getD k false=true:=fun listed hsz hr k hk=>by
  induction k using Nat.strongRecOn with
  | _ k ih=>
   cases hv:listed.getD k false with
   | true=>rfl
   | false=>
    exfalso
    have hmem:k∈Region.ready .any ops listed:=by
     refine mem_ready.2 ⟨?_,ops[k],Aj hk,fun e he hb=>?_⟩
     ·have:k<listed.size:=by omega
      simp[this]at hv|-;exact hv
     ·rw[qau]at hb;have hp:e.on∈qt ops[k]:=qab.2 ⟨e,by simpa using he,hb,rfl⟩;have h1:=hS.lt k _ (Aj hk) _ hp;exact ih _ h1 Oo
    rw[hr]at hmem;cases hmem
 intro fuel
 induction fuel with
 | zero=>
  intro listed vals ρa a w hsz hc I;have hall:∀k,k<ops.size->listed.getD k false=true:=fun k hk=>by
   have h0:listed.toList.count false=0:=by omega
   have h1:=CB.1 h0;have hk':k<listed.size:=by omega
   cases hv:listed[k]with
   | true=>simp[hk',hv]
   | false=>exact absurd (by rw[<-hv];exact Ch.2 (CI hk')) h1
  refine⟨?_,final listed vals ρa a w hall I⟩;rw[Dw];intro j hj;obtain⟨h1,o,ho,_⟩:=mem_ready.1 hj;have h2:=hall j (AU.1 ho).1;have hk':j<listed.size:=by have:=(AU.1 ho).1;omega
  simp[hk']at h1 h2;rw[h1]at h2;cases h2
 | succ fuel ih=>
  intro listed vals ρa a w hsz hc I;refine⟨fun hr=>final listed vals ρa a w (nodone listed hsz hr) I,fun i hi=>?_⟩;obtain⟨hun,o,ho,hall⟩:=mem_ready.1 hi;have hio:i<ops.size:=(AU.1 ho).1;have hiE:i<E.length:=by omega
  obtain⟨hok,hspec⟩:=hE i o E[i] ho (Bt hiE);have hpl:∀k∈qt o,listed.getD k false=true:=fun k hk=>by
   obtain⟨e,he,hb,hon⟩:=qab.1 hk;rw[<-hon];exact hall e (by simpa using he) (by rw[qau];exact hb)
  have h:=qna (vals:=vals) _ _ (fun k hk e he=>by
   rw[ql,Bi,Ad (hS.lt i o ho k hk)]at he;exact I.φ k (hpl k hk) e he) (hspec w I.ext)
  have hag:∀t∈o.looksAt ops,fr (E.take i) vals (qt o) (sfr (E.take i) ρ) t=ρa t:=fun t ht=>by
   have hp:∀(k:Nat) (e:Ent),E[k]?=some e->e.d=some t->k∈qt o:=fun k e hk hdt=>by
    have hk':=hlt k e hk;exact hS.look i o k ops[k] t ho (Aj hk') ((hd k _ e (Aj hk') hk).d ▸ hdt) ht
   exact qdl hd hl hS I i (qt o) t (fun k e hk hdt _=>⟨hpl k (hp k e hk hdt),fun _=>hp k e hk hdt⟩) (fun k e hk hdt _=>hS.lt i o ho k (hp k e hk hdt))
  refine qe5 ho hS I.st hag h fun v w' ⟨hx,hφ⟩=>?_;have hgd:∀k,(listed.setIfInBounds i true).getD k false=true->k=i\/(k≠i/\listed.getD k false=true):=fun k hk=>by
   by_cases hki:k=i
   ·exact .inl hki
   ·rw[getD_set_ne false (fun e=>hki e.symm)]at hk;exact .inr ⟨hki,hk⟩
  have hnl:listed.getD i false=false:=by
   have:i<listed.size:=by omega
   simp[this]at hun|-;exact hun
  refine ih _ (fun k=>if k=i then v else vals k) (match o.dst with|some d=>upd ρa d v|none=>ρa) _ _ (by simp[hsz]) (by have:=countP_set listed i hun;omega) ⟨I.ext.trans hx,?_,?_,?_,?_⟩
  ·cases hdd:o.dst with
   | none=>exact I.st
   | some d=>exact I.st.put (hS.dn i o ho d hdd) v
  ·intro k hk e he
   rcases hgd k hk with rfl|⟨hki,hk⟩
   ·rw[Bt hiE]at he;cases he
    simpa using hφ
   ·simp only[Aa hki];have hk':=hlt k e he;exact(hd k _ e (Aj hk') he).st _ _ _ (I.φ k hk e he) hx
  ·intro k hk e d he hdd
   rcases hgd k hk with rfl|⟨hki,hk⟩
   ·rw[Bt hiE]at he;cases he;rw[hok.d]at hdd;simp[hdd,qer]
   ·simp only[Aa hki];have hk':=hlt k e he;have hd2:=(hd k _ e (Aj hk') he).d;cases ho2:o.dst with
    | none=>exact I.at_ k hk e d he hdd
    | some d2=>
     have hne:d≠d2:=by
      rintro rfl;exact hki (hS.uniq i o k _ d ho (Aj hk') (hd2 ▸ hdd) ho2)
     simp only;rw[qaq _ _ _ _ hne];exact I.at_ k hk e d he hdd
  ·intro t ht;have h1:ρa t=ρ t:=I.miss t fun k hk e he=>ht k (by
    by_cases hki:k=i
    ·subst hki;rw[hnl]at hk;cases hk
    ·rw[getD_set_ne false (fun e=>hki e.symm)];exact hk) e he
   cases ho2:o.dst with
   | none=>exact h1
   | some d2=>
    have hne:t≠d2:=by
     rintro rfl;refine ht i ?_ E[i] (Bt hiE) (by rw[hok.d,ho2]);have:i<listed.size:=by omega
     simp[this]
    simp only;rw[qaq _ _ _ _ hne];exact h1
end
theorem DrawV.free{P:Ev}{n id:Nat}{ops:Array Oper}{Q:Exit->(Nat->Value)->Et->Prop}{ρ:Nat->Value}{w:Et}(hm:P.follows .mixedOrders=true)(hB:qji n ops=true)(h:regD P ops.toList w.drew (fun ρ' w'=>Q .normal ρ' w') ops.toList 0 [] ρ):DrawV P n id ops Q ρ w:=by
 refine⟨fun a ha=>wp_region_any hm ?_⟩;obtain⟨E,h1,h2,h3⟩:=qj7 ops.toList [] [] ρ (fun k=>rfl) h;refine qm5 (Q:=fun ρ' w'=>Q .normal ρ' w') (E:=E) (w0:=w.drew) (ρ:=ρ) (fun ρ a w h1 h2=>⟨ρ,h1,h2⟩) (qd4 hB) (by simpa using h1) (fun i o e ho he=>?_) (by simpa using h3) _ _ (fun _=>undef) ρ a _ Js Js ⟨Ext.refl _,ha,?_,?_,fun t _=>rfl⟩
 ·have:=h2 i o e (by simpa using ho) he
  simpa using this
 ·intro k hk;rw[qc]at hk;cases hk
 ·intro k hk;rw[qc]at hk;cases hk
end V
namespace V
def resC(P:Ev)(ρ:Nat->Value)(w:Et):List ResultVar->(Ez->Prop)->Prop
 | [],K=>K []
 | .tmp t::l,K=>qil (ρ t) fun v=>resC P ρ w l fun vs=>K (v::vs)
 | .cell c ty::l,K=>qwy P ty (ρ c) w fun v=>resC P ρ w l fun vs=>K (v::vs)
def one(vs:Ez):Value:=
 match vs with
 | [v]=>v
 | l=>.tuple l.toArray
theorem qwz{P:Ev}{w:Et}{t:Ew}{x:Value}{K:Value->Prop}(h:qwy P t x w K):∃v,(do loadVar t (<-asAddr x):Sem Value).run P w=.ok v w/\K v:=by
 unfold qwy at h
 split at h
 ·rename_i d b off hu
  cases ha:aggD d<;>rw[ha]at h
  ·obtain⟨v,hv,hk⟩:=h;rw[qbl]at hk;refine⟨v,?_,hk⟩;simp[asAddr,loadVar,qd2 hu,ha,go_sem,hv]
  ·cases hT:hasT P t<;>rw[hT]at h
   ·exact h.elim
   ·obtain⟨cs,hl,hc,hk⟩:=h;rw[qai]at hk;refine⟨_,?_,hk⟩;have:=run_loadCells_list (P:=P) w ⟨b,off,none⟩ cs (fun j v hv=>by
     have hj:j<cs.length:=by
      rcases Ba j cs.length with h|h
      ·exact h
      ·rw[Az h]at hv;cases hv
     rw[qan,hc j Oo];exact hv)
    simp[asAddr,loadVar,qd2 hu,ha,q8 hT,<-hl,this]
 ·exact h.elim
theorem qaax{P:Ev}{ρ:Nat->Value}{w:Et}{tmps:E6}(hρ:∀t,tmps.getD t undef=ρ t)(l:List ResultVar):∀K:Ez->Prop,resC P ρ w l K->
  ∃vs,(l.mapM (resF tmps)).run P w=.ok vs w/\K vs:=by
 induction l with
 | nil=>intro K h;exact⟨[],by simp,h⟩
 | cons x l ih=>
  intro K h;cases x with
  | tmp t=>
   simp only[resC,qbl]at h;obtain⟨vs,h1,h2⟩:=ih _ h;exact⟨ρ t::vs,by rw[Ei];simp only[Sem.run_bind,resF,Sem.run_pure,Result.andThen_ok,hρ];rw[h1];rfl,h2⟩
  | cell c ty=>
   simp only[resC]at h;obtain⟨v,hv,hk⟩:=qwz h;obtain⟨vs,h1,h2⟩:=ih _ hk;refine⟨v::vs,?_,h2⟩;have e:resF tmps (.cell c ty)=(do loadVar ty (<-asAddr (ρ c))):=by rw[<-hρ];rfl
   rw[Ei,Sem.run_bind,e,hv,Result.andThen_ok,Sem.run_bind,h1];rfl
theorem qh{P:Ev}{n:Nat}{fn:Func}{ρ:Nat->Value}{w:Et}{R:Value->Et->Prop}(h:resC P ρ w fn.results.toList fun vs=>R (one vs) w):
  ∀a,St n ρ a->∃v,(results fn a.tmps).run P w=.ok v w/\R v w:=by
 intro a ha;obtain⟨vs,h1,h2⟩:=qaax ha.get fn.results.toList _ h;refine⟨one vs,?_,h2⟩;have e:results fn a.tmps=(do let vs <-fn.results.mapM (resF a.tmps);pure (if h:vs.size=1 then vs[0]else .tuple vs)):=by
  unfold results;congr 1
 rw[e,DD];simp[h1]
 match vs with
 | [v]=>rfl
 | []=>rfl
 | v::u::l=>simp[one]
end V
namespace V
structure Chg(w w':Et)(B:List (Option Nat)):Prop where
 os:w'.os=w.os
 tape:w'.tape=w.tape
 output:w'.output=w.output
 size:w.heap.size<=w'.heap.size
 block:∀k,k<w.heap.size->some k∉B->w'.heap[k]?=w.heap[k]?
theorem Chg.ext{w w':Et}{B:List (Option Nat)}(h:Ext w w'):Chg w w' B:=⟨h.os,h.tape,h.output,h.size,fun k hk _=>h.block k hk⟩
structure EntO where
 d:Option Tmp
 v:Option Value
 u:Option Nat
 φ:Value->Et->Prop
def EntO.plain(e:EntO):Ent:=⟨e.d,e.v,fun x _=>∀c,e.v=some c->x=c⟩
def q4q(u:Option Nat)(i:Option Nat):Bool:=
 match u with
 | none=>true
 | some a=>match i with
  | none=>false
  | some b=>Nat.beq a b
abbrev AL:=List (Nat×Nat×Option Nat×(Value->Et->Prop))
def qga:AL->Nat->Option (Nat×Option Nat×(Value->Et->Prop))
 | [],_=>none
 | (i,x)::es,k=>bif Nat.beq i k then some x else qga es k
def allO(base:Nat)(es:AL)(i:Option Nat):E0->(Nat->Value)->Et->((Nat->Value)->Prop)->Prop
 | [],ρ,_,K=>K ρ
 | k::ks,ρ,w,K=>
  match qga es k with
  | some (d,u,φ)=>bif q4q u i then ∀v,φ v w->(∀g,v.ownBlock=some g->base<=g/\g<w.heap.size)->allO base es i ks (upd ρ d v) w K else ∀v,allO base es i ks (upd ρ d v) w K
  | none=>allO base es i ks ρ w K
def qju(es:AL)(i:Nat):E0->(Nat->Value)->List (Option Nat)
 | [],_=>[]
 | k::ks,ρ=>
  match qga es k with
  | some (d,u,_)=>match u with
   | some j=>bif Nat.beq j i then(ρ d).ownBlock::qju es i ks ρ else qju es i ks ρ
   | none=>qju es i ks ρ
  | none=>qju es i ks ρ
def idxO:AL->E0
 | []=>[]
 | (i,_)::es=>i::idxO es
def qxh(k:Nat)(u:Option Nat)(φ:Value->Et->Prop)(es:AL):Option Tmp->Option Value->AL
 | some d,none=>(k,d,u,φ)::es
 | _,_=>es
def Loc(base:Nat)(φ:Value->Et->Prop):Prop:=
 ∀v w w',φ v w->(∀k,k<w.heap.size->(k<base\/v.ownBlock=some k)->w'.heap[k]?=w.heap[k]?)->w.heap.size<=w'.heap.size->φ v w'
def PostO(w:Et)(B:List (Option Nat))(still:Bool)(φ:Value->Et->Prop)(v:Value)(w':Et):Prop:=
 Chg w w' B/\φ v w'/\(still=false->∀g,v.ownBlock=some g->g<w'.heap.size/\(some g∈B\/w.heap.size<=g))
structure StepO(base:Nat)(A:Bool->(Value->Et->Prop)->Prop)(K:Option Value->Option Nat->(Value->Et->Prop)->Prop):Prop where
 h:(∃v,A true (fun u _=>u=v)/\K (some v) none (fun u _=>u=v))\/(∃u φ,Loc base φ/\A false φ/\K none u φ)
theorem StepO.still{base:Nat}{A:Bool->(Value->Et->Prop)->Prop}{K:Option Value->Option Nat->(Value->Et->Prop)->Prop}(v:Value)(h:A true (fun u _=>u=v))(hk:K (some v) none (fun u _=>u=v)):StepO base A K:=⟨.inl ⟨v,h,hk⟩⟩
def regO(P:Ev)(ops:List Oper)(w0:Et)(Q:(Nat->Value)->Et->Prop):List Oper->Nat->AL->(Nat->Value)->Prop
 | [],_,_,_=>False
 | [o],k,es,ρ=>∀w,Ext w0 w->allO w0.heap.size es (some k) (idxO es) ρ w fun ρ'=>qb4 P ops o ρ' w fun v w'=>Q (updO ρ' o.dst (some v)) w'
 | o::l,k,es,ρ=>StepO w0.heap.size
   (fun still φ=>∀w,Ext w0 w->allO w0.heap.size es (some k) (qt o) ρ w fun ρ'=>qb4 P ops o ρ' w (PostO w (qju es k (qt o) ρ') still φ))
   (fun v u φ=>regO P ops w0 Q l (k+1) (qxh k u φ es o.dst v) (updO ρ o.dst v))
structure EntOkO(base:Nat)(e:EntO)(o:Oper):Prop where
 d:e.d=o.dst
 loc:Loc base e.φ
 st:e.v≠none->∀x w w',e.φ x w->e.φ x w'
 v:∀c,e.v=some c->∀x w,e.φ x w->x=c
def AgreeO(es:AL)(F:List EntO):Prop:=
 ∀k,(match getL F k with|some ⟨some d,none,u,φ⟩=>qga es k=some (d,u,φ)|_=>qga es k=none)
theorem AgreeO.look{es:AL}{F:List EntO}(h:AgreeO es F){k d:Nat}{u:Option Nat}{φ:Value->Et->Prop}:qga es k=some (d,u,φ)↔F[k]?=some ⟨some d,none,u,φ⟩:=by
 have hk:=h k;rw[ql]at hk
 constructor
 ·intro hl
  split at hk
  ·rename_i d' u' φ' hg
   rw[hk]at hl;cases hl;exact hg
  ·rw[hk]at hl;cases hl
 ·intro hg;rw[hg]at hk;exact hk
theorem q41{es:AL}{k:Nat}{x:Nat×Option Nat×(Value->Et->Prop)}(h:qga es k=some x):k∈idxO es:=by
 induction es with
 | nil=>cases h
 | cons y es ih=>
  obtain⟨i,z⟩:=y;simp only[qga]at h;cases hb:Nat.beq i k<;>rw[hb]at h
  ·exact BY _ (ih h)
  ·rw[Bn hb];exact AO ..
theorem AgreeO.push{es:AL}{F:List EntO}(h:AgreeO es F)(dst:Option Tmp)(v:Option Value)(u:Option Nat)(φ:Value->Et->Prop):AgreeO (qxh F.length u φ es dst v) (F++[⟨dst,v,u,φ⟩]):=by
 intro k;have hk:=h k;have hg:∀k,k<F.length->getL (F++[⟨dst,v,u,φ⟩]) k=getL F k:=fun k hk=>by rw[ql,ql,AR hk]
 have hlast:getL (F++[⟨dst,v,u,φ⟩]) F.length=some ⟨dst,v,u,φ⟩:=by rw[ql,AV (Ar _)];simp
 have hnone:∀k,F.length<=k->getL F k=none:=fun k hk=>by rw[ql,Az hk]
 have hout:∀k,F.length<k->getL (F++[⟨dst,v,u,φ⟩]) k=none:=fun k hk=>by rw[ql,Az Ys]
 have hL:qga es F.length=none:=by have:=h F.length;rw[hnone _ (Ar _)]at this;exact this
 have other:k≠F.length->qga (qxh F.length u φ es dst v) k=qga es k:=fun hne=>by
  unfold qxh
  split
  ·have:Nat.beq F.length k=false:=Bz.2 fun e=>hne (Bn e).symm
   simp only[qga,this,cond_false]
  ·rfl
 rcases Dp k F.length with hlt|rfl|hgt
 ·rw[hg k hlt,other Oo];exact hk
 ·rw[hlast];have hrefl:Nat.beq F.length F.length=true:=by simp
  cases dst with
  | none=>exact hL
  | some d=>
   cases v with
   | none=>simp only[qxh,qga,hrefl,cond_true]
   | some v=>exact hL
 ·rw[hout k hgt,other Oo];rw[hnone k Oo]at hk;exact hk
section
variable {P:Ev} {n:Nat} {ops:List Oper} {w0:Et}
def q8b(P:Ev)(ops:List Oper)(w0:Et)(F:List EntO)(ρ0:Nat->Value)(i:Nat)(o:Oper)(e:EntO):Prop:=
 EntOkO w0.heap.size e o/\∃es,AgreeO es (F.take i)/\∀w,Ext w0 w->allO w0.heap.size es (some i) (qt o) (sfr ((F.take i).map EntO.plain) ρ0) w fun ρ'=>
  qb4 P ops o ρ' w (PostO w (qju es i (qt o) ρ') e.v.isSome e.φ)
theorem q5o{Q:(Nat->Value)->Et->Prop}(l:List Oper):∀(es:AL) (F:List EntO) (ρ0:Nat->Value),AgreeO es F->regO P ops w0 Q l F.length es (sfr (F.map EntO.plain) ρ0)->
  ∃(E:List EntO) (o:Oper),E.length+1=l.length/\l[E.length]?=some o/\(∀i o' e,l[i]?=some o'->E[i]?=some e->q8b P ops w0 (F++E) ρ0 (F.length+i) o' e)/\
   ∃es',AgreeO es' (F++E)/\∀w,Ext w0 w->allO w0.heap.size es' (some (F++E).length) (idxO es') (sfr ((F++E).map EntO.plain) ρ0) w fun ρ'=>
    qb4 P ops o ρ' w fun v w'=>Q (updO ρ' o.dst (some v)) w':=by
 induction l with
 | nil=>intro es F ρ0 _ h;exact h.elim
 | cons o l ih=>
  intro es F ρ0 hAg h;cases l with
  | nil=>
   refine⟨[],o,rfl,rfl,fun i o' e _ he=>by simp at he,es,by simpa using hAg,?_⟩
   simpa[regO]using h
  | cons o2 l=>
   have key:∀(v:Option Value) (u:Option Nat) (φ:Value->Et->Prop),EntOkO w0.heap.size ⟨o.dst,v,u,φ⟩ o->
     (∀w,Ext w0 w->allO w0.heap.size es (some F.length) (qt o) (sfr (F.map EntO.plain) ρ0) w fun ρ'=>qb4 P ops o ρ' w (PostO w (qju es F.length (qt o) ρ') v.isSome φ))->
     regO P ops w0 Q (o2::l) (F.length+1) (qxh F.length u φ es o.dst v) (updO (sfr (F.map EntO.plain) ρ0) o.dst v)->
     ∃(E:List EntO) (o':Oper),E.length+1=(o::o2::l).length/\(o::o2::l)[E.length]?=some o'/\(∀i o' e,(o::o2::l)[i]?=some o'->E[i]?=some e->q8b P ops w0 (F++E) ρ0 (F.length+i) o' e)/\
      ∃es',AgreeO es' (F++E)/\∀w,Ext w0 w->allO w0.heap.size es' (some (F++E).length) (idxO es') (sfr ((F++E).map EntO.plain) ρ0) w fun ρ'=>
       qb4 P ops o' ρ' w fun v w'=>Q (updO ρ' o'.dst (some v)) w':=fun v u φ hok hA hK=>by
    have e1:updO (sfr (F.map EntO.plain) ρ0) o.dst v=sfr ((F++[(⟨o.dst,v,u,φ⟩:EntO)]).map EntO.plain) ρ0:=by rw[AG,qf4];rfl
    have e2:F.length+1=(F++[(⟨o.dst,v,u,φ⟩:EntO)]).length:=by simp
    rw[e1,e2]at hK;obtain⟨E,o',h1,h2,h3,es',h4,h5⟩:=ih _ _ ρ0 (hAg.push o.dst v u φ) hK;refine⟨⟨o.dst,v,u,φ⟩::E,o',by simp only[Aw]at h1|-;omega,by simpa using h2,fun i o' e hi he=>?_,es',by simpa using h4,by simpa using h5⟩;cases i with
    | zero=>
     simp at hi he;subst hi he;refine⟨hok,es,by simpa using hAg,?_⟩
     simpa using hA
    | succ i=>
     simp at hi he;have:=h3 i o' e hi he
     simpa[Cy,C0 1 i]using this
   obtain⟨v,hA,hK⟩|⟨u,φ,hl,hA,hK⟩:=h.h
   ·exact key (some v) none _ ⟨rfl,fun _ _ _ h _ _=>h,fun _ _ _ _ h=>h,fun c hc x w hx=>by cases hc;exact hx⟩ hA hK
   ·exact key none u φ ⟨rfl,hl,fun h=>absurd rfl h,fun c hc=>by cases hc⟩ hA hK
theorem qqz{F:List EntO}{k:Nat}:getL (F.map EntO.plain) k=(F[k]?).map EntO.plain:=by rw[ql,Au]
theorem qyn{base:Nat}{es:AL}{i:Option Nat}{F:List EntO}{vals:Nat->Value}{w:Et}{K:(Nat->Value)->Prop}(hA:AgreeO es F):∀(ks:E0) (ρ:Nat->Value),
  (∀k∈ks,∀e,F[k]?=some e->e.v=none->q4q e.u i=true->e.φ (vals k) w/\∀g,(vals k).ownBlock=some g->base<=g/\g<w.heap.size)->allO base es i ks ρ w K->K (fr (F.map EntO.plain) vals ks ρ):=by
 intro ks
 induction ks with
 | nil=>intro ρ _ h;exact h
 | cons k ks ih=>
  intro ρ hv h;have hv':=fun k' (hk':k'∈ks)=>hv k' (BY _ hk')
  unfold allO at h;rw[fr];cases hl:qga es k with
  | none=>
   rw[hl]at h;rw[qjz]
   ·exact ih _ hv' h
   ·intro d φ hg;rw[qqz]at hg;obtain⟨e,he,hp⟩:=DP.1 hg;obtain⟨ed,ev,eu,eφ⟩:=e;simp only[EntO.plain,Ent.mk.injEq]at hp;obtain⟨h1,h2,_⟩:=hp;subst h1 h2;rw[hA.look.2 he]at hl;cases hl
  | some x=>
   obtain⟨d,u,φ⟩:=x;have hg:=hA.look.1 hl;rw[hl]at h;simp only at h;rw[qg9 (d:=d) (φ:=(EntO.plain ⟨some d,none,u,φ⟩).φ) (by rw[qqz,hg];rfl)];cases hb:q4q u i<;>rw[hb]at h
   ·exact ih _ hv' (h _)
   ·obtain⟨h1,h2⟩:=hv k (AO ..) _ hg rfl hb;exact ih _ hv' (h _ h1 h2)
theorem q2t{es:AL}{i:Nat}{ρ:Nat->Value}{g:Nat}:∀ks,some g∈qju es i ks ρ->∃k d φ,k∈ks/\qga es k=some (d,some i,φ)/\(ρ d).ownBlock=some g:=by
 intro ks
 induction ks with
 | nil=>intro h;cases h
 | cons k ks ih=>
  intro h;have next:some g∈qju es i ks ρ->∃k' d φ,k'∈k::ks/\qga es k'=some (d,some i,φ)/\(ρ d).ownBlock=some g:=fun h=>by
   obtain⟨k',d,φ,h1,h2,h3⟩:=ih h;exact⟨k',d,φ,BY _ h1,h2,h3⟩
  unfold qju at h
  split at h
  ·rename_i d u φ hl
   split at h
   ·rename_i j
    cases hb:Nat.beq j i<;>rw[hb]at h
    ·exact next h
    ·have:=Bn hb;subst this
     rcases AF.1 h with h|h
     ·exact⟨k,d,φ,AO ..,hl,h.symm⟩
     ·exact next h
   ·exact next h
  ·exact next h
structure InvO(F:List EntO)(w0:Et)(listed:Array Bool)(vals:Nat->Value)(w:Et):Prop where
 φ:∀(k:Nat) (e:EntO),F[k]?=some e->listed.getD k false=true->(∀j,e.u=some j->listed.getD j false=false)->e.φ (vals k) w
 own:∀(k:Nat) (e:EntO) (g:Nat),F[k]?=some e->e.v=none->listed.getD k false=true->(∀j,e.u=some j->listed.getD j false=false)->(vals k).ownBlock=some g->w0.heap.size<=g/\g<w.heap.size
 apart:∀(k k':Nat) (e e':EntO) (g:Nat),F[k]?=some e->F[k']?=some e'->e.v=none->e'.v=none->listed.getD k false=true->listed.getD k' false=true->
  (∀j,e.u=some j->listed.getD j false=false)->(∀j,e'.u=some j->listed.getD j false=false)->k≠k'->(vals k).ownBlock=some g->(vals k').ownBlock≠some g
theorem qko{u:Option Nat}{i:Nat}{listed:Array Bool}(h:q4q u (some i)=true)(hi:listed.getD i false=false):∀j,u=some j->listed.getD j false=false:=by
 intro j hj;subst hj;have:j=i:=Bn h;rw[this];exact hi
end
theorem qye{P:Ev}{md:Region.Mode}{ops:Array Oper}{Q:Exit->Act->Et->Prop}{listed:Array Bool}{a:Act}{w:Et}(hr:Region.ready md ops listed=[])(h:Q .normal a w):∀fuel,wpAny P md ops Q fuel listed a w
 | 0=>⟨hr,h⟩
 | _+1=>⟨fun _=>h,by rw[hr];simp⟩
theorem qfi{ops:Array Oper}{listed:Array Bool}{md:Region.Mode}(h:∀k,k<ops.size->listed.getD k true=true):Region.ready md ops listed=[]:=by
 rw[Dw];intro j hj;obtain⟨h1,o,ho,_⟩:=mem_ready.1 hj;rw[h j (AU.1 ho).1]at h1;cases h1
theorem qiz{n:Nat}{ops:Array Oper}(hS:ShapeP n ops){listed:Array Bool}(hsz:listed.size=ops.size)(hr:Region.ready .any ops listed=[])(k:Nat)(hk:k<ops.size):listed.getD k false=true:=by
 induction k using Nat.strongRecOn with
 | _ k ih=>
  cases hv:listed.getD k false with
  | true=>rfl
  | false=>
   exfalso
   have hmem:k∈Region.ready .any ops listed:=by
    refine mem_ready.2 ⟨?_,ops[k],Aj hk,fun e he hb=>?_⟩
    ·have:k<listed.size:=by omega
     simp[this]at hv|-;exact hv
    ·rw[qau]at hb;have hp:e.on∈qt ops[k]:=qab.2 ⟨e,by simpa using he,hb,rfl⟩;have h1:=hS.lt k _ (Aj hk) _ hp;exact ih _ h1 Oo
   rw[hr]at hmem;cases hmem
theorem qb6{listed:Array Bool}{i:Nat}(hi:i<listed.size):listed.getD i true=listed.getD i false:=by simp[hi]
theorem InvD.step{n:Nat}{ops:Array Oper}{E:List Ent}{w0 w w':Et}{ρ:Nat->Value}{listed:Array Bool}{vals ρa:Nat->Value}{a:Act}{i:Nat}{o:Oper}{e:Ent}{v:Value}(hS:ShapeP n ops)(hl:E.length=ops.size)(hd:∀(i:Nat) (o:Oper) (e:Ent),ops[i]?=some o->E[i]?=some e->EntOk e o)(hfree:∀(k:Nat) (e:Ent),E[k]?=some e->∀x w w',e.φ x w->e.φ x w')(I:InvD n E w0 ρ listed vals ρa a w)(hsz:listed.size=ops.size)(ho:ops[i]?=some o)(he:E[i]?=some e)(hun:listed.getD i false=false)(hx:Ext w0 w')(hφ:e.φ v w'):
  InvD n E w0 ρ (listed.setIfInBounds i true) (fun k=>if k=i then v else vals k) (match o.dst with|some d=>upd ρa d v|none=>ρa) (a.put o.dst v) w':=by
 have hio:i<ops.size:=(AU.1 ho).1;have hok:=hd i o e ho he;have hlt:∀(k:Nat) (e:Ent),E[k]?=some e->k<ops.size:=fun k e hk=>by
  rw[<-hl]
  rcases Ba k E.length with h|h
  ·exact h
  ·rw[Az h]at hk;cases hk
 have hgd:∀k,(listed.setIfInBounds i true).getD k false=true->k=i\/(k≠i/\listed.getD k false=true):=fun k hk=>by
  by_cases hki:k=i
  ·exact .inl hki
  ·rw[getD_set_ne false (fun e=>hki e.symm)]at hk;exact .inr ⟨hki,hk⟩
 refine⟨hx,?_,?_,?_,?_⟩
 ·cases hdd:o.dst with
  | none=>exact I.st
  | some d=>exact I.st.put (hS.dn i o ho d hdd) v
 ·intro k hk e' he'
  rcases hgd k hk with rfl|⟨hki,hk⟩
  ·rw[he]at he';cases he'
   simpa using hφ
  ·simp only[Aa hki];exact hfree k e' he' _ _ _ (I.φ k hk e' he')
 ·intro k hk e' d he' hdd
  rcases hgd k hk with rfl|⟨hki,hk⟩
  ·rw[he]at he';cases he';rw[hok.d]at hdd;simp[hdd,qer]
  ·simp only[Aa hki];have hk':=hlt k e' he';have hd2:=(hd k _ e' (Aj hk') he').d;cases ho2:o.dst with
   | none=>exact I.at_ k hk e' d he' hdd
   | some d2=>
    have hne:d≠d2:=by
     rintro rfl;exact hki (hS.uniq i o k _ d ho (Aj hk') (hd2 ▸ hdd) ho2)
    simp only;rw[qaq _ _ _ _ hne];exact I.at_ k hk e' d he' hdd
 ·intro t ht;have h1:ρa t=ρ t:=I.miss t fun k hk e' he'=>ht k (by
   by_cases hki:k=i
   ·subst hki;rw[hun]at hk;cases hk
   ·rw[getD_set_ne false (fun e=>hki e.symm)];exact hk) e' he'
  cases ho2:o.dst with
  | none=>exact h1
  | some d2=>
   have hne:t≠d2:=by
    rintro rfl;refine ht i ?_ e he (by rw[hok.d,ho2]);have:i<listed.size:=by omega
    simp[this]
   simp only;rw[qaq _ _ _ _ hne];exact h1
section
variable {P:Ev} {n:Nat} {ops:Array Oper} {w0:Et} {F:List EntO} {ρ:Nat->Value}
theorem q27{Q:(Nat->Value)->Et->Prop}{Q':Exit->Act->Et->Prop}(hQ:∀ρ a w,St n ρ a->Q ρ w->Q' .normal a w)(hS:ShapeP n ops){ol:Oper}(hm:F.length+1=ops.size)(hol:ops[F.length]?=some ol)(hwait:∀k,k<F.length->k∈qt ol)(hF:∀(i:Nat) (o:Oper) (e:EntO),ops[i]?=some o->F[i]?=some e->q8b P ops.toList w0 F ρ i o e)(hlast:∃es,AgreeO es F/\∀w,Ext w0 w->allO w0.heap.size es (some F.length) (idxO es) (sfr (F.map EntO.plain) ρ) w fun ρ'=>qb4 P ops.toList ol ρ' w fun v w'=>Q (updO ρ' ol.dst (some v)) w'):
  ∀(fuel:Nat) (listed:Array Bool) (vals ρa:Nat->Value) (a:Act) (w:Et),listed.size=ops.size->listed.toList.count false<=fuel->listed.getD F.length false=false->
   InvD n (F.map EntO.plain++[⟨ol.dst,none,fun _ _=>True⟩]) w0 ρ listed vals ρa a w->InvO F w0 listed vals w->wpAny P .any ops Q' fuel listed a w:=by
 obtain⟨E,hE⟩:∃E,E=F.map EntO.plain++[(⟨ol.dst,none,fun _ _=>True⟩:Ent)]:=⟨_,rfl⟩
 rw[<-hE];have hEl:E.length=ops.size:=by rw[hE];simp;omega
 have hEi:∀(i:Nat) (e:EntO),F[i]?=some e->E[i]?=some e.plain:=fun i e he=>by
  have hi:i<F.length:=(Ae.1 he).1;rw[hE,AR (by simpa using hi),Au,he];rfl
 have hEc:∀(i:Nat) (e:Ent),E[i]?=some e->(∃e',F[i]?=some e'/\e=e'.plain)\/(i=F.length/\e=⟨ol.dst,none,fun _ _=>True⟩):=fun i e he=>by
  rcases Ba i F.length with hi|hi
  ·left
   rw[hE,AR (by simpa using hi),Au,Bt hi]at he;exact⟨F[i],Bt hi,(Bs he).symm⟩
  ·right
   rw[hE,AV (by simpa using hi)]at he;simp only[AI]at he;have:i-F.length=0:=by
    rcases Cb (i-F.length)with h|h
    ·exact h
    ·rw[Az Ys]at he;cases he
   rw[this]at he;exact⟨by omega,(by simpa using he:_=e).symm⟩
 have hEt:∀i,i<=F.length->E.take i=(F.take i).map EntO.plain:=fun i hi=>by
  rw[hE,BJ (by simpa using hi),List.map_take]
 have hd:∀(i:Nat) (o:Oper) (e:Ent),ops[i]?=some o->E[i]?=some e->EntOk e o:=fun i o e ho he=>by
  rcases hEc i e he with⟨e',he',rfl⟩|⟨rfl,rfl⟩
  ·have:=(hF i o e' ho he').1;exact⟨this.d,fun _ _ _ h _=>h,fun x hx u w hu=>hu x hx⟩
  ·rw[hol]at ho;cases ho;exact⟨rfl,fun _ _ _ h _=>h,fun x hx=>by cases hx⟩
 have hfree:∀(k:Nat) (e:Ent),E[k]?=some e->∀x w w',e.φ x w->e.φ x w':=fun k e he x w w' h=>by
  rcases hEc k e he with⟨e',he',rfl⟩|⟨rfl,rfl⟩
  ·exact h
  ·trivial
 have hlt:∀(k:Nat) (e:Ent),E[k]?=some e->k<ops.size:=fun k e hk=>by
  rw[<-hEl];exact(Ae.1 hk).1
 intro fuel
 induction fuel with
 | zero=>
  intro listed vals ρa a w hsz hc hlm I J
  exfalso
  have hk':F.length<listed.size:=by omega
  have h1:=CB.1 (show listed.toList.count false=0 by omega);refine h1 ?_;have:listed[F.length]=false:=by simpa[hk']using hlm
  rw[<-this];exact Ch.2 (CI hk')
 | succ fuel ih=>
  intro listed vals ρa a w hsz hc hlm I J;refine⟨fun hr=>?_,fun i hi=>?_⟩
  ·have:=qiz hS hsz hr F.length Oo;rw[hlm]at this;cases this
  obtain⟨hun,o,ho,hall⟩:=mem_ready.1 hi;have hio:i<ops.size:=(AU.1 ho).1;have hnl:listed.getD i false=false:=by rw[<-qb6 Oo];exact hun
  have hpl:∀k∈qt o,listed.getD k false=true:=fun k hk=>by
   obtain⟨e,he,hb,hon⟩:=qab.1 hk;rw[<-hon];exact hall e (by simpa using he) (by rw[qau];exact hb)
  rcases Ba i F.length with hiF|hiF
  ·
   have hFi:F[i]?=some F[i]:=Bt hiF;obtain⟨e,he⟩:∃e,e=F[i]:=⟨_,rfl⟩
   rw[<-he]at hFi;obtain⟨hok,es,hAg,hspec⟩:=hF i o e ho hFi;have hget:∀(k:Nat) (e':EntO),(F.take i)[k]?=some e'->F[k]?=some e'/\k<i:=fun k e' h=>by
    rw[Bi]at h
    split at h
    ·exact⟨h,by assumption⟩
    ·cases h
   have h:=qyn (vals:=vals) hAg (qt o) _ (fun k hk e' he' hv hkb=>by
    obtain⟨h1,_⟩:=hget k e' he';have hal:=qko hkb hnl;exact⟨J.φ k e' h1 (hpl k hk) hal,fun g hg=>J.own k e' g h1 hv (hpl k hk) hal hg⟩) (hspec w I.ext)
   have hfrm:∀t,(∀(k:Nat) (e':Ent),E[k]?=some e'->e'.d=some t->k∈qt o)->fr ((F.take i).map EntO.plain) vals (qt o) (sfr ((F.take i).map EntO.plain) ρ) t=ρa t:=fun t hp=>by
    rw[<-hEt i Oo];exact qdl hd hEl hS I i (qt o) t (fun k e hk hdt _=>⟨hpl k (hp k e hk hdt),fun _=>hp k e hk hdt⟩) (fun k e hk hdt _=>hS.lt i o ho k (hp k e hk hdt))
   have hag:∀t∈o.looksAt ops,fr ((F.take i).map EntO.plain) vals (qt o) (sfr ((F.take i).map EntO.plain) ρ) t=ρa t:=fun t ht=>hfrm t fun k e' hk hdt=>by
    have hk':=hlt k e' hk;exact hS.look i o k ops[k] t ho (Aj hk') ((hd k _ e' (Aj hk') hk).d ▸ hdt) ht
   refine qe5 ho hS I.st hag h fun v w' ⟨hchg,hφ,hown⟩=>?_;have hB:∀g,some g∈qju es i (qt o) (fr ((F.take i).map EntO.plain) vals (qt o) (sfr ((F.take i).map EntO.plain) ρ))->
     ∃k e',F[k]?=some e'/\e'.v=none/\e'.u=some i/\listed.getD k false=true/\(vals k).ownBlock=some g:=fun g hg=>by
    obtain⟨k,d,φ,hk,hlk,ho'⟩:=q2t _ hg;have hFk:=hAg.look.1 hlk;obtain⟨h1,_⟩:=hget k _ hFk;refine⟨k,_,h1,rfl,rfl,hpl k hk,?_⟩;have hra:=I.at_ k (hpl k hk) _ d (hEi k _ h1) rfl;rw[<-hra,<-hfrm d fun k' e' hk' hdt=>?_]
    ·exact ho'
    ·have hlk':=hlt k' e' hk';have hlk2:=hlt k _ (hEi k _ h1);have hd1:=(hd k' _ e' (Aj hlk') hk').d;have hd2:=(hd k _ _ (Aj hlk2) (hEi k _ h1)).d;have:k'=k:=hS.uniq k _ k' _ d (Aj hlk2) (Aj hlk') (hd1 ▸ hdt) (by rw[<-hd2];rfl);rw[this];exact hk
   have alive_i:∀e':EntO,e'.u=some i->∀j,e'.u=some j->listed.getD j false=false:=fun e' hu j hj=>by
    rw[hu]at hj;cases hj;exact hnl
   have hBge:∀g,some g∈qju es i (qt o) (fr ((F.take i).map EntO.plain) vals (qt o) (sfr ((F.take i).map EntO.plain) ρ))->w0.heap.size<=g/\g<w.heap.size:=fun g hg=>by
    obtain⟨k,e',h1,h2,h3,h4,h5⟩:=hB g hg;exact J.own k e' g h1 h2 h4 (alive_i e' h3) h5
   have hx:Ext w0 w':=⟨hchg.os.trans I.ext.os,hchg.tape.trans I.ext.tape,hchg.output.trans I.ext.output,Bd I.ext.size hchg.size,fun k hk=>by
    rw[hchg.block k (Bx hk I.ext.size) (fun hmem=>by have:=(hBge k hmem).1;omega)];exact I.ext.block k hk⟩
   have hgd:∀k,(listed.setIfInBounds i true).getD k false=true->k=i\/(k≠i/\listed.getD k false=true):=fun k hk=>by
    by_cases hki:k=i
    ·exact .inl hki
    ·rw[getD_set_ne false (fun e=>hki e.symm)]at hk;exact .inr ⟨hki,hk⟩
   have hal:∀(e':EntO),(∀j,e'.u=some j->(listed.setIfInBounds i true).getD j false=false)->(∀j,e'.u=some j->listed.getD j false=false)/\e'.u≠some i:=fun e' h=>by
    refine⟨fun j hj=>?_,fun hu=>?_⟩
    ·have:=h j hj
     by_cases hji:j=i
     ·subst hji;exact hnl
     ·rwa[getD_set_ne false (fun e=>hji e.symm)]at this
    ·have:=h i hu;have hil:i<listed.size:=by omega
     simp[hil]at this
   have hsome:e.v=none->e.v.isSome=false:=fun h=>by rw[h];rfl
   refine ih _ _ _ _ _ (by simp[hsz]) (by have:=countP_set listed i hun;omega) (by rw[getD_set_ne false Oo];exact hlm) (InvD.step hS hEl hd hfree I hsz ho (hEi i e hFi) hnl hx (fun c hc=>hok.v c hc v w' hφ)) ⟨?_,?_,?_⟩
   ·intro k e' hk hlk halv;obtain⟨ha1,ha2⟩:=hal e' halv
    rcases hgd k hlk with rfl|⟨hki,hlk⟩
    ·rw[hFi]at hk;cases hk
     simpa using hφ
    ·simp only[Aa hki];have hold:=J.φ k e' hk hlk ha1;have hk':k<ops.size:=by have:=(Ae.1 hk).1;omega
     have hok':=(hF k ops[k] e' (Aj hk') hk).1
     by_cases hv:e'.v=none
     ·refine hok'.loc _ w w' hold (fun b hb hor=>hchg.block b hb fun hmem=>?_) hchg.size;obtain⟨k2,e2,h1,h2,h3,h4,h5⟩:=hB b hmem
      rcases hor with hlt' | hob
      ·have:=(hBge b hmem).1;omega
      ·have hne:k≠k2:=by
        rintro rfl;rw[hk]at h1;cases h1;exact ha2 h3
       exact J.apart k k2 e' e2 b hk h1 hv h2 hlk h4 ha1 (alive_i e2 h3) hne hob h5
     ·exact hok'.st hv _ _ _ hold
   ·intro k e' g hk hv hlk halv hg;obtain⟨ha1,ha2⟩:=hal e' halv
    rcases hgd k hlk with rfl|⟨hki,hlk⟩
    ·rw[hFi]at hk;cases hk;simp only[if_true]at hg;obtain⟨h1,h2⟩:=hown (hsome hv) g hg;refine⟨?_,h1⟩
     rcases h2 with h2|h2
     ·exact(hBge g h2).1
     ·have:=I.ext.size;omega
    ·simp only[Aa hki]at hg;have:=J.own k e' g hk hv hlk ha1 hg;have:=hchg.size;omega
   ·intro k k' e1 e2 g hk hk' hv hv' hlk hlk' hal1 hal2 hne hg hg';obtain⟨ha1,ha1'⟩:=hal e1 hal1;obtain⟨ha2,ha2'⟩:=hal e2 hal2;have new:∀(k:Nat) (e1:EntO),F[k]?=some e1->e1.v=none->listed.getD k false=true->(∀j,e1.u=some j->listed.getD j false=false)->e1.u≠some i->e.v=none->v.ownBlock=some g->(vals k).ownBlock≠some g:=fun k e1 hk hv hlk ha ha' hev hg hg'=>by
     obtain⟨_,h2⟩:=hown (hsome hev) g hg
     rcases h2 with h2|h2
     ·obtain⟨k2,e2,q1,q2,q3,q4,q5⟩:=hB g h2;have hne:k≠k2:=by
       rintro rfl;rw[hk]at q1;cases q1;exact ha' q3
      exact J.apart k k2 e1 e2 g hk q1 hv q2 hlk q4 ha (alive_i e2 q3) hne hg' q5
     ·have:=(J.own k e1 g hk hv hlk ha hg').2;omega
    rcases hgd k hlk with rfl|⟨hki,hlk2⟩
    ·rw[hFi]at hk;cases hk
     rcases hgd k' hlk' with rfl|⟨hki',hlk2'⟩
     ·exact hne rfl
     ·simp only[if_true,Aa hki']at hg hg';exact new k' e2 hk' hv' hlk2' ha2 ha2' hv hg hg'
    ·rcases hgd k' hlk' with rfl|⟨hki',hlk2'⟩
     ·rw[hFi]at hk';cases hk';simp only[if_true,Aa hki]at hg hg';exact new k e1 hk hv hlk2 ha1 ha1' hv' hg' hg
     ·simp only[Aa hki,Aa hki']at hg hg';exact J.apart k k' e1 e2 g hk hk' hv hv' hlk2 hlk2' ha1 ha2 hne hg hg'
  ·
   have hil:i=F.length:=by omega
   subst hil;rw[hol]at ho;cases ho;obtain⟨es,hAg,hspec⟩:=hlast;have hlk:∀(k:Nat) (e':EntO),F[k]?=some e'->listed.getD k false=true:=fun k e' hk=>hpl k (hwait k (Ae.1 hk).1)
   have h:=qyn (vals:=vals) hAg (idxO es) _ (fun k _ e' he' hv hkb=>by
    have hal:=qko hkb hnl;exact⟨J.φ k e' he' (hlk k e' he') hal,fun g hg=>J.own k e' g he' hv (hlk k e' he') hal hg⟩) (hspec w I.ext)
   have hfr:fr (F.map EntO.plain) vals (idxO es) (sfr (F.map EntO.plain) ρ)=ρa:=by
    funext t
    have:=qdl hd hEl hS I F.length (idxO es) t (fun k e hk hdt hki=>?_) (fun k e hk hdt hlk'=>?_)
    ·rw[hEt _ (Ar _),Bq]at this;exact this
    ·rcases hEc k e hk with⟨e',he',rfl⟩|⟨rfl,_⟩
     ·refine⟨hlk k e' he',fun hv=>?_⟩;obtain⟨ed,ev,eu,eφ⟩:=e';simp only[EntO.plain]at hdt hv;subst hdt hv;exact q41 (hAg.look.2 he')
     ·omega
    ·rcases hEc k e hk with⟨e',he',rfl⟩|⟨rfl,_⟩
     ·exact(Ae.1 he').1
     ·rw[hnl]at hlk';cases hlk'
   rw[hfr]at h;refine qe5 hol hS I.st (fun _ _=>rfl) h fun v w' hq=>?_;refine qye (qfi fun k hk=>?_) ?_ _
   ·have hk':k<listed.size:=by omega
    by_cases hki:k=F.length
    ·subst hki;simp[hk']
    ·rw[getD_set_ne true (fun e=>hki e.symm),qb6 hk'];exact hpl k (hwait k Oo)
   ·refine hQ _ _ _ ?_ hq;cases hdd:ol.dst with
    | none=>exact I.st
    | some d=>exact I.st.put (hS.dn _ ol hol d hdd) v
end
def qb5(ops:Array Oper):Bool:=
 match ops[ops.size-1]? with
 | some o=>(List.range (ops.size-1)).all fun k=>(qt o).contains k
 | none=>false
theorem DrawV.own{P:Ev}{n id:Nat}{ops:Array Oper}{Q:Exit->(Nat->Value)->Et->Prop}{ρ:Nat->Value}{w:Et}(hm:P.follows .mixedOrders=true)(hB:(qji n ops&&qb5 ops)=true)(h:regO P ops.toList w.drew (fun ρ' w'=>Q .normal ρ' w') ops.toList 0 [] ρ):DrawV P n id ops Q ρ w:=by
 refine⟨fun a ha=>wp_region_any hm ?_⟩;simp only[AM]at hB;obtain⟨F,ol,h1,h2,h3,h4⟩:=q5o ops.toList [] [] ρ (fun k=>rfl) h;have hsz:F.length+1=ops.size:=by simpa using h1
 have hol:ops[F.length]?=some ol:=by simpa using h2
 refine q27 (Q:=fun ρ' w'=>Q .normal ρ' w') (F:=F) (w0:=w.drew) (ρ:=ρ) (fun ρ a w h1 h2=>⟨ρ,h1,h2⟩) (qd4 hB.1) hsz hol (fun k hk=>?_) (fun i o e ho he=>?_) (by simpa using h4) _ _ (fun _=>undef) ρ a _ Js Js ?_ ⟨Ext.refl _,ha,?_,?_,fun t _=>rfl⟩ ⟨?_,?_,?_⟩
 ·have hl:=hB.2;unfold qb5 at hl;rw[show ops.size-1=F.length by omega,hol]at hl
  simpa using Cf.1 hl k (Ca.2 hk)
 ·have:=h3 i o e (by simpa using ho) he
  simpa using this
 ·exact qc _ _
 ·intro k hk;rw[qc]at hk;cases hk
 ·intro k hk;rw[qc]at hk;cases hk
 ·intro k e _ hk;rw[qc]at hk;cases hk
 ·intro k e g _ _ hk;rw[qc]at hk;cases hk
 ·intro k k' e e' g _ _ _ _ hk;rw[qc]at hk;cases hk
end V
namespace V
def setS(S:Nat->Bool)(k:Nat):Nat->Bool:=fun j=>bif Nat.beq j k then true else S j
structure StepI(A:Value->Prop)(K:Value->Prop):Prop where
 h:∃v,A v/\K v
theorem StepI.of{A K:Value->Prop}(v:Value)(h:A v)(hk:K v):StepI A K:=⟨v,h,hk⟩
def regI(P:Ev)(ops:List Oper)(I:(Nat->Bool)->Et->Prop)(Q:(Nat->Value)->Et->Prop):List Oper->Nat->(Nat->Value)->Prop
 | [],_,ρ=>∀w,I (fun _=>true) w->Q ρ w
 | o::l,k,ρ=>StepI (fun v=>∀S w,S k=false->(∀j∈qt o,S j=true)->I S w->qb4 P ops o ρ w fun v' w'=>v'=v/\I (setS S k) w')
   (fun v=>regI P ops I Q l (k+1) (updO ρ o.dst (some v)))
section
variable {P:Ev} {n:Nat}
def qabx(P:Ev)(ops:List Oper)(I:(Nat->Bool)->Et->Prop)(F:List Ent)(ρ0:Nat->Value)(i:Nat)(o:Oper)(e:Ent):Prop:=
 ∃v,e=⟨o.dst,some v,fun x _=>x=v⟩/\∀S w,S i=false->(∀j∈qt o,S j=true)->I S w->qb4 P ops o (sfr (F.take i) ρ0) w fun v' w'=>v'=v/\I (setS S i) w'
theorem q5n{ops:List Oper}{I:(Nat->Bool)->Et->Prop}{Q:(Nat->Value)->Et->Prop}(l:List Oper):∀(F:List Ent) (ρ0:Nat->Value),regI P ops I Q l F.length (sfr F ρ0)->
  ∃E:List Ent,E.length=l.length/\(∀i o e,l[i]?=some o->E[i]?=some e->qabx P ops I (F++E) ρ0 (F.length+i) o e)/\∀w,I (fun _=>true) w->Q (sfr (F++E) ρ0) w:=by
 induction l with
 | nil=>intro F ρ0 h;exact⟨[],rfl,fun i o e hi=>by simp at hi,by rw[AY];exact h⟩
 | cons o l ih=>
  intro F ρ0 h;obtain⟨v,hA,hK⟩:=h.h;have e1:updO (sfr F ρ0) o.dst (some v)=sfr (F++[(⟨o.dst,some v,fun x _=>x=v⟩:Ent)]) ρ0:=by rw[qf4];rfl
  have e2:F.length+1=(F++[(⟨o.dst,some v,fun x _=>x=v⟩:Ent)]).length:=by simp
  rw[e1,e2]at hK;obtain⟨E,h1,h2,h3⟩:=ih _ ρ0 hK;refine⟨⟨o.dst,some v,fun x _=>x=v⟩::E,by simp[h1],fun i o' e hi he=>?_,by simpa using h3⟩;cases i with
  | zero=>
   simp at hi he;subst hi he;exact⟨v,rfl,by simpa using hA⟩
  | succ i=>
   simp at hi he;have:=h2 i o' e hi he
   simpa[Cy,C0 1 i]using this
variable {ops:Array Oper} {w0:Et} {E:List Ent} {ρ:Nat->Value}
theorem q26{I:(Nat->Bool)->Et->Prop}{Q:(Nat->Value)->Et->Prop}{Q':Exit->Act->Et->Prop}(hQ:∀ρ a w,St n ρ a->Q ρ w->Q' .normal a w)(hS:ShapeP n ops)(hl:E.length=ops.size)(hE:∀(i:Nat) (o:Oper) (e:Ent),ops[i]?=some o->E[i]?=some e->qabx P ops.toList I E ρ i o e)(hF:∀w,I (fun _=>true) w->Q (sfr E ρ) w):
  ∀(fuel:Nat) (listed:Array Bool) (vals ρa:Nat->Value) (a:Act) (w:Et),listed.size=ops.size->listed.toList.count false<=fuel->InvD n E w0 ρ listed vals ρa a w0->I (fun j=>listed.getD j true) w->wpAny P .any ops Q' fuel listed a w:=by
 have hd:∀(i:Nat) (o:Oper) (e:Ent),ops[i]?=some o->E[i]?=some e->EntOk e o:=fun i o e h1 h2=>by
  obtain⟨v,rfl,_⟩:=hE i o e h1 h2;exact⟨rfl,fun _ _ _ h _=>h,fun c hc x w hx=>by cases hc;exact hx⟩
 have hlt:∀(k:Nat) (e:Ent),E[k]?=some e->k<ops.size:=fun k e hk=>by
  rw[<-hl];exact(Ae.1 hk).1
 have hfree:∀(k:Nat) (e:Ent),E[k]?=some e->∀x w w',e.φ x w->e.φ x w':=fun k e he x w w' h=>by
  have hk:=hlt k e he;obtain⟨v,rfl,_⟩:=hE k _ e (Aj hk) he;exact h
 have hsome:∀(k:Nat) (e:Ent),E[k]?=some e->e.v≠none:=fun k e he=>by
  have hk:=hlt k e he;obtain⟨v,rfl,_⟩:=hE k _ e (Aj hk) he;simp
 have final:∀(listed:Array Bool) (vals ρa:Nat->Value) (a:Act) (w:Et),(∀k,k<ops.size->listed.getD k false=true)->listed.size=ops.size->InvD n E w0 ρ listed vals ρa a w0->I (fun j=>listed.getD j true) w->Q' .normal a w:=fun listed vals ρa a w hall hsz D hI=>by
  have hT:(fun j=>listed.getD j true)=fun _=>true:=by
   funext j
   rcases Ba j listed.size with hj|hj
   ·rw[qb6 hj];exact hall j Oo
   ·simp[Bb hj]
  rw[hT]at hI;have he:sfr E ρ=ρa:=by
   funext t
   have:=qdl hd hl hS D E.length [] t (fun k e hk hdt hki=>⟨hall k (hlt k e hk),fun hv=>absurd hv (hsome k e hk)⟩) (fun k e hk _ _=>by rw[hl];exact hlt k e hk)
   rwa[Bq]at this
  exact hQ _ _ _ D.st (he ▸ hF w hI)
 intro fuel
 induction fuel with
 | zero=>
  intro listed vals ρa a w hsz hc D hI;have hall:∀k,k<ops.size->listed.getD k false=true:=fun k hk=>by
   have h1:=CB.1 (show listed.toList.count false=0 by omega);have hk':k<listed.size:=by omega
   cases hv:listed[k]with
   | true=>simp[hk',hv]
   | false=>exact absurd (by rw[<-hv];exact Ch.2 (CI hk')) h1
  exact⟨qfi fun k hk=>by rw[qb6 Oo];exact hall k hk,final listed vals ρa a w hall hsz D hI⟩
 | succ fuel ih=>
  intro listed vals ρa a w hsz hc D hI;refine⟨fun hr=>final listed vals ρa a w (fun k hk=>qiz hS hsz hr k hk) hsz D hI,fun i hi=>?_⟩;obtain⟨hun,o,ho,hall⟩:=mem_ready.1 hi;have hio:i<ops.size:=(AU.1 ho).1;have hnl:listed.getD i false=false:=by rw[<-qb6 Oo];exact hun
  have hpl:∀k∈qt o,listed.getD k false=true:=fun k hk=>by
   obtain⟨e,he,hb,hon⟩:=qab.1 hk;rw[<-hon];exact hall e (by simpa using he) (by rw[qau];exact hb)
  have hiE:E[i]?=some E[i]:=Bt Oo;obtain⟨v,he,hspec⟩:=hE i o E[i] ho hiE;have hlp:∀k∈qt o,listed.getD k true=true:=fun k hk=>by
   have:=hpl k hk
   rcases Ba k listed.size with hj|hj
   ·rw[qb6 hj];exact this
   ·simp[Bb hj]
  have h:=hspec (fun j=>listed.getD j true) w hun hlp hI;have hag:∀t∈o.looksAt ops,sfr (E.take i) ρ t=ρa t:=fun t ht=>by
   have hp:∀(k:Nat) (e:Ent),E[k]?=some e->e.d=some t->k∈qt o:=fun k e hk hdt=>by
    have hk':=hlt k e hk;exact hS.look i o k ops[k] t ho (Aj hk') ((hd k _ e (Aj hk') hk).d ▸ hdt) ht
   exact qdl hd hl hS D i [] t (fun k e hk hdt _=>⟨hpl k (hp k e hk hdt),fun hv=>absurd hv (hsome k e hk)⟩) (fun k e hk hdt _=>hS.lt i o ho k (hp k e hk hdt))
  refine qe5 ho hS D.st hag h fun v' w' ⟨hv,hI'⟩=>?_;have hset:(fun j=>(listed.setIfInBounds i true).getD j true)=setS (fun j=>listed.getD j true) i:=by
   funext j
   unfold setS
   by_cases hji:j=i
   ·subst hji;have:j<listed.size:=by omega
    simp[this]
   ·have:Nat.beq j i=false:=Bz.2 fun e=>hji (Bn e)
    rw[this,getD_set_ne true (fun e=>hji e.symm)];rfl
  refine ih _ _ _ _ _ (by simp[hsz]) (by have:=countP_set listed i hun;omega) (InvD.step (v:=v') hS hl hd hfree D hsz ho hiE hnl (Ext.refl _) (by rw[he];exact hv)) ?_;rw[hset];exact hI'
end
theorem DrawV.inv{P:Ev}{n id:Nat}{ops:Array Oper}{Q:Exit->(Nat->Value)->Et->Prop}{ρ:Nat->Value}{w:Et}(I:(Nat->Bool)->Et->Prop)(hm:P.follows .mixedOrders=true)(hB:qji n ops=true)(h0:I (fun j=>Nat.ble ops.size j) w.drew)(h:regI P ops.toList I (fun ρ' w'=>Q .normal ρ' w') ops.toList 0 ρ):DrawV P n id ops Q ρ w:=by
 refine⟨fun a ha=>wp_region_any hm ?_⟩;obtain⟨E,h1,h2,h3⟩:=q5n ops.toList [] ρ h;refine q26 (I:=I) (Q:=fun ρ' w'=>Q .normal ρ' w') (E:=E) (w0:=w.drew) (ρ:=ρ) (fun ρ a w h1 h2=>⟨ρ,h1,h2⟩) (qd4 hB) (by simpa using h1) (fun i o e ho he=>?_) (by simpa using h3) _ _ (fun _=>undef) ρ a _ Js Js ⟨Ext.refl _,ha,?_,?_,fun t _=>rfl⟩ ?_
 ·have:=h2 i o e (by simpa using ho) he
  simpa using this
 ·intro k hk;rw[qc]at hk;cases hk
 ·intro k hk;rw[qc]at hk;cases hk
 ·have:(fun j=>(Array.replicate ops.size false).getD j true)=fun j=>Nat.ble ops.size j:=by
   funext j
   rcases Ba j ops.size with hj|hj
   ·have h2:Nat.ble ops.size j=false:=Bz.2 fun e=>by have:=CR e;omega
    simp[hj,h2]
   ·rw[D5 hj];simp[hj]
  rw[this];exact h0
end V
namespace V
structure StepG(A:Option Value->Prop)(K:Option Value->Prop):Prop where
 h:∃v,A v/\K v
theorem StepG.of{A K:Option Value->Prop}(v:Value)(h:A (some v))(hk:K (some v)):StepG A K:=⟨some v,h,hk⟩
theorem StepG.any{A K:Option Value->Prop}(h:A none)(hk:K none):StepG A K:=⟨none,h,hk⟩
def frG:List (Nat×Nat)->(Nat->Value)->(Nat->Value)->(Nat->Value)
 | [],_,ρ=>ρ
 | (k,d)::es,vals,ρ=>frG es vals (upd ρ d (vals k))
def qadc(k:Nat)(es:List (Nat×Nat)):Option Tmp->Option Value->List (Nat×Nat)
 | some d,none=>(k,d)::es
 | _,_=>es
def isG:Option Value->Value->Prop
 | some c,x=>x=c
 | none,_=>True
def regG(P:Ev)(ops:List Oper)(I:(Nat->Bool)->(Nat->Value)->Et->Prop)(Q:(Nat->Value)->Et->Prop):List Oper->Nat->List (Nat×Nat)->(Nat->Value)->Prop
 | [],_,es,ρ=>∀vals w,I (fun _=>true) vals w->Q (frG es vals ρ) w
 | o::l,k,es,ρ=>StepG (fun v=>∀S vals w,S k=false->(∀j∈qt o,S j=true)->I S vals w->qb4 P ops o (frG es vals ρ) w fun v' w'=>isG v v'/\I (setS S k) (upd vals k v') w')
   (fun v=>regG P ops I Q l (k+1) (qadc k es o.dst v) (updO ρ o.dst v))
def entG(d:Option Tmp)(v:Option Value):Ent:=⟨d,v,fun x _=>isG v x⟩
structure AgreeG(es:List (Nat×Nat))(F:List Ent):Prop where
 in_:∀k d,(k,d)∈es->F[k]?=some (entG (some d) none)
 all:∀k d φ,F[k]?=some ⟨some d,none,φ⟩->k∈es.map (·.1)
theorem AgreeG.push{es:List (Nat×Nat)}{F:List Ent}(h:AgreeG es F)(d:Option Tmp)(v:Option Value):AgreeG (qadc F.length es d v) (F++[entG d v]):=by
 have old:∀k d',(k,d')∈es->(F++[entG d v])[k]?=some (entG (some d') none):=fun k d' hk=>by
  have:=h.in_ k d' hk;rw[AR (Ae.1 this).1,this]
 have back:∀k d' φ,(F++[entG d v])[k]?=some ⟨some d',none,φ⟩->k∈es.map (·.1)\/(k=F.length/\entG d v=⟨some d',none,φ⟩):=fun k d' φ hk=>by
  rcases Ba k F.length with hlt|hge
  ·rw[AR hlt]at hk;exact .inl (h.all _ _ _ hk)
  ·rw[AV hge]at hk;obtain⟨h0,h1⟩:=Ae.1 hk;have:k-F.length=0:=by simpa using h0
   refine .inr ⟨by omega,?_⟩
   simpa[this]using h1
 cases d with
 | none=>
  refine⟨old,fun k d' φ hk=>?_⟩
  rcases back k d' φ hk with hk|⟨rfl,e⟩
  ·exact hk
  ·cases e
 | some d=>
  cases v with
  | none=>
   refine⟨fun k d' hk=>?_,fun k d' φ hk=>?_⟩
   ·rcases AF.1 hk with e|hk
    ·cases e;rw[AV (Ar _),CJ];rfl
    ·exact old k d' hk
   ·rcases back k d' φ hk with hk|⟨rfl,_⟩
    ·exact BY _ hk
    ·exact AO ..
  | some c=>
   refine⟨old,fun k d' φ hk=>?_⟩
   rcases back k d' φ hk with hk|⟨rfl,e⟩
   ·exact hk
   ·cases e
theorem qu1{es0:List Ent}{vals:Nat->Value}:∀(es:List (Nat×Nat)) (ρ:Nat->Value),(∀k d,(k,d)∈es->es0[k]?=some (entG (some d) none))->fr es0 vals (es.map (·.1)) ρ=frG es vals ρ:=by
 intro es
 induction es with
 | nil=>intro ρ _;rfl
 | cons x es ih=>
  obtain⟨k,d⟩:=x;intro ρ h;show fr es0 vals (k::es.map (·.1)) ρ=_;unfold fr;rw[qg9 (d:=d) (φ:=fun x _=>isG none x) (by rw[ql];exact h k d (AO ..)),ih _ fun k d hk=>h k d (BY _ hk)];rfl
section
variable {P:Ev} {n:Nat}
def q8a(P:Ev)(ops:List Oper)(I:(Nat->Bool)->(Nat->Value)->Et->Prop)(F:List Ent)(ρ0:Nat->Value)(i:Nat)(o:Oper)(e:Ent):Prop:=
 ∃v es,e=entG o.dst v/\AgreeG es (F.take i)/\∀S vals w,S i=false->(∀j∈qt o,S j=true)->I S vals w->qb4 P ops o (frG es vals (sfr (F.take i) ρ0)) w fun v' w'=>isG v v'/\I (setS S i) (upd vals i v') w'
theorem qo5{ops:List Oper}{I:(Nat->Bool)->(Nat->Value)->Et->Prop}{Q:(Nat->Value)->Et->Prop}(l:List Oper):∀(es:List (Nat×Nat)) (F:List Ent) (ρ0:Nat->Value),AgreeG es F->regG P ops I Q l F.length es (sfr F ρ0)->
  ∃E:List Ent,E.length=l.length/\(∀i o e,l[i]?=some o->E[i]?=some e->q8a P ops I (F++E) ρ0 (F.length+i) o e)/\∃es',AgreeG es' (F++E)/\∀vals w,I (fun _=>true) vals w->Q (frG es' vals (sfr (F++E) ρ0)) w:=by
 induction l with
 | nil=>intro es F ρ0 hA h;exact⟨[],rfl,fun i o e hi=>by simp at hi,es,by rw[AY];exact hA,by rw[AY];exact h⟩
 | cons o l ih=>
  intro es F ρ0 hA h;obtain⟨v,hv,hK⟩:=h.h;have e1:updO (sfr F ρ0) o.dst v=sfr (F++[entG o.dst v]) ρ0:=by rw[qf4];rfl
  have e2:F.length+1=(F++[entG o.dst v]).length:=by simp
  rw[e1,e2]at hK;obtain⟨E,h1,h2,h3⟩:=ih _ _ ρ0 (hA.push o.dst v) hK;refine⟨entG o.dst v::E,by simp[h1],fun i o' e hi he=>?_,by simpa using h3⟩;cases i with
  | zero=>
   simp at hi he;subst hi he;exact⟨v,es,rfl,by simpa using hA,by simpa using hv⟩
  | succ i=>
   simp at hi he;have:=h2 i o' e hi he
   simpa[Cy,C0 1 i]using this
variable {ops:Array Oper} {w0:Et} {E:List Ent} {ρ:Nat->Value}
theorem qrt{I:(Nat->Bool)->(Nat->Value)->Et->Prop}{Q:(Nat->Value)->Et->Prop}{Q':Exit->Act->Et->Prop}(hQ:∀ρ a w,St n ρ a->Q ρ w->Q' .normal a w)(hS:ShapeP n ops)(hl:E.length=ops.size)(hE:∀(i:Nat) (o:Oper) (e:Ent),ops[i]?=some o->E[i]?=some e->q8a P ops.toList I E ρ i o e)(hF:∃es',AgreeG es' E/\∀vals w,I (fun _=>true) vals w->Q (frG es' vals (sfr E ρ)) w):
  ∀(fuel:Nat) (listed:Array Bool) (vals ρa:Nat->Value) (a:Act) (w:Et),listed.size=ops.size->listed.toList.count false<=fuel->InvD n E w0 ρ listed vals ρa a w0->I (fun j=>listed.getD j true) vals w->wpAny P .any ops Q' fuel listed a w:=by
 obtain⟨ef,hA,hF⟩:=hF;have hd:∀(i:Nat) (o:Oper) (e:Ent),ops[i]?=some o->E[i]?=some e->EntOk e o:=fun i o e h1 h2=>by
  obtain⟨v,_,rfl,_⟩:=hE i o e h1 h2;refine⟨rfl,fun _ _ _ h _=>h,fun c hc x w hx=>?_⟩;have hc:v=some c:=hc;subst hc;exact hx
 have hlt:∀(k:Nat) (e:Ent),E[k]?=some e->k<ops.size:=fun k e hk=>by
  rw[<-hl];exact(Ae.1 hk).1
 have hfree:∀(k:Nat) (e:Ent),E[k]?=some e->∀x w w',e.φ x w->e.φ x w':=fun k e he x w w' h=>by
  have hk:=hlt k e he;obtain⟨v,_,rfl,_⟩:=hE k _ e (Aj hk) he;exact h
 have final:∀(listed:Array Bool) (vals ρa:Nat->Value) (a:Act) (w:Et),(∀k,k<ops.size->listed.getD k false=true)->listed.size=ops.size->InvD n E w0 ρ listed vals ρa a w0->I (fun j=>listed.getD j true) vals w->Q' .normal a w:=fun listed vals ρa a w hall hsz D hI=>by
  have hT:(fun j=>listed.getD j true)=fun _=>true:=by
   funext j
   rcases Ba j listed.size with hj|hj
   ·rw[qb6 hj];exact hall j Oo
   ·simp[Bb hj]
  rw[hT]at hI;have he:frG ef vals (sfr E ρ)=ρa:=by
   funext t
   have:=qdl hd hl hS D E.length (ef.map (·.1)) t (fun k e hk hdt hki=>⟨hall k (hlt k e hk),fun hv=>by
    obtain⟨d,v,φ⟩:=e;cases hv;cases hdt;exact hA.all k _ _ hk⟩) (fun k e hk _ _=>by rw[hl];exact hlt k e hk)
   rw[Bq,qu1 _ _ hA.in_]at this;exact this
  exact hQ _ _ _ D.st (he ▸ hF vals w hI)
 intro fuel
 induction fuel with
 | zero=>
  intro listed vals ρa a w hsz hc D hI;have hall:∀k,k<ops.size->listed.getD k false=true:=fun k hk=>by
   have h1:=CB.1 (show listed.toList.count false=0 by omega);have hk':k<listed.size:=by omega
   cases hv:listed[k]with
   | true=>simp[hk',hv]
   | false=>exact absurd (by rw[<-hv];exact Ch.2 (CI hk')) h1
  exact⟨qfi fun k hk=>by rw[qb6 Oo];exact hall k hk,final listed vals ρa a w hall hsz D hI⟩
 | succ fuel ih=>
  intro listed vals ρa a w hsz hc D hI;refine⟨fun hr=>final listed vals ρa a w (fun k hk=>qiz hS hsz hr k hk) hsz D hI,fun i hi=>?_⟩;obtain⟨hun,o,ho,hall⟩:=mem_ready.1 hi;have hio:i<ops.size:=(AU.1 ho).1;have hnl:listed.getD i false=false:=by rw[<-qb6 Oo];exact hun
  have hpl:∀k∈qt o,listed.getD k false=true:=fun k hk=>by
   obtain⟨e,he,hb,hon⟩:=qab.1 hk;rw[<-hon];exact hall e (by simpa using he) (by rw[qau];exact hb)
  have hiE:E[i]?=some E[i]:=Bt Oo;obtain⟨v,es,he,hAi,hspec⟩:=hE i o E[i] ho hiE;have hlp:∀k∈qt o,listed.getD k true=true:=fun k hk=>by
   have:=hpl k hk
   rcases Ba k listed.size with hj|hj
   ·rw[qb6 hj];exact this
   ·simp[Bb hj]
  have h:=hspec (fun j=>listed.getD j true) vals w hun hlp hI;have hag:∀t∈o.looksAt ops,frG es vals (sfr (E.take i) ρ) t=ρa t:=fun t ht=>by
   have hp:∀(k:Nat) (e:Ent),E[k]?=some e->e.d=some t->k∈qt o:=fun k e hk hdt=>by
    have hk':=hlt k e hk;exact hS.look i o k ops[k] t ho (Aj hk') ((hd k _ e (Aj hk') hk).d ▸ hdt) ht
   have:=qdl hd hl hS D i (es.map (·.1)) t (fun k e hk hdt hki=>⟨hpl k (hp k e hk hdt),fun hv=>by
    obtain⟨d,v,φ⟩:=e;cases hv;cases hdt;exact hAi.all k _ _ (by rw[Bi,Ad hki];exact hk)⟩) (fun k e hk hdt _=>hS.lt i o ho k (hp k e hk hdt))
   rw[qu1 _ _ hAi.in_]at this;exact this
  refine qe5 ho hS D.st hag h fun v' w' ⟨hv,hI'⟩=>?_;have hset:(fun j=>(listed.setIfInBounds i true).getD j true)=setS (fun j=>listed.getD j true) i:=by
   funext j
   unfold setS
   by_cases hji:j=i
   ·subst hji;have:j<listed.size:=by omega
    simp[this]
   ·have:Nat.beq j i=false:=Bz.2 fun e=>hji (Bn e)
    rw[this,getD_set_ne true (fun e=>hji e.symm)];rfl
  have hvals:(fun k=>if k=i then v' else vals k)=upd vals i v':=by
   funext k
   by_cases hk:k=i
   ·subst hk;simp[upd]
   ·rw[Aa hk,qaq _ _ _ _ hk]
  refine ih _ (upd vals i v') _ _ _ (by simp[hsz]) (by have:=countP_set listed i hun;omega) (hvals ▸ InvD.step (v:=v') hS hl hd hfree D hsz ho hiE hnl (Ext.refl _) (by rw[he];exact hv)) ?_;rw[hset];exact hI'
end
theorem DrawV.gen{P:Ev}{n id:Nat}{ops:Array Oper}{Q:Exit->(Nat->Value)->Et->Prop}{ρ:Nat->Value}{w:Et}(I:(Nat->Bool)->(Nat->Value)->Et->Prop)(hm:P.follows .mixedOrders=true)(hB:qji n ops=true)(h0:∀vals,I (fun j=>Nat.ble ops.size j) vals w.drew)(h:regG P ops.toList I (fun ρ' w'=>Q .normal ρ' w') ops.toList 0 [] ρ):DrawV P n id ops Q ρ w:=by
 refine⟨fun a ha=>wp_region_any hm ?_⟩;obtain⟨E,h1,h2,h3⟩:=qo5 ops.toList [] [] ρ (AgreeG.mk (fun _ _ h=>by cases h) (fun _ _ _ h=>by simp at h)) h;refine qrt (I:=I) (Q:=fun ρ' w'=>Q .normal ρ' w') (E:=E) (w0:=w.drew) (ρ:=ρ) (fun ρ a w h1 h2=>⟨ρ,h1,h2⟩) (qd4 hB) (by simpa using h1) (fun i o e ho he=>?_) (by simpa using h3) _ _ (fun _=>undef) ρ a _ Js Js ⟨Ext.refl _,ha,?_,?_,fun t _=>rfl⟩ ?_
 ·have:=h2 i o e (by simpa using ho) he
  simpa using this
 ·intro k hk;rw[qc]at hk;cases hk
 ·intro k hk;rw[qc]at hk;cases hk
 ·have:(fun j=>(Array.replicate ops.size false).getD j true)=fun j=>Nat.ble ops.size j:=by
   funext j
   rcases Ba j ops.size with hj|hj
   ·have h2:Nat.ble ops.size j=false:=Bz.2 fun e=>by have:=CR e;omega
    simp[hj,h2]
   ·rw[D5 hj];simp[hj]
  rw[this];exact h0 _
end V
end Go.Proofs.YtacnkdagblbgfaaGreatDoor
