/- Lemmas and contracts of functions on the way to the law's card (part 1 of 11). -/
import Derived.Test.YtccmcfpmknpccaaGreatDoorProg
import Derived.WalkKit
import Derived.WalkSpells
import Derived.StillTactics
import Derived.Lib.Hide
import Derived.IntWalk
import Derived.Still
import Derived.Scope
import Derived.Maps.AppendAt
import Derived.Lib.AppendStr
import Derived.Orders
import Derived.Shelf.Strings.Builder1
import Derived.Shelf.Strings.Builder2
import Derived.Shelf.Small.Utf8
import Derived.Shelf.Small.Bits
import Derived.Shelf.Small.Strs
import Derived.Shelf.Strings.BuilderF
import Derived.Shelf.Strings.BuilderK
import Derived.Shelf.Strconv.Itoa0
import Derived.Shelf.Strings.Search1
import Derived.Shelf.Strings.Search2
import Derived.Shelf.Strings.Search3
import Derived.Shelf.Strings.Cut
import Derived.Shelf.Strings.Count
import Derived.Shelf.LaysM
import Derived.Shelf.Strings.Shaped
import Derived.Shelf.Strings.Split
import Derived.Shelf.Strings.Runes
import Derived.Shelf.Unicode.DecodeSlow
import Derived.Shelf.Slices.Turned
namespace Go.Proofs.YtccmcfpmknpccaaGreatDoor
open Go.RowKit
abbrev Aa:=@if_neg
abbrev Ab:=@if_pos
abbrev Ac:=@List.mem_append_right
abbrev Ad:=@congrArg
abbrev Ae:=@List.getElem?_eq_some_iff
abbrev Af:=@Nat.zero_le
abbrev Ag:=@List.getD_eq_getElem?_getD
abbrev Ah:=@List.mem_append_left
abbrev Ai:=@Nat.le_refl
abbrev Aj:=@List.take_of_length_le
abbrev Ak:=@List.sublist_cons_self
abbrev Am:=@List.drop_drop
abbrev An:=@List.getElem?_toArray
abbrev Ao:=@List.getElem?_map
abbrev Ap:=@List.perm_append_comm
abbrev Aq:=@List.mem_singleton
abbrev Ar:=@List.length_take
abbrev As:=@Nat.zero_add
abbrev At:=@decide_eq_true
abbrev Au:=@List.length_cons
abbrev Aw:=@Classical.byContradiction
abbrev Ax:=@decide_eq_false
abbrev Ay:=@List.mem_cons
abbrev Az:=@List.append_assoc
abbrev A6:=@List.length_map
abbrev AA:=@List.mem_map
abbrev AB:=@List.map_cons
abbrev AC:=@List.drop_eq_nil_of_le
abbrev AD:=@Bool.eq_iff_iff
abbrev AE:=@Nat.le_trans
abbrev AF:=@Bool.and_eq_true
abbrev AG:=@List.cons_append
abbrev AH:=@List.map_append
abbrev AI:=@Option.some.injEq
abbrev AJ:=@List.mem_cons_self
abbrev AK:=@List.getElem_mem
abbrev AM:=@List.take_append_drop
abbrev AN:=@Nat.lt_or_ge
abbrev AP:=@List.take_succ_eq_append_getElem
abbrev AQ:=@List.getElem?_cons_zero
abbrev AR:=@Option.some.inj
abbrev AS:=@List.getElem?_append_left
abbrev AT:=@List.mem_iff_getElem?
abbrev AU:=@List.mem_append
abbrev AV:=@List.getElem?_append_right
abbrev AW:=@Nat.eq_of_beq_eq_true
abbrev AX:=@Nat.add_sub_cancel
abbrev AY:=@List.getElem?_eq_none
abbrev AZ:=@List.cons_lt_cons_iff
abbrev Ba:=@List.getElem?_set_self
abbrev Bb:=@List.perm_middle
abbrev Bc:=@List.drop_eq_getElem_cons
abbrev Bd:=@Option.some_get
abbrev Be:=@Option.map_some
abbrev Bf:=@List.pairwise_cons
abbrev Bg:=@Nat.pow_le_pow_right
abbrev Bh:=@Array.toList_inj
abbrev Bi:=@List.nil_append
abbrev Bj:=@List.ext_getElem?
abbrev Bk:=@Nat.eq_zero_or_pos
abbrev Bl:=@List.append_nil
abbrev Bm:=@ByteArray.size_extract
abbrev Bn:=@List.drop_zero
abbrev Bo:=@List.eq_nil_of_length_eq_zero
abbrev Bp:=@List.take_add_one
abbrev Bq:=@Nat.min_eq_left
abbrev Br:=@List.take_zero
abbrev Bs:=@List.getElem?_range
abbrev Bt:=@Nat.add_zero
abbrev Bu:=@Nat.lt_of_lt_of_le
abbrev Bv:=@List.getElem?_take
abbrev Bw:=@List.length_singleton
abbrev Bx:=@Nat.mul_one
abbrev By:=@List.mem_filter
abbrev Bz:=@Array.getElem?_eq_none
abbrev B4:=@List.map_nil
abbrev B6:=@List.length_nil
abbrev B7:=@List.getElem?_cons_succ
abbrev B8:=@Decidable.not_not
abbrev B9:=@Nat.mul_le_mul_right
abbrev BA:=@Classical.em
abbrev BB:=@List.mem_range
abbrev BC:=@List.take_succ_cons
abbrev BD:=@Nat.sub_self
abbrev BE:=@Nat.add_sub_cancel_left
abbrev BF:=@Nat.mul_le_mul
abbrev BG:=@UInt8.toNat_inj
abbrev BH:=@ByteArray.data_extract
abbrev BI:=@Nat.succ_ne_zero
abbrev BJ:=@List.pairwise_iff_getElem
abbrev BK:=@UInt8.toNat_ofNat'
abbrev BL:=@Option.getD_some
abbrev BM:=@Nat.mod_eq_of_lt
abbrev BN:=@List.mem_iff_getElem
abbrev BO:=@List.take_length
abbrev BP:=@Array.getD_eq_getD_getElem?
abbrev BQ:=@Array.getElem?_eq_some_iff
abbrev BR:=@of_decide_eq_true
abbrev BT:=@List.getElem_cons_zero
abbrev BU:=@Array.toList_setIfInBounds
abbrev BV:=@List.foldl_cons
abbrev BW:=@Nat.not_lt_zero
abbrev BX:=@Array.getElem?_eq_getElem
abbrev BY:=@Decidable.byContradiction
abbrev BZ:=@List.getElem?_drop
abbrev Cb:=@Nat.add_assoc
abbrev Cc:=@List.foldl_nil
abbrev Cd:=@List.getElem?_append
abbrev Ce:=@List.pairwise_append
abbrev Cf:=@List.length_pos_iff
abbrev Cg:=@Nat.mul_comm
abbrev Ch:=@Nat.sub_zero
abbrev Ci:=@List.not_mem_nil
abbrev Cj:=@List.length_tail
abbrev Ck:=@Nat.le_of_ble_eq_true
abbrev Cl:=@ByteArray.data_append
abbrev Cm:=@Nat.div_le_self
abbrev Cn:=@List.range_succ
abbrev Co:=@Bool.not_eq_true'
abbrev Cp:=@List.getElem?_set
abbrev Cq:=@Nat.le_succ
abbrev Cr:=@Nat.lt_trichotomy
abbrev Cs:=@Nat.mod_lt
abbrev Ct:=@Bool.true_and
abbrev Cu:=@List.map_congr_left
abbrev Cv:=@List.all_eq_true
abbrev Cw:=@Bool.and_false
abbrev Cx:=@List.getElem_map
abbrev Cy:=@List.pairwise_singleton
abbrev Cz:=@List.drop_append_of_le_length
abbrev C0:=@List.take_append_of_le_length
abbrev C6:=@Option.map_eq_some_iff
abbrev C7:=@List.all_nil
abbrev C8:=@List.nodup_cons
abbrev C9:=@List.all_cons
abbrev CA:=@Bool.and_true
abbrev CB:=@List.map_take
abbrev CC:=@Array.getElem?_toList
abbrev CD:=@Bool.eq_false_iff
abbrev CE:=@List.all_eq_false
abbrev CF:=@List.size_toArray
abbrev CG:=@List.mem_of_getElem?
abbrev CH:=@List.mem_cons_of_mem
abbrev CI:=@beq_iff_eq
abbrev CJ:=@List.take_left
abbrev CK:=@List.set_set
abbrev CL:=@Nat.add_comm
abbrev CM:=@Nat.succ_mul
abbrev CN:=@Array.mapM_eq_mapM_toList
abbrev CO:=@List.mem_or_eq_of_mem_set
abbrev CP:=@Nat.shiftRight_eq_div_pow
abbrev CQ:=@List.getElem?_eq_getElem
abbrev CR:=@List.all_append
abbrev CS:=@Nat.lt_of_le_of_lt
abbrev CT:=@Bool.false_eq_true
abbrev CU:=@Nat.sub_add_cancel
abbrev CV:=@Nat.eq_or_lt_of_le
abbrev CW:=@List.filter_append
abbrev CX:=@List.length_eq_zero_iff
abbrev CY:=@Int.toNat_natCast
abbrev CZ:=@List.nodup_append
abbrev Da:=@List.length_range
abbrev Db:=@List.getElem_cons_succ
abbrev Dc:=@List.flatten_cons
abbrev Dd:=@Classical.not_not
abbrev De:=@Nat.div_lt_iff_lt_mul
abbrev Df:=@Array.mem_of_getElem?
abbrev Dg:=@List.length_filter_le
abbrev Dh:=@Array.getElem?_modify
abbrev Di:=@Nat.and_two_pow_sub_one_eq_mod
abbrev Dj:=@List.eq_nil_iff_forall_not_mem
abbrev Dk:=@Nat.zero_lt_succ
abbrev Dl:=@Nat.lt_succ_self
abbrev Dm:=@List.ext_getElem
abbrev Dn:=@Bool.false_or
abbrev Do:=@List.mem_of_mem_take
abbrev Dp:=@Array.toList_extract
abbrev Dq:=@Bool.or_eq_false_iff
abbrev Dr:=@List.any_append
abbrev Dt:=@List.flatten_append
abbrev Du:=@Nat.ne_of_lt
abbrev Dv:=@Int.lt_or_le
abbrev Dw:=@List.mem_filterMap
abbrev Dx:=@List.drop_left
abbrev Dy:=@List.getElem_range
abbrev Dz:=@Bool.false_ne_true
abbrev D0:=@ByteArray.ext
abbrev D3:=@Nat.lt_irrefl
abbrev D4:=@List.sum_cons
abbrev D5:=@Bool.not_eq_true
abbrev D6:=@Nat.div_eq_of_lt
abbrev D7:=@List.mem_flatten
abbrev D8:=@Bool.or_true
abbrev D9:=@Nat.not_lt
abbrev DA:=World
abbrev DB:=ByteArray
abbrev DC:=Program
abbrev DD:=TypeId
abbrev DE:=UInt8
abbrev DF:=Value
abbrev DG:=Value→World→Prop
abbrev DH:=Nat→Value
abbrev DI:=World→Prop
abbrev DJ:=List (Nat×Obj)
abbrev DK:=List Value
abbrev DL:=List Nat
noncomputable abbrev DM:=Tryz.prog
abbrev DN:=Array Value
abbrev DO:=List Deferred
theorem fq{p:Prop}(e:p:=by(repeat' first|exact trivial|refine And.intro rfl ?_)):p:=e
theorem Oo{p:Prop}(e:p:=by omega):p:=e
theorem Jk{p:Prop}(e:p:=by kernel_rfl):p:=e
theorem Od{p:Prop}(e:p:=by decide):p:=e
theorem Js{p:Prop}(e:p:=by simp):p:=e
theorem Ys{p:Prop}(e:p:=by(simp;omega)):p:=e
theorem Oa{p:Prop}(e:p:=by assumption):p:=e
theorem mh{α:Type}{a:α}{l:List α}:a∈a::l:=AJ ..
abbrev LB:=List DE
abbrev oA:=Option Addr
abbrev ii(n:Int):DF:=.int .i64 n
abbrev pp(b:Nat):DF:=.pointer (some ⟨b,0,none⟩)
variable {a b c d i id j k m off r:Nat} {vals ρ:DH} {p q:Prop} {P:DC} {w w' w0:DA} {xo yo:Operand} {x y:DF} {K R:DG} {o oj:Oper} {mx:Option DF} {f:FuncId} {vs:DK} {ty:DD} {ops:Array Oper} {Q':Exit->Act->DI} {body:Code} {o':Obj} {cs cur:DN} {fr:Nat×Nat} {L L':DJ} {listed:Array Bool} {S:Nat->Bool} {E:Nat->Option DF} {pr:Nat->Prop} {I:(Nat->Bool)->DH->DI} {l:LB}
theorem zge{α:Type}{l:List α}(h:i<l.length):l[i]?=some l[i]:=CQ h
theorem zld{α:Type}{l:List α}:(l.drop i).length=l.length-i:=List.length_drop ..
theorem zla{α:Type}{l m:List α}:(l++m).length=l.length+m.length:=List.length_append ..
theorem znr{n:Nat}:n<=n:=Ai _
theorem zmg{α:Type}{l:List α}{a:α}(h:l[i]?=some a):a∈l:=CG h
theorem zmc{α:Type}{a y:α}{l:List α}(h:a∈l):a∈y::l:=CH _ h
namespace V
def upd(ρ:DH)(d:Nat)(v:DF):Nat->DF:=λt=>bif Nat.beq t d then v else ρ t
def ev(ρ:DH):Operand->DF
 | .tmp t=>ρ t
 | .const v=>v
 | .global g=>.pointer (some ⟨g,0,none⟩)
 | .func f=>.func (.func f) #[] #[]
def qc8:DF->Bool
 | .agg _ | .tuple _=>false
 | _=>true
structure St(n:Nat)(ρ:DH)(a:Act):Prop where
 size:a.tmps.size=n
 get:∀t,a.tmps.getD t undef=ρ t
 defers:a.defers=[]
theorem St.eval{n:Nat}{a:Act}(h:St n ρ a):a.eval=ev ρ:=by
 funext x;cases x<;>simp[Act.eval,ev,h.get]
theorem St.put{n:Nat}{a:Act}(h:St n ρ a)(U:d<n)(v:DF):St n (upd ρ d v) (a.put (some d) v):=by
 refine⟨by simp[Act.put,h.size],λt=>?_,by simp[Act.put,h.defers]⟩;have H:=h.get t;have V:=h.size;simp only[Act.put,upd,BP]at H|-
 by_cases e:t=d
 ·simp_all
 grind [Nat.eq_of_beq_eq_true]
theorem St.same{n:Nat}{a:Act}(h:St n ρ a){v:DF}(H:ρ d=v):St n (upd ρ d v) a:=by
 refine⟨h.size,λt=>?_,h.defers⟩;rw[h.get]
 grind [upd,Nat.eq_of_beq_eq_true]
structure Tst(b:Bool)(p q:Prop):Prop where
 t:b=true->p
 f:b=false->q
theorem Tst.tt(h:p):Tst true p q:=⟨λ_=>h,Js⟩
theorem Tst.ff(h:q):Tst false p q:=⟨Js,λ_=>h⟩
theorem Tst.dec{c:Prop}[Decidable c](H:c->p)(U:¬c->q):Tst (decide c) p q:=⟨(by grind),(by grind)⟩
theorem Tst.not{b:Bool}(h:Tst b q p):Tst (!b) p q:=⟨λe=>h.f (by simpa using e),λe=>h.t (by simpa using e)⟩
theorem Tst.beqT{b c:Bool}(h:Tst b p q)(H:c=true:=by rfl):Tst (b==c) p q:=by subst H;cases b<;>exact h
theorem Tst.beqF{b c:Bool}(h:Tst b q p)(H:c=false:=by rfl):Tst (b==c) p q:=by
 subst H;cases b
 ·exact⟨λ_=>h.f rfl,Js⟩
 ·exact⟨Js,λ_=>h.t rfl⟩
theorem Tst.iff(c:Prop){b:Bool}(H:b=true↔c)(U:c->p)(V:¬c->q):Tst b p q:=⟨(by grind),(by grind)⟩
theorem Tst.yes{b:Bool}(H:b=true)(h:p):Tst b p q:=⟨λ_=>h,(by grind)⟩
theorem Tst.no{b:Bool}(H:b=false)(h:q):Tst b p q:=⟨(by grind),λ_=>h⟩
structure Obl(p k:Prop):Prop where
 o:p
 k:k
structure Wit{α:Type}(p:α->Prop)(K:α->Prop):Prop where
 h:∃x,p x/\K x
def qdk(P:DC)(f:FuncId):Bool:=
 match P.funcs[f]? with
 | some U => !(U.name== "runtime.NumGoroutine")&&U.body.isSome
 | none=>false
def Gv(P:DC)(f:FuncId)(args:DK)(w:DA)(R:DG):Prop:=
 qdk P f=true/\Calls P f args.toArray w λe w'=>∃v,e=.returned v/\R v w'
structure RunV(P:DC)(s:Sem DF)(w:DA)(K:DG):Prop where
 h:∃v w',s.run P w=.ok v w'/\K v w'
structure Fall(P:DC)(s:Sem Next)(w:DA)(K:DG):Prop where
 h:(∃v w',s.run P w=.ok (.value v) w'/\K v w')\/(∃w',s.run P w=.ok .skip w'/\K undef w')
structure LoadV(w:DA)(b off:Nat)(K:DF->Prop):Prop where
 h:∃v,w.cell? ⟨b,off,none⟩=some v/\K v
structure LoadA(w:DA)(b off size:Nat)(K:DK->Prop):Prop where
 h:∃cs:DK,cs.length=size/\(∀i,i<size->w.cell? ⟨b,off+i,none⟩=cs[i]?)/\K cs
structure StoreV(w:DA)(b off:Nat)(v:DF)(K:DI):Prop where
 h:(∃o,w.cell? ⟨b,off,none⟩=some o)/\w.frozen? ⟨b,off,none⟩=false/\qc8 v=true/\K (w.setCell ⟨b,off,none⟩ v)
structure StoreA(P:DC)(w:DA)(b off:Nat)(vs:DK)(K:DI):Prop where
 h:∃w',(storeCells ⟨b,off,none⟩ vs).run P w=.ok () w'/\K w'
structure AppV(P:DC)(argTypes:Array DD)(ty:DD)(s x:DF)(w:DA)(K:DG):Prop where
 h:∃v w',(Builtin.append_ argTypes ty #[s,x]).run P w=.ok v w'/\K v w'
structure NewV(w:DA)(o:Obj)(K:Nat->DI):Prop where
 h:∀b w',b=w.heap.size->w'=w.alloc o->K b w'
structure ElemV(A:Option Addr)(i:Int)(len size:Nat)(K:DF->Prop):Prop where
 h:∃(b off j:Nat),A=some ⟨b,off,none⟩/\i=(j:Int)/\j<len/\K (.pointer (some ⟨b,off+j*size,none⟩))
structure LoopV(P:DC)(n:Nat)(body:Code)(Q:Exit->DH->DI)(ρ:DH)(w:DA):Prop where
 h:∀a,St n ρ a->(Code.loop body).wp P (λe a' w'=>∃ρ',St n ρ' a'/\Q e ρ' w') a w
structure DrawV(P:DC)(n id:Nat)(ops:Array Oper)(Q:Exit->DH->DI)(ρ:DH)(w:DA):Prop where
 h:∀a,St n ρ a->(Code.region id ops true).wp P (λe a' w'=>∃ρ',St n ρ' a'/\Q e ρ' w') a w
structure CodeV(P:DC)(n:Nat)(c:Code)(Q:Exit->DH->DI)(ρ:DH)(w:DA):Prop where
 h:∀a,St n ρ a->c.wp P (λe a' w'=>∃ρ',St n ρ' a'/\Q e ρ' w') a w
def InR(k:IntKind)(n:Int):Prop:=
 match k with
 | .i64=>-9223372036854775808<=n/\n<=9223372036854775807
 | .i32=>-2147483648<=n/\n<=2147483647
 | .i16=>-32768<=n/\n<=32767
 | .i8=>-128<=n/\n<=127
 | .u64=>0<=n/\n<=18446744073709551615
 | .u32=>0<=n/\n<=4294967295
 | .u16=>0<=n/\n<=65535
 | .u8=>0<=n/\n<=255
def eqk:IntKind->IntKind->Bool
 | .i64,.i64 | .i32,.i32 | .i16,.i16 | .i8,.i8 | .u64,.u64 | .u32,.u32 | .u16,.u16 | .u8,.u8=>true
 | _,_=>false
theorem qaf1{k j:IntKind}(h:eqk k j=true):k=j:=by cases k<;>cases j<;>first|rfl|cases h
def gb(s:DB)(k:Nat):DE:=s.data.toList.getD k 0
def seq(x y:DB):Bool:=x.data==y.data
def slt(x y:DB):Bool:=Op.bytesLess x.toList y.toList
def qgu(H:BinOp)(k:IntKind)(x y:Int):Int:=
 let a:=BitVec.ofInt k.bits x
 let b:=BitVec.ofInt k.bits y
 match H with
 | .and=>k.wrap (a &&&b).toNat
 | .or=>k.wrap (a |||b).toNat
 | .xor=>k.wrap (a ^^^ b).toNat
 | _=>k.wrap (a &&& ~~~b).toNat
def qiz(v:DF)(K:DF->Prop):Prop:=
 match v with
 | .bool b=>K (.bool b)
 | .int k n=>K (.int k n)
 | .float k n=>K (.float k n)
 | .complex k a b=>K (.complex k a b)
 | .string s=>K (.string s)
 | .pointer a=>K (.pointer a)
 | .slice a l c=>K (.slice a l c)
 | .map r=>K (.map r)
 | .chan r=>K (.chan r)
 | .func f a c=>K (.func f a c)
 | .nilFunc=>K .nilFunc
 | .iface t v=>K (.iface t v)
 | .nilIface=>K .nilIface
 | .agg cs=>K (.agg cs)
 | .tuple vs=>K (.tuple vs)
theorem qbl(v:DF)(K:DF->Prop):qiz v K=K v:=by cases v<;>rfl
def qch:DK->(DK->Prop)->Prop
 | [],K=>K []
 | v::l,K=>qiz v λu=>qch l λr=>K (u::r)
theorem qan(l:DK):∀K:DK->Prop,qch l K=K l:=by
 induction l<;>grind [qch,qbl]
def evs(ρ:DH):List Operand->DK
 | []=>[]
 | x::l=>ev ρ x::evs ρ l
theorem qea(ρ:DH)(l:List Operand):evs ρ l=l.map (ev ρ):=by induction l<;>simp[evs, *]
def setL:DK->Nat->DF->DK
 | [],_,_=>[]
 | _::l,0,v=>v::l
 | x::l,i+1,v=>x::setL l i v
theorem qaez(l:DK)(i:Nat)(v:DF):setL l i v=l.set i v:=by
 induction l generalizing i with
 | nil=>rfl
 | cons x l H=>cases i<;>simp[setL,H]
def qg1:Operand->Bool
 | .const _=>true
 | _=>false
def isEq:BinOp->Bool
 | .eql | .neq=>true
 | _=>false
def eqOp:BinOp->Bool
 | .eql=>true
 | _=>false
def qlv(P:DC)(t:DD)(xo yo:Operand)(x y:DF):Option Bool:=
 match x,y with
 | .pointer none,.pointer b=>match P.underlying t with|some (.pointer _)=>some b.isNone|_=>none
 | .pointer (some _),.pointer none=>match P.underlying t with|some (.pointer _)=>some false|_=>none
 | .slice none _ _,.slice b _ _=>match P.underlying t with|some (.slice _)=>some b.isNone|_=>none
 | .slice (some _) _ _,.slice none _ _=>match P.underlying t with|some (.slice _)=>some false|_=>none
 | .nilIface,.nilIface=>match P.underlying t with|some (.interface _)=>(bif qg1 xo||qg1 yo then some true else none)|_=>none
 | .nilIface,.iface _ _=>match P.underlying t with|some (.interface _)=>some false|_=>none
 | .iface _ _,.nilIface=>match P.underlying t with|some (.interface _)=>some false|_=>none
 | _,_=>none
def binV(P:DC)(H:BinOp)(t:DD)(xo yo:Operand)(x y:DF)(w:DA)(K:DF->Prop)(U:DG):Prop:=
 match x,y with
 | .int k a,.int V b=>
  match H with
  | .shl=>Wit (λr=>0<=b/\b<k.bits/\k.wrap (a*2 ^ b.toNat)=r) (λr=>K (.int k r))
  | .shr=>Wit (λr=>0<=b/\b<k.bits/\a/2 ^ b.toNat=r) (λr=>K (.int k r))
  | _=>bif eqk k V then
   match H with
   | .add=>Obl (InR k (a+b)) (K (.int k (a+b)))
   | .sub=>Obl (InR k (a-b)) (K (.int k (a-b)))
   | .mul=>Obl (InR k (a*b)) (K (.int k (a*b)))
   | .quo=>Obl (0<=a/\0<b/\InR k (a/b)) (K (.int k (a/b)))
   | .rem=>Obl (0<=a/\0<b) (K (.int k (a%b)))
   | .eql=>K (.bool (decide (a=b)))
   | .neq=>K (.bool (decide (a≠b)))
   | .lss=>K (.bool (decide (a<b)))
   | .leq=>K (.bool (decide (a<=b)))
   | .gtr=>K (.bool (decide (b<a)))
   | .geq=>K (.bool (decide (b<=a)))
   | _=>Wit (λr=>qgu H k a b=r) (λr=>K (.int k r))
   else False
 | .string a,.string b=>
  match H with
  | .add=>Obl (a.size+b.size<=9223372036854775807) (K (.string (a++b)))
  | .eql=>K (.bool (seq a b))
  | .neq=>K (.bool (!seq a b))
  | .lss=>K (.bool (slt a b))
  | .leq=>K (.bool (slt a b||seq a b))
  | .gtr=>K (.bool (!(slt a b||seq a b)))
  | .geq=>K (.bool (!slt a b))
  | _=>False
 | .bool a,.bool b=>
  match H,P.underlying t with
  | .eql,some .bool=>K (.bool (a==b))
  | .neq,some .bool=>K (.bool (!(a==b)))
  | _,_=>False
 | x,y=>bif isEq H then(match qlv P t xo yo x y with|some b=>K (.bool (bif eqOp H then b else !b))|none=>RunV P (do eqGuard H t xo yo x y;binOp H t x y) w U)else RunV P (do eqGuard H t xo yo x y;binOp H t x y) w U
theorem qnl(a b:DB):(a.toList==b.toList)=seq a b:=by
 grind [seq,ByteArray.toList_eq,Array.toList_inj]
theorem qab{a b:DB}:seq a b=true↔a=b:=by
 unfold seq;rw[CI];cases a;cases b;simp
theorem qtg{a b:DB}:seq a b=false↔a≠b:=by
 grind [qab]
theorem Tst.seq{a b:DB}{p q:Prop}(H:a=b->p)(U:a≠b->q):Tst (seq a b) p q:=⟨λe=>H (qab.1 e),λe=>U (qtg.1 e)⟩
theorem InR.wrap{k:IntKind}{n:Int}(h:InR k n):k.wrap n=n:=by
 cases k<;>obtain⟨H,U⟩:=h<;>simp[IntKind.bits,IntKind.signed,IntKind.wrap]<;>(try split)<;>omega
theorem qcv{k:IntKind}{a b:Int}{H:BinOp}(t:DD)(xo yo:Operand)(h:H=.and\/H=.or\/H=.xor\/H=.andNot):
  (do eqGuard H t xo yo (.int k a) (.int k b);binOp H t (.int k a) (.int k b):Sem DF).run P w=.ok (.int k (qgu H k a b)) w:=by
 rcases h with rfl|rfl|rfl|rfl<;>simp[eqGuard,binOp,Op.intBits,qgu,go_sem]<;>rfl
theorem qka{t:DD}{a b:Bool}(d:Nat)(H:P.underlying t=some .bool):
  (Op.equalIn (d+1) t (.bool a) (.bool b)).run P w=.ok (a==b) w:=by
 simp[Op.equalIn,run_underlying H]
theorem qgq{t:DD}{a b:Bool}(H:P.underlying t=some .bool):
  (Op.equal t (.bool a) (.bool b)).run P w=.ok (a==b) w:=qka 9999 H
theorem qme{t:DD}{b:Bool}(d:Nat)(h:qlv P t xo yo x y=some b):(Op.equalIn (d+1) t x y).run P w=.ok b w:=by
 unfold qlv at h
 split at h
 ·split at h
  all_goals simp_all[Op.equalIn,run_underlying]
 ·split at h
  all_goals simp_all[Op.equalIn,run_underlying]
 ·split at h
  ·rename_i H;cases h;simp[Op.equalIn,run_underlying H]
  ·cases h
 ·split at h
  ·rename_i H;cases h;simp[Op.equalIn,run_underlying H]
  ·cases h
 ·split at h
  ·rename_i H
   cases U:qg1 xo||qg1 yo<;>rw[U]at h
   all_goals simp_all[Op.equalIn,run_underlying]
  ·cases h
 ·split at h
  all_goals simp_all[Op.equalIn,run_underlying]
 ·split at h
  all_goals simp_all[Op.equalIn,run_underlying]
 ·cases h
theorem qmc{t:DD}{b:Bool}{op:BinOp}(h:qlv P t xo yo x y=some b):(eqGuard op t xo yo x y).run P w=.ok () w:=by
 unfold qlv at h
 split at h
 all_goals try (cases op<;>simp[eqGuard];done)
 ·split at h
  ·cases H:qg1 xo||qg1 yo<;>rw[H]at h
   ·cases h
   ·cases op<;>cases xo<;>cases yo<;>simp_all[eqGuard,qg1]
  ·cases h
 ·cases h
theorem qaes{t:DD}{b:Bool}{H:BinOp}(W:isEq H=true)(h:qlv P t xo yo x y=some b)(Z:∀k a,x≠.int k a)(h2:∀a,x≠.string a)(h3:∀a,x≠.bool a):
  (do eqGuard H t xo yo x y;binOp H t x y:Sem DF).run P w=.ok (.bool (bif eqOp H then b else !b)) w:=by
 have U:=qmc (w:=w) (op:=H) h;have V:=qme (w:=w) 9999 h;cases H<;>first|(cases W;done)|skip
 ·unfold qlv at h;cases x<;>cases y<;>first|(cases h;done)|(simp[U,binOp,Op.equal,Op.maxDepth,V,eqOp])
 ·unfold qlv at h;cases x<;>cases y<;>first|(cases h;done)|(simp[U,binOp,Op.equal,Op.maxDepth,V,eqOp])
theorem qzg{U:BinOp}{t:DD}(h:binV P U t xo yo x y w (λv=>K v w) K):
  ∃v w',(do eqGuard U t xo yo x y;binOp U t x y:Sem DF).run P w=.ok v w'/\K v w':=by
 unfold binV at h
 split at h
 ·rename_i k a k' b
  have Z:U≠.shl->U≠.shr->eqk k k'=true:=by
   grind
  cases U<;>simp only at h
  case shl=>
   obtain⟨r,⟨h0,W,rfl⟩,H⟩:=h;refine⟨_,w,?_,H⟩;have e:¬b<0:=by omega
   have e2:min b.toNat k.bits=b.toNat:=by omega
   have es:Op.shift .shl k a k' b=pure (.int k (k.wrap (a*2 ^ b.toNat))):=by grind [Op.shift]
   simp_all[eqGuard,binOp]
  case shr=>
   obtain⟨r,⟨h0,W,rfl⟩,H⟩:=h;refine⟨_,w,?_,H⟩;have e:¬b<0:=by omega
   have e2:min b.toNat k.bits=b.toNat:=by omega
   have e3:a.fdiv (2 ^ b.toNat)=a/2 ^ b.toNat:=(by grind)
   have es:Op.shift .shr k a k' b=pure (.int k (a/2 ^ b.toNat)):=by grind [Op.shift]
   simp_all[eqGuard,binOp]
  all_goals(obtain rfl:=qaf1 (Z Js Js);rw[Z Js Js]at h;simp only[cond_true]at h)
  case add=>obtain⟨V,H⟩:=h;exact⟨_,w,by simp[eqGuard,binOp,Op.intArith,go_sem,V.wrap],H⟩
  case sub=>obtain⟨V,H⟩:=h;exact⟨_,w,by simp[eqGuard,binOp,Op.intArith,go_sem,V.wrap],H⟩
  case mul=>obtain⟨V,H⟩:=h;exact⟨_,w,by simp[eqGuard,binOp,Op.intArith,go_sem,V.wrap],H⟩
  case quo=>
   obtain⟨⟨h0,W,V⟩,H⟩:=h;refine⟨_,w,?_,H⟩;have e:b≠0:=by omega
   have e2:a.tdiv b=a/b:=(by grind)
   simp[eqGuard,binOp,Op.intDiv,go_sem,e,e2,V.wrap]
  case rem=>
   obtain⟨⟨h0,W⟩,H⟩:=h;refine⟨_,w,?_,H⟩;have e:b≠0:=by omega
   simp_all[Int.tmod_eq_emod_of_nonneg,eqGuard,binOp,Op.intDiv]
  case and=>obtain⟨r,rfl,H⟩:=h;grind [qcv]
  case or=>obtain⟨r,rfl,H⟩:=h;grind [qcv]
  case xor=>obtain⟨r,rfl,H⟩:=h;grind [qcv]
  case andNot=>obtain⟨r,rfl,H⟩:=h;grind [qcv]
  case eql=>
   refine⟨_,w,?_,h⟩;have e:(a==b)=decide (a=b):=rfl;simp[eqGuard,binOp,Op.intCmp,go_sem,e]
  case neq=>
   refine⟨_,w,?_,h⟩;have e:(a != b)=decide (a≠b):=by grind
   simp[eqGuard,binOp,Op.intCmp,go_sem,e]
  case lss=>exact⟨_,w,by simp[eqGuard,binOp,Op.intCmp],h⟩
  case leq=>exact⟨_,w,by simp[eqGuard,binOp,Op.intCmp],h⟩
  case gtr=>exact⟨_,w,by simp[eqGuard,binOp,Op.intCmp],h⟩
  case geq=>exact⟨_,w,by simp[eqGuard,binOp,Op.intCmp],h⟩
 ·rename_i a b
  cases U<;>simp only at h
  case add=>
   obtain⟨W,H⟩:=h;refine⟨_,w,?_,H⟩;simp[eqGuard,binOp,Op.stringOp,go_sem];omega
  case eql=>exact⟨_,w,by simp[eqGuard,binOp,Op.stringOp,qnl],h⟩
  case neq=>exact⟨_,w,by simp[eqGuard,binOp,Op.stringOp,qnl],h⟩
  case lss=>exact⟨_,w,by rfl,h⟩
  case leq=>exact⟨_,w,by simp[eqGuard,binOp,Op.stringOp,slt,qnl],h⟩
  case gtr=>exact⟨_,w,by simp[eqGuard,binOp,Op.stringOp,slt,qnl],h⟩
  case geq=>exact⟨_,w,by rfl,h⟩
 ·rename_i a b
  split at h
  ·rename_i hu
   exact⟨_,w,by simp[eqGuard,binOp,qgq hu,go_sem],h⟩
  ·rename_i hu
   exact⟨_,w,by simp[eqGuard,binOp,qgq hu,go_sem],h⟩
  ·exact h.elim
 ·cases ho:isEq U<;>rw[ho]at h<;>dsimp only[cond_true,cond_false]at h
  ·obtain⟨v,w',W,h2⟩:=h
   grind
  ·split at h
   ·rename_i b hb
    exact⟨_,w,qaes ho hb (by grind [qlv]) (by grind [qlv]) (by grind [qlv]),h⟩
   ·obtain⟨v,w',W,h2⟩:=h
    grind
def aggD:TypeDesc->Bool
 | .struct _ | .array _ _=>true
 | _=>false
def tsz(P:DC)(t:DD):Nat:=match P.info? t with|some i=>i.size|none=>0
def hasT(P:DC)(t:DD):Bool:=(P.info? t).isSome
def getL{α:Type}:List α->Nat->Option α
 | [],_=>none
 | v::_,0=>some v
 | _::l,i+1=>getL l i
theorem qa5{α:Type}(l:List α)(i:Nat):getL l i=l[i]?:=by
 induction l generalizing i with
 | nil=>rfl
 | cons v l H=>cases i<;>simp[getL,H]
structure IdxV(i:Int)(n:Nat)(K:Nat->Prop):Prop where
 h:∃j:Nat,i=(j:Int)/\j<n/\K j
def OpOk2(P:DC)(s:Sem Next)(w:DA)(K:DG):Prop:=
 (∃v w',s.run P w=.ok (.value v) w'/\K v w')\/(∃w',s.run P w=.ok .skip w'/\K undef w')
def OpOk(P:DC)(s:Sem Next)(w:DA)(K:DG):Prop:=
 OpOk2 P s w K\/(∃f args,s.run P w=.ok (.enter f args) w/\Calls P f args w λe w'=>∃v,e=.returned v/\K v w')
theorem OpOk2.val{s:Sem DF}(h:∃v w',s.run P w=.ok v w'/\K v w'):
  OpOk2 P (do pure (.value (<-s))) w K:=by
 obtain⟨v,w',H,U⟩:=h;exact .inl ⟨v,w',by simp[H],U⟩
theorem OpOk2.unit{s:Sem Unit}(h:∃w',s.run P w=.ok () w'/\K undef w'):
  OpOk2 P (do s;pure .skip) w K:=by
 obtain⟨w',H,U⟩:=h;exact .inr ⟨w',by simp[H],U⟩
theorem OpOk.wp{a:Act}{next:Act->DI}{Q:Exit->Act->DI}(V:a.eval=ev ρ)(h:OpOk P (execOp (ev ρ) o) w K)(W:∀v w',K v w'->next (a.put o.dst v) w'):o.wp P a w next Q:=by
 unfold Oper.wp;rw[V]
 rcases h with(⟨v,w',H,U⟩|⟨w',H,U⟩)|⟨f,args,H,U⟩
 ·rw[H];exact W _ _ U
 ·rw[H];exact W _ _ U
 ·rw[H,Oper.upon_enter];refine U.mono λe w' ⟨v,V,Z⟩=>?_
  simp_all
def qaef(c a b:DF)(K:DF->Prop):Prop:=
 match c with
 | .bool t=>Tst t (qiz a K) (qiz b K)
 | _=>False
def idxV(P:DC)(t:DD)(x i:DF)(K:DF->Prop):Prop:=
 match P.underlying t,x,i with
 | some .string,.string s,.int _ i=>IdxV i s.size λj=>K (.int .u8 (gb s j).toNat)
 | some (.array n e),.agg cs,.int _ i=>
  match P.underlying e with
  | some d=>bif hasT P e then bif aggD d then IdxV i n λj=>Wit (λl:DK=>(cs.toList.drop (j*tsz P e)).take (tsz P e)=l) λl=>K (.agg l.toArray)
   else IdxV i n λj=>Wit (λv:DF=>cs.toList[j*tsz P e]?=some v) K else False
  | none=>False
 | _,_,_=>False
def qpk(P:DC)(t:DD)(x i:DF)(K:DF->Prop):Prop:=
 match P.underlying t,x,i with
 | some (.slice e),.slice A H _,.int _ i=>bif hasT P e then ElemV A i H (tsz P e) K else False
 | some (.array n e),.pointer (some ⟨b,off,none⟩),.int _ i=>bif hasT P e then IdxV i n λj=>K (.pointer (some ⟨b,off+j*tsz P e,none⟩))else False
 | _,_,_=>False
def qz1(P:DC)(t:DD)(x:DF)(w:DA)(K:DF->Prop):Prop:=
 match P.underlying t,x with
 | some d,.pointer (some ⟨b,off,none⟩)=>
  bif aggD d then bif hasT P t then LoadA w b off (tsz P t) λcs=>qch cs λl=>K (.agg l.toArray)else False
  else LoadV w b off λv=>qiz v K
 | _,_=>False
def qy2(P:DC)(t:DD)(x v:DF)(w:DA)(s:Sem Next)(K:DG):Prop:=
 match x with
 | .pointer (some ⟨b,off,none⟩)=>
  match v with
  | .tuple _=>Fall P s w K
  | .agg cs=>bif hasT P t&&Nat.beq (tsz P t) cs.toList.length then StoreA P w b off cs.toList λw'=>K undef w' else False
  | v=>bif hasT P t&&Nat.beq (tsz P t) 1 then StoreV w b off v λw'=>K undef w' else False
 | _=>False
def qo9(x:DF)(H:Nat)(K:DF->Prop):Prop:=
 match x with
 | .tuple vs=>match getL vs.toList H with
  | some v=>qiz v K
  | none=>False
 | _=>False
def qiu(P:DC)(t:DD)(x:DF)(f:Nat)(K:DF->Prop):Prop:=
 match P.underlying t,x with
 | some (.struct H),.pointer (some ⟨b,off,none⟩)=>
  match getL H.toList f with
  | some f=>bif hasT P f.type && !Nat.beq (tsz P f.type) 0 then K (.pointer (some ⟨b,off+f.offset,none⟩))else False
  | none=>False
 | _,_=>False
def q23(P:DC)(t:DD)(x:DF)(f:Nat)(K:DF->Prop):Prop:=
 match P.underlying t,x with
 | some (.struct H),.agg cs=>
  match getL H.toList f with
  | some f=>match P.underlying f.type with
   | some d=>bif aggD d then bif hasT P f.type then qch ((cs.toList.drop f.offset).take (tsz P f.type)) λl=>K (.agg l.toArray)else False
    else match getL cs.toList f.offset with
     | some v=>qiz v K
     | none=>False
   | none=>False
  | none=>False
 | _,_=>False
def boxV(t:DD)(v:DF)(w:DA)(K:DG):Prop:=
 qch v.cells.toList λl=>NewV w (.cells l.toArray t) λb w'=>K (.pointer (some ⟨b,0,none⟩)) w'
def qwq(P:DC)(t:DD)(w:DA)(K:DG):Prop:=
 match P.info? t with
 | some i=>match i.zero with
  | some z=>boxV t z w K
  | none=>False
 | none=>False
def CellsAt(w:DA)(b off:Nat)(vs:DK):Prop:=∀k v,vs[k]?=some v->w.cell? ⟨b,off+k,none⟩=some v
def byteCells(l:List DE):DK:=l.map λc=>.int .u8 c.toNat
structure BytesS(w:DA)(A:Option Addr)(n:Nat)(K:DF->Prop):Prop where
 h:∃l:List DE,l.length=n/\(l≠[]->∃b off,A=some ⟨b,off,none⟩/\CellsAt w b off (byteCells l))/\K (.string ⟨l.toArray⟩)
structure NewBytesV(s:DB)(e:DD)(w:DA)(K:DG):Prop where
 h:∀cap cs b w',s.size<=cap->cs=(byteCells s.data.toList++List.replicate (cap-s.size) (Value.int .u8 0)).toArray->b=w.heap.size->
  w'=w.drew.alloc (.cells cs e (cs.size,cs.size+1))->K (.slice (some ⟨b,0,none⟩) s.size cap) w'
def qacv(P:DC)(H U:DD)(x:DF)(w:DA)(s:Sem Next)(K:DG):Prop:=
 match P.underlying H,P.underlying U,x with
 | some _,some (.int k),.int _ n=>Wit (λr=>k.wrap n=r) λr=>K (.int k r) w
 | some .string,some .string,.string s=>K (.string s) w
 | some (.int _),some .string,.int _ n=>K (.string (Utf8.encode n)) w
 | some (.slice e),some .string,.slice A n _=>match P.underlying e with
  | some (.int .u8)=>BytesS w A n λv=>K v w
  | _=>Fall P s w K
 | some .string,some (.slice e),.string x=>match P.underlying e with
  | some (.int .u8)=>NewBytesV x e w K
  | _=>Fall P s w K
 | _,_,_=>Fall P s w K
def unV(H:UnOp)(x:DF)(K:DF->Prop):Prop:=
 match H,x with
 | .not,.bool b=>K (.bool (!b))
 | .neg,.int k n=>Obl (InR k (-n)) (K (.int k (-n)))
 | .xor,.int k n=>Wit (λr=>qgu .xor k (if k.signed then -1 else k.max) n=r) (λr=>K (.int k r))
 | _,_=>False
def bnd(o:Option DF)(d n:Nat):Prop:=
 match o with
 | none=>n=d
 | some (.int _ i)=>i=(n:Int)
 | _=>False
structure SliceS(s:DB)(lo hi:Option DF)(K:DF->Prop):Prop where
 h:∃l h:Nat,bnd lo 0 l/\bnd hi s.size h/\l<=h/\h<=s.size/\K (.string (s.extract l h))
structure SliceV(size:Nat)(A:Option Addr)(len cap:Nat)(lo hi mx:Option DF)(K:DF->Prop):Prop where
 h:∃l h m:Nat,bnd lo 0 l/\bnd hi len h/\bnd mx cap m/\l<=h/\h<=m/\m<=cap/\(mx.isSome=true->hi.isSome=true)/\
  ∀A',A'=(if m=l then A else A.map (·.add (l*size)))->K (.slice A' (h-l) (m-l))
def evo(ρ:DH):Option Operand->Option DF
 | none=>none
 | some x=>some (ev ρ x)
def q58(P:DC)(t:DD)(x:DF)(lo hi mx:Option DF)(w:DA)(s:Sem Next)(K:DG):Prop:=
 match P.underlying t,x with
 | some .string,.string s=>match mx with
  | none=>SliceS s lo hi λv=>K v w
  | some _=>False
 | some (.slice e),.slice A H U=>bif hasT P e then SliceV (tsz P e) A H U lo hi mx λv=>K v w else False
 | _,_=>Fall P s w K
def lenV(P:DC)(t:Option DD)(x:DK)(w:DA)(s:Sem Next)(K:DG):Prop:=
 match t,x with
 | some t,v::_=>match P.underlying t,v with
  | some .string,.string s=>K (.int .i64 s.size) w
  | some (.slice _),.slice _ n _=>K (.int .i64 n) w
  | _,_=>Fall P s w K
 | _,_=>Fall P s w K
structure CallV(P:DC)(f:FuncId)(args:DK)(w:DA)(K:DG):Prop where
 h:Gv P f args w K\/∃v w',(callFunc f args.toArray).run P w=.ok (.value v) w'/\K v w'
def appV(P:DC)(H:Array DD)(ty:DD)(vs:DK)(w:DA)(s:Sem Next)(K:DG):Prop:=
 match vs with
 | [a,b]=>qiz a λa=>qiz b λb=>AppV P H ty a b w λv w'=>qiz v λv=>K v w'
 | _=>Fall P s w K
structure InvV(P:DC)(t:DD)(v:DF)(name:String)(vs:DK)(w:DA)(K:DG):Prop where
 h:∃f r,(method (P.types.size+Made.depth) t v name).run P w=.ok (f,r) w/\CallV P f (r::vs) w K
def q19(P:DC)(c:Call)(ty:DD)(ρ:DH)(w:DA)(s:Sem Next)(K:DG):Prop:=
 match c.callee with
 | .value f=>match ev ρ f with
  | .func (.func g) first H=>qch (evs ρ c.args.toList) λvs=>
   match first.toList,H.toList with
   | [],[]=>CallV P g vs w K
   | x,y=>CallV P g (x++(vs++y)) w K
  | _=>Fall P s w K
 | .builtin .len=>lenV P (getL c.argTypes.toList 0) (evs ρ c.args.toList) w s K
 | .builtin .append=>appV P c.argTypes ty (evs ρ c.args.toList) w s K
 | .invoke U name=>match ev ρ U with
  | .iface t v=>qch (evs ρ c.args.toList) λvs=>InvV P t v name vs w K
  | _=>Fall P s w K
 | _=>Fall P s w K
def csz:DF->Nat
 | .agg cs=>cs.size
 | _=>1
def qth:DK->Nat->DK->DK
 | l,_,[]=>l
 | l,off,v::vs=>qth (setL l off v) (off+1) vs
def qru(U:Nat->Option (Nat×Nat))(H:DK):List (Nat×DF)->Option DK
 | []=>some H
 | (i,v)::V=>
  match U i with
  | none=>none
  | some (off,size)=>bif Nat.beq (csz v) size&&Nat.ble (off+csz v) H.length then qru U (qth H off v.cells.toList) V else none
def evp(ρ:DH):List (Nat×Operand)->List (Nat×DF)
 | []=>[]
 | (i,x)::l=>(i,ev ρ x)::evp ρ l
def qgm(P:DC):List Field->List (Nat×Nat)
 | []=>[]
 | f::l=>(f.offset,tsz P f.type)::qgm P l
def allT(P:DC):List Field->Bool
 | []=>true
 | f::l=>hasT P f.type&&allT P l
def qnq(P:DC)(t:DD)(H:List (Nat×DF))(K:DF->Prop):Prop:=
 match P.info? t with
 | some i=>match i.zero with
  | some z=>match P.underlying t with
   | some (.struct U)=>bif allT P U.toList then
     match qru (λk=>getL (qgm P U.toList) k) z.cells.toList H with
     | some l=>qch l λl=>K (.agg l.toArray)
     | none=>False
    else False
   | some (.array _ e)=>bif hasT P e then
     match qru (λk=>some (k*tsz P e,tsz P e)) z.cells.toList H with
     | some l=>qch l λl=>K (.agg l.toArray)
     | none=>False
    else False
   | _=>False
  | none=>False
 | none=>False
def qcp(z:DK):Nat->DK
 | 0=>[]
 | n+1=>z++qcp z n
def qgw(P:DC)(t:DD)(H:Nat)(U:List (Nat×DF))(w:DA)(K:DG):Prop:=
 match P.underlying t with
 | some (.slice e)=>match P.info? e with
  | some i=>match i.zero with
   | some z=>bif Nat.beq z.cells.toList.length i.size&&Nat.ble (H*i.size) 16777216 && !Nat.beq i.size 0 then
     match qru (λk=>some (k*i.size,i.size)) (qcp z.cells.toList H) U with
     | some l=>qch l λl=>NewV w (.cells l.toArray e) λb w'=>K (.slice (some ⟨b,0,none⟩) H H) w'
     | none=>False
    else False
   | none=>False
  | none=>False
 | _=>False
structure MakeV(z:DK)(bytes e:Nat)(len cap:Int)(w:DA)(K:DG):Prop where
 h:∃l c:Nat,len=(l:Int)/\cap=(c:Int)/\l<=c/\c*bytes<=140737488355328/\c<9223372036854775808/\
  ∀b w',b=w.heap.size->w'=w.alloc (.cells (qcp z c).toArray e)->K (.slice (some ⟨b,0,none⟩) l c) w'
def qi6(P:DC)(t:DD)(H U:DF)(w:DA)(K:DG):Prop:=
 match P.underlying t,H,U with
 | some (.slice e),.int _ H,.int _ U=>match P.info? e with
  | some i=>match i.zero with
   | some z=>bif Nat.beq z.cells.toList.length i.size && !Nat.beq i.size 0 then MakeV z.cells.toList i.bytes e H U w K else False
   | none=>False
  | none=>False
 | _,_,_=>False
def qi5(P:DC)(t:DD)(x:DF)(K:DF->Prop):Prop:=
 match P.underlying t with
 | some (.interface _)=>False
 | some _=>K (.iface t x)
 | none=>False
def nilV(P:DC)(x:DF)(w:DA)(s:Sem Next)(K:DG):Prop:=
 match x with
 | .pointer (some a)=>K (.pointer (some a)) w
 | _=>Fall P s w K
def setO(w:DA)(r:Nat)(o:Obj):DA:={ w with heap:=w.heap.setIfInBounds r o }
def q5l(P:DC)(t:DD)(x:DF)(w:DA)(s:Sem Next)(K:DG):Prop:=
 match P.underlying t,x with
 | some .string,.string s=>NewV w (.stringIter s 0) λb w'=>K (.pointer (some ⟨b,0,none⟩)) w'
 | _,_=>Fall P s w K
structure NextS(w:DA)(r:Nat)(K:DG):Prop where
 h:∃s pos,w.heap[r]?=some (.stringIter s pos)/\
  (pos<s.size->∀w',w'=setO w r (.stringIter s (pos+(Utf8.decode s pos).2))->K (.tuple #[.bool true,.int .i64 pos,.int .i32 (Utf8.decode s pos).1]) w')/\
  (¬pos<s.size->K (.tuple #[.bool false]) w)
def qadt(P:DC)(x:DF)(H:Bool)(w:DA)(s:Sem Next)(K:DG):Prop:=
 match H,x with
 | true,.pointer (some ⟨r,0,none⟩)=>NextS w r K
 | _,_=>Fall P s w K
def opV(P:DC)(o:Oper)(ρ:DH)(w:DA)(K:DG):Prop:=
 match o.op with
 | .move x | .assign x=>qiz (ev ρ x) λv=>K v w
 | .pick c a b=>qaef (ev ρ c) (ev ρ a) (ev ρ b) λv=>K v w
 | .binOp V t x y _=>binV P V t x y (ev ρ x) (ev ρ y) w (λv=>K v w) K
 | .unOp V _ x=>unV V (ev ρ x) λv=>K v w
 | .convert W Z x=>qacv P W Z (ev ρ x) w (execOp (ev ρ) o) K
 | .index t x i=>idxV P t (ev ρ x) (ev ρ i) λv=>K v w
 | .indexAddr t x i=>qpk P t (ev ρ x) (ev ρ i) λv=>K v w
 | .load t x=>qz1 P t (ev ρ x) w λv=>K v w
 | .store t x v=>qy2 P t (ev ρ x) (ev ρ v) w (execOp (ev ρ) o) K
 | .extract x ix=>qo9 (ev ρ x) ix λv=>K v w
 | .fieldAddr t x f=>qiu P t (ev ρ x) f λv=>K v w
 | .field t x f=>q23 P t (ev ρ x) f λv=>K v w
 | .box t x=>boxV t (ev ρ x) w K
 | .alloc t=>qwq P t w K
 | .slice t x lo hi mx=>q58 P t (ev ρ x) (evo ρ lo) (evo ρ hi) (evo ρ mx) w (execOp (ev ρ) o) K
 | .nilCheck x=>nilV P (ev ρ x) w (execOp (ev ρ) o) K
 | .call c=>q19 P c o.type ρ w (execOp (ev ρ) o) K
 | .build t H=>qnq P t (evp ρ H.toList) λv=>K v w
 | .buildSlice t aa H=>qgw P t aa (evp ρ H.toList) w K
 | .makeSlice t l c=>qi6 P t (ev ρ l) (ev ρ c) w K
 | .makeFunc fn first U=>qch (evs ρ first.toList) λa=>qch (evs ρ U.toList) λb=>K (.func fn a.toArray b.toArray) w
 | .makeInterface t x=>qi5 P t (ev ρ x) λv=>K v w
 | .range t x=>q5l P t (ev ρ x) w (execOp (ev ρ) o) K
 | .next it b=>qadt P (ev ρ it) b w (execOp (ev ρ) o) K
 | _=>Fall P (execOp (ev ρ) o) w K
section
variable {P:DC} {w:DA}
theorem Fall.ok{s:Sem Next}(h:Fall P s w K):OpOk2 P s w K:=by
 rcases h.h with h|h
 ·exact .inl h
 ·exact .inr h
theorem qagx{v:DF}(h:K v w):OpOk2 P (pure (.value v)) w K:=.inl ⟨v,w,rfl,h⟩
theorem valV{s:Sem DF}{v:DF}(H:s.run P w=.ok v w)(h:K v w):OpOk2 P (do pure (.value (<-s))) w K:=
 OpOk2.val (by grind)
theorem q8w{t:DD}(h:hasT P t=true):∃i,P.info? t=some i/\tsz P t=i.size:=by
 unfold hasT at h;unfold tsz;cases e:P.info? t<;>grind
theorem qae{t:DD}(h:hasT P t=true):(sizeOf t).run P w=.ok (tsz P t) w:=by
 obtain⟨i,H,U⟩:=q8w h;simp[sizeOf,typeInfo,H,U]
theorem qef{t:DD}{d:TypeDesc}(h:P.underlying t=some d):(isAgg t).run P w=.ok (aggD d) w:=by
 cases d<;>simp[isAgg,run_underlying h,aggD]
theorem qjx{t:DD}{d:TypeDesc}(h:P.underlying t=some d)(H:aggD d=true)(hi:hasT P t=true)(cs:DN)(off:Nat):
  (part t cs off).run P w=.ok (.agg ((cs.toList.drop off).take (tsz P t)).toArray) w:=by
 simp[part,qef h,H,qae hi]
 grind
theorem qh5{t:DD}{d:TypeDesc}(h:P.underlying t=some d)(H:aggD d=false)(cs:DN)(off:Nat){v:DF}(U:cs.toList[off]?=some v):
  (part t cs off).run P w=.ok v w:=by
 simp_all[part,qef]
theorem q9j{c a b:Operand}(h:qaef (ev ρ c) (ev ρ a) (ev ρ b) (λv=>K v w)):
  OpOk2 P (do pure (.value (if <-asBool (ev ρ c)then ev ρ a else ev ρ b))) w K:=by
 unfold qaef at h
 split at h
 ·rename_i t e
  rw[e];cases t
  ·have:=h.f rfl;rw[qbl]at this;exact .inl ⟨_,w,by rfl,this⟩
  ·have:=h.t rfl;rw[qbl]at this;exact .inl ⟨_,w,by rfl,this⟩
 ·exact h.elim
theorem qaf3(s:DB)(j:Nat)(h:j<s.size):s[j]?=some (gb s j):=by
 unfold gb;have H:j<s.data.toList.length:=by simpa using h
 rw[Ag,CQ H,BL];exact getElem?_pos s j h
theorem qadb{t:DD}{i:DF}(h:idxV P t x i (λv=>K v w)):
  OpOk2 P (do pure (.value (<-Instr.index t x i))) w K:=by
 unfold idxV at h
 split at h
 ·rename_i V
  obtain⟨j,rfl,U,H⟩:=h;refine valV ?_ H;simp[Instr.index,asIntOf,run_underlying V,qaf3 _ _ U]
 ·rename_i V
  split at h
  ·rename_i d hd
   cases W:hasT P _<;>rw[W]at h
   ·exact h.elim
   ·cases Z:aggD d<;>rw[Z]at h
    ·obtain⟨j,rfl,U,v,hv,H⟩:=h;refine valV ?_ H
     simp_all[Instr.index,asIntOf,run_underlying,qae,qh5]
    ·obtain⟨j,rfl,U,l,hl,H⟩:=h;subst hl;refine valV ?_ H
     simp_all[Instr.index,asIntOf,run_underlying,qae,qjx]
  ·exact h.elim
 ·exact h.elim
theorem qaq(b off n:Nat):(⟨b,off,none⟩:Addr).add n=⟨b,off+n,none⟩:=by
 grind [Addr.add]
theorem qul{t:DD}{i:DF}(h:qpk P t x i (λv=>K v w)):
  OpOk2 P (do pure (.value (<-Instr.indexAt t x i))) w K:=by
 unfold qpk at h
 split at h
 ·rename_i U
  cases H:hasT P _<;>rw[H]at h
  ·exact h.elim
  ·obtain⟨b,off,j,rfl,rfl,V,W⟩:=h;refine valV ?_ W;simp[Instr.indexAt,asIntOf,run_underlying U,V,qae H,qaq]
 ·rename_i U
  cases H:hasT P _<;>rw[H]at h
  ·exact h.elim
  ·obtain⟨j,rfl,V,W⟩:=h;refine valV ?_ W;simp[Instr.indexAt,asIntOf,run_underlying U,V,qae H,qaq,Instr.sureAddr]
 ·exact h.elim
theorem q83{t:DD}(h:qz1 P t x w (λv=>K v w)):
  OpOk2 P (do pure (.value (<-Instr.loadAt t x))) w K:=by
 unfold qz1 at h
 split at h
 ·rename_i d b off hu
  cases V:aggD d<;>rw[V]at h
  ·obtain⟨v,U,H⟩:=h;rw[qbl]at H;refine valV ?_ H
   simp_all[Instr.loadAt,Instr.sureAddr,loadVar,qef]
  ·cases W:hasT P t<;>rw[W]at h
   ·exact h.elim
   ·obtain⟨cs,hl,Z,H⟩:=h;rw[qan]at H;refine valV ?_ H;have:=run_loadCells_list (P:=P) w ⟨b,off,none⟩ cs (λj v U=>by
     have hj:j<cs.length:=by
      rcases AN j cs.length with h|h
      ·exact h
      ·rw[AY h]at U;cases U
     rw[qaq,Z j Oo];exact U)
    simp_all[Instr.loadAt,Instr.sureAddr,loadVar,qef,qae]
 ·exact h.elim
theorem q6i{t:DD}{v:DF}{s:Sem Next}(Z:s=(do Instr.storeAt t x v;pure .skip))(h:qy2 P t x v w s K):
  OpOk2 P s w K:=by
 unfold qy2 at h
 split at h
 ·rename_i b off
  split at h
  ·exact h.ok
  ·rename_i cs
   cases U:hasT P t<;>rw[U]at h
   ·exact h.elim
   ·cases H:Nat.beq (tsz P t) cs.toList.length<;>rw[H]at h
    ·exact h.elim
    ·obtain⟨w',h1,V⟩:=h;subst Z;have W:tsz P t=cs.size:=by simp_all
     refine OpOk2.unit ⟨_,?_,V⟩;have hc:(Value.agg cs).cells=cs:=rfl
     simp_all[Instr.storeAt,Instr.sureAddr,storeVar,qae]
  ·rename_i aa ad
   cases U:hasT P t<;>rw[U]at h
   ·exact h.elim
   ·cases H:Nat.beq (tsz P t) 1<;>rw[H]at h
    ·exact h.elim
    ·obtain⟨⟨o,ho⟩,hf,h1,V⟩:=h;subst Z;have W:tsz P t=1:=AW H;refine OpOk2.unit ⟨_,?_,V⟩
     simp_all[Instr.storeAt,Instr.sureAddr,storeVar,Value.cells,qae,storeCells,store,Sem.run,Addr.add]
 ·exact h.elim
theorem qud{H:Nat}(h:qo9 x H (λv=>K v w)):
  OpOk2 P (do pure (.value (<-Instr.extract x H))) w K:=by
 unfold qo9 at h
 split at h
 ·rename_i vs
  split at h
  ·rename_i v V
   rw[qbl]at h;rw[qa5]at V;have U:vs[H]?=some v:=by simpa using V
   refine valV ?_ h;simp[Instr.extract,U]
  ·exact h.elim
 ·exact h.elim
theorem qpa{t:DD}{f:Nat}(h:qiu P t x f (λv=>K v w)):
  OpOk2 P (do pure (.value (<-Instr.fieldAt t x f))) w K:=by
 unfold qiu at h
 split at h
 ·rename_i W b off hu
  split at h
  ·rename_i U H
   rw[qa5]at H;have V:W[f]?=some U:=by simpa using H
   cases Z:hasT P U.type<;>rw[Z]at h
   ·exact h.elim
   ·cases hz:Nat.beq (tsz P U.type) 0<;>rw[hz]at h
    ·refine valV ?_ h;have aa:¬tsz P U.type=0:=λe=>by simp_all
     simp_all[Instr.fieldAt,run_underlying,Instr.sureAddr,fieldPlace,qae,qaq]
    ·exact h.elim
  ·exact h.elim
 ·exact h.elim
theorem q24{t:DD}{f:Nat}(h:q23 P t x f (λv=>K v w)):
  OpOk2 P (do pure (.value (<-Instr.field t x f))) w K:=by
 unfold q23 at h
 split at h
 ·rename_i W cs hu
  split at h
  ·rename_i U H
   rw[qa5]at H;have V:W[f]?=some U:=by simpa using H
   split at h
   ·rename_i d hd
    cases Z:aggD d<;>rw[Z]at h
    ·simp only[cond_false]at h
     split at h
     ·rename_i v hv
      rw[qbl]at h;rw[qa5]at hv;refine valV ?_ h
      simp_all[Instr.field,run_underlying,asAgg,qh5]
     ·exact h.elim
    ·cases hT:hasT P U.type<;>rw[hT]at h
     ·exact h.elim
     ·simp only[cond_true,qan]at h;refine valV ?_ h
      simp_all[Instr.field,run_underlying,asAgg,qjx]
   ·exact h.elim
  ·exact h.elim
 ·exact h.elim
theorem qw0{t:DD}{v:DF}(h:boxV t v w K):
  ∃a,(newVar t v).run P w=.ok a (w.alloc (.cells v.cells t))/\K (.pointer (some a)) (w.alloc (.cells v.cells t)):=by
 unfold boxV at h;rw[qan]at h;refine⟨⟨w.heap.size,0,none⟩,by rfl,?_⟩;have:=h.h w.heap.size (w.alloc (.cells v.cells t)) rfl Js;exact this
theorem qach{t:DD}{v:DF}(h:boxV t v w K):OpOk2 P (do pure (.value (<-Instr.box t v))) w K:=by
 obtain⟨a,H,U⟩:=qw0 (P:=P) h;exact OpOk2.val ⟨_,_,by simp[Instr.box,H],U⟩
theorem q1w{t:DD}(h:qwq P t w K):OpOk2 P (do pure (.value (<-Instr.alloc t true (.tuple #[])))) w K:=by
 unfold qwq at h
 split at h
 ·rename_i i hi
  split at h
  ·rename_i z U
   obtain⟨a,V,H⟩:=qw0 (P:=P) h;exact OpOk2.val ⟨_,_,by simp_all[Instr.alloc,zeroValue,typeInfo],H⟩
  ·exact h.elim
 ·exact h.elim
theorem q56(w:DA)(cs:DN)(e:DD)(n:Nat)(H:n=w.heap.size):(w.alloc (.cells cs e)).shape? n=some (e,cs.size):=by
 grind [World.shape?,heap_alloc_new]
theorem qzv(w:DA)(cs:DN)(e:DD)(n:Nat)(H:n=w.heap.size):(w.alloc (.cells cs e)).freeze ⟨n,cs.size,none⟩ 1=w.alloc (.cells cs e (cs.size,cs.size+1)):=by
 subst H;unfold World.freeze World.alloc;rw[Aa Od];simp only
 congr 1
 grind
theorem q78{H U:DD}{s:Sem Next}(hs:s=(do pure (.value (<-convert H U x))))(h:qacv P H U x w s K):
  OpOk2 P s w K:=by
 unfold qacv at h
 split at h
 ·rename_i d k n W Z
  obtain⟨r,rfl,hk⟩:=h;subst hs;refine valV ?_ hk
  simp_all[convert,run_underlying,Conv.intToInt]
 ·rename_i sx W Z
  subst hs;refine valV ?_ h
  simp_all[convert,run_underlying]
 ·rename_i W Z
  subst hs;refine valV ?_ h
  simp_all[convert,run_underlying,Conv.intToString]
 ·rename_i e A n c W Z
  split at h
  ·rename_i he
   subst hs;obtain⟨l,hl,hA,hk⟩:=h;refine valV ?_ hk;cases A with
   | none=>
    have af:l=[]:=by
     simp_all
    subst af;exact run_convert_bytes_nil w H e W he _ _ U Z
   | some a=>
    rw[run_convert_bytes_string w H U e _ _ _ W he Z];have hc:(loadCells a n).run P w=.ok ((l.map λc=>(c.toNat:Int)).map (Value.int .u8)).toArray w:=by
     have:=run_loadCells_list (P:=P) w a (byteCells l) (λj v hv=>by
      obtain⟨b,off,h0,h3⟩:=hA (by grind [byteCells]);cases h0;rw[qaq];exact h3 j v hv)
     simp_all[byteCells]
    rw[run_bytesToString w a n c _ hc,foldl_push_bytes]
    congr 3
    simp[ByteArray.empty,ByteArray.emptyWithCapacity];show([]:List DE)++_=l;rw[Bi];have:∀l:List DE,l.map ((λn:Int=>UInt8.ofNat n.toNat) ∘ λc:DE=>(c.toNat:Int))=l:=by
     intro l;induction l with
     | nil=>rfl
     | cons x r ih=>simp[ih]
    exact this l
  ·exact h.ok
 ·rename_i e x W Z
  split at h
  ·rename_i he
   subst hs;have aa:∀t,x.size<=Question.cut (.appendCap x.size 0 e) t:=λt=>by simp[Question.cut]
   have hk:=h.h (Question.cut (.appendCap x.size 0 e) (w.tape w.drawn (.appendCap x.size 0 e))) _ w.heap.size _ (aa _) rfl rfl rfl;refine OpOk2.val ⟨_,_,?_,hk⟩;generalize ad:Question.cut (.appendCap x.size 0 e) (w.tape w.drawn (.appendCap x.size 0 e))=ae;have V:(x.data.map (λb=>Value.int .u8 b.toNat)++Array.replicate (ae-x.size) (Value.int .u8 0))=(byteCells x.data.toList++List.replicate (ae-x.size) (Value.int .u8 0)).toArray:=by
    grind [byteCells]
   simp only[convert];simp[run_underlying W,run_underlying Z,run_underlying he,Conv.stringToBytes,choose,Sem.run,Question.forced,ad,V,newRow,newObj,markStringish,shape,freeze];rw[q56 w.drew _ _ w.heap.size rfl];simp only[Sem.run,Result.andThen];rw[qzv w.drew _ _ w.heap.size rfl];simp
  ·exact h.ok
 ·exact h.ok
theorem qahg{U:UnOp}(h:unV U x (λv=>K v w)):OpOk2 P (do pure (.value (<-Op.unary U x))) w K:=by
 unfold unV at h
 split at h
 ·exact valV (by rfl) h
 ·obtain⟨V,H⟩:=h;refine valV ?_ H;simp[Op.unary,Op.intArith,V.wrap]
 ·obtain⟨r,rfl,H⟩:=h;refine valV ?_ H;rfl
 ·exact h.elim
theorem qcu{o:DF}{n y:Nat}{c:BoundsCode}(h:bnd (some o) d n)(H:n<=y):(Instr.sliceBound o y c).run P w=.ok n w:=by
 unfold bnd at h
 split at h
 all_goals simp_all[Instr.sliceBound,asIntOf]
theorem q59{t:DD}{lo hi:Option DF}{s:Sem Next}(hs:s=(do pure (.value (<-Instr.sliceAt t x lo hi mx))))(h:q58 P t x lo hi mx w s K):OpOk2 P s w K:=by
 unfold q58 at h
 split at h
 ·rename_i sx H
  subst hs
  split at h
  ·obtain⟨l,hh,U,V,Z,h4,hk⟩:=h;refine valV ?_ hk;cases lo with
   | none=>
    cases hi with
    | none=>
     cases U;cases V;simp[Instr.sliceAt,Instr.slice,Instr.sliceBounds,run_underlying H]
    | some b=>
     cases U;simp[Instr.sliceAt,Instr.slice,Instr.sliceBounds,run_underlying H,qcu V h4]
   | some a=>
    cases hi with
    | none=>
     cases V;simp[Instr.sliceAt,Instr.slice,Instr.sliceBounds,run_underlying H,qcu U Z]
    | some b=>simp[Instr.sliceAt,Instr.slice,Instr.sliceBounds,run_underlying H,qcu U Z,qcu V h4]
  ·exact h.elim
 ·rename_i e A aa ad H
  subst hs;cases W:hasT P e<;>rw[W]at h
  ·exact h.elim
  ·obtain⟨l,hh,m,U,V,Z,h4,h5,h6,h7,hk⟩:=h;have hk:=hk _ rfl;refine valV ?_ hk;cases mx with
   | none=>
    cases Z;cases lo with
    | none=>
     cases hi with
     | none=>
      cases U;cases V;simp[Instr.sliceAt,Instr.slice,Instr.sliceBounds,run_underlying H,qae W]
     | some b=>
      cases U;simp[Instr.sliceAt,Instr.slice,Instr.sliceBounds,run_underlying H,qae W,qcu V h5]
    | some a=>
     cases hi with
     | none=>
      cases V;simp[Instr.sliceAt,Instr.slice,Instr.sliceBounds,run_underlying H,qae W,qcu U h4]
     | some b=>simp[Instr.sliceAt,Instr.slice,Instr.sliceBounds,run_underlying H,qae W,qcu U h4,qcu V h5]
   | some c=>
    cases hi with
    | none=>simp_all
    | some b=>
     cases lo with
     | none=>
      cases U;simp[Instr.sliceAt,Instr.slice,Instr.sliceBounds,run_underlying H,qae W,qcu V h5,qcu Z h6]
     | some a=>simp[Instr.sliceAt,Instr.slice,Instr.sliceBounds,run_underlying H,qae W,qcu U h4,qcu V h5,qcu Z h6]
 ·exact h.ok
theorem qadv{x:Operand}(H:o.op=.nilCheck x)(h:nilV P (ev ρ x) w (execOp (ev ρ) o) K):
  OpOk2 P (execOp (ev ρ) o) w K:=by
 unfold nilV at h
 split at h
 ·rename_i a e
  refine .inl ⟨_,w,?_,h⟩;simp[execOp,H,e]
 ·exact h.ok
theorem qc6(h:qdk P f=true)(args:DN):(callFunc f args).run P w=.ok (.enter f args) w:=by
 unfold qdk at h;cases e:P.funcs[f]? with
 | none=>simp_all
 | some U=>
  rw[e]at h;simp only[AF,Co]at h;have V:¬U.name = "runtime.NumGoroutine":=by simpa using h.1
  have W:¬U.body=none:=by
   grind
  simp_all[callFunc]
theorem CallV.ok(h:CallV P f vs w K):OpOk P (callFunc f vs.toArray) w K:=by
 rcases h.h with⟨H,U⟩|⟨v,w',H,U⟩
 ·exact .inr ⟨f,vs.toArray,qc6 H _,U⟩
 ·exact .inl (.inl ⟨v,w',H,U⟩)
theorem q4l{c:Call}(ho:o.op=.call c)(hc:c.callee=.builtin .len)(h:lenV P (getL c.argTypes.toList 0) (evs ρ c.args.toList) w (execOp (ev ρ) o) K):OpOk2 P (execOp (ev ρ) o) w K:=by
 unfold lenV at h
 split at h
 ·rename_i t v vs W hv
  rw[qa5]at W;have H:c.argTypes[0]?=some t:=by simpa using W
  rw[qea]at hv;have U:(c.args.map (ev ρ))[0]?=some v:=by
   grind [List.getElem?_cons_zero]
  have Z:execOp (ev ρ) o=(do pure (.value (<-Builtin.len_ c.argTypes o.type (c.args.map (ev ρ))))):=by
   simp only[execOp,ho,resolve,hc];rfl
  split at h
  ·rename_i s V
   rw[Z];exact valV (by simp only[Builtin.len_,H,U];simp[run_underlying V,goInt]) h
  ·rename_i V
   rw[Z];exact valV (by simp only[Builtin.len_,H,U];simp[run_underlying V,goInt]) h
  ·exact h.ok
 ·exact h.ok
theorem qacd{c:Call}(H:o.op=.call c)(U:c.callee=.builtin .append)(h:appV P c.argTypes o.type (evs ρ c.args.toList) w (execOp (ev ρ) o) K):OpOk2 P (execOp (ev ρ) o) w K:=by
 unfold appV at h
 split at h
 ·rename_i a b Z
  rw[qbl,qbl]at h;obtain⟨v,w',h1,V⟩:=h;rw[qbl]at V;have he:execOp (ev ρ) o=(do pure (.value (<-Builtin.append_ c.argTypes o.type (c.args.map (ev ρ))))):=by
   simp only[execOp,H,resolve,U];rfl
  have W:c.args.map (ev ρ)=#[a,b]:=by
   grind [qea]
  grind [OpOk2.val]
 ·exact h.ok
theorem OpOk.congr{s s':Sem Next}(H:s.run P w=s'.run P w)(h:OpOk P s' w K):OpOk P s w K:=by
 grind [OpOk,OpOk2]
theorem qw3{c:Call}(W:o.op=.call c)(h:q19 P c o.type ρ w (execOp (ev ρ) o) K):
  OpOk P (execOp (ev ρ) o) w K:=by
 unfold q19 at h
 split at h
 ·rename_i f V
  split at h
  ·rename_i g first H hf
   rw[qan,qea]at h;have he:execOp (ev ρ) o=callFunc g (first++c.args.map (ev ρ)++H):=by
    simp only[execOp,W,resolve,V,hf];rfl
   rw[he];have Z:CallV P g (first.toList++(c.args.toList.map (ev ρ)++H.toList)) w K:=by
    split at h
    ·rename_i h1 h2;rw[h1,h2];simpa using h
    ·exact h
   have e2:(first.toList++(c.args.toList.map (ev ρ)++H.toList)).toArray=first++c.args.map (ev ρ)++H:=by
    simp
   rw[<-e2];exact Z.ok
  ·exact .inl h.ok
 ·rename_i V;exact .inl (q4l W V h)
 ·rename_i V;exact .inl (qacd W V h)
 ·rename_i U name V
  split at h
  ·rename_i t v hr
   rw[qan,qea]at h;obtain⟨f,r,hm,hk⟩:=h.h;have e1:execOp (ev ρ) o=invoke (.fn (.method name) #[]) (#[ev ρ U]++c.args.map (ev ρ)):=by
    grind [execOp,resolve]
   have e2:invoke (.fn (.method name) #[]) (#[ev ρ U]++c.args.map (ev ρ))=callMethod (ev ρ U) name (c.args.map (ev ρ)):=by
    have h0:(#[ev ρ U]++c.args.map (ev ρ))[0]?=some (ev ρ U):=by grind
    have h1:(#[ev ρ U]++c.args.map (ev ρ)).extract 1 (#[ev ρ U]++c.args.map (ev ρ)).size=c.args.map (ev ρ):=by
     simp
    grind [invoke]
   have e3:(callMethod (.iface t v) name (c.args.map (ev ρ))).run P w=(callFunc f (#[r]++c.args.map (ev ρ))).run P w:=by
    simp_all[callMethod]
   have e4:(r::c.args.toList.map (ev ρ)).toArray=#[r]++c.args.map (ev ρ):=by
    simp
   refine OpOk.congr (s':=callFunc f (r::c.args.toList.map (ev ρ)).toArray) ?_ hk.ok
   grind
  ·exact .inl h.ok
 ·exact .inl h.ok
theorem qaf0(v:DF):csz v=v.cells.size:=by cases v<;>rfl
theorem q54(vs:DK):∀(H:DN) (off k:Nat),
  (vs.zipIdx k).foldl (λcs (x:DF×Nat)=>cs.setIfInBounds (off+x.2) x.1) H=(qth H.toList (off+k) vs).toArray:=by
 induction vs with
 | nil=>simp[qth]
 | cons v vs U=>
  simp_all[qth,qaez,Cb]
theorem quf(V:Nat->Option (Nat×Nat))(U:List (Nat×DF)):∀(H:DK) (l:DK),qru V H U=some l->
  Instr.fill V H.toArray U=some l.toArray:=by
 induction U with
 | nil=>intro H l h;cases h;rfl
 | cons x U ih=>
  obtain⟨i,v⟩:=x;intro H l h;simp only[qru]at h;unfold Instr.fill;cases e:V i with
  | none=>simp_all
  | some Z=>
   obtain⟨off,size⟩:=Z;rw[e]at h;simp only at h|-;cases W:(Nat.beq (csz v) size&&Nat.ble (off+csz v) H.length)<;>rw[W]at h
   ·cases h
   ·simp only[cond_true]at h;simp only[AF,Nat.ble_eq]at W;rw[qaf0]at W;replace W:=And.intro (AW W.1) W.2;have hc:¬(v.cells.size≠size||off+v.cells.size > H.toArray.size)=true:=by
     grind
    rw[Aa hc];have:=q54 v.cells.toList H.toArray off 0
    grind [Array.toList_zipIdx]
theorem q06{H:Array Field}(h:allT P H.toList=true):
  (H.mapM λf=>Prod.mk f.offset <$> sizeOf f.type:Sem (Array (Nat×Nat))).run P w=.ok (qgm P H.toList).toArray w:=by
 obtain⟨l⟩:=H;rw[CN];have:∀l:List Field,allT P l=true->(l.mapM λf=>(Prod.mk f.offset <$> sizeOf f.type:Sem (Nat×Nat))).run P w=.ok (qgm P l) w:=by
  intro l
  induction l with
  | nil=>simp[qgm]
  | cons f l U=>
   simp_all[allT,qae,qgm]
 simp[this l h]
theorem q16{t:DD}{H:Array (Nat×DF)}(h:qnq P t H.toList (λv=>K v w)):
  OpOk2 P (do pure (.value (<-Instr.build t H))) w K:=by
 unfold qnq at h
 split at h
 ·rename_i i hi
  split at h
  ·rename_i z W
   have Z:(zeroValue t).run P w=.ok z w:=by simp[zeroValue,typeInfo,hi,W]
   split at h
   ·rename_i fs hu
    cases U:allT P fs.toList<;>rw[U]at h
    ·exact h.elim
    ·simp only[cond_true]at h
     split at h
     ·rename_i l V
      rw[qan]at h;refine valV ?_ h;have hf:=quf _ _ _ _ V
      simp_all[q06,qa5,Instr.build,run_underlying]
     ·exact h.elim
   ·rename_i n e hu
    cases U:hasT P e<;>rw[U]at h
    ·exact h.elim
    ·simp only[cond_true]at h
     split at h
     ·rename_i l V
      rw[qan]at h;refine valV ?_ h;have hf:=quf _ _ _ _ V
      simp_all[Instr.build,run_underlying,qae]
     ·exact h.elim
   ·exact h.elim
  ·exact h.elim
 ·exact h.elim
theorem qij(z:DK)(n:Nat):(qcp z n).length=n*z.length:=by
 induction n<;>grind [qcp]
theorem q1s(z:DK)(n:Nat):∀i,i<n*z.length->(qcp z n)[i]?=z[i%z.length]?:=by
 induction n<;>grind [qcp,Nat.mod_eq_of_lt,List.getElem?_append_right,Nat.mod_eq_sub_mod]
theorem qzd(z:DN)(_:0<z.size)(n:Nat):(Array.range (n*z.size)).map (z[· % z.size]!)=(qcp z.toList n).toArray:=by
 rw[<-Bh];apply Bj
 grind [qij,q1s]
theorem qm3{t:DD}{H:Nat}{U:Array (Nat×DF)}(h:qgw P t H U.toList w K):
  OpOk2 P (do pure (.value (<-Instr.buildSlice t H U))) w K:=by
 unfold qgw at h
 split at h
 ·rename_i e hu
  split at h
  ·rename_i i hi
   split at h
   ·rename_i z hz
    have aa:(zeroValue e).run P w=.ok z w:=by simp[zeroValue,typeInfo,hi,hz]
    have V:(sizeOf e).run P w=.ok i.size w:=by simp[sizeOf,typeInfo,hi]
    cases hb:(Nat.beq z.cells.toList.length i.size&&Nat.ble (H*i.size) 16777216 && !Nat.beq i.size 0)<;>rw[hb]at h
    ·exact h.elim
    ·simp only[cond_true]at h;simp only[AF,Nat.ble_eq,Co]at hb;obtain⟨⟨b1,b2⟩,b3⟩:=hb;have b1:=AW b1;have b3:0<i.size:=(by grind)
     have W:z.cells.size=i.size:=by omega
     split at h
     ·rename_i l hl
      rw[qan]at h;have h:=h.h w.heap.size _ rfl rfl;have hf:=quf _ _ _ _ hl;have Z:=qzd z.cells Oo H;rw[W]at Z;refine OpOk2.val ⟨_,_,?_,h⟩;have hn:¬H*i.size > 2 ^ 24:=by omega
      by_cases h0:H*i.size=0
      ·have ad:H=0:=by
        grind [Nat.mul_eq_zero]
       subst ad;have ae:Instr.fill (λaf=>some (af*i.size,i.size)) #[] U.toList=some l.toArray:=by grind
       simp[Instr.buildSlice,run_underlying hu,V,ae,newRow,newObj,Sem.run,show Array.range 0=#[]from rfl]
      ·rw[<-Z]at hf;have ag:¬16777216<H*i.size:=by omega
       simp only[Instr.buildSlice];simp[run_underlying hu,V,ag,h0,aa,W,hf,newRow,newObj,Sem.run]
     ·exact h.elim
   ·exact h.elim
  ·exact h.elim
 ·exact h.elim
theorem qpz{t:DD}{H U:DF}(h:qi6 P t H U w K):
  OpOk2 P (do pure (.value (<-Instr.makeSlice t H U))) w K:=by
 unfold qi6 at h
 split at h
 ·rename_i e k1 H k2 U hu
  split at h
  ·rename_i i hi
   split at h
   ·rename_i z hz
    have af:(zeroValue e).run P w=.ok z w:=by simp[zeroValue,typeInfo,hi,hz]
    have V:(sizeOf e).run P w=.ok i.size w:=by simp[sizeOf,typeInfo,hi]
    have W:(typeInfo e).run P w=.ok i w:=by simp[typeInfo,hi]
    cases Z:(Nat.beq z.cells.toList.length i.size && !Nat.beq i.size 0)<;>rw[Z]at h
    ·exact h.elim
    ·simp only[cond_true]at h;simp only[AF,Co]at Z;obtain⟨b1,b3⟩:=Z;have b1:=AW b1;have b3:0<i.size:=(by grind)
     have aa:z.cells.size=i.size:=by omega
     obtain⟨l,c,rfl,rfl,ag,ah,hc,hk⟩:=h;have hk:=hk _ _ rfl rfl;have ad:=qzd z.cells Oo c;rw[aa]at ad;have wl:IntKind.i64.wrap (l:Int)=l:=InR.wrap (k:=.i64) ⟨by omega,by omega⟩;have wc:IntKind.i64.wrap (c:Int)=c:=InR.wrap (k:=.i64) ⟨by omega,by omega⟩;have ae:¬(281474976710656:Int)<(i.bytes:Int)*(c:Int):=by
      grind
     refine OpOk2.val ⟨_,_,?_,hk⟩;simp only[Instr.makeSlice,asInt,asIntOf];have n1:¬((c:Int)<0):=by omega
     have n2:¬((l:Int)<0):=by omega
     have n3:¬c<l:=by omega
     simp[run_underlying hu,W,wl,wc,ae,n1,n2,n3,askRoom,roomBytes,V,newRow,newObj,Sem.run]
     split
     ·grind
     simp_all
   ·exact h.elim
  ·exact h.elim
 ·exact h.elim
theorem qpy{t:DD}(h:qi5 P t x (λv=>K v w)):OpOk2 P (do pure (.value (<-Instr.makeInterface t x))) w K:=by
 unfold qi5 at h
 split at h
 ·exact h.elim
 ·rename_i d H U
  refine valV ?_ h
  simp_all[Instr.makeInterface,run_underlying]
 ·exact h.elim
theorem qaa2(ρ:DH)(l:List (Nat×Operand)):evp ρ l=l.map λx=>(x.1,ev ρ x.2):=by
 induction l<;>grind [evp]
theorem q5m{t:DD}{s:Sem Next}(H:s=(do pure (.value (<-Instr.range t x))))(h:q5l P t x w s K):OpOk2 P s w K:=by
 unfold q5l at h
 split at h
 ·rename_i U V
  subst H;refine OpOk2.val ⟨_,_,?_,h.h w.heap.size _ rfl rfl⟩
  simp_all[Instr.range,run_underlying]
 ·exact h.ok
theorem q9a{b:Bool}{s:Sem Next}(V:s=(do pure (.value (<-Instr.next x b ty))))(h:qadt P x b w s K):OpOk2 P s w K:=by
 unfold qadt at h
 split at h
 ·rename_i r
  subst V;obtain⟨s,pos,U,W,Z⟩:=h
  by_cases H:pos<s.size
  ·refine OpOk2.val ⟨_,_,?_,W H _ rfl⟩;simp[Instr.next,getObj,setObj,Sem.run,U,H,goInt,setO]
  ·refine OpOk2.val ⟨_,_,?_,Z H⟩;simp[Instr.next,getObj,Sem.run,U,H]
 ·exact h.ok
theorem q49(Z:∀c,o.op≠.call c)(h:opV P o ρ w K):OpOk2 P (execOp (ev ρ) o) w K:=by
 unfold opV at h
 split at h
 ·grind [qbl,execOp,qagx]
 ·grind [qbl,execOp,qagx]
 ·grind [execOp,q9j]
 ·grind [execOp,OpOk2.val,qzg]
 ·grind [execOp,qahg]
 ·grind [q78,execOp]
 ·grind [execOp,qadb]
 ·grind [execOp,qul]
 ·grind [execOp,q83]
 ·grind [q6i,execOp]
 ·grind [execOp,qud]
 ·grind [execOp,qpa]
 ·grind [execOp,q24]
 ·grind [execOp,qach]
 ·grind [execOp,q1w]
 ·rename_i t x lo hi mx H
  refine q59 ?_ h;simp only[execOp,H];cases lo<;>cases hi<;>cases mx<;>rfl
 ·grind [qadv]
 ·simp_all
 ·rename_i t U H
  rw[qaa2]at h;simp only[execOp,H];refine q16 ?_
  simpa using h
 ·rename_i t W U H
  rw[qaa2]at h;simp only[execOp,H];refine qm3 ?_
  simpa using h
 ·grind [execOp,qpz]
 ·rename_i fn first V H
  rw[qan,qan,qea,qea]at h;simp only[execOp,H];refine valV ?_ h;have e1:∀a:Array Operand,(a.toList.map (ev ρ)).toArray=a.map (ev ρ):=(by grind)
  simp_all[Instr.makeFunc]
 ·grind [execOp,qpy]
 ·grind [q5m,execOp]
 ·grind [q9a,execOp]
 ·exact h.ok
theorem q48(h:opV P o ρ w K):OpOk P (execOp (ev ρ) o) w K:=by
 by_cases H:∃c,o.op=.call c
 ·grind [opV,qw3]
 ·exact .inl (q49 (λc e=>H ⟨c,e⟩) h)
end
def putV(n:Nat)(H:Option Tmp)(ρ:DH)(v:DF)(K:DH->Prop):Prop:=
 match H with
 | none=>K ρ
 | some d=>bif Nat.blt d n then K (upd ρ d v)else False
def runO(P:DC)(n:Nat)(o:Oper)(K:DH->DI)(ρ:DH)(w:DA):Prop:=
 opV P o ρ w λv w'=>putV n o.dst ρ v λH=>K H w'
def q1c(n:Nat)(o:Oper)(K:DH->DI)(ρ:DH)(w:DA):Prop:=
 putV n o.dst ρ undef λH=>K H w
def regV(P:DC)(n:Nat)(ops:List Oper)(Q:DH->DI):List Oper->DH->DA->Prop
 | [],ρ,w=>Q ρ w
 | o::H,ρ,w=>
  match o.guard with
  | none=>runO P n o (regV P n ops Q H) ρ w
  | some (j,U)=>
   match getL ops j with
   | none=>q1c n o (regV P n ops Q H) ρ w
   | some oj=>match oj.dst with
    | none=>q1c n o (regV P n ops Q H) ρ w
    | some d=>bif Nat.blt d n then
      match ρ d with
      | .bool b=>Tst b
        (match U with
         | true=>runO P n o (regV P n ops Q H) (upd ρ d (.bool true)) w
         | false=>q1c n o (regV P n ops Q H) (upd ρ d (.bool true)) w)
        (match U with
         | true=>q1c n o (regV P n ops Q H) (upd ρ d (.bool false)) w
         | false=>runO P n o (regV P n ops Q H) (upd ρ d (.bool false)) w)
      | _=>q1c n o (regV P n ops Q H) ρ w
     else False
def seqQ(K:DH->DI)(Q:Exit->DH->DI):Exit->DH->DA->Prop
 | .normal,ρ,w=>K ρ w
 | .exit i,ρ,w=>Q (.exit i) ρ w
 | .goto l,ρ,w=>Q (.goto l) ρ w
 | .ret,ρ,w=>Q .ret ρ w
 | .panic c,ρ,w=>Q (.panic c) ρ w
 | .outgrown,ρ,w=>Q .outgrown ρ w
def qwy(id:Nat)(Q:Exit->DH->DI):Exit->DH->DA->Prop
 | .normal,ρ,w=>Q .normal ρ w
 | .exit i,ρ,w=>bif Nat.beq i id then Q .normal ρ w else Q (.exit i) ρ w
 | .goto l,ρ,w=>Q (.goto l) ρ w
 | .ret,ρ,w=>Q .ret ρ w
 | .panic c,ρ,w=>Q (.panic c) ρ w
 | .outgrown,ρ,w=>Q .outgrown ρ w
def qag4(Q:Exit->DH->DI):Exit->DH->DA->Prop
 | .goto _,_,_=>False
 | .normal,ρ,w=>Q .normal ρ w
 | .exit i,ρ,w=>Q (.exit i) ρ w
 | .ret,ρ,w=>Q .ret ρ w
 | .panic c,ρ,w=>Q (.panic c) ρ w
 | .outgrown,ρ,w=>Q .outgrown ρ w
structure ScopeV(P:DC)(n:Nat)(c:Code)(Q:Exit->DH->DI)(ρ:DH)(w:DA):Prop where
 h:∀a,St n ρ a->(Code.scope c).wp P (λe a' w'=>∃ρ',St n ρ' a'/\Q e ρ' w') a w
def qfc(P:DC)(n:Nat):Code->(Exit->DH->DI)->DH->DA->Prop
 | .skip,Q,ρ,w=>Q .normal ρ w
 | .region id ops H,Q,ρ,w=>
  match H with
  | false=>regV P n ops.toList (Q .normal) ops.toList ρ w
  | true=>DrawV P n id ops Q ρ w
 | .seq a b,Q,ρ,w=>qfc P n a (seqQ (qfc P n b Q) Q) ρ w
 | .cond c t e,Q,ρ,w=>
  match ev ρ c with
  | .bool b=>Tst b (qfc P n t Q ρ w) (qfc P n e Q ρ w)
  | _=>False
 | .block id c,Q,ρ,w=>qfc P n c (qwy id Q) ρ w
 | .loop c,Q,ρ,w=>LoopV P n c Q ρ w
 | .exit id,Q,ρ,w=>Q (.exit id) ρ w
 | .label _,Q,ρ,w=>Q .normal ρ w
 | .ret,Q,ρ,w=>Q .ret ρ w
 | .goto l,Q,ρ,w=>Q (.goto l) ρ w
 | .scope c,Q,ρ,w=>ScopeV P n c Q ρ w
 | .rangeFunc f p a b,Q,ρ,w=>CodeV P n (.rangeFunc f p a b) Q ρ w
 | .refuse _,_,_,_=>False
def lift(n:Nat)(Q:Exit->DH->DI):Exit->Act->DA->Prop:=λe a w=>∃ρ,St n ρ a/\Q e ρ w
section
variable {P:DC} {n:Nat}
theorem putV.st{H:Option Tmp}{v:DF}{K:DH->Prop}{a:Act}(h:putV n H ρ v K)(V:St n ρ a):
  ∃U,St n U (a.put H v)/\K U:=by
 unfold putV at h
 split at h
 ·exact⟨ρ,V,h⟩
 ·rename_i d
  cases W:Nat.blt d n<;>rw[W]at h
  ·exact h.elim
  ·exact⟨_,V.put (by simpa using W) v,h⟩
theorem St.yield{a:Act}(H:St n ρ a){ops:List Oper}(U:getL ops j=some oj)(V:oj.dst=some d)(W:d<n):
  yielded ops.toArray a.tmps j=match ρ d with | .bool b=>some b|_=>none:=by
 have Z:ops.toArray[j]?=some oj:=by grind [qa5]
 have h2:a.tmps[d]?=some (ρ d):=by
  have hs:=H.size;have:=H.get d
  simp_all
 grind [yielded]
theorem qvp{K:DH->DI}{a:Act}{H:List Oper}(W:Region.wanted o (yielded ops a.tmps)=true)(Z:St n ρ a)(h:runO P n o K ρ w)(hk:∀U V w',St n U V->K U w'->wpList P ops Q' H V w'):
  wpList P ops Q' (o::H) a w:=by
 unfold wpList;rw[Ab W];refine .inl (OpOk.wp Z.eval (q48 h) λv w' hp=>?_)
 grind [putV.st]
theorem qh7{K:DH->DI}{a:Act}{H:List Oper}(W:Region.wanted o (yielded ops a.tmps)=false)(Z:St n ρ a)(h:q1c n o K ρ w)(hk:∀U V w',St n U V->K U w'->wpList P ops Q' H V w'):
  wpList P ops Q' (o::H) a w:=by
 unfold wpList;rw[Aa (by rw[W];simp)];obtain⟨U,h1,h2⟩:=putV.st h Z
 grind
theorem qaek{ops:List Oper}{Q:DH->DI}(hQ:∀ρ a w,St n ρ a->Q ρ w->Q' .normal a w)(l:List Oper):
  ∀(ρ:DH) (a:Act) (w:DA),St n ρ a->regV P n ops Q l ρ w->wpList P ops.toArray Q' l a w:=by
 induction l with
 | nil=>intro ρ a w U h;exact hQ _ _ _ U h
 | cons o H ih=>
  intro ρ a w U h;unfold regV at h;have ae:∀V a' w',St n V a'->regV P n ops Q H V w'->wpList P ops.toArray Q' H a' w':=(by omega)
  split at h
  ·grind [qvp,Region.wanted]
  ·rename_i j ad hg
   split at h
   ·grind [qa5,qh7,Region.wanted,yielded]
   ·rename_i oj hj
    split at h
    ·grind [qh7,qa5,Region.wanted,yielded]
    ·rename_i d hd
     cases hn:Nat.blt d n<;>rw[hn]at h
     ·exact h.elim
     ·have W:d<n:=by simpa using hn
      have hy:=U.yield hj hd W;simp only[cond_true]at h
      split at h
      ·rename_i b Z
       rw[Z]at hy;cases b
       ·have h:=h.f rfl;have aa:=U.same Z
        grind [qvp,Region.wanted,qh7]
       ·have h:=h.t rfl;have aa:=U.same Z
        grind [qh7,Region.wanted,qvp]
      grind [qh7,Region.wanted]
theorem q82{K:DH->DI}{Q:Exit->DH->DI}{e:Exit}{a:Act}(h:lift n (seqQ K Q) e a w):
  Exit.then (λa w=>∃ρ,St n ρ a/\K ρ w) (lift n Q) e a w:=by
 obtain⟨ρ,H,U⟩:=h;cases e<;>exact⟨ρ,H,U⟩
theorem qz0{Q:Exit->DH->DI}{e:Exit}{a:Act}(h:lift n (qwy id Q) e a w):
  Exit.inBlock id (lift n Q) e a w:=by
 obtain⟨ρ,U,H⟩:=h;cases e with
 | exit i=>
  by_cases hi:i=id
  ·have V:Nat.beq i id=true:=by subst hi;simp
   simp only[qwy,V,cond_true]at H;simp only[Exit.inBlock,hi,if_true];exact⟨ρ,U,H⟩
  ·have V:Nat.beq i id=false:=(by grind [Nat.eq_of_beq_eq_true])
   simp only[qwy,V,cond_false]at H;simp only[Exit.inBlock,hi,if_false];exact⟨ρ,U,H⟩
 | normal=>exact⟨ρ,U,H⟩
 | goto l=>exact⟨ρ,U,H⟩
 | ret=>exact⟨ρ,U,H⟩
 | panic c=>exact⟨ρ,U,H⟩
 | outgrown=>exact⟨ρ,U,H⟩
theorem qkg(c:Code):∀(Q:Exit->DH->DI) (ρ:DH) (w:DA),qfc P n c Q ρ w->∀a,St n ρ a->c.wp P (lift n Q) a w:=by
 induction c with
 | skip=>intro Q ρ w h a H;exact wp_skip ⟨ρ,H,h⟩
 | region id ops U=>
  intro Q ρ w h a H;cases U
  ·refine wp_region_list ?_;have:=qaek (Q':=lift n Q) (λρ a w H h=>⟨ρ,H,h⟩) ops.toList ρ a w H h;omega
  ·exact h.h a H
 | seq x y W hy=>
  intro Q ρ w h a H;refine wp_seq (wp_mono (W _ _ _ h a H) λe a w h=>?_);have:=q82 h;cases e with
  | normal=>obtain⟨aa,h1,h2⟩:=this;exact hy _ _ _ h2 _ h1
  | exit i=>exact this
  | goto l=>exact this
  | ret=>exact this
  | panic c=>exact this
  | outgrown=>exact this
 | cond c t e ht he=>
  intro Q ρ w h a H;unfold qfc at h
  split at h
  ·rename_i b Z
   refine wp_cond_split (t:=b) (by rw[H.eval,Z]) (λe=>ht _ _ _ (h.t e) a H) (λe=>he _ _ _ (h.f e) a H)
  ·exact h.elim
 | block id c V=>
  intro Q ρ w h a H;exact wp_block (wp_mono (V _ _ _ h a H) λe a w h=>qz0 h)
 | loop c V=>intro Q ρ w h a H;exact h.h a H
 | rangeFunc f p x b W Z=>intro Q ρ w h a H;exact h.h a H
 | exit id=>intro Q ρ w h a H;exact wp_exit ⟨ρ,H,h⟩
 | scope c V=>intro Q ρ w h a H;exact h.h a H
 | label l=>intro Q ρ w h a H;exact wp_label ⟨ρ,H,h⟩
 | goto l=>intro Q ρ w h a H;exact wp_goto ⟨ρ,H,h⟩
 | ret=>intro Q ρ w h a H;exact wp_ret ⟨ρ,H,h⟩
 | refuse ad=>intro Q ρ w h a H;exact h.elim
theorem ScopeV.straight{n:Nat}{c:Code}{Q:Exit->DH->DI}(h:qfc P n c (qag4 Q) ρ w):ScopeV P n c Q ρ w:=by
 refine⟨λa V=>wp_scope_straight (wp_mono (qkg c _ _ _ h a V) λe a w h=>?_)⟩;obtain⟨H,W,U⟩:=h;cases e<;>first|exact U.elim|exact⟨H,W,U⟩
structure SameW(w' w:DA)(k:Prop):Prop where
 h:w'=w
 k:k
structure CallQ(P:DC)(f:FuncId)(args:DK)(w:DA)(K:DF->Prop):Prop where
 h:∃v,Gv P f args w (λu w'=>u=v/\w'=w)/\K v
def qack(P:DC)(c:Call)(ρ:DH)(w:DA)(s:Sem Next)(K:DF->Prop):Prop:=
 match c.callee with
 | .value f=>match ev ρ f with
  | .func (.func g) first H=>qch (evs ρ c.args.toList) λvs=>
   match first.toList,H.toList with
   | [],[]=>CallQ P g vs w K
   | x,y=>CallQ P g (x++(vs++y)) w K
  | _=>False
 | .builtin .len=>lenV P (getL c.argTypes.toList 0) (evs ρ c.args.toList) w s λv w'=>SameW w' w (K v)
 | _=>False
def opQ(P:DC)(o:Oper)(ρ:DH)(w:DA)(K:DF->Prop):Prop:=
 match o.op with
 | .call c=>qack P c ρ w (execOp (ev ρ) o) K
 | _=>opV P o ρ w λv w'=>SameW w' w (K v)
section
variable {P:DC} {w:DA} {n:Nat}
def StillOk(P:DC)(s:Sem Next)(w:DA)(K:DF->Prop):Prop:=
 OpOk2 P s w (λv w'=>w'=w/\K v)\/
 (∃f args v,s.run P w=.ok (.enter f args) w/\Calls P f args w (λe w'=>e=.returned v/\w'=w)/\K v)
theorem OpOk2.same{s:Sem Next}{K:DF->Prop}(h:OpOk2 P s w λv w'=>SameW w' w (K v)):StillOk P s w K:=by
 refine .inl ?_
 rcases h with⟨v,w',U,H⟩|⟨w',U,H⟩
 ·exact .inl ⟨v,w',U,H.h,H.k⟩
 ·exact .inr ⟨w',U,H.h,H.k⟩
theorem q70{c:Call}{K:DF->Prop}(W:o.op=.call c)(h:qack P c ρ w (execOp (ev ρ) o) K):
  StillOk P (execOp (ev ρ) o) w K:=by
 unfold qack at h
 split at h
 ·rename_i f U
  split at h
  ·rename_i g first H Z
   rw[qan,qea]at h;have he:execOp (ev ρ) o=callFunc g (first++c.args.map (ev ρ)++H):=by
    simp only[execOp,W,resolve,U,Z];rfl
   rw[he];have V:CallQ P g (first.toList++(c.args.toList.map (ev ρ)++H.toList)) w K:=by
    grind
   have e2:(first.toList++(c.args.toList.map (ev ρ)++H.toList)).toArray=first++c.args.map (ev ρ)++H:=by
    simp
   rw[<-e2];obtain⟨v,⟨h1,h2⟩,hk⟩:=V;refine .inr ⟨g,_,v,qc6 h1 _,h2.mono ?_,hk⟩
   simp_all
  ·exact h.elim
 ·rename_i U;exact(q4l W U h).same
 ·exact h.elim
theorem qagr{K:DF->Prop}(h:opQ P o ρ w K):StillOk P (execOp (ev ρ) o) w K:=by
 unfold opQ at h
 split at h
 ·grind [q70]
 ·rename_i H;exact(q49 (λc e=>H c e) h).same
theorem StillOk.still{K:DF->Prop}{a:Act}{next:Act->Prop}(Z:a.eval=ev ρ)(h:StillOk P (execOp (ev ρ) o) w K)(W:∀v,K v->next (a.put o.dst v)):o.still P a w next:=by
 unfold Oper.still;rw[Z]
 rcases h with(⟨v,w',H,U,V⟩|⟨w',H,U,V⟩)|⟨f,args,v,H,U,V⟩
 ·rw[H];exact⟨U,W _ V⟩
 ·rw[H];exact⟨U,W _ V⟩
 ·rw[H];exact⟨rfl,v,U,W _ V⟩
def runQ(P:DC)(n:Nat)(o:Oper)(K:DH->Prop)(ρ:DH)(w:DA):Prop:=
 opQ P o ρ w λv=>putV n o.dst ρ v K
def regQ(P:DC)(n:Nat)(ops:List Oper)(w:DA)(Q:DH->Prop):List Oper->DH->Prop
 | [],ρ=>Q ρ
 | o::H,ρ=>
  match o.guard with
  | none=>runQ P n o (regQ P n ops w Q H) ρ w
  | some (j,U)=>
   match getL ops j with
   | none=>putV n o.dst ρ undef (regQ P n ops w Q H)
   | some oj=>match oj.dst with
    | none=>putV n o.dst ρ undef (regQ P n ops w Q H)
    | some d=>bif Nat.blt d n then
      match ρ d with
      | .bool b=>Tst b
        (match U with
         | true=>runQ P n o (regQ P n ops w Q H) (upd ρ d (.bool true)) w
         | false=>putV n o.dst (upd ρ d (.bool true)) undef (regQ P n ops w Q H))
        (match U with
         | true=>putV n o.dst (upd ρ d (.bool false)) undef (regQ P n ops w Q H)
         | false=>runQ P n o (regQ P n ops w Q H) (upd ρ d (.bool false)) w)
      | _=>putV n o.dst ρ undef (regQ P n ops w Q H)
     else False
theorem qvq{K:DH->Prop}{a:Act}{H:List Oper}{Q':Act->Prop}(W:Region.wanted o (yielded ops a.tmps)=true)(Z:St n ρ a)(h:runQ P n o K ρ w)(hk:∀U V,St n U V->K U->wpStill P ops w Q' H V):
  wpStill P ops w Q' (o::H) a:=by
 unfold wpStill;rw[Ab W];refine StillOk.still Z.eval (qagr h) λv hp=>?_
 grind [putV.st]
theorem qh8{K:DH->Prop}{a:Act}{H:List Oper}{Q':Act->Prop}(W:Region.wanted o (yielded ops a.tmps)=false)(Z:St n ρ a)(h:putV n o.dst ρ undef K)(hk:∀U V,St n U V->K U->wpStill P ops w Q' H V):
  wpStill P ops w Q' (o::H) a:=by
 grind [wpStill,putV.st]
theorem qaej{ops:List Oper}{Q:DH->Prop}{Q':Act->Prop}(hQ:∀ρ a,St n ρ a->Q ρ->Q' a)(l:List Oper):
  ∀(ρ:DH) (a:Act),St n ρ a->regQ P n ops w Q l ρ->wpStill P ops.toArray w Q' l a:=by
 induction l with
 | nil=>intro ρ a U h;exact hQ _ _ U h
 | cons o H ih=>
  intro ρ a U h;unfold regQ at h;have ae:∀V a',St n V a'->regQ P n ops w Q H V->wpStill P ops.toArray w Q' H a':=(by omega)
  split at h
  ·grind [qvq,Region.wanted]
  ·rename_i j ad hg
   split at h
   ·grind [qa5,qh8,Region.wanted,yielded]
   ·rename_i oj hj
    split at h
    ·grind [qh8,qa5,Region.wanted,yielded]
    ·rename_i d hd
     cases hn:Nat.blt d n<;>rw[hn]at h
     ·exact h.elim
     ·have W:d<n:=by simpa using hn
      have hy:=U.yield hj hd W;simp only[cond_true]at h
      split at h
      ·rename_i b Z
       rw[Z]at hy;cases b
       ·have h:=h.f rfl;have aa:=U.same Z
        grind [qvq,Region.wanted,qh8]
       ·have h:=h.t rfl;have aa:=U.same Z
        grind [qh8,Region.wanted,qvq]
      grind [qh8,Region.wanted]
theorem DrawV.quiet{Q:Exit->DH->DI}(V:P.follows .mixedOrders=true)(W:Region.lexB .any ops=true)(h:regQ P n ops.toList w.drew (λH=>Q .normal H w.drew) ops.toList ρ):DrawV P n id ops Q ρ w:=by
 refine⟨λa U=>wp_region_still V W ?_⟩;have:=qaej (w:=w.drew) (Q':=λZ=>∃H,St n H Z/\Q .normal H w.drew) (λρ a U h=>⟨ρ,U,h⟩) ops.toList ρ a U h
 simp_all
end
def over:List (Nat×DF)->DH->Nat->DF
 | [],ρ=>ρ
 | (t,v)::l,ρ=>upd (over l ρ) t v
def qq8:List (Nat×DF)->DH->Prop
 | [],_=>True
 | (t,v)::l,ρ=>ρ t=v/\qq8 l ρ
theorem qsh{l:List (Nat×DF)}(h:qq8 l ρ):over l ρ=ρ:=by
 induction l with
 | nil=>rfl
 | cons x l H=>
  obtain⟨t,v⟩:=x;obtain⟨V,U⟩:=h
  funext u
  simp only[over,H U,upd]
  grind [Nat.eq_of_beq_eq_true]
theorem qq{α:Type}(l:α->List (Nat×DF))(I:α->DI)(μ:α->Nat){Q:Exit->DH->DI}(x0:α)(h0:qq8 (l x0) ρ)(hI:I x0 w)(hr:∀x w aj,I x w->qfc P n body (seqQ (λae w'=>∃x',qq8 (l x') ae/\I x' w'/\μ x'<μ x) Q) (over (l x) aj) w):LoopV P n body Q ρ w:=by
 refine⟨λa ha=>?_⟩;have ak:∀m x,μ x=m->∀ρ a w,qq8 (l x) ρ->St n ρ a->I x w->∀(b:Frame) (k:List Item) (cs:List Frame),
   ∃e a' w',lift n Q e a' w'/\Arrives P (lone (b.at a (.code body::.inLoop body::k)) cs w) b k cs e a' w':=by
  intro m
  induction m using Nat.strongRecOn with
  | _ m ih=>
   intro x hm ρ a w al am hI b k cs;have h1:=hr x w ρ hI;rw[qsh al]at h1;obtain⟨e,W,Z,hq,V⟩:=qkg body _ _ _ h1 a am b (.inLoop body::k) cs;obtain⟨U,H,hq⟩:=hq;cases e with
   | normal=>
    obtain⟨x',af,an,ao⟩:=hq;obtain⟨ag,ah,ai,ad,aa⟩:=ih (μ x') (hm ▸ ao) x' rfl U W Z af H an b k cs;exact⟨ag,ah,ai,ad,.of_steps (Steps.trans V (.one step_inLoop)) aa⟩
   | exit id=>exact⟨_,W,Z,⟨U,H,hq⟩,.pass (x:=.inLoop body) rfl Js V⟩
   | goto l=>exact⟨_,W,Z,⟨U,H,hq⟩,.pass (x:=.inLoop body) rfl Js V⟩
   | ret=>exact⟨_,W,Z,⟨U,H,hq⟩,.pass (x:=.inLoop body) rfl Js V⟩
   | panic ch=>exact⟨_,W,Z,⟨U,H,hq⟩,.pass (x:=.inLoop body) rfl Js V⟩
   | outgrown=>exact⟨_,W,Z,⟨U,H,hq⟩,.pass (x:=.inLoop body) rfl Js V⟩
 intro b k cs;obtain⟨e,a',w',hq,V⟩:=ak _ x0 rfl ρ a w h0 ha hI b k cs;exact⟨e,a',w',hq,.of_steps (.one step_loop) V⟩
def ini:DK->Nat->DF
 | [],_=>undef
 | v::_,0=>v
 | _::l,t+1=>ini l t
theorem qaa7(l:DK)(t:Nat):ini l t=(l[t]?).getD undef:=by
 induction l generalizing t with
 | nil=>simp[ini]
 | cons v l H=>cases t<;>simp[ini,H]
def qj0:List ResultVar->Option (List Operand)
 | []=>some []
 | .tmp t::l=>match qj0 l with
  | some r=>some (.tmp t::r)
  | none=>none
 | .cell _ _::_=>none
def resV(H:Array ResultVar)(ρ:DH)(w:DA)(U:Func)(R:DG)(P:DC)(n:Nat):Prop:=
 match H.toList with
 | [.tmp t]=>qiz (ρ t) λv=>R v w
 | l=>match qj0 l with
  | some V=>qch (evs ρ V) λvs=>R (.tuple vs.toArray) w
  | none=>∀a,St n ρ a->∃v,(results U a.tmps).run P w=.ok v w/\R v w
def q7y(P:DC)(n:Nat)(H:Func)(R:DG):Exit->DH->DA->Prop
 | .normal,ρ,w=>resV H.results ρ w H R P n
 | .ret,ρ,w=>resV H.results ρ w H R P n
 | _,_,_=>False
def resF(H:DN):ResultVar->Sem DF
 | .tmp t=>pure (H.getD t undef)
 | .cell a t=>do loadVar t (<-asAddr (H.getD a undef))
theorem qtc(H:DN)(w:DA)(ρ:DH)(V:∀t,H.getD t undef=ρ t):∀(l:List ResultVar) (U:List Operand),qj0 l=some U->
  (l.mapM (resF H)).run P w=.ok (evs ρ U) w:=by
 intro l
 induction l with
 | nil=>intro U h;cases h;simp[evs]
 | cons x l W=>
  intro U h;cases x with
  | cell a t=>cases h
  | tmp t=>
   simp only[qj0]at h;cases e:qj0 l with
   | none=>simp_all
   | some r=>
    rw[e]at h;cases h
    simp_all[evs,ev,resF]
theorem qmb{W:Array ResultVar}{V:Func}(aa:V.results=W){a:Act}(ha:St n ρ a)(h:resV W ρ w V R P n):
  ∃v,(results V a.tmps).run P w=.ok v w/\R v w:=by
 unfold resV at h;have hm:∀U,qj0 W.toList=some U->(results V a.tmps).run P w=.ok (if h:(evs ρ U).toArray.size=1 then(evs ρ U).toArray[0]else .tuple (evs ρ U).toArray) w:=by
  intro U H;have:=qtc (P:=P) a.tmps w ρ ha.get W.toList U H;have e:results V a.tmps=(do let vs <-V.results.mapM (resF a.tmps);pure (if h:vs.size=1 then vs[0]else .tuple vs)):=by
   rfl
  simp_all[CN]
 split at h
 ·rename_i t Z
  rw[qbl]at h;refine⟨ρ t,?_,h⟩;rw[hm [.tmp t] (by rw[Z];rfl)];rfl
 ·rename_i l Z
  split at h
  ·rename_i U H
   rw[qan]at h;refine⟨_,?_,h⟩;rw[hm U H];have ad:¬(evs ρ U).toArray.size=1:=by
    intro h1;rw[qea]at h1;simp at h1
    match W.toList,H,Z with
    | [],H,_=>cases H;cases h1
    | [.tmp t],_,Z=>exact Z t rfl
    | .tmp t::y::r,H,_=>
     simp only[qj0]at H
     revert H
     cases y<;>grind [qj0]
    | .cell a t::r,H,_=>cases H
   simp_all
  ·exact h a ha
theorem Gv.mono{H:DG}(h:Gv P f vs w R)(U:∀v w',R v w'->H v w'):Gv P f vs w H:=
 ⟨h.1,h.2.mono (by grind)⟩
theorem CallV.of(h:Gv P f vs w R)(H:∀v w',R v w'->K v w'):CallV P f vs w K:=
 ⟨.inl (h.mono H)⟩
theorem gv{V:Func}{c:Code}(he:qdk P f=true)(hf:P.funcs[f]?=some V)(hb:V.body=some c)(hn:V.ntmps=n)(hl:Nat.ble vs.length n=true)(h:qfc P n c (q7y P n V R) (ini vs) w):Gv P f vs w R:=by
 have aa:vs.length<=n:=by simpa using hl
 refine⟨he,calls_of_wp hf hb (wp_mono (qkg c _ _ _ h _ ⟨?_,?_,rfl⟩) λe a w U=>?_)⟩
 ·simp_all
 ·intro t;rw[qaa7,BP]
  grind
 ·obtain⟨ρ,H,U⟩:=U;cases e with
  | normal=>
   obtain⟨v,W,Z⟩:=qmb rfl H U;exact⟨H.defers,v,W,v,rfl,Z⟩
  | ret=>
   obtain⟨v,W,Z⟩:=qmb rfl H U;exact⟨H.defers,v,W,v,rfl,Z⟩
  | exit i=>exact U.elim
  | goto i=>exact U.elim
  | panic i=>exact U.elim
  | outgrown=>exact U.elim
end
theorem Wit.conv{k:IntKind}{n:Int}{K:Int->Prop}(h:InR k n)(H:K n):Wit (λr=>k.wrap n=r) K:=⟨n,h.wrap,H⟩
theorem Wit.eq{α:Type}{x y:α}{K:α->Prop}(h:x=y)(H:K y):Wit (λr=>x=r) K:=⟨y,h,H⟩
theorem Wit.shl{k:IntKind}{a b m r:Int}{K:Int->Prop}(H:0<=b/\b<k.bits)(U:(2:Int) ^ b.toNat=m)(V:a*m=r)(hi:InR k r)(W:K r):
  Wit (λr=>0<=b/\b<k.bits/\k.wrap (a*2 ^ b.toNat)=r) K:=⟨r,⟨H.1,H.2,by rw[U,V];exact hi.wrap⟩,W⟩
theorem Wit.shr{k:IntKind}{a b m r:Int}{K:Int->Prop}(U:0<=b/\b<k.bits)(V:(2:Int) ^ b.toNat=m)(W:a/m=r)(H:K r):
  Wit (λr=>0<=b/\b<k.bits/\a/2 ^ b.toNat=r) K:=⟨r,(by grind),H⟩
theorem IdxV.nat{n:Nat}{K:Nat->Prop}(h:j<n)(H:K j):IdxV (j:Int) n K:=⟨j,rfl,h,H⟩
theorem IdxV.at_{i:Int}(j:Nat){n:Nat}{K:Nat->Prop}(e:i=(j:Int))(h:j<n)(H:K j):IdxV i n K:=⟨j,e,h,H⟩
theorem SliceS.at_{s:DB}{lo hi:Option DF}{K:DF->Prop}(l h:Nat)(H:bnd lo 0 l)(U:bnd hi s.size h)(V:l<=h)(W:h<=s.size)(Z:K (.string (s.extract l h))):
  SliceS s lo hi K:=⟨l,h,H,U,V,W,Z⟩
theorem InR.lt{k:IntKind}(h:InR k m):m<2 ^ k.bits:=by
 cases k<;>obtain⟨H,U⟩:=h<;>simp[IntKind.bits]<;>omega
theorem InR.le{k:IntKind}{n:Nat}(h:InR k n)(H:m<=n):InR k m:=by
 cases k<;>obtain⟨U,V⟩:=h<;>exact⟨by omega,by omega⟩
theorem qww{k:IntKind}{n:Nat}(H:InR k m)(U:InR k n):qgu .and k m n=((m &&&n:Nat):Int):=by
 grind [qgu,InR.lt,InR.wrap,InR.le,Nat.and_le_left]
theorem q13{k:IntKind}{n:Nat}(H:InR k m)(U:InR k n)(h:InR k ((m |||n:Nat):Int)):qgu .or k m n=((m |||n:Nat):Int):=by
 grind [qgu,InR.lt,InR.wrap]
theorem qa1{k:IntKind}(i:Nat){c:Int}(H:c=((2 ^ i-1:Nat):Int))(U:InR k m)(V:InR k c):qgu .and k m c=((m%2 ^ i:Nat):Int):=by
 grind [qww,Nat.and_two_pow_sub_one_eq_mod]
theorem q7v{k:IntKind}(i:Nat)(H:InR k ((a*2 ^ i+b:Nat):Int))(U:b<2 ^ i):qgu .or k ((a*2 ^ i:Nat):Int) b=((a*2 ^ i+b:Nat):Int):=by
 have e:(a*2 ^ i |||b)=a*2 ^ i+b:=by grind [Nat.mul_comm,Nat.two_pow_add_eq_or_of_lt]
 rw[q13 (InR.le H Oo) (InR.le H Oo) (by simp_all),e]
end V
namespace V
def Ext(w w':DA):Prop:=Below w.heap.size w w'
theorem Ext.refl(w:DA):Ext w w:=Below.refl _ _
theorem Ext.trans{a b c:DA}(h:Ext a b)(k:Ext b c):Ext a c:=Below.trans h (Below.mono k h.size)
theorem Ext.alloc{a:DA}(h:Ext a w)(o:Obj):Ext a (w.alloc o):=Below.alloc h h.size o
theorem Ext.get(h:Ext w w'){o:Obj}(H:w.heap[b]?=some o):w'.heap[b]?=some o:=by
 rw[h.block b]
 all_goals grind
theorem Ext.cell(h:Ext w w'){a:Addr}{v:DF}(U:w.cell? a=some v):w'.cell? a=some v:=by
 have H:a.block<w.heap.size:=by
  grind [World.cell?]
 rw[Below.cell h H];exact U
theorem Ext.drew{a:DA}(h:Ext a w):Ext a w.drew:=Below.drew h
theorem qga{o:Obj}(h:b≠r):(setO w r o).heap[b]?=w.heap[b]?:=by
 grind [setO]
theorem qmm{o:Obj}(h:w.heap[r]?=some o'):(setO w r o).heap[r]?=some o:=by
 grind [setO]
theorem Ext.setO{a w:DA}(h:Ext a w){r:Nat}(H:a.heap.size<=r)(o:Obj):Ext a (setO w r o):=
 Below.trans h ⟨rfl,rfl,rfl,by simp[V.setO],(by grind [qga])⟩
theorem Ext.setCell{a:DA}(h:Ext a w){p:Addr}(H:a.heap.size<=p.block)(v:DF):Ext a (w.setCell p v):=Below.setCell h H v
structure Mem(w0 w:DA)(L:DJ):Prop where
 ext:Ext w0 w
 own:∀x∈L,w0.heap.size<=x.1/\w.heap[x.1]?=some x.2
 nodup:(L.map (·.1)).Nodup
section
variable {w0 w w':DA} {L:DJ}
theorem Mem.nil(w:DA):Mem w w []:=⟨Ext.refl w,Js,by simp⟩
theorem Mem.lt(h:Mem w0 w L){o:Obj}(H:(b,o)∈L):b<w.heap.size:=by
 have:=(h.own _ H).2
 grind
theorem Mem.get(h:Mem w0 w L){o:Obj}(H:(b,o)∈L):w.heap[b]?=some o:=(h.own _ H).2
theorem Mem.new(h:Mem w0 w L){o:Obj}(U:b=w.heap.size)(V:w'=w.alloc o):Mem w0 w' ((b,o)::L):=by
 subst U V;refine⟨h.ext.alloc o,?_,?_⟩
 ·intro x H
  rcases Ay.1 H with rfl|H
  ·exact⟨h.ext.size,heap_alloc_new w _⟩
  ·exact⟨(h.own x H).1,by rw[Below.heap_alloc _ _ _ (h.lt (b:=x.1) (o:=x.2) H)];exact(h.own x H).2⟩
 ·simp only[AB,C8];refine⟨λW=>?_,h.nodup⟩;obtain⟨x,H,e⟩:=AA.1 W;have:=h.lt (b:=x.1) (o:=x.2) H;omega
theorem Mem.call(h:Mem w0 w L)(H:Ext w w'):Mem w0 w' L:=
 ⟨h.ext.trans H,λx U=>⟨(h.own x U).1,H.get (h.own x U).2⟩,h.nodup⟩
theorem Mem.drew(h:Mem w0 w L):Mem w0 w.drew L:=⟨h.ext.drew,h.own,h.nodup⟩
theorem Mem.set(h:Mem w0 w L){o:Obj}(hi:L[i]?=some (b,o))(W:Ext w0 w')(Z:w'.heap[b]?=some o')(ho:∀c,c≠b->w'.heap[c]?=w.heap[c]?):Mem w0 w' (L.set i (b,o')):=by
 have U:i<L.length:=by
  grind
 have aa:L[i]=(b,o):=by simp_all
 have hn:((L.set i (b,o')).map (·.1))=L.map (·.1):=by
  rw[List.map_set];have:(L.map (·.1))[i]?=some b:=by simp_all
  apply Bj
  grind
 refine⟨W,?_,by rw[hn];exact h.nodup⟩;intro x V
 rcases CO V with H | rfl
 ·refine⟨(h.own x H).1,?_⟩
  by_cases e:x.1=b
  ·obtain⟨j,hj,ad⟩:=BN.1 V
   by_cases ae:j=i
   ·grind
   ·have h1:(L.map (·.1))[j]'(by grind)=b:=by
     grind
    have h2:(L.map (·.1))[i]'(by simpa using U)=b:=by simp_all
    have:=(List.getElem_inj h.nodup).1 (h1.trans h2.symm);omega
  ·rw[ho _ e];exact(h.own x H).2
 ·exact⟨(h.own (b,o) (by grind)).1,Z⟩
theorem Mem.setO(h:Mem w0 w L){i b:Nat}{o:Obj}(o':Obj)(hi:L[i]?=some (b,o))(U:w'=setO w b o'):Mem w0 w' (L.set i (b,o')):=by
 subst U;have H:(b,o)∈L:=(by grind)
 exact h.set hi (h.ext.setO (h.own _ H).1 o') (qmm (h.get H)) (λc V=>qga V)
theorem heap_setCell{v:DF}{t:DD}(h:w.heap[b]?=some (.cells cs t fr)):
  (w.setCell ⟨b,off,none⟩ v).heap[b]?=some (.cells (cs.setIfInBounds off v) t fr):=by
 grind [World.setCell]
theorem Mem.setCell(h:Mem w0 w L){v:DF}{t:DD}(hi:L[i]?=some (b,.cells cs t fr))(U:w'=w.setCell ⟨b,off,none⟩ v):
  Mem w0 w' (L.set i (b,.cells (cs.setIfInBounds off v) t fr)):=by
 subst U;have H:(b,Obj.cells cs t fr)∈L:=(by grind)
 exact h.set hi (h.ext.setCell (h.own _ H).1 v) (heap_setCell (h.get H)) (by grind [Below.heap_setCell])
theorem Mem.sub(h:Mem w0 w L)(H:L'.Sublist L):Mem w0 w L':=
 ⟨h.ext,λx U=>h.own x (by grind),(H.map _).nodup h.nodup⟩
theorem Mem.perm(h:Mem w0 w L)(H:L'.Perm L):Mem w0 w L':=
 ⟨h.ext,λx U=>h.own x (by grind),(H.map _).nodup_iff.2 h.nodup⟩
end
theorem qa{t:DD}(h:w.heap[b]?=some (.cells cs t fr)):w.cell? ⟨b,off,none⟩=cs[off]?:=by
 simp[World.cell?,h]
theorem LoadV.own{t:DD}{v:DF}{K:DF->Prop}(h:w.heap[b]?=some (.cells cs t fr))(U:cs[off]?=some v)(H:K v):
  LoadV w b off K:=⟨v,by grind [qa],H⟩
theorem LoadV.of{v:DF}{K:DF->Prop}(h:w.cell? ⟨b,off,none⟩=some v)(H:K v):LoadV w b off K:=⟨v,h,H⟩
theorem StoreV.own{t:DD}{v:DF}{K:DI}(h:w.heap[b]?=some (.cells cs t (0,0)))(V:off<cs.size)(H:qc8 v=true)(U:∀w',w'=w.setCell ⟨b,off,none⟩ v->K w'):StoreV w b off v K:=by
 refine⟨⟨cs[off],?_⟩,?_,H,U _ rfl⟩
 ·rw[qa h];simp
 ·simp[World.frozen?,h]
theorem NewV.mem{o:Obj}{K:Nat->DI}(h:Mem w0 w L)(H:∀b w',Mem w0 w' ((b,o)::L)->K b w'):NewV w o K:=
 ⟨λb w' U V=>H b w' (h.new U V)⟩
theorem NextS.mem{pos:Nat}{s:DB}(h:Mem w0 w L)(hi:L[i]?=some (r,.stringIter s pos))(H:pos<s.size->∀w',Mem w0 w' (L.set i (r,.stringIter s (pos+(Utf8.decode s pos).2)))->K (.tuple #[.bool true,.int .i64 pos,.int .i32 (Utf8.decode s pos).1]) w')(U:¬pos<s.size->K (.tuple #[.bool false]) w):NextS w r K:=
 ⟨s,pos,h.get (by grind),λV w' W=>H V w' (h.setO _ hi W),U⟩
theorem LoadV.mem{t:DD}{v:DF}{K:DF->Prop}(h:Mem w0 w L)(hi:L[i]?=some (b,.cells cs t fr))(H:cs[off]?=some v)(U:K v):LoadV w b off K:=LoadV.own (h.get (CG hi)) H U
theorem LoadA.mem{size:Nat}{t:DD}{K:DK->Prop}(h:Mem w0 w L)(hi:L[i]?=some (b,.cells cs t fr))(H:cs.toList.length=size)(U:K cs.toList):LoadA w b 0 size K:=
 ⟨cs.toList,H,λj _=>by rw[qa (h.get (CG hi)),As];simp,U⟩
theorem StoreV.mem{t:DD}{v:DF}{K:DI}(h:Mem w0 w L)(hi:L[i]?=some (b,.cells cs t (0,0)))(H:off<cs.size)(U:qc8 v=true)(V:∀w',Mem w0 w' (L.set i (b,.cells (cs.setIfInBounds off v) t (0,0)))->K w'):StoreV w b off v K:=
 StoreV.own (h.get (CG hi)) H U λw' W=>V w' (h.setCell hi W)
theorem CellsAt.ext(h:CellsAt w b off vs)(H:Ext w w'):CellsAt w' b off vs:=λk v U=>H.cell (h k v U)
theorem LoadV.cells{v:DF}{K:DF->Prop}(h:CellsAt w b off vs)(k:Nat)(H:vs[k]?=some v)(U:K v):LoadV w b (off+k) K:=⟨v,h k v H,U⟩
theorem LoadV.cell0{v:DF}{K:DF->Prop}(h:CellsAt w b off (v::vs))(H:K v):LoadV w b off K:=⟨v,h 0 v rfl,H⟩
theorem LoadA.cells{size:Nat}{K:DK->Prop}(h:CellsAt w b off vs)(H:vs.length=size)(U:K vs):LoadA w b off size K:=
 ⟨vs,H,λi hi=>by
  have V:i<vs.length:=by omega
  rw[h i vs[i] Js,CQ V],U⟩
structure SlAt{α:Type}(enc:α->DK)(size:Nat)(w:DA)(A:Option Addr)(l:List α):Prop where
 at_:l≠[]->∃b off,A=some ⟨b,off,none⟩/\∀(j:Nat) x,l[j]?=some x->CellsAt w b (off+j*size) (enc x)
theorem SlAt.ext{α:Type}{H:α->DK}{size:Nat}{A:Option Addr}{l:List α}(h:SlAt H size w A l)(U:Ext w w'):SlAt H size w' A l:=
 ⟨λV=>let⟨b,off,W,Z⟩:=h.at_ V;⟨b,off,W,λj x hx=>(Z j x hx).ext U⟩⟩
theorem ElemV.sl{α:Type}{U:α->DK}{size H:Nat}{A:Option Addr}{l:List α}{i:Int}{K:DF->Prop}(h:SlAt U size w A l)(W:l.length=H)(j:Nat)(e:i=(j:Int))(V:j<H)(hk:∀b off,CellsAt w b off (U (l[j]'(W ▸ V)))->K (.pointer (some ⟨b,off,none⟩))):ElemV A i H size K:=by
 obtain⟨b,off,Z,h2⟩:=h.at_ (by grind);exact⟨b,off,j,Z,e,V,(by grind)⟩
theorem ElemV.own1{H size:Nat}{i:Int}{K:DF->Prop}(j:Nat)(e:i=(j:Int))(U:j<H)(W:K (.pointer (some ⟨b,j,none⟩)))(V:size=1:=by rfl):ElemV (some ⟨b,0,none⟩) i H size K:=by
 subst V;exact⟨b,0,j,rfl,e,U,by simp_all⟩
def zeS(s:DB):DK:=[.string s]
def zeI(n:Int):DK:=[.int .i64 n]
theorem qb8{t:DD}(h:w.heap[b]?=some (.cells cur t (0,0))):(w.setRow b cs).heap[b]?=some (.cells cs t (0,0)):=
 setRow_heap w b cur cs t _ h
theorem qu(h:c≠b):(w.setRow b cs).heap[c]?=w.heap[c]?:=by
 grind [World.setRow]
theorem StoreA.mem{t:DD}{K:DI}(h:Mem w0 w L)(hi:L[i]?=some (b,.cells cur t (0,0)))(Z:off+vs.length<=cur.size)(h1:∀v∈vs,v.oneCell'=true)(H:∀w',Mem w0 w' (L.set i (b,.cells (cur.toList.take off++vs++cur.toList.drop (off+vs.length)).toArray t (0,0)))->K w'):StoreA P w b off vs K:=by
 have U:(b,Obj.cells cur t (0,0))∈L:=(by grind)
 have V:=h.get U;have W:=run_storeCells_at P b off t vs 0 cur w V (by simpa using Z) h1;simp only[Bt]at W;refine⟨_,W,H _ ?_⟩;refine h.set hi ?_ (qb8 V) (λc hc=>qu hc);exact Below.trans h.ext ⟨rfl,rfl,rfl,by simp,λk H=>qu (by have:=(h.own _ U).1;omega)⟩
structure Rw(w0 w:DA)(v:DF)(e:DD)(size n:Nat)(xs:DK)(L:DJ):Prop where
 mem:Mem w0 w L
 own:w.ownsRow w0.heap.size e size v n xs
 apart:∀x∈L,v.ownBlock≠some x.1
section
variable {P:DC} {w0 w w':DA} {v:DF} {e:DD} {size n:Nat} {xs:DK} {L:DJ}
theorem Rw.nil(h:Mem w0 w L):Rw w0 w (.slice none 0 0) e size 0 [] L:=⟨h,World.ownsRow_nil _ _ _ _,λ_ _=>by simp[Value.ownBlock]⟩
theorem Rw.slice(h:Rw w0 w v e size n xs L):∃A c,v=.slice A n c:=by
 rcases h.own.2 with⟨rfl,rfl⟩|⟨g,H,cur,rfl,_⟩
 all_goals simp
theorem Rw.len(h:Rw w0 w v e size n xs L):xs.length=n*size:=h.own.1
theorem Rw.grown{row:Option Nat}(h:Rw w0 w v e size n xs L)(U:w.grownBy w' row)(V:∀k,row=some k->w0.heap.size<=k/\∀x∈L,x.1≠k):Mem w0 w' L:=by
 refine⟨Below.grown h.mem.ext U h.mem.ext.size (by grind),λx H=>⟨(h.mem.own x H).1,?_⟩,h.mem.nodup⟩;rw[U.block x.1 (h.mem.lt H) (by grind)];exact(h.mem.own x H).2
theorem Rw.call(h:Rw w0 w v e size n xs L)(H:Ext w w'):Rw w0 w' v e size n xs L:=by
 refine⟨h.mem.call H,h.own.kept (row:=none) ⟨H.os,H.tape,H.output,H.size,λk U _=>H.block k U⟩ ?_,h.apart⟩
 grind
theorem Rw.newBlk(h:Rw w0 w v e size n xs L){o:Obj}(V:b=w.heap.size)(U:w'=w.alloc o):Rw w0 w' v e size n xs ((b,o)::L):=by
 have H:Ext w w':=by rw[U];exact(Ext.refl w).alloc o
 refine⟨h.mem.new V U,(h.call H).own,λx H=>?_⟩
 rcases Ay.1 H with rfl|H
 ·intro e;have:=h.own.lt _ e;omega
 ·exact h.apart x H
theorem AppV.rw{t ty:DD}{i:TypeInfo}{z:DF}{A:Option Addr}{m c:Nat}{news:DK}{K:DG}(ht:P.underlying t=some (.slice e))(hi:P.info? e=some i)(hz:i.zero=some z)(U:i.size=size)(aa:z.cells.size=size)(ad:0<size)(h:Rw w0 w v e size n xs L)(hl:news.length=m*size)(hA:news≠[]->∃b off,A=some ⟨b,off,none⟩/\CellsAt w b off news)(h1:∀u∈news,u.oneCell'=true)(hb:(n+m)*i.bytes<=140737488355328)(af:n+m<=140737488355328)(hk:∀V W w',Rw w0 w' (.slice V (n+m) W) e size (n+m) (xs++news) L->K (.slice V (n+m) W) w'):AppV P #[t,t] ty v (.slice A m c) w K:=by
 cases A with
 | none=>
  have hn:news=[]:=by
   simp_all
  subst hn;have hm:m=0:=by
   grind [Nat.mul_eq_zero]
  subst hm;obtain⟨V,W,rfl⟩:=h.slice;refine⟨_,w,?_,hk V W w (by simpa using h)⟩
  rcases h.own.2 with⟨e1,e2⟩|⟨g,ag,cur,e1,_,_,ae,_⟩
  ·cases e1;simp[Builtin.append_,run_underlying ht,sizeOf,typeInfo,hi,Builtin.lenOf,Builtin.firstCells]
  ·cases e1;simp[Builtin.append_,run_underlying ht,sizeOf,typeInfo,hi,Builtin.lenOf,Builtin.firstCells,ae,storeCells]
 | some a=>
  have H:∀j u,news[j]?=some u->w.cell? (a.add j)=some u:=by
   intro j u hu;obtain⟨b,off,h0,h1⟩:=hA (by grind);cases h0;rw[qaq];exact h1 j u hu
  obtain⟨v',w',Z,h2,h3,_,h5⟩:=run_append_own_at (P:=P) w w0.heap.size t ty e i z size i.bytes ht hi hz U rfl aa ad v n xs h.own a m c news hl H h1 (by grind [maxLen]) hb h.mem.ext.size;have hR:Rw w0 w' v' e size (n+m) (xs++news) L:=by
   refine⟨h.grown h3 (λk hk=>⟨(h.own.lt k hk).1,λx hx e=>h.apart x hx (by rw[hk,e])⟩),h2,λx hx=>?_⟩
   rcases h5 with h5|h5<;>rw[h5]
   ·exact h.apart x hx
   ·intro e;have:=h.mem.lt (b:=x.1) (o:=x.2) hx
    simp_all
  obtain⟨V,W,rfl⟩:=hR.slice;exact⟨_,w',Z,(by grind)⟩
end
end V
namespace V
def qacg(e:Edge):Bool:=
 match e.ground with
 | .textOnly _ | .gcOnly _=>false
 | _=>true
theorem qel(e:Edge):Region.binds .any e=qacg e:=by
 rfl
def qso:List Edge->DL
 | []=>[]
 | e::l=>bif qacg e then e.on::qso l else qso l
def qa6(o:Oper):DL:=qso o.after.toList
theorem qcs{l:List Edge}:k∈qso l↔∃e∈l,qacg e=true/\e.on=k:=by
 induction l<;>grind [qso]
theorem qcy(ρ:DH)(d:Nat)(v:DF):upd ρ d v d=v:=by simp[upd]
theorem qa2(ρ:DH)(d t:Nat)(v:DF)(h:t≠d):upd ρ d v t=ρ t:=by
 grind [Nat.eq_of_beq_eq_true,upd]
def qdl(P:DC)(ops:List Oper)(o:Oper)(ρ:DH)(w:DA)(K:DG):Prop:=
 match o.guard with
 | none=>opV P o ρ w K
 | some (j,H)=>
  match getL ops j with
  | none=>K undef w
  | some oj=>match oj.dst with
   | none=>K undef w
   | some d=>
    match ρ d with
    | .bool b=>Tst b
      (match H with
       | true=>opV P o ρ w K
       | false=>K undef w)
      (match H with
       | true=>K undef w
       | false=>opV P o ρ w K)
    | _=>K undef w
structure StepD(A:DG->Prop)(K:Option DF->DG->Prop):Prop where
 h:(∃v,A (λu _=>u=v)/\K (some v) (λu _=>u=v))\/(∃φ:DF->DA->Prop,(∀v w w',φ v w->Ext w w'->φ v w')/\A φ/\K none φ)
theorem StepD.still{A:DG->Prop}{K:Option DF->DG->Prop}(v:DF)(h:A (λu _=>u=v))(H:K (some v) (λu _=>u=v)):StepD A K:=⟨(by grind)⟩
theorem StepD.of{A:DG->Prop}{K:Option DF->DG->Prop}(H:DG)(U:∀v w w',H v w->Ext w w'->H v w')(h:A H)(V:K none H):StepD A K:=⟨(by grind)⟩
structure StepG(A:Option DF->Prop)(K:Option DF->Prop):Prop where
 h:∃v,A v/\K v
theorem StepG.of{A K:Option DF->Prop}(v:DF)(h:A (some v))(H:K (some v)):StepG A K:=⟨some v,h,H⟩
theorem StepG.any{A K:Option DF->Prop}(h:A none)(H:K none):StepG A K:=⟨none,h,H⟩
structure StepI(A:DF->Prop)(K:DF->Prop):Prop where
 h:∃v,A v/\K v
theorem StepI.of{A K:DF->Prop}(v:DF)(h:A v)(H:K v):StepI A K:=⟨v,h,H⟩
def updO(ρ:DH):Option Tmp->Option DF->Nat->DF
 | some d,some v=>upd ρ d v
 | _,_=>ρ
abbrev EL(α:Type):=List (Nat×Nat×α)
def qg2{α:Type}:EL α->Nat->Option (Nat×α)
 | [],_=>none
 | (i,x)::es,k=>bif Nat.beq i k then some x else qg2 es k
def allA(es:EL DG):DL->DH->DA->(DH->Prop)->Prop
 | [],ρ,_,K=>K ρ
 | k::H,ρ,w,K=>
  match qg2 es k with
  | some (d,U)=>∀v,U v w->allA es H (upd ρ d v) w K
  | none=>allA es H ρ w K
def idxs{α:Type}:EL α->DL
 | []=>[]
 | (i,_)::es=>i::idxs es
def qm9{α:Type}(k:Nat)(x:α)(es:EL α):Option Tmp->Option DF->EL α
 | some d,none=>(k,d,x)::es
 | _,_=>es
def regD(P:DC)(ops:List Oper)(w0:DA)(Q:DH->DI):List Oper->Nat->EL DG->DH->Prop
 | [],_,es,ρ=>∀w,Ext w0 w->allA es (idxs es) ρ w λH=>Q H w
 | o::l,k,es,ρ=>StepD
   (λU=>∀w,Ext w0 w->allA es (qa6 o) ρ w λH=>qdl P ops o H w λv w'=>Ext w w'/\U v w')
   (λv U=>regD P ops w0 Q l (k+1) (qm9 k U es o.dst v) (updO ρ o.dst v))
def setS(S:Nat->Bool)(k:Nat):Nat->Bool:=λj=>bif Nat.beq j k then true else S j
def isG:Option DF->DF->Prop
 | some c,x=>x=c
 | none,_=>True
def frG:EL Unit->DH->DH->DH
 | [],_,ρ=>ρ
 | (k,d,_)::es,vals,ρ=>frG es vals (upd ρ d (vals k))
def regG(P:DC)(ops:List Oper)(I:(Nat->Bool)->DH->DI)(Q:DH->DI):List Oper->Nat->EL Unit->DH->Prop
 | [],_,es,ρ=>∀vals w,I (λ_=>true) vals w->Q (frG es vals ρ) w
 | o::l,k,es,ρ=>StepG (λv=>∀S vals w,S k=false->(∀j∈qa6 o,S j=true)->I S vals w->qdl P ops o (frG es vals ρ) w λH w'=>isG v H/\I (setS S k) (upd vals k H) w')
   (λv=>regG P ops I Q l (k+1) (qm9 k () es o.dst v) (updO ρ o.dst v))
def regI(P:DC)(ops:List Oper)(I:(Nat->Bool)->DI)(Q:DH->DI):List Oper->Nat->DH->Prop
 | [],_,ρ=>∀w,I (λ_=>true) w->Q ρ w
 | o::l,k,ρ=>StepI (λv=>∀S w,S k=false->(∀j∈qa6 o,S j=true)->I S w->qdl P ops o ρ w λH w'=>H=v/\I (setS S k) w')
   (λv=>regI P ops I Q l (k+1) (updO ρ o.dst (some v)))
def shB(n:Nat)(ops:Array Oper)(j k:Nat)(o ok:Oper):Bool:=
 (qa6 o).all (λi=>decide (i<j))&&(match o.dst with|some d=>decide (d<n)|none=>true)&&match ok.dst with
  | some t=>(!(o.looksAt ops).contains t||((qa6 o).contains k||(qa6 ok).contains j))&&(k==j||o.dst != some t)
  | none=>true
def qjy(n:Nat)(ops:Array Oper):Bool:=
 Region.noSelect ops&&(List.range ops.size).all λj=>(List.range ops.size).all λk=>match ops[j]?,ops[k]? with
  | some o,some ok=>shB n ops j k o ok
  | _,_=>true
structure ShapeW(n:Nat)(ops:Array Oper):Prop where
 sel:Region.noSelect ops=true
 lt:∀(j:Nat) (o:Oper),ops[j]?=some o->∀k∈qa6 o,k<j
 dn:∀(j:Nat) (o:Oper),ops[j]?=some o->∀d,o.dst=some d->d<n
 look:∀(j:Nat) (o:Oper) (k:Nat) (ok:Oper) (t:Nat),ops[j]?=some o->ops[k]?=some ok->ok.dst=some t->t∈o.looksAt ops->k∈qa6 o\/j∈qa6 ok
 uniq:∀(j:Nat) (o:Oper) (k:Nat) (ok:Oper) (t:Nat),ops[j]?=some o->ops[k]?=some ok->ok.dst=some t->o.dst=some t->k=j
theorem qtk{n:Nat}(h:qjy n ops=true):ShapeW n ops:=by
 obtain⟨V,W⟩:=Bool.and_eq_true_iff.1 h;have Z:∀{j k:Nat} {o ok:Oper},ops[j]?=some o->ops[k]?=some ok->shB n ops j k o ok=true:=λ{j k o ok} H U=>by
  have:=Cv.1 (Cv.1 W j (BB.2 (BQ.1 H).1)) k (by grind)
  simp_all
 refine⟨V,λj o H k U=>?_,λj o H d hd=>?_,λj o k ok t H U ht hl=>?_,λj o k ok t H U ht ho=>?_⟩
 all_goals grind [shB]
section
variable {P:DC} {n:Nat} {ops:Array Oper} {ρ:DH}
theorem qad4{H U:DH}(V:∀cs b,o.op≠.select cs b)(h:∀t∈o.looksAt ops,H t=U t):execOp (ev H) o=execOp (ev U) o:=by
 refine execOp_congr o V λx W=>?_;cases x with
 | tmp t=>exact h t (Ah _ (Dw.2 ⟨.tmp t,by simpa using W,rfl⟩))
 | const v=>rfl
 | global g=>rfl
 | func f=>rfl
theorem qpt{H:Bool}(U:o.guard=some (j,H))(V:ops[j]?=some oj)(W:oj.dst=some d):d∈o.looksAt ops:=by
 refine Ac _ ?_
 simp_all
theorem q3i{H U:DH}{a:Act}{K2:Act->DI}(hi:ops[i]?=some o)(hS:ShapeW n ops)(ha:St n U a)(V:∀t∈o.looksAt ops,H t=U t)(h:qdl P ops.toList o H w K)(hk:∀v w',K v w'->K2 (a.put o.dst v) w'):wpOp P ops Q' i K2 a w:=by
 have aa:=Region.noSelect_spec hS.sel i o;have ae:opV P o H w K->Region.wanted o (yielded ops a.tmps)=true->wpOp P ops Q' i K2 a w:=λh hw=>by
  unfold wpOp;rw[hi];simp only[hw,if_true];have W:=q48 h;rw[qad4 (ops:=ops) (by grind) V]at W;exact .inl (OpOk.wp ha.eval W hk)
 have skip:K undef w->Region.wanted o (yielded ops a.tmps)=false->wpOp P ops Q' i K2 a w:=(by grind [wpOp])
 unfold qdl at h
 split at h
 ·grind [Region.wanted]
 ·rename_i j ad hg
  split at h
  ·grind [qa5,Region.wanted,yielded]
  ·rename_i oj hj
   rw[qa5]at hj;have Z:ops[j]?=some oj:=by simpa using hj
   split at h
   ·grind [Region.wanted,yielded]
   ·rename_i d hd
    have hy:=ha.yield (by rw[qa5];exact hj) hd (hS.dn j oj Z d hd);rw[Array.toArray_toList]at hy;rw[V d (qpt hg Z hd)]at h
    split at h
    ·rename_i b hb
     rw[hb]at hy;cases b
     ·have h:=h.f rfl
      grind [Region.wanted]
     ·have h:=h.t rfl
      grind [Region.wanted]
    grind [Region.wanted]
theorem qff(m j:Nat):(Array.replicate m false).getD j false=false:=by
 rcases AN j m with h|h<;>simp[h]
theorem countP_set(listed:Array Bool)(i:Nat)(hi:listed.getD i true=false):(listed.setIfInBounds i true).toList.count false+1=listed.toList.count false:=by
 have H:i<listed.toList.length:=by
  grind
 have U:listed.toList[i]=false:=by
  have V:i<listed.size:=by omega
  simp_all
 grind
theorem qs1{H:Region.Mode}(h:∀k,k<ops.size->listed.getD k true=true):Region.ready H ops listed=[]:=by
 rw[Dj]
 grind [mem_ready]
theorem q00(V:ShapeW n ops)(W:listed.size=ops.size)(hr:Region.ready .any ops listed=[])(k:Nat)(Z:k<ops.size):listed.getD k true=true:=by
 induction k using Nat.strongRecOn with
 | _ k ih=>
  cases hv:listed.getD k true with
  | true=>rfl
  | false=>
   have H:k∈Region.ready .any ops listed:=mem_ready.2 ⟨hv,ops[k],Js,λe he U=>by
    rw[qel]at U;have h1:=V.lt k _ (BX Z) _ (qcs.2 ⟨e,by simpa using he,U,rfl⟩)
    grind⟩
   simp_all
theorem qqk:(λj=>(listed.setIfInBounds i true).getD j true)=setS (λj=>listed.getD j true) i:=by
 funext j
 unfold setS
 by_cases H:j=i
 ·simp_all
 ·have:Nat.beq j i=false:=(by grind [Nat.eq_of_beq_eq_true])
  rw[this,getD_set_ne true Oo];rfl
theorem qei(h:setS S i k=true):k=i\/(k≠i/\S k=true):=by
 grind [Nat.eq_of_beq_eq_true,setS]
def frE:List (Nat×Nat×Option DF)->DH->DH->DH
 | [],_,ρ=>ρ
 | (k,d,v)::es,vals,ρ=>frE es vals (upd ρ d (v.getD (vals k)))
theorem qxr{vals:DH}{t:Nat}{x:DF}:∀(es:List (Nat×Nat×Option DF)) (ρ:DH),(∀k v,(k,t,v)∈es->v.getD (vals k)=x)->(ρ t=x\/∃k v,(k,t,v)∈es)->frE es vals ρ t=x
 | [],ρ,_,h=>h.elim id Js
 | (k,d,v)::es,ρ,H,h=>by
  refine qxr es _ (by grind) ?_
  grind [qcy,qa2]
theorem qbu{vals:DH}:∀(a b:List (Nat×Nat×Option DF)) (ρ:DH),frE (a++b) vals ρ=frE b vals (frE a vals ρ)
 | [],_,_=>rfl
 | _::a,b,_=>qbu a b _
structure FrI(ops:Array Oper)(ρ:DH)(E:Nat->Option DF)(S:Nat->Bool)(vals ρa:DH):Prop where
 at_:∀k o d,ops[k]?=some o->o.dst=some d->S k=true->ρa d=vals k
 miss:∀t,(∀k o,ops[k]?=some o->S k=true->o.dst≠some t)->ρa t=ρ t
 still:∀k o c,ops[k]?=some o->E k=some c->S k=true->vals k=c
structure Kn(ops:Array Oper)(E:Nat->Option DF)(i:Nat)(pr:Nat->Prop)(es:List (Nat×Nat×Option DF)):Prop where
 in_:∀k d v,(k,d,v)∈es->k<i/\E k=v/\∃o,ops[k]?=some o/\o.dst=some d
 all:∀k o d,k<i->pr k->ops[k]?=some o->o.dst=some d->(k,d,E k)∈es
theorem Kn.frame{es:List (Nat×Nat×Option DF)}{U:DH}(h:Kn ops E i pr es)(hS:ShapeW n ops)(F:FrI ops ρ E S vals U){t:Nat}(h1:∀k o,ops[k]?=some o->o.dst=some t->(k<i->S k=true/\pr k)/\(S k=true->k<i)):frE es vals ρ t=U t:=by
 by_cases hx:∃k o,ops[k]?=some o/\o.dst=some t/\S k=true
 ·obtain⟨k,o,H,V,W⟩:=hx;have hi:=(h1 k o H V).2 W;rw[F.at_ k o t H V W];refine qxr _ _ (λk' v Z=>?_) (.inr ⟨k,_,h.all k o t hi (by grind) H V⟩);obtain⟨_,he,o',aa,ad⟩:=h.in_ _ _ _ Z;obtain rfl:=hS.uniq k o k' o' t H aa ad V;cases v with
  | none=>rfl
  | some c=>exact(F.still k' o c H he W).symm
 ·rw[F.miss t (by grind)];refine qxr _ _ (λk v Z=>?_) (.inl rfl);obtain⟨hi,_,o,H,V⟩:=h.in_ _ _ _ Z
  grind
def qafm(P:DC)(ops:Array Oper)(E:Nat->Option DF)(I:(Nat->Bool)->DH->DI)(ρ:DH)(i:Nat)(o:Oper):Prop:=
 ∃es,Kn ops E i (·∈qa6 o) es/\∀S vals w,S i=false->(∀j∈qa6 o,S j=true)->I S vals w->∃R:DF->DA->Prop,qdl P ops.toList o (frE es vals ρ) w R/\∀H w',R H w'->isG (E i) H/\I (setS S i) (upd vals i H) w'
theorem q7l{Q:DH->DI}(hS:ShapeW n ops)(hE:∀i o,ops[i]?=some o->qafm P ops E I ρ i o)(hF:∃es,Kn ops E ops.size (λ_=>True) es/\∀vals w,I (λ_=>true) vals w->Q (frE es vals ρ) w):
  ∀(fuel:Nat) (L:Array Bool) (vals H:DH) (a:Act) (w:DA),L.toList.count false<=fuel->L.size=ops.size->(∀k o,ops[k]?=some o->L.getD k true=true->∀j∈qa6 o,L.getD j true=true)->
  FrI ops ρ E (λj=>L.getD j true) vals H->St n H a->I (λj=>L.getD j true) vals w->wpAny P .any ops (λe a' w'=>e=.normal/\∃W,St n W a'/\Q W w') fuel L a w:=by
 obtain⟨ef,hA,hF⟩:=hF;have ad:∀(L:Array Bool) (vals H:DH) (a:Act) (w:DA),(∀k,k<ops.size->L.getD k true=true)->L.size=ops.size->FrI ops ρ E (λj=>L.getD j true) vals H->St n H a->I (λj=>L.getD j true) vals w->
   (Exit.normal=.normal/\∃W,St n W a/\Q W w):=λL vals H a w U Z F ha hI=>by
  have hT:(λj=>L.getD j true)=λ_=>true:=by
   grind
  have he:frE ef vals ρ=H:=funext λt=>hA.frame hS F (by grind)
  grind
 intro fuel
 induction fuel with
 | zero=>
  intro L vals H a w hc Z _ F ha hI;have U:∀k,k<ops.size->L.getD k true=true:=λk V=>by
   have h1:=List.count_eq_zero.1 (show L.toList.count false=0 by omega);have ag:k<L.size:=by omega
   cases hv:L[k]with
   | true=>simp[ag,hv]
   | false=>grind
  exact⟨qs1 U,ad L vals H a w U Z F ha hI⟩
 | succ fuel ih=>
  intro L vals H a w hc Z al F ha hI;refine⟨(by grind [q00]),λi hi=>?_⟩;obtain⟨ah,o,ho,U⟩:=mem_ready.1 hi;have ai:∀k∈qa6 o,L.getD k true=true:=λk V=>by
   obtain⟨e,he,hb,am⟩:=qcs.1 V
   grind [qel]
  obtain⟨es,hK,aj⟩:=hE i o ho;obtain⟨R,h,hR⟩:=aj _ vals w ah ai hI;refine q3i ho hS ha (λt ht=>hK.frame hS F λk ok V hd=>?_) h λv' w' hr=>?_
  ·rcases hS.look i o k ok t ho V hd ht with h|h
   ·exact⟨(by grind),λ_=>hS.lt i o ho k h⟩
   ·have:=hS.lt k ok V i h
    grind
  ·obtain⟨hv,af⟩:=hR v' w' hr;rw[<-qqk]at af;refine ih _ (upd vals i v') (match o.dst with|some d=>upd H d v' | none=>H) _ _ (by grind [countP_set]) (by simp[Z]) ?_ ?_ ?_ af
   ·have an:∀j,L.getD j true=true->(L.setIfInBounds i true).getD j true=true:=λj hj=>by
     rw[congrFun qqk j,setS,hj];simp
    intro k ok V hl j hj;rw[congrFun qqk k]at hl
    grind [qei]
   ·rw[qqk];refine⟨λk ok d V hd hs=>?_,λt ht=>?_,λk ok c V he hs=>?_⟩
    ·rcases qei hs with rfl|⟨aa,hs⟩
     ·obtain rfl:=AR (ho.symm.trans V)
      simp_all[qcy]
     ·rw[qa2 _ _ _ _ aa,<-F.at_ k ok d V hd hs];cases ae:o.dst with
      | none=>rfl
      | some d'=>exact qa2 _ _ _ _ λe=>aa (hS.uniq i o k ok d ho V hd (e ▸ ae))
    ·rw[<-F.miss t (by grind [setS])];cases ae:o.dst with
     | none=>rfl
     | some d'=>exact qa2 _ _ _ _ λe=>ht i o ho (by simp[setS]) (e ▸ ae)
    ·rcases qei hs with rfl|⟨aa,hs⟩
     ·rw[he]at hv;rw[qcy];exact hv
     ·rw[qa2 _ _ _ _ aa];exact F.still k ok c V he hs
   ·cases ak:o.dst with
    | none=>exact ha
    | some d=>exact ha.put (hS.dn i o ho d ak) v'
end
structure AnyV(P:DC)(n:Nat)(ops:Array Oper)(R:DH->DI)(ρ:DH)(w:DA):Prop where
 h:∀a,St n ρ a->wpAny P .any ops (λe a' w'=>e=.normal/\∃ρ',St n ρ' a'/\R ρ' w') ops.size (Array.replicate ops.size false) a w.drew
theorem AnyV.draw{n:Nat}{Q:Exit->DH->DI}(U:P.follows .mixedOrders=true)(h:AnyV P n ops (λH w'=>Q .normal H w') ρ w):DrawV P n id ops Q ρ w:=
 ⟨λa V=>Code.wp_mono (by grind) (wp_region_any U (h.h a V))⟩
section
variable {P:DC} {n:Nat} {ops:Array Oper} {R:DH->DI} {ρ:DH} {w:DA}
theorem AnyV.core(U:qjy n ops=true)(h0:∀vals,I (λj=>Nat.ble ops.size j) vals w.drew)(V:∀i o,ops[i]?=some o->qafm P ops E I ρ i o)(W:∃es,Kn ops E ops.size (λ_=>True) es/\∀vals w,I (λ_=>true) vals w->R (frE es vals ρ) w):AnyV P n ops R ρ w:=by
 have e:(λj=>(Array.replicate ops.size false).getD j true)=λj=>Nat.ble ops.size j:=by
  funext j
  rcases AN j ops.size with H|H
  ·have Z:Nat.ble ops.size j=false:=CD.2 λe=>by have:=Ck e;omega
   simp[H,Z]
  simp_all
 have no:∀{k o},ops[k]?=some o->Nat.ble ops.size k=true->False:=(by grind [Nat.le_of_ble_eq_true])
 refine⟨λa ha=>q7l (qtk U) V W _ _ (λ_=>undef) ρ a _ Js Js (λk o ho hk=>?_) ?_ ha ?_⟩
 ·simp_all
 ·rw[e];exact⟨(by grind),λ_ _=>rfl,(by grind)⟩
 simp_all
def regX{α:Type}(A:Nat->Oper->EL α->DH->Option DF->α->Prop)(B:EL α->DH->Prop):List Oper->Nat->EL α->DH->Prop
 | [],_,es,ρ=>B es ρ
 | o::l,k,es,ρ=>∃v x,A k o es ρ v x/\regX A B l (k+1) (qm9 k x es o.dst v) (updO ρ o.dst v)
structure Sofar{α:Type}(ops:Array Oper)(E:Nat->Option DF)(X:Nat->α)(k:Nat)(es:EL α)(st:List (Nat×Nat×Option DF)):Prop where
 st:∀j d v,(j,d,v)∈st↔j<k/\E j=v/\v≠none/\∃o,ops[j]?=some o/\o.dst=some d
 es:∀j d x,(j,d,x)∈es↔j<k/\E j=none/\X j=x/\∃o,ops[j]?=some o/\o.dst=some d
section
variable {α:Type}
theorem qqh{A:Nat->Oper->EL α->DH->Option DF->α->Prop}{B:EL α->DH->Prop}:∀(l:List Oper) (k:Nat) (es:EL α) (U:DH) (E:Nat->Option DF) (X:Nat->α) (H:List (Nat×Nat×Option DF)),
  (∀(j:Nat) (o:Oper),l[j]?=some o->ops[k+j]?=some o)->(∀vals,U=frE H vals ρ)->Sofar ops E X k es H->regX A B l k es U->∃E' X',(∀j,j<k\/k+l.length<=j->E' j=E j/\X' j=X j)/\
   (∀i o,k<=i->i<k+l.length->ops[i]?=some o->∃es H Z,(∀vals,Z=frE H vals ρ)/\Sofar ops E' X' i es H/\A i o es Z (E' i) (X' i))/\
   ∃es H Z,(∀vals,Z=frE H vals ρ)/\Sofar ops E' X' (k+l.length) es H/\B es Z
 | [],k,es,U,E,X,H,_,V,hs,h=>⟨E,X,Js,(by grind),es,H,U,V,hs,h⟩
 | o::l,k,es,U,E,X,H,hl,V,hs,⟨v,x,hA,h⟩=>by
  have ho:ops[k]?=some o:=hl 0 o rfl;have ad:∀(j:Nat) (o:Oper),l[j]?=some o->ops[k+1+j]?=some o:=λj o h=>by rw[show k+1+j=k+(j+1)by omega];simp_all
  obtain⟨E1,hE,ah⟩:∃E1:Nat->Option DF,(∀j,j≠k->E1 j=E j)/\E1 k=v:=⟨λj=>if j=k then v else E j,(by grind),Ab rfl⟩
  obtain⟨X1,hX,ai⟩:∃X1:Nat->α,(∀j,j≠k->X1 j=X j)/\X1 k=x:=⟨λj=>if j=k then x else X j,(by grind),Ab rfl⟩
  have ae:∀{E':Nat->Option DF} {X':Nat->α},(∀j,j<k->E' j=E j/\X' j=X j)->Sofar ops E' X' k es H:=λh=>⟨λj d v=>(hs.st j d v).trans (by grind),λj d x=>(hs.es j d x).trans (by grind)⟩
  have W:=ae λj hj=>⟨hE j (Du hj),hX j (Du hj)⟩
  obtain⟨aa,h1,h2⟩:∃aa,(∀vals,updO U o.dst v=frE aa vals ρ)/\Sofar ops E1 X1 (k+1) (qm9 k x es o.dst v) aa:=by
   cases hd:o.dst with
   | none=>exact⟨H,V,⟨by grind [W.st],by grind [W.es,qm9]⟩⟩
   | some d=>
    cases v with
    | none=>exact⟨H,V,⟨by grind [W.st],by grind [W.es,qm9]⟩⟩
    | some c=>exact⟨H++[(k,d,some c)],λvals=>by rw[qbu,<-V];rfl,⟨by grind [W.st],by grind [W.es,qm9]⟩⟩
  obtain⟨E',X',k1,k2,k3⟩:=qqh l (k+1) _ _ E1 X1 aa ad h1 h2 h;have af:k+(o::l).length=k+1+l.length:=by grind
  rw[af];have k4:∀j,j<k\/k+1+l.length<=j->E' j=E j/\X' j=X j:=(by grind)
  refine⟨E',X',k4,λi o' hi aj ag=>?_,k3⟩
  by_cases e:i=k
  ·subst e;obtain rfl:=AR (ho.symm.trans ag);refine⟨es,H,U,V,(by grind),?_⟩
   simp_all
  grind
theorem q5s{A:Nat->Oper->EL α->DH->Option DF->α->Prop}{B:EL α->DH->Prop}(x:α)(h:regX A B ops.toList 0 [] ρ):∃E X,(∀i o,ops[i]?=some o->∃es U H,(∀vals,H=frE U vals ρ)/\Sofar ops E X i es U/\A i o es H (E i) (X i))/\
  ∃es U H,(∀vals,H=frE U vals ρ)/\Sofar ops E X ops.size es U/\B es H:=by
 obtain⟨E,X,_,V,W⟩:=qqh (ops:=ops) (ρ:=ρ) _ 0 [] ρ (λ_=>none) (λ_=>x) [] Js (λ_=>rfl) ⟨by simp,by simp⟩ h
 grind
theorem qdn{es:EL α}{x:Nat×α}(h:qg2 es k=some x):(k,x)∈es:=by
 induction es<;>grind [qg2,Nat.eq_of_beq_eq_true]
theorem qi1{es:EL α}{x:Nat×α}(h:(k,x)∈es):k∈idxs es/\∃x,qg2 es k=some x:=by
 induction es with
 | nil=>cases h
 | cons y es H=>
  obtain⟨i,y⟩:=y;simp only[qg2,idxs];cases U:Nat.beq i k
  ·rcases Ay.1 h with e|h
   all_goals simp_all
  simp_all
def subA(es:EL α)(H:DL):List (Nat×Nat×Option DF):=H.filterMap λk=>(qg2 es k).map λx=>(k,x.1,none)
theorem Sofar.kn{X:Nat->α}{es:EL α}{st:List (Nat×Nat×Option DF)}(U:Sofar ops E X i es st){ks:DL}(hk:∀k x,(k,x)∈es->pr k->k∈ks):Kn ops E i pr (st++subA es ks):=by
 refine⟨λk d v H=>?_,λk o d aa hp ho hd=>?_⟩
 ·rcases AU.1 H with H|H
  ·obtain⟨h1,h2,_,h3⟩:=(U.st _ _ _).1 H
   simp_all
  ·obtain⟨k',_,h⟩:=Dw.1 H;obtain⟨x,V,e⟩:=C6.1 h;cases e;obtain⟨h1,h2,_,h3⟩:=(U.es _ _ _).1 (qdn V)
   simp_all
 ·cases he:E k with
  | some c=>exact Ah _ ((U.st _ _ _).2 (by grind))
  | none=>
   have H:=(U.es k d (X k)).2 (by grind);obtain⟨x,V⟩:=(qi1 H).2;obtain⟨_,_,_,o',W,Z⟩:=(U.es _ _ _).1 (qdn V);obtain rfl:=AR (ho.symm.trans W);obtain rfl:=AR (hd.symm.trans Z);exact Ac _ (Dw.2 ⟨k,hk _ _ H hp,by rw[V];rfl⟩)
end
theorem qt2{es:EL DG}{vals:DH}{w:DA}{K:DH->Prop}:∀(H:DL) (ρ:DH),(∀k d V,qg2 es k=some (d,V)->k∈H->V (vals k) w)->allA es H ρ w K->K (frE (subA es H) vals ρ)
 | [],_,_,h=>h
 | k::H,ρ,Z,h=>by
  unfold allA at h;have W:=λρ h=>qt2 (vals:=vals) (K:=K) H ρ (λk' d V hl hm=>Z k' d V hl (CH _ hm)) h
  unfold subA at W|-;cases U:qg2 es k with
  | none=>rw[U]at h;simpa[U]using W _ h
  | some x=>
   rw[U]at h;have:=W _ (h _ (Z k _ _ U (AJ ..)))
   simpa[U,frE]using this
theorem q5r{P:DC}{ops:List Oper}{w0:DA}{Q:DH->DI}:∀(l:List Oper) (k:Nat) (es:EL DG) (ρ:DH),regD P ops w0 Q l k es ρ->
  regX (λ_ o es ρ v U=>(∀u w,U u w->isG v u)/\(∀u w w',U u w->Ext w w'->U u w')/\∀w,Ext w0 w->allA es (qa6 o) ρ w λH=>qdl P ops o H w λv w'=>Ext w w'/\U v w') (λes ρ=>∀w,Ext w0 w->allA es (idxs es) ρ w λH=>Q H w) l k es ρ
 | [],_,_,_,h=>h
 | _::l,_,_,_,⟨.inl ⟨v,V,W⟩⟩=>⟨some v,_,⟨λ_ _ h=>h,(by grind),V⟩,q5r l _ _ _ W⟩
 | _::l,_,_,_,⟨.inr ⟨U,Z,V,W⟩⟩=>⟨none,U,⟨λ_ _ _=>trivial,Z,V⟩,q5r l _ _ _ W⟩
theorem AnyV.free(hB:qjy n ops=true)(h:regD P ops.toList w.drew R ops.toList 0 [] ρ):AnyV P n ops R ρ w:=by
 obtain⟨E,X,h1,es,st,ad,Z,U,h2⟩:=q5s (λ_ _=>True) (q5r _ _ _ _ h);refine .core (E:=E) (I:=λS vals H=>Ext w.drew H/\∀(k:Nat) (o:Oper),ops[k]?=some o->S k=true->X k (vals k) H) hB (λvals=>⟨Ext.refl _,λk o ho hk=>?_⟩) (λi o ho=>?_) ⟨_,U.kn (ks:=idxs es) (by grind [qi1]),λvals H W=>?_⟩
 ·simp_all
 ·obtain⟨es,st,ae,Z,U,hv,_,h3⟩:=h1 i o ho;refine⟨_,U.kn (ks:=qa6 o) λ_ _ _ h=>h,λS vals H hS hp W=>⟨λv w'=>Ext H w'/\X i v w',?_,λv' w' ⟨hx,aa⟩=>⟨hv _ _ aa,W.1.trans hx,λk o' V hk=>?_⟩⟩⟩
  ·rw[qbu,<-Z vals];exact qt2 _ _ (λk d φ hl hm=>by
    obtain⟨_,_,e,o',V,_⟩:=(U.es _ _ _).1 (qdn hl)
    grind) (h3 H W.1)
  grind [qei,qcy,qa2]
 ·rw[qbu,<-Z vals];exact qt2 _ _ (λk d φ hl _=>by
   obtain⟨_,_,e,o',V,_⟩:=(U.es _ _ _).1 (qdn hl)
   grind) (h2 H W.1)
theorem q29{vals:DH}:∀(es:EL Unit) (ρ:DH),frG es vals ρ=frE (es.map λx=>(x.1,x.2.1,none)) vals ρ
 | [],_=>rfl
 | _::es,_=>q29 es _
theorem Sofar.knG{X:Nat->Unit}{es:EL Unit}{V:List (Nat×Nat×Option DF)}(U:Sofar ops E X i es V):Kn ops E i pr (V++es.map λx=>(x.1,x.2.1,none)):=by
 refine⟨λk d v H=>?_,λk o d W hp ho hd=>?_⟩
 ·rcases AU.1 H with H|H
  ·obtain⟨Z,h2,_,h3⟩:=(U.st _ _ _).1 H
   simp_all
  ·obtain⟨x,hx,e⟩:=AA.1 H;cases e;obtain⟨Z,h2,_,h3⟩:=(U.es _ _ _).1 hx
   simp_all
 ·cases he:E k with
  | some c=>exact Ah _ ((U.st _ _ _).2 (by grind))
  | none=>exact Ac _ (AA.2 ⟨_,(U.es k d (X k)).2 (by grind),rfl⟩)
theorem qabr{P:DC}{ops:List Oper}{I:(Nat->Bool)->DH->DI}{Q:DH->DI}:∀(l:List Oper) (k:Nat) (es:EL Unit) (ρ:DH),regG P ops I Q l k es ρ->
  regX (λk o es ρ v _=>∀S vals w,S k=false->(∀j∈qa6 o,S j=true)->I S vals w->qdl P ops o (frG es vals ρ) w λH w'=>isG v H/\I (setS S k) (upd vals k H) w') (λes ρ=>∀vals w,I (λ_=>true) vals w->Q (frG es vals ρ) w) l k es ρ
 | [],_,_,_,h=>h
 | _::l,_,_,_,⟨v,U,V⟩=>⟨v,_,U,qabr l _ _ _ V⟩
theorem AnyV.gen(I:(Nat->Bool)->DH->DI)(U:qjy n ops=true)(V:∀vals,I (λj=>Nat.ble ops.size j) vals w.drew)(h:regG P ops.toList I R ops.toList 0 [] ρ):AnyV P n ops R ρ w:=by
 obtain⟨E,X,W,es,Z,aa,hr,H,h2⟩:=q5s () (qabr _ _ _ _ h);refine .core (E:=E) (I:=I) U V (λi o ho=>?_) ⟨_,H.knG,λvals w1 hI=>?_⟩
 ·obtain⟨es,Z,ad,hr,H,h3⟩:=W i o ho;refine⟨_,H.knG,λS vals w1 hS hp hI=>⟨_,?_,λv' w' h=>h⟩⟩
  grind [qbu,q29]
 grind [qbu,q29]
theorem qyo{P:DC}{ops:List Oper}{I:(Nat->Bool)->DI}{Q:DH->DI}:∀(l:List Oper) (k:Nat) (ρ:DH),regI P ops I Q l k ρ->regG P ops (λS _ w=>I S w) Q l k [] ρ
 | [],_,_,h=>λ_ w H=>h w H
 | o::l,k,ρ,⟨v,U,V⟩=>⟨some v,λS _ w W Z H=>U S w W Z H,by
  have:qm9 k () [] o.dst (some v)=[]:=by cases o.dst<;>rfl
  rw[this];exact qyo l _ _ V⟩
end
section
variable {P:DC} {n id:Nat} {ops:Array Oper} {Q:Exit->DH->DI} {ρ:DH} {w:DA}
theorem DrawV.free(U:P.follows .mixedOrders=true)(V:qjy n ops=true)(h:regD P ops.toList w.drew (λH w'=>Q .normal H w') ops.toList 0 [] ρ):DrawV P n id ops Q ρ w:=(AnyV.free V h).draw U
theorem DrawV.gen(I:(Nat->Bool)->DH->DI)(U:P.follows .mixedOrders=true)(V:qjy n ops=true)(W:∀vals,I (λj=>Nat.ble ops.size j) vals w.drew)(h:regG P ops.toList I (λH w'=>Q .normal H w') ops.toList 0 [] ρ):DrawV P n id ops Q ρ w:=(AnyV.gen I V W h).draw U
theorem DrawV.inv(I:(Nat->Bool)->DI)(U:P.follows .mixedOrders=true)(V:qjy n ops=true)(W:I (λj=>Nat.ble ops.size j) w.drew)(h:regI P ops.toList I (λH w'=>Q .normal H w') ops.toList 0 ρ):DrawV P n id ops Q ρ w:=.gen (λS _ w=>I S w) U V (λ_=>W) (qyo _ _ _ h)
end
end V
namespace V
def resC(P:DC)(ρ:DH)(w:DA):List ResultVar->(DK->Prop)->Prop
 | [],K=>K []
 | .tmp t::l,K=>qiz (ρ t) λv=>resC P ρ w l λvs=>K (v::vs)
 | .cell c ty::l,K=>qz1 P ty (ρ c) w λv=>resC P ρ w l λvs=>K (v::vs)
def one(vs:DK):DF:=
 match vs with
 | [v]=>v
 | l=>.tuple l.toArray
theorem qz2{t:DD}{K:DF->Prop}(h:qz1 P t x w K):∃v,(do loadVar t (<-asAddr x):Sem DF).run P w=.ok v w/\K v:=by
 unfold qz1 at h
 split at h
 ·rename_i d b off hu
  cases V:aggD d<;>rw[V]at h
  ·obtain⟨v,H,U⟩:=h
   simp_all[qbl,asAddr,loadVar,qef]
  ·cases W:hasT P t<;>rw[W]at h
   ·exact h.elim
   ·obtain⟨cs,hl,Z,U⟩:=h;rw[qan]at U;refine⟨_,?_,U⟩;have:=run_loadCells_list (P:=P) w ⟨b,off,none⟩ cs (λj v H=>by
     have hj:j<cs.length:=by
      rcases AN j cs.length with h|h
      ·exact h
      ·rw[AY h]at H;cases H
     rw[qaq,Z j Oo];exact H)
    simp_all[asAddr,loadVar,qef,qae]
 ·exact h.elim
theorem qaeo{H:DN}(U:∀t,H.getD t undef=ρ t)(l:List ResultVar):∀K:DK->Prop,resC P ρ w l K->
  ∃vs,(l.mapM (resF H)).run P w=.ok vs w/\K vs:=by
 induction l with
 | nil=>intro K h;exact⟨[],by simp,h⟩
 | cons x l V=>
  intro K h;cases x with
  | tmp t=>
   simp only[resC,qbl]at h
   grind [Sem.run_bind,resF,Sem.run_pure,Result.andThen_ok]
  | cell c ty=>
   simp only[resC]at h;obtain⟨v,W,Z⟩:=qz2 h;obtain⟨vs,h1,h2⟩:=V _ Z;refine⟨v::vs,?_,h2⟩;have e:resF H (.cell c ty)=(do loadVar ty (<-asAddr (ρ c))):=by rw[<-U];rfl
   rw[List.mapM_cons,Sem.run_bind,e,W,Result.andThen_ok,Sem.run_bind,h1];rfl
theorem qd{n:Nat}{H:Func}(h:resC P ρ w H.results.toList λvs=>R (one vs) w):
  ∀a,St n ρ a->∃v,(results H a.tmps).run P w=.ok v w/\R v w:=by
 intro a U;obtain⟨vs,V,W⟩:=qaeo U.get H.results.toList _ h;refine⟨one vs,?_,W⟩;have e:results H a.tmps=(do let vs <-H.results.mapM (resF a.tmps);pure (if h:vs.size=1 then vs[0]else .tuple vs)):=by
  rfl
 rw[e,CN];simp[V]
 match vs with
 | [v]=>rfl
 | []=>rfl
 | v::u::l=>simp[one]
end V
namespace V
structure Chg(w w':DA)(B:List (Option Nat)):Prop where
 os:w'.os=w.os
 tape:w'.tape=w.tape
 output:w'.output=w.output
 size:w.heap.size<=w'.heap.size
 block:∀k,k<w.heap.size->some k∉B->w'.heap[k]?=w.heap[k]?
theorem Chg.ext{B:List (Option Nat)}(h:Ext w w'):Chg w w' B:=⟨h.os,h.tape,h.output,h.size,λk H _=>h.block k H⟩
def q8z(u:Option Nat)(i:Option Nat):Bool:=
 match u with
 | none=>true
 | some a=>match i with
  | none=>false
  | some b=>Nat.beq a b
abbrev AL:=EL (Option Nat×DG)
def allO(base:Nat)(es:AL)(i:Option Nat):DL->DH->DA->(DH->Prop)->Prop
 | [],ρ,_,K=>K ρ
 | k::H,ρ,w,K=>
  match qg2 es k with
  | some (d,u,U)=>bif q8z u i then ∀v,U v w->(∀g,v.ownBlock=some g->base<=g/\g<w.heap.size)->allO base es i H (upd ρ d v) w K else ∀v,allO base es i H (upd ρ d v) w K
  | none=>allO base es i H ρ w K
def qm0(es:AL)(i:Nat):DL->DH->List (Option Nat)
 | [],_=>[]
 | k::H,ρ=>
  match qg2 es k with
  | some (d,u,_)=>match u with
   | some j=>bif Nat.beq j i then(ρ d).ownBlock::qm0 es i H ρ else qm0 es i H ρ
   | none=>qm0 es i H ρ
  | none=>qm0 es i H ρ
def Loc(base:Nat)(H:DG):Prop:=
 ∀v w w',H v w->(∀k,k<w.heap.size->(k<base\/v.ownBlock=some k)->w'.heap[k]?=w.heap[k]?)->w.heap.size<=w'.heap.size->H v w'
def PostO(w:DA)(B:List (Option Nat))(H:Bool)(U:DG)(v:DF)(w':DA):Prop:=
 Chg w w' B/\U v w'/\(H=false->∀g,v.ownBlock=some g->g<w'.heap.size/\(some g∈B\/w.heap.size<=g))
structure StepO(base:Nat)(A:Bool->DG->Prop)(K:Option DF->Option Nat->DG->Prop):Prop where
 h:(∃v,A true (λu _=>u=v)/\K (some v) none (λu _=>u=v))\/(∃u φ,Loc base φ/\A false φ/\K none u φ)
theorem StepO.still{base:Nat}{A:Bool->DG->Prop}{K:Option DF->Option Nat->DG->Prop}(v:DF)(h:A true (λu _=>u=v))(H:K (some v) none (λu _=>u=v)):StepO base A K:=⟨(by grind)⟩
def regO(P:DC)(ops:List Oper)(w0:DA)(Q:DH->DI):List Oper->Nat->AL->DH->Prop
 | [],_,_,_=>False
 | [o],k,es,ρ=>∀w,Ext w0 w->allO w0.heap.size es (some k) (idxs es) ρ w λH=>qdl P ops o H w λv w'=>Q (updO H o.dst (some v)) w'
 | o::l,k,es,ρ=>StepO w0.heap.size
   (λU V=>∀w,Ext w0 w->allO w0.heap.size es (some k) (qa6 o) ρ w λH=>qdl P ops o H w (PostO w (qm0 es k (qa6 o) H) U V))
   (λv u V=>regO P ops w0 Q l (k+1) (qm9 k (u,V) es o.dst v) (updO ρ o.dst v))
section
variable {P:DC} {n:Nat} {ops:Array Oper} {base:Nat}
theorem qrz{H U:DH}:∀(es:List (Nat×Nat×Option DF)) (ρ:DH),(∀k d v,(k,d,v)∈es->H k=U k)->frE es H ρ=frE es U ρ
 | [],_,_=>rfl
 | (k,d,v)::es,ρ,h=>by
  rw[frE,frE,h k d v (AJ ..)];exact qrz es _ λk d v V=>h k d v (CH _ V)
theorem qt3{es:AL}{i:Option Nat}{vals:DH}{w:DA}{K:DH->Prop}:∀(H:DL) (ρ:DH),
  (∀k d u U,qg2 es k=some (d,u,U)->k∈H->q8z u i=true->U (vals k) w/\∀g,(vals k).ownBlock=some g->base<=g/\g<w.heap.size)->allO base es i H ρ w K->K (frE (subA es H) vals ρ)
 | [],_,_,h=>h
 | k::H,ρ,V,h=>by
  unfold allO at h;have Z:=λρ h=>qt3 (vals:=vals) (K:=K) H ρ (λk' d u U hl hm=>V k' d u U hl (CH _ hm)) h
  unfold subA at Z|-;cases W:qg2 es k with
  | none=>rw[W]at h;simpa[W]using Z _ h
  | some x=>
   obtain⟨d,u,U⟩:=x;rw[W]at h;have V:=V k d u U W (AJ ..);have:K (frE (H.filterMap λk=>(qg2 es k).map λx=>(k,x.1,none)) vals (upd ρ d (vals k))):=by
    simp only at h;cases hb:q8z u i<;>rw[hb]at h
    ·exact Z _ (h _)
    ·exact Z _ (h _ (V hb).1 (V hb).2)
   simpa[W,frE]using this
theorem qty{es:AL}{i:Nat}{ρ:DH}{g:Nat}:∀H,some g∈qm0 es i H ρ->∃k d U,k∈H/\qg2 es k=some (d,some i,U)/\(ρ d).ownBlock=some g
 | [],h=>by cases h
 | k::H,h=>by
  have Z:=qty (es:=es) (i:=i) (ρ:=ρ) (g:=g) H;unfold qm0 at h
  split at h
  ·rename_i d u U W
   split at h
   ·rename_i j
    cases V:Nat.beq j i<;>rw[V]at h
    ·grind
    ·have:=AW V;subst this
     rcases Ay.1 h with h|h
     ·exact⟨k,d,U,AJ ..,W,h.symm⟩
     ·grind
   ·grind
  ·grind
def Live(X:Nat->Option Nat×DG)(S:Nat->Bool)(k:Nat):Prop:=S k=true/\∀j,(X k).1=some j->S j=false
structure InvO(base m:Nat)(E:Nat->Option DF)(X:Nat->Option Nat×DG)(S:Nat->Bool)(vals:DH)(w:DA):Prop where
 φ:∀k,k<m->Live X S k->(X k).2 (vals k) w
 own:∀k g,k<m->E k=none->Live X S k->(vals k).ownBlock=some g->base<=g/\g<w.heap.size
 apart:∀k k' g,k<m->k'<m->E k=none->E k'=none->Live X S k->Live X S k'->k≠k'->(vals k).ownBlock=some g->(vals k').ownBlock≠some g
theorem qnx{X:Nat->Option Nat×DG}(h:q8z (X k).1 (some i)=true)(H:S k=true)(hi:S i=false):Live X S k:=by
 refine⟨H,λj U=>?_⟩;rw[U]at h;have:j=i:=AW h
 simp_all
theorem InvO.step{X:Nat->Option Nat×DG}{v:DF}{B:List (Option Nat)}(J:InvO base m E X S vals w)(hi:S i=false)(av:base<=w.heap.size)(af:∀k,k<m->E k=none->Loc base (X k).2)(aw:∀k,k<m->E k≠none->∀x w w',(X k).2 x w->(X k).2 x w')(hB:∀g,some g∈B->∃k,k<m/\E k=none/\(X k).1=some i/\S k=true/\(vals k).ownBlock=some g)(h:PostO w B (E i).isSome (X i).2 v w'):InvO base m E X (setS S i) (upd vals i v) w':=by
 obtain⟨V,ax,ag⟩:=h;have ae:∀g,some g∈B->∃k,k<m/\E k=none/\(X k).1=some i/\Live X S k/\(vals k).ownBlock=some g:=λg W=>by
  obtain⟨k,h1,h2,h3,h4,h5⟩:=hB g W;exact⟨k,h1,h2,h3,⟨h4,λj hj=>by rw[h3]at hj;cases hj;exact hi⟩,h5⟩
 have au:∀g,some g∈B->base<=g/\g<w.heap.size:=λg W=>by
  obtain⟨k,h1,h2,_,h4,h5⟩:=ae g W;exact J.own k g h1 h2 h4 h5
 have ad:∀{k},Live X (setS S i) k->k=i\/(k≠i/\Live X S k/\(X k).1≠some i):=λ{k} ⟨h1,h2⟩=>by
  rcases qei h1 with rfl|⟨U,h1⟩
  ·omega
  ·refine .inr ⟨U,⟨h1,λj hj=>?_⟩,λhu=>?_⟩
   all_goals simp_all[setS]
 have ay:∀k g,k<m->E k=none->Live X S k->(X k).1≠some i->E i=none->v.ownBlock=some g->(vals k).ownBlock≠some g:=λk g U hE H hu ak W Z=>by
  rcases(ag (by rw[ak];rfl) g W).2 with h2|h2
  ·obtain⟨k2,h3,h4,h5,h6,h7⟩:=ae g h2;exact J.apart k k2 g U h3 hE h4 H h6 (by grind) Z h7
  ·have:=(J.own k g U hE H Z).2;omega
 refine⟨λk U H=>?_,λk g U hE H W=>?_,λk k' g U al hE am H an ao W Z=>?_⟩
 ·rcases ad H with rfl|⟨aa,H,hu⟩
  ·grind [qcy]
  ·rw[qa2 _ _ _ _ aa];have ah:=J.φ k U H
   by_cases hE:E k=none
   ·refine af k U hE _ w w' ah (λb hb aq=>V.block b hb λai=>?_) V.size
    rcases aq with h|h
    ·grind
    ·obtain⟨k2,h3,h4,h5,h6,h7⟩:=ae b ai;exact J.apart k k2 b U h3 hE h4 H h6 (by grind) h h7
   grind
 ·rcases ad H with rfl|⟨aa,H,hu⟩
  ·grind [qcy]
  ·rw[qa2 _ _ _ _ aa]at W;have:=J.own k g U hE H W;have:=V.size;omega
 ·rcases ad H with rfl|⟨aa,kl,hu⟩<;>rcases ad an with rfl|⟨aj,ar,az⟩
  ·omega
  ·grind [qcy,qa2]
  ·grind [qcy,qa2]
  ·rw[qa2 _ _ _ _ aa]at W;rw[qa2 _ _ _ _ aj]at Z;exact J.apart k k' g U al hE am kl ar ao W Z
def AO(P:DC)(ops:List Oper)(w0:DA)(k:Nat)(o:Oper)(es:AL)(ρ:DH)(v:Option DF)(x:Option Nat×DG):Prop:=
 (v=none->Loc w0.heap.size x.2)/\(v≠none->∀u w w',x.2 u w->x.2 u w')/\(∀u w,x.2 u w->isG v u)/\∀w,Ext w0 w->allO w0.heap.size es (some k) (qa6 o) ρ w λH=>qdl P ops o H w (PostO w (qm0 es k (qa6 o) H) v.isSome x.2)
theorem qabs{ops:List Oper}{w0:DA}{Q:DH->DI}:∀(l:List Oper) (k:Nat) (es:AL) (ρ:DH),regO P ops w0 Q l k es ρ->∃H o,l=H++[o]/\
  regX (AO P ops w0)
   (λes ρ=>∀w,Ext w0 w->allO w0.heap.size es (some (k+H.length)) (idxs es) ρ w λU=>qdl P ops o U w λv w'=>Q (updO U o.dst (some v)) w') H k es ρ
 | [],_,_,_,h=>h.elim
 | [o],k,es,ρ,h=>⟨[],o,rfl,h⟩
 | o::W::l,k,es,ρ,h=>by
  have V:∀v x,AO P ops w0 k o es ρ v x->regO P ops w0 Q (W::l) (k+1) (qm9 k x es o.dst v) (updO ρ o.dst v)->∃H Z,o::W::l=H++[Z]/\regX (AO P ops w0) (λes ρ=>∀w,Ext w0 w->allO w0.heap.size es (some (k+H.length)) (idxs es) ρ w λU=>qdl P ops Z U w λv w'=>Q (updO U Z.dst (some v)) w') H k es ρ:=λv x hA hK=>by
   obtain⟨H,o',e,hX⟩:=qabs (W::l) _ _ _ hK;refine⟨o::H,o',by rw[e];rfl,v,x,hA,?_⟩;rw[show k+(o::H).length=k+1+H.length by rw[Au];omega];exact hX
  obtain⟨v,h1,h2⟩|⟨u,φ,h0,h1,h2⟩:=StepO.h h
  ·exact V (some v) (none,_) ⟨(nomatch ·),Js,λ_ _ h=>h,h1⟩ h2
  ·exact V none (u,φ) ⟨λ_=>h0,Js,λ_ _ _=>trivial,h1⟩ h2
end
def qcr(ops:Array Oper):Bool:=
 match ops[ops.size-1]? with
 | some o=>(List.range (ops.size-1)).all λk=>(qa6 o).contains k
 | none=>false
theorem DrawV.own{n:Nat}{Q:Exit->DH->DI}(Z:P.follows .mixedOrders=true)(hB:(qjy n ops&&qcr ops)=true)(h:regO P ops.toList w.drew (λH w'=>Q .normal H w') ops.toList 0 [] ρ):DrawV P n id ops Q ρ w:=by
 obtain⟨hW,hL⟩:=Bool.and_eq_true_iff.1 hB;obtain⟨l,ol,el,hX⟩:=qabs _ _ _ _ h;have hS:=qtk hW;obtain⟨m,em⟩:∃m,m=l.length:=⟨_,rfl⟩
 have a1:ops.size=m+1:=by have:=Ad List.length el;grind
 have an:ops[m]?=some ol:=by rw[<-CC,el,em];simp
 have ao:∀k,k<m->k∈qa6 ol:=λk V=>by
  simp_all[qcr]
 obtain⟨E,X,V,h1,es,st,a2,hr,hs,h2⟩:=qqh (ops:=ops) (ρ:=ρ) l 0 [] ρ (λ_=>none) (λ_=>(none,λ_ _=>True)) [] (λj o hj=>by
  rw[<-CC,el,As,AS (Ae.1 hj).1];exact hj) (λ_=>rfl) ⟨by simp,by simp⟩ hX
 rw[As,<-em]at hs h2;have h1:=λi o (hi:i<m) ho=>h1 i o (Af _) Oo ho
 have aq:E m=none:=(by grind)
 have kn:=hs.kn (pr:=λ_=>True) (ks:=idxs es) (by grind [qi1]);obtain⟨ea,ai⟩:∃ea,ea=st++subA es (idxs es):=⟨_,rfl⟩
 rw[<-ai]at kn;obtain⟨eb,ar⟩:∃eb:List (Nat×Nat×Option DF),eb=match ol.dst with|some d=>[(m,d,none)]|none=>[]:=⟨_,rfl⟩
 have af:∀vals H,frE eb vals H=updO H ol.dst (some (vals m)):=λvals H=>by subst ar;cases ol.dst<;>rfl
 have aj:∀{S:Nat->Bool} {vals:DH} {U:DA},(bif S m then(∀j,j<m->S j=true)/\Q .normal (frE (ea++eb) vals ρ) U else Ext w.drew U/\InvO w.drew.heap.size m E X S vals U)->S m=false->Ext w.drew U/\InvO w.drew.heap.size m E X S vals U:=(by grind)
 refine(AnyV.core (E:=E) (I:=λS vals U=>bif S m then(∀j,j<m->S j=true)/\Q .normal (frE (ea++eb) vals ρ) U else Ext w.drew U/\InvO w.drew.heap.size m E X S vals U) hW (λvals=>?_) (λi o ho=>?_) ⟨ea++eb,⟨λk d v Z=>?_,λk o d V _ ho hd=>?_⟩,Js⟩).draw Z
 ·have no:∀{k},k<=m->Nat.ble ops.size k=false:=λ{k} V=>CD.2 λe=>by have:=Ck e;omega
  have nl:∀{k},k<m->¬Live X (λj=>Nat.ble ops.size j) k:=λ{k} V hl=>by have h:Nat.ble ops.size k=true:=hl.1;grind
  show bif Nat.ble ops.size m then _ else _;rw[no (Ai _)];exact⟨Ext.refl _,(by grind),(by grind),(by grind)⟩
 ·have hi:=(BQ.1 ho).1
  rcases AN i m with ak | ak
  ·obtain⟨aa,al,a3,au,ag,_,_,hv,av⟩:=h1 i o ak ho;have ah:=ag.kn (pr:=(·∈qa6 o)) (ks:=qa6 o) λ_ _ _ h=>h
   refine⟨_,ah,λS vals U ae hp hI=>?_⟩;cases aw:S m with
   | true=>grind
   | false=>
    obtain⟨hx,J⟩:=aj hI aw;have hB:∀g,some g∈qm0 aa i (qa6 o) (frE (al++subA aa (qa6 o)) vals ρ)->∃k,k<m/\E k=none/\(X k).1=some i/\S k=true/\(vals k).ownBlock=some g:=λg hg=>by
     obtain⟨k,d,φ,V,hl,ax⟩:=qty _ hg;obtain⟨h3,h4,h5,ok,h6,h7⟩:=(ag.es _ _ _).1 (qdn hl);refine⟨k,by omega,h4,by rw[h5],hp k V,?_⟩;rw[<-ax]
     congr 1
     refine(qxr _ _ (λk' v Z=>?_) (.inr ⟨k,_,ah.all k ok d h3 V h6 h7⟩)).symm;obtain⟨_,h8,ay,h9,az⟩:=ah.in_ _ _ _ Z;obtain rfl:=hS.uniq k ok k' ay d h6 h9 az h7
     grind
    refine⟨PostO U (qm0 aa i (qa6 o) (frE (al++subA aa (qa6 o)) vals ρ)) (E i).isSome (X i).2,?_,λv' w' W=>⟨hv _ _ W.2.1,?_⟩⟩
    ·rw[qbu,<-au vals];refine qt3 (K:=λH=>qdl P ops.toList o H U (PostO U (qm0 aa i (qa6 o) H) (E i).isSome (X i).2)) _ _ (λk d u φ hl Z a0=>?_) (av U hx);obtain⟨h3,h4,h5,_⟩:=(ag.es _ _ _).1 (qdn hl);have ad:Live X S k:=(by grind [qnx])
     exact⟨by have:=J.φ k Oo ad;simp_all,λg hg=>J.own k g Oo h4 ad hg⟩
    ·have e:setS S i m=false:=by
      grind [setS,Nat.eq_of_beq_eq_true]
     show bif setS S i m then _ else _;rw[e];refine⟨⟨W.1.os.trans hx.os,W.1.tape.trans hx.tape,W.1.output.trans hx.output,AE hx.size W.1.size,λk V=>?_⟩,J.step ae hx.size (λk V hE=>?_) (λk V hE=>?_) hB W⟩
     ·rw[W.1.block k (Bu V hx.size) λZ=>?_]
      ·exact hx.block k V
      ·obtain⟨k',h3,h4,h5,h6,h7⟩:=hB k Z;have:=(J.own k' k h3 h4 ⟨h6,λj hj=>by rw[h5]at hj;cases hj;exact ae⟩ h7).1;omega
     ·obtain⟨_,_,_,_,_,h,_⟩:=h1 k _ V (BX Oo);exact h hE
     ·obtain⟨_,_,_,_,_,_,h,_⟩:=h1 k _ V (BX Oo);exact h hE
  ·obtain rfl:i=m:=by omega
   obtain rfl:=AR (an.symm.trans ho);refine⟨ea,⟨kn.in_,λk o d V _=>kn.all k o d V trivial⟩,λS vals U ae hp hI=>?_⟩;obtain⟨hx,J⟩:=aj hI ae;refine⟨λv w'=>Q .normal (updO (frE ea vals ρ) ol.dst (some v)) w',?_,λv' w' hq=>⟨by rw[aq];trivial,?_⟩⟩
   ·rw[ai,qbu,<-hr vals];refine qt3 (K:=λH=>qdl P ops.toList ol H U λv w'=>Q .normal (updO H ol.dst (some v)) w') _ _ (λk d u φ hl _ a0=>?_) (h2 U hx);obtain⟨h3,h4,h5,_⟩:=(hs.es _ _ _).1 (qdn hl);have ad:Live X S k:=(by grind [qnx])
    exact⟨by have:=J.φ k h3 ad;simp_all,λg hg=>J.own k g h3 h4 ad hg⟩
   ·have e:setS S i i=true:=by simp[setS]
    show bif setS S i i then _ else _;rw[e];refine⟨(by grind [setS]),?_⟩;rw[qbu,af,qcy,qrz ea ρ λk d v Z=>?_]
    ·exact hq
    ·exact qa2 _ _ _ _ (Du (kn.in_ _ _ _ Z).1)
 ·rcases AU.1 Z with Z|Z
  ·obtain⟨h3,h4⟩:=kn.in_ _ _ _ Z
   grind
  grind
 ·rcases AN k m with am | am
  ·exact Ah _ (kn.all k o d am trivial ho hd)
  grind
end V
namespace V
theorem zA{a b k:Prop}(h:k)(H:a:=by omega)(U:b:=by omega):Obl (a/\b) k:=⟨⟨H,U⟩,h⟩
theorem zB{a b c d k:Prop}(h:k)(H:a:=by omega)(U:b:=by omega)(V:c:=by omega)(W:d:=by omega):Obl (a/\b/\c/\d) k:=⟨⟨H,U,V,W⟩,h⟩
theorem zC{c:Prop}[Decidable c](H:c->p)(U:¬c->q):Tst (decide c) p q:=.dec H U
theorem zY{c:Prop}[Decidable c](h:c->p)(H:c:=by omega):Tst (decide c) p q:=.dec h λg=>absurd H g
theorem zN{c:Prop}[Decidable c](h:¬c->q)(H:¬c:=by omega):Tst (decide c) p q:=.dec (λg=>absurd g H) h
theorem zV{k:IntKind}{n:Int}{K:Int->Prop}(H:K n)(h:InR k n:=by exact⟨by omega,by omega⟩):Wit (λr=>k.wrap n=r) K:=⟨n,h.wrap,H⟩
theorem zX{n:Nat}{K:Nat->Prop}(H:K j)(h:j<n:=by omega):IdxV (j:Int) n K:=⟨j,rfl,h,H⟩
theorem zJ{i:Int}{n:Nat}(j:Nat){K:Nat->Prop}(H:K j)(e:i=(j:Int):=by rfl)(h:j<n:=by decide):IdxV i n K:=⟨j,e,h,H⟩
theorem zW{k:Prop}(h:k):SameW w w k:=⟨rfl,h⟩
theorem zD{A:DG->Prop}{K:Option DF->DG->Prop}{v:DF}(H:K (some v) (λu _=>u=v))(h:A (λu _=>u=v):=by(intro U V;(conv=>whnf);exact⟨Ext.refl _,rfl⟩)):StepD A K:=.still v h H
theorem zI{A K:DF->Prop}{v:DF}(H:K v)(h:A v:=by(intro S V H W U;(conv=>whnf);exact⟨rfl,U⟩)):StepI A K:=.of v h H
theorem zG{A K:Option DF->Prop}{v:DF}(H:K (some v))(h:A (some v):=by(intro S vals V H W U;(conv=>whnf);exact⟨rfl,U⟩)):StepG A K:=.of v h H
theorem zM{A K:Option DF->Prop}(H:K none)(h:A none:=by(intro S vals V H W U;(conv=>whnf);exact⟨trivial,U⟩)):StepG A K:=.any h H
theorem zO{base:Nat}{A:Bool->DG->Prop}{K:Option DF->Option Nat->DG->Prop}{v:DF}(H:K (some v) none (λu _=>u=v))(h:A true (λu _=>u=v):=by(intro U V;(conv=>whnf);exact PostO.still (Ext.refl _) rfl)):StepO base A K:=.still v h H
theorem zT(h:p):Tst true p q:=.tt h
theorem zU(h:q):Tst false p q:=.ff h
theorem zP{b:Bool}(h:Tst b q p):Tst (!b) p q:=.not h
theorem zL{size:Nat}{t:DD}{K:DK->Prop}(h:Mem w0 w L)(i:Nat)(H:K cs.toList)(hi:L[i]?=some (b,.cells cs t fr):=by exact rfl)(U:cs.toList.length=size:=by exact rfl):LoadA w b 0 size K:=.mem h hi U H
theorem zR{t:DD}{v:DF}{K:DF->Prop}(h:Mem w0 w L)(i:Nat)(H:K v)(hi:L[i]?=some (b,.cells cs t fr):=by exact rfl)(U:cs[off]?=some v:=by exact rfl):LoadV w b off K:=.mem h hi U H
theorem zE{n:Nat}{H:Func}{c:Code}(U:P.funcs[f]?=some H)(V:H.ntmps=n)(h:qfc P n c (q7y P n H R) (ini vs) w)(W:qdk P f=true:=by kernel_rfl)(Z:H.body=some c:=by exact rfl)(hl:Nat.ble vs.length n=true:=by exact rfl):Gv P f vs w R:=gv W U Z V hl h
theorem zS{t:DD}{K:DI}(h:Mem w0 w L)(i:Nat)(H:∀w',Mem w0 w' (L.set i (b,.cells vs.toArray t (0,0)))->K w')(hi:L[i]?=some (b,.cells cur t (0,0)):=by exact rfl)(W:cur.size=vs.length:=by exact rfl)(U:∀v∈vs,v.oneCell'=true:=by simp[Value.oneCell']):StoreA P w b 0 vs K:=by
 refine StoreA.mem h hi Oo U λw' V=>H w' ?_;have e:(cur.toList.take 0++vs++cur.toList.drop (0+vs.length)).toArray=vs.toArray:=by
  rw[Br,Bi,AC Ys,Bl]
 rwa[e]at V
structure Hid(q:Prop):Prop where
 h:q
theorem zw(h:q)(e:p=q:=by conv=>lhs;whnf):p:=e.mpr h
theorem zv(h:q)(e:Hid q->p:=by
  intro h
  (repeat'(first|(refine Obl.mk ⟨by omega,by omega⟩ ?_;conv=>whnf)|(refine Obl.mk ⟨by omega,by omega,⟨by omega,by omega⟩⟩ ?_;conv=>whnf)|((with_reducible refine Tst.tt ?_);conv=>whnf)|((with_reducible refine Tst.ff ?_);conv=>whnf)|((with_reducible refine Tst.dec (λ_=>?_) (λ_=>?_))<;>first|(exfalso;omega)|(conv=>whnf))|((with_reducible refine Tst.not ?_))|(refine Wit.conv ⟨by omega,by omega⟩ ?_;conv=>whnf)|((with_reducible refine IdxV.nat Oo ?_);conv=>whnf)|((with_reducible refine SameW.mk rfl ?_);conv=>whnf)|((with_reducible refine Tst.beqT ?_))|((with_reducible refine Tst.beqF ?_))|(refine Tst.yes rfl ?_;conv=>whnf)|(refine Tst.no rfl ?_;conv=>whnf)))
  exact h.1):p:=e ⟨h⟩
theorem zu(h:q)(e:Hid q->p:=by
  intro h;conv=>whnf
  (repeat'(first|(refine Obl.mk ⟨by omega,by omega⟩ ?_;conv=>whnf)|(refine Obl.mk ⟨by omega,by omega,⟨by omega,by omega⟩⟩ ?_;conv=>whnf)|((with_reducible refine Tst.tt ?_);conv=>whnf)|((with_reducible refine Tst.ff ?_);conv=>whnf)|((with_reducible refine Tst.dec (λ_=>?_) (λ_=>?_))<;>first|(exfalso;omega)|(conv=>whnf))|((with_reducible refine Tst.not ?_))|(refine Wit.conv ⟨by omega,by omega⟩ ?_;conv=>whnf)|((with_reducible refine IdxV.nat Oo ?_);conv=>whnf)|((with_reducible refine SameW.mk rfl ?_);conv=>whnf)|((with_reducible refine Tst.beqT ?_))|((with_reducible refine Tst.beqF ?_))|(refine Tst.yes rfl ?_;conv=>whnf)|(refine Tst.no rfl ?_;conv=>whnf)))
  exact h.1):p:=e ⟨h⟩
theorem zt(h:q)(e:Hid q->p:=by
  intro h
  (repeat'(first|(refine Obl.mk ⟨by omega,by omega⟩ ?_;conv=>whnf)|(refine Obl.mk ⟨by omega,by omega,⟨by omega,by omega⟩⟩ ?_;conv=>whnf)|((with_reducible refine Tst.tt ?_);conv=>whnf)|((with_reducible refine Tst.ff ?_);conv=>whnf)|((with_reducible refine zY (λ_=>?_));conv=>whnf)|((with_reducible refine zN (λ_=>?_));conv=>whnf)|((with_reducible refine Tst.not ?_))|(refine Wit.conv ⟨by omega,by omega⟩ ?_;conv=>whnf)|((with_reducible refine IdxV.nat Oo ?_);conv=>whnf)|((with_reducible refine SameW.mk rfl ?_);conv=>whnf)|((with_reducible refine Tst.beqT ?_))|((with_reducible refine Tst.beqF ?_))|(refine Tst.yes rfl ?_;conv=>whnf)|(refine Tst.no rfl ?_;conv=>whnf)))
  exact h.1):p:=e ⟨h⟩
theorem zp(h:q)(e:Hid q->p:=by
  intro h
  (first|(refine Obl.mk ⟨by omega,by omega⟩ ?_;conv=>whnf)|(refine Obl.mk ⟨by omega,by omega,⟨by omega,by omega⟩⟩ ?_;conv=>whnf)|((with_reducible refine Tst.tt ?_);conv=>whnf)|((with_reducible refine Tst.ff ?_);conv=>whnf)|((with_reducible refine zY (λ_=>?_));conv=>whnf)|((with_reducible refine zN (λ_=>?_));conv=>whnf)|((with_reducible refine Tst.not ?_))|(refine Wit.conv ⟨by omega,by omega⟩ ?_;conv=>whnf)|((with_reducible refine IdxV.nat Oo ?_);conv=>whnf)|((with_reducible refine SameW.mk rfl ?_);conv=>whnf)|((with_reducible refine Tst.beqT ?_))|((with_reducible refine Tst.beqF ?_))|(refine Tst.yes rfl ?_;conv=>whnf)|(refine Tst.no rfl ?_;conv=>whnf))
  (repeat'(first|(refine Obl.mk ⟨by omega,by omega⟩ ?_;conv=>whnf)|(refine Obl.mk ⟨by omega,by omega,⟨by omega,by omega⟩⟩ ?_;conv=>whnf)|((with_reducible refine Tst.tt ?_);conv=>whnf)|((with_reducible refine Tst.ff ?_);conv=>whnf)|((with_reducible refine zY (λ_=>?_));conv=>whnf)|((with_reducible refine zN (λ_=>?_));conv=>whnf)|((with_reducible refine Tst.not ?_))|(refine Wit.conv ⟨by omega,by omega⟩ ?_;conv=>whnf)|((with_reducible refine IdxV.nat Oo ?_);conv=>whnf)|((with_reducible refine SameW.mk rfl ?_);conv=>whnf)|((with_reducible refine Tst.beqT ?_))|((with_reducible refine Tst.beqF ?_))|(refine Tst.yes rfl ?_;conv=>whnf)|(refine Tst.no rfl ?_;conv=>whnf)))
  exact h.1):p:=e ⟨h⟩
theorem zd{A:DG->Prop}{K:Option DF->DG->Prop}{v:DF}(H:q)(h:A (λu _=>u=v):=by
  intro U V;conv=>whnf
  (repeat(intro _ _;(conv=>whnf)))
  first
  | exact⟨Ext.refl _,rfl⟩
  | refine zv ?_;exact⟨Ext.refl _,rfl⟩)(e:K (some v) (λu _=>u=v)=q:=by conv=>lhs;whnf):StepD A K:=.still v h (e.mpr H)
theorem zo{base:Nat}{A:Bool->DG->Prop}{K:Option DF->Option Nat->DG->Prop}{v:DF}(H:q)(h:A true (λu _=>u=v):=by
  intro U V;conv=>whnf
  (repeat(intro _;(conv=>whnf)))
  first
  | exact PostO.still (Ext.refl _) rfl
  | refine zv ?_;exact PostO.still (Ext.refl _) rfl)(e:K (some v) none (λu _=>u=v)=q:=by conv=>lhs;whnf):StepO base A K:=.still v h (e.mpr H)
theorem zi{A K:DF->Prop}{v:DF}(H:q)(h:A v:=by
  intro S V H W U;conv=>whnf
  first
  | exact⟨rfl,U⟩
  | refine zv ?_;exact⟨rfl,U⟩)(e:K v=q:=by conv=>lhs;whnf):StepI A K:=.of v h (e.mpr H)
theorem zg{A K:Option DF->Prop}{v:DF}(H:q)(h:A (some v):=by
  intro S vals V H W U;conv=>whnf
  first
  | exact⟨rfl,U⟩
  | refine zv ?_;exact⟨rfl,U⟩)(e:K (some v)=q:=by conv=>lhs;whnf):StepG A K:=.of v h (e.mpr H)
theorem zm{A K:Option DF->Prop}(H:q)(h:A none:=by
  intro S vals V H W U;conv=>whnf
  first
  | exact⟨trivial,U⟩
  | refine zv ?_;exact⟨trivial,U⟩)(e:K none=q:=by conv=>lhs;whnf):StepG A K:=.any h (e.mpr H)
theorem zLd{A:DG->Prop}{K:Option DF->DG->Prop}{v:DF}(U:q)(h:A (λu _=>u=v):=by
  intro W V;refine zu ?_;have H:=Mem.call (Mem.drew Oa) V
  first
  | (refine LoadA.mem H (i:=0) rfl rfl ?_;(conv=>whnf);exact⟨Ext.refl _,rfl⟩)
  | (refine LoadA.mem H (i:=1) rfl rfl ?_;(conv=>whnf);exact⟨Ext.refl _,rfl⟩)
  | (refine LoadA.mem H (i:=2) rfl rfl ?_;(conv=>whnf);exact⟨Ext.refl _,rfl⟩)
  | (refine LoadA.mem H (i:=3) rfl rfl ?_;(conv=>whnf);exact⟨Ext.refl _,rfl⟩)
  | (refine LoadA.mem H (i:=4) rfl rfl ?_;(conv=>whnf);exact⟨Ext.refl _,rfl⟩)
  | (refine LoadA.mem H (i:=5) rfl rfl ?_;(conv=>whnf);exact⟨Ext.refl _,rfl⟩)
  | (refine LoadV.mem H (i:=0) rfl rfl ?_;(conv=>whnf);exact⟨Ext.refl _,rfl⟩)
  | (refine LoadV.mem H (i:=1) rfl rfl ?_;(conv=>whnf);exact⟨Ext.refl _,rfl⟩)
  | (refine LoadV.mem H (i:=2) rfl rfl ?_;(conv=>whnf);exact⟨Ext.refl _,rfl⟩)
  | (refine LoadV.mem H (i:=3) rfl rfl ?_;(conv=>whnf);exact⟨Ext.refl _,rfl⟩)
  | (refine LoadV.mem H (i:=4) rfl rfl ?_;(conv=>whnf);exact⟨Ext.refl _,rfl⟩)
  | (refine LoadV.mem H (i:=5) rfl rfl ?_;(conv=>whnf);exact⟨Ext.refl _,rfl⟩))(e:K (some v) (λu _=>u=v)=q:=by conv=>lhs;whnf):StepD A K:=.still v h (e.mpr U)
theorem zLi{A K:DF->Prop}{v:DF}(U:q)(h:A v:=by
  intro S V U W H;conv=>whnf
  first
  | (refine LoadA.mem H (i:=0) rfl rfl ?_;(conv=>whnf);exact⟨rfl,H⟩)
  | (refine LoadA.mem H (i:=1) rfl rfl ?_;(conv=>whnf);exact⟨rfl,H⟩)
  | (refine LoadA.mem H (i:=2) rfl rfl ?_;(conv=>whnf);exact⟨rfl,H⟩)
  | (refine LoadA.mem H (i:=3) rfl rfl ?_;(conv=>whnf);exact⟨rfl,H⟩)
  | (refine LoadA.mem H (i:=4) rfl rfl ?_;(conv=>whnf);exact⟨rfl,H⟩)
  | (refine LoadA.mem H (i:=5) rfl rfl ?_;(conv=>whnf);exact⟨rfl,H⟩)
  | (refine LoadV.mem H (i:=0) rfl rfl ?_;(conv=>whnf);exact⟨rfl,H⟩)
  | (refine LoadV.mem H (i:=1) rfl rfl ?_;(conv=>whnf);exact⟨rfl,H⟩)
  | (refine LoadV.mem H (i:=2) rfl rfl ?_;(conv=>whnf);exact⟨rfl,H⟩)
  | (refine LoadV.mem H (i:=3) rfl rfl ?_;(conv=>whnf);exact⟨rfl,H⟩)
  | (refine LoadV.mem H (i:=4) rfl rfl ?_;(conv=>whnf);exact⟨rfl,H⟩)
  | (refine LoadV.mem H (i:=5) rfl rfl ?_;(conv=>whnf);exact⟨rfl,H⟩))(e:K v=q:=by conv=>lhs;whnf):StepI A K:=.of v h (e.mpr U)
theorem zLg{A K:Option DF->Prop}{v:DF}(U:q)(h:A (some v):=by
  intro S vals V U W H;conv=>whnf
  first
  | (refine LoadA.mem H.mem (i:=0) rfl rfl ?_;(conv=>whnf);exact⟨rfl,H⟩)
  | (refine LoadA.mem H.mem (i:=1) rfl rfl ?_;(conv=>whnf);exact⟨rfl,H⟩)
  | (refine LoadA.mem H.mem (i:=2) rfl rfl ?_;(conv=>whnf);exact⟨rfl,H⟩)
  | (refine LoadA.mem H.mem (i:=3) rfl rfl ?_;(conv=>whnf);exact⟨rfl,H⟩)
  | (refine LoadA.mem H.mem (i:=4) rfl rfl ?_;(conv=>whnf);exact⟨rfl,H⟩)
  | (refine LoadA.mem H.mem (i:=5) rfl rfl ?_;(conv=>whnf);exact⟨rfl,H⟩)
  | (refine LoadV.mem H.mem (i:=0) rfl rfl ?_;(conv=>whnf);exact⟨rfl,H⟩)
  | (refine LoadV.mem H.mem (i:=1) rfl rfl ?_;(conv=>whnf);exact⟨rfl,H⟩)
  | (refine LoadV.mem H.mem (i:=2) rfl rfl ?_;(conv=>whnf);exact⟨rfl,H⟩)
  | (refine LoadV.mem H.mem (i:=3) rfl rfl ?_;(conv=>whnf);exact⟨rfl,H⟩)
  | (refine LoadV.mem H.mem (i:=4) rfl rfl ?_;(conv=>whnf);exact⟨rfl,H⟩)
  | (refine LoadV.mem H.mem (i:=5) rfl rfl ?_;(conv=>whnf);exact⟨rfl,H⟩))(e:K (some v)=q:=by conv=>lhs;whnf):StepG A K:=.of v h (e.mpr U)
theorem zSi{A K:DF->Prop}(W:q)(h:A undef:=by
  intro S Z W hp U
  try dsimp only at U
  rw[W]at U;conv=>whnf
  first
  | (refine StoreA.all U (i:=0) rfl rfl (by simp[Value.oneCell']) λV H=>?_;(conv=>whnf);exact⟨rfl,H⟩)
  | (refine StoreA.all U (i:=1) rfl rfl (by simp[Value.oneCell']) λV H=>?_;(conv=>whnf);exact⟨rfl,H⟩)
  | (refine StoreA.all U (i:=2) rfl rfl (by simp[Value.oneCell']) λV H=>?_;(conv=>whnf);exact⟨rfl,H⟩)
  | (refine StoreA.all U (i:=3) rfl rfl (by simp[Value.oneCell']) λV H=>?_;(conv=>whnf);exact⟨rfl,H⟩)
  | (refine StoreA.all U (i:=4) rfl rfl (by simp[Value.oneCell']) λV H=>?_;(conv=>whnf);exact⟨rfl,H⟩)
  | (refine StoreA.all U (i:=5) rfl rfl (by simp[Value.oneCell']) λV H=>?_;(conv=>whnf);exact⟨rfl,H⟩))(e:K undef=q:=by conv=>lhs;whnf):StepI A K:=.of undef h (e.mpr W)
theorem zr{t:DD}{v:DF}{K:DF->Prop}(h:Mem w0 w L)(i:Nat)(H:q)(hi:L[i]?=some (b,.cells cs t fr):=by exact rfl)(U:cs[off]?=some v:=by exact rfl)(e:K v=q:=by conv=>lhs;whnf):LoadV w b off K:=.mem h hi U (e.mpr H)
theorem zl{size:Nat}{t:DD}{K:DK->Prop}(h:Mem w0 w L)(i:Nat)(H:q)(hi:L[i]?=some (b,.cells cs t fr):=by exact rfl)(U:cs.toList.length=size:=by exact rfl)(e:K cs.toList=q:=by conv=>lhs;whnf):LoadA w b 0 size K:=.mem h hi U (e.mpr H)
theorem ze{n:Nat}{H:Func}{c:Code}(U:P.funcs[f]?=some H)(V:H.ntmps=n)(h:q)(W:qdk P f=true:=by kernel_rfl)(Z:H.body=some c:=by exact rfl)(hl:Nat.ble vs.length n=true:=by exact rfl)(e:qfc P n c (q7y P n H R) (ini vs) w=q:=by conv=>lhs;whnf):Gv P f vs w R:=gv W U Z V hl (e.mpr h)
theorem zy{n:Nat}{Q:Exit->DH->DI}(h:q)(U:P.follows .mixedOrders=true:=by kernel_rfl)(V:Region.lexB .any ops=true:=by kernel_rfl)(e:regQ P n ops.toList w.drew (λH=>Q .normal H w.drew) ops.toList ρ=q:=by conv=>lhs;whnf):DrawV P n id ops Q ρ w:=.quiet U V (e.mpr h)
theorem xr:Ext w w:=.refl w
theorem xq{α:Type}{v:α}:Ext w w/\v=v:=⟨xr,rfl⟩
theorem zf{A:DG->Prop}{K:Option DF->DG->Prop}{v:DF}(H:q)(h:A (λu _=>u=v))(e:K (some v) (λu _=>u=v)=q:=by conv=>lhs;whnf):StepD A K:=.still v h (e.mpr H)
theorem zcv{args:DK}(h:Gv P f args w R)(H:∀v w',R v w'->K v w'):CallV P f args w K:=.of h H
theorem zsd{A:DG->Prop}{K:Option DF->DG->Prop}(v:DF)(h:A (λu _=>u=v))(H:K (some v) (λu _=>u=v)):StepD A K:=.still v h H
theorem znm{o:Obj}{K:Nat->DI}(h:Mem w0 w L)(H:∀b w',Mem w0 w' ((b,o)::L)->K b w'):NewV w o K:=.mem h H
end V
open Go.RowKit V
set_option maxRecDepth 100000
def qaw(r:Int):Bool:=decide (0<=r/\r<=1114111/\(r<55296\/57343<r))
theorem qmi(r:Int)(b:Bool):b=qaw r↔(b=true↔(0<=r/\r<=1114111/\(r<55296\/57343<r))):=by
 unfold qaw;rw[AD];simp
theorem q08(r:Int)(w:DA):
  Gv DM 288 [.int .i32 r] w λv w'=>v=.bool (qaw r)/\w'=w:=by
 refine ze Tryz.func288 Tryz.ntmps288 ?_
 (repeat'(first|refine zp ?_|refine zC (λ_=>zw ?_) (λ_=>zw ?_)))
 all_goals(refine⟨Ad Value.bool ((qmi r _).2 ?_),rfl⟩;simp;try omega)
def qbn(c:Nat):Nat×Nat:=
 if c<0x80 then(1,c)else if c<0xC0 then(0,0)else if c<0xE0 then(2,c%32)else if c<0xF0 then(3,c%16)else if c<0xF8 then(4,c%8)else(0,0)
theorem qpr(c:Nat)(_:c<256):(qbn c).1<=4/\(qbn c).2<128:=by
 unfold qbn;repeat(first|split|(refine⟨?_,?_⟩<;>dsimp only<;>omega))
theorem q81(c:DE)(w:DA):
  Gv DM 286 [.int .u8 c.toNat] w λv w'=>v=.tuple #[ii (qbn c.toNat).1,.int .i32 (qbn c.toNat).2]/\w'=w:=by
 refine ze Tryz.func286 Tryz.ntmps286 ?_
 (repeat'(first|refine zp ?_|refine zC (λ_=>zw ?_) (λ_=>zw ?_)))
 ·exact⟨by rw[qbn,Ab Oo];rfl,rfl⟩
 ·exact⟨by rw[qbn,Aa Oo,Ab Oo];rfl,rfl⟩
 ·refine Wit.eq (qa1 5 rfl ⟨by omega,by omega⟩ ⟨by omega,by omega⟩) (zu ?_);exact⟨by rw[qbn,Aa Oo,Aa Oo,Ab Oo];rfl,rfl⟩
 ·refine Wit.eq (qa1 4 rfl ⟨by omega,by omega⟩ ⟨by omega,by omega⟩) (zu ?_);exact⟨by rw[qbn,Aa Oo,Aa Oo,Aa Oo,Ab Oo];rfl,rfl⟩
 ·refine Wit.eq (qa1 3 rfl ⟨by omega,by omega⟩ ⟨by omega,by omega⟩) (zu ?_);exact⟨by rw[qbn,Aa Oo,Aa Oo,Aa Oo,Aa Oo,Ab Oo];rfl,rfl⟩
 ·exact⟨by rw[qbn,Aa Oo,Aa Oo,Aa Oo,Aa Oo,Aa Oo];rfl,rfl⟩
def qe5(n:Nat):Nat:=if n=2 then 0x80 else if n=3 then 0x800 else if n=4 then 0x10000 else 0
theorem q4g(n:Nat)(h:n<=4)(w:DA):
  Gv DM 287 [ii n] w λv w'=>v=.int .i32 (qe5 n)/\w'=w:=by
 refine ze Tryz.func287 Tryz.ntmps287 ?_;refine zv ?_;refine⟨.int .i32 (qe5 n),?_,?_⟩
 ·obtain rfl|rfl|rfl|rfl|rfl:n=0\/n=1\/n=2\/n=3\/n=4:=by omega
  all_goals rfl
 ·(conv=>whnf);exact⟨rfl,rfl⟩
def accR(r:Nat)(l:LB):Nat:=l.foldl (λr c=>r*64+c.toNat%64) r
def cont(c:DE):Bool:=c.toNat/64==2
def decN:LB->Nat×Nat
 | []=>(0,0)
 | b::t=>
  let n:=(qbn b.toNat).1
  if n=0\/t.length<n-1 then(0,0)
  else if(t.take (n-1)).all cont then
   let r:=accR (qbn b.toNat).2 (t.take (n-1))
   if r<qe5 n\/qaw r=false then(0,0)else(r,n)
  else(0,0)
theorem qab9(r:Nat)(l:LB):accR r l<(r+1)*64 ^ l.length:=by
 induction l generalizing r with
 | nil=>simp[accR]
 | cons c l H=>
  have U:=H (r*64+c.toNat%64);have V:c.toNat%64<64:=Cs _ Oo;simp only[accR,BV,Au]at *;refine Bu U ?_;rw[Nat.pow_succ,Cg (64 ^ _) 64,<-Nat.mul_assoc];exact B9 _ Oo
theorem qph(h:k<l.length):l.take (k+1)=l.take k++[l.getD k 0]:=by
 rw[AP h,Ag,zge h,BL]
theorem qa8(s:DB)(p:Nat)(h:p<s.size):s.data.toList.drop p=gb s p::s.data.toList.drop (p+1):=by
 have H:p<s.data.toList.length:=by simpa using h
 rw[Bc H,gb,Ag,zge H,BL]
theorem q2s(s:DB)(p k:Nat):(s.data.toList.drop p).getD k 0=gb s (p+k):=by
 simp[gb]
theorem qeo(s:DB)(p:Nat):(s.data.toList.drop p).length=s.size-p:=by simp
theorem qafr(m:Nat)(h:m<256):m &&&192=m/64*64:=by
 have:∀m:Fin 256,m.1 &&&192=m.1/64*64:=by decide +kernel
 exact this ⟨m,h⟩
theorem qx9(s:DB)(p:Nat)(hp:p<s.size)(hs:s.size<=140737488355328)(w:DA):
  Gv DM 216 [.string s,ii p] w λv w'=>v=.tuple #[.int .i32 (decN (s.data.toList.drop p)).1,ii (decN (s.data.toList.drop p)).2]/\w'=w:=by
 obtain⟨t,ht⟩:∃t,t=s.data.toList.drop (p+1):=⟨_,rfl⟩
 obtain⟨n,hn⟩:∃n,n=(qbn (gb s p).toNat).1:=⟨_,rfl⟩
 obtain⟨r,hr⟩:∃r,r=(qbn (gb s p).toNat).2:=⟨_,rfl⟩
 have H:=q81 (gb s p) w;have hb:=qpr (gb s p).toNat (gb s p).toNat_lt;rw[<-hn,<-hr]at H hb;obtain⟨ad,ae⟩:=hb;have ag:t.length=s.size-(p+1):=by rw[ht,qeo]
 have W:decN (s.data.toList.drop p)=if n=0\/t.length<n-1 then(0,0)else if(t.take (n-1)).all cont then
   (if accR r (t.take (n-1))<qe5 n\/qaw (accR r (t.take (n-1)))=false then(0,0)else(accR r (t.take (n-1)),n))else(0,0):=by
  rw[qa8 s p hp,<-ht,hn,hr];rfl
 refine ze Tryz.func216 Tryz.ntmps216 ?_;refine zv ?_;refine zcv (H) ?_;rintro v w' ⟨rfl,rfl⟩;conv=>whnf
 (repeat'(first|refine zp ?_|refine zC (λ_=>zw ?_) (λ_=>zw ?_)))
 ·exact⟨by rw[W,Ab Oo];rfl,rfl⟩
 ·exact⟨by rw[W,Ab Oo];rfl,rfl⟩
 ·refine qq (λk:Nat=>[(0,.string s),(1,ii p),(6,ii n),(7,.int .i32 (accR r (t.take (k-1)))),(8,ii k)])
   (λk w1=>1<=k/\k<=n/\(t.take (k-1)).all cont=true/\w1=w') (λk=>n-k) 1 fq ⟨by omega,by omega,rfl,rfl⟩ ?_
  rintro k w1 ah ⟨h1,h2,h3,rfl⟩;have U:=qab9 r (t.take (k-1));have Z:(t.take (k-1)).length=k-1:=by rw[Ar];omega
  rw[Z]at U;(conv=>whnf);refine zC (λ_=>zu ?_) (λ_=>zu ?_)
  ·refine IdxV.at_ (p+k) Oo Oo (zw ?_);have hc:(gb s (p+k)).toNat<256:=(gb s (p+k)).toNat_lt;have hg:t.getD (k-1) 0=gb s (p+k):=by rw[ht,q2s];congr 1;omega
   have V:t.take k=t.take (k-1)++[gb s (p+k)]:=by
    have:=qph (l:=t) (k:=k-1) Oo;rw[hg,show k-1+1=k from by omega]at this;exact this
   have af:accR r (t.take (k-1))<524288:=by
    refine Bu U (AE (BF (Nat.succ_le_of_lt ae) (Bg Oo (show k-1<=2 by omega))) Od)
   refine Wit.eq (y:=(((gb s (p+k)).toNat/64*64:Nat):Int)) (by rw[<-qafr _ hc];exact qww (n:=192) ⟨by omega,by omega⟩ ⟨by decide,by decide⟩) (zw ?_);refine zC (λ_=>zw ?_) (λ_=>zw ?_)
   ·refine⟨?_,rfl⟩;rw[W,Aa Oo,Aa ?_]
    ·rfl
    ·rw[D5];apply CE.2;refine⟨gb s (p+k),?_,?_⟩
     ·have:gb s (p+k)∈t.take k:=by rw[V];simp
      exact Do (i:=k) (by rw[List.take_take,Bq Oo];exact this)
     ·simp[cont];omega
   ·refine Wit.shl ⟨by decide,by decide⟩ (m:=64) Od rfl ⟨by omega,by omega⟩ (zw ?_);refine Wit.eq (qa1 6 rfl ⟨by omega,by omega⟩ ⟨by omega,by omega⟩) (zu ?_);refine Wit.eq (y:=((accR r (t.take k):Nat):Int)) ?_ ?_
    ·have:=q7v (k:=.i32) (a:=accR r (t.take (k-1))) (b:=(gb s (p+k)).toNat%64) 6 ⟨by omega,by omega⟩ Oo;rw[V]
     simpa[accR]using this
    refine zu ?_;refine⟨k+1,fq,⟨by omega,by omega,?_,rfl⟩,by omega⟩;rw[show k+1-1=k from by omega,V,CR,h3];simp[cont];omega
  ·obtain rfl:k=n:=by omega
   refine zcv (q4g k ad _) ?_;rintro v w' ⟨rfl,rfl⟩;(conv=>whnf);refine zC (λ_=>zu ?_) (λ_=>zu ?_)
   ·refine⟨?_,rfl⟩;rw[W,Aa Oo,Ab h3,Ab (.inl Oo)];rfl
   ·refine zcv (q08 _ _) ?_;rintro v w' ⟨rfl,rfl⟩;(conv=>whnf);cases aa:qaw (accR r (t.take (k-1)))
    ·refine zu ?_;refine⟨?_,rfl⟩;rw[W,Aa Oo,Ab h3,Ab (.inr aa)];rfl
    ·refine zu ?_;refine⟨?_,rfl⟩;rw[W,Aa Oo,Ab h3,Aa (by rw[aa];simp;omega)]
def scal(l:LB):Option DL:=
 match l with
 | []=>some []
 | b::t=>if _:(decN (b::t)).2=0 then none else(scal ((b::t).drop (decN (b::t)).2)).map ((decN (b::t)).1::·)
termination_by l.length
decreasing_by simp;omega
theorem qip(l:LB):(decN l).2<=l.length:=by
 unfold decN
 split
 ·simp
 ·rename_i b t
  have:=qpr b.toNat b.toNat_lt;simp only
  split
  ·simp
  ·split
   ·split<;>simp;omega
   ·simp
theorem q8d(l:LB):(decN l).2<=4:=by
 unfold decN
 split
 ·simp
 ·rename_i b t
  have:=qpr b.toNat b.toNat_lt;simp only
  split
  ·simp
  ·split
   ·split<;>simp;omega
   ·simp
theorem qh6(h:l≠[])(H:(decN l).2=0):scal l=none:=by
 match l,h with
 | a::t,_=>rw[scal,dif_pos H]
theorem qfx(h:l≠[])(H:(decN l).2≠0):scal l=(scal (l.drop (decN l).2)).map ((decN l).1::·):=by
 match l,h with
 | a::t,_=>rw[scal,dif_neg H]
theorem qit(s:DB)(p:Nat)(h:p<s.size):s.data.toList.drop p≠[]:=by
 rw[qa8 s p h];simp
theorem qrg(s:DB)(W:s.size<=140737488355328)(w:DA):
  Gv DM 140 [.string s] w λv w'=>(∃i:Int,v=ii i/\i<4611686018427387904/\(scal s.data.toList≠none->i=-1)/\(scal s.data.toList=none->0<=i))/\w'=w:=by
 refine ze Tryz.func140 Tryz.ntmps140 ?_;refine qq (λp:Nat=>[(0,.string s),(3,ii p)]) (λp V=>p<=s.size/\(scal s.data.toList=none↔scal (s.data.toList.drop p)=none)/\V=w) (λp=>s.size-p) 0 fq ⟨by omega,by simp,rfl⟩ ?_;rintro p V Z ⟨h1,H,rfl⟩;(conv=>whnf);refine zC (λ_=>zw ?_) (λ_=>zw ?_)
 ·refine zcv (qx9 s p Oo W _) ?_;rintro v w' ⟨rfl,rfl⟩;have U:=qip (s.data.toList.drop p);rw[qeo]at U;(conv=>whnf);refine zC (λ_=>zu ?_) (λ_=>zu ?_)
  ·refine⟨⟨p,rfl,by omega,λh=>?_,λ_=>by omega⟩,rfl⟩;exact absurd (H.2 (qh6 (qit s p Oo) Oo)) h
  ·refine⟨p+(decN (s.data.toList.drop p)).2,fq,⟨by omega,?_,rfl⟩,by omega⟩;rw[H,qfx (qit s p Oo) Oo,Am];simp
 ·refine⟨⟨-1,rfl,by omega,λ_=>rfl,λh=>?_⟩,rfl⟩;rw[H,AC Ys]at h;rw[scal]at h;cases h
end Go.Proofs.YtccmcfpmknpccaaGreatDoor
namespace Go.Proofs
open YtccmcfpmknpccaaGreatDoor YtccmcfpmknpccaaGreatDoor.V
open Go.Shelf
def Tryz.lays169_ren:Go.Shelf.Ren:=⟨fun|169=>369|n=>n,fun|70=>470|9=>9|0=>0|72=>472|37=>32|127=>484|3=>3|5=>5|n=>n,fun|n=>n⟩
theorem Tryz.lays169:Go.Proofs.Lays.n169 DM Tryz.lays169_ren:={
 mixed:=by kernel_rfl
 f169:=Tryz.func369.trans (Ad some Jk)
 t0:=Tryz.underlying0
 a0:=Tryz.isAgg0
 z0:=Tryz.sizeOf0
 v0:=Tryz.zeroValue0
 t3:=Tryz.underlying3
 a3:=Tryz.isAgg3
 z3:=Tryz.sizeOf3
 v3:=Tryz.zeroValue3
 t9:=Tryz.underlying9
 a9:=Tryz.isAgg9
 z9:=Tryz.sizeOf9
 v9:=Tryz.zeroValue9
 t37:=Tryz.underlying32
 a37:=Tryz.isAgg32
 z37:=Tryz.sizeOf32
 v37:=Tryz.zeroValue32
 t70:=Tryz.underlying470
 a70:=Tryz.isAgg470
 z70:=Tryz.sizeOf470
 v70:=Tryz.zeroValue470
 t72:=Tryz.underlying472
 a72:=Tryz.isAgg472
 z72:=Tryz.sizeOf472
 v72:=Tryz.zeroValue472
 t127:=Tryz.underlying484
 a127:=Tryz.isAgg484
 z127:=Tryz.sizeOf484
 v127:=Tryz.zeroValue484 }
theorem Tryz.Builder_Extra_169:Builder.Extra DM Tryz.lays169_ren:={
 sizeBuilder:=by kernel_rfl
 liesBuilder:=by kernel_rfl
 t5:=Tryz.underlying5
 a5:=Tryz.isAgg5
 z5:=Tryz.sizeOf5
 v5:=Tryz.zeroValue5
 infoByte:=by kernel_rfl
 cellsByte:=by kernel_rfl
 sizeByte:=by kernel_rfl
 neB5:=by decide }
open Go.RowKit in
theorem Tryz.Builder_String_any(B b:Nat)(l:LB)(w:DA)(h:Lib.IsBuilder 472 5 B b (Lib.byteCells l) w)(H:B<=w.heap.size):
  Calls DM 369 #[pp b] w λe w'=>e=.returned (.string ⟨l.toArray⟩)/\Below B w w':=Any.Builder_String_any Tryz.lays169 Tryz.Builder_Extra_169 B b l w h H
def Tryz.lays165_ren:Go.Shelf.Ren:=⟨fun|165=>366|240=>385|241=>386|276=>392|277=>393|n=>n,fun|70=>470|3=>3|0=>0|4=>4|9=>9|20=>20|72=>472|37=>32|164=>207|5=>5|n=>n,fun|n=>n⟩
theorem Tryz.lays165:Go.Proofs.Lays.n165 DM Tryz.lays165_ren:={
 mixed:=by kernel_rfl
 f165:=Tryz.func366.trans (Ad some Jk)
 f240:=Tryz.func385.trans (Ad some Jk)
 f241:=Tryz.func386.trans (Ad some Jk)
 f276:=Tryz.func392.trans (Ad some Jk)
 f277:=Tryz.func393.trans (Ad some Jk)
 t0:=Tryz.underlying0
 a0:=Tryz.isAgg0
 z0:=Tryz.sizeOf0
 v0:=Tryz.zeroValue0
 t3:=Tryz.underlying3
 a3:=Tryz.isAgg3
 z3:=Tryz.sizeOf3
 v3:=Tryz.zeroValue3
 t4:=Tryz.underlying4
 a4:=Tryz.isAgg4
 z4:=Tryz.sizeOf4
 v4:=Tryz.zeroValue4
 t9:=Tryz.underlying9
 a9:=Tryz.isAgg9
 z9:=Tryz.sizeOf9
 v9:=Tryz.zeroValue9
 t20:=Tryz.underlying20
 a20:=Tryz.isAgg20
 z20:=Tryz.sizeOf20
 v20:=Tryz.zeroValue20
 t37:=Tryz.underlying32
 a37:=Tryz.isAgg32
 z37:=Tryz.sizeOf32
 v37:=Tryz.zeroValue32
 t70:=Tryz.underlying470
 a70:=Tryz.isAgg470
 z70:=Tryz.sizeOf470
 v70:=Tryz.zeroValue470
 t72:=Tryz.underlying472
 a72:=Tryz.isAgg472
 z72:=Tryz.sizeOf472
 v72:=Tryz.zeroValue472
 t164:=Tryz.underlying207
 a164:=Tryz.isAgg207
 z164:=Tryz.sizeOf207
 v164:=Tryz.zeroValue207 }
theorem Tryz.Builder_Extra_165:Builder.Extra DM Tryz.lays165_ren:={
 sizeBuilder:=by kernel_rfl
 liesBuilder:=by kernel_rfl
 t5:=Tryz.underlying5
 a5:=Tryz.isAgg5
 z5:=Tryz.sizeOf5
 v5:=Tryz.zeroValue5
 infoByte:=by kernel_rfl
 cellsByte:=by kernel_rfl
 sizeByte:=by kernel_rfl
 neB5:=by decide }
open Go.RowKit in
theorem Tryz.Builder_Grow_fresh(B b n:Nat)(w:DA)(V:B<=b)(H:w.heap[b]?=some (.cells #[.pointer none,.slice none 0 0] 472))(U:B<=w.heap.size)(W:n<=281474976710656):
  Calls DM 366 #[pp b,ii n] w λe w'=>e=.returned (.tuple #[])/\(Lib.BuilderAt 472 5 B b (pp b) [] w'/\Below B w w'):=Any.Builder_Grow_fresh Tryz.lays165 Tryz.Builder_Extra_165 B b n w V H U W
def Tryz.lays119_ren:Go.Shelf.Ren:=⟨fun|119=>373|n=>n,fun|21=>21|4=>4|n=>n,fun|n=>n⟩
theorem Tryz.lays119:Go.Proofs.Lays.n119 DM Tryz.lays119_ren:={
 mixed:=by kernel_rfl
 f119:=Tryz.func373.trans (Ad some Jk)
 t4:=Tryz.underlying4
 a4:=Tryz.isAgg4
 z4:=Tryz.sizeOf4
 v4:=Tryz.zeroValue4
 t21:=Tryz.underlying21
 a21:=Tryz.isAgg21
 z21:=Tryz.sizeOf21
 v21:=Tryz.zeroValue21 }
theorem Tryz.utf8_ValidRune(r:Int)(w:DA):
  Calls DM 373 #[.int .i32 r] w λe w'=>e=.returned (.bool (Lib.validRune r))/\w'=w:=Any.utf8_ValidRune Tryz.lays119 r w
def Tryz.lays213_ren:Go.Shelf.Ren:=⟨fun|213=>125|265=>205|n=>n,fun|9=>9|3=>3|n=>n,fun|n=>n⟩
def Tryz.lays106_ren:Go.Shelf.Ren:=⟨fun|106=>60|213=>125|265=>205|n=>n,fun|9=>9|3=>3|n=>n,fun|n=>n⟩
theorem Tryz.lays106:Go.Proofs.Lays.n106 DM Tryz.lays106_ren:={
 mixed:=by kernel_rfl
 f106:=Tryz.func60.trans (Ad some Jk)
 f213:=Tryz.func125.trans (Ad some Jk)
 f265:=Tryz.func205.trans (Ad some Jk)
 t3:=Tryz.underlying3
 a3:=Tryz.isAgg3
 z3:=Tryz.sizeOf3
 v3:=Tryz.zeroValue3
 t9:=Tryz.underlying9
 a9:=Tryz.isAgg9
 z9:=Tryz.sizeOf9
 v9:=Tryz.zeroValue9 }
open Go.RowKit in
theorem Tryz.strings_Compare(a b:DB)(w:DA):
  Calls DM 60 #[.string a,.string b] w λe w'=>e=.returned (ii (Lib.compareBytes a.data.toList b.data.toList))/\w'=w:=Any.strings_Compare Tryz.lays106 a b w
def Tryz.lays137_ren:Go.Shelf.Ren:=⟨fun|137=>372|217=>388|266=>394|n=>n,fun|9=>9|5=>5|3=>3|n=>n,fun|n=>n⟩
theorem Tryz.lays137:Go.Proofs.Lays.n137 DM Tryz.lays137_ren:={
 mixed:=by kernel_rfl
 f137:=Tryz.func372.trans (Ad some Jk)
 f217:=Tryz.func388.trans (Ad some Jk)
 f266:=Tryz.func394.trans (Ad some Jk)
 t3:=Tryz.underlying3
 a3:=Tryz.isAgg3
 z3:=Tryz.sizeOf3
 v3:=Tryz.zeroValue3
 t5:=Tryz.underlying5
 a5:=Tryz.isAgg5
 z5:=Tryz.sizeOf5
 v5:=Tryz.zeroValue5
 t9:=Tryz.underlying9
 a9:=Tryz.isAgg9
 z9:=Tryz.sizeOf9
 v9:=Tryz.zeroValue9 }
open Go.RowKit in
theorem Tryz.strings_IndexByte(s:DB)(c:Int)(w:DA):
  Calls DM 372 #[.string s,.int .u8 c] w λe w'=>e=.returned (ii (Lib.indexByte s.data.toList c.toNat.toUInt8))/\w'=w:=Any.strings_IndexByte Tryz.lays137 s c w
def Tryz.lays129_ren:Go.Shelf.Ren:=⟨fun|129=>259|n=>n,fun|53=>164|3=>3|4=>4|46=>272|5=>5|9=>9|n=>n,fun|n=>n⟩
theorem Tryz.lays129:Go.Proofs.Lays.n129 DM Tryz.lays129_ren:={
 mixed:=by kernel_rfl
 f129:=Tryz.func259.trans (Ad some Jk)
 t3:=Tryz.underlying3
 a3:=Tryz.isAgg3
 z3:=Tryz.sizeOf3
 v3:=Tryz.zeroValue3
 t4:=Tryz.underlying4
 a4:=Tryz.isAgg4
 z4:=Tryz.sizeOf4
 v4:=Tryz.zeroValue4
 t5:=Tryz.underlying5
 a5:=Tryz.isAgg5
 z5:=Tryz.sizeOf5
 v5:=Tryz.zeroValue5
 t9:=Tryz.underlying9
 a9:=Tryz.isAgg9
 z9:=Tryz.sizeOf9
 v9:=Tryz.zeroValue9
 t46:=Tryz.underlying272
 a46:=Tryz.isAgg272
 z46:=Tryz.sizeOf272
 v46:=Tryz.zeroValue272
 t53:=Tryz.underlying164
 a53:=Tryz.isAgg164
 z53:=Tryz.sizeOf164
 v53:=Tryz.zeroValue164 }
theorem Tryz.bits_Len64(x:Int)(w:DA)(H:0<=x)(U:x<=18446744073709551615):
  Calls DM 259 #[.int .u64 x] w λe w'=>e=.returned (ii (Lib.bitLen x.toNat))/\w'=w:=Any.bits_Len64 Tryz.lays129 x w H U
def Tryz.lays219_ren:Go.Shelf.Ren:=⟨fun|219=>378|217=>388|225=>375|224=>374|267=>389|266=>394|314=>395|n=>n,fun|9=>9|3=>3|4=>4|5=>5|46=>272|146=>491|51=>179|n=>n,fun|1=>1|n=>n⟩
def Tryz.lays143_ren:Go.Shelf.Ren:=⟨fun|143=>341|219=>378|217=>388|225=>375|224=>374|267=>389|266=>394|314=>395|n=>n,fun|9=>9|3=>3|4=>4|5=>5|46=>272|146=>491|51=>179|n=>n,fun|1=>1|n=>n⟩
theorem Tryz.lays143:Go.Proofs.Lays.n143 DM Tryz.lays143_ren:={
 mixed:=by kernel_rfl
 f143:=Tryz.func341.trans (Ad some Jk)
 f217:=Tryz.func388.trans (Ad some Jk)
 f219:=Tryz.func378.trans (Ad some Jk)
 f224:=Tryz.func374.trans (Ad some Jk)
 f225:=Tryz.func375.trans (Ad some Jk)
 f266:=Tryz.func394.trans (Ad some Jk)
 f267:=Tryz.func389.trans (Ad some Jk)
 f314:=Tryz.func395.trans (Ad some Jk)
 t3:=Tryz.underlying3
 a3:=Tryz.isAgg3
 z3:=Tryz.sizeOf3
 v3:=Tryz.zeroValue3
 t4:=Tryz.underlying4
 a4:=Tryz.isAgg4
 z4:=Tryz.sizeOf4
 v4:=Tryz.zeroValue4
 t5:=Tryz.underlying5
 a5:=Tryz.isAgg5
 z5:=Tryz.sizeOf5
 v5:=Tryz.zeroValue5
 t9:=Tryz.underlying9
 a9:=Tryz.isAgg9
 z9:=Tryz.sizeOf9
 v9:=Tryz.zeroValue9
 t46:=Tryz.underlying272
 a46:=Tryz.isAgg272
 z46:=Tryz.sizeOf272
 v46:=Tryz.zeroValue272
 t51:=Tryz.underlying179
 a51:=Tryz.isAgg179
 z51:=Tryz.sizeOf179
 v51:=Tryz.zeroValue179
 t146:=Tryz.underlying491
 a146:=Tryz.isAgg491
 z146:=Tryz.sizeOf491
 v146:=Tryz.zeroValue491
 g1:=by kernel_rfl }
open Go.RowKit Go.Lib in
theorem Tryz.strings_Index(s sub:DB)(m:Int)(w:DA)(H:s.size<4294967281)(U:w.cell? ⟨1,0,none⟩=some (ii m)):
  Calls DM 341 #[.string s,.string sub] w λe w'=>e=.returned (ii (Lib.index s.data.toList sub.data.toList))/\w'=w:=Any.strings_Index Tryz.lays143 s sub m w H U
def Tryz.lays145_ren:Go.Shelf.Ren:=⟨fun|145=>344|220=>379|219=>378|217=>388|225=>375|224=>374|267=>389|266=>394|314=>395|n=>n,fun|9=>9|4=>4|59=>388|3=>3|5=>5|46=>272|146=>491|51=>179|n=>n,fun|1=>1|n=>n⟩
theorem Tryz.lays145:Go.Proofs.Lays.n145 DM Tryz.lays145_ren:={
 mixed:=by kernel_rfl
 f145:=Tryz.func344.trans (Ad some Jk)
 f217:=Tryz.func388.trans (Ad some Jk)
 f219:=Tryz.func378.trans (Ad some Jk)
 f220:=Tryz.func379.trans (Ad some Jk)
 f224:=Tryz.func374.trans (Ad some Jk)
 f225:=Tryz.func375.trans (Ad some Jk)
 f266:=Tryz.func394.trans (Ad some Jk)
 f267:=Tryz.func389.trans (Ad some Jk)
 f314:=Tryz.func395.trans (Ad some Jk)
 t3:=Tryz.underlying3
 a3:=Tryz.isAgg3
 z3:=Tryz.sizeOf3
 v3:=Tryz.zeroValue3
 t4:=Tryz.underlying4
 a4:=Tryz.isAgg4
 z4:=Tryz.sizeOf4
 v4:=Tryz.zeroValue4
 t5:=Tryz.underlying5
 a5:=Tryz.isAgg5
 z5:=Tryz.sizeOf5
 v5:=Tryz.zeroValue5
 t9:=Tryz.underlying9
 a9:=Tryz.isAgg9
 z9:=Tryz.sizeOf9
 v9:=Tryz.zeroValue9
 t46:=Tryz.underlying272
 a46:=Tryz.isAgg272
 z46:=Tryz.sizeOf272
 v46:=Tryz.zeroValue272
 t51:=Tryz.underlying179
 a51:=Tryz.isAgg179
 z51:=Tryz.sizeOf179
 v51:=Tryz.zeroValue179
 t59:=Tryz.underlying388
 a59:=Tryz.isAgg388
 z59:=Tryz.sizeOf388
 v59:=Tryz.zeroValue388
 t146:=Tryz.underlying491
 a146:=Tryz.isAgg491
 z146:=Tryz.sizeOf491
 v146:=Tryz.zeroValue491
 g1:=by kernel_rfl }
open Go.RowKit Go.Lib in
theorem Tryz.strings_Cut(s H:DB)(m:Int)(w:DA)(U:s.size<4294967281)(V:w.cell? ⟨1,0,none⟩=some (ii m)):
  Calls DM 344 #[.string s,.string H] w λe w'=>e=.returned (.tuple #[.string ⟨(Lib.cut s.data.toList H.data.toList).1.toArray⟩,.string ⟨(Lib.cut s.data.toList H.data.toList).2.1.toArray⟩,.bool (Lib.cut s.data.toList H.data.toList).2.2])/\∃n,w'=w.drewN n:=Any.strings_Cut Tryz.lays145 s H m w U V
def Tryz.lays138_ren:Go.Shelf.Ren:=⟨fun|138=>340|195=>376|218=>377|143=>341|219=>378|217=>388|225=>375|224=>374|267=>389|266=>394|314=>395|n=>n,fun|9=>9|3=>3|4=>4|5=>5|0=>0|46=>272|146=>491|51=>179|n=>n,fun|1=>1|n=>n⟩
theorem Tryz.lays138:Go.Proofs.Lays.n138 DM Tryz.lays138_ren:={
 mixed:=by kernel_rfl
 f138:=Tryz.func340.trans (Ad some Jk)
 f143:=Tryz.func341.trans (Ad some Jk)
 f195:=Tryz.func376.trans (Ad some Jk)
 f217:=Tryz.func388.trans (Ad some Jk)
 f218:=Tryz.func377.trans (Ad some Jk)
 f219:=Tryz.func378.trans (Ad some Jk)
 f224:=Tryz.func374.trans (Ad some Jk)
 f225:=Tryz.func375.trans (Ad some Jk)
 f266:=Tryz.func394.trans (Ad some Jk)
 f267:=Tryz.func389.trans (Ad some Jk)
 f314:=Tryz.func395.trans (Ad some Jk)
 t0:=Tryz.underlying0
 a0:=Tryz.isAgg0
 z0:=Tryz.sizeOf0
 v0:=Tryz.zeroValue0
 t3:=Tryz.underlying3
 a3:=Tryz.isAgg3
 z3:=Tryz.sizeOf3
 v3:=Tryz.zeroValue3
 t4:=Tryz.underlying4
 a4:=Tryz.isAgg4
 z4:=Tryz.sizeOf4
 v4:=Tryz.zeroValue4
 t5:=Tryz.underlying5
 a5:=Tryz.isAgg5
 z5:=Tryz.sizeOf5
 v5:=Tryz.zeroValue5
 t9:=Tryz.underlying9
 a9:=Tryz.isAgg9
 z9:=Tryz.sizeOf9
 v9:=Tryz.zeroValue9
 t46:=Tryz.underlying272
 a46:=Tryz.isAgg272
 z46:=Tryz.sizeOf272
 v46:=Tryz.zeroValue272
 t51:=Tryz.underlying179
 a51:=Tryz.isAgg179
 z51:=Tryz.sizeOf179
 v51:=Tryz.zeroValue179
 t146:=Tryz.underlying491
 a146:=Tryz.isAgg491
 z146:=Tryz.sizeOf491
 v146:=Tryz.zeroValue491
 g1:=by kernel_rfl }
open Go.RowKit Go.Lib in
theorem Tryz.strings_Count_any(s H:DB)(m:Int)(w:DA)(U:s.size<4294967281)(V:w.cell? ⟨1,0,none⟩=some (ii m))(W:1<=H.size):
  Calls DM 340 #[.string s,.string H] w λe w'=>e=.returned (ii (Lib.countB s H))/\w'=w:=Any.strings_Count_any Tryz.lays138 s H m w U V W
def Tryz.lays221_ren:Go.Shelf.Ren:=⟨fun|221=>289|268=>339|138=>340|143=>341|195=>376|197=>368|218=>377|219=>378|260=>387|217=>388|225=>375|224=>374|267=>389|266=>394|314=>395|n=>n,fun|9=>9|3=>3|31=>159|4=>4|0=>0|105=>353|21=>21|5=>5|46=>272|119=>487|139=>490|138=>489|146=>491|51=>179|n=>n,fun|1=>1|3=>5|4=>6|n=>n⟩
def Tryz.lays146_ren:Go.Shelf.Ren:=⟨fun|146=>217|221=>289|268=>339|138=>340|143=>341|195=>376|197=>368|218=>377|219=>378|260=>387|217=>388|225=>375|224=>374|267=>389|266=>394|314=>395|n=>n,fun|9=>9|31=>159|3=>3|4=>4|0=>0|105=>353|21=>21|5=>5|46=>272|119=>487|139=>490|138=>489|146=>491|51=>179|n=>n,fun|1=>1|3=>5|4=>6|n=>n⟩
theorem Tryz.lays146:Go.Proofs.Lays.n146 DM Tryz.lays146_ren:={
 mixed:=by kernel_rfl
 f138:=Tryz.func340.trans (Ad some Jk)
 f143:=Tryz.func341.trans (Ad some Jk)
 f146:=Tryz.func217.trans (Ad some Jk)
 f195:=Tryz.func376.trans (Ad some Jk)
 f197:=Tryz.func368.trans (Ad some Jk)
 f217:=Tryz.func388.trans (Ad some Jk)
 f218:=Tryz.func377.trans (Ad some Jk)
 f219:=Tryz.func378.trans (Ad some Jk)
 f221:=Tryz.func289.trans (Ad some Jk)
 f224:=Tryz.func374.trans (Ad some Jk)
 f225:=Tryz.func375.trans (Ad some Jk)
 f260:=Tryz.func387.trans (Ad some Jk)
 f266:=Tryz.func394.trans (Ad some Jk)
 f267:=Tryz.func389.trans (Ad some Jk)
 f268:=Tryz.func339.trans (Ad some Jk)
 f314:=Tryz.func395.trans (Ad some Jk)
 t0:=Tryz.underlying0
 a0:=Tryz.isAgg0
 z0:=Tryz.sizeOf0
 v0:=Tryz.zeroValue0
 t3:=Tryz.underlying3
 a3:=Tryz.isAgg3
 z3:=Tryz.sizeOf3
 v3:=Tryz.zeroValue3
 t4:=Tryz.underlying4
 a4:=Tryz.isAgg4
 z4:=Tryz.sizeOf4
 v4:=Tryz.zeroValue4
 t5:=Tryz.underlying5
 a5:=Tryz.isAgg5
 z5:=Tryz.sizeOf5
 v5:=Tryz.zeroValue5
 t9:=Tryz.underlying9
 a9:=Tryz.isAgg9
 z9:=Tryz.sizeOf9
 v9:=Tryz.zeroValue9
 t21:=Tryz.underlying21
 a21:=Tryz.isAgg21
 z21:=Tryz.sizeOf21
 v21:=Tryz.zeroValue21
 t31:=Tryz.underlying159
 a31:=Tryz.isAgg159
 z31:=Tryz.sizeOf159
 v31:=Tryz.zeroValue159
 t46:=Tryz.underlying272
 a46:=Tryz.isAgg272
 z46:=Tryz.sizeOf272
 v46:=Tryz.zeroValue272
 t51:=Tryz.underlying179
 a51:=Tryz.isAgg179
 z51:=Tryz.sizeOf179
 v51:=Tryz.zeroValue179
 t105:=Tryz.underlying353
 a105:=Tryz.isAgg353
 z105:=Tryz.sizeOf353
 v105:=Tryz.zeroValue353
 t119:=Tryz.underlying487
 a119:=Tryz.isAgg487
 z119:=Tryz.sizeOf487
 t138:=Tryz.underlying489
 a138:=Tryz.isAgg489
 z138:=Tryz.sizeOf489
 v138:=Tryz.zeroValue489
 t139:=Tryz.underlying490
 a139:=Tryz.isAgg490
 z139:=Tryz.sizeOf490
 v139:=Tryz.zeroValue490
 t146:=Tryz.underlying491
 a146:=Tryz.isAgg491
 z146:=Tryz.sizeOf491
 v146:=Tryz.zeroValue491
 g1:=by kernel_rfl
 g3:=by kernel_rfl
 g4:=by kernel_rfl }
open Go.RowKit Go.Lib in
theorem Tryz.strings_Split(s H:DB)(m:Int)(w:DA)(U:s.size<4294967281)(V:w.cell? ⟨1,0,none⟩=some (ii m))(W:1<=H.size):
  Calls DM 217 #[.string s,.string H] w λe w'=>
   e=.returned (.slice (some ⟨w.heap.size,0,none⟩) (Lib.countB s H+1) (Lib.countB s H+1))/\w'=w.alloc (.cells ((Lib.splitB H 0 (Lib.countB s H) s).map Value.string).toArray 9):=Any.strings_Split Tryz.lays146 Jk s H m w U V W
def Tryz.lays151_ren:Go.Shelf.Ren:=⟨fun|151=>282|152=>337|137=>372|119=>373|224=>374|225=>375|217=>388|266=>394|n=>n,fun|9=>9|21=>21|4=>4|3=>3|5=>5|0=>0|46=>272|n=>n,fun|n=>n⟩
theorem Tryz.lays151:Go.Proofs.Lays.n151 DM Tryz.lays151_ren:={
 mixed:=by kernel_rfl
 f119:=Tryz.func373.trans (Ad some Jk)
 f137:=Tryz.func372.trans (Ad some Jk)
 f151:=Tryz.func282.trans (Ad some Jk)
 f152:=Tryz.func337.trans (Ad some Jk)
 f217:=Tryz.func388.trans (Ad some Jk)
 f224:=Tryz.func374.trans (Ad some Jk)
 f225:=Tryz.func375.trans (Ad some Jk)
 f266:=Tryz.func394.trans (Ad some Jk)
 t0:=Tryz.underlying0
 a0:=Tryz.isAgg0
 z0:=Tryz.sizeOf0
 v0:=Tryz.zeroValue0
 t3:=Tryz.underlying3
 a3:=Tryz.isAgg3
 z3:=Tryz.sizeOf3
 v3:=Tryz.zeroValue3
 t4:=Tryz.underlying4
 a4:=Tryz.isAgg4
 z4:=Tryz.sizeOf4
 v4:=Tryz.zeroValue4
 t5:=Tryz.underlying5
 a5:=Tryz.isAgg5
 z5:=Tryz.sizeOf5
 v5:=Tryz.zeroValue5
 t9:=Tryz.underlying9
 a9:=Tryz.isAgg9
 z9:=Tryz.sizeOf9
 v9:=Tryz.zeroValue9
 t21:=Tryz.underlying21
 a21:=Tryz.isAgg21
 z21:=Tryz.sizeOf21
 v21:=Tryz.zeroValue21
 t46:=Tryz.underlying272
 a46:=Tryz.isAgg272
 z46:=Tryz.sizeOf272
 v46:=Tryz.zeroValue272 }
open Go.RowKit Go.Lib in
theorem Tryz.strings_ContainsRune_ascii(s:DB)(r:Int)(w:DA)(H:0<=r)(U:r<128):
  Calls DM 282 #[.string s,.int .i32 r] w λe w'=>e=.returned (.bool (decide (0<=Lib.indexByte s.data.toList r.toNat.toUInt8)))/\w'=w:=Any.strings_ContainsRune_ascii Tryz.lays151 s r w H U
def Tryz.lays110_ren:Go.Shelf.Ren:=⟨fun|110=>296|109=>343|n=>n,fun|31=>159|9=>9|4=>4|3=>3|0=>0|n=>n,fun|n=>n⟩
theorem Tryz.lays110:Go.Proofs.Lays.n110 DM Tryz.lays110_ren:={
 mixed:=by kernel_rfl
 f109:=Tryz.func343.trans (Ad some Jk)
 f110:=Tryz.func296.trans (Ad some Jk)
 t0:=Tryz.underlying0
 a0:=Tryz.isAgg0
 z0:=Tryz.sizeOf0
 v0:=Tryz.zeroValue0
 t3:=Tryz.underlying3
 a3:=Tryz.isAgg3
 z3:=Tryz.sizeOf3
 v3:=Tryz.zeroValue3
 t4:=Tryz.underlying4
 a4:=Tryz.isAgg4
 z4:=Tryz.sizeOf4
 v4:=Tryz.zeroValue4
 t9:=Tryz.underlying9
 a9:=Tryz.isAgg9
 z9:=Tryz.sizeOf9
 v9:=Tryz.zeroValue9
 t31:=Tryz.underlying159
 a31:=Tryz.isAgg159
 z31:=Tryz.sizeOf159
 v31:=Tryz.zeroValue159 }
open Go.Lib in
theorem Tryz.slices_Contains_string(b off n c:Nat)(H:List DB)(x:DB)(w:DA)(V:n<=H.length)(U:n<=9223372036854775807)(W:∀j,j<H.length->w.cell? ⟨b,off+j,none⟩=some (.string (H.getD j ByteArray.empty))):
  Calls DM 296 #[.slice (some ⟨b,off,none⟩) n c,.string x] w λe w'=>e=.returned (.bool (Lib.containsS (H.take n) x))/\w'=w:=Any.slices_Contains_string Tryz.lays110 b off n c H x w V U W
open Go.Lib in
theorem Tryz.slices_Contains_string_empty(a:oA)(c:Nat)(x:DB)(w:DA):
  Calls DM 296 #[.slice a 0 c,.string x] w λe w'=>e=.returned (.bool false)/\w'=w:=Any.slices_Contains_string_empty Tryz.lays110 a c x w
end Go.Proofs
