/- Lemmas and contracts of functions on the way to the law's card (part 1 of 20). -/
import Derived.Test.YtccmcfpmknpccaaGreatDoorProg
import Derived.WalkKit
import Derived.WalkSpells
import Derived.StillTactics
import Derived.Lib.Hide
import Derived.IntWalk
import Derived.Still
import Derived.Scope
import Derived.Maps.AppendAt
import Derived.Lib.AppendStr
namespace Go.Proofs.YtccmcfpmknpccaaGreatDoor
open Go.RowKit
abbrev Aa:=@if_neg
abbrev Ac:=@List.mem_append_right
abbrev Ad:=@if_pos
abbrev Ae:=@congrArg
abbrev Af:=@List.getElem?_eq_some_iff
abbrev Ag:=@Nat.zero_le
abbrev Ah:=@List.getD_eq_getElem?_getD
abbrev Ai:=@Nat.le_refl
abbrev Aj:=@List.mem_append_left
abbrev Ak:=@List.mem_singleton
abbrev Am:=@List.take_of_length_le
abbrev An:=@List.getElem?_toArray
abbrev Ao:=@List.getElem?_map
abbrev Ar:=@List.drop_drop
abbrev As:=@Nat.zero_add
abbrev Au:=@List.perm_append_comm
abbrev Aw:=@List.append_assoc
abbrev Az:=@List.length_take
abbrev AB:=@List.mem_cons
abbrev AC:=@List.length_cons
abbrev AD:=@Classical.byContradiction
abbrev AE:=@decide_eq_true
abbrev AF:=@List.mem_map
abbrev AG:=@List.length_map
abbrev AH:=@List.getElem_mem
abbrev AI:=@Nat.le_trans
abbrev AJ:=@List.map_append
abbrev AK:=@List.map_cons
abbrev AM:=@decide_eq_false
abbrev AN:=@List.drop_eq_nil_of_le
abbrev AP:=@List.mem_iff_getElem?
abbrev AQ:=@Bool.and_eq_true
abbrev AR:=@Option.some.injEq
abbrev AS:=@List.sublist_cons_self
abbrev AT:=@List.getElem?_cons_zero
abbrev AU:=@Bool.eq_iff_iff
abbrev AV:=@List.mem_cons_self
abbrev AW:=@List.take_append_drop
abbrev AX:=@List.take_succ_eq_append_getElem
abbrev AY:=@Nat.pow_le_pow_right
abbrev AZ:=@Nat.mul_one
abbrev Ba:=@List.getElem?_append_left
abbrev Bb:=@Option.some.inj
abbrev Bc:=@List.mem_append
abbrev Bd:=@Option.map_some
abbrev Be:=@List.getElem?_append_right
abbrev Bf:=@Nat.lt_of_lt_of_le
abbrev Bg:=@List.eq_nil_of_length_eq_zero
abbrev Bh:=@List.getElem?_eq_none
abbrev Bi:=@List.cons_append
abbrev Bj:=@Nat.lt_or_ge
abbrev Bk:=@List.ext_getElem?
abbrev Bl:=@Nat.eq_of_beq_eq_true
abbrev Bm:=@Nat.add_sub_cancel
abbrev Bn:=@List.nil_append
abbrev Bo:=@List.pairwise_cons
abbrev Bp:=@List.cons_lt_cons_iff
abbrev Bq:=@List.getElem?_set_self
abbrev Br:=@List.drop_eq_getElem_cons
abbrev Bt:=@Option.some_get
abbrev Bu:=@List.getElem?_range
abbrev Bw:=@List.pairwise_iff_getElem
abbrev Bx:=@Nat.mul_le_mul_right
abbrev Bz:=@List.perm_middle
abbrev B4:=@List.append_nil
abbrev B8:=@Nat.mul_le_mul
abbrev B9:=@Nat.eq_zero_or_pos
abbrev BA:=@Array.toList_inj
abbrev BB:=@Nat.add_zero
abbrev BC:=@List.length_singleton
abbrev BD:=@List.take_add_one
abbrev BE:=@List.getElem?_take
abbrev BF:=@List.drop_zero
abbrev BG:=@Nat.min_eq_left
abbrev BH:=@List.take_zero
abbrev BI:=@Nat.lt_of_le_of_lt
abbrev BJ:=@Nat.add_sub_cancel_left
abbrev BK:=@List.mem_filter
abbrev BL:=@Nat.not_lt_zero
abbrev BM:=@ByteArray.size_extract
abbrev BN:=@List.map_nil
abbrev BO:=@List.length_nil
abbrev BP:=@List.mem_range
abbrev BQ:=@List.not_mem_nil
abbrev BR:=@List.getElem?_cons_succ
abbrev BT:=@Decidable.not_not
abbrev BU:=@Nat.sub_self
abbrev BV:=@Nat.sub_add_cancel
abbrev BW:=@Classical.em
abbrev BX:=@List.take_succ_cons
abbrev BY:=@List.mem_iff_getElem
abbrev BZ:=@Nat.mod_eq_of_lt
abbrev Cb:=@List.take_length
abbrev Cc:=@UInt8.toNat_inj
abbrev Cd:=@Option.getD_some
abbrev Ce:=@Array.getD_eq_getD_getElem?
abbrev Cf:=@Nat.mul_comm
abbrev Cg:=@Array.getElem?_eq_some_iff
abbrev Ch:=@List.getElem_cons_zero
abbrev Ci:=@Array.toList_setIfInBounds
abbrev Cj:=@List.foldl_cons
abbrev Ck:=@List.range_succ
abbrev Cl:=@Array.getElem?_eq_getElem
abbrev Cm:=@UInt8.toNat_ofNat'
abbrev Cn:=@List.getElem?_drop
abbrev Co:=@List.foldl_nil
abbrev Cp:=@List.getElem?_append
abbrev Cq:=@List.pairwise_append
abbrev Cr:=@List.getElem?_set
abbrev Cs:=@of_decide_eq_true
abbrev Ct:=@List.size_toArray
abbrev Cu:=@Nat.mod_lt
abbrev Cv:=@Nat.div_le_self
abbrev Cw:=@List.length_pos_iff
abbrev Cx:=@List.map_congr_left
abbrev Cy:=@ByteArray.data_extract
abbrev Cz:=@Nat.succ_mul
abbrev C0:=@Nat.sub_zero
abbrev C7:=@Nat.add_assoc
abbrev C9:=@List.length_tail
abbrev CA:=@List.getElem_map
abbrev CB:=@Nat.le_of_ble_eq_true
abbrev CD:=@List.mem_or_eq_of_mem_set
abbrev CE:=@Decidable.byContradiction
abbrev CF:=@Nat.le_succ
abbrev CG:=@Nat.lt_trichotomy
abbrev CH:=@Bool.true_and
abbrev CI:=@List.map_take
abbrev CJ:=@List.all_eq_true
abbrev CK:=@Nat.lt_succ_self
abbrev CL:=@List.pairwise_singleton
abbrev CM:=@List.drop_append_of_le_length
abbrev CN:=@List.take_append_of_le_length
abbrev CO:=@Option.map_eq_some_iff
abbrev CP:=@List.all_nil
abbrev CQ:=@Array.getElem?_eq_none
abbrev CR:=@List.nodup_cons
abbrev CS:=@List.all_cons
abbrev CT:=@Bool.and_true
abbrev CU:=@Array.getElem?_toList
abbrev CV:=@Array.mem_of_getElem?
abbrev CW:=@Bool.eq_false_iff
abbrev CX:=@List.all_eq_false
abbrev CY:=@Classical.not_not
abbrev CZ:=@List.mem_of_getElem?
abbrev Da:=@List.mem_cons_of_mem
abbrev Db:=@beq_iff_eq
abbrev Dc:=@List.take_left
abbrev Dd:=@List.set_set
abbrev De:=@Array.mapM_eq_mapM_toList
abbrev Df:=@Nat.shiftRight_eq_div_pow
abbrev Dg:=@List.getElem?_eq_getElem
abbrev Dh:=@List.all_append
abbrev Di:=@Nat.not_lt
abbrev Dj:=@Nat.eq_or_lt_of_le
abbrev Dk:=@List.filter_append
abbrev Dl:=@List.length_eq_zero_iff
abbrev Dm:=@Bool.not_eq_true'
abbrev Dn:=@Int.toNat_natCast
abbrev Do:=@List.nodup_append
abbrev Dp:=@Bool.and_false
abbrev Dq:=@List.length_range
abbrev Dr:=@List.getElem_cons_succ
abbrev Dt:=@List.flatten_cons
abbrev Du:=@Nat.div_lt_iff_lt_mul
abbrev Dv:=@ByteArray.data_append
abbrev Dw:=@List.length_filter_le
abbrev Dx:=@Array.getElem?_modify
abbrev Dy:=@Nat.and_two_pow_sub_one_eq_mod
abbrev Dz:=@List.eq_nil_iff_forall_not_mem
abbrev D0:=@Nat.zero_lt_succ
abbrev D3:=@List.ext_getElem
abbrev D4:=@Nat.div_eq_of_lt
abbrev D5:=@Bool.false_or
abbrev D6:=@Nat.lt_irrefl
abbrev D7:=@List.mem_of_mem_take
abbrev D8:=@Array.toList_extract
abbrev D9:=@Array.mem_toList_iff
abbrev DA:=@Bool.or_eq_false_iff
abbrev DB:=@List.any_append
abbrev DC:=@Int.natCast_mul
abbrev DD:=@List.length_set
abbrev DE:=@Bool.or_eq_true
abbrev DF:=@List.flatten_append
abbrev DG:=@Nat.add_comm
abbrev DH:=@Int.lt_or_le
abbrev DI:=@List.mem_filterMap
abbrev DJ:=@List.drop_left
abbrev DK:=@List.getElem_range
abbrev DL:=@Bool.false_ne_true
abbrev DM:=@Prod.mk.injEq
abbrev DN:=@List.sum_cons
abbrev DO:=@Bool.not_eq_true
abbrev DP:=@List.mem_flatten
abbrev DQ:=@Nat.succ_ne_zero
abbrev DR:=@List.map_set
abbrev DS:=@Bool.or_true
abbrev DT:=@List.map_map
abbrev DU:=World
abbrev DV:=ByteArray
abbrev DW:=Program
abbrev DX:=TypeId
abbrev DY:=UInt8
abbrev DZ:=Value
abbrev Ea:=Value→World→Prop
abbrev Eb:=Nat→Value
abbrev Ec:=World→Prop
abbrev Ed:=List (Nat×Obj)
abbrev Ee:=List Value
abbrev Ef:=List Nat
noncomputable abbrev Eg:=Tryz.prog
abbrev Eh:=Array Value
abbrev Ei:=List Deferred
theorem fq{p:Prop}(e:p:=by(repeat' first|exact trivial|refine And.intro rfl ?_)):p:=e
theorem Oo{p:Prop}(e:p:=by omega):p:=e
theorem Jk{p:Prop}(e:p:=by kernel_rfl):p:=e
theorem Od{p:Prop}(e:p:=by decide):p:=e
theorem Js{p:Prop}(e:p:=by simp):p:=e
theorem Ys{p:Prop}(e:p:=by(simp;omega)):p:=e
theorem Oa{p:Prop}(e:p:=by assumption):p:=e
theorem mh{H:Type}{a:H}{l:List H}:a∈a::l:=AV ..
abbrev LB:=List DY
abbrev oA:=Option Addr
abbrev ii(n:Int):DZ:=.int .i64 n
abbrev pp(b:Nat):DZ:=.pointer (some ⟨b,0,none⟩)
variable {a b c d i id j m off r:Nat} {ρ:Eb} {p q:Prop} {P:DW} {w w' w0:DU} {xo yo:Operand} {x y:DZ} {K R:Ea} {o oj:Oper} {mx:Option DZ} {f:FuncId} {vs:Ee} {ty:DX} {ops:Array Oper} {Q':Exit->Act->Ec} {body:Code} {o':Obj} {cs cur:Eh} {fr:Nat×Nat} {L L':Ed}
theorem zge{H:Type}{l:List H}(h:i<l.length):l[i]?=some l[i]:=Dg h
theorem zld{H:Type}{l:List H}:(l.drop i).length=l.length-i:=List.length_drop ..
theorem zla{H:Type}{l m:List H}:(l++m).length=l.length+m.length:=List.length_append ..
theorem znr{n:Nat}:n<=n:=Ai _
theorem zmg{H:Type}{l:List H}{a:H}(h:l[i]?=some a):a∈l:=CZ h
theorem zmc{H:Type}{a y:H}{l:List H}(h:a∈l):a∈y::l:=Da _ h
namespace V
def upd(ρ:Eb)(d:Nat)(v:DZ):Nat->DZ:=λt=>bif Nat.beq t d then v else ρ t
def ev(ρ:Eb):Operand->DZ
 | .tmp t=>ρ t
 | .const v=>v
 | .global g=>.pointer (some ⟨g,0,none⟩)
 | .func f=>.func (.func f) #[] #[]
def qco:DZ->Bool
 | .agg _ | .tuple _=>false
 | _=>true
structure St(n:Nat)(ρ:Eb)(a:Act):Prop where
 size:a.tmps.size=n
 get:∀t,a.tmps.getD t undef=ρ t
 defers:a.defers=[]
theorem St.eval{n:Nat}{a:Act}(h:St n ρ a):a.eval=ev ρ:=by
 funext x;cases x<;>simp[Act.eval,ev,h.get]
theorem St.put{n:Nat}{a:Act}(h:St n ρ a)(U:d<n)(v:DZ):St n (upd ρ d v) (a.put (some d) v):=by
 refine⟨by simp[Act.put,h.size],λt=>?_,by simp[Act.put,h.defers]⟩;have H:=h.get t;have V:=h.size;simp only[Act.put,upd,Ce]at H|-
 by_cases e:t=d
 ·simp_all
 grind [Nat.eq_of_beq_eq_true]
theorem St.same{n:Nat}{a:Act}(h:St n ρ a){v:DZ}(H:ρ d=v):St n (upd ρ d v) a:=by
 refine⟨h.size,λt=>?_,h.defers⟩;rw[h.get]
 grind [upd,Nat.eq_of_beq_eq_true]
structure Tst(b:Bool)(p q:Prop):Prop where
 t:b=true->p
 f:b=false->q
theorem Tst.tt(h:p):Tst true p q:=⟨λ_=>h,Js⟩
theorem Tst.ff(h:q):Tst false p q:=⟨Js,λ_=>h⟩
theorem Tst.dec{c:Prop}[Decidable c](H:c->p)(U:¬c->q):Tst (decide c) p q:=⟨(by grind),(by grind)⟩
theorem Tst.not{b:Bool}(h:Tst b q p):Tst (!b) p q:=⟨λe=>h.f (by simpa using e),λe=>h.t (by simpa using e)⟩
theorem Tst.beqT{b c:Bool}(h:Tst b p q)(H:c=true:=by rfl):Tst (b==c) p q:=by subst H;cases b<;>exact h
theorem Tst.beqF{b c:Bool}(h:Tst b q p)(H:c=false:=by rfl):Tst (b==c) p q:=by
 subst H;cases b
 ·exact⟨λ_=>h.f rfl,Js⟩
 ·exact⟨Js,λ_=>h.t rfl⟩
theorem Tst.iff(c:Prop){b:Bool}(H:b=true↔c)(U:c->p)(V:¬c->q):Tst b p q:=⟨(by grind),(by grind)⟩
theorem Tst.yes{b:Bool}(H:b=true)(h:p):Tst b p q:=⟨λ_=>h,(by grind)⟩
theorem Tst.no{b:Bool}(H:b=false)(h:q):Tst b p q:=⟨(by grind),λ_=>h⟩
theorem Tst.both{b:Bool}(H:b=true->p)(U:b=false->q):Tst b p q:=⟨H,U⟩
structure Obl(p k:Prop):Prop where
 o:p
 k:k
structure Wit{α:Type}(p:α->Prop)(K:α->Prop):Prop where
 h:∃x,p x/\K x
def qdp(P:DW)(f:FuncId):Bool:=
 match P.funcs[f]? with
 | some U => !(U.name== "runtime.NumGoroutine")&&U.body.isSome
 | none=>false
def Gv(P:DW)(f:FuncId)(args:Ee)(w:DU)(R:Ea):Prop:=
 qdp P f=true/\Calls P f args.toArray w λe w'=>∃v,e=.returned v/\R v w'
structure RunV(P:DW)(s:Sem DZ)(w:DU)(K:Ea):Prop where
 h:∃v w',s.run P w=.ok v w'/\K v w'
structure Fall(P:DW)(s:Sem Next)(w:DU)(K:Ea):Prop where
 h:(∃v w',s.run P w=.ok (.value v) w'/\K v w')\/(∃w',s.run P w=.ok .skip w'/\K undef w')
structure LoadV(w:DU)(b off:Nat)(K:DZ->Prop):Prop where
 h:∃v,w.cell? ⟨b,off,none⟩=some v/\K v
structure LoadA(w:DU)(b off size:Nat)(K:Ee->Prop):Prop where
 h:∃cs:Ee,cs.length=size/\(∀i,i<size->w.cell? ⟨b,off+i,none⟩=cs[i]?)/\K cs
structure StoreV(w:DU)(b off:Nat)(v:DZ)(K:Ec):Prop where
 h:(∃o,w.cell? ⟨b,off,none⟩=some o)/\w.frozen? ⟨b,off,none⟩=false/\qco v=true/\K (w.setCell ⟨b,off,none⟩ v)
structure StoreA(P:DW)(w:DU)(b off:Nat)(vs:Ee)(K:Ec):Prop where
 h:∃w',(storeCells ⟨b,off,none⟩ vs).run P w=.ok () w'/\K w'
structure AppV(P:DW)(argTypes:Array DX)(ty:DX)(s x:DZ)(w:DU)(K:Ea):Prop where
 h:∃v w',(Builtin.append_ argTypes ty #[s,x]).run P w=.ok v w'/\K v w'
structure NewV(w:DU)(o:Obj)(K:Nat->Ec):Prop where
 h:∀b w',b=w.heap.size->w'=w.alloc o->K b w'
structure ElemV(A:Option Addr)(i:Int)(len size:Nat)(K:DZ->Prop):Prop where
 h:∃(b off j:Nat),A=some ⟨b,off,none⟩/\i=(j:Int)/\j<len/\K (.pointer (some ⟨b,off+j*size,none⟩))
structure LoopV(P:DW)(n:Nat)(body:Code)(Q:Exit->Eb->Ec)(ρ:Eb)(w:DU):Prop where
 h:∀a,St n ρ a->(Code.loop body).wp P (λe a' w'=>∃ρ',St n ρ' a'/\Q e ρ' w') a w
structure DrawV(P:DW)(n id:Nat)(ops:Array Oper)(Q:Exit->Eb->Ec)(ρ:Eb)(w:DU):Prop where
 h:∀a,St n ρ a->(Code.region id ops true).wp P (λe a' w'=>∃ρ',St n ρ' a'/\Q e ρ' w') a w
structure CodeV(P:DW)(n:Nat)(c:Code)(Q:Exit->Eb->Ec)(ρ:Eb)(w:DU):Prop where
 h:∀a,St n ρ a->c.wp P (λe a' w'=>∃ρ',St n ρ' a'/\Q e ρ' w') a w
def InR(k:IntKind)(n:Int):Prop:=
 match k with
 | .i64=>-9223372036854775808<=n/\n<=9223372036854775807
 | .i32=>-2147483648<=n/\n<=2147483647
 | .i16=>-32768<=n/\n<=32767
 | .i8=>-128<=n/\n<=127
 | .u64=>0<=n/\n<=18446744073709551615
 | .u32=>0<=n/\n<=4294967295
 | .u16=>0<=n/\n<=65535
 | .u8=>0<=n/\n<=255
def eqk:IntKind->IntKind->Bool
 | .i64,.i64 | .i32,.i32 | .i16,.i16 | .i8,.i8 | .u64,.u64 | .u32,.u32 | .u16,.u16 | .u8,.u8=>true
 | _,_=>false
theorem qaiz{k j:IntKind}(h:eqk k j=true):k=j:=by cases k<;>cases j<;>first|rfl|cases h
def gb(s:DV)(k:Nat):DY:=s.data.toList.getD k 0
def seq(x y:DV):Bool:=x.data==y.data
def slt(x y:DV):Bool:=Op.bytesLess x.toList y.toList
def qfl(H:BinOp)(k:IntKind)(x y:Int):Int:=
 let a:=BitVec.ofInt k.bits x
 let b:=BitVec.ofInt k.bits y
 match H with
 | .and=>k.wrap (a &&&b).toNat
 | .or=>k.wrap (a |||b).toNat
 | .xor=>k.wrap (a ^^^ b).toNat
 | _=>k.wrap (a &&& ~~~b).toNat
def qjg(v:DZ)(K:DZ->Prop):Prop:=
 match v with
 | .bool b=>K (.bool b)
 | .int k n=>K (.int k n)
 | .float k n=>K (.float k n)
 | .complex k a b=>K (.complex k a b)
 | .string s=>K (.string s)
 | .pointer a=>K (.pointer a)
 | .slice a l c=>K (.slice a l c)
 | .map r=>K (.map r)
 | .chan r=>K (.chan r)
 | .func f a c=>K (.func f a c)
 | .nilFunc=>K .nilFunc
 | .iface t v=>K (.iface t v)
 | .nilIface=>K .nilIface
 | .agg cs=>K (.agg cs)
 | .tuple vs=>K (.tuple vs)
theorem qbt(v:DZ)(K:DZ->Prop):qjg v K=K v:=by cases v<;>rfl
def qcn:Ee->(Ee->Prop)->Prop
 | [],K=>K []
 | v::l,K=>qjg v λu=>qcn l λr=>K (u::r)
theorem qao(l:Ee):∀K:Ee->Prop,qcn l K=K l:=by
 induction l<;>grind [qcn,qbt]
def evs(ρ:Eb):List Operand->Ee
 | []=>[]
 | x::l=>ev ρ x::evs ρ l
theorem qef(ρ:Eb)(l:List Operand):evs ρ l=l.map (ev ρ):=by induction l<;>simp[evs, *]
def setL:Ee->Nat->DZ->Ee
 | [],_,_=>[]
 | _::l,0,v=>v::l
 | x::l,i+1,v=>x::setL l i v
theorem qahl(l:Ee)(i:Nat)(v:DZ):setL l i v=l.set i v:=by
 induction l generalizing i with
 | nil=>rfl
 | cons x l H=>cases i<;>simp[setL,H]
def qhg:Operand->Bool
 | .const _=>true
 | _=>false
def isEq:BinOp->Bool
 | .eql | .neq=>true
 | _=>false
def eqOp:BinOp->Bool
 | .eql=>true
 | _=>false
def qme(P:DW)(t:DX)(xo yo:Operand)(x y:DZ):Option Bool:=
 match x,y with
 | .pointer none,.pointer b=>match P.underlying t with|some (.pointer _)=>some b.isNone|_=>none
 | .pointer (some _),.pointer none=>match P.underlying t with|some (.pointer _)=>some false|_=>none
 | .slice none _ _,.slice b _ _=>match P.underlying t with|some (.slice _)=>some b.isNone|_=>none
 | .slice (some _) _ _,.slice none _ _=>match P.underlying t with|some (.slice _)=>some false|_=>none
 | .nilIface,.nilIface=>match P.underlying t with|some (.interface _)=>(bif qhg xo||qhg yo then some true else none)|_=>none
 | .nilIface,.iface _ _=>match P.underlying t with|some (.interface _)=>some false|_=>none
 | .iface _ _,.nilIface=>match P.underlying t with|some (.interface _)=>some false|_=>none
 | _,_=>none
def binV(P:DW)(H:BinOp)(t:DX)(xo yo:Operand)(x y:DZ)(w:DU)(K:DZ->Prop)(U:Ea):Prop:=
 match x,y with
 | .int k a,.int V b=>
  match H with
  | .shl=>Wit (λr=>0<=b/\b<k.bits/\k.wrap (a*2 ^ b.toNat)=r) (λr=>K (.int k r))
  | .shr=>Wit (λr=>0<=b/\b<k.bits/\a/2 ^ b.toNat=r) (λr=>K (.int k r))
  | _=>bif eqk k V then
   match H with
   | .add=>Obl (InR k (a+b)) (K (.int k (a+b)))
   | .sub=>Obl (InR k (a-b)) (K (.int k (a-b)))
   | .mul=>Obl (InR k (a*b)) (K (.int k (a*b)))
   | .quo=>Obl (0<=a/\0<b/\InR k (a/b)) (K (.int k (a/b)))
   | .rem=>Obl (0<=a/\0<b) (K (.int k (a%b)))
   | .eql=>K (.bool (decide (a=b)))
   | .neq=>K (.bool (decide (a≠b)))
   | .lss=>K (.bool (decide (a<b)))
   | .leq=>K (.bool (decide (a<=b)))
   | .gtr=>K (.bool (decide (b<a)))
   | .geq=>K (.bool (decide (b<=a)))
   | _=>Wit (λr=>qfl H k a b=r) (λr=>K (.int k r))
   else False
 | .string a,.string b=>
  match H with
  | .add=>Obl (a.size+b.size<=9223372036854775807) (K (.string (a++b)))
  | .eql=>K (.bool (seq a b))
  | .neq=>K (.bool (!seq a b))
  | .lss=>K (.bool (slt a b))
  | .leq=>K (.bool (slt a b||seq a b))
  | .gtr=>K (.bool (!(slt a b||seq a b)))
  | .geq=>K (.bool (!slt a b))
  | _=>False
 | .bool a,.bool b=>
  match H,P.underlying t with
  | .eql,some .bool=>K (.bool (a==b))
  | .neq,some .bool=>K (.bool (!(a==b)))
  | _,_=>False
 | x,y=>bif isEq H then(match qme P t xo yo x y with|some b=>K (.bool (bif eqOp H then b else !b))|none=>RunV P (do eqGuard H t xo yo x y;binOp H t x y) w U)else RunV P (do eqGuard H t xo yo x y;binOp H t x y) w U
theorem qnz(a b:DV):(a.toList==b.toList)=seq a b:=by
 grind [seq,ByteArray.toList_eq,Array.toList_inj]
theorem qaf{a b:DV}:seq a b=true↔a=b:=by
 unfold seq;rw[Db];cases a;cases b;simp
theorem qtr{a b:DV}:seq a b=false↔a≠b:=by
 grind [qaf]
theorem Tst.seq{a b:DV}{p q:Prop}(H:a=b->p)(U:a≠b->q):Tst (seq a b) p q:=⟨λe=>H (qaf.1 e),λe=>U (qtr.1 e)⟩
theorem InR.wrap{k:IntKind}{n:Int}(h:InR k n):k.wrap n=n:=by
 cases k<;>obtain⟨H,U⟩:=h<;>simp[IntKind.bits,IntKind.signed,IntKind.wrap]<;>(try split)<;>omega
theorem qcx{k:IntKind}{a b:Int}{H:BinOp}(t:DX)(xo yo:Operand)(h:H=.and\/H=.or\/H=.xor\/H=.andNot):
  (do eqGuard H t xo yo (.int k a) (.int k b);binOp H t (.int k a) (.int k b):Sem DZ).run P w=.ok (.int k (qfl H k a b)) w:=by
 rcases h with rfl|rfl|rfl|rfl<;>simp[eqGuard,binOp,Op.intBits,qfl,go_sem]<;>rfl
theorem qkl{t:DX}{a b:Bool}(d:Nat)(H:P.underlying t=some .bool):
  (Op.equalIn (d+1) t (.bool a) (.bool b)).run P w=.ok (a==b) w:=by
 simp[Op.equalIn,run_underlying H]
theorem qg6{t:DX}{a b:Bool}(H:P.underlying t=some .bool):
  (Op.equal t (.bool a) (.bool b)).run P w=.ok (a==b) w:=qkl 9999 H
theorem qmw{t:DX}{b:Bool}(d:Nat)(h:qme P t xo yo x y=some b):(Op.equalIn (d+1) t x y).run P w=.ok b w:=by
 unfold qme at h
 split at h
 ·split at h
  all_goals simp_all[Op.equalIn,run_underlying]
 ·split at h
  all_goals simp_all[Op.equalIn,run_underlying]
 ·split at h
  ·rename_i H;cases h;simp[Op.equalIn,run_underlying H]
  ·cases h
 ·split at h
  ·rename_i H;cases h;simp[Op.equalIn,run_underlying H]
  ·cases h
 ·split at h
  ·rename_i H
   cases U:qhg xo||qhg yo<;>rw[U]at h
   all_goals simp_all[Op.equalIn,run_underlying]
  ·cases h
 ·split at h
  all_goals simp_all[Op.equalIn,run_underlying]
 ·split at h
  all_goals simp_all[Op.equalIn,run_underlying]
 ·cases h
theorem qmu{t:DX}{b:Bool}{op:BinOp}(h:qme P t xo yo x y=some b):(eqGuard op t xo yo x y).run P w=.ok () w:=by
 unfold qme at h
 split at h
 all_goals try (cases op<;>simp[eqGuard];done)
 ·split at h
  ·cases H:qhg xo||qhg yo<;>rw[H]at h
   ·cases h
   ·cases op<;>cases xo<;>cases yo<;>simp_all[eqGuard,qhg]
  ·cases h
 ·cases h
theorem qahc{t:DX}{b:Bool}{H:BinOp}(W:isEq H=true)(h:qme P t xo yo x y=some b)(Z:∀k a,x≠.int k a)(h2:∀a,x≠.string a)(h3:∀a,x≠.bool a):
  (do eqGuard H t xo yo x y;binOp H t x y:Sem DZ).run P w=.ok (.bool (bif eqOp H then b else !b)) w:=by
 have U:=qmu (w:=w) (op:=H) h;have V:=qmw (w:=w) 9999 h;cases H<;>first|(cases W;done)|skip
 ·unfold qme at h;cases x<;>cases y<;>first|(cases h;done)|(simp[U,binOp,Op.equal,Op.maxDepth,V,eqOp])
 ·unfold qme at h;cases x<;>cases y<;>first|(cases h;done)|(simp[U,binOp,Op.equal,Op.maxDepth,V,eqOp])
theorem qzt{U:BinOp}{t:DX}(h:binV P U t xo yo x y w (λv=>K v w) K):
  ∃v w',(do eqGuard U t xo yo x y;binOp U t x y:Sem DZ).run P w=.ok v w'/\K v w':=by
 unfold binV at h
 split at h
 ·rename_i k a k' b
  have Z:U≠.shl->U≠.shr->eqk k k'=true:=by
   grind
  cases U<;>simp only at h
  case shl=>
   obtain⟨r,⟨h0,W,rfl⟩,H⟩:=h;refine⟨_,w,?_,H⟩;have e:¬b<0:=by omega
   have e2:min b.toNat k.bits=b.toNat:=by omega
   have es:Op.shift .shl k a k' b=pure (.int k (k.wrap (a*2 ^ b.toNat))):=by grind [Op.shift]
   simp_all[eqGuard,binOp]
  case shr=>
   obtain⟨r,⟨h0,W,rfl⟩,H⟩:=h;refine⟨_,w,?_,H⟩;have e:¬b<0:=by omega
   have e2:min b.toNat k.bits=b.toNat:=by omega
   have e3:a.fdiv (2 ^ b.toNat)=a/2 ^ b.toNat:=(by grind)
   have es:Op.shift .shr k a k' b=pure (.int k (a/2 ^ b.toNat)):=by grind [Op.shift]
   simp_all[eqGuard,binOp]
  all_goals(obtain rfl:=qaiz (Z Js Js);rw[Z Js Js]at h;simp only[cond_true]at h)
  case add=>obtain⟨V,H⟩:=h;exact⟨_,w,by simp[eqGuard,binOp,Op.intArith,go_sem,V.wrap],H⟩
  case sub=>obtain⟨V,H⟩:=h;exact⟨_,w,by simp[eqGuard,binOp,Op.intArith,go_sem,V.wrap],H⟩
  case mul=>obtain⟨V,H⟩:=h;exact⟨_,w,by simp[eqGuard,binOp,Op.intArith,go_sem,V.wrap],H⟩
  case quo=>
   obtain⟨⟨h0,W,V⟩,H⟩:=h;refine⟨_,w,?_,H⟩;have e:b≠0:=by omega
   have e2:a.tdiv b=a/b:=(by grind)
   simp[eqGuard,binOp,Op.intDiv,go_sem,e,e2,V.wrap]
  case rem=>
   obtain⟨⟨h0,W⟩,H⟩:=h;refine⟨_,w,?_,H⟩;have e:b≠0:=by omega
   simp_all[Int.tmod_eq_emod_of_nonneg,eqGuard,binOp,Op.intDiv]
  case and=>obtain⟨r,rfl,H⟩:=h;grind [qcx]
  case or=>obtain⟨r,rfl,H⟩:=h;grind [qcx]
  case xor=>obtain⟨r,rfl,H⟩:=h;grind [qcx]
  case andNot=>obtain⟨r,rfl,H⟩:=h;grind [qcx]
  case eql=>
   refine⟨_,w,?_,h⟩;have e:(a==b)=decide (a=b):=rfl;simp[eqGuard,binOp,Op.intCmp,go_sem,e]
  case neq=>
   refine⟨_,w,?_,h⟩;have e:(a != b)=decide (a≠b):=by grind
   simp[eqGuard,binOp,Op.intCmp,go_sem,e]
  case lss=>exact⟨_,w,by simp[eqGuard,binOp,Op.intCmp],h⟩
  case leq=>exact⟨_,w,by simp[eqGuard,binOp,Op.intCmp],h⟩
  case gtr=>exact⟨_,w,by simp[eqGuard,binOp,Op.intCmp],h⟩
  case geq=>exact⟨_,w,by simp[eqGuard,binOp,Op.intCmp],h⟩
 ·rename_i a b
  cases U<;>simp only at h
  case add=>
   obtain⟨W,H⟩:=h;refine⟨_,w,?_,H⟩;simp[eqGuard,binOp,Op.stringOp,go_sem];omega
  case eql=>exact⟨_,w,by simp[eqGuard,binOp,Op.stringOp,qnz],h⟩
  case neq=>exact⟨_,w,by simp[eqGuard,binOp,Op.stringOp,qnz],h⟩
  case lss=>exact⟨_,w,by rfl,h⟩
  case leq=>exact⟨_,w,by simp[eqGuard,binOp,Op.stringOp,slt,qnz],h⟩
  case gtr=>exact⟨_,w,by simp[eqGuard,binOp,Op.stringOp,slt,qnz],h⟩
  case geq=>exact⟨_,w,by rfl,h⟩
 ·rename_i a b
  split at h
  ·rename_i hu
   exact⟨_,w,by simp[eqGuard,binOp,qg6 hu,go_sem],h⟩
  ·rename_i hu
   exact⟨_,w,by simp[eqGuard,binOp,qg6 hu,go_sem],h⟩
  ·exact h.elim
 ·cases ho:isEq U<;>rw[ho]at h<;>dsimp only[cond_true,cond_false]at h
  ·obtain⟨v,w',W,h2⟩:=h
   grind
  ·split at h
   ·rename_i b hb
    exact⟨_,w,qahc ho hb (by grind [qme]) (by grind [qme]) (by grind [qme]),h⟩
   ·obtain⟨v,w',W,h2⟩:=h
    grind
def aggD:TypeDesc->Bool
 | .struct _ | .array _ _=>true
 | _=>false
def tsz(P:DW)(t:DX):Nat:=match P.info? t with|some i=>i.size|none=>0
def hasT(P:DW)(t:DX):Bool:=(P.info? t).isSome
def getL{H:Type}:List H->Nat->Option H
 | [],_=>none
 | v::_,0=>some v
 | _::l,i+1=>getL l i
theorem qa2{H:Type}(l:List H)(i:Nat):getL l i=l[i]?:=by
 induction l generalizing i with
 | nil=>rfl
 | cons v l U=>cases i<;>simp[getL,U]
structure IdxV(i:Int)(n:Nat)(K:Nat->Prop):Prop where
 h:∃j:Nat,i=(j:Int)/\j<n/\K j
def OpOk2(P:DW)(s:Sem Next)(w:DU)(K:Ea):Prop:=
 (∃v w',s.run P w=.ok (.value v) w'/\K v w')\/(∃w',s.run P w=.ok .skip w'/\K undef w')
def OpOk(P:DW)(s:Sem Next)(w:DU)(K:Ea):Prop:=
 OpOk2 P s w K\/(∃f args,s.run P w=.ok (.enter f args) w/\Calls P f args w λe w'=>∃v,e=.returned v/\K v w')
theorem OpOk2.val{s:Sem DZ}(h:∃v w',s.run P w=.ok v w'/\K v w'):
  OpOk2 P (do pure (.value (<-s))) w K:=by
 obtain⟨v,w',H,U⟩:=h;exact .inl ⟨v,w',by simp[H],U⟩
theorem OpOk2.unit{s:Sem Unit}(h:∃w',s.run P w=.ok () w'/\K undef w'):
  OpOk2 P (do s;pure .skip) w K:=by
 obtain⟨w',H,U⟩:=h;exact .inr ⟨w',by simp[H],U⟩
theorem OpOk.wp{a:Act}{next:Act->Ec}{Q:Exit->Act->Ec}(V:a.eval=ev ρ)(h:OpOk P (execOp (ev ρ) o) w K)(W:∀v w',K v w'->next (a.put o.dst v) w'):o.wp P a w next Q:=by
 unfold Oper.wp;rw[V]
 rcases h with(⟨v,w',H,U⟩|⟨w',H,U⟩)|⟨f,args,H,U⟩
 ·rw[H];exact W _ _ U
 ·rw[H];exact W _ _ U
 ·rw[H,Oper.upon_enter];refine U.mono λe w' ⟨v,V,Z⟩=>?_
  simp_all
def qagu(c a b:DZ)(K:DZ->Prop):Prop:=
 match c with
 | .bool t=>Tst t (qjg a K) (qjg b K)
 | _=>False
def idxV(P:DW)(t:DX)(x i:DZ)(K:DZ->Prop):Prop:=
 match P.underlying t,x,i with
 | some .string,.string s,.int _ i=>IdxV i s.size λj=>K (.int .u8 (gb s j).toNat)
 | some (.array n e),.agg cs,.int _ i=>
  match P.underlying e with
  | some d=>bif hasT P e then bif aggD d then IdxV i n λj=>Wit (λl:Ee=>(cs.toList.drop (j*tsz P e)).take (tsz P e)=l) λl=>K (.agg l.toArray)
   else IdxV i n λj=>Wit (λv:DZ=>cs.toList[j*tsz P e]?=some v) K else False
  | none=>False
 | _,_,_=>False
def qp4(P:DW)(t:DX)(x i:DZ)(K:DZ->Prop):Prop:=
 match P.underlying t,x,i with
 | some (.slice e),.slice A H _,.int _ i=>bif hasT P e then ElemV A i H (tsz P e) K else False
 | some (.array n e),.pointer (some ⟨b,off,none⟩),.int _ i=>bif hasT P e then IdxV i n λj=>K (.pointer (some ⟨b,off+j*tsz P e,none⟩))else False
 | _,_,_=>False
def q0c(P:DW)(t:DX)(x:DZ)(w:DU)(K:DZ->Prop):Prop:=
 match P.underlying t,x with
 | some d,.pointer (some ⟨b,off,none⟩)=>
  bif aggD d then bif hasT P t then LoadA w b off (tsz P t) λcs=>qcn cs λl=>K (.agg l.toArray)else False
  else LoadV w b off λv=>qjg v K
 | _,_=>False
def qzd(P:DW)(t:DX)(x v:DZ)(w:DU)(s:Sem Next)(K:Ea):Prop:=
 match x with
 | .pointer (some ⟨b,off,none⟩)=>
  match v with
  | .tuple _=>Fall P s w K
  | .agg cs=>bif hasT P t&&Nat.beq (tsz P t) cs.toList.length then StoreA P w b off cs.toList λw'=>K undef w' else False
  | v=>bif hasT P t&&Nat.beq (tsz P t) 1 then StoreV w b off v λw'=>K undef w' else False
 | _=>False
def qpu(x:DZ)(H:Nat)(K:DZ->Prop):Prop:=
 match x with
 | .tuple vs=>match getL vs.toList H with
  | some v=>qjg v K
  | none=>False
 | _=>False
def qjc(P:DW)(t:DX)(x:DZ)(f:Nat)(K:DZ->Prop):Prop:=
 match P.underlying t,x with
 | some (.struct H),.pointer (some ⟨b,off,none⟩)=>
  match getL H.toList f with
  | some f=>bif hasT P f.type && !Nat.beq (tsz P f.type) 0 then K (.pointer (some ⟨b,off+f.offset,none⟩))else False
  | none=>False
 | _,_=>False
def q3b(P:DW)(t:DX)(x:DZ)(f:Nat)(K:DZ->Prop):Prop:=
 match P.underlying t,x with
 | some (.struct H),.agg cs=>
  match getL H.toList f with
  | some f=>match P.underlying f.type with
   | some d=>bif aggD d then bif hasT P f.type then qcn ((cs.toList.drop f.offset).take (tsz P f.type)) λl=>K (.agg l.toArray)else False
    else match getL cs.toList f.offset with
     | some v=>qjg v K
     | none=>False
   | none=>False
  | none=>False
 | _,_=>False
def boxV(t:DX)(v:DZ)(w:DU)(K:Ea):Prop:=
 qcn v.cells.toList λl=>NewV w (.cells l.toArray t) λb w'=>K (.pointer (some ⟨b,0,none⟩)) w'
def qw3(P:DW)(t:DX)(w:DU)(K:Ea):Prop:=
 match P.info? t with
 | some i=>match i.zero with
  | some z=>boxV t z w K
  | none=>False
 | none=>False
def CellsAt(w:DU)(b off:Nat)(vs:Ee):Prop:=∀k v,vs[k]?=some v->w.cell? ⟨b,off+k,none⟩=some v
def byteCells(l:List DY):Ee:=l.map λc=>.int .u8 c.toNat
structure BytesS(w:DU)(A:Option Addr)(n:Nat)(K:DZ->Prop):Prop where
 h:∃l:List DY,l.length=n/\(l≠[]->∃b off,A=some ⟨b,off,none⟩/\CellsAt w b off (byteCells l))/\K (.string ⟨l.toArray⟩)
structure NewBytesV(s:DV)(e:DX)(w:DU)(K:Ea):Prop where
 h:∀cap cs b w',s.size<=cap->cs=(byteCells s.data.toList++List.replicate (cap-s.size) (Value.int .u8 0)).toArray->b=w.heap.size->
  w'=w.drew.alloc (.cells cs e (cs.size,cs.size+1))->K (.slice (some ⟨b,0,none⟩) s.size cap) w'
def qaev(P:DW)(H U:DX)(x:DZ)(w:DU)(s:Sem Next)(K:Ea):Prop:=
 match P.underlying H,P.underlying U,x with
 | some _,some (.int k),.int _ n=>Wit (λr=>k.wrap n=r) λr=>K (.int k r) w
 | some .string,some .string,.string s=>K (.string s) w
 | some (.int _),some .string,.int _ n=>K (.string (Utf8.encode n)) w
 | some (.slice e),some .string,.slice A n _=>match P.underlying e with
  | some (.int .u8)=>BytesS w A n λv=>K v w
  | _=>Fall P s w K
 | some .string,some (.slice e),.string x=>match P.underlying e with
  | some (.int .u8)=>NewBytesV x e w K
  | _=>Fall P s w K
 | _,_,_=>Fall P s w K
def unV(H:UnOp)(x:DZ)(K:DZ->Prop):Prop:=
 match H,x with
 | .not,.bool b=>K (.bool (!b))
 | .neg,.int k n=>Obl (InR k (-n)) (K (.int k (-n)))
 | .xor,.int k n=>Wit (λr=>qfl .xor k (if k.signed then -1 else k.max) n=r) (λr=>K (.int k r))
 | _,_=>False
def bnd(o:Option DZ)(d n:Nat):Prop:=
 match o with
 | none=>n=d
 | some (.int _ i)=>i=(n:Int)
 | _=>False
structure SliceS(s:DV)(lo hi:Option DZ)(K:DZ->Prop):Prop where
 h:∃l h:Nat,bnd lo 0 l/\bnd hi s.size h/\l<=h/\h<=s.size/\K (.string (s.extract l h))
structure SliceV(size:Nat)(A:Option Addr)(len cap:Nat)(lo hi mx:Option DZ)(K:DZ->Prop):Prop where
 h:∃l h m:Nat,bnd lo 0 l/\bnd hi len h/\bnd mx cap m/\l<=h/\h<=m/\m<=cap/\(mx.isSome=true->hi.isSome=true)/\
  ∀A',A'=(if m=l then A else A.map (·.add (l*size)))->K (.slice A' (h-l) (m-l))
def evo(ρ:Eb):Option Operand->Option DZ
 | none=>none
 | some x=>some (ev ρ x)
def q6m(P:DW)(t:DX)(x:DZ)(lo hi mx:Option DZ)(w:DU)(s:Sem Next)(K:Ea):Prop:=
 match P.underlying t,x with
 | some .string,.string s=>match mx with
  | none=>SliceS s lo hi λv=>K v w
  | some _=>False
 | some (.slice e),.slice A H U=>bif hasT P e then SliceV (tsz P e) A H U lo hi mx λv=>K v w else False
 | _,_=>Fall P s w K
def lenV(P:DW)(t:Option DX)(x:Ee)(w:DU)(s:Sem Next)(K:Ea):Prop:=
 match t,x with
 | some t,v::_=>match P.underlying t,v with
  | some .string,.string s=>K (.int .i64 s.size) w
  | some (.slice _),.slice _ n _=>K (.int .i64 n) w
  | _,_=>Fall P s w K
 | _,_=>Fall P s w K
structure CallV(P:DW)(f:FuncId)(args:Ee)(w:DU)(K:Ea):Prop where
 h:Gv P f args w K\/∃v w',(callFunc f args.toArray).run P w=.ok (.value v) w'/\K v w'
def appV(P:DW)(H:Array DX)(ty:DX)(vs:Ee)(w:DU)(s:Sem Next)(K:Ea):Prop:=
 match vs with
 | [a,b]=>qjg a λa=>qjg b λb=>AppV P H ty a b w λv w'=>qjg v λv=>K v w'
 | _=>Fall P s w K
structure InvV(P:DW)(t:DX)(v:DZ)(name:String)(vs:Ee)(w:DU)(K:Ea):Prop where
 h:∃f r,(method (P.types.size+Made.depth) t v name).run P w=.ok (f,r) w/\CallV P f (r::vs) w K
def q2d(P:DW)(c:Call)(ty:DX)(ρ:Eb)(w:DU)(s:Sem Next)(K:Ea):Prop:=
 match c.callee with
 | .value f=>match ev ρ f with
  | .func (.func g) first H=>qcn (evs ρ c.args.toList) λvs=>
   match first.toList,H.toList with
   | [],[]=>CallV P g vs w K
   | x,y=>CallV P g (x++(vs++y)) w K
  | _=>Fall P s w K
 | .builtin .len=>lenV P (getL c.argTypes.toList 0) (evs ρ c.args.toList) w s K
 | .builtin .append=>appV P c.argTypes ty (evs ρ c.args.toList) w s K
 | .invoke U name=>match ev ρ U with
  | .iface t v=>qcn (evs ρ c.args.toList) λvs=>InvV P t v name vs w K
  | _=>Fall P s w K
 | _=>Fall P s w K
def csz:DZ->Nat
 | .agg cs=>cs.size
 | _=>1
def qts:Ee->Nat->Ee->Ee
 | l,_,[]=>l
 | l,off,v::vs=>qts (setL l off v) (off+1) vs
def qr9(U:Nat->Option (Nat×Nat))(H:Ee):List (Nat×DZ)->Option Ee
 | []=>some H
 | (i,v)::V=>
  match U i with
  | none=>none
  | some (off,size)=>bif Nat.beq (csz v) size&&Nat.ble (off+csz v) H.length then qr9 U (qts H off v.cells.toList) V else none
def evp(ρ:Eb):List (Nat×Operand)->List (Nat×DZ)
 | []=>[]
 | (i,x)::l=>(i,ev ρ x)::evp ρ l
def qg2(P:DW):List Field->List (Nat×Nat)
 | []=>[]
 | f::l=>(f.offset,tsz P f.type)::qg2 P l
def allT(P:DW):List Field->Bool
 | []=>true
 | f::l=>hasT P f.type&&allT P l
def qn5(P:DW)(t:DX)(H:List (Nat×DZ))(K:DZ->Prop):Prop:=
 match P.info? t with
 | some i=>match i.zero with
  | some z=>match P.underlying t with
   | some (.struct U)=>bif allT P U.toList then
     match qr9 (λk=>getL (qg2 P U.toList) k) z.cells.toList H with
     | some l=>qcn l λl=>K (.agg l.toArray)
     | none=>False
    else False
   | some (.array _ e)=>bif hasT P e then
     match qr9 (λk=>some (k*tsz P e,tsz P e)) z.cells.toList H with
     | some l=>qcn l λl=>K (.agg l.toArray)
     | none=>False
    else False
   | _=>False
  | none=>False
 | none=>False
def qck(z:Ee):Nat->Ee
 | 0=>[]
 | n+1=>z++qck z n
def qhc(P:DW)(t:DX)(H:Nat)(U:List (Nat×DZ))(w:DU)(K:Ea):Prop:=
 match P.underlying t with
 | some (.slice e)=>match P.info? e with
  | some i=>match i.zero with
   | some z=>bif Nat.beq z.cells.toList.length i.size&&Nat.ble (H*i.size) 16777216 && !Nat.beq i.size 0 then
     match qr9 (λk=>some (k*i.size,i.size)) (qck z.cells.toList H) U with
     | some l=>qcn l λl=>NewV w (.cells l.toArray e) λb w'=>K (.slice (some ⟨b,0,none⟩) H H) w'
     | none=>False
    else False
   | none=>False
  | none=>False
 | _=>False
structure MakeV(z:Ee)(bytes e:Nat)(len cap:Int)(w:DU)(K:Ea):Prop where
 h:∃l c:Nat,len=(l:Int)/\cap=(c:Int)/\l<=c/\c*bytes<=140737488355328/\c<9223372036854775808/\
  ∀b w',b=w.heap.size->w'=w.alloc (.cells (qck z c).toArray e)->K (.slice (some ⟨b,0,none⟩) l c) w'
def qjn(P:DW)(t:DX)(H U:DZ)(w:DU)(K:Ea):Prop:=
 match P.underlying t,H,U with
 | some (.slice e),.int _ H,.int _ U=>match P.info? e with
  | some i=>match i.zero with
   | some z=>bif Nat.beq z.cells.toList.length i.size && !Nat.beq i.size 0 then MakeV z.cells.toList i.bytes e H U w K else False
   | none=>False
  | none=>False
 | _,_,_=>False
def qjm(P:DW)(t:DX)(x:DZ)(K:DZ->Prop):Prop:=
 match P.underlying t with
 | some (.interface _)=>False
 | some _=>K (.iface t x)
 | none=>False
def nilV(P:DW)(x:DZ)(w:DU)(s:Sem Next)(K:Ea):Prop:=
 match x with
 | .pointer (some a)=>K (.pointer (some a)) w
 | _=>Fall P s w K
def setO(w:DU)(r:Nat)(o:Obj):DU:={ w with heap:=w.heap.setIfInBounds r o }
def q5y(P:DW)(t:DX)(x:DZ)(w:DU)(s:Sem Next)(K:Ea):Prop:=
 match P.underlying t,x with
 | some .string,.string s=>NewV w (.stringIter s 0) λb w'=>K (.pointer (some ⟨b,0,none⟩)) w'
 | _,_=>Fall P s w K
structure NextS(w:DU)(r:Nat)(K:Ea):Prop where
 h:∃s pos,w.heap[r]?=some (.stringIter s pos)/\
  (pos<s.size->∀w',w'=setO w r (.stringIter s (pos+(Utf8.decode s pos).2))->K (.tuple #[.bool true,.int .i64 pos,.int .i32 (Utf8.decode s pos).1]) w')/\
  (¬pos<s.size->K (.tuple #[.bool false]) w)
def qaf4(P:DW)(x:DZ)(H:Bool)(w:DU)(s:Sem Next)(K:Ea):Prop:=
 match H,x with
 | true,.pointer (some ⟨r,0,none⟩)=>NextS w r K
 | _,_=>Fall P s w K
def opV(P:DW)(o:Oper)(ρ:Eb)(w:DU)(K:Ea):Prop:=
 match o.op with
 | .move x | .assign x=>qjg (ev ρ x) λv=>K v w
 | .pick c a b=>qagu (ev ρ c) (ev ρ a) (ev ρ b) λv=>K v w
 | .binOp V t x y _=>binV P V t x y (ev ρ x) (ev ρ y) w (λv=>K v w) K
 | .unOp V _ x=>unV V (ev ρ x) λv=>K v w
 | .convert W Z x=>qaev P W Z (ev ρ x) w (execOp (ev ρ) o) K
 | .index t x i=>idxV P t (ev ρ x) (ev ρ i) λv=>K v w
 | .indexAddr t x i=>qp4 P t (ev ρ x) (ev ρ i) λv=>K v w
 | .load t x=>q0c P t (ev ρ x) w λv=>K v w
 | .store t x v=>qzd P t (ev ρ x) (ev ρ v) w (execOp (ev ρ) o) K
 | .extract x ix=>qpu (ev ρ x) ix λv=>K v w
 | .fieldAddr t x f=>qjc P t (ev ρ x) f λv=>K v w
 | .field t x f=>q3b P t (ev ρ x) f λv=>K v w
 | .box t x=>boxV t (ev ρ x) w K
 | .alloc t=>qw3 P t w K
 | .slice t x lo hi mx=>q6m P t (ev ρ x) (evo ρ lo) (evo ρ hi) (evo ρ mx) w (execOp (ev ρ) o) K
 | .nilCheck x=>nilV P (ev ρ x) w (execOp (ev ρ) o) K
 | .call c=>q2d P c o.type ρ w (execOp (ev ρ) o) K
 | .build t H=>qn5 P t (evp ρ H.toList) λv=>K v w
 | .buildSlice t aa H=>qhc P t aa (evp ρ H.toList) w K
 | .makeSlice t l c=>qjn P t (ev ρ l) (ev ρ c) w K
 | .makeFunc fn first U=>qcn (evs ρ first.toList) λa=>qcn (evs ρ U.toList) λb=>K (.func fn a.toArray b.toArray) w
 | .makeInterface t x=>qjm P t (ev ρ x) λv=>K v w
 | .range t x=>q5y P t (ev ρ x) w (execOp (ev ρ) o) K
 | .next it b=>qaf4 P (ev ρ it) b w (execOp (ev ρ) o) K
 | _=>Fall P (execOp (ev ρ) o) w K
section
variable {P:DW} {w:DU}
theorem Fall.ok{s:Sem Next}(h:Fall P s w K):OpOk2 P s w K:=by
 rcases h.h with h|h
 ·exact .inl h
 ·exact .inr h
theorem qaj3{v:DZ}(h:K v w):OpOk2 P (pure (.value v)) w K:=.inl ⟨v,w,rfl,h⟩
theorem valV{s:Sem DZ}{v:DZ}(H:s.run P w=.ok v w)(h:K v w):OpOk2 P (do pure (.value (<-s))) w K:=
 OpOk2.val (by grind)
theorem q9r{t:DX}(h:hasT P t=true):∃i,P.info? t=some i/\tsz P t=i.size:=by
 unfold hasT at h;unfold tsz;cases e:P.info? t<;>grind
theorem qab{t:DX}(h:hasT P t=true):(sizeOf t).run P w=.ok (tsz P t) w:=by
 obtain⟨i,H,U⟩:=q9r h;simp[sizeOf,typeInfo,H,U]
theorem qek{t:DX}{d:TypeDesc}(h:P.underlying t=some d):(isAgg t).run P w=.ok (aggD d) w:=by
 cases d<;>simp[isAgg,run_underlying h,aggD]
theorem qkd{t:DX}{d:TypeDesc}(h:P.underlying t=some d)(H:aggD d=true)(hi:hasT P t=true)(cs:Eh)(off:Nat):
  (part t cs off).run P w=.ok (.agg ((cs.toList.drop off).take (tsz P t)).toArray) w:=by
 simp[part,qek h,H,qab hi]
 grind
theorem qin{t:DX}{d:TypeDesc}(h:P.underlying t=some d)(H:aggD d=false)(cs:Eh)(off:Nat){v:DZ}(U:cs.toList[off]?=some v):
  (part t cs off).run P w=.ok v w:=by
 simp_all[part,qek]
theorem qaaq{c a b:Operand}(h:qagu (ev ρ c) (ev ρ a) (ev ρ b) (λv=>K v w)):
  OpOk2 P (do pure (.value (if <-asBool (ev ρ c)then ev ρ a else ev ρ b))) w K:=by
 unfold qagu at h
 split at h
 ·rename_i t e
  rw[e];cases t
  ·have:=h.f rfl;rw[qbt]at this;exact .inl ⟨_,w,by rfl,this⟩
  ·have:=h.t rfl;rw[qbt]at this;exact .inl ⟨_,w,by rfl,this⟩
 ·exact h.elim
theorem qai1(s:DV)(j:Nat)(h:j<s.size):s[j]?=some (gb s j):=by
 unfold gb;have H:j<s.data.toList.length:=by simpa using h
 rw[Ah,Dg H,Cd];exact getElem?_pos s j h
theorem qafg{t:DX}{i:DZ}(h:idxV P t x i (λv=>K v w)):
  OpOk2 P (do pure (.value (<-Instr.index t x i))) w K:=by
 unfold idxV at h
 split at h
 ·rename_i V
  obtain⟨j,rfl,U,H⟩:=h;refine valV ?_ H;simp[Instr.index,asIntOf,run_underlying V,qai1 _ _ U]
 ·rename_i V
  split at h
  ·rename_i d hd
   cases W:hasT P _<;>rw[W]at h
   ·exact h.elim
   ·cases Z:aggD d<;>rw[Z]at h
    ·obtain⟨j,rfl,U,v,hv,H⟩:=h;refine valV ?_ H
     simp_all[Instr.index,asIntOf,run_underlying,qab,qin]
    ·obtain⟨j,rfl,U,l,hl,H⟩:=h;subst hl;refine valV ?_ H
     simp_all[Instr.index,asIntOf,run_underlying,qab,qkd]
  ·exact h.elim
 ·exact h.elim
theorem qas(b off n:Nat):(⟨b,off,none⟩:Addr).add n=⟨b,off+n,none⟩:=by
 grind [Addr.add]
theorem quy{t:DX}{i:DZ}(h:qp4 P t x i (λv=>K v w)):
  OpOk2 P (do pure (.value (<-Instr.indexAt t x i))) w K:=by
 unfold qp4 at h
 split at h
 ·rename_i U
  cases H:hasT P _<;>rw[H]at h
  ·exact h.elim
  ·obtain⟨b,off,j,rfl,rfl,V,W⟩:=h;refine valV ?_ W;simp[Instr.indexAt,asIntOf,run_underlying U,V,qab H,qas]
 ·rename_i U
  cases H:hasT P _<;>rw[H]at h
  ·exact h.elim
  ·obtain⟨j,rfl,V,W⟩:=h;refine valV ?_ W;simp[Instr.indexAt,asIntOf,run_underlying U,V,qab H,qas,Instr.sureAddr]
 ·exact h.elim
theorem q94{t:DX}(h:q0c P t x w (λv=>K v w)):
  OpOk2 P (do pure (.value (<-Instr.loadAt t x))) w K:=by
 unfold q0c at h
 split at h
 ·rename_i d b off hu
  cases V:aggD d<;>rw[V]at h
  ·obtain⟨v,U,H⟩:=h;rw[qbt]at H;refine valV ?_ H
   simp_all[Instr.loadAt,Instr.sureAddr,loadVar,qek]
  ·cases W:hasT P t<;>rw[W]at h
   ·exact h.elim
   ·obtain⟨cs,hl,Z,H⟩:=h;rw[qao]at H;refine valV ?_ H;have:=run_loadCells_list (P:=P) w ⟨b,off,none⟩ cs (λj v U=>by
     have hj:j<cs.length:=by
      rcases Bj j cs.length with h|h
      ·exact h
      ·rw[Bh h]at U;cases U
     rw[qas,Z j Oo];exact U)
    simp_all[Instr.loadAt,Instr.sureAddr,loadVar,qek,qab]
 ·exact h.elim
theorem q6v{t:DX}{v:DZ}{s:Sem Next}(Z:s=(do Instr.storeAt t x v;pure .skip))(h:qzd P t x v w s K):
  OpOk2 P s w K:=by
 unfold qzd at h
 split at h
 ·rename_i b off
  split at h
  ·exact h.ok
  ·rename_i cs
   cases U:hasT P t<;>rw[U]at h
   ·exact h.elim
   ·cases H:Nat.beq (tsz P t) cs.toList.length<;>rw[H]at h
    ·exact h.elim
    ·obtain⟨w',h1,V⟩:=h;subst Z;have W:tsz P t=cs.size:=by simp_all
     refine OpOk2.unit ⟨_,?_,V⟩;have hc:(Value.agg cs).cells=cs:=rfl
     simp_all[Instr.storeAt,Instr.sureAddr,storeVar,qab]
  ·rename_i aa ad
   cases U:hasT P t<;>rw[U]at h
   ·exact h.elim
   ·cases H:Nat.beq (tsz P t) 1<;>rw[H]at h
    ·exact h.elim
    ·obtain⟨⟨o,ho⟩,hf,h1,V⟩:=h;subst Z;have W:tsz P t=1:=Bl H;refine OpOk2.unit ⟨_,?_,V⟩
     simp_all[Instr.storeAt,Instr.sureAddr,storeVar,Value.cells,qab,storeCells,store,Sem.run,Addr.add]
 ·exact h.elim
theorem quq{H:Nat}(h:qpu x H (λv=>K v w)):
  OpOk2 P (do pure (.value (<-Instr.extract x H))) w K:=by
 unfold qpu at h
 split at h
 ·rename_i vs
  split at h
  ·rename_i v V
   rw[qbt]at h;rw[qa2]at V;have U:vs[H]?=some v:=by simpa using V
   refine valV ?_ h;simp[Instr.extract,U]
  ·exact h.elim
 ·exact h.elim
theorem qpv{t:DX}{f:Nat}(h:qjc P t x f (λv=>K v w)):
  OpOk2 P (do pure (.value (<-Instr.fieldAt t x f))) w K:=by
 unfold qjc at h
 split at h
 ·rename_i W b off hu
  split at h
  ·rename_i U H
   rw[qa2]at H;have V:W[f]?=some U:=by simpa using H
   cases Z:hasT P U.type<;>rw[Z]at h
   ·exact h.elim
   ·cases hz:Nat.beq (tsz P U.type) 0<;>rw[hz]at h
    ·refine valV ?_ h;have aa:¬tsz P U.type=0:=λe=>by simp_all
     simp_all[Instr.fieldAt,run_underlying,Instr.sureAddr,fieldPlace,qab,qas]
    ·exact h.elim
  ·exact h.elim
 ·exact h.elim
theorem q3c{t:DX}{f:Nat}(h:q3b P t x f (λv=>K v w)):
  OpOk2 P (do pure (.value (<-Instr.field t x f))) w K:=by
 unfold q3b at h
 split at h
 ·rename_i W cs hu
  split at h
  ·rename_i U H
   rw[qa2]at H;have V:W[f]?=some U:=by simpa using H
   split at h
   ·rename_i d hd
    cases Z:aggD d<;>rw[Z]at h
    ·simp only[cond_false]at h
     split at h
     ·rename_i v hv
      rw[qbt]at h;rw[qa2]at hv;refine valV ?_ h
      simp_all[Instr.field,run_underlying,asAgg,qin]
     ·exact h.elim
    ·cases hT:hasT P U.type<;>rw[hT]at h
     ·exact h.elim
     ·simp only[cond_true,qao]at h;refine valV ?_ h
      simp_all[Instr.field,run_underlying,asAgg,qkd]
   ·exact h.elim
  ·exact h.elim
 ·exact h.elim
theorem qxd{t:DX}{v:DZ}(h:boxV t v w K):
  ∃a,(newVar t v).run P w=.ok a (w.alloc (.cells v.cells t))/\K (.pointer (some a)) (w.alloc (.cells v.cells t)):=by
 unfold boxV at h;rw[qao]at h;refine⟨⟨w.heap.size,0,none⟩,by rfl,?_⟩;have:=h.h w.heap.size (w.alloc (.cells v.cells t)) rfl Js;exact this
theorem qaef{t:DX}{v:DZ}(h:boxV t v w K):OpOk2 P (do pure (.value (<-Instr.box t v))) w K:=by
 obtain⟨a,H,U⟩:=qxd (P:=P) h;exact OpOk2.val ⟨_,_,by simp[Instr.box,H],U⟩
theorem q1y{t:DX}(h:qw3 P t w K):OpOk2 P (do pure (.value (<-Instr.alloc t true (.tuple #[])))) w K:=by
 unfold qw3 at h
 split at h
 ·rename_i i hi
  split at h
  ·rename_i z U
   obtain⟨a,V,H⟩:=qxd (P:=P) h;exact OpOk2.val ⟨_,_,by simp_all[Instr.alloc,zeroValue,typeInfo],H⟩
  ·exact h.elim
 ·exact h.elim
theorem q6k(w:DU)(cs:Eh)(e:DX)(n:Nat)(H:n=w.heap.size):(w.alloc (.cells cs e)).shape? n=some (e,cs.size):=by
 grind [World.shape?,heap_alloc_new]
theorem qz6(w:DU)(cs:Eh)(e:DX)(n:Nat)(H:n=w.heap.size):(w.alloc (.cells cs e)).freeze ⟨n,cs.size,none⟩ 1=w.alloc (.cells cs e (cs.size,cs.size+1)):=by
 subst H;unfold World.freeze World.alloc;rw[Aa Od];simp only
 congr 1
 grind
theorem q8v{H U:DX}{s:Sem Next}(hs:s=(do pure (.value (<-convert H U x))))(h:qaev P H U x w s K):
  OpOk2 P s w K:=by
 unfold qaev at h
 split at h
 ·rename_i d k n W Z
  obtain⟨r,rfl,hk⟩:=h;subst hs;refine valV ?_ hk
  simp_all[convert,run_underlying,Conv.intToInt]
 ·rename_i sx W Z
  subst hs;refine valV ?_ h
  simp_all[convert,run_underlying]
 ·rename_i W Z
  subst hs;refine valV ?_ h
  simp_all[convert,run_underlying,Conv.intToString]
 ·rename_i e A n c W Z
  split at h
  ·rename_i he
   subst hs;obtain⟨l,hl,hA,hk⟩:=h;refine valV ?_ hk;cases A with
   | none=>
    have af:l=[]:=by
     simp_all
    subst af;exact run_convert_bytes_nil w H e W he _ _ U Z
   | some a=>
    rw[run_convert_bytes_string w H U e _ _ _ W he Z];have hc:(loadCells a n).run P w=.ok ((l.map λc=>(c.toNat:Int)).map (Value.int .u8)).toArray w:=by
     have:=run_loadCells_list (P:=P) w a (byteCells l) (λj v hv=>by
      obtain⟨b,off,h0,h3⟩:=hA (by grind [byteCells]);cases h0;rw[qas];exact h3 j v hv)
     simp_all[byteCells]
    rw[run_bytesToString w a n c _ hc,foldl_push_bytes]
    congr 3
    simp[ByteArray.empty,ByteArray.emptyWithCapacity];show([]:List DY)++_=l;rw[Bn];have:∀l:List DY,l.map ((λn:Int=>UInt8.ofNat n.toNat) ∘ λc:DY=>(c.toNat:Int))=l:=by
     intro l;induction l with
     | nil=>rfl
     | cons x r ih=>simp[ih]
    exact this l
  ·exact h.ok
 ·rename_i e x W Z
  split at h
  ·rename_i he
   subst hs;have aa:∀t,x.size<=Question.cut (.appendCap x.size 0 e) t:=λt=>by simp[Question.cut]
   have hk:=h.h (Question.cut (.appendCap x.size 0 e) (w.tape w.drawn (.appendCap x.size 0 e))) _ w.heap.size _ (aa _) rfl rfl rfl;refine OpOk2.val ⟨_,_,?_,hk⟩;generalize ad:Question.cut (.appendCap x.size 0 e) (w.tape w.drawn (.appendCap x.size 0 e))=ae;have V:(x.data.map (λb=>Value.int .u8 b.toNat)++Array.replicate (ae-x.size) (Value.int .u8 0))=(byteCells x.data.toList++List.replicate (ae-x.size) (Value.int .u8 0)).toArray:=by
    grind [byteCells]
   simp only[convert];simp[run_underlying W,run_underlying Z,run_underlying he,Conv.stringToBytes,choose,Sem.run,Question.forced,ad,V,newRow,newObj,markStringish,shape,freeze];rw[q6k w.drew _ _ w.heap.size rfl];simp only[Sem.run,Result.andThen];rw[qz6 w.drew _ _ w.heap.size rfl];simp
  ·exact h.ok
 ·exact h.ok
theorem qakm{U:UnOp}(h:unV U x (λv=>K v w)):OpOk2 P (do pure (.value (<-Op.unary U x))) w K:=by
 unfold unV at h
 split at h
 ·exact valV (by rfl) h
 ·obtain⟨V,H⟩:=h;refine valV ?_ H;simp[Op.unary,Op.intArith,V.wrap]
 ·obtain⟨r,rfl,H⟩:=h;refine valV ?_ H;rfl
 ·exact h.elim
theorem qcw{o:DZ}{n y:Nat}{c:BoundsCode}(h:bnd (some o) d n)(H:n<=y):(Instr.sliceBound o y c).run P w=.ok n w:=by
 unfold bnd at h
 split at h
 all_goals simp_all[Instr.sliceBound,asIntOf]
theorem q6n{t:DX}{lo hi:Option DZ}{s:Sem Next}(hs:s=(do pure (.value (<-Instr.sliceAt t x lo hi mx))))(h:q6m P t x lo hi mx w s K):OpOk2 P s w K:=by
 unfold q6m at h
 split at h
 ·rename_i sx H
  subst hs
  split at h
  ·obtain⟨l,hh,U,V,Z,h4,hk⟩:=h;refine valV ?_ hk;cases lo with
   | none=>
    cases hi with
    | none=>
     cases U;cases V;simp[Instr.sliceAt,Instr.slice,Instr.sliceBounds,run_underlying H]
    | some b=>
     cases U;simp[Instr.sliceAt,Instr.slice,Instr.sliceBounds,run_underlying H,qcw V h4]
   | some a=>
    cases hi with
    | none=>
     cases V;simp[Instr.sliceAt,Instr.slice,Instr.sliceBounds,run_underlying H,qcw U Z]
    | some b=>simp[Instr.sliceAt,Instr.slice,Instr.sliceBounds,run_underlying H,qcw U Z,qcw V h4]
  ·exact h.elim
 ·rename_i e A aa ad H
  subst hs;cases W:hasT P e<;>rw[W]at h
  ·exact h.elim
  ·obtain⟨l,hh,m,U,V,Z,h4,h5,h6,h7,hk⟩:=h;have hk:=hk _ rfl;refine valV ?_ hk;cases mx with
   | none=>
    cases Z;cases lo with
    | none=>
     cases hi with
     | none=>
      cases U;cases V;simp[Instr.sliceAt,Instr.slice,Instr.sliceBounds,run_underlying H,qab W]
     | some b=>
      cases U;simp[Instr.sliceAt,Instr.slice,Instr.sliceBounds,run_underlying H,qab W,qcw V h5]
    | some a=>
     cases hi with
     | none=>
      cases V;simp[Instr.sliceAt,Instr.slice,Instr.sliceBounds,run_underlying H,qab W,qcw U h4]
     | some b=>simp[Instr.sliceAt,Instr.slice,Instr.sliceBounds,run_underlying H,qab W,qcw U h4,qcw V h5]
   | some c=>
    cases hi with
    | none=>simp_all
    | some b=>
     cases lo with
     | none=>
      cases U;simp[Instr.sliceAt,Instr.slice,Instr.sliceBounds,run_underlying H,qab W,qcw V h5,qcw Z h6]
     | some a=>simp[Instr.sliceAt,Instr.slice,Instr.sliceBounds,run_underlying H,qab W,qcw U h4,qcw V h5,qcw Z h6]
 ·exact h.ok
theorem qaf7{x:Operand}(H:o.op=.nilCheck x)(h:nilV P (ev ρ x) w (execOp (ev ρ) o) K):
  OpOk2 P (execOp (ev ρ) o) w K:=by
 unfold nilV at h
 split at h
 ·rename_i a e
  refine .inl ⟨_,w,?_,h⟩;simp[execOp,H,e]
 ·exact h.ok
theorem qc7(h:qdp P f=true)(args:Eh):(callFunc f args).run P w=.ok (.enter f args) w:=by
 unfold qdp at h;cases e:P.funcs[f]? with
 | none=>simp_all
 | some U=>
  rw[e]at h;simp only[AQ,Dm]at h;have V:¬U.name = "runtime.NumGoroutine":=by simpa using h.1
  have W:¬U.body=none:=by
   grind
  simp_all[callFunc]
theorem CallV.ok(h:CallV P f vs w K):OpOk P (callFunc f vs.toArray) w K:=by
 rcases h.h with⟨H,U⟩|⟨v,w',H,U⟩
 ·exact .inr ⟨f,vs.toArray,qc7 H _,U⟩
 ·exact .inl (.inl ⟨v,w',H,U⟩)
theorem q4t{c:Call}(ho:o.op=.call c)(hc:c.callee=.builtin .len)(h:lenV P (getL c.argTypes.toList 0) (evs ρ c.args.toList) w (execOp (ev ρ) o) K):OpOk2 P (execOp (ev ρ) o) w K:=by
 unfold lenV at h
 split at h
 ·rename_i t v vs W hv
  rw[qa2]at W;have H:c.argTypes[0]?=some t:=by simpa using W
  rw[qef]at hv;have U:(c.args.map (ev ρ))[0]?=some v:=by
   grind [List.getElem?_cons_zero]
  have Z:execOp (ev ρ) o=(do pure (.value (<-Builtin.len_ c.argTypes o.type (c.args.map (ev ρ))))):=by
   simp only[execOp,ho,resolve,hc];rfl
  split at h
  ·rename_i s V
   rw[Z];exact valV (by simp only[Builtin.len_,H,U];simp[run_underlying V,goInt]) h
  ·rename_i V
   rw[Z];exact valV (by simp only[Builtin.len_,H,U];simp[run_underlying V,goInt]) h
  ·exact h.ok
 ·exact h.ok
theorem qad8{c:Call}(H:o.op=.call c)(U:c.callee=.builtin .append)(h:appV P c.argTypes o.type (evs ρ c.args.toList) w (execOp (ev ρ) o) K):OpOk2 P (execOp (ev ρ) o) w K:=by
 unfold appV at h
 split at h
 ·rename_i a b Z
  rw[qbt,qbt]at h;obtain⟨v,w',h1,V⟩:=h;rw[qbt]at V;have he:execOp (ev ρ) o=(do pure (.value (<-Builtin.append_ c.argTypes o.type (c.args.map (ev ρ))))):=by
   simp only[execOp,H,resolve,U];rfl
  have W:c.args.map (ev ρ)=#[a,b]:=by
   grind [qef]
  grind [OpOk2.val]
 ·exact h.ok
theorem OpOk.congr{s s':Sem Next}(H:s.run P w=s'.run P w)(h:OpOk P s' w K):OpOk P s w K:=by
 grind [OpOk,OpOk2]
theorem qxg{c:Call}(W:o.op=.call c)(h:q2d P c o.type ρ w (execOp (ev ρ) o) K):
  OpOk P (execOp (ev ρ) o) w K:=by
 unfold q2d at h
 split at h
 ·rename_i f V
  split at h
  ·rename_i g first H hf
   rw[qao,qef]at h;have he:execOp (ev ρ) o=callFunc g (first++c.args.map (ev ρ)++H):=by
    simp only[execOp,W,resolve,V,hf];rfl
   rw[he];have Z:CallV P g (first.toList++(c.args.toList.map (ev ρ)++H.toList)) w K:=by
    split at h
    ·rename_i h1 h2;rw[h1,h2];simpa using h
    ·exact h
   have e2:(first.toList++(c.args.toList.map (ev ρ)++H.toList)).toArray=first++c.args.map (ev ρ)++H:=by
    simp
   rw[<-e2];exact Z.ok
  ·exact .inl h.ok
 ·rename_i V;exact .inl (q4t W V h)
 ·rename_i V;exact .inl (qad8 W V h)
 ·rename_i U name V
  split at h
  ·rename_i t v hr
   rw[qao,qef]at h;obtain⟨f,r,hm,hk⟩:=h.h;have e1:execOp (ev ρ) o=invoke (.fn (.method name) #[]) (#[ev ρ U]++c.args.map (ev ρ)):=by
    grind [execOp,resolve]
   have e2:invoke (.fn (.method name) #[]) (#[ev ρ U]++c.args.map (ev ρ))=callMethod (ev ρ U) name (c.args.map (ev ρ)):=by
    have h0:(#[ev ρ U]++c.args.map (ev ρ))[0]?=some (ev ρ U):=by grind
    have h1:(#[ev ρ U]++c.args.map (ev ρ)).extract 1 (#[ev ρ U]++c.args.map (ev ρ)).size=c.args.map (ev ρ):=by
     simp
    grind [invoke]
   have e3:(callMethod (.iface t v) name (c.args.map (ev ρ))).run P w=(callFunc f (#[r]++c.args.map (ev ρ))).run P w:=by
    simp_all[callMethod]
   have e4:(r::c.args.toList.map (ev ρ)).toArray=#[r]++c.args.map (ev ρ):=by
    simp
   refine OpOk.congr (s':=callFunc f (r::c.args.toList.map (ev ρ)).toArray) ?_ hk.ok
   grind
  ·exact .inl h.ok
 ·exact .inl h.ok
theorem qaiw(v:DZ):csz v=v.cells.size:=by cases v<;>rfl
theorem q6j(vs:Ee):∀(H:Eh) (off k:Nat),
  (vs.zipIdx k).foldl (λcs (x:DZ×Nat)=>cs.setIfInBounds (off+x.2) x.1) H=(qts H.toList (off+k) vs).toArray:=by
 induction vs with
 | nil=>simp[qts]
 | cons v vs U=>
  simp_all[qts,qahl,C7]
theorem qus(V:Nat->Option (Nat×Nat))(U:List (Nat×DZ)):∀(H:Ee) (l:Ee),qr9 V H U=some l->
  Instr.fill V H.toArray U=some l.toArray:=by
 induction U with
 | nil=>intro H l h;cases h;rfl
 | cons x U ih=>
  obtain⟨i,v⟩:=x;intro H l h;simp only[qr9]at h;unfold Instr.fill;cases e:V i with
  | none=>simp_all
  | some Z=>
   obtain⟨off,size⟩:=Z;rw[e]at h;simp only at h|-;cases W:(Nat.beq (csz v) size&&Nat.ble (off+csz v) H.length)<;>rw[W]at h
   ·cases h
   ·simp only[cond_true]at h;simp only[AQ,Nat.ble_eq]at W;rw[qaiw]at W;replace W:=And.intro (Bl W.1) W.2;have hc:¬(v.cells.size≠size||off+v.cells.size > H.toArray.size)=true:=by
     grind
    rw[Aa hc];have:=q6j v.cells.toList H.toArray off 0
    grind [Array.toList_zipIdx]
theorem q05{H:Array Field}(h:allT P H.toList=true):
  (H.mapM λf=>Prod.mk f.offset <$> sizeOf f.type:Sem (Array (Nat×Nat))).run P w=.ok (qg2 P H.toList).toArray w:=by
 obtain⟨l⟩:=H;rw[De];have:∀l:List Field,allT P l=true->(l.mapM λf=>(Prod.mk f.offset <$> sizeOf f.type:Sem (Nat×Nat))).run P w=.ok (qg2 P l) w:=by
  intro l
  induction l with
  | nil=>simp[qg2]
  | cons f l U=>
   simp_all[allT,qab,qg2]
 simp[this l h]
theorem q19{t:DX}{H:Array (Nat×DZ)}(h:qn5 P t H.toList (λv=>K v w)):
  OpOk2 P (do pure (.value (<-Instr.build t H))) w K:=by
 unfold qn5 at h
 split at h
 ·rename_i i hi
  split at h
  ·rename_i z W
   have Z:(zeroValue t).run P w=.ok z w:=by simp[zeroValue,typeInfo,hi,W]
   split at h
   ·rename_i fs hu
    cases U:allT P fs.toList<;>rw[U]at h
    ·exact h.elim
    ·simp only[cond_true]at h
     split at h
     ·rename_i l V
      rw[qao]at h;refine valV ?_ h;have hf:=qus _ _ _ _ V
      simp_all[q05,qa2,Instr.build,run_underlying]
     ·exact h.elim
   ·rename_i n e hu
    cases U:hasT P e<;>rw[U]at h
    ·exact h.elim
    ·simp only[cond_true]at h
     split at h
     ·rename_i l V
      rw[qao]at h;refine valV ?_ h;have hf:=qus _ _ _ _ V
      simp_all[Instr.build,run_underlying,qab]
     ·exact h.elim
   ·exact h.elim
  ·exact h.elim
 ·exact h.elim
theorem qi2(z:Ee)(n:Nat):(qck z n).length=n*z.length:=by
 induction n<;>grind [qck]
theorem q1t(z:Ee)(n:Nat):∀i,i<n*z.length->(qck z n)[i]?=z[i%z.length]?:=by
 induction n<;>grind [qck,Nat.mod_eq_of_lt,List.getElem?_append_right,Nat.mod_eq_sub_mod]
theorem qzr(z:Eh)(_:0<z.size)(n:Nat):(Array.range (n*z.size)).map (z[· % z.size]!)=(qck z.toList n).toArray:=by
 rw[<-BA];apply Bk
 grind [qi2,q1t]
theorem qnn{t:DX}{H:Nat}{U:Array (Nat×DZ)}(h:qhc P t H U.toList w K):
  OpOk2 P (do pure (.value (<-Instr.buildSlice t H U))) w K:=by
 unfold qhc at h
 split at h
 ·rename_i e hu
  split at h
  ·rename_i i hi
   split at h
   ·rename_i z hz
    have aa:(zeroValue e).run P w=.ok z w:=by simp[zeroValue,typeInfo,hi,hz]
    have V:(sizeOf e).run P w=.ok i.size w:=by simp[sizeOf,typeInfo,hi]
    cases hb:(Nat.beq z.cells.toList.length i.size&&Nat.ble (H*i.size) 16777216 && !Nat.beq i.size 0)<;>rw[hb]at h
    ·exact h.elim
    ·simp only[cond_true]at h;simp only[AQ,Nat.ble_eq,Dm]at hb;obtain⟨⟨b1,b2⟩,b3⟩:=hb;have b1:=Bl b1;have b3:0<i.size:=(by grind)
     have W:z.cells.size=i.size:=by omega
     split at h
     ·rename_i l hl
      rw[qao]at h;have h:=h.h w.heap.size _ rfl rfl;have hf:=qus _ _ _ _ hl;have Z:=qzr z.cells Oo H;rw[W]at Z;refine OpOk2.val ⟨_,_,?_,h⟩;have hn:¬H*i.size > 2 ^ 24:=by omega
      by_cases h0:H*i.size=0
      ·have ad:H=0:=by
        grind [Nat.mul_eq_zero]
       subst ad;have ae:Instr.fill (λaf=>some (af*i.size,i.size)) #[] U.toList=some l.toArray:=by grind
       simp[Instr.buildSlice,run_underlying hu,V,ae,newRow,newObj,Sem.run,show Array.range 0=#[]from rfl]
      ·rw[<-Z]at hf;have ag:¬16777216<H*i.size:=by omega
       simp only[Instr.buildSlice];simp[run_underlying hu,V,ag,h0,aa,W,hf,newRow,newObj,Sem.run]
     ·exact h.elim
   ·exact h.elim
  ·exact h.elim
 ·exact h.elim
theorem qqj{t:DX}{H U:DZ}(h:qjn P t H U w K):
  OpOk2 P (do pure (.value (<-Instr.makeSlice t H U))) w K:=by
 unfold qjn at h
 split at h
 ·rename_i e k1 H k2 U hu
  split at h
  ·rename_i i hi
   split at h
   ·rename_i z hz
    have af:(zeroValue e).run P w=.ok z w:=by simp[zeroValue,typeInfo,hi,hz]
    have V:(sizeOf e).run P w=.ok i.size w:=by simp[sizeOf,typeInfo,hi]
    have W:(typeInfo e).run P w=.ok i w:=by simp[typeInfo,hi]
    cases Z:(Nat.beq z.cells.toList.length i.size && !Nat.beq i.size 0)<;>rw[Z]at h
    ·exact h.elim
    ·simp only[cond_true]at h;simp only[AQ,Dm]at Z;obtain⟨b1,b3⟩:=Z;have b1:=Bl b1;have b3:0<i.size:=(by grind)
     have aa:z.cells.size=i.size:=by omega
     obtain⟨l,c,rfl,rfl,ag,ah,hc,hk⟩:=h;have hk:=hk _ _ rfl rfl;have ad:=qzr z.cells Oo c;rw[aa]at ad;have wl:IntKind.i64.wrap (l:Int)=l:=InR.wrap (k:=.i64) ⟨by omega,by omega⟩;have wc:IntKind.i64.wrap (c:Int)=c:=InR.wrap (k:=.i64) ⟨by omega,by omega⟩;have ae:¬(281474976710656:Int)<(i.bytes:Int)*(c:Int):=by
      grind
     refine OpOk2.val ⟨_,_,?_,hk⟩;simp only[Instr.makeSlice,asInt,asIntOf];have n1:¬((c:Int)<0):=by omega
     have n2:¬((l:Int)<0):=by omega
     have n3:¬c<l:=by omega
     simp[run_underlying hu,W,wl,wc,ae,n1,n2,n3,askRoom,roomBytes,V,newRow,newObj,Sem.run]
     split
     ·grind
     simp_all
   ·exact h.elim
  ·exact h.elim
 ·exact h.elim
theorem qqi{t:DX}(h:qjm P t x (λv=>K v w)):OpOk2 P (do pure (.value (<-Instr.makeInterface t x))) w K:=by
 unfold qjm at h
 split at h
 ·exact h.elim
 ·rename_i d H U
  refine valV ?_ h
  simp_all[Instr.makeInterface,run_underlying]
 ·exact h.elim
theorem qacv(ρ:Eb)(l:List (Nat×Operand)):evp ρ l=l.map λx=>(x.1,ev ρ x.2):=by
 induction l<;>grind [evp]
theorem q5z{t:DX}{s:Sem Next}(H:s=(do pure (.value (<-Instr.range t x))))(h:q5y P t x w s K):OpOk2 P s w K:=by
 unfold q5y at h
 split at h
 ·rename_i U V
  subst H;refine OpOk2.val ⟨_,_,?_,h.h w.heap.size _ rfl rfl⟩
  simp_all[Instr.range,run_underlying]
 ·exact h.ok
theorem qaad{b:Bool}{s:Sem Next}(V:s=(do pure (.value (<-Instr.next x b ty))))(h:qaf4 P x b w s K):OpOk2 P s w K:=by
 unfold qaf4 at h
 split at h
 ·rename_i r
  subst V;obtain⟨s,pos,U,W,Z⟩:=h
  by_cases H:pos<s.size
  ·refine OpOk2.val ⟨_,_,?_,W H _ rfl⟩;simp[Instr.next,getObj,setObj,Sem.run,U,H,goInt,setO]
  ·refine OpOk2.val ⟨_,_,?_,Z H⟩;simp[Instr.next,getObj,Sem.run,U,H]
 ·exact h.ok
theorem q5j(Z:∀c,o.op≠.call c)(h:opV P o ρ w K):OpOk2 P (execOp (ev ρ) o) w K:=by
 unfold opV at h
 split at h
 ·grind [qbt,execOp,qaj3]
 ·grind [qbt,execOp,qaj3]
 ·grind [execOp,qaaq]
 ·grind [execOp,OpOk2.val,qzt]
 ·grind [execOp,qakm]
 ·grind [q8v,execOp]
 ·grind [execOp,qafg]
 ·grind [execOp,quy]
 ·grind [execOp,q94]
 ·grind [q6v,execOp]
 ·grind [execOp,quq]
 ·grind [execOp,qpv]
 ·grind [execOp,q3c]
 ·grind [execOp,qaef]
 ·grind [execOp,q1y]
 ·rename_i t x lo hi mx H
  refine q6n ?_ h;simp only[execOp,H];cases lo<;>cases hi<;>cases mx<;>rfl
 ·grind [qaf7]
 ·simp_all
 ·rename_i t U H
  rw[qacv]at h;simp only[execOp,H];refine q19 ?_
  simpa using h
 ·rename_i t W U H
  rw[qacv]at h;simp only[execOp,H];refine qnn ?_
  simpa using h
 ·grind [execOp,qqj]
 ·rename_i fn first V H
  rw[qao,qao,qef,qef]at h;simp only[execOp,H];refine valV ?_ h;have e1:∀a:Array Operand,(a.toList.map (ev ρ)).toArray=a.map (ev ρ):=(by grind)
  simp_all[Instr.makeFunc]
 ·grind [execOp,qqi]
 ·grind [q5z,execOp]
 ·grind [qaad,execOp]
 ·exact h.ok
theorem q5i(h:opV P o ρ w K):OpOk P (execOp (ev ρ) o) w K:=by
 by_cases H:∃c,o.op=.call c
 ·grind [opV,qxg]
 ·exact .inl (q5j (λc e=>H ⟨c,e⟩) h)
end
def putV(n:Nat)(H:Option Tmp)(ρ:Eb)(v:DZ)(K:Eb->Prop):Prop:=
 match H with
 | none=>K ρ
 | some d=>bif Nat.blt d n then K (upd ρ d v)else False
def runO(P:DW)(n:Nat)(o:Oper)(K:Eb->Ec)(ρ:Eb)(w:DU):Prop:=
 opV P o ρ w λv w'=>putV n o.dst ρ v λH=>K H w'
def q1c(n:Nat)(o:Oper)(K:Eb->Ec)(ρ:Eb)(w:DU):Prop:=
 putV n o.dst ρ undef λH=>K H w
def regV(P:DW)(n:Nat)(ops:List Oper)(Q:Eb->Ec):List Oper->Eb->DU->Prop
 | [],ρ,w=>Q ρ w
 | o::H,ρ,w=>
  match o.guard with
  | none=>runO P n o (regV P n ops Q H) ρ w
  | some (j,U)=>
   match getL ops j with
   | none=>q1c n o (regV P n ops Q H) ρ w
   | some oj=>match oj.dst with
    | none=>q1c n o (regV P n ops Q H) ρ w
    | some d=>bif Nat.blt d n then
      match ρ d with
      | .bool b=>Tst b
        (match U with
         | true=>runO P n o (regV P n ops Q H) (upd ρ d (.bool true)) w
         | false=>q1c n o (regV P n ops Q H) (upd ρ d (.bool true)) w)
        (match U with
         | true=>q1c n o (regV P n ops Q H) (upd ρ d (.bool false)) w
         | false=>runO P n o (regV P n ops Q H) (upd ρ d (.bool false)) w)
      | _=>q1c n o (regV P n ops Q H) ρ w
     else False
def seqQ(K:Eb->Ec)(Q:Exit->Eb->Ec):Exit->Eb->DU->Prop
 | .normal,ρ,w=>K ρ w
 | .exit i,ρ,w=>Q (.exit i) ρ w
 | .goto l,ρ,w=>Q (.goto l) ρ w
 | .ret,ρ,w=>Q .ret ρ w
 | .panic c,ρ,w=>Q (.panic c) ρ w
 | .outgrown,ρ,w=>Q .outgrown ρ w
def qxb(id:Nat)(Q:Exit->Eb->Ec):Exit->Eb->DU->Prop
 | .normal,ρ,w=>Q .normal ρ w
 | .exit i,ρ,w=>bif Nat.beq i id then Q .normal ρ w else Q (.exit i) ρ w
 | .goto l,ρ,w=>Q (.goto l) ρ w
 | .ret,ρ,w=>Q .ret ρ w
 | .panic c,ρ,w=>Q (.panic c) ρ w
 | .outgrown,ρ,w=>Q .outgrown ρ w
def qaka(Q:Exit->Eb->Ec):Exit->Eb->DU->Prop
 | .goto _,_,_=>False
 | .normal,ρ,w=>Q .normal ρ w
 | .exit i,ρ,w=>Q (.exit i) ρ w
 | .ret,ρ,w=>Q .ret ρ w
 | .panic c,ρ,w=>Q (.panic c) ρ w
 | .outgrown,ρ,w=>Q .outgrown ρ w
structure ScopeV(P:DW)(n:Nat)(c:Code)(Q:Exit->Eb->Ec)(ρ:Eb)(w:DU):Prop where
 h:∀a,St n ρ a->(Code.scope c).wp P (λe a' w'=>∃ρ',St n ρ' a'/\Q e ρ' w') a w
def qfm(P:DW)(n:Nat):Code->(Exit->Eb->Ec)->Eb->DU->Prop
 | .skip,Q,ρ,w=>Q .normal ρ w
 | .region id ops H,Q,ρ,w=>
  match H with
  | false=>regV P n ops.toList (Q .normal) ops.toList ρ w
  | true=>DrawV P n id ops Q ρ w
 | .seq a b,Q,ρ,w=>qfm P n a (seqQ (qfm P n b Q) Q) ρ w
 | .cond c t e,Q,ρ,w=>
  match ev ρ c with
  | .bool b=>Tst b (qfm P n t Q ρ w) (qfm P n e Q ρ w)
  | _=>False
 | .block id c,Q,ρ,w=>qfm P n c (qxb id Q) ρ w
 | .loop c,Q,ρ,w=>LoopV P n c Q ρ w
 | .exit id,Q,ρ,w=>Q (.exit id) ρ w
 | .label _,Q,ρ,w=>Q .normal ρ w
 | .ret,Q,ρ,w=>Q .ret ρ w
 | .goto l,Q,ρ,w=>Q (.goto l) ρ w
 | .scope c,Q,ρ,w=>ScopeV P n c Q ρ w
 | .rangeFunc f p a b,Q,ρ,w=>CodeV P n (.rangeFunc f p a b) Q ρ w
 | .refuse _,_,_,_=>False
def lift(n:Nat)(Q:Exit->Eb->Ec):Exit->Act->DU->Prop:=λe a w=>∃ρ,St n ρ a/\Q e ρ w
section
variable {P:DW} {n:Nat}
theorem putV.st{H:Option Tmp}{v:DZ}{K:Eb->Prop}{a:Act}(h:putV n H ρ v K)(V:St n ρ a):
  ∃U,St n U (a.put H v)/\K U:=by
 unfold putV at h
 split at h
 ·exact⟨ρ,V,h⟩
 ·rename_i d
  cases W:Nat.blt d n<;>rw[W]at h
  ·exact h.elim
  ·exact⟨_,V.put (by simpa using W) v,h⟩
theorem St.yield{a:Act}(H:St n ρ a){ops:List Oper}(U:getL ops j=some oj)(V:oj.dst=some d)(W:d<n):
  yielded ops.toArray a.tmps j=match ρ d with | .bool b=>some b|_=>none:=by
 have Z:ops.toArray[j]?=some oj:=by grind [qa2]
 have h2:a.tmps[d]?=some (ρ d):=by
  have hs:=H.size;have:=H.get d
  simp_all
 grind [yielded]
theorem qvw{K:Eb->Ec}{a:Act}{H:List Oper}(W:Region.wanted o (yielded ops a.tmps)=true)(Z:St n ρ a)(h:runO P n o K ρ w)(hk:∀U V w',St n U V->K U w'->wpList P ops Q' H V w'):
  wpList P ops Q' (o::H) a w:=by
 unfold wpList;rw[Ad W];refine .inl (OpOk.wp Z.eval (q5i h) λv w' hp=>?_)
 grind [putV.st]
theorem qip{K:Eb->Ec}{a:Act}{H:List Oper}(W:Region.wanted o (yielded ops a.tmps)=false)(Z:St n ρ a)(h:q1c n o K ρ w)(hk:∀U V w',St n U V->K U w'->wpList P ops Q' H V w'):
  wpList P ops Q' (o::H) a w:=by
 unfold wpList;rw[Aa (by rw[W];simp)];obtain⟨U,h1,h2⟩:=putV.st h Z
 grind
theorem qag4{ops:List Oper}{Q:Eb->Ec}(hQ:∀ρ a w,St n ρ a->Q ρ w->Q' .normal a w)(l:List Oper):
  ∀(ρ:Eb) (a:Act) (w:DU),St n ρ a->regV P n ops Q l ρ w->wpList P ops.toArray Q' l a w:=by
 induction l with
 | nil=>intro ρ a w U h;exact hQ _ _ _ U h
 | cons o H ih=>
  intro ρ a w U h;unfold regV at h;have ae:∀V a' w',St n V a'->regV P n ops Q H V w'->wpList P ops.toArray Q' H a' w':=(by omega)
  split at h
  ·grind [qvw,Region.wanted]
  ·rename_i j ad hg
   split at h
   ·grind [qa2,qip,Region.wanted,yielded]
   ·rename_i oj hj
    split at h
    ·grind [qip,qa2,Region.wanted,yielded]
    ·rename_i d hd
     cases hn:Nat.blt d n<;>rw[hn]at h
     ·exact h.elim
     ·have W:d<n:=by simpa using hn
      have hy:=U.yield hj hd W;simp only[cond_true]at h
      split at h
      ·rename_i b Z
       rw[Z]at hy;cases b
       ·have h:=h.f rfl;have aa:=U.same Z
        grind [qvw,Region.wanted,qip]
       ·have h:=h.t rfl;have aa:=U.same Z
        grind [qip,Region.wanted,qvw]
      grind [qip,Region.wanted]
theorem q93{K:Eb->Ec}{Q:Exit->Eb->Ec}{e:Exit}{a:Act}(h:lift n (seqQ K Q) e a w):
  Exit.then (λa w=>∃ρ,St n ρ a/\K ρ w) (lift n Q) e a w:=by
 obtain⟨ρ,H,U⟩:=h;cases e<;>exact⟨ρ,H,U⟩
theorem q0b{Q:Exit->Eb->Ec}{e:Exit}{a:Act}(h:lift n (qxb id Q) e a w):
  Exit.inBlock id (lift n Q) e a w:=by
 obtain⟨ρ,U,H⟩:=h;cases e with
 | exit i=>
  by_cases hi:i=id
  ·have V:Nat.beq i id=true:=by subst hi;simp
   simp only[qxb,V,cond_true]at H;simp only[Exit.inBlock,hi,if_true];exact⟨ρ,U,H⟩
  ·have V:Nat.beq i id=false:=(by grind [Nat.eq_of_beq_eq_true])
   simp only[qxb,V,cond_false]at H;simp only[Exit.inBlock,hi,if_false];exact⟨ρ,U,H⟩
 | normal=>exact⟨ρ,U,H⟩
 | goto l=>exact⟨ρ,U,H⟩
 | ret=>exact⟨ρ,U,H⟩
 | panic c=>exact⟨ρ,U,H⟩
 | outgrown=>exact⟨ρ,U,H⟩
theorem qkt(c:Code):∀(Q:Exit->Eb->Ec) (ρ:Eb) (w:DU),qfm P n c Q ρ w->∀a,St n ρ a->c.wp P (lift n Q) a w:=by
 induction c with
 | skip=>intro Q ρ w h a H;exact wp_skip ⟨ρ,H,h⟩
 | region id ops U=>
  intro Q ρ w h a H;cases U
  ·refine wp_region_list ?_;have:=qag4 (Q':=lift n Q) (λρ a w H h=>⟨ρ,H,h⟩) ops.toList ρ a w H h;omega
  ·exact h.h a H
 | seq x y W hy=>
  intro Q ρ w h a H;refine wp_seq (wp_mono (W _ _ _ h a H) λe a w h=>?_);have:=q93 h;cases e with
  | normal=>obtain⟨aa,h1,h2⟩:=this;exact hy _ _ _ h2 _ h1
  | exit i=>exact this
  | goto l=>exact this
  | ret=>exact this
  | panic c=>exact this
  | outgrown=>exact this
 | cond c t e ht he=>
  intro Q ρ w h a H;unfold qfm at h
  split at h
  ·rename_i b Z
   refine wp_cond_split (t:=b) (by rw[H.eval,Z]) (λe=>ht _ _ _ (h.t e) a H) (λe=>he _ _ _ (h.f e) a H)
  ·exact h.elim
 | block id c V=>
  intro Q ρ w h a H;exact wp_block (wp_mono (V _ _ _ h a H) λe a w h=>q0b h)
 | loop c V=>intro Q ρ w h a H;exact h.h a H
 | rangeFunc f p x b W Z=>intro Q ρ w h a H;exact h.h a H
 | exit id=>intro Q ρ w h a H;exact wp_exit ⟨ρ,H,h⟩
 | scope c V=>intro Q ρ w h a H;exact h.h a H
 | label l=>intro Q ρ w h a H;exact wp_label ⟨ρ,H,h⟩
 | goto l=>intro Q ρ w h a H;exact wp_goto ⟨ρ,H,h⟩
 | ret=>intro Q ρ w h a H;exact wp_ret ⟨ρ,H,h⟩
 | refuse ad=>intro Q ρ w h a H;exact h.elim
theorem ScopeV.straight{n:Nat}{c:Code}{Q:Exit->Eb->Ec}(h:qfm P n c (qaka Q) ρ w):ScopeV P n c Q ρ w:=by
 refine⟨λa V=>wp_scope_straight (wp_mono (qkt c _ _ _ h a V) λe a w h=>?_)⟩;obtain⟨H,W,U⟩:=h;cases e<;>first|exact U.elim|exact⟨H,W,U⟩
structure SameW(w' w:DU)(k:Prop):Prop where
 h:w'=w
 k:k
structure CallQ(P:DW)(f:FuncId)(args:Ee)(w:DU)(K:DZ->Prop):Prop where
 h:∃v,Gv P f args w (λu w'=>u=v/\w'=w)/\K v
def qaej(P:DW)(c:Call)(ρ:Eb)(w:DU)(s:Sem Next)(K:DZ->Prop):Prop:=
 match c.callee with
 | .value f=>match ev ρ f with
  | .func (.func g) first H=>qcn (evs ρ c.args.toList) λvs=>
   match first.toList,H.toList with
   | [],[]=>CallQ P g vs w K
   | x,y=>CallQ P g (x++(vs++y)) w K
  | _=>False
 | .builtin .len=>lenV P (getL c.argTypes.toList 0) (evs ρ c.args.toList) w s λv w'=>SameW w' w (K v)
 | _=>False
def opQ(P:DW)(o:Oper)(ρ:Eb)(w:DU)(K:DZ->Prop):Prop:=
 match o.op with
 | .call c=>qaej P c ρ w (execOp (ev ρ) o) K
 | _=>opV P o ρ w λv w'=>SameW w' w (K v)
section
variable {P:DW} {w:DU} {n:Nat}
def StillOk(P:DW)(s:Sem Next)(w:DU)(K:DZ->Prop):Prop:=
 OpOk2 P s w (λv w'=>w'=w/\K v)\/
 (∃f args v,s.run P w=.ok (.enter f args) w/\Calls P f args w (λe w'=>e=.returned v/\w'=w)/\K v)
theorem OpOk2.same{s:Sem Next}{K:DZ->Prop}(h:OpOk2 P s w λv w'=>SameW w' w (K v)):StillOk P s w K:=by
 refine .inl ?_
 rcases h with⟨v,w',U,H⟩|⟨w',U,H⟩
 ·exact .inl ⟨v,w',U,H.h,H.k⟩
 ·exact .inr ⟨w',U,H.h,H.k⟩
theorem q8n{c:Call}{K:DZ->Prop}(W:o.op=.call c)(h:qaej P c ρ w (execOp (ev ρ) o) K):
  StillOk P (execOp (ev ρ) o) w K:=by
 unfold qaej at h
 split at h
 ·rename_i f U
  split at h
  ·rename_i g first H Z
   rw[qao,qef]at h;have he:execOp (ev ρ) o=callFunc g (first++c.args.map (ev ρ)++H):=by
    simp only[execOp,W,resolve,U,Z];rfl
   rw[he];have V:CallQ P g (first.toList++(c.args.toList.map (ev ρ)++H.toList)) w K:=by
    grind
   have e2:(first.toList++(c.args.toList.map (ev ρ)++H.toList)).toArray=first++c.args.map (ev ρ)++H:=by
    simp
   rw[<-e2];obtain⟨v,⟨h1,h2⟩,hk⟩:=V;refine .inr ⟨g,_,v,qc7 h1 _,h2.mono ?_,hk⟩
   simp_all
  ·exact h.elim
 ·rename_i U;exact(q4t W U h).same
 ·exact h.elim
theorem qajw{K:DZ->Prop}(h:opQ P o ρ w K):StillOk P (execOp (ev ρ) o) w K:=by
 unfold opQ at h
 split at h
 ·grind [q8n]
 ·rename_i H;exact(q5j (λc e=>H c e) h).same
theorem StillOk.still{K:DZ->Prop}{a:Act}{next:Act->Prop}(Z:a.eval=ev ρ)(h:StillOk P (execOp (ev ρ) o) w K)(W:∀v,K v->next (a.put o.dst v)):o.still P a w next:=by
 unfold Oper.still;rw[Z]
 rcases h with(⟨v,w',H,U,V⟩|⟨w',H,U,V⟩)|⟨f,args,v,H,U,V⟩
 ·rw[H];exact⟨U,W _ V⟩
 ·rw[H];exact⟨U,W _ V⟩
 ·rw[H];exact⟨rfl,v,U,W _ V⟩
def runQ(P:DW)(n:Nat)(o:Oper)(K:Eb->Prop)(ρ:Eb)(w:DU):Prop:=
 opQ P o ρ w λv=>putV n o.dst ρ v K
def regQ(P:DW)(n:Nat)(ops:List Oper)(w:DU)(Q:Eb->Prop):List Oper->Eb->Prop
 | [],ρ=>Q ρ
 | o::H,ρ=>
  match o.guard with
  | none=>runQ P n o (regQ P n ops w Q H) ρ w
  | some (j,U)=>
   match getL ops j with
   | none=>putV n o.dst ρ undef (regQ P n ops w Q H)
   | some oj=>match oj.dst with
    | none=>putV n o.dst ρ undef (regQ P n ops w Q H)
    | some d=>bif Nat.blt d n then
      match ρ d with
      | .bool b=>Tst b
        (match U with
         | true=>runQ P n o (regQ P n ops w Q H) (upd ρ d (.bool true)) w
         | false=>putV n o.dst (upd ρ d (.bool true)) undef (regQ P n ops w Q H))
        (match U with
         | true=>putV n o.dst (upd ρ d (.bool false)) undef (regQ P n ops w Q H)
         | false=>runQ P n o (regQ P n ops w Q H) (upd ρ d (.bool false)) w)
      | _=>putV n o.dst ρ undef (regQ P n ops w Q H)
     else False
theorem qvx{K:Eb->Prop}{a:Act}{H:List Oper}{Q':Act->Prop}(W:Region.wanted o (yielded ops a.tmps)=true)(Z:St n ρ a)(h:runQ P n o K ρ w)(hk:∀U V,St n U V->K U->wpStill P ops w Q' H V):
  wpStill P ops w Q' (o::H) a:=by
 unfold wpStill;rw[Ad W];refine StillOk.still Z.eval (qajw h) λv hp=>?_
 grind [putV.st]
theorem qiq{K:Eb->Prop}{a:Act}{H:List Oper}{Q':Act->Prop}(W:Region.wanted o (yielded ops a.tmps)=false)(Z:St n ρ a)(h:putV n o.dst ρ undef K)(hk:∀U V,St n U V->K U->wpStill P ops w Q' H V):
  wpStill P ops w Q' (o::H) a:=by
 grind [wpStill,putV.st]
theorem qag3{ops:List Oper}{Q:Eb->Prop}{Q':Act->Prop}(hQ:∀ρ a,St n ρ a->Q ρ->Q' a)(l:List Oper):
  ∀(ρ:Eb) (a:Act),St n ρ a->regQ P n ops w Q l ρ->wpStill P ops.toArray w Q' l a:=by
 induction l with
 | nil=>intro ρ a U h;exact hQ _ _ U h
 | cons o H ih=>
  intro ρ a U h;unfold regQ at h;have ae:∀V a',St n V a'->regQ P n ops w Q H V->wpStill P ops.toArray w Q' H a':=(by omega)
  split at h
  ·grind [qvx,Region.wanted]
  ·rename_i j ad hg
   split at h
   ·grind [qa2,qiq,Region.wanted,yielded]
   ·rename_i oj hj
    split at h
    ·grind [qiq,qa2,Region.wanted,yielded]
    ·rename_i d hd
     cases hn:Nat.blt d n<;>rw[hn]at h
     ·exact h.elim
     ·have W:d<n:=by simpa using hn
      have hy:=U.yield hj hd W;simp only[cond_true]at h
      split at h
      ·rename_i b Z
       rw[Z]at hy;cases b
       ·have h:=h.f rfl;have aa:=U.same Z
        grind [qvx,Region.wanted,qiq]
       ·have h:=h.t rfl;have aa:=U.same Z
        grind [qiq,Region.wanted,qvx]
      grind [qiq,Region.wanted]
theorem DrawV.quiet{Q:Exit->Eb->Ec}(V:P.follows .mixedOrders=true)(W:Region.lexB .any ops=true)(h:regQ P n ops.toList w.drew (λH=>Q .normal H w.drew) ops.toList ρ):DrawV P n id ops Q ρ w:=by
 refine⟨λa U=>wp_region_still V W ?_⟩;have:=qag3 (w:=w.drew) (Q':=λZ=>∃H,St n H Z/\Q .normal H w.drew) (λρ a U h=>⟨ρ,U,h⟩) ops.toList ρ a U h
 simp_all
end
def over:List (Nat×DZ)->Eb->Nat->DZ
 | [],ρ=>ρ
 | (t,v)::l,ρ=>upd (over l ρ) t v
def qrq:List (Nat×DZ)->Eb->Prop
 | [],_=>True
 | (t,v)::l,ρ=>ρ t=v/\qrq l ρ
theorem qsx{l:List (Nat×DZ)}(h:qrq l ρ):over l ρ=ρ:=by
 induction l with
 | nil=>rfl
 | cons x l H=>
  obtain⟨t,v⟩:=x;obtain⟨V,U⟩:=h
  funext u
  simp only[over,H U,upd]
  grind [Nat.eq_of_beq_eq_true]
theorem qk{α:Type}(l:α->List (Nat×DZ))(I:α->Ec)(μ:α->Nat){Q:Exit->Eb->Ec}(x0:α)(h0:qrq (l x0) ρ)(hI:I x0 w)(hr:∀x w aj,I x w->qfm P n body (seqQ (λae w'=>∃x',qrq (l x') ae/\I x' w'/\μ x'<μ x) Q) (over (l x) aj) w):LoopV P n body Q ρ w:=by
 refine⟨λa ha=>?_⟩;have ak:∀m x,μ x=m->∀ρ a w,qrq (l x) ρ->St n ρ a->I x w->∀(b:Frame) (k:List Item) (cs:List Frame),
   ∃e a' w',lift n Q e a' w'/\Arrives P (lone (b.at a (.code body::.inLoop body::k)) cs w) b k cs e a' w':=by
  intro m
  induction m using Nat.strongRecOn with
  | _ m ih=>
   intro x hm ρ a w al am hI b k cs;have h1:=hr x w ρ hI;rw[qsx al]at h1;obtain⟨e,W,Z,hq,V⟩:=qkt body _ _ _ h1 a am b (.inLoop body::k) cs;obtain⟨U,H,hq⟩:=hq;cases e with
   | normal=>
    obtain⟨x',af,an,ao⟩:=hq;obtain⟨ag,ah,ai,ad,aa⟩:=ih (μ x') (hm ▸ ao) x' rfl U W Z af H an b k cs;exact⟨ag,ah,ai,ad,.of_steps (Steps.trans V (.one step_inLoop)) aa⟩
   | exit id=>exact⟨_,W,Z,⟨U,H,hq⟩,.pass (x:=.inLoop body) rfl Js V⟩
   | goto l=>exact⟨_,W,Z,⟨U,H,hq⟩,.pass (x:=.inLoop body) rfl Js V⟩
   | ret=>exact⟨_,W,Z,⟨U,H,hq⟩,.pass (x:=.inLoop body) rfl Js V⟩
   | panic ch=>exact⟨_,W,Z,⟨U,H,hq⟩,.pass (x:=.inLoop body) rfl Js V⟩
   | outgrown=>exact⟨_,W,Z,⟨U,H,hq⟩,.pass (x:=.inLoop body) rfl Js V⟩
 intro b k cs;obtain⟨e,a',w',hq,V⟩:=ak _ x0 rfl ρ a w h0 ha hI b k cs;exact⟨e,a',w',hq,.of_steps (.one step_loop) V⟩
def ini:Ee->Nat->DZ
 | [],_=>undef
 | v::_,0=>v
 | _::l,t+1=>ini l t
theorem qac1(l:Ee)(t:Nat):ini l t=(l[t]?).getD undef:=by
 induction l generalizing t with
 | nil=>simp[ini]
 | cons v l H=>cases t<;>simp[ini,H]
def qkf:List ResultVar->Option (List Operand)
 | []=>some []
 | .tmp t::l=>match qkf l with
  | some r=>some (.tmp t::r)
  | none=>none
 | .cell _ _::_=>none
def resV(H:Array ResultVar)(ρ:Eb)(w:DU)(U:Func)(R:Ea)(P:DW)(n:Nat):Prop:=
 match H.toList with
 | [.tmp t]=>qjg (ρ t) λv=>R v w
 | l=>match qkf l with
  | some V=>qcn (evs ρ V) λvs=>R (.tuple vs.toArray) w
  | none=>∀a,St n ρ a->∃v,(results U a.tmps).run P w=.ok v w/\R v w
def q8k(P:DW)(n:Nat)(H:Func)(R:Ea):Exit->Eb->DU->Prop
 | .normal,ρ,w=>resV H.results ρ w H R P n
 | .ret,ρ,w=>resV H.results ρ w H R P n
 | _,_,_=>False
def resF(H:Eh):ResultVar->Sem DZ
 | .tmp t=>pure (H.getD t undef)
 | .cell a t=>do loadVar t (<-asAddr (H.getD a undef))
theorem qtn(H:Eh)(w:DU)(ρ:Eb)(V:∀t,H.getD t undef=ρ t):∀(l:List ResultVar) (U:List Operand),qkf l=some U->
  (l.mapM (resF H)).run P w=.ok (evs ρ U) w:=by
 intro l
 induction l with
 | nil=>intro U h;cases h;simp[evs]
 | cons x l W=>
  intro U h;cases x with
  | cell a t=>cases h
  | tmp t=>
   simp only[qkf]at h;cases e:qkf l with
   | none=>simp_all
   | some r=>
    rw[e]at h;cases h
    simp_all[evs,ev,resF]
theorem qmt{W:Array ResultVar}{V:Func}(aa:V.results=W){a:Act}(ha:St n ρ a)(h:resV W ρ w V R P n):
  ∃v,(results V a.tmps).run P w=.ok v w/\R v w:=by
 unfold resV at h;have hm:∀U,qkf W.toList=some U->(results V a.tmps).run P w=.ok (if h:(evs ρ U).toArray.size=1 then(evs ρ U).toArray[0]else .tuple (evs ρ U).toArray) w:=by
  intro U H;have:=qtn (P:=P) a.tmps w ρ ha.get W.toList U H;have e:results V a.tmps=(do let vs <-V.results.mapM (resF a.tmps);pure (if h:vs.size=1 then vs[0]else .tuple vs)):=by
   rfl
  simp_all[De]
 split at h
 ·rename_i t Z
  rw[qbt]at h;refine⟨ρ t,?_,h⟩;rw[hm [.tmp t] (by rw[Z];rfl)];rfl
 ·rename_i l Z
  split at h
  ·rename_i U H
   rw[qao]at h;refine⟨_,?_,h⟩;rw[hm U H];have ad:¬(evs ρ U).toArray.size=1:=by
    intro h1;rw[qef]at h1;simp at h1
    match W.toList,H,Z with
    | [],H,_=>cases H;cases h1
    | [.tmp t],_,Z=>exact Z t rfl
    | .tmp t::y::r,H,_=>
     simp only[qkf]at H
     revert H
     cases y<;>grind [qkf]
    | .cell a t::r,H,_=>cases H
   simp_all
  ·exact h a ha
theorem Gv.mono{H:Ea}(h:Gv P f vs w R)(U:∀v w',R v w'->H v w'):Gv P f vs w H:=
 ⟨h.1,h.2.mono (by grind)⟩
theorem CallV.of(h:Gv P f vs w R)(H:∀v w',R v w'->K v w'):CallV P f vs w K:=
 ⟨.inl (h.mono H)⟩
theorem gv{V:Func}{c:Code}(he:qdp P f=true)(hf:P.funcs[f]?=some V)(hb:V.body=some c)(hn:V.ntmps=n)(hl:Nat.ble vs.length n=true)(h:qfm P n c (q8k P n V R) (ini vs) w):Gv P f vs w R:=by
 have aa:vs.length<=n:=by simpa using hl
 refine⟨he,calls_of_wp hf hb (wp_mono (qkt c _ _ _ h _ ⟨?_,?_,rfl⟩) λe a w U=>?_)⟩
 ·simp_all
 ·intro t;rw[qac1,Ce]
  grind
 ·obtain⟨ρ,H,U⟩:=U;cases e with
  | normal=>
   obtain⟨v,W,Z⟩:=qmt rfl H U;exact⟨H.defers,v,W,v,rfl,Z⟩
  | ret=>
   obtain⟨v,W,Z⟩:=qmt rfl H U;exact⟨H.defers,v,W,v,rfl,Z⟩
  | exit i=>exact U.elim
  | goto i=>exact U.elim
  | panic i=>exact U.elim
  | outgrown=>exact U.elim
end
theorem Wit.conv{k:IntKind}{n:Int}{K:Int->Prop}(h:InR k n)(H:K n):Wit (λr=>k.wrap n=r) K:=⟨n,h.wrap,H⟩
theorem Wit.eq{H:Type}{x y:H}{K:H->Prop}(h:x=y)(U:K y):Wit (λr=>x=r) K:=⟨y,h,U⟩
theorem Wit.shl{k:IntKind}{a b m r:Int}{K:Int->Prop}(H:0<=b/\b<k.bits)(U:(2:Int) ^ b.toNat=m)(V:a*m=r)(hi:InR k r)(W:K r):
  Wit (λr=>0<=b/\b<k.bits/\k.wrap (a*2 ^ b.toNat)=r) K:=⟨r,⟨H.1,H.2,by rw[U,V];exact hi.wrap⟩,W⟩
theorem Wit.shr{k:IntKind}{a b m r:Int}{K:Int->Prop}(U:0<=b/\b<k.bits)(V:(2:Int) ^ b.toNat=m)(W:a/m=r)(H:K r):
  Wit (λr=>0<=b/\b<k.bits/\a/2 ^ b.toNat=r) K:=⟨r,(by grind),H⟩
theorem IdxV.nat{n:Nat}{K:Nat->Prop}(h:j<n)(H:K j):IdxV (j:Int) n K:=⟨j,rfl,h,H⟩
theorem IdxV.at_{i:Int}(j:Nat){n:Nat}{K:Nat->Prop}(e:i=(j:Int))(h:j<n)(H:K j):IdxV i n K:=⟨j,e,h,H⟩
theorem SliceS.at_{s:DV}{lo hi:Option DZ}{K:DZ->Prop}(l h:Nat)(H:bnd lo 0 l)(U:bnd hi s.size h)(V:l<=h)(W:h<=s.size)(Z:K (.string (s.extract l h))):
  SliceS s lo hi K:=⟨l,h,H,U,V,W,Z⟩
theorem InR.lt{k:IntKind}(h:InR k m):m<2 ^ k.bits:=by
 cases k<;>obtain⟨H,U⟩:=h<;>simp[IntKind.bits]<;>omega
theorem InR.le{k:IntKind}{n:Nat}(h:InR k n)(H:m<=n):InR k m:=by
 cases k<;>obtain⟨U,V⟩:=h<;>exact⟨by omega,by omega⟩
theorem qw9{k:IntKind}{n:Nat}(H:InR k m)(U:InR k n):qfl .and k m n=((m &&&n:Nat):Int):=by
 grind [qfl,InR.lt,InR.wrap,InR.le,Nat.and_le_left]
theorem quh{k:IntKind}{n:Nat}(H:InR k m)(U:InR k n)(h:InR k ((m |||n:Nat):Int)):qfl .or k m n=((m |||n:Nat):Int):=by
 grind [qfl,InR.lt,InR.wrap]
theorem qay{k:IntKind}(i:Nat){c:Int}(H:c=((2 ^ i-1:Nat):Int))(U:InR k m)(V:InR k c):qfl .and k m c=((m%2 ^ i:Nat):Int):=by
 grind [qw9,Nat.and_two_pow_sub_one_eq_mod]
theorem q8g{k:IntKind}(i:Nat)(H:InR k ((a*2 ^ i+b:Nat):Int))(U:b<2 ^ i):qfl .or k ((a*2 ^ i:Nat):Int) b=((a*2 ^ i+b:Nat):Int):=by
 have e:(a*2 ^ i |||b)=a*2 ^ i+b:=by grind [Nat.mul_comm,Nat.two_pow_add_eq_or_of_lt]
 rw[quh (InR.le H Oo) (InR.le H Oo) (by simp_all),e]
end V
namespace V
def Ext(w w':DU):Prop:=Below w.heap.size w w'
theorem Ext.refl(w:DU):Ext w w:=Below.refl _ _
theorem Ext.trans{a b c:DU}(h:Ext a b)(k:Ext b c):Ext a c:=Below.trans h (Below.mono k h.size)
theorem Ext.alloc{a:DU}(h:Ext a w)(o:Obj):Ext a (w.alloc o):=Below.alloc h h.size o
theorem Ext.get(h:Ext w w'){o:Obj}(H:w.heap[b]?=some o):w'.heap[b]?=some o:=by
 rw[h.block b]
 all_goals grind
theorem Ext.cell(h:Ext w w'){a:Addr}{v:DZ}(U:w.cell? a=some v):w'.cell? a=some v:=by
 have H:a.block<w.heap.size:=by
  grind [World.cell?]
 rw[Below.cell h H];exact U
theorem Ext.drew{a:DU}(h:Ext a w):Ext a w.drew:=Below.drew h
theorem qgs{o:Obj}(h:b≠r):(setO w r o).heap[b]?=w.heap[b]?:=by
 grind [setO]
theorem qm3{o:Obj}(h:w.heap[r]?=some o'):(setO w r o).heap[r]?=some o:=by
 grind [setO]
theorem Ext.setO{a w:DU}(h:Ext a w){r:Nat}(H:a.heap.size<=r)(o:Obj):Ext a (setO w r o):=
 Below.trans h ⟨rfl,rfl,rfl,by simp[V.setO],(by grind [qgs])⟩
theorem Ext.setCell{a:DU}(h:Ext a w){p:Addr}(H:a.heap.size<=p.block)(v:DZ):Ext a (w.setCell p v):=Below.setCell h H v
structure Mem(w0 w:DU)(L:Ed):Prop where
 ext:Ext w0 w
 own:∀x∈L,w0.heap.size<=x.1/\w.heap[x.1]?=some x.2
 nodup:(L.map (·.1)).Nodup
section
variable {w0 w w':DU} {L:Ed}
theorem Mem.nil(w:DU):Mem w w []:=⟨Ext.refl w,Js,by simp⟩
theorem Mem.lt(h:Mem w0 w L){o:Obj}(H:(b,o)∈L):b<w.heap.size:=by
 have:=(h.own _ H).2
 grind
theorem Mem.get(h:Mem w0 w L){o:Obj}(H:(b,o)∈L):w.heap[b]?=some o:=(h.own _ H).2
theorem Mem.new(h:Mem w0 w L){o:Obj}(U:b=w.heap.size)(V:w'=w.alloc o):Mem w0 w' ((b,o)::L):=by
 subst U V;refine⟨h.ext.alloc o,?_,?_⟩
 ·intro x H
  rcases AB.1 H with rfl|H
  ·exact⟨h.ext.size,heap_alloc_new w _⟩
  ·exact⟨(h.own x H).1,by rw[Below.heap_alloc _ _ _ (h.lt (b:=x.1) (o:=x.2) H)];exact(h.own x H).2⟩
 ·simp only[AK,CR];refine⟨λW=>?_,h.nodup⟩;obtain⟨x,H,e⟩:=AF.1 W;have:=h.lt (b:=x.1) (o:=x.2) H;omega
theorem Mem.call(h:Mem w0 w L)(H:Ext w w'):Mem w0 w' L:=
 ⟨h.ext.trans H,λx U=>⟨(h.own x U).1,H.get (h.own x U).2⟩,h.nodup⟩
theorem Mem.drew(h:Mem w0 w L):Mem w0 w.drew L:=⟨h.ext.drew,h.own,h.nodup⟩
theorem Mem.set(h:Mem w0 w L){o:Obj}(hi:L[i]?=some (b,o))(W:Ext w0 w')(Z:w'.heap[b]?=some o')(ho:∀c,c≠b->w'.heap[c]?=w.heap[c]?):Mem w0 w' (L.set i (b,o')):=by
 have U:i<L.length:=by
  grind
 have aa:L[i]=(b,o):=by simp_all
 have hn:((L.set i (b,o')).map (·.1))=L.map (·.1):=by
  rw[DR];have:(L.map (·.1))[i]?=some b:=by simp_all
  apply Bk
  grind
 refine⟨W,?_,by rw[hn];exact h.nodup⟩;intro x V
 rcases CD V with H | rfl
 ·refine⟨(h.own x H).1,?_⟩
  by_cases e:x.1=b
  ·obtain⟨j,hj,ad⟩:=BY.1 V
   by_cases ae:j=i
   ·grind
   ·have h1:(L.map (·.1))[j]'(by grind)=b:=by
     grind
    have h2:(L.map (·.1))[i]'(by simpa using U)=b:=by simp_all
    have:=(List.getElem_inj h.nodup).1 (h1.trans h2.symm);omega
  ·rw[ho _ e];exact(h.own x H).2
 ·exact⟨(h.own (b,o) (by grind)).1,Z⟩
theorem Mem.setO(h:Mem w0 w L){i b:Nat}{o:Obj}(o':Obj)(hi:L[i]?=some (b,o))(U:w'=setO w b o'):Mem w0 w' (L.set i (b,o')):=by
 subst U;have H:(b,o)∈L:=(by grind)
 exact h.set hi (h.ext.setO (h.own _ H).1 o') (qm3 (h.get H)) (λc V=>qgs V)
theorem heap_setCell{v:DZ}{t:DX}(h:w.heap[b]?=some (.cells cs t fr)):
  (w.setCell ⟨b,off,none⟩ v).heap[b]?=some (.cells (cs.setIfInBounds off v) t fr):=by
 grind [World.setCell]
theorem Mem.setCell(h:Mem w0 w L){v:DZ}{t:DX}(hi:L[i]?=some (b,.cells cs t fr))(U:w'=w.setCell ⟨b,off,none⟩ v):
  Mem w0 w' (L.set i (b,.cells (cs.setIfInBounds off v) t fr)):=by
 subst U;have H:(b,Obj.cells cs t fr)∈L:=(by grind)
 exact h.set hi (h.ext.setCell (h.own _ H).1 v) (heap_setCell (h.get H)) (by grind [Below.heap_setCell])
theorem Mem.sub(h:Mem w0 w L)(H:L'.Sublist L):Mem w0 w L':=
 ⟨h.ext,λx U=>h.own x (by grind),(H.map _).nodup h.nodup⟩
theorem Mem.perm(h:Mem w0 w L)(H:L'.Perm L):Mem w0 w L':=
 ⟨h.ext,λx U=>h.own x (by grind),(H.map _).nodup_iff.2 h.nodup⟩
end
theorem qa{t:DX}(h:w.heap[b]?=some (.cells cs t fr)):w.cell? ⟨b,off,none⟩=cs[off]?:=by
 simp[World.cell?,h]
theorem LoadV.own{t:DX}{v:DZ}{K:DZ->Prop}(h:w.heap[b]?=some (.cells cs t fr))(U:cs[off]?=some v)(H:K v):
  LoadV w b off K:=⟨v,by grind [qa],H⟩
theorem LoadV.of{v:DZ}{K:DZ->Prop}(h:w.cell? ⟨b,off,none⟩=some v)(H:K v):LoadV w b off K:=⟨v,h,H⟩
theorem StoreV.own{t:DX}{v:DZ}{K:Ec}(h:w.heap[b]?=some (.cells cs t (0,0)))(V:off<cs.size)(H:qco v=true)(U:∀w',w'=w.setCell ⟨b,off,none⟩ v->K w'):StoreV w b off v K:=by
 refine⟨⟨cs[off],?_⟩,?_,H,U _ rfl⟩
 ·rw[qa h];simp
 ·simp[World.frozen?,h]
theorem NewV.mem{o:Obj}{K:Nat->Ec}(h:Mem w0 w L)(H:∀b w',Mem w0 w' ((b,o)::L)->K b w'):NewV w o K:=
 ⟨λb w' U V=>H b w' (h.new U V)⟩
theorem NextS.mem{pos:Nat}{s:DV}(h:Mem w0 w L)(hi:L[i]?=some (r,.stringIter s pos))(H:pos<s.size->∀w',Mem w0 w' (L.set i (r,.stringIter s (pos+(Utf8.decode s pos).2)))->K (.tuple #[.bool true,.int .i64 pos,.int .i32 (Utf8.decode s pos).1]) w')(U:¬pos<s.size->K (.tuple #[.bool false]) w):NextS w r K:=
 ⟨s,pos,h.get (by grind),λV w' W=>H V w' (h.setO _ hi W),U⟩
theorem LoadV.mem{t:DX}{v:DZ}{K:DZ->Prop}(h:Mem w0 w L)(hi:L[i]?=some (b,.cells cs t fr))(H:cs[off]?=some v)(U:K v):LoadV w b off K:=LoadV.own (h.get (CZ hi)) H U
theorem LoadA.mem{size:Nat}{t:DX}{K:Ee->Prop}(h:Mem w0 w L)(hi:L[i]?=some (b,.cells cs t fr))(H:cs.toList.length=size)(U:K cs.toList):LoadA w b 0 size K:=
 ⟨cs.toList,H,λj _=>by rw[qa (h.get (CZ hi)),As];simp,U⟩
theorem StoreV.mem{t:DX}{v:DZ}{K:Ec}(h:Mem w0 w L)(hi:L[i]?=some (b,.cells cs t (0,0)))(H:off<cs.size)(U:qco v=true)(V:∀w',Mem w0 w' (L.set i (b,.cells (cs.setIfInBounds off v) t (0,0)))->K w'):StoreV w b off v K:=
 StoreV.own (h.get (CZ hi)) H U λw' W=>V w' (h.setCell hi W)
theorem CellsAt.ext(h:CellsAt w b off vs)(H:Ext w w'):CellsAt w' b off vs:=λk v U=>H.cell (h k v U)
theorem LoadV.cells{v:DZ}{K:DZ->Prop}(h:CellsAt w b off vs)(k:Nat)(H:vs[k]?=some v)(U:K v):LoadV w b (off+k) K:=⟨v,h k v H,U⟩
theorem LoadV.cell0{v:DZ}{K:DZ->Prop}(h:CellsAt w b off (v::vs))(H:K v):LoadV w b off K:=⟨v,h 0 v rfl,H⟩
theorem LoadA.cells{size:Nat}{K:Ee->Prop}(h:CellsAt w b off vs)(H:vs.length=size)(U:K vs):LoadA w b off size K:=
 ⟨vs,H,λi hi=>by
  have V:i<vs.length:=by omega
  rw[h i vs[i] Js,Dg V],U⟩
structure SlAt{α:Type}(enc:α->Ee)(size:Nat)(w:DU)(A:Option Addr)(l:List α):Prop where
 at_:l≠[]->∃b off,A=some ⟨b,off,none⟩/\∀(j:Nat) x,l[j]?=some x->CellsAt w b (off+j*size) (enc x)
theorem SlAt.ext{U:Type}{H:U->Ee}{size:Nat}{A:Option Addr}{l:List U}(h:SlAt H size w A l)(V:Ext w w'):SlAt H size w' A l:=
 ⟨λW=>let⟨b,off,Z,h2⟩:=h.at_ W;⟨b,off,Z,λj x hx=>(h2 j x hx).ext V⟩⟩
theorem ElemV.sl{V:Type}{U:V->Ee}{size H:Nat}{A:Option Addr}{l:List V}{i:Int}{K:DZ->Prop}(h:SlAt U size w A l)(Z:l.length=H)(j:Nat)(e:i=(j:Int))(W:j<H)(hk:∀b off,CellsAt w b off (U (l[j]'(Z ▸ W)))->K (.pointer (some ⟨b,off,none⟩))):ElemV A i H size K:=by
 obtain⟨b,off,h1,h2⟩:=h.at_ (by grind);exact⟨b,off,j,h1,e,W,(by grind)⟩
theorem ElemV.own1{H size:Nat}{i:Int}{K:DZ->Prop}(j:Nat)(e:i=(j:Int))(U:j<H)(W:K (.pointer (some ⟨b,j,none⟩)))(V:size=1:=by rfl):ElemV (some ⟨b,0,none⟩) i H size K:=by
 subst V;exact⟨b,0,j,rfl,e,U,by simp_all⟩
def zeS(s:DV):Ee:=[.string s]
def zeI(n:Int):Ee:=[.int .i64 n]
theorem qbw{t:DX}(h:w.heap[b]?=some (.cells cur t (0,0))):(w.setRow b cs).heap[b]?=some (.cells cs t (0,0)):=
 setRow_heap w b cur cs t _ h
theorem qq(h:c≠b):(w.setRow b cs).heap[c]?=w.heap[c]?:=by
 grind [World.setRow]
theorem StoreA.mem{t:DX}{K:Ec}(h:Mem w0 w L)(hi:L[i]?=some (b,.cells cur t (0,0)))(Z:off+vs.length<=cur.size)(h1:∀v∈vs,v.oneCell'=true)(H:∀w',Mem w0 w' (L.set i (b,.cells (cur.toList.take off++vs++cur.toList.drop (off+vs.length)).toArray t (0,0)))->K w'):StoreA P w b off vs K:=by
 have U:(b,Obj.cells cur t (0,0))∈L:=(by grind)
 have V:=h.get U;have W:=run_storeCells_at P b off t vs 0 cur w V (by simpa using Z) h1;simp only[BB]at W;refine⟨_,W,H _ ?_⟩;refine h.set hi ?_ (qbw V) (λc hc=>qq hc);exact Below.trans h.ext ⟨rfl,rfl,rfl,by simp,λk H=>qq (by have:=(h.own _ U).1;omega)⟩
structure Rw(w0 w:DU)(v:DZ)(e:DX)(size n:Nat)(xs:Ee)(L:Ed):Prop where
 mem:Mem w0 w L
 own:w.ownsRow w0.heap.size e size v n xs
 apart:∀x∈L,v.ownBlock≠some x.1
section
variable {P:DW} {w0 w w':DU} {v:DZ} {e:DX} {size n:Nat} {xs:Ee} {L:Ed}
theorem Rw.nil(h:Mem w0 w L):Rw w0 w (.slice none 0 0) e size 0 [] L:=⟨h,World.ownsRow_nil _ _ _ _,λ_ _=>by simp[Value.ownBlock]⟩
theorem Rw.slice(h:Rw w0 w v e size n xs L):∃A c,v=.slice A n c:=by
 rcases h.own.2 with⟨rfl,rfl⟩|⟨g,H,cur,rfl,_⟩
 all_goals simp
theorem Rw.len(h:Rw w0 w v e size n xs L):xs.length=n*size:=h.own.1
theorem Rw.grown{row:Option Nat}(h:Rw w0 w v e size n xs L)(U:w.grownBy w' row)(V:∀k,row=some k->w0.heap.size<=k/\∀x∈L,x.1≠k):Mem w0 w' L:=by
 refine⟨Below.grown h.mem.ext U h.mem.ext.size (by grind),λx H=>⟨(h.mem.own x H).1,?_⟩,h.mem.nodup⟩;rw[U.block x.1 (h.mem.lt H) (by grind)];exact(h.mem.own x H).2
theorem Rw.call(h:Rw w0 w v e size n xs L)(H:Ext w w'):Rw w0 w' v e size n xs L:=by
 refine⟨h.mem.call H,h.own.kept (row:=none) ⟨H.os,H.tape,H.output,H.size,λk U _=>H.block k U⟩ ?_,h.apart⟩
 grind
theorem Rw.newBlk(h:Rw w0 w v e size n xs L){o:Obj}(V:b=w.heap.size)(U:w'=w.alloc o):Rw w0 w' v e size n xs ((b,o)::L):=by
 have H:Ext w w':=by rw[U];exact(Ext.refl w).alloc o
 refine⟨h.mem.new V U,(h.call H).own,λx H=>?_⟩
 rcases AB.1 H with rfl|H
 ·intro e;have:=h.own.lt _ e;omega
 ·exact h.apart x H
theorem AppV.rw{t ty:DX}{i:TypeInfo}{z:DZ}{A:Option Addr}{m c:Nat}{news:Ee}{K:Ea}(ht:P.underlying t=some (.slice e))(hi:P.info? e=some i)(hz:i.zero=some z)(U:i.size=size)(aa:z.cells.size=size)(ad:0<size)(h:Rw w0 w v e size n xs L)(hl:news.length=m*size)(hA:news≠[]->∃b off,A=some ⟨b,off,none⟩/\CellsAt w b off news)(h1:∀u∈news,u.oneCell'=true)(hb:(n+m)*i.bytes<=140737488355328)(af:n+m<=140737488355328)(hk:∀V W w',Rw w0 w' (.slice V (n+m) W) e size (n+m) (xs++news) L->K (.slice V (n+m) W) w'):AppV P #[t,t] ty v (.slice A m c) w K:=by
 cases A with
 | none=>
  have hn:news=[]:=by
   simp_all
  subst hn;have hm:m=0:=by
   grind [Nat.mul_eq_zero]
  subst hm;obtain⟨V,W,rfl⟩:=h.slice;refine⟨_,w,?_,hk V W w (by simpa using h)⟩
  rcases h.own.2 with⟨e1,e2⟩|⟨g,ag,cur,e1,_,_,ae,_⟩
  ·cases e1;simp[Builtin.append_,run_underlying ht,sizeOf,typeInfo,hi,Builtin.lenOf,Builtin.firstCells]
  ·cases e1;simp[Builtin.append_,run_underlying ht,sizeOf,typeInfo,hi,Builtin.lenOf,Builtin.firstCells,ae,storeCells]
 | some a=>
  have H:∀j u,news[j]?=some u->w.cell? (a.add j)=some u:=by
   intro j u hu;obtain⟨b,off,h0,h1⟩:=hA (by grind);cases h0;rw[qas];exact h1 j u hu
  obtain⟨v',w',Z,h2,h3,_,h5⟩:=run_append_own_at (P:=P) w w0.heap.size t ty e i z size i.bytes ht hi hz U rfl aa ad v n xs h.own a m c news hl H h1 (by grind [maxLen]) hb h.mem.ext.size;have hR:Rw w0 w' v' e size (n+m) (xs++news) L:=by
   refine⟨h.grown h3 (λk hk=>⟨(h.own.lt k hk).1,λx hx e=>h.apart x hx (by rw[hk,e])⟩),h2,λx hx=>?_⟩
   rcases h5 with h5|h5<;>rw[h5]
   ·exact h.apart x hx
   ·intro e;have:=h.mem.lt (b:=x.1) (o:=x.2) hx
    simp_all
  obtain⟨V,W,rfl⟩:=hR.slice;exact⟨_,w',Z,(by grind)⟩
end
end V
end Go.Proofs.YtccmcfpmknpccaaGreatDoor
