/- Lemmas and contracts of functions on the way to the law's card (part 1 of 16). -/
import Derived.Test.YtccmcfpmknpccaaGreatDoorProg
import Derived.WalkKit
import Derived.WalkSpells
import Derived.StillTactics
import Derived.Lib.Hide
import Derived.IntWalk
import Derived.Still
import Derived.Scope
import Derived.Maps.AppendAt
import Derived.Lib.AppendStr
namespace Go.Proofs.YtccmcfpmknpccaaGreatDoor
open Go.RowKit
abbrev Aa:=@List.mem_append_right
abbrev Ab:=@if_neg
abbrev Ac:=@List.mem_singleton
abbrev Ad:=@List.getElem?_eq_some_iff
abbrev Ae:=@congrArg
abbrev Af:=@if_pos
abbrev Ag:=@List.getD_eq_getElem?_getD
abbrev Am:=@List.mem_append_left
abbrev An:=@Nat.zero_le
abbrev Ao:=@Nat.le_refl
abbrev Aq:=@Nat.zero_add
abbrev Ar:=@List.getElem?_map
abbrev As:=@List.perm_append_comm
abbrev Au:=@List.append_assoc
abbrev Aw:=@List.mem_cons
abbrev Ax:=@List.drop_drop
abbrev Ay:=@List.take_of_length_le
abbrev Az:=@List.getElem?_toArray
abbrev A4:=@List.length_take
abbrev A6:=@Nat.le_trans
abbrev AB:=@Bool.and_eq_true
abbrev AC:=@List.length_map
abbrev AD:=@List.mem_cons_self
abbrev AE:=@Nat.lt_of_lt_of_le
abbrev AF:=@List.map_cons
abbrev AG:=@List.mem_map
abbrev AH:=@List.length_cons
abbrev AI:=@decide_eq_true
abbrev AJ:=@List.mem_append
abbrev AK:=@List.eq_nil_of_length_eq_zero
abbrev AM:=@Nat.lt_or_ge
abbrev AN:=@Option.some.injEq
abbrev AP:=@List.getElem_mem
abbrev AQ:=@Nat.pow_le_pow_right
abbrev AR:=@Nat.eq_of_beq_eq_true
abbrev AS:=@List.getElem?_eq_none
abbrev AT:=@List.getElem?_set_self
abbrev AU:=@Option.map_some
abbrev AV:=@List.pairwise_cons
abbrev AW:=@List.mem_iff_getElem?
abbrev AX:=@List.cons_lt_cons_iff
abbrev AY:=@List.drop_eq_nil_of_le
abbrev AZ:=@decide_eq_false
abbrev Ba:=@List.map_append
abbrev Bb:=@List.getElem?_append_left
abbrev Bc:=@List.getElem?_cons_zero
abbrev Bd:=@Nat.mul_le_mul_right
abbrev Be:=@List.getElem?_append_right
abbrev Bf:=@List.take_succ_eq_append_getElem
abbrev Bg:=@Option.some.inj
abbrev Bh:=@Bool.eq_iff_iff
abbrev Bi:=@Nat.min_eq_left
abbrev Bj:=@List.pairwise_iff_getElem
abbrev Bk:=@List.ext_getElem?
abbrev Bl:=@Nat.add_sub_cancel
abbrev Bm:=@List.perm_middle
abbrev Bn:=@List.getElem?_take
abbrev Bo:=@List.mem_filter
abbrev Bp:=@List.drop_eq_getElem_cons
abbrev Bq:=@Nat.add_zero
abbrev Br:=@List.sublist_cons_self
abbrev Bs:=@Array.toList_inj
abbrev Bt:=@List.nil_append
abbrev Bu:=@List.take_add_one
abbrev Bv:=@List.length_singleton
abbrev Bw:=@Nat.mul_one
abbrev Bx:=@List.take_append_of_le_length
abbrev By:=@List.append_nil
abbrev Bz:=@Nat.mul_le_mul
abbrev B0:=@Nat.eq_zero_or_pos
abbrev B4:=@List.take_append_drop
abbrev B6:=@List.getElem?_range
abbrev B7:=@List.mem_range
abbrev B8:=@List.drop_zero
abbrev B9:=@Decidable.not_not
abbrev BA:=@Option.some_get
abbrev BB:=@List.take_length
abbrev BC:=@of_decide_eq_true
abbrev BD:=@Nat.lt_of_le_of_lt
abbrev BE:=@Nat.sub_add_cancel
abbrev BF:=@List.perm_append_singleton
abbrev BG:=@List.cons_append
abbrev BH:=@List.not_mem_nil
abbrev BI:=@Classical.byContradiction
abbrev BJ:=@List.drop_append_of_le_length
abbrev BK:=@List.mem_iff_getElem
abbrev BL:=@Nat.add_sub_cancel_left
abbrev BM:=@Array.getD_eq_getD_getElem?
abbrev BN:=@Nat.mul_comm
abbrev BO:=@Array.getElem?_eq_some_iff
abbrev BP:=@List.getElem?_set
abbrev BQ:=@Array.toList_setIfInBounds
abbrev BR:=@List.flatten_cons
abbrev BT:=@Array.getElem?_eq_getElem
abbrev BU:=@List.all_eq_true
abbrev BV:=@List.pairwise_singleton
abbrev BW:=@Classical.em
abbrev BX:=@Nat.le_succ
abbrev BY:=@Option.getD_some
abbrev BZ:=@Nat.mod_eq_of_lt
abbrev Ca:=@Nat.lt_succ_self
abbrev Cb:=@Nat.mod_lt
abbrev Cc:=@List.getElem?_drop
abbrev Cd:=@Nat.le_of_ble_eq_true
abbrev Ce:=@List.mem_or_eq_of_mem_set
abbrev Cf:=@Nat.not_lt_zero
abbrev Cg:=@List.range_succ
abbrev Ch:=@Nat.succ_mul
abbrev Ci:=@List.size_toArray
abbrev Cj:=@List.pairwise_append
abbrev Ck:=@Classical.not_not
abbrev Cl:=@List.map_congr_left
abbrev Cm:=@List.flatten_append
abbrev Cn:=@List.getElem?_cons_succ
abbrev Co:=@Option.map_eq_some_iff
abbrev Cp:=@List.map_nil
abbrev Cq:=@Array.getElem?_eq_none
abbrev Cr:=@Nat.div_div_eq_div_mul
abbrev Cs:=@Array.getElem?_toList
abbrev Ct:=@Bool.not_eq_true'
abbrev Cu:=@List.mem_of_getElem?
abbrev Cv:=@List.mem_cons_of_mem
abbrev Cw:=@Nat.sub_self
abbrev Cx:=@List.set_set
abbrev Cy:=@Array.mapM_eq_mapM_toList
abbrev Cz:=@Decidable.byContradiction
abbrev C0:=@List.getElem?_eq_getElem
abbrev C1:=@Nat.add_assoc
abbrev C2:=@List.map_take
abbrev C3:=@List.nodup_cons
abbrev C4:=@List.length_nil
abbrev C5:=@Int.natCast_mul
abbrev C6:=@List.length_set
abbrev C7:=@Bool.or_eq_true
abbrev C8:=@beq_iff_eq
abbrev C9:=@UInt8.toNat_ofNat'
abbrev CA:=@Nat.eq_or_lt_of_le
abbrev CB:=@Bool.eq_false_iff
abbrev CD:=@List.take_zero
abbrev CE:=@ByteArray.size_extract
abbrev CF:=@Nat.add_comm
abbrev CG:=@List.getElem_cons_zero
abbrev CH:=@List.getElem_cons_succ
abbrev CI:=@Nat.lt_trichotomy
abbrev CJ:=@Array.mem_of_getElem?
abbrev CK:=@Array.getElem?_modify
abbrev CL:=@List.eq_nil_iff_forall_not_mem
abbrev CM:=@Nat.zero_lt_succ
abbrev CN:=@Nat.div_eq_of_lt
abbrev CO:=@Nat.not_lt
abbrev CP:=@List.sum_cons
abbrev CQ:=@Bool.or_eq_false_iff
abbrev CR:=@Nat.div_le_self
abbrev CS:=@List.mem_filterMap
abbrev CT:=@List.take_left
abbrev CU:=@Int.toNat_natCast
abbrev CV:=@List.filter_congr
abbrev CW:=@Bool.false_or
abbrev CX:=@Nat.lt_irrefl
abbrev CY:=@Bool.not_eq_true
abbrev CZ:=@List.getElem_map
abbrev Da:=@Nat.pow_succ
abbrev Db:=@Bool.or_true
abbrev Dc:=@Int.lt_or_le
abbrev Dd:=World
abbrev De:=ByteArray
abbrev Df:=Program
abbrev Dg:=TypeId
abbrev Dh:=UInt8
abbrev Di:=Value
abbrev Dj:=Value→World→Prop
abbrev Dk:=Nat→Value
abbrev Dl:=World→Prop
abbrev Dm:=List (Nat×Obj)
abbrev Dn:=List Value
abbrev Do:=List Nat
noncomputable abbrev Dp:=Tryz.prog
abbrev Dq:=Array Value
abbrev Dr:=List Deferred
theorem fq{p:Prop}(e:p:=by(repeat' first|exact trivial|refine And.intro rfl ?_)):p:=e
theorem Oo{p:Prop}(e:p:=by omega):p:=e
theorem Jk{p:Prop}(e:p:=by kernel_rfl):p:=e
theorem Od{p:Prop}(e:p:=by decide):p:=e
theorem Js{p:Prop}(e:p:=by simp):p:=e
theorem Ys{p:Prop}(e:p:=by(simp;omega)):p:=e
theorem Oa{p:Prop}(e:p:=by assumption):p:=e
theorem mh{H:Type}{a:H}{l:List H}:a∈a::l:=AD ..
abbrev LB:=List Dh
abbrev oA:=Option Addr
abbrev ii(n:Int):Di:=.int .i64 n
abbrev pp(b:Nat):Di:=.pointer (some ⟨b,0,none⟩)
variable {a b c i id j m off r:Nat} {ρ:Dk} {p q:Prop} {P:Df} {w w' w0:Dd} {xo yo:Operand} {x y:Di} {K R:Dj} {o oj:Oper} {mx:Option Di} {f:FuncId} {vs:Dn} {ty:Dg} {ops:Array Oper} {Q':Exit->Act->Dl} {body:Code} {o':Obj} {cs cur:Dq} {fr:Nat×Nat} {L L':Dm}
theorem zge{H:Type}{l:List H}(h:i<l.length):l[i]?=some l[i]:=C0 h
theorem zld{H:Type}{l:List H}:(l.drop i).length=l.length-i:=List.length_drop ..
theorem zla{H:Type}{l m:List H}:(l++m).length=l.length+m.length:=List.length_append ..
theorem znr{n:Nat}:n<=n:=Ao _
theorem zmg{H:Type}{l:List H}{a:H}(h:l[i]?=some a):a∈l:=Cu h
theorem zmc{H:Type}{a y:H}{l:List H}(h:a∈l):a∈y::l:=Cv _ h
namespace V
def upd(ρ:Dk)(d:Nat)(v:Di):Nat->Di:=λt=>bif Nat.beq t d then v else ρ t
def ev(ρ:Dk):Operand->Di
 | .tmp t=>ρ t
 | .const v=>v
 | .global g=>.pointer (some ⟨g,0,none⟩)
 | .func f=>.func (.func f) #[] #[]
def qb5:Di->Bool
 | .agg _ | .tuple _=>false
 | _=>true
structure St(n:Nat)(ρ:Dk)(a:Act):Prop where
 size:a.tmps.size=n
 get:∀t,a.tmps.getD t undef=ρ t
 defers:a.defers=[]
theorem St.eval{n:Nat}{a:Act}(h:St n ρ a):a.eval=ev ρ:=by
 funext x;cases x<;>simp[Act.eval,ev,h.get]
theorem St.put{n:Nat}{a:Act}(h:St n ρ a){d:Nat}(O:d<n)(v:Di):St n (upd ρ d v) (a.put (some d) v):=by
 refine⟨by simp[Act.put,h.size],λt=>?_,by simp[Act.put,h.defers]⟩;have H:=h.get t;have U:=h.size;simp only[Act.put,upd,BM]at H|-
 by_cases e:t=d
 ·simp_all
 grind [Nat.eq_of_beq_eq_true]
theorem St.same{n:Nat}{a:Act}(h:St n ρ a){d:Nat}{v:Di}(H:ρ d=v):St n (upd ρ d v) a:=by
 refine⟨h.size,λt=>?_,h.defers⟩;rw[h.get]
 grind [upd,Nat.eq_of_beq_eq_true]
structure Tst(b:Bool)(p q:Prop):Prop where
 t:b=true->p
 f:b=false->q
theorem Tst.tt(h:p):Tst true p q:=⟨λ_=>h,Js⟩
theorem Tst.ff(h:q):Tst false p q:=⟨Js,λ_=>h⟩
theorem Tst.dec{c:Prop}[Decidable c](H:c->p)(O:¬c->q):Tst (decide c) p q:=⟨(by grind),(by grind)⟩
theorem Tst.not{b:Bool}(h:Tst b q p):Tst (!b) p q:=⟨λe=>h.f (by simpa using e),λe=>h.t (by simpa using e)⟩
theorem Tst.beqT{b c:Bool}(h:Tst b p q)(H:c=true:=by rfl):Tst (b==c) p q:=by subst H;cases b<;>exact h
theorem Tst.beqF{b c:Bool}(h:Tst b q p)(H:c=false:=by rfl):Tst (b==c) p q:=by
 subst H;cases b
 ·exact⟨λ_=>h.f rfl,Js⟩
 ·exact⟨Js,λ_=>h.t rfl⟩
theorem Tst.iff(c:Prop){b:Bool}(H:b=true↔c)(O:c->p)(U:¬c->q):Tst b p q:=⟨(by grind),(by grind)⟩
theorem Tst.yes{b:Bool}(H:b=true)(h:p):Tst b p q:=⟨λ_=>h,(by grind)⟩
theorem Tst.no{b:Bool}(H:b=false)(h:q):Tst b p q:=⟨(by grind),λ_=>h⟩
theorem Tst.both{b:Bool}(H:b=true->p)(O:b=false->q):Tst b p q:=⟨H,O⟩
structure Obl(p k:Prop):Prop where
 o:p
 k:k
structure Wit{α:Type}(p:α->Prop)(K:α->Prop):Prop where
 h:∃x,p x/\K x
def qcm(P:Df)(f:FuncId):Bool:=
 match P.funcs[f]? with
 | some O => !(O.name== "runtime.NumGoroutine")&&O.body.isSome
 | none=>false
def Gv(P:Df)(f:FuncId)(args:Dn)(w:Dd)(R:Dj):Prop:=
 qcm P f=true/\Calls P f args.toArray w λe w'=>∃v,e=.returned v/\R v w'
structure RunV(P:Df)(s:Sem Di)(w:Dd)(K:Dj):Prop where
 h:∃v w',s.run P w=.ok v w'/\K v w'
structure Fall(P:Df)(s:Sem Next)(w:Dd)(K:Dj):Prop where
 h:(∃v w',s.run P w=.ok (.value v) w'/\K v w')\/(∃w',s.run P w=.ok .skip w'/\K undef w')
structure LoadV(w:Dd)(b off:Nat)(K:Di->Prop):Prop where
 h:∃v,w.cell? ⟨b,off,none⟩=some v/\K v
structure LoadA(w:Dd)(b off size:Nat)(K:Dn->Prop):Prop where
 h:∃cs:Dn,cs.length=size/\(∀i,i<size->w.cell? ⟨b,off+i,none⟩=cs[i]?)/\K cs
structure StoreV(w:Dd)(b off:Nat)(v:Di)(K:Dl):Prop where
 h:(∃o,w.cell? ⟨b,off,none⟩=some o)/\w.frozen? ⟨b,off,none⟩=false/\qb5 v=true/\K (w.setCell ⟨b,off,none⟩ v)
structure StoreA(P:Df)(w:Dd)(b off:Nat)(vs:Dn)(K:Dl):Prop where
 h:∃w',(storeCells ⟨b,off,none⟩ vs).run P w=.ok () w'/\K w'
structure AppV(P:Df)(argTypes:Array Dg)(ty:Dg)(s x:Di)(w:Dd)(K:Dj):Prop where
 h:∃v w',(Builtin.append_ argTypes ty #[s,x]).run P w=.ok v w'/\K v w'
structure NewV(w:Dd)(o:Obj)(K:Nat->Dl):Prop where
 h:∀b w',b=w.heap.size->w'=w.alloc o->K b w'
structure ElemV(A:Option Addr)(i:Int)(len size:Nat)(K:Di->Prop):Prop where
 h:∃(b off j:Nat),A=some ⟨b,off,none⟩/\i=(j:Int)/\j<len/\K (.pointer (some ⟨b,off+j*size,none⟩))
structure LoopV(P:Df)(n:Nat)(body:Code)(Q:Exit->Dk->Dl)(ρ:Dk)(w:Dd):Prop where
 h:∀a,St n ρ a->(Code.loop body).wp P (λe a' w'=>∃ρ',St n ρ' a'/\Q e ρ' w') a w
structure DrawV(P:Df)(n id:Nat)(ops:Array Oper)(Q:Exit->Dk->Dl)(ρ:Dk)(w:Dd):Prop where
 h:∀a,St n ρ a->(Code.region id ops true).wp P (λe a' w'=>∃ρ',St n ρ' a'/\Q e ρ' w') a w
structure CodeV(P:Df)(n:Nat)(c:Code)(Q:Exit->Dk->Dl)(ρ:Dk)(w:Dd):Prop where
 h:∀a,St n ρ a->c.wp P (λe a' w'=>∃ρ',St n ρ' a'/\Q e ρ' w') a w
def InR(k:IntKind)(n:Int):Prop:=
 match k with
 | .i64=>-9223372036854775808<=n/\n<=9223372036854775807
 | .i32=>-2147483648<=n/\n<=2147483647
 | .i16=>-32768<=n/\n<=32767
 | .i8=>-128<=n/\n<=127
 | .u64=>0<=n/\n<=18446744073709551615
 | .u32=>0<=n/\n<=4294967295
 | .u16=>0<=n/\n<=65535
 | .u8=>0<=n/\n<=255
def eqk:IntKind->IntKind->Bool
 | .i64,.i64 | .i32,.i32 | .i16,.i16 | .i8,.i8 | .u64,.u64 | .u32,.u32 | .u16,.u16 | .u8,.u8=>true
 | _,_=>false
theorem qaba{k j:IntKind}(h:eqk k j=true):k=j:=by cases k<;>cases j<;>first|rfl|cases h
def gb(s:De)(k:Nat):Dh:=s.data.toList.getD k 0
def seq(x y:De):Bool:=x.data==y.data
def slt(x y:De):Bool:=Op.bytesLess x.toList y.toList
def qdp(H:BinOp)(k:IntKind)(x y:Int):Int:=
 let a:=BitVec.ofInt k.bits x
 let b:=BitVec.ofInt k.bits y
 match H with
 | .and=>k.wrap (a &&&b).toNat
 | .or=>k.wrap (a |||b).toNat
 | .xor=>k.wrap (a ^^^ b).toNat
 | _=>k.wrap (a &&& ~~~b).toNat
def qgv(v:Di)(K:Di->Prop):Prop:=
 match v with
 | .bool b=>K (.bool b)
 | .int k n=>K (.int k n)
 | .float k n=>K (.float k n)
 | .complex k a b=>K (.complex k a b)
 | .string s=>K (.string s)
 | .pointer a=>K (.pointer a)
 | .slice a l c=>K (.slice a l c)
 | .map r=>K (.map r)
 | .chan r=>K (.chan r)
 | .func f a c=>K (.func f a c)
 | .nilFunc=>K .nilFunc
 | .iface t v=>K (.iface t v)
 | .nilIface=>K .nilIface
 | .agg cs=>K (.agg cs)
 | .tuple vs=>K (.tuple vs)
theorem qbb(v:Di)(K:Di->Prop):qgv v K=K v:=by cases v<;>rfl
def qbx:Dn->(Dn->Prop)->Prop
 | [],K=>K []
 | v::l,K=>qgv v λu=>qbx l λr=>K (u::r)
theorem qan(l:Dn):∀K:Dn->Prop,qbx l K=K l:=by
 induction l<;>grind [qbx,qbb]
def evs(ρ:Dk):List Operand->Dn
 | []=>[]
 | x::l=>ev ρ x::evs ρ l
theorem qcz(ρ:Dk)(l:List Operand):evs ρ l=l.map (ev ρ):=by induction l<;>simp[evs, *]
def setL:Dn->Nat->Di->Dn
 | [],_,_=>[]
 | _::l,0,v=>v::l
 | x::l,i+1,v=>x::setL l i v
theorem q9u(l:Dn)(i:Nat)(v:Di):setL l i v=l.set i v:=by
 induction l generalizing i with
 | nil=>rfl
 | cons x l H=>cases i<;>simp[setL,H]
def qe8:Operand->Bool
 | .const _=>true
 | _=>false
def isEq:BinOp->Bool
 | .eql | .neq=>true
 | _=>false
def eqOp:BinOp->Bool
 | .eql=>true
 | _=>false
def qi8(P:Df)(t:Dg)(xo yo:Operand)(x y:Di):Option Bool:=
 match x,y with
 | .pointer none,.pointer b=>match P.underlying t with|some (.pointer _)=>some b.isNone|_=>none
 | .pointer (some _),.pointer none=>match P.underlying t with|some (.pointer _)=>some false|_=>none
 | .slice none _ _,.slice b _ _=>match P.underlying t with|some (.slice _)=>some b.isNone|_=>none
 | .slice (some _) _ _,.slice none _ _=>match P.underlying t with|some (.slice _)=>some false|_=>none
 | .nilIface,.nilIface=>match P.underlying t with|some (.interface _)=>(bif qe8 xo||qe8 yo then some true else none)|_=>none
 | .nilIface,.iface _ _=>match P.underlying t with|some (.interface _)=>some false|_=>none
 | .iface _ _,.nilIface=>match P.underlying t with|some (.interface _)=>some false|_=>none
 | _,_=>none
def binV(P:Df)(H:BinOp)(t:Dg)(xo yo:Operand)(x y:Di)(w:Dd)(K:Di->Prop)(O:Dj):Prop:=
 match x,y with
 | .int k a,.int U b=>
  match H with
  | .shl=>Wit (λr=>0<=b/\b<k.bits/\k.wrap (a*2 ^ b.toNat)=r) (λr=>K (.int k r))
  | .shr=>Wit (λr=>0<=b/\b<k.bits/\a/2 ^ b.toNat=r) (λr=>K (.int k r))
  | _=>bif eqk k U then
   match H with
   | .add=>Obl (InR k (a+b)) (K (.int k (a+b)))
   | .sub=>Obl (InR k (a-b)) (K (.int k (a-b)))
   | .mul=>Obl (InR k (a*b)) (K (.int k (a*b)))
   | .quo=>Obl (0<=a/\0<b/\InR k (a/b)) (K (.int k (a/b)))
   | .rem=>Obl (0<=a/\0<b) (K (.int k (a%b)))
   | .eql=>K (.bool (decide (a=b)))
   | .neq=>K (.bool (decide (a≠b)))
   | .lss=>K (.bool (decide (a<b)))
   | .leq=>K (.bool (decide (a<=b)))
   | .gtr=>K (.bool (decide (b<a)))
   | .geq=>K (.bool (decide (b<=a)))
   | _=>Wit (λr=>qdp H k a b=r) (λr=>K (.int k r))
   else False
 | .string a,.string b=>
  match H with
  | .add=>Obl (a.size+b.size<=9223372036854775807) (K (.string (a++b)))
  | .eql=>K (.bool (seq a b))
  | .neq=>K (.bool (!seq a b))
  | .lss=>K (.bool (slt a b))
  | .leq=>K (.bool (slt a b||seq a b))
  | .gtr=>K (.bool (!(slt a b||seq a b)))
  | .geq=>K (.bool (!slt a b))
  | _=>False
 | .bool a,.bool b=>
  match H,P.underlying t with
  | .eql,some .bool=>K (.bool (a==b))
  | .neq,some .bool=>K (.bool (!(a==b)))
  | _,_=>False
 | x,y=>bif isEq H then(match qi8 P t xo yo x y with|some b=>K (.bool (bif eqOp H then b else !b))|none=>RunV P (do eqGuard H t xo yo x y;binOp H t x y) w O)else RunV P (do eqGuard H t xo yo x y;binOp H t x y) w O
theorem qj7(a b:De):(a.toList==b.toList)=seq a b:=by
 grind [seq,ByteArray.toList_eq,Array.toList_inj]
theorem qa6{a b:De}:seq a b=true↔a=b:=by
 unfold seq;rw[C8];cases a;cases b;simp
theorem qoq{a b:De}:seq a b=false↔a≠b:=by
 grind [qa6]
theorem Tst.seq{a b:De}{p q:Prop}(H:a=b->p)(O:a≠b->q):Tst (seq a b) p q:=⟨λe=>H (qa6.1 e),λe=>O (qoq.1 e)⟩
theorem InR.wrap{k:IntKind}{n:Int}(h:InR k n):k.wrap n=n:=by
 cases k<;>obtain⟨H,O⟩:=h<;>simp[IntKind.bits,IntKind.signed,IntKind.wrap]<;>(try split)<;>omega
theorem qb9{k:IntKind}{a b:Int}{H:BinOp}(t:Dg)(xo yo:Operand)(h:H=.and\/H=.or\/H=.xor\/H=.andNot):
  (do eqGuard H t xo yo (.int k a) (.int k b);binOp H t (.int k a) (.int k b):Sem Di).run P w=.ok (.int k (qdp H k a b)) w:=by
 rcases h with rfl|rfl|rfl|rfl<;>simp[eqGuard,binOp,Op.intBits,qdp,go_sem]<;>rfl
theorem qh4{t:Dg}{a b:Bool}(d:Nat)(H:P.underlying t=some .bool):
  (Op.equalIn (d+1) t (.bool a) (.bool b)).run P w=.ok (a==b) w:=by
 simp[Op.equalIn,run_underlying H]
theorem qe3{t:Dg}{a b:Bool}(H:P.underlying t=some .bool):
  (Op.equal t (.bool a) (.bool b)).run P w=.ok (a==b) w:=qh4 9999 H
theorem qjf{t:Dg}{b:Bool}(d:Nat)(h:qi8 P t xo yo x y=some b):(Op.equalIn (d+1) t x y).run P w=.ok b w:=by
 unfold qi8 at h
 split at h
 ·split at h
  all_goals simp_all[Op.equalIn,run_underlying]
 ·split at h
  all_goals simp_all[Op.equalIn,run_underlying]
 ·split at h
  ·rename_i H;cases h;simp[Op.equalIn,run_underlying H]
  ·cases h
 ·split at h
  ·rename_i H;cases h;simp[Op.equalIn,run_underlying H]
  ·cases h
 ·split at h
  ·rename_i H
   cases O:qe8 xo||qe8 yo<;>rw[O]at h
   all_goals simp_all[Op.equalIn,run_underlying]
  ·cases h
 ·split at h
  all_goals simp_all[Op.equalIn,run_underlying]
 ·split at h
  all_goals simp_all[Op.equalIn,run_underlying]
 ·cases h
theorem qje{t:Dg}{b:Bool}{op:BinOp}(h:qi8 P t xo yo x y=some b):(eqGuard op t xo yo x y).run P w=.ok () w:=by
 unfold qi8 at h
 split at h
 all_goals try (cases op<;>simp[eqGuard];done)
 ·split at h
  ·cases H:qe8 xo||qe8 yo<;>rw[H]at h
   ·cases h
   ·cases op<;>cases xo<;>cases yo<;>simp_all[eqGuard,qe8]
  ·cases h
 ·cases h
theorem q9p{t:Dg}{b:Bool}{H:BinOp}(W:isEq H=true)(h:qi8 P t xo yo x y=some b)(Z:∀k a,x≠.int k a)(h2:∀a,x≠.string a)(h3:∀a,x≠.bool a):
  (do eqGuard H t xo yo x y;binOp H t x y:Sem Di).run P w=.ok (.bool (bif eqOp H then b else !b)) w:=by
 have O:=qje (w:=w) (op:=H) h;have U:=qjf (w:=w) 9999 h;cases H<;>first|(cases W;done)|skip
 ·unfold qi8 at h;cases x<;>cases y<;>first|(cases h;done)|(simp[O,binOp,Op.equal,Op.maxDepth,U,eqOp])
 ·unfold qi8 at h;cases x<;>cases y<;>first|(cases h;done)|(simp[O,binOp,Op.equal,Op.maxDepth,U,eqOp])
theorem qub{O:BinOp}{t:Dg}(h:binV P O t xo yo x y w (λv=>K v w) K):
  ∃v w',(do eqGuard O t xo yo x y;binOp O t x y:Sem Di).run P w=.ok v w'/\K v w':=by
 unfold binV at h
 split at h
 ·rename_i k a k' b
  have Z:O≠.shl->O≠.shr->eqk k k'=true:=by
   grind
  cases O<;>simp only at h
  case shl=>
   obtain⟨r,⟨h0,W,rfl⟩,H⟩:=h;refine⟨_,w,?_,H⟩;have e:¬b<0:=by omega
   have e2:min b.toNat k.bits=b.toNat:=by omega
   have es:Op.shift .shl k a k' b=pure (.int k (k.wrap (a*2 ^ b.toNat))):=by grind [Op.shift]
   simp_all[eqGuard,binOp]
  case shr=>
   obtain⟨r,⟨h0,W,rfl⟩,H⟩:=h;refine⟨_,w,?_,H⟩;have e:¬b<0:=by omega
   have e2:min b.toNat k.bits=b.toNat:=by omega
   have e3:a.fdiv (2 ^ b.toNat)=a/2 ^ b.toNat:=(by grind)
   have es:Op.shift .shr k a k' b=pure (.int k (a/2 ^ b.toNat)):=by grind [Op.shift]
   simp_all[eqGuard,binOp]
  all_goals(obtain rfl:=qaba (Z Js Js);rw[Z Js Js]at h;simp only[cond_true]at h)
  case add=>obtain⟨U,H⟩:=h;exact⟨_,w,by simp[eqGuard,binOp,Op.intArith,go_sem,U.wrap],H⟩
  case sub=>obtain⟨U,H⟩:=h;exact⟨_,w,by simp[eqGuard,binOp,Op.intArith,go_sem,U.wrap],H⟩
  case mul=>obtain⟨U,H⟩:=h;exact⟨_,w,by simp[eqGuard,binOp,Op.intArith,go_sem,U.wrap],H⟩
  case quo=>
   obtain⟨⟨h0,W,U⟩,H⟩:=h;refine⟨_,w,?_,H⟩;have e:b≠0:=by omega
   have e2:a.tdiv b=a/b:=(by grind)
   simp[eqGuard,binOp,Op.intDiv,go_sem,e,e2,U.wrap]
  case rem=>
   obtain⟨⟨h0,W⟩,H⟩:=h;refine⟨_,w,?_,H⟩;have e:b≠0:=by omega
   simp_all[Int.tmod_eq_emod_of_nonneg,eqGuard,binOp,Op.intDiv]
  case and=>obtain⟨r,rfl,H⟩:=h;grind [qb9]
  case or=>obtain⟨r,rfl,H⟩:=h;grind [qb9]
  case xor=>obtain⟨r,rfl,H⟩:=h;grind [qb9]
  case andNot=>obtain⟨r,rfl,H⟩:=h;grind [qb9]
  case eql=>
   refine⟨_,w,?_,h⟩;have e:(a==b)=decide (a=b):=rfl;simp[eqGuard,binOp,Op.intCmp,go_sem,e]
  case neq=>
   refine⟨_,w,?_,h⟩;have e:(a != b)=decide (a≠b):=by grind
   simp[eqGuard,binOp,Op.intCmp,go_sem,e]
  case lss=>exact⟨_,w,by simp[eqGuard,binOp,Op.intCmp],h⟩
  case leq=>exact⟨_,w,by simp[eqGuard,binOp,Op.intCmp],h⟩
  case gtr=>exact⟨_,w,by simp[eqGuard,binOp,Op.intCmp],h⟩
  case geq=>exact⟨_,w,by simp[eqGuard,binOp,Op.intCmp],h⟩
 ·rename_i a b
  cases O<;>simp only at h
  case add=>
   obtain⟨W,H⟩:=h;refine⟨_,w,?_,H⟩;simp[eqGuard,binOp,Op.stringOp,go_sem];omega
  case eql=>exact⟨_,w,by simp[eqGuard,binOp,Op.stringOp,qj7],h⟩
  case neq=>exact⟨_,w,by simp[eqGuard,binOp,Op.stringOp,qj7],h⟩
  case lss=>exact⟨_,w,by rfl,h⟩
  case leq=>exact⟨_,w,by simp[eqGuard,binOp,Op.stringOp,slt,qj7],h⟩
  case gtr=>exact⟨_,w,by simp[eqGuard,binOp,Op.stringOp,slt,qj7],h⟩
  case geq=>exact⟨_,w,by rfl,h⟩
 ·rename_i a b
  split at h
  ·rename_i hu
   exact⟨_,w,by simp[eqGuard,binOp,qe3 hu,go_sem],h⟩
  ·rename_i hu
   exact⟨_,w,by simp[eqGuard,binOp,qe3 hu,go_sem],h⟩
  ·exact h.elim
 ·cases ho:isEq O<;>rw[ho]at h<;>dsimp only[cond_true,cond_false]at h
  ·obtain⟨v,w',W,h2⟩:=h
   grind
  ·split at h
   ·rename_i b hb
    exact⟨_,w,q9p ho hb (by grind [qi8]) (by grind [qi8]) (by grind [qi8]),h⟩
   ·obtain⟨v,w',W,h2⟩:=h
    grind
def aggD:TypeDesc->Bool
 | .struct _ | .array _ _=>true
 | _=>false
def tsz(P:Df)(t:Dg):Nat:=match P.info? t with|some i=>i.size|none=>0
def hasT(P:Df)(t:Dg):Bool:=(P.info? t).isSome
def getL{H:Type}:List H->Nat->Option H
 | [],_=>none
 | v::_,0=>some v
 | _::l,i+1=>getL l i
theorem qav{H:Type}(l:List H)(i:Nat):getL l i=l[i]?:=by
 induction l generalizing i with
 | nil=>rfl
 | cons v l O=>cases i<;>simp[getL,O]
structure IdxV(i:Int)(n:Nat)(K:Nat->Prop):Prop where
 h:∃j:Nat,i=(j:Int)/\j<n/\K j
def OpOk2(P:Df)(s:Sem Next)(w:Dd)(K:Dj):Prop:=
 (∃v w',s.run P w=.ok (.value v) w'/\K v w')\/(∃w',s.run P w=.ok .skip w'/\K undef w')
def OpOk(P:Df)(s:Sem Next)(w:Dd)(K:Dj):Prop:=
 OpOk2 P s w K\/(∃f args,s.run P w=.ok (.enter f args) w/\Calls P f args w λe w'=>∃v,e=.returned v/\K v w')
theorem OpOk2.val{s:Sem Di}(h:∃v w',s.run P w=.ok v w'/\K v w'):
  OpOk2 P (do pure (.value (<-s))) w K:=by
 obtain⟨v,w',H,O⟩:=h;exact .inl ⟨v,w',by simp[H],O⟩
theorem OpOk2.unit{s:Sem Unit}(h:∃w',s.run P w=.ok () w'/\K undef w'):
  OpOk2 P (do s;pure .skip) w K:=by
 obtain⟨w',H,O⟩:=h;exact .inr ⟨w',by simp[H],O⟩
theorem OpOk.wp{a:Act}{next:Act->Dl}{Q:Exit->Act->Dl}(U:a.eval=ev ρ)(h:OpOk P (execOp (ev ρ) o) w K)(W:∀v w',K v w'->next (a.put o.dst v) w'):o.wp P a w next Q:=by
 unfold Oper.wp;rw[U]
 rcases h with(⟨v,w',H,O⟩|⟨w',H,O⟩)|⟨f,args,H,O⟩
 ·rw[H];exact W _ _ O
 ·rw[H];exact W _ _ O
 ·rw[H,Oper.upon_enter];refine O.mono λe w' ⟨v,U,Z⟩=>?_
  simp_all
def q87(c a b:Di)(K:Di->Prop):Prop:=
 match c with
 | .bool t=>Tst t (qgv a K) (qgv b K)
 | _=>False
def idxV(P:Df)(t:Dg)(x i:Di)(K:Di->Prop):Prop:=
 match P.underlying t,x,i with
 | some .string,.string s,.int _ i=>IdxV i s.size λj=>K (.int .u8 (gb s j).toNat)
 | some (.array n e),.agg cs,.int _ i=>
  match P.underlying e with
  | some d=>bif hasT P e then bif aggD d then IdxV i n λj=>Wit (λl:Dn=>(cs.toList.drop (j*tsz P e)).take (tsz P e)=l) λl=>K (.agg l.toArray)
   else IdxV i n λj=>Wit (λv:Di=>cs.toList[j*tsz P e]?=some v) K else False
  | none=>False
 | _,_,_=>False
def qlz(P:Df)(t:Dg)(x i:Di)(K:Di->Prop):Prop:=
 match P.underlying t,x,i with
 | some (.slice e),.slice A H _,.int _ i=>bif hasT P e then ElemV A i H (tsz P e) K else False
 | some (.array n e),.pointer (some ⟨b,off,none⟩),.int _ i=>bif hasT P e then IdxV i n λj=>K (.pointer (some ⟨b,off+j*tsz P e,none⟩))else False
 | _,_,_=>False
def qus(P:Df)(t:Dg)(x:Di)(w:Dd)(K:Di->Prop):Prop:=
 match P.underlying t,x with
 | some d,.pointer (some ⟨b,off,none⟩)=>
  bif aggD d then bif hasT P t then LoadA w b off (tsz P t) λcs=>qbx cs λl=>K (.agg l.toArray)else False
  else LoadV w b off λv=>qgv v K
 | _,_=>False
def q00(P:Df)(t:Dg)(x v:Di)(w:Dd)(s:Sem Next)(K:Dj):Prop:=
 match x with
 | .pointer (some ⟨b,off,none⟩)=>
  match v with
  | .tuple _=>Fall P s w K
  | .agg cs=>bif hasT P t&&Nat.beq (tsz P t) cs.toList.length then StoreA P w b off cs.toList λw'=>K undef w' else False
  | v=>bif hasT P t&&Nat.beq (tsz P t) 1 then StoreV w b off v λw'=>K undef w' else False
 | _=>False
def qlr(x:Di)(H:Nat)(K:Di->Prop):Prop:=
 match x with
 | .tuple vs=>match getL vs.toList H with
  | some v=>qgv v K
  | none=>False
 | _=>False
def qgs(P:Df)(t:Dg)(x:Di)(f:Nat)(K:Di->Prop):Prop:=
 match P.underlying t,x with
 | some (.struct H),.pointer (some ⟨b,off,none⟩)=>
  match getL H.toList f with
  | some f=>bif hasT P f.type && !Nat.beq (tsz P f.type) 0 then K (.pointer (some ⟨b,off+f.offset,none⟩))else False
  | none=>False
 | _,_=>False
def qxp(P:Df)(t:Dg)(x:Di)(f:Nat)(K:Di->Prop):Prop:=
 match P.underlying t,x with
 | some (.struct H),.agg cs=>
  match getL H.toList f with
  | some f=>match P.underlying f.type with
   | some d=>bif aggD d then bif hasT P f.type then qbx ((cs.toList.drop f.offset).take (tsz P f.type)) λl=>K (.agg l.toArray)else False
    else match getL cs.toList f.offset with
     | some v=>qgv v K
     | none=>False
   | none=>False
  | none=>False
 | _,_=>False
def boxV(t:Dg)(v:Di)(w:Dd)(K:Dj):Prop:=
 qbx v.cells.toList λl=>NewV w (.cells l.toArray t) λb w'=>K (.pointer (some ⟨b,0,none⟩)) w'
def qwl(P:Df)(t:Dg)(w:Dd)(K:Dj):Prop:=
 match P.info? t with
 | some i=>match i.zero with
  | some z=>boxV t z w K
  | none=>False
 | none=>False
def CellsAt(w:Dd)(b off:Nat)(vs:Dn):Prop:=∀k v,vs[k]?=some v->w.cell? ⟨b,off+k,none⟩=some v
def byteCells(l:List Dh):Dn:=l.map λc=>.int .u8 c.toNat
structure BytesS(w:Dd)(A:Option Addr)(n:Nat)(K:Di->Prop):Prop where
 h:∃l:List Dh,l.length=n/\(l≠[]->∃b off,A=some ⟨b,off,none⟩/\CellsAt w b off (byteCells l))/\K (.string ⟨l.toArray⟩)
structure NewBytesV(s:De)(e:Dg)(w:Dd)(K:Dj):Prop where
 h:∀cap cs b w',s.size<=cap->cs=(byteCells s.data.toList++List.replicate (cap-s.size) (Value.int .u8 0)).toArray->b=w.heap.size->
  w'=w.drew.alloc (.cells cs e (cs.size,cs.size+1))->K (.slice (some ⟨b,0,none⟩) s.size cap) w'
def q7l(P:Df)(H O:Dg)(x:Di)(w:Dd)(s:Sem Next)(K:Dj):Prop:=
 match P.underlying H,P.underlying O,x with
 | some _,some (.int k),.int _ n=>Wit (λr=>k.wrap n=r) λr=>K (.int k r) w
 | some .string,some .string,.string s=>K (.string s) w
 | some (.int _),some .string,.int _ n=>K (.string (Utf8.encode n)) w
 | some (.slice e),some .string,.slice A n _=>match P.underlying e with
  | some (.int .u8)=>BytesS w A n λv=>K v w
  | _=>Fall P s w K
 | some .string,some (.slice e),.string x=>match P.underlying e with
  | some (.int .u8)=>NewBytesV x e w K
  | _=>Fall P s w K
 | _,_,_=>Fall P s w K
def unV(H:UnOp)(x:Di)(K:Di->Prop):Prop:=
 match H,x with
 | .not,.bool b=>K (.bool (!b))
 | .neg,.int k n=>Obl (InR k (-n)) (K (.int k (-n)))
 | .xor,.int k n=>Wit (λr=>qdp .xor k (if k.signed then -1 else k.max) n=r) (λr=>K (.int k r))
 | _,_=>False
def bnd(o:Option Di)(d n:Nat):Prop:=
 match o with
 | none=>n=d
 | some (.int _ i)=>i=(n:Int)
 | _=>False
structure SliceS(s:De)(lo hi:Option Di)(K:Di->Prop):Prop where
 h:∃l h:Nat,bnd lo 0 l/\bnd hi s.size h/\l<=h/\h<=s.size/\K (.string (s.extract l h))
structure SliceV(size:Nat)(A:Option Addr)(len cap:Nat)(lo hi mx:Option Di)(K:Di->Prop):Prop where
 h:∃l h m:Nat,bnd lo 0 l/\bnd hi len h/\bnd mx cap m/\l<=h/\h<=m/\m<=cap/\(mx.isSome=true->hi.isSome=true)/\
  ∀A',A'=(if m=l then A else A.map (·.add (l*size)))->K (.slice A' (h-l) (m-l))
def evo(ρ:Dk):Option Operand->Option Di
 | none=>none
 | some x=>some (ev ρ x)
def q0p(P:Df)(t:Dg)(x:Di)(U W mx:Option Di)(w:Dd)(s:Sem Next)(K:Dj):Prop:=
 match P.underlying t,x with
 | some .string,.string s=>match mx with
  | none=>SliceS s U W λv=>K v w
  | some _=>False
 | some (.slice e),.slice A H O=>bif hasT P e then SliceV (tsz P e) A H O U W mx λv=>K v w else False
 | _,_=>Fall P s w K
def lenV(P:Df)(t:Option Dg)(x:Dn)(w:Dd)(s:Sem Next)(K:Dj):Prop:=
 match t,x with
 | some t,v::_=>match P.underlying t,v with
  | some .string,.string s=>K (.int .i64 s.size) w
  | some (.slice _),.slice _ n _=>K (.int .i64 n) w
  | _,_=>Fall P s w K
 | _,_=>Fall P s w K
structure CallV(P:Df)(f:FuncId)(args:Dn)(w:Dd)(K:Dj):Prop where
 h:Gv P f args w K\/∃v w',(callFunc f args.toArray).run P w=.ok (.value v) w'/\K v w'
def appV(P:Df)(H:Array Dg)(ty:Dg)(vs:Dn)(w:Dd)(s:Sem Next)(K:Dj):Prop:=
 match vs with
 | [a,b]=>qgv a λa=>qgv b λb=>AppV P H ty a b w λv w'=>qgv v λv=>K v w'
 | _=>Fall P s w K
structure InvV(P:Df)(t:Dg)(v:Di)(name:String)(vs:Dn)(w:Dd)(K:Dj):Prop where
 h:∃f r,(method (P.types.size+Made.depth) t v name).run P w=.ok (f,r) w/\CallV P f (r::vs) w K
def qwx(P:Df)(c:Call)(ty:Dg)(ρ:Dk)(w:Dd)(s:Sem Next)(K:Dj):Prop:=
 match c.callee with
 | .value f=>match ev ρ f with
  | .func (.func g) first H=>qbx (evs ρ c.args.toList) λvs=>
   match first.toList,H.toList with
   | [],[]=>CallV P g vs w K
   | x,y=>CallV P g (x++(vs++y)) w K
  | _=>Fall P s w K
 | .builtin .len=>lenV P (getL c.argTypes.toList 0) (evs ρ c.args.toList) w s K
 | .builtin .append=>appV P c.argTypes ty (evs ρ c.args.toList) w s K
 | .invoke O name=>match ev ρ O with
  | .iface t v=>qbx (evs ρ c.args.toList) λvs=>InvV P t v name vs w K
  | _=>Fall P s w K
 | _=>Fall P s w K
def csz:Di->Nat
 | .agg cs=>cs.size
 | _=>1
def qor:Dn->Nat->Dn->Dn
 | l,_,[]=>l
 | l,off,v::vs=>qor (setL l off v) (off+1) vs
def quk(O:Nat->Option (Nat×Nat))(H:Dn):List (Nat×Di)->Option Dn
 | []=>some H
 | (i,v)::U=>
  match O i with
  | none=>none
  | some (off,size)=>bif Nat.beq (csz v) size&&Nat.ble (off+csz v) H.length then quk O (qor H off v.cells.toList) U else none
def evp(ρ:Dk):List (Nat×Operand)->List (Nat×Di)
 | []=>[]
 | (i,x)::l=>(i,ev ρ x)::evp ρ l
def qe0(P:Df):List Field->List (Nat×Nat)
 | []=>[]
 | f::l=>(f.offset,tsz P f.type)::qe0 P l
def allT(P:Df):List Field->Bool
 | []=>true
 | f::l=>hasT P f.type&&allT P l
def qwt(P:Df)(t:Dg)(H:List (Nat×Di))(K:Di->Prop):Prop:=
 match P.info? t with
 | some i=>match i.zero with
  | some z=>match P.underlying t with
   | some (.struct O)=>bif allT P O.toList then
     match quk (λk=>getL (qe0 P O.toList) k) z.cells.toList H with
     | some l=>qbx l λl=>K (.agg l.toArray)
     | none=>False
    else False
   | some (.array _ e)=>bif hasT P e then
     match quk (λk=>some (k*tsz P e,tsz P e)) z.cells.toList H with
     | some l=>qbx l λl=>K (.agg l.toArray)
     | none=>False
    else False
   | _=>False
  | none=>False
 | none=>False
def qcv(z:Dn):Nat->Dn
 | 0=>[]
 | n+1=>z++qcv z n
def qe6(P:Df)(t:Dg)(H:Nat)(O:List (Nat×Di))(w:Dd)(K:Dj):Prop:=
 match P.underlying t with
 | some (.slice e)=>match P.info? e with
  | some i=>match i.zero with
   | some z=>bif Nat.beq z.cells.toList.length i.size&&Nat.ble (H*i.size) 16777216 && !Nat.beq i.size 0 then
     match quk (λk=>some (k*i.size,i.size)) (qcv z.cells.toList H) O with
     | some l=>qbx l λl=>NewV w (.cells l.toArray e) λb w'=>K (.slice (some ⟨b,0,none⟩) H H) w'
     | none=>False
    else False
   | none=>False
  | none=>False
 | _=>False
structure MakeV(z:Dn)(bytes e:Nat)(len cap:Int)(w:Dd)(K:Dj):Prop where
 h:∃l c:Nat,len=(l:Int)/\cap=(c:Int)/\l<=c/\c*bytes<=140737488355328/\c<9223372036854775808/\
  ∀b w',b=w.heap.size->w'=w.alloc (.cells (qcv z c).toArray e)->K (.slice (some ⟨b,0,none⟩) l c) w'
def qg2(P:Df)(t:Dg)(H O:Di)(w:Dd)(K:Dj):Prop:=
 match P.underlying t,H,O with
 | some (.slice e),.int _ H,.int _ O=>match P.info? e with
  | some i=>match i.zero with
   | some z=>bif Nat.beq z.cells.toList.length i.size && !Nat.beq i.size 0 then MakeV z.cells.toList i.bytes e H O w K else False
   | none=>False
  | none=>False
 | _,_,_=>False
def qg1(P:Df)(t:Dg)(x:Di)(K:Di->Prop):Prop:=
 match P.underlying t with
 | some (.interface _)=>False
 | some _=>K (.iface t x)
 | none=>False
def nilV(P:Df)(x:Di)(w:Dd)(s:Sem Next)(K:Dj):Prop:=
 match x with
 | .pointer (some a)=>K (.pointer (some a)) w
 | _=>Fall P s w K
def setO(w:Dd)(r:Nat)(o:Obj):Dd:={ w with heap:=w.heap.setIfInBounds r o }
def qz5(P:Df)(t:Dg)(x:Di)(w:Dd)(s:Sem Next)(K:Dj):Prop:=
 match P.underlying t,x with
 | some .string,.string s=>NewV w (.stringIter s 0) λb w'=>K (.pointer (some ⟨b,0,none⟩)) w'
 | _,_=>Fall P s w K
structure NextS(w:Dd)(r:Nat)(K:Dj):Prop where
 h:∃s pos,w.heap[r]?=some (.stringIter s pos)/\
  (pos<s.size->∀w',w'=setO w r (.stringIter s (pos+(Utf8.decode s pos).2))->K (.tuple #[.bool true,.int .i64 pos,.int .i32 (Utf8.decode s pos).1]) w')/\
  (¬pos<s.size->K (.tuple #[.bool false]) w)
def q8h(P:Df)(x:Di)(H:Bool)(w:Dd)(s:Sem Next)(K:Dj):Prop:=
 match H,x with
 | true,.pointer (some ⟨r,0,none⟩)=>NextS w r K
 | _,_=>Fall P s w K
def opV(P:Df)(o:Oper)(ρ:Dk)(w:Dd)(K:Dj):Prop:=
 match o.op with
 | .move x | .assign x=>qgv (ev ρ x) λv=>K v w
 | .pick c a b=>q87 (ev ρ c) (ev ρ a) (ev ρ b) λv=>K v w
 | .binOp U t x y _=>binV P U t x y (ev ρ x) (ev ρ y) w (λv=>K v w) K
 | .unOp U _ x=>unV U (ev ρ x) λv=>K v w
 | .convert W Z x=>q7l P W Z (ev ρ x) w (execOp (ev ρ) o) K
 | .index t x i=>idxV P t (ev ρ x) (ev ρ i) λv=>K v w
 | .indexAddr t x i=>qlz P t (ev ρ x) (ev ρ i) λv=>K v w
 | .load t x=>qus P t (ev ρ x) w λv=>K v w
 | .store t x v=>q00 P t (ev ρ x) (ev ρ v) w (execOp (ev ρ) o) K
 | .extract x ix=>qlr (ev ρ x) ix λv=>K v w
 | .fieldAddr t x f=>qgs P t (ev ρ x) f λv=>K v w
 | .field t x f=>qxp P t (ev ρ x) f λv=>K v w
 | .box t x=>boxV t (ev ρ x) w K
 | .alloc t=>qwl P t w K
 | .slice t x lo hi mx=>q0p P t (ev ρ x) (evo ρ lo) (evo ρ hi) (evo ρ mx) w (execOp (ev ρ) o) K
 | .nilCheck x=>nilV P (ev ρ x) w (execOp (ev ρ) o) K
 | .call c=>qwx P c o.type ρ w (execOp (ev ρ) o) K
 | .build t H=>qwt P t (evp ρ H.toList) λv=>K v w
 | .buildSlice t aa H=>qe6 P t aa (evp ρ H.toList) w K
 | .makeSlice t l c=>qg2 P t (ev ρ l) (ev ρ c) w K
 | .makeFunc fn first O=>qbx (evs ρ first.toList) λa=>qbx (evs ρ O.toList) λb=>K (.func fn a.toArray b.toArray) w
 | .makeInterface t x=>qg1 P t (ev ρ x) λv=>K v w
 | .range t x=>qz5 P t (ev ρ x) w (execOp (ev ρ) o) K
 | .next it b=>q8h P (ev ρ it) b w (execOp (ev ρ) o) K
 | _=>Fall P (execOp (ev ρ) o) w K
section
variable {P:Df} {w:Dd}
theorem Fall.ok{s:Sem Next}(h:Fall P s w K):OpOk2 P s w K:=by
 rcases h.h with h|h
 ·exact .inl h
 ·exact .inr h
theorem qacb{v:Di}(h:K v w):OpOk2 P (pure (.value v)) w K:=.inl ⟨v,w,rfl,h⟩
theorem valV{s:Sem Di}{v:Di}(H:s.run P w=.ok v w)(h:K v w):OpOk2 P (do pure (.value (<-s))) w K:=
 OpOk2.val (by grind)
theorem q29{t:Dg}(h:hasT P t=true):∃i,P.info? t=some i/\tsz P t=i.size:=by
 unfold hasT at h;unfold tsz;cases e:P.info? t<;>grind
theorem qv{t:Dg}(h:hasT P t=true):(sizeOf t).run P w=.ok (tsz P t) w:=by
 obtain⟨i,H,O⟩:=q29 h;simp[sizeOf,typeInfo,H,O]
theorem qc8{t:Dg}{d:TypeDesc}(h:P.underlying t=some d):(isAgg t).run P w=.ok (aggD d) w:=by
 cases d<;>simp[isAgg,run_underlying h,aggD]
theorem qhw{t:Dg}{d:TypeDesc}(h:P.underlying t=some d)(H:aggD d=true)(O:hasT P t=true)(cs:Dq)(off:Nat):
  (part t cs off).run P w=.ok (.agg ((cs.toList.drop off).take (tsz P t)).toArray) w:=by
 simp[part,qc8 h,H,qv O]
 grind
theorem qf6{t:Dg}{d:TypeDesc}(h:P.underlying t=some d)(H:aggD d=false)(cs:Dq)(off:Nat){v:Di}(O:cs.toList[off]?=some v):
  (part t cs off).run P w=.ok v w:=by
 simp_all[part,qc8]
theorem q32{c a b:Operand}(h:q87 (ev ρ c) (ev ρ a) (ev ρ b) (λv=>K v w)):
  OpOk2 P (do pure (.value (if <-asBool (ev ρ c)then ev ρ a else ev ρ b))) w K:=by
 unfold q87 at h
 split at h
 ·rename_i t e
  rw[e];cases t
  ·have:=h.f rfl;rw[qbb]at this;exact .inl ⟨_,w,by rfl,this⟩
  ·have:=h.t rfl;rw[qbb]at this;exact .inl ⟨_,w,by rfl,this⟩
 ·exact h.elim
theorem qabd(s:De)(j:Nat)(h:j<s.size):s[j]?=some (gb s j):=by
 unfold gb;have H:j<s.data.toList.length:=by simpa using h
 rw[Ag,C0 H,BY];exact getElem?_pos s j h
theorem q74{t:Dg}{i:Di}(h:idxV P t x i (λv=>K v w)):
  OpOk2 P (do pure (.value (<-Instr.index t x i))) w K:=by
 unfold idxV at h
 split at h
 ·rename_i U
  obtain⟨j,rfl,O,H⟩:=h;refine valV ?_ H;simp[Instr.index,asIntOf,run_underlying U,qabd _ _ O]
 ·rename_i U
  split at h
  ·rename_i d hd
   cases W:hasT P _<;>rw[W]at h
   ·exact h.elim
   ·cases Z:aggD d<;>rw[Z]at h
    ·obtain⟨j,rfl,O,v,hv,H⟩:=h;refine valV ?_ H
     simp_all[Instr.index,asIntOf,run_underlying,qv,qf6]
    ·obtain⟨j,rfl,O,l,hl,H⟩:=h;subst hl;refine valV ?_ H
     simp_all[Instr.index,asIntOf,run_underlying,qv,qhw]
  ·exact h.elim
 ·exact h.elim
theorem q8(b off n:Nat):(⟨b,off,none⟩:Addr).add n=⟨b,off+n,none⟩:=by
 grind [Addr.add]
theorem qp0{t:Dg}{i:Di}(h:qlz P t x i (λv=>K v w)):
  OpOk2 P (do pure (.value (<-Instr.indexAt t x i))) w K:=by
 unfold qlz at h
 split at h
 ·rename_i O
  cases H:hasT P _<;>rw[H]at h
  ·exact h.elim
  ·obtain⟨b,off,j,rfl,rfl,U,W⟩:=h;refine valV ?_ W;simp[Instr.indexAt,asIntOf,run_underlying O,U,qv H,q8]
 ·rename_i O
  cases H:hasT P _<;>rw[H]at h
  ·exact h.elim
  ·obtain⟨j,rfl,U,W⟩:=h;refine valV ?_ W;simp[Instr.indexAt,asIntOf,run_underlying O,U,qv H,q8,Instr.sureAddr]
 ·exact h.elim
theorem q3k{t:Dg}(h:qus P t x w (λv=>K v w)):
  OpOk2 P (do pure (.value (<-Instr.loadAt t x))) w K:=by
 unfold qus at h
 split at h
 ·rename_i d b off hu
  cases U:aggD d<;>rw[U]at h
  ·obtain⟨v,O,H⟩:=h;rw[qbb]at H;refine valV ?_ H
   simp_all[Instr.loadAt,Instr.sureAddr,loadVar,qc8]
  ·cases W:hasT P t<;>rw[W]at h
   ·exact h.elim
   ·obtain⟨cs,hl,Z,H⟩:=h;rw[qan]at H;refine valV ?_ H;have:=run_loadCells_list (P:=P) w ⟨b,off,none⟩ cs (λj v O=>by
     have hj:j<cs.length:=by
      rcases AM j cs.length with h|h
      ·exact h
      ·rw[AS h]at O;cases O
     rw[q8,Z j Oo];exact O)
    simp_all[Instr.loadAt,Instr.sureAddr,loadVar,qc8,qv]
 ·exact h.elim
theorem q01{t:Dg}{v:Di}{s:Sem Next}(Z:s=(do Instr.storeAt t x v;pure .skip))(h:q00 P t x v w s K):
  OpOk2 P s w K:=by
 unfold q00 at h
 split at h
 ·rename_i b off
  split at h
  ·exact h.ok
  ·rename_i cs
   cases O:hasT P t<;>rw[O]at h
   ·exact h.elim
   ·cases H:Nat.beq (tsz P t) cs.toList.length<;>rw[H]at h
    ·exact h.elim
    ·obtain⟨w',h1,U⟩:=h;subst Z;have W:tsz P t=cs.size:=by simp_all
     refine OpOk2.unit ⟨_,?_,U⟩;have hc:(Value.agg cs).cells=cs:=rfl
     simp_all[Instr.storeAt,Instr.sureAddr,storeVar,qv]
  ·rename_i aa ab
   cases O:hasT P t<;>rw[O]at h
   ·exact h.elim
   ·cases H:Nat.beq (tsz P t) 1<;>rw[H]at h
    ·exact h.elim
    ·obtain⟨⟨o,ho⟩,hf,h1,U⟩:=h;subst Z;have W:tsz P t=1:=AR H;refine OpOk2.unit ⟨_,?_,U⟩
     simp_all[Instr.storeAt,Instr.sureAddr,storeVar,Value.cells,qv,storeCells,store,Sem.run,Addr.add]
 ·exact h.elim
theorem qpu{H:Nat}(h:qlr x H (λv=>K v w)):
  OpOk2 P (do pure (.value (<-Instr.extract x H))) w K:=by
 unfold qlr at h
 split at h
 ·rename_i vs
  split at h
  ·rename_i v U
   rw[qbb]at h;rw[qav]at U;have O:vs[H]?=some v:=by simpa using U
   refine valV ?_ h;simp[Instr.extract,O]
  ·exact h.elim
 ·exact h.elim
theorem qls{t:Dg}{f:Nat}(h:qgs P t x f (λv=>K v w)):
  OpOk2 P (do pure (.value (<-Instr.fieldAt t x f))) w K:=by
 unfold qgs at h
 split at h
 ·rename_i W b off hu
  split at h
  ·rename_i O H
   rw[qav]at H;have U:W[f]?=some O:=by simpa using H
   cases Z:hasT P O.type<;>rw[Z]at h
   ·exact h.elim
   ·cases hz:Nat.beq (tsz P O.type) 0<;>rw[hz]at h
    ·refine valV ?_ h;have aa:¬tsz P O.type=0:=λe=>by simp_all
     simp_all[Instr.fieldAt,run_underlying,Instr.sureAddr,fieldPlace,qv,q8]
    ·exact h.elim
  ·exact h.elim
 ·exact h.elim
theorem qxq{t:Dg}{f:Nat}(h:qxp P t x f (λv=>K v w)):
  OpOk2 P (do pure (.value (<-Instr.field t x f))) w K:=by
 unfold qxp at h
 split at h
 ·rename_i W cs hu
  split at h
  ·rename_i O H
   rw[qav]at H;have U:W[f]?=some O:=by simpa using H
   split at h
   ·rename_i d hd
    cases Z:aggD d<;>rw[Z]at h
    ·simp only[cond_false]at h
     split at h
     ·rename_i v hv
      rw[qbb]at h;rw[qav]at hv;refine valV ?_ h
      simp_all[Instr.field,run_underlying,asAgg,qf6]
     ·exact h.elim
    ·cases hT:hasT P O.type<;>rw[hT]at h
     ·exact h.elim
     ·simp only[cond_true,qan]at h;refine valV ?_ h
      simp_all[Instr.field,run_underlying,asAgg,qhw]
   ·exact h.elim
  ·exact h.elim
 ·exact h.elim
theorem qru{t:Dg}{v:Di}(h:boxV t v w K):
  ∃a,(newVar t v).run P w=.ok a (w.alloc (.cells v.cells t))/\K (.pointer (some a)) (w.alloc (.cells v.cells t)):=by
 unfold boxV at h;rw[qan]at h;refine⟨⟨w.heap.size,0,none⟩,by rfl,?_⟩;have:=h.h w.heap.size (w.alloc (.cells v.cells t)) rfl Js;exact this
theorem q69{t:Dg}{v:Di}(h:boxV t v w K):OpOk2 P (do pure (.value (<-Instr.box t v))) w K:=by
 obtain⟨a,H,O⟩:=qru (P:=P) h;exact OpOk2.val ⟨_,_,by simp[Instr.box,H],O⟩
theorem qwm{t:Dg}(h:qwl P t w K):OpOk2 P (do pure (.value (<-Instr.alloc t true (.tuple #[])))) w K:=by
 unfold qwl at h
 split at h
 ·rename_i i O
  split at h
  ·rename_i z U
   obtain⟨a,W,H⟩:=qru (P:=P) h;exact OpOk2.val ⟨_,_,by simp_all[Instr.alloc,zeroValue,typeInfo],H⟩
  ·exact h.elim
 ·exact h.elim
theorem q0n(w:Dd)(cs:Dq)(e:Dg)(n:Nat)(H:n=w.heap.size):(w.alloc (.cells cs e)).shape? n=some (e,cs.size):=by
 grind [World.shape?,heap_alloc_new]
theorem qul(w:Dd)(cs:Dq)(e:Dg)(n:Nat)(H:n=w.heap.size):(w.alloc (.cells cs e)).freeze ⟨n,cs.size,none⟩ 1=w.alloc (.cells cs e (cs.size,cs.size+1)):=by
 subst H;unfold World.freeze World.alloc;rw[Ab Od];simp only
 congr 1
 grind
theorem q2n{H O:Dg}{s:Sem Next}(hs:s=(do pure (.value (<-convert H O x))))(h:q7l P H O x w s K):
  OpOk2 P s w K:=by
 unfold q7l at h
 split at h
 ·rename_i d k n W Z
  obtain⟨r,rfl,hk⟩:=h;subst hs;refine valV ?_ hk
  simp_all[convert,run_underlying,Conv.intToInt]
 ·rename_i sx W Z
  subst hs;refine valV ?_ h
  simp_all[convert,run_underlying]
 ·rename_i W Z
  subst hs;refine valV ?_ h
  simp_all[convert,run_underlying,Conv.intToString]
 ·rename_i e A n c W Z
  split at h
  ·rename_i he
   subst hs;obtain⟨l,hl,hA,hk⟩:=h;refine valV ?_ hk;cases A with
   | none=>
    have ad:l=[]:=by
     simp_all
    subst ad;exact run_convert_bytes_nil w H e W he _ _ O Z
   | some a=>
    rw[run_convert_bytes_string w H O e _ _ _ W he Z];have hc:(loadCells a n).run P w=.ok ((l.map λc=>(c.toNat:Int)).map (Value.int .u8)).toArray w:=by
     have:=run_loadCells_list (P:=P) w a (byteCells l) (λj v hv=>by
      obtain⟨b,off,h0,h3⟩:=hA (by grind [byteCells]);cases h0;rw[q8];exact h3 j v hv)
     simp_all[byteCells]
    rw[run_bytesToString w a n c _ hc,foldl_push_bytes]
    congr 3
    simp[ByteArray.empty,ByteArray.emptyWithCapacity];show([]:List Dh)++_=l;rw[Bt];have:∀l:List Dh,l.map ((λn:Int=>UInt8.ofNat n.toNat) ∘ λc:Dh=>(c.toNat:Int))=l:=by
     intro l;induction l with
     | nil=>rfl
     | cons x r ih=>simp[ih]
    exact this l
  ·exact h.ok
 ·rename_i e x W Z
  split at h
  ·rename_i he
   subst hs;have aa:∀t,x.size<=Question.cut (.appendCap x.size 0 e) t:=λt=>by simp[Question.cut]
   have hk:=h.h (Question.cut (.appendCap x.size 0 e) (w.tape w.drawn (.appendCap x.size 0 e))) _ w.heap.size _ (aa _) rfl rfl rfl;refine OpOk2.val ⟨_,_,?_,hk⟩;generalize ab:Question.cut (.appendCap x.size 0 e) (w.tape w.drawn (.appendCap x.size 0 e))=ac;have U:(x.data.map (λb=>Value.int .u8 b.toNat)++Array.replicate (ac-x.size) (Value.int .u8 0))=(byteCells x.data.toList++List.replicate (ac-x.size) (Value.int .u8 0)).toArray:=by
    grind [byteCells]
   simp only[convert];simp[run_underlying W,run_underlying Z,run_underlying he,Conv.stringToBytes,choose,Sem.run,Question.forced,ab,U,newRow,newObj,markStringish,shape,freeze];rw[q0n w.drew _ _ w.heap.size rfl];simp only[Sem.run,Result.andThen];rw[qul w.drew _ _ w.heap.size rfl];simp
  ·exact h.ok
 ·exact h.ok
theorem qacw{O:UnOp}(h:unV O x (λv=>K v w)):OpOk2 P (do pure (.value (<-Op.unary O x))) w K:=by
 unfold unV at h
 split at h
 ·exact valV (by rfl) h
 ·obtain⟨U,H⟩:=h;refine valV ?_ H;simp[Op.unary,Op.intArith,U.wrap]
 ·obtain⟨r,rfl,H⟩:=h;refine valV ?_ H;rfl
 ·exact h.elim
theorem qb6{o:Di}{d n y:Nat}{c:BoundsCode}(h:bnd (some o) d n)(H:n<=y):(Instr.sliceBound o y c).run P w=.ok n w:=by
 unfold bnd at h
 split at h
 all_goals simp_all[Instr.sliceBound,asIntOf]
theorem q0q{t:Dg}{lo W:Option Di}{s:Sem Next}(hs:s=(do pure (.value (<-Instr.sliceAt t x lo W mx))))(h:q0p P t x lo W mx w s K):OpOk2 P s w K:=by
 unfold q0p at h
 split at h
 ·rename_i sx H
  subst hs
  split at h
  ·obtain⟨l,hh,O,U,h3,h4,hk⟩:=h;refine valV ?_ hk;cases lo with
   | none=>
    cases W with
    | none=>
     cases O;cases U;simp[Instr.sliceAt,Instr.slice,Instr.sliceBounds,run_underlying H]
    | some b=>
     cases O;simp[Instr.sliceAt,Instr.slice,Instr.sliceBounds,run_underlying H,qb6 U h4]
   | some a=>
    cases W with
    | none=>
     cases U;simp[Instr.sliceAt,Instr.slice,Instr.sliceBounds,run_underlying H,qb6 O h3]
    | some b=>simp[Instr.sliceAt,Instr.slice,Instr.sliceBounds,run_underlying H,qb6 O h3,qb6 U h4]
  ·exact h.elim
 ·rename_i e A aa ab H
  subst hs;cases Z:hasT P e<;>rw[Z]at h
  ·exact h.elim
  ·obtain⟨l,hh,m,O,U,h3,h4,h5,h6,h7,hk⟩:=h;have hk:=hk _ rfl;refine valV ?_ hk;cases mx with
   | none=>
    cases h3;cases lo with
    | none=>
     cases W with
     | none=>
      cases O;cases U;simp[Instr.sliceAt,Instr.slice,Instr.sliceBounds,run_underlying H,qv Z]
     | some b=>
      cases O;simp[Instr.sliceAt,Instr.slice,Instr.sliceBounds,run_underlying H,qv Z,qb6 U h5]
    | some a=>
     cases W with
     | none=>
      cases U;simp[Instr.sliceAt,Instr.slice,Instr.sliceBounds,run_underlying H,qv Z,qb6 O h4]
     | some b=>simp[Instr.sliceAt,Instr.slice,Instr.sliceBounds,run_underlying H,qv Z,qb6 O h4,qb6 U h5]
   | some c=>
    cases W with
    | none=>simp_all
    | some b=>
     cases lo with
     | none=>
      cases O;simp[Instr.sliceAt,Instr.slice,Instr.sliceBounds,run_underlying H,qv Z,qb6 U h5,qb6 h3 h6]
     | some a=>simp[Instr.sliceAt,Instr.slice,Instr.sliceBounds,run_underlying H,qv Z,qb6 O h4,qb6 U h5,qb6 h3 h6]
 ·exact h.ok
theorem q8j{x:Operand}(H:o.op=.nilCheck x)(h:nilV P (ev ρ x) w (execOp (ev ρ) o) K):
  OpOk2 P (execOp (ev ρ) o) w K:=by
 unfold nilV at h
 split at h
 ·rename_i a e
  refine .inl ⟨_,w,?_,h⟩;simp[execOp,H,e]
 ·exact h.ok
theorem qce(h:qcm P f=true)(args:Dq):(callFunc f args).run P w=.ok (.enter f args) w:=by
 unfold qcm at h;cases e:P.funcs[f]? with
 | none=>simp_all
 | some O=>
  rw[e]at h;simp only[AB,Ct]at h;have U:¬O.name = "runtime.NumGoroutine":=by simpa using h.1
  have W:¬O.body=none:=by
   grind
  simp_all[callFunc]
theorem CallV.ok(h:CallV P f vs w K):OpOk P (callFunc f vs.toArray) w K:=by
 rcases h.h with⟨H,O⟩|⟨v,w',H,O⟩
 ·exact .inr ⟨f,vs.toArray,qce H _,O⟩
 ·exact .inl (.inl ⟨v,w',H,O⟩)
theorem qyy{c:Call}(ho:o.op=.call c)(hc:c.callee=.builtin .len)(h:lenV P (getL c.argTypes.toList 0) (evs ρ c.args.toList) w (execOp (ev ρ) o) K):OpOk2 P (execOp (ev ρ) o) w K:=by
 unfold lenV at h
 split at h
 ·rename_i t v vs W hv
  rw[qav]at W;have H:c.argTypes[0]?=some t:=by simpa using W
  rw[qcz]at hv;have O:(c.args.map (ev ρ))[0]?=some v:=by
   grind [List.getElem?_cons_zero]
  have Z:execOp (ev ρ) o=(do pure (.value (<-Builtin.len_ c.argTypes o.type (c.args.map (ev ρ))))):=by
   simp only[execOp,ho,resolve,hc];rfl
  split at h
  ·rename_i s U
   rw[Z];exact valV (by simp only[Builtin.len_,H,O];simp[run_underlying U,goInt]) h
  ·rename_i U
   rw[Z];exact valV (by simp only[Builtin.len_,H,O];simp[run_underlying U,goInt]) h
  ·exact h.ok
 ·exact h.ok
theorem q64{c:Call}(H:o.op=.call c)(O:c.callee=.builtin .append)(h:appV P c.argTypes o.type (evs ρ c.args.toList) w (execOp (ev ρ) o) K):OpOk2 P (execOp (ev ρ) o) w K:=by
 unfold appV at h
 split at h
 ·rename_i a b Z
  rw[qbb,qbb]at h;obtain⟨v,w',h1,U⟩:=h;rw[qbb]at U;have he:execOp (ev ρ) o=(do pure (.value (<-Builtin.append_ c.argTypes o.type (c.args.map (ev ρ))))):=by
   simp only[execOp,H,resolve,O];rfl
  have W:c.args.map (ev ρ)=#[a,b]:=by
   grind [qcz]
  grind [OpOk2.val]
 ·exact h.ok
theorem OpOk.congr{s s':Sem Next}(H:s.run P w=s'.run P w)(h:OpOk P s' w K):OpOk P s w K:=by
 grind [OpOk,OpOk2]
theorem qrz{c:Call}(W:o.op=.call c)(h:qwx P c o.type ρ w (execOp (ev ρ) o) K):
  OpOk P (execOp (ev ρ) o) w K:=by
 unfold qwx at h
 split at h
 ·rename_i f U
  split at h
  ·rename_i g first H hf
   rw[qan,qcz]at h;have he:execOp (ev ρ) o=callFunc g (first++c.args.map (ev ρ)++H):=by
    simp only[execOp,W,resolve,U,hf];rfl
   rw[he];have Z:CallV P g (first.toList++(c.args.toList.map (ev ρ)++H.toList)) w K:=by
    split at h
    ·rename_i h1 h2;rw[h1,h2];simpa using h
    ·exact h
   have e2:(first.toList++(c.args.toList.map (ev ρ)++H.toList)).toArray=first++c.args.map (ev ρ)++H:=by
    simp
   rw[<-e2];exact Z.ok
  ·exact .inl h.ok
 ·rename_i U;exact .inl (qyy W U h)
 ·rename_i U;exact .inl (q64 W U h)
 ·rename_i O name U
  split at h
  ·rename_i t v hr
   rw[qan,qcz]at h;obtain⟨f,r,hm,hk⟩:=h.h;have e1:execOp (ev ρ) o=invoke (.fn (.method name) #[]) (#[ev ρ O]++c.args.map (ev ρ)):=by
    grind [execOp,resolve]
   have e2:invoke (.fn (.method name) #[]) (#[ev ρ O]++c.args.map (ev ρ))=callMethod (ev ρ O) name (c.args.map (ev ρ)):=by
    have h0:(#[ev ρ O]++c.args.map (ev ρ))[0]?=some (ev ρ O):=by grind
    have h1:(#[ev ρ O]++c.args.map (ev ρ)).extract 1 (#[ev ρ O]++c.args.map (ev ρ)).size=c.args.map (ev ρ):=by
     simp
    grind [invoke]
   have e3:(callMethod (.iface t v) name (c.args.map (ev ρ))).run P w=(callFunc f (#[r]++c.args.map (ev ρ))).run P w:=by
    simp_all[callMethod]
   have e4:(r::c.args.toList.map (ev ρ)).toArray=#[r]++c.args.map (ev ρ):=by
    simp
   refine OpOk.congr (s':=callFunc f (r::c.args.toList.map (ev ρ)).toArray) ?_ hk.ok
   grind
  ·exact .inl h.ok
 ·exact .inl h.ok
theorem qaa6(v:Di):csz v=v.cells.size:=by cases v<;>rfl
theorem q0m(vs:Dn):∀(H:Dq) (off k:Nat),
  (vs.zipIdx k).foldl (λcs (x:Di×Nat)=>cs.setIfInBounds (off+x.2) x.1) H=(qor H.toList (off+k) vs).toArray:=by
 induction vs with
 | nil=>simp[qor]
 | cons v vs O=>
  simp_all[qor,q9u,C1]
theorem qpw(U:Nat->Option (Nat×Nat))(O:List (Nat×Di)):∀(H:Dn) (l:Dn),quk U H O=some l->
  Instr.fill U H.toArray O=some l.toArray:=by
 induction O with
 | nil=>intro H l h;cases h;rfl
 | cons x O ih=>
  obtain⟨i,v⟩:=x;intro H l h;simp only[quk]at h;unfold Instr.fill;cases e:U i with
  | none=>simp_all
  | some Z=>
   obtain⟨off,size⟩:=Z;rw[e]at h;simp only at h|-;cases W:(Nat.beq (csz v) size&&Nat.ble (off+csz v) H.length)<;>rw[W]at h
   ·cases h
   ·simp only[cond_true]at h;simp only[AB,Nat.ble_eq]at W;rw[qaa6]at W;replace W:=And.intro (AR W.1) W.2;have hc:¬(v.cells.size≠size||off+v.cells.size > H.toArray.size)=true:=by
     grind
    rw[Ab hc];have:=q0m v.cells.toList H.toArray off 0
    grind [Array.toList_zipIdx]
theorem qvo{H:Array Field}(h:allT P H.toList=true):
  (H.mapM λf=>Prod.mk f.offset <$> sizeOf f.type:Sem (Array (Nat×Nat))).run P w=.ok (qe0 P H.toList).toArray w:=by
 obtain⟨l⟩:=H;rw[Cy];have:∀l:List Field,allT P l=true->(l.mapM λf=>(Prod.mk f.offset <$> sizeOf f.type:Sem (Nat×Nat))).run P w=.ok (qe0 P l) w:=by
  intro l
  induction l with
  | nil=>simp[qe0]
  | cons f l O=>
   simp_all[allT,qv,qe0]
 simp[this l h]
theorem qwu{t:Dg}{H:Array (Nat×Di)}(h:qwt P t H.toList (λv=>K v w)):
  OpOk2 P (do pure (.value (<-Instr.build t H))) w K:=by
 unfold qwt at h
 split at h
 ·rename_i i W
  split at h
  ·rename_i z Z
   have aa:(zeroValue t).run P w=.ok z w:=by simp[zeroValue,typeInfo,W,Z]
   split at h
   ·rename_i fs hu
    cases O:allT P fs.toList<;>rw[O]at h
    ·exact h.elim
    ·simp only[cond_true]at h
     split at h
     ·rename_i l U
      rw[qan]at h;refine valV ?_ h;have hf:=qpw _ _ _ _ U
      simp_all[qvo,qav,Instr.build,run_underlying]
     ·exact h.elim
   ·rename_i n e hu
    cases O:hasT P e<;>rw[O]at h
    ·exact h.elim
    ·simp only[cond_true]at h
     split at h
     ·rename_i l U
      rw[qan]at h;refine valV ?_ h;have hf:=qpw _ _ _ _ U
      simp_all[Instr.build,run_underlying,qv]
     ·exact h.elim
   ·exact h.elim
  ·exact h.elim
 ·exact h.elim
theorem qm6(z:Dn)(n:Nat):(qcv z n).length=n*z.length:=by
 induction n<;>grind [qcv]
theorem qwd(z:Dn)(n:Nat):∀i,i<n*z.length->(qcv z n)[i]?=z[i%z.length]?:=by
 induction n<;>grind [qcv,Nat.mod_eq_of_lt,List.getElem?_append_right,Nat.mod_eq_sub_mod]
theorem qt8(z:Dq)(_:0<z.size)(n:Nat):(Array.range (n*z.size)).map (z[· % z.size]!)=(qcv z.toList n).toArray:=by
 rw[<-Bs];apply Bk
 grind [qm6,qwd]
theorem qjy{t:Dg}{H:Nat}{O:Array (Nat×Di)}(h:qe6 P t H O.toList w K):
  OpOk2 P (do pure (.value (<-Instr.buildSlice t H O))) w K:=by
 unfold qe6 at h
 split at h
 ·rename_i e hu
  split at h
  ·rename_i i hi
   split at h
   ·rename_i z hz
    have aa:(zeroValue e).run P w=.ok z w:=by simp[zeroValue,typeInfo,hi,hz]
    have U:(sizeOf e).run P w=.ok i.size w:=by simp[sizeOf,typeInfo,hi]
    cases hb:(Nat.beq z.cells.toList.length i.size&&Nat.ble (H*i.size) 16777216 && !Nat.beq i.size 0)<;>rw[hb]at h
    ·exact h.elim
    ·simp only[cond_true]at h;simp only[AB,Nat.ble_eq,Ct]at hb;obtain⟨⟨b1,b2⟩,b3⟩:=hb;have b1:=AR b1;have b3:0<i.size:=(by grind)
     have W:z.cells.size=i.size:=by omega
     split at h
     ·rename_i l hl
      rw[qan]at h;have h:=h.h w.heap.size _ rfl rfl;have hf:=qpw _ _ _ _ hl;have Z:=qt8 z.cells Oo H;rw[W]at Z;refine OpOk2.val ⟨_,_,?_,h⟩;have hn:¬H*i.size > 2 ^ 24:=by omega
      by_cases h0:H*i.size=0
      ·have ab:H=0:=by
        grind [Nat.mul_eq_zero]
       subst ab;have ac:Instr.fill (λad=>some (ad*i.size,i.size)) #[] O.toList=some l.toArray:=by grind
       simp[Instr.buildSlice,run_underlying hu,U,ac,newRow,newObj,Sem.run,show Array.range 0=#[]from rfl]
      ·rw[<-Z]at hf;have ae:¬16777216<H*i.size:=by omega
       simp only[Instr.buildSlice];simp[run_underlying hu,U,ae,h0,aa,W,hf,newRow,newObj,Sem.run]
     ·exact h.elim
   ·exact h.elim
  ·exact h.elim
 ·exact h.elim
theorem qmb{t:Dg}{H O:Di}(h:qg2 P t H O w K):
  OpOk2 P (do pure (.value (<-Instr.makeSlice t H O))) w K:=by
 unfold qg2 at h
 split at h
 ·rename_i e k1 H k2 O hu
  split at h
  ·rename_i i U
   split at h
   ·rename_i z hz
    have ad:(zeroValue e).run P w=.ok z w:=by simp[zeroValue,typeInfo,U,hz]
    have W:(sizeOf e).run P w=.ok i.size w:=by simp[sizeOf,typeInfo,U]
    have Z:(typeInfo e).run P w=.ok i w:=by simp[typeInfo,U]
    cases hb:(Nat.beq z.cells.toList.length i.size && !Nat.beq i.size 0)<;>rw[hb]at h
    ·exact h.elim
    ·simp only[cond_true]at h;simp only[AB,Ct]at hb;obtain⟨b1,b3⟩:=hb;have b1:=AR b1;have b3:0<i.size:=(by grind)
     have aa:z.cells.size=i.size:=by omega
     obtain⟨l,c,rfl,rfl,ae,af,hc,hk⟩:=h;have hk:=hk _ _ rfl rfl;have ab:=qt8 z.cells Oo c;rw[aa]at ab;have wl:IntKind.i64.wrap (l:Int)=l:=InR.wrap (k:=.i64) ⟨by omega,by omega⟩;have wc:IntKind.i64.wrap (c:Int)=c:=InR.wrap (k:=.i64) ⟨by omega,by omega⟩;have ac:¬(281474976710656:Int)<(i.bytes:Int)*(c:Int):=by
      grind
     refine OpOk2.val ⟨_,_,?_,hk⟩;simp only[Instr.makeSlice,asInt,asIntOf];have n1:¬((c:Int)<0):=by omega
     have n2:¬((l:Int)<0):=by omega
     have n3:¬c<l:=by omega
     simp[run_underlying hu,Z,wl,wc,ac,n1,n2,n3,askRoom,roomBytes,W,newRow,newObj,Sem.run]
     split
     ·grind
     simp_all
   ·exact h.elim
  ·exact h.elim
 ·exact h.elim
theorem qma{t:Dg}(h:qg1 P t x (λv=>K v w)):OpOk2 P (do pure (.value (<-Instr.makeInterface t x))) w K:=by
 unfold qg1 at h
 split at h
 ·exact h.elim
 ·rename_i d H O
  refine valV ?_ h
  simp_all[Instr.makeInterface,run_underlying]
 ·exact h.elim
theorem q52(ρ:Dk)(l:List (Nat×Operand)):evp ρ l=l.map λx=>(x.1,ev ρ x.2):=by
 induction l<;>grind [evp]
theorem qz6{t:Dg}{s:Sem Next}(H:s=(do pure (.value (<-Instr.range t x))))(h:qz5 P t x w s K):OpOk2 P s w K:=by
 unfold qz5 at h
 split at h
 ·rename_i O U
  subst H;refine OpOk2.val ⟨_,_,?_,h.h w.heap.size _ rfl rfl⟩
  simp_all[Instr.range,run_underlying]
 ·exact h.ok
theorem q3r{b:Bool}{s:Sem Next}(U:s=(do pure (.value (<-Instr.next x b ty))))(h:q8h P x b w s K):OpOk2 P s w K:=by
 unfold q8h at h
 split at h
 ·rename_i r
  subst U;obtain⟨s,pos,O,W,Z⟩:=h
  by_cases H:pos<s.size
  ·refine OpOk2.val ⟨_,_,?_,W H _ rfl⟩;simp[Instr.next,getObj,setObj,Sem.run,O,H,goInt,setO]
  ·refine OpOk2.val ⟨_,_,?_,Z H⟩;simp[Instr.next,getObj,Sem.run,O,H]
 ·exact h.ok
theorem qzp(hc:∀c,o.op≠.call c)(h:opV P o ρ w K):OpOk2 P (execOp (ev ρ) o) w K:=by
 unfold opV at h
 split at h
 ·grind [qbb,execOp,qacb]
 ·grind [qbb,execOp,qacb]
 ·grind [execOp,q32]
 ·grind [execOp,OpOk2.val,qub]
 ·grind [execOp,qacw]
 ·grind [q2n,execOp]
 ·grind [execOp,q74]
 ·grind [execOp,qp0]
 ·grind [execOp,q3k]
 ·grind [q01,execOp]
 ·grind [execOp,qpu]
 ·grind [execOp,qls]
 ·grind [execOp,qxq]
 ·grind [execOp,q69]
 ·grind [execOp,qwm]
 ·rename_i t x W Z mx H
  refine q0q ?_ h;simp only[execOp,H];cases W<;>cases Z<;>cases mx<;>rfl
 ·grind [q8j]
 ·simp_all
 ·rename_i t O H
  rw[q52]at h;simp only[execOp,H];refine qwu ?_
  simpa using h
 ·rename_i t aa O H
  rw[q52]at h;simp only[execOp,H];refine qjy ?_
  simpa using h
 ·grind [execOp,qmb]
 ·rename_i fn first U H
  rw[qan,qan,qcz,qcz]at h;simp only[execOp,H];refine valV ?_ h;have e1:∀a:Array Operand,(a.toList.map (ev ρ)).toArray=a.map (ev ρ):=(by grind)
  simp_all[Instr.makeFunc]
 ·grind [execOp,qma]
 ·grind [qz6,execOp]
 ·grind [q3r,execOp]
 ·exact h.ok
theorem qzo(h:opV P o ρ w K):OpOk P (execOp (ev ρ) o) w K:=by
 by_cases H:∃c,o.op=.call c
 ·grind [opV,qrz]
 ·exact .inl (qzp (λc e=>H ⟨c,e⟩) h)
end
def putV(n:Nat)(H:Option Tmp)(ρ:Dk)(v:Di)(K:Dk->Prop):Prop:=
 match H with
 | none=>K ρ
 | some d=>bif Nat.blt d n then K (upd ρ d v)else False
def runO(P:Df)(n:Nat)(o:Oper)(K:Dk->Dl)(ρ:Dk)(w:Dd):Prop:=
 opV P o ρ w λv w'=>putV n o.dst ρ v λH=>K H w'
def qvu(n:Nat)(o:Oper)(K:Dk->Dl)(ρ:Dk)(w:Dd):Prop:=
 putV n o.dst ρ undef λH=>K H w
def regV(P:Df)(n:Nat)(ops:List Oper)(Q:Dk->Dl):List Oper->Dk->Dd->Prop
 | [],ρ,w=>Q ρ w
 | o::H,ρ,w=>
  match o.guard with
  | none=>runO P n o (regV P n ops Q H) ρ w
  | some (j,O)=>
   match getL ops j with
   | none=>qvu n o (regV P n ops Q H) ρ w
   | some oj=>match oj.dst with
    | none=>qvu n o (regV P n ops Q H) ρ w
    | some d=>bif Nat.blt d n then
      match ρ d with
      | .bool b=>Tst b
        (match O with
         | true=>runO P n o (regV P n ops Q H) (upd ρ d (.bool true)) w
         | false=>qvu n o (regV P n ops Q H) (upd ρ d (.bool true)) w)
        (match O with
         | true=>qvu n o (regV P n ops Q H) (upd ρ d (.bool false)) w
         | false=>runO P n o (regV P n ops Q H) (upd ρ d (.bool false)) w)
      | _=>qvu n o (regV P n ops Q H) ρ w
     else False
def seqQ(K:Dk->Dl)(Q:Exit->Dk->Dl):Exit->Dk->Dd->Prop
 | .normal,ρ,w=>K ρ w
 | .exit i,ρ,w=>Q (.exit i) ρ w
 | .goto l,ρ,w=>Q (.goto l) ρ w
 | .ret,ρ,w=>Q .ret ρ w
 | .panic c,ρ,w=>Q (.panic c) ρ w
 | .outgrown,ρ,w=>Q .outgrown ρ w
def qrs(id:Nat)(Q:Exit->Dk->Dl):Exit->Dk->Dd->Prop
 | .normal,ρ,w=>Q .normal ρ w
 | .exit i,ρ,w=>bif Nat.beq i id then Q .normal ρ w else Q (.exit i) ρ w
 | .goto l,ρ,w=>Q (.goto l) ρ w
 | .ret,ρ,w=>Q .ret ρ w
 | .panic c,ρ,w=>Q (.panic c) ρ w
 | .outgrown,ρ,w=>Q .outgrown ρ w
def qaci(Q:Exit->Dk->Dl):Exit->Dk->Dd->Prop
 | .goto _,_,_=>False
 | .normal,ρ,w=>Q .normal ρ w
 | .exit i,ρ,w=>Q (.exit i) ρ w
 | .ret,ρ,w=>Q .ret ρ w
 | .panic c,ρ,w=>Q (.panic c) ρ w
 | .outgrown,ρ,w=>Q .outgrown ρ w
structure ScopeV(P:Df)(n:Nat)(c:Code)(Q:Exit->Dk->Dl)(ρ:Dk)(w:Dd):Prop where
 h:∀a,St n ρ a->(Code.scope c).wp P (λe a' w'=>∃ρ',St n ρ' a'/\Q e ρ' w') a w
def qgo(P:Df)(n:Nat):Code->(Exit->Dk->Dl)->Dk->Dd->Prop
 | .skip,Q,ρ,w=>Q .normal ρ w
 | .region id ops H,Q,ρ,w=>
  match H with
  | false=>regV P n ops.toList (Q .normal) ops.toList ρ w
  | true=>DrawV P n id ops Q ρ w
 | .seq a b,Q,ρ,w=>qgo P n a (seqQ (qgo P n b Q) Q) ρ w
 | .cond c t e,Q,ρ,w=>
  match ev ρ c with
  | .bool b=>Tst b (qgo P n t Q ρ w) (qgo P n e Q ρ w)
  | _=>False
 | .block id c,Q,ρ,w=>qgo P n c (qrs id Q) ρ w
 | .loop c,Q,ρ,w=>LoopV P n c Q ρ w
 | .exit id,Q,ρ,w=>Q (.exit id) ρ w
 | .label _,Q,ρ,w=>Q .normal ρ w
 | .ret,Q,ρ,w=>Q .ret ρ w
 | .goto l,Q,ρ,w=>Q (.goto l) ρ w
 | .scope c,Q,ρ,w=>ScopeV P n c Q ρ w
 | .rangeFunc f p a b,Q,ρ,w=>CodeV P n (.rangeFunc f p a b) Q ρ w
 | .refuse _,_,_,_=>False
def lift(n:Nat)(Q:Exit->Dk->Dl):Exit->Act->Dd->Prop:=λe a w=>∃ρ,St n ρ a/\Q e ρ w
section
variable {P:Df} {n:Nat}
theorem putV.st{H:Option Tmp}{v:Di}{K:Dk->Prop}{a:Act}(h:putV n H ρ v K)(U:St n ρ a):
  ∃O,St n O (a.put H v)/\K O:=by
 unfold putV at h
 split at h
 ·exact⟨ρ,U,h⟩
 ·rename_i d
  cases W:Nat.blt d n<;>rw[W]at h
  ·exact h.elim
  ·exact⟨_,U.put (by simpa using W) v,h⟩
theorem St.yield{a:Act}(H:St n ρ a){ops:List Oper}{d:Nat}(O:getL ops j=some oj)(U:oj.dst=some d)(W:d<n):
  yielded ops.toArray a.tmps j=match ρ d with | .bool b=>some b|_=>none:=by
 have Z:ops.toArray[j]?=some oj:=by grind [qav]
 have h2:a.tmps[d]?=some (ρ d):=by
  have hs:=H.size;have:=H.get d
  simp_all
 grind [yielded]
theorem qqo{K:Dk->Dl}{a:Act}{H:List Oper}(W:Region.wanted o (yielded ops a.tmps)=true)(Z:St n ρ a)(h:runO P n o K ρ w)(hk:∀O U w',St n O U->K O w'->wpList P ops Q' H U w'):
  wpList P ops Q' (o::H) a w:=by
 unfold wpList;rw[Af W];refine .inl (OpOk.wp Z.eval (qzo h) λv w' hp=>?_)
 grind [putV.st]
theorem qf7{K:Dk->Dl}{a:Act}{H:List Oper}(W:Region.wanted o (yielded ops a.tmps)=false)(Z:St n ρ a)(h:qvu n o K ρ w)(hk:∀O U w',St n O U->K O w'->wpList P ops Q' H U w'):
  wpList P ops Q' (o::H) a w:=by
 unfold wpList;rw[Ab (by rw[W];simp)];obtain⟨O,h1,h2⟩:=putV.st h Z
 grind
theorem q9h{ops:List Oper}{Q:Dk->Dl}(hQ:∀ρ a w,St n ρ a->Q ρ w->Q' .normal a w)(l:List Oper):
  ∀(ρ:Dk) (a:Act) (w:Dd),St n ρ a->regV P n ops Q l ρ w->wpList P ops.toArray Q' l a w:=by
 induction l with
 | nil=>intro ρ a w O h;exact hQ _ _ _ O h
 | cons o H ih=>
  intro ρ a w O h;unfold regV at h;have ac:∀U a' w',St n U a'->regV P n ops Q H U w'->wpList P ops.toArray Q' H a' w':=(by omega)
  split at h
  ·grind [qqo,Region.wanted]
  ·rename_i j ab hg
   split at h
   ·grind [qav,qf7,Region.wanted,yielded]
   ·rename_i oj hj
    split at h
    ·grind [qf7,qav,Region.wanted,yielded]
    ·rename_i d hd
     cases hn:Nat.blt d n<;>rw[hn]at h
     ·exact h.elim
     ·have W:d<n:=by simpa using hn
      have hy:=O.yield hj hd W;simp only[cond_true]at h
      split at h
      ·rename_i b Z
       rw[Z]at hy;cases b
       ·have h:=h.f rfl;have aa:=O.same Z
        grind [qqo,Region.wanted,qf7]
       ·have h:=h.t rfl;have aa:=O.same Z
        grind [qf7,Region.wanted,qqo]
      grind [qf7,Region.wanted]
theorem q3j{K:Dk->Dl}{Q:Exit->Dk->Dl}{e:Exit}{a:Act}(h:lift n (seqQ K Q) e a w):
  Exit.then (λa w=>∃ρ,St n ρ a/\K ρ w) (lift n Q) e a w:=by
 obtain⟨ρ,H,O⟩:=h;cases e<;>exact⟨ρ,H,O⟩
theorem qur{Q:Exit->Dk->Dl}{e:Exit}{a:Act}(h:lift n (qrs id Q) e a w):
  Exit.inBlock id (lift n Q) e a w:=by
 obtain⟨ρ,O,H⟩:=h;cases e with
 | exit i=>
  by_cases U:i=id
  ·have W:Nat.beq i id=true:=by subst U;simp
   simp only[qrs,W,cond_true]at H;simp only[Exit.inBlock,U,if_true];exact⟨ρ,O,H⟩
  ·have W:Nat.beq i id=false:=(by grind [Nat.eq_of_beq_eq_true])
   simp only[qrs,W,cond_false]at H;simp only[Exit.inBlock,U,if_false];exact⟨ρ,O,H⟩
 | normal=>exact⟨ρ,O,H⟩
 | goto l=>exact⟨ρ,O,H⟩
 | ret=>exact⟨ρ,O,H⟩
 | panic c=>exact⟨ρ,O,H⟩
 | outgrown=>exact⟨ρ,O,H⟩
theorem qh9(c:Code):∀(Q:Exit->Dk->Dl) (ρ:Dk) (w:Dd),qgo P n c Q ρ w->∀a,St n ρ a->c.wp P (lift n Q) a w:=by
 induction c with
 | skip=>intro Q ρ w h a H;exact wp_skip ⟨ρ,H,h⟩
 | region id ops O=>
  intro Q ρ w h a H;cases O
  ·refine wp_region_list ?_;have:=q9h (Q':=lift n Q) (λρ a w H h=>⟨ρ,H,h⟩) ops.toList ρ a w H h;omega
  ·exact h.h a H
 | seq x y W hy=>
  intro Q ρ w h a H;refine wp_seq (wp_mono (W _ _ _ h a H) λe a w h=>?_);have:=q3j h;cases e with
  | normal=>obtain⟨aa,h1,h2⟩:=this;exact hy _ _ _ h2 _ h1
  | exit i=>exact this
  | goto l=>exact this
  | ret=>exact this
  | panic c=>exact this
  | outgrown=>exact this
 | cond c t e ht he=>
  intro Q ρ w h a H;unfold qgo at h
  split at h
  ·rename_i b Z
   refine wp_cond_split (t:=b) (by rw[H.eval,Z]) (λe=>ht _ _ _ (h.t e) a H) (λe=>he _ _ _ (h.f e) a H)
  ·exact h.elim
 | block id c U=>
  intro Q ρ w h a H;exact wp_block (wp_mono (U _ _ _ h a H) λe a w h=>qur h)
 | loop c U=>intro Q ρ w h a H;exact h.h a H
 | rangeFunc f p x b W Z=>intro Q ρ w h a H;exact h.h a H
 | exit id=>intro Q ρ w h a H;exact wp_exit ⟨ρ,H,h⟩
 | scope c U=>intro Q ρ w h a H;exact h.h a H
 | label l=>intro Q ρ w h a H;exact wp_label ⟨ρ,H,h⟩
 | goto l=>intro Q ρ w h a H;exact wp_goto ⟨ρ,H,h⟩
 | ret=>intro Q ρ w h a H;exact wp_ret ⟨ρ,H,h⟩
 | refuse ab=>intro Q ρ w h a H;exact h.elim
theorem ScopeV.straight{n:Nat}{c:Code}{Q:Exit->Dk->Dl}(h:qgo P n c (qaci Q) ρ w):ScopeV P n c Q ρ w:=by
 refine⟨λa U=>wp_scope_straight (wp_mono (qh9 c _ _ _ h a U) λe a w h=>?_)⟩;obtain⟨H,W,O⟩:=h;cases e<;>first|exact O.elim|exact⟨H,W,O⟩
structure SameW(w' w:Dd)(k:Prop):Prop where
 h:w'=w
 k:k
structure CallQ(P:Df)(f:FuncId)(args:Dn)(w:Dd)(K:Di->Prop):Prop where
 h:∃v,Gv P f args w (λu w'=>u=v/\w'=w)/\K v
def q7d(P:Df)(c:Call)(ρ:Dk)(w:Dd)(s:Sem Next)(K:Di->Prop):Prop:=
 match c.callee with
 | .value f=>match ev ρ f with
  | .func (.func g) first H=>qbx (evs ρ c.args.toList) λvs=>
   match first.toList,H.toList with
   | [],[]=>CallQ P g vs w K
   | x,y=>CallQ P g (x++(vs++y)) w K
  | _=>False
 | .builtin .len=>lenV P (getL c.argTypes.toList 0) (evs ρ c.args.toList) w s λv w'=>SameW w' w (K v)
 | _=>False
def opQ(P:Df)(o:Oper)(ρ:Dk)(w:Dd)(K:Di->Prop):Prop:=
 match o.op with
 | .call c=>q7d P c ρ w (execOp (ev ρ) o) K
 | _=>opV P o ρ w λv w'=>SameW w' w (K v)
section
variable {P:Df} {w:Dd} {n:Nat}
def StillOk(P:Df)(s:Sem Next)(w:Dd)(K:Di->Prop):Prop:=
 OpOk2 P s w (λv w'=>w'=w/\K v)\/
 (∃f args v,s.run P w=.ok (.enter f args) w/\Calls P f args w (λe w'=>e=.returned v/\w'=w)/\K v)
theorem OpOk2.same{s:Sem Next}{K:Di->Prop}(h:OpOk2 P s w λv w'=>SameW w' w (K v)):StillOk P s w K:=by
 refine .inl ?_
 rcases h with⟨v,w',O,H⟩|⟨w',O,H⟩
 ·exact .inl ⟨v,w',O,H.h,H.k⟩
 ·exact .inr ⟨w',O,H.h,H.k⟩
theorem q2f{c:Call}{K:Di->Prop}(W:o.op=.call c)(h:q7d P c ρ w (execOp (ev ρ) o) K):
  StillOk P (execOp (ev ρ) o) w K:=by
 unfold q7d at h
 split at h
 ·rename_i f O
  split at h
  ·rename_i g first H Z
   rw[qan,qcz]at h;have he:execOp (ev ρ) o=callFunc g (first++c.args.map (ev ρ)++H):=by
    simp only[execOp,W,resolve,O,Z];rfl
   rw[he];have U:CallQ P g (first.toList++(c.args.toList.map (ev ρ)++H.toList)) w K:=by
    grind
   have e2:(first.toList++(c.args.toList.map (ev ρ)++H.toList)).toArray=first++c.args.map (ev ρ)++H:=by
    simp
   rw[<-e2];obtain⟨v,⟨h1,h2⟩,hk⟩:=U;refine .inr ⟨g,_,v,qce h1 _,h2.mono ?_,hk⟩
   simp_all
  ·exact h.elim
 ·rename_i O;exact(qyy W O h).same
 ·exact h.elim
theorem qab4{K:Di->Prop}(h:opQ P o ρ w K):StillOk P (execOp (ev ρ) o) w K:=by
 unfold opQ at h
 split at h
 ·grind [q2f]
 ·rename_i H;exact(qzp (λc e=>H c e) h).same
theorem StillOk.still{K:Di->Prop}{a:Act}{next:Act->Prop}(Z:a.eval=ev ρ)(h:StillOk P (execOp (ev ρ) o) w K)(W:∀v,K v->next (a.put o.dst v)):o.still P a w next:=by
 unfold Oper.still;rw[Z]
 rcases h with(⟨v,w',H,O,U⟩|⟨w',H,O,U⟩)|⟨f,args,v,H,O,U⟩
 ·rw[H];exact⟨O,W _ U⟩
 ·rw[H];exact⟨O,W _ U⟩
 ·rw[H];exact⟨rfl,v,O,W _ U⟩
def runQ(P:Df)(n:Nat)(o:Oper)(K:Dk->Prop)(ρ:Dk)(w:Dd):Prop:=
 opQ P o ρ w λv=>putV n o.dst ρ v K
def regQ(P:Df)(n:Nat)(ops:List Oper)(w:Dd)(Q:Dk->Prop):List Oper->Dk->Prop
 | [],ρ=>Q ρ
 | o::H,ρ=>
  match o.guard with
  | none=>runQ P n o (regQ P n ops w Q H) ρ w
  | some (j,O)=>
   match getL ops j with
   | none=>putV n o.dst ρ undef (regQ P n ops w Q H)
   | some oj=>match oj.dst with
    | none=>putV n o.dst ρ undef (regQ P n ops w Q H)
    | some d=>bif Nat.blt d n then
      match ρ d with
      | .bool b=>Tst b
        (match O with
         | true=>runQ P n o (regQ P n ops w Q H) (upd ρ d (.bool true)) w
         | false=>putV n o.dst (upd ρ d (.bool true)) undef (regQ P n ops w Q H))
        (match O with
         | true=>putV n o.dst (upd ρ d (.bool false)) undef (regQ P n ops w Q H)
         | false=>runQ P n o (regQ P n ops w Q H) (upd ρ d (.bool false)) w)
      | _=>putV n o.dst ρ undef (regQ P n ops w Q H)
     else False
theorem qqp{K:Dk->Prop}{a:Act}{H:List Oper}{Q':Act->Prop}(W:Region.wanted o (yielded ops a.tmps)=true)(Z:St n ρ a)(h:runQ P n o K ρ w)(hk:∀O U,St n O U->K O->wpStill P ops w Q' H U):
  wpStill P ops w Q' (o::H) a:=by
 unfold wpStill;rw[Af W];refine StillOk.still Z.eval (qab4 h) λv hp=>?_
 grind [putV.st]
theorem qf8{K:Dk->Prop}{a:Act}{H:List Oper}{Q':Act->Prop}(W:Region.wanted o (yielded ops a.tmps)=false)(Z:St n ρ a)(h:putV n o.dst ρ undef K)(hk:∀O U,St n O U->K O->wpStill P ops w Q' H U):
  wpStill P ops w Q' (o::H) a:=by
 grind [wpStill,putV.st]
theorem q9g{ops:List Oper}{Q:Dk->Prop}{Q':Act->Prop}(hQ:∀ρ a,St n ρ a->Q ρ->Q' a)(l:List Oper):
  ∀(ρ:Dk) (a:Act),St n ρ a->regQ P n ops w Q l ρ->wpStill P ops.toArray w Q' l a:=by
 induction l with
 | nil=>intro ρ a O h;exact hQ _ _ O h
 | cons o H ih=>
  intro ρ a O h;unfold regQ at h;have ac:∀U a',St n U a'->regQ P n ops w Q H U->wpStill P ops.toArray w Q' H a':=(by omega)
  split at h
  ·grind [qqp,Region.wanted]
  ·rename_i j ab hg
   split at h
   ·grind [qav,qf8,Region.wanted,yielded]
   ·rename_i oj hj
    split at h
    ·grind [qf8,qav,Region.wanted,yielded]
    ·rename_i d hd
     cases hn:Nat.blt d n<;>rw[hn]at h
     ·exact h.elim
     ·have W:d<n:=by simpa using hn
      have hy:=O.yield hj hd W;simp only[cond_true]at h
      split at h
      ·rename_i b Z
       rw[Z]at hy;cases b
       ·have h:=h.f rfl;have aa:=O.same Z
        grind [qqp,Region.wanted,qf8]
       ·have h:=h.t rfl;have aa:=O.same Z
        grind [qf8,Region.wanted,qqp]
      grind [qf8,Region.wanted]
theorem DrawV.quiet{Q:Exit->Dk->Dl}(U:P.follows .mixedOrders=true)(W:Region.lexB .any ops=true)(h:regQ P n ops.toList w.drew (λH=>Q .normal H w.drew) ops.toList ρ):DrawV P n id ops Q ρ w:=by
 refine⟨λa O=>wp_region_still U W ?_⟩;have:=q9g (w:=w.drew) (Q':=λZ=>∃H,St n H Z/\Q .normal H w.drew) (λρ a O h=>⟨ρ,O,h⟩) ops.toList ρ a O h
 simp_all
end
def over:List (Nat×Di)->Dk->Nat->Di
 | [],ρ=>ρ
 | (t,v)::l,ρ=>upd (over l ρ) t v
def qm8:List (Nat×Di)->Dk->Prop
 | [],_=>True
 | (t,v)::l,ρ=>ρ t=v/\qm8 l ρ
theorem qn8{l:List (Nat×Di)}(h:qm8 l ρ):over l ρ=ρ:=by
 induction l with
 | nil=>rfl
 | cons x l H=>
  obtain⟨t,v⟩:=x;obtain⟨U,O⟩:=h
  funext u
  simp only[over,H O,upd]
  grind [Nat.eq_of_beq_eq_true]
theorem qn{α:Type}(l:α->List (Nat×Di))(I:α->Dl)(μ:α->Nat){Q:Exit->Dk->Dl}(x0:α)(h0:qm8 (l x0) ρ)(hI:I x0 w)(hr:∀x w ah,I x w->qgo P n body (seqQ (λac w'=>∃x',qm8 (l x') ac/\I x' w'/\μ x'<μ x) Q) (over (l x) ah) w):LoopV P n body Q ρ w:=by
 refine⟨λa ha=>?_⟩;have ai:∀m x,μ x=m->∀ρ a w,qm8 (l x) ρ->St n ρ a->I x w->∀(b:Frame) (k:List Item) (cs:List Frame),
   ∃e a' w',lift n Q e a' w'/\Arrives P (lone (b.at a (.code body::.inLoop body::k)) cs w) b k cs e a' w':=by
  intro m
  induction m using Nat.strongRecOn with
  | _ m ih=>
   intro x hm ρ a w aj ak hI b k cs;have h1:=hr x w ρ hI;rw[qn8 aj]at h1;obtain⟨e,W,Z,hq,U⟩:=qh9 body _ _ _ h1 a ak b (.inLoop body::k) cs;obtain⟨O,H,hq⟩:=hq;cases e with
   | normal=>
    obtain⟨x',ad,al,am⟩:=hq;obtain⟨ae,af,ag,ab,aa⟩:=ih (μ x') (hm ▸ am) x' rfl O W Z ad H al b k cs;exact⟨ae,af,ag,ab,.of_steps (Steps.trans U (.one step_inLoop)) aa⟩
   | exit id=>exact⟨_,W,Z,⟨O,H,hq⟩,.pass (x:=.inLoop body) rfl Js U⟩
   | goto l=>exact⟨_,W,Z,⟨O,H,hq⟩,.pass (x:=.inLoop body) rfl Js U⟩
   | ret=>exact⟨_,W,Z,⟨O,H,hq⟩,.pass (x:=.inLoop body) rfl Js U⟩
   | panic ch=>exact⟨_,W,Z,⟨O,H,hq⟩,.pass (x:=.inLoop body) rfl Js U⟩
   | outgrown=>exact⟨_,W,Z,⟨O,H,hq⟩,.pass (x:=.inLoop body) rfl Js U⟩
 intro b k cs;obtain⟨e,a',w',hq,U⟩:=ai _ x0 rfl ρ a w h0 ha hI b k cs;exact⟨e,a',w',hq,.of_steps (.one step_loop) U⟩
def ini:Dn->Nat->Di
 | [],_=>undef
 | v::_,0=>v
 | _::l,t+1=>ini l t
theorem q56(l:Dn)(t:Nat):ini l t=(l[t]?).getD undef:=by
 induction l generalizing t with
 | nil=>simp[ini]
 | cons v l H=>cases t<;>simp[ini,H]
def qh0:List ResultVar->Option (List Operand)
 | []=>some []
 | .tmp t::l=>match qh0 l with
  | some r=>some (.tmp t::r)
  | none=>none
 | .cell _ _::_=>none
def resV(H:Array ResultVar)(ρ:Dk)(w:Dd)(O:Func)(R:Dj)(P:Df)(n:Nat):Prop:=
 match H.toList with
 | [.tmp t]=>qgv (ρ t) λv=>R v w
 | l=>match qh0 l with
  | some U=>qbx (evs ρ U) λvs=>R (.tuple vs.toArray) w
  | none=>∀a,St n ρ a->∃v,(results O a.tmps).run P w=.ok v w/\R v w
def q2d(P:Df)(n:Nat)(H:Func)(R:Dj):Exit->Dk->Dd->Prop
 | .normal,ρ,w=>resV H.results ρ w H R P n
 | .ret,ρ,w=>resV H.results ρ w H R P n
 | _,_,_=>False
def resF(H:Dq):ResultVar->Sem Di
 | .tmp t=>pure (H.getD t undef)
 | .cell a t=>do loadVar t (<-asAddr (H.getD a undef))
theorem qom(H:Dq)(w:Dd)(ρ:Dk)(U:∀t,H.getD t undef=ρ t):∀(l:List ResultVar) (O:List Operand),qh0 l=some O->
  (l.mapM (resF H)).run P w=.ok (evs ρ O) w:=by
 intro l
 induction l with
 | nil=>intro O h;cases h;simp[evs]
 | cons x l W=>
  intro O h;cases x with
  | cell a t=>cases h
  | tmp t=>
   simp only[qh0]at h;cases e:qh0 l with
   | none=>simp_all
   | some r=>
    rw[e]at h;cases h
    simp_all[evs,ev,resF]
theorem qjd{W:Array ResultVar}{U:Func}(aa:U.results=W){a:Act}(ha:St n ρ a)(h:resV W ρ w U R P n):
  ∃v,(results U a.tmps).run P w=.ok v w/\R v w:=by
 unfold resV at h;have hm:∀O,qh0 W.toList=some O->(results U a.tmps).run P w=.ok (if h:(evs ρ O).toArray.size=1 then(evs ρ O).toArray[0]else .tuple (evs ρ O).toArray) w:=by
  intro O H;have:=qom (P:=P) a.tmps w ρ ha.get W.toList O H;have e:results U a.tmps=(do let vs <-U.results.mapM (resF a.tmps);pure (if h:vs.size=1 then vs[0]else .tuple vs)):=by
   rfl
  simp_all[Cy]
 split at h
 ·rename_i t Z
  rw[qbb]at h;refine⟨ρ t,?_,h⟩;rw[hm [.tmp t] (by rw[Z];rfl)];rfl
 ·rename_i l Z
  split at h
  ·rename_i O H
   rw[qan]at h;refine⟨_,?_,h⟩;rw[hm O H];have ab:¬(evs ρ O).toArray.size=1:=by
    intro h1;rw[qcz]at h1;simp at h1
    match W.toList,H,Z with
    | [],H,_=>cases H;cases h1
    | [.tmp t],_,Z=>exact Z t rfl
    | .tmp t::y::r,H,_=>
     simp only[qh0]at H
     revert H
     cases y<;>grind [qh0]
    | .cell a t::r,H,_=>cases H
   simp_all
  ·exact h a ha
theorem Gv.mono{H:Dj}(h:Gv P f vs w R)(O:∀v w',R v w'->H v w'):Gv P f vs w H:=
 ⟨h.1,h.2.mono (by grind)⟩
theorem CallV.of(h:Gv P f vs w R)(H:∀v w',R v w'->K v w'):CallV P f vs w K:=
 ⟨.inl (h.mono H)⟩
theorem gv{U:Func}{c:Code}(he:qcm P f=true)(hf:P.funcs[f]?=some U)(hb:U.body=some c)(hn:U.ntmps=n)(hl:Nat.ble vs.length n=true)(h:qgo P n c (q2d P n U R) (ini vs) w):Gv P f vs w R:=by
 have aa:vs.length<=n:=by simpa using hl
 refine⟨he,calls_of_wp hf hb (wp_mono (qh9 c _ _ _ h _ ⟨?_,?_,rfl⟩) λe a w O=>?_)⟩
 ·simp_all
 ·intro t;rw[q56,BM]
  grind
 ·obtain⟨ρ,H,O⟩:=O;cases e with
  | normal=>
   obtain⟨v,W,Z⟩:=qjd rfl H O;exact⟨H.defers,v,W,v,rfl,Z⟩
  | ret=>
   obtain⟨v,W,Z⟩:=qjd rfl H O;exact⟨H.defers,v,W,v,rfl,Z⟩
  | exit i=>exact O.elim
  | goto i=>exact O.elim
  | panic i=>exact O.elim
  | outgrown=>exact O.elim
end
theorem Wit.conv{k:IntKind}{n:Int}{K:Int->Prop}(h:InR k n)(H:K n):Wit (λr=>k.wrap n=r) K:=⟨n,h.wrap,H⟩
theorem Wit.eq{H:Type}{x y:H}{K:H->Prop}(h:x=y)(O:K y):Wit (λr=>x=r) K:=⟨y,h,O⟩
theorem Wit.shl{k:IntKind}{a b m r:Int}{K:Int->Prop}(H:0<=b/\b<k.bits)(O:(2:Int) ^ b.toNat=m)(U:a*m=r)(W:InR k r)(Z:K r):
  Wit (λr=>0<=b/\b<k.bits/\k.wrap (a*2 ^ b.toNat)=r) K:=⟨r,⟨H.1,H.2,by rw[O,U];exact W.wrap⟩,Z⟩
theorem Wit.shr{k:IntKind}{a b m r:Int}{K:Int->Prop}(O:0<=b/\b<k.bits)(U:(2:Int) ^ b.toNat=m)(W:a/m=r)(H:K r):
  Wit (λr=>0<=b/\b<k.bits/\a/2 ^ b.toNat=r) K:=⟨r,(by grind),H⟩
theorem IdxV.nat{n:Nat}{K:Nat->Prop}(h:j<n)(H:K j):IdxV (j:Int) n K:=⟨j,rfl,h,H⟩
theorem IdxV.at_{i:Int}(j:Nat){n:Nat}{K:Nat->Prop}(e:i=(j:Int))(h:j<n)(H:K j):IdxV i n K:=⟨j,e,h,H⟩
theorem SliceS.at_{s:De}{H O:Option Di}{K:Di->Prop}(l h:Nat)(U:bnd H 0 l)(W:bnd O s.size h)(Z:l<=h)(h4:h<=s.size)(hk:K (.string (s.extract l h))):
  SliceS s H O K:=⟨l,h,U,W,Z,h4,hk⟩
theorem InR.lt{k:IntKind}(h:InR k m):m<2 ^ k.bits:=by
 cases k<;>obtain⟨H,O⟩:=h<;>simp[IntKind.bits]<;>omega
theorem InR.le{k:IntKind}{n:Nat}(h:InR k n)(H:m<=n):InR k m:=by
 cases k<;>obtain⟨O,U⟩:=h<;>exact⟨by omega,by omega⟩
theorem qlf{k:IntKind}{n:Nat}(H:InR k m)(O:InR k n):qdp .and k m n=((m &&&n:Nat):Int):=by
 grind [qdp,InR.lt,InR.wrap,InR.le,Nat.and_le_left]
theorem qpi{k:IntKind}{n:Nat}(H:InR k m)(O:InR k n)(h:InR k ((m |||n:Nat):Int)):qdp .or k m n=((m |||n:Nat):Int):=by
 grind [qdp,InR.lt,InR.wrap]
theorem qbo{k:IntKind}(i:Nat){c:Int}(H:c=((2 ^ i-1:Nat):Int))(O:InR k m)(U:InR k c):qdp .and k m c=((m%2 ^ i:Nat):Int):=by
 grind [qlf,Nat.and_two_pow_sub_one_eq_mod]
theorem q2a{k:IntKind}(i:Nat)(H:InR k ((a*2 ^ i+b:Nat):Int))(O:b<2 ^ i):qdp .or k ((a*2 ^ i:Nat):Int) b=((a*2 ^ i+b:Nat):Int):=by
 have e:(a*2 ^ i |||b)=a*2 ^ i+b:=by grind [Nat.mul_comm,Nat.two_pow_add_eq_or_of_lt]
 rw[qpi (InR.le H Oo) (InR.le H Oo) (by simp_all),e]
end V
namespace V
def Ext(w w':Dd):Prop:=Below w.heap.size w w'
theorem Ext.refl(w:Dd):Ext w w:=Below.refl _ _
theorem Ext.trans{a b c:Dd}(h:Ext a b)(k:Ext b c):Ext a c:=Below.trans h (Below.mono k h.size)
theorem Ext.alloc{a:Dd}(h:Ext a w)(o:Obj):Ext a (w.alloc o):=Below.alloc h h.size o
theorem Ext.get(h:Ext w w'){o:Obj}(H:w.heap[b]?=some o):w'.heap[b]?=some o:=by
 rw[h.block b]
 all_goals grind
theorem Ext.cell(h:Ext w w'){a:Addr}{v:Di}(O:w.cell? a=some v):w'.cell? a=some v:=by
 have H:a.block<w.heap.size:=by
  grind [World.cell?]
 rw[Below.cell h H];exact O
theorem Ext.drew{a:Dd}(h:Ext a w):Ext a w.drew:=Below.drew h
theorem qem{o:Obj}(h:b≠r):(setO w r o).heap[b]?=w.heap[b]?:=by
 grind [setO]
theorem qjk{o:Obj}(h:w.heap[r]?=some o'):(setO w r o).heap[r]?=some o:=by
 grind [setO]
theorem Ext.setO{a w:Dd}(h:Ext a w){r:Nat}(H:a.heap.size<=r)(o:Obj):Ext a (setO w r o):=
 Below.trans h ⟨rfl,rfl,rfl,by simp[V.setO],(by grind [qem])⟩
theorem Ext.setCell{a:Dd}(h:Ext a w){p:Addr}(H:a.heap.size<=p.block)(v:Di):Ext a (w.setCell p v):=Below.setCell h H v
structure Mem(w0 w:Dd)(L:Dm):Prop where
 ext:Ext w0 w
 own:∀x∈L,w0.heap.size<=x.1/\w.heap[x.1]?=some x.2
 nodup:(L.map (·.1)).Nodup
section
variable {w0 w w':Dd} {L:Dm}
theorem Mem.nil(w:Dd):Mem w w []:=⟨Ext.refl w,Js,by simp⟩
theorem Mem.lt(h:Mem w0 w L){o:Obj}(H:(b,o)∈L):b<w.heap.size:=by
 have:=(h.own _ H).2
 grind
theorem Mem.get(h:Mem w0 w L){o:Obj}(H:(b,o)∈L):w.heap[b]?=some o:=(h.own _ H).2
theorem Mem.new(h:Mem w0 w L){o:Obj}(O:b=w.heap.size)(U:w'=w.alloc o):Mem w0 w' ((b,o)::L):=by
 subst O U;refine⟨h.ext.alloc o,?_,?_⟩
 ·intro x H
  rcases Aw.1 H with rfl|H
  ·exact⟨h.ext.size,heap_alloc_new w _⟩
  ·exact⟨(h.own x H).1,by rw[Below.heap_alloc _ _ _ (h.lt (b:=x.1) (o:=x.2) H)];exact(h.own x H).2⟩
 ·simp only[AF,C3];refine⟨λW=>?_,h.nodup⟩;obtain⟨x,H,e⟩:=AG.1 W;have:=h.lt (b:=x.1) (o:=x.2) H;omega
theorem Mem.call(h:Mem w0 w L)(H:Ext w w'):Mem w0 w' L:=
 ⟨h.ext.trans H,λx O=>⟨(h.own x O).1,H.get (h.own x O).2⟩,h.nodup⟩
theorem Mem.drew(h:Mem w0 w L):Mem w0 w.drew L:=⟨h.ext.drew,h.own,h.nodup⟩
theorem Mem.set(h:Mem w0 w L){o:Obj}(hi:L[i]?=some (b,o))(W:Ext w0 w')(Z:w'.heap[b]?=some o')(ho:∀c,c≠b->w'.heap[c]?=w.heap[c]?):Mem w0 w' (L.set i (b,o')):=by
 have O:i<L.length:=by
  grind
 have aa:L[i]=(b,o):=by simp_all
 have hn:((L.set i (b,o')).map (·.1))=L.map (·.1):=by
  rw[List.map_set];have:(L.map (·.1))[i]?=some b:=by simp_all
  apply Bk
  grind
 refine⟨W,?_,by rw[hn];exact h.nodup⟩;intro x U
 rcases Ce U with H | rfl
 ·refine⟨(h.own x H).1,?_⟩
  by_cases e:x.1=b
  ·obtain⟨j,hj,ab⟩:=BK.1 U
   by_cases ac:j=i
   ·grind
   ·have h1:(L.map (·.1))[j]'(by grind)=b:=by
     grind
    have h2:(L.map (·.1))[i]'(by simpa using O)=b:=by simp_all
    have:=(List.getElem_inj h.nodup).1 (h1.trans h2.symm);omega
  ·rw[ho _ e];exact(h.own x H).2
 ·exact⟨(h.own (b,o) (by grind)).1,Z⟩
theorem Mem.setO(h:Mem w0 w L){i b:Nat}{o:Obj}(o':Obj)(O:L[i]?=some (b,o))(U:w'=setO w b o'):Mem w0 w' (L.set i (b,o')):=by
 subst U;have H:(b,o)∈L:=(by grind)
 exact h.set O (h.ext.setO (h.own _ H).1 o') (qjk (h.get H)) (λc W=>qem W)
theorem heap_setCell{v:Di}{t:Dg}(h:w.heap[b]?=some (.cells cs t fr)):
  (w.setCell ⟨b,off,none⟩ v).heap[b]?=some (.cells (cs.setIfInBounds off v) t fr):=by
 grind [World.setCell]
theorem Mem.setCell(h:Mem w0 w L){v:Di}{t:Dg}(O:L[i]?=some (b,.cells cs t fr))(U:w'=w.setCell ⟨b,off,none⟩ v):
  Mem w0 w' (L.set i (b,.cells (cs.setIfInBounds off v) t fr)):=by
 subst U;have H:(b,Obj.cells cs t fr)∈L:=(by grind)
 exact h.set O (h.ext.setCell (h.own _ H).1 v) (heap_setCell (h.get H)) (by grind [Below.heap_setCell])
theorem Mem.sub(h:Mem w0 w L)(H:L'.Sublist L):Mem w0 w L':=
 ⟨h.ext,λx O=>h.own x (by grind),(H.map _).nodup h.nodup⟩
theorem Mem.perm(h:Mem w0 w L)(H:L'.Perm L):Mem w0 w L':=
 ⟨h.ext,λx O=>h.own x (by grind),(H.map _).nodup_iff.2 h.nodup⟩
end
theorem qa{t:Dg}(h:w.heap[b]?=some (.cells cs t fr)):w.cell? ⟨b,off,none⟩=cs[off]?:=by
 simp[World.cell?,h]
theorem LoadV.own{t:Dg}{v:Di}{K:Di->Prop}(h:w.heap[b]?=some (.cells cs t fr))(O:cs[off]?=some v)(H:K v):
  LoadV w b off K:=⟨v,by grind [qa],H⟩
theorem LoadV.of{v:Di}{K:Di->Prop}(h:w.cell? ⟨b,off,none⟩=some v)(H:K v):LoadV w b off K:=⟨v,h,H⟩
theorem StoreV.own{t:Dg}{v:Di}{K:Dl}(h:w.heap[b]?=some (.cells cs t (0,0)))(U:off<cs.size)(H:qb5 v=true)(O:∀w',w'=w.setCell ⟨b,off,none⟩ v->K w'):StoreV w b off v K:=by
 refine⟨⟨cs[off],?_⟩,?_,H,O _ rfl⟩
 ·rw[qa h];simp
 ·simp[World.frozen?,h]
theorem NewV.mem{o:Obj}{K:Nat->Dl}(h:Mem w0 w L)(H:∀b w',Mem w0 w' ((b,o)::L)->K b w'):NewV w o K:=
 ⟨λb w' O U=>H b w' (h.new O U)⟩
theorem NextS.mem{pos:Nat}{s:De}(h:Mem w0 w L)(H:L[i]?=some (r,.stringIter s pos))(O:pos<s.size->∀w',Mem w0 w' (L.set i (r,.stringIter s (pos+(Utf8.decode s pos).2)))->K (.tuple #[.bool true,.int .i64 pos,.int .i32 (Utf8.decode s pos).1]) w')(U:¬pos<s.size->K (.tuple #[.bool false]) w):NextS w r K:=
 ⟨s,pos,h.get (by grind),λW w' Z=>O W w' (h.setO _ H Z),U⟩
theorem LoadV.mem{t:Dg}{v:Di}{K:Di->Prop}(h:Mem w0 w L)(H:L[i]?=some (b,.cells cs t fr))(O:cs[off]?=some v)(U:K v):LoadV w b off K:=LoadV.own (h.get (Cu H)) O U
theorem LoadA.mem{size:Nat}{t:Dg}{K:Dn->Prop}(h:Mem w0 w L)(H:L[i]?=some (b,.cells cs t fr))(O:cs.toList.length=size)(U:K cs.toList):LoadA w b 0 size K:=
 ⟨cs.toList,O,λj _=>by rw[qa (h.get (Cu H)),Aq];simp,U⟩
theorem StoreV.mem{t:Dg}{v:Di}{K:Dl}(h:Mem w0 w L)(H:L[i]?=some (b,.cells cs t (0,0)))(O:off<cs.size)(U:qb5 v=true)(W:∀w',Mem w0 w' (L.set i (b,.cells (cs.setIfInBounds off v) t (0,0)))->K w'):StoreV w b off v K:=
 StoreV.own (h.get (Cu H)) O U λw' Z=>W w' (h.setCell H Z)
theorem CellsAt.ext(h:CellsAt w b off vs)(H:Ext w w'):CellsAt w' b off vs:=λk v O=>H.cell (h k v O)
theorem LoadV.cells{v:Di}{K:Di->Prop}(h:CellsAt w b off vs)(k:Nat)(H:vs[k]?=some v)(O:K v):LoadV w b (off+k) K:=⟨v,h k v H,O⟩
theorem LoadV.cell0{v:Di}{K:Di->Prop}(h:CellsAt w b off (v::vs))(H:K v):LoadV w b off K:=⟨v,h 0 v rfl,H⟩
theorem LoadA.cells{size:Nat}{K:Dn->Prop}(h:CellsAt w b off vs)(H:vs.length=size)(O:K vs):LoadA w b off size K:=
 ⟨vs,H,λi W=>by
  have U:i<vs.length:=by omega
  rw[h i vs[i] Js,C0 U],O⟩
structure SlAt{α:Type}(enc:α->Dn)(size:Nat)(w:Dd)(A:Option Addr)(l:List α):Prop where
 at_:l≠[]->∃b off,A=some ⟨b,off,none⟩/\∀(j:Nat) x,l[j]?=some x->CellsAt w b (off+j*size) (enc x)
theorem SlAt.ext{O:Type}{H:O->Dn}{size:Nat}{A:Option Addr}{l:List O}(h:SlAt H size w A l)(U:Ext w w'):SlAt H size w' A l:=
 ⟨λW=>let⟨b,off,Z,h2⟩:=h.at_ W;⟨b,off,Z,λj x hx=>(h2 j x hx).ext U⟩⟩
theorem ElemV.sl{U:Type}{O:U->Dn}{size H:Nat}{A:Option Addr}{l:List U}{i:Int}{K:Di->Prop}(h:SlAt O size w A l)(Z:l.length=H)(j:Nat)(e:i=(j:Int))(W:j<H)(hk:∀b off,CellsAt w b off (O (l[j]'(Z ▸ W)))->K (.pointer (some ⟨b,off,none⟩))):ElemV A i H size K:=by
 obtain⟨b,off,h1,h2⟩:=h.at_ (by grind);exact⟨b,off,j,h1,e,W,(by grind)⟩
theorem ElemV.own1{H size:Nat}{i:Int}{K:Di->Prop}(j:Nat)(e:i=(j:Int))(O:j<H)(W:K (.pointer (some ⟨b,j,none⟩)))(U:size=1:=by rfl):ElemV (some ⟨b,0,none⟩) i H size K:=by
 subst U;exact⟨b,0,j,rfl,e,O,by simp_all⟩
def zeS(s:De):Dn:=[.string s]
theorem qb2{t:Dg}(h:w.heap[b]?=some (.cells cur t (0,0))):(w.setRow b cs).heap[b]?=some (.cells cs t (0,0)):=
 setRow_heap w b cur cs t _ h
theorem qq(h:c≠b):(w.setRow b cs).heap[c]?=w.heap[c]?:=by
 grind [World.setRow]
theorem StoreA.mem{t:Dg}{K:Dl}(h:Mem w0 w L)(Z:L[i]?=some (b,.cells cur t (0,0)))(hl:off+vs.length<=cur.size)(h1:∀v∈vs,v.oneCell'=true)(H:∀w',Mem w0 w' (L.set i (b,.cells (cur.toList.take off++vs++cur.toList.drop (off+vs.length)).toArray t (0,0)))->K w'):StoreA P w b off vs K:=by
 have O:(b,Obj.cells cur t (0,0))∈L:=(by grind)
 have U:=h.get O;have W:=run_storeCells_at P b off t vs 0 cur w U (by simpa using hl) h1;simp only[Bq]at W;refine⟨_,W,H _ ?_⟩;refine h.set Z ?_ (qb2 U) (λc hc=>qq hc);exact Below.trans h.ext ⟨rfl,rfl,rfl,by simp,λk H=>qq (by have:=(h.own _ O).1;omega)⟩
structure Rw(w0 w:Dd)(v:Di)(e:Dg)(size n:Nat)(xs:Dn)(L:Dm):Prop where
 mem:Mem w0 w L
 own:w.ownsRow w0.heap.size e size v n xs
 apart:∀x∈L,v.ownBlock≠some x.1
section
variable {P:Df} {w0 w w':Dd} {v:Di} {e:Dg} {size n:Nat} {xs:Dn} {L:Dm}
theorem Rw.nil(h:Mem w0 w L):Rw w0 w (.slice none 0 0) e size 0 [] L:=⟨h,World.ownsRow_nil _ _ _ _,λ_ _=>by simp[Value.ownBlock]⟩
theorem Rw.slice(h:Rw w0 w v e size n xs L):∃A c,v=.slice A n c:=by
 rcases h.own.2 with⟨rfl,rfl⟩|⟨g,H,cur,rfl,_⟩
 all_goals simp
theorem Rw.grown{row:Option Nat}(h:Rw w0 w v e size n xs L)(O:w.grownBy w' row)(U:∀k,row=some k->w0.heap.size<=k/\∀x∈L,x.1≠k):Mem w0 w' L:=by
 refine⟨Below.grown h.mem.ext O h.mem.ext.size (by grind),λx H=>⟨(h.mem.own x H).1,?_⟩,h.mem.nodup⟩;rw[O.block x.1 (h.mem.lt H) (by grind)];exact(h.mem.own x H).2
theorem Rw.call(h:Rw w0 w v e size n xs L)(H:Ext w w'):Rw w0 w' v e size n xs L:=by
 refine⟨h.mem.call H,h.own.kept (row:=none) ⟨H.os,H.tape,H.output,H.size,λk O _=>H.block k O⟩ ?_,h.apart⟩
 grind
theorem Rw.newBlk(h:Rw w0 w v e size n xs L){o:Obj}(U:b=w.heap.size)(O:w'=w.alloc o):Rw w0 w' v e size n xs ((b,o)::L):=by
 have H:Ext w w':=by rw[O];exact(Ext.refl w).alloc o
 refine⟨h.mem.new U O,(h.call H).own,λx H=>?_⟩
 rcases Aw.1 H with rfl|H
 ·intro e;have:=h.own.lt _ e;omega
 ·exact h.apart x H
theorem AppV.rw{t ty:Dg}{i:TypeInfo}{z:Di}{A:Option Addr}{m c:Nat}{news:Dn}{K:Dj}(ht:P.underlying t=some (.slice e))(hi:P.info? e=some i)(hz:i.zero=some z)(O:i.size=size)(aa:z.cells.size=size)(ab:0<size)(h:Rw w0 w v e size n xs L)(hl:news.length=m*size)(hA:news≠[]->∃b off,A=some ⟨b,off,none⟩/\CellsAt w b off news)(h1:∀u∈news,u.oneCell'=true)(hb:(n+m)*i.bytes<=140737488355328)(ad:n+m<=140737488355328)(hk:∀U W w',Rw w0 w' (.slice U (n+m) W) e size (n+m) (xs++news) L->K (.slice U (n+m) W) w'):AppV P #[t,t] ty v (.slice A m c) w K:=by
 cases A with
 | none=>
  have hn:news=[]:=by
   simp_all
  subst hn;have hm:m=0:=by
   grind [Nat.mul_eq_zero]
  subst hm;obtain⟨U,W,rfl⟩:=h.slice;refine⟨_,w,?_,hk U W w (by simpa using h)⟩
  rcases h.own.2 with⟨e1,e2⟩|⟨g,ae,cur,e1,_,_,ac,_⟩
  ·cases e1;simp[Builtin.append_,run_underlying ht,sizeOf,typeInfo,hi,Builtin.lenOf,Builtin.firstCells]
  ·cases e1;simp[Builtin.append_,run_underlying ht,sizeOf,typeInfo,hi,Builtin.lenOf,Builtin.firstCells,ac,storeCells]
 | some a=>
  have H:∀j u,news[j]?=some u->w.cell? (a.add j)=some u:=by
   intro j u hu;obtain⟨b,off,h0,h1⟩:=hA (by grind);cases h0;rw[q8];exact h1 j u hu
  obtain⟨v',w',Z,h2,h3,_,h5⟩:=run_append_own_at (P:=P) w w0.heap.size t ty e i z size i.bytes ht hi hz O rfl aa ab v n xs h.own a m c news hl H h1 (by grind [maxLen]) hb h.mem.ext.size;have hR:Rw w0 w' v' e size (n+m) (xs++news) L:=by
   refine⟨h.grown h3 (λk hk=>⟨(h.own.lt k hk).1,λx hx e=>h.apart x hx (by rw[hk,e])⟩),h2,λx hx=>?_⟩
   rcases h5 with h5|h5<;>rw[h5]
   ·exact h.apart x hx
   ·intro e;have:=h.mem.lt (b:=x.1) (o:=x.2) hx
    simp_all
  obtain⟨U,W,rfl⟩:=hR.slice;exact⟨_,w',Z,(by grind)⟩
end
end V
end Go.Proofs.YtccmcfpmknpccaaGreatDoor
