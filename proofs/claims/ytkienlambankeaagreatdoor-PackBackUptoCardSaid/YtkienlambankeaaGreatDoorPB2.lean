/- Lemmas and contracts of functions on the way to the law's card (part 2 of 10). -/
import Derived.Test.YtkienlambankeaaGreatDoorPB1
import Derived.Shelf.Strings.Builder1
import Derived.Shelf.Strings.Builder2
import Derived.Shelf.Small.Utf8
import Derived.Shelf.Small.Bits
import Derived.Shelf.Small.Strs
import Derived.Shelf.Strings.BuilderF
import Derived.Shelf.Strings.BuilderK
import Derived.Shelf.Strconv.Itoa0
import Derived.Shelf.Strings.Search1
import Derived.Shelf.Strings.Search2
import Derived.Shelf.Strings.Search3
import Derived.Shelf.Strings.Cut
import Derived.Shelf.Strings.Count
import Derived.Shelf.LaysM
import Derived.Shelf.Strings.Shaped
import Derived.Shelf.Strings.Split
import Derived.Shelf.Strings.Runes
import Derived.Shelf.Unicode.DecodeSlow
import Derived.Shelf.Slices.Turned
import Derived.Test.YtkienlambankeaaGreatDoorProg
import Derived.WideKeyArgs
import Derived.ChangeSame
import Derived.ChangeVars
import Derived.RowKit
import Derived.OpenShut
import Derived.Deep.Strs
import Derived.Lib.Builder
import Derived.Lib.Join
import Derived.Lib.SplitLaws
namespace Go.Proofs.YtkienlambankeaaGreatDoor
open Go.RowKit
namespace V
theorem zA {a b k:Prop} (h:k) (h1:a:=by omega) (h2:b:=by omega):Obl (a∧b) k:=⟨⟨h1,h2⟩,h⟩
theorem zB {a b c d k:Prop} (h:k) (h1:a:=by omega) (h2:b:=by omega) (h3:c:=by omega) (h4:d:=by omega):Obl (a∧b∧c∧d) k:=⟨⟨h1,h2,h3,h4⟩,h⟩
theorem zC {c p q:Prop} [Decidable c] (h1:c→p) (h2:¬ c→q):Tst (decide c) p q:=.dec h1 h2
theorem zY {c p q:Prop} [Decidable c] (h:c→p) (hc:c:=by omega):Tst (decide c) p q:=.dec h fun g=>absurd hc g
theorem zN {c p q:Prop} [Decidable c] (h:¬ c→q) (hc:¬ c:=by omega):Tst (decide c) p q:=.dec (fun g=>absurd g hc) h
theorem zV {k:IntKind} {n:Int} {K:Int→Prop} (hk:K n) (h:InR k n:=by exact ⟨by omega,by omega⟩):Wit (fun r=>k.wrap n=r) K:=⟨n,h.wrap,hk⟩
theorem zX {j n:Nat} {K:Nat→Prop} (hk:K j) (h:j<n:=by omega):IdxV (j:Int) n K:=⟨j,rfl,h,hk⟩
theorem zJ {i:Int} {n:Nat} (j:Nat) {K:Nat→Prop} (hk:K j) (e:i=(j:Int):=by rfl) (h:j<n:=by decide):IdxV i n K:=⟨j,e,h,hk⟩
theorem zW {w:World} {k:Prop} (h:k):SameW w w k:=⟨rfl,h⟩
theorem zD {A:(Value→World→Prop)→Prop} {K:Option Value→(Value→World→Prop)→Prop} {v:Value} (hk:K (some v) (fun u _=>u=v)) (h:A (fun u _=>u=v):=by (intro wd hd;(conv=>whnf);exact ⟨Ext.refl _,rfl⟩)):StepD A K:=.still v h hk
theorem zI {A K:Value→Prop} {v:Value} (hk:K v) (h:A v:=by (intro S wd hk hp hI;(conv=>whnf);exact ⟨rfl,hI⟩)):StepI A K:=.of v h hk
theorem zG {A K:Option Value→Prop} {v:Value} (hk:K (some v)) (h:A (some v):=by (intro S vals wd hk hp hI;(conv=>whnf);exact ⟨rfl,hI⟩)):StepG A K:=.of v h hk
theorem zM {A K:Option Value→Prop} (hk:K none) (h:A none:=by (intro S vals wd hk hp hI;(conv=>whnf);exact ⟨trivial,hI⟩)):StepG A K:=.any h hk
theorem zO {base:Nat} {A:Bool→(Value→World→Prop)→Prop} {K:Option Value→Option Nat→(Value→World→Prop)→Prop} {v:Value} (hk:K (some v) none (fun u _=>u=v)) (h:A true (fun u _=>u=v):=by (intro wd hd;(conv=>whnf);exact PostO.still (Ext.refl _) rfl)):StepO base A K:=.still v h hk
theorem zT {p q:Prop} (h:p):Tst true p q:=.tt h
theorem zU {p q:Prop} (h:q):Tst false p q:=.ff h
theorem zP {b:Bool} {p q:Prop} (h:Tst b q p):Tst (!b) p q:=.not h
theorem zL {w0 w:World} {L:List (Nat × Obj)} {b size:Nat} {cs:Array Value} {t:TypeId} {fr:Nat × Nat} {K:List Value→Prop} (h:Mem w0 w L) (i:Nat) (hk:K cs.toList) (hi:L[i]?=some (b,.cells cs t fr):=by exact rfl)
  (hs:cs.toList.length=size:=by exact rfl):LoadA w b 0 size K:=.mem h hi hs hk
theorem zR {w0 w:World} {L:List (Nat × Obj)} {b off:Nat} {cs:Array Value} {t:TypeId} {fr:Nat × Nat} {v:Value} {K:Value→Prop} (h:Mem w0 w L) (i:Nat) (hk:K v) (hi:L[i]?=some (b,.cells cs t fr):=by exact rfl)
  (hv:cs[off]?=some v:=by exact rfl):LoadV w b off K:=.mem h hi hv hk
theorem zE {P:Program} {n:Nat} {f:FuncId} {fn:Func} {c:Code} {vs:List Value} {w:World} {R:Value→World→Prop} (hf:P.funcs[f]?=some fn) (hn:fn.ntmps=n) (h:qh4 P n c (q3i P n fn R) (ini vs) w)
  (he:qd1 P f=true:=by kernel_rfl) (hb:fn.body=some c:=by exact rfl) (hl:Nat.ble vs.length n=true:=by exact rfl):Gv P f vs w R:=gv he hf hb hn hl h
theorem zS {P:Program} {w0 w:World} {L:List (Nat × Obj)} {b:Nat} {cur:Array Value} {t:TypeId} {vs:List Value} {K:World→Prop} (h:Mem w0 w L) (i:Nat)
  (hk:∀ w',Mem w0 w' (L.set i (b,.cells vs.toArray t (0,0)))→K w') (hi:L[i]?=some (b,.cells cur t (0,0)):=by exact rfl) (hl:cur.size=vs.length:=by exact rfl) (h1:∀ v∈vs,v.oneCell'=true:=by simp [Value.oneCell']):StoreA P w b 0 vs K:=by
 refine StoreA.mem h hi Oo h1 fun w' hw=>hk w' ?_;have e:(cur.toList.take 0++vs++cur.toList.drop (0+vs.length)).toArray=vs.toArray:=by
  rw [List.take_zero,List.nil_append,List.drop_eq_nil_of_le Ys,List.append_nil]
 rwa [e] at hw
structure Hid (q:Prop):Prop where
 h:q
theorem zw {p q:Prop} (h:q) (e:p=q:=by conv=>lhs;whnf):p:=e.mpr h
theorem zv {p q:Prop} (h:q) (e:Hid q→p:=by
  intro h
  (repeat' (first|(refine Obl.mk ⟨by omega,by omega⟩ ?_;conv=>whnf)|(refine Obl.mk ⟨by omega,by omega,⟨by omega,by omega⟩⟩ ?_;conv=>whnf)|((with_reducible refine Tst.tt ?_);conv=>whnf)|((with_reducible refine Tst.ff ?_);conv=>whnf)|((with_reducible refine Tst.dec (fun _=>?_) (fun _=>?_))<;>first|(exfalso;omega)|(conv=>whnf))|((with_reducible refine Tst.not ?_))|(refine Wit.conv ⟨by omega,by omega⟩ ?_;conv=>whnf)|((with_reducible refine IdxV.nat Oo ?_);conv=>whnf)|((with_reducible refine SameW.mk rfl ?_);conv=>whnf)|((with_reducible refine Tst.beqT ?_))|((with_reducible refine Tst.beqF ?_))|(refine Tst.yes rfl ?_;conv=>whnf)|(refine Tst.no rfl ?_;conv=>whnf)))
  exact h.1):p:=e ⟨h⟩
theorem zu {p q:Prop} (h:q) (e:Hid q→p:=by
  intro h;conv=>whnf
  (repeat' (first|(refine Obl.mk ⟨by omega,by omega⟩ ?_;conv=>whnf)|(refine Obl.mk ⟨by omega,by omega,⟨by omega,by omega⟩⟩ ?_;conv=>whnf)|((with_reducible refine Tst.tt ?_);conv=>whnf)|((with_reducible refine Tst.ff ?_);conv=>whnf)|((with_reducible refine Tst.dec (fun _=>?_) (fun _=>?_))<;>first|(exfalso;omega)|(conv=>whnf))|((with_reducible refine Tst.not ?_))|(refine Wit.conv ⟨by omega,by omega⟩ ?_;conv=>whnf)|((with_reducible refine IdxV.nat Oo ?_);conv=>whnf)|((with_reducible refine SameW.mk rfl ?_);conv=>whnf)|((with_reducible refine Tst.beqT ?_))|((with_reducible refine Tst.beqF ?_))|(refine Tst.yes rfl ?_;conv=>whnf)|(refine Tst.no rfl ?_;conv=>whnf)))
  exact h.1):p:=e ⟨h⟩
theorem zt {p q:Prop} (h:q) (e:Hid q→p:=by
  intro h
  (repeat' (first|(refine Obl.mk ⟨by omega,by omega⟩ ?_;conv=>whnf)|(refine Obl.mk ⟨by omega,by omega,⟨by omega,by omega⟩⟩ ?_;conv=>whnf)|((with_reducible refine Tst.tt ?_);conv=>whnf)|((with_reducible refine Tst.ff ?_);conv=>whnf)|((with_reducible refine zY (fun _=>?_));conv=>whnf)|((with_reducible refine zN (fun _=>?_));conv=>whnf)|((with_reducible refine Tst.not ?_))|(refine Wit.conv ⟨by omega,by omega⟩ ?_;conv=>whnf)|((with_reducible refine IdxV.nat Oo ?_);conv=>whnf)|((with_reducible refine SameW.mk rfl ?_);conv=>whnf)|((with_reducible refine Tst.beqT ?_))|((with_reducible refine Tst.beqF ?_))|(refine Tst.yes rfl ?_;conv=>whnf)|(refine Tst.no rfl ?_;conv=>whnf)))
  exact h.1):p:=e ⟨h⟩
theorem zp {p q:Prop} (h:q) (e:Hid q→p:=by
  intro h
  (first|(refine Obl.mk ⟨by omega,by omega⟩ ?_;conv=>whnf)|(refine Obl.mk ⟨by omega,by omega,⟨by omega,by omega⟩⟩ ?_;conv=>whnf)|((with_reducible refine Tst.tt ?_);conv=>whnf)|((with_reducible refine Tst.ff ?_);conv=>whnf)|((with_reducible refine zY (fun _=>?_));conv=>whnf)|((with_reducible refine zN (fun _=>?_));conv=>whnf)|((with_reducible refine Tst.not ?_))|(refine Wit.conv ⟨by omega,by omega⟩ ?_;conv=>whnf)|((with_reducible refine IdxV.nat Oo ?_);conv=>whnf)|((with_reducible refine SameW.mk rfl ?_);conv=>whnf)|((with_reducible refine Tst.beqT ?_))|((with_reducible refine Tst.beqF ?_))|(refine Tst.yes rfl ?_;conv=>whnf)|(refine Tst.no rfl ?_;conv=>whnf))
  (repeat' (first|(refine Obl.mk ⟨by omega,by omega⟩ ?_;conv=>whnf)|(refine Obl.mk ⟨by omega,by omega,⟨by omega,by omega⟩⟩ ?_;conv=>whnf)|((with_reducible refine Tst.tt ?_);conv=>whnf)|((with_reducible refine Tst.ff ?_);conv=>whnf)|((with_reducible refine zY (fun _=>?_));conv=>whnf)|((with_reducible refine zN (fun _=>?_));conv=>whnf)|((with_reducible refine Tst.not ?_))|(refine Wit.conv ⟨by omega,by omega⟩ ?_;conv=>whnf)|((with_reducible refine IdxV.nat Oo ?_);conv=>whnf)|((with_reducible refine SameW.mk rfl ?_);conv=>whnf)|((with_reducible refine Tst.beqT ?_))|((with_reducible refine Tst.beqF ?_))|(refine Tst.yes rfl ?_;conv=>whnf)|(refine Tst.no rfl ?_;conv=>whnf)))
  exact h.1):p:=e ⟨h⟩
theorem zd {A:(Value→World→Prop)→Prop} {K:Option Value→(Value→World→Prop)→Prop} {v:Value} {q:Prop} (hk:q) (h:A (fun u _=>u=v):=by
  intro wd hd;conv=>whnf
  (repeat (intro _ _;(conv=>whnf)))
  first
  | exact ⟨Ext.refl _,rfl⟩
  | refine zv ?_;exact ⟨Ext.refl _,rfl⟩) (e:K (some v) (fun u _=>u=v)=q:=by conv=>lhs;whnf):StepD A K:=.still v h (e.mpr hk)
theorem zo {base:Nat} {A:Bool→(Value→World→Prop)→Prop} {K:Option Value→Option Nat→(Value→World→Prop)→Prop} {v:Value} {q:Prop} (hk:q) (h:A true (fun u _=>u=v):=by
  intro wd hd;conv=>whnf
  (repeat (intro _;(conv=>whnf)))
  first
  | exact PostO.still (Ext.refl _) rfl
  | refine zv ?_;exact PostO.still (Ext.refl _) rfl) (e:K (some v) none (fun u _=>u=v)=q:=by conv=>lhs;whnf):StepO base A K:=.still v h (e.mpr hk)
theorem zi {A K:Value→Prop} {v:Value} {q:Prop} (hk:q) (h:A v:=by
  intro S wd hk hp hI;conv=>whnf
  first
  | exact ⟨rfl,hI⟩
  | refine zv ?_;exact ⟨rfl,hI⟩) (e:K v=q:=by conv=>lhs;whnf):StepI A K:=.of v h (e.mpr hk)
theorem zg {A K:Option Value→Prop} {v:Value} {q:Prop} (hk:q) (h:A (some v):=by
  intro S vals wd hk hp hI;conv=>whnf
  first
  | exact ⟨rfl,hI⟩
  | refine zv ?_;exact ⟨rfl,hI⟩) (e:K (some v)=q:=by conv=>lhs;whnf):StepG A K:=.of v h (e.mpr hk)
theorem zm {A K:Option Value→Prop} {q:Prop} (hk:q) (h:A none:=by
  intro S vals wd hk hp hI;conv=>whnf
  first
  | exact ⟨trivial,hI⟩
  | refine zv ?_;exact ⟨trivial,hI⟩) (e:K none=q:=by conv=>lhs;whnf):StepG A K:=.any h (e.mpr hk)
theorem zr {w0 w:World} {L:List (Nat × Obj)} {b off:Nat} {cs:Array Value} {t:TypeId} {fr:Nat × Nat} {v:Value} {K:Value→Prop} {q:Prop} (h:Mem w0 w L) (i:Nat) (hk:q) (hi:L[i]?=some (b,.cells cs t fr):=by exact rfl)
  (hv:cs[off]?=some v:=by exact rfl) (e:K v=q:=by conv=>lhs;whnf):LoadV w b off K:=.mem h hi hv (e.mpr hk)
theorem zl {w0 w:World} {L:List (Nat × Obj)} {b size:Nat} {cs:Array Value} {t:TypeId} {fr:Nat × Nat} {K:List Value→Prop} {q:Prop} (h:Mem w0 w L) (i:Nat) (hk:q) (hi:L[i]?=some (b,.cells cs t fr):=by exact rfl)
  (hs:cs.toList.length=size:=by exact rfl) (e:K cs.toList=q:=by conv=>lhs;whnf):LoadA w b 0 size K:=.mem h hi hs (e.mpr hk)
theorem ze {P:Program} {n:Nat} {f:FuncId} {fn:Func} {c:Code} {vs:List Value} {w:World} {R:Value→World→Prop} {q:Prop} (hf:P.funcs[f]?=some fn) (hn:fn.ntmps=n) (h:q)
  (he:qd1 P f=true:=by kernel_rfl) (hb:fn.body=some c:=by exact rfl) (hl:Nat.ble vs.length n=true:=by exact rfl) (e:qh4 P n c (q3i P n fn R) (ini vs) w=q:=by conv=>lhs;whnf):Gv P f vs w R:=gv he hf hb hn hl (e.mpr h)
theorem zy {P:Program} {n id:Nat} {ops:Array Oper} {Q:Exit→(Nat→Value)→World→Prop} {ρ:Nat→Value} {w:World} {q:Prop} (h:q) (hm:P.follows .mixedOrders=true:=by kernel_rfl) (hB:Region.lexB .any ops=true:=by kernel_rfl)
  (e:regQ P n ops.toList w.drew (fun ρ'=>Q .normal ρ' w.drew) ops.toList ρ=q:=by conv=>lhs;whnf):DrawV P n id ops Q ρ w:=.quiet hm hB (e.mpr h)
theorem xr {w:World}:Ext w w:=.refl w
theorem zf {A:(Value→World→Prop)→Prop} {K:Option Value→(Value→World→Prop)→Prop} {v:Value} {q:Prop} (hk:q) (h:A (fun u _=>u=v)) (e:K (some v) (fun u _=>u=v)=q:=by conv=>lhs;whnf):StepD A K:=.still v h (e.mpr hk)
theorem zcv {P:Program} {f:FuncId} {args:List Value} {w:World} {R K:Value→World→Prop} (h:Gv P f args w R) (hk:∀ v w',R v w'→K v w'):CallV P f args w K:=.of h hk
theorem zsd {A:(Value→World→Prop)→Prop} {K:Option Value→(Value→World→Prop)→Prop} (v:Value) (h:A (fun u _=>u=v)) (hk:K (some v) (fun u _=>u=v)):StepD A K:=.still v h hk
theorem znm {w0 w:World} {L:List (Nat × Obj)} {o:Obj} {K:Nat→World→Prop} (h:Mem w0 w L) (hk:∀ b w',Mem w0 w' ((b,o)::L)→K b w'):NewV w o K:=.mem h hk
end V
open Go.RowKit V
set_option maxRecDepth 100000
def qip (r:Int):Bool:=decide (0≤r∧r≤1114111∧(r<55296∨57343<r))
theorem qsn (r:Int) (b:Bool):b=qip r↔(b=true↔(0≤r∧r≤1114111∧(r<55296∨57343<r))):=by
 unfold qip;rw [Bool.eq_iff_iff];simp
theorem qxf (r:Int) (w:World) :
  Gv Tryz.prog 285 [.int .i32 r] w fun v w'=>v=.bool (qip r)∧w'=w:=by
 refine ze Tryz.func285 Tryz.ntmps285 ?_
 (repeat' (first|refine zp ?_|refine zC (fun _=>zw ?_) (fun _=>zw ?_)))
 all_goals (refine ⟨congrArg Value.bool ((qsn r _).2 ?_),rfl⟩;simp;try omega)
def qgh (c:Nat):Nat × Nat:=
 if c<0x80 then (1,c) else if c<0xC0 then (0,0) else if c<0xE0 then (2,c%32) else if c<0xF0 then (3,c%16) else if c<0xF8 then (4,c%8) else (0,0)
theorem qur (c:Nat) (_h:c<256):(qgh c).1≤4∧(qgh c).2<128:=by
 unfold qgh;repeat (first|split|(refine ⟨?_,?_⟩<;>dsimp only<;>omega))
theorem q4c (c:UInt8) (w:World) :
  Gv Tryz.prog 283 [.int .u8 c.toNat] w fun v w'=>v=.tuple #[ii (qgh c.toNat).1,.int .i32 (qgh c.toNat).2]∧w'=w:=by
 refine ze Tryz.func283 Tryz.ntmps283 ?_
 (repeat' (first|refine zp ?_|refine zC (fun _=>zw ?_) (fun _=>zw ?_)))
 ·exact ⟨by rw [qgh,if_pos Oo];rfl,rfl⟩
 ·exact ⟨by rw [qgh,if_neg Oo,if_pos Oo];rfl,rfl⟩
 ·refine Wit.eq (qbp 5 rfl ⟨by omega,by omega⟩ ⟨by omega,by omega⟩) (zu ?_);exact ⟨by rw [qgh,if_neg Oo,if_neg Oo,if_pos Oo];rfl,rfl⟩
 ·refine Wit.eq (qbp 4 rfl ⟨by omega,by omega⟩ ⟨by omega,by omega⟩) (zu ?_);exact ⟨by rw [qgh,if_neg Oo,if_neg Oo,if_neg Oo,if_pos Oo];rfl,rfl⟩
 ·refine Wit.eq (qbp 3 rfl ⟨by omega,by omega⟩ ⟨by omega,by omega⟩) (zu ?_);exact ⟨by rw [qgh,if_neg Oo,if_neg Oo,if_neg Oo,if_neg Oo,if_pos Oo];rfl,rfl⟩
 ·exact ⟨by rw [qgh,if_neg Oo,if_neg Oo,if_neg Oo,if_neg Oo,if_neg Oo];rfl,rfl⟩
def qus (n:Nat):Nat:=if n=2 then 0x80 else if n=3 then 0x800 else if n=4 then 0x10000 else 0
theorem q0a (n:Nat) (h:n≤4) (w:World) :
  Gv Tryz.prog 284 [ii n] w fun v w'=>v=.int .i32 (qus n)∧w'=w:=by
 refine ze Tryz.func284 Tryz.ntmps284 ?_;refine zv ?_;refine ⟨.int .i32 (qus n),?_,?_⟩
 ·obtain rfl|rfl|rfl|rfl|rfl:n=0∨n=1∨n=2∨n=3∨n=4:=by omega
  all_goals rfl
 ·(conv=>whnf);exact ⟨rfl,rfl⟩
def accR (r:Nat) (l:LB):Nat:=l.foldl (fun r c=>r*64+c.toNat%64) r
def cont (c:UInt8):Bool:=c.toNat/64==2
def decN:LB→Nat × Nat
 | []=>(0,0)
 | b::t=>
  let n:=(qgh b.toNat).1
  if n=0∨t.length<n-1 then (0,0)
  else if (t.take (n-1)).all cont then
   let r:=accR (qgh b.toNat).2 (t.take (n-1))
   if r<qus n∨qip r=false then (0,0) else (r,n)
  else (0,0)
theorem q70 (r:Nat) (l:LB):accR r l<(r+1)*64 ^ l.length:=by
 induction l generalizing r with
 | nil=>simp [accR]
 | cons c l ih=>
  have h1:=ih (r*64+c.toNat%64);have h2:c.toNat%64<64:=Nat.mod_lt _ Oo;simp only [accR,List.foldl_cons,List.length_cons] at *;refine Nat.lt_of_lt_of_le h1 ?_;rw [Nat.pow_succ,Nat.mul_comm (64 ^ _) 64,← Nat.mul_assoc];exact Nat.mul_le_mul_right _ Oo
theorem q34 {l:LB} {k:Nat} (h:k<l.length):l.take (k+1)=l.take k++[l.getD k 0]:=by
 rw [List.take_succ_eq_append_getElem h,List.getD_eq_getElem?_getD,zge h,Option.getD_some]
theorem qdm (s:ByteArray) (p:Nat) (h:p<s.size):s.data.toList.drop p=gb s p::s.data.toList.drop (p+1):=by
 have h':p<s.data.toList.length:=by simpa using h
 rw [List.drop_eq_getElem_cons h',gb,List.getD_eq_getElem?_getD,zge h',Option.getD_some]
theorem qy5 (s:ByteArray) (p k:Nat):(s.data.toList.drop p).getD k 0=gb s (p+k):=by
 simp [gb,List.getD_eq_getElem?_getD]
theorem qjm (s:ByteArray) (p:Nat):(s.data.toList.drop p).length=s.size-p:=by simp
theorem qaa7 (m:Nat) (h:m<256):m &&&192=m/64*64:=by
 have:∀ m:Fin 256,m.1 &&&192=m.1/64*64:=by decide +kernel
 exact this ⟨m,h⟩
theorem qux (s:ByteArray) (p:Nat) (hp:p<s.size) (hs:s.size≤140737488355328) (w:World) :
  Gv Tryz.prog 238 [.string s,ii p] w fun v w'=>v=.tuple #[.int .i32 (decN (s.data.toList.drop p)).1,ii (decN (s.data.toList.drop p)).2]∧w'=w:=by
 obtain ⟨t,ht⟩:∃ t,t=s.data.toList.drop (p+1):=⟨_,rfl⟩
 obtain ⟨n,hn⟩:∃ n,n=(qgh (gb s p).toNat).1:=⟨_,rfl⟩
 obtain ⟨r,hr⟩:∃ r,r=(qgh (gb s p).toNat).2:=⟨_,rfl⟩
 have hlead:=q4c (gb s p) w;have hb:=qur (gb s p).toNat (gb s p).toNat_lt;rw [← hn,← hr] at hlead hb;obtain ⟨hb1,hb2⟩:=hb;have htl:t.length=s.size-(p+1):=by rw [ht,qjm]
 have hd:decN (s.data.toList.drop p)=if n=0∨t.length<n-1 then (0,0) else if (t.take (n-1)).all cont then
   (if accR r (t.take (n-1))<qus n∨qip (accR r (t.take (n-1)))=false then (0,0) else (accR r (t.take (n-1)),n)) else (0,0):=by
  rw [qdm s p hp,← ht,hn,hr];rfl
 refine ze Tryz.func238 Tryz.ntmps238 ?_;refine zv ?_;refine zcv (hlead) ?_;rintro v w' ⟨rfl,rfl⟩;conv=>whnf
 (repeat' (first|refine zp ?_|refine zC (fun _=>zw ?_) (fun _=>zw ?_)))
 ·exact ⟨by rw [hd,if_pos Oo];rfl,rfl⟩
 ·exact ⟨by rw [hd,if_pos Oo];rfl,rfl⟩
 ·refine qw (fun k:Nat=>[(0,.string s),(1,ii p),(6,ii n),(7,.int .i32 (accR r (t.take (k-1)))),(8,ii k)])
   (fun k w1=>1≤k∧k≤n∧(t.take (k-1)).all cont=true∧w1=w') (fun k=>n-k) 1 ⟨rfl,rfl,rfl,rfl,rfl,trivial⟩ ⟨by omega,by omega,rfl,rfl⟩ ?_
  rintro k w1 ρ' ⟨h1,h2,h3,rfl⟩;have hacc:=q70 r (t.take (k-1));have hlen:(t.take (k-1)).length=k-1:=by rw [List.length_take];omega
  rw [hlen] at hacc;(conv=>whnf);refine zC (fun _=>zu ?_) (fun _=>zu ?_)
  ·refine IdxV.at_ (p+k) Oo Oo (zw ?_);have hc:(gb s (p+k)).toNat<256:=(gb s (p+k)).toNat_lt;have hg:t.getD (k-1) 0=gb s (p+k):=by rw [ht,qy5];congr 1;omega
   have ht1:t.take k=t.take (k-1)++[gb s (p+k)]:=by
    have:=q34 (l:=t) (k:=k-1) Oo;rw [hg,show k-1+1=k from by omega] at this;exact this
   have hacc2:accR r (t.take (k-1))<524288:=by
    refine Nat.lt_of_lt_of_le hacc (Nat.le_trans (Nat.mul_le_mul (Nat.succ_le_of_lt hb2) (Nat.pow_le_pow_right Oo (show k-1≤2 by omega))) Od)
   refine Wit.eq (y:=(((gb s (p+k)).toNat/64*64:Nat):Int)) (by rw [← qaa7 _ hc];exact qmv (n:=192) ⟨by omega,by omega⟩ ⟨by decide,by decide⟩) (zw ?_);refine zC (fun _=>zw ?_) (fun _=>zw ?_)
   ·refine ⟨?_,rfl⟩;rw [hd,if_neg Oo,if_neg ?_]
    ·rfl
    ·rw [Bool.not_eq_true];apply List.all_eq_false.2;refine ⟨gb s (p+k),?_,?_⟩
     ·have:gb s (p+k)∈t.take k:=by rw [ht1];simp
      exact List.mem_of_mem_take (i:=k) (by rw [List.take_take,Nat.min_eq_left Oo];exact this)
     ·simp [cont];omega
   ·refine Wit.shl ⟨by decide,by decide⟩ (m:=64) Od rfl ⟨by omega,by omega⟩ (zw ?_);refine Wit.eq (qbp 6 rfl ⟨by omega,by omega⟩ ⟨by omega,by omega⟩) (zu ?_);refine Wit.eq (y:=((accR r (t.take k):Nat):Int)) ?_ ?_
    ·have:=q3e (k:=.i32) (a:=accR r (t.take (k-1))) (b:=(gb s (p+k)).toNat%64) 6 ⟨by omega,by omega⟩ Oo;rw [ht1]
     simpa [accR] using this
    refine zu ?_;refine ⟨k+1,⟨rfl,rfl,rfl,rfl,rfl,trivial⟩,⟨by omega,by omega,?_,rfl⟩,by omega⟩;rw [show k+1-1=k from by omega,ht1,List.all_append,h3];simp [cont];omega
  ·obtain rfl:k=n:=by omega
   refine zcv (q0a k hb1 _) ?_;rintro v w' ⟨rfl,rfl⟩;(conv=>whnf);refine zC (fun _=>zu ?_) (fun _=>zu ?_)
   ·refine ⟨?_,rfl⟩;rw [hd,if_neg Oo,if_pos h3,if_pos (.inl Oo)];rfl
   ·refine zcv (qxf _ _) ?_;rintro v w' ⟨rfl,rfl⟩;(conv=>whnf);cases hsc:qip (accR r (t.take (k-1)))
    ·refine zu ?_;refine ⟨?_,rfl⟩;rw [hd,if_neg Oo,if_pos h3,if_pos (.inr hsc)];rfl
    ·refine zu ?_;refine ⟨?_,rfl⟩;rw [hd,if_neg Oo,if_pos h3,if_neg (by rw [hsc];simp;omega)]
def scal (l:LB):Option (List Nat):=
 match l with
 | []=>some []
 | b::t=>if _h:(decN (b::t)).2=0 then none else (scal ((b::t).drop (decN (b::t)).2)).map ((decN (b::t)).1::·)
termination_by l.length
decreasing_by simp;omega
theorem qrl (l:LB):(decN l).2≤l.length:=by
 unfold decN
 split
 ·simp
 ·rename_i b t
  have:=qur b.toNat b.toNat_lt;simp only
  split
  ·simp
  ·split
   ·split<;>simp;omega
   ·simp
theorem qqn {l:LB} (h:l≠[]) (h0:(decN l).2=0):scal l=none:=by
 match l,h with
 | a::t,_=>rw [scal,dif_pos h0]
theorem qk6 {l:LB} (h:l≠[]) (h0:(decN l).2≠0):scal l=(scal (l.drop (decN l).2)).map ((decN l).1::·):=by
 match l,h with
 | a::t,_=>rw [scal,dif_neg h0]
theorem qy6 (s:ByteArray) (p:Nat) (h:p<s.size):s.data.toList.drop p≠[]:=by
 rw [qdm s p h];simp
theorem qpf (s:ByteArray) (hs:s.size≤140737488355328) (w:World) :
  Gv Tryz.prog 198 [.string s] w fun v w'=>(∃ i:Int,v=ii i∧i<4611686018427387904∧(scal s.data.toList≠none→i=-1)∧(scal s.data.toList=none→0≤i))∧w'=w:=by
 refine ze Tryz.func198 Tryz.ntmps198 ?_;refine qw (fun p:Nat=>[(0,.string s),(3,ii p)]) (fun p w1=>p≤s.size∧(scal s.data.toList=none↔scal (s.data.toList.drop p)=none)∧w1=w) (fun p=>s.size-p) 0 ⟨rfl,rfl,trivial⟩ ⟨by omega,by simp,rfl⟩ ?_;rintro p w1 ρ' ⟨h1,h2,rfl⟩;(conv=>whnf);refine zC (fun _=>zw ?_) (fun _=>zw ?_)
 ·refine zcv (qux s p Oo hs _) ?_;rintro v w' ⟨rfl,rfl⟩;have hle:=qrl (s.data.toList.drop p);rw [qjm] at hle;(conv=>whnf);refine zC (fun _=>zu ?_) (fun _=>zu ?_)
  ·refine ⟨⟨p,rfl,by omega,fun h=>?_,fun _=>by omega⟩,rfl⟩;exact absurd (h2.2 (qqn (qy6 s p Oo) Oo)) h
  ·refine ⟨p+(decN (s.data.toList.drop p)).2,⟨rfl,rfl,trivial⟩,⟨by omega,?_,rfl⟩,by omega⟩;rw [h2,qk6 (qy6 s p Oo) Oo,List.drop_drop];simp
 ·refine ⟨⟨-1,rfl,by omega,fun _=>rfl,fun h=>?_⟩,rfl⟩;rw [h2,List.drop_eq_nil_of_le Ys] at h;rw [scal] at h;cases h
end Go.Proofs.YtkienlambankeaaGreatDoor
namespace Go.Proofs
open YtkienlambankeaaGreatDoor YtkienlambankeaaGreatDoor.V
open Go.Shelf
def Tryz.lays169_ren:Go.Shelf.Ren:=⟨fun|169=>218|n=>n,fun|70=>297|9=>9|0=>0|72=>299|37=>25|127=>346|3=>3|5=>5|n=>n,fun|n=>n⟩
theorem Tryz.lays169:Go.Proofs.Lays.n169 Tryz.prog Tryz.lays169_ren:={
 mixed:=by kernel_rfl
 f169:=Tryz.func218.trans (congrArg some Jk)
 t0:=Tryz.underlying0
 a0:=Tryz.isAgg0
 z0:=Tryz.sizeOf0
 v0:=Tryz.zeroValue0
 t3:=Tryz.underlying3
 a3:=Tryz.isAgg3
 z3:=Tryz.sizeOf3
 v3:=Tryz.zeroValue3
 t9:=Tryz.underlying9
 a9:=Tryz.isAgg9
 z9:=Tryz.sizeOf9
 v9:=Tryz.zeroValue9
 t37:=Tryz.underlying25
 a37:=Tryz.isAgg25
 z37:=Tryz.sizeOf25
 v37:=Tryz.zeroValue25
 t70:=Tryz.underlying297
 a70:=Tryz.isAgg297
 z70:=Tryz.sizeOf297
 v70:=Tryz.zeroValue297
 t72:=Tryz.underlying299
 a72:=Tryz.isAgg299
 z72:=Tryz.sizeOf299
 v72:=Tryz.zeroValue299
 t127:=Tryz.underlying346
 a127:=Tryz.isAgg346
 z127:=Tryz.sizeOf346
 v127:=Tryz.zeroValue346 }
theorem Tryz.Builder_Extra_169:Builder.Extra Tryz.prog Tryz.lays169_ren:={
 sizeBuilder:=by kernel_rfl
 liesBuilder:=by kernel_rfl
 t5:=Tryz.underlying5
 a5:=Tryz.isAgg5
 z5:=Tryz.sizeOf5
 v5:=Tryz.zeroValue5
 infoByte:=by kernel_rfl
 cellsByte:=by kernel_rfl
 sizeByte:=by kernel_rfl
 neB5:=by decide }
open Go.RowKit in
theorem Tryz.Builder_String_any (B b:Nat) (l:LB) (w:World) (h:Lib.IsBuilder 299 5 B b (Lib.byteCells l) w) (hBw:B≤w.heap.size) :
  Calls Tryz.prog 218 #[pp b] w fun e w'=>e=.returned (.string ⟨l.toArray⟩)∧Below B w w':=Any.Builder_String_any Tryz.lays169 Tryz.Builder_Extra_169 B b l w h hBw
def Tryz.lays165_ren:Go.Shelf.Ren:=⟨fun|165=>214|240=>260|241=>261|276=>305|277=>306|n=>n,fun|70=>297|3=>3|0=>0|4=>4|9=>9|20=>20|72=>299|37=>25|164=>267|5=>5|n=>n,fun|n=>n⟩
theorem Tryz.lays165:Go.Proofs.Lays.n165 Tryz.prog Tryz.lays165_ren:={
 mixed:=by kernel_rfl
 f165:=Tryz.func214.trans (congrArg some Jk)
 f240:=Tryz.func260.trans (congrArg some Jk)
 f241:=Tryz.func261.trans (congrArg some Jk)
 f276:=Tryz.func305.trans (congrArg some Jk)
 f277:=Tryz.func306.trans (congrArg some Jk)
 t0:=Tryz.underlying0
 a0:=Tryz.isAgg0
 z0:=Tryz.sizeOf0
 v0:=Tryz.zeroValue0
 t3:=Tryz.underlying3
 a3:=Tryz.isAgg3
 z3:=Tryz.sizeOf3
 v3:=Tryz.zeroValue3
 t4:=Tryz.underlying4
 a4:=Tryz.isAgg4
 z4:=Tryz.sizeOf4
 v4:=Tryz.zeroValue4
 t9:=Tryz.underlying9
 a9:=Tryz.isAgg9
 z9:=Tryz.sizeOf9
 v9:=Tryz.zeroValue9
 t20:=Tryz.underlying20
 a20:=Tryz.isAgg20
 z20:=Tryz.sizeOf20
 v20:=Tryz.zeroValue20
 t37:=Tryz.underlying25
 a37:=Tryz.isAgg25
 z37:=Tryz.sizeOf25
 v37:=Tryz.zeroValue25
 t70:=Tryz.underlying297
 a70:=Tryz.isAgg297
 z70:=Tryz.sizeOf297
 v70:=Tryz.zeroValue297
 t72:=Tryz.underlying299
 a72:=Tryz.isAgg299
 z72:=Tryz.sizeOf299
 v72:=Tryz.zeroValue299
 t164:=Tryz.underlying267
 a164:=Tryz.isAgg267
 z164:=Tryz.sizeOf267
 v164:=Tryz.zeroValue267 }
theorem Tryz.Builder_Extra_165:Builder.Extra Tryz.prog Tryz.lays165_ren:={
 sizeBuilder:=by kernel_rfl
 liesBuilder:=by kernel_rfl
 t5:=Tryz.underlying5
 a5:=Tryz.isAgg5
 z5:=Tryz.sizeOf5
 v5:=Tryz.zeroValue5
 infoByte:=by kernel_rfl
 cellsByte:=by kernel_rfl
 sizeByte:=by kernel_rfl
 neB5:=by decide }
open Go.RowKit in
theorem Tryz.Builder_Grow_fresh (B b n:Nat) (w:World) (hB:B≤b) (hbk:w.heap[b]?=some (.cells #[.pointer none,.slice none 0 0] 299)) (hBw:B≤w.heap.size) (hn:n≤281474976710656) :
  Calls Tryz.prog 214 #[pp b,ii n] w fun e w'=>e=.returned (.tuple #[])∧(Lib.BuilderAt 299 5 B b (pp b) [] w'∧Below B w w'):=Any.Builder_Grow_fresh Tryz.lays165 Tryz.Builder_Extra_165 B b n w hB hbk hBw hn
def Tryz.lays119_ren:Go.Shelf.Ren:=⟨fun|119=>323|n=>n,fun|21=>21|4=>4|n=>n,fun|n=>n⟩
theorem Tryz.lays119:Go.Proofs.Lays.n119 Tryz.prog Tryz.lays119_ren:={
 mixed:=by kernel_rfl
 f119:=Tryz.func323.trans (congrArg some Jk)
 t4:=Tryz.underlying4
 a4:=Tryz.isAgg4
 z4:=Tryz.sizeOf4
 v4:=Tryz.zeroValue4
 t21:=Tryz.underlying21
 a21:=Tryz.isAgg21
 z21:=Tryz.sizeOf21
 v21:=Tryz.zeroValue21 }
theorem Tryz.utf8_ValidRune (r:Int) (w:World) :
  Calls Tryz.prog 323 #[.int .i32 r] w fun e w'=>e=.returned (.bool (Lib.validRune r))∧w'=w:=Any.utf8_ValidRune Tryz.lays119 r w
def Tryz.lays213_ren:Go.Shelf.Ren:=⟨fun|213=>203|265=>246|n=>n,fun|9=>9|3=>3|n=>n,fun|n=>n⟩
def Tryz.lays106_ren:Go.Shelf.Ren:=⟨fun|106=>154|213=>203|265=>246|n=>n,fun|9=>9|3=>3|n=>n,fun|n=>n⟩
theorem Tryz.lays106:Go.Proofs.Lays.n106 Tryz.prog Tryz.lays106_ren:={
 mixed:=by kernel_rfl
 f106:=Tryz.func154.trans (congrArg some Jk)
 f213:=Tryz.func203.trans (congrArg some Jk)
 f265:=Tryz.func246.trans (congrArg some Jk)
 t3:=Tryz.underlying3
 a3:=Tryz.isAgg3
 z3:=Tryz.sizeOf3
 v3:=Tryz.zeroValue3
 t9:=Tryz.underlying9
 a9:=Tryz.isAgg9
 z9:=Tryz.sizeOf9
 v9:=Tryz.zeroValue9 }
open Go.RowKit in
theorem Tryz.strings_Compare (a b:ByteArray) (w:World) :
  Calls Tryz.prog 154 #[.string a,.string b] w fun e w'=>e=.returned (ii (Lib.compareBytes a.data.toList b.data.toList))∧w'=w:=Any.strings_Compare Tryz.lays106 a b w
def Tryz.lays137_ren:Go.Shelf.Ren:=⟨fun|137=>322|217=>296|266=>317|n=>n,fun|9=>9|5=>5|3=>3|n=>n,fun|n=>n⟩
theorem Tryz.lays137:Go.Proofs.Lays.n137 Tryz.prog Tryz.lays137_ren:={
 mixed:=by kernel_rfl
 f137:=Tryz.func322.trans (congrArg some Jk)
 f217:=Tryz.func296.trans (congrArg some Jk)
 f266:=Tryz.func317.trans (congrArg some Jk)
 t3:=Tryz.underlying3
 a3:=Tryz.isAgg3
 z3:=Tryz.sizeOf3
 v3:=Tryz.zeroValue3
 t5:=Tryz.underlying5
 a5:=Tryz.isAgg5
 z5:=Tryz.sizeOf5
 v5:=Tryz.zeroValue5
 t9:=Tryz.underlying9
 a9:=Tryz.isAgg9
 z9:=Tryz.sizeOf9
 v9:=Tryz.zeroValue9 }
open Go.RowKit in
theorem Tryz.strings_IndexByte (s:ByteArray) (c:Int) (w:World) :
  Calls Tryz.prog 322 #[.string s,.int .u8 c] w fun e w'=>e=.returned (ii (Lib.indexByte s.data.toList c.toNat.toUInt8))∧w'=w:=Any.strings_IndexByte Tryz.lays137 s c w
def Tryz.lays129_ren:Go.Shelf.Ren:=⟨fun|129=>126|n=>n,fun|53=>51|3=>3|4=>4|46=>102|5=>5|9=>9|n=>n,fun|n=>n⟩
theorem Tryz.lays129:Go.Proofs.Lays.n129 Tryz.prog Tryz.lays129_ren:={
 mixed:=by kernel_rfl
 f129:=Tryz.func126.trans (congrArg some Jk)
 t3:=Tryz.underlying3
 a3:=Tryz.isAgg3
 z3:=Tryz.sizeOf3
 v3:=Tryz.zeroValue3
 t4:=Tryz.underlying4
 a4:=Tryz.isAgg4
 z4:=Tryz.sizeOf4
 v4:=Tryz.zeroValue4
 t5:=Tryz.underlying5
 a5:=Tryz.isAgg5
 z5:=Tryz.sizeOf5
 v5:=Tryz.zeroValue5
 t9:=Tryz.underlying9
 a9:=Tryz.isAgg9
 z9:=Tryz.sizeOf9
 v9:=Tryz.zeroValue9
 t46:=Tryz.underlying102
 a46:=Tryz.isAgg102
 z46:=Tryz.sizeOf102
 v46:=Tryz.zeroValue102
 t53:=Tryz.underlying51
 a53:=Tryz.isAgg51
 z53:=Tryz.sizeOf51
 v53:=Tryz.zeroValue51 }
theorem Tryz.bits_Len64 (x:Int) (w:World) (h0:0≤x) (h1:x≤18446744073709551615) :
  Calls Tryz.prog 126 #[.int .u64 x] w fun e w'=>e=.returned (ii (Lib.bitLen x.toNat))∧w'=w:=Any.bits_Len64 Tryz.lays129 x w h0 h1
def Tryz.lays219_ren:Go.Shelf.Ren:=⟨fun|219=>247|217=>296|225=>297|224=>298|267=>299|266=>317|314=>318|n=>n,fun|9=>9|3=>3|4=>4|5=>5|46=>102|146=>382|51=>45|n=>n,fun|1=>3|n=>n⟩
def Tryz.lays143_ren:Go.Shelf.Ren:=⟨fun|143=>215|219=>247|217=>296|225=>297|224=>298|267=>299|266=>317|314=>318|n=>n,fun|9=>9|3=>3|4=>4|5=>5|46=>102|146=>382|51=>45|n=>n,fun|1=>3|n=>n⟩
theorem Tryz.lays143:Go.Proofs.Lays.n143 Tryz.prog Tryz.lays143_ren:={
 mixed:=by kernel_rfl
 f143:=Tryz.func215.trans (congrArg some Jk)
 f217:=Tryz.func296.trans (congrArg some Jk)
 f219:=Tryz.func247.trans (congrArg some Jk)
 f224:=Tryz.func298.trans (congrArg some Jk)
 f225:=Tryz.func297.trans (congrArg some Jk)
 f266:=Tryz.func317.trans (congrArg some Jk)
 f267:=Tryz.func299.trans (congrArg some Jk)
 f314:=Tryz.func318.trans (congrArg some Jk)
 t3:=Tryz.underlying3
 a3:=Tryz.isAgg3
 z3:=Tryz.sizeOf3
 v3:=Tryz.zeroValue3
 t4:=Tryz.underlying4
 a4:=Tryz.isAgg4
 z4:=Tryz.sizeOf4
 v4:=Tryz.zeroValue4
 t5:=Tryz.underlying5
 a5:=Tryz.isAgg5
 z5:=Tryz.sizeOf5
 v5:=Tryz.zeroValue5
 t9:=Tryz.underlying9
 a9:=Tryz.isAgg9
 z9:=Tryz.sizeOf9
 v9:=Tryz.zeroValue9
 t46:=Tryz.underlying102
 a46:=Tryz.isAgg102
 z46:=Tryz.sizeOf102
 v46:=Tryz.zeroValue102
 t51:=Tryz.underlying45
 a51:=Tryz.isAgg45
 z51:=Tryz.sizeOf45
 v51:=Tryz.zeroValue45
 t146:=Tryz.underlying382
 a146:=Tryz.isAgg382
 z146:=Tryz.sizeOf382
 v146:=Tryz.zeroValue382
 g1:=by kernel_rfl }
open Go.RowKit Go.Lib in
theorem Tryz.strings_Index (s sub:ByteArray) (m:Int) (w:World) (hs:s.size<4294967281) (hm:w.cell? ⟨3,0,none⟩=some (ii m)) :
  Calls Tryz.prog 215 #[.string s,.string sub] w fun e w'=>e=.returned (ii (Lib.index s.data.toList sub.data.toList))∧w'=w:=Any.strings_Index Tryz.lays143 s sub m w hs hm
def Tryz.lays145_ren:Go.Shelf.Ren:=⟨fun|145=>169|220=>208|219=>247|217=>296|225=>297|224=>298|267=>299|266=>317|314=>318|n=>n,fun|9=>9|4=>4|59=>257|3=>3|5=>5|46=>102|146=>382|51=>45|n=>n,fun|1=>3|n=>n⟩
theorem Tryz.lays145:Go.Proofs.Lays.n145 Tryz.prog Tryz.lays145_ren:={
 mixed:=by kernel_rfl
 f145:=Tryz.func169.trans (congrArg some Jk)
 f217:=Tryz.func296.trans (congrArg some Jk)
 f219:=Tryz.func247.trans (congrArg some Jk)
 f220:=Tryz.func208.trans (congrArg some Jk)
 f224:=Tryz.func298.trans (congrArg some Jk)
 f225:=Tryz.func297.trans (congrArg some Jk)
 f266:=Tryz.func317.trans (congrArg some Jk)
 f267:=Tryz.func299.trans (congrArg some Jk)
 f314:=Tryz.func318.trans (congrArg some Jk)
 t3:=Tryz.underlying3
 a3:=Tryz.isAgg3
 z3:=Tryz.sizeOf3
 v3:=Tryz.zeroValue3
 t4:=Tryz.underlying4
 a4:=Tryz.isAgg4
 z4:=Tryz.sizeOf4
 v4:=Tryz.zeroValue4
 t5:=Tryz.underlying5
 a5:=Tryz.isAgg5
 z5:=Tryz.sizeOf5
 v5:=Tryz.zeroValue5
 t9:=Tryz.underlying9
 a9:=Tryz.isAgg9
 z9:=Tryz.sizeOf9
 v9:=Tryz.zeroValue9
 t46:=Tryz.underlying102
 a46:=Tryz.isAgg102
 z46:=Tryz.sizeOf102
 v46:=Tryz.zeroValue102
 t51:=Tryz.underlying45
 a51:=Tryz.isAgg45
 z51:=Tryz.sizeOf45
 v51:=Tryz.zeroValue45
 t59:=Tryz.underlying257
 a59:=Tryz.isAgg257
 z59:=Tryz.sizeOf257
 v59:=Tryz.zeroValue257
 t146:=Tryz.underlying382
 a146:=Tryz.isAgg382
 z146:=Tryz.sizeOf382
 v146:=Tryz.zeroValue382
 g1:=by kernel_rfl }
open Go.RowKit Go.Lib in
theorem Tryz.strings_Cut (s sep:ByteArray) (m:Int) (w:World) (hs:s.size<4294967281) (hm:w.cell? ⟨3,0,none⟩=some (ii m)) :
  Calls Tryz.prog 169 #[.string s,.string sep] w fun e w'=>e=.returned (.tuple #[.string ⟨(Lib.cut s.data.toList sep.data.toList).1.toArray⟩,.string ⟨(Lib.cut s.data.toList sep.data.toList).2.1.toArray⟩,.bool (Lib.cut s.data.toList sep.data.toList).2.2])∧∃ n,w'=w.drewN n:=Any.strings_Cut Tryz.lays145 s sep m w hs hm
def Tryz.lays138_ren:Go.Shelf.Ren:=⟨fun|138=>213|195=>258|218=>259|143=>215|219=>247|217=>296|225=>297|224=>298|267=>299|266=>317|314=>318|n=>n,fun|9=>9|3=>3|4=>4|5=>5|0=>0|46=>102|146=>382|51=>45|n=>n,fun|1=>3|n=>n⟩
theorem Tryz.lays138:Go.Proofs.Lays.n138 Tryz.prog Tryz.lays138_ren:={
 mixed:=by kernel_rfl
 f138:=Tryz.func213.trans (congrArg some Jk)
 f143:=Tryz.func215.trans (congrArg some Jk)
 f195:=Tryz.func258.trans (congrArg some Jk)
 f217:=Tryz.func296.trans (congrArg some Jk)
 f218:=Tryz.func259.trans (congrArg some Jk)
 f219:=Tryz.func247.trans (congrArg some Jk)
 f224:=Tryz.func298.trans (congrArg some Jk)
 f225:=Tryz.func297.trans (congrArg some Jk)
 f266:=Tryz.func317.trans (congrArg some Jk)
 f267:=Tryz.func299.trans (congrArg some Jk)
 f314:=Tryz.func318.trans (congrArg some Jk)
 t0:=Tryz.underlying0
 a0:=Tryz.isAgg0
 z0:=Tryz.sizeOf0
 v0:=Tryz.zeroValue0
 t3:=Tryz.underlying3
 a3:=Tryz.isAgg3
 z3:=Tryz.sizeOf3
 v3:=Tryz.zeroValue3
 t4:=Tryz.underlying4
 a4:=Tryz.isAgg4
 z4:=Tryz.sizeOf4
 v4:=Tryz.zeroValue4
 t5:=Tryz.underlying5
 a5:=Tryz.isAgg5
 z5:=Tryz.sizeOf5
 v5:=Tryz.zeroValue5
 t9:=Tryz.underlying9
 a9:=Tryz.isAgg9
 z9:=Tryz.sizeOf9
 v9:=Tryz.zeroValue9
 t46:=Tryz.underlying102
 a46:=Tryz.isAgg102
 z46:=Tryz.sizeOf102
 v46:=Tryz.zeroValue102
 t51:=Tryz.underlying45
 a51:=Tryz.isAgg45
 z51:=Tryz.sizeOf45
 v51:=Tryz.zeroValue45
 t146:=Tryz.underlying382
 a146:=Tryz.isAgg382
 z146:=Tryz.sizeOf382
 v146:=Tryz.zeroValue382
 g1:=by kernel_rfl }
open Go.RowKit Go.Lib in
theorem Tryz.strings_Count_any (s sep:ByteArray) (m:Int) (w:World) (hs:s.size<4294967281) (hm:w.cell? ⟨3,0,none⟩=some (ii m)) (h1:1≤sep.size) :
  Calls Tryz.prog 213 #[.string s,.string sep] w fun e w'=>e=.returned (ii (Lib.countB s sep))∧w'=w:=Any.strings_Count_any Tryz.lays138 s sep m w hs hm h1
def Tryz.lays221_ren:Go.Shelf.Ren:=⟨fun|221=>286|268=>314|138=>213|143=>215|195=>258|197=>217|218=>259|219=>247|260=>262|217=>296|225=>297|224=>298|267=>299|266=>317|314=>318|n=>n,fun|9=>9|3=>3|31=>123|4=>4|0=>0|105=>302|21=>21|5=>5|46=>102|119=>371|139=>374|138=>373|146=>382|51=>45|n=>n,fun|1=>3|3=>4|4=>5|n=>n⟩
def Tryz.lays146_ren:Go.Shelf.Ren:=⟨fun|146=>239|221=>286|268=>314|138=>213|143=>215|195=>258|197=>217|218=>259|219=>247|260=>262|217=>296|225=>297|224=>298|267=>299|266=>317|314=>318|n=>n,fun|9=>9|31=>123|3=>3|4=>4|0=>0|105=>302|21=>21|5=>5|46=>102|119=>371|139=>374|138=>373|146=>382|51=>45|n=>n,fun|1=>3|3=>4|4=>5|n=>n⟩
theorem Tryz.lays146:Go.Proofs.Lays.n146 Tryz.prog Tryz.lays146_ren:={
 mixed:=by kernel_rfl
 f138:=Tryz.func213.trans (congrArg some Jk)
 f143:=Tryz.func215.trans (congrArg some Jk)
 f146:=Tryz.func239.trans (congrArg some Jk)
 f195:=Tryz.func258.trans (congrArg some Jk)
 f197:=Tryz.func217.trans (congrArg some Jk)
 f217:=Tryz.func296.trans (congrArg some Jk)
 f218:=Tryz.func259.trans (congrArg some Jk)
 f219:=Tryz.func247.trans (congrArg some Jk)
 f221:=Tryz.func286.trans (congrArg some Jk)
 f224:=Tryz.func298.trans (congrArg some Jk)
 f225:=Tryz.func297.trans (congrArg some Jk)
 f260:=Tryz.func262.trans (congrArg some Jk)
 f266:=Tryz.func317.trans (congrArg some Jk)
 f267:=Tryz.func299.trans (congrArg some Jk)
 f268:=Tryz.func314.trans (congrArg some Jk)
 f314:=Tryz.func318.trans (congrArg some Jk)
 t0:=Tryz.underlying0
 a0:=Tryz.isAgg0
 z0:=Tryz.sizeOf0
 v0:=Tryz.zeroValue0
 t3:=Tryz.underlying3
 a3:=Tryz.isAgg3
 z3:=Tryz.sizeOf3
 v3:=Tryz.zeroValue3
 t4:=Tryz.underlying4
 a4:=Tryz.isAgg4
 z4:=Tryz.sizeOf4
 v4:=Tryz.zeroValue4
 t5:=Tryz.underlying5
 a5:=Tryz.isAgg5
 z5:=Tryz.sizeOf5
 v5:=Tryz.zeroValue5
 t9:=Tryz.underlying9
 a9:=Tryz.isAgg9
 z9:=Tryz.sizeOf9
 v9:=Tryz.zeroValue9
 t21:=Tryz.underlying21
 a21:=Tryz.isAgg21
 z21:=Tryz.sizeOf21
 v21:=Tryz.zeroValue21
 t31:=Tryz.underlying123
 a31:=Tryz.isAgg123
 z31:=Tryz.sizeOf123
 v31:=Tryz.zeroValue123
 t46:=Tryz.underlying102
 a46:=Tryz.isAgg102
 z46:=Tryz.sizeOf102
 v46:=Tryz.zeroValue102
 t51:=Tryz.underlying45
 a51:=Tryz.isAgg45
 z51:=Tryz.sizeOf45
 v51:=Tryz.zeroValue45
 t105:=Tryz.underlying302
 a105:=Tryz.isAgg302
 z105:=Tryz.sizeOf302
 v105:=Tryz.zeroValue302
 t119:=Tryz.underlying371
 a119:=Tryz.isAgg371
 z119:=Tryz.sizeOf371
 t138:=Tryz.underlying373
 a138:=Tryz.isAgg373
 z138:=Tryz.sizeOf373
 v138:=Tryz.zeroValue373
 t139:=Tryz.underlying374
 a139:=Tryz.isAgg374
 z139:=Tryz.sizeOf374
 v139:=Tryz.zeroValue374
 t146:=Tryz.underlying382
 a146:=Tryz.isAgg382
 z146:=Tryz.sizeOf382
 v146:=Tryz.zeroValue382
 g1:=by kernel_rfl
 g3:=by kernel_rfl
 g4:=by kernel_rfl }
open Go.RowKit Go.Lib in
theorem Tryz.strings_Split (s sep:ByteArray) (m:Int) (w:World) (hs:s.size<4294967281) (hm:w.cell? ⟨3,0,none⟩=some (ii m)) (h1:1≤sep.size) :
  Calls Tryz.prog 239 #[.string s,.string sep] w fun e w'=>
   e=.returned (.slice (some ⟨w.heap.size,0,none⟩) (Lib.countB s sep+1) (Lib.countB s sep+1))∧w'=w.alloc (.cells ((Lib.splitB sep 0 (Lib.countB s sep) s).map Value.string).toArray 9):=Any.strings_Split Tryz.lays146 Jk s sep m w hs hm h1
def Tryz.lays151_ren:Go.Shelf.Ren:=⟨fun|151=>279|152=>312|137=>322|119=>323|224=>298|225=>297|217=>296|266=>317|n=>n,fun|9=>9|21=>21|4=>4|3=>3|5=>5|0=>0|46=>102|n=>n,fun|n=>n⟩
theorem Tryz.lays151:Go.Proofs.Lays.n151 Tryz.prog Tryz.lays151_ren:={
 mixed:=by kernel_rfl
 f119:=Tryz.func323.trans (congrArg some Jk)
 f137:=Tryz.func322.trans (congrArg some Jk)
 f151:=Tryz.func279.trans (congrArg some Jk)
 f152:=Tryz.func312.trans (congrArg some Jk)
 f217:=Tryz.func296.trans (congrArg some Jk)
 f224:=Tryz.func298.trans (congrArg some Jk)
 f225:=Tryz.func297.trans (congrArg some Jk)
 f266:=Tryz.func317.trans (congrArg some Jk)
 t0:=Tryz.underlying0
 a0:=Tryz.isAgg0
 z0:=Tryz.sizeOf0
 v0:=Tryz.zeroValue0
 t3:=Tryz.underlying3
 a3:=Tryz.isAgg3
 z3:=Tryz.sizeOf3
 v3:=Tryz.zeroValue3
 t4:=Tryz.underlying4
 a4:=Tryz.isAgg4
 z4:=Tryz.sizeOf4
 v4:=Tryz.zeroValue4
 t5:=Tryz.underlying5
 a5:=Tryz.isAgg5
 z5:=Tryz.sizeOf5
 v5:=Tryz.zeroValue5
 t9:=Tryz.underlying9
 a9:=Tryz.isAgg9
 z9:=Tryz.sizeOf9
 v9:=Tryz.zeroValue9
 t21:=Tryz.underlying21
 a21:=Tryz.isAgg21
 z21:=Tryz.sizeOf21
 v21:=Tryz.zeroValue21
 t46:=Tryz.underlying102
 a46:=Tryz.isAgg102
 z46:=Tryz.sizeOf102
 v46:=Tryz.zeroValue102 }
open Go.RowKit Go.Lib in
theorem Tryz.strings_ContainsRune_ascii (s:ByteArray) (r:Int) (w:World) (h0:0≤r) (h1:r<128) :
  Calls Tryz.prog 279 #[.string s,.int .i32 r] w fun e w'=>e=.returned (.bool (decide (0≤Lib.indexByte s.data.toList r.toNat.toUInt8)))∧w'=w:=Any.strings_ContainsRune_ascii Tryz.lays151 s r w h0 h1
def Tryz.lays110_ren:Go.Shelf.Ren:=⟨fun|110=>293|109=>316|n=>n,fun|31=>123|9=>9|4=>4|3=>3|0=>0|n=>n,fun|n=>n⟩
theorem Tryz.lays110:Go.Proofs.Lays.n110 Tryz.prog Tryz.lays110_ren:={
 mixed:=by kernel_rfl
 f109:=Tryz.func316.trans (congrArg some Jk)
 f110:=Tryz.func293.trans (congrArg some Jk)
 t0:=Tryz.underlying0
 a0:=Tryz.isAgg0
 z0:=Tryz.sizeOf0
 v0:=Tryz.zeroValue0
 t3:=Tryz.underlying3
 a3:=Tryz.isAgg3
 z3:=Tryz.sizeOf3
 v3:=Tryz.zeroValue3
 t4:=Tryz.underlying4
 a4:=Tryz.isAgg4
 z4:=Tryz.sizeOf4
 v4:=Tryz.zeroValue4
 t9:=Tryz.underlying9
 a9:=Tryz.isAgg9
 z9:=Tryz.sizeOf9
 v9:=Tryz.zeroValue9
 t31:=Tryz.underlying123
 a31:=Tryz.isAgg123
 z31:=Tryz.sizeOf123
 v31:=Tryz.zeroValue123 }
open Go.Lib in
theorem Tryz.slices_Contains_string (b off n c:Nat) (zs:List ByteArray) (x:ByteArray) (w:World) (hz:n≤zs.length) (hbig:n≤9223372036854775807) (hc:∀ j,j<zs.length→w.cell? ⟨b,off+j,none⟩=some (.string (zs.getD j ByteArray.empty))) :
  Calls Tryz.prog 293 #[.slice (some ⟨b,off,none⟩) n c,.string x] w fun e w'=>e=.returned (.bool (Lib.containsS (zs.take n) x))∧w'=w:=Any.slices_Contains_string Tryz.lays110 b off n c zs x w hz hbig hc
open Go.Lib in
theorem Tryz.slices_Contains_string_empty (a:oA) (c:Nat) (x:ByteArray) (w:World) :
  Calls Tryz.prog 293 #[.slice a 0 c,.string x] w fun e w'=>e=.returned (.bool false)∧w'=w:=Any.slices_Contains_string_empty Tryz.lays110 a c x w
end Go.Proofs
namespace Go.Proofs.YtkienlambankeaaGreatDoor
open Go.RowKit V
set_option maxRecDepth 100000
theorem qwg {P:Program} {f:FuncId} {vs:List Value} {w:World} {v:Value} (he:qd1 P f=true) (h:Calls P f vs.toArray w fun e w'=>e=.returned v∧w'=w) :
  Gv P f vs w fun u w'=>u=v∧w'=w:=⟨he,h.mono fun _ _ ⟨h1,h2⟩=>⟨v,h1,rfl,h2⟩⟩
def signs:ByteArray:=⟨#[60,62,34,123,125,124,94,96,92]⟩
theorem qng (s:ByteArray) (c:Int) (w:World) :
  Gv Tryz.prog 322 [.string s,.int .u8 c] w fun v w'=>v=ii (Lib.indexByte s.data.toList c.toNat.toUInt8)∧w'=w:=
 qwg Jk (Tryz.strings_IndexByte s c w)
theorem qos (r:Int) (w:World) :
  Gv Tryz.prog 323 [.int .i32 r] w fun v w'=>v=.bool (Lib.validRune r)∧w'=w:=
 qwg Jk (Tryz.utf8_ValidRune r w)
theorem qrn (r:Nat) (h:128≤r):2≤(Utf8.encode r).size∧(Utf8.encode r).size≤4∧128≤(gb (Utf8.encode r) ((Utf8.encode r).size-1)).toNat:=by
 unfold Utf8.encode;simp only;obtain ⟨c,hc,hc2⟩:∃ c,(if Utf8.valid r=true then (r:Int).toNat else Utf8.runeError)=c∧128≤c:=by
  refine ⟨_,rfl,?_⟩
  split
  ·simpa using h
  ·decide
 rw [hc];rw [if_neg Oo];have hm:c%64<64:=Nat.mod_lt _ Oo
 split
 ·refine ⟨show 2≤2 by decide,show 2≤4 by decide,?_⟩;show 128≤(UInt8.ofNat (0x80+c%64)).toNat;rw [UInt8.toNat_ofNat',Nat.mod_eq_of_lt Oo];omega
 ·split
  ·refine ⟨show 2≤3 by decide,show 3≤4 by decide,?_⟩;show 128≤(UInt8.ofNat (0x80+c%64)).toNat;rw [UInt8.toNat_ofNat',Nat.mod_eq_of_lt Oo];omega
  ·refine ⟨show 2≤4 by decide,show 4≤4 by decide,?_⟩;show 128≤(UInt8.ofNat (0x80+c%64)).toNat;rw [UInt8.toNat_ofNat',Nat.mod_eq_of_lt Oo];omega
theorem qqt:∀ pos:Fin 9,(Utf8.decode signs pos.1).2=1∧(Utf8.decode signs pos.1).1<128:=by decide
theorem qqu:∀ pos:Fin 9,(gb signs pos.1).toNat<128:=by decide
theorem qqs:∀ y∈signs.data.toList,y.toNat<128:=by
 intro y hy;simp only [signs,List.mem_cons,List.not_mem_nil,or_false] at hy
 rcases hy with rfl|rfl|rfl|rfl|rfl|rfl|rfl|rfl|rfl<;>decide
theorem qlm (l:LB) (c:UInt8) (h:∀ x∈l,x≠c):Lib.indexByte l c=-1:=by
 induction l with
 | nil=>rfl
 | cons x l ih=>
  have h1:(x==c)=false:=by simpa using h x Js
  have h2:=ih fun y hy=>h y (by simp [hy])
  simp only [Lib.indexByte,h1,h2];simp
theorem qln (r:Nat) (h0:128≤r) (h1:r≤1114111) (w:World) :
  Gv Tryz.prog 312 [.string signs,.int .i32 r] w fun v w'=>v=ii (-1)∧Ext w w':=by
 have he:=qrn r h0;refine ze Tryz.func312 Tryz.ntmps312 ?_;refine zY (fun _=>?_);(conv=>whnf);(iterate 2 (refine zT ?_;(conv=>whnf)));refine zN (fun _=>?_);(conv=>whnf);refine zC (fun _=>?_) (fun _=>?_)<;>(conv=>whnf)
 ·refine znm (Mem.nil w) fun b w1 hm=>zw ?_;refine qw (fun pos:Nat=>[(175,pp b)]) (fun pos w2=>pos≤9∧Mem w w2 [(b,.stringIter signs pos)]) (fun pos=>9-pos) 0 ⟨rfl,trivial⟩ ⟨by omega,hm⟩ ?_;rintro pos w2 ρ' ⟨hp,hm⟩;(conv=>whnf);refine NextS.mem hm (i:=0) rfl ?_ ?_
  ·intro hlt w3 hm3;have hlt':pos<9:=hlt;have hd:=qqt ⟨pos,hlt'⟩;simp only at hd;rw [hd.1] at hm3;(conv=>whnf);refine zT ?_;(conv=>whnf);refine zN (fun _=>?_);(conv=>whnf);exact ⟨pos+1,⟨rfl,trivial⟩,⟨by omega,hm3⟩,by omega⟩
  ·intro hge;(conv=>whnf);refine zU ?_;(conv=>whnf);exact ⟨rfl,hm.ext⟩
 ·refine zcv (qos _ _) ?_;rintro v w1 ⟨rfl,rfl⟩;(conv=>whnf);cases hv:Lib.validRune r
  ·(conv=>whnf);refine zP ?_;refine zU ?_;(conv=>whnf);exact ⟨rfl,xr⟩
  ·(conv=>whnf);refine zP ?_;refine zT ?_;(conv=>whnf);refine ScopeV.straight (zw ?_);refine zA ?_;(conv=>whnf);have hsg:signs.size=9:=rfl;refine qw (fun _:Unit=>[(0,.string signs),(7,.string (Utf8.encode r)),(8,ii ((Utf8.encode r).size-1)),(9,ii ((Utf8.encode r).size-1))]) (fun _ w2=>w2=w1) (fun _=>0) () ⟨rfl,rfl,rfl,rfl,trivial⟩ rfl ?_;rintro _ w2 ρ' rfl;(conv=>whnf);refine zY (fun _=>?_);(conv=>whnf);refine ScopeV.straight (zw ?_);refine zy ?_;(iterate 2 (refine zW ?_;(conv=>whnf)));refine IdxV.at_ ((Utf8.encode r).size-1) Oo Oo (zw ?_);(iterate 3 (refine zW ?_;(conv=>whnf)));refine IdxV.at_ ((Utf8.encode r).size-1) Oo Oo (zw ?_);(iterate 2 (refine zW ?_;(conv=>whnf)));refine zC (fun _=>?_) (fun _=>?_)<;>(conv=>whnf)
   have hlow:=qqu ⟨(Utf8.encode r).size-1,by omega⟩;simp only at hlow
   ·refine zy ?_;(iterate 2 (refine zW ?_;(conv=>whnf)));refine zA ?_;(conv=>whnf);refine zW ?_;(conv=>whnf);refine SliceS.at_ (Utf8.encode r).size 9 (show (((Utf8.encode (r:Int)).size:Int)-1+1:Int)=((Utf8.encode (r:Int)).size:Int) by omega) rfl Oo Od (zw ?_);(iterate 3 (refine zW ?_;(conv=>whnf)));refine IdxV.at_ ((Utf8.encode r).size-1) Oo Oo (zw ?_);refine zW ?_;(conv=>whnf);refine ⟨_,qng _ _ _,?_⟩;rw [qlm]
    ·(conv=>whnf);refine zW ?_;(conv=>whnf);refine zY (fun _=>?_);(conv=>whnf);exact ⟨rfl,xr.drew.drew⟩
    ·intro x hx e;rw [Lib.extract_data] at hx;have hx1:=List.mem_of_mem_take hx;have h2:=qqs x (List.mem_of_mem_drop hx1);rw [e] at h2;have h3:((((gb (Utf8.encode (r:Int)) ((Utf8.encode (r:Int)).size-1)).toNat:Int)).toNat.toUInt8).toNat=(gb (Utf8.encode (r:Int)) ((Utf8.encode (r:Int)).size-1)).toNat:=by
      rw [Int.toNat_natCast];simp
     omega
   ·have hlow:=qqu ⟨(Utf8.encode r).size-1,by omega⟩;simp only at hlow;omega
theorem qp2 (l:LB) (c:UInt8):-1≤Lib.indexByte l c:=by
 induction l with
 | nil=>exact Int.le_refl _
 | cons x l ih=>
  simp only [Lib.indexByte]
  split
  ·omega
  ·split<;>omega
theorem qnh (l:LB) (c:UInt8):0≤Lib.indexByte l c↔c∈l:=by
 induction l with
 | nil=>simp [Lib.indexByte]
 | cons x l ih=>
  simp only [Lib.indexByte,List.mem_cons]
  by_cases h:x=c
  ·subst h;simp
  ·have h1:(x==c)=false:=by simpa using h
   have h2:¬ c=x:=fun e=>h e.symm
   rw [h1];simp only [Bool.false_eq_true,if_false,h2,false_or,← ih];have hge:=qp2 l c
   split
   ·rename_i e;simp at e;omega
   ·rename_i e;simp at e;omega
def barB (c:UInt8):Bool:=decide (c.toNat≤32∨c∈signs.data.toList)
def barR (r:Nat):Bool:=decide (r<128)&&barB (UInt8.ofNat r)
theorem qpj (r:Nat) (h1:r≤1114111) (w:World) :
  Gv Tryz.prog 279 [.string signs,.int .i32 r] w fun v w'=>v=.bool (decide (r<128∧UInt8.ofNat r∈signs.data.toList))∧Ext w w':=by
 by_cases h:r<128
 ·have hk:=Tryz.strings_ContainsRune_ascii signs (r:Int) w Oo Oo;refine (qwg Jk hk).mono ?_;rintro v w' ⟨rfl,rfl⟩;refine ⟨congrArg Value.bool ?_,xr⟩;rw [Bool.eq_iff_iff,decide_eq_true_iff,decide_eq_true_iff,qnh];simp [h]
 ·refine ze Tryz.func279 Tryz.ntmps279 ?_;refine zcv (qln r Oo h1 w) ?_;rintro v w' ⟨rfl,he⟩;(conv=>whnf);exact ⟨congrArg Value.bool (decide_eq_false (fun hh=>h hh.1)).symm,he⟩
theorem qlx (r:Nat) (h1:r≤1114111) (w:World) :
  Gv Tryz.prog 235 [.int .i32 r] w fun v w'=>v=.bool (barR r)∧Ext w w':=by
 have hn:r<128→(UInt8.ofNat r).toNat=r:=fun h=>by rw [UInt8.toNat_ofNat'];omega
 refine ze Tryz.func235 Tryz.ntmps235 ?_
 (repeat' (first|((with_reducible refine zT ?_);(conv=>whnf))|((with_reducible refine zU ?_);(conv=>whnf))|((with_reducible refine zC (fun _=>?_) (fun _=>?_))<;>first|(exfalso;omega)|(conv=>whnf))))
 ·refine ⟨congrArg Value.bool ?_,xr⟩;have:=hn Oo;simp [barR,barB,this];omega
 ·refine zcv (qpj r h1 w) ?_;rintro v w' ⟨rfl,he⟩;(conv=>whnf);refine zU ?_;(conv=>whnf);refine ⟨congrArg Value.bool ?_,he⟩
  by_cases h:r<128
  ·have:=hn h;simp [barR,barB,this,h];omega
  ·simp [barR,h]
theorem get!_gb (s:ByteArray) (k:Nat):s.get! k=gb s k:=by
 obtain ⟨⟨l⟩⟩:=s;simp [ByteArray.get!,gb,List.getD_eq_getElem?_getD,getElem!_def]
 split
 ·simp_all
 ·rename_i h;simp_all;rfl
theorem qh6 (s:ByteArray) (pos:Nat) (hb:(gb s pos).toNat<128):Utf8.decode s pos=((gb s pos).toNat,1):=by
 unfold Utf8.decode;simp only [Nat.add_zero,get!_gb];rw [if_pos hb]
theorem qj6 (s:ByteArray) (pos:Nat) (h:pos<s.size) (hb:128≤(gb s pos).toNat) :
  128≤(Utf8.decode s pos).1∧(Utf8.decode s pos).1≤1114111∧1≤(Utf8.decode s pos).2∧pos+(Utf8.decode s pos).2≤s.size∧∀ j,j<(Utf8.decode s pos).2→128≤(gb s (pos+j)).toNat:=by
 unfold Utf8.decode;simp only [Nat.add_zero,get!_gb];rw [if_neg Oo];have one:∀ j,j<1→128≤(gb s (pos+j)).toNat:=fun j hj=>by (obtain rfl:j=0:=by omega);exact hb
 have hb0:=(gb s pos).toNat_lt
 split
 ·rename_i hc
  simp only [Bool.and_eq_true,beq_iff_eq,decide_eq_true_eq] at hc
  split
  ·refine ⟨by omega,by dsimp only;omega,by dsimp only;omega,by dsimp only;omega,fun j hj=>?_⟩
   rcases Nat.lt_or_ge j 1 with h1|h1
   ·exact one j h1
   ·obtain rfl:j=1:=by dsimp only at hj;omega
    omega
  ·exact ⟨by decide,by decide,by decide,by dsimp only;omega,one⟩
 ·split
  ·rename_i hc
   simp only [Bool.and_eq_true,beq_iff_eq,decide_eq_true_eq] at hc
   split
   ·refine ⟨by dsimp only;simp at *;omega,by dsimp only;omega,by dsimp only;omega,by dsimp only;omega,fun j hj=>?_⟩
    rcases Nat.lt_or_ge j 1 with h1|h1
    ·exact one j h1
    ·obtain rfl|rfl:j=1∨j=2:=by dsimp only at hj;omega
     ·omega
     ·omega
   ·exact ⟨by decide,by decide,by decide,by dsimp only;omega,one⟩
  ·split
   ·rename_i hc
    simp only [Bool.and_eq_true,beq_iff_eq,decide_eq_true_eq] at hc
    split
    ·rename_i hv
     simp only [Bool.and_eq_true,decide_eq_true_eq,Utf8.valid,Bool.or_eq_true] at hv;refine ⟨by dsimp only;omega,by dsimp only;omega,by dsimp only;omega,by dsimp only;omega,fun j hj=>?_⟩
     rcases Nat.lt_or_ge j 1 with h1|h1
     ·exact one j h1
     ·obtain rfl|rfl|rfl:j=1∨j=2∨j=3:=by dsimp only at hj;omega
      ·omega
      ·omega
      ·omega
    ·exact ⟨by decide,by decide,by decide,by dsimp only;omega,one⟩
   ·exact ⟨by decide,by decide,by decide,by dsimp only;omega,one⟩
theorem qms (s:ByteArray) (n:Nat):∀ pos,pos+n≤s.size→(∀ j,j<n→128≤(gb s (pos+j)).toNat)→
  (s.data.toList.drop pos).any barB=(s.data.toList.drop (pos+n)).any barB:=by
 induction n with
 | zero=>intro pos _ _;rfl
 | succ n ih=>
  intro pos hle hh;have h0:=hh 0 Oo;have hb:barB (gb s pos)=false:=by
   simp only [barB,decide_eq_false_iff_not,not_or];exact ⟨by simp only [Nat.add_zero] at h0;omega,fun hm=>by have:=qqs _ hm;simp only [Nat.add_zero] at h0;omega⟩
  rw [qdm s pos Oo,List.any_cons,hb,Bool.false_or,ih (pos+1) Oo (fun j hj=>by have:=hh (j+1) Oo;rwa [show pos+1+j=pos+(j+1) from by omega])]
  congr 2;omega
theorem qni (s:ByteArray) (hs:s.size≤140737488355328) (w:World) :
  Gv Tryz.prog 234 [.string s,.func (.func 235) #[] #[]] w fun v w'=>(∃ i:Int,v=ii i∧(0≤i↔s.data.toList.any barB=true))∧Ext w w':=by
 have hin:Gv Tryz.prog 278 [.string s,.func (.func 235) #[] #[],.bool true] w fun v w'=>(∃ i:Int,v=ii i∧(0≤i↔s.data.toList.any barB=true))∧Ext w w':=by
  refine ze Tryz.func278 Tryz.ntmps278 ?_;refine znm (Mem.nil w) fun b w1 hm=>zw ?_;refine qw (fun pos:Nat=>[(1,.func (.func 235) #[] #[]),(2,.bool true),(10,pp b)])
   (fun pos w2=>pos≤s.size∧Mem w w2 [(b,.stringIter s pos)]∧s.data.toList.any barB=(s.data.toList.drop pos).any barB) (fun pos=>s.size-pos) 0 ⟨rfl,rfl,rfl,trivial⟩ ⟨by omega,hm,rfl⟩ ?_
  rintro pos w2 ρ' ⟨hp,hm,ha⟩;(conv=>whnf);refine NextS.mem hm (i:=0) rfl ?_ ?_
  ·intro hlt w3 hm3
   by_cases hb:(gb s pos).toNat<128
   ·have hd:=qh6 s pos hb;rw [hd] at hm3 ⊢;simp only at hm3 ⊢;have hbb:UInt8.ofNat (gb s pos).toNat=gb s pos:=by simp
    (conv=>whnf);refine zT ?_;(conv=>whnf);refine zcv (qlx _ Oo _) ?_;rintro v w4 ⟨rfl,he⟩;have hm4:=hm3.call he;(conv=>whnf);have hbr:barR (gb s pos).toNat=barB (gb s pos):=by rw [barR,decide_eq_true hb,hbb,Bool.true_and]
    rw [hbr];cases hbar:barB (gb s pos)
    ·(conv=>whnf);refine Tst.beqT ?_;refine zU ?_;(conv=>whnf);refine ⟨pos+1,⟨rfl,rfl,rfl,trivial⟩,⟨by omega,hm4,?_⟩,by omega⟩;rw [ha,qdm s pos hlt,List.any_cons,hbar,Bool.false_or]
    ·(conv=>whnf);refine Tst.beqT ?_;refine zT ?_;(conv=>whnf);refine ⟨⟨pos,rfl,?_⟩,hm4.ext⟩;rw [ha,qdm s pos hlt,List.any_cons,hbar];simp;try omega
   ·have hd:=qj6 s pos hlt Oo;obtain ⟨d1,d2,d3,d4,d5⟩:=hd;(conv=>whnf);refine zT ?_;(conv=>whnf);refine zcv (qlx _ d2 _) ?_;rintro v w4 ⟨rfl,he⟩;have hm4:=hm3.call he;have hbr:barR (Utf8.decode s pos).1=false:=by simp [barR];omega
    rw [hbr];(conv=>whnf);refine Tst.beqT ?_;refine zU ?_;(conv=>whnf);refine ⟨pos+(Utf8.decode s pos).2,⟨rfl,rfl,rfl,trivial⟩,⟨by omega,hm4,?_⟩,by omega⟩;rw [ha];exact qms s _ pos d4 d5
  ·intro hge;(conv=>whnf);refine zU ?_;(conv=>whnf);refine ⟨⟨-1,rfl,?_⟩,hm.ext⟩;rw [ha,List.drop_eq_nil_of_le Ys];simp
 refine ze Tryz.func234 Tryz.ntmps234 ?_;refine zcv (hin) ?_;rintro v w' ⟨⟨i,rfl,hi⟩,he⟩;(conv=>whnf);exact ⟨⟨i,rfl,hi⟩,he⟩
def refE (s:ByteArray):Nat:=
 if 65536<s.size then 2 else if scal s.data.toList=none then 40 else if s.data.toList.any barB then 50 else 0
theorem qn7 (s:ByteArray) (hs:s.size≤140737488355328) (w:World) :
  Gv Tryz.prog 195 [.string s] w fun v w'=>v=ii (refE s)∧Ext w w':=by
 refine ze Tryz.func195 Tryz.ntmps195 ?_;refine zC (fun _=>?_) (fun _=>?_)<;>(conv=>whnf)
 ·exact ⟨by rw [refE,if_pos Oo];rfl,xr⟩
 ·refine zcv (qpf s hs _) ?_;rintro v w' ⟨⟨i,rfl,h1,h2,h3⟩,rfl⟩;(conv=>whnf);refine zC (fun _=>?_) (fun _=>?_)<;>(conv=>whnf)
  ·refine ⟨?_,xr⟩;rw [refE,if_neg Oo,if_pos (by
    by_cases h:scal s.data.toList=none
    ·exact h
    ·have:=h2 h;omega)]
   rfl
  ·have hsc:scal s.data.toList≠none:=fun h=>by have:=h3 h;omega
   refine zcv (qni s hs _) ?_;rintro v w1 ⟨⟨j,rfl,hj⟩,he⟩;(conv=>whnf);refine zC (fun _=>?_) (fun _=>?_)<;>(conv=>whnf)
   ·refine ⟨?_,he⟩;rw [refE,if_neg Oo,if_neg hsc,if_pos (hj.1 Oo)];rfl
   ·refine ⟨?_,he⟩;rw [refE,if_neg Oo,if_neg hsc,if_neg (fun h=>by have:=hj.2 h;omega)];rfl
def qnm (c:UInt8):Bool:=decide (97≤c.toNat∧c.toNat≤122∨65≤c.toNat∧c.toNat≤90)
def qso (c:UInt8):Bool:=qnm c||decide (48≤c.toNat∧c.toNat≤57∨c.toNat=43∨c.toNat=45∨c.toNat=46)
def qbm:LB→Nat→Nat
 | [],_=>0
 | c::l,k=>if c.toNat=58 then k else if k=0∧qnm c=false∨qso c=false then 0 else qbm l (k+1)
theorem qxg (c:UInt8) (l:LB) (k:Nat) (h1:c.toNat≠58)
  (h2:97≤c.toNat∧c.toNat≤122∨65≤c.toNat∧c.toNat≤90∨(0<k∧(48≤c.toNat∧c.toNat≤57∨c.toNat=43∨c.toNat=45∨c.toNat=46))) :
  qbm (c::l) k=qbm l (k+1):=by
 rw [qbm,if_neg h1,if_neg];simp only [qso,qnm,Bool.or_eq_false_iff,decide_eq_false_iff_not];omega
theorem qi8 (c:UInt8) (l:LB) (k:Nat) (h1:c.toNat≠58∨k=0)
  (h2:¬ (97≤c.toNat∧c.toNat≤122∨65≤c.toNat∧c.toNat≤90∨(0<k∧(48≤c.toNat∧c.toNat≤57∨c.toNat=43∨c.toNat=45∨c.toNat=46)))) :
  qbm (c::l) k=0:=by
 rw [qbm]
 split
 ·omega
 ·rw [if_pos];simp only [qso,qnm,Bool.or_eq_false_iff,decide_eq_false_iff_not];omega
theorem qsp (c:UInt8) (l:LB) (k:Nat) (h1:c.toNat=58):qbm (c::l) k=k:=by
 rw [qbm,if_pos h1]
theorem qdo (s:ByteArray):s.extract 0 0=⟨#[]⟩:=by
 obtain ⟨⟨l⟩⟩:=s;rw [ByteArray.extract_mk];simp
theorem qxi (s:ByteArray) (hs:s.size≤140737488355328) (w:World) :
  Gv Tryz.prog 196 [.string s] w fun v w'=>v=.string (s.extract 0 (qbm s.data.toList 0))∧Ext w w':=by
 refine ze Tryz.func196 Tryz.ntmps196 ?_;refine znm (Mem.nil w) fun b w1 hm=>zw ?_;refine qw (fun pos:Nat=>[(0,.string s),(7,pp b)])
  (fun pos w2=>pos≤s.size∧Mem w w2 [(b,.stringIter s pos)]∧qbm s.data.toList 0=qbm (s.data.toList.drop pos) pos) (fun pos=>s.size-pos) 0 ⟨rfl,rfl,trivial⟩ ⟨by omega,hm,rfl⟩ ?_
 rintro pos w2 ρ' ⟨hp,hm,ha⟩;(conv=>whnf);refine NextS.mem hm (i:=0) rfl ?_ ?_
 ·intro hlt w3 hm3;have hget:=qdm s pos hlt;rw [hget] at ha
  by_cases hb:(gb s pos).toNat<128
  ·have hd:=qh6 s pos hb;rw [hd] at hm3 ⊢;simp only at hm3 ⊢;conv=>whnf
   (repeat' (first|((with_reducible refine zT ?_);(conv=>whnf))|((with_reducible refine zU ?_);(conv=>whnf))|((with_reducible refine zC (fun _=>?_) (fun _=>?_))<;>first|(exfalso;omega)|(conv=>whnf))))
   all_goals first
    | (refine ⟨pos+1,⟨rfl,rfl,trivial⟩,⟨by omega,hm3,?_⟩,by omega⟩;rw [ha];exact qxg _ _ _ Oo Oo)
    | (refine ⟨?_,hm3.ext⟩;rw [ha,qi8 _ _ _ Oo Oo,qdo])
    | (refine SliceS.at_ 0 pos rfl rfl Oo Oo ?_;(conv=>whnf);skip;exact ⟨by rw [ha,qsp _ _ _ Oo],hm3.ext⟩)
  ·obtain ⟨d1,d2,d3,d4,d5⟩:=qj6 s pos hlt Oo;generalize (Utf8.decode s pos).1=r at d1 d2 ⊢;generalize (Utf8.decode s pos).2=n at d3 d4 d5 hm3;conv=>whnf
   (repeat' (first|((with_reducible refine zT ?_);(conv=>whnf))|((with_reducible refine zU ?_);(conv=>whnf))|((with_reducible refine zC (fun _=>?_) (fun _=>?_))<;>first|(exfalso;omega)|(conv=>whnf))))
   all_goals first
    | (refine ⟨?_,hm3.ext⟩;rw [ha,qi8 _ _ _ Oo Oo,qdo])
 ·intro hge;rw [List.drop_eq_nil_of_le Ys] at ha;(conv=>whnf);refine zU ?_;(conv=>whnf);exact ⟨by rw [ha,qbm,qdo],hm.ext⟩
def iriE (s:ByteArray):Nat:=if refE s≠0 then refE s else if qbm s.data.toList 0=0 then 51 else 0
theorem qxh (l:LB) (k:Nat):qbm l k≤k+l.length:=by
 induction l generalizing k with
 | nil=>simp [qbm]
 | cons c l ih=>
  rw [qbm];have:=ih (k+1);simp only [List.length_cons]
  split
  ·omega
  ·split<;>omega
theorem qg2 (s:ByteArray) (n:Nat) (hn:n≤s.size):s.extract 0 n=⟨#[]⟩↔n=0:=by
 constructor
 ·intro h;have:=congrArg ByteArray.size h;rw [ByteArray.size_extract] at this;have h0:(ByteArray.mk #[]).size=0:=rfl;omega
 ·rintro rfl;exact qdo s
theorem qi0 (s:ByteArray) (hs:s.size≤140737488355328) (w:World) :
  Gv Tryz.prog 150 [.string s] w fun v w'=>v=ii (iriE s)∧Ext w w':=by
 refine ze Tryz.func150 Tryz.ntmps150 ?_;refine zcv (qn7 s hs _) ?_;rintro v w1 ⟨rfl,he⟩;(conv=>whnf);refine zC (fun _=>?_) (fun _=>?_)<;>(conv=>whnf)
 ·exact ⟨by rw [iriE,if_pos Oo],he⟩
 ·refine zcv (qxi s hs _) ?_;rintro v w2 ⟨rfl,he2⟩;have hle:=qxh s.data.toList 0;have hle':qbm s.data.toList 0≤s.size:=by simpa using hle
  (conv=>whnf);refine Tst.seq (fun h=>?_) (fun h=>?_)
  ·(conv=>whnf);exact ⟨by rw [iriE,if_neg Oo,if_pos ((qg2 s _ hle').1 h)];rfl,he.trans he2⟩
  ·(conv=>whnf);exact ⟨by rw [iriE,if_neg Oo,if_neg (fun e=>h ((qg2 s _ hle').2 e))];rfl,he.trans he2⟩
def es:ByteArray:=⟨#[]⟩
structure PN where
 op:Int
 iri:ByteArray
 a:Int
 b:Int
 fA:oA
 fc:Nat
 f:List ByteArray
 vA:oA
 vc:Nat
 v:List ByteArray
open Go.ChangeShapes Go.WideShapes Go.RowKit
namespace V
section
variable {H:Type} {enc:TypeId × Value→H} {P:Program}
theorem qhu (hl:laidOutB P=true) {base:Nat} {W W':World} {sp':Nat→Bool}:∀ {ts:List TypeId} {vs:List Value} {ds:List (DataW H)} {ps:List MemPlace},
  (∀ t∈ts,P.readableRec t=true∧t<P.types.size)→DataW.TrodAll enc P W base (fun _=>true) true ts vs ds ps→(∀ p∈ps,W.sameAt W' p)→(∀ p∈ps,sp' p.block=true)→
  DataW.TrodAll enc P W' base sp' true ts vs ds ps
 | [],_,_,_,_,h,_,_=>by
  obtain ⟨rfl,rfl,rfl⟩:=trodAll_nil h;exact trodAll_mk0
 | t::ts,_,_,_,hr,h,h1,h2=>by
  obtain ⟨v,vs,d,ds,p,q,rfl,rfl,rfl,ha,hb⟩:=trodAll_cons h;obtain ⟨r1,r2⟩:=hr t mh;exact ⟨p,q,WideElems.Trod_stays hl r1 r2 ha (fun x hx=>h1 x (List.mem_append_left _ hx)) (fun x hx=>h2 x (List.mem_append_left _ hx)),
   qhu hl (fun t ht=>hr t (zmc ht)) hb (fun x hx=>h1 x (List.mem_append_right _ hx)) (fun x hx=>h2 x (List.mem_append_right _ hx)),rfl⟩
theorem qsc {f:Func} {s:ChangeSpec} {apart fresh handsOn again:Bool} {W W':World} {args:Array Value} {v:Value} {ds gs:List (DataW H)} {before pa pv:List MemPlace}
  (hW:DataW.Whole enc P f.params.toList s.vars apart W args.toList ds gs before)
  (hres:∀ (b:Nat) (sp:Nat→Bool) (hd:Bool),DataW.TrodAll enc P W' b sp hd f.resultTypes.toList (v.resultList f.resultTypes.size) (s.fn H (ds++gs)).results [])
  (hargs:∀ sp:Nat→Bool,(∀ p∈before,sp p.block=true)→DataW.TrodAll enc P W' 0 sp true f.params.toList args.toList (s.fn H (ds++gs)).args pa)
  (hvars:∀ sp:Nat→Bool,(∀ p∈before,sp p.block=true)→DataW.TrodVars enc P W' sp s.vars (s.fn H (ds++gs)).vars pv)
  (hps:before=pa++pv) (he:Ext W W')
  (hok:∀ (j:Nat) (t:TypeId) (r:Value),f.resultTypes[j]?=some t→(v.resultList f.resultTypes.size)[j]?=some r→Value.okWide P W' .any 0 t r) :
  s.post enc P f apart fresh handsOn again W args v W':=by
 have hlt:=hW.lt;have hold:∀ p∈before,(fun b=>decide (b<W.heap.size)) p.block=true:=fun p hp=>by simpa using hlt p hp
 refine ⟨ds,gs,before,[],pa,pv,hW,hres _ _ _,hargs _ hold,hvars _ hold,Below.frame he _,fun _=>?_⟩;obtain ⟨_,_,_,_,_,hz,hn⟩:=hW;refine ⟨hok,_,_,([]++pa)++pv,⟨[]++pa,pv,trodAll_append (hargs _ (fun _ _=>rfl)) (hres _ _ _),hvars _ (fun _ _=>rfl),rfl,?_,?_⟩,?_⟩
 ·intro b off hp;have hp':MemPlace.cell b off∈before:=by rw [hps];simpa using hp
  rw [Below.frozen he (show (⟨b,off,none⟩:Addr).block<W.heap.size from hlt _ hp')];exact hz b off hp'
 ·intro ha;have:=hn ha;rw [hps] at this
  simpa using this
 ·intro p hp _;rw [hps]
  simpa using hp
theorem q41 {f:Func} {s:ChangeSpec} {apart fresh handsOn again:Bool} {W W':World} {args:Array Value} {v:Value} {ds gs:List (DataW H)} {before:List MemPlace} (hl:laidOutB P=true) (hr:∀ t∈f.params.toList,P.readableRec t=true∧t<P.types.size)
  (hW:DataW.Whole enc P f.params.toList s.vars apart W args.toList ds gs before) (hv:s.vars=[])
  (hres:∀ (b:Nat) (sp:Nat→Bool) (hd:Bool),DataW.TrodAll enc P W' b sp hd f.resultTypes.toList (v.resultList f.resultTypes.size) (s.fn H ds).results [])
  (hargs:(s.fn H ds).args=ds) (hvars:(s.fn H ds).vars=[]) (he:Ext W W')
  (hok:∀ (j:Nat) (t:TypeId) (r:Value),f.resultTypes[j]?=some t→(v.resultList f.resultTypes.size)[j]?=some r→Value.okWide P W' .any 0 t r) :
  s.post enc P f apart fresh handsOn again W args v W':=by
 have hlt:=hW.lt;have hW0:=hW;obtain ⟨p,q,hA,hV,hpq,_,_⟩:=hW;rw [hv] at hV;obtain ⟨rfl,rfl⟩:=trodVars_none hV;rw [List.append_nil] at hpq;subst hpq;refine qsc (pa:=before) (pv:=[]) hW0 ?_ ?_ ?_ Js he hok
 ·rw [List.append_nil];exact hres
 ·rw [List.append_nil,hargs];exact fun sp hsp=>qhu hl hr hA (fun x hx=>Below.same he (hlt x hx)) hsp
 ·rw [List.append_nil,hvars,hv];exact fun _ _=>rfl
structure Opn (enc:TypeId × Value→H) (P:Program) (w:World) (t:TypeId) (cs:List Value):Prop where
 h:∃ n d ps,DataW.trod enc P w 0 (fun _=>true) true n t cs=some (d,ps)∧∀ m∈DataW.weights P t d,m≤reachBytes
theorem qfd {t:TypeId} {d:DataW H} {m:Nat} (hm:m∈DataW.weights P t d):∀ (ts:List TypeId) (ds:List (DataW H)) (i:Nat),ts[i]?=some t→ds[i]?=some d→m∈DataW.weightsEach P ts ds
 | [],_,_,h,_=>by simp at h
 | _::_,[],_,_,h=>by simp at h
 | u::ts,x::ds,0,h,h'=>by
  simp at h h';subst h h';rw [DataW.weightsEach];exact List.mem_append_left _ hm
 | u::ts,x::ds,i+1,h,h'=>by
  rw [DataW.weightsEach];exact List.mem_append_right _ (qfd hm ts ds i (by simpa using h) (by simpa using h'))
theorem qdx {t:TypeId} {d:DataW H} {m:Nat} (hm:m∈DataW.weights P t d):∀ (ds:List (DataW H)),d∈ds→m∈DataW.weightsAll P t ds
 | [],h=>by simp at h
 | x::ds,h=>by
  rw [DataW.weightsAll]
  rcases List.mem_cons.1 h with rfl|h
  ·exact List.mem_append_left _ hm
  ·exact List.mem_append_right _ (qdx hm ds h)
section
variable {w:World} {t:TypeId}
theorem Opn.of {ts:List TypeId} {vs:List Value} {ds:List (DataW H)} {ps:List MemPlace} (h:DataW.TrodAll enc P w 0 (fun _=>true) true ts vs ds ps) (hw:(DataW.weightsEach P ts ds).all (·≤reachBytes)=true) :
  ∀ (i:Nat) u v,ts[i]?=some u→vs[i]?=some v→Opn enc P w u v.cells.toList:=by
 have key:∀ (ts:List TypeId) (vs:List Value) (ds:List (DataW H)) (ps:List MemPlace),DataW.TrodAll enc P w 0 (fun _=>true) true ts vs ds ps→(∀ m∈DataW.weightsEach P ts ds,m≤reachBytes)→
   ∀ (i:Nat) u v,ts[i]?=some u→vs[i]?=some v→Opn enc P w u v.cells.toList:=by
  intro ts
  induction ts with
  | nil=>intro vs ds ps _ _ i u v hu;simp at hu
  | cons t ts ih=>
   intro vs ds ps h hw i u v hu hv;obtain ⟨x,vs',d,ds',p,q,rfl,rfl,rfl,⟨n,ha⟩,hb⟩:=trodAll_cons h;rw [DataW.weightsEach] at hw;cases i with
   | zero=>
    simp at hu hv;subst hu hv;exact ⟨n,d,p,ha,fun m hm=>hw m (List.mem_append_left _ hm)⟩
   | succ i=>exact ih vs' ds' q hb (fun m hm=>hw m (List.mem_append_right _ hm)) i u v (by simpa using hu) (by simpa using hv)
 exact key ts vs ds ps h (fun m hm=>of_decide_eq_true (List.all_eq_true.1 hw m hm))
theorem Opn.fields {fs:Array Field} {cs:List Value} (ht:P.underlying t=some (.struct fs)) (h:Opn enc P w t cs) :
  cs.length=P.cellsOf t∧∀ (i:Nat) (f:Field),fs[i]?=some f→Opn enc P w f.type ((cs.drop f.offset).take (P.cellsOf f.type)):=by
 obtain ⟨n,d,ps,h,hw⟩:=h;obtain ⟨xs,n,_,hd,hl,hlen,hf⟩:=DataW.trod_struct ht h;simp only [Prod.mk.injEq] at hd;obtain ⟨rfl,rfl⟩:=hd;refine ⟨hl,fun i f hi=>?_⟩;have hil:i<xs.length:=by
  rw [hlen];exact (Array.getElem?_eq_some_iff.1 hi).1
 refine ⟨n,xs[i].1,xs[i].2,by rw [hf i f hi,zge hil],fun m hm=>hw m ?_⟩;rw [DataW.weights,ht];exact qfd hm _ _ i (by rw [List.getElem?_map,Array.getElem?_toList,hi];rfl) (by rw [List.getElem?_map,zge hil];rfl)
theorem Opn.string {c:Value} (ht:P.underlying t=some .string) (h:Opn enc P w t [c]):∃ s:ByteArray,c=.string s∧s.size≤140737488355328:=by
 obtain ⟨n,d,ps,h,hw⟩:=h;obtain ⟨s,h1,h2,_⟩:=DataW.trod_string ht h;simp only [Prod.mk.injEq] at h2;obtain ⟨rfl,rfl⟩:=h2;refine ⟨s,by simpa using h1,?_⟩;have:=hw s.data.toList.length (by rw [DataW.weights];exact List.mem_singleton.2 rfl);have e:s.data.toList.length=s.size:=Array.length_toList;have e2:reachBytes=140737488351232:=rfl;omega
theorem Opn.int {k:IntKind} {c:Value} (ht:P.underlying t=some (.int k)) (h:Opn enc P w t [c]):∃ n:Int,c=.int k n∧(Lit.int k n).wf=true:=by
 obtain ⟨n,d,ps,h,hw⟩:=h;obtain ⟨s,h1,_,h2⟩:=DataW.trod_int ht h;exact ⟨s,by simpa using h1,h2⟩
theorem qqv {w:World} {a:Addr} {v:Value} (h:w.cell? a=some v):a=⟨a.block,a.off,none⟩:=by
 obtain ⟨b,o,s⟩:=a;cases s with
 | none=>rfl
 | some s=>
  exfalso
  unfold World.cell? at h;simp at h
  split at h<;>simp_all
theorem Opn.slice {α:Type} [Inhabited α] {en:α→List Value} {R:α→Prop} {size e:Nat} {c:Value} (ht:P.underlying t=some (.slice e)) (hc:P.cellsOf e=size) (hs0:0<size)
  (hen:∀ x,(en x).length=size) (each:∀ cs,Opn enc P w e cs→∃ x,cs=en x∧R x) (h:Opn enc P w t [c]) :
  ∃ (A:oA) (cap:Nat) (l:List α),c=.slice A l.length cap∧l.length≤cap∧cap*P.bytesOf e≤140737488355328∧(∀ x∈l,R x)∧SlAt en size w A l:=by
 obtain ⟨n,d,ps,h,hw⟩:=h;have e2:reachBytes=140737488351232:=rfl
 rcases Deep.open_slice ht h with ⟨h1,_⟩|⟨a,len,cap,m,n,D,Pl,h1,_,hlc,hcm,hm,hd,hx⟩
 ·refine ⟨none,0,[],by simpa using h1,by simp,by simp,by simp,⟨fun h=>absurd rfl h⟩⟩
 ·simp only [if_true] at hm;simp only [Prod.mk.injEq] at hd;obtain ⟨rfl,_⟩:=hd;rw [DataW.weights,ht] at hw;simp only [List.length_map,List.length_range] at hw;have hcap:=hw _ mh;rw [show len+(m-len)=cap by omega] at hcap;obtain ⟨X,hX⟩:=Deep.choose_lt (n:=len) (p:=fun i (x:α)=>w.cells? 0 (a.add (i*P.cellsOf e)) (P.cellsOf e)=some (en x)∧R x) (fun i hi=>by
   obtain ⟨cs,h2,h3⟩:=hx i Oo;obtain ⟨x,rfl,hr⟩:=each cs ⟨n,D i,Pl i,h3,fun k hk=>hw k (zmc (List.mem_append_left _ (qdx hk _ (List.mem_map.2 ⟨i,List.mem_range.2 hi,rfl⟩))))⟩;exact ⟨x,h2,hr⟩)
  refine ⟨some a,cap,(List.range len).map X,by simpa using h1,by simp;omega,by omega,fun s hs=>?_,⟨fun hn=>?_⟩⟩
  ·obtain ⟨i,hi,rfl⟩:=List.mem_map.1 hs;exact (hX i (List.mem_range.1 hi)).2
  ·have hpos:0<len:=by
    rcases Nat.eq_zero_or_pos len with h0|h0
    ·exact absurd (by rw [h0];rfl) hn
    ·exact h0
   have hs:a=⟨a.block,a.off,none⟩:=by
    obtain ⟨_,_,h2⟩:=World.cells?_some (hX 0 hpos).1;have h3:=h2 0 Oo;rw [zge (by rw [hen];omega)] at h3;refine qqv (w:=w) (v:=(en (X 0))[0]'(by rw [hen];omega)) ?_
    simpa [Addr.add] using h3
   refine ⟨a.block,a.off,by rw [← hs],fun j s hj k v hv=>?_⟩;have hjl:j<len:=by
    have:=(List.getElem?_eq_some_iff.1 hj).1
    simpa using this
   rw [List.getElem?_map,List.getElem?_range hjl] at hj;simp only [Option.map_some,Option.some.injEq] at hj;subst hj;obtain ⟨_,_,h2⟩:=World.cells?_some (hX j hjl).1;have hk:k<size:=by rw [← hen (X j)];exact (List.getElem?_eq_some_iff.1 hv).1
   have h3:=h2 k Oo;rw [hv,hs,q9,q9,hc] at h3;exact h3
end
end
end V
open Go.ChangeShapes Go.WideShapes Go.RowKit V
theorem qzs {k:IntKind} {n:Int} (h:(Lit.int k n).wf=true):InR k n:=by
 simp only [Lit.wf,Bool.and_eq_true,decide_eq_true_eq] at h;cases k<;>exact h
theorem qmy:Tryz.prog.cellsOf 9=1:=by kernel_rfl
theorem q3o:Tryz.prog.cellsOf 3=1:=by kernel_rfl
section
variable {H:Type} {enc:TypeId × Value→H} {W:World}
instance:Inhabited PN:=⟨⟨0,⟨#[]⟩,0,0,none,0,[],none,0,[]⟩⟩
end
def basesP:List (Int × Int):=[(192,214),(216,246),(248,767),(880,893),(895,8191),(8204,8205),(8304,8591),(11264,12271),(12289,55295),(63744,64975),(65008,65533),(65536,983039)]
def qa4:List Value:=basesP.flatMap fun x=>[.int .i32 x.1,.int .i32 x.2]
def inP (r:Int) (x:Int × Int):Bool:=decide (x.1≤r∧r≤x.2)
def letN (r:Int):Bool:=decide (97≤r∧r≤122∨65≤r∧r≤90)
def digN (r:Int):Bool:=decide (48≤r∧r≤57)
def qrd (r:Int):Bool:=letN r||basesP.any (inP r)
def qmj (r:Int):Bool:=qrd r||decide (r=95)
def qkd (r:Int):Bool:=qmj r||digN r||decide (r=45∨r=183∨(768≤r∧r≤879)∨(8255≤r∧r≤8256))
def labB (r:Int):Bool:=qmj r||digN r
theorem q3c:∀ x∈basesP,128≤x.1:=by decide
theorem qtq:∀ i (h:i<basesP.length),qa4[i*2]?=some (.int .i32 basesP[i].1)∧qa4[i*2+1]?=some (.int .i32 basesP[i].2)∧128≤basesP[i].1:=by
 intro i h;refine ⟨?_,?_,q3c _ (List.getElem_mem h)⟩
 all_goals
 have h:i<12:=h;obtain rfl|rfl|rfl|rfl|rfl|rfl|rfl|rfl|rfl|rfl|rfl|rfl:i=0∨i=1∨i=2∨i=3∨i=4∨i=5∨i=6∨i=7∨i=8∨i=9∨i=10∨i=11:=by omega
 all_goals rfl
theorem qp7 (s:ByteArray) (p:Nat) (hp:p≤s.size) (hs:s.size≤140737488355328) (w:World) :
  Gv Tryz.prog 238 [.string s,ii p] w fun v w'=>v=.tuple #[.int .i32 (decN (s.data.toList.drop p)).1,ii (decN (s.data.toList.drop p)).2]∧w'=w:=by
 by_cases h:p<s.size
 ·exact qux s p h hs w
 ·have e:s.data.toList.drop p=[]:=List.drop_eq_nil_of_le Ys;rw [e];refine ze Tryz.func238 Tryz.ntmps238 ?_;refine zv ?_;exact ⟨rfl,rfl⟩
theorem qig (r:Int) (w:World):Gv Tryz.prog 315 [.int .i32 r] w fun v w'=>v=.bool (letN r)∧w'=w:=by
 refine ze Tryz.func315 Tryz.ntmps315 ?_
 (repeat' (first|refine zp ?_|refine zC (fun _=>zw ?_) (fun _=>zw ?_)))
 all_goals (refine ⟨congrArg Value.bool ?_,rfl⟩;rw [Bool.eq_iff_iff];simp [letN];try omega)
theorem qcq (r:Int) (w:World):Gv Tryz.prog 282 [.int .i32 r] w fun v w'=>v=.bool (digN r)∧w'=w:=by
 refine ze Tryz.func282 Tryz.ntmps282 ?_;refine zC (fun _=>zu ?_) (fun _=>zu ?_)
 all_goals (refine ⟨congrArg Value.bool ?_,rfl⟩;rw [Bool.eq_iff_iff];simp [digN];try omega)
theorem q8j {w:World} {g k:Nat} {v:Value} (h:w.cell? ⟨g,0+k,none⟩=some v):w.cell? ⟨g,0+k*1,none⟩=some v:=by rwa [Nat.mul_one]
theorem q3n {w:World} {g k:Nat} {v:Value} (h:w.cell? ⟨g,0+(k+1),none⟩=some v):w.cell? ⟨g,0+(k+1)*1,none⟩=some v:=by rwa [Nat.mul_one]
theorem q3b (r:Int) (w:World) (hT:CellsAt w 6 0 qa4):Gv Tryz.prog 313 [.int .i32 r] w fun v w'=>v=.bool (qrd r)∧w'=w:=by
 have hlow:r<128→qrd r=letN r:=fun h=>by
  have:basesP.any (inP r)=false:=by
   rw [List.any_eq_false];intro x hx;obtain ⟨i,hi,rfl⟩:=List.mem_iff_getElem.1 hx;have:=(qtq i hi).2.2;simp [inP];omega
  simp [qrd,this]
 have hhi:128≤r→qrd r=basesP.any (inP r):=fun h=>by
  have:letN r=false:=by simp [letN];omega
  simp [qrd,this]
 refine ze Tryz.func313 Tryz.ntmps313 ?_;refine zC (fun _=>zw ?_) (fun _=>zw ?_)
 ·refine zcv (qig r w) ?_;rintro v w1 ⟨rfl,rfl⟩;(conv=>whnf);exact ⟨by rw [hlow Oo],rfl⟩
 ·refine qw (fun i:Nat=>[(0,.int .i32 r),(3,ii (i*2:Nat))]) (fun i w1=>i≤12∧(basesP.take i).any (inP r)=false∧w1=w) (fun i=>12-i) 0 ⟨rfl,rfl,trivial⟩ ⟨by omega,rfl,rfl⟩ ?_;rintro i w1 ρ' ⟨h1,h2,rfl⟩;(conv=>whnf);refine zC (fun _=>zu ?_) (fun _=>zu ?_)
  ·have hi:i<basesP.length:=show i<12 by omega
   obtain ⟨b1,b2,_⟩:=qtq i hi;have hany:∀ c,inP r basesP[i]=c→(basesP.take (i+1)).any (inP r)=c:=fun c hc=>by
    rw [List.take_succ_eq_append_getElem hi,List.any_append,h2,List.any_cons,hc];simp
   refine LoadV.of (q8j (hT _ _ b1)) (zw ?_);refine zC (fun _=>zu ?_) (fun _=>zu ?_)
   ·refine ⟨i*2+1,by omega,by omega,?_⟩;refine zu ?_;refine LoadV.of (q3n (hT _ _ b2)) (zw ?_);refine zt ?_;refine zC (fun _=>zu ?_) (fun _=>zu ?_)
    ·refine ⟨congrArg Value.bool ?_,rfl⟩;rw [hhi Oo];exact (List.any_eq_true.2 ⟨basesP[i],List.getElem_mem hi,by simp [inP];omega⟩).symm
    ·exact ⟨i+1,⟨rfl,congrArg (Value.int .i64) Oo,trivial⟩,⟨by omega,hany _ (by simp [inP];omega),rfl⟩,by omega⟩
   ·exact ⟨i+1,⟨rfl,congrArg (Value.int .i64) Oo,trivial⟩,⟨by omega,hany _ (by simp [inP];omega),rfl⟩,by omega⟩
  ·refine ⟨congrArg Value.bool ?_,rfl⟩;rw [hhi Oo,← h2,List.take_of_length_le (show 12≤i by omega)]
theorem qla (r:Int) (w:World) (hT:CellsAt w 6 0 qa4):Gv Tryz.prog 281 [.int .i32 r] w fun v w'=>v=.bool (qmj r)∧w'=w:=by
 refine ze Tryz.func281 Tryz.ntmps281 ?_;refine zcv (q3b r w hT) ?_;rintro v w1 ⟨rfl,rfl⟩;(conv=>whnf);unfold qmj;cases qrd r
 ·refine zv ?_
  all_goals (refine ⟨congrArg Value.bool ?_,rfl⟩;rw [Bool.eq_iff_iff];simp;try omega)
 ·refine zv ?_
  all_goals (refine ⟨congrArg Value.bool ?_,rfl⟩;rw [Bool.eq_iff_iff];simp;try omega)
theorem qpw (r:Int) (w:World) (hT:CellsAt w 6 0 qa4):Gv Tryz.prog 280 [.int .i32 r] w fun v w'=>v=.bool (qkd r)∧w'=w:=by
 refine ze Tryz.func280 Tryz.ntmps280 ?_;refine zcv (qla r w hT) ?_;rintro v w1 ⟨rfl,rfl⟩;(conv=>whnf);unfold qkd;cases qmj r
 ·refine zv ?_;refine zcv (qcq r w1) ?_;rintro v w1 ⟨rfl,rfl⟩;(conv=>whnf);cases digN r
  ·(repeat' (first|refine zp ?_|refine zC (fun _=>zw ?_) (fun _=>zw ?_)))
   all_goals (refine ⟨congrArg Value.bool ?_,rfl⟩;rw [Bool.eq_iff_iff];simp;try omega)
  ·refine zv ?_
   all_goals (refine ⟨congrArg Value.bool ?_,rfl⟩;rw [Bool.eq_iff_iff];simp;try omega)
 ·refine zv ?_
  all_goals (refine ⟨congrArg Value.bool ?_,rfl⟩;rw [Bool.eq_iff_iff];simp;try omega)
theorem qwh (r:Int) (w:World) (hT:CellsAt w 6 0 qa4):Gv Tryz.prog 237 [.int .i32 r] w fun v w'=>v=.bool (labB r)∧w'=w:=by
 refine ze Tryz.func237 Tryz.ntmps237 ?_;refine zcv (qla r w hT) ?_;rintro v w1 ⟨rfl,rfl⟩;(conv=>whnf);unfold labB;cases qmj r
 ·refine zv ?_;refine zcv (qcq r w1) ?_;rintro v w1 ⟨rfl,rfl⟩;(conv=>whnf);cases digN r
  ·refine zv ?_
   all_goals (refine ⟨congrArg Value.bool ?_,rfl⟩;rw [Bool.eq_iff_iff];simp;try omega)
  ·refine zv ?_
   all_goals (refine ⟨congrArg Value.bool ?_,rfl⟩;rw [Bool.eq_iff_iff];simp;try omega)
 ·refine zv ?_
  all_goals (refine ⟨congrArg Value.bool ?_,rfl⟩;rw [Bool.eq_iff_iff];simp;try omega)
def okT:Bool→List Nat→Bool
 | d,[] => !d
 | _,r::l=>(qkd r||decide (r=46))&&okT (decide (r=46)) l
def labL:List Nat→Bool
 | []=>false
 | r::l=>labB r&&okT false l
noncomputable def qi1 (s:ByteArray):Bool:=match scal s.data.toList with
 | some l=>labL l
 | none=>false
theorem qvf {l:LB} (h:(decN l).2=0):scal l=none∨l=[]:=by
 cases l with
 | nil=>exact .inr rfl
 | cons a t=>exact .inl (qqn Js h)
noncomputable def qls (d:Bool) (l:LB):Bool:=match scal l with
 | some l=>okT d l
 | none=>false
theorem q1l {d:Bool} {s:ByteArray} {i:Nat} (hi:i≤s.size) (h:(decN (s.data.toList.drop i)).2=0):qls d (s.data.toList.drop i)=decide (i=s.size∧d=false):=by
 rcases qvf h with h1|h1
 ·have hne:i≠s.size:=by
   intro e;rw [List.drop_eq_nil_of_le Ys] at h1;rw [scal] at h1;cases h1
  rw [qls,h1];simp [hne]
 ·have e:i=s.size:=by
   have:=congrArg List.length h1;rw [qjm] at this;simp at this;omega
  rw [qls,h1,scal];cases d<;>simp [okT,e]
theorem qmh {d:Bool} {l:LB} (h:(decN l).2≠0):qls d l=((qkd (decN l).1||decide ((decN l).1=46))&&qls (decide ((decN l).1=46)) (l.drop (decN l).2)):=by
 have hne:l≠[]:=by rintro rfl;exact h rfl
 rw [qls,qk6 hne h,qls];cases scal (l.drop (decN l).2) with
 | none=>simp
 | some t=>rfl
theorem qz0 (s:ByteArray):qi1 s=if (decN s.data.toList).2=0 then false else labB (decN s.data.toList).1&&qls false (s.data.toList.drop (decN s.data.toList).2):=by
 split
 ·rename_i h
  rcases qvf h with h1|h1
  ·rw [qi1,h1]
  ·rw [qi1,h1,scal];rfl
 ·rename_i h
  have hne:s.data.toList≠[]:=by intro e;rw [e] at h;exact h rfl
  rw [qi1,qk6 hne h,qls];cases scal (s.data.toList.drop (decN s.data.toList).2) with
  | none=>simp
  | some t=>rfl
theorem q97 (s:ByteArray) (hs:s.size≤140737488355328) (w:World) (hT:CellsAt w 6 0 qa4) :
  Gv Tryz.prog 236 [.string s,ii 0,.func (.func 237) #[] #[]] w fun v w'=>(∃ n:Nat,v=ii n∧qi1 s=decide (n≠0∧n=s.size))∧w'=w:=by
 refine ze Tryz.func236 Tryz.ntmps236 ?_;refine zcv (qp7 s 0 (Nat.zero_le _) hs w) ?_;rw [List.drop_zero];rintro v w1 ⟨rfl,rfl⟩;have hle:=qrl s.data.toList;have hsz:s.data.toList.length=s.size:=by simp
 have hL:=qz0 s;(conv=>whnf);refine zC (fun _=>zu ?_) (fun _=>zu ?_)
 ·refine ⟨⟨0,rfl,?_⟩,rfl⟩;rw [hL,if_pos Oo];rfl
 ·rw [if_neg Oo] at hL;refine zcv (qwh _ w1 hT) ?_;rintro v w1 ⟨rfl,rfl⟩;cases hb:labB (decN s.data.toList).1
  ·rw [hb] at hL;refine zu ?_;refine ⟨⟨0,rfl,?_⟩,rfl⟩;rw [hL];rfl
  ·rw [hb] at hL;refine zu ?_;refine qw (fun x:Nat × Nat=>[(0,.string s),(1,ii 0),(9,ii x.2),(10,ii x.1)])
    (fun x w2=>x.1≤s.size∧x.2≤x.1∧0<x.2∧qi1 s=qls (decide (x.2≠x.1)) (s.data.toList.drop x.1)∧w2=w1) (fun x=>s.size-x.1) ((decN s.data.toList).2,(decN s.data.toList).2) ⟨rfl,rfl,by exact congrArg (Value.int .i64) (Int.zero_add _),by exact congrArg (Value.int .i64) (Int.zero_add _),trivial⟩ ⟨by simp only;omega,by simp,by simp only;omega,by simpa using hL,rfl⟩ ?_
   rintro ⟨i,e⟩ w2 ρ' ⟨h1,h2,h3,h4,rfl⟩;simp only at h1 h2 h3 h4;(conv=>whnf);refine zcv (qp7 s i h1 hs w2) ?_;rintro v w2 ⟨rfl,rfl⟩;have hle:=qrl (s.data.toList.drop i);rw [qjm] at hle;conv=>whnf
   (repeat' (first|refine zp ?_|refine zC (fun _=>zw ?_) (fun _=>zw ?_)))
   ·refine ⟨⟨e,congrArg (Value.int .i64) (Int.sub_zero _),?_⟩,rfl⟩;rw [h4,q1l h1 Oo]
    by_cases he:e=i
    ·subst he;simp;omega
    ·simp [he];omega
   ·have h5:=qmh (d:=decide (e≠i)) (l:=s.data.toList.drop i) Oo;rw [h5,decide_eq_false (show ¬ (decN (s.data.toList.drop i)).1=46 by omega),Bool.or_false,List.drop_drop] at h4;refine zcv (qpw _ w2 hT) ?_;rintro v w2 ⟨rfl,rfl⟩;cases hf:qkd (decN (s.data.toList.drop i)).1
    ·rw [hf] at h4;refine zu ?_;refine ⟨⟨e,congrArg (Value.int .i64) (Int.sub_zero _),?_⟩,rfl⟩;rw [h4];simp;omega
    ·rw [hf] at h4;refine zu ?_
     ·exact ⟨(i+(decN (s.data.toList.drop i)).2,i+(decN (s.data.toList.drop i)).2),⟨rfl,rfl,rfl,rfl,trivial⟩,⟨by simp only;omega,Nat.le_refl _,by simp only;omega,by simpa using h4,rfl⟩,by simp only;omega⟩
   ·have h5:=qmh (d:=decide (e≠i)) (l:=s.data.toList.drop i) Oo;rw [h5,decide_eq_true (show (decN (s.data.toList.drop i)).1=46 by omega),Bool.or_true,Bool.true_and,List.drop_drop] at h4;refine ⟨(i+(decN (s.data.toList.drop i)).2,e),⟨rfl,rfl,rfl,rfl,trivial⟩,⟨by simp only;omega,by simp only;omega,h3,?_,rfl⟩,by simp only;omega⟩;rw [h4]
    congr 1
    exact (decide_eq_true (by simp only;omega)).symm
theorem qrw (s:ByteArray) (hs:s.size≤140737488355328) (w:World) (hT:CellsAt w 6 0 qa4) :
  Gv Tryz.prog 197 [.string s,ii 0] w fun v w'=>(∃ n:Nat,v=ii n∧qi1 s=decide (n≠0∧n=s.size))∧w'=w:=by
 refine ze Tryz.func197 Tryz.ntmps197 ?_;refine zcv (q97 s hs w hT) ?_;rintro v w' ⟨⟨n,rfl,h⟩,rfl⟩;(conv=>whnf);exact ⟨⟨n,rfl,h⟩,rfl⟩
noncomputable def labE (s:ByteArray):Nat:=if qi1 s=true then 0 else 60
theorem qz1 (s:ByteArray) (hs:s.size≤140737488355328) (w:World) (hT:CellsAt w 6 0 qa4) :
  Gv Tryz.prog 151 [.string s] w fun v w'=>v=ii (labE s)∧w'=w:=by
 refine ze Tryz.func151 Tryz.ntmps151 ?_;refine zcv (qrw s hs w hT) ?_;rintro v w' ⟨⟨n,rfl,h⟩,rfl⟩;(conv=>whnf);unfold labE;rw [h]
 (repeat' (first|refine zp ?_|refine zC (fun _=>zw ?_) (fun _=>zw ?_)))
 ·rw [if_neg Ys];exact ⟨rfl,rfl⟩
 ·rw [if_neg Ys];exact ⟨rfl,rfl⟩
 ·rw [if_pos Ys];exact ⟨rfl,rfl⟩
namespace V
theorem Rw.setCell {w0 w w':World} {v:Value} {e:TypeId} {size n:Nat} {xs:List Value} {L:List (Nat × Obj)} (h:Rw w0 w v e size n xs L) {i b off:Nat} {x:Value} {cs:Array Value} {t:TypeId} {fr:Nat × Nat}
  (hi:L[i]?=some (b,.cells cs t fr)) (hw:w'=w.setCell ⟨b,off,none⟩ x):Rw w0 w' v e size n xs (L.set i (b,.cells (cs.setIfInBounds off x) t fr)):=by
 have hm:=h.mem.setCell hi hw;have hb:v.ownBlock≠some b:=h.apart _ (zmg hi);refine ⟨hm,?_,fun y hy=>?_⟩
 ·subst hw;refine h.own.kept (row:=some b) ⟨rfl,rfl,rfl,by simp [World.setCell],fun k _ hk=>Below.heap_setCell _ _ _ _ (fun e=>hk (by simp [e]))⟩ ?_;exact Or.inr hb
 ·rcases List.mem_or_eq_of_mem_set hy with hy|rfl
  ·exact h.apart y hy
  ·exact hb
def qtl (e:TypeId) (L:List (Nat × Obj)):Prop:=∀ x∈L,∀ c fz,x.2≠.cells c e fz
theorem AppV.rwS {P:Program} {w0 w:World} {v:Value} {e:TypeId} {n:Nat} {xs:List Value} {L:List (Nat × Obj)} {t u ty:TypeId} {i:TypeInfo} {s:ByteArray} {K:Value→World→Prop}
  (ht:P.underlying t=some (.slice e)) (hu:P.underlying u=some .string) (hi:P.info? e=some i) (hz:i.zero=some (.int .u8 0)) (hsize:i.size=1) (hby:i.bytes=1)
  (h:Rw w0 w v e 1 n xs L) (hL:qtl e L) (hb:n+s.size≤140737488355328)
  (hk:∀ v' w',Rw w0 w' v' e 1 (n+s.size) (xs++byteCells s.data.toList) L→K v' w'):AppV P #[t,u] ty v (.string s) w K:=by
 obtain ⟨v',w',hrun,h2,h3,_⟩:=Lib.run_append_own_string (P:=P) w w0.heap.size t u ty e i ht hu hi hz hsize hby v n xs h.own s (by simp only [maxLen];omega) hb h.mem.ext.size;have hm:=h.grown h3 (fun k hk=>⟨(h.own.lt k hk).1,fun x hx e=>h.apart x hx (by rw [hk,e])⟩);refine ⟨v',w',hrun,hk _ _ ⟨hm,h2,fun x hx he=>?_⟩⟩;have hx':=hm.get hx
 rcases h2.2 with ⟨rfl,_⟩|⟨g,cap,cur,rfl,_,hg,_⟩
 ·cases he
 ·cases he;rw [hx'] at hg;exact hL x hx _ _ (Option.some.inj hg)
theorem Fall.conv {P:Program} {ρ:Nat→Value} {o:Oper} {src dst:TypeId} {x:Operand} {u:Value} {w:World} {K:Value→World→Prop} (ho:o.op=.convert src dst x)
  (hr:(convert src dst (ev ρ x)).run P w=.ok u w) (hk:K u w):Fall P (execOp (ev ρ) o) w K:=by
 refine ⟨.inl ⟨u,w,?_,hk⟩⟩;simp [execOp,ho,hr]
theorem RunV.neqSame {P:Program} {t te:TypeId} {xo yo:Operand} {j:TypeInfo} {w:World} {K:Value→World→Prop} (a:Addr) (hp:P.underlying t=some (.pointer te)) (hte:P.info? te=some j) (hk:K (.bool false) w) :
  RunV P (do eqGuard .neq t xo yo (.pointer (some a)) (.pointer (some a));binOp .neq t (.pointer (some a)) (.pointer (some a))) w K:=by
 refine ⟨.bool false,w,?_,hk⟩;simp [eqGuard,Lib.run_neq_ptr_same w a hp hte]
def BldB (b:Nat) (p v:Value):Nat × Obj:=(b,.cells #[p,v] 299)
structure Bld (w0 w:World) (b:Nat) (l:LB) (L:List (Nat × Obj)):Prop where
 h:∃ p v,(p=.pointer none∨p=pp b)∧Rw w0 w v 5 1 l.length (byteCells l) (BldB b p v::L)
end V
theorem qmz (b:Nat) (p v:Value) (w0 w:World) (L:List (Nat × Obj)) (hp:p=.pointer none∨p=pp b) (h:Mem w0 w (BldB b p v::L)) :
  Gv Tryz.prog 260 [pp b] w fun r w'=>r=.tuple #[]∧((p=pp b∧w'=w)∨w'=w.setCell ⟨b,0,none⟩ (pp b)):=by
 have hc:w.cell? ⟨b,0,none⟩=some p:=by rw [qc (h.get mh)];rfl
 have hsh:w.shape? b=some (299,2):=by simp [World.shape?,h.get mh]
 rcases hp with rfl|rfl
 ·refine ze Tryz.func260 Tryz.ntmps260 ?_;refine LoadV.of hc (zu ?_);refine Fall.conv rfl (Lib.run_to_unsafe (t:=299) (e:=299) (cells:=2) _ _ Tryz.underlying297 Tryz.underlying267 (j:=_) (Option.some_get Jk).symm (by decide +kernel) hsh (Nat.zero_lt_succ 1)) (zw ?_);refine ⟨.inr ⟨pp b,w,by rw [run_callFunc_extern Tryz.func305 Jk Jk Jk (e:=Extern.AbiNoEscape.same) Jk];rfl,?_⟩⟩;(conv=>whnf);refine Fall.conv rfl (Lib.run_from_unsafe (u:=299) (e:=299) (cells:=2) _ _ Tryz.underlying267 Tryz.underlying297 (j:=_) (Option.some_get Jk).symm hsh Jk) (zw ?_);refine StoreV.own (h.get mh) (Nat.zero_lt_succ 1) rfl fun w' hw=>?_;(conv=>whnf);exact ⟨rfl,.inr hw⟩
 ·refine ze Tryz.func260 Tryz.ntmps260 ?_;refine LoadV.of hc (zw ?_);refine zt ?_;refine LoadV.mem (i:=0) Oa rfl rfl (zw ?_);refine RunV.neqSame _ Tryz.underlying297 (j:=_) rfl (zu ?_);exact ⟨rfl,.inl ⟨rfl,rfl⟩⟩
theorem qh1 (a b:LB):byteCells (a++b)=byteCells a++byteCells b:=by simp [byteCells]
theorem qh2 (a:LB):(byteCells a).length=a.length:=by simp [byteCells]
theorem qfa {P:Program} {f:FuncId} {vs:List Value} {w:World} {R:Value→World→Prop} (he:qd1 P f=true) (h:Calls P f vs.toArray w fun e w'=>∃ v,e=.returned v∧R v w'):Gv P f vs w R:=⟨he,h⟩
theorem qwo {b:Nat} {p v:Value} {L:List (Nat × Obj)} (hL:qtl 5 L):qtl 5 (BldB b p v::L):=by
 intro x hx c fz
 rcases List.mem_cons.1 hx with rfl|hx
 ·intro e;cases e
 ·exact hL x hx c fz
theorem qdk (b:Nat) (l:LB) (s:ByteArray) (w0 w:World) (L:List (Nat × Obj)) (h:Bld w0 w b l L) (hL:qtl 5 L) (hs:l.length+s.size≤140737488355328) :
  Gv Tryz.prog 216 [pp b,.string s] w fun r w'=>r=.tuple #[ii s.size,.nilIface]∧Bld w0 w' b (l++s.data.toList) L:=by
 obtain ⟨p,v,hp,hR⟩:=h;have hcc:=qmz b p v w0 w L hp hR.mem;obtain ⟨A,c,rfl⟩:=hR.slice;refine ze Tryz.func216 Tryz.ntmps216 ?_;refine zcv (hcc) ?_;rintro r w1 ⟨rfl,hw⟩;have hR1:Rw w0 w1 (.slice A l.length c) 5 1 l.length (byteCells l) (BldB b (pp b) (.slice A l.length c)::L):=by
  rcases hw with ⟨rfl,rfl⟩|hw
  ·exact hR
  ·exact hR.setCell (i:=0) rfl hw
 (conv=>whnf);refine LoadV.own (hR1.mem.get mh) rfl (zw ?_);refine AppV.rwS (i:=_) Tryz.underlying25 Tryz.underlying9 (Option.some_get Jk).symm Jk Jk Jk hR1 (qwo hL) hs fun v' w2 hR2=>?_;obtain ⟨A',c',rfl⟩:=hR2.slice;(conv=>whnf);refine StoreV.own (hR2.mem.get mh) (Nat.lt_succ_self 1) rfl fun w3 hw=>?_;have hR3:=hR2.setCell (i:=0) rfl hw;(conv=>whnf);refine ⟨rfl,⟨⟨pp b,.slice A' (l.length+s.size) c',.inr rfl,?_⟩⟩⟩;have e:(l++s.data.toList).length=l.length+s.size:=by simp
 rw [e,qh1];exact hR3
theorem qh0 (b:Nat) (l:LB) (w0 w:World) (L:List (Nat × Obj)) (h:Bld w0 w b l L) :
  Gv Tryz.prog 218 [pp b] w fun r w'=>r=.string ⟨l.toArray⟩∧Ext w0 w':=by
 obtain ⟨p,v,hp,hR⟩:=h;have hb:=hR.mem.own _ mh;have key:Lib.BuilderAt 299 5 w0.heap.size b p (Lib.byteCells l) w:=by
  refine ⟨hb.1,v,hb.2,?_,hR.apart _ mh⟩;have:=hR.own;rw [← qh2 l] at this;exact this
 refine qfa Jk ((Tryz.Builder_String_any w0.heap.size b l w ?_ hR.mem.ext.size).mono ?_)
 ·rcases hp with rfl|rfl
  ·exact .inl key
  ·exact .inr key
 ·rintro e w' ⟨rfl,hB⟩;exact ⟨_,rfl,rfl,Below.trans hR.mem.ext hB⟩
namespace V
theorem Rw.setO {w0 w w':World} {v:Value} {e:TypeId} {size n:Nat} {xs:List Value} {L:List (Nat × Obj)} (h:Rw w0 w v e size n xs L) {i b:Nat} {o:Obj} (o':Obj)
  (hi:L[i]?=some (b,o)) (hw:w'=setO w b o'):Rw w0 w' v e size n xs (L.set i (b,o')):=by
 have hm:=h.mem.setO o' hi hw;have hb:v.ownBlock≠some b:=h.apart _ (zmg hi);refine ⟨hm,?_,fun y hy=>?_⟩
 ·subst hw;refine h.own.kept (row:=some b) ⟨rfl,rfl,rfl,by simp [V.setO],fun k _ hk=>qf3 (fun e=>hk (by simp [e]))⟩ ?_;exact Or.inr hb
 ·rcases List.mem_or_eq_of_mem_set hy with hy|rfl
  ·exact h.apart y hy
  ·exact hb
theorem NewV.rw {w0 w:World} {v:Value} {e:TypeId} {size n:Nat} {xs:List Value} {L:List (Nat × Obj)} {o:Obj} {K:Nat→World→Prop} (h:Rw w0 w v e size n xs L) (hk:∀ b w',Rw w0 w' v e size n xs ((b,o)::L)→K b w'):NewV w o K:=
 ⟨fun b w' hb hw=>hk b w' (h.newBlk hb hw)⟩
theorem Bld.ext {w0 w:World} {b:Nat} {l:LB} {L:List (Nat × Obj)} (h:Bld w0 w b l L):Ext w0 w:=by
 obtain ⟨⟨p,v,hp,hR⟩⟩:=h;exact hR.mem.ext
end V
def alnB (pure:Bool) (c:UInt8):Bool:=letN c.toNat||(!pure&&digN c.toNat)
def qar (s:ByteArray) (lo hi:Nat) (pure:Bool):Bool:=s.data.toList.all (alnB pure)&&decide (lo≤s.size∧s.size≤hi)
theorem qdr (s:ByteArray) (lo hi:Nat) (pure:Bool) (hs:s.size≤140737488355328) (w:World) :
  Gv Tryz.prog 288 [.string s,ii lo,ii hi,.bool pure] w fun v w'=>v=.bool (qar s lo hi pure)∧Ext w w':=by
 refine ze Tryz.func288 Tryz.ntmps288 ?_;refine znm (Mem.nil w) fun b w1 hm=>zw ?_;refine qw (fun pos:Nat=>[(0,.string s),(1,ii lo),(2,ii hi),(3,.bool pure),(12,pp b)])
  (fun pos w2=>pos≤s.size∧Mem w w2 [(b,.stringIter s pos)]∧s.data.toList.all (alnB pure)=(s.data.toList.drop pos).all (alnB pure)) (fun pos=>s.size-pos) 0 ⟨rfl,rfl,rfl,rfl,rfl,trivial⟩ ⟨by omega,hm,rfl⟩ ?_
 rintro pos w2 ρ' ⟨hp,hm,ha⟩;(conv=>whnf);refine NextS.mem hm (i:=0) rfl ?_ ?_
 ·intro hlt w3 hm3;have hno:alnB pure (gb s pos)=false→qar s lo hi pure=false:=fun h=>by
   rw [qar,ha,qdm s pos hlt,List.all_cons,h];rfl
  have hyes:alnB pure (gb s pos)=true→s.data.toList.all (alnB pure)=(s.data.toList.drop (pos+1)).all (alnB pure):=fun h=>by
   rw [ha,qdm s pos hlt,List.all_cons,h];rfl
  by_cases hb:(gb s pos).toNat<128
  ·have hd:=qh6 s pos hb;rw [hd] at hm3 ⊢;simp only at hm3 ⊢;refine zu ?_;refine zcv (qig _ w3) ?_;rintro v w4 ⟨rfl,rfl⟩;cases hl:letN (gb s pos).toNat
   ·cases pure
    ·refine zu ?_;refine zcv (qcq _ w4) ?_;rintro v w5 ⟨rfl,rfl⟩;cases hg:digN (gb s pos).toNat
     ·have hx:alnB false (gb s pos)=false:=by rw [alnB,hl,hg];rfl
      refine zu ?_;exact ⟨by rw [hno hx],hm3.ext⟩
     ·have hx:alnB false (gb s pos)=true:=by rw [alnB,hl,hg];rfl
      refine zu ?_;exact ⟨pos+1,⟨rfl,rfl,rfl,rfl,rfl,trivial⟩,⟨by omega,hm3,hyes hx⟩,by omega⟩
    ·have hx:alnB true (gb s pos)=false:=by rw [alnB,hl];rfl
     refine zu ?_;exact ⟨by rw [hno hx],hm3.ext⟩
   ·have hx:alnB pure (gb s pos)=true:=by rw [alnB,hl];rfl
    refine zu ?_;exact ⟨pos+1,⟨rfl,rfl,rfl,rfl,rfl,trivial⟩,⟨by omega,hm3,hyes hx⟩,by omega⟩
  ·have hd:=qj6 s pos hlt Oo;obtain ⟨d1,d2,d3,d4,d5⟩:=hd;have hl:letN (Utf8.decode s pos).1=false:=by simp [letN];omega
   have hg:digN (Utf8.decode s pos).1=false:=by simp [digN];omega
   have hx:alnB pure (gb s pos)=false:=by
    simp [alnB,letN,digN];omega
   refine zu ?_;refine zcv (qig _ w3) ?_;rintro v w4 ⟨rfl,rfl⟩;rw [hl];cases pure
   ·refine zu ?_;refine zcv (qcq _ w4) ?_;rintro v w5 ⟨rfl,rfl⟩;rw [hg];refine zu ?_;exact ⟨by rw [hno hx],hm3.ext⟩
   ·refine zu ?_;exact ⟨by rw [hno hx],hm3.ext⟩
 ·intro hge;rw [List.drop_eq_nil_of_le Ys] at ha;have hM:qar s lo hi pure=decide (lo≤s.size∧s.size≤hi):=by rw [qar,ha];rfl
  (conv=>whnf);refine zt ?_;refine zC (fun _=>zu ?_) (fun _=>zu ?_)
  ·exact ⟨congrArg Value.bool (by rw [hM,Bool.eq_iff_iff];simp;omega),hm.ext⟩
  ·exact ⟨congrArg Value.bool (by rw [hM,eq_comm,decide_eq_false_iff_not];omega),hm.ext⟩
def qlp (s:ByteArray):Bool:=decide (s=⟨#[120]⟩∨s=⟨#[88]⟩)
theorem q7g {a b:ByteArray} (h:a≠b):seq a b=false:=Bool.eq_false_iff.2 fun e=>h (qae.1 e)
theorem qgl (s:ByteArray) (w:World):Gv Tryz.prog 241 [.string s] w fun v w'=>v=.bool (qlp s)∧w'=w:=by
 refine ze Tryz.func241 Tryz.ntmps241 ?_
 by_cases h:s=⟨#[120]⟩
 ·refine Tst.yes (qae.2 h) (zu ?_);exact ⟨congrArg Value.bool (decide_eq_true (.inl h)).symm,rfl⟩
 ·refine Tst.no (q7g h) (zu ?_)
  by_cases h2:s=⟨#[88]⟩
  ·refine ⟨congrArg Value.bool ?_,rfl⟩;rw [qae.2 h2,qlp,decide_eq_true (.inr h2)]
  ·refine ⟨congrArg Value.bool ?_,rfl⟩;rw [q7g h2,qlp,decide_eq_false (by simp [h,h2])]
theorem qvy (c:UInt8):IntKind.i32.wrap (c.toNat:Int)=(c.toNat:Int):=by
 have:=c.toNat_lt;simp [IntKind.wrap,IntKind.signed,IntKind.bits];omega
def varB (s:ByteArray):Bool:=qar s 5 8 false||(qar s 4 4 false&&digN (gb s 0).toNat)
def regB (s:ByteArray):Bool:=qar s 2 2 true||(decide (s.size=3)&&digN (gb s 0).toNat&&digN (gb s 1).toNat&&digN (gb s 2).toNat)
theorem qtb (s:ByteArray) (hs:s.size≤140737488355328) (w:World):Gv Tryz.prog 292 [.string s] w fun v w'=>v=.bool (varB s)∧Ext w w':=by
 have h1:=fun w=>qdr s 5 8 false hs w
 have h2:=fun w=>qdr s 4 4 false hs w
 refine ze Tryz.func292 Tryz.ntmps292 ?_;refine zcv (h1 w) ?_;rintro v w1 ⟨rfl,he1⟩;cases m1:qar s 5 8 false
 ·refine zu ?_;refine zcv (h2 w1) ?_;rintro v w2 ⟨rfl,he2⟩;cases m2:qar s 4 4 false
  ·refine zu ?_;exact ⟨by rw [varB,m1,m2];rfl,he1.trans he2⟩
  ·have hsz:s.size=4:=by
    simp [qar] at m2;omega
   refine zu ?_;refine ⟨0,rfl,by omega,?_⟩;refine zu ?_;refine ⟨((gb s 0).toNat:Int),qvy _,?_⟩;refine zu ?_;refine zcv (qcq _ w2) ?_;rintro v w3 ⟨rfl,rfl⟩;refine zu ?_;exact ⟨by rw [varB,m1,m2];rfl,he1.trans he2⟩
 ·refine zu ?_;exact ⟨by rw [varB,m1];rfl,he1⟩
theorem qw7 (s:ByteArray) (hs:s.size≤140737488355328) (w:World):Gv Tryz.prog 291 [.string s] w fun v w'=>v=.bool (regB s)∧Ext w w':=by
 have h1:=fun w=>qdr s 2 2 true hs w
 refine ze Tryz.func291 Tryz.ntmps291 ?_;refine zcv (h1 w) ?_;rintro v w1 ⟨rfl,he1⟩;cases m1:qar s 2 2 true
 ·(conv=>whnf);refine zt ?_;refine zC (fun _=>zu ?_) (fun _=>zu ?_)
  ·refine ⟨0,rfl,by omega,?_⟩;refine zu ?_;refine ⟨((gb s 0).toNat:Int),qvy _,?_⟩;refine zu ?_;refine zcv (qcq _ w1) ?_;rintro v w2 ⟨rfl,rfl⟩;have h3:decide (s.size=3)=true:=decide_eq_true Oo;cases d0:digN (gb s 0).toNat
   ·refine zu ?_;exact ⟨by rw [regB,m1,d0,Bool.and_false];rfl,he1⟩
   ·refine zu ?_;refine ⟨1,rfl,by omega,?_⟩;refine zu ?_;refine ⟨((gb s 1).toNat:Int),qvy _,?_⟩;refine zu ?_;refine zcv (qcq _ w2) ?_;rintro v w3 ⟨rfl,rfl⟩;cases d1:digN (gb s 1).toNat
    ·refine zu ?_;exact ⟨by rw [regB,m1,d1,Bool.and_false];rfl,he1⟩
    ·refine zu ?_;refine ⟨2,rfl,by omega,?_⟩;refine zu ?_;refine ⟨((gb s 2).toNat:Int),qvy _,?_⟩;refine zu ?_;refine zcv (qcq _ w3) ?_;rintro v w4 ⟨rfl,rfl⟩;refine zu ?_;exact ⟨by rw [regB,m1,d0,d1,h3];rfl,he1⟩
  ·have h3:decide (s.size=3)=false:=decide_eq_false Oo;exact ⟨by rw [regB,m1,h3];rfl,he1⟩
 ·refine zu ?_;exact ⟨by rw [regB,m1];rfl,he1⟩
def lowB (c:UInt8):UInt8:=if 65≤c.toNat∧c.toNat≤90 then c+32 else c
def lowS (s:ByteArray):ByteArray:=⟨(s.data.toList.map lowB).toArray⟩
def qe2 (l:LB) (i:Nat) (z:List Value):Array Value:=(byteCells ((l.take i).map lowB++l.drop i)++z).toArray
theorem q0g {l:LB} {i:Nat} {z:List Value} (h:i<l.length):(qe2 l i z)[i]?=some (.int .u8 l[i].toNat):=by
 unfold qe2 byteCells;rw [List.getElem?_toArray,List.getElem?_append_left Ys,List.getElem?_map,List.getElem?_append_right Ys];simp [Nat.min_eq_left (Nat.le_of_lt h),h]
theorem qwn (l:LB) (i:Nat) (z:List Value) (h:i≤l.length):(qe2 l i z).size=l.length+z.length:=by
 simp [qe2,byteCells];omega
theorem q0h {l:LB} {i:Nat} {z:List Value} (h:i<l.length):(qe2 l i z).setIfInBounds i (.int .u8 (lowB l[i]).toNat)=qe2 l (i+1) z:=by
 have e:byteCells ((l.take (i+1)).map lowB++l.drop (i+1))++z=byteCells ((l.take i).map lowB)++(.int .u8 (lowB l[i]).toNat::(byteCells (l.drop (i+1))++z)):=by
  rw [List.take_succ_eq_append_getElem h];simp only [byteCells,List.map_append,List.map_cons,List.map_nil,List.append_assoc,List.cons_append,List.nil_append]
 have e2:byteCells ((l.take i).map lowB++l.drop i)++z=byteCells ((l.take i).map lowB)++(.int .u8 l[i].toNat::(byteCells (l.drop (i+1))++z)):=by
  rw [List.drop_eq_getElem_cons h];simp only [byteCells,List.map_append,List.map_cons,List.append_assoc,List.cons_append]
 unfold qe2;rw [e,e2,List.setIfInBounds_toArray]
 congr 1
 have hl:(byteCells ((l.take i).map lowB)).length=i:=by simp [byteCells];omega
 rw [List.set_append_right _ _ Oo,hl,Nat.sub_self];rfl
theorem qwm {l:LB} {i:Nat} {z:List Value} (h:i<l.length) (hs:lowB l[i]=l[i]):qe2 l i z=qe2 l (i+1) z:=by
 unfold qe2;rw [List.take_succ_eq_append_getElem h,List.drop_eq_getElem_cons h];simp only [byteCells,List.map_append,List.map_cons,List.map_nil,List.append_assoc,List.cons_append,List.nil_append,hs]
theorem q4i (c:UInt8) (h:65≤c.toNat∧c.toNat≤90):((lowB c).toNat:Int)=(c.toNat:Int)+32:=by
 rw [lowB,if_pos h,UInt8.toNat_add];have:(32:UInt8).toNat=32:=rfl;omega
theorem q84 (c:UInt8) (h:¬ (65≤c.toNat∧c.toNat≤90)):lowB c=c:=by rw [lowB,if_neg h]
theorem V.StoreV.memF {w0 w:World} {L:List (Nat × Obj)} {i b off m:Nat} {cs:Array Value} {t:TypeId} {v:Value} {K:World→Prop} (h:Mem w0 w L) (hi:L[i]?=some (b,.cells cs t (m,m+1)))
  (ho:off<cs.size) (hom:off<m) (h1:qcx v=true) (hk:∀ w',Mem w0 w' (L.set i (b,.cells (cs.setIfInBounds off v) t (m,m+1)))→K w'):StoreV w b off v K:=by
 have hg:=h.get (zmg hi);refine ⟨⟨cs[off],?_⟩,?_,h1,hk _ (h.setCell hi rfl)⟩
 ·rw [qc hg];exact Array.getElem?_eq_getElem ho
 ·simp [World.frozen?,hg];omega
theorem q0f (w:World) {w0:World} {s:ByteArray} {b m:Nat} {z:List Value} {t:TypeId} {L:List (Nat × Obj)} {K:Value→Prop} (hm:Mem w0 w ((b,.cells (qe2 s.data.toList s.size z) t (m,m+1))::L)) (hk:K (.string (lowS s))):BytesS w (some ⟨b,0,none⟩) s.size K:=by
 refine ⟨s.data.toList.map lowB,by simp,fun _=>⟨b,0,rfl,fun k v hv=>?_⟩,hk⟩;rw [qc (hm.get mh),Nat.zero_add];have e:(qe2 s.data.toList s.size z)=(byteCells (s.data.toList.map lowB)++z).toArray:=by
  unfold qe2;rw [List.take_of_length_le Js,List.drop_eq_nil_of_le Js,List.append_nil]
 rw [e,List.getElem?_toArray,List.getElem?_append_left (List.getElem?_eq_some_iff.1 hv).1];exact hv
theorem qfc (s:ByteArray) (hs:s.size≤140737488355328) (w:World):Gv Tryz.prog 200 [.string s] w fun v w'=>v=.string (lowS s)∧Ext w w':=by
 have hsz:s.data.toList.length=s.size:=by simp
 refine ze Tryz.func200 Tryz.ntmps200 ?_;refine ⟨fun cap cs b w1 hcap hcs hb hw1=>?_⟩;obtain ⟨z,hz⟩:∃ z,z=List.replicate (cap-s.size) (Value.int .u8 0):=⟨_,rfl⟩
 obtain ⟨m,hmm⟩:∃ m,m=cs.size:=⟨_,rfl⟩
 have hms:s.size≤m:=by rw [hmm,hcs];simp [byteCells]
 have hm:Mem w w1 [(b,.cells (qe2 s.data.toList 0 z) 5 (m,m+1))]:=by
  rw [hmm];have e:qe2 s.data.toList 0 z=cs:=by rw [hcs,hz];simp [qe2]
  rw [e];exact (Mem.nil w).drew.new hb hw1
 clear hcs hb hw1 hmm hz;(conv=>whnf);refine qw (fun i:Nat=>[(3,.slice (some ⟨b,0,none⟩) s.size cap),(8,.slice (some ⟨b,0,none⟩) s.size cap),(9,ii s.size),(10,ii i)]) (fun i w2=>i≤s.size∧Mem w w2 [(b,.cells (qe2 s.data.toList i z) 5 (m,m+1))]) (fun i=>s.size-i) 0 ⟨rfl,rfl,rfl,rfl,trivial⟩ ⟨by omega,hm⟩ ?_;rintro i w2 ρ' ⟨h1,hm⟩;(conv=>whnf);refine zC (fun _=>zw ?_) (fun _=>zw ?_)
 ·have hi:i<s.data.toList.length:=by omega
  refine ElemV.own1 i rfl Oo (zw ?_);refine LoadV.mem hm (i:=0) rfl (q0g hi) (zw ?_)
  (repeat' (first|refine zp ?_|refine zC (fun _=>zw ?_) (fun _=>zw ?_)))
  ·refine ElemV.own1 i rfl Oo (zw ?_);refine StoreV.memF (v:=.int .u8 ((s.data.toList[i].toNat:Int)+32)) hm (i:=0) rfl (by rw [qwn _ _ _ Oo];omega) Oo rfl ?_;intro w3 hm3;replace hm3:Mem w w3 [(b,.cells ((qe2 s.data.toList i z).setIfInBounds i (.int .u8 ((s.data.toList[i].toNat:Int)+32))) 5 (m,m+1))]:=hm3;rw [← q4i _ ⟨by omega,by omega⟩,q0h hi] at hm3;refine zu ?_;exact ⟨i+1,⟨rfl,rfl,rfl,rfl,trivial⟩,⟨by omega,hm3⟩,by omega⟩
  all_goals
   rw [qwm hi (q84 _ Oo)] at hm;exact ⟨i+1,⟨rfl,rfl,rfl,rfl,trivial⟩,⟨by omega,hm⟩,by omega⟩
 ·refine q0f w2 (by rw [show i=s.size by omega] at hm;exact hm) (zw ?_);exact ⟨rfl,hm.ext⟩
def bs (l:LB):ByteArray:=⟨l.toArray⟩
namespace V
theorem Rw.tail {w0 w:World} {v:Value} {e:TypeId} {size n:Nat} {xs:List Value} {x:Nat × Obj} {L:List (Nat × Obj)} (h:Rw w0 w v e size n xs (x::L)):Rw w0 w v e size n xs L:=
 ⟨h.mem.sub (List.sublist_cons_self ..),h.own,fun y hy=>h.apart y (zmc hy)⟩
end V
theorem V.Rw.cells {w0 w:World} {A:oA} {c n:Nat} {e:TypeId} {xs:List Value} {L:List (Nat × Obj)} (h:Rw w0 w (.slice A n c) e 1 n xs L) (hn:0<n) :
  ∃ g,A=some ⟨g,0,none⟩∧w0.heap.size≤g∧g<w.heap.size∧n≤c∧CellsAt w g 0 xs:=by
 rcases h.own.2 with ⟨e1,e2⟩|⟨g,cap,cur,e1,hg0,hg,hnc,_,hcs,htk⟩
 ·omega
 ·cases e1;refine ⟨g,rfl,hg0,?_,hnc,fun k v hv=>?_⟩
  ·rcases Nat.lt_or_ge g w.heap.size with h' | h'
   ·exact h'
   ·rw [Array.getElem?_eq_none h'] at hg;cases hg
  ·rw [qc hg,Nat.zero_add];rw [← htk,List.getElem?_take] at hv
   split at hv
   ·simpa using hv
   ·cases hv
theorem bsz (a b:ByteArray):(a++b).size=a.size+b.size:=ByteArray.size_append
namespace V
theorem Rw.join {w0 w w':World} {v:Value} {e:TypeId} {size n:Nat} {xs:List Value} {L L2:List (Nat × Obj)} (h:Rw w0 w v e size n xs L) (hm:Mem w w' L2):Rw w0 w' v e size n xs (L2++L):=by
 have hc:=h.call hm.ext;refine ⟨⟨hc.mem.ext,fun x hx=>?_,?_⟩,hc.own,fun x hx=>?_⟩
 ·rcases List.mem_append.1 hx with hx|hx
  ·exact ⟨Nat.le_trans h.mem.ext.size (hm.own x hx).1,(hm.own x hx).2⟩
  ·exact hc.mem.own x hx
 ·rw [List.map_append,List.nodup_append];refine ⟨hm.nodup,h.mem.nodup,fun a ha b hb hab=>?_⟩;obtain ⟨x,hx,rfl⟩:=List.mem_map.1 ha;obtain ⟨y,hy,rfl⟩:=List.mem_map.1 hb;have h1:=(hm.own x hx).1;have h2:=h.mem.lt (b:=y.1) (o:=y.2) hy;omega
 ·rcases List.mem_append.1 hx with hx|hx
  ·intro e;have h1:=(hm.own x hx).1;have h2:=h.own.lt _ e;omega
  ·exact h.apart x hx
end V
namespace V
theorem qcd {w:World} {g:Nat} {o:Obj} (h:w.heap[g]?=some o):g<w.heap.size:=by
 rcases Nat.lt_or_ge g w.heap.size with h' | h'
 ·exact h'
 ·rw [Array.getElem?_eq_none h'] at h;cases h
theorem PostO.still {w w':World} {B:List (Option Nat)} {v c:Value} (he:Ext w w') (h:v=c):PostO w B true (fun u _=>u=c) v w':=⟨Chg.ext he,h,fun h=>by cases h⟩
theorem AppV.own {P:Program} {base e size:Nat} {w:World} {v:Value} {n:Nat} {xs:List Value} {t ty:TypeId} {i:TypeInfo} {z:Value} {A:oA} {m c:Nat} {news:List Value} {K:Value→World→Prop} (ht:P.underlying t=some (.slice e)) (hi:P.info? e=some i) (hz:i.zero=some z)
  (hsize:i.size=size) (hzs:z.cells.size=size) (hsz:0<size) (h:w.ownsRow base e size v n xs) (hbw:base≤w.heap.size) (hl:news.length=m*size)
  (hA:news≠[]→∃ b off,A=some ⟨b,off,none⟩∧CellsAt w b off news) (h1:∀ u∈news,u.oneCell'=true) (hb:(n+m)*i.bytes≤140737488355328) (h63:n+m≤140737488355328)
  (hk:∀ v' w',w'.ownsRow base e size v' (n+m) (xs++news)→w.grownBy w' v.ownBlock→(v'.ownBlock=v.ownBlock∨v'.ownBlock=some w.heap.size)→K v' w'):AppV P #[t,t] ty v (.slice A m c) w K:=by
 cases A with
 | none=>
  have hn:news=[]:=by
   cases hnn:news with
   | nil=>rfl
   | cons x r=>obtain ⟨b,off,h0,_⟩:=hA (by rw [hnn];simp);cases h0
  subst hn;have hm:m=0:=by
   rcases Nat.mul_eq_zero.1 (show m*size=0 by simpa using hl.symm) with h|h
   ·exact h
   ·omega
  subst hm;refine ⟨v,w,?_,hk v w (by simpa using h) ⟨rfl,rfl,rfl,Nat.le_refl _,fun _ _ _=>rfl⟩ (.inl rfl)⟩
  rcases h.2 with ⟨e1,e2⟩|⟨g,cap,cur,e1,_,_,hnc,_⟩
  ·subst e1;simp [Builtin.append_,run_underlying ht,sizeOf,typeInfo,hi,Builtin.lenOf,Builtin.firstCells]
  ·subst e1;simp [Builtin.append_,run_underlying ht,sizeOf,typeInfo,hi,Builtin.lenOf,Builtin.firstCells,hnc,storeCells]
 | some a=>
  have hcells:∀ j u,news[j]?=some u→w.cell? (a.add j)=some u:=by
   intro j u hu;obtain ⟨b,off,h0,h1⟩:=hA (by intro e;rw [e] at hu;simp at hu);cases h0;rw [q9];exact h1 j u hu
  obtain ⟨v',w',hrun,h2,h3,_,h5⟩:=run_append_own_at (P:=P) w base t ty e i z size i.bytes ht hi hz hsize rfl hzs hsz v n xs h a m c news hl hcells h1 (by simp only [maxLen];omega) hb hbw;exact ⟨v',w',hrun,hk v' w' h2 h3 h5⟩
end V
def rdC (A:oA) (n c:Nat) (t:List Value):Obj:=.cells (Value.slice A n c::t).toArray 334
def seeB (p:ByteArray→Bool):List ByteArray→Bool
 | []=>false
 | x::_=>p x
theorem qjv (rb g:Nat) (cap:List Value) (p:ByteArray→Bool) (rest:List ByteArray) (A:oA) (c:Nat) (t:List Value) (w:World) (hb:w.heap[rb]?=some (rdC A rest.length c t)) (hS:SlAt zeS 1 w A rest)
  (hp:∀ x xs w1,rest=x::xs→Ext w w1→Gv Tryz.prog g (.string x::cap) w1 fun v w2=>v=.bool (p x)∧Ext w1 w2) :
  Gv Tryz.prog 240 [pp rb,.func (.func g) #[] cap.toArray] w fun v w'=>v=.bool (seeB p rest)∧Ext w w':=by
 have h0:∀ w',Ext w w'→w'.cell? ⟨rb,0,none⟩=some (.slice A rest.length c):=fun w' he=>he.cell (by rw [qc hb];rfl)
 refine ze Tryz.func240 Tryz.ntmps240 ?_;refine LoadV.of (h0 w (Ext.refl w)) ?_;cases rest with
 | nil=>
  simp only [List.length_nil];refine zu ?_;exact ⟨rfl,Ext.refl w⟩
 | cons x xs=>
  simp only [List.length_cons] at h0 ⊢;refine zu ?_;refine LoadV.of (h0 w (Ext.refl w)) (zu ?_);refine ElemV.sl hS rfl 0 rfl Js ?_;intro b off hc;refine zu ?_;refine LoadV.cell0 hc (zu ?_);have hp':=hp x xs w rfl (Ext.refl w);cases cap with
  | nil=>
   (conv=>whnf);refine zcv (hp') ?_;rintro v w2 ⟨rfl,he⟩;refine zu ?_;exact ⟨rfl,he⟩
  | cons y ys=>
   (conv=>whnf);refine zcv (hp') ?_;rintro v w2 ⟨rfl,he⟩;refine zu ?_;exact ⟨rfl,he⟩
theorem V.SliceV.tail {w:World} {A:oA} {x:ByteArray} {xs:List ByteArray} {n c:Nat} {k:IntKind} {K:Value→Prop} (hS:SlAt zeS 1 w A (x::xs)) (hn:n=xs.length+1) (hc:n≤c)
  (hk:∀ A' c',SlAt zeS 1 w A' xs→xs.length≤c'→K (.slice A' xs.length c')):SliceV 1 A n c (some (.int k 1)) none none K:=by
 subst hn;refine ⟨1,xs.length+1,c,rfl,rfl,rfl,by omega,by omega,by omega,fun h=>by simp at h,fun A' hA'=>?_⟩;obtain ⟨b,off,rfl,h2⟩:=hS.at_ Js;have hk:=hk A' (c-1) ⟨fun hne=>?_⟩ Oo
 ·simpa using hk
 ·have hpos:0<xs.length:=List.length_pos_iff.2 hne;rw [if_neg Oo] at hA';refine ⟨b,off+1,?_,fun j y hy=>?_⟩
  ·rw [hA'];show some ((⟨b,off,none⟩:Addr).add (1*1))=_;rw [q9]
  ·have:=h2 (j+1) y (by simpa using hy);rw [show off+1+j*1=off+(j+1)*1 by omega];exact this
theorem qff (rb i:Nat) (x:ByteArray) (xs:List ByteArray) (A:oA) (c:Nat) (t:List Value) (w0 w:World) (L:List (Nat × Obj)) (hm:Mem w0 w L) (hi:L[i]?=some (rb,rdC A (xs.length+1) c t)) (hS:SlAt zeS 1 w0 A (x::xs)) (hc:xs.length+1≤c) :
  Gv Tryz.prog 244 [pp rb] w fun v w'=>v=.string x∧∃ A' c',SlAt zeS 1 w0 A' xs∧xs.length≤c'∧Mem w0 w' (L.set i (rb,rdC A' xs.length c' t)):=by
 have hb:=hm.get (zmg hi);refine ze Tryz.func244 Tryz.ntmps244 ?_;refine LoadV.of (v:=.slice A (xs.length+1) c) (by rw [rdC] at hb;rw [qc hb];rfl) (zw ?_);refine ElemV.sl (hS.ext hm.ext) rfl 0 rfl Js ?_;intro b off hcl;(conv=>whnf);refine LoadV.cell0 hcl (zw ?_);refine LoadV.of (v:=.slice A (xs.length+1) c) (by rw [rdC] at hb;rw [qc hb];rfl) (zw ?_);refine V.SliceV.tail hS rfl hc ?_;intro A' c' hS' hc';(conv=>whnf);refine StoreV.mem hm hi (show 0<t.length+1 by omega) rfl fun w2 hm2=>zw ?_;exact ⟨rfl,A',c',hS',hc',hm2⟩
theorem q18 (x:ByteArray) (lb least:Nat) (hs:x.size≤140737488355328) (w:World) (hl:w.cell? ⟨lb,0,none⟩=some (ii least)) :
  Gv Tryz.prog 295 [.string x,pp lb] w fun v w'=>v=.bool (qar x least 8 false)∧Ext w w':=by
 have h1:=qdr x least 8 false hs w;refine ze Tryz.func295 Tryz.ntmps295 ?_;refine LoadV.of hl (zw ?_);refine zcv (h1) ?_;rintro v w' ⟨rfl,he⟩;(conv=>whnf);exact ⟨rfl,he⟩
theorem qaad {α:Type} {L:List α} {i:Nat} {a:α} (h:L[i]?=some a):L.set i a=L:=by
 apply List.ext_getElem?;intro j;rw [List.getElem?_set]
 split
 ·rename_i e;subst e
  split
  ·exact h.symm
  ·rename_i hl;rw [List.getElem?_eq_none Oo] at h;cases h
 ·rfl
theorem q1s (s:ByteArray):seq s ⟨#[]⟩=decide (s.size=0):=by
 rw [Bool.eq_iff_iff,qae,decide_eq_true_iff]
 constructor
 ·rintro rfl;rfl
 ·intro h;obtain ⟨a⟩:=s;have:a=#[]:=Array.eq_empty_of_size_eq_zero h;rw [this]
structure TailP (q:ByteArray→Bool) (rest pre rest':List ByteArray) (s:ByteArray):Prop where
 eq:rest=pre++rest'
 all:pre.all q=true
 size:s.size≤9*pre.length
 none:s.size=0↔pre=[]
theorem TailP.step {q:ByteArray→Bool} {rest pre xs:List ByteArray} {x s s':ByteArray} (h:TailP q rest pre (x::xs) s) (hq:q x=true) (hs:s'.size=s.size+1+x.size) (hx:x.size≤8):TailP q rest (pre++[x]) xs s':=by
 obtain ⟨h1,h2,h3,h4⟩:=h;refine ⟨by rw [h1];simp,by simp [h2,hq],by simp;omega,?_⟩
 constructor
 ·intro h;omega
 ·intro h;simp at h
theorem q5j (rb i least:Nat) (rest:List ByteArray) (A:oA) (c:Nat) (t:List Value) (w0 w:World) (L:List (Nat × Obj)) (hm:Mem w0 w L) (hi:L[i]?=some (rb,rdC A rest.length c t)) (hS:SlAt zeS 1 w0 A rest) (hc:rest.length≤c)
  (hx:∀ x∈rest,x.size≤1000000) (hn:rest.length≤1000000) :
  Gv Tryz.prog 245 [pp rb,ii least] w fun v w'=>∃ pre rest' s,TailP (fun x=>qar x least 8 false) rest pre rest' s∧seeB (fun x=>qar x least 8 false) rest'=false∧
   v=.tuple #[.string s,.bool (decide (pre≠[]))]∧∃ A' c',SlAt zeS 1 w0 A' rest'∧rest'.length≤c'∧Mem w0 w' (L.set i (rb,rdC A' rest'.length c' t)):=by
 refine ze Tryz.func245 Tryz.ntmps245 ?_;refine znm hm fun lb w1 hm1=>zw ?_;refine qw (fun x:List ByteArray × oA × Nat × ByteArray=>[(0,pp rb),(3,pp lb),(6,.string x.2.2.2)])
  (fun x w2=>∃ pre,TailP (fun x=>qar x least 8 false) rest pre x.1 x.2.2.2∧SlAt zeS 1 w0 x.2.1 x.1∧x.1.length≤x.2.2.1∧Mem w0 w2 ((lb,.cells #[ii least] 3)::L.set i (rb,rdC x.2.1 x.1.length x.2.2.1 t)))
  (fun x=>x.1.length) (rest,A,c,⟨#[]⟩) ⟨rfl,rfl,rfl,trivial⟩ ⟨[],⟨rfl,rfl,by simp;rfl,by simp;rfl⟩,hS,hc,by simp only;rw [qaad hi];exact hm1⟩ ?_
 rintro ⟨xs,B,d,s⟩ w2 ρ' ⟨pre,hP,hS2,hd,hm2⟩;simp only at hP hS2 hd hm2;dsimp only;(conv=>whnf);have hil:i<L.length:=(List.getElem?_eq_some_iff.1 hi).1;have hlb:=hm2.get mh;have hsz:∀ x∈xs,x.size≤1000000:=fun x hxx=>hx x (by rw [hP.eq];exact List.mem_append_right _ hxx)
 have hpl:pre.length≤1000000:=by have:=congrArg List.length hP.eq;simp at this;omega
 have hps:=hP.size;refine zcv (qjv rb 295 [pp lb] (fun x=>qar x least 8 false) xs B d t w2 (hm2.get (zmg (i:=i+1) (by simp [hil]))) (hS2.ext hm2.ext) (fun x ys w3 e he=>q18 x lb least (by have:=hsz x (by rw [e];exact List.mem_cons_self ..);omega) w3 (he.cell (by rw [qc hlb];rfl)))) ?_;rintro v w3 ⟨rfl,he⟩;have hm3:=hm2.call he;cases hq:seeB (fun x=>qar x least 8 false) xs
 ·refine zu ?_;refine ⟨pre,xs,s,hP,hq,?_,B,d,hS2,hd,hm3.sub (List.sublist_cons_self ..)⟩;have e:seq s ⟨#[]⟩=decide (pre=[]):=by
   rw [q1s,Bool.eq_iff_iff,decide_eq_true_iff,decide_eq_true_iff];exact hP.none
  rw [e]
  congr 3
  by_cases h:pre=[]<;>simp [h]
 ·obtain ⟨x,ys,rfl⟩:∃ x ys,xs=x::ys:=by
   cases xs with
   | nil=>cases hq
   | cons x ys=>exact ⟨x,ys,rfl⟩
  have hq:qar x least 8 false=true:=hq;have hx8:x.size≤8:=by simp [qar] at hq;omega
  simp only [List.length_cons] at hd hm3 ⊢;refine zu ?_;refine zcv (qff rb (i+1) x ys B d t w0 w3 _ hm3 (by simp [hil]) hS2 hd) ?_;rintro v w4 ⟨rfl,A',c',hS4,hc4,hm4⟩;have hm4':Mem w0 w4 ((lb,.cells #[ii least] 3)::L.set i (rb,rdC A' ys.length c' t)):=by
   rw [List.set_cons_succ,List.set_set] at hm4;exact hm4
  (conv=>whnf);refine ⟨by show 1+x.size≤_;omega,?_⟩;(conv=>whnf);refine ⟨by show s.size+(_:ByteArray).size≤_;rw [bsz];show s.size+(1+x.size)≤_;omega,?_⟩;(conv=>whnf);exact ⟨(ys,A',c',s++((⟨#[45]⟩:ByteArray)++x)),⟨rfl,rfl,rfl,trivial⟩,⟨pre++[x],hP.step hq (by rw [bsz,bsz];show s.size+(1+x.size)=_;omega) hx8,hS4,hc4,hm4'⟩,by simp⟩
def qka:Nat→List ByteArray→List ByteArray
 | 0,l=>l
 | _,[]=>[]
 | k+1,x::xs=>if qar x 3 3 true=true then qka k xs else x::xs
def qja:List ByteArray→Option (List ByteArray)
 | []=>none
 | x::xs=>if qar x 2 8 true=true then some (if 3<x.size then xs else qka 3 xs) else none
def tagC (a0 a1 a2 a3:ByteArray) (V E:Value) (a6:ByteArray):List Value:=[.string a0,.string a1,.string a2,.string a3,V,E,.string a6]
section
variable {w0 w:World} {L:List (Nat × Obj)} {i rb n c off:Nat} {A:oA} {t:List Value} {v:Value}
theorem qhg {K:World→Prop} (hm:Mem w0 w L) (hi:L[i]?=some (rb,rdC A n c t)) (k:Nat) (ho:off=1+k) (hk:k<t.length) (h1:qcx v=true) (hw:∀ w',Mem w0 w' (L.set i (rb,rdC A n c (t.set k v)))→K w'):StoreV w rb off v K:=by
 subst ho;refine StoreV.mem hm hi Ys h1 fun w' h=>hw w' ?_;have e:(Value.slice A n c::t).toArray.setIfInBounds (1+k) v=(Value.slice A n c::t.set k v).toArray:=by
  rw [List.setIfInBounds_toArray,Nat.add_comm 1 k,List.set_cons_succ]
 rw [e] at h;exact h
theorem qgm {K:Value→Prop} (hm:Mem w0 w L) (hi:L[i]?=some (rb,rdC A n c t)) (k:Nat) (ho:off=1+k) (hv:t[k]?=some v) (hk:K v):LoadV w rb off K:=by
 subst ho;exact LoadV.mem hm hi (by rw [List.getElem?_toArray,Nat.add_comm 1 k,List.getElem?_cons_succ];exact hv) hk
end
theorem qz2 (x:ByteArray) (hs:x.size≤140737488355328) (w:World):Gv Tryz.prog 287 [.string x] w fun v w'=>v=.bool (qar x 2 8 true)∧Ext w w':=by
 have h1:=qdr x 2 8 true hs w;refine ze Tryz.func287 Tryz.ntmps287 ?_;refine zcv (h1) ?_;rintro v w' ⟨rfl,he⟩;(conv=>whnf);exact ⟨rfl,he⟩
theorem qz3 (x:ByteArray) (hs:x.size≤140737488355328) (w:World):Gv Tryz.prog 289 [.string x] w fun v w'=>v=.bool (qar x 3 3 true)∧Ext w w':=by
 have h1:=qdr x 3 3 true hs w;refine ze Tryz.func289 Tryz.ntmps289 ?_;refine zcv (h1) ?_;rintro v w' ⟨rfl,he⟩;(conv=>whnf);exact ⟨rfl,he⟩
theorem qp5 (rb i:Nat) (rest:List ByteArray) (A:oA) (c:Nat) (a0 a2 a3 a6:ByteArray) (V E:Value) (w0 w:World) (L:List (Nat × Obj)) (hm:Mem w0 w L) (hi:L[i]?=some (rb,rdC A rest.length c (tagC a0 ⟨#[]⟩ a2 a3 V E a6)))
  (hS:SlAt zeS 1 w0 A rest) (hc:rest.length≤c) (hx:∀ x∈rest,x.size≤1000000) :
  Gv Tryz.prog 242 [pp rb] w fun v w'=>(qja rest=none∧v=.bool false∧Ext w0 w')∨
   (∃ rest',qja rest=some rest'∧v=.bool true∧∃ A' c' b0 b1,SlAt zeS 1 w0 A' rest'∧rest'.length≤c'∧Mem w0 w' (L.set i (rb,rdC A' rest'.length c' (tagC b0 b1 a2 a3 V E a6)))):=by
 have hil:i<L.length:=(List.getElem?_eq_some_iff.1 hi).1;refine ze Tryz.func242 Tryz.ntmps242 ?_;refine zcv (qjv rb 287 [] (fun x=>qar x 2 8 true) rest A c _ w (hm.get (zmg hi)) (hS.ext hm.ext) (fun x ys w3 e he=>qz2 x (by have:=hx x (by rw [e];exact List.mem_cons_self ..);omega) w3)) ?_;rintro v w1 ⟨rfl,he⟩;have hm1:=hm.call he;cases rest with
 | nil=>
  refine zu ?_;exact .inl ⟨rfl,rfl,hm1.ext⟩
 | cons x xs=>
  show putV _ _ _ (Value.bool (qar x 2 8 true)) _;cases hq:qar x 2 8 true
  ·refine zu ?_;exact .inl ⟨by rw [qja,if_neg (by rw [hq];simp)],rfl,hm1.ext⟩
  ·have hR:qja (x::xs)=some (if 3<x.size then xs else qka 3 xs):=by rw [qja,if_pos hq]
   rw [hR];have hx1:=hx x mh;simp only [List.length_cons] at hi hm1 hc ⊢;refine zu ?_;refine zcv (qff rb i x xs A c _ w0 w1 L hm1 hi hS hc) ?_;rintro v w2 ⟨rfl,A2,c2,hS2,hc2,hm2⟩;(conv=>whnf);refine qhg hm2 (List.getElem?_set_self hil) 0 rfl (show 0<7 by decide) rfl ?_;intro w3 hm3;rw [List.set_set] at hm3;replace hm3:Mem w0 w3 (L.set i (rb,rdC A2 xs.length c2 (tagC x ⟨#[]⟩ a2 a3 V E a6))):=hm3;(conv=>whnf);refine qgm hm3 (List.getElem?_set_self hil) 0 rfl rfl ?_;(conv=>whnf);refine zC (fun _=>zw ?_) (fun _=>zw ?_)
   ·rw [if_pos Oo];exact .inr ⟨xs,rfl,rfl,A2,c2,x,⟨#[]⟩,hS2,hc2,hm3⟩
   ·rw [if_neg Oo];refine qw (fun x:Nat × List ByteArray × oA × Nat × ByteArray=>[(0,pp rb),(3,ii x.1)])
     (fun y w2=>y.1≤3∧qka 3 xs=qka (3-y.1) y.2.1∧y.2.2.2.2.size≤y.1*1000001∧(∀ x∈y.2.1,x.size≤1000000)∧SlAt zeS 1 w0 y.2.2.1 y.2.1∧y.2.1.length≤y.2.2.2.1∧Mem w0 w2 (L.set i (rb,rdC y.2.2.1 y.2.1.length y.2.2.2.1 (tagC x y.2.2.2.2 a2 a3 V E a6))))
     (fun y=>3-y.1) (0,xs,A2,c2,⟨#[]⟩) ⟨rfl,rfl,trivial⟩ ⟨by simp,rfl,by simp;rfl,fun y hy=>hx y (zmc hy),hS2,hc2,hm3⟩ ?_
    rintro ⟨k,ys,B,d,s⟩ w4 ρ' ⟨h1,h2,h3,h4,hS4,hc4,hm4⟩;simp only at h1 h2 h3 h4 hS4 hc4 hm4;dsimp only;(conv=>whnf);refine zC (fun _=>zu ?_) (fun _=>zu ?_)
    ·have hk:3-k=(2-k)+1:=by omega
     refine zcv (qjv rb 289 [] (fun x=>qar x 3 3 true) ys B d _ w4 (hm4.get (zmg (List.getElem?_set_self hil))) (hS4.ext hm4.ext) (fun x zs w3 e he=>qz3 x (by have:=h4 x (by rw [e];exact List.mem_cons_self ..);omega) w3)) ?_;rintro v w5 ⟨rfl,he5⟩;have hm5:=hm4.call he5;cases ys with
     | nil=>
      refine zu ?_;refine .inr ⟨[],?_,rfl,B,d,x,s,hS4,hc4,hm5⟩;rw [h2,hk];rfl
     | cons y zs=>
      show putV _ _ _ (Value.bool (qar y 3 3 true)) _;have hd3:qka (2-k+1) (y::zs)=if qar y 3 3 true=true then qka (2-k) zs else y::zs:=rfl;rw [hk,hd3] at h2;cases hq:qar y 3 3 true
      ·rw [if_neg (by rw [hq];simp)] at h2;refine zu ?_;exact .inr ⟨y::zs,by rw [h2],rfl,B,d,x,s,hS4,hc4,hm5⟩
      ·rw [if_pos hq] at h2;simp only [List.length_cons] at hm5 hc4 ⊢;have hy:=h4 y mh;(conv=>whnf);refine zt ?_;refine zC (fun _=>zw ?_) (fun _=>zw ?_)
       ·
        refine qgm hm5 (List.getElem?_set_self hil) 1 rfl rfl ?_;(conv=>whnf);refine ⟨by show s.size+1≤_;omega,?_⟩;(conv=>whnf);refine qhg hm5 (List.getElem?_set_self hil) 1 rfl (show 1<7 by decide) rfl ?_;intro w7 hm7;rw [List.set_set] at hm7;replace hm7:Mem w0 w7 (L.set i (rb,rdC B (zs.length+1) d (tagC x (s++(⟨#[45]⟩:ByteArray)) a2 a3 V E a6))):=hm7;(conv=>whnf);refine DrawV.inv (fun S w=>(S 11=false∧(bif S 6 then (∃ A' c',SlAt zeS 1 w0 A' zs∧zs.length≤c'∧Mem w0 w (L.set i (rb,rdC A' zs.length c' (tagC x (s++(⟨#[45]⟩:ByteArray)) a2 a3 V E a6)))) else Mem w0 w (L.set i (rb,rdC B (zs.length+1) d (tagC x (s++(⟨#[45]⟩:ByteArray)) a2 a3 V E a6)))))∨
          (S 11=true∧S 4=true∧S 6=true∧∃ A' c',SlAt zeS 1 w0 A' zs∧zs.length≤c'∧Mem w0 w (L.set i (rb,rdC A' zs.length c' (tagC x ((s++(⟨#[45]⟩:ByteArray))++y) a2 a3 V E a6))))) rfl Jk (.inl ⟨rfl,hm7.drew⟩) ?_
        (conv=>whnf);(iterate 4 (refine zi ?_));refine StepI.of (.string (s++(⟨#[45]⟩:ByteArray))) (fun S wd hk hp hI=>?_) (zw ?_)
        ·obtain ⟨h11,hI⟩:=hI.resolve_right (fun h=>by have:=h.2.1;rw [hk] at this;cases this);(conv=>whnf);cases h6:S 6
         ·rw [h6] at hI;refine qgm hI (List.getElem?_set_self hil) 1 rfl rfl ?_;(conv=>whnf);exact ⟨rfl,.inl ⟨h11,by show bif S 6 then _ else _;rw [h6];exact hI⟩⟩
         ·rw [h6] at hI;obtain ⟨A',c',hS',hc',hM⟩:=hI;refine qgm hM (List.getElem?_set_self hil) 1 rfl rfl ?_;(conv=>whnf);exact ⟨rfl,.inl ⟨h11,by show bif S 6 then _ else _;rw [h6];exact ⟨A',c',hS',hc',hM⟩⟩⟩
        refine zi ?_;refine StepI.of (.string y) (fun S wd hk hp hI=>?_) (zw ?_)
        ·obtain ⟨h11,hI⟩:=hI.resolve_right (fun h=>by have:=h.2.2.1;rw [hk] at this;cases this);have h6:S 6=false:=hk;rw [h6] at hI;(conv=>whnf);refine zcv (qff rb i y zs B d _ w0 wd _ hI (List.getElem?_set_self hil) hS4 hc4) ?_;rintro v w6 ⟨rfl,A',c',hS',hc',hM'⟩;rw [List.set_set] at hM';(conv=>whnf);exact ⟨rfl,.inl ⟨h11,A',c',hS',hc',hM'⟩⟩
        refine StepI.of (.string ((s++(⟨#[45]⟩:ByteArray))++y)) (fun S wd hk hp hI=>zw ?_) (zw ?_)
        ·refine ⟨by rw [bsz];show s.size+1+y.size≤_;omega,?_⟩;(conv=>whnf);exact ⟨rfl,hI⟩
        (iterate 3 (refine zi ?_));refine StepI.of undef (fun S wd hk hp hI=>?_) (zw ?_)
        ·obtain ⟨h11,hI⟩:=hI.resolve_right (fun h=>by have:=h.1;rw [hk] at this;cases this);have h4:=hp 4 Od;have h6:=hp 6 Od;rw [h6] at hI;obtain ⟨A',c',hS',hc',hM⟩:=hI;(conv=>whnf);refine qhg hM (List.getElem?_set_self hil) 1 rfl (show 1<7 by decide) rfl ?_;intro w6 hM';rw [List.set_set] at hM';(conv=>whnf);exact ⟨rfl,.inr ⟨rfl,h4,h6,A',c',hS',hc',hM'⟩⟩
        intro w6 hI;obtain ⟨_,_,_,A',c',hS',hc',hM⟩:=hI.resolve_left (fun h=>by have:=h.1;cases this);refine zu ?_;refine ⟨(k+1,zs,A',c',(s++(⟨#[45]⟩:ByteArray))++y),⟨rfl,rfl,trivial⟩,⟨by simp only;omega,?_,?_,fun x hx=>h4 x (zmc hx),hS',hc',hM⟩,by simp only;omega⟩
        ·rw [h2];simp only;rw [show 3-(k+1)=2-k by omega]
        ·simp only [bsz,show (⟨#[45]⟩:ByteArray).size=1 from rfl];omega
       ·skip
        refine DrawV.inv (fun S w=>(S 11=false∧(bif S 6 then (∃ A' c',SlAt zeS 1 w0 A' zs∧zs.length≤c'∧Mem w0 w (L.set i (rb,rdC A' zs.length c' (tagC x s a2 a3 V E a6)))) else Mem w0 w (L.set i (rb,rdC B (zs.length+1) d (tagC x s a2 a3 V E a6)))))∨
          (S 11=true∧S 4=true∧S 6=true∧∃ A' c',SlAt zeS 1 w0 A' zs∧zs.length≤c'∧Mem w0 w (L.set i (rb,rdC A' zs.length c' (tagC x (s++y) a2 a3 V E a6))))) rfl Jk (.inl ⟨rfl,hm5.drew⟩) ?_
        (conv=>whnf);(iterate 4 (refine zi ?_));refine StepI.of (.string s) (fun S wd hk hp hI=>?_) (zw ?_)
        ·obtain ⟨h11,hI⟩:=hI.resolve_right (fun h=>by have:=h.2.1;rw [hk] at this;cases this);(conv=>whnf);cases h6:S 6
         ·rw [h6] at hI;refine qgm hI (List.getElem?_set_self hil) 1 rfl rfl ?_;(conv=>whnf);exact ⟨rfl,.inl ⟨h11,by show bif S 6 then _ else _;rw [h6];exact hI⟩⟩
         ·rw [h6] at hI;obtain ⟨A',c',hS',hc',hM⟩:=hI;refine qgm hM (List.getElem?_set_self hil) 1 rfl rfl ?_;(conv=>whnf);exact ⟨rfl,.inl ⟨h11,by show bif S 6 then _ else _;rw [h6];exact ⟨A',c',hS',hc',hM⟩⟩⟩
        refine zi ?_;refine StepI.of (.string y) (fun S wd hk hp hI=>?_) (zw ?_)
        ·obtain ⟨h11,hI⟩:=hI.resolve_right (fun h=>by have:=h.2.2.1;rw [hk] at this;cases this);have h6:S 6=false:=hk;rw [h6] at hI;(conv=>whnf);refine zcv (qff rb i y zs B d _ w0 wd _ hI (List.getElem?_set_self hil) hS4 hc4) ?_;rintro v w6 ⟨rfl,A',c',hS',hc',hM'⟩;rw [List.set_set] at hM';(conv=>whnf);exact ⟨rfl,.inl ⟨h11,A',c',hS',hc',hM'⟩⟩
        refine StepI.of (.string (s++y)) (fun S wd hk hp hI=>zw ?_) (zw ?_)
        ·refine ⟨by show s.size+y.size≤_;omega,?_⟩;(conv=>whnf);exact ⟨rfl,hI⟩
        (iterate 3 (refine zi ?_));refine StepI.of undef (fun S wd hk hp hI=>?_) (zw ?_)
        ·obtain ⟨h11,hI⟩:=hI.resolve_right (fun h=>by have:=h.1;rw [hk] at this;cases this);have h4:=hp 4 Od;have h6:=hp 6 Od;rw [h6] at hI;obtain ⟨A',c',hS',hc',hM⟩:=hI;(conv=>whnf);refine qhg hM (List.getElem?_set_self hil) 1 rfl (show 1<7 by decide) rfl ?_;intro w6 hM';rw [List.set_set] at hM';(conv=>whnf);exact ⟨rfl,.inr ⟨rfl,h4,h6,A',c',hS',hc',hM'⟩⟩
        intro w6 hI;obtain ⟨_,_,_,A',c',hS',hc',hM⟩:=hI.resolve_left (fun h=>by have:=h.1;cases this);refine zu ?_;refine ⟨(k+1,zs,A',c',s++y),⟨rfl,rfl,trivial⟩,⟨by simp only;omega,?_,?_,fun x hx=>h4 x (zmc hx),hS',hc',hM⟩,by simp only;omega⟩
        ·rw [h2];simp only;rw [show 3-(k+1)=2-k by omega]
        ·simp only [bsz];omega
    ·refine .inr ⟨ys,?_,rfl,B,d,x,s,hS4,hc4,hm4⟩;rw [h2,show 3-k=0 by omega];rfl
open Go.RowKit
namespace V
structure RowB (e:TypeId) (xs:List Value) (L:List (Nat × Obj)) (v:Value):Prop where
 h:(v=.slice none 0 0∧xs=[])∨∃ g cap cur,v=.slice (some ⟨g,0,none⟩) xs.length cap∧(g,Obj.cells cur e)∈L∧xs.length≤cap∧cap≤maxLen∧cur.size=cap∧cur.toList.take xs.length=xs
section
variable {w0 w:World} {L L':List (Nat × Obj)} {e:TypeId} {xs:List Value} {v:Value}
theorem RowB.nil (e:TypeId) (L:List (Nat × Obj)):RowB e [] L (.slice none 0 0):=⟨.inl ⟨rfl,rfl⟩⟩
theorem RowB.owns (h:RowB e xs L v) (hm:Mem w0 w L):w.ownsRow w0.heap.size e 1 v xs.length xs:=by
 refine ⟨(Nat.mul_one _).symm,?_⟩
 rcases h.h with ⟨rfl,rfl⟩|⟨g,cap,cur,rfl,hg,h1,h2,h3,h4⟩
 ·exact .inl ⟨rfl,rfl⟩
 ·exact .inr ⟨g,cap,cur,rfl,(hm.own _ hg).1,hm.get hg,h1,h2,by rw [h3,Nat.mul_one],by rw [Nat.mul_one];exact h4⟩
theorem RowB.keep (h:RowB e xs L v) (hk:∀ y∈L,v.ownBlock=some y.1→y∈L'):RowB e xs L' v:=by
 refine ⟨?_⟩
 rcases h.h with h|⟨g,cap,cur,rfl,hg,h1⟩
 ·exact .inl h
 ·exact .inr ⟨g,cap,cur,rfl,hk _ hg rfl,h1⟩
theorem RowB.in_ (h:RowB e xs L v) {g:Nat} (hg:v.ownBlock=some g):∃ o,(g,o)∈L:=by
 rcases h.h with ⟨rfl,_⟩|⟨g',cap,cur,rfl,h',_⟩
 ·cases hg
 ·cases hg;exact ⟨_,h'⟩
theorem RowB.slice (h:RowB e xs L v):∃ A c,v=.slice A xs.length c:=by
 rcases h.h with ⟨rfl,rfl⟩|⟨g,cap,cur,rfl,_⟩
 ·exact ⟨_,_,rfl⟩
 ·exact ⟨_,_,rfl⟩
theorem RowB.sl {l:List ByteArray} {A:oA} {n c:Nat} (h:RowB e (l.map Value.string) L (.slice A n c)) (hm:Mem w0 w L):SlAt zeS 1 w A l:=by
 refine ⟨fun hne=>?_⟩
 rcases h.h with ⟨_,h0⟩|⟨g,cap,cur,hv,hg,h1,_,_,h4⟩
 ·simp at h0;exact absurd h0 hne
 ·cases hv;refine ⟨g,0,rfl,fun j x hx k u hu=>?_⟩;cases k with
  | succ k=>simp [zeS] at hu
  | zero=>
   simp only [zeS,List.getElem?_cons_zero,Option.some.injEq] at hu;subst hu;have hj:(cur.toList.take (l.map Value.string).length)[j]?=some (.string x):=by rw [h4,List.getElem?_map,hx];rfl
   rw [List.getElem?_take] at hj
   split at hj
   ·rw [qc (hm.get hg)]
    simpa using hj
   ·cases hj
end
theorem AppV.blk {P:Program} {w0 w:World} {L:List (Nat × Obj)} {e t ty:TypeId} {i:TypeInfo} {z x:Value} {A:oA} {n c nb:Nat} {xs:List Value} {K:Value→World→Prop} (ht:P.underlying t=some (.slice e)) (hi:P.info? e=some i) (hz:i.zero=some z)
  (hsize:i.size=1) (hzs:z.cells.size=1) (hby:i.bytes≤16) (hm:Mem w0 w L) (hr:RowB e xs L (.slice A n c)) (hn:n=xs.length) (hx:x.oneCell'=true) (hb:w.cell? ⟨nb,0,none⟩=some x) (hlen:n+1≤8000000000000)
  (hk:∀ A' c' w' L',Mem w0 w' L'→RowB e (xs++[x]) L' (.slice A' (n+1) c')→(∀ y∈L,Value.ownBlock (.slice A n c)≠some y.1→y∈L')→
   (∀ g,Value.ownBlock (.slice A' (n+1) c')=some g→Value.ownBlock (.slice A n c)=some g∨∀ y∈L,y.1≠g)→K (.slice A' (n+1) c') w'):AppV P #[t,t] ty (.slice A n c) (.slice (some ⟨nb,0,none⟩) 1 1) w K:=by
 subst hn;refine AppV.own (news:=[x]) ht hi hz hsize hzs Od (hr.owns hm) hm.ext.size rfl (fun _=>⟨nb,0,rfl,fun k u hu=>?_⟩) (fun u hu=>by simp at hu;rw [hu];exact hx) ?_ Oo ?_
 ·cases k with
  | zero=>simp at hu;subst hu;exact hb
  | succ k=>simp at hu
 ·exact Nat.le_trans (Nat.mul_le_mul hlen hby) Od
 ·intro v' w' ho hg hor
  rcases ho.2 with ⟨_,h0⟩|⟨g,cap,cur,rfl,hg0,hgw,h1,h2,h3,h4⟩
  ·omega
  ·have hltL:∀ y∈L,y.1<w.heap.size:=fun y hy=>hm.lt (b:=y.1) (o:=y.2) hy
   have hne:∀ y∈L,Value.ownBlock (.slice A xs.length c)≠some y.1→y.1≠g:=fun y hy hv e=>by
    rcases hor with hor|hor
    ·exact hv (by rw [← hor,e];rfl)
    ·have:=hltL y hy;simp only [Value.ownBlock,Option.some.injEq] at hor;omega
   refine hk _ cap w' ((g,.cells cur e)::L.filter fun y=>decide (Value.ownBlock (.slice A xs.length c)≠some y.1)) ⟨?_,?_,?_⟩ ⟨.inr ⟨g,cap,cur,by simp,List.mem_cons_self ..,by simpa using h1,h2,by rw [h3,Nat.mul_one],by rw [Nat.mul_one] at h4;simpa using h4⟩⟩ ?_ ?_
   ·exact Below.grown hm.ext hg hm.ext.size (fun k hk=>((hr.owns hm).lt k hk).1)
   ·intro y hy
    rcases List.mem_cons.1 hy with rfl|hy
    ·exact ⟨hg0,hgw⟩
    ·obtain ⟨hy,hv⟩:=List.mem_filter.1 hy;have hv:=of_decide_eq_true hv;refine ⟨(hm.own y hy).1,?_⟩;rw [hg.block y.1 (hltL y hy) (fun e=>hv e.symm)];exact (hm.own y hy).2
   ·simp only [List.map_cons,List.nodup_cons];refine ⟨fun hmem=>?_,(List.filter_sublist.map _).nodup hm.nodup⟩;obtain ⟨y,hy,e⟩:=List.mem_map.1 hmem;obtain ⟨hy,hv⟩:=List.mem_filter.1 hy;exact hne y hy (of_decide_eq_true hv) e
   ·intro y hy hv;exact zmc (List.mem_filter.2 ⟨hy,decide_eq_true hv⟩)
   ·intro g' hg';cases hg'
    rcases hor with hor|hor
    ·exact .inl hor.symm
    ·right
     intro y hy e;have:=hltL y hy;have hor:g=w.heap.size:=Option.some.inj hor;have e:y.1=g:=e;omega
structure RowsP (e:TypeId) (O:List Nat) (L:List (Nat × Obj)) (R:List (List Value × Value)):Prop where
 row:∀ (k:Nat) p,R[k]?=some p→RowB e p.1 L p.2
 out:∀ (k:Nat) p g,R[k]?=some p→p.2.ownBlock=some g→g∉O
 ap:∀ (k k':Nat) p p' g,R[k]?=some p→R[k']?=some p'→k≠k'→p.2.ownBlock=some g→p'.2.ownBlock≠some g
theorem RowsP.keep {e:TypeId} {O:List Nat} {L L':List (Nat × Obj)} {R:List (List Value × Value)} (h:RowsP e O L R) (hk:∀ y∈L,y.1∉O→y∈L'):RowsP e O L' R:=
 ⟨fun k p hp=>(h.row k p hp).keep fun y hy hv=>hk y hy (h.out k p y.1 hp hv),h.out,h.ap⟩
theorem RowsP.app {P:Program} {w0 w:World} {O:List Nat} {L:List (Nat × Obj)} {R:List (List Value × Value)} {e t ty:TypeId} {i:TypeInfo} {z x:Value} {A:oA} {n c nb:Nat} {xs:List Value} {K:Value→World→Prop} (h:RowsP e O L R) (k:Nat) (hk:R[k]?=some (xs,.slice A n c)) (ht:P.underlying t=some (.slice e)) (hi:P.info? e=some i) (hz:i.zero=some z)
  (hsize:i.size=1) (hzs:z.cells.size=1) (hby:i.bytes≤16) (hm:Mem w0 w L) (hO:∀ g∈O,∃ o,(g,o)∈L) (hn:n=xs.length) (hx:x.oneCell'=true) (hb:w.cell? ⟨nb,0,none⟩=some x) (hlen:n+1≤8000000000000)
  (hK:∀ A' c' w' L',Mem w0 w' L'→RowsP e O L' (R.set k (xs++[x],.slice A' (n+1) c'))→(∀ y∈L,y.1∈O→y∈L')→K (.slice A' (n+1) c') w'):AppV P #[t,t] ty (.slice A n c) (.slice (some ⟨nb,0,none⟩) 1 1) w K:=by
 refine AppV.blk ht hi hz hsize hzs hby hm (h.row k _ hk) hn hx hb hlen fun A' c' w' L' hm' hr' hkeep hown=>hK A' c' w' L' hm' ?_ ?_
 ·have hkl:k<R.length:=(List.getElem?_eq_some_iff.1 hk).1;have other:∀ (j:Nat) p,(R.set k (xs++[x],.slice A' (n+1) c'))[j]?=some p→(j=k∧p=(xs++[x],.slice A' (n+1) c'))∨(j≠k∧R[j]?=some p):=fun j p hp=>by
   rw [List.getElem?_set] at hp
   split at hp
   ·rename_i ejk
    exact .inl ⟨ejk.symm,by simpa [hkl] using hp.symm⟩
   ·rename_i hne
    exact .inr ⟨fun ejk=>hne ejk.symm,hp⟩
  have fresh:∀ (j:Nat) p g,j≠k→R[j]?=some p→p.2.ownBlock=some g→Value.ownBlock (.slice A' (n+1) c')≠some g:=fun j p g hj hp hg hg'=>by
   rcases hown g hg' with ho|ho
   ·exact h.ap j k p _ g hp hk hj hg ho
   ·obtain ⟨o,hin⟩:=(h.row j p hp).in_ hg;exact ho _ hin rfl
  refine ⟨fun j p hp=>?_,fun j p g hp hg=>?_,fun j j' p p' g hp hp' hne hg=>?_⟩
  ·rcases other j p hp with ⟨_,rfl⟩|⟨hj,hp⟩
   ·exact hr'
   ·exact (h.row j p hp).keep fun y hy hv=>hkeep y hy (h.ap j k p _ y.1 hp hk hj hv)
  ·rcases other j p hp with ⟨_,rfl⟩|⟨hj,hp⟩
   ·rcases hown g hg with ho|ho
    ·exact h.out k _ g hk ho
    ·intro hgO;obtain ⟨o,hin⟩:=hO g hgO;exact ho _ hin rfl
   ·exact h.out j p g hp hg
  ·rcases other j p hp with ⟨ej,rfl⟩|⟨hj,hp⟩<;>rcases other j' p' hp' with ⟨ej',rfl⟩|⟨hj',hp'⟩
   ·exact absurd (ej.trans ej'.symm) hne
   ·intro hg';exact fresh j' p' g hj' hp' hg' hg
   ·exact fresh j p g hj hp hg
   ·exact h.ap j j' p p' g hp hp' hne hg
 ·intro y hy hyO;exact hkeep y hy fun hv=>h.out k _ y.1 hk hv hyO
end V
theorem qit {L:List (Nat × Obj)} {i rb:Nat} {o o':Obj} (hi:L[i]?=some (rb,o)):(rb,o')∈L.set i (rb,o')∧∀ y∈L,y.1≠rb→y∈L.set i (rb,o'):=by
 have hil:i<L.length:=(List.getElem?_eq_some_iff.1 hi).1;refine ⟨zmg (List.getElem?_set_self hil),fun y hy hne=>?_⟩;obtain ⟨j,hj⟩:=List.mem_iff_getElem?.1 hy;refine zmg (i:=j) ?_;rw [List.getElem?_set_ne (fun e=>hne ?_),hj];subst e;rw [hi] at hj;cases hj;rfl
section
variable {w0 w:World} {L:List (Nat × Obj)} {rb n c off:Nat} {A:oA} {t:List Value} {v:Value}
structure RdM (w0 w':World) (L:List (Nat × Obj)) (rb:Nat) (o':Obj) (L':List (Nat × Obj)):Prop where
 mem:Mem w0 w' L'
 rd:(rb,o')∈L'
 keep:∀ y∈L,y.1≠rb→y∈L'
theorem qfk {K:World→Prop} (hm:Mem w0 w L) (hi:(rb,rdC A n c t)∈L) (k:Nat) (ho:off=1+k) (hk:k<t.length) (h1:qcx v=true) (hw:∀ w' L',RdM w0 w' L rb (rdC A n c (t.set k v)) L'→K w'):StoreV w rb off v K:=by
 obtain ⟨i,hi⟩:=List.mem_iff_getElem?.1 hi;exact qhg hm hi k ho hk h1 fun w' h=>hw w' _ ⟨h,(qit hi).1,(qit hi).2⟩
theorem qva {K:Value→Prop} (hm:Mem w0 w L) (hi:(rb,rdC A n c t)∈L) (k:Nat) (ho:off=1+k) (hv:t[k]?=some v) (hk:K v):LoadV w rb off K:=by
 obtain ⟨i,hi⟩:=List.mem_iff_getElem?.1 hi;exact qgm hm hi k ho hv hk
theorem q46 {x:ByteArray} {xs:List ByteArray} (hm:Mem w0 w L) (hi:(rb,rdC A (xs.length+1) c t)∈L) (hS:SlAt zeS 1 w0 A (x::xs)) (hc:xs.length+1≤c) :
  Gv Tryz.prog 244 [pp rb] w fun v w'=>v=.string x∧∃ A' c' L',SlAt zeS 1 w0 A' xs∧xs.length≤c'∧RdM w0 w' L rb (rdC A' xs.length c' t) L':=by
 obtain ⟨i,hi⟩:=List.mem_iff_getElem?.1 hi;refine (qff rb i x xs A c t w0 w L hm hi hS hc).mono ?_;rintro v w' ⟨rfl,A',c',h1,h2,h3⟩;exact ⟨rfl,A',c',_,h1,h2,⟨h3,(qit hi).1,(qit hi).2⟩⟩
theorem qvb {rest:List ByteArray} {least:Nat} (hm:Mem w0 w L) (hi:(rb,rdC A rest.length c t)∈L) (hS:SlAt zeS 1 w0 A rest) (hc:rest.length≤c) (hx:∀ x∈rest,x.size≤1000000) (hn:rest.length≤1000000) :
  Gv Tryz.prog 245 [pp rb,ii least] w fun v w'=>∃ pre rest' s,TailP (fun x=>qar x least 8 false) rest pre rest' s∧seeB (fun x=>qar x least 8 false) rest'=false∧
   v=.tuple #[.string s,.bool (decide (pre≠[]))]∧∃ A' c' L',SlAt zeS 1 w0 A' rest'∧rest'.length≤c'∧RdM w0 w' L rb (rdC A' rest'.length c' t) L':=by
 obtain ⟨i,hi⟩:=List.mem_iff_getElem?.1 hi;refine (q5j rb i least rest A c t w0 w L hm hi hS hc hx hn).mono ?_;rintro v w' ⟨pre,rest',s,h1,h2,rfl,A',c',h3,h4,h5⟩;exact ⟨pre,rest',s,h1,h2,rfl,A',c',_,h3,h4,⟨h5,(qit hi).1,(qit hi).2⟩⟩
end
def qiq:List ByteArray→List ByteArray
 | []=>[]
 | x::xs=>if qar x 4 4 true=true then xs else x::xs
def qio:List ByteArray→List ByteArray
 | []=>[]
 | x::xs=>if regB x=true then xs else x::xs
open Classical in
noncomputable def qo0:List ByteArray→List ByteArray→Option (List ByteArray × List ByteArray)
 | seen,[]=>some (seen,[])
 | seen,x::xs=>if varB x=true then (if lowS x∈seen then none else qo0 (seen++[lowS x]) xs) else some (seen,x::xs)
def extQ (x:ByteArray):Bool:=qar x 2 8 false
def extS (x:ByteArray):Bool:=qar x 1 1 false && !qlp x
open Classical in
noncomputable def extN:Nat→List ByteArray→List ByteArray→Option (List ByteArray)
 | _,_,[]=>some []
 | 0,_,rest=>some rest
 | k+1,seen,x::xs=>if extS x=true then (if xs.takeWhile extQ=[]∨lowS x∈seen then none else extN k (seen++[lowS x]) (xs.dropWhile extQ)) else some (x::xs)
noncomputable def qw8 (rest:List ByteArray):Option (List ByteArray):=(qo0 [] (qio (qiq rest))).bind fun r=>extN r.2.length r.1 r.2
theorem TailP.take {q:ByteArray→Bool} {rest pre rest':List ByteArray} {s:ByteArray} (h:TailP q rest pre rest' s) (h2:seeB q rest'=false):rest.takeWhile q=pre∧rest.dropWhile q=rest':=by
 have ha:=List.all_eq_true.1 h.all;rw [h.eq,List.takeWhile_append_of_pos ha,List.dropWhile_append_of_pos ha];cases rest' with
 | nil=>simp
 | cons y ys=>
  have:q y=false:=h2;simp [this]
theorem q1j (x:ByteArray) (hs:x.size≤140737488355328) (w:World):Gv Tryz.prog 290 [.string x] w fun v w'=>v=.bool (qar x 4 4 true)∧Ext w w':=by
 have h1:=qdr x 4 4 true hs w;refine ze Tryz.func290 Tryz.ntmps290 ?_;refine zcv (h1) ?_;rintro v w' ⟨rfl,he⟩;(conv=>whnf);exact ⟨rfl,he⟩
theorem q1k (x:ByteArray) (hs:x.size≤140737488355328) (w:World):Gv Tryz.prog 294 [.string x] w fun v w'=>v=.bool (extS x)∧Ext w w':=by
 have h1:=qdr x 1 1 false hs w;refine ze Tryz.func294 Tryz.ntmps294 ?_;refine zcv (h1) ?_;rintro v w1 ⟨rfl,he⟩;cases hm:qar x 1 1 false
 ·refine zu ?_;exact ⟨by rw [extS,hm];rfl,he⟩
 ·refine zu ?_;refine zcv (qgl x w1) ?_;rintro v w2 ⟨rfl,rfl⟩;refine zu ?_;exact ⟨by rw [extS,hm];rfl,he⟩
theorem qgx (l:List ByteArray) (A:oA) (c:Nat) (x:ByteArray) (w:World) (hS:SlAt zeS 1 w A l) (hl:l.length≤9223372036854775807) :
  Gv Tryz.prog 293 [.slice A l.length c,.string x] w fun v w'=>(∃ b,v=.bool b∧(b=true↔x∈l))∧w'=w:=by
 cases l with
 | nil=>
  refine (qwg Jk (Tryz.slices_Contains_string_empty A c x w)).mono ?_;rintro v w' ⟨rfl,rfl⟩;exact ⟨⟨false,rfl,by simp⟩,rfl⟩
 | cons y ys=>
  obtain ⟨b,off,rfl,h⟩:=hS.at_ Js;refine (qwg Jk (Tryz.slices_Contains_string b off (y::ys).length c (y::ys) x w znr hl (fun j hj=>?_))).mono ?_
  ·have:=h j _ (zge hj) 0 (.string (y::ys)[j]) rfl;rw [List.getD_eq_getElem?_getD,zge hj,Option.getD_some]
   simpa using this
  ·rintro v w' ⟨rfl,rfl⟩;exact ⟨⟨_,rfl,by rw [Go.Lib.containsS_iff,List.take_length]⟩,rfl⟩
structure RS (w0 w:World) (O:List Nat) (rb:Nat) (rest:List ByteArray) (A:oA) (c:Nat) (V E:Value) (L:List (Nat × Obj)) (R:List (List Value × Value)):Prop where
 mem:Mem w0 w L
 rd:∃ a0 a1 a2 a3 a6,(rb,rdC A rest.length c (tagC a0 a1 a2 a3 V E a6))∈L
 rows:RowsP 9 O L R
 sl:SlAt zeS 1 w0 A rest
 hc:rest.length≤c
 hO:rb∈O
 all:∀ g∈O,∃ o,(g,o)∈L
 small:∀ x∈rest,x.size≤1000000
 vs:(∃ A n c,V=.slice A n c)∧∃ A n c,E=.slice A n c
section
variable {w0 w w':World} {O:List Nat} {rb:Nat} {rest xs:List ByteArray} {x:ByteArray} {A A':oA} {c c':Nat} {V E V' E':Value} {L L':List (Nat × Obj)} {R:List (List Value × Value)} {o':Obj}
theorem RS.call (h:RS w0 w O rb rest A c V E L R) (he:Ext w w'):RS w0 w' O rb rest A c V E L R:={ h with mem:=h.mem.call he }
theorem RS.step (h:RS w0 w O rb rest A c V E L R) (hr:RdM w0 w' L rb o' L') (ho:∃ a0 a1 a2 a3 a6,o'=rdC A' xs.length c' (tagC a0 a1 a2 a3 V' E' a6)) (hS:SlAt zeS 1 w0 A' xs) (hc:xs.length≤c') (hsub:∀ y∈xs,y∈rest) (hvs:(∃ A n c,V'=.slice A n c)∧∃ A n c,E'=.slice A n c):RS w0 w' O rb xs A' c' V' E' L' R:=by
 obtain ⟨a0,a1,a2,a3,a6,rfl⟩:=ho;refine ⟨hr.mem,⟨a0,a1,a2,a3,a6,hr.rd⟩,h.rows.keep fun y hy hO=>hr.keep y hy fun e=>hO (e ▸ h.hO),hS,hc,h.hO,fun g hg=>?_,fun y hy=>h.small y (hsub y hy),hvs⟩
 by_cases e:g=rb
 ·subst e;exact ⟨_,hr.rd⟩
 ·obtain ⟨o,ho⟩:=h.all g hg;exact ⟨o,hr.keep _ ho e⟩
theorem RS.grow {R':List (List Value × Value)} (h:RS w0 w O rb rest A c V E L R) (hm:Mem w0 w' L') (hR:RowsP 9 O L' R') (hk:∀ y∈L,y.1∈O→y∈L'):RS w0 w' O rb rest A c V E L' R':=by
 obtain ⟨a0,a1,a2,a3,a6,hrd⟩:=h.rd;refine ⟨hm,⟨a0,a1,a2,a3,a6,hk _ hrd h.hO⟩,hR,h.sl,h.hc,h.hO,fun g hg=>?_,h.small,h.vs⟩;obtain ⟨o,ho⟩:=h.all g hg;exact ⟨o,hk _ ho hg⟩
theorem RS.new {nb:Nat} {o:Obj} (h:RS w0 w O rb rest A c V E L R) (hb:nb=w.heap.size) (hw:w'=w.alloc o):RS w0 w' O rb rest A c V E L R∧w'.heap[nb]?=some o:=by
 subst hb hw;exact ⟨h.call ((Ext.refl w).alloc o),heap_alloc_new w o⟩
end
theorem NewV.rs {w0 w:World} {O:List Nat} {rb:Nat} {rest:List ByteArray} {A:oA} {c:Nat} {V E:Value} {L:List (Nat × Obj)} {R:List (List Value × Value)} {o:Obj} {K:Nat→World→Prop} (h:RS w0 w O rb rest A c V E L R) (hk:∀ b w',RS w0 w' O rb rest A c V E L R→w'.heap[b]?=some o→K b w'):NewV w o K:=
 ⟨fun b w' hb hw=>hk b w' (h.new hb hw).1 (h.new hb hw).2⟩
theorem qir {w0 w:World} {O:List Nat} {rb g:Nat} {rest:List ByteArray} {A:oA} {c:Nat} {V E:Value} {L:List (Nat × Obj)} {R:List (List Value × Value)} (p:ByteArray→Bool) (h:RS w0 w O rb rest A c V E L R)
  (hp:∀ x w1,x.size≤140737488355328→Gv Tryz.prog g [.string x] w1 fun v w2=>v=.bool (p x)∧Ext w1 w2) :
  Gv Tryz.prog 240 [pp rb,.func (.func g) #[] #[]] w fun v w'=>v=.bool (seeB p rest)∧RS w0 w' O rb rest A c V E L R:=by
 obtain ⟨a0,a1,a2,a3,a6,hrd⟩:=h.rd;refine (qjv rb g [] p rest A c _ w (h.mem.get hrd) (h.sl.ext h.mem.ext) (fun x ys w3 e _=>hp x w3 (by have:=h.small x (by rw [e];exact List.mem_cons_self ..);omega))).mono ?_;rintro v w' ⟨rfl,he⟩;exact ⟨rfl,h.call he⟩
theorem qkm {w0 w:World} {O:List Nat} {rb:Nat} {x:ByteArray} {xs:List ByteArray} {A:oA} {c:Nat} {V E:Value} {L:List (Nat × Obj)} {R:List (List Value × Value)} (h:RS w0 w O rb (x::xs) A c V E L R) :
  Gv Tryz.prog 244 [pp rb] w fun v w'=>v=.string x∧∃ A' c' L',RS w0 w' O rb xs A' c' V E L' R∧(∀ y∈L,y.1≠rb→y∈L'):=by
 obtain ⟨a0,a1,a2,a3,a6,hrd⟩:=h.rd;refine (q46 h.mem hrd h.sl h.hc).mono ?_;rintro v w' ⟨rfl,A',c',L',h1,h2,h3⟩;exact ⟨rfl,A',c',L',h.step h3 ⟨_,_,_,_,_,rfl⟩ h1 h2 (fun y hy=>zmc hy) h.vs,h3.keep⟩
theorem strI:Tryz.prog.info? 9=some ((Tryz.prog.info? 9).get Jk):=(Option.some_get _).symm
theorem strZ:((Tryz.prog.info? 9).get Jk).zero=some (.string ⟨#[]⟩):=by kernel_rfl
theorem RowsP.nils (e:TypeId) (O:List Nat) (L:List (Nat × Obj)) (R:List (List Value × Value)) (h:∀ p∈R,p=([],.slice none 0 0)):RowsP e O L R:=by
 refine ⟨fun k p hp=>?_,fun k p g hp hg=>?_,fun k k' p p' g hp hp' _ hg=>?_⟩
 ·rw [h p (zmg hp)];exact RowB.nil e L
 ·rw [h p (zmg hp)] at hg;cases hg
 ·rw [h p (zmg hp)] at hg;cases hg
theorem RowsP.none_ {e:TypeId} {O:List Nat} {L:List (Nat × Obj)}:RowsP e O L []:=RowsP.nils e O L [] Js
theorem qw9 {rest r1 r2:List ByteArray} (e1:qiq rest=r1) (e2:qio r1=r2):qw8 rest=(qo0 [] r2).bind fun r=>extN r.2.length r.1 r.2:=by rw [qw8,e1,e2]
theorem q5b (rb:Nat) (O:List Nat) (rest:List ByteArray) (A:oA) (c:Nat) (w0 w:World) (L:List (Nat × Obj)) (h:RS w0 w O rb rest A c (.slice none 0 0) (.slice none 0 0) L []) (hn:rest.length≤1000000) :
  Gv Tryz.prog 243 [pp rb] w fun v w'=>(qw8 rest=none∧v=.bool false∧Ext w0 w')∨
   (∃ rest',qw8 rest=some rest'∧v=.bool true∧∃ A' c' V E L',RS w0 w' O rb rest' A' c' V E L' []∧rest'.length≤rest.length∧∀ y∈L,y.1∈O→y.1≠rb→y∈L'):=by
 refine ze Tryz.func243 Tryz.ntmps243 ?_;refine zcv (qir (fun x=>qar x 4 4 true) h (fun x w1 hx=>q1j x hx w1)) ?_;rintro v w1 ⟨rfl,h1⟩;(conv=>whnf);cases hq:seeB (fun x=>qar x 4 4 true) rest
 case' false=>
  refine zv ?_;obtain ⟨r1,A1,c1,L1,e1,g1,k1,l1⟩:∃ r1 A1 c1 L1,qiq rest=r1∧RS w0 w1 O rb r1 A1 c1 (.slice none 0 0) (.slice none 0 0) L1 []∧(∀ y∈L,y.1∈O→y.1≠rb→y∈L1)∧r1.length≤rest.length:=by
   refine ⟨rest,A,c,L,?_,h1,fun y hy _ _=>hy,Nat.le_refl _⟩;cases rest with
   | nil=>rfl
   | cons x xs=>rw [qiq,if_neg (by have:qar x 4 4 true=false:=hq;rw [this];simp)]
  clear hq h1
 case' true=>
  obtain ⟨x,xs,rfl⟩:∃ x xs,rest=x::xs:=by
   cases rest with
   | nil=>cases hq
   | cons x xs=>exact ⟨x,xs,rfl⟩
  have hq:qar x 4 4 true=true:=hq;refine zv ?_;refine zcv (qkm h1) ?_;rintro v w2 ⟨rfl,A2,c2,L2,h2,k2⟩;(conv=>whnf);obtain ⟨a0,a1,a2,a3,a6,hrd⟩:=id h2.rd;refine qfk h2.mem hrd 2 rfl (show 2<7 by decide) rfl ?_;intro w1 L3 hr3;obtain ⟨r1,A1,c1,L1,e1,g1,k1,l1⟩:∃ r1 A1 c1 L1,qiq (x::xs)=r1∧RS w0 w1 O rb r1 A1 c1 (.slice none 0 0) (.slice none 0 0) L1 []∧(∀ y∈L,y.1∈O→y.1≠rb→y∈L1)∧r1.length≤(x::xs).length:=
   ⟨xs,A2,c2,L3,by rw [qiq,if_pos hq],h2.step hr3 ⟨_,_,_,_,_,rfl⟩ h2.sl h2.hc (fun y hy=>hy) h2.vs,fun y hy _ hne=>hr3.keep y (k2 y hy hne) hne,by simp⟩
  clear hq h1 h2 hr3 hrd k2;conv=>whnf
 all_goals
  refine zcv (qir regB g1 (fun x w1 hx=>qw7 x hx w1)) ?_;rintro v w1 ⟨rfl,g1⟩;(conv=>whnf);cases hq:seeB regB r1
  case' false=>
   refine zv ?_;obtain ⟨r2,A2,c2,L2,e2,g2,k2,l2⟩:∃ r2 A2 c2 L2,qio r1=r2∧RS w0 w1 O rb r2 A2 c2 (.slice none 0 0) (.slice none 0 0) L2 []∧(∀ y∈L1,y.1∈O→y.1≠rb→y∈L2)∧r2.length≤r1.length:=by
    refine ⟨r1,A1,c1,L1,?_,g1,fun y hy _ _=>hy,Nat.le_refl _⟩;cases r1 with
    | nil=>rfl
    | cons x xs=>rw [qio,if_neg (by have:regB x=false:=hq;rw [this];simp)]
   clear hq g1
  case' true=>
   obtain ⟨x,xs,rfl⟩:∃ x xs,r1=x::xs:=by
    cases r1 with
    | nil=>cases hq
    | cons x xs=>exact ⟨x,xs,rfl⟩
   have hq:regB x=true:=hq;refine zv ?_;refine zcv (qkm g1) ?_;rintro v w2 ⟨rfl,A3,c3,L3,h3,k3⟩;(conv=>whnf);obtain ⟨a0,a1,a2,a3,a6,hrd⟩:=id h3.rd;refine qfk h3.mem hrd 3 rfl (show 3<7 by decide) rfl ?_;intro w1 L4 hr3;obtain ⟨r2,A2,c2,L2,e2,g2,k2,l2⟩:∃ r2 A2 c2 L2,qio (x::xs)=r2∧RS w0 w1 O rb r2 A2 c2 (.slice none 0 0) (.slice none 0 0) L2 []∧(∀ y∈L1,y.1∈O→y.1≠rb→y∈L2)∧r2.length≤(x::xs).length:=
    ⟨xs,A3,c3,L4,by rw [qio,if_pos hq],h3.step hr3 ⟨_,_,_,_,_,rfl⟩ h3.sl h3.hc (fun y hy=>hy) h3.vs,fun y hy _ hne=>hr3.keep y (k3 y hy hne) hne,by simp⟩
   clear hq g1 h3 hr3 hrd k3;conv=>whnf
 all_goals
  have eR:=qw9 e1 e2;rw [eR];refine qw (fun x:List ByteArray × List ByteArray × oA × Nat=>[(0,pp rb),(3,.slice x.2.2.1 x.1.length x.2.2.2)])
   (fun x w3=>∃ A c V E L3 vs,RS w0 w3 O rb x.2.1 A c V E L3 [(x.1.map Value.string,.slice x.2.2.1 x.1.length x.2.2.2),(vs,V),([],E)]∧vs.length≤x.1.length∧(∀ y∈L2,y.1∈O→y.1≠rb→y∈L3)∧qo0 [] r2=qo0 x.1 x.2.1∧x.1.length+x.2.1.length≤r2.length)
   (fun x=>x.2.1.length) ([],r2,none,0) ⟨rfl,rfl,trivial⟩ ⟨A2,c2,_,_,L2,[],{ g2 with rows:=RowsP.nils _ _ _ _ Js },by simp,fun y hy _ _=>hy,rfl,by simp⟩ ?_
  rintro ⟨seen,r3,sA,sc⟩ w3 ρ' ⟨A3,c3,V3,E3,L3,vs,h3,hvs,k3,e3,l3⟩;simp only at h3 hvs e3 l3;dsimp only;(conv=>whnf);refine zcv (qir varB h3 (fun x w1 hx=>qtb x hx w1)) ?_;rintro v w4 ⟨rfl,h4⟩;(conv=>whnf);cases hq:seeB varB r3
  case' true=>
   obtain ⟨x,xs,rfl⟩:∃ x xs,r3=x::xs:=by
    cases r3 with
    | nil=>cases hq
    | cons x xs=>exact ⟨x,xs,rfl⟩
   have hq:varB x=true:=hq;have hx:=h4.small x mh;simp only [List.length_cons] at l3;rw [qo0,if_pos hq] at e3;refine zv ?_;refine zcv (qkm h4) ?_;rintro v w5 ⟨rfl,A5,c5,L5,h5,k5⟩;(conv=>whnf);refine zcv (qfc x Oo w5) ?_;rintro v w6 ⟨rfl,he6⟩;have h6:=h5.call he6;(conv=>whnf);refine zcv (qgx seen sA sc (lowS x) w6 ((h6.rows.row 0 _ rfl).sl h6.mem) Oo) ?_;rintro v w7 ⟨⟨b,rfl,hb⟩,rfl⟩;(conv=>whnf);cases b
   ·rw [if_neg (by intro h;have:=hb.2 h;cases this)] at e3;refine zv ?_;refine zcv (qfc x Oo w7) ?_;rintro v w8 ⟨rfl,he8⟩;have h8:=h6.call he8;(conv=>whnf);refine NewV.rs h8 fun nb w9 h9 hnb=>zw ?_;refine h9.rows.app 0 rfl Tryz.underlying123 strI strZ Jk rfl (by decide +kernel) h9.mem h9.all Js rfl (by rw [qc hnb];rfl) Oo ?_;intro sA2 sc2 w10 L10 m10 R10 k10;have h10:=h9.grow m10 R10 k10;(conv=>whnf);obtain ⟨VA,vc,rfl⟩:∃ VA vc,V3=.slice VA vs.length vc:=(h10.rows.row 1 _ rfl).slice;obtain ⟨a0,a1,a2,a3,a6,hrd⟩:=id h10.rd;refine qva h10.mem hrd 4 rfl rfl (zw ?_);refine NewV.rs h10 fun nb2 w11 h11 hnb2=>zw ?_;refine h11.rows.app 1 rfl Tryz.underlying123 strI strZ Jk rfl (by decide +kernel) h11.mem h11.all rfl rfl (by rw [qc hnb2];rfl) Oo ?_;intro VA2 vc2 w12 L12 m12 R12 k12;have h12:=h11.grow m12 R12 k12;obtain ⟨a0,a1,a2,a3,a6,hrd⟩:=id h12.rd;(conv=>whnf);refine qfk h12.mem hrd 4 rfl (show 4<7 by decide) rfl ?_;intro w13 L13 hr13;have h13:=h12.step (V':=.slice VA2 (vs.length+1) vc2) (E':=E3) hr13 ⟨_,_,_,_,_,rfl⟩ h12.sl h12.hc (fun y hy=>hy) ⟨⟨_,_,_,rfl⟩,h12.vs.2⟩;(conv=>whnf);refine ⟨(seen++[lowS x],xs,sA2,sc2),⟨rfl,by simp only [zla];rfl,trivial⟩,⟨A5,c5,.slice VA2 (vs.length+1) vc2,E3,L13,vs++[.string x],?_,by simp;omega,fun y hy hO hne=>hr13.keep y (k12 y (k10 y (k5 y (k3 y hy hO hne) hne) hO) hO) hne,e3,by simp;omega⟩,by simp⟩;simp only [List.map_append,zla,List.map_cons,List.map_nil,List.length_singleton];exact h13
   ·rw [if_pos (hb.1 rfl)] at e3;refine zv ?_;exact .inl ⟨by rw [e3];rfl,rfl,h6.mem.ext⟩
 all_goals
  have eV:qo0 seen r3=some (seen,r3):=by
   cases r3 with
   | nil=>rfl
   | cons x xs=>rw [qo0,if_neg (by have:varB x=false:=hq;rw [this];simp)]
  have eB:(qo0 [] r2).bind (fun r=>extN r.2.length r.1 r.2)=extN r3.length seen r3:=by rw [e3,eV];rfl
  rw [eB];clear hq h3 eV eB;refine zv ?_;refine qw (fun x:Nat × List ByteArray × List ByteArray × oA × Nat=>[(0,pp rb),(3,.slice x.2.2.2.1 x.2.1.length x.2.2.2.2)])
   (fun x w5=>∃ A c V E L5 vs es,RS w0 w5 O rb x.2.2.1 A c V E L5 [(x.2.1.map Value.string,.slice x.2.2.2.1 x.2.1.length x.2.2.2.2),(vs,V),(es,E)]∧es.length≤x.2.1.length∧(∀ y∈L3,y.1∈O→y.1≠rb→y∈L5)∧extN r3.length seen r3=extN x.1 x.2.1 x.2.2.1∧x.2.2.1.length≤x.1∧x.2.1.length+x.2.2.1.length≤r2.length)
   (fun x=>x.2.2.1.length) (r3.length,seen,r3,sA,sc) ⟨rfl,rfl,trivial⟩ ⟨A3,c3,V3,E3,L3,vs,[],h4,by simp,fun y hy _ _=>hy,rfl,Nat.le_refl _,l3⟩ ?_
  rintro ⟨k,sn,r5,sB,sd⟩ w5 ρ'' ⟨A5,c5,V5,E5,L5,vs5,es,h5,hes,k5,e5,lk,l5⟩;simp only at h5 hes e5 lk l5;dsimp only;(conv=>whnf);refine zcv (qir extS h5 (fun x w1 hx=>q1k x hx w1)) ?_;rintro v w6 ⟨rfl,h6⟩;(conv=>whnf);cases hq:seeB extS r5
  ·have eX:extN k sn r5=some r5:=by
    cases r5 with
    | nil=>cases k<;>rfl
    | cons x xs=>
     cases k with
     | zero=>simp at lk
     | succ k=>rw [extN,if_neg (by have:extS x=false:=hq;rw [this];simp)]
   refine zv ?_;refine .inr ⟨r5,by rw [e5,eX],rfl,A5,c5,V5,E5,L5,{ h6 with rows:=RowsP.none_ },by omega,fun y hy hO hne=>k5 y (k3 y (k2 y (k1 y hy hO hne) hO hne) hO hne) hO hne⟩
  ·obtain ⟨x,xs,rfl⟩:∃ x xs,r5=x::xs:=by
    cases r5 with
    | nil=>cases hq
    | cons x xs=>exact ⟨x,xs,rfl⟩
   have hq:extS x=true:=hq;have hx1:x.size=1:=by simp [extS,qar] at hq;omega
   obtain ⟨k,rfl⟩:∃ k',k=k'+1:=⟨k-1,by simp at lk;omega⟩
   have hx:=h6.small x mh;simp only [List.length_cons] at l5 lk;rw [extN,if_pos hq] at e5;refine zv ?_;refine zcv (qkm h6) ?_;rintro v w7 ⟨rfl,A7,c7,L7,h7,k7⟩;(conv=>whnf);obtain ⟨a0,a1,a2,a3,a6,hrd⟩:=id h7.rd;refine zcv (qvb (least:=2) h7.mem hrd h7.sl h7.hc h7.small Oo) ?_;rintro v w8 ⟨pre,rest',sT,hP,hse,rfl,A8,c8,L8,hS8,hc8,hr8⟩;obtain ⟨t1,t2⟩:=hP.take hse;have t1:xs.takeWhile extQ=pre:=t1;have t2:xs.dropWhile extQ=rest':=t2;have hlen:xs.length=pre.length+rest'.length:=by rw [hP.eq];simp
   have h8:=h7.step hr8 ⟨_,_,_,_,_,rfl⟩ hS8 hc8 (fun y hy=>by rw [hP.eq];exact List.mem_append_right _ hy) h7.vs;rw [t1,t2] at e5;have hsT:=hP.size;conv=>whnf
   by_cases hp:pre=[]
   ·rw [if_pos (.inl hp)] at e5;rw [decide_eq_false (by simp [hp])];refine zv ?_;exact .inl ⟨e5,rfl,h8.mem.ext⟩
   ·rw [decide_eq_true (by simpa using hp)];refine zv ?_;refine zcv (qfc x Oo w8) ?_;rintro v w9 ⟨rfl,he9⟩;have h9:=h8.call he9;refine zu ?_;refine zcv (qgx sn sB sd (lowS x) w9 ((h9.rows.row 0 _ rfl).sl h9.mem) Oo) ?_;rintro v w10 ⟨⟨b,rfl,hb⟩,rfl⟩;cases b
    ·rw [if_neg (by rintro (h|h);exact hp h;have:=hb.2 h;cases this)] at e5;refine zu ?_;refine zcv (qfc x Oo w10) ?_;rintro v w11 ⟨rfl,he11⟩;have h11:=h9.call he11;(conv=>whnf);refine NewV.rs h11 fun nb w12 h12 hnb=>zw ?_;refine h12.rows.app 0 rfl Tryz.underlying123 strI strZ Jk rfl (by decide +kernel) h12.mem h12.all Js rfl (by rw [qc hnb];rfl) Oo ?_;intro sA2 sc2 w13 L13 m13 R13 k13;have h13:=h12.grow m13 R13 k13;(conv=>whnf);obtain ⟨EA,ec,rfl⟩:∃ EA ec,E5=.slice EA es.length ec:=(h13.rows.row 2 _ rfl).slice;obtain ⟨a0,a1,a2,a3,a6,hrd⟩:=id h13.rd;refine qva h13.mem hrd 5 rfl rfl (zw ?_);refine ⟨by show x.size+sT.size≤_;omega,?_⟩;(conv=>whnf);refine NewV.rs h13 fun nb2 w14 h14 hnb2=>zw ?_;refine h14.rows.app 2 rfl Tryz.underlying123 strI strZ Jk rfl (by decide +kernel) h14.mem h14.all rfl rfl (by rw [qc hnb2];rfl) Oo ?_;intro EA2 ec2 w15 L15 m15 R15 k15;have h15:=h14.grow m15 R15 k15;obtain ⟨a0,a1,a2,a3,a6,hrd⟩:=id h15.rd;(conv=>whnf);refine qfk h15.mem hrd 5 rfl (show 5<7 by decide) rfl ?_;intro w16 L16 hr16;have h16:=h15.step (V':=V5) (E':=.slice EA2 (es.length+1) ec2) hr16 ⟨_,_,_,_,_,rfl⟩ h15.sl h15.hc (fun y hy=>hy) ⟨h15.vs.1,⟨_,_,_,rfl⟩⟩;(conv=>whnf);refine ⟨(k,sn++[lowS x],rest',sA2,sc2),⟨rfl,by simp only [zla];rfl,trivial⟩,⟨A8,c8,V5,.slice EA2 (es.length+1) ec2,L16,vs5,es++[.string (x++sT)],?_,by simp;omega,fun y hy hO hne=>hr16.keep y (k15 y (k13 y (hr8.keep y (k7 y (k5 y hy hO hne) hne) hne) hO) hO) hne,e5,by simp only;omega,by simp;omega⟩,by simp only [List.length_cons];omega⟩;simp only [List.map_append,zla,List.map_cons,List.map_nil,List.length_singleton];exact h16
    ·rw [if_pos (.inr (hb.1 rfl))] at e5;refine zu ?_;exact .inl ⟨e5,rfl,h9.mem.ext⟩
def qfi:LB→List LB
 | []=>[[]]
 | c::t=>if c=45 then []::qfi t else match qfi t with
  | []=>[[c]]
  | p::ps=>(c::p)::ps
theorem qk8:∀ l:LB,Go.Lib.splitK [45] 0 (Go.Lib.count l [45]) l=qfi l
 | []=>by
  have:Go.Lib.count [] [45]=0:=by decide
  rw [this];rfl
 | c::t=>by
  have ih:=qk8 t
  by_cases h:c=45
  ·subst h;rw [Go.Lib.count_cons_eq,Nat.add_comm 1,qfi,if_pos rfl,← ih,Go.Lib.splitK];have hi:Go.Lib.index (45::t) [45]=0:=by
    rw [Go.Lib.index,if_pos (by simp [List.isPrefixOf])]
   rw [hi];rfl
  ·rw [Go.Lib.count_cons_ne c 45 t h,qfi,if_neg h,← ih];have hi:Go.Lib.index (c::t) [45]=if Go.Lib.index t [45]==-1 then -1 else Go.Lib.index t [45]+1:=by
    rw [Go.Lib.index,if_neg (by simp [List.isPrefixOf];exact fun e=>h e.symm)]
   cases Go.Lib.count t [45] with
   | zero=>rfl
   | succ k=>
    rw [Go.Lib.splitK,Go.Lib.splitK,hi]
    by_cases hx:Go.Lib.index t [45]=-1
    ·simp [hx]
    ·have hge:=Go.Lib.index_ge t [45];have e1:(Go.Lib.index t [45]==-1)=false:=by simpa using hx
     have e2:((Go.Lib.index t [45]+1)==-1)=false:=by
      rw [beq_eq_false_iff_ne];omega
     have e3:(Go.Lib.index t [45]+1).toNat=(Go.Lib.index t [45]).toNat+1:=by omega
     simp only [e1,e2,e3,Bool.false_eq_true,if_false,Nat.add_zero,List.length_singleton,List.take_succ_cons,List.drop_succ_cons]
theorem qmd:∀ l:LB,(qfi l).length≤l.length+1∧∀ x∈qfi l,x.length≤l.length
 | []=>by simp [qfi]
 | c::t=>by
  obtain ⟨h1,h2⟩:=qmd t;unfold qfi
  split
  ·refine ⟨by simp;omega,fun x hx=>?_⟩
   rcases List.mem_cons.1 hx with rfl|hx
   ·simp
   ·have:=h2 x hx;simp;omega
  ·cases hp:qfi t with
   | nil=>simp
   | cons p ps=>
    rw [hp] at h1 h2;refine ⟨by simpa using Nat.le_trans h1 (Nat.le_succ _),fun x hx=>?_⟩
    rcases List.mem_cons.1 hx with rfl|hx
    ·have:=h2 p mh;simp;omega
    ·have:=h2 x (zmc hx);simp;omega
def dash:ByteArray:=⟨#[45]⟩
def qdd (s:ByteArray):List ByteArray:=Go.Lib.splitB dash 0 (Go.Lib.countB s dash) s
theorem qwv (s:ByteArray):(qdd s).length=Go.Lib.countB s dash+1:=Go.Lib.splitB_all dash Od 0 _ s rfl
noncomputable def tagR (l:List ByteArray):Option (List ByteArray):=if seeB qlp l=true then some l else (qja l).bind qw8
def q1a (x:ByteArray):Bool:=qar x 1 8 false
def qzb (l:List ByteArray):Prop:=if seeB qlp l=true then (l.tail≠[]∧l.tail.all q1a=true) else l=[]
def tagP (l:List ByteArray):Prop:=∃ l1,tagR l=some l1∧qzb l1
open Classical in
noncomputable def tagE (l:List ByteArray):Nat:=if tagP l then 0 else 61
theorem qsv {l:List ByteArray} (h:tagP l):tagE l=0:=by unfold tagE;rw [if_pos h]
theorem qiv {l:List ByteArray} (h:¬ tagP l):tagE l=61:=by unfold tagE;rw [if_neg h]
def MaxLenAt (w:World):Prop:=∃ m:Int,w.cell? ⟨3,0,none⟩=some (ii m)
theorem MaxLenAt.ext {w w':World} (h:MaxLenAt w) (he:Ext w w'):MaxLenAt w':=⟨h.choose,he.cell h.choose_spec⟩
theorem q5h {w w':World} {l:List ByteArray} {t:TypeId} (hw:w'=w.alloc (.cells (l.map Value.string).toArray t)):SlAt V.zeS 1 w' (some ⟨w.heap.size,0,none⟩) l:=by
 subst hw;refine ⟨fun _=>⟨w.heap.size,0,rfl,fun j x hx k v hv=>?_⟩⟩;cases k with
 | succ k=>simp [V.zeS] at hv
 | zero=>
  simp only [V.zeS,List.getElem?_cons_zero,Option.some.injEq] at hv;subst hv;rw [qc (heap_alloc_new w _)];simp [hx]
theorem q11 (s:ByteArray) (hs:s.size≤1000000) (w:World) (hM:MaxLenAt w) :
  Gv Tryz.prog 239 [.string s,.string dash] w fun v w'=>∃ b,v=.slice (some ⟨b,0,none⟩) (qdd s).length (qdd s).length∧SlAt V.zeS 1 w' (some ⟨b,0,none⟩) (qdd s)∧Ext w w':=by
 obtain ⟨m,hm⟩:=hM;refine qfa Jk ((Tryz.strings_Split s dash m w Oo hm Od).mono ?_);rintro e w' ⟨rfl,hw⟩;exact ⟨_,rfl,w.heap.size,by rw [qwv],q5h hw,by rw [hw];exact (Ext.refl w).alloc _⟩
theorem qlu:∀ v∈[Value.string ⟨#[]⟩,.string ⟨#[]⟩,.string ⟨#[]⟩,.string ⟨#[]⟩,.slice none 0 0,.slice none 0 0,.string ⟨#[]⟩],v.oneCell'=true:=by
 intro v hv;simp at hv
 rcases hv with rfl|rfl|rfl<;>rfl
theorem qpp:∀ (k:Nat) (l:List ByteArray),(qka k l).length≤l.length∧∀ x∈qka k l,x∈l
 | 0,l=>⟨Nat.le_refl _,fun x hx=>hx⟩
 | k+1,[]=>⟨Nat.le_refl _,fun x hx=>hx⟩
 | k+1,y::ys=>by
  by_cases hm:qar y 3 3 true=true
  ·rw [qka,if_pos hm];obtain ⟨h1,h2⟩:=qpp k ys;exact ⟨by simp;omega,fun x hx=>zmc (h2 x hx)⟩
  ·rw [qka,if_neg hm];exact ⟨Nat.le_refl _,fun x hx=>hx⟩
theorem ql6 {l r:List ByteArray} (h:qja l=some r):r.length≤l.length∧∀ x∈r,x∈l:=by
 cases l with
 | nil=>cases h
 | cons y ys=>
  by_cases hm:qar y 2 8 true=true
  ·rw [qja,if_pos hm] at h;have h:=Option.some.inj h;subst h
   split
   ·exact ⟨by simp,fun x hx=>zmc hx⟩
   ·obtain ⟨h1,h2⟩:=qpp 3 ys;exact ⟨by simp;omega,fun x hx=>zmc (h2 x hx)⟩
  ·rw [qja,if_neg hm] at h;cases h
theorem qz4 {l r:List ByteArray} (h:qja l=some r):∀ x∈r,x∈l:=(ql6 h).2
theorem qp4 {l r:List ByteArray} (h:qja l=some r):r.length≤l.length:=(ql6 h).1
theorem qu9 {w0 w:World} {L:List (Nat × Obj)} {rb n c off size:Nat} {A:oA} {t:List Value} {K:List Value→Prop} (hm:Mem w0 w L) (hi:(rb,rdC A n c t)∈L) (ho:off=1) (hs:t.length=size) (hk:K t):LoadA w rb off size K:=by
 subst ho;refine ⟨t,hs,fun i hi'=>?_,hk⟩;have:=hm.get hi;rw [rdC] at this;rw [qc this,List.getElem?_toArray,Nat.add_comm 1 i,List.getElem?_cons_succ]
theorem tag7 {V E:Value} (h:(∃ A n c,V=.slice A n c)∧∃ A n c,E=.slice A n c) (a0 a1 a2 a3 a6:ByteArray):∀ v∈tagC a0 a1 a2 a3 V E a6,v.oneCell'=true:=by
 obtain ⟨⟨_,_,_,rfl⟩,⟨_,_,_,rfl⟩⟩:=h;intro v hv;simp [tagC] at hv
 rcases hv with rfl|rfl|rfl|rfl|rfl|rfl|rfl<;>rfl
theorem qsb (s:ByteArray):(qdd s).map (·.data.toList)=qfi s.data.toList:=by
 rw [qdd,Go.Lib.splitB_data,← qk8];rfl
theorem qww (s:ByteArray):(∀ x∈qdd s,x.size≤s.size)∧(qdd s).length≤s.size+1:=by
 obtain ⟨h1,h2⟩:=qmd s.data.toList;rw [← qsb] at h1 h2;refine ⟨fun x hx=>?_,by simpa using h1⟩;have:=h2 _ (List.mem_map.2 ⟨x,hx,rfl⟩)
 simpa using this
def TagV (l:List ByteArray) (v:Value):Prop:=∃ c0 c1 c2 c3 c4 c5 c6,(∀ u∈[c0,c1,c2,c3,c4,c5,c6],u.oneCell'=true)∧v=.tuple #[.agg #[c0,c1,c2,c3,c4,c5,c6],ii (tagE l)]
theorem qaai (s:ByteArray) (hs:s.size≤65536) (w:World) (hM:MaxLenAt w) :
  Gv Tryz.prog 199 [.string s] w fun v w'=>TagV (qdd s) v∧Ext w w':=by
 obtain ⟨p1,p2⟩:=qww s;obtain ⟨l,hl⟩:∃ l,l=qdd s:=⟨_,rfl⟩
 rw [← hl] at p1 p2;refine ze Tryz.func199 Tryz.ntmps199 ?_;refine znm (Mem.nil w) fun rt w1 hm1=>zw ?_;refine zcv (q11 s Oo w1 (hM.ext hm1.ext)) ?_;rintro v w2 ⟨pb,rfl,hS,he2⟩;rw [← hl] at hS ⊢;have hm2:=hm1.call he2;(conv=>whnf);refine znm (Mem.nil w2) ?_;intro rb w3 hm3;have h0:RS w2 w3 [rb] rb l (some ⟨pb,0,none⟩) l.length (.slice none 0 0) (.slice none 0 0) [(rb,rdC (some ⟨pb,0,none⟩) l.length l.length (tagC ⟨#[]⟩ ⟨#[]⟩ ⟨#[]⟩ ⟨#[]⟩ (.slice none 0 0) (.slice none 0 0) ⟨#[]⟩))] []:=
  ⟨hm3,⟨_,_,_,_,_,List.mem_cons_self ..⟩,RowsP.none_,hS,Nat.le_refl _,List.mem_cons_self ..,fun g hg=>by obtain rfl:=List.mem_singleton.1 hg;exact ⟨_,List.mem_cons_self ..⟩,fun x hx=>by have:=p1 x hx;omega,⟨⟨_,_,_,rfl⟩,⟨_,_,_,rfl⟩⟩⟩
 (conv=>whnf);refine zcv (qir qlp h0 (fun x w1 _=>by
  refine (qgl x w1).mono ?_;rintro v w' ⟨rfl,rfl⟩;exact ⟨rfl,xr⟩)) ?_
 rintro v w6 ⟨rfl,h4⟩;(conv=>whnf);cases hq:seeB qlp l
 case' true=>
  refine zv ?_;obtain ⟨l1,A1,c1,V1,E1,L1,e1,g1,d1⟩:∃ l1 A1 c1 V1 E1 L1,tagR l=some l1∧RS w2 w6 [rb] rb l1 A1 c1 V1 E1 L1 []∧l1.length≤1000000:=⟨l,_,_,_,_,_,by rw [tagR,if_pos hq],h4,by omega⟩
  clear hq h4 h0
 case' false=>
  have eT:tagR l=(qja l).bind qw8:=by rw [tagR,if_neg (by rw [hq];simp)]
  refine zv ?_;refine zcv (qp5 rb 0 l _ _ ⟨#[]⟩ ⟨#[]⟩ ⟨#[]⟩ ⟨#[]⟩ _ _ w2 w6 _ h4.mem rfl hS znr h4.small) ?_;rintro v w5 (⟨e2,rfl,hx5⟩|⟨l2,e2,rfl,A2,c2,b0,b1,hS2,hc2,hm5⟩)
  ·rw [e2] at eT;refine zu ?_;refine StoreA.mem (hm2.call hx5) (i:=0) rfl (Nat.le_refl 7) qlu fun w9 hm9=>zw ?_;refine qi (R:=fun v w'=>TagV l v∧Ext w w') (zw ?_);refine zl hm9 0 ?_;exact ⟨⟨_,_,_,_,_,_,_,qlu,by rw [qiv (fun h=>by obtain ⟨l1,h1,_⟩:=h;rw [eT] at h1;cases h1)];rfl⟩,hm9.ext⟩
  rw [e2] at eT;have h5:RS w2 w5 [rb] rb l2 A2 c2 (.slice none 0 0) (.slice none 0 0) [(rb,rdC A2 l2.length c2 (tagC b0 b1 ⟨#[]⟩ ⟨#[]⟩ (.slice none 0 0) (.slice none 0 0) ⟨#[]⟩))] []:=
   ⟨hm5,⟨_,_,_,_,_,List.mem_cons_self ..⟩,RowsP.none_,hS2,hc2,List.mem_cons_self ..,fun g hg=>by obtain rfl:=List.mem_singleton.1 hg;exact ⟨_,List.mem_cons_self ..⟩,fun x hx=>by have:=p1 x (qz4 e2 x hx);omega,⟨⟨_,_,_,rfl⟩,⟨_,_,_,rfl⟩⟩⟩
  refine zu ?_;refine zcv (q5b rb [rb] l2 A2 c2 w2 w5 _ h5 (by have:=qp4 e2;omega)) ?_;rintro v w6 (⟨e3,rfl,hx6⟩|⟨l3,e3,rfl,A3,c3,V3,E3,L3,h6,hl3,_⟩)
  ·have eT:tagR l=none:=by rw [eT];exact e3
   refine zu ?_;refine StoreA.mem (hm2.call hx6) (i:=0) rfl (Nat.le_refl 7) qlu fun w9 hm9=>zw ?_;refine qi (R:=fun v w'=>TagV l v∧Ext w w') (zw ?_);refine zl hm9 0 ?_;exact ⟨⟨_,_,_,_,_,_,_,qlu,by rw [qiv (fun h=>by obtain ⟨l1,h1,_⟩:=h;rw [eT] at h1;cases h1)];rfl⟩,hm9.ext⟩
  obtain ⟨l1,A1,c1,V1,E1,L1,e1,g1,d1⟩:∃ l1 A1 c1 V1 E1 L1,tagR l=some l1∧RS w2 w6 [rb] rb l1 A1 c1 V1 E1 L1 []∧l1.length≤1000000:=⟨l3,_,_,_,_,_,by rw [eT];exact e3,h6,by have:=qp4 e2;omega⟩
  clear hq h4 h0 eT e2 h5 e3 h6;refine zu ?_
 all_goals
  refine zcv (qir qlp g1 (fun x w1 _=>by
   refine (qgl x w1).mono ?_;rintro v w' ⟨rfl,rfl⟩;exact ⟨rfl,xr⟩)) ?_
  rintro v w7 ⟨rfl,g2⟩;cases hq2:seeB qlp l1
  ·have hend:qzb l1↔l1=[]:=by rw [qzb,if_neg (by rw [hq2];simp)]
   refine zu ?_;obtain ⟨a0,a1,a2,a3,a6,hrd⟩:=id g2.rd;refine LoadV.of (v:=.slice A1 l1.length c1) (by have:=g2.mem.get hrd;rw [rdC] at this;rw [qc this];rfl) (zw ?_)
   (repeat' refine zC (fun _=>zw ?_) (fun _=>zw ?_))
   ·skip
    refine StoreA.mem (hm2.call g2.mem.ext) (i:=0) rfl (Nat.le_refl 7) qlu fun w9 hm9=>zw ?_;refine qi (R:=fun v w'=>TagV l v∧Ext w w') (zw ?_);refine zl hm9 0 ?_;exact ⟨⟨_,_,_,_,_,_,_,qlu,by rw [qiv (fun h=>by obtain ⟨l2,h1,h2⟩:=h;rw [e1] at h1;cases h1;have e:=hend.1 h2;have:l1.length=0:=(by rw [e];rfl);omega)];rfl⟩,hm9.ext⟩
   ·skip
    obtain ⟨⟨VA,vn,vc,rfl⟩,⟨EA,en,ec,rfl⟩⟩:=id g2.vs;obtain ⟨z0,z1,z2,z3,z6,hrd⟩:=id g2.rd;refine qu9 g2.mem hrd rfl rfl (zw ?_);refine StoreA.mem (hm2.call g2.mem.ext) (i:=0) rfl (Nat.le_refl 7) (tag7 g2.vs _ _ _ _ _) fun w9 hm9=>zw ?_;refine qi (R:=fun v w'=>TagV l v∧Ext w w') (zw ?_);refine zl hm9 0 ?_;exact ⟨⟨_,_,_,_,_,_,_,tag7 ⟨⟨_,_,_,rfl⟩,⟨_,_,_,rfl⟩⟩ _ _ _ _ _,by rw [qsv ⟨l1,e1,hend.2 (List.length_eq_zero_iff.1 Oo)⟩];rfl⟩,hm9.ext⟩
  ·obtain ⟨x,xs,rfl⟩:∃ x xs,l1=x::xs:=by
    cases l1 with
    | nil=>cases hq2
    | cons x xs=>exact ⟨x,xs,rfl⟩
   have hend:qzb (x::xs)↔xs≠[]∧xs.all q1a=true:=by rw [qzb,if_pos hq2];rfl
   refine zu ?_;refine zcv (qkm g2) ?_;rintro v w8 ⟨rfl,A8,c8,L8,g8,_⟩;(conv=>whnf);obtain ⟨a0,a1,a2,a3,a6,hrd⟩:=id g8.rd;refine zcv (qvb (least:=1) g8.mem hrd g8.sl g8.hc g8.small (by simp at d1;omega)) ?_;rintro v w9 ⟨pre,rest',sT,hP,hse,rfl,A9,c9,L9,hS9,hc9,hr9⟩;have g9:=g8.step hr9 ⟨_,_,_,_,_,rfl⟩ hS9 hc9 (fun y hy=>by rw [hP.eq];exact List.mem_append_right _ hy) g8.vs;(conv=>whnf);have hall:xs≠[]∧xs.all q1a=true↔pre≠[]∧rest'=[]:=by
    have hPa:pre.all q1a=true:=hP.all;rw [hP.eq,List.all_append,hPa,Bool.true_and]
    constructor
    ·rintro ⟨n1,n2⟩;have hr:rest'=[]:=by
      cases rest' with
      | nil=>rfl
      | cons y ys=>
       have:q1a y=false:=hse;simp [this] at n2
     exact ⟨fun e=>n1 (by rw [e,hr];rfl),hr⟩
    ·rintro ⟨n1,rfl⟩;exact ⟨by simpa using n1,rfl⟩
   rw [hall] at hend;have hxx:=g2.small x mh;have hsT:=hP.size;have hpl:pre.length≤1000000:=by have:=congrArg List.length hP.eq;simp at this d1;omega
   by_cases hp:pre=[]
   ·rw [decide_eq_false (by simp [hp])];refine zu ?_;refine StoreA.mem (hm2.call g9.mem.ext) (i:=0) rfl (Nat.le_refl 7) qlu fun w9 hm9=>zw ?_;refine qi (R:=fun v w'=>TagV l v∧Ext w w') (zw ?_);refine zl hm9 0 ?_;exact ⟨⟨_,_,_,_,_,_,_,qlu,by rw [qiv (fun h=>by obtain ⟨l2,h1,h2⟩:=h;rw [e1] at h1;cases h1;exact (hend.1 h2).1 hp)];rfl⟩,hm9.ext⟩
   ·rw [decide_eq_true (by simpa using hp)];refine zu ?_;refine ⟨by omega,?_⟩;(conv=>whnf);obtain ⟨a0,a1,a2,a3,a6,hrd⟩:=id g9.rd;refine qfk g9.mem hrd 6 rfl (show 6<7 by decide) rfl ?_;intro w10 L10 hr10;have g10:=g9.step hr10 ⟨_,_,_,_,_,rfl⟩ hS9 hc9 (fun y hy=>hy) g9.vs;obtain ⟨a0,a1,a2,a3,a6,hrd⟩:=id g10.rd;(conv=>whnf);refine LoadV.of (v:=.slice A9 rest'.length c9) (by have:=g10.mem.get hrd;rw [rdC] at this;rw [qc this];rfl) (zw ?_)
    (repeat' refine zC (fun _=>zw ?_) (fun _=>zw ?_))
    ·skip
     refine StoreA.mem (hm2.call g10.mem.ext) (i:=0) rfl (Nat.le_refl 7) qlu fun w9 hm9=>zw ?_;refine qi (R:=fun v w'=>TagV l v∧Ext w w') (zw ?_);refine zl hm9 0 ?_;exact ⟨⟨_,_,_,_,_,_,_,qlu,by rw [qiv (fun h=>by obtain ⟨l2,h1,h2⟩:=h;rw [e1] at h1;cases h1;have e:=(hend.1 h2).2;have:rest'.length=0:=(by rw [e];rfl);omega)];rfl⟩,hm9.ext⟩
    ·skip
     obtain ⟨⟨VA,vn,vc,rfl⟩,⟨EA,en,ec,rfl⟩⟩:=id g10.vs;obtain ⟨z0,z1,z2,z3,z6,hrd⟩:=id g10.rd;refine qu9 g10.mem hrd rfl rfl (zw ?_);refine StoreA.mem (hm2.call g10.mem.ext) (i:=0) rfl (Nat.le_refl 7) (tag7 g10.vs _ _ _ _ _) fun w9 hm9=>zw ?_;refine qi (R:=fun v w'=>TagV l v∧Ext w w') (zw ?_);refine zl hm9 0 ?_;exact ⟨⟨_,_,_,_,_,_,_,tag7 ⟨⟨_,_,_,rfl⟩,⟨_,_,_,rfl⟩⟩ _ _ _ _ _,by rw [qsv ⟨_,e1,hend.2 ⟨hp,List.length_eq_zero_iff.1 Oo⟩⟩];rfl⟩,hm9.ext⟩
namespace V
theorem AppV.one {P:Program} {w0 w:World} {A:oA} {c n nb:Nat} {xs:List Value} {L:List (Nat × Obj)} {t ty e:TypeId} {i:TypeInfo} {z x:Value} {K:Value→World→Prop}
  (ht:P.underlying t=some (.slice e)) (hi:P.info? e=some i) (hz:i.zero=some z) (hsize:i.size=1) (hzs:z.cells.size=1) (hby:i.bytes≤16)
  (h:Rw w0 w (.slice A n c) e 1 n xs ((nb,.cells #[x] e)::L)) (hx:x.oneCell'=true) (hn:n+1≤8000000000000)
  (hk:∀ A' c' w',Rw w0 w' (.slice A' (n+1) c') e 1 (n+1) (xs++[x]) L→K (.slice A' (n+1) c') w'):AppV P #[t,t] ty (.slice A n c) (.slice (some ⟨nb,0,none⟩) 1 1) w K:=by
 refine AppV.rw (news:=[x]) ht hi hz hsize hzs Od h rfl (fun _=>⟨nb,0,rfl,fun k v hv=>?_⟩) (fun u hu=>by simp at hu;rw [hu];exact hx) ?_ Oo (fun A' c' w' h'=>hk A' c' w' h'.tail)
 ·rw [qc (h.mem.get mh),Nat.zero_add]
  simpa using hv
 ·have:(n+1)*i.bytes≤8000000000000*16:=Nat.mul_le_mul hn hby;omega
end V
namespace V
section
variable {P:Program} {n:Nat} {ρ:Nat→Value} {w:World}
end
end V
theorem qadq:Tryz.prog.underlying 123=some (.slice 9):=Tryz.underlying123
theorem qu {vals:Nat→Value} {k:Nat} {v:Value} (h:vals k=v):vals=upd vals k v:=by
 funext j
 by_cases e:j=k
 ·subst e;rw [qew,h]
 ·rw [qaz _ _ _ _ e]
section
variable {w0 w w':World} {O:List Nat} {rb tb:Nat} {rest:List ByteArray} {a0:ByteArray} {vs es:List ByteArray} {R2:List (List Value × Value)}
end
theorem V.later {A B:Prop} (h:A→B) (p:A):B:=h p
structure TM where
 kind:Int
 text:ByteArray
 type:ByteArray
 lang:ByteArray
def encT (t:TM):List Value:=[ii t.kind,.string t.text,.string t.type,.string t.lang]
def qbq (t:TM):Value:=.agg #[ii t.kind,.string t.text,.string t.type,.string t.lang]
structure TermOk (t:TM):Prop where
 kind:InR .i64 t.kind
 text:t.text.size≤67108864
 type:t.type.size≤67108864
 lang:t.lang.size≤67108864
def qi9:ByteArray:=⟨#[104,116,116,112,58,47,47,119,119,119,46,119,51,46,111,114,103,47,49,57,57,57,47,48,50,47,50,50,45,114,100,102,45,115,121,110,116,97,120,45,110,115,35,108,97,110,103,83,116,114,105,110,103]⟩
open Classical in
noncomputable def litE (t:TM):Nat:=
 if 65536<t.text.size then 2 else if scal t.text.data.toList=none then 40 else if iriE t.type≠0 then iriE t.type
 else if seq t.lang ⟨#[]⟩=false∧65536<t.lang.size then 2
 else if seq t.lang ⟨#[]⟩=false∧(tagE (qdd t.lang)≠0∨seq (lowS t.lang) t.lang=false) then 61
 else if (!seq t.lang ⟨#[]⟩)≠seq t.type qi9 then 71 else 0
noncomputable def qba (t:TM):Nat:=
 if t.kind=1∨t.kind=2 then (if seq t.type ⟨#[]⟩=false∨seq t.lang ⟨#[]⟩=false then 70 else if t.kind=1 then iriE t.text else if 65536<t.text.size then 2 else labE t.text)
 else if t.kind=3 then litE t else 70
theorem qxo (l:List ByteArray):tagE l=0∨tagE l=61:=by
 by_cases h:tagP l
 ·exact .inl (qsv h)
 ·exact .inr (qiv h)
theorem q65 (a:Int) (b:Nat) (w:World) (hb:w.heap[b]?=some (.cells #[ii a,ii 61] 26)) :
  Gv Tryz.prog 201 [.slice (some ⟨b,0,none⟩) 2 2] w fun v w'=>v=ii (if a=0 then 61 else a)∧w'=w:=by
 refine ze Tryz.func201 Tryz.ntmps201 ?_;refine qw (fun i:Nat=>[(3,ii 0),(6,.slice (some ⟨b,0,none⟩) 2 2),(7,ii 2),(8,ii i)]) (fun i w1=>i≤1∧(i=1→a=0)∧w1=w) (fun i=>2-i) 0 ⟨rfl,rfl,rfl,rfl,trivial⟩ ⟨by omega,by omega,rfl⟩ ?_;rintro i w1 ρ' ⟨h1,h2,rfl⟩;obtain rfl|rfl:i=0∨i=1:=by omega
 ·refine zu ?_;refine ElemV.own1 0 rfl Oo (zw ?_);refine LoadV.of (by rw [qc hb];rfl) (zw ?_);refine zC (fun _=>zu ?_) (fun _=>zu ?_)
  ·exact ⟨by rw [if_neg Oo],rfl⟩
  ·exact ⟨1,⟨rfl,rfl,rfl,rfl,trivial⟩,⟨by omega,fun _=>by omega,rfl⟩,by omega⟩
 ·refine zu ?_;refine ElemV.own1 1 rfl Oo (zw ?_);refine LoadV.of (by rw [qc hb];rfl) (zu ?_);exact ⟨by rw [if_pos (h2 rfl)],rfl⟩
theorem qry (t:TM) (ht:TermOk t) (w:World) (hM:MaxLenAt w):Gv Tryz.prog 152 [qbq t] w fun v w'=>v=ii (litE t)∧Ext w w':=by
 obtain ⟨h1,h2,h3,h4⟩:=ht;refine ze Tryz.func152 Tryz.ntmps152 ?_;refine znm (Mem.nil w) fun b w1 hm=>zw ?_
 (repeat' (first|refine zC (fun _=>zw ?_) (fun _=>zw ?_)|refine LoadV.mem (i:=0) Oa rfl rfl (zw ?_)))
 ·exact ⟨by rw [litE,if_pos (show 65536<t.text.size by omega)];rfl,hm.ext⟩
 ·refine zcv (qpf t.text Oo w1) ?_;rintro v w2 ⟨⟨i,rfl,hi,hi1,hi2⟩,rfl⟩;have n1:¬ 65536<t.text.size:=by omega
  (conv=>whnf)
  (repeat' (first|refine zC (fun _=>zw ?_) (fun _=>zw ?_)|refine LoadV.mem (i:=0) Oa rfl rfl (zw ?_)))
  ·have hs:scal t.text.data.toList=none:=Classical.byContradiction fun h=>by have:=hi1 h;omega
   exact ⟨by rw [litE,if_neg n1,if_pos hs];rfl,hm.ext⟩
  ·have n2:¬ scal t.text.data.toList=none:=fun h=>by have:=hi2 h;omega
   refine zcv (qi0 t.type Oo w2) ?_;rintro v w3 ⟨rfl,he3⟩;have hm:=hm.call he3;have eL:litE t=if iriE t.type≠0 then iriE t.type else if seq t.lang ⟨#[]⟩=false∧65536<t.lang.size then 2
     else if seq t.lang ⟨#[]⟩=false∧(tagE (qdd t.lang)≠0∨seq (lowS t.lang) t.lang=false) then 61 else if (!seq t.lang ⟨#[]⟩)≠seq t.type qi9 then 71 else 0:=by rw [litE,if_neg n1,if_neg n2]
   rw [eL];conv=>whnf
   (repeat' (first|refine zp ?_|refine zC (fun _=>zw ?_) (fun _=>zw ?_)|refine LoadV.mem (i:=0) Oa rfl rfl (zw ?_)))
   ·exact ⟨by rw [if_pos Oo],hm.ext⟩
   ·rw [if_neg Oo];cases hl:seq t.lang ⟨#[]⟩
    ·(conv=>whnf)
     (repeat' (first|refine zp ?_|refine zC (fun _=>zw ?_) (fun _=>zw ?_)|refine LoadV.mem (i:=0) Oa rfl rfl (zw ?_)))
     ·exact ⟨by rw [if_pos ⟨rfl,by omega⟩];rfl,hm.ext⟩
     ·rw [if_neg (show ¬ (false=false∧65536<t.lang.size) by omega)];refine zcv (qaai t.lang Oo w3 (hM.ext hm.ext)) ?_;rintro v w4 ⟨⟨c0,c1,c2,c3,c4,c5,c6,hc,rfl⟩,he4⟩;have hm4:=hm.call he4;obtain ⟨E,hE⟩:∃ E,E=tagE (qdd t.lang):=⟨_,rfl⟩
      have hE2:=qxo (qdd t.lang);rw [← hE] at hE2 ⊢;(conv=>whnf);refine znm hm4 fun tb w5 hm5=>zw ?_;refine StoreA.mem hm5 (i:=0) rfl (Nat.le_refl 7) hc fun w6 hm6=>zw ?_;have hlang:w6.cell? ⟨b,3,none⟩=some (.string t.lang):=by rw [qc (hm6.get (zmg (i:=1) rfl))];rfl
      rcases hE2 with rfl|rfl
      ·refine DrawV.free rfl Jk (zw ?_);(iterate 4 (refine zd ?_));refine zf ?_ (by intro wd hd;refine zu ?_;refine LoadV.of (Ext.cell (Ext.trans (Ext.drew xr) hd) hlang) ?_;(conv=>whnf);exact ⟨xr,rfl⟩);apply zsd
       ·intro wd hd;refine zu ?_;refine zcv (qfc t.lang Oo wd) ?_;rintro v w7 ⟨rfl,he7⟩;exact ⟨he7,rfl⟩
       (conv=>whnf);refine zd ?_;refine zf ?_ (by intro wd hd;refine zu ?_;refine LoadV.of (Ext.cell (Ext.trans (Ext.drew xr) hd) hlang) ?_;(conv=>whnf);exact ⟨xr,rfl⟩);refine zd ?_;refine zd ?_;intro wd hd;(conv=>whnf);have hm7:=hm6.drew.call hd;have hlang7:wd.cell? ⟨b,3,none⟩=some (.string t.lang):=by rw [qc (hm7.get (zmg (i:=1) rfl))];rfl
       have hty7:wd.cell? ⟨b,2,none⟩=some (.string t.type):=by rw [qc (hm7.get (zmg (i:=1) rfl))];rfl
       cases hlo:seq (lowS t.lang) t.lang
       ·rw [if_pos ⟨rfl,.inr rfl⟩];refine zu ?_;refine znm hm7 fun ab w8 hm8=>zw ?_;refine zcv (q65 0 ab w8 (hm8.get mh)) ?_;rintro v w9 ⟨rfl,rfl⟩;(conv=>whnf);exact ⟨rfl,hm8.ext⟩
       ·rw [if_neg Js];(conv=>whnf);refine zt ?_;refine LoadV.mem (i:=1) Oa rfl rfl (zw ?_);refine LoadV.mem (i:=1) Oa rfl rfl (zw ?_);refine zt ?_;show Tst ((!seq t.lang ⟨#[]⟩)==seq t.type qi9) _ _;rw [hl];cases ht:seq t.type qi9
        ·refine zu ?_;exact ⟨rfl,hm7.ext⟩
        ·refine zu ?_;exact ⟨rfl,hm7.ext⟩
      ·rw [if_pos ⟨rfl,.inl Od⟩];refine DrawV.free rfl Jk (zw ?_);(iterate 10 (refine zd ?_));intro wd hd;(conv=>whnf);have hm7:=hm6.drew.call hd;refine zv ?_;refine znm hm7 fun ab w8 hm8=>zw ?_;refine zcv (q65 61 ab w8 (hm8.get mh)) ?_;rintro v w9 ⟨rfl,rfl⟩;(conv=>whnf);exact ⟨rfl,hm8.ext⟩
    ·rw [if_neg Js,if_neg Js];(conv=>whnf);refine zt ?_;refine LoadV.mem (i:=0) Oa rfl rfl (zw ?_);refine LoadV.mem (i:=0) Oa rfl rfl (zw ?_);refine zt ?_;show Tst ((!seq t.lang ⟨#[]⟩)==seq t.type qi9) _ _;rw [hl];cases ht:seq t.type qi9
     ·refine zu ?_;exact ⟨rfl,hm.ext⟩
     ·refine zu ?_;exact ⟨rfl,hm.ext⟩
theorem qhr (t:TM) (ht:TermOk t) (w:World) (hM:MaxLenAt w) (hT:CellsAt w 6 0 qa4):Gv Tryz.prog 87 [qbq t] w fun v w'=>v=ii (qba t)∧Ext w w':=by
 have hlit:=fun w1 (he:Ext w w1)=>qry t ht w1 (hM.ext he)
 obtain ⟨h1,h2,h3,h4⟩:=ht;refine ze Tryz.func87 Tryz.ntmps87 ?_;refine znm (Mem.nil w) fun b w1 hm=>zw ?_;have hA:(t.kind=1∨t.kind=2)→qba t=if seq t.type ⟨#[]⟩=false∨seq t.lang ⟨#[]⟩=false then 70 else if t.kind=1 then iriE t.text else if 65536<t.text.size then 2 else labE t.text:=fun h=>by rw [qba,if_pos h]
 have hB:¬ (t.kind=1∨t.kind=2)→qba t=if t.kind=3 then litE t else 70:=fun h=>by rw [qba,if_neg h]
 (repeat' (first|refine zp ?_|refine zC (fun _=>zw ?_) (fun _=>zw ?_)|refine LoadV.mem (i:=0) Oa rfl rfl (zw ?_)))
 ·rw [hA (.inl Oa)];cases hy:seq t.type ⟨#[]⟩
  ·refine zu ?_;exact ⟨by rw [if_pos (.inl rfl)];rfl,hm.ext⟩
  ·(conv=>whnf);refine zt ?_;refine LoadV.mem (i:=0) Oa rfl rfl (zw ?_);refine zt ?_;cases hl:seq t.lang ⟨#[]⟩
   ·refine zu ?_;exact ⟨by rw [if_pos (.inr rfl)];rfl,hm.ext⟩
   ·rw [if_neg Js,if_pos Oa];(conv=>whnf);refine zt ?_;refine LoadV.mem (i:=0) Oa rfl rfl (zw ?_);refine zt ?_;refine LoadV.mem (i:=0) Oa rfl rfl (zw ?_);refine zcv (qi0 t.text Oo w1) ?_;rintro v w2 ⟨rfl,he⟩;(conv=>whnf);exact ⟨rfl,hm.ext.trans he⟩
 ·rw [hA (.inr Oa)];cases hy:seq t.type ⟨#[]⟩
  ·refine zu ?_;exact ⟨by rw [if_pos (.inl rfl)];rfl,hm.ext⟩
  ·(conv=>whnf);refine zt ?_;refine LoadV.mem (i:=0) Oa rfl rfl (zw ?_);refine zt ?_;cases hl:seq t.lang ⟨#[]⟩
   ·refine zu ?_;exact ⟨by rw [if_pos (.inr rfl)];rfl,hm.ext⟩
   ·rw [if_neg Js,if_neg Oo];conv=>whnf
    (repeat' (first|refine zp ?_|refine zC (fun _=>zw ?_) (fun _=>zw ?_)|refine LoadV.mem (i:=0) Oa rfl rfl (zw ?_)))
    ·exact ⟨by rw [if_pos Oo];rfl,hm.ext⟩
    ·rw [if_neg Oo];refine zcv (qz1 t.text Oo w1 (hT.ext hm.ext)) ?_;rintro v w2 ⟨rfl,rfl⟩;(conv=>whnf);exact ⟨rfl,hm.ext⟩
 ·rw [hB Oo,if_pos Oa];refine zl hm 0 ?_;refine zcv (hlit w1 hm.ext) ?_;rintro v w2 ⟨rfl,he⟩;(conv=>whnf);exact ⟨rfl,hm.ext.trans he⟩
 ·exact ⟨by rw [hB Oo,if_neg Oo];rfl,hm.ext⟩
namespace V
theorem StoreA.all {P:Program} {w0 w:World} {L:List (Nat × Obj)} {i b:Nat} {cur:Array Value} {t:TypeId} {vs:List Value} {K:World→Prop} (h:Mem w0 w L) (hi:L[i]?=some (b,.cells cur t))
  (hl:cur.size=vs.length) (h1:∀ v∈vs,v.oneCell'=true) (hk:∀ w',Mem w0 w' (L.set i (b,.cells vs.toArray t))→K w'):StoreA P w b 0 vs K:=by
 refine StoreA.mem h hi Oo h1 fun w' hw=>hk w' ?_;have e:(cur.toList.take 0++vs++cur.toList.drop (0+vs.length)).toArray=vs.toArray:=by
  rw [List.take_zero,List.nil_append,List.drop_eq_nil_of_le Ys,List.append_nil]
 rwa [e] at hw
end V
open V
theorem q0d:∀ (x y:LB),Op.bytesLess x y=decide (x<y)
 | [],[]=>by simp [Op.bytesLess]
 | _::_,[]=>by simp [Op.bytesLess]
 | [],_::_=>by simp [Op.bytesLess]
 | a::x,b::y=>by
  rw [Op.bytesLess,q0d x y];simp only [List.cons_lt_cons_iff]
  by_cases h1:a<b<;>by_cases h2:a=b<;>by_cases h3:x<y<;>simp [h1,h2,h3]
theorem qcy {a b:ByteArray}:slt a b=true↔a.data.toList<b.data.toList:=by
 unfold slt;rw [q0d,ByteArray.toList_eq,ByteArray.toList_eq,decide_eq_true_iff]
theorem qd6 (a:ByteArray):slt a a=false:=by
 rw [← Bool.not_eq_true,qcy];exact List.lt_irrefl _
theorem qfl {a b c:ByteArray} (h:slt a b=true) (k:slt b c=true):slt a c=true:=by
 rw [qcy] at *;exact List.lt_trans h k
theorem qk7 (a b:ByteArray):slt a b=true∨a=b∨slt b a=true:=by
 rw [qcy,qcy]
 by_cases h1:a.data.toList<b.data.toList
 ·exact .inl h1
 ·by_cases h2:b.data.toList<a.data.toList
  ·exact .inr (.inr h2)
  ·refine .inr (.inl ?_);have:=List.le_antisymm (List.not_lt.1 h2) (List.not_lt.1 h1);cases a;cases b;simpa using this
end Go.Proofs.YtkienlambankeaaGreatDoor
