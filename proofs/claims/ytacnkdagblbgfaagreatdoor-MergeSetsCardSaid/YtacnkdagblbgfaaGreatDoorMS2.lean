/- Part 2 of 11. -/
import Derived.Test.YtacnkdagblbgfaaGreatDoorMS1
import Derived.Shelf.Strings.Builder1
import Derived.Shelf.Strings.Builder2
import Derived.Shelf.Small.Utf8
import Derived.Shelf.Small.Bits
import Derived.Shelf.Small.Strs
import Derived.Shelf.Strings.BuilderF
import Derived.Shelf.Strings.BuilderK
import Derived.Shelf.Strconv.Itoa0
import Derived.Shelf.Strings.Search1
import Derived.Shelf.Strings.Search2
import Derived.Shelf.Strings.Search3
import Derived.Shelf.Strings.Cut
import Derived.Shelf.Strings.Count
import Derived.Shelf.LaysM
import Derived.Shelf.Strings.Shaped
import Derived.Shelf.Strings.Split
import Derived.Shelf.Strings.Runes
import Derived.Shelf.Unicode.DecodeSlow
import Derived.Shelf.Slices.Turned
import Derived.Test.YtacnkdagblbgfaaGreatDoorProg
import Derived.WideKeyArgs
import Derived.ChangeSame
import Derived.ChangeVars
import Derived.RowKit
import Derived.OpenShut
import Derived.Deep.Strs
import Derived.Lib.Builder
import Derived.Lib.Join
import Derived.Lib.SplitLaws
namespace Go.Proofs.YtacnkdagblbgfaaGreatDoor
open Go.RowKit
variable {p q:Prop} {b base id j k off:Nat} {w w0:Ez} {L:ED} {cs cur:EH} {P:E4} {f:FuncId} {vs:EE} {K R:E9} {ops:Array Oper} {ρ:EB} {l:LB}
namespace V
theorem zA{a b k:Prop}(h:k)(h1:a:=by omega)(h2:b:=by omega):Obl (a/\b) k:=⟨⟨h1,h2⟩,h⟩
theorem zB{a b c d k:Prop}(h:k)(h1:a:=by omega)(h2:b:=by omega)(h3:c:=by omega)(h4:d:=by omega):Obl (a/\b/\c/\d) k:=⟨⟨h1,h2,h3,h4⟩,h⟩
theorem zC{c:Prop}[Decidable c](h1:c->p)(h2:¬c->q):Tst (decide c) p q:=.dec h1 h2
theorem zY{c:Prop}[Decidable c](h:c->p)(hc:c:=by omega):Tst (decide c) p q:=.dec h fun g=>absurd hc g
theorem zN{c:Prop}[Decidable c](h:¬c->q)(hc:¬c:=by omega):Tst (decide c) p q:=.dec (fun g=>absurd g hc) h
theorem zV{k:IntKind}{n:Int}{K:Int->Prop}(hk:K n)(h:InR k n:=by exact⟨by omega,by omega⟩):Wit (fun r=>k.wrap n=r) K:=⟨n,h.wrap,hk⟩
theorem zX{n:Nat}{K:Nat->Prop}(hk:K j)(h:j<n:=by omega):IdxV (j:Int) n K:=⟨j,rfl,h,hk⟩
theorem zJ{i:Int}{n:Nat}(j:Nat){K:Nat->Prop}(hk:K j)(e:i=(j:Int):=by rfl)(h:j<n:=by decide):IdxV i n K:=⟨j,e,h,hk⟩
theorem zW{k:Prop}(h:k):SameW w w k:=⟨rfl,h⟩
theorem zD{A:E9->Prop}{K:Option E8->E9->Prop}{v:E8}(hk:K (some v) (fun u _=>u=v))(h:A (fun u _=>u=v):=by(intro wd hd;(conv=>whnf);exact⟨Ext.refl _,rfl⟩)):StepD A K:=.still v h hk
theorem zI{A K:E8->Prop}{v:E8}(hk:K v)(h:A v:=by(intro S wd hk hp hI;(conv=>whnf);exact⟨rfl,hI⟩)):StepI A K:=.of v h hk
theorem zG{A K:Option E8->Prop}{v:E8}(hk:K (some v))(h:A (some v):=by(intro S vals wd hk hp hI;(conv=>whnf);exact⟨rfl,hI⟩)):StepG A K:=.of v h hk
theorem zM{A K:Option E8->Prop}(hk:K none)(h:A none:=by(intro S vals wd hk hp hI;(conv=>whnf);exact⟨trivial,hI⟩)):StepG A K:=.any h hk
theorem zO{A:Bool->E9->Prop}{K:Option E8->Option Nat->E9->Prop}{v:E8}(hk:K (some v) none (fun u _=>u=v))(h:A true (fun u _=>u=v):=by(intro wd hd;(conv=>whnf);exact PostO.still (Ext.refl _) rfl)):StepO base A K:=.still v h hk
theorem zT(h:p):Tst true p q:=.tt h
theorem zU(h:q):Tst false p q:=.ff h
theorem zP{b:Bool}(h:Tst b q p):Tst (!b) p q:=.not h
theorem zL{size:Nat}{t:E6}{fr:Nat×Nat}{K:EE->Prop}(h:Mem w0 w L)(i:Nat)(hk:K cs.toList)(hi:L[i]?=some (b,.cells cs t fr):=by exact rfl)(hs:cs.toList.length=size:=by exact rfl):LoadA w b 0 size K:=.mem h hi hs hk
theorem zR{t:E6}{fr:Nat×Nat}{v:E8}{K:E8->Prop}(h:Mem w0 w L)(i:Nat)(hk:K v)(hi:L[i]?=some (b,.cells cs t fr):=by exact rfl)(hv:cs[off]?=some v:=by exact rfl):LoadV w b off K:=.mem h hi hv hk
theorem zE{n:Nat}{fn:Func}{c:Code}(hf:P.funcs[f]?=some fn)(hn:fn.ntmps=n)(h:qe4 P n c (q4q P n fn R) (ini vs) w)(he:qdc P f=true:=by kernel_rfl)(hb:fn.body=some c:=by exact rfl)(hl:Nat.ble vs.length n=true:=by exact rfl):Gv P f vs w R:=gv he hf hb hn hl h
theorem zS{t:E6}{K:EC}(h:Mem w0 w L)(i:Nat)(hk:∀w',Mem w0 w' (L.set i (b,.cells vs.toArray t (0,0)))->K w')(hi:L[i]?=some (b,.cells cur t (0,0)):=by exact rfl)(hl:cur.size=vs.length:=by exact rfl)(h1:∀v∈vs,v.oneCell'=true:=by simp[Value.oneCell']):StoreA P w b 0 vs K:=by
 refine StoreA.mem h hi Oo h1 fun w' hw=>hk w' ?_;have e:(cur.toList.take 0++vs++cur.toList.drop (0+vs.length)).toArray=vs.toArray:=by
  rw[Bz,Br,Be Ys,AI]
 rwa[e]at hw
structure Hid(q:Prop):Prop where
 h:q
theorem zw(h:q)(e:p=q:=by conv=>lhs;whnf):p:=e.mpr h
theorem zv(h:q)(e:Hid q->p:=by
  intro h
  (repeat'(first|(refine Obl.mk ⟨by omega,by omega⟩ ?_;conv=>whnf)|(refine Obl.mk ⟨by omega,by omega,⟨by omega,by omega⟩⟩ ?_;conv=>whnf)|((with_reducible refine Tst.tt ?_);conv=>whnf)|((with_reducible refine Tst.ff ?_);conv=>whnf)|((with_reducible refine Tst.dec (fun _=>?_) (fun _=>?_))<;>first|(exfalso;omega)|(conv=>whnf))|((with_reducible refine Tst.not ?_))|(refine Wit.conv ⟨by omega,by omega⟩ ?_;conv=>whnf)|((with_reducible refine IdxV.nat Oo ?_);conv=>whnf)|((with_reducible refine SameW.mk rfl ?_);conv=>whnf)|((with_reducible refine Tst.beqT ?_))|((with_reducible refine Tst.beqF ?_))|(refine Tst.yes rfl ?_;conv=>whnf)|(refine Tst.no rfl ?_;conv=>whnf)))
  exact h.1):p:=e ⟨h⟩
theorem zu(h:q)(e:Hid q->p:=by
  intro h;conv=>whnf
  (repeat'(first|(refine Obl.mk ⟨by omega,by omega⟩ ?_;conv=>whnf)|(refine Obl.mk ⟨by omega,by omega,⟨by omega,by omega⟩⟩ ?_;conv=>whnf)|((with_reducible refine Tst.tt ?_);conv=>whnf)|((with_reducible refine Tst.ff ?_);conv=>whnf)|((with_reducible refine Tst.dec (fun _=>?_) (fun _=>?_))<;>first|(exfalso;omega)|(conv=>whnf))|((with_reducible refine Tst.not ?_))|(refine Wit.conv ⟨by omega,by omega⟩ ?_;conv=>whnf)|((with_reducible refine IdxV.nat Oo ?_);conv=>whnf)|((with_reducible refine SameW.mk rfl ?_);conv=>whnf)|((with_reducible refine Tst.beqT ?_))|((with_reducible refine Tst.beqF ?_))|(refine Tst.yes rfl ?_;conv=>whnf)|(refine Tst.no rfl ?_;conv=>whnf)))
  exact h.1):p:=e ⟨h⟩
theorem zt(h:q)(e:Hid q->p:=by
  intro h
  (repeat'(first|(refine Obl.mk ⟨by omega,by omega⟩ ?_;conv=>whnf)|(refine Obl.mk ⟨by omega,by omega,⟨by omega,by omega⟩⟩ ?_;conv=>whnf)|((with_reducible refine Tst.tt ?_);conv=>whnf)|((with_reducible refine Tst.ff ?_);conv=>whnf)|((with_reducible refine zY (fun _=>?_));conv=>whnf)|((with_reducible refine zN (fun _=>?_));conv=>whnf)|((with_reducible refine Tst.not ?_))|(refine Wit.conv ⟨by omega,by omega⟩ ?_;conv=>whnf)|((with_reducible refine IdxV.nat Oo ?_);conv=>whnf)|((with_reducible refine SameW.mk rfl ?_);conv=>whnf)|((with_reducible refine Tst.beqT ?_))|((with_reducible refine Tst.beqF ?_))|(refine Tst.yes rfl ?_;conv=>whnf)|(refine Tst.no rfl ?_;conv=>whnf)))
  exact h.1):p:=e ⟨h⟩
theorem zp(h:q)(e:Hid q->p:=by
  intro h
  (first|(refine Obl.mk ⟨by omega,by omega⟩ ?_;conv=>whnf)|(refine Obl.mk ⟨by omega,by omega,⟨by omega,by omega⟩⟩ ?_;conv=>whnf)|((with_reducible refine Tst.tt ?_);conv=>whnf)|((with_reducible refine Tst.ff ?_);conv=>whnf)|((with_reducible refine zY (fun _=>?_));conv=>whnf)|((with_reducible refine zN (fun _=>?_));conv=>whnf)|((with_reducible refine Tst.not ?_))|(refine Wit.conv ⟨by omega,by omega⟩ ?_;conv=>whnf)|((with_reducible refine IdxV.nat Oo ?_);conv=>whnf)|((with_reducible refine SameW.mk rfl ?_);conv=>whnf)|((with_reducible refine Tst.beqT ?_))|((with_reducible refine Tst.beqF ?_))|(refine Tst.yes rfl ?_;conv=>whnf)|(refine Tst.no rfl ?_;conv=>whnf))
  (repeat'(first|(refine Obl.mk ⟨by omega,by omega⟩ ?_;conv=>whnf)|(refine Obl.mk ⟨by omega,by omega,⟨by omega,by omega⟩⟩ ?_;conv=>whnf)|((with_reducible refine Tst.tt ?_);conv=>whnf)|((with_reducible refine Tst.ff ?_);conv=>whnf)|((with_reducible refine zY (fun _=>?_));conv=>whnf)|((with_reducible refine zN (fun _=>?_));conv=>whnf)|((with_reducible refine Tst.not ?_))|(refine Wit.conv ⟨by omega,by omega⟩ ?_;conv=>whnf)|((with_reducible refine IdxV.nat Oo ?_);conv=>whnf)|((with_reducible refine SameW.mk rfl ?_);conv=>whnf)|((with_reducible refine Tst.beqT ?_))|((with_reducible refine Tst.beqF ?_))|(refine Tst.yes rfl ?_;conv=>whnf)|(refine Tst.no rfl ?_;conv=>whnf)))
  exact h.1):p:=e ⟨h⟩
theorem zd{A:E9->Prop}{K:Option E8->E9->Prop}{v:E8}(hk:q)(h:A (fun u _=>u=v):=by
  intro wd hd;conv=>whnf
  (repeat(intro _ _;(conv=>whnf)))
  first
  | exact⟨Ext.refl _,rfl⟩
  | refine zv ?_;exact⟨Ext.refl _,rfl⟩)(e:K (some v) (fun u _=>u=v)=q:=by conv=>lhs;whnf):StepD A K:=.still v h (e.mpr hk)
theorem zo{A:Bool->E9->Prop}{K:Option E8->Option Nat->E9->Prop}{v:E8}(hk:q)(h:A true (fun u _=>u=v):=by
  intro wd hd;conv=>whnf
  (repeat(intro _;(conv=>whnf)))
  first
  | exact PostO.still (Ext.refl _) rfl
  | refine zv ?_;exact PostO.still (Ext.refl _) rfl)(e:K (some v) none (fun u _=>u=v)=q:=by conv=>lhs;whnf):StepO base A K:=.still v h (e.mpr hk)
theorem zi{A K:E8->Prop}{v:E8}(hk:q)(h:A v:=by
  intro S wd hk hp hI;conv=>whnf
  first
  | exact⟨rfl,hI⟩
  | refine zv ?_;exact⟨rfl,hI⟩)(e:K v=q:=by conv=>lhs;whnf):StepI A K:=.of v h (e.mpr hk)
theorem zg{A K:Option E8->Prop}{v:E8}(hk:q)(h:A (some v):=by
  intro S vals wd hk hp hI;conv=>whnf
  first
  | exact⟨rfl,hI⟩
  | refine zv ?_;exact⟨rfl,hI⟩)(e:K (some v)=q:=by conv=>lhs;whnf):StepG A K:=.of v h (e.mpr hk)
theorem zm{A K:Option E8->Prop}(hk:q)(h:A none:=by
  intro S vals wd hk hp hI;conv=>whnf
  first
  | exact⟨trivial,hI⟩
  | refine zv ?_;exact⟨trivial,hI⟩)(e:K none=q:=by conv=>lhs;whnf):StepG A K:=.any h (e.mpr hk)
theorem zr{t:E6}{fr:Nat×Nat}{v:E8}{K:E8->Prop}(h:Mem w0 w L)(i:Nat)(hk:q)(hi:L[i]?=some (b,.cells cs t fr):=by exact rfl)(hv:cs[off]?=some v:=by exact rfl)(e:K v=q:=by conv=>lhs;whnf):LoadV w b off K:=.mem h hi hv (e.mpr hk)
theorem zl{size:Nat}{t:E6}{fr:Nat×Nat}{K:EE->Prop}(h:Mem w0 w L)(i:Nat)(hk:q)(hi:L[i]?=some (b,.cells cs t fr):=by exact rfl)(hs:cs.toList.length=size:=by exact rfl)(e:K cs.toList=q:=by conv=>lhs;whnf):LoadA w b 0 size K:=.mem h hi hs (e.mpr hk)
theorem ze{n:Nat}{fn:Func}{c:Code}(hf:P.funcs[f]?=some fn)(hn:fn.ntmps=n)(h:q)(he:qdc P f=true:=by kernel_rfl)(hb:fn.body=some c:=by exact rfl)(hl:Nat.ble vs.length n=true:=by exact rfl)(e:qe4 P n c (q4q P n fn R) (ini vs) w=q:=by conv=>lhs;whnf):Gv P f vs w R:=gv he hf hb hn hl (e.mpr h)
theorem zy{n:Nat}{Q:Exit->EB->EC}(h:q)(hm:P.follows .mixedOrders=true:=by kernel_rfl)(hB:Region.lexB .any ops=true:=by kernel_rfl)(e:regQ P n ops.toList w.drew (fun ρ'=>Q .normal ρ' w.drew) ops.toList ρ=q:=by conv=>lhs;whnf):DrawV P n id ops Q ρ w:=.quiet hm hB (e.mpr h)
theorem xr:Ext w w:=.refl w
theorem xq{α:Type}{v:α}:Ext w w/\v=v:=⟨xr,rfl⟩
theorem zf{A:E9->Prop}{K:Option E8->E9->Prop}{v:E8}(hk:q)(h:A (fun u _=>u=v))(e:K (some v) (fun u _=>u=v)=q:=by conv=>lhs;whnf):StepD A K:=.still v h (e.mpr hk)
theorem zcv{args:EE}(h:Gv P f args w R)(hk:∀v w',R v w'->K v w'):CallV P f args w K:=.of h hk
theorem zsd{A:E9->Prop}{K:Option E8->E9->Prop}(v:E8)(h:A (fun u _=>u=v))(hk:K (some v) (fun u _=>u=v)):StepD A K:=.still v h hk
theorem znm{o:Obj}{K:Nat->EC}(h:Mem w0 w L)(hk:∀b w',Mem w0 w' ((b,o)::L)->K b w'):NewV w o K:=.mem h hk
end V
open Go.RowKit V
set_option maxRecDepth 100000
def qap(r:Int):Bool:=decide (0<=r/\r<=1114111/\(r<55296\/57343<r))
theorem qlu(r:Int)(b:Bool):b=qap r↔(b=true↔(0<=r/\r<=1114111/\(r<55296\/57343<r))):=by
 unfold qap;rw[AV];simp
theorem qyw(r:Int)(w:Ez):
  Gv EG 286 [.int .i32 r] w fun v w'=>v=.bool (qap r)/\w'=w:=by
 refine ze Tryz.func286 Tryz.ntmps286 ?_
 (repeat'(first|refine zp ?_|refine zC (fun _=>zw ?_) (fun _=>zw ?_)))
 all_goals(refine⟨Af Value.bool ((qlu r _).2 ?_),rfl⟩;simp;try omega)
def qbo(c:Nat):Nat×Nat:=
 if c<0x80 then(1,c)else if c<0xC0 then(0,0)else if c<0xE0 then(2,c%32)else if c<0xF0 then(3,c%16)else if c<0xF8 then(4,c%8)else(0,0)
theorem qox(c:Nat)(_h:c<256):(qbo c).1<=4/\(qbo c).2<128:=by
 unfold qbo;repeat(first|split|(refine⟨?_,?_⟩<;>dsimp only<;>omega))
theorem q5s(c:E7)(w:Ez):
  Gv EG 284 [.int .u8 c.toNat] w fun v w'=>v=.tuple #[ii (qbo c.toNat).1,.int .i32 (qbo c.toNat).2]/\w'=w:=by
 refine ze Tryz.func284 Tryz.ntmps284 ?_
 (repeat'(first|refine zp ?_|refine zC (fun _=>zw ?_) (fun _=>zw ?_)))
 ·exact⟨by rw[qbo,Ad Oo];rfl,rfl⟩
 ·exact⟨by rw[qbo,Aa Oo,Ad Oo];rfl,rfl⟩
 ·refine Wit.eq (qbb 5 rfl ⟨by omega,by omega⟩ ⟨by omega,by omega⟩) (zu ?_);exact⟨by rw[qbo,Aa Oo,Aa Oo,Ad Oo];rfl,rfl⟩
 ·refine Wit.eq (qbb 4 rfl ⟨by omega,by omega⟩ ⟨by omega,by omega⟩) (zu ?_);exact⟨by rw[qbo,Aa Oo,Aa Oo,Aa Oo,Ad Oo];rfl,rfl⟩
 ·refine Wit.eq (qbb 3 rfl ⟨by omega,by omega⟩ ⟨by omega,by omega⟩) (zu ?_);exact⟨by rw[qbo,Aa Oo,Aa Oo,Aa Oo,Aa Oo,Ad Oo];rfl,rfl⟩
 ·exact⟨by rw[qbo,Aa Oo,Aa Oo,Aa Oo,Aa Oo,Aa Oo];rfl,rfl⟩
def qew(n:Nat):Nat:=if n=2 then 0x80 else if n=3 then 0x800 else if n=4 then 0x10000 else 0
theorem q1n(n:Nat)(h:n<=4)(w:Ez):
  Gv EG 285 [ii n] w fun v w'=>v=.int .i32 (qew n)/\w'=w:=by
 refine ze Tryz.func285 Tryz.ntmps285 ?_;refine zv ?_;refine⟨.int .i32 (qew n),?_,?_⟩
 ·obtain rfl|rfl|rfl|rfl|rfl:n=0\/n=1\/n=2\/n=3\/n=4:=by omega
  all_goals rfl
 ·(conv=>whnf);exact⟨rfl,rfl⟩
def accR(r:Nat)(l:LB):Nat:=l.foldl (fun r c=>r*64+c.toNat%64) r
def cont(c:E7):Bool:=c.toNat/64==2
def decN:LB->Nat×Nat
 | []=>(0,0)
 | b::t=>
  let n:=(qbo b.toNat).1
  if n=0\/t.length<n-1 then(0,0)
  else if(t.take (n-1)).all cont then
   let r:=accR (qbo b.toNat).2 (t.take (n-1))
   if r<qew n\/qap r=false then(0,0)else(r,n)
  else(0,0)
theorem q84(r:Nat)(l:LB):accR r l<(r+1)*64 ^ l.length:=by
 induction l generalizing r with
 | nil=>simp[accR]
 | cons c l ih=>
  have h1:=ih (r*64+c.toNat%64);have h2:c.toNat%64<64:=CV _ Oo;simp only[accR,CO,As]at *;refine Bw h1 ?_;rw[DI,CD (64 ^ _) 64,<-Nat.mul_assoc];exact BI _ Oo
theorem qon(h:k<l.length):l.take (k+1)=l.take k++[l.getD k 0]:=by
 rw[Bm h,Ag,zge h,CI]
theorem qay(s:E0)(p:Nat)(h:p<s.size):s.data.toList.drop p=gb s p::s.data.toList.drop (p+1):=by
 have h':p<s.data.toList.length:=by simpa using h
 rw[Bu h',gb,Ag,zge h',CI]
theorem q0a(s:E0)(p k:Nat):(s.data.toList.drop p).getD k 0=gb s (p+k):=by
 simp[gb]
theorem qec(s:E0)(p:Nat):(s.data.toList.drop p).length=s.size-p:=by simp
theorem qact(m:Nat)(h:m<256):m &&&192=m/64*64:=by
 have:∀m:Fin 256,m.1 &&&192=m.1/64*64:=by decide +kernel
 exact this ⟨m,h⟩
theorem qwb(s:E0)(p:Nat)(hp:p<s.size)(hs:s.size<=140737488355328)(w:Ez):
  Gv EG 230 [.string s,ii p] w fun v w'=>v=.tuple #[.int .i32 (decN (s.data.toList.drop p)).1,ii (decN (s.data.toList.drop p)).2]/\w'=w:=by
 obtain⟨t,ht⟩:∃t,t=s.data.toList.drop (p+1):=⟨_,rfl⟩
 obtain⟨n,hn⟩:∃n,n=(qbo (gb s p).toNat).1:=⟨_,rfl⟩
 obtain⟨r,hr⟩:∃r,r=(qbo (gb s p).toNat).2:=⟨_,rfl⟩
 have hlead:=q5s (gb s p) w;have hb:=qox (gb s p).toNat (gb s p).toNat_lt;rw[<-hn,<-hr]at hlead hb;obtain⟨hb1,hb2⟩:=hb;have htl:t.length=s.size-(p+1):=by rw[ht,qec]
 have hd:decN (s.data.toList.drop p)=if n=0\/t.length<n-1 then(0,0)else if(t.take (n-1)).all cont then
   (if accR r (t.take (n-1))<qew n\/qap (accR r (t.take (n-1)))=false then(0,0)else(accR r (t.take (n-1)),n))else(0,0):=by
  rw[qay s p hp,<-ht,hn,hr];rfl
 refine ze Tryz.func230 Tryz.ntmps230 ?_;refine zv ?_;refine zcv (hlead) ?_;rintro v w' ⟨rfl,rfl⟩;conv=>whnf
 (repeat'(first|refine zp ?_|refine zC (fun _=>zw ?_) (fun _=>zw ?_)))
 ·exact⟨by rw[hd,Ad Oo];rfl,rfl⟩
 ·exact⟨by rw[hd,Ad Oo];rfl,rfl⟩
 ·refine qj (fun k:Nat=>[(0,.string s),(1,ii p),(6,ii n),(7,.int .i32 (accR r (t.take (k-1)))),(8,ii k)])
   (fun k w1=>1<=k/\k<=n/\(t.take (k-1)).all cont=true/\w1=w') (fun k=>n-k) 1 fq ⟨by omega,by omega,rfl,rfl⟩ ?_
  rintro k w1 ρ' ⟨h1,h2,h3,rfl⟩;have hacc:=q84 r (t.take (k-1));have hlen:(t.take (k-1)).length=k-1:=by rw[AG];omega
  rw[hlen]at hacc;(conv=>whnf);refine zC (fun _=>zu ?_) (fun _=>zu ?_)
  ·refine IdxV.at_ (p+k) Oo Oo (zw ?_);have hc:(gb s (p+k)).toNat<256:=(gb s (p+k)).toNat_lt;have hg:t.getD (k-1) 0=gb s (p+k):=by rw[ht,q0a];congr 1;omega
   have ht1:t.take k=t.take (k-1)++[gb s (p+k)]:=by
    have:=qon (l:=t) (k:=k-1) Oo;rw[hg,show k-1+1=k from by omega]at this;exact this
   have hacc2:accR r (t.take (k-1))<524288:=by
    refine Bw hacc (AU (BT (Nat.succ_le_of_lt hb2) (Bs Oo (show k-1<=2 by omega))) Od)
   refine Wit.eq (y:=(((gb s (p+k)).toNat/64*64:Nat):Int)) (by rw[<-qact _ hc];exact qu8 (n:=192) ⟨by omega,by omega⟩ ⟨by decide,by decide⟩) (zw ?_);refine zC (fun _=>zw ?_) (fun _=>zw ?_)
   ·refine⟨?_,rfl⟩;rw[hd,Aa Oo,Aa ?_]
    ·rfl
    ·rw[D0];apply DE.2;refine⟨gb s (p+k),?_,?_⟩
     ·have:gb s (p+k)∈t.take k:=by rw[ht1];simp
      exact CX (i:=k) (by rw[List.take_take,Dd Oo];exact this)
     ·simp[cont];omega
   ·refine Wit.shl ⟨by decide,by decide⟩ (m:=64) Od rfl ⟨by omega,by omega⟩ (zw ?_);refine Wit.eq (qbb 6 rfl ⟨by omega,by omega⟩ ⟨by omega,by omega⟩) (zu ?_);refine Wit.eq (y:=((accR r (t.take k):Nat):Int)) ?_ ?_
    ·have:=q4m (k:=.i32) (a:=accR r (t.take (k-1))) (b:=(gb s (p+k)).toNat%64) 6 ⟨by omega,by omega⟩ Oo;rw[ht1]
     simpa[accR]using this
    refine zu ?_;refine⟨k+1,fq,⟨by omega,by omega,?_,rfl⟩,by omega⟩;rw[show k+1-1=k from by omega,ht1,DR,h3];simp[cont];omega
  ·obtain rfl:k=n:=by omega
   refine zcv (q1n k hb1 _) ?_;rintro v w' ⟨rfl,rfl⟩;(conv=>whnf);refine zC (fun _=>zu ?_) (fun _=>zu ?_)
   ·refine⟨?_,rfl⟩;rw[hd,Aa Oo,Ad h3,Ad (.inl Oo)];rfl
   ·refine zcv (qyw _ _) ?_;rintro v w' ⟨rfl,rfl⟩;(conv=>whnf);cases hsc:qap (accR r (t.take (k-1)))
    ·refine zu ?_;refine⟨?_,rfl⟩;rw[hd,Aa Oo,Ad h3,Ad (.inr hsc)];rfl
    ·refine zu ?_;refine⟨?_,rfl⟩;rw[hd,Aa Oo,Ad h3,Aa (by rw[hsc];simp;omega)]
def scal(l:LB):Option EF:=
 match l with
 | []=>some []
 | b::t=>if _h:(decN (b::t)).2=0 then none else(scal ((b::t).drop (decN (b::t)).2)).map ((decN (b::t)).1::·)
termination_by l.length
decreasing_by simp;omega
theorem qij(l:LB):(decN l).2<=l.length:=by
 unfold decN
 split
 ·simp
 ·rename_i b t
  have:=qox b.toNat b.toNat_lt;simp only
  split
  ·simp
  ·split
   ·split<;>simp;omega
   ·simp
theorem q40(l:LB):(decN l).2<=4:=by
 unfold decN
 split
 ·simp
 ·rename_i b t
  have:=qox b.toNat b.toNat_lt;simp only
  split
  ·simp
  ·split
   ·split<;>simp;omega
   ·simp
theorem qhy(h:l≠[])(h0:(decN l).2=0):scal l=none:=by
 match l,h with
 | a::t,_=>rw[scal,dif_pos h0]
theorem qfm(h:l≠[])(h0:(decN l).2≠0):scal l=(scal (l.drop (decN l).2)).map ((decN l).1::·):=by
 match l,h with
 | a::t,_=>rw[scal,dif_neg h0]
theorem qim(s:E0)(p:Nat)(h:p<s.size):s.data.toList.drop p≠[]:=by
 rw[qay s p h];simp
theorem qqg(s:E0)(hs:s.size<=140737488355328)(w:Ez):
  Gv EG 181 [.string s] w fun v w'=>(∃i:Int,v=ii i/\i<4611686018427387904/\(scal s.data.toList≠none->i=-1)/\(scal s.data.toList=none->0<=i))/\w'=w:=by
 refine ze Tryz.func181 Tryz.ntmps181 ?_;refine qj (fun p:Nat=>[(0,.string s),(3,ii p)]) (fun p w1=>p<=s.size/\(scal s.data.toList=none↔scal (s.data.toList.drop p)=none)/\w1=w) (fun p=>s.size-p) 0 fq ⟨by omega,by simp,rfl⟩ ?_;rintro p w1 ρ' ⟨h1,h2,rfl⟩;(conv=>whnf);refine zC (fun _=>zw ?_) (fun _=>zw ?_)
 ·refine zcv (qwb s p Oo hs _) ?_;rintro v w' ⟨rfl,rfl⟩;have hle:=qij (s.data.toList.drop p);rw[qec]at hle;(conv=>whnf);refine zC (fun _=>zu ?_) (fun _=>zu ?_)
  ·refine⟨⟨p,rfl,by omega,fun h=>?_,fun _=>by omega⟩,rfl⟩;exact absurd (h2.2 (qhy (qim s p Oo) Oo)) h
  ·refine⟨p+(decN (s.data.toList.drop p)).2,fq,⟨by omega,?_,rfl⟩,by omega⟩;rw[h2,qfm (qim s p Oo) Oo,AM];simp
 ·refine⟨⟨-1,rfl,by omega,fun _=>rfl,fun h=>?_⟩,rfl⟩;rw[h2,Be Ys]at h;rw[scal]at h;cases h
end Go.Proofs.YtacnkdagblbgfaaGreatDoor
namespace Go.Proofs
open YtacnkdagblbgfaaGreatDoor YtacnkdagblbgfaaGreatDoor.V
open Go.Shelf
def Tryz.lays169_ren:Go.Shelf.Ren:=⟨fun|169=>270|n=>n,fun|70=>356|9=>9|0=>0|72=>358|37=>60|127=>406|3=>3|5=>5|n=>n,fun|n=>n⟩
theorem Tryz.lays169:Go.Proofs.Lays.n169 EG Tryz.lays169_ren:={
 mixed:=by kernel_rfl
 f169:=Tryz.func270.trans (Af some Jk)
 t0:=Tryz.underlying0
 a0:=Tryz.isAgg0
 z0:=Tryz.sizeOf0
 v0:=Tryz.zeroValue0
 t3:=Tryz.underlying3
 a3:=Tryz.isAgg3
 z3:=Tryz.sizeOf3
 v3:=Tryz.zeroValue3
 t9:=Tryz.underlying9
 a9:=Tryz.isAgg9
 z9:=Tryz.sizeOf9
 v9:=Tryz.zeroValue9
 t37:=Tryz.underlying60
 a37:=Tryz.isAgg60
 z37:=Tryz.sizeOf60
 v37:=Tryz.zeroValue60
 t70:=Tryz.underlying356
 a70:=Tryz.isAgg356
 z70:=Tryz.sizeOf356
 v70:=Tryz.zeroValue356
 t72:=Tryz.underlying358
 a72:=Tryz.isAgg358
 z72:=Tryz.sizeOf358
 v72:=Tryz.zeroValue358
 t127:=Tryz.underlying406
 a127:=Tryz.isAgg406
 z127:=Tryz.sizeOf406
 v127:=Tryz.zeroValue406 }
theorem Tryz.Builder_Extra_169:Builder.Extra EG Tryz.lays169_ren:={
 sizeBuilder:=by kernel_rfl
 liesBuilder:=by kernel_rfl
 t5:=Tryz.underlying5
 a5:=Tryz.isAgg5
 z5:=Tryz.sizeOf5
 v5:=Tryz.zeroValue5
 infoByte:=by kernel_rfl
 cellsByte:=by kernel_rfl
 sizeByte:=by kernel_rfl
 neB5:=by decide }
open Go.RowKit in
theorem Tryz.Builder_String_any(B b:Nat)(l:LB)(w:Ez)(h:Lib.IsBuilder 358 5 B b (Lib.byteCells l) w)(hBw:B<=w.heap.size):
  Calls EG 270 #[pp b] w fun e w'=>e=.returned (.string ⟨l.toArray⟩)/\Below B w w':=Any.Builder_String_any Tryz.lays169 Tryz.Builder_Extra_169 B b l w h hBw
def Tryz.lays165_ren:Go.Shelf.Ren:=⟨fun|165=>266|240=>315|241=>316|276=>333|277=>334|n=>n,fun|70=>356|3=>3|0=>0|4=>4|9=>9|20=>20|72=>358|37=>60|164=>303|5=>5|n=>n,fun|n=>n⟩
theorem Tryz.lays165:Go.Proofs.Lays.n165 EG Tryz.lays165_ren:={
 mixed:=by kernel_rfl
 f165:=Tryz.func266.trans (Af some Jk)
 f240:=Tryz.func315.trans (Af some Jk)
 f241:=Tryz.func316.trans (Af some Jk)
 f276:=Tryz.func333.trans (Af some Jk)
 f277:=Tryz.func334.trans (Af some Jk)
 t0:=Tryz.underlying0
 a0:=Tryz.isAgg0
 z0:=Tryz.sizeOf0
 v0:=Tryz.zeroValue0
 t3:=Tryz.underlying3
 a3:=Tryz.isAgg3
 z3:=Tryz.sizeOf3
 v3:=Tryz.zeroValue3
 t4:=Tryz.underlying4
 a4:=Tryz.isAgg4
 z4:=Tryz.sizeOf4
 v4:=Tryz.zeroValue4
 t9:=Tryz.underlying9
 a9:=Tryz.isAgg9
 z9:=Tryz.sizeOf9
 v9:=Tryz.zeroValue9
 t20:=Tryz.underlying20
 a20:=Tryz.isAgg20
 z20:=Tryz.sizeOf20
 v20:=Tryz.zeroValue20
 t37:=Tryz.underlying60
 a37:=Tryz.isAgg60
 z37:=Tryz.sizeOf60
 v37:=Tryz.zeroValue60
 t70:=Tryz.underlying356
 a70:=Tryz.isAgg356
 z70:=Tryz.sizeOf356
 v70:=Tryz.zeroValue356
 t72:=Tryz.underlying358
 a72:=Tryz.isAgg358
 z72:=Tryz.sizeOf358
 v72:=Tryz.zeroValue358
 t164:=Tryz.underlying303
 a164:=Tryz.isAgg303
 z164:=Tryz.sizeOf303
 v164:=Tryz.zeroValue303 }
theorem Tryz.Builder_Extra_165:Builder.Extra EG Tryz.lays165_ren:={
 sizeBuilder:=by kernel_rfl
 liesBuilder:=by kernel_rfl
 t5:=Tryz.underlying5
 a5:=Tryz.isAgg5
 z5:=Tryz.sizeOf5
 v5:=Tryz.zeroValue5
 infoByte:=by kernel_rfl
 cellsByte:=by kernel_rfl
 sizeByte:=by kernel_rfl
 neB5:=by decide }
open Go.RowKit in
theorem Tryz.Builder_Grow_fresh(B b n:Nat)(w:Ez)(hB:B<=b)(hbk:w.heap[b]?=some (.cells #[.pointer none,.slice none 0 0] 358))(hBw:B<=w.heap.size)(hn:n<=281474976710656):
  Calls EG 266 #[pp b,ii n] w fun e w'=>e=.returned (.tuple #[])/\(Lib.BuilderAt 358 5 B b (pp b) [] w'/\Below B w w'):=Any.Builder_Grow_fresh Tryz.lays165 Tryz.Builder_Extra_165 B b n w hB hbk hBw hn
def Tryz.lays119_ren:Go.Shelf.Ren:=⟨fun|119=>340|n=>n,fun|21=>21|4=>4|n=>n,fun|n=>n⟩
theorem Tryz.lays119:Go.Proofs.Lays.n119 EG Tryz.lays119_ren:={
 mixed:=by kernel_rfl
 f119:=Tryz.func340.trans (Af some Jk)
 t4:=Tryz.underlying4
 a4:=Tryz.isAgg4
 z4:=Tryz.sizeOf4
 v4:=Tryz.zeroValue4
 t21:=Tryz.underlying21
 a21:=Tryz.isAgg21
 z21:=Tryz.sizeOf21
 v21:=Tryz.zeroValue21 }
theorem Tryz.utf8_ValidRune(r:Int)(w:Ez):
  Calls EG 340 #[.int .i32 r] w fun e w'=>e=.returned (.bool (Lib.validRune r))/\w'=w:=Any.utf8_ValidRune Tryz.lays119 r w
def Tryz.lays213_ren:Go.Shelf.Ren:=⟨fun|213=>186|265=>238|n=>n,fun|9=>9|3=>3|n=>n,fun|n=>n⟩
def Tryz.lays106_ren:Go.Shelf.Ren:=⟨fun|106=>118|213=>186|265=>238|n=>n,fun|9=>9|3=>3|n=>n,fun|n=>n⟩
theorem Tryz.lays106:Go.Proofs.Lays.n106 EG Tryz.lays106_ren:={
 mixed:=by kernel_rfl
 f106:=Tryz.func118.trans (Af some Jk)
 f213:=Tryz.func186.trans (Af some Jk)
 f265:=Tryz.func238.trans (Af some Jk)
 t3:=Tryz.underlying3
 a3:=Tryz.isAgg3
 z3:=Tryz.sizeOf3
 v3:=Tryz.zeroValue3
 t9:=Tryz.underlying9
 a9:=Tryz.isAgg9
 z9:=Tryz.sizeOf9
 v9:=Tryz.zeroValue9 }
open Go.RowKit in
theorem Tryz.strings_Compare(a b:E0)(w:Ez):
  Calls EG 118 #[.string a,.string b] w fun e w'=>e=.returned (ii (Lib.compareBytes a.data.toList b.data.toList))/\w'=w:=Any.strings_Compare Tryz.lays106 a b w
def Tryz.lays137_ren:Go.Shelf.Ren:=⟨fun|137=>339|217=>335|266=>342|n=>n,fun|9=>9|5=>5|3=>3|n=>n,fun|n=>n⟩
theorem Tryz.lays137:Go.Proofs.Lays.n137 EG Tryz.lays137_ren:={
 mixed:=by kernel_rfl
 f137:=Tryz.func339.trans (Af some Jk)
 f217:=Tryz.func335.trans (Af some Jk)
 f266:=Tryz.func342.trans (Af some Jk)
 t3:=Tryz.underlying3
 a3:=Tryz.isAgg3
 z3:=Tryz.sizeOf3
 v3:=Tryz.zeroValue3
 t5:=Tryz.underlying5
 a5:=Tryz.isAgg5
 z5:=Tryz.sizeOf5
 v5:=Tryz.zeroValue5
 t9:=Tryz.underlying9
 a9:=Tryz.isAgg9
 z9:=Tryz.sizeOf9
 v9:=Tryz.zeroValue9 }
open Go.RowKit in
theorem Tryz.strings_IndexByte(s:E0)(c:Int)(w:Ez):
  Calls EG 339 #[.string s,.int .u8 c] w fun e w'=>e=.returned (ii (Lib.indexByte s.data.toList c.toNat.toUInt8))/\w'=w:=Any.strings_IndexByte Tryz.lays137 s c w
def Tryz.lays129_ren:Go.Shelf.Ren:=⟨fun|129=>165|n=>n,fun|53=>125|3=>3|4=>4|46=>212|5=>5|9=>9|n=>n,fun|n=>n⟩
theorem Tryz.lays129:Go.Proofs.Lays.n129 EG Tryz.lays129_ren:={
 mixed:=by kernel_rfl
 f129:=Tryz.func165.trans (Af some Jk)
 t3:=Tryz.underlying3
 a3:=Tryz.isAgg3
 z3:=Tryz.sizeOf3
 v3:=Tryz.zeroValue3
 t4:=Tryz.underlying4
 a4:=Tryz.isAgg4
 z4:=Tryz.sizeOf4
 v4:=Tryz.zeroValue4
 t5:=Tryz.underlying5
 a5:=Tryz.isAgg5
 z5:=Tryz.sizeOf5
 v5:=Tryz.zeroValue5
 t9:=Tryz.underlying9
 a9:=Tryz.isAgg9
 z9:=Tryz.sizeOf9
 v9:=Tryz.zeroValue9
 t46:=Tryz.underlying212
 a46:=Tryz.isAgg212
 z46:=Tryz.sizeOf212
 v46:=Tryz.zeroValue212
 t53:=Tryz.underlying125
 a53:=Tryz.isAgg125
 z53:=Tryz.sizeOf125
 v53:=Tryz.zeroValue125 }
theorem Tryz.bits_Len64(x:Int)(w:Ez)(h0:0<=x)(h1:x<=18446744073709551615):
  Calls EG 165 #[.int .u64 x] w fun e w'=>e=.returned (ii (Lib.bitLen x.toNat))/\w'=w:=Any.bits_Len64 Tryz.lays129 x w h0 h1
def Tryz.lays219_ren:Go.Shelf.Ren:=⟨fun|219=>317|217=>335|225=>336|224=>337|267=>338|266=>342|314=>343|n=>n,fun|9=>9|3=>3|4=>4|5=>5|46=>212|146=>425|51=>129|n=>n,fun|1=>2|n=>n⟩
def Tryz.lays143_ren:Go.Shelf.Ren:=⟨fun|143=>267|219=>317|217=>335|225=>336|224=>337|267=>338|266=>342|314=>343|n=>n,fun|9=>9|3=>3|4=>4|5=>5|46=>212|146=>425|51=>129|n=>n,fun|1=>2|n=>n⟩
theorem Tryz.lays143:Go.Proofs.Lays.n143 EG Tryz.lays143_ren:={
 mixed:=by kernel_rfl
 f143:=Tryz.func267.trans (Af some Jk)
 f217:=Tryz.func335.trans (Af some Jk)
 f219:=Tryz.func317.trans (Af some Jk)
 f224:=Tryz.func337.trans (Af some Jk)
 f225:=Tryz.func336.trans (Af some Jk)
 f266:=Tryz.func342.trans (Af some Jk)
 f267:=Tryz.func338.trans (Af some Jk)
 f314:=Tryz.func343.trans (Af some Jk)
 t3:=Tryz.underlying3
 a3:=Tryz.isAgg3
 z3:=Tryz.sizeOf3
 v3:=Tryz.zeroValue3
 t4:=Tryz.underlying4
 a4:=Tryz.isAgg4
 z4:=Tryz.sizeOf4
 v4:=Tryz.zeroValue4
 t5:=Tryz.underlying5
 a5:=Tryz.isAgg5
 z5:=Tryz.sizeOf5
 v5:=Tryz.zeroValue5
 t9:=Tryz.underlying9
 a9:=Tryz.isAgg9
 z9:=Tryz.sizeOf9
 v9:=Tryz.zeroValue9
 t46:=Tryz.underlying212
 a46:=Tryz.isAgg212
 z46:=Tryz.sizeOf212
 v46:=Tryz.zeroValue212
 t51:=Tryz.underlying129
 a51:=Tryz.isAgg129
 z51:=Tryz.sizeOf129
 v51:=Tryz.zeroValue129
 t146:=Tryz.underlying425
 a146:=Tryz.isAgg425
 z146:=Tryz.sizeOf425
 v146:=Tryz.zeroValue425
 g1:=by kernel_rfl }
open Go.RowKit Go.Lib in
theorem Tryz.strings_Index(s sub:E0)(m:Int)(w:Ez)(hs:s.size<4294967281)(hm:w.cell? ⟨2,0,none⟩=some (ii m)):
  Calls EG 267 #[.string s,.string sub] w fun e w'=>e=.returned (ii (Lib.index s.data.toList sub.data.toList))/\w'=w:=Any.strings_Index Tryz.lays143 s sub m w hs hm
def Tryz.lays145_ren:Go.Shelf.Ren:=⟨fun|145=>303|220=>327|219=>317|217=>335|225=>336|224=>337|267=>338|266=>342|314=>343|n=>n,fun|9=>9|4=>4|59=>395|3=>3|5=>5|46=>212|146=>425|51=>129|n=>n,fun|1=>2|n=>n⟩
theorem Tryz.lays145:Go.Proofs.Lays.n145 EG Tryz.lays145_ren:={
 mixed:=by kernel_rfl
 f145:=Tryz.func303.trans (Af some Jk)
 f217:=Tryz.func335.trans (Af some Jk)
 f219:=Tryz.func317.trans (Af some Jk)
 f220:=Tryz.func327.trans (Af some Jk)
 f224:=Tryz.func337.trans (Af some Jk)
 f225:=Tryz.func336.trans (Af some Jk)
 f266:=Tryz.func342.trans (Af some Jk)
 f267:=Tryz.func338.trans (Af some Jk)
 f314:=Tryz.func343.trans (Af some Jk)
 t3:=Tryz.underlying3
 a3:=Tryz.isAgg3
 z3:=Tryz.sizeOf3
 v3:=Tryz.zeroValue3
 t4:=Tryz.underlying4
 a4:=Tryz.isAgg4
 z4:=Tryz.sizeOf4
 v4:=Tryz.zeroValue4
 t5:=Tryz.underlying5
 a5:=Tryz.isAgg5
 z5:=Tryz.sizeOf5
 v5:=Tryz.zeroValue5
 t9:=Tryz.underlying9
 a9:=Tryz.isAgg9
 z9:=Tryz.sizeOf9
 v9:=Tryz.zeroValue9
 t46:=Tryz.underlying212
 a46:=Tryz.isAgg212
 z46:=Tryz.sizeOf212
 v46:=Tryz.zeroValue212
 t51:=Tryz.underlying129
 a51:=Tryz.isAgg129
 z51:=Tryz.sizeOf129
 v51:=Tryz.zeroValue129
 t59:=Tryz.underlying395
 a59:=Tryz.isAgg395
 z59:=Tryz.sizeOf395
 v59:=Tryz.zeroValue395
 t146:=Tryz.underlying425
 a146:=Tryz.isAgg425
 z146:=Tryz.sizeOf425
 v146:=Tryz.zeroValue425
 g1:=by kernel_rfl }
open Go.RowKit Go.Lib in
theorem Tryz.strings_Cut(s sep:E0)(m:Int)(w:Ez)(hs:s.size<4294967281)(hm:w.cell? ⟨2,0,none⟩=some (ii m)):
  Calls EG 303 #[.string s,.string sep] w fun e w'=>e=.returned (.tuple #[.string ⟨(Lib.cut s.data.toList sep.data.toList).1.toArray⟩,.string ⟨(Lib.cut s.data.toList sep.data.toList).2.1.toArray⟩,.bool (Lib.cut s.data.toList sep.data.toList).2.2])/\∃n,w'=w.drewN n:=Any.strings_Cut Tryz.lays145 s sep m w hs hm
def Tryz.lays138_ren:Go.Shelf.Ren:=⟨fun|138=>265|195=>313|218=>314|143=>267|219=>317|217=>335|225=>336|224=>337|267=>338|266=>342|314=>343|n=>n,fun|9=>9|3=>3|4=>4|5=>5|0=>0|46=>212|146=>425|51=>129|n=>n,fun|1=>2|n=>n⟩
theorem Tryz.lays138:Go.Proofs.Lays.n138 EG Tryz.lays138_ren:={
 mixed:=by kernel_rfl
 f138:=Tryz.func265.trans (Af some Jk)
 f143:=Tryz.func267.trans (Af some Jk)
 f195:=Tryz.func313.trans (Af some Jk)
 f217:=Tryz.func335.trans (Af some Jk)
 f218:=Tryz.func314.trans (Af some Jk)
 f219:=Tryz.func317.trans (Af some Jk)
 f224:=Tryz.func337.trans (Af some Jk)
 f225:=Tryz.func336.trans (Af some Jk)
 f266:=Tryz.func342.trans (Af some Jk)
 f267:=Tryz.func338.trans (Af some Jk)
 f314:=Tryz.func343.trans (Af some Jk)
 t0:=Tryz.underlying0
 a0:=Tryz.isAgg0
 z0:=Tryz.sizeOf0
 v0:=Tryz.zeroValue0
 t3:=Tryz.underlying3
 a3:=Tryz.isAgg3
 z3:=Tryz.sizeOf3
 v3:=Tryz.zeroValue3
 t4:=Tryz.underlying4
 a4:=Tryz.isAgg4
 z4:=Tryz.sizeOf4
 v4:=Tryz.zeroValue4
 t5:=Tryz.underlying5
 a5:=Tryz.isAgg5
 z5:=Tryz.sizeOf5
 v5:=Tryz.zeroValue5
 t9:=Tryz.underlying9
 a9:=Tryz.isAgg9
 z9:=Tryz.sizeOf9
 v9:=Tryz.zeroValue9
 t46:=Tryz.underlying212
 a46:=Tryz.isAgg212
 z46:=Tryz.sizeOf212
 v46:=Tryz.zeroValue212
 t51:=Tryz.underlying129
 a51:=Tryz.isAgg129
 z51:=Tryz.sizeOf129
 v51:=Tryz.zeroValue129
 t146:=Tryz.underlying425
 a146:=Tryz.isAgg425
 z146:=Tryz.sizeOf425
 v146:=Tryz.zeroValue425
 g1:=by kernel_rfl }
open Go.RowKit Go.Lib in
theorem Tryz.strings_Count_any(s sep:E0)(m:Int)(w:Ez)(hs:s.size<4294967281)(hm:w.cell? ⟨2,0,none⟩=some (ii m))(h1:1<=sep.size):
  Calls EG 265 #[.string s,.string sep] w fun e w'=>e=.returned (ii (Lib.countB s sep))/\w'=w:=Any.strings_Count_any Tryz.lays138 s sep m w hs hm h1
def Tryz.lays221_ren:Go.Shelf.Ren:=⟨fun|221=>287|268=>322|138=>265|143=>267|195=>313|197=>269|218=>314|219=>317|260=>318|217=>335|225=>336|224=>337|267=>338|266=>342|314=>343|n=>n,fun|9=>9|3=>3|31=>140|4=>4|0=>0|105=>332|21=>21|5=>5|46=>212|119=>418|139=>421|138=>420|146=>425|51=>129|n=>n,fun|1=>2|3=>4|4=>5|n=>n⟩
def Tryz.lays146_ren:Go.Shelf.Ren:=⟨fun|146=>231|221=>287|268=>322|138=>265|143=>267|195=>313|197=>269|218=>314|219=>317|260=>318|217=>335|225=>336|224=>337|267=>338|266=>342|314=>343|n=>n,fun|9=>9|31=>140|3=>3|4=>4|0=>0|105=>332|21=>21|5=>5|46=>212|119=>418|139=>421|138=>420|146=>425|51=>129|n=>n,fun|1=>2|3=>4|4=>5|n=>n⟩
theorem Tryz.lays146:Go.Proofs.Lays.n146 EG Tryz.lays146_ren:={
 mixed:=by kernel_rfl
 f138:=Tryz.func265.trans (Af some Jk)
 f143:=Tryz.func267.trans (Af some Jk)
 f146:=Tryz.func231.trans (Af some Jk)
 f195:=Tryz.func313.trans (Af some Jk)
 f197:=Tryz.func269.trans (Af some Jk)
 f217:=Tryz.func335.trans (Af some Jk)
 f218:=Tryz.func314.trans (Af some Jk)
 f219:=Tryz.func317.trans (Af some Jk)
 f221:=Tryz.func287.trans (Af some Jk)
 f224:=Tryz.func337.trans (Af some Jk)
 f225:=Tryz.func336.trans (Af some Jk)
 f260:=Tryz.func318.trans (Af some Jk)
 f266:=Tryz.func342.trans (Af some Jk)
 f267:=Tryz.func338.trans (Af some Jk)
 f268:=Tryz.func322.trans (Af some Jk)
 f314:=Tryz.func343.trans (Af some Jk)
 t0:=Tryz.underlying0
 a0:=Tryz.isAgg0
 z0:=Tryz.sizeOf0
 v0:=Tryz.zeroValue0
 t3:=Tryz.underlying3
 a3:=Tryz.isAgg3
 z3:=Tryz.sizeOf3
 v3:=Tryz.zeroValue3
 t4:=Tryz.underlying4
 a4:=Tryz.isAgg4
 z4:=Tryz.sizeOf4
 v4:=Tryz.zeroValue4
 t5:=Tryz.underlying5
 a5:=Tryz.isAgg5
 z5:=Tryz.sizeOf5
 v5:=Tryz.zeroValue5
 t9:=Tryz.underlying9
 a9:=Tryz.isAgg9
 z9:=Tryz.sizeOf9
 v9:=Tryz.zeroValue9
 t21:=Tryz.underlying21
 a21:=Tryz.isAgg21
 z21:=Tryz.sizeOf21
 v21:=Tryz.zeroValue21
 t31:=Tryz.underlying140
 a31:=Tryz.isAgg140
 z31:=Tryz.sizeOf140
 v31:=Tryz.zeroValue140
 t46:=Tryz.underlying212
 a46:=Tryz.isAgg212
 z46:=Tryz.sizeOf212
 v46:=Tryz.zeroValue212
 t51:=Tryz.underlying129
 a51:=Tryz.isAgg129
 z51:=Tryz.sizeOf129
 v51:=Tryz.zeroValue129
 t105:=Tryz.underlying332
 a105:=Tryz.isAgg332
 z105:=Tryz.sizeOf332
 v105:=Tryz.zeroValue332
 t119:=Tryz.underlying418
 a119:=Tryz.isAgg418
 z119:=Tryz.sizeOf418
 t138:=Tryz.underlying420
 a138:=Tryz.isAgg420
 z138:=Tryz.sizeOf420
 v138:=Tryz.zeroValue420
 t139:=Tryz.underlying421
 a139:=Tryz.isAgg421
 z139:=Tryz.sizeOf421
 v139:=Tryz.zeroValue421
 t146:=Tryz.underlying425
 a146:=Tryz.isAgg425
 z146:=Tryz.sizeOf425
 v146:=Tryz.zeroValue425
 g1:=by kernel_rfl
 g3:=by kernel_rfl
 g4:=by kernel_rfl }
open Go.RowKit Go.Lib in
theorem Tryz.strings_Split(s sep:E0)(m:Int)(w:Ez)(hs:s.size<4294967281)(hm:w.cell? ⟨2,0,none⟩=some (ii m))(h1:1<=sep.size):
  Calls EG 231 #[.string s,.string sep] w fun e w'=>
   e=.returned (.slice (some ⟨w.heap.size,0,none⟩) (Lib.countB s sep+1) (Lib.countB s sep+1))/\w'=w.alloc (.cells ((Lib.splitB sep 0 (Lib.countB s sep) s).map Value.string).toArray 9):=Any.strings_Split Tryz.lays146 Jk s sep m w hs hm h1
def Tryz.lays151_ren:Go.Shelf.Ren:=⟨fun|151=>280|152=>320|137=>339|119=>340|224=>337|225=>336|217=>335|266=>342|n=>n,fun|9=>9|21=>21|4=>4|3=>3|5=>5|0=>0|46=>212|n=>n,fun|n=>n⟩
theorem Tryz.lays151:Go.Proofs.Lays.n151 EG Tryz.lays151_ren:={
 mixed:=by kernel_rfl
 f119:=Tryz.func340.trans (Af some Jk)
 f137:=Tryz.func339.trans (Af some Jk)
 f151:=Tryz.func280.trans (Af some Jk)
 f152:=Tryz.func320.trans (Af some Jk)
 f217:=Tryz.func335.trans (Af some Jk)
 f224:=Tryz.func337.trans (Af some Jk)
 f225:=Tryz.func336.trans (Af some Jk)
 f266:=Tryz.func342.trans (Af some Jk)
 t0:=Tryz.underlying0
 a0:=Tryz.isAgg0
 z0:=Tryz.sizeOf0
 v0:=Tryz.zeroValue0
 t3:=Tryz.underlying3
 a3:=Tryz.isAgg3
 z3:=Tryz.sizeOf3
 v3:=Tryz.zeroValue3
 t4:=Tryz.underlying4
 a4:=Tryz.isAgg4
 z4:=Tryz.sizeOf4
 v4:=Tryz.zeroValue4
 t5:=Tryz.underlying5
 a5:=Tryz.isAgg5
 z5:=Tryz.sizeOf5
 v5:=Tryz.zeroValue5
 t9:=Tryz.underlying9
 a9:=Tryz.isAgg9
 z9:=Tryz.sizeOf9
 v9:=Tryz.zeroValue9
 t21:=Tryz.underlying21
 a21:=Tryz.isAgg21
 z21:=Tryz.sizeOf21
 v21:=Tryz.zeroValue21
 t46:=Tryz.underlying212
 a46:=Tryz.isAgg212
 z46:=Tryz.sizeOf212
 v46:=Tryz.zeroValue212 }
open Go.RowKit Go.Lib in
theorem Tryz.strings_ContainsRune_ascii(s:E0)(r:Int)(w:Ez)(h0:0<=r)(h1:r<128):
  Calls EG 280 #[.string s,.int .i32 r] w fun e w'=>e=.returned (.bool (decide (0<=Lib.indexByte s.data.toList r.toNat.toUInt8)))/\w'=w:=Any.strings_ContainsRune_ascii Tryz.lays151 s r w h0 h1
def Tryz.lays110_ren:Go.Shelf.Ren:=⟨fun|110=>294|109=>324|n=>n,fun|31=>140|9=>9|4=>4|3=>3|0=>0|n=>n,fun|n=>n⟩
theorem Tryz.lays110:Go.Proofs.Lays.n110 EG Tryz.lays110_ren:={
 mixed:=by kernel_rfl
 f109:=Tryz.func324.trans (Af some Jk)
 f110:=Tryz.func294.trans (Af some Jk)
 t0:=Tryz.underlying0
 a0:=Tryz.isAgg0
 z0:=Tryz.sizeOf0
 v0:=Tryz.zeroValue0
 t3:=Tryz.underlying3
 a3:=Tryz.isAgg3
 z3:=Tryz.sizeOf3
 v3:=Tryz.zeroValue3
 t4:=Tryz.underlying4
 a4:=Tryz.isAgg4
 z4:=Tryz.sizeOf4
 v4:=Tryz.zeroValue4
 t9:=Tryz.underlying9
 a9:=Tryz.isAgg9
 z9:=Tryz.sizeOf9
 v9:=Tryz.zeroValue9
 t31:=Tryz.underlying140
 a31:=Tryz.isAgg140
 z31:=Tryz.sizeOf140
 v31:=Tryz.zeroValue140 }
open Go.Lib in
theorem Tryz.slices_Contains_string(b off n c:Nat)(zs:List E0)(x:E0)(w:Ez)(hz:n<=zs.length)(hbig:n<=9223372036854775807)(hc:∀j,j<zs.length->w.cell? ⟨b,off+j,none⟩=some (.string (zs.getD j ByteArray.empty))):
  Calls EG 294 #[.slice (some ⟨b,off,none⟩) n c,.string x] w fun e w'=>e=.returned (.bool (Lib.containsS (zs.take n) x))/\w'=w:=Any.slices_Contains_string Tryz.lays110 b off n c zs x w hz hbig hc
open Go.Lib in
theorem Tryz.slices_Contains_string_empty(a:oA)(c:Nat)(x:E0)(w:Ez):
  Calls EG 294 #[.slice a 0 c,.string x] w fun e w'=>e=.returned (.bool false)/\w'=w:=Any.slices_Contains_string_empty Tryz.lays110 a c x w
end Go.Proofs
namespace Go.Proofs.YtacnkdagblbgfaaGreatDoor
open Go.RowKit V
set_option maxRecDepth 100000
variable {P:E4} {f:FuncId} {news vs xs:EE} {W W' w w' w0:Ez} {args cs:EH} {b base c g i k m nb off rb:Nat} {l:LB} {s:E0} {e ty:E6} {L L':ED} {u x z:E8} {K R:E9} {ρ:EB} {o:Oper} {xo yo:Operand} {A:oA} {O:EF} {o':Obj} {R':List (EE×E8)}
theorem qxu{v:E8}(he:qdc P f=true)(h:Calls P f vs.toArray w fun e w'=>e=.returned v/\w'=w):
  Gv P f vs w fun u w'=>u=v/\w'=w:=⟨he,h.mono fun _ _ ⟨h1,h2⟩=>⟨v,h1,rfl,h2⟩⟩
def signs:E0:=⟨#[60,62,34,123,125,124,94,96,92]⟩
theorem qor(s:E0)(c:Int)(w:Ez):
  Gv EG 339 [.string s,.int .u8 c] w fun v w'=>v=ii (Lib.indexByte s.data.toList c.toNat.toUInt8)/\w'=w:=
 qxu Jk (Tryz.strings_IndexByte s c w)
theorem qp0(r:Int)(w:Ez):
  Gv EG 340 [.int .i32 r] w fun v w'=>v=.bool (Lib.validRune r)/\w'=w:=
 qxu Jk (Tryz.utf8_ValidRune r w)
theorem qsv(r:Nat)(h:128<=r):2<=(Utf8.encode r).size/\(Utf8.encode r).size<=4/\128<=(gb (Utf8.encode r) ((Utf8.encode r).size-1)).toNat:=by
 unfold Utf8.encode;simp only;obtain⟨c,hc,hc2⟩:∃c,(if Utf8.valid r=true then(r:Int).toNat else Utf8.runeError)=c/\128<=c:=by
  refine⟨_,rfl,?_⟩
  split
  ·simpa using h
  ·decide
 rw[hc];rw[Aa Oo];have hm:c%64<64:=CV _ Oo
 split
 ·refine⟨show 2<=2 by decide,show 2<=4 by decide,?_⟩;show 128<=(UInt8.ofNat (0x80+c%64)).toNat;rw[CH,BD Oo];omega
 ·split
  ·refine⟨show 2<=3 by decide,show 3<=4 by decide,?_⟩;show 128<=(UInt8.ofNat (0x80+c%64)).toNat;rw[CH,BD Oo];omega
  ·refine⟨show 2<=4 by decide,show 4<=4 by decide,?_⟩;show 128<=(UInt8.ofNat (0x80+c%64)).toNat;rw[CH,BD Oo];omega
theorem qsa:∀pos:Fin 9,(Utf8.decode signs pos.1).2=1/\(Utf8.decode signs pos.1).1<128:=by decide
theorem qsb:∀pos:Fin 9,(gb signs pos.1).toNat<128:=by decide
theorem qr9:∀y∈signs.data.toList,y.toNat<128:=by
 intro y hy;simp only[signs,AD,Cu,or_false]at hy
 rcases hy with rfl|rfl|rfl|rfl|rfl|rfl|rfl|rfl|rfl<;>decide
theorem qmb(l:LB)(c:E7)(h:∀x∈l,x≠c):Lib.indexByte l c=-1:=by
 induction l with
 | nil=>rfl
 | cons x l ih=>
  have h1:(x==c)=false:=by simpa using h x Js
  have h2:=ih fun y hy=>h y (by simp[hy])
  simp only[Lib.indexByte,h1,h2];simp
theorem qmc(r:Nat)(h0:128<=r)(h1:r<=1114111)(w:Ez):
  Gv EG 320 [.string signs,.int .i32 r] w fun v w'=>v=ii (-1)/\Ext w w':=by
 have he:=qsv r h0;refine ze Tryz.func320 Tryz.ntmps320 ?_;refine zY (fun _=>?_);(conv=>whnf);(iterate 2 (refine zT ?_;(conv=>whnf)));refine zN (fun _=>?_);(conv=>whnf);refine zC (fun _=>?_) (fun _=>?_)<;>(conv=>whnf)
 ·refine znm (Mem.nil w) fun b w1 hm=>zw ?_;refine qj (fun pos:Nat=>[(175,pp b)]) (fun pos w2=>pos<=9/\Mem w w2 [(b,.stringIter signs pos)]) (fun pos=>9-pos) 0 ⟨rfl,trivial⟩ ⟨by omega,hm⟩ ?_;rintro pos w2 ρ' ⟨hp,hm⟩;(conv=>whnf);refine NextS.mem hm (i:=0) rfl ?_ ?_
  ·intro hlt w3 hm3;have hlt':pos<9:=hlt;have hd:=qsa ⟨pos,hlt'⟩;simp only at hd;rw[hd.1]at hm3;(conv=>whnf);refine zT ?_;(conv=>whnf);refine zN (fun _=>?_);(conv=>whnf);exact⟨pos+1,⟨rfl,trivial⟩,⟨by omega,hm3⟩,by omega⟩
  ·intro hge;(conv=>whnf);refine zU ?_;(conv=>whnf);exact⟨rfl,hm.ext⟩
 ·refine zcv (qp0 _ _) ?_;rintro v w1 ⟨rfl,rfl⟩;(conv=>whnf);cases hv:Lib.validRune r
  ·(conv=>whnf);refine zP ?_;refine zU ?_;(conv=>whnf);exact⟨rfl,xr⟩
  ·(conv=>whnf);refine zP ?_;refine zT ?_;(conv=>whnf);refine ScopeV.straight (zw ?_);refine zA ?_;(conv=>whnf);have hsg:signs.size=9:=rfl;refine qj (fun _:Unit=>[(0,.string signs),(7,.string (Utf8.encode r)),(8,ii ((Utf8.encode r).size-1)),(9,ii ((Utf8.encode r).size-1))]) (fun _ w2=>w2=w1) (fun _=>0) () fq rfl ?_;rintro _ w2 ρ' rfl;(conv=>whnf);refine zY (fun _=>?_);(conv=>whnf);refine ScopeV.straight (zw ?_);refine zy ?_;(iterate 2 (refine zW ?_;(conv=>whnf)));refine IdxV.at_ ((Utf8.encode r).size-1) Oo Oo (zw ?_);(iterate 3 (refine zW ?_;(conv=>whnf)));refine IdxV.at_ ((Utf8.encode r).size-1) Oo Oo (zw ?_);(iterate 2 (refine zW ?_;(conv=>whnf)));refine zC (fun _=>?_) (fun _=>?_)<;>(conv=>whnf)
   have hlow:=qsb ⟨(Utf8.encode r).size-1,by omega⟩;simp only at hlow
   ·refine zy ?_;(iterate 2 (refine zW ?_;(conv=>whnf)));refine zA ?_;(conv=>whnf);refine zW ?_;(conv=>whnf);refine SliceS.at_ (Utf8.encode r).size 9 (show(((Utf8.encode (r:Int)).size:Int)-1+1:Int)=((Utf8.encode (r:Int)).size:Int)by omega) rfl Oo Od (zw ?_);(iterate 3 (refine zW ?_;(conv=>whnf)));refine IdxV.at_ ((Utf8.encode r).size-1) Oo Oo (zw ?_);refine zW ?_;(conv=>whnf);refine⟨_,qor _ _ _,?_⟩;rw[qmb]
    ·(conv=>whnf);refine zW ?_;(conv=>whnf);refine zY (fun _=>?_);(conv=>whnf);exact⟨rfl,xr.drew.drew⟩
    ·intro x hx e;rw[Lib.extract_data]at hx;have hx1:=CX hx;have h2:=qr9 x (Eg hx1);rw[e]at h2;have h3:((((gb (Utf8.encode (r:Int)) ((Utf8.encode (r:Int)).size-1)).toNat:Int)).toNat.toUInt8).toNat=(gb (Utf8.encode (r:Int)) ((Utf8.encode (r:Int)).size-1)).toNat:=by
      rw[Db];simp
     omega
   ·have hlow:=qsb ⟨(Utf8.encode r).size-1,by omega⟩;simp only at hlow;omega
theorem qq0(l:LB)(c:E7):-1<=Lib.indexByte l c:=by
 induction l with
 | nil=>exact Int.le_refl _
 | cons x l ih=>
  simp only[Lib.indexByte]
  split
  ·omega
  ·split<;>omega
theorem qos(l:LB)(c:E7):0<=Lib.indexByte l c↔c∈l:=by
 induction l with
 | nil=>simp[Lib.indexByte]
 | cons x l ih=>
  simp only[Lib.indexByte,AD]
  by_cases h:x=c
  ·subst h;simp
  ·have h1:(x==c)=false:=by simpa using h
   have h2:¬c=x:=fun e=>h e.symm
   rw[h1];simp only[CF,if_false,h2,false_or,<-ih];have hge:=qq0 l c
   split
   ·rename_i e;simp at e;omega
   ·rename_i e;simp at e;omega
def barB(c:E7):Bool:=decide (c.toNat<=32\/c∈signs.data.toList)
def barR(r:Nat):Bool:=decide (r<128)&&barB (UInt8.ofNat r)
theorem qqk(r:Nat)(h1:r<=1114111)(w:Ez):
  Gv EG 280 [.string signs,.int .i32 r] w fun v w'=>v=.bool (decide (r<128/\UInt8.ofNat r∈signs.data.toList))/\Ext w w':=by
 by_cases h:r<128
 ·have hk:=Tryz.strings_ContainsRune_ascii signs (r:Int) w Oo Oo;refine(qxu Jk hk).mono ?_;rintro v w' ⟨rfl,rfl⟩;refine⟨Af Value.bool ?_,xr⟩;rw[AV,decide_eq_true_iff,decide_eq_true_iff,qos];simp[h]
 ·refine ze Tryz.func280 Tryz.ntmps280 ?_;refine zcv (qmc r Oo h1 w) ?_;rintro v w' ⟨rfl,he⟩;(conv=>whnf);exact⟨Af Value.bool (AH (fun hh=>h hh.1)).symm,he⟩
theorem qmo(r:Nat)(h1:r<=1114111)(w:Ez):
  Gv EG 227 [.int .i32 r] w fun v w'=>v=.bool (barR r)/\Ext w w':=by
 have hn:r<128->(UInt8.ofNat r).toNat=r:=fun h=>by rw[CH];omega
 refine ze Tryz.func227 Tryz.ntmps227 ?_
 (repeat'(first|((with_reducible refine zT ?_);(conv=>whnf))|((with_reducible refine zU ?_);(conv=>whnf))|((with_reducible refine zC (fun _=>?_) (fun _=>?_))<;>first|(exfalso;omega)|(conv=>whnf))))
 ·refine⟨Af Value.bool ?_,xr⟩;have:=hn Oo;simp[barR,barB,this];omega
 ·refine zcv (qqk r h1 w) ?_;rintro v w' ⟨rfl,he⟩;(conv=>whnf);refine zU ?_;(conv=>whnf);refine⟨Af Value.bool ?_,he⟩
  by_cases h:r<128
  ·have:=hn h;simp[barR,barB,this,h];omega
  ·simp[barR,h]
theorem get!_gb(s:E0)(k:Nat):s.get! k=gb s k:=by
 obtain⟨⟨l⟩⟩:=s;simp[ByteArray.get!,gb,getElem!_def]
 split
 ·simp_all
 ·rename_i h;simp_all;rfl
theorem qik(s:E0)(pos:Nat)(hb:(gb s pos).toNat<128):Utf8.decode s pos=((gb s pos).toNat,1):=by
 unfold Utf8.decode;simp only[BH,get!_gb];rw[Ad hb]
theorem qku(s:E0)(pos:Nat)(h:pos<s.size)(hb:128<=(gb s pos).toNat):
  128<=(Utf8.decode s pos).1/\(Utf8.decode s pos).1<=1114111/\1<=(Utf8.decode s pos).2/\pos+(Utf8.decode s pos).2<=s.size/\∀j,j<(Utf8.decode s pos).2->128<=(gb s (pos+j)).toNat:=by
 unfold Utf8.decode;simp only[BH,get!_gb];rw[Aa Oo];have one:∀j,j<1->128<=(gb s (pos+j)).toNat:=fun j hj=>by(obtain rfl:j=0:=by omega);exact hb
 have hb0:=(gb s pos).toNat_lt
 split
 ·rename_i hc
  simp only[AJ,CU,decide_eq_true_eq]at hc
  split
  ·refine⟨by omega,by dsimp only;omega,by dsimp only;omega,by dsimp only;omega,fun j hj=>?_⟩
   rcases AX j 1 with h1|h1
   ·exact one j h1
   ·obtain rfl:j=1:=by dsimp only at hj;omega
    omega
  ·exact⟨by decide,by decide,by decide,by dsimp only;omega,one⟩
 ·split
  ·rename_i hc
   simp only[AJ,CU,decide_eq_true_eq]at hc
   split
   ·refine⟨by dsimp only;simp at *;omega,by dsimp only;omega,by dsimp only;omega,by dsimp only;omega,fun j hj=>?_⟩
    rcases AX j 1 with h1|h1
    ·exact one j h1
    ·obtain rfl|rfl:j=1\/j=2:=by dsimp only at hj;omega
     ·omega
     ·omega
   ·exact⟨by decide,by decide,by decide,by dsimp only;omega,one⟩
  ·split
   ·rename_i hc
    simp only[AJ,CU,decide_eq_true_eq]at hc
    split
    ·rename_i hv
     simp only[AJ,decide_eq_true_eq,Utf8.valid,CA]at hv;refine⟨by dsimp only;omega,by dsimp only;omega,by dsimp only;omega,by dsimp only;omega,fun j hj=>?_⟩
     rcases AX j 1 with h1|h1
     ·exact one j h1
     ·obtain rfl|rfl|rfl:j=1\/j=2\/j=3:=by dsimp only at hj;omega
      ·omega
      ·omega
      ·omega
    ·exact⟨by decide,by decide,by decide,by dsimp only;omega,one⟩
   ·exact⟨by decide,by decide,by decide,by dsimp only;omega,one⟩
theorem qns(s:E0)(n:Nat):∀pos,pos+n<=s.size->(∀j,j<n->128<=(gb s (pos+j)).toNat)->
  (s.data.toList.drop pos).any barB=(s.data.toList.drop (pos+n)).any barB:=by
 induction n with
 | zero=>intro pos _ _;rfl
 | succ n ih=>
  intro pos hle hh;have h0:=hh 0 Oo;have hb:barB (gb s pos)=false:=by
   simp only[barB,decide_eq_false_iff_not,not_or];exact⟨by simp only[BH]at h0;omega,fun hm=>by have:=qr9 _ hm;simp only[BH]at h0;omega⟩
  rw[qay s pos Oo,Ee,hb,Dx,ih (pos+1) Oo (fun j hj=>by have:=hh (j+1) Oo;rwa[show pos+1+j=pos+(j+1)from by omega])]
  congr 2;omega
theorem qot(s:E0)(hs:s.size<=140737488355328)(w:Ez):
  Gv EG 226 [.string s,.func (.func 227) #[] #[]] w fun v w'=>(∃i:Int,v=ii i/\(0<=i↔s.data.toList.any barB=true))/\Ext w w':=by
 have hin:Gv EG 279 [.string s,.func (.func 227) #[] #[],.bool true] w fun v w'=>(∃i:Int,v=ii i/\(0<=i↔s.data.toList.any barB=true))/\Ext w w':=by
  refine ze Tryz.func279 Tryz.ntmps279 ?_;refine znm (Mem.nil w) fun b w1 hm=>zw ?_;refine qj (fun pos:Nat=>[(1,.func (.func 227) #[] #[]),(2,.bool true),(10,pp b)])
   (fun pos w2=>pos<=s.size/\Mem w w2 [(b,.stringIter s pos)]/\s.data.toList.any barB=(s.data.toList.drop pos).any barB) (fun pos=>s.size-pos) 0 fq ⟨by omega,hm,rfl⟩ ?_
  rintro pos w2 ρ' ⟨hp,hm,ha⟩;(conv=>whnf);refine NextS.mem hm (i:=0) rfl ?_ ?_
  ·intro hlt w3 hm3
   by_cases hb:(gb s pos).toNat<128
   ·have hd:=qik s pos hb;rw[hd]at hm3|-;simp only at hm3|-;have hbb:UInt8.ofNat (gb s pos).toNat=gb s pos:=by simp
    (conv=>whnf);refine zT ?_;(conv=>whnf);refine zcv (qmo _ Oo _) ?_;rintro v w4 ⟨rfl,he⟩;have hm4:=hm3.call he;(conv=>whnf);have hbr:barR (gb s pos).toNat=barB (gb s pos):=by rw[barR,Az hb,hbb,Dh]
    rw[hbr];cases hbar:barB (gb s pos)
    ·(conv=>whnf);refine Tst.beqT ?_;refine zU ?_;(conv=>whnf);refine⟨pos+1,fq,⟨by omega,hm4,?_⟩,by omega⟩;rw[ha,qay s pos hlt,Ee,hbar,Dx]
    ·(conv=>whnf);refine Tst.beqT ?_;refine zT ?_;(conv=>whnf);refine⟨⟨pos,rfl,?_⟩,hm4.ext⟩;rw[ha,qay s pos hlt,Ee,hbar];simp;try omega
   ·have hd:=qku s pos hlt Oo;obtain⟨d1,d2,d3,d4,d5⟩:=hd;(conv=>whnf);refine zT ?_;(conv=>whnf);refine zcv (qmo _ d2 _) ?_;rintro v w4 ⟨rfl,he⟩;have hm4:=hm3.call he;have hbr:barR (Utf8.decode s pos).1=false:=by simp[barR];omega
    rw[hbr];(conv=>whnf);refine Tst.beqT ?_;refine zU ?_;(conv=>whnf);refine⟨pos+(Utf8.decode s pos).2,fq,⟨by omega,hm4,?_⟩,by omega⟩;rw[ha];exact qns s _ pos d4 d5
  ·intro hge;(conv=>whnf);refine zU ?_;(conv=>whnf);refine⟨⟨-1,rfl,?_⟩,hm.ext⟩;rw[ha,Be Ys];simp
 refine ze Tryz.func226 Tryz.ntmps226 ?_;refine zcv (hin) ?_;rintro v w' ⟨⟨i,rfl,hi⟩,he⟩;(conv=>whnf);exact⟨⟨i,rfl,hi⟩,he⟩
def refE(s:E0):Nat:=
 if 65536<s.size then 2 else if scal s.data.toList=none then 40 else if s.data.toList.any barB then 50 else 0
theorem qpp(s:E0)(hs:s.size<=140737488355328)(w:Ez):
  Gv EG 178 [.string s] w fun v w'=>v=ii (refE s)/\Ext w w':=by
 refine ze Tryz.func178 Tryz.ntmps178 ?_;refine zC (fun _=>?_) (fun _=>?_)<;>(conv=>whnf)
 ·exact⟨by rw[refE,Ad Oo];rfl,xr⟩
 ·refine zcv (qqg s hs _) ?_;rintro v w' ⟨⟨i,rfl,h1,h2,h3⟩,rfl⟩;(conv=>whnf);refine zC (fun _=>?_) (fun _=>?_)<;>(conv=>whnf)
  ·refine⟨?_,xr⟩;rw[refE,Aa Oo,Ad (by
    by_cases h:scal s.data.toList=none
    ·exact h
    ·have:=h2 h;omega)]
   rfl
  ·have hsc:scal s.data.toList≠none:=fun h=>by have:=h3 h;omega
   refine zcv (qot s hs _) ?_;rintro v w1 ⟨⟨j,rfl,hj⟩,he⟩;(conv=>whnf);refine zC (fun _=>?_) (fun _=>?_)<;>(conv=>whnf)
   ·refine⟨?_,he⟩;rw[refE,Aa Oo,Aa hsc,Ad (hj.1 Oo)];rfl
   ·refine⟨?_,he⟩;rw[refE,Aa Oo,Aa hsc,Aa (fun h=>by have:=hj.2 h;omega)];rfl
def qej(c:E7):Bool:=decide (97<=c.toNat/\c.toNat<=122\/65<=c.toNat/\c.toNat<=90)
def qt4(c:E7):Bool:=qej c||decide (48<=c.toNat/\c.toNat<=57\/c.toNat=43\/c.toNat=45\/c.toNat=46)
def qax:LB->Nat->Nat
 | [],_=>0
 | c::l,k=>if c.toNat=58 then k else if k=0/\qej c=false\/qt4 c=false then 0 else qax l (k+1)
theorem qjc(c:E7)(l:LB)(k:Nat)(h1:c.toNat≠58)(h2:97<=c.toNat/\c.toNat<=122\/65<=c.toNat/\c.toNat<=90\/(0<k/\(48<=c.toNat/\c.toNat<=57\/c.toNat=43\/c.toNat=45\/c.toNat=46))):
  qax (c::l) k=qax l (k+1):=by
 rw[qax,Aa h1,Aa];simp only[qt4,qej,CY,decide_eq_false_iff_not];omega
theorem qdo(c:E7)(l:LB)(k:Nat)(h1:c.toNat≠58\/k=0)(h2:¬(97<=c.toNat/\c.toNat<=122\/65<=c.toNat/\c.toNat<=90\/(0<k/\(48<=c.toNat/\c.toNat<=57\/c.toNat=43\/c.toNat=45\/c.toNat=46)))):
  qax (c::l) k=0:=by
 rw[qax]
 split
 ·omega
 ·rw[Ad];simp only[qt4,qej,CY,decide_eq_false_iff_not];omega
theorem qlv(c:E7)(l:LB)(k:Nat)(h1:c.toNat=58):qax (c::l) k=k:=by
 rw[qax,Ad h1]
theorem qdj(s:E0):s.extract 0 0=⟨#[]⟩:=by
 obtain⟨⟨l⟩⟩:=s;rw[ByteArray.extract_mk];simp
theorem qyy(s:E0)(hs:s.size<=140737488355328)(w:Ez):
  Gv EG 179 [.string s] w fun v w'=>v=.string (s.extract 0 (qax s.data.toList 0))/\Ext w w':=by
 refine ze Tryz.func179 Tryz.ntmps179 ?_;refine znm (Mem.nil w) fun b w1 hm=>zw ?_;refine qj (fun pos:Nat=>[(0,.string s),(7,pp b)])
  (fun pos w2=>pos<=s.size/\Mem w w2 [(b,.stringIter s pos)]/\qax s.data.toList 0=qax (s.data.toList.drop pos) pos) (fun pos=>s.size-pos) 0 fq ⟨by omega,hm,rfl⟩ ?_
 rintro pos w2 ρ' ⟨hp,hm,ha⟩;(conv=>whnf);refine NextS.mem hm (i:=0) rfl ?_ ?_
 ·intro hlt w3 hm3;have hget:=qay s pos hlt;rw[hget]at ha
  by_cases hb:(gb s pos).toNat<128
  ·have hd:=qik s pos hb;rw[hd]at hm3|-;simp only at hm3|-;conv=>whnf
   (repeat'(first|((with_reducible refine zT ?_);(conv=>whnf))|((with_reducible refine zU ?_);(conv=>whnf))|((with_reducible refine zC (fun _=>?_) (fun _=>?_))<;>first|(exfalso;omega)|(conv=>whnf))))
   all_goals first
    | (refine⟨pos+1,fq,⟨by omega,hm3,?_⟩,by omega⟩;rw[ha];exact qjc _ _ _ Oo Oo)
    | (refine⟨?_,hm3.ext⟩;rw[ha,qdo _ _ _ Oo Oo,qdj])
    | (refine SliceS.at_ 0 pos rfl rfl Oo Oo ?_;(conv=>whnf);skip;exact⟨by rw[ha,qlv _ _ _ Oo],hm3.ext⟩)
  ·obtain⟨d1,d2,d3,d4,d5⟩:=qku s pos hlt Oo;generalize(Utf8.decode s pos).1=r at d1 d2|-;generalize(Utf8.decode s pos).2=n at d3 d4 d5 hm3;conv=>whnf
   (repeat'(first|((with_reducible refine zT ?_);(conv=>whnf))|((with_reducible refine zU ?_);(conv=>whnf))|((with_reducible refine zC (fun _=>?_) (fun _=>?_))<;>first|(exfalso;omega)|(conv=>whnf))))
   all_goals first
    | (refine⟨?_,hm3.ext⟩;rw[ha,qdo _ _ _ Oo Oo,qdj])
 ·intro hge;rw[Be Ys]at ha;(conv=>whnf);refine zU ?_;(conv=>whnf);exact⟨by rw[ha,qax,qdj],hm.ext⟩
def iriE(s:E0):Nat:=if refE s≠0 then refE s else if qax s.data.toList 0=0 then 51 else 0
theorem qyx(l:LB)(k:Nat):qax l k<=k+l.length:=by
 induction l generalizing k with
 | nil=>simp[qax]
 | cons c l ih=>
  rw[qax];have:=ih (k+1);simp only[As]
  split
  ·omega
  ·split<;>omega
theorem qha(s:E0)(n:Nat)(hn:n<=s.size):s.extract 0 n=⟨#[]⟩↔n=0:=by
 constructor
 ·intro h;have:=Af ByteArray.size h;rw[Cy]at this;have h0:(ByteArray.mk #[]).size=0:=rfl;omega
 ·rintro rfl;exact qdj s
theorem qjm(s:E0)(hs:s.size<=140737488355328)(w:Ez):
  Gv EG 114 [.string s] w fun v w'=>v=ii (iriE s)/\Ext w w':=by
 refine ze Tryz.func114 Tryz.ntmps114 ?_;refine zcv (qpp s hs _) ?_;rintro v w1 ⟨rfl,he⟩;(conv=>whnf);refine zC (fun _=>?_) (fun _=>?_)<;>(conv=>whnf)
 ·exact⟨by rw[iriE,Ad Oo],he⟩
 ·refine zcv (qyy s hs _) ?_;rintro v w2 ⟨rfl,he2⟩;have hle:=qyx s.data.toList 0;have hle':qax s.data.toList 0<=s.size:=by simpa using hle
  (conv=>whnf);refine Tst.seq (fun h=>?_) (fun h=>?_)
  ·(conv=>whnf);exact⟨by rw[iriE,Aa Oo,Ad ((qha s _ hle').1 h)];rfl,he.trans he2⟩
  ·(conv=>whnf);exact⟨by rw[iriE,Aa Oo,Aa (fun e=>h ((qha s _ hle').2 e))];rfl,he.trans he2⟩
def es:E0:=⟨#[]⟩
structure PN where
 op:Int
 iri:E0
 a:Int
 b:Int
 fA:oA
 fc:Nat
 f:List E0
 vA:oA
 vc:Nat
 v:List E0
open Go.ChangeShapes Go.WideShapes Go.RowKit
namespace V
section
variable {H:Type} {enc:E6×E8->H} {P:E4}
theorem qh8(hl:laidOutB P=true){base:Nat}{W W':Ez}{sp':Nat->Bool}:∀{ts:List E6} {vs:EE} {ds:List (DataW H)} {ps:List MemPlace},
  (∀t∈ts,P.readableRec t=true/\t<P.types.size)->DataW.TrodAll enc P W base (fun _=>true) true ts vs ds ps->(∀p∈ps,W.sameAt W' p)->(∀p∈ps,sp' p.block=true)->
  DataW.TrodAll enc P W' base sp' true ts vs ds ps
 | [],_,_,_,_,h,_,_=>by
  obtain⟨rfl,rfl,rfl⟩:=trodAll_nil h;exact trodAll_mk0
 | t::ts,_,_,_,hr,h,h1,h2=>by
  obtain⟨v,vs,d,ds,p,q,rfl,rfl,rfl,ha,hb⟩:=trodAll_cons h;obtain⟨r1,r2⟩:=hr t mh;exact⟨p,q,WideElems.Trod_stays hl r1 r2 ha (fun x hx=>h1 x (Bb _ hx)) (fun x hx=>h2 x (Bb _ hx)),
   qh8 hl (fun t ht=>hr t (zmc ht)) hb (fun x hx=>h1 x (Ai _ hx)) (fun x hx=>h2 x (Ai _ hx)),rfl⟩
theorem qti{f:Func}{s:ChangeSpec}{apart fresh handsOn again:Bool}{v:E8}{ds gs:List (DataW H)}{before pa pv:List MemPlace}(hW:DataW.Whole enc P f.params.toList s.vars apart W args.toList ds gs before)(hres:∀(b:Nat) (sp:Nat->Bool) (hd:Bool),DataW.TrodAll enc P W' b sp hd f.resultTypes.toList (v.resultList f.resultTypes.size) (s.fn H (ds++gs)).results [])(hargs:∀sp:Nat->Bool,(∀p∈before,sp p.block=true)->DataW.TrodAll enc P W' 0 sp true f.params.toList args.toList (s.fn H (ds++gs)).args pa)(hvars:∀sp:Nat->Bool,(∀p∈before,sp p.block=true)->DataW.TrodVars enc P W' sp s.vars (s.fn H (ds++gs)).vars pv)(hps:before=pa++pv)(he:Ext W W')(hok:∀(j:Nat) (t:E6) (r:E8),f.resultTypes[j]?=some t->(v.resultList f.resultTypes.size)[j]?=some r->Value.okWide P W' .any 0 t r):
  s.post enc P f apart fresh handsOn again W args v W':=by
 have hlt:=hW.lt;have hold:∀p∈before,(fun b=>decide (b<W.heap.size)) p.block=true:=fun p hp=>by simpa using hlt p hp
 refine⟨ds,gs,before,[],pa,pv,hW,hres _ _ _,hargs _ hold,hvars _ hold,Below.frame he _,fun _=>?_⟩;obtain⟨_,_,_,_,_,hz,hn⟩:=hW;refine⟨hok,_,_,([]++pa)++pv,⟨[]++pa,pv,trodAll_append (hargs _ (fun _ _=>rfl)) (hres _ _ _),hvars _ (fun _ _=>rfl),rfl,?_,?_⟩,?_⟩
 ·intro b off hp;have hp':MemPlace.cell b off∈before:=by rw[hps];simpa using hp
  rw[Below.frozen he (show(⟨b,off,none⟩:Addr).block<W.heap.size from hlt _ hp')];exact hz b off hp'
 ·intro ha;have:=hn ha;rw[hps]at this
  simpa using this
 ·intro p hp _;rw[hps]
  simpa using hp
theorem q6f{f:Func}{s:ChangeSpec}{apart fresh handsOn again:Bool}{v:E8}{ds gs:List (DataW H)}{before:List MemPlace}(hl:laidOutB P=true)(hr:∀t∈f.params.toList,P.readableRec t=true/\t<P.types.size)(hW:DataW.Whole enc P f.params.toList s.vars apart W args.toList ds gs before)(hv:s.vars=[])(hres:∀(b:Nat) (sp:Nat->Bool) (hd:Bool),DataW.TrodAll enc P W' b sp hd f.resultTypes.toList (v.resultList f.resultTypes.size) (s.fn H ds).results [])(hargs:(s.fn H ds).args=ds)(hvars:(s.fn H ds).vars=[])(he:Ext W W')(hok:∀(j:Nat) (t:E6) (r:E8),f.resultTypes[j]?=some t->(v.resultList f.resultTypes.size)[j]?=some r->Value.okWide P W' .any 0 t r):
  s.post enc P f apart fresh handsOn again W args v W':=by
 have hlt:=hW.lt;have hW0:=hW;obtain⟨p,q,hA,hV,hpq,_,_⟩:=hW;rw[hv]at hV;obtain⟨rfl,rfl⟩:=trodVars_none hV;rw[AI]at hpq;subst hpq;refine qti (pa:=before) (pv:=[]) hW0 ?_ ?_ ?_ Js he hok
 ·rw[AI];exact hres
 ·rw[AI,hargs];exact fun sp hsp=>qh8 hl hr hA (fun x hx=>Below.same he (hlt x hx)) hsp
 ·rw[AI,hvars,hv];exact fun _ _=>rfl
structure Opn(enc:E6×E8->H)(P:E4)(w:Ez)(t:E6)(cs:EE):Prop where
 h:∃n d ps,DataW.trod enc P w 0 (fun _=>true) true n t cs=some (d,ps)/\∀m∈DataW.weights P t d,m<=reachBytes
theorem qfa{t:E6}{d:DataW H}{m:Nat}(hm:m∈DataW.weights P t d):∀(ts:List E6) (ds:List (DataW H)) (i:Nat),ts[i]?=some t->ds[i]?=some d->m∈DataW.weightsEach P ts ds
 | [],_,_,h,_=>by simp at h
 | _::_,[],_,_,h=>by simp at h
 | u::ts,x::ds,0,h,h'=>by
  simp at h h';subst h h';rw[DataW.weightsEach];exact Bb _ hm
 | u::ts,x::ds,i+1,h,h'=>by
  rw[DataW.weightsEach];exact Ai _ (qfa hm ts ds i (by simpa using h) (by simpa using h'))
theorem qgi{t:E6}{d:DataW H}{m:Nat}(hm:m∈DataW.weights P t d):∀(ds:List (DataW H)),d∈ds->m∈DataW.weightsAll P t ds
 | [],h=>by simp at h
 | x::ds,h=>by
  rw[DataW.weightsAll]
  rcases AD.1 h with rfl|h
  ·exact Bb _ hm
  ·exact Ai _ (qgi hm ds h)
section
variable {w:Ez} {t:E6}
theorem Opn.of{ts:List E6}{ds:List (DataW H)}{ps:List MemPlace}(h:DataW.TrodAll enc P w 0 (fun _=>true) true ts vs ds ps)(hw:(DataW.weightsEach P ts ds).all (·<=reachBytes)=true):
  ∀(i:Nat) u v,ts[i]?=some u->vs[i]?=some v->Opn enc P w u v.cells.toList:=by
 have key:∀(ts:List E6) (vs:EE) (ds:List (DataW H)) (ps:List MemPlace),DataW.TrodAll enc P w 0 (fun _=>true) true ts vs ds ps->(∀m∈DataW.weightsEach P ts ds,m<=reachBytes)->
   ∀(i:Nat) u v,ts[i]?=some u->vs[i]?=some v->Opn enc P w u v.cells.toList:=by
  intro ts
  induction ts with
  | nil=>intro vs ds ps _ _ i u v hu;simp at hu
  | cons t ts ih=>
   intro vs ds ps h hw i u v hu hv;obtain⟨x,vs',d,ds',p,q,rfl,rfl,rfl,⟨n,ha⟩,hb⟩:=trodAll_cons h;rw[DataW.weightsEach]at hw;cases i with
   | zero=>
    simp at hu hv;subst hu hv;exact⟨n,d,p,ha,fun m hm=>hw m (Bb _ hm)⟩
   | succ i=>exact ih vs' ds' q hb (fun m hm=>hw m (Ai _ hm)) i u v (by simpa using hu) (by simpa using hv)
 exact key ts vs ds ps h (fun m hm=>BR (Ce.1 hw m hm))
theorem Opn.fields{fs:Array Field}{cs:EE}(ht:P.underlying t=some (.struct fs))(h:Opn enc P w t cs):
  cs.length=P.cellsOf t/\∀(i:Nat) (f:Field),fs[i]?=some f->Opn enc P w f.type ((cs.drop f.offset).take (P.cellsOf f.type)):=by
 obtain⟨n,d,ps,h,hw⟩:=h;obtain⟨xs,n,_,hd,hl,hlen,hf⟩:=DataW.trod_struct ht h;simp only[Ef]at hd;obtain⟨rfl,rfl⟩:=hd;refine⟨hl,fun i f hi=>?_⟩;have hil:i<xs.length:=by
  rw[hlen];exact(AS.1 hi).1
 refine⟨n,xs[i].1,xs[i].2,by rw[hf i f hi,zge hil],fun m hm=>hw m ?_⟩;rw[DataW.weights,ht];exact qfa hm _ _ i (by rw[Ao,Cj,hi];rfl) (by rw[Ao,zge hil];rfl)
theorem Opn.string{c:E8}(ht:P.underlying t=some .string)(h:Opn enc P w t [c]):∃s:E0,c=.string s/\s.size<=140737488355328:=by
 obtain⟨n,d,ps,h,hw⟩:=h;obtain⟨s,h1,h2,_⟩:=DataW.trod_string ht h;simp only[Ef]at h2;obtain⟨rfl,rfl⟩:=h2;refine⟨s,by simpa using h1,?_⟩;have:=hw s.data.toList.length (by rw[DataW.weights];exact Ah.2 rfl);have e:s.data.toList.length=s.size:=Array.length_toList;have e2:reachBytes=140737488351232:=rfl;omega
theorem Opn.int{k:IntKind}{c:E8}(ht:P.underlying t=some (.int k))(h:Opn enc P w t [c]):∃n:Int,c=.int k n/\(Lit.int k n).wf=true:=by
 obtain⟨n,d,ps,h,hw⟩:=h;obtain⟨s,h1,_,h2⟩:=DataW.trod_int ht h;exact⟨s,by simpa using h1,h2⟩
theorem q3g{a:Addr}{v:E8}(h:w.cell? a=some v):a=⟨a.block,a.off,none⟩:=by
 obtain⟨b,o,s⟩:=a;cases s with
 | none=>rfl
 | some s=>
  exfalso
  unfold World.cell? at h;simp at h
  split at h<;>simp_all
end
end
end V
open Go.ChangeShapes Go.WideShapes Go.RowKit V
theorem q03{k:IntKind}{n:Int}(h:(Lit.int k n).wf=true):InR k n:=by
 simp only[Lit.wf,AJ,decide_eq_true_eq]at h;cases k<;>exact h
theorem qnz:EG.cellsOf 9=1:=by kernel_rfl
theorem q4u:EG.cellsOf 3=1:=by kernel_rfl
section
variable {H:Type} {enc:E6×E8->H} {W:Ez}
instance:Inhabited PN:=⟨⟨0,⟨#[]⟩,0,0,none,0,[],none,0,[]⟩⟩
end
def basesP:List (Int×Int):=[(192,214),(216,246),(248,767),(880,893),(895,8191),(8204,8205),(8304,8591),(11264,12271),(12289,55295),(63744,64975),(65008,65533),(65536,983039)]
def qbz:EE:=basesP.flatMap fun x=>[.int .i32 x.1,.int .i32 x.2]
def inP(r:Int)(x:Int×Int):Bool:=decide (x.1<=r/\r<=x.2)
def letN(r:Int):Bool:=decide (97<=r/\r<=122\/65<=r/\r<=90)
def digN(r:Int):Bool:=decide (48<=r/\r<=57)
def qjx(r:Int):Bool:=letN r||basesP.any (inP r)
def qgo(r:Int):Bool:=qjx r||decide (r=95)
def qds(r:Int):Bool:=qgo r||digN r||decide (r=45\/r=183\/(768<=r/\r<=879)\/(8255<=r/\r<=8256))
def labB(r:Int):Bool:=qgo r||digN r
theorem q4k:∀x∈basesP,128<=x.1:=by decide
theorem qu7:∀i (h:i<basesP.length),qbz[i*2]?=some (.int .i32 basesP[i].1)/\qbz[i*2+1]?=some (.int .i32 basesP[i].2)/\128<=basesP[i].1:=by
 intro i h;refine⟨?_,?_,q4k _ (AT h)⟩
 all_goals
 have h:i<12:=h;obtain rfl|rfl|rfl|rfl|rfl|rfl|rfl|rfl|rfl|rfl|rfl|rfl:i=0\/i=1\/i=2\/i=3\/i=4\/i=5\/i=6\/i=7\/i=8\/i=9\/i=10\/i=11:=by omega
 all_goals rfl
theorem qrg(s:E0)(p:Nat)(hp:p<=s.size)(hs:s.size<=140737488355328)(w:Ez):
  Gv EG 230 [.string s,ii p] w fun v w'=>v=.tuple #[.int .i32 (decN (s.data.toList.drop p)).1,ii (decN (s.data.toList.drop p)).2]/\w'=w:=by
 by_cases h:p<s.size
 ·exact qwb s p h hs w
 ·have e:s.data.toList.drop p=[]:=Be Ys;rw[e];refine ze Tryz.func230 Tryz.ntmps230 ?_;refine zv ?_;exact⟨rfl,rfl⟩
theorem qix(r:Int)(w:Ez):Gv EG 323 [.int .i32 r] w fun v w'=>v=.bool (letN r)/\w'=w:=by
 refine ze Tryz.func323 Tryz.ntmps323 ?_
 (repeat'(first|refine zp ?_|refine zC (fun _=>zw ?_) (fun _=>zw ?_)))
 all_goals(refine⟨Af Value.bool ?_,rfl⟩;rw[AV];simp[letN];try omega)
theorem qcr(r:Int)(w:Ez):Gv EG 283 [.int .i32 r] w fun v w'=>v=.bool (digN r)/\w'=w:=by
 refine ze Tryz.func283 Tryz.ntmps283 ?_;refine zC (fun _=>zu ?_) (fun _=>zu ?_)
 all_goals(refine⟨Af Value.bool ?_,rfl⟩;rw[AV];simp[digN];try omega)
theorem qzz{v:E8}(h:w.cell? ⟨g,0+k,none⟩=some v):w.cell? ⟨g,0+k*1,none⟩=some v:=by rwa[Bk]
theorem qvf{v:E8}(h:w.cell? ⟨g,0+(k+1),none⟩=some v):w.cell? ⟨g,0+(k+1)*1,none⟩=some v:=by rwa[Bk]
theorem q4j(r:Int)(w:Ez)(hT:CellsAt w 6 0 qbz):Gv EG 321 [.int .i32 r] w fun v w'=>v=.bool (qjx r)/\w'=w:=by
 have hlow:r<128->qjx r=letN r:=fun h=>by
  have:basesP.any (inP r)=false:=by
   rw[List.any_eq_false];intro x hx;obtain⟨i,hi,rfl⟩:=Cw.1 hx;have:=(qu7 i hi).2.2;simp[inP];omega
  simp[qjx,this]
 have hhi:128<=r->qjx r=basesP.any (inP r):=fun h=>by
  have:letN r=false:=by simp[letN];omega
  simp[qjx,this]
 refine ze Tryz.func321 Tryz.ntmps321 ?_;refine zC (fun _=>zw ?_) (fun _=>zw ?_)
 ·refine zcv (qix r w) ?_;rintro v w1 ⟨rfl,rfl⟩;(conv=>whnf);exact⟨by rw[hlow Oo],rfl⟩
 ·refine qj (fun i:Nat=>[(0,.int .i32 r),(3,ii (i*2:Nat))]) (fun i w1=>i<=12/\(basesP.take i).any (inP r)=false/\w1=w) (fun i=>12-i) 0 fq ⟨by omega,rfl,rfl⟩ ?_;rintro i w1 ρ' ⟨h1,h2,rfl⟩;(conv=>whnf);refine zC (fun _=>zu ?_) (fun _=>zu ?_)
  ·have hi:i<basesP.length:=show i<12 by omega
   obtain⟨b1,b2,_⟩:=qu7 i hi;have hany:∀c,inP r basesP[i]=c->(basesP.take (i+1)).any (inP r)=c:=fun c hc=>by
    rw[Bm hi,Ek,h2,Ee,hc];simp
   refine LoadV.of (qzz (hT _ _ b1)) (zw ?_);refine zC (fun _=>zu ?_) (fun _=>zu ?_)
   ·refine⟨i*2+1,by omega,by omega,?_⟩;refine zu ?_;refine LoadV.of (qvf (hT _ _ b2)) (zw ?_);refine zt ?_;refine zC (fun _=>zu ?_) (fun _=>zu ?_)
    ·refine⟨Af Value.bool ?_,rfl⟩;rw[hhi Oo];exact(Es.2 ⟨basesP[i],AT hi,by simp[inP];omega⟩).symm
    ·exact⟨i+1,⟨rfl,Af (Value.int .i64) Oo,trivial⟩,⟨by omega,hany _ (by simp[inP];omega),rfl⟩,by omega⟩
   ·exact⟨i+1,⟨rfl,Af (Value.int .i64) Oo,trivial⟩,⟨by omega,hany _ (by simp[inP];omega),rfl⟩,by omega⟩
  ·refine⟨Af Value.bool ?_,rfl⟩;rw[hhi Oo,<-h2,AF (show 12<=i by omega)]
theorem ql4(r:Int)(w:Ez)(hT:CellsAt w 6 0 qbz):Gv EG 282 [.int .i32 r] w fun v w'=>v=.bool (qgo r)/\w'=w:=by
 refine ze Tryz.func282 Tryz.ntmps282 ?_;refine zcv (q4j r w hT) ?_;rintro v w1 ⟨rfl,rfl⟩;(conv=>whnf);unfold qgo;cases qjx r
 ·refine zv ?_
  all_goals(refine⟨Af Value.bool ?_,rfl⟩;rw[AV];simp;try omega)
 ·refine zv ?_
  all_goals(refine⟨Af Value.bool ?_,rfl⟩;rw[AV];simp;try omega)
theorem qqx(r:Int)(w:Ez)(hT:CellsAt w 6 0 qbz):Gv EG 281 [.int .i32 r] w fun v w'=>v=.bool (qds r)/\w'=w:=by
 refine ze Tryz.func281 Tryz.ntmps281 ?_;refine zcv (ql4 r w hT) ?_;rintro v w1 ⟨rfl,rfl⟩;(conv=>whnf);unfold qds;cases qgo r
 ·refine zv ?_;refine zcv (qcr r w1) ?_;rintro v w1 ⟨rfl,rfl⟩;(conv=>whnf);cases digN r
  ·(repeat'(first|refine zp ?_|refine zC (fun _=>zw ?_) (fun _=>zw ?_)))
   all_goals(refine⟨Af Value.bool ?_,rfl⟩;rw[AV];simp;try omega)
  ·refine zv ?_
   all_goals(refine⟨Af Value.bool ?_,rfl⟩;rw[AV];simp;try omega)
 ·refine zv ?_
  all_goals(refine⟨Af Value.bool ?_,rfl⟩;rw[AV];simp;try omega)
theorem qxv(r:Int)(w:Ez)(hT:CellsAt w 6 0 qbz):Gv EG 229 [.int .i32 r] w fun v w'=>v=.bool (labB r)/\w'=w:=by
 refine ze Tryz.func229 Tryz.ntmps229 ?_;refine zcv (ql4 r w hT) ?_;rintro v w1 ⟨rfl,rfl⟩;(conv=>whnf);unfold labB;cases qgo r
 ·refine zv ?_;refine zcv (qcr r w1) ?_;rintro v w1 ⟨rfl,rfl⟩;(conv=>whnf);cases digN r
  ·refine zv ?_
   all_goals(refine⟨Af Value.bool ?_,rfl⟩;rw[AV];simp;try omega)
  ·refine zv ?_
   all_goals(refine⟨Af Value.bool ?_,rfl⟩;rw[AV];simp;try omega)
 ·refine zv ?_
  all_goals(refine⟨Af Value.bool ?_,rfl⟩;rw[AV];simp;try omega)
def okT:Bool->EF->Bool
 | d,[] => !d
 | _,r::l=>(qds r||decide (r=46))&&okT (decide (r=46)) l
def labL:EF->Bool
 | []=>false
 | r::l=>labB r&&okT false l
noncomputable def qb8(s:E0):Bool:=match scal s.data.toList with
 | some l=>labL l
 | none=>false
theorem qwu(h:(decN l).2=0):scal l=none\/l=[]:=by
 cases l with
 | nil=>exact .inr rfl
 | cons a t=>exact .inl (qhy Js h)
noncomputable def qmi(d:Bool)(l:LB):Bool:=match scal l with
 | some l=>okT d l
 | none=>false
theorem q22{d:Bool}(hi:i<=s.size)(h:(decN (s.data.toList.drop i)).2=0):qmi d (s.data.toList.drop i)=decide (i=s.size/\d=false):=by
 rcases qwu h with h1|h1
 ·have hne:i≠s.size:=by
   intro e;rw[Be Ys]at h1;rw[scal]at h1;cases h1
  rw[qmi,h1];simp[hne]
 ·have e:i=s.size:=by
   have:=Af List.length h1;rw[qec]at this;simp at this;omega
  rw[qmi,h1,scal];cases d<;>simp[okT,e]
theorem qnb{d:Bool}(h:(decN l).2≠0):qmi d l=((qds (decN l).1||decide ((decN l).1=46))&&qmi (decide ((decN l).1=46)) (l.drop (decN l).2)):=by
 have hne:l≠[]:=by rintro rfl;exact h rfl
 rw[qmi,qfm hne h,qmi];cases scal (l.drop (decN l).2)with
 | none=>simp
 | some t=>rfl
theorem q1c(s:E0):qb8 s=if(decN s.data.toList).2=0 then false else labB (decN s.data.toList).1&&qmi false (s.data.toList.drop (decN s.data.toList).2):=by
 split
 ·rename_i h
  rcases qwu h with h1|h1
  ·rw[qb8,h1]
  ·rw[qb8,h1,scal];rfl
 ·rename_i h
  have hne:s.data.toList≠[]:=by intro e;rw[e]at h;exact h rfl
  rw[qb8,qfm hne h,qmi];cases scal (s.data.toList.drop (decN s.data.toList).2)with
  | none=>simp
  | some t=>rfl
theorem qabt(s:E0)(hs:s.size<=140737488355328)(w:Ez)(hT:CellsAt w 6 0 qbz):
  Gv EG 228 [.string s,ii 0,.func (.func 229) #[] #[]] w fun v w'=>(∃n:Nat,v=ii n/\qb8 s=decide (n≠0/\n=s.size))/\w'=w:=by
 refine ze Tryz.func228 Tryz.ntmps228 ?_;refine zcv (qrg s 0 (Am _) hs w) ?_;rw[BA];rintro v w1 ⟨rfl,rfl⟩;have hle:=qij s.data.toList;have hsz:s.data.toList.length=s.size:=by simp
 have hL:=q1c s;(conv=>whnf);refine zC (fun _=>zu ?_) (fun _=>zu ?_)
 ·refine⟨⟨0,rfl,?_⟩,rfl⟩;rw[hL,Ad Oo];rfl
 ·rw[Aa Oo]at hL;refine zcv (qxv _ w1 hT) ?_;rintro v w1 ⟨rfl,rfl⟩;cases hb:labB (decN s.data.toList).1
  ·rw[hb]at hL;refine zu ?_;refine⟨⟨0,rfl,?_⟩,rfl⟩;rw[hL];rfl
  ·rw[hb]at hL;refine zu ?_;refine qj (fun x:Nat×Nat=>[(0,.string s),(1,ii 0),(9,ii x.2),(10,ii x.1)])
    (fun x w2=>x.1<=s.size/\x.2<=x.1/\0<x.2/\qb8 s=qmi (decide (x.2≠x.1)) (s.data.toList.drop x.1)/\w2=w1) (fun x=>s.size-x.1) ((decN s.data.toList).2,(decN s.data.toList).2) ⟨rfl,rfl,by exact Af (Value.int .i64) (Int.zero_add _),by exact Af (Value.int .i64) (Int.zero_add _),trivial⟩ ⟨by simp only;omega,by simp,by simp only;omega,by simpa using hL,rfl⟩ ?_
   rintro⟨i,e⟩ w2 ρ' ⟨h1,h2,h3,h4,rfl⟩;simp only at h1 h2 h3 h4;(conv=>whnf);refine zcv (qrg s i h1 hs w2) ?_;rintro v w2 ⟨rfl,rfl⟩;have hle:=qij (s.data.toList.drop i);rw[qec]at hle;conv=>whnf
   (repeat'(first|refine zp ?_|refine zC (fun _=>zw ?_) (fun _=>zw ?_)))
   ·refine⟨⟨e,Af (Value.int .i64) (Int.sub_zero _),?_⟩,rfl⟩;rw[h4,q22 h1 Oo]
    by_cases he:e=i
    ·subst he;simp;omega
    ·simp[he];omega
   ·have h5:=qnb (d:=decide (e≠i)) (l:=s.data.toList.drop i) Oo;rw[h5,AH (show ¬(decN (s.data.toList.drop i)).1=46 by omega),Bool.or_false,AM]at h4;refine zcv (qqx _ w2 hT) ?_;rintro v w2 ⟨rfl,rfl⟩;cases hf:qds (decN (s.data.toList.drop i)).1
    ·rw[hf]at h4;refine zu ?_;refine⟨⟨e,Af (Value.int .i64) (Int.sub_zero _),?_⟩,rfl⟩;rw[h4];simp;omega
    ·rw[hf]at h4;refine zu ?_
     ·exact⟨(i+(decN (s.data.toList.drop i)).2,i+(decN (s.data.toList.drop i)).2),fq,⟨by simp only;omega,Aq _,by simp only;omega,by simpa using h4,rfl⟩,by simp only;omega⟩
   ·have h5:=qnb (d:=decide (e≠i)) (l:=s.data.toList.drop i) Oo;rw[h5,Az (show(decN (s.data.toList.drop i)).1=46 by omega),Ew,Dh,AM]at h4;refine⟨(i+(decN (s.data.toList.drop i)).2,e),fq,⟨by simp only;omega,by simp only;omega,h3,?_,rfl⟩,by simp only;omega⟩;rw[h4]
    congr 1
    exact(Az (by simp only;omega)).symm
theorem qs8(s:E0)(hs:s.size<=140737488355328)(w:Ez)(hT:CellsAt w 6 0 qbz):
  Gv EG 180 [.string s,ii 0] w fun v w'=>(∃n:Nat,v=ii n/\qb8 s=decide (n≠0/\n=s.size))/\w'=w:=by
 refine ze Tryz.func180 Tryz.ntmps180 ?_;refine zcv (qabt s hs w hT) ?_;rintro v w' ⟨⟨n,rfl,h⟩,rfl⟩;(conv=>whnf);exact⟨⟨n,rfl,h⟩,rfl⟩
noncomputable def labE(s:E0):Nat:=if qb8 s=true then 0 else 60
theorem q1d(s:E0)(hs:s.size<=140737488355328)(w:Ez)(hT:CellsAt w 6 0 qbz):
  Gv EG 115 [.string s] w fun v w'=>v=ii (labE s)/\w'=w:=by
 refine ze Tryz.func115 Tryz.ntmps115 ?_;refine zcv (qs8 s hs w hT) ?_;rintro v w' ⟨⟨n,rfl,h⟩,rfl⟩;(conv=>whnf);unfold labE;rw[h]
 (repeat'(first|refine zp ?_|refine zC (fun _=>zw ?_) (fun _=>zw ?_)))
 ·rw[Aa Ys];exact⟨rfl,rfl⟩
 ·rw[Aa Ys];exact⟨rfl,rfl⟩
 ·rw[Ad Ys];exact⟨rfl,rfl⟩
def encL(r:Nat):LB:=
 if r<0x80 then[UInt8.ofNat r]
 else if r<0x800 then[UInt8.ofNat (0xC0+r/64),UInt8.ofNat (0x80+r%64)]
 else if r<0x10000 then[UInt8.ofNat (0xE0+r/4096),UInt8.ofNat (0x80+r/64%64),UInt8.ofNat (0x80+r%64)]
 else[UInt8.ofNat (0xF0+r/262144),UInt8.ofNat (0x80+r/4096%64),UInt8.ofNat (0x80+r/64%64),UInt8.ofNat (0x80+r%64)]
theorem q8q(n:Nat)(h:n<256):((UInt8.ofNat n).toNat:Int)=n:=by rw[CH];omega
namespace V
theorem Rw.setCell{v:E8}{size n:Nat}(h:Rw w0 w v e size n xs L){t:E6}{fr:Nat×Nat}(hi:L[i]?=some (b,.cells cs t fr))(hw:w'=w.setCell ⟨b,off,none⟩ x):Rw w0 w' v e size n xs (L.set i (b,.cells (cs.setIfInBounds off x) t fr)):=by
 have hm:=h.mem.setCell hi hw;have hb:v.ownBlock≠some b:=h.apart _ (zmg hi);refine⟨hm,?_,fun y hy=>?_⟩
 ·subst hw;refine h.own.kept (row:=some b) ⟨rfl,rfl,rfl,by simp[World.setCell],fun k _ hk=>Below.heap_setCell _ _ _ _ (fun e=>hk (by simp[e]))⟩ ?_;exact Or.inr hb
 ·rcases Dp hy with hy|rfl
  ·exact h.apart y hy
  ·exact hb
def qmm(e:E6)(L:ED):Prop:=∀x∈L,∀c fz,x.2≠.cells c e fz
theorem AppV.rwS{v:E8}{n:Nat}{t u:E6}{i:TypeInfo}(ht:P.underlying t=some (.slice e))(hu:P.underlying u=some .string)(hi:P.info? e=some i)(hz:i.zero=some (.int .u8 0))(hsize:i.size=1)(hby:i.bytes=1)(h:Rw w0 w v e 1 n xs L)(hL:qmm e L)(hb:n+s.size<=140737488355328)(hk:∀v' w',Rw w0 w' v' e 1 (n+s.size) (xs++byteCells s.data.toList) L->K v' w'):AppV P #[t,u] ty v (.string s) w K:=by
 obtain⟨v',w',hrun,h2,h3,_⟩:=Lib.run_append_own_string (P:=P) w w0.heap.size t u ty e i ht hu hi hz hsize hby v n xs h.own s (by simp only[maxLen];omega) hb h.mem.ext.size;have hm:=h.grown h3 (fun k hk=>⟨(h.own.lt k hk).1,fun x hx e=>h.apart x hx (by rw[hk,e])⟩);refine⟨v',w',hrun,hk _ _ ⟨hm,h2,fun x hx he=>?_⟩⟩;have hx':=hm.get hx
 rcases h2.2 with⟨rfl,_⟩|⟨g,cap,cur,rfl,_,hg,_⟩
 ·cases he
 ·cases he;rw[hx']at hg;exact hL x hx _ _ (BB hg)
theorem Fall.conv{src dst:E6}{x:Operand}(ho:o.op=.convert src dst x)(hr:(convert src dst (ev ρ x)).run P w=.ok u w)(hk:K u w):Fall P (execOp (ev ρ) o) w K:=by
 refine⟨.inl ⟨u,w,?_,hk⟩⟩;simp[execOp,ho,hr]
theorem RunV.neqSame{t te:E6}{j:TypeInfo}(a:Addr)(hp:P.underlying t=some (.pointer te))(hte:P.info? te=some j)(hk:K (.bool false) w):
  RunV P (do eqGuard .neq t xo yo (.pointer (some a)) (.pointer (some a));binOp .neq t (.pointer (some a)) (.pointer (some a))) w K:=by
 refine⟨.bool false,w,?_,hk⟩;simp[eqGuard,Lib.run_neq_ptr_same w a hp hte]
def BldB(b:Nat)(p v:E8):Nat×Obj:=(b,.cells #[p,v] 358)
structure Bld(w0 w:Ez)(b:Nat)(l:LB)(L:ED):Prop where
 h:∃p v,(p=.pointer none\/p=pp b)/\Rw w0 w v 5 1 l.length (byteCells l) (BldB b p v::L)
end V
theorem qn6(b:Nat)(p v:E8)(w0 w:Ez)(L:ED)(hp:p=.pointer none\/p=pp b)(h:Mem w0 w (BldB b p v::L)):
  Gv EG 315 [pp b] w fun r w'=>r=.tuple #[]/\((p=pp b/\w'=w)\/w'=w.setCell ⟨b,0,none⟩ (pp b)):=by
 have hc:w.cell? ⟨b,0,none⟩=some p:=by rw[qa (h.get mh)];rfl
 have hsh:w.shape? b=some (358,2):=by simp[World.shape?,h.get mh]
 rcases hp with rfl|rfl
 ·refine ze Tryz.func315 Tryz.ntmps315 ?_;refine LoadV.of hc (zu ?_);refine Fall.conv rfl (Lib.run_to_unsafe (t:=358) (e:=358) (cells:=2) _ _ Tryz.underlying356 Tryz.underlying303 (j:=_) (Bn Jk).symm (by decide +kernel) hsh (DJ 1)) (zw ?_);refine⟨.inr ⟨pp b,w,by rw[run_callFunc_extern Tryz.func333 Jk Jk Jk (e:=Extern.AbiNoEscape.same) Jk];rfl,?_⟩⟩;(conv=>whnf);refine Fall.conv rfl (Lib.run_from_unsafe (u:=358) (e:=358) (cells:=2) _ _ Tryz.underlying303 Tryz.underlying356 (j:=_) (Bn Jk).symm hsh Jk) (zw ?_);refine StoreV.own (h.get mh) (DJ 1) rfl fun w' hw=>?_;(conv=>whnf);exact⟨rfl,.inr hw⟩
 ·refine ze Tryz.func315 Tryz.ntmps315 ?_;refine LoadV.of hc (zw ?_);refine zt ?_;refine LoadV.mem (i:=0) Oa rfl rfl (zw ?_);refine RunV.neqSame _ Tryz.underlying356 (j:=_) rfl (zu ?_);exact⟨rfl,.inl ⟨rfl,rfl⟩⟩
theorem qbt(a b:LB):byteCells (a++b)=byteCells a++byteCells b:=by simp[byteCells]
theorem qid(a:LB):(byteCells a).length=a.length:=by simp[byteCells]
theorem qhe(he:qdc P f=true)(h:Calls P f vs.toArray w fun e w'=>∃v,e=.returned v/\R v w'):Gv P f vs w R:=⟨he,h⟩
theorem qx4{p v:E8}(hL:qmm 5 L):qmm 5 (BldB b p v::L):=by
 intro x hx c fz
 rcases AD.1 hx with rfl|hx
 ·intro e;cases e
 ·exact hL x hx c fz
theorem qdi(b:Nat)(l:LB)(s:E0)(w0 w:Ez)(L:ED)(h:Bld w0 w b l L)(hL:qmm 5 L)(hs:l.length+s.size<=140737488355328):
  Gv EG 268 [pp b,.string s] w fun r w'=>r=.tuple #[ii s.size,.nilIface]/\Bld w0 w' b (l++s.data.toList) L:=by
 obtain⟨p,v,hp,hR⟩:=h;have hcc:=qn6 b p v w0 w L hp hR.mem;obtain⟨A,c,rfl⟩:=hR.slice;refine ze Tryz.func268 Tryz.ntmps268 ?_;refine zcv (hcc) ?_;rintro r w1 ⟨rfl,hw⟩;have hR1:Rw w0 w1 (.slice A l.length c) 5 1 l.length (byteCells l) (BldB b (pp b) (.slice A l.length c)::L):=by
  rcases hw with⟨rfl,rfl⟩|hw
  ·exact hR
  ·exact hR.setCell (i:=0) rfl hw
 (conv=>whnf);refine LoadV.own (hR1.mem.get mh) rfl (zw ?_);refine AppV.rwS (i:=_) Tryz.underlying60 Tryz.underlying9 (Bn Jk).symm Jk Jk Jk hR1 (qx4 hL) hs fun v' w2 hR2=>?_;obtain⟨A',c',rfl⟩:=hR2.slice;(conv=>whnf);refine StoreV.own (hR2.mem.get mh) (Dk 1) rfl fun w3 hw=>?_;have hR3:=hR2.setCell (i:=0) rfl hw;(conv=>whnf);refine⟨rfl,⟨⟨pp b,.slice A' (l.length+s.size) c',.inr rfl,?_⟩⟩⟩;have e:(l++s.data.toList).length=l.length+s.size:=by simp
 rw[e,qbt];exact hR3
theorem qic(b:Nat)(l:LB)(w0 w:Ez)(L:ED)(h:Bld w0 w b l L):
  Gv EG 270 [pp b] w fun r w'=>r=.string ⟨l.toArray⟩/\Ext w0 w':=by
 obtain⟨p,v,hp,hR⟩:=h;have hb:=hR.mem.own _ mh;have key:Lib.BuilderAt 358 5 w0.heap.size b p (Lib.byteCells l) w:=by
  refine⟨hb.1,v,hb.2,?_,hR.apart _ mh⟩;have:=hR.own;rw[<-qid l]at this;exact this
 refine qhe Jk ((Tryz.Builder_String_any w0.heap.size b l w ?_ hR.mem.ext.size).mono ?_)
 ·rcases hp with rfl|rfl
  ·exact .inl key
  ·exact .inr key
 ·rintro e w' ⟨rfl,hB⟩;exact⟨_,rfl,rfl,Below.trans hR.mem.ext hB⟩
theorem qmv(l:LB)(h:(decN l).2≠0):
  (∃a t,l=a::t/\decN l=(a.toNat,1)/\a.toNat<128)\/
  (∃a b t,l=a::b::t/\decN l=(a.toNat%32*64+b.toNat%64,2)/\192<=a.toNat/\a.toNat<224/\b.toNat/64=2/\128<=a.toNat%32*64+b.toNat%64)\/
  (∃a b c t,l=a::b::c::t/\decN l=((a.toNat%16*64+b.toNat%64)*64+c.toNat%64,3)/\224<=a.toNat/\a.toNat<240/\b.toNat/64=2/\c.toNat/64=2/\
   2048<=(a.toNat%16*64+b.toNat%64)*64+c.toNat%64/\qap (((a.toNat%16*64+b.toNat%64)*64+c.toNat%64:Nat):Int)=true)\/
  (∃a b c d t,l=a::b::c::d::t/\decN l=(((a.toNat%8*64+b.toNat%64)*64+c.toNat%64)*64+d.toNat%64,4)/\240<=a.toNat/\a.toNat<248/\b.toNat/64=2/\c.toNat/64=2/\d.toNat/64=2/\
   65536<=((a.toNat%8*64+b.toNat%64)*64+c.toNat%64)*64+d.toNat%64/\qap ((((a.toNat%8*64+b.toNat%64)*64+c.toNat%64)*64+d.toNat%64:Nat):Int)=true):=by
 match l with
 | []=>exact absurd rfl h
 | a::t=>
  have ha:=a.toNat_lt;generalize hd:decN (a::t)=d at h|-;unfold decN at hd
  by_cases h1:a.toNat<128
  ·have e:qbo a.toNat=(1,a.toNat):=by rw[qbo,Ad h1]
   simp only[e,CE,Bz,D6,if_true,accR,CZ,qew]at hd;rw[Aa Js]at hd
   left
   refine⟨a,t,rfl,?_,h1⟩;have hs:qap (a.toNat:Int)=true:=by simp[qap];omega
   rw[hs]at hd
   simpa using hd.symm
  by_cases h2:a.toNat<192
  ·have e:qbo a.toNat=(0,0):=by rw[qbo,Aa h1,Ad h2]
   simp[e]at hd;rw[<-hd]at h;exact absurd rfl h
  by_cases h3:a.toNat<224
  ·have e:qbo a.toNat=(2,a.toNat%32):=by rw[qbo,Aa h1,Aa h2,Ad h3]
   match t with
   | []=>simp[e]at hd;rw[<-hd]at h;exact absurd rfl h
   | b::t=>
    simp only[e,BU,Bz,Di,D6,Dy,accR,CO,CZ,As,Nat.reduceSub]at hd;rw[Aa Oo]at hd;cases hc:cont b<;>simp only[hc]at hd
    ·simp at hd;rw[<-hd]at h;exact absurd rfl h
    ·rw[Ad True.intro]at hd
     split at hd
     ·rw[<-hd]at h;exact absurd rfl h
     ·rename_i hn
      right;left
      simp[cont]at hc;refine⟨a,b,t,rfl,hd.symm,by omega,h3,hc,?_⟩;have h2k:qew 2=128:=rfl;rw[h2k]at hn;omega
  by_cases h4:a.toNat<240
  ·have e:qbo a.toNat=(3,a.toNat%16):=by rw[qbo,Aa h1,Aa h2,Aa h3,Ad h4]
   match t with
   | []=>simp[e]at hd;rw[<-hd]at h;exact absurd rfl h
   | [b]=>simp[e]at hd;rw[<-hd]at h;exact absurd rfl h
   | b::c::t=>
    simp only[e,BU,Bz,Di,D6,Dy,accR,CO,CZ,As,Nat.reduceSub]at hd;rw[Aa Oo]at hd;cases hc:cont b&&cont c<;>simp only[hc]at hd
    ·simp at hd;rw[<-hd]at h;exact absurd rfl h
    ·rw[Ad True.intro]at hd
     split at hd
     ·rw[<-hd]at h;exact absurd rfl h
     ·rename_i hn
      right;right;left
      simp[cont]at hc;simp only[not_or,Bool.not_eq_false]at hn;refine⟨a,b,c,t,rfl,hd.symm,by omega,h4,hc.1,hc.2,?_,hn.2⟩;have:=hn.1;have h2k:qew 3=2048:=rfl;omega
  by_cases h5:a.toNat<248
  ·have e:qbo a.toNat=(4,a.toNat%8):=by rw[qbo,Aa h1,Aa h2,Aa h3,Aa h4,Ad h5]
   match t with
   | []=>simp[e]at hd;rw[<-hd]at h;exact absurd rfl h
   | [b]=>simp[e]at hd;rw[<-hd]at h;exact absurd rfl h
   | [b,c]=>simp[e]at hd;rw[<-hd]at h;exact absurd rfl h
   | b::c::d::t=>
    simp only[e,BU,Bz,Di,D6,Dy,accR,CO,CZ,As,Nat.reduceSub]at hd;rw[Aa Oo]at hd;cases hc:cont b&&(cont c&&cont d)<;>simp only[hc]at hd
    ·simp at hd;rw[<-hd]at h;exact absurd rfl h
    ·rw[Ad True.intro]at hd
     split at hd
     ·rw[<-hd]at h;exact absurd rfl h
     ·rename_i hn
      right;right;right
      simp[cont]at hc;simp only[not_or,Bool.not_eq_false]at hn;refine⟨a,b,c,d,t,rfl,hd.symm,by omega,h5,hc.1,hc.2.1,hc.2.2,?_,hn.2⟩;have:=hn.1;have h2k:qew 4=65536:=rfl;omega
  ·have e:qbo a.toNat=(0,0):=by rw[qbo,Aa h1,Aa h2,Aa h3,Aa h4,Aa h5]
   simp[e]at hd;rw[<-hd]at h;exact absurd rfl h
theorem qpz(n:Nat)(a:E7)(h:n=a.toNat):UInt8.ofNat n=a:=by subst h;simp
theorem q4z(h:(decN l).2≠0):qap (decN l).1=true/\encL (decN l).1=l.take (decN l).2/\(encL (decN l).1).length=(decN l).2:=by
 rcases qmv l h with⟨a,t,rfl,e,h1⟩|⟨a,b,t,rfl,e,h1,h2,h3,h4⟩|⟨a,b,c,t,rfl,e,h1,h2,h3,h4,h5,h6⟩|⟨a,b,c,d,t,rfl,e,h1,h2,h3,h4,h5,h6,h7⟩
 ·rw[e];simp only;have hs:qap (a.toNat:Int)=true:=by simp[qap];omega
  refine⟨hs,?_⟩;unfold encL;rw[Ad h1];simp
 ·rw[e];simp only;have ha:=a.toNat_lt;have hb:=b.toNat_lt;refine⟨by simp[qap];omega,?_⟩;unfold encL;rw[Aa Oo,Ad Oo];rw[qpz _ a Oo,qpz _ b Oo];simp
 ·rw[e];simp only;have ha:=a.toNat_lt;have hb:=b.toNat_lt;have hc:=c.toNat_lt;refine⟨h6,?_⟩;unfold encL;rw[Aa Oo,Aa Oo,Ad Oo];rw[qpz _ a Oo,qpz _ b Oo,qpz _ c Oo];simp
 ·rw[e];simp only;have ha:=a.toNat_lt;have hb:=b.toNat_lt;have hc:=c.toNat_lt;have hd:=d.toNat_lt;refine⟨h7,?_⟩;unfold encL;rw[Aa Oo,Aa Oo,Aa Oo];rw[qpz _ a Oo,qpz _ b Oo,qpz _ c Oo,qpz _ d Oo];simp
namespace V
theorem NewV.rw{v:E8}{size n:Nat}{o:Obj}{K:Nat->EC}(h:Rw w0 w v e size n xs L)(hk:∀b w',Rw w0 w' v e size n xs ((b,o)::L)->K b w'):NewV w o K:=
 ⟨fun b w' hb hw=>hk b w' (h.newBlk hb hw)⟩
theorem Bld.ext(h:Bld w0 w b l L):Ext w0 w:=by
 obtain⟨⟨p,v,hp,hR⟩⟩:=h;exact hR.mem.ext
end V
theorem BytesS.all{n:Nat}{K:E8->Prop}(h:CellsAt w b 0 (byteCells l))(hn:l.length=n)(hk:K (.string ⟨l.toArray⟩)):BytesS w (some ⟨b,0,none⟩) n K:=
 ⟨l,hn,fun _=>⟨b,0,rfl,h⟩,hk⟩
def alnB(pure:Bool)(c:E7):Bool:=letN c.toNat||(!pure&&digN c.toNat)
def q6(s:E0)(lo hi:Nat)(pure:Bool):Bool:=s.data.toList.all (alnB pure)&&decide (lo<=s.size/\s.size<=hi)
theorem qdm(s:E0)(lo hi:Nat)(pure:Bool)(hs:s.size<=140737488355328)(w:Ez):
  Gv EG 289 [.string s,ii lo,ii hi,.bool pure] w fun v w'=>v=.bool (q6 s lo hi pure)/\Ext w w':=by
 refine ze Tryz.func289 Tryz.ntmps289 ?_;refine znm (Mem.nil w) fun b w1 hm=>zw ?_;refine qj (fun pos:Nat=>[(0,.string s),(1,ii lo),(2,ii hi),(3,.bool pure),(12,pp b)])
  (fun pos w2=>pos<=s.size/\Mem w w2 [(b,.stringIter s pos)]/\s.data.toList.all (alnB pure)=(s.data.toList.drop pos).all (alnB pure)) (fun pos=>s.size-pos) 0 fq ⟨by omega,hm,rfl⟩ ?_
 rintro pos w2 ρ' ⟨hp,hm,ha⟩;(conv=>whnf);refine NextS.mem hm (i:=0) rfl ?_ ?_
 ·intro hlt w3 hm3;have hno:alnB pure (gb s pos)=false->q6 s lo hi pure=false:=fun h=>by
   rw[q6,ha,qay s pos hlt,Di,h];rfl
  have hyes:alnB pure (gb s pos)=true->s.data.toList.all (alnB pure)=(s.data.toList.drop (pos+1)).all (alnB pure):=fun h=>by
   rw[ha,qay s pos hlt,Di,h];rfl
  by_cases hb:(gb s pos).toNat<128
  ·have hd:=qik s pos hb;rw[hd]at hm3|-;simp only at hm3|-;refine zu ?_;refine zcv (qix _ w3) ?_;rintro v w4 ⟨rfl,rfl⟩;cases hl:letN (gb s pos).toNat
   ·cases pure
    ·refine zu ?_;refine zcv (qcr _ w4) ?_;rintro v w5 ⟨rfl,rfl⟩;cases hg:digN (gb s pos).toNat
     ·have hx:alnB false (gb s pos)=false:=by rw[alnB,hl,hg];rfl
      refine zu ?_;exact⟨by rw[hno hx],hm3.ext⟩
     ·have hx:alnB false (gb s pos)=true:=by rw[alnB,hl,hg];rfl
      refine zu ?_;exact⟨pos+1,fq,⟨by omega,hm3,hyes hx⟩,by omega⟩
    ·have hx:alnB true (gb s pos)=false:=by rw[alnB,hl];rfl
     refine zu ?_;exact⟨by rw[hno hx],hm3.ext⟩
   ·have hx:alnB pure (gb s pos)=true:=by rw[alnB,hl];rfl
    refine zu ?_;exact⟨pos+1,fq,⟨by omega,hm3,hyes hx⟩,by omega⟩
  ·have hd:=qku s pos hlt Oo;obtain⟨d1,d2,d3,d4,d5⟩:=hd;have hl:letN (Utf8.decode s pos).1=false:=by simp[letN];omega
   have hg:digN (Utf8.decode s pos).1=false:=by simp[digN];omega
   have hx:alnB pure (gb s pos)=false:=by
    simp[alnB,letN,digN];omega
   refine zu ?_;refine zcv (qix _ w3) ?_;rintro v w4 ⟨rfl,rfl⟩;rw[hl];cases pure
   ·refine zu ?_;refine zcv (qcr _ w4) ?_;rintro v w5 ⟨rfl,rfl⟩;rw[hg];refine zu ?_;exact⟨by rw[hno hx],hm3.ext⟩
   ·refine zu ?_;exact⟨by rw[hno hx],hm3.ext⟩
 ·intro hge;rw[Be Ys]at ha;have hM:q6 s lo hi pure=decide (lo<=s.size/\s.size<=hi):=by rw[q6,ha];rfl
  (conv=>whnf);refine zt ?_;refine zC (fun _=>zu ?_) (fun _=>zu ?_)
  ·exact⟨Af Value.bool (by rw[hM,AV];simp;omega),hm.ext⟩
  ·exact⟨Af Value.bool (by rw[hM,eq_comm,decide_eq_false_iff_not];omega),hm.ext⟩
def qe0(s:E0):Bool:=decide (s=⟨#[120]⟩\/s=⟨#[88]⟩)
theorem q8j{a b:E0}(h:a≠b):seq a b=false:=Bx.2 fun e=>h (qac.1 e)
theorem qgw(s:E0)(w:Ez):Gv EG 233 [.string s] w fun v w'=>v=.bool (qe0 s)/\w'=w:=by
 refine ze Tryz.func233 Tryz.ntmps233 ?_
 by_cases h:s=⟨#[120]⟩
 ·refine Tst.yes (qac.2 h) (zu ?_);exact⟨Af Value.bool (Az (.inl h)).symm,rfl⟩
 ·refine Tst.no (q8j h) (zu ?_)
  by_cases h2:s=⟨#[88]⟩
  ·refine⟨Af Value.bool ?_,rfl⟩;rw[qac.2 h2,qe0,Az (.inr h2)]
  ·refine⟨Af Value.bool ?_,rfl⟩;rw[q8j h2,qe0,AH (by simp[h,h2])]
theorem qxb(c:E7):IntKind.i32.wrap (c.toNat:Int)=(c.toNat:Int):=by
 have:=c.toNat_lt;simp[IntKind.wrap,IntKind.signed,IntKind.bits];omega
def varB(s:E0):Bool:=q6 s 5 8 false||(q6 s 4 4 false&&digN (gb s 0).toNat)
def regB(s:E0):Bool:=q6 s 2 2 true||(decide (s.size=3)&&digN (gb s 0).toNat&&digN (gb s 1).toNat&&digN (gb s 2).toNat)
theorem qur(s:E0)(hs:s.size<=140737488355328)(w:Ez):Gv EG 293 [.string s] w fun v w'=>v=.bool (varB s)/\Ext w w':=by
 have h1:=fun w=>qdm s 5 8 false hs w
 have h2:=fun w=>qdm s 4 4 false hs w
 refine ze Tryz.func293 Tryz.ntmps293 ?_;refine zcv (h1 w) ?_;rintro v w1 ⟨rfl,he1⟩;cases m1:q6 s 5 8 false
 ·refine zu ?_;refine zcv (h2 w1) ?_;rintro v w2 ⟨rfl,he2⟩;cases m2:q6 s 4 4 false
  ·refine zu ?_;exact⟨by rw[varB,m1,m2];rfl,he1.trans he2⟩
  ·have hsz:s.size=4:=by
    simp[q6]at m2;omega
   refine zu ?_;refine⟨0,rfl,by omega,?_⟩;refine zu ?_;refine⟨((gb s 0).toNat:Int),qxb _,?_⟩;refine zu ?_;refine zcv (qcr _ w2) ?_;rintro v w3 ⟨rfl,rfl⟩;refine zu ?_;exact⟨by rw[varB,m1,m2];rfl,he1.trans he2⟩
 ·refine zu ?_;exact⟨by rw[varB,m1];rfl,he1⟩
theorem qyt(s:E0)(hs:s.size<=140737488355328)(w:Ez):Gv EG 292 [.string s] w fun v w'=>v=.bool (regB s)/\Ext w w':=by
 have h1:=fun w=>qdm s 2 2 true hs w
 refine ze Tryz.func292 Tryz.ntmps292 ?_;refine zcv (h1 w) ?_;rintro v w1 ⟨rfl,he1⟩;cases m1:q6 s 2 2 true
 ·(conv=>whnf);refine zt ?_;refine zC (fun _=>zu ?_) (fun _=>zu ?_)
  ·refine⟨0,rfl,by omega,?_⟩;refine zu ?_;refine⟨((gb s 0).toNat:Int),qxb _,?_⟩;refine zu ?_;refine zcv (qcr _ w1) ?_;rintro v w2 ⟨rfl,rfl⟩;have h3:decide (s.size=3)=true:=Az Oo;cases d0:digN (gb s 0).toNat
   ·refine zu ?_;exact⟨by rw[regB,m1,d0,D2];rfl,he1⟩
   ·refine zu ?_;refine⟨1,rfl,by omega,?_⟩;refine zu ?_;refine⟨((gb s 1).toNat:Int),qxb _,?_⟩;refine zu ?_;refine zcv (qcr _ w2) ?_;rintro v w3 ⟨rfl,rfl⟩;cases d1:digN (gb s 1).toNat
    ·refine zu ?_;exact⟨by rw[regB,m1,d1,D2];rfl,he1⟩
    ·refine zu ?_;refine⟨2,rfl,by omega,?_⟩;refine zu ?_;refine⟨((gb s 2).toNat:Int),qxb _,?_⟩;refine zu ?_;refine zcv (qcr _ w3) ?_;rintro v w4 ⟨rfl,rfl⟩;refine zu ?_;exact⟨by rw[regB,m1,d0,d1,h3];rfl,he1⟩
  ·have h3:decide (s.size=3)=false:=AH Oo;exact⟨by rw[regB,m1,h3];rfl,he1⟩
 ·refine zu ?_;exact⟨by rw[regB,m1];rfl,he1⟩
def lowB(c:E7):E7:=if 65<=c.toNat/\c.toNat<=90 then c+32 else c
def lowS(s:E0):E0:=⟨(s.data.toList.map lowB).toArray⟩
def qdt(l:LB)(i:Nat)(z:EE):EH:=(byteCells ((l.take i).map lowB++l.drop i)++z).toArray
theorem qhj{z:EE}(h:i<l.length):(qdt l i z)[i]?=some (.int .u8 l[i].toNat):=by
 unfold qdt byteCells;rw[Ar,AQ Ys,Ao,AR Ys];simp[Dd (Nat.le_of_lt h),h]
theorem qm1(l:LB)(i:Nat)(z:EE)(h:i<=l.length):(qdt l i z).size=l.length+z.length:=by
 simp[qdt,byteCells];omega
theorem qq8{z:EE}(h:i<l.length):(qdt l i z).setIfInBounds i (.int .u8 (lowB l[i]).toNat)=qdt l (i+1) z:=by
 have e:byteCells ((l.take (i+1)).map lowB++l.drop (i+1))++z=byteCells ((l.take i).map lowB)++(.int .u8 (lowB l[i]).toNat::(byteCells (l.drop (i+1))++z)):=by
  rw[Bm h];simp only[byteCells,AB,AO,BM,Ak,BL,Br]
 have e2:byteCells ((l.take i).map lowB++l.drop i)++z=byteCells ((l.take i).map lowB)++(.int .u8 l[i].toNat::(byteCells (l.drop (i+1))++z)):=by
  rw[Bu h];simp only[byteCells,AB,AO,Ak,BL]
 unfold qdt;rw[e,e2,List.setIfInBounds_toArray]
 congr 1
 have hl:(byteCells ((l.take i).map lowB)).length=i:=by simp[byteCells];omega
 rw[DZ _ _ Oo,hl,CE];rfl
theorem qiy{z:EE}(h:i<l.length)(hs:lowB l[i]=l[i]):qdt l i z=qdt l (i+1) z:=by
 unfold qdt;rw[Bm h,Bu h];simp only[byteCells,AB,AO,BM,Ak,BL,Br,hs]
theorem qoz(c:E7)(h:65<=c.toNat/\c.toNat<=90):((lowB c).toNat:Int)=(c.toNat:Int)+32:=by
 rw[lowB,Ad h,UInt8.toNat_add];have:(32:E7).toNat=32:=rfl;omega
theorem qo0(c:E7)(h:¬(65<=c.toNat/\c.toNat<=90)):lowB c=c:=by rw[lowB,Aa h]
theorem V.StoreV.memF{t:E6}{v:E8}{K:EC}(h:Mem w0 w L)(hi:L[i]?=some (b,.cells cs t (m,m+1)))(ho:off<cs.size)(hom:off<m)(h1:qcx v=true)(hk:∀w',Mem w0 w' (L.set i (b,.cells (cs.setIfInBounds off v) t (m,m+1)))->K w'):StoreV w b off v K:=by
 have hg:=h.get (zmg hi);refine⟨⟨cs[off],?_⟩,?_,h1,hk _ (h.setCell hi rfl)⟩
 ·rw[qa hg];exact Aj ho
 ·simp[World.frozen?,hg];omega
theorem qq7(w:Ez){z:EE}{t:E6}{K:E8->Prop}(hm:Mem w0 w ((b,.cells (qdt s.data.toList s.size z) t (m,m+1))::L))(hk:K (.string (lowS s))):BytesS w (some ⟨b,0,none⟩) s.size K:=by
 refine⟨s.data.toList.map lowB,by simp,fun _=>⟨b,0,rfl,fun k v hv=>?_⟩,hk⟩;rw[qa (hm.get mh),Aw];have e:(qdt s.data.toList s.size z)=(byteCells (s.data.toList.map lowB)++z).toArray:=by
  unfold qdt;rw[AF Js,Be Js,AI]
 rw[e,Ar,AQ (Ae.1 hv).1];exact hv
theorem qe8(s:E0)(hs:s.size<=140737488355328)(w:Ez):Gv EG 183 [.string s] w fun v w'=>v=.string (lowS s)/\Ext w w':=by
 have hsz:s.data.toList.length=s.size:=by simp
 refine ze Tryz.func183 Tryz.ntmps183 ?_;refine⟨fun cap cs b w1 hcap hcs hb hw1=>?_⟩;obtain⟨z,hz⟩:∃z,z=List.replicate (cap-s.size) (Value.int .u8 0):=⟨_,rfl⟩
 obtain⟨m,hmm⟩:∃m,m=cs.size:=⟨_,rfl⟩
 have hms:s.size<=m:=by rw[hmm,hcs];simp[byteCells]
 have hm:Mem w w1 [(b,.cells (qdt s.data.toList 0 z) 5 (m,m+1))]:=by
  rw[hmm];have e:qdt s.data.toList 0 z=cs:=by rw[hcs,hz];simp[qdt]
  rw[e];exact(Mem.nil w).drew.new hb hw1
 clear hcs hb hw1 hmm hz;(conv=>whnf);refine qj (fun i:Nat=>[(3,.slice (some ⟨b,0,none⟩) s.size cap),(8,.slice (some ⟨b,0,none⟩) s.size cap),(9,ii s.size),(10,ii i)]) (fun i w2=>i<=s.size/\Mem w w2 [(b,.cells (qdt s.data.toList i z) 5 (m,m+1))]) (fun i=>s.size-i) 0 fq ⟨by omega,hm⟩ ?_;rintro i w2 ρ' ⟨h1,hm⟩;(conv=>whnf);refine zC (fun _=>zw ?_) (fun _=>zw ?_)
 ·have hi:i<s.data.toList.length:=by omega
  refine ElemV.own1 i rfl Oo (zw ?_);refine LoadV.mem hm (i:=0) rfl (qhj hi) (zw ?_)
  (repeat'(first|refine zp ?_|refine zC (fun _=>zw ?_) (fun _=>zw ?_)))
  ·refine ElemV.own1 i rfl Oo (zw ?_);refine StoreV.memF (v:=.int .u8 ((s.data.toList[i].toNat:Int)+32)) hm (i:=0) rfl (by rw[qm1 _ _ _ Oo];omega) Oo rfl ?_;intro w3 hm3;rw[<-qoz _ ⟨by omega,by omega⟩,qq8 hi]at hm3;refine zu ?_;exact⟨i+1,fq,⟨by omega,hm3⟩,by omega⟩
  all_goals
   rw[qiy hi (qo0 _ Oo)]at hm;exact⟨i+1,fq,⟨by omega,hm⟩,by omega⟩
 ·refine qq7 w2 (by rw[show i=s.size by omega]at hm;exact hm) (zw ?_);exact⟨rfl,hm.ext⟩
theorem qba(s:E0)(hs:s.size<=140737488355328)(w:Ez):Gv EG 246 [.string s] w fun v w'=>v=.string (lowS s)/\Ext w w':=by
 have hsz:s.data.toList.length=s.size:=by simp
 refine ze Tryz.func246 Tryz.ntmps246 ?_;refine⟨fun cap cs b w1 hcap hcs hb hw1=>?_⟩;obtain⟨z,hz⟩:∃z,z=List.replicate (cap-s.size) (Value.int .u8 0):=⟨_,rfl⟩
 obtain⟨m,hmm⟩:∃m,m=cs.size:=⟨_,rfl⟩
 have hms:s.size<=m:=by rw[hmm,hcs];simp[byteCells]
 have hm:Mem w w1 [(b,.cells (qdt s.data.toList 0 z) 5 (m,m+1))]:=by
  rw[hmm];have e:qdt s.data.toList 0 z=cs:=by rw[hcs,hz];simp[qdt]
  rw[e];exact(Mem.nil w).drew.new hb hw1
 clear hcs hb hw1 hmm hz;(conv=>whnf);refine qj (fun i:Nat=>[(3,.slice (some ⟨b,0,none⟩) s.size cap),(4,ii i)]) (fun i w2=>i<=s.size/\Mem w w2 [(b,.cells (qdt s.data.toList i z) 5 (m,m+1))]) (fun i=>s.size-i) 0 fq ⟨by omega,hm⟩ ?_;rintro i w2 ρ' ⟨h1,hm⟩;(conv=>whnf);refine zC (fun _=>zw ?_) (fun _=>zw ?_)
 ·have hi:i<s.data.toList.length:=by omega
  refine ElemV.own1 i rfl Oo (zw ?_);refine LoadV.mem hm (i:=0) rfl (qhj hi) (zw ?_);refine zC (fun _=>zu ?_) (fun _=>zu ?_)
  ·refine ElemV.own1 i rfl Oo (zu ?_);refine LoadV.mem hm (i:=0) rfl (qhj hi) (zw ?_);refine zt ?_;refine zC (fun _=>zu ?_) (fun _=>zu ?_)
   ·refine ElemV.own1 i rfl Oo (zw ?_);refine LoadV.mem hm (i:=0) rfl (qhj hi) (zu ?_);refine ElemV.own1 i rfl Oo (zw ?_);refine StoreV.memF (v:=.int .u8 ((s.data.toList[i].toNat:Int)+32)) hm (i:=0) rfl (by rw[qm1 _ _ _ Oo];omega) Oo rfl ?_;intro w3 hm3;rw[<-qoz _ ⟨by omega,by omega⟩,qq8 hi]at hm3;refine zu ?_;exact⟨i+1,fq,⟨by omega,hm3⟩,by omega⟩
   all_goals
    rw[qiy hi (qo0 _ Oo)]at hm;exact⟨i+1,fq,⟨by omega,hm⟩,by omega⟩
  all_goals
   rw[qiy hi (qo0 _ Oo)]at hm;exact⟨i+1,fq,⟨by omega,hm⟩,by omega⟩
 ·refine qq7 w2 (by rw[show i=s.size by omega]at hm;exact hm) (zw ?_);exact⟨rfl,hm.ext⟩
def bs(l:LB):E0:=⟨l.toArray⟩
namespace V
theorem Rw.tail{v:E8}{size n:Nat}{x:Nat×Obj}(h:Rw w0 w v e size n xs (x::L)):Rw w0 w v e size n xs L:=
 ⟨h.mem.sub (AP ..),h.own,fun y hy=>h.apart y (zmc hy)⟩
end V
theorem V.Rw.cells{n:Nat}(h:Rw w0 w (.slice A n c) e 1 n xs L)(hn:0<n):
  ∃g,A=some ⟨g,0,none⟩/\w0.heap.size<=g/\g<w.heap.size/\n<=c/\CellsAt w g 0 xs:=by
 rcases h.own.2 with⟨e1,e2⟩|⟨g,cap,cur,e1,hg0,hg,hnc,_,hcs,htk⟩
 ·omega
 ·cases e1;refine⟨g,rfl,hg0,?_,hnc,fun k v hv=>?_⟩
  ·rcases AX g w.heap.size with h' | h'
   ·exact h'
   ·rw[Bd h']at hg;cases hg
  ·rw[qa hg,Aw];rw[<-htk,Bc]at hv
   split at hv
   ·simpa using hv
   ·cases hv
theorem bsz(a b:E0):(a++b).size=a.size+b.size:=DD
theorem qpm(r:Int)(w:Ez):
  Gv EG 325 [ii r] w fun v w'=>v=.bool (qap r)/\w'=w:=by
 refine ze Tryz.func325 Tryz.ntmps325 ?_
 (repeat'(first|((with_reducible refine zT ?_);(conv=>whnf))|((with_reducible refine zU ?_);(conv=>whnf))|((with_reducible refine zC (fun _=>?_) (fun _=>?_))<;>first|(exfalso;omega)|(conv=>whnf))))
 all_goals(refine⟨Af Value.bool ((qlu r _).2 ?_),rfl⟩;simp;try omega)
theorem qn5{α:Type}{a b:α}{l m:List α}(h:a=b)(k:l=m):a::l=b::m:=by subst h k;rfl
theorem qrw(r:Nat)(h:r<=1114111)(w:Ez):
  Gv EG 326 [ii r] w fun v w'=>∃b,v=.slice (some ⟨b,0,none⟩) (encL r).length (encL r).length/\CellsAt w' b 0 (byteCells (encL r))/\Ext w w':=by
 have fin:∀(l:LB) (vs:EE) (n b:Nat) (w1:Ez),Mem w w1 [(b,.cells vs.toArray 5)]->encL r=l->vs=byteCells l->n=l.length->
   ∃b',Value.slice (some ⟨b,0,none⟩) n n=.slice (some ⟨b',0,none⟩) (encL r).length (encL r).length/\CellsAt w1 b' 0 (byteCells (encL r))/\Ext w w1:=by
  rintro l vs n b w1 hm rfl rfl rfl;refine⟨b,rfl,fun k v hv=>?_,hm.ext⟩;rw[qa (hm.get mh),Aw]
  simpa using hv
 have cv:∀(x:Int) (n:Nat),n<256->x=n->Value.int .u8 x=.int .u8 ((UInt8.ofNat n).toNat:Int):=fun x n hn hx=>by rw[q8q n hn,hx]
 refine ze Tryz.func326 Tryz.ntmps326 ?_
 (repeat'(first|(refine zA ?_;(conv=>whnf))|(refine zB ?_;(conv=>whnf))|((with_reducible refine zC (fun _=>?_) (fun _=>?_))<;>first|(exfalso;omega)|(conv=>whnf))|(refine Wit.conv ⟨by omega,by omega⟩ ?_;(conv=>whnf))))
 ·refine znm (Mem.nil w) fun b w1 hm=>zw ?_;refine fin [UInt8.ofNat r] _ _ _ _ hm (by unfold encL;rw[Ad Oo]) ?_ rfl;simp only[byteCells,AO,BM,q8q r Oo]
 ·refine znm (Mem.nil w) fun b w1 hm=>zw ?_;refine fin [UInt8.ofNat (0xC0+r/64),UInt8.ofNat (0x80+r%64)] _ _ _ _ hm (by unfold encL;rw[Aa Oo,Ad Oo]) ?_ rfl;simp only[byteCells,AO,BM];exact qn5 (cv _ _ Oo Oo) (qn5 (cv _ _ Oo Oo) rfl)
 ·refine znm (Mem.nil w) fun b w1 hm=>zw ?_;refine fin [UInt8.ofNat (0xE0+r/4096),UInt8.ofNat (0x80+r/64%64),UInt8.ofNat (0x80+r%64)] _ _ _ _ hm (by unfold encL;rw[Aa Oo,Aa Oo,Ad Oo]) ?_ rfl;simp only[byteCells,AO,BM];exact qn5 (cv _ _ Oo Oo) (qn5 (cv _ _ Oo Oo) (qn5 (cv _ _ Oo Oo) rfl))
 ·refine znm (Mem.nil w) fun b w1 hm=>zw ?_;refine fin [UInt8.ofNat (0xF0+r/262144),UInt8.ofNat (0x80+r/4096%64),UInt8.ofNat (0x80+r/64%64),UInt8.ofNat (0x80+r%64)] _ _ _ _ hm (by unfold encL;rw[Aa Oo,Aa Oo,Aa Oo]) ?_ rfl;simp only[byteCells,AO,BM];exact qn5 (cv _ _ Oo Oo) (qn5 (cv _ _ Oo Oo) (qn5 (cv _ _ Oo Oo) (qn5 (cv _ _ Oo Oo) rfl)))
def gacc(r:Int)(l:LB):Int:=l.foldl (fun r c=>r*64+c.toNat-128) r
def qkz(n:Nat):Int:=if n=2 then 192 else if n=3 then 224 else if n=4 then 240 else 0
def qdy(l:LB):Int:=gacc (((l.headD 0).toNat:Int)-qkz l.length) l.tail
def qev(l:LB):Int:=if qap (qdy l)=true/\encL (qdy l).toNat=l then qdy l else -1
theorem q0q(r:Int)(l:LB)(k:Nat)(h:k<l.length):gacc r (l.take (k+1))=gacc r (l.take k)*64+l[k].toNat-128:=by
 rw[Bm h,gacc,List.foldl_append];rfl
theorem q91(r:Int)(l:LB)(h:-256<=r/\r<=256):-256*128 ^ l.length<=gacc r l/\gacc r l<=256*128 ^ l.length:=by
 have key:∀(l:LB) (r M:Int),256<=M->-M<=r/\r<=M->-(M*128 ^ l.length)<=gacc r l/\gacc r l<=M*128 ^ l.length:=by
  intro l
  induction l with
  | nil=>intro r M _ h;simpa[gacc]using h
  | cons c l ih=>
   intro r M hM h;have hc:=c.toNat_lt;have:=ih (r*64+c.toNat-128) (M*128) Oo Oo;rw[As,Int.pow_succ,Int.mul_comm (128 ^ l.length) 128,<-Int.mul_assoc];exact this
 have:=key l r 256 Oo h;rw[Int.neg_mul];exact this
theorem q0z(l:LB)(b c:Nat)(w:Ez)(hb:CellsAt w b 0 (byteCells l))(h1:1<=l.length)(h4:l.length<=4):
  Gv EG 297 [.slice (some ⟨b,0,none⟩) l.length c] w fun v w'=>v=ii (qev l)/\Ext w w':=by
 have hcell:∀k (hk:k<l.length),(byteCells l)[k]?=some (.int .u8 l[k].toNat):=fun k hk=>by simp[byteCells,hk]
 have hbyte:∀k (hk:k<l.length),l[k].toNat<256:=fun k hk=>l[k].toNat_lt
 refine ze Tryz.func297 Tryz.ntmps297 ?_;refine znm (Mem.nil w) fun tb w1 hm=>zw ?_;refine StoreA.mem hm (i:=0) rfl (Aq 5) (fun v hv=>by simp at hv;rcases hv with rfl|rfl|rfl|rfl<;>rfl) ?_;intro w2 hm;replace hm:Mem w w2 [(tb,.cells #[ii 0,ii 0,ii 192,ii 224,ii 240] 412)]:=hm;(conv=>whnf);have hg:(#[ii 0,ii 0,ii 192,ii 224,ii 240]:EH)[0+l.length*1]?=some (ii (qkz l.length)):=by
  obtain h|h|h|h:l.length=1\/l.length=2\/l.length=3\/l.length=4:=by omega
  all_goals(rw[h];rfl)
 have hgl:0<=qkz l.length/\qkz l.length<=240:=by unfold qkz;(repeat' split)<;>omega
 have hb0:=hbyte 0 Oo;refine zy ?_;refine zW ?_;(conv=>whnf);refine ElemV.own1 0 rfl Oo (zw ?_);refine zW ?_;(conv=>whnf);refine LoadV.cells (hb.ext hm.drew.ext) 0 (hcell 0 Oo) (zw ?_);refine zW ?_;(conv=>whnf);refine Wit.conv ⟨by omega,by omega⟩ (zw ?_);(iterate 3 (refine zW ?_;(conv=>whnf)));refine zX ?_;(conv=>whnf);refine zW ?_;(conv=>whnf);refine LoadV.mem hm.drew (i:=0) rfl hg (zw ?_);refine zW ?_;(conv=>whnf);refine zA ?_;(conv=>whnf);(iterate 2 (refine zW ?_;(conv=>whnf)));have htl:l.tail.length=l.length-1:=by simp
 have hhd:l.headD 0=l[0]:=by cases l with|nil=>simp at h1|cons a t=>rfl
 refine qj (fun k:Nat=>[(0,.slice (some ⟨b,0,none⟩) l.length c),(4,ii (gacc ((l[0].toNat:Int)-qkz l.length) (l.tail.take (k-1)))),(5,ii k)])
  (fun k w3=>1<=k/\k<=l.length/\w3=w2.drew) (fun k=>l.length-k) 1 fq ⟨by omega,by omega,rfl⟩ ?_
 rintro k w3 ρ' ⟨hk1,hk2,rfl⟩;have hgb:=q91 ((l[0].toNat:Int)-qkz l.length) (l.tail.take (k-1)) Oo;have hpow:(128:Int) ^ (l.tail.take (k-1)).length<=2097152:=by
  have:(l.tail.take (k-1)).length<=3:=by rw[AG];omega
  obtain h|h|h|h:(l.tail.take (k-1)).length=0\/(l.tail.take (k-1)).length=1\/(l.tail.take (k-1)).length=2\/(l.tail.take (k-1)).length=3:=by omega
  all_goals(rw[h];decide)
 (conv=>whnf)
 (repeat'(first|(refine zA ?_;(conv=>whnf))|((with_reducible refine zC (fun _=>?_) (fun _=>?_))<;>first|(exfalso;omega)|(conv=>whnf))))
 ·have hlt:k<l.length:=by omega
  have hbk:=hbyte k hlt;refine ElemV.own1 k rfl Oo (zw ?_);refine LoadV.of (by have:=hb.ext hm.drew.ext k _ (hcell k hlt);rwa[Aw]at this) (zw ?_);refine Wit.conv ⟨by omega,by omega⟩ (zw ?_);(iterate 3 (refine zA ?_;(conv=>whnf)));have hkt:k-1<l.tail.length:=by omega
  have hstep:gacc ((l[0].toNat:Int)-qkz l.length) (l.tail.take k)=gacc ((l[0].toNat:Int)-qkz l.length) (l.tail.take (k-1))*64+l[k].toNat-128:=by
   have:=q0q ((l[0].toNat:Int)-qkz l.length) l.tail (k-1) hkt;have e:l.tail[k-1]=l[k]:=by simp;congr 1;omega
   rw[e,show k-1+1=k by omega]at this;exact this
  refine⟨k+1,⟨rfl,?_,rfl,trivial⟩,⟨by omega,by omega,rfl⟩,by omega⟩;rw[show k+1-1=k by omega,hstep];rfl
 ·obtain rfl:k=l.length:=by omega
  have hG:gacc ((l[0].toNat:Int)-qkz l.length) (l.tail.take (l.length-1))=qdy l:=by
   rw[AF Oo,qdy,hhd]
  rw[hG];refine zcv (qpm (qdy l) _) ?_;rintro v w4 ⟨rfl,rfl⟩;(conv=>whnf);have hbs:CellsAt w2.drew.drew b 0 (byteCells l):=hb.ext hm.drew.drew.ext;have hE0:Ext w w2.drew.drew:=hm.drew.drew.ext;cases hsc:qap (qdy l)
  ·refine DrawV.free rfl Jk (zw ?_);refine zD ?_;(conv=>whnf);refine zD ?_;(conv=>whnf);refine zD ?_;(conv=>whnf);refine zf ?_ (by intro wd hd;(conv=>whnf);(refine zP ?_;refine zU ?_;(conv=>whnf));exact xq);refine zf ?_ (by intro wd hd;(conv=>whnf);(refine zP ?_;refine zU ?_;(conv=>whnf));exact xq);refine zf ?_ (by intro wd hd;(conv=>whnf);(refine zP ?_;refine zU ?_;(conv=>whnf));exact xq);refine zf ?_ (by intro wd hd;(conv=>whnf);(refine zP ?_;refine zU ?_;(conv=>whnf));exact xq);refine zf ?_ (by intro wd hd;(conv=>whnf);(refine zP ?_;refine zU ?_;(conv=>whnf));exact xq);refine zf ?_ (by intro wd hd;(conv=>whnf);(refine zP ?_;refine zU ?_;(conv=>whnf));exact xq);refine zf ?_ (by intro wd hd;(conv=>whnf);(refine zP ?_;refine zU ?_;(conv=>whnf));exact xq);intro wd hd;(conv=>whnf);refine Tst.yes rfl (zw ?_);exact⟨by rw[qev,Aa (by rw[hsc];simp)],hE0.trans hd⟩
  ·obtain⟨r,hr⟩:∃r:Nat,qdy l=r:=⟨(qdy l).toNat,by simp[qap]at hsc;omega⟩
   have hr1:r<=1114111:=by rw[hr]at hsc;simp[qap]at hsc;omega
   refine DrawV.free rfl Jk (zw ?_);refine zD ?_;(conv=>whnf);refine zD ?_;(conv=>whnf);refine zD ?_;(conv=>whnf);refine zf ?_ (by intro wd hd;(conv=>whnf);(refine zP ?_;refine zT ?_;(conv=>whnf));exact xq);apply StepD.of (fun v w=>∃b',v=.slice (some ⟨b',0,none⟩) (encL r).length (encL r).length/\CellsAt w b' 0 (byteCells (encL r)))
   ·rintro v w w' ⟨b',rfl,h⟩ he;exact⟨b',rfl,h.ext he⟩
   ·intro wd hd;(conv=>whnf);refine Tst.no rfl (zw ?_);rw[hr];refine zcv (qrw r hr1 wd) ?_;rintro v w4 ⟨b',rfl,h,he⟩;exact⟨he,b',rfl,h⟩
   (conv=>whnf);apply zsd
   ·intro wd hd;(conv=>whnf);rintro _ ⟨b',rfl,h⟩;(conv=>whnf);refine Tst.no rfl (zw ?_);refine BytesS.all h rfl ?_;exact xq
   (conv=>whnf);refine zf ?_ (by intro wd hd;(conv=>whnf);(refine zP ?_;refine zT ?_;(conv=>whnf));exact xq);apply zsd
   ·intro wd hd;(conv=>whnf);refine Tst.no rfl (zw ?_);refine BytesS.all (hbs.ext hd) rfl ?_;exact xq
   (conv=>whnf);refine zf ?_ (by intro wd hd;(conv=>whnf);(refine zP ?_;refine zT ?_;(conv=>whnf));exact xq);refine zf ?_ (by intro wd hd;(conv=>whnf);(refine zP ?_;refine zT ?_;(conv=>whnf));exact xq);intro wd hd;(conv=>whnf);intro v _;(conv=>whnf);have hseq:seq ⟨(encL r).toArray⟩ ⟨l.toArray⟩=decide (encL r=l):=by
    rw[AV,qac,decide_eq_true_iff]
    constructor
    ·intro h;have:(⟨(encL r).toArray⟩:E0).data.toList=(⟨l.toArray⟩:E0).data.toList:=by rw[h]
     simpa using this
    ·intro h;rw[h]
   by_cases hel:encL r=l
   ·refine Tst.no (by rw[hseq,Az hel];rfl) (zw ?_);exact⟨by rw[qev,Ad ⟨hsc,by rw[hr,Db];exact hel⟩],hE0.trans hd⟩
   ·refine Tst.yes (by rw[hseq,AH hel];rfl) (zw ?_);exact⟨by rw[qev,Aa (fun h=>hel (by have:=h.2;rwa[hr,Db]at this))],hE0.trans hd⟩
theorem qql(h:(decN l).2=0):decN l=(0,0):=by
 unfold decN at h|-
 match l with
 | []=>rfl
 | a::t=>
  simp only at h|-
  split
  ·rfl
  ·rename_i hn
   rw[Aa hn]at h
   split
   ·rename_i hc
    rw[Ad hc]at h
    split
    ·rfl
    ·rename_i hs
     rw[Aa hs]at h;simp only at h;omega
   ·rfl
theorem q9r(r:Nat)(h:qap r=true)(t:LB):decN (encL r++t)=(r,(encL r).length):=by
 have hr:r<=1114111/\(r<55296\/57343<r):=by simp[qap]at h;omega
 have tn:∀n:Nat,n<256->(UInt8.ofNat n).toNat=n:=fun n hn=>by rw[CH];omega
 unfold encL
 by_cases h1:r<128
 ·rw[Ad h1];have e:qbo r=(1,r):=by rw[qbo,Ad h1]
  simp only[BL,Br,decN,tn r Oo,e,CE,Bz,D6,if_true,accR,CZ,qew];rw[Aa Js,h];simp
 rw[Aa h1]
 by_cases h2:r<2048
 ·rw[Ad h2];have e:qbo (192+r/64)=(2,r/64):=by rw[qbo,Aa Oo,Aa Oo,Ad Oo];congr 1;omega
  have c:cont (UInt8.ofNat (128+r%64))=true:=by rw[cont,tn _ Oo];simp;omega
  have hacc:r/64*64+(128+r%64)%64=r:=by omega
  simp only[BL,Br,decN,tn (192+r/64) Oo,e,As,Nat.reduceSub,BU,Bz,Di,D6,Dy,c,if_true,accR,CO,CZ,tn (128+r%64) Oo,hacc];rw[Aa Oo,Aa (by rw[h,show qew 2=128 from rfl];simp;omega)];rfl
 rw[Aa h2]
 by_cases h3:r<65536
 ·rw[Ad h3];have e:qbo (224+r/4096)=(3,r/4096):=by rw[qbo,Aa Oo,Aa Oo,Aa Oo,Ad Oo];congr 1;omega
  have c:cont (UInt8.ofNat (128+r%64))=true:=by rw[cont,tn _ Oo];simp;omega
  have c2:cont (UInt8.ofNat (128+r/64%64))=true:=by rw[cont,tn _ Oo];simp;omega
  have hacc:(r/4096*64+(128+r/64%64)%64)*64+(128+r%64)%64=r:=by omega
  simp only[BL,Br,decN,tn (224+r/4096) Oo,e,As,Nat.reduceSub,BU,Bz,Di,D6,Dy,c,c2,if_true,accR,CO,CZ,tn (128+r%64) Oo,tn (128+r/64%64) Oo,hacc];rw[Aa Oo,Aa (by rw[h,show qew 3=2048 from rfl];simp;omega)];rfl
 rw[Aa h3];have e:qbo (240+r/262144)=(4,r/262144):=by rw[qbo,Aa Oo,Aa Oo,Aa Oo,Aa Oo,Ad Oo];congr 1;omega
 have c:cont (UInt8.ofNat (128+r%64))=true:=by rw[cont,tn _ Oo];simp;omega
 have c2:cont (UInt8.ofNat (128+r/64%64))=true:=by rw[cont,tn _ Oo];simp;omega
 have c3:cont (UInt8.ofNat (128+r/4096%64))=true:=by rw[cont,tn _ Oo];simp;omega
 have hacc:((r/262144*64+(128+r/4096%64)%64)*64+(128+r/64%64)%64)*64+(128+r%64)%64=r:=by omega
 simp only[BL,Br,decN,tn (240+r/262144) Oo,e,As,Nat.reduceSub,BU,Bz,Di,D6,Dy,c,c2,c3,if_true,accR,CO,CZ,tn (128+r%64) Oo,tn (128+r/64%64) Oo,tn (128+r/4096%64) Oo,hacc];rw[Aa Oo,Aa (by rw[h,show qew 4=65536 from rfl];simp;omega)];rfl
theorem q00(L:LB)(n:Nat)(h:0<=qev (L.take n))(hn:n<=L.length):decN L=((qev (L.take n)).toNat,n):=by
 unfold qev at h|-
 split at h
 ·rename_i hg
  rw[Ad hg];obtain⟨h1,h2⟩:=hg;have hr:qdy (L.take n)=((qdy (L.take n)).toNat:Int):=by simp[qap]at h1;omega
  rw[hr]at h1;have hd:=q9r _ h1 (L.drop n);rw[h2,Ck]at hd;rw[hd];simp;omega
 ·omega
theorem q5h(L:LB)(h:(decN L).2≠0):qev (L.take (decN L).2)=(decN L).1:=by
 obtain⟨h1,h2,h3⟩:=q4z h;have hg:qdy (L.take (decN L).2)=(decN L).1:=by
  rcases qmv L h with⟨a,t,rfl,e,h1⟩|⟨a,b,t,rfl,e,h1,h2,h3,h4⟩|⟨a,b,c,t,rfl,e,h1,h2,h3,h4,h5,h6⟩|⟨a,b,c,d,t,rfl,e,h1,h2,h3,h4,h5,h6,h7⟩
  all_goals
   rw[e];simp only[BU,Bz,qdy,List.headD_cons,List.tail_cons,As,BP,gacc,CO,CZ]
  ·show(a.toNat:Int)-0=_;omega
  ·show((a.toNat:Int)-192)*64+b.toNat-128=_;omega
  ·show(((a.toNat:Int)-224)*64+b.toNat-128)*64+c.toNat-128=_;omega
  ·show((((a.toNat:Int)-240)*64+b.toNat-128)*64+c.toNat-128)*64+d.toNat-128=_;omega
 unfold qev;rw[hg,Ad ⟨h1,by rw[Db];exact h2⟩]
theorem qln(s:E0)(p:Nat)(hp:p<s.size)(hs:s.size<=140737488355328)(w:Ez):
  Gv EG 242 [.string s,ii p] w fun v w'=>v=.tuple #[ii (decN (s.data.toList.drop p)).1,ii (decN (s.data.toList.drop p)).2]/\Ext w w':=by
 obtain⟨L,hL⟩:∃L,L=s.data.toList.drop p:=⟨_,rfl⟩
 have hll:L.length=s.size-p:=by rw[hL,qec]
 have hle:=qij L;have hle4:=q40 L;rw[<-hL];refine ze Tryz.func242 Tryz.ntmps242 ?_;refine zv ?_;refine qj (fun n:Nat=>[(0,.string s),(1,ii p),(6,ii n)]) (fun n w1=>1<=n/\n<=5/\n<=L.length+1/\(∀m,m<n->m=0\/(decN L).2≠m)/\Ext w w1) (fun n=>5-n) 1 fq ⟨by omega,by omega,by omega,fun m hm=>.inl Oo,xr⟩ ?_;rintro n w1 ρ' ⟨h1,h2,h3,h4,he⟩;conv=>whnf
 (repeat'(first|refine zp ?_|refine zC (fun _=>zw ?_) (fun _=>zw ?_)))
 ·refine SliceS.at_ p (p+n) rfl (show(p:Int)+(n:Int)=((p+n:Nat):Int)by omega) Oo Oo ?_;have hx:(s.extract p (p+n)).data.toList=L.take n:=by
   rw[Lib.extract_data,hL];congr 1;omega
  have hxs:(s.extract p (p+n)).size=n:=by
   rw[Cy];omega
  (conv=>whnf);refine⟨fun cap cs b w2 hcap hcs hb hw=>?_⟩;have he2:Ext w w2:=by rw[hw];exact he.drew.alloc _
  have hcell:CellsAt w2 b 0 (byteCells (L.take n)):=fun k v hv=>by
   have hget:w2.heap[b]?=some (.cells cs 5 (cs.size,cs.size+1)):=by
    subst hw hb;exact heap_alloc_new _ _
   rw[qa hget,Aw,hcs,hx];have:k<(byteCells (L.take n)).length:=(Ae.1 hv).1;rw[Ar,AQ this];exact hv
  have hg:=q0z (L.take n) b cap w2 hcell (by rw[AG];omega) (by rw[AG];omega);rw[show(L.take n).length=(s.extract p (p+n)).size by rw[hxs,AG];omega]at hg;(conv=>whnf);refine zcv (hg) ?_;rintro v w3 ⟨rfl,he3⟩;have hlt:-1<=qev (L.take n):=by
   unfold qev;split
   ·rename_i h;have:=h.1;simp[qap]at this;omega
   ·omega
  (conv=>whnf);refine zC (fun _=>zu ?_) (fun _=>zu ?_)
  ·have hhit:=q00 L n Oo Oo;refine⟨?_,he2.trans he3⟩;rw[hhit];show Value.tuple #[ii _,ii _]=.tuple #[ii ((qev (L.take n)).toNat:Int),ii (n:Int)];rw[Int.toNat_of_nonneg Oo]
  ·refine⟨n+1,fq,⟨by omega,by omega,by omega,fun m hm=>?_,he2.trans he3⟩,by omega⟩
   rcases AX m n with h|h
   ·exact h4 m h
   ·obtain rfl:m=n:=by omega
    refine .inr fun hd=>?_;have:=q5h L Oo;rw[hd]at this;omega
 ·have hz:(decN L).2=0:=by
   rcases BZ (decN L).2 with h|h
   ·exact h
   ·rcases h4 (decN L).2 Oo with h' | h'
    ·omega
    ·exact absurd rfl h'
  rw[qql hz];exact⟨rfl,he⟩
 ·have hz:(decN L).2=0:=by
   rcases BZ (decN L).2 with h|h
   ·exact h
   ·rcases h4 (decN L).2 Oo with h' | h'
    ·omega
    ·exact absurd rfl h'
  rw[qql hz];exact⟨rfl,he⟩
theorem qjr(s:E0)(hs:s.size<=140737488355328)(w:Ez):
  Gv EG 193 [.string s] w fun v w'=>(∃i:Int,v=ii i/\i<4611686018427387904/\(scal s.data.toList≠none->i=-1)/\(scal s.data.toList=none->0<=i))/\Ext w w':=by
 refine ze Tryz.func193 Tryz.ntmps193 ?_;refine qj (fun p:Nat=>[(0,.string s),(3,ii p)]) (fun p w1=>p<=s.size/\(scal s.data.toList=none↔scal (s.data.toList.drop p)=none)/\Ext w w1) (fun p=>s.size-p) 0 fq ⟨by omega,by simp,xr⟩ ?_;rintro p w1 ρ' ⟨h1,h2,he⟩;(conv=>whnf);refine zC (fun _=>zw ?_) (fun _=>zw ?_)
 ·refine zcv (qln s p Oo hs _) ?_;rintro v w' ⟨rfl,he'⟩;have hle:=qij (s.data.toList.drop p);rw[qec]at hle;(conv=>whnf);refine zC (fun _=>zu ?_) (fun _=>zu ?_)
  ·refine⟨⟨p,rfl,by omega,fun h=>?_,fun _=>by omega⟩,he.trans he'⟩;exact absurd (h2.2 (qhy (qim s p Oo) Oo)) h
  ·refine⟨p+(decN (s.data.toList.drop p)).2,fq,⟨by omega,?_,he.trans he'⟩,by omega⟩;rw[h2,qfm (qim s p Oo) Oo,AM];simp
 ·refine⟨⟨-1,rfl,by omega,fun _=>rfl,fun h=>?_⟩,he⟩;rw[h2,Be Ys]at h;rw[scal]at h;cases h
theorem qpk(c:E7)(w:Ez):
  Gv EG 239 [.int .u8 c.toNat] w fun v w'=>v=.bool (barB c)/\w'=w:=by
 have hc:=c.toNat_lt;have hm:barB c=true↔(c.toNat<=32\/c.toNat=60\/c.toNat=62\/c.toNat=34\/c.toNat=123\/c.toNat=125\/c.toNat=124\/c.toNat=94\/c.toNat=96\/c.toNat=92):=by
  have e:∀n:Nat,n<256->(c=UInt8.ofNat n↔c.toNat=n):=fun n hn=>by
   rw[<-D9,CH];constructor<;>intro h<;>omega
  simp only[barB,decide_eq_true_iff,signs,AD,Cu,or_false];rw[show(60:E7)=UInt8.ofNat 60 from rfl,show(62:E7)=UInt8.ofNat 62 from rfl,show(34:E7)=UInt8.ofNat 34 from rfl,show(123:E7)=UInt8.ofNat 123 from rfl,show(125:E7)=UInt8.ofNat 125 from rfl,
   show(124:E7)=UInt8.ofNat 124 from rfl,show(94:E7)=UInt8.ofNat 94 from rfl,show(96:E7)=UInt8.ofNat 96 from rfl,show(92:E7)=UInt8.ofNat 92 from rfl]
  rw[e _ Oo,e _ Oo,e _ Oo,e _ Oo,e _ Oo,e _ Oo,e _ Oo,e _ Oo,e _ Oo]
 refine ze Tryz.func239 Tryz.ntmps239 ?_
 (repeat'(first|refine zp ?_|refine zC (fun _=>zw ?_) (fun _=>zw ?_)))
 all_goals(refine⟨Af Value.bool ?_,rfl⟩;rw[AV,hm];simp;try omega)
theorem qpl(c:E7)(w:Ez):
  Gv EG 240 [.int .u8 c.toNat] w fun v w'=>v=.bool (qej c)/\w'=w:=by
 have hc:=c.toNat_lt;refine ze Tryz.func240 Tryz.ntmps240 ?_
 (repeat'(first|refine zp ?_|refine zC (fun _=>zw ?_) (fun _=>zw ?_)))
 all_goals(refine⟨Af Value.bool ?_,rfl⟩;rw[AV];simp[qej];try omega)
theorem qrx(c:E7)(w:Ez):
  Gv EG 241 [.int .u8 c.toNat] w fun v w'=>v=.bool (decide (48<=c.toNat/\c.toNat<=57))/\w'=w:=by
 have hc:=c.toNat_lt;refine ze Tryz.func241 Tryz.ntmps241 ?_;refine zC (fun _=>zu ?_) (fun _=>zu ?_)
 all_goals(refine⟨Af Value.bool ?_,rfl⟩;rw[AV];simp;try omega)
theorem qnt(s:E0)(p:Nat)(hp:p<s.size)(h:(s.data.toList.take p).any barB=false):(s.data.toList.take (p+1)).any barB=barB (gb s p):=by
 rw[qon (by simpa using hp),Ek,h,Dx];simp[gb]
theorem qj3(s:E0)(hs:s.size<=140737488355328)(w:Ez):
  Gv EG 187 [.string s] w fun v w'=>v=ii (refE s)/\Ext w w':=by
 refine ze Tryz.func187 Tryz.ntmps187 ?_;refine zC (fun _=>zw ?_) (fun _=>zw ?_)
 ·exact⟨by rw[refE,Ad Oo];rfl,xr⟩
 ·refine zcv (qjr s hs _) ?_;rintro v w1 ⟨⟨i,rfl,h1,h2,h3⟩,he⟩;(conv=>whnf);refine zC (fun _=>zw ?_) (fun _=>zw ?_)
  ·refine⟨?_,he⟩;rw[refE,Aa Oo,Ad (by by_cases hh:scal s.data.toList=none;exact hh;exact absurd (h2 hh) Oo)];rfl
  ·have hsc:scal s.data.toList≠none:=fun hh=>by have:=h3 hh;omega
   refine qj (fun p:Nat=>[(0,.string s),(3,ii p)]) (fun p w2=>p<=s.size/\w2=w1/\(s.data.toList.take p).any barB=false) (fun p=>s.size-p) 0 fq ⟨by omega,rfl,by simp⟩ ?_;rintro p w2 ρ' ⟨hp,rfl,ha⟩;(conv=>whnf);refine zC (fun _=>zu ?_) (fun _=>zu ?_)
   ·refine zcv (qpk (gb s p) _) ?_;rintro v w3 ⟨rfl,rfl⟩;(conv=>whnf);have hat:=qnt s p Oo ha;cases hb:barB (gb s p)
    ·rw[hb]at hat;refine zv ?_;exact⟨p+1,fq,⟨by omega,rfl,hat⟩,by omega⟩
    ·rw[hb]at hat;refine zv ?_;refine⟨?_,he⟩;have:s.data.toList.any barB=true:=by
      rw[<-Ck (p+1) s.data.toList,Ek,hat];rfl
     rw[refE,Aa Oo,Aa hsc,Ad this];rfl
   ·refine⟨?_,he⟩;rw[AF Ys]at ha;rw[refE,Aa Oo,Aa hsc,Aa (by rw[ha];simp)];rfl
theorem qpn(s:E0)(hs:s.size<=140737488355328)(w:Ez):
  Gv EG 188 [.string s] w fun v w'=>v=ii (qax s.data.toList 0)/\w'=w:=by
 refine ze Tryz.func188 Tryz.ntmps188 ?_;refine qj (fun p:Nat=>[(0,.string s),(3,ii p)]) (fun p w2=>p<=s.size/\w2=w/\qax s.data.toList 0=qax (s.data.toList.drop p) p) (fun p=>s.size-p) 0 fq ⟨by omega,rfl,rfl⟩ ?_;rintro p w2 ρ' ⟨hp,rfl,ha⟩;conv=>whnf
 (repeat'(first|refine zp ?_|refine zC (fun _=>zw ?_) (fun _=>zw ?_)))
 ·exact⟨by rw[ha,qay s p Oo,qlv _ _ _ Oo],rfl⟩
 ·rw[qay s p Oo]at ha
  ·refine zcv (qpl (gb s p) _) ?_;rintro v w3 ⟨rfl,rfl⟩;(conv=>whnf);cases hlb:qej (gb s p)
   ·have hl2:¬(97<=(gb s p).toNat/\(gb s p).toNat<=122\/65<=(gb s p).toNat/\(gb s p).toNat<=90):=by simpa[qej]using hlb
    refine zt ?_;refine zC (fun _=>zu ?_) (fun _=>zu ?_)
    ·exact⟨by rw[ha,qdo _ _ _ Oo Oo];rfl,rfl⟩
    ·refine zcv (qrx (gb s p) _) ?_;rintro v w3 ⟨rfl,rfl⟩;conv=>whnf
     (repeat'(first|refine zp ?_|refine zC (fun _=>zw ?_) (fun _=>zw ?_)))
     all_goals first
      | exact⟨by rw[ha,qdo _ _ _ Oo Oo];rfl,rfl⟩
      | (refine⟨p+1,fq,⟨by omega,rfl,?_⟩,by omega⟩;rw[ha];exact qjc _ _ _ Oo Oo)
   ·have hl2:(97<=(gb s p).toNat/\(gb s p).toNat<=122\/65<=(gb s p).toNat/\(gb s p).toNat<=90):=by simpa[qej]using hlb
    refine zv ?_
    all_goals(refine⟨p+1,fq,⟨by omega,rfl,?_⟩,by omega⟩;rw[ha];exact qjc _ _ _ Oo Oo)
 ·exact⟨by rw[ha,Be Ys,qax];rfl,rfl⟩
theorem qfj(s:E0)(hs:s.size<=140737488355328)(w:Ez):
  Gv EG 119 [.string s] w fun v w'=>v=ii (iriE s)/\Ext w w':=by
 refine ze Tryz.func119 Tryz.ntmps119 ?_;refine zcv (qj3 s hs _) ?_;rintro v w1 ⟨rfl,he⟩;(conv=>whnf);refine zC (fun _=>zu ?_) (fun _=>zu ?_)
 ·refine zcv (qpn s hs _) ?_;rintro v w2 ⟨rfl,rfl⟩;(conv=>whnf);refine zt ?_;refine zC (fun _=>zw ?_) (fun _=>zw ?_)
  ·exact⟨by rw[iriE,Aa Oo,Ad Oo];rfl,he⟩
  ·exact⟨by rw[iriE,Aa Oo,Aa Oo,show refE s=0 by omega],he⟩
 ·exact⟨by rw[iriE,Ad Oo],he⟩
namespace V
theorem BytesS.rw{n:Nat}{K:E8->Prop}(h:Rw w0 w (.slice A n c) e 1 n (byteCells l) L)(hk:K (.string ⟨l.toArray⟩)):BytesS w A n K:=by
 have hn:l.length=n:=by have:=h.len;simpa[byteCells]using this
 refine⟨l,hn,fun hne=>?_,hk⟩;have:0<l.length:=Cc.2 hne;obtain⟨g,e1,_,_,_,hc⟩:=h.cells Oo;exact⟨g,0,e1,hc⟩
end V
namespace V
theorem Rw.drew{v:E8}{size n:Nat}(h:Rw w0 w v e size n xs L):Rw w0 w.drew v e size n xs L:=h.call (Ext.refl w).drew
end V
namespace V
theorem qiu{o:Obj}(h:w.heap[g]?=some o):g<w.heap.size:=by
 rcases AX g w.heap.size with h' | h'
 ·exact h'
 ·rw[Bd h']at h;cases h
theorem PostO.still{B:List (Option Nat)}{v c:E8}(he:Ext w w')(h:v=c):PostO w B true (fun u _=>u=c) v w':=⟨Chg.ext he,h,fun h=>by cases h⟩
theorem AppV.own{e size:Nat}{v:E8}{n:Nat}{t:E6}{i:TypeInfo}(ht:P.underlying t=some (.slice e))(hi:P.info? e=some i)(hz:i.zero=some z)(hsize:i.size=size)(hzs:z.cells.size=size)(hsz:0<size)(h:w.ownsRow base e size v n xs)(hbw:base<=w.heap.size)(hl:news.length=m*size)(hA:news≠[]->∃b off,A=some ⟨b,off,none⟩/\CellsAt w b off news)(h1:∀u∈news,u.oneCell'=true)(hb:(n+m)*i.bytes<=140737488355328)(h63:n+m<=140737488355328)(hk:∀v' w',w'.ownsRow base e size v' (n+m) (xs++news)->w.grownBy w' v.ownBlock->(v'.ownBlock=v.ownBlock\/v'.ownBlock=some w.heap.size)->K v' w'):AppV P #[t,t] ty v (.slice A m c) w K:=by
 cases A with
 | none=>
  have hn:news=[]:=by
   cases hnn:news with
   | nil=>rfl
   | cons x r=>obtain⟨b,off,h0,_⟩:=hA (by rw[hnn];simp);cases h0
  subst hn;have hm:m=0:=by
   rcases Ej.1 (show m*size=0 by simpa using hl.symm)with h|h
   ·exact h
   ·omega
  subst hm;refine⟨v,w,?_,hk v w (by simpa using h) ⟨rfl,rfl,rfl,Aq _,fun _ _ _=>rfl⟩ (.inl rfl)⟩
  rcases h.2 with⟨e1,e2⟩|⟨g,cap,cur,e1,_,_,hnc,_⟩
  ·subst e1;simp[Builtin.append_,run_underlying ht,sizeOf,typeInfo,hi,Builtin.lenOf,Builtin.firstCells]
  ·subst e1;simp[Builtin.append_,run_underlying ht,sizeOf,typeInfo,hi,Builtin.lenOf,Builtin.firstCells,hnc,storeCells]
 | some a=>
  have hcells:∀j u,news[j]?=some u->w.cell? (a.add j)=some u:=by
   intro j u hu;obtain⟨b,off,h0,h1⟩:=hA (by intro e;rw[e]at hu;simp at hu);cases h0;rw[qan];exact h1 j u hu
  obtain⟨v',w',hrun,h2,h3,_,h5⟩:=run_append_own_at (P:=P) w base t ty e i z size i.bytes ht hi hz hsize rfl hzs hsz v n xs h a m c news hl hcells h1 (by simp only[maxLen];omega) hb hbw;exact⟨v',w',hrun,hk v' w' h2 h3 h5⟩
theorem Mem.add{o:Obj}(h:Mem w0 w L)(hg:w.heap[g]?=some o)(h0:w0.heap.size<=g)(hlt:∀x∈L,x.1<g):Mem w0 w ((g,o)::L):=by
 refine⟨h.ext,fun x hx=>?_,?_⟩
 ·rcases AD.1 hx with rfl|hx
  ·exact⟨h0,hg⟩
  ·exact h.own x hx
 ·simp only[AO,DQ];refine⟨fun hm=>?_,h.nodup⟩;obtain⟨x,hx,e⟩:=AY.1 hm;have:=hlt x hx;omega
end V
def rdC(A:oA)(n c:Nat)(t:EE):Obj:=.cells (Value.slice A n c::t).toArray 337
def seeB(p:E0->Bool):List E0->Bool
 | []=>false
 | x::_=>p x
theorem qkk(rb g:Nat)(cap:EE)(p:E0->Bool)(rest:List E0)(A:oA)(c:Nat)(t:EE)(w:Ez)(hb:w.heap[rb]?=some (rdC A rest.length c t))(hS:SlAt zeS 1 w A rest)(hp:∀x xs w1,rest=x::xs->Ext w w1->Gv EG g (.string x::cap) w1 fun v w2=>v=.bool (p x)/\Ext w1 w2):
  Gv EG 232 [pp rb,.func (.func g) #[] cap.toArray] w fun v w'=>v=.bool (seeB p rest)/\Ext w w':=by
 have h0:∀w',Ext w w'->w'.cell? ⟨rb,0,none⟩=some (.slice A rest.length c):=fun w' he=>he.cell (by rw[qa hb];rfl)
 refine ze Tryz.func232 Tryz.ntmps232 ?_;refine LoadV.of (h0 w (Ext.refl w)) ?_;cases rest with
 | nil=>
  simp only[BP];refine zu ?_;exact⟨rfl,Ext.refl w⟩
 | cons x xs=>
  simp only[As]at h0|-;refine zu ?_;refine LoadV.of (h0 w (Ext.refl w)) (zu ?_);refine ElemV.sl hS rfl 0 rfl Js ?_;intro b off hc;refine zu ?_;refine LoadV.cell0 hc (zu ?_);have hp':=hp x xs w rfl (Ext.refl w);cases cap with
  | nil=>
   (conv=>whnf);refine zcv (hp') ?_;rintro v w2 ⟨rfl,he⟩;refine zu ?_;exact⟨rfl,he⟩
  | cons y ys=>
   (conv=>whnf);refine zcv (hp') ?_;rintro v w2 ⟨rfl,he⟩;refine zu ?_;exact⟨rfl,he⟩
theorem V.SliceV.tail{x:E0}{xs:List E0}{n:Nat}{k:IntKind}{K:E8->Prop}(hS:SlAt zeS 1 w A (x::xs))(hn:n=xs.length+1)(hc:n<=c)(hk:∀A' c',SlAt zeS 1 w A' xs->xs.length<=c'->K (.slice A' xs.length c')):SliceV 1 A n c (some (.int k 1)) none none K:=by
 subst hn;refine⟨1,xs.length+1,c,rfl,rfl,rfl,by omega,by omega,by omega,fun h=>by simp at h,fun A' hA'=>?_⟩;obtain⟨b,off,rfl,h2⟩:=hS.at_ Js;have hk:=hk A' (c-1) ⟨fun hne=>?_⟩ Oo
 ·simpa using hk
 ·have hpos:0<xs.length:=Cc.2 hne;rw[Aa Oo]at hA';refine⟨b,off+1,?_,fun j y hy=>?_⟩
  ·rw[hA'];show some ((⟨b,off,none⟩:Addr).add (1*1))=_;rw[qan]
  ·have:=h2 (j+1) y (by simpa using hy);rw[show off+1+j*1=off+(j+1)*1 by omega];exact this
theorem qfe(rb i:Nat)(x:E0)(xs:List E0)(A:oA)(c:Nat)(t:EE)(w0 w:Ez)(L:ED)(hm:Mem w0 w L)(hi:L[i]?=some (rb,rdC A (xs.length+1) c t))(hS:SlAt zeS 1 w0 A (x::xs))(hc:xs.length+1<=c):
  Gv EG 236 [pp rb] w fun v w'=>v=.string x/\∃A' c',SlAt zeS 1 w0 A' xs/\xs.length<=c'/\Mem w0 w' (L.set i (rb,rdC A' xs.length c' t)):=by
 have hb:=hm.get (zmg hi);refine ze Tryz.func236 Tryz.ntmps236 ?_;refine LoadV.of (v:=.slice A (xs.length+1) c) (by rw[rdC]at hb;rw[qa hb];rfl) (zw ?_);refine ElemV.sl (hS.ext hm.ext) rfl 0 rfl Js ?_;intro b off hcl;(conv=>whnf);refine LoadV.cell0 hcl (zw ?_);refine LoadV.of (v:=.slice A (xs.length+1) c) (by rw[rdC]at hb;rw[qa hb];rfl) (zw ?_);refine V.SliceV.tail hS rfl hc ?_;intro A' c' hS' hc';(conv=>whnf);refine StoreV.mem hm hi (show 0<t.length+1 by omega) rfl fun w2 hm2=>zw ?_;exact⟨rfl,A',c',hS',hc',hm2⟩
theorem q3j(x:E0)(lb least:Nat)(hs:x.size<=140737488355328)(w:Ez)(hl:w.cell? ⟨lb,0,none⟩=some (ii least)):
  Gv EG 296 [.string x,pp lb] w fun v w'=>v=.bool (q6 x least 8 false)/\Ext w w':=by
 have h1:=qdm x least 8 false hs w;refine ze Tryz.func296 Tryz.ntmps296 ?_;refine LoadV.of hl (zw ?_);refine zcv (h1) ?_;rintro v w' ⟨rfl,he⟩;(conv=>whnf);exact⟨rfl,he⟩
theorem qab0{α:Type}{L:List α}{a:α}(h:L[i]?=some a):L.set i a=L:=by
 apply BW;intro j;rw[BX]
 split
 ·rename_i e;subst e
  split
  ·exact h.symm
  ·rename_i hl;rw[Au Oo]at h;cases h
 ·rfl
theorem qlw(s:E0):seq s ⟨#[]⟩=decide (s.size=0):=by
 rw[AV,qac,decide_eq_true_iff]
 constructor
 ·rintro rfl;rfl
 ·intro h;obtain⟨a⟩:=s;have:a=#[]:=Array.eq_empty_of_size_eq_zero h;rw[this]
structure TailP(q:E0->Bool)(rest pre rest':List E0)(s:E0):Prop where
 eq:rest=pre++rest'
 all:pre.all q=true
 size:s.size<=9*pre.length
 none:s.size=0↔pre=[]
theorem TailP.step{q:E0->Bool}{rest pre xs:List E0}{x s':E0}(h:TailP q rest pre (x::xs) s)(hq:q x=true)(hs:s'.size=s.size+1+x.size)(hx:x.size<=8):TailP q rest (pre++[x]) xs s':=by
 obtain⟨h1,h2,h3,h4⟩:=h;refine⟨by rw[h1];simp,by simp[h2,hq],by simp;omega,?_⟩
 constructor
 ·intro h;omega
 ·intro h;simp at h
theorem q6y(rb i least:Nat)(rest:List E0)(A:oA)(c:Nat)(t:EE)(w0 w:Ez)(L:ED)(hm:Mem w0 w L)(hi:L[i]?=some (rb,rdC A rest.length c t))(hS:SlAt zeS 1 w0 A rest)(hc:rest.length<=c)(hx:∀x∈rest,x.size<=1000000)(hn:rest.length<=1000000):
  Gv EG 237 [pp rb,ii least] w fun v w'=>∃pre rest' s,TailP (fun x=>q6 x least 8 false) rest pre rest' s/\seeB (fun x=>q6 x least 8 false) rest'=false/\
   v=.tuple #[.string s,.bool (decide (pre≠[]))]/\∃A' c',SlAt zeS 1 w0 A' rest'/\rest'.length<=c'/\Mem w0 w' (L.set i (rb,rdC A' rest'.length c' t)):=by
 refine ze Tryz.func237 Tryz.ntmps237 ?_;refine znm hm fun lb w1 hm1=>zw ?_;refine qj (fun x:List E0×oA×Nat×E0=>[(0,pp rb),(3,pp lb),(6,.string x.2.2.2)])
  (fun x w2=>∃pre,TailP (fun x=>q6 x least 8 false) rest pre x.1 x.2.2.2/\SlAt zeS 1 w0 x.2.1 x.1/\x.1.length<=x.2.2.1/\Mem w0 w2 ((lb,.cells #[ii least] 3)::L.set i (rb,rdC x.2.1 x.1.length x.2.2.1 t)))
  (fun x=>x.1.length) (rest,A,c,⟨#[]⟩) fq ⟨[],⟨rfl,rfl,by simp;rfl,by simp;rfl⟩,hS,hc,by simp only;rw[qab0 hi];exact hm1⟩ ?_
 rintro⟨xs,B,d,s⟩ w2 ρ' ⟨pre,hP,hS2,hd,hm2⟩;simp only at hP hS2 hd hm2;dsimp only;(conv=>whnf);have hil:i<L.length:=(Ae.1 hi).1;have hlb:=hm2.get mh;have hsz:∀x∈xs,x.size<=1000000:=fun x hxx=>hx x (by rw[hP.eq];exact Ai _ hxx)
 have hpl:pre.length<=1000000:=by have:=Af List.length hP.eq;simp at this;omega
 have hps:=hP.size;refine zcv (qkk rb 296 [pp lb] (fun x=>q6 x least 8 false) xs B d t w2 (hm2.get (zmg (i:=i+1) (by simp[hil]))) (hS2.ext hm2.ext) (fun x ys w3 e he=>q3j x lb least (by have:=hsz x (by rw[e];exact AK ..);omega) w3 (he.cell (by rw[qa hlb];rfl)))) ?_;rintro v w3 ⟨rfl,he⟩;have hm3:=hm2.call he;cases hq:seeB (fun x=>q6 x least 8 false) xs
 ·refine zu ?_;refine⟨pre,xs,s,hP,hq,?_,B,d,hS2,hd,hm3.sub (AP ..)⟩;have e:seq s ⟨#[]⟩=decide (pre=[]):=by
   rw[qlw,AV,decide_eq_true_iff,decide_eq_true_iff];exact hP.none
  rw[e]
  congr 3
  by_cases h:pre=[]<;>simp[h]
 ·obtain⟨x,ys,rfl⟩:∃x ys,xs=x::ys:=by
   cases xs with
   | nil=>cases hq
   | cons x ys=>exact⟨x,ys,rfl⟩
  have hq:q6 x least 8 false=true:=hq;have hx8:x.size<=8:=by simp[q6]at hq;omega
  simp only[As]at hd hm3|-;refine zu ?_;refine zcv (qfe rb (i+1) x ys B d t w0 w3 _ hm3 (by simp[hil]) hS2 hd) ?_;rintro v w4 ⟨rfl,A',c',hS4,hc4,hm4⟩;have hm4':Mem w0 w4 ((lb,.cells #[ii least] 3)::L.set i (rb,rdC A' ys.length c' t)):=by
   rw[List.set_cons_succ,DK]at hm4;exact hm4
  (conv=>whnf);refine⟨by show 1+x.size<=_;omega,?_⟩;(conv=>whnf);refine⟨by show s.size+(_:E0).size<=_;rw[bsz];show s.size+(1+x.size)<=_;omega,?_⟩;(conv=>whnf);exact⟨(ys,A',c',s++((⟨#[45]⟩:E0)++x)),fq,⟨pre++[x],hP.step hq (by rw[bsz,bsz];show s.size+(1+x.size)=_;omega) hx8,hS4,hc4,hm4'⟩,by simp⟩
def qey:Nat->List E0->List E0
 | 0,l=>l
 | _,[]=>[]
 | k+1,x::xs=>if q6 x 3 3 true=true then qey k xs else x::xs
def qeh:List E0->Option (List E0)
 | []=>none
 | x::xs=>if q6 x 2 8 true=true then some (if 3<x.size then xs else qey 3 xs)else none
def tagC(a0 a1 a2 a3:E0)(V E:E8)(a6:E0):EE:=[.string a0,.string a1,.string a2,.string a3,V,E,.string a6]
section
variable {w0 w:Ez} {L:ED} {i rb n c off:Nat} {A:oA} {t:EE} {v:E8}
theorem qht{K:EC}(hm:Mem w0 w L)(hi:L[i]?=some (rb,rdC A n c t))(k:Nat)(ho:off=1+k)(hk:k<t.length)(h1:qcx v=true)(hw:∀w',Mem w0 w' (L.set i (rb,rdC A n c (t.set k v)))->K w'):StoreV w rb off v K:=by
 subst ho;refine StoreV.mem hm hi Ys h1 fun w' h=>hw w' ?_;have e:(Value.slice A n c::t).toArray.setIfInBounds (1+k) v=(Value.slice A n c::t.set k v).toArray:=by
  rw[List.setIfInBounds_toArray,CB 1 k,List.set_cons_succ]
 rw[e]at h;exact h
theorem qgx{K:E8->Prop}(hm:Mem w0 w L)(hi:L[i]?=some (rb,rdC A n c t))(k:Nat)(ho:off=1+k)(hv:t[k]?=some v)(hk:K v):LoadV w rb off K:=by
 subst ho;exact LoadV.mem hm hi (by rw[Ar,CB 1 k,D3];exact hv) hk
end
theorem q1e(x:E0)(hs:x.size<=140737488355328)(w:Ez):Gv EG 288 [.string x] w fun v w'=>v=.bool (q6 x 2 8 true)/\Ext w w':=by
 have h1:=qdm x 2 8 true hs w;refine ze Tryz.func288 Tryz.ntmps288 ?_;refine zcv (h1) ?_;rintro v w' ⟨rfl,he⟩;(conv=>whnf);exact⟨rfl,he⟩
theorem q1f(x:E0)(hs:x.size<=140737488355328)(w:Ez):Gv EG 290 [.string x] w fun v w'=>v=.bool (q6 x 3 3 true)/\Ext w w':=by
 have h1:=qdm x 3 3 true hs w;refine ze Tryz.func290 Tryz.ntmps290 ?_;refine zcv (h1) ?_;rintro v w' ⟨rfl,he⟩;(conv=>whnf);exact⟨rfl,he⟩
theorem qq3(rb i:Nat)(rest:List E0)(A:oA)(c:Nat)(a0 a2 a3 a6:E0)(V E:E8)(w0 w:Ez)(L:ED)(hm:Mem w0 w L)(hi:L[i]?=some (rb,rdC A rest.length c (tagC a0 ⟨#[]⟩ a2 a3 V E a6)))(hS:SlAt zeS 1 w0 A rest)(hc:rest.length<=c)(hx:∀x∈rest,x.size<=1000000):
  Gv EG 234 [pp rb] w fun v w'=>(qeh rest=none/\v=.bool false/\Ext w0 w')\/
   (∃rest',qeh rest=some rest'/\v=.bool true/\∃A' c' b0 b1,SlAt zeS 1 w0 A' rest'/\rest'.length<=c'/\Mem w0 w' (L.set i (rb,rdC A' rest'.length c' (tagC b0 b1 a2 a3 V E a6)))):=by
 have hil:i<L.length:=(Ae.1 hi).1;refine ze Tryz.func234 Tryz.ntmps234 ?_;refine zcv (qkk rb 288 [] (fun x=>q6 x 2 8 true) rest A c _ w (hm.get (zmg hi)) (hS.ext hm.ext) (fun x ys w3 e he=>q1e x (by have:=hx x (by rw[e];exact AK ..);omega) w3)) ?_;rintro v w1 ⟨rfl,he⟩;have hm1:=hm.call he;cases rest with
 | nil=>
  refine zu ?_;exact .inl ⟨rfl,rfl,hm1.ext⟩
 | cons x xs=>
  show putV _ _ _ (Value.bool (q6 x 2 8 true)) _;cases hq:q6 x 2 8 true
  ·refine zu ?_;exact .inl ⟨by rw[qeh,Aa (by rw[hq];simp)],rfl,hm1.ext⟩
  ·have hR:qeh (x::xs)=some (if 3<x.size then xs else qey 3 xs):=by rw[qeh,Ad hq]
   rw[hR];have hx1:=hx x mh;simp only[As]at hi hm1 hc|-;refine zu ?_;refine zcv (qfe rb i x xs A c _ w0 w1 L hm1 hi hS hc) ?_;rintro v w2 ⟨rfl,A2,c2,hS2,hc2,hm2⟩;(conv=>whnf);refine qht hm2 (BF hil) 0 rfl (show 0<7 by decide) rfl ?_;intro w3 hm3;rw[DK]at hm3;replace hm3:Mem w0 w3 (L.set i (rb,rdC A2 xs.length c2 (tagC x ⟨#[]⟩ a2 a3 V E a6))):=hm3;(conv=>whnf);refine qgx hm3 (BF hil) 0 rfl rfl ?_;(conv=>whnf);refine zC (fun _=>zw ?_) (fun _=>zw ?_)
   ·rw[Ad Oo];exact .inr ⟨xs,rfl,rfl,A2,c2,x,⟨#[]⟩,hS2,hc2,hm3⟩
   ·rw[Aa Oo];refine qj (fun x:Nat×List E0×oA×Nat×E0=>[(0,pp rb),(3,ii x.1)])
     (fun y w2=>y.1<=3/\qey 3 xs=qey (3-y.1) y.2.1/\y.2.2.2.2.size<=y.1*1000001/\(∀x∈y.2.1,x.size<=1000000)/\SlAt zeS 1 w0 y.2.2.1 y.2.1/\y.2.1.length<=y.2.2.2.1/\Mem w0 w2 (L.set i (rb,rdC y.2.2.1 y.2.1.length y.2.2.2.1 (tagC x y.2.2.2.2 a2 a3 V E a6))))
     (fun y=>3-y.1) (0,xs,A2,c2,⟨#[]⟩) fq ⟨by simp,rfl,by simp;rfl,fun y hy=>hx y (zmc hy),hS2,hc2,hm3⟩ ?_
    rintro⟨k,ys,B,d,s⟩ w4 ρ' ⟨h1,h2,h3,h4,hS4,hc4,hm4⟩;simp only at h1 h2 h3 h4 hS4 hc4 hm4;dsimp only;(conv=>whnf);refine zC (fun _=>zu ?_) (fun _=>zu ?_)
    ·have hk:3-k=(2-k)+1:=by omega
     refine zcv (qkk rb 290 [] (fun x=>q6 x 3 3 true) ys B d _ w4 (hm4.get (zmg (BF hil))) (hS4.ext hm4.ext) (fun x zs w3 e he=>q1f x (by have:=h4 x (by rw[e];exact AK ..);omega) w3)) ?_;rintro v w5 ⟨rfl,he5⟩;have hm5:=hm4.call he5;cases ys with
     | nil=>
      refine zu ?_;refine .inr ⟨[],?_,rfl,B,d,x,s,hS4,hc4,hm5⟩;rw[h2,hk];rfl
     | cons y zs=>
      show putV _ _ _ (Value.bool (q6 y 3 3 true)) _;have hd3:qey (2-k+1) (y::zs)=if q6 y 3 3 true=true then qey (2-k) zs else y::zs:=rfl;rw[hk,hd3]at h2;cases hq:q6 y 3 3 true
      ·rw[Aa (by rw[hq];simp)]at h2;refine zu ?_;exact .inr ⟨y::zs,by rw[h2],rfl,B,d,x,s,hS4,hc4,hm5⟩
      ·rw[Ad hq]at h2;simp only[As]at hm5 hc4|-;have hy:=h4 y mh;(conv=>whnf);refine zt ?_;refine zC (fun _=>zw ?_) (fun _=>zw ?_)
       ·
        refine qgx hm5 (BF hil) 1 rfl rfl ?_;(conv=>whnf);refine⟨by show s.size+1<=_;omega,?_⟩;(conv=>whnf);refine qht hm5 (BF hil) 1 rfl (show 1<7 by decide) rfl ?_;intro w7 hm7;rw[DK]at hm7;replace hm7:Mem w0 w7 (L.set i (rb,rdC B (zs.length+1) d (tagC x (s++(⟨#[45]⟩:E0)) a2 a3 V E a6))):=hm7;(conv=>whnf);refine DrawV.inv (fun S w=>(S 11=false/\(bif S 6 then(∃A' c',SlAt zeS 1 w0 A' zs/\zs.length<=c'/\Mem w0 w (L.set i (rb,rdC A' zs.length c' (tagC x (s++(⟨#[45]⟩:E0)) a2 a3 V E a6))))else Mem w0 w (L.set i (rb,rdC B (zs.length+1) d (tagC x (s++(⟨#[45]⟩:E0)) a2 a3 V E a6)))))\/
          (S 11=true/\S 4=true/\S 6=true/\∃A' c',SlAt zeS 1 w0 A' zs/\zs.length<=c'/\Mem w0 w (L.set i (rb,rdC A' zs.length c' (tagC x ((s++(⟨#[45]⟩:E0))++y) a2 a3 V E a6))))) rfl Jk (.inl ⟨rfl,hm7.drew⟩) ?_
        (conv=>whnf);(iterate 4 (refine zi ?_));refine StepI.of (.string (s++(⟨#[45]⟩:E0))) (fun S wd hk hp hI=>?_) (zw ?_)
        ·obtain⟨h11,hI⟩:=hI.resolve_right (fun h=>by have:=h.2.1;rw[hk]at this;cases this);(conv=>whnf);cases h6:S 6
         ·rw[h6]at hI;refine qgx hI (BF hil) 1 rfl rfl ?_;(conv=>whnf);exact⟨rfl,.inl ⟨h11,by show bif S 6 then _ else _;rw[h6];exact hI⟩⟩
         ·rw[h6]at hI;obtain⟨A',c',hS',hc',hM⟩:=hI;refine qgx hM (BF hil) 1 rfl rfl ?_;(conv=>whnf);exact⟨rfl,.inl ⟨h11,by show bif S 6 then _ else _;rw[h6];exact⟨A',c',hS',hc',hM⟩⟩⟩
        refine zi ?_;refine StepI.of (.string y) (fun S wd hk hp hI=>?_) (zw ?_)
        ·obtain⟨h11,hI⟩:=hI.resolve_right (fun h=>by have:=h.2.2.1;rw[hk]at this;cases this);have h6:S 6=false:=hk;rw[h6]at hI;(conv=>whnf);refine zcv (qfe rb i y zs B d _ w0 wd _ hI (BF hil) hS4 hc4) ?_;rintro v w6 ⟨rfl,A',c',hS',hc',hM'⟩;rw[DK]at hM';(conv=>whnf);exact⟨rfl,.inl ⟨h11,A',c',hS',hc',hM'⟩⟩
        refine StepI.of (.string ((s++(⟨#[45]⟩:E0))++y)) (fun S wd hk hp hI=>zw ?_) (zw ?_)
        ·refine⟨by rw[bsz];show s.size+1+y.size<=_;omega,?_⟩;(conv=>whnf);exact⟨rfl,hI⟩
        (iterate 3 (refine zi ?_));refine StepI.of undef (fun S wd hk hp hI=>?_) (zw ?_)
        ·obtain⟨h11,hI⟩:=hI.resolve_right (fun h=>by have:=h.1;rw[hk]at this;cases this);have h4:=hp 4 Od;have h6:=hp 6 Od;rw[h6]at hI;obtain⟨A',c',hS',hc',hM⟩:=hI;(conv=>whnf);refine qht hM (BF hil) 1 rfl (show 1<7 by decide) rfl ?_;intro w6 hM';rw[DK]at hM';(conv=>whnf);exact⟨rfl,.inr ⟨rfl,h4,h6,A',c',hS',hc',hM'⟩⟩
        intro w6 hI;obtain⟨_,_,_,A',c',hS',hc',hM⟩:=hI.resolve_left (fun h=>by have:=h.1;cases this);refine zu ?_;refine⟨(k+1,zs,A',c',(s++(⟨#[45]⟩:E0))++y),fq,⟨by simp only;omega,?_,?_,fun x hx=>h4 x (zmc hx),hS',hc',hM⟩,by simp only;omega⟩
        ·rw[h2];simp only;rw[show 3-(k+1)=2-k by omega]
        ·simp only[bsz,show(⟨#[45]⟩:E0).size=1 from rfl];omega
       ·skip
        refine DrawV.inv (fun S w=>(S 11=false/\(bif S 6 then(∃A' c',SlAt zeS 1 w0 A' zs/\zs.length<=c'/\Mem w0 w (L.set i (rb,rdC A' zs.length c' (tagC x s a2 a3 V E a6))))else Mem w0 w (L.set i (rb,rdC B (zs.length+1) d (tagC x s a2 a3 V E a6)))))\/
          (S 11=true/\S 4=true/\S 6=true/\∃A' c',SlAt zeS 1 w0 A' zs/\zs.length<=c'/\Mem w0 w (L.set i (rb,rdC A' zs.length c' (tagC x (s++y) a2 a3 V E a6))))) rfl Jk (.inl ⟨rfl,hm5.drew⟩) ?_
        (conv=>whnf);(iterate 4 (refine zi ?_));refine StepI.of (.string s) (fun S wd hk hp hI=>?_) (zw ?_)
        ·obtain⟨h11,hI⟩:=hI.resolve_right (fun h=>by have:=h.2.1;rw[hk]at this;cases this);(conv=>whnf);cases h6:S 6
         ·rw[h6]at hI;refine qgx hI (BF hil) 1 rfl rfl ?_;(conv=>whnf);exact⟨rfl,.inl ⟨h11,by show bif S 6 then _ else _;rw[h6];exact hI⟩⟩
         ·rw[h6]at hI;obtain⟨A',c',hS',hc',hM⟩:=hI;refine qgx hM (BF hil) 1 rfl rfl ?_;(conv=>whnf);exact⟨rfl,.inl ⟨h11,by show bif S 6 then _ else _;rw[h6];exact⟨A',c',hS',hc',hM⟩⟩⟩
        refine zi ?_;refine StepI.of (.string y) (fun S wd hk hp hI=>?_) (zw ?_)
        ·obtain⟨h11,hI⟩:=hI.resolve_right (fun h=>by have:=h.2.2.1;rw[hk]at this;cases this);have h6:S 6=false:=hk;rw[h6]at hI;(conv=>whnf);refine zcv (qfe rb i y zs B d _ w0 wd _ hI (BF hil) hS4 hc4) ?_;rintro v w6 ⟨rfl,A',c',hS',hc',hM'⟩;rw[DK]at hM';(conv=>whnf);exact⟨rfl,.inl ⟨h11,A',c',hS',hc',hM'⟩⟩
        refine StepI.of (.string (s++y)) (fun S wd hk hp hI=>zw ?_) (zw ?_)
        ·refine⟨by show s.size+y.size<=_;omega,?_⟩;(conv=>whnf);exact⟨rfl,hI⟩
        (iterate 3 (refine zi ?_));refine StepI.of undef (fun S wd hk hp hI=>?_) (zw ?_)
        ·obtain⟨h11,hI⟩:=hI.resolve_right (fun h=>by have:=h.1;rw[hk]at this;cases this);have h4:=hp 4 Od;have h6:=hp 6 Od;rw[h6]at hI;obtain⟨A',c',hS',hc',hM⟩:=hI;(conv=>whnf);refine qht hM (BF hil) 1 rfl (show 1<7 by decide) rfl ?_;intro w6 hM';rw[DK]at hM';(conv=>whnf);exact⟨rfl,.inr ⟨rfl,h4,h6,A',c',hS',hc',hM'⟩⟩
        intro w6 hI;obtain⟨_,_,_,A',c',hS',hc',hM⟩:=hI.resolve_left (fun h=>by have:=h.1;cases this);refine zu ?_;refine⟨(k+1,zs,A',c',s++y),fq,⟨by simp only;omega,?_,?_,fun x hx=>h4 x (zmc hx),hS',hc',hM⟩,by simp only;omega⟩
        ·rw[h2];simp only;rw[show 3-(k+1)=2-k by omega]
        ·simp only[bsz];omega
    ·refine .inr ⟨ys,?_,rfl,B,d,x,s,hS4,hc4,hm4⟩;rw[h2,show 3-k=0 by omega];rfl
open Go.RowKit
namespace V
structure RowB(e:E6)(xs:EE)(L:ED)(v:E8):Prop where
 h:(v=.slice none 0 0/\xs=[])\/∃g cap cur,v=.slice (some ⟨g,0,none⟩) xs.length cap/\(g,Obj.cells cur e)∈L/\xs.length<=cap/\cap<=maxLen/\cur.size=cap/\cur.toList.take xs.length=xs
section
variable {w0 w:Ez} {L L':ED} {e:E6} {xs:EE} {v:E8}
theorem RowB.nil(e:E6)(L:ED):RowB e [] L (.slice none 0 0):=⟨.inl ⟨rfl,rfl⟩⟩
theorem RowB.owns(h:RowB e xs L v)(hm:Mem w0 w L):w.ownsRow w0.heap.size e 1 v xs.length xs:=by
 refine⟨(Bk _).symm,?_⟩
 rcases h.h with⟨rfl,rfl⟩|⟨g,cap,cur,rfl,hg,h1,h2,h3,h4⟩
 ·exact .inl ⟨rfl,rfl⟩
 ·exact .inr ⟨g,cap,cur,rfl,(hm.own _ hg).1,hm.get hg,h1,h2,by rw[h3,Bk],by rw[Bk];exact h4⟩
theorem RowB.keep(h:RowB e xs L v)(hk:∀y∈L,v.ownBlock=some y.1->y∈L'):RowB e xs L' v:=by
 refine⟨?_⟩
 rcases h.h with h|⟨g,cap,cur,rfl,hg,h1⟩
 ·exact .inl h
 ·exact .inr ⟨g,cap,cur,rfl,hk _ hg rfl,h1⟩
theorem RowB.in_(h:RowB e xs L v)(hg:v.ownBlock=some g):∃o,(g,o)∈L:=by
 rcases h.h with⟨rfl,_⟩|⟨g',cap,cur,rfl,h',_⟩
 ·cases hg
 ·cases hg;exact⟨_,h'⟩
theorem RowB.slice(h:RowB e xs L v):∃A c,v=.slice A xs.length c:=by
 rcases h.h with⟨rfl,rfl⟩|⟨g,cap,cur,rfl,_⟩
 ·exact⟨_,_,rfl⟩
 ·exact⟨_,_,rfl⟩
theorem RowB.sl{l:List E0}{n:Nat}(h:RowB e (l.map Value.string) L (.slice A n c))(hm:Mem w0 w L):SlAt zeS 1 w A l:=by
 refine⟨fun hne=>?_⟩
 rcases h.h with⟨_,h0⟩|⟨g,cap,cur,hv,hg,h1,_,_,h4⟩
 ·simp at h0;exact absurd h0 hne
 ·cases hv;refine⟨g,0,rfl,fun j x hx k u hu=>?_⟩;cases k with
  | succ k=>simp[zeS]at hu
  | zero=>
   simp only[zeS,B9,Bp]at hu;subst hu;have hj:(cur.toList.take (l.map Value.string).length)[j]?=some (.string x):=by rw[h4,Ao,hx];rfl
   rw[Bc]at hj
   split at hj
   ·rw[qa (hm.get hg)]
    simpa using hj
   ·cases hj
end
theorem AppV.blk{t:E6}{i:TypeInfo}{n:Nat}(ht:P.underlying t=some (.slice e))(hi:P.info? e=some i)(hz:i.zero=some z)(hsize:i.size=1)(hzs:z.cells.size=1)(hby:i.bytes<=16)(hm:Mem w0 w L)(hr:RowB e xs L (.slice A n c))(hn:n=xs.length)(hx:x.oneCell'=true)(hb:w.cell? ⟨nb,0,none⟩=some x)(hlen:n+1<=8000000000000)(hk:∀A' c' w' L',Mem w0 w' L'->RowB e (xs++[x]) L' (.slice A' (n+1) c')->(∀y∈L,Value.ownBlock (.slice A n c)≠some y.1->y∈L')->
   (∀g,Value.ownBlock (.slice A' (n+1) c')=some g->Value.ownBlock (.slice A n c)=some g\/∀y∈L,y.1≠g)->K (.slice A' (n+1) c') w'):AppV P #[t,t] ty (.slice A n c) (.slice (some ⟨nb,0,none⟩) 1 1) w K:=by
 subst hn;refine AppV.own (news:=[x]) ht hi hz hsize hzs Od (hr.owns hm) hm.ext.size rfl (fun _=>⟨nb,0,rfl,fun k u hu=>?_⟩) (fun u hu=>by simp at hu;rw[hu];exact hx) ?_ Oo ?_
 ·cases k with
  | zero=>simp at hu;subst hu;exact hb
  | succ k=>simp at hu
 ·exact AU (BT hlen hby) Od
 ·intro v' w' ho hg hor
  rcases ho.2 with⟨_,h0⟩|⟨g,cap,cur,rfl,hg0,hgw,h1,h2,h3,h4⟩
  ·omega
  ·have hltL:∀y∈L,y.1<w.heap.size:=fun y hy=>hm.lt (b:=y.1) (o:=y.2) hy
   have hne:∀y∈L,Value.ownBlock (.slice A xs.length c)≠some y.1->y.1≠g:=fun y hy hv e=>by
    rcases hor with hor|hor
    ·exact hv (by rw[<-hor,e];rfl)
    ·have:=hltL y hy;simp only[Value.ownBlock,Bp]at hor;omega
   refine hk _ cap w' ((g,.cells cur e)::L.filter fun y=>decide (Value.ownBlock (.slice A xs.length c)≠some y.1)) ⟨?_,?_,?_⟩ ⟨.inr ⟨g,cap,cur,by simp,AK ..,by simpa using h1,h2,by rw[h3,Bk],by rw[Bk]at h4;simpa using h4⟩⟩ ?_ ?_
   ·exact Below.grown hm.ext hg hm.ext.size (fun k hk=>((hr.owns hm).lt k hk).1)
   ·intro y hy
    rcases AD.1 hy with rfl|hy
    ·exact⟨hg0,hgw⟩
    ·obtain⟨hy,hv⟩:=B0.1 hy;have hv:=BR hv;refine⟨(hm.own y hy).1,?_⟩;rw[hg.block y.1 (hltL y hy) (fun e=>hv e.symm)];exact(hm.own y hy).2
   ·simp only[AO,DQ];refine⟨fun hmem=>?_,(List.filter_sublist.map _).nodup hm.nodup⟩;obtain⟨y,hy,e⟩:=AY.1 hmem;obtain⟨hy,hv⟩:=B0.1 hy;exact hne y hy (BR hv) e
   ·intro y hy hv;exact zmc (B0.2 ⟨hy,Az hv⟩)
   ·intro g' hg';cases hg'
    rcases hor with hor|hor
    ·exact .inl hor.symm
    ·right
     intro y hy e;have:=hltL y hy;have hor:g=w.heap.size:=BB hor;have e:y.1=g:=e;omega
structure RowsP(e:E6)(O:EF)(L:ED)(R:List (EE×E8)):Prop where
 row:∀(k:Nat) p,R[k]?=some p->RowB e p.1 L p.2
 out:∀(k:Nat) p g,R[k]?=some p->p.2.ownBlock=some g->g∉O
 ap:∀(k k':Nat) p p' g,R[k]?=some p->R[k']?=some p'->k≠k'->p.2.ownBlock=some g->p'.2.ownBlock≠some g
theorem RowsP.keep{R:List (EE×E8)}(h:RowsP e O L R)(hk:∀y∈L,y.1∉O->y∈L'):RowsP e O L' R:=
 ⟨fun k p hp=>(h.row k p hp).keep fun y hy hv=>hk y hy (h.out k p y.1 hp hv),h.out,h.ap⟩
theorem RowsP.app{R:List (EE×E8)}{t:E6}{i:TypeInfo}{n:Nat}(h:RowsP e O L R)(k:Nat)(hk:R[k]?=some (xs,.slice A n c))(ht:P.underlying t=some (.slice e))(hi:P.info? e=some i)(hz:i.zero=some z)(hsize:i.size=1)(hzs:z.cells.size=1)(hby:i.bytes<=16)(hm:Mem w0 w L)(hO:∀g∈O,∃o,(g,o)∈L)(hn:n=xs.length)(hx:x.oneCell'=true)(hb:w.cell? ⟨nb,0,none⟩=some x)(hlen:n+1<=8000000000000)(hK:∀A' c' w' L',Mem w0 w' L'->RowsP e O L' (R.set k (xs++[x],.slice A' (n+1) c'))->(∀y∈L,y.1∈O->y∈L')->K (.slice A' (n+1) c') w'):AppV P #[t,t] ty (.slice A n c) (.slice (some ⟨nb,0,none⟩) 1 1) w K:=by
 refine AppV.blk ht hi hz hsize hzs hby hm (h.row k _ hk) hn hx hb hlen fun A' c' w' L' hm' hr' hkeep hown=>hK A' c' w' L' hm' ?_ ?_
 ·have hkl:k<R.length:=(Ae.1 hk).1;have other:∀(j:Nat) p,(R.set k (xs++[x],.slice A' (n+1) c'))[j]?=some p->(j=k/\p=(xs++[x],.slice A' (n+1) c'))\/(j≠k/\R[j]?=some p):=fun j p hp=>by
   rw[BX]at hp
   split at hp
   ·rename_i ejk
    exact .inl ⟨ejk.symm,by simpa[hkl]using hp.symm⟩
   ·rename_i hne
    exact .inr ⟨fun ejk=>hne ejk.symm,hp⟩
  have fresh:∀(j:Nat) p g,j≠k->R[j]?=some p->p.2.ownBlock=some g->Value.ownBlock (.slice A' (n+1) c')≠some g:=fun j p g hj hp hg hg'=>by
   rcases hown g hg' with ho|ho
   ·exact h.ap j k p _ g hp hk hj hg ho
   ·obtain⟨o,hin⟩:=(h.row j p hp).in_ hg;exact ho _ hin rfl
  refine⟨fun j p hp=>?_,fun j p g hp hg=>?_,fun j j' p p' g hp hp' hne hg=>?_⟩
  ·rcases other j p hp with⟨_,rfl⟩|⟨hj,hp⟩
   ·exact hr'
   ·exact(h.row j p hp).keep fun y hy hv=>hkeep y hy (h.ap j k p _ y.1 hp hk hj hv)
  ·rcases other j p hp with⟨_,rfl⟩|⟨hj,hp⟩
   ·rcases hown g hg with ho|ho
    ·exact h.out k _ g hk ho
    ·intro hgO;obtain⟨o,hin⟩:=hO g hgO;exact ho _ hin rfl
   ·exact h.out j p g hp hg
  ·rcases other j p hp with⟨ej,rfl⟩|⟨hj,hp⟩<;>rcases other j' p' hp' with⟨ej',rfl⟩|⟨hj',hp'⟩
   ·exact absurd (ej.trans ej'.symm) hne
   ·intro hg';exact fresh j' p' g hj' hp' hg' hg
   ·exact fresh j p g hj hp hg
   ·exact h.ap j j' p p' g hp hp' hne hg
 ·intro y hy hyO;exact hkeep y hy fun hv=>h.out k _ y.1 hk hv hyO
end V
theorem qfn{o:Obj}(hi:L[i]?=some (rb,o)):(rb,o')∈L.set i (rb,o')/\∀y∈L,y.1≠rb->y∈L.set i (rb,o'):=by
 have hil:i<L.length:=(Ae.1 hi).1;refine⟨zmg (BF hil),fun y hy hne=>?_⟩;obtain⟨j,hj⟩:=Bi.1 hy;refine zmg (i:=j) ?_;rw[List.getElem?_set_ne (fun e=>hne ?_),hj];subst e;rw[hi]at hj;cases hj;rfl
section
variable {w0 w:Ez} {L:ED} {rb n c off:Nat} {A:oA} {t:EE} {v:E8}
structure RdM(w0 w':Ez)(L:ED)(rb:Nat)(o':Obj)(L':ED):Prop where
 mem:Mem w0 w' L'
 rd:(rb,o')∈L'
 keep:∀y∈L,y.1≠rb->y∈L'
theorem qfh{K:EC}(hm:Mem w0 w L)(hi:(rb,rdC A n c t)∈L)(k:Nat)(ho:off=1+k)(hk:k<t.length)(h1:qcx v=true)(hw:∀w' L',RdM w0 w' L rb (rdC A n c (t.set k v)) L'->K w'):StoreV w rb off v K:=by
 obtain⟨i,hi⟩:=Bi.1 hi;exact qht hm hi k ho hk h1 fun w' h=>hw w' _ ⟨h,(qfn hi).1,(qfn hi).2⟩
theorem qwl{K:E8->Prop}(hm:Mem w0 w L)(hi:(rb,rdC A n c t)∈L)(k:Nat)(ho:off=1+k)(hv:t[k]?=some v)(hk:K v):LoadV w rb off K:=by
 obtain⟨i,hi⟩:=Bi.1 hi;exact qgx hm hi k ho hv hk
theorem q6j{x:E0}{xs:List E0}(hm:Mem w0 w L)(hi:(rb,rdC A (xs.length+1) c t)∈L)(hS:SlAt zeS 1 w0 A (x::xs))(hc:xs.length+1<=c):
  Gv EG 236 [pp rb] w fun v w'=>v=.string x/\∃A' c' L',SlAt zeS 1 w0 A' xs/\xs.length<=c'/\RdM w0 w' L rb (rdC A' xs.length c' t) L':=by
 obtain⟨i,hi⟩:=Bi.1 hi;refine(qfe rb i x xs A c t w0 w L hm hi hS hc).mono ?_;rintro v w' ⟨rfl,A',c',h1,h2,h3⟩;exact⟨rfl,A',c',_,h1,h2,⟨h3,(qfn hi).1,(qfn hi).2⟩⟩
theorem qwm{rest:List E0}{least:Nat}(hm:Mem w0 w L)(hi:(rb,rdC A rest.length c t)∈L)(hS:SlAt zeS 1 w0 A rest)(hc:rest.length<=c)(hx:∀x∈rest,x.size<=1000000)(hn:rest.length<=1000000):
  Gv EG 237 [pp rb,ii least] w fun v w'=>∃pre rest' s,TailP (fun x=>q6 x least 8 false) rest pre rest' s/\seeB (fun x=>q6 x least 8 false) rest'=false/\
   v=.tuple #[.string s,.bool (decide (pre≠[]))]/\∃A' c' L',SlAt zeS 1 w0 A' rest'/\rest'.length<=c'/\RdM w0 w' L rb (rdC A' rest'.length c' t) L':=by
 obtain⟨i,hi⟩:=Bi.1 hi;refine(q6y rb i least rest A c t w0 w L hm hi hS hc hx hn).mono ?_;rintro v w' ⟨pre,rest',s,h1,h2,rfl,A',c',h3,h4,h5⟩;exact⟨pre,rest',s,h1,h2,rfl,A',c',_,h3,h4,⟨h5,(qfn hi).1,(qfn hi).2⟩⟩
end
def qdv:List E0->List E0
 | []=>[]
 | x::xs=>if q6 x 4 4 true=true then xs else x::xs
def qcz:List E0->List E0
 | []=>[]
 | x::xs=>if regB x=true then xs else x::xs
open Classical in
noncomputable def qia:List E0->List E0->Option (List E0×List E0)
 | seen,[]=>some (seen,[])
 | seen,x::xs=>if varB x=true then(if lowS x∈seen then none else qia (seen++[lowS x]) xs)else some (seen,x::xs)
def extQ(x:E0):Bool:=q6 x 2 8 false
def extS(x:E0):Bool:=q6 x 1 1 false && !qe0 x
open Classical in
noncomputable def extN:Nat->List E0->List E0->Option (List E0)
 | _,_,[]=>some []
 | 0,_,rest=>some rest
 | k+1,seen,x::xs=>if extS x=true then(if xs.takeWhile extQ=[]\/lowS x∈seen then none else extN k (seen++[lowS x]) (xs.dropWhile extQ))else some (x::xs)
noncomputable def qja(rest:List E0):Option (List E0):=(qia [] (qcz (qdv rest))).bind fun r=>extN r.2.length r.1 r.2
theorem TailP.take{q:E0->Bool}{rest pre rest':List E0}(h:TailP q rest pre rest' s)(h2:seeB q rest'=false):rest.takeWhile q=pre/\rest.dropWhile q=rest':=by
 have ha:=Ce.1 h.all;rw[h.eq,List.takeWhile_append_of_pos ha,List.dropWhile_append_of_pos ha];cases rest' with
 | nil=>simp
 | cons y ys=>
  have:q y=false:=h2;simp[this]
theorem q20(x:E0)(hs:x.size<=140737488355328)(w:Ez):Gv EG 291 [.string x] w fun v w'=>v=.bool (q6 x 4 4 true)/\Ext w w':=by
 have h1:=qdm x 4 4 true hs w;refine ze Tryz.func291 Tryz.ntmps291 ?_;refine zcv (h1) ?_;rintro v w' ⟨rfl,he⟩;(conv=>whnf);exact⟨rfl,he⟩
theorem q21(x:E0)(hs:x.size<=140737488355328)(w:Ez):Gv EG 295 [.string x] w fun v w'=>v=.bool (extS x)/\Ext w w':=by
 have h1:=qdm x 1 1 false hs w;refine ze Tryz.func295 Tryz.ntmps295 ?_;refine zcv (h1) ?_;rintro v w1 ⟨rfl,he⟩;cases hm:q6 x 1 1 false
 ·refine zu ?_;exact⟨by rw[extS,hm];rfl,he⟩
 ·refine zu ?_;refine zcv (qgw x w1) ?_;rintro v w2 ⟨rfl,rfl⟩;refine zu ?_;exact⟨by rw[extS,hm];rfl,he⟩
theorem qg7(l:List E0)(A:oA)(c:Nat)(x:E0)(w:Ez)(hS:SlAt zeS 1 w A l)(hl:l.length<=9223372036854775807):
  Gv EG 294 [.slice A l.length c,.string x] w fun v w'=>(∃b,v=.bool b/\(b=true↔x∈l))/\w'=w:=by
 cases l with
 | nil=>
  refine(qxu Jk (Tryz.slices_Contains_string_empty A c x w)).mono ?_;rintro v w' ⟨rfl,rfl⟩;exact⟨⟨false,rfl,by simp⟩,rfl⟩
 | cons y ys=>
  obtain⟨b,off,rfl,h⟩:=hS.at_ Js;refine(qxu Jk (Tryz.slices_Contains_string b off (y::ys).length c (y::ys) x w znr hl (fun j hj=>?_))).mono ?_
  ·have:=h j _ (zge hj) 0 (.string (y::ys)[j]) rfl;rw[Ag,zge hj,CI]
   simpa using this
  ·rintro v w' ⟨rfl,rfl⟩;exact⟨⟨_,rfl,by rw[Go.Lib.containsS_iff,Bg]⟩,rfl⟩
structure RS(w0 w:Ez)(O:EF)(rb:Nat)(rest:List E0)(A:oA)(c:Nat)(V E:E8)(L:ED)(R:List (EE×E8)):Prop where
 mem:Mem w0 w L
 rd:∃a0 a1 a2 a3 a6,(rb,rdC A rest.length c (tagC a0 a1 a2 a3 V E a6))∈L
 rows:RowsP 9 O L R
 sl:SlAt zeS 1 w0 A rest
 hc:rest.length<=c
 hO:rb∈O
 all:∀g∈O,∃o,(g,o)∈L
 small:∀x∈rest,x.size<=1000000
 vs:(∃A n c,V=.slice A n c)/\∃A n c,E=.slice A n c
section
variable {w0 w w':Ez} {O:EF} {rb:Nat} {rest xs:List E0} {x:E0} {A A':oA} {c c':Nat} {V E V' E':E8} {L L':ED} {R:List (EE×E8)} {o':Obj}
theorem RS.call(h:RS w0 w O rb rest A c V E L R)(he:Ext w w'):RS w0 w' O rb rest A c V E L R:={ h with mem:=h.mem.call he }
theorem RS.step(h:RS w0 w O rb rest A c V E L R)(hr:RdM w0 w' L rb o' L')(ho:∃a0 a1 a2 a3 a6,o'=rdC A' xs.length c' (tagC a0 a1 a2 a3 V' E' a6))(hS:SlAt zeS 1 w0 A' xs)(hc:xs.length<=c')(hsub:∀y∈xs,y∈rest)(hvs:(∃A n c,V'=.slice A n c)/\∃A n c,E'=.slice A n c):RS w0 w' O rb xs A' c' V' E' L' R:=by
 obtain⟨a0,a1,a2,a3,a6,rfl⟩:=ho;refine⟨hr.mem,⟨a0,a1,a2,a3,a6,hr.rd⟩,h.rows.keep fun y hy hO=>hr.keep y hy fun e=>hO (e ▸ h.hO),hS,hc,h.hO,fun g hg=>?_,fun y hy=>h.small y (hsub y hy),hvs⟩
 by_cases e:g=rb
 ·subst e;exact⟨_,hr.rd⟩
 ·obtain⟨o,ho⟩:=h.all g hg;exact⟨o,hr.keep _ ho e⟩
theorem RS.grow(h:RS w0 w O rb rest A c V E L R)(hm:Mem w0 w' L')(hR:RowsP 9 O L' R')(hk:∀y∈L,y.1∈O->y∈L'):RS w0 w' O rb rest A c V E L' R':=by
 obtain⟨a0,a1,a2,a3,a6,hrd⟩:=h.rd;refine⟨hm,⟨a0,a1,a2,a3,a6,hk _ hrd h.hO⟩,hR,h.sl,h.hc,h.hO,fun g hg=>?_,h.small,h.vs⟩;obtain⟨o,ho⟩:=h.all g hg;exact⟨o,hk _ ho hg⟩
theorem RS.new{o:Obj}(h:RS w0 w O rb rest A c V E L R)(hb:nb=w.heap.size)(hw:w'=w.alloc o):RS w0 w' O rb rest A c V E L R/\w'.heap[nb]?=some o:=by
 subst hb hw;exact⟨h.call ((Ext.refl w).alloc o),heap_alloc_new w o⟩
end
theorem NewV.rs{rest:List E0}{V E:E8}{R:List (EE×E8)}{o:Obj}{K:Nat->EC}(h:RS w0 w O rb rest A c V E L R)(hk:∀b w',RS w0 w' O rb rest A c V E L R->w'.heap[b]?=some o->K b w'):NewV w o K:=
 ⟨fun b w' hb hw=>hk b w' (h.new hb hw).1 (h.new hb hw).2⟩
theorem qjd{rest:List E0}{V E:E8}{R:List (EE×E8)}(p:E0->Bool)(h:RS w0 w O rb rest A c V E L R)(hp:∀x w1,x.size<=140737488355328->Gv EG g [.string x] w1 fun v w2=>v=.bool (p x)/\Ext w1 w2):
  Gv EG 232 [pp rb,.func (.func g) #[] #[]] w fun v w'=>v=.bool (seeB p rest)/\RS w0 w' O rb rest A c V E L R:=by
 obtain⟨a0,a1,a2,a3,a6,hrd⟩:=h.rd;refine(qkk rb g [] p rest A c _ w (h.mem.get hrd) (h.sl.ext h.mem.ext) (fun x ys w3 e _=>hp x w3 (by have:=h.small x (by rw[e];exact AK ..);omega))).mono ?_;rintro v w' ⟨rfl,he⟩;exact⟨rfl,h.call he⟩
theorem qla{x:E0}{xs:List E0}{V E:E8}{R:List (EE×E8)}(h:RS w0 w O rb (x::xs) A c V E L R):
  Gv EG 236 [pp rb] w fun v w'=>v=.string x/\∃A' c' L',RS w0 w' O rb xs A' c' V E L' R/\(∀y∈L,y.1≠rb->y∈L'):=by
 obtain⟨a0,a1,a2,a3,a6,hrd⟩:=h.rd;refine(q6j h.mem hrd h.sl h.hc).mono ?_;rintro v w' ⟨rfl,A',c',L',h1,h2,h3⟩;exact⟨rfl,A',c',L',h.step h3 ⟨_,_,_,_,_,rfl⟩ h1 h2 (fun y hy=>zmc hy) h.vs,h3.keep⟩
theorem strI:EG.info? 9=some ((EG.info? 9).get Jk):=(Bn _).symm
theorem strZ:((EG.info? 9).get Jk).zero=some (.string ⟨#[]⟩):=by kernel_rfl
theorem RowsP.nils(e:E6)(O:EF)(L:ED)(R:List (EE×E8))(h:∀p∈R,p=([],.slice none 0 0)):RowsP e O L R:=by
 refine⟨fun k p hp=>?_,fun k p g hp hg=>?_,fun k k' p p' g hp hp' _ hg=>?_⟩
 ·rw[h p (zmg hp)];exact RowB.nil e L
 ·rw[h p (zmg hp)]at hg;cases hg
 ·rw[h p (zmg hp)]at hg;cases hg
theorem RowsP.none_:RowsP e O L []:=RowsP.nils e O L [] Js
theorem qyu{rest r1 r2:List E0}(e1:qdv rest=r1)(e2:qcz r1=r2):qja rest=(qia [] r2).bind fun r=>extN r.2.length r.1 r.2:=by rw[qja,e1,e2]
theorem q6n(rb:Nat)(O:EF)(rest:List E0)(A:oA)(c:Nat)(w0 w:Ez)(L:ED)(h:RS w0 w O rb rest A c (.slice none 0 0) (.slice none 0 0) L [])(hn:rest.length<=1000000):
  Gv EG 235 [pp rb] w fun v w'=>(qja rest=none/\v=.bool false/\Ext w0 w')\/
   (∃rest',qja rest=some rest'/\v=.bool true/\∃A' c' V E L',RS w0 w' O rb rest' A' c' V E L' []/\rest'.length<=rest.length/\∀y∈L,y.1∈O->y.1≠rb->y∈L'):=by
 refine ze Tryz.func235 Tryz.ntmps235 ?_;refine zcv (qjd (fun x=>q6 x 4 4 true) h (fun x w1 hx=>q20 x hx w1)) ?_;rintro v w1 ⟨rfl,h1⟩;(conv=>whnf);cases hq:seeB (fun x=>q6 x 4 4 true) rest
 case' false=>
  refine zv ?_;obtain⟨r1,A1,c1,L1,e1,g1,k1,l1⟩:∃r1 A1 c1 L1,qdv rest=r1/\RS w0 w1 O rb r1 A1 c1 (.slice none 0 0) (.slice none 0 0) L1 []/\(∀y∈L,y.1∈O->y.1≠rb->y∈L1)/\r1.length<=rest.length:=by
   refine⟨rest,A,c,L,?_,h1,fun y hy _ _=>hy,Aq _⟩;cases rest with
   | nil=>rfl
   | cons x xs=>rw[qdv,Aa (by have:q6 x 4 4 true=false:=hq;rw[this];simp)]
  clear hq h1
 case' true=>
  obtain⟨x,xs,rfl⟩:∃x xs,rest=x::xs:=by
   cases rest with
   | nil=>cases hq
   | cons x xs=>exact⟨x,xs,rfl⟩
  have hq:q6 x 4 4 true=true:=hq;refine zv ?_;refine zcv (qla h1) ?_;rintro v w2 ⟨rfl,A2,c2,L2,h2,k2⟩;(conv=>whnf);obtain⟨a0,a1,a2,a3,a6,hrd⟩:=id h2.rd;refine qfh h2.mem hrd 2 rfl (show 2<7 by decide) rfl ?_;intro w1 L3 hr3;obtain⟨r1,A1,c1,L1,e1,g1,k1,l1⟩:∃r1 A1 c1 L1,qdv (x::xs)=r1/\RS w0 w1 O rb r1 A1 c1 (.slice none 0 0) (.slice none 0 0) L1 []/\(∀y∈L,y.1∈O->y.1≠rb->y∈L1)/\r1.length<=(x::xs).length:=
   ⟨xs,A2,c2,L3,by rw[qdv,Ad hq],h2.step hr3 ⟨_,_,_,_,_,rfl⟩ h2.sl h2.hc (fun y hy=>hy) h2.vs,fun y hy _ hne=>hr3.keep y (k2 y hy hne) hne,by simp⟩
  clear hq h1 h2 hr3 hrd k2;conv=>whnf
 all_goals
  refine zcv (qjd regB g1 (fun x w1 hx=>qyt x hx w1)) ?_;rintro v w1 ⟨rfl,g1⟩;(conv=>whnf);cases hq:seeB regB r1
  case' false=>
   refine zv ?_;obtain⟨r2,A2,c2,L2,e2,g2,k2,l2⟩:∃r2 A2 c2 L2,qcz r1=r2/\RS w0 w1 O rb r2 A2 c2 (.slice none 0 0) (.slice none 0 0) L2 []/\(∀y∈L1,y.1∈O->y.1≠rb->y∈L2)/\r2.length<=r1.length:=by
    refine⟨r1,A1,c1,L1,?_,g1,fun y hy _ _=>hy,Aq _⟩;cases r1 with
    | nil=>rfl
    | cons x xs=>rw[qcz,Aa (by have:regB x=false:=hq;rw[this];simp)]
   clear hq g1
  case' true=>
   obtain⟨x,xs,rfl⟩:∃x xs,r1=x::xs:=by
    cases r1 with
    | nil=>cases hq
    | cons x xs=>exact⟨x,xs,rfl⟩
   have hq:regB x=true:=hq;refine zv ?_;refine zcv (qla g1) ?_;rintro v w2 ⟨rfl,A3,c3,L3,h3,k3⟩;(conv=>whnf);obtain⟨a0,a1,a2,a3,a6,hrd⟩:=id h3.rd;refine qfh h3.mem hrd 3 rfl (show 3<7 by decide) rfl ?_;intro w1 L4 hr3;obtain⟨r2,A2,c2,L2,e2,g2,k2,l2⟩:∃r2 A2 c2 L2,qcz (x::xs)=r2/\RS w0 w1 O rb r2 A2 c2 (.slice none 0 0) (.slice none 0 0) L2 []/\(∀y∈L1,y.1∈O->y.1≠rb->y∈L2)/\r2.length<=(x::xs).length:=
    ⟨xs,A3,c3,L4,by rw[qcz,Ad hq],h3.step hr3 ⟨_,_,_,_,_,rfl⟩ h3.sl h3.hc (fun y hy=>hy) h3.vs,fun y hy _ hne=>hr3.keep y (k3 y hy hne) hne,by simp⟩
   clear hq g1 h3 hr3 hrd k3;conv=>whnf
 all_goals
  have eR:=qyu e1 e2;rw[eR];refine qj (fun x:List E0×List E0×oA×Nat=>[(0,pp rb),(3,.slice x.2.2.1 x.1.length x.2.2.2)])
   (fun x w3=>∃A c V E L3 vs,RS w0 w3 O rb x.2.1 A c V E L3 [(x.1.map Value.string,.slice x.2.2.1 x.1.length x.2.2.2),(vs,V),([],E)]/\vs.length<=x.1.length/\(∀y∈L2,y.1∈O->y.1≠rb->y∈L3)/\qia [] r2=qia x.1 x.2.1/\x.1.length+x.2.1.length<=r2.length)
   (fun x=>x.2.1.length) ([],r2,none,0) fq ⟨A2,c2,_,_,L2,[],{ g2 with rows:=RowsP.nils _ _ _ _ Js },by simp,fun y hy _ _=>hy,rfl,by simp⟩ ?_
  rintro⟨seen,r3,sA,sc⟩ w3 ρ' ⟨A3,c3,V3,E3,L3,vs,h3,hvs,k3,e3,l3⟩;simp only at h3 hvs e3 l3;dsimp only;(conv=>whnf);refine zcv (qjd varB h3 (fun x w1 hx=>qur x hx w1)) ?_;rintro v w4 ⟨rfl,h4⟩;(conv=>whnf);cases hq:seeB varB r3
  case' true=>
   obtain⟨x,xs,rfl⟩:∃x xs,r3=x::xs:=by
    cases r3 with
    | nil=>cases hq
    | cons x xs=>exact⟨x,xs,rfl⟩
   have hq:varB x=true:=hq;have hx:=h4.small x mh;simp only[As]at l3;rw[qia,Ad hq]at e3;refine zv ?_;refine zcv (qla h4) ?_;rintro v w5 ⟨rfl,A5,c5,L5,h5,k5⟩;(conv=>whnf);refine zcv (qe8 x Oo w5) ?_;rintro v w6 ⟨rfl,he6⟩;have h6:=h5.call he6;(conv=>whnf);refine zcv (qg7 seen sA sc (lowS x) w6 ((h6.rows.row 0 _ rfl).sl h6.mem) Oo) ?_;rintro v w7 ⟨⟨b,rfl,hb⟩,rfl⟩;(conv=>whnf);cases b
   ·rw[Aa (by intro h;have:=hb.2 h;cases this)]at e3;refine zv ?_;refine zcv (qe8 x Oo w7) ?_;rintro v w8 ⟨rfl,he8⟩;have h8:=h6.call he8;(conv=>whnf);refine NewV.rs h8 fun nb w9 h9 hnb=>zw ?_;refine h9.rows.app 0 rfl Tryz.underlying140 strI strZ Jk rfl (by decide +kernel) h9.mem h9.all Js rfl (by rw[qa hnb];rfl) Oo ?_;intro sA2 sc2 w10 L10 m10 R10 k10;have h10:=h9.grow m10 R10 k10;(conv=>whnf);obtain⟨VA,vc,rfl⟩:∃VA vc,V3=.slice VA vs.length vc:=(h10.rows.row 1 _ rfl).slice;obtain⟨a0,a1,a2,a3,a6,hrd⟩:=id h10.rd;refine qwl h10.mem hrd 4 rfl rfl (zw ?_);refine NewV.rs h10 fun nb2 w11 h11 hnb2=>zw ?_;refine h11.rows.app 1 rfl Tryz.underlying140 strI strZ Jk rfl (by decide +kernel) h11.mem h11.all rfl rfl (by rw[qa hnb2];rfl) Oo ?_;intro VA2 vc2 w12 L12 m12 R12 k12;have h12:=h11.grow m12 R12 k12;obtain⟨a0,a1,a2,a3,a6,hrd⟩:=id h12.rd;(conv=>whnf);refine qfh h12.mem hrd 4 rfl (show 4<7 by decide) rfl ?_;intro w13 L13 hr13;have h13:=h12.step (V':=.slice VA2 (vs.length+1) vc2) (E':=E3) hr13 ⟨_,_,_,_,_,rfl⟩ h12.sl h12.hc (fun y hy=>hy) ⟨⟨_,_,_,rfl⟩,h12.vs.2⟩;(conv=>whnf);refine⟨(seen++[lowS x],xs,sA2,sc2),⟨rfl,by simp only[zla];rfl,trivial⟩,⟨A5,c5,.slice VA2 (vs.length+1) vc2,E3,L13,vs++[.string x],?_,by simp;omega,fun y hy hO hne=>hr13.keep y (k12 y (k10 y (k5 y (k3 y hy hO hne) hne) hO) hO) hne,e3,by simp;omega⟩,by simp⟩;simp only[AB,zla,AO,BM,AZ];exact h13
   ·rw[Ad (hb.1 rfl)]at e3;refine zv ?_;exact .inl ⟨by rw[e3];rfl,rfl,h6.mem.ext⟩
 all_goals
  have eV:qia seen r3=some (seen,r3):=by
   cases r3 with
   | nil=>rfl
   | cons x xs=>rw[qia,Aa (by have:varB x=false:=hq;rw[this];simp)]
  have eB:(qia [] r2).bind (fun r=>extN r.2.length r.1 r.2)=extN r3.length seen r3:=by rw[e3,eV];rfl
  rw[eB];clear hq h3 eV eB;refine zv ?_;refine qj (fun x:Nat×List E0×List E0×oA×Nat=>[(0,pp rb),(3,.slice x.2.2.2.1 x.2.1.length x.2.2.2.2)])
   (fun x w5=>∃A c V E L5 vs es,RS w0 w5 O rb x.2.2.1 A c V E L5 [(x.2.1.map Value.string,.slice x.2.2.2.1 x.2.1.length x.2.2.2.2),(vs,V),(es,E)]/\es.length<=x.2.1.length/\(∀y∈L3,y.1∈O->y.1≠rb->y∈L5)/\extN r3.length seen r3=extN x.1 x.2.1 x.2.2.1/\x.2.2.1.length<=x.1/\x.2.1.length+x.2.2.1.length<=r2.length)
   (fun x=>x.2.2.1.length) (r3.length,seen,r3,sA,sc) fq ⟨A3,c3,V3,E3,L3,vs,[],h4,by simp,fun y hy _ _=>hy,rfl,Aq _,l3⟩ ?_
  rintro⟨k,sn,r5,sB,sd⟩ w5 ρ'' ⟨A5,c5,V5,E5,L5,vs5,es,h5,hes,k5,e5,lk,l5⟩;simp only at h5 hes e5 lk l5;dsimp only;(conv=>whnf);refine zcv (qjd extS h5 (fun x w1 hx=>q21 x hx w1)) ?_;rintro v w6 ⟨rfl,h6⟩;(conv=>whnf);cases hq:seeB extS r5
  ·have eX:extN k sn r5=some r5:=by
    cases r5 with
    | nil=>cases k<;>rfl
    | cons x xs=>
     cases k with
     | zero=>simp at lk
     | succ k=>rw[extN,Aa (by have:extS x=false:=hq;rw[this];simp)]
   refine zv ?_;refine .inr ⟨r5,by rw[e5,eX],rfl,A5,c5,V5,E5,L5,{ h6 with rows:=RowsP.none_ },by omega,fun y hy hO hne=>k5 y (k3 y (k2 y (k1 y hy hO hne) hO hne) hO hne) hO hne⟩
  ·obtain⟨x,xs,rfl⟩:∃x xs,r5=x::xs:=by
    cases r5 with
    | nil=>cases hq
    | cons x xs=>exact⟨x,xs,rfl⟩
   have hq:extS x=true:=hq;have hx1:x.size=1:=by simp[extS,q6]at hq;omega
   obtain⟨k,rfl⟩:∃k',k=k'+1:=⟨k-1,by simp at lk;omega⟩
   have hx:=h6.small x mh;simp only[As]at l5 lk;rw[extN,Ad hq]at e5;refine zv ?_;refine zcv (qla h6) ?_;rintro v w7 ⟨rfl,A7,c7,L7,h7,k7⟩;(conv=>whnf);obtain⟨a0,a1,a2,a3,a6,hrd⟩:=id h7.rd;refine zcv (qwm (least:=2) h7.mem hrd h7.sl h7.hc h7.small Oo) ?_;rintro v w8 ⟨pre,rest',sT,hP,hse,rfl,A8,c8,L8,hS8,hc8,hr8⟩;obtain⟨t1,t2⟩:=hP.take hse;have t1:xs.takeWhile extQ=pre:=t1;have t2:xs.dropWhile extQ=rest':=t2;have hlen:xs.length=pre.length+rest'.length:=by rw[hP.eq];simp
   have h8:=h7.step hr8 ⟨_,_,_,_,_,rfl⟩ hS8 hc8 (fun y hy=>by rw[hP.eq];exact Ai _ hy) h7.vs;rw[t1,t2]at e5;have hsT:=hP.size;conv=>whnf
   by_cases hp:pre=[]
   ·rw[Ad (.inl hp)]at e5;rw[AH (by simp[hp])];refine zv ?_;exact .inl ⟨e5,rfl,h8.mem.ext⟩
   ·rw[Az (by simpa using hp)];refine zv ?_;refine zcv (qe8 x Oo w8) ?_;rintro v w9 ⟨rfl,he9⟩;have h9:=h8.call he9;refine zu ?_;refine zcv (qg7 sn sB sd (lowS x) w9 ((h9.rows.row 0 _ rfl).sl h9.mem) Oo) ?_;rintro v w10 ⟨⟨b,rfl,hb⟩,rfl⟩;cases b
    ·rw[Aa (by rintro(h|h);exact hp h;have:=hb.2 h;cases this)]at e5;refine zu ?_;refine zcv (qe8 x Oo w10) ?_;rintro v w11 ⟨rfl,he11⟩;have h11:=h9.call he11;(conv=>whnf);refine NewV.rs h11 fun nb w12 h12 hnb=>zw ?_;refine h12.rows.app 0 rfl Tryz.underlying140 strI strZ Jk rfl (by decide +kernel) h12.mem h12.all Js rfl (by rw[qa hnb];rfl) Oo ?_;intro sA2 sc2 w13 L13 m13 R13 k13;have h13:=h12.grow m13 R13 k13;(conv=>whnf);obtain⟨EA,ec,rfl⟩:∃EA ec,E5=.slice EA es.length ec:=(h13.rows.row 2 _ rfl).slice;obtain⟨a0,a1,a2,a3,a6,hrd⟩:=id h13.rd;refine qwl h13.mem hrd 5 rfl rfl (zw ?_);refine⟨by show x.size+sT.size<=_;omega,?_⟩;(conv=>whnf);refine NewV.rs h13 fun nb2 w14 h14 hnb2=>zw ?_;refine h14.rows.app 2 rfl Tryz.underlying140 strI strZ Jk rfl (by decide +kernel) h14.mem h14.all rfl rfl (by rw[qa hnb2];rfl) Oo ?_;intro EA2 ec2 w15 L15 m15 R15 k15;have h15:=h14.grow m15 R15 k15;obtain⟨a0,a1,a2,a3,a6,hrd⟩:=id h15.rd;(conv=>whnf);refine qfh h15.mem hrd 5 rfl (show 5<7 by decide) rfl ?_;intro w16 L16 hr16;have h16:=h15.step (V':=V5) (E':=.slice EA2 (es.length+1) ec2) hr16 ⟨_,_,_,_,_,rfl⟩ h15.sl h15.hc (fun y hy=>hy) ⟨h15.vs.1,⟨_,_,_,rfl⟩⟩;(conv=>whnf);refine⟨(k,sn++[lowS x],rest',sA2,sc2),⟨rfl,by simp only[zla];rfl,trivial⟩,⟨A8,c8,V5,.slice EA2 (es.length+1) ec2,L16,vs5,es++[.string (x++sT)],?_,by simp;omega,fun y hy hO hne=>hr16.keep y (k15 y (k13 y (hr8.keep y (k7 y (k5 y hy hO hne) hne) hne) hO) hO) hne,e5,by simp only;omega,by simp;omega⟩,by simp only[As];omega⟩;simp only[AB,zla,AO,BM,AZ];exact h16
    ·rw[Ad (.inr (hb.1 rfl))]at e5;refine zu ?_;exact .inl ⟨e5,rfl,h9.mem.ext⟩
def qbq:LB->List LB
 | []=>[[]]
 | c::t=>if c=45 then[]::qbq t else match qbq t with
  | []=>[[c]]
  | p::ps=>(c::p)::ps
theorem ql1:∀l:LB,Go.Lib.splitK [45] 0 (Go.Lib.count l [45]) l=qbq l
 | []=>by
  have:Go.Lib.count [] [45]=0:=by decide
  rw[this];rfl
 | c::t=>by
  have ih:=ql1 t
  by_cases h:c=45
  ·subst h;rw[Go.Lib.count_cons_eq,CB 1,qbq,Ad rfl,<-ih,Go.Lib.splitK];have hi:Go.Lib.index (45::t) [45]=0:=by
    rw[Go.Lib.index,Ad (by simp[List.isPrefixOf])]
   rw[hi];rfl
  ·rw[Go.Lib.count_cons_ne c 45 t h,qbq,Aa h,<-ih];have hi:Go.Lib.index (c::t) [45]=if Go.Lib.index t [45]==-1 then -1 else Go.Lib.index t [45]+1:=by
    rw[Go.Lib.index,Aa (by simp[List.isPrefixOf];exact fun e=>h e.symm)]
   cases Go.Lib.count t [45]with
   | zero=>rfl
   | succ k=>
    rw[Go.Lib.splitK,Go.Lib.splitK,hi]
    by_cases hx:Go.Lib.index t [45]=-1
    ·simp[hx]
    ·have hge:=Go.Lib.index_ge t [45];have e1:(Go.Lib.index t [45]==-1)=false:=by simpa using hx
     have e2:((Go.Lib.index t [45]+1)==-1)=false:=by
      rw[Cm];omega
     have e3:(Go.Lib.index t [45]+1).toNat=(Go.Lib.index t [45]).toNat+1:=by omega
     simp only[e1,e2,e3,CF,if_false,BH,AZ,BU,El]
theorem qm5:∀l:LB,(qbq l).length<=l.length+1/\∀x∈qbq l,x.length<=l.length
 | []=>by simp[qbq]
 | c::t=>by
  obtain⟨h1,h2⟩:=qm5 t;unfold qbq
  split
  ·refine⟨by simp;omega,fun x hx=>?_⟩
   rcases AD.1 hx with rfl|hx
   ·simp
   ·have:=h2 x hx;simp;omega
  ·cases hp:qbq t with
   | nil=>simp
   | cons p ps=>
    rw[hp]at h1 h2;refine⟨by simpa using AU h1 (Dw _),fun x hx=>?_⟩
    rcases AD.1 hx with rfl|hx
    ·have:=h2 p mh;simp;omega
    ·have:=h2 x (zmc hx);simp;omega
end Go.Proofs.YtacnkdagblbgfaaGreatDoor
