/- Lemmas and contracts of functions on the way to the law's card (part 6 of 13). -/
import Derived.Test.YtajgbepghniciaaGreatDoorPV5
import Derived.Shelf.Strings.Builder1
import Derived.Shelf.Strings.Builder2
import Derived.Shelf.Strings.OnBuilder
import Derived.Shelf.Small.Utf8
import Derived.Shelf.Small.Strs
import Derived.Shelf.Strings.BuilderF
import Derived.Shelf.Strings.BuilderK
import Derived.Shelf.Strconv.Itoa0
import Derived.Shelf.Strings.Search1
import Derived.Shelf.Strings.Search2
import Derived.Shelf.Strings.Search3
import Derived.Shelf.Strings.Cut
import Derived.Shelf.Strings.Count
import Derived.Shelf.LaysM
import Derived.Shelf.Strings.Shaped
import Derived.Shelf.Sort.Plain
import Derived.Shelf.Strings.Split
import Derived.Shelf.Strings.Runes
import Derived.Shelf.Unicode.DecodeSlow
import Derived.Shelf.Slices.Turned
import Derived.Ground.Names2Prog
import Derived.Shelf.Slices.Clone
import Derived.Shelf.Slices.CompactS
import Derived.Shelf.Slices.Cells
import Derived.Shelf.Slices.In.SortNone
import Derived.Lib.BitFns
namespace Go.Proofs.YtajgbepghniciaaGreatDoor
open Go.RowKit V
set_option maxRecDepth 100000
theorem qdv:Tryz.prog.underlying 45=some (.slice 5):=Tryz.underlying45
theorem bytI:Tryz.prog.info? 5=some ((Tryz.prog.info? 5).get (by kernel_rfl)):=(Option.some_get _).symm
theorem bytZ:((Tryz.prog.info? 5).get (by kernel_rfl)).zero=some (.int .u8 0):=by kernel_rfl
def fixL (n:Nat):Nat→List UInt8
 | 0=>[]
 | k+1=>fixL n k++[UInt8.ofNat (n/2 ^ (8*k)%256)]
theorem q6 (n k:Nat):(fixL n k).length=k:=by
 induction k with
 | zero=>rfl
 | succ k ih=>simp [fixL,ih]
theorem qky (n k:Nat):leN (fixL n k)=n%256 ^ k:=by
 induction k with
 | zero=>simp [fixL,leN,Nat.mod_one]
 | succ k ih=>
  rw [fixL,qto,ih,q6];have e:(2:Nat) ^ (8*k)=256 ^ k:=by rw [Nat.pow_mul]
  have e2:(UInt8.ofNat (n/2 ^ (8*k)%256)).toNat=n/256 ^ k%256:=by
   rw [e];simp
  simp only [leN,e2,Nat.mul_zero,Nat.add_zero];rw [Nat.pow_succ,Nat.mod_mul]
theorem qtq:∀ {l m:List UInt8},l.length=m.length→leN l=leN m→l=m:=by
 intro l
 induction l with
 | nil=>intro m h _;exact (List.eq_nil_of_length_eq_zero h.symm).symm
 | cons x l ih=>
  intro m h e;cases m with
  | nil=>simp at h
  | cons y m=>
   simp only [leN] at e;have hx:=qt x;have hy:=qt y;have h1:x.toNat=y.toNat:=by omega
   have h2:leN l=leN m:=by omega
   rw [ih (by simpa using h) h2,UInt8.toNat_inj.1 h1]
theorem qz1 {n:Nat} {m:List UInt8} (hm:m.length=4) (hn:n<4294967296):fixL n 4=m↔leN m=n:=by
 constructor
 ·rintro rfl;rw [qky];exact Nat.mod_eq_of_lt hn
 ·intro h;refine qtq (by rw [q6,hm]) ?_;rw [qky,h];exact Nat.mod_eq_of_lt hn
namespace V
theorem SlAt.rest {w:World} {g off a:Nat} {l:List UInt8} (hA:SlAt encB 1 w (some ⟨g,off,none⟩) l) (ha:a<l.length):SlAt encB 1 w (some ⟨g,off+a,none⟩) (l.drop a):=by
 have:=hA.cut (A':=some ⟨g,off+a,none⟩) (lo:=a) (hi:=l.length) (m:=l.length) (by omega) (Nat.le_refl _) (Nat.le_refl _) (by rw [if_neg (by omega),Nat.mul_one,Option.map_some,qai])
 rwa [List.take_of_length_le (by simp)] at this
theorem Rw.byts {w0 w:World} {A:Option Addr} {n c:Nat} {e:TypeId} {zs:List UInt8} {L:List (Nat × Obj)} (h:Rw w0 w (.slice A n c) e 1 n (zs.map fun c=>Value.int .u8 c.toNat) L) (hn:zs.length=n):BS w (.slice A n c) zs:=by
 subst hn;refine ⟨A,c,rfl,?_,⟨fun hne=>?_⟩⟩
 ·rcases h.own.2 with ⟨e1,e2⟩|⟨g,cap,cur,e1,_,_,hnc,_⟩
  ·omega
  ·cases e1;exact hnc
 ·obtain ⟨g,rfl,_,_,_,hc⟩:=h.cells (List.length_pos_iff.2 hne);refine ⟨g,0,rfl,fun j x hx k v hv=>?_⟩;cases k with
  | succ k=>simp [encB] at hv
  | zero=>
   simp only [encB,List.getElem?_cons_zero,Option.some.injEq] at hv;subst hv;have:=hc j (.int .u8 x.toNat) (by rw [List.getElem?_map,hx];rfl)
   simpa using this
theorem Wit.shrN {k:IntKind} {a:Nat} {b:Int} {K:Int→Prop} (n:Nat) (e:b=(n:Int)) (hn:n<k.bits) (hk:K ((a/2 ^ n:Nat):Int)) :
  Wit (fun r=>0≤b∧b<k.bits∧(a:Int)/2 ^ b.toNat=r) K:=by
 subst e;refine ⟨_,⟨by omega,by omega,?_⟩,hk⟩;rw [Int.toNat_natCast];simp
theorem BytesS.sl {w:World} {A:Option Addr} {n:Nat} {l:List UInt8} {K:Value→Prop} (h:SlAt encB 1 w A l) (hn:l.length=n) (hk:K (.string ⟨l.toArray⟩)):BytesS w A n K:=
 ⟨l,hn,fun hne=>by
  obtain ⟨b,off,h1,h2⟩:=h.at_ hne;refine ⟨b,off,h1,fun k v hv=>?_⟩;rw [byteCells,List.getElem?_map] at hv;obtain ⟨x,hx,rfl⟩:=Option.map_eq_some_iff.1 hv;have:=h2 k x hx 0 (.int .u8 x.toNat) rfl
  simpa using this,hk⟩
theorem Wit.low8 {a:Nat} {K:Int→Prop} (hk:K ((a%256:Nat):Int)):Wit (fun r=>IntKind.u8.wrap (a:Int)=r) K:=by
 refine ⟨_,?_,hk⟩;simp [IntKind.wrap,IntKind.bits,IntKind.signed]
end V
theorem qwz (w:World):Gv Tryz.prog 173 [.int .i64 4] w fun r w'=>r=.int .i64 4∧w'=w:=by
 refine zE Tryz.func173 Tryz.ntmps173 ?_;(conv=>whnf);refine V.Fall.min2 rfl rfl rfl fun m hm=>?_;obtain rfl:m=4:=by omega
 (conv=>whnf);refine V.Fall.max2 rfl rfl rfl fun m hm=>?_;obtain rfl:m=4:=by omega
 (conv=>whnf);exact ⟨rfl,rfl⟩
theorem qrn (n:Nat) (w:World) (_hn:n<4294967296) :
  Gv Tryz.prog 111 [.int .u64 n,.int .i64 4] w fun r w'=>BS w' r (fixL n 4)∧Ext w w':=by
 refine zE Tryz.func111 Tryz.ntmps111 ?_;(conv=>whnf);refine qm (fun x:Nat × Option Addr × Nat=>[(0,.int .u64 n),(1,.int .i64 4),(5,.slice x.2.1 x.1 x.2.2),(6,.int .i64 x.1)])
  (fun x w2=>x.1≤4∧Rw w w2 (.slice x.2.1 x.1 x.2.2) 5 1 x.1 ((fixL n x.1).map fun c=>Value.int .u8 c.toNat) []) (fun x=>4-x.1) (0,none,0) ⟨rfl,rfl,rfl,rfl,trivial⟩ ⟨by simp,Rw.nil (Mem.nil w)⟩ ?_
 rintro ⟨i,A,c⟩ w2 ρ' ⟨h1,hR⟩;dsimp only at h1 hR ⊢;(conv=>whnf);refine CallV.of (qwz w2) ?_;rintro r w3 ⟨rfl,rfl⟩;conv=>whnf
 (repeat' (first|(refine zA ?_;(conv=>whnf))|((with_reducible refine zC (fun _=>?_) (fun _=>?_))<;>first|(exfalso;omega)|(conv=>whnf))))
 ·refine V.Wit.shrN (8*i) (by omega) (by show 8*i<64;omega) ?_;(conv=>whnf);refine V.Wit.low8 ?_;(conv=>whnf);refine NewV.rw hR ?_;intro nb w4 hR4;(conv=>whnf);refine AppV.one qdv bytI bytZ (by kernel_rfl) rfl (by decide +kernel) hR4 rfl (by omega) ?_;intro B' d' w5 hR5;(conv=>whnf);refine zA ?_;(conv=>whnf);refine ⟨(i+1,B',d'),⟨rfl,rfl,rfl,rfl,trivial⟩,⟨by simp only;omega,?_⟩,by simp only;omega⟩;simp only [fixL,List.map_append,List.map_cons,List.map_nil];have e:(UInt8.ofNat (n/2 ^ (8*i)%256)).toNat=n/2 ^ (8*i)%256:=by simp
  rw [e];exact hR5
 ·obtain rfl:i=4:=by omega
  exact ⟨hR.byts (q6 n 4),hR.mem.ext⟩
theorem qi2 (l:List UInt8) (A:Option Addr) (n c:Nat) (w:World) (hS:SlAt encB 1 w A l) (hn:l.length=n) (hl:l.length≤140737488355328) :
  Gv Tryz.prog 61 [.slice A n c] w fun r w'=>BS w' r (fixL (crcL l).toNat 4)∧Ext w w':=by
 have hs:=qrj l A n c w hS hn hl;have hlt:=qna (crcL l);refine zE Tryz.func61 Tryz.ntmps61 ?_;(conv=>whnf);refine CallV.of (hs) ?_;rintro r w1 ⟨rfl,rfl⟩;(conv=>whnf);refine Wit.conv ⟨by omega,by omega⟩ ?_;(conv=>whnf);refine CallV.of (qrn _ w1 hlt) ?_;rintro r w2 ⟨⟨A',c',rfl,h1,h2⟩,he2⟩;(conv=>whnf);exact ⟨⟨A',c',rfl,h1,h2⟩,he2⟩
structure One (wd:World) (o:Obj) (F:Value→World→Prop) (s2 s5 s8 s11 s12 s13:Bool) (v12:Value) (w:World):Prop where
 a:s13=false→Ext wd w∧(s12=true→CurAt wd w v12 o)
 f:s13=true→F v12 w∧s2=true∧s5=true∧s8=true∧s11=true∧s12=true
section
variable {wd w w':World} {o:Obj} {F:Value→World→Prop} {s2 s5 s8 s11 s12 s13:Bool} {v12:Value}
theorem One.start:One wd o F false false false false false false v12 wd:=⟨fun _=>⟨Ext.refl _,fun h=>(by cases h)⟩,fun h=>(by cases h)⟩
theorem One.of {u2 u5 u8 u11:Bool} (h:One wd o F s2 s5 s8 s11 s12 s13 v12 w) (h13:s13=false) (he:Ext w w'):One wd o F u2 u5 u8 u11 s12 s13 v12 w':=
 ⟨fun h'=>⟨(h.a h').1.trans he,fun h12=>let ⟨b,h1,h2,h3⟩:=(h.a h').2 h12;⟨b,h1,h2,he.get h3⟩⟩,fun h'=>(by rw [h13] at h';cases h')⟩
theorem One.z2 (h:One wd o F false s5 s8 s11 s12 s13 v12 w):s13=false:=by
 cases h':s13
 ·rfl
 ·have:=(h.f h').2.1;cases this
theorem One.z5 (h:One wd o F s2 false s8 s11 s12 s13 v12 w):s13=false:=by
 cases h':s13
 ·rfl
 ·have:=(h.f h').2.2.1;cases this
theorem One.z8 (h:One wd o F s2 s5 false s11 s12 s13 v12 w):s13=false:=by
 cases h':s13
 ·rfl
 ·have:=(h.f h').2.2.2.1;cases this
theorem One.z11 (h:One wd o F s2 s5 s8 false s12 s13 v12 w):s13=false:=by
 cases h':s13
 ·rfl
 ·have:=(h.f h').2.2.2.2.1;cases this
theorem One.z12 (h:One wd o F s2 s5 s8 s11 false s13 v12 w):s13=false:=by
 cases h':s13
 ·rfl
 ·have:=(h.f h').2.2.2.2.2;cases this
theorem One.alloc (h:One wd o F s2 s5 s8 s11 false s13 v12 w):One wd o F s2 s5 s8 s11 true s13 (.pointer (some ⟨w.heap.size,0,none⟩)) (w.alloc o):=by
 have h13:=h.z12;have hx:=(h.a h13).1;exact ⟨fun _=>⟨hx.alloc o,fun _=>⟨_,rfl,hx.size,heap_alloc_new w o⟩⟩,fun h'=>(by rw [h13] at h';cases h')⟩
end
def qb6 (l:List UInt8):List Value:=if (qp l).2=0 then [.int .i64 (hN l 2),.int .i64 (hN l 3),.int .i64 (hN l 4),.int .i64 (hN l 5)] else [.int .i64 0,.int .i64 0,.int .i64 0,.int .i64 0]
theorem qjo (l:List UInt8) (A:Option Addr) (n c:Nat) (w:World) (hS:SlAt encB 1 w A l) (hn:l.length=n) (hc:n≤c) (hl:l.length≤140737488355328) :
  Gv Tryz.prog 56 [.slice A n c] w fun v w'=>v=.tuple #[.agg (qb6 l).toArray,.agg #[.int .i64 (qp l).1,.int .i64 (qp l).2]]∧Ext w w':=by
 refine zE Tryz.func56 Tryz.ntmps56 ?_;(conv=>whnf);refine NewV.mem (Mem.nil w) ?_;intro b w1 hm;have hm:Mem w w1 [(b,.cells #[.int .i64 0,.int .i64 0,.int .i64 0,.int .i64 0] 53 (0,0))]:=hm;(conv=>whnf);refine NewV.mem hm ?_;intro f w2 hm;have hm:Mem w w2 [(f,.cells #[.int .i64 0,.int .i64 0] 57 (0,0)),(b,.cells #[.int .i64 0,.int .i64 0,.int .i64 0,.int .i64 0] 53 (0,0))]:=hm;(conv=>whnf);refine zC (fun _=>?_) (fun _=>?_)<;>(conv=>whnf)
 ·
  refine StoreA.all hm (i:=1) rfl rfl (by decide) ?_;intro w3 hm;(conv=>whnf);refine StoreA.all hm (i:=0) rfl rfl (by intro v hv;simp at hv;rcases hv with rfl|rfl<;>rfl) ?_;intro w4 hm;(conv=>whnf);refine qa (R:=fun v w'=>v=.tuple #[.agg (qb6 l).toArray,.agg #[.int .i64 (qp l).1,.int .i64 (qp l).2]]∧Ext w w') ?_;(conv=>whnf);refine zL hm 1 ?_;(conv=>whnf);refine zL hm 0 ?_;(conv=>whnf);have hR:qp l=(l.length,10):=by rw [qp,if_pos (by omega)]
  refine ⟨?_,hm.ext⟩;rw [qb6,hR];subst hn;rfl
 have h28:28≤l.length:=by omega
 refine SliceV.bs hS hn 0 4 c rfl rfl rfl (by omega) (by omega) (by omega) (Nat.le_refl _) (fun h=>by cases h) ?_;intro A1 hA1;(conv=>whnf);refine BytesS.sl (hA1.ext hm.ext) (by simp;omega) ?_;(conv=>whnf);have hmag:(!seq ⟨((l.drop 0).take (4-0)).toArray⟩ ⟨#[84,83,82,65]⟩)=decide (hN l 0≠1095914324):=by
  rw [Bool.eq_iff_iff];simp only [Bool.not_eq_true',decide_eq_true_eq,ne_eq,← Bool.not_eq_true,q7];refine not_congr ?_;have hlen:((l.drop 0).take 4).length=4:=by simp;omega
  have:hN l 0=leN ((l.drop 0).take 4):=rfl;rw [this]
  constructor
  ·intro h;have h2:(l.drop 0).take 4=[84,83,82,65]:=by
    have:=congrArg (fun s:ByteArray=>s.data.toList) h
    simpa using this
   rw [h2];rfl
  ·intro h;have h2:(l.drop 0).take 4=[84,83,82,65]:=qtq hlen (by rw [h];rfl);show (⟨((l.drop 0).take 4).toArray⟩:ByteArray)=_;rw [h2]
 rw [hmag];refine zC (fun _=>?_) (fun _=>?_)<;>(conv=>whnf)
 ·
  refine StoreA.all hm (i:=1) rfl rfl (by decide) ?_;intro w3 hm;(conv=>whnf);refine StoreA.all hm (i:=0) rfl rfl (by intro v hv;simp at hv;rcases hv with rfl|rfl<;>rfl) ?_;intro w4 hm;(conv=>whnf);refine qa (R:=fun v w'=>v=.tuple #[.agg (qb6 l).toArray,.agg #[.int .i64 (qp l).1,.int .i64 (qp l).2]]∧Ext w w') ?_;(conv=>whnf);refine zL hm 1 ?_;(conv=>whnf);refine zL hm 0 ?_;(conv=>whnf);have hR:qp l=(0,190):=by rw [qp,if_neg (by omega),if_pos ‹_›]
  refine ⟨?_,hm.ext⟩;rw [qb6,hR];subst hn;rfl
 rename_i hmagic
 refine DrawV.free (by kernel_rfl) (by kernel_rfl) ?_;(conv=>whnf);refine zD ?_;(conv=>whnf);apply StepD.of (fun v w=>∃ A' c',v=.slice A' 24 c'∧SlAt encB 1 w A' (l.take 24)) (fun _ _ _ h he=>let ⟨A',c',h1,h2⟩:=h;⟨A',c',h1,h2.ext he⟩)
 ·intro wd hd;(conv=>whnf);refine SliceV.bs (hS.ext (hm.drew.ext.trans hd)) hn 0 24 c rfl rfl rfl (by omega) (by omega) (by omega) (Nat.le_refl _) (fun h=>by cases h) ?_;intro A' hA';(conv=>whnf);exact ⟨Ext.refl _,_,_,rfl,hA'⟩
 (conv=>whnf);apply StepD.of (fun v w=>BS w v (fixL (crcL (l.take 24)).toNat 4)) (fun _ _ _ h he=>h.ext he)
 ·intro wd hd;(conv=>whnf);rintro v ⟨A',c',rfl,hA'⟩;(conv=>whnf);refine CallV.of (qi2 (l.take 24) A' 24 c' wd hA' (by simp;omega) (by simp;omega)) ?_;rintro v w9 ⟨h9,he9⟩;exact ⟨he9,h9⟩
 (conv=>whnf);apply StepD.still
 ·intro wd hd;(conv=>whnf);rintro v ⟨A',c',rfl,h1,h2⟩;(conv=>whnf);refine BytesS.sl h2 rfl ?_;(conv=>whnf);exact ⟨Ext.refl _,rfl⟩
 (conv=>whnf);refine zD ?_;(conv=>whnf);apply StepD.of (fun v w=>∃ A' c',v=.slice A' 4 c'∧SlAt encB 1 w A' ((l.drop 24).take 4)) (fun _ _ _ h he=>let ⟨A',c',h1,h2⟩:=h;⟨A',c',h1,h2.ext he⟩)
 ·intro wd hd;(conv=>whnf);refine SliceV.bs (hS.ext (hm.drew.ext.trans hd)) hn 24 28 c rfl rfl rfl (by omega) (by omega) (by omega) (Nat.le_refl _) (fun h=>by cases h) ?_;intro A' hA';(conv=>whnf);exact ⟨Ext.refl _,_,_,rfl,hA'⟩
 (conv=>whnf);apply StepD.still
 ·intro wd hd;(conv=>whnf);rintro v ⟨A',c',rfl,h2⟩;(conv=>whnf);refine BytesS.sl h2 (by simp;omega) ?_;(conv=>whnf);exact ⟨Ext.refl _,rfl⟩
 (conv=>whnf);refine zD ?_;(conv=>whnf);intro w9 he9
 (repeat (intro _ _;(conv=>whnf)))
 (conv=>whnf);replace hm:=hm.drew.call he9;have hcrc:(!seq ⟨(fixL (crcL (l.take 24)).toNat 4).toArray⟩ ⟨((l.drop 24).take 4).toArray⟩)=decide (hN l 6≠(crcL (l.take 24)).toNat):=by
  rw [Bool.eq_iff_iff];simp only [Bool.not_eq_true',decide_eq_true_eq,ne_eq,← Bool.not_eq_true,q7];refine not_congr ?_;have hlen:((l.drop 24).take 4).length=4:=by simp;omega
  have:hN l 6=leN ((l.drop 24).take 4):=rfl;rw [this,← qz1 hlen (qna _)]
  constructor
  ·intro h;have:=congrArg (fun s:ByteArray=>s.data.toList) h
   simpa using this
  ·intro h;rw [h]
 rw [hcrc];refine zC (fun _=>?_) (fun _=>?_)<;>(conv=>whnf)
 ·
  refine StoreA.all hm (i:=1) rfl rfl (by decide) ?_;intro w3 hm;(conv=>whnf);refine StoreA.all hm (i:=0) rfl rfl (by intro v hv;simp at hv;rcases hv with rfl|rfl<;>rfl) ?_;intro w4 hm;(conv=>whnf);refine qa (R:=fun v w'=>v=.tuple #[.agg (qb6 l).toArray,.agg #[.int .i64 (qp l).1,.int .i64 (qp l).2]]∧Ext w w') ?_;(conv=>whnf);refine zL hm 1 ?_;(conv=>whnf);refine zL hm 0 ?_;(conv=>whnf);have hR:qp l=(24,30):=by rw [qp,if_neg (by omega),if_neg (by omega),if_pos ‹_›]
  refine ⟨?_,hm.ext⟩;rw [qb6,hR];subst hn;rfl
 rename_i hsum
 refine SliceV.bs hS hn 4 n c rfl rfl rfl (by omega) (by omega) (by omega) (Nat.le_refl _) (fun h=>by cases h) ?_;intro A4 hA4;rw [List.take_of_length_le (by simp;omega)] at hA4;(conv=>whnf);refine CallV.of (qd3 (l.drop 4) A4 _ _ _ (hA4.ext hm.ext) (by simp;omega) (by simp;omega)) ?_;rintro v w10 ⟨rfl,he10⟩;replace hm:=hm.call he10;have hN1:leN ((l.drop 4).take 4)=hN l 1:=rfl;rw [hN1];(conv=>whnf);refine zC (fun _=>?_) (fun _=>?_)<;>(conv=>whnf)
 ·
  refine StoreA.all hm (i:=1) rfl rfl (by decide) ?_;intro w3 hm;(conv=>whnf);refine StoreA.all hm (i:=0) rfl rfl (by intro v hv;simp at hv;rcases hv with rfl|rfl<;>rfl) ?_;intro w4 hm;(conv=>whnf);refine qa (R:=fun v w'=>v=.tuple #[.agg (qb6 l).toArray,.agg #[.int .i64 (qp l).1,.int .i64 (qp l).2]]∧Ext w w') ?_;(conv=>whnf);refine zL hm 1 ?_;(conv=>whnf);refine zL hm 0 ?_;(conv=>whnf);have hR:qp l=(4,191):=by rw [qp,if_neg (by omega),if_neg (by omega),if_neg (by omega),if_pos (by omega)]
  refine ⟨?_,hm.ext⟩;rw [qb6,hR];subst hn;rfl
 obtain ⟨g,off,hA,_⟩:=hS.at_ (by intro e;rw [e] at h28;simp at h28);subst hA;obtain ⟨F,hF⟩:∃ F:Value→World→Prop,F=fun v w'=>∃ x,v=.pointer (some ⟨x,0,none⟩)∧Mem w w' [(x,.cells #[.int .i64 (hN l 2),.int .i64 (hN l 3),.int .i64 (hN l 4),.int .i64 (hN l 5)] 53 (0,0)),(f,.cells #[.int .i64 0,.int .i64 0] 57 (0,0)),(b,.cells #[.int .i64 0,.int .i64 0,.int .i64 0,.int .i64 0] 53 (0,0))]:=⟨_,rfl⟩
 refine DrawV.gen (fun S vals w'=>One w10.drew (.cells #[.int .i64 0,.int .i64 0,.int .i64 0,.int .i64 0] 53 (0,0)) F (S 2) (S 5) (S 8) (S 11) (S 13) (S 14) (vals 13) w') rfl (by kernel_rfl) (fun vals=>One.start) ?_;(conv=>whnf);refine zG ?_;(conv=>whnf);refine StepG.of (.slice (some ⟨g,off+8,none⟩) (n-8) (c-8)) (fun S vals wd hk hp hI=>?_) ?_
 ·(conv=>whnf);refine SliceV.rest 8 rfl hc (by omega) ?_;(conv=>whnf);exact ⟨rfl,hI⟩
 (conv=>whnf);refine StepG.of (.int .i64 (hN l 2)) (fun S vals wd hk hp hI=>?_) ?_
 ·dsimp only at hI;rw [hk] at hI;have hz:=hI.z2;have hx:=(hI.a hz).1;(conv=>whnf);have hB:=SlAt.rest (a:=8) (hS.ext (hm.drew.ext.trans hx)) (by omega);refine CallV.of (qd3 (l.drop 8) _ _ _ wd hB (by rw [List.length_drop,hn]) (by rw [List.length_drop];omega)) ?_;rintro v w9 ⟨rfl,h9⟩;exact ⟨rfl,hI.of hz h9⟩
 (conv=>whnf);refine zG ?_;(conv=>whnf);refine StepG.of (.slice (some ⟨g,off+12,none⟩) (n-12) (c-12)) (fun S vals wd hk hp hI=>?_) ?_
 ·(conv=>whnf);refine SliceV.rest 12 rfl hc (by omega) ?_;(conv=>whnf);exact ⟨rfl,hI⟩
 (conv=>whnf);refine StepG.of (.int .i64 (hN l 3)) (fun S vals wd hk hp hI=>?_) ?_
 ·dsimp only at hI;rw [hk] at hI;have hz:=hI.z5;have hx:=(hI.a hz).1;(conv=>whnf);have hB:=SlAt.rest (a:=12) (hS.ext (hm.drew.ext.trans hx)) (by omega);refine CallV.of (qd3 (l.drop 12) _ _ _ wd hB (by rw [List.length_drop,hn]) (by rw [List.length_drop];omega)) ?_;rintro v w9 ⟨rfl,h9⟩;exact ⟨rfl,hI.of hz h9⟩
 (conv=>whnf);refine zG ?_;(conv=>whnf);refine StepG.of (.slice (some ⟨g,off+16,none⟩) (n-16) (c-16)) (fun S vals wd hk hp hI=>?_) ?_
 ·(conv=>whnf);refine SliceV.rest 16 rfl hc (by omega) ?_;(conv=>whnf);exact ⟨rfl,hI⟩
 (conv=>whnf);refine StepG.of (.int .i64 (hN l 4)) (fun S vals wd hk hp hI=>?_) ?_
 ·dsimp only at hI;rw [hk] at hI;have hz:=hI.z8;have hx:=(hI.a hz).1;(conv=>whnf);have hB:=SlAt.rest (a:=16) (hS.ext (hm.drew.ext.trans hx)) (by omega);refine CallV.of (qd3 (l.drop 16) _ _ _ wd hB (by rw [List.length_drop,hn]) (by rw [List.length_drop];omega)) ?_;rintro v w9 ⟨rfl,h9⟩;exact ⟨rfl,hI.of hz h9⟩
 (conv=>whnf);refine zG ?_;(conv=>whnf);refine StepG.of (.slice (some ⟨g,off+20,none⟩) (n-20) (c-20)) (fun S vals wd hk hp hI=>?_) ?_
 ·(conv=>whnf);refine SliceV.rest 20 rfl hc (by omega) ?_;(conv=>whnf);exact ⟨rfl,hI⟩
 (conv=>whnf);refine StepG.of (.int .i64 (hN l 5)) (fun S vals wd hk hp hI=>?_) ?_
 ·dsimp only at hI;rw [hk] at hI;have hz:=hI.z11;have hx:=(hI.a hz).1;(conv=>whnf);have hB:=SlAt.rest (a:=20) (hS.ext (hm.drew.ext.trans hx)) (by omega);refine CallV.of (qd3 (l.drop 20) _ _ _ wd hB (by rw [List.length_drop,hn]) (by rw [List.length_drop];omega)) ?_;rintro v w9 ⟨rfl,h9⟩;exact ⟨rfl,hI.of hz h9⟩
 (conv=>whnf);refine zG ?_;(conv=>whnf);refine StepG.any (fun S vals wd hk hp hI=>?_) ?_
 ·dsimp only at hI;rw [hk] at hI;have hz:=hI.z12;have hx:=(hI.a hz).1;(conv=>whnf);refine ⟨fun x wx hb hw=>?_⟩;subst hb hw;(conv=>whnf);exact ⟨trivial,hI.alloc⟩
 (conv=>whnf);refine StepG.of undef (fun S vals wd hk hp hI=>?_) ?_
 ·dsimp only at hI;have h2:S 2=true:=hp 2 (by decide);have h5:S 5=true:=hp 5 (by decide);have h8:S 8=true:=hp 8 (by decide);have h11:S 11=true:=hp 11 (by decide);have h13:S 13=true:=hp 13 (by decide);rw [hk] at hI;obtain ⟨hx,hcu⟩:=hI.a rfl;obtain ⟨x,hv,hb,ho⟩:=hcu h13;have hm5:=hm.drew.fresh hx hb ho;rw [qh hv];(conv=>whnf);refine StoreA.all hm5 (i:=0) rfl rfl (by intro v hv;simp at hv;rcases hv with rfl|rfl|rfl|rfl<;>rfl) ?_;intro wx hmx;(conv=>whnf);refine ⟨rfl,⟨fun h=>(by cases h),fun _=>⟨?_,h2,h5,h8,h11,h13⟩⟩⟩;rw [hF];exact ⟨x,rfl,hmx⟩
 (conv=>whnf);intro vals w11 hI;have hFv:=(hI.f rfl).1;rw [hF] at hFv;obtain ⟨x,hv,hm⟩:=hFv;rw [qh hv];(conv=>whnf);have g4:=qv5 l 4;have g5:=qv5 l 5
 (repeat' (first|(refine zA ?_;(conv=>whnf))|((with_reducible refine zC (fun _=>?_) (fun _=>?_))<;>first|(exfalso;omega)|(conv=>whnf))|(refine LoadV.mem (i:=0) (by assumption) rfl rfl ?_;(conv=>whnf))))
 ·
  refine StoreA.all hm (i:=2) rfl rfl (by decide) ?_;intro w3 hm;(conv=>whnf);refine StoreA.all hm (i:=1) rfl rfl (by intro v hv;simp at hv;rcases hv with rfl|rfl<;>rfl) ?_;intro w4 hm;(conv=>whnf);refine qa (R:=fun v w'=>v=.tuple #[.agg (qb6 l).toArray,.agg #[.int .i64 (qp l).1,.int .i64 (qp l).2]]∧Ext w w') ?_;(conv=>whnf);refine zL hm 2 ?_;(conv=>whnf);refine zL hm 1 ?_;(conv=>whnf);have hR:qp l=(0,2):=by rw [qp,if_neg (by omega),if_neg (by omega),if_neg (by omega),if_neg (by omega),if_pos (by omega)]
  refine ⟨?_,hm.ext⟩;rw [qb6,hR];subst hn;rfl
 ·
  refine StoreA.all hm (i:=2) rfl rfl (by decide) ?_;intro w3 hm;(conv=>whnf);refine StoreA.all hm (i:=1) rfl rfl (by intro v hv;simp at hv;rcases hv with rfl|rfl<;>rfl) ?_;intro w4 hm;(conv=>whnf);refine qa (R:=fun v w'=>v=.tuple #[.agg (qb6 l).toArray,.agg #[.int .i64 (qp l).1,.int .i64 (qp l).2]]∧Ext w w') ?_;(conv=>whnf);refine zL hm 2 ?_;(conv=>whnf);refine zL hm 1 ?_;(conv=>whnf);have hR:qp l=(l.length,10):=by rw [qp,if_neg (by omega),if_neg (by omega),if_neg (by omega),if_neg (by omega),if_neg (by omega),if_pos (by omega)]
  refine ⟨?_,hm.ext⟩;rw [qb6,hR];subst hn;rfl
 ·
  refine StoreA.all hm (i:=2) rfl rfl (by decide) ?_;intro w3 hm;(conv=>whnf);refine StoreA.all hm (i:=1) rfl rfl (by intro v hv;simp at hv;rcases hv with rfl|rfl<;>rfl) ?_;intro w4 hm;(conv=>whnf);refine qa (R:=fun v w'=>v=.tuple #[.agg (qb6 l).toArray,.agg #[.int .i64 (qp l).1,.int .i64 (qp l).2]]∧Ext w w') ?_;(conv=>whnf);refine zL hm 2 ?_;(conv=>whnf);refine zL hm 1 ?_;(conv=>whnf);have hR:qp l=(hN l 4+hN l 5+36,13):=by rw [qp,if_neg (by omega),if_neg (by omega),if_neg (by omega),if_neg (by omega),if_neg (by omega),if_neg (by omega),if_pos (by omega)]
  refine ⟨?_,hm.ext⟩;rw [qb6,hR];subst hn;rfl
 refine zL hm 0 ?_;(conv=>whnf);refine StoreA.all hm (i:=2) rfl rfl (by intro v hv;simp at hv;rcases hv with rfl|rfl|rfl|rfl<;>rfl) ?_;intro w3 hm;(conv=>whnf);refine StoreA.all hm (i:=1) rfl rfl (by intro v hv;simp at hv;rcases hv with rfl|rfl<;>rfl) ?_;intro w4 hm;(conv=>whnf);refine qa (R:=fun v w'=>v=.tuple #[.agg (qb6 l).toArray,.agg #[.int .i64 (qp l).1,.int .i64 (qp l).2]]∧Ext w w') ?_;(conv=>whnf);refine zL hm 2 ?_;(conv=>whnf);refine zL hm 1 ?_;(conv=>whnf);have hR:qp l=(0,0):=by rw [qp,if_neg (by omega),if_neg (by omega),if_neg (by omega),if_neg (by omega),if_neg (by omega),if_neg (by omega),if_neg (by omega)]
 refine ⟨?_,hm.ext⟩;rw [qb6,hR];rfl
open Go.RowKit V
set_option maxRecDepth 100000
def upN (n b:Nat):Nat:=(n+b-1)/b
def qaf (n:Nat):Nat:=8+upN n 8
def qa5 (n:Nat):Nat:=qaf n+4*upN n 2048
def qdp (n:Nat):Nat:=qa5 n+2*upN n 256
def qbr (n m:Nat):Nat:=qdp n+4*upN m 512
def cutV (n m:Nat):List Value:=[.int .i64 8,.int .i64 (qaf n),.int .i64 (qa5 n),.int .i64 (qdp n),.int .i64 (qbr n m)]
theorem qaq (n b:Nat) (hb:0<b):upN n b≤n:=by
 unfold upN
 rcases Nat.eq_zero_or_pos n with rfl|hn
 ·rw [Nat.zero_add,Nat.div_eq_of_lt (by omega)];exact Nat.le_refl _
 ·have:(n+b-1)/b<n+1:=by
   rw [Nat.div_lt_iff_lt_mul hb];have h:n+b≤n*b+1*b:=by rw [Nat.one_mul];exact Nat.add_le_add_right (Nat.le_mul_of_pos_right n hb) b
   rw [Nat.add_mul];omega
  omega
theorem qxu (n b:Nat) (hb:0<b):((n:Int)+(b:Int)-1)/(b:Int)=((upN n b:Nat):Int):=by
 have:(n:Int)+(b:Int)-1=((n+b-1:Nat):Int):=by omega
 rw [this,upN,Int.natCast_ediv]
theorem qp6 (n b:Nat) (w:World) (hn:n≤8796093022208) (hb:0<b) (hb2:b≤1048576):Gv Tryz.prog 230 [.int .i64 n,.int .i64 b] w fun r w'=>r=.int .i64 (upN n b)∧w'=w:=by
 refine zE Tryz.func230 Tryz.ntmps230 ?_;(conv=>whnf);(iterate 2 (refine zA ?_;(conv=>whnf)));have hq:=qxu n b hb;have hle:=qaq n b hb;rw [hq];refine Obl.mk ⟨by omega,by omega,⟨by omega,by omega⟩⟩ ?_;(conv=>whnf);exact ⟨rfl,rfl⟩
theorem qe6 (n b:Nat) (w:World) (hn:n≤8796093022208) (hb:0<b) (hb2:b≤1048576):Gv Tryz.prog 172 [.int .i64 n,.int .i64 b] w fun r w'=>r=.int .i64 (upN n b)∧w'=w:=by
 refine zE Tryz.func172 Tryz.ntmps172 ?_;(conv=>whnf);(iterate 2 (refine zA ?_;(conv=>whnf)));have hq:=qxu n b hb;have hle:=qaq n b hb;rw [hq];refine Obl.mk ⟨by omega,by omega,⟨by omega,by omega⟩⟩ ?_;(conv=>whnf);exact ⟨rfl,rfl⟩
theorem qsn (n m:Nat) (w:World) (hn:n≤67108864) (hm:m≤67108864):Gv Tryz.prog 166 [.int .i64 n,.int .i64 m] w fun r w'=>r=.agg (cutV n m).toArray∧Ext w w':=by
 have u1:=qaq n 8 (by decide);have u2:=qaq n 2048 (by decide);have u3:=qaq n 256 (by decide);have u4:=qaq m 512 (by decide);have g1:qaf n=8+upN n 8:=rfl;have g2:qa5 n=qaf n+4*upN n 2048:=rfl;have g3:qdp n=qa5 n+2*upN n 256:=rfl;refine zE Tryz.func166 Tryz.ntmps166 ?_;(conv=>whnf);refine NewV.mem (Mem.nil w) ?_;intro r w1 hm;have hm:Mem w w1 [(r,.cells #[.int .i64 0,.int .i64 0,.int .i64 0,.int .i64 0,.int .i64 0] 271 (0,0))]:=hm;(conv=>whnf);refine NewV.mem hm ?_;intro p w2 hm;(conv=>whnf);refine StoreA.all hm (i:=0) rfl rfl (by decide) ?_;intro w3 hm;have hm:Mem w w3 [(p,.cells #[.int .i64 8,.int .i64 0,.int .i64 0,.int .i64 0,.int .i64 0] 271 (0,0)),(r,.cells #[.int .i64 0,.int .i64 0,.int .i64 0,.int .i64 0,.int .i64 0] 271 (0,0))]:=hm;(conv=>whnf);refine DrawV.own rfl (by kernel_rfl) ?_;(conv=>whnf);refine zO ?_;(conv=>whnf);refine zO ?_ (by intro wd hd;(conv=>whnf);refine LoadV.mem (Mem.call (Mem.drew hm) hd) (i:=0) rfl rfl ?_;(conv=>whnf);exact PostO.still (Ext.refl _) rfl);(conv=>whnf);refine zO ?_;(conv=>whnf);apply StepO.still
 ·intro wd hd;(conv=>whnf);refine CallV.of (qp6 n 8 wd (by omega) (by decide) (by decide)) ?_;rintro v w9 ⟨rfl,rfl⟩;exact PostO.still (Ext.refl _) rfl
 (conv=>whnf);refine zO ?_ (by intro wd hd;(conv=>whnf);(refine zA ?_;(conv=>whnf));exact PostO.still (Ext.refl _) rfl);(conv=>whnf);refine zO ?_;(conv=>whnf);intro w4 hd
 (repeat (intro _;(conv=>whnf)))
 (conv=>whnf);refine StoreV.mem (hm.drew.call hd) (i:=0) rfl (show 1<5 by decide) rfl ?_;intro w5 hm;have hm:Mem w w5 [(p,.cells #[.int .i64 8,.int .i64 (qaf n),.int .i64 0,.int .i64 0,.int .i64 0] 271 (0,0)),(r,.cells #[.int .i64 0,.int .i64 0,.int .i64 0,.int .i64 0,.int .i64 0] 271 (0,0))]:=hm;(conv=>whnf);refine DrawV.own rfl (by kernel_rfl) ?_;(conv=>whnf);refine zO ?_;(conv=>whnf);refine zO ?_ (by intro wd hd;(conv=>whnf);refine LoadV.mem (Mem.call (Mem.drew hm) hd) (i:=0) rfl rfl ?_;(conv=>whnf);exact PostO.still (Ext.refl _) rfl);(conv=>whnf);refine zO ?_;(conv=>whnf);apply StepO.still
 ·intro wd hd;(conv=>whnf);refine CallV.of (qp6 n 2048 wd (by omega) (by decide) (by decide)) ?_;rintro v w9 ⟨rfl,rfl⟩;exact PostO.still (Ext.refl _) rfl
 (conv=>whnf);refine zO ?_ (by intro wd hd;(conv=>whnf);(refine zA ?_;(conv=>whnf));exact PostO.still (Ext.refl _) rfl);(conv=>whnf);refine zO ?_ (by intro wd hd;(conv=>whnf);(refine zA ?_;(conv=>whnf));exact PostO.still (Ext.refl _) rfl);(conv=>whnf);refine zO ?_;(conv=>whnf);intro w10 hd
 (repeat (intro _;(conv=>whnf)))
 (conv=>whnf);refine StoreV.mem (hm.drew.call hd) (i:=0) rfl (show 2<5 by decide) rfl ?_;intro w11 hm;have hm:Mem w w11 [(p,.cells #[.int .i64 8,.int .i64 (qaf n),.int .i64 (qa5 n),.int .i64 0,.int .i64 0] 271 (0,0)),(r,.cells #[.int .i64 0,.int .i64 0,.int .i64 0,.int .i64 0,.int .i64 0] 271 (0,0))]:=hm;(conv=>whnf);refine DrawV.own rfl (by kernel_rfl) ?_;(conv=>whnf);refine zO ?_;(conv=>whnf);refine zO ?_ (by intro wd hd;(conv=>whnf);refine LoadV.mem (Mem.call (Mem.drew hm) hd) (i:=0) rfl rfl ?_;(conv=>whnf);exact PostO.still (Ext.refl _) rfl);(conv=>whnf);refine zO ?_;(conv=>whnf);apply StepO.still
 ·intro wd hd;(conv=>whnf);refine CallV.of (qp6 n 256 wd (by omega) (by decide) (by decide)) ?_;rintro v w9 ⟨rfl,rfl⟩;exact PostO.still (Ext.refl _) rfl
 (conv=>whnf);refine zO ?_ (by intro wd hd;(conv=>whnf);(refine zA ?_;(conv=>whnf));exact PostO.still (Ext.refl _) rfl);(conv=>whnf);refine zO ?_ (by intro wd hd;(conv=>whnf);(refine zA ?_;(conv=>whnf));exact PostO.still (Ext.refl _) rfl);(conv=>whnf);refine zO ?_;(conv=>whnf);intro w12 hd
 (repeat (intro _;(conv=>whnf)))
 (conv=>whnf);refine StoreV.mem (hm.drew.call hd) (i:=0) rfl (show 3<5 by decide) rfl ?_;intro w13 hm;have hm:Mem w w13 [(p,.cells #[.int .i64 8,.int .i64 (qaf n),.int .i64 (qa5 n),.int .i64 (qdp n),.int .i64 0] 271 (0,0)),(r,.cells #[.int .i64 0,.int .i64 0,.int .i64 0,.int .i64 0,.int .i64 0] 271 (0,0))]:=hm;(conv=>whnf);refine DrawV.own rfl (by kernel_rfl) ?_;(conv=>whnf);refine zO ?_;(conv=>whnf);refine zO ?_ (by intro wd hd;(conv=>whnf);refine LoadV.mem (Mem.call (Mem.drew hm) hd) (i:=0) rfl rfl ?_;(conv=>whnf);exact PostO.still (Ext.refl _) rfl);(conv=>whnf);refine zO ?_;(conv=>whnf);apply StepO.still
 ·intro wd hd;(conv=>whnf);refine CallV.of (qp6 m 512 wd (by omega) (by decide) (by decide)) ?_;rintro v w9 ⟨rfl,rfl⟩;exact PostO.still (Ext.refl _) rfl
 (conv=>whnf);refine zO ?_ (by intro wd hd;(conv=>whnf);(refine zA ?_;(conv=>whnf));exact PostO.still (Ext.refl _) rfl);(conv=>whnf);refine zO ?_ (by intro wd hd;(conv=>whnf);(refine zA ?_;(conv=>whnf));exact PostO.still (Ext.refl _) rfl);(conv=>whnf);refine zO ?_;(conv=>whnf);intro w14 hd
 (repeat (intro _;(conv=>whnf)))
 (conv=>whnf);refine StoreV.mem (hm.drew.call hd) (i:=0) rfl (show 4<5 by decide) rfl ?_;intro w15 hm;have hm:Mem w w15 [(p,.cells #[.int .i64 8,.int .i64 (qaf n),.int .i64 (qa5 n),.int .i64 (qdp n),.int .i64 (qbr n m)] 271 (0,0)),(r,.cells #[.int .i64 0,.int .i64 0,.int .i64 0,.int .i64 0,.int .i64 0] 271 (0,0))]:=hm;(conv=>whnf);refine zL hm 0 ?_;(conv=>whnf);refine StoreA.all hm (i:=1) rfl rfl (by intro v hv;simp at hv;rcases hv with rfl|rfl|rfl|rfl|rfl<;>rfl) ?_;intro w20 hm;(conv=>whnf);refine qa (R:=fun r w'=>r=.agg (cutV n m).toArray∧Ext w w') ?_;(conv=>whnf);refine zL hm 1 ?_;(conv=>whnf);exact ⟨rfl,hm.ext⟩
theorem qom (n m:Nat) (hn:n≤67108864) (hm:m≤n):qbr n m≤1000000000:=by
 have u1:=qaq n 8 (by decide);have u2:=qaq n 2048 (by decide);have u3:=qaq n 256 (by decide);have u4:=qaq m 512 (by decide);unfold qbr qdp qa5 qaf;omega
theorem quh (n m:Nat) (w:World) (hn:n≤67108864) (hm:m≤n):Gv Tryz.prog 102 [.int .i64 n,.int .i64 m] w fun r w'=>r=.int .i64 (qbr n m)∧Ext w w':=by
 refine zE Tryz.func102 Tryz.ntmps102 ?_;(conv=>whnf);(iterate 3 (refine zN (fun _=>?_);(conv=>whnf);refine zU ?_;(conv=>whnf);refine zU ?_;(conv=>whnf)));refine zU ?_;(conv=>whnf);refine zN (fun _=>?_);(conv=>whnf);refine CallV.of (qsn n m w hn (by omega)) ?_;rintro v w9 ⟨rfl,he⟩;(conv=>whnf);exact ⟨rfl,he⟩
theorem qgu (n m:Nat) (w:World) (hn:n≤67108864) (hm:m≤n):Gv Tryz.prog 110 [.int .i64 n,.int .i64 m] w fun r w'=>r=.int .i64 (qbr n m)∧Ext w w':=by
 have u1:=qaq n 8 (by decide);have u2:=qaq n 2048 (by decide);have u3:=qaq n 256 (by decide);have u4:=qaq m 512 (by decide);refine zE Tryz.func110 Tryz.ntmps110 ?_;(conv=>whnf);(iterate 3 (refine zN (fun _=>?_);(conv=>whnf);refine zU ?_;(conv=>whnf);refine zU ?_;(conv=>whnf)));refine zU ?_;(conv=>whnf);refine zN (fun _=>?_);(conv=>whnf);refine CallV.of (qe6 n 8 _ (by omega) (by decide) (by decide)) ?_;rintro v w9 ⟨rfl,rfl⟩;(conv=>whnf);refine zA ?_;(conv=>whnf);refine CallV.of (qe6 n 2048 _ (by omega) (by decide) (by decide)) ?_;rintro v w9 ⟨rfl,rfl⟩;(conv=>whnf);(iterate 2 (refine zA ?_;(conv=>whnf)));refine CallV.of (qe6 n 256 _ (by omega) (by decide) (by decide)) ?_;rintro v w9 ⟨rfl,rfl⟩;(conv=>whnf);(iterate 2 (refine zA ?_;(conv=>whnf)));refine CallV.of (qe6 m 512 _ (by omega) (by decide) (by decide)) ?_;rintro v w9 ⟨rfl,rfl⟩;(conv=>whnf);(iterate 2 (refine zA ?_;(conv=>whnf)));exact ⟨congrArg (Value.int .i64) (by unfold qbr qdp qa5 qaf;omega),Ext.refl _⟩
theorem qc5 (p c:Nat) (w:World):Gv Tryz.prog 168 [.int .i64 p,.int .i64 c] w fun v w'=>ErrAt w' v p c∧Ext w w':=by
 refine zE Tryz.func168 Tryz.ntmps168 ?_;(conv=>whnf);refine NewV.mem (Mem.nil w) ?_;intro b w1 hm;(conv=>whnf);exact ⟨⟨b,rfl,CellsAt.mem hm (List.mem_cons_self ..)⟩,hm.ext⟩
theorem qbf (p c:Nat) (w:World):Gv Tryz.prog 101 [.int .i64 p,.int .i64 c] w fun v w'=>ErrAt w' v p c∧Ext w w':=by
 refine zE Tryz.func101 Tryz.ntmps101 ?_;(conv=>whnf);refine NewV.mem (Mem.nil w) ?_;intro b w1 hm;(conv=>whnf);exact ⟨⟨b,rfl,CellsAt.mem hm (List.mem_cons_self ..)⟩,hm.ext⟩
theorem qee (p c:Nat) (w:World):Gv Tryz.prog 227 [.int .i64 p,.int .i64 c] w fun v w'=>ErrAt w' v p c∧Ext w w':=by
 refine zE Tryz.func227 Tryz.ntmps227 ?_;(conv=>whnf);refine NewV.mem (Mem.nil w) ?_;intro b w1 hm;(conv=>whnf);exact ⟨⟨b,rfl,CellsAt.mem hm (List.mem_cons_self ..)⟩,hm.ext⟩
def vN (l:List UInt8):Nat:=leN (l.take 4)
def vM (l:List UInt8):Nat:=leN ((l.drop 4).take 4)
def vOk (l:List UInt8):Bool:=decide (8≤l.length)&&decide (vN l≤67108864)&&decide (vM l≤vN l)&&decide (l.length=qbr (vN l) (vM l))
def vecC (s:Value) (n m:Nat):Array Value:=#[s,.int .i64 n,.int .i64 m,.int .i64 8,.int .i64 (qaf n),.int .i64 (qa5 n),.int .i64 (qdp n),.int .i64 (qbr n m)]
def vecO (t:TypeId) (s:Value) (n m:Nat):Obj:=.cells (vecC s n m) t (0,0)
structure Sto (wd:World) (F:World→Prop) (s4 s8 s9 s12:Bool) (w:World):Prop where
 a:s12=false→Ext wd w
 f:s12=true→F w∧s4=true∧s8=true∧s9=true
section
variable {wd w w':World} {F:World→Prop} {s4 s8 s9 s12:Bool}
theorem Sto.start:Sto wd F false false false false wd:=⟨fun _=>Ext.refl _,fun h=>(by cases h)⟩
theorem Sto.of {u4 u8 u9:Bool} (h:Sto wd F s4 s8 s9 s12 w) (h12:s12=false) (he:Ext w w'):Sto wd F u4 u8 u9 s12 w':=⟨fun h'=>(h.a h').trans he,fun h'=>(by rw [h12] at h';cases h')⟩
theorem Sto.z4 (h:Sto wd F false s8 s9 s12 w):s12=false:=by
 cases h':s12
 ·rfl
 ·have:=(h.f h').2.1;cases this
theorem Sto.z8 (h:Sto wd F s4 false s9 s12 w):s12=false:=by
 cases h':s12
 ·rfl
 ·have:=(h.f h').2.2.1;cases this
theorem Sto.z9 (h:Sto wd F s4 s8 false s12 w):s12=false:=by
 cases h':s12
 ·rfl
 ·have:=(h.f h').2.2.2;cases this
end
def qzq (l:List UInt8) (s:Value) (v:Value) (w0 w:World):Prop:=
 (vOk l=false∧(∃ e p c,v=.tuple #[.pointer none,.bool false,e]∧ErrAt w e p c∨∃ b,v=.tuple #[.pointer (some ⟨b,0,none⟩),.bool false,.nilIface]∧w0.heap.size≤b∧w.heap[b]?=some (vecO 276 s (vN l) (vM l))∧vN l≤67108864∧vM l≤vN l))∨
 (vOk l=true∧∃ b,v=.tuple #[.pointer (some ⟨b,0,none⟩),.bool true,.nilIface]∧w0.heap.size≤b∧w.heap[b]?=some (vecO 276 s (vN l) (vM l)))
theorem qum (l:List UInt8) (A:Option Addr) (c:Nat) (w:World) (hS:SlAt encB 1 w A l) (hc:l.length≤c) (hl:l.length≤140737488355328) :
  Gv Tryz.prog 167 [.slice A l.length c] w fun v w'=>qzq l (.slice A l.length c) v w w'∧Ext w w':=by
 refine zE Tryz.func167 Tryz.ntmps167 ?_;(conv=>whnf);refine zC (fun _=>?_) (fun _=>?_)<;>(conv=>whnf)
 ·refine CallV.of (qc5 l.length 10 w) ?_;rintro v w9 ⟨⟨b,rfl,h9⟩,he9⟩;(conv=>whnf);refine ⟨.inl ⟨?_,_,_,_,.inl ⟨rfl,b,rfl,h9⟩⟩,he9⟩;rw [vOk,decide_eq_false (by omega)];rfl
 have h8:8≤l.length:=by omega
 obtain ⟨g,off,hA,_⟩:=hS.at_ (by intro e;rw [e] at h8;simp at h8);subst hA;have hN:vN l<4294967296:=by
  have:=qag l 4 (by omega)
  simpa [vN] using this
 have hM:vM l<4294967296:=by
  have:=qag (l.drop 4) 4 (by rw [List.length_drop];omega)
  simpa [vM] using this
 refine DrawV.free (by kernel_rfl) (by kernel_rfl) ?_;(conv=>whnf);refine zD ?_;(conv=>whnf);refine zD ?_;(conv=>whnf);apply StepD.still
 ·intro wd hd;(conv=>whnf);refine CallV.of (qkq l (some ⟨g,off,none⟩) _ c wd (hS.ext ((Ext.refl w).drew.trans hd)) rfl (by omega)) ?_;rintro v w9 ⟨rfl,h9⟩;exact ⟨h9,rfl⟩
 (conv=>whnf);refine zD ?_;(conv=>whnf);apply StepD.still
 ·intro wd hd;(conv=>whnf);refine SliceV.rest 4 rfl hc (by omega) ?_;(conv=>whnf);exact ⟨Ext.refl _,rfl⟩
 (conv=>whnf);apply StepD.still
 ·intro wd hd;(conv=>whnf);refine CallV.of (qkq (l.drop 4) _ _ _ wd (SlAt.rest (hS.ext ((Ext.refl w).drew.trans hd)) (by omega)) (by rw [List.length_drop]) (by rw [List.length_drop];omega)) ?_;rintro v w9 ⟨rfl,h9⟩;exact ⟨h9,rfl⟩
 (conv=>whnf);refine zD ?_;(conv=>whnf);apply StepD.of (fun v wx=>∃ b,v=.pointer (some ⟨b,0,none⟩)∧w.drew.heap.size≤b∧wx.heap[b]?=some (.cells #[.slice (some ⟨g,off,none⟩) l.length c,.int .i64 (vN l),.int .i64 (vM l),.int .i64 0,.int .i64 0,.int .i64 0,.int .i64 0,.int .i64 0] 276 (0,0)))
  (fun _ _ _ h he=>let ⟨b,h1,h2,h3⟩:=h;⟨b,h1,h2,he.get h3⟩)
 ·intro wd hd;(conv=>whnf);refine ⟨fun x wx hb hw=>?_⟩;subst hb hw;(conv=>whnf);exact ⟨(Ext.refl _).alloc _,_,rfl,hd.size,heap_alloc_new _ _⟩
 (conv=>whnf);apply StepD.of (fun v wx=>∃ b,v=.pointer (some ⟨b,0,none⟩)∧w.drew.heap.size≤b∧wx.heap[b]?=some (.cells #[.slice (some ⟨g,off,none⟩) l.length c,.int .i64 (vN l),.int .i64 (vM l),.int .i64 0,.int .i64 0,.int .i64 0,.int .i64 0,.int .i64 0] 276 (0,0)))
  (fun _ _ _ h he=>let ⟨b,h1,h2,h3⟩:=h;⟨b,h1,h2,he.get h3⟩)
 ·intro wd hd;(conv=>whnf);rintro _ _;(conv=>whnf);rintro v ⟨b,rfl,h1,h2⟩;(conv=>whnf);exact ⟨Ext.refl _,b,rfl,h1,h2⟩
 (conv=>whnf);intro w9 he9;(conv=>whnf);rintro v ⟨b,rfl,hb,ho⟩;(conv=>whnf);intro _ _;(conv=>whnf);have hm:=(Mem.nil w).drew.fresh he9 hb ho;refine LoadV.mem (i:=0) (by assumption) rfl rfl ?_;(conv=>whnf);refine zC (fun _=>?_) (fun _=>?_)<;>(conv=>whnf)
 ·refine CallV.of (qc5 0 2 w9) ?_;rintro v w10 ⟨⟨b1,rfl,h9⟩,he10⟩;(conv=>whnf);refine ⟨.inl ⟨?_,_,_,_,.inl ⟨rfl,b1,rfl,h9⟩⟩,hm.ext.trans he10⟩;rw [vOk,decide_eq_true (by omega),decide_eq_false (by omega)];rfl
 refine DrawV.quiet (by kernel_rfl) (by kernel_rfl) ?_;(conv=>whnf);have hm:=hm.drew;(iterate 3 (refine zW ?_;(conv=>whnf)));refine LoadV.mem (i:=0) (by assumption) rfl rfl ?_;(conv=>whnf);(iterate 4 (refine zW ?_;(conv=>whnf)));refine LoadV.mem (i:=0) (by assumption) rfl rfl ?_;(conv=>whnf);(iterate 3 (refine zW ?_;(conv=>whnf)));refine zC (fun _=>?_) (fun _=>?_)<;>(conv=>whnf)
 ·refine CallV.of (qc5 4 20 w9.drew) ?_;rintro v w10 ⟨⟨b1,rfl,h9⟩,he10⟩;(conv=>whnf);refine ⟨.inl ⟨?_,_,_,_,.inl ⟨rfl,b1,rfl,h9⟩⟩,hm.ext.trans he10⟩;rw [vOk,decide_eq_true (by omega),decide_eq_true (by omega),decide_eq_false (by omega)];rfl
 have g1:vN l≤67108864:=by omega
 have g2:vM l≤vN l:=by omega
 obtain ⟨F,hF⟩:∃ F:World→Prop,F=fun w'=>Mem w w' [(b,vecO 276 (.slice (some ⟨g,off,none⟩) l.length c) (vN l) (vM l))]:=⟨_,rfl⟩
 obtain ⟨w3,hw3⟩:∃ w3:World,w3=w9.drew:=⟨_,rfl⟩
 rw [← hw3] at hm ⊢;refine DrawV.inv (fun S w'=>Sto w3.drew F (S 4) (S 8) (S 9) (S 12) w') rfl (by kernel_rfl) Sto.start ?_;(conv=>whnf);refine zI ?_;(conv=>whnf);refine zI ?_;(conv=>whnf);refine zI ?_;(conv=>whnf);refine zI ?_;(conv=>whnf);refine StepI.of (.int .i64 (vN l)) (fun S wd hk hp hI=>?_) ?_
 ·dsimp only at hI;rw [hk] at hI;(conv=>whnf);refine LoadV.mem (hm.drew.call (hI.a hI.z4)) (i:=0) rfl rfl ?_;(conv=>whnf);exact ⟨rfl,hI.of hI.z4 (Ext.refl _)⟩
 (conv=>whnf);refine zI ?_;(conv=>whnf);refine zI ?_;(conv=>whnf);refine zI ?_;(conv=>whnf);refine StepI.of (.int .i64 (vM l)) (fun S wd hk hp hI=>?_) ?_
 ·dsimp only at hI;rw [hk] at hI;(conv=>whnf);refine LoadV.mem (hm.drew.call (hI.a hI.z8)) (i:=0) rfl rfl ?_;(conv=>whnf);exact ⟨rfl,hI.of hI.z8 (Ext.refl _)⟩
 (conv=>whnf);refine StepI.of (.agg (cutV (vN l) (vM l)).toArray) (fun S wd hk hp hI=>?_) ?_
 ·dsimp only at hI;rw [hk] at hI;(conv=>whnf);refine CallV.of (qsn (vN l) (vM l) wd (by omega) (by omega)) ?_;rintro v w9 ⟨rfl,h9⟩;exact ⟨rfl,hI.of hI.z9 h9⟩
 (conv=>whnf);refine zI ?_;(conv=>whnf);refine zI ?_;(conv=>whnf);refine StepI.of undef (fun S wd hk hp hI=>?_) ?_
 ·dsimp only at hI;have h4:S 4=true:=hp 4 (by decide);have h8':S 8=true:=hp 8 (by decide);have h9:S 9=true:=hp 9 (by decide);rw [hk] at hI;(conv=>whnf);refine StoreA.mem (hm.drew.call (hI.a rfl)) (i:=0) rfl (show 3+5≤8 by decide) (by intro v hv;simp [cutV] at hv;rcases hv with rfl|rfl|rfl|rfl|rfl<;>rfl) ?_;intro wx hmx;(conv=>whnf);exact ⟨rfl,fun h=>(by cases h),fun _=>⟨by rw [hF];exact hmx,h4,h8',h9⟩⟩
 (conv=>whnf);intro w11 hI;have hm:=(hI.f rfl).1;rw [hF] at hm;(conv=>whnf);refine zR hm 0 ?_;(conv=>whnf);refine zC (fun _=>?_) (fun _=>?_)<;>(conv=>whnf)
 ·refine CallV.of (qc5 l.length 10 w11) ?_;rintro v w10 ⟨⟨b1,rfl,h9⟩,he10⟩;(conv=>whnf);refine ⟨.inl ⟨?_,_,_,_,.inl ⟨rfl,b1,rfl,h9⟩⟩,hm.ext.trans he10⟩;rw [vOk,decide_eq_true (by omega),decide_eq_true (by omega),decide_eq_true (by omega),decide_eq_false (by omega)];rfl
 refine DrawV.quiet (by kernel_rfl) (by kernel_rfl) ?_;(conv=>whnf);have hm:=hm.drew;(iterate 7 (refine zW ?_;(conv=>whnf)));refine LoadV.mem (i:=0) (by assumption) rfl rfl ?_;(conv=>whnf);(iterate 5 (refine zW ?_;(conv=>whnf)));refine ⟨?_,hm.ext⟩;have hb':w.heap.size≤b:=(hm.own _ (List.mem_cons_self ..)).1;have hv:vOk l=decide (l.length=qbr (vN l) (vM l)):=by
  rw [vOk,decide_eq_true (by omega),decide_eq_true (by omega),decide_eq_true (by omega)];rfl
 by_cases e:l.length=qbr (vN l) (vM l)
 ·refine .inr ⟨by rw [hv,decide_eq_true e],b,?_,hb',hm.get (List.mem_cons_self ..)⟩;rw [decide_eq_true (by omega)]
 ·refine .inl ⟨by rw [hv,decide_eq_false e],.pointer none,0,0,.inr ⟨b,?_,hb',hm.get (List.mem_cons_self ..),g1,g2⟩⟩;rw [decide_eq_false (by omega)]
def VecR (l:List UInt8) (s:Value) (v:Value) (w0 w:World):Prop:=
 (vOk l=false∧∃ e p c,v=.tuple #[.pointer none,e]∧ErrAt w e p c)∨
 (vOk l=true∧∃ b,v=.tuple #[.pointer (some ⟨b,0,none⟩),.nilIface]∧w0.heap.size≤b∧w.heap[b]?=some (vecO 276 s (vN l) (vM l)))
theorem qva (l:List UInt8) (A:Option Addr) (c:Nat) (w:World) (hS:SlAt encB 1 w A l) (hc:l.length≤c) (hl:l.length≤140737488355328) :
  Gv Tryz.prog 103 [.slice A l.length c] w fun v w'=>VecR l (.slice A l.length c) v w w'∧Ext w w':=by
 have hsh:=qum l A c w hS hc hl;refine zE Tryz.func103 Tryz.ntmps103 ?_;(conv=>whnf);refine CallV.of (hsh) ?_;rintro v w1 ⟨h,he⟩
 rcases h with ⟨h0,e,p,q,⟨rfl,b,rfl,hE⟩|⟨b,rfl,hb,ho,g1,g2⟩⟩|⟨h1,b,rfl,hb,ho⟩
 ·(conv=>whnf);refine Tst.yes rfl ?_;(conv=>whnf);refine ⟨.inl ⟨h0,_,_,_,rfl,b,rfl,hE⟩,he⟩
 ·(conv=>whnf);refine Tst.no rfl ?_;(conv=>whnf);refine zP ?_;refine zU ?_;(conv=>whnf);refine LoadV.own ho rfl ?_;(conv=>whnf);refine CallV.of (qc5 _ 13 w1) ?_;rintro v w10 ⟨⟨b1,rfl,h9⟩,he10⟩;(conv=>whnf);exact ⟨.inl ⟨h0,_,_,_,rfl,b1,rfl,h9⟩,he.trans he10⟩
 ·(conv=>whnf);refine Tst.no rfl ?_;(conv=>whnf);refine zP ?_;refine zT ?_;(conv=>whnf);exact ⟨.inr ⟨h1,b,rfl,hb,ho⟩,he⟩
open Go.RowKit V
theorem qjg {n:Nat} (h:n<256):InR .u8 (n:Int):=⟨by omega,by omega⟩
def qe2 (n:Nat):Nat:=n%2+n/2%2+n/4%2+n/8%2+n/16%2+n/32%2+n/64%2+n/128%2
def qay (l:List UInt8):Nat→Nat→Nat
 | _,0=>0
 | a,k+1=>qay l a k+qe2 (l.getD (a+k) 0).toNat
def qhg (l:List UInt8) (i:Nat):Nat:=
 if i=0∨vN l=0 then 0 else if vN l≤i then vM l else
  min (leN ((l.drop (qaf (vN l)+4*(i/2048))).take 4)+leN ((l.drop (qa5 (vN l)+2*(i/256))).take 2)+qay l (8+i/256*32) (i%256/8)+qe2 ((l.getD (8+i/8) 0).toNat%2 ^ (i%8))) i
def bitN (d:List UInt8) (i:Nat):Nat:=(d.getD (i/8) 0).toNat/2 ^ (i%8)%2
def cnt (d:List UInt8):Nat→Nat
 | 0=>0
 | n+1=>cnt d n+bitN d n
theorem qc8 (d:List UInt8) (i:Nat):bitN d i≤1:=by unfold bitN;omega
theorem qo3 (d:List UInt8) (n:Nat):cnt d n≤n:=by
 induction n with
 | zero=>exact Nat.le_refl _
 | succ n ih=>have:=qc8 d n;simp only [cnt];omega
theorem qkd {d:List UInt8} {a b:Nat} (h:a≤b):cnt d a≤cnt d b:=by
 induction h with
 | refl=>exact Nat.le_refl _
 | step _ ih=>simp only [cnt];omega
theorem qqz:∀ x,x<256→∀ r,r<8→qe2 (x%2 ^ (r+1))=qe2 (x%2 ^ r)+x/2 ^ r%2:=by decide +kernel
theorem qxi (d:List UInt8) (a r:Nat) (hr:r≤8):cnt d (8*a+r)=cnt d (8*a)+qe2 ((d.getD a 0).toNat%2 ^ r):=by
 induction r with
 | zero=>rw [Nat.pow_zero,Nat.mod_one,Nat.add_zero];rfl
 | succ r ih=>
  rw [← Nat.add_assoc,cnt,ih (by omega),qqz _ (qt _) r (by omega),bitN];have e1:(8*a+r)/8=a:=by omega
  have e2:(8*a+r)%8=r:=by omega
  rw [e1,e2];omega
theorem qvo (d:List UInt8) (a k:Nat):cnt d (8*(a+k))=cnt d (8*a)+qay d a k:=by
 induction k with
 | zero=>rfl
 | succ k ih=>
  have e:8*(a+(k+1))=8*(a+k)+8:=by omega
  rw [e,qxi d (a+k) 8 (by omega),ih,qay];have h:=qt (d.getD (a+k) 0);rw [show (2:Nat) ^ 8=256 by decide,Nat.mod_eq_of_lt h];omega
theorem qh7 {α:Type} (l:List α) (a i:Nat) (x:α):(l.drop a).getD i x=l.getD (a+i) x:=by
 rw [List.getD_eq_getElem?_getD,List.getD_eq_getElem?_getD,List.getElem?_drop]
theorem qta {α:Type} (l:List α) (a i:Nat) (x:α) (h:i<a):(l.take a).getD i x=l.getD i x:=by
 rw [List.getD_eq_getElem?_getD,List.getD_eq_getElem?_getD,List.getElem?_take,if_pos h]
theorem qk5 (l:List UInt8) (b a k:Nat):qay (l.drop b) a k=qay l (b+a) k:=by
 induction k with
 | zero=>rfl
 | succ k ih=>rw [qay,qay,ih,qh7,Nat.add_assoc]
theorem qsb (l:List UInt8) (a t:Nat):bitN (l.drop a) t=bitN l (8*a+t):=by
 rw [bitN,bitN,qh7];have e1:(8*a+t)/8=a+t/8:=by omega
 have e2:(8*a+t)%8=t%8:=by omega
 rw [e1,e2]
theorem qe9 (l:List UInt8) (a t:Nat) (h:t<8*a):bitN (l.take a) t=bitN l t:=by
 rw [bitN,bitN,qta _ _ _ _ (by omega)]
theorem qo4 (l:List UInt8) (a:Nat):∀ n,n≤8*a→cnt (l.take a) n=cnt l n
 | 0,_=>rfl
 | n+1,h=>by rw [cnt,cnt,qo4 l a n (by omega),qe9 _ _ _ (by omega)]
structure VecOk (l:List UInt8):Prop where
 ok:vOk l=true
 great:∀ j,j<upN (vN l) 2048→leN ((l.drop (qaf (vN l)+4*j)).take 4)=cnt (l.drop 8) (2048*j)
 small:∀ j,j<upN (vN l) 256→leN ((l.drop (qa5 (vN l)+2*j)).take 2)=cnt (l.drop 8) (256*j)-cnt (l.drop 8) (2048*(j/8))
 ones:cnt (l.drop 8) (vN l)=vM l
theorem VecOk.rank {l:List UInt8} (h:VecOk l) (i:Nat) (hi:i≤vN l):qhg l i=cnt (l.drop 8) i:=by
 rw [qhg]
 by_cases h0:i=0∨vN l=0
 ·rw [if_pos h0];obtain rfl:i=0:=by omega
  rfl
 rw [if_neg h0]
 by_cases h1:vN l≤i
 ·rw [if_pos h1];obtain rfl:i=vN l:=by omega
  exact h.ones.symm
 rw [if_neg h1];have k1:i/2048<upN (vN l) 2048:=by unfold upN;omega
 have k2:i/256<upN (vN l) 256:=by unfold upN;omega
 rw [h.great _ k1,h.small _ k2,← qk5,← qh7];have e8:i/256/8=i/2048:=by omega
 rw [e8];have m1:cnt (l.drop 8) (2048*(i/2048))≤cnt (l.drop 8) (256*(i/256)):=qkd (by omega);have f1:=qvo (l.drop 8) (i/256*32) (i%256/8);have f2:=qxi (l.drop 8) (i/8) (i%8) (by omega);have q1:8*(i/256*32+i%256/8)=8*(i/8):=by omega
 have q2:8*(i/256*32)=256*(i/256):=by omega
 have q3:8*(i/8)+i%8=i:=by omega
 rw [q1,q2] at f1;rw [q3] at f2;have hle:=qo3 (l.drop 8) i;omega
theorem qtp:∀ (l:List UInt8) (t:Nat),leN l/2 ^ t%2=bitN l t
 | [],t=>by simp [leN,bitN]
 | x::l,t=>by
  have hx:=qt x
  rcases Nat.lt_or_ge t 8 with ht|ht
  ·have e1:t/8=0:=by omega
   have e2:t%8=t:=by omega
   rw [bitN,e1,e2,leN];simp only [List.getD_cons_zero];obtain rfl|rfl|rfl|rfl|rfl|rfl|rfl|rfl:t=0∨t=1∨t=2∨t=3∨t=4∨t=5∨t=6∨t=7:=by omega
   all_goals (simp only [Nat.reducePow];omega)
  ·obtain ⟨u,rfl⟩:∃ u,t=8+u:=⟨t-8,by omega⟩
   rw [leN,Nat.pow_add,← Nat.div_div_eq_div_mul];have e:(x.toNat+256*leN l)/2 ^ 8=leN l:=by simp only [Nat.reducePow];omega
   rw [e,qtp l u,bitN,bitN];have e1:(8+u)/8=u/8+1:=by omega
   have e2:(8+u)%8=u%8:=by omega
   rw [e1,e2,List.getD_cons_succ]
def valB (p:List UInt8) (f:Nat):Nat→Nat
 | 0=>0
 | k+1=>valB p f k+bitN p (f+k)*2 ^ k
theorem qi5 (p:List UInt8) (f k:Nat):valB p f k<2 ^ k:=by
 induction k with
 | zero=>simp [valB]
 | succ k ih=>
  have:=qc8 p (f+k);have h2:bitN p (f+k)*2 ^ k≤1*2 ^ k:=Nat.mul_le_mul_right _ this;rw [valB,Nat.pow_succ];omega
theorem qln (p:List UInt8) (f k:Nat) {m:Nat} (h:k≤m):valB p f k<2 ^ m:=Nat.lt_of_lt_of_le (qi5 p f k) (Nat.pow_le_pow_right (by decide) h)
def numP (p:List UInt8) (w i:Nat):Nat:=leN ((p.drop (i*w/8)).take 4)/2 ^ (i*w%8)%2 ^ w
theorem qyx (p:List UInt8) (w i:Nat):numP p w i<2 ^ w:=Nat.mod_lt _ (Nat.two_pow_pos w)
theorem qwi (p:List UInt8) (w i:Nat) (hw:w≤24):numP p w i=valB p (i*w) w:=by
 have key:∀ k,k≤w→leN ((p.drop (i*w/8)).take 4)/2 ^ (i*w%8)%2 ^ k=valB p (i*w) k:=by
  intro k
  induction k with
  | zero=>intro _;simp [valB,Nat.mod_one]
  | succ k ih=>
   intro hk;rw [Nat.mod_pow_succ,ih (by omega),valB,Nat.div_div_eq_div_mul,← Nat.pow_add,qtp,qe9 _ _ _ (by omega),qsb];have e:8*(i*w/8)+(i*w%8+k)=i*w+k:=by omega
   rw [e,Nat.mul_comm (2 ^ k)]
 exact key w (Nat.le_refl _)
open Go.RowKit V
def errF (f:Nat→Nat × Nat):Nat→Nat × Nat
 | 0=>(0,0)
 | k+1=>if (errF f k).2≠0 then errF f k else f k
theorem qap {f:Nat→Nat × Nat} {n:Nat} (h:∀ k,k<n→(f k).2=0):(errF f n).2=0:=by
 induction n with
 | zero=>rfl
 | succ n ih=>
  have:=ih fun k hk=>h k (by omega)
  rw [errF,if_neg (by omega)];exact h n (by omega)
theorem qan {f:Nat→Nat × Nat} {n k:Nat} (h:∀ j,j<k→(f j).2=0) (hk:k<n) (he:(f k).2≠0):errF f n=f k:=by
 induction n with
 | zero=>omega
 | succ n ih=>
  by_cases hn:k=n
  ·subst hn;rw [errF,if_neg (by rw [qap h];simp)]
  ·rw [errF,ih (by omega),if_pos he]
theorem qcd {f:Nat→Nat × Nat} {n:Nat} (h:(errF f n).2=0):∀ k,k<n→(f k).2=0:=by
 induction n with
 | zero=>intro k hk;omega
 | succ n ih=>
  rw [errF] at h
  split at h
  ·rename_i h0;exact absurd h h0
  ·rename_i h0
   intro k hk
   by_cases hn:k=n
   ·subst hn;exact h
   ·exact ih (by omega) k (by omega)
def vAt (l:List UInt8):Nat→Nat
 | 0=>0
 | k+1=>vAt l k+(numL (l.drop (vAt l k))).2.1
def vNum (l:List UInt8) (k:Nat):Nat:=(numL (l.drop (vAt l k))).1
def numE (l:List UInt8) (k most:Nat):Nat × Nat:=
 if (numL (l.drop (vAt l k))).2.2≠0 then (vAt l k,(numL (l.drop (vAt l k))).2.2) else if most<vNum l k then (vAt l k,2) else (0,0)
theorem qbs (l:List UInt8) (k:Nat):vAt l k≤l.length:=by
 induction k with
 | zero=>exact Nat.zero_le _
 | succ k ih=>
  have:=(qah (l.drop (vAt l k))).2.1;rw [List.length_drop] at this;rw [vAt];omega
theorem qe7 (l:List UInt8) (k:Nat):vNum l k<18446744073709551616:=(qah (l.drop (vAt l k))).1
theorem qok {l:List UInt8} {k:Nat} (h:(numL (l.drop (vAt l k))).2.2=0):varS l (vAt l k) 0=(vNum l k,vAt l (k+1),0):=by
 rw [varS,if_neg (by simp),if_neg (by omega)];rfl
theorem qoj {l:List UInt8} {k:Nat} (h:(numL (l.drop (vAt l k))).2.2≠0):varS l (vAt l k) 0=(0,vAt l k,(numL (l.drop (vAt l k))).2.2):=by
 rw [varS,if_neg (by simp),if_pos h]
section
variable {l:List UInt8} {k:Nat}
theorem qhy (h:(numL (l.drop (vAt l k))).2.2=0):(varS l (vAt l k) 0).1=vNum l k:=by rw [qok h]
theorem qhz (h:(numL (l.drop (vAt l k))).2.2=0):(varS l (vAt l k) 0).2.1=vAt l (k+1):=by rw [qok h]
theorem qh0 (h:(numL (l.drop (vAt l k))).2.2=0):(varS l (vAt l k) 0).2.2=0:=by rw [qok h]
theorem qhv (h:(numL (l.drop (vAt l k))).2.2≠0):(varS l (vAt l k) 0).1=0:=by rw [qoj h]
theorem qhw (h:(numL (l.drop (vAt l k))).2.2≠0):(varS l (vAt l k) 0).2.1=vAt l k:=by rw [qoj h]
theorem qhx (h:(numL (l.drop (vAt l k))).2.2≠0):(varS l (vAt l k) 0).2.2=(numL (l.drop (vAt l k))).2.2:=by rw [qoj h]
theorem qoi {a:Nat} (h:(numL (l.drop a)).2.2=0):(varS l a 0).1=(numL (l.drop a)).1∧(varS l a 0).2.1=a+(numL (l.drop a)).2.1∧(varS l a 0).2.2=0:=by
 rw [varS,if_neg (by simp),if_neg (by omega)];exact ⟨rfl,rfl,rfl⟩
theorem qoh {a:Nat} (h:(numL (l.drop a)).2.2≠0):(varS l a 0).1=0∧(varS l a 0).2.1=a∧(varS l a 0).2.2=(numL (l.drop a)).2.2:=by
 rw [varS,if_neg (by simp),if_pos h];exact ⟨rfl,rfl,rfl⟩
theorem qbu {most:Nat} (h1:(numL (l.drop (vAt l k))).2.2=0) (h2:vNum l k≤most):numE l k most=(0,0):=by rw [numE,if_neg (by omega),if_neg (by omega)]
theorem qyw {most:Nat} (h1:(numL (l.drop (vAt l k))).2.2=0) (h:(numE l k most).2=0):vNum l k≤most:=by
 rw [numE,if_neg (by omega)] at h
 split at h
 ·cases h
 ·omega
theorem qde {most:Nat} (h1:(numL (l.drop (vAt l k))).2.2≠0):numE l k most=(vAt l k,(numL (l.drop (vAt l k))).2.2):=by rw [numE,if_pos h1]
theorem qcj {most:Nat} (h1:(numL (l.drop (vAt l k))).2.2=0) (h2:most<vNum l k):numE l k most=(vAt l k,2):=by rw [numE,if_neg (by omega),if_pos h2]
end
def qcn (n:Nat):Nat:=Go.Lib.bitLen n
def dhF (m:List UInt8) (k:Nat):Nat × Nat:=numE m k (if k=0 then 4194304 else 67108864)
def dN (m:List UInt8):Nat:=vNum m 0
def qdw (m:List UInt8):Nat:=vNum m 1
def dW (m:List UInt8):Nat:=qcn (qdw m)
def qaj (m:List UInt8):Nat:=vAt m 2
def qf (m:List UInt8):Nat:=qaj m+(upN (dN m) 16*dW m+7)/8
def dEnd (m:List UInt8):Nat:=qf m+qdw m
def dE (m:List UInt8):Nat × Nat:=
 if (errF (dhF m) 2).2≠0 then errF (dhF m) 2 else if m.length<dEnd m then (m.length,10) else if dEnd m<m.length then (dEnd m,13) else (0,0)
def qz (m:List UInt8):List UInt8:=(m.drop (qaj m)).take (qf m-qaj m)
def qj (m:List UInt8):List UInt8:=m.drop (qf m)
def entG (m:List UInt8) (first:Bool) (ahead:List UInt8):List UInt8 × Nat × Nat:=
 let s:Nat × Nat × Nat:=if first then (0,0,0) else numL m
 if s.2.2≠0 then ([],0,s.2.2) else
  let t:=numL (m.drop s.2.1)
  if t.2.2≠0 then ([],0,t.2.2) else if ahead.length<s.1 then ([],0,161) else if 262144<t.1∨262144<s.1+t.1 then ([],0,2)
  else if m.length-s.2.1-t.2.1<t.1 then ([],0,10) else (ahead.take s.1++(m.drop (s.2.1+t.2.1)).take t.1,s.2.1+t.2.1+t.1,0)
def qcc (E:List UInt8) (p:Nat) (first:Bool) (ahead:List UInt8):List UInt8 × Nat × Nat:=
 if E.length<p then ([],0,10) else if (entG (E.drop p) first ahead).2.2≠0 then ([],0,(entG (E.drop p) first ahead).2.2) else
  ((entG (E.drop p) first ahead).1,p+(entG (E.drop p) first ahead).2.1,0)
def blk (E:List UInt8) (p:Nat):Nat→List UInt8 × Nat × Nat
 | 0=>qcc E p true []
 | j+1=>if (blk E p j).2.2≠0 then blk E p j else qcc E (blk E p j).2.1 false (blk E p j).1
def qad (m:List UInt8) (k:Nat):Nat:=valB (qz m) (k*dW m) (dW m)
def dGet (m:List UInt8) (i:Nat):Option (List UInt8):=
 if i<dN m then (if (blk (qj m) (qad m (i/16)) (i%16)).2.2=0 then some (blk (qj m) (qad m (i/16)) (i%16)).1 else none) else none
theorem qcv {m:List UInt8} {first:Bool} {ahead:List UInt8} (h:(entG m first ahead).2.2=0):(entG m first ahead).1.length≤262144∧(entG m first ahead).2.1≤m.length:=by
 unfold entG at h ⊢;have hb1:=qah m;obtain ⟨s,hs⟩:∃ s:Nat × Nat × Nat,s=if first then (0,0,0) else numL m:=⟨_,rfl⟩
 rw [← hs] at h ⊢;have hs2:s.2.1≤m.length:=by rw [hs];split;exact Nat.zero_le _;exact hb1.2.1
 have hb2:=qah (m.drop s.2.1);rw [List.length_drop] at hb2;dsimp only at h ⊢
 split at h
 ·rename_i h0;exact absurd h h0
 rename_i g0
 rw [if_neg g0]
 split at h
 ·rename_i h0;exact absurd h h0
 rename_i g1
 rw [if_neg g1]
 split at h
 ·cases h
 rename_i g2
 rw [if_neg g2]
 split at h
 ·cases h
 rename_i g3
 rw [if_neg g3]
 split at h
 ·cases h
 rename_i g4
 rw [if_neg g4];refine ⟨?_,?_⟩
 ·simp only [List.length_append,List.length_take,List.length_drop];omega
 ·simp only;omega
theorem qo8 {E:List UInt8} {p:Nat} {first:Bool} {ahead:List UInt8} (h:(qcc E p first ahead).2.2=0):(qcc E p first ahead).1.length≤262144∧(qcc E p first ahead).2.1≤E.length:=by
 unfold qcc at h ⊢
 split at h
 ·cases h
 rename_i g0
 rw [if_neg g0]
 split at h
 ·rename_i g1;exact absurd h g1
 rename_i g1
 rw [if_neg g1];have:=qcv (show (entG (E.drop p) first ahead).2.2=0 by omega);rw [List.length_drop] at this;exact ⟨this.1,by simp only;omega⟩
theorem qxg {E:List UInt8} {p:Nat}:∀ {j:Nat},(blk E p j).2.2=0→(blk E p j).1.length≤262144∧(blk E p j).2.1≤E.length
 | 0,h=>qo8 h
 | j+1,h=>by
  unfold blk at h ⊢
  split at h
  ·rename_i g;exact absurd h g
  rename_i g
  rw [if_neg g];exact qo8 h
theorem qvk {E:List UInt8} {p j:Nat} (h:(blk E p j).2.2≠0):∀ {i:Nat},j≤i→blk E p i=blk E p j:=by
 intro i hi
 induction hi with
 | refl=>rfl
 | step _ ih=>rw [blk,ih,if_pos h]
theorem qki {m:List UInt8} {i:Nat} {s:List UInt8} (h:dGet m i=some s):s.length≤262144:=by
 unfold dGet at h
 split at h
 ·split at h
  ·rename_i h0
   cases h;exact (qxg h0).1
  ·cases h
 ·cases h
def vsF (l:List UInt8) (k:Nat):Nat × Nat:=numE l k 67108864
def qi (l:List UInt8):Nat→Nat
 | 0=>vAt l 3
 | k+1=>qi l k+vNum l k
def sE (l:List UInt8):Nat × Nat:=
 if (errF (vsF l) 3).2≠0 then errF (vsF l) 3 else if l.length<qi l 3 then (l.length,10) else if qi l 3<l.length then (qi l 3,13) else (0,0)
def qn (l:List UInt8) (k:Nat):List UInt8:=(l.drop (qi l k)).take (vNum l k)
def sdF (l:List UInt8) (k:Nat):Nat × Nat:=if (dE (qn l k)).2=0 then (0,0) else (qi l k+(dE (qn l k)).1,(dE (qn l k)).2)
def wE (l:List UInt8):Nat × Nat:=if (sE l).2≠0 then sE l else errF (sdF l) 3
def vTot (l:List UInt8):Nat→Nat
 | 0=>0
 | k+1=>vTot l k+dN (qn l k)
def qb9 (l:List UInt8) (id:Nat):Nat:=if vTot l 2<id then 2 else if vTot l 1<id then 1 else 0
def tcF (l:List UInt8) (k:Nat):Nat × Nat:=
 if (numE l k 1048576).2≠0 then numE l k 1048576 else if 0<k∧(vNum l k<vNum l (k-1)∨¬ (vNum l (k-1)=0↔vNum l k=0)) then (vAt l k,180) else (0,0)
def tvAt (l:List UInt8):Nat→Nat
 | 0=>vAt l 4
 | k+1=>tvAt l k+1+(vNum l k*(l.getD (tvAt l k) 0).toNat+7)/8+(if k=0 then 0 else qbr (vNum l k) (vNum l (k-1)))
def tw (l:List UInt8) (k:Nat):Nat:=(l.getD (tvAt l k) 0).toNat
def tEnd (l:List UInt8) (k:Nat):Nat:=tvAt l k+1+(vNum l k*tw l k+7)/8
def tvF (l:List UInt8) (k:Nat):Nat × Nat:=if l.length≤tvAt l k then (l.length,10) else if 23<tw l k then (tvAt l k,14) else if l.length<tvAt l (k+1) then (l.length,10) else (0,0)
def tE (l:List UInt8):Nat × Nat:=
 if (errF (tcF l) 4).2≠0 then errF (tcF l) 4 else if (errF (tvF l) 4).2≠0 then errF (tvF l) 4 else if tvAt l 4<l.length then (tvAt l 4,13) else (0,0)
def qr (l:List UInt8) (k:Nat):List UInt8:=(l.drop (tvAt l k+1)).take (tEnd l k-(tvAt l k+1))
def qk (l:List UInt8) (k:Nat):List UInt8:=(l.drop (tEnd l k)).take (tvAt l (k+1)-tEnd l k)
def tVec (l:List UInt8) (k:Nat):Bool:=vOk (qk l k)&&decide (vN (qk l k)=vNum l k)&&decide (vM (qk l k)=vNum l (k-1))
def tUp (l:List UInt8) (i:Nat):Nat→Nat
 | 0=>i
 | j+1=>qhg (qk l (3-j)) (tUp l i j)
def qdt (l:List UInt8) (i j:Nat):Bool:=decide (tUp l i j<vNum l (3-j))&&(decide (j=3)||tVec l (3-j))
def tNum (l:List UInt8) (i k:Nat):Nat:=numP (qr l k) (tw l k) (tUp l i (3-k))
def tOk (l:List UInt8) (i:Nat):Bool:=qdt l i 0&&qdt l i 1&&qdt l i 2&&qdt l i 3
theorem qbj (l:List UInt8) (k:Nat):tvAt l (k+1)=tEnd l k+(if k=0 then 0 else qbr (vNum l k) (vNum l (k-1))):=rfl
def qq (l:List UInt8):List UInt8:=(l.drop 28).take (hN l 4)
def qw (l:List UInt8):List UInt8:=(l.drop (32+hN l 4)).take (hN l 5)
def q8 (l:List UInt8):Nat × Nat:=
 if (qp l).2≠0 then qp l else if (wE (qq l)).2≠0 then (28+(wE (qq l)).1,(wE (qq l)).2)
 else if (tE (qw l)).2≠0 then (32+hN l 4+(tE (qw l)).1,(tE (qw l)).2) else (0,0)
open Go.RowKit V
set_option maxRecDepth 100000
theorem qtt (x:Nat) (w:World) (hx:x<18446744073709551616):Gv Tryz.prog 141 [.int .u64 x] w fun r w'=>r=.int .i64 (qcn x)∧w'=w:=
 qqp (by kernel_rfl) (Tryz.bits_Len64 x w (by omega) (by omega))
theorem qvc (x:Nat) (w:World) (hx:x<18446744073709551616):Gv Tryz.prog 228 [.int .u64 x] w fun r w'=>r=.int .i64 (qcn x)∧w'=w:=by
 refine zE Tryz.func228 Tryz.ntmps228 ?_;(conv=>whnf);refine CallV.of (qtt x w hx) ?_;rintro r w1 ⟨rfl,rfl⟩;(conv=>whnf);exact ⟨rfl,rfl⟩
theorem qj6 (x:Nat) (h0:x≠0) (h:x<18446744073709551616):qcn x=1+qcn (x/2):=Go.Lib.bitLen_half x h0 (by simpa using h)
theorem qg1:qcn 0=0:=by decide
theorem qdl:∀ (k x:Nat),x<2 ^ k→k≤64→qcn x≤k
 | 0,x,h,_=>by
  obtain rfl:x=0:=by simpa using h
  rw [qg1];exact Nat.le_refl _
 | k+1,x,h,hk=>by
  by_cases h0:x=0
  ·subst h0;rw [qg1];exact Nat.zero_le _
  ·have hp:(2:Nat) ^ (k+1)≤2 ^ 64:=Nat.pow_le_pow_right (by decide) hk;rw [qj6 x h0 (Nat.lt_of_lt_of_le h hp)];have:=qdl k (x/2) (by rw [Nat.pow_succ] at h;omega) (by omega);omega
theorem qqd (n:Nat) (w:World) (hn:n≤4194304):Gv Tryz.prog 229 [.int .i64 n] w fun r w'=>r=.int .i64 (upN n 16)∧w'=w:=by
 refine zE Tryz.func229 Tryz.ntmps229 ?_;(conv=>whnf);(iterate 2 (refine zA ?_;(conv=>whnf)));refine zB ?_;(conv=>whnf);exact ⟨congrArg (Value.int .i64) (by unfold upN;omega),rfl⟩
structure DictAt (w:World) (b:Nat) (m:List UInt8):Prop where
 h:∃ P cp E ce,w.heap[b]?=some (.cells #[.int .i64 (dN m),.int .i64 (dW m),.slice P (qz m).length cp,.slice E (qj m).length ce] 345 (0,0))∧SlAt encB 1 w P (qz m)∧SlAt encB 1 w E (qj m)∧(qj m).length≤ce
 n:dN m≤4194304
 size:qdw m≤67108864
 qc2:(qz m).length=(upN (dN m) 16*dW m+7)/8
 entries:(qj m).length=qdw m
theorem DictAt.ext {w w':World} {b:Nat} {m:List UInt8} (h:DictAt w b m) (he:Ext w w'):DictAt w' b m:=by
 obtain ⟨⟨P,cp,E,ce,h1,h2,h3,h4⟩,h5,h6,h7,h8⟩:=h;exact ⟨⟨P,cp,E,ce,he.get h1,h2.ext he,h3.ext he,h4⟩,h5,h6,h7,h8⟩
theorem DictAt.width {w:World} {b:Nat} {m:List UInt8} (h:DictAt w b m):dW m≤27:=qdl 27 _ (by have:=h.size;simp only [Nat.reducePow];omega) (by decide)
theorem qvw (b:Nat) (m:List UInt8) (w:World) (h:DictAt w b m):Gv Tryz.prog 164 [.pointer (some ⟨b,0,none⟩)] w fun r w'=>r=.int .i64 (dN m)∧w'=w:=by
 obtain ⟨⟨P,cp,E,ce,h1,h2,h3,h4⟩,h5,h6,h7,h8⟩:=h;refine zE Tryz.func164 Tryz.ntmps164 ?_;(conv=>whnf);refine LoadV.own h1 rfl ?_;(conv=>whnf);exact ⟨rfl,rfl⟩
theorem qt2 (b:Nat) (m:List UInt8) (k:Nat) (w:World) (h:DictAt w b m) (hk:k<upN (dN m) 16):Gv Tryz.prog 289 [.pointer (some ⟨b,0,none⟩),.int .i64 k] w fun r w'=>r=.int .i64 (qad m k)∧w'=w:=by
 have hW:=h.width;obtain ⟨⟨P,cp,E,ce,h1,h2,h3,h4⟩,h5,h6,h7,h8⟩:=h;have hub:upN (dN m) 16≤4194304:=Nat.le_trans (qaq _ _ (by decide)) h5;obtain ⟨W,eW⟩:∃ W,W=dW m:=⟨_,rfl⟩
 rw [qad];rw [← eW] at h1 h7 hW ⊢;have hm1:k*W+W≤upN (dN m) 16*W:=by rw [← Nat.succ_mul];exact Nat.mul_le_mul_right _ hk
 have hm2:upN (dN m) 16*W≤4194304*27:=Nat.mul_le_mul hub hW;obtain ⟨f,ef⟩:∃ f,f=k*W:=⟨_,rfl⟩
 have efi:(k:Int)*(W:Int)=(f:Int):=by rw [ef,Int.natCast_mul]
 rw [← ef] at hm1 ⊢;refine zE Tryz.func289 Tryz.ntmps289 ?_;(conv=>whnf);refine LoadV.own h1 rfl ?_;(conv=>whnf);refine qm (fun i:Nat=>[(0,.pointer (some ⟨b,0,none⟩)),(1,.int .i64 k),(5,.int .i64 (valB (qz m) f i)),(11,.int .i64 W),(12,.int .i64 i)]) (fun i w'=>i≤W∧w'=w) (fun i=>W-i) 0 ⟨rfl,rfl,rfl,rfl,rfl,trivial⟩ ⟨Nat.zero_le _,rfl⟩ ?_;rintro i w1 ρ' ⟨i1,rfl⟩;have hv:=qi5 (qz m) f i;have hv2:valB (qz m) f i<2 ^ 27:=qln _ _ _ (by omega);simp only [Nat.reducePow] at hv2;(conv=>whnf);refine zC (fun _=>?_) (fun _=>?_)<;>(conv=>whnf)
 ·refine LoadV.own h1 rfl ?_;(conv=>whnf);rw [efi];(iterate 2 (refine zA ?_;(conv=>whnf)));refine LoadV.own h1 rfl ?_;(conv=>whnf);refine zB ?_;(conv=>whnf);have hj:(f+i)/8<(qz m).length:=by omega
  refine ElemV.bs h2 rfl ((f+i)/8) (by omega) hj ?_;intro eb eo hc;(conv=>whnf);refine LoadV.of hc ?_;(conv=>whnf);refine zA ?_;(conv=>whnf);refine V.Wit.shrN ((f+i)%8) (by omega) (by show (f+i)%8<8;omega) ?_;(conv=>whnf);have hlt:=qt (qz m)[(f+i)/8];have hlt2:(qz m)[(f+i)/8].toNat/2 ^ ((f+i)%8)<256:=Nat.lt_of_le_of_lt (Nat.div_le_self _ _) hlt;refine Wit.eq (qao (k:=.u8) (m:=(qz m)[(f+i)/8].toNat/2 ^ ((f+i)%8)) 1 rfl (qjg hlt2) ⟨by omega,by omega⟩) ?_;(conv=>whnf);refine Wit.conv ⟨by omega,by omega⟩ ?_;(conv=>whnf);have hb:(qz m)[(f+i)/8].toNat/2 ^ ((f+i)%8)%2 ^ 1=bitN (qz m) (f+i):=by
   rw [bitN,List.getD_eq_getElem?_getD,List.getElem?_eq_getElem hj];rfl
  rw [hb];have hvs:=qi5 (qz m) f (i+1);have hvs2:valB (qz m) f (i+1)<2 ^ 27:=qln _ _ _ (by omega);simp only [Nat.reducePow] at hvs2;rw [valB] at hvs2;refine V.Wit.shlN i (by omega) (by show i<64;omega) (qab (by omega)) ?_;(conv=>whnf);refine Wit.eq (qbc i (qab (by omega)) hv) ?_;(conv=>whnf);refine zA ?_;(conv=>whnf);exact ⟨i+1,⟨rfl,rfl,rfl,rfl,rfl,trivial⟩,⟨by omega,rfl⟩,by omega⟩
 ·obtain rfl:i=W:=by omega
  exact ⟨rfl,rfl⟩
open Go.RowKit V
set_option maxRecDepth 100000
namespace V
theorem SliceV.to {size:Nat} {A:Option Addr} {n c:Nat} {lo hi mx:Option Value} {K:Value→Prop} (a b m:Nat) (h1:bnd lo 0 a) (h2:bnd hi n b) (h3:bnd mx c m) (hab:a≤b) (hbm:b≤m) (hm:m≤c)
  (hs:mx.isSome=true→hi.isSome=true) (hk:K (.slice (if m=a then A else A.map (·.add (a*size))) (b-a) (m-a))):SliceV size A n c lo hi mx K:=
 ⟨a,b,m,h1,h2,h3,hab,hbm,hm,hs,fun A' e=>by rw [e];exact hk⟩
end V
def hdL (m:List UInt8) (k:Nat):List Value:=[.int .i64 (if 0<k then vNum m 0 else 0:Nat),.int .i64 (if 1<k then vNum m 1 else 0:Nat)]
def DShR (m:List UInt8) (v:Value) (w0 w:World):Prop:=
 ((dE m).2≠0∧∃ e,v=.tuple #[.pointer none,.int .i64 0,.int .i64 0,e]∧ErrAt w e (dE m).1 (dE m).2)∨
 ((dE m).2=0∧∃ b,v=.tuple #[.pointer (some ⟨b,0,none⟩),.int .i64 (qaj m),.int .i64 (qf m),.nilIface]∧w0.heap.size≤b∧DictAt w b m)
theorem qqk (m:List UInt8) (A:Option Addr) (c:Nat) (w:World) (hS:SlAt encB 1 w A m) (hc:m.length≤c) (hl:m.length≤140737488355328) :
  Gv Tryz.prog 165 [.slice A m.length c] w fun v w'=>DShR m v w w'∧Ext w w':=by
 have hv0:BS w (.slice A m.length c) m:=⟨A,c,rfl,hc,hS⟩
 refine zE Tryz.func165 Tryz.ntmps165 ?_;(conv=>whnf);refine CallV.of (qdg _ m w hv0) ?_;rintro v w1 ⟨cb,rfl,hcb,hco,he1⟩;have hm:Mem w w1 [(cb,curO 251 (.slice A m.length c) (vAt m 0) 0)]:=(Mem.nil w).fresh he1 hcb hco;(conv=>whnf);refine NewV.mem hm ?_;intro hd w2 hm;have hm:Mem w w2 [(hd,.cells (hdL m 0).toArray 346 (0,0)),(cb,curO 251 (.slice A m.length c) (vAt m 0) 0)]:=hm;(conv=>whnf);refine qm (fun k:Nat=>[(0,.slice A m.length c),(2,.pointer none),(3,.int .i64 0),(4,.int .i64 0),(5,.nilIface),(6,.pointer (some ⟨cb,0,none⟩)),(7,.pointer (some ⟨hd,0,none⟩)),(16,.agg #[.int .u64 4194304,.int .u64 67108864]),(17,.int .i64 k)])
  (fun k w'=>k≤2∧(∀ j,j<k→(numL (m.drop (vAt m j))).2.2=0∧vNum m j≤67108864∧(dhF m j).2=0)∧Mem w w' [(hd,.cells (hdL m k).toArray 346 (0,0)),(cb,curO 251 (.slice A m.length c) (vAt m k) 0)]) (fun k=>2-k) 0
  ⟨rfl,rfl,rfl,rfl,rfl,rfl,rfl,rfl,rfl,trivial⟩ ⟨by omega,fun j hj=>by omega,hm⟩ ?_
 clear hm hco he1 hcb;rintro k w3 ρ' ⟨k1,hj,hm⟩;conv=>whnf
 (repeat' (first|((with_reducible refine zC (fun _=>?_) (fun _=>?_))<;>first|(exfalso;omega)|(conv=>whnf))|((with_reducible refine zX ?_);(conv=>whnf))))
 ·have hv:BS w3 (.slice A m.length c) m:=hv0.ext hm.ext;have hle:=qbs m k;have hlt:=qe7 m k;have hmost:∃ mo:Nat,mo=(if k=0 then 4194304 else 67108864)∧(#[Value.int .u64 4194304,.int .u64 67108864]:Array Value).toList[k*tsz Tryz.prog 175]?=some (.int .u64 mo):=by
   refine ⟨_,rfl,?_⟩;rw [show tsz Tryz.prog 175=1 from by kernel_rfl];obtain rfl|rfl:k=0∨k=1:=by omega
   all_goals rfl
  obtain ⟨mo,emo,hmo⟩:=hmost;refine ⟨_,hmo,?_⟩;(conv=>whnf);refine CallV.of (qg2 cb _ (vAt m k) 0 w3 (hm.get (List.mem_cons_of_mem _ (List.mem_cons_self ..)))) ?_;rintro r w4 ⟨rfl,rfl⟩;(conv=>whnf);refine CallV.of (qch cb _ (vAt m k) 0 m _ (hm.get (List.mem_cons_of_mem _ (List.mem_cons_self ..))) hv hle hl) ?_;rintro r w5 ⟨rfl,hu⟩
  by_cases he:(numL (m.drop (vAt m k))).2.2=0
  ·rw [qhz he,qh0 he] at hu;rw [qhy he];have hm:Mem w w5 [(hd,.cells (hdL m k).toArray 346 (0,0)),(cb,curO 251 (.slice A m.length c) (vAt m (k+1)) 0)]:=hm.upd (i:=1) rfl hu;(conv=>whnf);refine CallV.of (qbp cb _ _ 0 w5 (hm.get (List.mem_cons_of_mem _ (List.mem_cons_self ..)))) ?_;rintro r w6 ⟨rfl,rfl⟩;(conv=>whnf);refine zN (fun _=>?_);(conv=>whnf);refine zC (fun _=>?_) (fun _=>?_)<;>(conv=>whnf)
   ·refine CallV.of (qee (vAt m k) 2 w6) ?_;rintro r w7 ⟨hE,he7⟩;have hdh:dhF m k=(vAt m k,2):=qcj he (by rw [← emo];omega);have hdE:dE m=(vAt m k,2):=by
     have:=qan (f:=dhF m) (n:=2) (k:=k) (fun j h=>(hj j h).2.2) (by omega) (by rw [hdh];simp);rw [dE,this,hdh,if_pos (by simp)]
    obtain ⟨eb,rfl,hec⟩:=hE;(conv=>whnf);refine ⟨.inl ⟨by rw [hdE];simp,_,rfl,?_⟩,hm.ext.trans he7⟩;rw [hdE];exact ⟨eb,rfl,hec⟩
   ·have hmo2:mo≤67108864:=by rw [emo];split<;>omega
    refine Wit.conv (qab (by omega)) ?_;(conv=>whnf);refine zX ?_;(conv=>whnf);have e2:0+k*tsz Tryz.prog 3=k:=by rw [show tsz Tryz.prog 3=1 from by kernel_rfl];omega
    refine StoreV.mem hm (i:=0) rfl (by rw [e2];simp [hdL];omega) rfl ?_;intro w8 hm;rw [e2] at hm;have hset:(hdL m k).toArray.setIfInBounds k (.int .i64 (vNum m k))=(hdL m (k+1)).toArray:=by
     obtain rfl|rfl:k=0∨k=1:=by omega
     all_goals rfl
    have hm:Mem w w8 [(hd,.cells (hdL m (k+1)).toArray 346 (0,0)),(cb,curO 251 (.slice A m.length c) (vAt m (k+1)) 0)]:=by rw [← hset];exact hm
    (conv=>whnf);refine zA ?_;(conv=>whnf);refine ⟨k+1,⟨rfl,rfl,rfl,rfl,rfl,rfl,rfl,rfl,rfl,trivial⟩,⟨by omega,fun j hjk=>?_,hm⟩,by omega⟩
    by_cases ej:j=k
    ·subst ej;exact ⟨he,by omega,by rw [dhF,qbu he (by rw [← emo];omega)]⟩
    ·exact hj j (by omega)
  ·rw [qhw he,qhx he] at hu;rw [qhv he];have hm:Mem w w5 [(hd,.cells (hdL m k).toArray 346 (0,0)),(cb,curO 251 (.slice A m.length c) (vAt m k) (numL (m.drop (vAt m k))).2.2)]:=hm.upd (i:=1) rfl hu;(conv=>whnf);refine CallV.of (qbp cb _ _ _ w5 (hm.get (List.mem_cons_of_mem _ (List.mem_cons_self ..)))) ?_;rintro r w6 ⟨rfl,rfl⟩;(conv=>whnf);refine zY (fun _=>?_);(conv=>whnf);refine CallV.of (qee (vAt m k) (numL (m.drop (vAt m k))).2.2 w6) ?_;rintro r w7 ⟨hE,he7⟩;have hdh:dhF m k=(vAt m k,(numL (m.drop (vAt m k))).2.2):=qde he;have hdE:dE m=(vAt m k,(numL (m.drop (vAt m k))).2.2):=by
    have:=qan (f:=dhF m) (n:=2) (k:=k) (fun j h=>(hj j h).2.2) (by omega) (by rw [hdh];exact he);rw [dE,this,hdh,if_pos he]
   obtain ⟨eb,rfl,hec⟩:=hE;(conv=>whnf);refine ⟨.inl ⟨by rw [hdE];exact he,_,rfl,?_⟩,hm.ext.trans he7⟩;rw [hdE];exact ⟨eb,rfl,hec⟩
 ·obtain rfl:k=2:=by omega
  have hm:Mem w w3 [(hd,.cells #[.int .i64 (vNum m 0),.int .i64 (vNum m 1)] 346 (0,0)),(cb,curO 251 (.slice A m.length c) (vAt m 2) 0)]:=hm;obtain ⟨f1,f2,f3⟩:=hj 0 (by omega);obtain ⟨g1,g2,g3⟩:=hj 1 (by omega);have hn0:vNum m 0≤4194304:=qyw f1 f3;have hz:(errF (dhF m) 2).2=0:=qap fun k hk=>by
   obtain rfl|rfl:k=0∨k=1:=by omega
   ·exact f3
   ·exact g3
  have hWb:dW m≤27:=qdl 27 _ (by show vNum m 1<_;simp only [Nat.reducePow];omega) (by decide);refine DrawV.free (by kernel_rfl) (by kernel_rfl) ?_;(conv=>whnf);refine zD ?_ (by intro wd hd;(conv=>whnf);(refine zJ 0 ?_;(conv=>whnf));exact ⟨Ext.refl _,rfl⟩);(conv=>whnf);refine zD ?_ (by intro wd hd;(conv=>whnf);refine LoadV.mem (Mem.call (Mem.drew hm) hd) (i:=0) rfl rfl ?_;(conv=>whnf);exact ⟨Ext.refl _,rfl⟩);(conv=>whnf);refine zD ?_ (by intro wd hd;(conv=>whnf);(refine zJ 1 ?_;(conv=>whnf));exact ⟨Ext.refl _,rfl⟩);(conv=>whnf);refine zD ?_ (by intro wd hd;(conv=>whnf);refine LoadV.mem (Mem.call (Mem.drew hm) hd) (i:=0) rfl rfl ?_;(conv=>whnf);exact ⟨Ext.refl _,rfl⟩);(conv=>whnf);refine zD ?_ (by intro wd hd;(conv=>whnf);(refine Wit.conv ⟨by omega,by omega⟩ ?_;(conv=>whnf));exact ⟨Ext.refl _,rfl⟩);(conv=>whnf);apply StepD.still
  ·intro wd hd;(conv=>whnf);refine CallV.of (qvc (vNum m 1) wd (by omega)) ?_;rintro v w9 ⟨rfl,rfl⟩;exact ⟨Ext.refl _,rfl⟩
  (conv=>whnf);refine zD ?_;(conv=>whnf);apply StepD.of (fun v wx=>∃ b,v=.pointer (some ⟨b,0,none⟩)∧w3.drew.heap.size≤b∧wx.heap[b]?=some (.cells #[.int .i64 (dN m),.int .i64 (dW m),.slice none 0 0,.slice none 0 0] 345 (0,0)))
   (fun _ _ _ h he=>let ⟨b,h1,h2,h3⟩:=h;⟨b,h1,h2,he.get h3⟩)
  ·intro wd hd;(conv=>whnf);refine ⟨fun x wx hb hw=>?_⟩;subst hb hw;(conv=>whnf);exact ⟨(Ext.refl _).alloc _,_,rfl,hd.size,heap_alloc_new _ _⟩
  (conv=>whnf);apply StepD.of (fun v wx=>∃ b,v=.pointer (some ⟨b,0,none⟩)∧w3.drew.heap.size≤b∧wx.heap[b]?=some (.cells #[.int .i64 (dN m),.int .i64 (dW m),.slice none 0 0,.slice none 0 0] 345 (0,0)))
   (fun _ _ _ h he=>let ⟨b,h1,h2,h3⟩:=h;⟨b,h1,h2,he.get h3⟩)
  ·intro wd hd;(conv=>whnf);rintro _ _;(conv=>whnf);rintro v ⟨b,rfl,h1,h2⟩;(conv=>whnf);exact ⟨Ext.refl _,b,rfl,h1,h2⟩
  (conv=>whnf);intro w9 he9;(conv=>whnf);rintro v ⟨b,rfl,hb,ho⟩;(conv=>whnf);intro _ _;(conv=>whnf);have hm:=hm.drew.fresh he9 hb ho;refine CallV.of (qg2 cb _ (vAt m 2) 0 w9 (hm.get (List.mem_cons_of_mem _ (List.mem_cons_of_mem _ (List.mem_cons_self ..))))) ?_;rintro r w10 ⟨rfl,rfl⟩;(conv=>whnf);have hub:upN (dN m) 16≤4194304:=Nat.le_trans (qaq _ _ (by decide)) hn0;have hmul:upN (dN m) 16*dW m≤4194304*27:=Nat.mul_le_mul hub hWb;obtain ⟨f,ef⟩:∃ f,f=upN (dN m) 16*dW m:=⟨_,rfl⟩
  have efi:((upN (dN m) 16:Nat):Int)*((dW m:Nat):Int)=(f:Int):=by rw [ef,Int.natCast_mul]
  rw [← ef] at hmul;have e3:qaj m=vAt m 2:=rfl;have e4:qf m=qaj m+(f+7)/8:=by rw [ef];rfl
  have e5:dEnd m=qf m+vNum m 1:=rfl;have h2l:=qbs m 2;refine DrawV.quiet (by kernel_rfl) (by kernel_rfl) ?_;(conv=>whnf);have hm:=hm.drew;(iterate 4 (refine zW ?_;(conv=>whnf)));refine LoadV.mem (i:=0) (by assumption) rfl rfl ?_;(conv=>whnf);refine zW ?_;(conv=>whnf);refine ⟨.int .i64 (upN (dN m) 16),qqd (dN m) _ hn0,?_⟩;conv=>whnf
  (repeat' (first|(refine zA ?_;(conv=>whnf))|(refine zB ?_;(conv=>whnf))|((with_reducible refine zC (fun _=>?_) (fun _=>?_))<;>first|(exfalso;omega)|(conv=>whnf))|(refine zJ 1 ?_;(conv=>whnf))|((with_reducible refine zW ?_);(conv=>whnf))|(refine LoadV.mem (i:=0) (by assumption) rfl rfl ?_;(conv=>whnf))|(refine LoadV.mem (i:=1) (by assumption) rfl rfl ?_;(conv=>whnf))))
  ·have hdE:dE m=(m.length,10):=by rw [dE,if_neg (by omega),if_pos (by omega)]
   refine CallV.of (qee m.length 10 _) ?_;rintro r w7 ⟨⟨eb,rfl,hec⟩,he7⟩;(conv=>whnf);refine ⟨.inl ⟨by rw [hdE];simp,_,rfl,?_⟩,hm.ext.trans he7⟩;rw [hdE];exact ⟨eb,rfl,hec⟩
  ·have hdE:dE m=(dEnd m,13):=by rw [dE,if_neg (by omega),if_neg (by omega),if_pos (by omega)]
   have hEnd:(((vAt m 2:Nat):Int)+(((upN (dN m) 16:Nat):Int)*((dW m:Nat):Int)+7)/8+((vNum m 1:Nat):Int))=((dEnd m:Nat):Int):=by omega
   rw [hEnd];refine CallV.of (qee (dEnd m) 13 _) ?_;rintro r w7 ⟨⟨eb,rfl,hec⟩,he7⟩;(conv=>whnf);refine ⟨.inl ⟨by rw [hdE];simp,_,rfl,?_⟩,hm.ext.trans he7⟩;rw [hdE];exact ⟨eb,rfl,hec⟩
  have hdE:dE m=(0,0):=by rw [dE,if_neg (by omega),if_neg (by omega),if_neg (by omega)]
  have hlen:m.length=dEnd m:=by omega
  obtain ⟨w11,ew11⟩:∃ w11:World,w11=w10.drew:=⟨_,rfl⟩
  rw [← ew11] at hm ⊢;obtain ⟨PV,hPV⟩:∃ PV:Value,PV=.slice (if c=qaj m then A else A.map (·.add (qaj m*1))) (qf m-qaj m) (c-qaj m):=⟨_,rfl⟩
  obtain ⟨EV,hEV⟩:∃ EV:Value,EV=.slice (if c=qf m then A else A.map (·.add (qf m*1))) (dEnd m-qf m) (c-qf m):=⟨_,rfl⟩
  refine DrawV.inv (fun S w'=>Mem w w' [(b,.cells #[.int .i64 (dN m),.int .i64 (dW m),(bif S 12 then PV else .slice none 0 0),(bif S 15 then EV else .slice none 0 0)] 345 (0,0)),(hd,.cells #[.int .i64 (vNum m 0),.int .i64 (vNum m 1)] 346 (0,0)),(cb,curO 251 (.slice A m.length c) (vAt m 2) 0)]) rfl (by kernel_rfl) hm.drew ?_;(conv=>whnf);refine zI ?_;(conv=>whnf);refine zI ?_;(conv=>whnf);refine zI ?_;(conv=>whnf);refine zI ?_;(conv=>whnf);refine zI ?_;(conv=>whnf);refine StepI.of PV (fun S wd hk hp hI=>?_) ?_
  ·(conv=>whnf);refine SliceV.to (qaj m) (qf m) c (by show (_:Int)=_;omega) (by show (_:Int)=_;omega) rfl (by omega) (by omega) (Nat.le_refl _) (fun h=>by cases h) ?_;(conv=>whnf);exact ⟨hPV.symm,hI⟩
  (conv=>whnf);refine zI ?_;(conv=>whnf);refine zI ?_;(conv=>whnf);refine zI ?_;(conv=>whnf);refine StepI.of EV (fun S wd hk hp hI=>?_) ?_
  ·(conv=>whnf);refine SliceV.to (qf m) (dEnd m) c (by show (_:Int)=_;omega) (by show (_:Int)=_;omega) rfl (by omega) (by omega) (Nat.le_refl _) (fun h=>by cases h) ?_;(conv=>whnf);exact ⟨hEV.symm,hI⟩
  subst hPV hEV;(conv=>whnf);refine zI ?_;(conv=>whnf);refine zI ?_;(conv=>whnf);refine StepI.of undef (fun S wd hk hp hI=>?_) ?_
  ·dsimp only at hI;rw [hk] at hI;(conv=>whnf);refine StoreV.mem hI (i:=0) rfl (show 2<4 by decide) rfl ?_;intro wx hmx;(conv=>whnf);exact ⟨rfl,hmx⟩
  (conv=>whnf);refine zI ?_;(conv=>whnf);refine zI ?_;(conv=>whnf);refine StepI.of undef (fun S wd hk hp hI=>?_) ?_
  ·dsimp only at hI;rw [hk] at hI;(conv=>whnf);refine StoreV.mem hI (i:=0) rfl (show 3<4 by decide) rfl ?_;intro wx hmx;(conv=>whnf);exact ⟨rfl,hmx⟩
  (conv=>whnf);intro w12 hI;(conv=>whnf);obtain ⟨o1,o2⟩:=hI.own _ (List.mem_cons_self ..);have l1:(qz m).length=qf m-qaj m:=by rw [qz,List.length_take,List.length_drop];omega
  have l2:(qj m).length=dEnd m-qf m:=by rw [qj,List.length_drop];omega
  have e9:(((vAt m 2:Nat):Int)+(((upN (dN m) 16:Nat):Int)*((dW m:Nat):Int)+7)/8)=((qf m:Nat):Int):=by omega
  rw [e9];have c1:SlAt encB 1 w (if c=qaj m then A else A.map (·.add (qaj m*1))) (qz m):=hS.cut (m:=c) (by omega) (by omega) (by omega) rfl;have c2:SlAt encB 1 w (if c=qf m then A else A.map (·.add (qf m*1))) (qj m):=by
   have:=hS.cut (m:=c) (lo:=qf m) (hi:=m.length) (A':=if c=qf m then A else A.map (·.add (qf m*1))) (by omega) (by omega) (by omega) rfl
   rwa [List.take_of_length_le (by simp)] at this
  refine ⟨.inr ⟨by rw [hdE],b,rfl,o1,⟨⟨_,c-qaj m,_,c-qf m,?_,c1.ext hI.ext,c2.ext hI.ext,?_⟩,hn0,g2,?_,?_⟩⟩,hI.ext⟩
  ·rw [l1,l2];exact o2
  ·rw [l2];omega
  ·rw [l1,← ef];omega
  ·rw [l2];show _=vNum m 1;omega
def DVwR (m:List UInt8) (v:Value) (w0 w:World):Prop:=
 ((dE m).2≠0∧∃ e,v=.tuple #[.pointer none,e]∧ErrAt w e (dE m).1 (dE m).2)∨
 ((dE m).2=0∧∃ b,v=.tuple #[.pointer (some ⟨b,0,none⟩),.nilIface]∧w0.heap.size≤b∧DictAt w b m)
theorem qsv (m:List UInt8) (A:Option Addr) (c:Nat) (w:World) (hS:SlAt encB 1 w A m) (hc:m.length≤c) (hl:m.length≤140737488355328) :
  Gv Tryz.prog 98 [.slice A m.length c] w fun v w'=>DVwR m v w w'∧Ext w w':=by
 have hsh:=qqk m A c w hS hc hl;refine zE Tryz.func98 Tryz.ntmps98 ?_;(conv=>whnf);refine CallV.of (hsh) ?_;rintro v w1 ⟨⟨h0,e,rfl,b,rfl,hE⟩|⟨h0,b,rfl,hb,hD⟩,he⟩
 ·(conv=>whnf);exact ⟨.inl ⟨h0,_,rfl,b,rfl,hE⟩,he⟩
 ·(conv=>whnf);exact ⟨.inr ⟨h0,b,rfl,hb,hD⟩,he⟩
open Go.RowKit V
set_option maxRecDepth 100000
theorem qxc (s:Value) (n m b:Nat) (w:World) (hb:w.heap[b]?=some (vecO 276 s n m)):Gv Tryz.prog 104 [.pointer (some ⟨b,0,none⟩)] w fun r w'=>r=.int .i64 n∧w'=w:=by
 refine zE Tryz.func104 Tryz.ntmps104 ?_;(conv=>whnf);refine LoadV.own hb rfl ?_;(conv=>whnf);exact ⟨rfl,rfl⟩
theorem qu4 (s:Value) (n m b:Nat) (w:World) (hb:w.heap[b]?=some (vecO 276 s n m)):Gv Tryz.prog 105 [.pointer (some ⟨b,0,none⟩)] w fun r w'=>r=.int .i64 m∧w'=w:=by
 refine zE Tryz.func105 Tryz.ntmps105 ?_;(conv=>whnf);refine LoadV.own hb rfl ?_;(conv=>whnf);exact ⟨rfl,rfl⟩
theorem qme (x:Nat) (w:World) (hx:x<256):Gv Tryz.prog 187 [.int .u8 x] w fun r w'=>r=.int .i64 (qe2 x)∧w'=w:=by
 refine zE Tryz.func187 Tryz.ntmps187 ?_;(conv=>whnf);refine IdxV.nat (by show x<256;exact hx) ?_;(conv=>whnf);refine Wit.conv (qab (Nat.lt_of_lt_of_le (qt _) (by decide))) ?_;(conv=>whnf);refine ⟨congrArg (Value.int .i64) (congrArg Int.ofNat ?_),rfl⟩;clear w
 revert x
 decide +kernel
theorem qk8 (l:List UInt8) (A:Option Addr) (c b i:Nat) (w:World) (hS:SlAt encB 1 w A l) (hc:l.length≤c) (hv:vOk l=true) (hb:w.heap[b]?=some (vecO 276 (.slice A l.length c) (vN l) (vM l))) (hi:i≤67108864) :
  Gv Tryz.prog 120 [.pointer (some ⟨b,0,none⟩),.int .i64 i] w fun r w'=>r=.int .i64 (qhg l i)∧Ext w w':=by
 refine zE Tryz.func120 Tryz.ntmps120 ?_;(conv=>whnf);simp only [vOk,Bool.and_eq_true,decide_eq_true_eq] at hv;obtain ⟨⟨⟨v1,v2⟩,v3⟩,v4⟩:=hv;have u1:=qaq (vN l) 8 (by decide);have u2:=qaq (vN l) 2048 (by decide);have u3:=qaq (vN l) 256 (by decide);have u4:=qaq (vM l) 512 (by decide);have g1:qaf (vN l)=8+upN (vN l) 8:=rfl;have g2:qa5 (vN l)=qaf (vN l)+4*upN (vN l) 2048:=rfl;have g3:qdp (vN l)=qa5 (vN l)+2*upN (vN l) 256:=rfl;have g4:qbr (vN l) (vM l)=qdp (vN l)+4*upN (vM l) 512:=rfl;rw [qhg]
 (repeat' (first|((with_reducible refine zT ?_);(conv=>whnf))|((with_reducible refine zU ?_);(conv=>whnf))|((with_reducible refine zC (fun _=>?_) (fun _=>?_))<;>first|(exfalso;omega)|(conv=>whnf))))
 ·exact ⟨by rw [if_pos (by omega)];rfl,Ext.refl _⟩
 refine LoadV.own hb rfl ?_;(conv=>whnf);(iterate 2 (refine zU ?_;(conv=>whnf)));refine zC (fun _=>?_) (fun _=>?_)<;>(conv=>whnf)
 ·exact ⟨by rw [if_pos (by omega)];rfl,Ext.refl _⟩
 refine LoadV.own hb rfl ?_;(conv=>whnf);refine zC (fun _=>?_) (fun _=>?_)<;>(conv=>whnf)
 ·refine LoadV.own hb rfl ?_;(conv=>whnf);exact ⟨by rw [if_neg (by omega),if_pos (by omega)],Ext.refl _⟩
 obtain ⟨g,off,hA,_⟩:=hS.at_ (by intro e;rw [e] at v1;simp at v1);subst hA;have k1:i/2048+1≤upN (vN l) 2048:=by unfold upN;omega
 have k2:i/256+1≤upN (vN l) 256:=by unfold upN;omega
 have k3:i/8+1≤upN (vN l) 8:=by unfold upN;omega
 refine DrawV.free (by kernel_rfl) (by kernel_rfl) ?_;(conv=>whnf);refine zD ?_;(conv=>whnf);refine zD ?_;(conv=>whnf);refine zD ?_;(conv=>whnf);refine zD ?_ (by intro wd hd;(conv=>whnf);refine LoadV.own (Ext.get (Ext.trans (Ext.drew (Ext.refl _)) hd) hb) rfl ?_;(conv=>whnf);exact ⟨Ext.refl _,rfl⟩);(conv=>whnf);refine zD ?_;(conv=>whnf);refine zD ?_;(conv=>whnf);refine zD ?_;(conv=>whnf);refine zD ?_;(conv=>whnf);refine zD ?_ (by intro wd hd;(conv=>whnf);refine LoadV.own (Ext.get (Ext.trans (Ext.drew (Ext.refl _)) hd) hb) rfl ?_;(conv=>whnf);exact ⟨Ext.refl _,rfl⟩);(conv=>whnf);refine zD ?_;(conv=>whnf);refine zD ?_ (by intro wd hd;(conv=>whnf);(refine zB ?_;(conv=>whnf));exact ⟨Ext.refl _,rfl⟩);(conv=>whnf);refine zD ?_ (by intro wd hd;(conv=>whnf);(refine zA ?_;(conv=>whnf));exact ⟨Ext.refl _,rfl⟩);(conv=>whnf);refine zD ?_ (by intro wd hd;(conv=>whnf);(refine zA ?_;(conv=>whnf));exact ⟨Ext.refl _,rfl⟩);(conv=>whnf);apply StepD.still
 ·intro wd hd;(conv=>whnf);refine SliceV.rest (qaf (vN l)+4*(i/2048)) (by show (qaf (vN l):Int)+4*((i:Int)/2048)=((qaf (vN l)+4*(i/2048):Nat):Int);omega) hc (by omega) ?_;(conv=>whnf);exact ⟨Ext.refl _,rfl⟩
 (conv=>whnf);apply StepD.still
 ·intro wd hd;(conv=>whnf);refine CallV.of (qkq (l.drop (qaf (vN l)+4*(i/2048))) _ _ _ wd (SlAt.rest (hS.ext ((Ext.refl w).drew.trans hd)) (by omega)) (by rw [List.length_drop]) (by rw [List.length_drop];omega)) ?_;rintro v w9 ⟨rfl,h9⟩;exact ⟨h9,rfl⟩
 (conv=>whnf);refine zD ?_;(conv=>whnf);refine zD ?_;(conv=>whnf);refine zD ?_;(conv=>whnf);refine zD ?_ (by intro wd hd;(conv=>whnf);refine LoadV.own (Ext.get (Ext.trans (Ext.drew (Ext.refl _)) hd) hb) rfl ?_;(conv=>whnf);exact ⟨Ext.refl _,rfl⟩);(conv=>whnf);refine zD ?_;(conv=>whnf);refine zD ?_;(conv=>whnf);refine zD ?_;(conv=>whnf);refine zD ?_;(conv=>whnf);refine zD ?_ (by intro wd hd;(conv=>whnf);refine LoadV.own (Ext.get (Ext.trans (Ext.drew (Ext.refl _)) hd) hb) rfl ?_;(conv=>whnf);exact ⟨Ext.refl _,rfl⟩);(conv=>whnf);refine zD ?_;(conv=>whnf);refine zD ?_ (by intro wd hd;(conv=>whnf);(refine zB ?_;(conv=>whnf));exact ⟨Ext.refl _,rfl⟩);(conv=>whnf);refine zD ?_ (by intro wd hd;(conv=>whnf);(refine zA ?_;(conv=>whnf));exact ⟨Ext.refl _,rfl⟩);(conv=>whnf);refine zD ?_ (by intro wd hd;(conv=>whnf);(refine zA ?_;(conv=>whnf));exact ⟨Ext.refl _,rfl⟩);(conv=>whnf);apply StepD.still
 ·intro wd hd;(conv=>whnf);refine SliceV.rest (qa5 (vN l)+2*(i/256)) (by show (qa5 (vN l):Int)+2*((i:Int)/256)=((qa5 (vN l)+2*(i/256):Nat):Int);omega) hc (by omega) ?_;(conv=>whnf);exact ⟨Ext.refl _,rfl⟩
 (conv=>whnf);apply StepD.still
 ·intro wd hd;(conv=>whnf);refine CallV.of (qzn (l.drop (qa5 (vN l)+2*(i/256))) _ _ _ wd (SlAt.rest (hS.ext ((Ext.refl w).drew.trans hd)) (by omega)) (by rw [List.length_drop]) (by rw [List.length_drop];omega)) ?_;rintro v w9 ⟨rfl,h9⟩;exact ⟨h9,rfl⟩
 (conv=>whnf);have hG:=qag (l.drop (qaf (vN l)+4*(i/2048))) 4 (by rw [List.length_drop];omega);have hH:=qag (l.drop (qa5 (vN l)+2*(i/256))) 2 (by rw [List.length_drop];omega);obtain ⟨G,eG⟩:∃ G,G=leN ((l.drop (qaf (vN l)+4*(i/2048))).take 4):=⟨_,rfl⟩
 obtain ⟨H,eH⟩:∃ H,H=leN ((l.drop (qa5 (vN l)+2*(i/256))).take 2):=⟨_,rfl⟩
 rw [← eG] at hG ⊢;rw [← eH] at hH ⊢;simp only [Nat.reduceMul,Nat.reducePow] at hG hH;refine zD ?_ (by intro wd hd;(conv=>whnf);(refine zA ?_;(conv=>whnf));exact ⟨Ext.refl _,rfl⟩);(conv=>whnf);refine zD ?_;(conv=>whnf);intro w1 he1;(conv=>whnf);have hx:=(Ext.refl w).drew.trans he1;refine zB ?_;(conv=>whnf);refine zA ?_;(conv=>whnf);have hof:∀ k,k≤i%256/8→qay l (8+i/256*32) k≤8*k:=fun k hk=>by
  clear hG hH
  induction k with
  | zero=>exact Nat.le_refl _
  | succ k ih=>
   have:=ih (by omega);have h8:qe2 (l.getD (8+i/256*32+k) 0).toNat≤8:=by unfold qe2;omega
   rw [qay];omega
 refine qm (fun k:Nat=>[(0,.pointer (some ⟨b,0,none⟩)),(1,.int .i64 i),(5,.int .i64 (G+H+qay l (8+i/256*32) k:Nat)),(7,.int .i64 (i/256*256+8*k:Nat))]) (fun k w'=>k≤i%256/8∧Ext w w') (fun k=>i%256/8-k) 0
  ⟨rfl,rfl,by simp only [qay];rfl,by simp;rfl,trivial⟩ ⟨by omega,hx⟩ ?_
 rintro k w2 ρ' ⟨k1,he2⟩;have hk:=hof k k1;(conv=>whnf);refine zA ?_;(conv=>whnf);refine zC (fun _=>?_) (fun _=>?_)<;>(conv=>whnf)
 ·refine DrawV.quiet (by kernel_rfl) (by kernel_rfl) ?_;(conv=>whnf);(iterate 4 (refine zW ?_;(conv=>whnf)));have hx2:=he2.drew;refine LoadV.own (hx2.get hb) rfl ?_;(conv=>whnf);(iterate 5 (refine zW ?_;(conv=>whnf)));refine LoadV.own (hx2.get hb) rfl ?_;(conv=>whnf);(iterate 2 (refine zW ?_;(conv=>whnf)));refine zB ?_;(conv=>whnf);refine zW ?_;(conv=>whnf);refine zA ?_;(conv=>whnf);refine zW ?_;(conv=>whnf);have hj:8+i/256*32+k<l.length:=by omega
  refine ElemV.bs (hS.ext hx2) rfl (8+i/256*32+k) (by omega) hj ?_;intro eb eo hcell;have hlt:=qt (l[8+i/256*32+k]);(conv=>whnf);refine zW ?_;(conv=>whnf);refine LoadV.of hcell ?_;(conv=>whnf);refine zW ?_;(conv=>whnf);refine ⟨.int .i64 (qe2 (l[8+i/256*32+k]).toNat),qme _ _ hlt,?_⟩;have h8:qe2 (l[8+i/256*32+k]).toNat≤8:=by unfold qe2;omega
  have hon:qay l (8+i/256*32) (k+1)=qay l (8+i/256*32) k+qe2 (l[8+i/256*32+k]).toNat:=by
   rw [qay,List.getD_eq_getElem?_getD,List.getElem?_eq_getElem hj];rfl
  (conv=>whnf);refine zA ?_;(conv=>whnf);(iterate 2 (refine zW ?_;(conv=>whnf)));refine zA ?_;(conv=>whnf);exact ⟨k+1,⟨rfl,rfl,by rw [hon];exact congrArg (Value.int .i64) (by omega),by exact congrArg (Value.int .i64) (by omega),trivial⟩,⟨by omega,hx2⟩,by omega⟩
 ·obtain rfl:k=i%256/8:=by omega
  refine DrawV.quiet (by kernel_rfl) (by kernel_rfl) ?_;(conv=>whnf);(iterate 4 (refine zW ?_;(conv=>whnf)));have hx2:=he2.drew;refine LoadV.own (hx2.get hb) rfl ?_;(conv=>whnf);(iterate 5 (refine zW ?_;(conv=>whnf)));refine LoadV.own (hx2.get hb) rfl ?_;(conv=>whnf);(iterate 2 (refine zW ?_;(conv=>whnf)));refine zB ?_;(conv=>whnf);refine zW ?_;(conv=>whnf);refine zA ?_;(conv=>whnf);refine zW ?_;(conv=>whnf);have hj:8+i/8<l.length:=by omega
  refine ElemV.bs (hS.ext hx2) rfl (8+i/8) (by omega) hj ?_;intro eb eo hcell;have hlt:=qt (l[8+i/8]);have hpw:2 ^ (i%8)≤2 ^ 7:=Nat.pow_le_pow_right (by decide) (by omega);have hpp:=Nat.two_pow_pos (i%8);simp only [Nat.reducePow] at hpw;(conv=>whnf);refine zW ?_;(conv=>whnf);refine LoadV.of hcell ?_;(conv=>whnf);(iterate 2 (refine zW ?_;(conv=>whnf)));refine zA ?_;(conv=>whnf);refine zW ?_;(conv=>whnf);refine V.Wit.shlN (a:=1) (i%8) (by omega) (by show i%8<8;omega) (qjg (by omega)) ?_;rw [Nat.one_mul];(conv=>whnf);refine zW ?_;(conv=>whnf);refine zA ?_;(conv=>whnf);refine zW ?_;(conv=>whnf);refine Wit.eq (qao (k:=.u8) (m:=(l[8+i/8]).toNat) (i%8) (by omega) (qjg hlt) ⟨by omega,by omega⟩) ?_;have hm8:(l[8+i/8]).toNat%2 ^ (i%8)<256:=Nat.lt_of_le_of_lt (Nat.mod_le _ _) hlt;(conv=>whnf);refine zW ?_;(conv=>whnf);refine ⟨.int .i64 (qe2 ((l[8+i/8]).toNat%2 ^ (i%8))),qme _ _ hm8,?_⟩;have h8:qe2 ((l[8+i/8]).toNat%2 ^ (i%8))≤8:=by unfold qe2;omega
  (conv=>whnf);refine zA ?_;(conv=>whnf);(iterate 2 (refine zW ?_;(conv=>whnf)));refine V.Fall.max2 rfl rfl rfl fun mx hmx=>?_;(conv=>whnf);refine V.Fall.min2 rfl rfl rfl fun mn hmn=>?_;(conv=>whnf);refine ⟨congrArg (Value.int .i64) ?_,hx2⟩;rw [if_neg (by omega),if_neg (by omega),List.getD_eq_getElem?_getD,List.getElem?_eq_getElem hj,Option.getD_some];omega
open Go.RowKit V
set_option maxRecDepth 100000
theorem qdj (b off i wd cp:Nat) (P:Option Addr) (p:List UInt8) (w:World) (h1:w.cell? ⟨b,off+1,none⟩=some (.int .i64 wd)) (h5:w.cell? ⟨b,off+5,none⟩=some (.slice P p.length cp)) (hP:SlAt encB 1 w P p) (hw:wd≤23) (hi:i≤4194304) :
  Gv Tryz.prog 119 [.pointer (some ⟨b,off,none⟩),.int .i64 i] w fun r w'=>r=.int .i64 (numP p wd i)∧Ext w w':=by
 have hb:i*wd≤4194304*23:=Nat.mul_le_mul hi hw;rw [numP];obtain ⟨f,ef⟩:∃ f,f=i*wd:=⟨_,rfl⟩
 have efi:(i:Int)*(wd:Int)=(f:Int):=by rw [ef,Int.natCast_mul]
 rw [← ef] at hb ⊢;obtain ⟨m,em⟩:∃ m,m=p.drop (f/8):=⟨_,rfl⟩
 have hml:m.length=p.length-f/8:=by rw [em,List.length_drop]
 rw [← em];refine zE Tryz.func119 Tryz.ntmps119 ?_;(conv=>whnf);refine LoadV.of h1 ?_;(conv=>whnf);rw [efi];refine zA ?_;(conv=>whnf);refine qm (fun k:Nat=>[(0,.pointer (some ⟨b,off,none⟩)),(5,.int .i64 f),(6,.int .i64 (leN (m.take k))),(7,.int .i64 k)]) (fun k w'=>k≤4∧k≤m.length∧w'=w) (fun k=>4-k) 0 ⟨rfl,rfl,rfl,rfl,trivial⟩ ⟨by omega,by omega,rfl⟩ ?_;rintro k w1 ρ' ⟨k1,k2,rfl⟩;have hlt:=qag m k k2;have hp:=pow8 k k1;have fin:∀ x,x=leN (m.take 4)→x<4294967296:=fun x hx=>by
  rw [hx];have:=qtr (m.take 4);have h3:256 ^ (m.take 4).length≤256 ^ 4:=Nat.pow_le_pow_right (by decide) (by simp;omega);have h4:(256:Nat) ^ 4=4294967296:=by decide
  omega
 have hpw:2 ^ wd≤2 ^ 23:=Nat.pow_le_pow_right (by decide) hw;have hpp:=Nat.two_pow_pos wd;simp only [Nat.reducePow] at hpw;conv=>whnf
 (repeat' (first|(refine zA ?_;(conv=>whnf))|(refine zB ?_;(conv=>whnf))|((with_reducible refine zT ?_);(conv=>whnf))|((with_reducible refine zU ?_);(conv=>whnf))|((with_reducible refine zC (fun _=>?_) (fun _=>?_))<;>first|(exfalso;omega)|(conv=>whnf))))
 ·refine LoadV.of h5 ?_;(conv=>whnf);(iterate 3 (refine zT ?_;(conv=>whnf)));refine zC (fun _=>?_) (fun _=>?_)<;>(conv=>whnf)
  ·have hk:k<m.length:=by omega
   refine LoadV.of h5 ?_;(conv=>whnf);refine zB ?_;(conv=>whnf);refine zA ?_;(conv=>whnf);refine ElemV.bs hP rfl (f/8+k) (by omega) (by omega) ?_;intro eb eo hc;have hmk:p[f/8+k]'(by omega)=m[k]:=by simp [em]
   rw [hmk] at hc;have hb4:=qt m[k];have hp:=pow8 (k+1) (by omega);have hlt1:=qag m (k+1) (by omega);rw [qhr m k hk] at hlt1;(conv=>whnf);refine LoadV.of hc ?_;(conv=>whnf);refine Wit.conv ⟨by omega,by omega⟩ ?_;(conv=>whnf);refine zA ?_;(conv=>whnf);refine V.Wit.shlN (8*k) (by omega) (by show 8*k<64;omega) (qab (by omega)) ?_;(conv=>whnf);refine Wit.eq (qbc (8*k) (qab (by omega)) hlt) ?_;(conv=>whnf);refine zA ?_;(conv=>whnf);exact ⟨k+1,⟨rfl,rfl,by rw [qhr m k hk];rfl,rfl,trivial⟩,⟨by omega,by omega,rfl⟩,by omega⟩
  ·have e4:leN (m.take k)=leN (m.take 4):=by rw [List.take_of_length_le (by omega),List.take_of_length_le (by omega)]
   rw [e4];have hx:=fin _ rfl;generalize leN (m.take 4)=x at hx ⊢;have hx2:x/2 ^ (f%8)≤x:=Nat.div_le_self _ _;refine DrawV.quiet (by kernel_rfl) (by kernel_rfl) ?_;(conv=>whnf);(iterate 2 (refine zW ?_;(conv=>whnf)));refine zA ?_;(conv=>whnf);refine zW ?_;(conv=>whnf);refine V.Wit.shrN (f%8) (by omega) (by show f%8<64;omega) ?_;(conv=>whnf);(iterate 4 (refine zW ?_;(conv=>whnf)));refine LoadV.of h1 ?_;(conv=>whnf);refine zW ?_;(conv=>whnf);refine V.Wit.shlN (a:=1) wd (by omega) (by show wd<64;omega) (qab (by omega)) ?_;rw [Nat.one_mul];(conv=>whnf);refine zW ?_;(conv=>whnf);refine zA ?_;(conv=>whnf);refine zW ?_;(conv=>whnf);refine Wit.eq (qao (k:=.i64) (m:=x/2 ^ (f%8)) wd (by omega) (qab (by omega)) ⟨by omega,by omega⟩) ?_;(conv=>whnf);(iterate 2 (refine zW ?_;(conv=>whnf)));exact ⟨rfl,(Ext.refl w1).drew⟩
 ·obtain rfl:k=4:=by omega
  have hx:=fin _ rfl;generalize leN (m.take 4)=x at hx ⊢;have hx2:x/2 ^ (f%8)≤x:=Nat.div_le_self _ _;refine DrawV.quiet (by kernel_rfl) (by kernel_rfl) ?_;(conv=>whnf);(iterate 2 (refine zW ?_;(conv=>whnf)));refine zA ?_;(conv=>whnf);refine zW ?_;(conv=>whnf);refine V.Wit.shrN (f%8) (by omega) (by show f%8<64;omega) ?_;(conv=>whnf);(iterate 4 (refine zW ?_;(conv=>whnf)));refine LoadV.of h1 ?_;(conv=>whnf);refine zW ?_;(conv=>whnf);refine V.Wit.shlN (a:=1) wd (by omega) (by show wd<64;omega) (qab (by omega)) ?_;rw [Nat.one_mul];(conv=>whnf);refine zW ?_;(conv=>whnf);refine zA ?_;(conv=>whnf);refine zW ?_;(conv=>whnf);refine Wit.eq (qao (k:=.i64) (m:=x/2 ^ (f%8)) wd (by omega) (qab (by omega)) ⟨by omega,by omega⟩) ?_;(conv=>whnf);(iterate 2 (refine zW ?_;(conv=>whnf)));exact ⟨rfl,(Ext.refl w1).drew⟩
open Go.RowKit V
set_option maxRecDepth 100000
def fnA (n:Nat) (F:Nat→Value):Array Value:=((List.range n).map F).toArray
def updF (F:Nat→Value) (i:Nat) (v:Value):Nat→Value:=fun j=>if j=i then v else F j
theorem qgz (F:Nat→Value) (i:Nat) (v:Value):updF F i v i=v:=by simp [updF]
theorem q9 (F:Nat→Value) (i j:Nat) (v:Value) (h:j≠i):updF F i v j=F j:=by simp [updF,h]
theorem qg (n:Nat) (F:Nat→Value):(fnA n F).size=n:=by simp [fnA]
theorem qgi (n:Nat) (F:Nat→Value) (i:Nat) (h:i<n):(fnA n F)[i]?=some (F i):=by
 rw [fnA,List.getElem?_toArray,List.getElem?_map,List.getElem?_range h];rfl
theorem qh6 (n:Nat) (F:Nat→Value) (i:Nat) (v:Value):(fnA n F).setIfInBounds i v=fnA n (updF F i v):=by
 rw [← Array.toList_inj];simp only [fnA,Array.toList_setIfInBounds];apply List.ext_getElem?;intro j;rw [List.getElem?_set,List.getElem?_map,List.getElem?_map]
 by_cases e:i=j
 ·subst e;rw [if_pos rfl]
  by_cases h:i<n
  ·rw [if_pos (by simpa using h),List.getElem?_range h];simp [updF]
  ·rw [if_neg (by simpa using h),List.getElem?_eq_none (by simpa using h)];rfl
 ·rw [if_neg e]
  by_cases h:j<n
  ·rw [List.getElem?_range h];simp [updF,Ne.symm e]
  ·rw [List.getElem?_eq_none (by simpa using h)];rfl
theorem V.LoadV.fn {w0 w:World} {L:List (Nat × Obj)} {i b off n:Nat} {F:Nat→Value} {t:TypeId} {v:Value} {K:Value→Prop} (h:Mem w0 w L) (hi:L[i]?=some (b,.cells (fnA n F) t (0,0))) (j:Nat) (e:off=j) (hj:j<n) (hv:F j=v) (hk:K v):LoadV w b off K:=by
 subst e;exact LoadV.mem h hi (by rw [qgi n F _ hj,hv]) hk
theorem V.StoreV.fn {w0 w:World} {L:List (Nat × Obj)} {i b off n:Nat} {F:Nat→Value} {t:TypeId} {v:Value} {K:World→Prop} (h:Mem w0 w L) (hi:L[i]?=some (b,.cells (fnA n F) t (0,0))) (j:Nat) (e:off=j) (hj:j<n) (h1:qdf v=true)
  (hk:∀ w',Mem w0 w' (L.set i (b,.cells (fnA n (updF F j v)) t (0,0)))→K w'):StoreV w b off v K:=by
 subst e;refine StoreV.mem h hi (by rw [qg];exact hj) h1 fun w' hm=>hk w' ?_
 rwa [qh6] at hm
theorem lvSz:tsz Tryz.prog 149=8:=by kernel_rfl
theorem qoc (l:List UInt8) (v:Value) (tb cb:Nat) (F:Nat→Value) (w0 w:World) (hm:Mem w0 w [(cb,curO 251 v 0 0),(tb,.cells (fnA 32 F) 152 (0,0))]) (hv0:BS w0 v l) (hl:l.length≤140737488355328) :
  Gv Tryz.prog 99 [.pointer (some ⟨tb,0,none⟩),.pointer (some ⟨cb,0,none⟩)] w fun r w'=>
   ((errF (tcF l) 4).2≠0∧ErrAt w' r (errF (tcF l) 4).1 (errF (tcF l) 4).2∧Ext w0 w')∨
   ((∀ k,k<4→(tcF l k).2=0)∧r=.nilIface∧∃ F',(∀ k,k<4→F' (8*k)=.int .i64 (vNum l k))∧(∀ j,j%8≠0→F' j=F j)∧Mem w0 w' [(cb,curO 251 v (vAt l 4) 0),(tb,.cells (fnA 32 F') 152 (0,0))]):=by
 refine zE Tryz.func99 Tryz.ntmps99 ?_;(conv=>whnf);refine qm (fun x:Nat × (Nat→Value)=>[(0,.pointer (some ⟨tb,0,none⟩)),(1,.pointer (some ⟨cb,0,none⟩)),(4,.nilIface),(9,.int .i64 x.1)])
  (fun x w'=>x.1≤4∧(∀ j,j<x.1→(tcF l j).2=0)∧(∀ k,k<x.1→x.2 (8*k)=.int .i64 (vNum l k))∧(∀ j,j%8≠0→x.2 j=F j)∧Mem w0 w' [(cb,curO 251 v (vAt l x.1) 0),(tb,.cells (fnA 32 x.2) 152 (0,0))]) (fun x=>4-x.1) (0,F)
  ⟨rfl,rfl,rfl,rfl,trivial⟩ ⟨by simp,fun j h=>by simp at h,fun j h=>by simp at h,fun j _=>rfl,hm⟩ ?_
 clear hm;rintro ⟨k,F1⟩ w1 ρ' ⟨k1,hz,hF,hF2,hm⟩;dsimp only at k1 hz hF hF2 hm ⊢;(conv=>whnf);refine zC (fun _=>?_) (fun _=>?_)<;>(conv=>whnf)
 ·have hv:BS w1 v l:=hv0.ext hm.ext;have hle:=qbs l k;have hlt:=qe7 l k;refine CallV.of (qg2 cb _ (vAt l k) 0 w1 (hm.get (List.mem_cons_self ..))) ?_;rintro r w2 ⟨rfl,rfl⟩;(conv=>whnf);refine CallV.of (qch cb _ (vAt l k) 0 l _ (hm.get (List.mem_cons_self ..)) hv hle hl) ?_;rintro r w3 ⟨rfl,hu⟩
  by_cases he:(numL (l.drop (vAt l k))).2.2=0
  ·rw [qhz he,qh0 he] at hu;rw [qhy he];have hm:Mem w0 w3 [(cb,curO 251 v (vAt l (k+1)) 0),(tb,.cells (fnA 32 F1) 152 (0,0))]:=hm.upd (i:=0) rfl hu;(conv=>whnf);refine CallV.of (qbp cb _ _ 0 w3 (hm.get (List.mem_cons_self ..))) ?_;rintro r w4 ⟨rfl,rfl⟩;conv=>whnf
   (repeat' (first|((with_reducible refine zC (fun _=>?_) (fun _=>?_))<;>first|(exfalso;omega)|(conv=>whnf))|(refine Wit.conv ⟨by omega,by omega⟩ ?_;(conv=>whnf))|((with_reducible refine zX ?_);(conv=>whnf))))
   ·have hf:tcF l k=(vAt l k,2):=by rw [tcF,qcj he (by omega),if_pos (by simp)]
    refine CallV.of (qbf (vAt l k) 2 _) ?_;rintro r w7 ⟨⟨eb,rfl,hec⟩,he7⟩;have hE:=qan (f:=tcF l) (n:=4) (k:=k) hz (by omega) (by rw [hf];simp);(conv=>whnf);refine .inl ⟨by rw [hE,hf];simp,?_,hm.ext.trans he7⟩;rw [hE,hf];exact ⟨eb,rfl,hec⟩
   ·refine StoreV.fn hm (i:=1) rfl (8*k) (by rw [lvSz];dsimp only;omega) (by omega) rfl ?_;intro w5 hm;have hm:Mem w0 w5 [(cb,curO 251 v (vAt l (k+1)) 0),(tb,.cells (fnA 32 (updF F1 (8*k) (.int .i64 (vNum l k)))) 152 (0,0))]:=hm;conv=>whnf
    (repeat' (first|(refine zA ?_;(conv=>whnf))|((with_reducible refine zT ?_);(conv=>whnf))|((with_reducible refine zU ?_);(conv=>whnf))|((with_reducible refine zC (fun _=>?_) (fun _=>?_))<;>first|(exfalso;omega)|(conv=>whnf))))
    ·refine IdxV.at_ (k-1) (by omega) (by omega) ?_;(conv=>whnf);(iterate 2 (refine zT ?_;(conv=>whnf)));refine LoadV.fn (v:=.int .i64 (vNum l (k-1))) hm (i:=1) rfl (8*(k-1)) (by rw [lvSz];dsimp only;omega) (by omega) (by rw [q9 _ _ _ _ (by omega)];exact hF (k-1) (by omega)) ?_;conv=>whnf
     (repeat' (first|(refine zA ?_;(conv=>whnf))|((with_reducible refine zT ?_);(conv=>whnf))|((with_reducible refine zU ?_);(conv=>whnf))|((with_reducible refine zC (fun _=>?_) (fun _=>?_))<;>first|(exfalso;omega)|(conv=>whnf))|(refine Wit.conv ⟨by omega,by omega⟩ ?_;(conv=>whnf))))
     ·have hf:tcF l k=(vAt l k,180):=by rw [tcF,qbu he (by omega),if_neg (by simp),if_pos ⟨by omega,by omega⟩]
      refine CallV.of (qbf (vAt l k) 180 _) ?_;rintro r w7 ⟨⟨eb,rfl,hec⟩,he7⟩;have hE:=qan (f:=tcF l) (n:=4) (k:=k) hz (by omega) (by rw [hf];simp);(conv=>whnf);refine .inl ⟨by rw [hE,hf];simp,?_,hm.ext.trans he7⟩;rw [hE,hf];exact ⟨eb,rfl,hec⟩
     ·refine IdxV.at_ (k-1) (by omega) (by omega) ?_;(conv=>whnf);(iterate 2 (refine zU ?_;(conv=>whnf)));refine LoadV.fn (v:=.int .i64 (vNum l (k-1))) hm (i:=1) rfl (8*(k-1)) (by rw [lvSz];dsimp only;omega) (by omega) (by rw [q9 _ _ _ _ (by omega)];exact hF (k-1) (by omega)) ?_;(conv=>whnf);(iterate 4 (refine zU ?_;(conv=>whnf)));refine zT ?_;(conv=>whnf);refine zU ?_;(conv=>whnf);refine zT ?_;(conv=>whnf);refine zP ?_;refine Tst.iff (vNum l (k-1)=0↔vNum l k=0) (by rw [beq_iff_eq,decide_eq_decide];omega) (fun h=>?_) (fun h=>?_)
      ·(conv=>whnf);refine zA ?_;(conv=>whnf);have hf:(tcF l k).2=0:=by rw [tcF,qbu he (by omega),if_neg (by simp),if_neg (by omega)]
       refine ⟨(k+1,updF F1 (8*k) (.int .i64 (vNum l k))),⟨rfl,rfl,rfl,rfl,trivial⟩,⟨by simp only;omega,fun j hj=>?_,fun j hj=>?_,fun j hj=>?_,hm⟩,by simp only;omega⟩
       ·by_cases e:j=k
        ·subst e;exact hf
        ·exact hz j (by simp only at hj;omega)
       ·by_cases e:j=k
        ·subst e;exact qgz _ _ _
        ·simp only at hj ⊢;rw [q9 _ _ _ _ (by omega)];exact hF j (by omega)
       ·simp only;rw [q9 _ _ _ _ (by omega)];exact hF2 j hj
      ·(conv=>whnf);have hf:tcF l k=(vAt l k,180):=by rw [tcF,qbu he (by omega),if_neg (by simp),if_pos ⟨by omega,.inr h⟩]
       refine CallV.of (qbf (vAt l k) 180 _) ?_;rintro r w7 ⟨⟨eb,rfl,hec⟩,he7⟩;have hE:=qan (f:=tcF l) (n:=4) (k:=k) hz (by omega) (by rw [hf];simp);(conv=>whnf);refine .inl ⟨by rw [hE,hf];simp,?_,hm.ext.trans he7⟩;rw [hE,hf];exact ⟨eb,rfl,hec⟩
    ·have hk0:k=0:=by omega
     have hf:(tcF l k).2=0:=by rw [tcF,qbu he (by omega),if_neg (by simp),if_neg (by omega)]
     refine ⟨(k+1,updF F1 (8*k) (.int .i64 (vNum l k))),⟨rfl,rfl,rfl,rfl,trivial⟩,⟨by simp only;omega,fun j hj=>?_,fun j hj=>?_,fun j hj=>?_,hm⟩,by simp only;omega⟩
     ·by_cases e:j=k
      ·subst e;exact hf
      ·exact hz j (by simp only at hj;omega)
     ·by_cases e:j=k
      ·subst e;exact qgz _ _ _
      ·simp only at hj ⊢;rw [q9 _ _ _ _ (by omega)];exact hF j (by omega)
     ·simp only;rw [q9 _ _ _ _ (by omega)];exact hF2 j hj
  ·rw [qhw he,qhx he] at hu;rw [qhv he];have hm:Mem w0 w3 [(cb,curO 251 v (vAt l k) (numL (l.drop (vAt l k))).2.2),(tb,.cells (fnA 32 F1) 152 (0,0))]:=hm.upd (i:=0) rfl hu;(conv=>whnf);refine CallV.of (qbp cb _ _ _ w3 (hm.get (List.mem_cons_self ..))) ?_;rintro r w4 ⟨rfl,rfl⟩;(conv=>whnf);refine zY (fun _=>?_);(conv=>whnf);have hf:tcF l k=(vAt l k,(numL (l.drop (vAt l k))).2.2):=by rw [tcF,qde he,if_pos he]
   refine CallV.of (qbf (vAt l k) (numL (l.drop (vAt l k))).2.2 _) ?_;rintro r w7 ⟨⟨eb,rfl,hec⟩,he7⟩;have hE:=qan (f:=tcF l) (n:=4) (k:=k) hz (by omega) (by rw [hf];exact he);(conv=>whnf);refine .inl ⟨by rw [hE,hf];exact he,?_,hm.ext.trans he7⟩;rw [hE,hf];exact ⟨eb,rfl,hec⟩
 ·obtain rfl:k=4:=by omega
  exact .inr ⟨hz,rfl,F1,hF,hF2,hm⟩
end Go.Proofs.YtajgbepghniciaaGreatDoor
namespace Go.Proofs.YtajgbepghniciaaGreatDoor
open Go.RowKit
namespace V
def qp0 (n:Nat) (ops:Array Oper):Bool:=
 Region.noSelect ops&&(List.range ops.size).all fun j=>
  match ops[j]? with
  | none=>true
  | some o=>(qu o).all (fun k=>decide (k<j))&&(match o.dst with|some d=>decide (d<n)|none=>true)&&(List.range ops.size).all fun k=>
   match ops[k]? with
   | none=>true
   | some ok=>match ok.dst with
    | none=>true
    | some t=>(!(o.looksAt ops).contains t||((qu o).contains k||(qu ok).contains j))&&(k==j||o.dst != some t)
structure ShapeW (n:Nat) (ops:Array Oper):Prop where
 sel:Region.noSelect ops=true
 lt:∀ (j:Nat) (o:Oper),ops[j]?=some o→∀ k∈qu o,k<j
 dn:∀ (j:Nat) (o:Oper),ops[j]?=some o→∀ d,o.dst=some d→d<n
 look:∀ (j:Nat) (o:Oper) (k:Nat) (ok:Oper) (t:Nat),ops[j]?=some o→ops[k]?=some ok→ok.dst=some t→t∈o.looksAt ops→k∈qu o∨j∈qu ok
 uniq:∀ (j:Nat) (o:Oper) (k:Nat) (ok:Oper) (t:Nat),ops[j]?=some o→ops[k]?=some ok→ok.dst=some t→o.dst=some t→k=j
theorem qm2 {n:Nat} {ops:Array Oper} (h:qp0 n ops=true):ShapeW n ops:=by
 simp only [qp0,Bool.and_eq_true] at h;obtain ⟨h1,h2⟩:=h;have key:∀ (j:Nat) (o:Oper),ops[j]?=some o→((qu o).all (fun k=>decide (k<j))&&(match o.dst with|some d=>decide (d<n)|none=>true)&&(List.range ops.size).all fun k=>
   match ops[k]? with
   | none=>true
   | some ok=>match ok.dst with
    | none=>true
    | some t=>(!(o.looksAt ops).contains t||((qu o).contains k||(qu ok).contains j))&&(k==j||o.dst != some t))=true:=fun j o hj=>by
  have:=List.all_eq_true.1 h2 j (List.mem_range.2 (Array.getElem?_eq_some_iff.1 hj).1);rw [hj] at this;exact this
 have key2:∀ (j:Nat) (o:Oper) (k:Nat) (ok:Oper) (t:Nat),ops[j]?=some o→ops[k]?=some ok→ok.dst=some t→((!(o.looksAt ops).contains t||((qu o).contains k||(qu ok).contains j))&&(k==j||o.dst != some t))=true:=fun j o k ok t hj hk ht=>by
  have:=key j o hj;simp only [Bool.and_eq_true] at this;have:=List.all_eq_true.1 this.2 k (List.mem_range.2 (Array.getElem?_eq_some_iff.1 hk).1);rw [hk] at this;simp only [ht] at this
  simpa using this
 refine ⟨h1,fun j o hj k hk=>?_,fun j o hj d hd=>?_,fun j o k ok t hj hk ht hl=>?_,fun j o k ok t hj hk ht ho=>?_⟩
 ·have:=key j o hj;simp only [Bool.and_eq_true] at this
  simpa using List.all_eq_true.1 this.1.1 k hk
 ·have:=key j o hj;simp only [Bool.and_eq_true] at this;have:=this.1.2;rw [hd] at this
  simpa using this
 ·have:=key2 j o k ok t hj hk ht;simp only [Bool.and_eq_true,Bool.or_eq_true,Bool.not_eq_true'] at this
  rcases this.1 with h|h
  ·rw [List.contains_eq_mem,decide_eq_false_iff_not] at h;exact absurd hl h
  ·simpa using h
 ·have:=key2 j o k ok t hj hk ht;simp only [Bool.and_eq_true,Bool.or_eq_true,beq_iff_eq] at this
  rcases this.2 with h|h
  ·exact h
  ·rw [ho] at h;simp at h
section
variable {P:Program} {n:Nat} {ops:Array Oper} {w0:World} {E:List Ent} {ρ:Nat→Value}
theorem qfh (hd:∀ (i:Nat) (o:Oper) (e:Ent),ops[i]?=some o→E[i]?=some e→EntOk e o) (hl:E.length=ops.size) (hS:ShapeW n ops) {listed:Array Bool} {vals ρa:Nat→Value} {a:Act} {w:World} (I:InvD n E w0 ρ listed vals ρa a w)
  (i:Nat) (ks:List Nat) (t:Nat) (h1:∀ (k:Nat) (e:Ent),E[k]?=some e→e.d=some t→k<i→listed.getD k false=true∧(e.v=none→k∈ks)) (h2:∀ (k:Nat) (e:Ent),E[k]?=some e→e.d=some t→listed.getD k false=true→k<i) :
  fr (E.take i) vals ks (sfr (E.take i) ρ) t=ρa t:=by
 have op_of:∀ (k:Nat) (e:Ent),E[k]?=some e→∃ o,ops[k]?=some o∧EntOk e o:=fun k e hk=>by
  have hlt:k<ops.size:=by
   rw [← hl]
   rcases Nat.lt_or_ge k E.length with h|h
   ·exact h
   ·rw [List.getElem?_eq_none h] at hk;cases hk
  exact ⟨ops[k],Array.getElem?_eq_getElem hlt,hd k _ e (Array.getElem?_eq_getElem hlt) hk⟩
 have uniq:∀ (k k':Nat) (e e':Ent),E[k]?=some e→E[k']?=some e'→e.d=some t→e'.d=some t→k'=k:=fun k k' e e' hk hk' hd1 hd2=>by
  obtain ⟨o,ho,hok⟩:=op_of k e hk;obtain ⟨o',ho',hok'⟩:=op_of k' e' hk';exact hS.uniq k o k' o' t ho ho' (hok'.d ▸ hd2) (hok.d ▸ hd1)
 have inE:∀ (k:Nat) (e:Ent),getL (E.take i) k=some e→E[k]?=some e∧k<i:=fun k e hk=>by
  rw [qo,List.getElem?_take] at hk
  split at hk
  ·exact ⟨hk,by assumption⟩
  ·cases hk
 by_cases hex:∃ (k:Nat) (e:Ent),E[k]?=some e∧e.d=some t∧k<i
 ·obtain ⟨k,e,hk,hdt,hki⟩:=hex;obtain ⟨hlis,hks⟩:=h1 k e hk hdt hki;obtain ⟨o,ho,hok⟩:=op_of k e hk;have hra:=I.at_ k hlis e t hk hdt;have hmem:e∈E.take i:=List.mem_of_getElem? (i:=k) (by rw [List.getElem?_take,if_pos hki];exact hk);have huE:∀ e'∈E.take i,e'.d=some t→e'=e:=fun e' he' hd'=>by
   obtain ⟨k',hk'⟩:=List.mem_iff_getElem?.1 he';have hk'':=(inE k' e' (by rw [qo];exact hk')).1;have:=uniq k k' e e' hk hk'' hdt hd';subst this;rw [hk] at hk'';exact (Option.some.inj hk'').symm
  cases hv:e.v with
  | some x=>
   have hx:vals k=x:=hok.v x hv _ _ (I.φ k hlis e hk);rw [qkr,qul _ _ (fun e' he' hd'=>by rw [huE e' he' hd'];exact hv) (.inr ⟨e,hmem,hdt⟩),hra,hx];intro k' _ φ hk';have:=huE _ (List.mem_of_getElem? (i:=k') (by rw [qo] at hk';exact hk')) rfl;rw [← this] at hv;cases hv
  | none=>
   obtain ⟨ed,ev,eφ⟩:=e;simp only at hdt hv;subst hdt hv;rw [qxl (k0:=k) rfl (fun k' φ hk'=>?_) _ _ (.inr ⟨hks rfl,eφ,by rw [qo,List.getElem?_take,if_pos hki];exact hk⟩),hra];exact uniq k k' _ _ hk (inE k' _ hk').1 rfl rfl
 ·have hno:∀ k e,E[k]?=some e→k<i→e.d≠some t:=fun k e hk hki hd=>hex ⟨k,e,hk,hd,hki⟩
  rw [qkr,qpz]
  ·refine (I.miss t fun k hk e he hd=>?_).symm;exact hno k e he (h2 k e he hd hk) hd
  ·intro e he hd;obtain ⟨k',hk'⟩:=List.mem_iff_getElem?.1 he;obtain ⟨h3,h4⟩:=inE k' e (by rw [qo];exact hk');exact absurd hd (hno k' e h3 h4)
  ·intro k' _ φ hk';obtain ⟨h3,h4⟩:=inE k' _ hk';exact hno k' _ h3 h4 rfl
theorem qjn {o:Oper} {ρ' ρa:Nat→Value} {a:Act} {w:World} {K:Value→World→Prop} {K2:Act→World→Prop} {Q':Exit→Act→World→Prop} {i:Nat} (hi:ops[i]?=some o) (hS:ShapeW n ops)
  (ha:St n ρa a) (hag:∀ t∈o.looksAt ops,ρ' t=ρa t) (h:qbi P ops.toList o ρ' w K) (hk:∀ v w',K v w'→K2 (a.put o.dst v) w'):wpOp P ops Q' i K2 a w:=by
 have hsel:=Region.noSelect_spec hS.sel i o;have run:opV P o ρ' w K→Region.wanted o (yielded ops a.tmps)=true→wpOp P ops Q' i K2 a w:=fun h hw=>by
  unfold wpOp;rw [hi];simp only [hw,if_true];have hok:=qpl h;rw [qt1 (ops:=ops) (fun cs b=>hsel cs b hi) hag] at hok;exact .inl (OpOk.wp ha.eval hok hk)
 have skip:K undef w→Region.wanted o (yielded ops a.tmps)=false→wpOp P ops Q' i K2 a w:=fun h hw=>by
  unfold wpOp;rw [hi];simp only [hw,Bool.false_eq_true,if_false];exact hk _ _ h
 unfold qbi at h
 split at h
 ·rename_i hg
  exact run h (by simp [Region.wanted,hg])
 ·rename_i j want hg
  split at h
  ·rename_i hj
   rw [qo] at hj;have:ops[j]?=none:=by simpa using hj
   exact skip h (by simp [Region.wanted,hg,yielded,this])
  ·rename_i oj hj
   have hj':=hj;rw [qo] at hj';have hoj:ops[j]?=some oj:=by simpa using hj'
   split at h
   ·rename_i hd
    exact skip h (by simp [Region.wanted,hg,yielded,hoj,hd])
   ·rename_i d hd
    have hy:=ha.yield hj hd (hS.dn j oj hoj d hd);rw [Array.toArray_toList] at hy;rw [hag d (qfj hg hoj hd)] at h
    split at h
    ·rename_i b hb
     rw [hb] at hy;cases b
     ·have h:=h.f rfl;cases want
      ·exact run h (by simp [Region.wanted,hg,hy])
      ·exact skip h (by simp [Region.wanted,hg,hy])
     ·have h:=h.t rfl;cases want
      ·exact skip h (by simp [Region.wanted,hg,hy])
      ·exact run h (by simp [Region.wanted,hg,hy])
    ·rename_i hb
     refine skip h ?_;have:yielded ops a.tmps j=none:=by
      rw [hy]
      split
      ·rename_i b hb';exact absurd hb' (hb b)
      ·rfl
     simp [Region.wanted,hg,this]
theorem qos {Q:(Nat→Value)→World→Prop} {Q':Exit→Act→World→Prop} (hQ:∀ ρ a w,St n ρ a→Q ρ w→Q' .normal a w) (hS:ShapeW n ops) (hl:E.length=ops.size)
  (hE:∀ (i:Nat) (o:Oper) (e:Ent),ops[i]?=some o→E[i]?=some e→EntOk e o∧
   ∀ w,Ext w0 w→allv (E.take i) (qu o) (sfr (E.take i) ρ) w fun ρ'=>qbi P ops.toList o ρ' w fun v w'=>Ext w w'∧e.φ v w')
  (hF:∃ ks:List Nat,(∀ k d φ,getL E k=some ⟨some d,none,φ⟩→k∈ks)∧∀ w,Ext w0 w→allv E ks (sfr E ρ) w fun ρ'=>Q ρ' w) :
  ∀ (fuel:Nat) (listed:Array Bool) (vals ρa:Nat→Value) (a:Act) (w:World),listed.size=ops.size→listed.toList.count false≤fuel→(∀ k,listed.getD k false=true→∀ o,ops[k]?=some o→∀ j∈qu o,listed.getD j false=true)→InvD n E w0 ρ listed vals ρa a w→wpAny P .any ops Q' fuel listed a w:=by
 obtain ⟨ks,hks,hF⟩:=hF;have hd:∀ (i:Nat) (o:Oper) (e:Ent),ops[i]?=some o→E[i]?=some e→EntOk e o:=fun i o e h1 h2=>(hE i o e h1 h2).1
 have hlt:∀ (k:Nat) (e:Ent),E[k]?=some e→k<ops.size:=fun k e hk=>by
  rw [← hl]
  rcases Nat.lt_or_ge k E.length with h|h
  ·exact h
  ·rw [List.getElem?_eq_none h] at hk;cases hk
 have final:∀ (listed:Array Bool) (vals ρa:Nat→Value) (a:Act) (w:World),(∀ k,k<ops.size→listed.getD k false=true)→InvD n E w0 ρ listed vals ρa a w→Q' .normal a w:=fun listed vals ρa a w hall I=>by
  have h:=qj8 (vals:=vals) _ _ (fun k _ e hk=>by
   rw [qo] at hk;exact I.φ k (hall k (hlt k e hk)) e hk) (hF w I.ext)
  have he:fr E vals ks (sfr E ρ)=ρa:=by
   funext t
   have:=qfh hd hl hS I E.length ks t (fun k e hk hdt hki=>⟨hall k (hlt k e hk),fun hv=>hks k t e.φ (by
    obtain ⟨ed,ev,eφ⟩:=e;simp only at hdt hv;subst hdt hv;rw [qo];exact hk)⟩) (fun k e hk _ _=>by rw [hl];exact hlt k e hk)
   rwa [List.take_length] at this
  rw [he] at h;exact hQ _ _ _ I.st h
 have nodone:∀ (listed:Array Bool),listed.size=ops.size→Region.ready .any ops listed=[]→∀ k,k<ops.size→listed.getD k false=true:=fun listed hsz hr k hk=>by
  induction k using Nat.strongRecOn with
  | _ k ih=>
   cases hv:listed.getD k false with
   | true=>rfl
   | false=>
    exfalso
    have hmem:k∈Region.ready .any ops listed:=by
     refine mem_ready.2 ⟨?_,ops[k],Array.getElem?_eq_getElem hk,fun e he hb=>?_⟩
     ·have:k<listed.size:=by omega
      simp [this] at hv ⊢;exact hv
     ·rw [qbx] at hb;have hp:e.on∈qu ops[k]:=qa3.2 ⟨e,by simpa using he,hb,rfl⟩;have h1:=hS.lt k _ (Array.getElem?_eq_getElem hk) _ hp;exact ih _ h1 (by omega)
    rw [hr] at hmem;cases hmem
 intro fuel
 induction fuel with
 | zero=>
  intro listed vals ρa a w hsz hc hdc I;have hall:∀ k,k<ops.size→listed.getD k false=true:=fun k hk=>by
   have h0:listed.toList.count false=0:=by omega
   have h1:=List.count_eq_zero.1 h0;have hk':k<listed.size:=by omega
   cases hv:listed[k] with
   | true=>simp [hk',hv]
   | false=>exact absurd (by rw [← hv];exact Array.mem_toList_iff.2 (Array.getElem_mem hk')) h1
  refine ⟨?_,final listed vals ρa a w hall I⟩;rw [List.eq_nil_iff_forall_not_mem];intro j hj;obtain ⟨h1,o,ho,_⟩:=mem_ready.1 hj;have h2:=hall j (Array.getElem?_eq_some_iff.1 ho).1;have hk':j<listed.size:=by have:=(Array.getElem?_eq_some_iff.1 ho).1;omega
  simp [hk'] at h1 h2;rw [h1] at h2;cases h2
 | succ fuel ih=>
  intro listed vals ρa a w hsz hc hdc I;refine ⟨fun hr=>final listed vals ρa a w (nodone listed hsz hr) I,fun i hi=>?_⟩;obtain ⟨hun,o,ho,hall⟩:=mem_ready.1 hi;have hio:i<ops.size:=(Array.getElem?_eq_some_iff.1 ho).1;have hiE:i<E.length:=by omega
  obtain ⟨hok,hspec⟩:=hE i o E[i] ho (List.getElem?_eq_getElem hiE);have hpl:∀ k∈qu o,listed.getD k false=true:=fun k hk=>by
   obtain ⟨e,he,hb,hon⟩:=qa3.1 hk;rw [← hon];exact hall e (by simpa using he) (by rw [qbx];exact hb)
  have h:=qj8 (vals:=vals) _ _ (fun k hk e he=>by
   rw [qo,List.getElem?_take,if_pos (hS.lt i o ho k hk)] at he;exact I.φ k (hpl k hk) e he) (hspec w I.ext)
  have hag:∀ t∈o.looksAt ops,fr (E.take i) vals (qu o) (sfr (E.take i) ρ) t=ρa t:=fun t ht=>by
   have hp:∀ (k:Nat) (e:Ent),E[k]?=some e→e.d=some t→k∈qu o∨(i<k∧listed.getD k false≠true):=fun k e hk hdt=>by
    have hk':=hlt k e hk
    rcases hS.look i o k ops[k] t ho (Array.getElem?_eq_getElem hk') ((hd k _ e (Array.getElem?_eq_getElem hk') hk).d ▸ hdt) ht with h|h
    ·exact .inl h
    ·refine .inr ⟨hS.lt k _ (Array.getElem?_eq_getElem hk') i h,fun hl=>?_⟩;have:=hdc k hl _ (Array.getElem?_eq_getElem hk') i h;have hi':i<listed.size:=by omega
     simp [hi'] at hun this;rw [hun] at this;cases this
   exact qfh hd hl hS I i (qu o) t (fun k e hk hdt hki=>by
    rcases hp k e hk hdt with h|h
    ·exact ⟨hpl k h,fun _=>h⟩
    ·omega) (fun k e hk hdt hlk=>by
    rcases hp k e hk hdt with h|h
    ·exact hS.lt i o ho k h
    ·exact absurd hlk h.2)
  refine qjn ho hS I.st hag h fun v w' ⟨hx,hφ⟩=>?_;have hgd:∀ k,(listed.setIfInBounds i true).getD k false=true→k=i∨(k≠i∧listed.getD k false=true):=fun k hk=>by
   by_cases hki:k=i
   ·exact .inl hki
   ·rw [getD_set_ne false (fun e=>hki e.symm)] at hk;exact .inr ⟨hki,hk⟩
  have hnl:listed.getD i false=false:=by
   have:i<listed.size:=by omega
   simp [this] at hun ⊢;exact hun
  refine ih _ (fun k=>if k=i then v else vals k) (match o.dst with|some d=>upd ρa d v|none=>ρa) _ _ (by simp [hsz]) (by have:=qcf listed i hun;omega) (fun k hk o' ho' j hj=>by
   have hset:∀ j,listed.getD j false=true→(listed.setIfInBounds i true).getD j false=true:=fun j hj=>by
    by_cases hji:j=i
    ·subst hji;rw [hnl] at hj;cases hj
    ·rw [getD_set_ne false (fun e=>hji e.symm)];exact hj
   rcases hgd k hk with rfl|⟨hki,hk⟩
   ·rw [ho] at ho';cases ho';exact hset j (hpl j hj)
   ·exact hset j (hdc k hk o' ho' j hj)) ⟨I.ext.trans hx,?_,?_,?_,?_⟩
  ·cases hdd:o.dst with
   | none=>exact I.st
   | some d=>exact I.st.put (hS.dn i o ho d hdd) v
  ·intro k hk e he
   rcases hgd k hk with rfl|⟨hki,hk⟩
   ·rw [List.getElem?_eq_getElem hiE] at he;cases he
    simpa using hφ
   ·simp only [if_neg hki];have hk':=hlt k e he;exact (hd k _ e (Array.getElem?_eq_getElem hk') he).st _ _ _ (I.φ k hk e he) hx
  ·intro k hk e d he hdd
   rcases hgd k hk with rfl|⟨hki,hk⟩
   ·rw [List.getElem?_eq_getElem hiE] at he;cases he;rw [hok.d] at hdd;simp [hdd,qdk]
   ·simp only [if_neg hki];have hk':=hlt k e he;have hd2:=(hd k _ e (Array.getElem?_eq_getElem hk') he).d;cases ho2:o.dst with
    | none=>exact I.at_ k hk e d he hdd
    | some d2=>
     have hne:d≠d2:=by
      rintro rfl;exact hki (hS.uniq i o k _ d ho (Array.getElem?_eq_getElem hk') (hd2 ▸ hdd) ho2)
     simp only;rw [qam _ _ _ _ hne];exact I.at_ k hk e d he hdd
  ·intro t ht;have h1:ρa t=ρ t:=I.miss t fun k hk e he=>ht k (by
    by_cases hki:k=i
    ·subst hki;rw [hnl] at hk;cases hk
    ·rw [getD_set_ne false (fun e=>hki e.symm)];exact hk) e he
   cases ho2:o.dst with
   | none=>exact h1
   | some d2=>
    have hne:t≠d2:=by
     rintro rfl;refine ht i ?_ E[i] (List.getElem?_eq_getElem hiE) (by rw [hok.d,ho2]);have:i<listed.size:=by omega
     simp [this]
    simp only;rw [qam _ _ _ _ hne];exact h1
end
theorem DrawV.freeW {P:Program} {n id:Nat} {ops:Array Oper} {Q:Exit→(Nat→Value)→World→Prop} {ρ:Nat→Value} {w:World} (hm:P.follows .mixedOrders=true) (hB:qp0 n ops=true)
  (h:regD P ops.toList w.drew (fun ρ' w'=>Q .normal ρ' w') ops.toList 0 [] ρ):DrawV P n id ops Q ρ w:=by
 refine ⟨fun a ha=>wp_region_any hm ?_⟩;obtain ⟨E,h1,h2,h3⟩:=qpq ops.toList [] [] ρ (fun k=>rfl) h;refine qos (Q:=fun ρ' w'=>Q .normal ρ' w') (E:=E) (w0:=w.drew) (ρ:=ρ) (fun ρ a w h1 h2=>⟨ρ,h1,h2⟩) (qm2 hB) (by simpa using h1) (fun i o e ho he=>?_) (by simpa using h3) _ _ (fun _=>undef) ρ a _ (by simp) (by simp) (fun k hk=>by rw [qe] at hk;cases hk) ⟨Ext.refl _,ha,?_,?_,fun t _=>rfl⟩
 ·have:=h2 i o e (by simpa using ho) he
  simpa using this
 ·intro k hk;rw [qe] at hk;cases hk
 ·intro k hk;rw [qe] at hk;cases hk
end V
end Go.Proofs.YtajgbepghniciaaGreatDoor
