/- Lemmas and contracts of functions on the way to the law's card (part 3 of 16). -/
import Derived.Test.YtccmcfpmknpccaaGreatDoorSH2
import Derived.WideKeyArgs
import Derived.ChangeSame
import Derived.ChangeVars
import Derived.RowKit
import Derived.OpenShut
import Derived.Deep.Strs
import Derived.Lib.Builder
import Derived.Lib.Join
namespace Go.Proofs.YtccmcfpmknpccaaGreatDoor
open Go.RowKit V
set_option maxRecDepth 100000
theorem quw {P:Program} {f:FuncId} {vs:List Value} {w:World} {v:Value} (he:qcm P f=true) (h:Calls P f vs.toArray w fun e w'=>e=.returned v∧w'=w) :
  Gv P f vs w fun u w'=>u=v∧w'=w:=⟨he,h.mono fun _ _ ⟨h1,h2⟩=>⟨v,h1,rfl,h2⟩⟩
def signs:ByteArray:=⟨#[60,62,34,123,125,124,94,96,92]⟩
theorem ql5 (s:ByteArray) (c:Int) (w:World) :
  Gv Tryz.prog 372 [.string s,.int .u8 c] w fun v w'=>v=ii (Lib.indexByte s.data.toList c.toNat.toUInt8)∧w'=w:=
 quw Jk (Tryz.strings_IndexByte s c w)
theorem qm3 (r:Int) (w:World) :
  Gv Tryz.prog 373 [.int .i32 r] w fun v w'=>v=.bool (Lib.validRune r)∧w'=w:=
 quw Jk (Tryz.utf8_ValidRune r w)
theorem qp0 (r:Nat) (h:128≤r):2≤(Utf8.encode r).size∧(Utf8.encode r).size≤4∧128≤(gb (Utf8.encode r) ((Utf8.encode r).size-1)).toNat:=by
 unfold Utf8.encode;simp only;obtain ⟨c,hc,hc2⟩:∃ c,(if Utf8.valid r=true then (r:Int).toNat else Utf8.runeError)=c∧128≤c:=by
  refine ⟨_,rfl,?_⟩
  split
  ·omega
  ·decide
 rw [hc];rw [if_neg Oo];have hm:c%64<64:=(by omega)
 split
 ·refine ⟨show 2≤2 by decide,show 2≤4 by decide,?_⟩;show 128≤(UInt8.ofNat (0x80+c%64)).toNat
  grind [UInt8.toNat_ofNat']
 ·split
  ·refine ⟨show 2≤3 by decide,show 3≤4 by decide,?_⟩;show 128≤(UInt8.ofNat (0x80+c%64)).toNat
   grind [UInt8.toNat_ofNat']
  ·refine ⟨show 2≤4 by decide,show 4≤4 by decide,?_⟩;show 128≤(UInt8.ofNat (0x80+c%64)).toNat
   grind [UInt8.toNat_ofNat']
theorem qo1:∀ pos:Fin 9,(Utf8.decode signs pos.1).2=1∧(Utf8.decode signs pos.1).1<128:=by decide
theorem qo2:∀ pos:Fin 9,(gb signs pos.1).toNat<128:=by decide
theorem qo0:∀ y∈signs.data.toList,y.toNat<128:=by
 simp [signs]
theorem qj6 (l:LB) (c:UInt8) (h:∀ x∈l,x≠c):Lib.indexByte l c=-1:=by
 induction l<;>grind [Lib.indexByte]
theorem qj7 (r:Nat) (h0:128≤r) (h1:r≤1114111) (w:World) :
  Gv Tryz.prog 337 [.string signs,.int .i32 r] w fun v w'=>v=ii (-1)∧Ext w w':=by
 have he:=qp0 r h0;refine ze Tryz.func337 Tryz.ntmps337 ?_;refine zY (fun _=>?_);(conv=>whnf);(iterate 2 (refine zT ?_;(conv=>whnf)));refine zN (fun _=>?_);(conv=>whnf);refine zC (fun _=>?_) (fun _=>?_)<;>(conv=>whnf)
 ·refine znm (Mem.nil w) fun b w1 hm=>zw ?_;refine qm (fun pos:Nat=>[(175,pp b)]) (fun pos w2=>pos≤9∧Mem w w2 [(b,.stringIter signs pos)]) (fun pos=>9-pos) 0 ⟨rfl,trivial⟩ (by grind) ?_;rintro pos w2 ρ' ⟨hp,hm⟩;(conv=>whnf);refine NextS.mem hm (i:=0) rfl ?_ ?_
  ·intro hlt w3 hm3;have hlt':pos<9:=hlt;have hd:=qo1 ⟨pos,hlt'⟩;simp only at hd;rw [hd.1] at hm3;(conv=>whnf);refine zT ?_;(conv=>whnf);refine zN (fun _=>?_);(conv=>whnf);exact ⟨pos+1,⟨rfl,trivial⟩,(by grind),by omega⟩
  ·intro hge;(conv=>whnf);refine zU ?_;(conv=>whnf);exact ⟨rfl,hm.ext⟩
 ·refine zcv (qm3 _ _) ?_;rintro v w1 ⟨rfl,rfl⟩;(conv=>whnf);cases hv:Lib.validRune r
  ·(conv=>whnf);refine zP ?_;refine zU ?_;conv=>whnf
   grind [Ext.refl]
  ·(conv=>whnf);refine zP ?_;refine zT ?_;(conv=>whnf);refine ScopeV.straight (zw ?_);refine zA ?_;(conv=>whnf);have hsg:signs.size=9:=rfl;refine qm (fun _:Unit=>[(0,.string signs),(7,.string (Utf8.encode r)),(8,ii ((Utf8.encode r).size-1)),(9,ii ((Utf8.encode r).size-1))]) (fun _ w2=>w2=w1) (fun _=>0) () ⟨rfl,rfl,rfl,rfl,trivial⟩ rfl ?_;rintro _ w2 ρ' rfl;(conv=>whnf);refine zY (fun _=>?_);(conv=>whnf);refine ScopeV.straight (zw ?_);refine zy ?_;(iterate 2 (refine zW ?_;(conv=>whnf)));refine IdxV.at_ ((Utf8.encode r).size-1) Oo Oo (zw ?_);(iterate 3 (refine zW ?_;(conv=>whnf)));refine IdxV.at_ ((Utf8.encode r).size-1) Oo Oo (zw ?_);(iterate 2 (refine zW ?_;(conv=>whnf)));refine zC (fun _=>?_) (fun _=>?_)<;>(conv=>whnf)
   have hlow:=qo2 ⟨(Utf8.encode r).size-1,by omega⟩;simp only at hlow
   ·refine zy ?_;(iterate 2 (refine zW ?_;(conv=>whnf)));refine zA ?_;(conv=>whnf);refine zW ?_;(conv=>whnf);refine SliceS.at_ (Utf8.encode r).size 9 (show (((Utf8.encode (r:Int)).size:Int)-1+1:Int)=((Utf8.encode (r:Int)).size:Int) by omega) rfl Oo Od (zw ?_);(iterate 3 (refine zW ?_;(conv=>whnf)));refine IdxV.at_ ((Utf8.encode r).size-1) Oo Oo (zw ?_);refine zW ?_;(conv=>whnf);refine ⟨_,ql5 _ _ _,?_⟩;rw [qj6]
    ·(conv=>whnf);refine zW ?_;(conv=>whnf);refine zY (fun _=>?_);(conv=>whnf);exact ⟨rfl,xr.drew.drew⟩
    ·intro x hx e;rw [Lib.extract_data] at hx;have hx1:=List.mem_of_mem_take hx;have h2:=qo0 x (List.mem_of_mem_drop hx1);rw [e] at h2;have h3:((((gb (Utf8.encode (r:Int)) ((Utf8.encode (r:Int)).size-1)).toNat:Int)).toNat.toUInt8).toNat=(gb (Utf8.encode (r:Int)) ((Utf8.encode (r:Int)).size-1)).toNat:=by
      simp
     omega
   ·have hlow:=qo2 ⟨(Utf8.encode r).size-1,by omega⟩;simp only at hlow;omega
theorem ql6 (l:LB) (c:UInt8):0≤Lib.indexByte l c↔c∈l:=by
 induction l<;>grind [Lib.indexByte]
def barB (c:UInt8):Bool:=decide (c.toNat≤32∨c∈signs.data.toList)
def barR (r:Nat):Bool:=decide (r<128)&&barB (UInt8.ofNat r)
theorem qnn (r:Nat) (h1:r≤1114111) (w:World) :
  Gv Tryz.prog 282 [.string signs,.int .i32 r] w fun v w'=>v=.bool (decide (r<128∧UInt8.ofNat r∈signs.data.toList))∧Ext w w':=by
 by_cases h:r<128
 ·have hk:=Tryz.strings_ContainsRune_ascii signs (r:Int) w Oo Oo;refine (quw Jk hk).mono ?_
  grind [Ext.refl,ql6]
 ·refine ze Tryz.func282 Tryz.ntmps282 ?_;refine zcv (qj7 r Oo h1 w) ?_;rintro v w' ⟨rfl,he⟩;conv=>whnf
  grind
theorem qkf (r:Nat) (h1:r≤1114111) (w:World) :
  Gv Tryz.prog 213 [.int .i32 r] w fun v w'=>v=.bool (barR r)∧Ext w w':=by
 have hn:r<128→(UInt8.ofNat r).toNat=r:=(by grind [UInt8.toNat_ofNat'])
 refine ze Tryz.func213 Tryz.ntmps213 ?_
 (repeat' (first|((with_reducible refine zT ?_);(conv=>whnf))|((with_reducible refine zU ?_);(conv=>whnf))|((with_reducible refine zC (fun _=>?_) (fun _=>?_))<;>first|(exfalso;omega)|(conv=>whnf))))
 ·grind [Ext.refl,barR,barB]
 ·refine zcv (qnn r h1 w) ?_;rintro v w' ⟨rfl,he⟩;(conv=>whnf);refine zU ?_;conv=>whnf
  grind [barR,barB]
theorem get!_gb (s:ByteArray) (k:Nat):s.get! k=gb s k:=by
 obtain ⟨⟨l⟩⟩:=s;simp [ByteArray.get!,gb,List.getD_eq_getElem?_getD,getElem!_def];rfl
theorem qgt (s:ByteArray) (pos:Nat) (hb:(gb s pos).toNat<128):Utf8.decode s pos=((gb s pos).toNat,1):=by
 grind [Utf8.decode,get!_gb]
theorem qiy (s:ByteArray) (pos:Nat) (h:pos<s.size) (hb:128≤(gb s pos).toNat) :
  128≤(Utf8.decode s pos).1∧(Utf8.decode s pos).1≤1114111∧1≤(Utf8.decode s pos).2∧pos+(Utf8.decode s pos).2≤s.size∧∀ j,j<(Utf8.decode s pos).2→128≤(gb s (pos+j)).toNat:=by
 unfold Utf8.decode;simp only [Nat.add_zero,get!_gb];rw [if_neg Oo];have one:∀ j,j<1→128≤(gb s (pos+j)).toNat:=(by grind)
 have hb0:=(gb s pos).toNat_lt
 split
 ·rename_i hc
  simp only [Bool.and_eq_true,beq_iff_eq,decide_eq_true_eq] at hc
  split
  ·grind
  ·exact ⟨by decide,by decide,by decide,by omega,one⟩
 ·split
  ·rename_i hc
   simp only [Bool.and_eq_true,beq_iff_eq,decide_eq_true_eq] at hc
   split
   ·grind
   ·exact ⟨by decide,by decide,by decide,by omega,one⟩
  ·split
   ·rename_i hc
    simp only [Bool.and_eq_true,beq_iff_eq,decide_eq_true_eq] at hc
    split
    ·grind [Utf8.valid]
    ·exact ⟨by decide,by decide,by decide,by omega,one⟩
   ·exact ⟨by decide,by decide,by decide,by omega,one⟩
theorem qlg (s:ByteArray) (n:Nat):∀ pos,pos+n≤s.size→(∀ j,j<n→128≤(gb s (pos+j)).toNat)→
  (s.data.toList.drop pos).any barB=(s.data.toList.drop (pos+n)).any barB:=by
 induction n with
 | zero=>simp
 | succ n ih=>
  intro pos hle hh;have h0:=hh 0 Oo;have hb:barB (gb s pos)=false:=by
   grind [barB,qo0]
  rw [qcy s pos Oo,List.any_cons,hb,Bool.false_or,ih (pos+1) Oo (fun j hj=>by have:=hh (j+1) Oo;rwa [show pos+1+j=pos+(j+1) from by omega])]
  grind
theorem ql7 (s:ByteArray) (_:s.size≤140737488355328) (w:World) :
  Gv Tryz.prog 212 [.string s,.func (.func 213) #[] #[]] w fun v w'=>(∃ i:Int,v=ii i∧(0≤i↔s.data.toList.any barB=true))∧Ext w w':=by
 have hin:Gv Tryz.prog 281 [.string s,.func (.func 213) #[] #[],.bool true] w fun v w'=>(∃ i:Int,v=ii i∧(0≤i↔s.data.toList.any barB=true))∧Ext w w':=by
  refine ze Tryz.func281 Tryz.ntmps281 ?_;refine znm (Mem.nil w) fun b w1 hm=>zw ?_;refine qm (fun pos:Nat=>[(1,.func (.func 213) #[] #[]),(2,.bool true),(10,pp b)])
   (fun pos w2=>pos≤s.size∧Mem w w2 [(b,.stringIter s pos)]∧s.data.toList.any barB=(s.data.toList.drop pos).any barB) (fun pos=>s.size-pos) 0 ⟨rfl,rfl,rfl,trivial⟩ (by grind) ?_
  rintro pos w2 ρ' ⟨hp,hm,ha⟩;(conv=>whnf);refine NextS.mem hm (i:=0) rfl ?_ ?_
  ·intro hlt w3 hm3
   by_cases hb:(gb s pos).toNat<128
   ·have hd:=qgt s pos hb;rw [hd] at hm3 ⊢;simp only at hm3 ⊢;have hbb:UInt8.ofNat (gb s pos).toNat=gb s pos:=by simp
    (conv=>whnf);refine zT ?_;(conv=>whnf);refine zcv (qkf _ Oo _) ?_;rintro v w4 ⟨rfl,he⟩;have hm4:=hm3.call he;(conv=>whnf);have hbr:barR (gb s pos).toNat=barB (gb s pos):=by grind [barR]
    rw [hbr];cases hbar:barB (gb s pos)
    ·(conv=>whnf);refine Tst.beqT ?_;refine zU ?_;(conv=>whnf);refine ⟨pos+1,⟨rfl,rfl,rfl,trivial⟩,⟨by omega,hm4,?_⟩,by omega⟩
     grind [qcy]
    ·(conv=>whnf);refine Tst.beqT ?_;refine zT ?_;(conv=>whnf);refine ⟨⟨pos,rfl,?_⟩,hm4.ext⟩
     grind [qcy]
   ·have hd:=qiy s pos hlt Oo;obtain ⟨d1,d2,d3,d4,d5⟩:=hd;(conv=>whnf);refine zT ?_;(conv=>whnf);refine zcv (qkf _ d2 _) ?_;rintro v w4 ⟨rfl,he⟩;have hm4:=hm3.call he;have hbr:barR (Utf8.decode s pos).1=false:=by simp [barR];omega
    rw [hbr];(conv=>whnf);refine Tst.beqT ?_;refine zU ?_;(conv=>whnf);refine ⟨pos+(Utf8.decode s pos).2,⟨rfl,rfl,rfl,trivial⟩,⟨by omega,hm4,?_⟩,by omega⟩;rw [ha];exact qlg s _ pos d4 d5
  ·intro hge;(conv=>whnf);refine zU ?_;(conv=>whnf);refine ⟨⟨-1,rfl,?_⟩,hm.ext⟩
   simp_all [List.drop_eq_nil_of_le]
 refine ze Tryz.func212 Tryz.ntmps212 ?_;refine zcv (hin) ?_;rintro v w' ⟨⟨i,rfl,hi⟩,he⟩;conv=>whnf
 simp_all
def refE (s:ByteArray):Nat:=
 if 65536<s.size then 2 else if scal s.data.toList=none then 40 else if s.data.toList.any barB then 50 else 0
theorem qmr (s:ByteArray) (hs:s.size≤140737488355328) (w:World) :
  Gv Tryz.prog 137 [.string s] w fun v w'=>v=ii (refE s)∧Ext w w':=by
 refine ze Tryz.func137 Tryz.ntmps137 ?_;refine zC (fun _=>?_) (fun _=>?_)<;>(conv=>whnf)
 ·grind [refE,Ext.refl]
 ·refine zcv (qnj s hs _) ?_;rintro v w' ⟨⟨i,rfl,h1,h2,h3⟩,rfl⟩;(conv=>whnf);refine zC (fun _=>?_) (fun _=>?_)<;>(conv=>whnf)
  ·grind [Ext.refl,refE]
  ·have hsc:scal s.data.toList≠none:=(by grind)
   refine zcv (ql7 s hs _) ?_;rintro v w1 ⟨⟨j,rfl,hj⟩,he⟩;(conv=>whnf);refine zC (fun _=>?_) (fun _=>?_)<;>(conv=>whnf)
   all_goals grind [refE]
def qma (c:UInt8):Bool:=decide (97≤c.toNat∧c.toNat≤122∨65≤c.toNat∧c.toNat≤90)
def qq2 (c:UInt8):Bool:=qma c||decide (48≤c.toNat∧c.toNat≤57∨c.toNat=43∨c.toNat=45∨c.toNat=46)
def qbm:LB→Nat→Nat
 | [],_=>0
 | c::l,k=>if c.toNat=58 then k else if k=0∧qma c=false∨qq2 c=false then 0 else qbm l (k+1)
theorem qvz (c:UInt8) (l:LB) (k:Nat) (h1:c.toNat≠58)
  (h2:97≤c.toNat∧c.toNat≤122∨65≤c.toNat∧c.toNat≤90∨(0<k∧(48≤c.toNat∧c.toNat≤57∨c.toNat=43∨c.toNat=45∨c.toNat=46))) :
  qbm (c::l) k=qbm l (k+1):=by
 grind [qbm,qq2,qma]
theorem qhx (c:UInt8) (l:LB) (k:Nat) (h1:c.toNat≠58∨k=0)
  (h2:¬ (97≤c.toNat∧c.toNat≤122∨65≤c.toNat∧c.toNat≤90∨(0<k∧(48≤c.toNat∧c.toNat≤57∨c.toNat=43∨c.toNat=45∨c.toNat=46)))) :
  qbm (c::l) k=0:=by
 grind [qbm,qq2,qma]
theorem qq3 (c:UInt8) (l:LB) (k:Nat) (h1:c.toNat=58):qbm (c::l) k=k:=by
 grind [qbm]
theorem qc0 (s:ByteArray):s.extract 0 0=⟨#[]⟩:=by
 obtain ⟨⟨l⟩⟩:=s;rw [ByteArray.extract_mk];simp
theorem qv1 (s:ByteArray) (_:s.size≤140737488355328) (w:World) :
  Gv Tryz.prog 138 [.string s] w fun v w'=>v=.string (s.extract 0 (qbm s.data.toList 0))∧Ext w w':=by
 refine ze Tryz.func138 Tryz.ntmps138 ?_;refine znm (Mem.nil w) fun b w1 hm=>zw ?_;refine qm (fun pos:Nat=>[(0,.string s),(7,pp b)])
  (fun pos w2=>pos≤s.size∧Mem w w2 [(b,.stringIter s pos)]∧qbm s.data.toList 0=qbm (s.data.toList.drop pos) pos) (fun pos=>s.size-pos) 0 ⟨rfl,rfl,trivial⟩ (by grind) ?_
 rintro pos w2 ρ' ⟨hp,hm,ha⟩;(conv=>whnf);refine NextS.mem hm (i:=0) rfl ?_ ?_
 ·intro hlt w3 hm3;have hget:=qcy s pos hlt;rw [hget] at ha
  by_cases hb:(gb s pos).toNat<128
  ·have hd:=qgt s pos hb;rw [hd] at hm3 ⊢;simp only at hm3 ⊢;conv=>whnf
   (repeat' (first|((with_reducible refine zT ?_);(conv=>whnf))|((with_reducible refine zU ?_);(conv=>whnf))|((with_reducible refine zC (fun _=>?_) (fun _=>?_))<;>first|(exfalso;omega)|(conv=>whnf))))
   all_goals first
    | (refine ⟨pos+1,⟨rfl,rfl,trivial⟩,⟨by omega,hm3,?_⟩,by omega⟩;grind [qvz])
    | (refine ⟨?_,hm3.ext⟩;rw [ha,qhx _ _ _ Oo Oo,qc0])
    | (refine SliceS.at_ 0 pos rfl rfl Oo Oo ?_;(conv=>whnf);skip;exact ⟨by rw [ha,qq3 _ _ _ Oo],hm3.ext⟩)
  ·obtain ⟨d1,d2,d3,d4,d5⟩:=qiy s pos hlt Oo;generalize (Utf8.decode s pos).1=r at d1 d2 ⊢;generalize (Utf8.decode s pos).2=n at d3 d4 d5 hm3;conv=>whnf
   (repeat' (first|((with_reducible refine zT ?_);(conv=>whnf))|((with_reducible refine zU ?_);(conv=>whnf))|((with_reducible refine zC (fun _=>?_) (fun _=>?_))<;>first|(exfalso;omega)|(conv=>whnf))))
   all_goals first
    | (refine ⟨?_,hm3.ext⟩;grind [qhx,qc0])
 ·intro hge;rw [List.drop_eq_nil_of_le Ys] at ha;(conv=>whnf);refine zU ?_;(conv=>whnf);exact ⟨by rw [ha,qbm,qc0],hm.ext⟩
def iriE (s:ByteArray):Nat:=if refE s≠0 then refE s else if qbm s.data.toList 0=0 then 51 else 0
theorem qv0 (l:LB) (k:Nat):qbm l k≤k+l.length:=by
 induction l generalizing k<;>grind [qbm]
theorem qft (s:ByteArray) (n:Nat) (hn:n≤s.size):s.extract 0 n=⟨#[]⟩↔n=0:=by
 grind [ByteArray.size,ByteArray.size_extract,qc0]
theorem qhn (s:ByteArray) (hs:s.size≤140737488355328) (w:World) :
  Gv Tryz.prog 68 [.string s] w fun v w'=>v=ii (iriE s)∧Ext w w':=by
 refine ze Tryz.func68 Tryz.ntmps68 ?_;refine zcv (qmr s hs _) ?_;rintro v w1 ⟨rfl,he⟩;(conv=>whnf);refine zC (fun _=>?_) (fun _=>?_)<;>(conv=>whnf)
 ·grind [iriE]
 ·refine zcv (qv1 s hs _) ?_;rintro v w2 ⟨rfl,he2⟩;have hle:=qv0 s.data.toList 0;have hle':qbm s.data.toList 0≤s.size:=by simpa using hle
  (conv=>whnf);refine Tst.seq (fun h=>?_) (fun h=>?_)
  ·(conv=>whnf);exact ⟨by grind [iriE,qft],he.trans he2⟩
  ·(conv=>whnf);exact ⟨by grind [iriE,qft],he.trans he2⟩
def es:ByteArray:=⟨#[]⟩
structure PN where
 op:Int
 iri:ByteArray
 a:Int
 b:Int
 fA:oA
 fc:Nat
 f:List ByteArray
 vA:oA
 vc:Nat
 v:List ByteArray
open Go.ChangeShapes Go.WideShapes Go.RowKit
namespace V
section
variable {H:Type} {enc:TypeId × Value→H} {P:Program}
theorem qgg (hl:laidOutB P=true) {base:Nat} {W W':World} {sp':Nat→Bool}:∀ {ts:List TypeId} {vs:List Value} {ds:List (DataW H)} {ps:List MemPlace},
  (∀ t∈ts,P.readableRec t=true∧t<P.types.size)→DataW.TrodAll enc P W base (fun _=>true) true ts vs ds ps→(∀ p∈ps,W.sameAt W' p)→(∀ p∈ps,sp' p.block=true)→
  DataW.TrodAll enc P W' base sp' true ts vs ds ps
 | [],_,_,_,_,h,_,_=>by
  obtain ⟨rfl,rfl,rfl⟩:=trodAll_nil h;rfl
 | t::ts,_,_,_,hr,h,h1,h2=>by
  obtain ⟨v,vs,d,ds,p,q,rfl,rfl,rfl,ha,hb⟩:=trodAll_cons h;obtain ⟨r1,r2⟩:=hr t mh;exact ⟨p,q,WideElems.Trod_stays hl r1 r2 ha (fun x hx=>h1 x (List.mem_append_left _ hx)) (fun x hx=>h2 x (List.mem_append_left _ hx)),
   qgg hl (fun t ht=>hr t (zmc ht)) hb (fun x hx=>h1 x (List.mem_append_right _ hx)) (fun x hx=>h2 x (List.mem_append_right _ hx)),rfl⟩
theorem qqp {f:Func} {s:ChangeSpec} {apart fresh handsOn again:Bool} {W W':World} {args:Array Value} {v:Value} {ds gs:List (DataW H)} {before pa pv:List MemPlace}
  (hW:DataW.Whole enc P f.params.toList s.vars apart W args.toList ds gs before)
  (hres:∀ (b:Nat) (sp:Nat→Bool) (hd:Bool),DataW.TrodAll enc P W' b sp hd f.resultTypes.toList (v.resultList f.resultTypes.size) (s.fn H (ds++gs)).results [])
  (hargs:∀ sp:Nat→Bool,(∀ p∈before,sp p.block=true)→DataW.TrodAll enc P W' 0 sp true f.params.toList args.toList (s.fn H (ds++gs)).args pa)
  (hvars:∀ sp:Nat→Bool,(∀ p∈before,sp p.block=true)→DataW.TrodVars enc P W' sp s.vars (s.fn H (ds++gs)).vars pv)
  (hps:before=pa++pv) (he:Ext W W')
  (hok:∀ (j:Nat) (t:TypeId) (r:Value),f.resultTypes[j]?=some t→(v.resultList f.resultTypes.size)[j]?=some r→Value.okWide P W' .any 0 t r) :
  s.post enc P f apart fresh handsOn again W args v W':=by
 have hlt:=hW.lt;have hold:∀ p∈before,(fun b=>decide (b<W.heap.size)) p.block=true:=(by grind)
 refine ⟨ds,gs,before,[],pa,pv,hW,hres _ _ _,hargs _ hold,hvars _ hold,Below.frame he _,fun _=>?_⟩;obtain ⟨_,_,_,_,_,hz,hn⟩:=hW;refine ⟨hok,_,_,([]++pa)++pv,⟨[]++pa,pv,trodAll_append (hargs _ (fun _ _=>rfl)) (hres _ _ _),hvars _ (fun _ _=>rfl),rfl,?_,?_⟩,?_⟩
 ·intro b off hp;have hp':MemPlace.cell b off∈before:=by simp_all
  rw [Below.frozen he (show (⟨b,off,none⟩:Addr).block<W.heap.size from hlt _ hp')];exact hz b off hp'
 all_goals simp_all
theorem q39 {f:Func} {s:ChangeSpec} {apart fresh handsOn again:Bool} {W W':World} {args:Array Value} {v:Value} {ds gs:List (DataW H)} {before:List MemPlace} (hl:laidOutB P=true) (hr:∀ t∈f.params.toList,P.readableRec t=true∧t<P.types.size)
  (hW:DataW.Whole enc P f.params.toList s.vars apart W args.toList ds gs before) (hv:s.vars=[])
  (hres:∀ (b:Nat) (sp:Nat→Bool) (hd:Bool),DataW.TrodAll enc P W' b sp hd f.resultTypes.toList (v.resultList f.resultTypes.size) (s.fn H ds).results [])
  (hargs:(s.fn H ds).args=ds) (hvars:(s.fn H ds).vars=[]) (he:Ext W W')
  (hok:∀ (j:Nat) (t:TypeId) (r:Value),f.resultTypes[j]?=some t→(v.resultList f.resultTypes.size)[j]?=some r→Value.okWide P W' .any 0 t r) :
  s.post enc P f apart fresh handsOn again W args v W':=by
 have hlt:=hW.lt;have hW0:=hW;obtain ⟨p,q,hA,hV,hpq,_,_⟩:=hW;rw [hv] at hV;obtain ⟨rfl,rfl⟩:=trodVars_none hV;rw [List.append_nil] at hpq;subst hpq;refine qqp (pa:=before) (pv:=[]) hW0 ?_ ?_ ?_ Js he hok
 ·simp_all
 ·rw [List.append_nil,hargs];exact fun sp hsp=>qgg hl hr hA (fun x hx=>Below.same he (hlt x hx)) hsp
 ·rw [List.append_nil,hvars,hv];exact fun _ _=>rfl
structure Opn (enc:TypeId × Value→H) (P:Program) (w:World) (t:TypeId) (cs:List Value):Prop where
 h:∃ n d ps,DataW.trod enc P w 0 (fun _=>true) true n t cs=some (d,ps)∧∀ m∈DataW.weights P t d,m≤reachBytes
theorem qd4 {t:TypeId} {d:DataW H} {m:Nat} (hm:m∈DataW.weights P t d):∀ (ts:List TypeId) (ds:List (DataW H)) (i:Nat),ts[i]?=some t→ds[i]?=some d→m∈DataW.weightsEach P ts ds
 | [],_,_,h,_=>by simp at h
 | _::_,[],_,_,h=>by simp at h
 | u::ts,x::ds,0,h,h'=>by
  grind [DataW.weightsEach]
 | u::ts,x::ds,i+1,h,h'=>by
  rw [DataW.weightsEach];exact List.mem_append_right _ (qd4 hm ts ds i (by simpa using h) (by simpa using h'))
theorem qe1 {t:TypeId} {d:DataW H} {m:Nat} (hm:m∈DataW.weights P t d):∀ (ds:List (DataW H)),d∈ds→m∈DataW.weightsAll P t ds
 | [],h=>by simp at h
 | x::ds,h=>by
  rw [DataW.weightsAll]
  rcases List.mem_cons.1 h with rfl|h
  ·exact List.mem_append_left _ hm
  ·exact List.mem_append_right _ (qe1 hm ds h)
section
variable {w:World} {t:TypeId}
theorem Opn.of {ts:List TypeId} {vs:List Value} {ds:List (DataW H)} {ps:List MemPlace} (h:DataW.TrodAll enc P w 0 (fun _=>true) true ts vs ds ps) (hw:(DataW.weightsEach P ts ds).all (·≤reachBytes)=true) :
  ∀ (i:Nat) u v,ts[i]?=some u→vs[i]?=some v→Opn enc P w u v.cells.toList:=by
 have key:∀ (ts:List TypeId) (vs:List Value) (ds:List (DataW H)) (ps:List MemPlace),DataW.TrodAll enc P w 0 (fun _=>true) true ts vs ds ps→(∀ m∈DataW.weightsEach P ts ds,m≤reachBytes)→
   ∀ (i:Nat) u v,ts[i]?=some u→vs[i]?=some v→Opn enc P w u v.cells.toList:=by
  intro ts
  induction ts with
  | nil=>simp
  | cons t ts ih=>
   intro vs ds ps h hw i u v hu hv;obtain ⟨x,vs',d,ds',p,q,rfl,rfl,rfl,⟨n,ha⟩,hb⟩:=trodAll_cons h;rw [DataW.weightsEach] at hw;cases i with
   | zero=>
    simp at hu hv;subst hu hv;exact ⟨n,d,p,ha,fun m hm=>hw m (by grind)⟩
   | succ i=>grind
 grind
theorem Opn.fields {fs:Array Field} {cs:List Value} (ht:P.underlying t=some (.struct fs)) (h:Opn enc P w t cs) :
  cs.length=P.cellsOf t∧∀ (i:Nat) (f:Field),fs[i]?=some f→Opn enc P w f.type ((cs.drop f.offset).take (P.cellsOf f.type)):=by
 obtain ⟨n,d,ps,h,hw⟩:=h;obtain ⟨xs,n,_,hd,hl,hlen,hf⟩:=DataW.trod_struct ht h;simp only [Prod.mk.injEq] at hd;obtain ⟨rfl,rfl⟩:=hd;refine ⟨hl,fun i f hi=>?_⟩;have hil:i<xs.length:=by
  grind
 refine ⟨n,xs[i].1,xs[i].2,by grind,fun m hm=>hw m ?_⟩;rw [DataW.weights,ht];exact qd4 hm _ _ i (by simp_all) (by grind)
theorem Opn.string {c:Value} (ht:P.underlying t=some .string) (h:Opn enc P w t [c]):∃ s:ByteArray,c=.string s∧s.size≤140737488355328:=by
 obtain ⟨n,d,ps,h,hw⟩:=h;obtain ⟨s,h1,h2,_⟩:=DataW.trod_string ht h;simp only [Prod.mk.injEq] at h2;obtain ⟨rfl,rfl⟩:=h2;refine ⟨s,by simpa using h1,?_⟩;have:=hw s.data.toList.length (by grind [DataW.weights]);have e:s.data.toList.length=s.size:=Array.length_toList
 grind [reachBytes]
theorem Opn.int {k:IntKind} {c:Value} (ht:P.underlying t=some (.int k)) (h:Opn enc P w t [c]):∃ n:Int,c=.int k n∧(Lit.int k n).wf=true:=by
 grind [h,DataW.trod_int]
theorem q04 {w:World} {a:Addr} {v:Value} (h:w.cell? a=some v):a=⟨a.block,a.off,none⟩:=by
 obtain ⟨b,o,s⟩:=a;cases s<;>grind [World.cell?]
end
end
end V
open Go.ChangeShapes Go.WideShapes Go.RowKit V
theorem qabr {k:IntKind} {n:Int} (h:(Lit.int k n).wf=true):InR k n:=by
 simp only [Lit.wf,Bool.and_eq_true,decide_eq_true_eq] at h;cases k<;>exact h
theorem qlm:Tryz.prog.cellsOf 9=1:=by kernel_rfl
theorem q2l:Tryz.prog.cellsOf 3=1:=by kernel_rfl
section
variable {H:Type} {enc:TypeId × Value→H} {W:World}
instance:Inhabited PN:=⟨⟨0,⟨#[]⟩,0,0,none,0,[],none,0,[]⟩⟩
end
def basesP:List (Int × Int):=[(192,214),(216,246),(248,767),(880,893),(895,8191),(8204,8205),(8304,8591),(11264,12271),(12289,55295),(63744,64975),(65008,65533),(65536,983039)]
def qa6:List Value:=basesP.flatMap fun x=>[.int .i32 x.1,.int .i32 x.2]
def inP (r:Int) (x:Int × Int):Bool:=decide (x.1≤r∧r≤x.2)
def letN (r:Int):Bool:=decide (97≤r∧r≤122∨65≤r∧r≤90)
def digN (r:Int):Bool:=decide (48≤r∧r≤57)
def qpo (r:Int):Bool:=letN r||basesP.any (inP r)
def qk4 (r:Int):Bool:=qpo r||decide (r=95)
def qi4 (r:Int):Bool:=qk4 r||digN r||decide (r=45∨r=183∨(768≤r∧r≤879)∨(8255≤r∧r≤8256))
def labB (r:Int):Bool:=qk4 r||digN r
theorem q2b:∀ x∈basesP,128≤x.1:=by decide
theorem qr0:∀ i (h:i<basesP.length),qa6[i*2]?=some (.int .i32 basesP[i].1)∧qa6[i*2+1]?=some (.int .i32 basesP[i].2)∧128≤basesP[i].1:=by
 intro i h;refine ⟨?_,?_,q2b _ (List.getElem_mem h)⟩
 all_goals
 have h:i<12:=h;obtain rfl|rfl|rfl|rfl|rfl|rfl|rfl|rfl|rfl|rfl|rfl|rfl:i=0∨i=1∨i=2∨i=3∨i=4∨i=5∨i=6∨i=7∨i=8∨i=9∨i=10∨i=11:=by omega
 all_goals rfl
theorem qob (s:ByteArray) (p:Nat) (hp:p≤s.size) (hs:s.size≤140737488355328) (w:World) :
  Gv Tryz.prog 216 [.string s,ii p] w fun v w'=>v=.tuple #[.int .i32 (decN (s.data.toList.drop p)).1,ii (decN (s.data.toList.drop p)).2]∧w'=w:=by
 by_cases h:p<s.size
 ·exact qta s p h hs w
 ·have e:s.data.toList.drop p=[]:=List.drop_eq_nil_of_le Ys;rw [e];refine ze Tryz.func216 Tryz.ntmps216 ?_;refine zv ?_;exact ⟨rfl,rfl⟩
theorem qg1 (r:Int) (w:World):Gv Tryz.prog 342 [.int .i32 r] w fun v w'=>v=.bool (letN r)∧w'=w:=by
 refine ze Tryz.func342 Tryz.ntmps342 ?_
 (repeat' (first|refine zp ?_|refine zC (fun _=>zw ?_) (fun _=>zw ?_)))
 all_goals (refine ⟨congrArg Value.bool ?_,rfl⟩;rw [Bool.eq_iff_iff];simp [letN];try omega)
theorem qcc (r:Int) (w:World):Gv Tryz.prog 285 [.int .i32 r] w fun v w'=>v=.bool (digN r)∧w'=w:=by
 refine ze Tryz.func285 Tryz.ntmps285 ?_;refine zC (fun _=>zu ?_) (fun _=>zu ?_)
 all_goals (refine ⟨congrArg Value.bool ?_,rfl⟩;rw [Bool.eq_iff_iff];simp [digN];try omega)
theorem q7i {w:World} {g k:Nat} {v:Value} (h:w.cell? ⟨g,0+k,none⟩=some v):w.cell? ⟨g,0+k*1,none⟩=some v:=by rwa [Nat.mul_one]
theorem q2k {w:World} {g k:Nat} {v:Value} (h:w.cell? ⟨g,0+(k+1),none⟩=some v):w.cell? ⟨g,0+(k+1)*1,none⟩=some v:=by rwa [Nat.mul_one]
theorem q2a (r:Int) (w:World) (hT:CellsAt w 4 0 qa6):Gv Tryz.prog 338 [.int .i32 r] w fun v w'=>v=.bool (qpo r)∧w'=w:=by
 have hlow:r<128→qpo r=letN r:=fun h=>by
  have:basesP.any (inP r)=false:=by
   rw [List.any_eq_false];intro x hx;obtain ⟨i,hi,rfl⟩:=List.mem_iff_getElem.1 hx;have:=(qr0 i hi).2.2;simp [inP];omega
  simp [qpo,this]
 have hhi:128≤r→qpo r=basesP.any (inP r):=fun h=>by
  have:letN r=false:=by simp [letN];omega
  simp [qpo,this]
 refine ze Tryz.func338 Tryz.ntmps338 ?_;refine zC (fun _=>zw ?_) (fun _=>zw ?_)
 ·refine zcv (qg1 r w) ?_;rintro v w1 ⟨rfl,rfl⟩;(conv=>whnf);exact ⟨by rw [hlow Oo],rfl⟩
 ·refine qm (fun i:Nat=>[(0,.int .i32 r),(3,ii (i*2:Nat))]) (fun i w1=>i≤12∧(basesP.take i).any (inP r)=false∧w1=w) (fun i=>12-i) 0 ⟨rfl,rfl,trivial⟩ ⟨by omega,rfl,rfl⟩ ?_;rintro i w1 ρ' ⟨h1,h2,rfl⟩;(conv=>whnf);refine zC (fun _=>zu ?_) (fun _=>zu ?_)
  ·have hi:i<basesP.length:=show i<12 by omega
   obtain ⟨b1,b2,_⟩:=qr0 i hi;have hany:∀ c,inP r basesP[i]=c→(basesP.take (i+1)).any (inP r)=c:=fun c hc=>by
    rw [List.take_succ_eq_append_getElem hi,List.any_append,h2,List.any_cons,hc];simp
   refine LoadV.of (q7i (hT _ _ b1)) (zw ?_);refine zC (fun _=>zu ?_) (fun _=>zu ?_)
   ·refine ⟨i*2+1,by omega,by omega,?_⟩;refine zu ?_;refine LoadV.of (q2k (hT _ _ b2)) (zw ?_);refine zt ?_;refine zC (fun _=>zu ?_) (fun _=>zu ?_)
    ·refine ⟨congrArg Value.bool ?_,rfl⟩;rw [hhi Oo];exact (List.any_eq_true.2 ⟨basesP[i],List.getElem_mem hi,by simp [inP];omega⟩).symm
    ·exact ⟨i+1,⟨rfl,congrArg (Value.int .i64) Oo,trivial⟩,⟨by omega,hany _ (by simp [inP];omega),rfl⟩,by omega⟩
   ·exact ⟨i+1,⟨rfl,congrArg (Value.int .i64) Oo,trivial⟩,⟨by omega,hany _ (by simp [inP];omega),rfl⟩,by omega⟩
  ·refine ⟨congrArg Value.bool ?_,rfl⟩;rw [hhi Oo,← h2,List.take_of_length_le (show 12≤i by omega)]
theorem qjx (r:Int) (w:World) (hT:CellsAt w 4 0 qa6):Gv Tryz.prog 284 [.int .i32 r] w fun v w'=>v=.bool (qk4 r)∧w'=w:=by
 refine ze Tryz.func284 Tryz.ntmps284 ?_;refine zcv (q2a r w hT) ?_;rintro v w1 ⟨rfl,rfl⟩;(conv=>whnf);unfold qk4;cases qpo r
 ·refine zv ?_
  all_goals (refine ⟨congrArg Value.bool ?_,rfl⟩;rw [Bool.eq_iff_iff];simp;try omega)
 ·refine zv ?_
  all_goals (refine ⟨congrArg Value.bool ?_,rfl⟩;rw [Bool.eq_iff_iff];simp;try omega)
theorem qnw (r:Int) (w:World) (hT:CellsAt w 4 0 qa6):Gv Tryz.prog 283 [.int .i32 r] w fun v w'=>v=.bool (qi4 r)∧w'=w:=by
 refine ze Tryz.func283 Tryz.ntmps283 ?_;refine zcv (qjx r w hT) ?_;rintro v w1 ⟨rfl,rfl⟩;(conv=>whnf);unfold qi4;cases qk4 r
 ·refine zv ?_;refine zcv (qcc r w1) ?_;rintro v w1 ⟨rfl,rfl⟩;(conv=>whnf);cases digN r
  ·(repeat' (first|refine zp ?_|refine zC (fun _=>zw ?_) (fun _=>zw ?_)))
   all_goals (refine ⟨congrArg Value.bool ?_,rfl⟩;rw [Bool.eq_iff_iff];simp;try omega)
  ·refine zv ?_
   all_goals (refine ⟨congrArg Value.bool ?_,rfl⟩;rw [Bool.eq_iff_iff];simp;try omega)
 ·refine zv ?_
  all_goals (refine ⟨congrArg Value.bool ?_,rfl⟩;rw [Bool.eq_iff_iff];simp;try omega)
theorem quy (r:Int) (w:World) (hT:CellsAt w 4 0 qa6):Gv Tryz.prog 215 [.int .i32 r] w fun v w'=>v=.bool (labB r)∧w'=w:=by
 refine ze Tryz.func215 Tryz.ntmps215 ?_;refine zcv (qjx r w hT) ?_;rintro v w1 ⟨rfl,rfl⟩;(conv=>whnf);unfold labB;cases qk4 r
 ·refine zv ?_;refine zcv (qcc r w1) ?_;rintro v w1 ⟨rfl,rfl⟩;(conv=>whnf);cases digN r
  ·refine zv ?_
   all_goals (refine ⟨congrArg Value.bool ?_,rfl⟩;rw [Bool.eq_iff_iff];simp;try omega)
  ·refine zv ?_
   all_goals (refine ⟨congrArg Value.bool ?_,rfl⟩;rw [Bool.eq_iff_iff];simp;try omega)
 ·refine zv ?_
  all_goals (refine ⟨congrArg Value.bool ?_,rfl⟩;rw [Bool.eq_iff_iff];simp;try omega)
def okT:Bool→List Nat→Bool
 | d,[] => !d
 | _,r::l=>(qi4 r||decide (r=46))&&okT (decide (r=46)) l
def labL:List Nat→Bool
 | []=>false
 | r::l=>labB r&&okT false l
noncomputable def qho (s:ByteArray):Bool:=match scal s.data.toList with
 | some l=>labL l
 | none=>false
theorem qtx {l:LB} (h:(decN l).2=0):scal l=none∨l=[]:=by
 cases l with
 | nil=>exact .inr rfl
 | cons a t=>exact .inl (qot Js h)
noncomputable def qka (d:Bool) (l:LB):Bool:=match scal l with
 | some l=>okT d l
 | none=>false
theorem q0l {d:Bool} {s:ByteArray} {i:Nat} (hi:i≤s.size) (h:(decN (s.data.toList.drop i)).2=0):qka d (s.data.toList.drop i)=decide (i=s.size∧d=false):=by
 rcases qtx h with h1|h1
 ·have hne:i≠s.size:=by
   intro e;rw [List.drop_eq_nil_of_le Ys] at h1;rw [scal] at h1;cases h1
  rw [qka,h1];simp [hne]
 ·have e:i=s.size:=by
   have:=congrArg List.length h1;rw [qib] at this;simp at this;omega
  rw [qka,h1,scal];cases d<;>simp [okT,e]
theorem qk1 {d:Bool} {l:LB} (h:(decN l).2≠0):qka d l=((qi4 (decN l).1||decide ((decN l).1=46))&&qka (decide ((decN l).1=46)) (l.drop (decN l).2)):=by
 have hne:l≠[]:=by rintro rfl;exact h rfl
 rw [qka,qjp hne h,qka];cases scal (l.drop (decN l).2) with
 | none=>simp
 | some t=>rfl
theorem qyv (s:ByteArray):qho s=if (decN s.data.toList).2=0 then false else labB (decN s.data.toList).1&&qka false (s.data.toList.drop (decN s.data.toList).2):=by
 split
 ·rename_i h
  rcases qtx h with h1|h1
  ·rw [qho,h1]
  ·rw [qho,h1,scal];rfl
 ·rename_i h
  have hne:s.data.toList≠[]:=by intro e;rw [e] at h;exact h rfl
  rw [qho,qjp hne h,qka];cases scal (s.data.toList.drop (decN s.data.toList).2) with
  | none=>simp
  | some t=>rfl
theorem q9s (s:ByteArray) (hs:s.size≤140737488355328) (w:World) (hT:CellsAt w 4 0 qa6) :
  Gv Tryz.prog 214 [.string s,ii 0,.func (.func 215) #[] #[]] w fun v w'=>(∃ n:Nat,v=ii n∧qho s=decide (n≠0∧n=s.size))∧w'=w:=by
 refine ze Tryz.func214 Tryz.ntmps214 ?_;refine zcv (qob s 0 (Nat.zero_le _) hs w) ?_;rw [List.drop_zero];rintro v w1 ⟨rfl,rfl⟩;have hle:=qpw s.data.toList;have hsz:s.data.toList.length=s.size:=by simp
 have hL:=qyv s;(conv=>whnf);refine zC (fun _=>zu ?_) (fun _=>zu ?_)
 ·refine ⟨⟨0,rfl,?_⟩,rfl⟩;rw [hL,if_pos Oo];rfl
 ·rw [if_neg Oo] at hL;refine zcv (quy _ w1 hT) ?_;rintro v w1 ⟨rfl,rfl⟩;cases hb:labB (decN s.data.toList).1
  ·rw [hb] at hL;refine zu ?_;refine ⟨⟨0,rfl,?_⟩,rfl⟩;rw [hL];rfl
  ·rw [hb] at hL;refine zu ?_;refine qm (fun x:Nat × Nat=>[(0,.string s),(1,ii 0),(9,ii x.2),(10,ii x.1)])
    (fun x w2=>x.1≤s.size∧x.2≤x.1∧0<x.2∧qho s=qka (decide (x.2≠x.1)) (s.data.toList.drop x.1)∧w2=w1) (fun x=>s.size-x.1) ((decN s.data.toList).2,(decN s.data.toList).2) ⟨rfl,rfl,by exact congrArg (Value.int .i64) (Int.zero_add _),by exact congrArg (Value.int .i64) (Int.zero_add _),trivial⟩ ⟨by simp only;omega,by simp,by simp only;omega,by simpa using hL,rfl⟩ ?_
   rintro ⟨i,e⟩ w2 ρ' ⟨h1,h2,h3,h4,rfl⟩;simp only at h1 h2 h3 h4;(conv=>whnf);refine zcv (qob s i h1 hs w2) ?_;rintro v w2 ⟨rfl,rfl⟩;have hle:=qpw (s.data.toList.drop i);rw [qib] at hle;conv=>whnf
   (repeat' (first|refine zp ?_|refine zC (fun _=>zw ?_) (fun _=>zw ?_)))
   ·refine ⟨⟨e,congrArg (Value.int .i64) (Int.sub_zero _),?_⟩,rfl⟩;rw [h4,q0l h1 Oo]
    by_cases he:e=i
    ·subst he;simp;omega
    ·simp [he];omega
   ·have h5:=qk1 (d:=decide (e≠i)) (l:=s.data.toList.drop i) Oo;rw [h5,decide_eq_false (show ¬ (decN (s.data.toList.drop i)).1=46 by omega),Bool.or_false,List.drop_drop] at h4;refine zcv (qnw _ w2 hT) ?_;rintro v w2 ⟨rfl,rfl⟩;cases hf:qi4 (decN (s.data.toList.drop i)).1
    ·rw [hf] at h4;refine zu ?_;refine ⟨⟨e,congrArg (Value.int .i64) (Int.sub_zero _),?_⟩,rfl⟩;rw [h4];simp;omega
    ·rw [hf] at h4;refine zu ?_
     ·exact ⟨(i+(decN (s.data.toList.drop i)).2,i+(decN (s.data.toList.drop i)).2),⟨rfl,rfl,rfl,rfl,trivial⟩,⟨by simp only;omega,Nat.le_refl _,by simp only;omega,by simpa using h4,rfl⟩,by simp only;omega⟩
   ·have h5:=qk1 (d:=decide (e≠i)) (l:=s.data.toList.drop i) Oo;rw [h5,decide_eq_true (show (decN (s.data.toList.drop i)).1=46 by omega),Bool.or_true,Bool.true_and,List.drop_drop] at h4;refine ⟨(i+(decN (s.data.toList.drop i)).2,e),⟨rfl,rfl,rfl,rfl,trivial⟩,⟨by simp only;omega,by simp only;omega,h3,?_,rfl⟩,by simp only;omega⟩;rw [h4]
    congr 1
    exact (decide_eq_true (by simp only;omega)).symm
theorem qqb (s:ByteArray) (hs:s.size≤140737488355328) (w:World) (hT:CellsAt w 4 0 qa6) :
  Gv Tryz.prog 139 [.string s,ii 0] w fun v w'=>(∃ n:Nat,v=ii n∧qho s=decide (n≠0∧n=s.size))∧w'=w:=by
 refine ze Tryz.func139 Tryz.ntmps139 ?_;refine zcv (q9s s hs w hT) ?_;rintro v w' ⟨⟨n,rfl,h⟩,rfl⟩;(conv=>whnf);exact ⟨⟨n,rfl,h⟩,rfl⟩
noncomputable def labE (s:ByteArray):Nat:=if qho s=true then 0 else 60
theorem qyw (s:ByteArray) (hs:s.size≤140737488355328) (w:World) (hT:CellsAt w 4 0 qa6) :
  Gv Tryz.prog 69 [.string s] w fun v w'=>v=ii (labE s)∧w'=w:=by
 refine ze Tryz.func69 Tryz.ntmps69 ?_;refine zcv (qqb s hs w hT) ?_;rintro v w' ⟨⟨n,rfl,h⟩,rfl⟩;(conv=>whnf);unfold labE;rw [h]
 (repeat' (first|refine zp ?_|refine zC (fun _=>zw ?_) (fun _=>zw ?_)))
 ·rw [if_neg Ys];exact ⟨rfl,rfl⟩
 ·rw [if_neg Ys];exact ⟨rfl,rfl⟩
 ·rw [if_pos Ys];exact ⟨rfl,rfl⟩
namespace V
theorem Rw.setCell {w0 w w':World} {v:Value} {e:TypeId} {size n:Nat} {xs:List Value} {L:List (Nat × Obj)} (h:Rw w0 w v e size n xs L) {i b off:Nat} {x:Value} {cs:Array Value} {t:TypeId} {fr:Nat × Nat}
  (hi:L[i]?=some (b,.cells cs t fr)) (hw:w'=w.setCell ⟨b,off,none⟩ x):Rw w0 w' v e size n xs (L.set i (b,.cells (cs.setIfInBounds off x) t fr)):=by
 have hm:=h.mem.setCell hi hw;have hb:v.ownBlock≠some b:=h.apart _ (zmg hi);refine ⟨hm,?_,fun y hy=>?_⟩
 ·subst hw;refine h.own.kept (row:=some b) ⟨rfl,rfl,rfl,by simp [World.setCell],fun k _ hk=>Below.heap_setCell _ _ _ _ (fun e=>hk (by simp [e]))⟩ ?_;exact Or.inr hb
 ·rcases List.mem_or_eq_of_mem_set hy with hy|rfl
  ·exact h.apart y hy
  ·exact hb
def qrv (e:TypeId) (L:List (Nat × Obj)):Prop:=∀ x∈L,∀ c fz,x.2≠.cells c e fz
theorem AppV.rwS {P:Program} {w0 w:World} {v:Value} {e:TypeId} {n:Nat} {xs:List Value} {L:List (Nat × Obj)} {t u ty:TypeId} {i:TypeInfo} {s:ByteArray} {K:Value→World→Prop}
  (ht:P.underlying t=some (.slice e)) (hu:P.underlying u=some .string) (hi:P.info? e=some i) (hz:i.zero=some (.int .u8 0)) (hsize:i.size=1) (hby:i.bytes=1)
  (h:Rw w0 w v e 1 n xs L) (hL:qrv e L) (hb:n+s.size≤140737488355328)
  (hk:∀ v' w',Rw w0 w' v' e 1 (n+s.size) (xs++byteCells s.data.toList) L→K v' w'):AppV P #[t,u] ty v (.string s) w K:=by
 obtain ⟨v',w',hrun,h2,h3,_⟩:=Lib.run_append_own_string (P:=P) w w0.heap.size t u ty e i ht hu hi hz hsize hby v n xs h.own s (by simp only [maxLen];omega) hb h.mem.ext.size;have hm:=h.grown h3 (fun k hk=>⟨(h.own.lt k hk).1,fun x hx e=>h.apart x hx (by rw [hk,e])⟩);refine ⟨v',w',hrun,hk _ _ ⟨hm,h2,fun x hx he=>?_⟩⟩;have hx':=hm.get hx
 rcases h2.2 with ⟨rfl,_⟩|⟨g,cap,cur,rfl,_,hg,_⟩
 ·cases he
 ·cases he;rw [hx'] at hg;exact hL x hx _ _ (Option.some.inj hg)
theorem Fall.conv {P:Program} {ρ:Nat→Value} {o:Oper} {src dst:TypeId} {x:Operand} {u:Value} {w:World} {K:Value→World→Prop} (ho:o.op=.convert src dst x)
  (hr:(convert src dst (ev ρ x)).run P w=.ok u w) (hk:K u w):Fall P (execOp (ev ρ) o) w K:=by
 refine ⟨.inl ⟨u,w,?_,hk⟩⟩;simp [execOp,ho,hr]
theorem RunV.neqSame {P:Program} {t te:TypeId} {xo yo:Operand} {j:TypeInfo} {w:World} {K:Value→World→Prop} (a:Addr) (hp:P.underlying t=some (.pointer te)) (hte:P.info? te=some j) (hk:K (.bool false) w) :
  RunV P (do eqGuard .neq t xo yo (.pointer (some a)) (.pointer (some a));binOp .neq t (.pointer (some a)) (.pointer (some a))) w K:=by
 refine ⟨.bool false,w,?_,hk⟩;simp [eqGuard,Lib.run_neq_ptr_same w a hp hte]
def BldB (b:Nat) (p v:Value):Nat × Obj:=(b,.cells #[p,v] 472)
structure Bld (w0 w:World) (b:Nat) (l:LB) (L:List (Nat × Obj)):Prop where
 h:∃ p v,(p=.pointer none∨p=pp b)∧Rw w0 w v 5 1 l.length (byteCells l) (BldB b p v::L)
end V
theorem qlo (b:Nat) (p v:Value) (w0 w:World) (L:List (Nat × Obj)) (hp:p=.pointer none∨p=pp b) (h:Mem w0 w (BldB b p v::L)) :
  Gv Tryz.prog 385 [pp b] w fun r w'=>r=.tuple #[]∧((p=pp b∧w'=w)∨w'=w.setCell ⟨b,0,none⟩ (pp b)):=by
 have hc:w.cell? ⟨b,0,none⟩=some p:=by rw [qa (h.get mh)];rfl
 have hsh:w.shape? b=some (472,2):=by simp [World.shape?,h.get mh]
 rcases hp with rfl|rfl
 ·refine ze Tryz.func385 Tryz.ntmps385 ?_;refine LoadV.of hc (zu ?_);refine Fall.conv rfl (Lib.run_to_unsafe (t:=472) (e:=472) (cells:=2) _ _ Tryz.underlying470 Tryz.underlying207 (j:=_) (Option.some_get Jk).symm (by decide +kernel) hsh (Nat.zero_lt_succ 1)) (zw ?_);refine ⟨.inr ⟨pp b,w,by rw [run_callFunc_extern Tryz.func392 Jk Jk Jk (e:=Extern.AbiNoEscape.same) Jk];rfl,?_⟩⟩;(conv=>whnf);refine Fall.conv rfl (Lib.run_from_unsafe (u:=472) (e:=472) (cells:=2) _ _ Tryz.underlying207 Tryz.underlying470 (j:=_) (Option.some_get Jk).symm hsh Jk) ?_;refine StoreV.own (h.get mh) (Nat.zero_lt_succ 1) rfl fun w' hw=>?_;(conv=>whnf);exact ⟨rfl,.inr hw⟩
 ·refine ze Tryz.func385 Tryz.ntmps385 ?_;refine LoadV.of hc (zw ?_);refine zt ?_;refine LoadV.mem (i:=0) Oa rfl rfl (zw ?_);refine RunV.neqSame _ Tryz.underlying470 (j:=_) rfl (zu ?_);exact ⟨rfl,.inl ⟨rfl,rfl⟩⟩
theorem qgo (a b:LB):byteCells (a++b)=byteCells a++byteCells b:=by simp [byteCells]
theorem qgp (a:LB):(byteCells a).length=a.length:=by simp [byteCells]
theorem qez {P:Program} {f:FuncId} {vs:List Value} {w:World} {R:Value→World→Prop} (he:qcm P f=true) (h:Calls P f vs.toArray w fun e w'=>∃ v,e=.returned v∧R v w'):Gv P f vs w R:=⟨he,h⟩
theorem qu6 {b:Nat} {p v:Value} {L:List (Nat × Obj)} (hL:qrv 5 L):qrv 5 (BldB b p v::L):=by
 intro x hx c fz
 rcases List.mem_cons.1 hx with rfl|hx
 ·intro e;cases e
 ·exact hL x hx c fz
theorem qcu (b:Nat) (l:LB) (s:ByteArray) (w0 w:World) (L:List (Nat × Obj)) (h:Bld w0 w b l L) (hL:qrv 5 L) (hs:l.length+s.size≤140737488355328) :
  Gv Tryz.prog 367 [pp b,.string s] w fun r w'=>r=.tuple #[ii s.size,.nilIface]∧Bld w0 w' b (l++s.data.toList) L:=by
 obtain ⟨p,v,hp,hR⟩:=h;have hcc:=qlo b p v w0 w L hp hR.mem;obtain ⟨A,c,rfl⟩:=hR.slice;refine ze Tryz.func367 Tryz.ntmps367 ?_;refine zcv (hcc) ?_;rintro r w1 ⟨rfl,hw⟩;have hR1:Rw w0 w1 (.slice A l.length c) 5 1 l.length (byteCells l) (BldB b (pp b) (.slice A l.length c)::L):=by
  rcases hw with ⟨rfl,rfl⟩|hw
  ·exact hR
  ·exact hR.setCell (i:=0) rfl hw
 refine LoadV.own (hR1.mem.get mh) rfl (zw ?_);refine AppV.rwS (i:=_) Tryz.underlying32 Tryz.underlying9 (Option.some_get Jk).symm Jk Jk Jk hR1 (qu6 hL) hs fun v' w2 hR2=>?_;obtain ⟨A',c',rfl⟩:=hR2.slice;refine StoreV.own (hR2.mem.get mh) (Nat.lt_succ_self 1) rfl fun w3 hw=>?_;have hR3:=hR2.setCell (i:=0) rfl hw;(conv=>whnf);refine ⟨rfl,⟨⟨pp b,.slice A' (l.length+s.size) c',.inr rfl,?_⟩⟩⟩;have e:(l++s.data.toList).length=l.length+s.size:=by simp
 rw [e,qgo];exact hR3
theorem qgn (b:Nat) (l:LB) (w0 w:World) (L:List (Nat × Obj)) (h:Bld w0 w b l L) :
  Gv Tryz.prog 369 [pp b] w fun r w'=>r=.string ⟨l.toArray⟩∧Ext w0 w':=by
 obtain ⟨p,v,hp,hR⟩:=h;have hb:=hR.mem.own _ mh;have key:Lib.BuilderAt 472 5 w0.heap.size b p (Lib.byteCells l) w:=by
  refine ⟨hb.1,v,hb.2,?_,hR.apart _ mh⟩;have:=hR.own;rw [← qgp l] at this;exact this
 refine qez Jk ((Tryz.Builder_String_any w0.heap.size b l w ?_ hR.mem.ext.size).mono ?_)
 ·rcases hp with rfl|rfl
  ·exact .inl key
  ·exact .inr key
 ·rintro e w' ⟨rfl,hB⟩;exact ⟨_,rfl,rfl,Below.trans hR.mem.ext hB⟩
namespace V
theorem NewV.rw {w0 w:World} {v:Value} {e:TypeId} {size n:Nat} {xs:List Value} {L:List (Nat × Obj)} {o:Obj} {K:Nat→World→Prop} (h:Rw w0 w v e size n xs L) (hk:∀ b w',Rw w0 w' v e size n xs ((b,o)::L)→K b w'):NewV w o K:=
 ⟨fun b w' hb hw=>hk b w' (h.newBlk hb hw)⟩
theorem Bld.ext {w0 w:World} {b:Nat} {l:LB} {L:List (Nat × Obj)} (h:Bld w0 w b l L):Ext w0 w:=by
 obtain ⟨⟨p,v,hp,hR⟩⟩:=h;exact hR.mem.ext
end V
def alnB (pure:Bool) (c:UInt8):Bool:=letN c.toNat||(!pure&&digN c.toNat)
def qar (s:ByteArray) (lo hi:Nat) (pure:Bool):Bool:=s.data.toList.all (alnB pure)&&decide (lo≤s.size∧s.size≤hi)
theorem qc1 (s:ByteArray) (lo hi:Nat) (pure:Bool) (_:s.size≤140737488355328) (w:World) :
  Gv Tryz.prog 291 [.string s,ii lo,ii hi,.bool pure] w fun v w'=>v=.bool (qar s lo hi pure)∧Ext w w':=by
 refine ze Tryz.func291 Tryz.ntmps291 ?_;refine znm (Mem.nil w) fun b w1 hm=>zw ?_;refine qm (fun pos:Nat=>[(0,.string s),(1,ii lo),(2,ii hi),(3,.bool pure),(12,pp b)])
  (fun pos w2=>pos≤s.size∧Mem w w2 [(b,.stringIter s pos)]∧s.data.toList.all (alnB pure)=(s.data.toList.drop pos).all (alnB pure)) (fun pos=>s.size-pos) 0 ⟨rfl,rfl,rfl,rfl,rfl,trivial⟩ (by grind) ?_
 rintro pos w2 ρ' ⟨hp,hm,ha⟩;(conv=>whnf);refine NextS.mem hm (i:=0) rfl ?_ ?_
 ·intro hlt w3 hm3;have hno:alnB pure (gb s pos)=false→qar s lo hi pure=false:=(by grind [qar,qcy])
  have hyes:alnB pure (gb s pos)=true→s.data.toList.all (alnB pure)=(s.data.toList.drop (pos+1)).all (alnB pure):=(by grind [qcy])
  by_cases hb:(gb s pos).toNat<128
  ·have hd:=qgt s pos hb;rw [hd] at hm3 ⊢;simp only at hm3 ⊢;refine zu ?_;refine zcv (qg1 _ w3) ?_;rintro v w4 ⟨rfl,rfl⟩;cases hl:letN (gb s pos).toNat
   ·cases pure
    ·refine zu ?_;refine zcv (qcc _ w4) ?_;rintro v w5 ⟨rfl,rfl⟩;cases hg:digN (gb s pos).toNat
     ·have hx:alnB false (gb s pos)=false:=by grind [alnB]
      refine zu ?_;exact ⟨by rw [hno hx],hm3.ext⟩
     ·have hx:alnB false (gb s pos)=true:=by grind [alnB]
      refine zu ?_;exact ⟨pos+1,⟨rfl,rfl,rfl,rfl,rfl,trivial⟩,(by grind),by omega⟩
    ·have hx:alnB true (gb s pos)=false:=by rw [alnB,hl];rfl
     refine zu ?_;exact ⟨by rw [hno hx],hm3.ext⟩
   ·have hx:alnB pure (gb s pos)=true:=by rw [alnB,hl];rfl
    refine zu ?_;exact ⟨pos+1,⟨rfl,rfl,rfl,rfl,rfl,trivial⟩,(by grind),by omega⟩
  ·have hd:=qiy s pos hlt Oo;obtain ⟨d1,d2,d3,d4,d5⟩:=hd;have hl:letN (Utf8.decode s pos).1=false:=by simp [letN];omega
   have hg:digN (Utf8.decode s pos).1=false:=by simp [digN];omega
   have hx:alnB pure (gb s pos)=false:=by
    simp [alnB,letN,digN];omega
   refine zu ?_;refine zcv (qg1 _ w3) ?_;rintro v w4 ⟨rfl,rfl⟩;rw [hl];cases pure
   ·refine zu ?_;refine zcv (qcc _ w4) ?_;rintro v w5 ⟨rfl,rfl⟩;rw [hg];refine zu ?_;exact ⟨by rw [hno hx],hm3.ext⟩
   ·refine zu ?_;exact ⟨by rw [hno hx],hm3.ext⟩
 ·intro hge;rw [List.drop_eq_nil_of_le Ys] at ha;have hM:qar s lo hi pure=decide (lo≤s.size∧s.size≤hi):=by rw [qar,ha];rfl
  (conv=>whnf);refine zt ?_;refine zC (fun _=>zu ?_) (fun _=>zu ?_)
  ·exact ⟨(by grind),hm.ext⟩
  ·exact ⟨(by grind),hm.ext⟩
def qmm (s:ByteArray):Bool:=decide (s=⟨#[120]⟩∨s=⟨#[88]⟩)
theorem qacu {a b:ByteArray} (h:a≠b):seq a b=false:=(by grind [qa9])
theorem qfe (s:ByteArray) (w:World):Gv Tryz.prog 219 [.string s] w fun v w'=>v=.bool (qmm s)∧w'=w:=by
 refine ze Tryz.func219 Tryz.ntmps219 ?_
 by_cases h:s=⟨#[120]⟩
 ·refine Tst.yes (qa9.2 h) (zu ?_);exact ⟨congrArg Value.bool (decide_eq_true (.inl h)).symm,rfl⟩
 ·refine Tst.no (qacu h) (zu ?_)
  grind [qa9,qmm]
theorem quf (c:UInt8):IntKind.i32.wrap (c.toNat:Int)=(c.toNat:Int):=by
 have:=c.toNat_lt
 grind [IntKind.wrap,IntKind.bits]
def varB (s:ByteArray):Bool:=qar s 5 8 false||(qar s 4 4 false&&digN (gb s 0).toNat)
def regB (s:ByteArray):Bool:=qar s 2 2 true||(decide (s.size=3)&&digN (gb s 0).toNat&&digN (gb s 1).toNat&&digN (gb s 2).toNat)
theorem qro (s:ByteArray) (hs:s.size≤140737488355328) (w:World):Gv Tryz.prog 295 [.string s] w fun v w'=>v=.bool (varB s)∧Ext w w':=by
 have h1:=fun w=>qc1 s 5 8 false hs w
 have h2:=fun w=>qc1 s 4 4 false hs w
 refine ze Tryz.func295 Tryz.ntmps295 ?_;refine zcv (h1 w) ?_;rintro v w1 ⟨rfl,he1⟩;cases m1:qar s 5 8 false
 ·refine zu ?_;refine zcv (h2 w1) ?_;rintro v w2 ⟨rfl,he2⟩;cases m2:qar s 4 4 false
  ·refine zu ?_;exact ⟨by grind [varB],he1.trans he2⟩
  ·have hsz:s.size=4:=by
    grind [qar]
   refine zu ?_;refine ⟨0,rfl,by omega,?_⟩;refine zu ?_;refine ⟨((gb s 0).toNat:Int),quf _,?_⟩;refine zu ?_;refine zcv (qcc _ w2) ?_;rintro v w3 ⟨rfl,rfl⟩;refine zu ?_;exact ⟨by grind [varB],he1.trans he2⟩
 ·refine zu ?_
  grind [varB]
theorem qvr (s:ByteArray) (hs:s.size≤140737488355328) (w:World):Gv Tryz.prog 294 [.string s] w fun v w'=>v=.bool (regB s)∧Ext w w':=by
 have h1:=fun w=>qc1 s 2 2 true hs w
 refine ze Tryz.func294 Tryz.ntmps294 ?_;refine zcv (h1 w) ?_;rintro v w1 ⟨rfl,he1⟩;cases m1:qar s 2 2 true
 ·(conv=>whnf);refine zt ?_;refine zC (fun _=>zu ?_) (fun _=>zu ?_)
  ·refine ⟨0,rfl,by omega,?_⟩;refine zu ?_;refine ⟨((gb s 0).toNat:Int),quf _,?_⟩;refine zu ?_;refine zcv (qcc _ w1) ?_;rintro v w2 ⟨rfl,rfl⟩;have h3:decide (s.size=3)=true:=(by grind)
   cases d0:digN (gb s 0).toNat
   ·refine zu ?_
    grind [regB]
   ·refine zu ?_;refine ⟨1,rfl,by omega,?_⟩;refine zu ?_;refine ⟨((gb s 1).toNat:Int),quf _,?_⟩;refine zu ?_;refine zcv (qcc _ w2) ?_;rintro v w3 ⟨rfl,rfl⟩;cases d1:digN (gb s 1).toNat
    ·refine zu ?_
     grind [regB]
    ·refine zu ?_;refine ⟨2,rfl,by omega,?_⟩;refine zu ?_;refine ⟨((gb s 2).toNat:Int),quf _,?_⟩;refine zu ?_;refine zcv (qcc _ w3) ?_;rintro v w4 ⟨rfl,rfl⟩;refine zu ?_
     grind [regB]
  grind [regB]
 ·refine zu ?_
  grind [regB]
def lowB (c:UInt8):UInt8:=if 65≤c.toNat∧c.toNat≤90 then c+32 else c
def lowS (s:ByteArray):ByteArray:=⟨(s.data.toList.map lowB).toArray⟩
def qdx (l:LB) (i:Nat) (z:List Value):Array Value:=(byteCells ((l.take i).map lowB++l.drop i)++z).toArray
theorem qzc {l:LB} {i:Nat} {z:List Value} (h:i<l.length):(qdx l i z)[i]?=some (.int .u8 l[i].toNat):=by
 unfold qdx byteCells;rw [List.getElem?_toArray,List.getElem?_append_left Ys,List.getElem?_map,List.getElem?_append_right Ys];simp [Nat.min_eq_left (Nat.le_of_lt h),h]
theorem qu3 (l:LB) (i:Nat) (z:List Value) (h:i≤l.length):(qdx l i z).size=l.length+z.length:=by
 simp [qdx,byteCells];omega
theorem qzd {l:LB} {i:Nat} {z:List Value} (h:i<l.length):(qdx l i z).setIfInBounds i (.int .u8 (lowB l[i]).toNat)=qdx l (i+1) z:=by
 have e:byteCells ((l.take (i+1)).map lowB++l.drop (i+1))++z=byteCells ((l.take i).map lowB)++(.int .u8 (lowB l[i]).toNat::(byteCells (l.drop (i+1))++z)):=by
  rw [List.take_succ_eq_append_getElem h];simp only [byteCells,List.map_append,List.map_cons,List.map_nil,List.append_assoc,List.cons_append,List.nil_append]
 have e2:byteCells ((l.take i).map lowB++l.drop i)++z=byteCells ((l.take i).map lowB)++(.int .u8 l[i].toNat::(byteCells (l.drop (i+1))++z)):=by
  rw [List.drop_eq_getElem_cons h];simp only [byteCells,List.map_append,List.map_cons,List.append_assoc,List.cons_append]
 unfold qdx;rw [e,e2,List.setIfInBounds_toArray]
 congr 1
 have hl:(byteCells ((l.take i).map lowB)).length=i:=by simp [byteCells];omega
 rw [List.set_append_right _ _ Oo,hl,Nat.sub_self];rfl
theorem qu2 {l:LB} {i:Nat} {z:List Value} (h:i<l.length) (hs:lowB l[i]=l[i]):qdx l i z=qdx l (i+1) z:=by
 unfold qdx;rw [List.take_succ_eq_append_getElem h,List.drop_eq_getElem_cons h];simp only [byteCells,List.map_append,List.map_cons,List.map_nil,List.append_assoc,List.cons_append,List.nil_append,hs]
theorem q3n (c:UInt8) (h:65≤c.toNat∧c.toNat≤90):((lowB c).toNat:Int)=(c.toNat:Int)+32:=by
 rw [lowB,if_pos h,UInt8.toNat_add];have:(32:UInt8).toNat=32:=rfl;omega
theorem q8a (c:UInt8) (h:¬ (65≤c.toNat∧c.toNat≤90)):lowB c=c:=by rw [lowB,if_neg h]
theorem V.StoreV.memF {w0 w:World} {L:List (Nat × Obj)} {i b off m:Nat} {cs:Array Value} {t:TypeId} {v:Value} {K:World→Prop} (h:Mem w0 w L) (hi:L[i]?=some (b,.cells cs t (m,m+1)))
  (ho:off<cs.size) (hom:off<m) (h1:qb6 v=true) (hk:∀ w',Mem w0 w' (L.set i (b,.cells (cs.setIfInBounds off v) t (m,m+1)))→K w'):StoreV w b off v K:=by
 have hg:=h.get (zmg hi);refine ⟨⟨cs[off],?_⟩,?_,h1,hk _ (h.setCell hi rfl)⟩
 ·rw [qa hg];exact Array.getElem?_eq_getElem ho
 ·simp [World.frozen?,hg];omega
theorem qzb (w:World) {w0:World} {s:ByteArray} {b m:Nat} {z:List Value} {t:TypeId} {L:List (Nat × Obj)} {K:Value→Prop} (hm:Mem w0 w ((b,.cells (qdx s.data.toList s.size z) t (m,m+1))::L)) (hk:K (.string (lowS s))):BytesS w (some ⟨b,0,none⟩) s.size K:=by
 refine ⟨s.data.toList.map lowB,by simp,fun _=>⟨b,0,rfl,fun k v hv=>?_⟩,hk⟩;rw [qa (hm.get mh),Nat.zero_add];have e:(qdx s.data.toList s.size z)=(byteCells (s.data.toList.map lowB)++z).toArray:=by
  unfold qdx;rw [List.take_of_length_le Js,List.drop_eq_nil_of_le Js,List.append_nil]
 rw [e,List.getElem?_toArray,List.getElem?_append_left (List.getElem?_eq_some_iff.1 hv).1];exact hv
theorem qd3 (s:ByteArray) (hs:s.size≤140737488355328) (w:World):Gv Tryz.prog 142 [.string s] w fun v w'=>v=.string (lowS s)∧Ext w w':=by
 have hsz:s.data.toList.length=s.size:=by simp
 refine ze Tryz.func142 Tryz.ntmps142 ?_;refine ⟨fun cap cs b w1 hcap hcs hb hw1=>?_⟩;obtain ⟨z,hz⟩:∃ z,z=List.replicate (cap-s.size) (Value.int .u8 0):=⟨_,rfl⟩
 obtain ⟨m,hmm⟩:∃ m,m=cs.size:=⟨_,rfl⟩
 have hms:s.size≤m:=by rw [hmm,hcs];simp [byteCells]
 have hm:Mem w w1 [(b,.cells (qdx s.data.toList 0 z) 5 (m,m+1))]:=by
  rw [hmm];have e:qdx s.data.toList 0 z=cs:=by rw [hcs,hz];simp [qdx]
  rw [e];exact (Mem.nil w).drew.new hb hw1
 clear hcs hb hw1 hmm hz;(conv=>whnf);refine qm (fun i:Nat=>[(3,.slice (some ⟨b,0,none⟩) s.size cap),(8,.slice (some ⟨b,0,none⟩) s.size cap),(9,ii s.size),(10,ii i)]) (fun i w2=>i≤s.size∧Mem w w2 [(b,.cells (qdx s.data.toList i z) 5 (m,m+1))]) (fun i=>s.size-i) 0 ⟨rfl,rfl,rfl,rfl,trivial⟩ ⟨by omega,hm⟩ ?_;rintro i w2 ρ' ⟨h1,hm⟩;(conv=>whnf);refine zC (fun _=>zw ?_) (fun _=>zw ?_)
 ·have hi:i<s.data.toList.length:=by omega
  refine ElemV.own1 i rfl Oo (zw ?_);refine LoadV.mem hm (i:=0) rfl (qzc hi) (zw ?_)
  (repeat' (first|refine zp ?_|refine zC (fun _=>zw ?_) (fun _=>zw ?_)))
  ·refine ElemV.own1 i rfl Oo (zw ?_);refine StoreV.memF (v:=.int .u8 ((s.data.toList[i].toNat:Int)+32)) hm (i:=0) rfl (by rw [qu3 _ _ _ Oo];omega) Oo rfl ?_;intro w3 hm3;replace hm3:Mem w w3 [(b,.cells ((qdx s.data.toList i z).setIfInBounds i (.int .u8 ((s.data.toList[i].toNat:Int)+32))) 5 (m,m+1))]:=hm3;rw [← q3n _ ⟨by omega,by omega⟩,qzd hi] at hm3;refine zu ?_;exact ⟨i+1,⟨rfl,rfl,rfl,rfl,trivial⟩,⟨by omega,hm3⟩,by omega⟩
  all_goals
   rw [qu2 hi (q8a _ Oo)] at hm;exact ⟨i+1,⟨rfl,rfl,rfl,rfl,trivial⟩,⟨by omega,hm⟩,by omega⟩
 ·refine qzb w2 (by rw [show i=s.size by omega] at hm;exact hm) (zw ?_);exact ⟨rfl,hm.ext⟩
def bs (l:LB):ByteArray:=⟨l.toArray⟩
namespace V
theorem Rw.tail {w0 w:World} {v:Value} {e:TypeId} {size n:Nat} {xs:List Value} {x:Nat × Obj} {L:List (Nat × Obj)} (h:Rw w0 w v e size n xs (x::L)):Rw w0 w v e size n xs L:=
 ⟨h.mem.sub (List.sublist_cons_self ..),h.own,fun y hy=>h.apart y (zmc hy)⟩
end V
theorem V.Rw.cells {w0 w:World} {A:oA} {c n:Nat} {e:TypeId} {xs:List Value} {L:List (Nat × Obj)} (h:Rw w0 w (.slice A n c) e 1 n xs L) (hn:0<n) :
  ∃ g,A=some ⟨g,0,none⟩∧w0.heap.size≤g∧g<w.heap.size∧n≤c∧CellsAt w g 0 xs:=by
 rcases h.own.2 with ⟨e1,e2⟩|⟨g,cap,cur,e1,hg0,hg,hnc,_,hcs,htk⟩
 ·omega
 ·cases e1;refine ⟨g,rfl,hg0,?_,hnc,fun k v hv=>?_⟩
  ·rcases Nat.lt_or_ge g w.heap.size with h' | h'
   ·exact h'
   ·rw [Array.getElem?_eq_none h'] at hg;cases hg
  ·rw [qa hg,Nat.zero_add];rw [← htk,List.getElem?_take] at hv
   split at hv
   ·simpa using hv
   ·cases hv
theorem bsz (a b:ByteArray):(a++b).size=a.size+b.size:=ByteArray.size_append
namespace V
theorem qb2 {w:World} {g:Nat} {o:Obj} (h:w.heap[g]?=some o):g<w.heap.size:=by
 grind
theorem PostO.still {w w':World} {B:List (Option Nat)} {v c:Value} (he:Ext w w') (h:v=c):PostO w B true (fun u _=>u=c) v w':=⟨Chg.ext he,h,fun h=>by cases h⟩
theorem AppV.own {P:Program} {base e size:Nat} {w:World} {v:Value} {n:Nat} {xs:List Value} {t ty:TypeId} {i:TypeInfo} {z:Value} {A:oA} {m c:Nat} {news:List Value} {K:Value→World→Prop} (ht:P.underlying t=some (.slice e)) (hi:P.info? e=some i) (hz:i.zero=some z)
  (hsize:i.size=size) (hzs:z.cells.size=size) (hsz:0<size) (h:w.ownsRow base e size v n xs) (hbw:base≤w.heap.size) (hl:news.length=m*size)
  (hA:news≠[]→∃ b off,A=some ⟨b,off,none⟩∧CellsAt w b off news) (h1:∀ u∈news,u.oneCell'=true) (hb:(n+m)*i.bytes≤140737488355328) (h63:n+m≤140737488355328)
  (hk:∀ v' w',w'.ownsRow base e size v' (n+m) (xs++news)→w.grownBy w' v.ownBlock→(v'.ownBlock=v.ownBlock∨v'.ownBlock=some w.heap.size)→K v' w'):AppV P #[t,t] ty v (.slice A m c) w K:=by
 cases A with
 | none=>
  have hn:news=[]:=by
   simp_all
  subst hn;have hm:m=0:=by
   grind [Nat.mul_eq_zero]
  subst hm;refine ⟨v,w,?_,hk v w (by simpa using h) ⟨rfl,rfl,rfl,Nat.le_refl _,fun _ _ _=>rfl⟩ (.inl rfl)⟩
  rcases h.2 with ⟨e1,e2⟩|⟨g,cap,cur,e1,_,_,hnc,_⟩
  ·subst e1;simp [Builtin.append_,run_underlying ht,sizeOf,typeInfo,hi,Builtin.lenOf,Builtin.firstCells]
  ·subst e1;simp [Builtin.append_,run_underlying ht,sizeOf,typeInfo,hi,Builtin.lenOf,Builtin.firstCells,hnc,storeCells]
 | some a=>
  have hcells:∀ j u,news[j]?=some u→w.cell? (a.add j)=some u:=by
   intro j u hu;obtain ⟨b,off,h0,h1⟩:=hA (by grind);cases h0;rw [q7];exact h1 j u hu
  obtain ⟨v',w',hrun,h2,h3,_,h5⟩:=run_append_own_at (P:=P) w base t ty e i z size i.bytes ht hi hz hsize rfl hzs hsz v n xs h a m c news hl hcells h1 (by grind [maxLen]) hb hbw;exact ⟨v',w',hrun,(by grind)⟩
end V
def rdC (A:oA) (n c:Nat) (t:List Value):Obj:=.cells (Value.slice A n c::t).toArray 358
def seeB (p:ByteArray→Bool):List ByteArray→Bool
 | []=>false
 | x::_=>p x
theorem qil (rb g:Nat) (cap:List Value) (p:ByteArray→Bool) (rest:List ByteArray) (A:oA) (c:Nat) (t:List Value) (w:World) (hb:w.heap[rb]?=some (rdC A rest.length c t)) (hS:SlAt zeS 1 w A rest)
  (hp:∀ x xs w1,rest=x::xs→Ext w w1→Gv Tryz.prog g (.string x::cap) w1 fun v w2=>v=.bool (p x)∧Ext w1 w2) :
  Gv Tryz.prog 218 [pp rb,.func (.func g) #[] cap.toArray] w fun v w'=>v=.bool (seeB p rest)∧Ext w w':=by
 have h0:∀ w',Ext w w'→w'.cell? ⟨rb,0,none⟩=some (.slice A rest.length c):=fun w' he=>he.cell (by rw [qa hb];rfl)
 refine ze Tryz.func218 Tryz.ntmps218 ?_;refine LoadV.of (h0 w (Ext.refl w)) ?_;cases rest with
 | nil=>
  simp only [List.length_nil];refine zu ?_;exact ⟨rfl,Ext.refl w⟩
 | cons x xs=>
  simp only [List.length_cons] at h0 ⊢;refine zu ?_;refine LoadV.of (h0 w (Ext.refl w)) (zu ?_);refine ElemV.sl hS rfl 0 rfl Js ?_;intro b off hc;refine zu ?_;refine LoadV.cell0 hc (zu ?_);have hp':=hp x xs w rfl (Ext.refl w);cases cap with
  | nil=>
   (conv=>whnf);refine zcv (hp') ?_;rintro v w2 ⟨rfl,he⟩;refine zu ?_;exact ⟨rfl,he⟩
  | cons y ys=>
   (conv=>whnf);refine zcv (hp') ?_;rintro v w2 ⟨rfl,he⟩;refine zu ?_;exact ⟨rfl,he⟩
theorem V.SliceV.tail {w:World} {A:oA} {x:ByteArray} {xs:List ByteArray} {n c:Nat} {k:IntKind} {K:Value→Prop} (hS:SlAt zeS 1 w A (x::xs)) (hn:n=xs.length+1) (hc:n≤c)
  (hk:∀ A' c',SlAt zeS 1 w A' xs→xs.length≤c'→K (.slice A' xs.length c')):SliceV 1 A n c (some (.int k 1)) none none K:=by
 subst hn;refine ⟨1,xs.length+1,c,rfl,rfl,rfl,by omega,by omega,by omega,fun h=>by simp at h,fun A' hA'=>?_⟩;obtain ⟨b,off,rfl,h2⟩:=hS.at_ Js;have hk:=hk A' (c-1) ⟨fun hne=>?_⟩ Oo
 ·simpa using hk
 ·have hpos:0<xs.length:=List.length_pos_iff.2 hne;rw [if_neg Oo] at hA';refine ⟨b,off+1,?_,fun j y hy=>?_⟩
  ·rw [hA'];show some ((⟨b,off,none⟩:Addr).add (1*1))=_;rw [q7]
  ·have:=h2 (j+1) y (by simpa using hy);rw [show off+1+j*1=off+(j+1)*1 by omega];exact this
theorem qd6 (rb i:Nat) (x:ByteArray) (xs:List ByteArray) (A:oA) (c:Nat) (t:List Value) (w0 w:World) (L:List (Nat × Obj)) (hm:Mem w0 w L) (hi:L[i]?=some (rb,rdC A (xs.length+1) c t)) (hS:SlAt zeS 1 w0 A (x::xs)) (hc:xs.length+1≤c) :
  Gv Tryz.prog 222 [pp rb] w fun v w'=>v=.string x∧∃ A' c',SlAt zeS 1 w0 A' xs∧xs.length≤c'∧Mem w0 w' (L.set i (rb,rdC A' xs.length c' t)):=by
 have hb:=hm.get (zmg hi);refine ze Tryz.func222 Tryz.ntmps222 ?_;refine LoadV.of (v:=.slice A (xs.length+1) c) (by rw [rdC] at hb;rw [qa hb];rfl) ?_;refine ElemV.sl (hS.ext hm.ext) rfl 0 rfl Js ?_;intro b off hcl;refine LoadV.cell0 hcl ?_;refine LoadV.of (v:=.slice A (xs.length+1) c) (by rw [rdC] at hb;rw [qa hb];rfl) ?_;refine V.SliceV.tail hS rfl hc ?_;intro A' c' hS' hc';refine StoreV.mem hm hi (show 0<t.length+1 by omega) rfl fun w2 hm2=>zw ?_;exact ⟨rfl,A',c',hS',hc',hm2⟩
theorem q1a (x:ByteArray) (lb least:Nat) (hs:x.size≤140737488355328) (w:World) (hl:w.cell? ⟨lb,0,none⟩=some (ii least)) :
  Gv Tryz.prog 298 [.string x,pp lb] w fun v w'=>v=.bool (qar x least 8 false)∧Ext w w':=by
 have h1:=qc1 x least 8 false hs w;refine ze Tryz.func298 Tryz.ntmps298 ?_;refine LoadV.of hl (zw ?_);refine zcv (h1) ?_;rintro v w' ⟨rfl,he⟩;(conv=>whnf);exact ⟨rfl,he⟩
theorem q91 {α:Type} {L:List α} {i:Nat} {a:α} (h:L[i]?=some a):L.set i a=L:=by
 apply List.ext_getElem?;intro j;rw [List.getElem?_set]
 split
 ·rename_i e;subst e
  split
  ·exact h.symm
  ·rename_i hl;rw [List.getElem?_eq_none Oo] at h;cases h
 ·rfl
theorem q0t (s:ByteArray):seq s ⟨#[]⟩=decide (s.size=0):=by
 rw [Bool.eq_iff_iff,qa9,decide_eq_true_iff]
 constructor
 ·rintro rfl;rfl
 ·intro h;obtain ⟨a⟩:=s;have:a=#[]:=Array.eq_empty_of_size_eq_zero h;rw [this]
structure TailP (q:ByteArray→Bool) (rest pre rest':List ByteArray) (s:ByteArray):Prop where
 eq:rest=pre++rest'
 all:pre.all q=true
 size:s.size≤9*pre.length
 none:s.size=0↔pre=[]
theorem TailP.step {q:ByteArray→Bool} {rest pre xs:List ByteArray} {x s s':ByteArray} (h:TailP q rest pre (x::xs) s) (hq:q x=true) (hs:s'.size=s.size+1+x.size) (hx:x.size≤8):TailP q rest (pre++[x]) xs s':=by
 obtain ⟨h1,h2,h3,h4⟩:=h;refine ⟨by rw [h1];simp,by simp [h2,hq],by simp;omega,?_⟩
 constructor
 ·intro h;omega
 ·intro h;simp at h
theorem q4y (rb i least:Nat) (rest:List ByteArray) (A:oA) (c:Nat) (t:List Value) (w0 w:World) (L:List (Nat × Obj)) (hm:Mem w0 w L) (hi:L[i]?=some (rb,rdC A rest.length c t)) (hS:SlAt zeS 1 w0 A rest) (hc:rest.length≤c)
  (hx:∀ x∈rest,x.size≤1000000) (hn:rest.length≤1000000) :
  Gv Tryz.prog 223 [pp rb,ii least] w fun v w'=>∃ pre rest' s,TailP (fun x=>qar x least 8 false) rest pre rest' s∧seeB (fun x=>qar x least 8 false) rest'=false∧
   v=.tuple #[.string s,.bool (decide (pre≠[]))]∧∃ A' c',SlAt zeS 1 w0 A' rest'∧rest'.length≤c'∧Mem w0 w' (L.set i (rb,rdC A' rest'.length c' t)):=by
 refine ze Tryz.func223 Tryz.ntmps223 ?_;refine znm hm ?_;intro lb w1 hm1;refine qm (fun x:List ByteArray × oA × Nat × ByteArray=>[(0,pp rb),(3,pp lb),(6,.string x.2.2.2)])
  (fun x w2=>∃ pre,TailP (fun x=>qar x least 8 false) rest pre x.1 x.2.2.2∧SlAt zeS 1 w0 x.2.1 x.1∧x.1.length≤x.2.2.1∧Mem w0 w2 ((lb,.cells #[ii least] 3)::L.set i (rb,rdC x.2.1 x.1.length x.2.2.1 t)))
  (fun x=>x.1.length) (rest,A,c,⟨#[]⟩) ⟨rfl,rfl,rfl,trivial⟩ ⟨[],⟨rfl,rfl,by simp;rfl,by simp;rfl⟩,hS,hc,by simp only;rw [q91 hi];exact hm1⟩ ?_
 rintro ⟨xs,B,d,s⟩ w2 ρ' ⟨pre,hP,hS2,hd,hm2⟩;simp only at hP hS2 hd hm2;dsimp only;have hil:i<L.length:=(List.getElem?_eq_some_iff.1 hi).1;have hlb:=hm2.get mh;have hsz:∀ x∈xs,x.size≤1000000:=fun x hxx=>hx x (by rw [hP.eq];exact List.mem_append_right _ hxx)
 have hpl:pre.length≤1000000:=by have:=congrArg List.length hP.eq;simp at this;omega
 have hps:=hP.size;refine zcv (qil rb 298 [pp lb] (fun x=>qar x least 8 false) xs B d t w2 (hm2.get (zmg (i:=i+1) (by simp [hil]))) (hS2.ext hm2.ext) (fun x ys w3 e he=>q1a x lb least (by have:=hsz x (by rw [e];exact List.mem_cons_self ..);omega) w3 (he.cell (by rw [qa hlb];rfl)))) ?_;rintro v w3 ⟨rfl,he⟩;have hm3:=hm2.call he;cases hq:seeB (fun x=>qar x least 8 false) xs
 ·refine zu ?_;refine ⟨pre,xs,s,hP,hq,?_,B,d,hS2,hd,hm3.sub (List.sublist_cons_self ..)⟩;have e:seq s ⟨#[]⟩=decide (pre=[]):=by
   rw [q0t,Bool.eq_iff_iff,decide_eq_true_iff,decide_eq_true_iff];exact hP.none
  rw [e]
  congr 3
  by_cases h:pre=[]<;>simp [h]
 ·obtain ⟨x,ys,rfl⟩:∃ x ys,xs=x::ys:=by
   cases xs with
   | nil=>cases hq
   | cons x ys=>exact ⟨x,ys,rfl⟩
  have hq:qar x least 8 false=true:=hq;have hx8:x.size≤8:=by simp [qar] at hq;omega
  simp only [List.length_cons] at hd hm3 ⊢;refine zu ?_;refine zcv (qd6 rb (i+1) x ys B d t w0 w3 _ hm3 (by simp [hil]) hS2 hd) ?_;rintro v w4 ⟨rfl,A',c',hS4,hc4,hm4⟩;have hm4':Mem w0 w4 ((lb,.cells #[ii least] 3)::L.set i (rb,rdC A' ys.length c' t)):=by
   rw [List.set_cons_succ,List.set_set] at hm4;exact hm4
  (conv=>whnf);refine ⟨by show 1+x.size≤_;omega,?_⟩;(conv=>whnf);refine ⟨by show s.size+(_:ByteArray).size≤_;rw [bsz];show s.size+(1+x.size)≤_;omega,?_⟩;(conv=>whnf);exact ⟨(ys,A',c',s++((⟨#[45]⟩:ByteArray)++x)),⟨rfl,rfl,rfl,trivial⟩,⟨pre++[x],hP.step hq (by rw [bsz,bsz];show s.size+(1+x.size)=_;omega) hx8,hS4,hc4,hm4'⟩,by simp⟩
def qiz:Nat→List ByteArray→List ByteArray
 | 0,l=>l
 | _,[]=>[]
 | k+1,x::xs=>if qar x 3 3 true=true then qiz k xs else x::xs
def qh2:List ByteArray→Option (List ByteArray)
 | []=>none
 | x::xs=>if qar x 2 8 true=true then some (if 3<x.size then xs else qiz 3 xs) else none
def tagC (a0 a1 a2 a3:ByteArray) (V E:Value) (a6:ByteArray):List Value:=[.string a0,.string a1,.string a2,.string a3,V,E,.string a6]
section
variable {w0 w:World} {L:List (Nat × Obj)} {i rb n c off:Nat} {A:oA} {t:List Value} {v:Value}
theorem qf5 {K:World→Prop} (hm:Mem w0 w L) (hi:L[i]?=some (rb,rdC A n c t)) (k:Nat) (ho:off=1+k) (hk:k<t.length) (h1:qb6 v=true) (hw:∀ w',Mem w0 w' (L.set i (rb,rdC A n c (t.set k v)))→K w'):StoreV w rb off v K:=by
 subst ho;refine StoreV.mem hm hi Ys h1 fun w' h=>hw w' ?_;have e:(Value.slice A n c::t).toArray.setIfInBounds (1+k) v=(Value.slice A n c::t.set k v).toArray:=by
  grind
 rw [e] at h;exact h
theorem qfg {K:Value→Prop} (hm:Mem w0 w L) (hi:L[i]?=some (rb,rdC A n c t)) (k:Nat) (ho:off=1+k) (hv:t[k]?=some v) (hk:K v):LoadV w rb off K:=by
 subst ho;exact LoadV.mem hm hi (by grind) hk
end
theorem qyx (x:ByteArray) (hs:x.size≤140737488355328) (w:World):Gv Tryz.prog 290 [.string x] w fun v w'=>v=.bool (qar x 2 8 true)∧Ext w w':=by
 have h1:=qc1 x 2 8 true hs w;refine ze Tryz.func290 Tryz.ntmps290 ?_;refine zcv (h1) ?_;rintro v w' ⟨rfl,he⟩;conv=>whnf
 simp_all
theorem qyy (x:ByteArray) (hs:x.size≤140737488355328) (w:World):Gv Tryz.prog 292 [.string x] w fun v w'=>v=.bool (qar x 3 3 true)∧Ext w w':=by
 have h1:=qc1 x 3 3 true hs w;refine ze Tryz.func292 Tryz.ntmps292 ?_;refine zcv (h1) ?_;rintro v w' ⟨rfl,he⟩;conv=>whnf
 simp_all
theorem qn5 (rb i:Nat) (rest:List ByteArray) (A:oA) (c:Nat) (a0 a2 a3 a6:ByteArray) (V E:Value) (w0 w:World) (L:List (Nat × Obj)) (hm:Mem w0 w L) (hi:L[i]?=some (rb,rdC A rest.length c (tagC a0 ⟨#[]⟩ a2 a3 V E a6)))
  (hS:SlAt zeS 1 w0 A rest) (hc:rest.length≤c) (hx:∀ x∈rest,x.size≤1000000) :
  Gv Tryz.prog 220 [pp rb] w fun v w'=>(qh2 rest=none∧v=.bool false∧Ext w0 w')∨
   (∃ rest',qh2 rest=some rest'∧v=.bool true∧∃ A' c' b0 b1,SlAt zeS 1 w0 A' rest'∧rest'.length≤c'∧Mem w0 w' (L.set i (rb,rdC A' rest'.length c' (tagC b0 b1 a2 a3 V E a6)))):=by
 have hil:i<L.length:=(by grind)
 refine ze Tryz.func220 Tryz.ntmps220 ?_;refine zcv (qil rb 290 [] (fun x=>qar x 2 8 true) rest A c _ w (hm.get (zmg hi)) (hS.ext hm.ext) (fun x ys w3 e he=>qyx x (by have:=hx x (by rw [e];exact List.mem_cons_self ..);omega) w3)) ?_;rintro v w1 ⟨rfl,he⟩;have hm1:=hm.call he;cases rest with
 | nil=>
  refine zu ?_;exact .inl ⟨rfl,rfl,hm1.ext⟩
 | cons x xs=>
  show putV _ _ _ (Value.bool (qar x 2 8 true)) _;cases hq:qar x 2 8 true
  ·refine zu ?_;exact .inl ⟨by grind [qh2],rfl,hm1.ext⟩
  ·have hR:qh2 (x::xs)=some (if 3<x.size then xs else qiz 3 xs):=by grind [qh2]
   rw [hR];have hx1:=hx x mh;simp only [List.length_cons] at hi hm1 hc ⊢;refine zu ?_;refine zcv (qd6 rb i x xs A c _ w0 w1 L hm1 hi hS hc) ?_;rintro v w2 ⟨rfl,A2,c2,hS2,hc2,hm2⟩;(conv=>whnf);refine qf5 hm2 (List.getElem?_set_self hil) 0 rfl (show 0<7 by decide) rfl ?_;intro w3 hm3;rw [List.set_set] at hm3;replace hm3:Mem w0 w3 (L.set i (rb,rdC A2 xs.length c2 (tagC x ⟨#[]⟩ a2 a3 V E a6))):=hm3;(conv=>whnf);refine qfg hm3 (List.getElem?_set_self hil) 0 rfl rfl ?_;(conv=>whnf);refine zC (fun _=>zw ?_) (fun _=>zw ?_)
   ·grind
   ·rw [if_neg Oo];refine qm (fun x:Nat × List ByteArray × oA × Nat × ByteArray=>[(0,pp rb),(3,ii x.1)])
     (fun y w2=>y.1≤3∧qiz 3 xs=qiz (3-y.1) y.2.1∧y.2.2.2.2.size≤y.1*1000001∧(∀ x∈y.2.1,x.size≤1000000)∧SlAt zeS 1 w0 y.2.2.1 y.2.1∧y.2.1.length≤y.2.2.2.1∧Mem w0 w2 (L.set i (rb,rdC y.2.2.1 y.2.1.length y.2.2.2.1 (tagC x y.2.2.2.2 a2 a3 V E a6))))
     (fun y=>3-y.1) (0,xs,A2,c2,⟨#[]⟩) ⟨rfl,rfl,trivial⟩ ⟨by simp,rfl,by simp;rfl,(by grind),hS2,hc2,hm3⟩ ?_
    rintro ⟨k,ys,B,d,s⟩ w4 ρ' ⟨h1,h2,h3,h4,hS4,hc4,hm4⟩;simp only at h1 h2 h3 h4 hS4 hc4 hm4;dsimp only;(conv=>whnf);refine zC (fun _=>zu ?_) (fun _=>zu ?_)
    ·have hk:3-k=(2-k)+1:=by omega
     refine zcv (qil rb 292 [] (fun x=>qar x 3 3 true) ys B d _ w4 (hm4.get (zmg (List.getElem?_set_self hil))) (hS4.ext hm4.ext) (fun x zs w3 e he=>qyy x (by have:=h4 x (by rw [e];exact List.mem_cons_self ..);omega) w3)) ?_;rintro v w5 ⟨rfl,he5⟩;have hm5:=hm4.call he5;cases ys with
     | nil=>
      refine zu ?_;refine .inr ⟨[],?_,rfl,B,d,x,s,hS4,hc4,hm5⟩;rw [h2,hk];rfl
     | cons y zs=>
      show putV _ _ _ (Value.bool (qar y 3 3 true)) _;have hd3:qiz (2-k+1) (y::zs)=if qar y 3 3 true=true then qiz (2-k) zs else y::zs:=rfl;rw [hk,hd3] at h2;cases hq:qar y 3 3 true
      ·rw [if_neg (by rw [hq];simp)] at h2;refine zu ?_
       grind
      ·rw [if_pos hq] at h2;simp only [List.length_cons] at hm5 hc4 ⊢;have hy:=h4 y mh;(conv=>whnf);refine zt ?_;refine zC (fun _=>zw ?_) (fun _=>zw ?_)
       ·
        refine qfg hm5 (List.getElem?_set_self hil) 1 rfl rfl ?_;(conv=>whnf);refine ⟨by show s.size+1≤_;omega,?_⟩;(conv=>whnf);refine qf5 hm5 (List.getElem?_set_self hil) 1 rfl (show 1<7 by decide) rfl ?_;intro w7 hm7;rw [List.set_set] at hm7;replace hm7:Mem w0 w7 (L.set i (rb,rdC B (zs.length+1) d (tagC x (s++(⟨#[45]⟩:ByteArray)) a2 a3 V E a6))):=hm7;(conv=>whnf);refine DrawV.inv (fun S w=>(S 11=false∧(bif S 6 then (∃ A' c',SlAt zeS 1 w0 A' zs∧zs.length≤c'∧Mem w0 w (L.set i (rb,rdC A' zs.length c' (tagC x (s++(⟨#[45]⟩:ByteArray)) a2 a3 V E a6)))) else Mem w0 w (L.set i (rb,rdC B (zs.length+1) d (tagC x (s++(⟨#[45]⟩:ByteArray)) a2 a3 V E a6)))))∨
          (S 11=true∧S 4=true∧S 6=true∧∃ A' c',SlAt zeS 1 w0 A' zs∧zs.length≤c'∧Mem w0 w (L.set i (rb,rdC A' zs.length c' (tagC x ((s++(⟨#[45]⟩:ByteArray))++y) a2 a3 V E a6))))) rfl Jk (.inl ⟨rfl,hm7.drew⟩) ?_
        (conv=>whnf);(iterate 4 (refine zi ?_));refine StepI.of (.string (s++(⟨#[45]⟩:ByteArray))) (fun S wd hk hp hI=>?_) (zw ?_)
        ·obtain ⟨h11,hI⟩:=hI.resolve_right (fun h=>by have:=h.2.1;rw [hk] at this;cases this);(conv=>whnf);cases h6:S 6
         ·rw [h6] at hI;refine qfg hI (List.getElem?_set_self hil) 1 rfl rfl ?_;(conv=>whnf);exact ⟨rfl,.inl ⟨h11,by show bif S 6 then _ else _;simp_all⟩⟩
         ·rw [h6] at hI;obtain ⟨A',c',hS',hc',hM⟩:=hI;refine qfg hM (List.getElem?_set_self hil) 1 rfl rfl ?_;(conv=>whnf);exact ⟨rfl,.inl ⟨h11,by show bif S 6 then _ else _;simp_all⟩⟩
        refine zi ?_;refine StepI.of (.string y) (fun S wd hk hp hI=>?_) (zw ?_)
        ·obtain ⟨h11,hI⟩:=hI.resolve_right (fun h=>by have:=h.2.2.1;rw [hk] at this;cases this);have h6:S 6=false:=hk;rw [h6] at hI;(conv=>whnf);refine zcv (qd6 rb i y zs B d _ w0 wd _ hI (List.getElem?_set_self hil) hS4 hc4) ?_;rintro v w6 ⟨rfl,A',c',hS',hc',hM'⟩;rw [List.set_set] at hM';(conv=>whnf);exact ⟨rfl,.inl ⟨h11,A',c',hS',hc',hM'⟩⟩
        refine StepI.of (.string ((s++(⟨#[45]⟩:ByteArray))++y)) (fun S wd hk hp hI=>zw ?_) (zw ?_)
        ·refine ⟨by rw [bsz];show s.size+1+y.size≤_;omega,?_⟩;(conv=>whnf);exact ⟨rfl,hI⟩
        (iterate 3 (refine zi ?_));refine StepI.of undef (fun S wd hk hp hI=>?_) (zw ?_)
        ·obtain ⟨h11,hI⟩:=hI.resolve_right (fun h=>by have:=h.1;rw [hk] at this;cases this);have h4:=hp 4 Od;have h6:=hp 6 Od;rw [h6] at hI;obtain ⟨A',c',hS',hc',hM⟩:=hI;(conv=>whnf);refine qf5 hM (List.getElem?_set_self hil) 1 rfl (show 1<7 by decide) rfl ?_;intro w6 hM';rw [List.set_set] at hM';(conv=>whnf);exact ⟨rfl,.inr ⟨rfl,h4,h6,A',c',hS',hc',hM'⟩⟩
        intro w6 hI;obtain ⟨_,_,_,A',c',hS',hc',hM⟩:=hI.resolve_left (fun h=>by have:=h.1;cases this);refine zu ?_;refine ⟨(k+1,zs,A',c',(s++(⟨#[45]⟩:ByteArray))++y),⟨rfl,rfl,trivial⟩,⟨by omega,?_,?_,(by grind),hS',hc',hM⟩,by omega⟩
        ·simp_all
        ·simp only [bsz,show (⟨#[45]⟩:ByteArray).size=1 from rfl];omega
       ·skip
        refine DrawV.inv (fun S w=>(S 11=false∧(bif S 6 then (∃ A' c',SlAt zeS 1 w0 A' zs∧zs.length≤c'∧Mem w0 w (L.set i (rb,rdC A' zs.length c' (tagC x s a2 a3 V E a6)))) else Mem w0 w (L.set i (rb,rdC B (zs.length+1) d (tagC x s a2 a3 V E a6)))))∨
          (S 11=true∧S 4=true∧S 6=true∧∃ A' c',SlAt zeS 1 w0 A' zs∧zs.length≤c'∧Mem w0 w (L.set i (rb,rdC A' zs.length c' (tagC x (s++y) a2 a3 V E a6))))) rfl Jk (.inl ⟨rfl,hm5.drew⟩) ?_
        (conv=>whnf);(iterate 4 (refine zi ?_));refine StepI.of (.string s) (fun S wd hk hp hI=>?_) (zw ?_)
        ·obtain ⟨h11,hI⟩:=hI.resolve_right (fun h=>by have:=h.2.1;rw [hk] at this;cases this);(conv=>whnf);cases h6:S 6
         ·rw [h6] at hI;refine qfg hI (List.getElem?_set_self hil) 1 rfl rfl ?_;(conv=>whnf);exact ⟨rfl,.inl ⟨h11,by show bif S 6 then _ else _;simp_all⟩⟩
         ·rw [h6] at hI;obtain ⟨A',c',hS',hc',hM⟩:=hI;refine qfg hM (List.getElem?_set_self hil) 1 rfl rfl ?_;(conv=>whnf);exact ⟨rfl,.inl ⟨h11,by show bif S 6 then _ else _;simp_all⟩⟩
        refine zi ?_;refine StepI.of (.string y) (fun S wd hk hp hI=>?_) (zw ?_)
        ·obtain ⟨h11,hI⟩:=hI.resolve_right (fun h=>by have:=h.2.2.1;rw [hk] at this;cases this);have h6:S 6=false:=hk;rw [h6] at hI;(conv=>whnf);refine zcv (qd6 rb i y zs B d _ w0 wd _ hI (List.getElem?_set_self hil) hS4 hc4) ?_;rintro v w6 ⟨rfl,A',c',hS',hc',hM'⟩;rw [List.set_set] at hM';(conv=>whnf);exact ⟨rfl,.inl ⟨h11,A',c',hS',hc',hM'⟩⟩
        refine StepI.of (.string (s++y)) (fun S wd hk hp hI=>zw ?_) (zw ?_)
        ·refine ⟨by omega,?_⟩;(conv=>whnf);exact ⟨rfl,hI⟩
        (iterate 3 (refine zi ?_));refine StepI.of undef (fun S wd hk hp hI=>?_) (zw ?_)
        ·obtain ⟨h11,hI⟩:=hI.resolve_right (fun h=>by have:=h.1;rw [hk] at this;cases this);have h4:=hp 4 Od;have h6:=hp 6 Od;rw [h6] at hI;obtain ⟨A',c',hS',hc',hM⟩:=hI;(conv=>whnf);refine qf5 hM (List.getElem?_set_self hil) 1 rfl (show 1<7 by decide) rfl ?_;intro w6 hM';rw [List.set_set] at hM';(conv=>whnf);exact ⟨rfl,.inr ⟨rfl,h4,h6,A',c',hS',hc',hM'⟩⟩
        intro w6 hI;obtain ⟨_,_,_,A',c',hS',hc',hM⟩:=hI.resolve_left (fun h=>by have:=h.1;cases this);refine zu ?_;refine ⟨(k+1,zs,A',c',s++y),⟨rfl,rfl,trivial⟩,⟨by simp only;omega,?_,?_,fun x hx=>h4 x (zmc hx),hS',hc',hM⟩,by omega⟩
        all_goals grind
    ·refine .inr ⟨ys,?_,rfl,B,d,x,s,hS4,hc4,hm4⟩;rw [h2,show 3-k=0 by omega];rfl
open Go.RowKit
namespace V
structure RowB (e:TypeId) (xs:List Value) (L:List (Nat × Obj)) (v:Value):Prop where
 h:(v=.slice none 0 0∧xs=[])∨∃ g cap cur,v=.slice (some ⟨g,0,none⟩) xs.length cap∧(g,Obj.cells cur e)∈L∧xs.length≤cap∧cap≤maxLen∧cur.size=cap∧cur.toList.take xs.length=xs
section
variable {w0 w:World} {L L':List (Nat × Obj)} {e:TypeId} {xs:List Value} {v:Value}
theorem RowB.nil (e:TypeId) (L:List (Nat × Obj)):RowB e [] L (.slice none 0 0):=⟨Js⟩
theorem RowB.owns (h:RowB e xs L v) (hm:Mem w0 w L):w.ownsRow w0.heap.size e 1 v xs.length xs:=by
 refine ⟨Oo,?_⟩
 rcases h.h with ⟨rfl,rfl⟩|⟨g,cap,cur,rfl,hg,h1,h2,h3,h4⟩
 ·simp
 ·exact .inr ⟨g,cap,cur,rfl,(hm.own _ hg).1,hm.get hg,h1,h2,by omega,by simp_all⟩
theorem RowB.keep (h:RowB e xs L v) (hk:∀ y∈L,v.ownBlock=some y.1→y∈L'):RowB e xs L' v:=by
 refine ⟨?_⟩
 rcases h.h with h|⟨g,cap,cur,rfl,hg,h1⟩
 ·exact .inl h
 ·exact .inr ⟨g,cap,cur,rfl,hk _ hg rfl,h1⟩
theorem RowB.in_ (h:RowB e xs L v) {g:Nat} (hg:v.ownBlock=some g):∃ o,(g,o)∈L:=by
 rcases h.h with ⟨rfl,_⟩|⟨g',cap,cur,rfl,h',_⟩
 ·cases hg
 ·cases hg;grind
theorem RowB.slice (h:RowB e xs L v):∃ A c,v=.slice A xs.length c:=by
 rcases h.h with ⟨rfl,rfl⟩|⟨g,cap,cur,rfl,_⟩
 all_goals simp
theorem RowB.sl {l:List ByteArray} {A:oA} {n c:Nat} (h:RowB e (l.map Value.string) L (.slice A n c)) (hm:Mem w0 w L):SlAt zeS 1 w A l:=by
 refine ⟨fun hne=>?_⟩
 rcases h.h with ⟨_,h0⟩|⟨g,cap,cur,hv,hg,h1,_,_,h4⟩
 ·simp_all
 ·cases hv;refine ⟨g,0,rfl,fun j x hx k u hu=>?_⟩;cases k with
  | succ k=>simp [zeS] at hu
  | zero=>
   simp only [zeS,List.getElem?_cons_zero,Option.some.injEq] at hu;subst hu;have hj:(cur.toList.take (l.map Value.string).length)[j]?=some (.string x):=by simp_all
   rw [List.getElem?_take] at hj
   split at hj
   ·rw [qa (hm.get hg)]
    simpa using hj
   ·cases hj
end
theorem AppV.blk {P:Program} {w0 w:World} {L:List (Nat × Obj)} {e t ty:TypeId} {i:TypeInfo} {z x:Value} {A:oA} {n c nb:Nat} {xs:List Value} {K:Value→World→Prop} (ht:P.underlying t=some (.slice e)) (hi:P.info? e=some i) (hz:i.zero=some z)
  (hsize:i.size=1) (hzs:z.cells.size=1) (hby:i.bytes≤16) (hm:Mem w0 w L) (hr:RowB e xs L (.slice A n c)) (hn:n=xs.length) (hx:x.oneCell'=true) (hb:w.cell? ⟨nb,0,none⟩=some x) (hlen:n+1≤8000000000000)
  (hk:∀ A' c' w' L',Mem w0 w' L'→RowB e (xs++[x]) L' (.slice A' (n+1) c')→(∀ y∈L,Value.ownBlock (.slice A n c)≠some y.1→y∈L')→
   (∀ g,Value.ownBlock (.slice A' (n+1) c')=some g→Value.ownBlock (.slice A n c)=some g∨∀ y∈L,y.1≠g)→K (.slice A' (n+1) c') w'):AppV P #[t,t] ty (.slice A n c) (.slice (some ⟨nb,0,none⟩) 1 1) w K:=by
 subst hn;refine AppV.own (news:=[x]) ht hi hz hsize hzs Od (hr.owns hm) hm.ext.size rfl (fun _=>⟨nb,0,rfl,fun k u hu=>?_⟩) (by grind) ?_ Oo ?_
 ·grind
 ·exact Nat.le_trans (Nat.mul_le_mul hlen hby) Od
 ·intro v' w' ho hg hor
  rcases ho.2 with ⟨_,h0⟩|⟨g,cap,cur,rfl,hg0,hgw,h1,h2,h3,h4⟩
  ·omega
  ·have hltL:∀ y∈L,y.1<w.heap.size:=fun y hy=>hm.lt (b:=y.1) (o:=y.2) hy
   have hne:∀ y∈L,Value.ownBlock (.slice A xs.length c)≠some y.1→y.1≠g:=(by grind [Value.ownBlock])
   refine hk _ cap w' ((g,.cells cur e)::L.filter fun y=>decide (Value.ownBlock (.slice A xs.length c)≠some y.1)) ⟨?_,?_,?_⟩ ⟨(by grind)⟩ ?_ ?_
   ·exact Below.grown hm.ext hg hm.ext.size (fun k hk=>((hr.owns hm).lt k hk).1)
   ·intro y hy
    rcases List.mem_cons.1 hy with rfl|hy
    ·simp_all
    ·obtain ⟨hy,hv⟩:=List.mem_filter.1 hy;have hv:=of_decide_eq_true hv;refine ⟨(hm.own y hy).1,?_⟩;rw [hg.block y.1 (hltL y hy) (by grind)];exact (hm.own y hy).2
   ·simp only [List.map_cons,List.nodup_cons];refine ⟨fun hmem=>?_,(List.filter_sublist.map _).nodup hm.nodup⟩
    grind
   all_goals grind
structure RowsP (e:TypeId) (O:List Nat) (L:List (Nat × Obj)) (R:List (List Value × Value)):Prop where
 row:∀ (k:Nat) p,R[k]?=some p→RowB e p.1 L p.2
 out:∀ (k:Nat) p g,R[k]?=some p→p.2.ownBlock=some g→g∉O
 ap:∀ (k k':Nat) p p' g,R[k]?=some p→R[k']?=some p'→k≠k'→p.2.ownBlock=some g→p'.2.ownBlock≠some g
theorem RowsP.keep {e:TypeId} {O:List Nat} {L L':List (Nat × Obj)} {R:List (List Value × Value)} (h:RowsP e O L R) (hk:∀ y∈L,y.1∉O→y∈L'):RowsP e O L' R:=
 ⟨fun k p hp=>(h.row k p hp).keep fun y hy hv=>hk y hy (h.out k p y.1 hp hv),h.out,h.ap⟩
theorem RowsP.app {P:Program} {w0 w:World} {O:List Nat} {L:List (Nat × Obj)} {R:List (List Value × Value)} {e t ty:TypeId} {i:TypeInfo} {z x:Value} {A:oA} {n c nb:Nat} {xs:List Value} {K:Value→World→Prop} (h:RowsP e O L R) (k:Nat) (hk:R[k]?=some (xs,.slice A n c)) (ht:P.underlying t=some (.slice e)) (hi:P.info? e=some i) (hz:i.zero=some z)
  (hsize:i.size=1) (hzs:z.cells.size=1) (hby:i.bytes≤16) (hm:Mem w0 w L) (hO:∀ g∈O,∃ o,(g,o)∈L) (hn:n=xs.length) (hx:x.oneCell'=true) (hb:w.cell? ⟨nb,0,none⟩=some x) (hlen:n+1≤8000000000000)
  (hK:∀ A' c' w' L',Mem w0 w' L'→RowsP e O L' (R.set k (xs++[x],.slice A' (n+1) c'))→(∀ y∈L,y.1∈O→y∈L')→K (.slice A' (n+1) c') w'):AppV P #[t,t] ty (.slice A n c) (.slice (some ⟨nb,0,none⟩) 1 1) w K:=by
 refine AppV.blk ht hi hz hsize hzs hby hm (h.row k _ hk) hn hx hb hlen fun A' c' w' L' hm' hr' hkeep hown=>hK A' c' w' L' hm' ?_ ?_
 ·have hkl:k<R.length:=(by grind)
  have other:∀ (j:Nat) p,(R.set k (xs++[x],.slice A' (n+1) c'))[j]?=some p→(j=k∧p=(xs++[x],.slice A' (n+1) c'))∨(j≠k∧R[j]?=some p):=(by grind)
  have fresh:∀ (j:Nat) p g,j≠k→R[j]?=some p→p.2.ownBlock=some g→Value.ownBlock (.slice A' (n+1) c')≠some g:=fun j p g hj hp hg hg'=>by
   rcases hown g hg' with ho|ho
   ·exact h.ap j k p _ g hp hk hj hg ho
   ·obtain ⟨o,hin⟩:=(h.row j p hp).in_ hg
    grind
  refine ⟨fun j p hp=>?_,fun j p g hp hg=>?_,fun j j' p p' g hp hp' hne hg=>?_⟩
  ·rcases other j p hp with ⟨_,rfl⟩|⟨hj,hp⟩
   ·exact hr'
   ·exact (h.row j p hp).keep fun y hy hv=>hkeep y hy (h.ap j k p _ y.1 hp hk hj hv)
  ·rcases other j p hp with ⟨_,rfl⟩|⟨hj,hp⟩
   ·rcases hown g hg with ho|ho
    ·exact h.out k _ g hk ho
    grind
   ·exact h.out j p g hp hg
  ·rcases other j p hp with ⟨ej,rfl⟩|⟨hj,hp⟩<;>rcases other j' p' hp' with ⟨ej',rfl⟩|⟨hj',hp'⟩
   ·omega
   ·grind
   ·grind
   ·exact h.ap j j' p p' g hp hp' hne hg
 ·intro y hy hyO;exact hkeep y hy fun hv=>h.out k _ y.1 hk hv hyO
end V
theorem qhg {L:List (Nat × Obj)} {i rb:Nat} {o o':Obj} (hi:L[i]?=some (rb,o)):(rb,o')∈L.set i (rb,o')∧∀ y∈L,y.1≠rb→y∈L.set i (rb,o'):=by
 have hil:i<L.length:=(List.getElem?_eq_some_iff.1 hi).1;refine ⟨zmg (List.getElem?_set_self hil),fun y hy hne=>?_⟩;obtain ⟨j,hj⟩:=List.mem_iff_getElem?.1 hy;refine zmg (i:=j) ?_;rw [List.getElem?_set_ne (fun e=>hne ?_),hj];subst e;rw [hi] at hj;cases hj;rfl
section
variable {w0 w:World} {L:List (Nat × Obj)} {rb n c off:Nat} {A:oA} {t:List Value} {v:Value}
structure RdM (w0 w':World) (L:List (Nat × Obj)) (rb:Nat) (o':Obj) (L':List (Nat × Obj)):Prop where
 mem:Mem w0 w' L'
 rd:(rb,o')∈L'
 keep:∀ y∈L,y.1≠rb→y∈L'
theorem qea {K:World→Prop} (hm:Mem w0 w L) (hi:(rb,rdC A n c t)∈L) (k:Nat) (ho:off=1+k) (hk:k<t.length) (h1:qb6 v=true) (hw:∀ w' L',RdM w0 w' L rb (rdC A n c (t.set k v)) L'→K w'):StoreV w rb off v K:=by
 obtain ⟨i,hi⟩:=List.mem_iff_getElem?.1 hi;exact qf5 hm hi k ho hk h1 fun w' h=>hw w' _ ⟨h,(qhg hi).1,(qhg hi).2⟩
theorem qto {K:Value→Prop} (hm:Mem w0 w L) (hi:(rb,rdC A n c t)∈L) (k:Nat) (ho:off=1+k) (hv:t[k]?=some v) (hk:K v):LoadV w rb off K:=by
 obtain ⟨i,hi⟩:=List.mem_iff_getElem?.1 hi;exact qfg hm hi k ho hv hk
theorem q4f {x:ByteArray} {xs:List ByteArray} (hm:Mem w0 w L) (hi:(rb,rdC A (xs.length+1) c t)∈L) (hS:SlAt zeS 1 w0 A (x::xs)) (hc:xs.length+1≤c) :
  Gv Tryz.prog 222 [pp rb] w fun v w'=>v=.string x∧∃ A' c' L',SlAt zeS 1 w0 A' xs∧xs.length≤c'∧RdM w0 w' L rb (rdC A' xs.length c' t) L':=by
 obtain ⟨i,hi⟩:=List.mem_iff_getElem?.1 hi;refine (qd6 rb i x xs A c t w0 w L hm hi hS hc).mono ?_;rintro v w' ⟨rfl,A',c',h1,h2,h3⟩;exact ⟨rfl,A',c',_,h1,h2,⟨h3,(qhg hi).1,(qhg hi).2⟩⟩
theorem qtp {rest:List ByteArray} {least:Nat} (hm:Mem w0 w L) (hi:(rb,rdC A rest.length c t)∈L) (hS:SlAt zeS 1 w0 A rest) (hc:rest.length≤c) (hx:∀ x∈rest,x.size≤1000000) (hn:rest.length≤1000000) :
  Gv Tryz.prog 223 [pp rb,ii least] w fun v w'=>∃ pre rest' s,TailP (fun x=>qar x least 8 false) rest pre rest' s∧seeB (fun x=>qar x least 8 false) rest'=false∧
   v=.tuple #[.string s,.bool (decide (pre≠[]))]∧∃ A' c' L',SlAt zeS 1 w0 A' rest'∧rest'.length≤c'∧RdM w0 w' L rb (rdC A' rest'.length c' t) L':=by
 obtain ⟨i,hi⟩:=List.mem_iff_getElem?.1 hi;refine (q4y rb i least rest A c t w0 w L hm hi hS hc hx hn).mono ?_;rintro v w' ⟨pre,rest',s,h1,h2,rfl,A',c',h3,h4,h5⟩;exact ⟨pre,rest',s,h1,h2,rfl,A',c',_,h3,h4,⟨h5,(qhg hi).1,(qhg hi).2⟩⟩
end
def qhd:List ByteArray→List ByteArray
 | []=>[]
 | x::xs=>if qar x 4 4 true=true then xs else x::xs
def qhb:List ByteArray→List ByteArray
 | []=>[]
 | x::xs=>if regB x=true then xs else x::xs
open Classical in
noncomputable def qm7:List ByteArray→List ByteArray→Option (List ByteArray × List ByteArray)
 | seen,[]=>some (seen,[])
 | seen,x::xs=>if varB x=true then (if lowS x∈seen then none else qm7 (seen++[lowS x]) xs) else some (seen,x::xs)
def extQ (x:ByteArray):Bool:=qar x 2 8 false
def extS (x:ByteArray):Bool:=qar x 1 1 false && !qmm x
open Classical in
noncomputable def extN:Nat→List ByteArray→List ByteArray→Option (List ByteArray)
 | _,_,[]=>some []
 | 0,_,rest=>some rest
 | k+1,seen,x::xs=>if extS x=true then (if xs.takeWhile extQ=[]∨lowS x∈seen then none else extN k (seen++[lowS x]) (xs.dropWhile extQ)) else some (x::xs)
noncomputable def qvs (rest:List ByteArray):Option (List ByteArray):=(qm7 [] (qhb (qhd rest))).bind fun r=>extN r.2.length r.1 r.2
theorem TailP.take {q:ByteArray→Bool} {rest pre rest':List ByteArray} {s:ByteArray} (h:TailP q rest pre rest' s) (h2:seeB q rest'=false):rest.takeWhile q=pre∧rest.dropWhile q=rest':=by
 have ha:=List.all_eq_true.1 h.all;rw [h.eq,List.takeWhile_append_of_pos ha,List.dropWhile_append_of_pos ha];cases rest' with
 | nil=>simp
 | cons y ys=>
  have:q y=false:=h2;simp [this]
theorem q0j (x:ByteArray) (hs:x.size≤140737488355328) (w:World):Gv Tryz.prog 293 [.string x] w fun v w'=>v=.bool (qar x 4 4 true)∧Ext w w':=by
 have h1:=qc1 x 4 4 true hs w;refine ze Tryz.func293 Tryz.ntmps293 ?_;refine zcv (h1) ?_;rintro v w' ⟨rfl,he⟩;(conv=>whnf);exact ⟨rfl,he⟩
theorem q0k (x:ByteArray) (hs:x.size≤140737488355328) (w:World):Gv Tryz.prog 297 [.string x] w fun v w'=>v=.bool (extS x)∧Ext w w':=by
 have h1:=qc1 x 1 1 false hs w;refine ze Tryz.func297 Tryz.ntmps297 ?_;refine zcv (h1) ?_;rintro v w1 ⟨rfl,he⟩;cases hm:qar x 1 1 false
 ·refine zu ?_;exact ⟨by rw [extS,hm];rfl,he⟩
 ·refine zu ?_;refine zcv (qfe x w1) ?_;rintro v w2 ⟨rfl,rfl⟩;refine zu ?_;exact ⟨by rw [extS,hm];rfl,he⟩
theorem qfr (l:List ByteArray) (A:oA) (c:Nat) (x:ByteArray) (w:World) (hS:SlAt zeS 1 w A l) (hl:l.length≤9223372036854775807) :
  Gv Tryz.prog 296 [.slice A l.length c,.string x] w fun v w'=>(∃ b,v=.bool b∧(b=true↔x∈l))∧w'=w:=by
 cases l with
 | nil=>
  refine (quw Jk (Tryz.slices_Contains_string_empty A c x w)).mono ?_;rintro v w' ⟨rfl,rfl⟩;exact ⟨⟨false,rfl,by simp⟩,rfl⟩
 | cons y ys=>
  obtain ⟨b,off,rfl,h⟩:=hS.at_ Js;refine (quw Jk (Tryz.slices_Contains_string b off (y::ys).length c (y::ys) x w znr hl (fun j hj=>?_))).mono ?_
  ·have:=h j _ (zge hj) 0 (.string (y::ys)[j]) rfl;rw [List.getD_eq_getElem?_getD,zge hj,Option.getD_some]
   simpa using this
  ·rintro v w' ⟨rfl,rfl⟩;exact ⟨⟨_,rfl,by rw [Go.Lib.containsS_iff,List.take_length]⟩,rfl⟩
end Go.Proofs.YtccmcfpmknpccaaGreatDoor
