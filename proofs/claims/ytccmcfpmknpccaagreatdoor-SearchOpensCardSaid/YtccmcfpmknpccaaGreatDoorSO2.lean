/- Lemmas and contracts of functions on the way to the law's card (part 2 of 11). -/
import Derived.Test.YtccmcfpmknpccaaGreatDoorSO1
import Derived.WideKeyArgs
import Derived.ChangeSame
import Derived.ChangeVars
import Derived.RowKit
import Derived.OpenShut
import Derived.Deep.Strs
import Derived.Lib.Builder
import Derived.Lib.Join
import Derived.Lib.SplitLaws
namespace Go.Proofs.YtccmcfpmknpccaaGreatDoor
open Go.RowKit V
set_option maxRecDepth 100000
variable {P:DC} {f:FuncId} {news vs xs:DK} {W W' w w' w0:DA} {args cs:DN} {b c d g hi i id k lo m nb off rb:Nat} {l:LB} {L L':DJ} {x z:DF} {fr:Nat×Nat} {ty:DD} {K R:DG} {ρ:DH} {o:Oper} {xo yo:Operand} {A:oA} {O:DL} {o':Obj} {R':List (DK×DF)} {ops:Array Oper}
theorem qzx{v:DF}(U:qdk P f=true)(h:Calls P f vs.toArray w λe w'=>e=.returned v/\w'=w):
  Gv P f vs w λu w'=>u=v/\w'=w:=⟨U,h.mono λ_ _ ⟨Z,h2⟩=>⟨v,Z,rfl,h2⟩⟩
def signs:DB:=⟨#[60,62,34,123,125,124,94,96,92]⟩
theorem qpl(s:DB)(c:Int)(w:DA):
  Gv DM 372 [.string s,.int .u8 c] w λv w'=>v=ii (Lib.indexByte s.data.toList c.toNat.toUInt8)/\w'=w:=
 qzx Jk (Tryz.strings_IndexByte s c w)
theorem qq3(r:Int)(w:DA):
  Gv DM 373 [.int .i32 r] w λv w'=>v=.bool (Lib.validRune r)/\w'=w:=
 qzx Jk (Tryz.utf8_ValidRune r w)
theorem quc(r:Nat)(h:128<=r):2<=(Utf8.encode r).size/\(Utf8.encode r).size<=4/\128<=(gb (Utf8.encode r) ((Utf8.encode r).size-1)).toNat:=by
 unfold Utf8.encode;simp only;obtain⟨c,U,Z⟩:∃c,(if Utf8.valid r=true then(r:Int).toNat else Utf8.runeError)=c/\128<=c:=by
  refine⟨_,rfl,?_⟩
  split
  ·omega
  ·decide
 rw[U];rw[Aa Oo];have hm:c%64<64:=(by omega)
 split
 ·refine⟨show 2<=2 by decide,show 2<=4 by decide,?_⟩;show 128<=(UInt8.ofNat (0x80+c%64)).toNat
  grind [UInt8.toNat_ofNat']
 ·split
  ·refine⟨show 2<=3 by decide,show 3<=4 by decide,?_⟩;show 128<=(UInt8.ofNat (0x80+c%64)).toNat
   grind [UInt8.toNat_ofNat']
  ·refine⟨show 2<=4 by decide,show 4<=4 by decide,?_⟩;show 128<=(UInt8.ofNat (0x80+c%64)).toNat
   grind [UInt8.toNat_ofNat']
theorem qtm:∀pos:Fin 9,(Utf8.decode signs pos.1).2=1/\(Utf8.decode signs pos.1).1<128:=by decide
theorem qtn:∀pos:Fin 9,(gb signs pos.1).toNat<128:=by decide
theorem qtl:∀y∈signs.data.toList,y.toNat<128:=by
 simp[signs]
theorem qm6(l:LB)(c:DE)(h:∀x∈l,x≠c):Lib.indexByte l c=-1:=by
 induction l<;>grind [Lib.indexByte]
theorem qm7(r:Nat)(h0:128<=r)(h1:r<=1114111)(w:DA):
  Gv DM 337 [.string signs,.int .i32 r] w λv w'=>v=ii (-1)/\Ext w w':=by
 have he:=quc r h0;refine ze Tryz.func337 Tryz.ntmps337 ?_;refine zY (λ_=>?_);(conv=>whnf);(iterate 2 (refine zT ?_;(conv=>whnf)));refine zN (λ_=>?_);(conv=>whnf);refine zC (λ_=>?_) (λ_=>?_)<;>(conv=>whnf)
 ·refine znm (Mem.nil w) λb w1 hm=>zw ?_;refine qq (λpos:Nat=>[(175,pp b)]) (λpos Z=>pos<=9/\Mem w Z [(b,.stringIter signs pos)]) (λpos=>9-pos) 0 ⟨rfl,trivial⟩ (by grind) ?_;rintro pos Z ad ⟨hp,hm⟩;(conv=>whnf);refine NextS.mem hm (i:=0) rfl ?_ ?_
  ·intro ae w3 af;have aa:pos<9:=ae;have hd:=qtm ⟨pos,aa⟩;simp only at hd;rw[hd.1]at af;(conv=>whnf);refine zT ?_;(conv=>whnf);refine zN (λ_=>?_);(conv=>whnf);exact⟨pos+1,⟨rfl,trivial⟩,(by grind),by omega⟩
  ·intro ah;(conv=>whnf);refine zU ?_;(conv=>whnf);exact⟨rfl,hm.ext⟩
 ·refine zcv (qq3 _ _) ?_;rintro v w1 ⟨rfl,rfl⟩;(conv=>whnf);cases hv:Lib.validRune r
  ·(conv=>whnf);refine zP ?_;refine zU ?_;conv=>whnf
   grind [Ext.refl]
  ·(conv=>whnf);refine zP ?_;refine zT ?_;(conv=>whnf);refine ScopeV.straight (zw ?_);refine zA ?_;(conv=>whnf);have ai:signs.size=9:=rfl;refine qq (λ_:Unit=>[(0,.string signs),(7,.string (Utf8.encode r)),(8,ii ((Utf8.encode r).size-1)),(9,ii ((Utf8.encode r).size-1))]) (λ_ Z=>Z=w1) (λ_=>0) () fq rfl ?_;rintro _ Z ad rfl;(conv=>whnf);refine zY (λ_=>?_);(conv=>whnf);refine ScopeV.straight (zw ?_);refine zy ?_;(iterate 2 (refine zW ?_;(conv=>whnf)));refine IdxV.at_ ((Utf8.encode r).size-1) Oo Oo (zw ?_);(iterate 3 (refine zW ?_;(conv=>whnf)));refine IdxV.at_ ((Utf8.encode r).size-1) Oo Oo (zw ?_);(iterate 2 (refine zW ?_;(conv=>whnf)));refine zC (λ_=>?_) (λ_=>?_)<;>(conv=>whnf)
   have U:=qtn ⟨(Utf8.encode r).size-1,by omega⟩;simp only at U
   ·refine zy ?_;(iterate 2 (refine zW ?_;(conv=>whnf)));refine zA ?_;(conv=>whnf);refine zW ?_;(conv=>whnf);refine SliceS.at_ (Utf8.encode r).size 9 (show(((Utf8.encode (r:Int)).size:Int)-1+1:Int)=((Utf8.encode (r:Int)).size:Int)by omega) rfl Oo Od (zw ?_);(iterate 3 (refine zW ?_;(conv=>whnf)));refine IdxV.at_ ((Utf8.encode r).size-1) Oo Oo (zw ?_);refine zW ?_;(conv=>whnf);refine⟨_,qpl _ _ _,?_⟩;rw[qm6]
    ·(conv=>whnf);refine zW ?_;(conv=>whnf);refine zY (λ_=>?_);(conv=>whnf);exact⟨rfl,xr.drew.drew⟩
    ·intro x hx e;rw[Lib.extract_data]at hx;have ag:=Do hx;have h2:=qtl x (List.mem_of_mem_drop ag);rw[e]at h2;have h3:((((gb (Utf8.encode (r:Int)) ((Utf8.encode (r:Int)).size-1)).toNat:Int)).toNat.toUInt8).toNat=(gb (Utf8.encode (r:Int)) ((Utf8.encode (r:Int)).size-1)).toNat:=by
      simp
     omega
   ·have U:=qtn ⟨(Utf8.encode r).size-1,by omega⟩;simp only at U;omega
theorem qpm(l:LB)(c:DE):0<=Lib.indexByte l c↔c∈l:=by
 induction l<;>grind [Lib.indexByte]
def barB(c:DE):Bool:=decide (c.toNat<=32\/c∈signs.data.toList)
def barR(r:Nat):Bool:=decide (r<128)&&barB (UInt8.ofNat r)
theorem qri(r:Nat)(U:r<=1114111)(w:DA):
  Gv DM 282 [.string signs,.int .i32 r] w λv w'=>v=.bool (decide (r<128/\UInt8.ofNat r∈signs.data.toList))/\Ext w w':=by
 by_cases h:r<128
 ·have Z:=Tryz.strings_ContainsRune_ascii signs (r:Int) w Oo Oo;refine(qzx Jk Z).mono ?_
  grind [Ext.refl,qpm]
 ·refine ze Tryz.func282 Tryz.ntmps282 ?_;refine zcv (qm7 r Oo U w) ?_;rintro v w' ⟨rfl,he⟩;conv=>whnf
  grind
theorem qnm(r:Nat)(U:r<=1114111)(w:DA):
  Gv DM 213 [.int .i32 r] w λv w'=>v=.bool (barR r)/\Ext w w':=by
 have Z:r<128->(UInt8.ofNat r).toNat=r:=(by grind [UInt8.toNat_ofNat'])
 refine ze Tryz.func213 Tryz.ntmps213 ?_
 (repeat'(first|((with_reducible refine zT ?_);(conv=>whnf))|((with_reducible refine zU ?_);(conv=>whnf))|((with_reducible refine zC (λ_=>?_) (λ_=>?_))<;>first|(exfalso;omega)|(conv=>whnf))))
 ·grind [Ext.refl,barR,barB]
 ·refine zcv (qri r U w) ?_;rintro v w' ⟨rfl,he⟩;(conv=>whnf);refine zU ?_;conv=>whnf
  grind [barR,barB]
theorem get!_gb(s:DB)(k:Nat):s.get! k=gb s k:=by
 obtain⟨⟨l⟩⟩:=s;simp[ByteArray.get!,gb,getElem!_def];rfl
theorem qiq(s:DB)(pos:Nat)(U:(gb s pos).toNat<128):Utf8.decode s pos=((gb s pos).toNat,1):=by
 grind [Utf8.decode,get!_gb]
theorem qlc(s:DB)(pos:Nat)(h:pos<s.size)(hb:128<=(gb s pos).toNat):
  128<=(Utf8.decode s pos).1/\(Utf8.decode s pos).1<=1114111/\1<=(Utf8.decode s pos).2/\pos+(Utf8.decode s pos).2<=s.size/\∀j,j<(Utf8.decode s pos).2->128<=(gb s (pos+j)).toNat:=by
 unfold Utf8.decode;simp only[Bt,get!_gb];rw[Aa Oo];have one:∀j,j<1->128<=(gb s (pos+j)).toNat:=(by grind)
 have Z:=(gb s pos).toNat_lt
 split
 ·rename_i U
  simp only[AF,CI,decide_eq_true_eq]at U
  split
  ·grind
  ·exact⟨by decide,by decide,by decide,by omega,one⟩
 ·split
  ·rename_i U
   simp only[AF,CI,decide_eq_true_eq]at U
   split
   ·grind
   ·exact⟨by decide,by decide,by decide,by omega,one⟩
  ·split
   ·rename_i U
    simp only[AF,CI,decide_eq_true_eq]at U
    split
    ·grind [Utf8.valid]
    ·exact⟨by decide,by decide,by decide,by omega,one⟩
   ·exact⟨by decide,by decide,by decide,by omega,one⟩
theorem qor(s:DB)(n:Nat):∀pos,pos+n<=s.size->(∀j,j<n->128<=(gb s (pos+j)).toNat)->
  (s.data.toList.drop pos).any barB=(s.data.toList.drop (pos+n)).any barB:=by
 induction n with
 | zero=>simp
 | succ n Z=>
  intro pos aa U;have h0:=U 0 Oo;have hb:barB (gb s pos)=false:=by
   grind [barB,qtl]
  rw[qa8 s pos Oo,List.any_cons,hb,Dn,Z (pos+1) Oo (λj hj=>by have:=U (j+1) Oo;rwa[show pos+1+j=pos+(j+1)from by omega])]
  grind
theorem qpn(s:DB)(_:s.size<=140737488355328)(w:DA):
  Gv DM 212 [.string s,.func (.func 213) #[] #[]] w λv w'=>(∃i:Int,v=ii i/\(0<=i↔s.data.toList.any barB=true))/\Ext w w':=by
 have ad:Gv DM 281 [.string s,.func (.func 213) #[] #[],.bool true] w λv w'=>(∃i:Int,v=ii i/\(0<=i↔s.data.toList.any barB=true))/\Ext w w':=by
  refine ze Tryz.func281 Tryz.ntmps281 ?_;refine znm (Mem.nil w) λb w1 hm=>zw ?_;refine qq (λpos:Nat=>[(1,.func (.func 213) #[] #[]),(2,.bool true),(10,pp b)])
   (λpos w2=>pos<=s.size/\Mem w w2 [(b,.stringIter s pos)]/\s.data.toList.any barB=(s.data.toList.drop pos).any barB) (λpos=>s.size-pos) 0 fq (by grind) ?_
  rintro pos w2 ag ⟨hp,hm,ha⟩;(conv=>whnf);refine NextS.mem hm (i:=0) rfl ?_ ?_
  ·intro ae w3 U
   by_cases hb:(gb s pos).toNat<128
   ·have hd:=qiq s pos hb;rw[hd]at U|-;simp only at U|-;have ah:UInt8.ofNat (gb s pos).toNat=gb s pos:=by simp
    (conv=>whnf);refine zT ?_;(conv=>whnf);refine zcv (qnm _ Oo _) ?_;rintro v w4 ⟨rfl,he⟩;have Z:=U.call he;(conv=>whnf);have aa:barR (gb s pos).toNat=barB (gb s pos):=by grind [barR]
    rw[aa];cases af:barB (gb s pos)
    ·(conv=>whnf);refine Tst.beqT ?_;refine zU ?_;(conv=>whnf);refine⟨pos+1,fq,⟨by omega,Z,?_⟩,by omega⟩
     grind [qa8]
    ·(conv=>whnf);refine Tst.beqT ?_;refine zT ?_;(conv=>whnf);refine⟨⟨pos,rfl,?_⟩,Z.ext⟩
     grind [qa8]
   ·have hd:=qlc s pos ae Oo;obtain⟨d1,d2,d3,d4,d5⟩:=hd;(conv=>whnf);refine zT ?_;(conv=>whnf);refine zcv (qnm _ d2 _) ?_;rintro v w4 ⟨rfl,he⟩;have Z:=U.call he;have aa:barR (Utf8.decode s pos).1=false:=by simp[barR];omega
    rw[aa];(conv=>whnf);refine Tst.beqT ?_;refine zU ?_;(conv=>whnf);refine⟨pos+(Utf8.decode s pos).2,fq,⟨by omega,Z,?_⟩,by omega⟩;rw[ha];exact qor s _ pos d4 d5
  ·intro ai;(conv=>whnf);refine zU ?_;(conv=>whnf);refine⟨⟨-1,rfl,?_⟩,hm.ext⟩
   simp_all[AC]
 refine ze Tryz.func212 Tryz.ntmps212 ?_;refine zcv (ad) ?_;rintro v w' ⟨⟨i,rfl,hi⟩,he⟩;conv=>whnf
 simp_all
def refE(s:DB):Nat:=
 if 65536<s.size then 2 else if scal s.data.toList=none then 40 else if s.data.toList.any barB then 50 else 0
theorem qqg(s:DB)(U:s.size<=140737488355328)(w:DA):
  Gv DM 137 [.string s] w λv w'=>v=ii (refE s)/\Ext w w':=by
 refine ze Tryz.func137 Tryz.ntmps137 ?_;refine zC (λ_=>?_) (λ_=>?_)<;>(conv=>whnf)
 ·grind [refE,Ext.refl]
 ·refine zcv (qrg s U _) ?_;rintro v w' ⟨⟨i,rfl,h1,h2,h3⟩,rfl⟩;(conv=>whnf);refine zC (λ_=>?_) (λ_=>?_)<;>(conv=>whnf)
  ·grind [Ext.refl,refE]
  ·have Z:scal s.data.toList≠none:=(by grind)
   refine zcv (qpn s U _) ?_;rintro v w1 ⟨⟨j,rfl,hj⟩,he⟩;(conv=>whnf);refine zC (λ_=>?_) (λ_=>?_)<;>(conv=>whnf)
   all_goals grind [refE]
def qes(c:DE):Bool:=decide (97<=c.toNat/\c.toNat<=122\/65<=c.toNat/\c.toNat<=90)
def qvv(c:DE):Bool:=qes c||decide (48<=c.toNat/\c.toNat<=57\/c.toNat=43\/c.toNat=45\/c.toNat=46)
def qbb:LB->Nat->Nat
 | [],_=>0
 | c::l,k=>if c.toNat=58 then k else if k=0/\qes c=false\/qvv c=false then 0 else qbb l (k+1)
theorem qjb(c:DE)(l:LB)(k:Nat)(U:c.toNat≠58)(Z:97<=c.toNat/\c.toNat<=122\/65<=c.toNat/\c.toNat<=90\/(0<k/\(48<=c.toNat/\c.toNat<=57\/c.toNat=43\/c.toNat=45\/c.toNat=46))):
  qbb (c::l) k=qbb l (k+1):=by
 grind [qbb,qvv,qes]
theorem qd3(c:DE)(l:LB)(k:Nat)(U:c.toNat≠58\/k=0)(Z:¬(97<=c.toNat/\c.toNat<=122\/65<=c.toNat/\c.toNat<=90\/(0<k/\(48<=c.toNat/\c.toNat<=57\/c.toNat=43\/c.toNat=45\/c.toNat=46)))):
  qbb (c::l) k=0:=by
 grind [qbb,qvv,qes]
theorem qmj(c:DE)(l:LB)(k:Nat)(U:c.toNat=58):qbb (c::l) k=k:=by
 grind [qbb]
theorem qd1(s:DB):s.extract 0 0=⟨#[]⟩:=by
 obtain⟨⟨l⟩⟩:=s;rw[ByteArray.extract_mk];simp
theorem q1a(s:DB)(_:s.size<=140737488355328)(w:DA):
  Gv DM 138 [.string s] w λv w'=>v=.string (s.extract 0 (qbb s.data.toList 0))/\Ext w w':=by
 refine ze Tryz.func138 Tryz.ntmps138 ?_;refine znm (Mem.nil w) λb w1 hm=>zw ?_;refine qq (λpos:Nat=>[(0,.string s),(7,pp b)])
  (λpos w2=>pos<=s.size/\Mem w w2 [(b,.stringIter s pos)]/\qbb s.data.toList 0=qbb (s.data.toList.drop pos) pos) (λpos=>s.size-pos) 0 fq (by grind) ?_
 rintro pos w2 ae ⟨hp,hm,Z⟩;(conv=>whnf);refine NextS.mem hm (i:=0) rfl ?_ ?_
 ·intro aa w3 U;have ad:=qa8 s pos aa;rw[ad]at Z
  by_cases hb:(gb s pos).toNat<128
  ·have hd:=qiq s pos hb;rw[hd]at U|-;simp only at U|-;conv=>whnf
   (repeat'(first|((with_reducible refine zT ?_);(conv=>whnf))|((with_reducible refine zU ?_);(conv=>whnf))|((with_reducible refine zC (λ_=>?_) (λ_=>?_))<;>first|(exfalso;omega)|(conv=>whnf))))
   all_goals first
    | (refine⟨pos+1,fq,⟨by omega,U,?_⟩,by omega⟩;grind [qjb])
    | (refine⟨?_,U.ext⟩;rw[Z,qd3 _ _ _ Oo Oo,qd1])
    | (refine SliceS.at_ 0 pos rfl rfl Oo Oo ?_;(conv=>whnf);skip;exact⟨by rw[Z,qmj _ _ _ Oo],U.ext⟩)
  ·obtain⟨d1,d2,d3,d4,d5⟩:=qlc s pos aa Oo;generalize(Utf8.decode s pos).1=r at d1 d2|-;generalize(Utf8.decode s pos).2=n at d3 d4 d5 U;conv=>whnf
   (repeat'(first|((with_reducible refine zT ?_);(conv=>whnf))|((with_reducible refine zU ?_);(conv=>whnf))|((with_reducible refine zC (λ_=>?_) (λ_=>?_))<;>first|(exfalso;omega)|(conv=>whnf))))
   all_goals first
    | (refine⟨?_,U.ext⟩;grind [qd3,qd1])
 ·intro af;rw[AC Ys]at Z;(conv=>whnf);refine zU ?_;(conv=>whnf);exact⟨by rw[Z,qbb,qd1],hm.ext⟩
def iriE(s:DB):Nat:=if refE s≠0 then refE s else if qbb s.data.toList 0=0 then 51 else 0
theorem q09(l:LB)(k:Nat):qbb l k<=k+l.length:=by
 induction l generalizing k<;>grind [qbb]
theorem qhk(s:DB)(n:Nat)(U:n<=s.size):s.extract 0 n=⟨#[]⟩↔n=0:=by
 grind [ByteArray.size,ByteArray.size_extract,qd1]
theorem qjn(s:DB)(hs:s.size<=140737488355328)(w:DA):
  Gv DM 68 [.string s] w λv w'=>v=ii (iriE s)/\Ext w w':=by
 refine ze Tryz.func68 Tryz.ntmps68 ?_;refine zcv (qqg s hs _) ?_;rintro v w1 ⟨rfl,he⟩;(conv=>whnf);refine zC (λ_=>?_) (λ_=>?_)<;>(conv=>whnf)
 ·grind [iriE]
 ·refine zcv (q1a s hs _) ?_;rintro v w2 ⟨rfl,U⟩;have Z:=q09 s.data.toList 0;have aa:qbb s.data.toList 0<=s.size:=by simpa using Z
  (conv=>whnf);refine Tst.seq (λh=>?_) (λh=>?_)
  ·(conv=>whnf);exact⟨by grind [iriE,qhk],he.trans U⟩
  ·(conv=>whnf);exact⟨by grind [iriE,qhk],he.trans U⟩
def es:DB:=⟨#[]⟩
structure PN where
 op:Int
 iri:DB
 a:Int
 b:Int
 fA:oA
 fc:Nat
 f:List DB
 vA:oA
 vc:Nat
 v:List DB
open Go.ChangeShapes Go.WideShapes Go.RowKit
namespace V
section
variable {H:Type} {enc:DD×DF->H} {P:DC}
theorem qie(hl:laidOutB P=true){base:Nat}{W W':DA}{Z:Nat->Bool}:∀{ts:List DD} {vs:DK} {ds:List (DataW H)} {ps:List MemPlace},
  (∀t∈ts,P.readableRec t=true/\t<P.types.size)->DataW.TrodAll enc P W base (λ_=>true) true ts vs ds ps->(∀p∈ps,W.sameAt W' p)->(∀p∈ps,Z p.block=true)->
  DataW.TrodAll enc P W' base Z true ts vs ds ps
 | [],_,_,_,_,h,_,_=>by
  obtain⟨rfl,rfl,rfl⟩:=trodAll_nil h;rfl
 | t::ts,_,_,_,hr,h,h1,h2=>by
  obtain⟨v,vs,d,ds,p,q,rfl,rfl,rfl,ha,hb⟩:=trodAll_cons h;obtain⟨r1,r2⟩:=hr t mh;exact⟨p,q,WideElems.Trod_stays hl r1 r2 ha (λx U=>h1 x (Ah _ U)) (λx U=>h2 x (Ah _ U)),
   qie hl (λt ht=>hr t (zmc ht)) hb (λx U=>h1 x (Ac _ U)) (λx U=>h2 x (Ac _ U)),rfl⟩
theorem qu8{f:Func}{s:ChangeSpec}{U ag Z ah:Bool}{v:DF}{ds gs:List (DataW H)}{before pa pv:List MemPlace}(hW:DataW.Whole enc P f.params.toList s.vars U W args.toList ds gs before)(ae:∀(b:Nat) (sp:Nat->Bool) (hd:Bool),DataW.TrodAll enc P W' b sp hd f.resultTypes.toList (v.resultList f.resultTypes.size) (s.fn H (ds++gs)).results [])(aa:∀sp:Nat->Bool,(∀p∈before,sp p.block=true)->DataW.TrodAll enc P W' 0 sp true f.params.toList args.toList (s.fn H (ds++gs)).args pa)(ad:∀sp:Nat->Bool,(∀p∈before,sp p.block=true)->DataW.TrodVars enc P W' sp s.vars (s.fn H (ds++gs)).vars pv)(al:before=pa++pv)(he:Ext W W')(aj:∀(j:Nat) (t:DD) (r:DF),f.resultTypes[j]?=some t->(v.resultList f.resultTypes.size)[j]?=some r->Value.okWide P W' .any 0 t r):
  s.post enc P f U ag Z ah W args v W':=by
 have ak:=hW.lt;have af:∀p∈before,(λb=>decide (b<W.heap.size)) p.block=true:=(by grind)
 refine⟨ds,gs,before,[],pa,pv,hW,ae _ _ _,aa _ af,ad _ af,Below.frame he _,λ_=>?_⟩;obtain⟨_,_,_,_,_,hz,hn⟩:=hW;refine⟨aj,_,_,([]++pa)++pv,⟨[]++pa,pv,trodAll_append (aa _ (λ_ _=>rfl)) (ae _ _ _),ad _ (λ_ _=>rfl),rfl,?_,?_⟩,?_⟩
 ·intro b off hp;have ai:MemPlace.cell b off∈before:=by simp_all
  rw[Below.frozen he (show(⟨b,off,none⟩:Addr).block<W.heap.size from ak _ ai)];exact hz b off ai
 all_goals simp_all
theorem q9k{f:Func}{s:ChangeSpec}{U aa Z ad:Bool}{v:DF}{ds gs:List (DataW H)}{before:List MemPlace}(hl:laidOutB P=true)(hr:∀t∈f.params.toList,P.readableRec t=true/\t<P.types.size)(hW:DataW.Whole enc P f.params.toList s.vars U W args.toList ds gs before)(hv:s.vars=[])(al:∀(b:Nat) (sp:Nat->Bool) (hd:Bool),DataW.TrodAll enc P W' b sp hd f.resultTypes.toList (v.resultList f.resultTypes.size) (s.fn H ds).results [])(ae:(s.fn H ds).args=ds)(af:(s.fn H ds).vars=[])(he:Ext W W')(ah:∀(j:Nat) (t:DD) (r:DF),f.resultTypes[j]?=some t->(v.resultList f.resultTypes.size)[j]?=some r->Value.okWide P W' .any 0 t r):
  s.post enc P f U aa Z ad W args v W':=by
 have ai:=hW.lt;have aj:=hW;obtain⟨p,q,hA,hV,ag,_,_⟩:=hW;rw[hv]at hV;obtain⟨rfl,rfl⟩:=trodVars_none hV;rw[Bl]at ag;subst ag;refine qu8 (pa:=before) (pv:=[]) aj ?_ ?_ ?_ Js he ah
 ·simp_all
 ·rw[Bl,ae];exact λsp ak=>qie hl hr hA (λx hx=>Below.same he (ai x hx)) ak
 ·rw[Bl,af,hv];exact λ_ _=>rfl
structure Opn(enc:DD×DF->H)(P:DC)(w:DA)(t:DD)(cs:DK):Prop where
 h:∃n d ps,DataW.trod enc P w 0 (λ_=>true) true n t cs=some (d,ps)/\∀m∈DataW.weights P t d,m<=reachBytes
theorem qfl{t:DD}{d:DataW H}{m:Nat}(hm:m∈DataW.weights P t d):∀(U:List DD) (Z:List (DataW H)) (i:Nat),U[i]?=some t->Z[i]?=some d->m∈DataW.weightsEach P U Z
 | [],_,_,h,_=>by simp at h
 | _::_,[],_,_,h=>by simp at h
 | u::U,x::Z,0,h,h'=>by
  grind [DataW.weightsEach]
 | u::U,x::Z,i+1,h,h'=>by
  rw[DataW.weightsEach];exact Ac _ (qfl hm U Z i (by simpa using h) (by simpa using h'))
theorem qgk{t:DD}{d:DataW H}{m:Nat}(Z:m∈DataW.weights P t d):∀(U:List (DataW H)),d∈U->m∈DataW.weightsAll P t U
 | [],h=>by simp at h
 | x::U,h=>by
  rw[DataW.weightsAll]
  rcases Ay.1 h with rfl|h
  ·exact Ah _ Z
  ·exact Ac _ (qgk Z U h)
section
variable {w:DA} {t:DD}
theorem Opn.of{U:List DD}{Z:List (DataW H)}{ps:List MemPlace}(h:DataW.TrodAll enc P w 0 (λ_=>true) true U vs Z ps)(hw:(DataW.weightsEach P U Z).all (·<=reachBytes)=true):
  ∀(i:Nat) u v,U[i]?=some u->vs[i]?=some v->Opn enc P w u v.cells.toList:=by
 have aa:∀(U:List DD) (vs:DK) (Z:List (DataW H)) (ps:List MemPlace),DataW.TrodAll enc P w 0 (λ_=>true) true U vs Z ps->(∀m∈DataW.weightsEach P U Z,m<=reachBytes)->
   ∀(i:Nat) u v,U[i]?=some u->vs[i]?=some v->Opn enc P w u v.cells.toList:=by
  intro U
  induction U with
  | nil=>simp
  | cons t U ih=>
   intro vs Z ps h hw i u v hu hv;obtain⟨x,ad,d,ae,p,q,rfl,rfl,rfl,⟨n,ha⟩,hb⟩:=trodAll_cons h;rw[DataW.weightsEach]at hw;cases i with
   | zero=>
    simp at hu hv;subst hu hv;exact⟨n,d,p,ha,λm hm=>hw m (by grind)⟩
   | succ i=>grind
 grind
theorem Opn.fields{U:Array Field}{cs:DK}(Z:P.underlying t=some (.struct U))(h:Opn enc P w t cs):
  cs.length=P.cellsOf t/\∀(i:Nat) (f:Field),U[i]?=some f->Opn enc P w f.type ((cs.drop f.offset).take (P.cellsOf f.type)):=by
 obtain⟨n,d,ps,h,hw⟩:=h;obtain⟨xs,n,_,hd,hl,aa,hf⟩:=DataW.trod_struct Z h;simp only[Prod.mk.injEq]at hd;obtain⟨rfl,rfl⟩:=hd;refine⟨hl,λi f hi=>?_⟩;have ad:i<xs.length:=by
  grind
 refine⟨n,xs[i].1,xs[i].2,by grind,λm hm=>hw m ?_⟩;rw[DataW.weights,Z];exact qfl hm _ _ i (by simp_all) (by grind)
theorem Opn.string{c:DF}(Z:P.underlying t=some .string)(h:Opn enc P w t [c]):∃s:DB,c=.string s/\s.size<=140737488355328:=by
 obtain⟨n,d,ps,h,hw⟩:=h;obtain⟨s,h1,U,_⟩:=DataW.trod_string Z h;simp only[Prod.mk.injEq]at U;obtain⟨rfl,rfl⟩:=U;refine⟨s,by simpa using h1,?_⟩;have:=hw s.data.toList.length (by grind [DataW.weights]);have e:s.data.toList.length=s.size:=Array.length_toList
 grind [reachBytes]
theorem Opn.int{k:IntKind}{c:DF}(U:P.underlying t=some (.int k))(h:Opn enc P w t [c]):∃n:Int,c=.int k n/\(Lit.int k n).wf=true:=by
 grind [h,DataW.trod_int]
theorem q6d{a:Addr}{v:DF}(h:w.cell? a=some v):a=⟨a.block,a.off,none⟩:=by
 obtain⟨b,o,s⟩:=a;cases s<;>grind [World.cell?]
end
end
end V
open Go.ChangeShapes Go.WideShapes Go.RowKit V
theorem q3r{k:IntKind}{n:Int}(h:(Lit.int k n).wf=true):InR k n:=by
 simp only[Lit.wf,AF,decide_eq_true_eq]at h;cases k<;>exact h
theorem qkd:DM.cellsOf 9=1:=by kernel_rfl
theorem qkc:DM.cellsOf 3=1:=by kernel_rfl
section
variable {H:Type} {enc:DD×DF->H} {W:DA}
instance:Inhabited PN:=⟨⟨0,⟨#[]⟩,0,0,none,0,[],none,0,[]⟩⟩
end
def basesP:List (Int×Int):=[(192,214),(216,246),(248,767),(880,893),(895,8191),(8204,8205),(8304,8591),(11264,12271),(12289,55295),(63744,64975),(65008,65533),(65536,983039)]
def qb3:DK:=basesP.flatMap λx=>[.int .i32 x.1,.int .i32 x.2]
def inP(r:Int)(x:Int×Int):Bool:=decide (x.1<=r/\r<=x.2)
def letN(r:Int):Bool:=decide (97<=r/\r<=122\/65<=r/\r<=90)
def digN(r:Int):Bool:=decide (48<=r/\r<=57)
def qj2(r:Int):Bool:=letN r||basesP.any (inP r)
def qgr(r:Int):Bool:=qj2 r||decide (r=95)
def qd6(r:Int):Bool:=qgr r||digN r||decide (r=45\/r=183\/(768<=r/\r<=879)\/(8255<=r/\r<=8256))
def labB(r:Int):Bool:=qgr r||digN r
theorem q7s:∀x∈basesP,128<=x.1:=by decide
theorem qwv:∀i (h:i<basesP.length),qb3[i*2]?=some (.int .i32 basesP[i].1)/\qb3[i*2+1]?=some (.int .i32 basesP[i].2)/\128<=basesP[i].1:=by
 intro i h;refine⟨?_,?_,q7s _ (AK h)⟩
 all_goals
 have h:i<12:=h;obtain rfl|rfl|rfl|rfl|rfl|rfl|rfl|rfl|rfl|rfl|rfl|rfl:i=0\/i=1\/i=2\/i=3\/i=4\/i=5\/i=6\/i=7\/i=8\/i=9\/i=10\/i=11:=by omega
 all_goals rfl
theorem qsf(s:DB)(p:Nat)(Z:p<=s.size)(U:s.size<=140737488355328)(w:DA):
  Gv DM 216 [.string s,ii p] w λv w'=>v=.tuple #[.int .i32 (decN (s.data.toList.drop p)).1,ii (decN (s.data.toList.drop p)).2]/\w'=w:=by
 by_cases h:p<s.size
 ·exact qx9 s p h U w
 ·have e:s.data.toList.drop p=[]:=AC Ys;rw[e];refine ze Tryz.func216 Tryz.ntmps216 ?_;refine zv ?_;exact⟨rfl,rfl⟩
theorem qi0(r:Int)(w:DA):Gv DM 342 [.int .i32 r] w λv w'=>v=.bool (letN r)/\w'=w:=by
 refine ze Tryz.func342 Tryz.ntmps342 ?_
 (repeat'(first|refine zp ?_|refine zC (λ_=>zw ?_) (λ_=>zw ?_)))
 all_goals(refine⟨Ad Value.bool ?_,rfl⟩;rw[AD];simp[letN];try omega)
theorem qc0(r:Int)(w:DA):Gv DM 285 [.int .i32 r] w λv w'=>v=.bool (digN r)/\w'=w:=by
 refine ze Tryz.func285 Tryz.ntmps285 ?_;refine zC (λ_=>zu ?_) (λ_=>zu ?_)
 all_goals(refine⟨Ad Value.bool ?_,rfl⟩;rw[AD];simp[digN];try omega)
theorem q2e{v:DF}(h:w.cell? ⟨g,0+k,none⟩=some v):w.cell? ⟨g,0+k*1,none⟩=some v:=by rwa[Bx]
theorem qw6{v:DF}(h:w.cell? ⟨g,0+(k+1),none⟩=some v):w.cell? ⟨g,0+(k+1)*1,none⟩=some v:=by rwa[Bx]
theorem q7r(r:Int)(w:DA)(hT:CellsAt w 4 0 qb3):Gv DM 338 [.int .i32 r] w λv w'=>v=.bool (qj2 r)/\w'=w:=by
 have Z:r<128->qj2 r=letN r:=λh=>by
  have:basesP.any (inP r)=false:=by
   rw[List.any_eq_false];intro x hx;obtain⟨i,hi,rfl⟩:=BN.1 hx;have:=(qwv i hi).2.2;simp[inP];omega
  simp[qj2,this]
 have aa:128<=r->qj2 r=basesP.any (inP r):=λh=>by
  have:letN r=false:=by simp[letN];omega
  simp[qj2,this]
 refine ze Tryz.func338 Tryz.ntmps338 ?_;refine zC (λ_=>zw ?_) (λ_=>zw ?_)
 ·refine zcv (qi0 r w) ?_;rintro v w1 ⟨rfl,rfl⟩;(conv=>whnf);exact⟨by rw[Z Oo],rfl⟩
 ·refine qq (λi:Nat=>[(0,.int .i32 r),(3,ii (i*2:Nat))]) (λi w1=>i<=12/\(basesP.take i).any (inP r)=false/\w1=w) (λi=>12-i) 0 fq ⟨by omega,rfl,rfl⟩ ?_;rintro i w1 ad ⟨h1,h2,rfl⟩;(conv=>whnf);refine zC (λ_=>zu ?_) (λ_=>zu ?_)
  ·have hi:i<basesP.length:=show i<12 by omega
   obtain⟨b1,b2,_⟩:=qwv i hi;have U:∀c,inP r basesP[i]=c->(basesP.take (i+1)).any (inP r)=c:=λc hc=>by
    rw[AP hi,Dr,h2,List.any_cons,hc];simp
   refine LoadV.of (q2e (hT _ _ b1)) (zw ?_);refine zC (λ_=>zu ?_) (λ_=>zu ?_)
   ·refine⟨i*2+1,by omega,by omega,?_⟩;refine zu ?_;refine LoadV.of (qw6 (hT _ _ b2)) (zw ?_);refine zt ?_;refine zC (λ_=>zu ?_) (λ_=>zu ?_)
    ·refine⟨Ad Value.bool ?_,rfl⟩;rw[aa Oo];exact(List.any_eq_true.2 ⟨basesP[i],AK hi,by simp[inP];omega⟩).symm
    ·exact⟨i+1,⟨rfl,Ad (Value.int .i64) Oo,trivial⟩,⟨by omega,U _ (by simp[inP];omega),rfl⟩,by omega⟩
   ·exact⟨i+1,⟨rfl,Ad (Value.int .i64) Oo,trivial⟩,⟨by omega,U _ (by simp[inP];omega),rfl⟩,by omega⟩
  ·refine⟨Ad Value.bool ?_,rfl⟩;rw[aa Oo,<-h2,Aj (show 12<=i by omega)]
theorem qmt(r:Int)(w:DA)(U:CellsAt w 4 0 qb3):Gv DM 284 [.int .i32 r] w λv w'=>v=.bool (qgr r)/\w'=w:=by
 refine ze Tryz.func284 Tryz.ntmps284 ?_;refine zcv (q7r r w U) ?_;rintro v Z ⟨rfl,rfl⟩;(conv=>whnf);unfold qgr;cases qj2 r
 ·refine zv ?_
  all_goals(refine⟨Ad Value.bool ?_,rfl⟩;rw[AD];simp;try omega)
 ·refine zv ?_
  all_goals(refine⟨Ad Value.bool ?_,rfl⟩;rw[AD];simp;try omega)
theorem qry(r:Int)(w:DA)(Z:CellsAt w 4 0 qb3):Gv DM 283 [.int .i32 r] w λv w'=>v=.bool (qd6 r)/\w'=w:=by
 refine ze Tryz.func283 Tryz.ntmps283 ?_;refine zcv (qmt r w Z) ?_;rintro v U ⟨rfl,rfl⟩;(conv=>whnf);unfold qd6;cases qgr r
 ·refine zv ?_;refine zcv (qc0 r U) ?_;rintro v U ⟨rfl,rfl⟩;(conv=>whnf);cases digN r
  ·(repeat'(first|refine zp ?_|refine zC (λ_=>zw ?_) (λ_=>zw ?_)))
   all_goals(refine⟨Ad Value.bool ?_,rfl⟩;rw[AD];simp;try omega)
  ·refine zv ?_
   all_goals(refine⟨Ad Value.bool ?_,rfl⟩;rw[AD];simp;try omega)
 ·refine zv ?_
  all_goals(refine⟨Ad Value.bool ?_,rfl⟩;rw[AD];simp;try omega)
theorem qzy(r:Int)(w:DA)(Z:CellsAt w 4 0 qb3):Gv DM 215 [.int .i32 r] w λv w'=>v=.bool (labB r)/\w'=w:=by
 refine ze Tryz.func215 Tryz.ntmps215 ?_;refine zcv (qmt r w Z) ?_;rintro v U ⟨rfl,rfl⟩;(conv=>whnf);unfold labB;cases qgr r
 ·refine zv ?_;refine zcv (qc0 r U) ?_;rintro v U ⟨rfl,rfl⟩;(conv=>whnf);cases digN r
  ·refine zv ?_
   all_goals(refine⟨Ad Value.bool ?_,rfl⟩;rw[AD];simp;try omega)
  ·refine zv ?_
   all_goals(refine⟨Ad Value.bool ?_,rfl⟩;rw[AD];simp;try omega)
 ·refine zv ?_
  all_goals(refine⟨Ad Value.bool ?_,rfl⟩;rw[AD];simp;try omega)
def okT:Bool->DL->Bool
 | d,[] => !d
 | _,r::l=>(qd6 r||decide (r=46))&&okT (decide (r=46)) l
def labL:DL->Bool
 | []=>false
 | r::l=>labB r&&okT false l
noncomputable def qcc(s:DB):Bool:=match scal s.data.toList with
 | some l=>labL l
 | none=>false
theorem qyy(h:(decN l).2=0):scal l=none\/l=[]:=by
 cases l with
 | nil=>exact .inr rfl
 | cons a t=>exact .inl (qh6 Js h)
noncomputable def qng(d:Bool)(l:LB):Bool:=match scal l with
 | some l=>okT d l
 | none=>false
theorem q5w{d:Bool}{s:DB}(hi:i<=s.size)(h:(decN (s.data.toList.drop i)).2=0):qng d (s.data.toList.drop i)=decide (i=s.size/\d=false):=by
 rcases qyy h with U|U
 ·have Z:i≠s.size:=by
   intro e;rw[AC Ys]at U;rw[scal]at U;cases U
  rw[qng,U];simp[Z]
 ·have e:i=s.size:=by
   have:=Ad List.length U;rw[qeo]at this;simp at this;omega
  rw[qng,U,scal];cases d<;>simp[okT,e]
theorem qob{d:Bool}(h:(decN l).2≠0):qng d l=((qd6 (decN l).1||decide ((decN l).1=46))&&qng (decide ((decN l).1=46)) (l.drop (decN l).2)):=by
 have U:l≠[]:=by rintro rfl;exact h rfl
 rw[qng,qfx U h,qng];cases scal (l.drop (decN l).2)with
 | none=>simp
 | some t=>rfl
theorem q33(s:DB):qcc s=if(decN s.data.toList).2=0 then false else labB (decN s.data.toList).1&&qng false (s.data.toList.drop (decN s.data.toList).2):=by
 split
 ·rename_i h
  rcases qyy h with U|U
  ·rw[qcc,U]
  ·rw[qcc,U,scal];rfl
 ·rename_i h
  have Z:s.data.toList≠[]:=by intro e;rw[e]at h;exact h rfl
  rw[qcc,qfx Z h,qng];cases scal (s.data.toList.drop (decN s.data.toList).2)with
  | none=>simp
  | some t=>rfl
theorem qaeq(s:DB)(hs:s.size<=140737488355328)(w:DA)(hT:CellsAt w 4 0 qb3):
  Gv DM 214 [.string s,ii 0,.func (.func 215) #[] #[]] w λv w'=>(∃n:Nat,v=ii n/\qcc s=decide (n≠0/\n=s.size))/\w'=w:=by
 refine ze Tryz.func214 Tryz.ntmps214 ?_;refine zcv (qsf s 0 (Af _) hs w) ?_;rw[Bn];rintro v w1 ⟨rfl,rfl⟩;have aa:=qip s.data.toList;have ad:s.data.toList.length=s.size:=by simp
 have Z:=q33 s;(conv=>whnf);refine zC (λ_=>zu ?_) (λ_=>zu ?_)
 ·refine⟨⟨0,rfl,?_⟩,rfl⟩;rw[Z,Ab Oo];rfl
 ·rw[Aa Oo]at Z;refine zcv (qzy _ w1 hT) ?_;rintro v w1 ⟨rfl,rfl⟩;cases hb:labB (decN s.data.toList).1
  ·rw[hb]at Z;refine zu ?_;refine⟨⟨0,rfl,?_⟩,rfl⟩;rw[Z];rfl
  ·rw[hb]at Z;refine zu ?_;refine qq (λx:Nat×Nat=>[(0,.string s),(1,ii 0),(9,ii x.2),(10,ii x.1)])
    (λx w2=>x.1<=s.size/\x.2<=x.1/\0<x.2/\qcc s=qng (decide (x.2≠x.1)) (s.data.toList.drop x.1)/\w2=w1) (λx=>s.size-x.1) ((decN s.data.toList).2,(decN s.data.toList).2) ⟨rfl,rfl,by exact Ad (Value.int .i64) (Int.zero_add _),by exact Ad (Value.int .i64) (Int.zero_add _),trivial⟩ ⟨by simp only;omega,by simp,by simp only;omega,by simpa using Z,rfl⟩ ?_
   rintro⟨i,e⟩ w2 ae ⟨h1,h2,h3,U,rfl⟩;simp only at h1 h2 h3 U;(conv=>whnf);refine zcv (qsf s i h1 hs w2) ?_;rintro v w2 ⟨rfl,rfl⟩;have aa:=qip (s.data.toList.drop i);rw[qeo]at aa;conv=>whnf
   (repeat'(first|refine zp ?_|refine zC (λ_=>zw ?_) (λ_=>zw ?_)))
   ·refine⟨⟨e,Ad (Value.int .i64) (Int.sub_zero _),?_⟩,rfl⟩;rw[U,q5w h1 Oo]
    by_cases he:e=i
    ·subst he;simp;omega
    ·simp[he];omega
   ·have h5:=qob (d:=decide (e≠i)) (l:=s.data.toList.drop i) Oo;rw[h5,Ax (show ¬(decN (s.data.toList.drop i)).1=46 by omega),Bool.or_false,Am]at U;refine zcv (qry _ w2 hT) ?_;rintro v w2 ⟨rfl,rfl⟩;cases hf:qd6 (decN (s.data.toList.drop i)).1
    ·rw[hf]at U;refine zu ?_;refine⟨⟨e,Ad (Value.int .i64) (Int.sub_zero _),?_⟩,rfl⟩;rw[U];simp;omega
    ·rw[hf]at U;refine zu ?_
     ·exact⟨(i+(decN (s.data.toList.drop i)).2,i+(decN (s.data.toList.drop i)).2),fq,⟨by simp only;omega,Ai _,by simp only;omega,by simpa using U,rfl⟩,by simp only;omega⟩
   ·have h5:=qob (d:=decide (e≠i)) (l:=s.data.toList.drop i) Oo;rw[h5,At (show(decN (s.data.toList.drop i)).1=46 by omega),D8,Ct,Am]at U;refine⟨(i+(decN (s.data.toList.drop i)).2,e),fq,⟨by simp only;omega,by simp only;omega,h3,?_,rfl⟩,by simp only;omega⟩;rw[U]
    congr 1
    exact(At (by simp only;omega)).symm
theorem qur(s:DB)(U:s.size<=140737488355328)(w:DA)(Z:CellsAt w 4 0 qb3):
  Gv DM 139 [.string s,ii 0] w λv w'=>(∃n:Nat,v=ii n/\qcc s=decide (n≠0/\n=s.size))/\w'=w:=by
 refine ze Tryz.func139 Tryz.ntmps139 ?_;refine zcv (qaeq s U w Z) ?_;rintro v w' ⟨⟨n,rfl,h⟩,rfl⟩;(conv=>whnf);exact⟨⟨n,rfl,h⟩,rfl⟩
noncomputable def labE(s:DB):Nat:=if qcc s=true then 0 else 60
theorem q34(s:DB)(U:s.size<=140737488355328)(w:DA)(Z:CellsAt w 4 0 qb3):
  Gv DM 69 [.string s] w λv w'=>v=ii (labE s)/\w'=w:=by
 refine ze Tryz.func69 Tryz.ntmps69 ?_;refine zcv (qur s U w Z) ?_;rintro v w' ⟨⟨n,rfl,h⟩,rfl⟩;(conv=>whnf);unfold labE;rw[h]
 (repeat'(first|refine zp ?_|refine zC (λ_=>zw ?_) (λ_=>zw ?_)))
 ·rw[Aa Ys];exact⟨rfl,rfl⟩
 ·rw[Aa Ys];exact⟨rfl,rfl⟩
 ·rw[Ab Ys];exact⟨rfl,rfl⟩
def encL(r:Nat):LB:=
 if r<0x80 then[UInt8.ofNat r]
 else if r<0x800 then[UInt8.ofNat (0xC0+r/64),UInt8.ofNat (0x80+r%64)]
 else if r<0x10000 then[UInt8.ofNat (0xE0+r/4096),UInt8.ofNat (0x80+r/64%64),UInt8.ofNat (0x80+r%64)]
 else[UInt8.ofNat (0xF0+r/262144),UInt8.ofNat (0x80+r/4096%64),UInt8.ofNat (0x80+r/64%64),UInt8.ofNat (0x80+r%64)]
theorem qahf(n:Nat)(h:n<256):((UInt8.ofNat n).toNat:Int)=n:=by rw[BK];omega
namespace V
theorem Rw.setCell{v:DF}{e:DD}{U n:Nat}(h:Rw w0 w v e U n xs L){t:DD}(hi:L[i]?=some (b,.cells cs t fr))(hw:w'=w.setCell ⟨b,off,none⟩ x):Rw w0 w' v e U n xs (L.set i (b,.cells (cs.setIfInBounds off x) t fr)):=by
 have hm:=h.mem.setCell hi hw;have hb:v.ownBlock≠some b:=h.apart _ (zmg hi);refine⟨hm,?_,λy Z=>?_⟩
 ·subst hw;refine h.own.kept (row:=some b) ⟨rfl,rfl,rfl,by simp[World.setCell],λk _ hk=>Below.heap_setCell _ _ _ _ (λe=>hk (by simp[e]))⟩ ?_;exact Or.inr hb
 ·rcases CO Z with Z|rfl
  ·exact h.apart y Z
  ·exact hb
def qnk(e:DD)(L:DJ):Prop:=∀x∈L,∀c U,x.2≠.cells c e U
theorem AppV.rwS{v:DF}{e:DD}{n:Nat}{t u:DD}{i:TypeInfo}{s:DB}(ht:P.underlying t=some (.slice e))(hu:P.underlying u=some .string)(hi:P.info? e=some i)(hz:i.zero=some (.int .u8 0))(U:i.size=1)(aa:i.bytes=1)(h:Rw w0 w v e 1 n xs L)(hL:qnk e L)(hb:n+s.size<=140737488355328)(hk:∀v' w',Rw w0 w' v' e 1 (n+s.size) (xs++byteCells s.data.toList) L->K v' w'):AppV P #[t,u] ty v (.string s) w K:=by
 obtain⟨v',w',Z,h2,h3,_⟩:=Lib.run_append_own_string (P:=P) w w0.heap.size t u ty e i ht hu hi hz U aa v n xs h.own s (by simp only[maxLen];omega) hb h.mem.ext.size;have hm:=h.grown h3 (λk hk=>⟨(h.own.lt k hk).1,λx hx e=>h.apart x hx (by rw[hk,e])⟩);refine⟨v',w',Z,hk _ _ ⟨hm,h2,λx hx he=>?_⟩⟩;have ad:=hm.get hx
 rcases h2.2 with⟨rfl,_⟩|⟨g,ae,af,rfl,_,hg,_⟩
 ·cases he
 ·cases he;rw[ad]at hg;exact hL x hx _ _ (AR hg)
theorem Fall.conv{U Z:DD}{x:Operand}{u:DF}(ho:o.op=.convert U Z x)(hr:(convert U Z (ev ρ x)).run P w=.ok u w)(hk:K u w):Fall P (execOp (ev ρ) o) w K:=by
 refine⟨.inl ⟨u,w,?_,hk⟩⟩;simp[execOp,ho,hr]
theorem RunV.neqSame{t Z:DD}{j:TypeInfo}(a:Addr)(hp:P.underlying t=some (.pointer Z))(U:P.info? Z=some j)(hk:K (.bool false) w):
  RunV P (do eqGuard .neq t xo yo (.pointer (some a)) (.pointer (some a));binOp .neq t (.pointer (some a)) (.pointer (some a))) w K:=by
 refine⟨.bool false,w,?_,hk⟩;simp[eqGuard,Lib.run_neq_ptr_same w a hp U]
def BldB(b:Nat)(p v:DF):Nat×Obj:=(b,.cells #[p,v] 472)
structure Bld(w0 w:DA)(b:Nat)(l:LB)(L:DJ):Prop where
 h:∃p v,(p=.pointer none\/p=pp b)/\Rw w0 w v 5 1 l.length (byteCells l) (BldB b p v::L)
end V
theorem qoy(b:Nat)(p v:DF)(w0 w:DA)(L:DJ)(hp:p=.pointer none\/p=pp b)(h:Mem w0 w (BldB b p v::L)):
  Gv DM 385 [pp b] w λr w'=>r=.tuple #[]/\((p=pp b/\w'=w)\/w'=w.setCell ⟨b,0,none⟩ (pp b)):=by
 have hc:w.cell? ⟨b,0,none⟩=some p:=by rw[qa (h.get mh)];rfl
 have Z:w.shape? b=some (472,2):=by simp[World.shape?,h.get mh]
 rcases hp with rfl|rfl
 ·refine ze Tryz.func385 Tryz.ntmps385 ?_;refine LoadV.of hc (zu ?_);refine Fall.conv rfl (Lib.run_to_unsafe (t:=472) (e:=472) (cells:=2) _ _ Tryz.underlying470 Tryz.underlying207 (j:=_) (Bd Jk).symm (by decide +kernel) Z (Dk 1)) (zw ?_);refine⟨.inr ⟨pp b,w,by rw[run_callFunc_extern Tryz.func392 Jk Jk Jk (e:=Extern.AbiNoEscape.same) Jk];rfl,?_⟩⟩;(conv=>whnf);refine Fall.conv rfl (Lib.run_from_unsafe (u:=472) (e:=472) (cells:=2) _ _ Tryz.underlying207 Tryz.underlying470 (j:=_) (Bd Jk).symm Z Jk) ?_;refine StoreV.own (h.get mh) (Dk 1) rfl λw' hw=>?_;(conv=>whnf);exact⟨rfl,.inr hw⟩
 ·refine ze Tryz.func385 Tryz.ntmps385 ?_;refine LoadV.of hc (zw ?_);refine zt ?_;refine LoadV.mem (i:=0) Oa rfl rfl (zw ?_);refine RunV.neqSame _ Tryz.underlying470 (j:=_) rfl (zu ?_);exact⟨rfl,.inl ⟨rfl,rfl⟩⟩
theorem qbs(a b:LB):byteCells (a++b)=byteCells a++byteCells b:=by simp[byteCells]
theorem qin(a:LB):(byteCells a).length=a.length:=by simp[byteCells]
theorem qe4(U:qdk P f=true)(h:Calls P f vs.toArray w λe w'=>∃v,e=.returned v/\R v w'):Gv P f vs w R:=⟨U,h⟩
theorem qz5{p v:DF}(Z:qnk 5 L):qnk 5 (BldB b p v::L):=by
 intro x U c fz
 rcases Ay.1 U with rfl|U
 ·intro e;cases e
 ·exact Z x U c fz
theorem qdy(b:Nat)(l:LB)(s:DB)(w0 w:DA)(L:DJ)(h:Bld w0 w b l L)(hL:qnk 5 L)(hs:l.length+s.size<=140737488355328):
  Gv DM 367 [pp b,.string s] w λr w'=>r=.tuple #[ii s.size,.nilIface]/\Bld w0 w' b (l++s.data.toList) L:=by
 obtain⟨p,v,hp,hR⟩:=h;have ad:=qoy b p v w0 w L hp hR.mem;obtain⟨A,c,rfl⟩:=hR.slice;refine ze Tryz.func367 Tryz.ntmps367 ?_;refine zcv (ad) ?_;rintro r w1 ⟨rfl,Z⟩;have aa:Rw w0 w1 (.slice A l.length c) 5 1 l.length (byteCells l) (BldB b (pp b) (.slice A l.length c)::L):=by
  rcases Z with⟨rfl,rfl⟩|Z
  ·exact hR
  ·exact hR.setCell (i:=0) rfl Z
 refine LoadV.own (aa.mem.get mh) rfl (zw ?_);refine AppV.rwS (i:=_) Tryz.underlying32 Tryz.underlying9 (Bd Jk).symm Jk Jk Jk aa (qz5 hL) hs λv' w2 U=>?_;obtain⟨A',c',rfl⟩:=U.slice;refine StoreV.own (U.mem.get mh) (Dl 1) rfl λw3 Z=>?_;have ae:=U.setCell (i:=0) rfl Z;(conv=>whnf);refine⟨rfl,⟨⟨pp b,.slice A' (l.length+s.size) c',.inr rfl,?_⟩⟩⟩;have e:(l++s.data.toList).length=l.length+s.size:=by simp
 rw[e,qbs];exact ae
theorem qim(b:Nat)(l:LB)(w0 w:DA)(L:DJ)(h:Bld w0 w b l L):
  Gv DM 369 [pp b] w λr w'=>r=.string ⟨l.toArray⟩/\Ext w0 w':=by
 obtain⟨p,v,hp,U⟩:=h;have hb:=U.mem.own _ mh;have Z:Lib.BuilderAt 472 5 w0.heap.size b p (Lib.byteCells l) w:=by
  refine⟨hb.1,v,hb.2,?_,U.apart _ mh⟩;have:=U.own;rw[<-qin l]at this;exact this
 refine qe4 Jk ((Tryz.Builder_String_any w0.heap.size b l w ?_ U.mem.ext.size).mono ?_)
 ·rcases hp with rfl|rfl
  ·exact .inl Z
  ·exact .inr Z
 ·rintro e w' ⟨rfl,hB⟩;exact⟨_,rfl,rfl,Below.trans U.mem.ext hB⟩
theorem qns(l:LB)(h:(decN l).2≠0):
  (∃a t,l=a::t/\decN l=(a.toNat,1)/\a.toNat<128)\/
  (∃a b t,l=a::b::t/\decN l=(a.toNat%32*64+b.toNat%64,2)/\192<=a.toNat/\a.toNat<224/\b.toNat/64=2/\128<=a.toNat%32*64+b.toNat%64)\/
  (∃a b c t,l=a::b::c::t/\decN l=((a.toNat%16*64+b.toNat%64)*64+c.toNat%64,3)/\224<=a.toNat/\a.toNat<240/\b.toNat/64=2/\c.toNat/64=2/\
   2048<=(a.toNat%16*64+b.toNat%64)*64+c.toNat%64/\qaw (((a.toNat%16*64+b.toNat%64)*64+c.toNat%64:Nat):Int)=true)\/
  (∃a b c d t,l=a::b::c::d::t/\decN l=(((a.toNat%8*64+b.toNat%64)*64+c.toNat%64)*64+d.toNat%64,4)/\240<=a.toNat/\a.toNat<248/\b.toNat/64=2/\c.toNat/64=2/\d.toNat/64=2/\
   65536<=((a.toNat%8*64+b.toNat%64)*64+c.toNat%64)*64+d.toNat%64/\qaw ((((a.toNat%8*64+b.toNat%64)*64+c.toNat%64)*64+d.toNat%64:Nat):Int)=true):=by
 match l with
 | []=>exact absurd rfl h
 | a::t=>
  have ha:=a.toNat_lt;generalize U:decN (a::t)=d at h|-;unfold decN at U
  by_cases h1:a.toNat<128
  ·have e:qbn a.toNat=(1,a.toNat):=by rw[qbn,Ab h1]
   simp only[e,BD,Br,C7,if_true,accR,Cc,qe5]at U;rw[Aa Js]at U
   left
   refine⟨a,t,rfl,?_,h1⟩;have hs:qaw (a.toNat:Int)=true:=by simp[qaw];omega
   rw[hs]at U
   simpa using U.symm
  by_cases h2:a.toNat<192
  ·have e:qbn a.toNat=(0,0):=by rw[qbn,Aa h1,Ab h2]
   simp[e]at U;rw[<-U]at h;exact absurd rfl h
  by_cases h3:a.toNat<224
  ·have e:qbn a.toNat=(2,a.toNat%32):=by rw[qbn,Aa h1,Aa h2,Ab h3]
   match t with
   | []=>simp[e]at U;rw[<-U]at h;exact absurd rfl h
   | b::t=>
    simp only[e,BC,Br,C9,C7,CA,accR,BV,Cc,Au,Nat.reduceSub]at U;rw[Aa Oo]at U;cases Z:cont b<;>simp only[Z]at U
    ·simp at U;rw[<-U]at h;exact absurd rfl h
    ·rw[Ab True.intro]at U
     split at U
     ·rw[<-U]at h;exact absurd rfl h
     ·rename_i hn
      right;left
      simp[cont]at Z;refine⟨a,b,t,rfl,U.symm,by omega,h3,Z,?_⟩;have aa:qe5 2=128:=rfl;rw[aa]at hn;omega
  by_cases h4:a.toNat<240
  ·have e:qbn a.toNat=(3,a.toNat%16):=by rw[qbn,Aa h1,Aa h2,Aa h3,Ab h4]
   match t with
   | []=>simp[e]at U;rw[<-U]at h;exact absurd rfl h
   | [b]=>simp[e]at U;rw[<-U]at h;exact absurd rfl h
   | b::c::t=>
    simp only[e,BC,Br,C9,C7,CA,accR,BV,Cc,Au,Nat.reduceSub]at U;rw[Aa Oo]at U;cases Z:cont b&&cont c<;>simp only[Z]at U
    ·simp at U;rw[<-U]at h;exact absurd rfl h
    ·rw[Ab True.intro]at U
     split at U
     ·rw[<-U]at h;exact absurd rfl h
     ·rename_i hn
      right;right;left
      simp[cont]at Z;simp only[not_or,Bool.not_eq_false]at hn;refine⟨a,b,c,t,rfl,U.symm,by omega,h4,Z.1,Z.2,?_,hn.2⟩;have:=hn.1;have aa:qe5 3=2048:=rfl;omega
  by_cases h5:a.toNat<248
  ·have e:qbn a.toNat=(4,a.toNat%8):=by rw[qbn,Aa h1,Aa h2,Aa h3,Aa h4,Ab h5]
   match t with
   | []=>simp[e]at U;rw[<-U]at h;exact absurd rfl h
   | [b]=>simp[e]at U;rw[<-U]at h;exact absurd rfl h
   | [b,c]=>simp[e]at U;rw[<-U]at h;exact absurd rfl h
   | b::c::d::t=>
    simp only[e,BC,Br,C9,C7,CA,accR,BV,Cc,Au,Nat.reduceSub]at U;rw[Aa Oo]at U;cases Z:cont b&&(cont c&&cont d)<;>simp only[Z]at U
    ·simp at U;rw[<-U]at h;exact absurd rfl h
    ·rw[Ab True.intro]at U
     split at U
     ·rw[<-U]at h;exact absurd rfl h
     ·rename_i hn
      right;right;right
      simp[cont]at Z;simp only[not_or,Bool.not_eq_false]at hn;refine⟨a,b,c,d,t,rfl,U.symm,by omega,h5,Z.1,Z.2.1,Z.2.2,?_,hn.2⟩;have:=hn.1;have aa:qe5 4=65536:=rfl;omega
  ·have e:qbn a.toNat=(0,0):=by rw[qbn,Aa h1,Aa h2,Aa h3,Aa h4,Aa h5]
   simp[e]at U;rw[<-U]at h;exact absurd rfl h
theorem qqz(n:Nat)(a:DE)(h:n=a.toNat):UInt8.ofNat n=a:=by subst h;simp
theorem q8c(h:(decN l).2≠0):qaw (decN l).1=true/\encL (decN l).1=l.take (decN l).2/\(encL (decN l).1).length=(decN l).2:=by
 rcases qns l h with⟨a,t,rfl,e,U⟩|⟨a,b,t,rfl,e,U,Z,h3,h4⟩|⟨a,b,c,t,rfl,e,U,Z,h3,h4,h5,h6⟩|⟨a,b,c,d,t,rfl,e,U,Z,h3,h4,h5,h6,h7⟩
 ·rw[e];simp only;have hs:qaw (a.toNat:Int)=true:=by simp[qaw];omega
  refine⟨hs,?_⟩;unfold encL;rw[Ab U];simp
 ·rw[e];simp only;have ha:=a.toNat_lt;have hb:=b.toNat_lt;refine⟨by simp[qaw];omega,?_⟩;unfold encL;rw[Aa Oo,Ab Oo];rw[qqz _ a Oo,qqz _ b Oo];simp
 ·rw[e];simp only;have ha:=a.toNat_lt;have hb:=b.toNat_lt;have hc:=c.toNat_lt;refine⟨h6,?_⟩;unfold encL;rw[Aa Oo,Aa Oo,Ab Oo];rw[qqz _ a Oo,qqz _ b Oo,qqz _ c Oo];simp
 ·rw[e];simp only;have ha:=a.toNat_lt;have hb:=b.toNat_lt;have hc:=c.toNat_lt;have hd:=d.toNat_lt;refine⟨h7,?_⟩;unfold encL;rw[Aa Oo,Aa Oo,Aa Oo];rw[qqz _ a Oo,qqz _ b Oo,qqz _ c Oo,qqz _ d Oo];simp
namespace V
theorem NewV.rw{v:DF}{e:DD}{U n:Nat}{o:Obj}{K:Nat->DI}(h:Rw w0 w v e U n xs L)(Z:∀b w',Rw w0 w' v e U n xs ((b,o)::L)->K b w'):NewV w o K:=
 ⟨λb w' hb hw=>Z b w' (h.newBlk hb hw)⟩
theorem Bld.ext(h:Bld w0 w b l L):Ext w0 w:=by
 obtain⟨⟨p,v,Z,U⟩⟩:=h;exact U.mem.ext
end V
theorem BytesS.all{n:Nat}{K:DF->Prop}(h:CellsAt w b 0 (byteCells l))(U:l.length=n)(Z:K (.string ⟨l.toArray⟩)):BytesS w (some ⟨b,0,none⟩) n K:=
 ⟨l,U,λ_=>⟨b,0,rfl,h⟩,Z⟩
def alnB(pure:Bool)(c:DE):Bool:=letN c.toNat||(!pure&&digN c.toNat)
def qac(s:DB)(lo hi:Nat)(pure:Bool):Bool:=s.data.toList.all (alnB pure)&&decide (lo<=s.size/\s.size<=hi)
theorem qd2(s:DB)(lo hi:Nat)(pure:Bool)(_:s.size<=140737488355328)(w:DA):
  Gv DM 291 [.string s,ii lo,ii hi,.bool pure] w λv w'=>v=.bool (qac s lo hi pure)/\Ext w w':=by
 refine ze Tryz.func291 Tryz.ntmps291 ?_;refine znm (Mem.nil w) λb w1 hm=>zw ?_;refine qq (λpos:Nat=>[(0,.string s),(1,ii lo),(2,ii hi),(3,.bool pure),(12,pp b)])
  (λpos w2=>pos<=s.size/\Mem w w2 [(b,.stringIter s pos)]/\s.data.toList.all (alnB pure)=(s.data.toList.drop pos).all (alnB pure)) (λpos=>s.size-pos) 0 fq (by grind) ?_
 rintro pos w2 ae ⟨hp,hm,ha⟩;(conv=>whnf);refine NextS.mem hm (i:=0) rfl ?_ ?_
 ·intro aa w3 U;have Z:alnB pure (gb s pos)=false->qac s lo hi pure=false:=(by grind [qac,qa8])
  have ad:alnB pure (gb s pos)=true->s.data.toList.all (alnB pure)=(s.data.toList.drop (pos+1)).all (alnB pure):=(by grind [qa8])
  by_cases hb:(gb s pos).toNat<128
  ·have hd:=qiq s pos hb;rw[hd]at U|-;simp only at U|-;refine zu ?_;refine zcv (qi0 _ w3) ?_;rintro v w4 ⟨rfl,rfl⟩;cases hl:letN (gb s pos).toNat
   ·cases pure
    ·refine zu ?_;refine zcv (qc0 _ w4) ?_;rintro v w5 ⟨rfl,rfl⟩;cases hg:digN (gb s pos).toNat
     ·have hx:alnB false (gb s pos)=false:=by grind [alnB]
      refine zu ?_;exact⟨by rw[Z hx],U.ext⟩
     ·have hx:alnB false (gb s pos)=true:=by grind [alnB]
      refine zu ?_;exact⟨pos+1,fq,(by grind),by omega⟩
    ·have hx:alnB true (gb s pos)=false:=by rw[alnB,hl];rfl
     refine zu ?_;exact⟨by rw[Z hx],U.ext⟩
   ·have hx:alnB pure (gb s pos)=true:=by rw[alnB,hl];rfl
    refine zu ?_;exact⟨pos+1,fq,(by grind),by omega⟩
  ·have hd:=qlc s pos aa Oo;obtain⟨d1,d2,d3,d4,d5⟩:=hd;have hl:letN (Utf8.decode s pos).1=false:=by simp[letN];omega
   have hg:digN (Utf8.decode s pos).1=false:=by simp[digN];omega
   have hx:alnB pure (gb s pos)=false:=by
    simp[alnB,letN,digN];omega
   refine zu ?_;refine zcv (qi0 _ w3) ?_;rintro v w4 ⟨rfl,rfl⟩;rw[hl];cases pure
   ·refine zu ?_;refine zcv (qc0 _ w4) ?_;rintro v w5 ⟨rfl,rfl⟩;rw[hg];refine zu ?_;exact⟨by rw[Z hx],U.ext⟩
   ·refine zu ?_;exact⟨by rw[Z hx],U.ext⟩
 ·intro af;rw[AC Ys]at ha;have hM:qac s lo hi pure=decide (lo<=s.size/\s.size<=hi):=by rw[qac,ha];rfl
  (conv=>whnf);refine zt ?_;refine zC (λ_=>zu ?_) (λ_=>zu ?_)
  ·exact⟨(by grind),hm.ext⟩
  ·exact⟨(by grind),hm.ext⟩
def qft(s:DB):Bool:=decide (s=⟨#[120]⟩\/s=⟨#[88]⟩)
theorem qag5{a b:DB}(h:a≠b):seq a b=false:=(by grind [qab])
theorem qg3(s:DB)(w:DA):Gv DM 219 [.string s] w λv w'=>v=.bool (qft s)/\w'=w:=by
 refine ze Tryz.func219 Tryz.ntmps219 ?_
 by_cases h:s=⟨#[120]⟩
 ·refine Tst.yes (qab.2 h) (zu ?_);exact⟨Ad Value.bool (At (.inl h)).symm,rfl⟩
 ·refine Tst.no (qag5 h) (zu ?_)
  grind [qab,qft]
theorem qzc(c:DE):IntKind.i32.wrap (c.toNat:Int)=(c.toNat:Int):=by
 have:=c.toNat_lt
 grind [IntKind.wrap,IntKind.bits]
def varB(s:DB):Bool:=qac s 5 8 false||(qac s 4 4 false&&digN (gb s 0).toNat)
def regB(s:DB):Bool:=qac s 2 2 true||(decide (s.size=3)&&digN (gb s 0).toNat&&digN (gb s 1).toNat&&digN (gb s 2).toNat)
theorem qwd(s:DB)(hs:s.size<=140737488355328)(w:DA):Gv DM 295 [.string s] w λv w'=>v=.bool (varB s)/\Ext w w':=by
 have h1:=λw=>qd2 s 5 8 false hs w
 have h2:=λw=>qd2 s 4 4 false hs w
 refine ze Tryz.func295 Tryz.ntmps295 ?_;refine zcv (h1 w) ?_;rintro v w1 ⟨rfl,U⟩;cases m1:qac s 5 8 false
 ·refine zu ?_;refine zcv (h2 w1) ?_;rintro v w2 ⟨rfl,Z⟩;cases m2:qac s 4 4 false
  ·refine zu ?_;exact⟨by grind [varB],U.trans Z⟩
  ·have aa:s.size=4:=by
    grind [qac]
   refine zu ?_;refine⟨0,rfl,by omega,?_⟩;refine zu ?_;refine⟨((gb s 0).toNat:Int),qzc _,?_⟩;refine zu ?_;refine zcv (qc0 _ w2) ?_;rintro v w3 ⟨rfl,rfl⟩;refine zu ?_;exact⟨by grind [varB],U.trans Z⟩
 ·refine zu ?_
  grind [varB]
theorem q03(s:DB)(U:s.size<=140737488355328)(w:DA):Gv DM 294 [.string s] w λv w'=>v=.bool (regB s)/\Ext w w':=by
 have Z:=λw=>qd2 s 2 2 true U w
 refine ze Tryz.func294 Tryz.ntmps294 ?_;refine zcv (Z w) ?_;rintro v w1 ⟨rfl,aa⟩;cases m1:qac s 2 2 true
 ·(conv=>whnf);refine zt ?_;refine zC (λ_=>zu ?_) (λ_=>zu ?_)
  ·refine⟨0,rfl,by omega,?_⟩;refine zu ?_;refine⟨((gb s 0).toNat:Int),qzc _,?_⟩;refine zu ?_;refine zcv (qc0 _ w1) ?_;rintro v w2 ⟨rfl,rfl⟩;have h3:decide (s.size=3)=true:=(by grind)
   cases d0:digN (gb s 0).toNat
   ·refine zu ?_
    grind [regB]
   ·refine zu ?_;refine⟨1,rfl,by omega,?_⟩;refine zu ?_;refine⟨((gb s 1).toNat:Int),qzc _,?_⟩;refine zu ?_;refine zcv (qc0 _ w2) ?_;rintro v w3 ⟨rfl,rfl⟩;cases d1:digN (gb s 1).toNat
    ·refine zu ?_
     grind [regB]
    ·refine zu ?_;refine⟨2,rfl,by omega,?_⟩;refine zu ?_;refine⟨((gb s 2).toNat:Int),qzc _,?_⟩;refine zu ?_;refine zcv (qc0 _ w3) ?_;rintro v w4 ⟨rfl,rfl⟩;refine zu ?_
     grind [regB]
  grind [regB]
 ·refine zu ?_
  grind [regB]
def lowB(c:DE):DE:=if 65<=c.toNat/\c.toNat<=90 then c+32 else c
def lowS(s:DB):DB:=⟨(s.data.toList.map lowB).toArray⟩
def qdo(l:LB)(i:Nat)(z:DK):DN:=(byteCells ((l.take i).map lowB++l.drop i)++z).toArray
theorem qhp{z:DK}(h:i<l.length):(qdo l i z)[i]?=some (.int .u8 l[i].toNat):=by
 unfold qdo byteCells;rw[An,AS Ys,Ao,AV Ys];simp[Bq (Nat.le_of_lt h),h]
theorem qn0(l:LB)(i:Nat)(z:DK)(h:i<=l.length):(qdo l i z).size=l.length+z.length:=by
 simp[qdo,byteCells];omega
theorem qsb{z:DK}(h:i<l.length):(qdo l i z).setIfInBounds i (.int .u8 (lowB l[i]).toNat)=qdo l (i+1) z:=by
 have e:byteCells ((l.take (i+1)).map lowB++l.drop (i+1))++z=byteCells ((l.take i).map lowB)++(.int .u8 (lowB l[i]).toNat::(byteCells (l.drop (i+1))++z)):=by
  rw[AP h];simp only[byteCells,AH,AB,B4,Az,AG,Bi]
 have U:byteCells ((l.take i).map lowB++l.drop i)++z=byteCells ((l.take i).map lowB)++(.int .u8 l[i].toNat::(byteCells (l.drop (i+1))++z)):=by
  rw[Bc h];simp only[byteCells,AH,AB,Az,AG]
 unfold qdo;rw[e,U,List.setIfInBounds_toArray]
 congr 1
 have Z:(byteCells ((l.take i).map lowB)).length=i:=by simp[byteCells];omega
 rw[List.set_append_right _ _ Oo,Z,BD];rfl
theorem qi2{z:DK}(h:i<l.length)(U:lowB l[i]=l[i]):qdo l i z=qdo l (i+1) z:=by
 unfold qdo;rw[AP h,Bc h];simp only[byteCells,AH,AB,B4,Az,AG,Bi,U]
theorem qpu(c:DE)(h:65<=c.toNat/\c.toNat<=90):((lowB c).toNat:Int)=(c.toNat:Int)+32:=by
 rw[lowB,Ab h,UInt8.toNat_add];have:(32:DE).toNat=32:=rfl;omega
theorem qpv(c:DE)(h:¬(65<=c.toNat/\c.toNat<=90)):lowB c=c:=by rw[lowB,Aa h]
theorem V.StoreV.memF{t:DD}{v:DF}{K:DI}(h:Mem w0 w L)(hi:L[i]?=some (b,.cells cs t (m,m+1)))(Z:off<cs.size)(aa:off<m)(h1:qc8 v=true)(hk:∀w',Mem w0 w' (L.set i (b,.cells (cs.setIfInBounds off v) t (m,m+1)))->K w'):StoreV w b off v K:=by
 have U:=h.get (zmg hi);refine⟨⟨cs[off],?_⟩,?_,h1,hk _ (h.setCell hi rfl)⟩
 ·rw[qa U];exact BX Z
 ·simp[World.frozen?,U];omega
theorem qsa(w:DA){s:DB}{z:DK}{t:DD}{K:DF->Prop}(Z:Mem w0 w ((b,.cells (qdo s.data.toList s.size z) t (m,m+1))::L))(hk:K (.string (lowS s))):BytesS w (some ⟨b,0,none⟩) s.size K:=by
 refine⟨s.data.toList.map lowB,by simp,λ_=>⟨b,0,rfl,λk v U=>?_⟩,hk⟩;rw[qa (Z.get mh),As];have e:(qdo s.data.toList s.size z)=(byteCells (s.data.toList.map lowB)++z).toArray:=by
  unfold qdo;rw[Aj Js,AC Js,Bl]
 rw[e,An,AS (Ae.1 U).1];exact U
theorem qfj(s:DB)(hs:s.size<=140737488355328)(w:DA):Gv DM 142 [.string s] w λv w'=>v=.string (lowS s)/\Ext w w':=by
 have ah:s.data.toList.length=s.size:=by simp
 refine ze Tryz.func142 Tryz.ntmps142 ?_;refine⟨λaa cs b w1 ag ad hb af=>?_⟩;obtain⟨z,hz⟩:∃z,z=List.replicate (aa-s.size) (Value.int .u8 0):=⟨_,rfl⟩
 obtain⟨m,ae⟩:∃m,m=cs.size:=⟨_,rfl⟩
 have ai:s.size<=m:=by rw[ae,ad];simp[byteCells]
 have U:Mem w w1 [(b,.cells (qdo s.data.toList 0 z) 5 (m,m+1))]:=by
  rw[ae];have e:qdo s.data.toList 0 z=cs:=by rw[ad,hz];simp[qdo]
  rw[e];exact(Mem.nil w).drew.new hb af
 clear ad hb af ae hz;(conv=>whnf);refine qq (λi:Nat=>[(3,.slice (some ⟨b,0,none⟩) s.size aa),(8,.slice (some ⟨b,0,none⟩) s.size aa),(9,ii s.size),(10,ii i)]) (λi w2=>i<=s.size/\Mem w w2 [(b,.cells (qdo s.data.toList i z) 5 (m,m+1))]) (λi=>s.size-i) 0 fq ⟨by omega,U⟩ ?_;rintro i w2 aj ⟨h1,U⟩;(conv=>whnf);refine zC (λ_=>zw ?_) (λ_=>zw ?_)
 ·have hi:i<s.data.toList.length:=by omega
  refine ElemV.own1 i rfl Oo (zw ?_);refine LoadV.mem U (i:=0) rfl (qhp hi) (zw ?_)
  (repeat'(first|refine zp ?_|refine zC (λ_=>zw ?_) (λ_=>zw ?_)))
  ·refine ElemV.own1 i rfl Oo (zw ?_);refine StoreV.memF (v:=.int .u8 ((s.data.toList[i].toNat:Int)+32)) U (i:=0) rfl (by rw[qn0 _ _ _ Oo];omega) Oo rfl ?_;intro w3 Z;replace Z:Mem w w3 [(b,.cells ((qdo s.data.toList i z).setIfInBounds i (.int .u8 ((s.data.toList[i].toNat:Int)+32))) 5 (m,m+1))]:=Z;rw[<-qpu _ ⟨by omega,by omega⟩,qsb hi]at Z;refine zu ?_;exact⟨i+1,fq,⟨by omega,Z⟩,by omega⟩
  all_goals
   rw[qi2 hi (qpv _ Oo)]at U;exact⟨i+1,fq,⟨by omega,U⟩,by omega⟩
 ·refine qsa w2 (by rw[show i=s.size by omega]at U;exact U) (zw ?_);exact⟨rfl,U.ext⟩
theorem qbf(s:DB)(hs:s.size<=140737488355328)(w:DA):Gv DM 352 [.string s] w λv w'=>v=.string (lowS s)/\Ext w w':=by
 have ah:s.data.toList.length=s.size:=by simp
 refine ze Tryz.func352 Tryz.ntmps352 ?_;refine⟨λae cs b w1 ag aa hb af=>?_⟩;obtain⟨z,hz⟩:∃z,z=List.replicate (ae-s.size) (Value.int .u8 0):=⟨_,rfl⟩
 obtain⟨m,ad⟩:∃m,m=cs.size:=⟨_,rfl⟩
 have ai:s.size<=m:=by rw[ad,aa];simp[byteCells]
 have U:Mem w w1 [(b,.cells (qdo s.data.toList 0 z) 5 (m,m+1))]:=by
  rw[ad];have e:qdo s.data.toList 0 z=cs:=by rw[aa,hz];simp[qdo]
  rw[e];exact(Mem.nil w).drew.new hb af
 clear aa hb af ad hz;(conv=>whnf);refine qq (λi:Nat=>[(3,.slice (some ⟨b,0,none⟩) s.size ae),(4,ii i)]) (λi w2=>i<=s.size/\Mem w w2 [(b,.cells (qdo s.data.toList i z) 5 (m,m+1))]) (λi=>s.size-i) 0 fq ⟨by omega,U⟩ ?_;rintro i w2 aj ⟨h1,U⟩;(conv=>whnf);refine zC (λ_=>zw ?_) (λ_=>zw ?_)
 ·have hi:i<s.data.toList.length:=by omega
  refine ElemV.own1 i rfl Oo (zw ?_);refine LoadV.mem U (i:=0) rfl (qhp hi) (zw ?_);refine zC (λ_=>zu ?_) (λ_=>zu ?_)
  ·refine ElemV.own1 i rfl Oo (zu ?_);refine LoadV.mem U (i:=0) rfl (qhp hi) (zw ?_);refine zt ?_;refine zC (λ_=>zu ?_) (λ_=>zu ?_)
   ·refine ElemV.own1 i rfl Oo (zw ?_);refine LoadV.mem U (i:=0) rfl (qhp hi) (zu ?_);refine ElemV.own1 i rfl Oo (zw ?_);refine StoreV.memF (v:=.int .u8 ((s.data.toList[i].toNat:Int)+32)) U (i:=0) rfl (by rw[qn0 _ _ _ Oo];omega) Oo rfl ?_;intro w3 Z;replace Z:Mem w w3 [(b,.cells ((qdo s.data.toList i z).setIfInBounds i (.int .u8 ((s.data.toList[i].toNat:Int)+32))) 5 (m,m+1))]:=Z;rw[<-qpu _ ⟨by omega,by omega⟩,qsb hi]at Z;refine zu ?_;exact⟨i+1,fq,⟨by omega,Z⟩,by omega⟩
   all_goals
    rw[qi2 hi (qpv _ Oo)]at U;exact⟨i+1,fq,⟨by omega,U⟩,by omega⟩
  all_goals
   rw[qi2 hi (qpv _ Oo)]at U;exact⟨i+1,fq,⟨by omega,U⟩,by omega⟩
 ·refine qsa w2 (by rw[show i=s.size by omega]at U;exact U) (zw ?_);exact⟨rfl,U.ext⟩
def bs(l:LB):DB:=⟨l.toArray⟩
namespace V
theorem Rw.tail{v:DF}{e:DD}{U n:Nat}{x:Nat×Obj}(h:Rw w0 w v e U n xs (x::L)):Rw w0 w v e U n xs L:=
 ⟨h.mem.sub (Ak ..),h.own,λy Z=>h.apart y (zmc Z)⟩
end V
theorem V.Rw.cells{n:Nat}{e:DD}(h:Rw w0 w (.slice A n c) e 1 n xs L)(hn:0<n):
  ∃g,A=some ⟨g,0,none⟩/\w0.heap.size<=g/\g<w.heap.size/\n<=c/\CellsAt w g 0 xs:=by
 rcases h.own.2 with⟨e1,e2⟩|⟨g,ae,af,e1,Z,hg,aa,_,ag,ad⟩
 ·omega
 ·cases e1;refine⟨g,rfl,Z,?_,aa,λk v U=>?_⟩
  ·rcases AN g w.heap.size with h' | h'
   ·exact h'
   ·rw[Bz h']at hg;cases hg
  ·rw[qa hg,As];rw[<-ad,Bv]at U
   split at U
   ·simpa using U
   ·cases U
theorem bsz(a b:DB):(a++b).size=a.size+b.size:=ByteArray.size_append
theorem qqc(r:Int)(w:DA):
  Gv DM 390 [ii r] w λv w'=>v=.bool (qaw r)/\w'=w:=by
 refine ze Tryz.func390 Tryz.ntmps390 ?_
 (repeat'(first|((with_reducible refine zT ?_);(conv=>whnf))|((with_reducible refine zU ?_);(conv=>whnf))|((with_reducible refine zC (λ_=>?_) (λ_=>?_))<;>first|(exfalso;omega)|(conv=>whnf))))
 all_goals(refine⟨Ad Value.bool ((qmi r _).2 ?_),rfl⟩;grind)
theorem qacu{U:Type}{a b:U}{l m:List U}(h:a=b)(k:l=m):a::l=b::m:=by subst h k;rfl
theorem qs3(r:Nat)(h:r<=1114111)(w:DA):
  Gv DM 391 [ii r] w λv w'=>∃b,v=.slice (some ⟨b,0,none⟩) (encL r).length (encL r).length/\CellsAt w' b 0 (byteCells (encL r))/\Ext w w':=by
 have Z:∀(l:LB) (vs:DK) (n b:Nat) (w1:DA),Mem w w1 [(b,.cells vs.toArray 5)]->encL r=l->vs=byteCells l->n=l.length->
   ∃b',Value.slice (some ⟨b,0,none⟩) n n=.slice (some ⟨b',0,none⟩) (encL r).length (encL r).length/\CellsAt w1 b' 0 (byteCells (encL r))/\Ext w w1:=by
  rintro l vs n b w1 U rfl rfl rfl;refine⟨b,rfl,λk v hv=>?_,U.ext⟩;rw[qa (U.get mh),As]
  simpa using hv
 have cv:∀(x:Int) (n:Nat),n<256->x=n->Value.int .u8 x=.int .u8 ((UInt8.ofNat n).toNat:Int):=(by grind [qahf])
 refine ze Tryz.func391 Tryz.ntmps391 ?_
 (repeat'(first|(refine zA ?_;(conv=>whnf))|(refine zB ?_;(conv=>whnf))|((with_reducible refine zC (λ_=>?_) (λ_=>?_))<;>first|(exfalso;omega)|(conv=>whnf))|(refine Wit.conv ⟨by omega,by omega⟩ ?_;(conv=>whnf))))
 ·refine znm (Mem.nil w) λb w1 U=>zw ?_;refine Z [UInt8.ofNat r] _ _ _ _ U (by grind [encL]) ?_ rfl
  grind [byteCells]
 ·refine znm (Mem.nil w) λb w1 U=>zw ?_;refine Z [UInt8.ofNat (0xC0+r/64),UInt8.ofNat (0x80+r%64)] _ _ _ _ U (by grind [encL]) ?_ rfl
  grind [byteCells,qacu]
 ·refine znm (Mem.nil w) λb w1 U=>zw ?_;refine Z [UInt8.ofNat (0xE0+r/4096),UInt8.ofNat (0x80+r/64%64),UInt8.ofNat (0x80+r%64)] _ _ _ _ U (by grind [encL]) ?_ rfl;simp only[byteCells,AB,B4]
  grind [qacu]
 ·refine znm (Mem.nil w) λb w1 U=>zw ?_;refine Z [UInt8.ofNat (0xF0+r/262144),UInt8.ofNat (0x80+r/4096%64),UInt8.ofNat (0x80+r/64%64),UInt8.ofNat (0x80+r%64)] _ _ _ _ U (by grind [encL]) ?_ rfl;simp only[byteCells,AB,B4]
  grind [qacu]
def gacc(r:Int)(l:LB):Int:=l.foldl (λr c=>r*64+c.toNat-128) r
def qm5(n:Nat):Int:=if n=2 then 192 else if n=3 then 224 else if n=4 then 240 else 0
def qec(l:LB):Int:=gacc (((l.headD 0).toNat:Int)-qm5 l.length) l.tail
def qe3(l:LB):Int:=if qaw (qec l)=true/\encL (qec l).toNat=l then qec l else -1
theorem q3c(r:Int)(l:LB)(k:Nat)(h:k<l.length):gacc r (l.take (k+1))=gacc r (l.take k)*64+l[k].toNat-128:=by
 grind [List.take_succ_eq_append_getElem,gacc]
theorem qac5(r:Int)(l:LB)(h:-256<=r/\r<=256):-256*128 ^ l.length<=gacc r l/\gacc r l<=256*128 ^ l.length:=by
 have U:∀(l:LB) (r M:Int),256<=M->-M<=r/\r<=M->-(M*128 ^ l.length)<=gacc r l/\gacc r l<=M*128 ^ l.length:=by
  intro l
  induction l with
  | nil=>grind [gacc]
  | cons c l Z=>
   intro r M hM h;have hc:=c.toNat_lt;have:=Z (r*64+c.toNat-128) (M*128) Oo Oo;rw[Au,Int.pow_succ,Int.mul_comm (128 ^ l.length) 128,<-Int.mul_assoc];exact this
 simp_all[Int.neg_mul]
theorem q3k(l:LB)(b c:Nat)(w:DA)(hb:CellsAt w b 0 (byteCells l))(h1:1<=l.length)(h4:l.length<=4):
  Gv DM 380 [.slice (some ⟨b,0,none⟩) l.length c] w λv w'=>v=ii (qe3 l)/\Ext w w':=by
 have aa:∀k (hk:k<l.length),(byteCells l)[k]?=some (.int .u8 l[k].toNat):=(by grind [byteCells])
 have ad:∀k (hk:k<l.length),l[k].toNat<256:=λk hk=>l[k].toNat_lt
 refine ze Tryz.func380 Tryz.ntmps380 ?_;refine znm (Mem.nil w) λtb w1 hm=>zw ?_;refine StoreA.mem hm (i:=0) rfl (Ai 5) (λv hv=>by simp at hv;rcases hv with rfl|rfl|rfl|rfl<;>rfl) ?_;intro w2 hm;replace hm:Mem w w2 [(tb,.cells #[ii 0,ii 0,ii 192,ii 224,ii 240] 485)]:=hm;(conv=>whnf);have hg:(#[ii 0,ii 0,ii 192,ii 224,ii 240]:DN)[0+l.length*1]?=some (ii (qm5 l.length)):=by
  obtain h|h|h|h:l.length=1\/l.length=2\/l.length=3\/l.length=4:=by omega
  all_goals(rw[h];rfl)
 have al:0<=qm5 l.length/\qm5 l.length<=240:=by grind [qm5]
 have am:=ad 0 Oo;refine zy ?_;refine zW ?_;(conv=>whnf);refine ElemV.own1 0 rfl Oo (zw ?_);refine zW ?_;(conv=>whnf);refine LoadV.cells (hb.ext hm.drew.ext) 0 (aa 0 Oo) (zw ?_);refine zW ?_;(conv=>whnf);refine Wit.conv ⟨by omega,by omega⟩ (zw ?_);(iterate 3 (refine zW ?_;(conv=>whnf)));refine zX ?_;(conv=>whnf);refine zW ?_;(conv=>whnf);refine LoadV.mem hm.drew (i:=0) rfl hg (zw ?_);refine zW ?_;(conv=>whnf);refine zA ?_;(conv=>whnf);(iterate 2 (refine zW ?_;(conv=>whnf)));have an:l.tail.length=l.length-1:=by simp
 have ao:l.headD 0=l[0]:=by cases l with|nil=>simp at h1|cons a t=>rfl
 refine qq (λk:Nat=>[(0,.slice (some ⟨b,0,none⟩) l.length c),(4,ii (gacc ((l[0].toNat:Int)-qm5 l.length) (l.tail.take (k-1)))),(5,ii k)])
  (λk w3=>1<=k/\k<=l.length/\w3=w2.drew) (λk=>l.length-k) 1 fq (by grind) ?_
 rintro k w3 aq ⟨ar,au,rfl⟩;have av:=qac5 ((l[0].toNat:Int)-qm5 l.length) (l.tail.take (k-1)) Oo;have aj:(128:Int) ^ (l.tail.take (k-1)).length<=2097152:=by
  have:(l.tail.take (k-1)).length<=3:=by grind
  obtain h|h|h|h:(l.tail.take (k-1)).length=0\/(l.tail.take (k-1)).length=1\/(l.tail.take (k-1)).length=2\/(l.tail.take (k-1)).length=3:=by omega
  all_goals grind
 (conv=>whnf)
 (repeat'(first|(refine zA ?_;(conv=>whnf))|((with_reducible refine zC (λ_=>?_) (λ_=>?_))<;>first|(exfalso;omega)|(conv=>whnf))))
 ·have ag:k<l.length:=by omega
  have aw:=ad k ag;refine ElemV.own1 k rfl Oo (zw ?_);refine LoadV.of (by have:=hb.ext hm.drew.ext k _ (aa k ag);rwa[As]at this) (zw ?_);refine Wit.conv ⟨by omega,by omega⟩ (zw ?_);(iterate 3 (refine zA ?_;(conv=>whnf)));have ax:k-1<l.tail.length:=by omega
  have ae:gacc ((l[0].toNat:Int)-qm5 l.length) (l.tail.take k)=gacc ((l[0].toNat:Int)-qm5 l.length) (l.tail.take (k-1))*64+l[k].toNat-128:=by
   grind [q3c]
  refine⟨k+1,⟨rfl,?_,rfl,trivial⟩,(by grind),by omega⟩;rw[show k+1-1=k by omega,ae];rfl
 ·obtain rfl:k=l.length:=by omega
  have hG:gacc ((l[0].toNat:Int)-qm5 l.length) (l.tail.take (l.length-1))=qec l:=by
   grind [qec]
  rw[hG];refine zcv (qqc (qec l) _) ?_;rintro v w4 ⟨rfl,rfl⟩;(conv=>whnf);have ah:CellsAt w2.drew.drew b 0 (byteCells l):=hb.ext hm.drew.drew.ext;have af:Ext w w2.drew.drew:=hm.drew.drew.ext;cases ay:qaw (qec l)
  ·refine DrawV.free rfl Jk (zw ?_);refine zD ?_;(conv=>whnf);refine zD ?_;(conv=>whnf);refine zD ?_;(conv=>whnf);refine zf ?_ (by intro Z U;(conv=>whnf);(refine zP ?_;refine zU ?_;(conv=>whnf));exact xq);refine zf ?_ (by intro Z U;(conv=>whnf);(refine zP ?_;refine zU ?_;(conv=>whnf));exact xq);refine zf ?_ (by intro Z U;(conv=>whnf);(refine zP ?_;refine zU ?_;(conv=>whnf));exact xq);refine zf ?_ (by intro Z U;(conv=>whnf);(refine zP ?_;refine zU ?_;(conv=>whnf));exact xq);refine zf ?_ (by intro Z U;(conv=>whnf);(refine zP ?_;refine zU ?_;(conv=>whnf));exact xq);refine zf ?_ (by intro Z U;(conv=>whnf);(refine zP ?_;refine zU ?_;(conv=>whnf));exact xq);refine zf ?_ (by intro Z U;(conv=>whnf);(refine zP ?_;refine zU ?_;(conv=>whnf));exact xq);intro Z U;(conv=>whnf);refine Tst.yes rfl (zw ?_);exact⟨by grind [qe3],af.trans U⟩
  ·obtain⟨r,hr⟩:∃r:Nat,qec l=r:=⟨(qec l).toNat,by grind [qaw]⟩
   have ai:r<=1114111:=by grind [qaw]
   refine DrawV.free rfl Jk (zw ?_);refine zD ?_;(conv=>whnf);refine zD ?_;(conv=>whnf);refine zD ?_;(conv=>whnf);refine zf ?_ (by intro Z U;(conv=>whnf);(refine zP ?_;refine zT ?_;(conv=>whnf));exact xq);apply StepD.of (λv w=>∃b',v=.slice (some ⟨b',0,none⟩) (encL r).length (encL r).length/\CellsAt w b' 0 (byteCells (encL r)))
   ·rintro v w w' ⟨b',rfl,h⟩ he;exact⟨b',rfl,h.ext he⟩
   ·intro Z U;(conv=>whnf);refine Tst.no rfl (zw ?_);rw[hr];refine zcv (qs3 r ai Z) ?_
    simp_all
   (conv=>whnf);apply zsd
   ·intro Z U;(conv=>whnf);rintro _ ⟨b',rfl,h⟩;(conv=>whnf);refine Tst.no rfl (zw ?_);refine BytesS.all h rfl ?_;exact xq
   (conv=>whnf);refine zf ?_ (by intro Z U;(conv=>whnf);(refine zP ?_;refine zT ?_;(conv=>whnf));exact xq);apply zsd
   ·intro Z U;(conv=>whnf);refine Tst.no rfl (zw ?_);refine BytesS.all (ah.ext U) rfl ?_;exact xq
   (conv=>whnf);refine zf ?_ (by intro Z U;(conv=>whnf);(refine zP ?_;refine zT ?_;(conv=>whnf));exact xq);refine zf ?_ (by intro Z U;(conv=>whnf);(refine zP ?_;refine zT ?_;(conv=>whnf));exact xq);intro Z U;(conv=>whnf);intro v _;(conv=>whnf);have ak:seq ⟨(encL r).toArray⟩ ⟨l.toArray⟩=decide (encL r=l):=by
    grind [qab]
   by_cases az:encL r=l
   ·refine Tst.no (by simp_all) (zw ?_);exact⟨by grind [qe3],af.trans U⟩
   ·refine Tst.yes (by simp_all) (zw ?_);exact⟨by grind [qe3],af.trans U⟩
theorem qrk(h:(decN l).2=0):decN l=(0,0):=by
 unfold decN at h|-
 match l with
 | []=>rfl
 | a::t=>
  simp only at h|-
  split
  ·rfl
  ·rename_i U
   rw[Aa U]at h
   split
   ·rename_i Z
    rw[Ab Z]at h
    split
    ·rfl
    ·rename_i hs
     rw[Aa hs]at h;simp only at h;omega
   ·rfl
theorem qacx(r:Nat)(h:qaw r=true)(t:LB):decN (encL r++t)=(r,(encL r).length):=by
 have hr:r<=1114111/\(r<55296\/57343<r):=by simp[qaw]at h;omega
 have Z:∀n:Nat,n<256->(UInt8.ofNat n).toNat=n:=λn hn=>by rw[BK];omega
 unfold encL
 by_cases h1:r<128
 ·rw[Ab h1];have e:qbn r=(1,r):=by rw[qbn,Ab h1]
  simp only[AG,Bi,decN,Z r Oo,e,BD,Br,C7,if_true,accR,Cc,qe5];rw[Aa Js,h];simp
 rw[Aa h1]
 by_cases h2:r<2048
 ·rw[Ab h2];have e:qbn (192+r/64)=(2,r/64):=by rw[qbn,Aa Oo,Aa Oo,Ab Oo];congr 1;omega
  have c:cont (UInt8.ofNat (128+r%64))=true:=by rw[cont,Z _ Oo];simp;omega
  have U:r/64*64+(128+r%64)%64=r:=by omega
  simp only[AG,Bi,decN,Z (192+r/64) Oo,e,Au,Nat.reduceSub,BC,Br,C9,C7,CA,c,if_true,accR,BV,Cc,Z (128+r%64) Oo,U];rw[Aa Oo,Aa (by rw[h,show qe5 2=128 from rfl];simp;omega)];rfl
 rw[Aa h2]
 by_cases h3:r<65536
 ·rw[Ab h3];have e:qbn (224+r/4096)=(3,r/4096):=by rw[qbn,Aa Oo,Aa Oo,Aa Oo,Ab Oo];congr 1;omega
  have c:cont (UInt8.ofNat (128+r%64))=true:=by rw[cont,Z _ Oo];simp;omega
  have c2:cont (UInt8.ofNat (128+r/64%64))=true:=by rw[cont,Z _ Oo];simp;omega
  have U:(r/4096*64+(128+r/64%64)%64)*64+(128+r%64)%64=r:=by omega
  simp only[AG,Bi,decN,Z (224+r/4096) Oo,e,Au,Nat.reduceSub,BC,Br,C9,C7,CA,c,c2,if_true,accR,BV,Cc,Z (128+r%64) Oo,Z (128+r/64%64) Oo,U];rw[Aa Oo,Aa (by rw[h,show qe5 3=2048 from rfl];simp;omega)];rfl
 rw[Aa h3];have e:qbn (240+r/262144)=(4,r/262144):=by rw[qbn,Aa Oo,Aa Oo,Aa Oo,Aa Oo,Ab Oo];congr 1;omega
 have c:cont (UInt8.ofNat (128+r%64))=true:=by rw[cont,Z _ Oo];simp;omega
 have c2:cont (UInt8.ofNat (128+r/64%64))=true:=by rw[cont,Z _ Oo];simp;omega
 have c3:cont (UInt8.ofNat (128+r/4096%64))=true:=by rw[cont,Z _ Oo];simp;omega
 have U:((r/262144*64+(128+r/4096%64)%64)*64+(128+r/64%64)%64)*64+(128+r%64)%64=r:=by omega
 simp only[AG,Bi,decN,Z (240+r/262144) Oo,e,Au,Nat.reduceSub,BC,Br,C9,C7,CA,c,c2,c3,if_true,accR,BV,Cc,Z (128+r%64) Oo,Z (128+r/64%64) Oo,Z (128+r/4096%64) Oo,U];rw[Aa Oo,Aa (by rw[h,show qe5 4=65536 from rfl];simp;omega)];rfl
theorem q3l(L:LB)(n:Nat)(h:0<=qe3 (L.take n))(hn:n<=L.length):decN L=((qe3 (L.take n)).toNat,n):=by
 unfold qe3 at h|-
 split at h
 ·rename_i Z
  rw[Ab Z];obtain⟨U,h2⟩:=Z;have hr:qec (L.take n)=((qec (L.take n)).toNat:Int):=by simp[qaw]at U;omega
  rw[hr]at U;have hd:=qacx _ U (L.drop n);rw[h2,AM]at hd;rw[hd];simp;omega
 ·omega
theorem q8u(L:LB)(h:(decN L).2≠0):qe3 (L.take (decN L).2)=(decN L).1:=by
 obtain⟨U,Z,h3⟩:=q8c h;have hg:qec (L.take (decN L).2)=(decN L).1:=by
  rcases qns L h with⟨a,t,rfl,e,U⟩|⟨a,b,t,rfl,e,U,Z,h3,h4⟩|⟨a,b,c,t,rfl,e,U,Z,h3,h4,h5,h6⟩|⟨a,b,c,d,t,rfl,e,U,Z,h3,h4,h5,h6,h7⟩
  all_goals
   rw[e];simp only[BC,Br,qec,List.headD_cons,List.tail_cons,Au,B6,gacc,BV,Cc]
  ·show(a.toNat:Int)-0=_;omega
  ·show((a.toNat:Int)-192)*64+b.toNat-128=_;omega
  ·show(((a.toNat:Int)-224)*64+b.toNat-128)*64+c.toNat-128=_;omega
  ·show((((a.toNat:Int)-240)*64+b.toNat-128)*64+c.toNat-128)*64+d.toNat-128=_;omega
 unfold qe3;rw[hg,Ab ⟨U,by rw[CY];exact Z⟩]
theorem ql9(s:DB)(p:Nat)(hp:p<s.size)(hs:s.size<=140737488355328)(w:DA):
  Gv DM 348 [.string s,ii p] w λv w'=>v=.tuple #[ii (decN (s.data.toList.drop p)).1,ii (decN (s.data.toList.drop p)).2]/\Ext w w':=by
 obtain⟨L,hL⟩:∃L,L=s.data.toList.drop p:=⟨_,rfl⟩
 have ak:L.length=s.size-p:=by rw[hL,qeo]
 have al:=qip L;have ai:=q8d L;rw[<-hL];refine ze Tryz.func348 Tryz.ntmps348 ?_;refine zv ?_;refine qq (λn:Nat=>[(0,.string s),(1,ii p),(6,ii n)]) (λn w1=>1<=n/\n<=5/\n<=L.length+1/\(∀m,m<n->m=0\/(decN L).2≠m)/\Ext w w1) (λn=>5-n) 1 fq ⟨by omega,by omega,by omega,λm hm=>.inl Oo,xr⟩ ?_;rintro n w1 am ⟨h1,h2,h3,h4,he⟩;conv=>whnf
 (repeat'(first|refine zp ?_|refine zC (λ_=>zw ?_) (λ_=>zw ?_)))
 ·refine SliceS.at_ p (p+n) rfl (show(p:Int)+(n:Int)=((p+n:Nat):Int)by omega) Oo Oo ?_;have hx:(s.extract p (p+n)).data.toList=L.take n:=by
   rw[Lib.extract_data,hL];congr 1;omega
  have af:(s.extract p (p+n)).size=n:=by
   rw[Bm];omega
  (conv=>whnf);refine⟨λag cs b w2 aj ah hb hw=>?_⟩;have Z:Ext w w2:=by rw[hw];exact he.drew.alloc _
  have U:CellsAt w2 b 0 (byteCells (L.take n)):=λk v hv=>by
   have aa:w2.heap[b]?=some (.cells cs 5 (cs.size,cs.size+1)):=by
    subst hw hb;exact heap_alloc_new _ _
   rw[qa aa,As,ah,hx];have:k<(byteCells (L.take n)).length:=(Ae.1 hv).1;rw[An,AS this];exact hv
  have hg:=q3k (L.take n) b ag w2 U (by rw[Ar];omega) (by rw[Ar];omega);rw[show(L.take n).length=(s.extract p (p+n)).size by rw[af,Ar];omega]at hg;(conv=>whnf);refine zcv (hg) ?_;rintro v w3 ⟨rfl,ad⟩;have an:-1<=qe3 (L.take n):=by
   unfold qe3;split
   ·rename_i h;have:=h.1;simp[qaw]at this;omega
   ·omega
  (conv=>whnf);refine zC (λ_=>zu ?_) (λ_=>zu ?_)
  ·have ae:=q3l L n Oo Oo;refine⟨?_,Z.trans ad⟩;rw[ae];show Value.tuple #[ii _,ii _]=.tuple #[ii ((qe3 (L.take n)).toNat:Int),ii (n:Int)];rw[Int.toNat_of_nonneg Oo]
  ·refine⟨n+1,fq,⟨by omega,by omega,by omega,λm hm=>?_,Z.trans ad⟩,by omega⟩
   rcases AN m n with h|h
   ·exact h4 m h
   ·obtain rfl:m=n:=by omega
    refine .inr λhd=>?_;have:=q8u L Oo;rw[hd]at this;omega
 ·have hz:(decN L).2=0:=by
   rcases Bk (decN L).2 with h|h
   ·exact h
   ·rcases h4 (decN L).2 Oo with h' | h'
    ·omega
    ·exact absurd rfl h'
  rw[qrk hz];exact⟨rfl,he⟩
 ·have hz:(decN L).2=0:=by
   rcases Bk (decN L).2 with h|h
   ·exact h
   ·rcases h4 (decN L).2 Oo with h' | h'
    ·omega
    ·exact absurd rfl h'
  rw[qrk hz];exact⟨rfl,he⟩
theorem qjw(s:DB)(hs:s.size<=140737488355328)(w:DA):
  Gv DM 310 [.string s] w λv w'=>(∃i:Int,v=ii i/\i<4611686018427387904/\(scal s.data.toList≠none->i=-1)/\(scal s.data.toList=none->0<=i))/\Ext w w':=by
 refine ze Tryz.func310 Tryz.ntmps310 ?_;refine qq (λp:Nat=>[(0,.string s),(3,ii p)]) (λp w1=>p<=s.size/\(scal s.data.toList=none↔scal (s.data.toList.drop p)=none)/\Ext w w1) (λp=>s.size-p) 0 fq ⟨by omega,by simp,xr⟩ ?_;rintro p w1 ad ⟨h1,Z,he⟩;(conv=>whnf);refine zC (λ_=>zw ?_) (λ_=>zw ?_)
 ·refine zcv (ql9 s p Oo hs _) ?_;rintro v w' ⟨rfl,U⟩;have aa:=qip (s.data.toList.drop p);rw[qeo]at aa;(conv=>whnf);refine zC (λ_=>zu ?_) (λ_=>zu ?_)
  ·refine⟨⟨p,rfl,by omega,λh=>?_,λ_=>by omega⟩,he.trans U⟩;exact absurd (Z.2 (qh6 (qit s p Oo) Oo)) h
  ·refine⟨p+(decN (s.data.toList.drop p)).2,fq,⟨by omega,?_,he.trans U⟩,by omega⟩;rw[Z,qfx (qit s p Oo) Oo,Am];simp
 ·refine⟨⟨-1,rfl,by omega,λ_=>rfl,λh=>?_⟩,he⟩;rw[Z,AC Ys]at h;rw[scal]at h;cases h
theorem qqa(c:DE)(w:DA):
  Gv DM 345 [.int .u8 c.toNat] w λv w'=>v=.bool (barB c)/\w'=w:=by
 have Z:=c.toNat_lt;have U:barB c=true↔(c.toNat<=32\/c.toNat=60\/c.toNat=62\/c.toNat=34\/c.toNat=123\/c.toNat=125\/c.toNat=124\/c.toNat=94\/c.toNat=96\/c.toNat=92):=by
  have e:∀n:Nat,n<256->(c=UInt8.ofNat n↔c.toNat=n):=λn hn=>by
   rw[<-BG,BK];constructor<;>intro h<;>omega
  simp only[barB,decide_eq_true_iff,signs,Ay,Ci,or_false];rw[show(60:DE)=UInt8.ofNat 60 from rfl,show(62:DE)=UInt8.ofNat 62 from rfl,show(34:DE)=UInt8.ofNat 34 from rfl,show(123:DE)=UInt8.ofNat 123 from rfl,show(125:DE)=UInt8.ofNat 125 from rfl,
   show(124:DE)=UInt8.ofNat 124 from rfl,show(94:DE)=UInt8.ofNat 94 from rfl,show(96:DE)=UInt8.ofNat 96 from rfl,show(92:DE)=UInt8.ofNat 92 from rfl]
  rw[e _ Oo,e _ Oo,e _ Oo,e _ Oo,e _ Oo,e _ Oo,e _ Oo,e _ Oo,e _ Oo]
 refine ze Tryz.func345 Tryz.ntmps345 ?_
 (repeat'(first|refine zp ?_|refine zC (λ_=>zw ?_) (λ_=>zw ?_)))
 all_goals(refine⟨Ad Value.bool ?_,rfl⟩;rw[AD,U];simp;try omega)
theorem qqb(c:DE)(w:DA):
  Gv DM 346 [.int .u8 c.toNat] w λv w'=>v=.bool (qes c)/\w'=w:=by
 have U:=c.toNat_lt;refine ze Tryz.func346 Tryz.ntmps346 ?_
 (repeat'(first|refine zp ?_|refine zC (λ_=>zw ?_) (λ_=>zw ?_)))
 all_goals(refine⟨Ad Value.bool ?_,rfl⟩;rw[AD];simp[qes];try omega)
theorem qs4(c:DE)(w:DA):
  Gv DM 347 [.int .u8 c.toNat] w λv w'=>v=.bool (decide (48<=c.toNat/\c.toNat<=57))/\w'=w:=by
 have U:=c.toNat_lt;refine ze Tryz.func347 Tryz.ntmps347 ?_;refine zC (λ_=>zu ?_) (λ_=>zu ?_)
 all_goals(refine⟨Ad Value.bool ?_,rfl⟩;rw[AD];simp;try omega)
theorem qos(s:DB)(p:Nat)(U:p<s.size)(h:(s.data.toList.take p).any barB=false):(s.data.toList.take (p+1)).any barB=barB (gb s p):=by
 rw[qph (by simpa using U),Dr,h,Dn];simp[gb]
theorem qj9(s:DB)(hs:s.size<=140737488355328)(w:DA):
  Gv DM 304 [.string s] w λv w'=>v=ii (refE s)/\Ext w w':=by
 refine ze Tryz.func304 Tryz.ntmps304 ?_;refine zC (λ_=>zw ?_) (λ_=>zw ?_)
 ·exact⟨by rw[refE,Ab Oo];rfl,xr⟩
 ·refine zcv (qjw s hs _) ?_;rintro v w1 ⟨⟨i,rfl,h1,h2,h3⟩,he⟩;(conv=>whnf);refine zC (λ_=>zw ?_) (λ_=>zw ?_)
  ·refine⟨?_,he⟩;rw[refE,Aa Oo,Ab (by by_cases hh:scal s.data.toList=none;exact hh;exact absurd (h2 hh) Oo)];rfl
  ·have Z:scal s.data.toList≠none:=λhh=>by have:=h3 hh;omega
   refine qq (λp:Nat=>[(0,.string s),(3,ii p)]) (λp w2=>p<=s.size/\w2=w1/\(s.data.toList.take p).any barB=false) (λp=>s.size-p) 0 fq ⟨by omega,rfl,by simp⟩ ?_;rintro p w2 aa ⟨hp,rfl,ha⟩;(conv=>whnf);refine zC (λ_=>zu ?_) (λ_=>zu ?_)
   ·refine zcv (qqa (gb s p) _) ?_;rintro v w3 ⟨rfl,rfl⟩;(conv=>whnf);have U:=qos s p Oo ha;cases hb:barB (gb s p)
    ·rw[hb]at U;refine zv ?_;exact⟨p+1,fq,⟨by omega,rfl,U⟩,by omega⟩
    ·rw[hb]at U;refine zv ?_;refine⟨?_,he⟩;have:s.data.toList.any barB=true:=by
      rw[<-AM (p+1) s.data.toList,Dr,U];rfl
     rw[refE,Aa Oo,Aa Z,Ab this];rfl
   ·refine⟨?_,he⟩;rw[Aj Ys]at ha;rw[refE,Aa Oo,Aa Z,Aa (by rw[ha];simp)];rfl
theorem qqd(s:DB)(hs:s.size<=140737488355328)(w:DA):
  Gv DM 305 [.string s] w λv w'=>v=ii (qbb s.data.toList 0)/\w'=w:=by
 refine ze Tryz.func305 Tryz.ntmps305 ?_;refine qq (λp:Nat=>[(0,.string s),(3,ii p)]) (λp w2=>p<=s.size/\w2=w/\qbb s.data.toList 0=qbb (s.data.toList.drop p) p) (λp=>s.size-p) 0 fq ⟨by omega,rfl,rfl⟩ ?_;rintro p w2 ad ⟨hp,rfl,U⟩;conv=>whnf
 (repeat'(first|refine zp ?_|refine zC (λ_=>zw ?_) (λ_=>zw ?_)))
 ·exact⟨by rw[U,qa8 s p Oo,qmj _ _ _ Oo],rfl⟩
 ·rw[qa8 s p Oo]at U
  ·refine zcv (qqb (gb s p) _) ?_;rintro v w3 ⟨rfl,rfl⟩;(conv=>whnf);cases Z:qes (gb s p)
   ·have aa:¬(97<=(gb s p).toNat/\(gb s p).toNat<=122\/65<=(gb s p).toNat/\(gb s p).toNat<=90):=by simpa[qes]using Z
    refine zt ?_;refine zC (λ_=>zu ?_) (λ_=>zu ?_)
    ·exact⟨by rw[U,qd3 _ _ _ Oo Oo];rfl,rfl⟩
    ·refine zcv (qs4 (gb s p) _) ?_;rintro v w3 ⟨rfl,rfl⟩;conv=>whnf
     (repeat'(first|refine zp ?_|refine zC (λ_=>zw ?_) (λ_=>zw ?_)))
     all_goals first
      | exact⟨by rw[U,qd3 _ _ _ Oo Oo];rfl,rfl⟩
      | (refine⟨p+1,fq,⟨by omega,rfl,?_⟩,by omega⟩;rw[U];exact qjb _ _ _ Oo Oo)
   ·have aa:(97<=(gb s p).toNat/\(gb s p).toNat<=122\/65<=(gb s p).toNat/\(gb s p).toNat<=90):=by simpa[qes]using Z
    refine zv ?_
    all_goals(refine⟨p+1,fq,⟨by omega,rfl,?_⟩,by omega⟩;rw[U];exact qjb _ _ _ Oo Oo)
 ·exact⟨by rw[U,AC Ys,qbb];rfl,rfl⟩
theorem qfv(s:DB)(Z:s.size<=140737488355328)(w:DA):
  Gv DM 226 [.string s] w λv w'=>v=ii (iriE s)/\Ext w w':=by
 refine ze Tryz.func226 Tryz.ntmps226 ?_;refine zcv (qj9 s Z _) ?_;rintro v w1 ⟨rfl,U⟩;(conv=>whnf);refine zC (λ_=>zu ?_) (λ_=>zu ?_)
 ·refine zcv (qqd s Z _) ?_;rintro v w2 ⟨rfl,rfl⟩;(conv=>whnf);refine zt ?_;refine zC (λ_=>zw ?_) (λ_=>zw ?_)
  ·exact⟨by rw[iriE,Aa Oo,Ab Oo];rfl,U⟩
  ·exact⟨by rw[iriE,Aa Oo,Aa Oo,show refE s=0 by omega],U⟩
 ·exact⟨by rw[iriE,Ab Oo],U⟩
namespace V
theorem BytesS.rw{n:Nat}{e:DD}{K:DF->Prop}(h:Rw w0 w (.slice A n c) e 1 n (byteCells l) L)(Z:K (.string ⟨l.toArray⟩)):BytesS w A n K:=by
 have hn:l.length=n:=by have:=h.len;simpa[byteCells]using this
 refine⟨l,hn,λU=>?_,Z⟩;have:0<l.length:=Cf.2 U;obtain⟨g,e1,_,_,_,hc⟩:=h.cells Oo;exact⟨g,0,e1,hc⟩
end V
namespace V
theorem Rw.join{v:DF}{e:DD}{Z n:Nat}{L2:DJ}(h:Rw w0 w v e Z n xs L)(hm:Mem w w' L2):Rw w0 w' v e Z n xs (L2++L):=by
 have hc:=h.call hm.ext;refine⟨⟨hc.mem.ext,λx U=>?_,?_⟩,hc.own,λx U=>?_⟩
 ·rcases AU.1 U with U|U
  ·exact⟨AE h.mem.ext.size (hm.own x U).1,(hm.own x U).2⟩
  ·exact hc.mem.own x U
 ·rw[AH,CZ];refine⟨hm.nodup,h.mem.nodup,λa ha b hb aa=>?_⟩;obtain⟨x,U,rfl⟩:=AA.1 ha;obtain⟨y,hy,rfl⟩:=AA.1 hb;have h1:=(hm.own x U).1;have h2:=h.mem.lt (b:=y.1) (o:=y.2) hy;omega
 ·rcases AU.1 U with U|U
  ·intro e;have h1:=(hm.own x U).1;have h2:=h.own.lt _ e;omega
  ·exact h.apart x U
theorem Rw.drew{v:DF}{e:DD}{U n:Nat}(h:Rw w0 w v e U n xs L):Rw w0 w.drew v e U n xs L:=h.call (Ext.refl w).drew
end V
namespace V
theorem quk{o:Obj}(h:w.heap[g]?=some o):g<w.heap.size:=by
 grind
theorem PostO.still{B:List (Option Nat)}{v c:DF}(U:Ext w w')(h:v=c):PostO w B true (λu _=>u=c) v w':=⟨Chg.ext U,h,λh=>by cases h⟩
theorem AppV.own{base e U:Nat}{v:DF}{n:Nat}{t:DD}{i:TypeInfo}(ht:P.underlying t=some (.slice e))(hi:P.info? e=some i)(hz:i.zero=some z)(aa:i.size=U)(ae:z.cells.size=U)(af:0<U)(h:w.ownsRow base e U v n xs)(ag:base<=w.heap.size)(hl:news.length=m*U)(hA:news≠[]->∃b off,A=some ⟨b,off,none⟩/\CellsAt w b off news)(h1:∀u∈news,u.oneCell'=true)(hb:(n+m)*i.bytes<=140737488355328)(ai:n+m<=140737488355328)(hk:∀v' w',w'.ownsRow base e U v' (n+m) (xs++news)->w.grownBy w' v.ownBlock->(v'.ownBlock=v.ownBlock\/v'.ownBlock=some w.heap.size)->K v' w'):AppV P #[t,t] ty v (.slice A m c) w K:=by
 cases A with
 | none=>
  have hn:news=[]:=by
   simp_all
  subst hn;have hm:m=0:=by
   grind [Nat.mul_eq_zero]
  subst hm;refine⟨v,w,?_,hk v w (by simpa using h) ⟨rfl,rfl,rfl,Ai _,λ_ _ _=>rfl⟩ (.inl rfl)⟩
  rcases h.2 with⟨e1,e2⟩|⟨g,aj,ak,e1,_,_,ah,_⟩
  ·subst e1;simp[Builtin.append_,run_underlying ht,sizeOf,typeInfo,hi,Builtin.lenOf,Builtin.firstCells]
  ·subst e1;simp[Builtin.append_,run_underlying ht,sizeOf,typeInfo,hi,Builtin.lenOf,Builtin.firstCells,ah,storeCells]
 | some a=>
  have Z:∀j u,news[j]?=some u->w.cell? (a.add j)=some u:=by
   intro j u hu;obtain⟨b,off,h0,h1⟩:=hA (by grind);cases h0;rw[qaq];exact h1 j u hu
  obtain⟨v',w',ad,h2,h3,_,h5⟩:=run_append_own_at (P:=P) w base t ty e i z U i.bytes ht hi hz aa rfl ae af v n xs h a m c news hl Z h1 (by grind [maxLen]) hb ag;exact⟨v',w',ad,(by grind)⟩
theorem Mem.add{o:Obj}(h:Mem w0 w L)(hg:w.heap[g]?=some o)(h0:w0.heap.size<=g)(Z:∀x∈L,x.1<g):Mem w0 w ((g,o)::L):=by
 refine⟨h.ext,λx U=>?_,?_⟩
 ·rcases Ay.1 U with rfl|U
  ·simp_all
  ·exact h.own x U
 ·simp only[AB,C8];refine⟨λhm=>?_,h.nodup⟩
  grind
end V
def rdC(A:oA)(n c:Nat)(t:DK):Obj:=.cells (Value.slice A n c::t).toArray 358
def seeB(p:DB->Bool):List DB->Bool
 | []=>false
 | x::_=>p x
theorem qku(rb g:Nat)(U:DK)(p:DB->Bool)(rest:List DB)(A:oA)(c:Nat)(t:DK)(w:DA)(hb:w.heap[rb]?=some (rdC A rest.length c t))(hS:SlAt zeS 1 w A rest)(hp:∀x xs w1,rest=x::xs->Ext w w1->Gv DM g (.string x::U) w1 λv w2=>v=.bool (p x)/\Ext w1 w2):
  Gv DM 218 [pp rb,.func (.func g) #[] U.toArray] w λv w'=>v=.bool (seeB p rest)/\Ext w w':=by
 have h0:∀w',Ext w w'->w'.cell? ⟨rb,0,none⟩=some (.slice A rest.length c):=λw' Z=>Z.cell (by rw[qa hb];rfl)
 refine ze Tryz.func218 Tryz.ntmps218 ?_;refine LoadV.of (h0 w (Ext.refl w)) ?_;cases rest with
 | nil=>
  simp only[B6];refine zu ?_;exact⟨rfl,Ext.refl w⟩
 | cons x xs=>
  simp only[Au]at h0|-;refine zu ?_;refine LoadV.of (h0 w (Ext.refl w)) (zu ?_);refine ElemV.sl hS rfl 0 rfl Js ?_;intro b off hc;refine zu ?_;refine LoadV.cell0 hc (zu ?_);have aa:=hp x xs w rfl (Ext.refl w);cases U with
  | nil=>
   (conv=>whnf);refine zcv (aa) ?_;rintro v w2 ⟨rfl,Z⟩;refine zu ?_;exact⟨rfl,Z⟩
  | cons y ys=>
   (conv=>whnf);refine zcv (aa) ?_;rintro v w2 ⟨rfl,Z⟩;refine zu ?_;exact⟨rfl,Z⟩
theorem V.SliceV.tail{x:DB}{xs:List DB}{n:Nat}{k:IntKind}{K:DF->Prop}(hS:SlAt zeS 1 w A (x::xs))(hn:n=xs.length+1)(hc:n<=c)(Z:∀A' c',SlAt zeS 1 w A' xs->xs.length<=c'->K (.slice A' xs.length c')):SliceV 1 A n c (some (.int k 1)) none none K:=by
 subst hn;refine⟨1,xs.length+1,c,rfl,rfl,rfl,by omega,by omega,by omega,λh=>by simp at h,λA' U=>?_⟩;obtain⟨b,off,rfl,h2⟩:=hS.at_ Js;have Z:=Z A' (c-1) ⟨λaa=>?_⟩ Oo
 ·simpa using Z
 ·have ad:0<xs.length:=Cf.2 aa;rw[Aa Oo]at U;refine⟨b,off+1,?_,λj y hy=>?_⟩
  ·rw[U];show some ((⟨b,off,none⟩:Addr).add (1*1))=_;rw[qaq]
  ·have:=h2 (j+1) y (by simpa using hy);rw[show off+1+j*1=off+(j+1)*1 by omega];exact this
theorem qfo(rb i:Nat)(x:DB)(xs:List DB)(A:oA)(c:Nat)(t:DK)(w0 w:DA)(L:DJ)(Z:Mem w0 w L)(hi:L[i]?=some (rb,rdC A (xs.length+1) c t))(hS:SlAt zeS 1 w0 A (x::xs))(hc:xs.length+1<=c):
  Gv DM 222 [pp rb] w λv w'=>v=.string x/\∃A' c',SlAt zeS 1 w0 A' xs/\xs.length<=c'/\Mem w0 w' (L.set i (rb,rdC A' xs.length c' t)):=by
 have U:=Z.get (zmg hi);refine ze Tryz.func222 Tryz.ntmps222 ?_;refine LoadV.of (v:=.slice A (xs.length+1) c) (by rw[rdC]at U;rw[qa U];rfl) ?_;refine ElemV.sl (hS.ext Z.ext) rfl 0 rfl Js ?_;intro b off aa;refine LoadV.cell0 aa ?_;refine LoadV.of (v:=.slice A (xs.length+1) c) (by rw[rdC]at U;rw[qa U];rfl) ?_;refine V.SliceV.tail hS rfl hc ?_;intro A' c' ad ae;refine StoreV.mem Z hi (show 0<t.length+1 by omega) rfl λw2 af=>zw ?_;exact⟨rfl,A',c',ad,ae,af⟩
theorem q6k(x:DB)(Z U:Nat)(hs:x.size<=140737488355328)(w:DA)(hl:w.cell? ⟨Z,0,none⟩=some (ii U)):
  Gv DM 298 [.string x,pp Z] w λv w'=>v=.bool (qac x U 8 false)/\Ext w w':=by
 have h1:=qd2 x U 8 false hs w;refine ze Tryz.func298 Tryz.ntmps298 ?_;refine LoadV.of hl (zw ?_);refine zcv (h1) ?_;rintro v w' ⟨rfl,he⟩;(conv=>whnf);exact⟨rfl,he⟩
theorem qae0{U:Type}{L:List U}{a:U}(h:L[i]?=some a):L.set i a=L:=by
 apply Bj;intro j;rw[Cp]
 split
 ·rename_i e;subst e
  split
  ·exact h.symm
  ·rename_i Z;rw[AY Oo]at h;cases h
 ·rfl
theorem qtf(s:DB):seq s ⟨#[]⟩=decide (s.size=0):=by
 rw[AD,qab,decide_eq_true_iff]
 constructor
 ·rintro rfl;rfl
 ·intro h;obtain⟨a⟩:=s;have:a=#[]:=Array.eq_empty_of_size_eq_zero h;rw[this]
structure TailP(q:DB->Bool)(rest pre rest':List DB)(s:DB):Prop where
 eq:rest=pre++rest'
 all:pre.all q=true
 size:s.size<=9*pre.length
 none:s.size=0↔pre=[]
theorem TailP.step{q:DB->Bool}{rest pre xs:List DB}{x s U:DB}(h:TailP q rest pre (x::xs) s)(Z:q x=true)(hs:U.size=s.size+1+x.size)(hx:x.size<=8):TailP q rest (pre++[x]) xs U:=by
 obtain⟨h1,h2,h3,h4⟩:=h;refine⟨by rw[h1];simp,by simp[h2,Z],by simp;omega,?_⟩
 constructor
 ·intro h;omega
 ·intro h;simp at h
theorem q98(rb i U:Nat)(rest:List DB)(A:oA)(c:Nat)(t:DK)(w0 w:DA)(L:DJ)(hm:Mem w0 w L)(hi:L[i]?=some (rb,rdC A rest.length c t))(hS:SlAt zeS 1 w0 A rest)(hc:rest.length<=c)(hx:∀x∈rest,x.size<=1000000)(hn:rest.length<=1000000):
  Gv DM 223 [pp rb,ii U] w λv w'=>∃pre Z s,TailP (λx=>qac x U 8 false) rest pre Z s/\seeB (λx=>qac x U 8 false) Z=false/\
   v=.tuple #[.string s,.bool (decide (pre≠[]))]/\∃A' c',SlAt zeS 1 w0 A' Z/\Z.length<=c'/\Mem w0 w' (L.set i (rb,rdC A' Z.length c' t)):=by
 refine ze Tryz.func223 Tryz.ntmps223 ?_;refine znm hm ?_;intro lb w1 ai;refine qq (λx:List DB×oA×Nat×DB=>[(0,pp rb),(3,pp lb),(6,.string x.2.2.2)])
  (λx w2=>∃pre,TailP (λx=>qac x U 8 false) rest pre x.1 x.2.2.2/\SlAt zeS 1 w0 x.2.1 x.1/\x.1.length<=x.2.2.1/\Mem w0 w2 ((lb,.cells #[ii U] 3)::L.set i (rb,rdC x.2.1 x.1.length x.2.2.1 t)))
  (λx=>x.1.length) (rest,A,c,⟨#[]⟩) fq ⟨[],⟨rfl,rfl,by simp;rfl,by simp;rfl⟩,hS,hc,by simp only;rw[qae0 hi];exact ai⟩ ?_
 rintro⟨xs,B,d,s⟩ w2 aq ⟨pre,hP,ad,hd,aa⟩;simp only at hP ad hd aa;dsimp only;have af:i<L.length:=(Ae.1 hi).1;have aj:=aa.get mh;have ak:∀x∈xs,x.size<=1000000:=λx al=>hx x (by rw[hP.eq];exact Ac _ al)
 have ar:pre.length<=1000000:=by have:=Ad List.length hP.eq;simp at this;omega
 have au:=hP.size;refine zcv (qku rb 298 [pp lb] (λx=>qac x U 8 false) xs B d t w2 (aa.get (zmg (i:=i+1) (by simp[af]))) (ad.ext aa.ext) (λx ys w3 e he=>q6k x lb U (by have:=ak x (by rw[e];exact AJ ..);omega) w3 (he.cell (by rw[qa aj];rfl)))) ?_;rintro v w3 ⟨rfl,he⟩;have ae:=aa.call he;cases hq:seeB (λx=>qac x U 8 false) xs
 ·refine zu ?_;refine⟨pre,xs,s,hP,hq,?_,B,d,ad,hd,ae.sub (Ak ..)⟩;have e:seq s ⟨#[]⟩=decide (pre=[]):=by
   rw[qtf,AD,decide_eq_true_iff,decide_eq_true_iff];exact hP.none
  rw[e]
  congr 3
  by_cases h:pre=[]<;>simp[h]
 ·obtain⟨x,ys,rfl⟩:∃x ys,xs=x::ys:=by
   cases xs with
   | nil=>cases hq
   | cons x ys=>exact⟨x,ys,rfl⟩
  have hq:qac x U 8 false=true:=hq;have am:x.size<=8:=by simp[qac]at hq;omega
  simp only[Au]at hd ae|-;refine zu ?_;refine zcv (qfo rb (i+1) x ys B d t w0 w3 _ ae (by simp[af]) ad hd) ?_;rintro v w4 ⟨rfl,A',c',an,ao,ag⟩;have ah:Mem w0 w4 ((lb,.cells #[ii U] 3)::L.set i (rb,rdC A' ys.length c' t)):=by
   rw[List.set_cons_succ,CK]at ag;exact ag
  (conv=>whnf);refine⟨by show 1+x.size<=_;omega,?_⟩;(conv=>whnf);refine⟨by show s.size+(_:DB).size<=_;rw[bsz];show s.size+(1+x.size)<=_;omega,?_⟩;(conv=>whnf);exact⟨(ys,A',c',s++((⟨#[45]⟩:DB)++x)),fq,⟨pre++[x],hP.step hq (by rw[bsz,bsz];show s.size+(1+x.size)=_;omega) am,an,ao,ah⟩,by simp⟩
def qe6:Nat->List DB->List DB
 | 0,l=>l
 | _,[]=>[]
 | k+1,x::xs=>if qac x 3 3 true=true then qe6 k xs else x::xs
def qer:List DB->Option (List DB)
 | []=>none
 | x::xs=>if qac x 2 8 true=true then some (if 3<x.size then xs else qe6 3 xs)else none
def tagC(U Z a2 a3:DB)(V E:DF)(a6:DB):DK:=[.string U,.string Z,.string a2,.string a3,V,E,.string a6]
section
variable {w0 w:DA} {L:DJ} {i rb n c off:Nat} {A:oA} {t:DK} {v:DF}
theorem qh1{K:DI}(U:Mem w0 w L)(hi:L[i]?=some (rb,rdC A n c t))(k:Nat)(Z:off=1+k)(hk:k<t.length)(h1:qc8 v=true)(hw:∀w',Mem w0 w' (L.set i (rb,rdC A n c (t.set k v)))->K w'):StoreV w rb off v K:=by
 subst Z;refine StoreV.mem U hi Ys h1 λw' h=>hw w' ?_;have e:(Value.slice A n c::t).toArray.setIfInBounds (1+k) v=(Value.slice A n c::t.set k v).toArray:=by
  grind
 rw[e]at h;exact h
theorem qg4{K:DF->Prop}(U:Mem w0 w L)(hi:L[i]?=some (rb,rdC A n c t))(k:Nat)(Z:off=1+k)(hv:t[k]?=some v)(hk:K v):LoadV w rb off K:=by
 subst Z;exact LoadV.mem U hi (by grind) hk
end
theorem q35(x:DB)(U:x.size<=140737488355328)(w:DA):Gv DM 290 [.string x] w λv w'=>v=.bool (qac x 2 8 true)/\Ext w w':=by
 have Z:=qd2 x 2 8 true U w;refine ze Tryz.func290 Tryz.ntmps290 ?_;refine zcv (Z) ?_;rintro v w' ⟨rfl,he⟩;conv=>whnf
 simp_all
theorem q36(x:DB)(U:x.size<=140737488355328)(w:DA):Gv DM 292 [.string x] w λv w'=>v=.bool (qac x 3 3 true)/\Ext w w':=by
 have Z:=qd2 x 3 3 true U w;refine ze Tryz.func292 Tryz.ntmps292 ?_;refine zcv (Z) ?_;rintro v w' ⟨rfl,he⟩;conv=>whnf
 simp_all
theorem qr7(rb i:Nat)(rest:List DB)(A:oA)(c:Nat)(a0 a2 a3 a6:DB)(V E:DF)(w0 w:DA)(L:DJ)(hm:Mem w0 w L)(hi:L[i]?=some (rb,rdC A rest.length c (tagC a0 ⟨#[]⟩ a2 a3 V E a6)))(hS:SlAt zeS 1 w0 A rest)(hc:rest.length<=c)(hx:∀x∈rest,x.size<=1000000):
  Gv DM 220 [pp rb] w λv w'=>(qer rest=none/\v=.bool false/\Ext w0 w')\/
   (∃ag,qer rest=some ag/\v=.bool true/\∃A' c' b0 b1,SlAt zeS 1 w0 A' ag/\ag.length<=c'/\Mem w0 w' (L.set i (rb,rdC A' ag.length c' (tagC b0 b1 a2 a3 V E a6)))):=by
 have Z:i<L.length:=(by grind)
 refine ze Tryz.func220 Tryz.ntmps220 ?_;refine zcv (qku rb 290 [] (λx=>qac x 2 8 true) rest A c _ w (hm.get (zmg hi)) (hS.ext hm.ext) (λx ys w3 e he=>q35 x (by have:=hx x (by rw[e];exact AJ ..);omega) w3)) ?_;rintro v w1 ⟨rfl,he⟩;have am:=hm.call he;cases rest with
 | nil=>
  refine zu ?_;exact .inl ⟨rfl,rfl,am.ext⟩
 | cons x xs=>
  show putV _ _ _ (Value.bool (qac x 2 8 true)) _;cases hq:qac x 2 8 true
  ·refine zu ?_;exact .inl ⟨by grind [qer],rfl,am.ext⟩
  ·have hR:qer (x::xs)=some (if 3<x.size then xs else qe6 3 xs):=by grind [qer]
   rw[hR];have aw:=hx x mh;simp only[Au]at hi am hc|-;refine zu ?_;refine zcv (qfo rb i x xs A c _ w0 w1 L am hi hS hc) ?_;rintro v w2 ⟨rfl,A2,c2,ao,aq,ar⟩;(conv=>whnf);refine qh1 ar (Ba Z) 0 rfl (show 0<7 by decide) rfl ?_;intro w3 aj;rw[CK]at aj;replace aj:Mem w0 w3 (L.set i (rb,rdC A2 xs.length c2 (tagC x ⟨#[]⟩ a2 a3 V E a6))):=aj;(conv=>whnf);refine qg4 aj (Ba Z) 0 rfl rfl ?_;(conv=>whnf);refine zC (λ_=>zw ?_) (λ_=>zw ?_)
   ·grind
   ·rw[Aa Oo];refine qq (λx:Nat×List DB×oA×Nat×DB=>[(0,pp rb),(3,ii x.1)])
     (λy w2=>y.1<=3/\qe6 3 xs=qe6 (3-y.1) y.2.1/\y.2.2.2.2.size<=y.1*1000001/\(∀x∈y.2.1,x.size<=1000000)/\SlAt zeS 1 w0 y.2.2.1 y.2.1/\y.2.1.length<=y.2.2.2.1/\Mem w0 w2 (L.set i (rb,rdC y.2.2.1 y.2.1.length y.2.2.2.1 (tagC x y.2.2.2.2 a2 a3 V E a6))))
     (λy=>3-y.1) (0,xs,A2,c2,⟨#[]⟩) fq ⟨by simp,rfl,by simp;rfl,(by grind),ao,aq,aj⟩ ?_
    rintro⟨k,ys,B,d,s⟩ w4 ax ⟨h1,h2,h3,h4,ah,ai,ak⟩;simp only at h1 h2 h3 h4 ah ai ak;dsimp only;(conv=>whnf);refine zC (λ_=>zu ?_) (λ_=>zu ?_)
    ·have hk:3-k=(2-k)+1:=by omega
     refine zcv (qku rb 292 [] (λx=>qac x 3 3 true) ys B d _ w4 (ak.get (zmg (Ba Z))) (ah.ext ak.ext) (λx zs w3 e he=>q36 x (by have:=h4 x (by rw[e];exact AJ ..);omega) w3)) ?_;rintro v w5 ⟨rfl,au⟩;have al:=ak.call au;cases ys with
     | nil=>
      refine zu ?_;refine .inr ⟨[],?_,rfl,B,d,x,s,ah,ai,al⟩;rw[h2,hk];rfl
     | cons y zs=>
      show putV _ _ _ (Value.bool (qac y 3 3 true)) _;have av:qe6 (2-k+1) (y::zs)=if qac y 3 3 true=true then qe6 (2-k) zs else y::zs:=rfl;rw[hk,av]at h2;cases hq:qac y 3 3 true
      ·rw[Aa (by rw[hq];simp)]at h2;refine zu ?_
       grind
      ·rw[Ab hq]at h2;simp only[Au]at al ai|-;have hy:=h4 y mh;(conv=>whnf);refine zt ?_;refine zC (λ_=>zw ?_) (λ_=>zw ?_)
       ·
        refine qg4 al (Ba Z) 1 rfl rfl ?_;(conv=>whnf);refine⟨by show s.size+1<=_;omega,?_⟩;(conv=>whnf);refine qh1 al (Ba Z) 1 rfl (show 1<7 by decide) rfl ?_;intro w7 an;rw[CK]at an;replace an:Mem w0 w7 (L.set i (rb,rdC B (zs.length+1) d (tagC x (s++(⟨#[45]⟩:DB)) a2 a3 V E a6))):=an;(conv=>whnf);refine DrawV.inv (λS w=>(S 11=false/\(bif S 6 then(∃A' c',SlAt zeS 1 w0 A' zs/\zs.length<=c'/\Mem w0 w (L.set i (rb,rdC A' zs.length c' (tagC x (s++(⟨#[45]⟩:DB)) a2 a3 V E a6))))else Mem w0 w (L.set i (rb,rdC B (zs.length+1) d (tagC x (s++(⟨#[45]⟩:DB)) a2 a3 V E a6)))))\/
          (S 11=true/\S 4=true/\S 6=true/\∃A' c',SlAt zeS 1 w0 A' zs/\zs.length<=c'/\Mem w0 w (L.set i (rb,rdC A' zs.length c' (tagC x ((s++(⟨#[45]⟩:DB))++y) a2 a3 V E a6))))) rfl Jk (.inl ⟨rfl,an.drew⟩) ?_
        (conv=>whnf);(iterate 4 (refine zi ?_));refine StepI.of (.string (s++(⟨#[45]⟩:DB))) (λS wd hk hp U=>?_) (zw ?_)
        ·obtain⟨ae,U⟩:=U.resolve_right (λh=>by have:=h.2.1;rw[hk]at this;cases this);(conv=>whnf);cases h6:S 6
         ·rw[h6]at U;refine qg4 U (Ba Z) 1 rfl rfl ?_;(conv=>whnf);exact⟨rfl,.inl ⟨ae,by show bif S 6 then _ else _;simp_all⟩⟩
         ·rw[h6]at U;obtain⟨A',c',aa,ad,hM⟩:=U;refine qg4 hM (Ba Z) 1 rfl rfl ?_;(conv=>whnf);exact⟨rfl,.inl ⟨ae,by show bif S 6 then _ else _;simp_all⟩⟩
        refine zi ?_;refine StepI.of (.string y) (λS wd hk hp U=>?_) (zw ?_)
        ·obtain⟨ae,U⟩:=U.resolve_right (λh=>by have:=h.2.2.1;rw[hk]at this;cases this);have h6:S 6=false:=hk;rw[h6]at U;(conv=>whnf);refine zcv (qfo rb i y zs B d _ w0 wd _ U (Ba Z) ah ai) ?_;rintro v w6 ⟨rfl,A',c',aa,ad,af⟩;rw[CK]at af;(conv=>whnf);exact⟨rfl,.inl ⟨ae,A',c',aa,ad,af⟩⟩
        refine StepI.of (.string ((s++(⟨#[45]⟩:DB))++y)) (λS wd hk hp U=>zw ?_) (zw ?_)
        ·refine⟨by rw[bsz];show s.size+1+y.size<=_;omega,?_⟩;(conv=>whnf);exact⟨rfl,U⟩
        (iterate 3 (refine zi ?_));refine StepI.of undef (λS wd hk hp U=>?_) (zw ?_)
        ·obtain⟨ae,U⟩:=U.resolve_right (λh=>by have:=h.1;rw[hk]at this;cases this);have h4:=hp 4 Od;have h6:=hp 6 Od;rw[h6]at U;obtain⟨A',c',aa,ad,hM⟩:=U;(conv=>whnf);refine qh1 hM (Ba Z) 1 rfl (show 1<7 by decide) rfl ?_;intro w6 af;rw[CK]at af;(conv=>whnf);exact⟨rfl,.inr ⟨rfl,h4,h6,A',c',aa,ad,af⟩⟩
        intro w6 U;obtain⟨_,_,_,A',c',aa,ad,hM⟩:=U.resolve_left (λh=>by have:=h.1;cases this);refine zu ?_;refine⟨(k+1,zs,A',c',(s++(⟨#[45]⟩:DB))++y),fq,⟨by omega,?_,?_,(by grind),aa,ad,hM⟩,by omega⟩
        ·simp_all
        ·simp only[bsz,show(⟨#[45]⟩:DB).size=1 from rfl];omega
       ·skip
        refine DrawV.inv (λS w=>(S 11=false/\(bif S 6 then(∃A' c',SlAt zeS 1 w0 A' zs/\zs.length<=c'/\Mem w0 w (L.set i (rb,rdC A' zs.length c' (tagC x s a2 a3 V E a6))))else Mem w0 w (L.set i (rb,rdC B (zs.length+1) d (tagC x s a2 a3 V E a6)))))\/
          (S 11=true/\S 4=true/\S 6=true/\∃A' c',SlAt zeS 1 w0 A' zs/\zs.length<=c'/\Mem w0 w (L.set i (rb,rdC A' zs.length c' (tagC x (s++y) a2 a3 V E a6))))) rfl Jk (.inl ⟨rfl,al.drew⟩) ?_
        (conv=>whnf);(iterate 4 (refine zi ?_));refine StepI.of (.string s) (λS wd hk hp U=>?_) (zw ?_)
        ·obtain⟨ae,U⟩:=U.resolve_right (λh=>by have:=h.2.1;rw[hk]at this;cases this);(conv=>whnf);cases h6:S 6
         ·rw[h6]at U;refine qg4 U (Ba Z) 1 rfl rfl ?_;(conv=>whnf);exact⟨rfl,.inl ⟨ae,by show bif S 6 then _ else _;simp_all⟩⟩
         ·rw[h6]at U;obtain⟨A',c',aa,ad,hM⟩:=U;refine qg4 hM (Ba Z) 1 rfl rfl ?_;(conv=>whnf);exact⟨rfl,.inl ⟨ae,by show bif S 6 then _ else _;simp_all⟩⟩
        refine zi ?_;refine StepI.of (.string y) (λS wd hk hp U=>?_) (zw ?_)
        ·obtain⟨ae,U⟩:=U.resolve_right (λh=>by have:=h.2.2.1;rw[hk]at this;cases this);have h6:S 6=false:=hk;rw[h6]at U;(conv=>whnf);refine zcv (qfo rb i y zs B d _ w0 wd _ U (Ba Z) ah ai) ?_;rintro v w6 ⟨rfl,A',c',aa,ad,af⟩;rw[CK]at af;(conv=>whnf);exact⟨rfl,.inl ⟨ae,A',c',aa,ad,af⟩⟩
        refine StepI.of (.string (s++y)) (λS wd hk hp U=>zw ?_) (zw ?_)
        ·refine⟨by omega,?_⟩;(conv=>whnf);exact⟨rfl,U⟩
        (iterate 3 (refine zi ?_));refine StepI.of undef (λS wd hk hp U=>?_) (zw ?_)
        ·obtain⟨ae,U⟩:=U.resolve_right (λh=>by have:=h.1;rw[hk]at this;cases this);have h4:=hp 4 Od;have h6:=hp 6 Od;rw[h6]at U;obtain⟨A',c',aa,ad,hM⟩:=U;(conv=>whnf);refine qh1 hM (Ba Z) 1 rfl (show 1<7 by decide) rfl ?_;intro w6 af;rw[CK]at af;(conv=>whnf);exact⟨rfl,.inr ⟨rfl,h4,h6,A',c',aa,ad,af⟩⟩
        intro w6 U;obtain⟨_,_,_,A',c',aa,ad,hM⟩:=U.resolve_left (λh=>by have:=h.1;cases this);refine zu ?_;refine⟨(k+1,zs,A',c',s++y),fq,⟨by simp only;omega,?_,?_,λx hx=>h4 x (zmc hx),aa,ad,hM⟩,by omega⟩
        all_goals grind
    ·refine .inr ⟨ys,?_,rfl,B,d,x,s,ah,ai,ak⟩;rw[h2,show 3-k=0 by omega];rfl
open Go.RowKit
namespace V
structure RowB(e:DD)(xs:DK)(L:DJ)(v:DF):Prop where
 h:(v=.slice none 0 0/\xs=[])\/∃g cap cur,v=.slice (some ⟨g,0,none⟩) xs.length cap/\(g,Obj.cells cur e)∈L/\xs.length<=cap/\cap<=maxLen/\cur.size=cap/\cur.toList.take xs.length=xs
section
variable {w0 w:DA} {L L':DJ} {e:DD} {xs:DK} {v:DF}
theorem RowB.nil(e:DD)(L:DJ):RowB e [] L (.slice none 0 0):=⟨Js⟩
theorem RowB.owns(h:RowB e xs L v)(hm:Mem w0 w L):w.ownsRow w0.heap.size e 1 v xs.length xs:=by
 refine⟨Oo,?_⟩
 rcases h.h with⟨rfl,rfl⟩|⟨g,U,Z,rfl,hg,h1,h2,h3,h4⟩
 ·simp
 ·exact .inr ⟨g,U,Z,rfl,(hm.own _ hg).1,hm.get hg,h1,h2,by omega,by simp_all⟩
theorem RowB.keep(h:RowB e xs L v)(hk:∀y∈L,v.ownBlock=some y.1->y∈L'):RowB e xs L' v:=by
 refine⟨?_⟩
 rcases h.h with h|⟨g,U,Z,rfl,hg,h1⟩
 ·exact .inl h
 ·exact .inr ⟨g,U,Z,rfl,hk _ hg rfl,h1⟩
theorem RowB.in_(h:RowB e xs L v)(U:v.ownBlock=some g):∃o,(g,o)∈L:=by
 rcases h.h with⟨rfl,_⟩|⟨g',Z,aa,rfl,h',_⟩
 ·cases U
 ·cases U;grind
theorem RowB.slice(h:RowB e xs L v):∃A c,v=.slice A xs.length c:=by
 rcases h.h with⟨rfl,rfl⟩|⟨g,U,Z,rfl,_⟩
 all_goals simp
theorem RowB.sl{l:List DB}{n:Nat}(h:RowB e (l.map Value.string) L (.slice A n c))(hm:Mem w0 w L):SlAt zeS 1 w A l:=by
 refine⟨λaa=>?_⟩
 rcases h.h with⟨_,h0⟩|⟨g,ad,Z,hv,hg,h1,_,_,h4⟩
 ·simp_all
 ·cases hv;refine⟨g,0,rfl,λj x hx k u hu=>?_⟩;cases k with
  | succ k=>simp[zeS]at hu
  | zero=>
   simp only[zeS,AQ,AI]at hu;subst hu;have U:(Z.toList.take (l.map Value.string).length)[j]?=some (.string x):=by simp_all
   rw[Bv]at U
   split at U
   ·rw[qa (hm.get hg)]
    simpa using U
   ·cases U
end
theorem AppV.blk{e t:DD}{i:TypeInfo}{n:Nat}(ht:P.underlying t=some (.slice e))(hi:P.info? e=some i)(hz:i.zero=some z)(aa:i.size=1)(af:z.cells.size=1)(ag:i.bytes<=16)(U:Mem w0 w L)(hr:RowB e xs L (.slice A n c))(hn:n=xs.length)(hx:x.oneCell'=true)(hb:w.cell? ⟨nb,0,none⟩=some x)(ad:n+1<=8000000000000)(hk:∀A' c' w' L',Mem w0 w' L'->RowB e (xs++[x]) L' (.slice A' (n+1) c')->(∀y∈L,Value.ownBlock (.slice A n c)≠some y.1->y∈L')->
   (∀g,Value.ownBlock (.slice A' (n+1) c')=some g->Value.ownBlock (.slice A n c)=some g\/∀y∈L,y.1≠g)->K (.slice A' (n+1) c') w'):AppV P #[t,t] ty (.slice A n c) (.slice (some ⟨nb,0,none⟩) 1 1) w K:=by
 subst hn;refine AppV.own (news:=[x]) ht hi hz aa af Od (hr.owns U) U.ext.size rfl (λ_=>⟨nb,0,rfl,λk u hu=>?_⟩) (by grind) ?_ Oo ?_
 ·grind
 ·exact AE (BF ad ag) Od
 ·intro v' w' ho hg ak
  rcases ho.2 with⟨_,h0⟩|⟨g,ah,ai,rfl,al,am,h1,h2,h3,h4⟩
  ·omega
  ·have ae:∀y∈L,y.1<w.heap.size:=λy Z=>U.lt (b:=y.1) (o:=y.2) Z
   have an:∀y∈L,Value.ownBlock (.slice A xs.length c)≠some y.1->y.1≠g:=(by grind [Value.ownBlock])
   refine hk _ ah w' ((g,.cells ai e)::L.filter λy=>decide (Value.ownBlock (.slice A xs.length c)≠some y.1)) ⟨?_,?_,?_⟩ ⟨(by grind)⟩ ?_ ?_
   ·exact Below.grown U.ext hg U.ext.size (λk hk=>((hr.owns U).lt k hk).1)
   ·intro y Z
    rcases Ay.1 Z with rfl|Z
    ·simp_all
    ·obtain⟨Z,hv⟩:=By.1 Z;have hv:=BR hv;refine⟨(U.own y Z).1,?_⟩;rw[hg.block y.1 (ae y Z) (by grind)];exact(U.own y Z).2
   ·simp only[AB,C8];refine⟨λaj=>?_,(List.filter_sublist.map _).nodup U.nodup⟩
    grind
   all_goals grind
structure RowsP(e:DD)(O:DL)(L:DJ)(R:List (DK×DF)):Prop where
 row:∀(k:Nat) p,R[k]?=some p->RowB e p.1 L p.2
 out:∀(k:Nat) p g,R[k]?=some p->p.2.ownBlock=some g->g∉O
 ap:∀(k k':Nat) p p' g,R[k]?=some p->R[k']?=some p'->k≠k'->p.2.ownBlock=some g->p'.2.ownBlock≠some g
theorem RowsP.keep{e:DD}{R:List (DK×DF)}(h:RowsP e O L R)(Z:∀y∈L,y.1∉O->y∈L'):RowsP e O L' R:=
 ⟨λk p U=>(h.row k p U).keep λy hy hv=>Z y hy (h.out k p y.1 U hv),h.out,h.ap⟩
theorem RowsP.app{R:List (DK×DF)}{e t:DD}{i:TypeInfo}{n:Nat}(h:RowsP e O L R)(k:Nat)(hk:R[k]?=some (xs,.slice A n c))(ht:P.underlying t=some (.slice e))(hi:P.info? e=some i)(hz:i.zero=some z)(ae:i.size=1)(ah:z.cells.size=1)(ai:i.bytes<=16)(hm:Mem w0 w L)(hO:∀g∈O,∃o,(g,o)∈L)(hn:n=xs.length)(hx:x.oneCell'=true)(hb:w.cell? ⟨nb,0,none⟩=some x)(ag:n+1<=8000000000000)(hK:∀A' c' w' L',Mem w0 w' L'->RowsP e O L' (R.set k (xs++[x],.slice A' (n+1) c'))->(∀y∈L,y.1∈O->y∈L')->K (.slice A' (n+1) c') w'):AppV P #[t,t] ty (.slice A n c) (.slice (some ⟨nb,0,none⟩) 1 1) w K:=by
 refine AppV.blk ht hi hz ae ah ai hm (h.row k _ hk) hn hx hb ag λA' c' w' L' aj ak aa ad=>hK A' c' w' L' aj ?_ ?_
 ·have aq:k<R.length:=(by grind)
  have U:∀(j:Nat) p,(R.set k (xs++[x],.slice A' (n+1) c'))[j]?=some p->(j=k/\p=(xs++[x],.slice A' (n+1) c'))\/(j≠k/\R[j]?=some p):=(by grind)
  have al:∀(j:Nat) p g,j≠k->R[j]?=some p->p.2.ownBlock=some g->Value.ownBlock (.slice A' (n+1) c')≠some g:=λj p g hj Z hg am=>by
   rcases ad g am with ho|ho
   ·exact h.ap j k p _ g Z hk hj hg ho
   ·obtain⟨o,ar⟩:=(h.row j p Z).in_ hg
    grind
  refine⟨λj p Z=>?_,λj p g Z hg=>?_,λj j' p p' g Z af an hg=>?_⟩
  ·rcases U j p Z with⟨_,rfl⟩|⟨hj,Z⟩
   ·exact ak
   ·exact(h.row j p Z).keep λy hy hv=>aa y hy (h.ap j k p _ y.1 Z hk hj hv)
  ·rcases U j p Z with⟨_,rfl⟩|⟨hj,Z⟩
   ·rcases ad g hg with ho|ho
    ·exact h.out k _ g hk ho
    grind
   ·exact h.out j p g Z hg
  ·rcases U j p Z with⟨ej,rfl⟩|⟨hj,Z⟩<;>rcases U j' p' af with⟨au,rfl⟩|⟨av,af⟩
   ·omega
   ·grind
   ·grind
   ·exact h.ap j j' p p' g Z af an hg
 ·intro y hy ao;exact aa y hy λhv=>h.out k _ y.1 hk hv ao
end V
theorem qfy{o:Obj}(hi:L[i]?=some (rb,o)):(rb,o')∈L.set i (rb,o')/\∀y∈L,y.1≠rb->y∈L.set i (rb,o'):=by
 have U:i<L.length:=(Ae.1 hi).1;refine⟨zmg (Ba U),λy hy Z=>?_⟩;obtain⟨j,hj⟩:=AT.1 hy;refine zmg (i:=j) ?_;rw[List.getElem?_set_ne (λe=>Z ?_),hj];subst e;rw[hi]at hj;cases hj;rfl
section
variable {w0 w:DA} {L:DJ} {rb n c off:Nat} {A:oA} {t:DK} {v:DF}
structure RdM(w0 w':DA)(L:DJ)(rb:Nat)(o':Obj)(L':DJ):Prop where
 mem:Mem w0 w' L'
 rd:(rb,o')∈L'
 keep:∀y∈L,y.1≠rb->y∈L'
theorem qfu{K:DI}(U:Mem w0 w L)(hi:(rb,rdC A n c t)∈L)(k:Nat)(Z:off=1+k)(hk:k<t.length)(h1:qc8 v=true)(hw:∀w' L',RdM w0 w' L rb (rdC A n c (t.set k v)) L'->K w'):StoreV w rb off v K:=by
 obtain⟨i,hi⟩:=AT.1 hi;exact qh1 U hi k Z hk h1 λw' h=>hw w' _ ⟨h,(qfy hi).1,(qfy hi).2⟩
theorem qyl{K:DF->Prop}(U:Mem w0 w L)(hi:(rb,rdC A n c t)∈L)(k:Nat)(Z:off=1+k)(hv:t[k]?=some v)(hk:K v):LoadV w rb off K:=by
 obtain⟨i,hi⟩:=AT.1 hi;exact qg4 U hi k Z hv hk
theorem q9p{x:DB}{xs:List DB}(U:Mem w0 w L)(hi:(rb,rdC A (xs.length+1) c t)∈L)(Z:SlAt zeS 1 w0 A (x::xs))(hc:xs.length+1<=c):
  Gv DM 222 [pp rb] w λv w'=>v=.string x/\∃A' c' L',SlAt zeS 1 w0 A' xs/\xs.length<=c'/\RdM w0 w' L rb (rdC A' xs.length c' t) L':=by
 obtain⟨i,hi⟩:=AT.1 hi;refine(qfo rb i x xs A c t w0 w L U hi Z hc).mono ?_;rintro v w' ⟨rfl,A',c',h1,h2,h3⟩;exact⟨rfl,A',c',_,h1,h2,⟨h3,(qfy hi).1,(qfy hi).2⟩⟩
theorem qym{rest:List DB}{least:Nat}(Z:Mem w0 w L)(hi:(rb,rdC A rest.length c t)∈L)(hS:SlAt zeS 1 w0 A rest)(hc:rest.length<=c)(hx:∀x∈rest,x.size<=1000000)(hn:rest.length<=1000000):
  Gv DM 223 [pp rb,ii least] w λv w'=>∃pre U s,TailP (λx=>qac x least 8 false) rest pre U s/\seeB (λx=>qac x least 8 false) U=false/\
   v=.tuple #[.string s,.bool (decide (pre≠[]))]/\∃A' c' L',SlAt zeS 1 w0 A' U/\U.length<=c'/\RdM w0 w' L rb (rdC A' U.length c' t) L':=by
 obtain⟨i,hi⟩:=AT.1 hi;refine(q98 rb i least rest A c t w0 w L Z hi hS hc hx hn).mono ?_;rintro v w' ⟨pre,U,s,h1,h2,rfl,A',c',h3,h4,h5⟩;exact⟨pre,U,s,h1,h2,rfl,A',c',_,h3,h4,⟨h5,(qfy hi).1,(qfy hi).2⟩⟩
end
def qd9:List DB->List DB
 | []=>[]
 | x::xs=>if qac x 4 4 true=true then xs else x::xs
def qc9:List DB->List DB
 | []=>[]
 | x::xs=>if regB x=true then xs else x::xs
open Classical in
noncomputable def qii:List DB->List DB->Option (List DB×List DB)
 | seen,[]=>some (seen,[])
 | seen,x::xs=>if varB x=true then(if lowS x∈seen then none else qii (seen++[lowS x]) xs)else some (seen,x::xs)
def extQ(x:DB):Bool:=qac x 2 8 false
def extS(x:DB):Bool:=qac x 1 1 false && !qft x
open Classical in
noncomputable def extN:Nat->List DB->List DB->Option (List DB)
 | _,_,[]=>some []
 | 0,_,rest=>some rest
 | k+1,seen,x::xs=>if extS x=true then(if xs.takeWhile extQ=[]\/lowS x∈seen then none else extN k (seen++[lowS x]) (xs.dropWhile extQ))else some (x::xs)
noncomputable def qi8(rest:List DB):Option (List DB):=(qii [] (qc9 (qd9 rest))).bind λr=>extN r.2.length r.1 r.2
theorem TailP.take{q:DB->Bool}{rest pre U:List DB}{s:DB}(h:TailP q rest pre U s)(h2:seeB q U=false):rest.takeWhile q=pre/\rest.dropWhile q=U:=by
 have Z:=Cv.1 h.all;rw[h.eq,List.takeWhile_append_of_pos Z,List.dropWhile_append_of_pos Z];cases U with
 | nil=>simp
 | cons y ys=>
  have:q y=false:=h2;simp[this]
theorem q5u(x:DB)(U:x.size<=140737488355328)(w:DA):Gv DM 293 [.string x] w λv w'=>v=.bool (qac x 4 4 true)/\Ext w w':=by
 have Z:=qd2 x 4 4 true U w;refine ze Tryz.func293 Tryz.ntmps293 ?_;refine zcv (Z) ?_;rintro v w' ⟨rfl,he⟩;(conv=>whnf);exact⟨rfl,he⟩
theorem q5v(x:DB)(hs:x.size<=140737488355328)(w:DA):Gv DM 297 [.string x] w λv w'=>v=.bool (extS x)/\Ext w w':=by
 have h1:=qd2 x 1 1 false hs w;refine ze Tryz.func297 Tryz.ntmps297 ?_;refine zcv (h1) ?_;rintro v w1 ⟨rfl,U⟩;cases Z:qac x 1 1 false
 ·refine zu ?_;exact⟨by rw[extS,Z];rfl,U⟩
 ·refine zu ?_;refine zcv (qg3 x w1) ?_;rintro v w2 ⟨rfl,rfl⟩;refine zu ?_;exact⟨by rw[extS,Z];rfl,U⟩
theorem qhh(l:List DB)(A:oA)(c:Nat)(x:DB)(w:DA)(hS:SlAt zeS 1 w A l)(hl:l.length<=9223372036854775807):
  Gv DM 296 [.slice A l.length c,.string x] w λv w'=>(∃b,v=.bool b/\(b=true↔x∈l))/\w'=w:=by
 cases l with
 | nil=>
  refine(qzx Jk (Tryz.slices_Contains_string_empty A c x w)).mono ?_;rintro v w' ⟨rfl,rfl⟩;exact⟨⟨false,rfl,by simp⟩,rfl⟩
 | cons y U=>
  obtain⟨b,off,rfl,h⟩:=hS.at_ Js;refine(qzx Jk (Tryz.slices_Contains_string b off (y::U).length c (y::U) x w znr hl (λj Z=>?_))).mono ?_
  ·have:=h j _ (zge Z) 0 (.string (y::U)[j]) rfl;rw[Ag,zge Z,BL]
   simpa using this
  ·rintro v w' ⟨rfl,rfl⟩;exact⟨⟨_,rfl,by rw[Go.Lib.containsS_iff,BO]⟩,rfl⟩
structure RS(w0 w:DA)(O:DL)(rb:Nat)(rest:List DB)(A:oA)(c:Nat)(V E:DF)(L:DJ)(R:List (DK×DF)):Prop where
 mem:Mem w0 w L
 rd:∃a0 a1 a2 a3 a6,(rb,rdC A rest.length c (tagC a0 a1 a2 a3 V E a6))∈L
 rows:RowsP 9 O L R
 sl:SlAt zeS 1 w0 A rest
 hc:rest.length<=c
 hO:rb∈O
 all:∀g∈O,∃o,(g,o)∈L
 small:∀x∈rest,x.size<=1000000
 vs:(∃A n c,V=.slice A n c)/\∃A n c,E=.slice A n c
section
variable {w0 w w':DA} {O:DL} {rb:Nat} {rest xs:List DB} {x:DB} {A A':oA} {c c':Nat} {V E V' E':DF} {L L':DJ} {R:List (DK×DF)} {o':Obj}
theorem RS.call(h:RS w0 w O rb rest A c V E L R)(U:Ext w w'):RS w0 w' O rb rest A c V E L R:={ h with mem:=h.mem.call U }
theorem RS.step(h:RS w0 w O rb rest A c V E L R)(U:RdM w0 w' L rb o' L')(ho:∃a0 a1 a2 a3 a6,o'=rdC A' xs.length c' (tagC a0 a1 a2 a3 V' E' a6))(hS:SlAt zeS 1 w0 A' xs)(hc:xs.length<=c')(Z:∀y∈xs,y∈rest)(aa:(∃A n c,V'=.slice A n c)/\∃A n c,E'=.slice A n c):RS w0 w' O rb xs A' c' V' E' L' R:=by
 obtain⟨a0,a1,a2,a3,a6,rfl⟩:=ho;refine⟨U.mem,⟨a0,a1,a2,a3,a6,U.rd⟩,h.rows.keep λy hy hO=>U.keep y hy λe=>hO (e ▸ h.hO),hS,hc,h.hO,λg hg=>?_,λy hy=>h.small y (Z y hy),aa⟩
 by_cases e:g=rb
 ·subst e;exact⟨_,U.rd⟩
 ·obtain⟨o,ho⟩:=h.all g hg;exact⟨o,U.keep _ ho e⟩
theorem RS.grow(h:RS w0 w O rb rest A c V E L R)(hm:Mem w0 w' L')(hR:RowsP 9 O L' R')(Z:∀y∈L,y.1∈O->y∈L'):RS w0 w' O rb rest A c V E L' R':=by
 obtain⟨a0,a1,a2,a3,a6,U⟩:=h.rd;refine⟨hm,⟨a0,a1,a2,a3,a6,Z _ U h.hO⟩,hR,h.sl,h.hc,h.hO,λg hg=>?_,h.small,h.vs⟩;obtain⟨o,ho⟩:=h.all g hg;exact⟨o,Z _ ho hg⟩
theorem RS.new{o:Obj}(h:RS w0 w O rb rest A c V E L R)(U:nb=w.heap.size)(Z:w'=w.alloc o):RS w0 w' O rb rest A c V E L R/\w'.heap[nb]?=some o:=by
 subst U Z;exact⟨h.call ((Ext.refl w).alloc o),heap_alloc_new w o⟩
end
theorem NewV.rs{rest:List DB}{V E:DF}{R:List (DK×DF)}{o:Obj}{K:Nat->DI}(h:RS w0 w O rb rest A c V E L R)(hk:∀b w',RS w0 w' O rb rest A c V E L R->w'.heap[b]?=some o->K b w'):NewV w o K:=
 ⟨λb w' U Z=>hk b w' (h.new U Z).1 (h.new U Z).2⟩
theorem qjc{rest:List DB}{V E:DF}{R:List (DK×DF)}(p:DB->Bool)(h:RS w0 w O rb rest A c V E L R)(hp:∀x Z,x.size<=140737488355328->Gv DM g [.string x] Z λv w2=>v=.bool (p x)/\Ext Z w2):
  Gv DM 218 [pp rb,.func (.func g) #[] #[]] w λv w'=>v=.bool (seeB p rest)/\RS w0 w' O rb rest A c V E L R:=by
 obtain⟨a0,a1,a2,a3,a6,U⟩:=h.rd;refine(qku rb g [] p rest A c _ w (h.mem.get U) (h.sl.ext h.mem.ext) (λx ys w3 e _=>hp x w3 (by have:=h.small x (by rw[e];exact AJ ..);omega))).mono ?_;rintro v w' ⟨rfl,he⟩;exact⟨rfl,h.call he⟩
theorem qlt{x:DB}{xs:List DB}{V E:DF}{R:List (DK×DF)}(h:RS w0 w O rb (x::xs) A c V E L R):
  Gv DM 222 [pp rb] w λv w'=>v=.string x/\∃A' c' L',RS w0 w' O rb xs A' c' V E L' R/\(∀y∈L,y.1≠rb->y∈L'):=by
 obtain⟨a0,a1,a2,a3,a6,U⟩:=h.rd;refine(q9p h.mem U h.sl h.hc).mono ?_;rintro v w' ⟨rfl,A',c',L',h1,h2,Z⟩;exact⟨rfl,A',c',L',h.step Z ⟨_,_,_,_,_,rfl⟩ h1 h2 (λy hy=>zmc hy) h.vs,Z.keep⟩
theorem strI:DM.info? 9=some ((DM.info? 9).get Jk):=(Bd _).symm
theorem strZ:((DM.info? 9).get Jk).zero=some (.string ⟨#[]⟩):=by kernel_rfl
theorem RowsP.nils(e:DD)(O:DL)(L:DJ)(R:List (DK×DF))(h:∀p∈R,p=([],.slice none 0 0)):RowsP e O L R:=by
 refine⟨λk p U=>?_,λk p g U Z=>?_,λk k' p p' g U aa _ Z=>?_⟩
 ·rw[h p (zmg U)];exact RowB.nil e L
 ·rw[h p (zmg U)]at Z;cases Z
 ·rw[h p (zmg U)]at Z;cases Z
theorem RowsP.none_{e:DD}:RowsP e O L []:=RowsP.nils e O L [] Js
theorem q04{rest r1 r2:List DB}(U:qd9 rest=r1)(Z:qc9 r1=r2):qi8 rest=(qii [] r2).bind λr=>extN r.2.length r.1 r.2:=by rw[qi8,U,Z]
theorem q9r(rb:Nat)(O:DL)(rest:List DB)(A:oA)(c:Nat)(w0 w:DA)(L:DJ)(h:RS w0 w O rb rest A c (.slice none 0 0) (.slice none 0 0) L [])(hn:rest.length<=1000000):
  Gv DM 221 [pp rb] w λv w'=>(qi8 rest=none/\v=.bool false/\Ext w0 w')\/
   (∃Z,qi8 rest=some Z/\v=.bool true/\∃A' c' V E L',RS w0 w' O rb Z A' c' V E L' []/\Z.length<=rest.length/\∀y∈L,y.1∈O->y.1≠rb->y∈L'):=by
 refine ze Tryz.func221 Tryz.ntmps221 ?_;refine zcv (qjc (λx=>qac x 4 4 true) h (λx w1 hx=>q5u x hx w1)) ?_;rintro v w1 ⟨rfl,h1⟩;(conv=>whnf);cases hq:seeB (λx=>qac x 4 4 true) rest
 case' false=>
  refine zv ?_;obtain⟨r1,A1,c1,L1,e1,g1,k1,l1⟩:∃r1 A1 c1 L1,qd9 rest=r1/\RS w0 w1 O rb r1 A1 c1 (.slice none 0 0) (.slice none 0 0) L1 []/\(∀y∈L,y.1∈O->y.1≠rb->y∈L1)/\r1.length<=rest.length:=by
   refine⟨rest,A,c,L,?_,h1,λy hy _ _=>hy,Ai _⟩;cases rest with
   | nil=>rfl
   | cons x xs=>rw[qd9,Aa (by have:qac x 4 4 true=false:=hq;rw[this];simp)]
  clear hq h1
 case' true=>
  obtain⟨x,xs,rfl⟩:∃x xs,rest=x::xs:=by
   cases rest with
   | nil=>cases hq
   | cons x xs=>exact⟨x,xs,rfl⟩
  have hq:qac x 4 4 true=true:=hq;refine zv ?_;refine zcv (qlt h1) ?_;rintro v w2 ⟨rfl,A2,c2,L2,h2,k2⟩;(conv=>whnf);obtain⟨a0,a1,a2,a3,a6,aa⟩:=id h2.rd;refine qfu h2.mem aa 2 rfl (show 2<7 by decide) rfl ?_;intro w1 L3 ae;obtain⟨r1,A1,c1,L1,e1,g1,k1,l1⟩:∃r1 A1 c1 L1,qd9 (x::xs)=r1/\RS w0 w1 O rb r1 A1 c1 (.slice none 0 0) (.slice none 0 0) L1 []/\(∀y∈L,y.1∈O->y.1≠rb->y∈L1)/\r1.length<=(x::xs).length:=
   ⟨xs,A2,c2,L3,by rw[qd9,Ab hq],h2.step ae ⟨_,_,_,_,_,rfl⟩ h2.sl h2.hc (λy hy=>hy) h2.vs,λy hy _ U=>ae.keep y (k2 y hy U) U,by simp⟩
  clear hq h1 h2 ae aa k2;conv=>whnf
 all_goals
  refine zcv (qjc regB g1 (λx w1 hx=>q03 x hx w1)) ?_;rintro v w1 ⟨rfl,g1⟩;(conv=>whnf);cases hq:seeB regB r1
  case' false=>
   refine zv ?_;obtain⟨r2,A2,c2,L2,e2,g2,k2,l2⟩:∃r2 A2 c2 L2,qc9 r1=r2/\RS w0 w1 O rb r2 A2 c2 (.slice none 0 0) (.slice none 0 0) L2 []/\(∀y∈L1,y.1∈O->y.1≠rb->y∈L2)/\r2.length<=r1.length:=by
    refine⟨r1,A1,c1,L1,?_,g1,λy hy _ _=>hy,Ai _⟩;cases r1 with
    | nil=>rfl
    | cons x xs=>rw[qc9,Aa (by have:regB x=false:=hq;rw[this];simp)]
   clear hq g1
  case' true=>
   obtain⟨x,xs,rfl⟩:∃x xs,r1=x::xs:=by
    cases r1 with
    | nil=>cases hq
    | cons x xs=>exact⟨x,xs,rfl⟩
   have hq:regB x=true:=hq;refine zv ?_;refine zcv (qlt g1) ?_;rintro v w2 ⟨rfl,A3,c3,L3,h3,k3⟩;(conv=>whnf);obtain⟨a0,a1,a2,a3,a6,aa⟩:=id h3.rd;refine qfu h3.mem aa 3 rfl (show 3<7 by decide) rfl ?_;intro w1 L4 ae;obtain⟨r2,A2,c2,L2,e2,g2,k2,l2⟩:∃r2 A2 c2 L2,qc9 (x::xs)=r2/\RS w0 w1 O rb r2 A2 c2 (.slice none 0 0) (.slice none 0 0) L2 []/\(∀y∈L1,y.1∈O->y.1≠rb->y∈L2)/\r2.length<=(x::xs).length:=
    ⟨xs,A3,c3,L4,by rw[qc9,Ab hq],h3.step ae ⟨_,_,_,_,_,rfl⟩ h3.sl h3.hc (λy hy=>hy) h3.vs,λy hy _ U=>ae.keep y (k3 y hy U) U,by simp⟩
   clear hq g1 h3 ae aa k3;conv=>whnf
 all_goals
  have eR:=q04 e1 e2;rw[eR];refine qq (λx:List DB×List DB×oA×Nat=>[(0,pp rb),(3,.slice x.2.2.1 x.1.length x.2.2.2)])
   (λx w3=>∃A c V E L3 vs,RS w0 w3 O rb x.2.1 A c V E L3 [(x.1.map Value.string,.slice x.2.2.1 x.1.length x.2.2.2),(vs,V),([],E)]/\vs.length<=x.1.length/\(∀y∈L2,y.1∈O->y.1≠rb->y∈L3)/\qii [] r2=qii x.1 x.2.1/\x.1.length+x.2.1.length<=r2.length)
   (λx=>x.2.1.length) ([],r2,none,0) fq ⟨A2,c2,_,_,L2,[],{ g2 with rows:=RowsP.nils _ _ _ _ Js },by simp,λy hy _ _=>hy,rfl,by simp⟩ ?_
  rintro⟨seen,r3,sA,sc⟩ w3 b4 ⟨A3,c3,V3,E3,L3,vs,h3,ba,k3,e3,l3⟩;simp only at h3 ba e3 l3;dsimp only;(conv=>whnf);refine zcv (qjc varB h3 (λx w1 hx=>qwd x hx w1)) ?_;rintro v w4 ⟨rfl,h4⟩;(conv=>whnf);cases hq:seeB varB r3
  case' true=>
   obtain⟨x,xs,rfl⟩:∃x xs,r3=x::xs:=by
    cases r3 with
    | nil=>cases hq
    | cons x xs=>exact⟨x,xs,rfl⟩
   have hq:varB x=true:=hq;have hx:=h4.small x mh;simp only[Au]at l3;rw[qii,Ab hq]at e3;refine zv ?_;refine zcv (qlt h4) ?_;rintro v w5 ⟨rfl,A5,c5,L5,h5,k5⟩;(conv=>whnf);refine zcv (qfj x Oo w5) ?_;rintro v w6 ⟨rfl,bb⟩;have h6:=h5.call bb;(conv=>whnf);refine zcv (qhh seen sA sc (lowS x) w6 ((h6.rows.row 0 _ rfl).sl h6.mem) Oo) ?_;rintro v w7 ⟨⟨b,rfl,hb⟩,rfl⟩;(conv=>whnf);cases b
   ·rw[Aa (by intro h;have:=hb.2 h;cases this)]at e3;refine zv ?_;refine zcv (qfj x Oo w7) ?_;rintro v w8 ⟨rfl,bd⟩;have h8:=h6.call bd;(conv=>whnf);refine NewV.rs h8 λnb w9 h9 an=>zw ?_;refine h9.rows.app 0 rfl Tryz.underlying159 strI strZ Jk rfl (by decide +kernel) h9.mem h9.all Js rfl (by rw[qa an];rfl) Oo ?_;intro ao aq ar b5 be bf au;have aj:=h9.grow be bf au;(conv=>whnf);obtain⟨VA,vc,rfl⟩:∃VA vc,V3=.slice VA vs.length vc:=(aj.rows.row 1 _ rfl).slice;obtain⟨a0,a1,a2,a3,a6,aa⟩:=id aj.rd;refine qyl aj.mem aa 4 rfl rfl (zw ?_);refine NewV.rs aj λbg bh af ai=>zw ?_;refine af.rows.app 1 rfl Tryz.underlying159 strI strZ Jk rfl (by decide +kernel) af.mem af.all rfl rfl (by rw[qa ai];rfl) Oo ?_;intro av aw bi b6 bj bk ax;have ad:=af.grow bj bk ax;obtain⟨a0,a1,a2,a3,a6,aa⟩:=id ad.rd;(conv=>whnf);refine qfu ad.mem aa 4 rfl (show 4<7 by decide) rfl ?_;intro bl ay al;have ag:=ad.step (V':=.slice av (vs.length+1) aw) (E':=E3) al ⟨_,_,_,_,_,rfl⟩ ad.sl ad.hc (λy hy=>hy) ⟨⟨_,_,_,rfl⟩,ad.vs.2⟩;(conv=>whnf);refine⟨(seen++[lowS x],xs,ao,aq),⟨rfl,by simp only[zla];rfl,trivial⟩,⟨A5,c5,.slice av (vs.length+1) aw,E3,ay,vs++[.string x],?_,by simp;omega,λy hy hO U=>al.keep y (ax y (au y (k5 y (k3 y hy hO U) U) hO) hO) U,e3,by simp;omega⟩,by simp⟩;simp only[AH,zla,AB,B4,Bw];exact ag
   ·rw[Ab (hb.1 rfl)]at e3;refine zv ?_;exact .inl ⟨by rw[e3];rfl,rfl,h6.mem.ext⟩
 all_goals
  have eV:qii seen r3=some (seen,r3):=by
   cases r3 with
   | nil=>rfl
   | cons x xs=>rw[qii,Aa (by have:varB x=false:=hq;rw[this];simp)]
  have eB:(qii [] r2).bind (λr=>extN r.2.length r.1 r.2)=extN r3.length seen r3:=by rw[e3,eV];rfl
  rw[eB];clear hq h3 eV eB;refine zv ?_;refine qq (λx:Nat×List DB×List DB×oA×Nat=>[(0,pp rb),(3,.slice x.2.2.2.1 x.2.1.length x.2.2.2.2)])
   (λx w5=>∃A c V E L5 vs es,RS w0 w5 O rb x.2.2.1 A c V E L5 [(x.2.1.map Value.string,.slice x.2.2.2.1 x.2.1.length x.2.2.2.2),(vs,V),(es,E)]/\es.length<=x.2.1.length/\(∀y∈L3,y.1∈O->y.1≠rb->y∈L5)/\extN r3.length seen r3=extN x.1 x.2.1 x.2.2.1/\x.2.2.1.length<=x.1/\x.2.1.length+x.2.2.1.length<=r2.length)
   (λx=>x.2.2.1.length) (r3.length,seen,r3,sA,sc) fq ⟨A3,c3,V3,E3,L3,vs,[],h4,by simp,λy hy _ _=>hy,rfl,Ai _,l3⟩ ?_
  rintro⟨k,sn,r5,sB,sd⟩ w5 b2 ⟨A5,c5,V5,E5,L5,bm,es,h5,bn,k5,e5,lk,l5⟩;simp only at h5 bn e5 lk l5;dsimp only;(conv=>whnf);refine zcv (qjc extS h5 (λx w1 hx=>q5v x hx w1)) ?_;rintro v w6 ⟨rfl,h6⟩;(conv=>whnf);cases hq:seeB extS r5
  ·have eX:extN k sn r5=some r5:=by
    cases r5 with
    | nil=>cases k<;>rfl
    | cons x xs=>
     cases k with
     | zero=>simp at lk
     | succ k=>rw[extN,Aa (by have:extS x=false:=hq;rw[this];simp)]
   refine zv ?_;refine .inr ⟨r5,by rw[e5,eX],rfl,A5,c5,V5,E5,L5,{ h6 with rows:=RowsP.none_ },by omega,λy hy hO U=>k5 y (k3 y (k2 y (k1 y hy hO U) hO U) hO U) hO U⟩
  ·obtain⟨x,xs,rfl⟩:∃x xs,r5=x::xs:=by
    cases r5 with
    | nil=>cases hq
    | cons x xs=>exact⟨x,xs,rfl⟩
   have hq:extS x=true:=hq;have b7:x.size=1:=by simp[extS,qac]at hq;omega
   obtain⟨k,rfl⟩:∃k',k=k'+1:=⟨k-1,by simp at lk;omega⟩
   have hx:=h6.small x mh;simp only[Au]at l5 lk;rw[extN,Ab hq]at e5;refine zv ?_;refine zcv (qlt h6) ?_;rintro v w7 ⟨rfl,A7,c7,L7,h7,k7⟩;(conv=>whnf);obtain⟨a0,a1,a2,a3,a6,aa⟩:=id h7.rd;refine zcv (qym (least:=2) h7.mem aa h7.sl h7.hc h7.small Oo) ?_;rintro v w8 ⟨pre,Z,sT,hP,bp,rfl,A8,c8,L8,bq,br,az⟩;obtain⟨t1,t2⟩:=hP.take bp;have t1:xs.takeWhile extQ=pre:=t1;have t2:xs.dropWhile extQ=Z:=t2;have b3:xs.length=pre.length+Z.length:=by rw[hP.eq];simp
   have h8:=h7.step az ⟨_,_,_,_,_,rfl⟩ bq br (λy hy=>by rw[hP.eq];exact Ac _ hy) h7.vs;rw[t1,t2]at e5;have b8:=hP.size;conv=>whnf
   by_cases hp:pre=[]
   ·rw[Ab (.inl hp)]at e5;rw[Ax (by simp[hp])];refine zv ?_;exact .inl ⟨e5,rfl,h8.mem.ext⟩
   ·rw[At (by simpa using hp)];refine zv ?_;refine zcv (qfj x Oo w8) ?_;rintro v w9 ⟨rfl,bt⟩;have h9:=h8.call bt;refine zu ?_;refine zcv (qhh sn sB sd (lowS x) w9 ((h9.rows.row 0 _ rfl).sl h9.mem) Oo) ?_;rintro v ar ⟨⟨b,rfl,hb⟩,rfl⟩;cases b
    ·rw[Aa (by rintro(h|h);exact hp h;have:=hb.2 h;cases this)]at e5;refine zu ?_;refine zcv (qfj x Oo ar) ?_;rintro v bh ⟨rfl,a4⟩;have af:=h9.call a4;(conv=>whnf);refine NewV.rs af λnb bi ad an=>zw ?_;refine ad.rows.app 0 rfl Tryz.underlying159 strI strZ Jk rfl (by decide +kernel) ad.mem ad.all Js rfl (by rw[qa an];rfl) Oo ?_;intro ao aq bl ay bu bv a5;have ag:=ad.grow bu bv a5;(conv=>whnf);obtain⟨EA,ec,rfl⟩:∃EA ec,E5=.slice EA es.length ec:=(ag.rows.row 2 _ rfl).slice;obtain⟨a0,a1,a2,a3,a6,aa⟩:=id ag.rd;refine qyl ag.mem aa 5 rfl rfl (zw ?_);refine⟨by show x.size+sT.size<=_;omega,?_⟩;(conv=>whnf);refine NewV.rs ag λbg b9 ak ai=>zw ?_;refine ak.rows.app 2 rfl Tryz.underlying159 strI strZ Jk rfl (by decide +kernel) ak.mem ak.all rfl rfl (by rw[qa ai];rfl) Oo ?_;intro a7 a8 cc cd bw bz a9;have ah:=ak.grow bw bz a9;obtain⟨a0,a1,a2,a3,a6,aa⟩:=id ah.rd;(conv=>whnf);refine qfu ah.mem aa 5 rfl (show 5<7 by decide) rfl ?_;intro ce b0 am;have b1:=ah.step (V':=V5) (E':=.slice a7 (es.length+1) a8) am ⟨_,_,_,_,_,rfl⟩ ah.sl ah.hc (λy hy=>hy) ⟨ah.vs.1,⟨_,_,_,rfl⟩⟩;(conv=>whnf);refine⟨(k,sn++[lowS x],Z,ao,aq),⟨rfl,by simp only[zla];rfl,trivial⟩,⟨A8,c8,V5,.slice a7 (es.length+1) a8,b0,bm,es++[.string (x++sT)],?_,by simp;omega,λy hy hO U=>am.keep y (a9 y (a5 y (az.keep y (k7 y (k5 y hy hO U) U) U) hO) hO) U,e5,by simp only;omega,by simp;omega⟩,by simp only[Au];omega⟩;simp only[AH,zla,AB,B4,Bw];exact b1
    ·rw[Ab (.inr (hb.1 rfl))]at e5;refine zu ?_;exact .inl ⟨e5,rfl,h9.mem.ext⟩
def qbp:LB->List LB
 | []=>[[]]
 | c::t=>if c=45 then[]::qbp t else match qbp t with
  | []=>[[c]]
  | p::U=>(c::p)::U
theorem qmq:∀l:LB,Go.Lib.splitK [45] 0 (Go.Lib.count l [45]) l=qbp l
 | []=>by
  rfl
 | c::t=>by
  have U:=qmq t
  by_cases h:c=45
  ·subst h;rw[Go.Lib.count_cons_eq,CL 1,qbp,Ab rfl,<-U,Go.Lib.splitK];rfl
  ·rw[Go.Lib.count_cons_ne c 45 t h,qbp,Aa h,<-U];have hi:Go.Lib.index (c::t) [45]=if Go.Lib.index t [45]==-1 then -1 else Go.Lib.index t [45]+1:=by
    grind [Go.Lib.index]
   cases Go.Lib.count t [45]with
   | zero=>rfl
   | succ k=>
    rw[Go.Lib.splitK,Go.Lib.splitK,hi]
    by_cases Z:Go.Lib.index t [45]=-1
    ·simp[Z]
    ·have aa:=Go.Lib.index_ge t [45];have e1:(Go.Lib.index t [45]==-1)=false:=by simpa using Z
     have e2:((Go.Lib.index t [45]+1)==-1)=false:=by
      grind
     have e3:(Go.Lib.index t [45]+1).toNat=(Go.Lib.index t [45]).toNat+1:=by omega
     simp_all
theorem qn6:∀l:LB,(qbp l).length<=l.length+1/\∀x∈qbp l,x.length<=l.length
 | []=>by simp[qbp]
 | c::t=>by
  obtain⟨h1,Z⟩:=qn6 t;unfold qbp
  split
  ·refine⟨by simp;omega,λx U=>?_⟩
   rcases Ay.1 U with rfl|U
   ·simp
   ·have:=Z x U;simp;omega
  ·cases hp:qbp t with
   | nil=>simp
   | cons p ps=>
    rw[hp]at h1 Z;refine⟨by simpa using AE h1 (Cq _),λx U=>?_⟩
    rcases Ay.1 U with rfl|U
    ·have:=Z p mh;simp;omega
    ·have:=Z x (zmc U);simp;omega
def dash:DB:=⟨#[45]⟩
def qbi(s:DB):List DB:=Go.Lib.splitB dash 0 (Go.Lib.countB s dash) s
theorem qn7(s:DB):(qbi s).length=Go.Lib.countB s dash+1:=Go.Lib.splitB_all dash Od 0 _ s rfl
noncomputable def tagR(l:List DB):Option (List DB):=if seeB qft l=true then some l else(qer l).bind qi8
def qj3(x:DB):Bool:=qac x 1 8 false
def qo3(l:List DB):Prop:=if seeB qft l=true then(l.tail≠[]/\l.tail.all qj3=true)else l=[]
def tagP(l:List DB):Prop:=∃U,tagR l=some U/\qo3 U
open Classical in
noncomputable def tagE(l:List DB):Nat:=if tagP l then 0 else 61
theorem qmx{l:List DB}(h:tagP l):tagE l=0:=by unfold tagE;rw[Ab h]
theorem qdx{l:List DB}(h:¬tagP l):tagE l=61:=by unfold tagE;rw[Aa h]
def MaxLenAt(w:DA):Prop:=∃m:Int,w.cell? ⟨1,0,none⟩=some (ii m)
theorem MaxLenAt.ext(h:MaxLenAt w)(U:Ext w w'):MaxLenAt w':=⟨h.choose,U.cell h.choose_spec⟩
theorem q91{l:List DB}{t:DD}(Z:w'=w.alloc (.cells (l.map Value.string).toArray t)):SlAt V.zeS 1 w' (some ⟨w.heap.size,0,none⟩) l:=by
 subst Z;refine⟨λ_=>⟨w.heap.size,0,rfl,λj x hx k v U=>?_⟩⟩;cases k with
 | succ k=>simp[V.zeS]at U
 | zero=>
  simp only[V.zeS,AQ,AI]at U;subst U;rw[qa (heap_alloc_new w _)];simp[hx]
theorem q6c(s:DB)(hs:s.size<=1000000)(w:DA)(Z:MaxLenAt w):
  Gv DM 217 [.string s,.string dash] w λv w'=>∃b,v=.slice (some ⟨b,0,none⟩) (qbi s).length (qbi s).length/\SlAt V.zeS 1 w' (some ⟨b,0,none⟩) (qbi s)/\Ext w w':=by
 obtain⟨m,hm⟩:=Z;refine qe4 Jk ((Tryz.strings_Split s dash m w Oo hm Od).mono ?_);rintro e w' ⟨rfl,U⟩;exact⟨_,rfl,w.heap.size,by rw[qn7],q91 U,by rw[U];exact(Ext.refl w).alloc _⟩
theorem qek:∀v∈[Value.string ⟨#[]⟩,.string ⟨#[]⟩,.string ⟨#[]⟩,.string ⟨#[]⟩,.slice none 0 0,.slice none 0 0,.string ⟨#[]⟩],v.oneCell'=true:=by
 intro v U;simp at U
 rcases U with rfl|rfl|rfl<;>rfl
theorem qro:∀(k:Nat) (l:List DB),(qe6 k l).length<=l.length/\∀x∈qe6 k l,x∈l
 | 0,l=>⟨Ai _,λx U=>U⟩
 | k+1,[]=>⟨Ai _,λx U=>U⟩
 | k+1,y::ys=>by
  by_cases Z:qac y 3 3 true=true
  ·rw[qe6,Ab Z];obtain⟨h1,h2⟩:=qro k ys;exact⟨by simp;omega,λx U=>zmc (h2 x U)⟩
  ·rw[qe6,Aa Z];exact⟨Ai _,λx U=>U⟩
theorem qny{l r:List DB}(h:qer l=some r):r.length<=l.length/\∀x∈r,x∈l:=by
 cases l with
 | nil=>cases h
 | cons y ys=>
  by_cases Z:qac y 2 8 true=true
  ·rw[qer,Ab Z]at h;have h:=AR h;subst h
   split
   ·exact⟨by simp,λx U=>zmc U⟩
   ·obtain⟨h1,h2⟩:=qro 3 ys;exact⟨by simp;omega,λx U=>zmc (h2 x U)⟩
  ·rw[qer,Aa Z]at h;cases h
theorem q37{l r:List DB}(h:qer l=some r):∀x∈r,x∈l:=(qny h).2
theorem qll{l r:List DB}(h:qer l=some r):r.length<=l.length:=(qny h).1
theorem qyk{n U:Nat}{t:DK}{K:DK->Prop}(Z:Mem w0 w L)(hi:(rb,rdC A n c t)∈L)(ho:off=1)(hs:t.length=U)(hk:K t):LoadA w rb off U K:=by
 subst ho;refine⟨t,hs,λi aa=>?_,hk⟩;have:=Z.get hi;rw[rdC]at this;rw[qa this,An,CL 1 i,B7]
theorem tag7{V E:DF}(h:(∃A n c,V=.slice A n c)/\∃A n c,E=.slice A n c)(Z a1 a2 a3 a6:DB):∀v∈tagC Z a1 a2 a3 V E a6,v.oneCell'=true:=by
 obtain⟨⟨_,_,_,rfl⟩,⟨_,_,_,rfl⟩⟩:=h;intro v U;simp[tagC]at U
 rcases U with rfl|rfl|rfl|rfl|rfl|rfl|rfl<;>rfl
theorem ql4(s:DB):(qbi s).map (·.data.toList)=qbp s.data.toList:=by
 rw[qbi,Go.Lib.splitB_data,<-qmq];rfl
theorem qn8(s:DB):(∀x∈qbi s,x.size<=s.size)/\(qbi s).length<=s.size+1:=by
 obtain⟨U,Z⟩:=qn6 s.data.toList;rw[<-ql4]at U Z;refine⟨λx hx=>?_,by simpa using U⟩;have:=Z _ (AA.2 ⟨x,hx,rfl⟩)
 simpa using this
def TagV(l:List DB)(v:DF):Prop:=∃U Z c2 c3 c4 c5 c6,(∀u∈[U,Z,c2,c3,c4,c5,c6],u.oneCell'=true)/\v=.tuple #[.agg #[U,Z,c2,c3,c4,c5,c6],ii (tagE l)]
theorem qae7(s:DB)(hs:s.size<=65536)(w:DA)(hM:MaxLenAt w):
  Gv DM 141 [.string s] w λv w'=>TagV (qbi s) v/\Ext w w':=by
 obtain⟨p1,p2⟩:=qn8 s;obtain⟨l,hl⟩:∃l,l=qbi s:=⟨_,rfl⟩
 rw[<-hl]at p1 p2;refine ze Tryz.func141 Tryz.ntmps141 ?_;refine znm (Mem.nil w) λrt w1 ah=>zw ?_;refine zcv (q6c s Oo w1 (hM.ext ah.ext)) ?_;rintro v w2 ⟨pb,rfl,hS,am⟩;rw[<-hl]at hS|-;have af:=ah.call am;(conv=>whnf);refine znm (Mem.nil w2) ?_;intro rb w3 an;have h0:RS w2 w3 [rb] rb l (some ⟨pb,0,none⟩) l.length (.slice none 0 0) (.slice none 0 0) [(rb,rdC (some ⟨pb,0,none⟩) l.length l.length (tagC ⟨#[]⟩ ⟨#[]⟩ ⟨#[]⟩ ⟨#[]⟩ (.slice none 0 0) (.slice none 0 0) ⟨#[]⟩))] []:=
  ⟨an,⟨_,_,_,_,_,AJ ..⟩,RowsP.none_,hS,Ai _,AJ ..,λg hg=>by obtain rfl:=Aq.1 hg;exact⟨_,AJ ..⟩,λx hx=>by have:=p1 x hx;omega,⟨⟨_,_,_,rfl⟩,⟨_,_,_,rfl⟩⟩⟩
 (conv=>whnf);refine zcv (qjc qft h0 (λx w1 _=>by
  refine(qg3 x w1).mono ?_;rintro v w' ⟨rfl,rfl⟩;exact⟨rfl,xr⟩)) ?_
 rintro v w6 ⟨rfl,h4⟩;(conv=>whnf);cases hq:seeB qft l
 case' true=>
  refine zv ?_;obtain⟨l1,A1,c1,V1,E1,L1,e1,g1,d1⟩:∃l1 A1 c1 V1 E1 L1,tagR l=some l1/\RS w2 w6 [rb] rb l1 A1 c1 V1 E1 L1 []/\l1.length<=1000000:=⟨l,_,_,_,_,_,by rw[tagR,Ab hq],h4,by omega⟩
  clear hq h4 h0
 case' false=>
  have eT:tagR l=(qer l).bind qi8:=by rw[tagR,Aa (by rw[hq];simp)]
  refine zv ?_;refine zcv (qr7 rb 0 l _ _ ⟨#[]⟩ ⟨#[]⟩ ⟨#[]⟩ ⟨#[]⟩ _ _ w2 w6 _ h4.mem rfl hS znr h4.small) ?_;rintro v w5 (⟨e2,rfl,ao⟩|⟨l2,e2,rfl,A2,c2,b0,b1,aq,ar,au⟩)
  ·rw[e2]at eT;refine zu ?_;refine StoreA.mem (af.call ao) (i:=0) rfl (Ai 7) qek λw9 U=>zw ?_;refine qd (R:=λv w'=>TagV l v/\Ext w w') (zw ?_);refine zl U 0 ?_;exact⟨⟨_,_,_,_,_,_,_,qek,by rw[qdx (λh=>by obtain⟨l1,h1,_⟩:=h;rw[eT]at h1;cases h1)];rfl⟩,U.ext⟩
  rw[e2]at eT;have h5:RS w2 w5 [rb] rb l2 A2 c2 (.slice none 0 0) (.slice none 0 0) [(rb,rdC A2 l2.length c2 (tagC b0 b1 ⟨#[]⟩ ⟨#[]⟩ (.slice none 0 0) (.slice none 0 0) ⟨#[]⟩))] []:=
   ⟨au,⟨_,_,_,_,_,AJ ..⟩,RowsP.none_,aq,ar,AJ ..,λg hg=>by obtain rfl:=Aq.1 hg;exact⟨_,AJ ..⟩,λx hx=>by have:=p1 x (q37 e2 x hx);omega,⟨⟨_,_,_,rfl⟩,⟨_,_,_,rfl⟩⟩⟩
  refine zu ?_;refine zcv (q9r rb [rb] l2 A2 c2 w2 w5 _ h5 (by have:=qll e2;omega)) ?_;rintro v w6 (⟨e3,rfl,av⟩|⟨l3,e3,rfl,A3,c3,V3,E3,L3,h6,a4,_⟩)
  ·have eT:tagR l=none:=by rw[eT];exact e3
   refine zu ?_;refine StoreA.mem (af.call av) (i:=0) rfl (Ai 7) qek λw9 U=>zw ?_;refine qd (R:=λv w'=>TagV l v/\Ext w w') (zw ?_);refine zl U 0 ?_;exact⟨⟨_,_,_,_,_,_,_,qek,by rw[qdx (λh=>by obtain⟨l1,h1,_⟩:=h;rw[eT]at h1;cases h1)];rfl⟩,U.ext⟩
  obtain⟨l1,A1,c1,V1,E1,L1,e1,g1,d1⟩:∃l1 A1 c1 V1 E1 L1,tagR l=some l1/\RS w2 w6 [rb] rb l1 A1 c1 V1 E1 L1 []/\l1.length<=1000000:=⟨l3,_,_,_,_,_,by rw[eT];exact e3,h6,by have:=qll e2;omega⟩
  clear hq h4 h0 eT e2 h5 e3 h6;refine zu ?_
 all_goals
  refine zcv (qjc qft g1 (λx w1 _=>by
   refine(qg3 x w1).mono ?_;rintro v w' ⟨rfl,rfl⟩;exact⟨rfl,xr⟩)) ?_
  rintro v w7 ⟨rfl,g2⟩;cases ag:seeB qft l1
  ·have Z:qo3 l1↔l1=[]:=by rw[qo3,Aa (by rw[ag];simp)]
   refine zu ?_;obtain⟨a0,a1,a2,a3,a6,aa⟩:=id g2.rd;refine LoadV.of (v:=.slice A1 l1.length c1) (by have:=g2.mem.get aa;rw[rdC]at this;rw[qa this];rfl) (zw ?_)
   (repeat' refine zC (λ_=>zw ?_) (λ_=>zw ?_))
   ·skip
    refine StoreA.mem (af.call g2.mem.ext) (i:=0) rfl (Ai 7) qek λw9 U=>zw ?_;refine qd (R:=λv w'=>TagV l v/\Ext w w') (zw ?_);refine zl U 0 ?_;exact⟨⟨_,_,_,_,_,_,_,qek,by rw[qdx (λh=>by obtain⟨l2,h1,h2⟩:=h;rw[e1]at h1;cases h1;have e:=Z.1 h2;have:l1.length=0:=(by rw[e];rfl);omega)];rfl⟩,U.ext⟩
   ·skip
    obtain⟨⟨VA,vn,vc,rfl⟩,⟨EA,en,ec,rfl⟩⟩:=id g2.vs;obtain⟨z0,z1,z2,z3,z6,aa⟩:=id g2.rd;refine qyk g2.mem aa rfl rfl (zw ?_);refine StoreA.mem (af.call g2.mem.ext) (i:=0) rfl (Ai 7) (tag7 g2.vs _ _ _ _ _) λw9 U=>zw ?_;refine qd (R:=λv w'=>TagV l v/\Ext w w') (zw ?_);refine zl U 0 ?_;exact⟨⟨_,_,_,_,_,_,_,tag7 ⟨⟨_,_,_,rfl⟩,⟨_,_,_,rfl⟩⟩ _ _ _ _ _,by rw[qmx ⟨l1,e1,Z.2 (CX.1 Oo)⟩];rfl⟩,U.ext⟩
  ·obtain⟨x,xs,rfl⟩:∃x xs,l1=x::xs:=by
    cases l1 with
    | nil=>cases ag
    | cons x xs=>exact⟨x,xs,rfl⟩
   have Z:qo3 (x::xs)↔xs≠[]/\xs.all qj3=true:=by rw[qo3,Ab ag];rfl
   refine zu ?_;refine zcv (qlt g2) ?_;rintro v w8 ⟨rfl,A8,c8,L8,g8,_⟩;(conv=>whnf);obtain⟨a0,a1,a2,a3,a6,aa⟩:=id g8.rd;refine zcv (qym (least:=1) g8.mem aa g8.sl g8.hc g8.small (by simp at d1;omega)) ?_;rintro v w9 ⟨pre,ad,sT,hP,ax,rfl,A9,c9,L9,ai,aj,ay⟩;have g9:=g8.step ay ⟨_,_,_,_,_,rfl⟩ ai aj (λy hy=>by rw[hP.eq];exact Ac _ hy) g8.vs;(conv=>whnf);have ak:xs≠[]/\xs.all qj3=true↔pre≠[]/\ad=[]:=by
    have az:pre.all qj3=true:=hP.all;rw[hP.eq,CR,az,Ct]
    constructor
    ·rintro⟨n1,n2⟩;have hr:ad=[]:=by
      cases ad with
      | nil=>rfl
      | cons y ys=>
       have:qj3 y=false:=ax;simp[this]at n2
     exact⟨λe=>n1 (by rw[e,hr];rfl),hr⟩
    ·rintro⟨n1,rfl⟩;exact⟨by simpa using n1,rfl⟩
   rw[ak]at Z;have a5:=g2.small x mh;have a7:=hP.size;have a8:pre.length<=1000000:=by have:=Ad List.length hP.eq;simp at this d1;omega
   by_cases hp:pre=[]
   ·rw[Ax (by simp[hp])];refine zu ?_;refine StoreA.mem (af.call g9.mem.ext) (i:=0) rfl (Ai 7) qek λw9 U=>zw ?_;refine qd (R:=λv w'=>TagV l v/\Ext w w') (zw ?_);refine zl U 0 ?_;exact⟨⟨_,_,_,_,_,_,_,qek,by rw[qdx (λh=>by obtain⟨l2,h1,h2⟩:=h;rw[e1]at h1;cases h1;exact(Z.1 h2).1 hp)];rfl⟩,U.ext⟩
   ·rw[At (by simpa using hp)];refine zu ?_;refine⟨by omega,?_⟩;(conv=>whnf);obtain⟨a0,a1,a2,a3,a6,aa⟩:=id g9.rd;refine qfu g9.mem aa 6 rfl (show 6<7 by decide) rfl ?_;intro a9 ba al;have ae:=g9.step al ⟨_,_,_,_,_,rfl⟩ ai aj (λy hy=>hy) g9.vs;obtain⟨a0,a1,a2,a3,a6,aa⟩:=id ae.rd;(conv=>whnf);refine LoadV.of (v:=.slice A9 ad.length c9) (by have:=ae.mem.get aa;rw[rdC]at this;rw[qa this];rfl) (zw ?_)
    (repeat' refine zC (λ_=>zw ?_) (λ_=>zw ?_))
    ·skip
     refine StoreA.mem (af.call ae.mem.ext) (i:=0) rfl (Ai 7) qek λw9 U=>zw ?_;refine qd (R:=λv w'=>TagV l v/\Ext w w') (zw ?_);refine zl U 0 ?_;exact⟨⟨_,_,_,_,_,_,_,qek,by rw[qdx (λh=>by obtain⟨l2,h1,h2⟩:=h;rw[e1]at h1;cases h1;have e:=(Z.1 h2).2;have:ad.length=0:=(by rw[e];rfl);omega)];rfl⟩,U.ext⟩
    ·skip
     obtain⟨⟨VA,vn,vc,rfl⟩,⟨EA,en,ec,rfl⟩⟩:=id ae.vs;obtain⟨z0,z1,z2,z3,z6,aa⟩:=id ae.rd;refine qyk ae.mem aa rfl rfl (zw ?_);refine StoreA.mem (af.call ae.mem.ext) (i:=0) rfl (Ai 7) (tag7 ae.vs _ _ _ _ _) λw9 U=>zw ?_;refine qd (R:=λv w'=>TagV l v/\Ext w w') (zw ?_);refine zl U 0 ?_;exact⟨⟨_,_,_,_,_,_,_,tag7 ⟨⟨_,_,_,rfl⟩,⟨_,_,_,rfl⟩⟩ _ _ _ _ _,by rw[qmx ⟨_,e1,Z.2 ⟨hp,CX.1 Oo⟩⟩];rfl⟩,U.ext⟩
namespace V
theorem AppV.one{n:Nat}{t e:DD}{i:TypeInfo}(ht:P.underlying t=some (.slice e))(hi:P.info? e=some i)(hz:i.zero=some z)(U:i.size=1)(Z:z.cells.size=1)(aa:i.bytes<=16)(h:Rw w0 w (.slice A n c) e 1 n xs ((nb,.cells #[x] e)::L))(hx:x.oneCell'=true)(hn:n+1<=8000000000000)(hk:∀A' c' w',Rw w0 w' (.slice A' (n+1) c') e 1 (n+1) (xs++[x]) L->K (.slice A' (n+1) c') w'):AppV P #[t,t] ty (.slice A n c) (.slice (some ⟨nb,0,none⟩) 1 1) w K:=by
 refine AppV.rw (news:=[x]) ht hi hz U Z Od h rfl (λ_=>⟨nb,0,rfl,λk v hv=>?_⟩) (λu hu=>by simp at hu;rw[hu];exact hx) ?_ Oo (λA' c' w' h'=>hk A' c' w' h'.tail)
 ·rw[qa (h.mem.get mh),As]
  simpa using hv
 ·have:(n+1)*i.bytes<=8000000000000*16:=BF hn aa;omega
theorem Rw.ints{e:DD}{U:List Int}(h:Rw w0 w (.slice A U.length c) e 1 U.length (U.map (Value.int .i64)) L):SlAt zeI 1 w A U:=by
 refine⟨λZ=>?_⟩;obtain⟨g,rfl,_,_,_,hc⟩:=h.cells (Cf.2 Z);refine⟨g,0,rfl,λj x hx k v hv=>?_⟩;cases k with
 | succ k=>simp[zeI]at hv
 | zero=>
  simp only[zeI,AQ,AI]at hv;subst hv;have:=hc j (ii x) (by rw[Ao,hx];rfl)
  simpa using this
theorem oneI(l:List Int):∀v∈l.map (Value.int .i64),v.oneCell'=true:=by
 intro v U;obtain⟨x,_,rfl⟩:=AA.1 U;rfl
end V
def rP:List (Int×Int):=(65,90)::(97,122)::basesP
def rbI:List Int:=rP.flatMap λx=>[x.1,x.2]
theorem qah0:∀i (h:i<rP.length),(rbI.map (Value.int .i64))[i*2]?=some (ii rP[i].1)/\(rbI.map (Value.int .i64))[i*2+1]?=some (ii rP[i].2):=by
 intro i h;have h:i<14:=h;obtain rfl|rfl|rfl|rfl|rfl|rfl|rfl|rfl|rfl|rfl|rfl|rfl|rfl|rfl:i=0\/i=1\/i=2\/i=3\/i=4\/i=5\/i=6\/i=7\/i=8\/i=9\/i=10\/i=11\/i=12\/i=13:=by omega
 all_goals exact⟨rfl,rfl⟩
theorem q5j(r:Int):rP.any (inP r)=qj2 r:=by
 show(inP r (65,90)||(inP r (97,122)||basesP.any (inP r)))=qj2 r;have:letN r=(inP r (65,90)||inP r (97,122)):=by
  rw[AD];simp[letN,inP];omega
 rw[qj2,this,Bool.or_assoc]
theorem V.buildV_arr{t e:DD}{n:Nat}{i:TypeInfo}{U:List (Nat×DF)}{l:DK}{K:DF->Prop}(hi:P.info? t=some i)(Z:i.zero=some z)(hu:P.underlying t=some (.array n e))(hT:hasT P e=true)(hf:qru (λk=>some (k*tsz P e,tsz P e)) z.cells.toList U=some l)(hk:K (.agg l.toArray)):qnq P t U K:=by
 unfold qnq;simp only[hi,Z,hu,hT,hf,cond_true,qan];exact hk
namespace V
section
variable {P:DC} {n:Nat} {ρ:DH} {w:DA}
theorem qab4{a b:Code}{Q:Exit->DH->DI}(h:qfc P n a (seqQ (qfc P n b Q) Q) ρ w):qfc P n (.seq a b) Q ρ w:=h
theorem qt1{Q:Exit->DH->DI}(h:regV P n ops.toList (Q .normal) ops.toList ρ w):qfc P n (.region id ops false) Q ρ w:=h
theorem qahl{ops:List Oper}{Q:DH->DI}(h:Q ρ w):regV P n ops Q [] ρ w:=h
theorem qwj{ops rest:List Oper}{Q:DH->DI}(Z:o.guard=none)(h:opV P o ρ w λv w'=>putV n o.dst ρ v λU=>regV P n ops Q rest U w'):regV P n ops Q (o::rest) ρ w:=by
 unfold regV;rw[Z];exact h
theorem q7f{K:DH->DI}{Q:Exit->DH->DI}(h:K ρ w):seqQ K Q .normal ρ w:=h
theorem qab3{v:DF}{K:DH->Prop}(U:Nat.blt d n=true)(h:K (upd ρ d v)):putV n (some d) ρ v K:=by
 unfold putV;simp only[U,cond_true];exact h
theorem qaam{t:DD}(U:o.op=.alloc t)(h:qwq P t w K):opV P o ρ w K:=by
 unfold opV;rw[U];exact h
theorem qaao{t:DD}{x v:Operand}(U:o.op=.store t x v)(h:qy2 P t (ev ρ x) (ev ρ v) w (execOp (ev ρ) o) K):opV P o ρ w K:=by
 unfold opV;rw[U];exact h
theorem qaan{t:DD}{U:Array (Nat×Operand)}{Z:Option Tmp}{pos:String}{aa:Array Edge}{gd:Option (Nat×Bool)}(h:qnq P t (evp ρ U.toList) λv=>K v w):
  opV P { dst:=Z,op:=.build t U,type:=ty,pos:=pos,after:=aa,guard:=gd } ρ w K:=h
end
end V
theorem arrI:(DM.info? 481).isSome=true:=by kernel_rfl
theorem arrZ:((DM.info? 481).get arrI).zero=some (.agg (Array.replicate 28 (ii 0))):=by kernel_rfl
theorem arrF(ρ:DH):qru (λk=>some (k*tsz DM 3,tsz DM 3)) (Value.cells (.agg (Array.replicate 28 (ii 0)))).toList (evp ρ (rbI.zipIdx.map λx=>(x.2,Operand.const (ii x.1))))=some (rbI.map (Value.int .i64)):=by kernel_rfl
theorem qs2(w:DA):Gv DM 381 [] w λv w'=>v=.agg (rbI.map (Value.int .i64)).toArray/\Ext w w':=by
 refine gv Jk Tryz.func381 rfl Tryz.ntmps381 rfl ?_;refine qab4 (qt1 ?_);refine qwj rfl ?_;refine qaam rfl (zw ?_);refine znm (Mem.nil w) ?_;intro b w1 Z;dsimp only
 with_reducible refine qab3 (d:=0) ?_ ?_
 ·exact rfl
 try dsimp only
 with_reducible refine qahl ?_
 with_reducible refine q7f ?_
 with_reducible refine qab4 ?_
 with_reducible refine qt1 ?_
 with_reducible refine qwj ?_ ?_
 ·exact rfl
 with_reducible refine qaan ?_
 with_reducible refine V.buildV_arr (e:=3) (n:=28) (i:=(DM.info? 481).get arrI) (z:=.agg (Array.replicate 28 (ii 0))) (l:=rbI.map (Value.int .i64)) ?_ ?_ Tryz.underlying481 ?_ ?_ ?_
 ·exact(Bd _).symm
 ·exact arrZ
 ·kernel_rfl
 ·exact arrF _
 dsimp only
 with_reducible refine qab3 (d:=1) ?_ ?_
 ·exact rfl
 try dsimp only
 with_reducible refine qwj ?_ ?_
 ·exact rfl
 refine qaao (by rfl) (zw ?_);refine StoreA.mem (vs:=rbI.map (Value.int .i64)) Z (i:=0) rfl (Ai 28) (oneI _) ?_;intro w2 U;replace U:Mem w w2 [(b,.cells (rbI.map (Value.int .i64)).toArray 481)]:=U;(conv=>whnf);refine qd (R:=λv w'=>v=.agg (rbI.map (Value.int .i64)).toArray/\Ext w w') (zw ?_);refine zL U 0 ?_;rw[qan];exact⟨rfl,U.ext⟩
theorem qk9{t:DD}(h:Mem w0 w ((b,.cells vs.toArray t fr)::L)):CellsAt w b 0 vs:=by
 intro k v U;rw[qa (h.get mh),As]
 simpa using U
theorem qvj(r:Int)(w:DA):Gv DM 349 [ii r] w λv w'=>v=.bool (qj2 r)/\Ext w w':=by
 refine ze Tryz.func349 Tryz.ntmps349 ?_;refine zcv (qs2 w) ?_;rintro v w1 ⟨rfl,he⟩;(conv=>whnf);refine znm ((Mem.nil w).call he) λb w2 U=>zw ?_;refine StoreA.mem (vs:=rbI.map (Value.int .i64)) U (i:=0) rfl (Ai 28) (oneI _) ?_;intro w3 U;replace U:Mem w w3 [(b,.cells (rbI.map (Value.int .i64)).toArray 481)]:=U;(conv=>whnf);refine qq (λi:Nat=>[(0,ii r),(3,pp b),(4,ii (i*2:Nat))]) (λi w4=>i<=14/\(rP.take i).any (inP r)=false/\Mem w w4 [(b,.cells (rbI.map (Value.int .i64)).toArray 481)]) (λi=>14-i) 0 fq ⟨by omega,rfl,U⟩ ?_;rintro i w4 aa ⟨h1,h2,U⟩;(conv=>whnf);refine zC (λ_=>zu ?_) (λ_=>zu ?_)
 ·have hi:i<rP.length:=show i<14 by omega
  obtain⟨b1,b2⟩:=qah0 i hi;have Z:∀c,inP r rP[i]=c->(rP.take (i+1)).any (inP r)=c:=λc hc=>by
   rw[AP hi,Dr,h2,List.any_cons,hc];simp
  refine LoadV.of (q2e (qk9 U _ _ b1)) (zw ?_);refine zC (λ_=>zu ?_) (λ_=>zu ?_)
  ·refine⟨i*2+1,by omega,by omega,?_⟩;refine zu ?_;refine LoadV.of (qw6 (qk9 U _ _ b2)) (zw ?_);refine zt ?_;refine zC (λ_=>zu ?_) (λ_=>zu ?_)
   ·refine⟨Ad Value.bool ?_,U.ext⟩;rw[<-q5j];exact(List.any_eq_true.2 ⟨rP[i],AK hi,by simp[inP];omega⟩).symm
   ·exact⟨i+1,⟨rfl,rfl,Ad (Value.int .i64) Oo,trivial⟩,⟨by omega,Z _ (by simp[inP];omega),U⟩,by omega⟩
  ·exact⟨i+1,⟨rfl,rfl,Ad (Value.int .i64) Oo,trivial⟩,⟨by omega,Z _ (by simp[inP];omega),U⟩,by omega⟩
 ·refine⟨Ad Value.bool ?_,U.ext⟩;rw[<-q5j,<-h2,Aj (show 14<=i by omega)]
theorem qgn(r:Int)(w:DA):Gv DM 307 [ii r] w λv w'=>v=.bool (qgr r)/\Ext w w':=by
 refine ze Tryz.func307 Tryz.ntmps307 ?_;refine zcv (qvj r w) ?_;rintro v Z ⟨rfl,U⟩;(conv=>whnf);unfold qgr;cases qj2 r
 ·refine zv ?_
  all_goals(refine⟨Ad Value.bool ?_,U⟩;rw[AD];simp;try omega)
 ·refine zv ?_
  all_goals(refine⟨Ad Value.bool ?_,U⟩;rw[AD];simp;try omega)
theorem qh2(r:Int)(w:DA):Gv DM 308 [ii r] w λv w'=>v=.bool (digN r)/\w'=w:=by
 refine ze Tryz.func308 Tryz.ntmps308 ?_;refine zC (λ_=>zu ?_) (λ_=>zu ?_)
 all_goals(refine⟨Ad Value.bool ?_,rfl⟩;rw[AD];simp[digN];try omega)
theorem ql8(r:Int)(w:DA):Gv DM 350 [ii r] w λv w'=>v=.bool (qd6 r)/\Ext w w':=by
 refine ze Tryz.func350 Tryz.ntmps350 ?_;refine zcv (qgn r w) ?_;rintro v Z ⟨rfl,U⟩;(conv=>whnf);unfold qd6;cases qgr r
 ·refine zt ?_;refine zC (λ_=>zu ?_) (λ_=>zu ?_)
  all_goals try (
   refine zcv (qh2 r Z) ?_;rintro v w2 ⟨rfl,rfl⟩;(conv=>whnf))
  all_goals cases hd:digN r
  all_goals(repeat'(first|refine zp ?_|refine zC (λ_=>zw ?_) (λ_=>zw ?_)))
  all_goals(refine⟨Ad Value.bool ?_,U⟩;rw[AD];simp;try omega)
 ·refine zv ?_
  all_goals(refine⟨Ad Value.bool ?_,U⟩;rw[AD];simp;try omega)
theorem qvu(s:DB)(hs:s.size<=4000000000000)(w:DA):
  Gv DM 306 [.string s] w λv w'=>((scal s.data.toList=none/\v=.tuple #[.slice none 0 0,.bool false])\/
   (∃l A c,scal s.data.toList=some l/\v=.tuple #[.slice A l.length c,.bool true]/\SlAt zeI 1 w' A (l.map Int.ofNat)/\l.length<=s.size))/\Ext w w':=by
 refine ze Tryz.func306 Tryz.ntmps306 ?_;refine qq (λx:Nat×List Int×oA×Nat=>[(0,.string s),(4,.slice x.2.2.1 x.2.1.length x.2.2.2),(5,ii x.1)])
  (λx w2=>x.1<=s.size/\x.2.1.length<=x.1/\Rw w w2 (.slice x.2.2.1 x.2.1.length x.2.2.2) 3 1 x.2.1.length (x.2.1.map (Value.int .i64)) []/\(scal s.data.toList).map (·.map Int.ofNat)=(scal (s.data.toList.drop x.1)).map λl=>x.2.1++l.map Int.ofNat)
  (λx=>s.size-x.1) (0,[],none,0) fq ⟨by simp,by simp,Rw.nil (Mem.nil w),by simp⟩ ?_
 rintro⟨i,zs,B,d⟩ w2 ag ⟨h1,h2,hR,U⟩;simp only at h1 h2 hR U;dsimp only;(conv=>whnf);refine zC (λ_=>zw ?_) (λ_=>zw ?_)
 ·refine zcv (ql9 s i Oo Oo w2) ?_;rintro v w3 ⟨rfl,he⟩;have ad:=qip (s.data.toList.drop i);rw[qeo]at ad;have aa:=hR.call he;(conv=>whnf);refine zC (λ_=>zw ?_) (λ_=>zw ?_)
  ·refine⟨.inl ⟨?_,rfl⟩,aa.mem.ext⟩;rw[qh6 (qit s i Oo) Oo]at U;cases Z:scal s.data.toList with
   | none=>rfl
   | some l=>rw[Z]at U;cases U
  ·refine NewV.rw aa λnb w4 ae=>zw ?_;refine AppV.one (i:=_) (z:=ii 0) Tryz.underlying238 (Bd Jk).symm Jk Jk rfl (by decide +kernel) ae rfl Oo ?_;intro B' d' w5 af;refine zu ?_;refine⟨(i+(decN (s.data.toList.drop i)).2,zs++[((decN (s.data.toList.drop i)).1:Int)],B',d'),⟨rfl,by simp only[zla];rfl,rfl,trivial⟩,⟨by simp only;omega,by simp only[zla,Bw];omega,?_,?_⟩,by simp only;omega⟩
   ·simp only[zla,Bw,AH,AB,B4];exact af
   ·simp only;rw[U,qfx (qit s i Oo) Oo,Am];cases scal (s.data.toList.drop (i+(decN (s.data.toList.drop i)).2))with
    | none=>rfl
    | some l=>simp
 ·refine⟨?_,hR.mem.ext⟩;rw[AC Ys,scal]at U;cases Z:scal s.data.toList with
  | none=>rw[Z]at U;cases U
  | some l=>
   rw[Z]at U;simp at U;subst U;refine .inr ⟨l,B,d,rfl,by simp,?_,by simpa using AE h2 h1⟩;exact hR.ints
theorem qda{q:DE->Bool}(s:DB)(p:Nat)(U:p<s.size):(s.data.toList.take (p+1)).all q=((s.data.toList.take p).all q&&q (gb s p)):=by
 rw[qph (by simpa using U),CR];simp[gb]
def digA(s:DB):Bool:=s.data.toList.all λc=>digN c.toNat
def letA(s:DB):Bool:=s.data.toList.all λc=>letN c.toNat
theorem q2p{s:DB}(hi:i<s.size)(h:digN (gb s i).toNat=false):digA s=false:=by
 rw[digA,CE];exact⟨gb s i,by rw[gb,Ag,zge (by simpa using hi)];exact AK _,by simpa using h⟩
theorem qadh{s:DB}(hi:i<s.size)(h:letN (gb s i).toNat=false):letA s=false:=by
 rw[letA,CE];exact⟨gb s i,by rw[gb,Ag,zge (by simpa using hi)];exact AK _,by simpa using h⟩
theorem qfr(s:DB)(hs:s.size<=140737488355328)(w:DA):Gv DM 383 [.string s] w λv w'=>v=.bool (digA s)/\w'=w:=by
 refine ze Tryz.func383 Tryz.ntmps383 ?_;refine qq (λi:Nat=>[(0,.string s),(3,ii i)]) (λi Z=>i<=s.size/\(s.data.toList.take i).all (λc=>digN c.toNat)=true/\Z=w) (λi=>s.size-i) 0 fq ⟨by omega,rfl,rfl⟩ ?_;rintro i Z aa ⟨h1,U,rfl⟩;conv=>whnf
 (repeat'(first|refine zp ?_|refine zC (λ_=>zw ?_) (λ_=>zw ?_)))
 ·exact⟨by rw[q2p (i:=i) Oo (by simp[digN];omega)],rfl⟩
 ·exact⟨by rw[q2p (i:=i) Oo (by simp[digN];omega)],rfl⟩
 ·exact⟨i+1,fq,⟨by omega,by rw[qda s i Oo,U];simp[digN];omega,rfl⟩,by omega⟩
 ·rw[Aj Ys]at U;exact⟨by rw[digA,U],rfl⟩
theorem qlp(s:DB)(hs:s.size<=140737488355328)(w:DA):Gv DM 384 [.string s] w λv w'=>v=.bool (letA s)/\w'=w:=by
 refine ze Tryz.func384 Tryz.ntmps384 ?_;refine qq (λi:Nat=>[(0,.string s),(3,ii i)]) (λi Z=>i<=s.size/\(s.data.toList.take i).all (λc=>letN c.toNat)=true/\Z=w) (λi=>s.size-i) 0 fq ⟨by omega,rfl,rfl⟩ ?_;rintro i Z aa ⟨h1,U,rfl⟩;conv=>whnf
 (repeat'(first|refine zp ?_|refine zC (λ_=>zw ?_) (λ_=>zw ?_)))
 all_goals first
  | exact⟨by rw[qadh (i:=i) Oo (by simp[letN];omega)],rfl⟩
  | exact⟨i+1,fq,⟨by omega,by rw[qda s i Oo,U];simp[letN];omega,rfl⟩,by omega⟩
  | (rw[Aj Ys]at U;exact⟨by rw[letA,U],rfl⟩)
theorem q47{s:DB}(h:i<s.size):(s.extract i (i+1)).data.toList=[gb s i]:=by
 have:(s.extract i (i+1)).data.toList=(s.data.toList.drop i).take 1:=by
  rw[BH,Dp,List.extract_eq_take_drop,BE]
 rw[this,qa8 s i h];rfl
theorem qyc{s:DB}(h:i<s.size):(s.extract i (i+1)).size=1:=by
 rw[Bm];omega
theorem qad2{s:DB}(h:i<s.size):letA (s.extract i (i+1))=letN (gb s i).toNat:=by rw[letA,q47 h];simp
theorem q46{s:DB}(h:i<s.size):digA (s.extract i (i+1))=digN (gb s i).toNat:=by rw[digA,q47 h];simp
theorem q87{s:DB}{p:Bool}(U:i<s.size)(h:alnB p (gb s i)=false):qac s lo hi p=false:=by
 have:s.data.toList.all (alnB p)=false:=by
  rw[CE];exact⟨gb s i,by rw[gb,Ag,zge (by simpa using U)];exact AK _,by simpa using h⟩
 rw[qac,this];rfl
theorem qhg(s:DB)(lo hi:Nat)(hs:s.size<=140737488355328)(w:DA):Gv DM 357 [.string s,ii lo,ii hi] w λv w'=>v=.bool (qac s lo hi false)/\w'=w:=by
 refine ze Tryz.func357 Tryz.ntmps357 ?_;refine qq (λi:Nat=>[(0,.string s),(1,ii lo),(2,ii hi),(7,ii i)]) (λi Z=>i<=s.size/\(s.data.toList.take i).all (alnB false)=true/\Z=w) (λi=>s.size-i) 0 fq ⟨by omega,rfl,rfl⟩ ?_;rintro i Z aa ⟨h1,U,rfl⟩;conv=>whnf
 (repeat'(first|refine zp ?_|refine zC (λ_=>zw ?_) (λ_=>zw ?_)))
 ·have hi:i<s.size:=by omega
  have ad:=qyc hi;refine⟨i,i+1,rfl,rfl,by omega,by omega,?_⟩;(conv=>whnf);refine zcv (qlp (s.extract i (i+1)) Oo Z) ?_;rintro v w2 ⟨rfl,rfl⟩;rw[qad2 hi];cases hl:letN (gb s i).toNat
  ·refine zu ?_;refine⟨i,i+1,rfl,rfl,by omega,by omega,?_⟩;refine zu ?_;refine zcv (qfr (s.extract i (i+1)) Oo w2) ?_;rintro v w3 ⟨rfl,rfl⟩;rw[q46 hi];cases hd:digN (gb s i).toNat
   ·refine zu ?_;exact⟨by rw[q87 hi (by rw[alnB,hl,hd];rfl)],rfl⟩
   ·refine zu ?_;exact⟨i+1,fq,⟨by omega,by rw[qda s i hi,U,alnB,hl,hd];rfl,rfl⟩,by omega⟩
  ·refine zu ?_;exact⟨i+1,fq,⟨by omega,by rw[qda s i hi,U,alnB,hl];rfl,rfl⟩,by omega⟩
 all_goals
  rw[Aj Ys]at U;have hM:qac s lo hi false=decide (lo<=s.size/\s.size<=hi):=by rw[qac,U];rfl
 ·exact⟨Ad Value.bool (by rw[hM,AD];simp;omega),rfl⟩
 ·exact⟨Ad Value.bool (by rw[hM,eq_comm,decide_eq_false_iff_not];omega),rfl⟩
theorem qnf(s:DB)(hs:s.size<=140737488355328)(w:DA):Gv DM 356 [.string s] w λv w'=>v=.bool (varB s)/\w'=w:=by
 refine ze Tryz.func356 Tryz.ntmps356 ?_;refine zcv (qhg s 5 8 hs w) ?_;rintro v w1 ⟨rfl,rfl⟩;cases U:qac s 5 8 false
 ·refine zu ?_;refine zcv (qhg s 4 4 hs w1) ?_;rintro v w2 ⟨rfl,rfl⟩;cases Z:qac s 4 4 false
  ·refine zu ?_;exact⟨by rw[varB,U,Z];rfl,rfl⟩
  ·have aa:s.size=4:=by
    simp[qac]at Z;omega
   have h1:=qyc (s:=s) (i:=0) Oo;refine zu ?_;refine⟨0,1,rfl,rfl,by omega,by omega,?_⟩;refine zu ?_;refine zcv (qfr (s.extract 0 1) (by show(s.extract 0 (0+1)).size<=_;omega) w2) ?_;rintro v w3 ⟨rfl,rfl⟩;refine zu ?_;exact⟨by rw[varB,U,Z,q46 (s:=s) (i:=0) Oo];rfl,rfl⟩
 ·refine zu ?_;exact⟨by rw[varB,U];rfl,rfl⟩
def glue(U:LB):List LB->List LB
 | []=>[]
 | p::Z=>(U++p)::Z
theorem ql3:∀l:LB,∃p U,qbp l=p::U
 | []=>⟨_,_,rfl⟩
 | c::t=>by
  unfold qbp
  split
  ·exact⟨_,_,rfl⟩
  ·split<;>exact⟨_,_,rfl⟩
theorem q3f(U t:LB):glue U (qbp (45::t))=[U]++glue [] (qbp t):=by
 obtain⟨p,Z,h⟩:=ql3 t;rw[qbp,Ab rfl,h];simp[glue]
theorem q3g(U t:LB){c:DE}(Z:c≠45):glue U (qbp (c::t))=glue (U++[c]) (qbp t):=by
 obtain⟨p,ps,h⟩:=ql3 t;rw[qbp,Aa Z,h];simp[glue]
theorem qo8(s:DB)(a b:Nat):(s.extract a b).data.toList=(s.data.toList.drop a).take (b-a):=by
 rw[BH,Dp,List.extract_eq_take_drop]
theorem qo0:∀{l m:List DB},l.map (·.data.toList)=m.map (·.data.toList)->l=m
 | [],[],_=>rfl
 | [],_::_,h=>by simp at h
 | _::_,[],h=>by simp at h
 | a::l,b::m,h=>by
  simp only[AB,List.cons.injEq]at h;obtain⟨U,Z⟩:=h;obtain⟨⟨a⟩⟩:=a;obtain⟨⟨b⟩⟩:=b;simp only at U;rw[U,qo0 Z]
theorem qtq:DM.underlying 159=some (.slice 9):=Tryz.underlying159
theorem qs6(s:DB)(hs:s.size<=1000000)(w:DA):
  Gv DM 351 [.string s] w λv w'=>∃A c,v=.slice A (qbi s).length c/\Rw w w' (.slice A (qbi s).length c) 9 1 (qbi s).length ((qbi s).map Value.string) []:=by
 obtain⟨L,hL⟩:∃L,L=s.data.toList:=⟨_,rfl⟩
 have ag:L.length=s.size:=by rw[hL];simp
 have ae:∀done:List DB,qbp L=done.map (·.data.toList)->done=qbi s:=λdone h=>qo0 (by rw[<-h,hL,ql4])
 refine ze Tryz.func351 Tryz.ntmps351 ?_;refine qq (λx:Nat×Nat×List DB×oA×Nat=>[(0,.string s),(3,.slice x.2.2.2.1 x.2.2.1.length x.2.2.2.2),(4,ii x.2.1),(5,ii x.1)])
  (λx w2=>x.1<=s.size/\x.2.1<=x.1/\x.2.2.1.length<=x.1/\Rw w w2 (.slice x.2.2.2.1 x.2.2.1.length x.2.2.2.2) 9 1 x.2.2.1.length (x.2.2.1.map Value.string) []/\
   qbp L=x.2.2.1.map (·.data.toList)++glue ((L.drop x.2.1).take (x.1-x.2.1)) (qbp (L.drop x.1)))
  (λx=>s.size-x.1) (0,0,[],none,0) fq ⟨by simp,by simp,by simp,Rw.nil (Mem.nil w),by
   obtain⟨p,ps,h⟩:=ql3 L;simp[glue,h]⟩ ?_
 rintro⟨i,fr,done,B,d⟩ w2 ah ⟨h1,h2,h3,hR,Z⟩;simp only at h1 h2 h3 hR Z;dsimp only;conv=>whnf
 (repeat'(first|refine zp ?_|refine zC (λ_=>zw ?_) (λ_=>zw ?_)))
 ·have hi:i<s.size:=by omega
  have U:L.drop i=gb s i::L.drop (i+1):=by rw[hL];exact qa8 s i hi
  rw[U,show gb s i=45 by rw[<-BG];show _=45;omega,q3f]at Z;refine⟨fr,i,rfl,rfl,by omega,by omega,?_⟩;refine NewV.rw hR ?_;intro nb w4 aa;refine AppV.one qtq strI strZ Jk rfl (by decide +kernel) aa rfl Oo ?_;intro B' d' w5 ad;refine zu ?_;refine⟨(i+1,i+1,done++[s.extract fr i],B',d'),⟨rfl,by simp only[zla];rfl,rfl,rfl,trivial⟩,⟨by simp only;omega,by simp only;omega,by simp;omega,?_,?_⟩,by simp only;omega⟩
  ·simp only[zla,Bw,AH,AB,B4];exact ad
  ·simp only[AH,AB,B4,qo8,BD,Br];rw[Z,<-hL,Az]
 ·have hi:i<s.size:=by omega
  have U:L.drop i=gb s i::L.drop (i+1):=by rw[hL];exact qa8 s i hi
  have hc:gb s i≠45:=λe=>by
   have:(gb s i).toNat=45:=by rw[e];rfl
   omega
  rw[U,q3g _ _ hc]at Z;refine⟨(i+1,fr,done,B,d),fq,⟨by simp only;omega,by simp only;omega,by simp only;omega,hR,?_⟩,by simp only;omega⟩;simp only;rw[Z]
  congr 2
  have e:i+1-fr=(i-fr)+1:=by omega
  rw[e,Bp]
  congr 1
  rw[BZ,show fr+(i-fr)=i by omega];have:=Ad List.head? U;rw[List.head?_drop]at this;rw[this];rfl
 ·rw[AC (show L.length<=i by omega)]at Z;refine⟨fr,s.size,rfl,rfl,by omega,by omega,?_⟩;refine NewV.rw hR ?_;intro nb w4 aa;refine AppV.one qtq strI strZ Jk rfl (by decide +kernel) aa rfl Oo ?_;intro B' d' w5 ad;have hd:=ae (done++[s.extract fr s.size]) (by
   rw[Z];simp only[AH,AB,B4,qo8,<-hL,show i=s.size by omega];simp[glue,qbp])
  rw[<-hd];have af:Rw w w5 (.slice B' (done++[s.extract fr s.size]).length d') 9 1 (done++[s.extract fr s.size]).length ((done++[s.extract fr s.size]).map Value.string) []:=by
   simp only[zla,Bw,AH,AB,B4];exact ad
  exact⟨B',d',by rw[zla];rfl,af⟩
def jn:List DB->LB
 | []=>[]
 | x::xs=>x.data.toList++xs.flatMap λy=>45::y.data.toList
theorem qade(l:List DB)(x:DB):jn (l++[x])=if l=[]then x.data.toList else jn l++([45]++x.data.toList):=by
 cases l with
 | nil=>simp[jn]
 | cons y U=>simp[jn]
theorem qxe:∀(l:List DB),(∀x∈l,x.size<=1000000)->(l.flatMap λy=>(45:DE)::y.data.toList).length<=l.length*1000001
 | [],_=>by simp
 | x::l,h=>by
  have:=qxe l λy U=>h y (zmc U)
  have Z:=h x mh;have e:x.data.toList.length=x.size:=by simp
  rw[List.flatMap_cons,zla,Au,Au,e];omega
theorem qaf7(l:List DB)(h:∀x∈l,x.size<=1000000):(jn l).length<=l.length*1000001:=by
 cases l with
 | nil=>simp[jn]
 | cons x l=>
  have:=qxe l λy U=>h y (zmc U)
  have Z:=h x mh;have e:x.data.toList.length=x.size:=by simp
  rw[jn,zla,Au,e];omega
theorem qf6(l:List DB)(A:oA)(c:Nat)(w:DA)(hS:SlAt V.zeS 1 w A l)(Z:∀x∈l,x.size<=1000000)(hn:l.length<=1000000):
  Gv DM 382 [.slice A l.length c] w λv w'=>v=.string ⟨(jn l).toArray⟩/\Ext w w':=by
 refine ze Tryz.func382 Tryz.ntmps382 ?_;refine qq (λx:Nat×oA×Nat=>[(0,.slice A l.length c),(3,.slice x.2.1 (jn (l.take x.1)).length x.2.2),(4,ii x.1)])
  (λx w2=>x.1<=l.length/\Rw w w2 (.slice x.2.1 (jn (l.take x.1)).length x.2.2) 5 1 (jn (l.take x.1)).length (byteCells (jn (l.take x.1))) [])
  (λx=>l.length-x.1) (0,none,0) fq ⟨by simp,Rw.nil (Mem.nil w)⟩ ?_
 rintro⟨k,B,d⟩ w2 ah ⟨h1,hR⟩;simp only at h1 hR;dsimp only;have aa:=qaf7 (l.take k) (λx ae=>Z x (Do ae));rw[Ar]at aa;conv=>whnf
 (repeat' refine zC (λ_=>zw ?_) (λ_=>zw ?_))
 ·have hk:k<l.length:=by omega
  refine NewV.rw hR λnb w4 af=>zw ?_;refine AppV.one (i:=_) (z:=.int .u8 0) Tryz.underlying32 (Bd Jk).symm Jk Jk rfl (by decide +kernel) af rfl Oo ?_;intro B' d' w5 ad;refine ElemV.sl (hS.ext ad.mem.ext) rfl k rfl hk ?_;intro b off hc;refine LoadV.cell0 hc ?_;have ag:=Z _ (AK hk);refine AppV.rwS (i:=_) Tryz.underlying32 Tryz.underlying9 (Bd Jk).symm Jk Jk Jk ad (λx Z c fz=>by simp at Z) Oo λv' w6 U=>?_;obtain⟨A',c',rfl⟩:=U.slice;refine zu ?_;have e:jn (l.take (k+1))=jn (l.take k)++([45]++(l[k]).data.toList):=by
   rw[AP hk,qade,Aa (by intro e;have h9:=Ad List.length e;rw[Ar,B6]at h9;omega)]
  have el:(jn (l.take (k+1))).length=(jn (l.take k)).length+1+(l[k]).size:=by rw[e];simp;omega
  refine⟨(k+1,A',c'),⟨rfl,by simp only[el];rfl,rfl,trivial⟩,⟨by simp only;omega,?_⟩,by simp only;omega⟩;simp only;rw[el,e,qbs,qbs,<-Az];exact U
 ·have hk:k<l.length:=by omega
  obtain rfl:k=0:=by omega
  refine ElemV.sl (hS.ext hR.mem.ext) rfl 0 rfl hk ?_;intro b off hc;refine LoadV.cell0 hc ?_;have ag:=Z _ (AK hk);refine AppV.rwS (i:=_) Tryz.underlying32 Tryz.underlying9 (Bd Jk).symm Jk Jk Jk hR (λx Z c fz=>by simp at Z) Oo λv' w6 U=>?_;obtain⟨A',c',rfl⟩:=U.slice;refine zu ?_;have e:jn (l.take (0+1))=jn (l.take 0)++(l[0]).data.toList:=by
   rw[AP hk];simp[jn]
  have el:(jn (l.take (0+1))).length=(jn (l.take 0)).length+(l[0]).size:=by rw[e];simp
  refine⟨(1,A',c'),⟨rfl,by simp only[el];rfl,rfl,trivial⟩,⟨by simp only;omega,?_⟩,by simp only;omega⟩;simp only;rw[show(1:Nat)=0+1 from rfl,el,e,qbs];exact U
 ·obtain rfl:k=l.length:=by omega
  rw[BO]at hR|-;refine BytesS.rw hR (zw ?_);exact⟨rfl,hR.mem.ext⟩
end Go.Proofs.YtccmcfpmknpccaaGreatDoor
