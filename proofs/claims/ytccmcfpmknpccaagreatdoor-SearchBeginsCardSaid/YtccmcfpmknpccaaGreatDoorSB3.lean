/- Lemmas and contracts of functions on the way to the law's card (part 3 of 16). -/
import Derived.Test.YtccmcfpmknpccaaGreatDoorSB2
import Derived.WideKeyArgs
import Derived.ChangeSame
import Derived.ChangeVars
import Derived.RowKit
import Derived.OpenShut
import Derived.Deep.Strs
import Derived.Lib.Builder
import Derived.Lib.Join
namespace Go.Proofs.YtccmcfpmknpccaaGreatDoor
open Go.RowKit V
set_option maxRecDepth 100000
variable {P:De} {f:FuncId} {news vs xs:Dm} {W W' w w' w0:Dc} {b base c g i k m nb off rb:Nat} {l:LB} {e ty:Df} {L L':Dl} {x z:Dh} {cs:Dp} {fr:Nat×Nat} {K R:Di} {ρ:Dj} {o:Oper} {xo yo:Operand} {A:oA} {O:Dn} {o':Obj}
theorem qun{v:Dh}(U:qcl P f=true)(h:Calls P f vs.toArray w λe w'=>e=.returned v/\w'=w):
  Gv P f vs w λu w'=>u=v/\w'=w:=⟨U,h.mono λ_ _ ⟨Z,h2⟩=>⟨v,Z,rfl,h2⟩⟩
def signs:Dd:=⟨#[60,62,34,123,125,124,94,96,92]⟩
theorem ql1(s:Dd)(c:Int)(w:Dc):
  Gv Do 372 [.string s,.int .u8 c] w λv w'=>v=ii (Lib.indexByte s.data.toList c.toNat.toUInt8)/\w'=w:=
 qun Jk (Tryz.strings_IndexByte s c w)
theorem qmy(r:Int)(w:Dc):
  Gv Do 373 [.int .i32 r] w λv w'=>v=.bool (Lib.validRune r)/\w'=w:=
 qun Jk (Tryz.utf8_ValidRune r w)
theorem qpt(r:Nat)(h:128<=r):2<=(Utf8.encode r).size/\(Utf8.encode r).size<=4/\128<=(gb (Utf8.encode r) ((Utf8.encode r).size-1)).toNat:=by
 unfold Utf8.encode;simp only;obtain⟨c,U,Z⟩:∃c,(if Utf8.valid r=true then(r:Int).toNat else Utf8.runeError)=c/\128<=c:=by
  refine⟨_,rfl,?_⟩
  split
  ·omega
  ·decide
 rw[U];rw[Ab Oo];have hm:c%64<64:=(by omega)
 split
 ·refine⟨show 2<=2 by decide,show 2<=4 by decide,?_⟩;show 128<=(UInt8.ofNat (0x80+c%64)).toNat
  grind [UInt8.toNat_ofNat']
 ·split
  ·refine⟨show 2<=3 by decide,show 3<=4 by decide,?_⟩;show 128<=(UInt8.ofNat (0x80+c%64)).toNat
   grind [UInt8.toNat_ofNat']
  ·refine⟨show 2<=4 by decide,show 4<=4 by decide,?_⟩;show 128<=(UInt8.ofNat (0x80+c%64)).toNat
   grind [UInt8.toNat_ofNat']
theorem qov:∀pos:Fin 9,(Utf8.decode signs pos.1).2=1/\(Utf8.decode signs pos.1).1<128:=by decide
theorem qow:∀pos:Fin 9,(gb signs pos.1).toNat<128:=by decide
theorem qou:∀y∈signs.data.toList,y.toNat<128:=by
 simp[signs]
theorem qj1(l:LB)(c:Dg)(h:∀x∈l,x≠c):Lib.indexByte l c=-1:=by
 induction l<;>grind [Lib.indexByte]
theorem qj2(r:Nat)(h0:128<=r)(h1:r<=1114111)(w:Dc):
  Gv Do 337 [.string signs,.int .i32 r] w λv w'=>v=ii (-1)/\Ext w w':=by
 have he:=qpt r h0;refine ze Tryz.func337 Tryz.ntmps337 ?_;refine zY (λ_=>?_);(conv=>whnf);(iterate 2 (refine zT ?_;(conv=>whnf)));refine zN (λ_=>?_);(conv=>whnf);refine zC (λ_=>?_) (λ_=>?_)<;>(conv=>whnf)
 ·refine znm (Mem.nil w) λb w1 hm=>zw ?_;refine qm (λpos:Nat=>[(175,pp b)]) (λpos Z=>pos<=9/\Mem w Z [(b,.stringIter signs pos)]) (λpos=>9-pos) 0 ⟨rfl,trivial⟩ (by grind) ?_;rintro pos Z ab ⟨hp,hm⟩;(conv=>whnf);refine NextS.mem hm (i:=0) rfl ?_ ?_
  ·intro ac w3 ad;have aa:pos<9:=ac;have hd:=qov ⟨pos,aa⟩;simp only at hd;rw[hd.1]at ad;(conv=>whnf);refine zT ?_;(conv=>whnf);refine zN (λ_=>?_);(conv=>whnf);exact⟨pos+1,⟨rfl,trivial⟩,(by grind),by omega⟩
  ·intro af;(conv=>whnf);refine zU ?_;(conv=>whnf);exact⟨rfl,hm.ext⟩
 ·refine zcv (qmy _ _) ?_;rintro v w1 ⟨rfl,rfl⟩;(conv=>whnf);cases hv:Lib.validRune r
  ·(conv=>whnf);refine zP ?_;refine zU ?_;conv=>whnf
   grind [Ext.refl]
  ·(conv=>whnf);refine zP ?_;refine zT ?_;(conv=>whnf);refine ScopeV.straight (zw ?_);refine zA ?_;(conv=>whnf);have ag:signs.size=9:=rfl;refine qm (λ_:Unit=>[(0,.string signs),(7,.string (Utf8.encode r)),(8,ii ((Utf8.encode r).size-1)),(9,ii ((Utf8.encode r).size-1))]) (λ_ Z=>Z=w1) (λ_=>0) () fq rfl ?_;rintro _ Z ab rfl;(conv=>whnf);refine zY (λ_=>?_);(conv=>whnf);refine ScopeV.straight (zw ?_);refine zy ?_;(iterate 2 (refine zW ?_;(conv=>whnf)));refine IdxV.at_ ((Utf8.encode r).size-1) Oo Oo (zw ?_);(iterate 3 (refine zW ?_;(conv=>whnf)));refine IdxV.at_ ((Utf8.encode r).size-1) Oo Oo (zw ?_);(iterate 2 (refine zW ?_;(conv=>whnf)));refine zC (λ_=>?_) (λ_=>?_)<;>(conv=>whnf)
   have U:=qow ⟨(Utf8.encode r).size-1,by omega⟩;simp only at U
   ·refine zy ?_;(iterate 2 (refine zW ?_;(conv=>whnf)));refine zA ?_;(conv=>whnf);refine zW ?_;(conv=>whnf);refine SliceS.at_ (Utf8.encode r).size 9 (show(((Utf8.encode (r:Int)).size:Int)-1+1:Int)=((Utf8.encode (r:Int)).size:Int)by omega) rfl Oo Od (zw ?_);(iterate 3 (refine zW ?_;(conv=>whnf)));refine IdxV.at_ ((Utf8.encode r).size-1) Oo Oo (zw ?_);refine zW ?_;(conv=>whnf);refine⟨_,ql1 _ _ _,?_⟩;rw[qj1]
    ·(conv=>whnf);refine zW ?_;(conv=>whnf);refine zY (λ_=>?_);(conv=>whnf);exact⟨rfl,xr.drew.drew⟩
    ·intro x hx e;rw[Lib.extract_data]at hx;have ae:=List.mem_of_mem_take hx;have h2:=qou x (List.mem_of_mem_drop ae);rw[e]at h2;have h3:((((gb (Utf8.encode (r:Int)) ((Utf8.encode (r:Int)).size-1)).toNat:Int)).toNat.toUInt8).toNat=(gb (Utf8.encode (r:Int)) ((Utf8.encode (r:Int)).size-1)).toNat:=by
      simp
     omega
   ·have U:=qow ⟨(Utf8.encode r).size-1,by omega⟩;simp only at U;omega
theorem ql2(l:LB)(c:Dg):0<=Lib.indexByte l c↔c∈l:=by
 induction l<;>grind [Lib.indexByte]
def barB(c:Dg):Bool:=decide (c.toNat<=32\/c∈signs.data.toList)
def barR(r:Nat):Bool:=decide (r<128)&&barB (UInt8.ofNat r)
theorem qnj(r:Nat)(U:r<=1114111)(w:Dc):
  Gv Do 282 [.string signs,.int .i32 r] w λv w'=>v=.bool (decide (r<128/\UInt8.ofNat r∈signs.data.toList))/\Ext w w':=by
 by_cases h:r<128
 ·have Z:=Tryz.strings_ContainsRune_ascii signs (r:Int) w Oo Oo;refine(qun Jk Z).mono ?_
  grind [Ext.refl,ql2]
 ·refine ze Tryz.func282 Tryz.ntmps282 ?_;refine zcv (qj2 r Oo U w) ?_;rintro v w' ⟨rfl,he⟩;conv=>whnf
  grind
theorem qka(r:Nat)(U:r<=1114111)(w:Dc):
  Gv Do 213 [.int .i32 r] w λv w'=>v=.bool (barR r)/\Ext w w':=by
 have Z:r<128->(UInt8.ofNat r).toNat=r:=(by grind [UInt8.toNat_ofNat'])
 refine ze Tryz.func213 Tryz.ntmps213 ?_
 (repeat'(first|((with_reducible refine zT ?_);(conv=>whnf))|((with_reducible refine zU ?_);(conv=>whnf))|((with_reducible refine zC (λ_=>?_) (λ_=>?_))<;>first|(exfalso;omega)|(conv=>whnf))))
 ·grind [Ext.refl,barR,barB]
 ·refine zcv (qnj r U w) ?_;rintro v w' ⟨rfl,he⟩;(conv=>whnf);refine zU ?_;conv=>whnf
  grind [barR,barB]
theorem get!_gb(s:Dd)(k:Nat):s.get! k=gb s k:=by
 obtain⟨⟨l⟩⟩:=s;simp[ByteArray.get!,gb,getElem!_def];rfl
theorem qgs(s:Dd)(pos:Nat)(U:(gb s pos).toNat<128):Utf8.decode s pos=((gb s pos).toNat,1):=by
 grind [Utf8.decode,get!_gb]
theorem qiy(s:Dd)(pos:Nat)(h:pos<s.size)(hb:128<=(gb s pos).toNat):
  128<=(Utf8.decode s pos).1/\(Utf8.decode s pos).1<=1114111/\1<=(Utf8.decode s pos).2/\pos+(Utf8.decode s pos).2<=s.size/\∀j,j<(Utf8.decode s pos).2->128<=(gb s (pos+j)).toNat:=by
 unfold Utf8.decode;simp only[Bq,get!_gb];rw[Ab Oo];have one:∀j,j<1->128<=(gb s (pos+j)).toNat:=(by grind)
 have Z:=(gb s pos).toNat_lt
 split
 ·rename_i U
  simp only[AB,C7,decide_eq_true_eq]at U
  split
  ·grind
  ·exact⟨by decide,by decide,by decide,by omega,one⟩
 ·split
  ·rename_i U
   simp only[AB,C7,decide_eq_true_eq]at U
   split
   ·grind
   ·exact⟨by decide,by decide,by decide,by omega,one⟩
  ·split
   ·rename_i U
    simp only[AB,C7,decide_eq_true_eq]at U
    split
    ·grind [Utf8.valid]
    ·exact⟨by decide,by decide,by decide,by omega,one⟩
   ·exact⟨by decide,by decide,by decide,by omega,one⟩
theorem qlc(s:Dd)(n:Nat):∀pos,pos+n<=s.size->(∀j,j<n->128<=(gb s (pos+j)).toNat)->
  (s.data.toList.drop pos).any barB=(s.data.toList.drop (pos+n)).any barB:=by
 induction n with
 | zero=>simp
 | succ n Z=>
  intro pos aa U;have h0:=U 0 Oo;have hb:barB (gb s pos)=false:=by
   grind [barB,qou]
  rw[qcx s pos Oo,List.any_cons,hb,Bool.false_or,Z (pos+1) Oo (λj hj=>by have:=U (j+1) Oo;rwa[show pos+1+j=pos+(j+1)from by omega])]
  grind
theorem ql3(s:Dd)(_:s.size<=140737488355328)(w:Dc):
  Gv Do 212 [.string s,.func (.func 213) #[] #[]] w λv w'=>(∃i:Int,v=ii i/\(0<=i↔s.data.toList.any barB=true))/\Ext w w':=by
 have ab:Gv Do 281 [.string s,.func (.func 213) #[] #[],.bool true] w λv w'=>(∃i:Int,v=ii i/\(0<=i↔s.data.toList.any barB=true))/\Ext w w':=by
  refine ze Tryz.func281 Tryz.ntmps281 ?_;refine znm (Mem.nil w) λb w1 hm=>zw ?_;refine qm (λpos:Nat=>[(1,.func (.func 213) #[] #[]),(2,.bool true),(10,pp b)])
   (λpos w2=>pos<=s.size/\Mem w w2 [(b,.stringIter s pos)]/\s.data.toList.any barB=(s.data.toList.drop pos).any barB) (λpos=>s.size-pos) 0 fq (by grind) ?_
  rintro pos w2 ae ⟨hp,hm,ha⟩;(conv=>whnf);refine NextS.mem hm (i:=0) rfl ?_ ?_
  ·intro ac w3 U
   by_cases hb:(gb s pos).toNat<128
   ·have hd:=qgs s pos hb;rw[hd]at U|-;simp only at U|-;have af:UInt8.ofNat (gb s pos).toNat=gb s pos:=by simp
    (conv=>whnf);refine zT ?_;(conv=>whnf);refine zcv (qka _ Oo _) ?_;rintro v w4 ⟨rfl,he⟩;have Z:=U.call he;(conv=>whnf);have aa:barR (gb s pos).toNat=barB (gb s pos):=by grind [barR]
    rw[aa];cases ad:barB (gb s pos)
    ·(conv=>whnf);refine Tst.beqT ?_;refine zU ?_;(conv=>whnf);refine⟨pos+1,fq,⟨by omega,Z,?_⟩,by omega⟩
     grind [qcx]
    ·(conv=>whnf);refine Tst.beqT ?_;refine zT ?_;(conv=>whnf);refine⟨⟨pos,rfl,?_⟩,Z.ext⟩
     grind [qcx]
   ·have hd:=qiy s pos ac Oo;obtain⟨d1,d2,d3,d4,d5⟩:=hd;(conv=>whnf);refine zT ?_;(conv=>whnf);refine zcv (qka _ d2 _) ?_;rintro v w4 ⟨rfl,he⟩;have Z:=U.call he;have aa:barR (Utf8.decode s pos).1=false:=by simp[barR];omega
    rw[aa];(conv=>whnf);refine Tst.beqT ?_;refine zU ?_;(conv=>whnf);refine⟨pos+(Utf8.decode s pos).2,fq,⟨by omega,Z,?_⟩,by omega⟩;rw[ha];exact qlc s _ pos d4 d5
  ·intro ag;(conv=>whnf);refine zU ?_;(conv=>whnf);refine⟨⟨-1,rfl,?_⟩,hm.ext⟩
   simp_all[AZ]
 refine ze Tryz.func212 Tryz.ntmps212 ?_;refine zcv (ab) ?_;rintro v w' ⟨⟨i,rfl,hi⟩,he⟩;conv=>whnf
 simp_all
def refE(s:Dd):Nat:=
 if 65536<s.size then 2 else if scal s.data.toList=none then 40 else if s.data.toList.any barB then 50 else 0
theorem qmm(s:Dd)(U:s.size<=140737488355328)(w:Dc):
  Gv Do 137 [.string s] w λv w'=>v=ii (refE s)/\Ext w w':=by
 refine ze Tryz.func137 Tryz.ntmps137 ?_;refine zC (λ_=>?_) (λ_=>?_)<;>(conv=>whnf)
 ·grind [refE,Ext.refl]
 ·refine zcv (qnf s U _) ?_;rintro v w' ⟨⟨i,rfl,h1,h2,h3⟩,rfl⟩;(conv=>whnf);refine zC (λ_=>?_) (λ_=>?_)<;>(conv=>whnf)
  ·grind [Ext.refl,refE]
  ·have Z:scal s.data.toList≠none:=(by grind)
   refine zcv (ql3 s U _) ?_;rintro v w1 ⟨⟨j,rfl,hj⟩,he⟩;(conv=>whnf);refine zC (λ_=>?_) (λ_=>?_)<;>(conv=>whnf)
   all_goals grind [refE]
def ql6(c:Dg):Bool:=decide (97<=c.toNat/\c.toNat<=122\/65<=c.toNat/\c.toNat<=90)
def qqu(c:Dg):Bool:=ql6 c||decide (48<=c.toNat/\c.toNat<=57\/c.toNat=43\/c.toNat=45\/c.toNat=46)
def qbl:LB->Nat->Nat
 | [],_=>0
 | c::l,k=>if c.toNat=58 then k else if k=0/\ql6 c=false\/qqu c=false then 0 else qbl l (k+1)
theorem qvr(c:Dg)(l:LB)(k:Nat)(U:c.toNat≠58)(Z:97<=c.toNat/\c.toNat<=122\/65<=c.toNat/\c.toNat<=90\/(0<k/\(48<=c.toNat/\c.toNat<=57\/c.toNat=43\/c.toNat=45\/c.toNat=46))):
  qbl (c::l) k=qbl l (k+1):=by
 grind [qbl,qqu,ql6]
theorem qhx(c:Dg)(l:LB)(k:Nat)(U:c.toNat≠58\/k=0)(Z:¬(97<=c.toNat/\c.toNat<=122\/65<=c.toNat/\c.toNat<=90\/(0<k/\(48<=c.toNat/\c.toNat<=57\/c.toNat=43\/c.toNat=45\/c.toNat=46)))):
  qbl (c::l) k=0:=by
 grind [qbl,qqu,ql6]
theorem qqv(c:Dg)(l:LB)(k:Nat)(U:c.toNat=58):qbl (c::l) k=k:=by
 grind [qbl]
theorem qcz(s:Dd):s.extract 0 0=⟨#[]⟩:=by
 obtain⟨⟨l⟩⟩:=s;rw[ByteArray.extract_mk];simp
theorem qvt(s:Dd)(_:s.size<=140737488355328)(w:Dc):
  Gv Do 138 [.string s] w λv w'=>v=.string (s.extract 0 (qbl s.data.toList 0))/\Ext w w':=by
 refine ze Tryz.func138 Tryz.ntmps138 ?_;refine znm (Mem.nil w) λb w1 hm=>zw ?_;refine qm (λpos:Nat=>[(0,.string s),(7,pp b)])
  (λpos w2=>pos<=s.size/\Mem w w2 [(b,.stringIter s pos)]/\qbl s.data.toList 0=qbl (s.data.toList.drop pos) pos) (λpos=>s.size-pos) 0 fq (by grind) ?_
 rintro pos w2 ac ⟨hp,hm,Z⟩;(conv=>whnf);refine NextS.mem hm (i:=0) rfl ?_ ?_
 ·intro aa w3 U;have ab:=qcx s pos aa;rw[ab]at Z
  by_cases hb:(gb s pos).toNat<128
  ·have hd:=qgs s pos hb;rw[hd]at U|-;simp only at U|-;conv=>whnf
   (repeat'(first|((with_reducible refine zT ?_);(conv=>whnf))|((with_reducible refine zU ?_);(conv=>whnf))|((with_reducible refine zC (λ_=>?_) (λ_=>?_))<;>first|(exfalso;omega)|(conv=>whnf))))
   all_goals first
    | (refine⟨pos+1,fq,⟨by omega,U,?_⟩,by omega⟩;grind [qvr])
    | (refine⟨?_,U.ext⟩;rw[Z,qhx _ _ _ Oo Oo,qcz])
    | (refine SliceS.at_ 0 pos rfl rfl Oo Oo ?_;(conv=>whnf);skip;exact⟨by rw[Z,qqv _ _ _ Oo],U.ext⟩)
  ·obtain⟨d1,d2,d3,d4,d5⟩:=qiy s pos aa Oo;generalize(Utf8.decode s pos).1=r at d1 d2|-;generalize(Utf8.decode s pos).2=n at d3 d4 d5 U;conv=>whnf
   (repeat'(first|((with_reducible refine zT ?_);(conv=>whnf))|((with_reducible refine zU ?_);(conv=>whnf))|((with_reducible refine zC (λ_=>?_) (λ_=>?_))<;>first|(exfalso;omega)|(conv=>whnf))))
   all_goals first
    | (refine⟨?_,U.ext⟩;grind [qhx,qcz])
 ·intro ad;rw[AZ Ys]at Z;(conv=>whnf);refine zU ?_;(conv=>whnf);exact⟨by rw[Z,qbl,qcz],hm.ext⟩
def iriE(s:Dd):Nat:=if refE s≠0 then refE s else if qbl s.data.toList 0=0 then 51 else 0
theorem qvs(l:LB)(k:Nat):qbl l k<=k+l.length:=by
 induction l generalizing k<;>grind [qbl]
theorem qfp(s:Dd)(n:Nat)(U:n<=s.size):s.extract 0 n=⟨#[]⟩↔n=0:=by
 grind [ByteArray.size,ByteArray.size_extract,qcz]
theorem qhn(s:Dd)(hs:s.size<=140737488355328)(w:Dc):
  Gv Do 68 [.string s] w λv w'=>v=ii (iriE s)/\Ext w w':=by
 refine ze Tryz.func68 Tryz.ntmps68 ?_;refine zcv (qmm s hs _) ?_;rintro v w1 ⟨rfl,he⟩;(conv=>whnf);refine zC (λ_=>?_) (λ_=>?_)<;>(conv=>whnf)
 ·grind [iriE]
 ·refine zcv (qvt s hs _) ?_;rintro v w2 ⟨rfl,U⟩;have Z:=qvs s.data.toList 0;have aa:qbl s.data.toList 0<=s.size:=by simpa using Z
  (conv=>whnf);refine Tst.seq (λh=>?_) (λh=>?_)
  ·(conv=>whnf);exact⟨by grind [iriE,qfp],he.trans U⟩
  ·(conv=>whnf);exact⟨by grind [iriE,qfp],he.trans U⟩
def es:Dd:=⟨#[]⟩
structure PN where
 op:Int
 iri:Dd
 a:Int
 b:Int
 fA:oA
 fc:Nat
 f:List Dd
 vA:oA
 vc:Nat
 v:List Dd
open Go.ChangeShapes Go.WideShapes Go.RowKit
namespace V
section
variable {H:Type} {enc:Df×Dh->H} {P:De}
theorem qgf(hl:laidOutB P=true){base:Nat}{W W':Dc}{Z:Nat->Bool}:∀{ts:List Df} {vs:Dm} {ds:List (DataW H)} {ps:List MemPlace},
  (∀t∈ts,P.readableRec t=true/\t<P.types.size)->DataW.TrodAll enc P W base (λ_=>true) true ts vs ds ps->(∀p∈ps,W.sameAt W' p)->(∀p∈ps,Z p.block=true)->
  DataW.TrodAll enc P W' base Z true ts vs ds ps
 | [],_,_,_,_,h,_,_=>by
  obtain⟨rfl,rfl,rfl⟩:=trodAll_nil h;rfl
 | t::ts,_,_,_,hr,h,h1,h2=>by
  obtain⟨v,vs,d,ds,p,q,rfl,rfl,rfl,ha,hb⟩:=trodAll_cons h;obtain⟨r1,r2⟩:=hr t mh;exact⟨p,q,WideElems.Trod_stays hl r1 r2 ha (λx U=>h1 x (Ag _ U)) (λx U=>h2 x (Ag _ U)),
   qgf hl (λt ht=>hr t (zmc ht)) hb (λx U=>h1 x (Aa _ U)) (λx U=>h2 x (Aa _ U)),rfl⟩
theorem qqh{f:Func}{s:ChangeSpec}{U ae Z af:Bool}{args:Dp}{v:Dh}{ds gs:List (DataW H)}{before pa pv:List MemPlace}(hW:DataW.Whole enc P f.params.toList s.vars U W args.toList ds gs before)(ac:∀(b:Nat) (sp:Nat->Bool) (hd:Bool),DataW.TrodAll enc P W' b sp hd f.resultTypes.toList (v.resultList f.resultTypes.size) (s.fn H (ds++gs)).results [])(aa:∀sp:Nat->Bool,(∀p∈before,sp p.block=true)->DataW.TrodAll enc P W' 0 sp true f.params.toList args.toList (s.fn H (ds++gs)).args pa)(ab:∀sp:Nat->Bool,(∀p∈before,sp p.block=true)->DataW.TrodVars enc P W' sp s.vars (s.fn H (ds++gs)).vars pv)(aj:before=pa++pv)(he:Ext W W')(ah:∀(j:Nat) (t:Df) (r:Dh),f.resultTypes[j]?=some t->(v.resultList f.resultTypes.size)[j]?=some r->Value.okWide P W' .any 0 t r):
  s.post enc P f U ae Z af W args v W':=by
 have ai:=hW.lt;have ad:∀p∈before,(λb=>decide (b<W.heap.size)) p.block=true:=(by grind)
 refine⟨ds,gs,before,[],pa,pv,hW,ac _ _ _,aa _ ad,ab _ ad,Below.frame he _,λ_=>?_⟩;obtain⟨_,_,_,_,_,hz,hn⟩:=hW;refine⟨ah,_,_,([]++pa)++pv,⟨[]++pa,pv,trodAll_append (aa _ (λ_ _=>rfl)) (ac _ _ _),ab _ (λ_ _=>rfl),rfl,?_,?_⟩,?_⟩
 ·intro b off hp;have ag:MemPlace.cell b off∈before:=by simp_all
  rw[Below.frozen he (show(⟨b,off,none⟩:Addr).block<W.heap.size from ai _ ag)];exact hz b off ag
 all_goals simp_all
theorem q39{f:Func}{s:ChangeSpec}{U aa Z ab:Bool}{args:Dp}{v:Dh}{ds gs:List (DataW H)}{before:List MemPlace}(hl:laidOutB P=true)(hr:∀t∈f.params.toList,P.readableRec t=true/\t<P.types.size)(hW:DataW.Whole enc P f.params.toList s.vars U W args.toList ds gs before)(hv:s.vars=[])(aj:∀(b:Nat) (sp:Nat->Bool) (hd:Bool),DataW.TrodAll enc P W' b sp hd f.resultTypes.toList (v.resultList f.resultTypes.size) (s.fn H ds).results [])(ac:(s.fn H ds).args=ds)(ad:(s.fn H ds).vars=[])(he:Ext W W')(af:∀(j:Nat) (t:Df) (r:Dh),f.resultTypes[j]?=some t->(v.resultList f.resultTypes.size)[j]?=some r->Value.okWide P W' .any 0 t r):
  s.post enc P f U aa Z ab W args v W':=by
 have ag:=hW.lt;have ah:=hW;obtain⟨p,q,hA,hV,ae,_,_⟩:=hW;rw[hv]at hV;obtain⟨rfl,rfl⟩:=trodVars_none hV;rw[By]at ae;subst ae;refine qqh (pa:=before) (pv:=[]) ah ?_ ?_ ?_ Js he af
 ·simp_all
 ·rw[By,ac];exact λsp ai=>qgf hl hr hA (λx hx=>Below.same he (ag x hx)) ai
 ·rw[By,ad,hv];exact λ_ _=>rfl
structure Opn(enc:Df×Dh->H)(P:De)(w:Dc)(t:Df)(cs:Dm):Prop where
 h:∃n d ps,DataW.trod enc P w 0 (λ_=>true) true n t cs=some (d,ps)/\∀m∈DataW.weights P t d,m<=reachBytes
theorem qd1{t:Df}{d:DataW H}{m:Nat}(hm:m∈DataW.weights P t d):∀(U:List Df) (Z:List (DataW H)) (i:Nat),U[i]?=some t->Z[i]?=some d->m∈DataW.weightsEach P U Z
 | [],_,_,h,_=>by simp at h
 | _::_,[],_,_,h=>by simp at h
 | u::U,x::Z,0,h,h'=>by
  grind [DataW.weightsEach]
 | u::U,x::Z,i+1,h,h'=>by
  rw[DataW.weightsEach];exact Aa _ (qd1 hm U Z i (by simpa using h) (by simpa using h'))
theorem qey{t:Df}{d:DataW H}{m:Nat}(Z:m∈DataW.weights P t d):∀(U:List (DataW H)),d∈U->m∈DataW.weightsAll P t U
 | [],h=>by simp at h
 | x::U,h=>by
  rw[DataW.weightsAll]
  rcases Aw.1 h with rfl|h
  ·exact Ag _ Z
  ·exact Aa _ (qey Z U h)
section
variable {w:Dc} {t:Df}
theorem Opn.of{U:List Df}{Z:List (DataW H)}{ps:List MemPlace}(h:DataW.TrodAll enc P w 0 (λ_=>true) true U vs Z ps)(hw:(DataW.weightsEach P U Z).all (·<=reachBytes)=true):
  ∀(i:Nat) u v,U[i]?=some u->vs[i]?=some v->Opn enc P w u v.cells.toList:=by
 have aa:∀(U:List Df) (vs:Dm) (Z:List (DataW H)) (ps:List MemPlace),DataW.TrodAll enc P w 0 (λ_=>true) true U vs Z ps->(∀m∈DataW.weightsEach P U Z,m<=reachBytes)->
   ∀(i:Nat) u v,U[i]?=some u->vs[i]?=some v->Opn enc P w u v.cells.toList:=by
  intro U
  induction U with
  | nil=>simp
  | cons t U ih=>
   intro vs Z ps h hw i u v hu hv;obtain⟨x,ab,d,ac,p,q,rfl,rfl,rfl,⟨n,ha⟩,hb⟩:=trodAll_cons h;rw[DataW.weightsEach]at hw;cases i with
   | zero=>
    simp at hu hv;subst hu hv;exact⟨n,d,p,ha,λm hm=>hw m (by grind)⟩
   | succ i=>grind
 grind
theorem Opn.fields{U:Array Field}{cs:Dm}(Z:P.underlying t=some (.struct U))(h:Opn enc P w t cs):
  cs.length=P.cellsOf t/\∀(i:Nat) (f:Field),U[i]?=some f->Opn enc P w f.type ((cs.drop f.offset).take (P.cellsOf f.type)):=by
 obtain⟨n,d,ps,h,hw⟩:=h;obtain⟨xs,n,_,hd,hl,aa,hf⟩:=DataW.trod_struct Z h;simp only[Prod.mk.injEq]at hd;obtain⟨rfl,rfl⟩:=hd;refine⟨hl,λi f hi=>?_⟩;have ab:i<xs.length:=by
  grind
 refine⟨n,xs[i].1,xs[i].2,by grind,λm hm=>hw m ?_⟩;rw[DataW.weights,Z];exact qd1 hm _ _ i (by simp_all) (by grind)
theorem Opn.string{c:Dh}(Z:P.underlying t=some .string)(h:Opn enc P w t [c]):∃s:Dd,c=.string s/\s.size<=140737488355328:=by
 obtain⟨n,d,ps,h,hw⟩:=h;obtain⟨s,h1,U,_⟩:=DataW.trod_string Z h;simp only[Prod.mk.injEq]at U;obtain⟨rfl,rfl⟩:=U;refine⟨s,by simpa using h1,?_⟩;have:=hw s.data.toList.length (by grind [DataW.weights]);have e:s.data.toList.length=s.size:=Array.length_toList
 grind [reachBytes]
theorem Opn.int{k:IntKind}{c:Dh}(U:P.underlying t=some (.int k))(h:Opn enc P w t [c]):∃n:Int,c=.int k n/\(Lit.int k n).wf=true:=by
 grind [h,DataW.trod_int]
theorem q0z{a:Addr}{v:Dh}(h:w.cell? a=some v):a=⟨a.block,a.off,none⟩:=by
 obtain⟨b,o,s⟩:=a;cases s<;>grind [World.cell?]
end
end
end V
open Go.ChangeShapes Go.WideShapes Go.RowKit V
theorem q56{k:IntKind}{n:Int}(h:(Lit.int k n).wf=true):InR k n:=by
 simp only[Lit.wf,AB,decide_eq_true_eq]at h;cases k<;>exact h
theorem qli:Do.cellsOf 9=1:=by kernel_rfl
theorem q2j:Do.cellsOf 3=1:=by kernel_rfl
section
variable {H:Type} {enc:Df×Dh->H} {W:Dc}
instance:Inhabited PN:=⟨⟨0,⟨#[]⟩,0,0,none,0,[],none,0,[]⟩⟩
end
def basesP:List (Int×Int):=[(192,214),(216,246),(248,767),(880,893),(895,8191),(8204,8205),(8304,8591),(11264,12271),(12289,55295),(63744,64975),(65008,65533),(65536,983039)]
def qa3:Dm:=basesP.flatMap λx=>[.int .i32 x.1,.int .i32 x.2]
def inP(r:Int)(x:Int×Int):Bool:=decide (x.1<=r/\r<=x.2)
def letN(r:Int):Bool:=decide (97<=r/\r<=122\/65<=r/\r<=90)
def digN(r:Int):Bool:=decide (48<=r/\r<=57)
def qpg(r:Int):Bool:=letN r||basesP.any (inP r)
def qk0(r:Int):Bool:=qpg r||decide (r=95)
def qi2(r:Int):Bool:=qk0 r||digN r||decide (r=45\/r=183\/(768<=r/\r<=879)\/(8255<=r/\r<=8256))
def labB(r:Int):Bool:=qk0 r||digN r
theorem q18:∀x∈basesP,128<=x.1:=by decide
theorem qrs:∀i (h:i<basesP.length),qa3[i*2]?=some (.int .i32 basesP[i].1)/\qa3[i*2+1]?=some (.int .i32 basesP[i].2)/\128<=basesP[i].1:=by
 intro i h;refine⟨?_,?_,q18 _ (AP h)⟩
 all_goals
 have h:i<12:=h;obtain rfl|rfl|rfl|rfl|rfl|rfl|rfl|rfl|rfl|rfl|rfl|rfl:i=0\/i=1\/i=2\/i=3\/i=4\/i=5\/i=6\/i=7\/i=8\/i=9\/i=10\/i=11:=by omega
 all_goals rfl
theorem qn5(s:Dd)(p:Nat)(Z:p<=s.size)(U:s.size<=140737488355328)(w:Dc):
  Gv Do 216 [.string s,ii p] w λv w'=>v=.tuple #[.int .i32 (decN (s.data.toList.drop p)).1,ii (decN (s.data.toList.drop p)).2]/\w'=w:=by
 by_cases h:p<s.size
 ·exact qs3 s p h U w
 ·have e:s.data.toList.drop p=[]:=AZ Ys;rw[e];refine ze Tryz.func216 Tryz.ntmps216 ?_;refine zv ?_;exact⟨rfl,rfl⟩
theorem qg0(r:Int)(w:Dc):Gv Do 342 [.int .i32 r] w λv w'=>v=.bool (letN r)/\w'=w:=by
 refine ze Tryz.func342 Tryz.ntmps342 ?_
 (repeat'(first|refine zp ?_|refine zC (λ_=>zw ?_) (λ_=>zw ?_)))
 all_goals(refine⟨Ad Value.bool ?_,rfl⟩;rw[Bl];simp[letN];try omega)
theorem qcc(r:Int)(w:Dc):Gv Do 285 [.int .i32 r] w λv w'=>v=.bool (digN r)/\w'=w:=by
 refine ze Tryz.func285 Tryz.ntmps285 ?_;refine zC (λ_=>zu ?_) (λ_=>zu ?_)
 all_goals(refine⟨Ad Value.bool ?_,rfl⟩;rw[Bl];simp[digN];try omega)
theorem q7f{v:Dh}(h:w.cell? ⟨g,0+k,none⟩=some v):w.cell? ⟨g,0+k*1,none⟩=some v:=by rwa[Bw]
theorem q2i{v:Dh}(h:w.cell? ⟨g,0+(k+1),none⟩=some v):w.cell? ⟨g,0+(k+1)*1,none⟩=some v:=by rwa[Bw]
theorem q17(r:Int)(w:Dc)(hT:CellsAt w 4 0 qa3):Gv Do 338 [.int .i32 r] w λv w'=>v=.bool (qpg r)/\w'=w:=by
 have Z:r<128->qpg r=letN r:=λh=>by
  have:basesP.any (inP r)=false:=by
   rw[List.any_eq_false];intro x hx;obtain⟨i,hi,rfl⟩:=BJ.1 hx;have:=(qrs i hi).2.2;simp[inP];omega
  simp[qpg,this]
 have aa:128<=r->qpg r=basesP.any (inP r):=λh=>by
  have:letN r=false:=by simp[letN];omega
  simp[qpg,this]
 refine ze Tryz.func338 Tryz.ntmps338 ?_;refine zC (λ_=>zw ?_) (λ_=>zw ?_)
 ·refine zcv (qg0 r w) ?_;rintro v w1 ⟨rfl,rfl⟩;(conv=>whnf);exact⟨by rw[Z Oo],rfl⟩
 ·refine qm (λi:Nat=>[(0,.int .i32 r),(3,ii (i*2:Nat))]) (λi w1=>i<=12/\(basesP.take i).any (inP r)=false/\w1=w) (λi=>12-i) 0 fq ⟨by omega,rfl,rfl⟩ ?_;rintro i w1 ab ⟨h1,h2,rfl⟩;(conv=>whnf);refine zC (λ_=>zu ?_) (λ_=>zu ?_)
  ·have hi:i<basesP.length:=show i<12 by omega
   obtain⟨b1,b2,_⟩:=qrs i hi;have U:∀c,inP r basesP[i]=c->(basesP.take (i+1)).any (inP r)=c:=λc hc=>by
    rw[Bg hi,List.any_append,h2,List.any_cons,hc];simp
   refine LoadV.of (q7f (hT _ _ b1)) (zw ?_);refine zC (λ_=>zu ?_) (λ_=>zu ?_)
   ·refine⟨i*2+1,by omega,by omega,?_⟩;refine zu ?_;refine LoadV.of (q2i (hT _ _ b2)) (zw ?_);refine zt ?_;refine zC (λ_=>zu ?_) (λ_=>zu ?_)
    ·refine⟨Ad Value.bool ?_,rfl⟩;rw[aa Oo];exact(List.any_eq_true.2 ⟨basesP[i],AP hi,by simp[inP];omega⟩).symm
    ·exact⟨i+1,⟨rfl,Ad (Value.int .i64) Oo,trivial⟩,⟨by omega,U _ (by simp[inP];omega),rfl⟩,by omega⟩
   ·exact⟨i+1,⟨rfl,Ad (Value.int .i64) Oo,trivial⟩,⟨by omega,U _ (by simp[inP];omega),rfl⟩,by omega⟩
  ·refine⟨Ad Value.bool ?_,rfl⟩;rw[aa Oo,<-h2,Ay (show 12<=i by omega)]
theorem qjs(r:Int)(w:Dc)(U:CellsAt w 4 0 qa3):Gv Do 284 [.int .i32 r] w λv w'=>v=.bool (qk0 r)/\w'=w:=by
 refine ze Tryz.func284 Tryz.ntmps284 ?_;refine zcv (q17 r w U) ?_;rintro v Z ⟨rfl,rfl⟩;(conv=>whnf);unfold qk0;cases qpg r
 ·refine zv ?_
  all_goals(refine⟨Ad Value.bool ?_,rfl⟩;rw[Bl];simp;try omega)
 ·refine zv ?_
  all_goals(refine⟨Ad Value.bool ?_,rfl⟩;rw[Bl];simp;try omega)
theorem qns(r:Int)(w:Dc)(Z:CellsAt w 4 0 qa3):Gv Do 283 [.int .i32 r] w λv w'=>v=.bool (qi2 r)/\w'=w:=by
 refine ze Tryz.func283 Tryz.ntmps283 ?_;refine zcv (qjs r w Z) ?_;rintro v U ⟨rfl,rfl⟩;(conv=>whnf);unfold qi2;cases qk0 r
 ·refine zv ?_;refine zcv (qcc r U) ?_;rintro v U ⟨rfl,rfl⟩;(conv=>whnf);cases digN r
  ·(repeat'(first|refine zp ?_|refine zC (λ_=>zw ?_) (λ_=>zw ?_)))
   all_goals(refine⟨Ad Value.bool ?_,rfl⟩;rw[Bl];simp;try omega)
  ·refine zv ?_
   all_goals(refine⟨Ad Value.bool ?_,rfl⟩;rw[Bl];simp;try omega)
 ·refine zv ?_
  all_goals(refine⟨Ad Value.bool ?_,rfl⟩;rw[Bl];simp;try omega)
theorem quq(r:Int)(w:Dc)(Z:CellsAt w 4 0 qa3):Gv Do 215 [.int .i32 r] w λv w'=>v=.bool (labB r)/\w'=w:=by
 refine ze Tryz.func215 Tryz.ntmps215 ?_;refine zcv (qjs r w Z) ?_;rintro v U ⟨rfl,rfl⟩;(conv=>whnf);unfold labB;cases qk0 r
 ·refine zv ?_;refine zcv (qcc r U) ?_;rintro v U ⟨rfl,rfl⟩;(conv=>whnf);cases digN r
  ·refine zv ?_
   all_goals(refine⟨Ad Value.bool ?_,rfl⟩;rw[Bl];simp;try omega)
  ·refine zv ?_
   all_goals(refine⟨Ad Value.bool ?_,rfl⟩;rw[Bl];simp;try omega)
 ·refine zv ?_
  all_goals(refine⟨Ad Value.bool ?_,rfl⟩;rw[Bl];simp;try omega)
def okT:Bool->Dn->Bool
 | d,[] => !d
 | _,r::l=>(qi2 r||decide (r=46))&&okT (decide (r=46)) l
def labL:Dn->Bool
 | []=>false
 | r::l=>labB r&&okT false l
noncomputable def qho(s:Dd):Bool:=match scal s.data.toList with
 | some l=>labL l
 | none=>false
theorem qtq(h:(decN l).2=0):scal l=none\/l=[]:=by
 cases l with
 | nil=>exact .inr rfl
 | cons a t=>exact .inl (qoo Js h)
noncomputable def qj5(d:Bool)(l:LB):Bool:=match scal l with
 | some l=>okT d l
 | none=>false
theorem q0i{d:Bool}{s:Dd}(hi:i<=s.size)(h:(decN (s.data.toList.drop i)).2=0):qj5 d (s.data.toList.drop i)=decide (i=s.size/\d=false):=by
 rcases qtq h with U|U
 ·have Z:i≠s.size:=by
   intro e;rw[AZ Ys]at U;rw[scal]at U;cases U
  rw[qj5,U];simp[Z]
 ·have e:i=s.size:=by
   have:=Ad List.length U;rw[qic]at this;simp at this;omega
  rw[qj5,U,scal];cases d<;>simp[okT,e]
theorem qky{d:Bool}(h:(decN l).2≠0):qj5 d l=((qi2 (decN l).1||decide ((decN l).1=46))&&qj5 (decide ((decN l).1=46)) (l.drop (decN l).2)):=by
 have U:l≠[]:=by rintro rfl;exact h rfl
 rw[qj5,qjk U h,qj5];cases scal (l.drop (decN l).2)with
 | none=>simp
 | some t=>rfl
theorem qyr(s:Dd):qho s=if(decN s.data.toList).2=0 then false else labB (decN s.data.toList).1&&qj5 false (s.data.toList.drop (decN s.data.toList).2):=by
 split
 ·rename_i h
  rcases qtq h with U|U
  ·rw[qho,U]
  ·rw[qho,U,scal];rfl
 ·rename_i h
  have Z:s.data.toList≠[]:=by intro e;rw[e]at h;exact h rfl
  rw[qho,qjk Z h,qj5];cases scal (s.data.toList.drop (decN s.data.toList).2)with
  | none=>simp
  | some t=>rfl
theorem q9m(s:Dd)(hs:s.size<=140737488355328)(w:Dc)(hT:CellsAt w 4 0 qa3):
  Gv Do 214 [.string s,ii 0,.func (.func 215) #[] #[]] w λv w'=>(∃n:Nat,v=ii n/\qho s=decide (n≠0/\n=s.size))/\w'=w:=by
 refine ze Tryz.func214 Tryz.ntmps214 ?_;refine zcv (qn5 s 0 (An _) hs w) ?_;rw[B7];rintro v w1 ⟨rfl,rfl⟩;have aa:=qpp s.data.toList;have ab:s.data.toList.length=s.size:=by simp
 have Z:=qyr s;(conv=>whnf);refine zC (λ_=>zu ?_) (λ_=>zu ?_)
 ·refine⟨⟨0,rfl,?_⟩,rfl⟩;rw[Z,Af Oo];rfl
 ·rw[Ab Oo]at Z;refine zcv (quq _ w1 hT) ?_;rintro v w1 ⟨rfl,rfl⟩;cases hb:labB (decN s.data.toList).1
  ·rw[hb]at Z;refine zu ?_;refine⟨⟨0,rfl,?_⟩,rfl⟩;rw[Z];rfl
  ·rw[hb]at Z;refine zu ?_;refine qm (λx:Nat×Nat=>[(0,.string s),(1,ii 0),(9,ii x.2),(10,ii x.1)])
    (λx w2=>x.1<=s.size/\x.2<=x.1/\0<x.2/\qho s=qj5 (decide (x.2≠x.1)) (s.data.toList.drop x.1)/\w2=w1) (λx=>s.size-x.1) ((decN s.data.toList).2,(decN s.data.toList).2) ⟨rfl,rfl,by exact Ad (Value.int .i64) (Int.zero_add _),by exact Ad (Value.int .i64) (Int.zero_add _),trivial⟩ ⟨by simp only;omega,by simp,by simp only;omega,by simpa using Z,rfl⟩ ?_
   rintro⟨i,e⟩ w2 ac ⟨h1,h2,h3,U,rfl⟩;simp only at h1 h2 h3 U;(conv=>whnf);refine zcv (qn5 s i h1 hs w2) ?_;rintro v w2 ⟨rfl,rfl⟩;have aa:=qpp (s.data.toList.drop i);rw[qic]at aa;conv=>whnf
   (repeat'(first|refine zp ?_|refine zC (λ_=>zw ?_) (λ_=>zw ?_)))
   ·refine⟨⟨e,Ad (Value.int .i64) (Int.sub_zero _),?_⟩,rfl⟩;rw[U,q0i h1 Oo]
    by_cases he:e=i
    ·subst he;simp;omega
    ·simp[he];omega
   ·have h5:=qky (d:=decide (e≠i)) (l:=s.data.toList.drop i) Oo;rw[h5,Be (show ¬(decN (s.data.toList.drop i)).1=46 by omega),Bool.or_false,Ax]at U;refine zcv (qns _ w2 hT) ?_;rintro v w2 ⟨rfl,rfl⟩;cases hf:qi2 (decN (s.data.toList.drop i)).1
    ·rw[hf]at U;refine zu ?_;refine⟨⟨e,Ad (Value.int .i64) (Int.sub_zero _),?_⟩,rfl⟩;rw[U];simp;omega
    ·rw[hf]at U;refine zu ?_
     ·exact⟨(i+(decN (s.data.toList.drop i)).2,i+(decN (s.data.toList.drop i)).2),fq,⟨by simp only;omega,Ao _,by simp only;omega,by simpa using U,rfl⟩,by simp only;omega⟩
   ·have h5:=qky (d:=decide (e≠i)) (l:=s.data.toList.drop i) Oo;rw[h5,AF (show(decN (s.data.toList.drop i)).1=46 by omega),CZ,CT,Ax]at U;refine⟨(i+(decN (s.data.toList.drop i)).2,e),fq,⟨by simp only;omega,by simp only;omega,h3,?_,rfl⟩,by simp only;omega⟩;rw[U]
    congr 1
    exact(AF (by simp only;omega)).symm
theorem qp4(s:Dd)(U:s.size<=140737488355328)(w:Dc)(Z:CellsAt w 4 0 qa3):
  Gv Do 139 [.string s,ii 0] w λv w'=>(∃n:Nat,v=ii n/\qho s=decide (n≠0/\n=s.size))/\w'=w:=by
 refine ze Tryz.func139 Tryz.ntmps139 ?_;refine zcv (q9m s U w Z) ?_;rintro v w' ⟨⟨n,rfl,h⟩,rfl⟩;(conv=>whnf);exact⟨⟨n,rfl,h⟩,rfl⟩
noncomputable def labE(s:Dd):Nat:=if qho s=true then 0 else 60
theorem qys(s:Dd)(U:s.size<=140737488355328)(w:Dc)(Z:CellsAt w 4 0 qa3):
  Gv Do 69 [.string s] w λv w'=>v=ii (labE s)/\w'=w:=by
 refine ze Tryz.func69 Tryz.ntmps69 ?_;refine zcv (qp4 s U w Z) ?_;rintro v w' ⟨⟨n,rfl,h⟩,rfl⟩;(conv=>whnf);unfold labE;rw[h]
 (repeat'(first|refine zp ?_|refine zC (λ_=>zw ?_) (λ_=>zw ?_)))
 ·rw[Ab Ys];exact⟨rfl,rfl⟩
 ·rw[Ab Ys];exact⟨rfl,rfl⟩
 ·rw[Af Ys];exact⟨rfl,rfl⟩
namespace V
theorem Rw.setCell{v:Dh}{U n:Nat}(h:Rw w0 w v e U n xs L){t:Df}(hi:L[i]?=some (b,.cells cs t fr))(hw:w'=w.setCell ⟨b,off,none⟩ x):Rw w0 w' v e U n xs (L.set i (b,.cells (cs.setIfInBounds off x) t fr)):=by
 have hm:=h.mem.setCell hi hw;have hb:v.ownBlock≠some b:=h.apart _ (zmg hi);refine⟨hm,?_,λy Z=>?_⟩
 ·subst hw;refine h.own.kept (row:=some b) ⟨rfl,rfl,rfl,by simp[World.setCell],λk _ hk=>Below.heap_setCell _ _ _ _ (λe=>hk (by simp[e]))⟩ ?_;exact Or.inr hb
 ·rcases Ce Z with Z|rfl
  ·exact h.apart y Z
  ·exact hb
def qrn(e:Df)(L:Dl):Prop:=∀x∈L,∀c U,x.2≠.cells c e U
theorem AppV.rwS{v:Dh}{n:Nat}{t u:Df}{i:TypeInfo}{s:Dd}(ht:P.underlying t=some (.slice e))(hu:P.underlying u=some .string)(hi:P.info? e=some i)(hz:i.zero=some (.int .u8 0))(U:i.size=1)(aa:i.bytes=1)(h:Rw w0 w v e 1 n xs L)(hL:qrn e L)(hb:n+s.size<=140737488355328)(hk:∀v' w',Rw w0 w' v' e 1 (n+s.size) (xs++byteCells s.data.toList) L->K v' w'):AppV P #[t,u] ty v (.string s) w K:=by
 obtain⟨v',w',Z,h2,h3,_⟩:=Lib.run_append_own_string (P:=P) w w0.heap.size t u ty e i ht hu hi hz U aa v n xs h.own s (by simp only[maxLen];omega) hb h.mem.ext.size;have hm:=h.grown h3 (λk hk=>⟨(h.own.lt k hk).1,λx hx e=>h.apart x hx (by rw[hk,e])⟩);refine⟨v',w',Z,hk _ _ ⟨hm,h2,λx hx he=>?_⟩⟩;have ab:=hm.get hx
 rcases h2.2 with⟨rfl,_⟩|⟨g,ac,ad,rfl,_,hg,_⟩
 ·cases he
 ·cases he;rw[ab]at hg;exact hL x hx _ _ (Bh hg)
theorem Fall.conv{U Z:Df}{x:Operand}{u:Dh}(ho:o.op=.convert U Z x)(hr:(convert U Z (ev ρ x)).run P w=.ok u w)(hk:K u w):Fall P (execOp (ev ρ) o) w K:=by
 refine⟨.inl ⟨u,w,?_,hk⟩⟩;simp[execOp,ho,hr]
theorem RunV.neqSame{t Z:Df}{j:TypeInfo}(a:Addr)(hp:P.underlying t=some (.pointer Z))(U:P.info? Z=some j)(hk:K (.bool false) w):
  RunV P (do eqGuard .neq t xo yo (.pointer (some a)) (.pointer (some a));binOp .neq t (.pointer (some a)) (.pointer (some a))) w K:=by
 refine⟨.bool false,w,?_,hk⟩;simp[eqGuard,Lib.run_neq_ptr_same w a hp U]
def BldB(b:Nat)(p v:Dh):Nat×Obj:=(b,.cells #[p,v] 472)
structure Bld(w0 w:Dc)(b:Nat)(l:LB)(L:Dl):Prop where
 h:∃p v,(p=.pointer none\/p=pp b)/\Rw w0 w v 5 1 l.length (byteCells l) (BldB b p v::L)
end V
theorem qlk(b:Nat)(p v:Dh)(w0 w:Dc)(L:Dl)(hp:p=.pointer none\/p=pp b)(h:Mem w0 w (BldB b p v::L)):
  Gv Do 385 [pp b] w λr w'=>r=.tuple #[]/\((p=pp b/\w'=w)\/w'=w.setCell ⟨b,0,none⟩ (pp b)):=by
 have hc:w.cell? ⟨b,0,none⟩=some p:=by rw[qa (h.get mh)];rfl
 have Z:w.shape? b=some (472,2):=by simp[World.shape?,h.get mh]
 rcases hp with rfl|rfl
 ·refine ze Tryz.func385 Tryz.ntmps385 ?_;refine LoadV.of hc (zu ?_);refine Fall.conv rfl (Lib.run_to_unsafe (t:=472) (e:=472) (cells:=2) _ _ Tryz.underlying470 Tryz.underlying207 (j:=_) (B9 Jk).symm (by decide +kernel) Z (CK 1)) (zw ?_);refine⟨.inr ⟨pp b,w,by rw[run_callFunc_extern Tryz.func392 Jk Jk Jk (e:=Extern.AbiNoEscape.same) Jk];rfl,?_⟩⟩;(conv=>whnf);refine Fall.conv rfl (Lib.run_from_unsafe (u:=472) (e:=472) (cells:=2) _ _ Tryz.underlying207 Tryz.underlying470 (j:=_) (B9 Jk).symm Z Jk) ?_;refine StoreV.own (h.get mh) (CK 1) rfl λw' hw=>?_;(conv=>whnf);exact⟨rfl,.inr hw⟩
 ·refine ze Tryz.func385 Tryz.ntmps385 ?_;refine LoadV.of hc (zw ?_);refine zt ?_;refine LoadV.mem (i:=0) Oa rfl rfl (zw ?_);refine RunV.neqSame _ Tryz.underlying470 (j:=_) rfl (zu ?_);exact⟨rfl,.inl ⟨rfl,rfl⟩⟩
theorem qgn(a b:LB):byteCells (a++b)=byteCells a++byteCells b:=by simp[byteCells]
theorem qgo(a:LB):(byteCells a).length=a.length:=by simp[byteCells]
theorem qew(U:qcl P f=true)(h:Calls P f vs.toArray w λe w'=>∃v,e=.returned v/\R v w'):Gv P f vs w R:=⟨U,h⟩
theorem quy{p v:Dh}(Z:qrn 5 L):qrn 5 (BldB b p v::L):=by
 intro x U c fz
 rcases Aw.1 U with rfl|U
 ·intro e;cases e
 ·exact Z x U c fz
theorem qct(b:Nat)(l:LB)(s:Dd)(w0 w:Dc)(L:Dl)(h:Bld w0 w b l L)(hL:qrn 5 L)(hs:l.length+s.size<=140737488355328):
  Gv Do 367 [pp b,.string s] w λr w'=>r=.tuple #[ii s.size,.nilIface]/\Bld w0 w' b (l++s.data.toList) L:=by
 obtain⟨p,v,hp,hR⟩:=h;have ab:=qlk b p v w0 w L hp hR.mem;obtain⟨A,c,rfl⟩:=hR.slice;refine ze Tryz.func367 Tryz.ntmps367 ?_;refine zcv (ab) ?_;rintro r w1 ⟨rfl,Z⟩;have aa:Rw w0 w1 (.slice A l.length c) 5 1 l.length (byteCells l) (BldB b (pp b) (.slice A l.length c)::L):=by
  rcases Z with⟨rfl,rfl⟩|Z
  ·exact hR
  ·exact hR.setCell (i:=0) rfl Z
 refine LoadV.own (aa.mem.get mh) rfl (zw ?_);refine AppV.rwS (i:=_) Tryz.underlying32 Tryz.underlying9 (B9 Jk).symm Jk Jk Jk aa (quy hL) hs λv' w2 U=>?_;obtain⟨A',c',rfl⟩:=U.slice;refine StoreV.own (U.mem.get mh) (Ca 1) rfl λw3 Z=>?_;have ac:=U.setCell (i:=0) rfl Z;(conv=>whnf);refine⟨rfl,⟨⟨pp b,.slice A' (l.length+s.size) c',.inr rfl,?_⟩⟩⟩;have e:(l++s.data.toList).length=l.length+s.size:=by simp
 rw[e,qgn];exact ac
theorem qgm(b:Nat)(l:LB)(w0 w:Dc)(L:Dl)(h:Bld w0 w b l L):
  Gv Do 369 [pp b] w λr w'=>r=.string ⟨l.toArray⟩/\Ext w0 w':=by
 obtain⟨p,v,hp,U⟩:=h;have hb:=U.mem.own _ mh;have Z:Lib.BuilderAt 472 5 w0.heap.size b p (Lib.byteCells l) w:=by
  refine⟨hb.1,v,hb.2,?_,U.apart _ mh⟩;have:=U.own;rw[<-qgo l]at this;exact this
 refine qew Jk ((Tryz.Builder_String_any w0.heap.size b l w ?_ U.mem.ext.size).mono ?_)
 ·rcases hp with rfl|rfl
  ·exact .inl Z
  ·exact .inr Z
 ·rintro e w' ⟨rfl,hB⟩;exact⟨_,rfl,rfl,Below.trans U.mem.ext hB⟩
namespace V
theorem NewV.rw{v:Dh}{U n:Nat}{o:Obj}{K:Nat->Dk}(h:Rw w0 w v e U n xs L)(Z:∀b w',Rw w0 w' v e U n xs ((b,o)::L)->K b w'):NewV w o K:=
 ⟨λb w' hb hw=>Z b w' (h.newBlk hb hw)⟩
theorem Bld.ext(h:Bld w0 w b l L):Ext w0 w:=by
 obtain⟨⟨p,v,Z,U⟩⟩:=h;exact U.mem.ext
end V
def alnB(pure:Bool)(c:Dg):Bool:=letN c.toNat||(!pure&&digN c.toNat)
def qan(s:Dd)(U Z:Nat)(pure:Bool):Bool:=s.data.toList.all (alnB pure)&&decide (U<=s.size/\s.size<=Z)
theorem qc0(s:Dd)(lo hi:Nat)(pure:Bool)(_:s.size<=140737488355328)(w:Dc):
  Gv Do 291 [.string s,ii lo,ii hi,.bool pure] w λv w'=>v=.bool (qan s lo hi pure)/\Ext w w':=by
 refine ze Tryz.func291 Tryz.ntmps291 ?_;refine znm (Mem.nil w) λb w1 hm=>zw ?_;refine qm (λpos:Nat=>[(0,.string s),(1,ii lo),(2,ii hi),(3,.bool pure),(12,pp b)])
  (λpos w2=>pos<=s.size/\Mem w w2 [(b,.stringIter s pos)]/\s.data.toList.all (alnB pure)=(s.data.toList.drop pos).all (alnB pure)) (λpos=>s.size-pos) 0 fq (by grind) ?_
 rintro pos w2 ac ⟨hp,hm,ha⟩;(conv=>whnf);refine NextS.mem hm (i:=0) rfl ?_ ?_
 ·intro aa w3 U;have Z:alnB pure (gb s pos)=false->qan s lo hi pure=false:=(by grind [qan,qcx])
  have ab:alnB pure (gb s pos)=true->s.data.toList.all (alnB pure)=(s.data.toList.drop (pos+1)).all (alnB pure):=(by grind [qcx])
  by_cases hb:(gb s pos).toNat<128
  ·have hd:=qgs s pos hb;rw[hd]at U|-;simp only at U|-;refine zu ?_;refine zcv (qg0 _ w3) ?_;rintro v w4 ⟨rfl,rfl⟩;cases hl:letN (gb s pos).toNat
   ·cases pure
    ·refine zu ?_;refine zcv (qcc _ w4) ?_;rintro v w5 ⟨rfl,rfl⟩;cases hg:digN (gb s pos).toNat
     ·have hx:alnB false (gb s pos)=false:=by grind [alnB]
      refine zu ?_;exact⟨by rw[Z hx],U.ext⟩
     ·have hx:alnB false (gb s pos)=true:=by grind [alnB]
      refine zu ?_;exact⟨pos+1,fq,(by grind),by omega⟩
    ·have hx:alnB true (gb s pos)=false:=by rw[alnB,hl];rfl
     refine zu ?_;exact⟨by rw[Z hx],U.ext⟩
   ·have hx:alnB pure (gb s pos)=true:=by rw[alnB,hl];rfl
    refine zu ?_;exact⟨pos+1,fq,(by grind),by omega⟩
  ·have hd:=qiy s pos aa Oo;obtain⟨d1,d2,d3,d4,d5⟩:=hd;have hl:letN (Utf8.decode s pos).1=false:=by simp[letN];omega
   have hg:digN (Utf8.decode s pos).1=false:=by simp[digN];omega
   have hx:alnB pure (gb s pos)=false:=by
    simp[alnB,letN,digN];omega
   refine zu ?_;refine zcv (qg0 _ w3) ?_;rintro v w4 ⟨rfl,rfl⟩;rw[hl];cases pure
   ·refine zu ?_;refine zcv (qcc _ w4) ?_;rintro v w5 ⟨rfl,rfl⟩;rw[hg];refine zu ?_;exact⟨by rw[Z hx],U.ext⟩
   ·refine zu ?_;exact⟨by rw[Z hx],U.ext⟩
 ·intro ad;rw[AZ Ys]at ha;have hM:qan s lo hi pure=decide (lo<=s.size/\s.size<=hi):=by rw[qan,ha];rfl
  (conv=>whnf);refine zt ?_;refine zC (λ_=>zu ?_) (λ_=>zu ?_)
  ·exact⟨(by grind),hm.ext⟩
  ·exact⟨(by grind),hm.ext⟩
def qmh(s:Dd):Bool:=decide (s=⟨#[120]⟩\/s=⟨#[88]⟩)
theorem qacg{a b:Dd}(h:a≠b):seq a b=false:=(by grind [qa1])
theorem qe9(s:Dd)(w:Dc):Gv Do 219 [.string s] w λv w'=>v=.bool (qmh s)/\w'=w:=by
 refine ze Tryz.func219 Tryz.ntmps219 ?_
 by_cases h:s=⟨#[120]⟩
 ·refine Tst.yes (qa1.2 h) (zu ?_);exact⟨Ad Value.bool (AF (.inl h)).symm,rfl⟩
 ·refine Tst.no (qacg h) (zu ?_)
  grind [qa1,qmh]
theorem qt7(c:Dg):IntKind.i32.wrap (c.toNat:Int)=(c.toNat:Int):=by
 have:=c.toNat_lt
 grind [IntKind.wrap,IntKind.bits]
def varB(s:Dd):Bool:=qan s 5 8 false||(qan s 4 4 false&&digN (gb s 0).toNat)
def regB(s:Dd):Bool:=qan s 2 2 true||(decide (s.size=3)&&digN (gb s 0).toNat&&digN (gb s 1).toNat&&digN (gb s 2).toNat)
theorem qrg(s:Dd)(hs:s.size<=140737488355328)(w:Dc):Gv Do 295 [.string s] w λv w'=>v=.bool (varB s)/\Ext w w':=by
 have h1:=λw=>qc0 s 5 8 false hs w
 have h2:=λw=>qc0 s 4 4 false hs w
 refine ze Tryz.func295 Tryz.ntmps295 ?_;refine zcv (h1 w) ?_;rintro v w1 ⟨rfl,U⟩;cases m1:qan s 5 8 false
 ·refine zu ?_;refine zcv (h2 w1) ?_;rintro v w2 ⟨rfl,Z⟩;cases m2:qan s 4 4 false
  ·refine zu ?_;exact⟨by grind [varB],U.trans Z⟩
  ·have aa:s.size=4:=by
    grind [qan]
   refine zu ?_;refine⟨0,rfl,by omega,?_⟩;refine zu ?_;refine⟨((gb s 0).toNat:Int),qt7 _,?_⟩;refine zu ?_;refine zcv (qcc _ w2) ?_;rintro v w3 ⟨rfl,rfl⟩;refine zu ?_;exact⟨by grind [varB],U.trans Z⟩
 ·refine zu ?_
  grind [varB]
theorem qvj(s:Dd)(U:s.size<=140737488355328)(w:Dc):Gv Do 294 [.string s] w λv w'=>v=.bool (regB s)/\Ext w w':=by
 have Z:=λw=>qc0 s 2 2 true U w
 refine ze Tryz.func294 Tryz.ntmps294 ?_;refine zcv (Z w) ?_;rintro v w1 ⟨rfl,aa⟩;cases m1:qan s 2 2 true
 ·(conv=>whnf);refine zt ?_;refine zC (λ_=>zu ?_) (λ_=>zu ?_)
  ·refine⟨0,rfl,by omega,?_⟩;refine zu ?_;refine⟨((gb s 0).toNat:Int),qt7 _,?_⟩;refine zu ?_;refine zcv (qcc _ w1) ?_;rintro v w2 ⟨rfl,rfl⟩;have h3:decide (s.size=3)=true:=(by grind)
   cases d0:digN (gb s 0).toNat
   ·refine zu ?_
    grind [regB]
   ·refine zu ?_;refine⟨1,rfl,by omega,?_⟩;refine zu ?_;refine⟨((gb s 1).toNat:Int),qt7 _,?_⟩;refine zu ?_;refine zcv (qcc _ w2) ?_;rintro v w3 ⟨rfl,rfl⟩;cases d1:digN (gb s 1).toNat
    ·refine zu ?_
     grind [regB]
    ·refine zu ?_;refine⟨2,rfl,by omega,?_⟩;refine zu ?_;refine⟨((gb s 2).toNat:Int),qt7 _,?_⟩;refine zu ?_;refine zcv (qcc _ w3) ?_;rintro v w4 ⟨rfl,rfl⟩;refine zu ?_
     grind [regB]
  grind [regB]
 ·refine zu ?_
  grind [regB]
def lowB(c:Dg):Dg:=if 65<=c.toNat/\c.toNat<=90 then c+32 else c
def lowS(s:Dd):Dd:=⟨(s.data.toList.map lowB).toArray⟩
def qdr(l:LB)(i:Nat)(z:Dm):Dp:=(byteCells ((l.take i).map lowB++l.drop i)++z).toArray
theorem qy7{z:Dm}(h:i<l.length):(qdr l i z)[i]?=some (.int .u8 l[i].toNat):=by
 unfold qdr byteCells;rw[Az,Ba Ys,Ar,Bf Ys];simp[Bd (Nat.le_of_lt h),h]
theorem quv(l:LB)(i:Nat)(z:Dm)(h:i<=l.length):(qdr l i z).size=l.length+z.length:=by
 simp[qdr,byteCells];omega
theorem qy8{z:Dm}(h:i<l.length):(qdr l i z).setIfInBounds i (.int .u8 (lowB l[i]).toNat)=qdr l (i+1) z:=by
 have e:byteCells ((l.take (i+1)).map lowB++l.drop (i+1))++z=byteCells ((l.take i).map lowB)++(.int .u8 (lowB l[i]).toNat::(byteCells (l.drop (i+1))++z)):=by
  rw[Bg h];simp only[byteCells,AY,AG,Co,Au,BF,Bs]
 have U:byteCells ((l.take i).map lowB++l.drop i)++z=byteCells ((l.take i).map lowB)++(.int .u8 l[i].toNat::(byteCells (l.drop (i+1))++z)):=by
  rw[Bo h];simp only[byteCells,AY,AG,Au,BF]
 unfold qdr;rw[e,U,List.setIfInBounds_toArray]
 congr 1
 have Z:(byteCells ((l.take i).map lowB)).length=i:=by simp[byteCells];omega
 rw[List.set_append_right _ _ Oo,Z,Cw];rfl
theorem quu{z:Dm}(h:i<l.length)(U:lowB l[i]=l[i]):qdr l i z=qdr l (i+1) z:=by
 unfold qdr;rw[Bg h,Bo h];simp only[byteCells,AY,AG,Co,Au,BF,Bs,U]
theorem q3n(c:Dg)(h:65<=c.toNat/\c.toNat<=90):((lowB c).toNat:Int)=(c.toNat:Int)+32:=by
 rw[lowB,Af h,UInt8.toNat_add];have:(32:Dg).toNat=32:=rfl;omega
theorem q79(c:Dg)(h:¬(65<=c.toNat/\c.toNat<=90)):lowB c=c:=by rw[lowB,Ab h]
theorem V.StoreV.memF{t:Df}{v:Dh}{K:Dk}(h:Mem w0 w L)(U:L[i]?=some (b,.cells cs t (m,m+1)))(ho:off<cs.size)(aa:off<m)(h1:qb5 v=true)(hk:∀w',Mem w0 w' (L.set i (b,.cells (cs.setIfInBounds off v) t (m,m+1)))->K w'):StoreV w b off v K:=by
 have Z:=h.get (zmg U);refine⟨⟨cs[off],?_⟩,?_,h1,hk _ (h.setCell U rfl)⟩
 ·rw[qa Z];exact BT ho
 ·simp[World.frozen?,Z];omega
theorem qy6(w:Dc){s:Dd}{z:Dm}{t:Df}{K:Dh->Prop}(Z:Mem w0 w ((b,.cells (qdr s.data.toList s.size z) t (m,m+1))::L))(hk:K (.string (lowS s))):BytesS w (some ⟨b,0,none⟩) s.size K:=by
 refine⟨s.data.toList.map lowB,by simp,λ_=>⟨b,0,rfl,λk v U=>?_⟩,hk⟩;rw[qa (Z.get mh),Aq];have e:(qdr s.data.toList s.size z)=(byteCells (s.data.toList.map lowB)++z).toArray:=by
  unfold qdr;rw[Ay Js,AZ Js,By]
 rw[e,Az,Ba (Ae.1 U).1];exact U
theorem qd0(s:Dd)(hs:s.size<=140737488355328)(w:Dc):Gv Do 142 [.string s] w λv w'=>v=.string (lowS s)/\Ext w w':=by
 have af:s.data.toList.length=s.size:=by simp
 refine ze Tryz.func142 Tryz.ntmps142 ?_;refine⟨λaa cs b w1 ae ab hb ad=>?_⟩;obtain⟨z,hz⟩:∃z,z=List.replicate (aa-s.size) (Value.int .u8 0):=⟨_,rfl⟩
 obtain⟨m,ac⟩:∃m,m=cs.size:=⟨_,rfl⟩
 have ag:s.size<=m:=by rw[ac,ab];simp[byteCells]
 have U:Mem w w1 [(b,.cells (qdr s.data.toList 0 z) 5 (m,m+1))]:=by
  rw[ac];have e:qdr s.data.toList 0 z=cs:=by rw[ab,hz];simp[qdr]
  rw[e];exact(Mem.nil w).drew.new hb ad
 clear ab hb ad ac hz;(conv=>whnf);refine qm (λi:Nat=>[(3,.slice (some ⟨b,0,none⟩) s.size aa),(8,.slice (some ⟨b,0,none⟩) s.size aa),(9,ii s.size),(10,ii i)]) (λi w2=>i<=s.size/\Mem w w2 [(b,.cells (qdr s.data.toList i z) 5 (m,m+1))]) (λi=>s.size-i) 0 fq ⟨by omega,U⟩ ?_;rintro i w2 ah ⟨h1,U⟩;(conv=>whnf);refine zC (λ_=>zw ?_) (λ_=>zw ?_)
 ·have hi:i<s.data.toList.length:=by omega
  refine ElemV.own1 i rfl Oo (zw ?_);refine LoadV.mem U (i:=0) rfl (qy7 hi) (zw ?_)
  (repeat'(first|refine zp ?_|refine zC (λ_=>zw ?_) (λ_=>zw ?_)))
  ·refine ElemV.own1 i rfl Oo (zw ?_);refine StoreV.memF (v:=.int .u8 ((s.data.toList[i].toNat:Int)+32)) U (i:=0) rfl (by rw[quv _ _ _ Oo];omega) Oo rfl ?_;intro w3 Z;replace Z:Mem w w3 [(b,.cells ((qdr s.data.toList i z).setIfInBounds i (.int .u8 ((s.data.toList[i].toNat:Int)+32))) 5 (m,m+1))]:=Z;rw[<-q3n _ ⟨by omega,by omega⟩,qy8 hi]at Z;refine zu ?_;exact⟨i+1,fq,⟨by omega,Z⟩,by omega⟩
  all_goals
   rw[quu hi (q79 _ Oo)]at U;exact⟨i+1,fq,⟨by omega,U⟩,by omega⟩
 ·refine qy6 w2 (by rw[show i=s.size by omega]at U;exact U) (zw ?_);exact⟨rfl,U.ext⟩
def bs(l:LB):Dd:=⟨l.toArray⟩
namespace V
theorem Rw.tail{v:Dh}{U n:Nat}{x:Nat×Obj}(h:Rw w0 w v e U n xs (x::L)):Rw w0 w v e U n xs L:=
 ⟨h.mem.sub (Bm ..),h.own,λy Z=>h.apart y (zmc Z)⟩
end V
theorem V.Rw.cells{n:Nat}(h:Rw w0 w (.slice A n c) e 1 n xs L)(hn:0<n):
  ∃g,A=some ⟨g,0,none⟩/\w0.heap.size<=g/\g<w.heap.size/\n<=c/\CellsAt w g 0 xs:=by
 rcases h.own.2 with⟨e1,e2⟩|⟨g,ac,ad,e1,Z,hg,aa,_,ae,ab⟩
 ·omega
 ·cases e1;refine⟨g,rfl,Z,?_,aa,λk v U=>?_⟩
  ·rcases AH g w.heap.size with h' | h'
   ·exact h'
   ·rw[Cp h']at hg;cases hg
  ·rw[qa hg,Aq];rw[<-ab,Bn]at U
   split at U
   ·simpa using U
   ·cases U
theorem bsz(a b:Dd):(a++b).size=a.size+b.size:=ByteArray.size_append
namespace V
theorem qb1{o:Obj}(h:w.heap[g]?=some o):g<w.heap.size:=by
 grind
theorem PostO.still{B:List (Option Nat)}{v c:Dh}(U:Ext w w')(h:v=c):PostO w B true (λu _=>u=c) v w':=⟨Chg.ext U,h,λh=>by cases h⟩
theorem AppV.own{e U:Nat}{v:Dh}{n:Nat}{t:Df}{i:TypeInfo}(ht:P.underlying t=some (.slice e))(hi:P.info? e=some i)(hz:i.zero=some z)(aa:i.size=U)(ac:z.cells.size=U)(ad:0<U)(h:w.ownsRow base e U v n xs)(ae:base<=w.heap.size)(hl:news.length=m*U)(hA:news≠[]->∃b off,A=some ⟨b,off,none⟩/\CellsAt w b off news)(h1:∀u∈news,u.oneCell'=true)(hb:(n+m)*i.bytes<=140737488355328)(ag:n+m<=140737488355328)(hk:∀v' w',w'.ownsRow base e U v' (n+m) (xs++news)->w.grownBy w' v.ownBlock->(v'.ownBlock=v.ownBlock\/v'.ownBlock=some w.heap.size)->K v' w'):AppV P #[t,t] ty v (.slice A m c) w K:=by
 cases A with
 | none=>
  have hn:news=[]:=by
   simp_all
  subst hn;have hm:m=0:=by
   grind [Nat.mul_eq_zero]
  subst hm;refine⟨v,w,?_,hk v w (by simpa using h) ⟨rfl,rfl,rfl,Ao _,λ_ _ _=>rfl⟩ (.inl rfl)⟩
  rcases h.2 with⟨e1,e2⟩|⟨g,ah,ai,e1,_,_,af,_⟩
  ·subst e1;simp[Builtin.append_,run_underlying ht,sizeOf,typeInfo,hi,Builtin.lenOf,Builtin.firstCells]
  ·subst e1;simp[Builtin.append_,run_underlying ht,sizeOf,typeInfo,hi,Builtin.lenOf,Builtin.firstCells,af,storeCells]
 | some a=>
  have Z:∀j u,news[j]?=some u->w.cell? (a.add j)=some u:=by
   intro j u hu;obtain⟨b,off,h0,h1⟩:=hA (by grind);cases h0;rw[q7];exact h1 j u hu
  obtain⟨v',w',ab,h2,h3,_,h5⟩:=run_append_own_at (P:=P) w base t ty e i z U i.bytes ht hi hz aa rfl ac ad v n xs h a m c news hl Z h1 (by grind [maxLen]) hb ae;exact⟨v',w',ab,(by grind)⟩
end V
def rdC(A:oA)(n c:Nat)(t:Dm):Obj:=.cells (Value.slice A n c::t).toArray 358
def seeB(p:Dd->Bool):List Dd->Bool
 | []=>false
 | x::_=>p x
theorem qim(rb g:Nat)(Z:Dm)(p:Dd->Bool)(U:List Dd)(A:oA)(c:Nat)(t:Dm)(w:Dc)(hb:w.heap[rb]?=some (rdC A U.length c t))(hS:SlAt zeS 1 w A U)(hp:∀x xs w1,U=x::xs->Ext w w1->Gv Do g (.string x::Z) w1 λv w2=>v=.bool (p x)/\Ext w1 w2):
  Gv Do 218 [pp rb,.func (.func g) #[] Z.toArray] w λv w'=>v=.bool (seeB p U)/\Ext w w':=by
 have h0:∀w',Ext w w'->w'.cell? ⟨rb,0,none⟩=some (.slice A U.length c):=λw' he=>he.cell (by rw[qa hb];rfl)
 refine ze Tryz.func218 Tryz.ntmps218 ?_;refine LoadV.of (h0 w (Ext.refl w)) ?_;cases U with
 | nil=>
  simp only[C4];refine zu ?_;exact⟨rfl,Ext.refl w⟩
 | cons x xs=>
  simp only[AM]at h0|-;refine zu ?_;refine LoadV.of (h0 w (Ext.refl w)) (zu ?_);refine ElemV.sl hS rfl 0 rfl Js ?_;intro b off hc;refine zu ?_;refine LoadV.cell0 hc (zu ?_);have aa:=hp x xs w rfl (Ext.refl w);cases Z with
  | nil=>
   (conv=>whnf);refine zcv (aa) ?_;rintro v w2 ⟨rfl,he⟩;refine zu ?_;exact⟨rfl,he⟩
  | cons y ys=>
   (conv=>whnf);refine zcv (aa) ?_;rintro v w2 ⟨rfl,he⟩;refine zu ?_;exact⟨rfl,he⟩
theorem V.SliceV.tail{x:Dd}{xs:List Dd}{n:Nat}{k:IntKind}{K:Dh->Prop}(hS:SlAt zeS 1 w A (x::xs))(hn:n=xs.length+1)(hc:n<=c)(hk:∀Z c',SlAt zeS 1 w Z xs->xs.length<=c'->K (.slice Z xs.length c')):SliceV 1 A n c (some (.int k 1)) none none K:=by
 subst hn;refine⟨1,xs.length+1,c,rfl,rfl,rfl,by omega,by omega,by omega,λh=>by simp at h,λZ U=>?_⟩;obtain⟨b,off,rfl,h2⟩:=hS.at_ Js;have hk:=hk Z (c-1) ⟨λaa=>?_⟩ Oo
 ·simpa using hk
 ·have ab:0<xs.length:=List.length_pos_iff.2 aa;rw[Ab Oo]at U;refine⟨b,off+1,?_,λj y hy=>?_⟩
  ·rw[U];show some ((⟨b,off,none⟩:Addr).add (1*1))=_;rw[q7]
  ·have:=h2 (j+1) y (by simpa using hy);rw[show off+1+j*1=off+(j+1)*1 by omega];exact this
theorem qd3(rb i:Nat)(x:Dd)(xs:List Dd)(A:oA)(c:Nat)(t:Dm)(w0 w:Dc)(L:Dl)(hm:Mem w0 w L)(hi:L[i]?=some (rb,rdC A (xs.length+1) c t))(hS:SlAt zeS 1 w0 A (x::xs))(hc:xs.length+1<=c):
  Gv Do 222 [pp rb] w λv w'=>v=.string x/\∃U Z,SlAt zeS 1 w0 U xs/\xs.length<=Z/\Mem w0 w' (L.set i (rb,rdC U xs.length Z t)):=by
 have hb:=hm.get (zmg hi);refine ze Tryz.func222 Tryz.ntmps222 ?_;refine LoadV.of (v:=.slice A (xs.length+1) c) (by rw[rdC]at hb;rw[qa hb];rfl) ?_;refine ElemV.sl (hS.ext hm.ext) rfl 0 rfl Js ?_;intro b off aa;refine LoadV.cell0 aa ?_;refine LoadV.of (v:=.slice A (xs.length+1) c) (by rw[rdC]at hb;rw[qa hb];rfl) ?_;refine V.SliceV.tail hS rfl hc ?_;intro U Z ab ac;refine StoreV.mem hm hi (show 0<t.length+1 by omega) rfl λw2 ad=>zw ?_;exact⟨rfl,U,Z,ab,ac,ad⟩
theorem q05(x:Dd)(Z U:Nat)(hs:x.size<=140737488355328)(w:Dc)(hl:w.cell? ⟨Z,0,none⟩=some (ii U)):
  Gv Do 298 [.string x,pp Z] w λv w'=>v=.bool (qan x U 8 false)/\Ext w w':=by
 have h1:=qc0 x U 8 false hs w;refine ze Tryz.func298 Tryz.ntmps298 ?_;refine LoadV.of hl (zw ?_);refine zcv (h1) ?_;rintro v w' ⟨rfl,he⟩;(conv=>whnf);exact⟨rfl,he⟩
theorem q9v{U:Type}{L:List U}{a:U}(h:L[i]?=some a):L.set i a=L:=by
 apply Bi;intro j;rw[BP]
 split
 ·rename_i e;subst e
  split
  ·exact h.symm
  ·rename_i Z;rw[AS Oo]at h;cases h
 ·rfl
theorem q0q(s:Dd):seq s ⟨#[]⟩=decide (s.size=0):=by
 rw[Bl,qa1,decide_eq_true_iff]
 constructor
 ·rintro rfl;rfl
 ·intro h;obtain⟨a⟩:=s;have:a=#[]:=Array.eq_empty_of_size_eq_zero h;rw[this]
structure TailP(q:Dd->Bool)(rest pre rest':List Dd)(s:Dd):Prop where
 eq:rest=pre++rest'
 all:pre.all q=true
 size:s.size<=9*pre.length
 none:s.size=0↔pre=[]
theorem TailP.step{q:Dd->Bool}{U pre xs:List Dd}{x s Z:Dd}(h:TailP q U pre (x::xs) s)(hq:q x=true)(hs:Z.size=s.size+1+x.size)(hx:x.size<=8):TailP q U (pre++[x]) xs Z:=by
 obtain⟨h1,h2,h3,h4⟩:=h;refine⟨by rw[h1];simp,by simp[h2,hq],by simp;omega,?_⟩
 constructor
 ·intro h;omega
 ·intro h;simp at h
theorem q4z(rb i U:Nat)(Z:List Dd)(A:oA)(c:Nat)(t:Dm)(w0 w:Dc)(L:Dl)(hm:Mem w0 w L)(hi:L[i]?=some (rb,rdC A Z.length c t))(hS:SlAt zeS 1 w0 A Z)(hc:Z.length<=c)(hx:∀x∈Z,x.size<=1000000)(hn:Z.length<=1000000):
  Gv Do 223 [pp rb,ii U] w λv w'=>∃pre aa s,TailP (λx=>qan x U 8 false) Z pre aa s/\seeB (λx=>qan x U 8 false) aa=false/\
   v=.tuple #[.string s,.bool (decide (pre≠[]))]/\∃A' c',SlAt zeS 1 w0 A' aa/\aa.length<=c'/\Mem w0 w' (L.set i (rb,rdC A' aa.length c' t)):=by
 refine ze Tryz.func223 Tryz.ntmps223 ?_;refine znm hm ?_;intro lb w1 ah;refine qm (λx:List Dd×oA×Nat×Dd=>[(0,pp rb),(3,pp lb),(6,.string x.2.2.2)])
  (λx w2=>∃pre,TailP (λx=>qan x U 8 false) Z pre x.1 x.2.2.2/\SlAt zeS 1 w0 x.2.1 x.1/\x.1.length<=x.2.2.1/\Mem w0 w2 ((lb,.cells #[ii U] 3)::L.set i (rb,rdC x.2.1 x.1.length x.2.2.1 t)))
  (λx=>x.1.length) (Z,A,c,⟨#[]⟩) fq ⟨[],⟨rfl,rfl,by simp;rfl,by simp;rfl⟩,hS,hc,by simp only;rw[q9v hi];exact ah⟩ ?_
 rintro⟨xs,B,d,s⟩ w2 ao ⟨pre,hP,ac,hd,ab⟩;simp only at hP ac hd ab;dsimp only;have ae:i<L.length:=(Ae.1 hi).1;have ai:=ab.get mh;have aj:∀x∈xs,x.size<=1000000:=λx ak=>hx x (by rw[hP.eq];exact Aa _ ak)
 have aq:pre.length<=1000000:=by have:=Ad List.length hP.eq;simp at this;omega
 have ar:=hP.size;refine zcv (qim rb 298 [pp lb] (λx=>qan x U 8 false) xs B d t w2 (ab.get (zmg (i:=i+1) (by simp[ae]))) (ac.ext ab.ext) (λx ys w3 e he=>q05 x lb U (by have:=aj x (by rw[e];exact AD ..);omega) w3 (he.cell (by rw[qa ai];rfl)))) ?_;rintro v w3 ⟨rfl,he⟩;have ad:=ab.call he;cases hq:seeB (λx=>qan x U 8 false) xs
 ·refine zu ?_;refine⟨pre,xs,s,hP,hq,?_,B,d,ac,hd,ad.sub (Bm ..)⟩;have e:seq s ⟨#[]⟩=decide (pre=[]):=by
   rw[q0q,Bl,decide_eq_true_iff,decide_eq_true_iff];exact hP.none
  rw[e]
  congr 3
  by_cases h:pre=[]<;>simp[h]
 ·obtain⟨x,ys,rfl⟩:∃x ys,xs=x::ys:=by
   cases xs with
   | nil=>cases hq
   | cons x ys=>exact⟨x,ys,rfl⟩
  have hq:qan x U 8 false=true:=hq;have al:x.size<=8:=by simp[qan]at hq;omega
  simp only[AM]at hd ad|-;refine zu ?_;refine zcv (qd3 rb (i+1) x ys B d t w0 w3 _ ad (by simp[ae]) ac hd) ?_;rintro v w4 ⟨rfl,A',c',am,an,af⟩;have ag:Mem w0 w4 ((lb,.cells #[ii U] 3)::L.set i (rb,rdC A' ys.length c' t)):=by
   rw[List.set_cons_succ,Cx]at af;exact af
  (conv=>whnf);refine⟨by show 1+x.size<=_;omega,?_⟩;(conv=>whnf);refine⟨by show s.size+(_:Dd).size<=_;rw[bsz];show s.size+(1+x.size)<=_;omega,?_⟩;(conv=>whnf);exact⟨(ys,A',c',s++((⟨#[45]⟩:Dd)++x)),fq,⟨pre++[x],hP.step hq (by rw[bsz,bsz];show s.size+(1+x.size)=_;omega) al,am,an,ag⟩,by simp⟩
def qiz:Nat->List Dd->List Dd
 | 0,l=>l
 | _,[]=>[]
 | k+1,x::xs=>if qan x 3 3 true=true then qiz k xs else x::xs
def qh3:List Dd->Option (List Dd)
 | []=>none
 | x::xs=>if qan x 2 8 true=true then some (if 3<x.size then xs else qiz 3 xs)else none
def tagC(U Z a2 a3:Dd)(V E:Dh)(a6:Dd):Dm:=[.string U,.string Z,.string a2,.string a3,V,E,.string a6]
section
variable {w0 w:Dc} {L:Dl} {i rb n c off:Nat} {A:oA} {t:Dm} {v:Dh}
theorem qf3{K:Dk}(U:Mem w0 w L)(Z:L[i]?=some (rb,rdC A n c t))(k:Nat)(ho:off=1+k)(hk:k<t.length)(h1:qb5 v=true)(hw:∀w',Mem w0 w' (L.set i (rb,rdC A n c (t.set k v)))->K w'):StoreV w rb off v K:=by
 subst ho;refine StoreV.mem U Z Ys h1 λw' h=>hw w' ?_;have e:(Value.slice A n c::t).toArray.setIfInBounds (1+k) v=(Value.slice A n c::t.set k v).toArray:=by
  grind
 rw[e]at h;exact h
theorem qfb{K:Dh->Prop}(U:Mem w0 w L)(Z:L[i]?=some (rb,rdC A n c t))(k:Nat)(ho:off=1+k)(hv:t[k]?=some v)(hk:K v):LoadV w rb off K:=by
 subst ho;exact LoadV.mem U Z (by grind) hk
end
theorem qyt(x:Dd)(U:x.size<=140737488355328)(w:Dc):Gv Do 290 [.string x] w λv w'=>v=.bool (qan x 2 8 true)/\Ext w w':=by
 have Z:=qc0 x 2 8 true U w;refine ze Tryz.func290 Tryz.ntmps290 ?_;refine zcv (Z) ?_;rintro v w' ⟨rfl,he⟩;conv=>whnf
 simp_all
theorem qyu(x:Dd)(U:x.size<=140737488355328)(w:Dc):Gv Do 292 [.string x] w λv w'=>v=.bool (qan x 3 3 true)/\Ext w w':=by
 have Z:=qc0 x 3 3 true U w;refine ze Tryz.func292 Tryz.ntmps292 ?_;refine zcv (Z) ?_;rintro v w' ⟨rfl,he⟩;conv=>whnf
 simp_all
theorem qn1(rb i:Nat)(ad:List Dd)(A:oA)(c:Nat)(a0 a2 a3 a6:Dd)(V E:Dh)(w0 w:Dc)(L:Dl)(hm:Mem w0 w L)(hi:L[i]?=some (rb,rdC A ad.length c (tagC a0 ⟨#[]⟩ a2 a3 V E a6)))(hS:SlAt zeS 1 w0 A ad)(hc:ad.length<=c)(hx:∀x∈ad,x.size<=1000000):
  Gv Do 220 [pp rb] w λv w'=>(qh3 ad=none/\v=.bool false/\Ext w0 w')\/
   (∃ag,qh3 ad=some ag/\v=.bool true/\∃Z c' b0 b1,SlAt zeS 1 w0 Z ag/\ag.length<=c'/\Mem w0 w' (L.set i (rb,rdC Z ag.length c' (tagC b0 b1 a2 a3 V E a6)))):=by
 have aa:i<L.length:=(by grind)
 refine ze Tryz.func220 Tryz.ntmps220 ?_;refine zcv (qim rb 290 [] (λx=>qan x 2 8 true) ad A c _ w (hm.get (zmg hi)) (hS.ext hm.ext) (λx ys w3 e he=>qyt x (by have:=hx x (by rw[e];exact AD ..);omega) w3)) ?_;rintro v w1 ⟨rfl,he⟩;have am:=hm.call he;cases ad with
 | nil=>
  refine zu ?_;exact .inl ⟨rfl,rfl,am.ext⟩
 | cons x xs=>
  show putV _ _ _ (Value.bool (qan x 2 8 true)) _;cases hq:qan x 2 8 true
  ·refine zu ?_;exact .inl ⟨by grind [qh3],rfl,am.ext⟩
  ·have hR:qh3 (x::xs)=some (if 3<x.size then xs else qiz 3 xs):=by grind [qh3]
   rw[hR];have aw:=hx x mh;simp only[AM]at hi am hc|-;refine zu ?_;refine zcv (qd3 rb i x xs A c _ w0 w1 L am hi hS hc) ?_;rintro v w2 ⟨rfl,A2,c2,ao,aq,ar⟩;(conv=>whnf);refine qf3 ar (AT aa) 0 rfl (show 0<7 by decide) rfl ?_;intro w3 aj;rw[Cx]at aj;replace aj:Mem w0 w3 (L.set i (rb,rdC A2 xs.length c2 (tagC x ⟨#[]⟩ a2 a3 V E a6))):=aj;(conv=>whnf);refine qfb aj (AT aa) 0 rfl rfl ?_;(conv=>whnf);refine zC (λ_=>zw ?_) (λ_=>zw ?_)
   ·grind
   ·rw[Ab Oo];refine qm (λx:Nat×List Dd×oA×Nat×Dd=>[(0,pp rb),(3,ii x.1)])
     (λy w2=>y.1<=3/\qiz 3 xs=qiz (3-y.1) y.2.1/\y.2.2.2.2.size<=y.1*1000001/\(∀x∈y.2.1,x.size<=1000000)/\SlAt zeS 1 w0 y.2.2.1 y.2.1/\y.2.1.length<=y.2.2.2.1/\Mem w0 w2 (L.set i (rb,rdC y.2.2.1 y.2.1.length y.2.2.2.1 (tagC x y.2.2.2.2 a2 a3 V E a6))))
     (λy=>3-y.1) (0,xs,A2,c2,⟨#[]⟩) fq ⟨by simp,rfl,by simp;rfl,(by grind),ao,aq,aj⟩ ?_
    rintro⟨k,ys,B,d,s⟩ w4 ax ⟨h1,h2,h3,h4,ah,ai,ak⟩;simp only at h1 h2 h3 h4 ah ai ak;dsimp only;(conv=>whnf);refine zC (λ_=>zu ?_) (λ_=>zu ?_)
    ·have hk:3-k=(2-k)+1:=by omega
     refine zcv (qim rb 292 [] (λx=>qan x 3 3 true) ys B d _ w4 (ak.get (zmg (AT aa))) (ah.ext ak.ext) (λx zs w3 e he=>qyu x (by have:=h4 x (by rw[e];exact AD ..);omega) w3)) ?_;rintro v w5 ⟨rfl,au⟩;have al:=ak.call au;cases ys with
     | nil=>
      refine zu ?_;refine .inr ⟨[],?_,rfl,B,d,x,s,ah,ai,al⟩;rw[h2,hk];rfl
     | cons y zs=>
      show putV _ _ _ (Value.bool (qan y 3 3 true)) _;have av:qiz (2-k+1) (y::zs)=if qan y 3 3 true=true then qiz (2-k) zs else y::zs:=rfl;rw[hk,av]at h2;cases hq:qan y 3 3 true
      ·rw[Ab (by rw[hq];simp)]at h2;refine zu ?_
       grind
      ·rw[Af hq]at h2;simp only[AM]at al ai|-;have hy:=h4 y mh;(conv=>whnf);refine zt ?_;refine zC (λ_=>zw ?_) (λ_=>zw ?_)
       ·
        refine qfb al (AT aa) 1 rfl rfl ?_;(conv=>whnf);refine⟨by show s.size+1<=_;omega,?_⟩;(conv=>whnf);refine qf3 al (AT aa) 1 rfl (show 1<7 by decide) rfl ?_;intro w7 an;rw[Cx]at an;replace an:Mem w0 w7 (L.set i (rb,rdC B (zs.length+1) d (tagC x (s++(⟨#[45]⟩:Dd)) a2 a3 V E a6))):=an;(conv=>whnf);refine DrawV.inv (λS w=>(S 11=false/\(bif S 6 then(∃Z c',SlAt zeS 1 w0 Z zs/\zs.length<=c'/\Mem w0 w (L.set i (rb,rdC Z zs.length c' (tagC x (s++(⟨#[45]⟩:Dd)) a2 a3 V E a6))))else Mem w0 w (L.set i (rb,rdC B (zs.length+1) d (tagC x (s++(⟨#[45]⟩:Dd)) a2 a3 V E a6)))))\/
          (S 11=true/\S 4=true/\S 6=true/\∃Z c',SlAt zeS 1 w0 Z zs/\zs.length<=c'/\Mem w0 w (L.set i (rb,rdC Z zs.length c' (tagC x ((s++(⟨#[45]⟩:Dd))++y) a2 a3 V E a6))))) rfl Jk (.inl ⟨rfl,an.drew⟩) ?_
        (conv=>whnf);(iterate 4 (refine zi ?_));refine StepI.of (.string (s++(⟨#[45]⟩:Dd))) (λS wd hk hp U=>?_) (zw ?_)
        ·obtain⟨ae,U⟩:=U.resolve_right (λh=>by have:=h.2.1;rw[hk]at this;cases this);(conv=>whnf);cases h6:S 6
         ·rw[h6]at U;refine qfb U (AT aa) 1 rfl rfl ?_;(conv=>whnf);exact⟨rfl,.inl ⟨ae,by show bif S 6 then _ else _;simp_all⟩⟩
         ·rw[h6]at U;obtain⟨Z,c',ab,ac,hM⟩:=U;refine qfb hM (AT aa) 1 rfl rfl ?_;(conv=>whnf);exact⟨rfl,.inl ⟨ae,by show bif S 6 then _ else _;simp_all⟩⟩
        refine zi ?_;refine StepI.of (.string y) (λS wd hk hp U=>?_) (zw ?_)
        ·obtain⟨ae,U⟩:=U.resolve_right (λh=>by have:=h.2.2.1;rw[hk]at this;cases this);have h6:S 6=false:=hk;rw[h6]at U;(conv=>whnf);refine zcv (qd3 rb i y zs B d _ w0 wd _ U (AT aa) ah ai) ?_;rintro v w6 ⟨rfl,Z,c',ab,ac,af⟩;rw[Cx]at af;(conv=>whnf);exact⟨rfl,.inl ⟨ae,Z,c',ab,ac,af⟩⟩
        refine StepI.of (.string ((s++(⟨#[45]⟩:Dd))++y)) (λS wd hk hp U=>zw ?_) (zw ?_)
        ·refine⟨by rw[bsz];show s.size+1+y.size<=_;omega,?_⟩;(conv=>whnf);exact⟨rfl,U⟩
        (iterate 3 (refine zi ?_));refine StepI.of undef (λS wd hk hp U=>?_) (zw ?_)
        ·obtain⟨ae,U⟩:=U.resolve_right (λh=>by have:=h.1;rw[hk]at this;cases this);have h4:=hp 4 Od;have h6:=hp 6 Od;rw[h6]at U;obtain⟨Z,c',ab,ac,hM⟩:=U;(conv=>whnf);refine qf3 hM (AT aa) 1 rfl (show 1<7 by decide) rfl ?_;intro w6 af;rw[Cx]at af;(conv=>whnf);exact⟨rfl,.inr ⟨rfl,h4,h6,Z,c',ab,ac,af⟩⟩
        intro w6 U;obtain⟨_,_,_,Z,c',ab,ac,hM⟩:=U.resolve_left (λh=>by have:=h.1;cases this);refine zu ?_;refine⟨(k+1,zs,Z,c',(s++(⟨#[45]⟩:Dd))++y),fq,⟨by omega,?_,?_,(by grind),ab,ac,hM⟩,by omega⟩
        ·simp_all
        ·simp only[bsz,show(⟨#[45]⟩:Dd).size=1 from rfl];omega
       ·skip
        refine DrawV.inv (λS w=>(S 11=false/\(bif S 6 then(∃Z c',SlAt zeS 1 w0 Z zs/\zs.length<=c'/\Mem w0 w (L.set i (rb,rdC Z zs.length c' (tagC x s a2 a3 V E a6))))else Mem w0 w (L.set i (rb,rdC B (zs.length+1) d (tagC x s a2 a3 V E a6)))))\/
          (S 11=true/\S 4=true/\S 6=true/\∃Z c',SlAt zeS 1 w0 Z zs/\zs.length<=c'/\Mem w0 w (L.set i (rb,rdC Z zs.length c' (tagC x (s++y) a2 a3 V E a6))))) rfl Jk (.inl ⟨rfl,al.drew⟩) ?_
        (conv=>whnf);(iterate 4 (refine zi ?_));refine StepI.of (.string s) (λS wd hk hp U=>?_) (zw ?_)
        ·obtain⟨ae,U⟩:=U.resolve_right (λh=>by have:=h.2.1;rw[hk]at this;cases this);(conv=>whnf);cases h6:S 6
         ·rw[h6]at U;refine qfb U (AT aa) 1 rfl rfl ?_;(conv=>whnf);exact⟨rfl,.inl ⟨ae,by show bif S 6 then _ else _;simp_all⟩⟩
         ·rw[h6]at U;obtain⟨Z,c',ab,ac,hM⟩:=U;refine qfb hM (AT aa) 1 rfl rfl ?_;(conv=>whnf);exact⟨rfl,.inl ⟨ae,by show bif S 6 then _ else _;simp_all⟩⟩
        refine zi ?_;refine StepI.of (.string y) (λS wd hk hp U=>?_) (zw ?_)
        ·obtain⟨ae,U⟩:=U.resolve_right (λh=>by have:=h.2.2.1;rw[hk]at this;cases this);have h6:S 6=false:=hk;rw[h6]at U;(conv=>whnf);refine zcv (qd3 rb i y zs B d _ w0 wd _ U (AT aa) ah ai) ?_;rintro v w6 ⟨rfl,Z,c',ab,ac,af⟩;rw[Cx]at af;(conv=>whnf);exact⟨rfl,.inl ⟨ae,Z,c',ab,ac,af⟩⟩
        refine StepI.of (.string (s++y)) (λS wd hk hp U=>zw ?_) (zw ?_)
        ·refine⟨by omega,?_⟩;(conv=>whnf);exact⟨rfl,U⟩
        (iterate 3 (refine zi ?_));refine StepI.of undef (λS wd hk hp U=>?_) (zw ?_)
        ·obtain⟨ae,U⟩:=U.resolve_right (λh=>by have:=h.1;rw[hk]at this;cases this);have h4:=hp 4 Od;have h6:=hp 6 Od;rw[h6]at U;obtain⟨Z,c',ab,ac,hM⟩:=U;(conv=>whnf);refine qf3 hM (AT aa) 1 rfl (show 1<7 by decide) rfl ?_;intro w6 af;rw[Cx]at af;(conv=>whnf);exact⟨rfl,.inr ⟨rfl,h4,h6,Z,c',ab,ac,af⟩⟩
        intro w6 U;obtain⟨_,_,_,Z,c',ab,ac,hM⟩:=U.resolve_left (λh=>by have:=h.1;cases this);refine zu ?_;refine⟨(k+1,zs,Z,c',s++y),fq,⟨by simp only;omega,?_,?_,λx hx=>h4 x (zmc hx),ab,ac,hM⟩,by omega⟩
        all_goals grind
    ·refine .inr ⟨ys,?_,rfl,B,d,x,s,ah,ai,ak⟩;rw[h2,show 3-k=0 by omega];rfl
open Go.RowKit
namespace V
structure RowB(e:Df)(xs:Dm)(L:Dl)(v:Dh):Prop where
 h:(v=.slice none 0 0/\xs=[])\/∃g cap cur,v=.slice (some ⟨g,0,none⟩) xs.length cap/\(g,Obj.cells cur e)∈L/\xs.length<=cap/\cap<=maxLen/\cur.size=cap/\cur.toList.take xs.length=xs
section
variable {w0 w:Dc} {L L':Dl} {e:Df} {xs:Dm} {v:Dh}
theorem RowB.nil(e:Df)(L:Dl):RowB e [] L (.slice none 0 0):=⟨Js⟩
theorem RowB.owns(h:RowB e xs L v)(hm:Mem w0 w L):w.ownsRow w0.heap.size e 1 v xs.length xs:=by
 refine⟨Oo,?_⟩
 rcases h.h with⟨rfl,rfl⟩|⟨g,U,Z,rfl,hg,h1,h2,h3,h4⟩
 ·simp
 ·exact .inr ⟨g,U,Z,rfl,(hm.own _ hg).1,hm.get hg,h1,h2,by omega,by simp_all⟩
theorem RowB.keep(h:RowB e xs L v)(hk:∀y∈L,v.ownBlock=some y.1->y∈L'):RowB e xs L' v:=by
 refine⟨?_⟩
 rcases h.h with h|⟨g,U,Z,rfl,hg,h1⟩
 ·exact .inl h
 ·exact .inr ⟨g,U,Z,rfl,hk _ hg rfl,h1⟩
theorem RowB.in_(h:RowB e xs L v)(U:v.ownBlock=some g):∃o,(g,o)∈L:=by
 rcases h.h with⟨rfl,_⟩|⟨g',Z,aa,rfl,h',_⟩
 ·cases U
 ·cases U;grind
theorem RowB.slice(h:RowB e xs L v):∃A c,v=.slice A xs.length c:=by
 rcases h.h with⟨rfl,rfl⟩|⟨g,U,Z,rfl,_⟩
 all_goals simp
theorem RowB.sl{l:List Dd}{n:Nat}(h:RowB e (l.map Value.string) L (.slice A n c))(hm:Mem w0 w L):SlAt zeS 1 w A l:=by
 refine⟨λaa=>?_⟩
 rcases h.h with⟨_,h0⟩|⟨g,ab,Z,hv,hg,h1,_,_,h4⟩
 ·simp_all
 ·cases hv;refine⟨g,0,rfl,λj x hx k u hu=>?_⟩;cases k with
  | succ k=>simp[zeS]at hu
  | zero=>
   simp only[zeS,Bb,AN]at hu;subst hu;have U:(Z.toList.take (l.map Value.string).length)[j]?=some (.string x):=by simp_all
   rw[Bn]at U
   split at U
   ·rw[qa (hm.get hg)]
    simpa using U
   ·cases U
end
theorem AppV.blk{t:Df}{i:TypeInfo}{n:Nat}(ht:P.underlying t=some (.slice e))(hi:P.info? e=some i)(hz:i.zero=some z)(aa:i.size=1)(ad:z.cells.size=1)(ae:i.bytes<=16)(U:Mem w0 w L)(hr:RowB e xs L (.slice A n c))(hn:n=xs.length)(hx:x.oneCell'=true)(hb:w.cell? ⟨nb,0,none⟩=some x)(ab:n+1<=8000000000000)(hk:∀A' c' w' L',Mem w0 w' L'->RowB e (xs++[x]) L' (.slice A' (n+1) c')->(∀y∈L,Value.ownBlock (.slice A n c)≠some y.1->y∈L')->
   (∀g,Value.ownBlock (.slice A' (n+1) c')=some g->Value.ownBlock (.slice A n c)=some g\/∀y∈L,y.1≠g)->K (.slice A' (n+1) c') w'):AppV P #[t,t] ty (.slice A n c) (.slice (some ⟨nb,0,none⟩) 1 1) w K:=by
 subst hn;refine AppV.own (news:=[x]) ht hi hz aa ad Od (hr.owns U) U.ext.size rfl (λ_=>⟨nb,0,rfl,λk u hu=>?_⟩) (by grind) ?_ Oo ?_
 ·grind
 ·exact A4 (Bz ab ae) Od
 ·intro v' w' ho hg ai
  rcases ho.2 with⟨_,h0⟩|⟨g,af,ag,rfl,aj,ak,h1,h2,h3,h4⟩
  ·omega
  ·have ac:∀y∈L,y.1<w.heap.size:=λy Z=>U.lt (b:=y.1) (o:=y.2) Z
   have al:∀y∈L,Value.ownBlock (.slice A xs.length c)≠some y.1->y.1≠g:=(by grind [Value.ownBlock])
   refine hk _ af w' ((g,.cells ag e)::L.filter λy=>decide (Value.ownBlock (.slice A xs.length c)≠some y.1)) ⟨?_,?_,?_⟩ ⟨(by grind)⟩ ?_ ?_
   ·exact Below.grown U.ext hg U.ext.size (λk hk=>((hr.owns U).lt k hk).1)
   ·intro y Z
    rcases Aw.1 Z with rfl|Z
    ·simp_all
    ·obtain⟨Z,hv⟩:=Bt.1 Z;have hv:=BB hv;refine⟨(U.own y Z).1,?_⟩;rw[hg.block y.1 (ac y Z) (by grind)];exact(U.own y Z).2
   ·simp only[AG,CO];refine⟨λah=>?_,(List.filter_sublist.map _).nodup U.nodup⟩
    grind
   all_goals grind
structure RowsP(e:Df)(O:Dn)(L:Dl)(R:List (Dm×Dh)):Prop where
 row:∀(k:Nat) p,R[k]?=some p->RowB e p.1 L p.2
 out:∀(k:Nat) p g,R[k]?=some p->p.2.ownBlock=some g->g∉O
 ap:∀(k k':Nat) p p' g,R[k]?=some p->R[k']?=some p'->k≠k'->p.2.ownBlock=some g->p'.2.ownBlock≠some g
theorem RowsP.keep{R:List (Dm×Dh)}(h:RowsP e O L R)(Z:∀y∈L,y.1∉O->y∈L'):RowsP e O L' R:=
 ⟨λk p U=>(h.row k p U).keep λy hy hv=>Z y hy (h.out k p y.1 U hv),h.out,h.ap⟩
theorem RowsP.app{R:List (Dm×Dh)}{t:Df}{i:TypeInfo}{n:Nat}(h:RowsP e O L R)(k:Nat)(hk:R[k]?=some (xs,.slice A n c))(ht:P.underlying t=some (.slice e))(hi:P.info? e=some i)(hz:i.zero=some z)(ac:i.size=1)(af:z.cells.size=1)(ag:i.bytes<=16)(hm:Mem w0 w L)(hO:∀g∈O,∃o,(g,o)∈L)(hn:n=xs.length)(hx:x.oneCell'=true)(hb:w.cell? ⟨nb,0,none⟩=some x)(ae:n+1<=8000000000000)(hK:∀A' c' w' L',Mem w0 w' L'->RowsP e O L' (R.set k (xs++[x],.slice A' (n+1) c'))->(∀y∈L,y.1∈O->y∈L')->K (.slice A' (n+1) c') w'):AppV P #[t,t] ty (.slice A n c) (.slice (some ⟨nb,0,none⟩) 1 1) w K:=by
 refine AppV.blk ht hi hz ac af ag hm (h.row k _ hk) hn hx hb ae λA' c' w' L' ah ai aa ab=>hK A' c' w' L' ah ?_ ?_
 ·have an:k<R.length:=(by grind)
  have U:∀(j:Nat) p,(R.set k (xs++[x],.slice A' (n+1) c'))[j]?=some p->(j=k/\p=(xs++[x],.slice A' (n+1) c'))\/(j≠k/\R[j]?=some p):=(by grind)
  have aj:∀(j:Nat) p g,j≠k->R[j]?=some p->p.2.ownBlock=some g->Value.ownBlock (.slice A' (n+1) c')≠some g:=λj p g hj Z hg ak=>by
   rcases ab g ak with ho|ho
   ·exact h.ap j k p _ g Z hk hj hg ho
   ·obtain⟨o,ao⟩:=(h.row j p Z).in_ hg
    grind
  refine⟨λj p Z=>?_,λj p g Z hg=>?_,λj j' p p' g Z ad al hg=>?_⟩
  ·rcases U j p Z with⟨_,rfl⟩|⟨hj,Z⟩
   ·exact ai
   ·exact(h.row j p Z).keep λy hy hv=>aa y hy (h.ap j k p _ y.1 Z hk hj hv)
  ·rcases U j p Z with⟨_,rfl⟩|⟨hj,Z⟩
   ·rcases ab g hg with ho|ho
    ·exact h.out k _ g hk ho
    grind
   ·exact h.out j p g Z hg
  ·rcases U j p Z with⟨ej,rfl⟩|⟨hj,Z⟩<;>rcases U j' p' ad with⟨aq,rfl⟩|⟨ar,ad⟩
   ·omega
   ·grind
   ·grind
   ·exact h.ap j j' p p' g Z ad al hg
 ·intro y hy am;exact aa y hy λhv=>h.out k _ y.1 hk hv am
end V
theorem qhg{o:Obj}(hi:L[i]?=some (rb,o)):(rb,o')∈L.set i (rb,o')/\∀y∈L,y.1≠rb->y∈L.set i (rb,o'):=by
 have U:i<L.length:=(Ae.1 hi).1;refine⟨zmg (AT U),λy hy Z=>?_⟩;obtain⟨j,hj⟩:=AW.1 hy;refine zmg (i:=j) ?_;rw[List.getElem?_set_ne (λe=>Z ?_),hj];subst e;rw[hi]at hj;cases hj;rfl
section
variable {w0 w:Dc} {L:Dl} {rb n c off:Nat} {A:oA} {t:Dm} {v:Dh}
structure RdM(w0 w':Dc)(L:Dl)(rb:Nat)(o':Obj)(L':Dl):Prop where
 mem:Mem w0 w' L'
 rd:(rb,o')∈L'
 keep:∀y∈L,y.1≠rb->y∈L'
theorem qd7{K:Dk}(Z:Mem w0 w L)(U:(rb,rdC A n c t)∈L)(k:Nat)(ho:off=1+k)(hk:k<t.length)(h1:qb5 v=true)(hw:∀w' L',RdM w0 w' L rb (rdC A n c (t.set k v)) L'->K w'):StoreV w rb off v K:=by
 obtain⟨i,U⟩:=AW.1 U;exact qf3 Z U k ho hk h1 λw' h=>hw w' _ ⟨h,(qhg U).1,(qhg U).2⟩
theorem qth{K:Dh->Prop}(Z:Mem w0 w L)(U:(rb,rdC A n c t)∈L)(k:Nat)(ho:off=1+k)(hv:t[k]?=some v)(hk:K v):LoadV w rb off K:=by
 obtain⟨i,U⟩:=AW.1 U;exact qfb Z U k ho hv hk
theorem q4f{x:Dd}{xs:List Dd}(hm:Mem w0 w L)(U:(rb,rdC A (xs.length+1) c t)∈L)(hS:SlAt zeS 1 w0 A (x::xs))(hc:xs.length+1<=c):
  Gv Do 222 [pp rb] w λv w'=>v=.string x/\∃Z c' L',SlAt zeS 1 w0 Z xs/\xs.length<=c'/\RdM w0 w' L rb (rdC Z xs.length c' t) L':=by
 obtain⟨i,U⟩:=AW.1 U;refine(qd3 rb i x xs A c t w0 w L hm U hS hc).mono ?_;rintro v w' ⟨rfl,Z,c',h1,h2,h3⟩;exact⟨rfl,Z,c',_,h1,h2,⟨h3,(qhg U).1,(qhg U).2⟩⟩
theorem qti{Z:List Dd}{least:Nat}(hm:Mem w0 w L)(hi:(rb,rdC A Z.length c t)∈L)(hS:SlAt zeS 1 w0 A Z)(hc:Z.length<=c)(hx:∀x∈Z,x.size<=1000000)(hn:Z.length<=1000000):
  Gv Do 223 [pp rb,ii least] w λv w'=>∃pre U s,TailP (λx=>qan x least 8 false) Z pre U s/\seeB (λx=>qan x least 8 false) U=false/\
   v=.tuple #[.string s,.bool (decide (pre≠[]))]/\∃A' c' L',SlAt zeS 1 w0 A' U/\U.length<=c'/\RdM w0 w' L rb (rdC A' U.length c' t) L':=by
 obtain⟨i,hi⟩:=AW.1 hi;refine(q4z rb i least Z A c t w0 w L hm hi hS hc hx hn).mono ?_;rintro v w' ⟨pre,U,s,h1,h2,rfl,A',c',h3,h4,h5⟩;exact⟨pre,U,s,h1,h2,rfl,A',c',_,h3,h4,⟨h5,(qhg hi).1,(qhg hi).2⟩⟩
end
def qhd:List Dd->List Dd
 | []=>[]
 | x::xs=>if qan x 4 4 true=true then xs else x::xs
def qhb:List Dd->List Dd
 | []=>[]
 | x::xs=>if regB x=true then xs else x::xs
open Classical in
noncomputable def qm2:List Dd->List Dd->Option (List Dd×List Dd)
 | seen,[]=>some (seen,[])
 | seen,x::xs=>if varB x=true then(if lowS x∈seen then none else qm2 (seen++[lowS x]) xs)else some (seen,x::xs)
def extQ(x:Dd):Bool:=qan x 2 8 false
def extS(x:Dd):Bool:=qan x 1 1 false && !qmh x
open Classical in
noncomputable def extN:Nat->List Dd->List Dd->Option (List Dd)
 | _,_,[]=>some []
 | 0,_,U=>some U
 | k+1,seen,x::xs=>if extS x=true then(if xs.takeWhile extQ=[]\/lowS x∈seen then none else extN k (seen++[lowS x]) (xs.dropWhile extQ))else some (x::xs)
noncomputable def qvk(U:List Dd):Option (List Dd):=(qm2 [] (qhb (qhd U))).bind λr=>extN r.2.length r.1 r.2
theorem TailP.take{q:Dd->Bool}{Z pre U:List Dd}{s:Dd}(h:TailP q Z pre U s)(h2:seeB q U=false):Z.takeWhile q=pre/\Z.dropWhile q=U:=by
 have ha:=BU.1 h.all;rw[h.eq,List.takeWhile_append_of_pos ha,List.dropWhile_append_of_pos ha];cases U with
 | nil=>simp
 | cons y ys=>
  have:q y=false:=h2;simp[this]
theorem q0g(x:Dd)(U:x.size<=140737488355328)(w:Dc):Gv Do 293 [.string x] w λv w'=>v=.bool (qan x 4 4 true)/\Ext w w':=by
 have Z:=qc0 x 4 4 true U w;refine ze Tryz.func293 Tryz.ntmps293 ?_;refine zcv (Z) ?_;rintro v w' ⟨rfl,he⟩;(conv=>whnf);exact⟨rfl,he⟩
theorem q0h(x:Dd)(hs:x.size<=140737488355328)(w:Dc):Gv Do 297 [.string x] w λv w'=>v=.bool (extS x)/\Ext w w':=by
 have h1:=qc0 x 1 1 false hs w;refine ze Tryz.func297 Tryz.ntmps297 ?_;refine zcv (h1) ?_;rintro v w1 ⟨rfl,U⟩;cases Z:qan x 1 1 false
 ·refine zu ?_;exact⟨by rw[extS,Z];rfl,U⟩
 ·refine zu ?_;refine zcv (qe9 x w1) ?_;rintro v w2 ⟨rfl,rfl⟩;refine zu ?_;exact⟨by rw[extS,Z];rfl,U⟩
theorem qfn(l:List Dd)(A:oA)(c:Nat)(x:Dd)(w:Dc)(hS:SlAt zeS 1 w A l)(hl:l.length<=9223372036854775807):
  Gv Do 296 [.slice A l.length c,.string x] w λv w'=>(∃b,v=.bool b/\(b=true↔x∈l))/\w'=w:=by
 cases l with
 | nil=>
  refine(qun Jk (Tryz.slices_Contains_string_empty A c x w)).mono ?_;rintro v w' ⟨rfl,rfl⟩;exact⟨⟨false,rfl,by simp⟩,rfl⟩
 | cons y U=>
  obtain⟨b,off,rfl,h⟩:=hS.at_ Js;refine(qun Jk (Tryz.slices_Contains_string b off (y::U).length c (y::U) x w znr hl (λj Z=>?_))).mono ?_
  ·have:=h j _ (zge Z) 0 (.string (y::U)[j]) rfl;rw[Am,zge Z,Cl]
   simpa using this
  ·rintro v w' ⟨rfl,rfl⟩;exact⟨⟨_,rfl,by rw[Go.Lib.containsS_iff,BK]⟩,rfl⟩
end Go.Proofs.YtccmcfpmknpccaaGreatDoor
