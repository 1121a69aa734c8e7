/- Lemmas and contracts of functions on the way to the law's card (part 3 of 20). -/
import Derived.Test.YtccmcfpmknpccaaGreatDoorSA2
import Derived.WideKeyArgs
import Derived.ChangeSame
import Derived.ChangeVars
import Derived.RowKit
import Derived.OpenShut
import Derived.Deep.Strs
import Derived.Lib.Builder
import Derived.Lib.Join
namespace Go.Proofs.YtccmcfpmknpccaaGreatDoor
open Go.RowKit V
set_option maxRecDepth 100000
variable {P:DW} {f:FuncId} {news vs xs:Ee} {W W' w w' w0:DU} {args cs:Eh} {b base c g i k m off:Nat} {l:LB} {e ty:DX} {L:Ed} {u x z:DZ} {fr:Nat×Nat} {K R:Ea} {ρ:Eb} {o:Oper} {xo yo:Operand} {A:oA}
theorem qz8{v:DZ}(U:qdp P f=true)(h:Calls P f vs.toArray w λe w'=>e=.returned v/\w'=w):
  Gv P f vs w λu w'=>u=v/\w'=w:=⟨U,h.mono λ_ _ ⟨V,Z⟩=>⟨v,V,rfl,Z⟩⟩
def signs:DV:=⟨#[60,62,34,123,125,124,94,96,92]⟩
theorem qp5(s:DV)(c:Int)(w:DU):
  Gv Eg 372 [.string s,.int .u8 c] w λv w'=>v=ii (Lib.indexByte s.data.toList c.toNat.toUInt8)/\w'=w:=
 qz8 Jk (Tryz.strings_IndexByte s c w)
theorem qrn(r:Int)(w:DU):
  Gv Eg 373 [.int .i32 r] w λv w'=>v=.bool (Lib.validRune r)/\w'=w:=
 qz8 Jk (Tryz.utf8_ValidRune r w)
theorem qup(r:Nat)(h:128<=r):2<=(Utf8.encode r).size/\(Utf8.encode r).size<=4/\128<=(gb (Utf8.encode r) ((Utf8.encode r).size-1)).toNat:=by
 unfold Utf8.encode;simp only;obtain⟨c,U,V⟩:∃c,(if Utf8.valid r=true then(r:Int).toNat else Utf8.runeError)=c/\128<=c:=by
  refine⟨_,rfl,?_⟩
  split
  ·omega
  ·decide
 rw[U];rw[Aa Oo];have Z:c%64<64:=(by omega)
 split
 ·refine⟨show 2<=2 by decide,show 2<=4 by decide,?_⟩;show 128<=(UInt8.ofNat (0x80+c%64)).toNat
  grind [UInt8.toNat_ofNat']
 ·split
  ·refine⟨show 2<=3 by decide,show 3<=4 by decide,?_⟩;show 128<=(UInt8.ofNat (0x80+c%64)).toNat
   grind [UInt8.toNat_ofNat']
  ·refine⟨show 2<=4 by decide,show 4<=4 by decide,?_⟩;show 128<=(UInt8.ofNat (0x80+c%64)).toNat
   grind [UInt8.toNat_ofNat']
theorem qtx:∀pos:Fin 9,(Utf8.decode signs pos.1).2=1/\(Utf8.decode signs pos.1).1<128:=by decide
theorem qty:∀pos:Fin 9,(gb signs pos.1).toNat<128:=by decide
theorem qtw:∀y∈signs.data.toList,y.toNat<128:=by
 simp[signs]
theorem qnp(l:LB)(c:DY)(h:∀x∈l,x≠c):Lib.indexByte l c=-1:=by
 induction l<;>grind [Lib.indexByte]
theorem qnq(r:Nat)(h0:128<=r)(h1:r<=1114111)(w:DU):
  Gv Eg 337 [.string signs,.int .i32 r] w λv w'=>v=ii (-1)/\Ext w w':=by
 have he:=qup r h0;refine ze Tryz.func337 Tryz.ntmps337 ?_;refine zY (λ_=>?_);(conv=>whnf);(iterate 2 (refine zT ?_;(conv=>whnf)));refine zN (λ_=>?_);(conv=>whnf);refine zC (λ_=>?_) (λ_=>?_)<;>(conv=>whnf)
 ·refine znm (Mem.nil w) λb w1 hm=>zw ?_;refine qk (λpos:Nat=>[(175,pp b)]) (λpos V=>pos<=9/\Mem w V [(b,.stringIter signs pos)]) (λpos=>9-pos) 0 ⟨rfl,trivial⟩ (by grind) ?_;rintro pos V aa ⟨hp,hm⟩;(conv=>whnf);refine NextS.mem hm (i:=0) rfl ?_ ?_
  ·intro ad w3 ae;have Z:pos<9:=ad;have hd:=qtx ⟨pos,Z⟩;simp only at hd;rw[hd.1]at ae;(conv=>whnf);refine zT ?_;(conv=>whnf);refine zN (λ_=>?_);(conv=>whnf);exact⟨pos+1,⟨rfl,trivial⟩,(by grind),by omega⟩
  ·intro ag;(conv=>whnf);refine zU ?_;(conv=>whnf);exact⟨rfl,hm.ext⟩
 ·refine zcv (qrn _ _) ?_;rintro v w1 ⟨rfl,rfl⟩;(conv=>whnf);cases hv:Lib.validRune r
  ·(conv=>whnf);refine zP ?_;refine zU ?_;conv=>whnf
   grind [Ext.refl]
  ·(conv=>whnf);refine zP ?_;refine zT ?_;(conv=>whnf);refine ScopeV.straight (zw ?_);refine zA ?_;(conv=>whnf);have ah:signs.size=9:=rfl;refine qk (λ_:Unit=>[(0,.string signs),(7,.string (Utf8.encode r)),(8,ii ((Utf8.encode r).size-1)),(9,ii ((Utf8.encode r).size-1))]) (λ_ V=>V=w1) (λ_=>0) () fq rfl ?_;rintro _ V aa rfl;(conv=>whnf);refine zY (λ_=>?_);(conv=>whnf);refine ScopeV.straight (zw ?_);refine zy ?_;(iterate 2 (refine zW ?_;(conv=>whnf)));refine IdxV.at_ ((Utf8.encode r).size-1) Oo Oo (zw ?_);(iterate 3 (refine zW ?_;(conv=>whnf)));refine IdxV.at_ ((Utf8.encode r).size-1) Oo Oo (zw ?_);(iterate 2 (refine zW ?_;(conv=>whnf)));refine zC (λ_=>?_) (λ_=>?_)<;>(conv=>whnf)
   have U:=qty ⟨(Utf8.encode r).size-1,by omega⟩;simp only at U
   ·refine zy ?_;(iterate 2 (refine zW ?_;(conv=>whnf)));refine zA ?_;(conv=>whnf);refine zW ?_;(conv=>whnf);refine SliceS.at_ (Utf8.encode r).size 9 (show(((Utf8.encode (r:Int)).size:Int)-1+1:Int)=((Utf8.encode (r:Int)).size:Int)by omega) rfl Oo Od (zw ?_);(iterate 3 (refine zW ?_;(conv=>whnf)));refine IdxV.at_ ((Utf8.encode r).size-1) Oo Oo (zw ?_);refine zW ?_;(conv=>whnf);refine⟨_,qp5 _ _ _,?_⟩;rw[qnp]
    ·(conv=>whnf);refine zW ?_;(conv=>whnf);refine zY (λ_=>?_);(conv=>whnf);exact⟨rfl,xr.drew.drew⟩
    ·intro x hx e;rw[Lib.extract_data]at hx;have af:=D7 hx;have h2:=qtw x (List.mem_of_mem_drop af);rw[e]at h2;have h3:((((gb (Utf8.encode (r:Int)) ((Utf8.encode (r:Int)).size-1)).toNat:Int)).toNat.toUInt8).toNat=(gb (Utf8.encode (r:Int)) ((Utf8.encode (r:Int)).size-1)).toNat:=by
      simp
     omega
   ·have U:=qty ⟨(Utf8.encode r).size-1,by omega⟩;simp only at U;omega
theorem qp6(l:LB)(c:DY):0<=Lib.indexByte l c↔c∈l:=by
 induction l<;>grind [Lib.indexByte]
def barB(c:DY):Bool:=decide (c.toNat<=32\/c∈signs.data.toList)
def barR(r:Nat):Bool:=decide (r<128)&&barB (UInt8.ofNat r)
theorem qr0(r:Nat)(U:r<=1114111)(w:DU):
  Gv Eg 282 [.string signs,.int .i32 r] w λv w'=>v=.bool (decide (r<128/\UInt8.ofNat r∈signs.data.toList))/\Ext w w':=by
 by_cases h:r<128
 ·have V:=Tryz.strings_ContainsRune_ascii signs (r:Int) w Oo Oo;refine(qz8 Jk V).mono ?_
  grind [Ext.refl,qp6]
 ·refine ze Tryz.func282 Tryz.ntmps282 ?_;refine zcv (qnq r Oo U w) ?_;rintro v w' ⟨rfl,Z⟩;conv=>whnf
  grind
theorem qn1(r:Nat)(U:r<=1114111)(w:DU):
  Gv Eg 213 [.int .i32 r] w λv w'=>v=.bool (barR r)/\Ext w w':=by
 have V:r<128->(UInt8.ofNat r).toNat=r:=(by grind [UInt8.toNat_ofNat'])
 refine ze Tryz.func213 Tryz.ntmps213 ?_
 (repeat'(first|((with_reducible refine zT ?_);(conv=>whnf))|((with_reducible refine zU ?_);(conv=>whnf))|((with_reducible refine zC (λ_=>?_) (λ_=>?_))<;>first|(exfalso;omega)|(conv=>whnf))))
 ·grind [Ext.refl,barR,barB]
 ·refine zcv (qr0 r U w) ?_;rintro v w' ⟨rfl,Z⟩;(conv=>whnf);refine zU ?_;conv=>whnf
  grind [barR,barB]
theorem get!_gb(s:DV)(k:Nat):s.get! k=gb s k:=by
 obtain⟨⟨l⟩⟩:=s;simp[ByteArray.get!,gb,getElem!_def];rfl
theorem qi8(s:DV)(pos:Nat)(U:(gb s pos).toNat<128):Utf8.decode s pos=((gb s pos).toNat,1):=by
 grind [Utf8.decode,get!_gb]
theorem qlp(s:DV)(pos:Nat)(h:pos<s.size)(Z:128<=(gb s pos).toNat):
  128<=(Utf8.decode s pos).1/\(Utf8.decode s pos).1<=1114111/\1<=(Utf8.decode s pos).2/\pos+(Utf8.decode s pos).2<=s.size/\∀j,j<(Utf8.decode s pos).2->128<=(gb s (pos+j)).toNat:=by
 unfold Utf8.decode;simp only[BB,get!_gb];rw[Aa Oo];have one:∀j,j<1->128<=(gb s (pos+j)).toNat:=(by grind)
 have V:=(gb s pos).toNat_lt
 split
 ·rename_i U
  simp only[AQ,Db,decide_eq_true_eq]at U
  split
  ·grind
  ·exact⟨by decide,by decide,by decide,by omega,one⟩
 ·split
  ·rename_i U
   simp only[AQ,Db,decide_eq_true_eq]at U
   split
   ·grind
   ·exact⟨by decide,by decide,by decide,by omega,one⟩
  ·split
   ·rename_i U
    simp only[AQ,Db,decide_eq_true_eq]at U
    split
    ·grind [Utf8.valid]
    ·exact⟨by decide,by decide,by decide,by omega,one⟩
   ·exact⟨by decide,by decide,by decide,by omega,one⟩
theorem qpa(s:DV)(n:Nat):∀pos,pos+n<=s.size->(∀j,j<n->128<=(gb s (pos+j)).toNat)->
  (s.data.toList.drop pos).any barB=(s.data.toList.drop (pos+n)).any barB:=by
 induction n with
 | zero=>simp
 | succ n V=>
  intro pos Z U;have h0:=U 0 Oo;have hb:barB (gb s pos)=false:=by
   grind [barB,qtw]
  rw[qa7 s pos Oo,List.any_cons,hb,D5,V (pos+1) Oo (λj hj=>by have:=U (j+1) Oo;rwa[show pos+1+j=pos+(j+1)from by omega])]
  grind
theorem qp7(s:DV)(_:s.size<=140737488355328)(w:DU):
  Gv Eg 212 [.string s,.func (.func 213) #[] #[]] w λv w'=>(∃i:Int,v=ii i/\(0<=i↔s.data.toList.any barB=true))/\Ext w w':=by
 have aa:Gv Eg 281 [.string s,.func (.func 213) #[] #[],.bool true] w λv w'=>(∃i:Int,v=ii i/\(0<=i↔s.data.toList.any barB=true))/\Ext w w':=by
  refine ze Tryz.func281 Tryz.ntmps281 ?_;refine znm (Mem.nil w) λb w1 hm=>zw ?_;refine qk (λpos:Nat=>[(1,.func (.func 213) #[] #[]),(2,.bool true),(10,pp b)])
   (λpos w2=>pos<=s.size/\Mem w w2 [(b,.stringIter s pos)]/\s.data.toList.any barB=(s.data.toList.drop pos).any barB) (λpos=>s.size-pos) 0 fq (by grind) ?_
  rintro pos w2 af ⟨hp,hm,ha⟩;(conv=>whnf);refine NextS.mem hm (i:=0) rfl ?_ ?_
  ·intro ad w3 U
   by_cases hb:(gb s pos).toNat<128
   ·have hd:=qi8 s pos hb;rw[hd]at U|-;simp only at U|-;have ag:UInt8.ofNat (gb s pos).toNat=gb s pos:=by simp
    (conv=>whnf);refine zT ?_;(conv=>whnf);refine zcv (qn1 _ Oo _) ?_;rintro v w4 ⟨rfl,he⟩;have V:=U.call he;(conv=>whnf);have Z:barR (gb s pos).toNat=barB (gb s pos):=by grind [barR]
    rw[Z];cases ae:barB (gb s pos)
    ·(conv=>whnf);refine Tst.beqT ?_;refine zU ?_;(conv=>whnf);refine⟨pos+1,fq,⟨by omega,V,?_⟩,by omega⟩
     grind [qa7]
    ·(conv=>whnf);refine Tst.beqT ?_;refine zT ?_;(conv=>whnf);refine⟨⟨pos,rfl,?_⟩,V.ext⟩
     grind [qa7]
   ·have hd:=qlp s pos ad Oo;obtain⟨d1,d2,d3,d4,d5⟩:=hd;(conv=>whnf);refine zT ?_;(conv=>whnf);refine zcv (qn1 _ d2 _) ?_;rintro v w4 ⟨rfl,he⟩;have V:=U.call he;have Z:barR (Utf8.decode s pos).1=false:=by simp[barR];omega
    rw[Z];(conv=>whnf);refine Tst.beqT ?_;refine zU ?_;(conv=>whnf);refine⟨pos+(Utf8.decode s pos).2,fq,⟨by omega,V,?_⟩,by omega⟩;rw[ha];exact qpa s _ pos d4 d5
  ·intro ah;(conv=>whnf);refine zU ?_;(conv=>whnf);refine⟨⟨-1,rfl,?_⟩,hm.ext⟩
   simp_all[AN]
 refine ze Tryz.func212 Tryz.ntmps212 ?_;refine zcv (aa) ?_;rintro v w' ⟨⟨i,rfl,hi⟩,he⟩;conv=>whnf
 simp_all
def refE(s:DV):Nat:=
 if 65536<s.size then 2 else if scal s.data.toList=none then 40 else if s.data.toList.any barB then 50 else 0
theorem qq0(s:DV)(U:s.size<=140737488355328)(w:DU):
  Gv Eg 137 [.string s] w λv w'=>v=ii (refE s)/\Ext w w':=by
 refine ze Tryz.func137 Tryz.ntmps137 ?_;refine zC (λ_=>?_) (λ_=>?_)<;>(conv=>whnf)
 ·grind [refE,Ext.refl]
 ·refine zcv (qrw s U _) ?_;rintro v w' ⟨⟨i,rfl,Z,h2,h3⟩,rfl⟩;(conv=>whnf);refine zC (λ_=>?_) (λ_=>?_)<;>(conv=>whnf)
  ·grind [Ext.refl,refE]
  ·have V:scal s.data.toList≠none:=(by grind)
   refine zcv (qp7 s U _) ?_;rintro v w1 ⟨⟨j,rfl,hj⟩,he⟩;(conv=>whnf);refine zC (λ_=>?_) (λ_=>?_)<;>(conv=>whnf)
   all_goals grind [refE]
def qe4(c:DY):Bool:=decide (97<=c.toNat/\c.toNat<=122\/65<=c.toNat/\c.toNat<=90)
def qv3(c:DY):Bool:=qe4 c||decide (48<=c.toNat/\c.toNat<=57\/c.toNat=43\/c.toNat=45\/c.toNat=46)
def qba:LB->Nat->Nat
 | [],_=>0
 | c::l,k=>if c.toNat=58 then k else if k=0/\qe4 c=false\/qv3 c=false then 0 else qba l (k+1)
theorem qju(c:DY)(l:LB)(k:Nat)(U:c.toNat≠58)(V:97<=c.toNat/\c.toNat<=122\/65<=c.toNat/\c.toNat<=90\/(0<k/\(48<=c.toNat/\c.toNat<=57\/c.toNat=43\/c.toNat=45\/c.toNat=46))):
  qba (c::l) k=qba l (k+1):=by
 grind [qba,qv3,qe4]
theorem qd7(c:DY)(l:LB)(k:Nat)(U:c.toNat≠58\/k=0)(V:¬(97<=c.toNat/\c.toNat<=122\/65<=c.toNat/\c.toNat<=90\/(0<k/\(48<=c.toNat/\c.toNat<=57\/c.toNat=43\/c.toNat=45\/c.toNat=46)))):
  qba (c::l) k=0:=by
 grind [qba,qv3,qe4]
theorem qm1(c:DY)(l:LB)(k:Nat)(U:c.toNat=58):qba (c::l) k=k:=by
 grind [qba]
theorem qd5(s:DV):s.extract 0 0=⟨#[]⟩:=by
 obtain⟨⟨l⟩⟩:=s;rw[ByteArray.extract_mk];simp
theorem q09(s:DV)(_:s.size<=140737488355328)(w:DU):
  Gv Eg 138 [.string s] w λv w'=>v=.string (s.extract 0 (qba s.data.toList 0))/\Ext w w':=by
 refine ze Tryz.func138 Tryz.ntmps138 ?_;refine znm (Mem.nil w) λb w1 hm=>zw ?_;refine qk (λpos:Nat=>[(0,.string s),(7,pp b)])
  (λpos w2=>pos<=s.size/\Mem w w2 [(b,.stringIter s pos)]/\qba s.data.toList 0=qba (s.data.toList.drop pos) pos) (λpos=>s.size-pos) 0 fq (by grind) ?_
 rintro pos w2 ad ⟨hp,hm,V⟩;(conv=>whnf);refine NextS.mem hm (i:=0) rfl ?_ ?_
 ·intro Z w3 U;have aa:=qa7 s pos Z;rw[aa]at V
  by_cases hb:(gb s pos).toNat<128
  ·have hd:=qi8 s pos hb;rw[hd]at U|-;simp only at U|-;conv=>whnf
   (repeat'(first|((with_reducible refine zT ?_);(conv=>whnf))|((with_reducible refine zU ?_);(conv=>whnf))|((with_reducible refine zC (λ_=>?_) (λ_=>?_))<;>first|(exfalso;omega)|(conv=>whnf))))
   all_goals first
    | (refine⟨pos+1,fq,⟨by omega,U,?_⟩,by omega⟩;grind [qju])
    | (refine⟨?_,U.ext⟩;rw[V,qd7 _ _ _ Oo Oo,qd5])
    | (refine SliceS.at_ 0 pos rfl rfl Oo Oo ?_;(conv=>whnf);skip;exact⟨by rw[V,qm1 _ _ _ Oo],U.ext⟩)
  ·obtain⟨d1,d2,d3,d4,d5⟩:=qlp s pos Z Oo;generalize(Utf8.decode s pos).1=r at d1 d2|-;generalize(Utf8.decode s pos).2=n at d3 d4 d5 U;conv=>whnf
   (repeat'(first|((with_reducible refine zT ?_);(conv=>whnf))|((with_reducible refine zU ?_);(conv=>whnf))|((with_reducible refine zC (λ_=>?_) (λ_=>?_))<;>first|(exfalso;omega)|(conv=>whnf))))
   all_goals first
    | (refine⟨?_,U.ext⟩;grind [qd7,qd5])
 ·intro ae;rw[AN Ys]at V;(conv=>whnf);refine zU ?_;(conv=>whnf);exact⟨by rw[V,qba,qd5],hm.ext⟩
def iriE(s:DV):Nat:=if refE s≠0 then refE s else if qba s.data.toList 0=0 then 51 else 0
theorem q08(l:LB)(k:Nat):qba l k<=k+l.length:=by
 induction l generalizing k<;>grind [qba]
theorem qh1(s:DV)(n:Nat)(U:n<=s.size):s.extract 0 n=⟨#[]⟩↔n=0:=by
 grind [ByteArray.size,ByteArray.size_extract,qd5]
theorem qj6(s:DV)(Z:s.size<=140737488355328)(w:DU):
  Gv Eg 68 [.string s] w λv w'=>v=ii (iriE s)/\Ext w w':=by
 refine ze Tryz.func68 Tryz.ntmps68 ?_;refine zcv (qq0 s Z _) ?_;rintro v w1 ⟨rfl,he⟩;(conv=>whnf);refine zC (λ_=>?_) (λ_=>?_)<;>(conv=>whnf)
 ·grind [iriE]
 ·refine zcv (q09 s Z _) ?_;rintro v w2 ⟨rfl,U⟩;have V:=q08 s.data.toList 0;have aa:qba s.data.toList 0<=s.size:=by simpa using V
  (conv=>whnf);refine Tst.seq (λh=>?_) (λh=>?_)
  ·(conv=>whnf);exact⟨by grind [iriE,qh1],he.trans U⟩
  ·(conv=>whnf);exact⟨by grind [iriE,qh1],he.trans U⟩
def es:DV:=⟨#[]⟩
structure PN where
 op:Int
 iri:DV
 a:Int
 b:Int
 fA:oA
 fc:Nat
 f:List DV
 vA:oA
 vc:Nat
 v:List DV
open Go.ChangeShapes Go.WideShapes Go.RowKit
namespace V
section
variable {H:Type} {enc:DX×DZ->H} {P:DW}
theorem qiw(hl:laidOutB P=true){base:Nat}{W W':DU}{V:Nat->Bool}:∀{Z:List DX} {vs:Ee} {ds:List (DataW H)} {ps:List MemPlace},
  (∀t∈Z,P.readableRec t=true/\t<P.types.size)->DataW.TrodAll enc P W base (λ_=>true) true Z vs ds ps->(∀p∈ps,W.sameAt W' p)->(∀p∈ps,V p.block=true)->
  DataW.TrodAll enc P W' base V true Z vs ds ps
 | [],_,_,_,_,h,_,_=>by
  obtain⟨rfl,rfl,rfl⟩:=trodAll_nil h;rfl
 | t::Z,_,_,_,hr,h,h1,h2=>by
  obtain⟨v,vs,d,ds,p,q,rfl,rfl,rfl,ha,hb⟩:=trodAll_cons h;obtain⟨r1,r2⟩:=hr t mh;exact⟨p,q,WideElems.Trod_stays hl r1 r2 ha (λx U=>h1 x (Aj _ U)) (λx U=>h2 x (Aj _ U)),
   qiw hl (λt ht=>hr t (zmc ht)) hb (λx U=>h1 x (Ac _ U)) (λx U=>h2 x (Ac _ U)),rfl⟩
theorem qvi{f:Func}{s:ChangeSpec}{U af V ag:Bool}{v:DZ}{ds gs:List (DataW H)}{before pa pv:List MemPlace}(hW:DataW.Whole enc P f.params.toList s.vars U W args.toList ds gs before)(ad:∀(b:Nat) (sp:Nat->Bool) (hd:Bool),DataW.TrodAll enc P W' b sp hd f.resultTypes.toList (v.resultList f.resultTypes.size) (s.fn H (ds++gs)).results [])(Z:∀sp:Nat->Bool,(∀p∈before,sp p.block=true)->DataW.TrodAll enc P W' 0 sp true f.params.toList args.toList (s.fn H (ds++gs)).args pa)(aa:∀sp:Nat->Bool,(∀p∈before,sp p.block=true)->DataW.TrodVars enc P W' sp s.vars (s.fn H (ds++gs)).vars pv)(ak:before=pa++pv)(he:Ext W W')(ai:∀(j:Nat) (t:DX) (r:DZ),f.resultTypes[j]?=some t->(v.resultList f.resultTypes.size)[j]?=some r->Value.okWide P W' .any 0 t r):
  s.post enc P f U af V ag W args v W':=by
 have aj:=hW.lt;have ae:∀p∈before,(λb=>decide (b<W.heap.size)) p.block=true:=(by grind)
 refine⟨ds,gs,before,[],pa,pv,hW,ad _ _ _,Z _ ae,aa _ ae,Below.frame he _,λ_=>?_⟩;obtain⟨_,_,_,_,_,hz,hn⟩:=hW;refine⟨ai,_,_,([]++pa)++pv,⟨[]++pa,pv,trodAll_append (Z _ (λ_ _=>rfl)) (ad _ _ _),aa _ (λ_ _=>rfl),rfl,?_,?_⟩,?_⟩
 ·intro b off hp;have ah:MemPlace.cell b off∈before:=by simp_all
  rw[Below.frozen he (show(⟨b,off,none⟩:Addr).block<W.heap.size from aj _ ah)];exact hz b off ah
 all_goals simp_all
theorem qaat{f:Func}{s:ChangeSpec}{U Z V aa:Bool}{v:DZ}{ds gs:List (DataW H)}{before:List MemPlace}(hl:laidOutB P=true)(hr:∀t∈f.params.toList,P.readableRec t=true/\t<P.types.size)(hW:DataW.Whole enc P f.params.toList s.vars U W args.toList ds gs before)(hv:s.vars=[])(ak:∀(b:Nat) (sp:Nat->Bool) (hd:Bool),DataW.TrodAll enc P W' b sp hd f.resultTypes.toList (v.resultList f.resultTypes.size) (s.fn H ds).results [])(ad:(s.fn H ds).args=ds)(ae:(s.fn H ds).vars=[])(he:Ext W W')(ag:∀(j:Nat) (t:DX) (r:DZ),f.resultTypes[j]?=some t->(v.resultList f.resultTypes.size)[j]?=some r->Value.okWide P W' .any 0 t r):
  s.post enc P f U Z V aa W args v W':=by
 have ah:=hW.lt;have ai:=hW;obtain⟨p,q,hA,hV,af,_,_⟩:=hW;rw[hv]at hV;obtain⟨rfl,rfl⟩:=trodVars_none hV;rw[B4]at af;subst af;refine qvi (pa:=before) (pv:=[]) ai ?_ ?_ ?_ Js he ag
 ·simp_all
 ·rw[B4,ad];exact λsp aj=>qiw hl hr hA (λx hx=>Below.same he (ah x hx)) aj
 ·rw[B4,ae,hv];exact λ_ _=>rfl
structure Opn(enc:DX×DZ->H)(P:DW)(w:DU)(t:DX)(cs:Ee):Prop where
 h:∃n d ps,DataW.trod enc P w 0 (λ_=>true) true n t cs=some (d,ps)/\∀m∈DataW.weights P t d,m<=reachBytes
theorem qfw{t:DX}{d:DataW H}{m:Nat}(hm:m∈DataW.weights P t d):∀(U:List DX) (V:List (DataW H)) (i:Nat),U[i]?=some t->V[i]?=some d->m∈DataW.weightsEach P U V
 | [],_,_,h,_=>by simp at h
 | _::_,[],_,_,h=>by simp at h
 | u::U,x::V,0,h,Z=>by
  grind [DataW.weightsEach]
 | u::U,x::V,i+1,h,Z=>by
  rw[DataW.weightsEach];exact Ac _ (qfw hm U V i (by simpa using h) (by simpa using Z))
theorem qg1{t:DX}{d:DataW H}{m:Nat}(V:m∈DataW.weights P t d):∀(U:List (DataW H)),d∈U->m∈DataW.weightsAll P t U
 | [],h=>by simp at h
 | x::U,h=>by
  rw[DataW.weightsAll]
  rcases AB.1 h with rfl|h
  ·exact Aj _ V
  ·exact Ac _ (qg1 V U h)
section
variable {w:DU} {t:DX}
theorem Opn.of{U:List DX}{V:List (DataW H)}{Z:List MemPlace}(h:DataW.TrodAll enc P w 0 (λ_=>true) true U vs V Z)(hw:(DataW.weightsEach P U V).all (·<=reachBytes)=true):
  ∀(i:Nat) u v,U[i]?=some u->vs[i]?=some v->Opn enc P w u v.cells.toList:=by
 have aa:∀(U:List DX) (vs:Ee) (V:List (DataW H)) (Z:List MemPlace),DataW.TrodAll enc P w 0 (λ_=>true) true U vs V Z->(∀m∈DataW.weightsEach P U V,m<=reachBytes)->
   ∀(i:Nat) u v,U[i]?=some u->vs[i]?=some v->Opn enc P w u v.cells.toList:=by
  intro U
  induction U with
  | nil=>simp
  | cons t U ih=>
   intro vs V Z h hw i u v hu hv;obtain⟨x,ad,d,ae,p,q,rfl,rfl,rfl,⟨n,ha⟩,hb⟩:=trodAll_cons h;rw[DataW.weightsEach]at hw;cases i with
   | zero=>
    simp at hu hv;subst hu hv;exact⟨n,d,p,ha,λm hm=>hw m (by grind)⟩
   | succ i=>grind
 grind
theorem Opn.fields{U:Array Field}{cs:Ee}(V:P.underlying t=some (.struct U))(h:Opn enc P w t cs):
  cs.length=P.cellsOf t/\∀(i:Nat) (f:Field),U[i]?=some f->Opn enc P w f.type ((cs.drop f.offset).take (P.cellsOf f.type)):=by
 obtain⟨n,d,ps,h,hw⟩:=h;obtain⟨xs,n,_,Z,hl,aa,hf⟩:=DataW.trod_struct V h;simp only[DM]at Z;obtain⟨rfl,rfl⟩:=Z;refine⟨hl,λi f hi=>?_⟩;have ad:i<xs.length:=by
  grind
 refine⟨n,xs[i].1,xs[i].2,by grind,λm hm=>hw m ?_⟩;rw[DataW.weights,V];exact qfw hm _ _ i (by simp_all) (by grind)
theorem Opn.string{c:DZ}(V:P.underlying t=some .string)(h:Opn enc P w t [c]):∃s:DV,c=.string s/\s.size<=140737488355328:=by
 obtain⟨n,d,ps,h,Z⟩:=h;obtain⟨s,h1,U,_⟩:=DataW.trod_string V h;simp only[DM]at U;obtain⟨rfl,rfl⟩:=U;refine⟨s,by simpa using h1,?_⟩;have:=Z s.data.toList.length (by grind [DataW.weights]);have e:s.data.toList.length=s.size:=Array.length_toList
 grind [reachBytes]
theorem Opn.int{k:IntKind}{c:DZ}(U:P.underlying t=some (.int k))(h:Opn enc P w t [c]):∃n:Int,c=.int k n/\(Lit.int k n).wf=true:=by
 grind [h,DataW.trod_int]
theorem q6q{a:Addr}{v:DZ}(h:w.cell? a=some v):a=⟨a.block,a.off,none⟩:=by
 obtain⟨b,o,s⟩:=a;cases s<;>grind [World.cell?]
end
end
end V
open Go.ChangeShapes Go.WideShapes Go.RowKit V
theorem qac0{k:IntKind}{n:Int}(h:(Lit.int k n).wf=true):InR k n:=by
 simp only[Lit.wf,AQ,decide_eq_true_eq]at h;cases k<;>exact h
theorem qkq:Eg.cellsOf 9=1:=by kernel_rfl
theorem qkp:Eg.cellsOf 3=1:=by kernel_rfl
section
variable {H:Type} {enc:DX×DZ->H} {W:DU}
instance:Inhabited PN:=⟨⟨0,⟨#[]⟩,0,0,none,0,[],none,0,[]⟩⟩
end
def basesP:List (Int×Int):=[(192,214),(216,246),(248,767),(880,893),(895,8191),(8204,8205),(8304,8591),(11264,12271),(12289,55295),(63744,64975),(65008,65533),(65536,983039)]
def qcb:Ee:=basesP.flatMap λx=>[.int .i32 x.1,.int .i32 x.2]
def inP(r:Int)(x:Int×Int):Bool:=decide (x.1<=r/\r<=x.2)
def letN(r:Int):Bool:=decide (97<=r/\r<=122\/65<=r/\r<=90)
def digN(r:Int):Bool:=decide (48<=r/\r<=57)
def qkh(r:Int):Bool:=letN r||basesP.any (inP r)
def qg7(r:Int):Bool:=qkh r||decide (r=95)
def qeb(r:Int):Bool:=qg7 r||digN r||decide (r=45\/r=183\/(768<=r/\r<=879)\/(8255<=r/\r<=8256))
def labB(r:Int):Bool:=qg7 r||digN r
theorem q8d:∀x∈basesP,128<=x.1:=by decide
theorem qw8:∀i (h:i<basesP.length),qcb[i*2]?=some (.int .i32 basesP[i].1)/\qcb[i*2+1]?=some (.int .i32 basesP[i].2)/\128<=basesP[i].1:=by
 intro i h;refine⟨?_,?_,q8d _ (AH h)⟩
 all_goals
 have h:i<12:=h;obtain rfl|rfl|rfl|rfl|rfl|rfl|rfl|rfl|rfl|rfl|rfl|rfl:i=0\/i=1\/i=2\/i=3\/i=4\/i=5\/i=6\/i=7\/i=8\/i=9\/i=10\/i=11:=by omega
 all_goals rfl
theorem qst(s:DV)(p:Nat)(V:p<=s.size)(U:s.size<=140737488355328)(w:DU):
  Gv Eg 216 [.string s,ii p] w λv w'=>v=.tuple #[.int .i32 (decN (s.data.toList.drop p)).1,ii (decN (s.data.toList.drop p)).2]/\w'=w:=by
 by_cases h:p<s.size
 ·exact qyl s p h U w
 ·have e:s.data.toList.drop p=[]:=AN Ys;rw[e];refine ze Tryz.func216 Tryz.ntmps216 ?_;refine zv ?_;exact⟨rfl,rfl⟩
theorem qji(r:Int)(w:DU):Gv Eg 342 [.int .i32 r] w λv w'=>v=.bool (letN r)/\w'=w:=by
 refine ze Tryz.func342 Tryz.ntmps342 ?_
 (repeat'(first|refine zp ?_|refine zC (λ_=>zw ?_) (λ_=>zw ?_)))
 all_goals(refine⟨Ae Value.bool ?_,rfl⟩;rw[AU];simp[letN];try omega)
theorem qc2(r:Int)(w:DU):Gv Eg 285 [.int .i32 r] w λv w'=>v=.bool (digN r)/\w'=w:=by
 refine ze Tryz.func285 Tryz.ntmps285 ?_;refine zC (λ_=>zu ?_) (λ_=>zu ?_)
 all_goals(refine⟨Ae Value.bool ?_,rfl⟩;rw[AU];simp[digN];try omega)
theorem q2i{v:DZ}(h:w.cell? ⟨g,0+k,none⟩=some v):w.cell? ⟨g,0+k*1,none⟩=some v:=by rwa[AZ]
theorem qxj{v:DZ}(h:w.cell? ⟨g,0+(k+1),none⟩=some v):w.cell? ⟨g,0+(k+1)*1,none⟩=some v:=by rwa[AZ]
theorem q8c(r:Int)(w:DU)(hT:CellsAt w 4 0 qcb):Gv Eg 338 [.int .i32 r] w λv w'=>v=.bool (qkh r)/\w'=w:=by
 have V:r<128->qkh r=letN r:=λh=>by
  have:basesP.any (inP r)=false:=by
   rw[List.any_eq_false];intro x hx;obtain⟨i,hi,rfl⟩:=BY.1 hx;have:=(qw8 i hi).2.2;simp[inP];omega
  simp[qkh,this]
 have Z:128<=r->qkh r=basesP.any (inP r):=λh=>by
  have:letN r=false:=by simp[letN];omega
  simp[qkh,this]
 refine ze Tryz.func338 Tryz.ntmps338 ?_;refine zC (λ_=>zw ?_) (λ_=>zw ?_)
 ·refine zcv (qji r w) ?_;rintro v w1 ⟨rfl,rfl⟩;(conv=>whnf);exact⟨by rw[V Oo],rfl⟩
 ·refine qk (λi:Nat=>[(0,.int .i32 r),(3,ii (i*2:Nat))]) (λi w1=>i<=12/\(basesP.take i).any (inP r)=false/\w1=w) (λi=>12-i) 0 fq ⟨by omega,rfl,rfl⟩ ?_;rintro i w1 aa ⟨h1,h2,rfl⟩;(conv=>whnf);refine zC (λ_=>zu ?_) (λ_=>zu ?_)
  ·have hi:i<basesP.length:=show i<12 by omega
   obtain⟨b1,b2,_⟩:=qw8 i hi;have U:∀c,inP r basesP[i]=c->(basesP.take (i+1)).any (inP r)=c:=λc hc=>by
    rw[AX hi,DB,h2,List.any_cons,hc];simp
   refine LoadV.of (q2i (hT _ _ b1)) (zw ?_);refine zC (λ_=>zu ?_) (λ_=>zu ?_)
   ·refine⟨i*2+1,by omega,by omega,?_⟩;refine zu ?_;refine LoadV.of (qxj (hT _ _ b2)) (zw ?_);refine zt ?_;refine zC (λ_=>zu ?_) (λ_=>zu ?_)
    ·refine⟨Ae Value.bool ?_,rfl⟩;rw[Z Oo];exact(List.any_eq_true.2 ⟨basesP[i],AH hi,by simp[inP];omega⟩).symm
    ·exact⟨i+1,⟨rfl,Ae (Value.int .i64) Oo,trivial⟩,⟨by omega,U _ (by simp[inP];omega),rfl⟩,by omega⟩
   ·exact⟨i+1,⟨rfl,Ae (Value.int .i64) Oo,trivial⟩,⟨by omega,U _ (by simp[inP];omega),rfl⟩,by omega⟩
  ·refine⟨Ae Value.bool ?_,rfl⟩;rw[Z Oo,<-h2,Am (show 12<=i by omega)]
theorem qm9(r:Int)(w:DU)(U:CellsAt w 4 0 qcb):Gv Eg 284 [.int .i32 r] w λv w'=>v=.bool (qg7 r)/\w'=w:=by
 refine ze Tryz.func284 Tryz.ntmps284 ?_;refine zcv (q8c r w U) ?_;rintro v V ⟨rfl,rfl⟩;(conv=>whnf);unfold qg7;cases qkh r
 ·refine zv ?_
  all_goals(refine⟨Ae Value.bool ?_,rfl⟩;rw[AU];simp;try omega)
 ·refine zv ?_
  all_goals(refine⟨Ae Value.bool ?_,rfl⟩;rw[AU];simp;try omega)
theorem qsc(r:Int)(w:DU)(V:CellsAt w 4 0 qcb):Gv Eg 283 [.int .i32 r] w λv w'=>v=.bool (qeb r)/\w'=w:=by
 refine ze Tryz.func283 Tryz.ntmps283 ?_;refine zcv (qm9 r w V) ?_;rintro v U ⟨rfl,rfl⟩;(conv=>whnf);unfold qeb;cases qg7 r
 ·refine zv ?_;refine zcv (qc2 r U) ?_;rintro v U ⟨rfl,rfl⟩;(conv=>whnf);cases digN r
  ·(repeat'(first|refine zp ?_|refine zC (λ_=>zw ?_) (λ_=>zw ?_)))
   all_goals(refine⟨Ae Value.bool ?_,rfl⟩;rw[AU];simp;try omega)
  ·refine zv ?_
   all_goals(refine⟨Ae Value.bool ?_,rfl⟩;rw[AU];simp;try omega)
 ·refine zv ?_
  all_goals(refine⟨Ae Value.bool ?_,rfl⟩;rw[AU];simp;try omega)
theorem qz9(r:Int)(w:DU)(V:CellsAt w 4 0 qcb):Gv Eg 215 [.int .i32 r] w λv w'=>v=.bool (labB r)/\w'=w:=by
 refine ze Tryz.func215 Tryz.ntmps215 ?_;refine zcv (qm9 r w V) ?_;rintro v U ⟨rfl,rfl⟩;(conv=>whnf);unfold labB;cases qg7 r
 ·refine zv ?_;refine zcv (qc2 r U) ?_;rintro v U ⟨rfl,rfl⟩;(conv=>whnf);cases digN r
  ·refine zv ?_
   all_goals(refine⟨Ae Value.bool ?_,rfl⟩;rw[AU];simp;try omega)
  ·refine zv ?_
   all_goals(refine⟨Ae Value.bool ?_,rfl⟩;rw[AU];simp;try omega)
 ·refine zv ?_
  all_goals(refine⟨Ae Value.bool ?_,rfl⟩;rw[AU];simp;try omega)
def okT:Bool->Ef->Bool
 | d,[] => !d
 | _,r::l=>(qeb r||decide (r=46))&&okT (decide (r=46)) l
def labL:Ef->Bool
 | []=>false
 | r::l=>labB r&&okT false l
noncomputable def qcj(s:DV):Bool:=match scal s.data.toList with
 | some l=>labL l
 | none=>false
theorem qy9(h:(decN l).2=0):scal l=none\/l=[]:=by
 cases l with
 | nil=>exact .inr rfl
 | cons a t=>exact .inl (qio Js h)
noncomputable def qnv(d:Bool)(l:LB):Bool:=match scal l with
 | some l=>okT d l
 | none=>false
theorem q58{d:Bool}{s:DV}(hi:i<=s.size)(h:(decN (s.data.toList.drop i)).2=0):qnv d (s.data.toList.drop i)=decide (i=s.size/\d=false):=by
 rcases qy9 h with U|U
 ·have V:i≠s.size:=by
   intro e;rw[AN Ys]at U;rw[scal]at U;cases U
  rw[qnv,U];simp[V]
 ·have e:i=s.size:=by
   have:=Ae List.length U;rw[qe0]at this;simp at this;omega
  rw[qnv,U,scal];cases d<;>simp[okT,e]
theorem qoq{d:Bool}(h:(decN l).2≠0):qnv d l=((qeb (decN l).1||decide ((decN l).1=46))&&qnv (decide ((decN l).1=46)) (l.drop (decN l).2)):=by
 have U:l≠[]:=by rintro rfl;exact h rfl
 rw[qnv,qga U h,qnv];cases scal (l.drop (decN l).2)with
 | none=>simp
 | some t=>rfl
theorem q4b(s:DV):qcj s=if(decN s.data.toList).2=0 then false else labB (decN s.data.toList).1&&qnv false (s.data.toList.drop (decN s.data.toList).2):=by
 split
 ·rename_i h
  rcases qy9 h with U|U
  ·rw[qcj,U]
  ·rw[qcj,U,scal];rfl
 ·rename_i h
  have V:s.data.toList≠[]:=by intro e;rw[e]at h;exact h rfl
  rw[qcj,qga V h,qnv];cases scal (s.data.toList.drop (decN s.data.toList).2)with
  | none=>simp
  | some t=>rfl
theorem qaha(s:DV)(hs:s.size<=140737488355328)(w:DU)(hT:CellsAt w 4 0 qcb):
  Gv Eg 214 [.string s,ii 0,.func (.func 215) #[] #[]] w λv w'=>(∃n:Nat,v=ii n/\qcj s=decide (n≠0/\n=s.size))/\w'=w:=by
 refine ze Tryz.func214 Tryz.ntmps214 ?_;refine zcv (qst s 0 (Ag _) hs w) ?_;rw[BF];rintro v w1 ⟨rfl,rfl⟩;have aa:=qi7 s.data.toList;have ad:s.data.toList.length=s.size:=by simp
 have V:=q4b s;(conv=>whnf);refine zC (λ_=>zu ?_) (λ_=>zu ?_)
 ·refine⟨⟨0,rfl,?_⟩,rfl⟩;rw[V,Ad Oo];rfl
 ·rw[Aa Oo]at V;refine zcv (qz9 _ w1 hT) ?_;rintro v w1 ⟨rfl,rfl⟩;cases hb:labB (decN s.data.toList).1
  ·rw[hb]at V;refine zu ?_;refine⟨⟨0,rfl,?_⟩,rfl⟩;rw[V];rfl
  ·rw[hb]at V;refine zu ?_;refine qk (λx:Nat×Nat=>[(0,.string s),(1,ii 0),(9,ii x.2),(10,ii x.1)])
    (λx Z=>x.1<=s.size/\x.2<=x.1/\0<x.2/\qcj s=qnv (decide (x.2≠x.1)) (s.data.toList.drop x.1)/\Z=w1) (λx=>s.size-x.1) ((decN s.data.toList).2,(decN s.data.toList).2) ⟨rfl,rfl,by exact Ae (Value.int .i64) (Int.zero_add _),by exact Ae (Value.int .i64) (Int.zero_add _),trivial⟩ ⟨by simp only;omega,by simp,by simp only;omega,by simpa using V,rfl⟩ ?_
   rintro⟨i,e⟩ Z ae ⟨h1,h2,h3,U,rfl⟩;simp only at h1 h2 h3 U;(conv=>whnf);refine zcv (qst s i h1 hs Z) ?_;rintro v Z ⟨rfl,rfl⟩;have aa:=qi7 (s.data.toList.drop i);rw[qe0]at aa;conv=>whnf
   (repeat'(first|refine zp ?_|refine zC (λ_=>zw ?_) (λ_=>zw ?_)))
   ·refine⟨⟨e,Ae (Value.int .i64) (Int.sub_zero _),?_⟩,rfl⟩;rw[U,q58 h1 Oo]
    by_cases he:e=i
    ·subst he;simp;omega
    ·simp[he];omega
   ·have h5:=qoq (d:=decide (e≠i)) (l:=s.data.toList.drop i) Oo;rw[h5,AM (show ¬(decN (s.data.toList.drop i)).1=46 by omega),Bool.or_false,Ar]at U;refine zcv (qsc _ Z hT) ?_;rintro v Z ⟨rfl,rfl⟩;cases hf:qeb (decN (s.data.toList.drop i)).1
    ·rw[hf]at U;refine zu ?_;refine⟨⟨e,Ae (Value.int .i64) (Int.sub_zero _),?_⟩,rfl⟩;rw[U];simp;omega
    ·rw[hf]at U;refine zu ?_
     ·exact⟨(i+(decN (s.data.toList.drop i)).2,i+(decN (s.data.toList.drop i)).2),fq,⟨by simp only;omega,Ai _,by simp only;omega,by simpa using U,rfl⟩,by simp only;omega⟩
   ·have h5:=qoq (d:=decide (e≠i)) (l:=s.data.toList.drop i) Oo;rw[h5,AE (show(decN (s.data.toList.drop i)).1=46 by omega),DS,CH,Ar]at U;refine⟨(i+(decN (s.data.toList.drop i)).2,e),fq,⟨by simp only;omega,by simp only;omega,h3,?_,rfl⟩,by simp only;omega⟩;rw[U]
    congr 1
    exact(AE (by simp only;omega)).symm
theorem qu2(s:DV)(U:s.size<=140737488355328)(w:DU)(V:CellsAt w 4 0 qcb):
  Gv Eg 139 [.string s,ii 0] w λv w'=>(∃n:Nat,v=ii n/\qcj s=decide (n≠0/\n=s.size))/\w'=w:=by
 refine ze Tryz.func139 Tryz.ntmps139 ?_;refine zcv (qaha s U w V) ?_;rintro v w' ⟨⟨n,rfl,h⟩,rfl⟩;(conv=>whnf);exact⟨⟨n,rfl,h⟩,rfl⟩
noncomputable def labE(s:DV):Nat:=if qcj s=true then 0 else 60
theorem q4c(s:DV)(U:s.size<=140737488355328)(w:DU)(V:CellsAt w 4 0 qcb):
  Gv Eg 69 [.string s] w λv w'=>v=ii (labE s)/\w'=w:=by
 refine ze Tryz.func69 Tryz.ntmps69 ?_;refine zcv (qu2 s U w V) ?_;rintro v w' ⟨⟨n,rfl,h⟩,rfl⟩;(conv=>whnf);unfold labE;rw[h]
 (repeat'(first|refine zp ?_|refine zC (λ_=>zw ?_) (λ_=>zw ?_)))
 ·rw[Aa Ys];exact⟨rfl,rfl⟩
 ·rw[Aa Ys];exact⟨rfl,rfl⟩
 ·rw[Ad Ys];exact⟨rfl,rfl⟩
def encL(r:Nat):LB:=
 if r<0x80 then[UInt8.ofNat r]
 else if r<0x800 then[UInt8.ofNat (0xC0+r/64),UInt8.ofNat (0x80+r%64)]
 else if r<0x10000 then[UInt8.ofNat (0xE0+r/4096),UInt8.ofNat (0x80+r/64%64),UInt8.ofNat (0x80+r%64)]
 else[UInt8.ofNat (0xF0+r/262144),UInt8.ofNat (0x80+r/4096%64),UInt8.ofNat (0x80+r/64%64),UInt8.ofNat (0x80+r%64)]
theorem qakl(n:Nat)(h:n<256):((UInt8.ofNat n).toNat:Int)=n:=by rw[Cm];omega
namespace V
theorem Rw.setCell{v:DZ}{U n:Nat}(h:Rw w0 w v e U n xs L){t:DX}(hi:L[i]?=some (b,.cells cs t fr))(Z:w'=w.setCell ⟨b,off,none⟩ x):Rw w0 w' v e U n xs (L.set i (b,.cells (cs.setIfInBounds off x) t fr)):=by
 have hm:=h.mem.setCell hi Z;have hb:v.ownBlock≠some b:=h.apart _ (zmg hi);refine⟨hm,?_,λy V=>?_⟩
 ·subst Z;refine h.own.kept (row:=some b) ⟨rfl,rfl,rfl,by simp[World.setCell],λk _ hk=>Below.heap_setCell _ _ _ _ (λe=>hk (by simp[e]))⟩ ?_;exact Or.inr hb
 ·rcases CD V with V|rfl
  ·exact h.apart y V
  ·exact hb
def qny(e:DX)(L:Ed):Prop:=∀x∈L,∀c U,x.2≠.cells c e U
theorem AppV.rwS{v:DZ}{n:Nat}{t u:DX}{i:TypeInfo}{s:DV}(ht:P.underlying t=some (.slice e))(hu:P.underlying u=some .string)(hi:P.info? e=some i)(hz:i.zero=some (.int .u8 0))(U:i.size=1)(aa:i.bytes=1)(h:Rw w0 w v e 1 n xs L)(hL:qny e L)(hb:n+s.size<=140737488355328)(Z:∀v' w',Rw w0 w' v' e 1 (n+s.size) (xs++byteCells s.data.toList) L->K v' w'):AppV P #[t,u] ty v (.string s) w K:=by
 obtain⟨v',w',V,h2,h3,_⟩:=Lib.run_append_own_string (P:=P) w w0.heap.size t u ty e i ht hu hi hz U aa v n xs h.own s (by simp only[maxLen];omega) hb h.mem.ext.size;have hm:=h.grown h3 (λk Z=>⟨(h.own.lt k Z).1,λx hx e=>h.apart x hx (by rw[Z,e])⟩);refine⟨v',w',V,Z _ _ ⟨hm,h2,λx hx he=>?_⟩⟩;have ad:=hm.get hx
 rcases h2.2 with⟨rfl,_⟩|⟨g,ae,af,rfl,_,hg,_⟩
 ·cases he
 ·cases he;rw[ad]at hg;exact hL x hx _ _ (Bb hg)
theorem Fall.conv{U V:DX}{x:Operand}(Z:o.op=.convert U V x)(hr:(convert U V (ev ρ x)).run P w=.ok u w)(hk:K u w):Fall P (execOp (ev ρ) o) w K:=by
 refine⟨.inl ⟨u,w,?_,hk⟩⟩;simp[execOp,Z,hr]
theorem RunV.neqSame{t V:DX}{j:TypeInfo}(a:Addr)(Z:P.underlying t=some (.pointer V))(U:P.info? V=some j)(hk:K (.bool false) w):
  RunV P (do eqGuard .neq t xo yo (.pointer (some a)) (.pointer (some a));binOp .neq t (.pointer (some a)) (.pointer (some a))) w K:=by
 refine⟨.bool false,w,?_,hk⟩;simp[eqGuard,Lib.run_neq_ptr_same w a Z U]
def BldB(b:Nat)(p v:DZ):Nat×Obj:=(b,.cells #[p,v] 472)
structure Bld(w0 w:DU)(b:Nat)(l:LB)(L:Ed):Prop where
 h:∃p v,(p=.pointer none\/p=pp b)/\Rw w0 w v 5 1 l.length (byteCells l) (BldB b p v::L)
end V
theorem qpj(b:Nat)(p v:DZ)(w0 w:DU)(L:Ed)(hp:p=.pointer none\/p=pp b)(h:Mem w0 w (BldB b p v::L)):
  Gv Eg 385 [pp b] w λr w'=>r=.tuple #[]/\((p=pp b/\w'=w)\/w'=w.setCell ⟨b,0,none⟩ (pp b)):=by
 have Z:w.cell? ⟨b,0,none⟩=some p:=by rw[qa (h.get mh)];rfl
 have V:w.shape? b=some (472,2):=by simp[World.shape?,h.get mh]
 rcases hp with rfl|rfl
 ·refine ze Tryz.func385 Tryz.ntmps385 ?_;refine LoadV.of Z (zu ?_);refine Fall.conv rfl (Lib.run_to_unsafe (t:=472) (e:=472) (cells:=2) _ _ Tryz.underlying470 Tryz.underlying207 (j:=_) (Bt Jk).symm (by decide +kernel) V (D0 1)) (zw ?_);refine⟨.inr ⟨pp b,w,by rw[run_callFunc_extern Tryz.func392 Jk Jk Jk (e:=Extern.AbiNoEscape.same) Jk];rfl,?_⟩⟩;(conv=>whnf);refine Fall.conv rfl (Lib.run_from_unsafe (u:=472) (e:=472) (cells:=2) _ _ Tryz.underlying207 Tryz.underlying470 (j:=_) (Bt Jk).symm V Jk) ?_;refine StoreV.own (h.get mh) (D0 1) rfl λw' hw=>?_;(conv=>whnf);exact⟨rfl,.inr hw⟩
 ·refine ze Tryz.func385 Tryz.ntmps385 ?_;refine LoadV.of Z (zw ?_);refine zt ?_;refine LoadV.mem (i:=0) Oa rfl rfl (zw ?_);refine RunV.neqSame _ Tryz.underlying470 (j:=_) rfl (zu ?_);exact⟨rfl,.inl ⟨rfl,rfl⟩⟩
theorem qb4(a b:LB):byteCells (a++b)=byteCells a++byteCells b:=by simp[byteCells]
theorem qi5(a:LB):(byteCells a).length=a.length:=by simp[byteCells]
theorem qg0(U:qdp P f=true)(h:Calls P f vs.toArray w λe w'=>∃v,e=.returned v/\R v w'):Gv P f vs w R:=⟨U,h⟩
theorem q0g{p v:DZ}(V:qny 5 L):qny 5 (BldB b p v::L):=by
 intro x U c Z
 rcases AB.1 U with rfl|U
 ·intro e;cases e
 ·exact V x U c Z
theorem qd4(b:Nat)(l:LB)(s:DV)(w0 w:DU)(L:Ed)(h:Bld w0 w b l L)(hL:qny 5 L)(hs:l.length+s.size<=140737488355328):
  Gv Eg 367 [pp b,.string s] w λr w'=>r=.tuple #[ii s.size,.nilIface]/\Bld w0 w' b (l++s.data.toList) L:=by
 obtain⟨p,v,hp,hR⟩:=h;have aa:=qpj b p v w0 w L hp hR.mem;obtain⟨A,c,rfl⟩:=hR.slice;refine ze Tryz.func367 Tryz.ntmps367 ?_;refine zcv (aa) ?_;rintro r w1 ⟨rfl,V⟩;have Z:Rw w0 w1 (.slice A l.length c) 5 1 l.length (byteCells l) (BldB b (pp b) (.slice A l.length c)::L):=by
  rcases V with⟨rfl,rfl⟩|V
  ·exact hR
  ·exact hR.setCell (i:=0) rfl V
 refine LoadV.own (Z.mem.get mh) rfl (zw ?_);refine AppV.rwS (i:=_) Tryz.underlying32 Tryz.underlying9 (Bt Jk).symm Jk Jk Jk Z (q0g hL) hs λv' w2 U=>?_;obtain⟨A',c',rfl⟩:=U.slice;refine StoreV.own (U.mem.get mh) (CK 1) rfl λw3 V=>?_;have ad:=U.setCell (i:=0) rfl V;(conv=>whnf);refine⟨rfl,⟨⟨pp b,.slice A' (l.length+s.size) c',.inr rfl,?_⟩⟩⟩;have e:(l++s.data.toList).length=l.length+s.size:=by simp
 rw[e,qb4];exact ad
theorem qi4(b:Nat)(l:LB)(w0 w:DU)(L:Ed)(h:Bld w0 w b l L):
  Gv Eg 369 [pp b] w λr w'=>r=.string ⟨l.toArray⟩/\Ext w0 w':=by
 obtain⟨p,v,hp,U⟩:=h;have Z:=U.mem.own _ mh;have V:Lib.BuilderAt 472 5 w0.heap.size b p (Lib.byteCells l) w:=by
  refine⟨Z.1,v,Z.2,?_,U.apart _ mh⟩;have:=U.own;rw[<-qi5 l]at this;exact this
 refine qg0 Jk ((Tryz.Builder_String_any w0.heap.size b l w ?_ U.mem.ext.size).mono ?_)
 ·rcases hp with rfl|rfl
  ·exact .inl V
  ·exact .inr V
 ·rintro e w' ⟨rfl,hB⟩;exact⟨_,rfl,rfl,Below.trans U.mem.ext hB⟩
theorem qn8(l:LB)(h:(decN l).2≠0):
  (∃a t,l=a::t/\decN l=(a.toNat,1)/\a.toNat<128)\/
  (∃a b t,l=a::b::t/\decN l=(a.toNat%32*64+b.toNat%64,2)/\192<=a.toNat/\a.toNat<224/\b.toNat/64=2/\128<=a.toNat%32*64+b.toNat%64)\/
  (∃a b c t,l=a::b::c::t/\decN l=((a.toNat%16*64+b.toNat%64)*64+c.toNat%64,3)/\224<=a.toNat/\a.toNat<240/\b.toNat/64=2/\c.toNat/64=2/\
   2048<=(a.toNat%16*64+b.toNat%64)*64+c.toNat%64/\qax (((a.toNat%16*64+b.toNat%64)*64+c.toNat%64:Nat):Int)=true)\/
  (∃a b c d t,l=a::b::c::d::t/\decN l=(((a.toNat%8*64+b.toNat%64)*64+c.toNat%64)*64+d.toNat%64,4)/\240<=a.toNat/\a.toNat<248/\b.toNat/64=2/\c.toNat/64=2/\d.toNat/64=2/\
   65536<=((a.toNat%8*64+b.toNat%64)*64+c.toNat%64)*64+d.toNat%64/\qax ((((a.toNat%8*64+b.toNat%64)*64+c.toNat%64)*64+d.toNat%64:Nat):Int)=true):=by
 match l with
 | []=>exact absurd rfl h
 | a::t=>
  have ha:=a.toNat_lt;generalize U:decN (a::t)=d at h|-;unfold decN at U
  by_cases h1:a.toNat<128
  ·have e:qby a.toNat=(1,a.toNat):=by rw[qby,Ad h1]
   simp only[e,BU,BH,CP,if_true,accR,Co,qfh]at U;rw[Aa Js]at U
   left
   refine⟨a,t,rfl,?_,h1⟩;have hs:qax (a.toNat:Int)=true:=by simp[qax];omega
   rw[hs]at U
   simpa using U.symm
  by_cases h2:a.toNat<192
  ·have e:qby a.toNat=(0,0):=by rw[qby,Aa h1,Ad h2]
   simp[e]at U;rw[<-U]at h;exact absurd rfl h
  by_cases h3:a.toNat<224
  ·have e:qby a.toNat=(2,a.toNat%32):=by rw[qby,Aa h1,Aa h2,Ad h3]
   match t with
   | []=>simp[e]at U;rw[<-U]at h;exact absurd rfl h
   | b::t=>
    simp only[e,BX,BH,CS,CP,CT,accR,Cj,Co,AC,Nat.reduceSub]at U;rw[Aa Oo]at U;cases V:cont b<;>simp only[V]at U
    ·simp at U;rw[<-U]at h;exact absurd rfl h
    ·rw[Ad True.intro]at U
     split at U
     ·rw[<-U]at h;exact absurd rfl h
     ·rename_i Z
      right;left
      simp[cont]at V;refine⟨a,b,t,rfl,U.symm,by omega,h3,V,?_⟩;have aa:qfh 2=128:=rfl;rw[aa]at Z;omega
  by_cases h4:a.toNat<240
  ·have e:qby a.toNat=(3,a.toNat%16):=by rw[qby,Aa h1,Aa h2,Aa h3,Ad h4]
   match t with
   | []=>simp[e]at U;rw[<-U]at h;exact absurd rfl h
   | [b]=>simp[e]at U;rw[<-U]at h;exact absurd rfl h
   | b::c::t=>
    simp only[e,BX,BH,CS,CP,CT,accR,Cj,Co,AC,Nat.reduceSub]at U;rw[Aa Oo]at U;cases V:cont b&&cont c<;>simp only[V]at U
    ·simp at U;rw[<-U]at h;exact absurd rfl h
    ·rw[Ad True.intro]at U
     split at U
     ·rw[<-U]at h;exact absurd rfl h
     ·rename_i Z
      right;right;left
      simp[cont]at V;simp only[not_or,Bool.not_eq_false]at Z;refine⟨a,b,c,t,rfl,U.symm,by omega,h4,V.1,V.2,?_,Z.2⟩;have:=Z.1;have aa:qfh 3=2048:=rfl;omega
  by_cases h5:a.toNat<248
  ·have e:qby a.toNat=(4,a.toNat%8):=by rw[qby,Aa h1,Aa h2,Aa h3,Aa h4,Ad h5]
   match t with
   | []=>simp[e]at U;rw[<-U]at h;exact absurd rfl h
   | [b]=>simp[e]at U;rw[<-U]at h;exact absurd rfl h
   | [b,c]=>simp[e]at U;rw[<-U]at h;exact absurd rfl h
   | b::c::d::t=>
    simp only[e,BX,BH,CS,CP,CT,accR,Cj,Co,AC,Nat.reduceSub]at U;rw[Aa Oo]at U;cases V:cont b&&(cont c&&cont d)<;>simp only[V]at U
    ·simp at U;rw[<-U]at h;exact absurd rfl h
    ·rw[Ad True.intro]at U
     split at U
     ·rw[<-U]at h;exact absurd rfl h
     ·rename_i Z
      right;right;right
      simp[cont]at V;simp only[not_or,Bool.not_eq_false]at Z;refine⟨a,b,c,d,t,rfl,U.symm,by omega,h5,V.1,V.2.1,V.2.2,?_,Z.2⟩;have:=Z.1;have aa:qfh 4=65536:=rfl;omega
  ·have e:qby a.toNat=(0,0):=by rw[qby,Aa h1,Aa h2,Aa h3,Aa h4,Aa h5]
   simp[e]at U;rw[<-U]at h;exact absurd rfl h
theorem qri(n:Nat)(a:DY)(h:n=a.toNat):UInt8.ofNat n=a:=by subst h;simp
theorem q8x(h:(decN l).2≠0):qax (decN l).1=true/\encL (decN l).1=l.take (decN l).2/\(encL (decN l).1).length=(decN l).2:=by
 rcases qn8 l h with⟨a,t,rfl,e,U⟩|⟨a,b,t,rfl,e,U,V,Z,h4⟩|⟨a,b,c,t,rfl,e,U,V,Z,h4,h5,h6⟩|⟨a,b,c,d,t,rfl,e,U,V,Z,h4,h5,h6,h7⟩
 ·rw[e];simp only;have hs:qax (a.toNat:Int)=true:=by simp[qax];omega
  refine⟨hs,?_⟩;unfold encL;rw[Ad U];simp
 ·rw[e];simp only;have ha:=a.toNat_lt;have hb:=b.toNat_lt;refine⟨by simp[qax];omega,?_⟩;unfold encL;rw[Aa Oo,Ad Oo];rw[qri _ a Oo,qri _ b Oo];simp
 ·rw[e];simp only;have ha:=a.toNat_lt;have hb:=b.toNat_lt;have hc:=c.toNat_lt;refine⟨h6,?_⟩;unfold encL;rw[Aa Oo,Aa Oo,Ad Oo];rw[qri _ a Oo,qri _ b Oo,qri _ c Oo];simp
 ·rw[e];simp only;have ha:=a.toNat_lt;have hb:=b.toNat_lt;have hc:=c.toNat_lt;have hd:=d.toNat_lt;refine⟨h7,?_⟩;unfold encL;rw[Aa Oo,Aa Oo,Aa Oo];rw[qri _ a Oo,qri _ b Oo,qri _ c Oo,qri _ d Oo];simp
namespace V
theorem NewV.rw{v:DZ}{U n:Nat}{o:Obj}{K:Nat->Ec}(h:Rw w0 w v e U n xs L)(V:∀b w',Rw w0 w' v e U n xs ((b,o)::L)->K b w'):NewV w o K:=
 ⟨λb w' Z hw=>V b w' (h.newBlk Z hw)⟩
theorem Bld.ext(h:Bld w0 w b l L):Ext w0 w:=by
 obtain⟨⟨p,v,V,U⟩⟩:=h;exact U.mem.ext
end V
theorem BytesS.all{n:Nat}{K:DZ->Prop}(h:CellsAt w b 0 (byteCells l))(U:l.length=n)(V:K (.string ⟨l.toArray⟩)):BytesS w (some ⟨b,0,none⟩) n K:=
 ⟨l,U,λ_=>⟨b,0,rfl,h⟩,V⟩
def alnB(pure:Bool)(c:DY):Bool:=letN c.toNat||(!pure&&digN c.toNat)
def qaa(s:DV)(lo hi:Nat)(pure:Bool):Bool:=s.data.toList.all (alnB pure)&&decide (lo<=s.size/\s.size<=hi)
theorem qd6(s:DV)(lo hi:Nat)(pure:Bool)(_:s.size<=140737488355328)(w:DU):
  Gv Eg 291 [.string s,ii lo,ii hi,.bool pure] w λv w'=>v=.bool (qaa s lo hi pure)/\Ext w w':=by
 refine ze Tryz.func291 Tryz.ntmps291 ?_;refine znm (Mem.nil w) λb w1 hm=>zw ?_;refine qk (λpos:Nat=>[(0,.string s),(1,ii lo),(2,ii hi),(3,.bool pure),(12,pp b)])
  (λpos w2=>pos<=s.size/\Mem w w2 [(b,.stringIter s pos)]/\s.data.toList.all (alnB pure)=(s.data.toList.drop pos).all (alnB pure)) (λpos=>s.size-pos) 0 fq (by grind) ?_
 rintro pos w2 ae ⟨hp,hm,ha⟩;(conv=>whnf);refine NextS.mem hm (i:=0) rfl ?_ ?_
 ·intro aa w3 U;have V:alnB pure (gb s pos)=false->qaa s lo hi pure=false:=(by grind [qaa,qa7])
  have ad:alnB pure (gb s pos)=true->s.data.toList.all (alnB pure)=(s.data.toList.drop (pos+1)).all (alnB pure):=(by grind [qa7])
  by_cases hb:(gb s pos).toNat<128
  ·have hd:=qi8 s pos hb;rw[hd]at U|-;simp only at U|-;refine zu ?_;refine zcv (qji _ w3) ?_;rintro v w4 ⟨rfl,rfl⟩;cases hl:letN (gb s pos).toNat
   ·cases pure
    ·refine zu ?_;refine zcv (qc2 _ w4) ?_;rintro v w5 ⟨rfl,rfl⟩;cases hg:digN (gb s pos).toNat
     ·have Z:alnB false (gb s pos)=false:=by grind [alnB]
      refine zu ?_;exact⟨by rw[V Z],U.ext⟩
     ·have Z:alnB false (gb s pos)=true:=by grind [alnB]
      refine zu ?_;exact⟨pos+1,fq,(by grind),by omega⟩
    ·have Z:alnB true (gb s pos)=false:=by rw[alnB,hl];rfl
     refine zu ?_;exact⟨by rw[V Z],U.ext⟩
   ·have Z:alnB pure (gb s pos)=true:=by rw[alnB,hl];rfl
    refine zu ?_;exact⟨pos+1,fq,(by grind),by omega⟩
  ·have hd:=qlp s pos aa Oo;obtain⟨d1,d2,d3,d4,d5⟩:=hd;have hl:letN (Utf8.decode s pos).1=false:=by simp[letN];omega
   have hg:digN (Utf8.decode s pos).1=false:=by simp[digN];omega
   have Z:alnB pure (gb s pos)=false:=by
    simp[alnB,letN,digN];omega
   refine zu ?_;refine zcv (qji _ w3) ?_;rintro v w4 ⟨rfl,rfl⟩;rw[hl];cases pure
   ·refine zu ?_;refine zcv (qc2 _ w4) ?_;rintro v w5 ⟨rfl,rfl⟩;rw[hg];refine zu ?_;exact⟨by rw[V Z],U.ext⟩
   ·refine zu ?_;exact⟨by rw[V Z],U.ext⟩
 ·intro af;rw[AN Ys]at ha;have hM:qaa s lo hi pure=decide (lo<=s.size/\s.size<=hi):=by rw[qaa,ha];rfl
  (conv=>whnf);refine zt ?_;refine zC (λ_=>zu ?_) (λ_=>zu ?_)
  ·exact⟨(by grind),hm.ext⟩
  ·exact⟨(by grind),hm.ext⟩
def qf6(s:DV):Bool:=decide (s=⟨#[120]⟩\/s=⟨#[88]⟩)
theorem qakb{a b:DV}(h:a≠b):seq a b=false:=(by grind [qaf])
theorem qhi(s:DV)(w:DU):Gv Eg 219 [.string s] w λv w'=>v=.bool (qf6 s)/\w'=w:=by
 refine ze Tryz.func219 Tryz.ntmps219 ?_
 by_cases h:s=⟨#[120]⟩
 ·refine Tst.yes (qaf.2 h) (zu ?_);exact⟨Ae Value.bool (AE (.inl h)).symm,rfl⟩
 ·refine Tst.no (qakb h) (zu ?_)
  grind [qaf,qf6]
theorem qzq(c:DY):IntKind.i32.wrap (c.toNat:Int)=(c.toNat:Int):=by
 have:=c.toNat_lt
 grind [IntKind.wrap,IntKind.bits]
def varB(s:DV):Bool:=qaa s 5 8 false||(qaa s 4 4 false&&digN (gb s 0).toNat)
def regB(s:DV):Bool:=qaa s 2 2 true||(decide (s.size=3)&&digN (gb s 0).toNat&&digN (gb s 1).toNat&&digN (gb s 2).toNat)
theorem qwo(s:DV)(Z:s.size<=140737488355328)(w:DU):Gv Eg 295 [.string s] w λv w'=>v=.bool (varB s)/\Ext w w':=by
 have h1:=λw=>qd6 s 5 8 false Z w
 have h2:=λw=>qd6 s 4 4 false Z w
 refine ze Tryz.func295 Tryz.ntmps295 ?_;refine zcv (h1 w) ?_;rintro v w1 ⟨rfl,U⟩;cases m1:qaa s 5 8 false
 ·refine zu ?_;refine zcv (h2 w1) ?_;rintro v w2 ⟨rfl,V⟩;cases m2:qaa s 4 4 false
  ·refine zu ?_;exact⟨by grind [varB],U.trans V⟩
  ·have aa:s.size=4:=by
    grind [qaa]
   refine zu ?_;refine⟨0,rfl,by omega,?_⟩;refine zu ?_;refine⟨((gb s 0).toNat:Int),qzq _,?_⟩;refine zu ?_;refine zcv (qc2 _ w2) ?_;rintro v w3 ⟨rfl,rfl⟩;refine zu ?_;exact⟨by grind [varB],U.trans V⟩
 ·refine zu ?_
  grind [varB]
theorem q03(s:DV)(U:s.size<=140737488355328)(w:DU):Gv Eg 294 [.string s] w λv w'=>v=.bool (regB s)/\Ext w w':=by
 have V:=λw=>qd6 s 2 2 true U w
 refine ze Tryz.func294 Tryz.ntmps294 ?_;refine zcv (V w) ?_;rintro v Z ⟨rfl,aa⟩;cases m1:qaa s 2 2 true
 ·(conv=>whnf);refine zt ?_;refine zC (λ_=>zu ?_) (λ_=>zu ?_)
  ·refine⟨0,rfl,by omega,?_⟩;refine zu ?_;refine⟨((gb s 0).toNat:Int),qzq _,?_⟩;refine zu ?_;refine zcv (qc2 _ Z) ?_;rintro v w2 ⟨rfl,rfl⟩;have h3:decide (s.size=3)=true:=(by grind)
   cases d0:digN (gb s 0).toNat
   ·refine zu ?_
    grind [regB]
   ·refine zu ?_;refine⟨1,rfl,by omega,?_⟩;refine zu ?_;refine⟨((gb s 1).toNat:Int),qzq _,?_⟩;refine zu ?_;refine zcv (qc2 _ w2) ?_;rintro v w3 ⟨rfl,rfl⟩;cases d1:digN (gb s 1).toNat
    ·refine zu ?_
     grind [regB]
    ·refine zu ?_;refine⟨2,rfl,by omega,?_⟩;refine zu ?_;refine⟨((gb s 2).toNat:Int),qzq _,?_⟩;refine zu ?_;refine zcv (qc2 _ w3) ?_;rintro v w4 ⟨rfl,rfl⟩;refine zu ?_
     grind [regB]
  grind [regB]
 ·refine zu ?_
  grind [regB]
def lowB(c:DY):DY:=if 65<=c.toNat/\c.toNat<=90 then c+32 else c
def lowS(s:DV):DV:=⟨(s.data.toList.map lowB).toArray⟩
def qdu(l:LB)(i:Nat)(z:Ee):Eh:=(byteCells ((l.take i).map lowB++l.drop i)++z).toArray
theorem qh5{z:Ee}(h:i<l.length):(qdu l i z)[i]?=some (.int .u8 l[i].toNat):=by
 unfold qdu byteCells;rw[An,Ba Ys,Ao,Be Ys];simp[BG (Nat.le_of_lt h),h]
theorem qog(l:LB)(i:Nat)(z:Ee)(h:i<=l.length):(qdu l i z).size=l.length+z.length:=by
 simp[qdu,byteCells];omega
theorem qsr{z:Ee}(h:i<l.length):(qdu l i z).setIfInBounds i (.int .u8 (lowB l[i]).toNat)=qdu l (i+1) z:=by
 have e:byteCells ((l.take (i+1)).map lowB++l.drop (i+1))++z=byteCells ((l.take i).map lowB)++(.int .u8 (lowB l[i]).toNat::(byteCells (l.drop (i+1))++z)):=by
  rw[AX h];simp only[byteCells,AJ,AK,BN,Aw,Bi,Bn]
 have U:byteCells ((l.take i).map lowB++l.drop i)++z=byteCells ((l.take i).map lowB)++(.int .u8 l[i].toNat::(byteCells (l.drop (i+1))++z)):=by
  rw[Br h];simp only[byteCells,AJ,AK,Aw,Bi]
 unfold qdu;rw[e,U,List.setIfInBounds_toArray]
 congr 1
 have V:(byteCells ((l.take i).map lowB)).length=i:=by simp[byteCells];omega
 rw[List.set_append_right _ _ Oo,V,BU];rfl
theorem qjk{z:Ee}(h:i<l.length)(U:lowB l[i]=l[i]):qdu l i z=qdu l (i+1) z:=by
 unfold qdu;rw[AX h,Br h];simp only[byteCells,AJ,AK,BN,Aw,Bi,Bn,U]
theorem qqd(c:DY)(h:65<=c.toNat/\c.toNat<=90):((lowB c).toNat:Int)=(c.toNat:Int)+32:=by
 rw[lowB,Ad h,UInt8.toNat_add];have:(32:DY).toNat=32:=rfl;omega
theorem qqe(c:DY)(h:¬(65<=c.toNat/\c.toNat<=90)):lowB c=c:=by rw[lowB,Aa h]
theorem V.StoreV.memF{t:DX}{v:DZ}{K:Ec}(h:Mem w0 w L)(hi:L[i]?=some (b,.cells cs t (m,m+1)))(V:off<cs.size)(Z:off<m)(h1:qco v=true)(hk:∀w',Mem w0 w' (L.set i (b,.cells (cs.setIfInBounds off v) t (m,m+1)))->K w'):StoreV w b off v K:=by
 have U:=h.get (zmg hi);refine⟨⟨cs[off],?_⟩,?_,h1,hk _ (h.setCell hi rfl)⟩
 ·rw[qa U];exact Cl V
 ·simp[World.frozen?,U];omega
theorem qsq(w:DU){s:DV}{z:Ee}{t:DX}{K:DZ->Prop}(V:Mem w0 w ((b,.cells (qdu s.data.toList s.size z) t (m,m+1))::L))(Z:K (.string (lowS s))):BytesS w (some ⟨b,0,none⟩) s.size K:=by
 refine⟨s.data.toList.map lowB,by simp,λ_=>⟨b,0,rfl,λk v U=>?_⟩,Z⟩;rw[qa (V.get mh),As];have e:(qdu s.data.toList s.size z)=(byteCells (s.data.toList.map lowB)++z).toArray:=by
  unfold qdu;rw[Am Js,AN Js,B4]
 rw[e,An,Ba (Af.1 U).1];exact U
theorem qfu(s:DV)(hs:s.size<=140737488355328)(w:DU):Gv Eg 142 [.string s] w λv w'=>v=.string (lowS s)/\Ext w w':=by
 have ag:s.data.toList.length=s.size:=by simp
 refine ze Tryz.func142 Tryz.ntmps142 ?_;refine⟨λZ cs b w1 af aa hb ae=>?_⟩;obtain⟨z,hz⟩:∃z,z=List.replicate (Z-s.size) (Value.int .u8 0):=⟨_,rfl⟩
 obtain⟨m,ad⟩:∃m,m=cs.size:=⟨_,rfl⟩
 have ah:s.size<=m:=by rw[ad,aa];simp[byteCells]
 have U:Mem w w1 [(b,.cells (qdu s.data.toList 0 z) 5 (m,m+1))]:=by
  rw[ad];have e:qdu s.data.toList 0 z=cs:=by rw[aa,hz];simp[qdu]
  rw[e];exact(Mem.nil w).drew.new hb ae
 clear aa hb ae ad hz;(conv=>whnf);refine qk (λi:Nat=>[(3,.slice (some ⟨b,0,none⟩) s.size Z),(8,.slice (some ⟨b,0,none⟩) s.size Z),(9,ii s.size),(10,ii i)]) (λi w2=>i<=s.size/\Mem w w2 [(b,.cells (qdu s.data.toList i z) 5 (m,m+1))]) (λi=>s.size-i) 0 fq ⟨by omega,U⟩ ?_;rintro i w2 ai ⟨h1,U⟩;(conv=>whnf);refine zC (λ_=>zw ?_) (λ_=>zw ?_)
 ·have hi:i<s.data.toList.length:=by omega
  refine ElemV.own1 i rfl Oo (zw ?_);refine LoadV.mem U (i:=0) rfl (qh5 hi) (zw ?_)
  (repeat'(first|refine zp ?_|refine zC (λ_=>zw ?_) (λ_=>zw ?_)))
  ·refine ElemV.own1 i rfl Oo (zw ?_);refine StoreV.memF (v:=.int .u8 ((s.data.toList[i].toNat:Int)+32)) U (i:=0) rfl (by rw[qog _ _ _ Oo];omega) Oo rfl ?_;intro w3 V;replace V:Mem w w3 [(b,.cells ((qdu s.data.toList i z).setIfInBounds i (.int .u8 ((s.data.toList[i].toNat:Int)+32))) 5 (m,m+1))]:=V;rw[<-qqd _ ⟨by omega,by omega⟩,qsr hi]at V;refine zu ?_;exact⟨i+1,fq,⟨by omega,V⟩,by omega⟩
  all_goals
   rw[qjk hi (qqe _ Oo)]at U;exact⟨i+1,fq,⟨by omega,U⟩,by omega⟩
 ·refine qsq w2 (by rw[show i=s.size by omega]at U;exact U) (zw ?_);exact⟨rfl,U.ext⟩
theorem qbf(s:DV)(hs:s.size<=140737488355328)(w:DU):Gv Eg 352 [.string s] w λv w'=>v=.string (lowS s)/\Ext w w':=by
 have ag:s.data.toList.length=s.size:=by simp
 refine ze Tryz.func352 Tryz.ntmps352 ?_;refine⟨λad cs b w1 af Z hb ae=>?_⟩;obtain⟨z,hz⟩:∃z,z=List.replicate (ad-s.size) (Value.int .u8 0):=⟨_,rfl⟩
 obtain⟨m,aa⟩:∃m,m=cs.size:=⟨_,rfl⟩
 have ah:s.size<=m:=by rw[aa,Z];simp[byteCells]
 have U:Mem w w1 [(b,.cells (qdu s.data.toList 0 z) 5 (m,m+1))]:=by
  rw[aa];have e:qdu s.data.toList 0 z=cs:=by rw[Z,hz];simp[qdu]
  rw[e];exact(Mem.nil w).drew.new hb ae
 clear Z hb ae aa hz;(conv=>whnf);refine qk (λi:Nat=>[(3,.slice (some ⟨b,0,none⟩) s.size ad),(4,ii i)]) (λi w2=>i<=s.size/\Mem w w2 [(b,.cells (qdu s.data.toList i z) 5 (m,m+1))]) (λi=>s.size-i) 0 fq ⟨by omega,U⟩ ?_;rintro i w2 ai ⟨h1,U⟩;(conv=>whnf);refine zC (λ_=>zw ?_) (λ_=>zw ?_)
 ·have hi:i<s.data.toList.length:=by omega
  refine ElemV.own1 i rfl Oo (zw ?_);refine LoadV.mem U (i:=0) rfl (qh5 hi) (zw ?_);refine zC (λ_=>zu ?_) (λ_=>zu ?_)
  ·refine ElemV.own1 i rfl Oo (zu ?_);refine LoadV.mem U (i:=0) rfl (qh5 hi) (zw ?_);refine zt ?_;refine zC (λ_=>zu ?_) (λ_=>zu ?_)
   ·refine ElemV.own1 i rfl Oo (zw ?_);refine LoadV.mem U (i:=0) rfl (qh5 hi) (zu ?_);refine ElemV.own1 i rfl Oo (zw ?_);refine StoreV.memF (v:=.int .u8 ((s.data.toList[i].toNat:Int)+32)) U (i:=0) rfl (by rw[qog _ _ _ Oo];omega) Oo rfl ?_;intro w3 V;replace V:Mem w w3 [(b,.cells ((qdu s.data.toList i z).setIfInBounds i (.int .u8 ((s.data.toList[i].toNat:Int)+32))) 5 (m,m+1))]:=V;rw[<-qqd _ ⟨by omega,by omega⟩,qsr hi]at V;refine zu ?_;exact⟨i+1,fq,⟨by omega,V⟩,by omega⟩
   all_goals
    rw[qjk hi (qqe _ Oo)]at U;exact⟨i+1,fq,⟨by omega,U⟩,by omega⟩
  all_goals
   rw[qjk hi (qqe _ Oo)]at U;exact⟨i+1,fq,⟨by omega,U⟩,by omega⟩
 ·refine qsq w2 (by rw[show i=s.size by omega]at U;exact U) (zw ?_);exact⟨rfl,U.ext⟩
def bs(l:LB):DV:=⟨l.toArray⟩
namespace V
theorem Rw.tail{v:DZ}{U n:Nat}{x:Nat×Obj}(h:Rw w0 w v e U n xs (x::L)):Rw w0 w v e U n xs L:=
 ⟨h.mem.sub (AS ..),h.own,λy V=>h.apart y (zmc V)⟩
end V
theorem V.Rw.cells{n:Nat}(h:Rw w0 w (.slice A n c) e 1 n xs L)(hn:0<n):
  ∃g,A=some ⟨g,0,none⟩/\w0.heap.size<=g/\g<w.heap.size/\n<=c/\CellsAt w g 0 xs:=by
 rcases h.own.2 with⟨e1,e2⟩|⟨g,ae,af,e1,V,Z,aa,_,ag,ad⟩
 ·omega
 ·cases e1;refine⟨g,rfl,V,?_,aa,λk v U=>?_⟩
  ·rcases Bj g w.heap.size with h' | h'
   ·exact h'
   ·rw[CQ h']at Z;cases Z
  ·rw[qa Z,As];rw[<-ad,BE]at U
   split at U
   ·simpa using U
   ·cases U
theorem bsz(a b:DV):(a++b).size=a.size+b.size:=ByteArray.size_append
theorem qqw(r:Int)(w:DU):
  Gv Eg 390 [ii r] w λv w'=>v=.bool (qax r)/\w'=w:=by
 refine ze Tryz.func390 Tryz.ntmps390 ?_
 (repeat'(first|((with_reducible refine zT ?_);(conv=>whnf))|((with_reducible refine zU ?_);(conv=>whnf))|((with_reducible refine zC (λ_=>?_) (λ_=>?_))<;>first|(exfalso;omega)|(conv=>whnf))))
 all_goals(refine⟨Ae Value.bool ((qm0 r _).2 ?_),rfl⟩;grind)
theorem qaeu{U:Type}{a b:U}{l m:List U}(h:a=b)(k:l=m):a::l=b::m:=by subst h k;rfl
theorem qte(r:Nat)(h:r<=1114111)(w:DU):
  Gv Eg 391 [ii r] w λv w'=>∃b,v=.slice (some ⟨b,0,none⟩) (encL r).length (encL r).length/\CellsAt w' b 0 (byteCells (encL r))/\Ext w w':=by
 have V:∀(l:LB) (vs:Ee) (n b:Nat) (Z:DU),Mem w Z [(b,.cells vs.toArray 5)]->encL r=l->vs=byteCells l->n=l.length->
   ∃b',Value.slice (some ⟨b,0,none⟩) n n=.slice (some ⟨b',0,none⟩) (encL r).length (encL r).length/\CellsAt Z b' 0 (byteCells (encL r))/\Ext w Z:=by
  rintro l vs n b Z U rfl rfl rfl;refine⟨b,rfl,λk v hv=>?_,U.ext⟩;rw[qa (U.get mh),As]
  simpa using hv
 have cv:∀(x:Int) (n:Nat),n<256->x=n->Value.int .u8 x=.int .u8 ((UInt8.ofNat n).toNat:Int):=(by grind [qakl])
 refine ze Tryz.func391 Tryz.ntmps391 ?_
 (repeat'(first|(refine zA ?_;(conv=>whnf))|(refine zB ?_;(conv=>whnf))|((with_reducible refine zC (λ_=>?_) (λ_=>?_))<;>first|(exfalso;omega)|(conv=>whnf))|(refine Wit.conv ⟨by omega,by omega⟩ ?_;(conv=>whnf))))
 ·refine znm (Mem.nil w) λb Z U=>zw ?_;refine V [UInt8.ofNat r] _ _ _ _ U (by grind [encL]) ?_ rfl
  grind [byteCells]
 ·refine znm (Mem.nil w) λb Z U=>zw ?_;refine V [UInt8.ofNat (0xC0+r/64),UInt8.ofNat (0x80+r%64)] _ _ _ _ U (by grind [encL]) ?_ rfl
  grind [byteCells,qaeu]
 ·refine znm (Mem.nil w) λb Z U=>zw ?_;refine V [UInt8.ofNat (0xE0+r/4096),UInt8.ofNat (0x80+r/64%64),UInt8.ofNat (0x80+r%64)] _ _ _ _ U (by grind [encL]) ?_ rfl;simp only[byteCells,AK,BN]
  grind [qaeu]
 ·refine znm (Mem.nil w) λb Z U=>zw ?_;refine V [UInt8.ofNat (0xF0+r/262144),UInt8.ofNat (0x80+r/4096%64),UInt8.ofNat (0x80+r/64%64),UInt8.ofNat (0x80+r%64)] _ _ _ _ U (by grind [encL]) ?_ rfl;simp only[byteCells,AK,BN]
  grind [qaeu]
def gacc(r:Int)(l:LB):Int:=l.foldl (λr c=>r*64+c.toNat-128) r
def qno(n:Nat):Int:=if n=2 then 192 else if n=3 then 224 else if n=4 then 240 else 0
def qei(l:LB):Int:=gacc (((l.headD 0).toNat:Int)-qno l.length) l.tail
def qfg(l:LB):Int:=if qax (qei l)=true/\encL (qei l).toNat=l then qei l else -1
theorem q3l(r:Int)(l:LB)(k:Nat)(h:k<l.length):gacc r (l.take (k+1))=gacc r (l.take k)*64+l[k].toNat-128:=by
 grind [List.take_succ_eq_append_getElem,gacc]
theorem qafb(r:Int)(l:LB)(h:-256<=r/\r<=256):-256*128 ^ l.length<=gacc r l/\gacc r l<=256*128 ^ l.length:=by
 have U:∀(l:LB) (r M:Int),256<=M->-M<=r/\r<=M->-(M*128 ^ l.length)<=gacc r l/\gacc r l<=M*128 ^ l.length:=by
  intro l
  induction l with
  | nil=>grind [gacc]
  | cons c l V=>
   intro r M Z h;have hc:=c.toNat_lt;have:=V (r*64+c.toNat-128) (M*128) Oo Oo;rw[AC,Int.pow_succ,Int.mul_comm (128 ^ l.length) 128,<-Int.mul_assoc];exact this
 simp_all[Int.neg_mul]
theorem q3t(l:LB)(b c:Nat)(w:DU)(hb:CellsAt w b 0 (byteCells l))(h1:1<=l.length)(h4:l.length<=4):
  Gv Eg 380 [.slice (some ⟨b,0,none⟩) l.length c] w λv w'=>v=ii (qfg l)/\Ext w w':=by
 have Z:∀k (hk:k<l.length),(byteCells l)[k]?=some (.int .u8 l[k].toNat):=(by grind [byteCells])
 have aa:∀k (hk:k<l.length),l[k].toNat<256:=λk hk=>l[k].toNat_lt
 refine ze Tryz.func380 Tryz.ntmps380 ?_;refine znm (Mem.nil w) λtb w1 hm=>zw ?_;refine StoreA.mem hm (i:=0) rfl (Ai 5) (λv hv=>by simp at hv;rcases hv with rfl|rfl|rfl|rfl<;>rfl) ?_;intro w2 hm;replace hm:Mem w w2 [(tb,.cells #[ii 0,ii 0,ii 192,ii 224,ii 240] 485)]:=hm;(conv=>whnf);have hg:(#[ii 0,ii 0,ii 192,ii 224,ii 240]:Eh)[0+l.length*1]?=some (ii (qno l.length)):=by
  obtain h|h|h|h:l.length=1\/l.length=2\/l.length=3\/l.length=4:=by omega
  all_goals(rw[h];rfl)
 have ak:0<=qno l.length/\qno l.length<=240:=by grind [qno]
 have al:=aa 0 Oo;refine zy ?_;refine zW ?_;(conv=>whnf);refine ElemV.own1 0 rfl Oo (zw ?_);refine zW ?_;(conv=>whnf);refine LoadV.cells (hb.ext hm.drew.ext) 0 (Z 0 Oo) (zw ?_);refine zW ?_;(conv=>whnf);refine Wit.conv ⟨by omega,by omega⟩ (zw ?_);(iterate 3 (refine zW ?_;(conv=>whnf)));refine zX ?_;(conv=>whnf);refine zW ?_;(conv=>whnf);refine LoadV.mem hm.drew (i:=0) rfl hg (zw ?_);refine zW ?_;(conv=>whnf);refine zA ?_;(conv=>whnf);(iterate 2 (refine zW ?_;(conv=>whnf)));have am:l.tail.length=l.length-1:=by simp
 have an:l.headD 0=l[0]:=by cases l with|nil=>simp at h1|cons a t=>rfl
 refine qk (λk:Nat=>[(0,.slice (some ⟨b,0,none⟩) l.length c),(4,ii (gacc ((l[0].toNat:Int)-qno l.length) (l.tail.take (k-1)))),(5,ii k)])
  (λk w3=>1<=k/\k<=l.length/\w3=w2.drew) (λk=>l.length-k) 1 fq (by grind) ?_
 rintro k w3 ao ⟨aq,ar,rfl⟩;have au:=qafb ((l[0].toNat:Int)-qno l.length) (l.tail.take (k-1)) Oo;have ai:(128:Int) ^ (l.tail.take (k-1)).length<=2097152:=by
  have:(l.tail.take (k-1)).length<=3:=by grind
  obtain h|h|h|h:(l.tail.take (k-1)).length=0\/(l.tail.take (k-1)).length=1\/(l.tail.take (k-1)).length=2\/(l.tail.take (k-1)).length=3:=by omega
  all_goals grind
 (conv=>whnf)
 (repeat'(first|(refine zA ?_;(conv=>whnf))|((with_reducible refine zC (λ_=>?_) (λ_=>?_))<;>first|(exfalso;omega)|(conv=>whnf))))
 ·have af:k<l.length:=by omega
  have av:=aa k af;refine ElemV.own1 k rfl Oo (zw ?_);refine LoadV.of (by have:=hb.ext hm.drew.ext k _ (Z k af);rwa[As]at this) (zw ?_);refine Wit.conv ⟨by omega,by omega⟩ (zw ?_);(iterate 3 (refine zA ?_;(conv=>whnf)));have aw:k-1<l.tail.length:=by omega
  have ad:gacc ((l[0].toNat:Int)-qno l.length) (l.tail.take k)=gacc ((l[0].toNat:Int)-qno l.length) (l.tail.take (k-1))*64+l[k].toNat-128:=by
   grind [q3l]
  refine⟨k+1,⟨rfl,?_,rfl,trivial⟩,(by grind),by omega⟩;rw[show k+1-1=k by omega,ad];rfl
 ·obtain rfl:k=l.length:=by omega
  have hG:gacc ((l[0].toNat:Int)-qno l.length) (l.tail.take (l.length-1))=qei l:=by
   grind [qei]
  rw[hG];refine zcv (qqw (qei l) _) ?_;rintro v w4 ⟨rfl,rfl⟩;(conv=>whnf);have ag:CellsAt w2.drew.drew b 0 (byteCells l):=hb.ext hm.drew.drew.ext;have ae:Ext w w2.drew.drew:=hm.drew.drew.ext;cases ax:qax (qei l)
  ·refine DrawV.free rfl Jk (zw ?_);refine zD ?_;(conv=>whnf);refine zD ?_;(conv=>whnf);refine zD ?_;(conv=>whnf);refine zf ?_ (by intro V U;(conv=>whnf);(refine zP ?_;refine zU ?_;(conv=>whnf));exact xq);refine zf ?_ (by intro V U;(conv=>whnf);(refine zP ?_;refine zU ?_;(conv=>whnf));exact xq);refine zf ?_ (by intro V U;(conv=>whnf);(refine zP ?_;refine zU ?_;(conv=>whnf));exact xq);refine zf ?_ (by intro V U;(conv=>whnf);(refine zP ?_;refine zU ?_;(conv=>whnf));exact xq);refine zf ?_ (by intro V U;(conv=>whnf);(refine zP ?_;refine zU ?_;(conv=>whnf));exact xq);refine zf ?_ (by intro V U;(conv=>whnf);(refine zP ?_;refine zU ?_;(conv=>whnf));exact xq);refine zf ?_ (by intro V U;(conv=>whnf);(refine zP ?_;refine zU ?_;(conv=>whnf));exact xq);intro V U;(conv=>whnf);refine Tst.yes rfl (zw ?_);exact⟨by grind [qfg],ae.trans U⟩
  ·obtain⟨r,hr⟩:∃r:Nat,qei l=r:=⟨(qei l).toNat,by grind [qax]⟩
   have ah:r<=1114111:=by grind [qax]
   refine DrawV.free rfl Jk (zw ?_);refine zD ?_;(conv=>whnf);refine zD ?_;(conv=>whnf);refine zD ?_;(conv=>whnf);refine zf ?_ (by intro V U;(conv=>whnf);(refine zP ?_;refine zT ?_;(conv=>whnf));exact xq);apply StepD.of (λv w=>∃b',v=.slice (some ⟨b',0,none⟩) (encL r).length (encL r).length/\CellsAt w b' 0 (byteCells (encL r)))
   ·rintro v w w' ⟨b',rfl,h⟩ he;exact⟨b',rfl,h.ext he⟩
   ·intro V U;(conv=>whnf);refine Tst.no rfl (zw ?_);rw[hr];refine zcv (qte r ah V) ?_
    simp_all
   (conv=>whnf);apply zsd
   ·intro V U;(conv=>whnf);rintro _ ⟨b',rfl,h⟩;(conv=>whnf);refine Tst.no rfl (zw ?_);refine BytesS.all h rfl ?_;exact xq
   (conv=>whnf);refine zf ?_ (by intro V U;(conv=>whnf);(refine zP ?_;refine zT ?_;(conv=>whnf));exact xq);apply zsd
   ·intro V U;(conv=>whnf);refine Tst.no rfl (zw ?_);refine BytesS.all (ag.ext U) rfl ?_;exact xq
   (conv=>whnf);refine zf ?_ (by intro V U;(conv=>whnf);(refine zP ?_;refine zT ?_;(conv=>whnf));exact xq);refine zf ?_ (by intro V U;(conv=>whnf);(refine zP ?_;refine zT ?_;(conv=>whnf));exact xq);intro V U;(conv=>whnf);intro v _;(conv=>whnf);have aj:seq ⟨(encL r).toArray⟩ ⟨l.toArray⟩=decide (encL r=l):=by
    grind [qaf]
   by_cases ay:encL r=l
   ·refine Tst.no (by simp_all) (zw ?_);exact⟨by grind [qfg],ae.trans U⟩
   ·refine Tst.yes (by simp_all) (zw ?_);exact⟨by grind [qfg],ae.trans U⟩
theorem qr2(h:(decN l).2=0):decN l=(0,0):=by
 unfold decN at h|-
 match l with
 | []=>rfl
 | a::t=>
  simp only at h|-
  split
  ·rfl
  ·rename_i U
   rw[Aa U]at h
   split
   ·rename_i V
    rw[Ad V]at h
    split
    ·rfl
    ·rename_i Z
     rw[Aa Z]at h;simp only at h;omega
   ·rfl
theorem qaey(r:Nat)(h:qax r=true)(t:LB):decN (encL r++t)=(r,(encL r).length):=by
 have hr:r<=1114111/\(r<55296\/57343<r):=by simp[qax]at h;omega
 have V:∀n:Nat,n<256->(UInt8.ofNat n).toNat=n:=λn hn=>by rw[Cm];omega
 unfold encL
 by_cases Z:r<128
 ·rw[Ad Z];have e:qby r=(1,r):=by rw[qby,Ad Z]
  simp only[Bi,Bn,decN,V r Oo,e,BU,BH,CP,if_true,accR,Co,qfh];rw[Aa Js,h];simp
 rw[Aa Z]
 by_cases h2:r<2048
 ·rw[Ad h2];have e:qby (192+r/64)=(2,r/64):=by rw[qby,Aa Oo,Aa Oo,Ad Oo];congr 1;omega
  have c:cont (UInt8.ofNat (128+r%64))=true:=by rw[cont,V _ Oo];simp;omega
  have U:r/64*64+(128+r%64)%64=r:=by omega
  simp only[Bi,Bn,decN,V (192+r/64) Oo,e,AC,Nat.reduceSub,BX,BH,CS,CP,CT,c,if_true,accR,Cj,Co,V (128+r%64) Oo,U];rw[Aa Oo,Aa (by rw[h,show qfh 2=128 from rfl];simp;omega)];rfl
 rw[Aa h2]
 by_cases h3:r<65536
 ·rw[Ad h3];have e:qby (224+r/4096)=(3,r/4096):=by rw[qby,Aa Oo,Aa Oo,Aa Oo,Ad Oo];congr 1;omega
  have c:cont (UInt8.ofNat (128+r%64))=true:=by rw[cont,V _ Oo];simp;omega
  have c2:cont (UInt8.ofNat (128+r/64%64))=true:=by rw[cont,V _ Oo];simp;omega
  have U:(r/4096*64+(128+r/64%64)%64)*64+(128+r%64)%64=r:=by omega
  simp only[Bi,Bn,decN,V (224+r/4096) Oo,e,AC,Nat.reduceSub,BX,BH,CS,CP,CT,c,c2,if_true,accR,Cj,Co,V (128+r%64) Oo,V (128+r/64%64) Oo,U];rw[Aa Oo,Aa (by rw[h,show qfh 3=2048 from rfl];simp;omega)];rfl
 rw[Aa h3];have e:qby (240+r/262144)=(4,r/262144):=by rw[qby,Aa Oo,Aa Oo,Aa Oo,Aa Oo,Ad Oo];congr 1;omega
 have c:cont (UInt8.ofNat (128+r%64))=true:=by rw[cont,V _ Oo];simp;omega
 have c2:cont (UInt8.ofNat (128+r/64%64))=true:=by rw[cont,V _ Oo];simp;omega
 have c3:cont (UInt8.ofNat (128+r/4096%64))=true:=by rw[cont,V _ Oo];simp;omega
 have U:((r/262144*64+(128+r/4096%64)%64)*64+(128+r/64%64)%64)*64+(128+r%64)%64=r:=by omega
 simp only[Bi,Bn,decN,V (240+r/262144) Oo,e,AC,Nat.reduceSub,BX,BH,CS,CP,CT,c,c2,c3,if_true,accR,Cj,Co,V (128+r%64) Oo,V (128+r/64%64) Oo,V (128+r/4096%64) Oo,U];rw[Aa Oo,Aa (by rw[h,show qfh 4=65536 from rfl];simp;omega)];rfl
theorem q3u(L:LB)(n:Nat)(h:0<=qfg (L.take n))(hn:n<=L.length):decN L=((qfg (L.take n)).toNat,n):=by
 unfold qfg at h|-
 split at h
 ·rename_i V
  rw[Ad V];obtain⟨U,h2⟩:=V;have hr:qei (L.take n)=((qei (L.take n)).toNat:Int):=by simp[qax]at U;omega
  rw[hr]at U;have Z:=qaey _ U (L.drop n);rw[h2,AW]at Z;rw[Z];simp;omega
 ·omega
theorem q9p(L:LB)(h:(decN L).2≠0):qfg (L.take (decN L).2)=(decN L).1:=by
 obtain⟨U,V,Z⟩:=q8x h;have hg:qei (L.take (decN L).2)=(decN L).1:=by
  rcases qn8 L h with⟨a,t,rfl,e,U⟩|⟨a,b,t,rfl,e,U,V,Z,h4⟩|⟨a,b,c,t,rfl,e,U,V,Z,h4,h5,h6⟩|⟨a,b,c,d,t,rfl,e,U,V,Z,h4,h5,h6,h7⟩
  all_goals
   rw[e];simp only[BX,BH,qei,List.headD_cons,List.tail_cons,AC,BO,gacc,Cj,Co]
  ·show(a.toNat:Int)-0=_;omega
  ·show((a.toNat:Int)-192)*64+b.toNat-128=_;omega
  ·show(((a.toNat:Int)-224)*64+b.toNat-128)*64+c.toNat-128=_;omega
  ·show((((a.toNat:Int)-240)*64+b.toNat-128)*64+c.toNat-128)*64+d.toNat-128=_;omega
 unfold qfg;rw[hg,Ad ⟨U,by rw[Dn];exact V⟩]
theorem qmr(s:DV)(p:Nat)(hp:p<s.size)(hs:s.size<=140737488355328)(w:DU):
  Gv Eg 348 [.string s,ii p] w λv w'=>v=.tuple #[ii (decN (s.data.toList.drop p)).1,ii (decN (s.data.toList.drop p)).2]/\Ext w w':=by
 obtain⟨L,hL⟩:∃L,L=s.data.toList.drop p:=⟨_,rfl⟩
 have aj:L.length=s.size-p:=by rw[hL,qe0]
 have ak:=qi7 L;have ah:=q8y L;rw[<-hL];refine ze Tryz.func348 Tryz.ntmps348 ?_;refine zv ?_;refine qk (λn:Nat=>[(0,.string s),(1,ii p),(6,ii n)]) (λn w1=>1<=n/\n<=5/\n<=L.length+1/\(∀m,m<n->m=0\/(decN L).2≠m)/\Ext w w1) (λn=>5-n) 1 fq ⟨by omega,by omega,by omega,λm hm=>.inl Oo,xr⟩ ?_;rintro n w1 al ⟨h1,h2,h3,h4,he⟩;conv=>whnf
 (repeat'(first|refine zp ?_|refine zC (λ_=>zw ?_) (λ_=>zw ?_)))
 ·refine SliceS.at_ p (p+n) rfl (show(p:Int)+(n:Int)=((p+n:Nat):Int)by omega) Oo Oo ?_;have hx:(s.extract p (p+n)).data.toList=L.take n:=by
   rw[Lib.extract_data,hL];congr 1;omega
  have ae:(s.extract p (p+n)).size=n:=by
   rw[BM];omega
  (conv=>whnf);refine⟨λaf cs b w2 ai ag hb hw=>?_⟩;have V:Ext w w2:=by rw[hw];exact he.drew.alloc _
  have U:CellsAt w2 b 0 (byteCells (L.take n)):=λk v hv=>by
   have Z:w2.heap[b]?=some (.cells cs 5 (cs.size,cs.size+1)):=by
    subst hw hb;exact heap_alloc_new _ _
   rw[qa Z,As,ag,hx];have:k<(byteCells (L.take n)).length:=(Af.1 hv).1;rw[An,Ba this];exact hv
  have hg:=q3t (L.take n) b af w2 U (by rw[Az];omega) (by rw[Az];omega);rw[show(L.take n).length=(s.extract p (p+n)).size by rw[ae,Az];omega]at hg;(conv=>whnf);refine zcv (hg) ?_;rintro v w3 ⟨rfl,aa⟩;have am:-1<=qfg (L.take n):=by
   unfold qfg;split
   ·rename_i h;have:=h.1;simp[qax]at this;omega
   ·omega
  (conv=>whnf);refine zC (λ_=>zu ?_) (λ_=>zu ?_)
  ·have ad:=q3u L n Oo Oo;refine⟨?_,V.trans aa⟩;rw[ad];show Value.tuple #[ii _,ii _]=.tuple #[ii ((qfg (L.take n)).toNat:Int),ii (n:Int)];rw[Int.toNat_of_nonneg Oo]
  ·refine⟨n+1,fq,⟨by omega,by omega,by omega,λm hm=>?_,V.trans aa⟩,by omega⟩
   rcases Bj m n with h|h
   ·exact h4 m h
   ·obtain rfl:m=n:=by omega
    refine .inr λhd=>?_;have:=q9p L Oo;rw[hd]at this;omega
 ·have hz:(decN L).2=0:=by
   rcases B9 (decN L).2 with h|h
   ·exact h
   ·rcases h4 (decN L).2 Oo with h' | h'
    ·omega
    ·exact absurd rfl h'
  rw[qr2 hz];exact⟨rfl,he⟩
 ·have hz:(decN L).2=0:=by
   rcases B9 (decN L).2 with h|h
   ·exact h
   ·rcases h4 (decN L).2 Oo with h' | h'
    ·omega
    ·exact absurd rfl h'
  rw[qr2 hz];exact⟨rfl,he⟩
theorem qkc(s:DV)(hs:s.size<=140737488355328)(w:DU):
  Gv Eg 310 [.string s] w λv w'=>(∃i:Int,v=ii i/\i<4611686018427387904/\(scal s.data.toList≠none->i=-1)/\(scal s.data.toList=none->0<=i))/\Ext w w':=by
 refine ze Tryz.func310 Tryz.ntmps310 ?_;refine qk (λp:Nat=>[(0,.string s),(3,ii p)]) (λp w1=>p<=s.size/\(scal s.data.toList=none↔scal (s.data.toList.drop p)=none)/\Ext w w1) (λp=>s.size-p) 0 fq ⟨by omega,by simp,xr⟩ ?_;rintro p w1 ad ⟨h1,V,Z⟩;(conv=>whnf);refine zC (λ_=>zw ?_) (λ_=>zw ?_)
 ·refine zcv (qmr s p Oo hs _) ?_;rintro v w' ⟨rfl,U⟩;have aa:=qi7 (s.data.toList.drop p);rw[qe0]at aa;(conv=>whnf);refine zC (λ_=>zu ?_) (λ_=>zu ?_)
  ·refine⟨⟨p,rfl,by omega,λh=>?_,λ_=>by omega⟩,Z.trans U⟩;exact absurd (V.2 (qio (qjb s p Oo) Oo)) h
  ·refine⟨p+(decN (s.data.toList.drop p)).2,fq,⟨by omega,?_,Z.trans U⟩,by omega⟩;rw[V,qga (qjb s p Oo) Oo,Ar];simp
 ·refine⟨⟨-1,rfl,by omega,λ_=>rfl,λh=>?_⟩,Z⟩;rw[V,AN Ys]at h;rw[scal]at h;cases h
theorem qqu(c:DY)(w:DU):
  Gv Eg 345 [.int .u8 c.toNat] w λv w'=>v=.bool (barB c)/\w'=w:=by
 have V:=c.toNat_lt;have U:barB c=true↔(c.toNat<=32\/c.toNat=60\/c.toNat=62\/c.toNat=34\/c.toNat=123\/c.toNat=125\/c.toNat=124\/c.toNat=94\/c.toNat=96\/c.toNat=92):=by
  have e:∀n:Nat,n<256->(c=UInt8.ofNat n↔c.toNat=n):=λn Z=>by
   rw[<-Cc,Cm];constructor<;>intro h<;>omega
  simp only[barB,decide_eq_true_iff,signs,AB,BQ,or_false];rw[show(60:DY)=UInt8.ofNat 60 from rfl,show(62:DY)=UInt8.ofNat 62 from rfl,show(34:DY)=UInt8.ofNat 34 from rfl,show(123:DY)=UInt8.ofNat 123 from rfl,show(125:DY)=UInt8.ofNat 125 from rfl,
   show(124:DY)=UInt8.ofNat 124 from rfl,show(94:DY)=UInt8.ofNat 94 from rfl,show(96:DY)=UInt8.ofNat 96 from rfl,show(92:DY)=UInt8.ofNat 92 from rfl]
  rw[e _ Oo,e _ Oo,e _ Oo,e _ Oo,e _ Oo,e _ Oo,e _ Oo,e _ Oo,e _ Oo]
 refine ze Tryz.func345 Tryz.ntmps345 ?_
 (repeat'(first|refine zp ?_|refine zC (λ_=>zw ?_) (λ_=>zw ?_)))
 all_goals(refine⟨Ae Value.bool ?_,rfl⟩;rw[AU,U];simp;try omega)
theorem qqv(c:DY)(w:DU):
  Gv Eg 346 [.int .u8 c.toNat] w λv w'=>v=.bool (qe4 c)/\w'=w:=by
 have U:=c.toNat_lt;refine ze Tryz.func346 Tryz.ntmps346 ?_
 (repeat'(first|refine zp ?_|refine zC (λ_=>zw ?_) (λ_=>zw ?_)))
 all_goals(refine⟨Ae Value.bool ?_,rfl⟩;rw[AU];simp[qe4];try omega)
theorem qtf(c:DY)(w:DU):
  Gv Eg 347 [.int .u8 c.toNat] w λv w'=>v=.bool (decide (48<=c.toNat/\c.toNat<=57))/\w'=w:=by
 have U:=c.toNat_lt;refine ze Tryz.func347 Tryz.ntmps347 ?_;refine zC (λ_=>zu ?_) (λ_=>zu ?_)
 all_goals(refine⟨Ae Value.bool ?_,rfl⟩;rw[AU];simp;try omega)
theorem qpb(s:DV)(p:Nat)(U:p<s.size)(h:(s.data.toList.take p).any barB=false):(s.data.toList.take (p+1)).any barB=barB (gb s p):=by
 rw[qp2 (by simpa using U),DB,h,D5];simp[gb]
theorem qkk(s:DV)(hs:s.size<=140737488355328)(w:DU):
  Gv Eg 304 [.string s] w λv w'=>v=ii (refE s)/\Ext w w':=by
 refine ze Tryz.func304 Tryz.ntmps304 ?_;refine zC (λ_=>zw ?_) (λ_=>zw ?_)
 ·exact⟨by rw[refE,Ad Oo];rfl,xr⟩
 ·refine zcv (qkc s hs _) ?_;rintro v w1 ⟨⟨i,rfl,h1,h2,h3⟩,he⟩;(conv=>whnf);refine zC (λ_=>zw ?_) (λ_=>zw ?_)
  ·refine⟨?_,he⟩;rw[refE,Aa Oo,Ad (by by_cases Z:scal s.data.toList=none;exact Z;exact absurd (h2 Z) Oo)];rfl
  ·have V:scal s.data.toList≠none:=λZ=>by have:=h3 Z;omega
   refine qk (λp:Nat=>[(0,.string s),(3,ii p)]) (λp w2=>p<=s.size/\w2=w1/\(s.data.toList.take p).any barB=false) (λp=>s.size-p) 0 fq ⟨by omega,rfl,by simp⟩ ?_;rintro p w2 aa ⟨hp,rfl,ha⟩;(conv=>whnf);refine zC (λ_=>zu ?_) (λ_=>zu ?_)
   ·refine zcv (qqu (gb s p) _) ?_;rintro v w3 ⟨rfl,rfl⟩;(conv=>whnf);have U:=qpb s p Oo ha;cases hb:barB (gb s p)
    ·rw[hb]at U;refine zv ?_;exact⟨p+1,fq,⟨by omega,rfl,U⟩,by omega⟩
    ·rw[hb]at U;refine zv ?_;refine⟨?_,he⟩;have:s.data.toList.any barB=true:=by
      rw[<-AW (p+1) s.data.toList,DB,U];rfl
     rw[refE,Aa Oo,Aa V,Ad this];rfl
   ·refine⟨?_,he⟩;rw[Am Ys]at ha;rw[refE,Aa Oo,Aa V,Aa (by rw[ha];simp)];rfl
theorem qqx(s:DV)(hs:s.size<=140737488355328)(w:DU):
  Gv Eg 305 [.string s] w λv w'=>v=ii (qba s.data.toList 0)/\w'=w:=by
 refine ze Tryz.func305 Tryz.ntmps305 ?_;refine qk (λp:Nat=>[(0,.string s),(3,ii p)]) (λp w2=>p<=s.size/\w2=w/\qba s.data.toList 0=qba (s.data.toList.drop p) p) (λp=>s.size-p) 0 fq ⟨by omega,rfl,rfl⟩ ?_;rintro p w2 aa ⟨hp,rfl,U⟩;conv=>whnf
 (repeat'(first|refine zp ?_|refine zC (λ_=>zw ?_) (λ_=>zw ?_)))
 ·exact⟨by rw[U,qa7 s p Oo,qm1 _ _ _ Oo],rfl⟩
 ·rw[qa7 s p Oo]at U
  ·refine zcv (qqv (gb s p) _) ?_;rintro v w3 ⟨rfl,rfl⟩;(conv=>whnf);cases V:qe4 (gb s p)
   ·have Z:¬(97<=(gb s p).toNat/\(gb s p).toNat<=122\/65<=(gb s p).toNat/\(gb s p).toNat<=90):=by simpa[qe4]using V
    refine zt ?_;refine zC (λ_=>zu ?_) (λ_=>zu ?_)
    ·exact⟨by rw[U,qd7 _ _ _ Oo Oo];rfl,rfl⟩
    ·refine zcv (qtf (gb s p) _) ?_;rintro v w3 ⟨rfl,rfl⟩;conv=>whnf
     (repeat'(first|refine zp ?_|refine zC (λ_=>zw ?_) (λ_=>zw ?_)))
     all_goals first
      | exact⟨by rw[U,qd7 _ _ _ Oo Oo];rfl,rfl⟩
      | (refine⟨p+1,fq,⟨by omega,rfl,?_⟩,by omega⟩;rw[U];exact qju _ _ _ Oo Oo)
   ·have Z:(97<=(gb s p).toNat/\(gb s p).toNat<=122\/65<=(gb s p).toNat/\(gb s p).toNat<=90):=by simpa[qe4]using V
    refine zv ?_
    all_goals(refine⟨p+1,fq,⟨by omega,rfl,?_⟩,by omega⟩;rw[U];exact qju _ _ _ Oo Oo)
 ·exact⟨by rw[U,AN Ys,qba];rfl,rfl⟩
theorem qf8(s:DV)(V:s.size<=140737488355328)(w:DU):
  Gv Eg 226 [.string s] w λv w'=>v=ii (iriE s)/\Ext w w':=by
 refine ze Tryz.func226 Tryz.ntmps226 ?_;refine zcv (qkk s V _) ?_;rintro v Z ⟨rfl,U⟩;(conv=>whnf);refine zC (λ_=>zu ?_) (λ_=>zu ?_)
 ·refine zcv (qqx s V _) ?_;rintro v w2 ⟨rfl,rfl⟩;(conv=>whnf);refine zt ?_;refine zC (λ_=>zw ?_) (λ_=>zw ?_)
  ·exact⟨by rw[iriE,Aa Oo,Ad Oo];rfl,U⟩
  ·exact⟨by rw[iriE,Aa Oo,Aa Oo,show refE s=0 by omega],U⟩
 ·exact⟨by rw[iriE,Ad Oo],U⟩
namespace V
theorem BytesS.rw{n:Nat}{K:DZ->Prop}(h:Rw w0 w (.slice A n c) e 1 n (byteCells l) L)(V:K (.string ⟨l.toArray⟩)):BytesS w A n K:=by
 have Z:l.length=n:=by have:=h.len;simpa[byteCells]using this
 refine⟨l,Z,λU=>?_,V⟩;have:0<l.length:=Cw.2 U;obtain⟨g,e1,_,_,_,hc⟩:=h.cells Oo;exact⟨g,0,e1,hc⟩
end V
namespace V
theorem Rw.join{v:DZ}{V n:Nat}{L2:Ed}(h:Rw w0 w v e V n xs L)(Z:Mem w w' L2):Rw w0 w' v e V n xs (L2++L):=by
 have hc:=h.call Z.ext;refine⟨⟨hc.mem.ext,λx U=>?_,?_⟩,hc.own,λx U=>?_⟩
 ·rcases Bc.1 U with U|U
  ·exact⟨AI h.mem.ext.size (Z.own x U).1,(Z.own x U).2⟩
  ·exact hc.mem.own x U
 ·rw[AJ,Do];refine⟨Z.nodup,h.mem.nodup,λa ha b hb aa=>?_⟩;obtain⟨x,U,rfl⟩:=AF.1 ha;obtain⟨y,hy,rfl⟩:=AF.1 hb;have h1:=(Z.own x U).1;have h2:=h.mem.lt (b:=y.1) (o:=y.2) hy;omega
 ·rcases Bc.1 U with U|U
  ·intro e;have h1:=(Z.own x U).1;have h2:=h.own.lt _ e;omega
  ·exact h.apart x U
theorem Rw.drew{v:DZ}{U n:Nat}(h:Rw w0 w v e U n xs L):Rw w0 w.drew v e U n xs L:=h.call (Ext.refl w).drew
end V
namespace V
theorem qfp{o:Obj}(h:w.heap[g]?=some o):g<w.heap.size:=by
 grind
theorem PostO.still{B:List (Option Nat)}{v c:DZ}(U:Ext w w')(h:v=c):PostO w B true (λu _=>u=c) v w':=⟨Chg.ext U,h,λh=>by cases h⟩
theorem AppV.own{e U:Nat}{v:DZ}{n:Nat}{t:DX}{i:TypeInfo}(ht:P.underlying t=some (.slice e))(hi:P.info? e=some i)(hz:i.zero=some z)(Z:i.size=U)(ad:z.cells.size=U)(ae:0<U)(h:w.ownsRow base e U v n xs)(af:base<=w.heap.size)(hl:news.length=m*U)(hA:news≠[]->∃b off,A=some ⟨b,off,none⟩/\CellsAt w b off news)(h1:∀u∈news,u.oneCell'=true)(hb:(n+m)*i.bytes<=140737488355328)(ah:n+m<=140737488355328)(hk:∀v' w',w'.ownsRow base e U v' (n+m) (xs++news)->w.grownBy w' v.ownBlock->(v'.ownBlock=v.ownBlock\/v'.ownBlock=some w.heap.size)->K v' w'):AppV P #[t,t] ty v (.slice A m c) w K:=by
 cases A with
 | none=>
  have hn:news=[]:=by
   simp_all
  subst hn;have hm:m=0:=by
   grind [Nat.mul_eq_zero]
  subst hm;refine⟨v,w,?_,hk v w (by simpa using h) ⟨rfl,rfl,rfl,Ai _,λ_ _ _=>rfl⟩ (.inl rfl)⟩
  rcases h.2 with⟨e1,e2⟩|⟨g,ai,aj,e1,_,_,ag,_⟩
  ·subst e1;simp[Builtin.append_,run_underlying ht,sizeOf,typeInfo,hi,Builtin.lenOf,Builtin.firstCells]
  ·subst e1;simp[Builtin.append_,run_underlying ht,sizeOf,typeInfo,hi,Builtin.lenOf,Builtin.firstCells,ag,storeCells]
 | some a=>
  have V:∀j u,news[j]?=some u->w.cell? (a.add j)=some u:=by
   intro j u hu;obtain⟨b,off,h0,h1⟩:=hA (by grind);cases h0;rw[qas];exact h1 j u hu
  obtain⟨v',w',aa,h2,h3,_,h5⟩:=run_append_own_at (P:=P) w base t ty e i z U i.bytes ht hi hz Z rfl ad ae v n xs h a m c news hl V h1 (by grind [maxLen]) hb af;exact⟨v',w',aa,(by grind)⟩
theorem Mem.add{o:Obj}(h:Mem w0 w L)(Z:w.heap[g]?=some o)(h0:w0.heap.size<=g)(V:∀x∈L,x.1<g):Mem w0 w ((g,o)::L):=by
 refine⟨h.ext,λx U=>?_,?_⟩
 ·rcases AB.1 U with rfl|U
  ·simp_all
  ·exact h.own x U
 ·simp only[AK,CR];refine⟨λhm=>?_,h.nodup⟩
  grind
end V
def rdC(A:oA)(n c:Nat)(t:Ee):Obj:=.cells (Value.slice A n c::t).toArray 358
def seeB(p:DV->Bool):List DV->Bool
 | []=>false
 | x::_=>p x
theorem qk5(rb g:Nat)(V:Ee)(p:DV->Bool)(U:List DV)(A:oA)(c:Nat)(t:Ee)(w:DU)(hb:w.heap[rb]?=some (rdC A U.length c t))(hS:SlAt zeS 1 w A U)(hp:∀x xs w1,U=x::xs->Ext w w1->Gv Eg g (.string x::V) w1 λv w2=>v=.bool (p x)/\Ext w1 w2):
  Gv Eg 218 [pp rb,.func (.func g) #[] V.toArray] w λv w'=>v=.bool (seeB p U)/\Ext w w':=by
 have h0:∀w',Ext w w'->w'.cell? ⟨rb,0,none⟩=some (.slice A U.length c):=λw' Z=>Z.cell (by rw[qa hb];rfl)
 refine ze Tryz.func218 Tryz.ntmps218 ?_;refine LoadV.of (h0 w (Ext.refl w)) ?_;cases U with
 | nil=>
  simp only[BO];refine zu ?_;exact⟨rfl,Ext.refl w⟩
 | cons x xs=>
  simp only[AC]at h0|-;refine zu ?_;refine LoadV.of (h0 w (Ext.refl w)) (zu ?_);refine ElemV.sl hS rfl 0 rfl Js ?_;intro b off hc;refine zu ?_;refine LoadV.cell0 hc (zu ?_);have aa:=hp x xs w rfl (Ext.refl w);cases V with
  | nil=>
   (conv=>whnf);refine zcv (aa) ?_;rintro v w2 ⟨rfl,Z⟩;refine zu ?_;exact⟨rfl,Z⟩
  | cons y ys=>
   (conv=>whnf);refine zcv (aa) ?_;rintro v w2 ⟨rfl,Z⟩;refine zu ?_;exact⟨rfl,Z⟩
theorem V.SliceV.tail{x:DV}{xs:List DV}{n:Nat}{k:IntKind}{K:DZ->Prop}(hS:SlAt zeS 1 w A (x::xs))(hn:n=xs.length+1)(hc:n<=c)(Z:∀V c',SlAt zeS 1 w V xs->xs.length<=c'->K (.slice V xs.length c')):SliceV 1 A n c (some (.int k 1)) none none K:=by
 subst hn;refine⟨1,xs.length+1,c,rfl,rfl,rfl,by omega,by omega,by omega,λh=>by simp at h,λV U=>?_⟩;obtain⟨b,off,rfl,h2⟩:=hS.at_ Js;have Z:=Z V (c-1) ⟨λaa=>?_⟩ Oo
 ·simpa using Z
 ·have ad:0<xs.length:=Cw.2 aa;rw[Aa Oo]at U;refine⟨b,off+1,?_,λj y hy=>?_⟩
  ·rw[U];show some ((⟨b,off,none⟩:Addr).add (1*1))=_;rw[qas]
  ·have:=h2 (j+1) y (by simpa using hy);rw[show off+1+j*1=off+(j+1)*1 by omega];exact this
theorem qfz(rb i:Nat)(x:DV)(xs:List DV)(A:oA)(c:Nat)(t:Ee)(w0 w:DU)(L:Ed)(hm:Mem w0 w L)(hi:L[i]?=some (rb,rdC A (xs.length+1) c t))(hS:SlAt zeS 1 w0 A (x::xs))(hc:xs.length+1<=c):
  Gv Eg 222 [pp rb] w λv w'=>v=.string x/\∃U Z,SlAt zeS 1 w0 U xs/\xs.length<=Z/\Mem w0 w' (L.set i (rb,rdC U xs.length Z t)):=by
 have hb:=hm.get (zmg hi);refine ze Tryz.func222 Tryz.ntmps222 ?_;refine LoadV.of (v:=.slice A (xs.length+1) c) (by rw[rdC]at hb;rw[qa hb];rfl) ?_;refine ElemV.sl (hS.ext hm.ext) rfl 0 rfl Js ?_;intro b off aa;refine LoadV.cell0 aa ?_;refine LoadV.of (v:=.slice A (xs.length+1) c) (by rw[rdC]at hb;rw[qa hb];rfl) ?_;refine V.SliceV.tail hS rfl hc ?_;intro U Z ad ae;refine StoreV.mem hm hi (show 0<t.length+1 by omega) rfl λw2 af=>zw ?_;exact⟨rfl,U,Z,ad,ae,af⟩
end Go.Proofs.YtccmcfpmknpccaaGreatDoor
