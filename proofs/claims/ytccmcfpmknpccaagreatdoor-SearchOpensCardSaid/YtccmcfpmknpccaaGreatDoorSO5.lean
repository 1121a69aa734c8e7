/- Lemmas and contracts of functions on the way to the law's card (part 5 of 11). -/
import Derived.Test.YtccmcfpmknpccaaGreatDoorSO4
import Derived.Lib.ReplaceLaws
import Derived.LaidEql
import Derived.Stop.Asserts
import Derived.RowKitTokens
import Derived.TacticsIn
import Derived.RangeFuncSeq
import Derived.RangeFuncLeaves
namespace Go.Proofs.YtccmcfpmknpccaaGreatDoor
set_option maxHeartbeats 8000000
open Go.RowKit V
set_option maxHeartbeats 8000000
set_option maxRecDepth 100000
abbrev QW:=Exit->DH->DO->DA->Prop
variable {kind:Int} {ahead l s:LB} {a b c cc d i id j k m most nb wd:Nat} {P:DC} {f gf:FuncId} {args:DN} {w w' w0:DA} {ρ:DH} {K R:DG} {o oj:Oper} {ds:DO} {ops:Array Oper} {Q':Exit->Act->DI} {Q:QW} {assign body:Code} {lb vs xs:DK} {J:DJ->DI} {L M:DJ} {A:oA} {ty:DD}
theorem qcb(s:DB)(a b:Nat):(s.extract a b).data.toList=(s.data.toList.drop a).take (b-a):=by
 simp
theorem q79(s H:DB)(w:DA)(U:MaxLenAt w)(hs:s.size<=67108864)(V:1<=H.size):Gv DM 340 [.string s,.string H] w λr w'=>r=ii (Lib.countB s H)/\w'=w:=by
 obtain⟨m,W⟩:=U;exact qe4 Jk ((Tryz.strings_Count_any s H m w Oo W V).mono λe w' ⟨Z,hw⟩=>⟨_,Z,rfl,hw⟩)
theorem q8x(s H:DB)(w:DA)(U:MaxLenAt w)(hs:s.size<=67108864):Gv DM 341 [.string s,.string H] w λr w'=>r=ii (Lib.indexB s H)/\w'=w:=by
 obtain⟨m,V⟩:=U;exact qe4 Jk ((Tryz.strings_Index s H m w Oo V).mono λe w' ⟨W,Z⟩=>⟨_,W,rfl,Z⟩)
theorem qaaz(s H:DB)(w:DA)(U:MaxLenAt w)(hs:s.size<=67108864):Gv DM 344 [.string s,.string H] w λr w'=>
  r=.tuple #[.string ⟨(Lib.cut s.data.toList H.data.toList).1.toArray⟩,.string ⟨(Lib.cut s.data.toList H.data.toList).2.1.toArray⟩,.bool (Lib.cut s.data.toList H.data.toList).2.2]/\Ext w w':=by
 obtain⟨m,V⟩:=U;refine qe4 Jk ((Tryz.strings_Cut s H m w Oo V).mono λe w' ⟨W,n,Z⟩=>⟨_,W,rfl,?_⟩);subst Z;exact⟨rfl,rfl,rfl,Ai _,λ_ _=>rfl⟩
theorem qac7(b n:Nat)(w0 w:DA)(h:Mem w0 w [(b,.cells #[.pointer none,.slice none 0 0] 472)])(V:n<=281474976710656):
  Gv DM 366 [pp b,ii n] w λr w'=>r=.tuple #[]/\Bld w0 w' b [] []:=by
 have U:=h.own _ mh;refine qe4 Jk ((Tryz.Builder_Grow_fresh w0.heap.size b n w U.1 U.2 h.ext.size V).mono λe w' ⟨W,⟨Z,v,h2,h3,h4⟩,h5⟩=>⟨_,W,rfl,⟨_,v,.inr rfl,⟨⟨Below.trans h.ext h5,?_,by simp⟩,h3,?_⟩⟩⟩)
 ·intro x H;simp only[Ay,Ci,or_false]at H;subst H;exact⟨Z,h2⟩
 ·intro x H;simp only[Ay,Ci,or_false]at H;subst H;exact h4
theorem que(s:DB):s.extract 0 s.size=s:=qd0 (by rw[qcb];simp;exact Aj znr)
theorem qvm(s H new:DB)(w:DA)(hM:MaxLenAt w)(aa:seq H new=false)(hs:s.size<=67108864)(ho:(H.size=1/\new.size=2)\/(H.size=2/\new.size=1)):
  Gv DM 320 [.string s,.string H,.string new,ii (-1)] w λr w'=>r=.string ⟨(Lib.replaceAll s.data.toList H.data.toList new.data.toList).toArray⟩/\Ext w w':=by
 have h1:1<=H.size:=by omega
 have ad:(H.data.toList==new.data.toList)=false:=by
  rw[beq_eq_false_iff_ne];intro e;have:H=new:=qd0 e;rw[qab.2 this]at aa;cases aa
 have ag:H.data.toList≠[]:=by
  intro e;have:H.data.toList.length=0:=by rw[e];rfl
  have h2:H.data.toList.length=H.size:=rfl;omega
 refine ze Tryz.func320 Tryz.ntmps320 ?_;rw[aa];refine zv ?_;refine zcv (q79 s H w hM hs h1) ?_;rintro v w' ⟨rfl,rfl⟩;(conv=>whnf);have ae:=Lib.countB_mul_le H h1 s.size s znr;obtain⟨K,eK⟩:∃K,K=Lib.countB s H:=⟨_,rfl⟩
 rw[<-eK]at ae|-
 by_cases hK:K=0
 ·have hr:Lib.replaceAll s.data.toList H.data.toList new.data.toList=s.data.toList:=by
   rcases Lib.indexB_cases s H with U|⟨i,U,_⟩
   ·exact qks ad U
   ·have:=Lib.countB_hit s H i h1 U;omega
  refine zv ?_;exact⟨by rw[hr],xr⟩
 refine zv ?_;refine znm (Mem.nil w') ?_;intro b w1 hm;have ak:K<=s.size:=AE (Nat.le_mul_of_pos_right K h1) ae;obtain⟨d,hd,al,am⟩:∃d:Int,(K:Int)*((new.size:Int)-(H.size:Int))=d/\-(K:Int)<=d/\d<=K:=by
  rcases ho with⟨h1,h2⟩|⟨h1,h2⟩
  ·exact⟨K,by rw[h1,h2];omega,by omega,by omega⟩
  ·exact⟨-K,by rw[h1,h2];omega,by omega,by omega⟩
 refine Obl.mk ⟨by omega,by omega⟩ (zw ?_);rw[hd];refine Obl.mk ⟨by omega,by omega⟩ ?_;refine Obl.mk ⟨by omega,by omega⟩ ?_;obtain⟨M,eM⟩:∃M:Nat,(s.size:Int)+d=M:=⟨((s.size:Int)+d).toNat,by omega⟩
 rw[eM];refine zcv (qac7 b M w' w1 hm Oo) ?_;rintro r w2 ⟨rfl,V⟩;refine zu ?_;refine qq (λx:Nat×Nat×LB=>[(0,.string s),(1,.string H),(2,.string new),(10,pp b),(11,ii x.2.1),(52,ii K),(53,ii x.1)])
  (λx ah=>x.1<=K/\x.2.1<=s.size/\x.1+Lib.countB (s.extract x.2.1 s.size) H=K/\x.2.2++Lib.replaceAll (s.data.toList.drop x.2.1) H.data.toList new.data.toList=Lib.replaceAll s.data.toList H.data.toList new.data.toList/\x.2.2.length<=2*x.2.1/\Bld w' ah b x.2.2 []) (λx=>K-x.1) (0,0,[])
  fq ⟨by simp,by simp,by rw[que,<-eK];omega,by simp,by simp,V⟩ ?_
 clear V;rintro⟨j,p,l⟩ w3 an ⟨hj,hp,hc,hr,hl,V⟩;dsimp only at hj hp hc hr hl V|-;have W:(s.extract p s.size).data.toList=s.data.toList.drop p:=by
  rw[qcb,Aj];have:s.data.toList.length=s.size:=rfl;simp only[zld];omega
 obtain⟨r,er⟩:∃r,r=s.extract p s.size:=⟨_,rfl⟩
 have ao:r.size=s.size-p:=by
  have e1:r.size=r.data.toList.length:=rfl;have e2:s.data.toList.length=s.size:=rfl;rw[e1,er,W,zld,e2]
 rw[<-er]at hc W;(conv=>whnf);refine zC (λ_=>zw ?_) (λ_=>zw ?_)
 ·refine SliceS.at_ p s.size rfl rfl hp znr ?_;rw[<-er];(conv=>whnf);refine zcv (q8x r H w3 (hM.ext V.ext) Oo) ?_;rintro v w4 ⟨rfl,rfl⟩
  rcases Lib.indexB_cases r H with U|⟨i,U,ai⟩
  ·have:=Lib.countB_miss r H U;omega
  rw[U];have af:=Lib.countB_hit r H i h1 U;have aj:r.extract (i+H.size) r.size=s.extract (p+i+H.size) s.size:=by
   refine qd0 ?_;rw[qcb,qcb,W,Am,show p+(i+H.size)=p+i+H.size by omega,show r.size-(i+H.size)=s.size-(p+i+H.size)by omega]
  rw[aj]at af;have Z:=qh3 ad ag (s:=s.data.toList.drop p) (i:=i) (by rw[<-W];exact U);refine zu ?_;refine SliceS.at_ p (p+i) rfl (by show _=_;omega) Oo Oo (zw ?_);refine zcv (qdy b l (s.extract p (p+i)) w' w4 [] V (λx hx=>by cases hx) (by simp;omega)) ?_;rintro v w5 ⟨rfl,V⟩;have aq:(s.extract p (p+i)).data.toList.length=i:=by
   have:s.data.toList.length=s.size:=rfl;rw[qcb,Ar,zld];omega
  (conv=>whnf);refine zcv (qdy b (l++(s.extract p (p+i)).data.toList) new w' w5 [] V (λx hx=>by cases hx) (by rw[zla];omega)) ?_;rintro v w6 ⟨rfl,V⟩;refine zu ?_;have ar:new.data.toList.length=new.size:=rfl;refine⟨(j+1,p+i+H.size,l++(s.extract p (p+i)).data.toList++new.data.toList),⟨rfl,rfl,rfl,rfl,by show ii _=ii _;congr 1,rfl,rfl,trivial⟩,⟨by simp only;omega,by simp only;omega,by simp only;omega,?_,by simp only[zla];omega,V⟩,by simp only;omega⟩;rw[<-hr,Z,qcb,show p+i-p=i by omega,Am,show p+(i+H.data.toList.length)=p+i+H.size from by show p+(i+H.size)=_;omega];simp
 ·obtain rfl:j=K:=by omega
  have U:Lib.indexB r H=-1:=by
   rcases Lib.indexB_cases r H with U|⟨i,U,ai⟩
   ·exact U
   ·have:=Lib.countB_hit r H i h1 U;omega
  have Z:=qks ad (s:=s.data.toList.drop p) (by rw[<-W];exact U);refine SliceS.at_ p s.size rfl rfl hp znr ?_;rw[<-er];(conv=>whnf);refine zcv (qdy b l r w' w3 [] V (λx hx=>by cases hx) Oo) ?_;rintro v w4 ⟨rfl,V⟩;(conv=>whnf);refine zcv (qim b (l++r.data.toList) w' w4 [] V) ?_;rintro v w5 ⟨rfl,he⟩;(conv=>whnf);exact⟨by rw[<-hr,Z,W],he⟩
theorem qgo(s H new:DB)(w:DA)(V:MaxLenAt w)(U:seq H new=false)(W:s.size<=67108864)(Z:(H.size=1/\new.size=2)\/(H.size=2/\new.size=1)):
  Gv DM 246 [.string s,.string H,.string new] w λr w'=>r=.string ⟨(Lib.replaceAll s.data.toList H.data.toList new.data.toList).toArray⟩/\Ext w w':=by
 refine ze Tryz.func246 Tryz.ntmps246 ?_;refine zcv (qvm s H new w V U W Z) ?_;rintro v w' ⟨rfl,he⟩;(conv=>whnf);exact⟨rfl,he⟩
theorem qol(t:TM)(V:TermOk t)(w:DA)(hM:MaxLenAt w)(hT:CellsAt w 4 0 qb3):
  Gv DM 175 [qy t] w λr w'=>r=(if qam t=0 then .tuple #[.string ⟨(qai t).toArray⟩,ii 0]else .tuple #[.string ⟨#[]⟩,ii (qam t)])/\Ext w w':=by
 refine ze Tryz.func175 Tryz.ntmps175 ?_;refine znm (Mem.nil w) ?_;intro tb w1 H;have H:Mem w w1 [(tb,.cells #[ii t.kind,.string t.text,.string t.type,.string t.lang] 45)]:=H;(conv=>whnf);refine zl H 0 ?_;refine zcv (qib t V w1 (hM.ext H.ext) (hT.ext H.ext)) ?_;rintro r w2 ⟨rfl,W⟩;have H:=H.call W;obtain⟨e,ee⟩:∃e,e=qam t:=⟨_,rfl⟩
 rw[<-ee];conv=>whnf
 (repeat'(first|refine zC (λ_=>zw ?_) (λ_=>zw ?_)|refine LoadV.mem (i:=0) Oa rfl rfl (zw ?_)))
 ·rw[Aa Oo];exact⟨rfl,H.ext⟩
 ·have h1:qai t=t.text.data.toList:=by grind [qai]
  rw[Ab Oo,h1];exact⟨rfl,H.ext⟩
 rw[Ab Oo];have aa:t.kind=3:=by omega
 have ad:t.text.size<=65536:=by
  grind [qam,litE]
 have ae:=V.type;have af:=V.lang;obtain⟨R,eR,ag⟩:∃R:DB,R=⟨(Lib.replaceAll t.text.data.toList [0] [0,1]).toArray⟩/\R.data.toList=escL t.text.data.toList:=⟨_,rfl,qaem _⟩
 have ah:R.size<=2*t.text.size:=by
  have h1:R.size=R.data.toList.length:=rfl;have h2:=qxm t.text.data.toList
  simp_all
 have ai:(⟨#[0,0]⟩:DB).size=2:=rfl;have aj:(⟨#[0]⟩:DB).size=1:=rfl;refine DrawV.free Jk Jk (zw ?_);refine zd ?_;refine zLd ?_;refine zsd (.string R) (λwd U=>zw ?_) (zw ?_)
 ·refine zcv (qgo t.text ⟨#[0]⟩ ⟨#[0,1]⟩ wd (hM.ext (H.drew.call U).ext) rfl Oo (.inl ⟨rfl,rfl⟩)) ?_
  simp_all
 apply zsd
 ·intro wd U;(conv=>whnf);refine Obl.mk Oo (zw ?_);exact xq
 (conv=>whnf);refine zd ?_;refine zLd ?_;apply zsd
 ·intro wd U;(conv=>whnf);refine Obl.mk (by grind) (zw ?_);exact xq
 (conv=>whnf);apply zsd
 ·intro wd U;(conv=>whnf);refine Obl.mk (by grind) (zw ?_);exact xq
 (conv=>whnf);refine zd ?_;refine zLd ?_;apply zsd
 ·intro wd U;(conv=>whnf);refine Obl.mk (by grind) (zw ?_);exact xq
 (conv=>whnf);refine zd ?_;refine zd ?_;intro w3 Z;(conv=>whnf);refine⟨?_,(H.drew.call Z).ext⟩;have:R++⟨#[0,0]⟩++t.type++⟨#[0]⟩++t.lang=⟨(qai t).toArray⟩:=qd0 (by grind [qai,ByteArray.data_append]);rw[this]
def vBad:DF:=.tuple #[.agg #[ii 0,.string ⟨#[]⟩,.string ⟨#[]⟩,.string ⟨#[]⟩],ii 170]
noncomputable def qgt(kind:Int)(s:LB):DF:=
 match qg5 kind s with
 | some t=>.tuple #[qy t,.int .i64 0]
 | none=>vBad
theorem qv8{t:TM}(h:ReadsAs kind s t):qgt kind s=.tuple #[qy t,ii 0]:=by rw[qgt,qee h]
theorem qhd(h:∀t,¬ReadsAs kind s t):qgt kind s=vBad:=by rw[qgt,q0z h]
theorem q2o(s H:LB):(Lib.cut s H).1.length<=s.length/\(Lib.cut s H).2.1.length<=s.length:=by
 grind [Lib.cut]
theorem qaen:∀(l:LB),(Lib.replaceAll l [0,1] [0]).length<=l.length:=by
 intro l
 induction h:l.length using Nat.strongRecOn generalizing l with
 | _ n W=>
  by_cases Z:Lib.index l [0,1]=-1
  ·simp_all[qks]
  ·obtain⟨i,hi⟩:∃i:Nat,Lib.index l [0,1]=i:=⟨(Lib.index l [0,1]).toNat,by have:=Lib.index_ge l [0,1];omega⟩
   have H:i+2<=l.length:=by
    rcases Lib.indexB_cases ⟨l.toArray⟩ ⟨#[0,1]⟩with U|⟨j,U,V⟩
    ·simp_all
    ·have h3:(Lib.index l [0,1])=j:=U;have h4:j+2<=l.length:=V;omega
   rw[qh3 Od Js hi,show i+([0,1]:LB).length=i+2 from rfl]
   grind
theorem q7e(kind:Int)(hk:kind=1\/kind=2\/kind=3)(s:DB)(hs:s.size<=262144)(w:DA)(hM:MaxLenAt w)(hT:CellsAt w 4 0 qb3):
  Gv DM 303 [ii kind,.string s] w λr w'=>r=qgt kind s.data.toList/\Ext w w':=by
 refine ze Tryz.func303 Tryz.ntmps303 ?_;refine znm (Mem.nil w) λr4 w1 H=>zw ?_;refine znm H λtb w2 H=>zw ?_;refine zS H 0 λw3 H=>zw ?_
 rcases hk with hk|hk|hk
 all_goals
  refine zv ?_
 case' inl|inr.inl=>
  obtain⟨t,Z⟩:∃t:TM,t=⟨kind,s,⟨#[]⟩,⟨#[]⟩⟩:=⟨_,rfl⟩
  have W:t.kind=kind:=by rw[Z]
  have ht:TermOk t:=by rw[Z];exact⟨(by grind [InR]),by grind,Af _,Af _⟩
  have U:∀u,ReadsAs kind s.data.toList u->u=t:=λu V=>by
   obtain⟨h1,h2,h3⟩:=V.plain Oo;have h4:=V.kind;rw[Z];obtain⟨uk,ux,uy,ul⟩:=u
   grind [qd0]
 case' inr.inr=>
  obtain⟨tx,rs,ok,ec⟩:∃tx rs ok,Lib.cut s.data.toList [0,0]=(tx,rs,ok):=(by grind)
  obtain⟨ty,la,fi,ed⟩:∃ty la fi,Lib.cut rs [0]=(ty,la,fi):=(by grind)
  have al:s.data.toList.length=s.size:=rfl;have ad:=q2o s.data.toList [0,0];rw[ec]at ad;dsimp only at ad;have ae:=q2o rs [0];rw[ed]at ae;dsimp only at ae;refine zcv (qaaz s ⟨#[0,0]⟩ w3 (hM.ext H.ext) Oo) ?_;rintro r w4 ⟨rfl,af⟩;replace H:=H.call af;have ag:Lib.cut s.data.toList (⟨#[0,0]⟩:DB).data.toList=(tx,rs,ok):=ec;rw[ag];(conv=>whnf);refine zcv (qaaz ⟨rs.toArray⟩ ⟨#[0]⟩ w4 (hM.ext H.ext) (by show rs.length<=_;omega)) ?_;rintro r w5 ⟨rfl,ah⟩;replace H:=H.call ah;have ai:Lib.cut (⟨rs.toArray⟩:DB).data.toList (⟨#[0]⟩:DB).data.toList=(ty,la,fi):=ed;rw[ai];have aa:∀u,ReadsAs kind s.data.toList u->tx=escL u.text.data.toList/\ty=u.type.data.toList/\la=u.lang.data.toList/\ok=true/\fi=true:=λu V=>by
   rw[hk]at V;obtain⟨h1,h2⟩:=V.lit
   grind [q2m,qxc]
  refine if aj:ok=true/\fi=true then ?good else ?bad
 case' good=>
  obtain⟨rfl,rfl⟩:=aj;obtain⟨t,Z⟩:∃t:TM,t=⟨kind,⟨(Lib.replaceAll tx [0,1] [0]).toArray⟩,⟨ty.toArray⟩,⟨la.toArray⟩⟩:=⟨_,rfl⟩
  have W:t.kind=kind:=by rw[Z]
  have am:=qaen tx;have ht:TermOk t:=by
   rw[Z];refine⟨(by grind [InR]),?_,?_,?_⟩
   ·show(Lib.replaceAll tx [0,1] [0]).length<=_;omega
   ·show ty.length<=_;omega
   ·show la.length<=_;omega
  have U:∀u,ReadsAs kind s.data.toList u->u=t:=λu V=>by
   obtain⟨h1,h2,h3,_,_⟩:=aa u V;have h4:=V.kind;rw[Z];obtain⟨uk,ux,uy,ul⟩:=u
   simp_all[qs7]
  refine zu ?_;refine zcv (qgo ⟨tx.toArray⟩ ⟨#[0,1]⟩ ⟨#[0]⟩ w5 (hM.ext H.ext) rfl (by show tx.length<=_;omega) (.inr ⟨rfl,rfl⟩)) ?_;rintro r w6 ⟨rfl,ak⟩;replace H:=H.call ak;(conv=>whnf);refine StoreV.mem H (i:=0) rfl Js rfl λw7 H=>zw ?_;refine StoreV.mem H (i:=0) rfl Js rfl λw8 H=>zw ?_;refine StoreV.mem H (i:=0) rfl Js rfl λw3 H=>zw ?_
 case' inl|inr.inl|good=>
  replace H:Mem w w3 [(tb,.cells #[ii t.kind,.string t.text,.string t.type,.string t.lang] 45),(r4,.cells #[ii 0,.string ⟨#[]⟩,.string ⟨#[]⟩,.string ⟨#[]⟩] 45)]:=by rw[Z];exact H
  clear Z;refine zl H 0 ?_;refine zcv (qol t ht _ (hM.ext H.ext) (hT.ext H.ext)) ?_;rintro r w5 ⟨rfl,he⟩;replace H:=H.call he
  by_cases hE:qam t=0
  case' neg=>
   rw[Aa hE];have hv:qgt kind s.data.toList=vBad:=qhd λu V=>hE (U u V ▸ V.ok)
   refine zu ?_
  case' pos=>
   rw[Ab hE];cases hq:seq ⟨(qai t).toArray⟩ s
  case' true=>
   refine zu ?_;rw[hq];refine zu ?_;rw[qv8 ⟨W,hE,(by grind [qab])⟩];refine zl H 0 ?_;refine zS H 1 λw6 H=>zw ?_;refine qd (R:=λv w'=>v=.tuple #[qy t,ii 0]/\Ext w w') (zw ?_);refine zl H 1 ?_;exact⟨rfl,H.ext⟩
  case' false=>
   have hv:qgt kind s.data.toList=vBad:=qhd λu V=>by
    have e:=U u V;subst e;have:(⟨(qai u).toArray⟩:DB)=s:=qd0 V.entry
    grind [qab]
   refine zu ?_;rw[hq];refine zu ?_
 case' bad=>
  have hv:qgt kind s.data.toList=vBad:=by grind [qhd]
  obtain rfl|⟨rfl,rfl⟩:ok=false\/(ok=true/\fi=false):=by grind
  all_goals
   refine zu ?_
 all_goals
  rw[hv];refine zS H 1 λw6 H=>zw ?_;refine qd (R:=λv w'=>v=vBad/\Ext w w') (zw ?_);refine zl H 1 ?_;exact⟨rfl,H.ext⟩
open Go.RowKit Go.Extern.Stop Go.Stop Go.Extern
theorem qaft(t:DF)(w:DA):
  Calls Tryz.prog 52 #[.nilIface,t] w λe w'=>e=.returned (.bool false)/\w'=w:=by
 go_enter Tryz.func52,Tryz.ntmps52
 go_wp2
 go_ret
 exact⟨rfl,rfl⟩
theorem qp7(t:Addr)(w:DA):(ReflectliteValue.unpack (.iface 125 (.pointer (some t)))).run Tryz.prog w
  = .ok (.agg #[.pointer (some ⟨7,125,none⟩),.pointer (some ⟨w.heap.size,0,none⟩),.int .u64 150]) (w.alloc (.cells #[.pointer (some t)] 125)):=by kernel_rfl
theorem q0n(a:Addr)(w:DA):(ReflectliteValue.methodAny (ReflectliteValue.valueError "reflectlite.Value.Type" 0) (λt _ _ _=>ReflectliteType.toType t) #[.agg #[.pointer (some ⟨7,125,none⟩),.pointer (some a),.int .u64 150]]).run Tryz.prog w
  = .ok (.iface 314 (.agg #[.pointer (some ⟨7,125,none⟩)])) w:=by kernel_rfl
theorem qnb(h:DF)(w:DA):(Go.method 620 314 (.agg #[h]) "Kind").run Tryz.prog w=.ok (410,h) w:=by kernel_rfl
theorem q0m(w:DA):((ReflectliteType.abiMethod λt=>(λa:Nat=>Value.int IntKind.u8 (a:Int)) <$> Rtype.kind t) #[.pointer (some ⟨7,125,none⟩)]).run Tryz.prog w=.ok (.int .u8 22) w:=by kernel_rfl
theorem q0l(w:DA):((ReflectliteType.abiMethod λt=>(λa:Nat=>Value.int IntKind.u8 (a:Int)) <$> Rtype.kind t) #[.pointer (some ⟨7,123,none⟩)]).run Tryz.prog w=.ok (.int .u8 22) w:=by kernel_rfl
theorem rlm(z:Sem DF)(f:DD->Addr->Nat->Nat->Sem DF)(v:DF):
  ReflectliteValue.method z f #[v]=(do match <-ReflectliteValue.parts v with|none=>z|some (t,a,H)=>f t a H (H%32)):=rfl
theorem ql6(a:Addr)(w:DA):(ReflectliteValue.parts (.agg #[.pointer (some ⟨7,125,none⟩),.pointer (some a),.int .u64 150])).run DM w=.ok (some (125,a,150)) w:=by kernel_rfl
theorem qvc(a p:Addr)(W:DA)(U:W.cell? a=some (.pointer (some p))):
  (ReflectliteValue.method (ReflectliteValue.valueError "reflectlite.Value.IsNil" 0) ReflectliteValue.isNil #[.agg #[.pointer (some ⟨7,125,none⟩),.pointer (some a),.int .u64 150]]).run Tryz.prog W=.ok (.bool false) W:=by
 rw[rlm];simp only[Sem.run_bind,ql6,Result.andThen];simp[ReflectliteValue.isNil,loadVar,isAgg,underlying,Tryz.underlying125,U,Result.andThen]
theorem qna(h:DF)(w:DA):(Go.method 620 314 (.agg #[h]) "Elem").run Tryz.prog w=.ok (425,.agg #[h]) w:=by kernel_rfl
theorem qgg(h:DF)(w:DA):(Go.method 620 314 (.agg #[h]) "Implements").run Tryz.prog w=.ok (426,.agg #[h]) w:=by kernel_rfl
theorem qe8(h:DF)(w:DA):(Go.method 620 314 (.agg #[h]) "AssignableTo").run Tryz.prog w=.ok (423,.agg #[h]) w:=by kernel_rfl
theorem q0k(w:DA):(ReflectliteType.method ReflectliteType.elem #[.agg #[.pointer (some ⟨7,125,none⟩)]]).run Tryz.prog w=.ok (.iface 314 (.agg #[.pointer (some ⟨7,123,none⟩)])) w:=by kernel_rfl
theorem qj5(w:DA):(ReflectliteType.relation "Implements" ReflectliteType.implements_ #[.agg #[.pointer (some ⟨7,123,none⟩)],.iface 314 (.agg #[.pointer (some ⟨7,38,none⟩)])]).run Tryz.prog w=.ok (.bool true) w:=by kernel_rfl
theorem qsu(v:DF)(w:DA):(ReflectliteType.typeOf #[.iface 123 v]).run Tryz.prog w=.ok (.iface 314 (.agg #[.pointer (some ⟨7,123,none⟩)])) w:=by kernel_rfl
theorem qj4(w:DA):(ReflectliteType.relation "AssignableTo" ReflectliteType.assignableTo #[.agg #[.pointer (some ⟨7,123,none⟩)],.iface 314 (.agg #[.pointer (some ⟨7,123,none⟩)])]).run Tryz.prog w=.ok (.bool true) w:=by kernel_rfl
theorem qp6(e:Addr)(w:DA):(ReflectliteValue.unpack (.iface 123 (.pointer (some e)))).run Tryz.prog w
  = .ok (.agg #[.pointer (some ⟨7,123,none⟩),.pointer (some ⟨w.heap.size,0,none⟩),.int .u64 150]) (w.alloc (.cells #[.pointer (some e)] 123)):=by kernel_rfl
theorem qss(w:DA):(Rtype.elem? 125).run DM w=.ok (some 123) w:=by kernel_rfl
theorem q9n(p:Addr)(w:DA):(ReflectliteValue.mk 123 p ReflectliteValue.flagAddr).run DM w=.ok (.agg #[.pointer (some ⟨7,123,none⟩),.pointer (some p),.int .u64 406]) w:=by kernel_rfl
theorem qvb(a p:Addr)(W:DA)(U:W.cell? a=some (.pointer (some p))):
  (ReflectliteValue.method (ReflectliteValue.valueError "reflectlite.Value.Elem" 0) ReflectliteValue.elem #[.agg #[.pointer (some ⟨7,125,none⟩),.pointer (some a),.int .u64 150]]).run Tryz.prog W
   = .ok (.agg #[.pointer (some ⟨7,123,none⟩),.pointer (some p),.int .u64 406]) W:=by
 rw[rlm];simp only[Sem.run_bind,ql6,Result.andThen];simp[ReflectliteValue.elem,loadVar,isAgg,underlying,Tryz.underlying125,U,Result.andThen,qss,q9n]
theorem rls(v x:DF):ReflectliteValue.set #[v,x]=(do
  let(some (U,a,fl),some (V,b,_)):=(<-ReflectliteValue.parts v,<-ReflectliteValue.parts x)
   | unsupported (.noEntry "extern/(internal/reflectlite.Value).Set.zeroValue")
  if fl/ReflectliteValue.flagAddr%2==0 then unsupported (.noEntry "extern/(internal/reflectlite.Value).Set.unaddressable")
  let Z <-loadVar V b
  if <-Rtype.directlyAssignable U V then storeVar U a Z
  else if <-Rtype.implements U V then
   if(<-Rtype.kind V)==20 then
    match Z with
    | .nilIface=>unsupported (.noEntry "extern/reflectlite: a nil value of one interface type handed on as a value of another")
    | _=>storeVar U a Z
   else storeVar U a (.iface V Z)
  else panicString ("reflectlite.Set: value of type "++(<-Rtype.spelt V)++ " is not assignable to type "++(<-Rtype.spelt U))
  pure (.tuple #[])):=rfl
theorem qst(a:Addr)(w:DA):(ReflectliteValue.parts (.agg #[.pointer (some ⟨7,123,none⟩),.pointer (some a),.int .u64 406])).run DM w=.ok (some (123,a,406)) w:=by kernel_rfl
theorem qvd(a:Addr)(w:DA):(ReflectliteValue.parts (.agg #[.pointer (some ⟨7,123,none⟩),.pointer (some a),.int .u64 150])).run DM w=.ok (some (123,a,150)) w:=by kernel_rfl
theorem qsr(w:DA):(Rtype.directlyAssignable 123 123).run DM w=.ok true w:=by kernel_rfl
theorem q5o(H b e:Addr)(U:DF)(W:DA)(V:W.cell? b=some (.pointer (some e)))(Z:W.cell? H=some U)(hf:W.frozen? H=false):
  (ReflectliteValue.set #[.agg #[.pointer (some ⟨7,123,none⟩),.pointer (some H),.int .u64 406],.agg #[.pointer (some ⟨7,123,none⟩),.pointer (some b),.int .u64 150]]).run Tryz.prog W
   = .ok (.tuple #[]) (W.setCell H (.pointer (some e))):=by
 rw[rls];simp only[Sem.run_bind,qst,qvd,Result.andThen];simp[ReflectliteValue.flagAddr,loadVar,isAgg,underlying,Tryz.underlying123,V,Result.andThen,qsr,storeVar,Value.cells,storeCells,Addr.add];rw[run_store Tryz.prog W H _ _ (by rfl)];simp[Z,hf]
theorem qafs(e t:Addr)(W:DF)(w:DA)(hg:w.cell? ⟨0,0,none⟩=some (.iface 314 (.agg #[.pointer (some ⟨7,38,none⟩)])))(Z:w.cell? t=some W)(ad:w.frozen? t=false):
  Calls Tryz.prog 52 #[.iface 123 (.pointer (some e)),.iface 125 (.pointer (some t))] w λev w'=>ev=.returned (.bool true)/\w'=((((w.alloc (.cells #[.pointer (some t)] 125)).alloc (.cells #[.pointer (some ⟨7,125,none⟩),.pointer (some ⟨w.heap.size,0,none⟩),.int .u64 150] 210)).alloc (.cells #[.pointer (some ⟨7,125,none⟩),.pointer (some ⟨w.heap.size,0,none⟩),.int .u64 150] 210)).alloc (.cells #[.pointer (some e)] 123)).setCell t (.pointer (some e)):=by
 have h6:=@run_callFunc_extern Tryz.prog 108 _ (λargs=>ReflectliteValue.unpack (args.getD 0 (.tuple #[]))) Tryz.func108 Jk Jk Jk Jk;have h7:=@run_callFunc_extern Tryz.prog 109 _ (ReflectliteValue.methodAny (ReflectliteValue.valueError "reflectlite.Value.Type" 0) (λt _ _ _=>ReflectliteType.toType t)) Tryz.func109 Jk Jk Jk Jk;have h8:=@run_callFunc_extern Tryz.prog 110 _ (ReflectliteValue.method (ReflectliteValue.valueError "reflectlite.Value.IsNil" 0) ReflectliteValue.isNil) Tryz.func110 Jk Jk Jk Jk;have af:=@run_callFunc_extern Tryz.prog 410 _ (ReflectliteType.abiMethod λt=>do pure (.int .u8 (<-Rtype.kind t))) Tryz.func410 Jk Jk Jk Jk;have ag:=@run_callFunc_extern Tryz.prog 425 _ (ReflectliteType.method ReflectliteType.elem) Tryz.func425 Jk Jk Jk Jk;have ah:=@run_callFunc_extern Tryz.prog 426 _ (ReflectliteType.relation "Implements" ReflectliteType.implements_) Tryz.func426 Jk Jk Jk Jk;have ai:=@run_callFunc_extern Tryz.prog 182 _ ReflectliteType.typeOf Tryz.func182 Jk Jk Jk Jk;have aj:=@run_callFunc_extern Tryz.prog 423 _ (ReflectliteType.relation "AssignableTo" ReflectliteType.assignableTo) Tryz.func423 Jk Jk Jk Jk;have ak:=@run_callFunc_extern Tryz.prog 183 _ (ReflectliteValue.method (ReflectliteValue.valueError "reflectlite.Value.Elem" 0) ReflectliteValue.elem) Tryz.func183 Jk Jk Jk Jk;have al:=@run_callFunc_extern Tryz.prog 184 _ ReflectliteValue.set Tryz.func184 Jk Jk Jk Jk;have tO:=qsu;have mA:=qe8;have am:=qj4;have an:=qp6;have f6:=qp7;have f7:=q0n;have mK:=qnb;have mE:=qna;have mI:=qgg;have ao:=q0m;have aq:=q0l;have ar:=q0k;have au:=qj5;have n8:=qvc ⟨w.heap.size,0,none⟩ t ((w.alloc (.cells #[.pointer (some t)] 125)).alloc (.cells #[.pointer (some ⟨7,125,none⟩),.pointer (some ⟨w.heap.size,0,none⟩),.int .u64 150] 210)) Js;have ae:0<w.heap.size:=by
  rcases AN 0 w.heap.size with h|h
  ·exact h
  ·simp[World.cell?,Bz h]at hg
 have av:((w.alloc (.cells #[.pointer (some t)] 125)).alloc (.cells #[.pointer (some ⟨7,125,none⟩),.pointer (some ⟨w.heap.size,0,none⟩),.int .u64 150] 210)).cell? ⟨0,0,none⟩=some (.iface 314 (.agg #[.pointer (some ⟨7,38,none⟩)])):=by
  rw[World.cell?_alloc_lt _ _ ⟨0,0,none⟩ (by simp<;>omega),World.cell?_alloc_lt _ _ ⟨0,0,none⟩ ae];exact hg
 have aa:t.block<w.heap.size:=by
  rcases AN t.block w.heap.size with h|h
  ·exact h
  ·simp[World.cell?,Bz h]at Z
 have el:=qvb ⟨w.heap.size,0,none⟩ t (((w.alloc (.cells #[.pointer (some t)] 125)).alloc (.cells #[.pointer (some ⟨7,125,none⟩),.pointer (some ⟨w.heap.size,0,none⟩),.int .u64 150] 210)).alloc (.cells #[.pointer (some ⟨7,125,none⟩),.pointer (some ⟨w.heap.size,0,none⟩),.int .u64 150] 210)) (by rw[World.cell?_alloc_lt _ _ ⟨w.heap.size,0,none⟩ Ys];simp);have st:=q5o t ⟨w.heap.size+1+1+1,0,none⟩ e W ((((w.alloc (.cells #[.pointer (some t)] 125)).alloc (.cells #[.pointer (some ⟨7,125,none⟩),.pointer (some ⟨w.heap.size,0,none⟩),.int .u64 150] 210)).alloc (.cells #[.pointer (some ⟨7,125,none⟩),.pointer (some ⟨w.heap.size,0,none⟩),.int .u64 150] 210)).alloc (.cells #[.pointer (some e)] 123))
  (by rw[World.cell?_alloc_at _ _ _ _ Js];rfl)
  (by rw[World.cell?_alloc_lt _ _ t Ys,World.cell?_alloc_lt _ _ t Ys,World.cell?_alloc_lt _ _ t Ys,World.cell?_alloc_lt _ _ t aa];exact Z)
  (by rw[World.frozen?_alloc_old _ _ t Ys,World.frozen?_alloc_old _ _ t Ys,World.frozen?_alloc_old _ _ t Ys,World.frozen?_alloc_old _ _ t (Du aa)];exact ad)
 go_enter Tryz.func52,Tryz.ntmps52
 go_wp2
 refine wp_loop_rounds 1 ?_;rw[rounds_succ]
 go_wp2
 go_ret
 exact⟨rfl,rfl⟩
def entV(x:LB×Nat×Nat):DF:=.tuple #[.string ⟨x.1.toArray⟩,ii x.2.1,ii x.2.2]
theorem q2w{m:LB}{first:Bool}{s y:Nat×Nat×Nat}(es:s=if first then(0,0,0)else numL m)(H:y=numL (m.drop s.2.1))(V:s.2.2=0)(U:y.2.2=0):
  entG m first ahead=if ahead.length<s.1 then([],0,161)else if 262144<y.1\/262144<s.1+y.1 then([],0,2)else if m.length-s.2.1-y.2.1<y.1 then([],0,10)else(ahead.take s.1++(m.drop (s.2.1+y.2.1)).take y.1,s.2.1+y.2.1+y.1,0):=by
 unfold entG;rw[<-es];dsimp only;rw[Aa Oo,<-H,Aa Oo]
theorem qrq(b:Nat)(m:LB)(p:Nat)(first:Bool)(H:DB)(w:DA)(h:DictAt w b m)(hp:p<=4294967296)(am:H.size<=262144):
  Gv DM 322 [pp b,ii p,.bool first,.string H] w λr w'=>r=entV (qc1 (qe m) p first H.data.toList)/\Ext w w':=by
 obtain⟨⟨P,cp,E,ce,h1,h2,h3,h4⟩,h5,h6,h7,h8⟩:=h;obtain⟨D,eD⟩:∃D,D=qe m:=⟨_,rfl⟩
 rw[<-eD]at h1 h3 h4 h8|-;refine ze Tryz.func322 Tryz.ntmps322 ?_;refine zv ?_;refine LoadV.own h1 rfl (zw ?_);refine zt ?_;refine zC (λ_=>zw ?_) (λ_=>zw ?_)
 ·rw[qc1,Ab Oo];exact⟨rfl,xr⟩
 refine LoadV.own h1 rfl (zw ?_);refine SliceV.bs h3 rfl p D.length ce rfl rfl rfl Oo znr h4 znr (λh=>by cases h) ?_;intro A' ah;rw[Aj Js]at ah;(conv=>whnf);obtain⟨B,eB⟩:∃B,B=D.drop p:=⟨_,rfl⟩
 have aj:B.length=D.length-p:=by rw[eB,zld]
 rw[<-eB]at ah;have aa:∀w',Ext w w'->BS w' (.slice A' (D.length-p) (ce-p)) B:=λw' he=>⟨A',ce-p,by rw[aj],by rw[aj];omega,ah.ext he⟩
 refine zcv (qex _ B w (aa w xr)) ?_;rintro v w1 ⟨Z,rfl,an,ao,aq⟩;have V:Mem w w1 [(Z,curO 367 (.slice A' (D.length-p) (ce-p)) 0 0)]:=(Mem.nil w).fresh aq an ao;(conv=>whnf);obtain⟨s,es⟩:∃s:Nat×Nat×Nat,s=if first then(0,0,0)else numL B:=⟨_,rfl⟩
 have ak:s.1<18446744073709551616/\s.2.1<=B.length:=by
  have:=qav B;rw[es];split
  ·exact⟨by decide,Af _⟩
  ·exact⟨this.1,this.2.1⟩
 cases first
 ·refine zv ?_;refine zcv (qdj Z _ 0 0 B w1 (V.get mh) (aa w1 V.ext) (Af _) Oo) ?_;rintro r w2 ⟨rfl,hu⟩
  by_cases he:(numL (B.drop 0)).2.2=0
  ·obtain⟨q1,q2,q3⟩:=qwa he;rw[q2,q3,As]at hu;rw[q1];have es:s=numL B:=es;have V:Mem w w2 [(Z,curO 367 (.slice A' (D.length-p) (ce-p)) s.2.1 0)]:=by rw[es];exact V.upd (i:=0) rfl hu
   have e1:(numL (B.drop 0)).1=s.1:=by rw[es];rfl
   have e2:s.2.2=0:=by rw[es];exact he
   rw[e1];clear q1 q2 q3 hu e1;(conv=>whnf);refine zcv (qcf Z _ _ 0 w2 (V.get mh)) ?_;rintro r w3 ⟨rfl,rfl⟩;refine zu ?_;refine zcv (qdj Z _ s.2.1 0 B _ (V.get mh) (aa _ V.ext) ak.2 Oo) ?_;rintro r w4 ⟨rfl,hu⟩;have ad:=qav (B.drop s.2.1);rw[zld]at ad
   by_cases W:(numL (B.drop s.2.1)).2.2=0
   ·obtain⟨q1,q2,q3⟩:=qwa W;rw[q2,q3]at hu;rw[q1];clear q1 q2 q3;obtain⟨y,ey⟩:∃y,y=numL (B.drop s.2.1):=⟨_,rfl⟩
    rw[<-ey]at W hu ad|-;have hE:=q2w (ahead:=H.data.toList) (first:=false) es ey e2 W;have ar:H.data.toList.length=H.size:=rfl;have V:Mem w w4 [(Z,curO 367 (.slice A' (D.length-p) (ce-p)) (s.2.1+y.2.1) 0)]:=V.upd (i:=0) rfl hu;(conv=>whnf);refine zcv (qcf Z _ _ 0 w4 (V.get mh)) ?_;rintro r w5 ⟨rfl,rfl⟩;conv=>whnf
    (repeat'(first|refine zp ?_|refine zC (λ_=>zw ?_) (λ_=>zw ?_)))
    ·have U:entG B false H.data.toList=([],0,161):=by rw[hE,Ab Oo]
     rw[qc1,Aa Oo,<-eB,U];exact⟨rfl,V.ext⟩
    ·have U:entG B false H.data.toList=([],0,2):=by rw[hE,Aa Oo,Ab Oo]
     rw[qc1,Aa Oo,<-eB,U];exact⟨rfl,V.ext⟩
    ·have U:entG B false H.data.toList=([],0,2):=by rw[hE,Aa Oo,Ab Oo]
     rw[qc1,Aa Oo,<-eB,U];exact⟨rfl,V.ext⟩
    refine zcv (qps Z _ (s.2.1+y.2.1) 0 B w5 (V.get mh) (aa w5 V.ext) Oo Oo) ?_;rintro r w6 ⟨rfl,ai⟩;have V:=V.call ai;(conv=>whnf);refine zt ?_;refine zC (λ_=>zw ?_) (λ_=>zw ?_)
    ·have U:entG B false H.data.toList=([],0,10):=by rw[hE,Aa Oo,Aa Oo,Ab Oo]
     rw[qc1,Aa Oo,<-eB,U];exact⟨rfl,V.ext⟩
    have U:entG B false H.data.toList=(H.data.toList.take s.1++(B.drop (s.2.1+y.2.1)).take y.1,s.2.1+y.2.1+y.1,0):=by rw[hE,Aa Oo,Aa Oo,Aa Oo]
    rw[qc1,Aa Oo,<-eB,U];refine zcv (qjk Z _ (s.2.1+y.2.1) 0 w6 (V.get mh)) ?_;rintro r w7 ⟨rfl,rfl⟩;refine zu ?_;refine zy ?_;have V:=V.drew;refine zv ?_;refine SliceS.at_ 0 s.1 rfl (by show(_:Int)=_;omega) Oo Oo (zu ?_);refine LoadV.own (V.ext.get h1) rfl (zu ?_);refine SliceV.bs (h3.ext V.ext) rfl (p+(s.2.1+y.2.1)) (p+(s.2.1+y.2.1)+y.1) ce (by show(_:Int)=_;omega) (by show(_:Int)=_;omega) rfl Oo Oo Oo znr (λh=>by cases h) ?_;intro A2 ae;refine zu ?_;have af:((D.drop (p+(s.2.1+y.2.1))).take (p+(s.2.1+y.2.1)+y.1-(p+(s.2.1+y.2.1))))=(B.drop (s.2.1+y.2.1)).take y.1:=by
     rw[eB,Am];congr 1;omega
    rw[af]at ae;refine BytesS.sl ae (by rw[Ar,zld];omega) (zu ?_);have z1:(H.extract 0 s.1).size=s.1:=by rw[Bm];omega
    have z2:(⟨((B.drop (s.2.1+y.2.1)).take y.1).toArray⟩:DB).size=y.1:=by
     show(List.toArray _).size=_;rw[CF,Ar,zld];omega
    refine Obl.mk (by rw[z1,z2];omega) (zw ?_);have ag:H.extract 0 s.1++⟨((B.drop (s.2.1+y.2.1)).take y.1).toArray⟩=(⟨(H.data.toList.take s.1++(B.drop (s.2.1+y.2.1)).take y.1).toArray⟩:DB):=by
     apply D0;rw[<-Bh,Cl,BH];simp
    rw[ag,Aa Js];refine zv ?_;refine⟨?_,V.ext⟩;have e8:((p:Int)+((s.2.1+y.2.1:Nat):Int)+((y.1:Nat):Int))=((p+(s.2.1+y.2.1+y.1):Nat):Int):=by omega
    rw[e8];rfl
   ·obtain⟨q1,q2,q3⟩:=qv9 W;rw[q2,q3]at hu;rw[q1];have V:Mem w w4 [(Z,curO 367 (.slice A' (D.length-p) (ce-p)) s.2.1 (numL (B.drop s.2.1)).2.2)]:=V.upd (i:=0) rfl hu;(conv=>whnf);refine zcv (qcf Z _ _ _ w4 (V.get mh)) ?_;rintro r w5 ⟨rfl,rfl⟩;refine zu ?_;have U:(entG B false H.data.toList)=([],0,(numL (B.drop s.2.1)).2.2):=by
     simp only[entG,CT,if_false,<-es];rw[Aa Oo,Ab W]
    rw[qc1,Aa Oo,<-eB,U,Ab W];exact⟨rfl,V.ext⟩
  ·obtain⟨q1,q2,q3⟩:=qv9 he;rw[q2,q3]at hu;rw[q1];have V:Mem w w2 [(Z,curO 367 (.slice A' (D.length-p) (ce-p)) 0 (numL B).2.2)]:=V.upd (i:=0) rfl hu;have al:(numL B).2.2≠0:=he;(conv=>whnf);refine zcv (qcf Z _ _ _ w2 (V.get mh)) ?_;rintro r w3 ⟨rfl,rfl⟩;refine zu ?_;have U:qc1 D p false H.data.toList=([],0,(numL B).2.2):=by
    have:(entG B false H.data.toList).2.2=(numL B).2.2:=by
     simp only[entG,CT,if_false];rw[Ab al]
    rw[qc1,Aa Oo,<-eB,this,Ab al]
   rw[U];exact⟨rfl,V.ext⟩
 ·refine zv ?_;have es:s=(0,0,0):=es;have V:Mem w w1 [(Z,curO 367 (.slice A' (D.length-p) (ce-p)) s.2.1 0)]:=by rw[es];exact V
  have e2:s.2.2=0:=by rw[es]
  refine zcv (qcf Z _ _ 0 w1 (V.get mh)) ?_;rintro r w3 ⟨rfl,rfl⟩;refine zu ?_;refine zcv (qdj Z _ s.2.1 0 B _ (V.get mh) (aa _ V.ext) ak.2 Oo) ?_;rintro r w4 ⟨rfl,hu⟩;have ad:=qav (B.drop s.2.1);rw[zld]at ad
  by_cases W:(numL (B.drop s.2.1)).2.2=0
  ·obtain⟨q1,q2,q3⟩:=qwa W;rw[q2,q3]at hu;rw[q1];clear q1 q2 q3;obtain⟨y,ey⟩:∃y,y=numL (B.drop s.2.1):=⟨_,rfl⟩
   rw[<-ey]at W hu ad|-;have hE:=q2w (ahead:=H.data.toList) (first:=true) es ey e2 W;have ar:H.data.toList.length=H.size:=rfl;have au:s.1=0:=by rw[es]
   have V:Mem w w4 [(Z,curO 367 (.slice A' (D.length-p) (ce-p)) (s.2.1+y.2.1) 0)]:=V.upd (i:=0) rfl hu;(conv=>whnf);refine zcv (qcf Z _ _ 0 w4 (V.get mh)) ?_;rintro r w5 ⟨rfl,rfl⟩;(conv=>whnf);refine zt ?_;refine zC (λ_=>zu ?_) (λ_=>zu ?_)
   ·have U:entG B true H.data.toList=([],0,2):=by rw[hE,Aa Oo,Ab Oo]
    rw[qc1,Aa Oo,<-eB,U];exact⟨rfl,V.ext⟩
   refine zcv (qps Z _ (s.2.1+y.2.1) 0 B w5 (V.get mh) (aa w5 V.ext) Oo Oo) ?_;rintro r w6 ⟨rfl,ai⟩;have V:=V.call ai;(conv=>whnf);refine zt ?_;refine zC (λ_=>zw ?_) (λ_=>zw ?_)
   ·have U:entG B true H.data.toList=([],0,10):=by rw[hE,Aa Oo,Aa Oo,Ab Oo]
    rw[qc1,Aa Oo,<-eB,U];exact⟨rfl,V.ext⟩
   have U:entG B true H.data.toList=(H.data.toList.take s.1++(B.drop (s.2.1+y.2.1)).take y.1,s.2.1+y.2.1+y.1,0):=by rw[hE,Aa Oo,Aa Oo,Aa Oo]
   rw[qc1,Aa Oo,<-eB,U];refine zcv (qjk Z _ (s.2.1+y.2.1) 0 w6 (V.get mh)) ?_;rintro r w7 ⟨rfl,rfl⟩;refine zu ?_;refine zy ?_;have V:=V.drew;refine zv ?_;refine SliceS.at_ 0 s.1 rfl (by show(_:Int)=_;omega) Oo Oo (zu ?_);refine LoadV.own (V.ext.get h1) rfl (zu ?_);refine SliceV.bs (h3.ext V.ext) rfl (p+(s.2.1+y.2.1)) (p+(s.2.1+y.2.1)+y.1) ce (by show(_:Int)=_;omega) (by show(_:Int)=_;omega) rfl Oo Oo Oo znr (λh=>by cases h) ?_;intro A2 ae;refine zu ?_;have af:((D.drop (p+(s.2.1+y.2.1))).take (p+(s.2.1+y.2.1)+y.1-(p+(s.2.1+y.2.1))))=(B.drop (s.2.1+y.2.1)).take y.1:=by
    rw[eB,Am];congr 1;omega
   rw[af]at ae;refine BytesS.sl ae (by rw[Ar,zld];omega) (zu ?_);have z1:(H.extract 0 s.1).size=s.1:=by rw[Bm];omega
   have z2:(⟨((B.drop (s.2.1+y.2.1)).take y.1).toArray⟩:DB).size=y.1:=by
    show(List.toArray _).size=_;rw[CF,Ar,zld];omega
   refine Obl.mk (by rw[z1,z2];omega) (zw ?_);have ag:H.extract 0 s.1++⟨((B.drop (s.2.1+y.2.1)).take y.1).toArray⟩=(⟨(H.data.toList.take s.1++(B.drop (s.2.1+y.2.1)).take y.1).toArray⟩:DB):=by
    apply D0;rw[<-Bh,Cl,BH];simp
   rw[ag,Aa Js];refine zv ?_;refine⟨?_,V.ext⟩;have e8:((p:Int)+((s.2.1+y.2.1:Nat):Int)+((y.1:Nat):Int))=((p+(s.2.1+y.2.1+y.1):Nat):Int):=by omega
   rw[e8];rfl
  ·obtain⟨q1,q2,q3⟩:=qv9 W;rw[q2,q3]at hu;rw[q1];have V:Mem w w4 [(Z,curO 367 (.slice A' (D.length-p) (ce-p)) s.2.1 (numL (B.drop s.2.1)).2.2)]:=V.upd (i:=0) rfl hu;(conv=>whnf);refine zcv (qcf Z _ _ _ w4 (V.get mh)) ?_;rintro r w5 ⟨rfl,rfl⟩;refine zu ?_;have U:(entG B true H.data.toList)=([],0,(numL (B.drop s.2.1)).2.2):=by
    simp only[entG,if_true,<-es];rw[Aa Oo,Ab W]
   rw[qc1,Aa Oo,<-eB,U,Ab W];exact⟨rfl,V.ext⟩
open Go.RowKit
namespace V
def Fr(r:Option Nat):Fence:={ fn:=λ_=>True,depth:=none,alive:=false,round:=r }
theorem qdg{r:Option Nat}{R:Ending->DI}:CallsIn (Fr r) m P f args w R↔Calls P f args w R:=by
 show CallsIn Fence.wide m P f args w R↔_;exact callsIn_wide
def Sw(n:Nat)(ρ:DH)(a:Act):Prop:=St n ρ { a with defers:=[] }
theorem Sw.eval{n:Nat}{a:Act}(h:Sw n ρ a):a.eval=ev ρ:=by
 have:=St.eval h;rw[<-this];rfl
theorem Sw.put{n:Nat}{a:Act}(h:Sw n ρ a)(ds:DO){H:Option Tmp}{v:DF}{K:DH->Prop}(W:putV n H ρ v K):
  ∃U,Sw n U ({ a with defers:=ds }.put H v)/\({ a with defers:=ds }.put H v).defers=ds/\K U:=by
 obtain⟨U,Z,h2⟩:=putV.st W h;refine⟨U,?_,?_,h2⟩
 ·cases H<;>exact Z
 ·cases H<;>rfl
theorem Sw.st{n:Nat}{a:Act}(h:Sw n ρ a)(U:a.defers=[]):St n ρ a:=by
 have:a={ a with defers:=[] }:=by cases a;cases U;rfl
 rw[this];exact h
theorem St.sw{n:Nat}{a:Act}(h:St n ρ a):Sw n ρ a:=by
 have:a={ a with defers:=[] }:=by have:=h.defers;cases a;cases this;rfl
 grind [Sw]
structure YieldV(P:DC)(l:Nat)(args:DK)(w:DA)(K:DG):Prop where
 h:YieldAt (Fr none) 0 P l args.toArray w λe w'=>∃v,e=.returned v/\K v w'
theorem YieldV.mono{l:Nat}{args:DK}{V:DG}(h:YieldV P l args w K)(hk:∀v w',K v w'->V v w'):YieldV P l args w V:=by
 obtain⟨W,H,U,b,Z,h2⟩:=h.h;exact⟨⟨W,H,U,b,Z,h2.mono (by grind)⟩⟩
def qacl(P:DC)(c:Call)(ty:DD)(ρ:DH)(w:DA)(s:Sem Next)(K:DG):Prop:=
 match c.callee with
 | .value f=>match ev ρ f with
  | .func (.yield l) first H=>match first.toList,H.toList with
   | [],[]=>qch (evs ρ c.args.toList) λvs=>YieldV P l vs w K
   | _,_=>False
  | .func (.func g) first H=>qch (evs ρ c.args.toList) λvs=>
   match first.toList,H.toList with
   | [],[]=>CallV P g vs w K
   | x,y=>CallV P g (x++(vs++y)) w K
  | _=>Fall P s w K
 | .builtin .len=>lenV P (getL c.argTypes.toList 0) (evs ρ c.args.toList) w s K
 | .builtin .append=>appV P c.argTypes ty (evs ρ c.args.toList) w s K
 | .invoke U name=>match ev ρ U with
  | .iface t v=>qch (evs ρ c.args.toList) λvs=>InvV P t v name vs w K
  | _=>Fall P s w K
 | _=>Fall P s w K
def defW(c:Call)(ρ:DH)(K:Deferred->Prop):Prop:=
 match c.callee with
 | .value f=>match ev ρ f with
  | .func (.func g) first H=>match first.toList,H.toList with
   | [],[]=>qch (evs ρ c.args.toList) λvs=>K { target:=.fn (.func g) #[],args:=vs.toArray }
   | _,_=>False
  | _=>False
 | _=>False
def opW(P:DC)(r:Option Nat)(o:Oper)(ρ:DH)(ds:DO)(w:DA)(K:DF->DO->DI):Prop:=
 match o.op with
 | .call c=>qacl P c o.type ρ w (execOp (ev ρ) o) λv w'=>K v ds w'
 | .defer c=>match r with
  | none=>defW c ρ λd=>K undef (d::ds) w
  | some _=>False
 | _=>opV P o ρ w λv w'=>K v ds w'
section
variable {P:DC} {n:Nat} {r:Option Nat}
theorem q71{c:Call}(Z:o.op=.call c)(h:qacl P c o.type ρ w (execOp (ev ρ) o) K):
  OpOk P (execOp (ev ρ) o) w K\/∃l f H V b,(execOp (ev ρ) o).run P w=.ok (.round l f H V b) w/\RoundIn (Fr none) 0 P l f H V b w λe w'=>∃v,e=.returned v/\K v w':=by
 have W:q19 P c o.type ρ w (execOp (ev ρ) o) K->OpOk P (execOp (ev ρ) o) w K:=qw3 Z;unfold qacl at h;unfold q19 at W
 split at h
 ·rename_i f hc
  simp only[hc]at W
  split at h
  ·rename_i l first U hf
   split at h
   ·rename_i h1 h2
    rw[qan]at h;obtain⟨f',H,V,b,hy,hR⟩:=h.h;refine .inr ⟨l,f',H,V,b,?_,hR⟩;have e1:first=#[]:=by simp_all
    have e2:U=#[]:=by simp_all
    subst e1 e2;rw[qea]at hy;have e3:(c.args.toList.map (ev ρ)).toArray=c.args.map (ev ρ):=by grind
    grind [execOp,resolve,Deferred.ofValue,invoke]
   ·exact h.elim
  all_goals grind
 all_goals grind
theorem qabj{K:DF->DO->DI}{a:Act}{next:Act->DI}{Q:Exit->Act->DI}(ha:Sw n ρ a)(hd:a.defers=ds)(h:opW P r o ρ ds w K)(hn:∀v aa w',K v aa w'->next ({ a with defers:=aa }.put o.dst v) w'):o.wpIn (Fr r) 0 P a w next Q:=by
 refine⟨λ_ _=>trivial,?_⟩;have ag:({ a with defers:=ds }:Act)=a:=by subst hd;rfl
 have Z:∀v w',K v ds w'->next (a.put o.dst v) w':=(by grind)
 rw[ha.eval];unfold opW at h
 split at h
 ·rename_i c ho
  rw[Oper.semAt_eq _ _ _ (by intro c' e;rw[ho]at e;cases e)]
  rcases q71 ho h with((⟨v,w',U,H⟩|⟨w',U,H⟩)|⟨f,args,U,H⟩)|⟨l,f,ad,ae,b,U,H⟩
  ·rw[U];exact Z _ _ H
  ·rw[U];exact Z _ _ H
  ·rw[U,Oper.uponIn_enter];refine⟨(by grind [Fr]),qdg.2 (H.mono λe w' ⟨v,he,hk⟩=>?_)⟩
   simp_all
  ·rw[U,Oper.uponIn_round];refine⟨(by grind [Fr]),?_⟩;have H:RoundIn (Fr r) 0 P l f ad ae b w _:=H;refine H.mono λe w' ⟨v,he,hk⟩=>?_
   simp_all
 ·rename_i c ho
  split at h
  ·unfold defW at h
   split at h
   ·rename_i f hc
    split at h
    ·rename_i g first V hf
     split at h
     ·rename_i U H
      rw[qan]at h;have e1:first=#[]:=by simp_all
      have e2:V=#[]:=by simp_all
      subst e1 e2;rw[qea]at h;have e3:(c.args.toList.map (ev ρ)).toArray=c.args.map (ev ρ):=by grind
      simp_all[Oper.semAt_none,execOp,resolve,Deferred.ofValue,Fr,Oper.uponIn_defer]
     ·exact h.elim
    ·exact h.elim
   ·exact h.elim
  ·exact h.elim
 ·rename_i ah af
  rw[Oper.semAt_eq _ _ _ (λc e=>af c e)]
  rcases q48 h with(⟨v,w',U,H⟩|⟨w',U,H⟩)|⟨f,args,U,H⟩
  ·rw[U];exact Z _ _ H
  ·rw[U];exact Z _ _ H
  ·rw[U,Oper.uponIn_enter];refine⟨(by grind [Fr]),qdg.2 (H.mono λe w' ⟨v,he,hk⟩=>?_)⟩
   simp_all
end
def runW(P:DC)(n:Nat)(r:Option Nat)(o:Oper)(K:DH->DO->DI)(ρ:DH)(ds:DO)(w:DA):Prop:=
 opW P r o ρ ds w λv H w'=>putV n o.dst ρ v λU=>K U H w'
def qvx(n:Nat)(o:Oper)(K:DH->DO->DI)(ρ:DH)(ds:DO)(w:DA):Prop:=
 putV n o.dst ρ undef λH=>K H ds w
def regW(P:DC)(n:Nat)(r:Option Nat)(ops:List Oper)(Q:DH->DO->DI):List Oper->DH->DO->DA->Prop
 | [],ρ,ds,w=>Q ρ ds w
 | o::H,ρ,ds,w=>
  match o.guard with
  | none=>runW P n r o (regW P n r ops Q H) ρ ds w
  | some (j,U)=>
   match getL ops j with
   | none=>qvx n o (regW P n r ops Q H) ρ ds w
   | some oj=>match oj.dst with
    | none=>qvx n o (regW P n r ops Q H) ρ ds w
    | some d=>bif Nat.blt d n then
      match ρ d with
      | .bool b=>Tst b
        (match U with
         | true=>runW P n r o (regW P n r ops Q H) (upd ρ d (.bool true)) ds w
         | false=>qvx n o (regW P n r ops Q H) (upd ρ d (.bool true)) ds w)
        (match U with
         | true=>qvx n o (regW P n r ops Q H) (upd ρ d (.bool false)) ds w
         | false=>runW P n r o (regW P n r ops Q H) (upd ρ d (.bool false)) ds w)
      | _=>qvx n o (regW P n r ops Q H) ρ ds w
     else False
def seqW(K:DH->DO->DI)(Q:QW):QW
 | .normal,ρ,ds,w=>K ρ ds w
 | .exit i,ρ,ds,w=>Q (.exit i) ρ ds w
 | .goto l,ρ,ds,w=>Q (.goto l) ρ ds w
 | .ret,ρ,ds,w=>Q .ret ρ ds w
 | .panic c,ρ,ds,w=>Q (.panic c) ρ ds w
 | .outgrown,ρ,ds,w=>Q .outgrown ρ ds w
def qwz(id:Nat)(Q:QW):QW
 | .normal,ρ,ds,w=>Q .normal ρ ds w
 | .exit i,ρ,ds,w=>bif Nat.beq i id then Q .normal ρ ds w else Q (.exit i) ρ ds w
 | .goto l,ρ,ds,w=>Q (.goto l) ρ ds w
 | .ret,ρ,ds,w=>Q .ret ρ ds w
 | .panic c,ρ,ds,w=>Q (.panic c) ρ ds w
 | .outgrown,ρ,ds,w=>Q .outgrown ρ ds w
def qe7(n:Nat)(Q:QW):Exit->Act->DA->Prop:=λe a w=>∃ρ,Sw n ρ a/\Q e ρ a.defers w
structure LoopW(P:DC)(n:Nat)(r:Option Nat)(body:Code)(Q:QW)(ρ:DH)(ds:DO)(w:DA):Prop where
 h:∀a,Sw n ρ a->a.defers=ds->(Code.loop body).wpIn (Fr r) 0 P (qe7 n Q) a w
structure DrawW(P:DC)(n:Nat)(r:Option Nat)(id:Nat)(ops:Array Oper)(Q:QW)(ρ:DH)(ds:DO)(w:DA):Prop where
 h:∀a,Sw n ρ a->a.defers=ds->(Code.region id ops true).wpIn (Fr r) 0 P (qe7 n Q) a w
structure ScopeW(P:DC)(n:Nat)(r:Option Nat)(c:Code)(Q:QW)(ρ:DH)(ds:DO)(w:DA):Prop where
 h:∀a,Sw n ρ a->a.defers=ds->(Code.scope c).wpIn (Fr r) 0 P (qe7 n Q) a w
structure RangeW(P:DC)(n:Nat)(r:Option Nat)(f:Operand)(ps:Array Tmp)(assign body:Code)(Q:QW)(ρ:DH)(ds:DO)(w:DA):Prop where
 h:∀a,Sw n ρ a->a.defers=ds->(Code.rangeFunc f ps assign body).wpIn (Fr r) 0 P (qe7 n Q) a w
def qfd(P:DC)(n:Nat)(r:Option Nat):Code->QW->DH->DO->DA->Prop
 | .skip,Q,ρ,ds,w=>Q .normal ρ ds w
 | .region id ops H,Q,ρ,ds,w=>
  match H with
  | false=>regW P n r ops.toList (Q .normal) ops.toList ρ ds w
  | true=>DrawW P n r id ops Q ρ ds w
 | .seq a b,Q,ρ,ds,w=>qfd P n r a (seqW (qfd P n r b Q) Q) ρ ds w
 | .cond c t e,Q,ρ,ds,w=>
  match ev ρ c with
  | .bool b=>Tst b (qfd P n r t Q ρ ds w) (qfd P n r e Q ρ ds w)
  | _=>False
 | .block id c,Q,ρ,ds,w=>qfd P n r c (qwz id Q) ρ ds w
 | .loop c,Q,ρ,ds,w=>LoopW P n r c Q ρ ds w
 | .exit id,Q,ρ,ds,w=>Q (.exit id) ρ ds w
 | .label _,Q,ρ,ds,w=>Q .normal ρ ds w
 | .ret,Q,ρ,ds,w=>Q .ret ρ ds w
 | .goto l,Q,ρ,ds,w=>Q (.goto l) ρ ds w
 | .scope c,Q,ρ,ds,w=>ScopeW P n r c Q ρ ds w
 | .rangeFunc f p a b,Q,ρ,ds,w=>RangeW P n r f p a b Q ρ ds w
 | .refuse _,_,_,_,_=>False
section
variable {P:DC} {n:Nat} {r:Option Nat}
theorem Sw.yield{a:Act}(H:Sw n ρ a){ops:List Oper}(U:getL ops j=some oj)(V:oj.dst=some d)(W:d<n):
  yielded ops.toArray a.tmps j=match ρ d with | .bool b=>some b|_=>none:=St.yield H U V W
theorem qvr{K:DH->DO->DI}{a:Act}{U:List Oper}(hg:Region.wanted o (yielded ops a.tmps)=true)(Z:Sw n ρ a)(hd:a.defers=ds)(h:runW P n r o K ρ ds w)(hk:∀V H W w',Sw n V W->W.defers=H->K V H w'->wpListIn (Fr r) 0 P ops Q' U W w'):
  wpListIn (Fr r) 0 P ops Q' (o::U) a w:=by
 unfold wpListIn;rw[Ab hg];refine qabj Z hd h λv H w' hp=>?_;obtain⟨V,h1,h2,h3⟩:=Z.put H hp
 grind
theorem qh9{K:DH->DO->DI}{a:Act}{H:List Oper}(hg:Region.wanted o (yielded ops a.tmps)=false)(ha:Sw n ρ a)(hd:a.defers=ds)(h:qvx n o K ρ ds w)(hk:∀U V Z w',Sw n U Z->Z.defers=V->K U V w'->wpListIn (Fr r) 0 P ops Q' H Z w'):
  wpListIn (Fr r) 0 P ops Q' (o::H) a w:=by
 unfold wpListIn;rw[Aa (by rw[hg];simp)];refine⟨λ_ _=>trivial,?_⟩;obtain⟨U,h1,h2,h3⟩:=ha.put ds h;have e:({ a with defers:=ds }:Act)=a:=by subst hd;rfl
 grind
theorem qael{ops:List Oper}{Q:DH->DO->DI}(hQ:∀ρ ds a w,Sw n ρ a->a.defers=ds->Q ρ ds w->Q' .normal a w)(l:List Oper):
  ∀(ρ:DH) (ds:DO) (a:Act) (w:DA),Sw n ρ a->a.defers=ds->regW P n r ops Q l ρ ds w->wpListIn (Fr r) 0 P ops.toArray Q' l a w:=by
 induction l with
 | nil=>intro ρ ds a w U hd h;exact hQ _ _ _ _ U hd h
 | cons o H ih=>
  intro ρ ds a w U hd h;unfold regW at h;have ag:∀V W Z w',Sw n V Z->Z.defers=W->regW P n r ops Q H V W w'->wpListIn (Fr r) 0 P ops.toArray Q' H Z w':=(by omega)
  split at h
  ·grind [qvr,Region.wanted]
  ·rename_i j af hg
   split at h
   ·grind [qa5,qh9,Region.wanted,yielded]
   ·rename_i oj hj
    split at h
    ·grind [qh9,qa5,Region.wanted,yielded]
    ·rename_i d aa
     cases hn:Nat.blt d n<;>rw[hn]at h
     ·exact h.elim
     ·have ad:d<n:=by simpa using hn
      have hy:=U.yield hj aa ad;simp only[cond_true]at h
      split at h
      ·rename_i b hb
       rw[hb]at hy;cases b
       ·have h:=h.f rfl;have ae:Sw n _ a:=St.same U hb
        grind [qvr,Region.wanted,qh9]
       ·have h:=h.t rfl;have ae:Sw n _ a:=St.same U hb
        grind [qh9,Region.wanted,qvr]
      grind [qh9,Region.wanted]
theorem q4o{K:DH->DO->DI}{e:Exit}{a:Act}(h:qe7 n (seqW K Q) e a w):
  Exit.then (λa w=>∃ρ,Sw n ρ a/\K ρ a.defers w) (qe7 n Q) e a w:=by
 obtain⟨ρ,H,U⟩:=h;cases e<;>exact⟨ρ,H,U⟩
theorem qut{e:Exit}{a:Act}(h:qe7 n (qwz id Q) e a w):
  Exit.inBlock id (qe7 n Q) e a w:=by
 obtain⟨ρ,U,H⟩:=h;cases e with
 | exit i=>
  by_cases hi:i=id
  ·have V:Nat.beq i id=true:=by subst hi;simp
   simp only[qwz,V,cond_true]at H;simp only[Exit.inBlock,hi,if_true];exact⟨ρ,U,H⟩
  ·have V:Nat.beq i id=false:=(by grind [Nat.eq_of_beq_eq_true])
   simp only[qwz,V,cond_false]at H;simp only[Exit.inBlock,hi,if_false];exact⟨ρ,U,H⟩
 | normal=>exact⟨ρ,U,H⟩
 | goto l=>exact⟨ρ,U,H⟩
 | ret=>exact⟨ρ,U,H⟩
 | panic c=>exact⟨ρ,U,H⟩
 | outgrown=>exact⟨ρ,U,H⟩
theorem qf4(c:Code):∀(Q:QW) (ρ:DH) (ds:DO) (w:DA),qfd P n r c Q ρ ds w->∀a,Sw n ρ a->a.defers=ds->c.wpIn (Fr r) 0 P (qe7 n Q) a w:=by
 induction c with
 | skip=>intro Q ρ ds w h a H U;subst U;exact Go.wpIn_skip ⟨ρ,H,h⟩
 | region id ops V=>
  intro Q ρ ds w h a H U;cases V
  ·refine wpIn_region_list ?_;have:=qael (Q':=qe7 n Q) (λρ ds a w H U h=>by subst U;exact⟨ρ,H,h⟩) ops.toList ρ ds a w H U h;omega
  ·exact h.h a H U
 | seq x y Z hy=>
  intro Q ρ ds w h a H U;refine Go.wpIn_seq (Go.wpIn_mono (Z _ _ _ _ h a H U) λe a w h=>?_);have:=q4o h;cases e with
  | normal=>obtain⟨aa,h1,h2⟩:=this;exact hy _ _ _ _ h2 _ h1 rfl
  | exit i=>exact this
  | goto l=>exact this
  | ret=>exact this
  | panic c=>exact this
  | outgrown=>exact this
 | cond c t e ht he=>
  intro Q ρ ds w h a H U;unfold qfd at h
  split at h
  ·rename_i b hb
   refine Go.wpIn_cond_split (t:=b) (by rw[H.eval,hb]) (λe=>ht _ _ _ _ (h.t e) a H U) (λe=>he _ _ _ _ (h.f e) a H U)
  ·exact h.elim
 | block id c W=>
  intro Q ρ ds w h a H U;exact Go.wpIn_block (Go.wpIn_mono (W _ _ _ _ h a H U) λe a w h=>qut h)
 | loop c W=>intro Q ρ ds w h a H U;exact h.h a H U
 | rangeFunc f p x b Z hb=>intro Q ρ ds w h a H U;exact h.h a H U
 | exit id=>intro Q ρ ds w h a H U;subst U;exact Go.wpIn_exit ⟨ρ,H,h⟩
 | scope c W=>intro Q ρ ds w h a H U;exact h.h a H U
 | label l=>intro Q ρ ds w h a H U;subst U;exact Go.wpIn_label ⟨ρ,H,h⟩
 | goto l=>intro Q ρ ds w h a H U;subst U;exact Go.wpIn_goto ⟨ρ,H,h⟩
 | ret=>intro Q ρ ds w h a H U;subst U;exact Go.wpIn_ret ⟨ρ,H,h⟩
 | refuse ad=>intro Q ρ ds w h a H U;exact h.elim
theorem DrawW.of(h:DrawV P n id ops (λe H w'=>Q e H [] w') ρ w):DrawW P n none id ops Q ρ [] w:=by
 refine⟨λa V W=>?_⟩;have:=h.h a (V.st W);show(Code.region id ops true).wpIn Fence.wide 0 P _ a w;refine wpIn_wide.2 (Go.wp_mono this λe a w ⟨H,U,Z⟩=>⟨H,U.sw,?_⟩);rw[U.defers];exact Z
theorem q84{α:Type}(l:α->List (Nat×DF))(I:α->DI)(μ:α->Nat)(x0:α)(h0:qq8 (l x0) ρ)(hI:I x0 w)(hr:∀x w am,I x w->qfd P n r body (seqW (λaf ag w'=>ag=ds/\∃x',qq8 (l x') af/\I x' w'/\μ x'<μ x) Q) (over (l x) am) ds w):LoopW P n r body Q ρ ds w:=by
 refine⟨λa ha hd=>?_⟩;intro b k cs an hb aa;have ao:∀m x,μ x=m->∀ρ a w,qq8 (l x) ρ->Sw n ρ a->a.defers=ds->I x w->
   ∃e a' w',qe7 n Q e a' w'/\ArrivesIn (Machine.fenced P (Fr r)) P (lone (b.atR a (.code body::.inLoop body::k)) cs w) b k cs e a' w':=by
  intro m
  induction m using Nat.strongRecOn with
  | _ m ih=>
   intro x hm ρ a w aq ar au hI;have h1:=hr x w ρ hI;rw[qsh aq]at h1;obtain⟨e,W,Z,hq,V⟩:=qf4 body _ _ _ _ h1 a ar au b (.inLoop body::k) cs an hb aa;obtain⟨U,H,hq⟩:=hq;cases e with
   | normal=>
    obtain⟨ah,x',ai,av,aw⟩:=hq;obtain⟨aj,ak,al,ae,ad⟩:=ih (μ x') (hm ▸ aw) x' rfl U W Z ai H ah av;exact⟨aj,ak,al,ae,.of_steps (StepsIn.trans V (.one (fenced_calm hb aa rfl) stepR_inLoop)) ad⟩
   | exit id=>exact⟨_,W,Z,⟨U,H,hq⟩,.pass (x:=.inLoop body) rfl Js V⟩
   | goto l=>exact⟨_,W,Z,⟨U,H,hq⟩,.pass (x:=.inLoop body) rfl Js V⟩
   | ret=>exact⟨_,W,Z,⟨U,H,hq⟩,.pass (x:=.inLoop body) rfl Js V⟩
   | panic ch=>exact⟨_,W,Z,⟨U,H,hq⟩,.pass (x:=.inLoop body) rfl Js V⟩
   | outgrown=>exact⟨_,W,Z,⟨U,H,hq⟩,.pass (x:=.inLoop body) rfl Js V⟩
 obtain⟨e,a',w',hq,V⟩:=ao _ x0 rfl ρ a w h0 ha hd hI;exact⟨e,a',w',hq,.of_steps (.one (fenced_calm hb aa rfl) stepR_loop) V⟩
structure LeaveV(P:DC)(n:Nat)(fn:Func)(R:DG)(ρ:DH)(ds:DO)(w:DA):Prop where
 h:∀a,Sw n ρ a->LeavesInM (Fr none) 0 P fn a.tmps (λe w'=>∃v,e=.returned v/\R v w') ds .returning w
def qnz(P:DC)(n:Nat)(H:Func)(R:DG)(ρ:DH)(ds:DO)(w:DA):Prop:=
 match ds with
 | []=>resV H.results ρ w H R P n
 | d::ds=>LeaveV P n H R ρ (d::ds) w
theorem qho{H:Func}(h:qnz P n H R ρ ds w){a:Act}(U:Sw n ρ a):
  LeavesInM (Fr none) 0 P H a.tmps (λe w'=>∃v,e=.returned v/\R v w') ds .returning w:=by
 cases ds with
 | nil=>
  obtain⟨v,V,W⟩:=qmb rfl U h;exact⟨v,V,v,rfl,W⟩
 | cons d ds=>exact h.h a U
theorem LeaveV.mark{U:Func}{D:Nat}(h:w.heap[D]?=some (.deferred (some [])))(V:∀w',w'=setO w D (.deferred none)->qnz P n U R ρ ds w'):LeaveV P n U R ρ ({ target:=.collected D,args:=#[] }::ds) w:=
 ⟨λa W=>⟨by simp,.inl ⟨D,_,rfl,run_takeDeferred h,qho (V _ rfl) W⟩⟩⟩
def GvD(P:DC)(f:FuncId)(args:DK)(w:DA)(R:DI):Prop:=
 qdk P f=true/\CallsDIn (Fr none) 0 P f args.toArray .returning w λe H w'=>H=.returning/\∃v,e=.returned v/\R w'
theorem LeaveV.call{U:Func}{g:FuncId}(h:GvD P g vs w λw'=>qnz P n U R ρ ds w'):LeaveV P n U R ρ ({ target:=.fn (.func g) #[],args:=vs.toArray }::ds) w:=by
 refine⟨λa V=>⟨by simp,.inr ⟨(by grind [Fr]),.func g,#[],g,vs.toArray,rfl,?_,λ_ _=>trivial,?_⟩⟩⟩
 ·simp only[invoke,Array.append_empty];exact qc6 h.1 _
 ·refine h.2.mono ?_;rintro e Z w' ⟨rfl,v,rfl,W⟩;exact qho W V
def qahu(P:DC)(n:Nat)(H:Func)(R:DG):QW
 | .normal,ρ,ds,w=>qnz P n H R ρ ds w
 | .ret,ρ,ds,w=>qnz P n H R ρ ds w
 | _,_,_,_=>False
theorem qaa8{n:Nat}(V:vs.length<=n):Sw n (ini vs) { tmps:=vs.toArray++Array.replicate (n-vs.toArray.size) undef,defers:=[] }:=by
 refine⟨by simp;omega,λt=>?_,rfl⟩;rw[qaa7,BP]
 grind
theorem gvW{V:Func}{c:Code}(Z:qdk P f=true)(hf:P.funcs[f]?=some V)(hb:V.body=some c)(hn:V.ntmps=n)(hl:Nat.ble vs.length n=true)(h:qfd P n none c (qahu P n V R) (ini vs) [] w):Gv P f vs w R:=by
 have W:vs.length<=n:=by simpa using hl
 refine⟨Z,qdg (r:=none) (m:=0) |>.1 (callsIn_of_wp_marks hf hb trivial (Go.wpIn_mono (qf4 c _ _ _ _ h _ (by rw[hn];exact qaa8 W) rfl) λe a w H=>?_))⟩;obtain⟨ρ,U,H⟩:=H;cases e with
 | normal=>exact qho H U
 | ret=>exact qho H U
 | exit i=>exact H.elim
 | goto i=>exact H.elim
 | panic i=>exact H.elim
 | outgrown=>exact H.elim
theorem gvD{V:Func}{c:Code}{R:DI}(he:qdk P f=true)(hf:P.funcs[f]?=some V)(hb:V.body=some c)(hn:V.ntmps=n)(hl:Nat.ble vs.length n=true)(h:qfc P n c (q7y P n V (λ_ w'=>R w')) (ini vs) w):GvD P f vs w R:=by
 have aa:vs.length<=n:=by simpa using hl
 have W:c.wpIn (Fr none) 0 P (bodyPost P V λe w'=>∃v,e=.returned v/\R w') { tmps:=vs.toArray++Array.replicate (V.ntmps-vs.toArray.size) undef,defers:=[] } w:=by
  refine wpIn_wide.2 (Go.wp_mono (qkg c _ _ _ h _ (by rw[hn];exact(qaa8 aa).st rfl)) λe a w U=>?_);obtain⟨ρ,H,U⟩:=U;cases e with
  | normal=>
   obtain⟨v,W,h2⟩:=qmb rfl H U;exact⟨H.defers,v,W,v,rfl,h2⟩
  | ret=>
   obtain⟨v,W,h2⟩:=qmb rfl H U;exact⟨H.defers,v,W,v,rfl,h2⟩
  | exit i=>exact U.elim
  | goto i=>exact U.elim
  | panic i=>exact U.elim
  | outgrown=>exact U.elim
 exact⟨he,callsDIn_of_wp hf hb trivial W⟩
theorem GvD.mono{R H:DI}(h:GvD P f vs w R)(U:∀w',R w'->H w'):GvD P f vs w H:=
 ⟨h.1,h.2.mono (by grind)⟩
structure Carr(J:DJ->DI):Prop where
 ext:∀{X w w'},J X w->Ext w w'->J X w'
 get:∀{X w} {b:Nat} {o:Obj},J X w->(b,o)∈X->w.heap[b]?=some o
 new:∀{X w} (o:Obj),J X w->J ((w.heap.size,o)::X) (w.alloc o)
 set:∀{X w} {b:Nat} {o:Obj} (o':Obj),J ((b,o)::X) w->J ((b,o')::X) (setO w b o')
 drop:∀{X w} {x:Nat×Obj},J (x::X) w->J X w
 perm:∀{X Y w},J X w->X.Perm Y->J Y w
theorem Carr.tail(h:Carr J)(L:DJ):Carr λX w=>J (X++L) w:=
 ⟨h.ext,λk V=>h.get k (by grind),λo k=>h.new o k,λH k=>h.set H k,h.drop,λk U=>h.perm k (U.append_right L)⟩
theorem Carr.any{H:Type}{J:H->DJ->DI}(h:∀c,Carr (J c)):Carr λX w=>∃c,J c X w:=
 ⟨λ⟨c,k⟩ U=>⟨c,(h c).ext k U⟩,(by grind [get]),(by grind [new]),(by grind [set]),λ⟨c,k⟩=>⟨c,(h c).drop k⟩,λ⟨c,k⟩ V=>⟨c,(h c).perm k V⟩⟩
def SeqV(P:DC)(gf:FuncId)(lb:DK)(xs:List DK)(U:DI):Prop:=
 ∀(l:Nat) (I H:Nat->DI) (w:DA),(∀k w,I k w->U w)->(∀k w w',I k w->Ext w w'->I k w')->(∀k w w',H k w->Ext w w'->H k w')->I 0 w->
  (∀k x w,xs[k]?=some x->I k w->YieldV P l x w λv w'=>(v=.bool true/\I (k+1) w')\/(v=.bool false/\H k w'))->
  Gv P gf (.func (.yield l) #[] #[]::lb) w λ_ w'=>I xs.length w'\/∃k,k<xs.length/\H k w'
def SeqC(P:DC)(gf:FuncId)(lb:DK)(xs:List DK)(U:DI):Prop:=
 ∀(l:Nat) (I H:Nat->DJ->DI) (w:DA),(∀k,Carr (I k))->(∀k,Carr (H k))->(∀k X w,I k X w->U w)->I 0 [] w->
  (∀k x X w,xs[k]?=some x->I k X w->YieldV P l x w λv w'=>(v=.bool true/\I (k+1) X w')\/(v=.bool false/\H k X w'))->
  Gv P gf (.func (.yield l) #[] #[]::lb) w λ_ w'=>I xs.length [] w'\/∃k,k<xs.length/\H k [] w'
theorem SeqV.toC{xs:List DK}{V:DI}(h:SeqV P gf lb xs V):SeqC P gf lb xs V:=
 λl I W w Z H hw h0 hy=>h l (λk w=>I k [] w) (λk w=>W k [] w) w (by grind) (λk _ _ g U=>(Z k).ext g U) (λk _ _ g U=>(H k).ext g U) h0 (by grind)
def qtj:List Tmp->DK->DH->Nat->DF
 | p::H,v::vs,ρ=>qtj H vs (upd ρ p v)
 | _,_,ρ=>ρ
theorem qyz:∀(H:List Tmp) (vs:DK) (ρ:DH) (t:DN),H.all (Nat.blt · n)=true->St n ρ ⟨t,[]⟩->
  St n (qtj H vs ρ) ⟨(H.zip vs).foldl (λt (p,v)=>t.setIfInBounds p v) t,[]⟩:=by
 intro H
 induction H with
 | nil=>intro vs ρ t _ h;exact h
 | cons p H V=>
  intro vs ρ t U h;cases vs with
  | nil=>exact h
  | cons v vs=>
   simp only[C9,AF]at U;exact V vs _ _ U.2 (h.put (by simp_all) v)
structure BeginV(w1 w2:DA)(ds:DO)(K:Prop):Prop where
 w:w2=w1
 d:ds=[]
 k:K
def q9c(K:DH->DO->DI):QW
 | .normal,ρ,ds,w=>K ρ ds w
 | _,_,_,_=>False
def qyr(J:DI)(H:Code->DI):QW
 | .normal,_,_,w=>J w
 | .ret,_,_,w=>H .ret w
 | .exit id,_,_,w=>H (.exit id) w
 | .goto t,_,_,w=>H (.goto t) w
 | _,_,_,_=>False
def qag8(c:Code)(Q:QW)(ρ:DH)(ds:DO)(w:DA):Prop:=
 match c with
 | .ret=>Q .ret ρ ds w
 | .exit id=>Q (.exit id) ρ ds w
 | .goto t=>Q (.goto t) ρ ds w
 | _=>False
theorem qyi{f:Operand}{ps:Array Tmp}{Φ:DI}{xs:List DK}(hf:ev ρ f=.func (.func gf) #[] lb.toArray)(he:qdk P gf=true)(aj:SeqC P gf lb xs Φ)(ar:ps.toList.all (Nat.blt · n)=true)(au:∀x∈xs,x.length=ps.size)(J:Nat->DJ->DI)(Jx:Code->Nat->DJ->DI)(hJ:∀k,Carr (J k))(U:∀c k,Carr (Jx c k))(hw:∀k X w,J k X w->Φ w)(h0:J 0 [] w)(ag:∀l D ob k x X w1 w2,xs[k]?=some x->J k ((l,ob)::(D,.deferred (some []))::X) w2->
   qfd P n (some l) assign (q9c λak av aw=>BeginV w1 aw av
    (qfd P n (some l) body (qyr (J (k+1) ((l,ob)::(D,.deferred (some []))::X)) (λc=>Jx c k ((l,ob)::(D,.deferred (some []))::X))) ak [] w2)) (qtj ps.toList x ρ) [] w1)(ah:∀D w',J xs.length [(D,.deferred (some []))] w'->Q .normal ρ ({ target:=.collected D,args:=#[] }::ds) w')(ai:∀D c k w',k<xs.length->Jx c k [(D,.deferred (some []))] w'->qag8 c Q ρ ({ target:=.collected D,args:=#[] }::ds) w'):RangeW P n none f ps assign body Q ρ ds w:=by
 refine⟨λa ha hd=>?_⟩;subst hd;refine wpIn_rangeFunc ?_;intro fn ax;obtain⟨V,H⟩:∃V:LoopState->Option Code->Loop,V=λst pe=>{ state:=st,pending:=pe,fn,tmps:=a.tmps,params:=ps,assign,body,defers:=w.heap.size }:=⟨_,rfl⟩
 obtain⟨W1,an⟩:∃W1,(w.alloc (.deferred (some []))).alloc (.loop (V .ready none))=W1:=⟨_,rfl⟩
 have hD:=(hJ 0).new (.deferred (some [])) h0;have hL:=(hJ 0).new (.loop (V .ready none)) hD;rw[an,World.size_alloc]at hL;refine⟨w.heap.size+1,[{ target:=.collected w.heap.size,args:=#[] }],W1,{ target:=.fn (.func gf) lb.toArray,args:=#[.func (.yield (w.heap.size+1)) #[] #[]] },W1,gf,
  #[.func (.yield (w.heap.size+1)) #[] #[]]++lb.toArray,W1,?_,?_,λ_ _=>trivial,?_,(by grind [Fr]),?_⟩
 ·rw[<-an,H];exact run_enterLoop_outer _ _ _ _ _
 ·have:a.eval f=.func (.func gf) #[] lb.toArray:=by rw[ha.eval,hf]
  simp only[resolve,this];simp[go_sem]
 ·grind [invoke,qc6]
 ·have ea:#[Value.func (.yield (w.heap.size+1)) #[] #[]]++lb.toArray=(Value.func (.yield (w.heap.size+1)) #[] #[]::lb).toArray:=by simp
  rw[ea];refine qdg.2 ((aj (w.heap.size+1) (λk X W=>J k (X++[(w.heap.size+1,.loop (V .ready none)),(w.heap.size,.deferred (some []))]) W)
   (λk X W=>∃c,Jx c k (X++[(w.heap.size+1,.loop (V .done (some c))),(w.heap.size,.deferred (some []))]) W) W1
   (λk=>(hJ k).tail _) (λk=>Carr.any λc=>(U c k).tail _) (by grind) hL ?_).2.mono ?_)
  ·intro k x X W hx hk;replace hk:=(hJ k).perm hk Ap;have hl:=(hJ k).get hk mh;have hy:=run_yield (P:=P) (args:=x.toArray) hl (by rw[H];simpa using au x (zmg hx));rw[H]at hy;refine⟨⟨fn,_,assign,body,hy,roundIn_of_wpIn ax ?_⟩⟩;have h1:=ag (w.heap.size+1) w.heap.size _ k x X W _ hx ((hJ k).set (.loop { V .ready none with state:=.busy }) hk);have hz:(ps.zip x.toArray).foldl (λt (p,v)=>t.setIfInBounds p v) a.tmps=(ps.toList.zip x).foldl (λt (p,v)=>t.setIfInBounds p v) a.tmps:=by
    rw[<-Array.foldl_toList];simp
   have ay:Sw n (qtj ps.toList x ρ) { tmps:=(ps.zip x.toArray).foldl (λt (p,v)=>t.setIfInBounds p v) a.tmps,defers:=[] }:=by
    rw[hz];exact qyz _ _ _ _ ar ha
   refine Go.wpIn_mono (F:=Fr (some (w.heap.size+1))) (qf4 assign _ _ _ _ h1 _ ay rfl) λe a1 w1 Z=>?_;obtain⟨ak,ao,Z⟩:=Z;cases e with
   | normal=>
    obtain⟨az,a0,a3⟩:=Z;subst az;refine⟨_,run_beginRound hl (by rw[H]),?_⟩;refine Go.wpIn_mono (F:=Fr (some (w.heap.size+1))) (qf4 body _ _ _ _ a3 _ ao a0) λe a2 w2 Z=>?_;obtain⟨a5,a4,Z⟩:=Z;cases e with
    | normal=>
     refine⟨_,_,run_endRound none ((hJ _).get Z mh),_,rfl,.inl ⟨rfl,?_⟩⟩;have:=(hJ (k+1)).perm ((hJ (k+1)).set (.loop (V .ready none)) Z) (Ap (l₁:=[_,_]));rw[H]at this|-;exact this
    | ret=>
     refine⟨_,_,run_endRound (some .ret) ((U _ _).get Z mh),_,rfl,.inr ⟨rfl,.ret,?_⟩⟩;have:=(U _ k).perm ((U _ k).set (.loop (V .done (some .ret))) Z) (Ap (l₁:=[_,_]));rw[H]at this|-;exact this
    | exit id=>
     refine⟨_,_,run_endRound (some (.exit id)) ((U _ _).get Z mh),_,rfl,.inr ⟨rfl,.exit id,?_⟩⟩;have:=(U _ k).perm ((U _ k).set (.loop (V .done (some (.exit id)))) Z) (Ap (l₁:=[_,_]));rw[H]at this|-;exact this
    | goto t=>
     refine⟨_,_,run_endRound (some (.goto t)) ((U _ _).get Z mh),_,rfl,.inr ⟨rfl,.goto t,?_⟩⟩;have:=(U _ k).perm ((U _ k).set (.loop (V .done (some (.goto t)))) Z) (Ap (l₁:=[_,_]));rw[H]at this|-;exact this
    | panic ch=>exact Z.elim
    | outgrown=>exact Z.elim
   | ret=>exact Z.elim
   | exit id=>exact Z.elim
   | goto t=>exact Z.elim
   | panic ch=>exact Z.elim
   | outgrown=>exact Z.elim
  ·rintro e W2 ⟨v,rfl,h|⟨k,hk,c,h⟩⟩
   ·have hl:=(hJ _).get h mh;have:=run_endLoop (P:=P) hl (by rw[H];simp);rw[H]at this;exact⟨none,_,this,ρ,ha,ah _ _ ((hJ _).drop ((hJ _).set _ h))⟩
   ·have hl:=(U _ _).get h mh;have:=run_endLoop (P:=P) hl (by rw[H];simp);rw[H]at this;refine⟨some c,_,this,?_⟩;have hs:=ai _ c k _ hk ((U _ _).drop ((U _ _).set (.loop { V .done (some c)with state:=.exhausted }) h));rw[H]at hs;cases c with
    | ret=>exact Go.wpIn_ret ⟨ρ,ha,hs⟩
    | exit id=>exact Go.wpIn_exit ⟨ρ,ha,hs⟩
    | goto t=>exact Go.wpIn_goto ⟨ρ,ha,hs⟩
    | _=>exact hs.elim
theorem Mem.glue{a b c:DA}(h:Mem a b L)(k:Mem b c M):Mem a c (M++L):=by
 refine⟨h.ext.trans k.ext,λx H=>?_,?_⟩
 ·rcases AU.1 H with H|H
  ·exact⟨AE h.ext.size (k.own x H).1,(k.own x H).2⟩
  ·exact⟨(h.own x H).1,k.ext.get (h.own x H).2⟩
 ·rw[AH,CZ];refine⟨k.nodup,h.nodup,?_⟩;intro u U v V e;obtain⟨x,H,rfl⟩:=AA.1 U;obtain⟨y,W,rfl⟩:=AA.1 V;have Z:=(k.own x H).1;have h2:=h.lt (b:=y.1) (o:=y.2) W;omega
theorem Mem.glue2{a b c:DA}(h:Mem a b L)(k:Mem b c M):Mem a c (L++M):=(h.glue k).perm Ap
theorem Carr.mem{V:Type}(A:V->Prop)(L:V->DJ):Carr λX w=>∃s,A s/\Mem w0 w (X++L s):=by
 refine⟨?_,?_,?_,?_,?_,?_⟩
 ·rintro X w w' ⟨s,U,H⟩ W;exact⟨s,U,H.call W⟩
 ·rintro X w b o ⟨s,U,H⟩ hx;exact H.get (by grind)
 ·rintro X w o ⟨s,U,H⟩;exact⟨s,U,H.new rfl rfl⟩
 ·rintro X w b o Z ⟨s,U,H⟩;exact⟨s,U,H.setO (i:=0) Z rfl rfl⟩
 ·rintro X w x ⟨s,U,H⟩;exact⟨s,U,H.sub Js⟩
 ·rintro X Y w ⟨s,U,H⟩ hp;exact⟨s,U,H.perm (hp.symm.append_right _)⟩
end
end V
def bSt(E:LB)(p:Nat):Nat->LB×Nat
 | 0=>([],p)
 | j+1=>((blk E p j).1,(blk E p j).2.1)
theorem qafv{E:LB}{p:Nat}:∀{j:Nat},(∀i,i<j->(blk E p i).2.2=0)->blk E p j=qc1 E (bSt E p j).2 (decide (j=0)) (bSt E p j).1
 | 0,_=>rfl
 | j+1,h=>by
  rw[blk,Aa (by rw[h j Oo];simp)];rfl
def bRow(m:LB)(k j:Nat):DK:=[ii (16*k+j:Nat),.string ⟨(blk (qe m) (q5 m k) j).1.toArray⟩]
structure BEnd(m:LB)(k n:Nat):Prop where
 ok:∀j,j<n->16*k+j<dN m/\(blk (qe m) (q5 m k) j).2.2=0
 le:n<=16
 stop:n<16->16*k+n<dN m->(blk (qe m) (q5 m k) n).2.2≠0
theorem BEnd.ex(m:LB)(k:Nat):∃n,BEnd m k n:=by
 have:∀d j,j+d=16->(∀i,i<j->16*k+i<dN m/\(blk (qe m) (q5 m k) i).2.2=0)->∃n,BEnd m k n:=by
  intro d
  induction d with
  | zero=>intro j U h;exact⟨j,h,by omega,λh=>by omega⟩
  | succ d V=>
   intro j U h
   by_cases H:16*k+j<dN m/\(blk (qe m) (q5 m k) j).2.2=0
   ·refine V (j+1) Oo λi hi=>?_
    by_cases e:i=j
    ·subst e;exact H
    ·exact h i Oo
   ·exact⟨j,h,by omega,λ_ W Z=>H ⟨W,Z⟩⟩
 exact this 16 0 rfl λi h=>by omega
theorem qrn{m:LB}(h:DictAt w b m)(k:Nat):q5 m k<=134217728:=by
 have:=qq2 (qw m) (k*dW m) (dW m) h.width;unfold q5;omega
theorem qafu{m:LB}{n:Nat}(h:BEnd m k n)(U:j<=n)(V:(qe m).length<=67108864)(H:q5 m k<=134217728):
  (bSt (qe m) (q5 m k) j).1.length<=262144/\(bSt (qe m) (q5 m k) j).2<=134217728:=by
 cases j with
 | zero=>exact⟨by simp[bSt],H⟩
 | succ j=>
  have:=qaar (h.ok j Oo).2;exact⟨this.1,by have:=this.2;simp only[bSt];omega⟩
def BlkΦ(b:Nat)(m:LB)(k b1 b2:Nat)(w:DA):Prop:=DictAt w b m/\w.cell? ⟨b1,0,none⟩=some (pp b)/\w.cell? ⟨b2,0,none⟩=some (ii k)
theorem qrd(b:Nat)(m:LB)(k n b1 b2:Nat)(hk:k<upN (dN m) 16)(W:BEnd m k n):
  SeqV DM 370 [pp b1,pp b2] ((List.range n).map (bRow m k)) (BlkΦ b m k b1 b2):=by
 intro l I Ix w hI sI aq h0 hy;obtain⟨h,h1,h2⟩:=hI 0 w h0;have ar:upN (dN m) 16<=4194304:=AE (qbd _ _ Od) h.n;have ah:(qe m).length<=67108864:=by rw[h.entries];exact h.size
 have ai:=qrn h k;refine gvW Jk Tryz.func370 rfl Tryz.ntmps370 rfl (zw ?_);refine LoadV.of h1 (zw ?_);refine LoadV.of h2 (zw ?_);refine zcv (qsm b m k w h hk) ?_;rintro v w' ⟨rfl,rfl⟩;(conv=>whnf);refine LoadV.of h2 (zu ?_);refine q84 (λj:Nat=>[(0,.func (.yield l) #[] #[]),(1,pp b1),(2,pp b2),(4,ii (bSt (qe m) (q5 m k) j).2),(5,.string ⟨(bSt (qe m) (q5 m k) j).1.toArray⟩),(6,ii ((k:Int)*16+j))])
  (λj w'=>j<=n/\I j w') (λj=>n-j) 0 ⟨rfl,rfl,rfl,rfl,rfl,by show ii _=ii _;congr 1,trivial⟩ ⟨by omega,h0⟩ ?_
 rintro j w1 au ⟨hj,V⟩;obtain⟨Z,aa,aj⟩:=hI j w1 V;obtain⟨av,aw⟩:=qafu W hj ah ai;have hb:=λhg:∀i,i<j->(blk (qe m) (q5 m k) i).2.2=0=>qafv hg
 have hb:=hb λi hi=>(W.ok i Oo).2
 have ax:=W.le;(conv=>whnf);refine LoadV.of aa (zw ?_);obtain⟨⟨P,cp,E,ce,ak,_,_,_⟩,_⟩:=id Z;refine LoadV.own ak rfl ?_;have ad:((List.range n).map (bRow m k)).length=n:=by simp
 have U:j=n->I ((List.range n).map (bRow m k)).length w1:=λe=>by rw[ad,<-e];exact V
 (conv=>whnf);refine zC (λ_=>zu ?_) (λ_=>zu ?_)
 ·refine LoadV.of aj (zw ?_);refine zt ?_;refine zC (λ_=>zw ?_) (λ_=>zw ?_)
  ·refine LoadV.of aa (zw ?_);have al:decide (((k:Int)*16+(j:Int))%16=0)=decide (j=0):=decide_eq_decide.2 Oo;refine Obl.mk ⟨by omega,by omega⟩ (zw ?_);rw[al];refine zcv (qrq b m (bSt (qe m) (q5 m k) j).2 (decide (j=0)) ⟨(bSt (qe m) (q5 m k) j).1.toArray⟩ w1 Z Oo (by show(bSt (qe m) (q5 m k) j).1.length<=_;omega)) ?_;rintro v w2 ⟨rfl,ae⟩;have am:qc1 (qe m) (bSt (qe m) (q5 m k) j).2 (decide (j=0)) (⟨(bSt (qe m) (q5 m k) j).1.toArray⟩:DB).data.toList=blk (qe m) (q5 m k) j:=hb.symm;rw[am];obtain⟨x,ex⟩:∃x,x=blk (qe m) (q5 m k) j:=⟨_,rfl⟩
   have af:=W.ok j;have an:=W.stop;rw[<-ex]at af|-;conv=>whnf
   by_cases ag:x.2.2=0
   ·have H:j<n:=by
     refine BY λhc=>?_;obtain rfl:j=n:=by omega
     exact an Oo Oo (by rw[<-ex];exact ag)
    refine zv ?_;refine YieldV.mono (hy j [ii ((k:Int)*16+j),.string ⟨x.1.toArray⟩] w2 ?_ (sI _ _ _ V ae)) ?_
    ·rw[Ao,Bs H,Be,bRow,<-ex]
     congr 3
     omega
    rintro v w3 (⟨rfl,ao⟩|⟨rfl,hX⟩)
    ·refine zu ?_;refine⟨rfl,j+1,⟨rfl,rfl,rfl,?_,?_,?_,trivial⟩,⟨by omega,ao⟩,by omega⟩
     ·simp only[bSt,<-ex];rfl
     ·simp only[bSt,<-ex];rfl
     ·show ii _=ii _
      congr 1
    ·refine zu ?_;exact .inr ⟨j,by rw[ad];exact H,hX⟩
   ·have H:j=n:=by
     refine BY λhc=>?_;exact ag (af Oo).2
    refine zv ?_;exact .inl (sI _ _ _ (U H) ae)
  ·have H:j=n:=by omega
   exact .inl (U H)
 ·have H:j=n:=by
   refine BY λhc=>?_;have:=(W.ok j Oo).1;omega
  exact .inl (U H)
theorem q14(b k:Nat)(w:DA):Gv DM 324 [pp b,ii k] w λr w'=>
  (∃b1 b2,r=.func (.func 370) #[] #[pp b1,pp b2]/\w'.cell? ⟨b1,0,none⟩=some (pp b)/\w'.cell? ⟨b2,0,none⟩=some (ii k))/\Ext w w':=by
 refine ze Tryz.func324 Tryz.ntmps324 ?_;refine znm (Mem.nil w) λb1 U H=>zw ?_;refine znm H λb2 V H=>zw ?_;refine⟨⟨b1,b2,rfl,?_,?_⟩,H.ext⟩
 ·rw[qa (H.get (zmc mh))];rfl
 ·rw[qa (H.get mh)];rfl
def qio(m:LB)(i:Nat):DF:=
 match dGet m i with
 | some s=>.tuple #[.string ⟨s.toArray⟩,.bool true]
 | none=>.tuple #[.string ⟨#[]⟩,.bool false]
theorem qxf(b:Nat)(m:LB)(i:Nat)(w:DA)(h:DictAt w b m)(hi:i<=16777216):
  Gv DM 249 [pp b,ii i] w λr w'=>r=qio m i/\Ext w w':=by
 refine gvW Jk Tryz.func249 rfl Tryz.ntmps249 rfl (zw ?_);refine znm (Mem.nil w) λbi w1 H=>zw ?_;refine znm H λbs w2 H=>zw ?_;refine znm H λbb w3 H=>zw ?_;refine DrawW.of ?_;obtain⟨⟨P,cp,E,ce,ad,_,_,_⟩,_⟩:=h.ext H.ext;refine zy ?_;refine LoadV.mem (H.drew) (i:=2) rfl rfl (zu ?_);refine LoadV.mem (H.drew) (i:=2) rfl rfl (zu ?_);refine LoadV.own ad rfl (zw ?_);refine zt ?_;refine zC (λ_=>zw ?_) (λ_=>zw ?_)
 ·have W:qio m i=.tuple #[.string ⟨#[]⟩,.bool false]:=by rw[qio,dGet,Aa Oo]
  rw[W];refine StoreV.mem H.drew (i:=1) rfl Js rfl λw4 H=>zw ?_;refine StoreV.mem H (i:=0) rfl Js rfl λw5 H=>zw ?_;refine qd (R:=λv w'=>v=.tuple #[.string ⟨#[]⟩,.bool false]/\Ext w w') (zw ?_);refine zr H 1 ?_;refine zr H 0 ?_;exact⟨rfl,H.ext⟩
 have H:=H.drew;refine zr H 2 ?_;refine zv ?_;refine zcv (q14 b (i/16) w3.drew) ?_;rintro v w4 ⟨⟨b1,b2,rfl,ae,af⟩,ag⟩;have H:=H.call ag;have ah:=h.ext H.ext;(conv=>whnf);obtain⟨n,hn⟩:=BEnd.ex m (i/16);have am:=hn.le;have ai:i/16<upN (dN m) 16:=by unfold upN;omega
 have U:((List.range n).map (bRow m (i/16))).length=n:=by simp
 refine qyi (Φ:=BlkΦ b m (i/16) b1 b2) (lb:=[pp b1,pp b2]) (xs:=(List.range n).map (bRow m (i/16))) rfl Jk (qrd b m (i/16) n b1 b2 ai hn).toC Od ?_
  (λk X w'=>∃_:Unit,k<=i%16/\Mem w4 w' (X++[]))
  (λc k X w'=>∃_:Unit,(c=.ret/\k=i%16)/\Mem w w' (X++[(bb,.cells #[.bool true] 4),(bs,.cells #[.string ⟨(blk (qe m) (q5 m (i/16)) (i%16)).1.toArray⟩] 9),(bi,.cells #[ii i] 3)]))
  (λk=>Carr.mem _ _) (λc k=>Carr.mem _ _) (λk X w' ⟨_,_,H⟩=>⟨ah.ext H.ext,H.ext.cell ae,H.ext.cell af⟩) ⟨(),Af _,by simpa using Mem.nil w4⟩ ?_ ?_ ?_
 ·intro x Z;obtain⟨j,_,rfl⟩:=AA.1 Z;rfl
 ·rintro l D ob k x X w5 w6 Z ⟨_,hk,V⟩;have aj:k<n:=by
   have:=(Ae.1 Z).1
   rwa[U]at this
  rw[Ao,Bs aj,Be,AI]at Z;subst Z;have H:=H.glue2 V;(conv=>whnf);refine⟨rfl,rfl,?_⟩;(conv=>whnf);refine zr H 2 ?_;refine zC (λ_=>zw ?_) (λ_=>zw ?_)
  ·obtain rfl:k=i%16:=by omega
   refine StoreV.mem H (i:=1) rfl Js rfl λw7 H=>zw ?_;refine StoreV.mem H (i:=0) rfl Js rfl ?_;intro w8 H;rw[Bl]at H;(conv=>whnf);exact⟨(),⟨rfl,rfl⟩,H.perm Ap⟩
  ·exact⟨(),by omega,V⟩
 ·rintro D w5 ⟨_,hk,V⟩;rw[U]at hk;have H:=H.glue V;have W:qio m i=.tuple #[.string ⟨#[]⟩,.bool false]:=by
   have ak:=hn.stop;have al:(blk (qe m) (q5 m (i/16)) (i%16)).2.2≠0:=by
    have h1:=ak Oo Oo;rw[q7w h1 (i:=i%16) Oo];exact h1
   rw[qio,dGet,Ab Oo,Aa al]
  rw[W];(conv=>whnf);refine StoreV.mem H (i:=2) rfl Js rfl λw6 H=>zw ?_;refine StoreV.mem H (i:=1) rfl Js rfl λw7 H=>zw ?_;refine LeaveV.mark (H.get mh) λw8 hw=>?_;have H:=H.setO (i:=0) _ rfl hw;(conv=>whnf);refine qd (R:=λv w'=>v=.tuple #[.string ⟨#[]⟩,.bool false]/\Ext w w') (zw ?_);refine zr H 2 ?_;refine zr H 1 ?_;exact⟨rfl,H.ext⟩
 ·rintro D c k w5 aa ⟨_,⟨rfl,rfl⟩,H⟩;rw[U]at aa;have W:qio m i=.tuple #[.string ⟨(blk (qe m) (q5 m (i/16)) (i%16)).1.toArray⟩,.bool true]:=by
   rw[qio,dGet,Ab Oo,Ab (hn.ok _ aa).2]
  rw[W];(conv=>whnf);refine LeaveV.mark (H.get mh) λw8 hw=>?_;have H:=H.setO (i:=0) _ rfl hw;(conv=>whnf);refine qd (R:=λv w'=>v=.tuple #[.string ⟨(blk (qe m) (q5 m (i/16)) (i%16)).1.toArray⟩,.bool true]/\Ext w w') (zw ?_);refine zr H 2 ?_;refine zr H 1 ?_;exact⟨rfl,H.ext⟩
theorem qxd(h:∀j,j<k->(dhF l j).2=0)(H:k<2)(U:(dhF l k).2≠0):dE l=dhF l k:=by
 have:=qaz (f:=dhF l) h H U
 grind [dE]
theorem qc3(h:(numE l k most).2=0):vNum l k<=most:=by
 grind [numE]
theorem q8b(h:(dE l).2=0):dN l<=4194304/\qdc l<=67108864/\dEnd l=l.length:=by
 unfold dE at h
 split at h
 ·omega
 rename_i W
 have H:=qas (f:=dhF l) (n:=2) Oo;have U:=H 0 Oo;have V:=H 1 Oo
 split at h
 ·cases h
 rename_i Z
 split at h
 ·cases h
 rename_i g2
 refine⟨?_,?_,by omega⟩
 ·exact qc3 U
 ·exact qc3 V
def HdDR(l:LB)(r:DF):Prop:=
 ((dE l).2≠0/\r=.tuple #[.agg #[ii 0,ii 0,ii 0,ii 0],fltV (dE l).1 (dE l).2])\/
 ((dE l).2=0/\r=.tuple #[.agg #[ii (dN l:Nat),ii (qdc l:Nat),ii (qag l:Nat),ii (qg l:Nat)],fltV 0 0])
theorem qrl(l:LB)(A:oA)(c:Nat)(w:DA)(hS:SlAt encB 1 w A l)(hc:l.length<=c)(hl:l.length<=140737488355328):
  Gv DM 179 [.slice A l.length c] w λr w'=>HdDR l r/\Ext w w':=by
 have au:=qco l 1;have av:=qco l 2;have aw:=qhc l 0;have ad:=qhc l 1;refine ze Tryz.func179 Tryz.ntmps179 ?_;refine znm (Mem.nil w) λr2 w1 H=>zw ?_;refine znm H λr3 w2 H=>zw ?_;refine zcv (qbo l A _ _ w2 (hS.ext H.ext) rfl hl) ?_;rintro r w3 ⟨rfl,rfl⟩;obtain⟨q,eq⟩:∃q,q=(numL l).2.2:=⟨_,rfl⟩
 obtain⟨s,es⟩:∃s,s=(numL l).2.1:=⟨_,rfl⟩
 have Z:vAt l 1=s:=by grind [vAt]
 have ak:(numL l).1=vNum l 0:=rfl;have al:(numL (l.drop (vAt l 0))).2.2=q:=by rw[eq];rfl
 rw[numV,ak,<-eq,<-es];conv=>whnf
 (repeat' refine zC (λ_=>zw ?_) (λ_=>zw ?_))
 ·have hf:dhF l 0=(0,q):=by rw[dhF,qbv Oo,al];rfl
  have V:dE l=(0,q):=by rw[qxd (k:=0) Oo Oo (by simp_all),hf]
  refine zS H 1 λwa H=>zw ?_;refine zS H 0 λwb H=>zw ?_;refine qd (R:=λr w'=>HdDR l r/\Ext w w') (zw ?_);refine zl H 1 ?_;refine zl H 0 ?_;exact⟨.inl ⟨by simp_all,by rw[V];rfl⟩,H.ext⟩
 ·have hf:dhF l 0=(0,2):=by rw[dhF,qdp Oo (by rw[Ab rfl];omega)];rfl
  have V:dE l=(0,2):=by rw[qxd (k:=0) Oo Oo (by rw[hf];simp),hf]
  refine zS H 1 λwa H=>zw ?_;refine zS H 0 λwb H=>zw ?_;refine qd (R:=λr w'=>HdDR l r/\Ext w w') (zw ?_);refine zl H 1 ?_;refine zl H 0 ?_;exact⟨.inl ⟨by rw[V];simp,by rw[V];rfl⟩,H.ext⟩
 have ay:(dhF l 0).2=0:=by grind [dhF,qbh]
 refine SliceV.bs (hS.ext H.ext) rfl s l.length c rfl rfl rfl Oo Oo hc Oo Js ?_;intro A' ae;rw[Aj (by rw[zld];exact Ai _)]at ae;(conv=>whnf);refine zcv (qbo (l.drop s) A' _ _ _ ae (by rw[zld]) (by rw[zld];omega)) ?_;rintro r w4 ⟨rfl,rfl⟩;obtain⟨q2,af⟩:∃q2,q2=(numL (l.drop s)).2.2:=⟨_,rfl⟩
 obtain⟨W,ag⟩:∃W,W=(numL (l.drop s)).2.1:=⟨_,rfl⟩
 have ah:(numL (l.drop s)).1=vNum l 1:=by rw[vNum,Z]
 have ai:vAt l 2=s+W:=by rw[ag,vAt,Z]
 have ax:(numL (l.drop (vAt l 1))).2.2=q2:=by rw[af,Z]
 rw[numV,ah,<-af,<-ag];conv=>whnf
 (repeat'(first|refine zp ?_|refine zC (λ_=>zw ?_) (λ_=>zw ?_)))
 ·have hf:dhF l 1=(s,q2):=by grind [dhF,qbv]
  have V:dE l=(s,q2):=by grind [qxd]
  refine zS H 1 λwa H=>zw ?_;refine zS H 0 λwb H=>zw ?_;refine qd (R:=λr w'=>HdDR l r/\Ext w w') (zw ?_);refine zl H 1 ?_;refine zl H 0 ?_;exact⟨.inl ⟨by simp_all,by rw[V];rfl⟩,H.ext⟩
 ·have hf:dhF l 1=(s,2):=by grind [dhF,qdp]
  have V:dE l=(s,2):=by grind [qxd]
  refine zS H 1 λwa H=>zw ?_;refine zS H 0 λwb H=>zw ?_;refine qd (R:=λr w'=>HdDR l r/\Ext w w') (zw ?_);refine zl H 1 ?_;refine zl H 0 ?_;exact⟨.inl ⟨by rw[V];simp,by rw[V];rfl⟩,H.ext⟩
 have az:(dhF l 1).2=0:=by grind [dhF,qbh]
 have a0:¬(errF (dhF l) 2).2≠0:=by
  grind [q6]
 have a1:dN l=vNum l 0:=rfl;have a2:qdc l=vNum l 1:=rfl;have aj:qag l=s+W:=ai;obtain⟨U,eU⟩:∃U,U=upN (dN l) 16:=⟨_,rfl⟩
 have a3:U=(vNum l 0+15)/16:=by grind [upN]
 have hW:qbg (vNum l 1)<=64:=qd4 64 _ Oo Od;obtain⟨f,ef⟩:∃f,f=U*qbg (vNum l 1):=⟨_,rfl⟩
 have am:(U:Int)*(qbg (vNum l 1):Int)=(f:Int):=by omega
 have a4:f<=262144*64:=by rw[ef];exact BF Oo hW
 have an:qg l=s+W+(f+7)/8:=by rw[qg,aj,<-eU,ef];rfl
 refine znm H λt9 w5 H=>zw ?_;refine zS H 0 ?_;intro w6 H;have H:Mem w w6 [(t9,.cells #[ii (vNum l 0:Nat),ii (vNum l 1:Nat),ii (s+W:Nat),ii 0] 200),(r3,.cells #[ii 0,ii 0] 201),(r2,.cells #[ii 0,ii 0,ii 0,ii 0] 200)]:=H;(conv=>whnf);refine LoadV.mem (i:=0) Oa rfl rfl (zw ?_);refine zt ?_;have ao:((vNum l 0:Nat)+16-1:Int)/16=(U:Int):=by omega
 rw[ao];refine DrawV.own rfl Jk (zw ?_);refine zo ?_;apply StepO.still
 ·intro wd hd;(conv=>whnf);refine LoadV.mem (Mem.call (Mem.drew H) hd) (i:=0) rfl rfl (zw ?_);exact PostO.still xr rfl
 (conv=>whnf);refine zo ?_;refine zo ?_;apply StepO.still
 ·intro wd hd;(conv=>whnf);refine zcv (qja (vNum l 1) wd ad) ?_;rintro v w9 ⟨rfl,rfl⟩;exact PostO.still xr rfl
 (conv=>whnf);apply StepO.still
 ·intro wd hd;(conv=>whnf);rw[am];refine zv ?_;exact PostO.still xr rfl
 (conv=>whnf);(iterate 4 (refine zo ?_));intro w7 aq
 (repeat(intro _;(conv=>whnf)))
 (conv=>whnf);refine StoreV.mem (H.drew.call aq) (i:=0) rfl (show 3<4 by decide) rfl ?_;intro w8 H;have e4:(((s+W:Nat):Int)+((f:Int)+7)/8)=((qg l:Nat):Int):=by omega
 rw[e4]at H;have H:Mem w w8 [(t9,.cells #[ii (vNum l 0:Nat),ii (vNum l 1:Nat),ii (s+W:Nat),ii (qg l:Nat)] 200),(r3,.cells #[ii 0,ii 0] 201),(r2,.cells #[ii 0,ii 0,ii 0,ii 0] 200)]:=H;have ar:dEnd l=qg l+vNum l 1:=rfl;obtain⟨d4,ed⟩:∃d4,d4=qg l:=⟨_,rfl⟩
 rw[<-ed]at H ar an;conv=>whnf
 (repeat'(first|refine zp ?_|refine zC (λ_=>zw ?_) (λ_=>zw ?_)|refine LoadV.mem (i:=0) Oa rfl rfl (zw ?_)))
 ·have V:dE l=(l.length,10):=by grind [dE]
  refine zS H 2 λwa H=>zw ?_;refine zS H 1 λwb H=>zw ?_;refine qd (R:=λr w'=>HdDR l r/\Ext w w') (zw ?_);refine zl H 2 ?_;refine zl H 1 ?_;exact⟨.inl ⟨by grind,by rw[V];rfl⟩,H.ext⟩
 ·have V:dE l=(dEnd l,13):=by grind [dE]
  refine DrawV.inv (λS w'=>Mem w w' [(t9,.cells #[ii (vNum l 0:Nat),ii (vNum l 1:Nat),ii (s+W:Nat),ii (d4:Nat)] 200),(r3,.cells (bif S 8 then #[ii (dEnd l:Nat),ii 13]else #[ii 0,ii 0]) 201),(r2,.cells #[ii 0,ii 0,ii 0,ii 0] 200)]) rfl Jk H.drew ?_;clear H;(conv=>whnf);refine zi ?_;refine zi ?_;refine zLi ?_;refine zi ?_;refine zLi ?_;refine zi ?_;refine zi ?_;refine StepI.of undef (λS wd hk hp hI=>zw ?_) (zw ?_)
  ·refine zS hI 2 λwx aa=>zw ?_;exact⟨rfl,aa⟩
  refine StepI.of undef (λS wd hk hp hI=>?_) (zw ?_)
  ·dsimp only at hI;rw[hk]at hI;(conv=>whnf);have e5:((d4:Nat):Int)+((vNum l 1:Nat):Int)=((dEnd l:Nat):Int):=by omega
   rw[e5];refine zS hI 1 λwx aa=>zw ?_;exact⟨rfl,aa⟩
  intro wz H;have H:Mem w wz [(t9,.cells #[ii (vNum l 0:Nat),ii (vNum l 1:Nat),ii (s+W:Nat),ii (d4:Nat)] 200),(r3,.cells #[ii (dEnd l:Nat),ii 13] 201),(r2,.cells #[ii 0,ii 0,ii 0,ii 0] 200)]:=H;(conv=>whnf);refine qd (R:=λr w'=>HdDR l r/\Ext w w') (zw ?_);refine zl H 2 ?_;refine zl H 1 ?_;exact⟨.inl ⟨by grind,by rw[V];rfl⟩,H.ext⟩
 have V:dE l=(0,0):=by grind [dE]
 refine zl H 0 ?_;refine zS H 2 λwa H=>zw ?_;refine zS H 1 λwb H=>zw ?_;refine qd (R:=λr w'=>HdDR l r/\Ext w w') (zw ?_);refine zl H 2 ?_;refine zl H 1 ?_;exact⟨.inr ⟨by rw[V],by rw[aj,<-ed];rfl⟩,H.ext⟩
theorem qub(l:LB)(A:oA)(c:Nat)(w:DA)(W:SlAt encB 1 w A l)(Z:l.length<=c)(hl:l.length<=140737488355328):
  Gv DM 105 [.slice A l.length c] w λr w'=>HdDR l r/\Ext w w':=by
 refine ze Tryz.func105 Tryz.ntmps105 ?_;refine znm (Mem.nil w) λr2 w1 H=>zw ?_;refine znm H λr3 w2 H=>zw ?_;refine zcv (qrl l A c w2 (W.ext H.ext) Z hl) ?_;rintro r w3 ⟨hh,U⟩;have H:=H.call U
 rcases hh with⟨V,rfl⟩|⟨V,rfl⟩
 all_goals
  (conv=>whnf);refine zS H 1 λwa H=>zw ?_;refine zS H 0 λwb H=>zw ?_;refine qd (R:=λr w'=>HdDR l r/\Ext w w') (zw ?_);refine zl H 1 ?_;refine zl H 0 ?_
 ·exact⟨.inl ⟨V,rfl⟩,H.ext⟩
 ·exact⟨.inr ⟨V,rfl⟩,H.ext⟩
theorem qjv(xs:DL)(A:oA)(n c i:Nat)(w:DA)(H:SlAt encU 1 w A xs)(U:xs.length=n):
  Gv DM 241 [.slice A n c,ii i] w λr w'=>r=.int .u64 (xs.getD i 0)/\w'=w:=by
 refine ze Tryz.func241 Tryz.ntmps241 ?_;refine zC (λ_=>zw ?_) (λ_=>zw ?_)
 ·simp_all
 ·refine ElemV.sl H U i rfl Oo ?_;intro b V W;(conv=>whnf);refine LoadV.cell0 W (zw ?_)
  grind
theorem qzm(a b:DB)(w:DA)(ha:a.size<=4194304):
  Gv DM 150 [.string a,.string b] w λr w'=>r=ii (comL a.data.toList b.data.toList)/\Ext w w':=by
 have la:a.data.toList.length=a.size:=rfl;have lb:b.data.toList.length=b.size:=rfl;refine ze Tryz.func150 Tryz.ntmps150 ?_;refine qq (λi:Nat=>[(0,.string a),(1,.string b),(5,ii i)]) (λi w'=>i<=a.size/\i<=b.size/\(∀j,j<i->a.data.toList[j]?=b.data.toList[j]?)/\Ext w w') (λi=>a.size-i) 0 fq (by grind [Ext.refl]) ?_;rintro i w1 V ⟨i1,i2,U,H⟩;(conv=>whnf);refine zy ?_
 (repeat'(first|refine zp ?_|refine zC (λ_=>zw ?_) (λ_=>zw ?_)))
 all_goals first
  | exact⟨i+1,fq,⟨by omega,by omega,(by grind [qd7,UInt8.toNat_inj]),H.drew⟩,by omega⟩
  | exact⟨by rw[qt8 U Oo Oo λW Z=>by omega],H.drew⟩
  | (refine⟨?_,H.drew⟩;rw[qt8 U Oo Oo λW Z=>by
    rw[qd7 Oo,qd7 Oo];intro e;have:=Ad UInt8.toNat (AR e);omega])
theorem q22(l:LB)(A:oA)(c p:Nat)(a b:DB)(w:DA)(V:SlAt encB 1 w A l)(W:l.length<=c)(hl:l.length<=140737488355328)(hp:p<=l.length)(Z:(numL (l.drop p)).1<=4194304)(ha:a.size<=4194304):
  Gv DM 243 [.slice A l.length c,ii p,.string a,.string b] w λr w'=>r=.bool (decide ((numL (l.drop p)).1=comL a.data.toList b.data.toList))/\Ext w w':=by
 refine ze Tryz.func243 Tryz.ntmps243 ?_;refine SliceV.bs V rfl p l.length c rfl rfl rfl Oo Oo W Oo Js ?_;intro A' H;rw[Aj (by rw[zld];exact Ai _)]at H;(conv=>whnf);refine zcv (qbo (l.drop p) A' _ _ _ H (by rw[zld]) (by rw[zld];omega)) ?_;rintro r w1 ⟨rfl,rfl⟩;obtain⟨x,U⟩:∃x,x=(numL (l.drop p)).1:=⟨_,rfl⟩
 rw[numV,<-U];rw[<-U]at Z;refine zu ?_;refine zcv (qzm a b w1 ha) ?_;rintro r w2 ⟨rfl,he⟩;obtain⟨k,ek⟩:∃k,k=comL a.data.toList b.data.toList:=⟨_,rfl⟩
 rw[<-ek];(conv=>whnf);refine⟨Ad Value.bool ?_,he⟩
 grind
def entR(l:LB)(p:Nat)(first:Bool)(H:LB):DF:=
 if(entG (l.drop p) first H).2.2=0 then .tuple #[.string ⟨(entG (l.drop p) first H).1.toArray⟩,ii (p+(entG (l.drop p) first H).2.1:Nat),ii 0]
 else .tuple #[.string ⟨#[]⟩,ii 0,ii (entG (l.drop p) first H).2.2]
theorem q2x{m:LB}{first:Bool}{s:Nat×Nat×Nat}(es:s=if first then(0,0,0)else numL m)(H:s.2.2=0):
  entG m first ahead=if(numL (m.drop s.2.1)).2.2≠0 then([],0,(numL (m.drop s.2.1)).2.2)else if ahead.length<s.1 then([],0,161)else if 262144<(numL (m.drop s.2.1)).1\/262144<s.1+(numL (m.drop s.2.1)).1 then([],0,2)else if m.length-s.2.1-(numL (m.drop s.2.1)).2.1<(numL (m.drop s.2.1)).1 then([],0,10)else(ahead.take s.1++(m.drop (s.2.1+(numL (m.drop s.2.1)).2.1)).take (numL (m.drop s.2.1)).1,s.2.1+(numL (m.drop s.2.1)).2.1+(numL (m.drop s.2.1)).1,0):=by
 unfold entG;rw[<-es];dsimp only;rw[Aa Oo]
theorem q8j{m:LB}(h:(numL m).2.2≠0):entG m false ahead=([],0,(numL m).2.2):=by
 unfold entG;simp only[CT,if_false];rw[Ab h]
theorem qgy(l:LB)(A:oA)(c p:Nat)(first:Bool)(H:DB)(w:DA)(hS:SlAt encB 1 w A l)(hc:l.length<=c)(hl:l.length<=140737488355328)(hp:p<=l.length)(aq:H.size<=262144):
  Gv DM 242 [.slice A l.length c,ii p,.bool first,.string H] w λr w'=>r=entR l p first H.data.toList/\Ext w w':=by
 obtain⟨B,eB⟩:∃B,B=l.drop p:=⟨_,rfl⟩
 have aa:B.length=l.length-p:=by rw[eB,zld]
 refine ze Tryz.func242 Tryz.ntmps242 ?_;cases first
 ·refine zv ?_;refine SliceV.bs hS rfl p l.length c rfl rfl rfl Oo znr hc znr (λh=>by cases h) ?_;intro A' ao;rw[Aj (by rw[zld];exact Ai _),<-eB]at ao;(conv=>whnf);refine zcv (qbo B A' _ _ _ ao aa Oo) ?_;rintro r w3 ⟨rfl,rfl⟩;obtain⟨q1,ak⟩:∃q1,q1=(numL B).2.2:=⟨_,rfl⟩
  obtain⟨s1,al⟩:∃s1,s1=(numL B).2.1:=⟨_,rfl⟩
  obtain⟨x1,am⟩:∃x1,x1=(numL B).1:=⟨_,rfl⟩
  have ar:=qav B;rw[<-al,<-am,aa]at ar;rw[numV,<-am,<-al,<-ak];(conv=>whnf);refine zC (λ_=>zu ?_) (λ_=>zu ?_)
  ·have U:entG B false H.data.toList=([],0,q1):=by
    rw[q8j Oo,ak]
   exact⟨by rw[entR,<-eB,U,Aa (by show ¬q1=0;omega)],xr⟩
  refine SliceV.bs hS rfl (p+s1) l.length c (by first|rfl|(show(_:Int)=_;omega)) rfl rfl Oo znr hc znr (λh=>by cases h) ?_;intro A2 af;rw[Aj (by rw[zld];exact Ai _),show l.drop (p+s1)=B.drop s1 from by rw[eB,Am]]at af;(conv=>whnf);refine zcv (qbo (B.drop s1) A2 _ _ _ af (by rw[zld,aa];omega) (by rw[zld,aa];omega)) ?_;rintro r w4 ⟨rfl,rfl⟩;obtain⟨q2,ag⟩:∃q2,q2=(numL (B.drop s1)).2.2:=⟨_,rfl⟩
  obtain⟨V,ad⟩:∃V,V=(numL (B.drop s1)).2.1:=⟨_,rfl⟩
  obtain⟨Z,ae⟩:∃Z,Z=(numL (B.drop s1)).1:=⟨_,rfl⟩
  have an:=qav (B.drop s1);rw[<-ad,<-ae,zld,aa]at an;rw[numV,<-ae,<-ad,<-ag];have W:=q2x (m:=B) (ahead:=H.data.toList) (first:=false) (s:=(x1,s1,q1)) (by rw[am,al,ak];rfl) (by show q1=0;omega);dsimp only at W;rw[<-ae,<-ad,<-ag,aa]at W;have au:H.data.toList.length=H.size:=rfl;conv=>whnf
  (repeat'(first|refine zp ?_|refine zC (λ_=>zw ?_) (λ_=>zw ?_)))
  ·have U:entG B false H.data.toList=([],0,q2):=by rw[W,Ab Oo]
   exact⟨by rw[entR,<-eB,U,Aa (by show ¬q2=0;omega)],xr⟩
  ·have U:entG B false H.data.toList=([],0,161):=by rw[W,Aa Oo,Ab Oo]
   exact⟨by rw[entR,<-eB,U,Aa Js];rfl,xr⟩
  ·have U:entG B false H.data.toList=([],0,2):=by rw[W,Aa Oo,Aa Oo,Ab Oo]
   exact⟨by rw[entR,<-eB,U,Aa Js];rfl,xr⟩
  ·have U:entG B false H.data.toList=([],0,2):=by rw[W,Aa Oo,Aa Oo,Ab Oo]
   exact⟨by rw[entR,<-eB,U,Aa Js];rfl,xr⟩
  ·have U:entG B false H.data.toList=([],0,10):=by rw[W,Aa Oo,Aa Oo,Aa Oo,Ab Oo]
   exact⟨by rw[entR,<-eB,U,Aa Js];rfl,xr⟩
  have U:entG B false H.data.toList=(H.data.toList.take x1++(B.drop (s1+V)).take Z,s1+V+Z,0):=by rw[W,Aa Oo,Aa Oo,Aa Oo,Aa Oo]
  have hS:=hS.ext (Ext.refl w4).drew;refine zy ?_;refine zv ?_;refine SliceS.at_ 0 x1 rfl (by show(_:Int)=_;omega) Oo Oo (zu ?_);refine SliceV.bs hS rfl (p+s1+V) (p+s1+V+Z) c (by show(_:Int)=_;omega) (by show(_:Int)=_;omega) rfl Oo Oo Oo znr (λh=>by cases h) ?_;intro A3 ah;refine zu ?_;have ai:((l.drop (p+s1+V)).take (p+s1+V+Z-(p+s1+V)))=(B.drop (s1+V)).take Z:=by
   rw[eB,Am];congr 1
   ·omega
   ·congr 1;omega
  rw[ai]at ah;refine BytesS.sl ah (by rw[Ar,zld];omega) (zu ?_);have z1:(H.extract 0 x1).size=x1:=by rw[Bm];omega
  have z2:(⟨((B.drop (s1+V)).take Z).toArray⟩:DB).size=Z:=by
   show(List.toArray _).size=_;rw[CF,Ar,zld];omega
  refine Obl.mk (by rw[z1,z2];omega) (zw ?_);have aj:H.extract 0 x1++⟨((B.drop (s1+V)).take Z).toArray⟩=(⟨(H.data.toList.take x1++(B.drop (s1+V)).take Z).toArray⟩:DB):=by
   apply D0;rw[<-Bh,Cl,BH];simp
  rw[aj];refine zv ?_;refine⟨?_,xr.drew⟩;have e8:((p:Int)+(s1:Int)+(V:Int)+(Z:Int))=((p+(s1+V+Z):Nat):Int):=by omega
  rw[e8,entR,<-eB,U,Ab rfl]
 ·refine zv ?_;refine SliceV.bs hS rfl (p) l.length c (by first|rfl|(show(_:Int)=_;omega)) rfl rfl Oo znr hc znr (λh=>by cases h) ?_;intro A2 af;rw[Aj (by rw[zld];exact Ai _),show l.drop (p)=B.drop 0 from by rw[eB];rfl]at af;(conv=>whnf);refine zcv (qbo (B.drop 0) A2 _ _ _ af (by rw[zld,aa];omega) (by rw[zld,aa];omega)) ?_;rintro r w4 ⟨rfl,rfl⟩;obtain⟨q2,ag⟩:∃q2,q2=(numL (B.drop 0)).2.2:=⟨_,rfl⟩
  obtain⟨V,ad⟩:∃V,V=(numL (B.drop 0)).2.1:=⟨_,rfl⟩
  obtain⟨Z,ae⟩:∃Z,Z=(numL (B.drop 0)).1:=⟨_,rfl⟩
  have an:=qav (B.drop 0);rw[<-ad,<-ae,zld,aa]at an;rw[numV,<-ae,<-ad,<-ag];have W:=q2x (m:=B) (ahead:=H.data.toList) (first:=true) (s:=(0,0,0)) rfl rfl;dsimp only at W;rw[<-ae,<-ad,<-ag,aa]at W;have au:H.data.toList.length=H.size:=rfl;conv=>whnf
  (repeat'(first|refine zp ?_|refine zC (λ_=>zw ?_) (λ_=>zw ?_)))
  ·have U:entG B true H.data.toList=([],0,q2):=by rw[W,Ab Oo]
   exact⟨by rw[entR,<-eB,U,Aa (by show ¬q2=0;omega)],xr⟩
  ·have U:entG B true H.data.toList=([],0,2):=by rw[W,Aa Oo,Aa Oo,Ab Oo]
   exact⟨by rw[entR,<-eB,U,Aa Js];rfl,xr⟩
  ·have U:entG B true H.data.toList=([],0,10):=by rw[W,Aa Oo,Aa Oo,Aa Oo,Ab Oo]
   exact⟨by rw[entR,<-eB,U,Aa Js];rfl,xr⟩
  have U:entG B true H.data.toList=(H.data.toList.take 0++(B.drop (0+V)).take Z,0+V+Z,0):=by rw[W,Aa Oo,Aa Oo,Aa Oo,Aa Oo]
  have hS:=hS.ext (Ext.refl w4).drew;refine zy ?_;refine zv ?_;refine SliceS.at_ 0 0 rfl (by show(_:Int)=_;omega) Oo Oo (zu ?_);refine SliceV.bs hS rfl (p+V) (p+V+Z) c (by show(_:Int)=_;omega) (by show(_:Int)=_;omega) rfl Oo Oo Oo znr (λh=>by cases h) ?_;intro A3 ah;refine zu ?_;have ai:((l.drop (p+V)).take (p+V+Z-(p+V)))=(B.drop (0+V)).take Z:=by
   rw[eB,Am];congr 1
   ·omega
   ·congr 1;omega
  rw[ai]at ah;refine BytesS.sl ah (by rw[Ar,zld];omega) (zu ?_);have z1:(H.extract 0 0).size=0:=by rw[Bm];omega
  have z2:(⟨((B.drop (0+V)).take Z).toArray⟩:DB).size=Z:=by
   show(List.toArray _).size=_;rw[CF,Ar,zld];omega
  refine Obl.mk (by rw[z1,z2];omega) (zw ?_);have aj:H.extract 0 0++⟨((B.drop (0+V)).take Z).toArray⟩=(⟨(H.data.toList.take 0++(B.drop (0+V)).take Z).toArray⟩:DB):=by
   apply D0;rw[<-Bh,Cl,BH];simp
  rw[aj];refine zv ?_;refine⟨?_,xr.drew⟩;have e8:((p:Int)+(V:Int)+(Z:Int))=((p+(0+V+Z):Nat):Int):=by omega
  rw[e8,entR,<-eB,U,Ab rfl]
theorem V.Rw.slAt{V:Type}{f:V->DF}{H:V->DK}{n:Nat}{e:DD}{l:List V}(W:∀x,H x=[f x])(h:Rw w0 w (.slice A n c) e 1 n (l.map f) L)(hn:l.length=n):SlAt H 1 w A l:=by
 refine⟨λZ=>?_⟩;obtain⟨g,rfl,_,_,_,hc⟩:=h.cells (by grind);refine⟨g,0,rfl,λj x hx k v U=>?_⟩;rw[W]at U;cases k with
 | succ k=>simp at U
 | zero=>
  simp only[AQ,AI]at U;subst U;have:=hc j (f x) (by simp_all)
  simp_all
theorem qags{V:Type}{f:V->DF}{H:V->DK}{base e n:Nat}{l:List V}(he:∀x,H x=[f x])(h:w.ownsRow base e 1 (.slice A n c) n (l.map f)):SlAt H 1 w A l:=by
 refine⟨λaa=>?_⟩
 rcases h.2 with⟨Z,h2⟩|⟨g,ad,W,Z,_,h3,_,_,_,h7⟩
 ·have:=h.1
  simp_all
 ·cases Z;refine⟨g,0,rfl,λj x hx k v U=>?_⟩;rw[he]at U;cases k with
  | succ k=>simp at U
  | zero=>
   simp only[AQ,AI]at U;subst U;have hj:(W.toList.take (n*1))[j]?=some (f x):=by simp_all
   grind [qa]
theorem qkq{W e H n:Nat}{v:DF}(h:w.ownsRow W e H v n xs)(hb:b<=W):w.ownsRow b e H v n xs:=by
 refine⟨h.1,?_⟩
 rcases h.2 with h|⟨g,U,V,Z,h2,h3⟩
 ·exact .inl h
 ·exact .inr ⟨g,U,V,Z,Oo,h3⟩
theorem V.Mem.row{H U:DA}{base e n:Nat}{v:DF}(W:Mem w H L)(Z:Ext H U)(ho:U.ownsRow base e 1 v n xs)(hb:H.heap.size<=base):∃R,Mem w U (L++R)/\RowB e xs R v:=by
 have hl:=ho.1;rw[Bx]at hl
 rcases ho.2 with⟨h1,h2⟩|⟨g,aa,V,rfl,h2,h3,h4,h5,h6,h7⟩
 ·refine⟨[],by rw[Bl];exact W.call Z,⟨.inl ⟨h1,?_⟩⟩⟩
  simp_all
 ·refine⟨[(g,.cells V e)],?_,⟨(by grind)⟩⟩;have:=W.fresh Z Oo h3;exact this.perm Js
theorem V.RowB.slf{W:Type}{f:W->DF}{H:W->DK}{R:DJ}{e:DD}{n:Nat}{l:List W}(Z:∀x,H x=[f x])(h:RowB e (l.map f) R (.slice A n c))(hm:Mem w0 w L)(hR:∀x∈R,x∈L):SlAt H 1 w A l:=by
 refine⟨λad=>?_⟩
 rcases h.h with⟨_,h0⟩|⟨g,ae,aa,hv,hg,h1,_,_,h4⟩
 ·simp_all
 ·cases hv;refine⟨g,0,rfl,λj x hx k u U=>?_⟩;rw[Z]at U;cases k with
  | succ k=>simp at U
  | zero=>
   simp only[AQ,AI]at U;subst U;have V:(aa.toList.take (l.map f).length)[j]?=some (f x):=by simp_all
   rw[Bv]at V
   split at V
   ·rw[qa (hm.get (hR _ hg))]
    simpa using V
   ·cases V
theorem qwl(xs:DL)(A:oA)(n c:Nat)(w:DA)(W:SlAt encU 1 w A xs)(Z:xs.length=n)(hx:∀x∈xs,x<18446744073709551616)(hb:n<=4194304):
  Gv DM 87 [.slice A n c] w λr w'=>r=ii (wMx xs n)/\w'=w:=by
 refine ze Tryz.func87 Tryz.ntmps87 ?_;refine qq (λx:Nat×Nat=>[(0,.slice A n c),(3,ii x.2),(4,ii x.1)]) (λx w'=>x.1<=n/\x.2<=64/\x.2=wMx xs x.1/\w'=w) (λx=>n-x.1) (0,0) fq ⟨Af _,by simp,rfl,rfl⟩ ?_;rintro⟨i,m⟩ w1 aa ⟨i1,m1,m2,rfl⟩;dsimp only at i1 m1 m2|-;(conv=>whnf);refine zC (λ_=>zw ?_) (λ_=>zw ?_)
 ·refine ElemV.sl W Z i rfl Oo ?_;intro b ad hc;(conv=>whnf);refine LoadV.cell0 hc (zw ?_);have U:=hx _ (AK (l:=xs) (n:=i) Oo);refine zcv (qja xs[i] _ U) ?_;rintro r w2 ⟨rfl,rfl⟩;have hw:=qd4 64 xs[i] Oo Od;(conv=>whnf);refine V.Fall.max2 rfl rfl rfl λq hq=>?_;obtain⟨H,rfl⟩:∃H:Nat,q=(H:Int):=(by grind)
  refine zu ?_;have ae:H=wMx xs (i+1):=by
   grind [wMx]
  exact⟨(i+1,H),fq,(by grind),by omega⟩
 grind
def encO(b:Bool):DK:=[.bool b]
def bitL(l:LB)(n:Nat):List Bool:=(List.range n).map λi=>decide (bitN (vD l) i=1)
theorem qahv:DM.underlying 24=some (.slice 4):=Tryz.underlying24
theorem booI:DM.info? 4=some ((DM.info? 4).get Jk):=(Bd _).symm
theorem booZ:((DM.info? 4).get Jk).zero=some (.bool false):=by kernel_rfl
theorem qzh(l:LB)(A:oA)(n c:Nat)(w:DA)(hS:SlAt encB 1 w A l)(hn:l.length=n)(hc:n<=c)(h8:8<=l.length)(hv:vN l<=67108864)(hg:qx (vN l)<=l.length)(hl:l.length<=67108864):
  Gv DM 319 [.slice A n c] w λv w'=>w'.ownsRow w.heap.size 4 1 v (vN l) ((bitL l (vN l)).map Value.bool)/\Ext w w':=by
 have aa:qx (vN l)=8+upN (vN l) 8:=rfl;have W:(vD l).length=upN (vN l) 8:=by grind [vD]
 have ad:vN l<=8*(vD l).length:=by grind [upN]
 refine ze Tryz.func319 Tryz.ntmps319 ?_;refine zcv (qc4 l A n c w hS hn h8 Oo) ?_;rintro r w1 ⟨rfl,H⟩;(conv=>whnf);refine zcv (qrj l A n c w1 (hS.ext H) hn hc h8 hv hg Oo) ?_;rintro r w2 ⟨⟨B,d,rfl,hD⟩,U⟩;(conv=>whnf);refine qq (λx:Nat×oA×Nat=>[(3,ii (vN l)),(5,.slice B (upN (vN l) 8) d),(6,.slice x.2.1 x.1 x.2.2),(7,ii x.1)])
  (λx w'=>x.1<=vN l/\Rw w2 w' (.slice x.2.1 x.1 x.2.2) 4 1 x.1 ((bitL l x.1).map Value.bool) []) (λx=>vN l-x.1) (0,none,0) fq ⟨Af _,Rw.nil (Mem.nil w2)⟩ ?_
 rintro⟨i,C,cc⟩ w3 ae ⟨i1,V⟩;dsimp only at i1 V|-;(conv=>whnf);refine zC (λ_=>zw ?_) (λ_=>zw ?_)
 ·refine zcv (qf3 (vD l) B _ d i _ (hD.ext V.mem.ext) W Oo Oo) ?_;rintro r w4 ⟨rfl,rfl⟩;(conv=>whnf);refine NewV.rw V λnb w5 Z=>zw ?_;refine AppV.one qahv booI booZ Jk rfl (by decide +kernel) Z rfl Oo ?_;intro B' d' w6 af;refine zu ?_;refine⟨(i+1,B',d'),fq,⟨by omega,?_⟩,by omega⟩
  grind [bitL,List.range_succ]
 ·obtain rfl:i=vN l:=by omega
  exact⟨qkq V.own (H.trans U).size,H.trans (U.trans V.mem.ext)⟩
def VcR(l:LB)(k base:Nat)(v:DF)(w:DA):Prop:=
 ((vcE l k).2≠0/\(vcE l k).1<=1125899906842624/\v=.tuple #[.slice none 0 0,fltV (vcE l k).1 (vcE l k).2])\/
 ((vcE l k).2=0/\LvlV l k/\∃B H,v=.tuple #[.slice B (vNum l k) H,fltV 0 0]/\w.ownsRow base 4 1 (.slice B (vNum l k) H) (vNum l k) ((bitL (qf l k) (vNum l k)).map Value.bool))
theorem VcR.err{base:Nat}{e:Nat}{x y:Int}(h:vcE l k=(a,e))(H:e≠0)(U:a<=1125899906842624)(V:x=a)(W:y=e):VcR l k base (.tuple #[.slice none 0 0,.agg #[ii x,ii y]]) w:=by
 subst V W;refine .inl ?_;rw[h];exact⟨H,U,rfl⟩
theorem qt0(l:LB)(A:oA)(c k:Nat)(F:Nat->Int)(w:DA)(hS:SlAt encB 1 w A l)(hc:l.length<=c)(hl:l.length<=67108864)(hF:HdF l F)(hT:(tE l).2=0)(hk:1<=k)(az:k<=3):
  Gv DM 245 [.slice A l.length c,hdV F,ii k] w λv w'=>VcR l k w.heap.size v w'/\Ext w w':=by
 have ah:(errF (tcF l) 4).2=0/\(errF (tvF l) 4).2=0:=by
  grind [tE]
 have hz:=qas ah.1;have hv:=qas ah.2;obtain⟨z1,z2,z3⟩:=qoh (hv k Oo);have a0:=qia (hz k Oo);have ay:=qia (hz (k-1) Oo);have ai:=qqw (hz k Oo) Oo;have a1:=qwe (vNum l k) (vNum l (k-1)) Oo ai;have t2:tEnd l k<=tvAt l (k+1):=by rw[qbc];omega
 have W:(qf l k).length=tvAt l (k+1)-tEnd l k:=by grind [qf]
 have a2:tvAt l (k+1)=tEnd l k+qax (vNum l k) (vNum l (k-1)):=by grind [qbc]
 refine ze Tryz.func245 Tryz.ntmps245 ?_;refine znm (Mem.nil w) ?_;intro hb w1 H;have H:Mem w w1 [(hb,.cells (fnA 13 (inF F)) 118)]:=H;(conv=>whnf);refine znm H ?_;intro rb w2 H;have H:Mem w w2 [(rb,.cells #[ii 0,ii 0] 120),(hb,.cells (fnA 13 (inF F)) 118)]:=H;refine zu ?_;refine LoadV.fi (x:=((tEnd l k:Nat):Int)) H (i:=1) rfl (8+k) (by rw[show tsz DM 3=1 from by kernel_rfl];dsimp only;omega) Oo (hF.v k Oo) (zw ?_);refine DrawV.free Jk Jk (zw ?_);(iterate 4 (refine zd ?_));apply zsd
 ·intro wd hd;(conv=>whnf);refine LoadV.fi (x:=((vNum l k:Nat):Int)) (Mem.call (Mem.drew H) hd) (i:=1) rfl k (by rw[show tsz DM 3=1 from by kernel_rfl];dsimp only;omega) Oo (hF.c k Oo) (zw ?_);exact xq
 (conv=>whnf);(iterate 3 (refine zd ?_));apply zsd
 ·intro wd hd;(conv=>whnf);refine IdxV.at_ (k-1) Oo Oo (zw ?_);exact xq
 (conv=>whnf);apply zsd
 ·intro wd hd;(conv=>whnf);refine LoadV.fi (x:=((vNum l (k-1):Nat):Int)) (Mem.call (Mem.drew H) hd) (i:=1) rfl (k-1) (by rw[show tsz DM 3=1 from by kernel_rfl];dsimp only;omega) Oo (hF.c (k-1) Oo) (zw ?_);exact xq
 (conv=>whnf);apply zsd
 ·intro wd hd;(conv=>whnf);refine zcv (qi9 (vNum l k) (vNum l (k-1)) wd Oo ai) ?_;rintro v w9 ⟨rfl,h9⟩;exact⟨h9,rfl⟩
 (conv=>whnf);refine zd ?_;refine zd ?_;intro w3 aq
 (repeat(intro _ _;(conv=>whnf)))
 (conv=>whnf);have H:=H.drew.call aq;refine SliceV.to (tEnd l k) (tvAt l (k+1)) c rfl (by show(_:Int)=_;omega) rfl Oo Oo Oo (λh=>by cases h) ?_;obtain⟨B,eB⟩:∃B,B=(if c=tEnd l k then A else A.map (·.add (tEnd l k*1))):=⟨_,rfl⟩
 have aj:SlAt encB 1 w B (qf l k):=by rw[eB];exact hS.cut (m:=c) Oo Oo Oo rfl
 rw[show tsz DM 5=1 from by kernel_rfl,<-eB];have hB:=aj.ext H.ext;have a3:8<=qax (vNum l k) (vNum l (k-1)):=by unfold qax qcn qa7 qx;omega
 (conv=>whnf);refine zcv (qc4 (qf l k) B _ _ w3 hB W Oo Oo) ?_;rintro r w4 ⟨rfl,ak⟩;have H:=H.call ak;have hB:=hB.ext ak;refine zu ?_;refine LoadV.fi (x:=((vNum l k:Nat):Int)) H (i:=1) rfl k (by rw[show tsz DM 3=1 from by kernel_rfl];dsimp only;omega) Oo (hF.c k Oo) (zw ?_);refine zC (λ_=>zu ?_) (λ_=>zu ?_)
 ·refine zS H 0 λw9 H=>zw ?_;refine qd (R:=λv w'=>VcR l k w.heap.size v w'/\Ext w w') (zw ?_);refine zl H 0 ?_;exact⟨.err (q65 (q6j Oo)) Od Oo Oo rfl,H.ext⟩
 refine IdxV.at_ (k-1) Oo Oo (zu ?_);refine LoadV.fi (x:=((vNum l (k-1):Nat):Int)) H (i:=1) rfl (k-1) (by rw[show tsz DM 3=1 from by kernel_rfl];dsimp only;omega) Oo (hF.c (k-1) Oo) (zw ?_);refine zt ?_;refine zC (λ_=>zw ?_) (λ_=>zw ?_)
 ·refine zS H 0 λw9 H=>zw ?_;refine qd (R:=λv w'=>VcR l k w.heap.size v w'/\Ext w w') (zw ?_);refine zl H 0 ?_;exact⟨.err (q65 (q6j Oo)) Od Oo Oo rfl,H.ext⟩
 have e1:vN (qf l k)=vNum l k:=by omega
 have e2:vM (qf l k)=vNum l (k-1):=by omega
 have al:vOk (qf l k)=true:=by
  grind [vOk]
 have am:tVec l k=true:=by
  grind [tVec]
 have af:=qahj (qf l k);rw[e1,e2]at af;refine zcv (q1p (qf l k) B _ _ w4 hB W Oo Oo al) ?_;rintro r w5 ⟨U,ag⟩
 by_cases V:(voE (qf l k)).2=0
 case neg=>
  have an:=qab1 am V;obtain⟨a,ea⟩:∃a:Nat,a=(voE (qf l k)).1:=⟨_,rfl⟩
  obtain⟨e,ee⟩:∃e:Nat,e=(voE (qf l k)).2:=⟨_,rfl⟩
  have U:r=.agg #[ii a,ii e]:=by rw[ea,ee];exact U
  subst U;rw[<-ea,<-ee]at an;rw[<-ee]at V;rw[<-ea]at af;have a4:(e:Int)≠0:=by omega
  have H:=H.call ag;(conv=>whnf);refine znm H λfb w6 H=>zw ?_;refine zS H 0 λw7 H=>zw ?_;refine zr H 0 ?_;refine zv ?_;have H:Mem w w7 [(fb,.cells #[ii a,ii e] 434),(rb,.cells #[ii 0,ii 0] 120),(hb,.cells (fnA 13 (inF F)) 118)]:=H;have a5:tEnd l k<=l.length:=by omega
  refine DrawV.inv (λS w'=>Mem w w' [(fb,.cells #[ii a,ii e] 434),(rb,.cells (bif S 8 then #[ii (((tEnd l k:Nat):Int)+a),ii e]else #[ii 0,ii 0]) 120),(hb,.cells (fnA 13 (inF F)) 118)]) rfl Jk H.drew ?_;clear H;(conv=>whnf);refine zi ?_;refine zi ?_;refine zLi ?_;refine zi ?_;refine zi ?_;refine zLi ?_;refine zi ?_;refine zi ?_;refine zSi ?_;intro ar H;have H:Mem w ar [(fb,.cells #[ii a,ii e] 434),(rb,.cells #[ii (((tEnd l k:Nat):Int)+a),ii e] 120),(hb,.cells (fnA 13 (inF F)) 118)]:=H;(conv=>whnf);refine qd (R:=λv w'=>VcR l k w.heap.size v w'/\Ext w w') (zw ?_);refine zl H 1 ?_;exact⟨.err an V Oo Oo rfl,H.ext⟩
 have ao:=VecOk.voE al V;have U:r=fltV 0 0:=by rw[U,qahi V];rfl
 subst U;have H:=H.call ag;have hB:=hB.ext ag;(conv=>whnf);refine znm H λfb w6 H=>zw ?_;refine zS H 0 λw7 H=>zw ?_;refine zr H 0 ?_;refine zv ?_;have H:=H.sub (Ak ..);have au:qx (vN (qf l k))<=(qf l k).length:=by grind [qax,qcn,qa7]
 refine zcv (qzh (qf l k) B _ _ w7 (aj.ext H.ext) W Oo Oo Oo au Oo) ?_;rintro r w8 ⟨hO,av⟩;obtain⟨C,cb,rfl⟩:=qlz hO;have ae:=qkq hO H.ext.size;have H:=H.call av;rw[e1]at ae;rw[e1];have hC:SlAt encO 1 w8 C (bitL (qf l k) (vNum l k)):=qags (λ_=>rfl) ae;have aw:(bitL (qf l k) (vNum l k)).length=vNum l k:=by simp[bitL]
 (conv=>whnf);refine zC (λ_=>zu ?_) (λ_=>zu ?_)
 ·refine ElemV.sl hC aw (vNum l k-1) Oo Oo ?_;intro eb eo Z;have ax:(bitL (qf l k) (vNum l k))[vNum l k-1]' Oo=decide (bitN (vD (qf l k)) (vNum l k-1)=1):=by simp[bitL]
  rw[ax]at Z;refine zu ?_;refine LoadV.cell0 Z (zw ?_);refine zt ?_;refine zC (λ_=>zw ?_) (λ_=>zw ?_)
  ·have aa:bitN ((qf l k).drop 8) (vNum l k-1)=1:=by
    grind [vD,qcz,upN]
   refine StoreA.same (H.get mh) rfl Od ?_;intro w9 ad;have H:=H.call ad;(conv=>whnf);refine qd (R:=λv w'=>VcR l k w.heap.size v w'/\Ext w w') (zw ?_);refine zl H 0 ?_;exact⟨.inr ⟨by grind [q66],⟨ao,e1,e2,Oo⟩,C,cb,rfl,qb5 ae ad⟩,H.ext⟩
  ·have aa:bitN ((qf l k).drop 8) (vNum l k-1)≠1:=by
    grind [vD,qcz,upN]
   refine zS H 0 λw9 H=>zw ?_;refine qd (R:=λv w'=>VcR l k w.heap.size v w'/\Ext w w') (zw ?_);refine zl H 0 ?_;exact⟨.err (qy9 am V Oo aa) Od Oo Oo rfl,H.ext⟩
 ·refine StoreA.same (H.get mh) rfl Od ?_;intro w9 ad;have H:=H.call ad;(conv=>whnf);refine qd (R:=λv w'=>VcR l k w.heap.size v w'/\Ext w w') (zw ?_);refine zl H 0 ?_;exact⟨.inr ⟨by grind [q66],⟨ao,e1,e2,Oo⟩,C,cb,rfl,qb5 ae ad⟩,H.ext⟩
theorem OpR.ext{p:LB}{n base:Nat}{v:DF}(h:OpR p n wd base v w)(H:Ext w w'):OpR p n wd base v w':=by
 rcases h with h|h|⟨U,V,b,W,Z,h5⟩
 ·exact .inl h
 ·exact .inr (.inl h)
 ·exact .inr (.inr ⟨U,V,b,W,Z,H.get h5⟩)
theorem OpR.base{p:LB}{n wd base H:Nat}{v:DF}{w:DA}(h:OpR p n wd H v w)(U:base<=H):OpR p n wd base v w:=by
 rcases h with h|h|⟨V,W,b,Z,h4,h5⟩
 ·exact .inl h
 ·exact .inr (.inl h)
 ·exact .inr (.inr ⟨V,W,b,Z,AE U h4,h5⟩)
def OpS(p:LB)(n wd base:Nat)(v:DF)(w:DA):Prop:=
 (opE p n wd≠0/\v=.slice none 0 0)\/(opE p n wd=0/\wd=0/\v=.slice none 0 0)\/
 (opE p n wd=0/\wd≠0/\∃b,v=.slice (some ⟨b,0,none⟩) n n/\base<=b/\w.heap[b]?=some (.cells (unpV p n wd).toArray 164))
theorem OpS.ext{p:LB}{n base:Nat}{v:DF}(h:OpS p n wd base v w)(H:Ext w w'):OpS p n wd base v w':=by
 rcases h with h|h|⟨U,V,b,W,Z,h5⟩
 ·exact .inl h
 ·exact .inr (.inl h)
 ·exact .inr (.inr ⟨U,V,b,W,Z,H.get h5⟩)
theorem OpR.split{p:LB}{n base:Nat}{v:DF}(h:OpR p n wd base v w):∃A k c,v=.tuple #[.slice A k c,ii (opE p n wd)]/\OpS p n wd base (.slice A k c) w:=by
 rcases h with⟨H,U⟩|⟨H,U,V⟩|⟨H,U,b,V,W⟩
 ·exact⟨none,0,0,U,.inl ⟨H,rfl⟩⟩
 ·exact⟨none,0,0,by rw[H];exact V,.inr (.inl ⟨H,U,rfl⟩)⟩
 ·exact⟨some ⟨b,0,none⟩,n,n,by rw[H];exact V,.inr (.inr ⟨H,U,b,rfl,W⟩)⟩
theorem OpS.slice{p:LB}{n base:Nat}{v:DF}(h:OpS p n wd base v w):∃A k c,v=.slice A k c:=by
 rcases h with⟨_,rfl⟩|⟨_,_,rfl⟩|⟨_,_,b,rfl,_⟩
 ·exact⟨_,_,_,rfl⟩
 ·exact⟨_,_,_,rfl⟩
 ·exact⟨_,_,_,rfl⟩
theorem qkx(p:LB)(n wd:Nat):(unpV p n wd).length=n:=by simp[unpV,unpN]
theorem qbz(p:LB)(n wd:Nat):(unpN p n wd).length=n:=by simp[unpN]
theorem q6z{p:LB}{n x:Nat}(h:x∈unpN p n wd):x<2 ^ wd:=by
 obtain⟨i,_,rfl⟩:=AA.1 h;exact qji _ _ _
theorem q9u{v:DF}{e:DD}{n:Nat}(H:Mem w0 w L)(W:Ext w w')(h:w'.ownsRow w.heap.size e 1 v n xs):Rw w0 w' v e 1 n xs L:=by
 refine⟨H.call W,⟨h.1,h.2.imp id λ⟨g,U,V,Z,hb,r⟩=>⟨g,U,V,Z,AE H.ext.size hb,r⟩⟩,λx hx e=>?_⟩;have h1:=(h.lt x.1 e).1;have h2:=H.lt (b:=x.1) (o:=x.2) hx;omega
theorem q61(p:LB){n:Nat}(h:i<n):(unpV p n 0).take (i+1)=(unpV p n 0).take i++[.int .u64 0]:=by
 rw[Bp,unpV,unpN,Ao,Ao,Bs h];rfl
theorem qaic:DM.underlying 169=some (.slice 164):=Tryz.underlying169
theorem u64I:DM.info? 164=some ((DM.info? 164).get Jk):=(Bd _).symm
theorem u64Z:((DM.info? 164).get Jk).zero=some (.int .u64 0):=by kernel_rfl
theorem OpS.rw{p:LB}{n wd k c:Nat}{A:oA}{w0 H U:DA}{L:DJ}(h:OpS p n wd H.heap.size (.slice A k c) U)(hE:opE p n wd=0)(hn:n<=4194304)(hm:Mem w0 H L)(he:Ext H U):
  Rw w0 U (.slice A k c) 164 1 k ((unpV p n wd).take k) L/\k<=n/\(wd≠0->k=n):=by
 rcases h with⟨V,W⟩|⟨V,W,Z⟩|⟨V,W,b,Z,h4,h5⟩
 ·exact absurd hE V
 ·cases Z;exact⟨by rw[Br];exact Rw.nil (hm.call he),by omega,λh=>absurd W h⟩
 ·cases Z;refine⟨q9u hm he ⟨by simp[qkx],.inr ⟨b,n,_,rfl,h4,h5,Ai _,by simp only[maxLen];omega,by simp[qkx],?_⟩⟩,Ai _,λ_=>rfl⟩;simp[Aj,qkx]
theorem V.Rw.rowB{v:DF}{e:DD}{n:Nat}(h:Rw w0 w v e 1 n xs L):∃R,Mem w0 w (L++R)/\RowB e xs R v:=by
 have V:=h.own.1;rw[Bx]at V
 rcases h.own.2 with⟨h1,Z⟩|⟨g,W,H,rfl,Z,h3,h4,h5,h6,h7⟩
 ·refine⟨[],by rw[Bl];exact h.mem,⟨.inl ⟨h1,?_⟩⟩⟩;exact Bo Oo
 ·refine⟨[(g,.cells H e)],?_,⟨.inr ⟨g,W,H,by rw[V],AJ ..,by omega,h5,by rw[Bx]at h6;exact h6,by rw[V];rw[Bx]at h7;exact h7⟩⟩⟩;have:Mem w0 w ((g,.cells H e)::L):=by
   refine⟨h.mem.ext,λx U=>?_,?_⟩
   ·rcases Ay.1 U with rfl|U
    ·exact⟨Z,h3⟩
    ·exact h.mem.own x U
   ·simp only[AB,C8];refine⟨λhm=>?_,h.mem.nodup⟩;obtain⟨x,U,e⟩:=AA.1 hm;exact h.apart x U (by rw[e];rfl)
  exact this.perm (Ap (l₁:=L) (l₂:=[(g,Obj.cells H e)]))
theorem V.RowB.left{e:DD}{R:DJ}{v:DF}(h:RowB e xs R v):RowB e xs (L++R) v:=h.keep λ_ H _=>Ac _ H
theorem V.RowB.right{e:DD}{R:DJ}{v:DF}(h:RowB e xs L v):RowB e xs (L++R) v:=h.keep λ_ H _=>Ah _ H
theorem V.RowB.more{e:DD}{R:DJ}{x:Nat×Obj}{v:DF}(h:RowB e xs R v):RowB e xs (x::R) v:=h.keep λ_ H _=>zmc H
def LvR(l:LB)(k:Nat)(w0:DA)(v:DF)(w:DA):Prop:=
 (Ext w0 w/\(lvE l k).2≠0/\(lvE l k).1<=1125899906842624/\∃(V:oA) (W Z:Nat) (A2:oA) (n2 c2:Nat),v=.tuple #[.agg #[.slice V W Z,.slice A2 n2 c2],fltV (lvE l k).1 (lvE l k).2])\/
 ((lvE l k).2=0/\(0<k->LvlV l k)/\∃A H B nb U R bs,v=.tuple #[.agg #[.slice A (vNum l k) H,.slice B nb U],fltV 0 0]/\Mem w0 w R/\RowB 164 (unpV (qh l k) (vNum l k) (tw l k)) R (.slice A (vNum l k) H)/\RowB 4 (bs.map Value.bool) R (.slice B nb U)/\(0<k->nb=vNum l k/\bs=bitL (qf l k) (vNum l k)))
theorem LvR.err{H U:oA}{V W Z c2:Nat}{e:Nat}{x y:Int}(hx:Ext w0 w)(h:lvE l k=(a,e))(h0:e≠0)(hb:a<=1125899906842624)(h1:x=a)(h2:y=e):
  LvR l k w0 (.tuple #[.agg #[.slice H V W,.slice U Z c2],.agg #[ii x,ii y]]) w:=by
 subst h1 h2;refine .inl ⟨hx,?_⟩;rw[h];exact⟨h0,hb,H,V,W,U,Z,c2,rfl⟩
theorem qg9(h:i<(unpN (qh l k) (vNum l k) (tw l k)).length):(unpN (qh l k) (vNum l k) (tw l k))[i]=tX l k i:=by simp[unpN,tX]
theorem qjz(H:(tE l).2=0):(∀k,k<4->(tcF l k).2=0)/\∀k,k<4->(tvF l k).2=0:=by
 have U:(errF (tcF l) 4).2=0/\(errF (tvF l) 4).2=0:=by
  rw[tE]at H
  split at H
  ·rename_i h;exact absurd H h
  ·split at H
   ·rename_i h;exact absurd H h
   ·constructor<;>omega
 exact⟨qas U.1,qas U.2⟩
theorem q0c(l:LB)(A:oA)(c k:Nat)(F:Nat->Int)(w:DA)(hS:SlAt encB 1 w A l)(hc:l.length<=c)(hl:l.length<=67108864)(hF:HdF l F)(hT:(tE l).2=0)(av:k<4):
  Gv DM 174 [.slice A l.length c,hdV F,ii k] w λv w'=>LvR l k w v w':=by
 obtain⟨hz,hv⟩:=qjz hT;obtain⟨z1,z2,z3⟩:=qoh (hv k av);have bh:=qia (hz k av);have t1:tvAt l k+1<=tEnd l k:=by show _<=tvAt l k+1+_;omega
 have t2:tEnd l k<=tvAt l (k+1):=by rw[qbc];omega
 have ai:(qh l k).length=tEnd l k-(tvAt l k+1):=by rw[qh,Ar,zld];omega
 have ak:(qh l k).length=(vNum l k*tw l k+7)/8:=by rw[ai];show tvAt l k+1+(vNum l k*tw l k+7)/8-_=_;omega
 have aw:=λw' (a7:SlAt encB 1 w' A l) (h1:1<=k)=>qt0 l A c k F w' a7 hc hl hF hT h1 Oo
 refine ze Tryz.func174 Tryz.ntmps174 ?_;refine znm (Mem.nil w) ?_;intro hb w1 H;have H:Mem w w1 [(hb,.cells (fnA 13 (inF F)) 118)]:=H;(conv=>whnf);refine znm H λr6 w2 H=>zw ?_;refine znm H λr7 w3 H=>zu ?_;refine LoadV.fi (x:=((tvAt l k:Nat):Int)) H (i:=2) rfl (4+k) (by rw[show tsz DM 3=1 from by kernel_rfl];dsimp only;omega) Oo (hF.w k Oo) (zw ?_);refine ElemV.bs (hS.ext H.ext) rfl (tvAt l k) rfl Oo ?_;intro eb eo ax;have hw:l[tvAt l k].toNat=tw l k:=by rw[tw,Ag,zge z1];rfl
 have bi:tw l k<256:=by rw[<-hw];exact q9 _
 rw[hw]at ax;(conv=>whnf);refine LoadV.of ax (zu ?_);refine znm H λlb w4 H=>zw ?_;refine zS H 0 ?_;intro w5 H;have H:Mem w w5 [(lb,.cells #[.slice none 0 0,.slice none 0 0] 171),(r7,.cells #[ii 0,ii 0] 120),(r6,.cells #[.slice none 0 0,.slice none 0 0] 171),(hb,.cells (fnA 13 (inF F)) 118)]:=H;(conv=>whnf);obtain⟨P,eP⟩:∃P,P=(if c=tvAt l k+1 then A else A.map (·.add ((tvAt l k+1)*1))):=⟨_,rfl⟩
 have hP:SlAt encB 1 w P (qh l k):=by rw[eP];exact hS.cut (m:=c) Oo Oo Oo rfl
 obtain⟨E,eE⟩:∃E:Nat,E=opE (qh l k) (vNum l k) (tw l k):=⟨_,rfl⟩
 refine DrawV.free Jk Jk (zw ?_);(iterate 6 (refine zd ?_));apply zsd
 ·intro wd hd;(conv=>whnf);refine LoadV.fi (x:=((tEnd l k:Nat):Int)) (Mem.call (Mem.drew H) hd) (i:=3) rfl (8+k) (by rw[show tsz DM 3=1 from by kernel_rfl];dsimp only;omega) Oo (hF.v k Oo) (zw ?_);exact xq
 (conv=>whnf);refine zsd (.slice P (tEnd l k-(tvAt l k+1)) (c-(tvAt l k+1))) (λwd hd=>zw ?_) (zw ?_)
 ·refine SliceV.to (tvAt l k+1) (tEnd l k) c (by show(_:Int)=_;omega) rfl rfl Oo Oo znr (λh=>by cases h) ?_;rw[show tsz DM 5=1 from by kernel_rfl,<-eP];(conv=>whnf);exact xq
 (iterate 3 (refine zd ?_));apply zsd
 ·intro wd hd;(conv=>whnf);refine LoadV.fi (x:=((vNum l k:Nat):Int)) (Mem.call (Mem.drew H) hd) (i:=3) rfl k (by rw[show tsz DM 3=1 from by kernel_rfl];dsimp only;omega) Oo (hF.c k Oo) (zw ?_);exact xq
 (conv=>whnf);refine zd ?_;apply StepD.of (λv wx=>OpR (qh l k) (vNum l k) (tw l k) w5.heap.size v wx) (λ_ _ _ h he=>h.ext he)
 ·intro wd hd;(conv=>whnf);have:=qs9 (qh l k) P (c-(tvAt l k+1)) (vNum l k) (tw l k) wd (hP.ext (H.drew.ext.trans hd)) ak Oo Oo;rw[ai]at this;refine zcv (this) ?_;rintro v w9 ⟨h1,h2⟩;exact⟨h2,h1.base hd.size⟩
 (conv=>whnf);apply StepD.of (λv wx=>OpR (qh l k) (vNum l k) (tw l k) w5.heap.size v wx) (λ_ _ _ h he=>h.ext he)
 ·intro wd hd;(conv=>whnf);rintro v hv;obtain⟨A1,k1,c1,rfl,hs⟩:=OpR.split hv;(conv=>whnf);exact⟨xr,hv⟩
 (conv=>whnf);apply StepD.of (λv wx=>OpS (qh l k) (vNum l k) (tw l k) w5.heap.size v wx) (λ_ _ _ h he=>h.ext he)
 ·intro wd hd;(conv=>whnf);rintro v hv;obtain⟨A1,k1,c1,rfl,hs⟩:=OpR.split hv;conv=>whnf
  (try (rintro v2 al;(conv=>whnf)))
  exact⟨xr,hs⟩
 (conv=>whnf);apply zsd (ii E)
 ·intro wd hd;conv=>whnf
  (repeat(rintro v hv;(try obtain⟨A1,k1,c1,rfl,hs⟩:=OpR.split hv);(conv=>whnf)))
  exact⟨xr,by rw[eE]⟩
 (conv=>whnf);apply StepD.of (λv wx=>OpS (qh l k) (vNum l k) (tw l k) w5.heap.size v wx) (λ_ _ _ h he=>h.ext he)
 ·intro wd hd;(conv=>whnf);rintro v hv;obtain⟨A1,k1,c1,rfl⟩:=OpS.slice hv;conv=>whnf
  (repeat(rintro v2 al;(first|obtain⟨A2,k2,c2,rfl,hs⟩:=OpR.split al|obtain⟨A2,k2,c2,rfl⟩:=OpS.slice al);(conv=>whnf)))
  exact⟨xr,by assumption⟩
 (conv=>whnf);apply zsd (ii E)
 ·intro wd hd;conv=>whnf
  (repeat(rintro v hv;(try obtain⟨A1,k1,c1,rfl⟩:=OpS.slice hv);(conv=>whnf)))
  exact xq
 (conv=>whnf);intro w6 ay;(conv=>whnf);rintro v hv;conv=>whnf
 (repeat(rintro _ _;(conv=>whnf)))
 obtain⟨A1,k1,c1,rfl⟩:=OpS.slice hv;have hP:=hP.ext H.ext
 by_cases hE:opE (qh l k) (vNum l k) (tw l k)=0
 case neg=>
  have H:=H.drew.call ay;have az:E≠0:=by rw[eE];exact hE
  refine zv ?_;refine DrawV.inv (λS w'=>Mem w w' [(lb,.cells #[.slice none 0 0,.slice none 0 0] 171),(r7,.cells (bif S 8 then #[ii (((tEnd l k:Nat):Int)-1),ii 12]else #[ii 0,ii 0]) 120),(r6,.cells #[.slice none 0 0,.slice none 0 0] 171),(hb,.cells (fnA 13 (inF F)) 118)]) rfl Jk H.drew ?_;clear H;(conv=>whnf);refine zLi ?_;(iterate 3 (refine zi ?_));refine StepI.of (ii (tEnd l k:Nat)) (λS wd hk hp hI=>zw ?_) (zw ?_)
  ·refine LoadV.fi (x:=((tEnd l k:Nat):Int)) hI (i:=3) rfl (8+k) (by rw[show tsz DM 3=1 from by kernel_rfl];dsimp only;omega) Oo (hF.v k Oo) (zw ?_);exact⟨rfl,hI⟩
  refine zi ?_;refine zi ?_;refine StepI.of undef (λS wd hk hp hI=>zw ?_) (zw ?_)
  ·refine zS hI 2 λwx a8=>zw ?_;exact⟨rfl,a8⟩
  refine zSi ?_;intro w7 H;have H:Mem w w7 [(lb,.cells #[.slice none 0 0,.slice none 0 0] 171),(r7,.cells #[ii (((tEnd l k:Nat):Int)-1),ii 12] 120),(r6,.cells #[.slice none 0 0,.slice none 0 0] 171),(hb,.cells (fnA 13 (inF F)) 118)]:=H;(conv=>whnf);refine qd (R:=λv w'=>LvR l k w v w') (zw ?_);refine zl H 2 ?_;refine zl H 1 ?_;exact LvR.err H.ext (q4u hE) Od Oo Oo rfl
 have az:E=0:=by rw[eE];exact hE
 subst az;obtain⟨hR,a0,a1⟩:=OpS.rw hv hE Oo H (xr.drew.trans ay);clear H hv;refine zv ?_;refine qq (λx:Nat×oA×Nat=>[(0,.slice A l.length c),(2,ii k),(4,pp hb),(6,pp r6),(7,pp r7),(8,ii (tvAt l k)),(9,ii (tw l k)),(10,pp lb),(11,.slice x.2.1 x.1 x.2.2)])
  (λx w'=>x.1<=vNum l k/\(tw l k≠0->x.1=vNum l k)/\Rw w w' (.slice x.2.1 x.1 x.2.2) 164 1 x.1 ((unpV (qh l k) (vNum l k) (tw l k)).take x.1) [(lb,.cells #[.slice none 0 0,.slice none 0 0] 171),(r7,.cells #[ii 0,ii 0] 120),(r6,.cells #[.slice none 0 0,.slice none 0 0] 171),(hb,.cells (fnA 13 (inF F)) 118)]) (λx=>vNum l k-x.1) (k1,A1,c1) fq ⟨a0,a1,hR⟩ ?_
 clear hR a0 a1;rintro⟨i,C,cc⟩ w7 bj ⟨i1,i2,hR⟩;dsimp only at i1 i2 hR|-;have H:=hR.mem;refine zu ?_;refine LoadV.fi (x:=((vNum l k:Nat):Int)) H (i:=3) rfl k (by rw[show tsz DM 3=1 from by kernel_rfl];dsimp only;omega) Oo (hF.c k Oo) (zw ?_);refine zC (λ_=>zw ?_) (λ_=>zw ?_)
 ·refine NewV.rw hR λnb w8 a9=>zw ?_;refine AppV.one qaic u64I u64Z Jk rfl (by decide +kernel) a9 rfl Oo ?_;intro B' d' w9 ba;(conv=>whnf);refine⟨(i+1,B',d'),fq,⟨by simp only;omega,λh=>by simp only;have:=i2 h;omega,?_⟩,by simp only;omega⟩;have h0:tw l k=0:=by
   rcases Bk (tw l k)with h|h
   ·exact h
   ·have:=i2 Oo;omega
  have e:(unpV (qh l k) (vNum l k) (tw l k)).take (i+1)=(unpV (qh l k) (vNum l k) (tw l k)).take i++[.int .u64 0]:=by
   rw[h0];exact q61 _ Oo
  simp only;rw[e];exact ba
 obtain rfl:i=vNum l k:=by omega
 rw[Aj (by rw[qkx];exact Ai _)]at hR;have hC:SlAt encU 1 w7 C (unpN (qh l k) (vNum l k) (tw l k)):=V.Rw.slAt (f:=λx:Nat=>Value.int .u64 (x:Int)) (λ_=>rfl) hR (qbz ..);have bb:∀x∈unpN (qh l k) (vNum l k) (tw l k),x<8388608:=λx hx=>Bu (q6z hx) (Bg Od z2:2 ^ tw l k<=2 ^ 23)
 obtain⟨R,H,hB⟩:=V.Rw.rowB hR;have H:Mem w w7 ((lb,.cells #[.slice none 0 0,.slice none 0 0] 171)::(r7,.cells #[ii 0,ii 0] 120)::(r6,.cells #[.slice none 0 0,.slice none 0 0] 171)::(hb,.cells (fnA 13 (inF F)) 118)::R):=H;clear hR;refine zcv (qwl _ C (vNum l k) cc w7 hC (qbz ..) (λx hx=>by have:=bb x hx;omega) Oo) ?_;rintro r w8 ⟨rfl,rfl⟩;obtain⟨kk,am⟩:∃kk,kk=wMx (unpN (qh l k) (vNum l k) (tw l k)) (vNum l k):=⟨_,rfl⟩
 rw[<-am];(conv=>whnf);refine zC (λ_=>zw ?_) (λ_=>zw ?_)
 ·refine zl H 0 ?_;refine zS H 2 λw9 H=>zw ?_;refine zS H 1 λa2 H=>zw ?_;refine qd (R:=λv w'=>LvR l k w v w') (zw ?_);refine zl H 2 ?_;refine zl H 1 ?_;exact LvR.err H.ext (qse hE (by rw[<-am];omega)) Od Oo rfl rfl
 have aa:wMx (unpN (qh l k) (vNum l k) (tw l k)) (vNum l k)=tw l k:=by omega
 clear am;refine StoreV.mem H (i:=0) rfl Od rfl ?_;intro w9 H;have H:Mem w w9 ((lb,.cells #[.slice C (vNum l k) cc,.slice none 0 0] 171)::(r7,.cells #[ii 0,ii 0] 120)::(r6,.cells #[.slice none 0 0,.slice none 0 0] 171)::(hb,.cells (fnA 13 (inF F)) 118)::R):=H;(conv=>whnf);refine zC (λ_=>zw ?_) (λ_=>zw ?_)
 ·refine zl H 3 ?_;refine zcv (aw w9 (hS.ext H.ext) Oo) ?_;rintro r a2 ⟨⟨an,a3,rfl⟩|⟨af,a4,B,cb,rfl,hO⟩,aj⟩
  ·have H:=H.call aj;have ao:=q4v hE aa Oo an;obtain⟨a,ea⟩:∃a:Nat,a=(vcE l k).1:=⟨_,rfl⟩
   obtain⟨e,ee⟩:∃e:Nat,e=(vcE l k).2:=⟨_,rfl⟩
   have ao:lvE l k=(a,e):=by rw[ao,ea,ee]
   rw[<-ea]at a3;rw[<-ea,<-ee];rw[<-ee]at an;have bg:(e:Int)≠0:=by omega
   unfold fltV;(conv=>whnf);refine znm H λfb bd H=>zw ?_;refine zS H 0 ?_;intro a5 H;have H:Mem w a5 ((fb,.cells #[ii a,ii e] 120)::(lb,.cells #[.slice C (vNum l k) cc,.slice none 0 0] 171)::(r7,.cells #[ii 0,ii 0] 120)::(r6,.cells #[.slice none 0 0,.slice none 0 0] 171)::(hb,.cells (fnA 13 (inF F)) 118)::R):=H;(conv=>whnf);refine zr H 0 ?_;refine zv ?_;refine DrawV.inv (λS w'=>Mem w w' ((fb,.cells #[ii a,ii e] 120)::(lb,.cells #[.slice C (vNum l k) cc,.slice none 0 0] 171)::(r7,.cells (bif S 3 then #[ii a,ii e]else #[ii 0,ii 0]) 120)::(r6,.cells (bif S 2 then #[.slice C (vNum l k) cc,.slice none 0 0]else #[.slice none 0 0,.slice none 0 0]) 171)::(hb,.cells (fnA 13 (inF F)) 118)::R)) rfl Jk H.drew ?_;clear H;(conv=>whnf);refine zLi ?_;refine zLi ?_;refine zSi ?_;refine zSi ?_;intro aq H;have H:Mem w aq ((fb,.cells #[ii a,ii e] 120)::(lb,.cells #[.slice C (vNum l k) cc,.slice none 0 0] 171)::(r7,.cells #[ii a,ii e] 120)::(r6,.cells #[.slice C (vNum l k) cc,.slice none 0 0] 171)::(hb,.cells (fnA 13 (inF F)) 118)::R):=H;(conv=>whnf);refine qd (R:=λv w'=>LvR l k w v w') (zw ?_);refine zl H 3 ?_;refine zl H 2 ?_;exact LvR.err H.ext ao an a3 rfl rfl
  ·obtain⟨R2,H,ae⟩:=V.Mem.row H aj hO znr;have H:Mem w a2 ((lb,.cells #[.slice C (vNum l k) cc,.slice none 0 0] 171)::(r7,.cells #[ii 0,ii 0] 120)::(r6,.cells #[.slice none 0 0,.slice none 0 0] 171)::(hb,.cells (fnA 13 (inF F)) 118)::(R++R2)):=H;have ar:RowB 164 (unpV (qh l k) (vNum l k) (tw l k)) (R++R2) (.slice C (vNum l k) cc):=V.RowB.right hB;have ae:RowB 4 ((bitL (qf l k) (vNum l k)).map Value.bool) (R++R2) (.slice B (vNum l k) cb):=V.RowB.left ae;generalize R++R2=R3 at H ar ae;clear hO hB;(conv=>whnf);refine znm H λfb bd H=>zw ?_;refine zS H 0 λa5 H=>zw ?_;refine zr H 0 ?_;refine zv ?_;have H:=H.sub (Ak ..);refine StoreV.mem H (i:=0) rfl (show 1<2 by decide) rfl ?_;intro aq H;have H:Mem w aq ((lb,.cells #[.slice C (vNum l k) cc,.slice B (vNum l k) cb] 171)::(r7,.cells #[ii 0,ii 0] 120)::(r6,.cells #[.slice none 0 0,.slice none 0 0] 171)::(hb,.cells (fnA 13 (inF F)) 118)::R3):=H;(conv=>whnf);refine qq (λi:Nat=>[(2,ii k),(6,pp r6),(7,pp r7),(8,ii (tvAt l k)),(10,pp lb),(11,.slice C (vNum l k) cc),(15,ii i)])
    (λi w'=>i<=vNum l k/\(∀j,j<i->(nmF l k j).2=0)/\Mem w w' ((lb,.cells #[.slice C (vNum l k) cc,.slice B (vNum l k) cb] 171)::(r7,.cells #[ii 0,ii 0] 120)::(r6,.cells #[.slice none 0 0,.slice none 0 0] 171)::(hb,.cells (fnA 13 (inF F)) 118)::R3)) (λi=>vNum l k-i) 0 fq ⟨Af _,λj h=>by omega,H⟩ ?_
   clear H;rintro i ad be ⟨i1,W,H⟩;have Z:SlAt encU 1 ad C (unpN (qh l k) (vNum l k) (tw l k)):=V.RowB.slf (f:=λx:Nat=>Value.int .u64 (x:Int)) (λ_=>rfl) ar H (λx hx=>by simp[hx]);have au:SlAt encO 1 ad B (bitL (qf l k) (vNum l k)):=V.RowB.slf (f:=Value.bool) (λ_=>rfl) ae H (λx hx=>by simp[hx]);have bf:(bitL (qf l k) (vNum l k)).length=vNum l k:=by simp[bitL]
   (conv=>whnf);refine zC (λ_=>zu ?_) (λ_=>zu ?_)
   ·refine ElemV.sl Z (qbz ..) i Oo Oo ?_;intro eb eo U;rw[qg9]at U;refine zu ?_;refine LoadV.cell0 U (zw ?_);refine zt ?_;refine zC (λ_=>zu ?_) (λ_=>zu ?_)
    ·refine zl H 0 ?_;refine zv ?_;refine zS H 2 λwa H=>zw ?_;refine zS H 1 λwb H=>zw ?_;refine qd (R:=λv w'=>LvR l k w v w') (zw ?_);refine zl H 2 ?_;refine zl H 1 ?_;exact LvR.err H.ext (qsd hE aa (.inr af) W Oo (qp0 Oo) Od) Od Oo Oo rfl
    refine ElemV.sl Z (qbz ..) i Oo Oo ?_;intro eb eo U;rw[qg9]at U;refine zu ?_;refine LoadV.cell0 U (zw ?_);refine zt ?_;refine zC (λ_=>zw ?_) (λ_=>zw ?_)
    ·refine zl H 0 ?_;refine zv ?_;refine zS H 2 λwa H=>zw ?_;refine zS H 1 λwb H=>zw ?_;refine qd (R:=λv w'=>LvR l k w v w') (zw ?_);refine zl H 2 ?_;refine zl H 1 ?_;exact LvR.err H.ext (qsd hE aa (.inr af) W Oo (qp0 Oo) Od) Od Oo Oo rfl
    have H:=H.drew;have Z:=Z.ext (Ext.refl ad).drew;have au:=au.ext (Ext.refl ad).drew;refine zy ?_;refine zt ?_;refine zC (λ_=>zu ?_) (λ_=>zu ?_)
    ·refine zr H 0 ?_;refine zv ?_;refine ElemV.sl au bf (i-1) Oo Oo ?_;intro eb eo U;refine zu ?_;refine LoadV.cell0 U (zu ?_);obtain⟨b,hb⟩:∃b,b=(bitL (qf l k) (vNum l k))[i-1]:=⟨_,rfl⟩
     have ag:b=decide (bitN ((qf l k).drop 8) (i-1)=1):=by
      rw[hb];simp only[bitL,Cx,Dy];rw[vD,qcz];rw[a4.n];unfold upN;omega
     rw[<-hb];clear hb;cases b
     ·have a6:bitN ((qf l k).drop 8) (i-1)≠1:=of_decide_eq_false ag.symm;clear ag;refine zu ?_;refine ElemV.sl Z (qbz ..) i Oo Oo ?_;intro eb eo U;rw[qg9]at U;refine zu ?_;refine LoadV.cell0 U (zu ?_);refine ElemV.sl Z (qbz ..) (i-1) Oo Oo ?_;intro eb eo U;rw[qg9]at U;refine zu ?_;refine LoadV.cell0 U (zw ?_);refine zt ?_;refine zC (λ_=>zu ?_) (λ_=>zu ?_)
      ·refine zl H 0 ?_;refine zv ?_;refine zS H 2 λwa H=>zw ?_;refine zS H 1 λwb H=>zw ?_;refine qd (R:=λv w'=>LvR l k w v w') (zw ?_);refine zl H 2 ?_;refine zl H 1 ?_;exact LvR.err H.ext (qsd hE aa (.inr af) W Oo (qu0 Oo ⟨by omega,.inr a6,by omega⟩) Od) Od Oo Oo rfl
      ·exact⟨i+1,fq,⟨by omega,qht W (qn2 Oo Oo),H⟩,by omega⟩
     ·have a6:bitN ((qf l k).drop 8) (i-1)=1:=BR ag.symm;clear ag;refine zu ?_;exact⟨i+1,fq,⟨by omega,qht W (qn2 Oo Oo),H⟩,by omega⟩
    ·exact⟨i+1,fq,⟨by omega,qht W (qn2 Oo Oo),H⟩,by omega⟩
   ·obtain rfl:i=vNum l k:=by omega
    refine zl H 0 ?_;refine zS H 2 λwa H=>zw ?_;refine zS H 1 λwb H=>zw ?_;refine qd (R:=λv w'=>LvR l k w v w') (zw ?_);refine zl H 2 ?_;refine zl H 1 ?_;exact .inr ⟨q4t hE aa (.inr af) W,λ_=>a4,C,cc,B,vNum l k,cb,_,_,rfl,H,V.RowB.more (V.RowB.more (V.RowB.more (V.RowB.more ar))),V.RowB.more (V.RowB.more (V.RowB.more (V.RowB.more ae))),λ_=>⟨rfl,rfl⟩⟩
 ·have ah:k=0:=by omega
  refine qq (λi:Nat=>[(2,ii k),(6,pp r6),(7,pp r7),(8,ii (tvAt l k)),(10,pp lb),(11,.slice C (vNum l k) cc),(15,ii i)])
   (λi w'=>i<=vNum l k/\(∀j,j<i->(nmF l k j).2=0)/\Mem w w' ((lb,.cells #[.slice C (vNum l k) cc,.slice none 0 0] 171)::(r7,.cells #[ii 0,ii 0] 120)::(r6,.cells #[.slice none 0 0,.slice none 0 0] 171)::(hb,.cells (fnA 13 (inF F)) 118)::R)) (λi=>vNum l k-i) 0 fq ⟨Af _,λj h=>by omega,H⟩ ?_
  clear H;rintro i ad be ⟨i1,W,H⟩;have Z:SlAt encU 1 ad C (unpN (qh l k) (vNum l k) (tw l k)):=V.RowB.slf (f:=λx:Nat=>Value.int .u64 (x:Int)) (λ_=>rfl) hB H (λx hx=>by simp[hx]);(conv=>whnf);refine zC (λ_=>zu ?_) (λ_=>zu ?_)
  ·refine ElemV.sl Z (qbz ..) i Oo Oo ?_;intro eb eo U;rw[qg9]at U;refine zu ?_;refine LoadV.cell0 U (zw ?_);refine zt ?_;refine zC (λ_=>zw ?_) (λ_=>zw ?_)
   ·refine zl H 0 ?_;refine zv ?_;refine zS H 2 λwa H=>zw ?_;refine zS H 1 λwb H=>zw ?_;refine qd (R:=λv w'=>LvR l k w v w') (zw ?_);refine zl H 2 ?_;refine zl H 1 ?_;exact LvR.err H.ext (qsd hE aa (.inl ah) W Oo (qp0 Oo) Od) Od Oo Oo rfl
   have H:=H.drew;have Z:=Z.ext (Ext.refl ad).drew;refine zy ?_;refine zt ?_;refine zC (λ_=>zu ?_) (λ_=>zu ?_)
   ·refine ElemV.sl Z (qbz ..) i Oo Oo ?_;intro eb eo U;rw[qg9]at U;refine zu ?_;refine LoadV.cell0 U (zu ?_);refine ElemV.sl Z (qbz ..) (i-1) Oo Oo ?_;intro eb eo U;rw[qg9]at U;refine zu ?_;refine LoadV.cell0 U (zw ?_);refine zt ?_;refine zC (λ_=>zu ?_) (λ_=>zu ?_)
    ·refine zl H 0 ?_;refine zv ?_;refine zS H 2 λwa H=>zw ?_;refine zS H 1 λwb H=>zw ?_;refine qd (R:=λv w'=>LvR l k w v w') (zw ?_);refine zl H 2 ?_;refine zl H 1 ?_;exact LvR.err H.ext (qsd hE aa (.inl ah) W Oo (qu0 Oo ⟨by omega,.inl ah,by omega⟩) Od) Od Oo Oo rfl
    ·exact⟨i+1,fq,⟨by omega,qht W (qn2 Oo Oo),H⟩,by omega⟩
   ·exact⟨i+1,fq,⟨by omega,qht W (qn2 Oo Oo),H⟩,by omega⟩
  ·obtain rfl:i=vNum l k:=by omega
   refine zl H 0 ?_;refine zS H 2 λwa H=>zw ?_;refine zS H 1 λwb H=>zw ?_;refine qd (R:=λv w'=>LvR l k w v w') (zw ?_);refine zl H 2 ?_;refine zl H 1 ?_;exact .inr ⟨q4t hE aa (.inl ah) W,λh=>by omega,C,cc,none,0,0,_,[],rfl,H,V.RowB.more (V.RowB.more (V.RowB.more (V.RowB.more hB))),RowB.nil _ _,λh=>by omega⟩
theorem OpS.read{p:LB}{n base:Nat}(h:OpS p n wd base (.slice A k c) w)(Z:opE p n wd=0):∃xs:DL,SlAt encU 1 w A xs/\xs.length=k/\∀j,j<n->xs.getD j 0=valB p (j*wd) wd:=by
 rcases h with⟨H,U⟩|⟨H,U,V⟩|⟨H,U,b,V,h4,h5⟩
 ·exact absurd Z H
 ·cases V;exact⟨[],⟨λh=>absurd rfl h⟩,rfl,λj _=>by rw[U];rfl⟩
 ·cases V;refine⟨unpN p _ wd,⟨λaa=>⟨b,0,rfl,λj x hx k u W=>?_⟩⟩,qbz ..,λj hj=>by simp[unpN,hj]⟩;cases k with
  | succ k=>simp[encU]at W
  | zero=>
   simp only[encU,AQ,AI]at W;subst W;rw[qa h5];simp only[Bx,Bt,As,An,unpV,Ao,hx];rfl
theorem q20{f:Nat->Nat×Nat}{b:Nat}(h:∀k,(f k).1<=b):∀n,(errF f n).1<=b
 | 0=>Af _
 | n+1=>by
  rw[errF]
  split
  ·exact q20 h n
  ·exact h n
theorem qf8(l:LB)(k most:Nat):(numE l k most).1<=l.length:=by
 unfold numE
 split
 ·exact qco l k
 ·split
  ·exact qco l k
  ·exact Af _
theorem q8a(m:LB):(dE m).1<=m.length:=by
 unfold dE
 split
 ·exact q20 (λk=>qf8 m k _) 2
 ·split
  ·exact Ai _
  ·split
   ·simp only;omega
   ·exact Af _
theorem qo4{m a:LB}(h:(entG m false a).2.2=0):(numL m).1<=a.length:=by
 unfold entG at h;simp only[CT,if_false]at h
 split at h
 ·rename_i g;exact absurd h g
 split at h
 ·rename_i g;exact absurd h g
 split at h
 ·cases h
 ·omega
def DvR(l:LB)(base:Nat)(v:DF)(w:DA):Prop:=
 ((doE l).2≠0/\(doE l).1<=l.length/\v=.tuple #[.slice none 0 0,fltV (doE l).1 (doE l).2])\/
 ((doE l).2=0/\∃H:List DB,(∀i t,H[i]?=some t->dGet l i=some t.data.toList)/\H.length=dN l/\∃B c,v=.tuple #[.slice B (dN l) c,fltV 0 0]/\w.ownsRow base 9 1 (.slice B (dN l) c) (dN l) (H.map Value.string))
theorem DvR.err{base:Nat}{e:Nat}{x y:Int}(h:doE l=(a,e))(H:e≠0)(U:a<=l.length)(V:x=a)(W:y=e):DvR l base (.tuple #[.slice none 0 0,.agg #[ii x,ii y]]) w:=by
 subst V W;refine .inl ?_;rw[h];exact⟨H,U,rfl⟩
theorem qln(a b:DB):leL a.data.toList b.data.toList=(slt a b||seq a b):=rfl
structure OSt(l:LB)(i:Nat)(ts:List DB)(last:DB)(p:Nat):Prop where
 st:DSt l i last.data.toList p
 len:ts.length=i
 get:∀j t,ts[j]?=some t->dGet l j=some t.data.toList
 zero:i=0->last=⟨#[]⟩
 lst:∀j,i=j+1->ts[j]?=some last
 size:last.size<=262144
 dst:dSt l i=(last.data.toList,p)
 fine:∀j,j<i->(dnF l j).2=0
theorem OSt.step{p:Nat}{W:List DB}{H:DB}(h:OSt l i W H p)(hi:i<dN l){first:Bool}(Z:first=decide (i%16=0))(hp:i%16=0->q5 l (i/16)=p)(V:(entG (l.drop (qg l+p)) first H.data.toList).2.2=0)(h4:0<i->leL (entG (l.drop (qg l+p)) first H.data.toList).1 H.data.toList=false)(h5:i%16≠0->(numL (l.drop (qg l+p))).1=comL (entG (l.drop (qg l+p)) first H.data.toList).1 H.data.toList):OSt l (i+1) (W++[⟨(entG (l.drop (qg l+p)) first H.data.toList).1.toArray⟩]) ⟨(entG (l.drop (qg l+p)) first H.data.toList).1.toArray⟩ (p+(entG (l.drop (qg l+p)) first H.data.toList).2.1):=by
 have e:l.drop (qg l+p)=(qe l).drop p:=by rw[qe,Am]
 rw[e]at V h4 h5|-;have hs:=h.st.step hp Z V;have aa:=qahx h.dst Z hp V h4 h5;have hl:=h.len;refine⟨hs,by simp[hl],λj t U=>?_,λh=>by omega,λj U=>?_,?_,?_,λj U=>?_⟩
 ·rw[Cd]at U
  split at U
  ·exact h.get j t U
  ·rename_i ad
   obtain rfl:j=i:=by
    rcases AN (j-W.length) 1 with h1|h1
    ·omega
    ·rw[AY (by simpa using h1)]at U;cases U
   rw[hl,BD]at U;cases U;exact hs.get hi
 ·obtain rfl:j=i:=by omega
  rw[AV Oo,hl,BD];rfl
 ·have:=(qbk V).1;show(List.toArray _).size<=_;rw[CF];exact this
 ·exact qhi h.dst Z
 ·by_cases ej:j=i
  ·subst ej;rw[aa]
  ·exact h.fine j Oo
theorem q2r(l:LB)(A:oA)(c:Nat)(w:DA)(hS:SlAt encB 1 w A l)(hc:l.length<=c)(hl:l.length<=140737488355328):
  Gv DM 172 [.slice A l.length c] w λv w'=>DvR l w.heap.size v w'/\Ext w w':=by
 have bf:=q8a l;refine ze Tryz.func172 Tryz.ntmps172 ?_;refine znm (Mem.nil w) λr3 w1 H=>zw ?_;refine zcv (qrl l A c w1 (hS.ext H.ext) hc hl) ?_;rintro r w2 ⟨⟨hE,rfl⟩|⟨hE,rfl⟩,a4⟩
 ·have H:=H.call a4;(conv=>whnf);refine znm H λhb w3 H=>zw ?_;refine znm H λfb w4 H=>zw ?_;refine zS H 1 λw5 H=>zw ?_;refine zS H 0 ?_;intro w6 H;have H:Mem w w6 [(fb,.cells #[ii (dE l).1,ii (dE l).2] 201),(hb,.cells #[ii 0,ii 0,ii 0,ii 0] 200),(r3,.cells #[ii 0,ii 0] 201)]:=H;(conv=>whnf);refine LoadV.mem (i:=0) Oa rfl rfl (zw ?_);refine zt ?_;refine DrawV.inv (λS w'=>Mem w w' [(fb,.cells #[ii (dE l).1,ii (dE l).2] 201),(hb,.cells #[ii 0,ii 0,ii 0,ii 0] 200),(r3,.cells (bif S 2 then #[ii (dE l).1,ii (dE l).2]else #[ii 0,ii 0]) 201)]) rfl Jk H.drew ?_;clear H;(conv=>whnf);refine zLi ?_;refine zi ?_;refine zSi ?_;intro wz H;have H:Mem w wz [(fb,.cells #[ii (dE l).1,ii (dE l).2] 201),(hb,.cells #[ii 0,ii 0,ii 0,ii 0] 200),(r3,.cells #[ii (dE l).1,ii (dE l).2] 201)]:=H;(conv=>whnf);refine qd (R:=λv w'=>DvR l w.heap.size v w'/\Ext w w') (zw ?_);refine zl H 2 ?_;exact⟨.err (a:=(dE l).1) (e:=(dE l).2) (qxi hE) hE Oo rfl rfl,H.ext⟩
 have H:=H.call a4;obtain⟨d1,d2,d3⟩:=q8b hE;have bk:qag l<=qg l:=by unfold qg;omega
 have bl:qg l<=l.length:=by rw[<-d3];unfold dEnd;omega
 have hW:qbg (qdc l)<=64:=qd4 64 _ (by show qdc l<2 ^ 64;omega) Od;have hU:upN (dN l) 16<=262144:=by unfold upN;omega
 (conv=>whnf);refine znm H λhb w3 H=>zw ?_;refine znm H λfb w4 H=>zw ?_;refine zS H 1 λw5 H=>zw ?_;refine zS H 0 ?_;intro w6 H;have H:Mem w w6 [(fb,.cells #[ii 0,ii 0] 201),(hb,.cells #[ii (dN l:Nat),ii (qdc l:Nat),ii (qag l:Nat),ii (qg l:Nat)] 200),(r3,.cells #[ii 0,ii 0] 201)]:=H;(conv=>whnf);refine LoadV.mem (i:=0) Oa rfl rfl (zw ?_);refine zt ?_;refine LoadV.mem (i:=1) Oa rfl rfl (zw ?_);refine zt ?_;obtain⟨U,eU⟩:∃U,U=upN (dN l) 16:=⟨_,rfl⟩
 have bm:U=(dN l+15)/16:=by rw[eU,upN];rfl
 have ba:((dN l:Nat)+16-1:Int)/16=(U:Int):=by omega
 rw[ba];obtain⟨P,eP⟩:∃P,P=(if c=qag l then A else A.map (·.add (qag l*1))):=⟨_,rfl⟩
 have hP:SlAt encB 1 w P (qw l):=by rw[eP];exact hS.cut (m:=c) Oo Oo Oo rfl
 have a1:(qw l).length=qg l-qag l:=by rw[qw,Ar,zld];omega
 have a2:(qw l).length=(U*dW l+7)/8:=by rw[a1,eU];show qag l+(upN (dN l) 16*dW l+7)/8-_=_;omega
 obtain⟨E,eE⟩:∃E:Nat,E=opE (qw l) U (dW l):=⟨_,rfl⟩
 refine DrawV.free Jk Jk (zw ?_);refine zd ?_;refine zd ?_;refine zLd ?_;refine zd ?_;refine zLd ?_;refine zsd (.slice P (qg l-qag l) (c-qag l)) (λwd hd=>zw ?_) (zw ?_)
 ·refine SliceV.to (qag l) (qg l) c rfl rfl rfl Oo Oo znr (λh=>by cases h) ?_;rw[show tsz DM 5=1 from by kernel_rfl,<-eP];(conv=>whnf);exact xq
 refine zd ?_;refine zd ?_;refine zLd ?_;refine zd ?_;refine zsd (ii (dW l:Nat)) (λwd hd=>zw ?_) (zw ?_)
 ·refine zcv (qja (qdc l) wd Oo) ?_;rintro v w9 ⟨rfl,rfl⟩;exact xq
 apply StepD.of (λv wx=>OpR (qw l) U (dW l) w6.heap.size v wx) (λ_ _ _ h Z=>h.ext Z)
 ·intro wd hd;(conv=>whnf);have:=qs9 (qw l) P (c-qag l) U (dW l) wd (hP.ext (H.drew.ext.trans hd)) a2 Oo hW;rw[a1]at this;refine zcv (this) ?_;rintro v w9 ⟨h1,h2⟩;exact⟨h2,h1.base hd.size⟩
 (conv=>whnf);apply StepD.of (λv wx=>OpR (qw l) U (dW l) w6.heap.size v wx) (λ_ _ _ h Z=>h.ext Z)
 ·intro wd hd;(conv=>whnf);rintro v hv;obtain⟨A1,k1,c1,rfl,hs⟩:=OpR.split hv;(conv=>whnf);exact⟨xr,hv⟩
 (conv=>whnf);apply StepD.of (λv wx=>OpS (qw l) U (dW l) w6.heap.size v wx) (λ_ _ _ h Z=>h.ext Z)
 ·intro wd hd;(conv=>whnf);rintro v hv;obtain⟨A1,k1,c1,rfl,hs⟩:=OpR.split hv;conv=>whnf
  (try (rintro v2 a3;(conv=>whnf)))
  exact⟨xr,hs⟩
 (conv=>whnf);apply zsd (ii E)
 ·intro wd hd;conv=>whnf
  (repeat(rintro v hv;(try obtain⟨A1,k1,c1,rfl,hs⟩:=OpR.split hv);(conv=>whnf)))
  exact⟨xr,by rw[eE]⟩
 (conv=>whnf);apply StepD.of (λv wx=>OpS (qw l) U (dW l) w6.heap.size v wx) (λ_ _ _ h Z=>h.ext Z)
 ·intro wd hd;(conv=>whnf);rintro v hv;obtain⟨A1,k1,c1,rfl⟩:=OpS.slice hv;conv=>whnf
  (repeat(rintro v2 a3;(first|obtain⟨A2,k2,c2,rfl,hs⟩:=OpR.split a3|obtain⟨A2,k2,c2,rfl⟩:=OpS.slice a3);(conv=>whnf)))
  exact⟨xr,by assumption⟩
 (conv=>whnf);apply zsd (ii E)
 ·intro wd hd;conv=>whnf
  (repeat(rintro v hv;(try obtain⟨A1,k1,c1,rfl⟩:=OpS.slice hv);(conv=>whnf)))
  exact xq
 (conv=>whnf);intro w7 bb;(conv=>whnf);rintro v hv;conv=>whnf
 (repeat(rintro _ _;(conv=>whnf)))
 obtain⟨Q,k1,c1,rfl⟩:=OpS.slice hv;have H:=H.drew.call bb
 by_cases au:opE (qw l) U (dW l)=0
 case neg=>
  have a5:E≠0:=by rw[eE];exact au
  refine zv ?_;refine DrawV.inv (λS w'=>Mem w w' [(fb,.cells #[ii 0,ii 0] 201),(hb,.cells #[ii (dN l:Nat),ii (qdc l:Nat),ii (qag l:Nat),ii (qg l:Nat)] 200),(r3,.cells (bif S 5 then #[ii ((qg l:Nat)-1:Int),ii 12]else #[ii 0,ii 0]) 201)]) rfl Jk H.drew ?_;clear H;(conv=>whnf);refine zi ?_;refine zLi ?_;(iterate 3 (refine zi ?_));refine zSi ?_;intro wz H;have H:Mem w wz [(fb,.cells #[ii 0,ii 0] 201),(hb,.cells #[ii (dN l:Nat),ii (qdc l:Nat),ii (qag l:Nat),ii (qg l:Nat)] 200),(r3,.cells #[ii ((qg l:Nat)-1:Int),ii 12] 201)]:=H;(conv=>whnf);refine qd (R:=λv w'=>DvR l w.heap.size v w'/\Ext w w') (zw ?_);refine zl H 2 ?_;have bg:=qad3 au;exact⟨.err (qacy hE (by rw[<-eU];exact au)) Od Oo Oo rfl,H.ext⟩
 have a5:E=0:=by rw[eE];exact au
 subst a5;have am:opE (qw l) (upN (dN l) 16) (dW l)=0:=by rw[<-eU];exact au
 obtain⟨xs,hX,a6,a7⟩:=OpS.read hv au;clear hv;refine zt ?_;refine LoadV.mem (i:=1) Oa rfl rfl (zw ?_);refine qq (λx:Nat×List DB×DB×Nat×oA×Nat=>[(0,.slice A l.length c),(3,pp r3),(4,pp hb),(7,.slice Q k1 c1),(9,.slice x.2.2.2.2.1 x.1 x.2.2.2.2.2),(10,ii (qg l+x.2.2.2.1:Nat)),(11,ii x.1)])
  (λx w'=>x.1<=dN l/\OSt l x.1 x.2.1 x.2.2.1 x.2.2.2.1/\Rw w7 w' (.slice x.2.2.2.2.1 x.1 x.2.2.2.2.2) 9 1 x.1 (x.2.1.map Value.string) []) (λx=>dN l-x.1) (0,[],⟨#[]⟩,0,none,0)
  fq ⟨Af _,⟨⟨Af _,λj h=>(by cases h)⟩,rfl,λj t h=>(by cases h),λ_=>rfl,λj h=>(by cases h),by decide,rfl,λj h=>by omega⟩,Rw.nil (Mem.nil w7)⟩ ?_
 have bd:=H.ext.size;rintro⟨i,ts,W,p,B,cc⟩ w8 bn ⟨i1,hO,hR⟩;dsimp only at i1 hO hR|-;have H:=H.call hR.mem.ext;have bh:=hO.st.le;have aa:(qe l).drop p=l.drop (qg l+p):=by rw[qe,Am]
 have bi:(qe l).length=l.length-qg l:=by rw[qe,zld]
 have ar:=hO.size;have af:=hS.ext H.ext;have ao:=hX.ext hR.mem.ext;conv=>whnf
 (repeat'(first|refine zp ?_|refine zC (λ_=>zw ?_) (λ_=>zw ?_)|refine LoadV.mem (i:=1) Oa rfl rfl (zw ?_)))
 ·rcases Bk i with a8|a8
  ·obtain rfl:W=⟨#[]⟩:=hO.zero a8;have ed:decide (((i:Nat):Int)%16=0)=true:=At Oo;rw[ed];clear ed;have H:=H.drew;have hR:=V.Rw.drew hR;have af:=af.ext (Ext.refl w8).drew;have ao:=ao.ext (Ext.refl w8).drew;refine zy ?_;refine zv ?_;rw[show((i:Nat):Int)/16=((i/16:Nat):Int)by omega];obtain⟨pl,av⟩:∃pl,pl=xs.getD (i/16) 0:=⟨_,rfl⟩
   have be:q5 l (i/16)=pl:=by rw[av,a7 _ Oo];rfl
   refine⟨.int .u64 (pl:Nat),by rw[av];exact qjv xs Q k1 c1 (i/16) _ ao a6,?_⟩;(conv=>whnf);refine zt ?_;refine LoadV.mem (i:=1) Oa rfl rfl (zw ?_);refine zt ?_;refine zC (λ_=>zu ?_) (λ_=>zu ?_)
   ·refine zS H 2 λwa H=>zw ?_;refine qd (R:=λv w'=>DvR l w.heap.size v w'/\Ext w w') (zw ?_);refine zl H 2 ?_;exact⟨.err (qjl hE am hO.fine Oo (qki hO.dst Oo Oo) Od) Od Oo Oo rfl,H.ext⟩
   have ah:i%16=0->q5 l (i/16)=p:=λ_=>Oo
   refine zcv (qgy l A c (qg l+p) true ⟨#[]⟩ w8.drew af hc hl Oo ar) ?_;rintro r w9 ⟨rfl,aj⟩;have H:=H.call aj;have hR:=hR.call aj;have af:=af.ext aj
   by_cases Z:(entG (l.drop (qg l+p)) true (⟨#[]⟩:DB).data.toList).2.2=0
   case neg=>
    rw[entR,Aa Z];have ad:=qrm (first:=true) hO.dst (At Oo).symm ah (by rw[aa];exact Z);rw[aa]at ad;obtain⟨e,ee⟩:∃e,e=(entG (l.drop (qg l+p)) true (⟨#[]⟩:DB).data.toList).2.2:=⟨_,rfl⟩
    rw[<-ee]at Z ad|-;refine zu ?_;refine zS H 2 λwa H=>zw ?_;refine qd (R:=λv w'=>DvR l w.heap.size v w'/\Ext w w') (zw ?_);refine zl H 2 ?_;exact⟨.err (qjl hE am hO.fine Oo ad Z) Z Oo Oo rfl,H.ext⟩
   have ae:=hO.st.step (first:=true) ah (At Oo).symm (by rw[aa];exact Z);rw[aa]at ae;have aq:=ae.le;clear ae;have ak:=(qbk Z).1;have an:=hO.step (first:=true) Oo (At Oo).symm ah Z;have ai:=qxh (first:=true) hO.dst (At Oo).symm ah (by rw[aa];exact Z);rw[aa]at ai;rw[entR,Ab Z];obtain⟨X,eX⟩:∃X:DB,X=⟨(entG (l.drop (qg l+p)) true (⟨#[]⟩:DB).data.toList).1.toArray⟩:=⟨_,rfl⟩
   have ag:(entG (l.drop (qg l+p)) true (⟨#[]⟩:DB).data.toList).1=X.data.toList:=by rw[eX]
   obtain⟨y,ey⟩:∃y,y=(entG (l.drop (qg l+p)) true (⟨#[]⟩:DB).data.toList).2.1:=⟨_,rfl⟩
   rw[<-eX,<-ey,ag,qln]at an;rw[<-ey]at aq;rw[ag]at ak;have ak:X.size<=262144:=ak;rw[ag,qln]at ai;rw[<-eX,<-ey];clear ag;clear Z eX ey;refine zu ?_;refine NewV.rw hR λnb wn aw=>zw ?_;refine AppV.one qtq strI strZ Jk rfl (by decide +kernel) aw rfl Oo ?_;intro B' d' wo ax;refine zu ?_;refine⟨(i+1,ts++[X],X,p+y,B',d'),⟨rfl,rfl,rfl,rfl,rfl,(by show ii ((qg l+p+y:Nat):Int)=ii ((qg l+(p+y):Nat):Int);rw[Cb]),rfl,trivial⟩,⟨by simp only;omega,an (λh=>by omega) (λh=>by omega),by simp only[AH,AB,B4];exact ax⟩,by simp only;omega⟩
  ·by_cases bj:i%16=0
   ·have ed:decide (((i:Nat):Int)%16=0)=true:=At Oo;rw[ed];clear ed;have H:=H.drew;have hR:=V.Rw.drew hR;have af:=af.ext (Ext.refl w8).drew;have ao:=ao.ext (Ext.refl w8).drew;refine zy ?_;refine zv ?_;rw[show((i:Nat):Int)/16=((i/16:Nat):Int)by omega];obtain⟨pl,av⟩:∃pl,pl=xs.getD (i/16) 0:=⟨_,rfl⟩
    have be:q5 l (i/16)=pl:=by rw[av,a7 _ Oo];rfl
    refine⟨.int .u64 (pl:Nat),by rw[av];exact qjv xs Q k1 c1 (i/16) _ ao a6,?_⟩;(conv=>whnf);refine zt ?_;refine LoadV.mem (i:=1) Oa rfl rfl (zw ?_);refine zt ?_;refine zC (λ_=>zu ?_) (λ_=>zu ?_)
    ·refine zS H 2 λwa H=>zw ?_;refine qd (R:=λv w'=>DvR l w.heap.size v w'/\Ext w w') (zw ?_);refine zl H 2 ?_;exact⟨.err (qjl hE am hO.fine Oo (qki hO.dst Oo Oo) Od) Od Oo Oo rfl,H.ext⟩
    have ah:i%16=0->q5 l (i/16)=p:=λ_=>Oo
    have hT:SlAt V.zeS 1 w8.drew B ts:=V.Rw.slAt (f:=Value.string) (λ_=>rfl) hR hO.len;have ay:ts[i-1]'(by have:=hO.len;omega)=W:=by
     have h1:=hO.lst (i-1) Oo;rw[zge (by have:=hO.len;omega)]at h1;exact AR h1
    refine ElemV.sl hT hO.len (i-1) Oo Oo ?_;intro eb eo al;rw[ay]at al;(conv=>whnf);refine LoadV.cell0 al (zw ?_);refine zcv (qgy l A c (qg l+p) true W w8.drew af hc hl Oo ar) ?_;rintro r w9 ⟨rfl,aj⟩;have H:=H.call aj;have hR:=hR.call aj;have af:=af.ext aj
    by_cases Z:(entG (l.drop (qg l+p)) true (W:DB).data.toList).2.2=0
    case neg=>
     rw[entR,Aa Z];have ad:=qrm (first:=true) hO.dst (At Oo).symm ah (by rw[aa];exact Z);rw[aa]at ad;obtain⟨e,ee⟩:∃e,e=(entG (l.drop (qg l+p)) true (W:DB).data.toList).2.2:=⟨_,rfl⟩
     rw[<-ee]at Z ad|-;refine zu ?_;refine zS H 2 λwa H=>zw ?_;refine qd (R:=λv w'=>DvR l w.heap.size v w'/\Ext w w') (zw ?_);refine zl H 2 ?_;exact⟨.err (qjl hE am hO.fine Oo ad Z) Z Oo Oo rfl,H.ext⟩
    have ae:=hO.st.step (first:=true) ah (At Oo).symm (by rw[aa];exact Z);rw[aa]at ae;have aq:=ae.le;clear ae;have ak:=(qbk Z).1;have an:=hO.step (first:=true) Oo (At Oo).symm ah Z;have ai:=qxh (first:=true) hO.dst (At Oo).symm ah (by rw[aa];exact Z);rw[aa]at ai;rw[entR,Ab Z];obtain⟨X,eX⟩:∃X:DB,X=⟨(entG (l.drop (qg l+p)) true (W:DB).data.toList).1.toArray⟩:=⟨_,rfl⟩
    have ag:(entG (l.drop (qg l+p)) true (W:DB).data.toList).1=X.data.toList:=by rw[eX]
    obtain⟨y,ey⟩:∃y,y=(entG (l.drop (qg l+p)) true (W:DB).data.toList).2.1:=⟨_,rfl⟩
    rw[<-eX,<-ey,ag,qln]at an;rw[<-ey]at aq;rw[ag]at ak;have ak:X.size<=262144:=ak;rw[ag,qln]at ai;rw[<-eX,<-ey];clear ag;clear Z eX ey;refine zu ?_;obtain⟨z,ez⟩:∃z,z=(slt X W||seq X W):=⟨_,rfl⟩
    rw[<-ez]at an ai|-;clear ez;cases z
    case true=>
     have ad:=ai Oo rfl;refine zu ?_;refine zS H 2 λwa H=>zw ?_;refine qd (R:=λv w'=>DvR l w.heap.size v w'/\Ext w w') (zw ?_);refine zl H 2 ?_;exact⟨.err (qjl hE am hO.fine Oo ad Od) Od Oo Oo rfl,H.ext⟩
    refine zu ?_;refine NewV.rw hR λnb wn aw=>zw ?_;refine AppV.one qtq strI strZ Jk rfl (by decide +kernel) aw rfl Oo ?_;intro B' d' wo ax;refine zu ?_;refine⟨(i+1,ts++[X],X,p+y,B',d'),⟨rfl,rfl,rfl,rfl,rfl,(by show ii ((qg l+p+y:Nat):Int)=ii ((qg l+(p+y):Nat):Int);rw[Cb]),rfl,trivial⟩,⟨by simp only;omega,an (λ_=>rfl) (λh=>by omega),by simp only[AH,AB,B4];exact ax⟩,by simp only;omega⟩
   ·have ed:decide (((i:Nat):Int)%16=0)=false:=Ax Oo;rw[ed];clear ed;have H:=H.drew;have hR:=V.Rw.drew hR;have af:=af.ext (Ext.refl w8).drew;have ao:=ao.ext (Ext.refl w8).drew;refine zy ?_;refine zv ?_;have ah:i%16=0->q5 l (i/16)=p:=λh=>absurd h Oo
    have hT:SlAt V.zeS 1 w8.drew B ts:=V.Rw.slAt (f:=Value.string) (λ_=>rfl) hR hO.len;have ay:ts[i-1]'(by have:=hO.len;omega)=W:=by
     have h1:=hO.lst (i-1) Oo;rw[zge (by have:=hO.len;omega)]at h1;exact AR h1
    refine ElemV.sl hT hO.len (i-1) Oo Oo ?_;intro eb eo al;rw[ay]at al;(conv=>whnf);refine LoadV.cell0 al (zw ?_);refine zcv (qgy l A c (qg l+p) false W w8.drew af hc hl Oo ar) ?_;rintro r w9 ⟨rfl,aj⟩;have H:=H.call aj;have hR:=hR.call aj;have af:=af.ext aj
    by_cases Z:(entG (l.drop (qg l+p)) false (W:DB).data.toList).2.2=0
    case neg=>
     rw[entR,Aa Z];have ad:=qrm (first:=false) hO.dst (Ax Oo).symm ah (by rw[aa];exact Z);rw[aa]at ad;obtain⟨e,ee⟩:∃e,e=(entG (l.drop (qg l+p)) false (W:DB).data.toList).2.2:=⟨_,rfl⟩
     rw[<-ee]at Z ad|-;refine zu ?_;refine zS H 2 λwa H=>zw ?_;refine qd (R:=λv w'=>DvR l w.heap.size v w'/\Ext w w') (zw ?_);refine zl H 2 ?_;exact⟨.err (qjl hE am hO.fine Oo ad Z) Z Oo Oo rfl,H.ext⟩
    have ae:=hO.st.step (first:=false) ah (Ax Oo).symm (by rw[aa];exact Z);rw[aa]at ae;have aq:=ae.le;clear ae;have ak:=(qbk Z).1;have an:=hO.step (first:=false) Oo (Ax Oo).symm ah Z;have ai:=qxh (first:=false) hO.dst (Ax Oo).symm ah (by rw[aa];exact Z);have a0:=q8f (first:=false) hO.dst (Ax Oo).symm Oo (by rw[aa];exact Z);have bo:=qo4 Z;rw[aa]at ai a0;rw[entR,Ab Z];obtain⟨X,eX⟩:∃X:DB,X=⟨(entG (l.drop (qg l+p)) false (W:DB).data.toList).1.toArray⟩:=⟨_,rfl⟩
    have ag:(entG (l.drop (qg l+p)) false (W:DB).data.toList).1=X.data.toList:=by rw[eX]
    obtain⟨y,ey⟩:∃y,y=(entG (l.drop (qg l+p)) false (W:DB).data.toList).2.1:=⟨_,rfl⟩
    rw[<-eX,<-ey,ag,qln]at an;rw[<-ey]at aq;rw[ag]at ak;have ak:X.size<=262144:=ak;rw[ag,qln]at ai;rw[ag,qln]at a0;rw[<-eX,<-ey];clear ag;clear Z eX ey;refine zu ?_;obtain⟨z,ez⟩:∃z,z=(slt X W||seq X W):=⟨_,rfl⟩
    rw[<-ez]at an ai a0|-;clear ez;cases z
    case true=>
     have ad:=ai Oo rfl;refine zu ?_;refine zS H 2 λwa H=>zw ?_;refine qd (R:=λv w'=>DvR l w.heap.size v w'/\Ext w w') (zw ?_);refine zl H 2 ?_;exact⟨.err (qjl hE am hO.fine Oo ad Od) Od Oo Oo rfl,H.ext⟩
    refine zu ?_;have hx:(numL (l.drop (qg l+p))).1<=4194304:=by
     have hq:(W:DB).data.toList.length=(W:DB).size:=rfl;omega
    refine zcv (q22 l A c (qg l+p) X W w9 af hc hl Oo hx Oo) ?_;rintro r wq ⟨rfl,a9⟩;have H:=H.call a9;have hR:=hR.call a9
    by_cases hz:(numL (l.drop (qg l+p))).1=comL X.data.toList W.data.toList
    case neg=>
     have ad:=a0 rfl hz;rw[Ax hz];refine zu ?_;refine zS H 2 λwa H=>zw ?_;refine qd (R:=λv w'=>DvR l w.heap.size v w'/\Ext w w') (zw ?_);refine zl H 2 ?_;exact⟨.err (qjl hE am hO.fine Oo ad Od) Od Oo Oo rfl,H.ext⟩
    rw[At hz];refine zu ?_;refine NewV.rw hR λnb wn aw=>zw ?_;refine AppV.one qtq strI strZ Jk rfl (by decide +kernel) aw rfl Oo ?_;intro B' d' wo ax;refine zu ?_;refine⟨(i+1,ts++[X],X,p+y,B',d'),⟨rfl,rfl,rfl,rfl,rfl,(by show ii ((qg l+p+y:Nat):Int)=ii ((qg l+(p+y):Nat):Int);rw[Cb]),rfl,trivial⟩,⟨by simp only;omega,an (λ_=>rfl) (λ_=>hz),by simp only[AH,AB,B4];exact ax⟩,by simp only;omega⟩
 ·obtain rfl:i=dN l:=by omega
  refine zS H 2 λwa H=>zw ?_;refine qd (R:=λv w'=>DvR l w.heap.size v w'/\Ext w w') (zw ?_);refine zl H 2 ?_;exact⟨.err (q8g hE am hO.fine (by rw[hO.dst];omega)) Od (by rw[hO.dst];omega) (by rw[hO.dst]) rfl,H.ext⟩
 obtain rfl:i=dN l:=by omega
 refine StoreA.same (H.get (L:=_) Js:w8.heap[r3]?=some (.cells #[ii 0,ii 0] 201)) rfl Od λbp az=>zw ?_;refine qd (R:=λv w'=>DvR l w.heap.size v w'/\Ext w w') (zw ?_);refine LoadA.mem (H.call az) (i:=2) rfl rfl (zw ?_);exact⟨.inr ⟨by rw[qaa1 hE am hO.fine (by rw[hO.dst];omega)],ts,hO.get,hO.len,B,cc,rfl,qb5 (qkq hR.own bd) az⟩,H.ext.trans az⟩
theorem qlf(a b:LB):escL (a++b)=escL a++escL b:=by
 induction a with
 | nil=>rfl
 | cons c r H=>
  by_cases h:c=0
  ·subst h;rw[AG,qau,qau,H];rfl
  ·rw[AG,qah _ h,qah _ h,H];rfl
theorem AppV.byt{x:LB}{c:DE}(h:Rw w0 w (.slice A x.length cc) 5 1 x.length (byV x) ((nb,.cells #[.int .u8 c.toNat] 5)::L))(V:x.length+1<=8000000000000)(W:∀H U w',Rw w0 w' (.slice H (x++[c]).length U) 5 1 (x++[c]).length (byV (x++[c])) L->K (.slice H (x++[c]).length U) w'):AppV DM #[32,32] ty (.slice A x.length cc) (.slice (some ⟨nb,0,none⟩) 1 1) w K:=by
 have Z:(x++[c]).length=x.length+1:=by simp
 have ev:byV (x++[c])=byV x++[.int .u8 c.toNat]:=by simp[byV]
 refine AppV.one qge bytI bytZ Jk rfl (by decide +kernel) h rfl V λH U w' hR=>?_;have:=W H U w';rw[Z,ev]at this;exact this hR
theorem AppV.byt2{x:LB}(h:Rw w0 w (.slice A x.length cc) 5 1 x.length (byV x) ((nb,.cells #[.int .u8 0,.int .u8 0] 5)::L))(hn:x.length+2<=8000000000000)(Z:∀H U w',Rw w0 w' (.slice H (x++[0,0]).length U) 5 1 (x++[0,0]).length (byV (x++[0,0])) L->K (.slice H (x++[0,0]).length U) w'):AppV DM #[32,32] ty (.slice A x.length cc) (.slice (some ⟨nb,0,none⟩) 2 2) w K:=by
 refine AppV.rwB (m:=[0,0]) qge bytI bytZ Jk rfl (by decide +kernel) h ⟨λ_=>⟨nb,0,rfl,λj y V k u W=>?_⟩⟩ Ys (λH U w' hR=>Z H U w' hR.tail);cases k with
 | succ k=>simp[encB]at W
 | zero=>
  simp only[encB,AQ,AI]at W;subst W;rw[qa (h.mem.get mh)]
  match j with
  | 0=>cases V;rfl
  | 1=>cases V;rfl
  | j+2=>simp at V
theorem AppV.str{x:LB}{s:DB}(h:Rw w0 w (.slice A x.length cc) 5 1 x.length (byV x) L)(W:qnk 5 L)(hn:x.length+s.size<=8000000000000)(Z:∀H U w',Rw w0 w' (.slice H (x++s.data.toList).length U) 5 1 (x++s.data.toList).length (byV (x++s.data.toList)) L->K (.slice H (x++s.data.toList).length U) w'):AppV DM #[32,9] ty (.slice A x.length cc) (.string s) w K:=by
 have el:(x++s.data.toList).length=x.length+s.size:=by rw[zla];rfl
 have ev:byV (x++s.data.toList)=byV x++byteCells s.data.toList:=by simp[byV,byteCells]
 refine AppV.rwS qge Tryz.underlying9 bytI bytZ Jk Jk h W Oo λv' w' V=>?_;obtain⟨H,U,rfl⟩:=V.slice;have:=Z H U w';rw[el,ev]at this;exact this V
theorem qzs{p q:LB}(H:s=p++([0]++q))(U:∀c∈p,c≠0)(hi:s[i]?=some 0)(V:∀j,j<i->s[j]?≠some 0):s.take i=p/\s.drop (i+1)=q:=by
 have W:s[p.length]?=some 0:=by rw[H,AV znr,BD];rfl
 have Z:i=p.length:=by
  rcases Cr i p.length with h|h|h
  ·rw[H,AS h,zge h]at hi;exact absurd (AR hi) (U _ (AK h))
  ·exact h
  ·exact absurd W (V _ h)
 subst Z;refine⟨by rw[H,CJ],?_⟩;rw[<-Am,H,Dx];rfl
theorem q2k(s:DB)(w:DA)(hs:s.size<=4194304):
  Gv DM 244 [.string s] w λr w'=>(∃(a b:DB) (z:Bool),r=.tuple #[.string a,.string b,.bool z]/\a.size<=s.size/\b.size<=s.size/\∀p q,s.data.toList=p++([0]++q)->(∀c∈p,c≠0)->a.data.toList=p/\b.data.toList=q)/\Ext w w':=by
 refine ze Tryz.func244 Tryz.ntmps244 ?_;refine qq (λi:Nat=>[(0,.string s),(5,ii i)]) (λi w'=>i<=s.size/\(∀j,j<i->s.data.toList[j]?≠some 0)/\w'=w) (λi=>s.size-i) 0 fq ⟨Af _,λj h=>by omega,rfl⟩ ?_;rintro i w1 Z ⟨i1,U,rfl⟩;conv=>whnf
 (repeat'(first|refine zp ?_|refine zC (λ_=>zw ?_) (λ_=>zw ?_)))
 ·have hz:s.data.toList[i]?=some 0:=by
   rw[qd7 Oo];exact Ad some (BG.1 (by show(gb s i).toNat=0;omega))
  refine zy ?_;refine zv ?_;refine SliceS.at_ 0 i rfl rfl Oo Oo (zu ?_);refine SliceS.at_ (i+1) s.size (by show(_:Int)=_;omega) rfl Oo Oo (zu ?_);refine⟨⟨_,_,true,rfl,by rw[Bm];omega,by rw[Bm];omega,λp q H V=>?_⟩,xr.drew⟩;obtain⟨g1,g2⟩:=qzs H V hz U;refine⟨?_,?_⟩
  ·rw[<-g1];simp
  ·rw[<-g2];simp[Aj]
 ·refine⟨i+1,fq,⟨by omega,λj hj=>?_,rfl⟩,by omega⟩
  by_cases e:j=i
  ·subst e;rw[qd7 Oo];intro h;have:=Ad UInt8.toNat (AR h);have h0:(0:DE).toNat=0:=rfl;omega
  ·exact U j Oo
 ·refine⟨⟨⟨#[]⟩,⟨#[]⟩,false,rfl,Af _,Af _,λp q H V=>?_⟩,xr⟩;have W:p.length<s.size:=by
   have:=Ad List.length H;simp only[zla,Au]at this;have e:s.data.toList.length=s.size:=rfl;omega
  refine absurd ?_ (U p.length Oo);rw[H,AV znr,BD];rfl
theorem q4p{t:TM}(H:qam t=0)(U:t.kind=3):t.text.size<=65536/\t.type.size<=65536/\t.lang.size<=65536:=by
 rw[qam,Aa Oo,Ab U,litE]at H
 by_cases h:65536<t.text.size
 ·rw[Ab h]at H;cases H
 rw[Aa h]at H
 by_cases h1:scal t.text.data.toList=none
 ·rw[Ab h1]at H;cases H
 rw[Aa h1]at H
 by_cases V:iriE t.type≠0
 ·rw[Ab V]at H;exact absurd H V
 rw[Aa V]at H;refine⟨by omega,?_,?_⟩
 ·have W:iriE t.type=0:=by omega
  unfold iriE at W
  by_cases h0:refE t.type≠0
  ·rw[Ab h0]at W;exact absurd W h0
  ·have Z:refE t.type=0:=by omega
   unfold refE at Z
   by_cases h5:65536<t.type.size
   ·rw[Ab h5]at Z;cases Z
   ·omega
 ·by_cases h6:65536<t.lang.size
  ·have h7:seq t.lang ⟨#[]⟩=false:=by
    cases h8:seq t.lang ⟨#[]⟩
    ·rfl
    ·rw[qab.1 h8]at h6;exact absurd h6 Od
   rw[Ab ⟨h7,h6⟩]at H;cases H
  ·omega
theorem qgz(t:TM)(ht:TermOk t)(w:DA):Gv DM 79 [qy t] w λr w'=>r=(if qam t=0 then .tuple #[.string ⟨(qai t).toArray⟩,ii 0]else .tuple #[.string ⟨#[]⟩,ii (qam t)])/\Ext w w':=by
 refine ze Tryz.func79 Tryz.ntmps79 ?_;refine znm (Mem.nil w) ?_;intro tb w1 U;have U:Mem w w1 [(tb,.cells #[ii t.kind,.string t.text,.string t.type,.string t.lang] 45)]:=U;(conv=>whnf);refine zl U 0 ?_;refine zcv (qbj t ht w1) ?_;rintro r w2 ⟨rfl,ae⟩;have U:=U.call ae;obtain⟨e,ee⟩:∃e,e=qam t:=⟨_,rfl⟩
 rw[<-ee];conv=>whnf
 (repeat'(first|refine zC (λ_=>zw ?_) (λ_=>zw ?_)|refine LoadV.mem (i:=0) Oa rfl rfl (zw ?_)))
 ·rw[Aa Oo];exact⟨rfl,U.ext⟩
 rw[Ab Oo]
 ·have h1:qai t=t.text.data.toList:=by rw[qai,Aa Oa]
  rw[h1];exact⟨rfl,U.ext⟩
 have Z:t.kind=3:=by omega
 have ag:t.text.data.toList.length=t.text.size:=rfl;obtain⟨ah,ai,aj⟩:=q4p (show qam t=0 by omega) Z;refine qq (λx:Nat×LB×oA×Nat=>[(1,pp tb),(5,.slice x.2.2.1 x.2.1.length x.2.2.2),(6,ii x.1)])
  (λx w'=>x.1<=t.text.size/\x.2.1=escL (t.text.data.toList.take x.1)/\Rw w w' (.slice x.2.2.1 x.2.1.length x.2.2.2) 5 1 x.2.1.length (byV x.2.1) [(tb,.cells #[ii t.kind,.string t.text,.string t.type,.string t.lang] 45)]) (λx=>t.text.size-x.1) (0,[],none,0)
  fq ⟨Af _,rfl,Rw.nil U⟩ ?_
 clear U;rintro⟨i,x,A,c⟩ w3 ak ⟨i1,W,H⟩;dsimp only at i1 W H|-;have af:=qxm (t.text.data.toList.take i);rw[<-W,Ar]at af;have U:=H.mem;conv=>whnf
 (repeat'(first|refine zp ?_|refine zC (λ_=>zw ?_) (λ_=>zw ?_)|refine LoadV.mem (i:=0) Oa rfl rfl (zw ?_)))
 ·have aa:t.text.data.toList.take (i+1)=t.text.data.toList.take i++[gb t.text i]:=by
   rw[Bp,zge Oo,gb,Ag,zge Oo];rfl
  refine NewV.rw H λnb w4 H=>zw ?_;refine AppV.byt (c:=gb t.text i) H Oo ?_;clear H;intro B d w5 H;have U:=H.mem;(conv=>whnf);refine LoadV.mem (i:=0) Oa rfl rfl (zw ?_);refine zt ?_;refine zC (λ_=>zu ?_) (λ_=>zu ?_)
  ·refine NewV.rw H λnb w6 H=>zw ?_;refine AppV.byt (c:=1) H (by rw[zla];simp;omega) ?_;clear H;intro B2 d2 w7 H;refine zu ?_;refine⟨(i+1,x++[gb t.text i]++[1],B2,d2),fq,⟨by simp only;omega,?_,H⟩,by simp only;omega⟩;have h0:gb t.text i=0:=UInt8.toNat.inj (by rw[show(0:DE).toNat=0 from rfl];omega);simp only;rw[aa,qlf,W,h0,qau];simp[escL]
  ·refine⟨(i+1,x++[gb t.text i],B,d),fq,⟨by simp only;omega,?_,H⟩,by simp only;omega⟩;have h0:gb t.text i≠0:=λh=>by
    have:(gb t.text i).toNat=0:=by rw[h];rfl
    omega
   simp only;rw[aa,qlf,W,qah _ h0];simp[escL]
 obtain rfl:i=t.text.size:=by omega
 rw[Aj Oo]at W;have hN:qnk 5 [(tb,Obj.cells #[ii t.kind,.string t.text,.string t.type,.string t.lang] 45)]:=by
  intro y hy c fz h;simp at hy;subst hy;simp at h
 refine NewV.rw H λnb w4 H=>zw ?_;refine AppV.byt2 H Oo ?_;clear H;intro B d w5 H;have U:=H.mem;(conv=>whnf);refine LoadV.mem (i:=0) Oa rfl rfl (zw ?_);refine AppV.str H hN (by rw[zla];simp;omega) ?_;clear H;intro B d w6 H;(conv=>whnf);refine NewV.rw H λnb w7 H=>zw ?_;refine AppV.byt (c:=0) H (by rw[zla,zla,show t.type.data.toList.length=t.type.size from rfl];simp;omega) ?_;clear H;intro B d w8 H;have U:=H.mem;(conv=>whnf);refine LoadV.mem (i:=0) Oa rfl rfl (zw ?_);refine AppV.str H hN (by simp only[zla];rw[show t.type.data.toList.length=t.type.size from rfl];simp;omega) ?_;clear H;intro B d w9 H;(conv=>whnf);have hB:SlAt encB 1 w9 B (x++[0,0]++t.type.data.toList++[0]++t.lang.data.toList):=V.Rw.slAt (f:=λc:DE=>Value.int .u8 c.toNat) (λ_=>rfl) H rfl;refine BytesS.sl hB rfl (zw ?_);have ad:qai t=x++[0,0]++t.type.data.toList++[0]++t.lang.data.toList:=by
  rw[qai,Ab Z,W];simp
 rw[ad,Ab Oo];exact⟨rfl,H.mem.ext⟩
def RdR(kind:Int)(s:DB)(r:DF):Prop:=
 (∃e:Int,e≠0/\(∀t,¬ReadsAs kind s.data.toList t)/\r=.tuple #[.agg #[ii 0,.string ⟨#[]⟩,.string ⟨#[]⟩,.string ⟨#[]⟩],ii e])\/(∃t,ReadsAs kind s.data.toList t/\TermOk t/\r=.tuple #[qy t,ii 0])
theorem q0y(kind:Int)(hk:kind=1\/kind=2\/kind=3)(s:DB)(hs:s.size<=262144)(w:DA):Gv DM 173 [ii kind,.string s] w λr w'=>RdR kind s r/\Ext w w':=by
 rcases hk with rfl|rfl|rfl
 all_goals
  refine ze Tryz.func173 Tryz.ntmps173 ?_;refine znm (Mem.nil w) ?_;intro r4 w1 H;refine znm H ?_;intro tb w2 H;refine zS H 0 ?_;intro w3 H
 ·obtain⟨t,et⟩:∃t:TM,t=⟨1,s,⟨#[]⟩,⟨#[]⟩⟩:=⟨_,rfl⟩
  have Z:t.kind=1:=by rw[et]
  have aa:∀U,ReadsAs 1 s.data.toList U->U=t:=λU h=>by
   obtain⟨h1,h2,h3⟩:=h.plain Od;obtain⟨tk,tt,ty,tl⟩:=U;have h4:=h.kind
   grind [qd0]
  have ht:TermOk t:=by rw[et];exact⟨(by grind [InR]),by grind,Af _,Af _⟩
  have H:Mem w w3 [(tb,.cells #[ii t.kind,.string t.text,.string t.type,.string t.lang] 45),(r4,.cells #[ii 0,.string ⟨#[]⟩,.string ⟨#[]⟩,.string ⟨#[]⟩] 45)]:=by rw[et];exact H
  clear et;refine zu ?_;refine zl H 0 ?_;refine zcv (qgz t ht w3) ?_;rintro r wt ⟨rfl,ad⟩;have H:=H.call ad
  by_cases e0:qam t=0
  case neg=>
   have W:∀U,¬ReadsAs 1 s.data.toList U:=λU h=>e0 (by rw[<-aa U h];exact h.ok)
   rw[Aa e0];obtain⟨e,ee⟩:∃e,e=qam t:=⟨_,rfl⟩
   rw[<-ee]at e0|-;refine zu ?_;refine zS H 1 ?_;clear H;intro wa H;refine qd (R:=λr w'=>RdR 1 s r/\Ext w w') ?_;refine zl H 1 ?_;exact⟨.inl ⟨170,by decide,W,rfl⟩,H.ext⟩
  rw[Ab e0];refine zu ?_;cases hq:seq ⟨(qai t).toArray⟩ s
  case false=>
   have W:∀U,¬ReadsAs 1 s.data.toList U:=λU h=>by
    have h1:(⟨(qai t).toArray⟩:DB)=s:=by rw[<-aa U h,h.entry]
    grind [qab]
   refine zu ?_;refine zS H 1 ?_;clear H;intro wa H;refine qd (R:=λr w'=>RdR 1 s r/\Ext w w') ?_;refine zl H 1 ?_;exact⟨.inl ⟨170,by decide,W,rfl⟩,H.ext⟩
  refine zu ?_;refine zl H 0 ?_;refine zS H 1 ?_;clear H;intro wa H;refine qd (R:=λr w'=>RdR 1 s r/\Ext w w') ?_;refine zL H 1 ?_;have ae:=qab.1 hq;exact⟨.inr ⟨t,⟨Z,e0,by rw[<-ae]⟩,ht,rfl⟩,H.ext⟩
 ·obtain⟨t,et⟩:∃t:TM,t=⟨2,s,⟨#[]⟩,⟨#[]⟩⟩:=⟨_,rfl⟩
  have Z:t.kind=2:=by rw[et]
  have aa:∀U,ReadsAs 2 s.data.toList U->U=t:=λU h=>by
   obtain⟨h1,h2,h3⟩:=h.plain Od;obtain⟨tk,tt,ty,tl⟩:=U;have h4:=h.kind
   grind [qd0]
  have ht:TermOk t:=by rw[et];exact⟨(by grind [InR]),by grind,Af _,Af _⟩
  have H:Mem w w3 [(tb,.cells #[ii t.kind,.string t.text,.string t.type,.string t.lang] 45),(r4,.cells #[ii 0,.string ⟨#[]⟩,.string ⟨#[]⟩,.string ⟨#[]⟩] 45)]:=by rw[et];exact H
  clear et;refine zu ?_;refine zl H 0 ?_;refine zcv (qgz t ht w3) ?_;rintro r wt ⟨rfl,ad⟩;have H:=H.call ad
  by_cases e0:qam t=0
  case neg=>
   have W:∀U,¬ReadsAs 2 s.data.toList U:=λU h=>e0 (by rw[<-aa U h];exact h.ok)
   rw[Aa e0];obtain⟨e,ee⟩:∃e,e=qam t:=⟨_,rfl⟩
   rw[<-ee]at e0|-;refine zu ?_;refine zS H 1 ?_;clear H;intro wa H;refine qd (R:=λr w'=>RdR 2 s r/\Ext w w') ?_;refine zl H 1 ?_;exact⟨.inl ⟨170,by decide,W,rfl⟩,H.ext⟩
  rw[Ab e0];refine zu ?_;cases hq:seq ⟨(qai t).toArray⟩ s
  case false=>
   have W:∀U,¬ReadsAs 2 s.data.toList U:=λU h=>by
    have h1:(⟨(qai t).toArray⟩:DB)=s:=by rw[<-aa U h,h.entry]
    grind [qab]
   refine zu ?_;refine zS H 1 ?_;clear H;intro wa H;refine qd (R:=λr w'=>RdR 2 s r/\Ext w w') ?_;refine zl H 1 ?_;exact⟨.inl ⟨170,by decide,W,rfl⟩,H.ext⟩
  refine zu ?_;refine zl H 0 ?_;refine zS H 1 ?_;clear H;intro wa H;refine qd (R:=λr w'=>RdR 2 s r/\Ext w w') ?_;refine zL H 1 ?_;have ae:=qab.1 hq;exact⟨.inr ⟨t,⟨Z,e0,by rw[<-ae]⟩,ht,rfl⟩,H.ext⟩
 ·have H:Mem w w3 [(tb,.cells #[ii 3,.string s,.string ⟨#[]⟩,.string ⟨#[]⟩] 45),(r4,.cells #[ii 0,.string ⟨#[]⟩,.string ⟨#[]⟩,.string ⟨#[]⟩] 45)]:=H;refine zu ?_;refine qq (λx:Nat×LB×oA×Nat=>[(0,ii 3),(1,.string s),(4,pp r4),(6,pp tb),(7,.slice x.2.2.1 x.2.1.length x.2.2.2),(8,ii x.1)])
   (λx w'=>x.1<=s.size/\x.2.1.length<=x.1/\ScanI s.data.toList x.1 x.2.1/\Rw w w' (.slice x.2.2.1 x.2.1.length x.2.2.2) 5 1 x.2.1.length (byV x.2.1) [(tb,.cells #[ii 3,.string s,.string ⟨#[]⟩,.string ⟨#[]⟩] 45),(r4,.cells #[ii 0,.string ⟨#[]⟩,.string ⟨#[]⟩,.string ⟨#[]⟩] 45)]) (λx=>s.size-x.1) (0,[],none,0)
   fq ⟨Af _,Ai _,.start _,Rw.nil H⟩ ?_
  clear H;rintro⟨i,x,A,c⟩ w4 ai ⟨i1,hx,af,hR⟩;dsimp only at i1 hx af hR|-;have lS:s.data.toList.length=s.size:=rfl;have aj:(0:DE).toNat=0:=rfl;have H:=hR.mem;conv=>whnf
  (repeat'(first|refine zp ?_|refine zC (λ_=>zw ?_) (λ_=>zw ?_)))
  ·refine NewV.rw hR ?_;intro nb w5 hR;refine AppV.byt (c:=gb s i) hR Oo ?_;clear hR;intro B d w6 hR;refine zu ?_;exact⟨(i+1,x++[gb s i],B,d),fq,⟨by omega,by simp_all,af.one (qd7 Oo) (λh=>by simp_all),hR⟩,by omega⟩
  ·refine IdxV.at_ (i+1) Oo Oo (zw ?_);refine zt ?_;refine zC (λ_=>zu ?_) (λ_=>zu ?_)
   ·refine NewV.rw hR ?_;intro nb w5 hR;refine AppV.byt (c:=gb s i) hR Oo ?_;clear hR;intro B d w6 hR;refine zu ?_;have hz:gb s i=0:=BG.1 Oo;exact⟨(i+2,x++[gb s i],B,d),fq,⟨by omega,by grind,by rw[hz];exact af.two (by grind [qd7]) (qd7 Oo) (by grind),hR⟩,by omega⟩
   refine SliceS.at_ (i+2) s.size (by rfl) rfl Oo Oo ?_;have ak:(s.extract (i+2) s.size).size<=s.size:=by simp
   refine zcv (q2k (s.extract (i+2) s.size) w4 Oo) ?_;rintro r w5 ⟨⟨a,b,z,rfl,ha,hb,ag⟩,ah⟩;have hR:=hR.call ah;(conv=>whnf);have hB:SlAt encB 1 w5 A x:=V.Rw.slAt (f:=λc:DE=>Value.int .u8 c.toNat) (λ_=>rfl) hR rfl;refine BytesS.sl hB rfl (zw ?_);obtain⟨t,et⟩:∃t:TM,t=⟨3,⟨x.toArray⟩,a,b⟩:=⟨_,rfl⟩
   have Z:t.kind=3:=by rw[et]
   have aa:∀U,ReadsAs 3 s.data.toList U->U=t:=λU h=>by
    obtain⟨h1,h2⟩:=h.lit;obtain⟨h3,h4⟩:=af.stop h1 (by rw[qd7 Oo];exact Ad some (BG.1 Oo)) (by rw[qd7 Oo];exact Ad some (BG.1 Oo));have h5:(s.extract (i+2) s.size).data.toList=s.data.toList.drop (i+2):=by simp[Aj]
    obtain⟨h6,h7⟩:=ag _ _ (h5.trans h4) h2;obtain⟨tk,tt,ty,tl⟩:=U;have h8:=h.kind;dsimp only at h3 h6 h7 h8;rw[et,h8,qd0 h6,qd0 h7,<-h3]
   have al:(⟨x.toArray⟩:DB).size=x.length:=by rfl
   have ht:TermOk t:=by rw[et];exact⟨(by grind [InR]),by grind,by grind,by grind⟩
   refine zS hR.mem 0 ?_;intro w6 H;have H:Mem w w6 [(tb,.cells #[ii t.kind,.string t.text,.string t.type,.string t.lang] 45),(r4,.cells #[ii 0,.string ⟨#[]⟩,.string ⟨#[]⟩,.string ⟨#[]⟩] 45)]:=by rw[et];exact H
   clear et hR;(conv=>whnf);refine zl H 0 ?_;refine zcv (qgz t ht w6) ?_;rintro r wt ⟨rfl,ad⟩;have H:=H.call ad
   by_cases e0:qam t=0
   case neg=>
    have W:∀U,¬ReadsAs 3 s.data.toList U:=λU h=>e0 (by rw[<-aa U h];exact h.ok)
    rw[Aa e0];obtain⟨e,ee⟩:∃e,e=qam t:=⟨_,rfl⟩
    rw[<-ee]at e0|-;refine zu ?_;refine zS H 1 ?_;clear H;intro wa H;refine qd (R:=λr w'=>RdR 3 s r/\Ext w w') ?_;refine zl H 1 ?_;exact⟨.inl ⟨170,by decide,W,rfl⟩,H.ext⟩
   rw[Ab e0];refine zu ?_;cases hq:seq ⟨(qai t).toArray⟩ s
   case false=>
    have W:∀U,¬ReadsAs 3 s.data.toList U:=λU h=>by
     have h1:(⟨(qai t).toArray⟩:DB)=s:=by rw[<-aa U h,h.entry]
     grind [qab]
    refine zu ?_;refine zS H 1 ?_;clear H;intro wa H;refine qd (R:=λr w'=>RdR 3 s r/\Ext w w') ?_;refine zl H 1 ?_;exact⟨.inl ⟨170,by decide,W,rfl⟩,H.ext⟩
   refine zu ?_;refine zl H 0 ?_;refine zS H 1 ?_;clear H;intro wa H;refine qd (R:=λr w'=>RdR 3 s r/\Ext w w') ?_;refine zL H 1 ?_;have ae:=qab.1 hq;exact⟨.inr ⟨t,⟨Z,e0,by rw[<-ae]⟩,ht,rfl⟩,H.ext⟩
  ·have W:∀U,¬ReadsAs 3 s.data.toList U:=λU h=>by
    have:=af.end_ h.lit.1;omega
   refine zS H 1 ?_;clear H;intro wa H;refine qd (R:=λr w'=>RdR 3 s r/\Ext w w') ?_;refine zl H 1 ?_;exact⟨.inl ⟨170,by decide,W,rfl⟩,H.ext⟩
end Go.Proofs.YtccmcfpmknpccaaGreatDoor
