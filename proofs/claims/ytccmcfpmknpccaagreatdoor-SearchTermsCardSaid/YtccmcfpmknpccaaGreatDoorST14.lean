/- Lemmas and contracts of functions on the way to the law's card (part 14 of 16). -/
import Derived.Test.YtccmcfpmknpccaaGreatDoorST13
import Derived.ChangeKeysEq
import Derived.Lib.LaidTab
import Derived.Test.YtccmcfpmknpccaaGreatDoorRows
import Derived.Deep.DeepHandedRow
import Derived.ProofKit
import Derived.OpenShut
import Derived.LaidHandle
import Derived.Shelf.Vars
import Derived.Test.YtccmcfpmknpccaaGreatDoorCards
namespace Go.Proofs.YtccmcfpmknpccaaGreatDoor
set_option maxHeartbeats 8000000
open Go.RowKit V
set_option maxHeartbeats 8000000
set_option maxRecDepth 100000
variable {T Ts U:List TM} {b c g i j k m sz tb:Nat} {J:Dm->Dl} {L Y:Dm} {W w w' w0:Dd} {qs:List Q4} {xo yo:Operand} {K:Dj} {assign body:Code} {ρ:Dk} {ds:Dr} {gf:FuncId} {lb news xs:Dn} {P:Df} {x z:Di} {e ty:Dg} {fr:Nat×Nat} {pl:Int}
structure SteΦ(x pb vb tb:Nat)(T:List TM)(qs:List Q4)(p:Q4)(pl:Int)(b1 b2 b3:Nat)(w:Dd):Prop where
 X:IdxE w x pb vb tb (encP T qs)
 G:GlobS w
 c1:w.cell? ⟨b1,0,none⟩=some (pp x)
 c2:CellsAt w b2 0 (qe p)
 c3:w.cell? ⟨b3,0,none⟩=some (ii pl)
theorem qvy(x:Nat)(p:Q4)(pl:Int)(w:Dd):Gv Dp 57 [pp x,qw p,ii pl] w λr w'=>
  ∃b1 b2 Z,r=.func (.func 121) #[] #[pp Z,pp b1,pp b2]/\
   Mem w w' [(Z,.cells #[ii pl] 3),(b2,.cells (qe p).toArray 47),(b1,.cells #[pp x] 26)]:=by
 refine ze Tryz.func57 Tryz.ntmps57 ?_;refine znm (Mem.nil w) λb1 w1 O=>zw ?_;refine znm O λb2 w2 O=>zw ?_;refine znm O λZ w3 O=>zw ?_;exact⟨b1,b2,Z,rfl,O⟩
open Classical in
noncomputable def uTs(Ts:List TM)(k:Nat):List TM:=uniA [] (Ts.take k)
open Classical in
theorem q6v{t:TM}(h:Ts[k]?=some t)(O:t∈uTs Ts k):uTs Ts (k+1)=uTs Ts k:=by
 rw[uTs,Bu,h,Option.toList_some,qgf];exact Af O
open Classical in
theorem q1e{t:TM}(h:Ts[k]?=some t)(O:t∉uTs Ts k):uTs Ts (k+1)=uTs Ts k++[t]:=by
 rw[uTs,Bu,h,Option.toList_some,qgf];exact Ab O
theorem q1d{Ts:List TM}:∀{k:Nat},k<=Ts.length->(uTs Ts k).length<=k
 | 0,_=>Ao _
 | k+1,h=>by
  have Z:=q1d (Ts:=Ts) (k:=k) Oo;have hk:Ts[k]?=some Ts[k]:=zge Oo
  by_cases O:Ts[k]∈uTs Ts k
  ·rw[q6v hk O];omega
  ·rw[q1e hk O,zla];simp;omega
def TeJ(J:Dm->Dl)(O lb:Nat)(Ts:List TM)(L:Dm)(k:Nat)(X:Dm)(w:Dd):Prop:=
 ∃s:List TN×Di×Dm,(s.1.map (·.1)=uTs Ts k/\(∀e∈s.1,1<=e.2)/\(s.1.map (·.2)).sum<=k/\RowX 45 4 s.2.1 (uTs Ts k).length ((uTs Ts k).map encT).flatten s.2.2)/\
  J (X++(s.2.2++(O,mpO s.1)::(lb,.cells #[s.2.1] 28)::L)) w
theorem TeJ.carr(O:Carr J)(Z lb:Nat)(Ts:List TM)(L:Dm)(k:Nat):Carr (TeJ J Z lb Ts L k):=Carr.ex λ_=>O.tail _
theorem q15{Y:List TM}(h:AscT Y):Y.Pairwise λa b=>cmpT a b<=0:=by
 rw[Bj];intro i j hi Z O;have:=h i j O Z;have e1:tmA Y i=Y[i]:=by rw[tmA,Ag,zge hi];rfl
 have e2:tmA Y j=Y[j]:=by rw[tmA,Ag,zge Z];rfl
 rw[e1,e2,<-qar]at this
 rcases Dc 0 (cmpT Y[i] Y[j])with g|g
 ·exact absurd (ordT.sym.2 g) this
 ·exact g
theorem q0v(hJ:Carr J){v:Di}{X:Dm}(hR:RowX 45 4 v U.length (U.map encT).flatten Y)(h:J (Y++X) w)(hl:U.length<=1048576):
  Gv Dp 123 [v,.func (.func 20) #[] #[]] w λr w'=>r=.tuple #[]/\∃U' Y',U'.Perm U/\AscT U'/\RowX 45 4 v U.length (U'.map encT).flatten Y'/\J (Y'++X) w':=by
 obtain⟨A,c,rfl⟩:=hR.slice;refine(qo5 U A c 0 w (hR.own λx hx=>hJ.get h (Am _ hx)) Oo).mono ?_;rintro r w' ⟨rfl,U',hp,ha,ho,hc⟩;refine⟨rfl,U',?_⟩;obtain⟨_,⟨e1,e2,rfl⟩|⟨g,ab,ac,e1,rfl,_⟩⟩:=hR
 ·injection e1 with e1 _ _
  subst e1;have hx:Ext w w':=⟨hc.os,hc.tape,hc.output,hc.size,λk hk=>hc.block k hk (λhh=>by cases hh)⟩
  obtain⟨aa,ad⟩:=ho
  rcases ad with⟨O,e4⟩|⟨g,ab,ac,O,_⟩
  ·exact⟨[],hp,ha,⟨aa,.inl ⟨O,e2,rfl⟩⟩,hJ.ext h hx⟩
  ·injection O with O _ _;cases O
 ·injection e1 with e1 _ O
  subst e1 O;obtain⟨aa,⟨O,_⟩|⟨g',ae,Z,O,_,hg,r⟩⟩:=ho
  ·injection O with O _ _;cases O
  ·injection O with O _ e5
   injection O with O
   injection O with O
   subst O e5;exact⟨[(g,.cells Z 45)],hp,ha,⟨aa,.inr ⟨g,c,Z,rfl,rfl,r⟩⟩,hJ.chn h hc hg⟩
open Classical in
theorem qaaf(O:U.Perm (uTs Ts Ts.length))(Z:AscT U):U=qc7 cmpT Ts:=by
 rw[uTs,BB]at O;exact qvw ordT O (q15 Z)
theorem qvz(T:List TM)(qs:List Q4)(h:EncOk T qs)(x pb vb tb:Nat)(p:Q4)(hp:qap p)(pl:Int)(b1 b2 b3:Nat):
  SeqC Dp 121 [pp b3,pp b1,pp b2] ((tasL pl p qs).map λt=>[qr t]) (SteΦ x pb vb tb T qs p pl b1 b2 b3):=by
 intro y I Ix w cI au hI h0 hy;have ah:((tasL pl p qs).map λt=>[qr t]).length=(tasL pl p qs).length:=AC ..;have bh:((Dp.info? 45).get Jk).bytes=56:=by kernel_rfl
 have t4:tsz Dp 45=4:=by kernel_rfl
 refine gvW Jk Tryz.func121 rfl Tryz.ntmps121 rfl (zw ?_);refine LoadV.of (hI _ _ _ h0).c3 (zw ?_);refine zcv (qog pl w) ?_;rintro r w2 ⟨hr,bi⟩;replace h0:=(cI 0).ext h0 bi
 rcases hr with⟨av,rfl⟩|⟨av,g,rfl,hg⟩
 case inl=>
  (conv=>whnf);refine NewV.carr (cI 0) h0 λab w3 h0=>zw ?_;refine StoreA.carr (cI 0) (A:=[]) h0 rfl (by simp[Value.oneCell']) λw4 h0=>zu ?_;refine .inl ?_;rw[ah,tasL,Ab (by rw[av];decide)];exact(cI 0).drop h0
 (conv=>whnf);refine NewV.carr (cI 0) h0 λab w3 h0=>zw ?_;refine StoreA.carr (cI 0) (A:=[]) h0 rfl (by simp[Value.oneCell']) λw4 h0=>zu ?_;refine Fall.make rfl ?_;refine NewV.carr (cI 0) h0 λmo w5 h0=>zw ?_;refine NewV.carr (cI 0) h0 λmb w6 h0=>zw ?_;refine StoreV.carr (cI 0) (A:=[]) h0 (by show 0<1;omega) rfl ?_;clear h0;intro w7 h0;replace h0:I 0 [(mb,.cells #[.map (some mo)] 236),(mo,mpO []),(ab,.cells #[.func (.func g) #[] #[]] 233)] w7:=h0;(conv=>whnf);refine NewV.carr (cI 0) h0 λlb w8 h0=>zw ?_;refine LoadV.of (hI _ _ _ h0).c1 (zw ?_);refine LoadA.cells (hI _ _ _ h0).c2 rfl (zw ?_);refine zcv (qhh x p w8) ?_;rintro r w9 ⟨c1,c2,rfl,bj⟩;replace h0:=(cI 0).call h0 bj;obtain⟨M,eM⟩:∃M,M=qal p qs:=⟨_,rfl⟩
 have bk:=qkm p qs;rw[<-eM]at bk;have cc:=h.set.len;obtain⟨Ts,aw⟩:∃Ts:List TM,Ts=tatL pl p qs:=⟨_,rfl⟩
 have bl:Ts.length=M.length:=by rw[aw,tatL,AC,eM]
 have eR:tasL pl p qs=qc7 cmpT Ts:=by rw[tasL,Af av,aw]
 rw[eR]at ah hy|-;obtain⟨L,hL⟩:∃L:Dm,L=[(ab,.cells #[.func (.func g) #[] #[]] 233),(c2,.cells (qe p).toArray 47),(c1,.cells #[pp x] 26),(mb,.cells #[.map (some mo)] 236)]:=⟨_,rfl⟩
 have a5:(c1,Obj.cells #[pp x] 26)∈L:=by rw[hL];simp
 have a6:(c2,Obj.cells (qe p).toArray 47)∈L:=by rw[hL];simp
 have a7:(ab,Obj.cells #[.func (.func g) #[] #[]] 233)∈L:=by rw[hL];simp
 have ao:(mb,Obj.cells #[.map (some mo)] 236)∈L:=by rw[hL];simp
 have ax:I 0 ((mo,mpO [])::(lb,.cells #[.slice none 0 0] 28)::L) w9:=by
  rw[hL];exact(cI 0).perm h0 ((As (l₁:=[_,_,_,_]) (l₂:=[_,_])).trans (List.Perm.cons _ (Bm (l₁:=[_,_,_]))))
 clear h0;have bm:∀{X:Dm} {w':Dd},I 0 (X++L) w'->w'.heap[ab]?=some (.cells #[.func (.func g) #[] #[]] 233):=λhh=>(cI _).get hh (Aa _ a7)
 have cf:∀{X:Dm} {w':Dd},I 0 (X++L) w'->w'.heap[mb]?=some (.cells #[.map (some mo)] 236):=λhh=>(cI _).get hh (Aa _ ao)
 have bn:(M.map (sRow qs)).length=M.length:=AC ..;have cT:=λk=>TeJ.carr (cI 0) mo lb Ts L k
 (conv=>whnf);refine qz4 (Φ:=SmaΦ x pb vb tb T qs p c1 c2) (lb:=[pp c1,pp c2]) (xs:=M.map (sRow qs)) rfl Jk (by rw[eM];exact qhi T qs h x pb vb tb p hp (h.idX p) c1 c2) Od ?_
  (TeJ (I 0) mo lb Ts L) (λc k X w'=>False/\TeJ (I 0) mo lb Ts L k X w')
  cT (λc k=>Carr.and (cT k))
  (λk X w' ⟨s,_,hh⟩=>⟨(hI _ _ _ hh).X,(hI _ _ _ hh).G,by rw[qa ((cI _).get hh (Aa _ (Aa _ (zmc (zmc a5)))))];rfl,λj v hv=>by rw[qa ((cI _).get hh (Aa _ (Aa _ (zmc (zmc a6))))),Aq,Az];exact hv⟩)
  ⟨([],.slice none 0 0,[]),⟨rfl,λe he=>(by cases he),Ao _,RowX.nil _ _⟩,ax⟩ ?_ ?_ ?_
 ·intro r hr;obtain⟨j,_,rfl⟩:=AG.1 hr;rfl
 ·clear ax;rintro l2 D oa od k r X am hr O;rw[Ar]at hr;cases af:M[k]? with
  | none=>rw[af]at hr;cases hr
  | some i=>
  rw[af,AU,AN]at hr;subst hr;have cg:=(Ad.1 af).1;obtain⟨q,eq⟩:∃q,qs.getD i zQ=q:=⟨_,rfl⟩
  have ay:Ts[k]?=some (plT pl q):=by rw[aw,tatL,Ar,<-eM,af,AU,eq]
  rw[show sRow qs i=[ii i,qw q]by rw[sRow,eq]];(conv=>whnf);refine NewV.carr (cT k) O λnb bo O=>zw ?_;refine StoreA.carr (vs:=qe q) (cT k) (A:=[]) O rfl (qa8 q) λbp O=>zw ?_;refine⟨rfl,(nb,.cells (qe q).toArray 47)::(D,.deferred (some []))::X,(cT k).perm O (List.Perm.swap _ _ _),?_⟩;clear O;rintro az ⟨⟨l,v,Y⟩,⟨a0,ai,bq,hR⟩,O⟩;dsimp only at a0 ai bq hR O;have br:=q1d (Ts:=Ts) (k:=k) Oo;obtain⟨Z,eZ⟩:∃Z:Dm,Z=(l2,od)::(nb,.cells (qe q).toArray 47)::(D,.deferred (some []))::X:=⟨_,rfl⟩
  rw[<-eZ]at O;have hq:(nb,Obj.cells (qe q).toArray 47)∈Z:=by rw[eZ];simp
  replace O:I 0 ((Z++Y++[(mo,mpO l),(lb,.cells #[v] 28)])++L) az:=by simpa using O
  (conv=>whnf);refine LoadV.own (bm O) rfl (zw ?_);refine LoadA.own ((cI 0).get O (Am _ (Am _ (Am _ hq)))) rfl (zw ?_);refine zcv (hg q az) ?_;rintro r a8 ⟨rfl,a9⟩;replace O:=(cI 0).ext O a9;obtain⟨t,et⟩:∃t,t=plT pl q:=⟨_,rfl⟩
  rw[<-et]at ay|-;(conv=>whnf);refine NewV.carr (cI 0) O λa1 bt O=>zw ?_;refine StoreA.carr (vs:=encT t) (cI 0) (A:=[]) O rfl (qab t) ?_;clear O;intro bu O;obtain⟨A,eA⟩:∃A:Dm,A=(a1,.cells (encT t).toArray 45)::(Z++Y):=⟨_,rfl⟩
  have a2:(a1,Obj.cells (encT t).toArray 45)∈A:=by rw[eA];exact AD ..
  obtain⟨B,eB⟩:∃B:Dm,B=(lb,.cells #[v] 28)::L:=⟨_,rfl⟩
  have ba:(mb,Obj.cells #[.map (some mo)] 236)∈B:=by rw[eB];exact zmc ao
  replace O:I 0 (A++(mo,mpO l)::B) bu:=by rw[eA,eB];simpa using O
  have ci:=q5y t l;have cj:=qyf t l;(conv=>whnf);refine DrawW.any Jk (.inr Jk) (AnyV.gen (λS _ w'=>(S 6=true->S 2=true/\S 4=true)/\I 0 (A++(mo,mpO (bif S 6 then icT t l else bif S 4 then adL t l else l))::B) w') Jk (λae=>⟨λh=>(by cases h),(cI 0).ext O xr.drew⟩) ?_);clear O;(conv=>whnf);refine StepG.of (.map (some mo)) (λS ae wd hk hp aa=>?_) ?_
  ·have ac:=(cI 0).get aa.2 (Aa _ (zmc ba));(conv=>whnf);refine LoadV.own ac rfl (zw ?_);exact⟨rfl,λh=>⟨(aa.1 h).1,(aa.1 h).2⟩,aa.2⟩
  (conv=>whnf);refine StepG.of (qr t) (λS ae wd hk hp aa=>?_) ?_
  ·have ac:=(cI 0).get aa.2 (Am _ a2);(conv=>whnf);refine LoadA.own ac rfl (zw ?_);exact⟨rfl,λh=>⟨(aa.1 h).1,(aa.1 h).2⟩,aa.2⟩
  (conv=>whnf);refine StepG.of (ii (cnL t l:Nat)) (λS ae wd hk hp aa=>?_) ?_
  ·have ai:S 2=false:=hk;have h6:S 6=false:=by
    cases h6:S 6
    ·rfl
    ·have:=(aa.1 h6).1;rw[ai]at this;cases this
   obtain⟨l',el⟩:∃l',l'=(bif S 4 then adL t l else l):=⟨_,rfl⟩
   have bv:cnL t l'=cnL t l:=by
    rw[el];cases S 4
    ·rfl
    ·exact q5s t l
   have ac:=(cI 0).get aa.2 (Aa _ mh);rw[h6]at ac;have ac:wd.heap[mo]?=some (mpO l'):=by rw[el];exact ac
   (conv=>whnf);refine Fall.look rfl rfl rfl (qol t l' mo wd ac) (zw ?_);exact⟨by rw[bv];rfl,λh=>(by have h:S 6=true:=h;rw[h6]at h;cases h),aa.2⟩
  (conv=>whnf);refine zg ?_;refine StepG.of (.tuple #[ii (cnL t l:Nat),ii (ixL t l:Nat)]) (λS ae wd hk hp aa=>?_) ?_
  ·have bb:S 4=false:=hk;have h6:S 6=false:=by
    cases h6:S 6
    ·rfl
    ·have:=(aa.1 h6).2;rw[bb]at this;cases this
   have O:=aa.2;rw[h6,bb]at O;replace O:I 0 (A++(mo,mpO l)::B) wd:=O;have ac:=(cI 0).get O (Aa _ mh);(conv=>whnf);refine Fall.entry rfl rfl rfl (q4i t l mo wd ac) (zw ?_);exact⟨rfl,λh=>(by have h:S 6=true:=h;rw[h6]at h;cases h),by show I 0 (A++(mo,mpO (bif S 6 then icT t l else bif true then adL t l else l))::B) _;rw[h6];exact(cI 0).setM _ O⟩
  (conv=>whnf);refine zg ?_;refine StepG.of undef (λS ae wd hk hp aa=>?_) ?_
  ·have bw:S 6=false:=hk;have h4:S 4=true:=hp 4 Od;have h2:S 2=true:=hp 2 Od;have O:=aa.2;rw[bw,h4]at O;replace O:I 0 (A++(mo,mpO (adL t l))::B) wd:=O;have ac:=(cI 0).get O (Aa _ mh);(conv=>whnf);refine Fall.put rfl rfl rfl rfl (q4j t l mo wd ac) (zw ?_);exact⟨rfl,λ_=>⟨h2,h4⟩,(cI 0).setM _ O⟩
  (conv=>whnf);intro ae a3 aa;have O:I 0 (A++(mo,mpO (icT t l))::B) a3:=aa.2;clear aa;have bc:=q54 t l;have bd:=(cI 0).get O (Aa _ mh);have ad:=qsm t l;rw[a0]at ad;have aj:=qw5 (t:=t) ai;rw[a0]at aj;have ce:=qx8 t l;have ar:=qx7 (t:=t) ai;(conv=>whnf);refine LoadV.own ((cI 0).get O (Aa _ (zmc ba))) rfl (zw ?_);refine LoadA.own ((cI 0).get O (Am _ a2)) rfl (zw ?_);refine Fall.look rfl rfl rfl (qol t (icT t l) mo a3 bd) ?_;rw[bc]
  rcases B0 (cnL t l)with a4|a4
  case inr=>
   have ak:t∈uTs Ts k:=BI λh=>by have:=aj.2 h;omega
   rw[Af ak]at ad;have eU:=q6v ay ak;refine zu ?_;refine⟨(icT t l,v,Y),⟨by rw[eU];exact ad,ar,by dsimp only;omega,by rw[eU];exact hR⟩,?_⟩;rw[eA,eB]at O;have be:I 0 (Z++(Y++(mo,mpO (icT t l))::(lb,.cells #[v] 28)::L)) a3:=by simpa using(cI 0).drop O
   rw[eZ]at be;exact(cI 0).dropM (A:=[(l2,od)]) be
  have ak:t∉uTs Ts k:=aj.1 a4;rw[Ab ak]at ad;have eU:=q1e ay ak;rw[a4];rw[eB]at O;obtain⟨Av,cv,ev⟩:=hR.slice;subst ev;refine zu ?_;refine LoadV.own ((cI 0).get O (Aa _ (zmc mh))) rfl (zw ?_);refine LoadA.own ((cI 0).get O (Am _ a2)) rfl (zw ?_);refine NewV.carr (cI 0) O λub bz O=>zw ?_;rw[eA]at O;replace O:I 0 (Y++((ub,.cells (encT t).toArray 45)::(a1,.cells (encT t).toArray 45)::(Z++(mo,mpO (icT t l))::(lb,.cells #[.slice Av (uTs Ts k).length cv] 28)::L))) bz:=by
   refine(cI 0).perm O ?_;simp only[BG,Au];refine List.Perm.trans ?_ (Bm).symm;refine List.Perm.cons _ ?_;refine List.Perm.trans ?_ (Bm).symm;refine List.Perm.cons _ ?_;rw[<-Au,<-Au];exact As.append_right _
  refine AppV.carr (m:=1) (news:=encT t) (cI 0) O hR qv7 trmI trmZ Jk Jk Od rfl (λ_=>⟨ub,0,rfl,λj u hu=>by rw[qa ((cI 0).get O (Aa _ mh)),Aq,Az];exact hu⟩) (qab t) (by rw[bh];omega) Oo ?_;clear O;intro A5 c5 Y5 b0 b4 O;replace O:=(cI 0).dropM ((cI 0).dropM O);replace O:I 0 ((Y5++(Z++[(mo,mpO (icT t l))]))++(lb,.cells #[.slice Av (uTs Ts k).length cv] 28)::L) b0:=by simpa using O
  (conv=>whnf);refine StoreV.carr (cI 0) O (by show 0<1;omega) rfl ?_;clear O;intro bf O;replace O:I 0 ((Y5++(Z++[(mo,mpO (icT t l))]))++(lb,.cells #[.slice A5 ((uTs Ts k).length+1) c5] 28)::L) bf:=O;(conv=>whnf);have b5:(uTs Ts (k+1)).length=(uTs Ts k).length+1:=by rw[eU,zla];rfl
  have b6:((uTs Ts (k+1)).map encT).flatten=((uTs Ts k).map encT).flatten++encT t:=by rw[eU];simp
  refine⟨(icT t l,.slice A5 ((uTs Ts k).length+1) c5,Y5),⟨by rw[eU];exact ad,ar,by dsimp only;omega,by rw[b5,b6];exact b4⟩,?_⟩;replace O:I 0 (Z++(Y5++((mo,mpO (icT t l))::(lb,.cells #[.slice A5 ((uTs Ts k).length+1) c5] 28)::L))) bf:=by
   refine(cI 0).perm O ?_;rw[Au,Au,<-Au,<-Au Z];exact(As).append Js
  rw[eZ]at O;exact(cI 0).dropM (A:=[(l2,od)]) O
 ·clear ax;rintro D am O;rw[bn,<-bl]at O;obtain⟨⟨l,v,Y⟩,⟨_,_,_,hR⟩,O⟩:=O;dsimp only at hR O;have br:=q1d (Ts:=Ts) (k:=Ts.length) znr;obtain⟨Av,cv,ev⟩:=hR.slice;subst ev;obtain⟨E,eE⟩:∃E:Dm,E=(mo,mpO l)::(lb,.cells #[.slice Av (uTs Ts Ts.length).length cv] 28)::L:=⟨_,rfl⟩
  have al:(lb,Obj.cells #[.slice Av (uTs Ts Ts.length).length cv] 28)∈E:=by rw[eE];simp
  rw[<-eE]at O;replace O:I 0 ((D,.deferred (some []))::(Y++E)) am:=O;replace O:I 0 (Y++(D,.deferred (some []))::E) am:=(cI 0).perm O Bm.symm;(conv=>whnf);refine LoadV.own ((cI 0).get O (Aa _ (zmc al))) rfl (zw ?_);refine zcv (q0v (cI 0) hR O Oo) ?_;clear hR O;rintro r bo ⟨rfl,U,Y2,hp,ha,hR,O⟩;have eU:=qaaf hp ha;have b7:=hp.length_eq;rw[<-eU]at ah hy|-;rw[<-b7]at hR al|-;obtain⟨n,en⟩:∃n,n=U.length:=⟨_,rfl⟩
  (conv=>whnf);refine LoadV.own ((cI 0).get O (Aa _ (zmc al))) rfl (zw ?_);have ag:∀{J:Dm->Dl} {w':Dd},Carr J->J (Y2++(D,.deferred (some []))::E) w'->J ([D].map q8e) w':=λcJ h=>cJ.dropL (cJ.perm (cJ.dropL h) (As (l₁:=[_])))
  refine q3l (λi:Nat=>[(0,.func (.yield y) #[] #[]),(47,.slice Av U.length cv),(48,ii U.length),(49,ii i)])
   (λi w'=>i<=U.length/\I i (Y2++(D,.deferred (some []))::E) w') (λi=>U.length-i) 0 fq ⟨An _,O⟩ ?_
  clear O;rintro i bp ck ⟨hi,O⟩;(conv=>whnf);refine zC (λ_=>zw ?_) (λ_=>zw ?_)
  case' refine_2=>
   obtain rfl:i=U.length:=by omega
   refine LeaveV.marks (J:=λX w'=>I U.length X w') (cI _) ?_ (D:=D) (Ds:=[]) (ag (cI _) O);intro w' h';(conv=>whnf);exact .inl (by rw[ah];exact h')
  have an:i<U.length:=by omega
  obtain⟨t,bg⟩:∃t,U[i]?=some t:=⟨_,zge an⟩
  obtain⟨_,_,ev,_,hS⟩:=V.RowX.sl qag hR rfl (λx hx=>(cI _).get O (Am _ hx))
  injection ev with b8 _ b9
  subst b8 b9;obtain⟨g1,o1,rfl,ca⟩:=hS.at_ (by intro e;rw[e]at an;simp at an);refine⟨⟨g1,o1,i,rfl,by omega,by omega,?_⟩⟩;rw[t4];(conv=>whnf);refine LoadA.cells (ca i t bg) rfl (zw ?_);refine NewV.carr (cI _) O λub az O=>zw ?_;refine StoreA.carr (vs:=encT t) (cI _) (A:=[]) O rfl (qab t) λa8 O=>zw ?_;refine LoadA.own ((cI _).get O mh) rfl (zw ?_);have cb:(U.map λt=>[qr t])[i]?=some [qr t]:=by rw[Ar,bg];rfl
  refine YieldV.mono (hy i _ _ a8 cb O) ?_;clear O;rintro v bt (⟨rfl,O⟩|⟨rfl,hX⟩)
  ·refine zu ?_;exact⟨rfl,i+1,⟨rfl,rfl,rfl,Ae (Value.int .i64) Oo,trivial⟩,⟨by omega,(cI _).drop O⟩,by omega⟩
  ·refine zu ?_;refine LeaveV.marks (J:=λX w'=>Ix i X w') (au _) ?_ (D:=D) (Ds:=[]) (ag (au _) ((au _).drop hX));intro w' h';(conv=>whnf);exact .inr ⟨i,by rw[ah];exact an,h'⟩
 ·rintro D c k am hk ⟨hf,_⟩;exact hf.elim
def snQ(e:Int×Q4):Dn:=ii e.1::qe e.2
theorem qhj(e:Int×Q4):(snQ e).length=17:=rfl
theorem q0u(e:Int×Q4):∀v∈snQ e,v.oneCell'=true:=λv O=>by
 rcases Aw.1 O with rfl|O
 ·rfl
 ·exact qa8 e.2 v O
def snL(qs:List Q4)(l:Do):List (Int×Q4):=l.map λi:Nat=>((i:Int),qs.getD i zQ)
theorem q0t(qs:List Q4)(l:Do):(snL qs l).length=l.length:=AC ..
def SnR(E:List (Int×Q4))(v:Di)(w:Dd):Prop:=∃B d,v=.slice B E.length d/\E.length<=d/\SlAt snQ 17 w B E
theorem qacf:Dp.underlying 71=some (.slice 77):=Tryz.underlying71
theorem s20I:Dp.info? 77=some ((Dp.info? 77).get Jk):=(BA _).symm
theorem s20Z:((Dp.info? 77).get Jk).zero=some ((((Dp.info? 77).get Jk).zero).get Jk):=(BA _).symm
theorem s20B:((Dp.info? 77).get Jk).bytes=232:=by kernel_rfl
theorem q0s{l:Do}(h:l[j]?=some i):(snL qs l)[j]?=some ((i:Int),qs.getD i zQ):=by rw[snL,Ar,h];rfl
theorem qadh{o:Nat}{e:Int×Q4}(h:CellsAt w g o (snQ e)):CellsAt w g (o+1) (qe e.2):=λk v O=>by
 have:=h (1+k) v (by rw[snQ,CF,Cn];exact O)
 rwa[<-C1]at this
def qjj(e:Int×Q4):Di:=.agg (snQ e).toArray
theorem q22:Dp.underlying 77=some (.struct (Dp.fieldsOf 77)):=by kernel_rfl
theorem q9z:Dp.stoodInHeld 77=false:=by kernel_rfl
theorem q73:Dp.eqGuardType Dp.depth 77=false:=by kernel_rfl
theorem qj4(d:Nat)(e:Int×Q4)(w:Dd):(Op.equalIn (d+4) 77 (qjj e) (qjj e)).run Dp w=.ok true w:=by
 have Z:=Tryz.underlying3;have a3:=Tryz.isAgg3;have z3:=Tryz.sizeOf3;have a4:=Tryz.isAgg47;have z4:=Tryz.sizeOf47;simp only[qjj,snQ,qe,encT];rw[run_equalIn_agg w (d+3) _ _ _ q22 q9z];simp only[Program.fieldsOf,Tryz.underlying77];have O:=qe2 d e.2 e.2 w;rw[qoo.2 rfl]at O;simp only[qw]at O
 go_simp
theorem V.RunV.neqSn{e:Int×Q4}(h:K (.bool false) w):
  RunV Dp (do eqGuard .neq 77 xo yo (qjj e) (qjj e);binOp .neq 77 (qjj e) (qjj e)) w K:=by
 refine⟨_,w,?_,h⟩;have O:=qj4 9996 e w;rw[Sem.run_bind,qjj,run_eqGuard_agg w .neq _ xo yo _ _ q73,Result.andThen_ok];simp only[qjj]at O;rw[run_neq_struct,O];rfl
theorem qe4(E:List (Int×Q4))(A B:oA)(cA cB:Nat)(w:Dd)(hA:SlAt snQ 17 w A E)(hB:SlAt snQ 17 w B E)(hl:E.length<=1152921504606846976):
  Gv Dp 25 [.slice A E.length cA,.slice B E.length cB] w λr w'=>r=.bool true/\Ext w w':=by
 have ab:tsz Dp 77=17:=by kernel_rfl
 refine ze Tryz.func25 Tryz.ntmps25 ?_;refine zv ?_;refine qn (λi:Nat=>[(0,.slice A E.length cA),(1,.slice B E.length cB),(5,ii i)]) (λi w'=>i<=E.length/\Ext w w') (λi=>E.length-i) 0 fq ⟨An _,xr⟩ ?_;rintro i w1 af ⟨hi,he⟩;(conv=>whnf);refine zC (λ_=>zw ?_) (λ_=>zw ?_)
 case' refine_2=>exact⟨rfl,he⟩
 have aa:i<E.length:=by omega
 have ac:E≠[]:=by intro e;rw[e]at aa;simp at aa
 obtain⟨g1,o1,rfl,h1⟩:=hA.at_ ac;obtain⟨g2,o2,rfl,h2⟩:=hB.at_ ac;obtain⟨e,ad⟩:∃e,E[i]?=some e:=⟨_,zge aa⟩
 have hx:=λO (Z:Ext w1.drew O)=>he.trans ((Ext.refl w1).drew.trans Z)
 refine DrawV.free Jk Jk (zw ?_);refine zd ?_;refine zd ?_;refine zsd (.pointer (some ⟨g1,o1+i*17,none⟩)) (λO Z=>zw ?_) ?_
 ·refine⟨⟨g1,o1,i,rfl,by omega,by omega,?_⟩⟩;rw[ab];(conv=>whnf);exact xq
 apply zsd (qjj e)
 ·intro O Z;refine LoadA.cells (CellsAt.ext (h1 i e ad) (hx O Z)) rfl (zw ?_);exact xq
 (conv=>whnf);refine zd ?_;refine zd ?_;refine zsd (.pointer (some ⟨g2,o2+i*17,none⟩)) (λO Z=>zw ?_) ?_
 ·refine⟨⟨g2,o2,i,rfl,by omega,by omega,?_⟩⟩;rw[ab];(conv=>whnf);exact xq
 apply zsd (qjj e)
 ·intro O Z;refine LoadA.cells (CellsAt.ext (h2 i e ad) (hx O Z)) rfl (zw ?_);exact xq
 apply zsd (.bool false)
 ·intro O Z;refine RunV.neqSn (e:=e) (zw ?_);exact xq
 intro w2 ae;refine zu ?_;exact⟨i+1,⟨rfl,rfl,Ae (Value.int .i64) Oo,trivial⟩,⟨by omega,hx w2 ae⟩,by omega⟩
theorem qjg(E:List TM)(A B:oA)(cA cB:Nat)(w:Dd)(hA:SlAt encT 4 w A E)(hB:SlAt encT 4 w B E)(hl:E.length<=1152921504606846976):
  Gv Dp 45 [.slice A E.length cA,.slice B E.length cB] w λr w'=>r=.bool true/\Ext w w':=by
 have t4:tsz Dp 45=4:=by kernel_rfl
 refine ze Tryz.func45 Tryz.ntmps45 ?_;refine zv ?_;refine qn (λi:Nat=>[(0,.slice A E.length cA),(1,.slice B E.length cB),(5,ii i)]) (λi w'=>i<=E.length/\Ext w w') (λi=>E.length-i) 0 fq ⟨An _,xr⟩ ?_;rintro i w1 ae ⟨hi,he⟩;(conv=>whnf);refine zC (λ_=>zw ?_) (λ_=>zw ?_)
 case' refine_2=>exact⟨rfl,he⟩
 have aa:i<E.length:=by omega
 have ab:E≠[]:=by intro e;rw[e]at aa;simp at aa
 obtain⟨g1,o1,rfl,h1⟩:=hA.at_ ab;obtain⟨g2,o2,rfl,h2⟩:=hB.at_ ab;obtain⟨e,ac⟩:∃e,E[i]?=some e:=⟨_,zge aa⟩
 have hx:=λO (Z:Ext w1.drew O)=>he.trans ((Ext.refl w1).drew.trans Z)
 refine DrawV.free Jk Jk (zw ?_);refine zd ?_;refine zd ?_;refine zsd (.pointer (some ⟨g1,o1+i*4,none⟩)) (λO Z=>zw ?_) ?_
 ·refine⟨⟨g1,o1,i,rfl,by omega,by omega,?_⟩⟩;rw[t4];(conv=>whnf);exact xq
 apply zsd (qr e)
 ·intro O Z;refine LoadA.cells (CellsAt.ext (h1 i e ac) (hx O Z)) rfl (zw ?_);exact xq
 (conv=>whnf);refine zd ?_;refine zd ?_;refine zsd (.pointer (some ⟨g2,o2+i*4,none⟩)) (λO Z=>zw ?_) ?_
 ·refine⟨⟨g2,o2,i,rfl,by omega,by omega,?_⟩⟩;rw[t4];(conv=>whnf);exact xq
 apply zsd (qr e)
 ·intro O Z;refine LoadA.cells (CellsAt.ext (h2 i e ac) (hx O Z)) rfl (zw ?_);exact xq
 apply zsd (.bool false)
 ·intro O Z;refine RunV.eqTerm (a:=e) (b:=e) (.inr rfl) ?_;rw[ql.2 rfl];(conv=>whnf);exact xq
 intro w2 ad;refine zu ?_;exact⟨i+1,⟨rfl,rfl,Ae (Value.int .i64) Oo,trivial⟩,⟨by omega,hx w2 ad⟩,by omega⟩
open Go.RowKit
namespace V
variable {P:Df} {n:Nat}
theorem qacd{f:Operand}{ps:Array Tmp}{Q:QW}{Φ:Dl}{xs:List Dn}(hf:ev ρ f=.func (.func gf) #[] lb.toArray)(he:qcm P gf=true)(aa:SeqC P gf lb xs Φ)(ad:ps.toList.all (Nat.blt · n)=true)(ae:∀x∈xs,x.length=ps.size)(e:Nat)(J Jx:Nat->Dm->Dl)(F:Dm->Dl)(hJ:∀k,Carr (J k))(af:∀k,Carr (Jx k))(hw:∀k X w,J k X w->Φ w)(h0:J 0 [] w)(ak:∀X w,J xs.length X w->F X w)(ag:∀k X w,k<xs.length->Jx k X w->F X w)(hQ:∀ds w,Q .normal ρ ds w->Q (.exit e) ρ ds w)(ab:∀D w',F [(D,.deferred (some []))] w'->Q .normal ρ ({ target:=.collected D,args:=#[] }::ds) w')(O:∀l D ob Z k x X w1,xs[k]?=some x->J k ((l,ob)::(D,.deferred (some []))::X) w1->
   qdw P n (some l) assign (q3t λah ai aj=>BeginA (J k) l ob Z aj ai
    (λw2=>qdw P n (some l) body (qtk (J (k+1) ((l,Z)::(D,.deferred (some []))::X)) (λc=>λw=>c=.exit e/\Jx k ((l,Z)::(D,.deferred (some []))::X) w)) ah [] w2)) (qot ps.toList x ρ) [] w1):RangeW P n none f ps assign body Q ρ ds w:=by
 refine qz4 (Jx:=λc k X w=>c=.exit e/\Jx k X w) hf he aa ad ae J hJ (λc k=>Carr.and (af k)) hw h0 O (by grind) ?_;rintro D c k w' hk ⟨rfl,h⟩;exact hQ _ _ (ab D w' (ag k _ _ hk h))
end V
def TkJ(J:Dm->Dl)(lb:Nat)(ty e sz:Dg)(rows:List Dn)(m:Nat)(k:Nat)(X:Dm)(w:Dd):Prop:=
 ∃s:Di×Dm,(RowX e sz s.1 k (rows.take k).flatten s.2/\k<=m)/\J (X++(s.2++[(lb,.cells #[s.1] ty)])) w
theorem TkJ.carr(O:Carr J)(lb:Nat)(ty e sz:Dg)(rows:List Dn)(m k:Nat):Carr (TkJ J lb ty e sz rows m k):=Carr.ex λ_=>O.tail _
def TkF(J:Dm->Dl)(lb:Nat)(ty e sz:Dg)(rows:List Dn)(X:Dm)(w:Dd):Prop:=
 ∃s:Di×Dm,RowX e sz s.1 rows.length rows.flatten s.2/\J (X++(s.2++[(lb,.cells #[s.1] ty)])) w
section
variable {J:Dm->Dl} {lb:Nat} {ty e sz:Dg} {rows:List Dn} {m:Nat} {X:Dm} {w:Dd}
theorem TkJ.all{n:Nat}(hn:n=rows.length)(h:TkJ J lb ty e sz rows m n X w):TkF J lb ty e sz (rows.take m) X w:=by
 subst hn;obtain⟨s,⟨O,Z⟩,h3⟩:=h;rw[BB]at O;rw[Ay Z];exact⟨s,O,h3⟩
theorem TkJ.cut{n:Nat}(hn:n=rows.length)(hk:k<n)(h:k=m/\TkJ J lb ty e sz rows m k X w):TkF J lb ty e sz (rows.take m) X w:=by
 obtain⟨rfl,s,⟨O,_⟩,Z⟩:=h;refine⟨s,?_,Z⟩;rw[A4,Bi Oo];exact O
end
theorem qmw{rows:List Dn}{r:Dn}(h:rows[k]?=some r):(rows.take (k+1)).flatten=(rows.take k).flatten++r:=by
 rw[Bu,h];simp
theorem qf4{Z:Type}{enc:Z->Dn}{e:Nat}{v:Di}(O:∀x,(enc x).length=sz){l:List Z}(h:RowX e sz v (l.map enc).length (l.map enc).flatten Y)(hY:∀x∈Y,w.heap[x.1]?=some x.2):
  ∃A c,v=.slice A l.length c/\l.length<=c/\SlAt enc sz w A l:=by
 rw[AC]at h;exact V.RowX.sl O h rfl hY
theorem qs9{O:Type}(u:O)(Y Z B:List O):(Y++u::(Z++B)).Perm (u::(Z++(Y++B))):=
 Bm.trans (.cons _ (by rw[<-Au,<-Au];exact As.append_right _))
theorem V.AppV.box{e te O:Nat}{v:Di}{n ub lb:Nat}{t:Dg}{i:TypeInfo}{Z:Dm}(hJ:Carr J)(h:J ((ub,.cells news.toArray te)::(Z++(Y++[(lb,.cells #[x] tb)]))) w)(hR:RowX e O v n xs Y)(ht:P.underlying t=some (.slice e))(hi:P.info? e=some i)(hz:i.zero=some z)(aa:i.size=O)(ab:z.cells.size=O)(ac:0<O)(hl:news.length=1*O)(h1:∀u∈news,u.oneCell'=true)(hb:(n+1)*i.bytes<=140737488355328)(hk:∀A' c' Y' w',RowX e O (.slice A' (n+1) c') (n+1) (xs++news) Y'->J (Z++(Y'++[(lb,.cells #[x] tb)])) w'->K (.slice A' (n+1) c') w')(ad:n+1<=140737488355328:=by omega):AppV P #[t,t] ty v (.slice (some ⟨ub,0,none⟩) 1 c) w K:=
 AppV.carr hJ (hJ.perm h (qs9 _ Y Z _).symm) hR ht hi hz aa ab ac hl (λ_=>⟨ub,0,rfl,λj u hu=>by rw[qa (hJ.get h mh),Aq,Az];exact hu⟩) h1 hb ad λA' c' Y' w' ae h'=>hk A' c' Y' w' ae (hJ.drop (hJ.perm h' (qs9 _ Y' Z _)))
theorem V.StoreV.box(O:Carr J){Z:Dm}{v:Di}{t:Dg}{K:Dl}(h:J (Z++(Y++[(b,.cells #[x] t)])) w)(hk:∀w',J (Z++(Y++[(b,.cells #[v] t)])) w'->K w')(h1:qb5 v=true:=by rfl):StoreV w b 0 v K:=by
 rw[<-Au]at h;refine StoreV.carr O h (by show 0<1;omega) h1 λw' h'=>hk w' ?_;rw[<-Au];exact h'
theorem qku{n:Nat}{f:Operand}{ps:Array Tmp}{Q:QW}{Φ:Dl}{ls:Dn}{xs:List Dn}(e sz:Nat){ty:Nat}{el:Dg}{N:Dm}{rows:List Dn}(aa:SeqC P gf ls xs Φ)(ad:∀x∈xs,x.length=ps.size)(ae:∀N X w',Mem w0 w' (X++(N++L))->Φ w')(hx:xs.length=rows.length)(h0:Mem w0 w ([]++([]++[(b,.cells #[.slice none 0 0] ty)])++(N++L)))(ab:∀D w',TkF (λX w'=>Mem w0 w' (X++(N++L))) b ty el sz (rows.take m) [(D,.deferred (some []))] w'->Q .normal ρ ({ target:=.collected D,args:=#[] }::ds) w')(O:∀l D ob Z k x X w1,xs[k]?=some x->TkJ (λX w'=>Mem w0 w' (X++(N++L))) b ty el sz rows m k ((l,ob)::(D,.deferred (some []))::X) w1->
   qdw P n (some l) assign (q3t λaf ag ah=>BeginA (TkJ (λX w'=>Mem w0 w' (X++(N++L))) b ty el sz rows m k) l ob Z ah ag
    (λw2=>qdw P n (some l) body (qtk (TkJ (λX w'=>Mem w0 w' (X++(N++L))) b ty el sz rows m (k+1) ((l,Z)::(D,.deferred (some []))::X)) (λc=>λw=>c=.exit e/\k=m/\TkJ (λX w'=>Mem w0 w' (X++(N++L))) b ty el sz rows m k ((l,Z)::(D,.deferred (some []))::X) w)) af [] w2)) (qot ps.toList x ρ) [] w1)(hf:ev ρ f=.func (.func gf) #[] ls.toArray:=by rfl)(he:qcm P gf=true:=by kernel_rfl)(ai:ps.toList.all (Nat.blt · n)=true:=by decide)(hQ:∀ds w,Q .normal ρ ds w->Q (.exit e) ρ ds w:=by exact λ_ _ h=>h):RangeW P n none f ps assign body Q ρ ds w:=
 qacd (Jx:=λk X w'=>k=m/\TkJ (λX w'=>Mem w0 w' (X++(N++L))) b ty el sz rows m k X w') hf he aa ai ad e (TkJ _ b ty el sz rows m) (TkF (λX w'=>Mem w0 w' (X++(N++L))) b ty el sz (rows.take m)) (λk=>TkJ.carr ((qdq w0).tail _) _ _ _ _ _ _ k) (λk=>Carr.and (TkJ.carr ((qdq w0).tail _) _ _ _ _ _ _ k)) (λ_ _ _ ⟨_,_,hh⟩=>ae _ _ _ hh)
  ⟨(.slice none 0 0,[]),⟨RowX.nil _ _,An _⟩,h0⟩ (λ_ _ h=>TkJ.all hx h) (λ_ _ _ hk h=>TkJ.cut hx hk h) hQ ab O
theorem qp8(T:List TM)(qs:List Q4)(h:EncOk T qs)(x pb vb tb:Nat)(p:Q4)(hp:qap p)(m:Nat)(bc:m<=9223372036854775807)(w:Dd)(hX:IdxE w x pb vb tb (encP T qs))(hG:GlobS w):
  Gv Dp 22 [pp x,qw p,ii m] w λr w'=>(∃v,r=.tuple #[v,.bool true]/\SnR (snL qs ((qal p qs).take m)) v w')/\Ext w w':=by
 have bb:=h.set.len;have au:((Dp.info? 77).get Jk).bytes=232:=s20B;have bd:((Dp.info? 45).get Jk).bytes=56:=by kernel_rfl
 obtain⟨M,eM⟩:∃M,M=qal p qs:=⟨_,rfl⟩
 have be:M.length<=qs.length:=by rw[eM];exact qkm p qs
 rw[<-eM];obtain⟨rows,aa⟩:∃rows:List Dn,rows=(snL qs M).map snQ:=⟨_,rfl⟩
 have av:rows.length=M.length:=by rw[aa,AC,q0t]
 have ag:(M.map (sRow qs)).length=rows.length:=by rw[AC,av]
 refine gvW Jk Tryz.func22 rfl Tryz.ntmps22 rfl (zw ?_);refine znm (Mem.nil w) λb4 w1 Z=>zw ?_;refine znm Z λbm w2 Z=>zw ?_;refine znm Z λb8 w3 Z=>zw ?_;refine znm Z λb9 w4 Z=>zw ?_;refine LoadA.mem (cs:=(qe p).toArray) Z (i:=3) rfl rfl (zw ?_);refine zcv (qhh x p w4) ?_;rintro r w5 ⟨c1,c2,rfl,ah⟩;replace Z:=Z.glue ah;obtain⟨L,hL⟩:∃L:Dm,L=[(bm,.cells #[ii m] 3),(b4,.cells (qe p).toArray 47),(c2,.cells (qe p).toArray 47),(c1,.cells #[pp x] 26)]:=⟨_,rfl⟩
 have ai:(c1,Obj.cells #[pp x] 26)∈L:=by rw[hL];simp
 have aj:(c2,Obj.cells (qe p).toArray 47)∈L:=by rw[hL];simp
 have ak:(bm,Obj.cells #[ii m] 3)∈L:=by rw[hL];simp
 have aw:∀(N:Dm) (X:Dm) (w':Dd),Mem w w' (X++(N++L))->w'.heap[bm]?=some (.cells #[ii m] 3):=λN X w' hh=>hh.get (Aa _ (Aa _ ak))
 have al:∀(N:Dm) (X:Dm) (w':Dd),Mem w w' (X++(N++L))->SmaΦ x pb vb tb T qs p c1 c2 w':=λN X w' hh=>⟨hX.ext hh.ext,hG.ext hh.ext,by rw[qa (hh.get (Aa _ (Aa _ ai)))];rfl,λj v hv=>by rw[qa (hh.get (Aa _ (Aa _ aj))),Aq,Az];exact hv⟩
 have ad:=qhi T qs h x pb vb tb p hp (h.idX p) c1 c2;rw[<-eM]at ad;have am:∀r∈(M.map (sRow qs)),r.length=2:=λr hr=>by
  obtain⟨j,_,rfl⟩:=AG.1 hr;rfl
 replace Z:Mem w w5 ([]++([]++[(b8,.cells #[.slice none 0 0] 71)])++([(b9,.cells #[.slice none 0 0] 71)]++L)):=by
  rw[hL];exact(qdq w).perm Z ((As (l₁:=[(c2,Obj.cells (qe p).toArray 47),(c1,Obj.cells #[pp x] 26),(b9,Obj.cells #[.slice none 0 0] 71)]) (l₂:=[_,_,_])).trans (List.Perm.cons _ (As (l₁:=[_,_,_,_]) (l₂:=[_]))))
 clear ah;(conv=>whnf);refine qku (b:=b8) (el:=77) (m:=m) (N:=[(b9,.cells #[.slice none 0 0] 71)]) 0 17 ad am al ag Z ?r1 ?b1
 case' b1=>
  obtain⟨lb,rfl⟩:∃lb,lb=b8:=⟨_,rfl⟩
  generalize[(b9,Obj.cells #[.slice none 0 0] 71)]=N
 case' r1=>
  rintro D1 w6 ⟨⟨v1,Y1⟩,ae,O⟩;dsimp only at ae O;obtain⟨N,eN⟩:∃N:Dm,N=(D1,.deferred (some []))::(Y1++[(b8,.cells #[v1] 71)]):=⟨_,rfl⟩
  replace Z:Mem w w6 ([]++([]++[(b9,.cells #[.slice none 0 0] 71)])++(N++L)):=(qdq w).perm (show Mem w w6 (N++(b9,.cells #[.slice none 0 0] 71)::L)by rw[eN];exact O) Bm;clear O;(conv=>whnf);refine qku (b:=b9) (el:=77) (m:=m) (N:=N) 2 17 ad am al ag Z ?r2 ?b2
 case' b2=>obtain⟨lb,rfl⟩:∃lb,lb=b9:=⟨_,rfl⟩
 case' b1|b2=>
  clear Z;rintro l2 D oa od k r X w6 hr O;rw[Ar]at hr;cases ab:M[k]? with
  | none=>rw[ab]at hr;cases hr
  | some i=>
  rw[ab,AU,AN]at hr;subst hr;have bf:=(Ad.1 ab).1;have cJ:Carr (λX w'=>Mem w w' (X++(N++L))):=(qdq w).tail _;have cS:=TkJ.carr cJ lb 71 77 17 rows m k;obtain⟨q,eq⟩:∃q,qs.getD i zQ=q:=⟨_,rfl⟩
  have ax:rows[k]?=some (snQ ((i:Int),q)):=by rw[aa,Ar,q0s ab,AU,eq]
  rw[show sRow qs i=[ii i,qw q]by rw[sRow,eq]];(conv=>whnf);refine NewV.carr cS O λnb w7 O=>zw ?_;refine StoreA.carr (vs:=qe q) cS (A:=[]) O rfl (qa8 q) λw8 O=>zw ?_;refine⟨rfl,(nb,.cells (qe q).toArray 47)::(D,.deferred (some []))::X,cS.perm O (List.Perm.swap _ _ _),?_⟩;clear O;rintro w9 ⟨⟨v,Y⟩,⟨hR,ay⟩,O⟩;dsimp only at hR O;obtain⟨Av,cv,ev⟩:=hR.slice;subst ev;have hg:=O.get (b:=lb) (o:=.cells #[.slice Av k cv] 71) Js;(conv=>whnf);refine LoadV.own hg rfl (zw ?_);refine LoadV.own (aw _ _ _ O) rfl (zw ?_)
  (repeat' refine zC (λ_=>zw ?_) (λ_=>zw ?_))
  case' refine_1=>exact⟨rfl,by omega,(.slice Av k cv,Y),⟨hR,ay⟩,cJ.dropM (A:=[(l2,od)]) O⟩
  refine LoadV.own hg rfl (zw ?_);refine LoadA.own (O.get (b:=nb) (o:=.cells (qe q).toArray 47) Js) rfl (zw ?_);refine NewV.carr cJ O λub bg O=>zw ?_;refine AppV.box (news:=snQ ((i:Int),q)) cJ O hR qacf s20I s20Z Jk Jk Od rfl (q0u _) (by rw[au];omega) ?_;clear O;intro A5 c5 Y5 bh az O;(conv=>whnf);refine StoreV.box cJ O λbi O=>zw ?_;exact⟨(.slice A5 (k+1) c5,Y5),⟨by rw[qmw ax];exact az,by omega⟩,cJ.dropM (A:=[(l2,od)]) O⟩
 rintro D2 w7 ⟨⟨v2,Y2⟩,af,O⟩;dsimp only at af O;clear Z;obtain⟨E,eE⟩:∃E,E=snL qs (M.take m):=⟨_,rfl⟩
 have aq:rows.take m=E.map snQ:=by rw[aa,eE,<-C2,snL,snL,<-C2]
 rw[aq]at ae af;have bj:E.length<=1048576:=by
  have:=Ae List.length aq;rw[A4,AC]at this;omega
 have a0:∀y∈Y1,w7.heap[y.1]?=some y.2:=λy hy=>O.get (Aa _ (Am _ (by rw[eN];exact zmc (Am _ hy))))
 have a1:∀y∈Y2,w7.heap[y.1]?=some y.2:=λy hy=>O.get (Am _ (Aa _ (Am _ hy)))
 obtain⟨A1,d1,rfl,a2,a3⟩:=qf4 qhj ae a0;obtain⟨A2,d2,rfl,bk,a4⟩:=qf4 qhj af a1;have ar:w7.heap[b8]?=some (.cells #[.slice A1 E.length d1] 71):=O.get (Aa _ (Am _ (by rw[eN];simp)));have a5:w7.heap[b9]?=some (.cells #[.slice A2 E.length d2] 71):=O.get (Am _ Js);have ac:∀wd,Ext w7.drew wd->Ext w7 wd:=λwd hd=>(Ext.refl w7).drew.trans hd
 (conv=>whnf);refine DrawW.any Jk (.inl rfl) (AnyV.free Jk ?_);(conv=>whnf);refine zsd (.slice A1 E.length d1) (λwd hd=>zw ?_) (zw ?_)
 ·refine LoadV.own ((ac wd hd).get ar) rfl (zw ?_);exact xq
 refine zsd (.slice A1 E.length d1) (λwd hd=>zw ?_) (zw ?_)
 ·refine LoadV.own ((ac wd hd).get ar) rfl (zw ?_);exact xq
 refine zsd (.slice A2 E.length d2) (λwd hd=>zw ?_) (zw ?_)
 ·refine LoadV.own ((ac wd hd).get a5) rfl (zw ?_);exact xq
 refine zsd (.bool true) (λwd hd=>zw ?_) (zw ?_)
 ·refine zcv (qe4 E A1 A2 d1 d2 wd (a3.ext (ac wd hd)) (a4.ext (ac wd hd)) Oo) ?_;rintro r wx ⟨rfl,hex⟩;exact⟨hex,rfl⟩
 refine zd ?_;refine zd ?_;intro w8 a6;replace O:=O.call (ac w8 a6);rw[eN]at O;(conv=>whnf);obtain⟨R,eR⟩:∃R:Dm,R=(Y2++[(b9,.cells #[.slice A2 E.length d2] 71)])++((Y1++[(b8,.cells #[.slice A1 E.length d1] 71)])++L):=⟨_,rfl⟩
 have a7:∀y∈Y1,y∈R:=λy hy=>by rw[eR];exact Aa _ (Am _ (Am _ hy))
 replace O:Mem w w8 ((D2,.deferred (some []))::((Y2++[(b9,.cells #[.slice A2 E.length d2] 71)])++(D1,.deferred (some []))::((Y1++[(b8,.cells #[.slice A1 E.length d1] 71)])++L))):=O;replace O:Mem w w8 ((D2,.deferred (some []))::(D1,.deferred (some []))::R):=by rw[eR];exact(qdq w).perm O (List.Perm.cons _ Bm)
 refine LeaveV.marks (J:=λX w'=>Mem w w' (X++R)) ((qdq w).tail R) ?_ (D:=D2) (Ds:=[D1]) O;intro w' h';(conv=>whnf);obtain⟨A3,d3,e3,bl,a8⟩:=qf4 qhj ae (w:=w') (λy hy=>h'.get (Aa [] (a7 y hy)))
 injection e3 with a9 _ ba
 subst a9 ba;exact⟨⟨_,rfl,A1,d1,by rw[eE],by rw[<-eE];exact a2,by rw[<-eE];exact a8⟩,h'.ext⟩
theorem qwo(T:List TM)(qs:List Q4)(h:EncOk T qs)(x pb vb tb:Nat)(p:Q4)(hp:qap p)(pl:Int)(pre:De)(m:Nat)(be:m<=9223372036854775807)(w:Dd)(hX:IdxE w x pb vb tb (encP T qs))(hG:GlobS w):
  Gv Dp 24 [pp x,qw p,ii pl,.string pre,ii m] w λr w'=>(∃v,r=.tuple #[v,.bool true]/\SnR (snL qs ((begL pl pre p qs).take m)) v w')/\Ext w w':=by
 have bd:=h.set.len;have aw:((Dp.info? 77).get Jk).bytes=232:=s20B;have bf:((Dp.info? 45).get Jk).bytes=56:=by kernel_rfl
 obtain⟨M,eM⟩:∃M,M=begL pl pre p qs:=⟨_,rfl⟩
 have bg:M.length<=qs.length:=by rw[eM];exact q66 pl pre p qs
 rw[<-eM];obtain⟨rows,aa⟩:∃rows:List Dn,rows=(snL qs M).map snQ:=⟨_,rfl⟩
 have ax:rows.length=M.length:=by rw[aa,AC,q0t]
 have ag:(M.map (sRow qs)).length=rows.length:=by rw[AC,ax]
 refine gvW Jk Tryz.func24 rfl Tryz.ntmps24 rfl (zw ?_);refine znm (Mem.nil w) λb4 w1 Z=>zw ?_;refine znm Z λbm w2 Z=>zw ?_;refine znm Z λb8 w3 Z=>zw ?_;refine znm Z λb9 w4 Z=>zw ?_;refine LoadA.mem (cs:=(qe p).toArray) Z (i:=3) rfl rfl (zw ?_);refine zcv (qqr x p pl pre w4) ?_;rintro r w5 ⟨c1,c2,c3,c4,rfl,ah⟩;replace Z:=Z.glue ah;obtain⟨L,hL⟩:∃L:Dm,L=[(bm,.cells #[ii m] 3),(b4,.cells (qe p).toArray 47),(c4,.cells #[.string pre] 9),(c3,.cells #[ii pl] 3),(c2,.cells (qe p).toArray 47),(c1,.cells #[pp x] 26)]:=⟨_,rfl⟩
 have ai:(c1,Obj.cells #[pp x] 26)∈L:=by rw[hL];simp
 have aj:(c2,Obj.cells (qe p).toArray 47)∈L:=by rw[hL];simp
 have ak:(c3,Obj.cells #[ii pl] 3)∈L:=by rw[hL];simp
 have al:(c4,Obj.cells #[.string pre] 9)∈L:=by rw[hL];simp
 have am:(bm,Obj.cells #[ii m] 3)∈L:=by rw[hL];simp
 have ay:∀(N:Dm) (X:Dm) (w':Dd),Mem w w' (X++(N++L))->w'.heap[bm]?=some (.cells #[ii m] 3):=λN X w' hh=>hh.get (Aa _ (Aa _ am))
 have an:∀(N:Dm) (X:Dm) (w':Dd),Mem w w' (X++(N++L))->SbeΦ x pb vb tb T qs p pl pre c1 c2 c3 c4 w':=λN X w' hh=>⟨hX.ext hh.ext,hG.ext hh.ext,by rw[qa (hh.get (Aa _ (Aa _ ai)))];rfl,λj v hv=>by rw[qa (hh.get (Aa _ (Aa _ aj))),Aq,Az];exact hv,by rw[qa (hh.get (Aa _ (Aa _ ak)))];rfl,by rw[qa (hh.get (Aa _ (Aa _ al)))];rfl⟩
 have ad:=qqs T qs h x pb vb tb p hp pl pre c1 c2 c3 c4;rw[<-eM]at ad;have ao:∀r∈(M.map (sRow qs)),r.length=2:=λr hr=>by
  obtain⟨j,_,rfl⟩:=AG.1 hr;rfl
 replace Z:Mem w w5 ([]++([]++[(b8,.cells #[.slice none 0 0] 71)])++([(b9,.cells #[.slice none 0 0] 71)]++L)):=by
  rw[hL];exact(qdq w).perm Z ((As (l₁:=[(c4,Obj.cells #[.string pre] 9),(c3,Obj.cells #[ii pl] 3),(c2,Obj.cells (qe p).toArray 47),(c1,Obj.cells #[pp x] 26),(b9,Obj.cells #[.slice none 0 0] 71)]) (l₂:=[_,_,_])).trans (List.Perm.cons _ (As (l₁:=[_,_,_,_,_,_]) (l₂:=[_]))))
 clear ah;(conv=>whnf);refine qku (b:=b8) (el:=77) (m:=m) (N:=[(b9,.cells #[.slice none 0 0] 71)]) 0 17 ad ao an ag Z ?r1 ?b1
 case' b1=>
  obtain⟨lb,rfl⟩:∃lb,lb=b8:=⟨_,rfl⟩
  generalize[(b9,Obj.cells #[.slice none 0 0] 71)]=N
 case' r1=>
  rintro D1 w6 ⟨⟨v1,Y1⟩,ae,O⟩;dsimp only at ae O;obtain⟨N,eN⟩:∃N:Dm,N=(D1,.deferred (some []))::(Y1++[(b8,.cells #[v1] 71)]):=⟨_,rfl⟩
  replace Z:Mem w w6 ([]++([]++[(b9,.cells #[.slice none 0 0] 71)])++(N++L)):=(qdq w).perm (show Mem w w6 (N++(b9,.cells #[.slice none 0 0] 71)::L)by rw[eN];exact O) Bm;clear O;(conv=>whnf);refine qku (b:=b9) (el:=77) (m:=m) (N:=N) 2 17 ad ao an ag Z ?r2 ?b2
 case' b2=>obtain⟨lb,rfl⟩:∃lb,lb=b9:=⟨_,rfl⟩
 case' b1|b2=>
  clear Z;rintro l2 D oa od k r X w6 hr O;rw[Ar]at hr;cases ab:M[k]? with
  | none=>rw[ab]at hr;cases hr
  | some i=>
  rw[ab,AU,AN]at hr;subst hr;have bh:=(Ad.1 ab).1;have cJ:Carr (λX w'=>Mem w w' (X++(N++L))):=(qdq w).tail _;have cS:=TkJ.carr cJ lb 71 77 17 rows m k;obtain⟨q,eq⟩:∃q,qs.getD i zQ=q:=⟨_,rfl⟩
  have az:rows[k]?=some (snQ ((i:Int),q)):=by rw[aa,Ar,q0s ab,AU,eq]
  rw[show sRow qs i=[ii i,qw q]by rw[sRow,eq]];(conv=>whnf);refine NewV.carr cS O λnb w7 O=>zw ?_;refine StoreA.carr (vs:=qe q) cS (A:=[]) O rfl (qa8 q) λw8 O=>zw ?_;refine⟨rfl,(nb,.cells (qe q).toArray 47)::(D,.deferred (some []))::X,cS.perm O (List.Perm.swap _ _ _),?_⟩;clear O;rintro w9 ⟨⟨v,Y⟩,⟨hR,a0⟩,O⟩;dsimp only at hR O;obtain⟨Av,cv,ev⟩:=hR.slice;subst ev;have hg:=O.get (b:=lb) (o:=.cells #[.slice Av k cv] 71) Js;(conv=>whnf);refine LoadV.own hg rfl (zw ?_);refine LoadV.own (ay _ _ _ O) rfl (zw ?_)
  (repeat' refine zC (λ_=>zw ?_) (λ_=>zw ?_))
  case' refine_1=>exact⟨rfl,by omega,(.slice Av k cv,Y),⟨hR,a0⟩,cJ.dropM (A:=[(l2,od)]) O⟩
  refine LoadV.own hg rfl (zw ?_);refine LoadA.own (O.get (b:=nb) (o:=.cells (qe q).toArray 47) Js) rfl (zw ?_);refine NewV.carr cJ O λub bi O=>zw ?_;refine AppV.box (news:=snQ ((i:Int),q)) cJ O hR qacf s20I s20Z Jk Jk Od rfl (q0u _) (by rw[aw];omega) ?_;clear O;intro A5 c5 Y5 bj a1 O;(conv=>whnf);refine StoreV.box cJ O λbk O=>zw ?_;exact⟨(.slice A5 (k+1) c5,Y5),⟨by rw[qmw az];exact a1,by omega⟩,cJ.dropM (A:=[(l2,od)]) O⟩
 rintro D2 w7 ⟨⟨v2,Y2⟩,af,O⟩;dsimp only at af O;clear Z;obtain⟨E,eE⟩:∃E,E=snL qs (M.take m):=⟨_,rfl⟩
 have au:rows.take m=E.map snQ:=by rw[aa,eE,<-C2,snL,snL,<-C2]
 rw[au]at ae af;have bl:E.length<=1048576:=by
  have:=Ae List.length au;rw[A4,AC]at this;omega
 have a2:∀y∈Y1,w7.heap[y.1]?=some y.2:=λy hy=>O.get (Aa _ (Am _ (by rw[eN];exact zmc (Am _ hy))))
 have a3:∀y∈Y2,w7.heap[y.1]?=some y.2:=λy hy=>O.get (Am _ (Aa _ (Am _ hy)))
 obtain⟨A1,d1,rfl,a4,a5⟩:=qf4 qhj ae a2;obtain⟨A2,d2,rfl,bn,a6⟩:=qf4 qhj af a3;have av:w7.heap[b8]?=some (.cells #[.slice A1 E.length d1] 71):=O.get (Aa _ (Am _ (by rw[eN];simp)));have a7:w7.heap[b9]?=some (.cells #[.slice A2 E.length d2] 71):=O.get (Am _ Js);have ac:∀wd,Ext w7.drew wd->Ext w7 wd:=λwd hd=>(Ext.refl w7).drew.trans hd
 (conv=>whnf);refine DrawW.any Jk (.inl rfl) (AnyV.free Jk ?_);(conv=>whnf);refine zsd (.slice A1 E.length d1) (λwd hd=>zw ?_) (zw ?_)
 ·refine LoadV.own ((ac wd hd).get av) rfl (zw ?_);exact xq
 refine zsd (.slice A1 E.length d1) (λwd hd=>zw ?_) (zw ?_)
 ·refine LoadV.own ((ac wd hd).get av) rfl (zw ?_);exact xq
 refine zsd (.slice A2 E.length d2) (λwd hd=>zw ?_) (zw ?_)
 ·refine LoadV.own ((ac wd hd).get a7) rfl (zw ?_);exact xq
 refine zsd (.bool true) (λwd hd=>zw ?_) (zw ?_)
 ·refine zcv (qe4 E A1 A2 d1 d2 wd (a5.ext (ac wd hd)) (a6.ext (ac wd hd)) Oo) ?_;rintro r wx ⟨rfl,hex⟩;exact⟨hex,rfl⟩
 refine zd ?_;refine zd ?_;intro w8 a8;replace O:=O.call (ac w8 a8);rw[eN]at O;(conv=>whnf);obtain⟨R,eR⟩:∃R:Dm,R=(Y2++[(b9,.cells #[.slice A2 E.length d2] 71)])++((Y1++[(b8,.cells #[.slice A1 E.length d1] 71)])++L):=⟨_,rfl⟩
 have a9:∀y∈Y1,y∈R:=λy hy=>by rw[eR];exact Aa _ (Am _ (Am _ hy))
 replace O:Mem w w8 ((D2,.deferred (some []))::((Y2++[(b9,.cells #[.slice A2 E.length d2] 71)])++(D1,.deferred (some []))::((Y1++[(b8,.cells #[.slice A1 E.length d1] 71)])++L))):=O;replace O:Mem w w8 ((D2,.deferred (some []))::(D1,.deferred (some []))::R):=by rw[eR];exact(qdq w).perm O (List.Perm.cons _ Bm)
 refine LeaveV.marks (J:=λX w'=>Mem w w' (X++R)) ((qdq w).tail R) ?_ (D:=D2) (Ds:=[D1]) O;intro w' h';(conv=>whnf);obtain⟨A3,d3,e3,bo,ba⟩:=qf4 qhj ae (w:=w') (λy hy=>h'.get (Aa [] (a9 y hy)))
 injection e3 with bb _ bc
 subst bb bc;exact⟨⟨_,rfl,A1,d1,by rw[eE],by rw[<-eE];exact a4,by rw[<-eE];exact ba⟩,h'.ext⟩
theorem q05(pl:Int)(p:Q4)(qs:List Q4):(tasL pl p qs).length<=qs.length:=by
 rw[tasL]
 split
 ·refine A6 (qyb ordT _) ?_;rw[tatL,AC];exact qkm p qs
 ·exact An _
theorem qk2(T:List TM)(qs:List Q4)(h:EncOk T qs)(x pb vb tb:Nat)(p:Q4)(hp:qap p)(pl:Int)(m:Nat)(bd:m<=9223372036854775807)(w:Dd)(hX:IdxE w x pb vb tb (encP T qs))(hG:GlobS w):
  Gv Dp 19 [pp x,qw p,ii pl,ii m] w λr w'=>(∃v,r=.tuple #[v,.bool true]/\TmR ((tasL pl p qs).take m) v w')/\Ext w w':=by
 have bc:=h.set.len;have be:((Dp.info? 77).get Jk).bytes=232:=s20B;have av:((Dp.info? 45).get Jk).bytes=56:=by kernel_rfl
 obtain⟨M,eM⟩:∃M,M=tasL pl p qs:=⟨_,rfl⟩
 have bf:M.length<=qs.length:=by rw[eM];exact q05 pl p qs
 rw[<-eM];obtain⟨rows,aa⟩:∃rows:List Dn,rows=M.map encT:=⟨_,rfl⟩
 have aw:rows.length=M.length:=by rw[aa,AC]
 have ag:(M.map λt=>[qr t]).length=rows.length:=by rw[AC,aw]
 refine gvW Jk Tryz.func19 rfl Tryz.ntmps19 rfl (zw ?_);refine znm (Mem.nil w) λb4 w1 Z=>zw ?_;refine znm Z λbm w2 Z=>zw ?_;refine znm Z λb8 w3 Z=>zw ?_;refine znm Z λb9 w4 Z=>zw ?_;refine LoadA.mem (cs:=(qe p).toArray) Z (i:=3) rfl rfl (zw ?_);refine zcv (qvy x p pl w4) ?_;rintro r w5 ⟨c1,c2,c3,rfl,ah⟩;replace Z:=Z.glue ah;obtain⟨L,hL⟩:∃L:Dm,L=[(bm,.cells #[ii m] 3),(b4,.cells (qe p).toArray 47),(c3,.cells #[ii pl] 3),(c2,.cells (qe p).toArray 47),(c1,.cells #[pp x] 26)]:=⟨_,rfl⟩
 have ai:(c1,Obj.cells #[pp x] 26)∈L:=by rw[hL];simp
 have aj:(c2,Obj.cells (qe p).toArray 47)∈L:=by rw[hL];simp
 have ak:(c3,Obj.cells #[ii pl] 3)∈L:=by rw[hL];simp
 have al:(bm,Obj.cells #[ii m] 3)∈L:=by rw[hL];simp
 have ax:∀(N:Dm) (X:Dm) (w':Dd),Mem w w' (X++(N++L))->w'.heap[bm]?=some (.cells #[ii m] 3):=λN X w' hh=>hh.get (Aa _ (Aa _ al))
 have am:∀(N:Dm) (X:Dm) (w':Dd),Mem w w' (X++(N++L))->SteΦ x pb vb tb T qs p pl c1 c2 c3 w':=λN X w' hh=>⟨hX.ext hh.ext,hG.ext hh.ext,by rw[qa (hh.get (Aa _ (Aa _ ai)))];rfl,λj v hv=>by rw[qa (hh.get (Aa _ (Aa _ aj))),Aq,Az];exact hv,by rw[qa (hh.get (Aa _ (Aa _ ak)))];rfl⟩
 have ad:=qvz T qs h x pb vb tb p hp pl c1 c2 c3;rw[<-eM]at ad;have an:∀r∈(M.map λt=>[qr t]),r.length=1:=λr hr=>by
  obtain⟨j,_,rfl⟩:=AG.1 hr;rfl
 replace Z:Mem w w5 ([]++([]++[(b8,.cells #[.slice none 0 0] 28)])++([(b9,.cells #[.slice none 0 0] 28)]++L)):=by
  rw[hL];exact(qdq w).perm Z ((As (l₁:=[(c3,Obj.cells #[ii pl] 3),(c2,Obj.cells (qe p).toArray 47),(c1,Obj.cells #[pp x] 26),(b9,Obj.cells #[.slice none 0 0] 28)]) (l₂:=[_,_,_])).trans (List.Perm.cons _ (As (l₁:=[_,_,_,_,_]) (l₂:=[_]))))
 clear ah;(conv=>whnf);refine qku (b:=b8) (el:=45) (m:=m) (N:=[(b9,.cells #[.slice none 0 0] 28)]) 0 4 ad an am ag Z ?r1 ?b1
 case' b1=>
  obtain⟨lb,rfl⟩:∃lb,lb=b8:=⟨_,rfl⟩
  generalize[(b9,Obj.cells #[.slice none 0 0] 28)]=N
 case' r1=>
  rintro D1 w6 ⟨⟨v1,Y1⟩,ae,O⟩;dsimp only at ae O;obtain⟨N,eN⟩:∃N:Dm,N=(D1,.deferred (some []))::(Y1++[(b8,.cells #[v1] 28)]):=⟨_,rfl⟩
  replace Z:Mem w w6 ([]++([]++[(b9,.cells #[.slice none 0 0] 28)])++(N++L)):=(qdq w).perm (show Mem w w6 (N++(b9,.cells #[.slice none 0 0] 28)::L)by rw[eN];exact O) Bm;clear O;(conv=>whnf);refine qku (b:=b9) (el:=45) (m:=m) (N:=N) 2 4 ad an am ag Z ?r2 ?b2
 case' b2=>obtain⟨lb,rfl⟩:∃lb,lb=b9:=⟨_,rfl⟩
 case' b1|b2=>
  clear Z;rintro l2 D oa od k r X w6 hr O;rw[Ar]at hr;cases ab:M[k]? with
  | none=>rw[ab]at hr;cases hr
  | some i=>
  rw[ab,AU,AN]at hr;subst hr;have bg:=(Ad.1 ab).1;have cJ:Carr (λX w'=>Mem w w' (X++(N++L))):=(qdq w).tail _;have cS:=TkJ.carr cJ lb 28 45 4 rows m k;have ay:rows[k]?=some (encT i):=by rw[aa,Ar,ab];rfl
  (conv=>whnf);refine NewV.carr cS O λnb w7 O=>zw ?_;refine StoreA.carr (vs:=encT i) cS (A:=[]) O rfl (qab i) λw8 O=>zw ?_;refine⟨rfl,(nb,.cells (encT i).toArray 45)::(D,.deferred (some []))::X,cS.perm O (List.Perm.swap _ _ _),?_⟩;clear O;rintro w9 ⟨⟨v,Y⟩,⟨hR,az⟩,O⟩;dsimp only at hR O;obtain⟨Av,cv,ev⟩:=hR.slice;subst ev;have hg:=O.get (b:=lb) (o:=.cells #[.slice Av k cv] 28) Js;(conv=>whnf);refine LoadV.own hg rfl (zw ?_);refine LoadV.own (ax _ _ _ O) rfl (zw ?_)
  (repeat' refine zC (λ_=>zw ?_) (λ_=>zw ?_))
  case' refine_1=>exact⟨rfl,by omega,(.slice Av k cv,Y),⟨hR,az⟩,cJ.dropM (A:=[(l2,od)]) O⟩
  refine LoadV.own hg rfl (zw ?_);refine LoadA.own (O.get (b:=nb) (o:=.cells (encT i).toArray 45) Js) rfl (zw ?_);refine NewV.carr cJ O λub bh O=>zw ?_;refine AppV.box (news:=encT i) cJ O hR qv7 trmI trmZ Jk Jk Od rfl (qab i) (by rw[av];omega) ?_;clear O;intro A5 c5 Y5 bi a0 O;(conv=>whnf);refine StoreV.box cJ O λbj O=>zw ?_;exact⟨(.slice A5 (k+1) c5,Y5),⟨by rw[qmw ay];exact a0,by omega⟩,cJ.dropM (A:=[(l2,od)]) O⟩
 rintro D2 w7 ⟨⟨v2,Y2⟩,af,O⟩;dsimp only at af O;clear Z;obtain⟨E,eE⟩:∃E,E=M.take m:=⟨_,rfl⟩
 have ar:rows.take m=E.map encT:=by rw[aa,eE,<-C2]
 rw[ar]at ae af;have bk:E.length<=1048576:=by
  have:=Ae List.length ar;rw[A4,AC]at this;omega
 have a1:∀y∈Y1,w7.heap[y.1]?=some y.2:=λy hy=>O.get (Aa _ (Am _ (by rw[eN];exact zmc (Am _ hy))))
 have a2:∀y∈Y2,w7.heap[y.1]?=some y.2:=λy hy=>O.get (Am _ (Aa _ (Am _ hy)))
 obtain⟨A1,d1,rfl,a3,a4⟩:=qf4 qag ae a1;obtain⟨A2,d2,rfl,bl,a5⟩:=qf4 qag af a2;have au:w7.heap[b8]?=some (.cells #[.slice A1 E.length d1] 28):=O.get (Aa _ (Am _ (by rw[eN];simp)));have a6:w7.heap[b9]?=some (.cells #[.slice A2 E.length d2] 28):=O.get (Am _ Js);have ac:∀wd,Ext w7.drew wd->Ext w7 wd:=λwd hd=>(Ext.refl w7).drew.trans hd
 (conv=>whnf);refine DrawW.any Jk (.inl rfl) (AnyV.free Jk ?_);(conv=>whnf);refine zsd (.slice A1 E.length d1) (λwd hd=>zw ?_) (zw ?_)
 ·refine LoadV.own ((ac wd hd).get au) rfl (zw ?_);exact xq
 refine zsd (.slice A1 E.length d1) (λwd hd=>zw ?_) (zw ?_)
 ·refine LoadV.own ((ac wd hd).get au) rfl (zw ?_);exact xq
 refine zsd (.slice A2 E.length d2) (λwd hd=>zw ?_) (zw ?_)
 ·refine LoadV.own ((ac wd hd).get a6) rfl (zw ?_);exact xq
 refine zsd (.bool true) (λwd hd=>zw ?_) (zw ?_)
 ·refine zcv (qjg E A1 A2 d1 d2 wd (a4.ext (ac wd hd)) (a5.ext (ac wd hd)) Oo) ?_;rintro r wx ⟨rfl,hex⟩;exact⟨hex,rfl⟩
 refine zd ?_;refine zd ?_;intro w8 a7;replace O:=O.call (ac w8 a7);rw[eN]at O;(conv=>whnf);obtain⟨R,eR⟩:∃R:Dm,R=(Y2++[(b9,.cells #[.slice A2 E.length d2] 28)])++((Y1++[(b8,.cells #[.slice A1 E.length d1] 28)])++L):=⟨_,rfl⟩
 have a8:∀y∈Y1,y∈R:=λy hy=>by rw[eR];exact Aa _ (Am _ (Am _ hy))
 replace O:Mem w w8 ((D2,.deferred (some []))::((Y2++[(b9,.cells #[.slice A2 E.length d2] 28)])++(D1,.deferred (some []))::((Y1++[(b8,.cells #[.slice A1 E.length d1] 28)])++L))):=O;replace O:Mem w w8 ((D2,.deferred (some []))::(D1,.deferred (some []))::R):=by rw[eR];exact(qdq w).perm O (List.Perm.cons _ Bm)
 refine LeaveV.marks (J:=λX w'=>Mem w w' (X++R)) ((qdq w).tail R) ?_ (D:=D2) (Ds:=[D1]) O;intro w' h';(conv=>whnf);obtain⟨A3,d3,e3,bn,a9⟩:=qf4 qag ae (w:=w') (λy hy=>h'.get (Aa [] (a8 y hy)))
 injection e3 with ba _ bb
 subst ba bb;exact⟨⟨_,rfl,A1,d1,by rw[eE],by rw[<-eE];exact a3,by rw[<-eE];exact a9⟩,h'.ext⟩
structure AskE where
 kind:Int
 q:Q4
 pl:Int
 pre:De
 most:Int
namespace V
theorem qso{P:Df}{w:Dd}:∀{l:List (String×DataW Unit)} {ps:List MemPlace},DataW.LaidVars P w l ps->∀{n:String} {d:DataW Unit},(n,d)∈l->
  ∃g t O fuel p,P.globalNamed n=some g/\(P.globals[g]?).map (·.type)=some t/\w.var? P n=some O/\DataW.trod (λ_=>()) P w 0 (λ_=>true) false fuel t O.toList=some (d,p)
 | [],_,_,_,_,h=>by cases h
 | (n0,d0)::r,ps,h,n,d,Z=>by
  obtain⟨g,t,O,fuel,p,q,h1,h2,h3,h4,h5,_⟩:=h
  rcases Aw.1 Z with e|Z
  ·cases e;exact⟨g,t,O,fuel,p,h1,h2,h3,h4⟩
  ·exact qso h5 Z
theorem ql4{name:String}{k:IntKind}{zs:List Int}{l:List (String×DataW Unit)}{t:Dg}{n:Nat}(hg:P.globalNamed name=some g)(Z:(P.globals[g]?).map (·.type)=some t)(ht:P.underlying t=some (.array n e))(he:P.underlying e=some (.int k))(aa:P.cellsOf e=1)(ab:P.cellsOf t=n)(h:laidMet P l W)(hm:(name,Lib.tabData k zs)∈l):CellsAt W g 0 (zs.map λz=>Value.int k z):=by
 obtain⟨ps,h,_⟩:=h;obtain⟨g',t',cs,fuel,p,ac,ad,O,hd⟩:=qso h hm;obtain rfl:=Bg (hg.symm.trans ac);obtain rfl:=Bg (Z.symm.trans ad);have hT:Lib.TabIs P W name k zs:=by
  unfold Lib.TabIs;rw[O,<-Lib.cells_of_tab ht he aa ab hd]
 intro i v hv;have hi:i<zs.length:=by simpa using(Ad.1 hv).1
 have:=hT.cell hg i hi;rw[Aq,this];rw[Ar,zge hi]at hv;rw[Ag,zge hi]
 simpa using hv
end V
open Go.ChangeShapes Go.WideShapes Go.ChangeAt Go.RowKit
theorem own:ownKnob Dp.godebug=none:=by kernel_rfl
theorem q3h:laidOutB Dp=true:=by kernel_rfl
mutual
def q5w:DataW Unit->Dn
 | .lit (.int k n)=>[.int k n]
 | .agg l=>cellsDs l
 | _=>[]
def cellsDs:List (DataW Unit)->Dn
 | []=>[]
 | d::l=>q5w d++cellsDs l
end
def qabq(w:Dd)(x:Nat×DataW Unit):Dd:=
 { w with heap:=w.heap.modify x.1 fun
   | .cells _ t frozen=>.cells (q5w x.2).toArray t frozen
   | o=>o }
noncomputable def qabp(O:Os)(l:List (Nat×DataW Unit)):Dd:=l.foldl qabq (World.holding Dp O ⟨#[],#[],[]⟩)
open Go.ChangeShapes Go.WideShapes Go.ChangeAt Go.RowKit V
theorem qit:Dp.cellsOf 45=4:=by kernel_rfl
theorem qwy:Dp.cellsOf 47=16:=by kernel_rfl
theorem q7c:Dp.bytesOf 47=224:=by kernel_rfl
section
variable {H:Type} {enc:Dg×Di->H} {W:Dd}
theorem qme{c:Di}(h:Opn enc Dp W 9 [c]):∃s:De,c=.string s/\s.size<=140737488355328:=h.string Tryz.underlying9
theorem qf0{cs:Dn}(h:Opn enc Dp W 45 cs):∃t:TM,cs=encT t/\TermOk t:=by
 obtain⟨hl,hf⟩:=Opn.fields Tryz.underlying45 h;rw[qit]at hl
 match cs,hl with
 | [O,Z,c2,c3],_=>
  have g0:Opn enc Dp W 3 (([O,Z,c2,c3].drop 0).take (Dp.cellsOf 3)):=hf 0 _ rfl;rw[q2i]at g0;have g1:Opn enc Dp W 9 (([O,Z,c2,c3].drop 1).take (Dp.cellsOf 9)):=hf 1 _ rfl;rw[qli]at g1;have g2:Opn enc Dp W 9 (([O,Z,c2,c3].drop 2).take (Dp.cellsOf 9)):=hf 2 _ rfl;rw[qli]at g2;have g3:Opn enc Dp W 9 (([O,Z,c2,c3].drop 3).take (Dp.cellsOf 9)):=hf 3 _ rfl;rw[qli]at g3;obtain⟨n0,rfl,k0⟩:=Opn.int (c:=O) Tryz.underlying3 g0;obtain⟨n1,rfl,k1⟩:=qme (c:=Z) g1;obtain⟨n2,rfl,k2⟩:=qme (c:=c2) g2;obtain⟨n3,rfl,k3⟩:=qme (c:=c3) g3;exact⟨⟨n0,n1,n2,n3⟩,rfl,⟨q55 k0,k1,k2,k3⟩⟩
theorem qn7{O:Dn}(h:Opn enc Dp W 47 O):∃q:Q4,O=qe q/\qap q:=by
 obtain⟨hl,hf⟩:=Opn.fields Tryz.underlying47 h;rw[qwy]at hl
 match O,hl with
 | [Z,a1,a2,a3,b0,b1,b2,b3,c0,c1,c2,c3,d0,d1,d2,d3],_=>
  have g0:Opn enc Dp W 45 (([Z,a1,a2,a3,b0,b1,b2,b3,c0,c1,c2,c3,d0,d1,d2,d3].drop 0).take (Dp.cellsOf 45)):=hf 0 _ rfl;rw[qit]at g0;have g1:Opn enc Dp W 45 (([Z,a1,a2,a3,b0,b1,b2,b3,c0,c1,c2,c3,d0,d1,d2,d3].drop 4).take (Dp.cellsOf 45)):=hf 1 _ rfl;rw[qit]at g1;have g2:Opn enc Dp W 45 (([Z,a1,a2,a3,b0,b1,b2,b3,c0,c1,c2,c3,d0,d1,d2,d3].drop 8).take (Dp.cellsOf 45)):=hf 2 _ rfl;rw[qit]at g2;have g3:Opn enc Dp W 45 (([Z,a1,a2,a3,b0,b1,b2,b3,c0,c1,c2,c3,d0,d1,d2,d3].drop 12).take (Dp.cellsOf 45)):=hf 3 _ rfl;rw[qit]at g3;obtain⟨t0,e0,k0⟩:=qf0 (cs:=[Z,a1,a2,a3]) g0;obtain⟨t1,e1,k1⟩:=qf0 (cs:=[b0,b1,b2,b3]) g1;obtain⟨t2,e2,k2⟩:=qf0 (cs:=[c0,c1,c2,c3]) g2;obtain⟨t3,e3,k3⟩:=qf0 (cs:=[d0,d1,d2,d3]) g3;simp only[encT,List.cons.injEq]at e0 e1 e2 e3;obtain⟨rfl,rfl,rfl,rfl,_⟩:=e0;obtain⟨rfl,rfl,rfl,rfl,_⟩:=e1;obtain⟨rfl,rfl,rfl,rfl,_⟩:=e2;obtain⟨rfl,rfl,rfl,rfl,_⟩:=e3;refine⟨⟨t0,t1,t2,t3⟩,rfl,λk=>?_⟩
  match k with
  | 0=>exact k0
  | 1=>exact k1
  | 2=>exact k2
  | k+3=>exact k3
noncomputable instance:Inhabited Q4:=⟨zQ⟩
theorem qu1{c:Di}(h:Opn enc Dp W 22 [c]):
  ∃(A:oA) (O:Nat) (l:List Q4),c=.slice A l.length O/\l.length<=140737488355328/\(∀q∈l,qap q)/\SlAt qe 16 W A l:=by
 obtain⟨A,O,l,h1,h2,h3,h4,h5⟩:=h.sliceR (en:=qe) (R:=qap) (size:=16) Tryz.underlying22 qwy Od qoe (λcs hc=>qn7 hc);rw[q7c]at h3;exact⟨A,O,l,h1,by omega,h4,h5⟩
noncomputable instance:Inhabited AskE:=⟨⟨0,zQ,0,⟨#[]⟩,0⟩⟩
end
theorem q8f(h:W.ShapedOpen Dp):MaxLenAt W:=
 cell_of_shapedOpen_int (zero:=#[ii 0]) (t:=3) (k:=.i64) h (BC Jk) Jk rfl Jk Jk Tryz.underlying3
def tabs:List (String×DataW Unit):=[("unicode/utf8.acceptRanges",Rows.laid_unicode_utf8_acceptRanges),("tessera/sums.nibbles",Rows.laid_tessera_sums_nibbles),("tessera/names.basesTable",Rows.laid_tessera_names_basesTable),("tessera/vocab.kinds",Rows.laid_tessera_vocab_kinds),("unicode/utf8.first",Rows.laid_unicode_utf8_first)]
def q76:List (String×DataW Unit):=[("unicode/utf8.acceptRanges",Rows.laid_unicode_utf8_acceptRanges),("errors.errorType",Rows.laid_errors_errorType),("tessera/sums.nibbles",Rows.laid_tessera_sums_nibbles),("tessera/names.basesTable",Rows.laid_tessera_names_basesTable),("tessera/vocab.kinds",Rows.laid_tessera_vocab_kinds),("unicode/utf8.first",Rows.laid_unicode_utf8_first)]
theorem qabo(h:laidMetH Dp q76 W):laidMet Dp tabs W/\handlesMet Dp [("errors.errorType",Rows.laid_errors_errorType)] W:=h
theorem qaco(h:laidMet Dp tabs W):CellsAt W 4 0 qa3:=
 ql4 (name:= "tessera/names.basesTable") (k:=.i32) (zs:=[192,214,216,246,248,767,880,893,895,8191,8204,8205,8304,8591,11264,12271,12289,55295,63744,64975,65008,65533,65536,983039]) (l:=tabs) (g:=4) (t:=480) (e:=21) (n:=24)
  Jk Jk Tryz.underlying480 Tryz.underlying21 Jk Jk h (zmc (zmc mh))
theorem q3s(h:laidMet Dp tabs W):CellsAt W 3 0 qg4:=
 ql4 (name:= "tessera/sums.nibbles") (k:=.u32) (zs:=nibs.map λn:Nat=>(n:Int)) (l:=tabs) (g:=3) (t:=446) (e:=179) (n:=16)
  Jk Jk Tryz.underlying446 Tryz.underlying179 Jk Jk h (zmc mh)
theorem qabl(h:laidMet Dp tabs W):qio W:=
 ql4 (name:= "tessera/vocab.kinds") (k:=.i64) (zs:=[1,2,3]) (l:=tabs) (g:=2) (t:=113) (e:=3) (n:=3)
  Jk Jk Tryz.underlying113 Tryz.underlying3 Jk Jk h (zmc (zmc (zmc mh)))
theorem etL:Dp.globalNamed "errors.errorType" = some 0:=by kernel_rfl
theorem rtL:(Dp.cutTypes.find? (·.1== "internal/reflectlite.rtype")).map (·.2)=some 314:=by kernel_rfl
theorem q8s:((List.range Dp.types.size).filter λt=>Dp.rowNamed t [101,114,114,111,114])=[38]:=by kernel_rfl
theorem q7t(h:handlesMet Dp [("errors.errorType",Rows.laid_errors_errorType)] W):ErrTyp W:=by
 obtain⟨name,u,ty,e1,e2,e3,e4,Z⟩:=h _ (Ac.2 rfl);have en:name=[101,114,114,111,114]:=(Bg e1).symm;subst en;obtain rfl:=Bg (rtL.symm.trans e2);have hm:ty∈(List.range Dp.types.size).filter λt=>Dp.rowNamed t [101,114,114,111,114]:=Bo.2 ⟨B7.2 e3,e4⟩
 rw[q8s]at hm;obtain rfl:=Ac.1 hm;have hh:typeHandle Dp 38=.pointer (some ⟨7,38,none⟩):=by kernel_rfl
 rw[hh]at Z;have hc:=World.var?_cell etL Z 0;unfold ErrTyp
 simpa using hc
structure GlobM(w:Dd):Prop where
 S:GlobS w
 N:CellsAt w 3 0 qg4
 G:ErrTyp w
theorem q70(h:laidMetH Dp q76 W)(Z:W.ShapedOpen Dp):GlobM W:=
 have O:=qabo h
 ⟨⟨q8f Z,qaco O.1,qabl O.1⟩,q3s O.1,q7t O.2⟩
noncomputable def witP(Z:Os):Dd:=
 let w0:=qabp Z [(6,Rows.laid_unicode_utf8_acceptRanges),(3,Rows.laid_tessera_sums_nibbles),(4,Rows.laid_tessera_names_basesTable),(2,Rows.laid_tessera_vocab_kinds),(5,Rows.laid_unicode_utf8_first)]
 { w0 with heap:=w0.heap.modify 0 fun
   | .cells _ t frozen=>.cells #[.iface 314 (.agg #[.pointer (some ⟨7,38,none⟩)])] t frozen
   | o=>o }
theorem qpy{c:OpenClaim}(Z:c.start=.entering)(h:P.funcs.any Func.goes=false):false=c.goesBy P:=by
 have O:∀g:FuncId,(P.funcs[g]?).any Func.goes=false:=λg=>by
  cases e:P.funcs[g]? with
  | none=>rfl
  | some fn=>
   rw[Array.any_eq_false]at h;obtain⟨O,rfl⟩:=BO.1 e
   simpa using h g O
 have hf:∀f,P.goes f=false:=λf=>by
  rw[Program.goes,h,Bool.and_false,Bool.or_false,List.any_eq_false];intro g _;rw[O g];exact Bool.false_ne_true
 rw[OpenClaim.goesBy,Z,Program.goesAt,Program.goesFrom,Bool.or_false];cases P.funcNamed c.func with
 | none=>rfl
 | some f=>exact(hf f).symm
theorem qabw:Dp.funcs.any Func.goes=false:=by kernel_rfl
theorem andT{a b:Bool}(h:a=true)(k:b=true):(a&&b)=true:=by rw[h,k];rfl
structure Turn(l l':LB)(f B:Nat):Prop where
 len:l'.length=l.length
 bit:∀t,t<8*l.length->bitN l' t=(bitN l t+(if f<=t/\t<f+32 then B/2 ^ (t-f)%2 else 0))%2
section
variable {l l':LB} {f B:Nat} (h:Turn l l' f B)
include h
end
theorem EncOk.packE{T:List TM}{qs:List Q4}(h:EncOk T qs):(packE (encP T qs)).2=0:=by
 have O:=h.poE;obtain⟨Z,_,_,_,h5,_⟩:=qta (l:=encP T qs) (by rw[O]);rw[Go.Proofs.YtccmcfpmknpccaaGreatDoor.packE,Ab (λg=>g Z),h.v,Ab (λg=>g h.voc.wE),Ab (λg=>g (qty h5).1)]
def okI(t:TM):Bool:=decide (t.kind=1)&&(seq t.type ⟨#[]⟩&&(seq t.lang ⟨#[]⟩&&decide (iriE t.text=0)))
theorem q8q{t:TM}(h:okI t=true):t.kind=1/\qa2 t=0:=by
 simp only[okI,AB,decide_eq_true_eq]at h;obtain⟨O,Z,h3,h4⟩:=h;refine⟨O,?_⟩;rw[qa2,Af (.inl O),Ab (by rw[Z,h3];simp),Af O,h4]
def okQd(q:Q4):Bool:=okI q.s&&(okI q.p&&(okI q.o&&qwc q.g))
theorem q1x{t:TM}(h:qwc t=true):t.kind=0:=by
 have e:qx t ⟨0,⟨#[]⟩,⟨#[]⟩,⟨#[]⟩⟩=true:=h;rw[ql.1 e]
theorem qab1{q:Q4}(h:okQd q=true):qbw q=0:=by
 simp only[okQd,AB]at h;obtain⟨Z,h2,h3,O⟩:=h;obtain⟨k1,e1⟩:=q8q Z;obtain⟨k2,e2⟩:=q8q h2;obtain⟨k3,e3⟩:=q8q h3;have q0:qE 0 q.s=0:=by rw[qE,Ab (by rw[canB,Af rfl,k1];decide),Ab Oo,e1]
 have q1:qE 1 q.p=0:=by rw[qE,Ab (by rw[canB,Ab Od,Af rfl,k2];decide),Ab Oo,e2]
 have q2:qE 2 q.o=0:=by rw[qE,Ab (by rw[canB,Ab Od,Ab Od,Af rfl,k3];decide),Ab Oo,e3]
 have q3:qE 3 q.g=0:=by
  rw[qE,Ab (by rw[canB,Ab Od,Ab Od,Ab Od,O];simp),Af ⟨rfl,q1x O⟩]
 rw[q4d,q0,q1,q2,q3];rfl
def okQs(qs:List Q4):Bool:=qs.all okQd&&((List.range (qs.length-1)).all λi=>decide (cmpQ (qs.getD i zQ) (qs.getD (i+1) zQ)<0))
theorem qab2(hl:qs.length<=1048576)(h:okQs qs=true):valE qs=0:=by
 simp only[okQs,AB,BU,decide_eq_true_eq,B7]at h;obtain⟨O,Z⟩:=h;have hf:qcf (qs.map qbw)=0:=by
  clear Z hl
  induction qs with
  | nil=>rfl
  | cons q qs ih=>
   rw[AF,qcf,Ab (λg=>g (qab1 (O q mh)))];exact ih λx hx=>O x (zmc hx)
 rw[valE,Ab Oo,Ab (λg=>g hf),Af];intro i hi a b ha hb;have:=Z i Oo;rw[Ag,Ag,ha,hb]at this;exact qpk.1 this
def okL(L:List LB):Bool:=decide (L.length<=4194304)&&(L.all (λt=>decide (t.length<=262144))&&((List.range (L.length-1)).all (λi => !leL (tx L (i+1)) (tx L i))&&decide ((qaj L).length<=67108864)))
theorem q8r{L:List LB}(h:okL L=true):dicE L=0:=by
 simp only[okL,AB,BU,decide_eq_true_eq,B7,Ct]at h;obtain⟨h1,Z,h3,h4⟩:=h;rw[dicE,Ab,Ab,Ab Oo]
 ·rintro⟨i,O,e⟩;have:=h3 i Oo;rw[e]at this;cases this
 ·rintro(g|⟨i,g⟩)
  ·omega
  ·by_cases O:i<L.length
   ·have:=Z (tx L i) (by rw[tx,Ag,zge O];exact AP O);omega
   ·rw[tx,Ag,AS Oo]at g;simp at g
theorem q7q{O:Int}(Z:qs.length<=1048576)(h:okQs qs=true)(h0:okL (secE (tmsQ qs) 0)=true)(h1:okL (secE (tmsQ qs) 1)=true)(h2:okL (secE (tmsQ qs) 2)=true)(hs:(pkB qs).length<=67108864)(hm:((pkB qs).length:Int)<=O):encE qs O=0:=by
 refine qps (qab2 Z h) (qt3 λk hk=>?_) Oo
 match k,hk with
 | 0,_=>exact q8r h0
 | 1,_=>exact q8r h1
 | 2,_=>exact q8r h2
def tmI(l:LB):TM:=⟨1,⟨l.toArray⟩,⟨#[]⟩,⟨#[]⟩⟩
def lW20:List Q4:=[⟨tmI [97,58,115],tmI [97,58,112],tmI [97,58,111],zTM⟩,⟨tmI [97,58,115],tmI [97,58,113],tmI [97,58,111],zTM⟩,⟨tmI [97,58,116],tmI [97,58,112],tmI [97,58,111],zTM⟩]
theorem q3f:encE lW20 67108864=0:=
 have O:decide ((pkB lW20).length<=67108864)=true:=by kernel_rfl
 q7q Od Jk Jk Jk Jk (BC O) (by have:=BC O;omega)
def qh2:TM:=⟨4,⟨#[]⟩,⟨#[]⟩,⟨#[]⟩⟩
def allQ:Q4:=⟨qh2,qh2,qh2,qh2⟩
theorem q3e:qal allQ lW20=[0,1,2]:=by kernel_rfl
theorem qabm:qal ⟨qh2,tmI [97,58,112],qh2,qh2⟩ lW20=[0,2]:=by kernel_rfl
theorem qsn{s:De}(h:iriE s=0):s.size<=65536:=by
 grind [iriE,refE]
theorem qxn{t:TM}(h:qa2 t=0):(qae t).length<=262144:=by
 have hd:∀s:De,s.data.toList.length=s.size:=λs=>rfl
 unfold qa2 at h
 by_cases Z:t.kind=1\/t.kind=2
 ·grind [qae,qsn]
 ·rw[Ab Z]at h
  by_cases h3:t.kind=3
  case neg=>simp_all
  rw[Af h3]at h;have he:(qae t).length=(escL t.text.data.toList).length+(2+(t.type.size+(1+t.lang.size))):=by
   grind [qae]
  have aa:=qsg t.text.data.toList;rw[hd]at aa;unfold litE at h
  by_cases c1:65536<t.text.size
  ·simp_all
  rw[Ab c1]at h
  by_cases c2:scal t.text.data.toList=none
  ·simp_all
  rw[Ab c2]at h
  by_cases c3:iriE t.type≠0
  ·simp_all
  rw[Ab c3]at h;have ab:=qsn (s:=t.type) Oo
  by_cases c4:seq t.lang ⟨#[]⟩=false/\65536<t.lang.size
  ·simp_all
  rw[Ab c4]at h
  by_cases c5:seq t.lang ⟨#[]⟩=false/\(tagE (qcq t.lang)≠0\/seq (lowS t.lang) t.lang=false)
  ·simp_all
  rw[Ab c5]at h
  by_cases O:(!seq t.lang ⟨#[]⟩)≠seq t.type qhz
  ·simp_all
  have O:(!seq t.lang ⟨#[]⟩)=seq t.type qhz:=Ck.1 O;cases hl:seq t.lang ⟨#[]⟩
  ·rw[hl]at O;have e:=qa6.1 O.symm;have:t.type.size=53:=by rw[e];rfl
   grind
  grind [qa6]
section
variable {T:List TM} (hr:RiseT T) (hn:T.length<=4194304) (ht:∀t∈T,qa2 t=0)
include hr hn ht
theorem q2q(k:Nat):dicE (secE T k)=0\/dicE (secE T k)=1:=by
 have Z:∀i,i<(secE T k).length->∃t,(ofK T k)[i]?=some t/\tx (secE T k) i=qae t/\t∈T/\t.kind=((k+1:Nat):Int):=λi O=>by
  rw[qbq,AC]at O;have h1:(ofK T k)[i]?=some (ofK T k)[i]:=zge O;refine⟨_,h1,?_,(Bo.1 (AP O)).1,qfz (AP O)⟩
  grind [tx,qbq]
 have hl:(secE T k).length<=4194304:=by
  rw[qbq,AC];exact A6 (List.length_filter_le _ _) hn
 have h2:∀i,¬262144<(tx (secE T k) i).length:=λi=>by
  grind [qxn,tx]
 have h3:∀i,i+1<(secE T k).length->leL (tx (secE T k) (i+1)) (tx (secE T k) i)=false:=λi O=>by
  obtain⟨a,a1,a2,a3,a4⟩:=Z i Oo;obtain⟨b,b1,b2,b3,b4⟩:=Z (i+1) O;have aa:=qlq (ht a a3) (ht b b3) (by rw[a4,b4]) ((qig hr k).at (Ca i) a1 b1)
  grind [leL,qc4,qa6]
 by_cases h4:67108864<(qaj (secE T k)).length
 ·grind [qxc]
 ·exact .inl (q7o ⟨hl,λi=>by simp_all,h3,by omega⟩)
theorem q1p:qc5 T=0\/qc5 T=1:=by
 grind [q2q,qc5]
end
theorem q2y{O:Int}(h:valE qs=0)(hn:(tmsQ qs).length<=4194304):encE qs O=0\/encE qs O=1:=by
 grind [q1p,qd9,qda,qic,qps,qse]
def tmN(s:De):TM:=⟨1,s,⟨#[]⟩,⟨#[]⟩⟩
theorem qi6(s:De)(w:Dd):Gv Dp 53 [.string s] w λr w'=>r=qr (tmN s)/\Ext w w':=by
 refine ze Tryz.func53 Tryz.ntmps53 ?_;refine znm (Mem.nil w) λb Z O=>zw ?_;refine zS O 0 λw2 O=>zw ?_;refine qk (R:=λr w'=>r=qr (tmN s)/\Ext w w') (zw ?_);refine zl O 0 ?_;exact⟨rfl,O.ext⟩
theorem qb7(w:Dd):Gv Dp 71 [] w λr w'=>r=qr qh2/\Ext w w':=by
 refine ze Tryz.func71 Tryz.ntmps71 ?_;refine znm (Mem.nil w) λb Z O=>zw ?_;refine zS O 0 λw2 O=>zw ?_;refine qk (R:=λr w'=>r=qr qh2/\Ext w w') (zw ?_);refine zl O 0 ?_;exact⟨rfl,O.ext⟩
theorem qip(w:Dd):Gv Dp 54 [] w λr w'=>r=qw allQ/\Ext w w':=by
 refine ze Tryz.func54 Tryz.ntmps54 ?_;refine znm (Mem.nil w) λb w1 O=>zw ?_;refine zcv (qb7 w1) ?_;rintro r w2 ⟨rfl,Z⟩;replace O:=O.call Z;(conv=>whnf);refine zcv (qb7 w2) ?_;rintro r w3 ⟨rfl,Z⟩;replace O:=O.call Z;(conv=>whnf);refine zcv (qb7 w3) ?_;rintro r w4 ⟨rfl,Z⟩;replace O:=O.call Z;(conv=>whnf);refine zcv (qb7 w4) ?_;rintro r w5 ⟨rfl,Z⟩;replace O:=O.call Z;(conv=>whnf);refine zS O 0 λw6 O=>zw ?_;refine qk (R:=λr w'=>r=qw allQ/\Ext w w') (zw ?_);refine zl O 0 ?_;exact⟨rfl,O.ext⟩
theorem qvv(h:EncOk T qs)(l:LB)(el:encP T qs=l)(A:oA)(c:Nat)(w:Dd)(hS:SlAt encB 1 w A l)(hc:l.length<=c)(hl:l.length<=140737488355328)(hT:CellsAt w 3 0 qg4):
  Gv Dp 11 [.slice A l.length c] w λv w'=>∃x pb vb tb,v=.tuple #[pp x,.nilIface]/\IdxE w' x pb vb tb l/\Ext w w':=by
 have O:=h.packE;have Z:=h.poE;rw[el]at O Z;refine ze Tryz.func11 Tryz.ntmps11 ?_;refine zcv (q4c l A c w hS hc hl hT O (λk h1 h2=>(qju (qta (by rw[Z])).2.2.2.2.1 k h1 Oo).tvec)) ?_;rintro v w1 ⟨⟨b,rfl,vb,tb,aa,ab,ac⟩,ad⟩;refine zu ?_;refine znm (Mem.nil w1) ?_;intro x w2 hm;have hx:=hm.get mh;exact⟨x,b,vb,tb,rfl,⟨by rw[qa hx];rfl,hm.ext.get aa,ab.ext hm.ext,ac.ext hm.ext⟩,ad.trans hm.ext⟩
def IxR(qs:List Q4)(r:Di)(w:Dd):Prop:=
 (encE qs 67108864≠0/\r=.tuple #[.pointer none,.bool true])\/(EncOk (tmsQ qs) qs/\∃x O Z tb,r=.tuple #[pp x,.bool true]/\IdxE w x O Z tb (encP (tmsQ qs) qs))
theorem qft(qs:List Q4)(A:oA)(n c:Nat)(w:Dd)(hS:SlAt qe 16 w A qs)(hn:qs.length=n)(hb:n<=140737488355328)(hq:∀q∈qs,qap q)(hG:GlobS w)(Z:CellsAt w 3 0 qg4)(hE:ErrTyp w):
  Gv Dp 18 [.slice A n c] w λr w'=>IxR qs r w'/\Ext w w':=by
 refine ze Tryz.func18 Tryz.ntmps18 ?_;refine zcv (qui qs A n c 67108864 w hS hn hb ⟨by decide,by decide⟩ hq hG.M hG.T Z hE) ?_;rintro r w1 (⟨h0,rfl,O⟩|⟨h0,v,rfl,hN⟩)
 ·have he:encE qs 67108864=valE qs\/valE qs=0/\encE qs 67108864=1:=by
   by_cases hv:valE qs=0
   ·exact .inr ⟨hv,(q2y hv (qmx hv)).resolve_left h0⟩
   ·exact .inl (qsd hv)
  have hR:IxR qs (.tuple #[.pointer none,.bool true]) w1:=.inl ⟨h0,rfl⟩;obtain⟨e,ee⟩:∃e,e=encE qs 67108864:=⟨_,rfl⟩
  obtain⟨f,ef⟩:∃f,f=valE qs:=⟨_,rfl⟩
  rw[<-ee]at h0 he|-;rw[<-ef]at he;refine zu ?_;refine zcv (qpc qs A n c w1 (hS.ext O) hn hb hq (hG.ext O).M (hG.ext O).T) ?_;rintro r w2 ⟨⟨i,rfl⟩,aa⟩;rw[<-ef];(conv=>whnf);refine zC (λ_=>zu ?_) (λ_=>zu ?_)
  all_goals refine⟨.inl ⟨by rw[<-ee];exact h0,?_⟩,O.trans aa⟩
  all_goals first|rfl|rw[AI (show(e:Int)=1 by omega)]
 have ab:=q2x (qmx (qiy h0).1) h0;have af:=(qiy h0).2.2.2;have ac:=ab.pk;obtain⟨l,el⟩:∃l,l=pkB qs:=⟨_,rfl⟩
 obtain⟨B,d,rfl,ad,ae⟩:=hN.bs;rw[<-el]at ac af ad ae|-;have O:=hN.ext;refine zu ?_;refine zcv (qvv ab l ac B d w1 ae ad Oo (CellsAt.ext Z O)) ?_;rintro v w2 ⟨x,pb,vb,tb,rfl,hI,aa⟩;(conv=>whnf);refine zy ?_;refine zv ?_;exact⟨.inr ⟨ab,x,pb,vb,tb,rfl,by rw[ac];exact hI.ext xr.drew⟩,(O.trans aa).trans xr.drew⟩
theorem q4q{α:Type}{enc:α->Dn}{O:Nat}(Z:∀x,(enc x).length=O){l:List α}(h:w.heap[b]?=some (.cells ((l.map enc).flatten).toArray e fr)):SlAt enc O w (some ⟨b,0,none⟩) l:=
 ⟨λ_=>⟨b,0,rfl,λj x hx k v hv=>by
  have h7:=qbv enc O Z l j x k hx (by rw[<-Z x];exact(Ad.1 hv).1);rw[hv]at h7;rw[qa h,Aq]
  simpa using h7⟩⟩
theorem qym:∀q∈lW20,qap q:=λq O=>by
 simp only[lW20,Aw,BH,or_false]at O
 rcases O with rfl|rfl|rfl<;>intro k<;>unfold Q4.at<;>split<;>exact⟨⟨by decide,by decide⟩,by decide,by decide,by decide⟩
theorem qwk:qap allQ:=by
 intro k;unfold allQ Q4.at
 split<;>exact⟨⟨by decide,by decide⟩,by decide,by decide,by decide⟩
structure GlobO(w:Dd):Prop where
 S:GlobS w
 N:CellsAt w 3 0 qg4
 E:ErrTyp w
theorem GlobO.ext(h:GlobO w)(O:Ext w w'):GlobO w':=⟨h.S.ext O,CellsAt.ext h.N O,h.E.ext O⟩
def pW20:Q4:=⟨qh2,tmI [97,58,112],qh2,qh2⟩
theorem qzs:qap pW20:=by
 intro k;unfold pW20 Q4.at
 split<;>exact⟨⟨by decide,by decide⟩,by decide,by decide,by decide⟩
theorem tW20:(tasL 0 pW20 lW20).take 9=[tmI [97,58,115],tmI [97,58,116]]:=by kernel_rfl
theorem bW20:(begL 0 ⟨#[97,58,116]⟩ allQ lW20).take 9=[2]:=by kernel_rfl
theorem qri(w:Dd)(hG:GlobO w):
  Gv Dp 17 [] w λr w'=>r=.bool true/\Ext w w':=by
 have ad:tsz Dp 47=16:=by kernel_rfl
 have b4:tsz Dp 45=4:=by kernel_rfl
 have ae:tsz Dp 77=17:=by kernel_rfl
 refine ze Tryz.func17 Tryz.ntmps17 ?_;have he:=Ext.refl w
 iterate 9
  (refine zcv (qi6 _ _) ?_;rintro r w1 ⟨rfl,e1⟩;replace he:=he.trans e1;clear e1;(conv=>whnf))
 refine znm (Mem.nil _) ?_;intro lb w2 Z;replace Z:Mem w1 w2 [(lb,.cells ((lW20.map qe).flatten).toArray 47)]:=Z;have hS:=q4q (enc:=qe) qoe (Z.get mh);replace he:=he.trans Z.ext;clear Z;obtain⟨g,ar,hA,hc⟩:=hS.at_ (by simp[lW20]);cases hA;(conv=>whnf);refine zcv (qft lW20 (some ⟨lb,0,none⟩) 3 3 w2 hS rfl Od qym (hG.ext he).S (hG.ext he).N (hG.ext he).E) ?_;rintro r w3 ⟨⟨h0,_⟩|⟨aa,x,pb,vb,tb,rfl,hX⟩,O⟩
 ·exact absurd q3f h0
 replace he:=he.trans O;refine zu ?_;refine zcv (q4r _ x pb vb tb w3 hX) ?_;rintro r w4 ⟨rfl,ac⟩;replace he:=he.trans ac;replace O:=O.trans ac;rw[aa.n,show((lW20.length:Nat):Int)=3 from rfl];refine zu ?_;refine⟨⟨lb,0,1,rfl,by omega,by omega,?_⟩⟩;rw[ad];refine zu ?_;refine LoadA.cells ((hc 1 _ rfl).ext O) rfl (zu ?_);refine zcv (q4o _ lW20 aa x pb vb tb _ (qym _ (zmc mh)) w4 (hX.ext ac) (hG.ext he).S) ?_;rintro r w5 ⟨⟨b,rfl,hb⟩,af⟩;obtain rfl:b=true:=hb.2 (zmc mh);replace he:=he.trans af;replace O:=O.trans af;replace hX:=hX.ext (ac.trans af);refine zu ?_;refine zcv (qip w5) ?_;rintro r w6 ⟨rfl,ag⟩;replace he:=he.trans ag;replace O:=O.trans ag;replace hX:=hX.ext ag;refine zu ?_;refine zcv (qhb _ lW20 aa x pb vb tb allQ qwk w6 hX (hG.ext he).S) ?_;rintro r w7 ⟨rfl,ah⟩;replace he:=he.trans ah;replace O:=O.trans ah;replace hX:=hX.ext ah;rw[q3e,show((([0,1,2]:Do).length:Nat):Int)=3 from rfl];refine zu ?_;refine zcv (qip w7) ?_;rintro r w8 ⟨rfl,ai⟩;replace he:=he.trans ai;replace O:=O.trans ai;replace hX:=hX.ext ai;(conv=>whnf);refine znm (Mem.nil w8) λqb w9 Z=>zw ?_;refine StoreA.all Z (i:=0) rfl rfl (qa8 allQ) λal Z=>zw ?_;refine zcv (qi6 _ al) ?_;rintro r au ⟨rfl,e1⟩;replace Z:=Z.call e1;(conv=>whnf);refine StoreA.mem Z (i:=0) rfl Od (by simp[Value.oneCell']) ?_;intro ak Z;replace Z:Mem w8 ak [(qb,.cells (qe pW20).toArray 47)]:=Z;have av:=O.trans Z.ext;(conv=>whnf);refine zl Z 0 ?_;refine zcv (qp8 _ lW20 aa x pb vb tb pW20 qzs 9 Od ak (hX.ext Z.ext) ((hG.ext he).ext Z.ext).S) ?_;rintro r am ⟨⟨v,rfl,hM⟩,e2⟩;rw[show(qal pW20 lW20).take 9=[0,2]by rw[show qal pW20 lW20=[0,2]from qabm];rfl]at hM;replace Z:=Z.call e2;obtain⟨B1,d1,rfl,_,h1⟩:=hM;rw[show(snL lW20 [0,2]).length=2 from rfl];obtain⟨g1,o1,rfl,k1⟩:=h1.at_ (by simp[snL]);(conv=>whnf);refine zl Z 0 ?_;refine zcv (qk2 _ lW20 aa x pb vb tb pW20 qzs 0 9 Od am (hX.ext Z.ext) ((hG.ext he).ext Z.ext).S) ?_;rintro r an ⟨⟨v,rfl,hM⟩,e3⟩;rw[tW20]at hM;replace Z:=Z.call e3;obtain⟨B2,d2,rfl,_,h2⟩:=hM;rw[show[tmI [97,58,115],tmI [97,58,116]].length=2 from rfl];obtain⟨g2,o2,rfl,k2⟩:=h2.at_ Js;(conv=>whnf);refine zcv (qip an) ?_;rintro r ao ⟨rfl,e4⟩;replace Z:=Z.call e4;(conv=>whnf);refine zcv (qwo _ lW20 aa x pb vb tb allQ qwk 0 ⟨#[97,58,116]⟩ 9 Od ao (hX.ext Z.ext) ((hG.ext he).ext Z.ext).S) ?_;rintro r ab ⟨⟨v,rfl,hM⟩,e5⟩;rw[bW20]at hM;have aj:=Z.ext.trans e5;obtain⟨B3,d3,rfl,_,h3⟩:=hM;rw[show(snL lW20 [2]).length=1 from rfl];obtain⟨g3,o3,rfl,k3⟩:=h3.at_ (by simp[snL]);(conv=>whnf);refine zy ?_;have hd:Ext ab ab.drew:=xr.drew;have c1:CellsAt ab.drew g1 (o1+1*17) (snQ ((2:Int),lW20.getD 2 zQ)):=((k1 1 _ rfl).ext (((e3.trans e4).trans e5).trans hd))
 have c2:=((k2 0 _ rfl).ext ((e4.trans e5).trans hd))
 have c3:CellsAt ab.drew g3 (o3+0*17) (snQ ((2:Int),lW20.getD 2 zQ)):=((k3 0 _ rfl).ext hd)
 have c4:=((hc 2 _ rfl).ext ((O.trans aj).trans hd))
 have c5:=((hc 0 _ rfl).ext ((O.trans aj).trans hd))
 have aq:CellsAt ab.drew lb (0+0*16) (encT (tmI [97,58,115])):=λk v hv=>c5 k v (by rw[qe,Bb (Ad.1 hv).1];exact hv)
 refine zv ?_;refine⟨⟨g1,o1,1,rfl,by omega,by decide,?_⟩⟩;rw[ae];refine zu ?_;refine LoadV.of (c1 0 _ rfl) (zu ?_);refine⟨⟨g1,o1,1,rfl,by omega,by decide,?_⟩⟩;rw[ae];refine zu ?_;refine LoadA.cells (qadh c1) rfl (zu ?_);refine⟨⟨lb,0,2,rfl,by omega,by decide,?_⟩⟩;rw[ad];refine zu ?_;refine LoadA.cells c4 rfl (zu ?_);refine RunV.eqQd (a:=lW20.getD 2 zQ) (b:=lW20.getD 2 zQ) ?_;rw[show qcs (lW20.getD 2 zQ) (lW20.getD 2 zQ)=true from by kernel_rfl];refine zu ?_;refine⟨⟨g2,o2,0,rfl,by omega,by decide,?_⟩⟩;rw[b4];refine zu ?_;refine LoadA.cells c2 rfl (zu ?_);refine⟨⟨lb,0,0,rfl,by omega,by decide,?_⟩⟩;rw[ad];refine zu ?_;refine LoadA.cells aq rfl (zu ?_);refine RunV.eqTerm (a:=tmI [97,58,115]) (b:=tmI [97,58,115]) (.inl rfl) ?_;rw[show qx (tmI [97,58,115]) (tmI [97,58,115])=true from by kernel_rfl];refine zu ?_;refine⟨⟨g3,o3,0,rfl,by omega,by decide,?_⟩⟩;rw[ae];refine zu ?_;refine LoadV.of (c3 0 _ rfl) (zu ?_);exact⟨rfl,(he.trans aj).trans hd⟩
def putQ(p:Q4)(k:Nat)(t:TM):Q4:=match k with
 | 0=>{ p with s:=t }
 | 1=>{ p with p:=t }
 | 2=>{ p with o:=t }
 | _=>{ p with g:=t }
theorem q23{a t x:TM}(h:fitT a t=true)(ht:t.kind≠4):fitT t x=(fitT a x&&qx x t):=by
 have O:qx t x=qx x t:=by
  rw[Bh,ql,ql];exact eq_comm
 simp only[fitT,C7,decide_eq_true_eq]at h;rw[fitT,AZ ht,CW,O];cases e:qx x t
 ·simp
 ·obtain rfl:=ql.1 e;simp only[fitT,Bool.and_true]
  rcases h with h|h<;>simp[h]
theorem q4b{p q:Q4}{t:TM}(h:fitT (p.at k) t=true)(ht:t.kind≠4):fitQ (putQ p k t) q=(fitQ p q&&qx (q.at k) t):=by
 unfold putQ Q4.at at *
 split at h<;>simp only[fitQ,q23 h ht]<;>grind
theorem qabb{p q:Q4}(h:fitQ p q=true)(k:Nat):fitT (p.at k) (q.at k)=true:=by
 simp only[fitQ,AB]at h;unfold Q4.at
 split<;>simp[h]
theorem qtb{p:Q4}{t:TM}(h:fitT (p.at k) t=true)(ht:t.kind≠4):qal (putQ p k t) qs=(qal p qs).filter λi=>qx ((qs.getD i zQ).at k) t:=by
 rw[qal,qal,List.filter_filter];refine CV λi _=>?_;rw[Ag];cases e:qs[i]? with
 | none=>simp
 | some q=>
  show fitQ _ q=(_&&fitQ p q);rw[q4b h ht,Bool.and_comm];rfl
def sumF(f:TM->Nat)(U:List TM):Nat:=(U.map f).sum
theorem qtv{x:TM}:∀{U:List TM},U.Nodup->(x∈U->sumF (λu=>if qx x u=true then 1 else 0) U=1)/\(x∉U->sumF (λu=>if qx x u=true then 1 else 0) U=0)
 | [],_=>by simp[sumF]
 | u::U,h=>by
  obtain⟨Z,h2⟩:=C3.1 h;have ih:=qtv (x:=x) h2;have e:sumF (λu=>if qx x u=true then 1 else 0) (u::U)=(if qx x u=true then 1 else 0)+sumF (λu=>if qx x u=true then 1 else 0) U:=by simp[sumF]
  rw[e]
  by_cases O:x=u
  ·subst O;rw[Af (ql.2 rfl),ih.2 Z];simp
  ·rw[Ab (λg=>O (ql.1 g))]
   grind
theorem qtu(f g:TM->Nat):∀U:List TM,sumF (λu=>f u+g u) U=sumF f U+sumF g U
 | []=>rfl
 | u::U=>by
  have:=qtu f g U;simp only[sumF,AF,CP]at this|-;omega
theorem qkz{U:List TM}(O:U.Nodup):∀{Ts:List TM},(∀t∈Ts,t∈U)->sumF (λu=>(Ts.filter λt=>qx t u).length) U=Ts.length
 | [],_=>by
  have:∀U:List TM,sumF (λ_=>0) U=0:=λU=>by induction U<;>simp_all[sumF]
  exact this U
 | x::Ts,h=>by
  have Z:=qkz O (Ts:=Ts) λt ht=>h t (zmc ht)
  have e:(λu=>((x::Ts).filter λt=>qx t u).length)=λu=>(if qx x u=true then 1 else 0)+(Ts.filter λt=>qx t u).length:=by
   funext u
   rw[List.filter_cons]
   split<;>simp[CF]
  rw[e,qtu,Z,(qtv O).1 (h x mh),AH,CF]
def cntS(p:Q4)(pl:Int)(qs:List Q4)(U:List TM)(k:Nat):Nat:=sumF (λt=>(qal (putQ p pl.toNat t) qs).length) (U.take k)
theorem qw7{p:Q4}{t:TM}(h:U[k]?=some t):cntS p pl qs U (k+1)=cntS p pl qs U k+(qal (putQ p pl.toNat t) qs).length:=by
 simp[cntS,sumF,Bu,h]
theorem q02(f:TM->Nat)(U:List TM)(k:Nat):sumF f (U.take k)<=sumF f U:=by
 have e:sumF f U=sumF f (U.take k)+sumF f (U.drop k):=by
  rw[sumF,sumF,sumF,<-List.sum_append_nat,<-Ba,B4]
 omega
theorem qacc(p:Q4)(k:Nat)(t:TM)(h:k<4):(qe p).take (4*k)++encT t++(qe p).drop (4*k+4)=qe (putQ p k t):=by
 match k,h with
 | 0,_=>rfl
 | 1,_=>rfl
 | 2,_=>rfl
 | 3,_=>rfl
section
variable {p:Q4} {pl:Int} {qs:List Q4} (hk:∀q∈qs,(q.at pl.toNat).kind≠4)
include hk
theorem q06{t:TM}(h:t∈tatL pl p qs):fitT (p.at pl.toNat) t=true/\t.kind≠4/\(qal (putQ p pl.toNat t) qs).length=((tatL pl p qs).filter λx=>qx x t).length/\1<=(qal (putQ p pl.toNat t) qs).length:=by
 obtain⟨i,hi,rfl⟩:=AG.1 h;obtain⟨q,hq,hf⟩:=qei.1 hi;have e:qs.getD i zQ=q:=by rw[Ag,hq];rfl
 have O:fitT (p.at pl.toNat) (plT pl (qs.getD i zQ))=true:=by rw[e];exact qabb hf _
 have Z:(plT pl (qs.getD i zQ)).kind≠4:=by rw[e];exact hk q (zmg hq)
 refine⟨O,Z,?_,?_⟩
 ·rw[qtb O Z,tatL,List.filter_map,AC];rfl
 ·rw[qtb O Z];exact List.length_pos_of_mem (Bo.2 ⟨hi,ql.2 rfl⟩)
theorem q2m(h:plOk pl=true):cntS p pl qs (tasL pl p qs) (tasL pl p qs).length=(qal p qs).length:=by
 obtain⟨Z,O⟩:=qdf ordT (tatL pl p qs);have hU:(qc7 cmpT (tatL pl p qs)).Nodup:=Z.imp λ{a b} aa e=>by
  subst e;have:=(ordT.eq (a:=a) (b:=a)).2 rfl;omega
 rw[tasL,Af h,cntS,BB];have e:sumF (λt=>(qal (putQ p pl.toNat t) qs).length) (qc7 cmpT (tatL pl p qs))=sumF (λu=>((tatL pl p qs).filter λt=>qx t u).length) (qc7 cmpT (tatL pl p qs)):=by
  rw[sumF,sumF];exact Ae List.sum (Cl λt ht=>(q06 hk ((O t).1 ht)).2.2.1)
 rw[e,qkz hU (λt ht=>(O t).2 ht),tatL,AC]
theorem qacp{t:TM}(h:(tasL pl p qs)[i]?=some t):1<=(qal (putQ p pl.toNat t) qs).length/\∀u,0<i->(tasL pl p qs)[i-1]?=some u->cmpT u t<0:=by
 rw[tasL]at h|-
 split at h
 ·rename_i O
  rw[Af O];obtain⟨Z,h2⟩:=qdf ordT (tatL pl p qs);refine⟨(q06 hk ((h2 t).1 (zmg h))).2.2.2,λu hi hu=>?_⟩;obtain⟨a1,a2⟩:=Ad.1 h;obtain⟨b1,b2⟩:=Ad.1 hu;have:=Bj.1 Z (i-1) i b1 a1 Oo;rw[a2,b2]at this;exact this
 ·cases h
end
theorem qacq(p:Q4)(qs:List Q4)(h:plOk pl=false):tasL pl p qs=[]:=by rw[tasL,h];rfl
end Go.Proofs.YtccmcfpmknpccaaGreatDoor
