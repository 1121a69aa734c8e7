/- Lemmas and contracts of functions on the way to the law's card (part 14 of 16). -/
import Derived.Test.YtccmcfpmknpccaaGreatDoorSB13
import Derived.ChangeKeysEq
import Derived.Lib.LaidTab
import Derived.Test.YtccmcfpmknpccaaGreatDoorRows
import Derived.Deep.DeepHandedRow
import Derived.ProofKit
import Derived.OpenShut
import Derived.LaidHandle
import Derived.Shelf.Vars
import Derived.Test.YtccmcfpmknpccaaGreatDoorCards
namespace Go.Proofs.YtccmcfpmknpccaaGreatDoor
set_option maxHeartbeats 8000000
open Go.RowKit V
set_option maxHeartbeats 8000000
set_option maxRecDepth 100000
variable {T Ts:List TM} {b c g i j k m sz tb:Nat} {J:Dl->Dk} {L Y:Dl} {W w w' w0:Dc} {qs:List Q4} {pl:Int} {pre:Dd} {xo yo:Operand} {K:Di} {assign body:Code} {ρ:Dj} {ds:Dq} {gf:FuncId} {lb news xs:Dm} {P:De} {x z:Dh} {e ty:Df} {fr:Nat×Nat}
structure SteΦ(x pb vb tb:Nat)(T:List TM)(qs:List Q4)(p:Q4)(pl:Int)(b1 b2 b3:Nat)(w:Dc):Prop where
 X:IdxE w x pb vb tb (encP T qs)
 G:GlobS w
 c1:w.cell? ⟨b1,0,none⟩=some (pp x)
 c2:CellsAt w b2 0 (qe p)
 c3:w.cell? ⟨b3,0,none⟩=some (ii pl)
theorem qvz(x:Nat)(p:Q4)(pl:Int)(w:Dc):Gv Do 57 [pp x,qv p,ii pl] w λr w'=>
  ∃b1 b2 U,r=.func (.func 121) #[] #[pp U,pp b1,pp b2]/\
   Mem w w' [(U,.cells #[ii pl] 3),(b2,.cells (qe p).toArray 47),(b1,.cells #[pp x] 26)]:=by
 refine ze Tryz.func57 Tryz.ntmps57 ?_;refine znm (Mem.nil w) λb1 Z O=>zw ?_;refine znm O λb2 w2 O=>zw ?_;refine znm O λU w3 O=>zw ?_;exact⟨b1,b2,U,rfl,O⟩
open Classical in
noncomputable def uTs(Ts:List TM)(k:Nat):List TM:=uniA [] (Ts.take k)
open Classical in
theorem q6w{t:TM}(h:Ts[k]?=some t)(O:t∈uTs Ts k):uTs Ts (k+1)=uTs Ts k:=by
 rw[uTs,Bu,h,Option.toList_some,qgh];exact Af O
open Classical in
theorem q1d{t:TM}(h:Ts[k]?=some t)(O:t∉uTs Ts k):uTs Ts (k+1)=uTs Ts k++[t]:=by
 rw[uTs,Bu,h,Option.toList_some,qgh];exact Ab O
theorem q1c{Ts:List TM}:∀{k:Nat},k<=Ts.length->(uTs Ts k).length<=k
 | 0,_=>Ao _
 | k+1,h=>by
  have U:=q1c (Ts:=Ts) (k:=k) Oo;have hk:Ts[k]?=some Ts[k]:=zge Oo
  by_cases O:Ts[k]∈uTs Ts k
  ·rw[q6w hk O];omega
  ·rw[q1d hk O,zla];simp;omega
def TeJ(J:Dl->Dk)(O lb:Nat)(Ts:List TM)(L:Dl)(k:Nat)(X:Dl)(w:Dc):Prop:=
 ∃s:List TN×Dh×Dl,(s.1.map (·.1)=uTs Ts k/\(∀e∈s.1,1<=e.2)/\(s.1.map (·.2)).sum<=k/\RowX 45 4 s.2.1 (uTs Ts k).length ((uTs Ts k).map encT).flatten s.2.2)/\
  J (X++(s.2.2++(O,mpO s.1)::(lb,.cells #[s.2.1] 28)::L)) w
theorem TeJ.carr(O:Carr J)(U lb:Nat)(Ts:List TM)(L:Dl)(k:Nat):Carr (TeJ J U lb Ts L k):=Carr.ex λ_=>O.tail _
theorem q14{Y:List TM}(h:AscT Y):Y.Pairwise λa b=>cmpT a b<=0:=by
 rw[Bp];intro i j Z U O;have:=h i j O U;have e1:tmA Y i=Y[i]:=by rw[tmA,Am,zge Z];rfl
 have e2:tmA Y j=Y[j]:=by rw[tmA,Am,zge U];rfl
 rw[e1,e2,<-qap]at this
 rcases Db 0 (cmpT Y[i] Y[j])with g|g
 ·exact absurd (ordT.sym.2 g) this
 ·exact g
theorem q0x(hJ:Carr J){v:Dh}{U:List TM}{X:Dl}(hR:RowX 45 4 v U.length (U.map encT).flatten Y)(h:J (Y++X) w)(hl:U.length<=1048576):
  Gv Do 123 [v,.func (.func 20) #[] #[]] w λr w'=>r=.tuple #[]/\∃U' Y',U'.Perm U/\AscT U'/\RowX 45 4 v U.length (U'.map encT).flatten Y'/\J (Y'++X) w':=by
 obtain⟨A,c,rfl⟩:=hR.slice;refine(qo4 U A c 0 w (hR.own λx hx=>hJ.get h (Ag _ hx)) Oo).mono ?_;rintro r w' ⟨rfl,U',hp,ha,ho,hc⟩;refine⟨rfl,U',?_⟩;obtain⟨_,⟨e1,e2,rfl⟩|⟨g,ab,ac,e1,rfl,_⟩⟩:=hR
 ·injection e1 with e1 _ _
  subst e1;have hx:Ext w w':=⟨hc.os,hc.tape,hc.output,hc.size,λk hk=>hc.block k hk (λhh=>by cases hh)⟩
  obtain⟨aa,ad⟩:=ho
  rcases ad with⟨O,e4⟩|⟨g,ab,ac,O,_⟩
  ·exact⟨[],hp,ha,⟨aa,.inl ⟨O,e2,rfl⟩⟩,hJ.ext h hx⟩
  ·injection O with O _ _;cases O
 ·injection e1 with e1 _ O
  subst e1 O;obtain⟨aa,⟨O,_⟩|⟨g',ae,Z,O,_,hg,r⟩⟩:=ho
  ·injection O with O _ _;cases O
  ·injection O with O _ e5
   injection O with O
   injection O with O
   subst O e5;exact⟨[(g,.cells Z 45)],hp,ha,⟨aa,.inr ⟨g,c,Z,rfl,rfl,r⟩⟩,hJ.chn h hc hg⟩
open Classical in
theorem qaag{U:List TM}(O:U.Perm (uTs Ts Ts.length))(Z:AscT U):U=qex cmpT Ts:=by
 rw[uTs,BK]at O;exact qvx ordT O (q14 Z)
theorem qv0(T:List TM)(qs:List Q4)(h:EncOk T qs)(x pb vb tb:Nat)(p:Q4)(hp:qay p)(pl:Int)(b1 b2 b3:Nat):
  SeqC Do 121 [pp b3,pp b1,pp b2] ((tasL pl p qs).map λt=>[qq t]) (SteΦ x pb vb tb T qs p pl b1 b2 b3):=by
 intro y I Ix w cI au hI h0 hy;have ah:((tasL pl p qs).map λt=>[qq t]).length=(tasL pl p qs).length:=AC ..;have bh:((Do.info? 45).get Jk).bytes=56:=by kernel_rfl
 have t4:tsz Do 45=4:=by kernel_rfl
 refine gvW Jk Tryz.func121 rfl Tryz.ntmps121 rfl (zw ?_);refine LoadV.of (hI _ _ _ h0).c3 (zw ?_);refine zcv (qof pl w) ?_;rintro r w2 ⟨hr,bi⟩;replace h0:=(cI 0).ext h0 bi
 rcases hr with⟨av,rfl⟩|⟨av,g,rfl,hg⟩
 case inl=>
  (conv=>whnf);refine NewV.carr (cI 0) h0 λab w3 h0=>zw ?_;refine StoreA.carr (cI 0) (A:=[]) h0 rfl (by simp[Value.oneCell']) λw4 h0=>zu ?_;refine .inl ?_;rw[ah,tasL,Ab (by rw[av];decide)];exact(cI 0).drop h0
 (conv=>whnf);refine NewV.carr (cI 0) h0 λab w3 h0=>zw ?_;refine StoreA.carr (cI 0) (A:=[]) h0 rfl (by simp[Value.oneCell']) λw4 h0=>zu ?_;refine Fall.make rfl ?_;refine NewV.carr (cI 0) h0 λmo w5 h0=>zw ?_;refine NewV.carr (cI 0) h0 λmb w6 h0=>zw ?_;refine StoreV.carr (cI 0) (A:=[]) h0 (by show 0<1;omega) rfl ?_;clear h0;intro w7 h0;replace h0:I 0 [(mb,.cells #[.map (some mo)] 236),(mo,mpO []),(ab,.cells #[.func (.func g) #[] #[]] 233)] w7:=h0;(conv=>whnf);refine NewV.carr (cI 0) h0 λlb w8 h0=>zw ?_;refine LoadV.of (hI _ _ _ h0).c1 (zw ?_);refine LoadA.cells (hI _ _ _ h0).c2 rfl (zw ?_);refine zcv (qhi x p w8) ?_;rintro r w9 ⟨c1,c2,rfl,bj⟩;replace h0:=(cI 0).call h0 bj;obtain⟨M,eM⟩:∃M,M=qa5 p qs:=⟨_,rfl⟩
 have bk:=qko p qs;rw[<-eM]at bk;have cc:=h.set.len;obtain⟨Ts,aw⟩:∃Ts:List TM,Ts=tatL pl p qs:=⟨_,rfl⟩
 have bl:Ts.length=M.length:=by rw[aw,tatL,AC,eM]
 have eR:tasL pl p qs=qex cmpT Ts:=by rw[tasL,Af av,aw]
 rw[eR]at ah hy|-;obtain⟨L,hL⟩:∃L:Dl,L=[(ab,.cells #[.func (.func g) #[] #[]] 233),(c2,.cells (qe p).toArray 47),(c1,.cells #[pp x] 26),(mb,.cells #[.map (some mo)] 236)]:=⟨_,rfl⟩
 have a5:(c1,Obj.cells #[pp x] 26)∈L:=by rw[hL];simp
 have a6:(c2,Obj.cells (qe p).toArray 47)∈L:=by rw[hL];simp
 have a7:(ab,Obj.cells #[.func (.func g) #[] #[]] 233)∈L:=by rw[hL];simp
 have ao:(mb,Obj.cells #[.map (some mo)] 236)∈L:=by rw[hL];simp
 have ax:I 0 ((mo,mpO [])::(lb,.cells #[.slice none 0 0] 28)::L) w9:=by
  rw[hL];exact(cI 0).perm h0 ((As (l₁:=[_,_,_,_]) (l₂:=[_,_])).trans (List.Perm.cons _ (Bk (l₁:=[_,_,_]))))
 clear h0;have bm:∀{X:Dl} {w':Dc},I 0 (X++L) w'->w'.heap[ab]?=some (.cells #[.func (.func g) #[] #[]] 233):=λhh=>(cI _).get hh (Aa _ a7)
 have cf:∀{X:Dl} {w':Dc},I 0 (X++L) w'->w'.heap[mb]?=some (.cells #[.map (some mo)] 236):=λhh=>(cI _).get hh (Aa _ ao)
 have bn:(M.map (sRow qs)).length=M.length:=AC ..;have cT:=λk=>TeJ.carr (cI 0) mo lb Ts L k
 (conv=>whnf);refine qz9 (Φ:=SmaΦ x pb vb tb T qs p c1 c2) (lb:=[pp c1,pp c2]) (xs:=M.map (sRow qs)) rfl Jk (by rw[eM];exact qhj T qs h x pb vb tb p hp (h.idX p) c1 c2) Od ?_
  (TeJ (I 0) mo lb Ts L) (λc k X w'=>False/\TeJ (I 0) mo lb Ts L k X w')
  cT (λc k=>Carr.and (cT k))
  (λk X w' ⟨s,_,hh⟩=>⟨(hI _ _ _ hh).X,(hI _ _ _ hh).G,by rw[qa ((cI _).get hh (Aa _ (Aa _ (zmc (zmc a5)))))];rfl,λj v hv=>by rw[qa ((cI _).get hh (Aa _ (Aa _ (zmc (zmc a6))))),Aq,Az];exact hv⟩)
  ⟨([],.slice none 0 0,[]),⟨rfl,λe he=>(by cases he),Ao _,RowX.nil _ _⟩,ax⟩ ?_ ?_ ?_
 ·intro r hr;obtain⟨j,_,rfl⟩:=AI.1 hr;rfl
 ·clear ax;rintro l2 D oa od k r X am hr O;rw[Ar]at hr;cases af:M[k]? with
  | none=>rw[af]at hr;cases hr
  | some i=>
  rw[af,AU,AN]at hr;subst hr;have cg:=(Ae.1 af).1;obtain⟨q,eq⟩:∃q,qs.getD i zQ=q:=⟨_,rfl⟩
  have ay:Ts[k]?=some (plT pl q):=by rw[aw,tatL,Ar,<-eM,af,AU,eq]
  rw[show sRow qs i=[ii i,qv q]by rw[sRow,eq]];(conv=>whnf);refine NewV.carr (cT k) O λnb bo O=>zw ?_;refine StoreA.carr (vs:=qe q) (cT k) (A:=[]) O rfl (qbg q) λbp O=>zw ?_;refine⟨rfl,(nb,.cells (qe q).toArray 47)::(D,.deferred (some []))::X,(cT k).perm O (List.Perm.swap _ _ _),?_⟩;clear O;rintro az ⟨⟨l,v,Y⟩,⟨a0,ai,bq,hR⟩,O⟩;dsimp only at a0 ai bq hR O;have br:=q1c (Ts:=Ts) (k:=k) Oo;obtain⟨Z,eZ⟩:∃Z:Dl,Z=(l2,od)::(nb,.cells (qe q).toArray 47)::(D,.deferred (some []))::X:=⟨_,rfl⟩
  rw[<-eZ]at O;have hq:(nb,Obj.cells (qe q).toArray 47)∈Z:=by rw[eZ];simp
  replace O:I 0 ((Z++Y++[(mo,mpO l),(lb,.cells #[v] 28)])++L) az:=by simpa using O
  (conv=>whnf);refine LoadV.own (bm O) rfl (zw ?_);refine LoadA.own ((cI 0).get O (Ag _ (Ag _ (Ag _ hq)))) rfl (zw ?_);refine zcv (hg q az) ?_;rintro r a8 ⟨rfl,a9⟩;replace O:=(cI 0).ext O a9;obtain⟨t,et⟩:∃t,t=plT pl q:=⟨_,rfl⟩
  rw[<-et]at ay|-;(conv=>whnf);refine NewV.carr (cI 0) O λa1 bt O=>zw ?_;refine StoreA.carr (vs:=encT t) (cI 0) (A:=[]) O rfl (qaa t) ?_;clear O;intro bu O;obtain⟨A,eA⟩:∃A:Dl,A=(a1,.cells (encT t).toArray 45)::(Z++Y):=⟨_,rfl⟩
  have a2:(a1,Obj.cells (encT t).toArray 45)∈A:=by rw[eA];exact AD ..
  obtain⟨B,eB⟩:∃B:Dl,B=(lb,.cells #[v] 28)::L:=⟨_,rfl⟩
  have ba:(mb,Obj.cells #[.map (some mo)] 236)∈B:=by rw[eB];exact zmc ao
  replace O:I 0 (A++(mo,mpO l)::B) bu:=by rw[eA,eB];simpa using O
  have ci:=q5z t l;have cj:=qyj t l;(conv=>whnf);refine DrawW.any Jk (.inr Jk) (AnyV.gen (λS _ w'=>(S 6=true->S 2=true/\S 4=true)/\I 0 (A++(mo,mpO (bif S 6 then icT t l else bif S 4 then adL t l else l))::B) w') Jk (λae=>⟨λh=>(by cases h),(cI 0).ext O xr.drew⟩) ?_);clear O;(conv=>whnf);refine StepG.of (.map (some mo)) (λS ae wd hk hp aa=>?_) ?_
  ·have ac:=(cI 0).get aa.2 (Aa _ (zmc ba));(conv=>whnf);refine LoadV.own ac rfl (zw ?_);exact⟨rfl,λh=>⟨(aa.1 h).1,(aa.1 h).2⟩,aa.2⟩
  (conv=>whnf);refine StepG.of (qq t) (λS ae wd hk hp aa=>?_) ?_
  ·have ac:=(cI 0).get aa.2 (Ag _ a2);(conv=>whnf);refine LoadA.own ac rfl (zw ?_);exact⟨rfl,λh=>⟨(aa.1 h).1,(aa.1 h).2⟩,aa.2⟩
  (conv=>whnf);refine StepG.of (ii (cnL t l:Nat)) (λS ae wd hk hp aa=>?_) ?_
  ·have ai:S 2=false:=hk;have h6:S 6=false:=by
    cases h6:S 6
    ·rfl
    ·have:=(aa.1 h6).1;rw[ai]at this;cases this
   obtain⟨l',el⟩:∃l',l'=(bif S 4 then adL t l else l):=⟨_,rfl⟩
   have bv:cnL t l'=cnL t l:=by
    rw[el];cases S 4
    ·rfl
    ·exact q5t t l
   have ac:=(cI 0).get aa.2 (Aa _ mh);rw[h6]at ac;have ac:wd.heap[mo]?=some (mpO l'):=by rw[el];exact ac
   (conv=>whnf);refine Fall.look rfl rfl rfl (qok t l' mo wd ac) (zw ?_);exact⟨by rw[bv];rfl,λh=>(by have h:S 6=true:=h;rw[h6]at h;cases h),aa.2⟩
  (conv=>whnf);refine zg ?_;refine StepG.of (.tuple #[ii (cnL t l:Nat),ii (ixL t l:Nat)]) (λS ae wd hk hp aa=>?_) ?_
  ·have bb:S 4=false:=hk;have h6:S 6=false:=by
    cases h6:S 6
    ·rfl
    ·have:=(aa.1 h6).2;rw[bb]at this;cases this
   have O:=aa.2;rw[h6,bb]at O;replace O:I 0 (A++(mo,mpO l)::B) wd:=O;have ac:=(cI 0).get O (Aa _ mh);(conv=>whnf);refine Fall.entry rfl rfl rfl (q4j t l mo wd ac) (zw ?_);exact⟨rfl,λh=>(by have h:S 6=true:=h;rw[h6]at h;cases h),by show I 0 (A++(mo,mpO (bif S 6 then icT t l else bif true then adL t l else l))::B) _;rw[h6];exact(cI 0).setM _ O⟩
  (conv=>whnf);refine zg ?_;refine StepG.of undef (λS ae wd hk hp aa=>?_) ?_
  ·have bw:S 6=false:=hk;have h4:S 4=true:=hp 4 Od;have h2:S 2=true:=hp 2 Od;have O:=aa.2;rw[bw,h4]at O;replace O:I 0 (A++(mo,mpO (adL t l))::B) wd:=O;have ac:=(cI 0).get O (Aa _ mh);(conv=>whnf);refine Fall.put rfl rfl rfl rfl (q4k t l mo wd ac) (zw ?_);exact⟨rfl,λ_=>⟨h2,h4⟩,(cI 0).setM _ O⟩
  (conv=>whnf);intro ae a3 aa;have O:I 0 (A++(mo,mpO (icT t l))::B) a3:=aa.2;clear aa;have bc:=q55 t l;have bd:=(cI 0).get O (Aa _ mh);have ad:=qso t l;rw[a0]at ad;have aj:=qw9 (t:=t) ai;rw[a0]at aj;have ce:=qyc t l;have ar:=qyb (t:=t) ai;(conv=>whnf);refine LoadV.own ((cI 0).get O (Aa _ (zmc ba))) rfl (zw ?_);refine LoadA.own ((cI 0).get O (Ag _ a2)) rfl (zw ?_);refine Fall.look rfl rfl rfl (qok t (icT t l) mo a3 bd) ?_;rw[bc]
  rcases B0 (cnL t l)with a4|a4
  case inr=>
   have ak:t∈uTs Ts k:=BH λh=>by have:=aj.2 h;omega
   rw[Af ak]at ad;have eU:=q6w ay ak;refine zu ?_;refine⟨(icT t l,v,Y),⟨by rw[eU];exact ad,ar,by dsimp only;omega,by rw[eU];exact hR⟩,?_⟩;rw[eA,eB]at O;have be:I 0 (Z++(Y++(mo,mpO (icT t l))::(lb,.cells #[v] 28)::L)) a3:=by simpa using(cI 0).drop O
   rw[eZ]at be;exact(cI 0).dropM (A:=[(l2,od)]) be
  have ak:t∉uTs Ts k:=aj.1 a4;rw[Ab ak]at ad;have eU:=q1d ay ak;rw[a4];rw[eB]at O;obtain⟨Av,cv,ev⟩:=hR.slice;subst ev;refine zu ?_;refine LoadV.own ((cI 0).get O (Aa _ (zmc mh))) rfl (zw ?_);refine LoadA.own ((cI 0).get O (Ag _ a2)) rfl (zw ?_);refine NewV.carr (cI 0) O λub bz O=>zw ?_;rw[eA]at O;replace O:I 0 (Y++((ub,.cells (encT t).toArray 45)::(a1,.cells (encT t).toArray 45)::(Z++(mo,mpO (icT t l))::(lb,.cells #[.slice Av (uTs Ts k).length cv] 28)::L))) bz:=by
   refine(cI 0).perm O ?_;simp only[BF,Au];refine List.Perm.trans ?_ (Bk).symm;refine List.Perm.cons _ ?_;refine List.Perm.trans ?_ (Bk).symm;refine List.Perm.cons _ ?_;rw[<-Au,<-Au];exact As.append_right _
  refine AppV.carr (m:=1) (news:=encT t) (cI 0) O hR qv9 trmI trmZ Jk Jk Od rfl (λ_=>⟨ub,0,rfl,λj u hu=>by rw[qa ((cI 0).get O (Aa _ mh)),Aq,Az];exact hu⟩) (qaa t) (by rw[bh];omega) Oo ?_;clear O;intro A5 c5 Y5 b0 b4 O;replace O:=(cI 0).dropM ((cI 0).dropM O);replace O:I 0 ((Y5++(Z++[(mo,mpO (icT t l))]))++(lb,.cells #[.slice Av (uTs Ts k).length cv] 28)::L) b0:=by simpa using O
  (conv=>whnf);refine StoreV.carr (cI 0) O (by show 0<1;omega) rfl ?_;clear O;intro bf O;replace O:I 0 ((Y5++(Z++[(mo,mpO (icT t l))]))++(lb,.cells #[.slice A5 ((uTs Ts k).length+1) c5] 28)::L) bf:=O;(conv=>whnf);have b5:(uTs Ts (k+1)).length=(uTs Ts k).length+1:=by rw[eU,zla];rfl
  have b6:((uTs Ts (k+1)).map encT).flatten=((uTs Ts k).map encT).flatten++encT t:=by rw[eU];simp
  refine⟨(icT t l,.slice A5 ((uTs Ts k).length+1) c5,Y5),⟨by rw[eU];exact ad,ar,by dsimp only;omega,by rw[b5,b6];exact b4⟩,?_⟩;replace O:I 0 (Z++(Y5++((mo,mpO (icT t l))::(lb,.cells #[.slice A5 ((uTs Ts k).length+1) c5] 28)::L))) bf:=by
   refine(cI 0).perm O ?_;rw[Au,Au,<-Au,<-Au Z];exact(As).append Js
  rw[eZ]at O;exact(cI 0).dropM (A:=[(l2,od)]) O
 ·clear ax;rintro D am O;rw[bn,<-bl]at O;obtain⟨⟨l,v,Y⟩,⟨_,_,_,hR⟩,O⟩:=O;dsimp only at hR O;have br:=q1c (Ts:=Ts) (k:=Ts.length) znr;obtain⟨Av,cv,ev⟩:=hR.slice;subst ev;obtain⟨E,eE⟩:∃E:Dl,E=(mo,mpO l)::(lb,.cells #[.slice Av (uTs Ts Ts.length).length cv] 28)::L:=⟨_,rfl⟩
  have al:(lb,Obj.cells #[.slice Av (uTs Ts Ts.length).length cv] 28)∈E:=by rw[eE];simp
  rw[<-eE]at O;replace O:I 0 ((D,.deferred (some []))::(Y++E)) am:=O;replace O:I 0 (Y++(D,.deferred (some []))::E) am:=(cI 0).perm O Bk.symm;(conv=>whnf);refine LoadV.own ((cI 0).get O (Aa _ (zmc al))) rfl (zw ?_);refine zcv (q0x (cI 0) hR O Oo) ?_;clear hR O;rintro r bo ⟨rfl,U,Y2,hp,ha,hR,O⟩;have eU:=qaag hp ha;have b7:=hp.length_eq;rw[<-eU]at ah hy|-;rw[<-b7]at hR al|-;obtain⟨n,en⟩:∃n,n=U.length:=⟨_,rfl⟩
  (conv=>whnf);refine LoadV.own ((cI 0).get O (Aa _ (zmc al))) rfl (zw ?_);have ag:∀{J:Dl->Dk} {w':Dc},Carr J->J (Y2++(D,.deferred (some []))::E) w'->J ([D].map q8f) w':=λcJ h=>cJ.dropL (cJ.perm (cJ.dropL h) (As (l₁:=[_])))
  refine q3m (λi:Nat=>[(0,.func (.yield y) #[] #[]),(47,.slice Av U.length cv),(48,ii U.length),(49,ii i)])
   (λi w'=>i<=U.length/\I i (Y2++(D,.deferred (some []))::E) w') (λi=>U.length-i) 0 fq ⟨An _,O⟩ ?_
  clear O;rintro i bp ck ⟨hi,O⟩;(conv=>whnf);refine zC (λ_=>zw ?_) (λ_=>zw ?_)
  case' refine_2=>
   obtain rfl:i=U.length:=by omega
   refine LeaveV.marks (J:=λX w'=>I U.length X w') (cI _) ?_ (D:=D) (Ds:=[]) (ag (cI _) O);intro w' h';(conv=>whnf);exact .inl (by rw[ah];exact h')
  have an:i<U.length:=by omega
  obtain⟨t,bg⟩:∃t,U[i]?=some t:=⟨_,zge an⟩
  obtain⟨_,_,ev,_,hS⟩:=V.RowX.sl qaf hR rfl (λx hx=>(cI _).get O (Ag _ hx))
  injection ev with b8 _ b9
  subst b8 b9;obtain⟨g1,o1,rfl,ca⟩:=hS.at_ (by intro e;rw[e]at an;simp at an);refine⟨⟨g1,o1,i,rfl,by omega,by omega,?_⟩⟩;rw[t4];(conv=>whnf);refine LoadA.cells (ca i t bg) rfl (zw ?_);refine NewV.carr (cI _) O λub az O=>zw ?_;refine StoreA.carr (vs:=encT t) (cI _) (A:=[]) O rfl (qaa t) λa8 O=>zw ?_;refine LoadA.own ((cI _).get O mh) rfl (zw ?_);have cb:(U.map λt=>[qq t])[i]?=some [qq t]:=by rw[Ar,bg];rfl
  refine YieldV.mono (hy i _ _ a8 cb O) ?_;clear O;rintro v bt (⟨rfl,O⟩|⟨rfl,hX⟩)
  ·refine zu ?_;exact⟨rfl,i+1,⟨rfl,rfl,rfl,Ad (Value.int .i64) Oo,trivial⟩,⟨by omega,(cI _).drop O⟩,by omega⟩
  ·refine zu ?_;refine LeaveV.marks (J:=λX w'=>Ix i X w') (au _) ?_ (D:=D) (Ds:=[]) (ag (au _) ((au _).drop hX));intro w' h';(conv=>whnf);exact .inr ⟨i,by rw[ah];exact an,h'⟩
 ·rintro D c k am hk ⟨hf,_⟩;exact hf.elim
theorem q15(q:Q4)(pl:Int)(w:Dc):Gv Do 23 [qv q,ii pl] w λr w'=>r=.tuple #[qq (if plOk pl=true then plT pl q else zTM),.bool (plOk pl)]/\Ext w w':=by
 refine ze Tryz.func23 Tryz.ntmps23 ?_;refine znm (Mem.nil w) ?_;intro qb w1 O;have O:Mem w w1 [(qb,.cells (qe q).toArray 47)]:=O;have U:∀w',Mem w w' [(qb,.cells (qe q).toArray 47)]->∀k,k<4->CellsAt w' qb (0+k*4) (encT (q.at k)):=λw' aa k hk=>qt (CellsAt.mem aa (Ac.2 rfl)) k hk
 refine znm O ?_;clear O;intro rb Z O;have hq:Mem w Z [(qb,.cells (qe q).toArray 47)]:=O.sub (Bm ..);conv=>whnf
 (repeat' refine zC (λ_=>zw ?_) (λ_=>zw ?_))
 all_goals first
  | (refine LoadA.cells (vs:=encT (q.at 0)) (U Z hq 0 Od) rfl ?_;(conv=>whnf))
  | (refine LoadA.cells (vs:=encT (q.at 1)) (U Z hq 1 Od) rfl ?_;(conv=>whnf))
  | (refine LoadA.cells (vs:=encT (q.at 2)) (U Z hq 2 Od) rfl ?_;(conv=>whnf))
  | (refine LoadA.cells (vs:=encT (q.at 3)) (U Z hq 3 Od) rfl ?_;(conv=>whnf))
  | skip
 all_goals
  refine zS O 0 ?_;clear O U;intro w3 O;refine qj (R:=λr w'=>r=.tuple #[qq (if plOk pl=true then plT pl q else zTM),.bool (plOk pl)]/\Ext w w') ?_;refine zl O 0 ?_;refine⟨?_,O.ext⟩
 ·obtain rfl:pl=0:=by omega
  rfl
 ·obtain rfl:pl=1:=by omega
  rfl
 ·obtain rfl:pl=2:=by omega
  rfl
 ·obtain rfl:pl=3:=by omega
  rfl
 ·have hn:plOk pl=false:=qz4.2 Oo;rw[hn];rfl
def snQ(e:Int×Q4):Dm:=ii e.1::qe e.2
theorem qfe(e:Int×Q4):(snQ e).length=17:=rfl
theorem qq0(e:Int×Q4):∀v∈snQ e,v.oneCell'=true:=λv O=>by
 rcases Aw.1 O with rfl|O
 ·rfl
 ·exact qbg e.2 v O
def snL(qs:List Q4)(l:Dn):List (Int×Q4):=l.map λi:Nat=>((i:Int),qs.getD i zQ)
theorem qfd(qs:List Q4)(l:Dn):(snL qs l).length=l.length:=AC ..
def SnR(E:List (Int×Q4))(v:Dh)(w:Dc):Prop:=∃B d,v=.slice B E.length d/\E.length<=d/\SlAt snQ 17 w B E
theorem q9q:Do.underlying 71=some (.slice 77):=Tryz.underlying71
theorem s20I:Do.info? 77=some ((Do.info? 77).get Jk):=(B9 _).symm
theorem s20Z:((Do.info? 77).get Jk).zero=some ((((Do.info? 77).get Jk).zero).get Jk):=(B9 _).symm
theorem s20B:((Do.info? 77).get Jk).bytes=232:=by kernel_rfl
theorem qqz{l:Dn}(h:l[j]?=some i):(snL qs l)[j]?=some ((i:Int),qs.getD i zQ):=by rw[snL,Ar,h];rfl
theorem qaci{o:Nat}{e:Int×Q4}(h:CellsAt w g o (snQ e)):CellsAt w g (o+1) (qe e.2):=λk v O=>by
 have:=h (1+k) v (by rw[snQ,Da,Cm];exact O)
 rwa[<-C2]at this
theorem qwr{q:Q4}(h:(plT pl q).kind≠1):begQ pl pre q=false:=by rw[begQ,Be h];rfl
theorem qws{q:Q4}(h:(plT pl q).text.size<pre.size):begQ pl pre q=false:=by
 rw[begQ,hasP,Be (Nat.not_le_of_lt h)];simp
theorem q19{q:Q4}(O:(plT pl q).kind=1)(U:pre.size<=(plT pl q).text.size):begQ pl pre q=seq ((plT pl q).text.extract 0 pre.size) pre:=by
 rw[begQ,hasP,AF O,AF U];simp
def qjl(e:Int×Q4):Dh:=.agg (snQ e).toArray
theorem q22:Do.underlying 77=some (.struct (Do.fieldsOf 77)):=by kernel_rfl
theorem q9z:Do.stoodInHeld 77=false:=by kernel_rfl
theorem q74:Do.eqGuardType Do.depth 77=false:=by kernel_rfl
theorem qj6(d:Nat)(e:Int×Q4)(w:Dc):(Op.equalIn (d+4) 77 (qjl e) (qjl e)).run Do w=.ok true w:=by
 have U:=Tryz.underlying3;have Z:=Tryz.isAgg3;have z3:=Tryz.sizeOf3;have a4:=Tryz.isAgg47;have z4:=Tryz.sizeOf47;simp only[qjl,snQ,qe,encT];rw[run_equalIn_agg w (d+3) _ _ _ q22 q9z];simp only[Program.fieldsOf,Tryz.underlying77];have O:=qe1 d e.2 e.2 w;rw[qon.2 rfl]at O;simp only[qv]at O
 go_simp
theorem V.RunV.neqSn{e:Int×Q4}(h:K (.bool false) w):
  RunV Do (do eqGuard .neq 77 xo yo (qjl e) (qjl e);binOp .neq 77 (qjl e) (qjl e)) w K:=by
 refine⟨_,w,?_,h⟩;have O:=qj6 9996 e w;rw[Sem.run_bind,qjl,run_eqGuard_agg w .neq _ xo yo _ _ q74,Result.andThen_ok];simp only[qjl]at O;rw[run_neq_struct,O];rfl
theorem qc3(E:List (Int×Q4))(A B:oA)(cA cB:Nat)(w:Dc)(hA:SlAt snQ 17 w A E)(hB:SlAt snQ 17 w B E)(hl:E.length<=1152921504606846976):
  Gv Do 25 [.slice A E.length cA,.slice B E.length cB] w λr w'=>r=.bool true/\Ext w w':=by
 have aa:tsz Do 77=17:=by kernel_rfl
 refine ze Tryz.func25 Tryz.ntmps25 ?_;refine zv ?_;refine qm (λi:Nat=>[(0,.slice A E.length cA),(1,.slice B E.length cB),(5,ii i)]) (λi w'=>i<=E.length/\Ext w w') (λi=>E.length-i) 0 fq ⟨An _,xr⟩ ?_;rintro i w1 ae ⟨hi,he⟩;(conv=>whnf);refine zC (λ_=>zw ?_) (λ_=>zw ?_)
 case' refine_2=>exact⟨rfl,he⟩
 have Z:i<E.length:=by omega
 have ab:E≠[]:=by intro e;rw[e]at Z;simp at Z
 obtain⟨g1,o1,rfl,h1⟩:=hA.at_ ab;obtain⟨g2,o2,rfl,h2⟩:=hB.at_ ab;obtain⟨e,ac⟩:∃e,E[i]?=some e:=⟨_,zge Z⟩
 have hx:=λO (U:Ext w1.drew O)=>he.trans ((Ext.refl w1).drew.trans U)
 refine DrawV.free Jk Jk (zw ?_);refine zd ?_;refine zd ?_;refine zsd (.pointer (some ⟨g1,o1+i*17,none⟩)) (λO U=>zw ?_) ?_
 ·refine⟨⟨g1,o1,i,rfl,by omega,by omega,?_⟩⟩;rw[aa];(conv=>whnf);exact xq
 apply zsd (qjl e)
 ·intro O U;refine LoadA.cells (CellsAt.ext (h1 i e ac) (hx O U)) rfl (zw ?_);exact xq
 (conv=>whnf);refine zd ?_;refine zd ?_;refine zsd (.pointer (some ⟨g2,o2+i*17,none⟩)) (λO U=>zw ?_) ?_
 ·refine⟨⟨g2,o2,i,rfl,by omega,by omega,?_⟩⟩;rw[aa];(conv=>whnf);exact xq
 apply zsd (qjl e)
 ·intro O U;refine LoadA.cells (CellsAt.ext (h2 i e ac) (hx O U)) rfl (zw ?_);exact xq
 apply zsd (.bool false)
 ·intro O U;refine RunV.neqSn (e:=e) (zw ?_);exact xq
 intro w2 ad;refine zu ?_;exact⟨i+1,⟨rfl,rfl,Ad (Value.int .i64) Oo,trivial⟩,⟨by omega,hx w2 ad⟩,by omega⟩
theorem qjj(E:List TM)(A B:oA)(cA cB:Nat)(w:Dc)(hA:SlAt encT 4 w A E)(hB:SlAt encT 4 w B E)(hl:E.length<=1152921504606846976):
  Gv Do 45 [.slice A E.length cA,.slice B E.length cB] w λr w'=>r=.bool true/\Ext w w':=by
 have t4:tsz Do 45=4:=by kernel_rfl
 refine ze Tryz.func45 Tryz.ntmps45 ?_;refine zv ?_;refine qm (λi:Nat=>[(0,.slice A E.length cA),(1,.slice B E.length cB),(5,ii i)]) (λi w'=>i<=E.length/\Ext w w') (λi=>E.length-i) 0 fq ⟨An _,xr⟩ ?_;rintro i w1 ad ⟨hi,he⟩;(conv=>whnf);refine zC (λ_=>zw ?_) (λ_=>zw ?_)
 case' refine_2=>exact⟨rfl,he⟩
 have Z:i<E.length:=by omega
 have aa:E≠[]:=by intro e;rw[e]at Z;simp at Z
 obtain⟨g1,o1,rfl,h1⟩:=hA.at_ aa;obtain⟨g2,o2,rfl,h2⟩:=hB.at_ aa;obtain⟨e,ab⟩:∃e,E[i]?=some e:=⟨_,zge Z⟩
 have hx:=λO (U:Ext w1.drew O)=>he.trans ((Ext.refl w1).drew.trans U)
 refine DrawV.free Jk Jk (zw ?_);refine zd ?_;refine zd ?_;refine zsd (.pointer (some ⟨g1,o1+i*4,none⟩)) (λO U=>zw ?_) ?_
 ·refine⟨⟨g1,o1,i,rfl,by omega,by omega,?_⟩⟩;rw[t4];(conv=>whnf);exact xq
 apply zsd (qq e)
 ·intro O U;refine LoadA.cells (CellsAt.ext (h1 i e ab) (hx O U)) rfl (zw ?_);exact xq
 (conv=>whnf);refine zd ?_;refine zd ?_;refine zsd (.pointer (some ⟨g2,o2+i*4,none⟩)) (λO U=>zw ?_) ?_
 ·refine⟨⟨g2,o2,i,rfl,by omega,by omega,?_⟩⟩;rw[t4];(conv=>whnf);exact xq
 apply zsd (qq e)
 ·intro O U;refine LoadA.cells (CellsAt.ext (h2 i e ab) (hx O U)) rfl (zw ?_);exact xq
 apply zsd (.bool false)
 ·intro O U;refine RunV.eqTerm (a:=e) (b:=e) (.inr rfl) ?_;rw[qu.2 rfl];(conv=>whnf);exact xq
 intro w2 ac;refine zu ?_;exact⟨i+1,⟨rfl,rfl,Ad (Value.int .i64) Oo,trivial⟩,⟨by omega,hx w2 ac⟩,by omega⟩
open Go.RowKit
namespace V
variable {P:De} {n:Nat}
theorem qacb{f:Operand}{ps:Array Tmp}{Q:QW}{Φ:Dk}{xs:List Dm}(hf:ev ρ f=.func (.func gf) #[] lb.toArray)(he:qcl P gf=true)(Z:SeqC P gf lb xs Φ)(ac:ps.toList.all (Nat.blt · n)=true)(ad:∀x∈xs,x.length=ps.size)(e:Nat)(J Jx:Nat->Dl->Dk)(F:Dl->Dk)(hJ:∀k,Carr (J k))(ae:∀k,Carr (Jx k))(hw:∀k X w,J k X w->Φ w)(h0:J 0 [] w)(aj:∀X w,J xs.length X w->F X w)(af:∀k X w,k<xs.length->Jx k X w->F X w)(hQ:∀ds w,Q .normal ρ ds w->Q (.exit e) ρ ds w)(aa:∀D w',F [(D,.deferred (some []))] w'->Q .normal ρ ({ target:=.collected D,args:=#[] }::ds) w')(O:∀l D ob U k x X w1,xs[k]?=some x->J k ((l,ob)::(D,.deferred (some []))::X) w1->
   qdv P n (some l) assign (q3v λag ah ai=>BeginA (J k) l ob U ai ah
    (λw2=>qdv P n (some l) body (qtm (J (k+1) ((l,U)::(D,.deferred (some []))::X)) (λc=>λw=>c=.exit e/\Jx k ((l,U)::(D,.deferred (some []))::X) w)) ag [] w2)) (qos ps.toList x ρ) [] w1):RangeW P n none f ps assign body Q ρ ds w:=by
 refine qz9 (Jx:=λc k X w=>c=.exit e/\Jx k X w) hf he Z ac ad J hJ (λc k=>Carr.and (ae k)) hw h0 O (by grind) ?_;rintro D c k w' hk ⟨rfl,h⟩;exact hQ _ _ (aa D w' (af k _ _ hk h))
end V
def TkJ(J:Dl->Dk)(lb:Nat)(ty e sz:Df)(rows:List Dm)(m:Nat)(k:Nat)(X:Dl)(w:Dc):Prop:=
 ∃s:Dh×Dl,(RowX e sz s.1 k (rows.take k).flatten s.2/\k<=m)/\J (X++(s.2++[(lb,.cells #[s.1] ty)])) w
theorem TkJ.carr(O:Carr J)(lb:Nat)(ty e sz:Df)(rows:List Dm)(m k:Nat):Carr (TkJ J lb ty e sz rows m k):=Carr.ex λ_=>O.tail _
def TkF(J:Dl->Dk)(lb:Nat)(ty e sz:Df)(rows:List Dm)(X:Dl)(w:Dc):Prop:=
 ∃s:Dh×Dl,RowX e sz s.1 rows.length rows.flatten s.2/\J (X++(s.2++[(lb,.cells #[s.1] ty)])) w
section
variable {J:Dl->Dk} {lb:Nat} {ty e sz:Df} {rows:List Dm} {m:Nat} {X:Dl} {w:Dc}
theorem TkJ.all{n:Nat}(hn:n=rows.length)(h:TkJ J lb ty e sz rows m n X w):TkF J lb ty e sz (rows.take m) X w:=by
 subst hn;obtain⟨s,⟨O,U⟩,Z⟩:=h;rw[BK]at O;rw[Ay U];exact⟨s,O,Z⟩
theorem TkJ.cut{n:Nat}(hn:n=rows.length)(hk:k<n)(h:k=m/\TkJ J lb ty e sz rows m k X w):TkF J lb ty e sz (rows.take m) X w:=by
 obtain⟨rfl,s,⟨O,_⟩,U⟩:=h;refine⟨s,?_,U⟩;rw[A6,Bd Oo];exact O
end
theorem qmv{rows:List Dm}{r:Dm}(h:rows[k]?=some r):(rows.take (k+1)).flatten=(rows.take k).flatten++r:=by
 rw[Bu,h];simp
theorem qf6{U:Type}{enc:U->Dm}{e:Nat}{v:Dh}(O:∀x,(enc x).length=sz){l:List U}(h:RowX e sz v (l.map enc).length (l.map enc).flatten Y)(Z:∀x∈Y,w.heap[x.1]?=some x.2):
  ∃A c,v=.slice A l.length c/\l.length<=c/\SlAt enc sz w A l:=by
 rw[AC]at h;exact V.RowX.sl O h rfl Z
theorem qtb{O:Type}(u:O)(Y Z B:List O):(Y++u::(Z++B)).Perm (u::(Z++(Y++B))):=
 Bk.trans (.cons _ (by rw[<-Au,<-Au];exact As.append_right _))
theorem V.AppV.box{e te O:Nat}{v:Dh}{n ub lb:Nat}{t:Df}{i:TypeInfo}{Z:Dl}(hJ:Carr J)(h:J ((ub,.cells news.toArray te)::(Z++(Y++[(lb,.cells #[x] tb)]))) w)(hR:RowX e O v n xs Y)(ht:P.underlying t=some (.slice e))(hi:P.info? e=some i)(hz:i.zero=some z)(U:i.size=O)(aa:z.cells.size=O)(ab:0<O)(hl:news.length=1*O)(h1:∀u∈news,u.oneCell'=true)(hb:(n+1)*i.bytes<=140737488355328)(hk:∀A' c' Y' w',RowX e O (.slice A' (n+1) c') (n+1) (xs++news) Y'->J (Z++(Y'++[(lb,.cells #[x] tb)])) w'->K (.slice A' (n+1) c') w')(ac:n+1<=140737488355328:=by omega):AppV P #[t,t] ty v (.slice (some ⟨ub,0,none⟩) 1 c) w K:=
 AppV.carr hJ (hJ.perm h (qtb _ Y Z _).symm) hR ht hi hz U aa ab hl (λ_=>⟨ub,0,rfl,λj u hu=>by rw[qa (hJ.get h mh),Aq,Az];exact hu⟩) h1 hb ac λA' c' Y' w' ad h'=>hk A' c' Y' w' ad (hJ.drop (hJ.perm h' (qtb _ Y' Z _)))
theorem V.StoreV.box(O:Carr J){Z:Dl}{v:Dh}{t:Df}{K:Dk}(h:J (Z++(Y++[(b,.cells #[x] t)])) w)(hk:∀w',J (Z++(Y++[(b,.cells #[v] t)])) w'->K w')(U:qb5 v=true:=by rfl):StoreV w b 0 v K:=by
 rw[<-Au]at h;refine StoreV.carr O h (by show 0<1;omega) U λw' h'=>hk w' ?_;rw[<-Au];exact h'
theorem qkw{n:Nat}{f:Operand}{ps:Array Tmp}{Q:QW}{Φ:Dk}{ls:Dm}{xs:List Dm}(e sz:Nat){ty:Nat}{el:Df}{N:Dl}{rows:List Dm}(Z:SeqC P gf ls xs Φ)(ac:∀x∈xs,x.length=ps.size)(ad:∀N X w',Mem w0 w' (X++(N++L))->Φ w')(hx:xs.length=rows.length)(h0:Mem w0 w ([]++([]++[(b,.cells #[.slice none 0 0] ty)])++(N++L)))(aa:∀D w',TkF (λX w'=>Mem w0 w' (X++(N++L))) b ty el sz (rows.take m) [(D,.deferred (some []))] w'->Q .normal ρ ({ target:=.collected D,args:=#[] }::ds) w')(O:∀l D ob U k x X w1,xs[k]?=some x->TkJ (λX w'=>Mem w0 w' (X++(N++L))) b ty el sz rows m k ((l,ob)::(D,.deferred (some []))::X) w1->
   qdv P n (some l) assign (q3v λae af ag=>BeginA (TkJ (λX w'=>Mem w0 w' (X++(N++L))) b ty el sz rows m k) l ob U ag af
    (λw2=>qdv P n (some l) body (qtm (TkJ (λX w'=>Mem w0 w' (X++(N++L))) b ty el sz rows m (k+1) ((l,U)::(D,.deferred (some []))::X)) (λc=>λw=>c=.exit e/\k=m/\TkJ (λX w'=>Mem w0 w' (X++(N++L))) b ty el sz rows m k ((l,U)::(D,.deferred (some []))::X) w)) ae [] w2)) (qos ps.toList x ρ) [] w1)(hf:ev ρ f=.func (.func gf) #[] ls.toArray:=by rfl)(he:qcl P gf=true:=by kernel_rfl)(ah:ps.toList.all (Nat.blt · n)=true:=by decide)(hQ:∀ds w,Q .normal ρ ds w->Q (.exit e) ρ ds w:=by exact λ_ _ h=>h):RangeW P n none f ps assign body Q ρ ds w:=
 qacb (Jx:=λk X w'=>k=m/\TkJ (λX w'=>Mem w0 w' (X++(N++L))) b ty el sz rows m k X w') hf he Z ah ac e (TkJ _ b ty el sz rows m) (TkF (λX w'=>Mem w0 w' (X++(N++L))) b ty el sz (rows.take m)) (λk=>TkJ.carr ((qdp w0).tail _) _ _ _ _ _ _ k) (λk=>Carr.and (TkJ.carr ((qdp w0).tail _) _ _ _ _ _ _ k)) (λ_ _ _ ⟨_,_,hh⟩=>ad _ _ _ hh)
  ⟨(.slice none 0 0,[]),⟨RowX.nil _ _,An _⟩,h0⟩ (λ_ _ h=>TkJ.all hx h) (λ_ _ _ hk h=>TkJ.cut hx hk h) hQ aa O
theorem qi6(T:List TM)(qs:List Q4)(h:EncOk T qs)(x pb vb tb:Nat)(p:Q4)(hp:qay p)(m:Nat)(bb:m<=9223372036854775807)(w:Dc)(hX:IdxE w x pb vb tb (encP T qs))(hG:GlobS w):
  Gv Do 22 [pp x,qv p,ii m] w λr w'=>(∃v,r=.tuple #[v,.bool true]/\SnR (snL qs ((qa5 p qs).take m)) v w')/\Ext w w':=by
 have ba:=h.set.len;have ar:((Do.info? 77).get Jk).bytes=232:=s20B;have bc:((Do.info? 45).get Jk).bytes=56:=by kernel_rfl
 obtain⟨M,eM⟩:∃M,M=qa5 p qs:=⟨_,rfl⟩
 have bd:M.length<=qs.length:=by rw[eM];exact qko p qs
 rw[<-eM];obtain⟨rows,Z⟩:∃rows:List Dm,rows=(snL qs M).map snQ:=⟨_,rfl⟩
 have au:rows.length=M.length:=by rw[Z,AC,qfd]
 have af:(M.map (sRow qs)).length=rows.length:=by rw[AC,au]
 refine gvW Jk Tryz.func22 rfl Tryz.ntmps22 rfl (zw ?_);refine znm (Mem.nil w) λb4 w1 U=>zw ?_;refine znm U λbm w2 U=>zw ?_;refine znm U λb8 w3 U=>zw ?_;refine znm U λb9 w4 U=>zw ?_;refine LoadA.mem (cs:=(qe p).toArray) U (i:=3) rfl rfl (zw ?_);refine zcv (qhi x p w4) ?_;rintro r w5 ⟨c1,c2,rfl,ag⟩;replace U:=U.glue ag;obtain⟨L,hL⟩:∃L:Dl,L=[(bm,.cells #[ii m] 3),(b4,.cells (qe p).toArray 47),(c2,.cells (qe p).toArray 47),(c1,.cells #[pp x] 26)]:=⟨_,rfl⟩
 have ah:(c1,Obj.cells #[pp x] 26)∈L:=by rw[hL];simp
 have ai:(c2,Obj.cells (qe p).toArray 47)∈L:=by rw[hL];simp
 have aj:(bm,Obj.cells #[ii m] 3)∈L:=by rw[hL];simp
 have av:∀(N:Dl) (X:Dl) (w':Dc),Mem w w' (X++(N++L))->w'.heap[bm]?=some (.cells #[ii m] 3):=λN X w' hh=>hh.get (Aa _ (Aa _ aj))
 have ak:∀(N:Dl) (X:Dl) (w':Dc),Mem w w' (X++(N++L))->SmaΦ x pb vb tb T qs p c1 c2 w':=λN X w' hh=>⟨hX.ext hh.ext,hG.ext hh.ext,by rw[qa (hh.get (Aa _ (Aa _ ah)))];rfl,λj v hv=>by rw[qa (hh.get (Aa _ (Aa _ ai))),Aq,Az];exact hv⟩
 have ac:=qhj T qs h x pb vb tb p hp (h.idX p) c1 c2;rw[<-eM]at ac;have al:∀r∈(M.map (sRow qs)),r.length=2:=λr hr=>by
  obtain⟨j,_,rfl⟩:=AI.1 hr;rfl
 replace U:Mem w w5 ([]++([]++[(b8,.cells #[.slice none 0 0] 71)])++([(b9,.cells #[.slice none 0 0] 71)]++L)):=by
  rw[hL];exact(qdp w).perm U ((As (l₁:=[(c2,Obj.cells (qe p).toArray 47),(c1,Obj.cells #[pp x] 26),(b9,Obj.cells #[.slice none 0 0] 71)]) (l₂:=[_,_,_])).trans (List.Perm.cons _ (As (l₁:=[_,_,_,_]) (l₂:=[_]))))
 clear ag;(conv=>whnf);refine qkw (b:=b8) (el:=77) (m:=m) (N:=[(b9,.cells #[.slice none 0 0] 71)]) 0 17 ac al ak af U ?r1 ?b1
 case' b1=>
  obtain⟨lb,rfl⟩:∃lb,lb=b8:=⟨_,rfl⟩
  generalize[(b9,Obj.cells #[.slice none 0 0] 71)]=N
 case' r1=>
  rintro D1 w6 ⟨⟨v1,Y1⟩,ad,O⟩;dsimp only at ad O;obtain⟨N,eN⟩:∃N:Dl,N=(D1,.deferred (some []))::(Y1++[(b8,.cells #[v1] 71)]):=⟨_,rfl⟩
  replace U:Mem w w6 ([]++([]++[(b9,.cells #[.slice none 0 0] 71)])++(N++L)):=(qdp w).perm (show Mem w w6 (N++(b9,.cells #[.slice none 0 0] 71)::L)by rw[eN];exact O) Bk;clear O;(conv=>whnf);refine qkw (b:=b9) (el:=77) (m:=m) (N:=N) 2 17 ac al ak af U ?r2 ?b2
 case' b2=>obtain⟨lb,rfl⟩:∃lb,lb=b9:=⟨_,rfl⟩
 case' b1|b2=>
  clear U;rintro l2 D oa od k r X w6 hr O;rw[Ar]at hr;cases aa:M[k]? with
  | none=>rw[aa]at hr;cases hr
  | some i=>
  rw[aa,AU,AN]at hr;subst hr;have be:=(Ae.1 aa).1;have cJ:Carr (λX w'=>Mem w w' (X++(N++L))):=(qdp w).tail _;have cS:=TkJ.carr cJ lb 71 77 17 rows m k;obtain⟨q,eq⟩:∃q,qs.getD i zQ=q:=⟨_,rfl⟩
  have aw:rows[k]?=some (snQ ((i:Int),q)):=by rw[Z,Ar,qqz aa,AU,eq]
  rw[show sRow qs i=[ii i,qv q]by rw[sRow,eq]];(conv=>whnf);refine NewV.carr cS O λnb w7 O=>zw ?_;refine StoreA.carr (vs:=qe q) cS (A:=[]) O rfl (qbg q) λw8 O=>zw ?_;refine⟨rfl,(nb,.cells (qe q).toArray 47)::(D,.deferred (some []))::X,cS.perm O (List.Perm.swap _ _ _),?_⟩;clear O;rintro w9 ⟨⟨v,Y⟩,⟨hR,ax⟩,O⟩;dsimp only at hR O;obtain⟨Av,cv,ev⟩:=hR.slice;subst ev;have hg:=O.get (b:=lb) (o:=.cells #[.slice Av k cv] 71) Js;(conv=>whnf);refine LoadV.own hg rfl (zw ?_);refine LoadV.own (av _ _ _ O) rfl (zw ?_)
  (repeat' refine zC (λ_=>zw ?_) (λ_=>zw ?_))
  case' refine_1=>exact⟨rfl,by omega,(.slice Av k cv,Y),⟨hR,ax⟩,cJ.dropM (A:=[(l2,od)]) O⟩
  refine LoadV.own hg rfl (zw ?_);refine LoadA.own (O.get (b:=nb) (o:=.cells (qe q).toArray 47) Js) rfl (zw ?_);refine NewV.carr cJ O λub bf O=>zw ?_;refine AppV.box (news:=snQ ((i:Int),q)) cJ O hR q9q s20I s20Z Jk Jk Od rfl (qq0 _) (by rw[ar];omega) ?_;clear O;intro A5 c5 Y5 bg ay O;(conv=>whnf);refine StoreV.box cJ O λbh O=>zw ?_;exact⟨(.slice A5 (k+1) c5,Y5),⟨by rw[qmv aw];exact ay,by omega⟩,cJ.dropM (A:=[(l2,od)]) O⟩
 rintro D2 w7 ⟨⟨v2,Y2⟩,ae,O⟩;dsimp only at ae O;clear U;obtain⟨E,eE⟩:∃E,E=snL qs (M.take m):=⟨_,rfl⟩
 have ao:rows.take m=E.map snQ:=by rw[Z,eE,<-C3,snL,snL,<-C3]
 rw[ao]at ad ae;have bi:E.length<=1048576:=by
  have:=Ad List.length ao;rw[A6,AC]at this;omega
 have az:∀y∈Y1,w7.heap[y.1]?=some y.2:=λy hy=>O.get (Aa _ (Ag _ (by rw[eN];exact zmc (Ag _ hy))))
 have a0:∀y∈Y2,w7.heap[y.1]?=some y.2:=λy hy=>O.get (Ag _ (Aa _ (Ag _ hy)))
 obtain⟨A1,d1,rfl,a1,a2⟩:=qf6 qfe ad az;obtain⟨A2,d2,rfl,bj,a3⟩:=qf6 qfe ae a0;have aq:w7.heap[b8]?=some (.cells #[.slice A1 E.length d1] 71):=O.get (Aa _ (Ag _ (by rw[eN];simp)));have a4:w7.heap[b9]?=some (.cells #[.slice A2 E.length d2] 71):=O.get (Ag _ Js);have ab:∀wd,Ext w7.drew wd->Ext w7 wd:=λwd hd=>(Ext.refl w7).drew.trans hd
 (conv=>whnf);refine DrawW.any Jk (.inl rfl) (AnyV.free Jk ?_);(conv=>whnf);refine zsd (.slice A1 E.length d1) (λwd hd=>zw ?_) (zw ?_)
 ·refine LoadV.own ((ab wd hd).get aq) rfl (zw ?_);exact xq
 refine zsd (.slice A1 E.length d1) (λwd hd=>zw ?_) (zw ?_)
 ·refine LoadV.own ((ab wd hd).get aq) rfl (zw ?_);exact xq
 refine zsd (.slice A2 E.length d2) (λwd hd=>zw ?_) (zw ?_)
 ·refine LoadV.own ((ab wd hd).get a4) rfl (zw ?_);exact xq
 refine zsd (.bool true) (λwd hd=>zw ?_) (zw ?_)
 ·refine zcv (qc3 E A1 A2 d1 d2 wd (a2.ext (ab wd hd)) (a3.ext (ab wd hd)) Oo) ?_;rintro r wx ⟨rfl,hex⟩;exact⟨hex,rfl⟩
 refine zd ?_;refine zd ?_;intro w8 a5;replace O:=O.call (ab w8 a5);rw[eN]at O;(conv=>whnf);obtain⟨R,eR⟩:∃R:Dl,R=(Y2++[(b9,.cells #[.slice A2 E.length d2] 71)])++((Y1++[(b8,.cells #[.slice A1 E.length d1] 71)])++L):=⟨_,rfl⟩
 have a6:∀y∈Y1,y∈R:=λy hy=>by rw[eR];exact Aa _ (Ag _ (Ag _ hy))
 replace O:Mem w w8 ((D2,.deferred (some []))::((Y2++[(b9,.cells #[.slice A2 E.length d2] 71)])++(D1,.deferred (some []))::((Y1++[(b8,.cells #[.slice A1 E.length d1] 71)])++L))):=O;replace O:Mem w w8 ((D2,.deferred (some []))::(D1,.deferred (some []))::R):=by rw[eR];exact(qdp w).perm O (List.Perm.cons _ Bk)
 refine LeaveV.marks (J:=λX w'=>Mem w w' (X++R)) ((qdp w).tail R) ?_ (D:=D2) (Ds:=[D1]) O;intro w' h';(conv=>whnf);obtain⟨A3,d3,e3,bk,a7⟩:=qf6 qfe ad (w:=w') (λy hy=>h'.get (Aa [] (a6 y hy)))
 injection e3 with a8 _ a9
 subst a8 a9;exact⟨⟨_,rfl,A1,d1,by rw[eE],by rw[<-eE];exact a1,by rw[<-eE];exact a7⟩,h'.ext⟩
theorem qis(T:List TM)(qs:List Q4)(h:EncOk T qs)(x pb vb tb:Nat)(p:Q4)(hp:qay p)(pl:Int)(pre:Dd)(m:Nat)(bd:m<=9223372036854775807)(w:Dc)(hX:IdxE w x pb vb tb (encP T qs))(hG:GlobS w):
  Gv Do 24 [pp x,qv p,ii pl,.string pre,ii m] w λr w'=>(∃v,r=.tuple #[v,.bool true]/\SnR (snL qs ((begL pl pre p qs).take m)) v w')/\Ext w w':=by
 have bc:=h.set.len;have av:((Do.info? 77).get Jk).bytes=232:=s20B;have be:((Do.info? 45).get Jk).bytes=56:=by kernel_rfl
 obtain⟨M,eM⟩:∃M,M=begL pl pre p qs:=⟨_,rfl⟩
 have bf:M.length<=qs.length:=by rw[eM];exact qph pl pre p qs
 rw[<-eM];obtain⟨rows,Z⟩:∃rows:List Dm,rows=(snL qs M).map snQ:=⟨_,rfl⟩
 have aw:rows.length=M.length:=by rw[Z,AC,qfd]
 have af:(M.map (sRow qs)).length=rows.length:=by rw[AC,aw]
 refine gvW Jk Tryz.func24 rfl Tryz.ntmps24 rfl (zw ?_);refine znm (Mem.nil w) λb4 w1 U=>zw ?_;refine znm U λbm w2 U=>zw ?_;refine znm U λb8 w3 U=>zw ?_;refine znm U λb9 w4 U=>zw ?_;refine LoadA.mem (cs:=(qe p).toArray) U (i:=3) rfl rfl (zw ?_);refine zcv (qqr x p pl pre w4) ?_;rintro r w5 ⟨c1,c2,c3,c4,rfl,ag⟩;replace U:=U.glue ag;obtain⟨L,hL⟩:∃L:Dl,L=[(bm,.cells #[ii m] 3),(b4,.cells (qe p).toArray 47),(c4,.cells #[.string pre] 9),(c3,.cells #[ii pl] 3),(c2,.cells (qe p).toArray 47),(c1,.cells #[pp x] 26)]:=⟨_,rfl⟩
 have ah:(c1,Obj.cells #[pp x] 26)∈L:=by rw[hL];simp
 have ai:(c2,Obj.cells (qe p).toArray 47)∈L:=by rw[hL];simp
 have aj:(c3,Obj.cells #[ii pl] 3)∈L:=by rw[hL];simp
 have ak:(c4,Obj.cells #[.string pre] 9)∈L:=by rw[hL];simp
 have al:(bm,Obj.cells #[ii m] 3)∈L:=by rw[hL];simp
 have ax:∀(N:Dl) (X:Dl) (w':Dc),Mem w w' (X++(N++L))->w'.heap[bm]?=some (.cells #[ii m] 3):=λN X w' hh=>hh.get (Aa _ (Aa _ al))
 have am:∀(N:Dl) (X:Dl) (w':Dc),Mem w w' (X++(N++L))->SbeΦ x pb vb tb T qs p pl pre c1 c2 c3 c4 w':=λN X w' hh=>⟨hX.ext hh.ext,hG.ext hh.ext,by rw[qa (hh.get (Aa _ (Aa _ ah)))];rfl,λj v hv=>by rw[qa (hh.get (Aa _ (Aa _ ai))),Aq,Az];exact hv,by rw[qa (hh.get (Aa _ (Aa _ aj)))];rfl,by rw[qa (hh.get (Aa _ (Aa _ ak)))];rfl⟩
 have ac:=qqs T qs h x pb vb tb p hp pl pre c1 c2 c3 c4;rw[<-eM]at ac;have an:∀r∈(M.map (sRow qs)),r.length=2:=λr hr=>by
  obtain⟨j,_,rfl⟩:=AI.1 hr;rfl
 replace U:Mem w w5 ([]++([]++[(b8,.cells #[.slice none 0 0] 71)])++([(b9,.cells #[.slice none 0 0] 71)]++L)):=by
  rw[hL];exact(qdp w).perm U ((As (l₁:=[(c4,Obj.cells #[.string pre] 9),(c3,Obj.cells #[ii pl] 3),(c2,Obj.cells (qe p).toArray 47),(c1,Obj.cells #[pp x] 26),(b9,Obj.cells #[.slice none 0 0] 71)]) (l₂:=[_,_,_])).trans (List.Perm.cons _ (As (l₁:=[_,_,_,_,_,_]) (l₂:=[_]))))
 clear ag;(conv=>whnf);refine qkw (b:=b8) (el:=77) (m:=m) (N:=[(b9,.cells #[.slice none 0 0] 71)]) 0 17 ac an am af U ?r1 ?b1
 case' b1=>
  obtain⟨lb,rfl⟩:∃lb,lb=b8:=⟨_,rfl⟩
  generalize[(b9,Obj.cells #[.slice none 0 0] 71)]=N
 case' r1=>
  rintro D1 w6 ⟨⟨v1,Y1⟩,ad,O⟩;dsimp only at ad O;obtain⟨N,eN⟩:∃N:Dl,N=(D1,.deferred (some []))::(Y1++[(b8,.cells #[v1] 71)]):=⟨_,rfl⟩
  replace U:Mem w w6 ([]++([]++[(b9,.cells #[.slice none 0 0] 71)])++(N++L)):=(qdp w).perm (show Mem w w6 (N++(b9,.cells #[.slice none 0 0] 71)::L)by rw[eN];exact O) Bk;clear O;(conv=>whnf);refine qkw (b:=b9) (el:=77) (m:=m) (N:=N) 2 17 ac an am af U ?r2 ?b2
 case' b2=>obtain⟨lb,rfl⟩:∃lb,lb=b9:=⟨_,rfl⟩
 case' b1|b2=>
  clear U;rintro l2 D oa od k r X w6 hr O;rw[Ar]at hr;cases aa:M[k]? with
  | none=>rw[aa]at hr;cases hr
  | some i=>
  rw[aa,AU,AN]at hr;subst hr;have bg:=(Ae.1 aa).1;have cJ:Carr (λX w'=>Mem w w' (X++(N++L))):=(qdp w).tail _;have cS:=TkJ.carr cJ lb 71 77 17 rows m k;obtain⟨q,eq⟩:∃q,qs.getD i zQ=q:=⟨_,rfl⟩
  have ay:rows[k]?=some (snQ ((i:Int),q)):=by rw[Z,Ar,qqz aa,AU,eq]
  rw[show sRow qs i=[ii i,qv q]by rw[sRow,eq]];(conv=>whnf);refine NewV.carr cS O λnb w7 O=>zw ?_;refine StoreA.carr (vs:=qe q) cS (A:=[]) O rfl (qbg q) λw8 O=>zw ?_;refine⟨rfl,(nb,.cells (qe q).toArray 47)::(D,.deferred (some []))::X,cS.perm O (List.Perm.swap _ _ _),?_⟩;clear O;rintro w9 ⟨⟨v,Y⟩,⟨hR,az⟩,O⟩;dsimp only at hR O;obtain⟨Av,cv,ev⟩:=hR.slice;subst ev;have hg:=O.get (b:=lb) (o:=.cells #[.slice Av k cv] 71) Js;(conv=>whnf);refine LoadV.own hg rfl (zw ?_);refine LoadV.own (ax _ _ _ O) rfl (zw ?_)
  (repeat' refine zC (λ_=>zw ?_) (λ_=>zw ?_))
  case' refine_1=>exact⟨rfl,by omega,(.slice Av k cv,Y),⟨hR,az⟩,cJ.dropM (A:=[(l2,od)]) O⟩
  refine LoadV.own hg rfl (zw ?_);refine LoadA.own (O.get (b:=nb) (o:=.cells (qe q).toArray 47) Js) rfl (zw ?_);refine NewV.carr cJ O λub bh O=>zw ?_;refine AppV.box (news:=snQ ((i:Int),q)) cJ O hR q9q s20I s20Z Jk Jk Od rfl (qq0 _) (by rw[av];omega) ?_;clear O;intro A5 c5 Y5 bi a0 O;(conv=>whnf);refine StoreV.box cJ O λbj O=>zw ?_;exact⟨(.slice A5 (k+1) c5,Y5),⟨by rw[qmv ay];exact a0,by omega⟩,cJ.dropM (A:=[(l2,od)]) O⟩
 rintro D2 w7 ⟨⟨v2,Y2⟩,ae,O⟩;dsimp only at ae O;clear U;obtain⟨E,eE⟩:∃E,E=snL qs (M.take m):=⟨_,rfl⟩
 have ar:rows.take m=E.map snQ:=by rw[Z,eE,<-C3,snL,snL,<-C3]
 rw[ar]at ad ae;have bk:E.length<=1048576:=by
  have:=Ad List.length ar;rw[A6,AC]at this;omega
 have a1:∀y∈Y1,w7.heap[y.1]?=some y.2:=λy hy=>O.get (Aa _ (Ag _ (by rw[eN];exact zmc (Ag _ hy))))
 have a2:∀y∈Y2,w7.heap[y.1]?=some y.2:=λy hy=>O.get (Ag _ (Aa _ (Ag _ hy)))
 obtain⟨A1,d1,rfl,a3,a4⟩:=qf6 qfe ad a1;obtain⟨A2,d2,rfl,bl,a5⟩:=qf6 qfe ae a2;have au:w7.heap[b8]?=some (.cells #[.slice A1 E.length d1] 71):=O.get (Aa _ (Ag _ (by rw[eN];simp)));have a6:w7.heap[b9]?=some (.cells #[.slice A2 E.length d2] 71):=O.get (Ag _ Js);have ab:∀wd,Ext w7.drew wd->Ext w7 wd:=λwd hd=>(Ext.refl w7).drew.trans hd
 (conv=>whnf);refine DrawW.any Jk (.inl rfl) (AnyV.free Jk ?_);(conv=>whnf);refine zsd (.slice A1 E.length d1) (λwd hd=>zw ?_) (zw ?_)
 ·refine LoadV.own ((ab wd hd).get au) rfl (zw ?_);exact xq
 refine zsd (.slice A1 E.length d1) (λwd hd=>zw ?_) (zw ?_)
 ·refine LoadV.own ((ab wd hd).get au) rfl (zw ?_);exact xq
 refine zsd (.slice A2 E.length d2) (λwd hd=>zw ?_) (zw ?_)
 ·refine LoadV.own ((ab wd hd).get a6) rfl (zw ?_);exact xq
 refine zsd (.bool true) (λwd hd=>zw ?_) (zw ?_)
 ·refine zcv (qc3 E A1 A2 d1 d2 wd (a4.ext (ab wd hd)) (a5.ext (ab wd hd)) Oo) ?_;rintro r wx ⟨rfl,hex⟩;exact⟨hex,rfl⟩
 refine zd ?_;refine zd ?_;intro w8 a7;replace O:=O.call (ab w8 a7);rw[eN]at O;(conv=>whnf);obtain⟨R,eR⟩:∃R:Dl,R=(Y2++[(b9,.cells #[.slice A2 E.length d2] 71)])++((Y1++[(b8,.cells #[.slice A1 E.length d1] 71)])++L):=⟨_,rfl⟩
 have a8:∀y∈Y1,y∈R:=λy hy=>by rw[eR];exact Aa _ (Ag _ (Ag _ hy))
 replace O:Mem w w8 ((D2,.deferred (some []))::((Y2++[(b9,.cells #[.slice A2 E.length d2] 71)])++(D1,.deferred (some []))::((Y1++[(b8,.cells #[.slice A1 E.length d1] 71)])++L))):=O;replace O:Mem w w8 ((D2,.deferred (some []))::(D1,.deferred (some []))::R):=by rw[eR];exact(qdp w).perm O (List.Perm.cons _ Bk)
 refine LeaveV.marks (J:=λX w'=>Mem w w' (X++R)) ((qdp w).tail R) ?_ (D:=D2) (Ds:=[D1]) O;intro w' h';(conv=>whnf);obtain⟨A3,d3,e3,bn,a9⟩:=qf6 qfe ad (w:=w') (λy hy=>h'.get (Aa [] (a8 y hy)))
 injection e3 with ba _ bb
 subst ba bb;exact⟨⟨_,rfl,A1,d1,by rw[eE],by rw[<-eE];exact a3,by rw[<-eE];exact a9⟩,h'.ext⟩
theorem q94(pl:Int)(p:Q4)(qs:List Q4):(tasL pl p qs).length<=qs.length:=by
 rw[tasL]
 split
 ·refine A4 (qyf ordT _) ?_;rw[tatL,AC];exact qko p qs
 ·exact An _
theorem qv8(T:List TM)(qs:List Q4)(h:EncOk T qs)(x pb vb tb:Nat)(p:Q4)(hp:qay p)(pl:Int)(m:Nat)(bc:m<=9223372036854775807)(w:Dc)(hX:IdxE w x pb vb tb (encP T qs))(hG:GlobS w):
  Gv Do 19 [pp x,qv p,ii pl,ii m] w λr w'=>(∃v,r=.tuple #[v,.bool true]/\TmR ((tasL pl p qs).take m) v w')/\Ext w w':=by
 have bb:=h.set.len;have bd:((Do.info? 77).get Jk).bytes=232:=s20B;have au:((Do.info? 45).get Jk).bytes=56:=by kernel_rfl
 obtain⟨M,eM⟩:∃M,M=tasL pl p qs:=⟨_,rfl⟩
 have be:M.length<=qs.length:=by rw[eM];exact q94 pl p qs
 rw[<-eM];obtain⟨rows,Z⟩:∃rows:List Dm,rows=M.map encT:=⟨_,rfl⟩
 have av:rows.length=M.length:=by rw[Z,AC]
 have af:(M.map λt=>[qq t]).length=rows.length:=by rw[AC,av]
 refine gvW Jk Tryz.func19 rfl Tryz.ntmps19 rfl (zw ?_);refine znm (Mem.nil w) λb4 w1 U=>zw ?_;refine znm U λbm w2 U=>zw ?_;refine znm U λb8 w3 U=>zw ?_;refine znm U λb9 w4 U=>zw ?_;refine LoadA.mem (cs:=(qe p).toArray) U (i:=3) rfl rfl (zw ?_);refine zcv (qvz x p pl w4) ?_;rintro r w5 ⟨c1,c2,c3,rfl,ag⟩;replace U:=U.glue ag;obtain⟨L,hL⟩:∃L:Dl,L=[(bm,.cells #[ii m] 3),(b4,.cells (qe p).toArray 47),(c3,.cells #[ii pl] 3),(c2,.cells (qe p).toArray 47),(c1,.cells #[pp x] 26)]:=⟨_,rfl⟩
 have ah:(c1,Obj.cells #[pp x] 26)∈L:=by rw[hL];simp
 have ai:(c2,Obj.cells (qe p).toArray 47)∈L:=by rw[hL];simp
 have aj:(c3,Obj.cells #[ii pl] 3)∈L:=by rw[hL];simp
 have ak:(bm,Obj.cells #[ii m] 3)∈L:=by rw[hL];simp
 have aw:∀(N:Dl) (X:Dl) (w':Dc),Mem w w' (X++(N++L))->w'.heap[bm]?=some (.cells #[ii m] 3):=λN X w' hh=>hh.get (Aa _ (Aa _ ak))
 have al:∀(N:Dl) (X:Dl) (w':Dc),Mem w w' (X++(N++L))->SteΦ x pb vb tb T qs p pl c1 c2 c3 w':=λN X w' hh=>⟨hX.ext hh.ext,hG.ext hh.ext,by rw[qa (hh.get (Aa _ (Aa _ ah)))];rfl,λj v hv=>by rw[qa (hh.get (Aa _ (Aa _ ai))),Aq,Az];exact hv,by rw[qa (hh.get (Aa _ (Aa _ aj)))];rfl⟩
 have ac:=qv0 T qs h x pb vb tb p hp pl c1 c2 c3;rw[<-eM]at ac;have am:∀r∈(M.map λt=>[qq t]),r.length=1:=λr hr=>by
  obtain⟨j,_,rfl⟩:=AI.1 hr;rfl
 replace U:Mem w w5 ([]++([]++[(b8,.cells #[.slice none 0 0] 28)])++([(b9,.cells #[.slice none 0 0] 28)]++L)):=by
  rw[hL];exact(qdp w).perm U ((As (l₁:=[(c3,Obj.cells #[ii pl] 3),(c2,Obj.cells (qe p).toArray 47),(c1,Obj.cells #[pp x] 26),(b9,Obj.cells #[.slice none 0 0] 28)]) (l₂:=[_,_,_])).trans (List.Perm.cons _ (As (l₁:=[_,_,_,_,_]) (l₂:=[_]))))
 clear ag;(conv=>whnf);refine qkw (b:=b8) (el:=45) (m:=m) (N:=[(b9,.cells #[.slice none 0 0] 28)]) 0 4 ac am al af U ?r1 ?b1
 case' b1=>
  obtain⟨lb,rfl⟩:∃lb,lb=b8:=⟨_,rfl⟩
  generalize[(b9,Obj.cells #[.slice none 0 0] 28)]=N
 case' r1=>
  rintro D1 w6 ⟨⟨v1,Y1⟩,ad,O⟩;dsimp only at ad O;obtain⟨N,eN⟩:∃N:Dl,N=(D1,.deferred (some []))::(Y1++[(b8,.cells #[v1] 28)]):=⟨_,rfl⟩
  replace U:Mem w w6 ([]++([]++[(b9,.cells #[.slice none 0 0] 28)])++(N++L)):=(qdp w).perm (show Mem w w6 (N++(b9,.cells #[.slice none 0 0] 28)::L)by rw[eN];exact O) Bk;clear O;(conv=>whnf);refine qkw (b:=b9) (el:=45) (m:=m) (N:=N) 2 4 ac am al af U ?r2 ?b2
 case' b2=>obtain⟨lb,rfl⟩:∃lb,lb=b9:=⟨_,rfl⟩
 case' b1|b2=>
  clear U;rintro l2 D oa od k r X w6 hr O;rw[Ar]at hr;cases aa:M[k]? with
  | none=>rw[aa]at hr;cases hr
  | some i=>
  rw[aa,AU,AN]at hr;subst hr;have bf:=(Ae.1 aa).1;have cJ:Carr (λX w'=>Mem w w' (X++(N++L))):=(qdp w).tail _;have cS:=TkJ.carr cJ lb 28 45 4 rows m k;have ax:rows[k]?=some (encT i):=by rw[Z,Ar,aa];rfl
  (conv=>whnf);refine NewV.carr cS O λnb w7 O=>zw ?_;refine StoreA.carr (vs:=encT i) cS (A:=[]) O rfl (qaa i) λw8 O=>zw ?_;refine⟨rfl,(nb,.cells (encT i).toArray 45)::(D,.deferred (some []))::X,cS.perm O (List.Perm.swap _ _ _),?_⟩;clear O;rintro w9 ⟨⟨v,Y⟩,⟨hR,ay⟩,O⟩;dsimp only at hR O;obtain⟨Av,cv,ev⟩:=hR.slice;subst ev;have hg:=O.get (b:=lb) (o:=.cells #[.slice Av k cv] 28) Js;(conv=>whnf);refine LoadV.own hg rfl (zw ?_);refine LoadV.own (aw _ _ _ O) rfl (zw ?_)
  (repeat' refine zC (λ_=>zw ?_) (λ_=>zw ?_))
  case' refine_1=>exact⟨rfl,by omega,(.slice Av k cv,Y),⟨hR,ay⟩,cJ.dropM (A:=[(l2,od)]) O⟩
  refine LoadV.own hg rfl (zw ?_);refine LoadA.own (O.get (b:=nb) (o:=.cells (encT i).toArray 45) Js) rfl (zw ?_);refine NewV.carr cJ O λub bg O=>zw ?_;refine AppV.box (news:=encT i) cJ O hR qv9 trmI trmZ Jk Jk Od rfl (qaa i) (by rw[au];omega) ?_;clear O;intro A5 c5 Y5 bh az O;(conv=>whnf);refine StoreV.box cJ O λbi O=>zw ?_;exact⟨(.slice A5 (k+1) c5,Y5),⟨by rw[qmv ax];exact az,by omega⟩,cJ.dropM (A:=[(l2,od)]) O⟩
 rintro D2 w7 ⟨⟨v2,Y2⟩,ae,O⟩;dsimp only at ae O;clear U;obtain⟨E,eE⟩:∃E,E=M.take m:=⟨_,rfl⟩
 have aq:rows.take m=E.map encT:=by rw[Z,eE,<-C3]
 rw[aq]at ad ae;have bj:E.length<=1048576:=by
  have:=Ad List.length aq;rw[A6,AC]at this;omega
 have a0:∀y∈Y1,w7.heap[y.1]?=some y.2:=λy hy=>O.get (Aa _ (Ag _ (by rw[eN];exact zmc (Ag _ hy))))
 have a1:∀y∈Y2,w7.heap[y.1]?=some y.2:=λy hy=>O.get (Ag _ (Aa _ (Ag _ hy)))
 obtain⟨A1,d1,rfl,a2,a3⟩:=qf6 qaf ad a0;obtain⟨A2,d2,rfl,bk,a4⟩:=qf6 qaf ae a1;have ar:w7.heap[b8]?=some (.cells #[.slice A1 E.length d1] 28):=O.get (Aa _ (Ag _ (by rw[eN];simp)));have a5:w7.heap[b9]?=some (.cells #[.slice A2 E.length d2] 28):=O.get (Ag _ Js);have ab:∀wd,Ext w7.drew wd->Ext w7 wd:=λwd hd=>(Ext.refl w7).drew.trans hd
 (conv=>whnf);refine DrawW.any Jk (.inl rfl) (AnyV.free Jk ?_);(conv=>whnf);refine zsd (.slice A1 E.length d1) (λwd hd=>zw ?_) (zw ?_)
 ·refine LoadV.own ((ab wd hd).get ar) rfl (zw ?_);exact xq
 refine zsd (.slice A1 E.length d1) (λwd hd=>zw ?_) (zw ?_)
 ·refine LoadV.own ((ab wd hd).get ar) rfl (zw ?_);exact xq
 refine zsd (.slice A2 E.length d2) (λwd hd=>zw ?_) (zw ?_)
 ·refine LoadV.own ((ab wd hd).get a5) rfl (zw ?_);exact xq
 refine zsd (.bool true) (λwd hd=>zw ?_) (zw ?_)
 ·refine zcv (qjj E A1 A2 d1 d2 wd (a3.ext (ab wd hd)) (a4.ext (ab wd hd)) Oo) ?_;rintro r wx ⟨rfl,hex⟩;exact⟨hex,rfl⟩
 refine zd ?_;refine zd ?_;intro w8 a6;replace O:=O.call (ab w8 a6);rw[eN]at O;(conv=>whnf);obtain⟨R,eR⟩:∃R:Dl,R=(Y2++[(b9,.cells #[.slice A2 E.length d2] 28)])++((Y1++[(b8,.cells #[.slice A1 E.length d1] 28)])++L):=⟨_,rfl⟩
 have a7:∀y∈Y1,y∈R:=λy hy=>by rw[eR];exact Aa _ (Ag _ (Ag _ hy))
 replace O:Mem w w8 ((D2,.deferred (some []))::((Y2++[(b9,.cells #[.slice A2 E.length d2] 28)])++(D1,.deferred (some []))::((Y1++[(b8,.cells #[.slice A1 E.length d1] 28)])++L))):=O;replace O:Mem w w8 ((D2,.deferred (some []))::(D1,.deferred (some []))::R):=by rw[eR];exact(qdp w).perm O (List.Perm.cons _ Bk)
 refine LeaveV.marks (J:=λX w'=>Mem w w' (X++R)) ((qdp w).tail R) ?_ (D:=D2) (Ds:=[D1]) O;intro w' h';(conv=>whnf);obtain⟨A3,d3,e3,bl,a8⟩:=qf6 qaf ad (w:=w') (λy hy=>h'.get (Aa [] (a7 y hy)))
 injection e3 with a9 _ ba
 subst a9 ba;exact⟨⟨_,rfl,A1,d1,by rw[eE],by rw[<-eE];exact a2,by rw[<-eE];exact a8⟩,h'.ext⟩
structure AskE where
 kind:Int
 q:Q4
 pl:Int
 pre:Dd
 most:Int
namespace V
theorem qsq{P:De}{w:Dc}:∀{l:List (String×DataW Unit)} {Z:List MemPlace},DataW.LaidVars P w l Z->∀{n:String} {d:DataW Unit},(n,d)∈l->
  ∃g t O fuel p,P.globalNamed n=some g/\(P.globals[g]?).map (·.type)=some t/\w.var? P n=some O/\DataW.trod (λ_=>()) P w 0 (λ_=>true) false fuel t O.toList=some (d,p)
 | [],_,_,_,_,h=>by cases h
 | (n0,d0)::r,Z,h,n,d,U=>by
  obtain⟨g,t,O,fuel,p,q,h1,h2,h3,h4,h5,_⟩:=h
  rcases Aw.1 U with e|U
  ·cases e;exact⟨g,t,O,fuel,p,h1,h2,h3,h4⟩
  ·exact qsq h5 U
theorem ql5{name:String}{k:IntKind}{zs:List Int}{l:List (String×DataW Unit)}{t:Df}{n:Nat}(hg:P.globalNamed name=some g)(U:(P.globals[g]?).map (·.type)=some t)(ht:P.underlying t=some (.array n e))(he:P.underlying e=some (.int k))(Z:P.cellsOf e=1)(aa:P.cellsOf t=n)(h:laidMet P l W)(hm:(name,Lib.tabData k zs)∈l):CellsAt W g 0 (zs.map λz=>Value.int k z):=by
 obtain⟨ps,h,_⟩:=h;obtain⟨g',t',cs,fuel,p,ab,ac,O,hd⟩:=qsq h hm;obtain rfl:=Bh (hg.symm.trans ab);obtain rfl:=Bh (U.symm.trans ac);have hT:Lib.TabIs P W name k zs:=by
  unfold Lib.TabIs;rw[O,<-Lib.cells_of_tab ht he Z aa hd]
 intro i v hv;have hi:i<zs.length:=by simpa using(Ae.1 hv).1
 have:=hT.cell hg i hi;rw[Aq,this];rw[Ar,zge hi]at hv;rw[Am,zge hi]
 simpa using hv
end V
open Go.ChangeShapes Go.WideShapes Go.ChangeAt Go.RowKit
theorem own:ownKnob Do.godebug=none:=by kernel_rfl
theorem q3i:laidOutB Do=true:=by kernel_rfl
mutual
def q5x:DataW Unit->Dm
 | .lit (.int k n)=>[.int k n]
 | .agg l=>cellsDs l
 | _=>[]
def cellsDs:List (DataW Unit)->Dm
 | []=>[]
 | d::l=>q5x d++cellsDs l
end
def qabq(w:Dc)(x:Nat×DataW Unit):Dc:=
 { w with heap:=w.heap.modify x.1 fun
   | .cells _ t frozen=>.cells (q5x x.2).toArray t frozen
   | o=>o }
noncomputable def qabp(O:Os)(l:List (Nat×DataW Unit)):Dc:=l.foldl qabq (World.holding Do O ⟨#[],#[],[]⟩)
open Go.ChangeShapes Go.WideShapes Go.ChangeAt Go.RowKit V
theorem qiv:Do.cellsOf 45=4:=by kernel_rfl
theorem qw2:Do.cellsOf 47=16:=by kernel_rfl
theorem q7c:Do.bytesOf 47=224:=by kernel_rfl
section
variable {H:Type} {enc:Df×Dh->H} {W:Dc}
theorem qf1{c:Dh}(h:Opn enc Do W 9 [c]):∃s:Dd,c=.string s/\s.size<=140737488355328:=h.string Tryz.underlying9
theorem qf2{cs:Dm}(h:Opn enc Do W 45 cs):∃t:TM,cs=encT t/\TermOk t:=by
 obtain⟨hl,hf⟩:=Opn.fields Tryz.underlying45 h;rw[qiv]at hl
 match cs,hl with
 | [O,U,Z,c3],_=>
  have g0:Opn enc Do W 3 (([O,U,Z,c3].drop 0).take (Do.cellsOf 3)):=hf 0 _ rfl;rw[q2j]at g0;have g1:Opn enc Do W 9 (([O,U,Z,c3].drop 1).take (Do.cellsOf 9)):=hf 1 _ rfl;rw[qli]at g1;have g2:Opn enc Do W 9 (([O,U,Z,c3].drop 2).take (Do.cellsOf 9)):=hf 2 _ rfl;rw[qli]at g2;have g3:Opn enc Do W 9 (([O,U,Z,c3].drop 3).take (Do.cellsOf 9)):=hf 3 _ rfl;rw[qli]at g3;obtain⟨n0,rfl,k0⟩:=Opn.int (c:=O) Tryz.underlying3 g0;obtain⟨n1,rfl,k1⟩:=qf1 (c:=U) g1;obtain⟨n2,rfl,k2⟩:=qf1 (c:=Z) g2;obtain⟨n3,rfl,k3⟩:=qf1 (c:=c3) g3;exact⟨⟨n0,n1,n2,n3⟩,rfl,⟨q56 k0,k1,k2,k3⟩⟩
theorem qn6{O:Dm}(h:Opn enc Do W 47 O):∃q:Q4,O=qe q/\qay q:=by
 obtain⟨hl,hf⟩:=Opn.fields Tryz.underlying47 h;rw[qw2]at hl
 match O,hl with
 | [U,Z,a2,a3,b0,b1,b2,b3,c0,c1,c2,c3,d0,d1,d2,d3],_=>
  have g0:Opn enc Do W 45 (([U,Z,a2,a3,b0,b1,b2,b3,c0,c1,c2,c3,d0,d1,d2,d3].drop 0).take (Do.cellsOf 45)):=hf 0 _ rfl;rw[qiv]at g0;have g1:Opn enc Do W 45 (([U,Z,a2,a3,b0,b1,b2,b3,c0,c1,c2,c3,d0,d1,d2,d3].drop 4).take (Do.cellsOf 45)):=hf 1 _ rfl;rw[qiv]at g1;have g2:Opn enc Do W 45 (([U,Z,a2,a3,b0,b1,b2,b3,c0,c1,c2,c3,d0,d1,d2,d3].drop 8).take (Do.cellsOf 45)):=hf 2 _ rfl;rw[qiv]at g2;have g3:Opn enc Do W 45 (([U,Z,a2,a3,b0,b1,b2,b3,c0,c1,c2,c3,d0,d1,d2,d3].drop 12).take (Do.cellsOf 45)):=hf 3 _ rfl;rw[qiv]at g3;obtain⟨t0,e0,k0⟩:=qf2 (cs:=[U,Z,a2,a3]) g0;obtain⟨t1,e1,k1⟩:=qf2 (cs:=[b0,b1,b2,b3]) g1;obtain⟨t2,e2,k2⟩:=qf2 (cs:=[c0,c1,c2,c3]) g2;obtain⟨t3,e3,k3⟩:=qf2 (cs:=[d0,d1,d2,d3]) g3;simp only[encT,List.cons.injEq]at e0 e1 e2 e3;obtain⟨rfl,rfl,rfl,rfl,_⟩:=e0;obtain⟨rfl,rfl,rfl,rfl,_⟩:=e1;obtain⟨rfl,rfl,rfl,rfl,_⟩:=e2;obtain⟨rfl,rfl,rfl,rfl,_⟩:=e3;refine⟨⟨t0,t1,t2,t3⟩,rfl,λk=>?_⟩
  match k with
  | 0=>exact k0
  | 1=>exact k1
  | 2=>exact k2
  | k+3=>exact k3
noncomputable instance:Inhabited Q4:=⟨zQ⟩
theorem qu1{c:Dh}(h:Opn enc Do W 22 [c]):
  ∃(A:oA) (O:Nat) (l:List Q4),c=.slice A l.length O/\l.length<=140737488355328/\(∀q∈l,qay q)/\SlAt qe 16 W A l:=by
 obtain⟨A,O,l,Z,h2,h3,h4,h5⟩:=h.sliceR (en:=qe) (R:=qay) (size:=16) Tryz.underlying22 qw2 Od qod (λcs hc=>qn6 hc);rw[q7c]at h3;exact⟨A,O,l,Z,by omega,h4,h5⟩
noncomputable instance:Inhabited AskE:=⟨⟨0,zQ,0,⟨#[]⟩,0⟩⟩
end
theorem q8g(h:W.ShapedOpen Do):MaxLenAt W:=
 cell_of_shapedOpen_int (zero:=#[ii 0]) (t:=3) (k:=.i64) h (BB Jk) Jk rfl Jk Jk Tryz.underlying3
def tabs:List (String×DataW Unit):=[("unicode/utf8.acceptRanges",Rows.laid_unicode_utf8_acceptRanges),("tessera/sums.nibbles",Rows.laid_tessera_sums_nibbles),("tessera/names.basesTable",Rows.laid_tessera_names_basesTable),("tessera/vocab.kinds",Rows.laid_tessera_vocab_kinds),("unicode/utf8.first",Rows.laid_unicode_utf8_first)]
def q77:List (String×DataW Unit):=[("unicode/utf8.acceptRanges",Rows.laid_unicode_utf8_acceptRanges),("errors.errorType",Rows.laid_errors_errorType),("tessera/sums.nibbles",Rows.laid_tessera_sums_nibbles),("tessera/names.basesTable",Rows.laid_tessera_names_basesTable),("tessera/vocab.kinds",Rows.laid_tessera_vocab_kinds),("unicode/utf8.first",Rows.laid_unicode_utf8_first)]
theorem qabo(h:laidMetH Do q77 W):laidMet Do tabs W/\handlesMet Do [("errors.errorType",Rows.laid_errors_errorType)] W:=h
theorem qacm(h:laidMet Do tabs W):CellsAt W 4 0 qa3:=
 ql5 (name:= "tessera/names.basesTable") (k:=.i32) (zs:=[192,214,216,246,248,767,880,893,895,8191,8204,8205,8304,8591,11264,12271,12289,55295,63744,64975,65008,65533,65536,983039]) (l:=tabs) (g:=4) (t:=480) (e:=21) (n:=24)
  Jk Jk Tryz.underlying480 Tryz.underlying21 Jk Jk h (zmc (zmc mh))
theorem q3u(h:laidMet Do tabs W):CellsAt W 3 0 qg6:=
 ql5 (name:= "tessera/sums.nibbles") (k:=.u32) (zs:=nibs.map λn:Nat=>(n:Int)) (l:=tabs) (g:=3) (t:=446) (e:=179) (n:=16)
  Jk Jk Tryz.underlying446 Tryz.underlying179 Jk Jk h (zmc mh)
theorem qabl(h:laidMet Do tabs W):qip W:=
 ql5 (name:= "tessera/vocab.kinds") (k:=.i64) (zs:=[1,2,3]) (l:=tabs) (g:=2) (t:=113) (e:=3) (n:=3)
  Jk Jk Tryz.underlying113 Tryz.underlying3 Jk Jk h (zmc (zmc (zmc mh)))
theorem etL:Do.globalNamed "errors.errorType" = some 0:=by kernel_rfl
theorem rtL:(Do.cutTypes.find? (·.1== "internal/reflectlite.rtype")).map (·.2)=some 314:=by kernel_rfl
theorem q8t:((List.range Do.types.size).filter λt=>Do.rowNamed t [101,114,114,111,114])=[38]:=by kernel_rfl
theorem q7t(h:handlesMet Do [("errors.errorType",Rows.laid_errors_errorType)] W):ErrTyp W:=by
 obtain⟨name,u,ty,e1,e2,e3,e4,U⟩:=h _ (Ac.2 rfl);have en:name=[101,114,114,111,114]:=(Bh e1).symm;subst en;obtain rfl:=Bh (rtL.symm.trans e2);have Z:ty∈(List.range Do.types.size).filter λt=>Do.rowNamed t [101,114,114,111,114]:=Bt.2 ⟨B6.2 e3,e4⟩
 rw[q8t]at Z;obtain rfl:=Ac.1 Z;have hh:typeHandle Do 38=.pointer (some ⟨7,38,none⟩):=by kernel_rfl
 rw[hh]at U;have hc:=World.var?_cell etL U 0;unfold ErrTyp
 simpa using hc
structure GlobM(w:Dc):Prop where
 S:GlobS w
 N:CellsAt w 3 0 qg6
 G:ErrTyp w
theorem q71(h:laidMetH Do q77 W)(U:W.ShapedOpen Do):GlobM W:=
 have O:=qabo h
 ⟨⟨q8g U,qacm O.1,qabl O.1⟩,q3u O.1,q7t O.2⟩
noncomputable def witP(U:Os):Dc:=
 let w0:=qabp U [(6,Rows.laid_unicode_utf8_acceptRanges),(3,Rows.laid_tessera_sums_nibbles),(4,Rows.laid_tessera_names_basesTable),(2,Rows.laid_tessera_vocab_kinds),(5,Rows.laid_unicode_utf8_first)]
 { w0 with heap:=w0.heap.modify 0 fun
   | .cells _ t frozen=>.cells #[.iface 314 (.agg #[.pointer (some ⟨7,38,none⟩)])] t frozen
   | o=>o }
theorem qpy{c:OpenClaim}(U:c.start=.entering)(h:P.funcs.any Func.goes=false):false=c.goesBy P:=by
 have O:∀g:FuncId,(P.funcs[g]?).any Func.goes=false:=λg=>by
  cases e:P.funcs[g]? with
  | none=>rfl
  | some fn=>
   rw[Array.any_eq_false]at h;obtain⟨O,rfl⟩:=BO.1 e
   simpa using h g O
 have Z:∀f,P.goes f=false:=λf=>by
  rw[Program.goes,h,Bool.and_false,Bool.or_false,List.any_eq_false];intro g _;rw[O g];exact Bool.false_ne_true
 rw[OpenClaim.goesBy,U,Program.goesAt,Program.goesFrom,Bool.or_false];cases P.funcNamed c.func with
 | none=>rfl
 | some f=>exact(Z f).symm
theorem qabw:Do.funcs.any Func.goes=false:=by kernel_rfl
theorem andT{a b:Bool}(h:a=true)(k:b=true):(a&&b)=true:=by rw[h,k];rfl
structure Turn(l l':LB)(f B:Nat):Prop where
 len:l'.length=l.length
 bit:∀t,t<8*l.length->bitN l' t=(bitN l t+(if f<=t/\t<f+32 then B/2 ^ (t-f)%2 else 0))%2
section
variable {l l':LB} {f B:Nat} (h:Turn l l' f B)
include h
end
theorem EncOk.packE{T:List TM}{qs:List Q4}(h:EncOk T qs):(packE (encP T qs)).2=0:=by
 have O:=h.poE;obtain⟨U,_,_,_,Z,_⟩:=qtd (l:=encP T qs) (by rw[O]);rw[Go.Proofs.YtccmcfpmknpccaaGreatDoor.packE,Ab (λg=>g U),h.v,Ab (λg=>g h.voc.wE),Ab (λg=>g (qty Z).1)]
def okI(t:TM):Bool:=decide (t.kind=1)&&(seq t.type ⟨#[]⟩&&(seq t.lang ⟨#[]⟩&&decide (iriE t.text=0)))
theorem q8r{t:TM}(h:okI t=true):t.kind=1/\qa2 t=0:=by
 simp only[okI,AB,decide_eq_true_eq]at h;obtain⟨O,U,Z,h4⟩:=h;refine⟨O,?_⟩;rw[qa2,Af (.inl O),Ab (by rw[U,Z];simp),Af O,h4]
def okQd(q:Q4):Bool:=okI q.s&&(okI q.p&&(okI q.o&&qwe q.g))
theorem q1w{t:TM}(h:qwe t=true):t.kind=0:=by
 have e:qai t ⟨0,⟨#[]⟩,⟨#[]⟩,⟨#[]⟩⟩=true:=h;rw[qu.1 e]
theorem qab1{q:Q4}(h:okQd q=true):qbw q=0:=by
 simp only[okQd,AB]at h;obtain⟨U,Z,h3,O⟩:=h;obtain⟨k1,e1⟩:=q8r U;obtain⟨k2,e2⟩:=q8r Z;obtain⟨k3,e3⟩:=q8r h3;have q0:qE 0 q.s=0:=by rw[qE,Ab (by rw[canB,Af rfl,k1];decide),Ab Oo,e1]
 have q1:qE 1 q.p=0:=by rw[qE,Ab (by rw[canB,Ab Od,Af rfl,k2];decide),Ab Oo,e2]
 have q2:qE 2 q.o=0:=by rw[qE,Ab (by rw[canB,Ab Od,Ab Od,Af rfl,k3];decide),Ab Oo,e3]
 have q3:qE 3 q.g=0:=by
  rw[qE,Ab (by rw[canB,Ab Od,Ab Od,Ab Od,O];simp),Af ⟨rfl,q1w O⟩]
 rw[q4e,q0,q1,q2,q3];rfl
def okQs(qs:List Q4):Bool:=qs.all okQd&&((List.range (qs.length-1)).all λi=>decide (cmpQ (qs.getD i zQ) (qs.getD (i+1) zQ)<0))
theorem qab2(Z:qs.length<=1048576)(h:okQs qs=true):valE qs=0:=by
 simp only[okQs,AB,BU,decide_eq_true_eq,B6]at h;obtain⟨O,U⟩:=h;have hf:qcf (qs.map qbw)=0:=by
  clear U Z
  induction qs with
  | nil=>rfl
  | cons q qs ih=>
   rw[AG,qcf,Ab (λg=>g (qab1 (O q mh)))];exact ih λx hx=>O x (zmc hx)
 rw[valE,Ab Oo,Ab (λg=>g hf),Af];intro i hi a b ha hb;have:=U i Oo;rw[Am,Am,ha,hb]at this;exact qpk.1 this
def okL(L:List LB):Bool:=decide (L.length<=4194304)&&(L.all (λt=>decide (t.length<=262144))&&((List.range (L.length-1)).all (λi => !leL (tx L (i+1)) (tx L i))&&decide ((qaj L).length<=67108864)))
theorem q8s{L:List LB}(h:okL L=true):dicE L=0:=by
 simp only[okL,AB,BU,decide_eq_true_eq,B6,Ct]at h;obtain⟨h1,U,Z,h4⟩:=h;rw[dicE,Ab,Ab,Ab Oo]
 ·rintro⟨i,O,e⟩;have:=Z i Oo;rw[e]at this;cases this
 ·rintro(g|⟨i,g⟩)
  ·omega
  ·by_cases O:i<L.length
   ·have:=U (tx L i) (by rw[tx,Am,zge O];exact AP O);omega
   ·rw[tx,Am,AS Oo]at g;simp at g
theorem q7q{O:Int}(U:qs.length<=1048576)(h:okQs qs=true)(Z:okL (secE (tmsQ qs) 0)=true)(h1:okL (secE (tmsQ qs) 1)=true)(h2:okL (secE (tmsQ qs) 2)=true)(hs:(pkB qs).length<=67108864)(hm:((pkB qs).length:Int)<=O):encE qs O=0:=by
 refine qps (qab2 U h) (qt3 λk hk=>?_) Oo
 match k,hk with
 | 0,_=>exact q8s Z
 | 1,_=>exact q8s h1
 | 2,_=>exact q8s h2
def tmI(l:LB):TM:=⟨1,⟨l.toArray⟩,⟨#[]⟩,⟨#[]⟩⟩
def lW20:List Q4:=[⟨tmI [97,58,115],tmI [97,58,112],tmI [97,58,111],zTM⟩,⟨tmI [97,58,115],tmI [97,58,113],tmI [97,58,111],zTM⟩,⟨tmI [97,58,116],tmI [97,58,112],tmI [97,58,111],zTM⟩]
theorem q3g:encE lW20 67108864=0:=
 have O:decide ((pkB lW20).length<=67108864)=true:=by kernel_rfl
 q7q Od Jk Jk Jk Jk (BB O) (by have:=BB O;omega)
def qh2:TM:=⟨4,⟨#[]⟩,⟨#[]⟩,⟨#[]⟩⟩
def allQ:Q4:=⟨qh2,qh2,qh2,qh2⟩
theorem q3f:qa5 allQ lW20=[0,1,2]:=by kernel_rfl
theorem qabm:qa5 ⟨qh2,tmI [97,58,112],qh2,qh2⟩ lW20=[0,2]:=by kernel_rfl
theorem qsp{s:Dd}(h:iriE s=0):s.size<=65536:=by
 grind [iriE,refE]
theorem qxq{t:TM}(h:qa2 t=0):(qad t).length<=262144:=by
 have hd:∀s:Dd,s.data.toList.length=s.size:=λs=>rfl
 unfold qa2 at h
 by_cases U:t.kind=1\/t.kind=2
 ·grind [qad,qsp]
 ·rw[Ab U]at h
  by_cases h3:t.kind=3
  case neg=>simp_all
  rw[Af h3]at h;have he:(qad t).length=(escL t.text.data.toList).length+(2+(t.type.size+(1+t.lang.size))):=by
   grind [qad]
  have Z:=qsi t.text.data.toList;rw[hd]at Z;unfold litE at h
  by_cases c1:65536<t.text.size
  ·simp_all
  rw[Ab c1]at h
  by_cases c2:scal t.text.data.toList=none
  ·simp_all
  rw[Ab c2]at h
  by_cases c3:iriE t.type≠0
  ·simp_all
  rw[Ab c3]at h;have aa:=qsp (s:=t.type) Oo
  by_cases c4:seq t.lang ⟨#[]⟩=false/\65536<t.lang.size
  ·simp_all
  rw[Ab c4]at h
  by_cases c5:seq t.lang ⟨#[]⟩=false/\(tagE (qcp t.lang)≠0\/seq (lowS t.lang) t.lang=false)
  ·simp_all
  rw[Ab c5]at h
  by_cases O:(!seq t.lang ⟨#[]⟩)≠seq t.type qhz
  ·simp_all
  have O:(!seq t.lang ⟨#[]⟩)=seq t.type qhz:=Ck.1 O;cases hl:seq t.lang ⟨#[]⟩
  ·rw[hl]at O;have e:=qa1.1 O.symm;have:t.type.size=53:=by rw[e];rfl
   grind
  grind [qa1]
section
variable {T:List TM} (hr:RiseT T) (hn:T.length<=4194304) (ht:∀t∈T,qa2 t=0)
include hr hn ht
theorem q2q(k:Nat):dicE (secE T k)=0\/dicE (secE T k)=1:=by
 have U:∀i,i<(secE T k).length->∃t,(ofK T k)[i]?=some t/\tx (secE T k) i=qad t/\t∈T/\t.kind=((k+1:Nat):Int):=λi O=>by
  rw[qbq,AC]at O;have Z:(ofK T k)[i]?=some (ofK T k)[i]:=zge O;refine⟨_,Z,?_,(Bt.1 (AP O)).1,qf0 (AP O)⟩
  grind [tx,qbq]
 have hl:(secE T k).length<=4194304:=by
  rw[qbq,AC];exact A4 (Cs _ _) hn
 have h2:∀i,¬262144<(tx (secE T k) i).length:=λi=>by
  grind [qxq,tx]
 have h3:∀i,i+1<(secE T k).length->leL (tx (secE T k) (i+1)) (tx (secE T k) i)=false:=λi O=>by
  obtain⟨a,a1,a2,a3,a4⟩:=U i Oo;obtain⟨b,b1,b2,b3,b4⟩:=U (i+1) O;have aa:=qlq (ht a a3) (ht b b3) (by rw[a4,b4]) ((qih hr k).at (Ca i) a1 b1)
  grind [leL,qc4,qa1]
 by_cases h4:67108864<(qaj (secE T k)).length
 ·grind [qxf]
 ·exact .inl (q7o ⟨hl,λi=>by simp_all,h3,by omega⟩)
theorem q1o:qc5 T=0\/qc5 T=1:=by
 grind [q2q,qc5]
end
theorem q2y{O:Int}(h:valE qs=0)(hn:(tmsQ qs).length<=4194304):encE qs O=0\/encE qs O=1:=by
 grind [q1o,qd8,qc9,qid,qps,qsg]
def tmN(s:Dd):TM:=⟨1,s,⟨#[]⟩,⟨#[]⟩⟩
theorem qi9(s:Dd)(w:Dc):Gv Do 53 [.string s] w λr w'=>r=qq (tmN s)/\Ext w w':=by
 refine ze Tryz.func53 Tryz.ntmps53 ?_;refine znm (Mem.nil w) λb U O=>zw ?_;refine zS O 0 λZ O=>zw ?_;refine qj (R:=λr w'=>r=qq (tmN s)/\Ext w w') (zw ?_);refine zl O 0 ?_;exact⟨rfl,O.ext⟩
theorem qb7(w:Dc):Gv Do 71 [] w λr w'=>r=qq qh2/\Ext w w':=by
 refine ze Tryz.func71 Tryz.ntmps71 ?_;refine znm (Mem.nil w) λb U O=>zw ?_;refine zS O 0 λZ O=>zw ?_;refine qj (R:=λr w'=>r=qq qh2/\Ext w w') (zw ?_);refine zl O 0 ?_;exact⟨rfl,O.ext⟩
theorem qiq(w:Dc):Gv Do 54 [] w λr w'=>r=qv allQ/\Ext w w':=by
 refine ze Tryz.func54 Tryz.ntmps54 ?_;refine znm (Mem.nil w) λb Z O=>zw ?_;refine zcv (qb7 Z) ?_;rintro r w2 ⟨rfl,U⟩;replace O:=O.call U;(conv=>whnf);refine zcv (qb7 w2) ?_;rintro r w3 ⟨rfl,U⟩;replace O:=O.call U;(conv=>whnf);refine zcv (qb7 w3) ?_;rintro r w4 ⟨rfl,U⟩;replace O:=O.call U;(conv=>whnf);refine zcv (qb7 w4) ?_;rintro r w5 ⟨rfl,U⟩;replace O:=O.call U;(conv=>whnf);refine zS O 0 λw6 O=>zw ?_;refine qj (R:=λr w'=>r=qv allQ/\Ext w w') (zw ?_);refine zl O 0 ?_;exact⟨rfl,O.ext⟩
theorem qvw(h:EncOk T qs)(l:LB)(el:encP T qs=l)(A:oA)(c:Nat)(w:Dc)(hS:SlAt encB 1 w A l)(hc:l.length<=c)(hl:l.length<=140737488355328)(hT:CellsAt w 3 0 qg6):
  Gv Do 11 [.slice A l.length c] w λv w'=>∃x pb vb tb,v=.tuple #[pp x,.nilIface]/\IdxE w' x pb vb tb l/\Ext w w':=by
 have O:=h.packE;have U:=h.poE;rw[el]at O U;refine ze Tryz.func11 Tryz.ntmps11 ?_;refine zcv (q4d l A c w hS hc hl hT O (λk h1 h2=>(qjw (qtd (by rw[U])).2.2.2.2.1 k h1 Oo).tvec)) ?_;rintro v w1 ⟨⟨b,rfl,vb,tb,aa,ab,ac⟩,ad⟩;refine zu ?_;refine znm (Mem.nil w1) ?_;intro x w2 Z;have hx:=Z.get mh;exact⟨x,b,vb,tb,rfl,⟨by rw[qa hx];rfl,Z.ext.get aa,ab.ext Z.ext,ac.ext Z.ext⟩,ad.trans Z.ext⟩
def IxR(qs:List Q4)(r:Dh)(w:Dc):Prop:=
 (encE qs 67108864≠0/\r=.tuple #[.pointer none,.bool true])\/(EncOk (tmsQ qs) qs/\∃x O U tb,r=.tuple #[pp x,.bool true]/\IdxE w x O U tb (encP (tmsQ qs) qs))
theorem qft(qs:List Q4)(A:oA)(n c:Nat)(w:Dc)(hS:SlAt qe 16 w A qs)(hn:qs.length=n)(hb:n<=140737488355328)(hq:∀q∈qs,qay q)(hG:GlobS w)(U:CellsAt w 3 0 qg6)(hE:ErrTyp w):
  Gv Do 18 [.slice A n c] w λr w'=>IxR qs r w'/\Ext w w':=by
 refine ze Tryz.func18 Tryz.ntmps18 ?_;refine zcv (qui qs A n c 67108864 w hS hn hb ⟨by decide,by decide⟩ hq hG.M hG.T U hE) ?_;rintro r w1 (⟨Z,rfl,O⟩|⟨Z,v,rfl,hN⟩)
 ·have he:encE qs 67108864=valE qs\/valE qs=0/\encE qs 67108864=1:=by
   by_cases hv:valE qs=0
   ·exact .inr ⟨hv,(q2y hv (qmw hv)).resolve_left Z⟩
   ·exact .inl (qsf hv)
  have hR:IxR qs (.tuple #[.pointer none,.bool true]) w1:=.inl ⟨Z,rfl⟩;obtain⟨e,ee⟩:∃e,e=encE qs 67108864:=⟨_,rfl⟩
  obtain⟨f,ef⟩:∃f,f=valE qs:=⟨_,rfl⟩
  rw[<-ee]at Z he|-;rw[<-ef]at he;refine zu ?_;refine zcv (qpb qs A n c w1 (hS.ext O) hn hb hq (hG.ext O).M (hG.ext O).T) ?_;rintro r w2 ⟨⟨i,rfl⟩,aa⟩;rw[<-ef];(conv=>whnf);refine zC (λ_=>zu ?_) (λ_=>zu ?_)
  all_goals refine⟨.inl ⟨by rw[<-ee];exact Z,?_⟩,O.trans aa⟩
  all_goals first|rfl|rw[AF (show(e:Int)=1 by omega)]
 have ab:=q2x (qmw (qi0 Z).1) Z;have af:=(qi0 Z).2.2.2;have ac:=ab.pk;obtain⟨l,el⟩:∃l,l=pkB qs:=⟨_,rfl⟩
 obtain⟨B,d,rfl,ad,ae⟩:=hN.bs;rw[<-el]at ac af ad ae|-;have O:=hN.ext;refine zu ?_;refine zcv (qvw ab l ac B d w1 ae ad Oo (CellsAt.ext U O)) ?_;rintro v w2 ⟨x,pb,vb,tb,rfl,hI,aa⟩;(conv=>whnf);refine zy ?_;refine zv ?_;exact⟨.inr ⟨ab,x,pb,vb,tb,rfl,by rw[ac];exact hI.ext xr.drew⟩,(O.trans aa).trans xr.drew⟩
theorem q4r{Z:Type}{enc:Z->Dm}{O:Nat}(U:∀x,(enc x).length=O){l:List Z}(h:w.heap[b]?=some (.cells ((l.map enc).flatten).toArray e fr)):SlAt enc O w (some ⟨b,0,none⟩) l:=
 ⟨λ_=>⟨b,0,rfl,λj x hx k v hv=>by
  have h7:=qbv enc O U l j x k hx (by rw[<-U x];exact(Ae.1 hv).1);rw[hv]at h7;rw[qa h,Aq]
  simpa using h7⟩⟩
theorem qyq:∀q∈lW20,qay q:=λq O=>by
 simp only[lW20,Aw,BG,or_false]at O
 rcases O with rfl|rfl|rfl<;>intro k<;>unfold Q4.at<;>split<;>exact⟨⟨by decide,by decide⟩,by decide,by decide,by decide⟩
theorem qwm:qay allQ:=by
 intro k;unfold allQ Q4.at
 split<;>exact⟨⟨by decide,by decide⟩,by decide,by decide,by decide⟩
structure GlobO(w:Dc):Prop where
 S:GlobS w
 N:CellsAt w 3 0 qg6
 E:ErrTyp w
theorem GlobO.ext(h:GlobO w)(O:Ext w w'):GlobO w':=⟨h.S.ext O,CellsAt.ext h.N O,h.E.ext O⟩
def pW20:Q4:=⟨qh2,tmI [97,58,112],qh2,qh2⟩
theorem qzx:qay pW20:=by
 intro k;unfold pW20 Q4.at
 split<;>exact⟨⟨by decide,by decide⟩,by decide,by decide,by decide⟩
theorem tW20:(tasL 0 pW20 lW20).take 9=[tmI [97,58,115],tmI [97,58,116]]:=by kernel_rfl
theorem bW20:(begL 0 ⟨#[97,58,116]⟩ allQ lW20).take 9=[2]:=by kernel_rfl
theorem qrk(w:Dc)(hG:GlobO w):
  Gv Do 17 [] w λr w'=>r=.bool true/\Ext w w':=by
 have ad:tsz Do 47=16:=by kernel_rfl
 have b4:tsz Do 45=4:=by kernel_rfl
 have ae:tsz Do 77=17:=by kernel_rfl
 refine ze Tryz.func17 Tryz.ntmps17 ?_;have Z:=Ext.refl w
 iterate 9
  (refine zcv (qi9 _ _) ?_;rintro r w1 ⟨rfl,e1⟩;replace Z:=Z.trans e1;clear e1;(conv=>whnf))
 refine znm (Mem.nil _) ?_;intro lb w2 U;replace U:Mem w1 w2 [(lb,.cells ((lW20.map qe).flatten).toArray 47)]:=U;have hS:=q4r (enc:=qe) qod (U.get mh);replace Z:=Z.trans U.ext;clear U;obtain⟨g,ar,hA,hc⟩:=hS.at_ (by simp[lW20]);cases hA;(conv=>whnf);refine zcv (qft lW20 (some ⟨lb,0,none⟩) 3 3 w2 hS rfl Od qyq (hG.ext Z).S (hG.ext Z).N (hG.ext Z).E) ?_;rintro r w3 ⟨⟨h0,_⟩|⟨aa,x,pb,vb,tb,rfl,hX⟩,O⟩
 ·exact absurd q3g h0
 replace Z:=Z.trans O;refine zu ?_;refine zcv (q4s _ x pb vb tb w3 hX) ?_;rintro r w4 ⟨rfl,ac⟩;replace Z:=Z.trans ac;replace O:=O.trans ac;rw[aa.n,show((lW20.length:Nat):Int)=3 from rfl];refine zu ?_;refine⟨⟨lb,0,1,rfl,by omega,by omega,?_⟩⟩;rw[ad];refine zu ?_;refine LoadA.cells ((hc 1 _ rfl).ext O) rfl (zu ?_);refine zcv (q4p _ lW20 aa x pb vb tb _ (qyq _ (zmc mh)) w4 (hX.ext ac) (hG.ext Z).S) ?_;rintro r w5 ⟨⟨b,rfl,hb⟩,af⟩;obtain rfl:b=true:=hb.2 (zmc mh);replace Z:=Z.trans af;replace O:=O.trans af;replace hX:=hX.ext (ac.trans af);refine zu ?_;refine zcv (qiq w5) ?_;rintro r w6 ⟨rfl,ag⟩;replace Z:=Z.trans ag;replace O:=O.trans ag;replace hX:=hX.ext ag;refine zu ?_;refine zcv (qvu _ lW20 aa x pb vb tb allQ qwm w6 hX (hG.ext Z).S) ?_;rintro r w7 ⟨rfl,ah⟩;replace Z:=Z.trans ah;replace O:=O.trans ah;replace hX:=hX.ext ah;rw[q3f,show((([0,1,2]:Dn).length:Nat):Int)=3 from rfl];refine zu ?_;refine zcv (qiq w7) ?_;rintro r w8 ⟨rfl,ai⟩;replace Z:=Z.trans ai;replace O:=O.trans ai;replace hX:=hX.ext ai;(conv=>whnf);refine znm (Mem.nil w8) λqb w9 U=>zw ?_;refine StoreA.all U (i:=0) rfl rfl (qbg allQ) λal U=>zw ?_;refine zcv (qi9 _ al) ?_;rintro r au ⟨rfl,e1⟩;replace U:=U.call e1;(conv=>whnf);refine StoreA.mem U (i:=0) rfl Od (by simp[Value.oneCell']) ?_;intro ak U;replace U:Mem w8 ak [(qb,.cells (qe pW20).toArray 47)]:=U;have av:=O.trans U.ext;(conv=>whnf);refine zl U 0 ?_;refine zcv (qi6 _ lW20 aa x pb vb tb pW20 qzx 9 Od ak (hX.ext U.ext) ((hG.ext Z).ext U.ext).S) ?_;rintro r am ⟨⟨v,rfl,hM⟩,e2⟩;rw[show(qa5 pW20 lW20).take 9=[0,2]by rw[show qa5 pW20 lW20=[0,2]from qabm];rfl]at hM;replace U:=U.call e2;obtain⟨B1,d1,rfl,_,h1⟩:=hM;rw[show(snL lW20 [0,2]).length=2 from rfl];obtain⟨g1,o1,rfl,k1⟩:=h1.at_ (by simp[snL]);(conv=>whnf);refine zl U 0 ?_;refine zcv (qv8 _ lW20 aa x pb vb tb pW20 qzx 0 9 Od am (hX.ext U.ext) ((hG.ext Z).ext U.ext).S) ?_;rintro r an ⟨⟨v,rfl,hM⟩,e3⟩;rw[tW20]at hM;replace U:=U.call e3;obtain⟨B2,d2,rfl,_,h2⟩:=hM;rw[show[tmI [97,58,115],tmI [97,58,116]].length=2 from rfl];obtain⟨g2,o2,rfl,k2⟩:=h2.at_ Js;(conv=>whnf);refine zcv (qiq an) ?_;rintro r ao ⟨rfl,e4⟩;replace U:=U.call e4;(conv=>whnf);refine zcv (qis _ lW20 aa x pb vb tb allQ qwm 0 ⟨#[97,58,116]⟩ 9 Od ao (hX.ext U.ext) ((hG.ext Z).ext U.ext).S) ?_;rintro r ab ⟨⟨v,rfl,hM⟩,e5⟩;rw[bW20]at hM;have aj:=U.ext.trans e5;obtain⟨B3,d3,rfl,_,h3⟩:=hM;rw[show(snL lW20 [2]).length=1 from rfl];obtain⟨g3,o3,rfl,k3⟩:=h3.at_ (by simp[snL]);(conv=>whnf);refine zy ?_;have hd:Ext ab ab.drew:=xr.drew;have c1:CellsAt ab.drew g1 (o1+1*17) (snQ ((2:Int),lW20.getD 2 zQ)):=((k1 1 _ rfl).ext (((e3.trans e4).trans e5).trans hd))
 have c2:=((k2 0 _ rfl).ext ((e4.trans e5).trans hd))
 have c3:CellsAt ab.drew g3 (o3+0*17) (snQ ((2:Int),lW20.getD 2 zQ)):=((k3 0 _ rfl).ext hd)
 have c4:=((hc 2 _ rfl).ext ((O.trans aj).trans hd))
 have c5:=((hc 0 _ rfl).ext ((O.trans aj).trans hd))
 have aq:CellsAt ab.drew lb (0+0*16) (encT (tmI [97,58,115])):=λk v hv=>c5 k v (by rw[qe,Ba (Ae.1 hv).1];exact hv)
 refine zv ?_;refine⟨⟨g1,o1,1,rfl,by omega,by decide,?_⟩⟩;rw[ae];refine zu ?_;refine LoadV.of (c1 0 _ rfl) (zu ?_);refine⟨⟨g1,o1,1,rfl,by omega,by decide,?_⟩⟩;rw[ae];refine zu ?_;refine LoadA.cells (qaci c1) rfl (zu ?_);refine⟨⟨lb,0,2,rfl,by omega,by decide,?_⟩⟩;rw[ad];refine zu ?_;refine LoadA.cells c4 rfl (zu ?_);refine RunV.eqQd (a:=lW20.getD 2 zQ) (b:=lW20.getD 2 zQ) ?_;rw[show qcr (lW20.getD 2 zQ) (lW20.getD 2 zQ)=true from by kernel_rfl];refine zu ?_;refine⟨⟨g2,o2,0,rfl,by omega,by decide,?_⟩⟩;rw[b4];refine zu ?_;refine LoadA.cells c2 rfl (zu ?_);refine⟨⟨lb,0,0,rfl,by omega,by decide,?_⟩⟩;rw[ad];refine zu ?_;refine LoadA.cells aq rfl (zu ?_);refine RunV.eqTerm (a:=tmI [97,58,115]) (b:=tmI [97,58,115]) (.inl rfl) ?_;rw[show qai (tmI [97,58,115]) (tmI [97,58,115])=true from by kernel_rfl];refine zu ?_;refine⟨⟨g3,o3,0,rfl,by omega,by decide,?_⟩⟩;rw[ae];refine zu ?_;refine LoadV.of (c3 0 _ rfl) (zu ?_);exact⟨rfl,(Z.trans aj).trans hd⟩
section
variable {p:Q4} {pl:Int} {qs:List Q4} (hk:∀q∈qs,(q.at pl.toNat).kind≠4)
include hk
end
theorem qya{s a b:Dd}(h:hasP s (a++b)=true):hasP s a=true:=by
 simp only[hasP,AB,decide_eq_true_eq,qa1]at h|-;obtain⟨Z,O⟩:=h;have U:(a++b).size=a.size+b.size:=ByteArray.size_append;refine⟨by omega,?_⟩;have e:(s.extract 0 (a++b).size).extract 0 a.size=(a++b).extract 0 a.size:=by rw[O]
 rw[ByteArray.extract_append_eq_left rfl,ByteArray.extract_extract]at e
 simpa[U,Bd]using e
theorem qwq(pl:Int)(a b:Dd)(p:Q4)(qs:List Q4):(begL pl (a++b) p qs).length<=(begL pl a p qs).length:=by
 rw[begL,begL,<-List.countP_eq_length_filter,<-List.countP_eq_length_filter];refine List.countP_mono_left λi _ h=>?_;simp only[begQ,AB]at h|-;exact⟨h.1,h.2.1,qya h.2.2⟩
end Go.Proofs.YtccmcfpmknpccaaGreatDoor
