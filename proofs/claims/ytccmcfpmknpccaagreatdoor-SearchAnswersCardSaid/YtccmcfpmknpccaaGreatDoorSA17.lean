/- Lemmas and contracts of functions on the way to the law's card (part 17 of 20). -/
import Derived.Test.YtccmcfpmknpccaaGreatDoorSA16
import Derived.ChangeKeysEq
namespace Go.Proofs.YtccmcfpmknpccaaGreatDoor
set_option maxHeartbeats 8000000
open Go.RowKit V
set_option maxHeartbeats 8000000
set_option maxRecDepth 100000
variable {b base c d g i id j k m sz tb:Nat} {xo yo:Operand} {w w' w0:DU} {K:Ea} {l:LB} {lb news xs:Ee} {assign body:Code} {ρ:Eb} {ds:Ei} {gf:FuncId} {J:Ed->Ec} {L Y:Ed} {P:DW} {x z:DZ} {e ty:DX} {T ts:List TM} {A:oA}
theorem qtz(A:oA)(c z:Nat):(if c=0 then A else A.map (·.add (0*z)))=A:=by
 rcases A with _|a
 ·split<;>rfl
 ·split
  ·rfl
  ·simp[Addr.add]
theorem qajn{T:TM}{L:List TM}{x:TM}(U:k<=ledC cmpT T L)(H:L[k]?=some x)(h:cmpT x T<0):k+1<=ledC cmpT T L:=by
 rcases Bj k (ledC cmpT T L)with g|g
 ·exact g
 ·obtain rfl:k=ledC cmpT T L:=by omega
  exact absurd h (q4p T H)
theorem qajm{T:TM}{L:List TM}{x:TM}(U:k<=ledC cmpT T L)(H:L[k]?=some x)(h:¬cmpT x T<0):k=ledC cmpT T L:=by
 rcases Bj k (ledC cmpT T L)with g|g
 ·exact absurd (q4r T g H) h
 ·omega
theorem qrg(qs:List Q4)(A:oA)(n c:Nat)(B0:oA)(m0 d0:Nat)(p:Q4)(pl:Int)(w:DU)(hS:SlAt qf 16 w A qs)(hn:qs.length=n)(hb:n<=1048576):
  Gv Eg 44 [.agg #[.slice A n c,.slice B0 m0 d0],qy p,ii pl] w λr w'=>TmR (tasL pl p qs) r w'/\Ext w w':=by
 subst hn;have bm:tsz Eg 77=17:=by kernel_rfl
 have t4:tsz Eg 45=4:=by kernel_rfl
 have az:((Eg.info? 45).get Jk).bytes=56:=by kernel_rfl
 have bn:=qka p qs;obtain⟨M,eM⟩:∃M,M=qbd p qs:=⟨_,rfl⟩
 obtain⟨Ts,a0⟩:∃Ts:List TM,Ts=tatL pl p qs:=⟨_,rfl⟩
 have b9:Ts.length=M.length:=by rw[a0,tatL,AG,eM]
 have eR:tasL pl p qs=if plOk pl=true then qcr cmpT Ts else[]:=by rw[tasL,a0]
 rw[eR];rw[<-eM]at bn;refine ze Tryz.func44 Tryz.ntmps44 ?_;refine znm (Mem.nil w) λxb w1 hm=>zw ?_;refine znm hm λpb w2 hm=>zw ?_;refine zl hm 1 ?_;refine LoadA.mem (cs:=(qf p).toArray) hm (i:=0) rfl rfl (zw ?_);refine zcv (qe5 qs A qs.length c B0 m0 d0 p w2 (hS.ext hm.ext) rfl hb) ?_;rintro r w3 ⟨⟨D,d,rfl,hd,hD⟩,bo⟩;have a7:Ext w w3:=hm.ext.trans bo;clear hm;rw[<-eM]at hD hd|-;rw[qdz]at hd|-;have cJ:=qew w3;(conv=>whnf);refine qk (λx:Nat×DZ×Ed=>[(2,ii pl),(7,.slice D M.length d),(8,x.2.1),(9,ii x.1)])
  (λx w'=>x.1<=M.length/\(x.1=0\/plOk pl=true)/\RowX 45 4 x.2.1 (qcr cmpT (Ts.take x.1)).length ((qcr cmpT (Ts.take x.1)).map encT).flatten x.2.2/\Mem w3 w' x.2.2) (λx=>M.length-x.1) (0,.slice none 0 0,[])
  fq ⟨Ag _,.inl rfl,RowX.nil _ _,Mem.nil w3⟩ ?_
 rintro⟨i,v,Y⟩ w4 bp ⟨hi,a8,hR,H⟩;dsimp only at hi a8 hR H|-;obtain⟨L,eL⟩:∃L,L=qcr cmpT (Ts.take i):=⟨_,rfl⟩
 have a9:=qsi ordT (Ts.take i);rw[<-eL]at hR a9;rw[Az]at a9;obtain⟨O,co,ev,ao,hO⟩:=V.RowX.sl qad hR rfl (λx hx=>H.get hx);subst ev;(conv=>whnf);refine zC (λ_=>zw ?_) (λ_=>zw ?_)
 case' refine_2=>
  obtain rfl:i=M.length:=by omega
  rw[Am Oo]at eL;refine⟨?_,a7.trans H.ext⟩;cases hp:plOk pl
  ·rcases a8 with h0|h0
   ·have:Ts=[]:=Bg Oo;rw[this]at eL;have e0:L=[]:=eL;subst e0;exact⟨O,co,rfl,ao,hO⟩
   ·rw[hp]at h0;cases h0
  ·rw[Ad rfl,<-eL];exact⟨O,co,rfl,ao,hO⟩
 have bq:i<M.length:=by omega
 obtain⟨j,hj⟩:∃j,M[i]?=some j:=⟨_,zge bq⟩
 have cc:j<qs.length:=qyk (p:=p) (by rw[<-eM];exact zmg hj);obtain⟨x,ba⟩:∃x,qs.getD j zQ=x:=⟨_,rfl⟩
 obtain⟨g,bb,rfl,be⟩:=hD.at_ (by intro e;have:=qdz qs M;rw[e]at this;simp at this;omega);have a1:=be i _ (qq7 hj);rw[ba]at a1;have bf:=CellsAt.ext (qakc a1) H.ext;refine⟨⟨g,bb,i,rfl,by omega,by omega,?_⟩⟩;rw[bm];(conv=>whnf);refine LoadA.cells bf rfl (zw ?_);refine zcv (qw7 x pl w4) ?_;rintro r w5 ⟨rfl,bg⟩;replace H:=H.call bg;obtain⟨T,eT⟩:∃T,T=(if plOk pl=true then plT pl x else zTM):=⟨_,rfl⟩
 rw[<-eT];(conv=>whnf);refine NewV.carr cJ H λtb w6 H=>zw ?_;refine StoreA.carr (vs:=encT T) cJ (A:=[]) H rfl (q9 T) ?_;clear H;intro w7 H;have H:Mem w3 w7 ((tb,.cells (encT T).toArray 45)::Y):=H;cases hp:plOk pl
 case false=>
  refine zu ?_;exact⟨⟨none,0,rfl,Ai _,⟨λh=>absurd rfl h⟩⟩,a7.trans H.ext⟩
 rw[hp,Ad rfl]at eT;have br:Ts[i]?=some T:=by rw[a0,tatL,Ao,<-eM,hj,Bd,ba,eT]
 have bh:qcr cmpT (Ts.take (i+1))=insC cmpT T L:=by rw[BD,br,eL];exact quz ordT _ _
 clear eT bf a1 be bg;have cd:=q4q (c:=cmpT) T L;refine zu ?_;refine qk (λk:Nat=>[(2,ii pl),(7,.slice (some ⟨g,bb,none⟩) M.length d),(8,.slice O L.length co),(9,ii i),(10,pp tb),(12,ii k)])
  (λk w'=>k<=ledC cmpT T L/\Mem w3 w' ((tb,.cells (encT T).toArray 45)::Y)) (λk=>L.length-k) 0 fq ⟨Ag _,H⟩ ?_
 clear H hO;rintro k w8 bp ⟨hk,H⟩;obtain⟨_,_,ev,_,hO⟩:=V.RowX.sl qad hR rfl (λx hx=>H.get (zmc hx))
 injection ev with a2 _ a3
 subst a2 a3;have a4:∀W,Ext w8 W->W.heap[tb]?=some (.cells (encT T).toArray 45):=λW he=>he.get (H.get mh)
 have ag:∀W,Ext w8.drew W->Ext w8 W:=λW hd=>(Ext.refl w8).drew.trans hd
 (conv=>whnf);refine DrawV.free Jk Jk (zw ?_);(iterate 5 (refine zd ?_))
 rcases Bj k L.length with aq|aq
 case' inr=>
  have ce:k=L.length:=by omega
  have ah:(decide ((k:Int)<(L.length:Int)))=false:=AM Oo;have ai:(decide ((k:Int)=(L.length:Int)))=true:=AE Oo;rw[ah];(iterate 8 (refine zd ?_));intro w9 af;replace H:=H.drew.call af;refine zu ?_;refine DrawV.free Jk Jk (zw ?_);(iterate 5 (refine zd ?_));rw[ai];(iterate 7 (refine zd ?_));intro bt ad;replace H:=H.drew.call ad;refine zu ?_;have ar:k<=L.length:=by omega
  have aj:insC cmpT T L=L.take k++T::L.drop k:=by
   have e:k=ledC cmpT T L:=by omega
   have:=qx6 ordT (t:=T) (L:=L) (λy hy=>by rw[<-e,Bh Oo]at hy;cases hy)
   rwa[<-e]at this
  clear ah ai af ad a4 ag
 case' inl=>
  obtain⟨y,hy⟩:∃y,L[k]?=some y:=⟨_,zge aq⟩
  obtain⟨go,oo,rfl,aw⟩:=hO.at_ (by intro e;rw[e]at aq;simp at aq);have a5:=aw k y hy;have ah:(decide ((k:Int)<(L.length:Int)))=true:=AE Oo;have ai:(decide ((k:Int)=(L.length:Int)))=false:=AM Oo;rw[ah];refine zd ?_;refine zd ?_;apply zsd (.pointer (some ⟨go,oo+k*4,none⟩))
  ·intro W hd;refine zu ?_;refine⟨⟨go,oo,k,rfl,by omega,by omega,?_⟩⟩;rw[t4];(conv=>whnf);exact xq
  (conv=>whnf);apply zsd (qv y)
  ·intro W hd;refine zu ?_;refine LoadA.cells (CellsAt.ext a5 (ag W hd)) rfl (zw ?_);exact xq
  (conv=>whnf);apply zsd (qv T)
  ·intro W hd;refine zu ?_;refine LoadA.own (a4 W (ag W hd)) rfl (zw ?_);exact xq
  (conv=>whnf);apply zsd (ii (cmpT y T))
  ·intro W hd;refine zu ?_;refine zcv (qbg y T W) ?_;rintro r wx ⟨rfl,hex⟩;exact⟨hex,rfl⟩
  (conv=>whnf);refine zd ?_;refine zd ?_;intro w9 af;have bu:=ag w9 af;replace H:=H.drew.call af
  rcases DH (cmpT y T) 0 with hc|hc
  case' inl=>
   refine zu ?_;exact⟨k+1,⟨rfl,rfl,rfl,rfl,rfl,Ae (Value.int .i64) Oo,trivial⟩,⟨qajn hk hy hc,H⟩,by omega⟩
  have ak:=qajm hk hy Oo;have ax:∀W,Ext w9 W->W.heap[tb]?=some (.cells (encT T).toArray 45):=λW he=>he.get (H.get mh)
  have al:∀W,Ext w9.drew W->Ext w9 W:=λW hd=>(Ext.refl w9).drew.trans hd
  refine zu ?_;refine DrawV.free Jk Jk (zw ?_);(iterate 5 (refine zd ?_));rw[ai];refine zd ?_;refine zd ?_;apply zsd (.pointer (some ⟨go,oo+k*4,none⟩))
  ·intro W hd;refine zu ?_;refine⟨⟨go,oo,k,rfl,by omega,by omega,?_⟩⟩;rw[t4];(conv=>whnf);exact xq
  (conv=>whnf);apply zsd (qv y)
  ·intro W hd;refine zu ?_;refine LoadA.cells (CellsAt.ext a5 (bu.trans (al W hd))) rfl (zw ?_);exact xq
  (conv=>whnf);apply zsd (qv T)
  ·intro W hd;refine zu ?_;refine LoadA.own (ax W (al W hd)) rfl (zw ?_);exact xq
  (conv=>whnf);apply zsd (.bool (!qaj y T))
  ·intro W hd;refine zu ?_;refine RunV.eqTerm (a:=y) (b:=T) (.inr rfl) (zw ?_);exact xq
  (conv=>whnf);refine zd ?_;intro bt ad;replace H:=H.drew.call ad;cases au:qaj y T
  case' true=>
   obtain rfl:=q6.1 au;have e:insC cmpT y L=L:=qafh ordT (by rw[<-ak];exact hy) rfl;refine zu ?_;exact⟨(i+1,.slice (some ⟨go,oo,none⟩) L.length co,Y),⟨rfl,rfl,rfl,Ae (Value.int .i64) Oo,trivial⟩,⟨by dsimp only;omega,.inr rfl,by dsimp only;rw[bh,e];exact hR,H.sub (AS ..)⟩,by dsimp only;omega⟩
  refine zu ?_;have ar:k<=L.length:=by omega
  have aj:insC cmpT T L=L.take k++T::L.drop k:=by
   have:=qx6 ordT (t:=T) (L:=L) (λz hz e=>by
    rw[<-ak,hy]at hz;cases hz;rw[q6.2 e]at au;cases au)
   rwa[<-ak]at this
  obtain⟨O,eO⟩:∃O,O=some (⟨go,oo,none⟩:Addr):=⟨_,rfl⟩
  rw[<-eO]at hO hR|-;clear eO a5 aw ah ai af ad a4 ag ax al au hc
 all_goals
  have bv:(L.map encT).flatten=((L.take k).map encT).flatten++((L.drop k).map encT).flatten:=by rw[<-DF,<-AJ,AW]
  have ay:∀u∈((L.drop k).map encT).flatten,u.oneCell'=true:=λu hu=>by
   obtain⟨l,bw,bz⟩:=DP.1 hu;obtain⟨t,_,rfl⟩:=AF.1 bw;exact q9 t u bz
  have av:(L.drop k).length=L.length-k:=zld;refine NewV.carr cJ H ?_;clear H hO;intro nb cf H;obtain⟨_,_,ev,_,hO⟩:=V.RowX.sl qad hR rfl (λx hx=>H.get (zmc (zmc hx)))
  injection ev with a2 _ a3
  subst a2 a3;have ae:=hO.cut (lo:=k) (hi:=L.length) (m:=co) ar znr ao rfl;rw[Am Oo]at ae;(conv=>whnf);refine SliceV.to k L.length co rfl rfl rfl ar ao znr (λh=>by cases h) ?_;rw[t4];obtain⟨O2,bi⟩:∃O2,O2=(if co=k then O else O.map (·.add (k*4))):=⟨_,rfl⟩
  rw[<-bi]at ae|-;clear bi hO;(conv=>whnf);refine AppV.carr (e:=45) (size:=4) (xs:=[]) (Y:=[(nb,.cells #[] 45)]) (m:=L.length-k) (news:=((L.drop k).map encT).flatten) cJ H ⟨rfl,.inr ⟨nb,0,#[],rfl,rfl,Ai _,Ag _,rfl,rfl⟩⟩ qnx trmI trmZ Jk Jk Od (by rw[qcg encT 4 qad,av]) (λam=>by
   obtain⟨b,o,e,ha⟩:=ae.at_ (by intro e;rw[e]at am;exact am rfl);exact⟨b,o,e,qex Od qad ha⟩) ay (by rw[az];omega) Oo ?_
  clear H ae;intro A3 c3 Z b0 hZ H;have e0:0+(L.length-k)=L.length-k:=As _;rw[e0,Bn]at hZ;rw[e0];have H:Mem w3 b0 (Y++(Z++[(tb,.cells (encT T).toArray 45)])):=by
   refine cJ.perm H ?_;rw[<-Aw];refine Bz.trans ?_;refine List.Perm.trans ?_ Au;exact List.Perm.cons _ Au
  have b1:RowX 45 4 (.slice O k co) k ((L.take k).map encT).flatten Y:=V.RowX.cut (m:=L.length) (ws:=((L.drop k).map encT).flatten) (by rw[<-bv];exact hR) (by rw[qcg encT 4 qad,Az];congr 1;omega) ar;(conv=>whnf);refine DrawV.gen (λS U w'=>ApJ3 (λX w'=>Mem w3 w' X) (Z++[(tb,.cells (encT T).toArray 45)]) Y (.cells (encT T).toArray 45) (λu Y'=>RowX 45 4 u (k+1) (((L.take k).map encT).flatten++encT T) Y') (λu Y'=>RowX 45 4 u (k+1+(L.length-k)) ((((L.take k).map encT).flatten++encT T)++((L.drop k).map encT).flatten) Y') (S 4) (S 5) (S 7) (U 4) (U 5) (U 7) w'/\(S 8=true->S 7=true/\U 8=U 7)) rfl Jk (λU=>⟨.inl ⟨rfl,rfl,rfl,H.drew⟩,λh=>by cases h⟩) ?_;clear H;(conv=>whnf);refine zg ?_;refine zg ?_;refine StepG.of (.slice O k co) (λS U W hk hp hI=>zw ?_) (zw ?_)
  ·refine SliceV.to 0 k co rfl rfl rfl (Ag _) Oo znr (λh=>by cases h) ?_;rw[qtz,C0,C0];(conv=>whnf);exact⟨rfl,hI⟩
  refine StepG.of (qv T) (λS U W hk hp hI=>?_) (zw ?_)
  ·have b2:=hI.1.get cJ (Ac Z (Ak.2 rfl));(conv=>whnf);refine LoadA.own b2 rfl (zw ?_);exact⟨rfl,hI⟩
  refine StepG.any (λS U W hk hp hI=>?_) (zw ?_)
  ·dsimp only at hI;rw[hk]at hI;(conv=>whnf);refine⟨λx wx hb hw=>?_⟩;subst hb hw;(conv=>whnf);exact⟨trivial,hI.1.laid cJ,hI.2⟩
  refine StepG.any (λS U W hk hp hI=>?_) (zw ?_)
  ·dsimp only at hI;have h4:S 4=true:=hp 4 Od;rw[hk,h4]at hI;obtain⟨h7,bj,hv,hJ⟩:=hI.1.ready;have hJ:Mem w3 W (Y++((bj,.cells (encT T).toArray 45)::(Z++[(tb,.cells (encT T).toArray 45)]))):=cJ.perm hJ Bz.symm;rw[qp hv];(conv=>whnf);refine AppV.carr (m:=1) (news:=encT T) cJ hJ b1 qnx trmI trmZ Jk Jk Od rfl (λ_=>⟨bj,0,rfl,λj u hu=>by rw[qa (hJ.get (Ac _ mh)),As,An];exact hu⟩) (q9 T) (by rw[az];omega) Oo ?_;intro A4 c4 Y4 bk an b3;(conv=>whnf);exact⟨trivial,.inr (.inr (.inl ⟨h4,rfl,h7,Y4,an,cJ.dropM b3⟩)),hI.2⟩
  refine zg ?_;refine StepG.any (λS U W hk hp hI=>?_) (zw ?_)
  ·dsimp only at hI;have h5:S 5=true:=hp 5 Od;rw[hk,h5]at hI;obtain⟨h4,Y4,an,hJ⟩:=hI.1.put;obtain⟨A4,c4,hv⟩:=an.slice;rw[hv]at an;obtain⟨_,_,ez,_,b4⟩:=V.RowX.sl qad hZ av (λx hx=>hJ.get (Ac _ (Aj _ hx)))
   injection ez with b5 _ b6
   subst b5 b6;rw[qp hv];(conv=>whnf);refine AppV.carr (m:=L.length-k) (news:=((L.drop k).map encT).flatten) cJ hJ an qnx trmI trmZ Jk Jk Od (by rw[qcg encT 4 qad,av]) (λam=>by
    obtain⟨b,o,e,ha⟩:=b4.at_ (by intro e;rw[e]at am;exact am rfl);exact⟨b,o,e,qex Od qad ha⟩) ay (by rw[az];omega) Oo ?_
   intro A5 c5 Y5 bk aa b7;(conv=>whnf);exact⟨trivial,.inr (.inr (.inr ⟨h4,h5,rfl,Y5,aa,b7⟩)),λh8=>by have:=(hI.2 h8).1;cases this⟩
  refine StepG.any (λS U W hk hp hI=>?_) (zw ?_)
  ·dsimp only at hI;have h7:S 7=true:=hp 7 Od;have h5:S 5=true:=hp 5 Od;have h4:S 4=true:=hp 4 Od;rw[hk,h7]at hI;obtain⟨Y5,aa,hJ⟩:=hI.1.done;obtain⟨A5,c5,hv⟩:=aa.slice;rw[hv]at aa;rw[qp hv];(conv=>whnf);exact⟨trivial,.inr (.inr (.inr ⟨h4,h5,h7,Y5,aa,hJ⟩)),λ_=>⟨h7,rfl⟩⟩
  intro U bk hI;obtain⟨Y5,aa,hJ⟩:=hI.1.done;have a6:=(hI.2 rfl).2;obtain⟨A5,c5,hv⟩:=aa.slice;rw[hv]at aa a6;rw[qp a6];clear hI a6 hv;refine zu ?_;have bl:(insC cmpT T L).length=k+1+(L.length-k):=by rw[aj,zla,Az,AC,av];omega
  exact⟨(i+1,.slice A5 (k+1+(L.length-k)) c5,Y5),⟨rfl,rfl,rfl,Ae (Value.int .i64) Oo,trivial⟩,⟨by dsimp only;omega,.inr rfl,by
   dsimp only;rw[bh,bl,aj]
   simpa using aa,cJ.dropL (cJ.perm hJ Au)⟩,by dsimp only;omega⟩
def qm2(e:Int×Q4):DZ:=.agg (snQ e).toArray
theorem q9f:Eg.underlying 77=some (.struct (Eg.fieldsOf 77)):=by kernel_rfl
theorem qahr:Eg.stoodInHeld 77=false:=by kernel_rfl
theorem qaff:Eg.eqGuardType Eg.depth 77=false:=by kernel_rfl
theorem qnw(d:Nat)(e:Int×Q4)(w:DU):(Op.equalIn (d+4) 77 (qm2 e) (qm2 e)).run Eg w=.ok true w:=by
 have U:=Tryz.underlying3;have V:=Tryz.isAgg3;have W:=Tryz.sizeOf3;have Z:=Tryz.isAgg47;have z4:=Tryz.sizeOf47;simp only[qm2,snQ,qf,encT];rw[run_equalIn_agg w (d+3) _ _ _ q9f qahr];simp only[Program.fieldsOf,Tryz.underlying77];have H:=qg5 d e.2 e.2 w;rw[qmz.2 rfl]at H;simp only[qy]at H
 go_simp
theorem V.RunV.neqSn{e:Int×Q4}(h:K (.bool false) w):
  RunV Eg (do eqGuard .neq 77 xo yo (qm2 e) (qm2 e);binOp .neq 77 (qm2 e) (qm2 e)) w K:=by
 refine⟨_,w,?_,h⟩;have H:=qnw 9996 e w;rw[Sem.run_bind,qm2,run_eqGuard_agg w .neq _ xo yo _ _ qaff,Result.andThen_ok];simp only[qm2]at H;rw[run_neq_struct,H];rfl
theorem qcy(E:List (Int×Q4))(A B:oA)(cA cB:Nat)(w:DU)(hA:SlAt snQ 17 w A E)(hB:SlAt snQ 17 w B E)(hl:E.length<=1152921504606846976):
  Gv Eg 25 [.slice A E.length cA,.slice B E.length cB] w λr w'=>r=.bool true/\Ext w w':=by
 have W:tsz Eg 77=17:=by kernel_rfl
 refine ze Tryz.func25 Tryz.ntmps25 ?_;refine zv ?_;refine qk (λi:Nat=>[(0,.slice A E.length cA),(1,.slice B E.length cB),(5,ii i)]) (λi w'=>i<=E.length/\Ext w w') (λi=>E.length-i) 0 fq ⟨Ag _,xr⟩ ?_;rintro i w1 ae ⟨hi,he⟩;(conv=>whnf);refine zC (λ_=>zw ?_) (λ_=>zw ?_)
 case' refine_2=>exact⟨rfl,he⟩
 have V:i<E.length:=by omega
 have Z:E≠[]:=by intro e;rw[e]at V;simp at V
 obtain⟨g1,o1,rfl,h1⟩:=hA.at_ Z;obtain⟨g2,o2,rfl,h2⟩:=hB.at_ Z;obtain⟨e,aa⟩:∃e,E[i]?=some e:=⟨_,zge V⟩
 have hx:=λH (U:Ext w1.drew H)=>he.trans ((Ext.refl w1).drew.trans U)
 refine DrawV.free Jk Jk (zw ?_);refine zd ?_;refine zd ?_;refine zsd (.pointer (some ⟨g1,o1+i*17,none⟩)) (λH U=>zw ?_) ?_
 ·refine⟨⟨g1,o1,i,rfl,by omega,by omega,?_⟩⟩;rw[W];(conv=>whnf);exact xq
 apply zsd (qm2 e)
 ·intro H U;refine LoadA.cells (CellsAt.ext (h1 i e aa) (hx H U)) rfl (zw ?_);exact xq
 (conv=>whnf);refine zd ?_;refine zd ?_;refine zsd (.pointer (some ⟨g2,o2+i*17,none⟩)) (λH U=>zw ?_) ?_
 ·refine⟨⟨g2,o2,i,rfl,by omega,by omega,?_⟩⟩;rw[W];(conv=>whnf);exact xq
 apply zsd (qm2 e)
 ·intro H U;refine LoadA.cells (CellsAt.ext (h2 i e aa) (hx H U)) rfl (zw ?_);exact xq
 apply zsd (.bool false)
 ·intro H U;refine RunV.neqSn (e:=e) (zw ?_);exact xq
 intro w2 ad;refine zu ?_;exact⟨i+1,⟨rfl,rfl,Ae (Value.int .i64) Oo,trivial⟩,⟨by omega,hx w2 ad⟩,by omega⟩
theorem qf9(E:List TM)(A B:oA)(cA cB:Nat)(w:DU)(hA:SlAt encT 4 w A E)(hB:SlAt encT 4 w B E)(hl:E.length<=1152921504606846976):
  Gv Eg 45 [.slice A E.length cA,.slice B E.length cB] w λr w'=>r=.bool true/\Ext w w':=by
 have t4:tsz Eg 45=4:=by kernel_rfl
 refine ze Tryz.func45 Tryz.ntmps45 ?_;refine zv ?_;refine qk (λi:Nat=>[(0,.slice A E.length cA),(1,.slice B E.length cB),(5,ii i)]) (λi w'=>i<=E.length/\Ext w w') (λi=>E.length-i) 0 fq ⟨Ag _,xr⟩ ?_;rintro i w1 ad ⟨hi,he⟩;(conv=>whnf);refine zC (λ_=>zw ?_) (λ_=>zw ?_)
 case' refine_2=>exact⟨rfl,he⟩
 have V:i<E.length:=by omega
 have W:E≠[]:=by intro e;rw[e]at V;simp at V
 obtain⟨g1,o1,rfl,h1⟩:=hA.at_ W;obtain⟨g2,o2,rfl,h2⟩:=hB.at_ W;obtain⟨e,Z⟩:∃e,E[i]?=some e:=⟨_,zge V⟩
 have hx:=λH (U:Ext w1.drew H)=>he.trans ((Ext.refl w1).drew.trans U)
 refine DrawV.free Jk Jk (zw ?_);refine zd ?_;refine zd ?_;refine zsd (.pointer (some ⟨g1,o1+i*4,none⟩)) (λH U=>zw ?_) ?_
 ·refine⟨⟨g1,o1,i,rfl,by omega,by omega,?_⟩⟩;rw[t4];(conv=>whnf);exact xq
 apply zsd (qv e)
 ·intro H U;refine LoadA.cells (CellsAt.ext (h1 i e Z) (hx H U)) rfl (zw ?_);exact xq
 (conv=>whnf);refine zd ?_;refine zd ?_;refine zsd (.pointer (some ⟨g2,o2+i*4,none⟩)) (λH U=>zw ?_) ?_
 ·refine⟨⟨g2,o2,i,rfl,by omega,by omega,?_⟩⟩;rw[t4];(conv=>whnf);exact xq
 apply zsd (qv e)
 ·intro H U;refine LoadA.cells (CellsAt.ext (h2 i e Z) (hx H U)) rfl (zw ?_);exact xq
 apply zsd (.bool false)
 ·intro H U;refine RunV.eqTerm (a:=e) (b:=e) (.inr rfl) ?_;rw[q6.2 rfl];(conv=>whnf);exact xq
 intro w2 aa;refine zu ?_;exact⟨i+1,⟨rfl,rfl,Ae (Value.int .i64) Oo,trivial⟩,⟨by omega,hx w2 aa⟩,by omega⟩
theorem qlx(A:oA)(n c m:Nat)(w:DU)(hc:n<=c):Gv Eg 42 [.slice A n c,ii m] w λr w'=>r=.slice A (min n m) c/\Ext w w':=by
 have H:tsz Eg 77=17:=by kernel_rfl
 refine ze Tryz.func42 Tryz.ntmps42 ?_;refine V.Fall.min2 rfl rfl rfl λU W=>?_;obtain⟨k,Z⟩:∃k,k=min n m:=⟨_,rfl⟩
 obtain rfl:U=(k:Int):=by omega
 refine V.SliceV.to 0 k c rfl rfl rfl (Ag _) Oo znr (λh=>by cases h) ?_;rw[qtz,C0,C0];(conv=>whnf);exact⟨by rw[<-Z],xr⟩
theorem qmy(l:LB)(A B:oA)(cA cB:Nat)(w:DU)(hA:SlAt encB 1 w A l)(hB:SlAt encB 1 w B l)(hl:l.length<=1152921504606846976):
  Gv Eg 47 [.slice A l.length cA,.slice B l.length cB] w λr w'=>r=.bool true/\Ext w w':=by
 refine ze Tryz.func47 Tryz.ntmps47 ?_;refine zv ?_;refine qk (λi:Nat=>[(0,.slice A l.length cA),(1,.slice B l.length cB),(5,ii i)]) (λi w'=>i<=l.length/\Ext w w') (λi=>l.length-i) 0 fq ⟨Ag _,xr⟩ ?_;rintro i W aa ⟨hi,V⟩;(conv=>whnf);refine zC (λ_=>zw ?_) (λ_=>zw ?_)
 ·have H:i<l.length:=by omega
  have U:l≠[]:=by intro e;rw[e]at H;simp at H
  obtain⟨g1,o1,rfl,Z⟩:=(hA.ext (V.trans (Ext.refl W).drew)).at_ U;obtain⟨g2,o2,rfl,h2⟩:=(hB.ext (V.trans (Ext.refl W).drew)).at_ U;have Z:=Z i _ (zge H);have h2:=h2 i _ (zge H);refine zy ?_;refine zv ?_;refine⟨⟨g1,o1,i,rfl,by omega,by omega,?_⟩⟩;rw[show tsz Eg 5=1 from by kernel_rfl];refine zu ?_;refine LoadV.cell0 Z (zu ?_);refine⟨⟨g2,o2,i,rfl,by omega,by omega,?_⟩⟩;rw[show tsz Eg 5=1 from by kernel_rfl];refine zu ?_;refine LoadV.cell0 h2 (zu ?_);exact⟨i+1,⟨rfl,rfl,Ae (Value.int .i64) Oo,trivial⟩,⟨by omega,V.trans (Ext.refl W).drew⟩,by omega⟩
 ·exact⟨rfl,V⟩
def u8L(l:LB):Ee:=l.map λc=>Value.int .u8 c.toNat
theorem qd1(l:LB):(u8L l).length=l.length:=AG ..
theorem q6x(L:Ee)(x y z:DZ):(L++[x,y]).toArray.setIfInBounds L.length z=(L++[z,y]).toArray:=by
 rw[<-BA];simp
theorem q6y(L:Ee)(x y z:DZ):(L++[x,y]).toArray.setIfInBounds (L.length+1) z=(L++[x,z]).toArray:=by
 rw[<-BA];simp
theorem qwv(n:Nat):qck [Value.int .u8 0] n=List.replicate n (Value.int .u8 0):=by
 induction n with
 | zero=>rfl
 | succ n H=>rw[qck,H];rfl
def LentS(l:LB)(base:Nat)(v:DZ)(w:DU):Prop:=
 ∃g,v=.slice (some ⟨g,0,none⟩) l.length (l.length+2)/\base<=g/\w.heap[g]?=some (.cells (u8L l++[Value.int .u8 171,Value.int .u8 172]).toArray 5)
theorem LentS.ext{v:DZ}(h:LentS l base v w)(H:Ext w w'):LentS l base v w':=by
 obtain⟨g,U,V,W⟩:=h;exact⟨g,U,V,H.get W⟩
theorem qadq{t:DX}(h:w.heap[g]?=some (.cells (u8L l++xs).toArray t)):SlAt encB 1 w (some ⟨g,0,none⟩) l:=by
 refine⟨λ_=>⟨g,0,rfl,λj x H k v U=>?_⟩⟩;have V:=(Af.1 H).1;obtain rfl:k=0:=by
  have:k<1:=(Af.1 U).1;omega
 rw[qa h,An,Ba (by rw[qd1];omega),u8L,Ao,show 0+j*1+0=j by omega,H];exact U
theorem q0a(l:LB)(A:oA)(c:Nat)(w:DU)(hS:SlAt encB 1 w A l)(hl:l.length<=140737488351232):
  Gv Eg 10 [.slice A l.length c] w λv w'=>LentS l w.heap.size v w'/\Ext w w':=by
 have t1:tsz Eg 5=1:=by kernel_rfl
 refine ze Tryz.func10 Tryz.ntmps10 ?_;refine zv ?_;refine⟨l.length+2,l.length+2,by omega,by omega,Ai _,show(l.length+2)*1<=140737488355328 by omega,by omega,?_⟩;intro U w1 ad ae;have H:Mem w w1 [(U,.cells (qck [Value.int .u8 0] (l.length+2)).toArray 5)]:=(Mem.nil w).new ad ae;clear ad ae;have hu:Eg.underlying 32=some (.slice 5):=Tryz.underlying32;have af:(Eg.info? 5).map (·.size)=some 1:=by kernel_rfl
 have hg:=H.get mh;have ai:(qck [Value.int .u8 0] (l.length+2)).length=l.length+2:=by rw[qi2];simp
 (conv=>whnf);have ak:∀Z,Mem w Z [(U,.cells (u8L l++[Value.int .u8 0,Value.int .u8 0]).toArray 5)]->Mem w Z [(U,.cells (u8L l++[Value.int .u8 0,Value.int .u8 0]).toArray 5)]:=λ_ h=>h
 rcases B9 l.length with h0|h0
 case' inl=>
  have W:=run_copy_none (P:=Eg) w1 32 32 3 5 (some ⟨U,0,none⟩) A (l.length+2) (l.length+2) l.length c hu af (by rw[h0];rfl);refine Fall.copy rfl rfl rfl _ _ W ?_;have e:l=[]:=Bg h0;have H:Mem w w1 [(U,.cells (u8L l++[Value.int .u8 0,Value.int .u8 0]).toArray 5)]:=by
   rw[e];rw[e]at H;exact H
  obtain⟨Z,aa⟩:∃Z,Z=w1:=⟨_,rfl⟩
  rw[<-aa]at H|-
 case' inr=>
  obtain⟨gb,go,eA,aj⟩:=hS.at_ (by intro e;rw[e]at h0;simp at h0);subst eA;have W:=run_copy_row (P:=Eg) w1 32 32 3 5 U 0 (l.length+2) (l.length+2) ⟨gb,go,none⟩ l.length c _ 5 (u8L l) hu af hg (by rw[qd1];exact(BG Oo).symm) (λj v hv=>by
   rw[u8L,Ao]at hv;obtain⟨x,hx,rfl⟩:=CO.1 hv;have h1:=Ext.cell H.ext (aj j x hx 0 _ rfl);rw[AZ,BB]at h1;have ea:(⟨gb,go,none⟩:Addr).add j=⟨gb,go+j,none⟩:=by unfold Addr.add;split<;>simp_all
   rw[ea];exact h1) (by rw[qd1,As];simp[ai]) (λv hv=>by
   obtain⟨x,_,rfl⟩:=AF.1 hv;rfl)
  have ec:((qck [Value.int .u8 0] (l.length+2)).toArray.toList.take 0++u8L l++(qck [Value.int .u8 0] (l.length+2)).toArray.toList.drop (0+(u8L l).length)).toArray=(u8L l++[Value.int .u8 0,Value.int .u8 0]).toArray:=by
   rw[BH,Bn,qwv,qd1];simp
  rw[ec]at W;refine Fall.copy rfl rfl rfl _ _ W ?_;have ag:Mem w (w1.setRow U (u8L l++[Value.int .u8 0,Value.int .u8 0]).toArray) [(U,.cells (u8L l++[Value.int .u8 0,Value.int .u8 0]).toArray 5)]:=by
   refine H.set (i:=0) rfl (Below.trans H.ext ⟨rfl,rfl,rfl,by simp[World.setRow],λk hk=>qq (by have:=(H.own _ mh).1;simp only at this;omega)⟩) (qbw hg) (λc hc=>qq hc)
  obtain⟨Z,aa⟩:∃Z,Z=w1.setRow U (u8L l++[Value.int .u8 0,Value.int .u8 0]).toArray:=⟨_,rfl⟩
  rw[<-aa]at ag|-;clear H;have H:=ag
 all_goals
  have ah:=qd1 l;unfold goInt;(conv=>whnf);refine ElemV.own1 l.length rfl Oo (zw ?_);refine StoreV.mem H (i:=0) rfl (by simp[qd1]) rfl ?_;clear H;intro w3 H;replace H:Mem w w3 [(U,.cells ((u8L l++[Value.int .u8 0,Value.int .u8 0]).toArray.setIfInBounds l.length (Value.int .u8 171)) 5)]:=H;have e1:=q6x (u8L l) (Value.int .u8 0) (Value.int .u8 0) (Value.int .u8 171);rw[ah]at e1;rw[e1]at H;refine zu ?_;refine ElemV.own1 (l.length+1) Oo Oo (zw ?_);refine StoreV.mem H (i:=0) rfl (by simp[qd1]) rfl ?_;clear H;intro w4 H;replace H:Mem w w4 [(U,.cells ((u8L l++[Value.int .u8 171,Value.int .u8 0]).toArray.setIfInBounds (l.length+1) (Value.int .u8 172)) 5)]:=H;have e2:=q6y (u8L l) (Value.int .u8 171) (Value.int .u8 0) (Value.int .u8 172);rw[ah]at e2;rw[e2]at H;(conv=>whnf);refine V.SliceV.to 0 l.length (l.length+2) rfl rfl rfl (Ag _) Oo znr (λh=>by cases h) ?_;rw[qtz,C0,C0];(conv=>whnf);exact⟨⟨U,rfl,(H.own _ mh).1,H.get mh⟩,H.ext⟩
theorem qn0(l:LB)(base:Nat)(v:DZ)(B:oA)(c:Nat)(w:DU)(hL:LentS l base v w)(hS:SlAt encB 1 w B l)(hl:l.length<=140737488351232):
  Gv Eg 14 [v,.slice B l.length c] w λr w'=>r=.bool true/\Ext w w':=by
 have t1:tsz Eg 5=1:=by kernel_rfl
 obtain⟨g,rfl,_,W⟩:=hL;have H:∀w',Ext w w'->∀k x,[Value.int .u8 171,Value.int .u8 172][k]?=some x->w'.cell? ⟨g,l.length+k,none⟩=some x:=λw' he k x hx=>by
  rw[qa (he.get W),An,Be (by rw[qd1];omega),qd1,BJ];exact hx
 refine ze Tryz.func14 Tryz.ntmps14 ?_;refine zv ?_;refine V.SliceV.to 0 (l.length+2) (l.length+2) rfl (q8i Oo) rfl (Ag _) znr znr (λh=>by cases h) ?_;rw[qtz,C0];(conv=>whnf);refine zcv (qmy l (some ⟨g,0,none⟩) B (l.length+2) c w (qadq W) hS Oo) ?_;rintro r Z ⟨rfl,U⟩;refine zu ?_;refine ElemV.own1 l.length rfl Oo (zu ?_);refine LoadV.of (H Z U 0 _ rfl) (zu ?_);refine ElemV.own1 (l.length+1) Oo Oo (zu ?_);refine LoadV.of (H Z U 1 _ rfl) (zu ?_);exact⟨rfl,U⟩
open Go.RowKit
namespace V
variable {P:DW} {n:Nat}
theorem qaj6{f:Operand}{Z:Array Tmp}{Q:QW}{Φ:Ec}{xs:List Ee}(hf:ev ρ f=.func (.func gf) #[] lb.toArray)(he:qdp P gf=true)(V:SeqC P gf lb xs Φ)(ad:Z.toList.all (Nat.blt · n)=true)(ae:∀x∈xs,x.length=Z.size)(e:Nat)(J Jx:Nat->Ed->Ec)(F:Ed->Ec)(hJ:∀k,Carr (J k))(af:∀k,Carr (Jx k))(hw:∀k X w,J k X w->Φ w)(h0:J 0 [] w)(ak:∀X w,J xs.length X w->F X w)(ag:∀k X w,k<xs.length->Jx k X w->F X w)(hQ:∀ds w,Q .normal ρ ds w->Q (.exit e) ρ ds w)(W:∀D w',F [(D,.deferred (some []))] w'->Q .normal ρ ({ target:=.collected D,args:=#[] }::ds) w')(H:∀l D ob U k x X w1,xs[k]?=some x->J k ((l,ob)::(D,.deferred (some []))::X) w1->
   qfn P n (some l) assign (qaaf λah ai aj=>BeginA (J k) l ob U aj ai
    (λw2=>qfn P n (some l) body (qy3 (J (k+1) ((l,U)::(D,.deferred (some []))::X)) (λc=>λw=>c=.exit e/\Jx k ((l,U)::(D,.deferred (some []))::X) w)) ah [] w2)) (qtu Z.toList x ρ) [] w1):RangeW P n none f Z assign body Q ρ ds w:=by
 refine q5x (Jx:=λc k X w=>c=.exit e/\Jx k X w) hf he V ad ae J hJ (λc k=>Carr.and (af k)) hw h0 H (by grind) ?_;rintro D c k w' hk ⟨rfl,h⟩;exact hQ _ _ (W D w' (ag k _ _ hk h))
end V
def TkJ(J:Ed->Ec)(lb:Nat)(ty e sz:DX)(rows:List Ee)(m:Nat)(k:Nat)(X:Ed)(w:DU):Prop:=
 ∃s:DZ×Ed,(RowX e sz s.1 k (rows.take k).flatten s.2/\k<=m)/\J (X++(s.2++[(lb,.cells #[s.1] ty)])) w
theorem TkJ.carr(H:Carr J)(lb:Nat)(ty e sz:DX)(rows:List Ee)(m k:Nat):Carr (TkJ J lb ty e sz rows m k):=Carr.ex λ_=>H.tail _
def TkF(J:Ed->Ec)(lb:Nat)(ty e sz:DX)(rows:List Ee)(X:Ed)(w:DU):Prop:=
 ∃s:DZ×Ed,RowX e sz s.1 rows.length rows.flatten s.2/\J (X++(s.2++[(lb,.cells #[s.1] ty)])) w
section
variable {J:Ed->Ec} {lb:Nat} {ty e sz:DX} {rows:List Ee} {m:Nat} {X:Ed} {w:DU}
theorem TkJ.all{n:Nat}(U:n=rows.length)(h:TkJ J lb ty e sz rows m n X w):TkF J lb ty e sz (rows.take m) X w:=by
 subst U;obtain⟨s,⟨H,V⟩,W⟩:=h;rw[Cb]at H;rw[Am V];exact⟨s,H,W⟩
theorem TkJ.cut{n:Nat}(V:n=rows.length)(W:k<n)(h:k=m/\TkJ J lb ty e sz rows m k X w):TkF J lb ty e sz (rows.take m) X w:=by
 obtain⟨rfl,s,⟨H,_⟩,U⟩:=h;refine⟨s,?_,U⟩;rw[Az,BG Oo];exact H
end
theorem qre{rows:List Ee}{r:Ee}(h:rows[k]?=some r):(rows.take (k+1)).flatten=(rows.take k).flatten++r:=by
 rw[BD,h];simp
theorem qim{W:Type}{H:W->Ee}{e:Nat}{v:DZ}(U:∀x,(H x).length=sz){l:List W}(h:RowX e sz v (l.map H).length (l.map H).flatten Y)(Z:∀x∈Y,w.heap[x.1]?=some x.2):
  ∃A c,v=.slice A l.length c/\l.length<=c/\SlAt H sz w A l:=by
 rw[AG]at h;exact V.RowX.sl U h rfl Z
theorem qyq{H:Type}(u:H)(Y Z B:List H):(Y++u::(Z++B)).Perm (u::(Z++(Y++B))):=
 Bz.trans (.cons _ (by rw[<-Aw,<-Aw];exact Au.append_right _))
theorem V.AppV.box{e te H:Nat}{v:DZ}{n ub lb:Nat}{t:DX}{i:TypeInfo}{Z:Ed}(V:Carr J)(h:J ((ub,.cells news.toArray te)::(Z++(Y++[(lb,.cells #[x] tb)]))) w)(hR:RowX e H v n xs Y)(ht:P.underlying t=some (.slice e))(hi:P.info? e=some i)(hz:i.zero=some z)(U:i.size=H)(aa:z.cells.size=H)(ad:0<H)(hl:news.length=1*H)(h1:∀u∈news,u.oneCell'=true)(hb:(n+1)*i.bytes<=140737488355328)(hk:∀A' c' W w',RowX e H (.slice A' (n+1) c') (n+1) (xs++news) W->J (Z++(W++[(lb,.cells #[x] tb)])) w'->K (.slice A' (n+1) c') w')(ae:n+1<=140737488355328:=by omega):AppV P #[t,t] ty v (.slice (some ⟨ub,0,none⟩) 1 c) w K:=
 AppV.carr V (V.perm h (qyq _ Y Z _).symm) hR ht hi hz U aa ad hl (λ_=>⟨ub,0,rfl,λj u hu=>by rw[qa (V.get h mh),As,An];exact hu⟩) h1 hb ae λA' c' W w' af h'=>hk A' c' W w' af (V.drop (V.perm h' (qyq _ W Z _)))
theorem V.StoreV.box(H:Carr J){Z:Ed}{v:DZ}{t:DX}{K:Ec}(h:J (Z++(Y++[(b,.cells #[x] t)])) w)(U:∀w',J (Z++(Y++[(b,.cells #[v] t)])) w'->K w')(V:qco v=true:=by rfl):StoreV w b 0 v K:=by
 rw[<-Aw]at h;refine StoreV.carr H h (by show 0<1;omega) V λw' W=>U w' ?_;rw[<-Aw];exact W
theorem qoo{n:Nat}{f:Operand}{Z:Array Tmp}{Q:QW}{Φ:Ec}{ls:Ee}{xs:List Ee}(e sz:Nat){ty:Nat}{el:DX}{N:Ed}{rows:List Ee}(V:SeqC P gf ls xs Φ)(ad:∀x∈xs,x.length=Z.size)(ae:∀N X w',Mem w0 w' (X++(N++L))->Φ w')(hx:xs.length=rows.length)(h0:Mem w0 w ([]++([]++[(b,.cells #[.slice none 0 0] ty)])++(N++L)))(W:∀D w',TkF (λX w'=>Mem w0 w' (X++(N++L))) b ty el sz (rows.take m) [(D,.deferred (some []))] w'->Q .normal ρ ({ target:=.collected D,args:=#[] }::ds) w')(H:∀l D ob U k x X w1,xs[k]?=some x->TkJ (λX w'=>Mem w0 w' (X++(N++L))) b ty el sz rows m k ((l,ob)::(D,.deferred (some []))::X) w1->
   qfn P n (some l) assign (qaaf λaf ag ah=>BeginA (TkJ (λX w'=>Mem w0 w' (X++(N++L))) b ty el sz rows m k) l ob U ah ag
    (λw2=>qfn P n (some l) body (qy3 (TkJ (λX w'=>Mem w0 w' (X++(N++L))) b ty el sz rows m (k+1) ((l,U)::(D,.deferred (some []))::X)) (λc=>λw=>c=.exit e/\k=m/\TkJ (λX w'=>Mem w0 w' (X++(N++L))) b ty el sz rows m k ((l,U)::(D,.deferred (some []))::X) w)) af [] w2)) (qtu Z.toList x ρ) [] w1)(hf:ev ρ f=.func (.func gf) #[] ls.toArray:=by rfl)(he:qdp P gf=true:=by kernel_rfl)(ai:Z.toList.all (Nat.blt · n)=true:=by decide)(hQ:∀ds w,Q .normal ρ ds w->Q (.exit e) ρ ds w:=by exact λ_ _ h=>h):RangeW P n none f Z assign body Q ρ ds w:=
 qaj6 (Jx:=λk X w'=>k=m/\TkJ (λX w'=>Mem w0 w' (X++(N++L))) b ty el sz rows m k X w') hf he V ai ad e (TkJ _ b ty el sz rows m) (TkF (λX w'=>Mem w0 w' (X++(N++L))) b ty el sz (rows.take m)) (λk=>TkJ.carr ((qew w0).tail _) _ _ _ _ _ _ k) (λk=>Carr.and (TkJ.carr ((qew w0).tail _) _ _ _ _ _ _ k)) (λ_ _ _ ⟨_,_,hh⟩=>ae _ _ _ hh)
  ⟨(.slice none 0 0,[]),⟨RowX.nil _ _,Ag _⟩,h0⟩ (λ_ _ h=>TkJ.all hx h) (λ_ _ _ hk h=>TkJ.cut hx hk h) hQ W H
theorem qu8(T:List TM)(V:List Q4)(h:EncOk T V)(x pb vb tb:Nat)(p:Q4)(hp:qa5 p)(m:Nat)(be:m<=9223372036854775807)(w:DU)(hX:IdxE w x pb vb tb (encP T V))(hG:GlobS w):
  Gv Eg 22 [pp x,qy p,ii m] w λr w'=>(∃v,r=.tuple #[v,.bool true]/\SnR (snL V ((qbd p V).take m)) v w')/\Ext w w':=by
 have bb:=h.set.len;have au:((Eg.info? 77).get Jk).bytes=232:=s20B;have bf:((Eg.info? 45).get Jk).bytes=56:=by kernel_rfl
 obtain⟨M,eM⟩:∃M,M=qbd p V:=⟨_,rfl⟩
 have bg:M.length<=V.length:=by rw[eM];exact qka p V
 rw[<-eM];obtain⟨rows,W⟩:∃rows:List Ee,rows=(snL V M).map snQ:=⟨_,rfl⟩
 have av:rows.length=M.length:=by rw[W,AG,qdz]
 have ag:(M.map (sRow V)).length=rows.length:=by rw[AG,av]
 refine gvW Jk Tryz.func22 rfl Tryz.ntmps22 rfl (zw ?_);refine znm (Mem.nil w) λb4 w1 U=>zw ?_;refine znm U λbm w2 U=>zw ?_;refine znm U λb8 w3 U=>zw ?_;refine znm U λb9 w4 U=>zw ?_;refine LoadA.mem (cs:=(qf p).toArray) U (i:=3) rfl rfl (zw ?_);refine zcv (qjy x p w4) ?_;rintro r w5 ⟨c1,c2,rfl,ah⟩;replace U:=U.glue ah;obtain⟨L,hL⟩:∃L:Ed,L=[(bm,.cells #[ii m] 3),(b4,.cells (qf p).toArray 47),(c2,.cells (qf p).toArray 47),(c1,.cells #[pp x] 26)]:=⟨_,rfl⟩
 have ai:(c1,Obj.cells #[pp x] 26)∈L:=by rw[hL];simp
 have aj:(c2,Obj.cells (qf p).toArray 47)∈L:=by rw[hL];simp
 have ak:(bm,Obj.cells #[ii m] 3)∈L:=by rw[hL];simp
 have aw:∀(N:Ed) (X:Ed) (w':DU),Mem w w' (X++(N++L))->w'.heap[bm]?=some (.cells #[ii m] 3):=λN X w' hh=>hh.get (Ac _ (Ac _ ak))
 have al:∀(N:Ed) (X:Ed) (w':DU),Mem w w' (X++(N++L))->SmaΦ x pb vb tb T V p c1 c2 w':=λN X w' hh=>⟨hX.ext hh.ext,hG.ext hh.ext,by rw[qa (hh.get (Ac _ (Ac _ ai)))];rfl,λj v hv=>by rw[qa (hh.get (Ac _ (Ac _ aj))),As,An];exact hv⟩
 have ad:=qjz T V h x pb vb tb p hp (h.idX p) c1 c2;rw[<-eM]at ad;have am:∀r∈(M.map (sRow V)),r.length=2:=λr hr=>by
  obtain⟨j,_,rfl⟩:=AF.1 hr;rfl
 replace U:Mem w w5 ([]++([]++[(b8,.cells #[.slice none 0 0] 71)])++([(b9,.cells #[.slice none 0 0] 71)]++L)):=by
  rw[hL];exact(qew w).perm U ((Au (l₁:=[(c2,Obj.cells (qf p).toArray 47),(c1,Obj.cells #[pp x] 26),(b9,Obj.cells #[.slice none 0 0] 71)]) (l₂:=[_,_,_])).trans (List.Perm.cons _ (Au (l₁:=[_,_,_,_]) (l₂:=[_]))))
 clear ah;(conv=>whnf);refine qoo (b:=b8) (el:=77) (m:=m) (N:=[(b9,.cells #[.slice none 0 0] 71)]) 0 17 ad am al ag U ?r1 ?b1
 case' b1=>
  obtain⟨lb,rfl⟩:∃lb,lb=b8:=⟨_,rfl⟩
  generalize[(b9,Obj.cells #[.slice none 0 0] 71)]=N
 case' r1=>
  rintro D1 w6 ⟨⟨v1,Y1⟩,ae,H⟩;dsimp only at ae H;obtain⟨N,eN⟩:∃N:Ed,N=(D1,.deferred (some []))::(Y1++[(b8,.cells #[v1] 71)]):=⟨_,rfl⟩
  replace U:Mem w w6 ([]++([]++[(b9,.cells #[.slice none 0 0] 71)])++(N++L)):=(qew w).perm (show Mem w w6 (N++(b9,.cells #[.slice none 0 0] 71)::L)by rw[eN];exact H) Bz;clear H;(conv=>whnf);refine qoo (b:=b9) (el:=77) (m:=m) (N:=N) 2 17 ad am al ag U ?r2 ?b2
 case' b2=>obtain⟨lb,rfl⟩:∃lb,lb=b9:=⟨_,rfl⟩
 case' b1|b2=>
  clear U;rintro l2 D oa od k r X w6 hr H;rw[Ao]at hr;cases Z:M[k]? with
  | none=>rw[Z]at hr;cases hr
  | some i=>
  rw[Z,Bd,AR]at hr;subst hr;have bh:=(Af.1 Z).1;have cJ:Carr (λX w'=>Mem w w' (X++(N++L))):=(qew w).tail _;have cS:=TkJ.carr cJ lb 71 77 17 rows m k;obtain⟨q,eq⟩:∃q,V.getD i zQ=q:=⟨_,rfl⟩
  have ax:rows[k]?=some (snQ ((i:Int),q)):=by rw[W,Ao,qq7 Z,Bd,eq]
  rw[show sRow V i=[ii i,qy q]by rw[sRow,eq]];(conv=>whnf);refine NewV.carr cS H λnb w7 H=>zw ?_;refine StoreA.carr (vs:=qf q) cS (A:=[]) H rfl (qb1 q) λw8 H=>zw ?_;refine⟨rfl,(nb,.cells (qf q).toArray 47)::(D,.deferred (some []))::X,cS.perm H (List.Perm.swap _ _ _),?_⟩;clear H;rintro w9 ⟨⟨v,Y⟩,⟨hR,ay⟩,H⟩;dsimp only at hR H;obtain⟨Av,cv,ev⟩:=hR.slice;subst ev;have hg:=H.get (b:=lb) (o:=.cells #[.slice Av k cv] 71) Js;(conv=>whnf);refine LoadV.own hg rfl (zw ?_);refine LoadV.own (aw _ _ _ H) rfl (zw ?_)
  (repeat' refine zC (λ_=>zw ?_) (λ_=>zw ?_))
  case' refine_1=>exact⟨rfl,by omega,(.slice Av k cv,Y),⟨hR,ay⟩,cJ.dropM (A:=[(l2,od)]) H⟩
  refine LoadV.own hg rfl (zw ?_);refine LoadA.own (H.get (b:=nb) (o:=.cells (qf q).toArray 47) Js) rfl (zw ?_);refine NewV.carr cJ H λub bi H=>zw ?_;refine AppV.box (news:=snQ ((i:Int),q)) cJ H hR qaa5 s20I s20Z Jk Jk Od rfl (qq8 _) (by rw[au];omega) ?_;clear H;intro A5 c5 Y5 bj az H;(conv=>whnf);refine StoreV.box cJ H λbk H=>zw ?_;exact⟨(.slice A5 (k+1) c5,Y5),⟨by rw[qre ax];exact az,by omega⟩,cJ.dropM (A:=[(l2,od)]) H⟩
 rintro D2 w7 ⟨⟨v2,Y2⟩,af,H⟩;dsimp only at af H;clear U;obtain⟨E,eE⟩:∃E,E=snL V (M.take m):=⟨_,rfl⟩
 have aq:rows.take m=E.map snQ:=by rw[W,eE,<-CI,snL,snL,<-CI]
 rw[aq]at ae af;have bl:E.length<=1048576:=by
  have:=Ae List.length aq;rw[Az,AG]at this;omega
 have a0:∀y∈Y1,w7.heap[y.1]?=some y.2:=λy hy=>H.get (Ac _ (Aj _ (by rw[eN];exact zmc (Aj _ hy))))
 have a1:∀y∈Y2,w7.heap[y.1]?=some y.2:=λy hy=>H.get (Aj _ (Ac _ (Aj _ hy)))
 obtain⟨A1,d1,rfl,a2,a3⟩:=qim qgc ae a0;obtain⟨A2,d2,rfl,bn,a4⟩:=qim qgc af a1;have ar:w7.heap[b8]?=some (.cells #[.slice A1 E.length d1] 71):=H.get (Ac _ (Aj _ (by rw[eN];simp)));have a5:w7.heap[b9]?=some (.cells #[.slice A2 E.length d2] 71):=H.get (Aj _ Js);have aa:∀wd,Ext w7.drew wd->Ext w7 wd:=λwd hd=>(Ext.refl w7).drew.trans hd
 (conv=>whnf);refine DrawW.any Jk (.inl rfl) (AnyV.free Jk ?_);(conv=>whnf);refine zsd (.slice A1 E.length d1) (λwd hd=>zw ?_) (zw ?_)
 ·refine LoadV.own ((aa wd hd).get ar) rfl (zw ?_);exact xq
 refine zsd (.slice A1 E.length d1) (λwd hd=>zw ?_) (zw ?_)
 ·refine LoadV.own ((aa wd hd).get ar) rfl (zw ?_);exact xq
 refine zsd (.slice A2 E.length d2) (λwd hd=>zw ?_) (zw ?_)
 ·refine LoadV.own ((aa wd hd).get a5) rfl (zw ?_);exact xq
 refine zsd (.bool true) (λwd hd=>zw ?_) (zw ?_)
 ·refine zcv (qcy E A1 A2 d1 d2 wd (a3.ext (aa wd hd)) (a4.ext (aa wd hd)) Oo) ?_;rintro r wx ⟨rfl,hex⟩;exact⟨hex,rfl⟩
 refine zd ?_;refine zd ?_;intro w8 a6;replace H:=H.call (aa w8 a6);rw[eN]at H;(conv=>whnf);obtain⟨R,eR⟩:∃R:Ed,R=(Y2++[(b9,.cells #[.slice A2 E.length d2] 71)])++((Y1++[(b8,.cells #[.slice A1 E.length d1] 71)])++L):=⟨_,rfl⟩
 have a7:∀y∈Y1,y∈R:=λy hy=>by rw[eR];exact Ac _ (Aj _ (Aj _ hy))
 replace H:Mem w w8 ((D2,.deferred (some []))::((Y2++[(b9,.cells #[.slice A2 E.length d2] 71)])++(D1,.deferred (some []))::((Y1++[(b8,.cells #[.slice A1 E.length d1] 71)])++L))):=H;replace H:Mem w w8 ((D2,.deferred (some []))::(D1,.deferred (some []))::R):=by rw[eR];exact(qew w).perm H (List.Perm.cons _ Bz)
 refine LeaveV.marks (J:=λX w'=>Mem w w' (X++R)) ((qew w).tail R) ?_ (D:=D2) (Ds:=[D1]) H;intro w' h';(conv=>whnf);obtain⟨A3,d3,e3,bo,a8⟩:=qim qgc ae (w:=w') (λy hy=>h'.get (Ac [] (a7 y hy)))
 injection e3 with a9 _ ba
 subst a9 ba;exact⟨⟨_,rfl,A1,d1,by rw[eE],by rw[<-eE];exact a2,by rw[<-eE];exact a8⟩,h'.ext⟩
theorem q13(T:List TM)(V:List Q4)(h:EncOk T V)(x pb vb tb:Nat)(p:Q4)(hp:qa5 p)(pl:Int)(pre:DV)(m:Nat)(bg:m<=9223372036854775807)(w:DU)(hX:IdxE w x pb vb tb (encP T V))(hG:GlobS w):
  Gv Eg 24 [pp x,qy p,ii pl,.string pre,ii m] w λr w'=>(∃v,r=.tuple #[v,.bool true]/\SnR (snL V ((begL pl pre p V).take m)) v w')/\Ext w w':=by
 have bf:=h.set.len;have aw:((Eg.info? 77).get Jk).bytes=232:=s20B;have bh:((Eg.info? 45).get Jk).bytes=56:=by kernel_rfl
 obtain⟨M,eM⟩:∃M,M=begL pl pre p V:=⟨_,rfl⟩
 have bi:M.length<=V.length:=by rw[eM];exact q10 pl pre p V
 rw[<-eM];obtain⟨rows,W⟩:∃rows:List Ee,rows=(snL V M).map snQ:=⟨_,rfl⟩
 have ax:rows.length=M.length:=by rw[W,AG,qdz]
 have ag:(M.map (sRow V)).length=rows.length:=by rw[AG,ax]
 refine gvW Jk Tryz.func24 rfl Tryz.ntmps24 rfl (zw ?_);refine znm (Mem.nil w) λb4 w1 U=>zw ?_;refine znm U λbm w2 U=>zw ?_;refine znm U λb8 w3 U=>zw ?_;refine znm U λb9 w4 U=>zw ?_;refine LoadA.mem (cs:=(qf p).toArray) U (i:=3) rfl rfl (zw ?_);refine zcv (qv0 x p pl pre w4) ?_;rintro r w5 ⟨c1,c2,c3,c4,rfl,ah⟩;replace U:=U.glue ah;obtain⟨L,hL⟩:∃L:Ed,L=[(bm,.cells #[ii m] 3),(b4,.cells (qf p).toArray 47),(c4,.cells #[.string pre] 9),(c3,.cells #[ii pl] 3),(c2,.cells (qf p).toArray 47),(c1,.cells #[pp x] 26)]:=⟨_,rfl⟩
 have ai:(c1,Obj.cells #[pp x] 26)∈L:=by rw[hL];simp
 have aj:(c2,Obj.cells (qf p).toArray 47)∈L:=by rw[hL];simp
 have ak:(c3,Obj.cells #[ii pl] 3)∈L:=by rw[hL];simp
 have al:(c4,Obj.cells #[.string pre] 9)∈L:=by rw[hL];simp
 have am:(bm,Obj.cells #[ii m] 3)∈L:=by rw[hL];simp
 have ay:∀(N:Ed) (X:Ed) (w':DU),Mem w w' (X++(N++L))->w'.heap[bm]?=some (.cells #[ii m] 3):=λN X w' hh=>hh.get (Ac _ (Ac _ am))
 have an:∀(N:Ed) (X:Ed) (w':DU),Mem w w' (X++(N++L))->SbeΦ x pb vb tb T V p pl pre c1 c2 c3 c4 w':=λN X w' hh=>⟨hX.ext hh.ext,hG.ext hh.ext,by rw[qa (hh.get (Ac _ (Ac _ ai)))];rfl,λj v hv=>by rw[qa (hh.get (Ac _ (Ac _ aj))),As,An];exact hv,by rw[qa (hh.get (Ac _ (Ac _ ak)))];rfl,by rw[qa (hh.get (Ac _ (Ac _ al)))];rfl⟩
 have ad:=qv1 T V h x pb vb tb p hp pl pre c1 c2 c3 c4;rw[<-eM]at ad;have ao:∀r∈(M.map (sRow V)),r.length=2:=λr hr=>by
  obtain⟨j,_,rfl⟩:=AF.1 hr;rfl
 replace U:Mem w w5 ([]++([]++[(b8,.cells #[.slice none 0 0] 71)])++([(b9,.cells #[.slice none 0 0] 71)]++L)):=by
  rw[hL];exact(qew w).perm U ((Au (l₁:=[(c4,Obj.cells #[.string pre] 9),(c3,Obj.cells #[ii pl] 3),(c2,Obj.cells (qf p).toArray 47),(c1,Obj.cells #[pp x] 26),(b9,Obj.cells #[.slice none 0 0] 71)]) (l₂:=[_,_,_])).trans (List.Perm.cons _ (Au (l₁:=[_,_,_,_,_,_]) (l₂:=[_]))))
 clear ah;(conv=>whnf);refine qoo (b:=b8) (el:=77) (m:=m) (N:=[(b9,.cells #[.slice none 0 0] 71)]) 0 17 ad ao an ag U ?r1 ?b1
 case' b1=>
  obtain⟨lb,rfl⟩:∃lb,lb=b8:=⟨_,rfl⟩
  generalize[(b9,Obj.cells #[.slice none 0 0] 71)]=N
 case' r1=>
  rintro D1 w6 ⟨⟨v1,Y1⟩,ae,H⟩;dsimp only at ae H;obtain⟨N,eN⟩:∃N:Ed,N=(D1,.deferred (some []))::(Y1++[(b8,.cells #[v1] 71)]):=⟨_,rfl⟩
  replace U:Mem w w6 ([]++([]++[(b9,.cells #[.slice none 0 0] 71)])++(N++L)):=(qew w).perm (show Mem w w6 (N++(b9,.cells #[.slice none 0 0] 71)::L)by rw[eN];exact H) Bz;clear H;(conv=>whnf);refine qoo (b:=b9) (el:=77) (m:=m) (N:=N) 2 17 ad ao an ag U ?r2 ?b2
 case' b2=>obtain⟨lb,rfl⟩:∃lb,lb=b9:=⟨_,rfl⟩
 case' b1|b2=>
  clear U;rintro l2 D oa od k r X w6 hr H;rw[Ao]at hr;cases Z:M[k]? with
  | none=>rw[Z]at hr;cases hr
  | some i=>
  rw[Z,Bd,AR]at hr;subst hr;have bj:=(Af.1 Z).1;have cJ:Carr (λX w'=>Mem w w' (X++(N++L))):=(qew w).tail _;have cS:=TkJ.carr cJ lb 71 77 17 rows m k;obtain⟨q,eq⟩:∃q,V.getD i zQ=q:=⟨_,rfl⟩
  have az:rows[k]?=some (snQ ((i:Int),q)):=by rw[W,Ao,qq7 Z,Bd,eq]
  rw[show sRow V i=[ii i,qy q]by rw[sRow,eq]];(conv=>whnf);refine NewV.carr cS H λnb w7 H=>zw ?_;refine StoreA.carr (vs:=qf q) cS (A:=[]) H rfl (qb1 q) λw8 H=>zw ?_;refine⟨rfl,(nb,.cells (qf q).toArray 47)::(D,.deferred (some []))::X,cS.perm H (List.Perm.swap _ _ _),?_⟩;clear H;rintro w9 ⟨⟨v,Y⟩,⟨hR,a0⟩,H⟩;dsimp only at hR H;obtain⟨Av,cv,ev⟩:=hR.slice;subst ev;have hg:=H.get (b:=lb) (o:=.cells #[.slice Av k cv] 71) Js;(conv=>whnf);refine LoadV.own hg rfl (zw ?_);refine LoadV.own (ay _ _ _ H) rfl (zw ?_)
  (repeat' refine zC (λ_=>zw ?_) (λ_=>zw ?_))
  case' refine_1=>exact⟨rfl,by omega,(.slice Av k cv,Y),⟨hR,a0⟩,cJ.dropM (A:=[(l2,od)]) H⟩
  refine LoadV.own hg rfl (zw ?_);refine LoadA.own (H.get (b:=nb) (o:=.cells (qf q).toArray 47) Js) rfl (zw ?_);refine NewV.carr cJ H λub bk H=>zw ?_;refine AppV.box (news:=snQ ((i:Int),q)) cJ H hR qaa5 s20I s20Z Jk Jk Od rfl (qq8 _) (by rw[aw];omega) ?_;clear H;intro A5 c5 Y5 bl a1 H;(conv=>whnf);refine StoreV.box cJ H λbn H=>zw ?_;exact⟨(.slice A5 (k+1) c5,Y5),⟨by rw[qre az];exact a1,by omega⟩,cJ.dropM (A:=[(l2,od)]) H⟩
 rintro D2 w7 ⟨⟨v2,Y2⟩,af,H⟩;dsimp only at af H;clear U;obtain⟨E,eE⟩:∃E,E=snL V (M.take m):=⟨_,rfl⟩
 have au:rows.take m=E.map snQ:=by rw[W,eE,<-CI,snL,snL,<-CI]
 rw[au]at ae af;have bo:E.length<=1048576:=by
  have:=Ae List.length au;rw[Az,AG]at this;omega
 have a2:∀y∈Y1,w7.heap[y.1]?=some y.2:=λy hy=>H.get (Ac _ (Aj _ (by rw[eN];exact zmc (Aj _ hy))))
 have a3:∀y∈Y2,w7.heap[y.1]?=some y.2:=λy hy=>H.get (Aj _ (Ac _ (Aj _ hy)))
 obtain⟨A1,d1,rfl,a4,a5⟩:=qim qgc ae a2;obtain⟨A2,d2,rfl,bp,a6⟩:=qim qgc af a3;have av:w7.heap[b8]?=some (.cells #[.slice A1 E.length d1] 71):=H.get (Ac _ (Aj _ (by rw[eN];simp)));have a7:w7.heap[b9]?=some (.cells #[.slice A2 E.length d2] 71):=H.get (Aj _ Js);have aa:∀wd,Ext w7.drew wd->Ext w7 wd:=λwd hd=>(Ext.refl w7).drew.trans hd
 (conv=>whnf);refine DrawW.any Jk (.inl rfl) (AnyV.free Jk ?_);(conv=>whnf);refine zsd (.slice A1 E.length d1) (λwd hd=>zw ?_) (zw ?_)
 ·refine LoadV.own ((aa wd hd).get av) rfl (zw ?_);exact xq
 refine zsd (.slice A1 E.length d1) (λwd hd=>zw ?_) (zw ?_)
 ·refine LoadV.own ((aa wd hd).get av) rfl (zw ?_);exact xq
 refine zsd (.slice A2 E.length d2) (λwd hd=>zw ?_) (zw ?_)
 ·refine LoadV.own ((aa wd hd).get a7) rfl (zw ?_);exact xq
 refine zsd (.bool true) (λwd hd=>zw ?_) (zw ?_)
 ·refine zcv (qcy E A1 A2 d1 d2 wd (a5.ext (aa wd hd)) (a6.ext (aa wd hd)) Oo) ?_;rintro r wx ⟨rfl,hex⟩;exact⟨hex,rfl⟩
 refine zd ?_;refine zd ?_;intro w8 a8;replace H:=H.call (aa w8 a8);rw[eN]at H;(conv=>whnf);obtain⟨R,eR⟩:∃R:Ed,R=(Y2++[(b9,.cells #[.slice A2 E.length d2] 71)])++((Y1++[(b8,.cells #[.slice A1 E.length d1] 71)])++L):=⟨_,rfl⟩
 have a9:∀y∈Y1,y∈R:=λy hy=>by rw[eR];exact Ac _ (Aj _ (Aj _ hy))
 replace H:Mem w w8 ((D2,.deferred (some []))::((Y2++[(b9,.cells #[.slice A2 E.length d2] 71)])++(D1,.deferred (some []))::((Y1++[(b8,.cells #[.slice A1 E.length d1] 71)])++L))):=H;replace H:Mem w w8 ((D2,.deferred (some []))::(D1,.deferred (some []))::R):=by rw[eR];exact(qew w).perm H (List.Perm.cons _ Bz)
 refine LeaveV.marks (J:=λX w'=>Mem w w' (X++R)) ((qew w).tail R) ?_ (D:=D2) (Ds:=[D1]) H;intro w' h';(conv=>whnf);obtain⟨A3,d3,e3,bq,ba⟩:=qim qgc ae (w:=w') (λy hy=>h'.get (Ac [] (a9 y hy)))
 injection e3 with bb _ be
 subst bb be;exact⟨⟨_,rfl,A1,d1,by rw[eE],by rw[<-eE];exact a4,by rw[<-eE];exact ba⟩,h'.ext⟩
theorem q6z(U:Int)(p:Q4)(H:List Q4):(tasL U p H).length<=H.length:=by
 rw[tasL]
 split
 ·refine AI (qsi ordT _) ?_;rw[tatL,AG];exact qka p H
 ·exact Ag _
theorem q1m(T:List TM)(qs:List Q4)(h:EncOk T qs)(x pb vb tb:Nat)(p:Q4)(hp:qa5 p)(pl:Int)(m:Nat)(be:m<=9223372036854775807)(w:DU)(hX:IdxE w x pb vb tb (encP T qs))(hG:GlobS w):
  Gv Eg 19 [pp x,qy p,ii pl,ii m] w λr w'=>(∃v,r=.tuple #[v,.bool true]/\TmR ((tasL pl p qs).take m) v w')/\Ext w w':=by
 have bb:=h.set.len;have bf:((Eg.info? 77).get Jk).bytes=232:=s20B;have au:((Eg.info? 45).get Jk).bytes=56:=by kernel_rfl
 obtain⟨M,eM⟩:∃M,M=tasL pl p qs:=⟨_,rfl⟩
 have bg:M.length<=qs.length:=by rw[eM];exact q6z pl p qs
 rw[<-eM];obtain⟨rows,V⟩:∃rows:List Ee,rows=M.map encT:=⟨_,rfl⟩
 have av:rows.length=M.length:=by rw[V,AG]
 have af:(M.map λt=>[qv t]).length=rows.length:=by rw[AG,av]
 refine gvW Jk Tryz.func19 rfl Tryz.ntmps19 rfl (zw ?_);refine znm (Mem.nil w) λb4 w1 U=>zw ?_;refine znm U λbm w2 U=>zw ?_;refine znm U λb8 w3 U=>zw ?_;refine znm U λb9 w4 U=>zw ?_;refine LoadA.mem (cs:=(qf p).toArray) U (i:=3) rfl rfl (zw ?_);refine zcv (q1h x p pl w4) ?_;rintro r w5 ⟨c1,c2,c3,rfl,ag⟩;replace U:=U.glue ag;obtain⟨L,hL⟩:∃L:Ed,L=[(bm,.cells #[ii m] 3),(b4,.cells (qf p).toArray 47),(c3,.cells #[ii pl] 3),(c2,.cells (qf p).toArray 47),(c1,.cells #[pp x] 26)]:=⟨_,rfl⟩
 have ah:(c1,Obj.cells #[pp x] 26)∈L:=by rw[hL];simp
 have ai:(c2,Obj.cells (qf p).toArray 47)∈L:=by rw[hL];simp
 have aj:(c3,Obj.cells #[ii pl] 3)∈L:=by rw[hL];simp
 have ak:(bm,Obj.cells #[ii m] 3)∈L:=by rw[hL];simp
 have aw:∀(N:Ed) (X:Ed) (w':DU),Mem w w' (X++(N++L))->w'.heap[bm]?=some (.cells #[ii m] 3):=λN X w' hh=>hh.get (Ac _ (Ac _ ak))
 have al:∀(N:Ed) (X:Ed) (w':DU),Mem w w' (X++(N++L))->SteΦ x pb vb tb T qs p pl c1 c2 c3 w':=λN X w' hh=>⟨hX.ext hh.ext,hG.ext hh.ext,by rw[qa (hh.get (Ac _ (Ac _ ah)))];rfl,λj v hv=>by rw[qa (hh.get (Ac _ (Ac _ ai))),As,An];exact hv,by rw[qa (hh.get (Ac _ (Ac _ aj)))];rfl⟩
 have aa:=q1i T qs h x pb vb tb p hp pl c1 c2 c3;rw[<-eM]at aa;have am:∀r∈(M.map λt=>[qv t]),r.length=1:=λr hr=>by
  obtain⟨j,_,rfl⟩:=AF.1 hr;rfl
 replace U:Mem w w5 ([]++([]++[(b8,.cells #[.slice none 0 0] 28)])++([(b9,.cells #[.slice none 0 0] 28)]++L)):=by
  rw[hL];exact(qew w).perm U ((Au (l₁:=[(c3,Obj.cells #[ii pl] 3),(c2,Obj.cells (qf p).toArray 47),(c1,Obj.cells #[pp x] 26),(b9,Obj.cells #[.slice none 0 0] 28)]) (l₂:=[_,_,_])).trans (List.Perm.cons _ (Au (l₁:=[_,_,_,_,_]) (l₂:=[_]))))
 clear ag;(conv=>whnf);refine qoo (b:=b8) (el:=45) (m:=m) (N:=[(b9,.cells #[.slice none 0 0] 28)]) 0 4 aa am al af U ?r1 ?b1
 case' b1=>
  obtain⟨lb,rfl⟩:∃lb,lb=b8:=⟨_,rfl⟩
  generalize[(b9,Obj.cells #[.slice none 0 0] 28)]=N
 case' r1=>
  rintro D1 w6 ⟨⟨v1,Y1⟩,ad,H⟩;dsimp only at ad H;obtain⟨N,eN⟩:∃N:Ed,N=(D1,.deferred (some []))::(Y1++[(b8,.cells #[v1] 28)]):=⟨_,rfl⟩
  replace U:Mem w w6 ([]++([]++[(b9,.cells #[.slice none 0 0] 28)])++(N++L)):=(qew w).perm (show Mem w w6 (N++(b9,.cells #[.slice none 0 0] 28)::L)by rw[eN];exact H) Bz;clear H;(conv=>whnf);refine qoo (b:=b9) (el:=45) (m:=m) (N:=N) 2 4 aa am al af U ?r2 ?b2
 case' b2=>obtain⟨lb,rfl⟩:∃lb,lb=b9:=⟨_,rfl⟩
 case' b1|b2=>
  clear U;rintro l2 D oa od k r X w6 hr H;rw[Ao]at hr;cases W:M[k]? with
  | none=>rw[W]at hr;cases hr
  | some i=>
  rw[W,Bd,AR]at hr;subst hr;have bh:=(Af.1 W).1;have cJ:Carr (λX w'=>Mem w w' (X++(N++L))):=(qew w).tail _;have cS:=TkJ.carr cJ lb 28 45 4 rows m k;have ax:rows[k]?=some (encT i):=by rw[V,Ao,W];rfl
  (conv=>whnf);refine NewV.carr cS H λnb w7 H=>zw ?_;refine StoreA.carr (vs:=encT i) cS (A:=[]) H rfl (q9 i) λw8 H=>zw ?_;refine⟨rfl,(nb,.cells (encT i).toArray 45)::(D,.deferred (some []))::X,cS.perm H (List.Perm.swap _ _ _),?_⟩;clear H;rintro w9 ⟨⟨v,Y⟩,⟨hR,ay⟩,H⟩;dsimp only at hR H;obtain⟨Av,cv,ev⟩:=hR.slice;subst ev;have hg:=H.get (b:=lb) (o:=.cells #[.slice Av k cv] 28) Js;(conv=>whnf);refine LoadV.own hg rfl (zw ?_);refine LoadV.own (aw _ _ _ H) rfl (zw ?_)
  (repeat' refine zC (λ_=>zw ?_) (λ_=>zw ?_))
  case' refine_1=>exact⟨rfl,by omega,(.slice Av k cv,Y),⟨hR,ay⟩,cJ.dropM (A:=[(l2,od)]) H⟩
  refine LoadV.own hg rfl (zw ?_);refine LoadA.own (H.get (b:=nb) (o:=.cells (encT i).toArray 45) Js) rfl (zw ?_);refine NewV.carr cJ H λub bi H=>zw ?_;refine AppV.box (news:=encT i) cJ H hR qnx trmI trmZ Jk Jk Od rfl (q9 i) (by rw[au];omega) ?_;clear H;intro A5 c5 Y5 bj az H;(conv=>whnf);refine StoreV.box cJ H λbk H=>zw ?_;exact⟨(.slice A5 (k+1) c5,Y5),⟨by rw[qre ax];exact az,by omega⟩,cJ.dropM (A:=[(l2,od)]) H⟩
 rintro D2 w7 ⟨⟨v2,Y2⟩,ae,H⟩;dsimp only at ae H;clear U;obtain⟨E,eE⟩:∃E,E=M.take m:=⟨_,rfl⟩
 have aq:rows.take m=E.map encT:=by rw[V,eE,<-CI]
 rw[aq]at ad ae;have bl:E.length<=1048576:=by
  have:=Ae List.length aq;rw[Az,AG]at this;omega
 have a0:∀y∈Y1,w7.heap[y.1]?=some y.2:=λy hy=>H.get (Ac _ (Aj _ (by rw[eN];exact zmc (Aj _ hy))))
 have a1:∀y∈Y2,w7.heap[y.1]?=some y.2:=λy hy=>H.get (Aj _ (Ac _ (Aj _ hy)))
 obtain⟨A1,d1,rfl,a2,a3⟩:=qim qad ad a0;obtain⟨A2,d2,rfl,bn,a4⟩:=qim qad ae a1;have ar:w7.heap[b8]?=some (.cells #[.slice A1 E.length d1] 28):=H.get (Ac _ (Aj _ (by rw[eN];simp)));have a5:w7.heap[b9]?=some (.cells #[.slice A2 E.length d2] 28):=H.get (Aj _ Js);have Z:∀wd,Ext w7.drew wd->Ext w7 wd:=λwd hd=>(Ext.refl w7).drew.trans hd
 (conv=>whnf);refine DrawW.any Jk (.inl rfl) (AnyV.free Jk ?_);(conv=>whnf);refine zsd (.slice A1 E.length d1) (λwd hd=>zw ?_) (zw ?_)
 ·refine LoadV.own ((Z wd hd).get ar) rfl (zw ?_);exact xq
 refine zsd (.slice A1 E.length d1) (λwd hd=>zw ?_) (zw ?_)
 ·refine LoadV.own ((Z wd hd).get ar) rfl (zw ?_);exact xq
 refine zsd (.slice A2 E.length d2) (λwd hd=>zw ?_) (zw ?_)
 ·refine LoadV.own ((Z wd hd).get a5) rfl (zw ?_);exact xq
 refine zsd (.bool true) (λwd hd=>zw ?_) (zw ?_)
 ·refine zcv (qf9 E A1 A2 d1 d2 wd (a3.ext (Z wd hd)) (a4.ext (Z wd hd)) Oo) ?_;rintro r wx ⟨rfl,hex⟩;exact⟨hex,rfl⟩
 refine zd ?_;refine zd ?_;intro w8 a6;replace H:=H.call (Z w8 a6);rw[eN]at H;(conv=>whnf);obtain⟨R,eR⟩:∃R:Ed,R=(Y2++[(b9,.cells #[.slice A2 E.length d2] 28)])++((Y1++[(b8,.cells #[.slice A1 E.length d1] 28)])++L):=⟨_,rfl⟩
 have a7:∀y∈Y1,y∈R:=λy hy=>by rw[eR];exact Ac _ (Aj _ (Aj _ hy))
 replace H:Mem w w8 ((D2,.deferred (some []))::((Y2++[(b9,.cells #[.slice A2 E.length d2] 28)])++(D1,.deferred (some []))::((Y1++[(b8,.cells #[.slice A1 E.length d1] 28)])++L))):=H;replace H:Mem w w8 ((D2,.deferred (some []))::(D1,.deferred (some []))::R):=by rw[eR];exact(qew w).perm H (List.Perm.cons _ Bz)
 refine LeaveV.marks (J:=λX w'=>Mem w w' (X++R)) ((qew w).tail R) ?_ (D:=D2) (Ds:=[D1]) H;intro w' h';(conv=>whnf);obtain⟨A3,d3,e3,bo,a8⟩:=qim qad ad (w:=w') (λy hy=>h'.get (Ac [] (a7 y hy)))
 injection e3 with a9 _ ba
 subst a9 ba;exact⟨⟨_,rfl,A1,d1,by rw[eE],by rw[<-eE];exact a2,by rw[<-eE];exact a8⟩,h'.ext⟩
def lstT(T:List TM)(t:TM):Nat->Nat
 | 0=>0
 | i+1=>if qaj (T.getD i zTM) t=true then i+1 else lstT T t i
theorem q4z{T:List TM}(U:RiseT T)(V:∀t∈T,1<=t.kind){t:TM}(H:t∈T):∀{i:Nat},i<=T.length->lstT T t i=if noT T t<=i then noT T t else 0
 | 0,_=>by
  grind [lstT]
 | i+1,hi=>by
  obtain⟨j,W⟩:=AP.1 H;have hn:=qf0 U W (by have:=V t H;omega);obtain⟨x,Z⟩:∃x,T[i]?=some x:=⟨_,zge Oo⟩
  have hg:T.getD i zTM=x:=by rw[Ah,Z];rfl
  rw[lstT,hg,q4z U V H (i:=i) Oo]
  by_cases e:x=t
  ·subst e;have:=qf0 U Z (by have:=V x H;omega);rw[Ad (q6.2 rfl),Ad Oo];omega
  ·have aa:j≠i:=λe2=>e (by rw[e2,Z]at W;exact Bb W)
   rw[Aa (λh=>e (q6.1 h))]
   by_cases g:noT T t<=i
   ·rw[Ad g,Ad Oo]
   ·rw[Aa g,Aa Oo]
theorem qyc{T:List TM}{t:TM}(H:t∉T):∀{i:Nat},i<=T.length->lstT T t i=0
 | 0,_=>rfl
 | i+1,hi=>by
  obtain⟨x,U⟩:∃x,T[i]?=some x:=⟨_,zge Oo⟩
  have V:T.getD i zTM=x:=by rw[Ah,U];rfl
  rw[lstT,V,Aa (λh=>H (by rw[<-q6.1 h];exact zmg U)),qyc H Oo]
theorem q96(H:RiseT T)(U:∀t∈T,1<=t.kind){t:TM}(V:t∈T):lstT T t T.length=noT T t:=by
 grind [q4z,qadb]
theorem qlj{x:Int}{n:Nat}(h:x=(n:Int)):bnd (some (ii x)) d n:=by
 subst h;rfl
theorem q5q(H:SlAt encB 1 w A l)(U:l.length<=c)(h:(qcd l).2=0):SlAt encB 1 w (if c=28 then A else A.map (·.add (28*1))) (qh l):=by
 have V:=qgl h;have:=H.cut (lo:=28) (hi:=28+hN l 4) (m:=c) Oo Oo Oo rfl
 rwa[show 28+hN l 4-28=hN l 4 by omega]at this
theorem qaam(H:SlAt encB 1 w A l)(U:l.length<=c)(h:(qcd l).2=0):SlAt encB 1 w (if c=32+hN l 4 then A else A.map (·.add ((32+hN l 4)*1))) (qj l):=by
 have V:=qgl h;have:=H.cut (lo:=32+hN l 4) (hi:=32+hN l 4+hN l 5) (m:=c) Oo Oo Oo rfl
 rwa[show 32+hN l 4+hN l 5-(32+hN l 4)=hN l 5 by omega]at this
theorem qla(U:VTm l 3 0 ts)(h:id<=ts.length):qcl l id=some (sT ts id):=by
 have V:ts.length=vTot l 3:=U.len;unfold qcl sT
 by_cases H:id=0
 ·rw[Ad H,Ad H];rfl
 ·rw[Aa H,Aa H,Aa Oo];obtain⟨Z,h2,h3⟩:=qrk H (show id<=vTot l 3 by omega);have h4:vTot l (qce l id+1)=vTot l (qce l id)+dN (sDict l (qce l id)):=rfl;obtain⟨s,t,hd,hs,hr,W⟩:=U.at_ (qce l id) (id-(vTot l (qce l id)+1)) (.inl ⟨Z,by omega⟩);rw[hd];dsimp only;rw[qej hr];have e:vTot l (qce l id)+(id-(vTot l (qce l id)+1))=id-1:=by omega
  rw[e]at W;rw[Ah,W];rfl
theorem qah8(h:(wE l).2=0):vTot l 3<=12582912:=by
 have W:(sE l).2=0:=by
  rw[wE]at h
  split at h
  ·rename_i g;exact absurd h g
  ·omega
 have U:(errF (sdF l) 3).2=0:=by rw[wE,Aa Oo]at h;exact h
 have H:∀k,k<3->dN (sDict l k)<=4194304:=λk V=>by
  have:=qan U k V;unfold sdF at this
  split at this
  ·rename_i g;exact(q2u g).1
  ·rename_i g;exact absurd this g
 have Z:=H 0 Oo;have h2:=H 1 Oo;have h3:=H 2 Oo;simp only[vTot];omega
theorem qabz(h:(tE l).2=0):vNum l 3<=1048576:=by
 obtain⟨H,_⟩:=qwb h;have:=H 3 Oo;unfold tcF at this
 split at this
 ·rename_i g;exact absurd this g
 ·rename_i g
  exact qf2 Oo
theorem qdv{H n:Nat}{v:DZ}(h:w.ownsRow base e H v n xs)(hw:∀c,base<=c->c<w.heap.size->w'.heap[c]?=w.heap[c]?):w'.ownsRow base e H v n xs:=by
 obtain⟨W,h2|⟨g,U,V,h3,Z,h5,h6⟩⟩:=h
 ·exact⟨W,.inl h2⟩
 ·exact⟨W,.inr ⟨g,U,V,h3,Z,(hw g Z (qfp h5)).trans h5,h6⟩⟩
def Op19(l:LB)(base:Nat)(v:DZ)(w:DU):Prop:=
 ∃ts,VTm (qh l) 3 0 ts/\(∀k,1<=k->k<=3->LvlV (qj l) k)/\
  (∀i,i<vNum (qj l) 3->(∀j,j<4->tNum (qj l) i j<=ts.length)/\qbo (sQ ts (tNum (qj l) i))=0)/\
  ∃A H B c,v=.tuple #[inf4 l,.slice A (vTot (qh l) 3) H,.slice B (vNum (qj l) 3) c,.agg #[ii 0,ii 0]]/\vNum (qj l) 3<=c/\
   SlAt qf 16 w B ((List.range (vNum (qj l) 3)).map λi=>sQ ts (tNum (qj l) i))/\w.ownsRow base 47 16 (.slice B (vNum (qj l) 3) c) (vNum (qj l) 3) (((List.range (vNum (qj l) 3)).map λi=>sQ ts (tNum (qj l) i)).map qf).flatten/\SlAt encT 4 w A ts
theorem q9h(W:VTm (qh l) 3 0 ts):qaj5 l i↔(∀j,j<4->tNum (qj l) i j<=ts.length)/\qbo (sQ ts (tNum (qj l) i))=0:=by
 have aa:ts.length=vTot (qh l) 3:=W.len;have hq:(∀j,j<4->tNum (qj l) i j<=ts.length)->q4Of (qh l) (tNum (qj l) i)=sQ ts (tNum (qj l) i):=λh=>by
  have U:∀j,j<4->qcl (qh l) (tNum (qj l) i j)=some (sT ts (tNum (qj l) i j)):=λj H=>qla W (h j H)
  simp only[q4Of,uT,U 0 Oo,U 1 Oo,U 2 Oo,U 3 Oo,Cd];rfl
 constructor
 ·rintro⟨V,Z⟩;have h3:∀j,j<4->tNum (qj l) i j<=ts.length:=λj H=>AD λh=>V j H (by
   unfold qcl;rw[Aa Oo,Ad Oo])
  exact⟨h3,by rw[<-hq h3];exact Z⟩
 ·rintro⟨V,Z⟩;exact⟨λj H=>by rw[qla W (V j H)];simp,by rw[hq V];exact Z⟩
theorem q5l(l:LB)(A:oA)(c:Nat)(w:DU)(hS:SlAt encB 1 w A l)(hc:l.length<=c)(hl:l.length<=140737488351232)(hE:(poE l).2=0):
  Gv Eg 38 [.slice A l.length c] w λv w'=>Op19 l w.heap.size v w'/\Ext w w':=by
 obtain⟨h0,bm,bn,av,a7,b4,b5,aw,bo⟩:=qb7 hE;obtain⟨b6,b7⟩:=qgl h0;refine ze Tryz.func38 Tryz.ntmps38 ?_;refine znm (Mem.nil w) λr2 w1 H=>zw ?_;refine znm H λr5 w2 H=>zw ?_;refine znm H λz6 w3 H=>zw ?_;refine zS H 0 λw4 H=>zw ?_;refine zcv (q3w l A _ c w4 (hS.ext H.ext) rfl hc Oo h0) ?_;rintro v w5 ⟨rfl,bp⟩;have H:=H.call bp;(conv=>whnf);refine znm H λi7 w6 H=>zw ?_;refine znm H λf8 w7 H=>zw ?_;refine zS H 1 λw8 H=>zw ?_;refine zS H 0 λw9 H=>zw ?_;have H:Mem w w9 ((f8,.cells #[ii (0:Int),ii (0:Int)] 55)::(i7,.cells #[ii (hN l 2:Nat),ii (hN l 3:Nat),ii (hN l 4:Nat),ii (hN l 5:Nat)] 53)::(z6,.cells #[ii 0,ii 0,ii 0,ii 0] 53)::(r5,.cells #[ii (0:Int),ii (0:Int)] 55)::(r2,.cells #[ii 0,ii 0,ii 0,ii 0] 53)::[]):=H;refine zr H 0 ?_;refine zv ?_;refine zr H 1 ?_;refine zv ?_;refine SliceV.to 28 (28+hN l 4) c rfl rfl rfl Oo Oo Oo (λh=>by cases h) ?_;rw[show tsz Eg 5=1 from by kernel_rfl,show 28+hN l 4-28=(qh l).length by rw[qjr h0];omega];obtain⟨VA,a8⟩:∃VA,VA=(if c=28 then A else A.map (·.add (28*1))):=⟨_,rfl⟩
 have ax:=q5q hS hc h0;rw[<-a8]at ax|-;clear a8;(conv=>whnf);refine zr H 1 ?_;refine zv ?_;refine zr H 1 ?_;refine zv ?_;refine SliceV.to (32+hN l 4) (32+hN l 4+hN l 5) c (qlj Oo) (qlj Oo) rfl Oo Oo Oo (λh=>by cases h) ?_;rw[show tsz Eg 5=1 from by kernel_rfl,show 32+hN l 4+hN l 5-(32+hN l 4)=(qj l).length by rw[qmi h0];omega];obtain⟨TA,a9⟩:∃TA,TA=(if c=32+hN l 4 then A else A.map (·.add ((32+hN l 4)*1))):=⟨_,rfl⟩
 have ay:=qaam hS hc h0;rw[<-a9]at ay|-;clear a9;have b8:=qjr h0;have b9:=qmi h0;(conv=>whnf);refine DrawV.free Jk Jk (zw ?_);refine zd ?_;apply StepD.of (λv w=>BS w v (fixL (crcL (qh l)).toNat 4)) (λ_ _ _ h he=>h.ext he)
 ·intro wd hd;(conv=>whnf);refine zcv (qen (qh l) _ _ _ wd (ax.ext (H.drew.ext.trans hd)) rfl Oo) ?_;rintro v w9 ⟨h9,Z⟩;exact⟨Z,h9⟩
 (conv=>whnf);apply zsd
 ·intro wd hd;(conv=>whnf);rintro v ⟨A',c',rfl,h1,h2⟩;(conv=>whnf);refine BytesS.sl h2 rfl (zw ?_);exact xq
 (conv=>whnf);(iterate 4 (refine zd ?_));apply StepD.of (λv w=>∃A' n' c',v=.slice A' n' c'/\SlAt encB 1 w A' ((l.drop (28+hN l 4)).take (32+hN l 4-(28+hN l 4)))/\((l.drop (28+hN l 4)).take (32+hN l 4-(28+hN l 4))).length=n') (λ_ _ _ h he=>let⟨A',n',c',h1,h2,h3⟩:=h;⟨A',n',c',h1,h2.ext he,h3⟩)
 ·intro wd hd;(conv=>whnf);refine SliceV.bs (hS.ext (H.drew.ext.trans hd)) rfl (28+hN l 4) (32+hN l 4) c (qlj Oo) (qlj Oo) rfl Oo Oo Oo znr (λh=>by cases h) ?_;intro A' az;(conv=>whnf);exact⟨xr,_,_,_,rfl,az,by rw[Az,zld];omega⟩
 (conv=>whnf);apply zsd
 ·intro wd hd;(conv=>whnf);rintro v ⟨A',n',c',rfl,h2,h3⟩;(conv=>whnf);refine BytesS.sl h2 h3 (zw ?_);exact xq
 (conv=>whnf);refine zd ?_;intro cc Z
 (repeat(intro _ _;(conv=>whnf)))
 (conv=>whnf);replace H:=H.drew.call Z;clear Z;rw[q6i (p:=qh l) (m:=(l.drop (28+hN l 4)).take 4) rfl (by rw[show 32+hN l 4-(28+hN l 4)=4 by omega]) (by rw[Az,zld];omega)];have ba:(crcL (qh l)).toNat=leN ((l.drop (28+hN l 4)).take 4):=bm;rw[AE ba];refine zv ?_;refine DrawV.free Jk Jk (zw ?_);refine zd ?_;apply StepD.of (λv w=>BS w v (fixL (crcL (qj l)).toNat 4)) (λ_ _ _ h he=>h.ext he)
 ·intro wd hd;(conv=>whnf);refine zcv (qen (qj l) _ _ _ wd (ay.ext (H.drew.ext.trans hd)) rfl Oo) ?_;rintro v w9 ⟨h9,Z⟩;exact⟨Z,h9⟩
 (conv=>whnf);apply zsd
 ·intro wd hd;(conv=>whnf);rintro v ⟨A',c',rfl,h1,h2⟩;(conv=>whnf);refine BytesS.sl h2 rfl (zw ?_);exact xq
 (conv=>whnf);(iterate 3 (refine zd ?_));refine zLd ?_;refine zd ?_;apply StepD.of (λv w=>∃A' n' c',v=.slice A' n' c'/\SlAt encB 1 w A' ((l.drop (32+hN l 4+hN l 5)).take (l.length-(32+hN l 4+hN l 5)))/\((l.drop (32+hN l 4+hN l 5)).take (l.length-(32+hN l 4+hN l 5))).length=n') (λ_ _ _ h he=>let⟨A',n',c',h1,h2,h3⟩:=h;⟨A',n',c',h1,h2.ext he,h3⟩)
 ·intro wd hd;(conv=>whnf);refine SliceV.bs (hS.ext (H.drew.ext.trans hd)) rfl (32+hN l 4+hN l 5) (l.length) c (qlj Oo) rfl rfl Oo Oo Oo znr (λh=>by cases h) ?_;intro A' az;(conv=>whnf);exact⟨xr,_,_,_,rfl,az,by rw[Az,zld];omega⟩
 (conv=>whnf);apply zsd
 ·intro wd hd;(conv=>whnf);rintro v ⟨A',n',c',rfl,h2,h3⟩;(conv=>whnf);refine BytesS.sl h2 h3 (zw ?_);exact xq
 (conv=>whnf);refine zd ?_;intro am Z
 (repeat(intro _ _;(conv=>whnf)))
 (conv=>whnf);replace H:=H.drew.call Z;clear Z;rw[q6i (p:=qj l) (m:=(l.drop (32+hN l 4+hN l 5)).take 4) rfl (by rw[show l.length-(32+hN l 4+hN l 5)=4 by omega]) (by rw[Az,zld];omega)];have bb:(crcL (qj l)).toNat=leN ((l.drop (32+hN l 4+hN l 5)).take 4):=bn;rw[AE bb];refine zv ?_;have be:=q1s (qh l) VA (c-28) am (ax.ext H.ext) Oo Oo av;have bf:=λw' (h':SlAt encB 1 w' TA (qj l))=>qabu (qj l) TA (c-(32+hN l 4)) w' h' Oo Oo a7
 refine zcv (be) ?_;clear be;rintro v cd ⟨⟨ts,af,VB,vc,rfl,U⟩,bg⟩;have a0:=H;have H:=H.call bg;unfold fltV;(conv=>whnf);have ce:f8<am.heap.size:=a0.lt mh;have cf:r2<am.heap.size:=a0.lt (zmg (i:=4) rfl);have cg:r5<am.heap.size:=a0.lt (zmg (i:=3) rfl);refine StoreA.row H (i:=0) rfl (Ai 2) (by simp[Value.oneCell']) ?_;clear H;intro bh ad bi H;have H:Mem w bh ((f8,.cells #[ii (0:Int),ii (0:Int)] 55)::(i7,.cells #[ii (hN l 2:Nat),ii (hN l 3:Nat),ii (hN l 4:Nat),ii (hN l 5:Nat)] 53)::(z6,.cells #[ii 0,ii 0,ii 0,ii 0] 53)::(r5,.cells #[ii (0:Int),ii (0:Int)] 55)::(r2,.cells #[ii 0,ii 0,ii 0,ii 0] 53)::[]):=H;have U:=qdv U (λc hc _=>ad c Oo);(conv=>whnf);refine zr H 0 ?_;refine zv ?_;refine zcv (bf bh (ay.ext H.ext)) ?_;clear bf;rintro v a1 ⟨⟨bq,TB,tc,rfl,aa⟩,aq⟩;have hW:=qakv av;have hT:=(qca a7).1;have H:=H.call aq;unfold fltV;(conv=>whnf);refine⟨λbr ci ar ag=>?_⟩;have H:=H.new ar ag;(conv=>whnf);refine StoreA.row H (i:=0) rfl (Ai 2) (by simp[Value.oneCell']) ?_;clear H;intro ah ai bj H;have a2:∀c,c<a1.heap.size->ah.heap[c]?=a1.heap[c]?:=λc hc=>by
  rw[ai c Oo,ag];exact((Ext.refl a1).alloc _).block c hc
 (conv=>whnf);refine zr H 0 ?_;refine zv ?_;have U:=qdv (qcf U aq) (λc _ hc=>a2 c hc);have aa:=qdv aa (λc _ hc=>a2 c hc);clear a2 ai bj ar ag ad bi;have aj:=H;have H:Mem w ah ((br,.cells #[ii (0:Int),ii (0:Int)] 120)::(f8,.cells #[ii (0:Int),ii (0:Int)] 55)::(i7,.cells #[ii (hN l 2:Nat),ii (hN l 3:Nat),ii (hN l 4:Nat),ii (hN l 5:Nat)] 53)::(z6,.cells #[ii 0,ii 0,ii 0,ii 0] 53)::(r5,.cells #[ii (0:Int),ii (0:Int)] 55)::(r2,.cells #[ii 0,ii 0,ii 0,ii 0] 53)::[]):=H;refine zr H 2 ?_;refine zv ?_;refine zr H 2 ?_;refine zv ?_;obtain⟨is,ae⟩:∃is:List (Nat->Nat),is=(List.range (vNum (qj l) 3)).map λi=>tNum (qj l) i:=⟨_,rfl⟩
 have W:is.length=vNum (qj l) 3:=by rw[ae,AG,Dq]
 have an:ts.length=vTot (qh l) 3:=af.len;have bk:idsL (qj l) (vNum (qj l) 3)=(is.map idE).flatten:=by
  rw[ae,idsL,DT];rfl
 rw[bk]at aa;obtain⟨bt,cj⟩:=qdw qad U an;obtain⟨bu,ck⟩:=qdw (enc:=idE) (λ_=>rfl) aa W;have cm:=qah8 hW;have cn:=qabz hT;have hQ:∀q∈is,(∀j,j<4->q j<=ts.length)/\qbo (sQ ts q)=0:=λq hq=>by
  rw[ae]at hq;obtain⟨i,hi,rfl⟩:=AF.1 hq;exact(q9h af).1 (aw i (BP.1 hi))
 have a3:=qahi ts is VB TB vc tc ah bt bu af.ok Oo Oo hQ;rw[an,W]at a3;(conv=>whnf);refine zcv (a3) ?_;clear a3;rintro v bv ⟨⟨QB,qc,rfl,V⟩,au⟩;rw[<-W]at V;have H:=H.call au;have a4:(is.map (sQ ts)).length=is.length:=AG ..;obtain⟨ao,a5⟩:=qdw qmp V a4;have a6:=qge (is.map (sQ ts)) QB qc bv ao Oo;rw[a4,W]at a6;refine zu ?_;refine zcv (a6) ?_;clear a6;rintro v cp ⟨⟨EB,ec,rfl,_,_⟩,ak⟩;have H:=H.call ak;have bl:=qaby af (qd8 av).2.1 hQ;have bw:(∀id,1<=id->id<=ts.length->∃q∈is,∃j,j<4/\q j=id)↔q5p l:=by
  rw[an,ae];exact⟨λh id h1 h2=>by
   obtain⟨q,hq,j,hj,e⟩:=h id h1 h2;obtain⟨i,hi,rfl⟩:=AF.1 hq;exact⟨i,BP.1 hi,j,hj,e⟩,λh id h1 h2=>by
   obtain⟨i,hi,j,hj,e⟩:=h id h1 h2;exact⟨_,AF.2 ⟨i,BP.2 hi,rfl⟩,j,hj,e⟩⟩
 obtain⟨un,bz⟩:∃un,un=(tmsN (trms (is.map (sQ ts))).length (trms (is.map (sQ ts)))).length:=⟨_,rfl⟩
 rw[<-bz]at bl|-;have cq:=bl.2 (bw.2 bo);refine zu ?_;refine zl H 2 ?_;have V:=qcf V ak;have U:=qcf (qcf U au) ak;have b1:r2<ah.heap.size:=aj.lt (zmg (i:=5) rfl);have b2:r5<ah.heap.size:=aj.lt (zmg (i:=4) rfl);refine StoreA.row H (i:=5) rfl (Ai 4) (by simp[Value.oneCell']) ?_;clear H;intro cr ad bi H;have V:=qdv V (λc hc _=>ad c Oo);have U:=qdv U (λc hc _=>ad c Oo);(conv=>whnf);refine StoreA.row H (i:=4) rfl (Ai 2) (by simp[Value.oneCell']) ?_;clear H;intro ct al b3 H;have V:=qdv V (λc hc _=>al c Oo);have U:=qdv U (λc hc _=>al c Oo);(conv=>whnf);refine qi (R:=λv w'=>Op19 l w.heap.size v w'/\Ext w w') (zw ?_);refine zl H 5 ?_;refine zl H 4 ?_;obtain⟨ao,a5⟩:=qdw qmp V a4;rw[W]at a5;refine⟨⟨ts,af,bq,λi hi=>?_,VB,vc,QB,qc,rfl,a5,?_,?_,(qdw qad U an).1⟩,H.ext⟩
 ·exact hQ (tNum (qj l) i) (by rw[ae];exact AF.2 ⟨i,BP.2 hi,rfl⟩)
 ·rw[ae,DT]at ao;exact ao
 ·have b0:=qif V aj.ext.size;have e:(List.range (vNum (qj l) 3)).map (λi=>sQ ts (tNum (qj l) i))=is.map (sQ ts):=by rw[ae,DT];rfl
  rw[e,<-W];exact b0
def gqC(p:Q4):Ee:=encT p.g++encT p.s++encT p.p++encT p.o
theorem qai2(p:Q4)(V:k<4){v:DZ}(H:(encT (gat p k))[j]?=some v):(gqC p)[k*4+j]?=some v:=by
 have U:j<4:=(Af.1 H).1
 match k,V with
 | 0,_=>
  match j,U with
  | 0,_=>exact H
  | 1,_=>exact H
  | 2,_=>exact H
  | 3,_=>exact H
 | 1,_=>
  match j,U with
  | 0,_=>exact H
  | 1,_=>exact H
  | 2,_=>exact H
  | 3,_=>exact H
 | 2,_=>
  match j,U with
  | 0,_=>exact H
  | 1,_=>exact H
  | 2,_=>exact H
  | 3,_=>exact H
 | 3,_=>
  match j,U with
  | 0,_=>exact H
  | 1,_=>exact H
  | 2,_=>exact H
  | 3,_=>exact H
def updZ(F:Nat->Int)(k:Nat)(x:Int):Nat->Int:=λj=>if j=k then x else F j
theorem qiz(F:Nat->Int)(k:Nat)(x:Int):updZ F k x k=x:=by rw[updZ,Ad rfl]
theorem qzk(F:Nat->Int)(k:Nat)(x y:Int):updZ (updZ F k x) k y=updZ F k y:=by
 funext j
 unfold updZ
 split<;>rfl
theorem q40{t u:TM}(hi:T[i]?=some u):lstT T t (i+1)=if qaj u t=true then i+1 else lstT T t i:=by
 have H:T.getD i zTM=u:=by rw[Ah,hi];rfl
 rw[lstT,H]
theorem q30(T:List TM)(A:oA)(n c:Nat)(B:oA)(m d:Nat)(p:Q4)(w:DU)(hr:RiseT T)(ak:∀t∈T,1<=t.kind)(hS:SlAt encT 4 w B T)(aw:T.length=m)(hb:m<=16777216):
  Gv Eg 40 [.agg #[.slice A n c,.slice B m d],qy p] w λr w'=>r=qfa T p/\Ext w w':=by
 subst aw;have t4:tsz Eg 45=4:=by kernel_rfl
 have t1:tsz Eg 3=1:=by kernel_rfl
 obtain⟨xo,al⟩:∃xo:Obj,xo=.cells #[.slice A n c,.slice B T.length d] 30:=⟨_,rfl⟩
 obtain⟨ao,am⟩:∃ao:Obj,ao=.cells (gqC p).toArray 166:=⟨_,rfl⟩
 refine ze Tryz.func40 Tryz.ntmps40 ?_;refine znm (Mem.nil w) λxb w1 H=>zw ?_;refine znm H ?_;clear H;intro pb w2 H;replace H:Mem w w2 [(pb,.cells (qf p).toArray 47),(xb,xo)]:=by rw[al];exact H
 (conv=>whnf);refine znm H ?_;clear H;intro rb w3 H;have hc:CellsAt w3 pb 0 (qf p):=CellsAt.mem H (zmc mh);(conv=>whnf);refine LoadA.cells (qm hc 3 Oo) rfl (zw ?_);refine LoadA.cells (qm hc 0 Oo) rfl (zw ?_);refine LoadA.cells (qm hc 1 Oo) rfl (zw ?_);refine LoadA.cells (qm hc 2 Oo) rfl (zw ?_);refine znm H λab w4 H=>zw ?_;refine StoreA.all (vs:=gqC p) H (i:=0) rfl rfl (by simp[gqC,encT,Value.oneCell']) ?_;clear H;intro w5 H;replace H:Mem w w5 [(ab,ao),(rb,.cells zq 95),(pb,.cells (qf p).toArray 47),(xb,xo)]:=by rw[am];exact H
 (conv=>whnf);refine znm H ?_;clear H;intro ob w6 H;replace H:Mem w w6 [(ob,.cells (idC λ_=>0).toArray 95),(ab,ao),(rb,.cells zq 95),(pb,.cells (qf p).toArray 47),(xb,xo)]:=H;obtain⟨LL,an⟩:∃LL:Ed,LL=[(pb,.cells (qf p).toArray 47),(xb,xo)]:=⟨_,rfl⟩
 rw[<-an]at H;(conv=>whnf);refine qk (λs:Nat×(Nat->Int)=>[(2,pp xb),(4,pp rb),(6,pp ab),(7,pp ob),(8,ii s.1)])
  (λs w'=>s.1<=4/\(∀j,j<s.1->s.2 j=idP T p j/\KnT T (gat p j))/\Mem w w' ((ob,.cells (idC s.2).toArray 95)::(ab,ao)::(rb,.cells zq 95)::LL)) (λs=>4-s.1) (0,λ_=>0)
  fq ⟨by show 0<=4;omega,λj hj=>absurd hj (BL _),H⟩ ?_
 clear H;rintro⟨k,F⟩ w7 ax ⟨hk,hF,H⟩;dsimp only at hk hF H|-;(conv=>whnf);refine zC (λ_=>zu ?_) (λ_=>zu ?_)
 case' refine_2=>
  obtain rfl:k=4:=by omega
  have ay:KnQ T p:=λj hj=>(hF j hj).2
  have e:qfa T p=.tuple #[.agg (idC F).toArray,.bool true]:=by
   rw[qfa,Ad ay,<-(hF 0 Od).1,<-(hF 1 Od).1,<-(hF 2 Od).1,<-(hF 3 Od).1];rfl
  refine zl H 0 ?_;refine StoreA.all H (i:=2) rfl rfl (by simp[Value.oneCell']) λw8 H=>zw ?_;refine qi (R:=λr w'=>r=qfa T p/\Ext w w') (zw ?_);refine zl H 2 ?_;exact⟨by rw[e];rfl,H.ext⟩
 have U:k<4:=by omega
 have af:0+k*tsz Eg 3=k:=by rw[t1];omega
 obtain⟨t,et⟩:∃t,t=gat p k:=⟨_,rfl⟩
 have ag:∀w',(∃L,Mem w w' L/\(ab,ao)∈L)->CellsAt w' ab (0+k*4) (encT t):=λw' ⟨L,h1,h2⟩ j v hv=>by
  have:=h1.get h2;rw[am]at this;rw[qa this,As,An];exact qai2 p U (by rw[<-et];exact hv)
 have ah:∀F:Nat->Int,(idC F).toArray.size=4:=λ_=>rfl
 rw[af];refine StoreV.mem H (i:=0) rfl (by rw[ah];exact U) rfl ?_;clear H;intro w8 H;replace H:Mem w w8 ((ob,.cells ((idC F).toArray.setIfInBounds k (ii (-1))) 95)::(ab,ao)::(rb,.cells zq 95)::LL):=H;rw[ql3 F U]at H;replace H:Mem w w8 ((ob,.cells (idC (updZ F k (-1))).toArray 95)::(ab,ao)::(rb,.cells zq 95)::LL):=H;refine zu ?_;rw[t4];refine LoadV.of ((ag w8 ⟨_,H,by simp⟩) 0 _ rfl) ?_;have Z:∀G:Nat->Int,(∀j,j<k->G j=F j)->G k=idP T p k->KnT T t->∀j,j<k+1->G j=idP T p j/\KnT T (gat p j):=λG h1 h2 h3 j hj=>by
  rcases Bj j k with g|g
  ·rw[h1 j g];exact hF j g
  ·obtain rfl:j=k:=by omega
   exact⟨h2,by rw[<-et];exact h3⟩
 have ad:∀x j,j<k->updZ F k x j=F j:=λx j hj=>by rw[updZ,Aa Oo]
 rcases BW (t.kind=4)with h4|h4
 case inl=>
  refine zu ?_;exact⟨(k+1,updZ F k (-1)),⟨rfl,rfl,rfl,rfl,Ae (Value.int .i64) Oo,trivial⟩,⟨by dsimp only;omega,Z _ (ad _) (by dsimp only;rw[qiz,idP,idT,<-et,Ad h4]) (.inl h4),H⟩,by dsimp only;omega⟩
 have hid:idP T p k=(noT T t:Nat):=by rw[idP,idT,<-et,Aa h4]
 refine zu ?_;rw[af];refine StoreV.mem H (i:=0) rfl (by rw[ah];exact U) rfl ?_;clear H;intro w9 H;replace H:Mem w w9 ((ob,.cells ((idC (updZ F k (-1))).toArray.setIfInBounds k (ii 0)) 95)::(ab,ao)::(rb,.cells zq 95)::LL):=H;rw[ql3 _ U]at H;replace H:Mem w w9 ((ob,.cells (idC (updZ (updZ F k (-1)) k 0)).toArray 95)::(ab,ao)::(rb,.cells zq 95)::LL):=H;rw[qzk]at H;refine zu ?_;rw[t4];refine LoadA.cells (ag w9 ⟨_,H,by simp⟩) rfl (zw ?_);refine RunV.eqTerm (a:=t) (b:=zTM) (.inl rfl) ?_;cases hz:qaj t zTM
 case true=>
  have ez:=q6.1 hz;refine zu ?_;exact⟨(k+1,updZ F k 0),⟨rfl,rfl,rfl,rfl,Ae (Value.int .i64) Oo,trivial⟩,⟨by dsimp only;omega,Z _ (ad _) (by dsimp only;rw[qiz,hid,ez,qgo rfl];rfl) (.inr (.inr ez)),H⟩,by dsimp only;omega⟩
 have az:t≠zTM:=λe=>by rw[q6.2 e]at hz;cases hz
 refine zu ?_;refine qk (λi:Nat=>[(2,pp xb),(4,pp rb),(6,pp ab),(7,pp ob),(8,ii k),(9,ii i)])
  (λi w'=>i<=T.length/\Mem w w' ((ob,.cells (idC (updZ F k (lstT T t i:Nat))).toArray 95)::(ab,ao)::(rb,.cells zq 95)::LL)) (λi=>T.length-i) 0 fq ⟨Ag _,H⟩ ?_
 clear H;rintro i ae ax ⟨hi,H⟩;have aq:∀W,Ext ae W->W.heap[xb]?=some (.cells #[.slice A n c,.slice B T.length d] 30):=λW he=>by rw[<-al];exact he.get (H.get (by rw[an];simp))
 (conv=>whnf);refine LoadV.own (aq ae xr) rfl (zw ?_);refine zC (λ_=>zu ?_) (λ_=>zu ?_)
 case' refine_2=>
  obtain rfl:i=T.length:=by omega
  rw[af];refine LoadV.own (H.get mh) (ql2 _ U) ?_;rw[qiz]
  by_cases aa:t∈T
  ·have hl:=q96 hr ak aa;obtain⟨j,hj⟩:=AP.1 aa;have h1:=qf0 hr hj (by have:=ak t aa;omega);have a0:((lstT T t T.length:Nat):Int)=((j+1:Nat):Int):=by rw[hl,h1]
   rw[a0];refine zu ?_;exact⟨(k+1,updZ F k (lstT T t T.length:Nat)),⟨rfl,rfl,rfl,rfl,Ae (Value.int .i64) Oo,trivial⟩,⟨by dsimp only;omega,Z _ (ad _) (by dsimp only;rw[qiz,hid,hl]) (.inr (.inl aa)),H⟩,by dsimp only;omega⟩
  ·rw[qyc aa znr];refine zu ?_;refine zS H 2 λa1 H=>zw ?_;refine qi (R:=λr w'=>r=qfa T p/\Ext w w') (zw ?_);refine zl H 2 ?_;refine⟨?_,H.ext⟩;rw[qfa,Aa λg=>?_]
   ·rfl
   ·have:=g k U;rw[<-et]at this
    rcases this with g|g|g
    ·exact h4 g
    ·exact aa g
    ·exact az g
 have ai:i<T.length:=by omega
 obtain⟨u,hu⟩:∃u,T[i]?=some u:=⟨_,zge ai⟩
 obtain⟨g,aj,rfl,a2⟩:=hS.at_ (by intro e;rw[e]at ai;simp at ai);have a3:=CellsAt.ext (a2 i u hu) H.ext;have hx:∀W,Ext ae.drew W->Ext ae W:=λW hd=>(Ext.refl ae).drew.trans hd
 refine DrawV.free Jk Jk (zw ?_);refine zd ?_;refine zsd (.slice (some ⟨g,aj,none⟩) T.length d) (λW hd=>zw ?_) (zw ?_)
 ·refine LoadV.own (aq W (hx W hd)) rfl (zw ?_);exact xq
 refine zd ?_;refine zsd (.pointer (some ⟨g,aj+i*4,none⟩)) (λW hd=>zw ?_) (zw ?_)
 ·refine⟨⟨g,aj,i,rfl,by omega,by omega,?_⟩⟩;rw[t4];(conv=>whnf);exact xq
 refine zsd (qv u) (λW hd=>zw ?_) (zw ?_)
 ·refine LoadA.cells (CellsAt.ext a3 (hx W hd)) rfl (zw ?_);exact xq
 refine zd ?_;apply zsd (.pointer (some ⟨ab,0+k*4,none⟩))
 ·intro W hd;refine zu ?_;exact⟨xr,by rw[t4]⟩
 (conv=>whnf);refine zsd (qv t) (λW hd=>zw ?_) (zw ?_)
 ·refine LoadA.cells (ag W ⟨_,H.call (hx W hd),by simp⟩) rfl (zw ?_);exact xq
 refine zsd (.bool (qaj u t)) (λW hd=>zw ?_) (zw ?_)
 ·refine RunV.eqTerm (a:=u) (b:=t) (.inl rfl) (zw ?_);exact xq
 intro a1 ar;replace H:=H.drew.call ar;have V:=q40 (t:=t) hu;cases au:qaj u t
 case false=>
  rw[Aa (by rw[au];decide)]at V;refine zu ?_;exact⟨i+1,⟨rfl,rfl,rfl,rfl,rfl,Ae (Value.int .i64) Oo,trivial⟩,⟨by omega,by rw[V];exact H⟩,by omega⟩
 rw[Ad au]at V;refine zu ?_;rw[af];refine StoreV.mem H (i:=0) rfl (by rw[ah];exact U) rfl ?_;clear H;intro av H;replace H:Mem w av ((ob,.cells ((idC (updZ F k (lstT T t i:Nat))).toArray.setIfInBounds k (ii ((i:Int)+1))) 95)::(ab,ao)::(rb,.cells zq 95)::LL):=H;rw[ql3 _ U]at H;replace H:Mem w av ((ob,.cells (idC (updZ (updZ F k (lstT T t i:Nat)) k ((i:Int)+1))).toArray 95)::(ab,ao)::(rb,.cells zq 95)::LL):=H;rw[qzk]at H;refine zu ?_;exact⟨i+1,⟨rfl,rfl,rfl,rfl,rfl,Ae (Value.int .i64) Oo,trivial⟩,⟨by omega,by rw[V];exact H⟩,by omega⟩
theorem q3v(U:List Q4)(A:oA)(n c:Nat)(B:oA)(m d:Nat)(q:Q4)(w:DU)(Z:U.Pairwise LtQ)(hS:SlAt qf 16 w A U)(hn:U.length=n)(hb:n<=1048576):
  Gv Eg 41 [.agg #[.slice A n c,.slice B m d],qy q] w λr w'=>(∃b,r=.bool b/\(b=true↔q∈U))/\Ext w w':=by
 refine ze Tryz.func41 Tryz.ntmps41 ?_;refine znm (Mem.nil w) λxb w1 H=>zw ?_;refine znm H λpb w2 H=>zw ?_;refine zr H 1 ?_;refine LoadA.mem (cs:=(qf q).toArray) H (i:=0) rfl rfl (zw ?_);refine zcv (qz3 U q A n c w2 (hS.ext H.ext) hn Oo) ?_;rintro r w3 ⟨⟨b,rfl,V⟩,W⟩;(conv=>whnf);refine⟨⟨b,rfl,?_⟩,H.ext.trans W⟩;rw[V];exact qrr (Z.imp λh=>qc9.2 h)
theorem qaj7(U:VTm l 3 0 ts){q:Nat->Nat}(h:∀j,j<4->q j<=ts.length):sQ ts q=q4Of l q:=by
 have H:∀j,j<4->qcl l (q j)=some (sT ts (q j)):=λj V=>qla U (h j V)
 simp only[q4Of,uT,H 0 Oo,H 1 Oo,H 2 Oo,H 3 Oo,Cd];rfl
theorem VTm.all(H:VTm l 3 0 ts)(h:(vwE l).2=0):ts=vTms l:=by
 have U:ts.length=vTot l 3:=H.len;apply Bk;intro i
 rcases Bj i ts.length with hi|hi
 ·have W:=qla H (id:=i+1) Oo;have V:=qt9 h (id:=i+1) Oo Oo;rw[W,Bm]at V;rw[<-V,sT,Aa Oo,Bm,Ah,zge hi];rfl
 ·rw[Bh hi,Bh (by rw[qi0];omega)]
def OpX(l:LB)(v:DZ)(w:DU):Prop:=
 ∃A d B c,v=.tuple #[.agg #[.slice B (qsP l).length c,.slice A (vTms (qh l)).length d],.bool true]/\SlAt qf 16 w B (qsP l)/\SlAt encT 4 w A (vTms (qh l))
theorem q5m(l:LB)(A0:oA)(c0:Nat)(w:DU)(hS:SlAt encB 1 w A0 l)(hc:l.length<=c0)(hl:l.length<=140737488351232)(h0:(poE l).2=0):
  Gv Eg 12 [.slice A0 l.length c0] w λr w'=>OpX l r w'/\Ext w w':=by
 refine ze Tryz.func12 Tryz.ntmps12 ?_;refine znm (Mem.nil w) λrb w1 U=>zw ?_;refine zcv (q5l l A0 c0 w1 (hS.ext U.ext) hc hl h0) ?_;rintro v w2 ⟨ah,ai⟩;replace U:=U.call ai;obtain⟨ts,Z,aj,hQ,A,d,B,c,rfl,ak,aa,al,ad⟩:=ah;rw[show(List.range (vNum (qj l) 3)).map (λi=>sQ ts (tNum (qj l) i))=qsP l from Cx λi hi=>qaj7 Z (hQ i (BP.1 hi)).1]at aa;rw[VTm.all Z (qb7 h0).2.2.2.1]at ad;rw[<-qmo l,<-qi0 (qh l)];refine znm (Mem.nil w2) ?_;intro ib w3 V;refine znm V ?_;clear V;intro fb w4 V;refine zS V 1 ?_;clear V;intro w5 V;refine zS V 0 ?_;clear V;intro w6 V;have ae:=V.ext;replace U:Mem w w6 [(fb,.cells #[ii 0,ii 0] 55),(ib,.cells #[ii (hN l 2:Nat),ii (hN l 3:Nat),ii (hN l 4:Nat),ii (hN l 5:Nat)] 53),(rb,.cells #[.slice none 0 0,.slice none 0 0] 30)]:=U.glue V;have af:=U.get (zmc (zmc (Ak.2 rfl)));clear V;(conv=>whnf);refine DrawV.gen (λS H w'=>Mem w w' [(fb,.cells #[ii 0,ii 0] 55),(ib,.cells #[ii (hN l 2:Nat),ii (hN l 3:Nat),ii (hN l 4:Nat),ii (hN l 5:Nat)] 53),(rb,.cells (bif S 6 then #[.slice B (qsP l).length c,.slice A (vTms (qh l)).length d]else #[.slice none 0 0,.slice none 0 0]) 30)]/\∀z,z≠rb->w'.heap[z]?=w6.heap[z]?) rfl Jk (λH=>⟨U.drew,λz _=>rfl⟩) ?_;clear U;(conv=>whnf);(iterate 4 (refine zg ?_));refine StepG.of (ii 0) (λS H wd hk hp W=>zw ?_) (zw ?_)
 ·refine zr W.1 0 ?_;exact⟨rfl,W⟩
 refine zg ?_;refine StepG.of undef (λS H wd hk hp W=>?_) (zw ?_)
 ·dsimp only at W;rw[hk]at W;refine StoreA.row W.1 (i:=2) rfl (Ai 2) (by simp[Value.oneCell']) λwx h1 V h3=>zw ?_;exact⟨rfl,h3,λz hz=>(h1 z hz).trans (W.2 z hz)⟩
 refine zg ?_;intro H w8 W;obtain⟨U,ag⟩:=W;replace U:Mem w w8 [(fb,.cells #[ii 0,ii 0] 55),(ib,.cells #[ii (hN l 2:Nat),ii (hN l 3:Nat),ii (hN l 4:Nat),ii (hN l 5:Nat)] 53),(rb,.cells #[.slice B (qsP l).length c,.slice A (vTms (qh l)).length d] 30)]:=U;refine qi (R:=λr w'=>OpX l r w'/\Ext w w') ?_;refine zl U 2 ?_;refine⟨⟨A,d,B,c,rfl,SlAt.other (aa.ext ae) af (λy _ v hv=>?_) (λy _=>by simp[qf,encT]) ag,SlAt.other (ad.ext ae) af (λy _ v hv=>?_) (λy _=>by simp[encT]) ag⟩,U.ext⟩
 all_goals
  have:v=.slice none 0 0:=by simpa using hv
  subst this;intro e;cases e
theorem qai4:Eg.underlying 95=some (.array 4 3):=by kernel_rfl
theorem q9o:Eg.eqGuardType Eg.depth 95=false:=by kernel_rfl
theorem qafi:Eg.info? 3=some ((Eg.info? 3).get Jk):=(Bt _).symm
theorem qmv(d:Nat)(a b c e:Int)(w:DU):(Op.equalIn (d+2) 95 (.agg #[ii a,ii b,ii c,ii e]) (.agg #[ii a,ii b,ii c,ii e])).run Eg w=.ok true w:=by
 have U:=Tryz.underlying3;have V:=Tryz.isAgg3;have W:=Tryz.sizeOf3;rw[run_equalIn_array (w:=w) (d:=d+1) _ _ qai4 qafi];have H:Eg.cellsOf 3=1:=by kernel_rfl
 rw[H,show List.range 4=[0,1,2,3]from rfl];simp only[Op.eqItems]
 go_simp
theorem V.RunV.eqIds{a b c e:Int}(h:K (.bool true) w):
  RunV Eg (do eqGuard .eql 95 xo yo (.agg #[ii a,ii b,ii c,ii e]) (.agg #[ii a,ii b,ii c,ii e]);binOp .eql 95 (.agg #[ii a,ii b,ii c,ii e]) (.agg #[ii a,ii b,ii c,ii e])) w K:=by
 refine⟨_,w,?_,h⟩;have H:=qmv 9998 a b c e w;rw[Sem.run_bind,run_eqGuard_agg w .eql _ xo yo _ _ q9o,Result.andThen_ok,run_eql_struct,H];rfl
theorem V.SlAt.pre{α:Type}{U:α->Ee}{H:Nat}{l:List α}(h:SlAt U H w A l)(n:Nat):SlAt U H w A (l.take n):=by
 refine⟨λW=>?_⟩;obtain⟨b,Z,h1,h2⟩:=h.at_ (by rintro rfl;simp at W);refine⟨b,Z,h1,λj x V=>h2 j x ?_⟩;rw[BE]at V
 split at V
 ·exact V
 ·cases V
structure AskE where
 kind:Int
 q:Q4
 pl:Int
 pre:DV
 most:Int
def askC(a:AskE):Ee:=ii a.kind::(qf a.q++[ii a.pl,.string a.pre,ii a.most])
def askV(a:AskE):DZ:=.agg (askC a).toArray
def qaez(b:Bool):Ee:=[.bool b]
def q7z(a:AskE):Prop:=qa5 a.q/\InR .i64 a.most
theorem q8a(a:AskE):(askC a).length=20:=rfl
theorem qaky{o:Nat}{a:AskE}(h:CellsAt w b o (askC a)):CellsAt w b (o+1) (qf a.q):=λk v H=>by
 have U:k<(qf a.q).length:=(Af.1 H).1;have:=h (1+k) v (by rw[askC,DG,BR,Ba U];exact H)
 rwa[<-C7]at this
theorem q6d(T:List TM)(p:Q4):∃(F:Nat->Int) (b:Bool),qfa T p=.tuple #[.agg #[ii (F 0),ii (F 1),ii (F 2),ii (F 3)],.bool b]:=by
 by_cases H:KnQ T p
 ·exact⟨idP T p,true,by rw[qfa,Ad H]⟩
 ·exact⟨λ_=>0,false,by rw[qfa,Aa H];rfl⟩
end Go.Proofs.YtccmcfpmknpccaaGreatDoor
