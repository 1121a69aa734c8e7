/- Lemmas and contracts of functions on the way to the law's card (part 15 of 16). -/
import Derived.Test.YtccmcfpmknpccaaGreatDoorSB14
namespace Go.Proofs.YtccmcfpmknpccaaGreatDoor
set_option maxHeartbeats 8000000
open Go.RowKit V
set_option maxHeartbeats 8000000
set_option maxRecDepth 100000
theorem qh5(O:List Q4)(A:oA)(n c:Nat)(p:Q4)(Z:Int)(pre W:Dd)(w:Dc)(hS:SlAt qe 16 w A O)(hn:O.length=n)(hb:n<=140737488355328)(hq:∀q∈O,qay q)(hp:qay p)(a2:pre.size<=140737488355328)(a3:W.size<=140737488355328)(hG:GlobO w):
  Gv Do 6 [.slice A n c,qv p,ii Z,.string pre,.string W] w λr w'=>r=.bool true/\Ext w w':=by
 have ah:tsz Do 77=17:=by kernel_rfl
 refine ze Tryz.func6 Tryz.ntmps6 ?_;refine znm (Mem.nil w) ?_;intro qb w1 U;replace U:Mem w w1 [(qb,.cells (qe p).toArray 47)]:=U;(conv=>whnf);refine zcv (qrk w1 (hG.ext U.ext)) ?_;rintro r w2 ⟨rfl,he⟩;replace U:=U.call he;refine zu ?_;refine zcv (qft O A n c w2 (hS.ext U.ext) hn hb hq (hG.ext U.ext).S (hG.ext U.ext).N (hG.ext U.ext).E) ?_;rintro r w3 ⟨⟨_,rfl⟩|⟨ac,x0,xp,vb,tb,rfl,hX⟩,he⟩
 ·refine zu ?_;exact⟨rfl,U.ext.trans he⟩
 replace U:=U.call he;have a0:=ac.set.len;have an:=qko p O;refine zu ?_;refine zl U 0 ?_;refine zv ?_;have ad:(n:Int)+1=((n+1:Nat):Int):=by omega
 rw[ad];refine zcv (qi6 _ O ac x0 xp vb tb p hp (n+1) Oo w3 hX (hG.ext U.ext).S) ?_;rintro r w4 ⟨⟨v,rfl,hM⟩,he⟩;rw[Ay Oo]at hM;replace U:=U.call he;replace hX:=hX.ext he;obtain⟨f,ef⟩:∃f:Nat->Bool,f=λi=>plOk Z&&begQ Z pre (O.getD i zQ):=⟨_,rfl⟩
 obtain⟨M,eM⟩:∃M,M=qa5 p O:=⟨_,rfl⟩
 have eB:begL Z pre p O=M.filter f:=by rw[begL,eM,ef]
 rw[<-eM]at an hM;obtain⟨D,d,rfl,hd,hD⟩:=hM;rw[qfd]at hd|-;have aa:=U;clear U;obtain⟨ai,ew⟩:∃ai:Dc,ai=w3:=⟨_,rfl⟩
 (conv=>whnf);refine qm (λx:Nat×oA×Nat=>[(0,.slice A n c),(2,ii Z),(3,.string pre),(4,.string W),(6,pp qb),(11,pp x0),(13,.slice D M.length d),(15,.slice x.2.1 (fltI f M x.1).length x.2.2),(16,ii x.1)])
  (λx w'=>x.1<=M.length/\Rw w4 w' (.slice x.2.1 (fltI f M x.1).length x.2.2) 77 17 (fltI f M x.1).length ((snL O (fltI f M x.1)).map snQ).flatten []) (λx=>M.length-x.1) (0,none,0)
  fq ⟨An _,Rw.nil (Mem.nil w4)⟩ ?_
 rintro⟨i,B,cb⟩ w5 a4 ⟨hi,H⟩;dsimp only at hi H|-;have a5:=q7x f M i;(conv=>whnf);refine zC (λ_=>zw ?_) (λ_=>zw ?_)
 case' refine_2=>
  obtain rfl:i=M.length:=by omega
  rw[q23]at H|-;have hl:=qfd O (M.filter f);obtain⟨h3,h4⟩:=qzv qfe H.own hl;have hx:=H.mem.ext;clear H;refine LoadA.own (hx.get (aa.get mh)) rfl (zu ?_);rw[ad];refine zcv (qis _ O ac x0 xp vb tb p hp Z pre (n+1) Oo w5 (hX.ext hx) (hG.ext (aa.ext.trans hx)).S) ?_;rintro r w6 ⟨⟨v,rfl,hv⟩,aj⟩;rw[Ay (A4 (qph Z pre p O) Oo)]at hv;replace hx:=hx.trans aj;obtain⟨B2,d2,rfl,ao,h2⟩:=hv;rw[qfd,eB]at ao|-;rw[eB]at h2;(conv=>whnf);refine LoadA.own (hx.get (aa.get mh)) rfl (zw ?_);refine Obl.mk Oo (zu ?_);rw[ad];refine zcv (qis _ O ac x0 xp vb tb p hp Z (pre++W) (n+1) Oo w6 (hX.ext hx) (hG.ext (aa.ext.trans hx)).S) ?_;rintro r w7 ⟨⟨v,rfl,hv⟩,ae⟩;rw[Ay (A4 (qph Z _ p O) Oo)]at hv;replace hx:=hx.trans ae;obtain⟨B3,d3,rfl,aq,-⟩:=hv;have ar:=qwq Z pre W p O;rw[eB]at ar;rw[qfd]at aq|-;refine zu ?_;have ak:=qc3 (snL O (M.filter f)) B2 B d2 cb w7 (h2.ext ae) (h3.ext (aj.trans ae)) (by rw[hl];have:=Cs f M;omega);rw[hl]at ak;refine zcv (ak) ?_;rintro r w8 ⟨rfl,au⟩;refine zu ?_;exact⟨by rw[AF Oo],(aa.ext.trans hx).trans au⟩
 have av:i<M.length:=by omega
 obtain⟨j,hj⟩:∃j,M[i]?=some j:=⟨_,zge av⟩
 have a6:j<O.length:=q3q (p:=p) (by rw[<-eM];exact zmg hj);obtain⟨x,af⟩:∃x,O.getD j zQ=x:=⟨_,rfl⟩
 obtain⟨g,al,rfl,aw⟩:=hD.at_ (by intro e;have:=qfd O M;rw[e]at this;simp at this;omega);have ag:=aw i _ (qqz hj);rw[af]at ag;have ax:=CellsAt.ext (qaci ag) H.mem.ext;refine⟨⟨g,al,i,rfl,by omega,by omega,?_⟩⟩;rw[ah];(conv=>whnf);refine LoadA.cells ax rfl (zw ?_);refine zcv (q15 x Z w5) ?_;rintro r a7 ⟨rfl,ay⟩;replace H:=H.call ay;have ab:f j=(plOk Z&&begQ Z pre x):=by rw[ef];dsimp only;rw[af]
 obtain⟨T,eT⟩:∃T,T=(if plOk Z=true then plT Z x else zTM):=⟨_,rfl⟩
 rw[<-eT];(conv=>whnf);refine NewV.rw H λtb w6 H=>zw ?_;refine StoreA.rwAll (vs:=encT T) H rfl (qaa T) ?_;clear H;intro w7 H;have H:Rw w4 w7 (.slice B (fltI f M i).length cb) 77 17 (fltI f M i).length ((snL O (fltI f M i)).map snQ).flatten [(tb,.cells #[ii T.kind,.string T.text,.string T.type,.string T.lang] 45)]:=H;cases hp:plOk Z
 case false=>
  have e:=qlu hj (show f j=false by rw[ab,hp];rfl);refine zu ?_;exact⟨(i+1,B,cb),⟨rfl,rfl,rfl,rfl,rfl,rfl,rfl,by dsimp only;rw[e];rfl,Ad (Value.int .i64) Oo,trivial⟩,⟨by dsimp only;omega,by dsimp only;rw[e];exact H.tail⟩,by dsimp only;omega⟩
 rw[hp,Af rfl]at eT;rw[hp,CT]at ab
 rcases BV (T.kind=1)with hk|hk
 case inr=>
  have e:=qlu hj (show f j=false by rw[ab];exact qwr (by rw[<-eT];exact hk));refine zu ?_;refine zr H.mem 0 ?_;refine zv ?_;exact⟨(i+1,B,cb),⟨rfl,rfl,rfl,rfl,rfl,rfl,rfl,by dsimp only;rw[e];rfl,Ad (Value.int .i64) Oo,trivial⟩,⟨by dsimp only;omega,by dsimp only;rw[e];exact H.tail⟩,by dsimp only;omega⟩
 rcases AH T.text.size pre.size with hz|hz
 case inl=>
  have e:=qlu hj (show f j=false by rw[ab];exact qws (by rw[<-eT];exact hz));refine zu ?_;refine zr H.mem 0 ?_;refine zv ?_;refine zr H.mem 0 ?_;refine zv ?_;exact⟨(i+1,B,cb),⟨rfl,rfl,rfl,rfl,rfl,rfl,rfl,by dsimp only;rw[e];rfl,Ad (Value.int .i64) Oo,trivial⟩,⟨by dsimp only;omega,by dsimp only;rw[e];exact H.tail⟩,by dsimp only;omega⟩
 have am:f j=seq (T.text.extract 0 pre.size) pre:=by rw[ab,q19 (by rw[<-eT];exact hk) (by rw[<-eT];exact hz),<-eT]
 refine zu ?_;refine zr H.mem 0 ?_;refine zv ?_;refine zr H.mem 0 ?_;refine zv ?_;refine zr H.mem 0 ?_;refine zv ?_;refine SliceS.at_ 0 pre.size rfl rfl (An _) hz (zu ?_);cases hs:seq (T.text.extract 0 pre.size) pre
 case false=>
  have e:=qlu hj (am.trans hs);refine zv ?_;exact⟨(i+1,B,cb),⟨rfl,rfl,rfl,rfl,rfl,rfl,rfl,by dsimp only;rw[e];rfl,Ad (Value.int .i64) Oo,trivial⟩,⟨by dsimp only;omega,by dsimp only;rw[e];exact H.tail⟩,by dsimp only;omega⟩
 have e:=q24 hj (am.trans hs);refine zv ?_;refine⟨⟨g,al,i,rfl,by omega,by omega,?_⟩⟩;rw[ah];(conv=>whnf);refine LoadA.cells (vs:=snQ ((j:Int),x)) (CellsAt.ext ag H.mem.ext) rfl (zw ?_);refine NewV.rw H ?_;clear H;intro nb w8 H;have H:Rw w4 w8 (.slice B (fltI f M i).length cb) 77 17 (fltI f M i).length ((snL O (fltI f M i)).map snQ).flatten [(nb,.cells (snQ ((j:Int),x)).toArray 77),(tb,.cells #[ii T.kind,.string T.text,.string T.type,.string T.lang] 45)]:=H;(conv=>whnf);refine AppV.rw (m:=1) (news:=snQ ((j:Int),x)) q9q s20I s20Z Jk Jk Od H rfl (λ_=>⟨nb,0,rfl,λk v hv=>?_⟩) (qq0 _) (by rw[s20B];omega) Oo ?_
 ·rw[qa (H.mem.get mh),Aq];rw[Az];exact hv
 clear H;intro B2 c2 w9 H;refine zu ?_;have el:(fltI f M (i+1)).length=(fltI f M i).length+1:=by rw[e,zla];rfl
 have az:((snL O (fltI f M (i+1))).map snQ).flatten=((snL O (fltI f M i)).map snQ).flatten++snQ ((j:Int),x):=by
  rw[e,snL,AY,AY,BX,snL];simp[snQ,<-af]
 exact⟨(i+1,B2,c2),⟨rfl,rfl,rfl,rfl,rfl,rfl,rfl,by dsimp only;rw[el];rfl,Ad (Value.int .i64) Oo,trivial⟩,⟨by dsimp only;omega,by dsimp only;rw[el,az];exact H.tail.tail⟩,by dsimp only;omega⟩
end Go.Proofs.YtccmcfpmknpccaaGreatDoor
