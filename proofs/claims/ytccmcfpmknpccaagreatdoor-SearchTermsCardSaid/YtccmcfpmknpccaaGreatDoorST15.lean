/- Lemmas and contracts of functions on the way to the law's card (part 15 of 16). -/
import Derived.Test.YtccmcfpmknpccaaGreatDoorST14
namespace Go.Proofs.YtccmcfpmknpccaaGreatDoor
set_option maxHeartbeats 8000000
open Go.RowKit V
set_option maxHeartbeats 8000000
set_option maxRecDepth 100000
variable {i k:Nat} {T:List TM} {qs:List Q4} {pl:Int}
theorem q9d{p:Q4}{t:TM}(H:qap p)(O:TermOk t):qap (putQ p k t):=by
 intro j;have U:=H 0;have W:=H 1;have Z:=H 2;have h3:=H 3;unfold putQ
 split<;>unfold Q4.at<;>split<;>assumption
theorem EncOk.noAny(h:EncOk T qs)(j:Nat):∀q∈qs,(q.at j).kind≠4:=λq O=>by
 have H:∀k,k<4->(gat q k).kind≠4:=λk U=>by
  rcases h.gatIn q O k U with g|g
  ·have:=h.kinds _ g;omega
  ·rw[g];decide
 unfold Q4.at
 split
 ·exact H 1 Od
 ·exact H 2 Od
 ·exact H 3 Od
 ·exact H 0 Od
theorem qacr(O:∀q∈qs,qap q){p:Q4}{t:TM}(h:(tasL pl p qs)[i]?=some t):TermOk t:=by
 have H:=zmg h;rw[tasL]at H
 split at H
 ·obtain⟨i,U,rfl⟩:=AG.1 (((qdf ordT (tatL pl p qs)).2 t).1 H);obtain⟨q,e,_⟩:=qei.1 U;rw[Ag,e];exact O q (zmg e) pl.toNat
 ·cases H
def qaca(b:Nat):Nat->Di:=λj=>.pointer (some ⟨b,4*j,none⟩)
theorem qji(qs:List Q4)(A:oA)(n c:Nat)(p:Q4)(pl:Int)(w:Dd)(hS:SlAt qe 16 w A qs)(W:qs.length=n)(hb:n<=140737488355328)(hq:∀q∈qs,qap q)(hp:qap p)(hG:GlobO w):
  Gv Dp 5 [.slice A n c,qw p,ii pl] w λr w'=>r=.bool true/\Ext w w':=by
 have b4:tsz Dp 45=4:=by kernel_rfl
 refine ze Tryz.func5 Tryz.ntmps5 ?_;refine znm (Mem.nil w) ?_;intro pb w1 O;replace O:Mem w w1 [(pb,.cells (qe p).toArray 47)]:=O;(conv=>whnf);refine zcv (qri w1 (hG.ext O.ext)) ?_;rintro r w2 ⟨rfl,he⟩;replace O:=O.call he;refine zu ?_;refine zcv (qft qs A n c w2 (hS.ext O.ext) W hb hq (hG.ext O.ext).S (hG.ext O.ext).N (hG.ext O.ext).E) ?_;rintro r w3 ⟨⟨_,rfl⟩|⟨aa,x,xp,vb,tb,rfl,hX⟩,he⟩
 ·refine zu ?_;exact⟨rfl,O.ext.trans he⟩
 replace O:=O.call he;have a0:=aa.set.len;refine zu ?_;refine zl O 0 ?_;refine zv ?_;rw[show(n:Int)+1=((n+1:Nat):Int)by omega];refine zcv (qk2 _ qs aa x xp vb tb p hp pl (n+1) Oo w3 hX (hG.ext O.ext).S) ?_;rintro r w4 ⟨⟨v,rfl,hM⟩,he⟩;have au:=q05 pl p qs;rw[Ay Oo]at hM;replace O:=O.call he;replace hX:=hX.ext he;obtain⟨U,eU⟩:∃U,U=tasL pl p qs:=⟨_,rfl⟩
 rw[<-eU]at au hM;obtain⟨B,d,rfl,Z,hB⟩:=hM;(conv=>whnf);refine if av:0<=pl/\pl<=3 then ?_ else ?_
 case' refine_2=>
  have a1:U.length=0:=by rw[eU,qacq p qs (qzz.2 Oo)];rfl
  refine zC (λ_=>zu ?_) (λ_=>zu ?_)
  all_goals exact⟨by rw[AI (show(U.length:Int)=0 by omega)],O.ext⟩
 obtain⟨k,rfl⟩:∃k:Nat,pl=(k:Int):=⟨pl.toNat,by omega⟩
 have ai:k<4:=by omega
 have ac:=q2m (p:=p) (aa.noAny _) (qmh.2 av);have aj:=λi t h=>qacp (p:=p) (pl:=(k:Int)) (i:=i) (t:=t) (aa.noAny _) h
 have ak:=λi t h=>qacr hq (p:=p) (pl:=(k:Int)) (i:=i) (t:=t) h
 have af:∀i,cntS p k qs U i<=(qal p qs).length:=λi=>by
  rw[<-ac,cntS,cntS,BB,<-eU];exact q02 _ _ _
 have a2:=qkm p qs;rw[<-eU]at ac aj ak;clear eU;refine zv ?_;refine qn (λi:Nat=>[(2,ii k),(4,pp pb),(7,pp x),(9,.slice B U.length d),(10,.bool true),(11,ii (cntS p k qs U i:Nat)),(12,ii i)])
  (λi w'=>i<=U.length/\Ext w4 w'/\Mem w w' [(pb,.cells (qe p).toArray 47)]) (λi=>U.length-i) 0 fq ⟨An _,xr,O⟩ ?_
 clear O;rintro i w5 a3 ⟨hi,ad,O⟩;have aw:=hB.ext ad;(conv=>whnf);refine if ax:i<U.length then ?_ else ?_
 case' refine_2=>
  obtain rfl:i=U.length:=by omega
  refine zv ?_;refine zl O 0 ?_;refine zv ?_;refine zcv (qhb _ qs aa x xp vb tb p hp w5 (hX.ext ad) (hG.ext O.ext).S) ?_;rintro r w6 ⟨rfl,he⟩;rw[ac];refine zu ?_;exact⟨by simp,O.ext.trans he⟩
 obtain⟨t,ht⟩:∃t,U[i]?=some t:=⟨_,zge ax⟩
 obtain⟨h1,h2⟩:=aj i t ht;obtain⟨g,ab,rfl,hc⟩:=aw.at_ (by rintro rfl;cases ht);have al:=hc i t ht;have am:∀H,Ext w5.drew H->Ext w5 H:=λH h=>(Ext.refl w5).drew.trans h
 refine zv ?_;refine if i0:i=0 then ?cz else ?cp
 case' cz=>
  refine DrawV.free Jk Jk (zw ?_);refine zd ?_;refine zsd (.bool false) (λwd Z=>zw ?_) (zw ?_)
  ·exact⟨xr,by rw[AZ (show ¬(0:Int)<i by omega)]⟩
  (iterate 13 (refine zd ?_))
 case' cp=>
  obtain⟨u,hu⟩:∃u,U[i-1]?=some u:=⟨_,zge Oo⟩
  have ay:=hc (i-1) u hu;have a4:=h2 u Oo hu;refine DrawV.free Jk Jk (zw ?_);refine zd ?_;refine zsd (.bool true) (λwd Z=>zw ?_) (zw ?_)
  ·exact⟨xr,by rw[AI (show(0:Int)<i by omega)]⟩
  (iterate 4 (refine zd ?_));apply zsd (.pointer (some ⟨g,ab+(i-1)*4,none⟩))
  ·intro wd Z;refine zu ?_;refine⟨⟨g,ab,i-1,rfl,by omega,by omega,?_⟩⟩;rw[b4];exact xq
  (conv=>whnf);apply zsd (qr u)
  ·intro wd Z;refine zu ?_;refine LoadA.cells (ay.ext (am wd Z)) rfl (zw ?_);exact xq
  (conv=>whnf);refine zd ?_;refine zd ?_;apply zsd (.pointer (some ⟨g,ab+i*4,none⟩))
  ·intro wd Z;refine zu ?_;refine⟨⟨g,ab,i,rfl,by omega,by omega,?_⟩⟩;rw[b4];exact xq
  (conv=>whnf);apply zsd (qr t)
  ·intro wd Z;refine zu ?_;refine LoadA.cells (al.ext (am wd Z)) rfl (zw ?_);exact xq
  (conv=>whnf);apply zsd (ii (cmpT u t))
  ·intro wd Z;refine zu ?_;refine zcv (qcl u t wd) ?_;rintro v w9 ⟨rfl,h9⟩;exact⟨h9,rfl⟩
  (conv=>whnf);apply zsd (.bool false)
  ·intro wd Z;refine zu ?_;exact⟨xr,by rw[AZ (show ¬(0:Int)<=cmpT u t by omega)]⟩
  (conv=>whnf);refine zd ?_
 all_goals
  intro w6 az;have W:=(Mem.nil w5).drew.call az;refine zu ?_;refine LoadA.own (W.ext.get (O.get mh)) rfl (zw ?_);refine znm W λae w7 W=>zw ?_;refine StoreA.all W (i:=0) rfl rfl (qa8 p) λw8 W=>zw ?_;refine znm W λan w9 W=>zw ?_;refine zS W 0 ?_;intro ag W;replace W:Mem w5 ag [(an,.cells (fnA 4 (qaca ae)) 68),(ae,.cells (qe p).toArray 47)]:=W;have ao:∀H,Ext ag.drew H->CellsAt H g (ab+i*4) (encT t):=λH h=>al.ext ((W.ext.trans (Ext.refl ag).drew).trans h)
  (conv=>whnf);refine DrawV.own rfl Jk (zw ?_);refine zo ?_;apply StepO.still
  ·intro wd Z;(conv=>whnf);refine IdxV.at_ k Oo Oo (zw ?_);exact PostO.still xr rfl
  (conv=>whnf);apply StepO.still
  ·intro wd Z;(conv=>whnf);refine LoadV.fn (Mem.call (Mem.drew W) Z) (i:=0) rfl k (by rw[show tsz Dp 67=1 from by kernel_rfl];omega) ai rfl (zw ?_);exact PostO.still xr rfl
  (conv=>whnf);refine zo ?_;refine zo ?_;apply StepO.still
  ·intro wd Z;(conv=>whnf);refine⟨⟨g,ab,i,rfl,by omega,by omega,?_⟩⟩;rw[b4];exact PostO.still xr rfl
  (conv=>whnf);apply StepO.still
  ·intro wd Z;(conv=>whnf);refine LoadA.cells (ao wd Z) rfl (zw ?_);exact PostO.still xr rfl
  (conv=>whnf);refine zo ?_;intro a5 Z
  (repeat(intro _;(conv=>whnf)))
  (conv=>whnf);refine StoreA.mem (W.drew.call Z) (i:=1) rfl (show 4*k+4<=16 by omega) (qab t) ?_;intro aq W;replace W:Mem w5 aq [(an,.cells (fnA 4 (qaca ae)) 68),(ae,.cells (qe (putQ p k t)).toArray 47)]:=by
   rw[<-qacc p k t ai];exact W
  (conv=>whnf);refine zl W 1 ?_;refine zcv (qhb _ qs aa x xp vb tb (putQ p k t) (q9d hp (ak i t ht)) aq (hX.ext (ad.trans W.ext)) (hG.ext (O.ext.trans W.ext)).S) ?_;rintro r a6 ⟨rfl,he⟩;have a7:=af i;have ar:=af (i+1);have ah:=qw7 (p:=p) (pl:=(k:Int)) (qs:=qs) ht;rw[ah]at ar;simp only[CU]at ar ah h1;refine zu ?_;exact⟨i+1,⟨rfl,rfl,rfl,rfl,rfl,by rw[ah];exact Ae (Value.int .i64) Oo,rfl,trivial⟩,⟨by omega,(ad.trans W.ext).trans he,O.call (W.ext.trans he)⟩,by omega⟩
end Go.Proofs.YtccmcfpmknpccaaGreatDoor
