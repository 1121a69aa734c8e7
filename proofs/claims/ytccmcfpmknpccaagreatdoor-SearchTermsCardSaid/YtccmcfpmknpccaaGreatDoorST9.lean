/- Lemmas and contracts of functions on the way to the law's card (part 9 of 16). -/
import Derived.Test.YtccmcfpmknpccaaGreatDoorST8
namespace Go.Proofs.YtccmcfpmknpccaaGreatDoor
set_option maxHeartbeats 8000000
open Go.RowKit V
set_option maxHeartbeats 8000000
set_option maxRecDepth 100000
variable {w:Dd} {N b hi i id j k lo nb off:Nat} {cs:Dq} {fr:Nat×Nat} {vs:Dn} {d l:LB} {T:List TM} {qs:List Q4}
def wkC(tb y:Nat)(P:Nat->Int)(s:WS):Dn:=[pp tb,ii (P 0),ii (P 1),ii (P 2),ii (P 3),ii (s.1 0),ii (s.1 1),ii (s.1 2),ii (s.1 3),ii (s.2 0),ii (s.2 1),ii (s.2 2),ii (s.2 3),.func (.yield y) #[] #[]]
def wkO(tb y:Nat)(P:Nat->Int)(s:WS):Obj:=.cells (wkC tb y P s).toArray 347
def mAgg(q:Nat->Nat):Di:=.agg #[ii (q 0),ii (q 1),ii (q 2),ii (q 3)]
def mRow(r:Nat×(Nat->Nat)):Dn:=[ii r.1,mAgg r.2]
section
variable {tb y:Nat} {P:Nat->Int} {s:WS} {k:Nat}
theorem qac4(hk:k<4):(wkC tb y P s).toArray[1+k]?=some (ii (P k)):=by
 match k,hk with
 | 0,_=>rfl
 | 1,_=>rfl
 | 2,_=>rfl
 | 3,_=>rfl
theorem qaar(hk:k<4):(wkC tb y P s).toArray[5+k]?=some (ii (s.1 k)):=by
 match k,hk with
 | 0,_=>rfl
 | 1,_=>rfl
 | 2,_=>rfl
 | 3,_=>rfl
theorem qaas(hk:k<4)(v:Nat):(wkC tb y P s).toArray.setIfInBounds (5+k) (ii v)=(wkC tb y P (updN s.1 k v,s.2)).toArray:=by
 match k,hk with
 | 0,_=>rfl
 | 1,_=>rfl
 | 2,_=>rfl
 | 3,_=>rfl
theorem qaat(hk:k<4)(v:Nat):(wkC tb y P s).toArray.setIfInBounds (9+k) (ii v)=(wkC tb y P (s.1,updN s.2 k v)).toArray:=by
 match k,hk with
 | 0,_=>rfl
 | 1,_=>rfl
 | 2,_=>rfl
 | 3,_=>rfl
end
theorem V.LoadA.part{H:Nat}{t:Dg}{K:Dn->Prop}(h:w.heap[b]?=some (.cells cs t fr))(U:vs.length=H)(W:∀i,i<H->cs[off+i]?=vs[i]?)(hk:K vs):LoadA w b off H K:=
 ⟨vs,U,λj Z=>by rw[qa h];exact W j Z,hk⟩
def RowsAt(xs:List Dn)(j:Nat)(R:List (Nat×(Nat->Nat))):Prop:=∀t row,R[t]?=some row->xs[j+t]?=some (mRow row)
theorem RowsAt.left{xs:List Dn}{R S:List (Nat×(Nat->Nat))}(h:RowsAt xs j (R++S)):RowsAt xs j R:=λt row ht=>h t row (by rw[Bb (Ad.1 ht).1];exact ht)
theorem RowsAt.right{xs:List Dn}{R S:List (Nat×(Nat->Nat))}(h:RowsAt xs j (R++S)):RowsAt xs (j+R.length) S:=λt row ht=>by
 rw[C1];exact h _ row (by rw[Be Oo,BL];exact ht)
def PastOk(s:WS):Prop:=∀k,k<4->s.1 k<=1048576
theorem PastOk.upd{s:WS}(h:PastOk s){v:Nat}(H:v<=1048576):PastOk (updN s.1 k v,s.2):=λi hi=>by
 show updN s.1 k v i<=_;unfold updN
 split
 ·exact H
 ·exact h i hi
theorem qsk{f:Nat->WS->WR}(H:∀i s,PastOk s->PastOk (f i s).2):∀m i s,PastOk s->PastOk (goL f m i s).2
 | 0,_,_,h=>h
 | m+1,i,s,h=>qsk H m (i+1) _ (H i s h)
theorem qsx{T:LvD}(hN:∀k,k<4->T.N k<=1048576){P:Nat->Int}{f:Nat->WS->WR}(hk:k<4)(H:∀i s,PastOk s->PastOk (f i s).2){s:WS}(h:PastOk s):PastOk (lvS T P f k lo hi s).2:=by
 rw[lvS]
 split
 ·exact h
 ·refine qsk (f:=λi s=>f i (s.1,updN s.2 k (T.nu k i))) (λi s U=>H i _ U) _ _ _ (h.upd ?_);have:=hN k hk;omega
theorem ql8{T:LvD}(hN:∀k,k<4->T.N k<=1048576){P:Nat->Int}:∀{d k lo hi:Nat} {s:WS},k+d=3->PastOk s->PastOk (lvG T P d k lo hi s).2
 | 0,k,lo,hi,s,hk,h=>qsx hN Oo (λ_ _ h=>h) h
 | d+1,k,lo,hi,s,hk,h=>qsx hN Oo (λi s h=>ql8 hN Oo h) h
section
variable (tb wb y:Nat) (l:LB) (P:Nat->Int) (xs:List Dn) (I Ix:Nat->Dm->Dl)
theorem qy0(cI:∀k,Carr (I k))(_:∀k,Carr (Ix k))(ac:∀k X w,I k X w->TreeAt w tb l)(au:∀k,k<3->tVec l (k+1)=true->vM (qd l (k+1))<=vN (qd l (k+1)))(hP:∀k,k<4->InR .i64 (P k))(hy:∀k x X w,xs[k]?=some x->I k X w->YieldV Dp y x w λv w'=>(v=.bool true/\I (k+1) X w')\/(v=.bool false/\Ix k X w')):
  ∀(d k lo hi j:Nat) (s:WS) (X:Dm) (w:Dd),k+d=3->lo<=1048576->hi<=1048576->PastOk s->RowsAt xs j (lvG (treD l) P d k lo hi s).1->I j ((wb,wkO tb y P s)::X) w->
  Gv Dp 207 [pp wb,ii k,ii lo,ii hi] w λr w'=>
   (r=.bool true/\I (j+(lvG (treD l) P d k lo hi s).1.length) ((wb,wkO tb y P (lvG (treD l) P d k lo hi s).2)::X) w')\/
   (r=.bool false/\∃j' s',j'<j+(lvG (treD l) P d k lo hi s).1.length/\Ix j' ((wb,wkO tb y P s')::X) w'):=by
 have t1:tsz Dp 3=1:=by kernel_rfl
 have t8:tsz Dp 244=8:=by kernel_rfl
 intro d
 induction d using Nat.strongRecOn with
 | _ d ih=>
 intro k lo hi j s X w bj bk bl av hR H;obtain⟨F,eF,aw,ax⟩:∃F:Nat->WS->WR,lvG (treD l) P d k lo hi s=lvS (treD l) P F k lo hi s/\(d=0->∀i s,F i s=([(i,s.2)],s))/\(∀d',d=d'+1->∀i s,F i s=lvG (treD l) P d' (k+1) (chB l k i).1 (chB l k i).2 s):=by
  cases d with
  | zero=>exact⟨_,rfl,λ_ _ _=>rfl,λ_ h=>by cases h⟩
  | succ d=>exact⟨_,rfl,λh=>by(cases h),λd' h i s=>by cases h;rfl⟩
 rw[eF]at hR|-;clear eF;have hk:k<4:=by omega
 have hn:=(ac _ _ _ H).n k hk;have ag:=(ac _ _ _ H).wd k hk;have bm:∀i s,PastOk s->PastOk (F i s).2:=λi s hs=>by
  cases d with
  | zero=>rw[aw rfl];exact hs
  | succ d=>rw[ax d rfl];exact ql8 (T:=treD l) (λk hk=>(ac _ _ _ H).n k hk) Oo hs
 have bn:=av k hk;unfold lvS at hR|-;obtain⟨a,ea⟩:∃a,a=max lo (s.1 k):=⟨_,rfl⟩
 obtain⟨b,eb⟩:∃b,b=min hi ((treD l).N k):=⟨_,rfl⟩
 have bo:b=min hi (vNum l k):=eb;rw[<-ea,<-eb]at hR|-;have ay:=λX w (h:I j X w)=>((ac _ _ _ h).lv k hk).h
 refine gvW Jk Tryz.func207 rfl Tryz.ntmps207 rfl (zw ?_);refine LoadV.own ((cI _).get H mh) rfl (zw ?_);refine IdxV.at_ k rfl hk (zw ?_);refine DrawW.any Jk (.inl rfl) (AnyV.free Jk ?_);(conv=>whnf);(iterate 5 (refine zd ?_));refine zsd (.pointer (some ⟨wb,5+k,none⟩)) (λwd hd=>zw ?_) (zw ?_)
 ·refine IdxV.at_ k rfl hk (zw ?_);exact⟨xr,Ae (λo=>Value.pointer (some ⟨wb,o,none⟩)) (by rw[t1];show 0+5+k*1=5+k;omega)⟩
 refine zsd (ii (s.1 k:Nat)) (λwd hd=>zw ?_) (zw ?_)
 ·refine LoadV.own (Ext.get (Ext.trans (Ext.drew xr) hd) ((cI _).get H mh)) (qaar hk) (zw ?_);exact xq
 refine zsd (ii (a:Nat)) (λwd hd=>zw ?_) (zw ?_)
 ·refine V.Fall.max2 rfl rfl rfl λm hm=>?_;exact⟨xr,Ae (Value.int .i64) Oo⟩
 (iterate 4 (refine zd ?_));refine zsd (ii (vNum l k:Nat)) (λwd hd=>zw ?_) (zw ?_)
 ·obtain⟨PP,cp,S,cs,VV,hc,_⟩:=ay _ _ H;refine LoadV.cellsE (hc.ext (Ext.trans (Ext.drew xr) hd)) 0 (by rw[t8];show 0+0+k*8+0=8*k+0;omega) rfl (zw ?_);exact xq
 refine zsd (ii (b:Nat)) (λwd hd=>zw ?_) (zw ?_)
 ·refine V.Fall.min2 rfl rfl rfl λm hm=>?_;exact⟨xr,Ae (Value.int .i64) Oo⟩
 refine zd ?_;refine zd ?_;intro w1 a8;replace H:=(cI j).ext H (Ext.trans (Ext.drew xr) a8);(conv=>whnf);refine zC (λ_=>zu ?_) (λ_=>zu ?_)
 ·refine .inl ⟨rfl,?_⟩;rw[Af Oo];exact H
 rw[Ab Oo]at hR|-;refine StoreV.carr (cI j) (A:=[]) H (by rw[t1];show 0+5+k*1<14;omega) rfl ?_;clear H;intro w2 H;have H:I j ((wb,.cells ((wkC tb y P s).toArray.setIfInBounds (0+5+k*tsz Dp 3) (ii (b:Nat))) 347)::X) w2:=H;rw[t1,show 0+5+k*1=5+k by omega,qaas hk]at H;have H:I j ((wb,wkO tb y P (updN s.1 k b,s.2))::X) w2:=H;have ad:PastOk (updN s.1 k b,s.2):=av.upd Oo;obtain⟨s1,az⟩:∃s1:WS,s1=(updN s.1 k b,s.2):=⟨_,rfl⟩
 rw[<-az]at H ad hR|-;refine zu ?_;have a0:(wkC tb y P s1).toArray[0+1+k*tsz Dp 3]?=some (ii (P k)):=by
  rw[t1,show 0+1+k*1=1+k by omega];exact qac4 hk
 refine LoadV.own ((cI j).get H mh) a0 ?_;have bp:=hP k hk;have ab:0+0+k*tsz Dp 244=8*k:=by rw[t8];omega
 (conv=>whnf);refine zC (λ_=>zw ?_) (λ_=>zw ?_)
 case' refine_1=>
  obtain⟨PP,cp,S,cs,VV,hc,ae,_⟩:=ay _ _ H;have h1:w2.cell? ⟨tb,(0+0+k*tsz Dp 244)+1,none⟩=some (ii (tw l k:Nat)):=by rw[ab];exact hc 1 _ rfl
  have h5:w2.cell? ⟨tb,(0+0+k*tsz Dp 244)+5,none⟩=some (.slice PP (qg l k).length cp):=by rw[ab];exact hc 5 _ rfl
  refine zcv (qff tb _ a b (tw l k) cp (P k) PP (qg l k) w2 h1 h5 ae ag Oo Oo) ?_;rintro r w3 ⟨rfl,aa⟩;replace H:=(cI j).ext H aa;have aj:=(treD l).sr_le k (P k) (show a<=b by omega);obtain⟨e,ee⟩:∃e,e=(treD l).sr k a b (P k):=⟨_,rfl⟩
  have ev:(a+bsr (λi=>decide (P k<=(numP (qg l k) (tw l k) (a+i):Int))) (b-a) 0 (b-a))=e:=ee.symm;rw[ev];rw[<-ee]at aj
  rcases CA aj.2 with a1|a1
  case inl=>
   refine zu ?_;refine .inl ⟨rfl,?_⟩;have hw:(treD l).win P k a b=(e,e):=by rw[LvD.win,Ab Oo,Ab (by rw[<-ee];omega),<-ee]
   rw[hw,Cw];exact H
  have a2:(treD l).nu k e=numP (qg l k) (tw l k) e:=rfl
  rcases BW (((numP (qg l k) (tw l k) e:Nat):Int)=P k)with ak|ak
  case inr=>
   refine zu ?_;refine zcv (qbt tb _ e (tw l k) cp PP (qg l k) w3 (aa.cell h1) (aa.cell h5) (ae.ext aa) ag Oo) ?_;rintro r w4 ⟨rfl,al⟩;replace H:=(cI j).ext H al;refine zu ?_;refine .inl ⟨rfl,?_⟩;have hw:(treD l).win P k a b=(e,e):=by rw[LvD.win,Ab Oo,Ab (by rw[<-ee,a2];exact λg=>ak g.2),<-ee]
   rw[hw,Cw];exact H
  refine zu ?_;refine zcv (qbt tb _ e (tw l k) cp PP (qg l k) w3 (aa.cell h1) (aa.cell h5) (ae.ext aa) ag Oo) ?_;rintro r w4 ⟨rfl,al⟩;replace H:=(cI j).ext H al;refine zu ?_;have hw:(treD l).win P k a b=(e,e+1):=by rw[LvD.win,Ab Oo,Af (by rw[<-ee,a2];exact⟨a1,ak⟩),<-ee]
  obtain⟨u,eu⟩:∃u,u=e+1:=⟨_,rfl⟩
  have a9:(e:Int)+1=(u:Int):=by omega
  rw[hw,<-eu]at hR|-;rw[a9];have ba:a<=e:=aj.1;have a3:e<=u:=by omega
  have bb:u<=b:=by omega
  obtain⟨w5,ah⟩:∃w5,w5=w4:=⟨_,rfl⟩
  rw[<-ah]at H|-
 case' refine_2=>
  have hw:(treD l).win P k a b=(a,b):=by rw[LvD.win,Af Oo]
  rw[hw]at hR|-;obtain⟨e,ee⟩:∃e,e=a:=⟨_,rfl⟩
  obtain⟨u,eu⟩:∃u,u=b:=⟨_,rfl⟩
  have ba:a<=e:=by omega
  have a3:e<=u:=by omega
  have bb:u<=b:=by omega
  rw[<-eu]at hR|-;rw[<-ee]at hR|-;obtain⟨w5,ah⟩:∃w5,w5=w2:=⟨_,rfl⟩
  rw[<-ah]at H|-
 all_goals
  clear ah az;obtain⟨FF,a4⟩:∃FF:Nat->WS->WR,FF=λi s=>F i (s.1,updN s.2 k ((treD l).nu k i)):=⟨_,rfl⟩
  rw[<-a4]at hR|-;obtain⟨G,eG⟩:∃G:WR,G=goL FF (u-e) e s1:=⟨_,rfl⟩
  rw[<-eG]at hR|-;refine q3l (λx:Nat×WS×Nat=>[(0,pp wb),(1,ii k),(3,ii u),(9,.pointer (some ⟨tb,0+0+k*tsz Dp 244,none⟩)),(11,ii x.1)])
   (λx w'=>e<=x.1/\x.1<=u/\PastOk x.2.1/\RowsAt xs x.2.2 (goL FF (u-x.1) x.1 x.2.1).1/\(goL FF (u-x.1) x.1 x.2.1).2=G.2/\x.2.2+(goL FF (u-x.1) x.1 x.2.1).1.length=j+G.1.length/\I x.2.2 ((wb,wkO tb y P x.2.1)::X) w') (λx=>u-x.1) (e,s1,j)
   fq ⟨Ao _,a3,ad,by rw[eG]at hR;exact hR,by rw[eG],by rw[eG],H⟩ ?_
  clear H hR eG ad;rintro⟨i,t,jj⟩ w6 bq ⟨i1,i2,a5,Z,W,U,H⟩;dsimp only at i1 i2 a5 Z W U H|-;conv=>whnf
  (repeat' refine zC (λ_=>zw ?_) (λ_=>zw ?_))
  case' refine_2=>
   obtain rfl:i=u:=by omega
   rw[Cw]at W U;have W:t=G.2:=W;have U:jj+0=j+G.1.length:=U;rw[Bq]at U;rw[<-U,<-W];exact .inl ⟨rfl,H⟩
  have br:i<u:=by omega
  have a6:u-i=(u-(i+1))+1:=by omega
  obtain⟨t2,am⟩:∃t2:WS,t2=(t.1,updN t.2 k ((treD l).nu k i)):=⟨_,rfl⟩
  have bc:FF i t=F i t2:=by rw[a4,am]
  rw[a6,goL,bc]at Z W U;dsimp only at Z W U;have af:PastOk t2:=by rw[am];exact a5
  refine DrawW.tail 8 Jk Jk (.inl rfl) (AnyV.free Jk ?_);(conv=>whnf);(iterate 4 (refine zd ?_));refine zsd (ii (numP (qg l k) (tw l k) i:Nat)) (λwd hd=>zw ?_) (zw ?_)
  ·have bd:=(cI jj).ext H (Ext.trans (Ext.drew xr) hd);obtain⟨PP,cp,S,cs,VV,hc,ae,_⟩:=((ac _ _ _ bd).lv k hk).h;have h1:wd.cell? ⟨tb,(0+0+k*tsz Dp 244)+1,none⟩=some (ii (tw l k:Nat)):=by rw[ab];exact hc 1 _ rfl
   have h5:wd.cell? ⟨tb,(0+0+k*tsz Dp 244)+5,none⟩=some (.slice PP (qg l k).length cp):=by rw[ab];exact hc 5 _ rfl
   refine zcv (qbt tb _ i (tw l k) cp PP (qg l k) wd h1 h5 ae ag Oo) ?_;rintro r w7 ⟨rfl,an⟩;exact⟨an,rfl⟩
  refine zd ?_;refine zd ?_;refine zsd (.pointer (some ⟨wb,9+k,none⟩)) (λwd hd=>zw ?_) (zw ?_)
  ·refine IdxV.at_ k rfl hk (zw ?_);exact⟨xr,Ae (λo=>Value.pointer (some ⟨wb,o,none⟩)) (by rw[t1];show 0+9+k*1=9+k;omega)⟩
  intro w7 an;replace H:=(cI jj).ext H (Ext.trans (Ext.drew xr) an);(conv=>whnf);refine StoreV.carr (cI jj) (A:=[]) H (by show 9+k<14;omega) rfl ?_;clear H;intro w8 H;have H:I jj ((wb,.cells ((wkC tb y P t).toArray.setIfInBounds (9+k) (ii (numP (qg l k) (tw l k) i:Nat))) 347)::X) w8:=H;rw[qaat hk]at H;have H:I jj ((wb,wkO tb y P t2)::X) w8:=by rw[am];exact H
  (conv=>whnf)
  rcases B0 d with a7|a7
  case inl=>
   have ao:k=3:=by omega
   rw[aw a7]at Z W U;dsimp only at Z W U;refine zu ?_;refine DrawW.tail 9 Jk Jk (.inl rfl) (AnyV.free Jk ?_);(conv=>whnf);(iterate 3 (refine zd ?_));refine zf ?_ (by intro wd hd;(conv=>whnf);refine LoadV.own (Ext.get (Ext.trans (Ext.drew xr) hd) ((cI jj).get H mh)) rfl ?_;(conv=>whnf);exact xq);(iterate 4 (refine zd ?_));refine zsd (mAgg t2.2) (λwd hd=>zw ?_) (zw ?_)
   ·refine V.LoadA.part (vs:=[ii (t2.2 0),ii (t2.2 1),ii (t2.2 2),ii (t2.2 3)]) (Ext.get (Ext.trans (Ext.drew xr) hd) ((cI jj).get H mh)) rfl (λi hi=>?_) ?_
    ·match i,hi with
     | 0,_=>rfl
     | 1,_=>rfl
     | 2,_=>rfl
     | 3,_=>rfl
    (conv=>whnf);exact xq
   intro w9 aq;replace H:=(cI jj).ext H (Ext.trans (Ext.drew xr) aq);(conv=>whnf);refine YieldV.mono (hy jj (mRow (i,t2.2)) _ w9 (Z 0 (i,t2.2) rfl) H) ?_;clear H;rintro v be (⟨rfl,H⟩|⟨rfl,hX⟩)
   ·refine zu ?_;refine⟨rfl,(i+1,t2,jj+1),⟨rfl,rfl,rfl,rfl,Ae (Value.int .i64) (by show(i:Int)+1=((i+1:Nat):Int);omega),trivial⟩,⟨by dsimp only;omega,by dsimp only;omega,af,Z.right,W,?_,H⟩,by dsimp only;omega⟩;rw[<-U,zla,Bv];dsimp only;omega
   ·refine zu ?_;exact .inr ⟨rfl,jj,t2,by rw[<-U,zla,Bv];omega,hX⟩
  obtain⟨d',rfl⟩:∃d',d=d'+1:=⟨d-1,by omega⟩
  have ao:k+1<4:=by omega
  rw[ax d' rfl]at Z W U;refine zu ?_;refine LoadV.own ((cI jj).get H mh) rfl (zw ?_);have ar:=ac _ _ _ H;have ai:=qr0 (l:=l) (k:=k) (i:=i) (λk=>by
   by_cases bf:k<4
   ·exact .inl (ar.n k bf)
   ·exact .inr Oo) ao (au k Oo)
  refine zcv (qch tb l k i w8 ar ao Oo (au k Oo)) ?_;rintro r w9 ⟨rfl,aq⟩;replace H:=(cI jj).ext H aq;obtain⟨c1,bg⟩:∃c1,c1=(chB l k i).1:=⟨_,rfl⟩
  obtain⟨c2,bh⟩:∃c2,c2=(chB l k i).2:=⟨_,rfl⟩
  rw[<-bg]at ai Z W U|-;rw[<-bh]at ai Z W U|-;refine zu ?_;rw[show(k:Int)+1=((k+1:Nat):Int)by omega];refine zcv (ih d' (Ca d') (k+1) c1 c2 jj t2 X w9 Oo ai.1 ai.2 af Z.left H) ?_;clear H;rintro r be (⟨rfl,H⟩|⟨rfl,j',s',bt,hX⟩)
  ·refine zu ?_;refine⟨rfl,(i+1,(lvG (treD l) P d' (k+1) c1 c2 t2).2,jj+(lvG (treD l) P d' (k+1) c1 c2 t2).1.length),⟨rfl,rfl,rfl,rfl,Ae (Value.int .i64) (by show(i:Int)+1=((i+1:Nat):Int);omega),trivial⟩,⟨by dsimp only;omega,by dsimp only;omega,ql8 (T:=treD l) (λk hk=>ar.n k hk) Oo af,Z.right,W,?_,H⟩,by dsimp only;omega⟩;rw[<-U,zla];dsimp only;omega
  ·refine zu ?_;exact .inr ⟨rfl,j',s',by rw[<-U,zla];omega,hX⟩
end
def tz8(x:Nat):Nat:=if x%2=1 then 0 else if x/2%2=1 then 1 else if x/4%2=1 then 2 else if x/8%2=1 then 3 else if x/16%2=1 then 4 else if x/32%2=1 then 5 else if x/64%2=1 then 6 else if x/128%2=1 then 7 else 8
def hi8(x t:Nat):Nat:=x/2 ^ t*2 ^ t
theorem qabf{x t:Nat}(h:x<256):hi8 x t<256:=BD (Nat.div_mul_le_self _ _) h
theorem q3a(x:Nat):hi8 x 0=x:=by simp[hi8]
theorem qaab:∀x,x<256->∀t,t<9->hi8 x t≠0->t<=tz8 (hi8 x t)/\tz8 (hi8 x t)<8/\x/2 ^ tz8 (hi8 x t)%2=1/\(hi8 x t) &&&(hi8 x t-1)=hi8 x (tz8 (hi8 x t)+1):=by decide +kernel
theorem qaac:∀x,x<256->∀t,t<9->∀s,s<8->t<=s->s<tz8 (hi8 x t)->x/2 ^ s%2=0:=by decide +kernel
theorem qacv:∀x,x<256->∀t,t<9->hi8 x t=0->∀s,s<8->t<=s->x/2 ^ s%2=0:=by decide +kernel
theorem qwq(d:LB)(b s:Nat)(H:s<8):bitN d (8*b+s)=(d.getD b 0).toNat/2 ^ s%2:=by
 grind [bitN]
theorem qsz{t:Nat}:∀{u:Nat},t<=u->(∀s,t<=s->s<u->bitN d (8*b+s)=0)->mkD d b u=mkD d b t/\cnt d (8*b+u)=cnt d (8*b+t):=by
 intro u H
 induction H<;>grind [mkD,cnt]
theorem qzc{t:Nat}(ht:t<9)(h:hi8 (d.getD b 0).toNat t≠0){u:Nat}(H:u=tz8 (hi8 (d.getD b 0).toNat t)):
  t<=u/\u<8/\bitN d (8*b+u)=1/\cnt d (8*b+u)=cnt d (8*b+t)/\mkD d b u=mkD d b t/\(hi8 (d.getD b 0).toNat t) &&&(hi8 (d.getD b 0).toNat t-1)=hi8 (d.getD b 0).toNat (u+1):=by
 obtain⟨h1,h2,h3,U⟩:=qaab _ (qaa _) t ht h
 grind [qsz,qwq,qaac,qaa]
theorem q8g{t:Nat}(ht:t<9)(h:hi8 (d.getD b 0).toNat t=0):mkD d b 8=mkD d b t/\cnt d (8*(b+1))=cnt d (8*b+t):=by
 grind [qsz,qwq,qacv,qaa]
theorem qu5(d:LB)(A:oA)(l c n:Nat)(w:Dd)(U:SlAt encB 1 w A d)(W:d.length=l)(H:d.length=upN n 8)(hb:n<=67108864):
  Gv Dp 265 [.slice A l c,ii n] w λv w'=>(∃b,v=.bool b/\(b=true↔¬PadB d n))/\w'=w:=by
 have hu:upN n 8=(n+7)/8:=rfl;refine ze Tryz.func265 Tryz.ntmps265 ?_;refine zt ?_;refine zC (λ_=>zu ?_) (λ_=>zu ?_)
 ·exact⟨⟨true,rfl,⟨λ_ h=>((qs8 H).1 h).1 Oo,λ_=>rfl⟩⟩,rfl⟩
 have hi:n/8<d.length:=by omega
 refine ElemV.bs U W (n/8) Oo Oo ?_;intro eb eo Z;refine zu ?_;refine LoadV.of Z (zu ?_);refine V.Wit.shrN (n%8) Oo (by show n%8<8;omega) (zu ?_);have hg:d.getD (n/8) 0=d[n/8]:=by rw[Ag,zge hi];rfl
 refine⟨⟨_,rfl,?_⟩,rfl⟩;rw[qs8 H,hg];obtain⟨X,eX⟩:∃X,X=d[n/8].toNat/2 ^ (n%8):=⟨_,rfl⟩
 rw[<-eX];simp only[decide_eq_true_eq];omega
theorem qw8(d:LB)(A:oA)(l c:Nat)(w:Dd)(U:SlAt encB 1 w A d)(H:d.length=l)(hb:l<=67108864):
  Gv Dp 266 [.slice A l c] w λv w'=>v=ii (cnt d (8*d.length))/\w'=w:=by
 refine ze Tryz.func266 Tryz.ntmps266 ?_;refine qn (λi:Nat=>[(3,ii (cnt d (8*i))),(6,.slice A l c),(7,ii l),(8,ii i)]) (λi w'=>i<=l/\w'=w) (λi=>l-i) 0 fq ⟨An _,rfl⟩ ?_;rintro i w1 W ⟨i1,rfl⟩;have Z:=qdv d (8*i);(conv=>whnf);refine zC (λ_=>zw ?_) (λ_=>zw ?_)
 ·have hi:i<d.length:=by omega
  refine ElemV.bs U H i rfl Oo ?_;intro eb eo hc;(conv=>whnf);refine LoadV.of hc (zw ?_);refine zcv (qi9 d[i].toNat _ (qaa _)) ?_;rintro r w2 ⟨rfl,rfl⟩;have h8:qd5 d[i].toNat<=8:=by unfold qd5;omega
  have hs:cnt d (8*(i+1))=cnt d (8*i)+qd5 d[i].toNat:=by
   have:=qr3 d i 1;rw[this,qa5,qa5,Bq,Ag,zge hi,Aq];rfl
  refine zu ?_;exact⟨i+1,⟨by rw[hs];exact Ae (Value.int .i64) Oo,rfl,rfl,rfl,trivial⟩,⟨by omega,rfl⟩,by omega⟩
 ·obtain rfl:i=l:=by omega
  exact⟨by rw[H],rfl⟩
theorem qaaa(x:Nat)(w:Dd)(H:x<256):Gv Dp 331 [.int .u8 x] w λr w'=>r=ii (tz8 x)/\w'=w:=by
 refine ze Tryz.func331 Tryz.ntmps331 ?_;refine IdxV.nat (by show x<256;exact H) (zw ?_);refine Wit.conv (qah (AE (qaa _) Od)) (zw ?_);refine⟨Ae (Value.int .i64) (Ae Int.ofNat ?_),rfl⟩;clear w
 revert x
 decide +kernel
theorem ah8(d:LB)(b:Nat):ahN d (8*(b+1))=cnt d (2048*(8*b/2048)):=by
 rw[ahN,Ab Oo,show(8*(b+1)-1)/2048=8*b/2048 by omega]
theorem ah8'(d:LB)(b:Nat)(h:8*b%2048≠0):ahN d (8*b)=cnt d (2048*(8*b/2048)):=by
 rw[ahN,Ab Oo,show(8*b-1)/2048=8*b/2048 by omega]
theorem qrr(x:Nat)(h:x<256)(H:x≠0):qdp .and .u8 (x:Int) ((x:Int)-1)=((x &&&(x-1):Nat):Int):=by
 have e:(x:Int)-1=((x-1:Nat):Int):=by omega
 rw[e];exact qlf (qdu h) (qdu Oo)
theorem qln(d:LB)(A:oA)(l c n:Nat)(w:Dd)(hl:d.length=l)(hd:d.length=upN n 8)(hb:n<=67108864)(g:FuncId)(c1 c2:Di)(I:List (Nat×Nat×Nat)->Dl)(ai:∀L w',I L w'->SlAt encB 1 w' A d)(h0:I [] w)(ht:∀L x w',I L w'->x∈dirD d (upN n 8)->Gv Dp g [ii x.1,ii x.2.1,ii x.2.2,c1,c2] w' λr aj=>r=.bool true/\I (L++[x]) aj):
  Gv Dp 268 [.slice A l c,ii n,.func (.func g) #[] #[c1,c2]] w λr w'=>r=.bool true/\I (dirD d (upN n 8)) w':=by
 have hu:upN n 8=(n+7)/8:=rfl;refine ze Tryz.func268 Tryz.ntmps268 ?_;refine qn (λb:Nat=>[(0,.slice A l c),(1,ii n),(2,.func (.func g) #[] #[c1,c2]),(7,ii (cnt d (8*b))),(8,ii (ahN d (8*b))),(9,ii (8*b:Nat))]) (λb w'=>b<=upN n 8/\I (dirD d b) w') (λb=>upN n 8-b) 0
  fq ⟨An _,h0⟩ ?_
 rintro b w1 ak ⟨b1,hI⟩;have al:=qdv d (8*b);have am:cnt d (2048*(8*b/2048))<=cnt d (8*b):=qeg Oo;have H:∀{x},b<upN n 8->x∈grD d b\/x∈smD d b\/x∈mkD d b 8->x∈dirD d (upN n 8):=λU hx=>qdg.2 ⟨b,U,hx⟩
 (conv=>whnf)
 (repeat'(first|refine zp ?_|refine zC (λ_=>zw ?_) (λ_=>zw ?_)))
 case' refine_1.refine_1=>
  have U:b<upN n 8:=by omega
  have ab:b<d.length:=by omega
  rw[show((8*b:Nat):Int)/2048=((8*b/2048:Nat):Int)by omega];have Z:grD d b=[(2048,8*b/2048,cnt d (8*b))]:=by rw[grD,Af Oo]
  have W:smD d b=[(256,8*b/256,cnt d (8*b)-cnt d (2048*(8*b/2048)))]:=by rw[smD,Af Oo]
  have ha:cnt d (8*b)=cnt d (2048*(8*b/2048)):=by rw[show 2048*(8*b/2048)=8*b by omega]
  refine zcv (ht (dirD d b) (2048,8*b/2048,cnt d (8*b)) w1 hI (H U (.inl (by rw[Z];exact Ac.2 rfl)))) ?_;rintro r w2 ⟨rfl,ag⟩;rw[<-Z]at ag;refine zu ?_;rw[show((8*b:Nat):Int)/256=((8*b/256:Nat):Int)by omega,show(cnt d (8*b):Int)-(cnt d (8*b):Int)=((cnt d (8*b)-cnt d (2048*(8*b/2048)):Nat):Int)by omega];refine zcv (ht (dirD d b++grD d b) (256,8*b/256,cnt d (8*b)-cnt d (2048*(8*b/2048))) w2 ag (H U (.inr (.inl (by rw[W];exact Ac.2 rfl))))) ?_;rintro r w3 ⟨rfl,aa⟩;rw[<-W,Au]at aa;refine zu ?_
 case' refine_1.refine_2.refine_1=>
  have U:b<upN n 8:=by omega
  have ab:b<d.length:=by omega
  have Z:grD d b=[]:=by rw[grD,Ab Oo]
  have W:smD d b=[(256,8*b/256,cnt d (8*b)-cnt d (2048*(8*b/2048)))]:=by rw[smD,Af Oo]
  have ha:=ah8' d b Oo;refine zv ?_;rw[show((8*b:Nat):Int)/256=((8*b/256:Nat):Int)by omega,show(cnt d (8*b):Int)-(ahN d (8*b):Int)=((cnt d (8*b)-cnt d (2048*(8*b/2048)):Nat):Int)by omega];refine zcv (ht (dirD d b) (256,8*b/256,cnt d (8*b)-cnt d (2048*(8*b/2048))) w1 hI (H U (.inr (.inl (by rw[W];exact Ac.2 rfl))))) ?_;rintro r w3 ⟨rfl,aa⟩;rw[<-W,<-Bt (smD d b),<-Z]at aa;refine zu ?_
 case' refine_1.refine_2.refine_2=>
  have U:b<upN n 8:=by omega
  have ab:b<d.length:=by omega
  have Z:grD d b=[]:=by rw[grD,Ab Oo]
  have W:smD d b=[]:=by rw[smD,Ab Oo]
  have ha:=ah8' d b Oo;have aa:I (dirD d b++(grD d b++smD d b)) w1:=by rw[Z,W,By,By];exact hI
 case' refine_2=>
  obtain rfl:b=upN n 8:=by omega
  exact⟨rfl,hI⟩
 all_goals
  refine ElemV.bs (ai _ _ aa) hl b Oo Oo ?_;intro eb eo hc;(conv=>whnf);refine LoadV.of hc (zw ?_);have hX:d[b]=d.getD b 0:=by rw[Ag,zge ab];rfl
  refine qn (λt:Nat=>[(0,.slice A l c),(1,ii n),(2,.func (.func g) #[] #[c1,c2]),(7,ii (cnt d (8*b+t))),(8,ii (cnt d (2048*(8*b/2048)))),(9,ii (8*b:Nat)),(10,.int .u8 (hi8 (d.getD b 0).toNat t))])
   (λt w'=>t<=8/\I (dirD d b++(grD d b++(smD d b++mkD d b t))) w') (λt=>9-t) 0
   ⟨rfl,rfl,rfl,rfl,Ae (λn:Nat=>ii n) ha,rfl,Ae (λn:Nat=>Value.int .u8 n) (by rw[q3a,hX]),trivial⟩ ⟨An _,by rw[mkD,By];exact aa⟩ ?_
  rintro t w4 an ⟨t8,ac⟩;have ad:=qabf (t:=t) (qaa (d.getD b 0));have ao:=qdv d (8*b+t);conv=>whnf
  (repeat'(first|refine zp ?_|refine zC (λ_=>zw ?_) (λ_=>zw ?_)))
  ·rename_i hz h5
   obtain⟨m1,m2,m3,m4,m5,m6⟩:=qzc (d:=d) (b:=b) (t:=t) Oo Oo rfl;obtain⟨u,eu⟩:∃u,u=tz8 (hi8 (d.getD b 0).toNat t):=⟨_,rfl⟩
   have hq:=qaaa (hi8 (d.getD b 0).toNat t);rw[<-eu]at m1 m2 m3 m4 m5 m6 hq;have ae:cnt d (8*b+(u+1))=cnt d (8*b+t)+1:=by rw[show 8*b+(u+1)=8*b+u+1 from rfl,cnt,m3,m4]
   have af:mkD d b (u+1)=mkD d b t++[(512,cnt d (8*b+t)/512,8*b+u)]:=by rw[mkD,Af ⟨m3,by omega⟩,m5,m4]
   rw[show(cnt d (8*b+t):Int)/512=((cnt d (8*b+t)/512:Nat):Int)by omega];refine zcv (hq w4 ad) ?_;rintro r w5 ⟨rfl,rfl⟩;refine zu ?_;rw[show((8*b:Nat):Int)+(u:Int)=((8*b+u:Nat):Int)by omega];refine zcv (ht _ (512,cnt d (8*b+t)/512,8*b+u) w5 ac (H U (.inr (.inr (qg3.2 ⟨u,m2,m3,by omega,by rw[m4]⟩))))) ?_;rintro r w6 ⟨rfl,ah⟩;rw[Au,Au,Au,<-af]at ah;refine zu ?_;refine Wit.eq (qrr _ ad Oo) ?_;rw[m6];(conv=>whnf);exact⟨u+1,⟨rfl,rfl,rfl,by rw[ae];rfl,rfl,rfl,rfl,trivial⟩,⟨by omega,ah⟩,by omega⟩
  ·rename_i hz h5
   obtain⟨m1,m2,m3,m4,m5,m6⟩:=qzc (d:=d) (b:=b) (t:=t) Oo Oo rfl;obtain⟨u,eu⟩:∃u,u=tz8 (hi8 (d.getD b 0).toNat t):=⟨_,rfl⟩
   rw[<-eu]at m1 m2 m3 m4 m5 m6;have ae:cnt d (8*b+(u+1))=cnt d (8*b+t)+1:=by rw[show 8*b+(u+1)=8*b+u+1 from rfl,cnt,m3,m4]
   have af:mkD d b (u+1)=mkD d b t:=by rw[mkD,Ab Oo,m5]
   refine Wit.eq (qrr _ ad Oo) ?_;rw[m6];(conv=>whnf);exact⟨u+1,⟨rfl,rfl,rfl,by rw[ae];rfl,rfl,rfl,rfl,trivial⟩,⟨by omega,by rw[af];exact ac⟩,by omega⟩
  ·obtain⟨m1,m2⟩:=q8g (d:=d) (b:=b) (t:=t) Oo Oo;exact⟨b+1,⟨rfl,rfl,rfl,by rw[m2];rfl,by rw[ah8];rfl,Ae (Value.int .i64) Oo,trivial⟩,⟨by omega,by rw[dirD,m1];exact ac⟩,by omega⟩
theorem qxd{x:Nat×Nat×Nat}(h:x∈dirD d nb):x.1=2048\/x.1=256\/x.1=512:=by
 obtain⟨b,_,H|H|H⟩:=qdg.1 h
 ·unfold grD at H
  split at H
  ·rw[Ac.1 H];exact .inl rfl
  ·cases H
 ·unfold smD at H
  split at H
  ·rw[Ac.1 H];exact .inr (.inl rfl)
  ·cases H
 ·obtain⟨s,_,_,_,e⟩:=qg3.1 H;rw[e];exact .inr (.inr rfl)
theorem q0e(k n:Nat)(w:Dd):Gv Dp 255 [ii k,ii n] w λr w'=>r=.bool (decide (¬((k≠0/\n=0)\/4194304<n)))/\w'=w:=by
 refine ze Tryz.func255 Tryz.ntmps255 ?_;refine V.Fall.min2 rfl rfl rfl λm H=>?_;(conv=>whnf);refine zC (λ_=>zu ?_) (λ_=>zu ?_)
 all_goals refine⟨Ae Value.bool ?_,rfl⟩
 all_goals first|exact(AZ Oo).symm|exact decide_eq_decide.2 Oo
section
variable {w0 w w':Dd} {t:Dg} {n:Nat} {s:Bool} {v:Di}
end
theorem qwj(a b:De)(w:Dd)(ha:a.size<=4194304):
  Gv Dp 254 [.string a,.string b] w λr w'=>r=ii (comL a.data.toList b.data.toList)/\Ext w w':=by
 have la:a.data.toList.length=a.size:=rfl;have lb:b.data.toList.length=b.size:=rfl;refine ze Tryz.func254 Tryz.ntmps254 ?_;refine qn (λi:Nat=>[(0,.string a),(1,.string b),(5,ii i)]) (λi w'=>i<=a.size/\i<=b.size/\(∀j,j<i->a.data.toList[j]?=b.data.toList[j]?)/\Ext w w') (λi=>a.size-i) 0 fq ⟨An _,An _,λj h=>by omega,xr⟩ ?_;rintro i w1 W ⟨i1,i2,H,U⟩;(conv=>whnf);refine zy ?_
 (repeat'(first|refine zp ?_|refine zC (λ_=>zw ?_) (λ_=>zw ?_)))
 all_goals first
  | exact⟨i+1,fq,⟨by omega,by omega,λj hj=>by
    by_cases e:j=i
    ·subst e;rw[qlv Oo,qlv Oo];exact Ae some (UInt8.toNat_inj.1 Oo)
    ·exact H j Oo,U.drew⟩,by omega⟩
  | exact⟨by rw[qpl H Oo Oo λZ g2=>by omega],U.drew⟩
  | (refine⟨?_,U.drew⟩;rw[qpl H Oo Oo λZ g2=>by
    rw[qlv Oo,qlv Oo];intro e;have:=Ae UInt8.toNat (Bg e);omega])
def qac6(w:Dd)(x:Nat):Prop:=(∀off k c,w.cell? ⟨x,off,none⟩≠some (.int k c))/\∀cs t H,w.heap[x]?=some (.cells cs t H)->t≠395/\t≠305/\t≠381/\t≠241
section
variable {w w':Dd} {x:Nat} (ha:qac6 w x) (hw:∀c,c≠x->w'.heap[c]?=w.heap[c]?)
include ha hw
end
namespace V
end V
theorem qqi(b:Nat)(l:LB)(w:Dd)(h:PackAt w b l):Gv Dp 73 [pp b] w λv w'=>(∃H,v=pp H/\VocAt w H (qp l))/\w'=w:=by
 obtain⟨H,tb,h1,h2,h3⟩:=h;refine ze Tryz.func73 Tryz.ntmps73 ?_;refine LoadV.own h1 rfl (zw ?_);exact⟨⟨H,rfl,h2⟩,rfl⟩
theorem q5e{t:TM}(h:qdo l id=some t):TermOk t:=by
 unfold qdo at h
 split at h
 ·cases h;exact⟨(show InR .i64 0 from⟨by decide,by decide⟩),An _,An _,An _⟩
 ·split at h
  ·cases h
  ·split at h
   ·rename_i s H
    have h3:qdt l id<3:=by unfold qdt;split<;>(try split)<;>omega
    exact q4f h (qr8 H) ⟨by omega,by omega⟩
   ·cases h
theorem qadp(l:LB)(q:Nat->Nat)(j:Nat):TermOk (uT l q j):=by
 unfold uT;cases h:qdo l (q j)with
 | none=>exact⟨(show InR .i64 0 from⟨by decide,by decide⟩),An _,An _,An _⟩
 | some t=>exact q5e h
theorem q9e(l:LB)(q:Nat->Nat):qap (q4Of l q):=by
 intro k;unfold q4Of Q4.at
 split<;>exact qadp _ _ _
def qIds(l:LB)(i:Nat):Nat->Nat:=λk=>tNum (qt l) i k
def PqOk(l:LB)(i:Nat):Prop:=(i<vNum (qt l) 3/\tOk (qt l) i=true)/\(∀j,j<4->qdo (qp l) (qIds l i j)≠none)/\qbw (q4Of (qp l) (qIds l i))=0
open Classical in
noncomputable def qd6(l:LB)(i:Nat):Di:=if PqOk l i then .tuple #[qw (q4Of (qp l) (qIds l i)),.bool true]else .tuple #[qw zQ,.bool false]
theorem qoc(b:Nat)(l:LB)(i:Nat)(w:Dd)(h:PackAt w b l)(hi:i<=1048576)(hM:MaxLenAt w)(hT:CellsAt w 4 0 qa3)(hK:qio w):
  Gv Dp 76 [pp b,ii i] w λv w'=>v=qd6 l i/\Ext w w':=by
 obtain⟨vb,tb,h1,h2,h3⟩:=h;have ac:=h3.wd;refine ze Tryz.func76 Tryz.ntmps76 ?_;refine znm (Mem.nil w) ?_;intro r4 w1 H;refine LoadV.own (H.ext.get h1) rfl (zw ?_);refine zcv (q44 tb (qt l) i w1 (h3.ext H.ext) hi) ?_;rintro v w2 ⟨rfl,ad⟩;have H:=H.call ad
 by_cases aa:i<vNum (qt l) 3/\tOk (qt l) i=true
 case neg=>
  have hv:qd6 l i=.tuple #[qw zQ,.bool false]:=by rw[qd6,Ab (λhx=>aa hx.1)]
  rw[hv,qmv,Ab aa];unfold zq;refine znm H ?_;intro t6 w3 H;refine zS H 0 λw4 H=>zu ?_;refine zS H 1 ?_;intro w5 H;refine qk (R:=λv w'=>v=.tuple #[qw zQ,.bool false]/\Ext w w') ?_;refine zl H 1 ?_;exact⟨rfl,H.ext⟩
 rw[qmv,Af aa];refine znm H ?_;intro t6 w3 H;refine zS H 0 ?_;intro w4 H;have H:Mem w w4 [(t6,.cells #[ii (qIds l i 0:Nat),ii (qIds l i 1:Nat),ii (qIds l i 2:Nat),ii (qIds l i 3:Nat)] 95),(r4,.cells (qe zQ).toArray 47)]:=H;have ae:∀j,j<4->qIds l i j<=16777216:=λj hj=>by
  have h1:=q8o (qg (qt l) j) (tw (qt l) j) (tUp (qt l) i (3-j));have h2:2 ^ tw (qt l) j<=2 ^ 23:=AQ Od (ac j hj);have h3:(2:Nat) ^ 23=8388608:=by decide
  show tNum (qt l) i j<=_;unfold tNum;omega
 refine zu ?_;obtain⟨u,ok,af,ab⟩:∃u ok,qh1 (qp l) (qIds l i)=.tuple #[qw u,.bool ok]/\qap u/\((ok=true/\u=q4Of (qp l) (qIds l i)/\∀j,j<4->qdo (qp l) (qIds l i j)≠none)\/(ok=false/\¬ ∀j,j<4->qdo (qp l) (qIds l i j)≠none)):=by
  by_cases U:∀j,j<4->qdo (qp l) (qIds l i j)≠none
  ·exact⟨_,true,by rw[qh1,Af U],q9e _ _,.inl ⟨rfl,rfl,U⟩⟩
  ·refine⟨zQ,false,by rw[qh1,Ab U],?_,.inr ⟨rfl,U⟩⟩;intro k;unfold zQ Q4.at
   split<;>exact⟨(show InR .i64 0 from⟨by decide,by decide⟩),An _,An _,An _⟩
 obtain⟨ag,ab⟩:=ab;refine DrawV.gen (λS W w'=>Al w [(t6,.cells #[ii (qIds l i 0:Nat),ii (qIds l i 1:Nat),ii (qIds l i 2:Nat),ii (qIds l i 3:Nat)] 95),(r4,.cells (qe zQ).toArray 47)] (.cells (qe zQ).toArray 47) (.cells (qe u).toArray 47) (.cells #[] 0) (.cells #[] 0) (S 9) false (S 10) false (W 9) undef w') rfl Jk (λW=>Al.start H.drew) ?_;clear H;(conv=>whnf);(iterate 3 (refine zg ?_));refine StepG.of (pp vb) (λS W wd hk hp Z=>zw ?_) ?_
 ·refine LoadV.own (Z.mem.ext.get h1) rfl (zw ?_);exact⟨rfl,Z⟩
 refine StepG.of (idsV (qIds l i)) (λS W wd hk hp Z=>zw ?_) ?_
 ·refine zl Z.mem 0 ?_;exact⟨rfl,Z⟩
 refine StepG.of (.tuple #[qw u,.bool ok]) (λS W wd hk hp Z=>zw ?_) (zw ?_)
 ·refine zcv (q1t vb (qp l) (qIds l i) wd (h2.ext Z.mem.ext) ae (hM.ext Z.mem.ext) (hT.ext Z.mem.ext) (CellsAt.ext hK Z.mem.ext)) ?_;rintro v w5 ⟨rfl,he⟩;exact⟨af,Z.call he⟩
 (iterate 3 (refine zg ?_));refine StepG.any (λS W wd hk hp Z=>?_) ?_
 ·dsimp only at Z;rw[hk]at Z;(conv=>whnf);refine⟨λx wx hb hw=>?_⟩;subst hb hw;(conv=>whnf);exact⟨trivial,Z.new1⟩
 refine StepG.of undef (λS W wd hk hp Z=>?_) (zw ?_)
 ·dsimp only at Z;have h9:S 9=true:=hp 9 Od;rw[hk,h9]at Z;obtain⟨nb,hv,M,ah,ai⟩:=Z.put1;rw[qbj hv];refine zS ah 0 λwx aj=>zw ?_;exact⟨rfl,by show Al _ _ _ _ _ _ (S 9) false true false _ _ _;rw[h9];exact ai aj rfl⟩
 refine zg ?_;intro W w5 Z;obtain⟨t8,ak,H⟩:=Z.done1;rw[qbj ak];clear Z;have H:Mem w w5 [(t8,.cells (qe u).toArray 47),(t6,.cells #[ii (qIds l i 0:Nat),ii (qIds l i 1:Nat),ii (qIds l i 2:Nat),ii (qIds l i 3:Nat)] 95),(r4,.cells (qe zQ).toArray 47)]:=H;conv=>whnf
 rcases ab with⟨rfl,rfl,U⟩|⟨rfl,U⟩
 ·refine zv ?_;refine zl H 0 ?_;refine zv ?_;refine zcv (qfm (q4Of (qp l) (qIds l i)) ag w5 (hM.ext H.ext) (hT.ext H.ext)) ?_;rintro v w6 ⟨rfl,al⟩;have H:=H.call al;conv=>whnf
  by_cases hz:qbw (q4Of (qp l) (qIds l i))=0
  ·have hv:qd6 l i=.tuple #[qw (q4Of (qp l) (qIds l i)),.bool true]:=by rw[qd6,Af ⟨aa,U,hz⟩]
   rw[hv];refine zv ?_;refine zL H 0 ?_;refine zS H 2 ?_;intro w7 H;refine qk (R:=λv w'=>v=.tuple #[qw (q4Of (qp l) (qIds l i)),.bool true]/\Ext w w') ?_;refine zl H 2 ?_;exact⟨rfl,H.ext⟩
  ·have hv:qd6 l i=.tuple #[qw zQ,.bool false]:=by rw[qd6,Ab (λhx=>hz hx.2.2)]
   rw[hv];refine zv ?_;refine zS H 2 ?_;intro w7 H;refine qk (R:=λv w'=>v=.tuple #[qw zQ,.bool false]/\Ext w w') ?_;refine zl H 2 ?_;exact⟨rfl,H.ext⟩
 ·have hv:qd6 l i=.tuple #[qw zQ,.bool false]:=by rw[qd6,Ab (λhx=>U hx.2.1)]
  rw[hv];refine zv ?_;refine zS H 2 ?_;intro w7 H;refine qk (R:=λv w'=>v=.tuple #[qw zQ,.bool false]/\Ext w w') ?_;refine zl H 2 ?_;exact⟨rfl,H.ext⟩
namespace V
theorem LoadA.own{H:Nat}{t:Dg}{K:Dn->Prop}(h:w.heap[b]?=some (.cells cs t fr))(U:cs.toList.length=H)(hk:K cs.toList):LoadA w b 0 H K:=
 ⟨cs.toList,U,λj _=>by rw[qa h,Aq];simp,hk⟩
end V
theorem qwa(b:Nat)(l:LB)(w:Dd)(h:VocAt w b l):Gv Dp 115 [pp b] w λr w'=>r=ii (vTot l 3)/\w'=w:=by
 obtain⟨d,_,H⟩:=h.cell;refine ze Tryz.func115 Tryz.ntmps115 ?_;refine LoadV.of H (zw ?_);exact⟨rfl,rfl⟩
def h24(nq nt H U:Nat):LB:=fixL 1095914324 4++(fixL 1 4++(fixL nq 4++(fixL nt 4++(fixL H 4++fixL U 4))))
def sumL(p:LB):LB:=fixL (crcL p).toNat 4
def qcw(nq nt:Nat)(V T:LB):LB:=
 h24 nq nt V.length T.length++(sumL (h24 nq nt V.length T.length)++(V++(sumL V++(T++sumL T))))
theorem qlw(a b c d:Nat):(h24 a b c d).length=24:=by rfl
theorem qdl(p:LB):(sumL p).length=4:=qh _ _
theorem qq2(p:LB):leN (sumL p)=(crcL p).toNat:=by
 grind [sumL,qgx,crcL]
theorem qad{α:Type}{a b:List α}{n:Nat}(h:a.length=n):(a++b).drop n=b:=by simp_all
theorem qfq(n:Nat)(r:LB)(h:n<4294967296):leN ((fixL n 4++r).take 4)=n:=by
 grind [qh,qgx]
section
variable {nq nt:Nat} {V T:LB} (h1:nq<4294967296) (h2:nt<4294967296) (h3:V.length+T.length+36<=67108864)
theorem qs7(nq nt:Nat)(V T:LB):(qcw nq nt V T).length=V.length+T.length+36:=by
 grind [qcw,qlw,qdl]
theorem qoa(nq nt:Nat)(V T:LB)(k:Nat)(hk:k<=6):(qcw nq nt V T).drop (4*k)=(h24 nq nt V.length T.length).drop (4*k)++(sumL (h24 nq nt V.length T.length)++(V++(sumL V++(T++sumL T)))):=by
 grind [qcw,qlw]
theorem q80:hN (qcw nq nt V T) 0=1095914324:=by
 rw[hN,qoa _ _ _ _ 0 Oo,h24];simp only[Nat.mul_zero,B8,Au];exact qfq _ _ Od
theorem q81:hN (qcw nq nt V T) 1=1:=by
 rfl
include h1 in
theorem q82:hN (qcw nq nt V T) 2=nq:=by
 rw[hN,qoa _ _ _ _ 2 Oo,h24,show 4*2=4+4 from rfl,<-Ax,qad (qh _ _),qad (qh _ _)]
 grind [qfq]
include h2 in
theorem q83:hN (qcw nq nt V T) 3=nt:=by
 rw[hN,qoa _ _ _ _ 3 Oo,h24,show 4*3=4+4+4 from rfl,<-Ax,<-Ax,qad (qh _ _),qad (qh _ _),qad (qh _ _)]
 grind [qfq]
include h3
theorem qjb:hN (qcw nq nt V T) 4=V.length:=by
 rw[hN,qoa _ _ _ _ 4 Oo,h24,show 4*4=4+4+4+4 from rfl,<-Ax,<-Ax,<-Ax,qad (qh _ _),qad (qh _ _),qad (qh _ _),qad (qh _ _)]
 grind [qfq]
theorem qqe:hN (qcw nq nt V T) 5=T.length:=by
 rw[hN,qoa _ _ _ _ 5 Oo,h24,show 4*5=4+4+4+4+4 from rfl,<-Ax,<-Ax,<-Ax,<-Ax,qad (qh _ _),qad (qh _ _),qad (qh _ _),qad (qh _ _),qad (qh _ _)]
 grind [qfq]
omit h3 in
theorem q84:hN (qcw nq nt V T) 6=(crcL ((qcw nq nt V T).take 24)).toNat:=by
 grind [hN,qlw,qdl,qq2,qcw]
theorem qzv:(qb0 (qcw nq nt V T)).2=0:=by
 grind [qs7,qb0,qjb,qqe,q80,q81,q84]
omit h3 in
theorem qmf(nq nt:Nat)(V T:LB):(qcw nq nt V T).drop 28=V++(sumL V++(T++sumL T)):=by
 rfl
theorem q6j:qp (qcw nq nt V T)=V:=by grind [qp,qmf,qjb]
theorem q6i:qt (qcw nq nt V T)=T:=by
 rw[qt,qjb h3,qqe h3,show 32+V.length=28+(V.length+4)by omega,<-Ax,qmf,<-Ax,qf,qad (qdl _),CT]
theorem q85:pS1 (qcw nq nt V T):=by
 grind [pS1,q6j,qjb,List.drop_drop,qmf,qf,qdl,qq2]
theorem q86:pS2 (qcw nq nt V T):=by
 rw[pS2,q6i h3,qjb h3,qqe h3,show 32+V.length+T.length=28+(V.length+(4+T.length))by omega,<-Ax,qmf,<-Ax,qf,<-Ax,qad (qdl _),qf,Ay (by grind [qdl]),qq2]
end
theorem RiseT.at(h:RiseT T){a b:TM}(H:i<j)(ha:T[i]?=some a)(U:T[j]?=some b):LtT a b:=by
 obtain⟨h1,rfl⟩:=Ad.1 ha;obtain⟨h2,rfl⟩:=Ad.1 U;exact(Bj.1 h) i j h1 h2 H
theorem RiseT.inj(h:RiseT T){a:TM}(ha:T[i]?=some a)(H:T[j]?=some a):i=j:=by
 rcases CI i j with g|g|g
 ·exact absurd (h.at g ha H) (LtT.irrefl a)
 ·exact g
 ·exact absurd (h.at g H ha) (LtT.irrefl a)
theorem RiseT.lt(h:RiseT T){a b:TM}(ha:T[i]?=some a)(H:T[j]?=some b)(U:LtT a b):i<j:=by
 rcases CI i j with g|g|g
 ·exact g
 ·grind [LtT.irrefl]
 ·exact absurd (U.trans (h.at g H ha)) (LtT.irrefl a)
theorem RiseT.ext:∀{S T:List TM},RiseT S->RiseT T->(∀y,y∈S↔y∈T)->S=T
 | [],[],_,_,_=>rfl
 | [],b::T,_,_,h=>absurd ((h b).2 mh) Js
 | a::S,[],_,_,h=>absurd ((h a).1 mh) Js
 | a::S,b::T,hs,ht,h=>by
  obtain⟨W,s2⟩:=AV.1 hs;obtain⟨Z,t2⟩:=AV.1 ht;have e:a=b:=by
   rcases Aw.1 ((h a).1 mh)with g|g
   ·exact g
   ·rcases Aw.1 ((h b).2 mh)with U|U
    ·exact U.symm
    ·exact absurd ((Z a g).trans (W b U)) (LtT.irrefl b)
  subst e
  congr 1
  refine RiseT.ext s2 t2 λy=>⟨λH=>?_,λH=>?_⟩
  ·rcases Aw.1 ((h y).1 (zmc H))with g|g
   ·subst g;exact absurd (W y H) (LtT.irrefl y)
   ·exact g
  ·rcases Aw.1 ((h y).2 (zmc H))with g|g
   ·subst g;exact absurd (Z y H) (LtT.irrefl y)
   ·exact g
def noT(T:List TM)(t:TM):Nat:=if t.kind=0 then 0 else T.findIdx (λx=>cmpT x t==0)+1
theorem qfy{t:TM}(h:t.kind=0):noT T t=0:=by rw[noT,Af h]
theorem qkn(h:RiseT T){t:TM}(ht:T[i]?=some t)(hk:t.kind≠0):noT T t=i+1:=by
 obtain⟨h1,h2⟩:=Ad.1 ht;rw[noT,Ab hk];have h3:T.findIdx (λx=>cmpT x t==0)<T.length:=List.findIdx_lt_length_of_exists ⟨t,zmg ht,by simp[qa4]⟩;have H:=List.findIdx_getElem (w:=h3);rw[C8,qa4]at H;have:=h.inj (i:=T.findIdx (λx=>cmpT x t==0)) (j:=i) (by simp_all) ht;omega
theorem qabx(T:List TM)(t:TM)(h:t∈T\/t.kind=0):noT T t<=T.length:=by
 grind [noT,qa4]
theorem qaby(h:RiseT T)(_:∀t∈T,0<=t.kind){a b:TM}(ha:a∈T\/a.kind=0)(U:b∈T)(hk:b.kind≠0)(W:LtT a b):noT T a<noT T b:=by
 obtain⟨j,H⟩:=AW.1 U;rw[qkn h H hk]
 by_cases e:a.kind=0
 ·rw[qfy e];omega
 ·obtain⟨i,hi⟩:=AW.1 (ha.resolve_right e);rw[qkn h hi e];have:=h.lt hi H W;omega
def gat(q:Q4):Nat->TM
 | 0=>q.g
 | 1=>q.s
 | 2=>q.p
 | _=>q.o
def LtQ(q r:Q4):Prop:=∃k,k<4/\(∀j,j<k->gat q j=gat r j)/\LtT (gat q k) (gat r k)
def noQ(T:List TM)(qs:List Q4)(i k:Nat):Nat:=match qs[i]? with
 | some q=>noT T (gat q k)
 | none=>0
theorem qhs{q:Q4}(h:qs[i]?=some q):noQ T qs i k=noT T (gat q k):=by rw[noQ,h]
structure SetOk(T:List TM)(qs:List Q4):Prop where
 rise:RiseT T
 few:T.length<=4194304
 kind:∀t∈T,0<t.kind
 mem:∀q∈qs,∀k,k<4->gat q k∈T\/(k=0/\(gat q k).kind=0/\gat q k=zTM)
 len:qs.length<=1048576
 ord:qs.Pairwise LtQ
theorem SetOk.tok(h:SetOk T qs):TOk (noQ T qs) qs.length:=by
 refine⟨h.len,λi k hi hk=>?_,λi h0 hi=>?_⟩
 ·have H:qs[i]?=some qs[i]:=zge hi;rw[qhs H]
  rcases h.mem _ (AP hi) k hk with g|⟨W,Z,_⟩
  ·refine⟨λ_=>?_,A6 (qabx _ _ (.inl g)) h.few⟩;have:=h.kind _ g
   grind [noT]
  grind [qfy]
 ·have H:qs[i]?=some qs[i]:=zge hi;have hp:qs[i-1]?=some qs[i-1]:=zge Oo;obtain⟨k,h1,h2,h3⟩:=(Bj.1 h.ord) (i-1) i Oo hi Oo;refine⟨k,h1,λj hj=>?_,?_⟩
  ·grind [qhs]
  ·rw[qhs H,qhs hp];have U:gat qs[i] k∈T:=by
    rcases h.mem _ (AP hi) k h1 with g|⟨W,Z,g3⟩
    ·exact g
    ·exfalso
     rcases h.mem _ (AP (show i-1<qs.length by omega)) k h1 with f|⟨f1,f2,f3⟩
     ·have:=h.kind _ f
      rcases h3 with h3|⟨h3,_⟩<;>omega
     grind [LtT.irrefl]
   refine qaby h.rise (λt ht=>by have:=h.kind t ht;omega) ?_ U (by have:=h.kind _ U;omega) h3
   rcases h.mem _ (AP (show i-1<qs.length by omega)) k h1 with f|⟨f1,f2,f3⟩
   all_goals simp_all
def ofK(T:List TM)(k:Nat):List TM:=T.filter λt=>decide (t.kind=((k+1:Nat):Int))
theorem qbq(T:List TM)(k:Nat):secE T k=(ofK T k).map qae:=rfl
theorem qfz{t:TM}(h:t∈ofK T k):t.kind=((k+1:Nat):Int):=by simpa using(Bo.1 h).2
theorem qig(h:RiseT T)(k:Nat):RiseT (ofK T k):=h.filter _
theorem qqa(h:RiseT T)(hk:∀t∈T,1<=t.kind/\t.kind<=3):T=ofK T 0++(ofK T 1++ofK T 2):=by
 have W:∀{i j:Nat},i<j->∀a∈ofK T i,∀b∈ofK T j,LtT a b:=λZ a ha b U=>.inl (by grind [qfz])
 refine RiseT.ext h ?_ λy=>⟨λH=>?_,λH=>?_⟩
 ·refine Cj.2 ⟨qig h 0,Cj.2 ⟨qig h 1,qig h 2,λa ha b U=>W Od a ha b U⟩,λa ha b U=>?_⟩
  grind
 ·have:=hk y H;have hd:y.kind=1\/y.kind=2\/y.kind=3:=by omega
  rcases hd with e|e|e
  ·exact Am _ (Bo.2 ⟨H,by rw[e];rfl⟩)
  ·exact Aa _ (Am _ (Bo.2 ⟨H,by rw[e];rfl⟩))
  ·exact Aa _ (Aa _ (Bo.2 ⟨H,by rw[e];rfl⟩))
 ·rcases AJ.1 H with H|H
  ·exact(Bo.1 H).1
  ·rcases AJ.1 H with H|H
   ·exact(Bo.1 H).1
   ·exact(Bo.1 H).1
section
variable {T:List TM} (h:VOk T) (hr:RiseT T) (hk:∀t∈T,1<=t.kind/\t.kind<=3) (ht:∀t∈T,qa2 t=0)
include h
theorem VOk.tot1:vTot (vocB T) 1=(ofK T 0).length:=by rw[vTot,vTot,h.dN Od,qbq,AC,Aq]
theorem VOk.tot2:vTot (vocB T) 2=(ofK T 0).length+(ofK T 1).length:=by rw[vTot,h.tot1,h.dN Od,qbq,AC]
theorem VOk.tot3:vTot (vocB T) 3=(ofK T 0).length+(ofK T 1).length+(ofK T 2).length:=by rw[vTot,h.tot2,h.dN Od,qbq,AC]
include hr hk
theorem VOk.tot:vTot (vocB T) 3=T.length:=by
 have e:=Ae List.length (qqa hr hk);simp only[zla]at e;rw[h.tot3];omega
include ht
theorem VOk.sec{t:TM}(H:k<3)(U:(ofK T k)[j]?=some t):(match dGet (Go.Proofs.YtccmcfpmknpccaaGreatDoor.sDict (vocB T) k) j with
  | some s=>qf2 ((k+1:Nat):Int) s
  | none=>none)=some t:=by
 have Z:=hr;have _k:=hk;obtain⟨h1,h2⟩:=Ad.1 U;have W:=zmg U;rw[h.get H (by grind [qbq])];refine qkv ⟨qfz W,ht t (Bo.1 W).1,?_⟩
 grind [tx,qbq]
theorem VOk.term{t:TM}(hi:T[i]?=some t):qdo (vocB T) (i+1)=some t:=by
 have e:=qqa hr hk;have W:=(Ad.1 hi).1;have Z:=h.tot1;have t2:=h.tot2;have t3:=h.tot3;have tt:=h.tot hr hk;rw[qdo,Ab Oo,Ab Oo];rw[e]at hi
 by_cases H:vTot (vocB T) 2<i+1
 ·rw[qdt,Af H];refine h.sec hr hk ht Od ?_
  grind
 ·by_cases U:vTot (vocB T) 1<i+1
  ·rw[qdt,Ab H,Af U];refine h.sec hr hk ht Od ?_
   grind
  ·rw[qdt,Ab H,Ab U];refine h.sec hr hk ht Od ?_
   grind [vTot]
end
def encP(T:List TM)(qs:List Q4):LB:=qcw qs.length T.length (vocB T) (qm (noQ T qs) qs.length)
structure EncOk(T:List TM)(qs:List Q4):Prop where
 set:SetOk T qs
 voc:VOk T
 kind3:∀t∈T,t.kind<=3
 term:∀t∈T,qa2 t=0
 quad:∀q∈qs,qbw q=0
 used:∀t∈T,∃q∈qs,∃k,k<4/\gat q k=t
 size:(vocB T).length+(qm (noQ T qs) qs.length).length+36<=67108864
section
variable {T:List TM} {qs:List Q4} (h:EncOk T qs)
include h
theorem EncOk.v:qp (encP T qs)=vocB T:=q6j h.size
theorem EncOk.t:qt (encP T qs)=qm (noQ T qs) qs.length:=q6i h.size
theorem EncOk.kinds:∀t∈T,1<=t.kind/\t.kind<=3:=λt ht=>⟨by have:=h.set.kind t ht;omega,h.kind3 t ht⟩
theorem EncOk.n:vNum (qt (encP T qs)) 3=qs.length:=by rw[h.t,h.set.tok.vNum Od,h.set.tok.all znr]
theorem EncOk.no{t:TM}(ht:t∈T\/t=zTM):qdo (qp (encP T qs)) (noT T t)=some t:=by
 rw[h.v]
 rcases ht with ht|ht
 ·obtain⟨i,hi⟩:=AW.1 ht;rw[qkn h.set.rise hi (by have:=h.set.kind t ht;omega)];exact h.voc.term h.set.rise h.kinds h.term hi
 ·subst ht;rfl
theorem EncOk.told{q:Q4}(hi:qs[i]?=some q)(hk:k<4):qdo (qp (encP T qs)) (tNum (qt (encP T qs)) i k)=some (gat q k):=by
 have H:=(Ad.1 hi).1;rw[h.t,h.set.tok.tNum H hk,qhs hi];refine h.no ?_
 rcases h.set.mem q (zmg hi) k hk with g|⟨_,_,g⟩
 all_goals simp_all
theorem EncOk.quad4{q:Q4}(hi:qs[i]?=some q):q4Of (qp (encP T qs)) (tNum (qt (encP T qs)) i)=q:=by
 unfold q4Of uT;rw[h.told hi (k:=0) Od,h.told hi (k:=1) Od,h.told hi (k:=2) Od,h.told hi (k:=3) Od];rfl
theorem EncOk.poE:poE (encP T qs)=(0,0):=by
 have U:qs.length<4294967296:=by have:=h.set.len;omega
 have Z:T.length<4294967296:=by have:=h.set.few;omega
 refine qab7 (qzv h.size) (q85 h.size) (q86 h.size) ?_ ?_ ?_ ?_ ?_ ?_
 ·rw[h.v];exact h.voc.vwE h.term
 ·rw[h.t];exact h.set.tok.toE
 ·rw[h.n];exact(q82 U).symm
 ·rw[h.v,h.voc.tot h.set.rise h.kinds];exact(q83 Z).symm
 ·intro i hi;rw[h.n]at hi;have H:qs[i]?=some qs[i]:=zge hi;exact⟨λj hj=>by rw[h.told H hj];simp,by rw[h.quad4 H];exact h.quad _ (AP hi)⟩
 ·intro id h1 h2;rw[h.v,h.voc.tot h.set.rise h.kinds]at h2;have ht:T[id-1]?=some T[id-1]:=zge Oo;obtain⟨q,U,k,hk,e⟩:=h.used _ (zmg ht);obtain⟨i,hi⟩:=AW.1 U;have W:=(Ad.1 hi).1;refine⟨i,by rw[h.n];exact W,k,hk,?_⟩;rw[h.t,h.set.tok.tNum W hk,qhs hi,e,qkn h.set.rise ht (by have:=h.set.kind _ (zmg ht);omega)];omega
end
theorem q6u{c:Dh}(h:c≠0):(0:Dh)<c:=by
 grind
theorem qaae{c d:Dh}(h:c<d):d≠0:=λe=>by
 simp_all
theorem qst(p:LB){a b:LB}(h:a<b):p++a<p++b:=by
 induction p<;>grind [List.cons_lt_cons_iff]
theorem qxo:∀{a b:LB} (r s:LB),a<b->escL a++(0::0::r)<escL b++(0::0::s)
 | _,[],_,_,h=>absurd h (List.not_lt_nil _)
 | [],d::b,r,s,_=>by
  by_cases U:d=0
  ·subst U;rw[qcn];exact AX.2 (.inr ⟨rfl,AX.2 (.inl Od)⟩)
  ·rw[qbu _ U];exact AX.2 (.inl (q6u U))
 | c::a,d::b,r,s,h=>by
  rcases AX.1 h with h1|⟨rfl,h1⟩
  ·rw[qbu _ (qaae h1)]
   by_cases H:c=0
   ·subst H;rw[qcn];exact AX.2 (.inl h1)
   ·rw[qbu _ H];exact AX.2 (.inl h1)
  ·by_cases H:c=0
   ·subst H;rw[qcn,qcn];exact qst [0,1] (qxo r s h1)
   ·rw[qbu _ H,qbu _ H];exact qst [c] (qxo r s h1)
theorem q6s:∀{a b:LB} (r s:LB),(∀c∈b,c≠0)->a<b->a++(0::r)<b++(0::s)
 | _,[],_,_,_,h=>absurd h (List.not_lt_nil _)
 | [],d::b,r,s,H,_=>AX.2 (.inl (q6u (H d mh)))
 | c::a,d::b,r,s,H,h=>by
  rcases AX.1 h with h1|⟨rfl,h1⟩
  ·exact AX.2 (.inl h1)
  ·exact qst [c] (q6s r s (λx U=>H x (zmc U)) h1)
theorem qlq{a b:TM}(ha:qa2 a=0)(W:qa2 b=0)(hk:a.kind=b.kind)(h:LtT a b):qae a<qae b:=by
 have h:slt a.text b.text=true\/(a.text=b.text/\(slt a.type b.type=true\/(a.type=b.type/\slt a.lang b.lang=true))):=by
  rcases h with g|⟨_,g⟩
  all_goals omega
 simp only[qc4]at h
 by_cases h3:b.kind=3
 ·have H:ReadsAs 3 (qae a) a:=⟨by omega,ha,rfl⟩
  have U:ReadsAs 3 (qae b) b:=⟨h3,W,rfl⟩
  obtain⟨Z,_⟩:=H.lit;obtain⟨eb,hz⟩:=U.lit
  grind [qxo,qst,q6s]
 ·have H:ReadsAs a.kind (qae a) a:=⟨rfl,ha,rfl⟩
  have U:ReadsAs b.kind (qae b) b:=⟨rfl,W,rfl⟩
  obtain⟨a1,a2,a3⟩:=H.plain Oo;obtain⟨b1,b2,b3⟩:=U.plain h3
  simp_all
open Classical in
noncomputable def dicE(L:List LB):Nat:=
 if 4194304<L.length\/∃i,262144<(tx L i).length then 2 else if ∃i,i+1<L.length/\leL (tx L (i+1)) (tx L i)=true then 160 else if 67108864<(qaj L).length then 1 else 0
theorem LtQ.trans{a b c:Q4}(h:LtQ a b)(g:LtQ b c):LtQ a c:=by
 obtain⟨k,h1,h2,h3⟩:=h;obtain⟨m,Z,U,W⟩:=g
 rcases CI k m with e|e|e
 ·exact⟨k,h1,λj H=>(h2 j H).trans (U j Oo),by rw[<-U k e];exact h3⟩
 ·subst e;exact⟨k,h1,λj H=>(h2 j H).trans (U j H),h3.trans W⟩
 ·exact⟨m,Z,λj H=>(h2 j Oo).trans (U j H),by rw[h2 m e];exact W⟩
theorem qzw{α:Type}{R:α->α->Prop}(ht:∀a b c,R a b->R b c->R a c){l:List α}(h:∀i a b,l[i]?=some a->l[i+1]?=some b->R a b):l.Pairwise R:=by
 refine Bj.2 λi j hi U H=>?_;obtain⟨d,rfl⟩:∃d,j=i+1+d:=⟨j-(i+1),by omega⟩
 clear H
 induction d with
 | zero=>exact h i _ _ (zge hi) (zge U)
 | succ d W=>exact ht _ _ _ (W Oo) (h (i+1+d) _ _ (zge Oo) (zge U))
section
variable {l:LB} (h:(poE l).2=0)
include h
end
def cmpQ(a b:Q4):Int:=if cmpT a.g b.g≠0 then cmpT a.g b.g else if cmpT a.s b.s≠0 then cmpT a.s b.s else if cmpT a.p b.p≠0 then cmpT a.p b.p else cmpT a.o b.o
theorem qpk{a b:Q4}:cmpQ a b<0↔LtQ a b:=by
 unfold cmpQ
 constructor
 ·intro h
  by_cases U:cmpT a.g b.g≠0
  ·rw[Af U]at h;exact⟨0,by decide,λj H=>absurd H (Cf _),qar.1 h⟩
  rw[Ab U]at h;have W:=qa4.1 (Ck.1 U)
  by_cases h1:cmpT a.s b.s≠0
  ·rw[Af h1]at h;exact⟨1,by decide,λj H=>by obtain rfl:j=0:=(by omega);exact W,qar.1 h⟩
  rw[Ab h1]at h;have Z:=qa4.1 (Ck.1 h1)
  by_cases h2:cmpT a.p b.p≠0
  ·rw[Af h2]at h;refine⟨2,by decide,λj H=>?_,qar.1 h⟩
   rcases(show j=0\/j=1 by omega)with rfl|rfl
   ·exact W
   ·exact Z
  rw[Ab h2]at h;have e2:=qa4.1 (Ck.1 h2);refine⟨3,by decide,λj H=>?_,qar.1 h⟩
  rcases(show j=0\/j=1\/j=2 by omega)with rfl|rfl|rfl
  ·exact W
  ·exact Z
  ·exact e2
 ·rintro⟨k,hk,h1,h2⟩
  match k,hk with
  | 0,_=>
   have:=qar.2 h2;have g:cmpT a.g b.g<0:=this;omega
  | 1,_=>
   have g:cmpT a.s b.s<0:=qar.2 h2;rw[Ab (λx=>x (qa4.2 (h1 0 Od))),Af Oo];exact g
  | 2,_=>
   have g:cmpT a.p b.p<0:=qar.2 h2;rw[Ab (λx=>x (qa4.2 (h1 0 Od))),Ab (λx=>x (qa4.2 (h1 1 Od))),Af Oo];exact g
  | 3,_=>
   have g:cmpT a.o b.o<0:=qar.2 h2;rw[Ab (λx=>x (qa4.2 (h1 0 Od))),Ab (λx=>x (qa4.2 (h1 1 Od))),Ab (λx=>x (qa4.2 (h1 2 Od)))];exact g
def q10(qs:List Q4)(n:Nat):Prop:=∀i,i+1<n->∀a b,qs[i]?=some a->qs[i+1]?=some b->LtQ a b
open Classical in
noncomputable def valE(qs:List Q4):Nat:=if 1048576<qs.length then 2 else if qcf (qs.map qbw)≠0 then qcf (qs.map qbw)else if q10 qs qs.length then 0 else 6
theorem q1k(h:1048576<qs.length):valE qs=2:=by rw[valE,Af h]
theorem q1l(h:¬1048576<qs.length){e:Nat}{q:Q4}(H:qs[i]?=some q)(hj:∀j r,j<i->qs[j]?=some r->qbw r=0)(U:qbw q=e)(h0:e≠0):valE qs=e:=by
 have hl:=(Ad.1 H).1;have e1:qcf (qs.map qbw)=e:=by
  rw[qiz (k:=i) (by simp_all) (λj W Z=>by grind)
   (by simp_all),CZ,(Ad.1 H).2,U]
 grind [valE]
theorem qkt(h:∀q∈qs,qbw q=0):qcf (qs.map qbw)=0:=
 qde λj H=>by simp_all
theorem q5f(h:¬1048576<qs.length)(U:∀q∈qs,qbw q=0){a b:Q4}(ha:qs[i]?=some a)(H:qs[i+1]?=some b)(W:¬LtQ a b):valE qs=6:=by
 have Z:=(Ad.1 H).1;rw[valE,Ab h,qkt U,Ab (λg=>g rfl),Ab (λg=>W (g i Z a b ha H))]
theorem qaak(h:¬1048576<qs.length)(H:∀q∈qs,qbw q=0)(hr:q10 qs qs.length):valE qs=0:=by
 grind [valE,qkt]
theorem qgt:∀{l:Do},qcf l=0->∀x∈l,x=0
 | [],_,x,H=>by cases H
 | y::l,h,x,H=>by
  rw[qcf]at h
  by_cases e:y=0
  ·rw[Ab (λg=>g e)]at h
   rcases Aw.1 H with rfl|H
   ·exact e
   ·exact qgt h x H
  ·rw[Af e]at h;exact absurd h e
theorem qed(h:valE qs=0):qs.length<=1048576/\(∀q∈qs,qbw q=0)/\qs.Pairwise LtQ:=by
 unfold valE at h
 by_cases h1:1048576<qs.length
 case pos=>simp_all
 rw[Ab h1]at h
 by_cases h2:qcf (qs.map qbw)≠0
 case pos=>simp_all
 rw[Ab h2]at h
 by_cases h3:q10 qs qs.length
 case neg=>simp_all
 refine⟨by omega,λq U=>qgt (Ck.1 h2) _ (AG.2 ⟨q,U,rfl⟩),qzw (R:=LtQ) (λ_ _ _ h g=>LtQ.trans h g) λi a b ha H=>h3 i (Ad.1 H).1 a b ha H⟩
theorem qml{q:Q4}(h:qbw q=0)(hk:k<4):qE k (q.at k)=0:=qgt h _ (AG.2 ⟨k,B7.2 hk,rfl⟩)
theorem qmj{t:TM}(h:qE k t=0):canB k t=true/\((k=3/\t.kind=0)\/qa2 t=0):=by
 grind [qE]
theorem qk1{t:TM}(h:qa2 t=0):1<=t.kind/\t.kind<=3:=by
 grind [qa2]
theorem q5r{t:TM}(h:qwc t=true):t=zTM:=ql.1 h
theorem qmm{q:Q4}(h:qbw q=0)(hk:k<4):(qa2 (gat q k)=0/\gat q k∈trQ q)\/(k=0/\(gat q k).kind=0/\gat q k=zTM):=by
 match k,hk with
 | 0,_=>
  obtain⟨h1,h2⟩:=qmj (qml h (k:=3) Od)
  by_cases H:q.g.kind=0
  ·refine .inr ⟨rfl,H,?_⟩;have h1:canB 3 q.g=true:=h1;rw[canB,Ab Oo,Ab Oo,Ab Oo]at h1;simp only[C7,decide_eq_true_eq]at h1
   rcases h1 with(h1|h1)|h1
   ·exact q5r h1
   all_goals omega
  ·refine .inl ⟨h2.resolve_left λg=>H g.2,?_⟩;rw[trQ,Ab H];exact Aa _ (Ac.2 rfl)
 | 1,_=>
  obtain⟨_,h2⟩:=qmj (qml h (k:=0) Od);exact .inl ⟨h2.resolve_left λg=>absurd g.1 Od,Am _ mh⟩
 | 2,_=>
  obtain⟨_,h2⟩:=qmj (qml h (k:=1) Od);exact .inl ⟨h2.resolve_left λg=>absurd g.1 Od,Am _ (zmc mh)⟩
 | 3,_=>
  obtain⟨_,h2⟩:=qmj (qml h (k:=2) Od);exact .inl ⟨h2.resolve_left λg=>absurd g.1 Od,Am _ (zmc (zmc mh))⟩
theorem qq6{q:Q4}{t:TM}(h:t∈trQ q):∃k,k<4/\gat q k=t/\(k=0->(gat q k).kind≠0):=by
 rw[trQ]at h
 rcases AJ.1 h with h|h
 ·simp only[Aw,BH,or_false]at h
  rcases h with rfl|rfl|rfl
  ·exact⟨1,by decide,rfl,λg=>by cases g⟩
  ·exact⟨2,by decide,rfl,λg=>by cases g⟩
  ·exact⟨3,by decide,rfl,λg=>by cases g⟩
 ·by_cases H:q.g.kind=0
  ·simp_all
  ·rw[Ab H]at h;rw[Ac.1 h];exact⟨0,by decide,rfl,λ_=>H⟩
def tmsQ(qs:List Q4):List TM:=tmsN (trms qs).length (trms qs)
theorem qd9(qs:List Q4):RiseT (tmsQ qs):=(qgc _ (trms qs) znr).1
theorem qsy{t:TM}:t∈trms qs↔∃q∈qs,t∈trQ q:=by
 grind [trms]
theorem qdh{t:TM}:t∈tmsQ qs↔∃q∈qs,t∈trQ q:=by
 rw[<-qsy];exact(qgc _ (trms qs) znr).2 t
section
variable {qs:List Q4} (h:valE qs=0)
include h
theorem qda{t:TM}(ht:t∈tmsQ qs):qa2 t=0/\1<=t.kind/\t.kind<=3:=by
 obtain⟨q,H,U⟩:=qdh.1 ht;obtain⟨k,hk,rfl,W⟩:=qq6 U
 rcases qmm ((qed h).2.1 q H) hk with g|⟨Z,g2,_⟩
 all_goals simp_all[qk1]
theorem qtx(H:(tmsQ qs).length<=4194304):SetOk (tmsQ qs) qs:=by
 obtain⟨h1,h2,h3⟩:=qed h;refine⟨qd9 qs,H,λt ht=>by have:=qda h ht;omega,λq U k hk=>?_,h1,h3⟩
 grind [qmm,qdh]
theorem q45(H:(tmsQ qs).length<=4194304)(U:VOk (tmsQ qs))(W:(vocB (tmsQ qs)).length+(qm (noQ (tmsQ qs) qs) qs.length).length+36<=67108864):EncOk (tmsQ qs) qs:=by
 refine⟨qtx h H,U,λt ht=>(qda h ht).2.2,λt ht=>(qda h ht).1,λq Z=>(qed h).2.1 q Z,λt ht=>?_,W⟩
 grind [qdh,qq6]
end
theorem EncOk.terms(h:EncOk T qs):T=tmsQ qs:=by
 refine RiseT.ext h.set.rise (qd9 qs) λt=>⟨λht=>?_,λht=>?_⟩
 ·obtain⟨q,H,k,hk,e⟩:=h.used t ht
  rcases qmm (h.quad q H) hk with g|⟨_,g,_⟩
  ·grind [qdh]
  ·have:=h.set.kind t ht;simp_all
 ·obtain⟨q,H,U⟩:=qdh.1 ht;obtain⟨k,hk,e,W⟩:=qq6 U
  rcases h.set.mem q H k hk with g|⟨Z,g2,_⟩
  all_goals simp_all
theorem qaa7{L:List LB}(h:¬4194304<L.length)(h2:∀i,¬262144<(tx L i).length)(hi:i+1<L.length)(H:leL (tx L (i+1)) (tx L i)=true):dicE L=160:=by
 rw[dicE,Ab (λg=>g.elim h λ⟨i,g⟩=>h2 i g),Af ⟨i,hi,H⟩]
theorem qxc{L:List LB}(h:¬4194304<L.length)(h2:∀i,¬262144<(tx L i).length)(h3:∀i,i+1<L.length->leL (tx L (i+1)) (tx L i)=false)(H:67108864<(qaj L).length):dicE L=1:=by
 grind [dicE]
theorem q7o{L:List LB}(h:DOk L):dicE L=0:=by
 have h1:=h.n;have U:=h.area;rw[dicE,Ab (λg=>g.elim Oo λ⟨i,g⟩=>by have:=h.len i;omega),Ab (λ⟨i,g,H⟩=>by rw[h.rise i g]at H;cases H),Ab Oo]
theorem qfo{L:List LB}(h:dicE L=0):DOk L:=by
 unfold dicE at h
 by_cases h1:4194304<L.length\/∃i,262144<(tx L i).length
 case pos=>simp_all
 rw[Ab h1]at h
 by_cases h2:∃i,i+1<L.length/\leL (tx L (i+1)) (tx L i)=true
 case pos=>simp_all
 rw[Ab h2]at h
 by_cases h3:67108864<(qaj L).length
 case pos=>simp_all
 refine⟨CO.1 λg=>h1 (.inl g),λi=>CO.1 λg=>h1 (.inr ⟨i,g⟩),λi hi=>?_,by omega⟩
 simp_all
noncomputable def qc5(T:List TM):Nat:=if dicE (secE T 0)≠0 then dicE (secE T 0)else if dicE (secE T 1)≠0 then dicE (secE T 1)else dicE (secE T 2)
theorem q5n(hk:k<3)(h:∀j,j<k->dicE (secE T j)=0)(H:dicE (secE T k)≠0):qc5 T=dicE (secE T k):=by
 grind [qc5]
theorem qt3(h:∀k,k<3->dicE (secE T k)=0):qc5 T=0:=by
 grind [qc5]
theorem qk6(h:qc5 T=0):∀k,k<3->dicE (secE T k)=0:=by
 unfold qc5 at h
 grind
def pkB(qs:List Q4):LB:=encP (tmsQ qs) qs
theorem qqg(qs:List Q4):(pkB qs).length=(vocB (tmsQ qs)).length+(qm (noQ (tmsQ qs) qs) qs.length).length+36:=qs7 _ _ _ _
noncomputable def encE(qs:List Q4)(most:Int):Nat:=
 if valE qs≠0 then valE qs else if qc5 (tmsQ qs)≠0 then qc5 (tmsQ qs)else if most<((pkB qs).length:Int)\/67108864<(pkB qs).length then 1 else 0
section
variable {qs:List Q4} {most:Int}
theorem qsd(h:valE qs≠0):encE qs most=valE qs:=by rw[encE,Af h]
theorem qse(h:valE qs=0)(h2:qc5 (tmsQ qs)≠0):encE qs most=qc5 (tmsQ qs):=by grind [encE]
theorem qic(h:valE qs=0)(h2:qc5 (tmsQ qs)=0)(h3:most<((pkB qs).length:Int)\/67108864<(pkB qs).length):encE qs most=1:=by grind [encE]
theorem qps(h:valE qs=0)(h2:qc5 (tmsQ qs)=0)(h3:¬(most<((pkB qs).length:Int)\/67108864<(pkB qs).length)):encE qs most=0:=by grind [encE]
theorem qiy(h:encE qs most=0):valE qs=0/\qc5 (tmsQ qs)=0/\((pkB qs).length:Int)<=most/\(pkB qs).length<=67108864:=by
 grind [encE]
theorem q6b(a b c:LB):a.length+b.length+c.length<=(jo3 a b c).length:=by
 grind [jo3]
theorem q2x(U:(tmsQ qs).length<=4194304)(h:encE qs most=0):EncOk (tmsQ qs) qs:=by
 obtain⟨h1,h2,_,H⟩:=qiy h;rw[qqg]at H;refine q45 h1 U ⟨λk hk=>qfo (qk6 h2 k hk),?_⟩ H
 grind [q6b,vocB]
theorem EncOk.pk(h:EncOk T qs):encP T qs=pkB qs:=by rw[pkB,<-h.terms]
end
theorem qqz(g:FuncId)(Z c2:Di)(n:Nat)(p:Nat->Bool)(w:Dd)(hn:n<=4194304)(hp:∀i j,i<=j->p i=true->p j=true)(hg:∀i w',i<n->Ext w w'->Gv Dp g [ii i,Z,c2] w' λr aa=>r=.bool (p i)/\Ext w' aa):
  Gv Dp 208 [ii n,.func (.func g) #[] #[Z,c2]] w λr w'=>∃k:Nat,r=ii k/\k<=n/\(∀i,i<k->p i=false)/\(∀i,k<=i->i<n->p i=true)/\Ext w w':=by
 refine ze Tryz.func208 Tryz.ntmps208 ?_;refine qn (λs:Nat×Nat=>[(1,.func (.func g) #[] #[Z,c2]),(5,ii s.1),(6,ii s.2)])
  (λs w'=>s.1<=s.2/\s.2<=n/\(∀i,i<s.1->p i=false)/\(∀i,s.2<=i->i<n->p i=true)/\Ext w w') (λs=>s.2-s.1) (0,n) fq ⟨An _,Ao _,λi h=>by omega,λi h1 h2=>by omega,xr⟩ ?_
 rintro⟨a,b⟩ w1 ac ⟨h1,h2,h3,h4,H⟩;dsimp only at h1 h2 h3 h4|-;(conv=>whnf);refine zC (λ_=>zu ?_) (λ_=>zu ?_)
 ·obtain⟨h,eh⟩:∃h,h=(a+b)/2:=⟨_,rfl⟩
  rw[<-Int.natCast_add];refine V.Wit.shrN 1 rfl Od ?_;rw[Nat.pow_one,<-eh];refine zu ?_;refine zcv (hg h w1 Oo H) ?_;rintro r w2 ⟨rfl,ab⟩;have H:=H.trans ab;cases U:p h
  ·refine zu ?_;refine⟨(h+1,b),fq,⟨by show h+1<=b;omega,h2,λi hi=>?_,h4,H⟩,by show b-(h+1)<b-a;omega⟩
   by_cases W:p i=true
   ·have:=hp i h (by show i<=h;have hi:i<h+1:=hi;omega) W;rw[U]at this;cases this
   ·simpa using W
  ·refine zu ?_;refine⟨(a,h),fq,⟨by show a<=h;omega,by show h<=n;omega,h3,λi hi _=>hp h i hi U,H⟩,by show h-a<b-a;omega⟩
 ·obtain rfl:a=b:=by omega
  exact⟨a,rfl,h2,h3,h4,H⟩
def ltx(L:List LB)(i:Nat)(s:De):Bool:=slt ⟨(tx L i).toArray⟩ s
theorem DOk.up{L:List LB}(h:DOk L)(H:i<j)(U:j<L.length):slt ⟨(tx L i).toArray⟩ ⟨(tx L j).toArray⟩=true:=by
 induction j with
 | zero=>omega
 | succ j W=>
  have h1:slt ⟨(tx L j).toArray⟩ ⟨(tx L (j+1)).toArray⟩=true:=by
   have h2:=h.rise j U;simp only[leL,CQ]at h2
   rcases qmr ⟨(tx L j).toArray⟩ ⟨(tx L (j+1)).toArray⟩with g|g|g
   ·exact g
   ·rw[g]at h2;have:=h2.2;simp[seq]at this
   ·rw[g]at h2;exact absurd h2.1 Od
  by_cases e:i=j
  ·subst e;exact h1
  ·exact qjm (W Oo Oo) h1
theorem DOk.ltx_up{L:List LB}(h:DOk L){s:De}(U:i<=j)(W:j<L.length)(H:ltx L j s=true):ltx L i s=true:=by
 by_cases e:i=j
 ·subst e;exact H
 ·exact qjm (h.up Oo W) H
theorem qnr(b:Nat)(t s:De)(w:Dd)(H:w.cell? ⟨b,0,none⟩=some (.string s)):
  Gv Dp 248 [.string t,pp b] w λr w'=>r=.bool (slt t s)/\Ext w w':=by
 refine ze Tryz.func248 Tryz.ntmps248 ?_;refine LoadV.of H (zw ?_);exact⟨rfl,xr⟩
theorem qt9(L:List LB)(Z:DOk L)(b b2 b3 sb i:Nat)(s:De)(w:Dd)(hD:DictAt w b (qj L))(hi:i<upN L.length 16)(h2:w.cell? ⟨b2,0,none⟩=some (pp b))(h3:w.cell? ⟨b3,0,none⟩=some (.func (.func 248) #[] #[pp sb]))(hs:w.cell? ⟨sb,0,none⟩=some (.string s)):
  Gv Dp 321 [ii i,pp b2,pp b3] w λr w'=>r=.bool (!ltx L (16*i) s)/\Ext w w':=by
 have U:16*i<L.length:=by unfold upN at hi;omega
 have hn:=Z.n;have ac:=qnn hD i;have hx:qev (qc (qj L)) (qz (qj L) i) true []=blk (qc (qj L)) (qz (qj L) i) 0:=rfl;have hg:=qpq (m:=qj L) (by rw[Z.eoE]) (i:=16*i) (by rw[Z.eN];exact U);rw[Z.eGet U,dTxt,show 16*i/16=i by omega,show 16*i%16=0 by omega]at hg;obtain⟨q1,q2⟩:=hg;have q2:=Bg q2;obtain⟨x,ex⟩:∃x,x=blk (qc (qj L)) (qz (qj L) i) 0:=⟨_,rfl⟩
 rw[<-ex]at q1 q2 hx;obtain⟨P,cp,E',ce,ad,_,_,_⟩:=id hD.1;refine ze Tryz.func321 Tryz.ntmps321 ?_;refine DrawV.free Jk Jk (zw ?_);apply zsd
 ·intro wd W;(conv=>whnf);refine LoadV.of (((Ext.refl w).drew.trans W).cell h2) (zw ?_);exact xq
 (conv=>whnf);apply zsd
 ·intro wd W;(conv=>whnf);refine LoadV.of (((Ext.refl w).drew.trans W).cell h2) (zw ?_);exact xq
 (conv=>whnf);refine zd ?_;apply zsd
 ·intro wd W;(conv=>whnf);refine zcv (qob b (qj L) i wd (hD.ext ((Ext.refl w).drew.trans W)) (by rw[Z.eN];exact hi)) ?_;rintro v w' ⟨rfl,rfl⟩;exact xq
 (conv=>whnf);apply zsd
 ·intro wd W;(conv=>whnf);refine zcv (qnq b (qj L) (qz (qj L) i) true ⟨#[]⟩ wd (hD.ext ((Ext.refl w).drew.trans W)) Oo Od) ?_;rintro v w' ⟨rfl,he⟩;exact⟨he,rfl⟩
 (conv=>whnf);have aa:qev (qc (qj L)) (qz (qj L) i) true (⟨#[]⟩:De).data.toList=x:=hx;rw[aa];clear hx aa ex;obtain⟨x1,x2,x3⟩:=x;dsimp only at q1 q2;subst q1 q2;(iterate 7 (refine zd ?_));intro w2 H;have H:=(Ext.refl w).drew.trans H;(conv=>whnf);refine zC (λ_=>zu ?_) (λ_=>zu ?_)
 ·rename_i hx
  exact absurd rfl hx
 refine LoadV.of (H.cell h3) (zu ?_);refine zcv (qnr sb ⟨(tx L (16*i)).toArray⟩ s w2 (H.cell hs)) ?_;rintro r w3 ⟨rfl,ab⟩;refine zu ?_;exact⟨rfl,H.trans ab⟩
structure AhN(L:List LB)(s:De)(N:Nat):Prop where
 le:N<=L.length
 lt:∀i,i<N->ltx L i s=true
 ge:N<L.length->ltx L N s=false
theorem DOk.txt{L:List LB}(h:DOk L)(hi:i<L.length):dTxt (qj L) i=tx L i:=by
 have H:=(qpq (m:=qj L) (by rw[h.eoE]) (i:=i) (by rw[h.eN];exact hi)).2;rw[h.eGet hi]at H;exact(Bg H).symm
theorem qws(b k:Nat)(w:Dd):Gv Dp 324 [pp b,ii k] w λr w'=>
  ∃b1 b2,r=.func (.func 370) #[] #[pp b1,pp b2]/\Mem w w' [(b2,.cells #[ii k] 3),(b1,.cells #[pp b] 300)]:=by
 refine ze Tryz.func324 Tryz.ntmps324 ?_;refine znm (Mem.nil w) ?_;intro b1 U H;refine znm H λb2 W H=>zw ?_;exact⟨b1,b2,rfl,H⟩
theorem qwi(L:List LB)(W:DOk L)(b sb:Nat)(s:De)(w:Dd)(hD:DictAt w b (qj L))(hs:w.cell? ⟨sb,0,none⟩=some (.string s)):
  Gv Dp 247 [pp b,.func (.func 248) #[] #[pp sb]] w λr w'=>(∃N:Nat,r=ii N/\AhN L s N)/\Ext w w':=by
 have hn:=W.n;have ar:upN L.length 16<=4194304:=A6 (qbh _ _ Od) hn;refine gvW Jk Tryz.func247 rfl Tryz.ntmps247 rfl (zw ?_);refine znm (Mem.nil w) ?_;intro b2 w1 H;refine znm H λb3 w2 H=>zw ?_;obtain⟨fv,ah⟩:∃fv:Di,fv=.func (.func 248) #[] #[pp sb]:=⟨_,rfl⟩
 refine zR H 1 ?_;obtain⟨P,cp,E,ce,ai,_,_,_⟩:=(hD.ext H.ext).1;refine LoadV.own ai rfl ?_;rw[W.eN];(conv=>whnf);refine zcv (qka L.length w2 hn) ?_;rintro v w' ⟨rfl,rfl⟩;(conv=>whnf);have aj:=qqz 321 (pp b2) (pp b3) (upN L.length 16) (λi => !(decide (16*i<L.length)&&ltx L (16*i) s)) w' ar (λi j ay h=>by
  simp only[Ct,Bool.and_eq_false_iff,decide_eq_false_iff_not]at h|-
  by_cases U:16*j<L.length
  ·right
   have h1:=h.resolve_left (λg=>g Oo);cases Z:ltx L (16*j) s
   ·rfl
   ·rw[W.ltx_up Oo U Z]at h1;cases h1
  ·exact .inl U) (λi w2 hi he=>(qt9 L W b b2 b3 sb i s w2 (hD.ext (H.ext.trans he)) hi (by rw[qa (he.get (H.get (zmc mh)))];rfl) (by rw[qa (he.get (H.get mh))];rfl) ((H.ext.trans he).cell hs)).mono λr w3 ⟨h1,h2⟩=>⟨by
    have ak:16*i<L.length:=by unfold upN at hi;omega
    rw[h1,AI ak,Bool.true_and],h2⟩)
 refine zcv (aj) ?_;rintro v w3 ⟨k,rfl,az,aa,ab,au⟩;have H:=H.call au;clear aj;have al:∀i,i<upN L.length 16->16*i<L.length:=λi h=>by unfold upN at h;omega
 have aa:∀i,i<k->ltx L (16*i) s=true:=λi h=>by
  have h1:=aa i h;have h2:=al i Oo
  simpa[h2]using h1
 have ab:∀i,k<=i->16*i<L.length->ltx L (16*i) s=false:=λi h h2=>by
  have h1:=ab i h (by unfold upN;omega)
  simpa[h2]using h1
 clear ai;(conv=>whnf);refine zC (λ_=>zu ?_) (λ_=>zu ?_)
 ·obtain rfl:k=0:=by omega
  exact⟨⟨0,rfl,An _,λi h=>by omega,λh=>ab 0 znr h⟩,H.ext⟩
 obtain⟨q,rfl⟩:∃q,k=q+1:=⟨k-1,by omega⟩
 rw[show(((q+1:Nat):Int)-1)=(q:Int)by omega];refine znm H ?_;intro b6 w4 H;refine StoreV.mem H (i:=0) rfl Js rfl ?_;intro w5 H;refine zr H 2 ?_;refine zv ?_;rw[show(((q+1:Nat):Int)-1)=(q:Int)by omega];refine zcv (qws b q w5) ?_;rintro v w6 ⟨b1,b7,rfl,ac⟩;have H:=H.glue ac;have am:dN (qj L)=L.length:=W.eN;obtain⟨n,en⟩:∃n,n=min 16 (L.length-16*q):=⟨_,rfl⟩
 have av:BEnd (qj L) q n:=by
  have:=BEnd.full (m:=qj L) (by rw[W.eoE]) q;rw[am,<-en]at this;exact this
 have ad:=al q Oo;obtain⟨R,eR⟩:∃R:Nat->Dm,R=λk=>[(b7,.cells #[ii q] 3),(b1,.cells #[pp b] 300),(b6,.cells #[ii (16*q+k:Nat)] 3),(b3,.cells #[fv] 360),(b2,.cells #[pp b] 300)]:=⟨_,rfl⟩
 have H:Mem w w6 (R 0):=by
  rw[eR,ah];dsimp only;rw[show((16*q+0:Nat):Int)=(q:Int)*16 by omega];exact H
 have an:∀k,(b1,Obj.cells #[pp b] 300)∈R k:=λk=>by rw[eR];exact zmg (i:=1) rfl
 have ao:∀k,(b7,Obj.cells #[ii q] 3)∈R k:=λk=>by rw[eR];exact zmg (i:=0) rfl
 have ae:((List.range n).map (bRow (qj L) q)).length=n:=by simp
 refine qtc (Φ:=BlkΦ b (qj L) q b1 b7) (lb:=[pp b1,pp b7]) (xs:=(List.range n).map (bRow (qj L) q)) rfl Jk (qnd b (qj L) q n b1 b7 (by rw[am];omega) av).toC Od ?_
  (λk X w'=>∃_:Unit,(k<=n/\∀j,j<k->ltx L (16*q+j) s=true)/\Mem w w' (X++R k))
  (λc k X w'=>∃_:Unit,(c=.exit 0/\k<n/\(∀j,j<k->ltx L (16*q+j) s=true)/\ltx L (16*q+k) s=false)/\Mem w w' (X++R k))
  (λk=>Carr.mem _ _) (λc k=>Carr.mem _ _) (λk X w' ⟨_,_,af⟩=>⟨hD.ext af.ext,by rw[qa (af.get (Aa _ (an _)))];rfl,by rw[qa (af.get (Aa _ (ao _)))];rfl⟩) ⟨(),⟨An _,λj h=>by omega⟩,by simpa using H⟩ ?_ ?_ ?_
 ·intro x Z;obtain⟨j,_,rfl⟩:=AG.1 Z;rfl
 ·clear H ac;rintro l D ob k x X w7 w8 Z ⟨_,⟨hk,U⟩,H⟩;have ag:k<n:=by
   have:=(Ad.1 Z).1
   rwa[ae]at this
  rw[Ar,B6 ag,AU,AN,q16 _ _ _ Oo,W.txt Oo]at Z;subst Z;obtain⟨X',aw⟩:∃X',X'=(l,ob)::(D,.deferred (some []))::X:=⟨_,rfl⟩
  rw[<-aw]at H|-;have H:Mem w w8 (R k++X'):=H.perm As;rw[eR]at H|-;dsimp only at H|-;rw[ah]at H|-;(conv=>whnf);refine⟨rfl,rfl,?_⟩;refine zr H 3 ?_;refine zcv (qnr sb ⟨(tx L (16*q+k)).toArray⟩ s w8 (H.ext.cell hs)) ?_;rintro r w9 ⟨rfl,ax⟩;have H:=H.call ax;cases aq:slt ⟨(tx L (16*q+k)).toArray⟩ s
  ·refine zu ?_;exact⟨(),⟨rfl,ag,U,aq⟩,H.perm As⟩
  ·refine zu ?_;refine StoreV.mem H (i:=2) rfl Js rfl λa0 H=>zw ?_;refine⟨(),⟨ag,λj' a1=>?_⟩,?_⟩
   ·by_cases e:j'=k
    ·subst e;exact aq
    ·exact U j' Oo
   ·rw[show((16*q+(k+1):Nat):Int)=((16*q+k:Nat):Int)+1 by omega];exact H.perm As
 ·clear H ac;rintro D w8 ⟨_,⟨hk,U⟩,H⟩;rw[ae]at hk U H;have H:=H.perm (List.Perm.cons _ (show(([]:Dm)++R n).Perm (R n)from List.Perm.refl _));rw[eR]at H;refine zR H 3 ?_;refine LeaveV.mark (H.get mh) λw9 hw=>?_;have H:=H.setO (i:=0) _ rfl hw;(conv=>whnf);refine⟨⟨16*q+n,rfl,by omega,λi hi=>?_,λhl=>?_⟩,H.ext⟩
  ·by_cases g:i<16*q
   ·exact W.ltx_up (j:=16*q) Oo ad (aa q Oo)
   ·obtain⟨j,rfl⟩:∃j,i=16*q+j:=⟨i-16*q,by omega⟩
    exact U j Oo
  ·have hN:16*q+n=16*(q+1):=by omega
   rw[hN]at hl|-;exact ab (q+1) znr hl
 ·clear H ac;rintro D c k w8 a2 ⟨_,⟨rfl,hk,U,Z⟩,H⟩;rw[eR]at H;refine zR H 3 ?_;refine LeaveV.mark (H.get mh) λw9 hw=>?_;have H:=H.setO (i:=0) _ rfl hw;(conv=>whnf);refine⟨⟨16*q+k,rfl,by omega,λi hi=>?_,λhl=>?_⟩,H.ext⟩
  ·by_cases g:i<16*q
   ·exact W.ltx_up (j:=16*q) Oo ad (aa q Oo)
   ·obtain⟨j,rfl⟩:∃j,i=16*q+j:=⟨i-16*q,by omega⟩
    exact U j Oo
  ·exact Z
theorem qsh(L:List LB)(W:DOk L)(b:Nat)(s:De)(w:Dd)(hD:DictAt w b (qj L)):
  Gv Dp 176 [pp b,.string s] w λr w'=>(∃N:Nat,AhN L s N/\r=.tuple #[ii N,.bool (decide (N<L.length/\(⟨(tx L N).toArray⟩:De)=s))])/\Ext w w':=by
 have hn:=W.n;refine ze Tryz.func176 Tryz.ntmps176 ?_;refine znm (Mem.nil w) λsb w1 H=>zw ?_;refine zcv (qwi L W b sb s w1 (hD.ext H.ext) (by rw[qa (H.get mh)];rfl)) ?_;rintro r w2 ⟨⟨N,rfl,hN⟩,Z⟩;have H:=H.call Z;have ab:=hN.le;(conv=>whnf);refine zcv (qr9 b (qj L) N w2 (hD.ext H.ext) Oo) ?_;rintro r w3 ⟨rfl,aa⟩;have H:=H.call aa
 by_cases U:N<L.length
 ·have hg:qgp (qj L) N=.tuple #[.string ⟨(tx L N).toArray⟩,.bool true]:=by rw[qgp,W.eGet U]
  rw[hg];(conv=>whnf);refine zy ?_;refine zv ?_;refine zr H.drew 0 ?_;refine zv ?_;refine⟨⟨N,hN,?_⟩,H.drew.ext⟩;have e:seq ⟨(tx L N).toArray⟩ s=decide (N<L.length/\(⟨(tx L N).toArray⟩:De)=s):=by
   cases hq:seq ⟨(tx L N).toArray⟩ s
   ·exact(AZ λg=>qoq.1 hq g.2).symm
   ·exact(AI ⟨U,qa6.1 hq⟩).symm
  rw[e]
 ·have hg:qgp (qj L) N=.tuple #[.string ⟨#[]⟩,.bool false]:=by rw[qgp,dGet,Ab (by rw[W.eN];exact U)]
  rw[hg];(conv=>whnf);refine zy ?_;refine zv ?_;refine⟨⟨N,hN,?_⟩,H.drew.ext⟩;have e:decide (N<L.length/\(⟨(tx L N).toArray⟩:De)=s)=false:=AZ λg=>U g.1
  rw[e]
theorem AhN.at{L:List LB}(h:DOk L){s:De}(hN:AhN L s N)(H:j<L.length)(U:(⟨(tx L j).toArray⟩:De)=s):N=j:=by
 rcases CI N j with g|g|g
 ·have h1:=hN.ge Oo;have h2:=h.up g H
  grind [ltx]
 ·exact g
 ·have h1:=hN.lt j g
  grind [ltx,qhg]
section
variable {T:List TM} (h:VOk T) (hr:RiseT T) (hk:∀t∈T,1<=t.kind/\t.kind<=3)
include h hr hk
theorem VOk.num{t:TM}(U:k<3)(H:(ofK T k)[j]?=some t):noT T t=vTot (vocB T) k+1+j:=by
 have e:=qqa hr hk;have t1:=h.tot1;have t2:=h.tot2;have t0:vTot (vocB T) 0=0:=rfl;have hl:=(Ad.1 H).1;have W:=qfz (zmg H);obtain⟨A,eA⟩:∃A,A=ofK T 0:=⟨_,rfl⟩
 obtain⟨B,eB⟩:∃B,B=ofK T 1:=⟨_,rfl⟩
 obtain⟨C,eC⟩:∃C,C=ofK T 2:=⟨_,rfl⟩
 have Z:∀m:Nat,T[m]?=(A++(B++C))[m]?:=λm=>by grind
 have hT:T[vTot (vocB T) k+j]?=some t:=by
  rw[Z]
  rcases(show k=0\/k=1\/k=2 by omega)with rfl|rfl|rfl
  all_goals grind
 grind [qkn]
theorem VOk.find{t:TM}(H:k<3)(ht:t∈T)(U:t.kind=((k+1:Nat):Int))(hN:AhN (secE T k) ⟨(qae t).toArray⟩ N):N<(secE T k).length/\(⟨(tx (secE T k) N).toArray⟩:De)=⟨(qae t).toArray⟩/\noT T t=vTot (vocB T) k+1+N:=by
 have hm:t∈ofK T k:=Bo.2 ⟨ht,by simpa using U⟩;obtain⟨j,W⟩:=AW.1 hm;have hl:=(Ad.1 W).1;have Z:tx (secE T k) j=qae t:=by grind [tx,qbq]
 have aa:(secE T k).length=(ofK T k).length:=by grind [qbq]
 obtain rfl:=hN.at (h.d k H) (j:=j) Oo (by rw[Z])
 exact⟨by omega,by rw[Z],h.num hr hk H W⟩
end
structure OrdC{α:Type}(c:α->α->Int):Prop where
 eq:∀{a b:α},c a b=0↔a=b
 sym:∀{a b:α},c a b<0↔0<c b a
 trans:∀{a b d:α},c a b<0->c b d<0->c a d<0
def RiseC{α:Type}(c:α->α->Int)(l:List α):Prop:=l.Pairwise λa b=>c a b<0
section
variable {α:Type} {c:α->α->Int} (O:OrdC c)
include O
theorem OrdC.irr(a:α):¬c a a<0:=by have:=O.eq (a:=a) (b:=a) |>.2 rfl;omega
theorem OrdC.tri(a b:α):c a b<0\/a=b\/c b a<0:=by
 rcases Int.lt_trichotomy (c a b) 0 with h|h|h
 ·exact .inl h
 ·exact .inr (.inl (O.eq.1 h))
 ·exact .inr (.inr (O.sym.2 h))
theorem RiseC.same:∀{a b:List α},RiseC c a->RiseC c b->(∀y,y∈a↔y∈b)->a=b
 | [],[],_,_,_=>rfl
 | [],x::b,_,_,h=>absurd ((h x).2 mh) Js
 | x::a,[],_,_,h=>absurd ((h x).1 mh) Js
 | x::a,u::b,ha,U,h=>by
  have h1:=AV.1 ha;have h2:=AV.1 U;have e:x=u:=by
   rcases Aw.1 ((h x).1 mh)with e|W
   ·exact e
   ·rcases Aw.1 ((h u).2 mh)with e|Z
    ·exact e.symm
    ·exact absurd (O.trans (h1.1 u Z) (h2.1 x W)) (O.irr x)
  subst e;rw[RiseC.same h1.2 h2.2 λy=>?_]
  constructor
  ·intro H
   rcases Aw.1 ((h y).1 (zmc H))with e|g
   ·subst e;exact absurd (h1.1 y H) (O.irr y)
   ·exact g
  ·intro H
   rcases Aw.1 ((h y).2 (zmc H))with e|g
   ·subst e;exact absurd (h2.1 y H) (O.irr y)
   ·exact g
end
theorem q7z{a b:Q4}(h:∀k,k<4->gat a k=gat b k):a=b:=by
 have H:a.g=b.g:=h 0 Od;have h1:a.s=b.s:=h 1 Od;have h2:a.p=b.p:=h 2 Od;have h3:a.o=b.o:=h 3 Od;cases a;simp_all
def fitT(p t:TM):Bool:=decide (p.kind=4)||qx p t
def fitQ(p q:Q4):Bool:=fitT p.s q.s&&fitT p.p q.p&&fitT p.o q.o&&fitT p.g q.g
theorem qlt(p q:Q4):fitQ p q=(fitT (gat p 0) (gat q 0)&&(fitT (gat p 1) (gat q 1)&&(fitT (gat p 2) (gat q 2)&&fitT (gat p 3) (gat q 3)))):=by
 show(fitT p.s q.s&&fitT p.p q.p&&fitT p.o q.o&&fitT p.g q.g)=(fitT p.g q.g&&(fitT p.s q.s&&(fitT p.p q.p&&fitT p.o q.o)))
 grind
def idT(T:List TM)(t:TM):Int:=if t.kind=4 then -1 else(noT T t:Nat)
def KnT(T:List TM)(t:TM):Prop:=t.kind=4\/t∈T\/t=zTM
theorem q8k(hr:RiseT T)(hk:∀t∈T,1<=t.kind){a b:TM}(ha:a∈T\/a=zTM)(H:b∈T\/b=zTM)(h:noT T a=noT T b):a=b:=by
 grind [List.mem_iff_getElem?,qkn,zTM,qfy]
theorem qaaz(hr:RiseT T)(hk:∀t∈T,1<=t.kind){P:Nat->Int}{p t:TM}(W:P k=idT T p)(ht:t∈T\/t=zTM)(U:KnT T p):agB P k (noT T t)=fitT p t:=by
 rw[agB,W,idT,fitT]
 by_cases H:p.kind=4
 ·simp_all
 ·rw[Ab H,AZ H,CW];have U:=U.resolve_left H
  grind [ql,q8k]
theorem q63(hr:RiseT T)(hk:∀t∈T,1<=t.kind){P:Nat->Int}{p:Q4}(H:∀k,k<4->P k=idT T (gat p k))(U:∀k,k<4->KnT T (gat p k)){q:Q4}(hi:qs[i]?=some q)(W:∀k,k<4->gat q k∈T\/gat q k=zTM):
  agF P (noQ T qs) i 0 4=fitQ p q:=by
 grind [qaaz,qlt,agF,qhs]
theorem qxt{p q:Q4}(H:k<4)(U:¬KnT T (gat p k))(W:∀k,k<4->gat q k∈T\/gat q k=zTM):fitQ p q=false:=by
 have h:fitT (gat p k) (gat q k)=false:=by
  grind [fitT,ql,KnT]
 grind [qlt]
def qal(p:Q4)(qs:List Q4):Do:=(List.range qs.length).filter λi=>match qs[i]? with
 | some q=>fitQ p q
 | none=>false
theorem qi5(hr:RiseT T)(hk:∀t∈T,1<=t.kind)(H:∀q∈qs,∀k,k<4->gat q k∈T\/gat q k=zTM){P:Nat->Int}{p:Q4}(U:∀k,k<4->P k=idT T (gat p k))(W:∀k,k<4->KnT T (gat p k)):
  maT P (noQ T qs) 0 0 qs.length=qal p qs:=by
 grind [maT,qal,List.filter_congr,q63]
theorem qzd(U:∀q∈qs,∀k,k<4->gat q k∈T\/gat q k=zTM){p:Q4}(H:k<4)(W:¬KnT T (gat p k)):qal p qs=[]:=by
 grind [qal,List.filter_eq_nil_iff,qxt]
theorem qux(p:Q4)(qs:List Q4):(qal p qs).filterMap (λi=>qs[i]?)=qs.filter (fitQ p):=by
 have H:∀n,n<=qs.length->((List.range n).filter λi=>match qs[i]? with
   | some q=>fitQ p q
   | none=>false).filterMap (λi=>qs[i]?)=(qs.take n).filter (fitQ p):=by
  intro n
  induction n<;>grind [List.range_succ,List.take_add_one]
 have:=H qs.length znr
 rwa[BB]at this
theorem qxm{a b:TM}(ha:qa2 a=0)(H:qa2 b=0)(hk:a.kind=b.kind)(h:qae a=qae b):a=b:=by
 rcases LtT.tri a b with g|g|g
 ·have:=qlq ha H hk g;rw[h]at this;exact absurd this (List.lt_irrefl _)
 ·exact g
 ·have:=qlq H ha hk.symm g;rw[h]at this;exact absurd this (List.lt_irrefl _)
open Classical in
noncomputable def idR(T:List TM)(t:TM):Di:=if t∈T\/t=zTM then .tuple #[ii (noT T t:Nat),.bool true]else .tuple #[ii 0,.bool false]
theorem q9s{t:TM}(Z:∀t∈T,qa2 t=0)(ht:qa2 t=0)(ek:t.kind=((k+1:Nat):Int))(hN:N<(secE T k).length)(hx:(⟨(tx (secE T k) N).toArray⟩:De)=⟨(qae t).toArray⟩):t∈T:=by
 have h1:tx (secE T k) N=qae t:=by
  have:=Ae (λb:De=>b.data.toList) hx
  simpa using this
 have U:(secE T k).length=(ofK T k).length:=by rw[qbq,AC]
 have hj:(ofK T k)[N]?=some ((ofK T k)[N]' Oo):=zge Oo;rw[tx,Ag,qbq,Ar,hj]at h1;have W:=AP (l:=ofK T k) (n:=N) Oo;have H:=(Bo.1 W).1;have:=qxm (Z _ H) ht (by rw[qfz W,ek]) h1;rw[<-this];exact H
theorem qt2(T:List TM)(h:VOk T)(hr:RiseT T)(hk:∀t∈T,1<=t.kind/\t.kind<=3)(he:∀t∈T,qa2 t=0)(b:Nat)(t:TM)(af:TermOk t)(w:Dd)(hV:VocAt w b (vocB T))(hM:MaxLenAt w)(hT:CellsAt w 4 0 qa3):
  Gv Dp 100 [pp b,qr t] w λr w'=>r=idR T t/\Ext w w':=by
 have aq:=hV.tot (k:=3) Od;refine ze Tryz.func100 Tryz.ntmps100 ?_;refine znm (Mem.nil w) ?_;intro tb w1 H;have H:Mem w w1 [(tb,.cells #[ii t.kind,.string t.text,.string t.type,.string t.lang] 45)]:=H;(conv=>whnf);refine zl H 0 ?_;refine RunV.eqTerm (a:=t) (b:=zTM) (.inl rfl) (zw ?_);cases hz:qx t zTM
 case true=>
  obtain rfl:=ql.1 hz;refine zu ?_;exact⟨by rw[idR,Af (.inr rfl),qfy rfl];rfl,H.ext⟩
 have ae:t≠zTM:=λe=>by rw[e,ql.2 rfl]at hz;cases hz
 refine zu ?_;refine zl H 0 ?_;have aa:=qer t af w1 (hM.ext H.ext) (hT.ext H.ext)
 by_cases tE:qa2 t=0
 case neg=>
  rw[Ab tE]at aa;refine zcv (aa) ?_;rintro r w2 ⟨rfl,ac⟩;have h0:¬((qa2 t:Nat):Int)=0:=by omega
  refine zu ?_;exact⟨by rw[idR,Ab (λh=>h.elim (λh=>tE (he t h)) ae)],(H.call ac).ext⟩
 rw[Af tE]at aa;refine zcv (aa) ?_;rintro r w2 ⟨rfl,ac⟩;have H:=H.call ac;refine zu ?_;have ar:=qk1 tE;obtain⟨k,W,ek⟩:∃k:Nat,k<3/\t.kind=((k+1:Nat):Int):=⟨(t.kind-1).toNat,by omega,by omega⟩
 obtain⟨d,hd,_⟩:=hV.cell;obtain⟨ag,ah,ai⟩:=hd k W;have aj:CellsAt w b (2*k) [.pointer (some ⟨d k,0,none⟩),ii (vTot (vocB T) k+1:Nat)]:=λj v hv=>by
  match j,hv with
  | 0,hv=>rw[<-hv];exact ag
  | 1,hv=>rw[<-hv];exact ah
 refine DrawV.gen (λS U w'=>Al w [(tb,.cells #[ii t.kind,.string t.text,.string t.type,.string t.lang] 45)] (.cells #[.pointer none,ii 0] 302) (.cells #[.pointer (some ⟨d k,0,none⟩),ii (vTot (vocB T) k+1:Nat)] 302) (.cells #[] 0) (.cells #[] 0) (S 8) false (S 9) false (U 8) undef w') rfl Jk (λU=>Al.start H.drew) ?_;clear H;(conv=>whnf);refine zg ?_;refine zg ?_;refine zLg ?_;rw[ek];(iterate 3 (refine zg ?_));refine StepG.of (.pointer (some ⟨b,2*k,none⟩)) (λS U wd hk hp Z=>zw ?_) (zw ?_)
 ·refine IdxV.at_ k Oo Oo (zw ?_);exact⟨Ae (λo=>Value.pointer (some ⟨b,o,none⟩)) (by rw[show tsz Dp 302=2 from by kernel_rfl];show 0+0+k*2=2*k;omega),Z⟩
 refine StepG.of (.agg #[.pointer (some ⟨d k,0,none⟩),ii (vTot (vocB T) k+1:Nat)]) (λS U wd hk hp Z=>zw ?_) (zw ?_)
 ·refine LoadA.cells (CellsAt.ext aj Z.mem.ext) (by rw[show tsz Dp 302=2 from by kernel_rfl];rfl) (zw ?_);exact⟨rfl,Z⟩
 refine StepG.any (λS U wd hk hp Z=>?_) (zw ?_)
 ·dsimp only at Z;rw[hk]at Z;(conv=>whnf);refine⟨λx wx hb hw=>?_⟩;subst hb hw;(conv=>whnf);exact⟨trivial,Z.new1⟩
 refine StepG.of undef (λS U wd hk hp Z=>?_) (zw ?_)
 ·dsimp only at Z;have h9:S 8=true:=hp 8 Od;rw[hk,h9]at Z;obtain⟨nb,hv,M,ak,al⟩:=Z.put1;rw[qbj hv];(conv=>whnf);refine zS ak 0 λwx am=>zw ?_;exact⟨rfl,by show Al _ _ _ _ _ _ (S 8) false true false _ _ _;rw[h9];exact al am rfl⟩
 intro U w5 Z;obtain⟨t8,an,H⟩:=Z.done1;rw[qbj an];clear Z;have H:Mem w w5 [(t8,.cells #[.pointer (some ⟨d k,0,none⟩),ii (vTot (vocB T) k+1:Nat)] 302),(tb,.cells #[ii (k+1:Nat),.string t.text,.string t.type,.string t.lang] 45)]:=H;(conv=>whnf);refine zr H 0 ?_;have ab:DictAt w5 (d k) (qj (secE T k)):=by
  have:=ai.ext H.ext
  rwa[h.sDict W]at this
 refine zcv (qsh (secE T k) (h.d k W) (d k) ⟨(qae t).toArray⟩ w5 ab) ?_;rintro r w6 ⟨⟨N,hN,rfl⟩,ad⟩
 by_cases hf:N<(secE T k).length/\(⟨(tx (secE T k) N).toArray⟩:De)=⟨(qae t).toArray⟩
 case neg=>
  have ao:t∉T:=λht=>by
   obtain⟨f1,f2,_⟩:=h.find hr hk W ht ek hN;exact hf ⟨f1,f2⟩
  rw[AZ hf];have H:=H.call ad;refine zu ?_;exact⟨by rw[idR,Ab (λh=>h.elim ao ae)],H.ext⟩
 have ht:t∈T:=q9s he tE ek hf.1 hf.2;obtain⟨f1,f2,f3⟩:=h.find hr hk W ht ek hN;rw[show decide (N<(secE T k).length/\(⟨(tx (secE T k) N).toArray⟩:De)=⟨(qae t).toArray⟩)=true from AI ⟨f1,f2⟩];have H:=H.call ad;have au:=(h.d k W).n;have av:=hV.tot (k:=k) Oo;refine zu ?_;refine zr H 0 ?_;refine zv ?_;refine zcv (qlo (d k) (qj (secE T k)) w6 (ab.ext ad)) ?_;rintro r w7 ⟨rfl,rfl⟩;rw[(h.d k W).eN];refine zu ?_;refine zr H 0 ?_;refine zv ?_;refine⟨?_,H.ext⟩;rw[idR,Af (.inl ht),f3];rfl
end Go.Proofs.YtccmcfpmknpccaaGreatDoor
