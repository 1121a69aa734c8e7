/- Lemmas and contracts of functions on the way to the law's card (part 13 of 20). -/
import Derived.Test.YtccmcfpmknpccaaGreatDoorSA12
namespace Go.Proofs.YtccmcfpmknpccaaGreatDoor
set_option maxHeartbeats 8000000
open Go.RowKit V
set_option maxHeartbeats 8000000
set_option maxRecDepth 100000
variable {w:DU} {a b hi i id j k lo off:Nat} {cs:Eh} {fr:Nat×Nat} {vs:Ee} {A:oA} {ahead l:LB} {T:List TM} {qs:List Q4}
def wkC(tb y:Nat)(P:Nat->Int)(s:WS):Ee:=[pp tb,ii (P 0),ii (P 1),ii (P 2),ii (P 3),ii (s.1 0),ii (s.1 1),ii (s.1 2),ii (s.1 3),ii (s.2 0),ii (s.2 1),ii (s.2 2),ii (s.2 3),.func (.yield y) #[] #[]]
def wkO(tb y:Nat)(P:Nat->Int)(s:WS):Obj:=.cells (wkC tb y P s).toArray 347
def mAgg(q:Nat->Nat):DZ:=.agg #[ii (q 0),ii (q 1),ii (q 2),ii (q 3)]
def mRow(r:Nat×(Nat->Nat)):Ee:=[ii r.1,mAgg r.2]
section
variable {tb y:Nat} {P:Nat->Int} {s:WS} {k:Nat}
theorem qakw(hk:k<4):(wkC tb y P s).toArray[1+k]?=some (ii (P k)):=by
 match k,hk with
 | 0,_=>rfl
 | 1,_=>rfl
 | 2,_=>rfl
 | 3,_=>rfl
theorem qaie(hk:k<4):(wkC tb y P s).toArray[5+k]?=some (ii (s.1 k)):=by
 match k,hk with
 | 0,_=>rfl
 | 1,_=>rfl
 | 2,_=>rfl
 | 3,_=>rfl
theorem qaif(hk:k<4)(v:Nat):(wkC tb y P s).toArray.setIfInBounds (5+k) (ii v)=(wkC tb y P (updN s.1 k v,s.2)).toArray:=by
 match k,hk with
 | 0,_=>rfl
 | 1,_=>rfl
 | 2,_=>rfl
 | 3,_=>rfl
theorem qaig(hk:k<4)(v:Nat):(wkC tb y P s).toArray.setIfInBounds (9+k) (ii v)=(wkC tb y P (s.1,updN s.2 k v)).toArray:=by
 match k,hk with
 | 0,_=>rfl
 | 1,_=>rfl
 | 2,_=>rfl
 | 3,_=>rfl
end
theorem V.LoadA.part{H:Nat}{t:DX}{K:Ee->Prop}(h:w.heap[b]?=some (.cells cs t fr))(U:vs.length=H)(W:∀i,i<H->cs[off+i]?=vs[i]?)(hk:K vs):LoadA w b off H K:=
 ⟨vs,U,λj Z=>by rw[qa h];exact W j Z,hk⟩
def RowsAt(xs:List Ee)(j:Nat)(R:List (Nat×(Nat->Nat))):Prop:=∀t row,R[t]?=some row->xs[j+t]?=some (mRow row)
theorem RowsAt.left{xs:List Ee}{R S:List (Nat×(Nat->Nat))}(h:RowsAt xs j (R++S)):RowsAt xs j R:=λt row ht=>h t row (by rw[Ba (Af.1 ht).1];exact ht)
theorem RowsAt.right{xs:List Ee}{R S:List (Nat×(Nat->Nat))}(h:RowsAt xs j (R++S)):RowsAt xs (j+R.length) S:=λt row ht=>by
 rw[C7];exact h _ row (by rw[Be Oo,BJ];exact ht)
def PastOk(s:WS):Prop:=∀k,k<4->s.1 k<=1048576
theorem PastOk.upd{s:WS}(h:PastOk s){v:Nat}(H:v<=1048576):PastOk (updN s.1 k v,s.2):=λi hi=>by
 show updN s.1 k v i<=_;unfold updN
 split
 ·exact H
 ·exact h i hi
theorem qx2{f:Nat->WS->WR}(H:∀i s,PastOk s->PastOk (f i s).2):∀m i s,PastOk s->PastOk (goL f m i s).2
 | 0,_,_,h=>h
 | m+1,i,s,h=>qx2 H m (i+1) _ (H i s h)
theorem qyi{T:LvD}(hN:∀k,k<4->T.N k<=1048576){P:Nat->Int}{f:Nat->WS->WR}(hk:k<4)(H:∀i s,PastOk s->PastOk (f i s).2){s:WS}(h:PastOk s):PastOk (lvS T P f k lo hi s).2:=by
 rw[lvS]
 split
 ·exact h
 ·refine qx2 (f:=λi s=>f i (s.1,updN s.2 k (T.nu k i))) (λi s U=>H i _ U) _ _ _ (h.upd ?_);have:=hN k hk;omega
theorem qqg{T:LvD}(hN:∀k,k<4->T.N k<=1048576){P:Nat->Int}:∀{d k lo hi:Nat} {s:WS},k+d=3->PastOk s->PastOk (lvG T P d k lo hi s).2
 | 0,k,lo,hi,s,hk,h=>qyi hN Oo (λ_ _ h=>h) h
 | d+1,k,lo,hi,s,hk,h=>qyi hN Oo (λi s h=>qqg hN Oo h) h
section
variable (tb wb y:Nat) (l:LB) (P:Nat->Int) (xs:List Ee) (I Ix:Nat->Ed->Ec)
theorem q4v(cI:∀k,Carr (I k))(_:∀k,Carr (Ix k))(ae:∀k X w,I k X w->TreeAt w tb l)(aw:∀k,k<3->tVec l (k+1)=true->vM (qe l (k+1))<=vN (qe l (k+1)))(hP:∀k,k<4->InR .i64 (P k))(hy:∀k x X w,xs[k]?=some x->I k X w->YieldV Eg y x w λv w'=>(v=.bool true/\I (k+1) X w')\/(v=.bool false/\Ix k X w')):
  ∀(d k lo hi j:Nat) (s:WS) (X:Ed) (w:DU),k+d=3->lo<=1048576->hi<=1048576->PastOk s->RowsAt xs j (lvG (treD l) P d k lo hi s).1->I j ((wb,wkO tb y P s)::X) w->
  Gv Eg 207 [pp wb,ii k,ii lo,ii hi] w λr w'=>
   (r=.bool true/\I (j+(lvG (treD l) P d k lo hi s).1.length) ((wb,wkO tb y P (lvG (treD l) P d k lo hi s).2)::X) w')\/
   (r=.bool false/\∃j' s',j'<j+(lvG (treD l) P d k lo hi s).1.length/\Ix j' ((wb,wkO tb y P s')::X) w'):=by
 have t1:tsz Eg 3=1:=by kernel_rfl
 have t8:tsz Eg 244=8:=by kernel_rfl
 intro d
 induction d using Nat.strongRecOn with
 | _ d ih=>
 intro k lo hi j s X w bn bo bp ax hR H;obtain⟨F,eF,ay,az⟩:∃F:Nat->WS->WR,lvG (treD l) P d k lo hi s=lvS (treD l) P F k lo hi s/\(d=0->∀i s,F i s=([(i,s.2)],s))/\(∀d',d=d'+1->∀i s,F i s=lvG (treD l) P d' (k+1) (chB l k i).1 (chB l k i).2 s):=by
  cases d with
  | zero=>exact⟨_,rfl,λ_ _ _=>rfl,λ_ h=>by cases h⟩
  | succ d=>exact⟨_,rfl,λh=>by(cases h),λd' h i s=>by cases h;rfl⟩
 rw[eF]at hR|-;clear eF;have hk:k<4:=by omega
 have hn:=(ae _ _ _ H).n k hk;have ai:=(ae _ _ _ H).wd k hk;have bq:∀i s,PastOk s->PastOk (F i s).2:=λi s hs=>by
  cases d with
  | zero=>rw[ay rfl];exact hs
  | succ d=>rw[az d rfl];exact qqg (T:=treD l) (λk hk=>(ae _ _ _ H).n k hk) Oo hs
 have br:=ax k hk;unfold lvS at hR|-;obtain⟨a,ea⟩:∃a,a=max lo (s.1 k):=⟨_,rfl⟩
 obtain⟨b,eb⟩:∃b,b=min hi ((treD l).N k):=⟨_,rfl⟩
 have bt:b=min hi (vNum l k):=eb;rw[<-ea,<-eb]at hR|-;have a0:=λX w (h:I j X w)=>((ae _ _ _ h).lv k hk).h
 refine gvW Jk Tryz.func207 rfl Tryz.ntmps207 rfl (zw ?_);refine LoadV.own ((cI _).get H mh) rfl (zw ?_);refine IdxV.at_ k rfl hk (zw ?_);refine DrawW.any Jk (.inl rfl) (AnyV.free Jk ?_);(conv=>whnf);(iterate 5 (refine zd ?_));refine zsd (.pointer (some ⟨wb,5+k,none⟩)) (λwd hd=>zw ?_) (zw ?_)
 ·refine IdxV.at_ k rfl hk (zw ?_);exact⟨xr,Ae (λo=>Value.pointer (some ⟨wb,o,none⟩)) (by rw[t1];show 0+5+k*1=5+k;omega)⟩
 refine zsd (ii (s.1 k:Nat)) (λwd hd=>zw ?_) (zw ?_)
 ·refine LoadV.own (Ext.get (Ext.trans (Ext.drew xr) hd) ((cI _).get H mh)) (qaie hk) (zw ?_);exact xq
 refine zsd (ii (a:Nat)) (λwd hd=>zw ?_) (zw ?_)
 ·refine V.Fall.max2 rfl rfl rfl λm hm=>?_;exact⟨xr,Ae (Value.int .i64) Oo⟩
 (iterate 4 (refine zd ?_));refine zsd (ii (vNum l k:Nat)) (λwd hd=>zw ?_) (zw ?_)
 ·obtain⟨PP,cp,S,cs,VV,hc,_⟩:=a0 _ _ H;refine LoadV.cellsE (hc.ext (Ext.trans (Ext.drew xr) hd)) 0 (by rw[t8];show 0+0+k*8+0=8*k+0;omega) rfl (zw ?_);exact xq
 refine zsd (ii (b:Nat)) (λwd hd=>zw ?_) (zw ?_)
 ·refine V.Fall.min2 rfl rfl rfl λm hm=>?_;exact⟨xr,Ae (Value.int .i64) Oo⟩
 refine zd ?_;refine zd ?_;intro w1 ba;replace H:=(cI j).ext H (Ext.trans (Ext.drew xr) ba);(conv=>whnf);refine zC (λ_=>zu ?_) (λ_=>zu ?_)
 ·refine .inl ⟨rfl,?_⟩;rw[Ad Oo];exact H
 rw[Aa Oo]at hR|-;refine StoreV.carr (cI j) (A:=[]) H (by rw[t1];show 0+5+k*1<14;omega) rfl ?_;clear H;intro w2 H;have H:I j ((wb,.cells ((wkC tb y P s).toArray.setIfInBounds (0+5+k*tsz Eg 3) (ii (b:Nat))) 347)::X) w2:=H;rw[t1,show 0+5+k*1=5+k by omega,qaif hk]at H;have H:I j ((wb,wkO tb y P (updN s.1 k b,s.2))::X) w2:=H;have af:PastOk (updN s.1 k b,s.2):=ax.upd Oo;obtain⟨s1,a1⟩:∃s1:WS,s1=(updN s.1 k b,s.2):=⟨_,rfl⟩
 rw[<-a1]at H af hR|-;refine zu ?_;have a2:(wkC tb y P s1).toArray[0+1+k*tsz Eg 3]?=some (ii (P k)):=by
  rw[t1,show 0+1+k*1=1+k by omega];exact qakw hk
 refine LoadV.own ((cI j).get H mh) a2 ?_;have bu:=hP k hk;have ad:0+0+k*tsz Eg 244=8*k:=by rw[t8];omega
 (conv=>whnf);refine zC (λ_=>zw ?_) (λ_=>zw ?_)
 case' refine_1=>
  obtain⟨PP,cp,S,cs,VV,hc,ag,_⟩:=a0 _ _ H;have h1:w2.cell? ⟨tb,(0+0+k*tsz Eg 244)+1,none⟩=some (ii (tw l k:Nat)):=by rw[ad];exact hc 1 _ rfl
  have h5:w2.cell? ⟨tb,(0+0+k*tsz Eg 244)+5,none⟩=some (.slice PP (qg l k).length cp):=by rw[ad];exact hc 5 _ rfl
  refine zcv (qho tb _ a b (tw l k) cp (P k) PP (qg l k) w2 h1 h5 ag ai Oo Oo) ?_;rintro r w3 ⟨rfl,aa⟩;replace H:=(cI j).ext H aa;have al:=(treD l).sr_le k (P k) (show a<=b by omega);obtain⟨e,ee⟩:∃e,e=(treD l).sr k a b (P k):=⟨_,rfl⟩
  have ev:(a+bsr (λi=>decide (P k<=(numP (qg l k) (tw l k) (a+i):Int))) (b-a) 0 (b-a))=e:=ee.symm;rw[ev];rw[<-ee]at al
  rcases Dj al.2 with a3|a3
  case inl=>
   refine zu ?_;refine .inl ⟨rfl,?_⟩;have hw:(treD l).win P k a b=(e,e):=by rw[LvD.win,Aa Oo,Aa (by rw[<-ee];omega),<-ee]
   rw[hw,BU];exact H
  have a4:(treD l).nu k e=numP (qg l k) (tw l k) e:=rfl
  rcases BW (((numP (qg l k) (tw l k) e:Nat):Int)=P k)with am|am
  case inr=>
   refine zu ?_;refine zcv (qci tb _ e (tw l k) cp PP (qg l k) w3 (aa.cell h1) (aa.cell h5) (ag.ext aa) ai Oo) ?_;rintro r w4 ⟨rfl,an⟩;replace H:=(cI j).ext H an;refine zu ?_;refine .inl ⟨rfl,?_⟩;have hw:(treD l).win P k a b=(e,e):=by rw[LvD.win,Aa Oo,Aa (by rw[<-ee,a4];exact λg=>am g.2),<-ee]
   rw[hw,BU];exact H
  refine zu ?_;refine zcv (qci tb _ e (tw l k) cp PP (qg l k) w3 (aa.cell h1) (aa.cell h5) (ag.ext aa) ai Oo) ?_;rintro r w4 ⟨rfl,an⟩;replace H:=(cI j).ext H an;refine zu ?_;have hw:(treD l).win P k a b=(e,e+1):=by rw[LvD.win,Aa Oo,Ad (by rw[<-ee,a4];exact⟨a3,am⟩),<-ee]
  obtain⟨u,eu⟩:∃u,u=e+1:=⟨_,rfl⟩
  have bb:(e:Int)+1=(u:Int):=by omega
  rw[hw,<-eu]at hR|-;rw[bb];have be:a<=e:=al.1;have a5:e<=u:=by omega
  have bf:u<=b:=by omega
  obtain⟨w5,aj⟩:∃w5,w5=w4:=⟨_,rfl⟩
  rw[<-aj]at H|-
 case' refine_2=>
  have hw:(treD l).win P k a b=(a,b):=by rw[LvD.win,Ad Oo]
  rw[hw]at hR|-;obtain⟨e,ee⟩:∃e,e=a:=⟨_,rfl⟩
  obtain⟨u,eu⟩:∃u,u=b:=⟨_,rfl⟩
  have be:a<=e:=by omega
  have a5:e<=u:=by omega
  have bf:u<=b:=by omega
  rw[<-eu]at hR|-;rw[<-ee]at hR|-;obtain⟨w5,aj⟩:∃w5,w5=w2:=⟨_,rfl⟩
  rw[<-aj]at H|-
 all_goals
  clear aj a1;obtain⟨FF,a6⟩:∃FF:Nat->WS->WR,FF=λi s=>F i (s.1,updN s.2 k ((treD l).nu k i)):=⟨_,rfl⟩
  rw[<-a6]at hR|-;obtain⟨G,eG⟩:∃G:WR,G=goL FF (u-e) e s1:=⟨_,rfl⟩
  rw[<-eG]at hR|-;refine q95 (λx:Nat×WS×Nat=>[(0,pp wb),(1,ii k),(3,ii u),(9,.pointer (some ⟨tb,0+0+k*tsz Eg 244,none⟩)),(11,ii x.1)])
   (λx w'=>e<=x.1/\x.1<=u/\PastOk x.2.1/\RowsAt xs x.2.2 (goL FF (u-x.1) x.1 x.2.1).1/\(goL FF (u-x.1) x.1 x.2.1).2=G.2/\x.2.2+(goL FF (u-x.1) x.1 x.2.1).1.length=j+G.1.length/\I x.2.2 ((wb,wkO tb y P x.2.1)::X) w') (λx=>u-x.1) (e,s1,j)
   fq ⟨Ai _,a5,af,by rw[eG]at hR;exact hR,by rw[eG],by rw[eG],H⟩ ?_
  clear H hR eG af;rintro⟨i,t,jj⟩ w6 bv ⟨i1,i2,a7,Z,W,U,H⟩;dsimp only at i1 i2 a7 Z W U H|-;conv=>whnf
  (repeat' refine zC (λ_=>zw ?_) (λ_=>zw ?_))
  case' refine_2=>
   obtain rfl:i=u:=by omega
   rw[BU]at W U;have W:t=G.2:=W;have U:jj+0=j+G.1.length:=U;rw[BB]at U;rw[<-U,<-W];exact .inl ⟨rfl,H⟩
  have bw:i<u:=by omega
  have a8:u-i=(u-(i+1))+1:=by omega
  obtain⟨t2,ao⟩:∃t2:WS,t2=(t.1,updN t.2 k ((treD l).nu k i)):=⟨_,rfl⟩
  have bg:FF i t=F i t2:=by rw[a6,ao]
  rw[a8,goL,bg]at Z W U;dsimp only at Z W U;have ah:PastOk t2:=by rw[ao];exact a7
  refine DrawW.tail 8 Jk Jk (.inl rfl) (AnyV.free Jk ?_);(conv=>whnf);(iterate 4 (refine zd ?_));refine zsd (ii (numP (qg l k) (tw l k) i:Nat)) (λwd hd=>zw ?_) (zw ?_)
  ·have bh:=(cI jj).ext H (Ext.trans (Ext.drew xr) hd);obtain⟨PP,cp,S,cs,VV,hc,ag,_⟩:=((ae _ _ _ bh).lv k hk).h;have h1:wd.cell? ⟨tb,(0+0+k*tsz Eg 244)+1,none⟩=some (ii (tw l k:Nat)):=by rw[ad];exact hc 1 _ rfl
   have h5:wd.cell? ⟨tb,(0+0+k*tsz Eg 244)+5,none⟩=some (.slice PP (qg l k).length cp):=by rw[ad];exact hc 5 _ rfl
   refine zcv (qci tb _ i (tw l k) cp PP (qg l k) wd h1 h5 ag ai Oo) ?_;rintro r w7 ⟨rfl,aq⟩;exact⟨aq,rfl⟩
  refine zd ?_;refine zd ?_;refine zsd (.pointer (some ⟨wb,9+k,none⟩)) (λwd hd=>zw ?_) (zw ?_)
  ·refine IdxV.at_ k rfl hk (zw ?_);exact⟨xr,Ae (λo=>Value.pointer (some ⟨wb,o,none⟩)) (by rw[t1];show 0+9+k*1=9+k;omega)⟩
  intro w7 aq;replace H:=(cI jj).ext H (Ext.trans (Ext.drew xr) aq);(conv=>whnf);refine StoreV.carr (cI jj) (A:=[]) H (by show 9+k<14;omega) rfl ?_;clear H;intro w8 H;have H:I jj ((wb,.cells ((wkC tb y P t).toArray.setIfInBounds (9+k) (ii (numP (qg l k) (tw l k) i:Nat))) 347)::X) w8:=H;rw[qaig hk]at H;have H:I jj ((wb,wkO tb y P t2)::X) w8:=by rw[ao];exact H
  (conv=>whnf)
  rcases B9 d with a9|a9
  case inl=>
   have ar:k=3:=by omega
   rw[ay a9]at Z W U;dsimp only at Z W U;refine zu ?_;refine DrawW.tail 9 Jk Jk (.inl rfl) (AnyV.free Jk ?_);(conv=>whnf);(iterate 3 (refine zd ?_));refine zf ?_ (by intro wd hd;(conv=>whnf);refine LoadV.own (Ext.get (Ext.trans (Ext.drew xr) hd) ((cI jj).get H mh)) rfl ?_;(conv=>whnf);exact xq);(iterate 4 (refine zd ?_));refine zsd (mAgg t2.2) (λwd hd=>zw ?_) (zw ?_)
   ·refine V.LoadA.part (vs:=[ii (t2.2 0),ii (t2.2 1),ii (t2.2 2),ii (t2.2 3)]) (Ext.get (Ext.trans (Ext.drew xr) hd) ((cI jj).get H mh)) rfl (λi hi=>?_) ?_
    ·match i,hi with
     | 0,_=>rfl
     | 1,_=>rfl
     | 2,_=>rfl
     | 3,_=>rfl
    (conv=>whnf);exact xq
   intro w9 au;replace H:=(cI jj).ext H (Ext.trans (Ext.drew xr) au);(conv=>whnf);refine YieldV.mono (hy jj (mRow (i,t2.2)) _ w9 (Z 0 (i,t2.2) rfl) H) ?_;clear H;rintro v bi (⟨rfl,H⟩|⟨rfl,hX⟩)
   ·refine zu ?_;refine⟨rfl,(i+1,t2,jj+1),⟨rfl,rfl,rfl,rfl,Ae (Value.int .i64) (by show(i:Int)+1=((i+1:Nat):Int);omega),trivial⟩,⟨by dsimp only;omega,by dsimp only;omega,ah,Z.right,W,?_,H⟩,by dsimp only;omega⟩;rw[<-U,zla,BC];dsimp only;omega
   ·refine zu ?_;exact .inr ⟨rfl,jj,t2,by rw[<-U,zla,BC];omega,hX⟩
  obtain⟨d',rfl⟩:∃d',d=d'+1:=⟨d-1,by omega⟩
  have ar:k+1<4:=by omega
  rw[az d' rfl]at Z W U;refine zu ?_;refine LoadV.own ((cI jj).get H mh) rfl (zw ?_);have av:=ae _ _ _ H;have ak:=qxl (l:=l) (k:=k) (i:=i) (λk=>by
   by_cases bj:k<4
   ·exact .inl (av.n k bj)
   ·exact .inr Oo) ar (aw k Oo)
  refine zcv (qdd tb l k i w8 av ar Oo (aw k Oo)) ?_;rintro r w9 ⟨rfl,au⟩;replace H:=(cI jj).ext H au;obtain⟨c1,bk⟩:∃c1,c1=(chB l k i).1:=⟨_,rfl⟩
  obtain⟨c2,bl⟩:∃c2,c2=(chB l k i).2:=⟨_,rfl⟩
  rw[<-bk]at ak Z W U|-;rw[<-bl]at ak Z W U|-;refine zu ?_;rw[show(k:Int)+1=((k+1:Nat):Int)by omega];refine zcv (ih d' (CK d') (k+1) c1 c2 jj t2 X w9 Oo ak.1 ak.2 ah Z.left H) ?_;clear H;rintro r bi (⟨rfl,H⟩|⟨rfl,j',s',bz,hX⟩)
  ·refine zu ?_;refine⟨rfl,(i+1,(lvG (treD l) P d' (k+1) c1 c2 t2).2,jj+(lvG (treD l) P d' (k+1) c1 c2 t2).1.length),⟨rfl,rfl,rfl,rfl,Ae (Value.int .i64) (by show(i:Int)+1=((i+1:Nat):Int);omega),trivial⟩,⟨by dsimp only;omega,by dsimp only;omega,qqg (T:=treD l) (λk hk=>av.n k hk) Oo ah,Z.right,W,?_,H⟩,by dsimp only;omega⟩;rw[<-U,zla];dsimp only;omega
  ·refine zu ?_;exact .inr ⟨rfl,j',s',by rw[<-U,zla];omega,hX⟩
end
def hi8(x t:Nat):Nat:=x/2 ^ t*2 ^ t
def qaii(w:DU)(x:Nat):Prop:=(∀off k c,w.cell? ⟨x,off,none⟩≠some (.int k c))/\∀cs t H,w.heap[x]?=some (.cells cs t H)->t≠395/\t≠305/\t≠381/\t≠241
section
variable {w w':DU} {x:Nat} (ha:qaii w x) (hw:∀c,c≠x->w'.heap[c]?=w.heap[c]?)
include ha hw
theorem qo6{k:IntKind}{c:Int}(h:CellsAt w b off (.int k c::vs)):CellsAt w' b off (.int k c::vs):=by
 refine CellsAt.other h (x:=x) (λe=>?_) hw;subst e;exact ha.1 _ _ _ (h 0 _ rfl)
theorem qdb(h:SlAt encB 1 w A l):SlAt encB 1 w' A l:=by
 refine⟨λH=>?_⟩;obtain⟨b,off,h1,h2⟩:=h.at_ H;exact⟨b,off,h1,λj y U=>qo6 ha hw (h2 j y U)⟩
theorem DictAt.alien{m:LB}(h:DictAt w b m):DictAt w' b m:=by
 obtain⟨⟨P,H,E,U,h1,h2,h3,W⟩,Z,h6,h7,h8⟩:=h;have hb:b≠x:=λe=>by subst e;exact(ha.2 _ _ _ h1).1 rfl
 exact⟨⟨P,H,E,U,by rw[hw b hb];exact h1,qdb ha hw h2,qdb ha hw h3,W⟩,Z,h6,h7,h8⟩
theorem VocAt.alien(h:VocAt w b l):VocAt w' b l:=by
 obtain⟨d,h1,h2⟩:=h;have H:b≠x:=λe=>by subst e;exact(ha.2 _ _ _ h1).2.1 rfl
 exact⟨d,by rw[hw b H];exact h1,λk hk=>(h2 k hk).alien ha hw⟩
theorem VecP.alien{V s:DZ}(h:VecP w V s l k):VecP w' V s l k:=by
 rcases h with h|⟨h1,h2,H,h3,U⟩
 ·exact .inl h
 ·have W:H≠x:=λe=>by subst e;exact(ha.2 _ _ _ U).2.2.1 rfl
  exact .inr ⟨h1,h2,H,h3,by rw[hw H W];exact U⟩
theorem TreeAt.alien(h:TreeAt w b l):TreeAt w' b l:=by
 refine⟨λk hk=>?_,h.n,h.wd⟩;obtain⟨P,H,S,cs,V,h1,h2,h3,U,W⟩:=h.lv k hk;exact⟨P,H,S,cs,V,qo6 ha hw h1,qdb ha hw h2,qdb ha hw h3,U,W.alien ha hw⟩
end
namespace V
end V
def inf4(l:LB):DZ:=.agg #[ii (hN l 2),ii (hN l 3),ii (hN l 4),ii (hN l 5)]
theorem qvj(b:Nat)(l:LB)(w:DU)(h:PackAt w b l):Gv Eg 73 [pp b] w λv w'=>(∃H,v=pp H/\VocAt w H (qh l))/\w'=w:=by
 obtain⟨H,tb,h1,h2,h3⟩:=h;refine ze Tryz.func73 Tryz.ntmps73 ?_;refine LoadV.own h1 rfl (zw ?_);exact⟨⟨H,rfl,h2⟩,rfl⟩
theorem qab0{t:TM}(h:qcl l id=some t):TermOk t:=by
 unfold qcl at h
 split at h
 ·cases h;exact⟨(show InR .i64 0 from⟨by decide,by decide⟩),Ag _,Ag _,Ag _⟩
 ·split at h
  ·cases h
  ·split at h
   ·rename_i s H
    have h3:qce l id<3:=by unfold qce;split<;>(try split)<;>omega
    exact qaay h (qku H) ⟨by omega,by omega⟩
   ·cases h
theorem qalg(l:LB)(q:Nat->Nat)(j:Nat):TermOk (uT l q j):=by
 unfold uT;cases h:qcl l (q j)with
 | none=>exact⟨(show InR .i64 0 from⟨by decide,by decide⟩),Ag _,Ag _,Ag _⟩
 | some t=>exact qab0 h
theorem qag0(l:LB)(q:Nat->Nat):qa5 (q4Of l q):=by
 intro k;unfold q4Of Q4.at
 split<;>exact qalg _ _ _
def qIds(l:LB)(i:Nat):Nat->Nat:=λk=>tNum (qj l) i k
def PqOk(l:LB)(i:Nat):Prop:=(i<vNum (qj l) 3/\tOk (qj l) i=true)/\(∀j,j<4->qcl (qh l) (qIds l i j)≠none)/\qbo (q4Of (qh l) (qIds l i))=0
open Classical in
noncomputable def qf5(l:LB)(i:Nat):DZ:=if PqOk l i then .tuple #[qy (q4Of (qh l) (qIds l i)),.bool true]else .tuple #[qy zQ,.bool false]
theorem qs7(b:Nat)(l:LB)(i:Nat)(w:DU)(h:PackAt w b l)(hi:i<=1048576)(hM:MaxLenAt w)(hT:CellsAt w 4 0 qcb)(hK:qlg w):
  Gv Eg 76 [pp b,ii i] w λv w'=>v=qf5 l i/\Ext w w':=by
 obtain⟨vb,tb,h1,h2,h3⟩:=h;have ae:=h3.wd;refine ze Tryz.func76 Tryz.ntmps76 ?_;refine znm (Mem.nil w) ?_;intro r4 w1 H;refine LoadV.own (H.ext.get h1) rfl (zw ?_);refine zcv (qabs tb (qj l) i w1 (h3.ext H.ext) hi) ?_;rintro v w2 ⟨rfl,af⟩;have H:=H.call af
 by_cases aa:i<vNum (qj l) 3/\tOk (qj l) i=true
 case neg=>
  have hv:qf5 l i=.tuple #[qy zQ,.bool false]:=by rw[qf5,Aa (λhx=>aa hx.1)]
  rw[hv,qrc,Aa aa];unfold zq;refine znm H ?_;intro t6 w3 H;refine zS H 0 λw4 H=>zu ?_;refine zS H 1 ?_;intro w5 H;refine qi (R:=λv w'=>v=.tuple #[qy zQ,.bool false]/\Ext w w') ?_;refine zl H 1 ?_;exact⟨rfl,H.ext⟩
 rw[qrc,Ad aa];refine znm H ?_;intro t6 w3 H;refine zS H 0 ?_;intro w4 H;have H:Mem w w4 [(t6,.cells #[ii (qIds l i 0:Nat),ii (qIds l i 1:Nat),ii (qIds l i 2:Nat),ii (qIds l i 3:Nat)] 95),(r4,.cells (qf zQ).toArray 47)]:=H;have ag:∀j,j<4->qIds l i j<=16777216:=λj hj=>by
  have h1:=qage (qg (qj l) j) (tw (qj l) j) (tUp (qj l) i (3-j));have h2:2 ^ tw (qj l) j<=2 ^ 23:=AY Od (ae j hj);have h3:(2:Nat) ^ 23=8388608:=by decide
  show tNum (qj l) i j<=_;unfold tNum;omega
 refine zu ?_;obtain⟨u,ok,ah,ad⟩:∃u ok,qkg (qh l) (qIds l i)=.tuple #[qy u,.bool ok]/\qa5 u/\((ok=true/\u=q4Of (qh l) (qIds l i)/\∀j,j<4->qcl (qh l) (qIds l i j)≠none)\/(ok=false/\¬ ∀j,j<4->qcl (qh l) (qIds l i j)≠none)):=by
  by_cases U:∀j,j<4->qcl (qh l) (qIds l i j)≠none
  ·exact⟨_,true,by rw[qkg,Ad U],qag0 _ _,.inl ⟨rfl,rfl,U⟩⟩
  ·refine⟨zQ,false,by rw[qkg,Aa U],?_,.inr ⟨rfl,U⟩⟩;intro k;unfold zQ Q4.at
   split<;>exact⟨(show InR .i64 0 from⟨by decide,by decide⟩),Ag _,Ag _,Ag _⟩
 obtain⟨ai,ad⟩:=ad;refine DrawV.gen (λS W w'=>Al w [(t6,.cells #[ii (qIds l i 0:Nat),ii (qIds l i 1:Nat),ii (qIds l i 2:Nat),ii (qIds l i 3:Nat)] 95),(r4,.cells (qf zQ).toArray 47)] (.cells (qf zQ).toArray 47) (.cells (qf u).toArray 47) (.cells #[] 0) (.cells #[] 0) (S 9) false (S 10) false (W 9) undef w') rfl Jk (λW=>Al.start H.drew) ?_;clear H;(conv=>whnf);(iterate 3 (refine zg ?_));refine StepG.of (pp vb) (λS W wd hk hp Z=>zw ?_) ?_
 ·refine LoadV.own (Z.mem.ext.get h1) rfl (zw ?_);exact⟨rfl,Z⟩
 refine StepG.of (idsV (qIds l i)) (λS W wd hk hp Z=>zw ?_) ?_
 ·refine zl Z.mem 0 ?_;exact⟨rfl,Z⟩
 refine StepG.of (.tuple #[qy u,.bool ok]) (λS W wd hk hp Z=>zw ?_) (zw ?_)
 ·refine zcv (q7r vb (qh l) (qIds l i) wd (h2.ext Z.mem.ext) ag (hM.ext Z.mem.ext) (hT.ext Z.mem.ext) (CellsAt.ext hK Z.mem.ext)) ?_;rintro v w5 ⟨rfl,he⟩;exact⟨ah,Z.call he⟩
 (iterate 3 (refine zg ?_));refine StepG.any (λS W wd hk hp Z=>?_) ?_
 ·dsimp only at Z;rw[hk]at Z;(conv=>whnf);refine⟨λx wx hb hw=>?_⟩;subst hb hw;(conv=>whnf);exact⟨trivial,Z.new1⟩
 refine StepG.of undef (λS W wd hk hp Z=>?_) (zw ?_)
 ·dsimp only at Z;have h9:S 9=true:=hp 9 Od;rw[hk,h9]at Z;obtain⟨nb,hv,M,aj,ak⟩:=Z.put1;rw[qp hv];refine zS aj 0 λwx al=>zw ?_;exact⟨rfl,by show Al _ _ _ _ _ _ (S 9) false true false _ _ _;rw[h9];exact ak al rfl⟩
 refine zg ?_;intro W w5 Z;obtain⟨t8,am,H⟩:=Z.done1;rw[qp am];clear Z;have H:Mem w w5 [(t8,.cells (qf u).toArray 47),(t6,.cells #[ii (qIds l i 0:Nat),ii (qIds l i 1:Nat),ii (qIds l i 2:Nat),ii (qIds l i 3:Nat)] 95),(r4,.cells (qf zQ).toArray 47)]:=H;conv=>whnf
 rcases ad with⟨rfl,rfl,U⟩|⟨rfl,U⟩
 ·refine zv ?_;refine zl H 0 ?_;refine zv ?_;refine zcv (qhz (q4Of (qh l) (qIds l i)) ai w5 (hM.ext H.ext) (hT.ext H.ext)) ?_;rintro v w6 ⟨rfl,an⟩;have H:=H.call an;conv=>whnf
  by_cases hz:qbo (q4Of (qh l) (qIds l i))=0
  ·have hv:qf5 l i=.tuple #[qy (q4Of (qh l) (qIds l i)),.bool true]:=by rw[qf5,Ad ⟨aa,U,hz⟩]
   rw[hv];refine zv ?_;refine zL H 0 ?_;refine zS H 2 ?_;intro w7 H;refine qi (R:=λv w'=>v=.tuple #[qy (q4Of (qh l) (qIds l i)),.bool true]/\Ext w w') ?_;refine zl H 2 ?_;exact⟨rfl,H.ext⟩
  ·have hv:qf5 l i=.tuple #[qy zQ,.bool false]:=by rw[qf5,Aa (λhx=>hz hx.2.2)]
   rw[hv];refine zv ?_;refine zS H 2 ?_;intro w7 H;refine qi (R:=λv w'=>v=.tuple #[qy zQ,.bool false]/\Ext w w') ?_;refine zl H 2 ?_;exact⟨rfl,H.ext⟩
 ·have hv:qf5 l i=.tuple #[qy zQ,.bool false]:=by rw[qf5,Aa (λhx=>U hx.2.1)]
  rw[hv];refine zv ?_;refine zS H 2 ?_;intro w7 H;refine qi (R:=λv w'=>v=.tuple #[qy zQ,.bool false]/\Ext w w') ?_;refine zl H 2 ?_;exact⟨rfl,H.ext⟩
namespace V
theorem LoadA.own{H:Nat}{t:DX}{K:Ee->Prop}(h:w.heap[b]?=some (.cells cs t fr))(U:cs.toList.length=H)(hk:K cs.toList):LoadA w b 0 H K:=
 ⟨cs.toList,U,λj _=>by rw[qa h,As];simp,hk⟩
end V
def h24(nq nt H U:Nat):LB:=fixL 1095914324 4++(fixL 1 4++(fixL nq 4++(fixL nt 4++(fixL H 4++fixL U 4))))
def sumL(p:LB):LB:=fixL (crcL p).toNat 4
def qc6(nq nt:Nat)(V T:LB):LB:=
 h24 nq nt V.length T.length++(sumL (h24 nq nt V.length T.length)++(V++(sumL V++(T++sumL T))))
theorem ql1(a b c d:Nat):(h24 a b c d).length=24:=by rfl
theorem qfc(p:LB):(sumL p).length=4:=qt _ _
theorem qwa(p:LB):leN (sumL p)=(crcL p).toNat:=by
 grind [sumL,qfs,crcL]
theorem qag{H:Type}{a b:List H}{n:Nat}(h:a.length=n):(a++b).drop n=b:=by simp_all
theorem qh2(n:Nat)(r:LB)(h:n<4294967296):leN ((fixL n 4++r).take 4)=n:=by
 grind [qt,qfs]
section
variable {nq nt:Nat} {V T:LB} (h1:nq<4294967296) (h2:nt<4294967296) (h3:V.length+T.length+36<=67108864)
theorem qyp(nq nt:Nat)(V T:LB):(qc6 nq nt V T).length=V.length+T.length+36:=by
 grind [qc6,ql1,qfc]
theorem qs2(nq nt:Nat)(V T:LB)(k:Nat)(hk:k<=6):(qc6 nq nt V T).drop (4*k)=(h24 nq nt V.length T.length).drop (4*k)++(sumL (h24 nq nt V.length T.length)++(V++(sumL V++(T++sumL T)))):=by
 grind [qc6,ql1]
theorem qagn:hN (qc6 nq nt V T) 0=1095914324:=by
 rw[hN,qs2 _ _ _ _ 0 Oo,h24];simp only[Nat.mul_zero,BF,Aw];exact qh2 _ _ Od
theorem qago:hN (qc6 nq nt V T) 1=1:=by
 rfl
include h1 in
theorem qagp:hN (qc6 nq nt V T) 2=nq:=by
 rw[hN,qs2 _ _ _ _ 2 Oo,h24,show 4*2=4+4 from rfl,<-Ar,qag (qt _ _),qag (qt _ _)]
 grind [qh2]
include h2 in
theorem qagq:hN (qc6 nq nt V T) 3=nt:=by
 rw[hN,qs2 _ _ _ _ 3 Oo,h24,show 4*3=4+4+4 from rfl,<-Ar,<-Ar,qag (qt _ _),qag (qt _ _),qag (qt _ _)]
 grind [qh2]
include h3
theorem qml:hN (qc6 nq nt V T) 4=V.length:=by
 rw[hN,qs2 _ _ _ _ 4 Oo,h24,show 4*4=4+4+4+4 from rfl,<-Ar,<-Ar,<-Ar,qag (qt _ _),qag (qt _ _),qag (qt _ _),qag (qt _ _)]
 grind [qh2]
theorem qvg:hN (qc6 nq nt V T) 5=T.length:=by
 rw[hN,qs2 _ _ _ _ 5 Oo,h24,show 4*5=4+4+4+4+4 from rfl,<-Ar,<-Ar,<-Ar,<-Ar,qag (qt _ _),qag (qt _ _),qag (qt _ _),qag (qt _ _),qag (qt _ _)]
 grind [qh2]
omit h3 in
theorem qagr:hN (qc6 nq nt V T) 6=(crcL ((qc6 nq nt V T).take 24)).toNat:=by
 grind [hN,ql1,qfc,qwa,qc6]
theorem q5r:(qcd (qc6 nq nt V T)).2=0:=by
 grind [qyp,qcd,qml,qvg,qagn,qago,qagr]
omit h3 in
theorem qqp(nq nt:Nat)(V T:LB):(qc6 nq nt V T).drop 28=V++(sumL V++(T++sumL T)):=by
 rfl
theorem qadi:qh (qc6 nq nt V T)=V:=by grind [qh,qqp,qml]
theorem qadh:qj (qc6 nq nt V T)=T:=by
 rw[qj,qml h3,qvg h3,show 32+V.length=28+(V.length+4)by omega,<-Ar,qqp,<-Ar,qn,qag (qfc _),Dc]
theorem qags:pS1 (qc6 nq nt V T):=by
 grind [pS1,qadi,qml,List.drop_drop,qqp,qn,qfc,qwa]
theorem qagt:pS2 (qc6 nq nt V T):=by
 rw[pS2,qadh h3,qml h3,qvg h3,show 32+V.length+T.length=28+(V.length+(4+T.length))by omega,<-Ar,qqp,<-Ar,qn,<-Ar,qag (qfc _),qn,Am (by grind [qfc]),qwa]
end
theorem RiseT.at(h:RiseT T){a b:TM}(H:i<j)(ha:T[i]?=some a)(U:T[j]?=some b):LtT a b:=by
 obtain⟨h1,rfl⟩:=Af.1 ha;obtain⟨h2,rfl⟩:=Af.1 U;exact(Bw.1 h) i j h1 h2 H
theorem RiseT.inj(h:RiseT T){a:TM}(ha:T[i]?=some a)(H:T[j]?=some a):i=j:=by
 rcases CG i j with g|g|g
 ·exact absurd (h.at g ha H) (LtT.irrefl a)
 ·exact g
 ·exact absurd (h.at g H ha) (LtT.irrefl a)
theorem RiseT.lt(h:RiseT T){a b:TM}(ha:T[i]?=some a)(H:T[j]?=some b)(U:LtT a b):i<j:=by
 rcases CG i j with g|g|g
 ·exact g
 ·grind [LtT.irrefl]
 ·exact absurd (U.trans (h.at g H ha)) (LtT.irrefl a)
theorem RiseT.ext:∀{S T:List TM},RiseT S->RiseT T->(∀y,y∈S↔y∈T)->S=T
 | [],[],_,_,_=>rfl
 | [],b::T,_,_,h=>absurd ((h b).2 mh) Js
 | a::S,[],_,_,h=>absurd ((h a).1 mh) Js
 | a::S,b::T,hs,ht,h=>by
  obtain⟨W,s2⟩:=Bo.1 hs;obtain⟨Z,t2⟩:=Bo.1 ht;have e:a=b:=by
   rcases AB.1 ((h a).1 mh)with g|g
   ·exact g
   ·rcases AB.1 ((h b).2 mh)with U|U
    ·exact U.symm
    ·exact absurd ((Z a g).trans (W b U)) (LtT.irrefl b)
  subst e
  congr 1
  refine RiseT.ext s2 t2 λy=>⟨λH=>?_,λH=>?_⟩
  ·rcases AB.1 ((h y).1 (zmc H))with g|g
   ·subst g;exact absurd (W y H) (LtT.irrefl y)
   ·exact g
  ·rcases AB.1 ((h y).2 (zmc H))with g|g
   ·subst g;exact absurd (Z y H) (LtT.irrefl y)
   ·exact g
def noT(T:List TM)(t:TM):Nat:=if t.kind=0 then 0 else T.findIdx (λx=>cmpT x t==0)+1
theorem qgo{t:TM}(h:t.kind=0):noT T t=0:=by rw[noT,Ad h]
theorem qf0(h:RiseT T){t:TM}(ht:T[i]?=some t)(hk:t.kind≠0):noT T t=i+1:=by
 obtain⟨h1,h2⟩:=Af.1 ht;rw[noT,Aa hk];have h3:T.findIdx (λx=>cmpT x t==0)<T.length:=List.findIdx_lt_length_of_exists ⟨t,zmg ht,by simp[qau]⟩;have H:=List.findIdx_getElem (w:=h3);rw[Db,qau]at H;have:=h.inj (i:=T.findIdx (λx=>cmpT x t==0)) (j:=i) (by simp_all) ht;omega
theorem qadb(T:List TM)(t:TM)(h:t∈T\/t.kind=0):noT T t<=T.length:=by
 grind [noT,qau]
theorem qaju(h:RiseT T)(_:∀t∈T,0<=t.kind){a b:TM}(ha:a∈T\/a.kind=0)(U:b∈T)(hk:b.kind≠0)(W:LtT a b):noT T a<noT T b:=by
 obtain⟨j,H⟩:=AP.1 U;rw[qf0 h H hk]
 by_cases e:a.kind=0
 ·rw[qgo e];omega
 ·obtain⟨i,hi⟩:=AP.1 (ha.resolve_right e);rw[qf0 h hi e];have:=h.lt hi H W;omega
def gat(q:Q4):Nat->TM
 | 0=>q.g
 | 1=>q.s
 | 2=>q.p
 | _=>q.o
def LtQ(q r:Q4):Prop:=∃k,k<4/\(∀j,j<k->gat q j=gat r j)/\LtT (gat q k) (gat r k)
def noQ(T:List TM)(qs:List Q4)(i k:Nat):Nat:=match qs[i]? with
 | some q=>noT T (gat q k)
 | none=>0
theorem qia{q:Q4}(h:qs[i]?=some q):noQ T qs i k=noT T (gat q k):=by rw[noQ,h]
structure SetOk(T:List TM)(qs:List Q4):Prop where
 rise:RiseT T
 few:T.length<=4194304
 kind:∀t∈T,0<t.kind
 mem:∀q∈qs,∀k,k<4->gat q k∈T\/(k=0/\(gat q k).kind=0/\gat q k=zTM)
 len:qs.length<=1048576
 ord:qs.Pairwise LtQ
theorem SetOk.tok(h:SetOk T qs):TOk (noQ T qs) qs.length:=by
 refine⟨h.len,λi k hi hk=>?_,λi h0 hi=>?_⟩
 ·have H:qs[i]?=some qs[i]:=zge hi;rw[qia H]
  rcases h.mem _ (AH hi) k hk with g|⟨W,Z,_⟩
  ·refine⟨λ_=>?_,AI (qadb _ _ (.inl g)) h.few⟩;have:=h.kind _ g
   grind [noT]
  grind [qgo]
 ·have H:qs[i]?=some qs[i]:=zge hi;have hp:qs[i-1]?=some qs[i-1]:=zge Oo;obtain⟨k,h1,h2,h3⟩:=(Bw.1 h.ord) (i-1) i Oo hi Oo;refine⟨k,h1,λj hj=>?_,?_⟩
  ·grind [qia]
  ·rw[qia H,qia hp];have U:gat qs[i] k∈T:=by
    rcases h.mem _ (AH hi) k h1 with g|⟨W,Z,g3⟩
    ·exact g
    ·exfalso
     rcases h.mem _ (AH (show i-1<qs.length by omega)) k h1 with f|⟨f1,f2,f3⟩
     ·have:=h.kind _ f
      rcases h3 with h3|⟨h3,_⟩<;>omega
     grind [LtT.irrefl]
   refine qaju h.rise (λt ht=>by have:=h.kind t ht;omega) ?_ U (by have:=h.kind _ U;omega) h3
   rcases h.mem _ (AH (show i-1<qs.length by omega)) k h1 with f|⟨f1,f2,f3⟩
   all_goals simp_all
def ofK(T:List TM)(k:Nat):List TM:=T.filter λt=>decide (t.kind=((k+1:Nat):Int))
theorem qcz(T:List TM)(k:Nat):secE T k=(ofK T k).map qal:=rfl
theorem qkz{t:TM}(h:t∈ofK T k):t.kind=((k+1:Nat):Int):=by simpa using(BK.1 h).2
theorem qql(h:RiseT T)(k:Nat):RiseT (ofK T k):=h.filter _
theorem qvc(h:RiseT T)(hk:∀t∈T,1<=t.kind/\t.kind<=3):T=ofK T 0++(ofK T 1++ofK T 2):=by
 have W:∀{i j:Nat},i<j->∀a∈ofK T i,∀b∈ofK T j,LtT a b:=λZ a ha b U=>.inl (by grind [qkz])
 refine RiseT.ext h ?_ λy=>⟨λH=>?_,λH=>?_⟩
 ·refine Cq.2 ⟨qql h 0,Cq.2 ⟨qql h 1,qql h 2,λa ha b U=>W Od a ha b U⟩,λa ha b U=>?_⟩
  grind
 ·have:=hk y H;have hd:y.kind=1\/y.kind=2\/y.kind=3:=by omega
  rcases hd with e|e|e
  ·exact Aj _ (BK.2 ⟨H,by rw[e];rfl⟩)
  ·exact Ac _ (Aj _ (BK.2 ⟨H,by rw[e];rfl⟩))
  ·exact Ac _ (Ac _ (BK.2 ⟨H,by rw[e];rfl⟩))
 ·rcases Bc.1 H with H|H
  ·exact(BK.1 H).1
  ·rcases Bc.1 H with H|H
   ·exact(BK.1 H).1
   ·exact(BK.1 H).1
section
variable {T:List TM} (h:VOk T) (hr:RiseT T) (hk:∀t∈T,1<=t.kind/\t.kind<=3) (ht:∀t∈T,qap t=0)
include h
theorem VOk.tot1:vTot (vocB T) 1=(ofK T 0).length:=by rw[vTot,vTot,h.dN Od,qcz,AG,As]
theorem VOk.tot2:vTot (vocB T) 2=(ofK T 0).length+(ofK T 1).length:=by rw[vTot,h.tot1,h.dN Od,qcz,AG]
theorem VOk.tot3:vTot (vocB T) 3=(ofK T 0).length+(ofK T 1).length+(ofK T 2).length:=by rw[vTot,h.tot2,h.dN Od,qcz,AG]
include hr hk
theorem VOk.tot:vTot (vocB T) 3=T.length:=by
 have e:=Ae List.length (qvc hr hk);simp only[zla]at e;rw[h.tot3];omega
include ht
theorem VOk.sec{t:TM}(H:k<3)(U:(ofK T k)[j]?=some t):(match dGet (Go.Proofs.YtccmcfpmknpccaaGreatDoor.sDict (vocB T) k) j with
  | some s=>qhk ((k+1:Nat):Int) s
  | none=>none)=some t:=by
 have Z:=hr;have _k:=hk;obtain⟨h1,h2⟩:=Af.1 U;have W:=zmg U;rw[h.get H (by grind [qcz])];refine qej ⟨qkz W,ht t (BK.1 W).1,?_⟩
 grind [tx,qcz]
theorem VOk.term{t:TM}(hi:T[i]?=some t):qcl (vocB T) (i+1)=some t:=by
 have e:=qvc hr hk;have W:=(Af.1 hi).1;have Z:=h.tot1;have t2:=h.tot2;have t3:=h.tot3;have tt:=h.tot hr hk;rw[qcl,Aa Oo,Aa Oo];rw[e]at hi
 by_cases H:vTot (vocB T) 2<i+1
 ·rw[qce,Ad H];refine h.sec hr hk ht Od ?_
  grind
 ·by_cases U:vTot (vocB T) 1<i+1
  ·rw[qce,Aa H,Ad U];refine h.sec hr hk ht Od ?_
   grind
  ·rw[qce,Aa H,Aa U];refine h.sec hr hk ht Od ?_
   grind [vTot]
end
def encP(T:List TM)(qs:List Q4):LB:=qc6 qs.length T.length (vocB T) (qu (noQ T qs) qs.length)
structure EncOk(T:List TM)(qs:List Q4):Prop where
 set:SetOk T qs
 voc:VOk T
 kind3:∀t∈T,t.kind<=3
 term:∀t∈T,qap t=0
 quad:∀q∈qs,qbo q=0
 used:∀t∈T,∃q∈qs,∃k,k<4/\gat q k=t
 size:(vocB T).length+(qu (noQ T qs) qs.length).length+36<=67108864
section
variable {T:List TM} {qs:List Q4} (h:EncOk T qs)
include h
theorem EncOk.v:qh (encP T qs)=vocB T:=qadi h.size
theorem EncOk.t:qj (encP T qs)=qu (noQ T qs) qs.length:=qadh h.size
theorem EncOk.kinds:∀t∈T,1<=t.kind/\t.kind<=3:=λt ht=>⟨by have:=h.set.kind t ht;omega,h.kind3 t ht⟩
theorem EncOk.n:vNum (qj (encP T qs)) 3=qs.length:=by rw[h.t,h.set.tok.vNum Od,h.set.tok.all znr]
theorem EncOk.no{t:TM}(ht:t∈T\/t=zTM):qcl (qh (encP T qs)) (noT T t)=some t:=by
 rw[h.v]
 rcases ht with ht|ht
 ·obtain⟨i,hi⟩:=AP.1 ht;rw[qf0 h.set.rise hi (by have:=h.set.kind t ht;omega)];exact h.voc.term h.set.rise h.kinds h.term hi
 ·subst ht;rfl
theorem EncOk.told{q:Q4}(hi:qs[i]?=some q)(hk:k<4):qcl (qh (encP T qs)) (tNum (qj (encP T qs)) i k)=some (gat q k):=by
 have H:=(Af.1 hi).1;rw[h.t,h.set.tok.tNum H hk,qia hi];refine h.no ?_
 rcases h.set.mem q (zmg hi) k hk with g|⟨_,_,g⟩
 all_goals simp_all
theorem EncOk.quad4{q:Q4}(hi:qs[i]?=some q):q4Of (qh (encP T qs)) (tNum (qj (encP T qs)) i)=q:=by
 unfold q4Of uT;rw[h.told hi (k:=0) Od,h.told hi (k:=1) Od,h.told hi (k:=2) Od,h.told hi (k:=3) Od];rfl
theorem EncOk.poE:poE (encP T qs)=(0,0):=by
 have U:qs.length<4294967296:=by have:=h.set.len;omega
 have Z:T.length<4294967296:=by have:=h.set.few;omega
 refine qaj0 (q5r h.size) (qags h.size) (qagt h.size) ?_ ?_ ?_ ?_ ?_ ?_
 ·rw[h.v];exact h.voc.vwE h.term
 ·rw[h.t];exact h.set.tok.toE
 ·rw[h.n];exact(qagp U).symm
 ·rw[h.v,h.voc.tot h.set.rise h.kinds];exact(qagq Z).symm
 ·intro i hi;rw[h.n]at hi;have H:qs[i]?=some qs[i]:=zge hi;exact⟨λj hj=>by rw[h.told H hj];simp,by rw[h.quad4 H];exact h.quad _ (AH hi)⟩
 ·intro id h1 h2;rw[h.v,h.voc.tot h.set.rise h.kinds]at h2;have ht:T[id-1]?=some T[id-1]:=zge Oo;obtain⟨q,U,k,hk,e⟩:=h.used _ (zmg ht);obtain⟨i,hi⟩:=AP.1 U;have W:=(Af.1 hi).1;refine⟨i,by rw[h.n];exact W,k,hk,?_⟩;rw[h.t,h.set.tok.tNum W hk,qia hi,e,qf0 h.set.rise ht (by have:=h.set.kind _ (zmg ht);omega)];omega
end
theorem q5f(c:DY):UInt8.ofNat c.toNat=c:=by simp
theorem qmh:∀(l:LB) (i a:Nat),i<=9->(qf3 i a l).2.2=0->∃n r,l=varL n++r/\(0<i->0<n)/\qf3 i a l=(a+n*2 ^ (7*i),i+(varL n).length,0)
 | [],i,a,_,h=>by cases h
 | c::l,i,a,hi,h=>by
  have U:c.toNat<256:=c.toBitVec.isLt;rw[qdh]at h|-
  split at h
  ·cases h
  rename_i h1
  rw[Aa h1]
  split at h
  ·rename_i h2
   refine⟨c.toNat,l,?_,λW=>by omega,?_⟩
   all_goals grind [qer,q5f]
  ·rename_i h2
   obtain⟨n,r,h3,H,Z⟩:=qmh l (i+1) (a+c.toNat%128*2 ^ (7*i)) Oo h;have hn:=H Oo;have e1:(n*128+c.toNat%128)%128=c.toNat%128:=by omega
   have e2:(n*128+c.toNat%128)/128=n:=by omega
   have e3:varL (n*128+c.toNat%128)=c::varL n:=by
    grind [qeq,q5f]
   grind
theorem qdi(h:(numL l).2.2=0):l=varL (numL l).1++l.drop (numL l).2.1/\(numL l).2.1=(varL (numL l).1).length:=by
 obtain⟨n,r,h1,_,h2⟩:=qmh l 0 0 Oo h
 grind [numL]
theorem q2b{a b:DY}(h:∀r,r<8->a.toNat/2 ^ r%2=b.toNat/2 ^ r%2):a=b:=by
 have ha:a.toNat<256:=a.toBitVec.isLt;have H:b.toNat<256:=b.toBitVec.isLt;have U:=h 0 Od;have h1:=h 1 Od;have h2:=h 2 Od;have h3:=h 3 Od;have W:=h 4 Od;have Z:=h 5 Od;have h6:=h 6 Od;have h7:=h 7 Od
 grind [UInt8.toNat_inj]
theorem qxa{p q:LB}(H:p.length=q.length)(h:∀t,t<8*p.length->bitN p t=bitN q t):p=q:=by
 apply D3 H;intro b h1 h2;refine q2b λr hr=>?_;have:=h (8*b+r) Oo;rw[bitN,bitN,show(8*b+r)/8=b by omega,show(8*b+r)%8=r by omega]at this
 simp_all
theorem qzm(p:LB)(f:Nat):∀{w k:Nat},k<w->valB p f w/2 ^ k%2=bitN p (f+k)
 | w+1,k,h=>by
  have H:=qc8 p (f+w);have U:=qj3 p f w;rw[valB]
  by_cases e:k=w
  ·grind [Nat.add_mul_div_right,Nat.div_eq_of_lt]
  ·have W:=qzm p f (w:=w) (k:=k) Oo;obtain⟨d,rfl⟩:∃d,w=k+1+d:=⟨w-(k+1),by omega⟩
   grind [Nat.mul_comm,Nat.mul_left_comm,Nat.add_mul_div_right]
theorem qoj{p:LB}{n w:Nat}(U:p.length=(n*w+7)/8)(W:¬PadB p (n*w)):p=qcv (unpN p n w) w:=by
 have H:(unpN p n w).length=n:=by simp[unpN]
 refine qxa (by rw[qbz,H,U]) λt ht=>?_
 by_cases h:t<n*w
 ·have hw:0<w:=Nat.pos_of_ne_zero λe=>by simp_all
  have Z:t=t/w*w+t%w:=(Nat.div_add_mod' t w).symm
  grind [Nat.div_lt_iff_lt_mul,Nat.mod_lt,qsz,unpN,qzm]
 ·have h1:bitN p t≠1:=λe=>W ⟨t,by omega,ht,e⟩
  have h2:bitN (qcv (unpN p n w) w) t≠1:=λe=>qmj (unpN p n w) w ⟨t,by rw[H];omega,by grind [qbz],e⟩
  grind [qc8]
theorem q27{m:LB}{first:Bool}(h:(entG m first ahead).2.2=0)(H:first=false->(numL m).1=comL (entG m first ahead).1 ahead):
  m=entE first ahead (entG m first ahead).1++m.drop (entG m first ahead).2.1/\(entG m first ahead).2.1=(entE first ahead (entG m first ahead).1).length:=by
 cases first with
 | true=>
  unfold entG at h|-;rw[Ad rfl]at h|-;dsimp only at h|-;rw[Aa Oo,BF]at h|-
  by_cases h1:(numL m).2.2=0
  case neg=>simp_all
  rw[Aa Oo]at h|-;rw[Aa Oo]at h|-
  by_cases h2:262144<(numL m).1\/262144<0+(numL m).1
  case pos=>simp_all
  rw[Aa h2]at h|-
  by_cases h3:m.length-0-(numL m).2.1<(numL m).1
  case pos=>simp_all
  rw[Aa h3];obtain⟨Z,c2⟩:=qdi h1;simp only[BH,Bn,As]
  grind [entE,List.take_append_drop]
 | false=>
  have H:=H rfl;unfold entG at h H|-;rw[Aa DL]at h H|-;dsimp only at h H|-
  by_cases h0:(numL m).2.2=0
  case neg=>simp_all
  rw[Aa Oo]at h H|-
  by_cases h1:(numL (m.drop (numL m).2.1)).2.2=0
  case neg=>simp_all
  rw[Aa Oo]at h H|-
  by_cases h4:ahead.length<(numL m).1
  case pos=>grind
  rw[Aa h4]at h H|-
  by_cases h2:262144<(numL (m.drop (numL m).2.1)).1\/262144<(numL m).1+(numL (m.drop (numL m).2.1)).1
  case pos=>grind
  rw[Aa h2]at h H|-
  by_cases h3:m.length-(numL m).2.1-(numL (m.drop (numL m).2.1)).2.1<(numL (m.drop (numL m).2.1)).1
  case pos=>simp_all
  rw[Aa h3]at H|-;obtain⟨Z,c2⟩:=qdi h0;obtain⟨d1,d2⟩:=qdi h1;dsimp only at H|-;obtain⟨c,aa⟩:∃c,c=(numL m).1:=⟨_,rfl⟩
  obtain⟨W,U⟩:∃k,k=(numL m).2.1:=⟨_,rfl⟩
  rw[<-U]at h1 h2 h3 H d1 d2|-;obtain⟨q,hq⟩:∃q,q=(numL (m.drop W)).1:=⟨_,rfl⟩
  obtain⟨k2,ad⟩:∃k,k=(numL (m.drop W)).2.1:=⟨_,rfl⟩
  grind [entE,qln,List.drop_drop,List.take_append_drop]
def txsD(m:LB):List LB:=(List.range (dN m)).map λi=>(dSt m (i+1)).1
theorem qde(m:LB):(txsD m).length=dN m:=by simp[txsD]
theorem qwj{m:LB}(h:i<dN m):tx (txsD m) i=(dSt m (i+1)).1:=by
 grind [tx,txsD]
section
variable {m:LB} (h:(doE m).2=0)
include h
theorem qact(hi:i<dN m):(i%16=0->q7 m (i/16)=(dSt m i).2)/\(entG ((qd m).drop (dSt m i).2) (decide (i%16=0)) (dSt m i).1).2.2=0/\
  (decide (i%16=0)=false->(numL ((qd m).drop (dSt m i).2)).1=comL (dSt m (i+1)).1 (dSt m i).1):=by
 have H:=(qbs h).2.2.1 i hi;rw[dnF]at H
 grind
theorem qi3:∀{i:Nat},i<=dN m->qd m=arL (txsD m) i++(qd m).drop (dSt m i).2/\(dSt m i).2=(arL (txsD m) i).length
 | 0,_=>⟨rfl,rfl⟩
 | i+1,hi=>by
  obtain⟨H,U⟩:=qi3 (i:=i) Oo;obtain⟨h1,h2,h3⟩:=qact h (i:=i) hi;obtain⟨W,Z⟩:=q27 h2 h3;have e0:(if i=0 then[]else tx (txsD m) (i-1))=(dSt m i).1:=by
   by_cases e:i=0
   ·subst e;rfl
   grind [qwj]
  grind [arL,dSt,qwj,List.drop_drop]
theorem qw6:qam (txsD m)=qd m:=by
 obtain⟨h1,h2⟩:=qi3 h znr;have h3:=(qbs h).2.2.2
 grind [qam,qde]
theorem qz0:m=qw (txsD m):=by
 obtain⟨hE,hO,_,_⟩:=qbs h;have ha:=qw6 h;have e2:(errF (dhF m) 2).2=0:=AD λg=>by grind [dE]
 rw[dE,Aa Oo]at hE
 by_cases l1:m.length<dEnd m
 case pos=>simp_all
 rw[Aa l1]at hE
 by_cases l2:dEnd m<m.length
 case pos=>simp_all
 have n0:(numL (m.drop (vAt m 0))).2.2=0:=AD λg=>by
  have:=qan (n:=2) e2 0 Oo
  grind [dhF,qgq]
 have n1:(numL (m.drop (vAt m 1))).2.2=0:=AD λg=>by
  have:=qan (n:=2) e2 1 Oo
  grind [dhF,qgq]
 obtain⟨c1,c2⟩:=qdi n0;obtain⟨d1,d2⟩:=qdi n1;have a1:vAt m 1=(numL (m.drop (vAt m 0))).2.1:=As _;have a2:qak m=vAt m 1+(numL (m.drop (vAt m 1))).2.1:=rfl;have hf:ql m=qak m+(upN (dN m) 16*dW m+7)/8:=rfl;have ad:dEnd m=ql m+qez m:=rfl;have H:(qd m).length=qez m:=by grind [qd]
 have U:(qx m).length=(upN (dN m) 16*dW m+7)/8:=by grind [qx]
 have W:qx m=qcv (unpN (qx m) (upN (dN m) 16) (dW m)) (dW m):=qoj U λg=>(qqn _ _ _).2 g hO
 have Z:unpN (qx m) (upN (dN m) 16) (dW m)=plcL (txsD m):=by
  rw[unpN,plcL,qde];refine Cx λk hk=>?_;rw[BP]at hk;have aa:16*k<dN m:=by grind [upN]
  have h1:=(qact h aa).1 Oo;rw[show 16*k/16=k by omega,(qi3 h (i:=16*k) Oo).2]at h1;exact h1
 have hw:dW m=qah (qam (txsD m)).length:=by rw[ha,H];rfl
 rw[Z,hw]at W;have hd:qw (txsD m)=varL (dN m)++(varL (qez m)++(qx m++qd m)):=by grind [qw,qde]
 have r0:m=varL (dN m)++m.drop (vAt m 1):=by
  rw[a1];rw[vAt,BF]at c1|-;exact c1
 have r1:m.drop (vAt m 1)=varL (qez m)++m.drop (qak m):=by
  rw[a2,<-Ar];exact d1
 have r2:m.drop (qak m)=qx m++qd m:=by
  rw[qx,qd,show m.drop (ql m)=(m.drop (qak m)).drop (ql m-qak m)by rw[Ar];congr 1;omega,AW]
 grind
end
theorem qe6(h:(numL (l.drop (vAt l k))).2.2=0):l.drop (vAt l k)=varL (vNum l k)++l.drop (vAt l (k+1)):=by
 have h1:=(qdi h).1;rw[Ar]at h1;exact h1
theorem qaa7(h:(sE l).2=0):l=jo3 (sDict l 0) (sDict l 1) (sDict l 2):=by
 have U:(errF (vsF l) 3).2=0:=AD λg=>by grind [sE]
 rw[sE,Aa Oo]at h
 by_cases W:l.length<qr l 3
 case pos=>simp_all
 rw[Aa W]at h
 by_cases l2:qr l 3<l.length
 case pos=>simp_all
 have H:∀k,k<3->(numL (l.drop (vAt l k))).2.2=0:=λk hk=>AD λg=>by
  have:=qan (n:=3) U k hk
  grind [vsF,qgq]
 have s1:qr l 1=vAt l 3+vNum l 0:=rfl;have s2:qr l 2=vAt l 3+vNum l 0+vNum l 1:=rfl;have s3:qr l 3=vAt l 3+vNum l 0+vNum l 1+vNum l 2:=rfl;have d0:(sDict l 0).length=vNum l 0:=by rw[sDict,Az,zld];show min _ (_-vAt l 3)=_;omega
 have d1:(sDict l 1).length=vNum l 1:=by grind [sDict]
 have d2:(sDict l 2).length=vNum l 2:=by grind [sDict]
 have r0:l=varL (vNum l 0)++l.drop (vAt l 1):=qe6 (k:=0) (H 0 Od);have r1:=qe6 (k:=1) (H 1 Od);have r2:=qe6 (k:=2) (H 2 Od);have r3:l.drop (vAt l 3)=sDict l 0++(sDict l 1++sDict l 2):=by
  have b2:sDict l 2=l.drop (qr l 2):=by rw[sDict,Am];rw[zld];omega
  have b1:l.drop (qr l 1)=sDict l 1++l.drop (qr l 2):=by
   rw[sDict,show qr l 2=qr l 1+vNum l 1 from rfl,<-Ar,AW]
  have Z:l.drop (qr l 0)=sDict l 0++l.drop (qr l 1):=by
   rw[sDict,show qr l 1=qr l 0+vNum l 0 from rfl,<-Ar,AW]
  rw[b2,<-b1];exact Z
 grind [jo3]
theorem q1q(h:(vwE l).2=0):l=jo3 (qw (txsD (sDict l 0))) (qw (txsD (sDict l 1))) (qw (txsD (sDict l 2))):=by
 grind [qd8,qz0,qaa7]
theorem q7m(H:vOk l=true)(h:(voE l).2=0):l=qat (vD l) (vN l):=by
 obtain⟨_,h2,h3⟩:=qle h;simp only[vOk,AQ,decide_eq_true_eq]at H;obtain⟨⟨⟨v1,v2⟩,v3⟩,v4⟩:=H;have U:qz (vN l)=8+upN (vN l) 8:=rfl;have he:qbe (vN l) (vM l)=qz (vN l)+4*upN (vN l) 2048+2*upN (vN l) 256+4*upN (vM l) 512:=rfl;have W:(vD l).length=upN (vN l) 8:=by grind [vD]
 have Z:(qat (vD l) (vN l)).length=l.length:=by grind [qd3]
 have e1:fixL (vN l) 4=l.take 4:=(qsb (by grind) Oo).2 rfl;have e2:fixL (cnt (vD l) (vN l)) 4=(l.drop 4).take 4:=(qsb (by grind) Oo).2 h2.symm;have e3:l.drop (qz (vN l))=gL (vD l) (vN l)++(sL (vD l) (vN l)++mL (vD l) (vN l)):=by
  rw[<-qo3,W,<-U];apply Bk
  grind
 grind [vD,List.drop_drop,List.take_append_drop,qat]
section
variable {l:LB} (h:(toE l).2=0)
include h
theorem qalf(hk:k<4):tw l k<=23:=by
 have h1:=(qt1 (qca h).1).2 k hk
 grind [tvF]
theorem qna(hk:k<4):tNum l i k=tX l k (tUp l i (3-k)):=by
 grind [tNum,tX,qky,qalf]
theorem qaga{e:Nat}(hk:k<4)(H:e<vNum l k):¬((k≠0/\tX l k e=0)\/4194304<tX l k e)/\(0<e->(k=0\/bitN ((qe l k).drop 8) (e-1)≠1)->tX l k (e-1)<tX l k e):=by
 have h1:=(qh6 ((qca h).2 k hk)).2.2.2 e H
 grind [qaf8,qaf9]
theorem qwk{i:Nat}(hi:i+1<vNum l 3):∀{j:Nat},j<=3->tUp l (i+1) j=tUp l i j\/tUp l (i+1) j=tUp l i j+1
 | 0,_=>.inr rfl
 | j+1,U=>by
  rcases qwk hi (j:=j) Oo with g|g
  ·exact .inl (qk7 g (CF j))
  ·by_cases H:bitN ((qe l (3-j)).drop 8) (tUp l i j)=1
   ·exact .inr (qnb (qbq h) Oo Oo g H)
   ·exact .inl (qk6 (qbq h) Oo Oo g H)
theorem qadu{i:Nat}(hi:i+1<vNum l 3):∀(d:Nat) {j:Nat},3-j=d->j<=3->tUp l (i+1) j=tUp l i j+1->∃k,k<=3-j/\tNum l (i+1) k≠tNum l i k
 | d,j,H,hj,g=>by
  have U:=qg8 (qbq h) hi j hj;obtain⟨_,h2⟩:=qaga h (k:=3-j) (e:=tUp l (i+1) j) Oo U;have W:(3-j=0\/bitN ((qe l (3-j)).drop 8) (tUp l i j)≠1)->∃k,k<=3-j/\tNum l (i+1) k≠tNum l i k:=λZ=>by
   have h3:=h2 Oo (by simp_all);refine⟨3-j,Ai _,?_⟩
   grind [qna]
  by_cases h0:3-j=0
  ·simp_all
  ·by_cases Z:bitN ((qe l (3-j)).drop 8) (tUp l i j)=1
   ·have g2:=qnb (qbq h) (i:=i) Oo (show j<3 by omega) g Z;clear W
    match d,H with
    | 0,H=>omega
    | d+1,H=>
     obtain⟨k,h4,h5⟩:=qadu hi d (j:=j+1) Oo Oo g2
     grind
   simp_all
theorem q9n(hi:i+1<vNum l 3)(hk:k<4):frU (tNum l) (i+1) k=true↔tUp l (i+1) (3-k)=tUp l i (3-k)+1:=by
 constructor
 ·grind [qwk,q3h,qna,qk7]
 ·intro g;cases H:frU (tNum l) (i+1) k with
  | true=>rfl
  | false=>
   exfalso
   obtain⟨m,h1,h2⟩:=qadu h hi _ rfl Oo g;have:=(qgk H).2 m Oo
   simp_all
theorem q4n{k:Nat}(hk:k<4):∀{i:Nat},i<vNum l 3->leT (tNum l) k (i+1)=tUp l i (3-k)+1
 | 0,_=>by rw[qar (qh3 _ k),qrd];rfl
 | i+1,hi=>by
  have U:=q4n hk (i:=i) Oo;cases H:frU (tNum l) (i+1) k with
  | true=>rw[qar H,U,(q9n h hi hk).1 H]
  | false=>
   rw[qbh H,U]
   rcases qwk h hi (j:=3-k) Oo with g|g
   ·rw[g]
   ·rw[(q9n h hi hk).2 g]at H;cases H
end
section
variable {l:LB} (h:(toE l).2=0)
include h
theorem q7f(W:0<vNum l 3):∀{j:Nat},j<=3->tUp l (vNum l 3-1) j+1=vNum l (3-j)
 | 0,_=>by show vNum l 3-1+1=vNum l 3;omega
 | j+1,hj=>by
  have Z:=q7f W (j:=j) Oo;have H:=qbq h (3-j) Oo Oo;have hl:=H.last Oo;have U:=H.vec.ones;rw[H.n,<-Z,cnt,show tUp l (vNum l 3-1) j=vNum l (3-j)-1 by omega,hl,H.m]at U;rw[tUp,H.rank _ Oo,show 3-(j+1)=3-j-1 by omega,<-U]
  congr 2;omega
theorem qaai(Z:vNum l 3=0):∀{k:Nat},k<4->vNum l k=0:=by
 have ht:=(qt1 (qca h).1).1;have H:∀k,0<k->k<4->vNum l k=0->vNum l (k-1)=0:=λk hk U hz=>by
  have:=ht k U;rw[tcF]at this
  by_cases W:(numE l k 1048576).2≠0
  case pos=>rw[Ad W]at this;exact absurd this W
  rw[Aa W]at this
  by_cases c2:0<k/\(vNum l k<vNum l (k-1)\/¬(vNum l (k-1)=0↔vNum l k=0))
  case pos=>rw[Ad c2]at this;cases this
  exact AD λg=>c2 ⟨hk,.inl Oo⟩
 have h2:=H 3 Od Od Z;have h1:=H 2 Od Od h2;have h3:=H 1 Od Od h1;intro k hk
 match k,hk with
 | 0,_=>exact h3
 | 1,_=>exact h1
 | 2,_=>exact h2
 | 3,_=>exact Z
theorem ql7(hk:k<4):leT (tNum l) k (vNum l 3)=vNum l k:=by
 by_cases H:vNum l 3=0
 ·rw[H,qaai h H hk];rfl
 ·have h1:=q7f h Oo (j:=3-k) Oo;have h2:=q4n h hk (i:=vNum l 3-1) Oo;rw[BV Oo]at h2;rw[h2,h1,show 3-(3-k)=k by omega]
theorem qaah(hk:k<4):nuT (tNum l) k (vNum l 3)=unpN (qg l k) (vNum l k) (tw l k):=by
 have hn:=ql7 h hk;apply D3
 ·rw[show(nuT (tNum l) k (vNum l 3)).length=_ from hn];simp[unpN]
 ·intro e h1 h2;have H:e<leT (tNum l) k (vNum l 3):=h1;obtain⟨i,W,Z,g3⟩:=qj5 (tNum l) k H;have U:=qmg (Q:=tNum l) k (i:=i) (n:=vNum l 3) W;have g5:=q4n h hk W;rw[qar Z,g3,Bm]at U;rw[qar Z,g3]at g5;rw[Ah,zge h1]at U;simp only[unpN,CA,DK];refine Eq.trans U ?_;rw[qna h hk,show tUp l i (3-k)=e by omega];rfl
theorem qzv(hk:k+1<4):qbu (stT (tNum l) k (vNum l 3))=vD (qe l (k+1)):=by
 have W:=qbq h (k+1) Oo Oo;have hn:=ql7 h hk;have H:=(qh6 ((qca h).2 (k+1) hk)).2.2.1.resolve_left Oo;have ae:(voE (qe l (k+1))).2=0:=by
  rw[vcE,Aa (by rw[W.tvec];decide)]at H;exact AD λg=>by rw[Ad g]at H;exact g H
 have Z:=(qle ae).1;have aa:(vD (qe l (k+1))).length=upN (vNum l (k+1)) 8:=by
  have ad:=W.vec.ok;simp only[vOk,AQ,decide_eq_true_eq]at ad;have he:qbe (vN (qe l (k+1))) (vM (qe l (k+1)))=8+upN (vN (qe l (k+1))) 8+4*upN (vN (qe l (k+1))) 2048+2*upN (vN (qe l (k+1))) 256+4*upN (vM (qe l (k+1))) 512:=rfl;rw[vD,Az,zld,ad.2,he,W.n];omega
 have hS:(stT (tNum l) k (vNum l 3)).length=vNum l (k+1):=by rw[qb2,hn]
 refine qxa (by rw[qc3,hS,aa]) λt ht=>?_;rw[qc3,hS]at ht
 by_cases h1:t<vNum l (k+1)
 ·rw[qfr (by rw[hS];exact h1),laT,hS];have hb:bitN (vD (qe l (k+1))) t=bitN ((qe l (k+1)).drop 8) t:=qdk _ _ _ (by rw[W.n];exact ht);rw[hb]
  by_cases h2:t+1=vNum l (k+1)
  ·rw[Ad h2];have af:=W.last Oo;have e:t=vNum l (k+1)-1:=by omega
   rw[e];exact af.symm
  ·rw[Aa h2];obtain⟨i,g1,g2,g3⟩:=qj5 (tNum l) (k+1) (e:=t+1) (n:=vNum l 3) (by rw[hn];omega);obtain⟨p,rfl⟩:∃p,i=p+1:=⟨i-1,by
    rcases B9 i with e|e
    ·rw[e]at g3;exact(DQ t g3.symm).elim
    ·omega⟩
   have u1:=q4n h hk (i:=p) Oo;have u2:=q4n h hk (i:=p+1) g1;rw[qar g2,g3]at u2;rw[g3]at u1;rw[<-g3,q6s (tNum l) k g1 g2];have e1:tUp l p (3-(k+1))=t:=(Nat.add_right_cancel u1).symm;have e2:tUp l (p+1) (3-(k+1))=tUp l p (3-(k+1))+1:=by rw[e1];exact(Nat.add_right_cancel u2).symm
   have e3:3-(3-(k+1))=k+1:=by omega
   have e4:3-(k+1)+1=3-k:=by omega
   by_cases U:bitN ((qe l (k+1)).drop 8) t=1
   ·have:=qnb (qbq h) (i:=p) Oo (j:=3-(k+1)) Oo e2 (by rw[e3,e1];exact U);rw[e4]at this;rw[Ad ((q9n h g1 Oo).2 this),U]
   ·have:=qk6 (qbq h) (i:=p) Oo (j:=3-(k+1)) Oo e2 (by rw[e3,e1];exact U);rw[e4]at this;have ag:=qc8 ((qe l (k+1)).drop 8) t;rw[Aa (λg=>by have g':=(q9n h g1 Oo).1 g;rw[this]at g';exact Nat.succ_ne_self _ g'.symm)];clear this e1 e2 u1 u2;omega
 ·have a1:bitN (qbu (stT (tNum l) k (vNum l 3))) t≠1:=λe=>qsm (stT (tNum l) k (vNum l 3)) ⟨t,by omega,by rw[qc3,hS];exact ht,e⟩
  have a2:bitN (vD (qe l (k+1))) t≠1:=λe=>Z ⟨t,by rw[W.n];omega,by rw[aa];exact ht,e⟩
  have:=qc8 (qbu (stT (tNum l) k (vNum l 3))) t;have:=qc8 (vD (qe l (k+1))) t;omega
end
theorem qn9(l:LB)(h:a<=b):l.drop a=(l.drop a).take (b-a)++l.drop b:=by
 grind [List.drop_drop,List.take_append_drop]
section
variable {l:LB} (h:(toE l).2=0)
include h
theorem qkx(hk:k<4):l.drop (tvAt l k)=lvB (tNum l) (vNum l 3) k++l.drop (tvAt l (k+1)):=by
 obtain⟨h1,h2,h3⟩:=qix ((qt1 (qca h).1).2 k hk);obtain⟨g1,g2,g3,_⟩:=qh6 ((qca h).2 k hk);have hn:=ql7 h hk;have aa:=qaah h hk;have ad:(unpN (qg l k) (vNum l k) (tw l k)).length=vNum l k:=by simp[unpN]
 have hw:wiT (nuT (tNum l) k (vNum l 3))=tw l k:=by grind [wiT]
 have W:tEnd l k=tvAt l k+1+(vNum l k*tw l k+7)/8:=rfl;have ae:tEnd l k<=l.length:=by grind [qbb]
 have af:(qg l k).length=(vNum l k*tw l k+7)/8:=by grind [qg]
 have hp:qg l k=qcv (nuT (tNum l) k (vNum l 3)) (tw l k):=by
  grind [qoj,qqn]
 have hb:UInt8.ofNat (tw l k)=l[tvAt l k]:=by
  grind [tw,q5f]
 have r1:l.drop (tvAt l k)=UInt8.ofNat (tw l k)::(qg l k++l.drop (tEnd l k)):=by
  grind [qn9,List.drop_eq_getElem_cons,qg]
 have r2:l.drop (tEnd l k)=(if k=0 then[]else qat (qbu (stT (tNum l) (k-1) (vNum l 3))) (leT (tNum l) k (vNum l 3)))++l.drop (tvAt l (k+1)):=by
  by_cases e:k=0
  ·grind [qbb]
  ·rw[Aa e];obtain⟨m,rfl⟩:∃m,k=m+1:=⟨k-1,by omega⟩
   have Z:=qbq h (m+1) Oo Oo;have ag:=g3.resolve_left e;have H:(voE (qe l (m+1))).2=0:=by
    grind [vcE]
   have U:=q7m Z.vec.ok H;rw[<-qzv h hk,Z.n]at U
   grind [qn9,qbb,qe]
 grind [lvB]
theorem q1o:l=qu (tNum l) (vNum l 3):=by
 have ht:=qt1 (qca h).1;have H:∀k,k<4->(numL (l.drop (vAt l k))).2.2=0:=λk hk=>AD λg=>by
  grind [qgq,tcF]
 have r0:l=varL (vNum l 0)++l.drop (vAt l 1):=qe6 (k:=0) (H 0 Od);have r1:=qe6 (k:=1) (H 1 Od);have r2:=qe6 (k:=2) (H 2 Od);have r3:=qe6 (k:=3) (H 3 Od);have Z:l.drop (vAt l 4)=_:=qkx h (k:=0) Od;have b1:=qkx h (k:=1) Od;have b2:=qkx h (k:=2) Od;have U:=qkx h (k:=3) Od;have W:l.drop (tvAt l 4)=[]:=by
  have h1:=(qca h).1;rw[tE]at h1
  by_cases c1:(errF (tcF l) 4).2≠0
  case pos=>grind
  rw[Aa c1]at h1
  by_cases c2:(errF (tvF l) 4).2≠0
  case pos=>grind
  rw[Aa c2]at h1
  by_cases c3:tvAt l 4<l.length
  case pos=>grind
  exact List.drop_of_length_le Oo
 rw[W,B4]at U;clear W;rw[qu,ql7 h (k:=0) Od,ql7 h (k:=1) Od,ql7 h (k:=2) Od,ql7 h (k:=3) Od];have e:tlB (tNum l) (vNum l 3) 4=l.drop (vAt l 4):=by
  rw[Z,b1,b2,U];simp[tlB]
 grind
end
theorem qadr{c:DY}(h:c≠0):(0:DY)<c:=by
 grind
theorem qah4{c d:DY}(h:c<d):d≠0:=λe=>by
 simp_all
theorem qyd(p:LB){a b:LB}(h:a<b):p++a<p++b:=by
 induction p<;>grind [List.cons_lt_cons_iff]
theorem q29:∀{a b:LB} (r s:LB),a<b->escL a++(0::0::r)<escL b++(0::0::s)
 | _,[],_,_,h=>absurd h (List.not_lt_nil _)
 | [],d::b,r,s,_=>by
  by_cases U:d=0
  ·subst U;rw[qaw];exact Bp.2 (.inr ⟨rfl,Bp.2 (.inl Od)⟩)
  ·rw[qae _ U];exact Bp.2 (.inl (qadr U))
 | c::a,d::b,r,s,h=>by
  rcases Bp.1 h with h1|⟨rfl,h1⟩
  ·rw[qae _ (qah4 h1)]
   by_cases H:c=0
   ·subst H;rw[qaw];exact Bp.2 (.inl h1)
   ·rw[qae _ H];exact Bp.2 (.inl h1)
  ·by_cases H:c=0
   ·subst H;rw[qaw,qaw];exact qyd [0,1] (q29 r s h1)
   ·rw[qae _ H,qae _ H];exact qyd [c] (q29 r s h1)
theorem qadp:∀{a b:LB} (r s:LB),(∀c∈b,c≠0)->a<b->a++(0::r)<b++(0::s)
 | _,[],_,_,_,h=>absurd h (List.not_lt_nil _)
 | [],d::b,r,s,H,_=>Bp.2 (.inl (qadr (H d mh)))
 | c::a,d::b,r,s,H,h=>by
  rcases Bp.1 h with h1|⟨rfl,h1⟩
  ·exact Bp.2 (.inl h1)
  ·exact qyd [c] (qadp r s (λx U=>H x (zmc U)) h1)
theorem qps{a b:TM}(ha:qap a=0)(W:qap b=0)(hk:a.kind=b.kind)(h:LtT a b):qal a<qal b:=by
 have h:slt a.text b.text=true\/(a.text=b.text/\(slt a.type b.type=true\/(a.type=b.type/\slt a.lang b.lang=true))):=by
  rcases h with g|⟨_,g⟩
  all_goals omega
 simp only[qdy]at h
 by_cases h3:b.kind=3
 ·have H:ReadsAs 3 (qal a) a:=⟨by omega,ha,rfl⟩
  have U:ReadsAs 3 (qal b) b:=⟨h3,W,rfl⟩
  obtain⟨Z,_⟩:=H.lit;obtain⟨eb,hz⟩:=U.lit
  grind [q29,qyd,qadp]
 ·have H:ReadsAs a.kind (qal a) a:=⟨rfl,ha,rfl⟩
  have U:ReadsAs b.kind (qal b) b:=⟨rfl,W,rfl⟩
  obtain⟨a1,a2,a3⟩:=H.plain Oo;obtain⟨b1,b2,b3⟩:=U.plain h3
  simp_all
theorem qajl{a b:LB}(h:a<b):leL b a=false:=by
 grind [leL,qdy,qaf]
open Classical in
noncomputable def dicE(L:List LB):Nat:=
 if 4194304<L.length\/∃i,262144<(tx L i).length then 2 else if ∃i,i+1<L.length/\leL (tx L (i+1)) (tx L i)=true then 160 else if 67108864<(qam L).length then 1 else 0
section
variable {l:LB} (h:(toE l).2=0)
include h
theorem qxh{i:Nat}(hi:i+1<vNum l 3):∀(d:Nat) {j:Nat},3-j=d->j<=3->tUp l (i+1) j=tUp l i j+1->∃k,k<4/\(∀m,m<k->tNum l (i+1) m=tNum l i m)/\tNum l i k<tNum l (i+1) k
 | d,j,H,hj,g=>by
  have U:=qg8 (qbq h) hi j hj;obtain⟨_,h2⟩:=qaga h (k:=3-j) (e:=tUp l (i+1) j) Oo U;have W:(3-j=0\/bitN ((qe l (3-j)).drop 8) (tUp l i j)≠1)->∃k,k<4/\(∀m,m<k->tNum l (i+1) m=tNum l i m)/\tNum l i k<tNum l (i+1) k:=λZ=>by
   have h3:=h2 Oo (by simp_all);refine⟨3-j,by omega,λm hm=>?_,?_⟩
   ·have g2:=qk6 (qbq h) (i:=i) Oo (show j<3 by omega) g (Z.resolve_left Oo)
    grind [qk7,tNum]
   grind [qna]
  by_cases h0:3-j=0
  ·simp_all
  ·by_cases Z:bitN ((qe l (3-j)).drop 8) (tUp l i j)=1
   ·have g2:=qnb (qbq h) (i:=i) Oo (show j<3 by omega) g Z;clear W
    match d,H with
    | 0,H=>omega
    | d+1,H=>exact qxh hi d (j:=j+1) Oo Oo g2
   simp_all
theorem qpg:TOk (tNum l) (vNum l 3):=by
 refine⟨?_,λi k hi hk=>?_,λi H hi=>?_⟩
 ·have ht:=(qt1 (qca h).1).1 3 Od
  grind [numE,tcF]
 ·have h2:=qg8 (qbq h) hi (3-k) Oo;obtain⟨h1,_⟩:=qaga h hk (e:=tUp l i (3-k)) (by grind)
  grind [qna]
 ·obtain⟨i,rfl⟩:∃m,i=m+1:=⟨i-1,by omega⟩
  exact qxh h hi 3 (j:=0) rfl Oo rfl
end
section
variable {Q R:Nat->Nat->Nat} {n:Nat} (h:∀i k,i<n->k<4->Q i k=R i k)
include h
theorem qp1{i:Nat}(hi:i<n):∀{k:Nat},k<4->frU Q i k=frU R i k
 | 0,hk=>by rw[frU,frU,h i 0 hi hk,h (i-1) 0 Oo hk]
 | k+1,hk=>by rw[frU,frU,qp1 hi (k:=k) Oo,h i (k+1) hi hk,h (i-1) (k+1) Oo hk]
theorem qvb{k:Nat}(hk:k<4):∀{i:Nat},i<=n->nuT Q k i=nuT R k i
 | 0,_=>rfl
 | i+1,hi=>by rw[nuT,nuT,qp1 h (i:=i) Oo hk,h i k Oo hk,qvb hk (i:=i) Oo]
theorem q6t{k:Nat}(hk:k+1<4):∀{i:Nat},i<=n->stT Q k i=stT R k i
 | 0,_=>rfl
 | i+1,hi=>by rw[stT,stT,qp1 h (i:=i) Oo hk,qp1 h (i:=i) (k:=k) Oo Oo,q6t hk (i:=i) Oo]
theorem q4l(hk:k<4):leT Q k n=leT R k n:=by rw[leT,leT,qvb h hk znr]
theorem qafr(hk:k<4):lvB Q n k=lvB R n k:=by
 rw[lvB,lvB,qvb h hk znr,q4l h hk]
 by_cases e:k=0
 ·simp_all
 ·rw[Aa e,Aa e,q6t h Oo znr]
theorem q64:qu Q n=qu R n:=by
 grind [qu,q4l,tlB,qafr]
end
noncomputable def sTm(l:LB)(k:Nat):List TM:=(txsD (sDict l k)).map λs=>(qhk ((k+1:Nat):Int) s).getD zTM
noncomputable def vTms(l:LB):List TM:=sTm l 0++(sTm l 1++sTm l 2)
theorem qjd{H:Type}{p:H->Bool}{l:List H}(h:∀x∈l,p x=true):l.filter p=l:=List.filter_eq_self.2 h
theorem qct{H:Type}{p:H->Bool}{l:List H}(h:∀x∈l,p x=false):l.filter p=[]:=List.filter_eq_nil_iff.2 λx U=>by simp_all
theorem qfb(l:LB)(k:Nat):(sTm l k).length=dN (sDict l k):=by grind [sTm,qde]
theorem qi0(l:LB):(vTms l).length=vTot l 3:=by
 have e:vTot l 3=0+dN (sDict l 0)+dN (sDict l 1)+dN (sDict l 2):=rfl;rw[vTms,zla,zla,qfb,qfb,qfb,e];omega
section
variable {l:LB} (h:(vwE l).2=0)
include h
theorem qhm(hk:k<3)(H:j<dN (sDict l k)):dGet (sDict l k) j=some (tx (txsD (sDict l k)) j):=by
 have h2:=(qd8 h).2.1 k hk;obtain⟨_,_,h3,_⟩:=qbs h2
 grind [qhd,qwj]
theorem q6h(hk:k<3)(H:j<dN (sDict l k)):∃t,ReadsAs ((k+1:Nat):Int) (tx (txsD (sDict l k)) j) t:=by
 have h1:=q7s ((qd8 h).2.2 k hk) H;refine AD λg=>h1 ⟨_,qhm h hk H,λt ht=>g ⟨t,ht⟩⟩
theorem qtp(hk:k<3)(H:j<dN (sDict l k)):∃t,ReadsAs ((k+1:Nat):Int) (tx (txsD (sDict l k)) j) t/\(sTm l k)[j]?=some t:=by
 grind [q6h,txsD,tx,sTm,qej]
theorem qaj9(hk:k<3){t:TM}(ht:t∈sTm l k):∃j,j<dN (sDict l k)/\(sTm l k)[j]?=some t/\ReadsAs ((k+1:Nat):Int) (tx (txsD (sDict l k)) j) t:=by
 grind [List.mem_iff_getElem?,qfb,qtp]
theorem qk4(hk:k<3){t:TM}(ht:t∈sTm l k):t.kind=((k+1:Nat):Int)/\qap t=0:=by
 obtain⟨_,_,_,h3⟩:=qaj9 h hk ht;exact⟨h3.kind,h3.ok⟩
theorem qahh(hk:k<3):(sTm l k).map qal=txsD (sDict l k):=by
 apply Bk;intro j;rw[Ao]
 by_cases H:j<dN (sDict l k)
 ·obtain⟨t,h1,h2⟩:=qtp h hk H;have U:j<(txsD (sDict l k)).length:=by rw[qde];exact H
  rw[h2,Bd,h1.entry,tx,Ah,zge U];rfl
 grind [qfb,qde]
theorem qq2(hk:k<3):RiseT (sTm l k):=by
 refine Bw.2 λi j hi U Z=>?_;rw[qfb]at hi U;obtain⟨t,h1,h2⟩:=qtp h hk hi;obtain⟨u,W,g2⟩:=qtp h hk U;have et:=(Af.1 h2).2;have eu:=(Af.1 g2).2;rw[et,eu];obtain⟨d,rfl⟩:∃d,j=i+1+d:=⟨j-(i+1),by omega⟩
 have H:=qpo ((qd8 h).2.1 k hk) U (qhm h hk hi) (qhm h hk U);rw[<-h1.entry,<-W.entry]at H
 rcases LtT.tri t u with a|a|a
 ·exact a
 ·grind
 ·exact absurd (List.lt_trans H (qps W.ok h1.ok (by rw[h1.kind,W.kind]) a)) (List.lt_irrefl _)
theorem qab1{t:TM}:t∈vTms l↔∃k,k<3/\t∈sTm l k:=by
 have H:=h;rw[vTms,Bc,Bc]
 grind
theorem qgi{t:TM}(ht:t∈vTms l):1<=t.kind/\t.kind<=3/\qap t=0:=by
 grind [qab1,qk4]
theorem qnj:RiseT (vTms l):=by
 have H:∀{i j:Nat},i<3->j<3->i<j->∀a∈sTm l i,∀b∈sTm l j,LtT a b:=λhi Z U a ha b W=>.inl (by grind [qk4])
 refine Cq.2 ⟨qq2 h Od,Cq.2 ⟨qq2 h Od,qq2 h Od,H Od Od Od⟩,λa ha b W=>?_⟩
 grind
theorem qab2(hk:k<3):ofK (vTms l) k=sTm l k:=by
 have U:∀t∈sTm l k,decide (t.kind=((k+1:Nat):Int))=true:=λt ht=>AE (qk4 h hk ht).1
 have H:∀j,j<3->j≠k->∀t∈sTm l j,decide (t.kind=((k+1:Nat):Int))=false:=λj Z W t ht=>AM (by grind [qk4])
 rw[ofK,vTms,Dk,Dk]
 match k,hk with
 | 0,_=>rw[qjd U,qct (H 1 Od Od),qct (H 2 Od Od),B4,B4]
 | 1,_=>rw[qjd U,qct (H 0 Od Od),qct (H 2 Od Od),B4,Bn]
 | 2,_=>rw[qjd U,qct (H 0 Od Od),qct (H 1 Od Od),Bn,Bn]
theorem qzl(hk:k<3):secE (vTms l) k=txsD (sDict l k):=by rw[qcz,qab2 h hk,qahh h hk]
theorem qrl:vocB (vTms l)=l:=by
 grind [vocB,qzl,q1q]
theorem qt9(U:id≠0)(h1:id<=vTot l 3):qcl l id=(vTms l)[id-1]?:=by
 obtain⟨W,Z,p3⟩:=qrk U h1;have h4:vTot l (qce l id+1)=vTot l (qce l id)+dN (sDict l (qce l id)):=rfl;have H:id-(vTot l (qce l id)+1)<dN (sDict l (qce l id)):=by omega
 obtain⟨t,g1,g2⟩:=qtp h W H;rw[qcl,Aa U,Aa Oo,qhm h W H];dsimp only;rw[qej g1,<-g2];have t0:vTot l 0=0:=rfl;have t1:vTot l 1=(sTm l 0).length:=by rw[qfb];exact As _
 have t2:vTot l 2=vTot l 1+(sTm l 1).length:=by rw[qfb];rfl
 have hp:qce l id=0\/qce l id=1\/qce l id=2:=by omega
 rcases hp with e|e|e<;>rw[e]at Z p3 H|-
 ·simp_all[vTms,Ba]
 ·rw[<-qfb]at H;rw[vTms,Be Oo,Ba Oo];grind
 ·rw[vTms,Be Oo,Be Oo];grind
theorem qael(hk:k<3):DOk (txsD (sDict l k)):=by
 have h2:=(qd8 h).2.1 k hk;have hE:=(qbs h2).1;have W:(errF (dhF (sDict l k)) 2).2=0:=AD λg=>by grind [dE]
 have H:=qan W;have Z:(numL ((sDict l k).drop (vAt (sDict l k) 0))).2.2=0:=AD λg=>by
  have:=H 0 Oo
  grind [dhF,qgq]
 have n1:(numL ((sDict l k).drop (vAt (sDict l k) 1))).2.2=0:=AD λg=>by
  have:=H 1 Oo
  grind [dhF,qgq]
 have U:=q5d Z (H 0 Oo);have m1:=q5d n1 (H 1 Oo);rw[Ad rfl]at U;rw[Aa Od]at m1;refine⟨by rw[qde];exact U,λi=>?_,λi hi=>?_,?_⟩
 ·by_cases hi:i<dN (sDict l k)
  ·exact qku (qhm h hk hi)
  grind [tx,qde]
 ·rw[qde]at hi;exact qajl (qlr h2 (j:=i+1) Oo hi (by grind [qhm]) (qhm h hk hi))
 grind [qw6,dE,dEnd,qez,qd]
end
theorem LtQ.trans{a b c:Q4}(h:LtQ a b)(g:LtQ b c):LtQ a c:=by
 obtain⟨k,h1,h2,h3⟩:=h;obtain⟨m,Z,U,W⟩:=g
 rcases CG k m with e|e|e
 ·exact⟨k,h1,λj H=>(h2 j H).trans (U j Oo),by rw[<-U k e];exact h3⟩
 ·subst e;exact⟨k,h1,λj H=>(h2 j H).trans (U j H),h3.trans W⟩
 ·exact⟨m,Z,λj H=>(h2 j Oo).trans (U j H),by rw[h2 m e];exact W⟩
theorem qs4{H:Type}{R:H->H->Prop}(ht:∀a b c,R a b->R b c->R a c){l:List H}(h:∀i a b,l[i]?=some a->l[i+1]?=some b->R a b):l.Pairwise R:=by
 refine Bw.2 λi j hi W U=>?_;obtain⟨d,rfl⟩:∃d,j=i+1+d:=⟨j-(i+1),by omega⟩
 clear U
 induction d with
 | zero=>exact h i _ _ (zge hi) (zge W)
 | succ d Z=>exact ht _ _ _ (Z Oo) (h (i+1+d) _ _ (zge Oo) (zge W))
noncomputable def qsP(l:LB):List Q4:=(List.range (vNum (qj l) 3)).map λi=>q4Of (qh l) (tNum (qj l) i)
theorem q5v(hi:i<vNum (qj l) 3):(qsP l)[i]?=some (q4Of (qh l) (tNum (qj l) i)):=by simp_all[qsP]
theorem qmo(l:LB):(qsP l).length=vNum (qj l) 3:=by simp[qsP]
theorem qadj{q:Q4}(h:q∈qsP l):∃i,i<vNum (qj l) 3/\q=q4Of (qh l) (tNum (qj l) i):=by
 grind [qsP]
theorem qacx(v:LB)(q:Nat->Nat)(hk:k<4):gat (q4Of v q) k=uT v q k:=
 match k,hk with
 | 0,_=>rfl
 | 1,_=>rfl
 | 2,_=>rfl
 | 3,_=>rfl
theorem qoc(h:(qcd l).2=0):28<=l.length/\hN l 0=1095914324/\hN l 6=(crcL (l.take 24)).toNat/\hN l 1=1/\hN l 4+hN l 5+36<=67108864/\l.length=hN l 4+hN l 5+36:=by
 rw[qcd]at h
 by_cases H:l.length<28
 case pos=>simp_all
 rw[Aa H]at h
 by_cases U:hN l 0≠1095914324
 all_goals grind
theorem qcm{n:Nat}(H:a+4<=l.length)(h:leN ((l.drop a).take 4)=n):l.drop a=fixL n 4++l.drop (a+4):=by
 grind [qx9,qsb,List.drop_drop,List.take_append_drop]
theorem qvf(H:(qcd l).2=0)(h1:pS1 l)(h2:pS2 l):l=qc6 (hN l 2) (hN l 3) (qh l) (qj l):=by
 obtain⟨g1,U,W,Z,g5,g6⟩:=qoc H;have lv:(qh l).length=hN l 4:=by grind [qh]
 have lt:(qj l).length=hN l 5:=by grind [qj]
 have r0:l=fixL 1095914324 4++l.drop 4:=qcm (a:=0) Oo U;have r1:l.drop 4=fixL 1 4++l.drop 8:=qcm (a:=4) Oo Z;have r2:l.drop 8=fixL (hN l 2) 4++l.drop 12:=qcm (a:=8) Oo rfl;have r3:l.drop 12=fixL (hN l 3) 4++l.drop 16:=qcm (a:=12) Oo rfl;have r4:l.drop 16=fixL (hN l 4) 4++l.drop 20:=qcm (a:=16) Oo rfl;have r5:l.drop 20=fixL (hN l 5) 4++l.drop 24:=qcm (a:=20) Oo rfl;have r6:l.drop 24=fixL (crcL (l.take 24)).toNat 4++l.drop 28:=qcm (a:=24) Oo W;have r7:l.drop 28=qh l++l.drop (28+hN l 4):=by rw[qh,<-Ar,AW]
 have r8:l.drop (28+hN l 4)=fixL (crcL (qh l)).toNat 4++l.drop (28+hN l 4+4):=qcm Oo h1.symm;have r9:l.drop (28+hN l 4+4)=qj l++l.drop (32+hN l 4+hN l 5):=by
  grind [qj,List.drop_drop,List.take_append_drop]
 have aa:l.drop (32+hN l 4+hN l 5)=fixL (crcL (qj l)).toNat 4:=by
  have:=qcm (l:=l) (a:=32+hN l 4+hN l 5) Oo h2.symm
  grind
 have ad:l.take 24=h24 (hN l 2) (hN l 3) (hN l 4) (hN l 5):=by
  have e:l=h24 (hN l 2) (hN l 3) (hN l 4) (hN l 5)++l.drop 24:=by
   grind [h24]
  grind [ql1]
 grind [qc6,sumL,List.take_append_drop]
section
variable {l:LB} (h:(poE l).2=0)
include h
theorem qacm(hi:i<vNum (qj l) 3)(hk:k<4):(k≠0->1<=tNum (qj l) i k)/\tNum (qj l) i k<=vTot (qh l) 3/\qcl (qh l) (tNum (qj l) i k)=some (gat (q4Of (qh l) (tNum (qj l) i)) k):=by
 obtain⟨_,_,_,_,H,_,_,U,_⟩:=qb7 h;obtain⟨W,_⟩:=U i hi;have Z:=W k hk;refine⟨((qpg H).num i k hi hk).1,?_,?_⟩
 ·grind [qcl]
 ·rw[qacx _ _ hk,uT];cases e:qcl (qh l) (tNum (qj l) i k)<;>grind
theorem q2e(hi:i<vNum (qj l) 3)(hk:k<4):(tNum (qj l) i k=0/\gat (q4Of (qh l) (tNum (qj l) i)) k=zTM)\/(tNum (qj l) i k≠0/\(vTms (qh l))[tNum (qj l) i k-1]?=some (gat (q4Of (qh l) (tNum (qj l) i)) k)):=by
 obtain⟨_,h2,h3⟩:=qacm h hi hk;obtain⟨_,_,_,H,_⟩:=qb7 h
 grind [qcl,zTM,qt9]
theorem qaen:(vTms (qh l)).length<=4194304:=by
 obtain⟨_,_,_,_,H,_,_,_,U⟩:=qb7 h;rw[qi0];refine AD λg=>?_;obtain⟨i,h1,j,h2,h3⟩:=U (vTot (qh l) 3) Oo znr;have:=((qpg H).num i j h1 h2).2;omega
theorem q8p(hi:i+1<vNum (qj l) 3):LtQ (q4Of (qh l) (tNum (qj l) i)) (q4Of (qh l) (tNum (qj l) (i+1))):=by
 obtain⟨_,_,_,U,W,_⟩:=qb7 h;obtain⟨k,h1,h2,h3⟩:=(qpg W).rise (i+1) Oo hi;rw[Bm]at h2 h3;refine⟨k,h1,λj hj=>?_,?_⟩
 ·grind [qacx,uT]
 ·rcases q2e h (i:=i) Oo h1 with⟨Z,H⟩|⟨Z,H⟩<;>rcases q2e h hi h1 with⟨b1,b2⟩|⟨b1,b2⟩
  ·omega
  ·rw[H];have:=qgi U (zmg b2);exact .inl (by show(0:Int)<_;omega)
  ·omega
  ·exact(qnj U).at Oo H b2
theorem qaeo:SetOk (vTms (qh l)) (qsP l):=by
 obtain⟨_,_,_,U,W,_⟩:=qb7 h;refine⟨qnj U,qaen h,λt ht=>by have:=qgi U ht;omega,λq Z k hk=>?_,by rw[qmo];exact(qpg W).nle,?_⟩
 ·obtain⟨i,hi,rfl⟩:=qadj Z
  rcases q2e h hi hk with⟨a1,H⟩|⟨a1,H⟩
  ·refine .inr ⟨?_,by rw[H];rfl,H⟩
   grind [qacm]
  grind
 grind [qs4,LtQ.trans,qmo,q5v,q8p]
theorem qait(hi:i<vNum (qj l) 3)(hk:k<4):noQ (vTms (qh l)) (qsP l) i k=tNum (qj l) i k:=by
 obtain⟨_,_,_,U,_⟩:=qb7 h;rw[qia (q5v hi)]
 rcases q2e h hi hk with⟨W,H⟩|⟨W,H⟩
 ·rw[H,W];rfl
 ·rw[qf0 (qnj U) H (by have:=qgi U (zmg H);omega)];omega
theorem qxi:qu (noQ (vTms (qh l)) (qsP l)) (qsP l).length=qj l:=by
 obtain⟨_,_,_,_,H,_⟩:=qb7 h;rw[qmo,q64 λi k hi hk=>qait h hi hk]
 grind [q1o]
theorem q2f:l=encP (vTms (qh l)) (qsP l):=by
 obtain⟨h1,h2,h3,H,U,W,Z,_⟩:=qb7 h
 grind [encP,qrl,qxi,qi0,qmo,qvf]
theorem qaem:EncOk (vTms (qh l)) (qsP l):=by
 obtain⟨h1,h2,h3,H,h5,h6,h7,U,W⟩:=qb7 h;obtain⟨g1,_,_,_,g5,g6⟩:=qoc h1;have lv:(qh l).length=hN l 4:=by grind [qh]
 have lt:(qj l).length=hN l 5:=by grind [qj]
 refine⟨qaeo h,⟨λk hk=>by grind [qzl,qael],?_⟩,λt ht=>(qgi H ht).2.1,λt ht=>(qgi H ht).2.2,λq Z=>?_,λt ht=>?_,?_⟩
 ·grind [qrl,vocB,jo3]
 ·obtain⟨i,hi,rfl⟩:=qadj Z;exact(U i hi).2
 ·obtain⟨j,hj⟩:=AP.1 ht;have hl:=(Af.1 hj).1;rw[qi0]at hl;obtain⟨i,a1,k,a2,a3⟩:=W (j+1) Oo Oo;refine⟨_,zmg (q5v a1),k,a2,?_⟩
  grind [q2e]
 grind [qrl,qxi]
end
def cmpQ(a b:Q4):Int:=if cmpT a.g b.g≠0 then cmpT a.g b.g else if cmpT a.s b.s≠0 then cmpT a.s b.s else if cmpT a.p b.p≠0 then cmpT a.p b.p else cmpT a.o b.o
theorem qc9{a b:Q4}:cmpQ a b<0↔LtQ a b:=by
 unfold cmpQ
 constructor
 ·intro h
  by_cases U:cmpT a.g b.g≠0
  ·rw[Ad U]at h;exact⟨0,by decide,λj H=>absurd H (BL _),qav.1 h⟩
  rw[Aa U]at h;have W:=qau.1 (CY.1 U)
  by_cases h1:cmpT a.s b.s≠0
  ·rw[Ad h1]at h;exact⟨1,by decide,λj H=>by obtain rfl:j=0:=(by omega);exact W,qav.1 h⟩
  rw[Aa h1]at h;have Z:=qau.1 (CY.1 h1)
  by_cases h2:cmpT a.p b.p≠0
  ·rw[Ad h2]at h;refine⟨2,by decide,λj H=>?_,qav.1 h⟩
   rcases(show j=0\/j=1 by omega)with rfl|rfl
   ·exact W
   ·exact Z
  rw[Aa h2]at h;have e2:=qau.1 (CY.1 h2);refine⟨3,by decide,λj H=>?_,qav.1 h⟩
  rcases(show j=0\/j=1\/j=2 by omega)with rfl|rfl|rfl
  ·exact W
  ·exact Z
  ·exact e2
 ·rintro⟨k,hk,h1,h2⟩
  match k,hk with
  | 0,_=>
   have:=qav.2 h2;have g:cmpT a.g b.g<0:=this;omega
  | 1,_=>
   have g:cmpT a.s b.s<0:=qav.2 h2;rw[Aa (λx=>x (qau.2 (h1 0 Od))),Ad Oo];exact g
  | 2,_=>
   have g:cmpT a.p b.p<0:=qav.2 h2;rw[Aa (λx=>x (qau.2 (h1 0 Od))),Aa (λx=>x (qau.2 (h1 1 Od))),Ad Oo];exact g
  | 3,_=>
   have g:cmpT a.o b.o<0:=qav.2 h2;rw[Aa (λx=>x (qau.2 (h1 0 Od))),Aa (λx=>x (qau.2 (h1 1 Od))),Aa (λx=>x (qau.2 (h1 2 Od)))];exact g
def q1u(qs:List Q4)(n:Nat):Prop:=∀i,i+1<n->∀a b,qs[i]?=some a->qs[i+1]?=some b->LtQ a b
open Classical in
noncomputable def valE(qs:List Q4):Nat:=if 1048576<qs.length then 2 else if qdq (qs.map qbo)≠0 then qdq (qs.map qbo)else if q1u qs qs.length then 0 else 6
theorem qua(h:1048576<qs.length):valE qs=2:=by rw[valE,Ad h]
theorem qub(h:¬1048576<qs.length){e:Nat}{q:Q4}(H:qs[i]?=some q)(hj:∀j r,j<i->qs[j]?=some r->qbo r=0)(U:qbo q=e)(h0:e≠0):valE qs=e:=by
 have hl:=(Af.1 H).1;have e1:qdq (qs.map qbo)=e:=by
  rw[qly (k:=i) (by simp_all) (λj W Z=>by grind)
   (by simp_all),CA,(Af.1 H).2,U]
 grind [valE]
theorem qon(h:∀q∈qs,qbo q=0):qdq (qs.map qbo)=0:=
 qe1 λj H=>by simp_all
theorem qzn(h:¬1048576<qs.length)(U:∀q∈qs,qbo q=0){a b:Q4}(ha:qs[i]?=some a)(H:qs[i+1]?=some b)(W:¬LtQ a b):valE qs=6:=by
 have Z:=(Af.1 H).1;rw[valE,Aa h,qon U,Aa (λg=>g rfl),Aa (λg=>W (g i Z a b ha H))]
theorem q7j(h:¬1048576<qs.length)(H:∀q∈qs,qbo q=0)(hr:q1u qs qs.length):valE qs=0:=by
 grind [valE,qon]
theorem qje:∀{l:Ef},qdq l=0->∀x∈l,x=0
 | [],_,x,H=>by cases H
 | y::l,h,x,H=>by
  rw[qdq]at h
  by_cases e:y=0
  ·rw[Aa (λg=>g e)]at h
   rcases AB.1 H with rfl|H
   ·exact e
   ·exact qje h x H
  ·rw[Ad e]at h;exact absurd h e
theorem qep(h:valE qs=0):qs.length<=1048576/\(∀q∈qs,qbo q=0)/\qs.Pairwise LtQ:=by
 unfold valE at h
 by_cases h1:1048576<qs.length
 case pos=>simp_all
 rw[Aa h1]at h
 by_cases h2:qdq (qs.map qbo)≠0
 case pos=>simp_all
 rw[Aa h2]at h
 by_cases h3:q1u qs qs.length
 case neg=>simp_all
 refine⟨by omega,λq U=>qje (CY.1 h2) _ (AF.2 ⟨q,U,rfl⟩),qs4 (R:=LtQ) (λ_ _ _ h g=>LtQ.trans h g) λi a b ha H=>h3 i (Af.1 H).1 a b ha H⟩
theorem qqs{q:Q4}(h:qbo q=0)(hk:k<4):qE k (q.at k)=0:=qje h _ (AF.2 ⟨k,BP.2 hk,rfl⟩)
theorem qqr{t:TM}(h:qE k t=0):canB k t=true/\((k=3/\t.kind=0)\/qap t=0):=by
 grind [qE]
theorem qov{t:TM}(h:qap t=0):1<=t.kind/\t.kind<=3:=by
 grind [qap]
theorem qach{t:TM}(h:qwu t=true):t=zTM:=q6.1 h
theorem qqt{q:Q4}(h:qbo q=0)(hk:k<4):(qap (gat q k)=0/\gat q k∈trQ q)\/(k=0/\(gat q k).kind=0/\gat q k=zTM):=by
 match k,hk with
 | 0,_=>
  obtain⟨h1,h2⟩:=qqr (qqs h (k:=3) Od)
  by_cases H:q.g.kind=0
  ·refine .inr ⟨rfl,H,?_⟩;have h1:canB 3 q.g=true:=h1;rw[canB,Aa Oo,Aa Oo,Aa Oo]at h1;simp only[DE,decide_eq_true_eq]at h1
   rcases h1 with(h1|h1)|h1
   ·exact qach h1
   all_goals omega
  ·refine .inl ⟨h2.resolve_left λg=>H g.2,?_⟩;rw[trQ,Aa H];exact Ac _ (Ak.2 rfl)
 | 1,_=>
  obtain⟨_,h2⟩:=qqr (qqs h (k:=0) Od);exact .inl ⟨h2.resolve_left λg=>absurd g.1 Od,Aj _ mh⟩
 | 2,_=>
  obtain⟨_,h2⟩:=qqr (qqs h (k:=1) Od);exact .inl ⟨h2.resolve_left λg=>absurd g.1 Od,Aj _ (zmc mh)⟩
 | 3,_=>
  obtain⟨_,h2⟩:=qqr (qqs h (k:=2) Od);exact .inl ⟨h2.resolve_left λg=>absurd g.1 Od,Aj _ (zmc (zmc mh))⟩
theorem qwg{q:Q4}{t:TM}(h:t∈trQ q):∃k,k<4/\gat q k=t/\(k=0->(gat q k).kind≠0):=by
 rw[trQ]at h
 rcases Bc.1 h with h|h
 ·simp only[AB,BQ,or_false]at h
  rcases h with rfl|rfl|rfl
  ·exact⟨1,by decide,rfl,λg=>by cases g⟩
  ·exact⟨2,by decide,rfl,λg=>by cases g⟩
  ·exact⟨3,by decide,rfl,λg=>by cases g⟩
 ·by_cases H:q.g.kind=0
  ·simp_all
  ·rw[Aa H]at h;rw[Ak.1 h];exact⟨0,by decide,rfl,λ_=>H⟩
def tmsQ(qs:List Q4):List TM:=tmsN (trms qs).length (trms qs)
theorem qne(qs:List Q4):RiseT (tmsQ qs):=(qgf _ (trms qs) znr).1
theorem qaaa{t:TM}:t∈trms qs↔∃q∈qs,t∈trQ q:=by
 grind [trms]
theorem qgn{t:TM}:t∈tmsQ qs↔∃q∈qs,t∈trQ q:=by
 rw[<-qaaa];exact(qgf _ (trms qs) znr).2 t
section
variable {qs:List Q4} (h:valE qs=0)
include h
theorem qgg{t:TM}(ht:t∈tmsQ qs):qap t=0/\1<=t.kind/\t.kind<=3:=by
 obtain⟨q,H,U⟩:=qgn.1 ht;obtain⟨k,hk,rfl,W⟩:=qwg U
 rcases qqt ((qep h).2.1 q H) hk with g|⟨Z,g2,_⟩
 all_goals simp_all[qov]
theorem qzg(H:(tmsQ qs).length<=4194304):SetOk (tmsQ qs) qs:=by
 obtain⟨h1,h2,h3⟩:=qep h;refine⟨qne qs,H,λt ht=>by have:=qgg h ht;omega,λq U k hk=>?_,h1,h3⟩
 grind [qqt,qgn]
theorem qabt(H:(tmsQ qs).length<=4194304)(U:VOk (tmsQ qs))(W:(vocB (tmsQ qs)).length+(qu (noQ (tmsQ qs) qs) qs.length).length+36<=67108864):EncOk (tmsQ qs) qs:=by
 refine⟨qzg h H,U,λt ht=>(qgg h ht).2.2,λt ht=>(qgg h ht).1,λq Z=>(qep h).2.1 q Z,λt ht=>?_,W⟩
 grind [qgn,qwg]
end
theorem EncOk.terms(h:EncOk T qs):T=tmsQ qs:=by
 refine RiseT.ext h.set.rise (qne qs) λt=>⟨λht=>?_,λht=>?_⟩
 ·obtain⟨q,H,k,hk,e⟩:=h.used t ht
  rcases qqt (h.quad q H) hk with g|⟨_,g,_⟩
  ·grind [qgn]
  ·have:=h.set.kind t ht;simp_all
 ·obtain⟨q,H,U⟩:=qgn.1 ht;obtain⟨k,hk,e,W⟩:=qwg U
  rcases h.set.mem q H k hk with g|⟨Z,g2,_⟩
  all_goals simp_all
theorem q2v{L:List LB}(h:4194304<L.length):dicE L=2:=by grind [dicE]
theorem q2x{L:List LB}(h:262144<(tx L i).length):dicE L=2:=by grind [dicE]
theorem q2w{L:List LB}(h:¬4194304<L.length)(h2:∀i,¬262144<(tx L i).length)(hi:i+1<L.length)(H:leL (tx L (i+1)) (tx L i)=true):dicE L=160:=by
 rw[dicE,Aa (λg=>g.elim h λ⟨i,g⟩=>h2 i g),Ad ⟨i,hi,H⟩]
theorem qlq{L:List LB}(h:dicE L=0):DOk L:=by
 unfold dicE at h
 by_cases h1:4194304<L.length\/∃i,262144<(tx L i).length
 case pos=>simp_all
 rw[Aa h1]at h
 by_cases h2:∃i,i+1<L.length/\leL (tx L (i+1)) (tx L i)=true
 case pos=>simp_all
 rw[Aa h2]at h
 by_cases h3:67108864<(qam L).length
 case pos=>simp_all
 refine⟨Di.1 λg=>h1 (.inl g),λi=>Di.1 λg=>h1 (.inr ⟨i,g⟩),λi hi=>?_,by omega⟩
 simp_all
noncomputable def qhu(T:List TM):Nat:=if dicE (secE T 0)≠0 then dicE (secE T 0)else if dicE (secE T 1)≠0 then dicE (secE T 1)else dicE (secE T 2)
theorem qab8(hk:k<3)(h:∀j,j<k->dicE (secE T j)=0)(H:dicE (secE T k)≠0):qhu T=dicE (secE T k):=by
 grind [qhu]
theorem qab9(h:∀k,k<3->dicE (secE T k)=0):qhu T=0:=by
 grind [qhu]
theorem qo1(h:qhu T=0):∀k,k<3->dicE (secE T k)=0:=by
 unfold qhu at h
 grind
def pkB(qs:List Q4):LB:=encP (tmsQ qs) qs
theorem qagv(qs:List Q4):(pkB qs).length=(vocB (tmsQ qs)).length+(qu (noQ (tmsQ qs) qs) qs.length).length+36:=qyp _ _ _ _
noncomputable def encE(qs:List Q4)(most:Int):Nat:=
 if valE qs≠0 then valE qs else if qhu (tmsQ qs)≠0 then qhu (tmsQ qs)else if most<((pkB qs).length:Int)\/67108864<(pkB qs).length then 1 else 0
section
variable {qs:List Q4} {most:Int}
theorem q89(h:valE qs≠0):encE qs most=valE qs:=by rw[encE,Ad h]
theorem q9a(h:valE qs=0)(h2:qhu (tmsQ qs)≠0):encE qs most=qhu (tmsQ qs):=by grind [encE]
theorem q87(h:valE qs=0)(h2:qhu (tmsQ qs)=0)(h3:most<((pkB qs).length:Int)\/67108864<(pkB qs).length):encE qs most=1:=by grind [encE]
theorem qae0(h:valE qs=0)(h2:qhu (tmsQ qs)=0)(h3:¬(most<((pkB qs).length:Int)\/67108864<(pkB qs).length)):encE qs most=0:=by grind [encE]
theorem qlt(h:encE qs most=0):valE qs=0/\qhu (tmsQ qs)=0/\((pkB qs).length:Int)<=most/\(pkB qs).length<=67108864:=by
 grind [encE]
theorem qaja(a b c:LB):a.length+b.length+c.length<=(jo3 a b c).length:=by
 grind [jo3]
theorem q88(U:(tmsQ qs).length<=4194304)(h:encE qs most=0):EncOk (tmsQ qs) qs:=by
 obtain⟨h1,h2,_,H⟩:=qlt h;rw[qagv]at H;refine qabt h1 U ⟨λk hk=>qlq (qo1 h2 k hk),?_⟩ H
 grind [qaja,vocB]
theorem EncOk.pk(h:EncOk T qs):encP T qs=pkB qs:=by rw[pkB,<-h.terms]
end
theorem qv6(g:FuncId)(Z c2:DZ)(n:Nat)(p:Nat->Bool)(w:DU)(hn:n<=4194304)(hp:∀i j,i<=j->p i=true->p j=true)(hg:∀i w',i<n->Ext w w'->Gv Eg g [ii i,Z,c2] w' λr aa=>r=.bool (p i)/\Ext w' aa):
  Gv Eg 208 [ii n,.func (.func g) #[] #[Z,c2]] w λr w'=>∃k:Nat,r=ii k/\k<=n/\(∀i,i<k->p i=false)/\(∀i,k<=i->i<n->p i=true)/\Ext w w':=by
 refine ze Tryz.func208 Tryz.ntmps208 ?_;refine qk (λs:Nat×Nat=>[(1,.func (.func g) #[] #[Z,c2]),(5,ii s.1),(6,ii s.2)])
  (λs w'=>s.1<=s.2/\s.2<=n/\(∀i,i<s.1->p i=false)/\(∀i,s.2<=i->i<n->p i=true)/\Ext w w') (λs=>s.2-s.1) (0,n) fq ⟨Ag _,Ai _,λi h=>by omega,λi h1 h2=>by omega,xr⟩ ?_
 rintro⟨a,b⟩ w1 ae ⟨h1,h2,h3,h4,H⟩;dsimp only at h1 h2 h3 h4|-;(conv=>whnf);refine zC (λ_=>zu ?_) (λ_=>zu ?_)
 ·obtain⟨h,eh⟩:∃h,h=(a+b)/2:=⟨_,rfl⟩
  rw[<-Int.natCast_add];refine V.Wit.shrN 1 rfl Od ?_;rw[Nat.pow_one,<-eh];refine zu ?_;refine zcv (hg h w1 Oo H) ?_;rintro r w2 ⟨rfl,ad⟩;have H:=H.trans ad;cases U:p h
  ·refine zu ?_;refine⟨(h+1,b),fq,⟨by show h+1<=b;omega,h2,λi hi=>?_,h4,H⟩,by show b-(h+1)<b-a;omega⟩
   by_cases W:p i=true
   ·have:=hp i h (by show i<=h;have hi:i<h+1:=hi;omega) W;rw[U]at this;cases this
   ·simpa using W
  ·refine zu ?_;refine⟨(a,h),fq,⟨by show a<=h;omega,by show h<=n;omega,h3,λi hi _=>hp h i hi U,H⟩,by show h-a<b-a;omega⟩
 ·obtain rfl:a=b:=by omega
  exact⟨a,rfl,h2,h3,h4,H⟩
def ltx(L:List LB)(i:Nat)(s:DV):Bool:=slt ⟨(tx L i).toArray⟩ s
theorem DOk.up{L:List LB}(h:DOk L)(H:i<j)(U:j<L.length):slt ⟨(tx L i).toArray⟩ ⟨(tx L j).toArray⟩=true:=by
 induction j with
 | zero=>omega
 | succ j W=>
  have h1:slt ⟨(tx L j).toArray⟩ ⟨(tx L (j+1)).toArray⟩=true:=by
   have h2:=h.rise j U;simp only[leL,DA]at h2
   rcases qq5 ⟨(tx L j).toArray⟩ ⟨(tx L (j+1)).toArray⟩with g|g|g
   ·exact g
   ·rw[g]at h2;have:=h2.2;simp[seq]at this
   ·rw[g]at h2;exact absurd h2.1 Od
  by_cases e:i=j
  ·subst e;exact h1
  ·exact qm5 (W Oo Oo) h1
theorem DOk.ltx_up{L:List LB}(h:DOk L){s:DV}(U:i<=j)(W:j<L.length)(H:ltx L j s=true):ltx L i s=true:=by
 by_cases e:i=j
 ·subst e;exact H
 ·exact qm5 (h.up Oo W) H
theorem qsa(b:Nat)(t s:DV)(w:DU)(H:w.cell? ⟨b,0,none⟩=some (.string s)):
  Gv Eg 248 [.string t,pp b] w λr w'=>r=.bool (slt t s)/\Ext w w':=by
 refine ze Tryz.func248 Tryz.ntmps248 ?_;refine LoadV.of H (zw ?_);exact⟨rfl,xr⟩
theorem qzs(L:List LB)(Z:DOk L)(b b2 b3 sb i:Nat)(s:DV)(w:DU)(hD:DictAt w b (qw L))(hi:i<upN L.length 16)(h2:w.cell? ⟨b2,0,none⟩=some (pp b))(h3:w.cell? ⟨b3,0,none⟩=some (.func (.func 248) #[] #[pp sb]))(hs:w.cell? ⟨sb,0,none⟩=some (.string s)):
  Gv Eg 321 [ii i,pp b2,pp b3] w λr w'=>r=.bool (!ltx L (16*i) s)/\Ext w w':=by
 have U:16*i<L.length:=by unfold upN at hi;omega
 have hn:=Z.n;have ae:=qr4 hD i;have hx:qgw (qd (qw L)) (q7 (qw L) i) true []=blk (qd (qw L)) (q7 (qw L) i) 0:=rfl;have hg:=qum (m:=qw L) (by rw[Z.eoE]) (i:=16*i) (by rw[Z.eN];exact U);rw[Z.eGet U,dTxt,show 16*i/16=i by omega,show 16*i%16=0 by omega]at hg;obtain⟨q1,q2⟩:=hg;have q2:=Bb q2;obtain⟨x,ex⟩:∃x,x=blk (qd (qw L)) (q7 (qw L) i) 0:=⟨_,rfl⟩
 rw[<-ex]at q1 q2 hx;obtain⟨P,cp,E',ce,af,_,_,_⟩:=id hD.1;refine ze Tryz.func321 Tryz.ntmps321 ?_;refine DrawV.free Jk Jk (zw ?_);apply zsd
 ·intro wd W;(conv=>whnf);refine LoadV.of (((Ext.refl w).drew.trans W).cell h2) (zw ?_);exact xq
 (conv=>whnf);apply zsd
 ·intro wd W;(conv=>whnf);refine LoadV.of (((Ext.refl w).drew.trans W).cell h2) (zw ?_);exact xq
 (conv=>whnf);refine zd ?_;apply zsd
 ·intro wd W;(conv=>whnf);refine zcv (qs5 b (qw L) i wd (hD.ext ((Ext.refl w).drew.trans W)) (by rw[Z.eN];exact hi)) ?_;rintro v w' ⟨rfl,rfl⟩;exact xq
 (conv=>whnf);apply zsd
 ·intro wd W;(conv=>whnf);refine zcv (qr7 b (qw L) (q7 (qw L) i) true ⟨#[]⟩ wd (hD.ext ((Ext.refl w).drew.trans W)) Oo Od) ?_;rintro v w' ⟨rfl,he⟩;exact⟨he,rfl⟩
 (conv=>whnf);have aa:qgw (qd (qw L)) (q7 (qw L) i) true (⟨#[]⟩:DV).data.toList=x:=hx;rw[aa];clear hx aa ex;obtain⟨x1,x2,x3⟩:=x;dsimp only at q1 q2;subst q1 q2;(iterate 7 (refine zd ?_));intro w2 H;have H:=(Ext.refl w).drew.trans H;(conv=>whnf);refine zC (λ_=>zu ?_) (λ_=>zu ?_)
 ·rename_i hx
  exact absurd rfl hx
 refine LoadV.of (H.cell h3) (zu ?_);refine zcv (qsa sb ⟨(tx L (16*i)).toArray⟩ s w2 (H.cell hs)) ?_;rintro r w3 ⟨rfl,ad⟩;refine zu ?_;exact⟨rfl,H.trans ad⟩
end Go.Proofs.YtccmcfpmknpccaaGreatDoor
