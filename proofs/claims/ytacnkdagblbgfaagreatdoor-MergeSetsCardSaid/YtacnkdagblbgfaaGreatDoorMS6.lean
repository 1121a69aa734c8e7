/- Part 6 of 11. -/
import Derived.Test.YtacnkdagblbgfaaGreatDoorMS5
namespace Go.Proofs.YtacnkdagblbgfaaGreatDoor
set_option maxHeartbeats 8000000
open Go.RowKit V
set_option maxHeartbeats 8000000
set_option maxRecDepth 100000
variable {w w' w0:Ez} {b base c hi i id j k lo m off:Nat} {ahead l:LB} {cs:EH} {fz:Nat×Nat} {M:ED} {e:E6} {A:oA} {out:List TM} {ops:Array Oper} {listed:Array Bool} {vals ρ ρa:EB} {a:Act} {o:Oper} {I:(Nat->Bool)->EB->EC} {Q':Exit->Act->EC} {P:E4} {v0 v1 v2 v3:E8} {news xs:EE} {s3:Bool} {S:List Bool} {Q:Nat->Nat->Nat}
def VVwR(l:LB)(v:E8)(w:Ez):Prop:=
 ((wE l).2≠0/\∃e,v=.tuple #[.pointer none,e]/\ErrAt w e (wE l).1 (wE l).2)\/((wE l).2=0/\∃b,v=.tuple #[pp b,.nilIface]/\VocAt w b l)
theorem qpr(l:LB)(k:Nat):(sDict l k).length<=l.length:=by
 rw[sDict,AG,zld];omega
theorem quv(l:LB)(A:oA)(c:Nat)(w:Ez)(hS:SlAt encB 1 w A l)(hc:l.length<=c)(hl:l.length<=70368744177664)(hG:ErrTyp w):
  Gv EG 56 [.slice A l.length c] w fun v w'=>VVwR l v w'/\Ext w w':=by
 have hfd:=q0o l A c w hS hc hl hG 101 (fun k=>dE (sDict l k)) (fun k _=>AU (AU (qac2 (sDict l k)) (qpr l k)) Oo) (fun k _ w' B c' hx hB hc'=>(q0c (sDict l k) B c' w' hB hc' (by have:=qpr l k;omega)).mono fun v w'' ⟨h,he⟩=>⟨by
   rcases h with⟨h0,e,h1,h2⟩|⟨h0,b,h1,_,h2⟩
   ·exact .inl ⟨h0,e,h1,h2⟩
   ·exact .inr ⟨h0,b,h1,h2⟩,he⟩)
 have hE:fE l (fun k=>dE (sDict l k))=wE l:=rfl;refine ze Tryz.func56 Tryz.ntmps56 ?_;refine zcv (hfd) ?_;rintro v w1 ⟨⟨h0,G,e,rfl,eb,rfl,hec⟩|⟨h0,b,G,rfl,hG2,hV⟩,he⟩
 all_goals
  rw[hE]at h0;(conv=>whnf);refine znm (Mem.nil w1) fun t5 w2 hm=>zw ?_;refine StoreA.all hm (i:=0) rfl (by simp[qz]) (qgr 3 G) fun w3 hm=>zu ?_
 ·rw[hE]at hec;exact⟨.inl ⟨h0,_,rfl,eb,rfl,CellsAt.ext hec hm.ext⟩,he.trans hm.ext⟩
 ·exact⟨.inr ⟨h0,b,rfl,VocAt.ext hV hm.ext⟩,he.trans hm.ext⟩
theorem VocAt.cell(h:VocAt w b l):∃d:Nat->Nat,(∀k,k<3->w.cell? ⟨b,2*k,none⟩=some (.pointer (some ⟨d k,0,none⟩))/\w.cell? ⟨b,2*k+1,none⟩=some (ii (vTot l k+1:Nat))/\DictAt w (d k) (sDict l k))/\
  w.cell? ⟨b,6,none⟩=some (ii (vTot l 3:Nat)):=by
 obtain⟨d,h1,h2⟩:=h;refine⟨d,fun k hk=>⟨?_,?_,h2 k hk⟩,?_⟩
 ·rw[qa h1,qdd 7 _ _ Oo,vF,Aa Oo,Ad Oo,Ad Oo,show 2*k/2=k by omega]
 ·rw[qa h1,qdd 7 _ _ Oo,vF,Aa Oo,Ad Oo,Aa Oo,show(2*k+1)/2=k by omega]
 ·rw[qa h1,qdd 7 _ _ Oo,vF,Ad rfl]
theorem VocAt.tot(h:VocAt w b l)(hk:k<=3):vTot l k<=12582912:=by
 obtain⟨d,_,h2⟩:=h;have h0:=(h2 0 Oo).n;have h1:=(h2 1 Oo).n;have h3:=(h2 2 Oo).n
 rcases(show k=0\/k=1\/k=2\/k=3 by omega)with rfl|rfl|rfl|rfl<;>simp only[vTot]<;>omega
theorem q3z(b:Nat)(l:LB)(id:Nat)(w:Ez)(h:VocAt w b l)(hid:id<=16777216):
  Gv EG 261 [pp b,ii id] w fun r w'=>r=ii (if id=0\/vTot l 3<id then -1 else(qdw l id:Int))/\Ext w w':=by
 obtain⟨d,hd,hn⟩:=h.cell;have ht:=fun k (hk:k<=3)=>h.tot hk
 refine ze Tryz.func261 Tryz.ntmps261 ?_;refine zC (fun _=>zu ?_) (fun _=>zu ?_)
 ·exact⟨by rw[Ad Oo],xr⟩
 refine LoadV.of hn (zw ?_);refine zt ?_;refine zC (fun _=>zw ?_) (fun _=>zw ?_)
 ·exact⟨by rw[Ad Oo],xr⟩
 rw[Aa Oo];refine qj (fun i:Nat=>[(0,pp b),(1,ii id),(5,ii i)])
  (fun i w'=>i<=2/\(∀j,i<j->j<=2->id<=vTot l j)/\w'=w) (fun i=>i) 2 fq ⟨by omega,fun j h1 h2=>by omega,rfl⟩ ?_
 rintro i w1 ρ' ⟨i1,hj,rfl⟩;obtain⟨_,hf,_⟩:=hd i Oo;have hti:=ht i Oo;refine zu ?_;refine LoadV.of (v:=ii (vTot l i+1:Nat)) ?_ ?_
 ·rw[<-hf]
  congr 2
  rw[show tsz EG 201=2 from by kernel_rfl];show 0+0+i*2+1=_;omega
 (conv=>whnf);refine zC (fun _=>zu ?_) (fun _=>zu ?_)
 ·have hi0:i≠0:=by
   intro e;subst e;have:vTot l 0=0:=rfl;omega
  refine⟨i-1,⟨rfl,rfl,?_,trivial⟩,⟨by omega,fun j h1 h2=>?_,rfl⟩,by omega⟩
  ·show ii _=ii _
   congr 1
   omega
  ·by_cases e:j=i
   ·subst e;omega
   ·exact hj j Oo h2
 ·refine⟨Af (Value.int .i64) ?_,xr⟩;have e:qdw l id=i:=by
   unfold qdw
   rcases(show i=0\/i=1\/i=2 by omega)with rfl|rfl|rfl
   ·have h1:=hj 1 Oo Oo;have h2:=hj 2 Oo Oo;rw[Aa Oo,Aa Oo]
   ·have h2:=hj 2 Oo Oo;rw[Aa Oo,Ad Oo]
   ·rw[Ad Oo]
  rw[e]
def qkp(w:Ez):Prop:=CellsAt w 3 0 [ii 1,ii 2,ii 3]
noncomputable def qd7(l:LB)(id:Nat):Option TM:=
 if id=0 then some ⟨0,⟨#[]⟩,⟨#[]⟩,⟨#[]⟩⟩else if vTot l 3<id then none else
  match dGet (sDict l (qdw l id)) (id-(vTot l (qdw l id)+1))with
  | some s=>qhu ((qdw l id+1:Nat):Int) s
  | none=>none
def qy9:E8:=.agg #[ii 0,.string ⟨#[]⟩,.string ⟨#[]⟩,.string ⟨#[]⟩]
noncomputable def qnk(l:LB)(id:Nat):E8:=
 match qd7 l id with
 | some t=>.tuple #[qa8 t,.bool true]
 | none=>.tuple #[qy9,.bool false]
theorem q67(h0:id≠0)(h:id<=vTot l 3):qdw l id<3/\vTot l (qdw l id)<id/\id<=vTot l (qdw l id+1):=by
 have e0:vTot l 0=0:=rfl;unfold qdw
 split
 ·exact⟨by omega,by assumption,h⟩
 ·split
  ·refine⟨by omega,by assumption,?_⟩;show id<=vTot l 2;omega
  ·refine⟨by omega,by omega,?_⟩;show id<=vTot l 1;omega
theorem q33(b:Nat)(l:LB)(id:Nat)(w:Ez)(h:VocAt w b l)(hid:id<=16777216)(hM:MaxLenAt w)(hT:CellsAt w 6 0 qbz)(hK:qkp w):
  Gv EG 206 [pp b,ii id] w fun r w'=>r=qnk l id/\Ext w w':=by
 refine ze Tryz.func206 Tryz.ntmps206 ?_;refine znm (Mem.nil w) fun r4 w1 hm=>zw ?_;refine zcv (q3z b l id w1 (h.ext hm.ext) hid) ?_;rintro r w2 ⟨rfl,he2⟩;have hm:=hm.call he2;conv=>whnf
 by_cases h0:id=0\/vTot l 3<id
 ·rw[Ad h0];refine zv ?_;refine zS hm 0 fun w3 hm=>zw ?_;refine qh (R:=fun v w'=>v=qnk l id/\Ext w w') (zw ?_);refine zl hm 0 ?_;refine⟨?_,hm.ext⟩;rw[qnk,qd7]
  by_cases hi:id=0
  ·rw[Ad hi];subst hi;rfl
  ·rw[Aa hi,Ad Oo];show Value.tuple #[_,.bool (decide ((id:Int)=0))]=_;rw[AH Oo];rfl
 ·rw[Aa h0];obtain⟨hp3,hp1,hp2⟩:=q67 (l:=l) (id:=id) Oo Oo;have hvt:qnk l id=match dGet (sDict l (qdw l id)) (id-(vTot l (qdw l id)+1))with
   | some s=>(match qhu ((qdw l id+1:Nat):Int) s with|some t=>.tuple #[qa8 t,.bool true]|none=>.tuple #[qy9,.bool false])
   | none=>.tuple #[qy9,.bool false]:=by
   rw[qnk,qd7,Aa Oo,Aa Oo];cases dGet (sDict l (qdw l id)) (id-(vTot l (qdw l id)+1))<;>rfl
  rw[hvt];obtain⟨k,ek⟩:∃k,k=qdw l id:=⟨_,rfl⟩
  rw[<-ek]at hp3 hp1 hp2|-;obtain⟨d,hd,hn⟩:=(h.ext hm.ext).cell;obtain⟨hd1,hd2,hdD⟩:=hd k hp3;have htk:=(h.tot (k:=k) Oo)
  obtain⟨i,ei⟩:∃i,i=id-(vTot l k+1):=⟨_,rfl⟩
  rw[<-ei];refine zv ?_;have hG:∃s ok,qii (sDict l k) i=.tuple #[.string s,.bool ok]/\s.size<=262144/\((ok=true/\dGet (sDict l k) i=some s.data.toList)\/(ok=false/\dGet (sDict l k) i=none)):=by
   unfold qii;cases hg:dGet (sDict l k) i with
   | none=>exact⟨_,_,rfl,by decide,.inr ⟨rfl,rfl⟩⟩
   | some s=>exact⟨⟨s.toArray⟩,_,rfl,qvh hg,.inl ⟨rfl,rfl⟩⟩
  obtain⟨s,ok,hgv,hss,hcase⟩:=hG;refine DrawV.free Jk Jk (zw ?_);(iterate 6 (refine zd ?_));apply zsd (.pointer (some ⟨d k,0,none⟩))
  ·intro wd hd';(conv=>whnf);refine LoadV.of (v:=.pointer (some ⟨d k,0,none⟩)) ?_ ?_
   ·have:=((Ext.refl w2).drew.trans hd').cell hd1;rw[<-this]
    congr 2
    rw[show tsz EG 201=2 from by kernel_rfl];show 0+0+k*2+0=_;omega
   (conv=>whnf);exact xq
  (conv=>whnf);(iterate 7 (refine zd ?_));apply zsd (ii (vTot l k+1:Nat))
  ·intro wd hd';(conv=>whnf);refine LoadV.of (v:=ii (vTot l k+1:Nat)) ?_ ?_
   ·have:=((Ext.refl w2).drew.trans hd').cell hd2;rw[<-this]
    congr 2
    rw[show tsz EG 201=2 from by kernel_rfl];show 0+0+k*2+1=_;omega
   (conv=>whnf);exact xq
  (conv=>whnf);apply zsd (ii (i:Nat))
  ·intro wd hd';(conv=>whnf);refine Obl.mk ⟨by omega,by omega⟩ (zw ?_);refine⟨xr,?_⟩;show ii _=ii _
   congr 1
   omega
  (conv=>whnf);apply zsd (.tuple #[.string s,.bool ok])
  ·intro wd hd';(conv=>whnf);refine zcv (qvk (d k) (sDict l k) i wd (hdD.ext ((Ext.refl w2).drew.trans hd')) Oo) ?_;rintro v w5 ⟨rfl,he⟩;exact⟨he,hgv⟩
  (conv=>whnf);(iterate 5 (refine zd ?_));intro w3 he3;have hm:=hm.drew.call he3;clear he3;refine zu ?_;have hkk:((k+1:Nat):Int)=1\/((k+1:Nat):Int)=2\/((k+1:Nat):Int)=3:=by omega
  refine LoadV.of (v:=ii (k+1:Nat)) ?_ ?_
  ·have hKx:=fun j v (hv:([ii 1,ii 2,ii 3]:EE)[j]?=some v)=>(CellsAt.ext hK hm.ext) j v hv
   rw[show tsz EG 3=1 from by kernel_rfl]
   rcases(show k=0\/k=1\/k=2 by omega)with rfl|rfl|rfl
   ·exact hKx 0 _ rfl
   ·exact hKx 1 _ rfl
   ·exact hKx 2 _ rfl
  (conv=>whnf);obtain⟨t,e,hrv,hrc⟩:∃t e,qdq ((k+1:Nat):Int) s.data.toList=.tuple #[qa8 t,ii (e:Nat)]/\((e=0/\qhu ((k+1:Nat):Int) s.data.toList=some t)\/(e≠0/\qhu ((k+1:Nat):Int) s.data.toList=none)):=by
   unfold qdq;cases hg:qhu ((k+1:Nat):Int) s.data.toList with
   | none=>exact⟨⟨0,⟨#[]⟩,⟨#[]⟩,⟨#[]⟩⟩,170,rfl,.inr ⟨by decide,rfl⟩⟩
   | some t=>exact⟨t,0,rfl,.inl ⟨rfl,rfl⟩⟩
  refine zcv (q31 ((k+1:Nat):Int) hkk s hss w3 (hM.ext hm.ext) (hT.ext hm.ext)) ?_;rintro r w4 ⟨rfl,he4⟩;have hm:=hm.call he4;rw[hrv];(conv=>whnf);refine znm hm fun t9 w5 hm=>zw ?_;refine zS hm 0 fun w6 hm=>zw ?_
  rcases hcase with⟨rfl,hg⟩|⟨rfl,hg⟩
  ·rw[hg];dsimp only
   rcases hrc with⟨rfl,hr⟩|⟨he,hr⟩
   ·rw[hr];refine zv ?_;refine zl hm 0 ?_;refine zS hm 1 fun w7 hm=>zw ?_;refine qh (R:=fun v w'=>v=.tuple #[qa8 t,.bool true]/\Ext w w') (zw ?_);refine zl hm 1 ?_;exact⟨rfl,hm.ext⟩
   ·rw[hr];refine zv ?_;refine zS hm 1 fun w7 hm=>zw ?_;refine qh (R:=fun v w'=>v=.tuple #[qy9,.bool false]/\Ext w w') (zw ?_);refine zl hm 1 ?_;exact⟨rfl,hm.ext⟩
  ·rw[hg];dsimp only;refine zv ?_;refine zS hm 1 fun w7 hm=>zw ?_;refine qh (R:=fun v w'=>v=.tuple #[qy9,.bool false]/\Ext w w') (zw ?_);refine zl hm 1 ?_;exact⟨rfl,hm.ext⟩
def zTM:TM:=⟨0,⟨#[]⟩,⟨#[]⟩,⟨#[]⟩⟩
noncomputable def uT(l:LB)(q:Nat->Nat)(j:Nat):TM:=(qd7 l (q j)).getD zTM
noncomputable def q4Of(l:LB)(q:Nat->Nat):Q4:=⟨uT l q 1,uT l q 2,uT l q 3,uT l q 0⟩
def zQ:Q4:=⟨zTM,zTM,zTM,zTM⟩
def idsV(q:Nat->Nat):E8:=.agg #[ii (q 0:Nat),ii (q 1:Nat),ii (q 2:Nat),ii (q 3:Nat)]
open Classical in
noncomputable def qjw(l:LB)(q:Nat->Nat):E8:=
 if ∀j,j<4->qd7 l (q j)≠none then .tuple #[qk (q4Of l q),.bool true]else .tuple #[qk zQ,.bool false]
noncomputable def aT(l:LB)(q:Nat->Nat)(k j:Nat):TM:=if j<k then uT l q j else zTM
noncomputable def arrT(l:LB)(q:Nat->Nat)(k:Nat):Q4:=⟨aT l q k 0,aT l q k 1,aT l q k 2,aT l q k 3⟩
theorem q4h(l:LB)(q:Nat->Nat)(k:Nat)(hk:k<4):((qd (arrT l q k)).take (k*4)++encT (uT l q k)++(qd (arrT l q k)).drop (k*4+4))=qd (arrT l q (k+1)):=by
 rcases(show k=0\/k=1\/k=2\/k=3 by omega)with rfl|rfl|rfl|rfl<;>rfl
theorem q30(b:Nat)(l:LB)(q:Nat->Nat)(w:Ez)(h:VocAt w b l)(hq:∀j,j<4->q j<=16777216)(hM:MaxLenAt w)(hT:CellsAt w 6 0 qbz)(hK:qkp w):
  Gv EG 147 [pp b,idsV q] w fun r w'=>r=qjw l q/\Ext w w':=by
 unfold idsV;refine ze Tryz.func147 Tryz.ntmps147 ?_;refine znm (Mem.nil w) fun t3 w1 hm=>zw ?_;refine znm hm fun r4 w2 hm=>zw ?_;refine znm hm fun t6 w3 hm=>zw ?_;refine zl hm 2 ?_;obtain⟨TB,eTB⟩:∃TB,TB=(t3,Obj.cells #[ii (q 0:Nat),ii (q 1:Nat),ii (q 2:Nat),ii (q 3:Nat)] 101):=⟨_,rfl⟩
 have hm:Mem w w3 [(t6,.cells (qd (arrT l q 0)).toArray 131),(r4,.cells (qd zQ).toArray 26),TB]:=by rw[eTB];exact hm
 clear eTB;refine qj (fun k:Nat=>[(0,pp b),(4,pp r4),(5,.bool false),(6,pp t6),(11,.agg #[ii (q 0:Nat),ii (q 1:Nat),ii (q 2:Nat),ii (q 3:Nat)]),(12,ii k)])
  (fun k w'=>k<=4/\(∀j,j<k->qd7 l (q j)≠none)/\Mem w w' [(t6,.cells (qd (arrT l q k)).toArray 131),(r4,.cells (qd zQ).toArray 26),TB]) (fun k=>4-k) 0
  fq ⟨by omega,fun j h=>by omega,hm⟩ ?_
 clear hm;rintro k w4 ρ' ⟨k1,hj,hm⟩;conv=>whnf
 (repeat'(first|refine zp ?_|refine zC (fun _=>zw ?_) (fun _=>zw ?_)|(refine zJ 0 ?_;(conv=>whnf))))
 ·have hqk:=hq k Oo;refine⟨ii (q k:Nat),?_,?_⟩
  ·rw[show k*tsz EG 3=k from by rw[show tsz EG 3=1 from by kernel_rfl];omega]
   rcases(show k=0\/k=1\/k=2\/k=3 by omega)with rfl|rfl|rfl|rfl<;>rfl
  (conv=>whnf);refine zcv (q33 b l (q k) w4 (h.ext hm.ext) hqk (hM.ext hm.ext) (hT.ext hm.ext) (CellsAt.ext hK hm.ext)) ?_;rintro r w5 ⟨rfl,he5⟩;have hm:=hm.call he5;unfold qnk;cases hv:qd7 l (q k)with
  | none=>
   dsimp only;have hV:qjw l q=.tuple #[qk zQ,.bool false]:=by rw[qjw,Aa (fun h=>h k Oo hv)]
   rw[hV];unfold qy9;(conv=>whnf);refine znm hm fun t9 w6 hm=>zw ?_;refine zS hm 0 fun w7 hm=>zu ?_;refine zS hm 2 fun w8 hm=>zw ?_;refine qh (R:=fun v w'=>v=.tuple #[qk zQ,.bool false]/\Ext w w') (zw ?_);refine zl hm 2 ?_;exact⟨rfl,hm.ext⟩
  | some t=>
   dsimp only;have hut:uT l q k=t:=by rw[uT,hv];rfl
   (conv=>whnf);refine znm hm fun t9 w6 hm=>zw ?_;refine zS hm 0 fun w7 hm=>zu ?_;refine zl hm 0 ?_;refine zv ?_;refine StoreA.mem hm (i:=1) rfl ?_ (by simp[Value.oneCell']) ?_
   ·rw[show tsz EG 24=4 from by kernel_rfl];show 0+k*4+4<=16;omega
   intro w8 hm;refine zu ?_;refine⟨k+1,fq,⟨by omega,fun j hj'=>?_,?_⟩,by omega⟩
   ·by_cases e:j=k
    ·subst e;rw[hv];simp
    ·exact hj j Oo
   ·have hm:=hm.sub (AP ..);have e:=q4h l q k Oo;rw[hut]at e;rw[<-e];rw[show tsz EG 24=4 from by kernel_rfl,Aw]at hm;exact hm
 obtain rfl:k=4:=by omega
 have hV:qjw l q=.tuple #[qk (q4Of l q),.bool true]:=by rw[qjw,Ad hj]
 rw[hV];have hc:CellsAt w4 t6 0 (qd (arrT l q 4)):=CellsAt.mem hm mh;refine LoadA.cells (qt hc 0 Oo) rfl (zw ?_);refine zJ 1 ?_;(conv=>whnf);refine LoadA.cells (qt hc 1 Oo) rfl (zw ?_);refine zJ 2 ?_;(conv=>whnf);refine LoadA.cells (qt hc 2 Oo) rfl (zw ?_);refine zJ 3 ?_;(conv=>whnf);refine LoadA.cells (qt hc 3 Oo) rfl (zw ?_);refine zS hm 1 fun w8 hm=>zw ?_;refine qh (R:=fun v w'=>v=.tuple #[qk (q4Of l q),.bool true]/\Ext w w') (zw ?_);refine zl hm 1 ?_;exact⟨rfl,hm.ext⟩
theorem VocAt.other{x:Nat}{t:E6}(h:VocAt w b l)(hx:w.heap[x]?=some (.cells cs t fz))(ht:t≠317)(ht2:t≠204)(hc:∀v∈cs.toList,∀c:Nat,v≠.int .u8 c)(hw:∀c,c≠x->w'.heap[c]?=w.heap[c]?):VocAt w' b l:=by
 obtain⟨d,h1,h2⟩:=h;have hbx:b≠x:=by
  intro e;subst e;rw[hx]at h1
  injection h1 with h1
  injection h1 with _ h1 _
  exact ht2 h1
 exact⟨d,by rw[hw b hbx];exact h1,fun k hk=>(h2 k hk).other hx ht hc hw⟩
theorem TreeAt.other{x:Nat}{v:E8}(h:TreeAt w b l)(hx:w.heap[x]?=some (.cells #[v] 74 fz))(hv:∀(k:IntKind) (c:Int),v≠.int k c)(hw:∀c,c≠x->w'.heap[c]?=w.heap[c]?):TreeAt w' b l:=by
 have hne:∀(z:LB),∀y∈z,∀u∈(#[v]:EH).toList,(encB y)[0]?≠some u:=fun z y _ u hu e=>by
  simp only[AD,Cu,or_false]at hu;subst hu;cases e;exact hv _ _ rfl
 refine⟨fun k hk=>?_,h.n,h.wd⟩;obtain⟨P,cp,S,cs,V,h1,h2,h3,h4,h5⟩:=h.lv k hk;refine⟨P,cp,S,cs,V,h1.other ?_ hw,h2.other hx (hne _) (fun _ _ e=>by cases e) hw,h3.other hx (hne _) (fun _ _ e=>by cases e) hw,h4,?_⟩
 ·intro e;have h6:=h1 0 _ rfl;rw[e,qa hx]at h6;have h7:(#[v]:EH)[8*k+0]?=some (ii (vNum l k)):=h6
  rcases BZ k with rfl|hk0
  ·exact hv _ _ (BB h7)
  ·rw[Bd Ys]at h7;cases h7
 ·rcases h5 with h5|⟨h5,h6,vb,h7,h8⟩
  ·exact .inl h5
  ·refine .inr ⟨h5,h6,vb,h7,?_⟩;rw[hw vb ?_]
   ·exact h8
   ·intro e;subst e;rw[hx]at h8
    injection h8 with h8
    injection h8 with _ h8 _
    exact absurd h8 Od
theorem qjp(c5 place:Nat)(hm:Mem w0 w ((c5,.cells #[.nilIface] 74)::M)):
  GvD EG 198 [pp c5,ii place] w fun w'=>Ext w w':=by
 refine gvD Jk Tryz.func198 rfl Tryz.ntmps198 rfl (zw ?_);refine znm (Mem.nil w) fun t4 w1 hm1=>zw ?_;refine LoadV.mem (hm.call hm1.ext) (i:=0) rfl rfl (zw ?_);refine zcv (qqd _ w1) ?_;rintro r w2 ⟨rfl,rfl⟩;refine zu ?_;exact hm1.ext
def Mv(w0:Ez)(M:ED)(t4 c5 e:Nat)(o:Obj)(s12 s13 s15:Bool)(v12 v13:E8)(w:Ez):Prop:=
 (s15=false/\Er w0 ((t4,.cells #[pp e] 255)::(c5,.cells #[errV e] 74)::M) o (fun b=>pp b) errV errV s12 s13 false v12 v13 undef w)\/
 (s15=true/\s12=true/\s13=true/\∃nb,Mem w0 w ((nb,o)::(t4,.cells #[pp e] 255)::(c5,.cells #[errV nb] 74)::M))
theorem Mv.top{t4 c5 e:Nat}{o:Obj}{s12 s13 s15:Bool}{v12 v13:E8}(h:Mv w0 M t4 c5 e o s12 s13 s15 v12 v13 w):
  ∃X,Mem w0 w ((t4,.cells #[pp e] 255)::X):=by
 rcases h with⟨_,h⟩|⟨_,_,_,nb,h⟩
 ·exact⟨_,h.mem⟩
 ·exact⟨_,h.sub (AP ..)⟩
theorem qjo(c5 e p q place:Nat)(hm:Mem w0 w ((c5,.cells #[errV e] 74)::M))(hc:CellsAt w e 0 [ii p,.iface 61 (ii q)])(hG:ErrTyp w)(hp:p<=1152921504606846976)(hpl:place<=1152921504606846976):
  GvD EG 198 [pp c5,ii place] w fun w'=>∃e',Mem w0 w' ((e',errO (p+place) q)::(c5,.cells #[errV e'] 74)::M):=by
 refine gvD Jk Tryz.func198 rfl Tryz.ntmps198 rfl (zw ?_);refine⟨fun t4 w1 hb1 hw1=>?_⟩;have he1:Ext w w1:=by rw[hw1];exact xr.alloc _
 have hm:=hm.new hb1 hw1;have hc:=hc.ext he1;have hG:=hG.ext he1;clear hw1 hb1 he1;(conv=>whnf);refine zr hm 1 ?_;refine zcv (qqc e t4 hm (i:=0) rfl hG) ?_;rintro r w2 ⟨rfl,hm',w4',he4',hfr⟩;have hne:e≠t4:=by
  intro e1;have h1:=hc 0 _ rfl;rw[e1,qa (hm.get mh)]at h1;cases h1
 have hc:=(hc.ext he4').other hne hfr;have hm:Mem w0 w2 ((t4,.cells #[pp e] 255)::(c5,.cells #[errV e] 74)::M):=hm';have hne5:e≠c5:=by
  intro e1;have h1:=hc 0 _ rfl;rw[e1,qa (hm.get (zmc mh))]at h1;cases h1
 clear hm' he4' hfr;refine zu ?_;refine DrawV.gen (fun S vals w'=>Mv w0 M t4 c5 e (errO (p+place) q) (S 12) (S 13) (S 15) (vals 12) (vals 13) w'/\CellsAt w' e 0 [ii p,.iface 61 (ii q)]) rfl Jk (fun vals=>⟨.inl ⟨rfl,Er.start hm.drew⟩,hc.ext xr.drew⟩) ?_;clear hm hc;(conv=>whnf);refine zg ?_;refine StepG.of (pp e) (fun S vals wd hk hp hI=>zw ?_) (zw ?_)
 ·obtain⟨X,hX⟩:=hI.1.top;refine zr hX 0 ?_;exact⟨rfl,hI⟩
 refine zg ?_;refine zg ?_;refine StepG.of (ii p) (fun S vals wd hk hp hI=>zw ?_) (zw ?_)
 ·refine LoadV.of (hI.2 0 _ rfl) (zw ?_);exact⟨rfl,hI⟩
 refine zg ?_;refine zg ?_;refine StepG.of (pp e) (fun S vals wd hk hp hI=>zw ?_) (zw ?_)
 ·obtain⟨X,hX⟩:=hI.1.top;refine zr hX 0 ?_;exact⟨rfl,hI⟩
 refine zg ?_;refine zg ?_;refine StepG.of (.iface 61 (ii q)) (fun S vals wd hk hp hI=>zw ?_) (zw ?_)
 ·refine LoadV.of (hI.2 1 _ rfl) (zw ?_);exact⟨rfl,hI⟩
 refine zg ?_;refine StepG.any (fun S vals wd hk hp hI=>?_) (zw ?_)
 ·dsimp only at hI;rw[hk]at hI;obtain⟨⟨h15,hE⟩|⟨_,h12,_⟩,hc⟩:=hI
  ·(conv=>whnf);refine⟨fun x wx hb hw=>?_⟩;subst hb hw;(conv=>whnf);exact⟨trivial,.inl ⟨h15,hE.alloc⟩,hc.ext (xr.alloc _)⟩
  ·cases h12
 refine StepG.any (fun S vals wd hk hp hI=>?_) (zw ?_)
 ·have h12:S 12=true:=hp 12 Od;dsimp only at hI;rw[hk,h12]at hI;obtain⟨⟨h15,hE⟩|⟨_,_,h13,_⟩,hc⟩:=hI
  ·obtain⟨nb,hv,h3,_⟩:=hE.see;rw[ql hv];(conv=>whnf);refine⟨trivial,.inl ⟨h15,?_⟩,hc⟩;show Er _ _ _ _ _ _ (S 12) true false _ _ _ _;rw[h12];exact h3
  ·cases h13
 refine zg ?_;refine StepG.of undef (fun S vals wd hk hp hI=>?_) (zw ?_)
 ·have h13:S 13=true:=hp 13 Od;dsimp only at hI;rw[hk,h13]at hI;obtain⟨⟨_,hE⟩|⟨h15,_⟩,hc⟩:=hI
  ·rcases hE.h with⟨_,h,_⟩|⟨h12,nb,_,hv,_,hmm⟩
   ·cases h
   ·have hv:=hv rfl;rw[ql hv];(conv=>whnf);refine StoreV.row hmm (i:=2) rfl Js rfl fun wx hfr _ hmx=>zw ?_;refine⟨rfl,.inr ⟨rfl,h12,h13,nb,hmx⟩,hc.other hne5 hfr⟩
  ·cases h15
 intro vals w14 hI;obtain⟨⟨h15,_⟩|⟨_,_,_,nb,hm⟩,_⟩:=hI
 ·cases h15
 (conv=>whnf);exact⟨nb,hm.sub (.cons_cons _ (AP ..))⟩
def OkR(E:Nat×Nat)(Ok:Nat->EC)(v:E8)(w:Ez):Prop:=
 (E.2≠0/\∃e,v=.tuple #[.pointer none,e]/\ErrAt w e E.1 E.2)\/(E.2=0/\∃b,v=.tuple #[pp b,.nilIface]/\Ok b w)
theorem qs0(fb n cc place:Nat)(W:oA)(w:Ez)(h1:w.cell? ⟨fb,4,none⟩=some (.slice W n cc))(h2:w.cell? ⟨fb,6,none⟩=some (ii place))(hpl:place<=1152921504606846976)(hG:ErrTyp w)(f:FuncId)(E:Nat×Nat)(hE:E.1<=1152921504606846976)(Ok:Nat->EC)(hOk:∀b w w',Ok b w->Ext w w'->Ok b w')(hOx:∀(b:Nat) (w w':Ez) (x:Nat) (fz:Nat×Nat),Ok b w->w.heap[x]?=some (.cells #[.nilIface] 74 fz)->(∀c,c≠x->w'.heap[c]?=w.heap[c]?)->Ok b w')(hf:∀w',Ext w w'->Gv EG f [.slice W n cc] w' fun v w''=>OkR E Ok v w''/\Ext w' w''):
  Gv EG 134 [pp fb,.func (.func f) #[] #[]] w fun v w'=>OkR (if E.2=0 then E else(E.1+place,E.2)) Ok v w'/\Ext w w':=by
 refine gvW Jk Tryz.func134 rfl Tryz.ntmps134 rfl (zw ?_);refine znm (Mem.nil w) fun c5 w1 hm=>zw ?_;refine LoadV.of (v:=ii place) (hm.ext.cell h2) (zw ?_);refine LoadV.of (v:=.slice W n cc) (hm.ext.cell h1) (zw ?_);refine zcv (hf w1 hm.ext) ?_;rintro v w2 ⟨⟨h0,e,rfl,eb,rfl,hec⟩|⟨h0,b,rfl,hb⟩,he2⟩
 ·have hm:=hm.call he2;rw[Aa h0];(conv=>whnf);refine StoreV.row hm (i:=0) rfl Js rfl ?_;intro w3 hfr _ hm3;have hne:eb≠c5:=by
   intro e1;have h1:=hec 0 _ rfl;rw[e1,qa (hm.get mh)]at h1;cases h1
  have hec:=CellsAt.other hec hne hfr;(conv=>whnf);refine LeaveV.call ((qjo c5 eb E.1 E.2 place hm3 hec (hG.ext hm3.ext) hE hpl).mono fun w4 ⟨e',hm4⟩=>?_);(conv=>whnf);refine qh (R:=fun v w'=>OkR (E.1+place,E.2) Ok v w'/\Ext w w') (zw ?_);refine zr hm4 1 ?_;exact⟨.inl ⟨h0,errV e',rfl,e',rfl,CellsAt.mem hm4 mh⟩,hm4.ext⟩
 ·have hm:=hm.call he2;rw[Ad h0];(conv=>whnf);refine StoreV.row hm (i:=0) rfl Js rfl ?_;intro w3 hfr _ hm3;have hb:=hOx b w2 w3 c5 (0,0) hb (hm.get mh) hfr;(conv=>whnf);refine LeaveV.call ((qjp c5 place hm3).mono fun w4 he4=>?_);have hm4:=hm3.call he4;(conv=>whnf);refine qh (R:=fun v w'=>OkR E Ok v w'/\Ext w w') (zw ?_);refine zr hm4 0 ?_;exact⟨.inr ⟨h0,b,rfl,hOk _ _ _ hb he4⟩,hm4.ext⟩
theorem qxs(fb n cc place:Nat)(W:oA)(w:Ez)(h1:w.cell? ⟨fb,5,none⟩=some (.slice W n cc))(h2:w.cell? ⟨fb,7,none⟩=some (ii place))(hpl:place<=1152921504606846976)(hG:ErrTyp w)(f:FuncId)(E:Nat×Nat)(hE:E.1<=1152921504606846976)(Ok:Nat->EC)(hOk:∀b w w',Ok b w->Ext w w'->Ok b w')(hOx:∀(b:Nat) (w w':Ez) (x:Nat) (fz:Nat×Nat),Ok b w->w.heap[x]?=some (.cells #[.nilIface] 74 fz)->(∀c,c≠x->w'.heap[c]?=w.heap[c]?)->Ok b w')(hf:∀w',Ext w w'->Gv EG f [.slice W n cc] w' fun v w''=>OkR E Ok v w''/\Ext w' w''):
  Gv EG 135 [pp fb,.func (.func f) #[] #[]] w fun v w'=>OkR (if E.2=0 then E else(E.1+place,E.2)) Ok v w'/\Ext w w':=by
 refine gvW Jk Tryz.func135 rfl Tryz.ntmps135 rfl (zw ?_);refine znm (Mem.nil w) fun c5 w1 hm=>zw ?_;refine LoadV.of (v:=ii place) (hm.ext.cell h2) (zw ?_);refine LoadV.of (v:=.slice W n cc) (hm.ext.cell h1) (zw ?_);refine zcv (hf w1 hm.ext) ?_;rintro v w2 ⟨⟨h0,e,rfl,eb,rfl,hec⟩|⟨h0,b,rfl,hb⟩,he2⟩
 ·have hm:=hm.call he2;rw[Aa h0];(conv=>whnf);refine StoreV.row hm (i:=0) rfl Js rfl ?_;intro w3 hfr _ hm3;have hne:eb≠c5:=by
   intro e1;have h1:=hec 0 _ rfl;rw[e1,qa (hm.get mh)]at h1;cases h1
  have hec:=CellsAt.other hec hne hfr;(conv=>whnf);refine LeaveV.call ((qjo c5 eb E.1 E.2 place hm3 hec (hG.ext hm3.ext) hE hpl).mono fun w4 ⟨e',hm4⟩=>?_);(conv=>whnf);refine qh (R:=fun v w'=>OkR (E.1+place,E.2) Ok v w'/\Ext w w') (zw ?_);refine zr hm4 1 ?_;exact⟨.inl ⟨h0,errV e',rfl,e',rfl,CellsAt.mem hm4 mh⟩,hm4.ext⟩
 ·have hm:=hm.call he2;rw[Ad h0];(conv=>whnf);refine StoreV.row hm (i:=0) rfl Js rfl ?_;intro w3 hfr _ hm3;have hb:=hOx b w2 w3 c5 (0,0) hb (hm.get mh) hfr;(conv=>whnf);refine LeaveV.call ((qjp c5 place hm3).mono fun w4 he4=>?_);have hm4:=hm3.call he4;(conv=>whnf);refine qh (R:=fun v w'=>OkR E Ok v w'/\Ext w w') (zw ?_);refine zr hm4 0 ?_;exact⟨.inr ⟨h0,b,rfl,hOk _ _ _ hb he4⟩,hm4.ext⟩
def fpE(l:LB)(E1 E2:Nat×Nat):Nat×Nat:=if E1.2≠0 then(E1.1+28,E1.2)else if E2.2≠0 then(E2.1+(32+hN l 4),E2.2)else(0,0)
def PfR(l:LB)(E1 E2:Nat×Nat)(Ok1 Ok2:Nat->EC)(v:E8)(w:Ez):Prop:=
 ((fpE l E1 E2).2≠0/\∃e,v=.tuple #[.pointer none,e]/\ErrAt w e (fpE l E1 E2).1 (fpE l E1 E2).2)\/
 ((fpE l E1 E2).2=0/\∃b vb tb,v=.tuple #[pp b,.nilIface]/\
  w.heap[b]?=some (.cells #[ii (hN l 2),ii (hN l 3),ii (hN l 4),ii (hN l 5),pp vb,pp tb] 226)/\Ok1 vb w/\Ok2 tb w)
theorem qye(l:LB)(A B:oA)(w:Ez)(hG:ErrTyp w)(f1 f2:FuncId)(E1 E2:Nat×Nat)(hE1:E1.1<=1152921504606846976)(hE2:E2.1<=1152921504606846976)(Ok1 Ok2:Nat->EC)(hOk1:∀b w w',Ok1 b w->Ext w w'->Ok1 b w')(hOx1:∀(b:Nat) (w w':Ez) (x:Nat) (fz:Nat×Nat),Ok1 b w->w.heap[x]?=some (.cells #[.nilIface] 74 fz)->(∀c,c≠x->w'.heap[c]?=w.heap[c]?)->Ok1 b w')(hOk2:∀b w w',Ok2 b w->Ext w w'->Ok2 b w')(hOx2:∀(b:Nat) (w w':Ez) (x:Nat) (fz:Nat×Nat),Ok2 b w->w.heap[x]?=some (.cells #[.nilIface] 74 fz)->(∀c,c≠x->w'.heap[c]?=w.heap[c]?)->Ok2 b w')(hf1:∀w',Ext w w'->Gv EG f1 [.slice A (hN l 4) (hN l 4)] w' fun v w''=>OkR E1 Ok1 v w''/\Ext w' w'')(hf2:∀w',Ext w w'->Gv EG f2 [.slice B (hN l 5) (hN l 5)] w' fun v w''=>OkR E2 Ok2 v w''/\Ext w' w''):
  Gv EG 87 [.agg (okF l A B).toArray,.func (.func f1) #[] #[],.func (.func f2) #[] #[]] w fun v w'=>PfR l E1 E2 Ok1 Ok2 v w'/\Ext w w':=by
 have h4:=qac8 l 4;refine ze Tryz.func87 Tryz.ntmps87 ?_;refine znm (Mem.nil w) ?_;intro fb w1 hm;have hg:=hm.get mh;(conv=>whnf);refine zcv (qs0 fb (hN l 4) (hN l 4) 28 A w1 (by rw[qa hg];rfl) (by rw[qa hg];rfl) Oo (hG.ext hm.ext) f1 E1 hE1 Ok1 hOk1 hOx1 (fun w' he=>hf1 w' (hm.ext.trans he))) ?_;rintro v w2 ⟨⟨h0,e,rfl,eb,rfl,hec⟩|⟨h0,vb,rfl,hv⟩,he2⟩
 ·have hz:E1.2≠0:=by
   intro h;rw[Ad h]at h0;exact h0 h
  rw[Aa hz]at hec h0;have hE:fpE l E1 E2=(E1.1+28,E1.2):=by rw[fpE,Ad hz]
  refine zu ?_;exact⟨.inl ⟨by rw[hE];exact hz,_,rfl,eb,rfl,by rw[hE];exact hec⟩,hm.ext.trans he2⟩
 ·have hz:E1.2=0:=by
   refine CR fun h=>?_;rw[Aa h]at h0;exact h h0
  have hm:=hm.call he2;have hg:=hm.get mh;refine zu ?_;refine zcv (qxs fb (hN l 5) (hN l 5) (32+hN l 4) B w2 (by rw[qa hg];rfl) (by rw[qa hg];rfl) Oo (hG.ext hm.ext) f2 E2 hE2 Ok2 hOk2 hOx2 (fun w' he=>hf2 w' (hm.ext.trans he))) ?_;rintro v w3 ⟨⟨h0,e,rfl,eb,rfl,hec⟩|⟨h0,tb,rfl,ht⟩,he3⟩
  ·have hz2:E2.2≠0:=by
    intro h;rw[Ad h]at h0;exact h0 h
   rw[Aa hz2]at hec h0;have hE:fpE l E1 E2=(E2.1+(32+hN l 4),E2.2):=by rw[fpE,Aa Oo,Ad hz2]
   refine zu ?_;exact⟨.inl ⟨by rw[hE];exact hz2,_,rfl,eb,rfl,by rw[hE];exact hec⟩,hm.ext.trans he3⟩
  ·have hz2:E2.2=0:=by
    refine CR fun h=>?_;rw[Aa h]at h0;exact h h0
   have hE:(fpE l E1 E2).2=0:=by rw[fpE,Aa Oo,Aa Oo]
   have hm:=hm.call he3;have hv:=hOk1 _ _ _ hv he3;refine zu ?_;have hcs:CellsAt w3 fb 0 [ii (hN l 2:Nat),ii (hN l 3:Nat),ii (hN l 4:Nat),ii (hN l 5:Nat)]:=fun k v hv=>by
    have hk:k<4:=(Ae.1 hv).1;refine CellsAt.mem hm mh k v ?_
    rcases(show k=0\/k=1\/k=2\/k=3 by omega)with rfl|rfl|rfl|rfl<;>exact hv
   refine LoadA.cells hcs rfl (zw ?_);refine⟨fun b w4 hb hw=>?_⟩;have he4:Ext w3 w4:=by rw[hw];exact xr.alloc _
   have hm4:=hm.new hb hw;(conv=>whnf);exact⟨.inr ⟨hE,b,vb,tb,rfl,hm4.get mh,hOk1 _ _ _ hv he4,hOk2 _ _ _ ht he4⟩,hm4.ext⟩
structure PackAt(w:Ez)(b:Nat)(l:LB):Prop where
 h:∃vb tb,w.heap[b]?=some (.cells #[ii (hN l 2),ii (hN l 3),ii (hN l 4),ii (hN l 5),pp vb,pp tb] 226)/\VocAt w vb (qq l)/\TreeAt w tb (q7 l)
theorem PackAt.ext(h:PackAt w b l)(he:Ext w w'):PackAt w' b l:=by
 obtain⟨vb,tb,h1,h2,h3⟩:=h;exact⟨vb,tb,he.get h1,h2.ext he,h3.ext he⟩
def PvR(l:LB)(v:E8)(w:Ez):Prop:=
 ((packE l).2≠0/\∃e,v=.tuple #[.pointer none,e]/\ErrAt w e (packE l).1 (packE l).2)\/((packE l).2=0/\∃b,v=.tuple #[pp b,.nilIface]/\PackAt w b l)
theorem qoo(h:(qas l).2=0):l.length=hN l 4+hN l 5+36/\l.length<=67108864:=by
 unfold qas at h
 split at h
 ·cases h
 split at h
 ·cases h
 split at h
 ·cases h
 split at h
 ·cases h
 split at h
 ·cases h
 split at h
 ·cases h
 split at h
 ·cases h
 omega
theorem qyd(h:(qas l).2=0):(qq l).length=hN l 4:=by
 have:=qoo h;rw[qq,AG,zld];omega
theorem q2f(h:(qas l).2=0):(q7 l).length=hN l 5:=by
 have:=qoo h;rw[q7,AG,zld];omega
theorem q58(h:(qas l).2=0):packE l=fpE l (wE (qq l)) (tE (q7 l)):=by
 rw[packE,Aa Oo,fpE,CB 28,CB (32+hN l 4)]
theorem qg9{f:Nat->Nat×Nat}{B:Nat}:∀n,(∀k,k<n->(f k).1<=B)->(errF f n).1<=B
 | 0,_=>Am _
 | n+1,h=>by
  rw[errF]
  split
  ·exact qg9 n fun k hk=>h k Oo
  ·exact h n Oo
theorem qae6(l:LB):(sE l).1<=l.length+201326592:=by
 unfold sE
 split
 ·exact AU (qg9 3 fun k _=>qi4 l k _) (Nat.le_add_right _ _)
 ·rename_i h0
  have hn:∀k,k<3->vNum l k<=67108864:=fun k hk=>qld (qed (f:=vsF l) (n:=3) Oo k hk)
  have e0:qo l 0=vAt l 3:=rfl;have e1:qo l 1=qo l 0+vNum l 0:=rfl;have e2:qo l 2=qo l 1+vNum l 1:=rfl;have e3:qo l 3=qo l 2+vNum l 2:=rfl;have h1:=hn 0 Oo;have h2:=hn 1 Oo;have h3:=hn 2 Oo;have h4:=qh9 l 3
  split
  ·show l.length<=_;omega
  ·split
   ·show qo l 3<=_;omega
   ·exact Am _
theorem qafb(l:LB):(wE l).1<=2*l.length+201326592:=by
 unfold wE
 split
 ·have:=qae6 l;omega
 ·rename_i h0
  obtain⟨_,h3⟩:=qad7 (l:=l) Oo;refine qg9 3 fun k hk=>?_;have h4:=qlt h3 hk;have h5:=qac2 (sDict l k);have h6:=qpr l k;unfold sdF
  split
  ·exact Am _
  ·show qo l k+(dE (sDict l k)).1<=_;omega
theorem qae8(l:LB):(tE l).1<=l.length:=by
 have h1:∀k,(tcF l k).1<=l.length:=fun k=>by
  have:=qi4 l k 1048576;have:=qh9 l k;unfold tcF
  split
  ·assumption
  ·split
   ·assumption
   ·exact Am _
 have h2:∀k,(tvF l k).1<=l.length:=fun k=>by
  unfold tvF
  split
  ·exact Aq _
  ·split
   ·show tvAt l k<=_;omega
   ·split
    ·exact Aq _
    ·exact Am _
 unfold tE
 split
 ·exact qg9 4 fun k _=>h1 k
 ·split
  ·exact qg9 4 fun k _=>h2 k
  ·split
   ·show tvAt l 4<=_;omega
   ·exact Am _
theorem q2m(l:LB)(A:oA)(c:Nat)(w:Ez)(hS:SlAt encB 1 w A l)(hc:l.length<=c)(hl:l.length<=140737488355328)(hT:CellsAt w 1 0 qjy)(hG:ErrTyp w):
  Gv EG 52 [.slice A l.length c] w fun v w'=>PvR l v w'/\Ext w w':=by
 refine ze Tryz.func52 Tryz.ntmps52 ?_;refine zcv (qxq l A c w hS hc hl hT) ?_;rintro v w1 ⟨⟨h0,ev,rfl,eb,rfl,hec⟩|⟨h0,A',B',rfl,hA,hB⟩,he1⟩
 ·have hE:packE l=qas l:=by rw[packE,Ad h0]
  (conv=>whnf);refine znm (Mem.nil w1) fun t4 w2 hm=>zw ?_;refine StoreA.all hm (i:=0) rfl rfl (by simp[zF,Value.oneCell']) fun w3 hm=>zu ?_;exact⟨.inl ⟨by rw[hE];exact h0,_,rfl,eb,rfl,by rw[hE];exact CellsAt.ext hec hm.ext⟩,he1.trans hm.ext⟩
 ·have hv4:=qyd h0;have ht5:=q2f h0;have hho:=qoo h0;have hE:=q58 h0;(conv=>whnf);refine znm (Mem.nil w1) fun t4 w2 hm=>zw ?_;refine StoreA.all hm (i:=0) rfl rfl (by simp[okF,Value.oneCell']) fun w3 hm=>zu ?_;refine zl hm 0 ?_;have hA3:=hA.ext hm.ext;have hB3:=hB.ext hm.ext;have hG3:=hG.ext (he1.trans hm.ext);have hwl:=qafb (qq l);have htl:=qae8 (q7 l);refine zcv (qye l A' B' w3 hG3 56 88 (wE (qq l)) (tE (q7 l)) Oo Oo (fun b w=>VocAt w b (qq l)) (fun b w=>TreeAt w b (q7 l)) (fun b w w' h he=>h.ext he) (fun b w w' x fz h hx hw=>h.other hx Od Od (fun v hv c=>by simp only[AD,Cu,or_false]at hv;subst hv;intro e;cases e) hw) (fun b w w' h he=>h.ext he) (fun b w w' x fz h hx hw=>h.other hx (fun k c e=>by cases e) hw) (fun w' hx=>?_) (fun w' hx=>?_)) ?_
  ·have:=quv (qq l) A' (hN l 4) w' (hA3.ext hx) Oo Oo (hG3.ext hx);rw[hv4]at this;exact this
  ·have:=q3p (q7 l) B' (hN l 5) w' (hB3.ext hx) Oo Oo;rw[ht5]at this;refine this.mono fun v w'' ⟨h,he⟩=>⟨?_,he⟩
   rcases h with⟨h0,e,h1,h2⟩|⟨h0,b,h1,_,h2⟩
   ·exact .inl ⟨h0,e,h1,h2⟩
   ·exact .inr ⟨h0,b,h1,h2⟩
  rintro v w4 ⟨⟨hz,e,rfl,eb,rfl,hec⟩|⟨hz,b,vb,tb,rfl,hb,hv,ht⟩,he4⟩
  ·(conv=>whnf);exact⟨.inl ⟨by rw[hE];exact hz,_,rfl,eb,rfl,by rw[hE];exact hec⟩,(he1.trans hm.ext).trans he4⟩
  ·(conv=>whnf);exact⟨.inr ⟨by rw[hE];exact hz,b,rfl,vb,tb,hb,hv,ht⟩,(he1.trans hm.ext).trans he4⟩
def pS1(l:LB):Prop:=(crcL (qq l)).toNat=leN ((l.drop (28+hN l 4)).take 4)
def pS2(l:LB):Prop:=(crcL (q7 l)).toNat=leN ((l.drop (32+hN l 4+hN l 5)).take 4)
def qae4(l:LB)(i:Nat):Prop:=(∀j,j<4->qd7 (qq l) (tNum (q7 l) i j)≠none)/\qb6 (q4Of (qq l) (tNum (q7 l) i))=0
def qyc(l:LB):Prop:=∀i,i<vNum (q7 l) 3->qae4 l i
def q2g(l:LB):Prop:=∀id,1<=id->id<=vTot (qq l) 3->∃i,i<vNum (q7 l) 3/\∃j,j<4/\tNum (q7 l) i j=id
open Classical in
noncomputable def poE(l:LB):Nat×Nat:=
 if(qas l).2≠0 then qas l else if ¬pS1 l then(28+hN l 4,30)else if ¬pS2 l then(32+hN l 4+hN l 5,30)
 else if(vwE (qq l)).2≠0 then(28+(vwE (qq l)).1,(vwE (qq l)).2)else if(toE (q7 l)).2≠0 then(32+hN l 4+(toE (q7 l)).1,(toE (q7 l)).2)
 else if vNum (q7 l) 3≠hN l 2 then(8,180)else if vTot (qq l) 3≠hN l 3 then(12,170)
 else if ¬qyc l then(32+hN l 4,180)else if ¬q2g l then(28,170)else(0,0)
section
variable {l:LB}
theorem q6d(h:(qas l).2≠0):poE l=qas l:=by rw[poE,Ad h]
theorem qad2(h:(qas l).2=0)(h1:¬pS1 l):poE l=(28+hN l 4,30):=by rw[poE,Aa Oo,Ad h1]
theorem qad3(h:(qas l).2=0)(h1:pS1 l)(h2:¬pS2 l):poE l=(32+hN l 4+hN l 5,30):=by rw[poE,Aa Oo,Aa (fun g=>g h1),Ad h2]
theorem qae3(h:(qas l).2=0)(h1:pS1 l)(h2:pS2 l)(h3:(vwE (qq l)).2≠0):poE l=(28+(vwE (qq l)).1,(vwE (qq l)).2):=by
 rw[poE,Aa Oo,Aa (fun g=>g h1),Aa (fun g=>g h2),Ad h3]
theorem qae2(h:(qas l).2=0)(h1:pS1 l)(h2:pS2 l)(h3:(vwE (qq l)).2=0)(h4:(toE (q7 l)).2≠0):poE l=(32+hN l 4+(toE (q7 l)).1,(toE (q7 l)).2):=by
 rw[poE,Aa Oo,Aa (fun g=>g h1),Aa (fun g=>g h2),Aa Oo,Ad h4]
theorem qae1(h:(qas l).2=0)(h1:pS1 l)(h2:pS2 l)(h3:(vwE (qq l)).2=0)(h4:(toE (q7 l)).2=0)(h5:vNum (q7 l) 3≠hN l 2):poE l=(8,180):=by
 rw[poE,Aa Oo,Aa (fun g=>g h1),Aa (fun g=>g h2),Aa Oo,Aa Oo,Ad h5]
theorem qae0(h:(qas l).2=0)(h1:pS1 l)(h2:pS2 l)(h3:(vwE (qq l)).2=0)(h4:(toE (q7 l)).2=0)(h5:vNum (q7 l) 3=hN l 2)(h6:vTot (qq l) 3≠hN l 3):poE l=(12,170):=by
 rw[poE,Aa Oo,Aa (fun g=>g h1),Aa (fun g=>g h2),Aa Oo,Aa Oo,Aa Oo,Ad h6]
theorem qabj(h:(qas l).2=0)(h1:pS1 l)(h2:pS2 l)(h3:(vwE (qq l)).2=0)(h4:(toE (q7 l)).2=0)(h5:vNum (q7 l) 3=hN l 2)(h6:vTot (qq l) 3=hN l 3)(h7:¬qyc l):poE l=(32+hN l 4,180):=by
 rw[poE,Aa Oo,Aa (fun g=>g h1),Aa (fun g=>g h2),Aa Oo,Aa Oo,Aa Oo,Aa Oo,Ad h7]
theorem qyf(h:(qas l).2=0)(h1:pS1 l)(h2:pS2 l)(h3:(vwE (qq l)).2=0)(h4:(toE (q7 l)).2=0)(h5:vNum (q7 l) 3=hN l 2)(h6:vTot (qq l) 3=hN l 3)(h7:qyc l)(h8:¬q2g l):poE l=(28,170):=by
 rw[poE,Aa Oo,Aa (fun g=>g h1),Aa (fun g=>g h2),Aa Oo,Aa Oo,Aa Oo,Aa Oo,Aa (fun g=>g h7),Ad h8]
theorem qad1(h:(qas l).2=0)(h1:pS1 l)(h2:pS2 l)(h3:(vwE (qq l)).2=0)(h4:(toE (q7 l)).2=0)(h5:vNum (q7 l) 3=hN l 2)(h6:vTot (qq l) 3=hN l 3)(h7:qyc l)(h8:q2g l):poE l=(0,0):=by
 rw[poE,Aa Oo,Aa (fun g=>g h1),Aa (fun g=>g h2),Aa Oo,Aa Oo,Aa Oo,Aa Oo,Aa (fun g=>g h7),Aa (fun g=>g h8)]
theorem q6e(h:(poE l).2=0):(qas l).2=0/\pS1 l/\pS2 l/\(vwE (qq l)).2=0/\(toE (q7 l)).2=0/\vNum (q7 l) 3=hN l 2/\vTot (qq l) 3=hN l 3/\qyc l/\q2g l:=by
 by_cases h0:(qas l).2=0
 case neg=>rw[q6d h0]at h;exact absurd h h0
 by_cases h1:pS1 l
 case neg=>rw[qad2 h0 h1]at h;exact absurd (show(30:Nat)=0 from h) Od
 by_cases h2:pS2 l
 case neg=>rw[qad3 h0 h1 h2]at h;exact absurd (show(30:Nat)=0 from h) Od
 by_cases h3:(vwE (qq l)).2=0
 case neg=>rw[qae3 h0 h1 h2 h3]at h;dsimp only at h;exact absurd h h3
 by_cases h4:(toE (q7 l)).2=0
 case neg=>rw[qae2 h0 h1 h2 h3 h4]at h;dsimp only at h;exact absurd h h4
 by_cases h5:vNum (q7 l) 3=hN l 2
 case neg=>rw[qae1 h0 h1 h2 h3 h4 h5]at h;exact absurd (show(180:Nat)=0 from h) Od
 by_cases h6:vTot (qq l) 3=hN l 3
 case neg=>rw[qae0 h0 h1 h2 h3 h4 h5 h6]at h;exact absurd (show(170:Nat)=0 from h) Od
 by_cases h7:qyc l
 case neg=>rw[qabj h0 h1 h2 h3 h4 h5 h6 h7]at h;exact absurd (show(180:Nat)=0 from h) Od
 by_cases h8:q2g l
 case neg=>rw[qyf h0 h1 h2 h3 h4 h5 h6 h7 h8]at h;exact absurd (show(170:Nat)=0 from h) Od
 exact⟨h0,h1,h2,h3,h4,h5,h6,h7,h8⟩
end
structure VTm(l:LB)(k j:Nat)(ts:List TM):Prop where
 len:ts.length=vTot l k+j
 ok:∀t∈ts,TermOk t
 at_:∀k' j',(k'<k/\j'<dN (sDict l k'))\/(k'=k/\j'<j)->∃s t,dGet (sDict l k') j'=some s/\s.length<=262144/\ReadsAs ((k'+1:Nat):Int) s t/\ts[vTot l k'+j']?=some t
theorem ql8:EG.underlying 97=some (.slice 24):=Tryz.underlying97
theorem trmI:EG.info? 24=some ((EG.info? 24).get Jk):=(Bn _).symm
theorem trmZ:((EG.info? 24).get Jk).zero=some ((((EG.info? 24).get Jk).zero).get Jk):=(Bn _).symm
def txtC(a b:E0):Int:=if slt a b=true then -1 else if seq a b=true then 0 else 1
def cmpT(a b:TM):Int:=
 if a.kind≠b.kind then(if a.kind<b.kind then -1 else 1)else if txtC a.text b.text≠0 then txtC a.text b.text else if txtC a.type b.type≠0 then txtC a.type b.type else txtC a.lang b.lang
theorem qjf(a b:E0)(w:Ez):Gv EG 122 [.string a,.string b] w fun r w'=>r=ii (txtC a b)/\w'=w:=by
 cases h1:slt a b
 ·cases h2:seq a b
  ·refine ze Tryz.func122 Tryz.ntmps122 ?_;rw[h1];refine zv ?_;rw[h1,h2];refine zv ?_;exact⟨by simp[txtC,h1,h2],rfl⟩
  ·refine ze Tryz.func122 Tryz.ntmps122 ?_;rw[h1];refine zv ?_;rw[h1,h2];refine zv ?_;exact⟨by simp[txtC,h1,h2],rfl⟩
 ·refine ze Tryz.func122 Tryz.ntmps122 ?_;rw[h1];refine zv ?_;exact⟨by simp[txtC,h1],rfl⟩
theorem qbc(a b:TM)(w:Ez):Gv EG 70 [qa8 a,qa8 b] w fun r w'=>r=ii (cmpT a b)/\Ext w w':=by
 refine ze Tryz.func70 Tryz.ntmps70 ?_;refine znm (Mem.nil w) fun b1 w1 hm=>zw ?_;refine znm hm fun b2 w2 hm=>zw ?_
 by_cases hk:a.kind=b.kind
 ·refine LoadV.mem (i:=1) Oa rfl rfl (zw ?_);refine LoadV.mem (i:=0) Oa rfl rfl (zw ?_);refine zt ?_;refine LoadV.mem (i:=1) Oa rfl rfl (zw ?_);refine LoadV.mem (i:=0) Oa rfl rfl (zw ?_);refine zcv (qjf a.text b.text w2) ?_;rintro v w3 ⟨rfl,hw⟩;subst hw;conv=>whnf
  by_cases h1:txtC a.text b.text=0
  ·refine zt ?_;refine LoadV.mem (i:=1) Oa rfl rfl (zw ?_);refine LoadV.mem (i:=0) Oa rfl rfl (zw ?_);refine zcv (qjf a.type b.type w3) ?_;rintro v w4 ⟨rfl,hw⟩;subst hw;conv=>whnf
   by_cases h2:txtC a.type b.type=0
   ·refine zt ?_;refine LoadV.mem (i:=1) Oa rfl rfl (zw ?_);refine LoadV.mem (i:=0) Oa rfl rfl (zw ?_);refine zcv (qjf a.lang b.lang w4) ?_;rintro v w5 ⟨rfl,hw⟩;subst hw;(conv=>whnf);exact⟨by rw[cmpT,Aa (by simpa using hk),Aa (by simpa using h1),Aa (by simpa using h2)],hm.ext⟩
   ·refine zv ?_;exact⟨by rw[cmpT,Aa (by simpa using hk),Aa (by simpa using h1),Ad h2],hm.ext⟩
  ·refine zv ?_;exact⟨by rw[cmpT,Aa (by simpa using hk),Ad h1],hm.ext⟩
 ·refine LoadV.mem (i:=1) Oa rfl rfl (zw ?_);refine LoadV.mem (i:=0) Oa rfl rfl (zw ?_);refine zt ?_;refine LoadV.mem (i:=1) Oa rfl rfl (zw ?_);refine LoadV.mem (i:=0) Oa rfl rfl (zw ?_);refine zC (fun _=>zw ?_) (fun _=>zw ?_)
  ·exact⟨by rw[cmpT,Ad hk,Ad Oa],hm.ext⟩
  ·exact⟨by rw[cmpT,Ad hk,Aa Oa],hm.ext⟩
theorem q6h(q:Q4):qb6 q=if qE 0 q.s≠0 then qE 0 q.s else if qE 1 q.p≠0 then qE 1 q.p else if qE 2 q.o≠0 then qE 2 q.o else qE 3 q.g:=by
 have hlen:((List.range 4).map fun k=>qE k (q.at k)).length=4:=by simp
 have hget:∀j (hj:j<((List.range 4).map fun k=>qE k (q.at k)).length),((List.range 4).map fun k=>qE k (q.at k))[j]=qE j (q.at j):=fun j hj=>by simp
 have hbad:∀k,k<4->(∀j,j<k->qE j (q.at j)=0)->qE k (q.at k)≠0->qb6 q=qE k (q.at k):=fun k hk h hne=>by
  rw[qb6,qkx (k:=k) (by rw[hlen];exact hk) (fun j hj hjk=>by rw[hget];exact h j hjk) (by rw[hget];exact hne),hget]
 by_cases h0:qE 0 q.s≠0
 ·rw[Ad h0];exact hbad 0 Oo (fun j h=>by omega) h0
 rw[Aa h0]
 by_cases h1:qE 1 q.p≠0
 ·rw[Ad h1];exact hbad 1 Oo (fun j h=>by(obtain rfl:j=0:=by omega);exact Cp.1 h0) h1
 rw[Aa h1]
 by_cases h2:qE 2 q.o≠0
 ·rw[Ad h2];exact hbad 2 Oo (fun j h=>by
   rcases(show j=0\/j=1 by omega)with rfl|rfl
   ·exact Cp.1 h0
   ·exact Cp.1 h1) h2
 rw[Aa h2]
 by_cases h3:qE 3 q.g≠0
 ·exact hbad 3 Oo (fun j h=>by
   rcases(show j=0\/j=1\/j=2 by omega)with rfl|rfl|rfl
   ·exact Cp.1 h0
   ·exact Cp.1 h1
   ·exact Cp.1 h2) h3
 ·rw[Cp.1 h3,qb6,qee fun j hj=>by
   rw[hget];rw[hlen]at hj
   rcases(show j=0\/j=1\/j=2\/j=3 by omega)with rfl|rfl|rfl|rfl
   ·exact Cp.1 h0
   ·exact Cp.1 h1
   ·exact Cp.1 h2
   ·exact Cp.1 h3]
theorem qad6{t:TM}(hk:k=0\/k=1)(h:canB k t=true):qE k t=qaj t:=by rw[qE,Aa (by rw[h];simp),Aa Oo]
theorem qE_2(t:TM):qE 2 t=qaj t:=by
 rw[qE]
 by_cases h:canB 2 t=false
 ·rw[Ad h];rw[canB,Aa Oo,Aa Oo,Ad Oo,Bool.and_eq_false_iff,decide_eq_false_iff_not,decide_eq_false_iff_not]at h;rw[qaj,Aa Oo,Aa Oo]
 ·rw[Aa h,Aa Oo]
theorem qj2(q:Q4)(hq:qa9 q)(w:Ez):Gv EG 45 [qk q] w fun v w'=>v=ii (qb6 q)/\Ext w w':=by
 refine ze Tryz.func45 Tryz.ntmps45 ?_;refine znm (Mem.nil w) ?_;intro b w1 hm;have hc:CellsAt w1 b 0 (qd q):=CellsAt.mem hm mh;have e0:canB 0 q.s=(decide (q.s.kind=1)||decide (q.s.kind=2)):=by rw[canB,Ad Oo]
 have e1:canB 1 q.p=decide (q.p.kind=1):=by rw[canB,Aa Oo,Ad Oo]
 have e3:canB 3 q.g=(quy q.g||decide (q.g.kind=1)||decide (q.g.kind=2)):=by rw[canB,Aa Oo,Aa Oo,Aa Oo]
 have hz:∀t:TM,qat t ⟨0,⟨#[]⟩,⟨#[]⟩,⟨#[]⟩⟩=quy t:=fun _=>rfl
 rw[q6h];conv=>whnf
 (repeat'(first|refine zp ?_|refine zC (fun _=>zw ?_) (fun _=>zw ?_)|refine LoadV.mem (i:=0) Oa rfl rfl (zw ?_)))
 ·exact⟨by rw[Ad (by rw[qE,Ad (by rw[e0];simp;omega)];decide),qE,Ad (by rw[e0];simp;omega)];rfl,hm.ext⟩
 all_goals
  have c0:canB 0 q.s=true:=by rw[e0];simp;omega
  rw[qad6 (.inl rfl) c0];refine LoadA.cells (qt hc 0 Oo) rfl (zw ?_);refine zcv (qbg q.s (hq 0) w1) ?_;rintro v w2 ⟨rfl,he2⟩;have hm:=hm.call he2;have hc:=hc.ext he2;conv=>whnf
  by_cases hs:qaj q.s=0
  ·rw[Aa Oo]
   (repeat'(first|refine zp ?_|refine zC (fun _=>zw ?_) (fun _=>zw ?_)|refine LoadV.mem (i:=0) Oa rfl rfl (zw ?_)))
   ·exact⟨by rw[Ad (by rw[qE,Ad (by rw[e1];simp;omega)];decide),qE,Ad (by rw[e1];simp;omega)];rfl,hm.ext⟩
   have c1:canB 1 q.p=true:=by rw[e1];simp;omega
   rw[qad6 (.inr rfl) c1];refine LoadA.cells (qt hc 1 Oo) rfl (zw ?_);refine zcv (qbg q.p (hq 1) w2) ?_;rintro v w3 ⟨rfl,he3⟩;have hm:=hm.call he3;have hc:=hc.ext he3;conv=>whnf
   by_cases hp:qaj q.p=0
   ·rw[Aa Oo];refine zv ?_;rw[qE_2];refine LoadA.cells (qt hc 2 Oo) rfl (zw ?_);refine zcv (qbg q.o (hq 2) w3) ?_;rintro v w4 ⟨rfl,he4⟩;have hm:=hm.call he4;have hc:=hc.ext he4;conv=>whnf
    by_cases ho:qaj q.o=0
    ·rw[Aa Oo];refine zv ?_;refine LoadA.cells (qt hc 3 Oo) rfl (zw ?_);refine RunV.eqTerm (a:=q.g) (b:=⟨0,⟨#[]⟩,⟨#[]⟩,⟨#[]⟩⟩) (.inl rfl) ?_;rw[hz];cases hg:quy q.g
     ·rw[hg]at e3;refine zu ?_
      (repeat'(first|refine zp ?_|refine zC (fun _=>zw ?_) (fun _=>zw ?_)|refine LoadV.mem (i:=0) Oa rfl rfl (zw ?_)))
      ·exact⟨by rw[qE,Ad (by rw[e3];simp;omega)];rfl,hm.ext⟩
      all_goals
       have c3:canB 3 q.g=true:=by rw[e3];simp;omega
       refine LoadA.cells (qt hc 3 Oo) rfl (zw ?_);refine zcv (qbg q.g (hq 3) w4) ?_;rintro v w5 ⟨rfl,he5⟩;(conv=>whnf);exact⟨by rw[qE,Aa (by rw[c3];simp),Aa Oo],hm.ext.trans he5⟩
     ·have c3:canB 3 q.g=true:=by rw[e3,hg];rfl
      have hk0:q.g.kind=0:=by
       have:=qcg.1 ((hz q.g).trans hg);rw[this]
      refine zu ?_;exact⟨by rw[qE,Aa (by rw[c3];simp),Ad ⟨rfl,hk0⟩];rfl,hm.ext⟩
    ·rw[Ad ho];refine zv ?_;exact⟨rfl,hm.ext⟩
   ·rw[Ad hp];refine zv ?_;exact⟨rfl,hm.ext⟩
  ·rw[Ad hs];refine zv ?_;exact⟨rfl,hm.ext⟩
theorem qc7{α:Type}(enc:α->EE)(size:Nat)(henc:∀x,(enc x).length=size):∀(l:List α) (j:Nat) (x:α) (k:Nat),l[j]?=some x->k<size->((l.map enc).flatten)[j*size+k]?=(enc x)[k]?
 | [],j,x,k,h,_=>by simp at h
 | y::l,0,x,k,h,hk=>by
  simp only[B9,Bp]at h;subst h;simp only[AO,Cv,Ex,Aw];rw[AQ (by rw[henc];exact hk)]
 | y::l,j+1,x,k,h,hk=>by
  simp only[D3]at h;simp only[AO,Cv];rw[AR (by rw[henc,CW];omega),henc,show(j+1)*size+k-size=j*size+k by rw[CW];omega];exact qc7 enc size henc l j x k h hk
theorem qb5{α:Type}{enc:α->EE}{size n:Nat}{l:List α}(henc:∀x,(enc x).length=size)(h:w.ownsRow base e size (.slice A n c) n (l.map enc).flatten)(hn:l.length=n):
  SlAt enc size w A l/\n<=c:=by
 obtain⟨h1,⟨h2,h3⟩|⟨g,cap,cur,h2,_,h3,h4,_,h5,h6⟩⟩:=h
 ·subst h3;refine⟨⟨fun hne=>absurd (AW hn) hne⟩,Am _⟩
 ·cases h2;refine⟨⟨fun _=>⟨g,0,rfl,fun j x hx k v hv=>?_⟩⟩,h4⟩;have hk:k<size:=by
   have:=(Ae.1 hv).1
   rwa[henc]at this
  have hj:j<n:=by rw[<-hn];exact(Ae.1 hx).1
  have hjk:j*size+k<n*size:=by
   have:(j+1)*size<=n*size:=BI _ hj;rw[CW]at this;omega
  rw[qa h3,Aw,<-hv,<-qc7 enc size henc l j x k hx hk,<-h6,Bc,Ad hjk];simp
theorem qc3(t:TM):(encT t).length=4:=rfl
def qal(out:List TM)(x:TM):List TM:=
 match out.getLast? with
 | some z=>bif qat z x then out else out++[x]
 | none=>out++[x]
def mrgN:Nat->List TM->List TM->List TM->List TM
 | 0,_,_,out=>out
 | f+1,a,b,out=>
  match a,b with
  | [],[]=>out
  | x::a,[]=>mrgN f a [] (qal out x)
  | [],y::b=>mrgN f [] b (qal out y)
  | x::a,y::b=>if cmpT x y<=0 then mrgN f a (y::b) (qal out x)else mrgN f (x::a) b (qal out y)
def tmsN:Nat->List TM->List TM
 | 0,l=>l
 | f+1,l=>if l.length<2 then l else mrgN ((tmsN f (l.take (l.length/2))).length+(tmsN f (l.drop (l.length/2))).length) (tmsN f (l.take (l.length/2))) (tmsN f (l.drop (l.length/2))) []
theorem qkh(out:List TM)(x:TM):(qal out x).length<=out.length+1:=by
 unfold qal
 split
 ·cases qat _ x<;>simp
 ·simp
theorem qk9:∀(f:Nat) (a b out:List TM),(mrgN f a b out).length<=a.length+b.length+out.length
 | 0,a,b,out=>by rw[mrgN];omega
 | f+1,a,b,out=>by
  unfold mrgN
  split
  ·omega
  ·rename_i x a
   have:=qk9 f a [] (qal out x);have:=qkh out x;simp only[As]at *;omega
  ·rename_i y b
   have:=qk9 f [] b (qal out y);have:=qkh out y;simp only[As]at *;omega
  ·rename_i x a y b
   split
   ·have:=qk9 f a (y::b) (qal out x);have:=qkh out x;simp only[As]at *;omega
   ·have:=qk9 f (x::a) b (qal out y);have:=qkh out y;simp only[As]at *;omega
theorem ql7:∀(f:Nat) (l:List TM),(tmsN f l).length<=l.length
 | 0,l=>Aq _
 | f+1,l=>by
  rw[tmsN]
  split
  ·exact Aq _
  ·have h1:=ql7 f (l.take (l.length/2));have h2:=ql7 f (l.drop (l.length/2));refine AU (qk9 _ _ _ _) ?_;rw[AG]at h1;rw[zld]at h2;simp only[BP];omega
def TmR(l:List TM)(v:E8)(w:Ez):Prop:=∃B d,v=.slice B l.length d/\l.length<=d/\SlAt encT 4 w B l
theorem TmR.ext{l:List TM}(v:E8)(w w':Ez)(h:TmR l v w)(he:Ext w w'):TmR l v w':=by
 obtain⟨B,d,h1,h2,h3⟩:=h;exact⟨B,d,h1,h2,h3.ext he⟩
theorem qef{α:Type}(enc:α->EE)(size:Nat)(henc:∀x,(enc x).length=size)(l:List α):((l.map enc).flatten).length=l.length*size:=by
 induction l with
 | nil=>simp
 | cons x l ih=>simp only[AO,Cv,zla,henc,ih,As,CW];omega
theorem qea{α:Type}{enc:α->EE}{size:Nat}(hsz:0<size)(henc:∀x,(enc x).length=size){l:List α}(h:∀(j:Nat) x,l[j]?=some x->CellsAt w b (off+j*size) (enc x)):CellsAt w b off (l.map enc).flatten:=by
 intro k v hv;have hk:=(Ae.1 hv).1;rw[qef enc size henc]at hk;have hj:k/size<l.length:=(Nat.div_lt_iff_lt_mul hsz).2 hk;have hx:=zge hj;have hm:=CV k hsz;have he:=qc7 enc size henc l (k/size) _ (k%size) hx hm;rw[show k/size*size+k%size=k from by rw[CD];exact Nat.div_add_mod k size]at he;rw[he]at hv;have:=h (k/size) _ hx (k%size) v hv
 rwa[show off+k/size*size+k%size=off+k from by rw[C7,show k/size*size+k%size=k from by rw[CD];exact Nat.div_add_mod k size]]at this
theorem qh5(l:List TM)(A:oA)(c:Nat)(w:Ez)(h2:l.length<2)(hS:SlAt encT 4 w A l):
  Gv EG 76 [.slice A l.length c] w fun v w'=>TmR l v w'/\Ext w w':=by
 refine ze Tryz.func76 Tryz.ntmps76 ?_;refine zv ?_;refine⟨fun nb w1 hb hw=>?_⟩;have he1:Ext w w1:=by rw[hw];exact xr.alloc _
 have hg:w1.heap[nb]?=some (.cells #[] 24):=by rw[hw,hb];exact heap_alloc_new w _
 have hR:Rw w w1 (.slice (some ⟨nb,0,none⟩) 0 0) 24 4 0 [] []:=⟨(Mem.nil w).call he1,⟨rfl,.inr ⟨nb,0,#[],rfl,by omega,hg,Aq _,Am _,rfl,rfl⟩⟩,fun x hx=>by simp at hx⟩
 (conv=>whnf);refine AppV.rw (m:=l.length) (news:=(l.map encT).flatten) ql8 trmI trmZ Jk Jk Od hR (qef encT 4 qc3 l) (fun hne=>?_) ?_ (by rw[show((EG.info? 24).get Jk).bytes=56 from by kernel_rfl];omega) Oo ?_
 ·obtain⟨b,off,h3,h4⟩:=hS.at_ (by intro e;subst e;exact hne rfl);exact⟨b,off,h3,(qea Od qc3 h4).ext he1⟩
 ·intro u hu;obtain⟨x,hx,hux⟩:=DL.1 hu;obtain⟨t,_,rfl⟩:=AY.1 hx;exact qad t u hux
 intro B d w2 hR2;(conv=>whnf);have e:0+l.length=l.length:=Aw _;rw[e]at hR2|-;obtain⟨h3,h4⟩:=qb5 qc3 hR2.own rfl;exact⟨⟨B,d,rfl,h4,h3⟩,hR2.mem.ext⟩
theorem qaap{x y:TM}{a b:List TM}(h:cmpT x y<=0):mrgN ((x::a).length+(y::b).length) (x::a) (y::b) out=mrgN (a.length+(y::b).length) a (y::b) (qal out x):=by
 rw[show(x::a).length+(y::b).length=(a.length+(y::b).length)+1 by simp;omega,mrgN,Ad h]
theorem qaao{x y:TM}{a b:List TM}(h:¬cmpT x y<=0):mrgN ((x::a).length+(y::b).length) (x::a) (y::b) out=mrgN ((x::a).length+b.length) (x::a) b (qal out y):=by
 rw[show(x::a).length+(y::b).length=((x::a).length+b.length)+1 by simp;omega,mrgN,Aa h]
theorem V.SlAt.pop{x:TM}{a l:List TM}(h:SlAt encT 4 w A l)(e:l=x::a)(hc:l.length<=c):
  (∃g o,A=some ⟨g,o,none⟩/\CellsAt w g (o+0*4) (encT x))/\SlAt encT 4 w (if c=1 then A else A.map (·.add (1*4))) a:=by
 subst e;obtain⟨g,o,h1,h2⟩:=h.at_ Js;refine⟨⟨g,o,h1,h2 0 x rfl⟩,?_⟩;have:=h.cut (lo:=1) (hi:=(x::a).length) (m:=c) Js znr hc rfl;have e:((x::a).drop 1).take ((x::a).length-1)=a:=by show a.take a.length=a;exact Bg
 rwa[e]at this
structure MgG where
 a:List TM
 A:oA
 ca:Nat
 b:List TM
 B:oA
 cb:Nat
 out:List TM
 O:oA
 co:Nat
theorem qua:∀(n:Nat) (l:List TM) (A:oA) (c:Nat) (w:Ez),l.length<=n->SlAt encT 4 w A l->l.length<=c->l.length<=16777216->
  Gv EG 76 [.slice A l.length c] w fun v w'=>TmR (tmsN n l) v w'/\Ext w w':=by
 intro n
 induction n with
 | zero=>
  intro l A c w hn hS hc hl;exact qh5 l A c w Oo hS
 | succ n ih=>
  intro l A c w hn hS hc hl
  by_cases h2:l.length<2
  ·rw[tmsN,Ad h2];exact qh5 l A c w h2 hS
  have et:tmsN (n+1) l=mrgN ((tmsN n (l.take (l.length/2))).length+(tmsN n (l.drop (l.length/2))).length) (tmsN n (l.take (l.length/2))) (tmsN n (l.drop (l.length/2))) []:=by rw[tmsN,Aa h2]
  rw[et];have hla:(l.take (l.length/2)).length=l.length/2:=by rw[AG];omega
  have hlb:(l.drop (l.length/2)).length=l.length-l.length/2:=zld ..;have hSa:=hS.cut (lo:=0) (hi:=l.length/2) (m:=c) Oo Oo Oo rfl;have hSb:=hS.cut (lo:=l.length/2) (hi:=l.length) (m:=c) Oo Oo Oo rfl;rw[BA,D7]at hSa;rw[AF (by rw[hlb];exact Aq _)]at hSb;have iha:=fun w' h=>ih (l.take (l.length/2)) (if c=0 then A else A.map (·.add (0*4))) c w' Oo h Oo Oo
  have ihb:=fun w' h=>ih (l.drop (l.length/2)) (if c=l.length/2 then A else A.map (·.add (l.length/2*4))) (c-l.length/2) w' Oo h Oo Oo
  rw[hla]at iha;rw[hlb]at ihb;have tla:=ql7 n (l.take (l.length/2));have tlb:=ql7 n (l.drop (l.length/2));obtain⟨ta,eta⟩:∃ta,ta=tmsN n (l.take (l.length/2)):=⟨_,rfl⟩
  obtain⟨tb,etb⟩:∃tb,tb=tmsN n (l.drop (l.length/2)):=⟨_,rfl⟩
  rw[<-eta]at iha tla|-;rw[<-etb]at ihb tlb|-;rw[hla]at tla;rw[hlb]at tlb;clear et eta etb ih;refine ze Tryz.func76 Tryz.ntmps76 ?_;refine zv ?_;refine DrawV.free Jk Jk (zw ?_);(iterate 4 (refine zd ?_));refine zsd (.slice (if c=0 then A else A.map (·.add (0*4))) (l.length/2) c) (fun wd hd=>zw ?_) (zw ?_)
  ·refine SliceV.to 0 (l.length/2) c rfl rfl rfl Oo Oo znr (fun h=>by cases h) ?_;rw[show tsz EG 24=4 from by kernel_rfl];exact xq
  apply StepD.of (TmR ta) TmR.ext
  ·intro wd hd;(conv=>whnf);refine zcv (iha wd (hSa.ext ((Ext.refl w).drew.trans hd))) ?_;rintro v w5 ⟨h1,h2⟩;exact⟨h2,h1⟩
  (conv=>whnf);(iterate 4 (refine zd ?_));refine zsd (.slice (if c=l.length/2 then A else A.map (·.add (l.length/2*4))) (l.length-l.length/2) (c-l.length/2)) (fun wd hd=>zw ?_) (zw ?_)
  ·refine SliceV.to (l.length/2) l.length c rfl rfl rfl Oo Oo znr (fun h=>by cases h) ?_;rw[show tsz EG 24=4 from by kernel_rfl];exact xq
  apply StepD.of (TmR tb) TmR.ext
  ·intro wd hd;conv=>whnf
   repeat(intro _ _;(conv=>whnf))
   refine zcv (ihb wd (hSb.ext ((Ext.refl w).drew.trans hd))) ?_;rintro v w5 ⟨h1,h2⟩;exact⟨h2,h1⟩
  (conv=>whnf);apply StepD.of (TmR ta) TmR.ext
  ·intro wd hd;conv=>whnf
   repeat(rintro _ ⟨_,_,rfl,_,_⟩;(conv=>whnf))
   exact⟨xr,_,_,rfl,by assumption,by assumption⟩
  (conv=>whnf);apply StepD.of (TmR tb) TmR.ext
  ·intro wd hd;conv=>whnf
   repeat(rintro _ ⟨_,_,rfl,_,_⟩;(conv=>whnf))
   exact⟨xr,_,_,rfl,by assumption,by assumption⟩
  (conv=>whnf);intro w4 he;(conv=>whnf);rintro _ ⟨B1,b1,rfl,hb1,hb2⟩;(conv=>whnf);rintro _ ⟨A1,a1,rfl,ha1,ha2⟩;(conv=>whnf);intro _ _;(conv=>whnf);intro _ _;(conv=>whnf);clear iha ihb hSa hSb;have hw4:Ext w w4:=(Ext.refl w).drew.trans he;refine qj (fun x:MgG=>[(3,.slice x.A x.a.length x.ca),(4,.slice x.B x.b.length x.cb),(5,.slice x.O x.out.length x.co)])
   (fun x w'=>SlAt encT 4 w4 x.A x.a/\x.a.length<=x.ca/\SlAt encT 4 w4 x.B x.b/\x.b.length<=x.cb/\Rw w4 w' (.slice x.O x.out.length x.co) 24 4 x.out.length (x.out.map encT).flatten []/\mrgN (x.a.length+x.b.length) x.a x.b x.out=mrgN (ta.length+tb.length) ta tb []/\x.a.length+x.b.length+x.out.length<=16777216)
   (fun x=>x.a.length+x.b.length) ⟨ta,A1,a1,tb,B1,b1,[],none,0⟩ fq ⟨ha2,ha1,hb2,hb1,Rw.nil (Mem.nil w4),rfl,by simp only[BP];omega⟩ ?_
  obtain⟨res,hres⟩:∃res,res=mrgN (ta.length+tb.length) ta tb []:=⟨_,rfl⟩
  rw[<-hres];clear ha2 ha1 hb2 hb1 tla tlb;rintro⟨a,A,ca,b,B,cb,out,O,co⟩ w5 ρ' ⟨hSa,hca,hSb,hcb,hR,hmr,hle⟩;dsimp only at hSa hca hSb hcb hR hmr hle|-;obtain⟨na,ha⟩|⟨x,a',ea⟩:(a.length=0/\a=[])\/∃x a',a=x::a':=by
   rcases a with _|⟨x,a'⟩
   ·exact .inl ⟨rfl,rfl⟩
   ·exact .inr ⟨x,a',rfl⟩
  ·obtain⟨nb,hb⟩|⟨y,b',eb⟩:(b.length=0/\b=[])\/∃y b',b=y::b':=by
    rcases b with _|⟨y,b'⟩
    ·exact .inl ⟨rfl,rfl⟩
    ·exact .inr ⟨y,b',rfl⟩
   ·refine zu ?_;rw[ha,hb]at hmr;obtain⟨h3,h4⟩:=qb5 qc3 hR.own rfl;exact⟨⟨O,co,by rw[<-hmr];rfl,by rw[<-hmr];exact h4,by rw[<-hmr];exact h3⟩,hw4.trans hR.mem.ext⟩
   ·have nb:b.length=b'.length+1:=by rw[eb];rfl
    obtain⟨⟨gb,ob,eB,hxb⟩,hSb'⟩:=hSb.pop eb hcb;subst eB;refine zu ?_;refine NewV.rw hR fun tp w6 hR=>zw ?_;refine DrawV.free Jk Jk (zw ?_);(iterate 18 (refine zd ?_));intro w7 he7;have hR:=hR.drew.call he7;refine zu ?_;refine⟨⟨gb,ob,0,rfl,by omega,by omega,?_⟩⟩;(conv=>whnf);refine LoadA.cells (CellsAt.ext hxb hR.mem.ext) rfl (zw ?_);refine StoreA.rwAll hR rfl (qad y) fun w8 hR=>zw ?_;refine SliceV.to 1 b.length cb rfl rfl rfl Oo Oo znr (fun h=>by cases h) ?_;rw[show tsz EG 24=4 from by kernel_rfl];(conv=>whnf);have hmr:mrgN (a.length+b'.length) a b' (qal out y)=res:=by
     rw[<-hmr];subst ha eb;rw[show([]:List TM).length+(y::b').length=(([]:List TM).length+b'.length)+1 by simp];rfl
    rcases hout:out.getLast? with _|z
    ·have hon:out=[]:=Cq.1 hout;have ho0:out.length=0:=by rw[hon];rfl
     have hpu:qal out y=out++[y]:=by rw[qal,hout]
     have hR:=hR.drew;refine zy ?_;refine zv ?_;refine zl hR.mem 0 ?_;refine NewV.rw hR fun nb' w17 hR=>zw ?_;refine AppV.rw (m:=1) (news:=encT y) ql8 trmI trmZ Jk Jk Od hR rfl (fun _=>⟨nb',0,rfl,fun k v hv=>?_⟩) (qad y) (by rw[show((EG.info? 24).get Jk).bytes=56 from by kernel_rfl];omega) Oo ?_
     ·rw[qa (hR.mem.get mh),Aw];rw[Ar];exact hv
     clear hR;intro B2 c2 w18 hR;have hR:Rw w4 w18 (.slice B2 (out++[y]).length c2) 24 4 (out++[y]).length ((out++[y]).map encT).flatten []:=by
      have e:((out++[y]).map encT).flatten=(out.map encT).flatten++encT y:=by simp
      rw[e,zla];exact hR.tail.tail
     (conv=>whnf);rw[hpu]at hmr;refine⟨⟨a,A,ca,b',if cb=1 then some ⟨gb,ob,none⟩else(some (⟨gb,ob,none⟩:Addr)).map (·.add (1*4)),cb-1,(out++[y]),B2,c2⟩,⟨rfl,by show Value.slice _ (b.length-1) _=Value.slice _ b'.length _;rw[nb];rfl,?_,trivial⟩,⟨hSa,hca,hSb',by simp only;omega,hR,hmr,?_⟩,?_⟩
     ·first|rfl|(show Value.slice _ (out.length+1) _=Value.slice _ (out++[_]).length _;rw[zla];rfl)
     ·simp only[zla,AZ];omega
     ·simp only;omega
    ·obtain⟨ho1,ho2⟩:=qb5 qc3 hR.own rfl;have hon:out≠[]:=by intro e;rw[e]at hout;cases hout
     have hop:0<out.length:=Cc.2 hon;have hz:out[out.length-1]?=some z:=by rw[<-hout,CS]
     obtain⟨go,oo,eO,hco⟩:=ho1.at_ hon;subst eO;have hcz:=hco (out.length-1) z hz;refine zy ?_;refine zv ?_;refine⟨⟨go,oo,out.length-1,rfl,by omega,by omega,?_⟩⟩;refine zu ?_;refine LoadA.cells (CellsAt.ext hcz xr.drew) rfl (zu ?_);refine zl hR.mem.drew 0 ?_;refine zv ?_;refine RunV.eqTerm (a:=z) (b:=y) (.inr rfl) ?_;cases hzx:qat z y
     ·have hpu:qal out y=out++[y]:=by rw[qal,hout];simp only[hzx,cond_false]
      have hR:=hR.drew;refine zu ?_;refine zl hR.mem 0 ?_;refine NewV.rw hR fun nb' w17 hR=>zw ?_;refine AppV.rw (m:=1) (news:=encT y) ql8 trmI trmZ Jk Jk Od hR rfl (fun _=>⟨nb',0,rfl,fun k v hv=>?_⟩) (qad y) (by rw[show((EG.info? 24).get Jk).bytes=56 from by kernel_rfl];omega) Oo ?_
      ·rw[qa (hR.mem.get mh),Aw];rw[Ar];exact hv
      clear hR;intro B2 c2 w18 hR;have hR:Rw w4 w18 (.slice B2 (out++[y]).length c2) 24 4 (out++[y]).length ((out++[y]).map encT).flatten []:=by
       have e:((out++[y]).map encT).flatten=(out.map encT).flatten++encT y:=by simp
       rw[e,zla];exact hR.tail.tail
      (conv=>whnf);rw[hpu]at hmr;refine⟨⟨a,A,ca,b',if cb=1 then some ⟨gb,ob,none⟩else(some (⟨gb,ob,none⟩:Addr)).map (·.add (1*4)),cb-1,(out++[y]),B2,c2⟩,⟨rfl,by show Value.slice _ (b.length-1) _=Value.slice _ b'.length _;rw[nb];rfl,?_,trivial⟩,⟨hSa,hca,hSb',by simp only;omega,hR,hmr,?_⟩,?_⟩
      ·first|rfl|(show Value.slice _ (out.length+1) _=Value.slice _ (out++[_]).length _;rw[zla];rfl)
      ·simp only[zla,AZ];omega
      ·simp only;omega
     ·have hpu:qal out y=out:=by rw[qal,hout];simp only[hzx,cond_true]
      refine zu ?_;rw[hpu]at hmr;refine⟨⟨a,A,ca,b',if cb=1 then some ⟨gb,ob,none⟩else(some (⟨gb,ob,none⟩:Addr)).map (·.add (1*4)),cb-1,out,some ⟨go,oo,none⟩,co⟩,⟨rfl,by show Value.slice _ (b.length-1) _=Value.slice _ b'.length _;rw[nb];rfl,?_,trivial⟩,⟨hSa,hca,hSb',by simp only;omega,hR.tail.drew,hmr,?_⟩,?_⟩
      ·first|rfl|(show Value.slice _ (out.length+1) _=Value.slice _ (out++[_]).length _;rw[zla];rfl)
      ·simp only;omega
      ·simp only;omega
  ·have na:a.length=a'.length+1:=by rw[ea];rfl
   obtain⟨⟨ga,oa,eA,hxa⟩,hSa'⟩:=hSa.pop ea hca;subst eA;obtain⟨nb,hb⟩|⟨y,b',eb⟩:(b.length=0/\b=[])\/∃y b',b=y::b':=by
    rcases b with _|⟨y,b'⟩
    ·exact .inl ⟨rfl,rfl⟩
    ·exact .inr ⟨y,b',rfl⟩
   ·refine zu ?_;refine NewV.rw hR fun tp w6 hR=>zw ?_;refine DrawV.free Jk Jk (zw ?_);(iterate 18 (refine zd ?_));intro w7 he7;have hR:=hR.drew.call he7;refine zu ?_;refine⟨⟨ga,oa,0,rfl,by omega,by omega,?_⟩⟩;(conv=>whnf);refine LoadA.cells (CellsAt.ext hxa hR.mem.ext) rfl (zw ?_);refine StoreA.rwAll hR rfl (qad x) fun w8 hR=>zw ?_;refine SliceV.to 1 a.length ca rfl rfl rfl Oo Oo znr (fun h=>by cases h) ?_;rw[show tsz EG 24=4 from by kernel_rfl];(conv=>whnf);have hmr:mrgN (a'.length+b.length) a' b (qal out x)=res:=by
     rw[<-hmr];subst hb ea;rw[show(x::a').length+([]:List TM).length=(a'.length+([]:List TM).length)+1 by simp];rfl
    rcases hout:out.getLast? with _|z
    ·have hon:out=[]:=Cq.1 hout;have ho0:out.length=0:=by rw[hon];rfl
     have hpu:qal out x=out++[x]:=by rw[qal,hout]
     have hR:=hR.drew;refine zy ?_;refine zv ?_;refine zl hR.mem 0 ?_;refine NewV.rw hR fun nb' w17 hR=>zw ?_;refine AppV.rw (m:=1) (news:=encT x) ql8 trmI trmZ Jk Jk Od hR rfl (fun _=>⟨nb',0,rfl,fun k v hv=>?_⟩) (qad x) (by rw[show((EG.info? 24).get Jk).bytes=56 from by kernel_rfl];omega) Oo ?_
     ·rw[qa (hR.mem.get mh),Aw];rw[Ar];exact hv
     clear hR;intro B2 c2 w18 hR;have hR:Rw w4 w18 (.slice B2 (out++[x]).length c2) 24 4 (out++[x]).length ((out++[x]).map encT).flatten []:=by
      have e:((out++[x]).map encT).flatten=(out.map encT).flatten++encT x:=by simp
      rw[e,zla];exact hR.tail.tail
     (conv=>whnf);rw[hpu]at hmr;refine⟨⟨a',if ca=1 then some ⟨ga,oa,none⟩else(some (⟨ga,oa,none⟩:Addr)).map (·.add (1*4)),ca-1,b,B,cb,(out++[x]),B2,c2⟩,⟨by show Value.slice _ (a.length-1) _=Value.slice _ a'.length _;rw[na];rfl,rfl,?_,trivial⟩,⟨hSa',by simp only;omega,hSb,hcb,hR,hmr,?_⟩,?_⟩
     ·first|rfl|(show Value.slice _ (out.length+1) _=Value.slice _ (out++[_]).length _;rw[zla];rfl)
     ·simp only[zla,AZ];omega
     ·simp only;omega
    ·obtain⟨ho1,ho2⟩:=qb5 qc3 hR.own rfl;have hon:out≠[]:=by intro e;rw[e]at hout;cases hout
     have hop:0<out.length:=Cc.2 hon;have hz:out[out.length-1]?=some z:=by rw[<-hout,CS]
     obtain⟨go,oo,eO,hco⟩:=ho1.at_ hon;subst eO;have hcz:=hco (out.length-1) z hz;refine zy ?_;refine zv ?_;refine⟨⟨go,oo,out.length-1,rfl,by omega,by omega,?_⟩⟩;refine zu ?_;refine LoadA.cells (CellsAt.ext hcz xr.drew) rfl (zu ?_);refine zl hR.mem.drew 0 ?_;refine zv ?_;refine RunV.eqTerm (a:=z) (b:=x) (.inr rfl) ?_;cases hzx:qat z x
     ·have hpu:qal out x=out++[x]:=by rw[qal,hout];simp only[hzx,cond_false]
      have hR:=hR.drew;refine zu ?_;refine zl hR.mem 0 ?_;refine NewV.rw hR fun nb' w17 hR=>zw ?_;refine AppV.rw (m:=1) (news:=encT x) ql8 trmI trmZ Jk Jk Od hR rfl (fun _=>⟨nb',0,rfl,fun k v hv=>?_⟩) (qad x) (by rw[show((EG.info? 24).get Jk).bytes=56 from by kernel_rfl];omega) Oo ?_
      ·rw[qa (hR.mem.get mh),Aw];rw[Ar];exact hv
      clear hR;intro B2 c2 w18 hR;have hR:Rw w4 w18 (.slice B2 (out++[x]).length c2) 24 4 (out++[x]).length ((out++[x]).map encT).flatten []:=by
       have e:((out++[x]).map encT).flatten=(out.map encT).flatten++encT x:=by simp
       rw[e,zla];exact hR.tail.tail
      (conv=>whnf);rw[hpu]at hmr;refine⟨⟨a',if ca=1 then some ⟨ga,oa,none⟩else(some (⟨ga,oa,none⟩:Addr)).map (·.add (1*4)),ca-1,b,B,cb,(out++[x]),B2,c2⟩,⟨by show Value.slice _ (a.length-1) _=Value.slice _ a'.length _;rw[na];rfl,rfl,?_,trivial⟩,⟨hSa',by simp only;omega,hSb,hcb,hR,hmr,?_⟩,?_⟩
      ·first|rfl|(show Value.slice _ (out.length+1) _=Value.slice _ (out++[_]).length _;rw[zla];rfl)
      ·simp only[zla,AZ];omega
      ·simp only;omega
     ·have hpu:qal out x=out:=by rw[qal,hout];simp only[hzx,cond_true]
      refine zu ?_;rw[hpu]at hmr;refine⟨⟨a',if ca=1 then some ⟨ga,oa,none⟩else(some (⟨ga,oa,none⟩:Addr)).map (·.add (1*4)),ca-1,b,B,cb,out,some ⟨go,oo,none⟩,co⟩,⟨by show Value.slice _ (a.length-1) _=Value.slice _ a'.length _;rw[na];rfl,rfl,?_,trivial⟩,⟨hSa',by simp only;omega,hSb,hcb,hR.tail.drew,hmr,?_⟩,?_⟩
      ·first|rfl|(show Value.slice _ (out.length+1) _=Value.slice _ (out++[_]).length _;rw[zla];rfl)
      ·simp only;omega
      ·simp only;omega
   ·have nb:b.length=b'.length+1:=by rw[eb];rfl
    obtain⟨⟨gb,ob,eB,hxb⟩,hSb'⟩:=hSb.pop eb hcb;subst eB
    by_cases hxy:cmpT x y<=0
    ·refine zu ?_;refine NewV.rw hR fun tp w6 hR=>zw ?_;refine DrawV.free Jk Jk (zw ?_);(iterate 9 (refine zd ?_));refine zf ?_ (by intro wd hd;refine zu ?_;refine⟨⟨ga,oa,0,rfl,by omega,by omega,?_⟩⟩;exact xq);apply zsd (qa8 x)
     ·intro wd hd;refine zu ?_;refine LoadA.cells (CellsAt.ext hxa ((hR.mem.ext.trans (Ext.refl w6).drew).trans hd)) rfl (zw ?_);exact xq
     (conv=>whnf);refine zd ?_;refine zf ?_ (by intro wd hd;refine zu ?_;refine⟨⟨gb,ob,0,rfl,by omega,by omega,?_⟩⟩;exact xq);apply zsd (qa8 y)
     ·intro wd hd;refine zu ?_;refine LoadA.cells (CellsAt.ext hxb ((hR.mem.ext.trans (Ext.refl w6).drew).trans hd)) rfl (zw ?_);exact xq
     (conv=>whnf);apply zsd (ii (cmpT x y))
     ·intro wd hd;refine zu ?_;refine zcv (qbc x y wd) ?_;rintro v w7 ⟨rfl,h7⟩;exact⟨h7,rfl⟩
     (conv=>whnf);(iterate 3 (refine zd ?_));intro w7 he7;have hR:=hR.drew.call he7;refine zu ?_;refine⟨⟨ga,oa,0,rfl,by omega,by omega,?_⟩⟩;(conv=>whnf);refine LoadA.cells (CellsAt.ext hxa hR.mem.ext) rfl (zw ?_);refine StoreA.rwAll hR rfl (qad x) fun w8 hR=>zw ?_;refine SliceV.to 1 a.length ca rfl rfl rfl Oo Oo znr (fun h=>by cases h) ?_;rw[show tsz EG 24=4 from by kernel_rfl];(conv=>whnf);have hmr:mrgN (a'.length+b.length) a' b (qal out x)=res:=by
      rw[<-hmr];subst ea eb;exact(qaap hxy).symm
     rcases hout:out.getLast? with _|z
     ·have hon:out=[]:=Cq.1 hout;have ho0:out.length=0:=by rw[hon];rfl
      have hpu:qal out x=out++[x]:=by rw[qal,hout]
      have hR:=hR.drew;refine zy ?_;refine zv ?_;refine zl hR.mem 0 ?_;refine NewV.rw hR fun nb' w17 hR=>zw ?_;refine AppV.rw (m:=1) (news:=encT x) ql8 trmI trmZ Jk Jk Od hR rfl (fun _=>⟨nb',0,rfl,fun k v hv=>?_⟩) (qad x) (by rw[show((EG.info? 24).get Jk).bytes=56 from by kernel_rfl];omega) Oo ?_
      ·rw[qa (hR.mem.get mh),Aw];rw[Ar];exact hv
      clear hR;intro B2 c2 w18 hR;have hR:Rw w4 w18 (.slice B2 (out++[x]).length c2) 24 4 (out++[x]).length ((out++[x]).map encT).flatten []:=by
       have e:((out++[x]).map encT).flatten=(out.map encT).flatten++encT x:=by simp
       rw[e,zla];exact hR.tail.tail
      (conv=>whnf);rw[hpu]at hmr;refine⟨⟨a',if ca=1 then some ⟨ga,oa,none⟩else(some (⟨ga,oa,none⟩:Addr)).map (·.add (1*4)),ca-1,b,some ⟨gb,ob,none⟩,cb,(out++[x]),B2,c2⟩,⟨by show Value.slice _ (a.length-1) _=Value.slice _ a'.length _;rw[na];rfl,rfl,?_,trivial⟩,⟨hSa',by simp only;omega,hSb,hcb,hR,hmr,?_⟩,?_⟩
      ·first|rfl|(show Value.slice _ (out.length+1) _=Value.slice _ (out++[_]).length _;rw[zla];rfl)
      ·simp only[zla,AZ];omega
      ·simp only;omega
     ·obtain⟨ho1,ho2⟩:=qb5 qc3 hR.own rfl;have hon:out≠[]:=by intro e;rw[e]at hout;cases hout
      have hop:0<out.length:=Cc.2 hon;have hz:out[out.length-1]?=some z:=by rw[<-hout,CS]
      obtain⟨go,oo,eO,hco⟩:=ho1.at_ hon;subst eO;have hcz:=hco (out.length-1) z hz;refine zy ?_;refine zv ?_;refine⟨⟨go,oo,out.length-1,rfl,by omega,by omega,?_⟩⟩;refine zu ?_;refine LoadA.cells (CellsAt.ext hcz xr.drew) rfl (zu ?_);refine zl hR.mem.drew 0 ?_;refine zv ?_;refine RunV.eqTerm (a:=z) (b:=x) (.inr rfl) ?_;cases hzx:qat z x
      ·have hpu:qal out x=out++[x]:=by rw[qal,hout];simp only[hzx,cond_false]
       have hR:=hR.drew;refine zu ?_;refine zl hR.mem 0 ?_;refine NewV.rw hR fun nb' w17 hR=>zw ?_;refine AppV.rw (m:=1) (news:=encT x) ql8 trmI trmZ Jk Jk Od hR rfl (fun _=>⟨nb',0,rfl,fun k v hv=>?_⟩) (qad x) (by rw[show((EG.info? 24).get Jk).bytes=56 from by kernel_rfl];omega) Oo ?_
       ·rw[qa (hR.mem.get mh),Aw];rw[Ar];exact hv
       clear hR;intro B2 c2 w18 hR;have hR:Rw w4 w18 (.slice B2 (out++[x]).length c2) 24 4 (out++[x]).length ((out++[x]).map encT).flatten []:=by
        have e:((out++[x]).map encT).flatten=(out.map encT).flatten++encT x:=by simp
        rw[e,zla];exact hR.tail.tail
       (conv=>whnf);rw[hpu]at hmr;refine⟨⟨a',if ca=1 then some ⟨ga,oa,none⟩else(some (⟨ga,oa,none⟩:Addr)).map (·.add (1*4)),ca-1,b,some ⟨gb,ob,none⟩,cb,(out++[x]),B2,c2⟩,⟨by show Value.slice _ (a.length-1) _=Value.slice _ a'.length _;rw[na];rfl,rfl,?_,trivial⟩,⟨hSa',by simp only;omega,hSb,hcb,hR,hmr,?_⟩,?_⟩
       ·first|rfl|(show Value.slice _ (out.length+1) _=Value.slice _ (out++[_]).length _;rw[zla];rfl)
       ·simp only[zla,AZ];omega
       ·simp only;omega
      ·have hpu:qal out x=out:=by rw[qal,hout];simp only[hzx,cond_true]
       refine zu ?_;rw[hpu]at hmr;refine⟨⟨a',if ca=1 then some ⟨ga,oa,none⟩else(some (⟨ga,oa,none⟩:Addr)).map (·.add (1*4)),ca-1,b,some ⟨gb,ob,none⟩,cb,out,some ⟨go,oo,none⟩,co⟩,⟨by show Value.slice _ (a.length-1) _=Value.slice _ a'.length _;rw[na];rfl,rfl,?_,trivial⟩,⟨hSa',by simp only;omega,hSb,hcb,hR.tail.drew,hmr,?_⟩,?_⟩
       ·first|rfl|(show Value.slice _ (out.length+1) _=Value.slice _ (out++[_]).length _;rw[zla];rfl)
       ·simp only;omega
       ·simp only;omega
    ·refine zu ?_;refine NewV.rw hR fun tp w6 hR=>zw ?_;refine DrawV.free Jk Jk (zw ?_);(iterate 9 (refine zd ?_));refine zf ?_ (by intro wd hd;refine zu ?_;refine⟨⟨ga,oa,0,rfl,by omega,by omega,?_⟩⟩;exact xq);apply zsd (qa8 x)
     ·intro wd hd;refine zu ?_;refine LoadA.cells (CellsAt.ext hxa ((hR.mem.ext.trans (Ext.refl w6).drew).trans hd)) rfl (zw ?_);exact xq
     (conv=>whnf);refine zd ?_;refine zf ?_ (by intro wd hd;refine zu ?_;refine⟨⟨gb,ob,0,rfl,by omega,by omega,?_⟩⟩;exact xq);apply zsd (qa8 y)
     ·intro wd hd;refine zu ?_;refine LoadA.cells (CellsAt.ext hxb ((hR.mem.ext.trans (Ext.refl w6).drew).trans hd)) rfl (zw ?_);exact xq
     (conv=>whnf);apply zsd (ii (cmpT x y))
     ·intro wd hd;refine zu ?_;refine zcv (qbc x y wd) ?_;rintro v w7 ⟨rfl,h7⟩;exact⟨h7,rfl⟩
     (conv=>whnf);(iterate 3 (refine zd ?_));intro w7 he7;have hR:=hR.drew.call he7;refine zu ?_;refine⟨⟨gb,ob,0,rfl,by omega,by omega,?_⟩⟩;(conv=>whnf);refine LoadA.cells (CellsAt.ext hxb hR.mem.ext) rfl (zw ?_);refine StoreA.rwAll hR rfl (qad y) fun w8 hR=>zw ?_;refine SliceV.to 1 b.length cb rfl rfl rfl Oo Oo znr (fun h=>by cases h) ?_;rw[show tsz EG 24=4 from by kernel_rfl];(conv=>whnf);have hmr:mrgN (a.length+b'.length) a b' (qal out y)=res:=by
      rw[<-hmr];subst ea eb;exact(qaao hxy).symm
     rcases hout:out.getLast? with _|z
     ·have hon:out=[]:=Cq.1 hout;have ho0:out.length=0:=by rw[hon];rfl
      have hpu:qal out y=out++[y]:=by rw[qal,hout]
      have hR:=hR.drew;refine zy ?_;refine zv ?_;refine zl hR.mem 0 ?_;refine NewV.rw hR fun nb' w17 hR=>zw ?_;refine AppV.rw (m:=1) (news:=encT y) ql8 trmI trmZ Jk Jk Od hR rfl (fun _=>⟨nb',0,rfl,fun k v hv=>?_⟩) (qad y) (by rw[show((EG.info? 24).get Jk).bytes=56 from by kernel_rfl];omega) Oo ?_
      ·rw[qa (hR.mem.get mh),Aw];rw[Ar];exact hv
      clear hR;intro B2 c2 w18 hR;have hR:Rw w4 w18 (.slice B2 (out++[y]).length c2) 24 4 (out++[y]).length ((out++[y]).map encT).flatten []:=by
       have e:((out++[y]).map encT).flatten=(out.map encT).flatten++encT y:=by simp
       rw[e,zla];exact hR.tail.tail
      (conv=>whnf);rw[hpu]at hmr;refine⟨⟨a,some ⟨ga,oa,none⟩,ca,b',if cb=1 then some ⟨gb,ob,none⟩else(some (⟨gb,ob,none⟩:Addr)).map (·.add (1*4)),cb-1,(out++[y]),B2,c2⟩,⟨rfl,by show Value.slice _ (b.length-1) _=Value.slice _ b'.length _;rw[nb];rfl,?_,trivial⟩,⟨hSa,hca,hSb',by simp only;omega,hR,hmr,?_⟩,?_⟩
      ·first|rfl|(show Value.slice _ (out.length+1) _=Value.slice _ (out++[_]).length _;rw[zla];rfl)
      ·simp only[zla,AZ];omega
      ·simp only;omega
     ·obtain⟨ho1,ho2⟩:=qb5 qc3 hR.own rfl;have hon:out≠[]:=by intro e;rw[e]at hout;cases hout
      have hop:0<out.length:=Cc.2 hon;have hz:out[out.length-1]?=some z:=by rw[<-hout,CS]
      obtain⟨go,oo,eO,hco⟩:=ho1.at_ hon;subst eO;have hcz:=hco (out.length-1) z hz;refine zy ?_;refine zv ?_;refine⟨⟨go,oo,out.length-1,rfl,by omega,by omega,?_⟩⟩;refine zu ?_;refine LoadA.cells (CellsAt.ext hcz xr.drew) rfl (zu ?_);refine zl hR.mem.drew 0 ?_;refine zv ?_;refine RunV.eqTerm (a:=z) (b:=y) (.inr rfl) ?_;cases hzx:qat z y
      ·have hpu:qal out y=out++[y]:=by rw[qal,hout];simp only[hzx,cond_false]
       have hR:=hR.drew;refine zu ?_;refine zl hR.mem 0 ?_;refine NewV.rw hR fun nb' w17 hR=>zw ?_;refine AppV.rw (m:=1) (news:=encT y) ql8 trmI trmZ Jk Jk Od hR rfl (fun _=>⟨nb',0,rfl,fun k v hv=>?_⟩) (qad y) (by rw[show((EG.info? 24).get Jk).bytes=56 from by kernel_rfl];omega) Oo ?_
       ·rw[qa (hR.mem.get mh),Aw];rw[Ar];exact hv
       clear hR;intro B2 c2 w18 hR;have hR:Rw w4 w18 (.slice B2 (out++[y]).length c2) 24 4 (out++[y]).length ((out++[y]).map encT).flatten []:=by
        have e:((out++[y]).map encT).flatten=(out.map encT).flatten++encT y:=by simp
        rw[e,zla];exact hR.tail.tail
       (conv=>whnf);rw[hpu]at hmr;refine⟨⟨a,some ⟨ga,oa,none⟩,ca,b',if cb=1 then some ⟨gb,ob,none⟩else(some (⟨gb,ob,none⟩:Addr)).map (·.add (1*4)),cb-1,(out++[y]),B2,c2⟩,⟨rfl,by show Value.slice _ (b.length-1) _=Value.slice _ b'.length _;rw[nb];rfl,?_,trivial⟩,⟨hSa,hca,hSb',by simp only;omega,hR,hmr,?_⟩,?_⟩
       ·first|rfl|(show Value.slice _ (out.length+1) _=Value.slice _ (out++[_]).length _;rw[zla];rfl)
       ·simp only[zla,AZ];omega
       ·simp only;omega
      ·have hpu:qal out y=out:=by rw[qal,hout];simp only[hzx,cond_true]
       refine zu ?_;rw[hpu]at hmr;refine⟨⟨a,some ⟨ga,oa,none⟩,ca,b',if cb=1 then some ⟨gb,ob,none⟩else(some (⟨gb,ob,none⟩:Addr)).map (·.add (1*4)),cb-1,out,some ⟨go,oo,none⟩,co⟩,⟨rfl,by show Value.slice _ (b.length-1) _=Value.slice _ b'.length _;rw[nb];rfl,?_,trivial⟩,⟨hSa,hca,hSb',by simp only;omega,hR.tail.drew,hmr,?_⟩,?_⟩
       ·first|rfl|(show Value.slice _ (out.length+1) _=Value.slice _ (out++[_]).length _;rw[zla];rfl)
       ·simp only;omega
       ·simp only;omega
open Go.RowKit
namespace V
theorem qtr{n:Nat}(hS:ShapeW n ops)(hsz:listed.size=ops.size)(hr:Region.ready .any ops listed=[])(k:Nat)(hk:k<ops.size):listed.getD k false=true:=by
 induction k using Nat.strongRecOn with
 | _ k ih=>
  cases hv:listed.getD k false with
  | true=>rfl
  | false=>
   exfalso
   have hmem:k∈Region.ready .any ops listed:=by
    refine mem_ready.2 ⟨?_,ops[k],Aj hk,fun e he hb=>?_⟩
    ·have:k<listed.size:=by omega
     simp[this]at hv|-;exact hv
    ·rw[qau]at hb;have hp:e.on∈qu ops[k]:=qab.2 ⟨e,by simpa using he,hb,rfl⟩;have h1:=hS.lt k _ (Aj hk) _ hp;exact ih _ h1 Oo
   rw[hr]at hmem;cases hmem
theorem InvD.stepW{n:Nat}{E:List Ent}{e:Ent}{v:E8}(hS:ShapeW n ops)(hl:E.length=ops.size)(hd:∀(i:Nat) (o:Oper) (e:Ent),ops[i]?=some o->E[i]?=some e->EntOk e o)(hfree:∀(k:Nat) (e:Ent),E[k]?=some e->∀x w w',e.φ x w->e.φ x w')(I:InvD n E w0 ρ listed vals ρa a w)(hsz:listed.size=ops.size)(ho:ops[i]?=some o)(he:E[i]?=some e)(hun:listed.getD i false=false)(hx:Ext w0 w')(hφ:e.φ v w'):
  InvD n E w0 ρ (listed.setIfInBounds i true) (fun k=>if k=i then v else vals k) (match o.dst with|some d=>upd ρa d v|none=>ρa) (a.put o.dst v) w':=by
 have hio:i<ops.size:=(AS.1 ho).1;have hok:=hd i o e ho he;have hlt:∀(k:Nat) (e:Ent),E[k]?=some e->k<ops.size:=fun k e hk=>by
  rw[<-hl]
  rcases AX k E.length with h|h
  ·exact h
  ·rw[Au h]at hk;cases hk
 have hgd:∀k,(listed.setIfInBounds i true).getD k false=true->k=i\/(k≠i/\listed.getD k false=true):=fun k hk=>by
  by_cases hki:k=i
  ·exact .inl hki
  ·rw[getD_set_ne false (fun e=>hki e.symm)]at hk;exact .inr ⟨hki,hk⟩
 refine⟨hx,?_,?_,?_,?_⟩
 ·cases hdd:o.dst with
  | none=>exact I.st
  | some d=>exact I.st.put (hS.dn i o ho d hdd) v
 ·intro k hk e' he'
  rcases hgd k hk with rfl|⟨hki,hk⟩
  ·rw[he]at he';cases he'
   simpa using hφ
  ·simp only[Aa hki];exact hfree k e' he' _ _ _ (I.φ k hk e' he')
 ·intro k hk e' d he' hdd
  rcases hgd k hk with rfl|⟨hki,hk⟩
  ·rw[he]at he';cases he';rw[hok.d]at hdd;simp[hdd,qet]
  ·simp only[Aa hki];have hk':=hlt k e' he';have hd2:=(hd k _ e' (Aj hk') he').d;cases ho2:o.dst with
   | none=>exact I.at_ k hk e' d he' hdd
   | some d2=>
    have hne:d≠d2:=by
     rintro rfl;exact hki (hS.uniq i o k _ d ho (Aj hk') (hd2 ▸ hdd) ho2)
    simp only;rw[qaq _ _ _ _ hne];exact I.at_ k hk e' d he' hdd
 ·intro t ht;have h1:ρa t=ρ t:=I.miss t fun k hk e' he'=>ht k (by
   by_cases hki:k=i
   ·subst hki;rw[hun]at hk;cases hk
   ·rw[getD_set_ne false (fun e=>hki e.symm)];exact hk) e' he'
  cases ho2:o.dst with
  | none=>exact h1
  | some d2=>
   have hne:t≠d2:=by
    rintro rfl;refine ht i ?_ e he (by rw[hok.d,ho2]);have:i<listed.size:=by omega
    simp[this]
   simp only;rw[qaq _ _ _ _ hne];exact h1
section
variable {P:E4} {n:Nat} {ops:Array Oper} {w0:Ez} {E:List Ent} {ρ:EB}
theorem qzg{Q:EB->EC}(hQ:∀ρ a w,St n ρ a->Q ρ w->Q' .normal a w)(hS:ShapeW n ops)(hl:E.length=ops.size)(hE:∀(i:Nat) (o:Oper) (e:Ent),ops[i]?=some o->E[i]?=some e->q82 P ops.toList I E ρ i o e)(hF:∃es',AgreeG es' E/\∀vals w,I (fun _=>true) vals w->Q (frG es' vals (sfr E ρ)) w):
  ∀(fuel:Nat) (listed:Array Bool) (vals ρa:EB) (a:Act) (w:Ez),listed.size=ops.size->listed.toList.count false<=fuel->(∀k,listed.getD k false=true->∀o,ops[k]?=some o->∀j∈qu o,listed.getD j false=true)->InvD n E w0 ρ listed vals ρa a w0->I (fun j=>listed.getD j true) vals w->wpAny P .any ops Q' fuel listed a w:=by
 obtain⟨ef,hA,hF⟩:=hF;have hd:∀(i:Nat) (o:Oper) (e:Ent),ops[i]?=some o->E[i]?=some e->EntOk e o:=fun i o e h1 h2=>by
  obtain⟨v,_,rfl,_⟩:=hE i o e h1 h2;refine⟨rfl,fun _ _ _ h _=>h,fun c hc x w hx=>?_⟩;have hc:v=some c:=hc;subst hc;exact hx
 have hlt:∀(k:Nat) (e:Ent),E[k]?=some e->k<ops.size:=fun k e hk=>by
  rw[<-hl];exact(Ae.1 hk).1
 have hfree:∀(k:Nat) (e:Ent),E[k]?=some e->∀x w w',e.φ x w->e.φ x w':=fun k e he x w w' h=>by
  have hk:=hlt k e he;obtain⟨v,_,rfl,_⟩:=hE k _ e (Aj hk) he;exact h
 have final:∀(listed:Array Bool) (vals ρa:EB) (a:Act) (w:Ez),(∀k,k<ops.size->listed.getD k false=true)->listed.size=ops.size->InvD n E w0 ρ listed vals ρa a w0->I (fun j=>listed.getD j true) vals w->Q' .normal a w:=fun listed vals ρa a w hall hsz D hI=>by
  have hT:(fun j=>listed.getD j true)=fun _=>true:=by
   funext j
   rcases AX j listed.size with hj|hj
   ·rw[qb4 hj];exact hall j Oo
   ·simp[Bd hj]
  rw[hT]at hI;have he:frG ef vals (sfr E ρ)=ρa:=by
   funext t
   have:=qhd hd hl hS D E.length (ef.map (·.1)) t (fun k e hk hdt hki=>⟨hall k (hlt k e hk),fun hv=>by
    obtain⟨d,v,φ⟩:=e;cases hv;cases hdt;exact hA.all k _ _ hk⟩) (fun k e hk _ _=>by rw[hl];exact hlt k e hk)
   rw[Bg,qv0 _ _ hA.in_]at this;exact this
  exact hQ _ _ _ D.st (he ▸ hF vals w hI)
 intro fuel
 induction fuel with
 | zero=>
  intro listed vals ρa a w hsz hc hdc D hI;have hall:∀k,k<ops.size->listed.getD k false=true:=fun k hk=>by
   have h1:=CG.1 (show listed.toList.count false=0 by omega);have hk':k<listed.size:=by omega
   cases hv:listed[k]with
   | true=>simp[hk',hv]
   | false=>exact absurd (by rw[<-hv];exact Cg.2 (CL hk')) h1
  exact⟨qfi fun k hk=>by rw[qb4 Oo];exact hall k hk,final listed vals ρa a w hall hsz D hI⟩
 | succ fuel ih=>
  intro listed vals ρa a w hsz hc hdc D hI;refine⟨fun hr=>final listed vals ρa a w (fun k hk=>qtr hS hsz hr k hk) hsz D hI,fun i hi=>?_⟩;obtain⟨hun,o,ho,hall⟩:=mem_ready.1 hi;have hio:i<ops.size:=(AS.1 ho).1;have hnl:listed.getD i false=false:=by rw[<-qb4 Oo];exact hun
  have hpl:∀k∈qu o,listed.getD k false=true:=fun k hk=>by
   obtain⟨e,he,hb,hon⟩:=qab.1 hk;rw[<-hon];exact hall e (by simpa using he) (by rw[qau];exact hb)
  have hiE:E[i]?=some E[i]:=zge Oo;obtain⟨v,es,he,hAi,hspec⟩:=hE i o E[i] ho hiE;have hlp:∀k∈qu o,listed.getD k true=true:=fun k hk=>by
   have:=hpl k hk
   rcases AX k listed.size with hj|hj
   ·rw[qb4 hj];exact this
   ·simp[Bd hj]
  have h:=hspec (fun j=>listed.getD j true) vals w hun hlp hI;have hag:∀t∈o.looksAt ops,frG es vals (sfr (E.take i) ρ) t=ρa t:=fun t ht=>by
   have hp:∀(k:Nat) (e:Ent),E[k]?=some e->e.d=some t->k∈qu o\/(i<k/\listed.getD k false≠true):=fun k e hk hdt=>by
    have hk':=hlt k e hk
    rcases hS.look i o k ops[k] t ho (Aj hk') ((hd k _ e (Aj hk') hk).d ▸ hdt) ht with h|h
    ·exact .inl h
    ·refine .inr ⟨hS.lt k _ (Aj hk') i h,fun hl=>?_⟩;have:=hdc k hl _ (Aj hk') i h;rw[hnl]at this;cases this
   have:=qhd hd hl hS D i (es.map (·.1)) t (fun k e hk hdt hki=>by
    rcases hp k e hk hdt with h|h
    ·exact⟨hpl k h,fun hv=>by
      obtain⟨d,v,φ⟩:=e;cases hv;cases hdt;exact hAi.all k _ _ (by rw[Bc,Ad hki];exact hk)⟩
    ·omega) (fun k e hk hdt hlk=>by
    rcases hp k e hk hdt with h|h
    ·exact hS.lt i o ho k h
    ·exact absurd hlk h.2)
   rw[qv0 _ _ hAi.in_]at this;exact this
  refine qmy ho hS D.st hag h fun v' w' ⟨hv,hI'⟩=>?_;have hset:(fun j=>(listed.setIfInBounds i true).getD j true)=setS (fun j=>listed.getD j true) i:=by
   funext j
   unfold setS
   by_cases hji:j=i
   ·subst hji;have:j<listed.size:=by omega
    simp[this]
   ·have:Nat.beq j i=false:=Bx.2 fun e=>hji (Bl e)
    rw[this,getD_set_ne true (fun e=>hji e.symm)];rfl
  have hvals:(fun k=>if k=i then v' else vals k)=upd vals i v':=by
   funext k
   by_cases hk:k=i
   ·subst hk;simp[upd]
   ·rw[Aa hk,qaq _ _ _ _ hk]
  refine ih _ (upd vals i v') _ _ _ (by simp[hsz]) (by have:=countP_set listed i hun;omega) (fun k hk o' ho' j hj=>by
   have hset:∀j,listed.getD j false=true->(listed.setIfInBounds i true).getD j false=true:=fun j hj=>by
    by_cases hji:j=i
    ·subst hji;rw[hnl]at hj;cases hj
    ·rw[getD_set_ne false (fun e=>hji e.symm)];exact hj
   by_cases hki:k=i
   ·subst hki;rw[ho]at ho';cases ho';exact hset j (hpl j hj)
   ·rw[getD_set_ne false (fun e=>hki e.symm)]at hk;exact hset j (hdc k hk o' ho' j hj)) (hvals ▸ InvD.stepW (v:=v') hS hl hd hfree D hsz ho hiE hnl xr (by rw[he];exact hv)) ?_
  rw[hset];exact hI'
end
theorem DrawV.genW{n:Nat}{Q:Exit->EB->EC}(I:(Nat->Bool)->EB->EC)(hm:P.follows .mixedOrders=true)(hB:qr7 n ops=true)(h0:∀vals,I (fun j=>Nat.ble ops.size j) vals w.drew)(h:regG P ops.toList I (fun ρ' w'=>Q .normal ρ' w') ops.toList 0 [] ρ):DrawV P n id ops Q ρ w:=by
 refine⟨fun a ha=>wp_region_any hm ?_⟩;obtain⟨E,h1,h2,h3⟩:=qpq ops.toList [] [] ρ (AgreeG.mk (fun _ _ h=>by cases h) (fun _ _ _ h=>by simp at h)) h;refine qzg (I:=I) (Q:=fun ρ' w'=>Q .normal ρ' w') (E:=E) (w0:=w.drew) (ρ:=ρ) (fun ρ a w h1 h2=>⟨ρ,h1,h2⟩) (qlz hB) (by simpa using h1) (fun i o e ho he=>?_) (by simpa using h3) _ _ (fun _=>undef) ρ a _ Js Js (fun k hk=>by rw[qc]at hk;cases hk) ⟨xr,ha,?_,?_,fun t _=>rfl⟩ ?_
 ·have:=h2 i o e (by simpa using ho) he
  simpa using this
 ·intro k hk;rw[qc]at hk;cases hk
 ·intro k hk;rw[qc]at hk;cases hk
 ·have:(fun j=>(Array.replicate ops.size false).getD j true)=fun j=>Nat.ble ops.size j:=by
   funext j
   rcases AX j ops.size with hj|hj
   ·have h2:Nat.ble ops.size j=false:=Bx.2 fun e=>by have:=CT e;omega
    simp[hj,h2]
   ·rw[DC hj];simp[hj]
  rw[this];exact h0 _
end V
def ApI(w0:Ez)(e:E6)(size n m:Nat)(v0:E8)(xs news:EE)(s1 s2 s3:Bool)(v1 v2 v3:E8)(w':Ez):Prop:=
 (s1=false/\s2=false/\s3=false/\Rw w0 w' v0 e size n xs [])\/
 (s1=true/\s2=false/\s3=false/\∃nb,v1=.slice (some ⟨nb,0,none⟩) m m/\Rw w0 w' v0 e size n xs [(nb,.cells news.toArray e)])\/
 (s1=true/\s2=true/\∃B c,v2=.slice B (n+m) c/\(s3=true->v3=.slice B (n+m) c)/\Rw w0 w' (.slice B (n+m) c) e size (n+m) (xs++news) [])
theorem ApI.ext{size n:Nat}{s1 s2:Bool}(h:ApI w0 e size n m v0 xs news s1 s2 s3 v1 v2 v3 w'):Ext w0 w':=by
 rcases h with⟨_,_,_,h⟩|⟨_,_,_,_,_,h⟩|⟨_,_,_,_,_,_,h⟩
 all_goals exact h.mem.ext
theorem ApI.build{size n:Nat}{s2:Bool}(h:ApI w0 e size n m v0 xs news false s2 s3 v1 v2 v3 w)(hb:b=w.heap.size)(hw:w'=w.alloc (.cells news.toArray e)):
  ApI w0 e size n m v0 xs news true s2 s3 (.slice (some ⟨b,0,none⟩) m m) v2 v3 w':=by
 rcases h with⟨_,h2,h3,h⟩|⟨h1,_⟩|⟨h1,_⟩
 ·exact .inr (.inl ⟨rfl,h2,h3,b,rfl,h.newBlk hb hw⟩)
 ·cases h1
 ·cases h1
theorem ApI.mid{size n:Nat}(h:ApI w0 e size n m v0 xs news true false s3 v1 v2 v3 w):
  s3=false/\∃nb,v1=.slice (some ⟨nb,0,none⟩) m m/\Rw w0 w v0 e size n xs [(nb,.cells news.toArray e)]:=by
 rcases h with⟨h1,_⟩|⟨_,_,h3,h⟩|⟨_,h2,_⟩
 ·cases h1
 ·exact⟨h3,h⟩
 ·cases h2
theorem ApI.end_{size n:Nat}{s1:Bool}(h:ApI w0 e size n m v0 xs news s1 true s3 v1 v2 v3 w):
  s1=true/\∃B c,v2=.slice B (n+m) c/\(s3=true->v3=.slice B (n+m) c)/\Rw w0 w (.slice B (n+m) c) e size (n+m) (xs++news) []:=by
 rcases h with⟨_,h2,_⟩|⟨_,h2,_⟩|⟨h1,_,h⟩
 ·cases h2
 ·cases h2
 ·exact⟨h1,h⟩
def trQ(q:Q4):List TM:=[q.s,q.p,q.o]++if q.g.kind=0 then[]else[q.g]
def trms(qs:List Q4):List TM:=(qs.map trQ).flatten
theorem qaed(q:Q4):(trQ q).length<=4:=by unfold trQ;split<;>simp
theorem que(qs:List Q4):(trms qs).length<=4*qs.length:=by
 induction qs with
 | nil=>exact Aq _
 | cons q qs ih=>
  have:=qaed q;simp only[trms,AO,Cv,zla,As]at ih|-;omega
theorem qse(qs:List Q4)(i:Nat)(q:Q4)(h:qs[i]?=some q):trms (qs.take (i+1))=trms (qs.take i)++trQ q:=by
 rw[BJ,h];simp[trms]
theorem q0f(q:Q4):∀v∈encT q.s++encT q.p++encT q.o,v.oneCell'=true:=by
 intro v hv
 rcases Ba.1 hv with hv|hv
 ·rcases Ba.1 hv with hv|hv
  ·exact qad _ v hv
  ·exact qad _ v hv
 ·exact qad _ v hv
theorem qjv(qs:List Q4)(A:oA)(c:Nat)(w:Ez)(hS:SlAt qd 16 w A qs)(hl:qs.length<=4194304):
  Gv EG 48 [.slice A qs.length c] w fun v w'=>TmR (tmsN (trms qs).length (trms qs)) v w'/\Ext w w':=by
 refine ze Tryz.func48 Tryz.ntmps48 ?_;refine qj (fun x:Nat×List TM×oA×Nat=>[(0,.slice A qs.length c),(3,.slice x.2.2.1 x.2.1.length x.2.2.2),(4,ii x.1)])
  (fun x w'=>x.1<=qs.length/\x.2.1=trms (qs.take x.1)/\Rw w w' (.slice x.2.2.1 x.2.1.length x.2.2.2) 24 4 x.2.1.length (x.2.1.map encT).flatten []) (fun x=>qs.length-x.1) (0,[],none,0)
  fq ⟨by simp,rfl,Rw.nil (Mem.nil w)⟩ ?_
 rintro⟨i,out,B,cb⟩ w1 ρ' ⟨h1,h2,hR⟩;dsimp only at h1 h2 hR|-;(conv=>whnf);refine zC (fun _=>zw ?_) (fun _=>zw ?_)
 ·have hil:i<qs.length:=by omega
  obtain⟨g,o,eA,hc⟩:=hS.at_ (by intro e;rw[e]at hil;simp at hil);subst eA;obtain⟨q,hq⟩:∃q,qs[i]?=some q:=⟨_,zge hil⟩
  have hcq:=hc i q hq;have hto:=que (qs.take i);rw[<-h2,AG,Dd h1]at hto;refine DrawV.genW (fun S vals w'=>ApI w 24 4 out.length 3 (.slice B out.length cb) (out.map encT).flatten (encT q.s++encT q.p++encT q.o) (S 16) (S 17) (S 18) (vals 16) (vals 17) (vals 18) w') rfl Jk (fun vals=>.inl ⟨rfl,rfl,rfl,hR.drew⟩) ?_;clear hR;(conv=>whnf);(iterate 3 (refine zg ?_));refine StepG.of (.pointer (some ⟨g,o+i*16,none⟩)) (fun S vals wd hk hp hI=>zw ?_) (zw ?_)
  ·refine⟨⟨g,o,i,rfl,by omega,by omega,?_⟩⟩;rw[show tsz EG 26=16 from by kernel_rfl];(conv=>whnf);exact⟨rfl,hI⟩
  refine StepG.of (.pointer (some ⟨g,o+i*16+0,none⟩)) (fun S vals wd hk hp hI=>zw ?_) (zw ?_)
  ·exact⟨rfl,hI⟩
  refine StepG.of (qa8 q.s) (fun S vals wd hk hp hI=>zw ?_) (zw ?_)
  ·refine LoadA.cells ((qt hcq 0 Oo).ext hI.ext) rfl (zw ?_);exact⟨rfl,hI⟩
  refine zg ?_;refine zg ?_;refine StepG.of (.pointer (some ⟨g,o+i*16,none⟩)) (fun S vals wd hk hp hI=>zw ?_) (zw ?_)
  ·refine⟨⟨g,o,i,rfl,by omega,by omega,?_⟩⟩;rw[show tsz EG 26=16 from by kernel_rfl];(conv=>whnf);exact⟨rfl,hI⟩
  refine StepG.of (.pointer (some ⟨g,o+i*16+4,none⟩)) (fun S vals wd hk hp hI=>zw ?_) (zw ?_)
  ·exact⟨rfl,hI⟩
  refine StepG.of (qa8 q.p) (fun S vals wd hk hp hI=>zw ?_) (zw ?_)
  ·refine LoadA.cells ((qt hcq 1 Oo).ext hI.ext) rfl (zw ?_);exact⟨rfl,hI⟩
  refine zg ?_;refine zg ?_;refine StepG.of (.pointer (some ⟨g,o+i*16,none⟩)) (fun S vals wd hk hp hI=>zw ?_) (zw ?_)
  ·refine⟨⟨g,o,i,rfl,by omega,by omega,?_⟩⟩;rw[show tsz EG 26=16 from by kernel_rfl];(conv=>whnf);exact⟨rfl,hI⟩
  refine StepG.of (.pointer (some ⟨g,o+i*16+8,none⟩)) (fun S vals wd hk hp hI=>zw ?_) (zw ?_)
  ·exact⟨rfl,hI⟩
  refine StepG.of (qa8 q.o) (fun S vals wd hk hp hI=>zw ?_) (zw ?_)
  ·refine LoadA.cells ((qt hcq 2 Oo).ext hI.ext) rfl (zw ?_);exact⟨rfl,hI⟩
  refine StepG.any (fun S vals wd hk hp hI=>?_) (zw ?_)
  ·dsimp only at hI;rw[hk]at hI;(conv=>whnf);refine⟨fun b w' hb hw=>?_⟩;(conv=>whnf);exact⟨trivial,hI.build hb hw⟩
  refine StepG.any (fun S vals wd hk hp hI=>?_) (zw ?_)
  ·dsimp only at hI;have h16:S 16=true:=hp 16 Od;rw[hk,h16]at hI;obtain⟨h18,nb,hv,hR⟩:=hI.mid;rw[ql hv];(conv=>whnf);refine AppV.rw (m:=3) (news:=encT q.s++encT q.p++encT q.o) ql8 trmI trmZ Jk Jk Od hR rfl (fun _=>⟨nb,0,rfl,fun k v hv=>?_⟩) (q0f q) (by rw[show((EG.info? 24).get Jk).bytes=56 from by kernel_rfl];omega) Oo ?_
   ·rw[qa (hR.mem.get mh),Aw];rw[Ar];exact hv
   intro B2 c2 w18 hR2;exact⟨trivial,.inr (.inr ⟨h16,rfl,B2,c2,rfl,fun h=>absurd (h18.symm.trans h) Od,hR2.tail⟩)⟩
  refine StepG.any (fun S vals wd hk hp hI=>?_) (zw ?_)
  ·dsimp only at hI;have h17:S 17=true:=hp 17 Od;rw[hk,h17]at hI;obtain⟨h16,B2,c2,hv,_,hR⟩:=hI.end_;rw[ql hv];(conv=>whnf);exact⟨trivial,.inr (.inr ⟨h16,h17,B2,c2,rfl,fun _=>rfl,hR⟩)⟩
  intro vals w2 hI;obtain⟨_,B2,c2,hv,hv2,hR⟩:=hI.end_;replace hv2:=hv2 rfl;rw[ql hv,ql hv2];clear hI hv hv2;obtain⟨out3,eout⟩:∃out3,out3=out++[q.s,q.p,q.o]:=⟨_,rfl⟩
  have el3:out3.length=out.length+3:=by rw[eout];simp
  have hR:Rw w w2 (.slice B2 out3.length c2) 24 4 out3.length (out3.map encT).flatten []:=by
   have e:(out3.map encT).flatten=(out.map encT).flatten++(encT q.s++encT q.p++encT q.o):=by rw[eout];simp
   rw[e,el3];exact hR
  rw[<-el3];have hck:w2.cell? ⟨g,o+i*16+12,none⟩=some (ii q.g.kind):=Ext.cell hR.mem.ext (qt hcq 3 Oo 0 _ rfl);(conv=>whnf);refine⟨⟨g,o,i,rfl,by omega,by omega,?_⟩⟩;rw[show tsz EG 26=16 from by kernel_rfl];(conv=>whnf);refine LoadV.of hck (zw ?_);refine zC (fun _=>zu ?_) (fun _=>zu ?_)
  ·have etr:out3++[q.g]=out++trQ q:=by rw[eout,trQ,Aa Oo];simp
   refine⟨⟨g,o,i,rfl,by omega,by omega,?_⟩⟩;rw[show tsz EG 26=16 from by kernel_rfl];(conv=>whnf);refine LoadA.cells ((qt hcq 3 Oo).ext hR.mem.ext) rfl (zw ?_);refine NewV.rw hR fun nb w3 hR=>zw ?_;refine AppV.rw (m:=1) (news:=encT q.g) ql8 trmI trmZ Jk Jk Od hR rfl (fun _=>⟨nb,0,rfl,fun k v hv=>?_⟩) (qad q.g) (by rw[show((EG.info? 24).get Jk).bytes=56 from by kernel_rfl];omega) Oo ?_
   ·rw[qa (hR.mem.get mh),Aw];rw[Ar];exact hv
   clear hR;intro B3 c3 w4 hR;have hR:Rw w w4 (.slice B3 (out++trQ q).length c3) 24 4 (out++trQ q).length ((out++trQ q).map encT).flatten []:=by
    have e:((out++trQ q).map encT).flatten=(out3.map encT).flatten++encT q.g:=by rw[<-etr];simp
    rw[e,<-etr,zla];exact hR.tail
   refine zu ?_;refine⟨(i+1,out++trQ q,B3,c3),⟨rfl,?_,rfl,trivial⟩,⟨by simp only;omega,?_,hR⟩,by simp only;omega⟩
   ·show Value.slice B3 (out3.length+1) c3=Value.slice B3 (out++trQ q).length c3;rw[<-etr,zla];rfl
   ·show out++trQ q=trms (qs.take (i+1));rw[qse qs i q hq,<-h2]
  ·have etr:out3=out++trQ q:=by rw[eout,trQ,Ad Oo];simp
   refine⟨(i+1,out3,B2,c2),fq,⟨by simp only;omega,?_,hR⟩,by simp only;omega⟩;show out3=trms (qs.take (i+1));rw[qse qs i q hq,<-h2,etr]
 ·obtain rfl:i=qs.length:=by omega
  rw[Bg]at h2;subst h2;have hle:=que qs;obtain⟨o1,o2⟩:=qb5 qc3 hR.own rfl;have hcall:=qua (trms qs).length (trms qs) B cb w1 znr o1 o2 Oo;generalize trms qs=ts at *;refine zcv (hcall) ?_;rintro v w5 ⟨h5,h6⟩;obtain⟨B5,d5,rfl,_,_⟩:=id h5;(conv=>whnf);exact⟨h5,hR.mem.ext.trans h6⟩
def sT(ts:List TM)(j:Nat):TM:=if j=0 then zTM else ts.getD (j-1) zTM
def sA(ts:List TM)(q:Nat->Nat)(k j:Nat):TM:=if j<k then sT ts (q j)else zTM
theorem qa7(q:Q4):(qd q).length=16:=rfl
theorem qn(q:Q4):∀v∈qd q,v.oneCell'=true:=by
 intro v hv;unfold qd at hv
 rcases Ba.1 hv with hv|hv
 ·exact qad _ v hv
 ·rcases Ba.1 hv with hv|hv
  ·exact qad _ v hv
  ·rcases Ba.1 hv with hv|hv
   ·exact qad _ v hv
   ·exact qad _ v hv
namespace V
end V
theorem qdSl:EG.underlying 46=some (.slice 26):=Tryz.underlying46
theorem qdI:EG.info? 26=some ((EG.info? 26).get Jk):=(Bn _).symm
theorem qdZ:((EG.info? 26).get Jk).zero=some ((((EG.info? 26).get Jk).zero).get Jk):=(Bn _).symm
def LtT(a b:TM):Prop:=a.kind<b.kind\/(a.kind=b.kind/\(slt a.text b.text=true\/(a.text=b.text/\(slt a.type b.type=true\/(a.type=b.type/\slt a.lang b.lang=true)))))
theorem quh{a b:E0}:txtC a b<0↔slt a b=true:=by
 unfold txtC
 split
 ·simp[*]
 ·split<;>simp[*]
theorem qer{a b:E0}:txtC a b=0↔a=b:=by
 unfold txtC
 split
 ·rename_i h
  constructor
  ·intro h2;exact absurd h2 Od
  ·rintro rfl;rw[qd5]at h;cases h
 ·split
  ·rename_i h;simp[qac.1 h]
  ·rename_i h
   constructor
   ·intro h2;exact absurd h2 Od
   ·rintro rfl;exact absurd (qac.2 rfl) h
theorem qci{a b:TM}:cmpT a b<0↔LtT a b:=by
 unfold cmpT LtT
 split
 ·rename_i h
  split
  ·rename_i h2;exact⟨fun _=>.inl h2,fun _=>by decide⟩
  ·rename_i h2
   exact⟨fun h3=>absurd h3 Od,fun h3=>by
    rcases h3 with h3|⟨h3,_⟩
    ·exact absurd h3 h2
    ·exact absurd h3 h⟩
 ·rename_i h
  have h:a.kind=b.kind:=Bj h
  split
  ·rename_i h1
   rw[quh]
   constructor
   ·intro h2;exact .inr ⟨h,.inl h2⟩
   ·rintro(h2|⟨_,h2|⟨h2,_⟩⟩)
    ·omega
    ·exact h2
    ·exact absurd (qer.2 h2) h1
  ·rename_i h1
   have h1:a.text=b.text:=qer.1 (Bj h1)
   split
   ·rename_i h2
    rw[quh]
    constructor
    ·intro h3;exact .inr ⟨h,.inr ⟨h1,.inl h3⟩⟩
    ·rintro(h3|⟨_,h3|⟨_,h3|⟨h3,_⟩⟩⟩)
     ·omega
     ·rw[h1,qd5]at h3;cases h3
     ·exact h3
     ·exact absurd (qer.2 h3) h2
   ·rename_i h2
    have h2:a.type=b.type:=qer.1 (Bj h2);rw[quh]
    constructor
    ·intro h3;exact .inr ⟨h,.inr ⟨h1,.inr ⟨h2,h3⟩⟩⟩
    ·rintro(h3|⟨_,h3|⟨_,h3|⟨_,h3⟩⟩⟩)
     ·omega
     ·rw[h1,qd5]at h3;cases h3
     ·rw[h2,qd5]at h3;cases h3
     ·exact h3
theorem qa2{a b:TM}:cmpT a b=0↔a=b:=by
 obtain⟨ak,at_,ay,al⟩:=a;obtain⟨bk,bt,by_,bl⟩:=b;unfold cmpT;simp only[TM.mk.injEq]
 split
 ·rename_i h
  constructor
  ·intro h2
   split at h2<;>exact absurd h2 Od
  ·rintro⟨h2,_⟩;exact absurd h2 h
 ·rename_i h
  have h:ak=bk:=Bj h
  split
  ·rename_i h1
   exact⟨fun h2=>absurd h2 h1,fun h2=>absurd (qer.2 h2.2.1) h1⟩
  ·rename_i h1
   have h1:at_=bt:=qer.1 (Bj h1)
   split
   ·rename_i h2
    exact⟨fun h3=>absurd h3 h2,fun h3=>absurd (qer.2 h3.2.2.1) h2⟩
   ·rename_i h2
    have h2:ay=by_:=qer.1 (Bj h2);rw[qer];exact⟨fun h3=>⟨h,h1,h2,h3⟩,fun h3=>h3.2.2.2⟩
theorem LtT.irrefl(a:TM):¬LtT a a:=fun h=>by
 have h1:=qci.2 h;have h2:cmpT a a=0:=qa2.2 rfl;omega
theorem LtT.ne{a b:TM}(h:LtT a b):a≠b:=by
 rintro rfl;exact LtT.irrefl _ h
theorem LtT.trans{a b c:TM}(h:LtT a b)(g:LtT b c):LtT a c:=by
 unfold LtT at *
 rcases h with h|⟨h,h1⟩
 ·rcases g with g|⟨g,_⟩
  ·exact .inl Oo
  ·exact .inl Oo
 ·rcases g with g|⟨g,g1⟩
  ·exact .inl Oo
  ·refine .inr ⟨h.trans g,?_⟩
   rcases h1 with h1|⟨h1,h2⟩
   ·rcases g1 with g1|⟨g1,_⟩
    ·exact .inl (qfo h1 g1)
    ·exact .inl (by rw[<-g1];exact h1)
   ·rcases g1 with g1|⟨g1,g2⟩
    ·exact .inl (by rw[h1];exact g1)
    ·refine .inr ⟨h1.trans g1,?_⟩
     rcases h2 with h2|⟨h2,h3⟩
     ·rcases g2 with g2|⟨g2,_⟩
      ·exact .inl (qfo h2 g2)
      ·exact .inl (by rw[<-g2];exact h2)
     ·rcases g2 with g2|⟨g2,g3⟩
      ·exact .inl (by rw[h2];exact g2)
      ·exact .inr ⟨h2.trans g2,qfo h3 g3⟩
theorem LtT.tri(a b:TM):LtT a b\/a=b\/LtT b a:=by
 unfold LtT
 rcases Int.lt_trichotomy a.kind b.kind with h|h|h
 ·exact .inl (.inl h)
 ·rcases qps a.text b.text with h1|h1|h1
  ·exact .inl (.inr ⟨h,.inl h1⟩)
  ·rcases qps a.type b.type with h2|h2|h2
   ·exact .inl (.inr ⟨h,.inr ⟨h1,.inl h2⟩⟩)
   ·rcases qps a.lang b.lang with h3|h3|h3
    ·exact .inl (.inr ⟨h,.inr ⟨h1,.inr ⟨h2,h3⟩⟩⟩)
    ·refine .inr (.inl ?_);cases a;cases b;simp_all
    ·exact .inr (.inr (.inr ⟨h.symm,.inr ⟨h1.symm,.inr ⟨h2.symm,h3⟩⟩⟩))
   ·exact .inr (.inr (.inr ⟨h.symm,.inr ⟨h1.symm,.inl h2⟩⟩))
  ·exact .inr (.inr (.inr ⟨h.symm,.inl h1⟩))
 ·exact .inr (.inr (.inl h))
def RiseT(l:List TM):Prop:=l.Pairwise LtT
def AheadT(out l:List TM):Prop:=∀z,out.getLast?=some z->∀x∈l,z=x\/LtT z x
theorem RiseT.lt_last(h:RiseT out){z:TM}(hz:out.getLast?=some z):∀x∈out,x=z\/LtT x z:=by
 obtain⟨ys,rfl⟩:=List.getLast?_eq_some_iff.1 hz;intro x hx
 rcases Ba.1 hx with hx|hx
 ·exact .inr ((Da.1 h).2.2 x hx z (Ah.2 rfl))
 ·exact .inl (Ah.1 hx)
theorem qf3{x:TM}(h:RiseT out)(ha:AheadT out [x]):RiseT (qal out x)/\(∀y,y∈qal out x↔y∈out\/y=x)/\(qal out x).getLast?=some x:=by
 unfold qal
 split
 ·rename_i z hz
  rcases ha z hz x (Ah.2 rfl)with rfl|hlt
  ·rw[qcg.2 rfl];have hm:z∈out:=List.mem_of_getLast? hz;exact⟨h,fun y=>⟨.inl,fun g=>by rcases g with g|rfl<;>assumption⟩,hz⟩
  ·have:qat z x=false:=Bx.2 fun e=>hlt.ne (qcg.1 e)
   rw[this];refine⟨?_,fun y=>by simp,by simp⟩;refine Da.2 ⟨h,CJ _ _,fun a hA b hB=>?_⟩;rw[Ah.1 hB]
   rcases h.lt_last hz a hA with rfl|g
   ·exact hlt
   ·exact g.trans hlt
 ·rename_i hz
  have:out=[]:=Cq.1 hz;subst this;exact⟨CJ _ _,fun y=>by simp,rfl⟩
theorem AheadT.next{a:List TM}{x:TM}(hr:RiseT (x::a))(hl:(qal out x).getLast?=some x):AheadT (qal out x) a:=fun z hz y hy=>by
 rw[hl]at hz;cases hz;exact .inr ((Bh.1 hr).1 y hy)
theorem qfd:∀(f:Nat) (a b out:List TM),a.length+b.length<=f->RiseT a->RiseT b->RiseT out->AheadT out a->AheadT out b->RiseT (mrgN f a b out)/\∀y,y∈mrgN f a b out↔y∈out\/y∈a\/y∈b
 | 0,a,b,out,hf,_,_,ho,_,_=>by
  have ea:a=[]:=AW Oo;have eb:b=[]:=AW Oo;subst ea eb;exact⟨ho,fun y=>by simp[mrgN]⟩
 | f+1,[],[],out,_,_,_,ho,_,_=>⟨ho,fun y=>by simp[mrgN]⟩
 | f+1,x::a,[],out,hf,ha,hb,ho,h1,h2=>by
  obtain⟨p1,p2,p3⟩:=qf3 ho (x:=x) fun z hz y hy=>h1 z hz y (by rw[Ah.1 hy];exact AK ..);obtain⟨r1,r2⟩:=qfd f a [] (qal out x) (by simpa using hf) (Bh.1 ha).2 hb p1 (.next ha p3) (fun z _ y hy=>by cases hy);refine⟨r1,fun y=>?_⟩;rw[mrgN,r2,p2];simp[or_assoc]
 | f+1,[],x::b,out,hf,ha,hb,ho,h1,h2=>by
  obtain⟨p1,p2,p3⟩:=qf3 ho (x:=x) fun z hz y hy=>h2 z hz y (by rw[Ah.1 hy];exact AK ..);obtain⟨r1,r2⟩:=qfd f [] b (qal out x) (by simpa using hf) ha (Bh.1 hb).2 p1 (fun z _ y hy=>by cases hy) (.next hb p3);refine⟨r1,fun y=>?_⟩;rw[mrgN,r2,p2];simp[or_assoc]
 | f+1,x::a,u::b,out,hf,ha,hb,ho,h1,h2=>by
  have hx:AheadT out [x]:=fun z hz y hy=>h1 z hz y (by rw[Ah.1 hy];exact AK ..)
  have hu:AheadT out [u]:=fun z hz y hy=>h2 z hz y (by rw[Ah.1 hy];exact AK ..)
  rw[mrgN]
  split
  ·rename_i hle
   obtain⟨p1,p2,p3⟩:=qf3 ho hx;have hxu:x=u\/LtT x u:=by
    rcases Int.lt_or_eq_of_le hle with h|h
    ·exact .inr (qci.1 h)
    ·exact .inl (qa2.1 h)
   have hah:AheadT (qal out x) (u::b):=fun z hz y hy=>by
    rw[p3]at hz;cases hz
    rcases AD.1 hy with rfl|hy
    ·exact hxu
    ·have:=(Bh.1 hb).1 y hy
     rcases hxu with rfl|h
     ·exact .inr this
     ·exact .inr (h.trans this)
   obtain⟨r1,r2⟩:=qfd f a (u::b) (qal out x) (by simp only[As]at hf|-;omega) (Bh.1 ha).2 hb p1 (.next ha p3) hah;refine⟨r1,fun y=>?_⟩;rw[r2,p2];simp only[AD,or_assoc]
  ·rename_i hle
   obtain⟨p1,p2,p3⟩:=qf3 ho hu;have hux:LtT u x:=by
    rcases LtT.tri x u with h|h|h
    ·exact absurd (Int.le_of_lt (qci.2 h)) hle
    ·exact absurd (Int.le_of_eq (qa2.2 h)) hle
    ·exact h
   have hah:AheadT (qal out u) (x::a):=fun z hz y hy=>by
    rw[p3]at hz;cases hz
    rcases AD.1 hy with rfl|hy
    ·exact .inr hux
    ·exact .inr (hux.trans ((Bh.1 ha).1 y hy))
   obtain⟨r1,r2⟩:=qfd f (x::a) b (qal out u) (by simp only[As]at hf|-;omega) ha (Bh.1 hb).2 p1 hah (.next hb p3);refine⟨r1,fun y=>?_⟩;rw[r2,p2];simp only[AD]
   constructor
   ·rintro((h|h)|(h|h)|h)<;>simp[h]
   ·rintro(h|(h|h)|(h|h))<;>simp[h]
theorem qh7:∀(f:Nat) (l:List TM),l.length<=f->RiseT (tmsN f l)/\∀y,y∈tmsN f l↔y∈l
 | 0,l,h=>by
  have:l=[]:=AW Oo;subst this;exact⟨List.Pairwise.nil,fun y=>Iff.rfl⟩
 | f+1,l,h=>by
  rw[tmsN]
  split
  ·rename_i h2
   refine⟨?_,fun y=>Iff.rfl⟩
   match l,h2 with
   | [],_=>exact List.Pairwise.nil
   | [x],_=>exact CJ _ _
  ·rename_i h2
   obtain⟨a1,a2⟩:=qh7 f (l.take (l.length/2)) (by rw[AG];omega);obtain⟨b1,b2⟩:=qh7 f (l.drop (l.length/2)) (by rw[zld];omega);obtain⟨r1,r2⟩:=qfd _ _ _ [] znr a1 b1 List.Pairwise.nil (fun z hz=>by cases hz) (fun z hz=>by cases hz);refine⟨r1,fun y=>?_⟩;rw[r2,a2,b2,<-Ba,Ck];simp
theorem qss{m:LB}:∀{i:Nat},(∀j,j<i->(dnF m j).2=0)->DSt m i (dSt m i).1 (dSt m i).2/\(0<i->i<=dN m->dGet m (i-1)=some (dSt m i).1)
 | 0,_=>⟨⟨Am _,fun j h=>by cases h⟩,fun h=>by omega⟩
 | i+1,h=>by
  obtain⟨ih,_⟩:=qss (m:=m) (i:=i) fun j hj=>h j Oo;have hi:=h i Oo;obtain⟨last,p⟩:LB×Nat:=dSt m i;have hd:dSt m i=((dSt m i).1,(dSt m i).2):=rfl;have hp:i%16=0->q9 m (i/16)=(dSt m i).2:=fun h1=>Bj fun h2=>by
   rw[q42 hd h1 h2]at hi;cases hi
  have he:(entG ((qe m).drop (dSt m i).2) (decide (i%16=0)) (dSt m i).1).2.2=0:=Bj fun h2=>by
   rw[qac3 hd rfl hp h2]at hi;exact h2 hi
  have hs:=ih.step hp rfl he;have e:=qvi hd (first:=decide (i%16=0)) rfl;rw[e];exact⟨hs,fun _ h3=>hs.get Oo⟩
section
variable {l:LB} {ts:List TM} (hV:VTm l 3 0 ts) (hd:∀k,k<3->(doE (sDict l k)).2=0)
include hV hd
end
theorem q7b(h:(vcE l k).2=0):tVec l k=true/\(voE (qg l k)).2=0/\(0<vNum l k->bitN ((qg l k).drop 8) (vNum l k-1)=1):=by
 by_cases h1:tVec l k=true
 ·by_cases h2:(voE (qg l k)).2=0
  ·refine⟨h1,h2,fun h3=>Bj fun h4=>?_⟩;rw[q7a h1 h2 h3 h4]at h;exact absurd (show(180:Nat)=0 from h) Od
  ·rw[qael h1 h2]at h;exact absurd h h2
 ·rw[qaej (by simpa using h1)]at h;exact absurd (show(180:Nat)=0 from h) Od
theorem LvlV.of(h:(vcE l k).2=0):LvlV l k:=by
 obtain⟨h1,h2,h3⟩:=q7b h;simp only[tVec,AJ,decide_eq_true_eq]at h1;exact⟨VecOk.voE h1.1.1 h2,h1.1.2,h1.2,h3⟩
theorem qpx(h:(toE l).2=0):∀k,1<=k->k<=3->LvlV l k:=fun k h1 h3=>by
 obtain⟨_,h4⟩:=qw2 h;obtain⟨_,_,h5,_⟩:=q5v (h4 k Oo);exact LvlV.of (h5.resolve_left Oo)
def dTxt(m:LB)(i:Nat):LB:=(blk (qe m) (q9 m (i/16)) (i%16)).1
theorem qst{m:LB}(h:(doE m).2=0)(hi:i<dN m):(blk (qe m) (q9 m (i/16)) (i%16)).2.2=0/\dGet m i=some (dTxt m i):=by
 obtain⟨_,_,hf,_⟩:=qvo h;have h1:=(qss (m:=m) (i:=i+1) fun k hk=>hf k Oo).2 Oo Oo;rw[BG,dGet,Ad hi]at h1
 split at h1
 ·rename_i h2
  refine⟨h2,?_⟩;rw[dGet,Ad hi,Ad h2,dTxt]
 ·cases h1
theorem BEnd.full{m:LB}(h:(doE m).2=0)(k:Nat):BEnd m k (min 16 (dN m-16*k)):=by
 refine⟨fun j hj=>⟨by omega,?_⟩,by omega,fun h1 h2=>by omega⟩;have:=(qst h (i:=16*k+j) Oo).1
 rwa[show(16*k+j)/16=k by omega,show(16*k+j)%16=j by omega]at this
theorem q4i(m:LB)(k j:Nat)(hj:j<16):bRow m k j=[ii (16*k+j:Nat),.string ⟨(dTxt m (16*k+j)).toArray⟩]:=by
 rw[bRow,dTxt,show(16*k+j)/16=k by omega,show(16*k+j)%16=j by omega]
theorem q2a(p:LB)(n wd:Nat):opE p n wd≠0↔PadB p (n*wd):=by
 unfold opE PadB
 split
 ·rename_i h;exact⟨fun _=>h,fun _=>by decide⟩
 ·rename_i h;exact⟨fun g=>absurd rfl g,fun g=>absurd g h⟩
def varL(n:Nat):LB:=if n<128 then[UInt8.ofNat n]else UInt8.ofNat (n%128+128)::varL (n/128)
termination_by n
decreasing_by omega
theorem qd8{n:Nat}(h:n<128):varL n=[UInt8.ofNat n]:=by rw[varL,Ad h]
theorem qf8{n:Nat}(h:128<=n):varL n=UInt8.ofNat (n%128+128)::varL (n/128):=by rw[varL,Aa Oo]
theorem qav{n:Nat}(h:n<256):(UInt8.ofNat n).toNat=n:=by
 simp;omega
theorem q69(n:Nat):1<=(varL n).length:=by
 by_cases h:n<128
 ·rw[qd8 h];simp
 ·rw[qf8 Oo];simp
theorem qbe(k:Nat):∀n,n<2 ^ (7*(k+1))->(varL n).length<=k+1:=by
 induction k with
 | zero=>intro n h;rw[qd8 (by simpa using h)];simp
 | succ k ih=>
  intro n h
  by_cases hn:n<128
  ·rw[qd8 hn];simp
  ·rw[qf8 Oo,As];have e:2 ^ (7*(k+1+1))=2 ^ (7*(k+1))*128:=by rw[show 7*(k+1+1)=7*(k+1)+7 by omega,Ep]
   have:=ih (n/128) (Nat.div_lt_of_lt_mul Oo);omega
theorem qx6:∀(n i a:Nat) (r:LB),n*2 ^ (7*i)<2 ^ 64->i<=9->(0<i->0<n)->qi5 i a (varL n++r)=(a+n*2 ^ (7*i),i+(varL n).length,0):=by
 intro n
 induction n using Nat.strongRecOn with
 | _ n ih=>
  intro i a r hn hi h0;have h9:i=9->n<2:=by intro e;subst e;simp at hn;omega
  by_cases h:n<128
  ·rw[qd8 h,Dn,qf1,qav Oo,Aa Oo,Ad h,BD h];rfl
  ·have e:n%128*2 ^ (7*i)+n/128*2 ^ (7*(i+1))=n*2 ^ (7*i):=by
    rw[show 7*(i+1)=7+7*i by omega,Ep,<-Nat.mul_assoc,<-Eh]
    congr 1
    have:=Nat.mod_add_div n 128;omega
   rw[qf8 Oo,BL,qf1,qav Oo,Aa Oo,Aa Oo];rw[ih (n/128) Oo (i+1) _ r Oo Oo Oo];rw[show(n%128+128)%128=n%128 by omega,C7,e,As];refine Ey rfl (Ey ?_ rfl);show i+1+_=i+(_+1);omega
theorem qa5{n:Nat}(h:n<2 ^ 64)(r:LB):numL (varL n++r)=(n,(varL n).length,0):=by
 rw[numL,qx6 n 0 0 r (by simpa using h) Oo Oo];simp
theorem qkt:∀a b:LB,comL a b<=a.length/\comL a b<=b.length/\a.take (comL a b)=b.take (comL a b)
 | [],[]=>⟨Aq _,Aq _,rfl⟩
 | [],_::_=>⟨Am _,Am _,rfl⟩
 | _::_,[]=>⟨Am _,Am _,rfl⟩
 | x::a,y::b=>by
  by_cases h:x=y
  ·subst h;obtain⟨h1,h2,h3⟩:=qkt a b;rw[comL,Ad rfl];exact⟨by simpa using h1,by simpa using h2,by rw[BU,BU,h3]⟩
  ·rw[comL,Aa h];exact⟨Am _,Am _,rfl⟩
def entE(first:Bool)(ahead s:LB):LB:=
 if first then varL s.length++s else varL (comL ahead s)++(varL (s.length-comL ahead s)++s.drop (comL ahead s))
theorem qf{α:Type}(a b:List α):(a++b).drop a.length=b:=by simp
theorem qqs{first:Bool}{s:LB}(r:LB)(hs:s.length<=262144)(ha:ahead.length<=262144):entG (entE first ahead s++r) first ahead=(s,(entE first ahead s).length,0):=by
 cases first with
 | true=>
  have e:entE true ahead s=varL s.length++s:=by rw[entE,Ad rfl]
  rw[e,Ak];have h1:=qa5 (n:=s.length) Oo (s++r);unfold entG;rw[Ad rfl];dsimp only;rw[Aa Oo,BA,h1];dsimp only;rw[Aa Oo,Aa Oo,Aa Oo,Aa (by simp only[zla];omega),Aw,qf];simp
 | false=>
  have e:entE false ahead s=varL (comL ahead s)++(varL (s.length-comL ahead s)++s.drop (comL ahead s)):=by rw[entE,Aa Od]
  obtain⟨c1,c2,c3⟩:=qkt ahead s;rw[e,Ak,Ak];have h1:=qa5 (n:=comL ahead s) Oo (varL (s.length-comL ahead s)++(s.drop (comL ahead s)++r));have h2:=qa5 (n:=s.length-comL ahead s) Oo (s.drop (comL ahead s)++r);unfold entG;rw[Aa Bool.false_ne_true,h1];dsimp only;rw[Aa Oo,qf,h2];dsimp only;rw[Aa Oo,Aa Oo,Aa Oo,Aa (by simp only[zla,zld];omega),c3,<-AM,qf,qf];refine Ey ?_ (Ey ?_ rfl)
  ·show s.take (comL ahead s)++((s.drop (comL ahead s))++r).take (s.length-comL ahead s)=s;rw[BK (by rw[zld];omega),AF (l:=s.drop (comL ahead s)) (by rw[zld];omega),Ck]
  ·simp only[zla,zld];omega
def tx(L:List LB)(i:Nat):LB:=L.getD i []
def arL(L:List LB):Nat->LB
 | 0=>[]
 | i+1=>arL L i++entE (decide (i%16=0)) (if i=0 then[]else tx L (i-1)) (tx L i)
theorem qnu(L:List LB){i:Nat}:∀{n:Nat},i<=n->∃r,arL L n=arL L i++r
 | 0,h=>⟨[],by rw[Ei.1 h,AI]⟩
 | n+1,h=>by
  by_cases e:i=n+1
  ·exact⟨[],by rw[e,AI]⟩
  ·obtain⟨r,hr⟩:=qnu L (i:=i) (n:=n) Oo;exact⟨r++_,by rw[arL,hr,Ak]⟩
theorem qu6(L:List LB){n:Nat}(h:i<n):∃r,(arL L n).drop (arL L i).length=entE (decide (i%16=0)) (if i=0 then[]else tx L (i-1)) (tx L i)++r:=by
 obtain⟨r,hr⟩:=qnu L (i:=i+1) (n:=n) h;refine⟨r,?_⟩;rw[hr,arL,Ak,qf]
def byt(f:Nat->Nat)(b:Nat):Nat:=
 f (8*b)%2+2*(f (8*b+1)%2)+4*(f (8*b+2)%2)+8*(f (8*b+3)%2)+16*(f (8*b+4)%2)+32*(f (8*b+5)%2)+64*(f (8*b+6)%2)+128*(f (8*b+7)%2)
theorem qvd(f:Nat->Nat)(b:Nat):byt f b<256:=by unfold byt;omega
theorem q9e(f:Nat->Nat)(b:Nat):∀{r:Nat},r<8->byt f b/2 ^ r%2=f (8*b+r)%2
 | 0,_=>by unfold byt;simp;omega
 | 1,_=>by unfold byt;simp;omega
 | 2,_=>by unfold byt;simp;omega
 | 3,_=>by unfold byt;simp;omega
 | 4,_=>by unfold byt;simp;omega
 | 5,_=>by unfold byt;simp;omega
 | 6,_=>by unfold byt;simp;omega
 | 7,_=>by unfold byt;simp;omega
 | _+8,h=>by omega
def qda(f:Nat->Nat)(n:Nat):LB:=(List.range n).map fun b=>UInt8.ofNat (byt f b)
theorem qco(f:Nat->Nat)(n:Nat):(qda f n).length=n:=by simp[qda]
theorem q4l(f:Nat->Nat){n:Nat}(h:b<n):((qda f n).getD b 0).toNat=byt f b:=by
 rw[Ag,qda,Ao,Bt h];exact qav (qvd f b)
theorem qg3(f:Nat->Nat){n t:Nat}(h:t<8*n):bitN (qda f n) t=f t%2:=by
 rw[bitN,q4l f Oo,q9e f _ Oo]
 congr 2;omega
def qde(l:EF)(w:Nat):LB:=qda (fun t=>l.getD (t/w) 0/2 ^ (t%w)) ((l.length*w+7)/8)
theorem qce(l:EF)(w:Nat):(qde l w).length=(l.length*w+7)/8:=qco _ _
theorem q2h{l:EF}{w:Nat}(hi:i<l.length)(hk:k<w):bitN (qde l w) (i*w+k)=l.getD i 0/2 ^ k%2:=by
 have h1:(i+1)*w<=l.length*w:=BI _ hi;rw[Eh]at h1;have e1:(i*w+k)/w=i:=by rw[CD,Nat.mul_add_div Oo,Et hk,BH]
 have e2:(i*w+k)%w=k:=by rw[CD,Nat.mul_add_mod,BD hk]
 rw[qde,qg3 _ Oo];show _/2 ^ _%2=_;rw[e1,e2]
theorem qm4{l:EF}{w i:Nat}(hi:i<l.length):∀{k:Nat},k<=w->valB (qde l w) (i*w) k=l.getD i 0%2 ^ k
 | 0,_=>by rw[valB,Nat.pow_zero,Nat.mod_one]
 | k+1,h=>by
  rw[valB,qm4 hi Oo,q2h hi Oo,Nat.mod_pow_succ,CD (2 ^ k)]
theorem qlf{l:EF}{w:Nat}(hi:i<l.length)(h:l.getD i 0<2 ^ w):valB (qde l w) (i*w) w=l.getD i 0:=by
 rw[qm4 hi znr,BD h]
theorem qrl(l:EF)(w:Nat):¬PadB (qde l w) (l.length*w):=by
 rintro⟨t,h1,h2,h3⟩;rw[qce]at h2;rw[qde,qg3 _ h2]at h3;have hw:0<w:=by
  rcases BZ w with e|e
  ·subst e;simp at h2
  ·exact e
 have:l.length<=t/w:=(Nat.le_div_iff_mul_le hw).2 h1;rw[Ag,Au this]at h3;simp at h3
theorem qo1:∀{n:Nat},n<18446744073709551616->n<2 ^ qao n:=by
 intro n
 induction n using Nat.strongRecOn with
 | _ n ih=>
  intro h
  by_cases h0:n=0
  ·subst h0;decide
  ·have:=ih (n/2) Oo Oo;rw[qjh n h0 h,CB,DI];omega
def plcL(L:List LB):EF:=(List.range (upN L.length 16)).map fun k=>(arL L (16*k)).length
def qam(L:List LB):LB:=arL L L.length
def qp(L:List LB):LB:=varL L.length++(varL (qam L).length++(qde (plcL L) (qao (qam L).length)++qam L))
structure DOk(L:List LB):Prop where
 n:L.length<=4194304
 len:∀i,(tx L i).length<=262144
 rise:∀i,i+1<L.length->leL (tx L (i+1)) (tx L i)=false
 area:(qam L).length<=67108864
theorem qkf(L:List LB):(plcL L).length=upN L.length 16:=by simp[plcL]
theorem q2k{L:List LB}(h:k<upN L.length 16):(plcL L).getD k 0=(arL L (16*k)).length:=by
 rw[Ag,plcL,Ao,Bt h];rfl
section
variable {L:List LB} (h:DOk L)
include h
theorem DOk.num0:numL (qp L)=(L.length,(varL L.length).length,0):=qa5 (by have:=h.n;omega) _
theorem DOk.vAt1:vAt (qp L) 1=(varL L.length).length:=by rw[vAt,vAt,BA,h.num0,Aw]
theorem DOk.drop1:(qp L).drop (varL L.length).length=varL (qam L).length++(qde (plcL L) (qao (qam L).length)++qam L):=have _h:=h;qf _ _
theorem DOk.num1:numL ((qp L).drop (vAt (qp L) 1))=((qam L).length,(varL (qam L).length).length,0):=by
 rw[h.vAt1,h.drop1];exact qa5 (by have:=h.area;omega) _
theorem DOk.eN:dN (qp L)=L.length:=by rw[dN,vNum,vAt,BA,h.num0]
theorem DOk.eSize:qxl (qp L)=(qam L).length:=by rw[qxl,vNum,h.num1]
theorem DOk.eThird:qcq (qp L)=(varL L.length).length+(varL (qam L).length).length:=by rw[qcq,vAt,h.num1,h.vAt1]
theorem DOk.eFourth:qx (qp L)=(varL L.length).length+(varL (qam L).length).length+(qde (plcL L) (qao (qam L).length)).length:=by
 rw[qx,h.eThird,h.eN,dW,h.eSize,qce,qkf]
theorem DOk.eEntries:qe (qp L)=qam L:=by
 rw[qe,h.eFourth,<-AM,<-AM,h.drop1,qf,qf]
theorem DOk.ePlaces:qag (qp L)=qde (plcL L) (qao (qam L).length):=by
 rw[qag,h.eFourth,h.eThird,<-AM,h.drop1,qf,Dc,BK znr,Bg]
theorem DOk.len_eq:(qp L).length=(varL L.length).length+(varL (qam L).length).length+(qde (plcL L) (qao (qam L).length)).length+(qam L).length:=by
 have _h:=h;rw[qp];simp only[zla];omega
theorem DOk.eE:(dE (qp L)).2=0:=by
 have h2:(errF (dhF (qp L)) 2).2=0:=qaf fun k hk=>by
  have hn:=h.n;have ha:=h.area
  match k,hk with
  | 0,_=>rw[dhF,Ad rfl,qcw (by rw[vAt,BA,h.num0]) (by rw[show vNum (qp L) 0=_ from h.eN];exact hn)]
  | 1,_=>rw[dhF,Aa Od,qcw (by rw[h.num1]) (by rw[show vNum (qp L) 1=_ from h.eSize];exact ha)]
 rw[dE,Aa Oo,dEnd,h.eFourth,h.eSize,h.len_eq,Aa Oo,Aa Oo]
theorem DOk.ePlace(hk:k<upN L.length 16):q9 (qp L) k=(arL L (16*k)).length:=by
 have ha:=h.area;have hn:16*k<=L.length:=by unfold upN at hk;omega
 obtain⟨r,hr⟩:=qnu L hn;have hl:(arL L (16*k)).length<=(qam L).length:=by rw[qam,hr,zla];omega
 rw[q9,h.ePlaces,dW,h.eSize,qlf (by rw[qkf];exact hk),q2k hk];rw[q2k hk];exact Ca hl (qo1 Oo)
theorem DOk.eSt:∀{i:Nat},i<=L.length->dSt (qp L) i=(if i=0 then[]else tx L (i-1),(arL L i).length)
 | 0,_=>by rw[dSt,Ad rfl];rfl
 | i+1,hi=>by
  have ih:=DOk.eSt (i:=i) Oo;obtain⟨r,hr⟩:=qu6 L (i:=i) (n:=L.length) hi;have ha:(if i=0 then[]else tx L (i-1)).length<=262144:=by split;exact Am _;exact h.len _
  rw[qvi ih rfl,h.eEntries,qam,hr,qqs r (h.len i) ha,arL,zla,Aa (Cz i),BG]
theorem DOk.ent(hi:i<L.length):∃r,(qe (qp L)).drop (dSt (qp L) i).2=entE (decide (i%16=0)) (dSt (qp L) i).1 (tx L i)++r:=by
 obtain⟨r,hr⟩:=qu6 L (i:=i) (n:=L.length) hi;refine⟨r,?_⟩;rw[h.eSt Oo,h.eEntries];exact hr
theorem DOk.enF(hi:i<L.length):(dnF (qp L) i).2=0:=by
 obtain⟨r,hr⟩:=h.ent hi;have hl:(dSt (qp L) i).1.length<=262144:=by rw[h.eSt Oo];show(if _ then _ else _:LB).length<=_;split;exact Am _;exact h.len _
 have hE:=qqs (first:=decide (i%16=0)) r (h.len i) hl;have hs1:(dSt (qp L) (i+1)).1=tx L i:=by rw[h.eSt Oo,Aa (Cz i),BG]
 rw[dnF,hr,hE,hs1];rw[Aa (fun g=>g.2 (by rw[h.ePlace (by unfold upN;omega),h.eSt Oo,show 16*(i/16)=i by omega]))];rw[Aa Js];rw[Aa (fun g=>by
  have:=h.rise (i-1) Oo;rw[show i-1+1=i by omega]at this;rw[h.eSt Oo,Aa Oo]at g;exact absurd (g.2.symm.trans this) Od)]
 rw[Aa (fun g=>g.2 (by
  rw[entE,Aa (by simpa using g.1),Ak,qa5 (by have:=(qkt (dSt (qp L) i).1 (tx L i)).1;omega),qqj]))]
theorem DOk.eoE:doE (qp L)=(0,0):=by
 refine qac4 h.eE ?_ (fun j hj=>h.enF (by rw[<-h.eN];exact hj)) ?_
 ·refine Bj fun g=>?_;have:=(q2a _ _ _).1 g;rw[h.ePlaces,h.eN,dW,h.eSize,<-qkf]at this;exact qrl _ _ this
 ·rw[h.eN,h.eSt znr,h.eEntries];exact Dz _
theorem DOk.eGet(hi:i<L.length):dGet (qp L) i=some (tx L i):=by
 have h1:=(qss (m:=qp L) (i:=i+1) fun k hk=>h.enF Oo).2 Oo (by rw[h.eN];omega);rw[BG,h.eSt Oo,Aa Oo,BG]at h1;exact h1
end
def jo3(a b c:LB):LB:=varL a.length++(varL b.length++(varL c.length++(a++(b++c))))
section
variable {a b c:LB} (h:a.length+b.length+c.length<=67108864)
include h
theorem q05:numL (jo3 a b c)=(a.length,(varL a.length).length,0):=qa5 Oo _
theorem q75:vAt (jo3 a b c) 1=(varL a.length).length:=by rw[vAt,vAt,BA,q05 h,Aw]
theorem q06:numL ((jo3 a b c).drop (vAt (jo3 a b c) 1))=(b.length,(varL b.length).length,0):=by
 rw[q75 h,jo3,qf];exact qa5 Oo _
theorem q76:vAt (jo3 a b c) 2=(varL a.length).length+(varL b.length).length:=by rw[vAt,q06 h,q75 h]
theorem q07:numL ((jo3 a b c).drop (vAt (jo3 a b c) 2))=(c.length,(varL c.length).length,0):=by
 rw[q76 h,jo3,<-AM,qf,qf];exact qa5 Oo _
theorem q77:vAt (jo3 a b c) 3=(varL a.length).length+(varL b.length).length+(varL c.length).length:=by rw[vAt,q07 h,q76 h]
theorem q08:vNum (jo3 a b c) 0=a.length:=by rw[vNum,vAt,BA,q05 h]
theorem q09:vNum (jo3 a b c) 1=b.length:=by rw[vNum,q06 h]
theorem q1a:vNum (jo3 a b c) 2=c.length:=by rw[vNum,q07 h]
theorem q78:qo (jo3 a b c) 1=vAt (jo3 a b c) 3+a.length:=by rw[qo,qo,q08 h]
theorem q79:qo (jo3 a b c) 2=vAt (jo3 a b c) 3+a.length+b.length:=by rw[qo,q78 h,q09 h]
theorem qade:qo (jo3 a b c) 3=vAt (jo3 a b c) 3+a.length+b.length+c.length:=by rw[qo,q79 h,q1a h]
theorem qou:(jo3 a b c).drop (vAt (jo3 a b c) 3)=a++(b++c):=by
 rw[q77 h,jo3,<-AM,<-AM,qf,qf,qf]
theorem q99:(jo3 a b c).length=vAt (jo3 a b c) 3+a.length+b.length+c.length:=by
 rw[q77 h,jo3];simp only[zla];omega
theorem qadf:(sE (jo3 a b c)).2=0:=by
 have h2:(errF (vsF (jo3 a b c)) 3).2=0:=qaf fun k hk=>by
  match k,hk with
  | 0,_=>rw[vsF,qcw (by rw[vAt,BA,q05 h]) (by rw[q08 h];omega)]
  | 1,_=>rw[vsF,qcw (by rw[q06 h]) (by rw[q09 h];omega)]
  | 2,_=>rw[vsF,qcw (by rw[q07 h]) (by rw[q1a h];omega)]
 rw[sE,Aa Oo,qade h,q99 h,Aa (Dz _),Aa (Dz _)]
theorem qada:sDict (jo3 a b c) 0=a:=by
 rw[sDict,qo,qou h,q08 h,C9]
theorem qadb:sDict (jo3 a b c) 1=b:=by
 rw[sDict,q78 h,<-AM,qou h,qf,q09 h,C9]
theorem qadc:sDict (jo3 a b c) 2=c:=by
 rw[sDict,q79 h,<-AM,<-AM,qou h,qf,qf,q1a h,Bg]
end
def secE(T:List TM)(k:Nat):List LB:=(T.filter fun t=>decide (t.kind=((k+1:Nat):Int))).map qae
def vocB(T:List TM):LB:=jo3 (qp (secE T 0)) (qp (secE T 1)) (qp (secE T 2))
structure VOk(T:List TM):Prop where
 d:∀k,k<3->DOk (secE T k)
 size:(qp (secE T 0)).length+(qp (secE T 1)).length+(qp (secE T 2)).length<=67108864
section
variable {T:List TM} (h:VOk T)
include h
theorem VOk.sDict{k:Nat}(hk:k<3):sDict (vocB T) k=qp (secE T k):=
 match k,hk with
 | 0,_=>qada h.size
 | 1,_=>qadb h.size
 | 2,_=>qadc h.size
theorem VOk.sE:(sE (vocB T)).2=0:=qadf h.size
theorem VOk.doE{k:Nat}(hk:k<3):(doE (Go.Proofs.YtacnkdagblbgfaaGreatDoor.sDict (vocB T) k)).2=0:=by rw[h.sDict hk,(h.d k hk).eoE]
theorem VOk.dN{k:Nat}(hk:k<3):dN (Go.Proofs.YtacnkdagblbgfaaGreatDoor.sDict (vocB T) k)=(secE T k).length:=by rw[h.sDict hk,(h.d k hk).eN]
theorem VOk.get(hk:k<3)(hj:j<(secE T k).length):dGet (Go.Proofs.YtacnkdagblbgfaaGreatDoor.sDict (vocB T) k) j=some (tx (secE T k) j):=by rw[h.sDict hk,(h.d k hk).eGet hj]
theorem VOk.wE:(wE (vocB T)).2=0:=by
 rw[Go.Proofs.YtacnkdagblbgfaaGreatDoor.wE,Aa (by rw[h.sE];exact fun g=>g rfl)];exact qaf fun k hk=>by rw[sdF,Ad (qvo (h.doE hk)).1]
theorem VOk.vwE(ht:∀t∈T,qaj t=0):(vwE (vocB T)).2=0:=by
 refine qaep h.sE (fun k hk=>h.doE hk) fun k hk=>qaen fun j hj hb=>?_;rw[h.dN hk]at hj;obtain⟨s,hs,hn⟩:=hb;rw[h.get hk hj]at hs;cases hs;have hj':j<(T.filter fun t=>decide (t.kind=((k+1:Nat):Int))).length:=by simpa[secE]using hj
 have hm:=AT hj';have hm2:=B0.1 hm;refine hn _ ⟨by simpa using hm2.2,ht _ hm2.1,?_⟩;rw[tx,Ag,secE,Ao,zge hj'];rfl
end
section
variable {d:LB} {n:Nat} (hn:n<=67108864) (hd:d.length=upN n 8)
include hn
theorem qga:vN (qar d n)=n:=by
 have e:(qar d n).take 4=fixL n 4:=by
  simp only[qar,Ak];rw[BK (by rw[qi];omega),AF (by rw[qi];omega)]
 rw[vN,e,qiw,BD (by show n<4294967296;omega)]
theorem qp8:vM (qar d n)=cnt d n:=by
 have hc:=qmu d n;have e:((qar d n).drop 4).take 4=fixL (cnt d n) 4:=by
  simp only[qar,Ak];have:=qf (fixL n 4) (fixL (cnt d n) 4++(d++(gL d n++(sL d n++mL d n))));rw[qi]at this;rw[this,BK (by rw[qi];omega),AF (by rw[qi];omega)]
 rw[vM,e,qiw,BD (by show cnt d n<4294967296;omega)]
include hd
theorem qkn:vD (qar d n)=d:=by
 rw[vD,qga hn];have e:(qar d n).drop 8=d++(gL d n++(sL d n++mL d n)):=by
  simp only[qar,Ak];have:=qf (fixL n 4++fixL (cnt d n) 4) (d++(gL d n++(sL d n++mL d n)));rw[zla,qi,qi,Ak]at this;exact this
 rw[e,<-hd,C9]
theorem q36:vOk (qar d n)=true:=by
 have hl:=qfs d n;have hc:=qmu d n;simp only[vOk,AJ,decide_eq_true_eq,qga hn,qp8 hn];refine⟨⟨⟨by omega,hn⟩,hc⟩,?_⟩;rw[hl,hd];unfold qch qdn qbi qaa;omega
theorem q7l(hp:¬PadB d n):voE (qar d n)=(0,0):=by
 refine qaem ?_ ?_ ?_
 ·rw[qkn hn hd,qga hn];exact hp
 ·rw[qkn hn hd,qga hn,qp8 hn]
 ·intro j _ _;rw[qkn hn hd,qga hn]
end
def frU(Q:Nat->Nat->Nat)(i:Nat):Nat->Bool
 | 0=>i==0||Q i 0 != Q (i-1) 0
 | k+1=>frU Q i k||Q i (k+1) != Q (i-1) (k+1)
theorem qhc(Q:Nat->Nat->Nat):∀k,frU Q 0 k=true
 | 0=>rfl
 | k+1=>by rw[frU,qhc Q k];rfl
theorem qqy{Q:Nat->Nat->Nat}{i k:Nat}(h:frU Q i k=true):∀{m:Nat},k<=m->frU Q i m=true
 | 0,hm=>by rwa[Ei.1 hm]at h
 | m+1,hm=>by
  by_cases e:k=m+1
  ·rwa[e]at h
  ·rw[frU,qqy h (m:=m) Oo];rfl
theorem qfx{Q:Nat->Nat->Nat}{i:Nat}:∀{k:Nat},frU Q i k=false->0<i/\∀j,j<=k->Q i j=Q (i-1) j
 | 0,h=>by
  simp only[frU,CY,Cm,bne_eq_false_iff_eq]at h;exact⟨by omega,fun j hj=>by rw[Ei.1 hj];exact h.2⟩
 | k+1,h=>by
  simp only[frU,CY,bne_eq_false_iff_eq]at h;obtain⟨h1,h2⟩:=qfx h.1;refine⟨h1,fun j hj=>?_⟩
  by_cases e:j=k+1
  ·rw[e];exact h.2
  ·exact h2 j Oo
theorem q70{Q:Nat->Nat->Nat}{i:Nat}(h0:0<i):∀{k:Nat},(∀j,j<=k->Q i j=Q (i-1) j)->frU Q i k=false
 | 0,h=>by simp only[frU,CY,Cm,bne_eq_false_iff_eq];exact⟨by omega,h 0 znr⟩
 | k+1,h=>by
  rw[frU,q70 h0 fun j hj=>h j Oo];simp only[Dx,bne_eq_false_iff_eq];exact h (k+1) znr
def nuT(Q:Nat->Nat->Nat)(k:Nat):Nat->EF
 | 0=>[]
 | i+1=>if frU Q i k=true then nuT Q k i++[Q i k]else nuT Q k i
def stT(Q:Nat->Nat->Nat)(k:Nat):Nat->List Bool
 | 0=>[]
 | i+1=>if frU Q i (k+1)=true then stT Q k i++[frU Q i k]else stT Q k i
def leT(Q:Nat->Nat->Nat)(k i:Nat):Nat:=(nuT Q k i).length
section
variable {Q:Nat->Nat->Nat}
theorem qa4(h:frU Q i k=true):leT Q k (i+1)=leT Q k i+1:=by rw[leT,nuT,Ad h];simp[leT]
theorem qbl(h:frU Q i k=false):leT Q k (i+1)=leT Q k i:=by rw[leT,nuT,Aa (by rw[h];decide)];rfl
theorem q1m(k:Nat):∀i,leT Q k i<=i
 | 0=>Aq _
 | i+1=>by
  have:=q1m k i;cases h:frU Q i k with
  | true=>rw[qa4 h];omega
  | false=>rw[qbl h];omega
theorem qei(k:Nat)(h:0<i):0<leT Q k i:=by
 induction i with
 | zero=>omega
 | succ i ih=>
  by_cases e:i=0
  ·subst e;rw[qa4 (qhc Q k)];omega
  ·have:=ih Oo;cases h:frU Q i k with
   | true=>rw[qa4 h];omega
   | false=>rw[qbl h];omega
theorem qaz(k:Nat){a:Nat}:∀{b:Nat},a<=b->leT Q k a<=leT Q k b
 | 0,h=>by rw[Ei.1 h];exact Aq _
 | b+1,h=>by
  by_cases e:a=b+1
  ·rw[e];exact Aq _
  ·have:=qaz k (a:=a) (b:=b) Oo;cases h:frU Q b k with
   | true=>rw[qa4 h];omega
   | false=>rw[qbl h];omega
theorem qq5(k:Nat):∀i,leT Q k i<=leT Q (k+1) i
 | 0=>Aq _
 | i+1=>by
  have:=qq5 k i;cases h:frU Q i k with
  | true=>rw[qa4 h,qa4 (qqy h (m:=k+1) (Dw k))];omega
  | false=>
   rw[qbl h];cases h2:frU Q i (k+1)with
   | true=>rw[qa4 h2];omega
   | false=>rw[qbl h2];omega
theorem qbr(k:Nat):∀i,(stT Q k i).length=leT Q (k+1) i
 | 0=>rfl
 | i+1=>by
  have:=qbr k i;cases h:frU Q i (k+1)with
  | true=>rw[qa4 h,stT,Ad h];simp[this]
  | false=>rw[qbl h,stT,Aa (by rw[h];decide),this]
theorem ql3(k:Nat):∀i,(stT Q k i).count true=leT Q k i
 | 0=>rfl
 | i+1=>by
  have:=ql3 k i;cases h:frU Q i (k+1)with
  | true=>
   rw[stT,Ad h,List.count_append,this];cases h2:frU Q i k with
   | true=>rw[qa4 h2];rfl
   | false=>rw[qbl h2];rfl
  | false=>
   have h2:frU Q i k=false:=by
    cases h2:frU Q i k with
    | true=>rw[qqy h2 (m:=k+1) (Dw k)]at h;cases h
    | false=>rfl
   rw[qbl h2,stT,Aa (by rw[h];decide),this]
theorem qm3(k:Nat):∀{i n:Nat},i<n->(nuT Q k n).getD (leT Q k (i+1)-1) 0=Q i k
 | i,0,h=>by omega
 | i,n+1,h=>by
  by_cases e:i=n
  ·subst e;cases h2:frU Q i k with
   | true=>
    rw[qa4 h2,BG,nuT,Ad h2,Ag];simp[leT]
   | false=>
    have h3:=qfx h2;have h4:=qm3 k (i:=i-1) (n:=i) Oo;rw[qbl h2,nuT,Aa (by rw[h2];decide)];rw[Ch Oo]at h4;rw[h4];exact(h3.2 k znr).symm
  ·have h4:=qm3 k (i:=i) (n:=n) Oo;have h5:=qaz (Q:=Q) k (a:=i+1) (b:=n) Oo;have h6:=qei (Q:=Q) k (i:=i+1) Oo;cases h2:frU Q n k with
   | true=>
    rw[nuT,Ad h2,Ag,AQ (by show _<leT Q k n;omega),<-Ag];exact h4
   | false=>rw[nuT,Aa (by rw[h2];decide)];exact h4
end
def laT(S:List Bool)(t:Nat):Nat:=if t+1=S.length then 1 else if S.getD (t+1) false=true then 1 else 0
def qb3(S:List Bool):LB:=qda (laT S) (upN S.length 8)
theorem qadi(S:List Bool)(t:Nat):laT S t%2=laT S t:=by
 unfold laT
 split
 ·rfl
 ·split<;>rfl
theorem qe7(S:List Bool):(qb3 S).length=upN S.length 8:=qco _ _
theorem qhf{t:Nat}(h:t<S.length):bitN (qb3 S) t=laT S t:=by
 rw[qb3,qg3 _ (by unfold upN;omega),qadi]
theorem q1i(S:List Bool):¬PadB (qb3 S) S.length:=by
 rintro⟨t,h1,h2,h3⟩;rw[qe7]at h2;rw[qb3,qg3 _ h2,laT,Aa Oo,Ag,Au Oo]at h3;cases h3
theorem qng(S:List Bool){e:Nat}(h:e<S.length):(S.take (e+1)).count true=(S.take e).count true+(if S.getD e false=true then 1 else 0):=by
 rw[Bm h,List.count_append,Ag,zge h];cases S[e]<;>rfl
theorem qk2{S:List Bool}(h0:S.getD 0 false=true):∀{e:Nat},e<S.length->cnt (qb3 S) e+1=(S.take (e+1)).count true
 | 0,h=>by rw[qng S h,h0];rfl
 | e+1,h=>by
  have ih:=qk2 h0 (e:=e) Oo;rw[cnt,qng S h,qhf Oo,laT,Aa Oo];omega
theorem q1h(h0:S.getD 0 false=true)(hl:0<S.length):cnt (qb3 S) S.length=S.count true:=by
 have h1:=qk2 h0 (e:=S.length-1) Oo;obtain⟨m,hm⟩:∃m,S.length=m+1:=⟨S.length-1,by omega⟩
 rw[hm,BG]at h1;rw[<-hm,Bg]at h1;rw[hm,cnt,qhf Oo,laT,Ad hm.symm];exact h1
theorem qpt(Q:Nat->Nat->Nat)(k:Nat){a:Nat}:∀{b:Nat},a<=b->∃r,stT Q k b=stT Q k a++r
 | 0,h=>⟨[],by rw[Ei.1 h,AI]⟩
 | b+1,h=>by
  by_cases e:a=b+1
  ·exact⟨[],by rw[e,AI]⟩
  ·obtain⟨r,hr⟩:=qpt Q k (a:=a) (b:=b) Oo;cases h2:frU Q b (k+1)with
   | true=>exact⟨r++_,by rw[stT,Ad h2,hr,Ak]⟩
   | false=>exact⟨r,by rw[stT,Aa (by rw[h2];decide),hr]⟩
theorem qwz(Q:Nat->Nat->Nat)(k:Nat){n:Nat}(h:0<n):(stT Q k n).getD 0 false=true:=by
 obtain⟨r,hr⟩:=qpt Q k (a:=1) (b:=n) h;rw[hr,stT,Ad (qhc Q (k+1)),qhc Q k];rfl
theorem ql2(Q:Nat->Nat->Nat)(k:Nat){n:Nat}(h:i<n):cnt (qb3 (stT Q k n)) (leT Q (k+1) (i+1)-1)=leT Q k (i+1)-1:=by
 have h1:=qei (Q:=Q) (k+1) (i:=i+1) Oo;have h2:=qaz (Q:=Q) (k+1) (a:=i+1) (b:=n) h;have h3:=qk2 (S:=stT Q k n) (qwz Q k Oo) (e:=leT Q (k+1) (i+1)-1) (by rw[qbr];omega);obtain⟨r,hr⟩:=qpt Q k (a:=i+1) (b:=n) h;rw[Ch h1]at h3;have h4:(stT Q k n).take (leT Q (k+1) (i+1))=stT Q k (i+1):=by
  rw[hr,<-qbr,C9]
 rw[h4,ql3]at h3;omega
def wiT(l:EF):Nat:=wMx l l.length
def lvB(Q:Nat->Nat->Nat)(n k:Nat):LB:=
 UInt8.ofNat (wiT (nuT Q k n))::(qde (nuT Q k n) (wiT (nuT Q k n))++(if k=0 then[]else qar (qb3 (stT Q (k-1) n)) (leT Q k n)))
def tlB(Q:Nat->Nat->Nat)(n:Nat):Nat->LB
 | 0=>[]
 | j+1=>lvB Q n (3-j)++tlB Q n j
def qr(Q:Nat->Nat->Nat)(n:Nat):LB:=
 varL (leT Q 0 n)++(varL (leT Q 1 n)++(varL (leT Q 2 n)++(varL (leT Q 3 n)++tlB Q n 4)))
structure TOk(Q:Nat->Nat->Nat)(n:Nat):Prop where
 nle:n<=1048576
 num:∀i k,i<n->k<4->(k≠0->1<=Q i k)/\Q i k<=4194304
 rise:∀i,0<i->i<n->∃k,k<4/\(∀j,j<k->Q i j=Q (i-1) j)/\Q (i-1) k<Q i k
theorem q8w{l:EF}{m:Nat}(h:∀x∈l,qao x<=m):∀i,wMx l i<=m
 | 0=>Am _
 | i+1=>by
  have ih:=q8w h i;rw[wMx]
  by_cases hi:i<l.length
  ·have:=h (l.getD i 0) (by rw[Ag,zge hi];exact AT hi);omega
  ·rw[Ag,Au Oo];have:qao (Option.getD (none:Option Nat) 0)=0:=qgb;omega
theorem q8v(l:EF){i:Nat}:∀{n:Nat},i<n->qao (l.getD i 0)<=wMx l n
 | 0,h=>by omega
 | n+1,h=>by
  rw[wMx]
  by_cases e:i=n
  ·subst e;omega
  ·have:=q8v l (i:=i) (n:=n) Oo;omega
theorem qi3{Q:Nat->Nat->Nat}{k x:Nat}:∀{n:Nat},x∈nuT Q k n->∃i,i<n/\Q i k=x
 | 0,h=>by cases h
 | n+1,h=>by
  rw[nuT]at h
  split at h
  ·rcases Ba.1 h with h|h
   ·obtain⟨i,h1,h2⟩:=qi3 h;exact⟨i,by omega,h2⟩
   ·exact⟨n,by omega,(Ah.1 h).symm⟩
  ·obtain⟨i,h1,h2⟩:=qi3 h;exact⟨i,by omega,h2⟩
section
variable {Q:Nat->Nat->Nat} {n:Nat} (h:TOk Q n)
include h
theorem TOk.wi(hk:k<4):wiT (nuT Q k n)<=23:=q8w (fun x hx=>by
 obtain⟨i,h1,rfl⟩:=qi3 hx;exact qc5 23 _ (by have:=(h.num i k h1 hk).2;omega) Od) _
theorem TOk.le(k:Nat):leT Q k n<=1048576:=AU (q1m k n) h.nle
theorem TOk.n0:numL (qr Q n)=(leT Q 0 n,(varL (leT Q 0 n)).length,0):=qa5 (by have:=h.le 0;omega) _
theorem TOk.a1:vAt (qr Q n) 1=(varL (leT Q 0 n)).length:=by rw[vAt,vAt,BA,h.n0,Aw]
theorem TOk.n1:numL ((qr Q n).drop (vAt (qr Q n) 1))=(leT Q 1 n,(varL (leT Q 1 n)).length,0):=by
 rw[h.a1,qr,qf];exact qa5 (by have:=h.le 1;omega) _
theorem TOk.a2:vAt (qr Q n) 2=(varL (leT Q 0 n)).length+(varL (leT Q 1 n)).length:=by rw[vAt,h.n1,h.a1]
theorem TOk.n2:numL ((qr Q n).drop (vAt (qr Q n) 2))=(leT Q 2 n,(varL (leT Q 2 n)).length,0):=by
 rw[h.a2,qr,<-AM,qf,qf];exact qa5 (by have:=h.le 2;omega) _
theorem TOk.a3:vAt (qr Q n) 3=(varL (leT Q 0 n)).length+(varL (leT Q 1 n)).length+(varL (leT Q 2 n)).length:=by rw[vAt,h.n2,h.a2]
theorem TOk.n3:numL ((qr Q n).drop (vAt (qr Q n) 3))=(leT Q 3 n,(varL (leT Q 3 n)).length,0):=by
 rw[h.a3,qr,<-AM,<-AM,qf,qf,qf];exact qa5 (by have:=h.le 3;omega) _
theorem TOk.a4:vAt (qr Q n) 4=(varL (leT Q 0 n)).length+(varL (leT Q 1 n)).length+(varL (leT Q 2 n)).length+(varL (leT Q 3 n)).length:=by rw[vAt,h.n3,h.a3]
theorem TOk.numOk(hk:k<4):(numL ((qr Q n).drop (vAt (qr Q n) k))).2.2=0:=
 match k,hk with
 | 0,_=>by rw[vAt,BA,h.n0]
 | 1,_=>by rw[h.n1]
 | 2,_=>by rw[h.n2]
 | 3,_=>by rw[h.n3]
theorem TOk.vNum{k:Nat}(hk:k<4):vNum (qr Q n) k=leT Q k n:=
 match k,hk with
 | 0,_=>by rw[Go.Proofs.YtacnkdagblbgfaaGreatDoor.vNum,vAt,BA,h.n0]
 | 1,_=>by rw[Go.Proofs.YtacnkdagblbgfaaGreatDoor.vNum,h.n1]
 | 2,_=>by rw[Go.Proofs.YtacnkdagblbgfaaGreatDoor.vNum,h.n2]
 | 3,_=>by rw[Go.Proofs.YtacnkdagblbgfaaGreatDoor.vNum,h.n3]
theorem TOk.cnt{k:Nat}:cnt (qb3 (stT Q k n)) (leT Q (k+1) n)=leT Q k n:=by
 by_cases h0:n=0
 ·subst h0;rfl
 ·have hp:=qei (Q:=Q) (k+1) (i:=n) Oo;have:=q1h (S:=stT Q k n) (qwz Q k Oo) (by rw[qbr];exact hp)
  rwa[qbr,ql3]at this
theorem TOk.lvLen:(lvB Q n k).length=1+(leT Q k n*wiT (nuT Q k n)+7)/8+(if k=0 then 0 else qch (leT Q k n) (leT Q (k-1) n)):=by
 rw[lvB,As,zla,qce];show(leT Q k n*_+7)/8+_+1=_
 by_cases e:k=0
 ·rw[Ad e,Ad e];simp;omega
 ·obtain⟨m,rfl⟩:∃m,k=m+1:=⟨k-1,by omega⟩
  rw[Aa e,Aa e,qfs,BG,h.cnt,qe7,qbr];unfold qch qdn qbi qaa;omega
theorem TOk.tail:k<=4->(qr Q n).drop (tvAt (qr Q n) k)=tlB Q n (4-k):=by
 induction k with
 | zero=>
  intro _;rw[tvAt,h.a4,qr,<-AM,<-AM,<-AM,qf,qf,qf,qf]
 | succ k ih=>
  intro hk;have ih:=ih Oo;obtain⟨j,hj⟩:∃j,4-k=j+1:=⟨3-k,by omega⟩
  have hj3:3-j=k:=by omega
  rw[hj,tlB,hj3]at ih;have hw:=h.wi (k:=k) Oo;have e1:((qr Q n).getD (tvAt (qr Q n) k) 0).toNat=wiT (nuT Q k n):=by
   have:(qr Q n).getD (tvAt (qr Q n) k) 0=((qr Q n).drop (tvAt (qr Q n) k)).getD 0 0:=by rw[qe5,BH]
   rw[this,ih,lvB];exact qav Oo
  have e2:tvAt (qr Q n) (k+1)=tvAt (qr Q n) k+(lvB Q n k).length:=by
   rw[tvAt,e1,h.vNum Oo,h.lvLen]
   by_cases e:k=0
   ·rw[Ad e,Ad e];omega
   ·rw[Aa e,Aa e,h.vNum (k:=k-1) Oo];omega
  rw[e2,<-AM,ih,qf,show 4-(k+1)=j by omega]
theorem TOk.tw{k:Nat}(hk:k<4):tw (qr Q n) k=wiT (nuT Q k n):=by
 have ih:=h.tail (k:=k) Oo;obtain⟨j,hj⟩:∃j,4-k=j+1:=⟨3-k,by omega⟩
 rw[hj,tlB,show 3-j=k by omega]at ih;have:(qr Q n).getD (tvAt (qr Q n) k) 0=((qr Q n).drop (tvAt (qr Q n) k)).getD 0 0:=by rw[qe5,BH]
 have hw:=h.wi hk;rw[Go.Proofs.YtacnkdagblbgfaaGreatDoor.tw,this,ih,lvB];exact qav Oo
theorem TOk.tEnd{k:Nat}(hk:k<4):tEnd (qr Q n) k=tvAt (qr Q n) k+1+(qde (nuT Q k n) (wiT (nuT Q k n))).length:=by
 rw[Go.Proofs.YtacnkdagblbgfaaGreatDoor.tEnd,h.tw hk,h.vNum hk,qce];rfl
theorem TOk.packed(hk:k<4):qv (qr Q n) k=qde (nuT Q k n) (wiT (nuT Q k n)):=by
 have ih:=h.tail (k:=k) Oo;obtain⟨j,hj⟩:∃j,4-k=j+1:=⟨3-k,by omega⟩
 rw[hj,tlB,show 3-j=k by omega]at ih;rw[qv,h.tEnd hk,Dc,<-AM,ih,lvB,BL,El,BA,Ak,C9]
theorem TOk.bytes(hk:k<4)(h0:k≠0):qg (qr Q n) k=qar (qb3 (stT Q (k-1) n)) (leT Q k n):=by
 have ih:=h.tail (k:=k) Oo;obtain⟨j,hj⟩:∃j,4-k=j+1:=⟨3-k,by omega⟩
 rw[hj,tlB,show 3-j=k by omega]at ih;obtain⟨m,rfl⟩:∃m,k=m+1:=⟨k-1,by omega⟩
 have hl:qch (leT Q (m+1) n) (leT Q m n)=(qar (qb3 (stT Q m n)) (leT Q (m+1) n)).length:=by
  rw[qfs,h.cnt,qe7,qbr];unfold qch qdn qbi qaa;omega
 rw[qg,qd6,Aa h0,h.vNum hk,h.vNum (k:=m+1-1) Oo,Dc,BG,hl,h.tEnd hk,<-AM,<-AM,ih,lvB,BL,El,BA,Ak,qf,Aa h0,BG,C9]
end
theorem qmx(Q:Nat->Nat->Nat)(k:Nat){e:Nat}:∀{n:Nat},e<leT Q k n->∃i,i<n/\frU Q i k=true/\leT Q k i=e
 | 0,h=>by cases h
 | n+1,h=>by
  cases h2:frU Q n k with
  | true=>
   rw[qa4 h2]at h
   by_cases e1:e=leT Q k n
   ·exact⟨n,by omega,h2,e1.symm⟩
   ·obtain⟨i,h3,h4,h5⟩:=qmx Q k (e:=e) (n:=n) Oo;exact⟨i,by omega,h4,h5⟩
  | false=>
   rw[qbl h2]at h;obtain⟨i,h3,h4,h5⟩:=qmx Q k h;exact⟨i,by omega,h4,h5⟩
theorem q8l(Q:Nat->Nat->Nat)(k:Nat){n:Nat}(h:i<n)(hf:frU Q i (k+1)=true):(stT Q k n).getD (leT Q (k+1) i) false=frU Q i k:=by
 obtain⟨r,hr⟩:=qpt Q k (a:=i+1) (b:=n) h;rw[hr,stT,Ad hf,<-qbr,Ak,Ag,AR znr,CE];rfl
theorem q16{n e:Nat}(h:∀i,i<n->Q i k<18446744073709551616)(he:e<leT Q k n):(nuT Q k n).getD e 0<2 ^ wiT (nuT Q k n):=by
 have h1:=q8v (nuT Q k n) (i:=e) (n:=(nuT Q k n).length) he;have h2:(nuT Q k n).getD e 0∈nuT Q k n:=by
  rw[Ag,zge (show e<(nuT Q k n).length from he)];exact AT _
 obtain⟨i,h3,h4⟩:=qi3 h2;have h5:=h i h3;rw[h4]at h5;exact Bw (qo1 h5) (Bs Od h1)
section
variable {Q:Nat->Nat->Nat} {n:Nat} (h:TOk Q n)
include h
theorem TOk.big(hk:k<4):∀i,i<n->Q i k<18446744073709551616:=fun i hi=>by have:=(h.num i k hi hk).2;omega
theorem TOk.tX{k e:Nat}(hk:k<4)(he:e<leT Q k n):tX (qr Q n) k e=(nuT Q k n).getD e 0:=by
 rw[Go.Proofs.YtacnkdagblbgfaaGreatDoor.tX,h.packed hk,h.tw hk];exact qlf he (q16 (h.big hk) he)
theorem TOk.len(hk:k<4):tvAt (qr Q n) k<(qr Q n).length/\tvAt (qr Q n) (k+1)<=(qr Q n).length:=by
 have h1:=h.tail (k:=k) Oo;have h2:=h.tail (k:=k+1) Oo;obtain⟨j,hj⟩:∃j,4-k=j+1:=⟨3-k,by omega⟩
 rw[hj,tlB]at h1;rw[show 4-(k+1)=j by omega]at h2;have l1:=Af List.length h1;rw[zld,zla,show 3-j=k by omega,h.lvLen]at l1;refine⟨by omega,?_⟩;rw[qd6,h.tEnd hk,qce];show tvAt (qr Q n) k+1+(leT Q k n*_+7)/8+_<=_
 by_cases e:k=0
 ·rw[Ad e]at l1|-;omega
 ·rw[Aa e]at l1|-;rw[h.vNum hk,h.vNum (k:=k-1) Oo];omega
theorem TOk.tE:(tE (qr Q n)).2=0:=by
 have h1:(errF (tcF (qr Q n)) 4).2=0:=qaf fun k hk=>by
  have e0:numE (qr Q n) k 1048576=(0,0):=qcw (h.numOk hk) (by rw[h.vNum hk];exact h.le k);rw[tcF,Aa (by rw[e0];exact fun g=>g rfl),Aa];rintro⟨g1,g2⟩;obtain⟨m,rfl⟩:∃m,k=m+1:=⟨k-1,by omega⟩
  rw[BG,h.vNum hk,h.vNum (k:=m) Oo]at g2;have g3:=qq5 (Q:=Q) m n
  rcases g2 with g2|g2
  ·omega
  ·refine g2 ⟨fun g4=>?_,fun g4=>by omega⟩
   by_cases e:n=0
   ·subst e;rfl
   ·have:=qei (Q:=Q) m (i:=n) Oo;omega
 have h2:(errF (tvF (qr Q n)) 4).2=0:=qaf fun k hk=>by
  obtain⟨g1,g2⟩:=h.len hk;have g3:=h.wi hk;rw[tvF,Aa Oo,h.tw hk,Aa Oo,Aa Oo]
 have h3:=Af List.length (h.tail (k:=4) znr);rw[zld,CE,tlB,BP]at h3;rw[Go.Proofs.YtacnkdagblbgfaaGreatDoor.tE,Aa Oo,Aa Oo,Aa Oo]
theorem TOk.vec(hk:k+1<4):vOk (qg (qr Q n) (k+1))=true/\vN (qg (qr Q n) (k+1))=leT Q (k+1) n/\vM (qg (qr Q n) (k+1))=leT Q k n/\
  vD (qg (qr Q n) (k+1))=qb3 (stT Q k n)/\voE (qg (qr Q n) (k+1))=(0,0):=by
 have hl:=h.le (k+1);have hn:leT Q (k+1) n<=67108864:=by omega
 have hd:(qb3 (stT Q k n)).length=upN (leT Q (k+1) n) 8:=by rw[qe7,qbr]
 have hp:¬PadB (qb3 (stT Q k n)) (leT Q (k+1) n):=by rw[<-qbr];exact q1i _
 rw[h.bytes hk Oo,BG];exact⟨q36 hn hd,qga hn,by rw[qp8 hn,h.cnt],qkn hn hd,q7l hn hd hp⟩
theorem TOk.bit{e:Nat}(hk:k+1<4)(he:e<leT Q (k+1) n):bitN ((qg (qr Q n) (k+1)).drop 8) e=laT (stT Q k n) e:=by
 obtain⟨_,h2,_,h4,_⟩:=h.vec hk;have h5:=Af (fun d=>bitN d e) h4;rw[vD,h2]at h5;have h6:=qkq ((qg (qr Q n) (k+1)).drop 8) (upN (leT Q (k+1) n) 8) e (by unfold upN;omega);rw[<-h6];exact h5.trans (qhf (by rw[qbr];exact he))
theorem TOk.vcE{k:Nat}(hk:k+1<4):vcE (qr Q n) (k+1)=(0,0):=by
 obtain⟨h1,h2,h3,h4,h5⟩:=h.vec hk;refine qaek ?_ (by rw[h5]) fun g=>?_
 ·simp only[tVec,AJ,decide_eq_true_eq];exact⟨⟨h1,by rw[h2,h.vNum hk]⟩,by rw[h3,BG,h.vNum Oo]⟩
 ·rw[h.vNum hk]at g|-;rw[h.bit hk Oo,laT,Ad (by rw[qbr];omega)]
theorem TOk.order{e:Nat}(hk:k<4)(h0:0<e)(he:e<leT Q k n)(hs:k=0\/bitN ((qg (qr Q n) k).drop 8) (e-1)≠1):(nuT Q k n).getD (e-1) 0<(nuT Q k n).getD e 0:=by
 obtain⟨i,h1,h2,h3⟩:=qmx Q k he;have hi:0<i:=by
  rcases BZ i with e|e
  ·subst e;rw[<-h3]at h0;exact(Dz 0 h0).elim
  ·exact e
 have g1:=qm3 (Q:=Q) k (i:=i) (n:=n) h1;rw[qa4 h2,BG,h3]at g1;have g2:=qm3 (Q:=Q) k (i:=i-1) (n:=n) Oo;rw[Ch hi,h3]at g2;rw[g1,g2];obtain⟨m,r1,r2,r3⟩:=h.rise i hi h1;have hm:k<=m:=by
  by_cases e0:k=0
  ·omega
  ·have hs:=hs.resolve_left e0;obtain⟨p,rfl⟩:∃p,k=p+1:=⟨k-1,by omega⟩
   rw[h.bit hk Oo,laT,qbr,Aa Oo,Ch h0,<-h3,q8l Q p h1 h2]at hs;have hf:frU Q i p=false:=by
    cases hf:frU Q i p with
    | true=>rw[hf]at hs;exact absurd (Ad rfl) hs
    | false=>rfl
   have h7:=(qfx hf).2;refine Bj fun g=>?_
   have:=h7 m Oo;omega
 by_cases hmk:m=k
 ·rw[<-hmk];exact r3
 ·have:frU Q i k=false:=q70 hi fun j hj=>r2 j Oo
  rw[this]at h2;cases h2
end
theorem q3r{l:EF}{w:Nat}(h:∀i,i<l.length->l.getD i 0<2 ^ w):unpN (qde l w) l.length w=l:=by
 apply List.ext_getElem
 ·simp[unpN]
 ·intro i h1 h2;simp only[unpN,Cx,List.getElem_range];rw[qlf h2 (h i h2),Ag,zge h2];rfl
section
variable {Q:Nat->Nat->Nat} {n:Nat} (h:TOk Q n)
include h
theorem TOk.lvE{k:Nat}(hk:k<4):(lvE (qr Q n) k).2=0:=by
 refine qado ?_ ?_ ?_ ?_
 ·refine Bj fun g=>?_;have g1:=(q2a _ _ _).1 g;rw[h.packed hk,h.tw hk,h.vNum hk]at g1;exact qrl _ _ g1
 ·rw[h.packed hk,h.tw hk,h.vNum hk,show leT Q k n=(nuT Q k n).length from rfl,q3r fun i hi=>q16 (h.big hk) hi];rfl
 ·by_cases e:k=0
  ·exact .inl e
  ·obtain⟨m,rfl⟩:∃m,k=m+1:=⟨k-1,by omega⟩
   exact .inr (by rw[h.vcE hk])
 ·intro e he;rw[h.vNum hk]at he;have hm:(nuT Q k n).getD e 0∈nuT Q k n:=by
   rw[Ag,zge (show e<(nuT Q k n).length from he)];exact AT _
  obtain⟨i,h1,h2⟩:=qi3 hm;obtain⟨h3,h4⟩:=h.num i k h1 hk;rw[h2]at h3 h4;rw[qadr]
  ·rw[h.tX hk he];rintro(⟨g1,g2⟩|g1)
   ·have:=h3 g1;omega
   ·omega
  ·rintro⟨g1,g2,g3⟩;rw[h.tX hk he,h.tX hk Oo]at g3;have:=h.order hk g1 he g2;omega
theorem TOk.toE:(toE (qr Q n)).2=0:=qaec h.tE fun _ hk=>h.lvE hk
theorem TOk.fresh(hi:i<n):frU Q i 3=true:=by
 by_cases h0:i=0
 ·rw[h0];exact qhc Q 3
 ·obtain⟨k,h1,h2,h3⟩:=h.rise i Oo hi;cases hf:frU Q i 3 with
  | true=>rfl
  | false=>have:=(qfx hf).2 k Oo;omega
theorem TOk.all:∀{i:Nat},i<=n->leT Q 3 i=i
 | 0,_=>rfl
 | i+1,hi=>by rw[qa4 (h.fresh hi),TOk.all Oo]
theorem TOk.up(hi:i<n):∀{j:Nat},j<4->tUp (qr Q n) i j=leT Q (3-j) (i+1)-1
 | 0,_=>by rw[tUp,h.all Oo];rfl
 | j+1,hj=>by
  have ih:=TOk.up hi (j:=j) Oo;obtain⟨k,hk⟩:∃k,3-j=k+1:=⟨2-j,by omega⟩
  have hv:=qpx h.toE (3-j) Oo Oo;have hp:=qei (Q:=Q) (k+1) (i:=i+1) Oo;have hm:=qaz (Q:=Q) (k+1) (a:=i+1) (b:=n) hi;rw[tUp,ih,hv.rank _ (by rw[h.vNum Oo,hk];omega),hk];obtain⟨_,h2,_,h4,_⟩:=h.vec (k:=k) Oo;rw[<-qqi _ _ (by rw[h2];omega),h4,ql2 Q k hi,show 3-(j+1)=k by omega]
theorem TOk.tNum{i k:Nat}(hi:i<n)(hk:k<4):tNum (qr Q n) i k=Q i k:=by
 have hp:=qei (Q:=Q) k (i:=i+1) Oo;have hm:=qaz (Q:=Q) k (a:=i+1) (b:=n) hi;have hw:=h.wi hk;rw[Go.Proofs.YtacnkdagblbgfaaGreatDoor.tNum,h.up hi Oo,show 3-(3-k)=k by omega,qwe _ _ _ (by rw[h.tw hk];omega)];exact(h.tX hk (e:=leT Q k (i+1)-1) Oo).trans (qm3 k hi)
end
def bndT(Q:Nat->Nat->Nat)(k p:Nat):Nat->Nat
 | 0=>0
 | i+1=>if leT Q k (i+1)<=p then i+1 else bndT Q k p i
section
variable {Q:Nat->Nat->Nat}
theorem qdr(k p:Nat):∀n,bndT Q k p n<=n
 | 0=>Aq _
 | i+1=>by
  rw[bndT]
  split
  ·exact Aq _
  ·exact Nat.le_succ_of_le (qdr k p i)
theorem qbx(k p:Nat):∀{n i:Nat},i<n->(i<bndT Q k p n↔leT Q k (i+1)<=p)
 | 0,_,h=>absurd h (Cn _)
 | n+1,i,h=>by
  rw[bndT]
  split
  ·rename_i g
   have:=qaz (Q:=Q) k (a:=i+1) (b:=n+1) h;exact⟨fun _=>by omega,fun _=>h⟩
  ·rename_i g
   by_cases e:i=n
   ·subst e;have:=qdr (Q:=Q) k p i;exact⟨fun _=>by omega,fun h=>absurd h g⟩
   ·exact qbx k p Oo
theorem qg4(k:Nat){p q:Nat}(h:p<=q)(n:Nat):bndT Q k p n<=bndT Q k q n:=by
 rcases AX (bndT Q k q n) (bndT Q k p n)with g|g
 ·have h1:=qdr (Q:=Q) k p n;have h2:=(qbx (Q:=Q) k p (n:=n) (i:=bndT Q k q n) Oo).1 g;have h3:=(qbx (Q:=Q) k q (n:=n) (i:=bndT Q k q n) Oo).2 Oo;exact absurd h3 (Dz _)
 ·exact g
theorem qqf(k n:Nat):bndT Q k 0 n=0:=by
 rcases BZ (bndT Q k 0 n)with g|g
 ·exact g
 ·have h1:=qdr (Q:=Q) k 0 n;have h2:=(qbx (Q:=Q) k 0 (n:=n) (i:=0) Oo).1 g;have h3:=qei (Q:=Q) k (i:=0+1) Od;omega
theorem q4o(k:Nat){p n:Nat}(h:leT Q k n<=p):bndT Q k p n=n:=by
 cases n with
 | zero=>rfl
 | succ n=>rw[bndT,Ad h]
def chT(Q:Nat->Nat->Nat)(n k p:Nat):Nat:=leT Q (k+1) (bndT Q k p n)
theorem qmq(k p n:Nat):bndT Q (k+1) (chT Q n k p) n=bndT Q k p n:=by
 have h1:=qdr (Q:=Q) k p n;have h2:=qdr (Q:=Q) (k+1) (chT Q n k p) n;refine Nat.le_antisymm ?_ ?_
 ·refine DT.1 fun g=>?_;have h3:=(qbx (Q:=Q) (k+1) (chT Q n k p) (n:=n) (i:=bndT Q k p n) Oo).1 g;have h4:¬leT Q k (bndT Q k p n+1)<=p:=fun e=>Dz _ ((qbx (Q:=Q) k p (n:=n) (i:=bndT Q k p n) Oo).2 e)
  have h5:frU Q (bndT Q k p n) k=true:=by
   cases e:frU Q (bndT Q k p n) k with
   | true=>rfl
   | false=>
    exfalso
    have h6:=qbl (Q:=Q) e;have h7:=(qfx e).1;have h8:=(qbx (Q:=Q) k p (n:=n) (i:=bndT Q k p n-1) Oo).1 Oo;rw[Ch Oo]at h8;omega
  have h6:=qa4 (Q:=Q) (qqy h5 (m:=k+1) (Dw k));rw[chT]at h3;omega
 ·refine DT.1 fun g=>?_;have h3:¬leT Q (k+1) (bndT Q (k+1) (chT Q n k p) n+1)<=chT Q n k p:=fun e=>Dz _ ((qbx (Q:=Q) (k+1) (chT Q n k p) (n:=n) (i:=bndT Q (k+1) (chT Q n k p) n) Oo).2 e)
  have h4:=qaz (Q:=Q) (k+1) (a:=bndT Q (k+1) (chT Q n k p) n+1) (b:=bndT Q k p n) g;exact h3 h4
def agB(P:Nat->Int)(k x:Nat):Bool:=decide (P k<0)||decide (P k=(x:Int))
def agF(P:Nat->Int)(Q:Nat->Nat->Nat)(i:Nat):Nat->Nat->Bool
 | _,0=>true
 | k,m+1=>agB P k (Q i k)&&agF P Q i (k+1) m
def maT(P:Nat->Int)(Q:Nat->Nat->Nat)(k a b:Nat):EF:=((List.range b).drop a).filter fun i=>agF P Q i k (4-k)
theorem q2v{a:Nat}(h1:a<=b)(h2:b<=c):(List.range c).drop a=(List.range b).drop a++(List.range c).drop b:=by
 have e:List.range c=List.range b++(List.range c).drop b:=by
  conv=>lhs;rw[<-Ck b (List.range c)]
  rw[List.take_range,Dd h2]
 conv=>lhs;rw[e]
 rw[BQ (by simpa using h1)]
theorem qaal(P:Nat->Int)(k:Nat){a:Nat}(h1:a<=b)(h2:b<=c):maT P Q k a c=maT P Q k a b++maT P Q k b c:=by
 rw[maT,q2v h1 h2,Ct];rfl
theorem qaam(P:Nat->Int)(k:Nat){a:Nat}(h:b<=a):maT P Q k a b=[]:=by
 rw[maT,Be (by simpa using h)];rfl
theorem qmd{a:Nat}:i∈(List.range b).drop a↔a<=i/\i<b:=by
 rw[Bi]
 constructor
 ·rintro⟨j,hj⟩;rw[Cr]at hj;obtain⟨h1,h2⟩:=Ae.1 hj;simp at h1 h2;omega
 ·rintro⟨h1,h2⟩;exact⟨i-a,by rw[Cr,show a+(i-a)=i by omega,Bt h2]⟩
theorem qk6(P:Nat->Int){p n:Nat}(hk:k<4):maT P Q k (bndT Q k p n) (bndT Q k (p+1) n)=if agB P k ((nuT Q k n).getD p 0)=true then maT P Q (k+1) (bndT Q k p n) (bndT Q k (p+1) n)else[]:=by
 have hn:=qdr (Q:=Q) k (p+1) n;have key:∀i∈(List.range (bndT Q k (p+1) n)).drop (bndT Q k p n),agF P Q i k (4-k)=(agB P k ((nuT Q k n).getD p 0)&&agF P Q i (k+1) (4-(k+1))):=by
  intro i hi;obtain⟨h1,h2⟩:=qmd.1 hi;have h3:=(qbx (Q:=Q) k (p+1) (n:=n) (i:=i) Oo).1 h2;have h4:¬leT Q k (i+1)<=p:=fun e=>by have:=(qbx (Q:=Q) k p (n:=n) (i:=i) Oo).2 e;omega
  have h5:=qm3 (Q:=Q) k (i:=i) (n:=n) Oo;rw[show leT Q k (i+1)-1=p by omega]at h5;rw[h5,show 4-k=(4-(k+1))+1 by omega];rfl
 rw[maT,DX key]
 split
 ·rename_i h;rw[h];rfl
 ·rename_i h
  have h:agB P k ((nuT Q k n).getD p 0)=false:=by simpa using h
  rw[h];simp
end
section
variable {Q:Nat->Nat->Nat}
theorem qq4(k:Nat){a:Nat}:∀{b:Nat},a<=b->leT Q (k+1) a=leT Q (k+1) b->leT Q k a=leT Q k b
 | 0,h,_=>by rw[Ei.1 h]
 | b+1,h,he=>by
  by_cases e:a=b+1
  ·rw[e]
  ·have h1:=qaz (Q:=Q) (k+1) (a:=a) (b:=b) Oo;cases h2:frU Q b (k+1)with
   | true=>rw[qa4 h2]at he;omega
   | false=>
    have h3:frU Q b k=false:=by
     cases h3:frU Q b k with
     | true=>rw[qqy h3 (m:=k+1) (Dw k)]at h2;cases h2
     | false=>rfl
    rw[qbl h3];exact qq4 k Oo (by rw[he,qbl h2])
theorem q7v{p n s:Nat}(hs:s<leT Q (k+1) n)(hb:laT (stT Q k n) s=1)(hc:cnt (qb3 (stT Q k n)) s=p):s+1=chT Q n k (p+1):=by
 obtain⟨i,hi,hf,he⟩:=qmx Q (k+1) hs;have h1:=qa4 (Q:=Q) hf;rw[he]at h1;have h2:=ql2 Q k hi;rw[h1,BG,hc]at h2;have h3:=qei (Q:=Q) k (i:=i+1) Oo;have hp:leT Q k (i+1)=p+1:=by omega
 have hib:=(qbx (Q:=Q) k (p+1) (n:=n) (i:=i) hi).2 Oo;have hbn:=qdr (Q:=Q) k (p+1) n;have hup:=qaz (Q:=Q) (k+1) (a:=i+1) (b:=bndT Q k (p+1) n) hib;have hun:=qaz (Q:=Q) (k+1) (a:=bndT Q k (p+1) n) (b:=n) hbn;rw[chT];unfold laT at hb;rw[qbr]at hb
 by_cases e:s+1=leT Q (k+1) n
 ·omega
 ·rw[Aa e]at hb;have hg:(stT Q k n).getD (s+1) false=true:=by
   cases h:(stT Q k n).getD (s+1) false with
   | true=>rfl
   | false=>rw[h]at hb;exact absurd hb Od
  obtain⟨i2,hi2,hf2,he2⟩:=qmx Q (k+1) (e:=s+1) (n:=n) Oo;have h5:=q8l Q k hi2 hf2;rw[he2,hg]at h5;have hlt:i+1<=i2:=by
   refine DT.1 fun g=>?_;have:=qaz (Q:=Q) (k+1) (a:=i2) (b:=i) Oo;omega
  have h6:=qq4 (Q:=Q) k hlt Oo;have h7:=qa4 (Q:=Q) h5.symm;have h8:¬i2<bndT Q k (p+1) n:=fun g=>by have:=(qbx (Q:=Q) k (p+1) hi2).1 g;omega
  have h9:∀j,j<i2->j<bndT Q k (p+1) n:=fun j hj=>(qbx (Q:=Q) k (p+1) (n:=n) (i:=j) Oo).2 (by
   have:=qaz (Q:=Q) k (a:=j+1) (b:=i2) hj;omega)
  have h10:bndT Q k (p+1) n=i2:=by
   have:=h9 (i2-1) Oo;omega
  rw[h10,he2]
theorem q4v(k n:Nat):chT Q n k 0=0:=by rw[chT,qqf];rfl
theorem qn0(k n:Nat){p q:Nat}(h:p<=q):chT Q n k p<=chT Q n k q:=qaz (k+1) (qg4 k h n)
theorem q7u(k n p:Nat):chT Q n k p<=leT Q (k+1) n:=qaz (k+1) (qdr k p n)
theorem qacz{n e:Nat}(he:e<leT Q (k+1) n):∃i,i<n/\frU Q i (k+1)=true/\leT Q (k+1) i=e/\leT Q k (i+1)=cnt (qb3 (stT Q k n)) e+1:=by
 obtain⟨i,hi,hf,h0⟩:=qmx Q (k+1) he;refine⟨i,hi,hf,h0,?_⟩;have h1:=qa4 (Q:=Q) hf;rw[h0]at h1;have h2:=ql2 Q k hi;rw[h1,BG]at h2;have h3:=qei (Q:=Q) k (i:=i+1) Oo;omega
theorem qaev{n e p:Nat}(he:e<leT Q (k+1) n):cnt (qb3 (stT Q k n)) e=p↔chT Q n k p<=e/\e<chT Q n k (p+1):=by
 obtain⟨i,hi,hf,h0,h1⟩:=qacz he;have h2:=qa4 (Q:=Q) hf;have hd:∀p,(e<chT Q n k p↔cnt (qb3 (stT Q k n)) e<p):=fun p=>by
  have hb:=qbx (Q:=Q) k p hi;rw[chT]
  constructor
  ·intro g;have:i<bndT Q k p n:=by
    refine Nat.not_le.1 fun g2=>?_;have:=qaz (Q:=Q) (k+1) (a:=bndT Q k p n) (b:=i) g2;omega
   have:=hb.1 this;omega
  ·intro g;have:=hb.2 Oo;have:=qaz (Q:=Q) (k+1) (a:=i+1) (b:=bndT Q k p n) this;omega
 have h3:=hd p;have h4:=hd (p+1);omega
theorem TOk.sib{n e p:Nat}(h:TOk Q n)(hk:k+1<4)(h1:chT Q n k p<=e)(h2:e+1<chT Q n k (p+1)):(nuT Q (k+1) n).getD e 0<(nuT Q (k+1) n).getD (e+1) 0:=by
 have hle:=q7u (Q:=Q) k n (p+1);have hc:=(qaev (Q:=Q) (k:=k) (n:=n) (e:=e) (p:=p) Oo).2 ⟨h1,by omega⟩;refine h.order (k:=k+1) (e:=e+1) hk Oo Oo (.inr fun hb=>?_);rw[BG,h.bit hk Oo]at hb;have:=q7v (Q:=Q) (k:=k) (n:=n) (s:=e) (p:=p) Oo hb hc;omega
theorem TOk.top{n e:Nat}(h:TOk Q n)(h2:e+1<leT Q 0 n):(nuT Q 0 n).getD e 0<(nuT Q 0 n).getD (e+1) 0:=
 h.order (k:=0) (e:=e+1) Od Oo h2 (.inl rfl)
end
theorem q7w{d d':LB}:∀{n:Nat},(∀t,t<n->bitN d t=bitN d' t)->cnt d n=cnt d' n
 | 0,_=>rfl
 | n+1,h=>by rw[cnt,cnt,q7w fun t ht=>h t Oo,h n Oo]
theorem qaby{d:LB}{s:Nat}(h1:cnt d s<=k)(h2:k<cnt d (s+1)):bitN d s=1/\cnt d s=k:=by
 have:=qib d s;rw[cnt]at h2;omega
section
variable {Q:Nat->Nat->Nat} {n:Nat} (h:TOk Q n)
include h
theorem TOk.cntD{s:Nat}(hk:k+1<4)(hs:s<=leT Q (k+1) n):Go.Proofs.YtacnkdagblbgfaaGreatDoor.cnt ((qg (qr Q n) (k+1)).drop 8) s=Go.Proofs.YtacnkdagblbgfaaGreatDoor.cnt (qb3 (stT Q k n)) s:=
 q7w fun t ht=>by rw[h.bit hk Oo,qhf (by rw[qbr];omega)]
theorem TOk.child{p s:Nat}(hk:k+1<4)(hs:s<leT Q (k+1) n)(h1:Go.Proofs.YtacnkdagblbgfaaGreatDoor.cnt ((qg (qr Q n) (k+1)).drop 8) s<=p)(h2:p<Go.Proofs.YtacnkdagblbgfaaGreatDoor.cnt ((qg (qr Q n) (k+1)).drop 8) (s+1)):s+1=chT Q n k (p+1):=by
 obtain⟨g1,g2⟩:=qaby h1 h2;rw[h.bit hk hs]at g1;rw[h.cntD hk Oo]at g2;exact q7v hs g1 g2
theorem TOk.ones(hk:k+1<4):Go.Proofs.YtacnkdagblbgfaaGreatDoor.cnt ((qg (qr Q n) (k+1)).drop 8) (leT Q (k+1) n)=leT Q k n:=by
 rw[h.cntD hk znr];exact h.cnt
theorem TOk.sibs{p:Nat}(hk:k+1<4){a:Nat}:∀{b:Nat},chT Q n k p<=a->a<b->b<chT Q n k (p+1)->(nuT Q (k+1) n).getD a 0<(nuT Q (k+1) n).getD b 0
 | 0,_,hb,_=>absurd hb (Cn _)
 | b+1,ha,hb,hc=>by
  have h1:=h.sib (k:=k) (e:=b) (p:=p) hk Oo hc
  by_cases e:a=b
  ·rw[e];exact h1
  ·have:=TOk.sibs hk (a:=a) (b:=b) ha Oo Oo;omega
theorem TOk.tops{a:Nat}:∀{b:Nat},a<b->b<leT Q 0 n->(nuT Q 0 n).getD a 0<(nuT Q 0 n).getD b 0
 | 0,hb,_=>absurd hb (Cn _)
 | b+1,hb,hc=>by
  have h1:=h.top (e:=b) hc
  by_cases e:a=b
  ·rw[e];exact h1
  ·have:=TOk.tops (a:=a) (b:=b) Oo Oo;omega
end
section
variable {Q:Nat->Nat->Nat} {P:Nat->Int} {n:Nat}
def lvM(P:Nat->Int)(Q:Nat->Nat->Nat)(n k a b:Nat):EF:=maT P Q k (bndT Q k a n) (bndT Q k b n)
theorem qk5{a:Nat}(h:b<=a):lvM P Q n k a b=[]:=qaam P k (qg4 k h n)
theorem qo3{a:Nat}(h1:a<=b)(h2:b<=c):lvM P Q n k a c=lvM P Q n k a b++lvM P Q n k b c:=qaal P k (qg4 k h1 n) (qg4 k h2 n)
theorem qaaj{p:Nat}(hk:k+1<4):lvM P Q n k p (p+1)=if agB P k ((nuT Q k n).getD p 0)=true then lvM P Q n (k+1) (chT Q n k p) (chT Q n k (p+1))else[]:=by
 rw[lvM,qk6 P Oo,lvM,qmq,qmq]
theorem qkd{k a:Nat}(hk:k<4):∀{b:Nat},(∀e,a<=e->e<b->agB P k ((nuT Q k n).getD e 0)=false)->lvM P Q n k a b=[]
 | 0,_=>qk5 (Am _)
 | b+1,h=>by
  by_cases hab:a<=b
  ·rw[qo3 hab (Dw b),qkd hk fun e h1 h2=>h e h1 Oo,Br,lvM,qk6 P hk,h b hab (Dk b)];rfl
  ·exact qk5 Oo
theorem q5w{a e x:Nat}(hk:k<4)(hx:P k=(x:Int))(hr:∀i j,a<=i->i<j->j<b->(nuT Q k n).getD i 0<(nuT Q k n).getD j 0)(h1:a<=e)(h2:e<=b)(hlt:∀i,a<=i->i<e->(nuT Q k n).getD i 0<x)(hge:e<b->x<=(nuT Q k n).getD e 0):
  lvM P Q n k a b=if e<b/\(nuT Q k n).getD e 0=x then lvM P Q n k e (e+1)else[]:=by
 have ag:∀i,(nuT Q k n).getD i 0≠x->agB P k ((nuT Q k n).getD i 0)=false:=fun i hi=>by
  rw[agB,hx,AH Oo,AH Oo];rfl
 split
 ·rename_i h
  rw[qo3 (b:=e) h1 h2,qkd hk fun i g1 g2=>ag i (by have:=hlt i g1 g2;omega),Br,qo3 (b:=e+1) (Dw e) h.1,qkd (a:=e+1) hk fun i g1 g2=>ag i (by have:=hr e i h1 Oo g2;omega),AI]
 ·rename_i h
  refine qkd hk fun i g1 g2=>ag i fun hi=>?_
  rcases AX i e with g|g
  ·have:=hlt i g1 g;omega
  ·have h3:x<=(nuT Q k n).getD e 0:=hge Oo
   rcases DU g with g|g
   ·subst g;exact h ⟨g2,hi⟩
   ·have:=hr e i h1 g g2;omega
theorem TOk.bnd3(h:TOk Q n){p:Nat}(hp:p<=n):bndT Q 3 p n=p:=by
 have h1:=qdr (Q:=Q) 3 p n;refine Nat.le_antisymm ?_ ?_
 ·refine DT.1 fun g=>?_;have:=(qbx (Q:=Q) 3 p (n:=n) (i:=p) Oo).1 g;rw[h.all Oo]at this;omega
 ·refine DT.1 fun g=>?_;have:=(qbx (Q:=Q) 3 p (n:=n) (i:=bndT Q 3 p n) Oo).2 (by rw[h.all Oo];exact g);omega
theorem TOk.leaf(h:TOk Q n){e:Nat}(he:e<n):lvM P Q n 3 e (e+1)=if agB P 3 ((nuT Q 3 n).getD e 0)=true then[e]else[]:=by
 rw[lvM,qk6 P Od,h.bnd3 Oo,h.bnd3 Oo]
 split
 ·rw[maT,DB,BQ Js,Be Js,Br];rfl
 ·rfl
theorem TOk.lvM_all(_h:TOk Q n):lvM P Q n 0 0 (leT Q 0 n)=maT P Q 0 0 n:=by
 rw[lvM,qqf,q4o 0 znr]
end
def bsr(p:Nat->Bool):Nat->Nat->Nat->Nat
 | 0,a,_=>a
 | f+1,a,b=>if a<b then(if p ((a+b)/2)=true then bsr p f a ((a+b)/2)else bsr p f ((a+b)/2+1) b)else a
theorem qmr{p:Nat->Bool}:∀{f a b:Nat},a<=b->a<=bsr p f a b/\bsr p f a b<=b
 | 0,a,b,h=>⟨Aq _,h⟩
 | f+1,a,b,h=>by
  rw[bsr]
  split
  ·split
   ·have:=qmr (p:=p) (f:=f) (a:=a) (b:=(a+b)/2) Oo;omega
   ·have:=qmr (p:=p) (f:=f) (a:=(a+b)/2+1) (b:=b) Oo;omega
  ·omega
theorem qj7{p:Nat->Bool}{n:Nat}(hp:∀i j,i<=j->j<n->p i=true->p j=true):∀{f a b:Nat},a<=b->b<=n->b-a<=f->(∀i,i<a->p i=false)->(∀i,b<=i->i<n->p i=true)->
  (∀i,i<bsr p f a b->p i=false)/\(∀i,bsr p f a b<=i->i<n->p i=true)
 | 0,a,b,h,_,hf,h1,h2=>by
  obtain rfl:a=b:=by omega
  exact⟨h1,h2⟩
 | f+1,a,b,h,hn,hf,h1,h2=>by
  rw[bsr]
  split
  ·rename_i hab
   split
   ·rename_i hm
    exact qj7 hp Oo Oo Oo h1 fun i g1 g2=>hp _ i g1 g2 hm
   ·rename_i hm
    refine qj7 hp Oo hn Oo (fun i hi=>?_) h2;refine Bx.2 fun g=>hm ?_;exact hp i _ Oo Oo g
  ·obtain rfl:a=b:=by omega
   exact⟨h1,h2⟩
abbrev WS:=(Nat->Nat)×(Nat->Nat)
abbrev WR:=List (Nat×(Nat->Nat))×WS
def updN(f:Nat->Nat)(k v:Nat):Nat->Nat:=fun j=>if j=k then v else f j
def goL(f:Nat->WS->WR):Nat->Nat->WS->WR
 | 0,_,s=>([],s)
 | m+1,i,s=>((f i s).1++(goL f m (i+1) (f i s).2).1,(goL f m (i+1) (f i s).2).2)
structure LvD where
 N:Nat->Nat
 nu:Nat->Nat->Nat
 ch:Nat->Nat->Nat×Nat
def LvD.sr(T:LvD)(k lo hi:Nat)(x:Int):Nat:=lo+bsr (fun i=>decide (x<=(T.nu k (lo+i):Int))) (hi-lo) 0 (hi-lo)
def LvD.win(T:LvD)(P:Nat->Int)(k lo hi:Nat):Nat×Nat:=
 if P k<0 then(lo,hi)else if T.sr k lo hi (P k)<hi/\(T.nu k (T.sr k lo hi (P k)):Int)=P k then(T.sr k lo hi (P k),T.sr k lo hi (P k)+1)else(T.sr k lo hi (P k),T.sr k lo hi (P k))
def lvS(T:LvD)(P:Nat->Int)(f:Nat->WS->WR)(k lo hi:Nat)(s:WS):WR:=
 if min hi (T.N k)<=max lo (s.1 k)then([],s)else
 goL (fun i s=>f i (s.1,updN s.2 k (T.nu k i))) ((T.win P k (max lo (s.1 k)) (min hi (T.N k))).2-(T.win P k (max lo (s.1 k)) (min hi (T.N k))).1) (T.win P k (max lo (s.1 k)) (min hi (T.N k))).1 (updN s.1 k (min hi (T.N k)),s.2)
def lvG(T:LvD)(P:Nat->Int):Nat->Nat->Nat->Nat->WS->WR
 | 0,k,lo,hi,s=>lvS T P (fun i s=>([(i,s.2)],s)) k lo hi s
 | d+1,k,lo,hi,s=>lvS T P (fun i s=>lvG T P d (k+1) (T.ch k i).1 (T.ch k i).2 s) k lo hi s
theorem LvD.sr_le(T:LvD)(k:Nat)(x:Int)(h:lo<=hi):lo<=T.sr k lo hi x/\T.sr k lo hi x<=hi:=by
 have:=qmr (p:=fun i=>decide (x<=(T.nu k (lo+i):Int))) (f:=hi-lo) (a:=0) (b:=hi-lo) Oo;unfold LvD.sr;omega
theorem LvD.win_le(T:LvD)(P:Nat->Int)(k:Nat)(h:lo<=hi):lo<=(T.win P k lo hi).1/\(T.win P k lo hi).1<=(T.win P k lo hi).2/\(T.win P k lo hi).2<=hi:=by
 have:=T.sr_le k (P k) h;unfold LvD.win
 split
 ·exact⟨Aq _,h,Aq _⟩
 ·split
  ·rename_i h2;dsimp only;omega
  ·dsimp only;omega
theorem LvD.sr_spec(T:LvD)(k:Nat)(x:Int)(h:lo<=hi)(hr:∀i j,lo<=i->i<j->j<hi->T.nu k i<T.nu k j):
  (∀i,lo<=i->i<T.sr k lo hi x->(T.nu k i:Int)<x)/\(T.sr k lo hi x<hi->x<=(T.nu k (T.sr k lo hi x):Int)):=by
 have hs:=qj7 (p:=fun i=>decide (x<=(T.nu k (lo+i):Int))) (n:=hi-lo) (fun i j hij hj hi'=>by
  have hi':=BR hi';refine Az ?_
  by_cases e:i=j
  ·subst e;exact hi'
  ·have:=hr (lo+i) (lo+j) Oo Oo Oo;omega) (f:=hi-lo) (a:=0) (b:=hi-lo) Oo Oo Oo (fun i hi'=>by omega) (fun i h1 h2=>by omega)
 unfold LvD.sr;refine⟨fun i h1 h2=>?_,fun h1=>?_⟩
 ·have:=of_decide_eq_false (hs.1 (i-lo) Oo);rw[show lo+(i-lo)=i by omega]at this;omega
 ·exact BR (hs.2 _ znr Oo)
section
variable {Q:Nat->Nat->Nat} {n:Nat}
def dT(Q:Nat->Nat->Nat)(n k a:Nat):Nat->Nat
 | 0=>a
 | j+1=>chT Q n (k+j) (dT Q n k a j)
theorem qn9(k:Nat){a b:Nat}(h:a<=b):∀j,dT Q n k a j<=dT Q n k b j
 | 0=>h
 | j+1=>qn0 _ _ (qn9 k h j)
theorem qn8(k a:Nat):∀j,dT Q n (k+1) (chT Q n k a) j=dT Q n k a (j+1)
 | 0=>rfl
 | j+1=>by rw[dT,qn8 k a j,dT,show k+1+j=k+(j+1)by omega,dT,dT]
theorem q0w{P:Nat->Int}{k lo hi:Nat}{f:Nat->WS->WR}{Inv:Nat->WS->Prop}(h:∀i s,lo<=i->i<hi->Inv i s->(f i s).1.map (·.1)=lvM P Q n k i (i+1)/\Inv (i+1) (f i s).2):
  ∀(m i:Nat) (s:WS),lo<=i->i+m<=hi->Inv i s->(goL f m i s).1.map (·.1)=lvM P Q n k i (i+m)/\Inv (i+m) (goL f m i s).2
 | 0,i,s,_,_,hi'=>⟨(qk5 znr).symm,hi'⟩
 | m+1,i,s,h1,h2,hi'=>by
  obtain⟨g1,g2⟩:=h i s h1 Oo hi';obtain⟨g3,g4⟩:=q0w h m (i+1) _ Oo Oo g2;rw[goL,AB,g1,g3,show i+(m+1)=i+1+m by omega];exact⟨(qo3 (Dw i) Oo).symm,g4⟩
structure CanD(T:LvD)(Q:Nat->Nat->Nat)(n:Nat):Prop where
 N:∀k,k<4->T.N k=leT Q k n
 nu:∀k e,k<4->e<leT Q k n->T.nu k e=(nuT Q k n).getD e 0
 ch:∀k i,k+1<4->i<leT Q k n->T.ch k i=(chT Q n k i,chT Q n k (i+1))
theorem q1x(_:TOk Q n){T:LvD}(hT:CanD T Q n){P:Nat->Int}{a:Nat}{s:WS}{f:Nat->WS->WR}(hk:k<4)(hab:a<=b)(hb:b<=leT Q k n)(hr:∀i j,a<=i->i<j->j<b->(nuT Q k n).getD i 0<(nuT Q k n).getD j 0)(hp:∀j,k+j<4->s.1 (k+j)<=dT Q n k a j)(hf:∀i s,a<=i->i<b->agB P k ((nuT Q k n).getD i 0)=true->(∀j,k+(j+1)<4->s.1 (k+(j+1))<=dT Q n k i (j+1))->(f i s).1.map (·.1)=lvM P Q n k i (i+1)/\(f i s).2.1 k=s.1 k/\∀j,k+(j+1)<4->(f i s).2.1 (k+(j+1))<=dT Q n k (i+1) (j+1)):
  (lvS T P f k a b s).1.map (·.1)=lvM P Q n k a b/\∀j,k+j<4->(lvS T P f k a b s).2.1 (k+j)<=dT Q n k b j:=by
 have hp0:s.1 k<=a:=hp 0 hk;rw[lvS,hT.N k hk,Nat.max_eq_left hp0,Dd hb]
 split
 ·rename_i hle
  exact⟨(qk5 hle).symm,fun j hj=>AU (hp j hj) (qn9 k hab j)⟩
 obtain⟨w1,w2,w3⟩:=T.win_le P k hab;have hnu:∀e,e<b->T.nu k e=(nuT Q k n).getD e 0:=fun e he=>hT.nu k e hk Oo
 have hwin:lvM P Q n k a b=lvM P Q n k (T.win P k a b).1 (T.win P k a b).2/\∀i,(T.win P k a b).1<=i->i<(T.win P k a b).2->agB P k ((nuT Q k n).getD i 0)=true:=by
  by_cases hneg:P k<0
  ·have e:T.win P k a b=(a,b):=by rw[LvD.win,Ad hneg]
   rw[e];exact⟨rfl,fun i _ _=>by rw[agB,Az hneg];rfl⟩
  ·obtain⟨s1,s2⟩:=T.sr_le k (P k) hab;obtain⟨s3,s4⟩:=T.sr_spec k (P k) hab (fun i j h1 h2 h3=>by rw[hnu i Oo,hnu j h3];exact hr i j h1 h2 h3);obtain⟨x,hx⟩:∃x:Nat,P k=(x:Int):=⟨(P k).toNat,by omega⟩
   have hfd:=q5w (P:=P) (n:=n) hk hx hr s1 s2 (fun i g1 g2=>by have:=s3 i g1 g2;rw[hnu i Oo]at this;omega) (fun g=>by have:=s4 g;rw[hnu _ g]at this;omega)
   by_cases hc:T.sr k a b (P k)<b/\(T.nu k (T.sr k a b (P k)):Int)=P k
   ·have e:T.win P k a b=(T.sr k a b (P k),T.sr k a b (P k)+1):=by rw[LvD.win,Aa hneg,Ad hc]
    have hc2:(nuT Q k n).getD (T.sr k a b (P k)) 0=x:=by have:=hc.2;rw[hnu _ hc.1]at this;omega
    rw[e,hfd,Ad ⟨hc.1,hc2⟩];refine⟨rfl,fun i g1 g2=>?_⟩;dsimp only at g1 g2;obtain rfl:i=T.sr k a b (P k):=by omega
    rw[agB,hc2,hx,Az (p:=(x:Int)=(x:Int)) rfl,Ew]
   ·have e:T.win P k a b=(T.sr k a b (P k),T.sr k a b (P k)):=by rw[LvD.win,Aa hneg,Aa hc]
    rw[e,hfd,Aa (fun g=>hc ⟨g.1,by rw[hnu _ g.1,g.2,hx]⟩),qk5 znr];exact⟨rfl,fun i g1 g2=>by dsimp only at g1 g2;omega⟩
 obtain⟨hw1,hw2⟩:=hwin;obtain⟨u,eu⟩:∃u,u=T.win P k a b:=⟨_,rfl⟩
 rw[<-eu]at w1 w2 w3 hw1 hw2|-;have hg:=q0w (Q:=Q) (n:=n) (P:=P) (k:=k) (lo:=u.1) (hi:=u.2) (f:=fun i s=>f i (s.1,updN s.2 k (T.nu k i))) (Inv:=fun i s=>s.1 k=b/\∀j,k+(j+1)<4->s.1 (k+(j+1))<=dT Q n k i (j+1))
  (fun i s h1 h2 hI=>by
   obtain⟨g1,g2,g3⟩:=hf i (s.1,updN s.2 k (T.nu k i)) Oo Oo (hw2 i h1 h2) hI.2;exact⟨g1,g2.trans hI.1,g3⟩) (u.2-u.1) u.1 (updN s.1 k b,s.2) znr Oo ⟨by show updN s.1 k b k=b;rw[updN,Ad rfl],fun j hj=>by
    show updN s.1 k b (k+(j+1))<=_;rw[updN,Aa Oo];exact AU (hp (j+1) hj) (qn9 k w1 (j+1))⟩
 rw[show u.1+(u.2-u.1)=u.2 by omega]at hg;refine⟨by rw[hg.1,hw1],fun j hj=>?_⟩;cases j with
 | zero=>rw[BH,hg.2.1];exact Aq b
 | succ j=>exact AU (hg.2.2 j hj) (qn9 k w3 (j+1))
theorem qv8{T:LvD}{P:Nat->Int}{a:Nat}{s:WS}{f:Nat->WS->WR}(hm:m≠k)(hf:∀i s,(f i s).2.1 m=s.1 m):(lvS T P f k a b s).2.1 m=s.1 m:=by
 have key:∀c i (s:WS),(goL (fun i s=>f i (s.1,updN s.2 k (T.nu k i))) c i s).2.1 m=s.1 m:=by
  intro c
  induction c with
  | zero=>intro i s;rfl
  | succ c ih=>intro i s;rw[goL,ih,hf]
 rw[lvS]
 split
 ·rfl
 ·rw[key];show updN s.1 k _ m=_;rw[updN,Aa hm]
theorem qv7{T:LvD}{P:Nat->Int}{m:Nat}:∀{d k a b:Nat} {s:WS},m<k->(lvG T P d k a b s).2.1 m=s.1 m
 | 0,k,a,b,s,h=>qv8 Oo fun _ _=>rfl
 | d+1,k,a,b,s,h=>qv8 Oo fun i s=>qv7 (d:=d) Oo
theorem q1w(h:TOk Q n){T:LvD}(hT:CanD T Q n){P:Nat->Int}:∀{d k a b:Nat} {s:WS},k+d=3->a<=b->b<=leT Q k n->(∀i j,a<=i->i<j->j<b->(nuT Q k n).getD i 0<(nuT Q k n).getD j 0)->
  (∀j,k+j<4->s.1 (k+j)<=dT Q n k a j)->(lvG T P d k a b s).1.map (·.1)=lvM P Q n k a b/\∀j,k+j<4->(lvG T P d k a b s).2.1 (k+j)<=dT Q n k b j
 | 0,k,a,b,s,hkd,hab,hb,hr,hp=>by
  obtain rfl:k=3:=by omega
  have hn:leT Q 3 n=n:=h.all znr;refine q1x h hT Oo hab hb hr hp fun i s h1 h2 hag _=>⟨?_,rfl,fun j hj=>by omega⟩
  rw[h.leaf Oo,Ad hag];rfl
 | d+1,k,a,b,s,hkd,hab,hb,hr,hp=>by
  refine q1x h hT Oo hab hb hr hp fun i s h1 h2 hag hj=>?_;have hch:=hT.ch k i Oo Oo;have ih:=q1w h hT (P:=P) (d:=d) (k:=k+1) (a:=chT Q n k i) (b:=chT Q n k (i+1)) (s:=s) Oo (qn0 k n (Dw i)) (q7u k n _) (fun x y g1 g2 g3=>h.sibs Oo g1 g2 g3)
   (fun j hj2=>by rw[qn8,show k+1+j=k+(j+1)by omega];exact hj j Oo)
  rw[hch];refine⟨by rw[ih.1,qaaj Oo,Ad hag],qv7 Oo,fun j hj2=>?_⟩;have:=ih.2 j Oo;rw[qn8,show k+1+j=k+(j+1)by omega]at this;exact this
theorem qaai(h:TOk Q n){T:LvD}(hT:CanD T Q n){P:Nat->Int}{q:Nat->Nat}:(lvG T P 3 0 0 (leT Q 0 n) (fun _=>0,q)).1.map (·.1)=maT P Q 0 0 n:=by
 rw[<-h.lvM_all];exact(q1w h hT (d:=3) (k:=0) (a:=0) (b:=leT Q 0 n) (s:=(fun _=>0,q)) rfl (Am _) znr (fun i j _ h2 h3=>h.tops h2 h3) (fun j hj=>Am _)).1
end
end Go.Proofs.YtacnkdagblbgfaaGreatDoor
