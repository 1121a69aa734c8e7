/- Lemmas and contracts of functions on the way to the law's card (part 10 of 11). -/
import Derived.Test.YtacnkdagblbgfaaGreatDoorME9
namespace Go.Proofs.YtacnkdagblbgfaaGreatDoor
set_option maxHeartbeats 8000000
open Go.RowKit V
set_option maxHeartbeats 8000000
set_option maxRecDepth 100000
theorem qny:∀ds:List DsE,(ds.map (·.qs)).flatten.length<=totD ds
 | []=>Am _
 | d::ds=>by
  have ih:=qny ds;simp only[totD,AW,CK,zla,DZ]at ih|-;omega
theorem SeenAt.take{w:Et}{A:oA}{c:Nat}{E:List (Q4×List Int)}(h:SeenAt w (.slice A E.length c) E)(m:Nat)(hm:m<=E.length):SeenAt w (.slice A m c) (E.take m):=by
 obtain⟨A',c',e,h2,h3⟩:=h
 injection e with e1 _ e2
 subst e1 e2;have hl:(E.take m).length=m:=by rw[AK];omega
 refine⟨A,c,by rw[hl],by omega,fun hn=>?_⟩;obtain⟨g,off,h4,h5⟩:=h3 (fun e=>hn (by rw[e,List.take_nil]));refine⟨g,off,h4,fun i q zs hi=>h5 i q zs ?_⟩;rw[Bi]at hi
 split at hi
 ·exact hi
 ·cases hi
def EacV(s0:Nat)(A:oA)(n c:Nat)(p:Q4)(v:Value)(w:Et):Prop:=
 ∃b1 b2,v=.func (.func 29) #[] #[pp b1,pp b2]/\s0<=b1/\s0<=b2/\b1≠b2/\w.heap[b1]?=some (.cells #[.slice A n c] 28)/\w.heap[b2]?=some (.cells (qd p).toArray 26)
theorem EacV.ext{s0:Nat}{A:oA}{n c:Nat}{p:Q4}{v:Value}{w w':Et}(h:EacV s0 A n c p v w)(he:Ext w w'):EacV s0 A n c p v w':=by
 obtain⟨b1,b2,h1,h2,h3,h4,h5,h6⟩:=h;exact⟨b1,b2,h1,h2,h3,h4,he.get h5,he.get h6⟩
def FiJ(wB:Et)(R2:Ey)(cb gq cq:Nat)(Yq:Ey)(E:List (Q4×E0))(m k:Nat)(X:Ey)(w:Et):Prop:=
 ∃s:Value×List SnE×Ey×E6,(SeensX s.1 s.2.1 s.2.2.1/\s.2.1.map snP=(E.take k).map intP/\s.2.1.length=k/\k<=m/\(k=0->[(gq,Obj.cells s.2.2.2 41)]=Yq)/\s.2.2.2.size=cq)/\
  Mem wB w (X++(s.2.2.1++(cb,.cells #[s.1] 34)::(gq,.cells s.2.2.2 41)::R2))
theorem FiJ.carr(wB:Et)(R2:Ey)(cb gq cq:Nat)(Yq:Ey)(E:List (Q4×E0))(m k:Nat):Carr (FiJ wB R2 cb gq cq Yq E m k):=Carr.ex fun _=>(qwg wB).tail _
def FiX(wB:Et)(R2:Ey)(cb gq:Nat)(E:List (Q4×E0))(k:Nat)(X:Ey)(w:Et):Prop:=
 ∃s:Value×List SnE×Ey×E6,(SeensX s.1 s.2.1 s.2.2.1/\s.2.1.map snP=(E.take k).map intP)/\
  Mem wB w (X++(s.2.2.1++(cb,.cells #[s.1] 34)::(gq,.cells s.2.2.2 41)::R2))
theorem FiX.carr(wB:Et)(R2:Ey)(cb gq:Nat)(E:List (Q4×E0))(k:Nat):Carr (FiX wB R2 cb gq E k):=Carr.ex fun _=>(qwg wB).tail _
theorem qol(ds:List DsE)(A:oA)(n c:Nat)(p:Q4)(most:Int)(w:Et)(hS:SlAt encD 1 w A ds)(hn:ds.length=n)(hb:n<=140737488355328)(hD:∀d∈ds,SlAt qd 16 w d.A d.qs)(hl:∀d∈ds,d.qs.length<=140737488355328)(hq:∀d∈ds,∀q∈d.qs,qby q)(hp:qby p)(hmo:InR .i64 most)(hGS:GlobS w)(hT:CellsAt w 1 0 qjn)(hG:ErrTyp w):
  Gv E4 3 [.slice A n c,qn p,ii most] w fun r w'=>r=.bool true/\Ext w w':=by
 subst hn;refine gvW Jk Tryz.func3 rfl Tryz.ntmps3 rfl (zw ?_);refine znm (Mem.nil w) fun pb w1 hm=>zw ?_;refine znm hm ?_;clear hm;intro mb w2 hm;have hm:Mem w w2 [(mb,.cells #[ii most] 3),(pb,.cells (qd p).toArray 26)]:=hm;(conv=>whnf);refine zcv (qzj ds A ds.length c w2 (hS.ext hm.ext) rfl hb hl) ?_;rintro r w3 ⟨⟨b,rfl,hfew⟩,he3⟩;replace hm:=hm.call he3;cases b
 ·refine zu ?_;exact⟨rfl,hm.ext⟩
 obtain⟨hn60,htot⟩:=hfew rfl;refine zu ?_;refine zcv (qxa ds A ds.length c w3 (hS.ext hm.ext) rfl hn60 (fun d hd=>(hD d hd).ext hm.ext) hl hq (CellsAt.ext hT hm.ext) (hG.ext hm.ext)) ?_;clear he3;rintro r w4 (⟨rfl,he4⟩|⟨es,A4,c4,rfl,hes,hel,hex,hrow,he4⟩)
 ·replace hm:=hm.call he4;refine zu ?_;exact⟨rfl,hm.ext⟩
 replace hm:=hm.call he4;refine zu ?_;have cN:=qwg w4;refine NewV.carr cN (Mem.nil w4) ?_;intro eb w5 hL;have hesl:es.length=ds.length:=by
  have:=Af List.length hes
  rwa[AI,AI]at this
 have hbi:((E4.info? 41).get Jk).bytes=8:=by kernel_rfl
 have hptl:(es.map ptE).length=es.length:=AI ..;have hpo:∀u∈es.map ptE,u.oneCell'=true:=fun v hv=>by
  obtain⟨e,_,rfl⟩:=Bc.1 hv;unfold ptE
  split<;>rfl
 have hrV:w4.ownsRow 0 41 1 (.slice A4 es.length c4) es.length ((es.map ptE).map encV).flatten:=by rw[qe3];exact hrow
 obtain⟨hS4,hc4⟩:=qb7 (enc:=encV) (fun _=>rfl) hrV hptl;have hR0:RowX 41 1 (.slice (some ⟨eb,0,none⟩) 0 0) 0 [] [(eb,.cells #[] 41)]:=⟨rfl,.inr ⟨eb,0,#[],rfl,rfl,Ar _,Am _,rfl,rfl⟩⟩
 (conv=>whnf);refine AppV.carr (Y:=[_]) (X:=[]) (m:=es.length) (news:=es.map ptE) cN hL hR0 ixSl ixI ixZ Jk Jk Od (by rw[hptl,Be]) (fun hne=>by
  obtain⟨b,o,e,ha⟩:=(hS4.ext hL.ext).at_ hne;exact⟨b,o,e,by have:=qc3 (enc:=encV) (size:=1) Od (fun _=>rfl) ha;rwa[qe3]at this⟩) hpo (by rw[hbi];omega) Oo ?_
 clear hL;intro Ao co Yo w6 hRo hL;(conv=>whnf);refine NewV.carr cN hL ?_;clear hL;intro nb w7 hL;have hL:Mem w4 w7 (Yo++[(nb,.cells #[.pointer none] 41)]):=cN.perm hL (by simpa using(AH (l₁:=[(nb,Obj.cells #[.pointer none] 41)]) (l₂:=Yo)));(conv=>whnf);refine AppV.carr (m:=1) (news:=[.pointer none]) cN hL hRo ixSl ixI ixZ Jk Jk Od rfl (fun _=>⟨nb,0,rfl,fun j u hu=>by rw[qa (cN.get hL (Ai _ mh)),AC,AB];exact hu⟩) (fun u hu=>by rw[Ak.1 hu];rfl) (by rw[hbi];omega) Oo ?_;clear hL hRo;intro Aq cq Yq w8 hRq hL;replace hL:=cN.dropM hL;rw[AY]at hL;(conv=>whnf);refine NewV.carr cN hL fun ob w9 hL=>zw ?_;refine StoreV.carr cN (A:=[]) hL (by show 0<1;omega) rfl ?_;clear hL;intro w10 hL;have hL:Mem w4 w10 ((ob,.cells #[.slice Aq (0+es.length+1) cq] 28)::Yq):=hL;have hgm:w4.heap[mb]?=some (.cells #[ii most] 3):=hm.get mh;(conv=>whnf);refine LoadV.own (hL.ext.get hgm) rfl (zw ?_);refine Fall.max2 rfl rfl rfl ?_;intro mx hmx;(conv=>whnf);refine StoreV.own (hL.ext.get hgm) (by show 0<1;omega) rfl fun w11 hw11=>?_;rw[qjh (hL.ext.get hgm)]at hw11;have hL:=Mem.under hL hgm (.cells #[ii mx] 3);have hw11:w11=setO w10 mb (.cells #[ii mx] 3):=hw11;rw[<-hw11]at hL;have hxB:∀e∈es,PartX (setO w4 mb (.cells #[ii mx] 3)) e:=fun e he=>q3e hgm (fun c hc=>qbj hc) (hex e he)
 have hrowB:(setO w4 mb (.cells #[ii mx] 3)).ownsRow 0 41 1 (.slice A4 es.length c4) es.length (es.map ptE):=q75 hgm (fun c hc=>qbj hc) hrow Od;have hmB:Mem w (setO w4 mb (.cells #[ii mx] 3)) [(mb,.cells #[ii mx] 3),(pb,.cells (qd p).toArray 26)]:=hm.setO (i:=0) _ rfl rfl;obtain⟨wB,eB⟩:∃wB,wB=setO w4 mb (.cells #[ii mx] 3):=⟨_,rfl⟩
 rw[<-eB]at hL hxB hrowB hmB;clear hw11 eB hm hex hrow hS4 hrV hc4 hR0 he4;have hgm:wB.heap[mb]?=some (.cells #[ii mx] 3):=hmB.get mh;have hgp:wB.heap[pb]?=some (.cells (qd p).toArray 26):=hmB.get (zmc (Ak.2 rfl));have cB:=qwg wB;rw[AC,Br]at hRq;rw[AC]at hL;obtain⟨Aq',cq',eq',hqc,hqg⟩:=V.RowX.capd hRq
 injection eq' with eA _ eC
 subst eA eC;obtain⟨gq,rfl⟩:=hqg.resolve_left Oo;have hgo:w11.heap[ob]?=some (.cells #[.slice (some ⟨gq,0,none⟩) (es.length+1) cq] 28):=hL.get mh;have hx11:∀wd,Ext w11.drew wd->Ext w11 wd:=fun wd hd=>(Ext.refl w11).drew.trans hd
 (conv=>whnf);refine DrawW.any Jk (.inl rfl) (AnyV.freeW Jk ?_);(conv=>whnf);refine zsd (.slice (some ⟨gq,0,none⟩) (es.length+1) cq) (fun wd hd=>zw ?_) (zw ?_)
 ·refine LoadV.own ((hx11 wd hd).get hgo) rfl (zw ?_);exact⟨xr,rfl⟩
 refine zd ?_;refine zd ?_;refine zsd (.slice (some ⟨gq,0,none⟩) es.length cq) (fun wd hd=>zw ?_) (zw ?_)
 ·refine SliceV.head Oo rfl (zw ?_);exact⟨xr,rfl⟩
 refine zsd (qn p) (fun wd hd=>zw ?_) (zw ?_)
 ·refine LoadA.own ((hx11 wd hd).get (hL.ext.get hgp)) rfl (zw ?_);exact⟨xr,rfl⟩
 apply StepD.of (fun v wx=>EacV w11.heap.size (some ⟨gq,0,none⟩) es.length cq p v wx) (fun _ _ _ h he=>h.ext he)
 ·intro wd hd;(conv=>whnf);refine zcv (q0x (some ⟨gq,0,none⟩) es.length cq p wd) ?_;rintro r wx ⟨b1,b2,rfl,hmx⟩;have hz:=(hx11 wd hd).size;have h2:=hmx.own _ mh;have h1:=hmx.own _ (zmc (Ak.2 rfl));have hnd:=hmx.nodup;refine⟨hmx.ext,b1,b2,rfl,Bd hz h1.1,Bd hz h2.1,fun e=>?_,h1.2,h2.2⟩;subst e;simp at hnd
 (conv=>whnf);apply StepD.of (fun v wx=>EacV w11.heap.size (some ⟨gq,0,none⟩) es.length cq p v wx) (fun _ _ _ h he=>h.ext he)
 ·intro wd hd;(conv=>whnf);rintro v ⟨b1,b2,rfl,hv⟩;(conv=>whnf);rintro v ⟨b1,b2,rfl,hv⟩;(conv=>whnf);rintro v ⟨b1,b2,rfl,hv⟩;(conv=>whnf);exact⟨xr,b1,b2,rfl,hv⟩
 (conv=>whnf);intro w12 he12;rintro v ⟨b1,b2,rfl,hb1,hb2,hb12,hg1,hg2⟩;(conv=>whnf);rintro v ⟨c1,c2,rfl,_⟩;(conv=>whnf);have hN12:Mem w11 w12 [(b2,.cells (qd p).toArray 26),(b1,.cells #[.slice (some ⟨gq,0,none⟩) es.length cq] 28)]:=⟨hx11 w12 he12,fun x hx=>by
  rcases AF.1 hx with rfl|hx
  ·exact⟨hb2,hg2⟩
  ·rw[Ak.1 hx];exact⟨hb1,hg1⟩,by simp[hb12.symm]⟩
 have hL:=hL.glue hN12;have hL:Mem wB w12 ([]++((b2,.cells (qd p).toArray 26)::(b1,.cells #[.slice (some ⟨gq,0,none⟩) es.length cq] 28)::(ob,.cells #[.slice (some ⟨gq,0,none⟩) (es.length+1) cq] 28)::Yq)):=hL;obtain⟨N,eN⟩:∃N:Ey,N=(b2,.cells (qd p).toArray 26)::(b1,.cells #[.slice (some ⟨gq,0,none⟩) es.length cq] 28)::(ob,.cells #[.slice (some ⟨gq,0,none⟩) (es.length+1) cq] 28)::Yq:=⟨_,rfl⟩
 rw[<-eN]at hL;have cJ:=cB.tail N;have hlq:(es.map ptE++[Value.pointer none]).length=es.length+1:=by rw[zla,hptl];rfl
 have hq2:RowX 41 1 (.slice (some ⟨gq,0,none⟩) (es.map ptE++[Value.pointer none]).length cq) (es.map ptE++[Value.pointer none]).length ((es.map ptE++[Value.pointer none]).map encV).flatten Yq:=by rw[hlq,qe3];exact hRq
 have hΦ0:∀w',w'.heap[b1]?=some (.cells #[.slice (some ⟨gq,0,none⟩) es.length cq] 28)->(∀x∈Yq,w'.heap[x.1]?=some x.2)->EaΦ0 es b1 w':=fun w' h1 h2=>by
  refine⟨some ⟨gq,0,none⟩,cq,?_,⟨fun hne=>⟨gq,0,rfl,fun j v hj=>?_⟩⟩⟩
  ·rw[qa h1];rfl
  ·exact V.RowX.cells (enc:=encV) (sz:=1) (fun _=>rfl) hq2 h2 j v (by rw[AR (Ae.1 hj).1];exact hj)
 have hΦa:∀w',Ext wB w'->w'.heap[b2]?=some (.cells (qd p).toArray 26)->EaΦ es p b2 w':=fun w' he h2=>
  ⟨fun e he'=>((hxB e he').ext he).at_,hGS.ext (hmB.ext.trans he),fun k u hu=>by rw[qa h2,AC,AB];exact hu⟩
 have hΦ:∀X w',Mem wB w' (X++N)->EaΦ0 es b1 w'/\EaΦ es p b2 w':=fun X w' h=>by
  have hy:∀y∈N,w'.heap[y.1]?=some y.2:=fun y hy=>h.get (Ai _ hy)
  exact⟨hΦ0 w' (hy (b1,.cells #[.slice (some ⟨gq,0,none⟩) es.length cq] 28) (by rw[eN];simp)) (fun x hx=>hy x (by rw[eN];simp[hx])),hΦa w' h.ext (hy (b2,.cells (qd p).toArray 26) (by rw[eN];simp))⟩
 refine LoadV.own (hL.ext.get hgm) rfl ?_;have hrise:∀L∈es.map (·.qs),RiseC cmpQ L:=fun L hL=>by
  obtain⟨e,he,rfl⟩:=Bc.1 hL
  rcases(hel e he).1 with h0|h0
  ·show RiseC cmpQ e.qs;rw[h0];exact List.Pairwise.nil
  ·exact(qdh h0).2.2.imp fun h=>qcv.2 h
 have hdoc:eacE es p=eacD (ds.map (·.qs)) (fitQ p):=by
  have h1:=q39 hrise (fitQ p) znr;rw[Eg]at h1;rw[<-hes,<-h1];rfl
 have hEl:(eacE es p).length<=1000000:=by
  have h1:=qi4 cmpQ (ds.map (·.qs)).flatten.length (ds.map (·.qs)).flatten;have h2:=DV (fitQ p) (srtC cmpQ (ds.map (·.qs)).flatten.length (ds.map (·.qs)).flatten);have h3:=qny ds;rw[hdoc,eacD,AI];omega
 have hmx64:InR .i64 mx:=⟨by have:=hmo.1;omega,by have:=hmo.2;omega⟩
 (conv=>whnf);refine zcv (qmx (J:=fun X w'=>Mem wB w' (X++N)) cJ es (fun e he=>(hel e he).2) Oo p hp b1 b2 mx hmx64 hEl hΦ [] w12 hL) ?_;clear hL;rintro r w13 ⟨S1,Z1,hS1,hL,hE1⟩;rw[AY]at hL;obtain⟨Y1,Y2,rfl,hR1,hN1⟩:=id hS1;obtain⟨A1,c1',er⟩:=hR1.slice;subst er;(conv=>whnf);refine LoadV.own (hL.ext.get hgm) rfl (zw ?_);refine zcv (qmx (J:=fun X w'=>Mem wB w' (X++N)) cJ es (fun e he=>(hel e he).2) Oo p hp b1 b2 mx hmx64 hEl hΦ (Y1++Y2) w13 hL) ?_;clear hL;rintro r w14 ⟨S2,Z2,hS2,hL,hE2⟩;obtain⟨V1,V2,rfl,hR2,hN2⟩:=id hS2;obtain⟨A2,c2',er⟩:=hR2.slice;subst er;(conv=>whnf);have hxw:Ext w w14:=hmB.ext.trans hL.ext;have htot':(ds.map (·.qs)).flatten.length<=20000:=Bd (qny ds) htot;refine LoadA.own (hL.ext.get hgp) rfl (zw ?_);refine zcv (qwn ds A ds.length c p w14 (hS.ext hxw) rfl hn60 (fun d hd=>(hD d hd).ext hxw) htot' (fun d hd=>hrise d.qs (by rw[hes];exact Bc.2 ⟨d,hd,rfl⟩))) ?_;rintro r w15 ⟨S3,Z3,hS3,hM3,hE3⟩;have hL:=hL.glue hM3;obtain⟨U1,U2,rfl,hR3,hN3⟩:=id hS3;obtain⟨A3,c3',er⟩:=hR3.slice;subst er;(conv=>whnf);refine LoadV.own (hL.ext.get hgm) rfl (zw ?_);refine V.Fall.min2 rfl rfl rfl ?_;intro mn hmn;(conv=>whnf);obtain⟨k3,ek3⟩:∃k3:Nat,k3=min S3.length mx.toNat:=⟨_,rfl⟩
 obtain rfl:mn=(k3:Int):=by omega
 have hc3:S3.length<=c3':=by
  obtain⟨_,_,e,h,_⟩:=V.RowX.capd hR3
  injection e with _ _ e
  omega
 refine V.SliceV.to 0 k3 c3' rfl rfl rfl (Am _) Oo znr (fun h=>by cases h) ?_;have hA3:(if c3'=0 then A3 else A3.map (·.add (0*17)))=A3:=by
  rcases A3 with _|a
  ·split<;>rfl
  ·split
   ·rfl
   ·simp[Addr.add]
 have htz:tsz E4 40=17:=by kernel_rfl
 rw[htz,hA3,Es,Es];(conv=>whnf);have hL:Mem wB w15 ((U1++U2)++((V1++V2)++((Y1++Y2)++N))):=by rw[Ag (V1++V2) (Y1++Y2) N]at hL;exact hL
 have hds:(ds.map (·.qs)).length=ds.length:=AI ..;obtain⟨E,eE⟩:∃E:List (Q4×List Int),E=((eacE es p).take mx.toNat).map intP:=⟨_,rfl⟩
 have hS1E:S1.map snP=E:=by rw[eE];exact hE1
 have hS2E:S2.map snP=E:=by rw[eE];exact hE2
 have hS3E:S3.map snP=(eacE es p).map intP:=by rw[hdoc];exact hE3
 have hl3:S3.length=(eacE es p).length:=by
  have h:=Af List.length hS3E
  rwa[AI,AI]at h
 have hl1:S1.length=k3:=by
  have h:=Af List.length hS1E;rw[eE,AI,AI,AK]at h;omega
 have hE3':(S3.map snP).take k3=E:=by
  rw[hS3E,ek3,hl3,eE,<-List.map_take,q52]
 have hEle:E.length<=1000000:=by rw[eE,AI,AK];omega
 have hE60:∀x∈E,x.2.length<=60:=fun x hx=>by
  rw[eE]at hx;obtain⟨e,he,rfl⟩:=Bc.1 hx;have h1:=CU he;rw[hdoc]at h1;have h2:=q80 e h1;show(e.2.map fun n:Nat=>(n:Int)).length<=60;rw[AI];omega
 have hAt2:∀w',(∀x∈V1++V2,w'.heap[x.1]?=some x.2)->SeenAt w' (.slice A2 S2.length c2') E:=fun w' hh=>by
  rw[<-hS2E];exact hS2.at_ hh
 have hAt3:∀w',(∀x∈U1++U2,w'.heap[x.1]?=some x.2)->SeenAt w' (.slice A3 k3 c3') E:=fun w' hh=>by
  have h:=hS3.at_ hh;have h1:SeenAt w' (.slice A3 (S3.map snP).length c3') (S3.map snP):=by rw[AI];exact h
  have h2:=h1.take k3 (by rw[AI];omega);rw[hE3']at h2;exact h2
 refine zcv (qbi E _ _ w15 (by rw[<-hS1E];exact hS1.at_ (fun x hx=>hL.get (Ai _ (Ai _ (AQ _ hx))))) (hAt3 w15 (fun x hx=>hL.get (AQ _ hx))) Oo (fun x hx=>by have:=hE60 x hx;omega)) ?_;rintro r w16 ⟨rfl,he16⟩;replace hL:=hL.call he16;refine zu ?_;refine zcv (qbi E _ _ w16 (hAt2 w16 (fun x hx=>hL.get (Ai _ (AQ _ hx)))) (hAt3 w16 (fun x hx=>hL.get (AQ _ hx))) Oo (fun x hx=>by have:=hE60 x hx;omega)) ?_;rintro r w17 ⟨rfl,he17⟩;replace hL:=hL.call he17;refine zu ?_;obtain⟨R,eR⟩:∃R:Ey,R=(U1++U2)++((V1++V2)++(Y1++N)):=⟨_,rfl⟩
 have hL:Mem wB w17 (Y2++R):=cB.perm hL (by
  rw[eR,Ag Y1 Y2 N];refine List.Perm.trans (BM _ (BM _ (CG _ _ _))) ?_;refine List.Perm.trans (BM _ (CG _ _ _)) ?_;exact CG _ _ _)
 have hR1m:∀x∈Y1,x∈R:=fun x hx=>by rw[eR];simp[hx]
 have hz1:∀x∈S1,x.zs.length<=60:=fun x hx=>hE60 (snP x) (by rw[<-hS1E];exact Cp hx)
 have hcap1:=hR1.capd;have hC:∀w',(∀x∈R,w'.heap[x.1]?=some x.2)->∀i<S1.length,∃g,A1=some ⟨g,0,none⟩/\∀c,(S1.map snC)[i]?=some c->CellsAt w' g (0+i*17) c:=fun w' hh i hi=>by
  obtain⟨A,c,e,h1,h2⟩:=hcap1
  injection e with e1 _ e2
  subst e1 e2;obtain⟨g,rfl⟩:=h2.resolve_left Oo;refine⟨g,rfl,fun c hc=>?_⟩;rw[Au]at hc;cases hs:S1[i]? with
  | none=>rw[hs]at hc;cases hc
  | some s=>
  rw[hs]at hc;cases hc;exact V.RowX.cells (enc:=snC) (sz:=17) q2c hR1 (fun x hx=>hh x (hR1m x hx)) i s hs
 have hRh:∀{X w'},Mem wB w' (X++R)->∀x∈R,w'.heap[x.1]?=some x.2:=fun h x hx=>h.get (Ai _ hx)
 have ti:tsz E4 3=1:=by kernel_rfl
 refine qiq (fun s:Nat×List SnE×Ey=>[(5,pp mb),(8,.slice A4 es.length c4),(11,pp ob),(12,.func (.func 29) #[] #[pp b1,pp b2]),(13,.slice A1 S1.length c1'),(14,.slice A2 S2.length c2'),(15,.slice A3 k3 c3'),(16,ii s.1)])
  (fun s w'=>s.1<=S1.length/\s.2.1.map snC=S1.map snC/\(∀x∈s.2.1,x.zs.length<=60)/\(∀j x,j<s.1->s.2.1[j]?=some x->∀z∈x.zs,z=-9)/\NsX s.2.1 s.2.2/\Mem wB w' (s.2.2++R)) (fun s=>S1.length-s.1) (0,S1,Y2)
  ⟨rfl,rfl,rfl,rfl,rfl,rfl,rfl,rfl,trivial⟩ ⟨Am _,rfl,hz1,fun _ _ hj=>absurd hj (BZ _),hN1,hL⟩ ?_
 clear hL;rintro⟨i,Sa,Ya⟩ w18 ρ1 ⟨hi,hSa,hz,h9,hNa,hL⟩;dsimp only at hi hSa hz h9 hNa hL|-;have hSl:Sa.length=S1.length:=by
  have h:=Af List.length hSa
  rwa[AI,AI]at h
 (conv=>whnf);refine zC (fun _=>zw ?_) (fun _=>zw ?_)
 case' refine_1=>
  have hil:i<S1.length:=by omega
  obtain⟨s,hs⟩:∃s,Sa[i]?=some s:=⟨_,zge Oo⟩
  have hsn:=hz s (zmg hs);obtain⟨XA,XY,XB,eYa,hRs,hnew⟩:=hNa.at_ hs;obtain⟨As,cs,es_⟩:=hRs.slice;rw[es_]at hRs;subst eYa;have hsc:(S1.map snC)[i]?=some (snC s):=by rw[<-hSa,Au,hs];rfl
  refine qiq (fun t:Nat×List Int×Ey=>[(5,pp mb),(8,.slice A4 es.length c4),(11,pp ob),(12,.func (.func 29) #[] #[pp b1,pp b2]),(13,.slice A1 S1.length c1'),(14,.slice A2 S2.length c2'),(15,.slice A3 k3 c3'),(16,ii i),(17,ii t.1)])
   (fun t w'=>t.1<=s.zs.length/\t.2.1.length=s.zs.length/\(∀j z,j<t.1->t.2.1[j]?=some z->z=-9)/\RowX 3 1 (.slice As s.zs.length cs) s.zs.length (zsV t.2.1) t.2.2/\Mem wB w' ((XA++t.2.2++XB)++R)) (fun t=>s.zs.length-t.1) (0,s.zs,XY)
   ⟨rfl,rfl,rfl,rfl,rfl,rfl,rfl,rfl,rfl,trivial⟩ ⟨Am _,rfl,fun _ _ hj=>absurd hj (BZ _),hRs,hL⟩ ?_
  clear hL;rintro⟨k,zs,Y⟩ w19 ρ2 ⟨hk,hzl,hk9,hRk,hL⟩;dsimp only at hk hzl hk9 hRk hL|-;obtain⟨g1,eg1,hCi⟩:=hC w19 (hRh hL) i hil;have hcv:w19.cell? ⟨g1,0+i*17+16,none⟩=some (.slice As s.zs.length cs):=by
   rw[<-es_];exact q13 (hCi _ hsc)
  (conv=>whnf);refine⟨⟨g1,0,i,eg1,by omega,by omega,?_⟩⟩;rw[htz];(conv=>whnf);refine LoadV.of hcv (zw ?_);refine zC (fun _=>zu ?_) (fun _=>zu ?_)
  case' refine_1=>
   have hks:k<s.zs.length:=by omega
   refine⟨⟨g1,0,i,eg1,by omega,by omega,?_⟩⟩;rw[htz];(conv=>whnf);refine LoadV.of hcv (zw ?_);obtain⟨gs,cur,eAs,eY,hkc,_,hput⟩:=V.RowX.put hRk hks;refine⟨⟨gs,0,k,eAs,by omega,by omega,?_⟩⟩;rw[ti];(conv=>whnf);subst eY;have hL:Mem wB w19 (XA++(gs,.cells cur 3)::(XB++R)):=by simpa using hL
   refine StoreV.carr cB hL Oo rfl ?_;clear hL;intro w20 hL;rw[AC,Be]at hL;have hL:Mem wB w20 (XA++(gs,.cells (cur.setIfInBounds k (ii (-9))) 3)::(XB++R)):=hL;refine zu ?_;refine⟨rfl,(k+1,zs.set k (-9),[(gs,.cells (cur.setIfInBounds k (ii (-9))) 3)]),⟨rfl,rfl,rfl,rfl,rfl,rfl,rfl,rfl,rfl,trivial⟩,⟨by dsimp only;omega,by dsimp only;rw[C9];exact hzl,?_,?_,?_⟩,by dsimp only;omega⟩
   ·intro j z hj hjz;dsimp only at hj hjz;rw[BK]at hjz
    split at hjz
    ·split at hjz
     ·exact(Bs hjz).symm
     ·cases hjz
    ·exact hk9 j z Oo hjz
   ·dsimp only;rw[qabu];exact hput _
   ·dsimp only
    simpa using hL
  case' refine_2=>
   obtain rfl:k=s.zs.length:=by omega
   have hzs9:∀z∈zs,z=-9:=fun z hz=>by
    obtain⟨j,hj⟩:=Bg.1 hz;exact hk9 j z (by have:=(Ae.1 hj).1;omega) hj
   refine⟨rfl,(i+1,Sa.set i ⟨s.q,zs,s.v⟩,XA++Y++XB),⟨rfl,rfl,rfl,rfl,rfl,rfl,rfl,rfl,trivial⟩,⟨by dsimp only;omega,?_,?_,?_,hnew ⟨s.q,zs,s.v⟩ Y (by dsimp only;rw[es_,hzl];exact hRk),hL⟩,by dsimp only;omega⟩
   ·dsimp only;rw[q5u (f:=snC) (s':=⟨s.q,zs,s.v⟩) hs rfl];exact hSa
   ·intro x hx
    rcases CO hx with hx|rfl
    ·exact hz x hx
    ·dsimp only;omega
   ·intro j x hj hx;dsimp only at hj hx;rw[BK]at hx
    split at hx
    ·split at hx
     ·rw[<-Bs hx];exact hzs9
     ·cases hx
    ·exact h9 j x Oo hx
 obtain rfl:i=S1.length:=by omega
 have h9:∀x∈Sa,∀z∈x.zs,z=-9:=fun x hx=>by
  obtain⟨j,hj⟩:=Bg.1 hx;exact h9 j x (by have:=(Ae.1 hj).1;omega) hj
 clear hN1 hi;refine qiq (fun s:Nat×Ey=>[(5,pp mb),(8,.slice A4 es.length c4),(11,pp ob),(12,.func (.func 29) #[] #[pp b1,pp b2]),(13,.slice A1 S1.length c1'),(14,.slice A2 S2.length c2'),(15,.slice A3 k3 c3'),(18,ii s.1)])
  (fun s w'=>s.1<=S1.length/\NsX Sa s.2/\Mem wB w' (s.2++R)) (fun s=>S1.length-s.1) (0,Ya)
  ⟨rfl,rfl,rfl,rfl,rfl,rfl,rfl,rfl,trivial⟩ ⟨Am _,hNa,hL⟩ ?_
 clear hL hNa Ya;rintro⟨i,Ya⟩ w21 ρ3 ⟨hi,hNa,hL⟩;dsimp only at hi hNa hL|-;(conv=>whnf);refine zC (fun _=>zw ?_) (fun _=>zw ?_)
 case' refine_1=>
  have hil:i<S1.length:=by omega
  obtain⟨s,hs⟩:∃s,Sa[i]?=some s:=⟨_,zge Oo⟩
  have hsn:=hz s (zmg hs);obtain⟨XA,XY,XB,eYa,hRs,hnew⟩:=hNa.at_ hs;obtain⟨As,cs,es_⟩:=hRs.slice;subst eYa;have hsc:(S1.map snC)[i]?=some (snC s):=by rw[<-hSa,Au,hs];rfl
  obtain⟨g1,eg1,hCi⟩:=hC w21 (hRh hL) i hil;have hcv:w21.cell? ⟨g1,0+i*17+16,none⟩=some (.slice As s.zs.length cs):=by
   rw[<-es_];exact q13 (hCi _ hsc)
  refine⟨⟨g1,0,i,eg1,by omega,by omega,?_⟩⟩;rw[htz];(conv=>whnf);refine LoadV.of hcv (zw ?_);have hsh:=ShX.start hRs;rw[es_]at hsh;have hL:Mem wB w21 ([]++(XY++(XA++(XB++R)))):=cB.perm hL (by
   rw[Br,Ag,Ag];exact CG _ _ _)
  refine qiq (fun t:Nat×Value×Ey×Ey=>[(5,pp mb),(8,.slice A4 es.length c4),(11,pp ob),(12,.func (.func 29) #[] #[pp b1,pp b2]),(13,.slice A1 S1.length c1'),(14,.slice A2 S2.length c2'),(15,.slice A3 k3 c3'),(18,ii i),(19,t.2.1),(20,ii t.1)])
   (fun t w'=>t.1<=20/\ShX (.slice As s.zs.length cs) s.zs t.2.2.1 t.2.1 (s.zs.length+t.1) t.2.2.2/\Mem wB w' (t.2.2.2++(t.2.2.1++(XA++(XB++R))))) (fun t=>20-t.1) (0,.slice As s.zs.length cs,XY,[])
   ⟨rfl,rfl,rfl,rfl,rfl,rfl,rfl,rfl,rfl,rfl,trivial⟩ ⟨Am _,hsh,hL⟩ ?_
  clear hL hsh;rintro⟨k,l,Y,Z⟩ w22 ρ4 ⟨hk,hsh,hL⟩;dsimp only at hk hsh hL|-;obtain⟨Al,cl,el⟩:=hsh.slice;subst el;(conv=>whnf);refine zC (fun _=>zu ?_) (fun _=>zu ?_)
  case' refine_1=>
   refine NewV.carr cB hL ?_;clear hL;intro nb w23 hL;have hL:Mem wB w23 (Z++(Y++((nb,.cells #[ii (-8)] 3)::(XA++(XB++R))))):=cB.perm hL (by
    rw[<-Ag Z,<-Ag Z];exact BL.symm)
   (conv=>whnf);refine AppV.shx cB hsh hL (z:=-8) (by rw[qa (hL.get (b:=nb) (o:=.cells #[ii (-8)] 3) Js)];rfl) Oo ?_;clear hL hsh;intro A' c' Y' Z' w24 hsh hL;have hL:Mem wB w24 (Z'++(Y'++(XA++(XB++R)))):=by
    rw[<-Ag]at hL|-;exact cB.dropM hL
   refine zu ?_;exact⟨rfl,(k+1,_,Y',Z'),⟨rfl,rfl,rfl,rfl,rfl,rfl,rfl,rfl,rfl,rfl,trivial⟩,⟨by dsimp only;omega,hsh,hL⟩,by dsimp only;omega⟩
  case' refine_2=>
   have hsr:=hsh.row;have hL:Mem wB w22 ((XA++Y++XB)++R):=cB.perm (cB.dropL hL) (by
    rw[Ag,Ag];exact CG _ _ _)
   exact⟨rfl,(i+1,XA++Y++XB),⟨rfl,rfl,rfl,rfl,rfl,rfl,rfl,rfl,trivial⟩,⟨by dsimp only;omega,by
    have h:=hnew s Y (by rw[es_];exact hsr)
    rwa[qvy hs]at h,hL⟩,by dsimp only;omega⟩
 obtain rfl:i=S1.length:=by omega
 clear hi;refine qiq (fun i:Nat=>[(5,pp mb),(8,.slice A4 es.length c4),(11,pp ob),(12,.func (.func 29) #[] #[pp b1,pp b2]),(13,.slice A1 S1.length c1'),(14,.slice A2 S2.length c2'),(15,.slice A3 k3 c3'),(21,ii i)]) (fun i w'=>i<=S1.length/\Mem wB w' (Ya++R)) (fun i=>S1.length-i) 0
  ⟨rfl,rfl,rfl,rfl,rfl,rfl,rfl,rfl,trivial⟩ ⟨Am _,hL⟩ ?_
 clear hL;rintro i w25 ρ5 ⟨hi,hL⟩;(conv=>whnf);refine zC (fun _=>zw ?_) (fun _=>zw ?_)
 case' refine_1=>
  have hil:i<S1.length:=by omega
  obtain⟨s,hs⟩:∃s,Sa[i]?=some s:=⟨_,zge Oo⟩
  have hsn:=hz s (zmg hs);have hs9:=h9 s (zmg hs);obtain⟨XA,XY,XB,eYa,hRs,hnew⟩:=hNa.at_ hs;obtain⟨As,cs,es_⟩:=hRs.slice;rw[es_]at hRs;have hsc:(S1.map snC)[i]?=some (snC s):=by rw[<-hSa,Au,hs];rfl
  refine qiq (fun k:Nat=>[(5,pp mb),(8,.slice A4 es.length c4),(11,pp ob),(12,.func (.func 29) #[] #[pp b1,pp b2]),(13,.slice A1 S1.length c1'),(14,.slice A2 S2.length c2'),(15,.slice A3 k3 c3'),(21,ii i),(22,ii k)]) (fun k w'=>k<=s.zs.length/\Mem wB w' (Ya++R)) (fun k=>s.zs.length-k) 0
   ⟨rfl,rfl,rfl,rfl,rfl,rfl,rfl,rfl,rfl,trivial⟩ ⟨Am _,hL⟩ ?_
  clear hL;rintro k w26 ρ6 ⟨hk,hL⟩;obtain⟨g1,eg1,hCi⟩:=hC w26 (hRh hL) i hil;have hcv:w26.cell? ⟨g1,0+i*17+16,none⟩=some (.slice As s.zs.length cs):=by
   rw[<-es_];exact q13 (hCi _ hsc)
  (conv=>whnf);refine⟨⟨g1,0,i,eg1,by omega,by omega,?_⟩⟩;rw[htz];(conv=>whnf);refine LoadV.of hcv (zw ?_);refine zC (fun _=>zu ?_) (fun _=>zu ?_)
  case' refine_1=>
   have hks:k<s.zs.length:=by omega
   refine⟨⟨g1,0,i,eg1,by omega,by omega,?_⟩⟩;rw[htz];(conv=>whnf);refine LoadV.of hcv (zw ?_);obtain⟨gs,cur,eAs,eY,hkc,hkv,_⟩:=V.RowX.put hRs hks;have hz9:cur[k]?=some (ii (-9)):=by
    rw[hkv,zsV,Au,zge hks,BG,hs9 _ (AT _)]
   refine⟨⟨gs,0,k,eAs,by omega,by omega,?_⟩⟩;rw[ti];(conv=>whnf);refine LoadV.own (hL.get (b:=gs) (o:=.cells cur 3) (by rw[eYa,eY];simp)) (by rw[AC,Be];exact hz9) (zu ?_);exact⟨rfl,k+1,⟨rfl,rfl,rfl,rfl,rfl,rfl,rfl,rfl,rfl,trivial⟩,⟨by omega,hL⟩,by omega⟩
  case' refine_2=>
   exact⟨rfl,i+1,⟨rfl,rfl,rfl,rfl,rfl,rfl,rfl,rfl,trivial⟩,⟨by omega,hL⟩,by omega⟩
 clear hi;have hrB:wB.ownsRow 0 41 1 (.slice A4 es.length c4) es.length ((es.map ptE).map encV).flatten:=by rw[qe3];exact hrowB
 obtain⟨hS4,_⟩:=qb7 (enc:=encV) (fun _=>rfl) hrB hptl;have hob:(ob,Obj.cells #[.slice (some ⟨gq,0,none⟩) (es.length+1) cq] 28)∈N:=by rw[eN];simp
 have hNR:∀x∈N,x∈R:=fun x hx=>by rw[eR];simp[hx]
 have tx:tsz E4 41=1:=by kernel_rfl
 refine qiq (fun i:Nat=>[(5,pp mb),(8,.slice A4 es.length c4),(11,pp ob),(12,.func (.func 29) #[] #[pp b1,pp b2]),(13,.slice A1 S1.length c1'),(14,.slice A2 S2.length c2'),(15,.slice A3 k3 c3'),(23,ii i)]) (fun i w'=>i<=es.length/\Mem wB w' (Ya++R)) (fun i=>es.length-i) 0
  ⟨rfl,rfl,rfl,rfl,rfl,rfl,rfl,rfl,trivial⟩ ⟨Am _,hL⟩ ?_
 clear hL;rintro i w27 ρ7 ⟨hi,hL⟩;(conv=>whnf);refine zC (fun _=>zw ?_) (fun _=>zw ?_)
 case' refine_1=>
  have hil:i<es.length:=by omega
  obtain⟨e,hei⟩:∃e,es[i]?=some e:=⟨_,zge hil⟩
  have hxx:∀wd,Ext w27.drew wd->Ext w27 wd:=fun wd hd=>(Ext.refl w27).drew.trans hd
  have hep:(es.map ptE)[i]?=some (ptE e):=by rw[Au,hei];rfl
  obtain⟨g4,o4,eA4,hat4⟩:=hS4.at_ (by intro h;rw[h]at hep;cases hep);have hc4:=hat4 i _ hep;have hcq:=V.RowX.cells (enc:=encV) (sz:=1) (fun _=>rfl) hq2 (fun x hx=>hL.get (b:=x.1) (o:=x.2) (Ai _ (hNR x (by rw[eN];simp[hx])))) i (ptE e) (by rw[AR (Ae.1 hep).1];exact hep);have hgo:=hL.get (Ai Ya (hNR _ hob));obtain⟨ax,eax⟩:=qaap e;rw[eax]at hc4 hcq;have hx27:=hL.ext;have hcont:∀w',Ext w27 w'->Mem wB w' (Ya++R):=fun w' he=>hL.call he
  subst eA4;refine DrawW.any Jk (.inl rfl) (AnyV.freeW Jk ?_);(conv=>whnf);refine zsd (.slice (some ⟨gq,0,none⟩) (es.length+1) cq) (fun wd hd=>zw ?_) (zw ?_)
  ·refine LoadV.own ((hxx wd hd).get hgo) rfl (zw ?_);exact⟨xr,rfl⟩
  refine zd ?_;refine zsd (.pointer (some ⟨gq,0+i*1,none⟩)) (fun wd hd=>zw ?_) (zw ?_)
  ·refine⟨⟨gq,0,i,rfl,by omega,by omega,?_⟩⟩;rw[tx];(conv=>whnf);exact⟨xr,rfl⟩
  refine zsd (.pointer ax) (fun wd hd=>zw ?_) (zw ?_)
  ·refine LoadV.cell0 (hcq.ext (hxx wd hd)) (zw ?_);exact⟨xr,rfl⟩
  refine zd ?_;refine zd ?_;refine zsd (.pointer (some ⟨g4,o4+i*1,none⟩)) (fun wd hd=>zw ?_) (zw ?_)
  ·refine⟨⟨g4,o4,i,rfl,by omega,by omega,?_⟩⟩;rw[tx];(conv=>whnf);exact⟨xr,rfl⟩
  refine zsd (.pointer ax) (fun wd hd=>zw ?_) (zw ?_)
  ·refine LoadV.cell0 (hc4.ext (hx27.trans (hxx wd hd))) (zw ?_);exact⟨xr,rfl⟩
  apply zsd (.bool false)
  ·intro wd hd
   rcases ax with _|a
   ·(conv=>whnf);exact⟨xr,rfl⟩
   ·(conv=>whnf);refine RunV.neqSame a Tryz.underlying41 (j:=_) (Bp Jk).symm (zw ?_);exact⟨xr,rfl⟩
  (conv=>whnf);intro w28 he28;refine zu ?_;exact⟨rfl,i+1,⟨rfl,rfl,rfl,rfl,rfl,rfl,rfl,rfl,trivial⟩,⟨by omega,hcont _ (hxx _ he28)⟩,by omega⟩
 obtain rfl:i=es.length:=by omega
 clear hi;refine NewV.carr cB hL fun cb w28 hL=>zw ?_;obtain⟨curq,eYq,hcq⟩:∃curq,Yq=[(gq,Obj.cells curq 41)]/\curq.size=cq:=by
  obtain⟨_,⟨e,_⟩|⟨g,cap,cur,e1,eY,_,_,h6,_⟩⟩:=id hRq
  ·injection e with e1
   cases e1
  ·injection e1 with e1 _ e2
   injection e1 with e1
   injection e1 with e1
   subst e1 e2;exact⟨cur,eY,by rw[h6,Be]⟩
 obtain⟨R2,eR2⟩:∃R2:Ey,R2=Ya++((U1++U2)++((V1++V2)++(Y1++[(b2,.cells (qd p).toArray 26),(b1,.cells #[.slice (some ⟨gq,0,none⟩) es.length cq] 28),(ob,.cells #[.slice (some ⟨gq,0,none⟩) (es.length+1) cq] 28)]))):=⟨_,rfl⟩
 have hV2:∀x∈V1++V2,x∈R2:=fun x hx=>by rw[eR2];exact Ai _ (Ai _ (AQ _ hx))
 have hU2:∀x∈U1++U2,x∈R2:=fun x hx=>by rw[eR2];exact Ai _ (AQ _ hx)
 have hb2R:(b2,Obj.cells (qd p).toArray 26)∈R2:=by rw[eR2];simp
 have hb1R:(b1,Obj.cells #[.slice (some ⟨gq,0,none⟩) es.length cq] 28)∈R2:=by rw[eR2];simp
 have hobR:(ob,Obj.cells #[.slice (some ⟨gq,0,none⟩) (es.length+1) cq] 28)∈R2:=by rw[eR2];simp
 obtain⟨EE,eEE⟩:∃EE,EE=eacE es p:=⟨_,rfl⟩
 have hms:=qqp es (fun e he=>(hel e he).2) Oo p hp b1 b2;rw[<-eEE]at hms hEl eE;have cS:=FiJ.carr wB R2 cb gq cq Yq EE mx.toNat;have cX:=FiX.carr wB R2 cb gq EE;have hin:∀k X' w',FiJ wB R2 cb gq cq Yq EE mx.toNat k X' w'->EaΦ es p b2 w':=fun k X' w' ⟨s,_,hh⟩=>hΦa w' hh.ext (hh.get (b:=b2) (by simp[hb2R]))
 have hin0:∀X' w',FiJ wB R2 cb gq cq Yq EE mx.toNat 0 X' w'->EaΦ0 es b1 w':=fun X' w' ⟨s,hs,hh⟩=>hΦ0 w' (hh.get (b:=b1) (by simp[hb1R])) (fun x hx=>hh.get (by
  rw[<-hs.2.2.2.2.1 rfl]at hx;rw[Ak.1 hx];simp))
 have h0:FiJ wB R2 cb gq cq Yq EE mx.toNat 0 [] w28:=⟨(.slice none 0 0,[],[],curq),⟨⟨[],[],rfl,RowX.nil _ _,rfl⟩,rfl,rfl,Am _,fun _=>eYq.symm,hcq⟩,cB.perm hL (by
  have e:Ya++R=R2++[(gq,Obj.cells curq 41)]:=by rw[eR,eN,eYq,eR2];simp
  rw[e];exact List.Perm.cons _ (AH (l₂:=[(gq,Obj.cells curq 41)])))⟩
 clear hL;refine q1o (m:=EE.length) (lb:=[pp b1,pp b2]) rfl Jk Od
  (FiJ wB R2 cb gq cq Yq EE mx.toNat) (fun k r X' w'=>∃Y,EaR EE k r Y/\FiJ wB R2 cb gq cq Yq EE mx.toNat k (Y++X') w') (fun c k X' w'=>(c=.exit 14/\k=mx.toNat)/\FiX wB R2 cb gq EE k X' w')
  (fun L0 Lx l w hh hy=>hms.toX (I:=fun k X w=>FiJ wB R2 cb gq cq Yq EE mx.toNat k (X++L0) w) (Ix:=fun k X w=>∃c,(c=.exit 14/\k=mx.toNat)/\FiX wB R2 cb gq EE k (X++Lx c) w) (fun k=>(cS k).tail L0) (fun k=>Carr.any fun c=>Carr.and ((cX k).tail (Lx c))) (fun k X' w' hh=>hin k _ w' hh) (fun w' hh=>hin0 _ w' hh) l w hh
   (fun k x X w hk ⟨Y,hR,hI⟩=>hy k x X w hk ⟨Y,hR,by rw[<-Ag];exact hI⟩))
  (fun k r X' w' ⟨Y,⟨q,ns,v,_,hr,_⟩,_⟩=>by rw[hr];rfl) cS (fun k r=>⟨fun⟨Y,h1,h2⟩ he=>⟨Y,h1,(cS k).ext h2 he⟩,fun⟨Y,h1,h2⟩ hx=>(cS k).get h2 (Ai _ hx),fun o ⟨Y,h1,h2⟩=>⟨Y,h1,((cS k).head Y).new o h2⟩,fun o' ⟨Y,h1,h2⟩=>⟨Y,h1,((cS k).head Y).set o' h2⟩,fun⟨Y,h1,h2⟩=>⟨Y,h1,((cS k).head Y).drop h2⟩,fun⟨Y,h1,h2⟩ hp=>⟨Y,h1,((cS k).head Y).perm h2 hp⟩⟩)
  (fun c k=>Carr.and (cX k)) h0 ?_ ?_ ?_
 case refine_1=>
  rintro l D ob1 ob' k r X' w29 hk ⟨Yn,⟨q,ns,vn,hEk,rfl,hRn⟩,hB⟩;obtain⟨An,cn,en⟩:=hRn.slice;subst en;(conv=>whnf);refine NewV.carr (cS k) hB fun qb w30 hB=>zw ?_;refine StoreA.carr (vs:=qd q) (cS k) (A:=[]) hB rfl (qv q) fun w31 hB=>zw ?_;refine⟨rfl,(qb,.cells (qd q).toArray 26)::(D,.deferred (some []))::X',⟨Yn,⟨q,ns,_,hEk,rfl,hRn⟩,(cS k).perm hB (BL.symm.trans (BM _ (List.Perm.swap _ _ _)))⟩,fun w32 hB2=>?_⟩;clear hB hRn;obtain⟨Yn,⟨q',ns',v',hEk',hr,hRn⟩,⟨v,S,Y,cur⟩,⟨hSn,hSp,hSl,hkm,_,hcur⟩,hB⟩:=hB2;rw[hEk]at hEk';cases hEk'
  injection hr with _ hr
  injection hr with hr _
  subst hr;dsimp only at hSn hSp hSl hcur hB;obtain⟨T1,T2,rfl,hR,hNt⟩:=id hSn;obtain⟨Av,cv,ev⟩:=hR.slice;subst ev;obtain⟨Z,eZ⟩:∃Z:Ey,Z=(l,ob')::(qb,.cells (qd q).toArray 26)::(D,.deferred (some []))::X':=⟨_,rfl⟩
  rw[<-eZ]at hB;obtain⟨PL,ePL⟩:∃PL:Ey,PL=Yn++Z++(T1++T2++[(cb,Obj.cells #[.slice Av S.length cv] 34)]):=⟨_,rfl⟩
  have hB:Mem wB w32 (PL++(gq,Obj.cells cur 41)::R2):=by rw[ePL];simpa using hB
  (conv=>whnf);refine qiq (fun t:Nat×E6=>[(5,pp mb),(11,pp ob),(24,pp cb),(25,pp qb),(26,.slice An ns.length cn),(27,ii t.1)])
   (fun t w'=>t.1<=es.length+1/\t.2.size=cq/\Mem wB w' (PL++(gq,Obj.cells t.2 41)::R2)) (fun t=>es.length+1-t.1) (0,cur)
   ⟨rfl,rfl,rfl,rfl,rfl,rfl,trivial⟩ ⟨Am _,hcur,hB⟩ ?_
  clear hB hcur;rintro⟨i,cur⟩ w33 ρ8 ⟨hi,hcur,hB⟩;dsimp only at hi hcur hB|-;have hgo3:=hB.get (Ai PL (zmc hobR));(conv=>whnf);refine LoadV.own hgo3 rfl (zw ?_);refine zC (fun _=>zw ?_) (fun _=>zw ?_)
  case' refine_1=>
   refine LoadV.own hgo3 rfl (zw ?_);refine⟨⟨gq,0,i,rfl,by omega,by omega,?_⟩⟩;rw[tx];(conv=>whnf);refine StoreV.carr cB hB Oo rfl ?_;clear hB;intro w34 hB;rw[AC,Be]at hB;have hB:Mem wB w34 (PL++(gq,.cells (cur.setIfInBounds i (.pointer none)) 41)::R2):=hB;refine zu ?_;exact⟨rfl,(i+1,cur.setIfInBounds i (.pointer none)),⟨rfl,rfl,rfl,rfl,rfl,rfl,trivial⟩,⟨by dsimp only;omega,by dsimp only;rw[Array.size_setIfInBounds];exact hcur,hB⟩,by dsimp only;omega⟩
  obtain rfl:i=es.length+1:=by omega
  clear hi hgo3;have hB:Mem wB w33 (Yn++Z++(T1++T2++(cb,Obj.cells #[.slice Av S.length cv] 34)::(gq,Obj.cells cur 41)::R2)):=by rw[ePL]at hB;simpa using hB
  clear ePL;have hcb:(cb,Obj.cells #[.slice Av S.length cv] 34)∈Yn++Z++(T1++T2++(cb,Obj.cells #[.slice Av S.length cv] 34)::(gq,Obj.cells cur 41)::R2):=by simp
  have hqb:(qb,Obj.cells (qd q).toArray 26)∈Yn++Z++(T1++T2++(cb,Obj.cells #[.slice Av S.length cv] 34)::(gq,Obj.cells cur 41)::R2):=by rw[eZ];simp
  refine LoadV.own (hB.get hcb) rfl (zw ?_);refine LoadV.own (hB.ext.get hgm) rfl (zw ?_);refine zC (fun _=>zw ?_) (fun _=>zw ?_)
  case' refine_1=>
   refine⟨⟨rfl,by omega⟩,(.slice Av S.length cv,S,T1++T2,cur),⟨hSn,hSp⟩,?_⟩;rw[Ag]at hB;replace hB:=cB.dropL hB;rw[eZ]at hB;exact cB.dropM (A:=[(l,ob')]) hB
  refine LoadV.own (hB.get hcb) rfl (zw ?_);refine LoadA.own (hB.get hqb) rfl (zw ?_);refine NewV.carr cB hB ?_;clear hB hcb hqb;intro nb w35 hB;have hB:Mem wB w35 (T1++((nb,.cells (seC q (.slice An ns.length cn)).toArray 40)::((Yn++Z)++(T2++(cb,Obj.cells #[.slice Av S.length cv] 34)::(gq,Obj.cells cur 41)::R2)))):=cB.perm hB (by
   refine List.Perm.trans (List.Perm.cons _ ?_) BL.symm;rw[Ag T1,<-Ag (Yn++Z),<-Ag T1];exact AH.append_right _)
  (conv=>whnf);refine AppV.carr (m:=1) (news:=seC q (.slice An ns.length cn)) cB hB hR snSl snI snZ Jk Jk Od rfl (fun _=>⟨nb,0,rfl,fun j u hu=>by rw[qa (hB.get (Ai _ mh)),AC,AB];exact hu⟩) (fun u hu=>by
   rcases Bj.1 hu with hu|hu
   ·exact qv q u hu
   ·rw[Ak.1 hu];rfl) (by rw[show((E4.info? 40).get Jk).bytes=248 from by kernel_rfl];omega) Oo ?_
  clear hB;intro A' cc' T1' w36 hR' hB;replace hB:=cB.dropM hB;have hB:Mem wB w36 ((T1'++((Yn++Z)++T2))++(cb,Obj.cells #[.slice Av S.length cv] 34)::((gq,Obj.cells cur 41)::R2)):=by simpa using hB
  (conv=>whnf);refine StoreV.carr cB hB (by show 0<1;omega) rfl ?_;clear hB;intro w37 hB;have hB:Mem wB w37 ((T1'++((Yn++Z)++T2))++(cb,.cells #[.slice A' (S.length+1) cc'] 34)::((gq,Obj.cells cur 41)::R2)):=hB;have pm:List.Perm (T1'++((Yn++Z)++T2)) (Z++(T1'++(T2++Yn))):=by
   refine AH.trans ?_;rw[Ag,Ag];refine AH.trans ?_;rw[Ag];refine BM _ ?_;rw[<-Ag T1'];exact AH.append_right _
  replace hB:=cB.perm hB (pm.append_right _);rw[eZ,Ag]at hB;replace hB:=cB.dropM (A:=[(l,ob')]) hB;have hlen:(ns.map fun n:Nat=>(n:Int)).length=ns.length:=AI ..;have hN':=NsX.snoc (s:=⟨q,ns.map fun n:Nat=>(n:Int),.slice An ns.length cn⟩) (by rw[hlen,<-q7e];exact hRn) hNt;have hSl1:(S++[(⟨q,ns.map fun n:Nat=>(n:Int),.slice An ns.length cn⟩:SnE)]).length=S.length+1:=by rw[zla];rfl
  (conv=>whnf);refine⟨(.slice A' (S.length+1) cc',S++[⟨q,ns.map fun n:Nat=>(n:Int),.slice An ns.length cn⟩],T1'++(T2++Yn),cur),⟨⟨T1',T2++Yn,rfl,?_,hN'⟩,?_,by dsimp only;omega,by omega,fun h=>by omega,hcur⟩,hB⟩
  ·dsimp only;rw[hSl1,AG,Db]
   simpa[snC]using hR'
  ·dsimp only;rw[BU,hEk,AG,AG,hSp];rfl
 case refine_2=>
  rintro D w40 hh;obtain⟨⟨v,S,Y,cur⟩,⟨hSn,hSp,hSl,hkm,_,_⟩,hB⟩:=hh;dsimp only at hSn hSp hSl hB;have hSE:S.map snP=E:=by rw[hSp,eE];congr 1;rw[Bq,AE hkm]
  obtain⟨T1,T2,rfl,hR,hNt⟩:=id hSn;obtain⟨Av,cv,ev⟩:=hR.slice;subst ev;have hm2:∀{w'},Mem wB w' ([(D,Obj.deferred (some []))]++((T1++T2)++(cb,Obj.cells #[.slice Av S.length cv] 34)::(gq,Obj.cells cur 41)::R2))->∀x∈R2,w'.heap[x.1]?=some x.2:=fun h x hx=>h.get (by simp[hx])
  (conv=>whnf);refine zcv (qbi E _ _ w40 (hAt2 w40 (fun x hx=>hm2 hB x (hV2 x hx))) (hAt3 w40 (fun x hx=>hm2 hB x (hU2 x hx))) Oo (fun x hx=>by have:=hE60 x hx;omega)) ?_;rintro r w41 ⟨rfl,he41⟩;replace hB:=cB.ext hB he41;refine zu ?_;refine LoadV.own (hB.get (b:=cb) (o:=.cells #[.slice Av S.length cv] 34) Js) rfl (zu ?_);refine zcv (qbi E _ _ w41 (by rw[<-hSE];exact hSn.at_ (fun x hx=>hB.get (Ai _ (AQ _ hx)))) (hAt3 w41 (fun x hx=>hm2 hB x (hU2 x hx))) Oo (fun x hx=>by have:=hE60 x hx;omega)) ?_;rintro r w42 ⟨rfl,he42⟩;replace hB:=cB.ext hB he42;refine zu ?_;refine LeaveV.marks (J:=fun X' w'=>Mem wB w' (X'++((T1++T2)++(cb,Obj.cells #[.slice Av S.length cv] 34)::(gq,Obj.cells cur 41)::R2))) (cB.tail _) ?_ (D:=D) (Ds:=[]) hB;intro w' h';(conv=>whnf);exact⟨rfl,hmB.ext.trans h'.ext⟩
 case refine_3=>
  rintro D c k w40 hk ⟨⟨rfl,hkm2⟩,hh⟩;obtain⟨⟨v,S,Y,cur⟩,⟨hSn,hSp⟩,hB⟩:=hh;dsimp only at hSn hSp hB;have hSE:S.map snP=E:=by rw[hSp,eE,hkm2]
  obtain⟨T1,T2,rfl,hR,hNt⟩:=id hSn;obtain⟨Av,cv,ev⟩:=hR.slice;subst ev;have hm2:∀{w'},Mem wB w' ([(D,Obj.deferred (some []))]++((T1++T2)++(cb,Obj.cells #[.slice Av S.length cv] 34)::(gq,Obj.cells cur 41)::R2))->∀x∈R2,w'.heap[x.1]?=some x.2:=fun h x hx=>h.get (by simp[hx])
  (conv=>whnf);refine zcv (qbi E _ _ w40 (hAt2 w40 (fun x hx=>hm2 hB x (hV2 x hx))) (hAt3 w40 (fun x hx=>hm2 hB x (hU2 x hx))) Oo (fun x hx=>by have:=hE60 x hx;omega)) ?_;rintro r w41 ⟨rfl,he41⟩;replace hB:=cB.ext hB he41;refine zu ?_;refine LoadV.own (hB.get (b:=cb) (o:=.cells #[.slice Av S.length cv] 34) Js) rfl (zu ?_);refine zcv (qbi E _ _ w41 (by rw[<-hSE];exact hSn.at_ (fun x hx=>hB.get (Ai _ (AQ _ hx)))) (hAt3 w41 (fun x hx=>hm2 hB x (hU2 x hx))) Oo (fun x hx=>by have:=hE60 x hx;omega)) ?_;rintro r w42 ⟨rfl,he42⟩;replace hB:=cB.ext hB he42;refine zu ?_;refine LeaveV.marks (J:=fun X' w'=>Mem wB w' (X'++((T1++T2)++(cb,Obj.cells #[.slice Av S.length cv] 34)::(gq,Obj.cells cur 41)::R2))) (cB.tail _) ?_ (D:=D) (Ds:=[]) hB;intro w' h';(conv=>whnf);exact⟨rfl,hmB.ext.trans h'.ext⟩
end Go.Proofs.YtacnkdagblbgfaaGreatDoor
