/- Part 8 of 11. -/
import Derived.Test.YtacnkdagblbgfaaGreatDoorMS7
import Derived.Laws.CopyRow
import Derived.Laws.IdiomCopy
import Derived.Shelf.SlSortCmp.WholeK
import Derived.Test.YtacnkdagblbgfaaGreatDoorProg
import Derived.Shelf.SlSortCmp.NoneTotal
import Derived.Lib.AppendStr
namespace Go.Proofs.YtacnkdagblbgfaaGreatDoor
set_option maxHeartbeats 8000000
open Go.RowKit V
set_option maxHeartbeats 8000000
set_option maxRecDepth 100000
variable {b base c g i j k m nb off pb r tb vb wd:Nat} {w w' w0:Ez} {l:LB} {qs:List Q4} {A:oA} {J:ED->EC} {X Y:ED} {F ps:EF} {xo yo:Operand} {K:E9} {P:E4} {e ty:E6} {s:E0} {u x z:E8} {vs xs:EE} {cs cur:EH} {T:List TM} {Q:Nat->Nat->Nat} {S:List Bool}
theorem qvr(b:Nat)(w:Ez):Gv EG 148 [pp b] w fun r w'=>
  r=.agg #[pp b,.pointer (some ⟨b,4,none⟩),.pointer (some ⟨b,8,none⟩),.pointer (some ⟨b,12,none⟩)]/\Ext w w':=by
 refine gvW Jk Tryz.func148 rfl Tryz.ntmps148 rfl (zw ?_);refine znm (Mem.nil w) fun rb w1 hm=>zw ?_;refine DrawW.tail 13 Jk Jk (.inl rfl) (AnyV.free Jk ?_);(conv=>whnf);(iterate 13 (refine zd ?_));intro w2 he2;have hm:=hm.drew.call he2;(conv=>whnf);refine zS hm 0 fun w3 hm=>zw ?_;refine qh (R:=fun r w'=>r=.agg #[pp b,.pointer (some ⟨b,4,none⟩),.pointer (some ⟨b,8,none⟩),.pointer (some ⟨b,12,none⟩)]/\Ext w w') (zw ?_);refine zl hm 0 ?_;exact⟨rfl,hm.ext⟩
theorem qhs(q:Q4)(hi:i<4){v:E8}(hv:(encT (q.at i))[k]?=some v):(qd q)[4*i+k]?=some v:=by
 have hk:k<4:=(Ae.1 hv).1
 match i,hi,k,hk,hv with
 | 0,_,0,_,hv=>exact hv
 | 0,_,1,_,hv=>exact hv
 | 0,_,2,_,hv=>exact hv
 | 0,_,3,_,hv=>exact hv
 | 1,_,0,_,hv=>exact hv
 | 1,_,1,_,hv=>exact hv
 | 1,_,2,_,hv=>exact hv
 | 1,_,3,_,hv=>exact hv
 | 2,_,0,_,hv=>exact hv
 | 2,_,1,_,hv=>exact hv
 | 2,_,2,_,hv=>exact hv
 | 2,_,3,_,hv=>exact hv
 | 3,_,0,_,hv=>exact hv
 | 3,_,1,_,hv=>exact hv
 | 3,_,2,_,hv=>exact hv
 | 3,_,3,_,hv=>exact hv
theorem qoi(p q:Q4):fitQ p q=true↔∀i,i<4->fitT (p.at i) (q.at i)=true:=by
 constructor
 ·intro h i hi;simp only[fitQ,AJ]at h;obtain⟨⟨⟨h0,h1⟩,h2⟩,h3⟩:=h
  match i,hi with
  | 0,_=>exact h0
  | 1,_=>exact h1
  | 2,_=>exact h2
  | 3,_=>exact h3
 ·intro h;simp only[fitQ,AJ];exact⟨⟨⟨h 0 Od,h 1 Od⟩,h 2 Od⟩,h 3 Od⟩
theorem q3k(p q:Q4)(w:Ez):Gv EG 94 [qk p,qk q] w fun r w'=>r=.bool (fitQ p q)/\Ext w w':=by
 refine ze Tryz.func94 Tryz.ntmps94 ?_;refine znm (Mem.nil w) fun pb w1 hm=>zw ?_;refine znm hm fun qb w2 hm=>zw ?_;refine zcv (qvr qb w2) ?_;rintro r w3 ⟨rfl,he3⟩;have hm:=hm.call he3;(conv=>whnf);refine znm hm fun ab w4 hm=>zw ?_;refine zS hm 0 fun w5 hm=>zw ?_;refine zcv (qvr pb w5) ?_;rintro r w6 ⟨rfl,he6⟩;have hm:=hm.call he6;(conv=>whnf);obtain⟨L,eL⟩:∃L:ED,L=[(ab,.cells #[pp qb,.pointer (some ⟨qb,4,none⟩),.pointer (some ⟨qb,8,none⟩),.pointer (some ⟨qb,12,none⟩)] 246),(qb,.cells (qd q).toArray 26),(pb,.cells (qd p).toArray 26)]:=⟨_,rfl⟩
 have hm:Mem w w6 L:=by rw[eL];exact hm
 refine qj (fun i:Nat=>[(5,pp ab),(9,.agg #[pp pb,.pointer (some ⟨pb,4,none⟩),.pointer (some ⟨pb,8,none⟩),.pointer (some ⟨pb,12,none⟩)]),(10,ii i)])
  (fun i w'=>Mem w w' L/\i<=4/\∀j,j<i->fitT (p.at j) (q.at j)=true) (fun i=>4-i) 0 fq ⟨hm,Am _,fun j hj=>by omega⟩ ?_
 clear hm;rintro i w7 ρ' ⟨hm,hi,hf⟩;rw[eL]at hm;(conv=>whnf);refine zC (fun _=>zu ?_) (fun _=>zu ?_)
 case' refine_2=>
  exact⟨Af Value.bool ((qoi p q).2 fun j hj=>hf j Oo).symm,hm.ext⟩
 have hi4:i<4:=by omega
 have tp:tsz EG 245=1:=by kernel_rfl
 have ptr:∀b:Nat,[pp b,.pointer (some ⟨b,4,none⟩),.pointer (some ⟨b,8,none⟩),.pointer (some ⟨b,12,none⟩)][i]?=some (.pointer (some ⟨b,4*i,none⟩)):=fun b=>by
  match i,hi4 with
  | 0,_=>rfl
  | 1,_=>rfl
  | 2,_=>rfl
  | 3,_=>rfl
 refine⟨⟨.pointer (some ⟨pb,4*i,none⟩),by rw[tp,Bk];exact ptr pb,?_⟩⟩;have hcp:CellsAt w7 pb (4*i) (encT (p.at i)):=fun k v hv=>by
  rw[qa (hm.get (zmc (zmc (Ah.2 rfl)))),Ar];exact qhs p hi4 hv
 have hcq:CellsAt w7 qb (4*i) (encT (q.at i)):=fun k v hv=>by
  rw[qa (hm.get (zmc mh)),Ar];exact qhs q hi4 hv
 have hca:w7.cell? ⟨ab,i,none⟩=some (.pointer (some ⟨qb,4*i,none⟩)):=by
  rw[qa (hm.get mh),Ar];exact ptr qb
 have hkd:w7.cell? ⟨pb,4*i+0,none⟩=some (ii (p.at i).kind):=hcp 0 _ rfl;(conv=>whnf);refine zy ?_;refine zv ?_;refine LoadV.of hkd (zw ?_)
 rcases D8 ((p.at i).kind=4)with h4|h4
 case inl=>
  refine zv ?_;refine⟨i+1,fq,⟨by rw[eL];exact hm.drew,by omega,fun j hj=>?_⟩,by omega⟩
  by_cases e:j=i
  ·subst e;rw[fitT,h4];rfl
  ·exact hf j Oo
 refine zv ?_;refine LoadA.cells (vs:=encT (p.at i)) hcp rfl (zu ?_);refine LoadV.of (v:=.pointer (some ⟨qb,4*i,none⟩)) (by rw[tp,Aw,Bk];exact hca) (zu ?_);refine LoadA.cells (vs:=encT (q.at i)) hcq rfl (zu ?_);refine RunV.eqTerm (a:=p.at i) (b:=q.at i) (.inr rfl) ?_;cases hst:qat (p.at i) (q.at i)
 ·refine zu ?_;refine⟨?_,hm.ext.drew⟩;have e:fitQ p q=false:=Bx.2 fun g=>by
   have:=(qoi p q).1 g i hi4;rw[fitT,hst,AH h4]at this;cases this
  rw[e]
 ·refine zu ?_;refine⟨i+1,fq,⟨by rw[eL];exact hm.drew,by omega,fun j hj=>?_⟩,by omega⟩
  by_cases e:j=i
  ·subst e;rw[fitT,hst,Ew]
  ·exact hf j Oo
def idP(T:List TM)(p:Q4):Nat->Int:=fun k=>idT T (gat p k)
def KnQ(T:List TM)(p:Q4):Prop:=∀k,k<4->KnT T (gat p k)
open Classical in
noncomputable def qr3(T:List TM)(p:Q4):E8:=if KnQ T p then .tuple #[.agg #[ii (idP T p 0),ii (idP T p 1),ii (idP T p 2),ii (idP T p 3)],.bool true]else .tuple #[.agg zq,.bool false]
def idC(F:Nat->Int):EE:=[ii (F 0),ii (F 1),ii (F 2),ii (F 3)]
theorem q01(F:Nat->Int)(hi:i<4)(x:Int):(idC F).toArray.setIfInBounds i (ii x)=(idC fun j=>if j=i then x else F j).toArray:=by
 match i,hi with
 | 0,_=>rfl
 | 1,_=>rfl
 | 2,_=>rfl
 | 3,_=>rfl
theorem q6t(T:List TM)(qs:List Q4)(h:EncOk T qs)(x:Nat)(p:Q4)(hp:qa9 p)(w:Ez)(hX:IdxAt w x (encP T qs))(hM:MaxLenAt w)(hT:CellsAt w 6 0 qbz):
  Gv EG 90 [pp x,qk p] w fun r w'=>r=qr3 T p/\Ext w w':=by
 refine ze Tryz.func90 Tryz.ntmps90 ?_;refine znm (Mem.nil w) fun pb w1 hm=>zw ?_;refine znm hm fun rb w2 hm=>zw ?_;refine znm hm fun ob w3 hm=>zw ?_;have hq4:∀w',Ext w3 w'->∀i,i<4->CellsAt w' pb (4*i) (encT (p.at i)):=fun w' he i hi k v hv=>by
  rw[qa (he.get (hm.get (zmc (zmc (Ah.2 rfl))))),Ar];exact qhs p hi hv
 refine LoadA.cells (vs:=encT p.g) (hq4 w3 xr 3 Od) rfl (zw ?_);refine LoadA.cells (vs:=encT p.s) (hq4 w3 xr 0 Od) rfl (zw ?_);refine LoadA.cells (vs:=encT p.p) (hq4 w3 xr 1 Od) rfl (zw ?_);refine LoadA.cells (vs:=encT p.o) (hq4 w3 xr 2 Od) rfl (zw ?_);refine qj (fun s:Nat×(Nat->Int)=>[(0,pp x),(4,pp rb),(6,pp ob),(19,.agg (encT p.g++encT p.s++encT p.p++encT p.o).toArray),(20,ii s.1)])
  (fun s w'=>s.1<=4/\(∀j,j<s.1->s.2 j=idP T p j/\KnT T (gat p j))/\Mem w w' [(ob,.cells (idC s.2).toArray 101),(rb,.cells zq 101),(pb,.cells (qd p).toArray 26)]) (fun s=>4-s.1) (0,fun _=>0) fq ⟨Am _,fun j hj=>by omega,hm⟩ ?_
 clear hq4 hm;rintro⟨i,F⟩ w4 ρ' ⟨hi,hF,hm⟩;dsimp only at hi hF hm|-;(conv=>whnf);refine zC (fun _=>zu ?_) (fun _=>zu ?_)
 case' refine_2=>
  obtain rfl:i=4:=by omega
  have hKn:KnQ T p:=fun j hj=>(hF j hj).2
  have e:qr3 T p=.tuple #[.agg (idC F).toArray,.bool true]:=by
   rw[qr3,Ad hKn,<-(hF 0 Od).1,<-(hF 1 Od).1,<-(hF 2 Od).1,<-(hF 3 Od).1];rfl
  refine zl hm 0 ?_;refine StoreA.all hm (i:=1) rfl rfl (by simp[Value.oneCell']) fun w5 hm=>zw ?_;refine qh (R:=fun r w'=>r=qr3 T p/\Ext w w') (zw ?_);refine zl hm 1 ?_;exact⟨by rw[e];rfl,hm.ext⟩
 have hi4:i<4:=by omega
 have t4:tsz EG 24=4:=by kernel_rfl
 have t1:tsz EG 3=1:=by kernel_rfl
 refine⟨⟨encT (gat p i),?_,?_⟩⟩
 ·rw[t4]
  match i,hi4 with
  | 0,_=>rfl
  | 1,_=>rfl
  | 2,_=>rfl
  | 3,_=>rfl
 obtain⟨t,et⟩:∃t,t=gat p i:=⟨_,rfl⟩
 have hto:TermOk t:=by
  rw[et]
  match i,hi4 with
  | 0,_=>exact hp 3
  | 1,_=>exact hp 0
  | 2,_=>exact hp 1
  | 3,_=>exact hp 2
 rw[<-et];(conv=>whnf);refine znm hm fun tb w5 hm=>zw ?_;refine StoreA.all (vs:=encT t) hm (i:=0) rfl rfl (qad t) fun w6 hm=>zw ?_;refine zr hm 0 ?_
 rcases D8 (t.kind=4)with h4|h4
 case inl=>
  refine zv ?_;refine StoreV.mem hm (i:=1) rfl (by rw[t1];show 0+i*1<4;omega) rfl ?_;clear hm;intro w7 hm;have hm:Mem w w7 [(tb,.cells (encT t).toArray 24),(ob,.cells ((idC F).toArray.setIfInBounds (0+i*tsz EG 3) (ii (-1))) 101),(rb,.cells zq 101),(pb,.cells (qd p).toArray 26)]:=hm;rw[t1,Aw,Bk,q01 F hi4]at hm;refine zu ?_;refine⟨(i+1,fun j=>if j=i then -1 else F j),fq,⟨by dsimp only;omega,fun j hj=>?_,hm.sub (AP ..)⟩,by dsimp only;omega⟩;dsimp only at hj|-
  by_cases e:j=i
  ·subst e;rw[Ad rfl,idP,<-et,idT,Ad h4];exact⟨rfl,.inl h4⟩
  ·rw[Aa e];exact hF j Oo
 refine zv ?_;obtain⟨vp,hxp,hPk⟩:=hX.h;refine DrawV.free Jk Jk (zw ?_);(iterate 3 (refine zd ?_));refine zf ?_ (by intro wd hd;(conv=>whnf);refine LoadV.of (Ext.cell (Ext.trans (Ext.drew xr) hd) (hm.ext.cell hxp)) ?_;(conv=>whnf);exact xq);apply StepD.of (fun v w=>∃vb,v=pp vb/\VocAt w vb (vocB T)) (fun v w w' ⟨vb,h1,h2⟩ he=>⟨vb,h1,h2.ext he⟩)
 ·intro wd hd;(conv=>whnf);refine zcv (qtk vp (encP T qs) wd (hPk.ext (hm.ext.trans ((Ext.refl w6).drew.trans hd)))) ?_;rintro r w7 ⟨⟨vb,rfl,hvb⟩,rfl⟩;rw[h.v]at hvb;exact⟨xr,vb,rfl,hvb⟩
 (conv=>whnf);apply zsd (qa8 t)
 ·intro wd hd;conv=>whnf
  (repeat(rintro _ ⟨_,rfl,_⟩;(conv=>whnf)))
  refine LoadA.mem (Mem.call (Mem.drew hm) hd) (i:=0) rfl rfl (zw ?_);exact xq
 (conv=>whnf);apply zsd (idR T t)
 ·intro wd hd;conv=>whnf
  (repeat(rintro _ ⟨_,rfl,_⟩;(conv=>whnf)))
  have hxd:=hm.ext.trans ((Ext.refl w6).drew.trans hd);refine zcv (q7d T h.voc h.set.rise h.kinds h.term _ t hto wd Oa (hM.ext hxd) (CellsAt.ext hT hxd)) ?_;rintro r w7 ⟨rfl,he7⟩;exact⟨he7,rfl⟩
 have hid:(KnT T (gat p i)/\idR T t=.tuple #[ii (idP T p i),.bool true])\/(¬KnT T (gat p i)/\idR T t=.tuple #[ii 0,.bool false]):=by
  rw[<-et]
  rcases D8 (t∈T\/t=zTM)with g|g
  ·exact .inl ⟨.inr g,by rw[idR,Ad g,idP,<-et,idT,Aa h4]⟩
  ·exact .inr ⟨fun k=>g (k.resolve_left h4),by rw[idR,Aa g]⟩
 rcases hid with⟨hk,eid⟩|⟨hk,eid⟩
 case inr=>
  rw[eid];(conv=>whnf);(iterate 5 (refine zd ?_));intro w7 he7;have hm:=hm.drew.call he7;conv=>whnf
  (repeat(rintro _ ⟨_,rfl,_⟩;(conv=>whnf)))
  refine zv ?_;refine StoreA.all hm (i:=2) rfl rfl Od fun w8 hm=>zw ?_;refine qh (R:=fun r w'=>r=qr3 T p/\Ext w w') (zw ?_);refine zl hm 2 ?_;exact⟨by rw[qr3,Aa (fun g=>hk (g i hi4))];rfl,hm.ext⟩
 obtain⟨z,ez⟩:∃z,z=idP T p i:=⟨_,rfl⟩
 rw[eid,<-ez];(conv=>whnf);(iterate 5 (refine zd ?_));intro w7 he7;have hm:=hm.drew.call he7;conv=>whnf
 (repeat(rintro _ ⟨_,rfl,_⟩;(conv=>whnf)))
 refine zv ?_;refine StoreV.mem hm (i:=1) rfl (by rw[t1];show 0+i*1<4;omega) rfl ?_;clear hm;intro w8 hm;have hm:Mem w w8 [(tb,.cells (encT t).toArray 24),(ob,.cells ((idC F).toArray.setIfInBounds (0+i*tsz EG 3) (ii z)) 101),(rb,.cells zq 101),(pb,.cells (qd p).toArray 26)]:=hm;rw[t1,Aw,Bk,q01 F hi4]at hm;refine zu ?_;refine⟨(i+1,fun j=>if j=i then z else F j),fq,⟨by dsimp only;omega,fun j hj=>?_,hm.sub (AP ..)⟩,by dsimp only;omega⟩;dsimp only at hj|-
 by_cases e:j=i
 ·subst e;rw[Ad rfl,ez];exact⟨rfl,hk⟩
 ·rw[Aa e];exact hF j Oo
structure GlobS(w:Ez):Prop where
 M:MaxLenAt w
 T:CellsAt w 6 0 qbz
 K:qkp w
theorem GlobS.ext(h:GlobS w)(he:Ext w w'):GlobS w':=⟨h.M.ext he,CellsAt.ext h.T he,CellsAt.ext h.K he⟩
def sRow(qs:List Q4)(i:Nat):EE:=[ii i,qk (qs.getD i zQ)]
structure IdxE(w:Ez)(x pb vb tb:Nat)(l:LB):Prop where
 c:w.cell? ⟨x,0,none⟩=some (pp pb)
 b:w.heap[pb]?=some (.cells #[ii (hN l 2),ii (hN l 3),ii (hN l 4),ii (hN l 5),pp vb,pp tb] 226)
 v:VocAt w vb (qq l)
 t:TreeAt w tb (q7 l)
theorem IdxE.ext{x:Nat}(h:IdxE w x pb vb tb l)(he:Ext w w'):IdxE w' x pb vb tb l:=⟨he.cell h.c,he.get h.b,h.v.ext he,h.t.ext he⟩
theorem IdxE.pk{x:Nat}(h:IdxE w x pb vb tb l):PackAt w pb l:=⟨vb,tb,h.b,h.v,h.t⟩
theorem IdxE.at_{x:Nat}(h:IdxE w x pb vb tb l):IdxAt w x l:=⟨pb,h.c,h.pk⟩
theorem qtj(b tb:Nat)(a0 a1 a2 a3 a4:E8)(w:Ez)(h:w.heap[b]?=some (.cells #[a0,a1,a2,a3,a4,pp tb] 226)):Gv EG 91 [pp b] w fun v w'=>v=pp tb/\w'=w:=by
 refine ze Tryz.func91 Tryz.ntmps91 ?_;refine LoadV.own h rfl (zw ?_);exact⟨rfl,rfl⟩
structure SmaΦ(x pb vb tb:Nat)(T:List TM)(qs:List Q4)(p:Q4)(b1 b2:Nat)(w:Ez):Prop where
 X:IdxE w x pb vb tb (encP T qs)
 G:GlobS w
 c1:w.cell? ⟨b1,0,none⟩=some (pp x)
 c2:CellsAt w b2 0 (qd p)
theorem qy3(x:Nat)(p:Q4)(w:Ez):Gv EG 53 [pp x,qk p] w fun r w'=>
  ∃b1 b2,r=.func (.func 89) #[] #[pp b1,pp b2]/\Mem w w' [(b2,.cells (qd p).toArray 26),(b1,.cells #[pp x] 41)]:=by
 refine ze Tryz.func53 Tryz.ntmps53 ?_;refine znm (Mem.nil w) fun b1 w1 hm=>zw ?_;refine znm hm fun b2 w2 hm=>zw ?_;exact⟨b1,b2,rfl,hm⟩
section
variable {T:List TM} {qs:List Q4} (h:EncOk T qs)
include h
theorem EncOk.pq{q:Q4}(hi:qs[i]?=some q):qfg (encP T qs) i=.tuple #[qk q,.bool true]:=by
 have hl:=(Ae.1 hi).1;have e4:q4Of (qq (encP T qs)) (qIds (encP T qs) i)=q:=h.quad4 hi;have hE:(toE (q7 (encP T qs))).2=0:=by rw[h.t];exact h.set.tok.toE
 have hok:PqOk (encP T qs) i:=⟨⟨by rw[h.n];exact hl,qab6 (qpx hE) (by rw[h.n];exact hl)⟩,(fun j hj g=>by
  rw[show qIds (encP T qs) i j=tNum (q7 (encP T qs)) i j from rfl,h.told hi hj]at g;cases g),by rw[e4];exact h.quad _ (zmg hi)⟩
 rw[qfg,Ad hok,e4]
theorem EncOk.tma{p:Q4}(hp:KnQ T p):(tmaR (q7 (encP T qs)) (idP T p)).map (·.1)=qbm p qs:=by
 have hm:∀q∈qs,∀k,k<4->gat q k∈T\/gat q k=zTM:=fun q hq k hk=>(h.set.mem q hq k hk).imp id fun g=>g.2.2
 rw[tmaR,h.t,h.set.tok.mtch];exact q12 h.set.rise (fun t ht=>(h.kinds t ht).1) hm (fun _ _=>rfl) hp
theorem EncOk.tmaN{p:Q4}(hp:¬KnQ T p):qbm p qs=[]:=by
 have hm:∀q∈qs,∀k,k<4->gat q k∈T\/gat q k=zTM:=fun q hq k hk=>(h.set.mem q hq k hk).imp id fun g=>g.2.2
 obtain⟨k,hk⟩:=Classical.not_forall.1 hp;obtain⟨h4,hk⟩:=Classical.not_imp.1 hk;exact q11 hm h4 hk
theorem EncOk.vms:∀k,k<3->tVec (q7 (encP T qs)) (k+1)=true->vM (qg (q7 (encP T qs)) (k+1))<=vN (qg (q7 (encP T qs)) (k+1)):=fun k hk _=>by
 rw[h.t];obtain⟨_,h2,h3,_⟩:=h.set.tok.vec (k:=k) Oo;rw[h2,h3];exact qq5 k _
end
theorem qwa{p:Q4}(h:i∈qbm p qs):∃q,qs[i]?=some q/\fitQ p q=true:=by
 rw[qbm,B0]at h;obtain⟨h1,h2⟩:=h;have:=BY.1 h1;refine⟨qs[i],zge this,?_⟩;rw[zge this]at h2;exact h2
theorem qy4(T:List TM)(qs:List Q4)(h:EncOk T qs)(x pb vb tb:Nat)(p:Q4)(hp:qa9 p)(hP:∀k,k<4->InR .i64 (idP T p k))(b1 b2:Nat):
  SeqC EG 89 [pp b1,pp b2] ((qbm p qs).map (sRow qs)) (SmaΦ x pb vb tb T qs p b1 b2):=by
 intro y I Ix w cI cIx hI h0 hy;have hxs:((qbm p qs).map (sRow qs)).length=(qbm p qs).length:=AC ..;refine gvW Jk Tryz.func89 rfl Tryz.ntmps89 rfl (zw ?_);refine NewV.carr (cI 0) h0 fun yb w1 h0=>zw ?_;refine LoadV.of (hI _ _ _ h0).c1 (zw ?_);refine LoadA.cells (hI _ _ _ h0).c2 rfl (zw ?_);refine zcv (q6t T qs h x p hp w1 (hI _ _ _ h0).X.at_ (hI _ _ _ h0).G.M (hI _ _ _ h0).G.T) ?_;rintro r w2 ⟨rfl,he2⟩;replace h0:=(cI 0).ext h0 he2
 by_cases hK:KnQ T p
 case neg=>
  rw[qr3,Aa hK];(conv=>whnf);refine NewV.carr (cI 0) h0 fun ib w3 h0=>zw ?_;refine StoreA.carr (cI 0) (A:=[]) h0 rfl Od fun w4 h0=>zu ?_;refine .inl ?_;rw[hxs,h.tmaN hK];exact(cI 0).drop ((cI 0).drop h0)
 rw[qr3,Ad hK];(conv=>whnf);refine NewV.carr (cI 0) h0 fun ib w3 h0=>zw ?_;refine StoreA.carr (cI 0) (A:=[]) h0 rfl (by simp[Value.oneCell']) fun w4 h0=>zu ?_;refine DrawW.tail 6 Jk Jk (.inl rfl) (AnyV.free Jk ?_);(conv=>whnf);refine zf ?_ (by intro wd hd;(conv=>whnf);refine LoadV.of (Ext.cell (Ext.trans (Ext.drew xr) hd) (hI _ _ _ h0).c1) ?_;(conv=>whnf);exact xq);refine zd ?_;refine zd ?_;refine zf ?_ (by intro wd hd;(conv=>whnf);refine LoadV.of (Ext.cell (Ext.trans (Ext.drew xr) hd) (hI _ _ _ h0).X.c) ?_;(conv=>whnf);exact xq);refine zsd (pp tb) (fun wd hd=>zw ?_) (zw ?_)
 ·refine zcv (qtj pb tb _ _ _ _ _ wd (Ext.get (Ext.trans (Ext.drew xr) hd) (hI _ _ _ h0).X.b)) ?_;rintro r w5 ⟨rfl,rfl⟩;exact xq
 refine zsd (.agg #[ii (idP T p 0),ii (idP T p 1),ii (idP T p 2),ii (idP T p 3)]) (fun wd hd=>zw ?_) (zw ?_)
 ·refine LoadA.own (Ext.get (Ext.trans (Ext.drew xr) hd) ((cI 0).get h0 mh)) rfl (zw ?_);exact xq
 intro w5 he5;replace h0:=(cI 0).ext h0 (Ext.trans (Ext.drew xr) he5);(conv=>whnf);refine zcv (qza tb (idP T p) w5) ?_;rintro r w6 ⟨c1,c2,rfl,hm6⟩;replace h0:=(cI 0).call h0 hm6;(conv=>whnf);obtain⟨L,hL⟩:∃L:ED,L=[(c2,.cells #[ii (idP T p 0),ii (idP T p 1),ii (idP T p 2),ii (idP T p 3)] 101),(c1,.cells #[pp tb] 172),(ib,.cells #[ii (idP T p 0),ii (idP T p 1),ii (idP T p 2),ii (idP T p 3)] 101),(yb,.cells #[.func (.yield y) #[] #[]] 169)]:=⟨_,rfl⟩
 have hJ:I 0 ([]++L) w6:=by rw[hL];exact h0
 clear h0;have hin:∀(X:ED),(c2,Obj.cells #[ii (idP T p 0),ii (idP T p 1),ii (idP T p 2),ii (idP T p 3)] 101)∈X++L/\(c1,Obj.cells #[pp tb] 172)∈X++L/\(yb,Obj.cells #[.func (.yield y) #[] #[]] 169)∈X++L:=fun X=>by
  rw[hL];refine⟨?_,?_,?_⟩<;>simp
 have htl:((tmaR (q7 (encP T qs)) (idP T p)).map mRow).length=(qbm p qs).length:=by
  rw[AC,<-h.tma hK,AC]
 refine q2u (Φ:=fun w=>TmaΦ tb (q7 (encP T qs)) c1 c2 w/\qacq (idP T p) c2 w) (lb:=[pp c1,pp c2]) (xs:=(tmaR (q7 (encP T qs)) (idP T p)).map mRow) rfl Jk (qzb tb (q7 (encP T qs)) (idP T p) c1 c2 h.vms hP) Od ?_
  (fun k X w'=>I k (X++L) w') (fun c k X w'=>∃_:PLift (c=.ret),Ix k (X++L) w')
  (fun k=>(cI _).tail _) (fun c k=>Carr.any fun _=>(cIx _).tail _)
  (fun k X w' hh=>⟨⟨(hI _ _ _ hh).X.t,by rw[qa ((cI _).get hh (hin X).2.1)];rfl⟩,fun j v hv=>by rw[qa ((cI _).get hh (hin X).1),Aw,<-hv];simp⟩) hJ ?_ ?_ ?_
 ·intro r hr;obtain⟨j,_,rfl⟩:=AY.1 hr;rfl
 ·rintro l2 D od k r X w7 w8 hr hJ;rw[Ao]at hr;cases hrow:(tmaR (q7 (encP T qs)) (idP T p))[k]? with
  | none=>rw[hrow]at hr;cases hr
  | some row=>
  rw[hrow,B4,Bp]at hr;subst hr;have hmk:(qbm p qs)[k]?=some row.1:=by rw[<-h.tma hK,Ao,hrow];rfl
  obtain⟨q,hq,hfit⟩:=qwa (zmg hmk);have hql:=(Ae.1 hq).1;have hlen:=h.set.len;(conv=>whnf);refine⟨rfl,rfl,?_⟩;(conv=>whnf);refine LoadV.of (hI _ _ _ hJ).c1 (zw ?_);refine LoadV.of (hI _ _ _ hJ).X.c (zw ?_);refine zcv (q2l pb (encP T qs) row.1 w8 (hI _ _ _ hJ).X.pk Oo (hI _ _ _ hJ).G.M (hI _ _ _ hJ).G.T (hI _ _ _ hJ).G.K) ?_;rintro r w9 ⟨rfl,he9⟩;replace hJ:=(cI k).ext hJ he9;rw[h.pq hq];(conv=>whnf);refine NewV.carr (cI k) hJ fun nb w10 hJ=>zw ?_;refine StoreA.carr (vs:=qd q) (cI k) (A:=[]) hJ rfl (qn q) fun w11 hJ=>zu ?_;refine LoadA.cells (vs:=qd p) (hI _ _ _ hJ).c2 rfl (zu ?_);refine LoadA.own ((cI k).get hJ mh) rfl (zu ?_);refine zcv (q3k p q w11) ?_;rintro r w12 ⟨rfl,he12⟩;replace hJ:=(cI k).ext hJ he12;rw[hfit];refine zu ?_;refine LoadV.carr (cI k) hJ (zmc (hin _).2.2) rfl (zu ?_);refine LoadA.own ((cI k).get hJ mh) rfl (zu ?_);have hrw:((qbm p qs).map (sRow qs))[k]?=some [ii row.1,qk q]:=by
   have e:qs.getD row.1 zQ=q:=by rw[Ag,hq];rfl
   rw[Ao,hmk,B4,sRow,e]
  refine YieldV.mono (hy k _ _ w12 hrw hJ) ?_;clear hJ;rintro v w13 (⟨rfl,hJ⟩|⟨rfl,hX⟩)
  ·refine zu ?_;exact(cI _).drop hJ
  ·refine zu ?_;exact⟨⟨rfl⟩,(cIx _).drop hX⟩
 ·rintro D w7 hJ;rw[htl]at hJ;(conv=>whnf);refine LeaveV.marks (J:=fun X w'=>I (qbm p qs).length X w') (cI _) ?_ (D:=D) (Ds:=[]) ((cI _).dropL ((cI _).perm hJ AE));intro w' h';(conv=>whnf);exact .inl (by rw[hxs];exact h')
 ·rintro D c k w7 hk ⟨⟨rfl⟩,hX⟩;rw[htl]at hk;(conv=>whnf);refine LeaveV.marks (J:=fun X w'=>Ix k X w') (cIx _) ?_ (D:=D) (Ds:=[]) ((cIx _).dropL ((cIx _).perm hX AE));intro w' h';(conv=>whnf);exact .inr ⟨k,by rw[hxs];exact hk,h'⟩
def RestX(v:E8)(L:List Q4)(Z:ED):Prop:=
 ∃A c,v=.slice A L.length c/\L.length<=c/\(L=[]\/∃g off cur,A=some ⟨g,off,none⟩/\(g,Obj.cells cur 26)∈Z/\∀j q,L[j]?=some q->∀k u,(qd q)[k]?=some u->cur[off+j*16+k]?=some u)
def pulO(q:Q4)(b:Bool)(v:E8):Obj:=.cells (qd q++[.bool b,v]).toArray 85
theorem RestX.tail{q:Q4}{L:List Q4}{Z:ED}(h:RestX (.slice A (q::L).length c) (q::L) Z):RestX (.slice (if c=1 then A else A.map (·.add (1*16))) L.length (c-1)) L Z:=by
 obtain⟨A',c',e,hc,hr⟩:=h
 injection e with e1 e2 e3
 subst e1 e3;have hc':L.length+1<=c:=hc;obtain⟨g,off,cur,rfl,hm,hat⟩:=hr.resolve_left (fun e=>by cases e);refine⟨_,_,rfl,by omega,?_⟩
 rcases BZ L.length with h0|h0
 ·exact .inl (AW h0)
 ·rw[Aa Oo];refine .inr ⟨g,off+1*16,cur,by simp[Addr.add],hm,fun j x hj k u hu=>?_⟩;have:=hat (j+1) x hj k u hu
  rwa[show off+(j+1)*16+k=off+1*16+j*16+k by omega]at this
theorem qpu(hJ:Carr J)(p:Nat)(q0:Q4)(b0:Bool)(v:E8)(L:List Q4)(Z A B:ED)(w:Ez)(h:J (A++(p,pulO q0 b0 v)::B) w)(hR:RestX v L Z)(hZ:∀x∈Z,x∈A++B):
  Gv EG 33 [pp p] w fun _ w'=>∃v',RestX v' L.tail Z/\J (A++(p,pulO (L.headD zQ) (!L.isEmpty) v')::B) w':=by
 have hR0:=hR;obtain⟨Av,c,rfl,hc,hr⟩:=hR
 rcases L with _|⟨q,L⟩
 ·have hn0:((([]:List Q4).length:Nat):Int)=0:=rfl;refine gvW Jk Tryz.func33 rfl Tryz.ntmps33 rfl (zw ?_);refine LoadV.own (hJ.get h (Ai _ mh)) rfl (zu ?_);refine StoreA.carrAt (vs:=qd zQ) hJ h (by show 0+16<=18;omega) (qn zQ) fun w1 h=>zw ?_;refine StoreV.carr hJ h (by show 16<18;omega) rfl fun w2 h=>zw ?_;exact⟨_,hR0,h⟩
 ·have h0:¬(((q::L).length:Nat):Int)=0:=by rw[As];omega
  have hp:=hR0.tail;obtain⟨g,off,cur,rfl,hm,hat⟩:=hr.resolve_left (fun e=>by cases e);obtain⟨m,em⟩:∃m,m=(q::L).length:=⟨_,rfl⟩
  have em':m=L.length+1:=em;rw[<-em]at h h0 hc;refine gvW Jk Tryz.func33 rfl Tryz.ntmps33 rfl (zw ?_);refine LoadV.own (hJ.get h (Ai _ mh)) rfl (zu ?_);refine DrawW.tail 20 Jk Jk (.inl rfl) (AnyV.gen (fun S _ w'=>J (A++(p,pulO (bif S 16 then q else q0) (bif S 19 then true else b0) (.slice (some ⟨g,off,none⟩) m c))::B) w') Jk (fun vals=>by exact hJ.ext h xr.drew) ?_);(conv=>whnf);(iterate 6 (refine zg ?_));have hld:∀(S:Nat->Bool) (wd:Ez),J (A++(p,pulO (bif S 16 then q else q0) (bif S 19 then true else b0) (.slice (some ⟨g,off,none⟩) m c))::B) wd->wd.heap[p]?=some (.cells (qd (bif S 16 then q else q0)++[Value.bool (bif S 19 then true else b0),Value.slice (some ⟨g,off,none⟩) m c]).toArray 85):=fun S wd hI=>hJ.get hI (Ai _ mh)
  refine StepG.of (.slice (some ⟨g,off,none⟩) m c) (fun S vals wd hk hp hI=>zw ?_) (zw ?_)
  ·refine LoadV.own (hld S wd hI) rfl (zw ?_);exact⟨rfl,hI⟩
  have hz:∀(S:Nat->Bool) (wd:Ez),J (A++(p,pulO (bif S 16 then q else q0) (bif S 19 then true else b0) (.slice (some ⟨g,off,none⟩) m c))::B) wd->CellsAt wd g (off+0*16) (qd q):=fun S wd hI k u hu=>by
   have hgm:(g,Obj.cells cur 26)∈A++(p,pulO (bif S 16 then q else q0) (bif S 19 then true else b0) (.slice (some ⟨g,off,none⟩) m c))::B:=by
    rcases Ba.1 (hZ _ hm)with h1|h1
    ·exact Bb _ h1
    ·exact Ai _ (zmc h1)
   rw[qa (hJ.get hI hgm)];exact hat 0 q rfl k u hu
  refine StepG.of (.pointer (some ⟨g,off+0*16,none⟩)) (fun S vals wd hk hp hI=>zw ?_) (zw ?_)
  ·refine⟨⟨g,off,0,rfl,rfl,by omega,?_⟩⟩;rw[show tsz EG 26=16 from by kernel_rfl];(conv=>whnf);exact⟨rfl,hI⟩
  refine StepG.of (qk q) (fun S vals wd hk hp hI=>zw ?_) (zw ?_)
  ·refine LoadA.cells (hz S wd hI) rfl (zw ?_);exact⟨rfl,hI⟩
  (iterate 3 (refine zg ?_));refine StepG.of (.slice (some ⟨g,off,none⟩) m c) (fun S vals wd hk hp hI=>zw ?_) (zw ?_)
  ·refine LoadV.own (hld S wd hI) rfl (zw ?_);exact⟨rfl,hI⟩
  refine StepG.of (.slice (if c=1 then some ⟨g,off,none⟩else(some (⟨g,off,none⟩:Addr)).map (·.add (1*16))) L.length (c-1)) (fun S vals wd hk hp hI=>zw ?_) (zw ?_)
  ·refine SliceV.to 1 m c rfl rfl rfl Oo Oo znr (fun h=>by cases h) ?_;rw[show tsz EG 26=16 from by kernel_rfl,show m-1=L.length by omega];exact⟨rfl,hI⟩
  refine zg ?_;refine zg ?_;refine StepG.of undef (fun S vals wd hk hp hI=>?_) (zw ?_)
  ·have hk:S 16=false:=hk;have hI:J (A++(p,pulO (bif S 16 then q else q0) (bif S 19 then true else b0) (.slice (some ⟨g,off,none⟩) m c))::B) wd:=hI;rw[hk]at hI;(conv=>whnf);refine StoreA.carrAt (vs:=qd q) hJ hI (by show 0+16<=18;omega) (qn q) fun wx hx=>zw ?_;exact⟨rfl,hx⟩
  refine zg ?_;refine zg ?_;refine StepG.of undef (fun S vals wd hk hp hI=>?_) (zw ?_)
  ·have hk:S 19=false:=hk;have hI:J (A++(p,pulO (bif S 16 then q else q0) (bif S 19 then true else b0) (.slice (some ⟨g,off,none⟩) m c))::B) wd:=hI;rw[hk]at hI;(conv=>whnf);refine StoreV.carr hJ hI (by show 16<18;omega) rfl fun wx hx=>zw ?_;exact⟨rfl,hx⟩
  intro vals w1 h;(conv=>whnf);refine StoreV.carr hJ h (by show 17<18;omega) rfl fun w2 h=>zw ?_;exact⟨_,hp,h⟩
open Go.RowKit
namespace V
def ApJ(J:ED->EC)(W Y:ED)(o:Obj)(R:E8->ED->Prop):Bool->Bool->E8->E8->Ez->Prop
 | false,false,_,_,w=>J (Y++W) w
 | true,false,v,_,w=>∃nb,v=.slice (some ⟨nb,0,none⟩) 1 1/\J ((nb,o)::(Y++W)) w
 | true,true,_,u,w=>∃Y',R u Y'/\J (Y'++W) w
 | false,true,_,_,_=>False
section
variable {J:ED->EC} {W Y:ED} {o:Obj} {R:E8->ED->Prop} {a b:Bool} {v u:E8} {w:Ez}
theorem ApJ.get(hJ:Carr J)(h:ApJ J W Y o R a b v u w){x:Nat}{ob:Obj}(hx:(x,ob)∈W):w.heap[x]?=some ob:=by
 match a,b,h with
 | false,false,h=>exact hJ.get h (Ai _ hx)
 | true,false,⟨nb,_,h⟩=>exact hJ.get h (zmc (Ai _ hx))
 | true,true,⟨Y',_,h⟩=>exact hJ.get h (Ai _ hx)
theorem ApJ.laid(hJ:Carr J)(h:ApJ J W Y o R false b v u w):ApJ J W Y o R true b (.slice (some ⟨w.heap.size,0,none⟩) 1 1) u (w.alloc o):=by
 match b,h with
 | false,h=>exact⟨_,rfl,hJ.new o h⟩
theorem ApJ.ready(h:ApJ J W Y o R true false v u w):∃nb,v=.slice (some ⟨nb,0,none⟩) 1 1/\J ((nb,o)::(Y++W)) w:=h
theorem ApJ.done(h:ApJ J W Y o R true true v u w):∃Y',R u Y'/\J (Y'++W) w:=h
end
end V
def PulX(p:Nat)(L:List Q4)(Y:ED):Prop:=∃v Z,Y=(p,pulO (L.headD zQ) (!L.isEmpty) v)::Z/\RestX v L.tail Z
theorem RowX.rest{v:E8}{L:List Q4}(h:RowX 26 16 v L.length (L.map qd).flatten Y):RestX v L Y:=by
 obtain⟨h1,⟨rfl,h2,_⟩|⟨g,cap,cur,rfl,rfl,h3,_,h4,h5⟩⟩:=h
 ·exact⟨none,0,by rw[h2],by omega,.inl (AW h2)⟩
 ·refine⟨_,_,rfl,h3,.inr ⟨g,0,cur,rfl,Ah.2 rfl,fun j q hj k u hu=>?_⟩⟩;have hk:k<16:=by
   have:=(Ae.1 hu).1
   rwa[qa7]at this
  have hjl:=(Ae.1 hj).1;have hfl:=qc7 qd 16 qa7 L j q k hj hk;rw[<-h5,Bc,Ad (by have:(j+1)*16<=L.length*16:=BI _ hjl;omega),hu]at hfl;rw[Aw]
  simpa using hfl
def gaL(p:Q4)(qs:List Q4)(k:Nat):List Q4:=((qbm p qs).take k).map fun i=>qs.getD i zQ
theorem q9z(p:Q4)(qs:List Q4):gaL p qs (qbm p qs).length=qs.filter (fitQ p):=by
 rw[gaL,Bg,<-qx2];have key:∀l:EF,(∀i∈l,∃q,qs[i]?=some q)->(l.map fun i=>qs.getD i zQ)=l.filterMap fun i=>qs[i]?:=by
  intro l
  induction l with
  | nil=>intro _;rfl
  | cons i l ih=>
   intro h;obtain⟨q,hq⟩:=h i mh;rw[AO,List.filterMap_cons,hq,ih fun j hj=>h j (zmc hj),Ag,hq];rfl
 exact key _ fun i hi=>let⟨q,h1,_⟩:=qwa hi;⟨q,h1⟩
theorem q90{p:Q4}(h:k<=(qbm p qs).length):(gaL p qs k).length=k:=by rw[gaL,AC,AG];omega
theorem q5g{p:Q4}(h:(qbm p qs)[k]?=some i):gaL p qs (k+1)=gaL p qs k++[qs.getD i zQ]:=by
 rw[gaL,gaL,BJ,h,AB];rfl
theorem q52(p:Q4)(qs:List Q4):(qbm p qs).length<=qs.length:=by
 rw[qbm];exact AU (Cb _ _) Js
theorem qs1(hJ:Carr J)(p:Q4)(X:ED)(w:Ez)(h:J X w):
  Gv EG 31 [.pointer none,qk p] w fun r w'=>∃b Y,r=pp b/\PulX b [] Y/\J (Y++X) w':=by
 refine gvW Jk Tryz.func31 rfl Tryz.ntmps31 rfl (zw ?_);refine NewV.carr hJ h fun b3 w1 h=>zw ?_;refine NewV.carr hJ h fun pb w2 h=>zw ?_;refine NewV.carr hJ h fun b5 w3 h=>zw ?_;refine StoreV.carr hJ (A:=[]) h Od rfl fun w4 h=>zu ?_;refine LoadV.own (hJ.get h mh) rfl (zw ?_);refine zcv (qpu hJ pb zQ false (.slice none 0 0) [] [] [_] (_::X) w4 h ⟨none,0,rfl,Aq _,.inl rfl⟩ (fun x hx=>by cases hx)) ?_;clear h;rintro r w5 ⟨v',hv',h⟩;(conv=>whnf);refine LoadV.own (hJ.get h mh) rfl (zw ?_);exact⟨pb,[_],rfl,⟨v',[],rfl,hv'⟩,hJ.dropM (A:=[_]) (hJ.dropM (A:=[]) h)⟩
def GaJ(J:ED->EC)(pb b5:Nat)(p:Q4)(qs:List Q4)(M:ED)(k:Nat)(X:ED)(w:Ez):Prop:=
 ∃s:E8×ED,RowX 26 16 s.1 k ((gaL p qs k).map qd).flatten s.2/\J (X++(s.2++((pb,pulO zQ false s.1)::(b5,.cells #[pp pb] 80)::M))) w
theorem GaJ.carr(hJ:Carr J)(pb b5:Nat)(p:Q4)(qs:List Q4)(M:ED)(k:Nat):Carr (GaJ J pb b5 p qs M k):=Carr.ex fun _=>hJ.tail _
theorem qxt(hJ:Carr J)(T:List TM)(qs:List Q4)(h:EncOk T qs)(x xp vb tb:Nat)(p:Q4)(hp:qa9 p)(hP:∀k,k<4->InR .i64 (idP T p k))(hΦ:∀X w,J X w->IdxE w x xp vb tb (encP T qs)/\GlobS w)(X:ED)(w:Ez)(h0:J X w):
  Gv EG 31 [pp x,qk p] w fun r w'=>∃b Y,r=pp b/\PulX b (qs.filter (fitQ p)) Y/\J (Y++X) w':=by
 have hlen:=h.set.len;have hml:=q52 p qs;refine gvW Jk Tryz.func31 rfl Tryz.ntmps31 rfl (zw ?_);refine NewV.carr hJ h0 fun b3 w1 h0=>zw ?_;refine NewV.carr hJ h0 fun pb w2 h0=>zw ?_;refine NewV.carr hJ h0 fun b5 w3 h0=>zw ?_;refine StoreV.carr hJ (A:=[]) h0 Od rfl ?_;clear h0;intro w4 h0;have h0:J ((b5,.cells #[pp pb] 80)::(pb,pulO zQ false (.slice none 0 0))::(b3,.cells (qd p).toArray 26)::X) w4:=h0;refine zu ?_;refine LoadA.own (hJ.get h0 (zmc (zmc mh))) rfl (zw ?_);refine zcv (qy3 x p w4) ?_;rintro r w5 ⟨c1,c2,rfl,hm5⟩;replace h0:=hJ.call h0 hm5;(conv=>whnf);obtain⟨M,eM⟩:∃M:ED,M=(c2,.cells (qd p).toArray 26)::(c1,.cells #[pp x] 41)::(b3,.cells (qd p).toArray 26)::X:=⟨_,rfl⟩
 have h0:GaJ J pb b5 p qs M 0 [] w5:=⟨(.slice none 0 0,[]),RowX.nil _ _,by
  rw[eM];refine hJ.perm h0 ?_;show List.Perm (_::_::_::_::_) (_::_::_::_::_);exact(AE (l₁:=[_,_]) (l₂:=[_,_])).append_right _ |>.trans (by simpa using(List.Perm.swap _ _ _))⟩
 have cG:=GaJ.carr hJ pb b5 p qs M;have hin:∀k X' w',GaJ J pb b5 p qs M k X' w'->SmaΦ x xp vb tb T qs p c1 c2 w':=fun k X' w' ⟨s,_,hh⟩=>by
  have hget:∀y∈M,w'.heap[y.1]?=some y.2:=fun y hy=>hJ.get hh (Ai _ (Ai _ (zmc (zmc hy))))
  refine⟨(hΦ _ _ hh).1,(hΦ _ _ hh).2,?_,fun k u hu=>?_⟩
  ·rw[qa (hget (c1,.cells #[pp x] 41) (by rw[eM];simp))];rfl
  ·rw[qa (hget (c2,.cells (qd p).toArray 26) (by rw[eM];simp)),Aw,Ar];exact hu
 have hxs:((qbm p qs).map (sRow qs)).length=(qbm p qs).length:=AC ..;refine qlk (m:=((qbm p qs).map (sRow qs)).length) (lb:=[pp c1,pp c2]) rfl Jk Od
  (GaJ J pb b5 p qs M) (fun k r X' w'=>((qbm p qs).map (sRow qs))[k]?=some r/\GaJ J pb b5 p qs M k X' w') (fun _ _ _ _=>False)
  (fun L0 Lx=>(qy4 T qs h x xp vb tb p hp hP c1 c2).toX (fun k=>(cG k).tail L0) (fun k=>Carr.any fun c=>⟨fun h _=>h,fun h=>h.elim,fun _ h=>h,fun _ h=>h,fun h=>h,fun h _=>h⟩) (fun k X' w' hh=>hin k _ w' hh))
  (fun k r X' w' hh=>by
   obtain⟨i,_,rfl⟩:=AY.1 (zmg hh.1);rfl) cG (fun k r=>(cG k).and) (fun c k=>⟨fun h _=>h,fun h=>h.elim,fun _ h=>h,fun _ h=>h,fun h=>h,fun h _=>h⟩) h0 ?_ ?_ (fun D c k w' _ hx=>hx.elim)
 ·rintro l D ob ob' k r X' w6 hk ⟨hr,⟨v,Y⟩,hR,hB⟩;rw[hxs]at hk;have hmk:(qbm p qs)[k]?=some (qbm p qs)[k]:=zge hk;rw[Ao,hmk,B4,Bp]at hr;subst hr;obtain⟨q,eq⟩:∃q,q=qs.getD (qbm p qs)[k] zQ:=⟨_,rfl⟩
  have hsr:sRow qs (qbm p qs)[k]=[ii (qbm p qs)[k],qk q]:=by rw[sRow,eq]
  have hrow:((qbm p qs).map (sRow qs))[k]?=some [ii (qbm p qs)[k],qk q]:=by rw[Ao,hmk,B4,hsr]
  have hga:=q5g hmk;rw[<-eq]at hga;rw[hsr];(conv=>whnf);refine NewV.carr hJ hB fun nb w7 hB=>zw ?_;refine StoreA.carr (vs:=qd q) hJ (A:=[]) hB rfl (qn q) fun w8 hB=>zw ?_;refine⟨rfl,(nb,.cells (qd q).toArray 26)::(D,.deferred (some []))::X',⟨hrow,(v,Y),hR,?_⟩,fun w9 hB2=>?_⟩
  ·exact hJ.perm hB (List.Perm.swap _ _ _)
  obtain⟨_,⟨v2,Y2⟩,hR2,hB2⟩:=hB2;dsimp only at hR2 hB2;clear hB hR;obtain⟨Wl,eWl⟩:∃Wl:ED,Wl=(l,ob')::(nb,.cells (qd q).toArray 26)::(D,.deferred (some []))::X':=⟨_,rfl⟩
  obtain⟨Wr,eWr⟩:∃Wr:ED,Wr=(b5,.cells #[pp pb] 80)::M:=⟨_,rfl⟩
  rw[<-eWl,<-eWr]at hB2;have hB2:J (Y2++(Wl++(pb,pulO zQ false v2)::Wr)) w9:=hJ.perm hB2 (by
   rw[<-Ak,<-Ak];exact AE.append_right _)
  obtain⟨A2,c2',ev2⟩:=hR2.slice;subst ev2;(conv=>whnf);have hm1:(b5,Obj.cells #[pp pb] 80)∈Wl++(pb,pulO zQ false (.slice A2 k c2'))::Wr:=by rw[eWr];simp
  have hm2:(pb,pulO zQ false (.slice A2 k c2'))∈Wl++(pb,pulO zQ false (.slice A2 k c2'))::Wr:=by simp
  have hm3:(nb,Obj.cells (qd q).toArray 26)∈Wl++(pb,pulO zQ false (.slice A2 k c2'))::Wr:=by rw[eWl];simp
  refine DrawW.tail 8 Jk Jk (.inr Jk) (AnyV.gen (fun S vals w'=>ApJ J (Wl++(pb,pulO zQ false (.slice A2 k c2'))::Wr) Y2 (.cells (qd q).toArray 26) (fun u Y'=>∃A' c',u=.slice A' (k+1) c'/\RowX 26 16 (.slice A' (k+1) c') (k+1) ((gaL p qs (k+1)).map qd).flatten Y') (S 6) (S 7) (vals 6) (vals 7) w') Jk (fun vals=>hJ.ext hB2 xr.drew) ?_);(conv=>whnf);refine StepG.of (pp pb) (fun S vals wd hk hp hI=>zw ?_) (zw ?_)
  ·refine LoadV.own (ApJ.get hJ hI hm1) rfl (zw ?_);exact⟨rfl,hI⟩
  refine StepG.of (pp pb) (fun S vals wd hk hp hI=>zw ?_) (zw ?_)
  ·refine LoadV.own (ApJ.get hJ hI hm1) rfl (zw ?_);exact⟨rfl,hI⟩
  refine zg ?_;refine zg ?_;refine StepG.of (.slice A2 k c2') (fun S vals wd hk hp hI=>zw ?_) (zw ?_)
  ·refine LoadV.own (ApJ.get hJ hI hm2) rfl (zw ?_);exact⟨rfl,hI⟩
  refine StepG.of (qk q) (fun S vals wd hk hp hI=>zw ?_) (zw ?_)
  ·refine LoadA.own (ApJ.get hJ hI hm3) rfl (zw ?_);exact⟨rfl,hI⟩
  refine StepG.any (fun S vals wd hk hp hI=>?_) (zw ?_)
  ·have hI:ApJ J (Wl++(pb,pulO zQ false (.slice A2 k c2'))::Wr) Y2 (.cells (qd q).toArray 26) (fun u Y'=>∃A' c',u=.slice A' (k+1) c'/\RowX 26 16 (.slice A' (k+1) c') (k+1) ((gaL p qs (k+1)).map qd).flatten Y') (S 6) (S 7) (vals 6) (vals 7) wd:=hI;rw[hk]at hI;(conv=>whnf);refine⟨fun z wx hb hw=>?_⟩;subst hb hw;(conv=>whnf);exact⟨trivial,hI.laid hJ⟩
  refine StepG.any (fun S vals wd hk hp hI=>?_) (zw ?_)
  ·have hI:ApJ J (Wl++(pb,pulO zQ false (.slice A2 k c2'))::Wr) Y2 (.cells (qd q).toArray 26) (fun u Y'=>∃A' c',u=.slice A' (k+1) c'/\RowX 26 16 (.slice A' (k+1) c') (k+1) ((gaL p qs (k+1)).map qd).flatten Y') (S 6) (S 7) (vals 6) (vals 7) wd:=hI;have h6:S 6=true:=hp 6 Od;rw[hk,h6]at hI;obtain⟨nb2,hv,hj⟩:=hI.ready;have hj:J (Y2++(nb2,.cells (qd q).toArray 26)::(Wl++(pb,pulO zQ false (.slice A2 k c2'))::Wr)) wd:=hJ.perm hj BO.symm;rw[ql hv];(conv=>whnf);refine AppV.carr (m:=1) (news:=qd q) hJ hj hR2 qdSl qdI qdZ Jk Jk Od rfl (fun _=>⟨nb2,0,rfl,fun j u hu=>by rw[qa (hJ.get hj (Ai _ mh)),Aw,Ar];exact hu⟩) (qn q) (by rw[show((EG.info? 26).get Jk).bytes=224 from by kernel_rfl];omega) Oo ?_;intro A' c' Y' w' hR' hj';(conv=>whnf);refine⟨trivial,?_⟩;show ApJ J _ _ _ _ (S 6) true _ _ _;rw[h6];refine⟨Y',⟨A',c',rfl,?_⟩,hJ.dropM hj'⟩;have e:((gaL p qs (k+1)).map qd).flatten=((gaL p qs k).map qd).flatten++qd q:=by rw[hga];simp
   rw[e];exact hR'
  intro vals w10 hI;obtain⟨Y',⟨A',c',e7,hR'⟩,hj⟩:=hI.done;rw[ql e7];(conv=>whnf);rw[<-Ak]at hj;refine StoreV.carr hJ hj (by show 17<18;omega) rfl ?_;clear hj;intro w11 hj;have hj:J ((Y'++Wl)++(pb,pulO zQ false (.slice A' (k+1) c'))::Wr) w11:=hj;(conv=>whnf);refine⟨(.slice A' (k+1) c',Y'),hR',?_⟩;rw[eWl,eWr]at hj;have h1:J ((Y'++[(l,ob')])++(nb,.cells (qd q).toArray 26)::((D,.deferred (some []))::X'++(pb,pulO zQ false (.slice A' (k+1) c'))::(b5,.cells #[pp pb] 80)::M)) w11:=by simpa using hj
  have h2:=hJ.dropM h1;refine hJ.perm h2 ?_;show List.Perm ((Y'++[(l,ob')])++((D,.deferred (some []))::X'++_)) ((l,ob')::(D,.deferred (some []))::X'++(Y'++_));have e:(Y'++[(l,ob')])++((D,.deferred (some []))::X'++(pb,pulO zQ false (.slice A' (k+1) c'))::(b5,.cells #[pp pb] 80)::M)=(Y'++((l,ob')::(D,.deferred (some []))::X'))++((pb,pulO zQ false (.slice A' (k+1) c'))::(b5,.cells #[pp pb] 80)::M):=by simp
  rw[e,<-Ak];exact AE.append_right _
 ·rintro D w6 ⟨⟨v,Y⟩,hR,hh⟩;rw[hxs]at hR;dsimp only at hR hh;have hgl:(gaL p qs (qbm p qs).length).length=(qbm p qs).length:=q90 znr;have hrest:RestX v (gaL p qs (qbm p qs).length) Y:=by
   rw[<-hgl]at hR;exact RowX.rest (by rw[hgl]at hR|-;exact hR)
  rw[q9z]at hrest;obtain⟨G,eG⟩:∃G,G=qs.filter (fitQ p):=⟨_,rfl⟩
  rw[<-eG]at hrest|-;(conv=>whnf);refine LoadV.own (hJ.get hh (Ai _ (Ai _ (zmc mh)))) rfl (zw ?_);rw[<-Ak]at hh;refine zcv (qpu hJ pb zQ false v G Y _ _ w6 hh hrest (fun y hy=>Bb _ (Ai _ hy))) ?_;clear hh;rintro r w7 ⟨v',hv',hh⟩;(conv=>whnf);refine LoadV.own (hJ.get hh (Ai _ (zmc mh))) rfl (zw ?_);rw[eM]at hh;have h1:J ((([(D,.deferred (some []))]++Y)++[(pb,pulO (G.headD zQ) (!G.isEmpty) v')])++(b5,.cells #[pp pb] 80)::(c2,.cells (qd p).toArray 26)::(c1,.cells #[pp x] 41)::(b3,.cells (qd p).toArray 26)::X) w7:=by simpa using hh
  have h2:=hJ.dropM (hJ.dropM (hJ.dropM (hJ.dropM h1)));have h3:J ([(D,.deferred (some []))]++(((pb,pulO (G.headD zQ) (!G.isEmpty) v')::Y)++X)) w7:=hJ.perm h2 (by
   simp only[Ak,BL,Br];exact List.Perm.cons _ BO)
  refine LeaveV.marks (J:=fun X' w'=>J (X'++(((pb,pulO (G.headD zQ) (!G.isEmpty) v')::Y)++X)) w') (hJ.tail _) ?_ (D:=D) (Ds:=[]) h3;intro w' h';(conv=>whnf);exact⟨pb,_,rfl,⟨v',Y,rfl,hv'⟩,h'⟩
def or4(a b c d:Int):Int:=if a≠0 then a else if b≠0 then b else if c≠0 then c else d
def or4L(l:List Int):Int:=match l with
 | []=>0
 | a::l=>if a≠0 then a else or4L l
theorem qaa3(a b c d:Int):or4L [a,b,c,d]=or4 a b c d:=by
 unfold or4;simp only[or4L]
 by_cases h:d≠0
 ·rw[Ad h]
 ·rw[Aa h,C0.1 h]
theorem q2d(a b c d:Int)(nb:Nat)(w:Ez)(hb:w.heap[nb]?=some (.cells #[ii a,ii b,ii c,ii d] 3)):
  Gv EG 67 [.slice (some ⟨nb,0,none⟩) 4 4] w fun v w'=>v=ii (or4 a b c d)/\w'=w:=by
 have hat:∀i (x:Int),[a,b,c,d][i]?=some x->w.cell? ⟨nb,i,none⟩=some (ii x):=fun i x hx=>by
  rw[qa hb]
  match i,hx with
  | 0,hx=>cases hx;rfl
  | 1,hx=>cases hx;rfl
  | 2,hx=>cases hx;rfl
  | 3,hx=>cases hx;rfl
  | _+4,hx=>cases hx
 refine ze Tryz.func67 Tryz.ntmps67 ?_;refine qj (fun i:Nat=>[(3,ii 0),(6,.slice (some ⟨nb,0,none⟩) 4 4),(7,ii 4),(8,ii i)]) (fun i w1=>i<=4/\or4 a b c d=or4L ([a,b,c,d].drop i)/\w1=w) (fun i=>4-i) 0 fq ⟨by omega,(qaa3 a b c d).symm,rfl⟩ ?_;rintro i w1 ρ' ⟨h1,h2,rfl⟩;(conv=>whnf);refine zC (fun _=>zw ?_) (fun _=>zw ?_)
 ·have hi:i<[a,b,c,d].length:=by show i<4;omega
  have hd:[a,b,c,d].drop i=[a,b,c,d][i]::[a,b,c,d].drop (i+1):=Bu hi;have hx:=hat i _ (zge hi);rw[hd,or4L]at h2;obtain⟨x,ex⟩:∃x,x=[a,b,c,d][i]:=⟨_,rfl⟩
  rw[<-ex]at h2 hx;refine ElemV.own1 i rfl Oo (zw ?_);refine LoadV.of hx (zw ?_);refine zC (fun _=>zu ?_) (fun _=>zu ?_)
  ·rw[Ad Oo]at h2;exact⟨by rw[h2],rfl⟩
  ·rw[Aa Oo]at h2;exact⟨i+1,fq,⟨by omega,h2,rfl⟩,by omega⟩
 ·obtain rfl:i=4:=by omega
  exact⟨by rw[h2];rfl,rfl⟩
theorem qq1(x:Int)(w:Ez):Gv EG 185 [ii x] w fun v w'=>v=.bool false/\w'=w:=by
 refine ze Tryz.func185 Tryz.ntmps185 ?_;exact⟨Af Value.bool (AH (fun h=>h rfl)),rfl⟩
def intC(x y:Int):Int:=if x<y then -1 else if y<x then 1 else 0
theorem qxi(x y:Int)(w:Ez):Gv EG 117 [ii x,ii y] w fun v w'=>v=ii (intC x y)/\w'=w:=by
 refine ze Tryz.func117 Tryz.ntmps117 ?_;refine zcv (qq1 x w) ?_;rintro r w1 ⟨rfl,rfl⟩;(conv=>whnf);refine zcv (qq1 y w1) ?_;rintro r w2 ⟨rfl,rfl⟩;conv=>whnf
 (repeat'(first|refine zp ?_|refine zC (fun _=>zw ?_) (fun _=>zw ?_)))
 ·exact⟨by rw[intC,Ad Oo],rfl⟩
 ·exact⟨by rw[intC,Aa Oo,Ad Oo],rfl⟩
 ·exact⟨by rw[intC,Aa Oo,Aa Oo],rfl⟩
theorem q7s:∀a b:LB,Lib.compareBytes a b=if a<b then -1 else if a=b then 0 else 1
 | [],[]=>rfl
 | [],_::_=>by rw[Lib.compareBytes,Ad (List.nil_lt_cons _ _)]
 | _::_,[]=>by rw[Lib.compareBytes,Aa (DS _),Aa Js]
 | x::a,y::b=>by
  rw[Lib.compareBytes]
  by_cases h1:x<y
  ·rw[Ad h1,Ad (BC.2 (.inl h1))]
  ·rw[Aa h1]
   by_cases h2:y<x
   ·rw[Ad h2,Aa (fun g=>(BC.1 g).elim h1 fun e=>by rw[e.1]at h2;exact UInt8.lt_irrefl _ h2),Aa (fun g=>by cases g;exact UInt8.lt_irrefl _ h2)]
   ·have e:x=y:=by
     rw[Ec]at h1 h2;exact D9.1 Oo
    subst e;rw[Aa h2,q7s a b]
    by_cases h3:a<b
    ·rw[Ad h3,Ad (BC.2 (.inr ⟨rfl,h3⟩))]
    ·rw[Aa h3,Aa (fun g=>(BC.1 g).elim h1 fun e=>h3 e.2)]
     by_cases h4:a=b
     ·rw[Ad h4,Ad (by rw[h4])]
     ·rw[Aa h4,Aa (fun g=>h4 (List.cons.inj g).2)]
theorem qpv(a b:E0)(w:Ez):Gv EG 118 [.string a,.string b] w fun v w'=>v=ii (txtC a b)/\w'=w:=by
 refine qhe Jk ((Tryz.strings_Compare a b w).mono ?_);rintro e w' ⟨rfl,rfl⟩;refine⟨_,rfl,Af (Value.int .i64) ?_,rfl⟩;rw[q7s,txtC]
 by_cases h1:a.data.toList<b.data.toList
 ·rw[Ad h1,Ad (qeo.2 h1)]
 ·rw[Aa h1,Aa (fun g=>h1 (qeo.1 g))]
  by_cases h2:a.data.toList=b.data.toList
  ·rw[Ad h2,Ad (qac.2 (qc9 h2))]
  ·rw[Aa h2,Aa (fun g=>h2 (by rw[qac.1 g]))]
theorem q9n(a b:TM):or4 (intC a.kind b.kind) (txtC a.text b.text) (txtC a.type b.type) (txtC a.lang b.lang)=cmpT a b:=by
 by_cases h:a.kind≠b.kind
 ·by_cases h2:a.kind<b.kind
  ·have hI:intC a.kind b.kind=-1:=by rw[intC,Ad h2]
   rw[hI,cmpT,Ad h,Ad h2];rfl
  ·have hI:intC a.kind b.kind=1:=by rw[intC,Aa h2,Ad Oo]
   rw[hI,cmpT,Ad h,Aa h2];rfl
 ·have hI:intC a.kind b.kind=0:=by rw[intC,Aa Oo,Aa Oo]
  rw[hI,cmpT,Aa h];rfl
theorem qeb(a b:TM)(w:Ez):Gv EG 68 [qa8 a,qa8 b] w fun r w'=>r=ii (cmpT a b)/\Ext w w':=by
 refine ze Tryz.func68 Tryz.ntmps68 ?_;refine znm (Mem.nil w) fun b1 w1 hm=>zw ?_;refine znm hm fun b2 w2 hm=>zw ?_;refine DrawV.free rfl Jk (zw ?_);refine zd ?_;refine zf ?_ (by intro wd hd;(conv=>whnf);refine LoadV.mem (Mem.call (Mem.drew hm) hd) (i:=1) rfl rfl ?_;(conv=>whnf);exact xq);refine zd ?_;refine zf ?_ (by intro wd hd;(conv=>whnf);refine LoadV.mem (Mem.call (Mem.drew hm) hd) (i:=0) rfl rfl ?_;(conv=>whnf);exact xq);apply zsd
 ·intro wd hd;(conv=>whnf);refine zcv (qxi a.kind b.kind wd) ?_;rintro v w7 ⟨rfl,rfl⟩;exact xq
 (conv=>whnf);refine zd ?_;refine zf ?_ (by intro wd hd;(conv=>whnf);refine LoadV.mem (Mem.call (Mem.drew hm) hd) (i:=1) rfl rfl ?_;(conv=>whnf);exact xq);refine zd ?_;refine zf ?_ (by intro wd hd;(conv=>whnf);refine LoadV.mem (Mem.call (Mem.drew hm) hd) (i:=0) rfl rfl ?_;(conv=>whnf);exact xq);apply zsd
 ·intro wd hd;(conv=>whnf);refine zcv (qpv a.text b.text wd) ?_;rintro v w7 ⟨rfl,rfl⟩;exact xq
 (conv=>whnf);refine zd ?_;refine zf ?_ (by intro wd hd;(conv=>whnf);refine LoadV.mem (Mem.call (Mem.drew hm) hd) (i:=1) rfl rfl ?_;(conv=>whnf);exact xq);refine zd ?_;refine zf ?_ (by intro wd hd;(conv=>whnf);refine LoadV.mem (Mem.call (Mem.drew hm) hd) (i:=0) rfl rfl ?_;(conv=>whnf);exact xq);apply zsd
 ·intro wd hd;(conv=>whnf);refine zcv (qpv a.type b.type wd) ?_;rintro v w7 ⟨rfl,rfl⟩;exact xq
 (conv=>whnf);refine zd ?_;refine zf ?_ (by intro wd hd;(conv=>whnf);refine LoadV.mem (Mem.call (Mem.drew hm) hd) (i:=1) rfl rfl ?_;(conv=>whnf);exact xq);refine zd ?_;refine zf ?_ (by intro wd hd;(conv=>whnf);refine LoadV.mem (Mem.call (Mem.drew hm) hd) (i:=0) rfl rfl ?_;(conv=>whnf);exact xq);apply zsd
 ·intro wd hd;(conv=>whnf);refine zcv (qpv a.lang b.lang wd) ?_;rintro v w7 ⟨rfl,rfl⟩;exact xq
 (conv=>whnf);apply StepD.of (fun v wx=>∃nb,v=.slice (some ⟨nb,0,none⟩) 4 4/\wx.heap[nb]?=some (.cells #[ii (intC a.kind b.kind),ii (txtC a.text b.text),ii (txtC a.type b.type),ii (txtC a.lang b.lang)] 3)) (fun _ _ _ h he=>let⟨nb,h1,h2⟩:=h;⟨nb,h1,he.get h2⟩)
 ·intro wd hd;(conv=>whnf);refine⟨fun nb wx hb hw=>?_⟩;subst hb hw;(conv=>whnf);exact⟨(Ext.refl wd).alloc _,_,rfl,heap_alloc_new wd _⟩
 (conv=>whnf);apply zsd
 ·intro wd hd;(conv=>whnf);rintro v ⟨nb,rfl,hn⟩;(conv=>whnf);refine zcv (q2d _ _ _ _ nb wd hn) ?_;rintro v w7 ⟨rfl,rfl⟩;rw[q9n];exact xq
 (conv=>whnf);refine zd ?_;intro wd hd;conv=>whnf
 (repeat(intro _ _;(conv=>whnf)))
 exact⟨rfl,(hm.drew.call hd).ext⟩
theorem q9m(a b:Q4):or4 (cmpT a.g b.g) (cmpT a.s b.s) (cmpT a.p b.p) (cmpT a.o b.o)=cmpQ a b:=rfl
theorem qjk(a b:Q4)(w:Ez):Gv EG 43 [qk a,qk b] w fun r w'=>r=ii (cmpQ a b)/\Ext w w':=by
 refine ze Tryz.func43 Tryz.ntmps43 ?_;refine znm (Mem.nil w) fun b1 w1 hm=>zw ?_;refine znm hm ?_;intro b2 w2 hm;have hc1:CellsAt w2 b1 0 (qd a):=CellsAt.mem hm (zmc mh);have hc2:CellsAt w2 b2 0 (qd b):=CellsAt.mem hm mh;have hd:Ext w2 w2.drew:=(Ext.refl w2).drew;have c1:∀k,k<4->CellsAt w2.drew b1 (0+k*4) (encT (a.at k)):=fun k hk=>(qt hc1 k hk).ext hd
 have c2:∀k,k<4->CellsAt w2.drew b2 (0+k*4) (encT (b.at k)):=fun k hk=>(qt hc2 k hk).ext hd
 clear hd;(conv=>whnf);refine DrawV.free rfl Jk (zw ?_);refine zd ?_;apply zsd
 ·intro wd hd;(conv=>whnf);refine LoadA.cells ((c1 3 Od).ext hd) rfl (zw ?_);exact xq
 (conv=>whnf);refine zd ?_;apply zsd
 ·intro wd hd;(conv=>whnf);refine LoadA.cells ((c2 3 Od).ext hd) rfl (zw ?_);exact xq
 (conv=>whnf);apply zsd
 ·intro wd hd;(conv=>whnf);refine zcv (qeb a.g b.g wd) ?_;rintro v w7 ⟨rfl,he⟩;exact⟨he,rfl⟩
 (conv=>whnf);refine zd ?_;apply zsd
 ·intro wd hd;(conv=>whnf);refine LoadA.cells ((c1 0 Od).ext hd) rfl (zw ?_);exact xq
 (conv=>whnf);refine zd ?_;apply zsd
 ·intro wd hd;(conv=>whnf);refine LoadA.cells ((c2 0 Od).ext hd) rfl (zw ?_);exact xq
 (conv=>whnf);apply zsd
 ·intro wd hd;(conv=>whnf);refine zcv (qeb a.s b.s wd) ?_;rintro v w7 ⟨rfl,he⟩;exact⟨he,rfl⟩
 (conv=>whnf);refine zd ?_;apply zsd
 ·intro wd hd;(conv=>whnf);refine LoadA.cells ((c1 1 Od).ext hd) rfl (zw ?_);exact xq
 (conv=>whnf);refine zd ?_;apply zsd
 ·intro wd hd;(conv=>whnf);refine LoadA.cells ((c2 1 Od).ext hd) rfl (zw ?_);exact xq
 (conv=>whnf);apply zsd
 ·intro wd hd;(conv=>whnf);refine zcv (qeb a.p b.p wd) ?_;rintro v w7 ⟨rfl,he⟩;exact⟨he,rfl⟩
 (conv=>whnf);refine zd ?_;apply zsd
 ·intro wd hd;(conv=>whnf);refine LoadA.cells ((c1 2 Od).ext hd) rfl (zw ?_);exact xq
 (conv=>whnf);refine zd ?_;apply zsd
 ·intro wd hd;(conv=>whnf);refine LoadA.cells ((c2 2 Od).ext hd) rfl (zw ?_);exact xq
 (conv=>whnf);apply zsd
 ·intro wd hd;(conv=>whnf);refine zcv (qeb a.o b.o wd) ?_;rintro v w7 ⟨rfl,he⟩;exact⟨he,rfl⟩
 (conv=>whnf);apply StepD.of (fun v wx=>∃nb,v=.slice (some ⟨nb,0,none⟩) 4 4/\wx.heap[nb]?=some (.cells #[ii (cmpT a.g b.g),ii (cmpT a.s b.s),ii (cmpT a.p b.p),ii (cmpT a.o b.o)] 3)) (fun _ _ _ h he=>let⟨nb,h1,h2⟩:=h;⟨nb,h1,he.get h2⟩)
 ·intro wd hd;(conv=>whnf);refine⟨fun nb wx hb hw=>?_⟩;subst hb hw;(conv=>whnf);exact⟨(Ext.refl wd).alloc _,_,rfl,heap_alloc_new wd _⟩
 (conv=>whnf);apply zsd
 ·intro wd hd;(conv=>whnf);rintro v ⟨nb,rfl,hn⟩;(conv=>whnf);refine zcv (q2d _ _ _ _ nb wd hn) ?_;rintro v w7 ⟨rfl,rfl⟩;rw[q9m];exact xq
 (conv=>whnf);refine zd ?_;intro wd hd;conv=>whnf
 (repeat(intro _ _;(conv=>whnf)))
 exact⟨rfl,(hm.drew.call hd).ext⟩
theorem qb0(a b:Q4)(w:Ez):Gv EG 46 [qk a,qk b] w fun r w'=>r=ii (cmpQ a b)/\Ext w w':=by
 refine ze Tryz.func46 Tryz.ntmps46 ?_;refine znm (Mem.nil w) fun b1 w1 hm=>zw ?_;refine znm hm ?_;intro b2 w2 hm;have c1:CellsAt w2 b1 0 (qd a):=CellsAt.mem hm (zmc mh);have c2:CellsAt w2 b2 0 (qd b):=CellsAt.mem hm mh;(conv=>whnf);refine LoadA.cells (qt c1 3 Od) rfl (zw ?_);refine LoadA.cells (qt c2 3 Od) rfl (zw ?_);refine zcv (qbc a.g b.g w2) ?_;rintro r w3 ⟨rfl,he3⟩;have c1:=c1.ext he3;have c2:=c2.ext he3;have hm:=hm.call he3
 by_cases h0:cmpT a.g b.g=0
 ·refine zu ?_;refine LoadA.cells (qt c1 0 Od) rfl (zw ?_);refine LoadA.cells (qt c2 0 Od) rfl (zw ?_);refine zcv (qbc a.s b.s w3) ?_;rintro r w4 ⟨rfl,he4⟩;have c1:=c1.ext he4;have c2:=c2.ext he4;have hm:=hm.call he4
  by_cases h1:cmpT a.s b.s=0
  ·refine zu ?_;refine LoadA.cells (qt c1 1 Od) rfl (zw ?_);refine LoadA.cells (qt c2 1 Od) rfl (zw ?_);refine zcv (qbc a.p b.p w4) ?_;rintro r w5 ⟨rfl,he5⟩;have c1:=c1.ext he5;have c2:=c2.ext he5;have hm:=hm.call he5
   by_cases h2:cmpT a.p b.p=0
   ·refine zu ?_;refine LoadA.cells (qt c1 2 Od) rfl (zw ?_);refine LoadA.cells (qt c2 2 Od) rfl (zw ?_);refine zcv (qbc a.o b.o w5) ?_;rintro r w6 ⟨rfl,he6⟩;(conv=>whnf);exact⟨by rw[cmpQ,Aa (fun g=>g h0),Aa (fun g=>g h1),Aa (fun g=>g h2)],(hm.call he6).ext⟩
   ·refine zu ?_;exact⟨by rw[cmpQ,Aa (fun g=>g h0),Aa (fun g=>g h1),Ad h2],hm.ext⟩
  ·refine zu ?_;exact⟨by rw[cmpQ,Aa (fun g=>g h0),Ad h1],hm.ext⟩
 ·refine zu ?_;exact⟨by rw[cmpQ,Ad h0],hm.ext⟩
section
variable (qs:List Q4) (A:oA) (n c:Nat) (w:Ez)
theorem qaei(hS:SlAt qd 16 w A qs)(hn:qs.length=n)(hb:n<=140737488355328)(hq:∀q∈qs,qa9 q)(hM:MaxLenAt w)(hT:CellsAt w 6 0 qbz):
  Gv EG 95 [.slice A n c] w fun r w'=>(∃i:Int,r=.tuple #[ii i,ii (valE qs)])/\Ext w w':=by
 refine ze Tryz.func95 Tryz.ntmps95 ?_;refine zC (fun _=>zw ?_) (fun _=>zw ?_)
 ·exact⟨⟨0,by rw[qsh Oo];rfl⟩,Ext.refl w⟩
 ·have hlong:¬1048576<qs.length:=by omega
  refine qj (fun i:Nat=>[(0,.slice A n c),(11,.slice A n c),(12,ii n),(13,ii i)]) (fun i w1=>i<=n/\(∀j r,j<i->qs[j]?=some r->qb6 r=0)/\Ext w w1) (fun i=>n-i) 0 fq ⟨Am _,fun j r h=>absurd h (Cn _),Ext.refl w⟩ ?_;rintro i w1 ρ' ⟨i1,i2,he1⟩;(conv=>whnf);refine zC (fun _=>zw ?_) (fun _=>zw ?_)
  ·have hi:i<qs.length:=by omega
   have hqi:qs[i]?=some qs[i]:=zge hi;refine ElemV.sl (hS.ext he1) hn i rfl Oo ?_;intro eb eo hcell;(conv=>whnf);refine LoadA.cells hcell rfl (zw ?_);refine znm (Mem.nil w1) fun nb w2 hm=>zw ?_;refine StoreA.all (vs:=qd qs[i]) hm (i:=0) rfl rfl (qn _) ?_;intro w3 hm;have hm:Mem w1 w3 [(nb,.cells (qd qs[i]).toArray 26)]:=hm;(conv=>whnf);refine zl hm 0 ?_;have he3:=he1.trans hm.ext;refine zcv (qg6 qs[i] (hq _ (AT hi)) w3 (hM.ext he3) (hT.ext he3)) ?_;rintro r w4 ⟨rfl,he4⟩;have he4:=he3.trans he4;(conv=>whnf);refine zC (fun _=>zu ?_) (fun _=>zu ?_)
   ·exact⟨⟨i,by rw[qsi hlong hqi i2 rfl Oo]⟩,he4⟩
   ·refine⟨i+1,fq,⟨by omega,fun j r hj hr=>?_,he4⟩,by omega⟩
    by_cases e:j=i
    ·subst e;rw[hqi]at hr;cases hr;omega
    ·exact i2 j r Oo hr
  ·obtain rfl:i=n:=by omega
   have hz:∀q∈qs,qb6 q=0:=fun q hq=>by
    obtain⟨j,hj⟩:=Bi.1 hq;exact i2 j q (by have:=(Ae.1 hj).1;omega) hj
   refine qj (fun k:Nat=>[(0,.slice A i c),(7,ii (k+1:Nat))]) (fun k w1=>qzj qs (k+1)/\Ext w w1) (fun k=>i-k) 0 fq ⟨fun j h=>by omega,he1⟩ ?_;rintro k w2 ρ2 ⟨k1,he2⟩;(conv=>whnf);refine zC (fun _=>zw ?_) (fun _=>zw ?_)
   ·have hk:k+1<qs.length:=by omega
    obtain⟨b,off,rfl,hat⟩:=(hS.ext he2).at_ (by intro e;rw[e]at hk;cases hk);have hqa:qs[k]?=some qs[k]:=zge Oo;have hqb:qs[k+1]?=some qs[k+1]:=zge hk;have hca:=(hat k _ hqa).ext (Ext.refl w2).drew;have hcb:=(hat (k+1) _ hqb).ext (Ext.refl w2).drew;refine DrawV.free rfl Jk (zw ?_);(iterate 3 (refine zd ?_));refine zf ?_ (by intro wd hd;(conv=>whnf);refine⟨⟨b,off,k,rfl,by omega,by omega,?_⟩⟩;exact xq);apply zsd
    ·intro wd hd;(conv=>whnf);refine LoadA.cells (hca.ext hd) rfl (zw ?_);exact xq
    (conv=>whnf);refine zd ?_;refine zd ?_;refine zf ?_ (by intro wd hd;(conv=>whnf);refine⟨⟨b,off,(k+1),rfl,by omega,by omega,?_⟩⟩;exact xq);apply zsd
    ·intro wd hd;(conv=>whnf);refine LoadA.cells (hcb.ext hd) rfl (zw ?_);exact xq
    (conv=>whnf);apply zsd
    ·intro wd hd;(conv=>whnf);refine zcv (qjk qs[k] qs[k+1] wd) ?_;rintro v w7 ⟨rfl,he⟩;exact⟨he,rfl⟩
    (conv=>whnf);refine zd ?_;intro wd hd;have he3:=(he2.drew).trans hd;(conv=>whnf);refine zC (fun _=>zu ?_) (fun _=>zu ?_)
    ·refine⟨⟨(k+1:Nat),?_⟩,he3⟩;rw[qw9 hlong hz hqa hqb (fun g=>by have:=qcv.2 g;omega)];rfl
    ·refine⟨k+1,⟨rfl,Af (Value.int .i64) Oo,trivial⟩,⟨fun j hj x y hx hy=>?_,he3⟩,by omega⟩
     by_cases e:j=k
     ·subst e;rw[hqa]at hx;rw[hqb]at hy;cases hx;cases hy;exact qcv.1 Oo
     ·exact k1 j Oo x y hx hy
   ·exact⟨⟨0,by rw[q3x hlong hz (fun j hj=>k1 j Oo)];rfl⟩,he2⟩
theorem qul(hS:SlAt qd 16 w A qs)(hn:qs.length=n)(hb:n<=140737488355328)(hq:∀q∈qs,qa9 q):
  Gv EG 71 [.slice A n c] w fun r w'=>(∃i:Int,r=.tuple #[ii i,ii (valE qs)])/\Ext w w':=by
 refine ze Tryz.func71 Tryz.ntmps71 ?_;refine zC (fun _=>zw ?_) (fun _=>zw ?_)
 ·exact⟨⟨0,by rw[qsh Oo];rfl⟩,Ext.refl w⟩
 ·have hlong:¬1048576<qs.length:=by omega
  refine qj (fun i:Nat=>[(0,.slice A n c),(4,ii i)]) (fun i w1=>i<=n/\(∀j r,j<i->qs[j]?=some r->qb6 r=0)/\Ext w w1) (fun i=>n-i) 0 fq ⟨Am _,fun j r h=>absurd h (Cn _),Ext.refl w⟩ ?_;rintro i w1 ρ' ⟨i1,i2,he1⟩;(conv=>whnf);refine zC (fun _=>zw ?_) (fun _=>zw ?_)
  ·have hi:i<qs.length:=by omega
   have hqi:qs[i]?=some qs[i]:=zge hi;refine ElemV.sl (hS.ext he1) hn i rfl Oo ?_;intro eb eo hcell;(conv=>whnf);refine LoadA.cells hcell rfl (zw ?_);refine zcv (qj2 qs[i] (hq _ (AT hi)) w1) ?_;rintro r w4 ⟨rfl,he4⟩;have he4:=he1.trans he4;(conv=>whnf);refine zC (fun _=>zu ?_) (fun _=>zu ?_)
   ·exact⟨⟨i,by rw[qsi hlong hqi i2 rfl Oo]⟩,he4⟩
   ·refine⟨i+1,fq,⟨by omega,fun j r hj hr=>?_,he4⟩,by omega⟩
    by_cases e:j=i
    ·subst e;rw[hqi]at hr;cases hr;omega
    ·exact i2 j r Oo hr
  ·obtain rfl:i=n:=by omega
   have hz:∀q∈qs,qb6 q=0:=fun q hq=>by
    obtain⟨j,hj⟩:=Bi.1 hq;exact i2 j q (by have:=(Ae.1 hj).1;omega) hj
   refine qj (fun k:Nat=>[(0,.slice A i c),(6,ii (k+1:Nat))]) (fun k w1=>qzj qs (k+1)/\Ext w w1) (fun k=>i-k) 0 fq ⟨fun j h=>by omega,he1⟩ ?_;rintro k w2 ρ2 ⟨k1,he2⟩;(conv=>whnf);refine zC (fun _=>zw ?_) (fun _=>zw ?_)
   ·have hk:k+1<qs.length:=by omega
    obtain⟨b,off,rfl,hat⟩:=(hS.ext he2).at_ (by intro e;rw[e]at hk;cases hk);have hqa:qs[k]?=some qs[k]:=zge Oo;have hqb:qs[k+1]?=some qs[k+1]:=zge hk;have hca:=(hat k _ hqa).ext (Ext.refl w2).drew;have hcb:=(hat (k+1) _ hqb).ext (Ext.refl w2).drew;refine DrawV.free rfl Jk (zw ?_);(iterate 3 (refine zd ?_));refine zf ?_ (by intro wd hd;(conv=>whnf);refine⟨⟨b,off,k,rfl,by omega,by omega,?_⟩⟩;exact xq);apply zsd
    ·intro wd hd;(conv=>whnf);refine LoadA.cells (hca.ext hd) rfl (zw ?_);exact xq
    (conv=>whnf);refine zd ?_;refine zd ?_;refine zf ?_ (by intro wd hd;(conv=>whnf);refine⟨⟨b,off,(k+1),rfl,by omega,by omega,?_⟩⟩;exact xq);apply zsd
    ·intro wd hd;(conv=>whnf);refine LoadA.cells (hcb.ext hd) rfl (zw ?_);exact xq
    (conv=>whnf);apply zsd
    ·intro wd hd;(conv=>whnf);refine zcv (qb0 qs[k] qs[k+1] wd) ?_;rintro v w7 ⟨rfl,he⟩;exact⟨he,rfl⟩
    (conv=>whnf);refine zd ?_;intro wd hd;have he3:=(he2.drew).trans hd;(conv=>whnf);refine zC (fun _=>zu ?_) (fun _=>zu ?_)
    ·refine⟨⟨(k+1:Nat),?_⟩,he3⟩;rw[qw9 hlong hz hqa hqb (fun g=>by have:=qcv.2 g;omega)];rfl
    ·refine⟨k+1,⟨rfl,Af (Value.int .i64) Oo,trivial⟩,⟨fun j hj x y hx hy=>?_,he3⟩,by omega⟩
     by_cases e:j=k
     ·subst e;rw[hqa]at hx;rw[hqb]at hy;cases hx;cases hy;exact qcv.1 Oo
     ·exact k1 j Oo x y hx hy
   ·exact⟨⟨0,by rw[q3x hlong hz (fun j hj=>k1 j Oo)];rfl⟩,he2⟩
end
def qqq(p:Nat):EE:=[pp p]
theorem qpe(q:Q4)(b:Bool)(v:E8)(i:Nat)(hi:i<16):(qd q++[.bool b,v]).toArray[0+i]?=(qd q)[i]?:=by
 rw[Aw,Ar,AQ (by rw[qa7];exact hi)]
theorem qxz(ps:EF)(Ls:List (List Q4))(A:oA)(c:Nat)(w:Ez)(hlen:ps.length=Ls.length)(hS:SlAt qqq 1 w A ps)(hn:ps.length<=1048576)(hp:∀(i p:Nat) (L:List Q4),ps[i]?=some p->Ls[i]?=some L->∃v,w.heap[p]?=some (pulO (L.headD zQ) (!L.isEmpty) v)):
  Gv EG 32 [.slice A ps.length c] w fun r w'=>r=.tuple #[qk ((leaC cmpQ Ls none).getD zQ),.bool (leaC cmpQ Ls none).isSome]/\Ext w w':=by
 have t1:tsz EG 80=1:=by kernel_rfl
 refine ze Tryz.func32 Tryz.ntmps32 ?_;refine znm (Mem.nil w) fun rb w1 hm=>zw ?_;refine znm hm ?_;clear hm;intro tb w2 hm;have hm:Mem w w2 [(tb,.cells (qd ((none:Option Q4).getD zQ)).toArray 26),(rb,.cells (qd zQ).toArray 26)]:=hm;(conv=>whnf);refine qj (fun s:Nat×Option Q4=>[(2,pp rb),(4,pp tb),(5,.bool s.2.isSome),(8,.slice A ps.length c),(9,ii ps.length),(10,ii s.1)])
  (fun s w'=>s.1<=ps.length/\leaC cmpQ (Ls.drop s.1) s.2=leaC cmpQ Ls none/\Mem w w' [(tb,.cells (qd (s.2.getD zQ)).toArray 26),(rb,.cells (qd zQ).toArray 26)]) (fun s=>ps.length-s.1) (0,none) fq ⟨Am _,by rw[BA],hm⟩ ?_
 clear hm;rintro⟨i,o⟩ w3 ρ' ⟨hi,hle,hm⟩;dsimp only at hi hle hm|-;(conv=>whnf);refine zC (fun _=>zw ?_) (fun _=>zw ?_)
 case' refine_2=>
  obtain rfl:i=ps.length:=by omega
  rw[Dg Oo]at hle;have hle:o=leaC cmpQ Ls none:=hle;rw[<-hle];refine zl hm 0 ?_;refine StoreA.all (vs:=qd (o.getD zQ)) hm (i:=1) rfl rfl (qn _) fun w4 hm=>zw ?_;refine qh (R:=fun r w'=>r=.tuple #[qk (o.getD zQ),.bool o.isSome]/\Ext w w') (zw ?_);refine zl hm 1 ?_;exact⟨rfl,hm.ext⟩
 have hil:i<ps.length:=by omega
 obtain⟨g,off,rfl,hcl⟩:=hS.at_ (by intro e;rw[e]at hil;cases hil);have hpi:ps[i]?=some ps[i]:=zge hil;have hLi:Ls[i]?=some (Ls[i]' Oo):=zge Oo;obtain⟨p,ep⟩:∃p,p=ps[i]:=⟨_,rfl⟩
 obtain⟨L,eL⟩:∃L,L=Ls[i]' Oo:=⟨_,rfl⟩
 rw[<-ep]at hpi;rw[<-eL]at hLi;have hdr:Ls.drop i=L::Ls.drop (i+1):=by rw[Bu Oo,<-eL]
 rw[hdr]at hle;obtain⟨v,hv⟩:=hp i p L hpi hLi;have hcp:CellsAt w g (off+i*1) (qqq p):=hcl i p hpi;refine⟨⟨g,off,i,rfl,by omega,by omega,?_⟩⟩;rw[t1];(conv=>whnf);refine LoadV.cell0 (hcp.ext hm.ext) (zw ?_);refine DrawV.free Jk Jk (zw ?_);(iterate 3 (refine zd ?_));refine zsd (.bool (!L.isEmpty)) (fun wd hd=>zw ?_) ?_
 ·refine LoadV.own (Ext.get (hm.ext.trans ((Ext.refl w3).drew.trans hd)) hv) rfl (zw ?_);exact xq
 rcases L with _|⟨x,L⟩
 case' nil=>
  (conv=>whnf);(iterate 13 (refine zd ?_));intro w4 he4;refine zu ?_;exact⟨(i+1,o),fq,⟨by dsimp only;omega,hle,hm.drew.call he4⟩,by dsimp only;omega⟩
 rcases o with _|q
 case' none=>
  (conv=>whnf);(iterate 13 (refine zd ?_));intro w4 he4;have hm:=hm.drew.call he4;rw[leaC]at hle;refine zu ?_
 case' some=>
  (conv=>whnf);(iterate 7 (refine zd ?_));apply zsd (qk x)
  ·intro wd hd;refine zu ?_;refine V.LoadA.part (vs:=qd x) (Ext.get (hm.ext.trans ((Ext.refl w3).drew.trans hd)) hv) rfl (fun j hj=>qpe _ _ _ j hj) (zw ?_);exact xq
  (conv=>whnf);apply zsd (qk q)
  ·intro wd hd;refine zu ?_;refine LoadA.mem (Mem.call (Mem.drew hm) hd) (i:=0) rfl rfl (zw ?_);exact xq
  (conv=>whnf);apply zsd (ii (cmpQ x q))
  ·intro wd hd;refine zu ?_;refine zcv (qjk x q wd) ?_;rintro r w5 ⟨rfl,h5⟩;exact⟨h5,rfl⟩
  (conv=>whnf);(iterate 3 (refine zd ?_));intro w4 he4;have hm:=hm.drew.call he4;(conv=>whnf);rw[leaC]at hle
  by_cases hxq:cmpQ x q<0
  case neg=>
   rw[Aa hxq]at hle;refine zv ?_;exact⟨(i+1,some q),fq,⟨by dsimp only;omega,hle,hm⟩,by dsimp only;omega⟩
  rw[Ad hxq]at hle;refine zv ?_
 all_goals
  refine V.LoadA.part (vs:=qd x) (Ext.get hm.ext hv) rfl (fun j hj=>qpe _ _ _ j hj) (zw ?_);refine StoreA.all (vs:=qd x) hm (i:=0) rfl rfl (qn x) fun w5 hm=>zu ?_;exact⟨(i+1,some x),fq,⟨by dsimp only;omega,hle,hm⟩,by dsimp only;omega⟩
def encV(v:E8):EE:=[v]
theorem ixSl:EG.underlying 28=some (.slice 41):=Tryz.underlying28
theorem ixI:EG.info? 41=some ((EG.info? 41).get Jk):=(Bn _).symm
theorem ixZ:((EG.info? 41).get Jk).zero=some ((((EG.info? 41).get Jk).zero).get Jk):=(Bn _).symm
theorem plSl:EG.underlying 78=some (.slice 80):=Tryz.underlying78
theorem plI:EG.info? 80=some ((EG.info? 80).get Jk):=(Bn _).symm
theorem plZ:((EG.info? 80).get Jk).zero=some ((((EG.info? 80).get Jk).zero).get Jk):=(Bn _).symm
theorem inSl:EG.underlying 38=some (.slice 3):=Tryz.underlying38
theorem inI:EG.info? 3=some ((EG.info? 3).get Jk):=(Bn _).symm
theorem inZ:((EG.info? 3).get Jk).zero=some ((((EG.info? 3).get Jk).zero).get Jk):=(Bn _).symm
theorem qqr(l:EE):(l.map encV).flatten=l:=by
 induction l with
 | nil=>rfl
 | cons v l ih=>rw[AO,Cv,ih];rfl
theorem qyz(vs:EE)(A:oA)(c:Nat)(w:Ez)(hS:SlAt encV 1 w A vs)(h1:∀v∈vs,v.oneCell'=true)(hn:vs.length<=1048576):
  Gv EG 30 [.slice A vs.length c] w fun r w'=>w'.ownsRow w.heap.size 41 1 r vs.length vs/\Ext w w':=by
 refine ze Tryz.func30 Tryz.ntmps30 ?_;cases A with
 | none=>
  have h0:vs=[]:=by
   refine Bj fun g=>?_;obtain⟨b,off,e,_⟩:=hS.at_ g;cases e
  subst h0;refine zu ?_;exact⟨World.ownsRow_nil _ _ _ _,xr⟩
 | some a=>
  refine zu ?_;refine⟨fun nb w1 hb hw=>?_⟩;have he1:Ext w w1:=by rw[hw];exact xr.alloc _
  have hg:w1.heap[nb]?=some (.cells #[] 41):=by rw[hw,hb];exact heap_alloc_new w _
  have hR:Rw w w1 (.slice (some ⟨nb,0,none⟩) 0 0) 41 1 0 [] []:=⟨(Mem.nil w).call he1,⟨rfl,.inr ⟨nb,0,#[],rfl,by omega,hg,Aq _,Am _,rfl,rfl⟩⟩,fun x hx=>by simp at hx⟩
  (conv=>whnf);refine AppV.rw (m:=vs.length) (news:=vs) ixSl ixI ixZ Jk Jk Od hR (by rw[Bk]) (fun hne=>?_) h1 (by rw[show((EG.info? 41).get Jk).bytes=8 from by kernel_rfl];omega) Oo ?_
  ·obtain⟨b,off,h3,h4⟩:=hS.at_ hne;refine⟨b,off,h3,fun k v hv=>he1.cell ?_⟩;have:=h4 k v hv 0 v rfl
   rwa[Bk,BH]at this
  intro B d w2 hR2;(conv=>whnf);have e:0+vs.length=vs.length:=Aw _;rw[e]at hR2|-;exact⟨hR2.own,hR2.mem.ext⟩
def PulsX:EF->List (List Q4)->ED->Prop
 | [],[],X=>X=[]
 | p::ps,L::Ls,X=>∃Y Z,X=Y++Z/\PulX p L Y/\PulsX ps Ls Z
 | _,_,_=>False
theorem PulsX.len:∀{ps:EF} {Ls:List (List Q4)} {X:ED},PulsX ps Ls X->ps.length=Ls.length
 | [],[],_,_=>rfl
 | _::_,_::_,_,⟨_,_,_,_,h⟩=>Af Nat.succ (PulsX.len h)
theorem PulsX.snoc{p:Nat}{L:List Q4}(hp:PulX p L Y):∀{ps:EF} {Ls:List (List Q4)} {X:ED},PulsX ps Ls X->PulsX (ps++[p]) (Ls++[L]) (X++Y)
 | [],[],X,h=>by
  have h:X=[]:=h;subst h;exact⟨Y,[],by simp,hp,rfl⟩
 | q::ps,M::Ls,X,⟨Y',Z,e,h1,h2⟩=>⟨Y',Z++Y,by rw[e,Ak],h1,PulsX.snoc hp h2⟩
theorem PulsX.at_:∀{ps:EF} {Ls:List (List Q4)} {X:ED} {i p:Nat},PulsX ps Ls X->ps[i]?=some p->
  ∃L A Y B,Ls[i]?=some L/\X=A++Y++B/\PulX p L Y/\∀L' Y',PulX p L' Y'->PulsX ps (Ls.set i L') (A++Y'++B)
 | [],[],X,i,p,_,hi=>by simp at hi
 | q::ps,M::Ls,X,0,p,⟨Y,Z,e,h1,h2⟩,hi=>by
  simp at hi;subst hi;exact⟨M,[],Y,Z,rfl,by rw[e];rfl,h1,fun L' Y' h'=>⟨Y',Z,rfl,h',h2⟩⟩
 | q::ps,M::Ls,X,i+1,p,⟨Y,Z,e,h1,h2⟩,hi=>by
  obtain⟨L,A,Y2,B,h3,h4,h5,h6⟩:=PulsX.at_ h2 (by simpa using hi);refine⟨L,Y++A,Y2,B,by simpa using h3,by rw[e,h4];simp,h5,fun L' Y' h'=>⟨Y,A++Y'++B,by simp,h1,h6 L' Y' h'⟩⟩
theorem PulsX.cell(hJ:Carr J){Ls:List (List Q4)}{W:ED}(h:PulsX ps Ls X)(hX:∀x∈X,x∈W)(hw:J W w){p:Nat}{L:List Q4}(hp:ps[i]?=some p)(hL:Ls[i]?=some L):∃v,w.heap[p]?=some (pulO (L.headD zQ) (!L.isEmpty) v):=by
 obtain⟨L',A,Y,B,h1,h2,⟨v,Z,h3,_⟩,_⟩:=h.at_ hp;rw[hL]at h1;cases h1;exact⟨v,hJ.get hw (hX _ (by rw[h2,h3];simp))⟩
theorem q5d:EG.underlying 26=some (.struct (EG.fieldsOf 26)):=by kernel_rfl
theorem qab4:EG.stoodInHeld 26=false:=by kernel_rfl
theorem q0x:EG.eqGuardType EG.depth 26=false:=by kernel_rfl
def qc0(a b:Q4):Bool:=qat a.s b.s&&(qat a.p b.p&&(qat a.o b.o&&qat a.g b.g))
theorem qfl{a b:Q4}:qc0 a b=true↔a=b:=by
 obtain⟨a0,a1,a2,a3⟩:=a;obtain⟨b0,b1,b2,b3⟩:=b;simp[qc0,qcg]
theorem qgl(d:Nat)(a b:Q4)(w:Ez):(Op.equalIn (d+3) 26 (qk a) (qk b)).run EG w=.ok (qc0 a b) w:=by
 have a3:=Tryz.isAgg24;have z3:=Tryz.sizeOf24;simp only[qk];rw[run_equalIn_agg w (d+2) _ _ _ q5d qab4];simp only[Program.fieldsOf,Tryz.underlying26];have e1:=qbh d a.s b.s w;have e2:=qbh d a.p b.p w;have e3:=qbh d a.o b.o w;have e4:=qbh d a.g b.g w;simp only[qa8]at e1 e2 e3 e4;clear e1 e2 e3 e4
 go_simp
 have e:∀x y:E0,(x.toList=y.toList)=(seq x y=true):=fun x y=>by rw[<-qmn,CU]
 simp only[e]
 by_cases h1:a.s.kind=b.s.kind
 rotate_left
 ·simp[qc0,qat,h1]
 by_cases h2:seq a.s.text b.s.text=true
 rotate_left
 ·simp[qc0,qat,h1,h2]
 by_cases h3:seq a.s.type b.s.type=true
 rotate_left
 ·simp[qc0,qat,h1,h2,h3]
 by_cases h4:seq a.s.lang b.s.lang=true
 rotate_left
 ·simp[qc0,qat,h1,h2,h3,h4]
 by_cases h5:a.p.kind=b.p.kind
 rotate_left
 ·simp[qc0,qat,h1,h2,h3,h4,h5]
 by_cases h6:seq a.p.text b.p.text=true
 rotate_left
 ·simp[qc0,qat,h1,h2,h3,h4,h5,h6]
 by_cases h7:seq a.p.type b.p.type=true
 rotate_left
 ·simp[qc0,qat,h1,h2,h3,h4,h5,h6,h7]
 by_cases h8:seq a.p.lang b.p.lang=true
 rotate_left
 ·simp[qc0,qat,h1,h2,h3,h4,h5,h6,h7,h8]
 by_cases h9:a.o.kind=b.o.kind
 rotate_left
 ·simp[qc0,qat,h1,h2,h3,h4,h5,h6,h7,h8,h9]
 by_cases h10:seq a.o.text b.o.text=true
 rotate_left
 ·simp[qc0,qat,h1,h2,h3,h4,h5,h6,h7,h8,h9,h10]
 by_cases h11:seq a.o.type b.o.type=true
 rotate_left
 ·simp[qc0,qat,h1,h2,h3,h4,h5,h6,h7,h8,h9,h10,h11]
 by_cases h12:seq a.o.lang b.o.lang=true
 rotate_left
 ·simp[qc0,qat,h1,h2,h3,h4,h5,h6,h7,h8,h9,h10,h11,h12]
 by_cases h13:a.g.kind=b.g.kind
 rotate_left
 ·simp[qc0,qat,h1,h2,h3,h4,h5,h6,h7,h8,h9,h10,h11,h12,h13]
 by_cases h14:seq a.g.text b.g.text=true
 rotate_left
 ·simp[qc0,qat,h1,h2,h3,h4,h5,h6,h7,h8,h9,h10,h11,h12,h13,h14]
 by_cases h15:seq a.g.type b.g.type=true
 rotate_left
 ·simp[qc0,qat,h1,h2,h3,h4,h5,h6,h7,h8,h9,h10,h11,h12,h13,h14,h15]
 by_cases h16:seq a.g.lang b.g.lang=true
 rotate_left
 ·simp[qc0,qat,h1,h2,h3,h4,h5,h6,h7,h8,h9,h10,h11,h12,h13,h14,h15,h16]
 simp[qc0,qat,h1,h2,h3,h4,h5,h6,h7,h8,h9,h10,h11,h12,h13,h14,h15,h16]
namespace V
theorem RunV.neqQd{a b:Q4}(h:K (.bool (!qc0 a b)) w):
  RunV EG (do eqGuard .neq 26 xo yo (qk a) (qk b);binOp .neq 26 (qk a) (qk b)) w K:=by
 refine⟨_,w,?_,h⟩;rw[Sem.run_bind,qk,qk,run_eqGuard_agg w .neq _ xo yo _ _ q0x,Result.andThen_ok];have e:=qgl 9997 a b w;simp only[qk]at e;rw[run_neq_struct,e];rfl
end V
def idF(T:List TM)(q:Q4)(i j:Nat):Int:=if j<i then(noT T (gat q j):Nat)else 0
def gQ(q:Q4):Q4:=⟨q.g,q.s,q.p,q.o⟩
theorem qaex(q:Q4)(hk:k<4):(gQ q).at k=gat q k:=by
 rcases(show k=0\/k=1\/k=2\/k=3 by omega)with rfl|rfl|rfl|rfl<;>rfl
theorem q96(T:List TM)(q:Q4)(_hi:i<4):(fnA 4 (inF (idF T q i))).setIfInBounds i (ii (noT T (gat q i):Nat))=fnA 4 (inF (idF T q (i+1))):=by
 rw[qir];refine qky fun j hj=>?_
 by_cases e:j=i
 ·subst e;rw[qg1,inF,idF,Ad (Dk _)]
 ·rw[qak _ _ _ _ e,inF,inF,idF,idF]
  congr 1
  by_cases h:j<i
  ·rw[Ad h,Ad Oo]
  ·rw[Aa h,Aa Oo]
theorem qaez:∀x,x<256->x |||128=x%128+128:=by decide +kernel
theorem qxf(n:Nat):qex .or .u8 ((n%256:Nat):Int) 128=((n%128+128:Nat):Int):=by
 have e:=qaez (n%256) (CV _ Od);have e2:n%256%128=n%128:=by omega
 rw[show(128:Int)=((128:Nat):Int)from rfl,qso (qgf (CV _ Od)) (qgf Od) (qgf (by rw[e];omega)),e,e2]
namespace V
theorem AppV.strR{v:E8}{x:LB}{t u:E6}{i:TypeInfo}(ht:P.underlying t=some (.slice e))(hu:P.underlying u=some .string)(hi:P.info? e=some i)(hz:i.zero=some (.int .u8 0))(hsize:i.size=1)(hby:i.bytes=1)(h:w.ownsRow 0 e 1 v x.length (byV x))(hlen:x.length+s.size<=140737488355328)(hk:∀A' c' w',w'.ownsRow 0 e 1 (.slice A' (x.length+s.size) c') (x++s.data.toList).length (byV (x++s.data.toList))->Chn (rowF v) w w'->(∀k∈rowF (.slice A' (x.length+s.size) c'),(k∈rowF v\/w.heap.size<=k)/\k<w'.heap.size)->K (.slice A' (x.length+s.size) c') w'):
  AppV P #[t,u] ty v (.string s) w K:=by
 have key:∃v' w',(Builtin.append_ #[t,u] ty #[v,.string s]).run P w=.ok v' w'/\w'.ownsRow 0 e 1 v' (x.length+s.size) (byV x++Lib.strCells s)/\w.grownBy w' v.ownBlock/\∀k∈rowF v',k∈rowF v\/w.heap.size<=k:=by
  rcases h.2 with⟨rfl,h0⟩|⟨g,cap,cur,rfl,hbg,hg,hnc,hcm,hcs,htake⟩
  ·have ho:w.ownsRow w.heap.size e 1 (.slice none 0 0) x.length (byV x):=⟨h.1,.inl ⟨rfl,h0⟩⟩
   obtain⟨v',w',h1,h2,h3,_⟩:=Lib.run_append_own_string (P:=P) w w.heap.size t u ty e i ht hu hi hz hsize hby _ _ _ ho s (by simp only[maxLen];omega) hlen znr;exact⟨v',w',h1,q57 h2,h3,fun k hk=>.inr (qrk h2 k hk).1⟩
  ·obtain⟨v',w',h1,h2,h3,_⟩:=Lib.run_append_own_string (P:=P) w 0 t u ty e i ht hu hi hz hsize hby _ _ _ h s (by simp only[maxLen];omega) hlen (Am _);refine⟨v',w',h1,h2,h3,?_⟩
   by_cases hroom:x.length+s.size<=cap
   ·have hr:=Lib.run_append_room_string (P:=P) w t u ty e i ht hu hi hsize g x.length cap cur hg s hroom Oo;rw[hr]at h1;cases h1;exact fun k hk=>.inl hk
   ·have hr:=Lib.run_append_grow_string (P:=P) w t u ty e i (.int .u8 0) ht hu hi hz ⟨g,0,none⟩ x.length cap (byV x) (by rw[hsize,qdb,Bk]) (fun j u hu=>h.cells (g:=g) rfl j u hu) s Oo Oo (by rw[hby];exact growslice_fits Oo Oo);rw[hr]at h1;cases h1;exact fun k hk=>.inr (by rw[Ah.1 hk];exact Aq _)
 obtain⟨v',w',h1,h2,h3,h4⟩:=key;obtain⟨A',c',rfl⟩:=qa6 h2;refine⟨_,w',h1,hk A' c' w' ?_ (Chn.grown h3) fun k hk=>⟨h4 k hk,(qrk h2 k hk).2⟩⟩;rw[byV,AB,zla];exact h2
structure RowC(e:E6)(w w':Ez)(v r:E8)(y:LB):Prop where
 own:∃A c,r=.slice A y.length c
 row:w'.ownsRow 0 e 1 r y.length (byV y)
 chg:Chn (rowF v) w w'
 new:∀k∈rowF r,(k∈rowF v\/w.heap.size<=k)/\k<w'.heap.size
theorem RowC.trans{w1:Ez}{v r:E8}{y z:LB}(h:RowC e w w1 v u y)(g:RowC e w1 w' u r z):RowC e w w' v r z:=
 ⟨g.own,g.row,h.chg.trans' g.chg fun k hk=>(h.new k hk).1,fun k hk=>⟨(g.new k hk).1.elim (fun g1=>(h.new k g1).1) fun g1=>.inr (AU h.chg.size g1),(g.new k hk).2⟩⟩
theorem RowC.back{v r:E8}{y:LB}(h:RowC e w w' v r y)(he:Ext w0 w):RowC e w0 w' v r y:=
 ⟨h.own,h.row,(Chn.of _ he).trans h.chg,fun k hk=>⟨(h.new k hk).1.imp id fun g=>AU he.size g,(h.new k hk).2⟩⟩
theorem qa0{size n:Nat}{v:E8}(h:w.ownsRow base e size v n xs)(he:Ext w w'):w'.ownsRow base e size v n xs:=
 qcd h fun k hk=>he.block k (qrk h k hk).2
end V
namespace V
structure SepC(w0 w w':Ez)(Fs:List EF)(i:Nat)(F':EF):Prop where
 sep:Sep w0 w' (Fs.set i F')
 size:w.heap.size<=w'.heap.size
 keep:∀(j:Nat) (G:EF),Fs[j]?=some G->j≠i->∀k∈G,w'.heap[k]?=w.heap[k]?
theorem Sep.row{Fs:List EF}(h:Sep w0 w Fs){F':EF}(hi:Fs[i]?=some F)(hc:Chn F w w')(hn:∀k∈F',(k∈F\/w.heap.size<=k)/\k<w'.heap.size):SepC w0 w w' Fs i F':=
 ⟨h.chg hi hc hn,hc.size,fun _ _ hj hji=>h.keep hi hc hj (fun e=>hji e.symm)⟩
theorem AppV.cell{e:Nat}{v:E8}{n:Nat}{t e2:E6}{fr:Nat×Nat}{i:TypeInfo}(ht:P.underlying t=some (.slice e))(hi:P.info? e=some i)(hz:i.zero=some z)(hsize:i.size=1)(hzs:z.cells.size=1)(hby:i.bytes<=16)(h:w.ownsRow 0 e 1 v n xs)(hb:w.heap[nb]?=some (.cells #[x] e2 fr))(hx:x.oneCell'=true)(hn:n+1<=8000000000000)(hk:∀A' c' w',w'.ownsRow 0 e 1 (.slice A' (n+1) c') (n+1) (xs++[x])->Chn (rowF v) w w'->(∀k∈rowF (.slice A' (n+1) c'),(k∈rowF v\/w.heap.size<=k)/\k<w'.heap.size)->K (.slice A' (n+1) c') w'):AppV P #[t,t] ty v (.slice (some ⟨nb,0,none⟩) 1 1) w K:=by
 refine AppV.row (news:=[x]) ht hi hz hsize hzs Od h rfl (fun _=>⟨nb,0,rfl,fun k v hv=>?_⟩) (fun u hu=>by simp at hu;rw[hu];exact hx) (AU (BT hn hby) Od) Oo hk;rw[qa hb,Aw]
 simpa using hv
end V
theorem q9f{f:Nat->Nat}(hr:r<=8)(h:∀s,r<=s->s<8->f (8*b+s)%2=0):byt f b<2 ^ r:=by
 have k0:r<=0->f (8*b)%2=0:=fun g=>h 0 g Od
 have k1:r<=1->f (8*b+1)%2=0:=fun g=>h 1 g Od
 have k2:r<=2->f (8*b+2)%2=0:=fun g=>h 2 g Od
 have k3:r<=3->f (8*b+3)%2=0:=fun g=>h 3 g Od
 have k4:r<=4->f (8*b+4)%2=0:=fun g=>h 4 g Od
 have k5:r<=5->f (8*b+5)%2=0:=fun g=>h 5 g Od
 have k6:r<=6->f (8*b+6)%2=0:=fun g=>h 6 g Od
 have k7:r<=7->f (8*b+7)%2=0:=fun g=>h 7 g Od
 unfold byt
 rcases(show r=0\/r=1\/r=2\/r=3\/r=4\/r=5\/r=6\/r=7\/r=8 by omega)with rfl|rfl|rfl|rfl|rfl|rfl|rfl|rfl|rfl<;>omega
theorem q4r{f g:Nat->Nat}(hr:r<8)(h:∀s,s<8->s≠r->f (8*b+s)%2=g (8*b+s)%2)(h0:f (8*b+r)%2=0):byt g b=byt f b+g (8*b+r)%2*2 ^ r:=by
 have k0:0≠r->f (8*b)%2=g (8*b)%2:=fun e=>h 0 Od e
 have k1:1≠r->f (8*b+1)%2=g (8*b+1)%2:=fun e=>h 1 Od e
 have k2:2≠r->f (8*b+2)%2=g (8*b+2)%2:=fun e=>h 2 Od e
 have k3:3≠r->f (8*b+3)%2=g (8*b+3)%2:=fun e=>h 3 Od e
 have k4:4≠r->f (8*b+4)%2=g (8*b+4)%2:=fun e=>h 4 Od e
 have k5:5≠r->f (8*b+5)%2=g (8*b+5)%2:=fun e=>h 5 Od e
 have k6:6≠r->f (8*b+6)%2=g (8*b+6)%2:=fun e=>h 6 Od e
 have k7:7≠r->f (8*b+7)%2=g (8*b+7)%2:=fun e=>h 7 Od e
 unfold byt
 rcases(show r=0\/r=1\/r=2\/r=3\/r=4\/r=5\/r=6\/r=7 by omega)with rfl|rfl|rfl|rfl|rfl|rfl|rfl|rfl<;>(try simp only[BH]at h0|-)<;>omega
theorem qzx{f g:Nat->Nat}(h:∀s,s<8->f (8*b+s)%2=g (8*b+s)%2):byt f b=byt g b:=by
 have k0:f (8*b)%2=g (8*b)%2:=h 0 Od;rw[byt,byt,k0,h 1 Od,h 2 Od,h 3 Od,h 4 Od,h 5 Od,h 6 Od,h 7 Od]
theorem qzs{f g:Nat->Nat}(h:∀t,t<8*m->f t%2=g t%2):qda f m=qda g m:=by
 refine DN fun b hb=>?_;have hb:=BY.1 hb;rw[qzx fun s hs=>h _ Oo]
theorem qft{f:Nat->Nat}(h:b<m):(byV (qda f m))[b]?=some (.int .u8 (byt f b)):=by
 rw[byV,Ao,qda,Ao,Bt h,B4,B4,qav (qvd f b)]
theorem qzt{f g:Nat->Nat}{e:Nat}(he:e<8*m)(h:∀t,t<8*m->t≠e->f t%2=g t%2):(byV (qda f m)).set (e/8) (.int .u8 (byt g (e/8)))=byV (qda g m):=by
 have hl:∀f,(byV (qda f m)).length=m:=fun f=>by rw[qdb,qco]
 apply BW;intro j;rw[BX]
 by_cases c:e/8=j
 ·subst c;rw[Ad rfl,Ad (by rw[hl];omega),qft Oo]
 ·rw[Aa c]
  by_cases hj:j<m
  ·rw[qft hj,qft hj,qzx fun s hs=>h _ Oo Oo]
  ·rw[Au (by rw[hl];omega),Au (by rw[hl];omega)]
def upF(F:Nat->Nat)(e t:Nat):Nat:=if t<e then F t else 0
theorem qace(F:Nat->Nat)(e:Nat):byt (upF F e) (e/8)<2 ^ (e%8):=
 q9f Oo fun s h1 h2=>by rw[upF,Aa Oo]
theorem q65(F:Nat->Nat)(e:Nat):byt (upF F (e+1)) (e/8)=byt (upF F e) (e/8)+F e%2*2 ^ (e%8):=by
 have h:=q4r (f:=upF F e) (g:=upF F (e+1)) (b:=e/8) (r:=e%8) Oo (fun s h1 h2=>by
  unfold upF
  by_cases c:8*(e/8)+s<e
  ·rw[Ad c,Ad Oo]
  ·rw[Aa c,Aa Oo]) (by rw[upF,Aa Oo])
 have e1:8*(e/8)+e%8=e:=by omega
 rw[e1]at h;rw[h]
 congr 2
 rw[upF,Ad Oo]
theorem q3s{F:Nat->Nat}{e:Nat}(he:e<8*m):(byV (qda (upF F e) m)).set (e/8) (.int .u8 (byt (upF F e) (e/8)+F e%2*2 ^ (e%8):Nat))=byV (qda (upF F (e+1)) m):=by
 rw[<-q65];refine qzt he fun t _ h2=>?_;unfold upF
 by_cases c:t<e
 ·rw[Ad c,Ad Oo]
 ·rw[Aa c,Aa Oo]
theorem qw7(F:Nat->Nat)(m:Nat):byV (qda (upF F 0) m)=qca [Value.int .u8 0] m:=by
 rw[qzi,List.eq_replicate_iff];refine⟨by rw[qdb,qco],fun v hv=>?_⟩;obtain⟨j,hj⟩:=Bi.1 hv;have hl:=(Ae.1 hj).1;rw[qdb,qco]at hl;rw[qft hl]at hj;have e:byt (upF F 0) j=0:=by
  have:∀t,upF F 0 t=0:=fun t=>by rw[upF,Aa (Cn _)]
  unfold byt;simp only[this]
 rw[e]at hj;exact(BB hj).symm
theorem q8e{f:Nat->Nat}(e x:Nat):qex .or .u8 ((byt (upF f e) (e/8):Nat):Int) ((x%2*2 ^ (e%8):Nat):Int)=((byt (upF f e) (e/8)+x%2*2 ^ (e%8):Nat):Int):=by
 have h1:=qace f e;have h2:2 ^ (e%8)<=2 ^ 7:=Bs Od Oo;have h3:x%2*2 ^ (e%8)<=1*2 ^ (e%8):=BI _ Oo;refine qc2 (k:=.u8) (e%8) (qgf ?_) h1;show byt (upF f e) (e/8)+_<256;have e7:(2:Nat) ^ 7=128:=by decide
 omega
theorem q59(l:EF)(w:Nat):qda (upF (fun t=>l.getD (t/w) 0/2 ^ (t%w)) (l.length*w)) ((l.length*w+7)/8)=qde l w:=by
 refine qzs fun t ht=>?_;unfold upF
 by_cases c:t<l.length*w
 ·rw[Ad c]
 ·rw[Aa c];have hw:0<w:=by
   rcases BZ w with e|e
   ·subst e;simp at ht
   ·exact e
  have:l.length<=t/w:=(Nat.le_div_iff_mul_le hw).2 Oo;show _=l.getD (t/w) 0/2 ^ (t%w)%2;rw[Ag,Au this];simp
theorem q7n{x w:Nat}(hx:x<2 ^ w)(hw:w<=64):qao x<=w:=qc5 w x hx hw
def pkF(ps:EF)(wd t:Nat):Nat:=ps.getD (t/wd) 0/2 ^ (t%wd)
def pkC(ps:EF)(wd e:Nat):EE:=byV (qda (upF (pkF ps wd) e) ((ps.length*wd+7)/8))
theorem qabh(ps:EF)(wd e:Nat):(pkC ps wd e).length=(ps.length*wd+7)/8:=by rw[pkC,qdb,qco]
theorem q6c(ps:EF)(wd:Nat):pkC ps wd 0=qca [Value.int .u8 0] ((ps.length*wd+7)/8):=qw7 _ _
theorem qady{e:Nat}(h:e<ps.length*wd):(pkC ps wd e)[e/8]?=some (.int .u8 (byt (upF (pkF ps wd) e) (e/8))):=qft Oo
theorem qabi{e:Nat}(h:e<ps.length*wd):(pkC ps wd e).set (e/8) (.int .u8 (byt (upF (pkF ps wd) e) (e/8)+pkF ps wd e%2*2 ^ (e%8):Nat))=pkC ps wd (e+1):=q3s Oo
theorem qabg(ps:EF)(wd:Nat):pkC ps wd (ps.length*wd)=byV (qde ps wd):=by rw[pkC];exact Af byV (q59 ps wd)
theorem qadz(hk:k<wd):pkF ps wd (i*wd+k)=ps.getD i 0/2 ^ k:=by
 have e1:(i*wd+k)/wd=i:=by rw[CD,Nat.mul_add_div Oo,Et hk,BH]
 have e2:(i*wd+k)%wd=k:=by rw[CD,Nat.mul_add_mod,BD hk]
 rw[pkF,e1,e2]
theorem NewS.blk{n:Nat}(he:Ext w w')(hb:w.heap.size<=b)(ho:w'.heap[b]?=some (.cells (byV l).toArray e))(hn:l.length=n):NewS e w w' (.slice (some ⟨b,0,none⟩) n n) l:=by
 subst hn;refine⟨he,⟨_,_,rfl,Aq _,.inr ⟨b,_,rfl,ho,by rw[CK,qdb];exact Aq _,?_⟩⟩,fun k hk=>?_⟩
 ·rw[AF (by rw[qdb];exact Aq _)]
 ·rw[Ah.1 hk];exact⟨hb,qiu ho⟩
def txs(L:List E0):List LB:=L.map fun s=>s.data.toList
theorem qg0(L:List E0):(txs L).length=L.length:=by rw[txs,AC]
theorem qnj{L:List E0}(h:i<L.length):tx (txs L) i=L[i].data.toList:=by
 rw[tx,Ag,txs,Ao,zge h];rfl
theorem qacc{L:List E0}(h:L.length<=i):tx (txs L) i=[]:=by
 rw[tx,Ag,txs,Ao,Au h];rfl
theorem qkm{L:List E0}(h:i<L.length):(tx (txs L) i).length=L[i].size:=by rw[qnj h];rfl
open Classical in
noncomputable def chkD(L:List LB):Nat:=
 if 4194304<L.length\/∃i,262144<(tx L i).length then 2 else if ∃i,i+1<L.length/\leL (tx L (i+1)) (tx L i)=true then 160 else 0
theorem qac0{L:List LB}(h:¬4194304<L.length)(h2:∀i,¬262144<(tx L i).length)(hi:i+1<L.length)(hl:leL (tx L (i+1)) (tx L i)=true):chkD L=160:=by
 rw[chkD,Aa (fun g=>g.elim h fun⟨i,g⟩=>h2 i g),Ad ⟨i,hi,hl⟩]
theorem q9l{L:List LB}(h:¬4194304<L.length)(h2:∀i,¬262144<(tx L i).length)(h3:∀i,i+1<L.length->leL (tx L (i+1)) (tx L i)=false):chkD L=0:=by
 rw[chkD,Aa (fun g=>g.elim h fun⟨i,g⟩=>h2 i g),Aa (fun⟨i,hi,g⟩=>by rw[h3 i hi]at g;cases g)]
theorem qqh{L:List LB}(h:chkD L=0):L.length<=4194304/\(∀i,(tx L i).length<=262144)/\(∀i,i+1<L.length->leL (tx L (i+1)) (tx L i)=false):=by
 rw[chkD]at h
 split at h
 ·cases h
 ·rename_i g
  split at h
  ·cases h
  ·rename_i g2
   refine⟨Nat.le_of_not_lt fun e=>g (.inl e),fun i=>Nat.le_of_not_lt fun e=>g (.inr ⟨i,e⟩),fun i hi=>?_⟩;cases e:leL (tx L (i+1)) (tx L i)with
   | false=>rfl
   | true=>exact absurd ⟨i,hi,e⟩ g2
theorem qvl(L:List LB):dicE L=if chkD L=0 then(if 67108864<(qam L).length then 1 else 0)else chkD L:=by
 rw[dicE,chkD]
 split
 ·rfl
 ·split
  ·rfl
  ·rfl
theorem q41{L:List LB}(h:chkD L=0)(h2:(qam L).length<=67108864):dicE L=0:=by rw[qvl,Ad h,Aa Oo]
theorem qqm{L:List LB}(h:chkD L=0)(h2:67108864<(qam L).length):dicE L=1:=by rw[qvl,Ad h,Ad h2]
def plcN(L:List LB)(i:Nat):EF:=(List.range (upN i 16)).map fun k=>(arL L (16*k)).length
theorem qwi(L:List LB)(h:i%16=0):plcN L (i+1)=plcN L i++[(arL L i).length]:=by
 have e1:upN (i+1) 16=upN i 16+1:=by unfold upN;omega
 have e2:16*upN i 16=i:=by unfold upN;omega
 rw[plcN,e1,DB,AB,List.map_singleton,e2];rfl
theorem qrp(L:List LB)(h:i%16≠0):plcN L (i+1)=plcN L i:=by
 have e1:upN (i+1) 16=upN i 16:=by unfold upN;omega
 rw[plcN,e1];rfl
theorem q4g(L:List LB)(h:i<=j):(arL L i).length<=(arL L j).length:=by
 obtain⟨r,hr⟩:=qnu L h;rw[hr,zla];omega
theorem q89(L:List LB)(h:i%16=0):arL L (i+1)=arL L i++(varL (tx L i).length++tx L i):=by
 rw[arL,entE,Ad (Az h)]
theorem q4f(L:List LB)(h:i%16≠0):arL L (i+1)=arL L i++(varL (comL (tx L (i-1)) (tx L i))++(varL ((tx L i).length-comL (tx L (i-1)) (tx L i))++(tx L i).drop (comL (tx L (i-1)) (tx L i)))):=by
 rw[arL,entE,Aa (by rw[AH h];decide),Aa (show ¬i=0 by omega)]
theorem q9u{first:Bool}{a s:LB}(ha:a.length<=262144)(hs:s.length<=262144):(entE first a s).length<=262164:=by
 have hc:=qkt a s;have v1:=qbe 8 (comL a s) (Ca (AU hc.1 ha) Od);have v2:=qbe 8 (s.length-comL a s) (Ca (AU (Nat.sub_le _ _) hs) Od);have v3:=qbe 8 s.length (Ca hs Od);cases first with
 | true=>rw[entE,Ad rfl,zla];omega
 | false=>rw[entE,Aa Od,zla,zla,zld];omega
theorem q7q{L:List LB}(h:∀i,(tx L i).length<=262144):∀i,(arL L i).length<=i*262164
 | 0=>Aq _
 | i+1=>by
  have h1:=q7q h i;have h2:(if i=0 then[]else tx L (i-1)).length<=262144:=by
   split
   ·exact Am _
   ·exact h _
  have h3:=q9u (first:=decide (i%16=0)) h2 (h i);rw[arL,zla,CW];omega
theorem q7m{n:Nat}(h:n<=67108864):qao n<=27:=qc5 27 n (Ca h Od) Od
theorem qz7{L:List LB}(hn:L.length<=4194304)(ha:(qam L).length<=67108864):(qp L).length<=70000000:=by
 have v1:=qbe 8 L.length (Ca hn Od);have v2:=qbe 8 (qam L).length (Ca ha Od);have hw:=q7m ha;have hp:=qce (plcL L) (qao (qam L).length);rw[qkf]at hp;have hm:upN L.length 16*qao (qam L).length<=262144*27:=BT (by unfold upN;omega) hw;rw[qp,zla,zla,zla,hp];omega
theorem qaad{L:List E0}(hi:i<L.length)(hj:j<L.length):leL (tx (txs L) i) (tx (txs L) j)=(slt L[i] L[j]||seq L[i] L[j]):=by
 rw[qnj hi,qnj hj];rfl
theorem q8k{a b:E0}:slt a b=false↔(slt b a||seq b a)=true:=by
 rw[<-D0,qeo,CA,qeo,qac,List.not_lt]
 constructor
 ·intro h
  rcases List.le_iff_lt_or_eq.1 h with h|h
  ·exact .inl h
  ·exact .inr (qc9 h)
 ·rintro(h|h)
  ·exact List.le_of_lt h
  ·rw[h];exact List.le_refl _
def u64V(l:EF):EE:=l.map fun n=>Value.int .u64 (n:Nat)
theorem qes(l:EF):(u64V l).length=l.length:=by simp[u64V]
theorem qpc{α:Type}{f:α->E8}{n:Nat}{l:List α}(h:w.ownsRow base e 1 (.slice A n c) n (l.map f))(hn:l.length=n):SlAt (fun x=>[f x]) 1 w A l:=by
 subst hn;refine⟨fun hne=>?_⟩
 rcases h.2 with⟨e1,e2⟩|⟨g,cap,cur,e1,_,h2,_,_,h5,h6⟩
 ·exact absurd (AW e2) hne
 ·cases e1;refine⟨g,0,rfl,fun j x hx k v hv=>?_⟩;cases k with
  | succ k=>simp at hv
  | zero=>
   simp only[B9,Bp]at hv;subst hv;have hj:=(Ae.1 hx).1;have h7:(l.map f)[j]?=some (f x):=by rw[Ao,hx];rfl
   rw[<-h6,Bc,Ad Oo]at h7;rw[qa h2,Aw,Bk,BH]
   simpa using h7
theorem q2e{n:Nat}{l:EF}(h:w.ownsRow base 125 1 (.slice A n c) n (u64V l))(hn:l.length=n):SlAt encU 1 w A l:=qpc (f:=fun x:Nat=>Value.int .u64 (x:Nat)) h hn
theorem q3q{L:List E0}(h:chkD (txs L)=0)(hi:i<L.length):L[i].size<=262144:=by rw[<-qkm hi];exact(qqh h).2.1 i
theorem qzp{L:List LB}(h:chkD L=0)(hi:i<=L.length):(arL L i).length<=1200000000000:=by
 obtain⟨h1,h2,_⟩:=qqh h;have h3:=q7q h2 i;have h4:i*262164<=4194304*262164:=BI _ Oo;omega
def DBuR(L:List LB)(w w':Ez)(r:E8):Prop:=
 (dicE L≠0/\r=.tuple #[.slice none 0 0,ii (dicE L)]/\Ext w w')\/(dicE L=0/\∃v,r=.tuple #[v,ii 0]/\NewS 5 w w' v (qp L))
namespace V
theorem qy1{t:E6}(hg:w.heap[b]?=some (.cells cur t)):Chn [b] w (w.setRow b cs)/\(w.setRow b cs).heap[b]?=some (.cells cs t):=
 ⟨⟨rfl,rfl,rfl,by simp[World.setRow],fun k _ hn=>qw fun e=>hn (by rw[e];exact Ah.2 rfl)⟩,qcl hg⟩
theorem StoreA.blk{t:E6}{K:EC}(hg:w.heap[b]?=some (.cells cur t))(hl:off+vs.length<=cur.size)(h1:∀v∈vs,v.oneCell'=true)(hk:∀w',Chn [b] w w'->w'.heap[b]?=some (.cells (cur.toList.take off++vs++cur.toList.drop (off+vs.length)).toArray t)->K w'):StoreA P w b off vs K:=by
 have hr:=run_storeCells_at P b off t vs 0 cur w hg (by simpa using hl) h1;simp only[BH]at hr;obtain⟨h2,h3⟩:=qy1 (cs:=(cur.toList.take off++vs++cur.toList.drop (off+vs.length)).toArray) hg;exact⟨_,hr,hk _ h2 h3⟩
end V
def entA(t:TM):E0:=⟨(qae t).toArray⟩
def secA(T:List TM)(k:Nat):List E0:=(T.filter fun t=>decide (t.kind=((k+1:Nat):Int))).map entA
theorem q6s(T:List TM)(k:Nat):txs (secA T k)=secE T k:=by
 rw[txs,secA,secE,DH];rfl
theorem q6q{t:TM}(h:t.kind=((k+1:Nat):Int)):secA (T++[t]) k=secA T k++[entA t]:=by
 rw[secA,Ct,AB,DV (by simpa using h)];rfl
theorem q26{t:TM}(h:t.kind≠((k+1:Nat):Int)):secA (T++[t]) k=secA T k:=by
 rw[secA,Ct,AB,List.filter_cons_of_neg (by simpa using h)];exact AI _
theorem q6r(T:List TM)(k:Nat):(secA T k).length<=T.length:=by
 rw[secA,AC];exact Cb _ _
def vocW(T:List TM):Nat->LB
 | 0=>[]
 | k+1=>vocW T k++varL (qp (secE T k)).length
theorem qacj(T:List TM):vocB T=((vocW T 3++qp (secE T 0))++qp (secE T 1))++qp (secE T 2):=by
 simp only[vocB,jo3,vocW,Br,Ak]
theorem V.SlAt.keep{α:Type}{enc:α->EE}{size:Nat}{l:List α}(h:SlAt enc size w A l)(hk:∀k∈rowF (.slice A 0 0),w'.heap[k]?=w.heap[k]?):SlAt enc size w' A l:=by
 refine⟨fun hn=>?_⟩;obtain⟨b,off,rfl,h4⟩:=h.at_ hn;refine⟨b,off,rfl,fun j x hx k u hu=>?_⟩;have:=h4 j x hx k u hu;rw[<-this,World.cell?_of_block];exact hk b (Ah.2 rfl)
def strV(L:List E0):EE:=L.map Value.string
section
variable {w w1 w2:Ez} {B:oA} {T:List TM} {xb tb:Nat} {t:TM} {U V:EB} {L:Nat->List E0}
end
section
variable {w w1 w':Ez} {B:oA} {T:List TM} {xb tb:Nat} {t:TM} {V:EB} {L:Nat->List E0} {k:Nat} {s:E0} {s7 s9 s10 s12:Bool} {v9 v10:E8}
end
theorem quc(h:valE qs=0):(tmsQ qs).length<=4194304:=by
 have h1:=que qs;have h2:=ql7 (trms qs).length (trms qs);have h3:=(qdh h).1;have h4:(tmsQ qs).length=(tmsN (trms qs).length (trms qs)).length:=rfl;omega
theorem qyj{q:Q4}(h:qa9 q){t:TM}(ht:t∈trQ q):TermOk t:=by
 unfold trQ at ht
 rcases Ba.1 ht with ht|ht
 ·simp only[AD,Cu,or_false]at ht
  rcases ht with rfl|rfl|rfl
  ·exact h 0
  ·exact h 1
  ·exact h 2
 ·split at ht
  ·cases ht
  ·simp only[AD,Cu,or_false]at ht;subst ht;exact h 3
theorem CellsAt.heap(h:w.heap[b]?=some (.cells vs.toArray e)):CellsAt w b 0 vs:=by
 intro k v hv;rw[qa h,Aw,Ar];exact hv
theorem qob{L:List LB}(h:dicE L=0):(qp L).length<=70000000:=qz7 (qkv h).n (qkv h).area
theorem qut{T:List TM}:∀{i:Nat},i<=3->(∀j,j<i->dicE (secE T j)=0)->(vocW T i).length<=10*i
 | 0,_,_=>Aq _
 | i+1,h,hd=>by
  have h1:=qut (T:=T) (i:=i) Oo fun j hj=>hd j Oo
  have h2:=qob (hd i Oo);have h3:=qbe 9 (qp (secE T i)).length Oo;rw[vocW,zla];omega
section
variable {d:LB} {n:Nat} (hn:n<=67108864) (hd:d.length=upN n 8) (hp:¬PadB d n)
include hn hd hp
omit hn hp in
theorem q35:(qar d n).length=qch n (cnt d n):=by
 rw[qfs,hd];unfold qch qdn qbi qaa;omega
end
section
variable {d:LB} {n:Nat} (hn:n<=67108864) (hd:d.length=upN n 8) (hp:¬PadB d n)
include hn hd
end
namespace V
end V
def idsE(q:Nat->Nat):EE:=[ii (q 0:Nat),ii (q 1:Nat),ii (q 2:Nat),ii (q 3:Nat)]
theorem qeg(q:Nat->Nat)(hk:k<4):(idsE q)[k]?=some (ii (q k:Nat)):=by
 rcases(show k=0\/k=1\/k=2\/k=3 by omega)with rfl|rfl|rfl|rfl<;>rfl
theorem q5l(q:Nat->Nat):∀v∈idsE q,v.oneCell'=true:=by simp[idsE,Value.oneCell']
def idsW(q:Nat->Nat):E8:=.agg #[ii (q 0:Nat),ii (q 1:Nat),ii (q 2:Nat),ii (q 3:Nat)]
theorem TOk.small{n:Nat}(h:TOk Q n)(hi:i<n)(hk:k<4):Q i k<=4194304:=(h.num i k hi hk).2
def eT(m:Nat):E6:=if m%2=0 then 125 else 5
def rwF(Z:EF)(rb:Nat)(G:EB):List EF:=Z::[rb]::(List.range 8).map fun m=>rowF (G m)
theorem qwr(Z:EF)(rb:Nat)(G:EB)(hm:m<8):(rwF Z rb G)[m+2]?=some (rowF (G m)):=by
 show((List.range 8).map fun m=>rowF (G m))[m]?=_;rw[Ao,Bt hm];rfl
theorem qabv(Z:EF)(rb:Nat)(G:EB)(v:E8):(rwF Z rb G).set (m+2) (rowF v)=rwF Z rb (updF G m v):=by
 show Z::[rb]::((List.range 8).map fun m=>rowF (G m)).set m (rowF v)=Z::[rb]::(List.range 8).map fun m'=>rowF (updF G m v m')
 congr 2
 refine BW fun j=>?_;rw[BX,Ao,Ao]
 by_cases h:j<8
 ·rw[Bt h]
  by_cases e:m=j
  ·subst e;rw[Ad rfl,Ad (by simpa using h),B4,qg1]
  ·rw[Aa e,B4,B4,qak _ _ _ _ (fun g=>e g.symm)]
 ·rw[Au (by simpa using h)]
  split
  ·rw[Aa (by rename_i e;subst e;simpa using h)];rfl
  ·rfl
def updR(L:Nat->EE)(m:Nat)(x:EE):Nat->EE:=fun j=>if j=m then x else L j
theorem qjg(L:Nat->EE)(m:Nat)(x:EE):updR L m x m=x:=Ad rfl
theorem qfr(L:Nat->EE)(m:Nat)(x:EE)(h:j≠m):updR L m x j=L j:=Aa h
section
variable {w w1 w2:Ez} {Z:EF} {rb:Nat} {U G:EB} {L:Nat->EE}
end
theorem qaa6{n:Nat}{v:E8}(h:w.ownsRow base e 1 (.slice A n c) n xs)(hA:A=some ⟨g,0,none⟩)(_:j<n)(hw:w'=w.setCell ⟨g,j,none⟩ v):w'.ownsRow base e 1 (.slice A n c) n (xs.set j v)/\Chn [g] w w':=by
 subst hA;have hxl:=h.1
 rcases h.2 with⟨e1,e2⟩|⟨g',cap,cur,e1,hb,hg,h2,h3,h4,h5⟩
 ·cases e1
 ·cases e1;obtain⟨hc,hg2⟩:=Chn.set hg hw;refine⟨⟨by simp[hxl],.inr ⟨g,c,_,rfl,hb,hg2,h2,h3,by simp[h4],?_⟩⟩,hc⟩;rw[<-h5];simp[List.take_set]
def stJ(Q:Nat->Nat->Nat)(j i:Nat):List Bool:=if j=0 then List.replicate (leT Q 0 i) false else stT Q (j-1) i
theorem qgz(Q:Nat->Nat->Nat)(j i:Nat):(stJ Q j i).length=leT Q j i:=by
 rw[stJ]
 split
 ·rename_i h;subst h;exact List.length_replicate
 ·rw[qbr,Ch Oo]
theorem qab3(Q:Nat->Nat->Nat)(h:j≠0)(i:Nat):stJ Q j i=stT Q (j-1) i:=Aa h
theorem q6w(h:frU Q i j=false):stJ Q j (i+1)=stJ Q j i:=by
 rw[stJ,stJ]
 split
 ·rename_i h0;subst h0;rw[qbl h]
 ·rw[stT,Ch Oo,Aa (by rw[h];decide)]
theorem qab2(h:frU Q i j=true):stJ Q j (i+1)=stJ Q j i++[if j=0 then false else frU Q i (j-1)]:=by
 rw[stJ,stJ]
 split
 ·rename_i h0;subst h0;rw[qa4 h,List.replicate_succ']
 ·rw[stT,Ch Oo,Ad h]
theorem qaax(h:frU Q i j=true):nuT Q j (i+1)=nuT Q j i++[Q i j]:=by rw[nuT,Ad h]
theorem q55(h:frU Q i j=false):nuT Q j (i+1)=nuT Q j i:=by rw[nuT,Aa (by rw[h];decide)]
section
variable {w w1 w2:Ez} {Z:EF} {rb:Nat} {U G:EB} {L:Nat->EE}
end
def trW(Q:Nat->Nat->Nat)(n:Nat):Nat->LB
 | 0=>[]
 | k+1=>trW Q n k++varL (leT Q k n)
def trX(Q:Nat->Nat->Nat)(n:Nat):Nat->LB
 | 0=>trW Q n 4
 | k+1=>trX Q n k++lvB Q n k
theorem q3o(Q:Nat->Nat->Nat)(n:Nat):trX Q n 4=qr Q n:=by
 simp only[trX,trW,qr,tlB,Br,Ak,AI]
section
variable {Q:Nat->Nat->Nat} {n:Nat} (h:TOk Q n)
include h
theorem q3n(k:Nat):(trW Q n k).length<=10*k:=by
 induction k with
 | zero=>exact Aq _
 | succ k ih=>
  have h1:=h.le k;have h2:=qbe 9 (leT Q k n) Oo;rw[trW,zla];omega
theorem qv6(hk:k<4):(lvB Q n k).length<=1100000000:=by
 have h1:=h.lvLen (k:=k);have h2:=h.le k;have h3:=h.wi hk;have h4:leT Q k n*wiT (nuT Q k n)<=1048576*23:=BT h2 h3;have h5:=h.le (k-1);rw[h1];have h6:k≠0->qch (leT Q k n) (leT Q (k-1) n)<=1000000000:=fun h0=>qus _ _ Oo (by
  have:=qq5 (Q:=Q) (k-1) n;rw[Ch Oo]at this;exact this)
 split
 ·omega
 ·rename_i h0;have:=h6 h0;omega
theorem qaee(hk:k<=4):(trX Q n k).length<=40+1100000000*k:=by
 induction k with
 | zero=>exact q3n h 4
 | succ k ih=>
  have h1:=ih Oo;have h2:=qv6 h (k:=k) Oo;rw[trX,zla];omega
end
section
variable {Q:Nat->Nat->Nat} {n:Nat} {w0 w w':Ez} {b rb:Nat} {l:LB} {vs:EE} {NA LA:Nat->oA} {Z:EF}
end
theorem qadv{n:Nat}(h:TOk Q n)(hk:k<4):∀x∈nuT Q k n,x<2 ^ wiT (nuT Q k n):=fun x hx=>by
 obtain⟨e,he,rfl⟩:=Cw.1 hx;have h1:=q16 (h.big hk) (e:=e) he;rw[Ag,zge he]at h1;exact h1
theorem qaa4{α:Type}{enc:α->EE}{size:Nat}(henc:∀x,(enc x).length=size){n:Nat}{l:List α}(h:w.ownsRow base e size (.slice A n c) n ((l.map enc).flatten))(hn:l.length=n):SlAt enc size w A l:=by
 subst hn;refine⟨fun hne=>?_⟩
 rcases h.2 with⟨e1,e2⟩|⟨g,cap,cur,e1,_,h2,_,_,h5,h6⟩
 ·exact absurd (AW e2) hne
 ·cases e1;refine⟨g,0,rfl,fun j x hx k v hv=>?_⟩;have hj:=(Ae.1 hx).1;have hk:k<size:=by rw[<-henc x];exact(Ae.1 hv).1
  have h7:=qc7 enc size henc l j x k hx hk;have h8:j*size+k<l.length*size:=by
   have:(j+1)*size<=l.length*size:=BI _ hj;rw[CW]at this;omega
  rw[<-h6,Bc,Ad h8,hv]at h7;rw[qa h2,Aw]
  simpa using h7
theorem q5k(q:Nat->Nat):(idsE q).length=4:=rfl
def qv3(T:List TM)(qs:List Q4)(i:Nat):EE:=(((List.range i).map (noQ T qs)).map idsE).flatten
theorem qs3(T:List TM)(qs:List Q4){q:Q4}(h:qs[i]?=some q):qv3 T qs (i+1)=qv3 T qs i++idsE fun k=>noT T (gat q k):=by
 have e:noQ T qs i=fun k=>noT T (gat q k):=funext fun k=>qhm h
 simp[qv3,DB,e]
def EncR(qs:List Q4)(most:Int)(w w':Ez)(r:E8):Prop:=
 (encE qs most≠0/\r=.tuple #[.slice none 0 0,ii (encE qs most:Nat)]/\Ext w w')\/(encE qs most=0/\∃v,r=.tuple #[v,ii 0]/\NewS 5 w w' v (pkB qs))
namespace V
theorem RunV.eqQd{a b:Q4}(h:K (.bool (qc0 a b)) w):
  RunV EG (do eqGuard .eql 26 xo yo (qk a) (qk b);binOp .eql 26 (qk a) (qk b)) w K:=by
 refine⟨_,w,?_,h⟩;rw[Sem.run_bind,qk,qk,run_eqGuard_agg w .eql _ xo yo _ _ q0x,Result.andThen_ok];have e:=qgl 9997 a b w;simp only[qk]at e;rw[run_eql_struct,e];rfl
end V
theorem q2p(qs:List Q4):((qs.map qd).flatten).length=qs.length*16:=qef qd 16 qa7 qs
theorem qxh(hat:∀j x,qs[j]?=some x->CellsAt w b (off+j*16) (qd x)):CellsAt w b off ((qs.map qd).flatten):=qea (enc:=qd) (size:=16) Od qa7 hat
structure PartE where
 x:Option (Nat×Nat×Nat×Nat)
 qs:List Q4
def ptE(e:PartE):E8:=match e.x with
 | none=>.pointer none
 | some (x,_,_,_)=>.pointer (some ⟨x,0,none⟩)
def qji(e:PartE):Prop:=match e.x with
 | none=>e.qs=[]
 | some _=>EncOk (tmsQ e.qs) e.qs
def PartAt(w:Ez)(e:PartE):Prop:=match e.x with
 | none=>True
 | some (x,xp,vb,tb)=>IdxE w x xp vb tb (encP (tmsQ e.qs) e.qs)
theorem PartAt.ext{e:PartE}(h:PartAt w e)(he:Ext w w'):PartAt w' e:=by
 obtain⟨x,qs⟩:=e;cases x with
 | none=>trivial
 | some x=>exact IdxE.ext h he
structure EaΦ(es:List PartE)(p:Q4)(b2:Nat)(w:Ez):Prop where
 P:∀e∈es,PartAt w e
 G:GlobS w
 c2:CellsAt w b2 0 (qd p)
def EaΦ0(es:List PartE)(b1:Nat)(w:Ez):Prop:=∃A c,w.cell? ⟨b1,0,none⟩=some (.slice A es.length c)/\SlAt encV 1 w A (es.map ptE)
noncomputable def eacE(es:List PartE)(p:Q4):List (Q4×EF):=eacC cmpQ (totC (es.map fun e=>e.qs.filter (fitQ p))) (es.map fun e=>e.qs.filter (fitQ p))
def nsV(ns:EF):EE:=ns.map fun n:Nat=>ii n
def EaR(E:List (Q4×EF))(k:Nat)(r:EE)(Y:ED):Prop:=∃q ns v,E[k]?=some (q,ns)/\r=[qk q,v]/\RowX 3 1 v ns.length (nsV ns) Y
theorem EncOk.idIn(h:EncOk T qs)(p:Q4):∀k,k<4->InR .i64 (idP T p k):=fun k _=>by
 have h1:=h.set.few;rw[idP,idT]
 split
 ·exact⟨by omega,by omega⟩
 ·have h2:noT T (gat p k)<=T.length+1:=by
   rw[noT]
   split
   ·exact Am _
   ·exact Nat.succ_le_succ List.findIdx_le_length
  exact⟨by omega,by omega⟩
theorem qk7(A:oA)(n c:Nat)(p:Q4)(w:Ez):Gv EG 8 [.slice A n c,qk p] w fun r w'=>
  ∃b1 b2,r=.func (.func 29) #[] #[pp b1,pp b2]/\Mem w w' [(b2,.cells (qd p).toArray 26),(b1,.cells #[.slice A n c] 28)]:=by
 refine ze Tryz.func8 Tryz.ntmps8 ?_;refine znm (Mem.nil w) fun b1 w1 hm=>zw ?_;refine znm hm fun b2 w2 hm=>zw ?_;exact⟨b1,b2,rfl,hm⟩
theorem qs2(hJ:Carr J)(e:PartE)(he:qji e)(p:Q4)(hp:qa9 p)(hΦ:∀X w,J X w->PartAt w e/\GlobS w)(X:ED)(w:Ez)(h0:J X w):
  Gv EG 31 [ptE e,qk p] w fun r w'=>∃b Y,r=pp b/\PulX b (e.qs.filter (fitQ p)) Y/\J (Y++X) w':=by
 obtain⟨x,qs⟩:=e;cases x with
 | none=>
  have h:qs=[]:=he;subst h;exact qs1 hJ p X w h0
 | some x=>
  obtain⟨x,xp,vb,tb⟩:=x;have h:EncOk (tmsQ qs) qs:=he;exact qxt hJ (tmsQ qs) qs h x xp vb tb p hp (h.idIn p) (fun X w g=>hΦ X w g) X w h0
theorem q6g(ps:EF)(p:Nat):((ps++[p]).map qqq).flatten=(ps.map qqq).flatten++[pp p]:=by simp[qqq]
theorem q10(es:List PartE)(hes:∀e∈es,qji e)(hn:es.length<=1048576)(p:Q4)(hp:qa9 p)(b1 b2:Nat):
  SeqH EG 29 [pp b1,pp b2] (eacE es p).length (EaR (eacE es p)) (EaΦ0 es b1) (EaΦ es p b2):=by
 intro y I Ix w cI cIx hI h00 h0 hy;obtain⟨A,c,hc1,hSA⟩:=h00;have t1:tsz EG 41=1:=by kernel_rfl
 have t2:tsz EG 80=1:=by kernel_rfl
 have hml:(es.map ptE).length=es.length:=AC ..;have hone:∀v∈es.map ptE,v.oneCell'=true:=fun v hv=>by
  obtain⟨e,_,rfl⟩:=AY.1 hv;unfold ptE
  split<;>rfl
 have hcl:=qyz (es.map ptE) A c w hSA hone Oo;rw[hml]at hcl;refine gvW Jk Tryz.func29 rfl Tryz.ntmps29 rfl (zw ?_);refine LoadV.of hc1 (zw ?_);refine zcv hcl ?_;rintro r w1 ⟨ho,he1⟩;obtain⟨Yc,hRc,h0⟩:=(cI 0).row h0 he1 ho;clear ho hcl hc1 hSA he1;obtain⟨Ac,cc,ec⟩:=hRc.slice;subst ec;(conv=>whnf);refine qtc (fun s:Nat×E8×EF×ED×ED=>[(0,.func (.yield y) #[] #[]),(2,pp b2),(4,s.2.1),(13,.slice Ac es.length cc),(14,ii es.length),(15,ii s.1)])
  (fun s w'=>s.1<=es.length/\s.2.2.1.length=s.1/\RowX 80 1 s.2.1 s.1 (s.2.2.1.map qqq).flatten s.2.2.2.1/\PulsX s.2.2.1 ((es.take s.1).map fun e=>e.qs.filter (fitQ p)) s.2.2.2.2/\I 0 (s.2.2.2.1++(s.2.2.2.2++Yc)) w') (fun s=>es.length-s.1) (0,.slice none 0 0,[],[],[])
  fq ⟨Am _,rfl,RowX.nil _ _,by rw[Bz];rfl,by rw[AI]at h0;exact h0⟩ ?_
 clear h0;rintro⟨i,v,ps,Yl,Xp⟩ w2 ρ' ⟨hi,hpl,hRl,hPs,h0⟩;dsimp only at hi hpl hRl hPs h0|-;obtain⟨Al,cl,el⟩:=hRl.slice;subst el;(conv=>whnf);refine zC (fun _=>zw ?_) (fun _=>zw ?_)
 case' refine_1=>
  have hil:i<es.length:=by omega
  have hoc:=hRc.mem (cI 0) h0 (fun x hx=>Ai _ (Ai _ hx));rw[<-qqr (es.map ptE)]at hoc;obtain⟨hSc,_⟩:=qb5 (enc:=encV) (fun _=>rfl) hoc hml;obtain⟨g,off,rfl,hat⟩:=hSc.at_ (by intro e;rw[e]at hml;simp at hml;omega);obtain⟨e,ee⟩:∃e,e=es[i]:=⟨_,rfl⟩
  have hei:es[i]?=some e:=by rw[ee];exact zge hil
  have hem:=zmg hei;have hce:=hat i (ptE e) (by rw[Ao,hei];rfl);refine⟨⟨g,off,i,rfl,by omega,by omega,?_⟩⟩;rw[t1];(conv=>whnf);refine LoadV.cell0 hce ?_;obtain⟨xa,exa⟩:∃a,ptE e=.pointer a:=by
   unfold ptE
   split
   ·exact⟨_,rfl⟩
   ·exact⟨_,rfl⟩
  have hga:=qs2 (cI 0) e (hes e hem) p hp (fun X w g=>⟨(hI _ _ _ g).P e hem,(hI _ _ _ g).G⟩) _ w2 h0;rw[exa]at hga|-;(conv=>whnf);refine LoadA.cells (vs:=qd p) (hI _ _ _ h0).c2 rfl (zw ?_);refine zcv hga ?_;clear h0 hoc hSc hat hce hga;rintro r w3 ⟨b,Yp,rfl,hpu,h0⟩;(conv=>whnf);refine NewV.carr (cI 0) h0 ?_;clear h0;intro nb w4 h0;have h0:I 0 (Yl++((nb,.cells #[pp b] 80)::(Yp++(Xp++Yc)))) w4:=(cI 0).perm h0 (by
   refine List.Perm.trans (List.Perm.cons _ ?_) BO.symm;rw[<-Ak Yp Yl,<-Ak Yl Yp];exact AE.append_right _)
  (conv=>whnf);refine AppV.carr (m:=1) (news:=[pp b]) (cI 0) h0 hRl plSl plI plZ Jk Jk Od rfl (fun _=>⟨nb,0,rfl,fun j u hu=>by rw[qa ((cI 0).get h0 (Ai _ mh)),Aw,Ar];exact hu⟩) (fun u hu=>by rw[Ah.1 hu];rfl) (by rw[show((EG.info? 80).get Jk).bytes=8 from by kernel_rfl];omega) Oo ?_;clear h0;intro A' c' Y' w5 hR' h0;refine zu ?_;have h1:=(cI 0).dropM h0;refine⟨rfl,(i+1,.slice A' (i+1) c',ps++[b],Y',Xp++Yp),fq,⟨by dsimp only;omega,by simp[hpl],?_,?_,?_⟩,by dsimp only;omega⟩
  ·dsimp only;rw[q6g];exact hR'
  ·dsimp only;rw[BJ,hei,AB];exact hPs.snoc hpu
  ·dsimp only;refine(cI 0).perm h1 (Cl _ ?_);rw[<-Ak];exact AE.append_right _
 obtain rfl:i=es.length:=by omega
 rw[Bg]at hPs;obtain⟨Ls0,eLs0⟩:∃Ls0,Ls0=es.map fun e=>e.qs.filter (fitQ p):=⟨_,rfl⟩
 obtain⟨E,eE⟩:∃E,E=eacE es p:=⟨_,rfl⟩
 have eE0:eacC cmpQ (totC Ls0) Ls0=E:=by rw[eE,eacE,eLs0]
 rw[<-eE]at hy|-;rw[<-eLs0]at hPs;have hlen0:Ls0.length=es.length:=by rw[eLs0,AC]
 refine qtc (fun s:Nat×List (List Q4)×ED×Nat=>[(0,.func (.yield y) #[] #[]),(4,.slice Al es.length cl)])
  (fun s w'=>s.1<=E.length/\PulsX ps s.2.1 s.2.2.1/\totC s.2.1<=s.2.2.2/\eacC cmpQ s.2.2.2 s.2.1=E.drop s.1/\I s.1 (Yl++(s.2.2.1++Yc)) w') (fun s=>E.length-s.1) (0,Ls0,Xp,totC Ls0)
  fq ⟨Am _,hPs,Aq _,by rw[BA];exact eE0,h0⟩ ?_
 clear h0 hPs;rintro⟨k,Ls,Xp,f⟩ w3 ρ' ⟨hk,hPs,hf,hE,h0⟩;dsimp only at hk hPs hf hE h0|-;have hLl:=hPs.len;have hSl:∀X w',I k (X++Yl) w'->SlAt qqq 1 w' Al ps:=fun X w' h=>by
  have ho:=hRl.mem (cI k) h (fun x hx=>Ai _ hx);exact(qb5 (enc:=qqq) (fun _=>rfl) ho hpl).1
 have hS3:=hSl _ w3 ((cI k).perm h0 AE);have hle:=qxz ps Ls Al cl w3 hLl hS3 Oo (fun i p L g1 g2=>hPs.cell (cI k) (fun x hx=>Ai _ (Bb _ hx)) h0 g1 g2);rw[hpl]at hle;(conv=>whnf);refine zcv hle ?_;clear hle hS3;rintro r w4 ⟨rfl,he4⟩;replace h0:=(cI k).ext h0 he4;cases hlea:leaC cmpQ Ls none with
 | none=>
  have hE0:E.drop k=[]:=by
   rw[<-hE];cases f with
   | zero=>rfl
   | succ f=>rw[eacC,hlea]
  have hkE:E.length<=k:=by
   have:=Af List.length hE0;rw[zld]at this;simp at this;omega
  obtain rfl:k=E.length:=by omega
  (conv=>whnf);refine NewV.carr (cI _) h0 fun qb w5 h0=>zw ?_;refine StoreA.carr (vs:=qd zQ) (cI _) (A:=[]) h0 rfl (qn zQ) fun w6 h0=>zu ?_;exact .inl ((cI _).dropL (Z:=[]) (by rw[AI];exact h0))
 | some q=>
 obtain⟨hq1,_,_⟩:=qdz ordQ hlea;have hq1:=hq1.resolve_left (fun e=>by cases e);have htl:=qud (q:=q) hq1;obtain⟨f',rfl⟩:∃f',f=f'+1:=⟨f-1,by omega⟩
 rw[eacC,hlea]at hE;have hEk:E[k]?=some (q,whoC q Ls 0):=by
  have:=Af (fun l=>l[0]?) hE;rw[Cr]at this;exact this.symm
 have hkl:=(Ae.1 hEk).1;have hEs:eacC cmpQ f' (Ls.map (nexC q))=E.drop (k+1):=by
  have:=Af List.tail hE;rw[List.tail_drop]at this;exact this
 (conv=>whnf);refine NewV.carr (cI _) h0 fun qb w5 h0=>zw ?_;refine StoreA.carr (vs:=qd q) (cI _) (A:=[]) h0 rfl (qn q) fun w6 h0=>zu ?_;refine qtc (fun s:Nat×E8×EF×ED×ED=>[(0,.func (.yield y) #[] #[]),(4,.slice Al es.length cl),(7,pp qb),(9,s.2.1),(33,.slice Al es.length cl),(34,ii es.length),(35,ii s.1)])
  (fun s w'=>s.1<=es.length/\s.2.2.1.length<=s.1/\whoC q Ls 0=s.2.2.1++whoC q (Ls.drop s.1) s.1/\RowX 3 1 s.2.1 s.2.2.1.length (nsV s.2.2.1) s.2.2.2.1/\PulsX ps ((Ls.take s.1).map (nexC q)++Ls.drop s.1) s.2.2.2.2/\I k (s.2.2.2.1++((qb,.cells (qd q).toArray 26)::(Yl++(s.2.2.2.2++Yc)))) w') (fun s=>es.length-s.1) (0,.slice none 0 0,[],[],Xp)
  fq ⟨Am _,Aq _,rfl,RowX.nil _ _,hPs,h0⟩ ?_
 clear h0 hPs;rintro⟨i,v9,ns,Yw,Xp⟩ w7 ρ2 ⟨hi,hnl,hwho,hRw,hPs,h0⟩;dsimp only at hi hnl hwho hRw hPs h0|-;obtain⟨A9,c9,e9⟩:=hRw.slice;subst e9;(conv=>whnf);refine zC (fun _=>zw ?_) (fun _=>zw ?_)
 case' refine_2=>
  obtain rfl:i=es.length:=by omega
  rw[Dg Oo]at hwho hPs;rw[AF Oo,AI]at hPs;have hwho:whoC q Ls 0=ns++[]:=hwho;rw[AI]at hwho;rw[hwho]at hEk;refine LoadA.own ((cI k).get h0 (Ai _ mh)) rfl (zw ?_);refine YieldV.mono (hy k [qk q,.slice A9 ns.length c9] Yw _ w7 hkl ⟨q,ns,_,hEk,rfl,hRw⟩ h0) ?_;clear h0;rintro r w8 (⟨rfl,h0⟩|⟨rfl,hX⟩)
  ·refine zu ?_;exact⟨rfl,(k+1,Ls.map (nexC q),Xp,f'),fq,⟨by dsimp only;omega,hPs,by dsimp only;omega,hEs,(cI _).drop h0⟩,by dsimp only;omega⟩
  ·refine zu ?_;exact .inr ⟨k,hkl,(cIx _).dropL (Z:=[]) (by rw[AI];exact hX)⟩
 have hil:i<es.length:=by omega
 have hSi:=hSl _ w7 ((cI k).perm h0 (by
  show List.Perm (Yw++((qb,Obj.cells (qd q).toArray 26)::(Yl++(Xp++Yc)))) ((Yw++((qb,Obj.cells (qd q).toArray 26)::(Xp++Yc)))++Yl);rw[Ak];refine Cl _ (List.Perm.cons _ ?_);exact AE))
 obtain⟨g,off,rfl,hat⟩:=hSi.at_ (by intro e;rw[e]at hpl;simp at hpl;omega);obtain⟨b,eb⟩:∃b,b=ps[i]' Oo:=⟨_,rfl⟩
 have hbi:ps[i]?=some b:=by rw[eb];exact zge Oo
 have hcb:=hat i b hbi;obtain⟨L,PA,PY,PB,hLi,hXp,⟨v,Z,hPY,hRe⟩,hnew⟩:=hPs.at_ hbi;have hLi2:Ls[i]?=some L:=by
  rw[AR (by rw[AC,AG];omega),AC,AG,show i-min i Ls.length=0 by omega,Cr,BH]at hLi;exact hLi
 have hdr:Ls.drop i=L::Ls.drop (i+1):=by
  obtain⟨g1,g2⟩:=Ae.1 hLi2;rw[Bu g1,g2]
 have htk:Ls.take (i+1)=Ls.take i++[L]:=by rw[BJ,hLi2];rfl
 have hset:∀L' Y',PulX b L' Y'->L'=nexC q L->PulsX ps ((Ls.take (i+1)).map (nexC q)++Ls.drop (i+1)) (PA++Y'++PB):=fun L' Y' g1 g2=>by
  have:=hnew L' Y' g1;rw[hdr,DZ _ _ (by rw[AC,AG];omega),AC,AG,show i-min i Ls.length=0 by omega,List.set_cons_zero,g2]at this;rw[htk,AB,Ak];exact this
 refine⟨⟨g,off,i,rfl,by omega,by omega,?_⟩⟩;rw[t2];(conv=>whnf);refine LoadV.cell0 hcb (zw ?_);rw[hXp,hPY]at h0;have hgp:∀wd,Ext w7 wd->wd.heap[b]?=some (.cells (qd (L.headD zQ)++[.bool (!L.isEmpty),v]).toArray 85):=fun wd he=>he.get ((cI k).get h0 (by simp[pulO]))
 have hgq:∀wd,Ext w7 wd->wd.heap[qb]?=some (.cells (qd q).toArray 26):=fun wd he=>he.get ((cI k).get h0 (Ai _ mh))
 refine DrawW.any Jk (.inl rfl) (AnyV.free Jk ?_);(conv=>whnf);(iterate 3 (refine zd ?_));refine zsd (.bool (!L.isEmpty)) (fun wd hd=>zw ?_) ?_
 ·refine LoadV.own (hgp wd ((Ext.refl w7).drew.trans hd)) rfl (zw ?_);exact xq
 rcases L with _|⟨x,L⟩
 ·(conv=>whnf);(iterate 8 (refine zd ?_));intro w8 he8;replace h0:=(cI k).ext h0 ((Ext.refl w7).drew.trans he8);refine zu ?_;refine⟨rfl,(i+1,.slice A9 ns.length c9,ns,Yw,PA++((b,pulO zQ false v)::Z)++PB),fq,⟨by dsimp only;omega,by dsimp only;omega,?_,hRw,hset [] _ ⟨v,Z,rfl,hRe⟩ (by rw[nexC];split<;>rfl),h0⟩,by dsimp only;omega⟩;rw[hwho,hdr,whoC,Aa Js]
 (conv=>whnf);(iterate 4 (refine zd ?_));apply zsd (qk x)
 ·intro wd hd;refine zu ?_;refine V.LoadA.part (vs:=qd x) (hgp wd ((Ext.refl w7).drew.trans hd)) rfl (fun j hj=>qpe _ _ _ j hj) (zw ?_);exact xq
 (conv=>whnf);apply zsd (qk q)
 ·intro wd hd;refine zu ?_;refine LoadA.own (hgq wd ((Ext.refl w7).drew.trans hd)) rfl (zw ?_);exact xq
 (conv=>whnf);apply zsd (.bool (qc0 x q))
 ·intro wd hd;refine zu ?_;refine RunV.eqQd (a:=x) (b:=q) (zw ?_);exact xq
 (conv=>whnf);refine zd ?_;intro w8 he8;replace h0:=(cI k).ext h0 ((Ext.refl w7).drew.trans he8);cases hxq:qc0 x q
 ·refine zu ?_;have hne:x≠q:=fun e=>by rw[qfl.2 e]at hxq;cases hxq
  refine⟨rfl,(i+1,.slice A9 ns.length c9,ns,Yw,PA++((b,pulO x true v)::Z)++PB),fq,⟨by dsimp only;omega,by dsimp only;omega,?_,hRw,hset (x::L) _ ⟨v,Z,rfl,hRe⟩ (by rw[nexC,Aa (by simpa using hne)]),h0⟩,by dsimp only;omega⟩;rw[hwho,hdr,whoC,Aa (by simpa using hne)]
 obtain rfl:=qfl.1 hxq;refine zu ?_;refine NewV.carr (cI k) h0 ?_;clear h0;intro nb w9 h0;have h0:I k (Yw++((nb,.cells #[ii i] 3)::((qb,.cells (qd x).toArray 26)::(Yl++((PA++((b,pulO x true v)::Z)++PB)++Yc))))) w9:=(cI k).perm h0 BO.symm;(conv=>whnf);refine AppV.carr (m:=1) (news:=[ii i]) (cI k) h0 hRw inSl inI inZ Jk Jk Od rfl (fun _=>⟨nb,0,rfl,fun j u hu=>by rw[qa ((cI k).get h0 (Ai _ mh)),Aw,Ar];exact hu⟩) (fun u hu=>by rw[Ah.1 hu];rfl) (by rw[show((EG.info? 3).get Jk).bytes=8 from by kernel_rfl];omega) Oo ?_;clear h0;intro A' c' Yw' w10 hRw' h0;replace h0:=(cI k).dropM h0;have h0:I k ((Yw'++(qb,.cells (qd x).toArray 26)::(Yl++PA))++(b,pulO x true v)::(Z++(PB++Yc))) w10:=by simpa using h0
 (conv=>whnf);refine zcv (qpu (cI k) b x true v L Z _ _ w10 h0 hRe (fun z hz=>Ai _ (Bb _ hz))) ?_;clear h0;rintro r w11 ⟨v',hv',h0⟩;have h0:I k (Yw'++((qb,.cells (qd x).toArray 26)::(Yl++((PA++((b,pulO (L.headD zQ) (!L.isEmpty) v')::Z)++PB)++Yc)))) w11:=by simpa using h0
 refine zu ?_;have hnl1:(ns++[i]).length=ns.length+1:=by rw[zla];rfl
 refine⟨rfl,(i+1,.slice A' (ns.length+1) c',ns++[i],Yw',PA++((b,pulO (L.headD zQ) (!L.isEmpty) v')::Z)++PB),fq,⟨by dsimp only;omega,by dsimp only;omega,?_,?_,hset L _ ⟨v',Z,rfl,hv'⟩ (by rw[nexC,Ad Dt];rfl),h0⟩,by dsimp only;omega⟩
 ·dsimp only;rw[hwho,hdr,whoC,Ad Dt,Ak];rfl
 ·dsimp only;rw[hnl1,nsV,AB];exact hRw'
theorem qml(zs:List Int)(A B:oA)(cA cB:Nat)(w:Ez)(hA:SlAt V.zeI 1 w A zs)(hB:SlAt V.zeI 1 w B zs)(hl:zs.length<=1152921504606846976):
  Gv EG 37 [.slice A zs.length cA,.slice B zs.length cB] w fun v w'=>v=.bool true/\Ext w w':=by
 refine ze Tryz.func37 Tryz.ntmps37 ?_;refine zv ?_;refine qj (fun i:Nat=>[(0,.slice A zs.length cA),(1,.slice B zs.length cB),(5,ii i)]) (fun i w'=>i<=zs.length/\Ext w w') (fun i=>zs.length-i) 0 fq ⟨Am _,xr⟩ ?_;rintro i w1 ρ' ⟨hi,he⟩;(conv=>whnf);refine zC (fun _=>zw ?_) (fun _=>zw ?_)
 ·have hlt:i<zs.length:=by omega
  have hne:zs≠[]:=by intro e;rw[e]at hlt;simp at hlt
  obtain⟨g1,o1,rfl,h1⟩:=(hA.ext (he.trans (Ext.refl w1).drew)).at_ hne;obtain⟨g2,o2,rfl,h2⟩:=(hB.ext (he.trans (Ext.refl w1).drew)).at_ hne;have h1:=h1 i _ (zge hlt);have h2:=h2 i _ (zge hlt);refine zy ?_;refine zv ?_;refine⟨⟨g1,o1,i,rfl,by omega,by omega,?_⟩⟩;rw[show tsz EG 3=1 from by kernel_rfl];refine zu ?_;refine LoadV.cell0 h1 (zu ?_);refine⟨⟨g2,o2,i,rfl,by omega,by omega,?_⟩⟩;rw[show tsz EG 3=1 from by kernel_rfl];refine zu ?_;refine LoadV.cell0 h2 (zu ?_);exact⟨i+1,⟨rfl,rfl,Af (Value.int .i64) Oo,trivial⟩,⟨by omega,he.trans (Ext.refl w1).drew⟩,by omega⟩
 ·exact⟨rfl,he⟩
def seC(q:Q4)(v:E8):EE:=qd q++[v]
def SeenAt(w:Ez)(v:E8)(E:List (Q4×List Int)):Prop:=
 ∃A c,v=.slice A E.length c/\E.length<=c/\(E≠[]->∃g off,A=some ⟨g,off,none⟩/\∀i q zs,E[i]?=some (q,zs)->∃B d,CellsAt w g (off+i*17) (seC q (.slice B zs.length d))/\zs.length<=d/\SlAt V.zeI 1 w B zs)
theorem SeenAt.ext{v:E8}{E:List (Q4×List Int)}(h:SeenAt w v E)(he:Ext w w'):SeenAt w' v E:=by
 obtain⟨A,c,h1,h2,h3⟩:=h;refine⟨A,c,h1,h2,fun hn=>?_⟩;obtain⟨g,off,h4,h5⟩:=h3 hn;refine⟨g,off,h4,fun i q zs hi=>?_⟩;obtain⟨B,d,h6,h7,h8⟩:=h5 i q zs hi;exact⟨B,d,h6.ext he,h7,h8.ext he⟩
theorem q6p{o:Nat}{q:Q4}{v:E8}(h:CellsAt w g o (seC q v)):CellsAt w g (o+0) (qd q):=fun k u hu=>by
 rw[BH];exact h k u (by rw[seC,AQ (Ae.1 hu).1];exact hu)
theorem qt5{o:Nat}{q:Q4}{v:E8}(h:CellsAt w g o (seC q v)):w.cell? ⟨g,o+16,none⟩=some v:=h 16 v rfl
theorem qgn(E:List (Q4×List Int))(v u:E8)(w:Ez)(hv:SeenAt w v E)(hu:SeenAt w u E)(hl:E.length<=1152921504606846976)(hl2:∀x∈E,x.2.length<=1152921504606846976):
  Gv EG 11 [v,u] w fun r w'=>r=.bool true/\Ext w w':=by
 obtain⟨A,cA,rfl,hcA,hA⟩:=hv;obtain⟨B,cB,rfl,hcB,hB⟩:=hu;have t17:tsz EG 40=17:=by kernel_rfl
 refine ze Tryz.func11 Tryz.ntmps11 ?_;refine zv ?_;refine qj (fun i:Nat=>[(0,.slice A E.length cA),(1,.slice B E.length cB),(5,ii i)]) (fun i w'=>i<=E.length/\Ext w w') (fun i=>E.length-i) 0 fq ⟨Am _,xr⟩ ?_;rintro i w1 ρ' ⟨hi,he⟩;(conv=>whnf);refine zC (fun _=>zw ?_) (fun _=>zw ?_)
 case' refine_2=>exact⟨rfl,he⟩
 have hlt:i<E.length:=by omega
 have hne:E≠[]:=by intro e;rw[e]at hlt;simp at hlt
 obtain⟨g1,o1,rfl,h1⟩:=hA hne;obtain⟨g2,o2,rfl,h2⟩:=hB hne;obtain⟨q,zs,hqz⟩:∃q zs,E[i]?=some (q,zs):=⟨_,_,zge hlt⟩
 obtain⟨B1,d1,hc1,hd1,hs1⟩:=h1 i q zs hqz;obtain⟨B2,d2,hc2,hd2,hs2⟩:=h2 i q zs hqz;have hzl:=hl2 _ (zmg hqz);have hx:=fun wd (hd:Ext w1.drew wd)=>he.trans ((Ext.refl w1).drew.trans hd)
 refine DrawV.free Jk Jk (zw ?_);refine zd ?_;refine zd ?_;refine zsd (.pointer (some ⟨g1,o1+i*17,none⟩)) (fun wd hd=>zw ?_) (zw ?_)
 ·refine⟨⟨g1,o1,i,rfl,by omega,by omega,?_⟩⟩;rw[t17];(conv=>whnf);exact xq
 refine zd ?_;refine zsd (qk q) (fun wd hd=>zw ?_) (zw ?_)
 ·refine LoadA.cells (CellsAt.ext (q6p hc1) (hx wd hd)) rfl (zw ?_);exact xq
 refine zd ?_;refine zd ?_;refine zsd (.pointer (some ⟨g2,o2+i*17,none⟩)) (fun wd hd=>zw ?_) (zw ?_)
 ·refine⟨⟨g2,o2,i,rfl,by omega,by omega,?_⟩⟩;rw[t17];(conv=>whnf);exact xq
 refine zd ?_;refine zsd (qk q) (fun wd hd=>zw ?_) (zw ?_)
 ·refine LoadA.cells (CellsAt.ext (q6p hc2) (hx wd hd)) rfl (zw ?_);exact xq
 refine zsd (.bool false) (fun wd hd=>zw ?_) (zw ?_)
 ·refine RunV.neqQd (a:=q) (b:=q) ?_;rw[qfl.2 rfl];(conv=>whnf);exact xq
 (iterate 3 (refine zd ?_));apply zsd (.pointer (some ⟨g1,o1+i*17,none⟩))
 ·intro wd hd;refine zu ?_;refine⟨⟨g1,o1,i,rfl,by omega,by omega,?_⟩⟩;rw[t17];(conv=>whnf);exact xq
 (conv=>whnf);refine zd ?_;apply zsd (.slice B1 zs.length d1)
 ·intro wd hd;refine zu ?_;refine LoadV.of ((hx wd hd).cell (qt5 hc1)) (zw ?_);exact xq
 (conv=>whnf);refine zd ?_;refine zd ?_;apply zsd (.pointer (some ⟨g2,o2+i*17,none⟩))
 ·intro wd hd;refine zu ?_;refine⟨⟨g2,o2,i,rfl,by omega,by omega,?_⟩⟩;rw[t17];(conv=>whnf);exact xq
 (conv=>whnf);refine zd ?_;apply zsd (.slice B2 zs.length d2)
 ·intro wd hd;refine zu ?_;refine LoadV.of ((hx wd hd).cell (qt5 hc2)) (zw ?_);exact xq
 (conv=>whnf);apply zsd (.bool true)
 ·intro wd hd;refine zu ?_;refine zcv (qml zs B1 B2 d1 d2 wd (hs1.ext (hx wd hd)) (hs2.ext (hx wd hd)) hzl) ?_;rintro r w2 ⟨rfl,he2⟩;exact⟨he2,rfl⟩
 (conv=>whnf);refine zd ?_;refine zd ?_;intro w2 he2;refine zu ?_;exact⟨i+1,⟨rfl,rfl,Af (Value.int .i64) Oo,trivial⟩,⟨by omega,he.trans ((Ext.refl w1).drew.trans he2)⟩,by omega⟩
structure DsE where
 A:oA
 c:Nat
 qs:List Q4
def encD(d:DsE):EE:=[.slice d.A d.qs.length d.c]
def totD(ds:List DsE):Nat:=(ds.map fun d=>1+d.qs.length).sum
theorem q0k(ds:List DsE)(A:oA)(n c:Nat)(w:Ez)(hS:SlAt encD 1 w A ds)(hn:ds.length=n)(hb:n<=140737488355328)(hq:∀d∈ds,d.qs.length<=140737488355328):
  Gv EG 6 [.slice A n c] w fun r w'=>(∃b,r=.bool b/\(b=true->n<=60/\totD ds<=20000))/\Ext w w':=by
 subst hn;have t1:tsz EG 46=1:=by kernel_rfl
 refine ze Tryz.func6 Tryz.ntmps6 ?_;refine qj (fun s:Nat×Int=>[(0,.slice A ds.length c),(3,ii s.2),(4,ii s.1)]) (fun s w'=>s.1<=ds.length/\s.2=20000-(totD (ds.take s.1):Nat)/\-140737488355330<=s.2/\s.2<=20000/\Ext w w') (fun s=>ds.length-s.1) (0,20000)
  fq ⟨Am _,by rw[Bz];rfl,by decide,by decide,xr⟩ ?_
 rintro⟨i,z⟩ w1 ρ' ⟨hi,hz,hz1,hz2,he⟩;dsimp only at hi hz hz1 hz2|-;conv=>whnf
 (repeat'(first|refine zp ?_|refine zC (fun _=>zw ?_) (fun _=>zw ?_)))
 case' refine_1=>
  have hlt:i<ds.length:=by omega
  obtain⟨g,off,rfl,hat⟩:=hS.at_ (by intro e;rw[e]at hlt;simp at hlt);obtain⟨d,ed⟩:∃d,ds[i]?=some d:=⟨_,zge hlt⟩
  have hqd:=hq d (zmg ed);have htk:totD (ds.take (i+1))=totD (ds.take i)+(1+d.qs.length):=by
   rw[BJ,ed];unfold totD;rw[AB,List.sum_append];simp
  refine⟨⟨g,off,i,rfl,by omega,by omega,?_⟩⟩;rw[t1];(conv=>whnf);refine LoadV.cell0 ((hat i d ed).ext he) (zu ?_);exact⟨(i+1,z-1-(d.qs.length:Int)),fq,⟨by dsimp only;omega,by dsimp only;rw[htk];omega,by dsimp only;omega,by dsimp only;omega,he⟩,by dsimp only;omega⟩
 all_goals first
  | exact⟨⟨false,rfl,fun h=>by cases h⟩,he⟩
  | (obtain rfl:i=ds.length:=(by omega);rw[Bg]at hz;exact⟨⟨_,rfl,fun h=>⟨by have:=BR h;omega,by omega⟩⟩,he⟩)
theorem strU:EG.underlying 9=some .string:=Tryz.underlying9
theorem qen(n:Nat)(w:Ez)(hn:n<18446744073709551616):
  Gv EG 75 [.int .u64 n] w fun r w'=>BS w' r (varL n)/\Ext w w':=by
 have hv:=qbe 9 n (Bw hn Od);refine ze Tryz.func75 Tryz.ntmps75 ?_;refine qj (fun x:oA×Nat×LB×Nat=>[(0,.int .u64 x.2.2.2),(3,.slice x.1 x.2.2.1.length x.2.1)])
  (fun x w2=>x.2.2.2<18446744073709551616/\varL n=x.2.2.1++varL x.2.2.2/\Rw w w2 (.slice x.1 x.2.2.1.length x.2.1) 5 1 x.2.2.1.length (byV x.2.2.1) []) (fun x=>x.2.2.2) (none,0,[],n) fq ⟨hn,rfl,Rw.nil (Mem.nil w)⟩ ?_
 rintro⟨A,c,ys,k⟩ w2 ρ' ⟨h1,h2,hR⟩;dsimp only at h1 h2 hR|-;have hp:=q69 k;have hyl:ys.length+(varL k).length<=10:=by have:=Af List.length h2;rw[zla]at this;omega
 (conv=>whnf);refine zC (fun _=>zu ?_) (fun _=>zu ?_)
 ·refine V.Wit.low8 (zw ?_);refine Wit.eq (qxf k) (zw ?_);refine NewV.rw hR fun nb w4 hR4=>zw ?_;refine AppV.one qcp bytI bytZ Jk rfl (by decide +kernel) hR4 rfl Oo ?_;intro B' d' w5 hR5;(conv=>whnf);refine V.Wit.shrN 7 rfl Od (zw ?_);have hk:128<=k:=by omega
  have e:(ys++[UInt8.ofNat (k%128+128)]).length=ys.length+1:=by simp
  refine⟨(B',d',ys++[UInt8.ofNat (k%128+128)],k/128),⟨rfl,by show Value.slice _ _ _=_;rw[e],trivial⟩,⟨by simp only;omega,?_,?_⟩,by simp only;omega⟩
  ·rw[h2,qf8 hk,Ak];rfl
  ·show Rw w w5 (.slice B' (ys++[UInt8.ofNat (k%128+128)]).length d') _ 1 _ _ _;rw[e,byV,AB,AO,BM,qav Oo];exact hR5
 ·have hk:k<128:=by omega
  refine NewV.rw hR fun nb w4 hR4=>zw ?_;refine AppV.one qcp bytI bytZ Jk rfl (by decide +kernel) hR4 rfl Oo ?_;intro B' d' w5 hR5;have e:(ys++[UInt8.ofNat k]).length=ys.length+1:=by simp
  have hR6:Rw w w5 (.slice B' (ys.length+1) d') 5 1 (ys.length+1) (byV (ys++[UInt8.ofNat k])) []:=by
   rw[byV,AB,AO,BM,qav Oo];exact hR5
  have e2:varL n=ys++[UInt8.ofNat k]:=by rw[h2,qd8 hk]
  (conv=>whnf);exact⟨by rw[e2];exact Rw.byts hR6 e,hR6.mem.ext⟩
theorem qr1(ps:EF)(wd:Nat)(A:oA)(n c:Nat)(w:Ez)(hS:SlAt encU 1 w A ps)(hn:ps.length=n)(hl:n<=4398046511104)(hnw:n*wd<=4398046511104)(hp:∀x∈ps,x<2 ^ wd)(hw:wd<=64):
  Gv EG 81 [.slice A n c,ii wd] w fun r w'=>∃v,r=.tuple #[v,ii 0]/\NewS 5 w w' v (qde ps wd):=by
 have hroom:=fun w=>qyp n wd w hnw
 obtain⟨f,ef⟩:∃f,f=n*wd:=⟨_,rfl⟩
 rw[<-ef]at hroom;have efp:ps.length*wd=f:=by rw[hn,ef]
 refine ze Tryz.func81 Tryz.ntmps81 ?_;refine zv ?_;refine qj (fun i:Nat=>[(0,.slice A n c),(1,ii wd),(6,ii i)]) (fun i w'=>i<=n/\w'=w) (fun i=>n-i) 0 fq ⟨Am _,rfl⟩ ?_;rintro i w1 ρ' ⟨i1,rfl⟩;(conv=>whnf);refine zC (fun _=>zw ?_) (fun _=>zw ?_)
 ·have hi:i<ps.length:=by omega
  have hx:=hp _ (AT hi);have hx64:ps[i]<18446744073709551616:=Bw hx (Bs Od hw);have hwd:=q7n hx hw;refine ElemV.sl hS hn i rfl Oo ?_;intro eb eo hcell;(conv=>whnf);refine LoadV.cell0 hcell (zw ?_);refine zcv (qjb ps[i] w1 hx64) ?_;rintro r w2 ⟨rfl,rfl⟩;refine zu ?_;exact⟨i+1,fq,⟨by omega,rfl⟩,by omega⟩
 ·refine zcv (hroom w1) ?_;rintro r w4 ⟨rfl,rfl⟩;(conv=>whnf);refine⟨(f+7)/8,(f+7)/8,rfl,rfl,Aq _,by show(f+7)/8*1<=_;omega,by omega,fun ob w5 hb hw5=>?_⟩;have hm:=(Mem.nil w4).new hb hw5;have hm:Mem w4 w5 [(ob,.cells (pkC ps wd 0).toArray 5)]:=by rw[q6c,efp];exact hm
  clear hb hw5;(conv=>whnf);refine qj (fun i:Nat=>[(0,.slice A n c),(1,ii wd),(7,.slice (some ⟨ob,0,none⟩) ((f+7)/8) ((f+7)/8)),(8,ii i)])
   (fun i w'=>i<=n/\Mem w4 w' [(ob,.cells (pkC ps wd (i*wd)).toArray 5)]) (fun i=>n-i) 0 fq ⟨Am _,by rw[Ex];exact hm⟩ ?_
  clear hm;rintro i w6 ρ' ⟨i1,hm⟩;(conv=>whnf);refine zC (fun _=>zw ?_) (fun _=>zw ?_)
  ·have hi:i<ps.length:=by omega
   have hx:=hp _ (AT hi);have hx64:ps[i]<18446744073709551616:=Bw hx (Bs Od hw);have hg:ps.getD i 0=ps[i]:=by rw[Ag,zge hi];rfl
   have hm1:i*wd+wd<=f:=by rw[ef,<-CW];exact BI _ Oo
   obtain⟨g,eg⟩:∃g,g=i*wd:=⟨_,rfl⟩
   have egi:(i:Int)*(wd:Int)=(g:Int):=by rw[eg,Dr]
   rw[<-eg]at hm1;refine qj (fun k:Nat=>[(0,.slice A n c),(1,ii wd),(7,.slice (some ⟨ob,0,none⟩) ((f+7)/8) ((f+7)/8)),(8,ii i),(9,ii k)])
    (fun k w'=>k<=wd/\Mem w4 w' [(ob,.cells (pkC ps wd (g+k)).toArray 5)]) (fun k=>wd-k) 0 fq ⟨Am _,by rw[BH,eg];exact hm⟩ ?_
   clear hm;rintro k w7 ρ2 ⟨k1,hm⟩;have hq:ps[i]/2 ^ k<18446744073709551616:=Ca (DA _ _) hx64;(conv=>whnf);refine zC (fun _=>zu ?_) (fun _=>zu ?_)
   ·have hkw:k<wd:=by omega
    have he:g+k<ps.length*wd:=by rw[efp];omega
    have hcl:=qabh ps wd (g+k);rw[efp]at hcl;have hld:=qady he;have hF:pkF ps wd (g+k)=ps[i]/2 ^ k:=by rw[eg,qadz hkw,hg]
    have hby:=qvd (upF (pkF ps wd) (g+k)) ((g+k)/8);have hst:=qabi he;rw[hF]at hst;obtain⟨gb,go,hA,hcl2⟩:=hS.at_ (by intro e;rw[e]at hi;cases hi);subst hA;have hcell:=(hcl2 i _ (zge hi)).ext hm.ext;rw[egi];refine DrawV.own rfl Jk (zw ?_);(iterate 6 (refine zo ?_));apply StepO.still
    ·intro wd hd;(conv=>whnf);refine ElemV.own1 ((g+k)/8) rfl Oo (zw ?_);exact PostO.still xr rfl
    (conv=>whnf);apply StepO.still
    ·intro wd hd;(conv=>whnf);refine LoadV.mem (Mem.call (Mem.drew hm) hd) (i:=0) rfl (by rw[Ar];exact hld) ?_;(conv=>whnf);exact PostO.still xr rfl
    (conv=>whnf);refine zo ?_;refine zo ?_;apply StepO.still
    ·intro wd1 hd;(conv=>whnf);refine⟨⟨gb,go,i,rfl,by omega,by omega,?_⟩⟩;exact PostO.still xr rfl
    (conv=>whnf);apply StepO.still
    ·intro wd1 hd;(conv=>whnf);refine LoadV.cell0 (hcell.ext ((Ext.refl w7).drew.trans hd)) (zw ?_);exact PostO.still xr rfl
    (conv=>whnf);refine zo ?_;apply StepO.still
    ·intro wd1 hd;(conv=>whnf);refine V.Wit.shrN k rfl (by show k<64;omega) (zw ?_);exact PostO.still xr rfl
    (conv=>whnf);apply StepO.still
    ·intro wd1 hd;(conv=>whnf);refine Wit.eq (qbb (k:=.u64) (m:=ps[i]/2 ^ k) 1 rfl (qko hq) ⟨by omega,by omega⟩) (zw ?_);exact PostO.still xr rfl
    (conv=>whnf);(iterate 3 (refine zo ?_));apply StepO.still
    ·intro wd1 hd;(conv=>whnf);refine V.Wit.shlN ((g+k)%8) Oo (by show(g+k)%8<8;omega) (qgf ?_) ?_
     ·have h2:2 ^ ((g+k)%8)<=2 ^ 7:=Bs Od Oo;have h3:ps[i]/2 ^ k%2 ^ 1*2 ^ ((g+k)%8)<=1*2 ^ ((g+k)%8):=BI _ Oo;have e7:(2:Nat) ^ 7=128:=by decide
      show ps[i]/2 ^ k%2 ^ 1*2 ^ ((g+k)%8)<256;omega
     (conv=>whnf);exact PostO.still xr rfl
    (conv=>whnf);apply StepO.still
    ·intro wd1 hd;(conv=>whnf);refine Wit.eq (q8e (f:=pkF ps wd) (g+k) (ps[i]/2 ^ k)) (zw ?_);exact PostO.still xr rfl
    (conv=>whnf);apply StepO.still
    ·intro wd1 hd;(conv=>whnf);refine ElemV.own1 ((g+k)/8) rfl Oo (zw ?_);exact PostO.still xr rfl
    (conv=>whnf);intro w8 hd8
    (repeat(intro _;(conv=>whnf)))
    (conv=>whnf);refine StoreV.mem (hm.drew.call hd8) (i:=0) rfl (by rw[CK];omega) rfl ?_;intro w9 hm;have hm:Mem w4 w9 [(ob,.cells (pkC ps wd (g+k+1)).toArray 5)]:=by
     rw[<-hst];have e:((pkC ps wd (g+k)).toArray.setIfInBounds ((g+k)/8) (.int .u8 (byt (upF (pkF ps wd) (g+k)) ((g+k)/8)+ps[i]/2 ^ k%2*2 ^ ((g+k)%8):Nat)))=((pkC ps wd (g+k)).set ((g+k)/8) (.int .u8 (byt (upF (pkF ps wd) (g+k)) ((g+k)/8)+ps[i]/2 ^ k%2*2 ^ ((g+k)%8):Nat))).toArray:=by simp
     rw[<-e];exact hm
    refine zu ?_;refine⟨k+1,fq,⟨by omega,hm⟩,by omega⟩
   ·have hkw:k=wd:=by omega
    refine⟨i+1,fq,⟨by omega,?_⟩,by omega⟩;rw[Eh,Eq,<-eg,show g+wd=g+k by omega];exact hm
  ·obtain rfl:i=n:=by omega
   obtain⟨o1,o2⟩:=hm.own _ mh;refine⟨_,rfl,NewS.blk hm.ext o1 ?_ (by rw[qce,efp])⟩;rw[<-qabg,hn];exact o2
theorem qpf(v:E8)(x:LB)(n:Nat)(s:E0)(w:Ez)(h:w.ownsRow 0 5 1 v x.length (byV x))(hn:n<9223372036854775808)(hl:x.length+s.size+16<=8000000000000):
  Gv EG 123 [v,ii n,.string s] w fun r w'=>RowC 5 w w' v r (x++(varL n++s.data.toList)):=by
 have hv:=qbe 9 n (Bw hn Od);obtain⟨A,c,rfl⟩:=qa6 h;refine ze Tryz.func123 Tryz.ntmps123 ?_;refine zv ?_;refine zcv (qen n w Oo) ?_;rintro r w1 ⟨⟨B,d,rfl,hd,hS⟩,he⟩;have h1:=qa0 h he;(conv=>whnf);refine AppV.bys qcp bytI bytZ Jk rfl (by decide +kernel) h1 hS Oo ?_;intro A' c' w2 ho2 hc2 hn2;(conv=>whnf);have hlen:(x++varL n).length=x.length+(varL n).length:=zla;have ho2':w2.ownsRow 0 5 1 (.slice A' (x.length+(varL n).length) c') (x++varL n).length (byV (x++varL n)):=ho2;refine AppV.strR qcp strU bytI bytZ Jk Jk ho2' Oo ?_;intro A3 c3 w3 ho3 hc3 hn3;(conv=>whnf);have e:(x++(varL n++s.data.toList)).length=(x++varL n).length+s.size:=by rw[<-Ak,zla];rfl
 have r1:RowC 5 w1 w2 (.slice A x.length c) (.slice A' (x.length+(varL n).length) c') (x++varL n):=⟨⟨A',c',by rw[hlen]⟩,ho2,hc2,hn2⟩
 have r2:RowC 5 w2 w3 (.slice A' (x.length+(varL n).length) c') (.slice A3 ((x++varL n).length+s.size) c3) (x++(varL n++s.data.toList)):=⟨⟨A3,c3,by rw[e]⟩,by rw[<-Ak];exact ho3,hc3,hn3⟩
 exact(r1.trans r2).back he
theorem qadx{size n:Nat}{v:E8}(h:w.ownsRow 0 e size v n xs)(hk:∀k∈rowF v,base<=k):w.ownsRow base e size v n xs:=by
 refine⟨h.1,h.2.imp id ?_⟩;rintro⟨g,cap,cur,rfl,_,h2⟩;exact⟨g,cap,cur,rfl,hk g (Ah.2 rfl),h2⟩
theorem qtg{n:Nat}(h:w.ownsRow base e 1 (.slice A n c) n (byV l))(hn:l.length=n):SlAt encB 1 w A l:=qpc (f:=fun x:E7=>Value.int .u8 (x.toNat:Nat)) h hn
structure RowS(w0 w:Ez)(v:E8)(l:LB):Prop where
 sep:Sep w0 w [rowF v]
 row:w.ownsRow 0 5 1 v l.length (byV l)
section
variable {w0 w w':Ez} {v:E8} {l m:LB} {A B:oA} {c d:Nat}
theorem RowS.nil(he:Ext w0 w):RowS w0 w (.slice none 0 0) []:=⟨(Sep.of he).add (F:=rowF (.slice none 0 0)) (Ext.refl w) (fun k hk=>by cases hk),World.ownsRow_nil _ _ _ _⟩
theorem RowS.ext(h:RowS w0 w v l):Ext w0 w:=h.sep.ext
theorem RowS.call(h:RowS w0 w v l)(he:Ext w w'):RowS w0 w' v l:=⟨h.sep.call he,qa0 h.row he⟩
theorem RowS.sl(h:RowS w0 w (.slice A l.length c) l):SlAt encB 1 w A l:=qtg h.row rfl
theorem RowS.chg(h:RowS w0 w v l)(ho:w'.ownsRow 0 5 1 u m.length (byV m))(hc:Chn (rowF v) w w')(hn:∀k∈rowF u,(k∈rowF v\/w.heap.size<=k)/\k<w'.heap.size):RowS w0 w' u m:=
 ⟨(h.sep.row (i:=0) (F':=rowF u) rfl hc hn).sep,ho⟩
theorem RowS.bys(h:RowS w0 w (.slice A l.length c) l)(hS:SlAt encB 1 w B m)(hlen:l.length+m.length<=8000000000000)(hk:∀A' c' w',RowS w0 w' (.slice A' (l++m).length c') (l++m)->K (.slice A' (l++m).length c') w'):AppV EG #[60,60] 60 (.slice A l.length c) (.slice B m.length d) w K:=by
 refine AppV.bys qcp bytI bytZ Jk rfl (by decide +kernel) h.row hS hlen ?_;intro A' c' w' ho hc hn;have e:l.length+m.length=(l++m).length:=zla.symm;rw[e]at ho hn|-;exact hk A' c' w' (h.chg ho hc hn)
theorem RowS.one(h:RowS w0 w (.slice A l.length c) l){x:Nat}(hx:x<256)(hb:w.heap[nb]?=some (.cells #[.int .u8 (x:Nat)] 5))(hlen:l.length+1<=8000000000000)(hk:∀A' c' w',RowS w0 w' (.slice A' (l++[UInt8.ofNat x]).length c') (l++[UInt8.ofNat x])->K (.slice A' (l++[UInt8.ofNat x]).length c') w'):AppV EG #[60,60] 60 (.slice A l.length c) (.slice (some ⟨nb,0,none⟩) 1 1) w K:=by
 refine AppV.cell qcp bytI bytZ Jk rfl (by decide +kernel) h.row hb rfl hlen ?_;intro A' c' w' ho hc hn;have e:l.length+1=(l++[UInt8.ofNat x]).length:=by simp
 have e2:byV l++[.int .u8 (x:Nat)]=byV (l++[UInt8.ofNat x]):=by rw[byV,byV,AB,AO,BM,qav hx]
 rw[e2,e]at ho;rw[e]at hn|-;exact hk A' c' w' (h.chg ho hc hn)
theorem qaa5{n:Nat}(h:w.ownsRow base e 1 (.slice A n c) n xs):n<=c:=by
 rcases h.2 with⟨e1,e2⟩|⟨g,cap,cur,e1,_,_,h2,_⟩
 ·omega
 ·cases e1;exact h2
theorem RowS.new(h:RowS w0 w (.slice A l.length c) l):NewS 5 w0 w (.slice A l.length c) l:=
 NewS.of h.ext (qadx h.row fun k hk=>(h.sep.at_ (i:=0) rfl k hk).1) c (qaa5 h.row)
end
structure PuI(w3:Ez)(v8:E8)(y:LB)(s10 s11:Bool)(v10 v11:E8)(w:Ez):Prop where
 h:(s10=false/\Ext w3 w)\/(s10=true/\RowC 5 w3 w v8 v10 y)
 k:s11=true->s10=true/\v11=v10
section
variable {w0 w3 w w':Ez} {v8:E8} {y:LB} {s10 s11:Bool} {v10 v11:E8}
theorem PuI.start(h:Ext w3 w):PuI w3 v8 y false false v10 v11 w:=⟨.inl ⟨rfl,h⟩,fun h=>(by cases h)⟩
theorem PuI.ext(h:PuI w3 v8 y s10 s11 v10 v11 w)(h0:Ext w0 w3)(hl:∀k∈rowF v8,w0.heap.size<=k):Ext w0 w:=by
 rcases h.h with⟨_,he⟩|⟨_,hR⟩
 ·exact h0.trans he
 ·exact hR.chg.ext h0 hl
theorem PuI.before(h:PuI w3 v8 y false s11 v10 v11 w):Ext w3 w:=by
 rcases h.h with⟨_,he⟩|⟨e,_⟩
 ·exact he
 ·cases e
theorem PuI.put(h:PuI w3 v8 y false s11 v10 v11 w){v:E8}(hR:RowC 5 w3 w' v8 v y):PuI w3 v8 y true s11 v v11 w':=
 ⟨.inr ⟨rfl,hR⟩,fun e=>absurd (h.k e).1 Od⟩
theorem PuI.keep(h:PuI w3 v8 y true false v10 v11 w):PuI w3 v8 y true true v10 v10 w:=⟨h.h,fun _=>⟨rfl,rfl⟩⟩
theorem PuI.val(h:PuI w3 v8 y true s11 v10 v11 w):∃A c,v10=.slice A y.length c:=by
 rcases h.h with⟨e,_⟩|⟨_,hR⟩
 ·cases e
 ·exact hR.own
theorem PuI.done(h:PuI w3 v8 y true true v10 v11 w):v11=v10/\RowC 5 w3 w v8 v10 y:=by
 rcases h.h with⟨e,_⟩|⟨_,hR⟩
 ·cases e
 ·exact⟨(h.k rfl).2,hR⟩
end
structure DcS(L:List LB)(w0 w:Ez)(i:Nat)(v u:E8):Prop where
 sep:Sep w0 w [rowF v,rowF u]
 area:w.ownsRow 0 5 1 v (arL L i).length (byV (arL L i))
 plc:w.ownsRow 0 125 1 u (upN i 16) (u64V (plcN L i))
 len:(plcN L i).length=upN i 16
theorem qtp(L:List E0)(A:oA)(n c:Nat)(w:Ez)(hS:SlAt zeS 1 w A L)(hn:L.length=n)(hb:n<=140737488355328):
  Gv EG 74 [.slice A n c,ii 1099511627776] w fun r w'=>DBuR (txs L) w w' r:=by
 refine ze Tryz.func74 Tryz.ntmps74 ?_;refine zC (fun _=>zw ?_) (fun _=>zw ?_)
 ·have e:dicE (txs L)=2:=qz4 (by rw[qg0];omega);exact .inl ⟨by rw[e];decide,by rw[e];rfl,Ext.refl w⟩
 have hlong:¬4194304<(txs L).length:=by rw[qg0];omega
 refine qj (fun i:Nat=>[(0,.slice A n c),(1,ii 1099511627776),(6,ii i)]) (fun i w1=>i<=n/\(∀j,j<i->¬262144<(tx (txs L) j).length)/\w1=w) (fun i=>n-i) 0 fq ⟨Am _,fun j h=>absurd h (Cn _),rfl⟩ ?_;rintro i w1 ρ' ⟨i1,i2,rfl⟩;(conv=>whnf);refine zC (fun _=>zw ?_) (fun _=>zw ?_)
 ·have hi:i<L.length:=by omega
  have hx:=qkm hi;refine ElemV.sl hS hn i rfl Oo ?_;intro eb eo hcell;(conv=>whnf);refine LoadV.cell0 hcell (zw ?_);refine zC (fun _=>zu ?_) (fun _=>zu ?_)
  ·have e:dicE (txs L)=2:=qz6 (i:=i) Oo;exact .inl ⟨by rw[e];decide,by rw[e];rfl,xr⟩
  ·refine⟨i+1,⟨rfl,rfl,Af (Value.int .i64) Oo,trivial⟩,⟨by omega,fun j hj=>?_,rfl⟩,by omega⟩
   by_cases e:j=i
   ·subst e;omega
   ·exact i2 j Oo
 obtain rfl:i=n:=by omega
 have hsh:∀j,¬262144<(tx (txs L) j).length:=fun j=>by
  by_cases hj:j<i
  ·exact i2 j hj
  ·rw[qacc Oo];decide
 refine qj (fun k:Nat=>[(0,.slice A i c),(1,ii 1099511627776),(7,ii (k+1:Nat))]) (fun k w2=>(∀j,j<k->j+1<L.length->leL (tx (txs L) (j+1)) (tx (txs L) j)=false)/\Ext w1 w2) (fun k=>i-k) 0 fq ⟨fun j h=>by omega,Ext.refl w1⟩ ?_;rintro k w2 ρ2 ⟨k1,he2⟩;(conv=>whnf);refine zC (fun _=>zw ?_) (fun _=>zw ?_)
 ·have hk:k+1<L.length:=by omega
  obtain⟨b,off,rfl,hat⟩:=(hS.ext he2).at_ (by intro e;rw[e]at hk;cases hk);have hca:=(hat k _ (zge Oo)).ext (Ext.refl w2).drew;have hcb:=(hat (k+1) _ (zge hk)).ext (Ext.refl w2).drew;refine zy ?_;refine zv ?_;refine⟨⟨b,off,k,rfl,by omega,by omega,?_⟩⟩;refine zu ?_;refine LoadV.cell0 hca (zu ?_);refine⟨⟨b,off,k+1,rfl,by omega,by omega,?_⟩⟩;refine zu ?_;refine LoadV.cell0 hcb (zu ?_);have he3:=he2.drew;have hle:=qaad hk (show k<L.length by omega);refine Tst.both (fun hlt=>?_) fun hlt=>?_
  ·refine zu ?_;refine⟨k+1,⟨rfl,rfl,Af (Value.int .i64) Oo,trivial⟩,⟨fun j hj hjl=>?_,he3⟩,by omega⟩
   by_cases e:j=k
   ·subst e;rw[hle,<-D0];exact fun g=>by rw[q8k.2 g]at hlt;cases hlt
   ·exact k1 j Oo hjl
  ·(conv=>whnf);have e:dicE (txs L)=160:=qz5 hlong hsh (i:=k) (by rw[qg0];exact hk) (by rw[hle];exact q8k.1 hlt);exact .inl ⟨by rw[e];decide,by rw[e];rfl,he3⟩
 have hE:chkD (txs L)=0:=q9l hlong hsh (fun j hj=>by rw[qg0]at hj;exact k1 j Oo hj);have hLn:i<=4194304:=by rw[qg0]at hlong;omega
 clear k1 hlong hsh i2;refine qj (fun x:Nat×oA×Nat×oA×Nat=>[(0,.slice A i c),(1,ii 1099511627776),(8,.slice x.2.1 (arL (txs L) x.1).length x.2.2.1),(9,.slice x.2.2.2.1 (upN x.1 16) x.2.2.2.2),(10,ii x.1)])
  (fun x w'=>x.1<=i/\DcS (txs L) w1 w' x.1 (.slice x.2.1 (arL (txs L) x.1).length x.2.2.1) (.slice x.2.2.2.1 (upN x.1 16) x.2.2.2.2)) (fun x=>i-x.1) (0,none,0,none,0) fq ⟨Am _,⟨((Sep.of he2).add (F:=rowF (.slice none 0 0)) (Ext.refl w2) (fun k hk=>by cases hk)).add (F:=rowF (.slice none 0 0)) (Ext.refl w2) (fun k hk=>by cases hk),World.ownsRow_nil _ _ _ _,World.ownsRow_nil _ _ _ _,rfl⟩⟩ ?_
 rintro⟨j,B,cB,P,cP⟩ w3 ρ3 ⟨j1,hD⟩;dsimp only at j1 hD|-;have hal:=qzp (L:=txs L) hE (i:=j) (by rw[qg0];omega);have hup:upN j 16<=262144:=by unfold upN;omega
 (conv=>whnf)
 (repeat'(first|refine zp ?_|refine zC (fun _=>zw ?_) (fun _=>zw ?_)))
 ·have hj:j<L.length:=by omega
  have hsz:=q3q hE hj;have hx:=qnj hj;have hlx:(tx (txs L) j).length=L[j].size:=qkm hj;have hj16:j%16=0:=by omega
  refine⟨fun nb w4 hnb hw=>?_⟩;have he4:Ext w3 w4:=by rw[hw];exact(Ext.refl w3).alloc _
  have hc4:w4.heap[nb]?=some (.cells #[.int .u64 (arL (txs L) j).length] 125):=by rw[hw,hnb];exact heap_alloc_new w3 _
  have hSp:=hD.sep.call he4;have hA4:=qa0 hD.area he4;have hP4:=qa0 hD.plc he4;have hpl:=hD.len;clear hnb hw;(conv=>whnf);refine AppV.cell qaef u64I u64Z Jk rfl (by decide +kernel) hP4 hc4 rfl Oo ?_;intro P5 cP5 w5 hP5 hch hnew;obtain⟨hSp,_,hkp⟩:=hSp.row (i:=1) (F':=rowF (.slice P5 (upN j 16+1) cP5)) rfl hch hnew;have hA5:=qcd hA4 (hkp 0 _ rfl Od);(conv=>whnf);obtain⟨eb,eo,rfl,hat⟩:=hS.at_ (by intro e;rw[e]at hj;cases hj);have hcell:=hat j _ (zge hj);rw[Bk]at hcell;have hlo8:=hSp.at_ (i:=0) rfl;have hlo8:∀k∈rowF (.slice B (arL (txs L) j).length cB),w1.heap.size<=k:=fun k hk=>(hlo8 k hk).1
  have har:arL (txs L) (j+1)=arL (txs L) j++(varL L[j].size++L[j].data.toList):=by rw[q89 _ hj16,hlx,hx]
  refine DrawV.genW (fun S vals w'=>PuI w5 (.slice B (arL (txs L) j).length cB) (arL (txs L) (j+1)) (S 10) (S 11) (vals 10) (vals 11) w') rfl Jk (fun vals=>PuI.start (Ext.refl w5).drew) (zw ?_);(iterate 3 (refine zg ?_));refine StepG.of (.pointer (some ⟨eb,eo+j,none⟩)) (fun S vals wd hk hp hI=>zw ?_) (zw ?_)
  ·refine⟨⟨eb,eo,j,rfl,by omega,by omega,?_⟩⟩;rw[show tsz EG 9=1 from by kernel_rfl,Bk];(conv=>whnf);exact⟨rfl,hI⟩
  refine StepG.of (.string L[j]) (fun S vals wd hk hp hI=>zw ?_) (zw ?_)
  ·refine LoadV.cell0 (CellsAt.ext hcell (hI.ext hSp.ext hlo8)) (zw ?_);exact⟨rfl,hI⟩
  (iterate 3 (refine zg ?_));refine StepG.of (.pointer (some ⟨eb,eo+j,none⟩)) (fun S vals wd hk hp hI=>zw ?_) (zw ?_)
  ·refine⟨⟨eb,eo,j,rfl,by omega,by omega,?_⟩⟩;rw[show tsz EG 9=1 from by kernel_rfl,Bk];(conv=>whnf);exact⟨rfl,hI⟩
  refine StepG.of (.string L[j]) (fun S vals wd hk hp hI=>zw ?_) (zw ?_)
  ·refine LoadV.cell0 (CellsAt.ext hcell (hI.ext hSp.ext hlo8)) (zw ?_);exact⟨rfl,hI⟩
  refine StepG.any (fun S vals wd hk hp hI=>?_) (zw ?_)
  ·dsimp only at hI;rw[hk]at hI;(conv=>whnf);refine zcv (qpf _ (arL (txs L) j) L[j].size L[j] wd (qa0 hA5 hI.before) Oo Oo) ?_;rintro r wx hR;rw[<-har]at hR;exact⟨trivial,hI.put (hR.back hI.before)⟩
  refine StepG.any (fun S vals wd hk hp hI=>?_) (zw ?_)
  ·dsimp only at hI;have h10:S 10=true:=hp 10 Od;rw[hk,h10]at hI;obtain⟨Ax,cx,hv⟩:=hI.val;rw[hv]at hI;rw[ql hv];(conv=>whnf);refine⟨trivial,?_⟩;show PuI _ _ _ (S 10) true _ _ _;rw[h10];exact hI.keep
  intro vals w6 hI;obtain⟨e11,hR⟩:=hI.done;obtain⟨B6,cB6,hv⟩:=hR.own;rw[ql (e11.trans hv)];rw[hv]at hR;clear hI;obtain⟨hSp,_,hkp⟩:=hSp.row (i:=0) (F':=rowF (.slice B6 (arL (txs L) (j+1)).length cB6)) rfl hR.chg hR.new;have hP6:=qcd hP5 (hkp 1 _ rfl Od);have hup1:upN (j+1) 16=upN j 16+1:=by unfold upN;omega
  refine zu ?_;refine⟨(j+1,B6,cB6,P5,cP5),⟨rfl,rfl,rfl,by show Value.slice _ _ _=_;rw[hup1],Af (Value.int .i64) Oo,trivial⟩,⟨by show j+1<=i;omega,?_⟩,by show i-(j+1)<i-j;omega⟩;show DcS (txs L) w1 w6 (j+1) (.slice B6 (arL (txs L) (j+1)).length cB6) (.slice P5 (upN (j+1) 16) cP5);rw[hup1];refine⟨hSp,hR.row,?_,?_⟩
  ·rw[hup1,qwi _ hj16,u64V,AB];exact hP6
  ·rw[hup1,qwi _ hj16,zla,hpl];rfl
 ·have hj:j<L.length:=by omega
  have hj16:j%16≠0:=by omega
  have hj0:j≠0:=fun e=>hj16 (by rw[e])
  have hsz:=q3q hE hj;have hsz1:=q3q hE (i:=j-1) Oo;have hx:=qnj hj;have hx1:=qnj (L:=L) (i:=j-1) Oo;have hlx:(tx (txs L) j).length=L[j].size:=qkm hj;have hcm:=qkt (tx (txs L) (j-1)) (tx (txs L) j);rw[hlx]at hcm;obtain⟨eb,eo,rfl,hat⟩:=hS.at_ (by intro e;rw[e]at hj;cases hj);have hcell:=hat j _ (zge hj);have hcell1:=hat (j-1) _ (zge (show j-1<L.length by omega));have hw3:Ext w1 w3.drew:=hD.sep.ext.drew;refine DrawV.free rfl Jk (zw ?_);(iterate 3 (refine zd ?_));apply zsd
  ·intro wd hd;(conv=>whnf);refine⟨⟨eb,eo,j-1,rfl,by omega,by omega,?_⟩⟩;exact xq
  (conv=>whnf);apply zsd
  ·intro wd hd;(conv=>whnf);refine LoadV.cell0 (CellsAt.ext hcell1 (hw3.trans hd)) (zw ?_);exact xq
  (conv=>whnf);refine zd ?_;refine zd ?_;apply zsd
  ·intro wd hd;(conv=>whnf);refine⟨⟨eb,eo,j,rfl,by omega,by omega,?_⟩⟩;exact xq
  (conv=>whnf);apply zsd
  ·intro wd hd;(conv=>whnf);refine LoadV.cell0 (CellsAt.ext hcell (hw3.trans hd)) (zw ?_);exact xq
  (conv=>whnf);apply zsd
  ·intro wd hd;(conv=>whnf);refine zcv (qxk (L[j-1]' Oo) L[j] wd Oo) ?_;rintro r wx ⟨rfl,hex⟩;exact⟨hex,rfl⟩
  (conv=>whnf);refine zd ?_;intro w4 he4;have he4:Ext w3 w4:=(Ext.refl w3).drew.trans he4;conv=>whnf
  (repeat(intro _ _;(conv=>whnf)))
  rw[<-hx1,<-hx];obtain⟨cm,ecm⟩:∃cm,cm=comL (tx (txs L) (j-1)) (tx (txs L) j):=⟨_,rfl⟩
  rw[<-ecm]at hcm|-;have hSp:=hD.sep.call he4;have hA4:=qa0 hD.area he4;have hP4:=qa0 hD.plc he4;have hpl:=hD.len;have hlv1:=qbe 9 cm Oo;have hlv2:=qbe 9 (L[j].size-cm) Oo;clear hD;refine zv ?_;refine zcv (qen cm w4 Oo) ?_;rintro r w5 ⟨⟨Bv,dv,rfl,hdv,hVS⟩,he5⟩;have hSp:=hSp.call he5;have hA5:=qa0 hA4 he5;have hP5:=qa0 hP4 he5;(conv=>whnf);refine AppV.bys qcp bytI bytZ Jk rfl (by decide +kernel) hA5 hVS Oo ?_;intro B6 cB6 w6 hA6 hch hnew;obtain⟨hSp,_,hkp⟩:=hSp.row (i:=0) (F':=rowF (.slice B6 ((arL (txs L) j).length+(varL cm).length) cB6)) rfl hch hnew;have hP6:=qcd hP5 (hkp 1 _ rfl Od);obtain⟨Y,eY⟩:∃Y,Y=arL (txs L) j++varL cm:=⟨_,rfl⟩
  have hYl:(arL (txs L) j).length+(varL cm).length=Y.length:=by rw[eY,zla]
  rw[<-eY,hYl]at hA6;rw[hYl]at hSp|-;clear hch hnew hA4 hA5 hP4 hP5 hVS hkp;(conv=>whnf);have hlo8:=hSp.at_ (i:=0) rfl;have hlo8:∀k∈rowF (.slice B6 Y.length cB6),w1.heap.size<=k:=fun k hk=>(hlo8 k hk).1
  obtain⟨sx,esx⟩:∃sx,sx=L[j].extract cm L[j].size:=⟨_,rfl⟩
  have hsx:sx.data.toList=(tx (txs L) j).drop cm:=by rw[esx,qbn,hx];exact AF (by rw[zld];exact Aq _)
  have hsl:sx.data.toList.length=L[j].size-cm:=by rw[hsx,zld,hlx]
  have har:arL (txs L) (j+1)=Y++(varL (L[j].size-cm)++sx.data.toList):=by rw[q4f _ hj16,hlx,<-ecm,hsx,eY];simp only[Ak]
  have hw6:Ext w1 w6:=hSp.ext;refine DrawV.genW (fun S vals w'=>PuI w6 (.slice B6 Y.length cB6) (arL (txs L) (j+1)) (S 14) (S 15) (vals 14) (vals 15) w') rfl Jk (fun vals=>PuI.start (Ext.refl w6).drew) (zw ?_);(iterate 3 (refine zg ?_));refine StepG.of (.pointer (some ⟨eb,eo+j,none⟩)) (fun S vals wd hk hp hI=>zw ?_) (zw ?_)
  ·refine⟨⟨eb,eo,j,rfl,by omega,by omega,?_⟩⟩;rw[show tsz EG 9=1 from by kernel_rfl,Bk];(conv=>whnf);exact⟨rfl,hI⟩
  refine StepG.of (.string L[j]) (fun S vals wd hk hp hI=>zw ?_) (zw ?_)
  ·refine LoadV.cell0 (CellsAt.ext (by rw[Bk]at hcell;exact hcell) (hI.ext hw6 hlo8)) (zw ?_);exact⟨rfl,hI⟩
  refine zg ?_;refine zg ?_;refine StepG.of (ii ((L[j].size-cm:Nat):Int)) (fun S vals wd hk hp hI=>?_) (zw ?_)
  ·refine zu ?_;exact⟨Af (Value.int .i64) Oo,hI⟩
  refine zg ?_;refine zg ?_;refine StepG.of (.pointer (some ⟨eb,eo+j,none⟩)) (fun S vals wd hk hp hI=>zw ?_) (zw ?_)
  ·refine⟨⟨eb,eo,j,rfl,by omega,by omega,?_⟩⟩;rw[show tsz EG 9=1 from by kernel_rfl,Bk];(conv=>whnf);exact⟨rfl,hI⟩
  refine StepG.of (.string L[j]) (fun S vals wd hk hp hI=>zw ?_) (zw ?_)
  ·refine LoadV.cell0 (CellsAt.ext (by rw[Bk]at hcell;exact hcell) (hI.ext hw6 hlo8)) (zw ?_);exact⟨rfl,hI⟩
  refine zg ?_;refine StepG.of (.string sx) (fun S vals wd hk hp hI=>zw ?_) (zw ?_)
  ·refine⟨cm,L[j].size,rfl,rfl,by omega,Aq _,?_⟩;rw[<-esx];(conv=>whnf);exact⟨rfl,hI⟩
  refine StepG.any (fun S vals wd hk hp hI=>?_) (zw ?_)
  ·dsimp only at hI;rw[hk]at hI;(conv=>whnf);refine zcv (qpf _ Y (L[j].size-cm) sx wd (qa0 hA6 hI.before) Oo (by rw[eY,zla];show _+sx.data.toList.length+16<=_;omega)) ?_;rintro r wx hR;rw[<-har]at hR;exact⟨trivial,hI.put (hR.back hI.before)⟩
  refine StepG.any (fun S vals wd hk hp hI=>?_) (zw ?_)
  ·dsimp only at hI;have h14:S 14=true:=hp 14 Od;rw[hk,h14]at hI;obtain⟨Ax,cx,hv⟩:=hI.val;rw[hv]at hI;rw[ql hv];(conv=>whnf);refine⟨trivial,?_⟩;show PuI _ _ _ (S 14) true _ _ _;rw[h14];exact hI.keep
  intro vals w7 hI;obtain⟨e15,hR⟩:=hI.done;obtain⟨B7,cB7,hv⟩:=hR.own;rw[ql (e15.trans hv)];rw[hv]at hR;clear hI;obtain⟨hSp,_,hkp⟩:=hSp.row (i:=0) (F':=rowF (.slice B7 (arL (txs L) (j+1)).length cB7)) rfl hR.chg hR.new;have hP7:=qcd hP6 (hkp 1 _ rfl Od);have hup1:upN (j+1) 16=upN j 16:=by unfold upN;omega
  refine zu ?_;refine⟨(j+1,B7,cB7,P,cP),⟨rfl,rfl,rfl,by show Value.slice _ _ _=_;rw[hup1],Af (Value.int .i64) Oo,trivial⟩,⟨by show j+1<=i;omega,?_⟩,by show i-(j+1)<i-j;omega⟩;show DcS (txs L) w1 w7 (j+1) (.slice B7 (arL (txs L) (j+1)).length cB7) (.slice P (upN (j+1) 16) cP);rw[hup1];refine⟨hSp,hR.row,?_,?_⟩
  ·rw[hup1,qrp _ hj16];exact hP7
  ·rw[hup1,qrp _ hj16,hpl]
 ·obtain rfl:j=i:=by omega
  have hSp:=hD.sep;have hA:=hD.area;have hP:=hD.plc;have hpl:=hD.len;have hLl:(txs L).length=j:=by rw[qg0,hn]
  have hAr:arL (txs L) j=qam (txs L):=by rw[qam,hLl]
  have hPl:plcN (txs L) j=plcL (txs L):=by rw[<-hLl];rfl
  rw[hAr]at hSp hA hal|-;rw[hPl]at hP hpl;clear hD;have hw64:=qo1 (n:=(qam (txs L)).length) Oo;have hwd:qao (qam (txs L)).length<=64:=qc5 64 _ Oo Od;refine zcv (qjb (qam (txs L)).length w3 Oo) ?_;rintro r w4 ⟨rfl,rfl⟩;have hplt:∀x∈plcL (txs L),x<2 ^ qao (qam (txs L)).length:=fun x hx=>by
   rw[plcL,AY]at hx;obtain⟨k,hk,rfl⟩:=hx;rw[BY,hLl]at hk;refine Ca ?_ hw64;rw[<-hAr];exact q4g _ (by unfold upN at hk;omega)
  (conv=>whnf);refine zcv (qr1 (plcL (txs L)) (qao (qam (txs L)).length) P (upN j 16) cP w4 (q2e hP hpl) hpl Oo (AU (BT hup hwd) Od) hplt hwd) ?_;rintro r w5 ⟨vp,rfl,hNp⟩;obtain⟨Ap,cp,ep,_,hAp⟩:=hNp.bs;subst ep;have hAs:SlAt encB 1 w5 B (qam (txs L)):=(qtg hA rfl).ext hNp.ext;have he5:Ext w1 w5:=hSp.ext.trans hNp.ext;have hpkl:=qce (plcL (txs L)) (qao (qam (txs L)).length);have hpk:(plcL (txs L)).length*qao (qam (txs L)).length<=262144*64:=BT Oo hwd;have eD:varL j++varL (qam (txs L)).length++qde (plcL (txs L)) (qao (qam (txs L)).length)++qam (txs L)=qp (txs L):=by rw[qp,hLl];simp only[Ak]
  obtain⟨pk,epk⟩:∃pk,pk=qde (plcL (txs L)) (qao (qam (txs L)).length):=⟨_,rfl⟩
  obtain⟨pr,epr⟩:∃pr,pr=(plcL (txs L)).length*qao (qam (txs L)).length:=⟨_,rfl⟩
  rw[<-epk]at hAp hpkl eD|-;rw[<-epr]at hpkl hpk;have hlv1:=qbe 9 j Oo;have hlv2:=qbe 9 (qam (txs L)).length Oo;clear hNp hP hA hSp;have hO:RowS w5 w5 (.slice none 0 0) []:=RowS.nil (Ext.refl w5);have e0:∀a:LB,a++(⟨#[]⟩:E0).data.toList=a:=fun a=>AI a
  (conv=>whnf);refine zcv (qpf _ [] j ⟨#[]⟩ w5 hO.row Oo Od) ?_;rintro r w6 hR;rw[e0,Br]at hR;obtain⟨A6,c6,rfl⟩:=hR.own;have hO:=hO.chg hR.row hR.chg hR.new;clear hR;(conv=>whnf);refine zcv (qpf _ (varL j) (qam (txs L)).length ⟨#[]⟩ w6 hO.row Oo (by show(varL j).length+0+16<=_;omega)) ?_;rintro r w7 hR;rw[e0]at hR;obtain⟨A7,c7,rfl⟩:=hR.own;have hO:=hO.chg hR.row hR.chg hR.new;clear hR;have hl7:(varL j++varL (qam (txs L)).length).length<=20:=by rw[zla];omega
  (conv=>whnf);refine hO.bys (hAp.ext hO.ext) Oo ?_;clear hO;intro A8 c8 w8 hO;have hl8:(varL j++varL (qam (txs L)).length++pk).length<=20+pk.length:=by rw[zla];omega
  (conv=>whnf);refine hO.bys (hAs.ext hO.ext) Oo ?_;clear hO;intro A9 c9 w9 hO;rw[eD]at hO|-;have hl9:(qp (txs L)).length<=20+pk.length+(qam (txs L)).length:=by rw[<-eD,zla];omega
  (conv=>whnf);refine zC (fun _=>zu ?_) (fun _=>zu ?_)
  ·have hle:67108864<(qam (txs L)).length:=by omega
   exact .inl ⟨by rw[qqm hE hle];decide,by rw[qqm hE hle];rfl,he5.trans hO.ext⟩
  ·exact .inr ⟨q41 hE Oo,_,rfl,hO.new.back he5⟩
def vocY(T:List TM):Nat->LB
 | 0=>[]
 | k+1=>vocY T k++qp (secE T k)
theorem qack(T:List TM):vocW T 3++vocY T 3=vocB T:=by
 rw[qacj];simp only[vocY,Br,Ak]
theorem quu{T:List TM}:∀{i:Nat},i<=3->(∀j,j<i->dicE (secE T j)=0)->(vocY T i).length<=70000000*i
 | 0,_,_=>Aq _
 | i+1,h,hd=>by
  have h1:=quu (T:=T) (i:=i) Oo fun j hj=>hd j Oo
  have h2:=qob (hd i Oo);rw[vocY,zla];omega
structure RvS(T:List TM)(w0 w:Ez)(i:Nat)(u v:E8):Prop where
 sep:Sep w0 w [rowF u,rowF v]
 hd:w.ownsRow 0 5 1 u (vocW T i).length (byV (vocW T i))
 bd:w.ownsRow 0 5 1 v (vocY T i).length (byV (vocY T i))
def RVuR(qs:List Q4)(w w':Ez)(r:E8):Prop:=
 (∃e:Nat,e≠0/\e=(if valE qs≠0 then valE qs else qe3 (tmsQ qs))/\r=.tuple #[.slice none 0 0,ii e]/\Ext w w')\/
 (valE qs=0/\qe3 (tmsQ qs)=0/\∃v,r=.tuple #[v,ii 0]/\NewS 5 w w' v (vocB (tmsQ qs)))
theorem qt2(qs:List Q4)(A:oA)(n c:Nat)(w:Ez)(hS:SlAt qd 16 w A qs)(hn:qs.length=n)(hb:n<=140737488355328)(hq:∀q∈qs,qa9 q):
  Gv EG 47 [.slice A n c,ii 1099511627776] w fun r w'=>RVuR qs w w' r:=by
 subst hn;have t1:tsz EG 3=1:=by kernel_rfl
 refine ze Tryz.func47 Tryz.ntmps47 ?_;refine zcv (qul qs A qs.length c w hS rfl hb hq) ?_;rintro r w1 ⟨⟨i0,rfl⟩,he1⟩
 by_cases hE:valE qs=0
 case neg=>
  have h0:¬((valE qs:Nat):Int)=0:=by omega
  refine zu ?_;exact .inl ⟨valE qs,hE,by rw[Ad hE],rfl,he1⟩
 have hlq:=(qdh hE).1;have hNT:=quc hE;have hTE:=fun t (ht:t∈tmsQ qs)=>qfq hE ht
 have hTO:∀t∈tmsQ qs,TermOk t:=fun t ht=>by
  obtain⟨q,h1,h2⟩:=qke.1 ht;exact qyj (hq q h1) h2
 unfold RVuR;rw[Aa (fun g=>g hE)];rw[hE];refine zu ?_;refine zcv (qjv qs A c w1 (hS.ext he1) Oo) ?_;rintro r w2 ⟨⟨B,d,rfl,hd,hTS⟩,he2⟩;have hTS:SlAt encT 4 w2 B (tmsQ qs):=hTS;have hd:(tmsQ qs).length<=d:=hd;show _;generalize eT:tmsQ qs=T at *;have eT2:tmsN (trms qs).length (trms qs)=T:=eT;rw[eT2];(conv=>whnf);refine zcv (qs7 w2) ?_;rintro r w3 ⟨rfl,he3⟩;(conv=>whnf);refine znm (Mem.nil w3) fun kb w4 hm=>zw ?_;refine StoreA.all (vs:=[ii 1,ii 2,ii 3]) hm (i:=0) rfl rfl (by simp[Value.oneCell']) ?_;intro w5 hm;have hkc:CellsAt w5 kb 0 [ii 1,ii 2,ii 3]:=CellsAt.mem hm mh;have he5:Ext w w5:=he1.trans (he2.trans (he3.trans hm.ext));have hTS:=hTS.ext (he3.trans hm.ext);clear hm;(conv=>whnf);refine qj (fun x:Nat×oA×Nat×oA×Nat=>[(1,ii 1099511627776),(8,.slice B T.length d),(9,.slice x.2.1 (vocW T x.1).length x.2.2.1),(10,.slice x.2.2.2.1 (vocY T x.1).length x.2.2.2.2),(11,pp kb),(12,ii x.1)])
  (fun x w'=>x.1<=3/\(∀j,j<x.1->dicE (secE T j)=0)/\RvS T w5 w' x.1 (.slice x.2.1 (vocW T x.1).length x.2.2.1) (.slice x.2.2.2.1 (vocY T x.1).length x.2.2.2.2)) (fun x=>3-x.1) (0,none,0,none,0) fq
  ⟨Am _,fun j h=>absurd h (Cn _),((Sep.of (Ext.refl w5)).add (F:=rowF (.slice none 0 0)) (Ext.refl w5) (fun k hk=>by cases hk)).add (F:=rowF (.slice none 0 0)) (Ext.refl w5) (fun k hk=>by cases hk),World.ownsRow_nil _ _ _ _,World.ownsRow_nil _ _ _ _⟩ ?_
 rintro⟨i,H,cH,Y,cY⟩ w6 ρ' ⟨i1,i2,hR⟩;dsimp only at i1 i2 hR|-;have hwl:=qut i1 i2;have hyl:=quu i1 i2;(conv=>whnf);refine zC (fun _=>zw ?_) (fun _=>zw ?_)
 ·have hi3:i<3:=by omega
  have hki:([ii 1,ii 2,ii 3]:EE)[i]?=some (ii ((i+1:Nat):Int)):=by
   rcases(show i=0\/i=1\/i=2 by omega)with rfl|rfl|rfl<;>rfl
  refine qj (fun y:Nat×oA×Nat=>[(1,ii 1099511627776),(8,.slice B T.length d),(9,.slice H (vocW T i).length cH),(10,.slice Y (vocY T i).length cY),(11,pp kb),(12,ii i),(13,.slice y.2.1 (secA (T.take y.1) i).length y.2.2),(14,ii y.1)])
   (fun y w'=>y.1<=T.length/\Rw w6 w' (.slice y.2.1 (secA (T.take y.1) i).length y.2.2) 9 1 (secA (T.take y.1) i).length (strV (secA (T.take y.1) i)) []) (fun y=>T.length-y.1) (0,none,0) fq ⟨Am _,Rw.nil (Mem.nil w6)⟩ ?_
  rintro⟨j,E,cE⟩ w7 ρ2 ⟨j1,hR7⟩;dsimp only at j1 hR7|-;have he7:Ext w5 w7:=hR.sep.ext.trans hR7.mem.ext;have hsl:=q6r (T.take j) i;rw[AG]at hsl;(conv=>whnf);refine zC (fun _=>zw ?_) (fun _=>zw ?_)
  ·have hj:j<T.length:=by omega
   have htm:=AT hj;have etk:T.take (j+1)=T.take j++[T[j]]:=by rw[BJ,zge hj];rfl
   obtain⟨tb,tof,eB,hat⟩:=(hTS.ext he7).at_ (by intro e;rw[e]at hj;cases hj);have hcell:=hat j _ (zge hj);have hkc7:=hkc.ext he7;obtain⟨t,et⟩:∃t,t=T[j]:=⟨_,rfl⟩
   rw[<-et]at htm etk hcell;obtain⟨tE,k1,k3⟩:=hTE t htm;subst eB;have he8:Ext w7 w7.drew:=(Ext.refl w7).drew;refine zy ?_;refine zv ?_;refine⟨⟨tb,tof,j,rfl,by omega,by omega,?_⟩⟩;refine zu ?_;refine LoadV.cell0 (hcell.ext he8) (zu ?_);refine LoadV.of (by rw[t1,Bk];exact(hkc7.ext he8) i _ hki) (zw ?_);have hcell:=hcell.ext he8;have hR7:=hR7.call he8;generalize w7.drew=w8 at *;refine zt ?_;refine zC (fun _=>zu ?_) (fun _=>zu ?_)
   ·have hk:t.kind=((i+1:Nat):Int):=by omega
    refine⟨⟨tb,tof,j,rfl,by omega,by omega,?_⟩⟩;(conv=>whnf);refine LoadA.cells hcell rfl (zw ?_);refine zcv (qsw t (hTO t htm) w8) ?_;rintro r w9 ⟨rfl,he9⟩;rw[Ad tE];have hR7:=hR7.call he9;(conv=>whnf);refine NewV.rw hR7 fun nb w10 hR7=>zw ?_;refine AppV.one qy8 strI strZ Jk rfl (by decide +kernel) hR7 rfl Oo ?_;clear hR7;intro E2 cE2 w11 hR7;refine zu ?_;have es:secA (T.take (j+1)) i=secA (T.take j) i++[entA t]:=by rw[etk,q6q hk]
    have el:(secA (T.take (j+1)) i).length=(secA (T.take j) i).length+1:=by rw[es];simp
    refine⟨(j+1,E2,cE2),⟨rfl,rfl,rfl,rfl,rfl,rfl,by show Value.slice _ _ _=_;rw[el],Af (Value.int .i64) Oo,trivial⟩,⟨by show j+1<=T.length;omega,?_⟩,by show T.length-(j+1)<T.length-j;omega⟩;show Rw w6 w11 (.slice E2 (secA (T.take (j+1)) i).length cE2) 9 1 _ _ _;rw[el,es,strV,AB];exact hR7
   ·have hk:t.kind≠((i+1:Nat):Int):=by omega
    have es:secA (T.take (j+1)) i=secA (T.take j) i:=by rw[etk,q26 hk]
    refine⟨(j+1,E,cE),⟨rfl,rfl,rfl,rfl,rfl,rfl,by show Value.slice _ _ _=_;rw[es],Af (Value.int .i64) Oo,trivial⟩,⟨by show j+1<=T.length;omega,?_⟩,by show T.length-(j+1)<T.length-j;omega⟩;show Rw w6 w8 (.slice E (secA (T.take (j+1)) i).length cE) 9 1 _ _ _;rw[es];exact hR7
  ·obtain rfl:j=T.length:=by omega
   rw[Bg]at hR7 hsl|-;have hEs:SlAt zeS 1 w7 E (secA T i):=qpc (f:=Value.string) hR7.own rfl;refine zcv (qtp (secA T i) E (secA T i).length cE w7 hEs rfl Oo) ?_;rintro r w8 hDB;rw[q6s]at hDB
   rcases hDB with⟨h0,rfl,he8⟩|⟨h0,v,rfl,hN⟩
   ·have h1:¬((dicE (secE T i):Nat):Int)=0:=by omega
    refine zu ?_;exact .inl ⟨dicE (secE T i),h0,(q7g hi3 i2 h0).symm,rfl,he5.trans (he7.trans he8)⟩
   ·have hlen:=qob h0;have he8:=hR7.mem.ext.trans hN.ext;have hSp:=(hR.sep.call hR7.mem.ext).add hN.ext hN.lo;obtain⟨Av,cv,ev,hcv,hAv⟩:=id hN.bs;subst ev;have hlv:=qbe 9 (qp (secE T i)).length Oo;refine zu ?_;refine zcv (qen (qp (secE T i)).length w8 Oo) ?_;rintro r w9 ⟨⟨Bv,dv,rfl,hdv,hVS⟩,he9⟩;have hSp:=hSp.call he9;have hd9:=qa0 (qa0 hR.hd he8) he9;have hb9:=qa0 (qa0 hR.bd he8) he9;have hAv:=hAv.ext he9;(conv=>whnf);refine AppV.bys qcp bytI bytZ Jk rfl (by decide +kernel) hd9 hVS Oo ?_;intro H2 cH2 w10 ho hc hn;have eW:(vocW T i).length+(varL (qp (secE T i)).length).length=(vocW T (i+1)).length:=by rw[vocW,zla]
    rw[eW]at ho hn|-;have hs:=hSp.row (i:=1) (F':=rowF (.slice H2 (vocW T (i+1)).length cH2)) rfl hc hn;have hb10:=qcd hb9 (hs.keep 2 _ rfl Od);have hAv:=hAv.keep fun k hk=>hs.keep 0 _ rfl Od k (by rw[qwq _ _ _ 0 0];exact hk)
    have hSp:=hs.sep;clear hc hn hd9 hb9 hVS hs;(conv=>whnf);refine AppV.bys qcp bytI bytZ Jk rfl (by decide +kernel) hb10 hAv Oo ?_;intro Y2 cY2 w11 ho2 hc2 hn2;have eY:(vocY T i).length+(qp (secE T i)).length=(vocY T (i+1)).length:=by rw[vocY,zla]
    rw[eY]at ho2 hn2|-;have hs2:=hSp.row (i:=2) (F':=rowF (.slice Y2 (vocY T (i+1)).length cY2)) rfl hc2 hn2;have ho11:=qcd ho (hs2.keep 1 _ rfl Od);refine zu ?_;refine⟨(i+1,H2,cH2,Y2,cY2),⟨rfl,rfl,rfl,rfl,rfl,Af (Value.int .i64) Oo,trivial⟩,⟨by show i+1<=3;omega,fun j hj=>?_,hs2.sep.drop 1,ho11,ho2⟩,by show 3-(i+1)<3-i;omega⟩
    by_cases e:j=i
    ·subst e;exact h0
    ·exact i2 j (by have:j<i+1:=hj;omega)
 ·obtain rfl:i=3:=by omega
  have hYs:SlAt encB 1 w6 Y (vocY T 3):=qtg hR.bd rfl;refine AppV.bys qcp bytI bytZ Jk rfl (by decide +kernel) hR.hd hYs Oo ?_;intro Z cZ w7 ho hc hn;have eL:(vocW T 3).length+(vocY T 3).length=(vocB T).length:=by rw[<-qack,zla]
  rw[qack]at ho;rw[eL]at ho hn|-;have hs:=hR.sep.row (i:=0) (F':=rowF (.slice Z (vocB T).length cZ)) rfl hc hn;have hO:RowS w5 w7 (.slice Z (vocB T).length cZ) (vocB T):=⟨(hs.sep.perm (List.Perm.swap _ _ _)).drop 1,ho⟩
  refine zu ?_;exact .inr ⟨rfl,q7h i2,_,rfl,hO.new.back he5⟩
theorem qtw(Q:Nat->Nat->Nat)(n:Nat)(hQ:TOk Q n)(hi:i<n)(w:Ez):Gv EG 77 [idsW (Q i)] w fun r w'=>r=.bool true/\Ext w w':=by
 have t1:tsz EG 3=1:=by kernel_rfl
 refine ze Tryz.func77 Tryz.ntmps77 ?_;refine znm (Mem.nil w) ?_;intro b w1 hm;have hc:CellsAt w1 b 0 (idsE (Q i)):=CellsAt.mem hm mh;(conv=>whnf);refine qj (fun k:Nat=>[(1,pp b),(3,ii k)]) (fun k w'=>k<=4/\w'=w1) (fun k=>4-k) 0 fq ⟨Am _,rfl⟩ ?_;rintro k w2 ρ' ⟨k1,rfl⟩;conv=>whnf
 (repeat'(first|refine zp ?_|refine zC (fun _=>zw ?_) (fun _=>zw ?_)))
 case' refine_2=>exact⟨rfl,hm.ext⟩
 all_goals
  have hk:k<4:=by omega
  have hr:=hQ.num i k hi hk;refine LoadV.of (by rw[t1,Bk];exact hc k _ (qeg (Q i) hk)) (zu ?_);refine LoadV.of (by rw[t1,Bk];exact hc k _ (qeg (Q i) hk)) (zu ?_);exact⟨k+1,fq,⟨by omega,rfl⟩,by omega⟩
theorem qn4(a b:Nat->Nat)(w:Ez){kk:Nat}(hk:kk<4)(he:∀j,j<kk->a j=b j)(hlt:a kk<b kk):Gv EG 78 [idsW a,idsW b] w fun r w'=>r=ii (-1)/\Ext w w':=by
 have t1:tsz EG 3=1:=by kernel_rfl
 refine ze Tryz.func78 Tryz.ntmps78 ?_;refine znm (Mem.nil w) fun b1 w1 hm=>zw ?_;refine znm hm fun b2 w2 hm=>zw ?_;have c1:CellsAt w2 b1 0 (idsE a):=CellsAt.mem hm (zmc mh);have c2:CellsAt w2 b2 0 (idsE b):=CellsAt.mem hm mh;refine qj (fun k:Nat=>[(2,pp b1),(3,pp b2),(5,ii k)]) (fun k w'=>k<=kk/\Ext w2 w') (fun k=>kk-k) 0 fq ⟨Am _,xr⟩ ?_;rintro k w3 ρ' ⟨k1,he3⟩;have h1:=c1.ext he3.drew;have h2:=c2.ext he3.drew;refine zu ?_;refine zy ?_;refine zv ?_;refine LoadV.of (by rw[t1,Bk];exact h1 k _ (qeg a Oo)) (zu ?_);refine LoadV.of (by rw[t1,Bk];exact h2 k _ (qeg b Oo)) (zw ?_)
 by_cases hkk:k=kk
 ·subst hkk;refine zv ?_;exact⟨rfl,hm.ext.trans he3.drew⟩
 ·have hab:=he k Oo;have h1:=h1.ext xr.drew;have h2:=h2.ext xr.drew;refine zv ?_;refine zy ?_;refine zv ?_;refine LoadV.of (by rw[t1,Bk];exact h1 k _ (qeg a Oo)) (zu ?_);refine LoadV.of (by rw[t1,Bk];exact h2 k _ (qeg b Oo)) (zu ?_);exact⟨k+1,fq,⟨by omega,he3.drew.drew⟩,by omega⟩
def boF(S:List Bool)(t:Nat):Nat:=if S.getD t false=true then 1 else 0
theorem q9c{t:Nat}(h:S.length<=t):boF S t=0:=by
 rw[boF,Ag,Au h];rfl
def boC(S:List Bool)(e:Nat):EE:=byV (qda (upF (boF S) e) ((S.length+7)/8))
theorem q9b(S:List Bool)(e:Nat):(boC S e).length=(S.length+7)/8:=by rw[boC,qdb,qco]
theorem q9a(S:List Bool):boC S S.length=byV (qda (boF S) ((S.length+7)/8)):=by
 have e:upF (boF S) S.length=boF S:=funext fun t=>by
  rw[upF]
  split
  ·rfl
  ·exact(q9c Oo).symm
 rw[boC,e]
theorem q4p{e:Nat}(h:boF S e=0):boC S (e+1)=boC S e:=by
 have e:upF (boF S) (e+1)=upF (boF S) e:=funext fun t=>by
  rw[upF,upF]
  by_cases g:t=e
  ·subst g;rw[Ad Oo,Aa Oo,h]
  ·by_cases g2:t<e
   ·rw[Ad g2,Ad Oo]
   ·rw[Aa g2,Aa Oo]
 rw[boC,boC,e]
theorem qrm(S:List Bool)(A:oA)(n c:Nat)(w:Ez)(hS:SlAt encO 1 w A S)(hn:S.length=n)(hb:n<=4194304):
  Gv EG 83 [.slice A n c] w fun r w'=>NewS 5 w w' r (qda (boF S) ((n+7)/8)):=by
 refine ze Tryz.func83 Tryz.ntmps83 ?_;refine zv ?_;refine⟨(n+7)/8,(n+7)/8,rfl,rfl,Aq _,by show(n+7)/8*1<=_;omega,by omega,fun ob w5 hb hw5=>?_⟩;have hm0:=(Mem.nil w).new hb hw5;have hm:Mem w w5 [(ob,.cells (boC S 0).toArray 5)]:=by rw[boC,qw7,hn];exact hm0
 clear hb hw5 hm0;(conv=>whnf);refine qj (fun i:Nat=>[(0,.slice A n c),(3,.slice (some ⟨ob,0,none⟩) ((n+7)/8) ((n+7)/8)),(4,ii i)])
  (fun i w'=>i<=n/\Mem w w' [(ob,.cells (boC S i).toArray 5)]) (fun i=>n-i) 0 fq ⟨Am _,hm⟩ ?_
 clear hm;rintro i w6 ρ' ⟨i1,hm⟩;(conv=>whnf);refine zC (fun _=>zw ?_) (fun _=>zw ?_)
 ·have hi:i<S.length:=by omega
  refine ElemV.sl (hS.ext hm.ext) hn i rfl Oo ?_;intro eb eo hcell;obtain⟨s,es⟩:∃s,s=S[i]:=⟨_,rfl⟩
  rw[<-es]at hcell;have hbo:boF S i=if s=true then 1 else 0:=by rw[boF,Ag,zge hi,es];rfl
  (conv=>whnf);refine LoadV.cell0 hcell (zw ?_);cases s with
  | false=>
   have hbo:boF S i=0:=hbo;refine zv ?_;exact⟨i+1,fq,⟨by omega,by rw[q4p hbo];exact hm⟩,by omega⟩
  | true=>
   have hbo:boF S i=1:=hbo;have hst:=q3s (F:=boF S) (m:=(S.length+7)/8) (e:=i) Oo;rw[hbo]at hst;have hcl:=q9b S i;have hld:(boC S i)[i/8]?=some (.int .u8 (byt (upF (boF S) i) (i/8):Nat)):=qft Oo;have hby:=qvd (upF (boF S) i) (i/8);refine zv ?_;refine DrawV.own rfl Jk (zw ?_);(iterate 3 (refine zo ?_));apply StepO.still
   ·intro wd hd;(conv=>whnf);refine ElemV.own1 (i/8) rfl Oo (zw ?_);exact PostO.still xr rfl
   (conv=>whnf);apply StepO.still
   ·intro wd hd;(conv=>whnf);refine LoadV.mem (Mem.call (Mem.drew hm) hd) (i:=0) rfl (by rw[Ar];exact hld) ?_;(conv=>whnf);exact PostO.still xr rfl
   (conv=>whnf);refine zo ?_;refine zo ?_;apply StepO.still
   ·intro wd1 hd;(conv=>whnf);refine V.Wit.shlN (a:=1) (i%8) Oo (by show i%8<8;omega) (qgf ?_) ?_
    ·have h2:2 ^ (i%8)<=2 ^ 7:=Bs Od Oo;have e7:(2:Nat) ^ 7=128:=by decide
     show 1*2 ^ (i%8)<256;omega
    (conv=>whnf);exact PostO.still xr rfl
   (conv=>whnf);apply StepO.still
   ·intro wd1 hd;(conv=>whnf);refine Wit.eq (q8e (f:=boF S) i 1) (zw ?_);exact PostO.still xr rfl
   (conv=>whnf);apply StepO.still
   ·intro wd1 hd;(conv=>whnf);refine ElemV.own1 (i/8) rfl Oo (zw ?_);exact PostO.still xr rfl
   (conv=>whnf);intro w8 hd8
   (repeat(intro _;(conv=>whnf)))
   (conv=>whnf);refine StoreV.mem (hm.drew.call hd8) (i:=0) rfl (by rw[CK];omega) rfl ?_;intro w9 hm;have hm:Mem w w9 [(ob,.cells (boC S (i+1)).toArray 5)]:=by
    rw[boC,<-hst];have e:((boC S i).toArray.setIfInBounds (i/8) (.int .u8 (byt (upF (boF S) i) (i/8)+1%2*2 ^ (i%8):Nat)))=((boC S i).set (i/8) (.int .u8 (byt (upF (boF S) i) (i/8)+1%2*2 ^ (i%8):Nat))).toArray:=by simp
    rw[boC]at e;rw[<-e];exact hm
   refine zu ?_;exact⟨i+1,fq,⟨by omega,hm⟩,by omega⟩
 ·obtain rfl:i=n:=by omega
  obtain⟨o1,o2⟩:=hm.own _ mh;have hall:=q9a S;rw[hn]at hall;refine NewS.blk hm.ext o1 ?_ (by rw[qco]);rw[<-hall];exact o2
def laM(S:List Bool):List Bool:=(List.range S.length).map fun t=>S.getD (t+1) false
def laN(S:List Bool):List Bool:=(List.range S.length).map fun t=>decide (t+1=S.length)||S.getD (t+1) false
theorem qby(S:List Bool):(laM S).length=S.length:=by simp[laM]
theorem qgt(S:List Bool):(laN S).length=S.length:=by simp[laN]
theorem qq2{t:Nat}(h:t<S.length):(laM S)[t]?=some (S.getD (t+1) false):=by rw[laM,Ao,Bt h];rfl
theorem q1b{t:Nat}(h:t<S.length):(laN S)[t]?=some (decide (t+1=S.length)||S.getD (t+1) false):=by rw[laN,Ao,Bt h];rfl
theorem q5q(S:List Bool)(b:Bool):laM (S++[b])=(laM S).set (S.length-1) b++[false]:=by
 refine BW fun t=>?_
 by_cases h:t<S.length
 ·rw[qq2 Ys,AQ (by rw[CP,qby];exact h),BX,Ag]
  by_cases e:S.length-1=t
  ·rw[Ad e,Ad (by rw[qby];omega),AR Oo,show t+1-S.length=0 by omega];rfl
  ·rw[Aa e,qq2 h,AQ Oo,Ag]
 ·by_cases e:t=S.length
  ·subst e;rw[qq2 Js,AR (by rw[CP,qby];exact Aq _),CP,qby,CE,Ag,Au Js];rfl
  ·rw[Au (by rw[qby];simp;omega),Au (by rw[zla,CP,qby];simp;omega)]
theorem q5p(S:List Bool):(laM S).set (S.length-1) false=laM S:=by
 refine BW fun t=>?_;rw[BX]
 by_cases e:S.length-1=t
 ·rw[Ad e]
  by_cases h:t<S.length
  ·rw[Ad (by rw[qby];omega),qq2 h,Ag,Au Oo];rfl
  ·rw[Aa (by rw[qby];omega),Au (by rw[qby];omega)]
 ·rw[Aa e]
theorem qaab(S:List Bool):(laM S).set (S.length-1) true=laN S:=by
 refine BW fun t=>?_;rw[BX]
 by_cases h:t<S.length
 ·by_cases e:S.length-1=t
  ·rw[Ad e,Ad (by rw[qby];omega),q1b h,Az Oo];rfl
  ·rw[Aa e,qq2 h,q1b h,AH Oo];rfl
 ·by_cases e:S.length-1=t
  ·rw[Ad e,Aa (by rw[qby];omega),Au (by rw[qgt];omega)]
  ·rw[Aa e,Au (by rw[qby];omega),Au (by rw[qgt];omega)]
theorem qaaa(S:List Bool)(t:Nat):(if(laN S).getD t false=true then 1 else 0)=laT S t:=by
 rw[Ag,laT]
 by_cases h:t<S.length
 ·rw[q1b h]
  by_cases e:t+1=S.length
  ·rw[Ad e,Az e];rfl
  ·rw[Aa e,AH e];rfl
 ·rw[Au (by rw[qgt];omega),Ag,Au Oo,Aa (show ¬t+1=S.length by omega)]
def smQ(Q:Nat->Nat->Nat)(i k:Nat):Bool:=if k=0 then decide (0<i)else !(frU Q i (k-1))
theorem qkl(Q:Nat->Nat->Nat)(i k:Nat):smQ Q i (k+1)=!(frU Q i k):=by simp[smQ]
theorem qac6(Q:Nat->Nat->Nat)(i k:Nat):frU Q i k=!(smQ Q i k&&decide (Q i k=Q (i-1) k)):=by
 cases k with
 | zero=>
  by_cases h:i=0
  ·subst h;simp[frU,smQ]
  ·have e:smQ Q i 0=true:=by rw[smQ,Ad rfl];exact Az Oo
   rw[e,Dh,frU,AV];simp[h]
 | succ k=>
  rw[qkl,frU,AV];simp
theorem qab1(h:smQ Q i k=true):0<i:=by
 rw[smQ]at h
 split at h
 ·exact BR h
 ·exact(qfx (by simpa using h)).1
end Go.Proofs.YtacnkdagblbgfaaGreatDoor
