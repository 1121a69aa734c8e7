/- Lemmas and contracts of functions on the way to the law's card (part 12 of 16). -/
import Derived.Test.YtccmcfpmknpccaaGreatDoorST11
namespace Go.Proofs.YtccmcfpmknpccaaGreatDoor
set_option maxHeartbeats 8000000
open Go.RowKit V
set_option maxHeartbeats 8000000
set_option maxRecDepth 100000
variable {w w' w0:Dd} {b base c g i j k m off:Nat} {cs cur:Dq} {P:Df} {vs xs:Dn} {ρ:Dk} {o:Oper} {K:Dj} {e ty:Dg} {z:Di} {T:List TM} {A:oA} {F:Do} {qs:List Q4} {d:LB} {S:List Bool} {Q:Nat->Nat->Nat}
namespace V
theorem qhe{t:Dg}(H:w.heap[b]?=some (.cells cur t)):Chn [b] w (w.setRow b cs)/\(w.setRow b cs).heap[b]?=some (.cells cs t):=
 ⟨⟨rfl,rfl,rfl,by simp[World.setRow],λk _ hn=>qq λe=>hn (by rw[e];exact Ac.2 rfl)⟩,qb2 H⟩
theorem StoreA.blk{t:Dg}{K:Dl}(H:w.heap[b]?=some (.cells cur t))(W:off+vs.length<=cur.size)(h1:∀v∈vs,v.oneCell'=true)(hk:∀w',Chn [b] w w'->w'.heap[b]?=some (.cells (cur.toList.take off++vs++cur.toList.drop (off+vs.length)).toArray t)->K w'):StoreA P w b off vs K:=by
 have O:=run_storeCells_at P b off t vs 0 cur w H (by simpa using W) h1;simp only[Bq]at O;obtain⟨h2,h3⟩:=qhe (cs:=(cur.toList.take off++vs++cur.toList.drop (off+vs.length)).toArray) H;exact⟨_,O,hk _ h2 h3⟩
theorem Fall.clear{c:Call}{a:Di}(ho:o.op=.call c)(hc:c.callee=.builtin .clear)(W:evs ρ c.args.toList=[a])(v:Di)(w':Dd)(H:(Builtin.clear_ c.argTypes o.type #[a]).run P w=.ok v w')(hk:K v w'):Fall P (execOp (ev ρ) o) w K:=by
 have he:execOp (ev ρ) o=(do pure (.value (<-Builtin.clear_ c.argTypes o.type (c.args.map (ev ρ))))):=by
  simp only[execOp,ho,resolve,hc];rfl
 have O:c.args.map (ev ρ)=#[a]:=by
  rw[qcz]at W;rw[<-Bs];simpa using W
 rw[he,O];exact⟨.inl ⟨v,w',by rw[Sem.run_bind,H];rfl,hk⟩⟩
theorem qvn{n:Nat}{t et:Dg}{i:TypeInfo}(ht:P.underlying t=some (.slice e))(hi:P.info? e=some i)(hz:i.zero=some z)(H:z.cells.size=k)(h1:∀v∈z.cells.toList,v.oneCell'=true)(hk:0<k)(hg:w.heap[b]?=some (.cells cur et))(hn:0<n)(hl:off+n*k<=cur.size):
  ∃zs:Dn,zs.length=n*k/\(Builtin.clear_ #[t] ty #[.slice (some ⟨b,off,none⟩) n c]).run P w=.ok (.tuple #[]) (w.setRow b (cur.toList.take off++zs++cur.toList.drop (off+zs.length)).toArray):=by
 refine⟨(Builtin.zeroCells z.cells n).toList,by simp[Builtin.zeroCells,H],?_⟩;have O:∀v∈(Builtin.zeroCells z.cells n).toList,v.oneCell'=true:=by
  intro v hv;simp only[Builtin.zeroCells,Array.toList_map,AG]at hv;obtain⟨j,hj,rfl⟩:=hv;have aa:j%z.cells.size<z.cells.size:=Cb _ Oo;rw[getElem!_pos z.cells _ aa];exact h1 _ Js
 have W:=run_storeCells_at P b off et (Builtin.zeroCells z.cells n).toList 0 cur w hg (by simp[Builtin.zeroCells,H];omega) O;simp only[Bq]at W;have ab:(zeroValue e).run P w=.ok z w:=by simp[zeroValue,typeInfo,hi,hz]
 obtain⟨m,rfl⟩:∃m,n=m+1:=⟨n-1,by omega⟩
 simp[Builtin.clear_,run_underlying ht,ab,W]
end V
theorem qqx(Y:List TM)(k:Nat)(t:TM)(W:k<Y.length):((Y.set k t).map encT).flatten=(Y.map encT).flatten.take (k*4)++encT t++(Y.map encT).flatten.drop (k*4+4):=by
 have h1:∀(Z:List TM),((Z.map encT).flatten).length=Z.length*4:=qbs encT 4 qag;have e1:Y=Y.take k++(Y[k]::Y.drop (k+1)):=by rw[<-Bp W,B4]
 have H:((Y.take k).map encT).flatten.length=k*4:=by rw[h1,A4];congr 1;omega
 have O:=Ae (λZ=>(List.map encT Z).flatten) e1;have e3:Y.set k t=Y.take k++(t::Y.drop (k+1)):=by rw[List.set_eq_take_append_cons_drop,Af W]
 simp only[Ba,AF,Cm,BR]at O;rw[e3];simp only[Ba,AF,Cm,BR];obtain⟨P,eP⟩:∃P,P=((Y.take k).map encT).flatten:=⟨_,rfl⟩
 obtain⟨R,eR⟩:∃R,R=((Y.drop (k+1)).map encT).flatten:=⟨_,rfl⟩
 rw[<-eP]at H;rw[<-eP,<-eR]at O|-;have hd:(P++(encT Y[k]++R)).drop (k*4+4)=R:=by
  rw[<-Au];exact List.drop_left' (by rw[zla,H];rfl)
 rw[O,List.take_left' H,hd,Au]
structure TRow(w:Dd)(g c:Nat)(Y:List TM):Prop where
 h:∃cur,w.heap[g]?=some (.cells cur 45)/\Y.length<=c/\cur.size=c*4/\cur.toList.take (Y.length*4)=(Y.map encT).flatten
theorem TRow.at{Y:List TM}(h:TRow w g c Y)(O:j<Y.length):CellsAt w g (j*4) (encT Y[j]):=by
 obtain⟨cur,W,h2,h3,h4⟩:=h.h;intro k v H;have hk:k<4:=(Ad.1 H).1;rw[qa W,<-H,<-qbv encT 4 qag Y j Y[j] k (zge O) hk,<-h4,Bn,Af Oo];simp
theorem TRow.set{Y:List TM}(h:TRow w g c Y)(H:j<Y.length)(t:TM){K:Dl}(O:∀w',Chn [g] w w'->TRow w' g c (Y.set j t)->K w'):StoreA P w g (j*4) (encT t) K:=by
 obtain⟨cur,W,h2,h3,h4⟩:=h.h;have hf:=qbs encT 4 qag Y;refine StoreA.blk W (by rw[qag];omega) (qab t) λw' hc hg=>O w' hc ⟨⟨_,hg,by rw[C6];exact h2,?_,?_⟩⟩
 ·simp[qag];omega
 ·rw[C6,qqx Y j t H,qag,<-h4];have aa:cur.toList.length=c*4:=by simpa using h3
  rw[List.take_take,Bi Oo,List.drop_take];rw[List.take_append,Ay (by rw[zla,A4,qag];omega)]
  congr 2
  rw[zla,A4,qag,Bi Oo]
theorem TRow.cut{Y:List TM}(h:TRow w g c Y)(m:Nat):TRow w g c (Y.take m):=by
 obtain⟨cur,O,h2,W,h4⟩:=h.h;refine⟨⟨cur,O,by rw[A4];omega,W,?_⟩⟩;have hf:=qbs encT 4 qag (Y.take m);have e:=Ae (λZ=>(List.map encT Z).flatten) (B4 m Y).symm;simp only[Ba,Cm]at e;have H:=Ae (List.take ((Y.take m).length*4)) h4;rw[List.take_take,Bi (Bd _ (by rw[A4];omega)),e,List.take_left' hf]at H;exact H
theorem TRow.sl{Y:List TM}(h:TRow w g c Y):SlAt encT 4 w (some ⟨g,0,none⟩) Y:=
 ⟨λ_=>⟨g,0,rfl,λj x H=>by
  obtain⟨O,rfl⟩:=Ad.1 H;rw[Aq];exact h.at O⟩⟩
theorem TRow.ext{Y:List TM}(h:TRow w g c Y)(H:Ext w w'):TRow w' g c Y:=by
 obtain⟨cur,O,W⟩:=h.h;exact⟨⟨cur,H.get O,W⟩⟩
def CmpR(X:List TM)(g:Nat)(w w':Dd)(r:Di):Prop:=∃c,r=.slice (some ⟨g,0,none⟩) (unqN X X.length).length c/\(unqN X X.length).length<=c/\SlAt encT 4 w' (some ⟨g,0,none⟩) (unqN X X.length)/\Chn [g] w w'
theorem qado:∀v∈((((Dp.info? 45).get Jk).zero).get Jk).cells.toList,v.oneCell'=true:=BU.1 Jk
theorem qo1(X:List TM)(g n c:Nat)(w:Dd)(h:TRow w g c X)(hn:X.length=n)(hl:n<=1000000000000):
  Gv Dp 328 [.slice (some ⟨g,0,none⟩) n c] w λr w'=>CmpR X g w w' r:=by
 have aj:n<=c:=by obtain⟨cur,_,h2,_⟩:=h.h;omega
 refine ze Tryz.func328 Tryz.ntmps328 ?_;refine zC (λ_=>zw ?_) (λ_=>zw ?_)
 ·have hu:unqN X X.length=X:=by
   rw[qgg znr (λi h0 hi=>by omega),BB]
  exact⟨c,by rw[hu,hn],by rw[hu];omega,by rw[hu];exact h.sl,Chn.refl _ _⟩
 ·refine qn (λi:Nat=>[(0,.slice (some ⟨g,0,none⟩) n c),(3,ii (i+1:Nat))]) (λi w'=>i+1<=n/\(∀j,0<j->j<i+1->qx (tmA X j) (tmA X (j-1))=false)/\Ext w w') (λi=>n-i) 0 fq ⟨by omega,λj h0 hj=>by omega,Ext.refl w⟩ ?_;rintro i w1 av ⟨i1,i2,he⟩;have hr:=h.ext he;(conv=>whnf);refine zC (λ_=>zw ?_) (λ_=>zw ?_)
  ·have hi:i+1<X.length:=by omega
   have c1:=(hr.at hi).ext (Ext.refl w1).drew;have c0:=(hr.at (show i<X.length by omega)).ext (Ext.refl w1).drew;refine zy ?_;refine zv ?_;refine⟨⟨g,0,i+1,rfl,by omega,by omega,?_⟩⟩;rw[show tsz Dp 45=4 from by kernel_rfl,Aq];refine zu ?_;refine LoadA.cells c1 rfl (zu ?_);refine⟨⟨g,0,i,rfl,by omega,by omega,?_⟩⟩;rw[show tsz Dp 45=4 from by kernel_rfl,Aq];refine zu ?_;refine LoadA.cells c0 rfl (zu ?_);refine RunV.eqTerm (a:=X[i+1]) (b:=X[i]) (.inl rfl) ?_;have ak:tmA X (i+1)=X[i+1]:=qjt hi;have al:tmA X (i+1-1)=X[i]:=qjt (i:=i) Oo;have he:=he.drew;have hr:=h.ext he;cases hs:qx X[i+1] X[i]
   ·refine zu ?_;refine⟨i+1,⟨rfl,Ae (Value.int .i64) Oo,trivial⟩,⟨by omega,λj h0 hj=>?_,he⟩,by omega⟩
    by_cases e:j=i+1
    ·subst e;rw[ak,al];exact hs
    ·exact i2 j h0 Oo
   ·have hu:unqN X (i+1)=X.take (i+1):=qgg Oo i2;have ad:unqN X (i+2)=unqN X (i+1):=qo8 Oo (by rw[ak,al];exact hs);have ae:(unqN X (i+1)).length=i+1:=by rw[hu,A4];omega
    refine zu ?_;refine⟨i+1,n,c,by show((i+1:Nat):Int)=_;rfl,rfl,rfl,by omega,aj,Ao _,(λh=>(by cases h)),λA' H=>?_⟩;rw[Ab Oo]at H;have H:A'=some ⟨g,(i+1)*4,none⟩:=by
     rw[H,show tsz Dp 45=4 from by kernel_rfl];show some (Addr.add _ _)=_;rw[q8,Aq]
    subst H;refine qn (λq:Nat=>[(0,.slice (some ⟨g,0,none⟩) n c),(3,ii (unqN X (i+2+q)).length),(4,.slice (some ⟨g,(i+1)*4,none⟩) (n-(i+1)) (c-(i+1))),(5,ii (q+1:Nat))])
     (λq w'=>i+2+q<=n/\(unqN X (i+2+q)).length<=i+1+q/\Chn [g] w w'/\∃Y:List TM,TRow w' g c Y/\Y.length=n/\Y.take (unqN X (i+2+q)).length=unqN X (i+2+q)/\∀j,i+1+q<=j->tmA Y j=tmA X j) (λq=>n-q) 0
     ⟨rfl,Ae (λn:Nat=>ii n) (show i+1=(unqN X (i+2+0)).length by rw[Bq,ad,ae]),rfl,rfl,trivial⟩ ⟨by omega,by rw[Bq,ad,ae];omega,Chn.of _ he,X,hr,hn,by rw[Bq,ad,ae,hu],λj _=>rfl⟩ ?_
    rintro q w2 aw ⟨q1,q2,W,Y,hY,am,aa,ab⟩;obtain⟨k,ek⟩:∃k,k=(unqN X (i+2+q)).length:=⟨_,rfl⟩
    rw[<-ek]at q2 aa|-;(conv=>whnf);refine zC (λ_=>zw ?_) (λ_=>zw ?_)
    ·have hp:i+2+q<Y.length:=by omega
     have d1:=(hY.at hp).ext (Ext.refl w2).drew;have d0:=(hY.at (show i+1+q<Y.length by omega)).ext (Ext.refl w2).drew;have af:Y[i+2+q]=tmA X (i+2+q):=by rw[<-ab _ Oo,qjt hp]
     have an:Y[i+1+q]=tmA X (i+2+q-1):=by rw[show i+2+q-1=i+1+q by omega,<-ab _ Oo,qjt Oo]
     refine zy ?_;refine zv ?_;refine⟨⟨g,(i+1)*4,q+1,rfl,by omega,by omega,?_⟩⟩;rw[show tsz Dp 45=4 from by kernel_rfl,show(i+1)*4+(q+1)*4=(i+2+q)*4 by omega];refine zu ?_;refine LoadA.cells d1 rfl (zu ?_);refine⟨⟨g,(i+1)*4,q,rfl,by omega,by omega,?_⟩⟩;rw[show tsz Dp 45=4 from by kernel_rfl,show(i+1)*4+q*4=(i+1+q)*4 by omega];refine zu ?_;refine LoadA.cells d0 rfl (zu ?_);refine RunV.eqTerm (a:=Y[i+2+q]) (b:=Y[i+1+q]) (.inr rfl) ?_;have W:=W.trans (Chn.of _ (Ext.refl w2).drew);have hY:=hY.ext (Ext.refl w2).drew;have e3:i+2+(q+1)=i+2+q+1:=by omega
     cases ao:qx Y[i+2+q] Y[i+1+q]
     ·have O:unqN X (i+2+q+1)=unqN X (i+2+q)++[tmA X (i+2+q)]:=qt0 (by rw[<-af,<-an];exact ao);have ag:(unqN X (i+2+q+1)).length=k+1:=by rw[O,zla,<-ek];rfl
      refine zu ?_;refine⟨⟨g,(i+1)*4,q+1,rfl,by omega,by omega,?_⟩⟩;rw[show tsz Dp 45=4 from by kernel_rfl,show(i+1)*4+(q+1)*4=(i+2+q)*4 by omega];refine LoadA.cells d1 rfl (zw ?_);refine⟨⟨g,0,k,rfl,rfl,by omega,?_⟩⟩;rw[show tsz Dp 45=4 from by kernel_rfl,Aq];refine hY.set Oo Y[i+2+q] ?_;intro w3 ah ac;refine zu ?_;refine⟨q+1,⟨rfl,by rw[e3,ag];exact Ae (Value.int .i64) Oo,rfl,Ae (Value.int .i64) Oo,trivial⟩,⟨by omega,by rw[e3,ag];omega,W.trans ah,_,ac,by rw[C6];exact am,?_,λj hj=>?_⟩,by omega⟩
      ·rw[e3,ag,O,<-aa,<-af];rw[Bu,List.take_set_of_le znr,AT Oo];rfl
      ·rw[tmA,Ag,List.getElem?_set_ne Oo,<-Ag];exact ab j Oo
     ·have O:unqN X (i+2+q+1)=unqN X (i+2+q):=qo8 Oo (by rw[<-af,<-an];exact ao);refine zu ?_;refine⟨q+1,⟨rfl,Ae (λn:Nat=>ii n) (show k=(unqN X (i+2+(q+1))).length by rw[e3,O,<-ek]),rfl,Ae (Value.int .i64) Oo,trivial⟩,⟨by omega,by rw[e3,O,<-ek];omega,W,Y,hY,am,by rw[e3,O,<-ek];exact aa,λj hj=>ab j Oo⟩,by omega⟩
    ·have hp:i+2+q=n:=by omega
     have ax:k<n:=by omega
     refine⟨k,n,c,rfl,rfl,rfl,by omega,aj,Ao _,(λh=>(by cases h)),λA' H=>?_⟩;rw[Ab Oo]at H;have H:A'=some ⟨g,k*4,none⟩:=by
      rw[H,show tsz Dp 45=4 from by kernel_rfl];show some (Addr.add _ _)=_;rw[q8,Aq]
     subst H;obtain⟨cur,r1,r2,r3,r4⟩:=(hY.cut k).h;obtain⟨zs,ay,aq⟩:=qvn (P:=Dp) (w:=w2) (off:=k*4) (n:=n-k) (c:=c-k) (ty:=0) qv7 trmI trmZ Jk qado (show 0<4 by decide) r1 Oo Oo;obtain⟨ah,ar⟩:=qhe (cs:=(cur.toList.take (k*4)++zs++cur.toList.drop (k*4+zs.length)).toArray) r1;refine Fall.clear rfl rfl rfl _ _ aq ?_;generalize w2.setRow g (cur.toList.take (k*4)++zs++cur.toList.drop (k*4+zs.length)).toArray=w3 at *;have au:(Y.take k).length=k:=by rw[A4];omega
     have az:cur.toList.length=c*4:=by simpa using r3
     have ac:TRow w3 g c (Y.take k):=⟨⟨_,ar,r2,by simp;omega,by
      rw[au]at r4|-;rw[List.toList_toArray,Au,Bx (by rw[A4];omega),Ay (by rw[A4];omega)];exact r4⟩⟩
     rw[aa]at ac;have ai:unqN X X.length=unqN X (i+2+q):=by rw[hn,hp]
     (conv=>whnf);refine⟨0,k,c,rfl,rfl,rfl,An _,by omega,Ao _,(λh=>(by cases h)),λA' H=>?_⟩;have H:A'=some ⟨g,0,none⟩:=by
      rw[H]
      split
      ·rfl
      ·rw[show tsz Dp 45=4 from by kernel_rfl];show some (Addr.add _ _)=_;rw[q8]
     subst H;(conv=>whnf);exact⟨c,by rw[ai,<-ek];rfl,by rw[ai,<-ek];omega,by rw[ai];exact ac.sl,W.trans ah⟩
  ·obtain rfl:i+1=n:=by omega
   have hu:unqN X X.length=X:=by rw[hn,qgg Oo i2,<-hn,BB]
   exact⟨c,by rw[hu,hn],by rw[hu];omega,by rw[hu];exact hr.sl,Chn.of _ he⟩
theorem qjs(w:Dd):Gv Dp 328 [.slice none 0 0] w λr w'=>r=.slice none 0 0/\w'=w:=by
 refine ze Tryz.func328 Tryz.ntmps328 ?_;refine zv ?_
 all_goals exact⟨rfl,rfl⟩
theorem qq8(X:List TM)(A:oA)(n c:Nat)(w:Dd)(hS:SlAt encT 4 w A X)(hn:X.length=n)(hl:n<=1000000000000):
  Gv Dp 251 [.slice A n c,.func (.func 20) #[] #[]] w λr w'=>∃Y:List TM,Y.Perm X/\AscT Y/\(∃B,r=.slice B (unqN Y n).length (unqN Y n).length/\SlAt encT 4 w' B (unqN Y n)/\∀k∈rowF (.slice B 0 0),w.heap.size<=k/\k<w'.heap.size)/\Ext w w':=by
 subst hn;refine ze Tryz.func251 Tryz.ntmps251 ?_;refine zcv (qv3 X A _ c w hS rfl hl) ?_;rintro r w1 ⟨A1,c1,rfl,ae,W⟩;(conv=>whnf);refine zcv (qo5 X A1 c1 w.heap.size w1 W hl) ?_;rintro r w2 ⟨rfl,Y,hp,ha,af,ag⟩;have H:=hp.length_eq;have aa:Ext w w2:=ag.ext ae λk O=>(qhu W k O).1
 (conv=>whnf)
 rcases af.2 with⟨e1,e2⟩|⟨g,ak,cur,e1,hb,hg,al,am,ah,ai⟩
 ·have h0:Y=[]:=AK Oo;obtain rfl:X=[]:=AK e2;subst h0;cases e1;refine zcv (qjs w2) ?_;rintro r w3 ⟨rfl,rfl⟩;(conv=>whnf);refine zcv (qo0 none 0 0 znr (.inl rfl) w3) ?_;rintro r w4 ⟨rfl,rfl⟩;(conv=>whnf);exact⟨[],hp,ha,⟨none,rfl,⟨λh=>absurd rfl h⟩,λk O=>by cases O⟩,aa⟩
 ·cases e1;have hr:TRow w2 g c1 Y:=⟨⟨cur,hg,by omega,ah,by rw[H];exact ai⟩⟩
  refine zcv (qo1 Y g X.length c1 w2 hr H hl) ?_;rintro r w3 ⟨c3,rfl,ab,ac,ad⟩;rw[H]at ab ac|-;have aj:Ext w w3:=ad.ext aa λk O=>by rw[Ac.1 O];exact hb
  (conv=>whnf);refine zcv (qo0 (some ⟨g,0,none⟩) (unqN Y X.length).length c3 ab (.inr ⟨g,0,rfl⟩) w3) ?_;rintro r w4 ⟨rfl,rfl⟩;(conv=>whnf);exact⟨Y,hp,ha,⟨some ⟨g,0,none⟩,rfl,ac,λk O=>by rw[Ac.1 O];exact⟨hb,AE (qb1 hg) ad.size⟩⟩,aj⟩
theorem q07(qs:List Q4)(A:oA)(n c:Nat)(w:Dd)(hS:SlAt qe 16 w A qs)(hn:qs.length=n)(hl:n<=4194304):
  Gv Dp 185 [.slice A n c] w λr w'=>∃B,r=.slice B (tmsQ qs).length (tmsQ qs).length/\SlAt encT 4 w' B (tmsQ qs)/\(∀k∈rowF (.slice B 0 0),w.heap.size<=k/\k<w'.heap.size)/\Ext w w':=by
 subst hn;refine ze Tryz.func185 Tryz.ntmps185 ?_;refine qn (λx:Nat×List TM×oA×Nat=>[(0,.slice A qs.length c),(3,.slice x.2.2.1 x.2.1.length x.2.2.2),(6,.slice A qs.length c),(7,ii qs.length),(8,ii x.1)])
  (λx w'=>x.1<=qs.length/\x.2.1=trms (qs.take x.1)/\Rw w w' (.slice x.2.2.1 x.2.1.length x.2.2.2) 45 4 x.2.1.length (x.2.1.map encT).flatten []) (λx=>qs.length-x.1) (0,[],none,0)
  fq ⟨by simp,rfl,Rw.nil (Mem.nil w)⟩ ?_
 rintro⟨i,W,B,cb⟩ w1 an ⟨h1,h2,O⟩;dsimp only at h1 h2 O|-;(conv=>whnf);refine zC (λ_=>zw ?_) (λ_=>zw ?_)
 ·have ai:i<qs.length:=by omega
  have hq:qs[i]?=some qs[i]:=zge ai;have aj:=qq7 (qs.take i);rw[<-h2,A4,Bi h1]at aj;refine ElemV.sl (hS.ext O.mem.ext) rfl i rfl Oo ?_;intro eb eo ad;refine LoadA.cells ad rfl ?_;refine NewV.rw O ?_;clear O;intro nb w2 O;refine StoreA.rwAll (vs:=qe qs[i]) O rfl (qa8 _) ?_;clear O;intro w3 O;have O:Rw w w3 (.slice B W.length cb) 45 4 W.length (W.map encT).flatten [(nb,.cells (qe qs[i]).toArray 47)]:=O;obtain⟨q,eq⟩:∃q,q=qs[i]:=⟨_,rfl⟩
  rw[<-eq]at O hq;have ab:CellsAt w3 nb 0 (qe q):=CellsAt.mem O.mem mh;refine LoadA.cells (qu ab 0 Od) rfl ?_;refine LoadA.cells (qu ab 1 Od) rfl ?_;refine LoadA.cells (qu ab 2 Od) rfl ?_;refine NewV.rw O λak w4 O=>zw ?_;refine AppV.rw (m:=3) (news:=encT q.s++encT q.p++encT q.o) qv7 trmI trmZ Jk Jk Od O rfl (λ_=>⟨ak,0,rfl,λk v hv=>?_⟩) (qxk q) (by rw[show((Dp.info? 45).get Jk).bytes=56 from by kernel_rfl];omega) Oo ?_
  ·rw[qa (O.mem.get mh),Aq];rw[Az];exact hv
  clear O;intro B2 c2 w5 O;obtain⟨H,aa⟩:∃H,H=W++[q.s,q.p,q.o]:=⟨_,rfl⟩
  have af:H.length=W.length+3:=by rw[aa];simp
  have O:Rw w w5 (.slice B2 H.length c2) 45 4 H.length (H.map encT).flatten [(nb,.cells (qe q).toArray 47)]:=by
   have e:(H.map encT).flatten=(W.map encT).flatten++(encT q.s++encT q.p++encT q.o):=by rw[aa];simp
   rw[e,af];exact O.tail
  rw[<-af];have ab:CellsAt w5 nb 0 (qe q):=CellsAt.mem O.mem mh;refine LoadV.cell0 (qu ab 3 Od) (zw ?_);refine zC (λ_=>zu ?_) (λ_=>zu ?_)
  ·have ac:H++[q.g]=W++trQ q:=by rw[aa,trQ,Ab (by show ¬(q.at 3).kind=0;omega)];simp
   refine LoadA.cells (qu ab 3 Od) rfl ?_;refine NewV.rw O λal w6 O=>zw ?_;refine AppV.rw (m:=1) (news:=encT q.g) qv7 trmI trmZ Jk Jk Od O rfl (λ_=>⟨al,0,rfl,λk v hv=>?_⟩) (qab q.g) (by rw[show((Dp.info? 45).get Jk).bytes=56 from by kernel_rfl];omega) Oo ?_
   ·rw[qa (O.mem.get mh),Aq];rw[Az];exact hv
   clear O;intro B3 c3 w7 O;have O:Rw w w7 (.slice B3 (W++trQ q).length c3) 45 4 (W++trQ q).length ((W++trQ q).map encT).flatten []:=by
    have e:((W++trQ q).map encT).flatten=(H.map encT).flatten++encT q.g:=by rw[<-ac];simp
    rw[e,<-ac,zla];exact O.tail.tail
   refine zu ?_;refine⟨(i+1,W++trQ q,B3,c3),⟨rfl,?_,rfl,rfl,rfl,trivial⟩,⟨by simp only;omega,?_,O⟩,by simp only;omega⟩
   ·show Value.slice B3 (H.length+1) c3=Value.slice B3 (W++trQ q).length c3;rw[<-ac,zla];rfl
   ·show W++trQ q=trms (qs.take (i+1));rw[qo3 qs i q hq,<-h2]
  ·have ac:H=W++trQ q:=by rw[aa,trQ,Af (by show(q.at 3).kind=0;omega)];simp
   refine⟨(i+1,H,B2,c2),fq,⟨by simp only;omega,?_,O.tail⟩,by simp only;omega⟩;show H=trms (qs.take (i+1));rw[qo3 qs i q hq,<-h2,ac]
 ·obtain rfl:i=qs.length:=by omega
  rw[BB]at h2;subst h2;have ao:=qq7 qs;obtain⟨o1,o2⟩:=q8z qag O.own rfl;refine zcv (qq8 (trms qs) B _ cb w1 o1 rfl Oo) ?_;rintro r w5 ⟨Y,hp,ha,⟨B5,rfl,ag,ah⟩,am⟩;have hu:unqN Y (trms qs).length=tmsQ qs:=by rw[<-hp.length_eq];exact q49 ha λt=>hp.mem_iff
  rw[hu]at ag|-;(conv=>whnf);exact⟨B5,rfl,ag,λk hk=>⟨A6 O.mem.ext.size (ah k hk).1,(ah k hk).2⟩,O.mem.ext.trans am⟩
theorem q7h(a b:Q4):or4 (cmpT a.g b.g) (cmpT a.s b.s) (cmpT a.p b.p) (cmpT a.o b.o)=cmpQ a b:=rfl
theorem qnj(a b:Q4)(w:Dd):Gv Dp 120 [qw a,qw b] w λr w'=>r=ii (cmpQ a b)/\Ext w w':=by
 refine ze Tryz.func120 Tryz.ntmps120 ?_;refine znm (Mem.nil w) λb1 w1 hm=>zw ?_;refine znm hm ?_;intro b2 w2 hm;have aa:CellsAt w2 b1 0 (qe a):=CellsAt.mem hm (zmc mh);have ab:CellsAt w2 b2 0 (qe b):=CellsAt.mem hm mh;have hd:Ext w2 w2.drew:=(Ext.refl w2).drew;have c1:∀k,k<4->CellsAt w2.drew b1 (0+k*4) (encT (a.at k)):=λk hk=>(qu aa k hk).ext hd
 have c2:∀k,k<4->CellsAt w2.drew b2 (0+k*4) (encT (b.at k)):=λk hk=>(qu ab k hk).ext hd
 clear hd;(conv=>whnf);refine DrawV.free rfl Jk (zw ?_);refine zd ?_;apply zsd
 ·intro H hd;(conv=>whnf);refine LoadA.cells ((c1 3 Od).ext hd) rfl (zw ?_);exact xq
 (conv=>whnf);refine zd ?_;apply zsd
 ·intro H hd;(conv=>whnf);refine LoadA.cells ((c2 3 Od).ext hd) rfl (zw ?_);exact xq
 (conv=>whnf);apply zsd
 ·intro H hd;(conv=>whnf);refine zcv (qcl a.g b.g H) ?_;rintro v w7 ⟨rfl,O⟩;exact⟨O,rfl⟩
 (conv=>whnf);refine zd ?_;apply zsd
 ·intro H hd;(conv=>whnf);refine LoadA.cells ((c1 0 Od).ext hd) rfl (zw ?_);exact xq
 (conv=>whnf);refine zd ?_;apply zsd
 ·intro H hd;(conv=>whnf);refine LoadA.cells ((c2 0 Od).ext hd) rfl (zw ?_);exact xq
 (conv=>whnf);apply zsd
 ·intro H hd;(conv=>whnf);refine zcv (qcl a.s b.s H) ?_;rintro v w7 ⟨rfl,O⟩;exact⟨O,rfl⟩
 (conv=>whnf);refine zd ?_;apply zsd
 ·intro H hd;(conv=>whnf);refine LoadA.cells ((c1 1 Od).ext hd) rfl (zw ?_);exact xq
 (conv=>whnf);refine zd ?_;apply zsd
 ·intro H hd;(conv=>whnf);refine LoadA.cells ((c2 1 Od).ext hd) rfl (zw ?_);exact xq
 (conv=>whnf);apply zsd
 ·intro H hd;(conv=>whnf);refine zcv (qcl a.p b.p H) ?_;rintro v w7 ⟨rfl,O⟩;exact⟨O,rfl⟩
 (conv=>whnf);refine zd ?_;apply zsd
 ·intro H hd;(conv=>whnf);refine LoadA.cells ((c1 2 Od).ext hd) rfl (zw ?_);exact xq
 (conv=>whnf);refine zd ?_;apply zsd
 ·intro H hd;(conv=>whnf);refine LoadA.cells ((c2 2 Od).ext hd) rfl (zw ?_);exact xq
 (conv=>whnf);apply zsd
 ·intro H hd;(conv=>whnf);refine zcv (qcl a.o b.o H) ?_;rintro v w7 ⟨rfl,O⟩;exact⟨O,rfl⟩
 (conv=>whnf);apply StepD.of (λv wx=>∃W,v=.slice (some ⟨W,0,none⟩) 4 4/\wx.heap[W]?=some (.cells #[ii (cmpT a.g b.g),ii (cmpT a.s b.s),ii (cmpT a.p b.p),ii (cmpT a.o b.o)] 3)) (λ_ _ _ h O=>let⟨W,h1,h2⟩:=h;⟨W,h1,O.get h2⟩)
 ·intro H hd;(conv=>whnf);refine⟨λW wx hb hw=>?_⟩;subst hb hw;(conv=>whnf);exact⟨(Ext.refl H).alloc _,_,rfl,heap_alloc_new H _⟩
 (conv=>whnf);apply zsd
 ·intro H hd;(conv=>whnf);rintro v ⟨W,rfl,hn⟩;(conv=>whnf);refine zcv (qqb _ _ _ _ W H hn) ?_;rintro v w7 ⟨rfl,rfl⟩;rw[q7h];exact xq
 (conv=>whnf);refine zd ?_;intro H hd;conv=>whnf
 (repeat(intro _ _;(conv=>whnf)))
 exact⟨rfl,(hm.drew.call hd).ext⟩
section
variable (qs:List Q4) (A:oA) (n c:Nat) (w:Dd)
theorem qpc(hS:SlAt qe 16 w A qs)(hn:qs.length=n)(hb:n<=140737488355328)(hq:∀q∈qs,qap q)(hM:MaxLenAt w)(hT:CellsAt w 4 0 qa3):
  Gv Dp 56 [.slice A n c] w λr w'=>(∃i:Int,r=.tuple #[ii i,ii (valE qs)])/\Ext w w':=by
 refine ze Tryz.func56 Tryz.ntmps56 ?_;refine zC (λ_=>zw ?_) (λ_=>zw ?_)
 ·exact⟨⟨0,by rw[q1k Oo];rfl⟩,Ext.refl w⟩
 ·have H:¬1048576<qs.length:=by omega
  refine qn (λi:Nat=>[(0,.slice A n c),(11,.slice A n c),(12,ii n),(13,ii i)]) (λi w1=>i<=n/\(∀j r,j<i->qs[j]?=some r->qbw r=0)/\Ext w w1) (λi=>n-i) 0 fq ⟨An _,λj r h=>absurd h (Cf _),Ext.refl w⟩ ?_;rintro i w1 aj ⟨i1,i2,aa⟩;(conv=>whnf);refine zC (λ_=>zw ?_) (λ_=>zw ?_)
  ·have hi:i<qs.length:=by omega
   have af:qs[i]?=some qs[i]:=zge hi;refine ElemV.sl (hS.ext aa) hn i rfl Oo ?_;intro eb eo ab;(conv=>whnf);refine LoadA.cells ab rfl (zw ?_);refine znm (Mem.nil w1) λnb w2 hm=>zw ?_;refine StoreA.all (vs:=qe qs[i]) hm (i:=0) rfl rfl (qa8 _) ?_;intro w3 hm;have hm:Mem w1 w3 [(nb,.cells (qe qs[i]).toArray 47)]:=hm;(conv=>whnf);refine zl hm 0 ?_;have O:=aa.trans hm.ext;refine zcv (qfm qs[i] (hq _ (AP hi)) w3 (hM.ext O) (hT.ext O)) ?_;rintro r w4 ⟨rfl,W⟩;have W:=O.trans W;(conv=>whnf);refine zC (λ_=>zu ?_) (λ_=>zu ?_)
   ·exact⟨⟨i,by rw[q1l H af i2 rfl Oo]⟩,W⟩
   ·refine⟨i+1,fq,⟨by omega,λj r hj hr=>?_,W⟩,by omega⟩
    by_cases e:j=i
    ·subst e;rw[af]at hr;cases hr;omega
    ·exact i2 j r Oo hr
  ·obtain rfl:i=n:=by omega
   have hz:∀q∈qs,qbw q=0:=λq hq=>by
    obtain⟨j,hj⟩:=AW.1 hq;exact i2 j q (by have:=(Ad.1 hj).1;omega) hj
   refine qn (λk:Nat=>[(0,.slice A i c),(7,ii (k+1:Nat))]) (λk w1=>q10 qs (k+1)/\Ext w w1) (λk=>i-k) 0 fq ⟨λj h=>by omega,aa⟩ ?_;rintro k w2 ak ⟨k1,ac⟩;(conv=>whnf);refine zC (λ_=>zw ?_) (λ_=>zw ?_)
   ·have hk:k+1<qs.length:=by omega
    obtain⟨b,off,rfl,ag⟩:=(hS.ext ac).at_ (by intro e;rw[e]at hk;cases hk);have ad:qs[k]?=some qs[k]:=zge Oo;have ae:qs[k+1]?=some qs[k+1]:=zge hk;have ah:=(ag k _ ad).ext (Ext.refl w2).drew;have ai:=(ag (k+1) _ ae).ext (Ext.refl w2).drew;refine DrawV.free rfl Jk (zw ?_);(iterate 3 (refine zd ?_));refine zf ?_ (by intro wd hd;(conv=>whnf);refine⟨⟨b,off,k,rfl,by omega,by omega,?_⟩⟩;exact xq);apply zsd
    ·intro wd hd;(conv=>whnf);refine LoadA.cells (ah.ext hd) rfl (zw ?_);exact xq
    (conv=>whnf);refine zd ?_;refine zd ?_;refine zf ?_ (by intro wd hd;(conv=>whnf);refine⟨⟨b,off,(k+1),rfl,by omega,by omega,?_⟩⟩;exact xq);apply zsd
    ·intro wd hd;(conv=>whnf);refine LoadA.cells (ai.ext hd) rfl (zw ?_);exact xq
    (conv=>whnf);apply zsd
    ·intro wd hd;(conv=>whnf);refine zcv (qnj qs[k] qs[k+1] wd) ?_;rintro v w7 ⟨rfl,he⟩;exact⟨he,rfl⟩
    (conv=>whnf);refine zd ?_;intro wd hd;have O:=(ac.drew).trans hd;(conv=>whnf);refine zC (λ_=>zu ?_) (λ_=>zu ?_)
    ·refine⟨⟨(k+1:Nat),?_⟩,O⟩;rw[q5f H hz ad ae (λg=>by have:=qpk.2 g;omega)];rfl
    ·refine⟨k+1,⟨rfl,Ae (Value.int .i64) Oo,trivial⟩,⟨λj hj x y hx hy=>?_,O⟩,by omega⟩
     by_cases e:j=k
     ·subst e;rw[ad]at hx;rw[ae]at hy;cases hx;cases hy;exact qpk.1 Oo
     ·exact k1 j Oo x y hx hy
   ·exact⟨⟨0,by rw[qaak H hz (λj hj=>k1 j Oo)];rfl⟩,ac⟩
end
def entA(t:TM):De:=⟨(qae t).toArray⟩
def secA(T:List TM)(k:Nat):List De:=(T.filter λt=>decide (t.kind=((k+1:Nat):Int))).map entA
theorem q4m(T:List TM)(k:Nat):txs (secA T k)=secE T k:=by
 rw[txs,secA,secE,List.map_map];rfl
theorem q4l{t:TM}(h:t.kind=((k+1:Nat):Int)):secA (T++[t]) k=secA T k++[entA t]:=by
 grind [secA]
theorem q0k{t:TM}(h:t.kind≠((k+1:Nat):Int)):secA (T++[t]) k=secA T k:=by
 grind [secA]
theorem qtp(T:List TM)(k:Nat):(secA T k).length<=T.length:=by
 grind [secA]
def vocW(T:List TM):Nat->LB
 | 0=>[]
 | k+1=>vocW T k++varL (qj (secE T k)).length
theorem qaaq(T:List TM):vocB T=((vocW T 3++qj (secE T 0))++qj (secE T 1))++qj (secE T 2):=by
 grind [vocB,jo3,vocW]
theorem V.SlAt.keep{W:Type}{O:W->Dn}{H:Nat}{l:List W}(h:SlAt O H w A l)(hk:∀k∈rowF (.slice A 0 0),w'.heap[k]?=w.heap[k]?):SlAt O H w' A l:=by
 refine⟨λhn=>?_⟩;obtain⟨b,off,rfl,h4⟩:=h.at_ hn;refine⟨b,off,rfl,λj x hx k u hu=>?_⟩;have:=h4 j x hx k u hu;rw[<-this,World.cell?_of_block];exact hk b (Ac.2 rfl)
def vbF(xb tb:Nat)(V:Dk)(B:oA):List Do:=[[xb],[tb],rowF (V 0),rowF (V 1),rowF (V 2),rowF (.slice B 0 0)]
theorem qaal(xb tb:Nat)(V:Dk)(B:oA)(H:k<3)(v:Di):(vbF xb tb V B).set (k+2) (rowF v)=vbF xb tb (updF V k v) B:=by
 rcases(show k=0\/k=1\/k=2 by omega)with rfl|rfl|rfl<;>rfl
theorem qt1(xb tb:Nat)(V:Dk)(B:oA)(H:k<3):(vbF xb tb V B)[k+2]?=some (rowF (V k)):=by
 rcases(show k=0\/k=1\/k=2 by omega)with rfl|rfl|rfl<;>rfl
def strV(L:List De):Dn:=L.map Value.string
def addL(L:Nat->List De)(k:Nat)(s:De):Nat->List De:=λj=>if j=k then L k++[s]else L j
structure VbS(w w':Dd)(B:oA)(T:List TM)(xb tb:Nat)(t:TM)(U V:Dk)(L:Nat->List De):Prop where
 sep:Sep w w' (vbF xb tb V B)
 tm:w'.heap[xb]?=some (.cells (encT t).toArray 45)
 tab:w'.heap[tb]?=some (.cells (fnA 3 U) 291)
 row:∀j,j<3->w'.ownsRow 0 9 1 (V j) (L j).length (strV (L j))
 src:SlAt encT 4 w' B T
section
variable {w w1 w2:Dd} {B:oA} {T:List TM} {xb tb:Nat} {t:TM} {U V:Dk} {L:Nat->List De}
theorem VbS.call(h:VbS w w1 B T xb tb t U V L)(H:Ext w1 w2):VbS w w2 B T xb tb t U V L:=
 ⟨h.sep.call H,H.get h.tm,H.get h.tab,λj O=>qcg (h.row j O) H,h.src.ext H⟩
theorem VbS.app(h:VbS w w1 B T xb tb t U V L)(O:k<3){s:De}(ho:w2.ownsRow 0 9 1 (.slice A ((L k).length+1) c) ((L k).length+1) (strV (L k)++[.string s]))(hc:Chn (rowF (V k)) w1 w2)(hn:∀j∈rowF (.slice A ((L k).length+1) c),(j∈rowF (V k)\/w1.heap.size<=j)/\j<w2.heap.size):VbS w w2 B T xb tb t U (updF V k (.slice A ((L k).length+1) c)) (addL L k s):=by
 have H:=h.sep.row (i:=k+2) (qt1 xb tb V B O) hc hn;refine⟨by rw[<-qaal xb tb V B O];exact H.sep,?_,?_,λj W=>?_,h.src.keep (H.keep 5 _ rfl Oo)⟩
 ·rw[H.keep 0 [xb] rfl Oo xb (Ac.2 rfl)];exact h.tm
 ·rw[H.keep 1 [tb] rfl Oo tb (Ac.2 rfl)];exact h.tab
 ·by_cases e:j=k
  ·subst e;rw[qax,addL,Af rfl,zla,strV,Ba];exact ho
  ·rw[q7 _ _ _ _ e,addL,Ab e];exact qam (h.row j W) λi hi=>H.keep (j+2) _ (qt1 xb tb V B W) Oo i hi
theorem VbS.store(h:VbS w w1 B T xb tb t U V L)(hk:k<3){K:Dl}(h1:qb5 (V k)=true)(hK:∀w2,VbS w w2 B T xb tb t (updF U k (V k)) V L->K w2):StoreV w1 tb k (V k) K:=by
 refine StoreV.own h.tab (by rw[qba];exact hk) h1 λw2 hw=>hK w2 ?_;obtain⟨hc,W⟩:=Chn.set h.tab hw;have O:=h.sep.row (i:=1) (F':=[tb]) rfl hc λj H=>⟨.inl H,by rw[Ac.1 H];exact qb1 W⟩
 refine⟨O.sep,?_,by rw[W,qdy],λj H=>qam (h.row j H) λi hi=>O.keep (j+2) _ (qt1 xb tb V B H) Oo i hi,h.src.keep (O.keep 5 _ rfl Oo)⟩;rw[O.keep 0 [xb] rfl Od xb (Ac.2 rfl)];exact h.tm
end
def VbI(w w1:Dd)(B:oA)(T:List TM)(xb tb:Nat)(t:TM)(V:Dk)(L:Nat->List De)(k:Nat)(s:De)(s7 s9 s10 s12:Bool)(v9 v10:Di)(w':Dd):Prop:=
 (s10=false/\s12=false/\Ext w1 w'/\VbS w w' B T xb tb t V V L/\(s9=true->∃H,v9=.slice (some ⟨H,0,none⟩) 1 1/\w'.heap[H]?=some (.cells #[.string s] 9)))\/
 (s9=true/\s10=true/\s12=false/\∃A c,v10=.slice A ((L k).length+1) c/\VbS w w' B T xb tb t V (updF V k (.slice A ((L k).length+1) c)) (addL L k s))\/
 (s7=true/\s9=true/\s10=true/\s12=true/\∃A c,VbS w w' B T xb tb t (updF V k (.slice A ((L k).length+1) c)) (updF V k (.slice A ((L k).length+1) c)) (addL L k s))
section
variable {w w1 w':Dd} {B:oA} {T:List TM} {xb tb:Nat} {t:TM} {V:Dk} {L:Nat->List De} {k:Nat} {s:De} {s7 s9 s10 s12:Bool} {v9 v10:Di}
theorem VbI.tm(h:VbI w w1 B T xb tb t V L k s s7 s9 s10 s12 v9 v10 w'):w'.heap[xb]?=some (.cells (encT t).toArray 45):=by
 rcases h with⟨_,_,_,h,_⟩|⟨_,_,_,_,_,_,h⟩|⟨_,_,_,_,_,_,h⟩
 all_goals exact h.tm
theorem VbI.tab(h:VbI w w1 B T xb tb t V L k s false s9 s10 s12 v9 v10 w'):w'.heap[tb]?=some (.cells (fnA 3 V) 291):=by
 rcases h with⟨_,_,_,h,_⟩|⟨_,_,_,_,_,_,h⟩|⟨h,_⟩
 ·exact h.tab
 ·exact h.tab
 ·cases h
theorem VbI.seven(h:VbI w w1 B T xb tb t V L k s false s9 s10 s12 v9 v10 w'):VbI w w1 B T xb tb t V L k s true s9 s10 s12 v9 v10 w':=by
 rcases h with h|h|⟨h,_⟩
 ·exact .inl h
 ·exact .inr (.inl h)
 ·cases h
theorem VbI.nine(h:VbI w w1 B T xb tb t V L k s s7 false s10 s12 v9 v10 w'){w2:Dd}(W:b=w'.heap.size)(H:w2=w'.alloc (.cells #[.string s] 9)):VbI w w1 B T xb tb t V L k s s7 true s10 s12 (.slice (some ⟨b,0,none⟩) 1 1) v10 w2:=by
 rcases h with⟨h1,h2,h3,h4,_⟩|⟨h,_⟩|⟨_,h,_⟩
 ·have O:Ext w' w2:=by rw[H];exact(Ext.refl w').alloc _
  exact .inl ⟨h1,h2,h3.trans O,h4.call O,λ_=>⟨b,rfl,by rw[H,W];exact heap_alloc_new w' _⟩⟩
 ·cases h
 ·cases h
theorem VbI.ten(h:VbI w w1 B T xb tb t V L k s s7 true false s12 v9 v10 w'):s12=false/\VbS w w' B T xb tb t V V L/\∃H,v9=.slice (some ⟨H,0,none⟩) 1 1/\w'.heap[H]?=some (.cells #[.string s] 9):=by
 rcases h with⟨_,O,_,W,h5⟩|⟨_,h,_⟩|⟨_,_,h,_⟩
 ·exact⟨O,W,h5 rfl⟩
 ·cases h
 ·cases h
theorem VbI.twelve(h:VbI w w1 B T xb tb t V L k s s7 s9 true false v9 v10 w'):s9=true/\∃A c,v10=.slice A ((L k).length+1) c/\VbS w w' B T xb tb t V (updF V k (.slice A ((L k).length+1) c)) (addL L k s):=by
 rcases h with⟨h,_⟩|⟨H,_,_,O⟩|⟨_,_,_,h,_⟩
 ·cases h
 ·exact⟨H,O⟩
 ·cases h
theorem VbI.end_(h:VbI w w1 B T xb tb t V L k s s7 s9 s10 true v9 v10 w'):∃A c,VbS w w' B T xb tb t (updF V k (.slice A ((L k).length+1) c)) (updF V k (.slice A ((L k).length+1) c)) (addL L k s):=by
 rcases h with⟨_,h,_⟩|⟨_,_,h,_⟩|⟨_,_,_,_,h⟩
 ·cases h
 ·cases h
 ·exact h
end
def VBuR(qs:List Q4)(w w':Dd)(r:Di):Prop:=
 (∃e:Nat,e≠0/\e=(if valE qs≠0 then valE qs else if qc5 (tmsQ qs)≠0 then qc5 (tmsQ qs)else if 67108864<(vocB (tmsQ qs)).length then 1 else 0)/\r=.tuple #[.slice none 0 0,ii e]/\Ext w w')\/
 (valE qs=0/\qc5 (tmsQ qs)=0/\(vocB (tmsQ qs)).length<=67108864/\∃v,r=.tuple #[v,ii 0]/\NewS 5 w w' v (vocB (tmsQ qs)))
def vdF(F:Do)(H:Nat)(U:Dk)(i:Nat):List Do:=F::[H]::(List.range i).map λj=>rowF (U j)
theorem qaam{H:Nat}{U:Dk}{v:Di}(h:Sep w0 w (vdF F H U i))(O:Ext w w')(W:∀k∈rowF v,w.heap.size<=k/\k<w'.heap.size):Sep w0 w' (vdF F H (updF U i v) (i+1)):=by
 have h1:=(h.add O W).perm (BF (rowF v) (vdF F H U i)).symm;have e:vdF F H U i++[rowF v]=vdF F H (updF U i v) (i+1):=by
  simp only[vdF,Cg,Ba,AF,Cp,BG,qax]
  congr 3
  exact Cl λj hj=>by rw[q7 _ _ _ _ (by have:=B7.1 hj;omega)]
 rw[<-e];exact h1
theorem qpd(F:Do)(H:Nat)(U:Dk)(h:j<i):(vdF F H U i)[j+2]?=some (rowF (U j)):=by
 show((List.range i).map λj=>rowF (U j))[j]?=_;rw[Ar,B6 h];rfl
structure VdS(T:List TM)(w w':Dd)(b ab i:Nat)(U:Dk):Prop where
 h:∃F,Sep w w' (vdF F ab U i)/\BufAt w' b 67108864 (vocW T i) F/\w'.heap[ab]?=some (.cells (fnA 3 U) 226)/\∀j,j<i->BS w' (U j) (qj (secE T j))
def vocX(T:List TM):Nat->LB
 | 0=>vocW T 3
 | k+1=>vocX T k++qj (secE T k)
theorem q5o(T:List TM):vocX T 3=vocB T:=(qaaq T).symm
theorem qmx(h:valE qs=0):(tmsQ qs).length<=4194304:=by
 have H:=qq7 qs;have O:=qq5 (trms qs).length (trms qs);have W:=(qed h).1;have h4:(tmsQ qs).length=(tmsN (trms qs).length (trms qs)).length:=rfl;omega
theorem qvb{q:Q4}(h:qap q){t:TM}(H:t∈trQ q):TermOk t:=by
 unfold trQ at H
 rcases AJ.1 H with H|H
 ·simp only[Aw,BH,or_false]at H
  rcases H with rfl|rfl|rfl
  ·exact h 0
  ·exact h 1
  ·exact h 2
 ·split at H
  ·cases H
  ·simp only[Aw,BH,or_false]at H;subst H;exact h 3
theorem CellsAt.heap(h:w.heap[b]?=some (.cells vs.toArray e)):CellsAt w b 0 vs:=by
 intro k v H;rw[qa h,Aq,Az];exact H
theorem qia{L:List LB}(h:dicE L=0):(qj L).length<=70000000:=qnm (qfo h).n (qfo h).area
theorem qm4{T:List TM}:∀{i:Nat},i<=3->(∀j,j<i->dicE (secE T j)=0)->(vocW T i).length<=10*i
 | 0,_,_=>Ao _
 | i+1,h,hd=>by
  have H:=qm4 (T:=T) (i:=i) Oo λj O=>hd j Oo
  have W:=qia (hd i Oo);have h3:=qbd 9 (qj (secE T i)).length Oo;rw[vocW,zla];omega
theorem q1q{T:List TM}:∀{i:Nat},i<=3->(∀j,j<3->dicE (secE T j)=0)->(vocX T i).length<=30+70000000*i
 | 0,_,hd=>by have:=qm4 (T:=T) (i:=3) Oo hd;rw[vocX];omega
 | i+1,h,hd=>by
  have H:=q1q (T:=T) (i:=i) Oo hd;have O:=qia (hd i Oo);rw[vocX,zla];omega
theorem qv9(qs:List Q4)(A:oA)(n c:Nat)(w:Dd)(hS:SlAt qe 16 w A qs)(hn:qs.length=n)(hb:n<=140737488355328)(hq:∀q∈qs,qap q)(hM:MaxLenAt w)(hT:CellsAt w 4 0 qa3):
  Gv Dp 112 [.slice A n c,ii 67108864] w λr w'=>VBuR qs w w' r:=by
 refine ze Tryz.func112 Tryz.ntmps112 ?_;refine zcv (qpc qs A n c w hS hn hb hq hM hT) ?_;rintro r w1 ⟨⟨i0,rfl⟩,a1⟩
 by_cases hE:valE qs=0
 ·have cc:=(qed hE).1;have bn:=qmx hE;have bo:=λt (ht:t∈tmsQ qs)=>qda hE ht
  have bp:∀t∈tmsQ qs,TermOk t:=λt ht=>by
   obtain⟨q,h1,h2⟩:=qdh.1 ht;exact qvb (hq q h1) h2
  unfold VBuR;rw[Ab (λg=>g hE)];rw[hE];refine zu ?_;refine⟨λtb w2 a2 a3=>?_⟩;have h0:Sep w w1 [rowF (.slice none 0 0),rowF (.slice none 0 0),rowF (.slice none 0 0)]:=(((Sep.of a1).add (F:=rowF (.slice none 0 0)) (Ext.refl w1) (λk W=>by cases W)).add (F:=rowF (.slice none 0 0)) (Ext.refl w1) (λk W=>by cases W)).add (F:=rowF (.slice none 0 0)) (Ext.refl w1) (λk W=>by cases W);obtain⟨h0,aa⟩:=h0.new a2 a3;have bq:Ext w w2:=h0.ext;clear a2 a3;(conv=>whnf);refine zcv (q07 qs A n c w2 (hS.ext bq) hn Oo) ?_;rintro r w3 ⟨B,rfl,ah,a4,a5⟩;have h0:Sep w w3 [[tb],rowF (.slice none 0 0),rowF (.slice none 0 0),rowF (.slice none 0 0),rowF (.slice B 0 0)]:=(h0.add a5 a4).perm (BF (rowF (.slice B 0 0)) _).symm;have aa:=a5.get aa;generalize tmsQ qs=T at *;refine qn (λi:Nat=>[(1,ii 67108864),(8,pp tb),(29,.slice B T.length T.length),(30,ii T.length),(31,ii i)])
   (λi w'=>i<=T.length/\∃V L,Sep w w' [[tb],rowF (V 0),rowF (V 1),rowF (V 2),rowF (.slice B 0 0)]/\w'.heap[tb]?=some (.cells (fnA 3 V) 291)/\(∀j,j<3->w'.ownsRow 0 9 1 (V j) (L j).length (strV (L j)))/\(∀j,j<3->L j=secA (T.take i) j)/\SlAt encT 4 w' B T) (λi=>T.length-i) 0
   fq ⟨An _,λ_=>.slice none 0 0,λ_=>[],h0,aa,λj _=>World.ownsRow_nil _ _ _ _,λj _=>rfl,ah⟩ ?_
  clear h0 aa ah a4;rintro i w4 cd ⟨i1,V,L,ak,aa,ae,hL,ah⟩;(conv=>whnf);refine zC (λ_=>zw ?_) (λ_=>zw ?_)
  ·have hi:i<T.length:=by omega
   obtain⟨t,et⟩:∃t,t=T[i]:=⟨_,rfl⟩
   have a6:t∈T:=by rw[et];exact AP hi
   obtain⟨tE,k1,k3⟩:=bo t a6;obtain⟨k,W⟩:∃k:Nat,t.kind=((k+1:Nat):Int):=⟨(t.kind-1).toNat,by omega⟩
   have ai:k<3:=by omega
   refine ElemV.sl ah rfl i rfl Oo ?_;intro eb eo al;rw[<-et]at al;refine LoadA.cells al rfl (zw ?_);refine⟨λxb w5 a7 aw=>?_⟩;have am:Ext w4 w5:=by rw[aw];exact(Ext.refl w4).alloc _
   obtain⟨ak,a8⟩:=ak.new a7 aw;have aa:=am.get aa;have ae:=λj hj=>qcg (ae j hj) am
   have ah:=ah.ext am;clear a7 aw;refine StoreA.blk a8 (by show 0+4<=4;decide) (qab t) ?_;intro w6 a9 ax;have an:=ak.row (i:=0) (F':=[xb]) rfl a9 λj hj=>⟨.inl hj,by rw[Ac.1 hj];exact qb1 ax⟩
   have H:VbS w w6 B T xb tb t V V L:=⟨an.sep,ax,by rw[an.keep 1 [tb] rfl Od tb (Ac.2 rfl)];exact aa,λj hj=>qam (ae j hj) λm hm=>an.keep (j+2) _ (qt1 xb tb V B hj) Oo m hm,ah.keep (an.keep 5 _ rfl Oo)⟩
   clear an ak a9 ax a8 aa ae ah;refine LoadA.cells (vs:=encT t) (CellsAt.heap H.tm) rfl (zw ?_);refine zcv (qer t (bp t a6) w6 (hM.ext H.sep.ext) (hT.ext H.sep.ext)) ?_;rintro r w7 ⟨rfl,ao⟩;rw[Af tE];have H:=H.call ao;obtain⟨Ak,ck,eV⟩:=qbn (H.row k ai);refine DrawV.gen (λS O w'=>VbI w w7.drew B T xb tb t V L k (entA t) (S 7) (S 9) (S 10) (S 12) (O 9) (O 10) w') rfl Jk (λO=>.inl ⟨rfl,rfl,xr,H.call (Ext.refl w7).drew,λh=>(by cases h)⟩) ?_;clear H;(conv=>whnf);refine zg ?_;refine StepG.of (ii t.kind) (λS O wd W hp hI=>zw ?_) (zw ?_)
   ·refine LoadV.own hI.tm rfl (zw ?_);exact⟨rfl,hI⟩
   refine zg ?_;refine zg ?_;refine StepG.of (ii t.kind) (λS O wd W hp hI=>zw ?_) (zw ?_)
   ·refine LoadV.own hI.tm rfl (zw ?_);exact⟨rfl,hI⟩
   refine zg ?_;refine StepG.of (.pointer (some ⟨tb,k,none⟩)) (λS O wd W hp hI=>zw ?_) ?_
   ·refine⟨k,by omega,ai,?_⟩;(conv=>whnf);exact⟨by simp[show tsz Dp 159=1 from by kernel_rfl];rfl,hI⟩
   refine StepG.of (.slice Ak (L k).length ck) (λS O wd W hp hI=>?_) (zw ?_)
   ·dsimp only at hI;rw[W]at hI;refine LoadV.own hI.tab (by rw[qa9 3 V k ai,eV]) (zw ?_);exact⟨rfl,hI.seven⟩
   refine zg ?_;refine StepG.any (λS O wd W hp hI=>?_) ?_
   ·dsimp only at hI;rw[W]at hI;(conv=>whnf);refine⟨λb w' hb hw=>?_⟩;(conv=>whnf);exact⟨trivial,hI.nine hb hw⟩
   refine StepG.any (λS O wd W hp hI=>?_) ?_
   ·dsimp only at hI;have h9:S 9=true:=hp 9 Od;rw[W,h9]at hI;obtain⟨br,H,nb,hv,bt⟩:=hI.ten;have hr:=H.row k ai;rw[eV]at hr;have ce:(L k).length<=4194304:=by rw[hL k ai];exact A6 (qtp _ _) (by rw[A4];omega)
    rw[qbj hv];refine AppV.cell qadi strI strZ Jk rfl (by decide +kernel) hr bt rfl Oo ?_;intro A' c' w8 ho ba av;rw[<-eV]at ba av;exact⟨trivial,.inr (.inl ⟨h9,rfl,br,A',c',rfl,H.app ai ho ba av⟩)⟩
   refine StepG.of (.pointer (some ⟨tb,k,none⟩)) (λS O wd W hp hI=>zw ?_) ?_
   ·refine⟨k,by omega,ai,?_⟩;(conv=>whnf);exact⟨by simp[show tsz Dp 159=1 from by kernel_rfl];rfl,hI⟩
   refine StepG.any (λS O wd W hp hI=>?_) ?_
   ·dsimp only at hI;have bb:S 10=true:=hp 10 Od;have h7:S 7=true:=hp 7 Od;rw[W,bb]at hI;obtain⟨h9,A',c',hv,H⟩:=hI.twelve;rw[qbj hv];have e1:updF V k (.slice A' ((L k).length+1) c') k=.slice A' ((L k).length+1) c':=qax _ _ _;have bc:=λ(K:Dl) h1 hK=>H.store (K:=K) ai h1 hK
    rw[e1]at bc;refine bc _ rfl ?_;intro w8 H;exact⟨trivial,.inr (.inr ⟨h7,h9,bb,rfl,A',c',H⟩)⟩
   intro O w8 hI;obtain⟨A',c',H⟩:=hI.end_;clear hI;refine zu ?_;have bd:T.take (i+1)=T.take i++[t]:=by rw[Bu,zge hi,<-et];rfl
   refine⟨i+1,fq,⟨by omega,_,_,H.sep.drop 1,H.tab,H.row,λj hj=>?_,H.src⟩,by omega⟩
   by_cases e:j=k
   ·subst e;rw[addL,Af rfl,hL j hj,bd,q4l W]
   ·rw[addL,Ab e,hL j hj,bd,q0k Oo]
  ·obtain rfl:i=T.length:=by omega
   rw[BB]at hL;have ay:=ak.ext;refine zcv (qef 67108864 w4) ?_;rintro r w5 ⟨b,rfl,am,bu,hB⟩;have hB:BufAt w5 b 67108864 (vocW T 0) [b]:=hB;(conv=>whnf);refine⟨λab w6 be az=>?_⟩;have bv:Ext w5 w6:=by rw[az];exact(Ext.refl w5).alloc _
   have au:Sep w4 w5 [[b]]:=(Sep.of (Ext.refl w4)).add am λk W=>by rw[Ac.1 W];exact⟨bu,hB.lt b (Ac.2 rfl)⟩
   obtain⟨au,ad⟩:=au.new be az;have hB:=hB.call bv;have ac:Sep w4 w6 (vdF [b] ab (λ_=>.slice none 0 0) 0):=au.perm (List.Perm.swap _ _ _);have ad:w6.heap[ab]?=some (.cells (fnA 3 λ_=>.slice none 0 0) 226):=ad;clear au be az;refine qn (λi:Nat=>[(8,pp tb),(13,pp b),(14,pp ab),(55,ii i)])
    (λi w'=>i<=3/\(∀j,j<i->dicE (secE T j)=0)/\∃U,VdS T w4 w' b ab i U) (λi=>3-i) 0 fq ⟨by omega,λj h=>by omega,_,⟨⟨[b],ac,hB,ad,λj h=>by omega⟩⟩⟩ ?_
   clear ac hB ad;rintro i w7 cf ⟨j1,hD,U,⟨F,ac,hB,ad,af⟩⟩;have ao:=ac.ext;(conv=>whnf);refine zC (λ_=>zu ?_) (λ_=>zu ?_)
   ·have ag:i<3:=by omega
    obtain⟨Ai,ci,eV⟩:=qbn (ae i ag);have bf:=ae i ag;rw[eV]at bf;have bw:SlAt zeS 1 w7 Ai (L i):=SlAt.ext (qzq bf rfl) ao;have cg:(L i).length<=4194304:=by rw[hL i ag];exact A6 (qtp _ _) bn
    refine LoadV.own (ao.get aa) (v:=.slice Ai (L i).length ci) (by
     rw[show(0+i*tsz Dp 159)=i by rw[show tsz Dp 159=1 from by kernel_rfl];omega];rw[qa9 3 V i ag,eV]) ?_
    (conv=>whnf);refine zcv (qug (L i) Ai (L i).length ci w7 bw rfl Oo) ?_;rintro r w8 hR;rw[hL i ag,q4m]at hR
    rcases hR with⟨h0,rfl,bz⟩|⟨h0,v,rfl,hN⟩
    ·have aq:=q5n ag hD h0;refine zu ?_;exact .inl ⟨_,h0,by rw[Af (by rw[aq];exact h0),aq],rfl,(ay.trans ao).trans bz⟩
    ·obtain⟨Av,cv,ev,cj,_⟩:=hN.bs;have cb:=qia h0;subst ev;refine zu ?_;have hB:=hB.call hN.ext;have ac:=qaam ac hN.ext hN.lo;have ad:=hN.ext.get ad;refine StoreV.own ad (by rw[qba,show tsz Dp 32=1 from by kernel_rfl];omega) rfl ?_;intro w9 bg;obtain⟨bh,a0⟩:=Chn.set ad bg;have aj:=ac.row (i:=1) (F':=[ab]) rfl bh λj hj=>⟨.inl hj,by rw[Ac.1 hj];exact qb1 a0⟩
     have hB:=hB.keep (aj.keep 0 F rfl Od);have bi:∀j,j<i+1->BS w9 (updF U i (.slice Av (qj (secE T i)).length cv) j) (qj (secE T j)):=λj hj=>by
      by_cases e:j=i
      ·subst e;rw[qax];refine BS.keep hN.bs λk W=>?_;have:=aj.keep (j+2) _ (qpd F ab (updF U j (.slice Av (qj (secE T j)).length cv)) (Ca j)) Oo k;rw[qax]at this;exact this W
      ·rw[q7 _ _ _ _ e];refine BS.keep (BS.ext (af j Oo) hN.ext) λk W=>?_;have:=aj.keep (j+2) _ (qpd F ab (updF U i (.slice Av (qj (secE T i)).length cv)) hj) Oo k;rw[q7 _ _ _ _ e]at this;exact this W
     rw[qdy,show(0+i*tsz Dp 32)=i by rw[show tsz Dp 32=1 from by kernel_rfl];omega]at a0;clear bg bh;refine zu ?_;have cl:=qbd 9 (qj (secE T i)).length Oo;have b0:=qm4 (T:=T) (i:=i) Oo hD;refine zcv (qbr b 67108864 _ (qj (secE T i)).length F w9 hB Oo Od Oo) ?_;rintro r b1 ⟨rfl,hC⟩;obtain⟨b2,ar,hB⟩:=aj.sep.buf (i:=0) rfl hC;have bj:b1.heap[ab]?=some (.cells (fnA 3 (updF U i (.slice Av (qj (secE T i)).length cv))) 226):=by rw[ar.keep 1 [ab] rfl Od ab (Ac.2 rfl)];exact a0
     refine zu ?_;refine⟨i+1,fq,⟨by omega,λj hj=>?_,_,⟨⟨b2,ar.sep,hB,bj,λj hj=>BS.keep (bi j hj) λk W=>ar.keep (j+2) _ (qpd F ab _ hj) Oo k W⟩⟩⟩,by omega⟩
     by_cases e:j=i
     ·subst e;exact h0
     ·exact hD j Oo
   ·obtain rfl:i=3:=by omega
    have aq:qc5 T=0:=qt3 λk W=>hD k W
    rw[Ab (λg=>g aq)];have b3:=λk (W:k<3)=>qia (hD k W)
    have b0:=qm4 (T:=T) (i:=3) Oo hD;obtain⟨A0,c0,e0,cm,b4⟩:=af 0 Od;obtain⟨A1,c1,e1,cn,b5⟩:=af 1 Od;obtain⟨A2,c2,e2,co,b6⟩:=af 2 Od;have bk:CellsAt w7 ab 0 [.slice A0 (qj (secE T 0)).length c0,.slice A1 (qj (secE T 1)).length c1,.slice A2 (qj (secE T 2)).length c2]:=by
     intro k v hv;rw[qa ad,Aq]
     match k,hv with
     | 0,hv=>cases hv;rw[qa9 3 U 0 Od,e0]
     | 1,hv=>cases hv;rw[qa9 3 U 1 Od,e1]
     | 2,hv=>cases hv;rw[qa9 3 U 2 Od,e2]
     | k+3,hv=>cases hv
    refine LoadA.cells bk rfl ?_;have cp:∀j,j<3->(vdF F ab U 3)[j+2]?=some (rowF (U j)):=λj hj=>qpd F ab U hj
    refine qn (λi:Nat=>[(13,pp b),(77,.agg #[.slice A0 (qj (secE T 0)).length c0,.slice A1 (qj (secE T 1)).length c1,.slice A2 (qj (secE T 2)).length c2]),(78,ii i)])
     (λi w'=>i<=3/\∃F',Sep w4 w' (vdF F' ab U 3)/\BufAt w' b 67108864 (vocX T i) F'/\∀j,j<3->BS w' (U j) (qj (secE T j))) (λi=>3-i) 0 fq ⟨by omega,F,ac,hB,af⟩ ?_
    clear bk b4 b5 b6 ad hB ac af;rintro i w8 cq ⟨k1,F8,ac,hB,af⟩;have b7:=q1q (T:=T) (i:=i) Oo hD;(conv=>whnf);refine zC (λ_=>zu ?_) (λ_=>zu ?_)
    ·have ag:i<3:=by omega
     obtain⟨Ai,ci,ei,cr,b8⟩:=af i ag;have bl:[Value.slice A0 (qj (secE T 0)).length c0,.slice A1 (qj (secE T 1)).length c1,.slice A2 (qj (secE T 2)).length c2][i]?=some (.slice Ai (qj (secE T i)).length ci):=by
      rw[<-ei]
      rcases(show i=0\/i=1\/i=2 by omega)with rfl|rfl|rfl
      ·rw[e0];rfl
      ·rw[e1];rfl
      ·rw[e2];rfl
     have ct:=b3 i ag;refine⟨.slice Ai (qj (secE T i)).length ci,by rw[show i*tsz Dp 32=i by rw[show tsz Dp 32=1 from by kernel_rfl];omega];exact bl,?_⟩;(conv=>whnf);refine zcv (qcr b 67108864 _ (qj (secE T i)) F8 Ai (qj (secE T i)).length ci w8 hB b8 rfl Od Oo) ?_;rintro r w9 ⟨rfl,hC⟩;obtain⟨F9,aj,hB⟩:=ac.buf (i:=0) rfl hC;refine zu ?_;exact⟨i+1,fq,⟨by omega,F9,aj.sep,hB,λj hj=>BS.keep (af j hj) λk W=>aj.keep (j+2) _ (qpd F8 ab U hj) Oo k W⟩,by omega⟩
    ·obtain rfl:i=3:=by omega
     rw[q5o]at hB b7;refine zcv (qcj b 67108864 _ F8 w8 hB Oo) ?_;rintro r w9 (⟨bm,rfl,rfl⟩|⟨b9,v,rfl,hN⟩)
     ·(conv=>whnf);exact .inl ⟨1,by decide,by rw[Af bm],rfl,ay.trans ac.ext⟩
     ·obtain⟨A9,c9,ca,_⟩:=id hN.h;subst ca;(conv=>whnf);exact .inr ⟨rfl,aq,b9,_,rfl,hN.back (ay.trans ac.ext)⟩
 ·have h0:¬((valE qs:Nat):Int)=0:=by omega
  refine zu ?_;exact .inl ⟨valE qs,hE,by rw[Af hE],rfl,a1⟩
def ovr(x:LB)(p:Nat)(y:LB):LB:=x.take p++(y++x.drop (p+y.length))
theorem qdi{x y:LB}{p:Nat}(h:p+y.length<=x.length):(ovr x p y).length=x.length:=by
 grind [ovr]
theorem qkq{x y:LB}{p:Nat}(h:p<=x.length)(H:j<y.length):(ovr x p y)[p+j]?=y[j]?:=by
 grind [ovr]
theorem qg8{x y:LB}{p:Nat}(h:p+y.length<=x.length)(H:j<p\/p+y.length<=j):(ovr x p y)[j]?=x[j]?:=by
 have e:(x.take p).length=p:=by grind
 rcases H with H|H
 ·grind [ovr]
 ·rw[ovr,Be Oo,e,Be Oo,Cc]
  grind
theorem qqc(x:LB)(p:Nat):ovr x p []=x:=by grind [ovr,List.take_append_drop]
theorem q8w{x y:LB}{p:Nat}(h:p+y.length<=x.length)(H:i<y.length):(ovr x p (y.take i)).set (p+i) (y.getD i 0)=ovr x p (y.take (i+1)):=by
 have O:(y.take i).length=i:=by grind
 have W:(y.take (i+1)).length=i+1:=by grind
 refine Bk λj=>?_;rw[BP]
 split
 ·grind [qdi,qkq]
 ·rename_i e
  rcases AM j p with g|g
  ·grind [qg8]
  ·obtain⟨k,rfl⟩:∃k,j=p+k:=⟨j-p,by omega⟩
   rcases Nat.lt_or_ge k i with z|z
   ·rw[qkq (by omega) (by omega),qkq (by omega) (by omega),List.getElem?_take_of_lt z,List.getElem?_take_of_lt (by omega)]
   ·rw[qg8 (by omega) (.inr (by omega)),qg8 (by omega) (.inr (by omega))]
theorem q7a(l:LB)(j:Nat)(b:Dh):(byV l).set j (.int .u8 b.toNat)=byV (l.set j b):=by
 rw[byV,byV,List.map_set]
section
variable {d:LB} {n:Nat} (hn:n<=67108864) (hd:d.length=upN n 8) (hp:¬PadB d n)
include hn hd hp
theorem qpe{x:Nat×Nat×Nat}(H:x∈dirD d (upN n 8)):qi n<=plD n x/\plD n x+szD x<=qa7 n (cnt d n)/\((qac d n).drop (plD n x)).take (szD x)=fixL x.2.2 (szD x)/\x.2.2<256 ^ szD x:=by
 grind [q7p,qjx,qgh,qci,qes]
omit hp in
theorem qrg(H:qi n<=i)(O:i<qa7 n (cnt d n)):∃x∈dirD d (upN n 8),plD n x<=i/\i<plD n x+szD x:=by
 have h:=qxe (l:=qac d n) (qjx hn hd) (by grind [qgh,qci,qes]) (i:=i) (by grind [qci]) (by grind [qci,qes])
 grind [qgh,qci]
omit hn hp in
theorem qct:(qac d n).length=qa7 n (cnt d n):=by
 grind [qee,qa7,qak,q6,qi]
end
structure Par(d:LB)(n:Nat)(L:List (Nat×Nat×Nat))(x:LB):Prop where
 len:x.length=(qac d n).length
 eq:∀j,j<x.length->(j<qi n\/∃y∈L,plD n y<=j/\j<plD n y+szD y)->x[j]?=(qac d n)[j]?
section
variable {d:LB} {n:Nat} (hn:n<=67108864) (hd:d.length=upN n 8) (hp:¬PadB d n)
include hn hd
theorem Par.put{L:List (Nat×Nat×Nat)}{x:LB}(h:Par d n L x){y:Nat×Nat×Nat}(hp:¬PadB d n)(W:y∈dirD d (upN n 8)):Par d n (L++[y]) (ovr x (plD n y) (fixL y.2.2 (szD y))):=by
 obtain⟨h1,h2,h3,h4⟩:=qpe hn hd hp W;have hl:=h.len;rw[qct hd]at hl;have hf:(fixL y.2.2 (szD y)).length=szD y:=qh _ _;have H:plD n y+(fixL y.2.2 (szD y)).length<=x.length:=by omega
 refine⟨by rw[qdi H];exact h.len,λj O ho=>?_⟩;rw[qdi H]at O
 by_cases g:plD n y<=j/\j<plD n y+szD y
 ·obtain⟨k,rfl⟩:∃k,j=plD n y+k:=⟨j-plD n y,by omega⟩
  rw[qkq Oo Oo,<-h3,List.getElem?_take_of_lt Oo,Cc]
 ·rw[qg8 H Oo];refine h.eq j O (ho.imp id ?_)
  grind
theorem Par.all{x:LB}(h:Par d n (dirD d (upN n 8)) x):x=qac d n:=by
 refine Bk λj=>?_
 rcases AM j x.length with g|g
 ·refine h.eq j g ?_;have H:=h.len
  grind [qct,qrg]
 ·rw[AS g,AS (by rw[<-h.len];exact g)]
omit hn in
theorem Par.start{z:LB}(O:z.length=(qac d n).length):Par d n [] (ovr (ovr (ovr z 0 (fixL n 4)) 4 (fixL (cnt d n) 4)) 8 d):=by
 have hw:=qct hd (n:=n);have W:qa7 n (cnt d n)=qi n+4*upN n 2048+2*upN n 256+4*upN (cnt d n) 512:=rfl;have hg:qi n=8+upN n 8:=rfl;have f1:(fixL n 4).length=4:=qh _ _;have f2:(fixL (cnt d n) 4).length=4:=qh _ _;have l1:(ovr z 0 (fixL n 4)).length=z.length:=qdi Oo;have l2:(ovr (ovr z 0 (fixL n 4)) 4 (fixL (cnt d n) 4)).length=z.length:=by grind [qdi]
 have l3:(ovr (ovr (ovr z 0 (fixL n 4)) 4 (fixL (cnt d n) 4)) 8 d).length=z.length:=by grind [qdi]
 have hW:qac d n=fixL n 4++(fixL (cnt d n) 4++(d++(gL d n++(sL d n++mL d n)))):=by grind [qac]
 refine⟨by rw[l3,O],λj hj H=>?_⟩
 rcases H with H|⟨y,hy,_⟩
 ·rw[hW]
  rcases AM j 4 with g|g
  ·rw[qg8 Oo (.inl Oo),qg8 Oo (.inl Oo),Bb Oo];have:=qkq (x:=z) (y:=fixL n 4) (p:=0) (j:=j) (An _) Oo
   simp_all
  rw[Be Oo,f1]
  rcases AM j 8 with g2|g2
  ·rw[qg8 Oo (.inl Oo),Bb Oo];obtain⟨k,rfl⟩:∃k,j=4+k:=⟨j-4,by omega⟩
   rw[qkq Oo Oo,BL]
  ·rw[Be Oo,f2];obtain⟨k,rfl⟩:∃k,j=8+k:=⟨j-8,by omega⟩
   rw[qkq Oo Oo,show 8+k-4-4=k by omega,Bb Oo]
 ·cases hy
end
theorem addM(b o n:Nat):Option.map (λx:Addr=>x.add n) (some ⟨b,o,none⟩)=some ⟨b,o+n,none⟩:=by rw[AU,q8]
theorem qns(v:Nat):∀{m i:Nat},i<=m->(fixL v m).take i=fixL v i
 | 0,i,h=>by
  obtain rfl:i=0:=by omega
  rfl
 | m+1,i,h=>by
  rcases AM i (m+1)with g|g
  ·rw[fixL,Bx (by rw[qh];omega),qns v Oo]
  ·obtain rfl:i=m+1:=by omega
   exact Ay (by rw[qh];exact Ao _)
theorem qxv(v:Nat)(h:i<m):(fixL v m).getD i 0=UInt8.ofNat (v/2 ^ (8*i)%256):=by
 have O:=qns v (m:=m) (i:=i+1) h;have H:(fixL v (i+1))[i]?=some (UInt8.ofNat (v/2 ^ (8*i)%256)):=by
  rw[fixL,Be (by rw[qh];exact Ao _),qh,Cw];rfl
 rw[<-O,List.getElem?_take_of_lt (Ca i)]at H;rw[Ag,H];rfl
theorem qf5(x:LB)(b p W aa v m:Nat)(w:Dd)(hb:w.heap[b]?=some (.cells (byV x).toArray 5))(ad:p+m<=x.length)(ae:m<=W)(_:v<4611686018427387904)(hm:m<=4):
  Gv Dp 267 [.slice (some ⟨b,p,none⟩) W aa,ii v,ii m] w λr w'=>r=.tuple #[]/\Chn [b] w w'/\w'.heap[b]?=some (.cells (byV (ovr x p (fixL v m))).toArray 5):=by
 refine ze Tryz.func267 Tryz.ntmps267 ?_;refine qn (λi:Nat=>[(0,.slice (some ⟨b,p,none⟩) W aa),(1,ii v),(7,ii m),(8,ii i)])
  (λi w'=>i<=m/\Chn [b] w w'/\w'.heap[b]?=some (.cells (byV (ovr x p ((fixL v m).take i))).toArray 5)) (λi=>m-i) 0 fq ⟨An _,Chn.refl _ _,by rw[CD,qqc];exact hb⟩ ?_
 rintro i w1 af ⟨i1,hc,H⟩;(conv=>whnf);refine zC (λ_=>zu ?_) (λ_=>zu ?_)
 ·have hi:i<m:=by omega
  have hl:(fixL v m).length=m:=qh _ _;have ab:(ovr x p ((fixL v m).take i)).length=x.length:=qdi (by rw[A4];omega);refine V.Wit.shrN (8*i) Oo (by show 8*i<64;omega) (zw ?_);refine V.Wit.low8 (zw ?_);refine⟨⟨b,p,i,rfl,rfl,by omega,?_⟩⟩;rw[show tsz Dp 5=1 from by kernel_rfl,Bw];(conv=>whnf);refine StoreV.own H (by rw[Ci,qaq,ab];omega) rfl ?_;intro w2 hw;obtain⟨ac,O⟩:=Chn.set H hw;have e:((byV (ovr x p ((fixL v m).take i))).toArray.setIfInBounds (p+i) (.int .u8 (v/2 ^ (8*i)%256:Nat)))=(byV (ovr x p ((fixL v m).take (i+1)))).toArray:=by
   rw[<-q8w Oo Oo,qxv v hi,<-q7a];have e8:(UInt8.ofNat (v/2 ^ (8*i)%256)).toNat=v/2 ^ (8*i)%256:=by simp
   rw[e8];simp
  have O:w2.heap[b]?=some (.cells ((byV (ovr x p ((fixL v m).take i))).toArray.setIfInBounds (p+i) (.int .u8 (v/2 ^ (8*i)%256:Nat))) 5):=O;rw[e]at O;refine zu ?_;exact⟨i+1,fq,⟨by omega,hc.trans ac,O⟩,by omega⟩
 ·obtain rfl:i=m:=by omega
  rw[Ay (by rw[qh];exact Ao _)]at H;exact⟨rfl,hc,H⟩
def q30(n m:Nat):Obj:=.cells (cutV n m).toArray 376
def RbI(d:LB)(n:Nat)(w0:Dd)(O H W:Nat)(L:List (Nat×Nat×Nat))(w:Dd):Prop:=
 ∃x,Par d n L x/\Mem w0 w [(H,.cells (byV x).toArray 5),(O,.cells #[.slice (some ⟨H,0,none⟩) (qac d n).length (qac d n).length] 32),(W,q30 n (cnt d n))]
theorem qqj(d:LB)(n:Nat)(w0:Dd)(vb ob pb:Nat)(L:List (Nat×Nat×Nat))(x:Nat×Nat×Nat)(w:Dd)(hn:n<=67108864)(hd:d.length=upN n 8)(hp:¬PadB d n)(hI:RbI d n w0 vb ob pb L w)(hx:x∈dirD d (upN n 8)):
  Gv Dp 269 [ii x.1,ii x.2.1,ii x.2.2,pp vb,pp pb] w λr w'=>r=.bool true/\RbI d n w0 vb ob pb (L++[x]) w':=by
 obtain⟨y,hy,hm⟩:=hI;have hk:=qxd hx;obtain⟨q1,q2,_,q4⟩:=qpe hn hd hp hx;have ab:=Par.put hn hd hy hp hx;have ac:=hy.len;rw[qct hd]at ac;have u1:=qbh n 8 Od;have u2:=qbh n 2048 Od;have u3:=qbh n 256 Od;have u4:=qbh (cnt d n) 512 Od;have u5:=qdv d n;have g1:qi n=8+upN n 8:=rfl;have g2:q6 n=qi n+4*upN n 2048:=rfl;have g3:qak n=q6 n+2*upN n 256:=rfl;have g4:qa7 n (cnt d n)=qak n+4*upN (cnt d n) 512:=rfl;have ad:(qac d n).length=qa7 n (cnt d n):=qct hd;have t1:tsz Dp 5=1:=by kernel_rfl
 obtain⟨k,j,v⟩:=x;dsimp only at hk q1 q2 q4 ab|-;have aa:=hm.get mh;rw[ad]at hm;obtain⟨W,eW⟩:∃W,W=qa7 n (cnt d n):=⟨_,rfl⟩
 rw[<-eW]at hm q2 ac;have H:∀w1,Chn [ob] w w1->w1.heap[ob]?=some (.cells (byV (ovr y (plD n (k,j,v)) (fixL v (szD (k,j,v))))).toArray 5)->RbI d n w0 vb ob pb (L++[(k,j,v)]) w1:=λw1 hc hb=>⟨_,ab,by
  have:=hm.upd (i:=0) rfl (hc.upd_ hb);rw[ad,<-eW];exact this⟩
 refine ze Tryz.func269 Tryz.ntmps269 ?_
 (repeat' refine zC (λ_=>zw ?_) (λ_=>zw ?_))
 ·obtain rfl:k=2048:=by omega
  have hP:plD n (2048,j,v)=qi n+4*j:=rfl;have hZ:szD (2048,j,v)=4:=rfl;rw[hP,hZ]at H q2;rw[hZ]at q4;refine zr hm 1 ?_;refine zr hm 2 ?_;refine zv ?_;refine SliceV.to (qi n+4*j) W W (qlh Oo) rfl rfl Oo znr znr (λh=>(by cases h)) ?_;rw[Ab Oo];(conv=>whnf);rw[t1,Bw,addM,Aq];refine zcv (qf5 y ob (qi n+4*j) (W-(qi n+4*j)) (W-(qi n+4*j)) v 4 w aa Oo Oo Oo Od) ?_;rintro r w1 ⟨rfl,hc,O⟩;(conv=>whnf);exact⟨rfl,H w1 hc O⟩
 ·obtain rfl:k=256:=by omega
  have hP:plD n (256,j,v)=q6 n+2*j:=rfl;have hZ:szD (256,j,v)=2:=rfl;rw[hP,hZ]at H q2;rw[hZ]at q4;refine zr hm 1 ?_;refine zr hm 2 ?_;refine zv ?_;refine SliceV.to (q6 n+2*j) W W (qlh Oo) rfl rfl Oo znr znr (λh=>(by cases h)) ?_;rw[Ab Oo];(conv=>whnf);rw[t1,Bw,addM,Aq];refine zcv (qf5 y ob (q6 n+2*j) (W-(q6 n+2*j)) (W-(q6 n+2*j)) v 2 w aa Oo Oo Oo Od) ?_;rintro r w1 ⟨rfl,hc,O⟩;(conv=>whnf);exact⟨rfl,H w1 hc O⟩
 ·obtain rfl:k=512:=by omega
  have hP:plD n (512,j,v)=qak n+4*j:=rfl;have hZ:szD (512,j,v)=4:=rfl;rw[hP,hZ]at H q2;rw[hZ]at q4;refine zr hm 1 ?_;refine zr hm 2 ?_;refine zv ?_;refine SliceV.to (qak n+4*j) W W (qlh Oo) rfl rfl Oo znr znr (λh=>(by cases h)) ?_;rw[Ab Oo];(conv=>whnf);rw[t1,Bw,addM,Aq];refine zcv (qf5 y ob (qak n+4*j) (W-(qak n+4*j)) (W-(qak n+4*j)) v 4 w aa Oo Oo Oo Od) ?_;rintro r w1 ⟨rfl,hc,O⟩;(conv=>whnf);exact⟨rfl,H w1 hc O⟩
theorem qwv(n:Nat):qcv [Value.int .u8 0] n=byV (List.replicate n 0):=by
 induction n with
 | zero=>rfl
 | succ n H=>rw[qcv,H,List.replicate_succ];rfl
theorem qr6{H p len cap l:Nat}{x:LB}(hb:w.heap[H]?=some (.cells (byV x).toArray 5))(hS:SlAt encB 1 w A d)(hl:d.length=l)(ab:p+d.length<=x.length)(ac:d.length<=len):
  ∃w',(Builtin.copy_ #[32,32] 3 #[.slice (some ⟨H,p,none⟩) len cap,.slice A l c]).run Dp w=.ok (goInt l) w'/\Chn [H] w w'/\w'.heap[H]?=some (.cells (byV (ovr x p d)).toArray 5):=by
 have hu:Dp.underlying 32=some (.slice 5):=Tryz.underlying32;have O:(Dp.info? 5).map (·.size)=some 1:=by kernel_rfl
 rcases B0 l with h0|h0
 ·have e0:d=[]:=AK Oo;subst h0 e0;refine⟨w,run_copy_none (P:=Dp) w 32 32 3 5 (some ⟨H,p,none⟩) A len cap 0 c hu O (Nat.zero_min len),Chn.refl _ _,by rw[qqc];exact hb⟩
 ·obtain⟨gb,go,eA,aa⟩:=hS.at_ (by intro e;rw[e]at hl;simp at hl;omega);subst eA;have W:=run_copy_row (P:=Dp) w 32 32 3 5 H p len cap ⟨gb,go,none⟩ l c _ 5 (byV d) hu O hb (by rw[qaq,hl];exact(Bi Oo).symm) (λj v hv=>by
   rw[byV,Ar]at hv;obtain⟨x,hx,rfl⟩:=Co.1 hv;have h1:=aa j x hx 0 _ rfl;rw[Bw,Bq]at h1;have ea:(⟨gb,go,none⟩:Addr).add j=⟨gb,go+j,none⟩:=by unfold Addr.add;split<;>simp_all
   rw[ea];exact h1) (by rw[qaq,Ci,qaq];omega) (λv hv=>by
   obtain⟨x,_,rfl⟩:=AG.1 hv;rfl)
  obtain⟨h2,h3⟩:=qhe (cs:=((byV x).toArray.toList.take p++byV d++(byV x).toArray.toList.drop (p+(byV d).length)).toArray) hb;have e:goInt (((byV d).length:Nat):Int)=goInt ((l:Nat):Int):=by rw[qaq,hl]
  rw[e]at W;refine⟨_,W,h2,?_⟩;rw[h3]
  congr 3
  rw[qaq,ovr];simp[byV,List.map_drop]
theorem qvc(d:LB)(A:oA)(l c n:Nat)(w:Dd)(hS:SlAt encB 1 w A d)(hl:d.length=l)(hd:d.length=upN n 8)(hn:n<=67108864)(hp:¬PadB d n):
  Gv Dp 194 [.slice A l c,ii n] w λr w'=>∃v,r=.tuple #[v,ii 0]/\NewS 5 w w' v (qac d n):=by
 have hu:upN n 8=(n+7)/8:=rfl;have u1:=qbh n 8 Od;have u2:=qbh n 2048 Od;have u3:=qbh n 256 Od;have u4:=qbh (cnt d n) 512 Od;have u5:=qdv d n;have g1:qi n=8+upN n 8:=rfl;have g2:q6 n=qi n+4*upN n 2048:=rfl;have g3:qak n=q6 n+2*upN n 256:=rfl;have g4:qa7 n (cnt d n)=qak n+4*upN (cnt d n) 512:=rfl;have aa:(qac d n).length=qa7 n (cnt d n):=qct hd;have ac:=λw=>qo9 n 8 w
 have t1:tsz Dp 5=1:=by kernel_rfl
 refine ze Tryz.func194 Tryz.ntmps194 ?_;refine zv ?_;refine zcv (ac w Oo Od Od) ?_;rintro r w1 ⟨rfl,rfl⟩;refine zu ?_;refine zcv (ac w1 Oo Od Od) ?_;rintro r w2 ⟨rfl,rfl⟩;refine zu ?_;refine zcv (qu5 d A l c n w2 hS hl hd hn) ?_;rintro r w3 ⟨⟨bb,rfl,aj⟩,rfl⟩;obtain rfl:bb=true:=aj.2 hp;refine zu ?_;refine zcv (qw8 d A l c w3 hS hl Oo) ?_;rintro r w4 ⟨rfl,rfl⟩;have ak:cnt d (8*d.length)=cnt d n:=q7k hp Oo znr;rw[ak];(conv=>whnf);refine zcv (qpm n (cnt d n) w4 hn Oo) ?_;rintro r w5 ⟨rfl,al⟩;(conv=>whnf);refine znm ((Mem.nil w4).call al) λpb w6 H=>zw ?_;refine StoreA.all (vs:=cutV n (cnt d n)) H (i:=0) rfl rfl (by simp[cutV,Value.oneCell']) ?_;intro w7 H;have H:Mem w4 w7 [(pb,q30 n (cnt d n))]:=H;(conv=>whnf);refine zr H 0 ?_;obtain⟨W,eW⟩:∃W,W=qa7 n (cnt d n):=⟨_,rfl⟩
 rw[<-eW]at aa g4|-;refine⟨W,W,rfl,rfl,Ao _,show W*1<=140737488355328 by omega,by omega,?_⟩;intro O w8 ad ae;have H:=H.new ad ae;clear ad ae;have H:Mem w4 w8 [(O,.cells (qcv [Value.int .u8 0] W).toArray 5),(pb,q30 n (cnt d n))]:=H;rw[qwv]at H;(conv=>whnf);refine znm H λvb w9 H=>zw ?_;refine StoreV.mem H (i:=0) rfl Nat.zero_lt_one rfl ?_;intro af H;have H:Mem w4 af [(vb,.cells #[.slice (some ⟨O,0,none⟩) W W] 32),(O,.cells (byV (List.replicate W 0)).toArray 5),(pb,q30 n (cnt d n))]:=H;(conv=>whnf);refine zr H 0 ?_;have hz:(List.replicate W (0:Dh)).length=W:=List.length_replicate;have f1:(fixL n 4).length=4:=qh _ _;have f2:(fixL (cnt d n) 4).length=4:=qh _ _;have l1:(ovr (List.replicate W (0:Dh)) 0 (fixL n 4)).length=W:=by rw[qdi Oo,hz]
 have l2:(ovr (ovr (List.replicate W (0:Dh)) 0 (fixL n 4)) 4 (fixL (cnt d n) 4)).length=W:=by rw[qdi Oo,l1]
 refine zcv (qf5 (List.replicate W 0) O 0 W W n 4 af (H.get (zmc mh)) Oo Oo Oo Od) ?_;rintro r am ⟨rfl,hc,hb⟩;have H:=H.upd (i:=1) rfl (hc.upd_ hb);(conv=>whnf);refine zr H 0 ?_;refine SliceV.to 4 W W rfl rfl rfl Oo znr znr (λh=>(by cases h)) ?_;rw[Ab Oo];(conv=>whnf);rw[t1,Bw,addM,Aq];refine zcv (qf5 _ O 4 (W-4) (W-4) (cnt d n) 4 am hb Oo Oo Oo Od) ?_;rintro r ab ⟨rfl,hc,hb⟩;have H:=H.upd (i:=1) rfl (hc.upd_ hb);(conv=>whnf);refine zr H 0 ?_;refine zr H 2 ?_;have hb:ab.heap[O]?=some (.cells (byV (ovr (ovr (List.replicate W (0:Dh)) 0 (fixL n 4)) 4 (fixL (cnt d n) 4))).toArray 5):=hb;have ag:=hS.ext H.ext;have an:∀Q:oA,(W=8->Q=some ⟨O,0,none⟩)->(W≠8->Q=some ⟨O,8,none⟩)->∃w',(Builtin.copy_ #[32,32] 3 #[.slice Q (W-8) (W-8),.slice A l c]).run Dp ab=.ok (goInt l) w'/\Chn [O] ab w'/\
   w'.heap[O]?=some (.cells (byV (ovr (ovr (ovr (List.replicate W (0:Dh)) 0 (fixL n 4)) 4 (fixL (cnt d n) 4)) 8 d)).toArray 5):=by
  intro Q q1 q2
  by_cases hW:W=8
  ·have ao:d=[]:=AK Oo;have:=qr6 (p:=0) (len:=W-8) (cap:=W-8) (c:=c) hb ag hl Oo Oo;rw[q1 hW];subst ao;rw[qqc]at this|-;exact this
  ·rw[q2 hW];exact qr6 (p:=8) (len:=W-8) (cap:=W-8) (c:=c) hb ag hl Oo Oo
 refine SliceV.to 8 W W rfl rfl rfl Oo znr znr (λh=>(by cases h)) ?_;obtain⟨ah,ai,hc,hb⟩:=an (if W=8 then some ⟨O,0,none⟩else Option.map (λx:Addr=>x.add (8*tsz Dp 5)) (some ⟨O,0,none⟩)) (λh=>Af h) (λh=>by rw[Ab h,t1,Bw,addM]);(conv=>whnf);refine Fall.copy rfl rfl rfl _ _ ai ?_;have H:=H.upd (i:=1) rfl (hc.upd_ hb);unfold goInt;(conv=>whnf);have hI:RbI d n w4 vb O pb [] ah:=⟨_,Par.start hd (by rw[hz,aa]),by
  rw[aa];exact H.perm (List.Perm.swap _ _ _)⟩
 refine zcv (qln d A l c n ah hl hd hn _ (pp vb) (pp pb) (RbI d n w4 vb O pb) (λ_ _ h=>let⟨_,_,g⟩:=h;hS.ext g.ext) hI (λL x w' hI hx=>qqj d n w4 vb O pb L x w' hn hd hp hI hx)) ?_;rintro r au ⟨rfl,x,hx,H⟩;obtain rfl:=Par.all hn hd hx;rw[aa]at H;(conv=>whnf);refine zr H 1 ?_;obtain⟨o1,o2⟩:=H.own _ mh;exact⟨_,rfl,NewS.blk H.ext o1 o2 aa⟩
def opT(S:List Bool)(t:Nat):Nat:=if S.getD (t+1) false=true then 1 else 0
def opB(S:List Bool):LB:=qbz (opT S) (upN S.length 8)
theorem qmd(S:List Bool):(opB S).length=upN S.length 8:=qc6 _ _
theorem qih{t:Nat}(h:S.length<=t+1):opT S t=0:=by
 grind [opT]
theorem qp2{t:Nat}(h:t+1≠S.length):laT S t=opT S t:=by rw[laT,Ab h,opT]
theorem q3w(S:List Bool)(t:Nat):opT (S++[true]) t=laT S t:=by
 rw[opT,laT,Ag]
 grind
theorem qzn(S:List Bool)(t:Nat):opT (S++[false]) t=opT S t:=by
 grind [opT]
theorem quc(f:Nat->Nat)(m:Nat)(h:∀s,s<8->f (8*m+s)%2=0):qbz f (m+1)=qbz f m++[0]:=by
 have O:byt f m=0:=by
  have:=qww (f:=f) (b:=m) (r:=0) Od λs _ H=>h s H
  omega
 simp_all[qbz,Cg]
def gro(n:Nat)(l:LB):LB:=if n%8=0 then l++[0]else l
theorem qnb{f g:Nat->Nat}{n:Nat}(h:∀t,f t%2=g t%2)(H:∀t,n<=t->g t%2=0):qbz f (upN (n+1) 8)=gro n (qbz g (upN n 8)):=by
 rw[qis λt _=>h t,gro]
 split
 ·rename_i hn
  rw[show upN (n+1) 8=upN n 8+1 by unfold upN;omega,quc]
  grind [upN]
 grind [upN]
theorem q3g{t:Nat}(h:S.length<=t):laT S t=0:=by grind [qp2,qih]
theorem q3v(S:List Bool):opB (S++[true])=gro S.length (qay S):=by
 rw[opB,zla,Bv];exact qnb (λt=>by rw[q3w]) λt H=>by rw[q3g H]
theorem qzl(S:List Bool):opB (S++[false])=gro S.length (opB S):=by
 rw[opB,zla,Bv];exact qnb (λt=>by rw[qzn]) λt H=>by grind [qih]
theorem q8t:opB []=qay []:=rfl
theorem qzk{e:Nat}(h:S.length=e+1):(byV (opB S)).set (e/8) (.int .u8 (byt (opT S) (e/8)+2 ^ (e%8):Nat))=byV (qay S):=by
 have H:e<8*upN S.length 8:=by unfold upN;omega
 have O:=qnc (f:=opT S) (g:=laT S) H λt _ W=>by grind [qp2]
 have h2:=qry (f:=opT S) (g:=laT S) (b:=e/8) (r:=e%8) Oo (λs _ hs=>by grind [qp2]) (by grind [qih])
 grind [laT,opB,qay]
theorem qab3{e:Nat}(h:S.length=e+1):qdp .or .u8 ((byt (opT S) (e/8):Nat):Int) ((2 ^ (e%8):Nat):Int)=((byt (opT S) (e/8)+2 ^ (e%8):Nat):Int):=by
 have H:=q6h (f:=opT S) e 1
 grind [upF,qpj,qih]
namespace V
theorem Fall.arr{t:Dg}{x:Operand}{n e:Nat}(H:o.op=.slice t x none none none)(O:ev ρ x=.pointer (some ⟨b,off,none⟩))(W:P.underlying t=some (.array n e))(hT:hasT P e=true)(hk:K (.slice (some ⟨b,off,none⟩) n n) w):Fall P (execOp (ev ρ) o) w K:=by
 have he:execOp (ev ρ) o=(do pure (.value (<-Instr.sliceAt t (ev ρ x) none none none))):=by simp only[execOp,H];rfl
 rw[he,O];refine⟨.inl ⟨.slice (some ⟨b,off,none⟩) n n,w,?_,hk⟩⟩;simp[Instr.sliceAt,Instr.sureAddr,run_underlying W,Instr.sliceBounds,qv hT,q8]
end V
def idsE(q:Nat->Nat):Dn:=[ii (q 0:Nat),ii (q 1:Nat),ii (q 2:Nat),ii (q 3:Nat)]
theorem qgw(q:Nat->Nat)(H:k<4):(idsE q)[k]?=some (ii (q k:Nat)):=by
 rcases(show k=0\/k=1\/k=2\/k=3 by omega)with rfl|rfl|rfl|rfl<;>rfl
theorem qid(q:Nat->Nat):∀v∈idsE q,v.oneCell'=true:=by simp[idsE,Value.oneCell']
def idsW(q:Nat->Nat):Di:=.agg #[ii (q 0:Nat),ii (q 1:Nat),ii (q 2:Nat),ii (q 3:Nat)]
theorem qmq(a b:Nat->Nat)(H O:Nat)(w:Dd)(W:CellsAt w H 0 (idsE a))(hb:CellsAt w O 0 (idsE b))(hk:k<4)(he:∀j,j<k->a j=b j)(aa:a k<b k):
  Gv Dp 329 [.slice (some ⟨H,0,none⟩) 4 4,.slice (some ⟨O,0,none⟩) 4 4] w λr w'=>r=ii (-1)/\w'=w:=by
 refine ze Tryz.func329 Tryz.ntmps329 ?_;refine qn (λi:Nat=>[(0,.slice (some ⟨H,0,none⟩) 4 4),(1,.slice (some ⟨O,0,none⟩) 4 4),(9,.slice (some ⟨H,0,none⟩) 4 4),(10,ii 4),(11,ii i)]) (λi w'=>i<=k/\w'=w) (λi=>k-i) 0 fq ⟨An _,rfl⟩ ?_;rintro i w1 ac ⟨i1,rfl⟩;refine zu ?_;refine ElemV.own1 i rfl Oo ?_;refine LoadV.of (by have:=W i _ (qgw a Oo);rw[Aq]at this;exact this) (zu ?_);refine ElemV.own1 i rfl Oo ?_;refine LoadV.of (by have:=hb i _ (qgw b Oo);rw[Aq]at this;exact this) (zw ?_);refine zcv (qgn (a i) (b i) w1) ?_;rintro r w2 ⟨rfl,rfl⟩
 by_cases h:i=k
 ·subst h;have e:intC (a i) (b i)=-1:=by rw[intC,Af Oo]
  rw[e];refine zu ?_;exact⟨rfl,rfl⟩
 ·have e:intC (a i) (b i)=0:=by have:=he i Oo;rw[intC,Ab Oo,Ab Oo]
  rw[e];refine zu ?_;exact⟨i+1,fq,⟨by omega,rfl⟩,by omega⟩
theorem qo2(a b:Nat->Nat)(w:Dd)(hk:k<4)(he:∀j,j<k->a j=b j)(W:a k<b k):
  Gv Dp 256 [idsW a,idsW b] w λr w'=>r=ii (-1)/\Ext w w':=by
 refine ze Tryz.func256 Tryz.ntmps256 ?_;refine znm (Mem.nil w) ?_;intro b1 w1 H;refine znm H ?_;intro b2 w2 H;have c1:CellsAt w2 b1 0 (idsE a):=CellsAt.mem H (zmc mh);have c2:CellsAt w2 b2 0 (idsE b):=CellsAt.mem H mh;refine DrawV.free rfl Jk ?_;apply zsd
 ·intro O hd;(conv=>whnf);refine Fall.arr rfl rfl Tryz.underlying95 Jk ?_;exact xq
 apply zsd
 ·intro O hd;(conv=>whnf);refine Fall.arr rfl rfl Tryz.underlying95 Jk ?_;exact xq
 apply zsd
 ·intro O hd;(conv=>whnf);refine zcv (qmq a b b1 b2 O (c1.ext ((Ext.refl w2).drew.trans hd)) (c2.ext ((Ext.refl w2).drew.trans hd)) hk he W) ?_;rintro v w7 ⟨rfl,rfl⟩;exact xq
 (conv=>whnf);refine zd ?_;intro O hd;conv=>whnf
 (repeat(intro _ _;(conv=>whnf)))
 exact⟨rfl,(H.drew.call hd).ext⟩
theorem TOk.small{n:Nat}(h:TOk Q n)(H:i<n)(O:k<4):Q i k<=4194304:=(h.num i k H O).2
theorem qv2(Q:Nat->Nat->Nat)(A:oA)(n c:Nat)(w:Dd)(hS:SlAt idsE 4 w A ((List.range n).map Q))(hQ:TOk Q n):
  Gv Dp 188 [.slice A n c] w λr w'=>r=ii 0/\Ext w w':=by
 have ak:=hQ.nle;have H:((List.range n).map Q).length=n:=by simp
 have ac:∀i (hi:i<((List.range n).map Q).length),((List.range n).map Q)[i]=Q i:=λi hi=>by simp
 refine ze Tryz.func188 Tryz.ntmps188 ?_;refine zv ?_;refine qn (λi:Nat=>[(0,.slice A n c),(11,.slice A n c),(12,ii n),(13,ii i)]) (λi w1=>i<=n/\Ext w w1) (λi=>n-i) 0 fq ⟨An _,Ext.refl w⟩ ?_;rintro i w1 al ⟨i1,W⟩;(conv=>whnf);refine zC (λ_=>zw ?_) (λ_=>zw ?_)
 ·have hi:i<n:=by omega
  refine ElemV.sl (hS.ext W) H i rfl hi ?_;intro eb eo O;rw[ac]at O;refine LoadA.cells O rfl ?_;refine znm (Mem.nil w1) ?_;intro nb w2 hm;refine StoreA.all (vs:=idsE (Q i)) hm (i:=0) rfl rfl (qid _) ?_;intro w3 hm;have hm:Mem w1 w3 [(nb,.cells (idsE (Q i)).toArray 95)]:=hm;refine zL hm 0 ?_;refine qn (λk:Nat=>[(0,.slice A n c),(11,.slice A n c),(12,ii n),(13,ii i),(17,idsW (Q i)),(18,ii k)]) (λk w2=>k<=4/\w2=w3) (λk=>4-k) 0 fq ⟨An _,rfl⟩ ?_;rintro k w4 ag ⟨k1,rfl⟩;(conv=>whnf);refine zC (λ_=>zu ?_) (λ_=>zu ?_)
  ·have hk:k<4:=by omega
   have hr:=hQ.num i k hi hk;refine⟨ii (Q i k:Nat),by rw[show k*tsz Dp 3=k by rw[show tsz Dp 3=1 from by kernel_rfl];omega];exact qgw (Q i) hk,?_⟩;(conv=>whnf);refine zcv (q0e k (Q i k) w4) ?_;rintro r w5 ⟨rfl,rfl⟩;refine zu ?_;exact⟨k+1,fq,⟨by omega,rfl⟩,by omega⟩
  ·obtain rfl:k=4:=by omega
   exact⟨i+1,fq,⟨by omega,W.trans hm.ext⟩,by omega⟩
 ·obtain rfl:i=n:=by omega
  refine qn (λk:Nat=>[(0,.slice A i c),(7,ii (k+1:Nat))]) (λk w1=>Ext w w1) (λk=>i-k) 0 fq W ?_;rintro k w2 ag aa;(conv=>whnf);refine zC (λ_=>zw ?_) (λ_=>zw ?_)
  ·have hk:k+1<i:=by omega
   obtain⟨b,off,rfl,ad⟩:=(hS.ext aa).at_ (by intro e;rw[e]at H;simp at H;omega);have ae:=(ad k _ (zge (by rw[H];omega))).ext (Ext.refl w2).drew;have af:=(ad (k+1) _ (zge (by rw[H];omega))).ext (Ext.refl w2).drew;rw[ac]at ae af;obtain⟨kk,ah,ab,ai⟩:=hQ.rise (k+1) Oo hk;refine DrawV.free rfl Jk (zw ?_);(iterate 3 (refine zd ?_));refine zf ?_ (by intro wd hd;(conv=>whnf);refine⟨⟨b,off,k,rfl,by omega,by omega,?_⟩⟩;exact xq);apply zsd
   ·intro wd hd;refine LoadA.cells (ae.ext hd) rfl (zw ?_);exact xq
   (conv=>whnf);refine zd ?_;refine zd ?_;refine zf ?_ (by intro wd hd;(conv=>whnf);refine⟨⟨b,off,(k+1),rfl,by omega,by omega,?_⟩⟩;exact xq);apply zsd
   ·intro wd hd;refine LoadA.cells (af.ext hd) rfl (zw ?_);exact xq
   apply zsd
   ·intro wd hd;(conv=>whnf);refine zcv (qo2 (Q k) (Q (k+1)) wd ah (λj hj=>(ab j hj).symm) ai) ?_;rintro v w7 ⟨rfl,he⟩;exact⟨he,rfl⟩
   (conv=>whnf);refine zd ?_;intro wd hd;have aj:=(aa.drew).trans hd;refine zu ?_;exact⟨k+1,⟨rfl,Ae (Value.int .i64) Oo,trivial⟩,aj,by omega⟩
  ·exact⟨rfl,aa⟩
def eT(m:Nat):Dg:=if m%2=0 then 164 else 5
def rwF(Z:Do)(rb:Nat)(G:Dk):List Do:=Z::[rb]::(List.range 8).map λm=>rowF (G m)
theorem qkx(Z:Do)(rb:Nat)(G:Dk)(H:m<8):(rwF Z rb G)[m+2]?=some (rowF (G m)):=by
 show((List.range 8).map λm=>rowF (G m))[m]?=_;rw[Ar,B6 H];rfl
theorem q9q(Z:Do)(rb:Nat)(G:Dk)(v:Di):(rwF Z rb G).set (m+2) (rowF v)=rwF Z rb (updF G m v):=by
 show Z::[rb]::((List.range 8).map λm=>rowF (G m)).set m (rowF v)=Z::[rb]::(List.range 8).map λH=>rowF (updF G m v H)
 congr 2
 refine Bk λj=>?_;rw[BP,Ar,Ar]
 by_cases h:j<8
 ·rw[B6 h]
  by_cases e:m=j
  ·subst e;rw[Af rfl,Af (by simpa using h),AU,qax]
  ·rw[Ab e,AU,AU,q7 _ _ _ _ (λg=>e g.symm)]
 ·rw[AS (by simpa using h)]
  split
  ·rw[Ab (by rename_i e;subst e;simpa using h)];rfl
  ·rfl
structure RwS(w w':Dd)(Z:Do)(rb:Nat)(U G:Dk)(L:Nat->Dn):Prop where
 sep:Sep w w' (rwF Z rb G)
 tab:w'.heap[rb]?=some (.cells (fnA 8 U) 332)
 row:∀m,m<8->w'.ownsRow 0 (eT m) 1 (G m) (L m).length (L m)
def updR(L:Nat->Dn)(m:Nat)(x:Dn):Nat->Dn:=λj=>if j=m then x else L j
theorem qeb(L:Nat->Dn)(m:Nat)(x:Dn):updR L m x m=x:=Af rfl
theorem qdn(L:Nat->Dn)(m:Nat)(x:Dn)(h:j≠m):updR L m x j=L j:=Ab h
section
variable {w w1 w2:Dd} {Z:Do} {rb:Nat} {U G:Dk} {L:Nat->Dn}
theorem RwS.call(h:RwS w w1 Z rb U G L)(H:Ext w1 w2):RwS w w2 Z rb U G L:=⟨h.sep.call H,H.get h.tab,λm O=>qcg (h.row m O) H⟩
theorem RwS.chg(h:RwS w w1 Z rb U G L)(W:m<8){v:Di}{x:Dn}(ho:w2.ownsRow 0 (eT m) 1 v x.length x)(hc:Chn (rowF (G m)) w1 w2)(hn:∀j∈rowF v,(j∈rowF (G m)\/w1.heap.size<=j)/\j<w2.heap.size):
  RwS w w2 Z rb U (updF G m v) (updR L m x)/\∀k∈Z,w2.heap[k]?=w1.heap[k]?:=by
 have H:=h.sep.row (i:=m+2) (qkx Z rb G W) hc hn;refine⟨⟨by rw[<-q9q];exact H.sep,?_,λj O=>?_⟩,H.keep 0 Z rfl Oo⟩
 ·rw[H.keep 1 [rb] rfl Oo rb (Ac.2 rfl)];exact h.tab
 ·by_cases e:j=m
  ·subst e;rw[qax,qeb];exact ho
  ·rw[q7 _ _ _ _ e,qdn _ _ _ e];exact qam (h.row j O) λi hi=>H.keep (j+2) _ (qkx Z rb G O) Oo i hi
theorem RwS.store(h:RwS w w1 Z rb U G L)(hm:m<8){v:Di}(_:G m=v){K:Dl}(h1:qb5 v=true)(hK:∀w2,RwS w w2 Z rb (updF U m v) G L->(∀k∈Z,w2.heap[k]?=w1.heap[k]?)->K w2):StoreV w1 rb m v K:=by
 refine StoreV.own h.tab (by rw[qba];exact hm) h1 λw2 hw=>?_;obtain⟨hc,W⟩:=Chn.set h.tab hw;have O:=h.sep.row (i:=1) (F':=[rb]) rfl hc λj H=>⟨.inl H,by rw[Ac.1 H];exact qb1 W⟩
 exact hK w2 ⟨O.sep,by rw[W,qdy],λj H=>qam (h.row j H) λi hi=>O.keep (j+2) _ (qkx Z rb G H) Oo i hi⟩ (O.keep 0 Z rfl Oo)
theorem RwS.eqU{V:Dk}(h:RwS w w1 Z rb U G L)(e:∀m,m<8->U m=V m):RwS w w1 Z rb V G L:=by
 refine⟨h.sep,?_,h.row⟩;have H:fnA 8 V=fnA 8 U:=by
  rw[fnA,fnA]
  congr 1
  exact(Cl λm O=>e m (B7.1 O)).symm
 rw[H];exact h.tab
theorem RwS.eqL{M:Nat->Dn}(h:RwS w w1 Z rb U G L)(e:∀m,m<8->L m=M m):RwS w w1 Z rb U G M:=
 ⟨h.sep,h.tab,λm H=>by rw[<-e m H];exact h.row m H⟩
end
theorem qpr(j:Nat):eT (2*j)=164:=Af Oo
theorem qkf(j:Nat):eT (2*j+1)=5:=Ab Oo
structure RwR(w w1 w2:Dd)(Z:Do)(rb:Nat)(L:Nat->Dn):Prop where
 h:∃G,RwS w w2 Z rb G G L
 z:∀k∈Z,w2.heap[k]?=w1.heap[k]?
theorem qvm(w w1:Dd)(Z:Do)(rb:Nat)(G:Dk)(L:Nat->Dn)(h:RwS w w1 Z rb G G L)(j x:Nat)(hj:j<4)(H:Do)(bs:LB)(ac:L (2*j)=u64V H)(ad:L (2*j+1)=byV bs)(hl:H.length<=1048576)(hb:bs.length<=1048576)(hx:x<18446744073709551616):
  Gv Dp 258 [.pointer (some ⟨rb,2*j,none⟩),ii x] w1 λr w2=>r=.tuple #[]/\RwR w w1 w2 Z rb (updR (updR L (2*j+1) (byV (gro H.length bs))) (2*j) (u64V (H++[x]))):=by
 obtain⟨A0,c0,e0⟩:=qbn (h.row (2*j) Oo);obtain⟨A1,c1,e1⟩:=qbn (h.row (2*j+1) Oo);have aq:(L (2*j)).length=H.length:=by rw[ac,qdm]
 have ar:(L (2*j+1)).length=bs.length:=by rw[ad,qaq]
 rw[aq]at e0;rw[ar]at e1;have half:∀(w3:Dd) (G3:Dk) (L3:Nat->Dn),RwS w w3 Z rb G3 G3 L3->(∀k∈Z,w3.heap[k]?=w1.heap[k]?)->G3 (2*j)=.slice A0 H.length c0->L3 (2*j)=u64V H->(∀m,m<8->updR L3 (2*j) (u64V (H++[x])) m=updR (updR L (2*j+1) (byV (gro H.length bs))) (2*j) (u64V (H++[x])) m)->
   ∀(nb:Nat) (w4:Dd),nb=w3.heap.size->w4=w3.alloc (.cells #[.int .u64 x] 164)->∀(K:Dj),(∀A' c' w5,(∀K2:Dd->Prop,(∀w6,RwR w w1 w6 Z rb (updR (updR L (2*j+1) (byV (gro H.length bs))) (2*j) (u64V (H++[x])))->K2 w6)->StoreV w5 rb (2*j) (.slice A' (H.length+1) c') K2)->K (.slice A' (H.length+1) c') w5)->
    AppV Dp #[169,169] 169 (.slice A0 H.length c0) (.slice (some ⟨nb,0,none⟩) 1 1) w4 K:=by
  intro w3 G3 L3 h3 ae af au av nb w4 ab al K hK;have am:Ext w3 w4:=by rw[al];exact(Ext.refl w3).alloc _
  have aw:w4.heap[nb]?=some (.cells #[.int .u64 x] 164):=by rw[al,ab];exact heap_alloc_new w3 _
  have h4:=h3.call am;have ag:∀k∈Z,w4.heap[k]?=w1.heap[k]?:=λk O=>by rw[am.block k (h3.sep.lo Z mh k O).2];exact ae k O
  have hr:=h4.row (2*j) Oo;rw[af,au,qdm,qpr]at hr;refine AppV.cell qaad u64I u64Z Jk rfl (by decide +kernel) hr aw rfl Oo ?_;intro A' c' w5 ho ah W;refine hK A' c' w5 λK2 ax=>?_
  have an:(u64V (H++[x])).length=H.length+1:=by rw[qdm,zla];rfl
  obtain⟨h5,ay⟩:=h4.chg (m:=2*j) Oo (v:=.slice A' (H.length+1) c') (x:=u64V (H++[x])) (by
   rw[an,qpr,u64V,Ba];exact ho) (by rw[af];exact ah) (by rw[af];exact W)
  refine h5.store (m:=2*j) Oo (qax _ _ _) rfl ?_;intro w6 h6 az;refine ax w6 ⟨⟨_,h6.eqL av⟩,λk O=>?_⟩;rw[az k O,ay k O,ag k O]
 refine ze Tryz.func258 Tryz.ntmps258 ?_;refine LoadV.own h.tab (v:=.slice A0 H.length c0) ((qa9 8 G (2*j) Oo).trans (Ae some e0)) (zw ?_);refine zt ?_;refine zC (λ_=>zw ?_) (λ_=>zw ?_)
 ·have hg:gro H.length bs=bs++[0]:=by rw[gro,Af Oo]
  refine LoadV.own h.tab (v:=.slice A1 bs.length c1) ((qa9 8 G (2*j+1) Oo).trans (Ae some e1)) (zw ?_);refine⟨λnb w2 ab hw=>?_⟩;have ao:Ext w1 w2:=by rw[hw];exact(Ext.refl w1).alloc _
  have a0:w2.heap[nb]?=some (.cells #[.int .u8 0] 5):=by rw[hw,ab];exact heap_alloc_new w1 _
  have h2:=h.call ao;have a1:∀k∈Z,w2.heap[k]?=w1.heap[k]?:=λk O=>ao.block k (h.sep.lo Z mh k O).2
  clear ab hw;have hr:=h2.row (2*j+1) Oo;rw[e1,ad,qaq,qkf]at hr;refine AppV.cell que bytI bytZ Jk rfl (by decide +kernel) hr a0 rfl Oo ?_;intro A' c' w3 ho ah W;obtain⟨h3,ae⟩:=h2.chg (m:=2*j+1) Oo (v:=.slice A' (bs.length+1) c') (x:=byV (bs++[0])) (by
   rw[qaq,zla,Bv,qkf,byV,Ba];exact ho) (by rw[e1];exact ah) (by rw[e1];exact W)
  refine h3.store (m:=2*j+1) Oo (qax _ _ _) rfl ?_;intro w4 h4 ag;have h4:=h4;refine LoadV.own h4.tab (v:=.slice A0 H.length c0) ((qa9 8 _ (2*j) Oo).trans (Ae some (by rw[q7 _ _ _ _ Oo];exact e0))) (zu ?_);refine⟨λai w5 aa aj=>?_⟩;refine half w4 _ _ h4 (λk O=>by rw[ag k O,ae k O,a1 k O]) (by rw[q7 _ _ _ _ Oo,e0]) (by rw[qdn _ _ _ Oo,ac]) (λm hm=>by rw[hg]) ai w5 aa aj _ ?_;intro A3 c3 w6 ak;refine ak _ λw7 h7=>?_;(conv=>whnf);exact⟨rfl,h7⟩
 ·have hg:gro H.length bs=bs:=by rw[gro,Ab Oo]
  refine LoadV.own h.tab (v:=.slice A0 H.length c0) ((qa9 8 G (2*j) Oo).trans (Ae some e0)) (zu ?_);refine⟨λai w5 aa aj=>?_⟩;refine half w1 _ _ h (λk O=>rfl) e0 ac (λm hm=>by
   by_cases e:m=2*j
   ·subst e;rw[qeb,qeb]
   ·rw[qdn _ _ _ e,qdn _ _ _ e]
    by_cases e2:m=2*j+1
    ·subst e2;rw[qeb,hg,ad]
    ·rw[qdn _ _ _ e2]) ai w5 aa aj _ ?_
  intro A3 c3 w6 ak;refine ak _ λw7 h7=>?_;(conv=>whnf);exact⟨rfl,h7⟩
theorem q8y{n:Nat}{v:Di}(h:w.ownsRow base e 1 (.slice A n c) n xs)(hA:A=some ⟨g,0,none⟩)(_:j<n)(hw:w'=w.setCell ⟨g,j,none⟩ v):w'.ownsRow base e 1 (.slice A n c) n (xs.set j v)/\Chn [g] w w':=by
 subst hA;have H:=h.1
 rcases h.2 with⟨O,e2⟩|⟨g',aa,cur,O,hb,hg,h2,h3,h4,h5⟩
 ·cases O
 ·cases O;obtain⟨hc,W⟩:=Chn.set hg hw;refine⟨⟨by simp[H],.inr ⟨g,c,_,rfl,hb,W,h2,h3,by simp[h4],?_⟩⟩,hc⟩;rw[<-h5];simp[List.take_set]
theorem qhv(w w1:Dd)(Z:Do)(rb:Nat)(G:Dk)(L:Nat->Dn)(h:RwS w w1 Z rb G G L)(j:Nat)(hj:j<4)(ns:Do)(S:List Bool)(ah:L (2*j)=u64V ns)(H:L (2*j+1)=byV (opB S))(aq:S.length=ns.length)(hl:ns.length<=1048576):
  Gv Dp 257 [.pointer (some ⟨rb,2*j,none⟩)] w1 λr w2=>r=.tuple #[]/\RwR w w1 w2 Z rb (updR L (2*j+1) (byV (qay S))):=by
 obtain⟨A0,c0,e0⟩:=qbn (h.row (2*j) Oo);obtain⟨A1,c1,W⟩:=qbn (h.row (2*j+1) Oo);have ai:(L (2*j)).length=ns.length:=by rw[ah,qdm]
 have aa:(L (2*j+1)).length=upN S.length 8:=by rw[H,qaq,qmd]
 rw[ai]at e0;rw[aa]at W;refine ze Tryz.func257 Tryz.ntmps257 ?_;refine LoadV.own h.tab (v:=.slice A0 ns.length c0) ((qa9 8 G (2*j) Oo).trans (Ae some e0)) (zw ?_);refine zt ?_;refine zC (λ_=>zw ?_) (λ_=>zw ?_)
 ·obtain⟨e,he⟩:∃e,S.length=e+1:=⟨S.length-1,by omega⟩
  have ei:(ns.length:Int)-1=(e:Int):=by omega
  rw[ei];have ar:upN S.length 8=(S.length+7)/8:=rfl;have au:=qrx (opT S) (e/8);have hr:=h.row (2*j+1) Oo;rw[W,aa,H,qkf]at hr;obtain⟨g,aj,ak⟩:∃g,A1=some ⟨g,0,none⟩/\∃cur,w1.heap[g]?=some (.cells cur 5)/\cur[e/8]?=some (.int .u8 (byt (opT S) (e/8):Nat))/\cur.size=c1/\upN S.length 8<=c1:=by
   rcases hr.2 with⟨q1,q2⟩|⟨g,av,cur,q1,_,hg,q3,_,q4,q5⟩
   ·exfalso;omega
   ·cases q1;refine⟨g,rfl,cur,hg,?_,by omega,q3⟩;have hb:=qh7 (f:=opT S) (m:=upN S.length 8) (b:=e/8) Oo;rw[<-opB,<-q5,Bn,Af Oo]at hb
    simpa using hb
  subst aj;obtain⟨cur,hg,ab,aw,ax⟩:=ak;have ad:=(Ext.refl w1).drew.get hg;have al:=(Ext.refl w1).drew.get h.tab;refine DrawV.own rfl Jk (zw ?_);(iterate 3 (refine zo ?_));apply StepO.still
  ·intro wd hd;refine LoadV.own (hd.get al) (by rw[qa9 8 G (2*j+1) Oo,W]) (zw ?_);exact PostO.still xr rfl
  (conv=>whnf);refine zo ?_;refine zo ?_;apply StepO.still
  ·intro wd hd;refine ElemV.own1 (e/8) Oo Oo (zw ?_);exact PostO.still xr rfl
  apply StepO.still
  ·intro wd hd;refine LoadV.own (hd.get ad) ab (zw ?_);exact PostO.still xr rfl
  (conv=>whnf);refine zo ?_;refine zo ?_;apply StepO.still
  ·intro ae hd;refine V.Wit.shlN (a:=1) (e%8) Oo (by show e%8<8;omega) (qdu ?_) ?_
   ·have h2:2 ^ (e%8)<=2 ^ 7:=AQ Od Oo;have e7:(2:Nat) ^ 7=128:=by decide
    show 1*2 ^ (e%8)<256;omega
   rw[Nat.one_mul];(conv=>whnf);exact PostO.still xr rfl
  apply StepO.still
  ·intro ae hd;refine Wit.eq (qab3 he) (zw ?_);exact PostO.still xr rfl
  apply StepO.still
  ·intro ae hd;refine ElemV.own1 (e/8) Oo Oo (zw ?_);exact PostO.still xr rfl
  intro w8 ac
  (repeat(intro _;(conv=>whnf)))
  have h8:=h.call ((Ext.refl w1).drew.trans ac);have af:=ac.get ad;have am:∀k∈Z,w8.heap[k]?=w1.heap[k]?:=λk O=>((Ext.refl w1).drew.trans ac).block k (h.sep.lo Z mh k O).2
  refine StoreV.own af Oo rfl ?_;intro w9 an;have ag:=h8.row (2*j+1) Oo;rw[W,aa,H,qkf]at ag;obtain⟨ho,hc⟩:=q8y ag rfl (show e/8<upN S.length 8 by omega) an;have ho:w9.ownsRow 0 5 1 (.slice (some ⟨g,0,none⟩) (upN S.length 8) c1) (upN S.length 8) ((byV (opB S)).set (e/8) (.int .u8 (byt (opT S) (e/8)+2 ^ (e%8):Nat))):=ho;rw[qzk he]at ho;obtain⟨h9,ao⟩:=h8.chg (m:=2*j+1) Oo (v:=.slice (some ⟨g,0,none⟩) (upN S.length 8) c1) (x:=byV (qay S)) (by rw[qaq,qcd,qkf];exact ho) (by rw[W];exact hc) (by
   rw[W];intro k O;refine⟨.inl O,?_⟩;rw[Ac.1 O];exact AE (qb1 af) hc.size)
  (conv=>whnf);refine⟨rfl,⟨_,h9.eqU (V:=updF G (2*j+1) (.slice (some ⟨g,0,none⟩) (upN S.length 8) c1)) λm hm=>?_⟩,λk O=>by rw[ao k O,am k O]⟩
  by_cases q:m=2*j+1
  ·subst q;rw[qax,W]
  ·rw[q7 _ _ _ _ q]
 ·have h0:S=[]:=AK Oo;subst h0;refine⟨rfl,⟨G,h.eqL λm hm=>?_⟩,λk O=>rfl⟩
  by_cases q:m=2*j+1
  ·subst q;rw[qeb,H,q8t]
  ·rw[qdn _ _ _ q]
end Go.Proofs.YtccmcfpmknpccaaGreatDoor
