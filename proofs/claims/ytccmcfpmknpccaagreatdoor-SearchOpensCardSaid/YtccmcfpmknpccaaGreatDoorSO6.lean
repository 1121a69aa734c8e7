/- Lemmas and contracts of functions on the way to the law's card (part 6 of 11). -/
import Derived.Test.YtccmcfpmknpccaaGreatDoorSO5
namespace Go.Proofs.YtccmcfpmknpccaaGreatDoor
set_option maxHeartbeats 8000000
open Go.RowKit V
set_option maxHeartbeats 8000000
set_option maxRecDepth 100000
variable {l s:LB} {a b i id j k m off:Nat} {w w' w0:DA} {L M:DJ} {vs xs:DK} {P:DC} {cs cur:DN} {A:oA} {fz:Nat×Nat} {x y:DF} {kind:Int} {ts:List TM}
def SpR(l:LB)(r:DF):Prop:=
 ((sE l).2≠0/\∃G:Nat->Int,r=.tuple #[.agg (fnA 4 (inF G)),fltV (sE l).1 (sE l).2])\/
 ((sE l).2=0/\∃G:Nat->Int,(∀k,k<=3->G k=((qj l k:Nat):Int))/\r=.tuple #[.agg (fnA 4 (inF G)),fltV 0 0])
theorem quq(w:DA):Gv DM 78 [] w λr w'=>r=.agg #[ii 1,ii 2,ii 3]/\Ext w w':=by
 refine ze Tryz.func78 Tryz.ntmps78 ?_;refine znm (Mem.nil w) λU V H=>zw ?_;refine zS H 0 λW H=>zw ?_;refine qd (R:=λr w'=>r=.agg #[ii 1,ii 2,ii 3]/\Ext w w') (zw ?_);refine zl H 0 ?_;exact⟨rfl,H.ext⟩
theorem qyv(h:∀j,j<k->(vsF l j).2=0)(H:k<3)(U:(vsF l k).2≠0):sE l=vsF l k:=by
 have:=qaz (f:=vsF l) h H U
 grind [sE]
theorem qmp(l:LB)(A:oA)(c:Nat)(w:DA)(hS:SlAt encB 1 w A l)(hc:l.length<=c)(hl:l.length<=70368744177664):
  Gv DM 104 [.slice A l.length c] w λr w'=>SpR l r/\Ext w w':=by
 refine ze Tryz.func104 Tryz.ntmps104 ?_;refine znm (Mem.nil w) λr2 w1 H=>zw ?_;refine znm H λU w2 H=>zw ?_;refine znm H λV w3 H=>zw ?_;refine znm H λW w4 H=>zw ?_;refine znm H ?_;intro Z w5 H;have H:Mem w w5 [(Z,.cells (fnA 3 (inF (λ_:Nat=>(0:Int)))) 113),(W,curO 309 (.slice A l.length c) (vAt l 0) 0),(V,.cells (fnA 4 (inF (λ_:Nat=>(0:Int)))) 94),(U,.cells #[ii 0,ii 0] 55),(r2,.cells (fnA 4 (inF (λ_=>0))) 94)]:=H;(conv=>whnf);refine qq (λx:Nat×(Nat->Int)=>[(0,.slice A l.length c),(2,pp r2),(3,pp U),(4,pp V),(5,pp W),(6,pp Z),(7,ii x.1)])
  (λx w'=>x.1<=3/\(∀j,j<x.1->(vsF l j).2=0)/\(∀j,j<x.1->x.2 j=((vNum l j:Nat):Int))/\Mem w w' [(Z,.cells (fnA 3 (inF (x.2))) 113),(W,curO 309 (.slice A l.length c) (vAt l x.1) 0),(V,.cells (fnA 4 (inF (λ_:Nat=>(0:Int)))) 94),(U,.cells #[ii 0,ii 0] 55),(r2,.cells (fnA 4 (inF (λ_=>0))) 94)]) (λx=>3-x.1) (0,λ_:Nat=>(0:Int))
  fq (by grind) ?_
 clear H;rintro⟨k,Q⟩ w6 am ⟨k1,hz,hQ,H⟩;dsimp only at k1 hz hQ H|-;have ah:=qco l k;have an:=qhc l k;(conv=>whnf);refine zC (λ_=>zw ?_) (λ_=>zw ?_)
 ·refine zr H 1 ?_;refine zcv (qqf W _ (vAt l k) 0 l w6 (H.get Js) ⟨A,c,rfl,hc,hS.ext H.ext⟩ ah Oo) ?_;rintro r w7 ⟨rfl,hu⟩
  by_cases he:(numL (l.drop (vAt l k))).2.2=0
  case neg=>
   rw[qk0 he,qk1 he]at hu;rw[qkz he];obtain⟨q,eq⟩:∃q,q=(numL (l.drop (vAt l k))).2.2:=⟨_,rfl⟩
   have hf:vsF l k=(vAt l k,q):=by rw[vsF,qbv he,eq]
   rw[<-eq]at hu he;have hE:sE l=(vAt l k,q):=by grind [qyv]
   have H:Mem w w7 [(Z,.cells (fnA 3 (inF (Q))) 113),(W,curO 309 (.slice A l.length c) (vAt l k) q),(V,.cells (fnA 4 (inF (λ_:Nat=>(0:Int)))) 94),(U,.cells #[ii 0,ii 0] 55),(r2,.cells (fnA 4 (inF (λ_=>0))) 94)]:=H.upd (i:=1) rfl hu;(conv=>whnf);refine zr H 1 ?_;refine zv ?_;refine DrawV.inv (λS w'=>Mem w w' [(Z,.cells (fnA 3 (inF (Q))) 113),(W,curO 309 (.slice A l.length c) (vAt l k) q),(V,.cells (fnA 4 (inF (λ_:Nat=>(0:Int)))) 94),(U,.cells (bif S 8 then #[ii (vAt l k:Nat),ii (q:Nat)]else #[ii 0,ii 0]) 55),(r2,.cells (fnA 4 (inF (λ_=>0))) 94)]) rfl Jk H.drew ?_;clear H;(conv=>whnf);refine StepI.of (.agg (fnA 4 (inF λ_=>0))) (λS wd hk hp hI=>zw ?_) (zw ?_)
   ·refine LoadA.mem hI (i:=2) rfl (by simp[qp];rfl) (zw ?_);exact⟨rfl,hI⟩
   (iterate 4 (refine zi ?_));refine zLi ?_;refine zi ?_;refine StepI.of undef (λS wd hk hp hI=>zw ?_) (zw ?_)
   ·refine StoreA.all hI (i:=4) rfl (by rfl) (qa4 4 _) λwx aa=>zw ?_;exact⟨rfl,aa⟩
   refine zSi ?_;intro wz H;have H:Mem w wz [(Z,.cells (fnA 3 (inF (Q))) 113),(W,curO 309 (.slice A l.length c) (vAt l k) q),(V,.cells (fnA 4 (inF (λ_:Nat=>(0:Int)))) 94),(U,.cells #[ii (vAt l k:Nat),ii (q:Nat)] 55),(r2,.cells (fnA 4 (inF (λ_=>0))) 94)]:=H;(conv=>whnf);refine qd (R:=λr w'=>SpR l r/\Ext w w') (zw ?_);refine LoadA.mem H (i:=4) rfl (by simp[qp];rfl) (zw ?_);refine zl H 3 ?_;exact⟨.inl ⟨by simp_all,λ_=>0,by rw[hE];rfl⟩,H.ext⟩
  rw[qk3 he,qk4 he]at hu;rw[qk2 he];have H:Mem w w7 [(Z,.cells (fnA 3 (inF (Q))) 113),(W,curO 309 (.slice A l.length c) (vAt l (k+1)) 0),(V,.cells (fnA 4 (inF (λ_:Nat=>(0:Int)))) 94),(U,.cells #[ii 0,ii 0] 55),(r2,.cells (fnA 4 (inF (λ_=>0))) 94)]:=H.upd (i:=1) rfl hu;(conv=>whnf);refine zr H 1 ?_;refine zt ?_;refine zC (λ_=>zu ?_) (λ_=>zu ?_)
  ·have hf:vsF l k=(vAt l k,2):=by grind [vsF,qdp]
   have hE:sE l=(vAt l k,2):=by grind [qyv]
   refine LoadA.mem H (i:=2) rfl (by simp[qp];rfl) (zw ?_);refine StoreA.all H (i:=4) rfl (by rfl) (qa4 4 λ_=>0) λwa H=>zw ?_;refine zS H 3 ?_;intro wb H;have H:Mem w wb [(Z,.cells (fnA 3 (inF (Q))) 113),(W,curO 309 (.slice A l.length c) (vAt l (k+1)) 0),(V,.cells (fnA 4 (inF (λ_:Nat=>(0:Int)))) 94),(U,.cells #[ii (vAt l k:Nat),ii 2] 55),(r2,.cells (fnA 4 (inF (λ_=>0))) 94)]:=H;(conv=>whnf);refine qd (R:=λr w'=>SpR l r/\Ext w w') (zw ?_);refine LoadA.mem H (i:=4) rfl (by simp[qp];rfl) (zw ?_);refine zl H 3 ?_;exact⟨.inl ⟨by rw[hE];simp,λ_=>0,by rw[hE];rfl⟩,H.ext⟩
  have hf:(vsF l k).2=0:=by grind [vsF,qbh]
  refine StoreV.fi (x:=((vNum l k:Nat):Int)) H (i:=0) rfl k (by rw[show tsz DM 3=1 from by kernel_rfl];omega) Oo ?_;intro w8 H;have H:Mem w w8 [(Z,.cells (fnA 3 (inF (updI Q k (vNum l k:Nat)))) 113),(W,curO 309 (.slice A l.length c) (vAt l (k+1)) 0),(V,.cells (fnA 4 (inF (λ_:Nat=>(0:Int)))) 94),(U,.cells #[ii 0,ii 0] 55),(r2,.cells (fnA 4 (inF (λ_=>0))) 94)]:=H;refine zu ?_;refine⟨(k+1,updI Q k (vNum l k:Nat)),fq,⟨by omega,(by grind),λj hj=>?_,H⟩,by omega⟩
  all_goals grind [qck,qao]
 obtain rfl:k=3:=by omega
 have ao:¬(errF (vsF l) 3).2≠0:=by
  grind [q6]
 have ai:∀j,j<3->vNum l j<=67108864:=λj hj=>qc3 (hz j hj)
 refine zr H 1 ?_;refine zJ 0 ?_;(conv=>whnf);refine StoreV.fi (x:=((vAt l 3:Nat):Int)) H (i:=2) rfl 0 (by rw[show tsz DM 3=1 from by kernel_rfl]) Oo ?_;intro w7 H;have H:Mem w w7 [(Z,.cells (fnA 3 (inF (Q))) 113),(W,curO 309 (.slice A l.length c) (vAt l 3) 0),(V,.cells (fnA 4 (inF (updI (λ_=>0) 0 (vAt l 3:Nat)))) 94),(U,.cells #[ii 0,ii 0] 55),(r2,.cells (fnA 4 (inF (λ_=>0))) 94)]:=H;(conv=>whnf);refine qq (λx:Nat×(Nat->Int)=>[(0,.slice A l.length c),(2,pp r2),(3,pp U),(4,pp V),(6,pp Z),(10,ii x.1)])
  (λx w'=>x.1<=3/\(∀j,j<=x.1->x.2 j=((qj l j:Nat):Int))/\qj l x.1<=l.length+67108864*x.1/\Mem w w' [(Z,.cells (fnA 3 (inF (Q))) 113),(W,curO 309 (.slice A l.length c) (vAt l 3) 0),(V,.cells (fnA 4 (inF (x.2))) 94),(U,.cells #[ii 0,ii 0] 55),(r2,.cells (fnA 4 (inF (λ_=>0))) 94)]) (λx=>3-x.1) (0,updI (λ_=>0) 0 (vAt l 3:Nat))
  fq (by grind [qck,qj]) ?_
 clear H;rintro⟨k,P⟩ w8 aq ⟨k2,hP,ad,H⟩;dsimp only at k2 hP ad H|-;conv=>whnf
 (repeat'(first|refine zC (λ_=>zw ?_) (λ_=>zw ?_)|(refine zJ 3 ?_;(conv=>whnf))))
 ·have ae:=hP k znr;have af:=hQ k Oo;have aj:=ai k Oo;have ag:qj l (k+1)=qj l k+vNum l k:=rfl;obtain⟨y,ey⟩:∃y,y=qj l k:=⟨_,rfl⟩
  obtain⟨z,ez⟩:∃z,z=vNum l k:=⟨_,rfl⟩
  rw[<-ey]at ae ad ag;rw[<-ez]at af aj ag;refine DrawV.own rfl Jk (zw ?_);(iterate 3 (refine zo ?_));apply StepO.still
  ·intro wd hd;(conv=>whnf);refine IdxV.at_ (k) Oo Oo (zw ?_);exact PostO.still xr rfl
  (conv=>whnf);apply StepO.still
  ·intro wd hd;(conv=>whnf);refine LoadV.fi (x:=((y:Nat):Int)) (Mem.call (Mem.drew H) hd) (i:=2) rfl (k) (by rw[show tsz DM 3=1 from by kernel_rfl];omega) Oo ae (zw ?_);exact PostO.still xr rfl
  (conv=>whnf);refine zo ?_;apply StepO.still
  ·intro wd hd;(conv=>whnf);refine IdxV.at_ (k) Oo Oo (zw ?_);exact PostO.still xr rfl
  (conv=>whnf);apply StepO.still
  ·intro wd hd;(conv=>whnf);refine LoadV.fi (x:=((z:Nat):Int)) (Mem.call (Mem.drew H) hd) (i:=0) rfl (k) (by rw[show tsz DM 3=1 from by kernel_rfl];omega) Oo af (zw ?_);exact PostO.still xr rfl
  (conv=>whnf);refine zo ?_;apply StepO.still
  ·intro wd hd;(conv=>whnf);refine IdxV.at_ (k+1) Oo Oo (zw ?_);exact PostO.still xr rfl
  (conv=>whnf);intro w9 ak
  (repeat(intro _;(conv=>whnf)))
  (conv=>whnf);refine StoreV.fi (x:=((y:Nat):Int)+((z:Nat):Int)) (H.drew.call ak) (i:=2) rfl (k+1) (by rw[show tsz DM 3=1 from by kernel_rfl];omega) Oo ?_;clear H;intro al H;have H:Mem w al [(Z,.cells (fnA 3 (inF (Q))) 113),(W,curO 309 (.slice A l.length c) (vAt l 3) 0),(V,.cells (fnA 4 (inF (updI P (k+1) (((y:Nat):Int)+((z:Nat):Int))))) 94),(U,.cells #[ii 0,ii 0] 55),(r2,.cells (fnA 4 (inF (λ_=>0))) 94)]:=H;refine zu ?_;refine⟨(k+1,updI P (k+1) (((y:Nat):Int)+((z:Nat):Int))),fq,⟨by omega,λj hj=>?_,by grind,H⟩,by omega⟩
  grind [qck,qao]
 obtain rfl:k=3:=by omega
 refine LoadV.fi (x:=((qj l 3:Nat):Int)) H (i:=2) rfl 3 (by rw[show tsz DM 3=1 from by kernel_rfl]) Oo (hP 3 Oo) (zw ?_)
 (repeat'(first|refine zC (λ_=>zw ?_) (λ_=>zw ?_)|(refine zJ 3 ?_;(conv=>whnf))))
 ·have hE:sE l=(l.length,10):=by grind [sE]
  refine LoadA.mem H (i:=2) rfl (by simp[qp];rfl) (zw ?_);refine StoreA.all H (i:=4) rfl (by rfl) (qa4 4 P) λwa H=>zw ?_;refine zS H 3 ?_;intro wb H;have H:Mem w wb [(Z,.cells (fnA 3 (inF (Q))) 113),(W,curO 309 (.slice A l.length c) (vAt l 3) 0),(V,.cells (fnA 4 (inF (P))) 94),(U,.cells #[ii (l.length:Nat),ii 10] 55),(r2,.cells (fnA 4 (inF (P))) 94)]:=H;(conv=>whnf);refine qd (R:=λr w'=>SpR l r/\Ext w w') (zw ?_);refine LoadA.mem H (i:=4) rfl (by simp[qp];rfl) (zw ?_);refine zl H 3 ?_;exact⟨.inl ⟨by rw[hE];simp,P,by rw[hE];rfl⟩,H.ext⟩
 refine LoadV.fi (x:=((qj l 3:Nat):Int)) H (i:=2) rfl 3 (by rw[show tsz DM 3=1 from by kernel_rfl]) Oo (hP 3 Oo) (zw ?_);refine zC (λ_=>zw ?_) (λ_=>zw ?_)
 ·have hE:sE l=(qj l 3,13):=by grind [sE]
  refine DrawV.inv (λS w'=>Mem w w' [(Z,.cells (fnA 3 (inF (Q))) 113),(W,curO 309 (.slice A l.length c) (vAt l 3) 0),(V,.cells (fnA 4 (inF (P))) 94),(U,.cells (bif S 5 then #[ii (qj l 3:Nat),ii 13]else #[ii 0,ii 0]) 55),(r2,.cells (bif S 4 then fnA 4 (inF P)else fnA 4 (inF λ_=>0)) 94)]) rfl Jk H.drew ?_;clear H;(conv=>whnf);refine StepI.of (.agg (fnA 4 (inF P))) (λS wd hk hp hI=>zw ?_) (zw ?_)
  ·refine LoadA.mem hI (i:=2) rfl (by simp[qp];rfl) (zw ?_);exact⟨rfl,hI⟩
  refine zI ?_ (by intro S wd hk hp hI;(conv=>whnf);refine zJ 3 ?_;(conv=>whnf);exact⟨rfl,hI⟩);(conv=>whnf);refine StepI.of (ii (qj l 3:Nat)) (λS wd hk hp hI=>zw ?_) (zw ?_)
  ·refine LoadV.fi (x:=((qj l 3:Nat):Int)) hI (i:=2) rfl 3 (by rw[show tsz DM 3=1 from by kernel_rfl]) Oo (hP 3 Oo) (zw ?_);exact⟨rfl,hI⟩
  refine zi ?_;refine StepI.of undef (λS wd hk hp hI=>?_) (zw ?_)
  ·dsimp only at hI;rw[hk]at hI;(conv=>whnf);refine StoreA.all hI (i:=4) rfl (by rfl) (qa4 4 P) λwx aa=>zw ?_;exact⟨rfl,aa⟩
  refine zSi ?_;intro wz H;have H:Mem w wz [(Z,.cells (fnA 3 (inF (Q))) 113),(W,curO 309 (.slice A l.length c) (vAt l 3) 0),(V,.cells (fnA 4 (inF (P))) 94),(U,.cells #[ii (qj l 3:Nat),ii 13] 55),(r2,.cells (fnA 4 (inF (P))) 94)]:=H;(conv=>whnf);refine qd (R:=λr w'=>SpR l r/\Ext w w') (zw ?_);refine LoadA.mem H (i:=4) rfl (by simp[qp];rfl) (zw ?_);refine zl H 3 ?_;exact⟨.inl ⟨by rw[hE];simp,P,by rw[hE];rfl⟩,H.ext⟩
 have hE:sE l=(0,0):=by grind [sE]
 refine LoadA.mem H (i:=2) rfl (by simp[qp];rfl) (zw ?_);refine StoreA.all H (i:=4) rfl (by rfl) (qa4 4 P) λwa H=>zw ?_;refine zS H 3 ?_;intro wb H;have H:Mem w wb [(Z,.cells (fnA 3 (inF (Q))) 113),(W,curO 309 (.slice A l.length c) (vAt l 3) 0),(V,.cells (fnA 4 (inF (P))) 94),(U,.cells #[ii 0,ii 0] 55),(r2,.cells (fnA 4 (inF (P))) 94)]:=H;(conv=>whnf);refine qd (R:=λr w'=>SpR l r/\Ext w w') (zw ?_);refine LoadA.mem H (i:=4) rfl (by simp[qp];rfl) (zw ?_);refine zl H 3 ?_;exact⟨.inr ⟨by rw[hE],P,Oo,rfl⟩,H.ext⟩
theorem qx7{V:DJ}(h:Mem w0 w L)(U:Mem w w' V):Mem w0 w' (L++V):=by
 have W:=h.call U.ext;refine⟨W.ext,λx H=>?_,?_⟩
 ·rcases AU.1 H with H|H
  ·exact W.own x H
  ·exact⟨AE h.ext.size (U.own x H).1,(U.own x H).2⟩
 ·rw[AH,CZ];refine⟨h.nodup,U.nodup,λa Z b hb aa=>?_⟩;obtain⟨x,H,rfl⟩:=AA.1 Z;obtain⟨y,hy,rfl⟩:=AA.1 hb;have h1:=(U.own y hy).1;have h2:=h.lt (b:=x.1) (o:=x.2) H;omega
def LevV(l:LB)(m:Nat)(u v:DF)(R:DJ):Prop:=
 (0<m->LvlV l m)/\∃A U B H V bs,u=.slice A (vNum l m) U/\v=.slice B H V/\RowB 164 (unpV (qh l m) (vNum l m) (tw l m)) R u/\RowB 4 (bs.map Value.bool) R v/\(0<m->H=vNum l m/\bs=bitL (qf l m) (vNum l m))
theorem LevV.keep{u v:DF}{R U:DJ}(h:LevV l m u v R)(V:∀x∈R,x∈U):LevV l m u v U:=by
 obtain⟨W,A,Z,B,nb,cb,bs,h2,h3,h4,h5,h6⟩:=h;exact⟨W,A,Z,B,nb,cb,bs,h2,h3,h4.keep λy H _=>V y H,h5.keep λy H _=>V y H,h6⟩
theorem qac4(n:Nat)(G:DH)(i:Nat)(u v:DF)(h:i+2<=n):((fnA n G).toList.take i++[u,v]++(fnA n G).toList.drop (i+2)).toArray=fnA n (updF (updF G i u) (i+1) v):=by
 rw[<-Bh];simp only[fnA];apply Bj;intro j;rw[Az,Cd,Ao];simp only[Ar,A6,Da,Bq (show i<=n by omega)]
 by_cases H:j<i
 ·rw[Ab H,Bv,Ab H,Ao,Bs Oo];simp[updF,show j≠i by omega,show j≠i+1 by omega]
 ·rw[Aa H]
  by_cases U:j=i
  ·subst U;rw[BD,Bs Oo];simp[updF]
  ·by_cases V:j=i+1
   ·subst V;rw[BE,Bs Oo];simp[updF]
   ·obtain⟨d,rfl⟩:∃d,j=i+2+d:=⟨j-(i+2),by omega⟩
    rw[show i+2+d-i=d+1+1 by omega];simp only[AG,Bi,B7,BZ,Ao]
    by_cases W:i+2+d<n
    ·rw[Bs W];simp[updF,show i+2+d≠i by omega,show i+2+d≠i+1 by omega]
    ·rw[AY Ys];rfl
theorem qaet{v:DF}{e:DD}{H:Nat}{n:Nat}{F:Nat->Int}{t:DD}{x:Int}{K:DI}(h:Rw w0 w v e H m xs L)(hi:L[i]?=some (b,.cells (fnA n (inF F)) t))(j:Nat)(U:off=j)(V:j<n)(W:∀w',Rw w0 w' v e H m xs (L.set i (b,.cells (fnA n (inF (updI F j x))) t))->K w'):StoreV w b off (ii x) K:=by
 subst U;refine StoreV.own (h.mem.get (zmg hi)) (by rw[qp];exact V) rfl λw' Z=>W w' ?_;have:=Rw.setCell h hi Z
 rwa[qiy,q64]at this
def idsC(l:LB)(i:Nat):DK:=[ii (tNum l i 0),ii (tNum l i 1),ii (tNum l i 2),ii (tNum l i 3)]
def idsL(l:LB)(n:Nat):DK:=((List.range n).map (idsC l)).flatten
theorem qz7(l:LB)(k H:Nat):(numE l k H).1<=l.length:=by
 unfold numE
 split
 ·exact qco l k
 ·split
  ·exact qco l k
  ·exact Af _
theorem qo6{f:Nat->Nat×Nat}{B:Nat}:∀n,(∀k,k<n->(f k).1<=B)->(errF f n).1<=B
 | 0,_=>Af _
 | n+1,h=>by
  rw[errF]
  split
  ·exact qo6 n λk H=>h k Oo
  ·exact h n Oo
theorem qah5(l:LB):(tE l).1<=l.length:=by
 have H:∀k,(tcF l k).1<=l.length:=λk=>by
  have:=qz7 l k 1048576;have:=qco l k;unfold tcF
  split
  ·assumption
  ·split
   ·assumption
   ·exact Af _
 have U:∀k,(tvF l k).1<=l.length:=λk=>by
  unfold tvF
  split
  ·exact Ai _
  ·split
   ·show tvAt l k<=_;omega
   ·split
    ·exact Ai _
    ·exact Af _
 unfold tE
 split
 ·exact qo6 4 λk _=>H k
 ·split
  ·exact qo6 4 λk _=>U k
  ·split
   ·show tvAt l 4<=_;omega
   ·exact Af _
def TopR(l:LB)(base:Nat)(v:DF)(w:DA):Prop:=
 ((toE l).2≠0/\(toE l).1<=1125899906842624/\v=.tuple #[.slice none 0 0,fltV (toE l).1 (toE l).2])\/
 ((toE l).2=0/\(∀k,1<=k->k<=3->LvlV l k)/\∃B c,v=.tuple #[.slice B (vNum l 3) c,fltV 0 0]/\w.ownsRow base 95 4 (.slice B (vNum l 3) c) (vNum l 3) (idsL l (vNum l 3)))
theorem TopR.err{base:Nat}{e:Nat}{x y:Int}(h:toE l=(a,e))(H:e≠0)(U:a<=1125899906842624)(V:x=a)(W:y=e):TopR l base (.tuple #[.slice none 0 0,.agg #[ii x,ii y]]) w:=by
 subst V W;refine .inl ?_;rw[h];exact⟨H,U,rfl⟩
theorem qahz:DM.underlying 93=some (.slice 95):=Tryz.underlying93
theorem idsI:DM.info? 95=some ((DM.info? 95).get Jk):=(Bd _).symm
theorem idsZ:((DM.info? 95).get Jk).zero=some ((((DM.info? 95).get Jk).zero).get Jk):=(Bd _).symm
theorem q6q(l:LB)(A:oA)(c:Nat)(w:DA)(hS:SlAt encB 1 w A l)(hc:l.length<=c)(hl:l.length<=67108864):
  Gv DM 98 [.slice A l.length c] w λv w'=>TopR l w.heap.size v w'/\Ext w w':=by
 have bj:=λk F w' (bk:SlAt encB 1 w' A l)=>q0c l A c k F w' bk hc hl
 refine ze Tryz.func98 Tryz.ntmps98 ?_;refine znm (Mem.nil w) λr3 w1 H=>zw ?_;refine zcv (qtd l A _ c w1 (hS.ext H.ext) rfl hc Oo) ?_;rintro r w2 ⟨hT,bl⟩;have H:=H.call bl
 rcases hT with⟨hE,F,rfl⟩|⟨hE,F,hF,rfl⟩
 ·(conv=>whnf);refine znm H λW w3 H=>zw ?_;refine znm H λfb w4 H=>zw ?_;refine StoreA.all H (i:=1) rfl (by simp[qp]) (qa4 13 F) λw5 H=>zw ?_;refine zS H 0 λw6 H=>zw ?_;refine zr H 0 ?_;refine zv ?_;refine DrawV.inv (λS w'=>Mem w w' ([(fb,.cells #[ii (tE l).1,ii (tE l).2] 120),(W,.cells (fnA 13 (inF F)) 118),(r3,.cells (bif S 2 then #[ii (tE l).1,ii (tE l).2]else #[ii 0,ii 0]) 120)])) rfl Jk H.drew ?_;clear H;(conv=>whnf);refine zLi ?_;refine zi ?_;refine zSi ?_;intro wz H;have H:Mem w wz ([(fb,.cells #[ii (tE l).1,ii (tE l).2] 120),(W,.cells (fnA 13 (inF F)) 118),(r3,.cells #[ii (tE l).1,ii (tE l).2] 120)]):=H;(conv=>whnf);refine qd (R:=λv w'=>TopR l w.heap.size v w'/\Ext w w') (zw ?_);refine zl H 2 ?_;exact⟨.err (a:=(tE l).1) (e:=(tE l).2) (qahd hE) hE (by have:=qah5 l;omega) rfl rfl,H.ext⟩
 (conv=>whnf);refine znm H λW w3 H=>zw ?_;refine znm H λfb w4 H=>zw ?_;refine StoreA.all H (i:=1) rfl (by simp[qp]) (qa4 13 F) λw5 H=>zw ?_;refine zS H 0 λw6 H=>zw ?_;refine zr H 0 ?_;refine zv ?_;refine znm H ?_;intro lv w7 H;have H:Mem w w7 [(lv,.cells (fnA 8 λ_=>.slice none 0 0) 172),(fb,.cells #[ii 0,ii 0] 120),(W,.cells (fnA 13 (inF F)) 118),(r3,.cells #[ii 0,ii 0] 120)]:=H;(conv=>whnf);refine qq (λk:Nat=>[(0,.slice A l.length c),(3,pp r3),(4,pp W),(6,pp lv),(7,ii k)])
  (λk w'=>k<=4/\∃G R,Mem w w' ((lv,.cells (fnA 8 G) 172)::(fb,.cells #[ii 0,ii 0] 120)::(W,.cells (fnA 13 (inF F)) 118)::(r3,.cells #[ii 0,ii 0] 120)::R)/\(∀m,m<k->(lvE l m).2=0)/\∀m,m<k->LevV l m (G (2*m)) (G (2*m+1)) R) (λk=>4-k) 0
  fq ⟨by omega,_,[],H,λm h=>by omega,λm h=>by omega⟩ ?_
 clear H;rintro k w8 bz ⟨k1,G,R,H,aq,hG⟩;(conv=>whnf);refine zC (λ_=>zw ?_) (λ_=>zw ?_)
 ·refine LoadA.mem H (i:=2) rfl (by simp[qp];rfl) (zw ?_);refine zcv (bj k F w8 (hS.ext H.ext) hF hE Oo) ?_;rintro r w9 (⟨hx,ar,a9,A1,n1,c1,A2,n2,c2,rfl⟩|⟨bm,bn,A1,ca,B,nb,cb,R2,bs,rfl,ba,af,ag,ak⟩)
  ·have H:=H.call hx;have au:=qah9 hE aq Oo ar;obtain⟨a,ea⟩:∃a:Nat,a=(lvE l k).1:=⟨_,rfl⟩
   obtain⟨e,ee⟩:∃e:Nat,e=(lvE l k).2:=⟨_,rfl⟩
   have au:toE l=(a,e):=by rw[au,ea,ee]
   rw[<-ea]at a9;rw[<-ea,<-ee];rw[<-ee]at ar;have bu:(e:Int)≠0:=by omega
   unfold fltV;(conv=>whnf);refine znm H λeb av H=>zw ?_;refine znm H λgb al H=>zw ?_;refine zS H 1 λaw H=>zw ?_;refine zS H 0 λam H=>zw ?_;refine zr H 0 ?_;refine zv ?_;refine DrawV.inv (λS w'=>Mem w w' ((gb,.cells #[ii a,ii e] 120)::(eb,.cells #[.slice A1 n1 c1,.slice A2 n2 c2] 171)::(lv,.cells (fnA 8 G) 172)::(fb,.cells #[ii 0,ii 0] 120)::(W,.cells (fnA 13 (inF F)) 118)::(r3,.cells (bif S 2 then #[ii a,ii e]else #[ii 0,ii 0]) 120)::R)) rfl Jk H.drew ?_;clear H;(conv=>whnf);refine zLi ?_;refine zi ?_;refine zSi ?_;intro wz H;have H:Mem w wz ((gb,.cells #[ii a,ii e] 120)::(eb,.cells #[.slice A1 n1 c1,.slice A2 n2 c2] 171)::(lv,.cells (fnA 8 G) 172)::(fb,.cells #[ii 0,ii 0] 120)::(W,.cells (fnA 13 (inF F)) 118)::(r3,.cells #[ii a,ii e] 120)::R):=H;(conv=>whnf);refine qd (R:=λv w'=>TopR l w.heap.size v w'/\Ext w w') (zw ?_);refine zl H 5 ?_;exact⟨.err au ar a9 rfl rfl,H.ext⟩
  ·have H:=qx7 H ba;have H:Mem w w9 ((lv,.cells (fnA 8 G) 172)::(fb,.cells #[ii 0,ii 0] 120)::(W,.cells (fnA 13 (inF F)) 118)::(r3,.cells #[ii 0,ii 0] 120)::(R++R2)):=H;have bb:∀m,m<k->LevV l m (G (2*m)) (G (2*m+1)) (R++R2):=λm h=>(hG m h).keep λx hx=>Ah _ hx
   have bd:LevV l k (.slice A1 (vNum l k) ca) (.slice B nb cb) (R++R2):=⟨bn,A1,ca,B,nb,cb,bs,rfl,rfl,V.RowB.left af,V.RowB.left ag,ak⟩
   clear ba af ag hG;generalize R++R2=R3 at H bb bd;(conv=>whnf);refine znm H λeb av H=>zw ?_;refine znm H λgb al H=>zw ?_;refine zS H 1 λaw H=>zw ?_;refine zS H 0 λam H=>zw ?_;refine zr H 0 ?_;refine zv ?_;refine zl H 1 ?_;refine zv ?_;rw[show tsz DM 171=2 from by kernel_rfl,show 0+k*2=2*k by omega];refine StoreA.mem H (i:=2) rfl (by rw[qp];show 2*k+2<=8;omega) (by simp[Value.oneCell']) ?_;intro ax H;have H:Mem w ax ((gb,.cells #[ii 0,ii 0] 120)::(eb,.cells #[.slice A1 (vNum l k) ca,.slice B nb cb] 171)::(lv,.cells (fnA 8 (updF (updF G (2*k) (.slice A1 (vNum l k) ca)) (2*k+1) (.slice B nb cb))) 172)::(fb,.cells #[ii 0,ii 0] 120)::(W,.cells (fnA 13 (inF F)) 118)::(r3,.cells #[ii 0,ii 0] 120)::R3):=by
    rw[<-qac4 8 G (2*k) _ _ Oo];exact H
   have H:=(H.sub (Ak ..)).sub (Ak ..);refine zu ?_;refine⟨k+1,fq,⟨by omega,_,_,H,λm h=>(by
    by_cases e:m=k
    ·subst e;exact bm
    ·exact aq m Oo),λm h=>?_⟩,by omega⟩
   by_cases e:m=k
   ·subst e;rw[qad _ _ _ _ Oo,qb1,qb1];exact bd
   ·rw[qad _ _ _ _ Oo,qad _ _ _ _ Oo,qad _ _ _ _ Oo,qad _ _ _ _ Oo];exact bb m Oo
 obtain rfl:k=4:=by omega
 have hL:∀k,1<=k->k<=3->LvlV l k:=λk h1 h2=>(hG k Oo).1 Oo
 obtain⟨hz,hv⟩:=qjz hE;have b0:=qia (hz 3 Oo);refine znm H ?_;intro ab w9 H;have H:Mem w w9 ((ab,.cells (fnA 4 (inF λ_=>0)) 94)::(lv,.cells (fnA 8 G) 172)::(fb,.cells #[ii 0,ii 0] 120)::(W,.cells (fnA 13 (inF F)) 118)::(r3,.cells #[ii 0,ii 0] 120)::R):=H;(conv=>whnf);refine qq (λx:Nat×(Nat->Int)×oA×Nat=>[(3,pp r3),(4,pp W),(6,pp lv),(10,.slice x.2.2.1 x.1 x.2.2.2),(11,pp ab),(12,ii x.1)])
  (λx w'=>x.1<=vNum l 3/\(∀m,m<3->x.2.1 m=((tUp l x.1 (3-m):Nat):Int))/\Rw w w' (.slice x.2.2.1 x.1 x.2.2.2) 95 4 x.1 (idsL l x.1) ((ab,.cells (fnA 4 (inF x.2.1)) 94)::(lv,.cells (fnA 8 G) 172)::(fb,.cells #[ii 0,ii 0] 120)::(W,.cells (fnA 13 (inF F)) 118)::(r3,.cells #[ii 0,ii 0] 120)::R)) (λx=>vNum l 3-x.1) (0,(λ_=>0),none,0)
  fq ⟨Af _,λm _=>by rw[qqu];rfl,Rw.nil H⟩ ?_
 clear H;rintro⟨i,a,B,cc⟩ av b1 ⟨i1,ha,U⟩;dsimp only at i1 ha U|-;have H:=U.mem;(conv=>whnf);refine zJ 3 ?_;(conv=>whnf);refine LoadV.fi (x:=((vNum l 3:Nat):Int)) H (i:=3) rfl 3 (by rw[show tsz DM 3=1 from by kernel_rfl];rfl) Oo (hF.c 3 Oo) ?_;clear H;conv=>whnf
 (repeat'(first|refine zC (λ_=>zw ?_) (λ_=>zw ?_)|(refine zJ 3 ?_;(conv=>whnf))))
 ·refine qaet U (i:=0) rfl 3 (by rw[show tsz DM 3=1 from by kernel_rfl]) Oo ?_;clear U;intro al U;obtain⟨a',ea⟩:∃a',a'=updI a 3 (i:Nat):=⟨_,rfl⟩
  have ay:∀m,m<4->a' m=((tUp l i (3-m):Nat):Int):=λm h=>by
   by_cases e:m=3
   ·subst e;rw[ea,qck];rfl
   ·rw[ea,qao _ _ _ _ e];exact ha m Oo
  have U:Rw w al (.slice B i cc) 95 4 i (idsL l i) ((ab,.cells (fnA 4 (inF a')) 94)::(lv,.cells (fnA 8 G) 172)::(fb,.cells #[ii 0,ii 0] 120)::(W,.cells (fnA 13 (inF F)) 118)::(r3,.cells #[ii 0,ii 0] 120)::R):=by rw[ea];exact U
  clear ha ea;(conv=>whnf);refine NewV.rw U ?_;clear U;intro qb aw U;have U:Rw w aw (.slice B i cc) 95 4 i (idsL l i) ((qb,.cells (fnA 4 (inF λ_=>0)) 95)::(ab,.cells (fnA 4 (inF a')) 94)::(lv,.cells (fnA 8 G) 172)::(fb,.cells #[ii 0,ii 0] 120)::(W,.cells (fnA 13 (inF F)) 118)::(r3,.cells #[ii 0,ii 0] 120)::R):=U;(conv=>whnf);refine qq (λx:Nat×(Nat->Int)=>[(3,pp r3),(4,pp W),(6,pp lv),(10,.slice B i cc),(11,pp ab),(12,ii i),(13,pp qb),(14,ii x.1)])
   (λx w'=>x.1<=4/\(∀m,m<x.1->x.2 m=((tNum l i m:Nat):Int))/\Rw w w' (.slice B i cc) 95 4 i (idsL l i) ((qb,.cells (fnA 4 (inF x.2)) 95)::(ab,.cells (fnA 4 (inF a')) 94)::(lv,.cells (fnA 8 G) 172)::(fb,.cells #[ii 0,ii 0] 120)::(W,.cells (fnA 13 (inF F)) 118)::(r3,.cells #[ii 0,ii 0] 120)::R)) (λx=>4-x.1) (0,λ_=>0)
   fq ⟨by simp,λm h=>by simp at h,U⟩ ?_
  clear U;rintro⟨k,q⟩ am b2 ⟨k1,hq,U⟩;dsimp only at k1 hq U|-;(conv=>whnf);refine zC (λ_=>zw ?_) (λ_=>zw ?_)
  ·obtain⟨az,A1,ca,B1,nb,cb,bs,a0,a1,af,ag,ak⟩:=hG k Oo;obtain⟨z1,z2,z3⟩:=qoh (hv k Oo);have b3:=qia (hz k Oo);have aa:=qgs hL (show i<vNum l 3 by omega) (3-k) Oo;rw[show 3-(3-k)=k by omega]at aa;have be:=ay k Oo;have a2:tNum l i k=numP (qh l k) (tw l k) (tUp l i (3-k)):=rfl;obtain⟨y,ey⟩:∃y,y=tUp l i (3-k):=⟨_,rfl⟩
   rw[<-ey]at aa be a2;have a3:(unpN (qh l k) (vNum l k) (tw l k))[y]'(by rw[qbz];exact aa)=tNum l i k:=by
    rw[a2,qkn _ _ _ Oo];simp[unpN]
   have bf:tNum l i k<8388608:=by
    rw[<-a3];exact Bu (q6z (AK ..)) (Bg Od z2:2 ^ tw l k<=2 ^ 23)
   obtain⟨x,ex⟩:∃x,x=tNum l i k:=⟨_,rfl⟩
   rw[<-ex]at a3 bf;rw[a0]at af;have H:=U.mem;have hC:SlAt encU 1 am A1 (unpN (qh l k) (vNum l k) (tw l k)):=V.RowB.slf (f:=λx:Nat=>Value.int .u64 (x:Int)) (λ_=>rfl) af H (λx hx=>by simp[hx]);clear a2 ey;refine DrawV.own rfl Jk (zw ?_);refine zo ?_;refine zo ?_;apply StepO.still
   ·intro wd hd;(conv=>whnf);refine IdxV.at_ k Oo Oo (zw ?_);exact PostO.still xr rfl
   (conv=>whnf);refine zo ?_;apply StepO.still
   ·intro wd hd;(conv=>whnf);refine LoadV.fn (v:=.slice A1 (vNum l k) ca) (Mem.call (Mem.drew H) hd) (i:=2) rfl (2*k) (by rw[show tsz DM 171=2 from by kernel_rfl];dsimp only;omega) Oo a0 (zw ?_);exact PostO.still xr rfl
   (conv=>whnf);refine zo ?_;apply StepO.still
   ·intro wd hd;(conv=>whnf);refine IdxV.at_ k Oo Oo (zw ?_);exact PostO.still xr rfl
   (conv=>whnf);apply StepO.still
   ·intro wd hd;(conv=>whnf);refine LoadV.fi (x:=((y:Nat):Int)) (Mem.call (Mem.drew H) hd) (i:=1) rfl k (by rw[show tsz DM 3=1 from by kernel_rfl];omega) Oo be (zw ?_);exact PostO.still xr rfl
   (conv=>whnf);obtain⟨gb,go,bo,bp⟩:=hC.at_ (by intro e;have:=Ad List.length e;rw[qbz]at this;simp at this;omega);subst bo;apply StepO.still
   ·intro wd hd;(conv=>whnf);refine⟨⟨gb,go,y,rfl,by omega,by omega,?_⟩⟩;(conv=>whnf);exact PostO.still xr rfl
   (conv=>whnf);have Z:am.cell? ⟨gb,go+y*1,none⟩=some (.int .u64 x):=by
    have:=bp y _ (zge (by rw[qbz];exact aa)) 0 (.int .u64 x) (by rw[a3];rfl)
    rwa[Bt]at this
   apply StepO.still
   ·intro wd hd;(conv=>whnf);refine LoadV.of (Ext.cell (Ext.trans xr.drew hd) Z) (zw ?_);exact PostO.still xr rfl
   (conv=>whnf);refine zo ?_;apply StepO.still
   ·intro wd hd;(conv=>whnf);refine IdxV.at_ k Oo Oo (zw ?_);exact PostO.still xr rfl
   (conv=>whnf);intro ax bg
   (repeat(intro _;(conv=>whnf)))
   (conv=>whnf);refine qaet (U.drew.call bg) (i:=0) rfl k (by rw[show tsz DM 3=1 from by kernel_rfl];omega) Oo ?_;intro a4 U;have U:Rw w a4 (.slice B i cc) 95 4 i (idsL l i) ((qb,.cells (fnA 4 (inF (updI q k x))) 95)::(ab,.cells (fnA 4 (inF a')) 94)::(lv,.cells (fnA 8 G) 172)::(fb,.cells #[ii 0,ii 0] 120)::(W,.cells (fnA 13 (inF F)) 118)::(r3,.cells #[ii 0,ii 0] 120)::R):=U;refine zu ?_;refine⟨(k+1,updI q k x),fq,⟨by simp only;omega,λm h=>?_,U⟩,by simp only;omega⟩;dsimp only at h|-
   by_cases e:m=k
   ·subst e;rw[qck,ex]
   ·rw[qao _ _ _ _ e];exact hq m Oo
  obtain rfl:k=4:=by omega
  have bh:(fnA 4 (inF q)).toList=idsC l i:=by
   simp only[fnA,idsC];show[ii (q 0),ii (q 1),ii (q 2),ii (q 3)]=_;rw[hq 0 Oo,hq 1 Oo,hq 2 Oo,hq 3 Oo]
  refine LoadA.mem U.mem (i:=0) rfl (by simp[qp];rfl) ?_;rw[bh];(conv=>whnf);refine NewV.rw U λnb ax U=>zw ?_;refine AppV.rw (m:=1) (news:=idsC l i) qahz idsI idsZ Jk Jk Od U rfl (λ_=>⟨nb,0,rfl,λk v hv=>?_⟩) (by simp[idsC,Value.oneCell']) (by rw[show((DM.info? 95).get Jk).bytes=32 from by kernel_rfl];omega) Oo ?_
  ·rw[qa (U.mem.get mh),As];rw[An];exact hv
  clear U;intro B2 c2 a4 U;have U:Rw w a4 (.slice B2 (i+1) c2) 95 4 (i+1) (idsL l (i+1)) ((ab,.cells (fnA 4 (inF a')) 94)::(lv,.cells (fnA 8 G) 172)::(fb,.cells #[ii 0,ii 0] 120)::(W,.cells (fnA 13 (inF F)) 118)::(r3,.cells #[ii 0,ii 0] 120)::R):=by
   have e:idsL l (i+1)=idsL l i++idsC l i:=by simp[idsL,Cn]
   rw[e];exact U.tail.tail
  (conv=>whnf);refine qq (λx:Nat×(Nat->Int)=>[(3,pp r3),(4,pp W),(6,pp lv),(10,.slice B2 (i+1) c2),(11,pp ab),(12,ii i),(15,ii x.1),(16,ii (tUp l i (3-x.1):Nat))])
   (λx w'=>x.1<=3/\tUp l (i+1) (3-x.1)=tUp l i (3-x.1)+1/\(∀m,x.1<=m->m<3->x.2 m=((tUp l (i+1) (3-m):Nat):Int))/\(∀m,m<x.1->x.2 m=((tUp l i (3-m):Nat):Int))/\Rw w w' (.slice B2 (i+1) c2) 95 4 (i+1) (idsL l (i+1)) ((ab,.cells (fnA 4 (inF x.2)) 94)::(lv,.cells (fnA 8 G) 172)::(fb,.cells #[ii 0,ii 0] 120)::(W,.cells (fnA 13 (inF F)) 118)::(r3,.cells #[ii 0,ii 0] 120)::R)) (λx=>x.1) (3,a')
   fq ⟨Ai _,rfl,λm h1 h2=>by omega,λm h=>ay m Oo,U⟩ ?_
  clear U ay hq bh;rintro⟨k,a⟩ bq b4 ⟨k1,hu,h1,h2,U⟩;dsimp only at k1 hu h1 h2 U|-;have an:i<vNum l 3:=by omega
  (conv=>whnf);refine zC (λ_=>zu ?_) (λ_=>zu ?_)
  ·obtain⟨az,A1,ca,B1,b5,cb,bs,a0,a1,af,ag,ak⟩:=hG k Oo;obtain⟨rfl,rfl⟩:=ak Oo;have aa:=qgs hL an (3-k) Oo;rw[show 3-(3-k)=k by omega]at aa;have az:=hL k Oo k1;have ad:=qmw hL an (show 3-k<3 by omega) hu;have ae:=qkv hL an (show 3-k<3 by omega) hu;rw[show 3-(3-k)=k by omega]at ad ae;have ai:∀m,m<k->tUp l (i+1) (3-k+1)=tUp l i (3-k+1)->tUp l (i+1) (3-m)=tUp l i (3-m):=λm ah h=>qkw h Oo
   have a5:a (k-1)=((tUp l i (3-k+1):Nat):Int):=by rw[h2 (k-1) Oo,show 3-(k-1)=3-k+1 by omega]
   obtain⟨y,ey⟩:∃y,y=tUp l i (3-k):=⟨_,rfl⟩
   rw[<-ey]at aa ad ae;have b6:y<(bitL (qf l k) (vNum l k)).length:=by simp[bitL];exact aa
   obtain⟨b,W⟩:∃b,b=(bitL (qf l k) (vNum l k))[y]:=⟨_,rfl⟩
   have bi:b=decide (bitN ((qf l k).drop 8) y=1):=by
    rw[W];simp only[bitL,Cx,Dy];rw[vD,qcz];rw[az.n];unfold upN;omega
   rw[a1]at ag;have hB:SlAt encO 1 bq B1 (bitL (qf l k) (vNum l k)):=V.RowB.slf (f:=Value.bool) (λ_=>rfl) ag U.mem (λx hx=>by simp[hx]);refine LoadV.fn (v:=.slice B1 (vNum l k) cb) U.mem (i:=1) rfl (2*k+1) (by rw[show tsz DM 171=2 from by kernel_rfl];dsimp only;omega) Oo a1 (zw ?_);rw[<-ey];refine zv ?_;refine ElemV.sl hB (by simp[bitL]) y rfl aa ?_;intro eb eo Z;rw[<-W]at Z;refine zu ?_;refine LoadV.cell0 Z (zu ?_);cases b
   ·have a6:=of_decide_eq_false bi.symm;have br:=ae a6;refine zu ?_;refine⟨(i+1,a,B2,c2),fq,⟨by simp only;omega,λm ah=>?_,U⟩,by simp only;omega⟩;dsimp only
    rcases AN m k with ao|ao
    ·rw[h2 m ao,ai m ao br]
    ·exact h1 m ao ah
   ·have a6:=BR bi.symm;have a7:=ad a6;obtain⟨z,ez⟩:∃z,z=tUp l i (3-k+1):=⟨_,rfl⟩
    have b7:z<vNum l (k-1):=by
     have:=qgs hL an (3-k+1) Oo;rw[ez]
     rwa[show 3-(3-k+1)=k-1 by omega]at this
    have bw:=qia (hz (k-1) Oo);rw[<-ez]at a5 a7;clear Z W ad ae ai;refine zu ?_;refine IdxV.at_ (k-1) Oo Oo (zw ?_);refine LoadV.fi (x:=((z:Nat):Int)) U.mem (i:=0) rfl (k-1) (by rw[show tsz DM 3=1 from by kernel_rfl];omega) Oo a5 (zu ?_);refine IdxV.at_ (k-1) Oo Oo (zw ?_);refine LoadV.fi (x:=((z:Nat):Int)) U.mem (i:=0) rfl (k-1) (by rw[show tsz DM 3=1 from by kernel_rfl];omega) Oo a5 (zu ?_);refine IdxV.at_ (k-1) Oo Oo (zw ?_);refine qaet (x:=((z:Nat):Int)+1) U (i:=0) rfl (k-1) (by rw[show tsz DM 3=1 from by kernel_rfl];omega) Oo ?_;clear U;intro bt U;have U:Rw w bt (.slice B2 (i+1) c2) 95 4 (i+1) (idsL l (i+1)) ((ab,.cells (fnA 4 (inF (updI a (k-1) (((z:Nat):Int)+1)))) 94)::(lv,.cells (fnA 8 G) 172)::(fb,.cells #[ii 0,ii 0] 120)::(W,.cells (fnA 13 (inF F)) 118)::(r3,.cells #[ii 0,ii 0] 120)::R):=U;refine zu ?_;have e3:3-(k-1)=3-k+1:=by omega
    refine⟨(k-1,updI a (k-1) (((z:Nat):Int)+1)),⟨rfl,rfl,rfl,rfl,rfl,rfl,?_,?_,trivial⟩,⟨by simp only;omega,?_,λm a8 ah=>?_,λm a8=>?_,U⟩,by simp only;omega⟩
    ·exact Ad (Value.int .i64) (by simp only;omega)
    ·exact Ad (λn:Nat=>ii (n:Int)) (by simp only;rw[e3];exact ez)
    ·simp only;rw[e3,a7,ez]
    ·dsimp only at a8|-
     by_cases e:m=k-1
     ·subst e;rw[qck,e3,a7];omega
     ·rw[qao _ _ _ _ e];exact h1 m Oo ah
    ·dsimp only at a8|-;rw[qao _ _ _ _ Oo];exact h2 m Oo
  ·obtain rfl:k=0:=by omega
   refine⟨(i+1,a,B2,c2),fq,⟨by simp only;omega,λm ah=>?_,U⟩,by simp only;omega⟩;exact h1 m (Af _) ah
 ·obtain rfl:i=vNum l 3:=by omega
  refine StoreA.same (U.mem.get (L:=_) Js:av.heap[r3]?=some (.cells #[ii 0,ii 0] 120)) rfl Od λal aj=>zw ?_;refine qd (R:=λv w'=>TopR l w.heap.size v w'/\Ext w w') (zw ?_);refine LoadA.mem (U.mem.call aj) (i:=4) rfl rfl (zw ?_);exact⟨.inr ⟨qabt hE aq,hL,B,cc,rfl,qb5 U.own aj⟩,U.mem.ext.trans aj⟩
structure Al(w0:DA)(L:DJ)(o1 o1' o2 o2':Obj)(s1 s2 t1 t2:Bool)(v1 v2:DF)(w:DA):Prop where
 h:∃b1 b2:Nat,(s1=true->v1=pp b1)/\(s2=true->v2=pp b2)/\(s1=false->t1=false)/\(s2=false->t2=false)/\
  Mem w0 w ((bif s1 then[(b1,bif t1 then o1' else o1)]else[])++((bif s2 then[(b2,bif t2 then o2' else o2)]else[])++L))
section
variable {w0 w w':DA} {L:DJ} {o1 o1' o2 o2':Obj} {s1 s2 t1 t2:Bool} {v1 v2:DF}
theorem Al.start(h:Mem w0 w L):Al w0 L o1 o1' o2 o2' false false false false v1 v2 w:=⟨0,0,Js,Js,λ_=>rfl,λ_=>rfl,h⟩
theorem Al.call(h:Al w0 L o1 o1' o2 o2' s1 s2 t1 t2 v1 v2 w)(H:Ext w w'):Al w0 L o1 o1' o2 o2' s1 s2 t1 t2 v1 v2 w':=by
 obtain⟨b1,b2,U,V,W,Z,h5⟩:=h;exact⟨b1,b2,U,V,W,Z,h5.call H⟩
theorem Al.mem(h:Al w0 L o1 o1' o2 o2' s1 s2 t1 t2 v1 v2 w):Mem w0 w L:=by
 obtain⟨b1,b2,U,V,W,Z,H⟩:=h;exact H.sub Js
theorem Al.new1(h:Al w0 L o1 o1' o2 o2' false s2 t1 t2 v1 v2 w):Al w0 L o1 o1' o2 o2' true s2 t1 t2 (.pointer (some ⟨w.heap.size,0,none⟩)) v2 (w.alloc o1):=by
 obtain⟨b1,b2,Z,H,U,V,W⟩:=h;refine⟨w.heap.size,b2,λ_=>rfl,H,Js,V,?_⟩;rw[U rfl];exact W.new rfl rfl
theorem Al.new2(h:Al w0 L o1 o1' o2 o2' s1 false t1 t2 v1 v2 w):Al w0 L o1 o1' o2 o2' s1 true t1 t2 v1 (.pointer (some ⟨w.heap.size,0,none⟩)) (w.alloc o2):=by
 obtain⟨b1,b2,H,h2,U,V,W⟩:=h;refine⟨b1,w.heap.size,H,λ_=>rfl,U,Js,?_⟩;rw[V rfl];have Z:Mem w0 (w.alloc o2) ((w.heap.size,o2)::((bif s1 then[(b1,bif t1 then o1' else o1)]else[])++L)):=W.new rfl rfl;exact Z.perm Js
theorem Al.put1(h:Al w0 L o1 o1' o2 o2' true s2 false t2 v1 v2 w):∃b,v1=pp b/\∃M,Mem w0 w ((b,o1)::M)/\∀{w' H},Mem w0 w' ((b,o1')::M)->H=pp b->Al w0 L o1 o1' o2 o2' true s2 true t2 H v2 w':=by
 obtain⟨b1,b2,U,V,h3,W,Z⟩:=h;exact⟨b1,U rfl,_,Z,λhm hu=>⟨b1,b2,λ_=>hu,V,Js,W,hm⟩⟩
theorem Al.put2(h:Al w0 L o1 o1' o2 o2' s1 true t1 false v1 v2 w):∃b,v2=pp b/\∃M,Mem w0 w ((b,o2)::M)/\∀{w' H},Mem w0 w' ((b,o2')::M)->H=pp b->Al w0 L o1 o1' o2 o2' s1 true t1 true v1 H w':=by
 obtain⟨b1,b2,U,V,W,h4,Z⟩:=h;refine⟨b2,V rfl,(bif s1 then[(b1,bif t1 then o1' else o1)]else[])++L,Z.perm Bb.symm,λhm hu=>⟨b1,b2,U,λ_=>hu,W,Js,hm.perm Bb⟩⟩
theorem Al.done2(h:Al w0 L o1 o1' o2 o2' true true true true v1 v2 w):∃b1 b2,v1=pp b1/\v2=pp b2/\Mem w0 w ((b1,o1')::(b2,o2')::L):=by
 grind [h]
theorem Al.done1(h:Al w0 L o1 o1' o2 o2' true false true t2 v1 v2 w):∃b1,v1=pp b1/\Mem w0 w ((b1,o1')::L):=by
 grind [h]
end
theorem LoadV.fim{n:Nat}{F:Nat->Int}{t:DD}{x:Int}{K:DF->Prop}(h:Mem w0 w L)(hi:(b,Obj.cells (fnA n (inF F)) t)∈L)(j:Nat)(e:off=j)(H:j<n)(U:F j=x)(V:K (ii x)):LoadV w b off K:=by
 obtain⟨i,hi⟩:=List.getElem?_of_mem hi;exact LoadV.fi h hi j e H U V
def VwR(l:LB)(r:DF):Prop:=
 ((wE l).2≠0/\∃G:Nat->Int,r=.tuple #[.agg (fnA 3 (inF G)),fltV (wE l).1 (wE l).2])\/
 ((wE l).2=0/\∃G:Nat->Int,(∀k,k<3->G k=((dN (sDict l k):Nat):Int))/\r=.tuple #[.agg (fnA 3 (inF G)),fltV 0 0])
theorem qyu(h:(sE l).2=0):(∀k,k<3->vNum l k<=67108864)/\qj l 3=l.length:=by
 unfold sE at h
 split at h
 ·omega
 rename_i U
 split at h
 ·cases h
 rename_i V
 split at h
 ·cases h
 rename_i W
 exact⟨λk H=>qc3 (qas (f:=vsF l) (n:=3) Oo k H),by omega⟩
theorem qeh(h:qj l 3=l.length)(H:k<3):qj l k+vNum l k<=l.length:=by
 grind [qj]
theorem qmf(h:qj l 3=l.length)(H:k<3):(sDict l k).length=vNum l k:=by
 have:=qeh h H
 grind [sDict]
theorem qwk(l:LB)(A:oA)(c:Nat)(w:DA)(hS:SlAt encB 1 w A l)(hc:l.length<=c)(hl:l.length<=70368744177664):
  Gv DM 49 [.slice A l.length c] w λr w'=>VwR l r/\Ext w w':=by
 refine ze Tryz.func49 Tryz.ntmps49 ?_;refine znm (Mem.nil w) λr2 w1 V=>zw ?_;refine znm V λr3 w2 V=>zw ?_;refine znm V λnb w3 V=>zw ?_;refine zcv (qmp l A c w3 (hS.ext V.ext) hc hl) ?_;rintro r w4 ⟨⟨hE,P,rfl⟩|⟨hE,P,hP,rfl⟩,au⟩
 all_goals
  have V:=V.call au;(conv=>whnf);refine znm V λsb w5 V=>zw ?_;refine znm V λfb w6 V=>zw ?_;refine StoreA.all V (i:=1) rfl (by rfl) (qa4 4 P) λw7 V=>zw ?_;refine zS V 0 λw8 V=>zw ?_;refine zr V 0 ?_;refine zv ?_
 ·have hW:wE l=sE l:=by grind [wE]
  refine DrawV.inv (λS w'=>Mem w w' [(fb,.cells #[ii (sE l).1,ii (sE l).2] 55),(sb,.cells (fnA 4 (inF P)) 94),(nb,.cells (fnA 3 (inF (λ_:Nat=>(0:Int)))) 113),(r3,.cells (bif S 3 then #[ii (sE l).1,ii (sE l).2]else #[ii 0,ii 0]) 55),(r2,.cells (fnA 3 (inF (λ_:Nat=>(0:Int)))) 113)]) rfl Jk V.drew ?_;clear V;(conv=>whnf);refine StepI.of (.agg (fnA 3 (inF λ_=>0))) (λS wd W Z U=>zw ?_) (zw ?_)
  ·refine LoadA.mem U (i:=2) rfl (by simp[qp];rfl) (zw ?_);exact⟨rfl,U⟩
  refine zLi ?_;refine StepI.of undef (λS wd W Z U=>zw ?_) (zw ?_)
  ·refine StoreA.all U (i:=4) rfl (by rfl) (qa4 3 λ_=>0) λwx aa=>zw ?_;exact⟨rfl,aa⟩
  refine zSi ?_;intro wz V;have V:Mem w wz [(fb,.cells #[ii (sE l).1,ii (sE l).2] 55),(sb,.cells (fnA 4 (inF P)) 94),(nb,.cells (fnA 3 (inF (λ_:Nat=>(0:Int)))) 113),(r3,.cells #[ii (sE l).1,ii (sE l).2] 55),(r2,.cells (fnA 3 (inF (λ_:Nat=>(0:Int)))) 113)]:=V;(conv=>whnf);refine qd (R:=λr w'=>VwR l r/\Ext w w') (zw ?_);refine LoadA.mem V (i:=4) rfl (by simp[qp];rfl) (zw ?_);refine zl V 3 ?_;exact⟨.inl ⟨by simp_all,λ_=>0,by rw[hW];rfl⟩,V.ext⟩
 have V:Mem w w8 [(fb,.cells #[ii 0,ii 0] 55),(sb,.cells (fnA 4 (inF P)) 94),(nb,.cells (fnA 3 (inF (λ_:Nat=>(0:Int)))) 113),(r3,.cells #[ii 0,ii 0] 55),(r2,.cells (fnA 3 (inF (λ_:Nat=>(0:Int)))) 113)]:=V;obtain⟨av,aq⟩:=qyu hE;have hW:wE l=errF (sdF l) 3:=by grind [wE]
 refine qq (λx:Nat×(Nat->Int)=>[(0,.slice A l.length c),(2,pp r2),(3,pp r3),(4,pp nb),(5,pp sb),(6,pp fb),(7,ii x.1)])
  (λx w'=>x.1<=3/\(∀j,j<x.1->(sdF l j).2=0)/\(∀j,j<x.1->x.2 j=((dN (sDict l j):Nat):Int))/\Mem w w' [(fb,.cells #[ii 0,ii 0] 55),(sb,.cells (fnA 4 (inF P)) 94),(nb,.cells (fnA 3 (inF (x.2))) 113),(r3,.cells #[ii 0,ii 0] 55),(r2,.cells (fnA 3 (inF (λ_:Nat=>(0:Int)))) 113)]) (λx=>3-x.1) (0,λ_=>0)
  fq (by grind) ?_
 clear V;rintro⟨k,N⟩ w9 a3 ⟨k1,hz,hN,V⟩;dsimp only at k1 hz hN V|-;(conv=>whnf);refine zC (λ_=>zw ?_) (λ_=>zw ?_)
 ·have ak:=hP k Oo;have af:=hP (k+1) Oo;have aw:qj l (k+1)=qj l k+vNum l k:=rfl;have al:=qeh aq (k:=k) Oo;have ax:=qmf aq (k:=k) Oo;have ay:=av k Oo;obtain⟨y,ey⟩:∃y,y=qj l k:=⟨_,rfl⟩
  obtain⟨z,ez⟩:∃z,z=vNum l k:=⟨_,rfl⟩
  obtain⟨B,eB⟩:∃B,B=(if c=y then A else A.map (·.add (y*1))):=⟨_,rfl⟩
  have hB:SlAt encB 1 w B (sDict l k):=by
   rw[eB,sDict,<-ey];have:=hS.cut (lo:=y) (hi:=y+z) (m:=c) Oo Oo Oo rfl
   simp_all
  rw[aw,<-ey,<-ez]at af;rw[<-ey]at ak al;rw[<-ez]at al ay;have ad:=λw' (ag:SlAt encB 1 w' B (sDict l k))=>qub (sDict l k) B (c-y) w' ag Oo Oo
  rw[ax]at ad
  by_cases hD:(dE (sDict l k)).2=0
  ·have ad:∀w',SlAt encB 1 w' B (sDict l k)->Gv DM 105 [.slice B (vNum l k) (c-y)] w' λr ah=>r=.tuple #[.agg #[ii (dN (sDict l k):Nat),ii (qdc (sDict l k):Nat),ii (qag (sDict l k):Nat),ii (qg (sDict l k):Nat)],fltV 0 0]/\Ext w' ah:=λw' ag=>(ad w' ag).mono λr ah ⟨h1,h2⟩=>⟨h1.elim (λh=>absurd hD h.1) (λh=>h.2),h2⟩
   refine DrawV.gen (λS H w'=>Al w [(fb,.cells #[ii 0,ii 0] 55),(sb,.cells (fnA 4 (inF P)) 94),(nb,.cells (fnA 3 (inF (N))) 113),(r3,.cells #[ii 0,ii 0] 55),(r2,.cells (fnA 3 (inF (λ_:Nat=>(0:Int)))) 113)] (.cells #[ii 0,ii 0,ii 0,ii 0] 200) (.cells #[ii (dN (sDict l k):Nat),ii (qdc (sDict l k):Nat),ii (qag (sDict l k):Nat),ii (qg (sDict l k):Nat)] 200) (.cells #[ii 0,ii 0] 201) (.cells #[ii 0,ii 0] 201) (S 13) (S 14) (S 15) (S 16) (H 13) (H 14) w') rfl Jk (λH=>Al.start V.drew) ?_;clear V;(conv=>whnf);refine zg ?_;refine zg ?_;refine StepG.of (.pointer (some ⟨sb,0+(k)*tsz DM 3,none⟩)) (λS H wd W Z U=>zw ?_) (zw ?_)
   ·refine IdxV.at_ (k) Oo Oo (zw ?_);exact⟨rfl,U⟩
   refine StepG.of (ii (y:Nat)) (λS H wd W Z U=>zw ?_) (zw ?_)
   ·refine LoadV.fim (x:=((y:Nat):Int)) U.mem (b:=sb) (F:=P) (n:=4) (t:=94) Js (k) (by rw[show tsz DM 3=1 from by kernel_rfl];omega) Oo ak (zw ?_);exact⟨rfl,U⟩
   refine zg ?_;refine zg ?_;refine StepG.of (.pointer (some ⟨sb,0+(k+1)*tsz DM 3,none⟩)) (λS H wd W Z U=>zw ?_) (zw ?_)
   ·refine IdxV.at_ (k+1) Oo Oo (zw ?_);exact⟨rfl,U⟩
   refine StepG.of (ii (y+z:Nat)) (λS H wd W Z U=>zw ?_) (zw ?_)
   ·refine LoadV.fim (x:=((y+z:Nat):Int)) U.mem (b:=sb) (F:=P) (n:=4) (t:=94) Js (k+1) (by rw[show tsz DM 3=1 from by kernel_rfl];omega) Oo af (zw ?_);exact⟨rfl,U⟩
   refine StepG.of (.slice B (vNum l k) (c-y)) (λS H wd W Z U=>zw ?_) (zw ?_)
   ·refine SliceV.to y (y+z) c rfl rfl rfl Oo Oo Oo (λh=>by cases h) ?_;rw[show tsz DM 5=1 from by kernel_rfl,<-eB,show y+z-y=vNum l k by omega];(conv=>whnf);exact⟨rfl,U⟩
   refine StepG.of (.tuple #[.agg #[ii (dN (sDict l k):Nat),ii (qdc (sDict l k):Nat),ii (qag (sDict l k):Nat),ii (qg (sDict l k):Nat)],fltV 0 0]) (λS H wd W Z U=>zw ?_) (zw ?_)
   ·refine zcv (ad wd (hB.ext U.mem.ext)) ?_;rintro v w9 ⟨rfl,h9⟩;exact⟨rfl,U.call h9⟩
   (iterate 3 (refine zg ?_));refine StepG.any (λS H wd W Z U=>?_) (zw ?_)
   ·dsimp only at U;rw[W]at U;(conv=>whnf);refine⟨λx wx hb hw=>?_⟩;subst hb hw;(conv=>whnf);exact⟨trivial,U.new1⟩
   refine StepG.any (λS H wd W Z U=>?_) (zw ?_)
   ·dsimp only at U;rw[W]at U;(conv=>whnf);refine⟨λx wx hb hw=>?_⟩;subst hb hw;(conv=>whnf);exact⟨trivial,U.new2⟩
   refine StepG.of undef (λS H wd W Z U=>?_) (zw ?_)
   ·dsimp only at U;have ai:S 13=true:=Z 13 Od;rw[W,ai]at U;obtain⟨b,hv,M,ae,hK⟩:=U.put1;rw[ql hv];(conv=>whnf);refine zS ae 0 λwx aa=>zw ?_;exact⟨rfl,by show Al _ _ _ _ _ _ (S 13) (S 14) true (S 16) _ _ _;rw[ai];exact hK aa rfl⟩
   refine StepG.of undef (λS H wd W Z U=>?_) (zw ?_)
   ·dsimp only at U;have aj:S 14=true:=Z 14 Od;rw[W,aj]at U;obtain⟨b,hv,M,ae,hK⟩:=U.put2;rw[ql hv];(conv=>whnf);refine zS ae 0 λwx aa=>zw ?_;exact⟨rfl,by show Al _ _ _ _ _ _ (S 13) (S 14) (S 15) true _ _ _;rw[aj];exact hK aa rfl⟩
   intro H am U;obtain⟨t8,t9,an,ao,V⟩:=U.done2;rw[ql an,ql ao];have V:Mem w am [(t8,.cells #[ii (dN (sDict l k):Nat),ii (qdc (sDict l k):Nat),ii (qag (sDict l k):Nat),ii (qg (sDict l k):Nat)] 200),(t9,.cells #[ii 0,ii 0] 201),(fb,.cells #[ii 0,ii 0] 55),(sb,.cells (fnA 4 (inF P)) 94),(nb,.cells (fnA 3 (inF (N))) 113),(r3,.cells #[ii 0,ii 0] 55),(r2,.cells (fnA 3 (inF (λ_:Nat=>(0:Int)))) 113)]:=V;(conv=>whnf);refine zr V 1 ?_;refine zv ?_;refine zr V 0 ?_;refine zv ?_;refine StoreV.fi (x:=((dN (sDict l k):Nat):Int)) V (i:=4) rfl k (by rw[show tsz DM 3=1 from by kernel_rfl];omega) Oo ?_;intro az V;have V:=(V.sub (Ak ..)).sub (Ak ..);have V:Mem w az [(fb,.cells #[ii 0,ii 0] 55),(sb,.cells (fnA 4 (inF P)) 94),(nb,.cells (fnA 3 (inF (updI N k (dN (sDict l k):Nat)))) 113),(r3,.cells #[ii 0,ii 0] 55),(r2,.cells (fnA 3 (inF (λ_:Nat=>(0:Int)))) 113)]:=V;refine zu ?_;refine⟨(k+1,updI N k (dN (sDict l k):Nat)),fq,⟨by omega,λj hj=>?_,λj hj=>?_,V⟩,by omega⟩
   all_goals grind [sdF,qck,qao]
  ·have ad:∀w',SlAt encB 1 w' B (sDict l k)->Gv DM 105 [.slice B (vNum l k) (c-y)] w' λr ah=>r=.tuple #[.agg #[ii 0,ii 0,ii 0,ii 0],fltV (dE (sDict l k)).1 (dE (sDict l k)).2]/\Ext w' ah:=λw' ag=>(ad w' ag).mono λr ah ⟨h1,h2⟩=>⟨h1.elim (λh=>h.2) (λh=>absurd h.1 hD),h2⟩
   obtain⟨d1,a0⟩:∃d1,d1=(dE (sDict l k)).1:=⟨_,rfl⟩
   obtain⟨d2,ar⟩:∃d2,d2=(dE (sDict l k)).2:=⟨_,rfl⟩
   have hf:sdF l k=(y+d1,d2):=by grind [sdF]
   rw[<-a0,<-ar]at ad;rw[<-ar]at hD;have a1:wE l=(y+d1,d2):=by rw[hW,qaz (f:=sdF l) hz Oo (by simp_all),hf]
   refine DrawV.gen (λS H w'=>Al w [(fb,.cells #[ii 0,ii 0] 55),(sb,.cells (fnA 4 (inF P)) 94),(nb,.cells (fnA 3 (inF (N))) 113),(r3,.cells #[ii 0,ii 0] 55),(r2,.cells (fnA 3 (inF (λ_:Nat=>(0:Int)))) 113)] (.cells #[ii 0,ii 0,ii 0,ii 0] 200) (.cells #[ii 0,ii 0,ii 0,ii 0] 200) (.cells #[ii 0,ii 0] 201) (.cells #[ii (d1:Nat),ii (d2:Nat)] 201) (S 13) (S 14) (S 15) (S 16) (H 13) (H 14) w') rfl Jk (λH=>Al.start V.drew) ?_;clear V;(conv=>whnf);refine zg ?_;refine zg ?_;refine StepG.of (.pointer (some ⟨sb,0+(k)*tsz DM 3,none⟩)) (λS H wd W Z U=>zw ?_) (zw ?_)
   ·refine IdxV.at_ (k) Oo Oo (zw ?_);exact⟨rfl,U⟩
   refine StepG.of (ii (y:Nat)) (λS H wd W Z U=>zw ?_) (zw ?_)
   ·refine LoadV.fim (x:=((y:Nat):Int)) U.mem (b:=sb) (F:=P) (n:=4) (t:=94) Js (k) (by rw[show tsz DM 3=1 from by kernel_rfl];omega) Oo ak (zw ?_);exact⟨rfl,U⟩
   refine zg ?_;refine zg ?_;refine StepG.of (.pointer (some ⟨sb,0+(k+1)*tsz DM 3,none⟩)) (λS H wd W Z U=>zw ?_) (zw ?_)
   ·refine IdxV.at_ (k+1) Oo Oo (zw ?_);exact⟨rfl,U⟩
   refine StepG.of (ii (y+z:Nat)) (λS H wd W Z U=>zw ?_) (zw ?_)
   ·refine LoadV.fim (x:=((y+z:Nat):Int)) U.mem (b:=sb) (F:=P) (n:=4) (t:=94) Js (k+1) (by rw[show tsz DM 3=1 from by kernel_rfl];omega) Oo af (zw ?_);exact⟨rfl,U⟩
   refine StepG.of (.slice B (vNum l k) (c-y)) (λS H wd W Z U=>zw ?_) (zw ?_)
   ·refine SliceV.to y (y+z) c rfl rfl rfl Oo Oo Oo (λh=>by cases h) ?_;rw[show tsz DM 5=1 from by kernel_rfl,<-eB,show y+z-y=vNum l k by omega];(conv=>whnf);exact⟨rfl,U⟩
   refine StepG.of (.tuple #[.agg #[ii 0,ii 0,ii 0,ii 0],fltV (d1:Nat) (d2:Nat)]) (λS H wd W Z U=>zw ?_) (zw ?_)
   ·refine zcv (ad wd (hB.ext U.mem.ext)) ?_;rintro v w9 ⟨rfl,h9⟩;exact⟨rfl,U.call h9⟩
   (iterate 3 (refine zg ?_));refine StepG.any (λS H wd W Z U=>?_) (zw ?_)
   ·dsimp only at U;rw[W]at U;(conv=>whnf);refine⟨λx wx hb hw=>?_⟩;subst hb hw;(conv=>whnf);exact⟨trivial,U.new1⟩
   refine StepG.any (λS H wd W Z U=>?_) (zw ?_)
   ·dsimp only at U;rw[W]at U;(conv=>whnf);refine⟨λx wx hb hw=>?_⟩;subst hb hw;(conv=>whnf);exact⟨trivial,U.new2⟩
   refine StepG.of undef (λS H wd W Z U=>?_) (zw ?_)
   ·dsimp only at U;have ai:S 13=true:=Z 13 Od;rw[W,ai]at U;obtain⟨b,hv,M,ae,hK⟩:=U.put1;rw[ql hv];(conv=>whnf);refine zS ae 0 λwx aa=>zw ?_;exact⟨rfl,by show Al _ _ _ _ _ _ (S 13) (S 14) true (S 16) _ _ _;rw[ai];exact hK aa rfl⟩
   refine StepG.of undef (λS H wd W Z U=>?_) (zw ?_)
   ·dsimp only at U;have aj:S 14=true:=Z 14 Od;rw[W,aj]at U;obtain⟨b,hv,M,ae,hK⟩:=U.put2;rw[ql hv];(conv=>whnf);refine zS ae 0 λwx aa=>zw ?_;exact⟨rfl,by show Al _ _ _ _ _ _ (S 13) (S 14) (S 15) true _ _ _;rw[aj];exact hK aa rfl⟩
   intro H am U;obtain⟨t8,t9,an,ao,V⟩:=U.done2;rw[ql an,ql ao];have V:Mem w am [(t8,.cells #[ii 0,ii 0,ii 0,ii 0] 200),(t9,.cells #[ii (d1:Nat),ii (d2:Nat)] 201),(fb,.cells #[ii 0,ii 0] 55),(sb,.cells (fnA 4 (inF P)) 94),(nb,.cells (fnA 3 (inF (N))) 113),(r3,.cells #[ii 0,ii 0] 55),(r2,.cells (fnA 3 (inF (λ_:Nat=>(0:Int)))) 113)]:=V;(conv=>whnf);refine zr V 1 ?_;refine zv ?_;have hb:d1<=z:=by
    grind [q8a]
   refine DrawV.inv (λS w'=>Mem w w' [(t8,.cells #[ii 0,ii 0,ii 0,ii 0] 200),(t9,.cells #[ii (d1:Nat),ii (d2:Nat)] 201),(fb,.cells #[ii 0,ii 0] 55),(sb,.cells (fnA 4 (inF P)) 94),(nb,.cells (fnA 3 (inF (N))) 113),(r3,.cells (bif S 11 then #[ii (y+d1:Nat),ii (d2:Nat)]else #[ii 0,ii 0]) 55),(r2,.cells (bif S 10 then fnA 3 (inF N)else fnA 3 (inF λ_=>0)) 113)]) rfl Jk V.drew ?_;clear V;(conv=>whnf);refine StepI.of (.agg (fnA 3 (inF N))) (λS wd W Z U=>zw ?_) (zw ?_)
   ·refine LoadA.mem U (i:=4) rfl (by simp[qp];rfl) (zw ?_);exact⟨rfl,U⟩
   refine zi ?_;refine StepI.of (.pointer (some ⟨sb,0+k*tsz DM 3,none⟩)) (λS wd W Z U=>zw ?_) (zw ?_)
   ·refine IdxV.at_ k Oo Oo (zw ?_);exact⟨rfl,U⟩
   refine StepI.of (ii (y:Nat)) (λS wd W Z U=>zw ?_) (zw ?_)
   ·refine LoadV.fim (x:=((y:Nat):Int)) U (b:=sb) (F:=P) (n:=4) (t:=94) Js k (by rw[show tsz DM 3=1 from by kernel_rfl];omega) Oo ak (zw ?_);exact⟨rfl,U⟩
   refine zi ?_;refine zLi ?_;refine zi ?_;refine zi ?_;refine zLi ?_;refine zi ?_;refine StepI.of undef (λS wd W Z U=>?_) (zw ?_)
   ·dsimp only at U;rw[W]at U;(conv=>whnf);refine StoreA.all U (i:=6) rfl (by rfl) (qa4 3 N) λwx aa=>zw ?_;exact⟨rfl,aa⟩
   refine StepI.of undef (λS wd W Z U=>?_) (zw ?_)
   ·dsimp only at U;rw[W]at U;(conv=>whnf);have e5:((y:Nat):Int)+((d1:Nat):Int)=((y+d1:Nat):Int):=by omega
    refine zS U 5 λwx aa=>zw ?_;exact⟨rfl,aa⟩
   intro wz V;have V:Mem w wz [(t8,.cells #[ii 0,ii 0,ii 0,ii 0] 200),(t9,.cells #[ii (d1:Nat),ii (d2:Nat)] 201),(fb,.cells #[ii 0,ii 0] 55),(sb,.cells (fnA 4 (inF P)) 94),(nb,.cells (fnA 3 (inF (N))) 113),(r3,.cells #[ii (y+d1:Nat),ii (d2:Nat)] 55),(r2,.cells (fnA 3 (inF (N))) 113)]:=V;(conv=>whnf);refine qd (R:=λr w'=>VwR l r/\Ext w w') (zw ?_);refine LoadA.mem V (i:=6) rfl (by simp[qp];rfl) (zw ?_);refine zl V 5 ?_;exact⟨.inl ⟨by grind,N,by rw[a1];rfl⟩,V.ext⟩
 obtain rfl:k=3:=by omega
 have a2:(wE l).2=0:=by grind [q6]
 refine LoadA.mem V (i:=2) rfl (by simp[qp];rfl) (zw ?_);refine StoreA.all V (i:=4) rfl (by rfl) (qa4 3 N) λwa V=>zw ?_;refine zS V 3 ?_;intro wb V;have V:Mem w wb [(fb,.cells #[ii 0,ii 0] 55),(sb,.cells (fnA 4 (inF P)) 94),(nb,.cells (fnA 3 (inF (N))) 113),(r3,.cells #[ii 0,ii 0] 55),(r2,.cells (fnA 3 (inF (N))) 113)]:=V;(conv=>whnf);refine qd (R:=λr w'=>VwR l r/\Ext w w') (zw ?_);refine LoadA.mem V (i:=4) rfl (by simp[qp];rfl) (zw ?_);refine zl V 3 ?_;exact⟨.inr ⟨a2,N,Oo,rfl⟩,V.ext⟩
open Go.RowKit
namespace V
theorem StoreA.row{t:DD}{K:DI}(h:Mem w0 w L)(hi:L[i]?=some (b,.cells cur t))(hl:off+vs.length<=cur.size)(h1:∀v∈vs,v.oneCell'=true)(U:∀w',(∀c,c≠b->w'.heap[c]?=w.heap[c]?)->w.heap.size<=w'.heap.size->Mem w0 w' (L.set i (b,.cells (cur.toList.take off++vs++cur.toList.drop (off+vs.length)).toArray t))->K w'):StoreA P w b off vs K:=by
 have V:(b,Obj.cells cur t)∈L:=(by grind)
 have W:=h.get V;have Z:=run_storeCells_at P b off t vs 0 cur w W (by simpa using hl) h1;simp only[Bt]at Z;refine⟨_,Z,U _ (λc H=>qu H) Js ?_⟩;refine h.set hi ?_ (qb8 W) (λc H=>qu H);exact Below.trans h.ext ⟨rfl,rfl,rfl,by simp,λk U=>qu (by have:=(h.own _ V).1;omega)⟩
structure Er(w0:DA)(L:DJ)(o:Obj)(m1 m2 m3:DH)(c1 c2 c3:Bool)(v1 v2 v3:DF)(w:DA):Prop where
 h:(c1=false/\c2=false/\c3=false/\Mem w0 w L)\/(c1=true/\∃b,v1=m1 b/\(c2=true->v2=m2 b)/\(c3=true->v3=m3 b)/\Mem w0 w ((b,o)::L))
section
variable {w0 w w':DA} {L L':DJ} {o:Obj} {m1 m2 m3:DH} {c1 c2 c3:Bool} {v1 v2 v3:DF}
theorem Er.start(h:Mem w0 w L):Er w0 L o m1 m2 m3 false false false v1 v2 v3 w:=⟨(by grind)⟩
theorem Er.mem(h:Er w0 L o m1 m2 m3 c1 c2 c3 v1 v2 v3 w):Mem w0 w L:=by
 rcases h.h with⟨_,_,_,h⟩|⟨_,b,_,_,_,h⟩
 ·exact h
 ·exact h.sub Js
theorem Er.made(h:Er w0 L o m1 m2 m3 false c2 c3 v1 v2 v3 w)(H:Ext w w')(U:w.heap.size<=b)(V:w'.heap[b]?=some o):Er w0 L o m1 m2 m3 true c2 c3 (m1 b) v2 v3 w':=by
 rcases h.h with⟨_,h2,h3,W⟩|⟨Z,_⟩
 ·exact⟨.inr ⟨rfl,b,rfl,(by grind),(by grind),W.fresh H U V⟩⟩
 ·cases Z
theorem Er.alloc(h:Er w0 L o m1 m2 m3 false c2 c3 v1 v2 v3 w):Er w0 L o m1 m2 m3 true c2 c3 (m1 w.heap.size) v2 v3 (w.alloc o):=
 h.made ((Ext.refl w).alloc o) Oo (heap_alloc_new w o)
theorem Er.see(h:Er w0 L o m1 m2 m3 true c2 c3 v1 v2 v3 w):∃b,v1=m1 b/\Er w0 L o m1 m2 m3 true true c3 (m1 b) (m2 b) v3 w/\Er w0 L o m1 m2 m3 true c2 true (m1 b) v2 (m3 b) w:=by
 rcases h.h with⟨H,_⟩|⟨_,b,U,V,W,h⟩
 ·cases H
 ·exact⟨b,U,⟨(by grind)⟩,⟨(by grind)⟩⟩
theorem Er.see2(h:Er w0 L o m1 m2 m3 c1 true c3 v1 v2 v3 w):∃b,v2=m2 b/\Er w0 L o m1 m2 m3 c1 true true v1 (m2 b) (m3 b) w:=by
 rcases h.h with⟨_,H,_⟩|⟨V,b,W,U,Z,h⟩
 ·cases H
 ·exact⟨b,U rfl,⟨(by grind)⟩⟩
theorem Er.store{K:DI}{t:DD}(h:Er w0 L o m1 m2 m3 c1 c2 c3 v1 v2 v3 w)(hi:L[i]?=some (b,.cells cur t))(hl:cur.size=vs.length)(Z:∀v∈vs,v.oneCell'=true)(hL:L.set i (b,.cells vs.toArray t)=L')(hk:∀w',(∀c,c≠b->w'.heap[c]?=w.heap[c]?)->Er w0 L' o m1 m2 m3 c1 c2 c3 v1 v2 v3 w'->K w'):StoreA P w b 0 vs K:=by
 subst hL;have e:(cur.toList.take 0++vs++cur.toList.drop (0+vs.length)).toArray=vs.toArray:=by
  simp_all
 rcases h.h with⟨H,U,V,h⟩|⟨H,x,U,V,h4,h⟩
 ·refine StoreA.row h hi Oo Z λw' W _ hm=>hk w' W ⟨.inl ⟨H,U,V,?_⟩⟩
  grind
 ·refine StoreA.row h (i:=i+1) hi Oo Z λw' W _ hm=>hk w' W ⟨.inr ⟨H,x,U,V,h4,?_⟩⟩
  grind
theorem Er.done(h:Er w0 L o m1 m2 m3 true c2 true v1 v2 v3 w):∃b,v1=m1 b/\v3=m3 b/\Mem w0 w ((b,o)::L):=by
 rcases h.h with⟨H,_⟩|⟨_,b,U,_,V,h⟩
 all_goals grind
end
theorem StoreV.row{t:DD}{v:DF}{K:DI}(h:Mem w0 w L)(hi:L[i]?=some (b,.cells cs t))(H:off<cs.size)(U:qc8 v=true)(V:∀w',(∀c,c≠b->w'.heap[c]?=w.heap[c]?)->w.heap.size<=w'.heap.size->Mem w0 w' (L.set i (b,.cells (cs.setIfInBounds off v) t))->K w'):StoreV w b off v K:=
 StoreV.own (h.get (zmg hi)) H U λw' W=>V w' (by grind [Below.heap_setCell]) (by simp_all) (h.setCell hi W)
theorem CellsAt.other{x:Nat}(h:CellsAt w b off vs)(U:b≠x)(V:∀c,c≠x->w'.heap[c]?=w.heap[c]?):CellsAt w' b off vs:=by
 intro k v H;have:=h k v H
 grind [World.cell?]
theorem SlAt.other{α:Type}{H:α->DK}{U:Nat}{l:List α}{x:Nat}{t:DD}(h:SlAt H U w A l)(hx:w.heap[x]?=some (.cells cs t fz))(W:∀y∈l,∀v∈cs.toList,(H y)[0]?≠some v)(Z:∀y∈l,H y≠[])(hw:∀c,c≠x->w'.heap[c]?=w.heap[c]?):SlAt H U w' A l:=by
 refine⟨λhn=>?_⟩;obtain⟨b,off,h1,h2⟩:=h.at_ hn;refine⟨b,off,h1,λj y hy=>(h2 j y hy).other ?_ hw⟩;intro aa;subst aa;have V:y∈l:=zmg hy;obtain⟨v,hv⟩:∃v,(H y)[0]?=some v:=by
  cases he:H y with
  | nil=>exact absurd he (Z y V)
  | cons v r=>exact⟨v,rfl⟩
 have h3:=h2 j y hy 0 v hv;rw[qa hx]at h3;exact W y V v (Array.mem_toList_iff.2 (Df h3)) hv
end V
def errV(b:Nat):DF:=.iface 123 (pp b)
def errO(p c:Nat):Obj:=.cells #[ii p,.iface 83 (ii c)] 127
theorem qq4(p c:Nat)(w:DA):Gv DM 235 [ii p,ii c] w λv w'=>∃b,v=errV b/\w.heap.size<=b/\w'.heap[b]?=some (errO p c)/\Ext w w':=by
 refine ze Tryz.func235 Tryz.ntmps235 ?_;refine znm (Mem.nil w) λb U H=>zw ?_;exact⟨b,rfl,(H.own _ mh).1,H.get mh,H.ext⟩
def ErrTyp(w:DA):Prop:=w.cell? ⟨0,0,none⟩=some (.iface 314 (.agg #[.pointer (some ⟨7,38,none⟩)]))
theorem ErrTyp.ext(h:ErrTyp w)(H:Ext w w'):ErrTyp w':=H.cell h
theorem qra(t:DF)(w:DA):Gv DM 52 [.nilIface,t] w λr w'=>r=.bool false/\w'=w:=
 qe4 Jk ((qaft t w).mono λe w' ⟨H,U⟩=>⟨_,H,rfl,U⟩)
theorem qk8(e H:Nat)(U:Mem w0 w L)(hi:L[i]?=some (H,.cells #[.pointer none] 123))(hg:ErrTyp w):
  Gv DM 52 [errV e,.iface 125 (pp H)] w λr w'=>r=.bool true/\Mem w0 w' (L.set i (H,.cells #[pp e] 123))/\
   ∃V,Ext w V/\∀c,c≠H->w'.heap[c]?=V.heap[c]?:=by
 have W:=U.get (zmg hi);refine qe4 Jk ((qafs ⟨e,0,none⟩ ⟨H,0,none⟩ (.pointer none) w hg (by rw[qa W];rfl) (by simp[World.frozen?,W])).mono ?_);rintro r w' ⟨rfl,Z⟩;refine⟨_,rfl,rfl,?_,_,(((((Ext.refl w).alloc _).alloc _).alloc _).alloc _),λc hc=>by subst Z;exact Below.heap_setCell _ _ _ _ hc⟩;exact(U.call (((((Ext.refl w).alloc _).alloc _).alloc _).alloc _)).setCell hi Z
def fE(l:LB)(E:Nat->Nat×Nat):Nat×Nat:=if(sE l).2≠0 then sE l else errF (λk=>if(E k).2=0 then(0,0)else(qj l k+(E k).1,(E k).2)) 3
def vF(d:Nat->Nat)(l:LB)(k:Nat):Nat->DF:=λj=>
 if j=6 then ii (vTot l k:Nat)else if j/2<k then(if j%2=0 then .pointer (some ⟨d (j/2),0,none⟩)else ii (vTot l (j/2)+1:Nat))else(if j%2=0 then .pointer none else ii 0)
structure VocAt(w:DA)(b:Nat)(l:LB):Prop where
 h:∃d,w.heap[b]?=some (.cells (fnA 7 (vF d l 3)) 305)/\∀k,k<3->DictAt w (d k) (sDict l k)
theorem VocAt.ext(h:VocAt w b l)(H:Ext w w'):VocAt w' b l:=by
 obtain⟨d,U,V⟩:=h;exact⟨d,H.get U,λk W=>(V k W).ext H⟩
def DoR(m:LB)(E:Nat×Nat)(v:DF)(w:DA):Prop:=
 (E.2≠0/\∃e,v=.tuple #[.pointer none,e]/\ErrAt w e E.1 E.2)\/(E.2=0/\∃b,v=.tuple #[pp b,.nilIface]/\DictAt w b m)
def FndR(l:LB)(E:Nat->Nat×Nat)(v:DF)(w:DA):Prop:=
 ((fE l E).2≠0/\∃G e,v=.tuple #[.pointer none,.agg (fnA 3 (inF G)),e]/\ErrAt w e (fE l E).1 (fE l E).2)\/
 ((fE l E).2=0/\∃b G,v=.tuple #[pp b,.agg (fnA 3 (inF G)),.nilIface]/\(∀k,k<3->G k=((qj l k:Nat):Int))/\VocAt w b l)
theorem qxq(n:Nat)(F:DH)(j:Nat)(h:j<n):(fnA n F).toList[j]?=some (F j):=by
 have:=qix n F j h
 simpa using this
theorem q8r(n:Nat)(F:DH)(i:Nat)(a b:DF)(h:i+2<=n):((fnA n F).toList.take i++[a,b]++(fnA n F).toList.drop (i+[a,b].length)).toArray=fnA n (updF (updF F i a) (i+1) b):=by
 rw[<-qiy,<-qiy,<-Bh];simp only[BU,Au,B6];have H:(fnA n F).toList.length=n:=by simp[qp]
 generalize(fnA n F).toList=xs at H;apply Bj;intro j;rw[Cp,Cp,Az,Cd];simp only[Ar,List.length_set,H]
 by_cases U:j<i
 ·rw[Ab Oo,Aa Oo,Aa Oo,Bv,Ab U]
 ·rw[Aa Oo,Cd];simp only[Au,B6]
  by_cases V:j=i
  ·subst V;rw[Ab Oo,Aa Oo,Ab rfl,Ab Oo,show j-min j n=0 by omega];rfl
  ·by_cases W:j=i+1
   ·subst W;rw[Ab Oo,Ab rfl,Ab Oo,show i+1-min i n=1 by omega];rfl
   ·rw[Aa Oo,Aa Oo,Aa Oo,BZ]
    congr 1
    omega
theorem DictAt.other{x:Nat}{m:LB}{t:DD}(h:DictAt w b m)(V:w.heap[x]?=some (.cells cs t fz))(ht:t≠395)(hc:∀v∈cs.toList,∀c:Nat,v≠.int .u8 c)(W:∀c,c≠x->w'.heap[c]?=w.heap[c]?):DictAt w' b m:=by
 obtain⟨⟨P,cp,E,ce,H,h2,h3,h4⟩,h5,h6,h7,h8⟩:=h;have Z:b≠x:=by
  intro e;subst e;rw[V]at H
  injection H with H
  injection H with _ H _
  exact ht H
 have U:∀(z:LB),∀y∈z,∀v∈cs.toList,(encB y)[0]?≠some v:=λz y _ v hv e=>by
  cases e;exact hc _ hv _ rfl
 exact⟨⟨P,cp,E,ce,by rw[W b Z];exact H,h2.other V (U _) (λ_ _ e=>by cases e) W,h3.other V (U _) (λ_ _ e=>by cases e) W,h4⟩,h5,h6,h7,h8⟩
theorem qab0(d:Nat->Nat)(l:LB)(k j:Nat):∀c:Nat,vF d l k j≠.int .u8 c:=by
 intro c;unfold vF
 split
 ·intro e;cases e
 ·split
  ·split<;>(intro e;cases e)
  ·split<;>(intro e;cases e)
theorem qafe(d:Nat->Nat)(l:LB)(k b:Nat)(H:k<3):fnA 7 (updF (updF (updF (vF d l k) (2*k) (pp b)) (2*k+1) (ii (vTot l k+1:Nat))) 6 (ii (vTot l (k+1):Nat))) =
  fnA 7 (vF (λj=>if j=k then b else d j) l (k+1)):=qfe λj U=>by
 rcases(show k=0\/k=1\/k=2 by omega)with rfl|rfl|rfl<;>
 rcases(show j=0\/j=1\/j=2\/j=3\/j=4\/j=5\/j=6 by omega)with rfl|rfl|rfl|rfl|rfl|rfl|rfl<;>rfl
theorem q28(l:LB)(A:oA)(c:Nat)(w:DA)(hS:SlAt encB 1 w A l)(hc:l.length<=c)(hl:l.length<=70368744177664)(hG:ErrTyp w)(f:FuncId)(E:Nat->Nat×Nat)(bi:∀k,k<3->(E k).1<=70368744177664)(hf:∀k,k<3->∀w' B c',Ext w w'->SlAt encB 1 w' B (sDict l k)->(sDict l k).length<=c'->Gv DM f [.slice B (sDict l k).length c'] w' λv ao=>DoR (sDict l k) (E k) v ao/\Ext w' ao):
  Gv DM 163 [.slice A l.length c,.func (.func f) #[] #[]] w λv w'=>FndR l E v w'/\Ext w w':=by
 refine ze Tryz.func163 Tryz.ntmps163 ?_;refine znm (Mem.nil w) λr5 w1 V=>zw ?_;refine zcv (qex _ l w1 ⟨A,c,rfl,hc,hS.ext V.ext⟩) ?_;rintro v w2 ⟨cb,rfl,a7,a8,a9⟩;have V:=V.fresh a9 a7 a8;(conv=>whnf);refine znm V λsz w3 V=>zw ?_;refine znm V ?_;intro pl w4 V;have V:Mem w w4 [(pl,.cells (fnA 3 (inF (λ_:Nat=>(0:Int)))) 113),(sz,.cells (fnA 3 (inF (λ_:Nat=>(0:Int)))) 113),(cb,curO 367 (.slice A l.length c) (vAt l 0) 0),(r5,.cells (fnA 3 (inF (λ_:Nat=>(0:Int)))) 113)]:=V;(conv=>whnf);refine qq (λx:Nat×(Nat->Int)=>[(0,.slice A l.length c),(1,.func (.func f) #[] #[]),(4,.pointer none),(5,pp r5),(6,.nilIface),(7,pp cb),(8,pp sz),(9,pp pl),(24,ii x.1)])
  (λx w'=>x.1<=3/\(∀j,j<x.1->(vsF l j).2=0)/\(∀j,j<x.1->x.2 j=((vNum l j:Nat):Int))/\Mem w w' [(pl,.cells (fnA 3 (inF (λ_:Nat=>(0:Int)))) 113),(sz,.cells (fnA 3 (inF (x.2))) 113),(cb,curO 367 (.slice A l.length c) (vAt l x.1) 0),(r5,.cells (fnA 3 (inF (λ_:Nat=>(0:Int)))) 113)]) (λx=>3-x.1) (0,λ_:Nat=>(0:Int))
  fq ⟨by simp,λj h=>by simp at h,λj h=>by simp at h,V⟩ ?_
 clear V a8 a9 a7;rintro⟨k,Q⟩ w6 bt ⟨k1,hz,hQ,V⟩;dsimp only at k1 hz hQ V|-;have bj:=qco l k;have bu:=qhc l k;(conv=>whnf);refine zC (λ_=>zw ?_) (λ_=>zw ?_)
 ·refine zcv (qjk cb (.slice A l.length c) (vAt l k) 0 w6 (V.get Js)) ?_;rintro r w7 ⟨rfl,rfl⟩;(conv=>whnf);refine zcv (qdj cb (.slice A l.length c) (vAt l k) 0 l _ (V.get Js) ⟨A,c,rfl,hc,hS.ext V.ext⟩ bj Oo) ?_;rintro r w8 ⟨rfl,hu⟩
  by_cases he:(numL (l.drop (vAt l k))).2.2=0
  case neg=>
   rw[qk0 he,qk1 he]at hu;rw[qkz he];obtain⟨q,eq⟩:∃q,q=(numL (l.drop (vAt l k))).2.2:=⟨_,rfl⟩
   have hf:vsF l k=(vAt l k,q):=by rw[vsF,qbv he,eq]
   rw[<-eq]at hu he;have an:sE l=(vAt l k,q):=by rw[qyv hz Oo (by rw[hf];exact he),hf]
   have hE:fE l E=(vAt l k,q):=by rw[fE,an,Ab he]
   have V:Mem w w8 [(pl,.cells (fnA 3 (inF (λ_:Nat=>(0:Int)))) 113),(sz,.cells (fnA 3 (inF (Q))) 113),(cb,curO 367 (.slice A l.length c) (vAt l k) q),(r5,.cells (fnA 3 (inF (λ_:Nat=>(0:Int)))) 113)]:=V.upd (i:=2) rfl hu;(conv=>whnf);refine zcv (qcf cb (.slice A l.length c) (vAt l k) q w8 (V.get Js)) ?_;rintro r w9 ⟨rfl,rfl⟩;refine zu ?_;refine DrawV.gen (λS H w'=>Er w [(pl,.cells (fnA 3 (inF (λ_:Nat=>(0:Int)))) 113),(sz,.cells (fnA 3 (inF (Q))) 113),(cb,curO 367 (.slice A l.length c) (vAt l k) q),(r5,.cells (bif S 6 then fnA 3 (inF (λ_:Nat=>(0:Int)))else fnA 3 (inF (λ_:Nat=>(0:Int)))) 113)] (errO (vAt l k) (q)) errV errV errV (S 4) false (S 7) (H 4) undef (H 7) w') rfl Jk (λH=>Er.start V.drew) ?_;clear V;(conv=>whnf);refine StepG.of (.agg (fnA 3 (inF (λ_:Nat=>(0:Int))))) (λS H W Z hp U=>zw ?_) (zw ?_)
   ·refine LoadA.mem U.mem (i:=0) rfl (by simp[qp];rfl) (zw ?_);exact⟨rfl,U⟩
   refine zg ?_;refine zg ?_;refine StepG.of (ii (q:Nat)) (λS H W Z hp U=>zw ?_) (zw ?_)
   ·refine zcv (qcf cb (.slice A l.length c) (vAt l k) q W (U.mem.get Js)) ?_;rintro r w9 ⟨rfl,rfl⟩;exact⟨rfl,U⟩
   refine StepG.any (λS H W Z hp U=>?_) (zw ?_)
   ·dsimp only at U;rw[Z]at U;(conv=>whnf);refine zcv (qq4 (vAt l k) (q) W) ?_;rintro v w8 ⟨eb,rfl,hb,ho,he⟩;exact⟨trivial,U.made he hb ho⟩
   refine zg ?_;refine StepG.of undef (λS H W Z hp U=>?_) (zw ?_)
   ·dsimp only at U;rw[Z]at U;(conv=>whnf);refine U.store (i:=3) rfl (by simp[qp]) (qa4 3 _) rfl ?_;intro wx _ hx;(conv=>whnf);exact⟨rfl,hx⟩
   refine StepG.any (λS H W Z hp U=>?_) (zw ?_)
   ·have h4:S 4=true:=hp 4 Od;dsimp only at U;rw[Z,h4]at U;obtain⟨eb,hv,_,h3⟩:=U.see;rw[ql hv];(conv=>whnf);exact⟨trivial,by show Er _ _ _ _ _ _ (S 4) false true _ _ _ _;rw[h4];exact h3⟩
   intro H w8 U;obtain⟨eb,ai,aj,V⟩:=U.done;rw[ql ai,ql aj];clear U;have V:Mem w w8 ((eb,errO (vAt l k) (q))::[(pl,.cells (fnA 3 (inF (λ_:Nat=>(0:Int)))) 113),(sz,.cells (fnA 3 (inF (Q))) 113),(cb,curO 367 (.slice A l.length c) (vAt l k) q),(r5,.cells (fnA 3 (inF (λ_:Nat=>(0:Int)))) 113)]):=V;(conv=>whnf);refine qd (R:=λv w'=>FndR l E v w'/\Ext w w') (zw ?_);refine LoadA.mem V (i:=4) rfl (by simp[qp];rfl) (zw ?_);exact⟨.inl ⟨by rw[hE];exact he,(λ_:Nat=>(0:Int)),errV eb,rfl,⟨eb,rfl,by rw[hE];exact CellsAt.mem V mh⟩⟩,V.ext⟩
  rw[qk3 he,qk4 he]at hu;rw[qk2 he];have V:Mem w w8 [(pl,.cells (fnA 3 (inF (λ_:Nat=>(0:Int)))) 113),(sz,.cells (fnA 3 (inF (Q))) 113),(cb,curO 367 (.slice A l.length c) (vAt l (k+1)) 0),(r5,.cells (fnA 3 (inF (λ_:Nat=>(0:Int)))) 113)]:=V.upd (i:=2) rfl hu;(conv=>whnf);refine zcv (qcf cb (.slice A l.length c) (vAt l (k+1)) 0 w8 (V.get Js)) ?_;rintro r w9 ⟨rfl,rfl⟩;(conv=>whnf);refine zt ?_;refine zC (λ_=>zu ?_) (λ_=>zu ?_)
  ·have hf:vsF l k=(vAt l k,2):=by rw[vsF,qdp he Oo]
   have an:sE l=(vAt l k,2):=by rw[qyv hz Oo (by rw[hf];exact BI _),hf]
   have hE:fE l E=(vAt l k,2):=by rw[fE,an,Ab (BI _)]
   refine DrawV.gen (λS H w'=>Er w [(pl,.cells (fnA 3 (inF (λ_:Nat=>(0:Int)))) 113),(sz,.cells (fnA 3 (inF (Q))) 113),(cb,curO 367 (.slice A l.length c) (vAt l (k+1)) 0),(r5,.cells (bif S 4 then fnA 3 (inF (λ_:Nat=>(0:Int)))else fnA 3 (inF (λ_:Nat=>(0:Int)))) 113)] (errO (vAt l k) (2)) errV errV errV (S 2) false (S 5) (H 2) undef (H 5) w') rfl Jk (λH=>Er.start V.drew) ?_;clear V;(conv=>whnf);refine StepG.of (.agg (fnA 3 (inF (λ_:Nat=>(0:Int))))) (λS H W Z hp U=>zw ?_) (zw ?_)
   ·refine LoadA.mem U.mem (i:=0) rfl (by simp[qp];rfl) (zw ?_);exact⟨rfl,U⟩
   refine zg ?_;refine StepG.any (λS H W Z hp U=>?_) (zw ?_)
   ·dsimp only at U;rw[Z]at U;(conv=>whnf);refine zcv (qq4 (vAt l k) (2) W) ?_;rintro v w8 ⟨eb,rfl,hb,ho,he⟩;exact⟨trivial,U.made he hb ho⟩
   refine zg ?_;refine StepG.of undef (λS H W Z hp U=>?_) (zw ?_)
   ·dsimp only at U;rw[Z]at U;(conv=>whnf);refine U.store (i:=3) rfl (by simp[qp]) (qa4 3 _) rfl ?_;intro wx _ hx;(conv=>whnf);exact⟨rfl,hx⟩
   refine StepG.any (λS H W Z hp U=>?_) (zw ?_)
   ·have h4:S 2=true:=hp 2 Od;dsimp only at U;rw[Z,h4]at U;obtain⟨eb,hv,_,h3⟩:=U.see;rw[ql hv];(conv=>whnf);exact⟨trivial,by show Er _ _ _ _ _ _ (S 2) false true _ _ _ _;rw[h4];exact h3⟩
   intro H w8 U;obtain⟨eb,ai,aj,V⟩:=U.done;rw[ql ai,ql aj];clear U;have V:Mem w w8 ((eb,errO (vAt l k) (2))::[(pl,.cells (fnA 3 (inF (λ_:Nat=>(0:Int)))) 113),(sz,.cells (fnA 3 (inF (Q))) 113),(cb,curO 367 (.slice A l.length c) (vAt l (k+1)) 0),(r5,.cells (fnA 3 (inF (λ_:Nat=>(0:Int)))) 113)]):=V;(conv=>whnf);refine qd (R:=λv w'=>FndR l E v w'/\Ext w w') (zw ?_);refine LoadA.mem V (i:=4) rfl (by simp[qp];rfl) (zw ?_);exact⟨.inl ⟨by rw[hE];exact BI _,(λ_:Nat=>(0:Int)),errV eb,rfl,⟨eb,rfl,by rw[hE];exact CellsAt.mem V mh⟩⟩,V.ext⟩
  refine StoreV.fi (x:=((vNum l k:Nat):Int)) V (i:=1) rfl k (by rw[show tsz DM 3=1 from by kernel_rfl];omega) Oo ?_;intro au V;have V:Mem w au [(pl,.cells (fnA 3 (inF (λ_:Nat=>(0:Int)))) 113),(sz,.cells (fnA 3 (inF (updI Q k (vNum l k:Nat)))) 113),(cb,curO 367 (.slice A l.length c) (vAt l (k+1)) 0),(r5,.cells (fnA 3 (inF (λ_:Nat=>(0:Int)))) 113)]:=V;refine zu ?_;refine⟨(k+1,updI Q k (vNum l k:Nat)),fq,⟨by simp only;omega,λj hj=>?_,λj hj=>?_,V⟩,by simp only;omega⟩
  ·by_cases e:j=k
   ·subst e;rw[vsF,qbh he Oo]
   ·exact hz j (by simp only at hj;omega)
  ·simp only at hj|-
   by_cases e:j=k
   ·subst e;exact qck _ _ _
   ·rw[qao _ _ _ _ e];exact hQ j Oo
 obtain rfl:k=3:=by omega
 have bv:(errF (vsF l) 3).2=0:=q6 hz;have av:∀j,j<3->vNum l j<=67108864:=λj hj=>qc3 (hz j hj)
 refine zcv (qjk cb (.slice A l.length c) (vAt l 3) 0 w6 (V.get Js)) ?_;rintro r w7 ⟨rfl,rfl⟩;(conv=>whnf);refine LoadA.mem V (i:=1) rfl (by simp[qp];rfl) (zw ?_);refine qq (λx:Nat×(Nat->Int)=>[(0,.slice A l.length c),(1,.func (.func f) #[] #[]),(4,.pointer none),(5,pp r5),(6,.nilIface),(8,pp sz),(9,pp pl),(13,ii (qj l x.1:Nat)),(53,.agg (fnA 3 (inF Q))),(54,ii x.1)])
  (λx w'=>x.1<=3/\(∀j,j<x.1->x.2 j=((qj l j:Nat):Int))/\Mem w w' [(pl,.cells (fnA 3 (inF (x.2))) 113),(sz,.cells (fnA 3 (inF (Q))) 113),(cb,curO 367 (.slice A l.length c) (vAt l 3) 0),(r5,.cells (fnA 3 (inF (λ_:Nat=>(0:Int)))) 113)]) (λx=>3-x.1) (0,λ_:Nat=>(0:Int))
  fq ⟨by simp,λj h=>by simp at h,V⟩ ?_
 clear V;rintro⟨k,P⟩ w8 bw ⟨k2,hP,V⟩;dsimp only at k2 hP V|-;have bz:qj l (k+1)=qj l k+vNum l k:=rfl;have bk:∀j,j<=3->qj l j<=l.length+201326592:=by
  have e0:qj l 0=vAt l 3:=rfl;have e1:qj l 1=qj l 0+vNum l 0:=rfl;have e2:qj l 2=qj l 1+vNum l 1:=rfl;have e3:qj l 3=qj l 2+vNum l 2:=rfl;have h0:=av 0 Oo;have h1:=av 1 Oo;have h2:=av 2 Oo;have h3:=qco l 3;intro j hj
  rcases(show j=0\/j=1\/j=2\/j=3 by omega)with rfl|rfl|rfl|rfl<;>omega
 have b0:=bk k Oo;conv=>whnf
 (repeat'(first|refine zp ?_|refine zC (λ_=>zw ?_) (λ_=>zw ?_)))
 ·have hn:=av k Oo;refine⟨ii (vNum l k:Nat),?_,?_⟩
  ·rw[show k*tsz DM 3=k from by rw[show tsz DM 3=1 from by kernel_rfl];omega];have:=qxq 3 (inF Q) k Oo;rw[inF,hQ k Oo]at this;exact this
  (conv=>whnf);refine IdxV.at_ k Oo Oo (zw ?_);refine StoreV.fi (x:=((qj l k:Nat):Int)) V (i:=0) rfl k (by rw[show tsz DM 3=1 from by kernel_rfl];omega) Oo ?_;intro au V;have V:Mem w au [(pl,.cells (fnA 3 (inF (updI P k (qj l k:Nat)))) 113),(sz,.cells (fnA 3 (inF (Q))) 113),(cb,curO 367 (.slice A l.length c) (vAt l 3) 0),(r5,.cells (fnA 3 (inF (λ_:Nat=>(0:Int)))) 113)]:=V;refine zu ?_;refine⟨(k+1,updI P k (qj l k:Nat)),⟨rfl,rfl,rfl,rfl,rfl,rfl,rfl,?_,rfl,rfl,trivial⟩,⟨by simp only;omega,λj hj=>?_,V⟩,by simp only;omega⟩
  ·show ii _=ii _
   congr 1
  ·simp only at hj|-
   by_cases e:j=k
   ·subst e;exact qck _ _ _
   ·rw[qao _ _ _ _ e];exact hP j Oo
 ·obtain rfl:k=3:=by omega
  have a4:sE l=if l.length<qj l 3 then(l.length,10)else if qj l 3<l.length then(qj l 3,13)else(0,0):=by rw[sE,Aa Oo]
  have an:sE l=(l.length,10):=by rw[a4,Ab Oo]
  have hE:fE l E=(l.length,10):=by rw[fE,an,Ab (BI _)]
  refine DrawV.gen (λS H w'=>Er w [(pl,.cells (fnA 3 (inF (P))) 113),(sz,.cells (fnA 3 (inF (Q))) 113),(cb,curO 367 (.slice A l.length c) (vAt l 3) 0),(r5,.cells (bif S 5 then fnA 3 (inF (P))else fnA 3 (inF (λ_:Nat=>(0:Int)))) 113)] (errO (l.length) (10)) errV errV errV (S 3) false (S 6) (H 3) undef (H 6) w') rfl Jk (λH=>Er.start V.drew) ?_;clear V;(conv=>whnf);refine StepG.of (.agg (fnA 3 (inF (P)))) (λS H W Z hp U=>zw ?_) (zw ?_)
  ·refine LoadA.mem U.mem (i:=0) rfl (by simp[qp];rfl) (zw ?_);exact⟨rfl,U⟩
  refine zg ?_;refine zg ?_;refine StepG.any (λS H W Z hp U=>?_) (zw ?_)
  ·dsimp only at U;rw[Z]at U;(conv=>whnf);refine zcv (qq4 (l.length) (10) W) ?_;rintro v w8 ⟨eb,rfl,hb,ho,he⟩;exact⟨trivial,U.made he hb ho⟩
  refine zg ?_;refine StepG.of undef (λS H W Z hp U=>?_) (zw ?_)
  ·dsimp only at U;rw[Z]at U;(conv=>whnf);refine U.store (i:=3) rfl (by simp[qp]) (qa4 3 _) rfl ?_;intro wx _ hx;(conv=>whnf);exact⟨rfl,hx⟩
  refine StepG.any (λS H W Z hp U=>?_) (zw ?_)
  ·have h4:S 3=true:=hp 3 Od;dsimp only at U;rw[Z,h4]at U;obtain⟨eb,hv,_,h3⟩:=U.see;rw[ql hv];(conv=>whnf);exact⟨trivial,by show Er _ _ _ _ _ _ (S 3) false true _ _ _ _;rw[h4];exact h3⟩
  intro H w8 U;obtain⟨eb,ai,aj,V⟩:=U.done;rw[ql ai,ql aj];clear U;have V:Mem w w8 ((eb,errO (l.length) (10))::[(pl,.cells (fnA 3 (inF (P))) 113),(sz,.cells (fnA 3 (inF (Q))) 113),(cb,curO 367 (.slice A l.length c) (vAt l 3) 0),(r5,.cells (fnA 3 (inF (P))) 113)]):=V;(conv=>whnf);refine qd (R:=λv w'=>FndR l E v w'/\Ext w w') (zw ?_);refine LoadA.mem V (i:=4) rfl (by simp[qp];rfl) (zw ?_);exact⟨.inl ⟨by rw[hE];exact BI _,(P),errV eb,rfl,⟨eb,rfl,by rw[hE];exact CellsAt.mem V mh⟩⟩,V.ext⟩
 ·obtain rfl:k=3:=by omega
  have a4:sE l=if l.length<qj l 3 then(l.length,10)else if qj l 3<l.length then(qj l 3,13)else(0,0):=by rw[sE,Aa Oo]
  have an:sE l=(qj l 3,13):=by rw[a4,Aa Oo,Ab Oo]
  have hE:fE l E=(qj l 3,13):=by rw[fE,an,Ab (BI _)]
  refine DrawV.gen (λS H w'=>Er w [(pl,.cells (fnA 3 (inF (P))) 113),(sz,.cells (fnA 3 (inF (Q))) 113),(cb,curO 367 (.slice A l.length c) (vAt l 3) 0),(r5,.cells (bif S 4 then fnA 3 (inF (P))else fnA 3 (inF (λ_:Nat=>(0:Int)))) 113)] (errO (qj l 3) (13)) errV errV errV (S 2) false (S 5) (H 2) undef (H 5) w') rfl Jk (λH=>Er.start V.drew) ?_;clear V;(conv=>whnf);refine StepG.of (.agg (fnA 3 (inF (P)))) (λS H W Z hp U=>zw ?_) (zw ?_)
  ·refine LoadA.mem U.mem (i:=0) rfl (by simp[qp];rfl) (zw ?_);exact⟨rfl,U⟩
  refine zg ?_;refine StepG.any (λS H W Z hp U=>?_) (zw ?_)
  ·dsimp only at U;rw[Z]at U;(conv=>whnf);refine zcv (qq4 (qj l 3) (13) W) ?_;rintro v w8 ⟨eb,rfl,hb,ho,he⟩;exact⟨trivial,U.made he hb ho⟩
  refine zg ?_;refine StepG.of undef (λS H W Z hp U=>?_) (zw ?_)
  ·dsimp only at U;rw[Z]at U;(conv=>whnf);refine U.store (i:=3) rfl (by simp[qp]) (qa4 3 _) rfl ?_;intro wx _ hx;(conv=>whnf);exact⟨rfl,hx⟩
  refine StepG.any (λS H W Z hp U=>?_) (zw ?_)
  ·have h4:S 2=true:=hp 2 Od;dsimp only at U;rw[Z,h4]at U;obtain⟨eb,hv,_,h3⟩:=U.see;rw[ql hv];(conv=>whnf);exact⟨trivial,by show Er _ _ _ _ _ _ (S 2) false true _ _ _ _;rw[h4];exact h3⟩
  intro H w8 U;obtain⟨eb,ai,aj,V⟩:=U.done;rw[ql ai,ql aj];clear U;have V:Mem w w8 ((eb,errO (qj l 3) (13))::[(pl,.cells (fnA 3 (inF (P))) 113),(sz,.cells (fnA 3 (inF (Q))) 113),(cb,curO 367 (.slice A l.length c) (vAt l 3) 0),(r5,.cells (fnA 3 (inF (P))) 113)]):=V;(conv=>whnf);refine qd (R:=λv w'=>FndR l E v w'/\Ext w w') (zw ?_);refine LoadA.mem V (i:=4) rfl (by simp[qp];rfl) (zw ?_);exact⟨.inl ⟨by rw[hE];exact BI _,(P),errV eb,rfl,⟨eb,rfl,by rw[hE];exact CellsAt.mem V mh⟩⟩,V.ext⟩
 obtain rfl:k=3:=by omega
 have ba:qj l 3=l.length:=by omega
 have b1:(sE l).2=0:=by rw[sE,Aa Oo,Aa Oo,Aa Oo]
 have bb:fE l E=errF (λk=>if(E k).2=0 then(0,0)else(qj l k+(E k).1,(E k).2)) 3:=by rw[fE,Aa Oo]
 refine znm V ?_;intro vb w9 V;have V:Mem w w9 [(vb,.cells (fnA 7 (vF (λ_=>0) l (0))) 305),(pl,.cells (fnA 3 (inF (P))) 113),(sz,.cells (fnA 3 (inF (Q))) 113),(cb,curO 367 (.slice A l.length c) (vAt l 3) 0),(r5,.cells (fnA 3 (inF (λ_:Nat=>(0:Int)))) 113)]:=V;(conv=>whnf);refine LoadA.mem V (i:=2) rfl (by simp[qp];rfl) (zw ?_);refine qq (λx:Nat×(Nat->Nat)=>[(0,.slice A l.length c),(1,.func (.func f) #[] #[]),(4,.pointer none),(5,pp r5),(6,.nilIface),(9,pp pl),(16,pp vb),(84,.agg (fnA 3 (inF Q))),(85,ii x.1)])
  (λx w'=>x.1<=3/\(∀j,j<x.1->(E j).2=0)/\(∀j,j<x.1->DictAt w' (x.2 j) (sDict l j))/\Mem w w' [(vb,.cells (fnA 7 (vF (x.2) l (x.1))) 305),(pl,.cells (fnA 3 (inF (P))) 113),(sz,.cells (fnA 3 (inF (Q))) 113),(cb,curO 367 (.slice A l.length c) (vAt l 3) 0),(r5,.cells (fnA 3 (inF (λ_:Nat=>(0:Int)))) 113)]) (λx=>3-x.1) (0,λ_=>0)
  fq ⟨by simp,λj h=>by simp at h,λj h=>by simp at h,V⟩ ?_
 clear V;rintro⟨k,d⟩ au b2 ⟨k3,az,hD,V⟩;dsimp only at k3 az hD V|-;(conv=>whnf);refine zC (λ_=>zu ?_) (λ_=>zu ?_)
 ·have hn:=av k Oo;have al:=hP k Oo;have a2:=qeh ba (k:=k) Oo;have bl:=qmf ba (k:=k) Oo;obtain⟨y,ey⟩:∃y,y=qj l k:=⟨_,rfl⟩
  obtain⟨z,ez⟩:∃z,z=vNum l k:=⟨_,rfl⟩
  obtain⟨B,eB⟩:∃B,B=(if y+z=y then A else A.map (·.add (y*1))):=⟨_,rfl⟩
  have hB:SlAt encB 1 w B (sDict l k):=by
   rw[eB,sDict,<-ey];have:=hS.cut (lo:=y) (hi:=y+z) (m:=y+z) Oo Oo Oo rfl
   rwa[show y+z-y=vNum l k by omega]at this
  have a0:=λw' h1 h2=>hf k Oo w' B z h1 h2 Oo
  rw[bl]at a0;refine⟨ii (vNum l k:Nat),?_,?_⟩
  ·rw[show k*tsz DM 3=k from by rw[show tsz DM 3=1 from by kernel_rfl];omega];have:=qxq 3 (inF Q) k Oo;rw[inF,hQ k Oo]at this;exact this
  rw[<-ey]at al a2;rw[<-ez]at hn a2 a0|-;(conv=>whnf);have bd:=bi k Oo
  by_cases am:(E k).2=0
  ·refine DrawV.free Jk Jk (zw ?_);(iterate 4 (refine zd ?_));refine zsd (ii (y:Nat)) (λW hd=>zw ?_) (zw ?_)
   ·refine LoadV.fim (x:=((y:Nat):Int)) (V.drew.call hd) (b:=pl) (F:=P) (n:=3) (t:=113) Js k (by rw[show tsz DM 3=1 from by kernel_rfl];omega) Oo al (zw ?_);exact xq
   refine zd ?_;refine zd ?_;refine zsd (ii (y:Nat)) (λW hd=>zw ?_) (zw ?_)
   ·refine LoadV.fim (x:=((y:Nat):Int)) (V.drew.call hd) (b:=pl) (F:=P) (n:=3) (t:=113) Js k (by rw[show tsz DM 3=1 from by kernel_rfl];omega) Oo al (zw ?_);exact xq
   (iterate 4 (refine zd ?_));refine zsd (ii (y:Nat)) (λW hd=>zw ?_) (zw ?_)
   ·refine LoadV.fim (x:=((y:Nat):Int)) (V.drew.call hd) (b:=pl) (F:=P) (n:=3) (t:=113) Js k (by rw[show tsz DM 3=1 from by kernel_rfl];omega) Oo al (zw ?_);exact xq
   refine zd ?_;refine zd ?_;refine zsd (.slice B z z) (λW hd=>zw ?_) (zw ?_)
   ·refine SliceV.to y (y+z) (y+z) rfl (by show(_:Int)=_;omega) (by show(_:Int)=_;omega) Oo znr Oo (λ_=>rfl) ?_;rw[show tsz DM 5=1 from by kernel_rfl,<-eB,show y+z-y=z by omega];(conv=>whnf);exact xq
   apply StepD.of (λv wx=>∃b,v=.tuple #[pp b,.nilIface]/\DictAt wx b (sDict l k)) (λ_ _ _ ⟨b,h1,h2⟩ he=>⟨b,h1,h2.ext he⟩)
   ·intro W hd;(conv=>whnf);refine zcv (a0 W (V.drew.call hd).ext (hB.ext (V.drew.call hd).ext)) ?_;rintro v aw ⟨⟨h0,_⟩|⟨_,b,rfl,hD⟩,aa⟩
    ·exact absurd am h0
    ·exact⟨aa,b,rfl,hD⟩
   (conv=>whnf);apply StepD.of (λv wx=>∃b,v=.tuple #[pp b,.nilIface]/\DictAt wx b (sDict l k)) (λ_ _ _ ⟨b,h1,h2⟩ he=>⟨b,h1,h2.ext he⟩)
   ·intro W hd;(conv=>whnf);rintro v ⟨b,rfl,hD⟩;(conv=>whnf);exact⟨xr,b,rfl,hD⟩
   (conv=>whnf);apply StepD.of (λv wx=>∃b,v=pp b/\DictAt wx b (sDict l k)) (λ_ _ _ ⟨b,h1,h2⟩ he=>⟨b,h1,h2.ext he⟩)
   ·intro W hd;(conv=>whnf);rintro v ⟨b,rfl,hD⟩;(conv=>whnf);exact⟨xr,b,rfl,hD⟩
   (conv=>whnf);apply zsd .nilIface
   ·intro W hd;conv=>whnf
    repeat(rintro v ⟨b,rfl,hD⟩;(conv=>whnf))
    exact xq
   (conv=>whnf);apply StepD.of (λv wx=>∃b,v=pp b/\DictAt wx b (sDict l k)) (λ_ _ _ ⟨b,h1,h2⟩ he=>⟨b,h1,h2.ext he⟩)
   ·intro W hd;conv=>whnf
    repeat(rintro v ⟨b,rfl,hD⟩;(conv=>whnf))
    exact⟨xr,_,rfl,by assumption⟩
   (conv=>whnf);apply zsd .nilIface
   ·intro W hd;conv=>whnf
    repeat(rintro v ⟨b,rfl,hD⟩;(conv=>whnf))
    exact xq
   (conv=>whnf);intro aw aa;have V:=V.drew.call aa;have hD:=λj hj=>(hD j hj).ext ((Ext.refl au).drew.trans aa)
   clear aa;(conv=>whnf);rintro v ⟨b,rfl,ag⟩;conv=>whnf
   repeat(rintro v ⟨_,rfl,_⟩;(conv=>whnf))
   refine⟨λpb aq ax af=>?_⟩;have ah:Ext aw aq:=by rw[af];exact xr.alloc _
   have V:=V.new ax af;have hD:=λj hj=>(hD j hj).ext ah
   have ag:=ag.ext ah;clear ah af ax;(conv=>whnf);refine zcv (qra _ aq) ?_;rintro r a5 ⟨rfl,rfl⟩;refine zu ?_;refine DrawV.inv (λS w'=>Mem w w' [(pb,.cells #[.pointer none] 123),(vb,.cells (bif S 12 then fnA 7 (updF (updF (vF d l k) (2*k) (pp b)) (2*k+1) (ii (vTot l k+1:Nat)))else fnA 7 (vF d l k)) 305),(pl,.cells (fnA 3 (inF (P))) 113),(sz,.cells (fnA 3 (inF (Q))) 113),(cb,curO 367 (.slice A l.length c) (vAt l 3) 0),(r5,.cells (fnA 3 (inF (λ_:Nat=>(0:Int)))) 113)]/\(∀j,j<k->DictAt w' (d j) (sDict l j))/\DictAt w' b (sDict l k)) rfl Jk ⟨V.drew,λj hj=>(hD j hj).ext xr.drew,ag.ext xr.drew⟩ ?_;have b3:=ag.n;have b4:vTot l k<=8388608:=by
    rcases(show k=0\/k=1\/k=2 by omega)with rfl|rfl|rfl
    ·exact Af _
    ·have h0:=(hD 0 Oo).n;simp only[vTot];omega
    ·have h0:=(hD 0 Oo).n;have h1:=(hD 1 Oo).n;simp only[vTot];omega
   clear V hD ag;(conv=>whnf);(iterate 6 (refine zi ?_));refine StepI.of (ii (vTot l k:Nat)) (λS W Z hp U=>zw ?_) (zw ?_)
   ·dsimp only at U;cases a1:S 12
    ·rw[a1]at U;refine LoadV.fn (v:=ii (vTot l k:Nat)) U.1 (i:=1) rfl 6 rfl Oo rfl (zw ?_);exact⟨rfl,by show Mem _ _ [_,(vb,.cells (bif S 12 then _ else _) _ _),_,_,_,_]/\_;rw[a1];exact U⟩
    ·rw[a1]at U;refine LoadV.fn (v:=ii (vTot l k:Nat)) U.1 (i:=1) rfl 6 rfl Oo (by rw[qad _ _ _ _ Oo,qad _ _ _ _ Oo];rfl) (zw ?_);exact⟨rfl,by show Mem _ _ [_,(vb,.cells (bif S 12 then _ else _) _ _),_,_,_,_]/\_;rw[a1];exact U⟩
   (iterate 5 (refine zi ?_));refine StepI.of undef (λS W Z hp U=>?_) (zw ?_)
   ·dsimp only at U;rw[Z]at U;(conv=>whnf);have hx:=U.1.get (zmc mh);refine StoreA.row U.1 (i:=1) rfl (by rw[show tsz DM 302=2 from by kernel_rfl];simp[qp];omega) (by simp[Value.oneCell']) ?_;intro wx ae _ ak;have ak:Mem w wx [(pb,.cells #[.pointer none] 123),(vb,.cells (fnA 7 (updF (updF (vF d l k) (2*k) (pp b)) (2*k+1) (ii (vTot l k+1:Nat)))) 305),(pl,.cells (fnA 3 (inF (P))) 113),(sz,.cells (fnA 3 (inF (Q))) 113),(cb,curO 367 (.slice A l.length c) (vAt l 3) 0),(r5,.cells (fnA 3 (inF (λ_:Nat=>(0:Int)))) 113)]:=by
     have e:=q8r 7 (vF d l k) (2*k) (pp b) (ii (vTot l k+1:Nat)) Oo;rw[<-e];have e2:0+0+k*tsz DM 302=2*k:=by rw[show tsz DM 302=2 from by kernel_rfl];omega
     rw[<-e2];exact ak
    (conv=>whnf);refine⟨rfl,ak,λj hj=>(U.2.1 j hj).other hx Od ?_ ae,U.2.2.other hx Od ?_ ae⟩
    all_goals
     intro v hv c;obtain⟨m,ay,rfl⟩:=AA.1 (show v∈(List.range 7).map (vF d l k)from hv);exact qab0 d l k m c
   intro a6 U;obtain⟨V,hD,ag⟩:=U;have V:Mem w a6 [(pb,.cells #[.pointer none] 123),(vb,.cells (fnA 7 (updF (updF (vF d l k) (2*k) (pp b)) (2*k+1) (ii (vTot l k+1:Nat)))) 305),(pl,.cells (fnA 3 (inF (P))) 113),(sz,.cells (fnA 3 (inF (Q))) 113),(cb,curO 367 (.slice A l.length c) (vAt l 3) 0),(r5,.cells (fnA 3 (inF (λ_:Nat=>(0:Int)))) 113)]:=V;(conv=>whnf);refine DrawV.inv (λS w'=>((S 6=true->S 3=true)/\(S 9=true->S 3=true))/\Mem w w' [(pb,.cells #[.pointer none] 123),(vb,.cells (bif S 9 then fnA 7 (updF (updF (updF (vF d l k) (2*k) (pp b)) (2*k+1) (ii (vTot l k+1:Nat))) 6 (ii (vTot l (k+1):Nat)))else fnA 7 (updF (updF (vF d l k) (2*k) (pp b)) (2*k+1) (ii (vTot l k+1:Nat)))) 305),(pl,.cells (fnA 3 (inF (P))) 113),(sz,.cells (fnA 3 (inF (Q))) 113),(cb,curO 367 (.slice A l.length c) (vAt l 3) 0),(r5,.cells (fnA 3 (inF (λ_:Nat=>(0:Int)))) 113)]/\(∀j,j<k->DictAt w' (d j) (sDict l j))/\DictAt w' b (sDict l k)) rfl Jk ⟨⟨λh=>(by cases h),λh=>(by cases h)⟩,V.drew,λj hj=>(hD j hj).ext xr.drew,ag.ext xr.drew⟩ ?_;clear V hD ag;have b5:vTot l (k+1)=vTot l k+dN (sDict l k):=rfl;(conv=>whnf);(iterate 3 (refine zi ?_));refine StepI.of (ii (vTot l k:Nat)) (λS W Z hp U=>zw ?_) (zw ?_)
   ·have h9:S 9=false:=by
     cases h:S 9
     ·rfl
     ·have:=U.1.2 h;rw[Z]at this;cases this
    have ar:=U.2.1;rw[h9]at ar;refine LoadV.fn (v:=ii (vTot l k:Nat)) ar (i:=1) rfl 6 rfl Oo (by rw[qad _ _ _ _ Oo,qad _ _ _ _ Oo];rfl) (zw ?_);exact⟨rfl,⟨λ_=>rfl,λ_=>rfl⟩,U.2⟩
   refine zi ?_;refine StepI.of (ii (dN (sDict l k):Nat)) (λS W Z hp U=>zw ?_) (zw ?_)
   ·refine zcv (qxg b (sDict l k) W U.2.2.2) ?_;rintro r be ⟨rfl,rfl⟩;exact⟨rfl,U⟩
   refine StepI.of (ii (vTot l (k+1):Nat)) (λS W Z hp U=>zw ?_) (zw ?_)
   ·refine Obl.mk ⟨by omega,by omega⟩ (zw ?_);exact⟨rfl,⟨λ_=>hp 3 Od,U.1.2⟩,U.2⟩
   refine zi ?_;refine zi ?_;refine StepI.of undef (λS W Z hp U=>?_) (zw ?_)
   ·have h6:=hp 6 Od;obtain⟨bf,ar,bm,bn⟩:=U;rw[Z]at ar;(conv=>whnf);have hx:=ar.get (zmc mh);refine StoreV.row ar (i:=1) rfl (by simp[qp]) rfl ?_;intro wx ae _ ak;have ak:Mem w wx [(pb,.cells #[.pointer none] 123),(vb,.cells (fnA 7 (updF (updF (updF (vF d l k) (2*k) (pp b)) (2*k+1) (ii (vTot l k+1:Nat))) 6 (ii (vTot l (k+1):Nat)))) 305),(pl,.cells (fnA 3 (inF (P))) 113),(sz,.cells (fnA 3 (inF (Q))) 113),(cb,curO 367 (.slice A l.length c) (vAt l 3) 0),(r5,.cells (fnA 3 (inF (λ_:Nat=>(0:Int)))) 113)]:=by
     rw[<-qiy];exact ak
    (conv=>whnf);refine⟨rfl,⟨bf.1,λ_=>bf.1 h6⟩,ak,λj hj=>(bm j hj).other hx Od ?_ ae,bn.other hx Od ?_ ae⟩
    all_goals
     intro v hv c;obtain⟨m,ay,rfl⟩:=AA.1 (show v∈(List.range 7).map (updF (updF (vF d l k) (2*k) (pp b)) (2*k+1) (ii (vTot l k+1:Nat)))from hv);unfold updF
     split
     ·intro e;cases e
     split
     ·intro e;cases e
     exact qab0 d l k m c
   intro be U;obtain⟨_,V,hD,ag⟩:=U;have V:Mem w be [(pb,.cells #[.pointer none] 123),(vb,.cells (fnA 7 (updF (updF (updF (vF d l k) (2*k) (pp b)) (2*k+1) (ii (vTot l k+1:Nat))) 6 (ii (vTot l (k+1):Nat)))) 305),(pl,.cells (fnA 3 (inF (P))) 113),(sz,.cells (fnA 3 (inF (Q))) 113),(cb,curO 367 (.slice A l.length c) (vAt l 3) 0),(r5,.cells (fnA 3 (inF (λ_:Nat=>(0:Int)))) 113)]:=V;rw[qafe d l k b Oo]at V;have V:=V.sub (Ak ..);refine zu ?_;refine⟨(k+1,λj=>if j=k then b else d j),fq,⟨by simp only;omega,λj hj=>?_,λj hj=>?_,V⟩,by simp only;omega⟩
   ·by_cases e:j=k
    ·subst e;exact am
    ·exact az j (by simp only at hj;omega)
   ·simp only at hj|-
    by_cases e:j=k
    ·subst e;rw[Ab rfl];exact ag
    ·rw[Aa e];exact hD j Oo
  ·obtain⟨p,ep⟩:∃p,p=(E k).1:=⟨_,rfl⟩
   obtain⟨q,eq⟩:∃q,q=(E k).2:=⟨_,rfl⟩
   have bg:fE l E=(y+p,q):=by
    rw[bb,qaz (k:=k) (λj hj=>by simp only[Ab (az j hj)]) Oo (by simp only[Aa am];exact am),Aa am,ey,ep,eq]
   have bh:∀w',Ext w w'->SlAt encB 1 w' B (sDict l k)->Gv DM f [.slice B z z] w' λv ao=>(∃e,v=.tuple #[.pointer none,e]/\ErrAt ao e p q)/\Ext w' ao:=λw' h1 h2=>(a0 w' h1 h2).mono λv ao ⟨h,he⟩=>by
    rcases h with⟨_,e,h3,h4⟩|⟨h0,_⟩
    ·rw[<-ep,<-eq]at h4;exact⟨⟨e,h3,h4⟩,he⟩
    ·exact absurd h0 am
   rw[<-ep]at bd;rw[<-eq]at am;refine DrawV.free Jk Jk (zw ?_);(iterate 4 (refine zd ?_));refine zsd (ii (y:Nat)) (λW hd=>zw ?_) (zw ?_)
   ·refine LoadV.fim (x:=((y:Nat):Int)) (V.drew.call hd) (b:=pl) (F:=P) (n:=3) (t:=113) Js k (by rw[show tsz DM 3=1 from by kernel_rfl];omega) Oo al (zw ?_);exact xq
   refine zd ?_;refine zd ?_;refine zsd (ii (y:Nat)) (λW hd=>zw ?_) (zw ?_)
   ·refine LoadV.fim (x:=((y:Nat):Int)) (V.drew.call hd) (b:=pl) (F:=P) (n:=3) (t:=113) Js k (by rw[show tsz DM 3=1 from by kernel_rfl];omega) Oo al (zw ?_);exact xq
   (iterate 4 (refine zd ?_));refine zsd (ii (y:Nat)) (λW hd=>zw ?_) (zw ?_)
   ·refine LoadV.fim (x:=((y:Nat):Int)) (V.drew.call hd) (b:=pl) (F:=P) (n:=3) (t:=113) Js k (by rw[show tsz DM 3=1 from by kernel_rfl];omega) Oo al (zw ?_);exact xq
   refine zd ?_;refine zd ?_;refine zsd (.slice B z z) (λW hd=>zw ?_) (zw ?_)
   ·refine SliceV.to y (y+z) (y+z) rfl (by show(_:Int)=_;omega) (by show(_:Int)=_;omega) Oo znr Oo (λ_=>rfl) ?_;rw[show tsz DM 5=1 from by kernel_rfl,<-eB,show y+z-y=z by omega];(conv=>whnf);exact xq
   apply StepD.of (λv wx=>∃e,v=.tuple #[.pointer none,e]/\ErrAt wx e p q) (λ_ _ _ ⟨e,h1,h2⟩ he=>⟨e,h1,h2.ext he⟩)
   ·intro W hd;(conv=>whnf);refine zcv (bh W (V.drew.call hd).ext (hB.ext (V.drew.call hd).ext)) ?_;rintro v aw ⟨⟨e,rfl,hE⟩,aa⟩;exact⟨aa,e,rfl,hE⟩
   (conv=>whnf);apply StepD.of (λv wx=>∃e,v=.tuple #[.pointer none,e]/\ErrAt wx e p q) (λ_ _ _ ⟨e,h1,h2⟩ he=>⟨e,h1,h2.ext he⟩)
   ·intro W hd;(conv=>whnf);rintro v ⟨e,rfl,hE⟩;obtain⟨eb,rfl,ad⟩:=hE;(conv=>whnf);exact⟨xr,_,rfl,eb,rfl,ad⟩
   (conv=>whnf);refine zsd (.pointer none) (λW hd=>zw ?_) (zw ?_)
   ·rintro v ⟨e,rfl,eb,rfl,ad⟩;(conv=>whnf);exact xq
   apply StepD.of (λv wx=>ErrAt wx v p q) (λ_ _ _ h he=>h.ext he)
   ·intro W hd;(conv=>whnf);rintro v ⟨e,rfl,eb,rfl,ad⟩;(conv=>whnf);exact⟨xr,eb,rfl,ad⟩
   (conv=>whnf);apply zsd (.pointer none)
   ·intro W hd;conv=>whnf
    repeat(intro _ _;(conv=>whnf))
    exact xq
   (conv=>whnf);apply StepD.of (λv wx=>ErrAt wx v p q) (λ_ _ _ h he=>h.ext he)
   ·intro W hd;conv=>whnf
    repeat(rintro v ⟨eb,rfl,ad⟩;(conv=>whnf))
    exact⟨xr,_,rfl,by assumption⟩
   (conv=>whnf);intro aw aa;have V:=V.drew.call aa;clear aa;(conv=>whnf);rintro v ⟨eb,rfl,ad⟩;conv=>whnf
   repeat(intro _ _;(conv=>whnf))
   refine⟨λpb aq ax af=>?_⟩;have ah:Ext aw aq:=by rw[af];exact xr.alloc _
   have V:=V.new ax af;have ad:=ad.ext ah;clear ah af ax;(conv=>whnf);refine zcv (qk8 eb pb V (i:=0) rfl (hG.ext V.ext)) ?_;rintro r a5 ⟨rfl,ay,b6,a3,ae⟩;have bo:eb≠pb:=by
    intro e;have h1:=ad 0 _ rfl;rw[e,qa (V.get mh)]at h1;cases h1
   have ad:=(ad.ext a3).other bo ae;have V:Mem w a5 [(pb,.cells #[pp eb] 123),(vb,.cells (fnA 7 (vF (d) l (k))) 305),(pl,.cells (fnA 3 (inF (P))) 113),(sz,.cells (fnA 3 (inF (Q))) 113),(cb,curO 367 (.slice A l.length c) (vAt l 3) 0),(r5,.cells (fnA 3 (inF (λ_:Nat=>(0:Int)))) 113)]:=ay;have bp:eb≠r5:=by
    intro e;have h1:=ad 1 _ rfl;have bq:a5.heap[r5]?=some (.cells (fnA 3 (inF λ_:Nat=>(0:Int))) 113):=V.get Js;rw[e,qa bq]at h1;cases h1
   clear ay a3 ae;refine zu ?_;refine DrawV.gen (λS H w'=>Er w [(pb,.cells #[pp eb] 123),(vb,.cells (fnA 7 (vF (d) l (k))) 305),(pl,.cells (fnA 3 (inF (P))) 113),(sz,.cells (fnA 3 (inF (Q))) 113),(cb,curO 367 (.slice A l.length c) (vAt l 3) 0),(r5,.cells (bif S 17 then fnA 3 (inF P)else fnA 3 (inF λ_:Nat=>(0:Int))) 113)] (errO (y+p) q) (λb=>pp b) errV errV (S 14) (S 15) (S 18) (H 14) (H 15) (H 18) w'/\CellsAt w' eb 0 [ii p,.iface 83 (ii q)]) rfl Jk (λH=>⟨Er.start V.drew,ad.ext xr.drew⟩) ?_;clear V ad;(conv=>whnf);refine StepG.of (.agg (fnA 3 (inF P))) (λS H W Z hp U=>zw ?_) (zw ?_)
   ·refine LoadA.mem U.1.mem (i:=2) rfl (by simp[qp];rfl) (zw ?_);exact⟨rfl,U⟩
   refine zg ?_;refine zg ?_;refine StepG.of (ii (y:Nat)) (λS H W Z hp U=>zw ?_) (zw ?_)
   ·refine LoadV.fim (x:=((y:Nat):Int)) U.1.mem (b:=pl) (F:=P) (n:=3) (t:=113) Js k (by rw[show tsz DM 3=1 from by kernel_rfl];omega) Oo al (zw ?_);exact⟨rfl,U⟩
   refine StepG.of (pp eb) (λS H W Z hp U=>zw ?_) (zw ?_)
   ·refine zr U.1.mem 0 ?_;exact⟨rfl,U⟩
   refine zg ?_;refine zg ?_;refine StepG.of (ii p) (λS H W Z hp U=>zw ?_) (zw ?_)
   ·refine LoadV.of (U.2 0 _ rfl) (zw ?_);exact⟨rfl,U⟩
   refine zg ?_;refine StepG.of (pp eb) (λS H W Z hp U=>zw ?_) (zw ?_)
   ·refine zr U.1.mem 0 ?_;exact⟨rfl,U⟩
   refine zg ?_;refine zg ?_;refine StepG.of (.iface 83 (ii q)) (λS H W Z hp U=>zw ?_) (zw ?_)
   ·refine LoadV.of (U.2 1 _ rfl) (zw ?_);exact⟨rfl,U⟩
   refine zg ?_;refine StepG.any (λS H W Z hp U=>?_) (zw ?_)
   ·dsimp only at U;rw[Z]at U;(conv=>whnf);refine⟨λx wx hb hw=>?_⟩;subst hb hw;(conv=>whnf);exact⟨trivial,U.1.alloc,U.2.ext (xr.alloc _)⟩
   refine StepG.any (λS H W Z hp U=>?_) (zw ?_)
   ·have h4:S 14=true:=hp 14 Od;dsimp only at U;rw[Z,h4]at U;obtain⟨nb,hv,h3,_⟩:=U.1.see;rw[ql hv];(conv=>whnf);exact⟨trivial,by show Er _ _ _ _ _ _ (S 14) true (S 18) _ _ _ _;rw[h4];exact h3,U.2⟩
   refine zg ?_;refine StepG.of undef (λS H W Z hp U=>?_) (zw ?_)
   ·dsimp only at U;rw[Z]at U;(conv=>whnf);refine U.1.store (i:=5) rfl (by simp[qp]) (qa4 3 _) rfl ?_;intro wx ae hx;(conv=>whnf);exact⟨rfl,hx,U.2.other bp ae⟩
   refine StepG.any (λS H W Z hp U=>?_) (zw ?_)
   ·have h4:S 15=true:=hp 15 Od;dsimp only at U;rw[Z,h4]at U;obtain⟨nb,hv,h3⟩:=U.1.see2;rw[ql hv];(conv=>whnf);exact⟨trivial,by show Er _ _ _ _ _ _ (S 14) (S 15) true _ _ _ _;rw[h4];exact h3,U.2⟩
   intro H a6 U;obtain⟨nb,ai,aj,V⟩:=U.1.done;rw[ql ai,ql aj];clear U;have V:Mem w a6 ((nb,errO (y+p) q)::[(pb,.cells #[pp eb] 123),(vb,.cells (fnA 7 (vF (d) l (k))) 305),(pl,.cells (fnA 3 (inF (P))) 113),(sz,.cells (fnA 3 (inF (Q))) 113),(cb,curO 367 (.slice A l.length c) (vAt l 3) 0),(r5,.cells (fnA 3 (inF (P))) 113)]):=V;(conv=>whnf);refine qd (R:=λv w'=>FndR l E v w'/\Ext w w') (zw ?_);refine LoadA.mem V (i:=6) rfl (by simp[qp];rfl) (zw ?_);exact⟨.inl ⟨by rw[bg];exact am,P,errV nb,rfl,⟨nb,rfl,by rw[bg];exact CellsAt.mem V mh⟩⟩,V.ext⟩
 obtain rfl:k=3:=by omega
 have br:(fE l E).2=0:=by
  rw[bb];exact q6 λj hj=>by simp only[Ab (az j hj)]
 refine DrawV.inv (λS w'=>Mem w w' [(vb,.cells (fnA 7 (vF (d) l (3))) 305),(pl,.cells (fnA 3 (inF (P))) 113),(sz,.cells (fnA 3 (inF (Q))) 113),(cb,curO 367 (.slice A l.length c) (vAt l 3) 0),(r5,.cells (bif S 3 then fnA 3 (inF P)else fnA 3 (inF λ_:Nat=>(0:Int))) 113)]/\∀j,j<3->DictAt w' (d j) (sDict l j)) rfl Jk ⟨V.drew,λj hj=>(hD j hj).ext xr.drew⟩ ?_;clear V hD;(conv=>whnf);refine zi ?_;refine StepI.of (.agg (fnA 3 (inF P))) (λS W Z hp U=>zw ?_) (zw ?_)
 ·refine LoadA.mem U.1 (i:=1) rfl (by simp[qp];rfl) (zw ?_);exact⟨rfl,U⟩
 refine zi ?_;refine StepI.of undef (λS W Z hp U=>?_) (zw ?_)
 ·dsimp only at U;rw[Z]at U;(conv=>whnf);have hx:W.heap[r5]?=some (.cells (fnA 3 (inF λ_:Nat=>(0:Int))) 113):=U.1.get Js;refine StoreA.row U.1 (i:=4) rfl (by simp[qp]) (qa4 3 P) λwx ae _ ak=>zw ?_;refine⟨rfl,ak,λj hj=>(U.2 j hj).other hx Od ?_ ae⟩;intro v hv c;obtain⟨m,ay,rfl⟩:=AA.1 (show v∈(List.range 3).map (inF λ_:Nat=>(0:Int))from hv);intro e;cases e
 refine zi ?_;intro aq U;obtain⟨V,hD⟩:=U;have V:Mem w aq [(vb,.cells (fnA 7 (vF (d) l (3))) 305),(pl,.cells (fnA 3 (inF (P))) 113),(sz,.cells (fnA 3 (inF (Q))) 113),(cb,curO 367 (.slice A l.length c) (vAt l 3) 0),(r5,.cells (fnA 3 (inF (P))) 113)]:=V;(conv=>whnf);refine qd (R:=λv w'=>FndR l E v w'/\Ext w w') (zw ?_);refine LoadA.mem V (i:=4) rfl (by simp[qp];rfl) (zw ?_);exact⟨.inr ⟨br,vb,P,rfl,λk Z=>hP k Z,d,V.get mh,hD⟩,V.ext⟩
def VVwR(l:LB)(v:DF)(w:DA):Prop:=
 ((wE l).2≠0/\∃e,v=.tuple #[.pointer none,e]/\ErrAt w e (wE l).1 (wE l).2)\/((wE l).2=0/\∃b,v=.tuple #[pp b,.nilIface]/\VocAt w b l)
theorem qqi(l:LB)(k:Nat):(sDict l k).length<=l.length:=by
 grind [sDict]
theorem qwh(l:LB)(A:oA)(c:Nat)(w:DA)(hS:SlAt encB 1 w A l)(hc:l.length<=c)(hl:l.length<=70368744177664)(hG:ErrTyp w):
  Gv DM 95 [.slice A l.length c] w λv w'=>VVwR l v w'/\Ext w w':=by
 have Z:=q28 l A c w hS hc hl hG 164 (λk=>dE (sDict l k)) (λk _=>AE (AE (q8a (sDict l k)) (qqi l k)) Oo) (λk _ w' B c' hx hB aa=>(q2u (sDict l k) B c' w' hB aa (by have:=qqi l k;omega)).mono λv ad ⟨h,W⟩=>⟨by
   rcases h with⟨H,e,h1,h2⟩|⟨H,b,h1,_,h2⟩
   ·exact .inl ⟨H,e,h1,h2⟩
   ·exact .inr ⟨H,b,h1,h2⟩,W⟩)
 have hE:fE l (λk=>dE (sDict l k))=wE l:=rfl;refine ze Tryz.func95 Tryz.ntmps95 ?_;refine zcv (Z) ?_;rintro v w1 ⟨⟨H,G,e,rfl,eb,rfl,V⟩|⟨H,b,G,rfl,ae,hV⟩,W⟩
 all_goals
  rw[hE]at H;(conv=>whnf);refine znm (Mem.nil w1) λt5 w2 U=>zw ?_;refine StoreA.all U (i:=0) rfl (by rfl) (qa4 3 G) λw3 U=>zu ?_
 ·rw[hE]at V;exact⟨.inl ⟨H,_,rfl,eb,rfl,CellsAt.ext V U.ext⟩,W.trans U.ext⟩
 ·exact⟨.inr ⟨H,b,rfl,VocAt.ext hV U.ext⟩,W.trans U.ext⟩
theorem VocAt.cell(h:VocAt w b l):∃d:Nat->Nat,(∀k,k<3->w.cell? ⟨b,2*k,none⟩=some (.pointer (some ⟨d k,0,none⟩))/\w.cell? ⟨b,2*k+1,none⟩=some (ii (vTot l k+1:Nat))/\DictAt w (d k) (sDict l k))/\
  w.cell? ⟨b,6,none⟩=some (ii (vTot l 3:Nat)):=by
 obtain⟨d,H,U⟩:=h;refine⟨d,λk V=>⟨?_,?_,U k V⟩,?_⟩
 ·rw[qa H,qix 7 _ _ Oo,vF,Aa Oo,Ab Oo,Ab Oo,show 2*k/2=k by omega]
 ·rw[qa H,qix 7 _ _ Oo,vF,Aa Oo,Ab Oo,Aa Oo,show(2*k+1)/2=k by omega]
 ·rw[qa H,qix 7 _ _ Oo,vF,Ab rfl]
theorem VocAt.tot(h:VocAt w b l)(U:k<=3):vTot l k<=12582912:=by
 obtain⟨d,_,H⟩:=h;have V:=(H 0 Oo).n;have W:=(H 1 Oo).n;have Z:=(H 2 Oo).n
 rcases(show k=0\/k=1\/k=2\/k=3 by omega)with rfl|rfl|rfl|rfl<;>simp only[vTot]<;>omega
theorem q7b(b:Nat)(l:LB)(id:Nat)(w:DA)(h:VocAt w b l)(hid:id<=16777216):
  Gv DM 302 [pp b,ii id] w λr w'=>r=ii (if id=0\/vTot l 3<id then -1 else(qb2 l id:Int))/\Ext w w':=by
 obtain⟨d,H,U⟩:=h.cell;have V:=λk (W:k<=3)=>h.tot W
 refine ze Tryz.func302 Tryz.ntmps302 ?_;refine zC (λ_=>zu ?_) (λ_=>zu ?_)
 ·grind [Ext.refl]
 refine LoadV.of U (zw ?_);refine zt ?_;refine zC (λ_=>zw ?_) (λ_=>zw ?_)
 ·grind [Ext.refl]
 rw[Aa Oo];refine qq (λi:Nat=>[(0,pp b),(1,ii id),(5,ii i)])
  (λi w'=>i<=2/\(∀j,i<j->j<=2->id<=vTot l j)/\w'=w) (λi=>i) 2 fq (by grind) ?_
 rintro i w1 Z ⟨i1,hj,rfl⟩;obtain⟨_,hf,_⟩:=H i Oo;have aa:=V i Oo;refine zu ?_;refine LoadV.of (v:=ii (vTot l i+1:Nat)) ?_ ?_
 ·rw[<-hf]
  congr 2
  rw[show tsz DM 302=2 from by kernel_rfl]
  grind
 (conv=>whnf);refine zC (λ_=>zu ?_) (λ_=>zu ?_)
 ·have ad:i≠0:=by
   grind [vTot]
  refine⟨i-1,⟨rfl,rfl,?_,trivial⟩,⟨by omega,λj h1 h2=>?_,rfl⟩,by omega⟩
  ·show ii _=ii _
   grind
  grind
 ·refine⟨Ad (Value.int .i64) ?_,xr⟩
  grind [qb2]
def qk7(w:DA):Prop:=CellsAt w 2 0 [ii 1,ii 2,ii 3]
noncomputable def qce(l:LB)(id:Nat):Option TM:=
 if id=0 then some ⟨0,⟨#[]⟩,⟨#[]⟩,⟨#[]⟩⟩else if vTot l 3<id then none else
  match dGet (sDict l (qb2 l id)) (id-(vTot l (qb2 l id)+1))with
  | some s=>qg5 ((qb2 l id+1:Nat):Int) s
  | none=>none
def q1j:DF:=.agg #[ii 0,.string ⟨#[]⟩,.string ⟨#[]⟩,.string ⟨#[]⟩]
noncomputable def qoi(l:LB)(id:Nat):DF:=
 match qce l id with
 | some t=>.tuple #[qy t,.bool true]
 | none=>.tuple #[q1j,.bool false]
theorem qq0(H:id≠0)(h:id<=vTot l 3):qb2 l id<3/\vTot l (qb2 l id)<id/\id<=vTot l (qb2 l id+1):=by
 grind [vTot,qb2]
theorem q7g(b:Nat)(l:LB)(id:Nat)(w:DA)(h:VocAt w b l)(hid:id<=16777216)(hM:MaxLenAt w)(hT:CellsAt w 4 0 qb3)(hK:qk7 w):
  Gv DM 225 [pp b,ii id] w λr w'=>r=qoi l id/\Ext w w':=by
 refine ze Tryz.func225 Tryz.ntmps225 ?_;refine znm (Mem.nil w) λr4 w1 H=>zw ?_;refine zcv (q7b b l id w1 (h.ext H.ext) hid) ?_;rintro r w2 ⟨rfl,ad⟩;have H:=H.call ad;conv=>whnf
 by_cases h0:id=0\/vTot l 3<id
 ·rw[Ab h0];refine zv ?_;refine zS H 0 λw3 H=>zw ?_;refine qd (R:=λv w'=>v=qoi l id/\Ext w w') (zw ?_);refine zl H 0 ?_;refine⟨?_,H.ext⟩;rw[qoi,qce]
  by_cases hi:id=0
  ·rw[Ab hi];subst hi;rfl
  ·rw[Aa hi,Ab Oo];show Value.tuple #[_,.bool (decide ((id:Int)=0))]=_;rw[Ax Oo];rfl
 ·rw[Aa h0];obtain⟨Z,ae,af⟩:=qq0 (l:=l) (id:=id) Oo Oo;have ag:qoi l id=match dGet (sDict l (qb2 l id)) (id-(vTot l (qb2 l id)+1))with
   | some s=>(match qg5 ((qb2 l id+1:Nat):Int) s with|some t=>.tuple #[qy t,.bool true]|none=>.tuple #[q1j,.bool false])
   | none=>.tuple #[q1j,.bool false]:=by
   grind [qoi,qce]
  rw[ag];obtain⟨k,ek⟩:∃k,k=qb2 l id:=⟨_,rfl⟩
  rw[<-ek]at Z ae af|-;obtain⟨d,hd,hn⟩:=(h.ext H.ext).cell;obtain⟨ah,ai,aj⟩:=hd k Z;have aq:=(h.tot (k:=k) Oo)
  obtain⟨i,ei⟩:∃i,i=id-(vTot l k+1):=⟨_,rfl⟩
  rw[<-ei];refine zv ?_;have hG:∃s ok,qio (sDict l k) i=.tuple #[.string s,.bool ok]/\s.size<=262144/\((ok=true/\dGet (sDict l k) i=some s.data.toList)\/(ok=false/\dGet (sDict l k) i=none)):=by
   unfold qio;cases W:dGet (sDict l k) i with
   | none=>exact⟨_,_,rfl,by decide,Js⟩
   | some s=>exact⟨⟨s.toArray⟩,_,rfl,qkh W,Js⟩
  obtain⟨s,ok,ar,ak,V⟩:=hG;refine DrawV.free Jk Jk (zw ?_);(iterate 6 (refine zd ?_));apply zsd (.pointer (some ⟨d k,0,none⟩))
  ·intro wd U;(conv=>whnf);refine LoadV.of (v:=.pointer (some ⟨d k,0,none⟩)) ?_ ?_
   ·have:=((Ext.refl w2).drew.trans U).cell ah;rw[<-this]
    congr 2
    rw[show tsz DM 302=2 from by kernel_rfl]
    grind
   (conv=>whnf);exact xq
  (conv=>whnf);(iterate 7 (refine zd ?_));apply zsd (ii (vTot l k+1:Nat))
  ·intro wd U;(conv=>whnf);refine LoadV.of (v:=ii (vTot l k+1:Nat)) ?_ ?_
   ·have:=((Ext.refl w2).drew.trans U).cell ai;rw[<-this]
    congr 2
    rw[show tsz DM 302=2 from by kernel_rfl]
    grind
   (conv=>whnf);exact xq
  (conv=>whnf);apply zsd (ii (i:Nat))
  ·intro wd U;(conv=>whnf);refine Obl.mk ⟨by omega,by omega⟩ (zw ?_)
   grind [Ext.refl]
  (conv=>whnf);apply zsd (.tuple #[.string s,.bool ok])
  ·intro wd U;(conv=>whnf);refine zcv (qxf (d k) (sDict l k) i wd (aj.ext ((Ext.refl w2).drew.trans U)) Oo) ?_
   simp_all
  (conv=>whnf);(iterate 5 (refine zd ?_));intro w3 aa;have H:=H.drew.call aa;clear aa;refine zu ?_;have al:((k+1:Nat):Int)=1\/((k+1:Nat):Int)=2\/((k+1:Nat):Int)=3:=by omega
  refine LoadV.of (v:=ii (k+1:Nat)) ?_ ?_
  ·have au:=λj v (hv:([ii 1,ii 2,ii 3]:DK)[j]?=some v)=>(CellsAt.ext hK H.ext) j v hv
   rw[show tsz DM 3=1 from by kernel_rfl]
   grind
  (conv=>whnf);obtain⟨t,e,am,an⟩:∃t e,qgt ((k+1:Nat):Int) s.data.toList=.tuple #[qy t,ii (e:Nat)]/\((e=0/\qg5 ((k+1:Nat):Int) s.data.toList=some t)\/(e≠0/\qg5 ((k+1:Nat):Int) s.data.toList=none)):=by
   unfold qgt;cases W:qg5 ((k+1:Nat):Int) s.data.toList with
   | none=>exact⟨⟨0,⟨#[]⟩,⟨#[]⟩,⟨#[]⟩⟩,170,rfl,Js⟩
   | some t=>grind
  refine zcv (q7e ((k+1:Nat):Int) al s ak w3 (hM.ext H.ext) (hT.ext H.ext)) ?_;rintro r w4 ⟨rfl,ao⟩;have H:=H.call ao;rw[am];(conv=>whnf);refine znm H λt9 w5 H=>zw ?_;refine zS H 0 λw6 H=>zw ?_
  rcases V with⟨rfl,W⟩|⟨rfl,W⟩
  ·rw[W];dsimp only
   rcases an with⟨rfl,hr⟩|⟨he,hr⟩
   ·rw[hr];refine zv ?_;refine zl H 0 ?_;refine zS H 1 λw7 H=>zw ?_;refine qd (R:=λv w'=>v=.tuple #[qy t,.bool true]/\Ext w w') (zw ?_);refine zl H 1 ?_;exact⟨rfl,H.ext⟩
   ·rw[hr];refine zv ?_;refine zS H 1 λw7 H=>zw ?_;refine qd (R:=λv w'=>v=.tuple #[q1j,.bool false]/\Ext w w') (zw ?_);refine zl H 1 ?_;exact⟨rfl,H.ext⟩
  ·rw[W];dsimp only;refine zv ?_;refine zS H 1 λw7 H=>zw ?_;refine qd (R:=λv w'=>v=.tuple #[q1j,.bool false]/\Ext w w') (zw ?_);refine zl H 1 ?_;exact⟨rfl,H.ext⟩
def zTM:TM:=⟨0,⟨#[]⟩,⟨#[]⟩,⟨#[]⟩⟩
noncomputable def uT(l:LB)(q:Nat->Nat)(j:Nat):TM:=(qce l (q j)).getD zTM
noncomputable def q4Of(l:LB)(q:Nat->Nat):Q4:=⟨uT l q 1,uT l q 2,uT l q 3,uT l q 0⟩
def zQ:Q4:=⟨zTM,zTM,zTM,zTM⟩
def idsV(q:Nat->Nat):DF:=.agg #[ii (q 0:Nat),ii (q 1:Nat),ii (q 2:Nat),ii (q 3:Nat)]
open Classical in
noncomputable def qj1(l:LB)(q:Nat->Nat):DF:=
 if ∀j,j<4->qce l (q j)≠none then .tuple #[q4 (q4Of l q),.bool true]else .tuple #[q4 zQ,.bool false]
noncomputable def aT(l:LB)(q:Nat->Nat)(k j:Nat):TM:=if j<k then uT l q j else zTM
noncomputable def arrT(l:LB)(q:Nat->Nat)(k:Nat):Q4:=⟨aT l q k 0,aT l q k 1,aT l q k 2,aT l q k 3⟩
theorem q7n(l:LB)(q:Nat->Nat)(k:Nat)(H:k<4):((qm (arrT l q k)).take (k*4)++encT (uT l q k)++(qm (arrT l q k)).drop (k*4+4))=qm (arrT l q (k+1)):=by
 rcases(show k=0\/k=1\/k=2\/k=3 by omega)with rfl|rfl|rfl|rfl<;>rfl
theorem q7c(b:Nat)(l:LB)(q:Nat->Nat)(w:DA)(h:VocAt w b l)(hq:∀j,j<4->q j<=16777216)(hM:MaxLenAt w)(hT:CellsAt w 4 0 qb3)(hK:qk7 w):
  Gv DM 145 [pp b,idsV q] w λr w'=>r=qj1 l q/\Ext w w':=by
 unfold idsV;refine ze Tryz.func145 Tryz.ntmps145 ?_;refine znm (Mem.nil w) ?_;intro t3 w1 H;refine znm H ?_;intro r4 w2 H;refine znm H ?_;intro V w3 H;refine zl H 2 ?_;obtain⟨W,U⟩:∃W,W=(t3,Obj.cells #[ii (q 0:Nat),ii (q 1:Nat),ii (q 2:Nat),ii (q 3:Nat)] 95):=⟨_,rfl⟩
 have H:Mem w w3 [(V,.cells (qm (arrT l q 0)).toArray 166),(r4,.cells (qm zQ).toArray 47),W]:=by rw[U];exact H
 clear U;refine qq (λk:Nat=>[(0,pp b),(4,pp r4),(5,.bool false),(6,pp V),(11,.agg #[ii (q 0:Nat),ii (q 1:Nat),ii (q 2:Nat),ii (q 3:Nat)]),(12,ii k)])
  (λk w'=>k<=4/\(∀j,j<k->qce l (q j)≠none)/\Mem w w' [(V,.cells (qm (arrT l q k)).toArray 166),(r4,.cells (qm zQ).toArray 47),W]) (λk=>4-k) 0
  fq ⟨by omega,λj h=>by omega,H⟩ ?_
 clear H;rintro k w4 af ⟨k1,hj,H⟩;conv=>whnf
 (repeat'(first|refine zp ?_|refine zC (λ_=>zw ?_) (λ_=>zw ?_)|(refine zJ 0 ?_;(conv=>whnf))))
 ·have aa:=hq k Oo;refine⟨ii (q k:Nat),?_,?_⟩
  ·rw[show k*tsz DM 3=k from by rw[show tsz DM 3=1 from by kernel_rfl];omega]
   rcases(show k=0\/k=1\/k=2\/k=3 by omega)with rfl|rfl|rfl|rfl<;>rfl
  (conv=>whnf);refine zcv (q7g b l (q k) w4 (h.ext H.ext) aa (hM.ext H.ext) (hT.ext H.ext) (CellsAt.ext hK H.ext)) ?_;rintro r w5 ⟨rfl,ad⟩;have H:=H.call ad;unfold qoi;cases hv:qce l (q k)with
  | none=>
   dsimp only;have hV:qj1 l q=.tuple #[q4 zQ,.bool false]:=by rw[qj1,Aa (λh=>h k Oo hv)]
   rw[hV];unfold q1j;refine znm H ?_;intro t9 w6 H;refine zS H 0 λw7 H=>zu ?_;refine zS H 2 ?_;intro w8 H;refine qd (R:=λv w'=>v=.tuple #[q4 zQ,.bool false]/\Ext w w') ?_;refine zl H 2 ?_;exact⟨rfl,H.ext⟩
  | some t=>
   dsimp only;have ae:uT l q k=t:=by rw[uT,hv];rfl
   refine znm H ?_;intro t9 w6 H;refine zS H 0 λw7 H=>zu ?_;refine zl H 0 ?_;refine zv ?_;refine StoreA.mem H (i:=1) rfl ?_ (by simp[Value.oneCell']) ?_
   ·rw[show tsz DM 45=4 from by kernel_rfl];show 0+k*4+4<=16;omega
   intro w8 H;refine zu ?_;refine⟨k+1,fq,⟨by omega,λj ag=>?_,?_⟩,by omega⟩
   ·by_cases e:j=k
    ·subst e;rw[hv];simp
    ·exact hj j Oo
   ·have H:=H.sub (Ak ..);have e:=q7n l q k Oo;rw[ae]at e;rw[<-e];rw[show tsz DM 45=4 from by kernel_rfl,As]at H;exact H
 obtain rfl:k=4:=by omega
 have hV:qj1 l q=.tuple #[q4 (q4Of l q),.bool true]:=by rw[qj1,Ab hj]
 rw[hV];have Z:CellsAt w4 V 0 (qm (arrT l q 4)):=CellsAt.mem H mh;refine LoadA.cells (qr Z 0 Oo) rfl (zw ?_);refine zJ 1 ?_;(conv=>whnf);refine LoadA.cells (qr Z 1 Oo) rfl (zw ?_);refine zJ 2 ?_;(conv=>whnf);refine LoadA.cells (qr Z 2 Oo) rfl (zw ?_);refine zJ 3 ?_;(conv=>whnf);refine LoadA.cells (qr Z 3 Oo) rfl ?_;refine zS H 1 ?_;intro w8 H;refine qd (R:=λv w'=>v=.tuple #[q4 (q4Of l q),.bool true]/\Ext w w') ?_;refine zl H 1 ?_;exact⟨rfl,H.ext⟩
theorem VocAt.other{x:Nat}{t:DD}(h:VocAt w b l)(W:w.heap[x]?=some (.cells cs t fz))(ht:t≠395)(U:t≠305)(hc:∀v∈cs.toList,∀c:Nat,v≠.int .u8 c)(Z:∀c,c≠x->w'.heap[c]?=w.heap[c]?):VocAt w' b l:=by
 obtain⟨d,H,h2⟩:=h;have V:b≠x:=by
  intro e;subst e;rw[W]at H
  injection H with H
  injection H with _ H _
  exact U H
 exact⟨d,by rw[Z b V];exact H,λk hk=>(h2 k hk).other W ht hc Z⟩
theorem TreeAt.other{x:Nat}{v:DF}(h:TreeAt w b l)(hx:w.heap[x]?=some (.cells #[v] 38 fz))(hv:∀(k:IntKind) (c:Int),v≠.int k c)(hw:∀c,c≠x->w'.heap[c]?=w.heap[c]?):TreeAt w' b l:=by
 have U:∀(z:LB),∀y∈z,∀u∈(#[v]:DN).toList,(encB y)[0]?≠some u:=λz y _ u hu e=>by
  simp only[Ay,Ci,or_false]at hu;subst hu;cases e;exact hv _ _ rfl
 refine⟨λk hk=>?_,h.n,h.wd⟩;obtain⟨P,cp,S,cs,V,h1,h2,h3,h4,W⟩:=h.lv k hk;refine⟨P,cp,S,cs,V,h1.other ?_ hw,h2.other hx (U _) (λ_ _ e=>by cases e) hw,h3.other hx (U _) (λ_ _ e=>by cases e) hw,h4,?_⟩
 ·intro e;have h6:=h1 0 _ rfl;rw[e,qa hx]at h6;have Z:(#[v]:DN)[8*k+0]?=some (ii (vNum l k)):=h6
  rcases Bk k with rfl|aa
  ·exact hv _ _ (AR Z)
  ·rw[Bz Ys]at Z;cases Z
 ·rcases W with W|⟨W,h6,vb,Z,H⟩
  ·exact .inl W
  ·refine .inr ⟨W,h6,vb,Z,?_⟩;rw[hw vb ?_]
   ·exact H
   ·intro e;subst e;rw[hx]at H
    injection H with H
    injection H with _ H _
    exact absurd H Od
theorem qjr(V H:Nat)(W:Mem w0 w ((V,.cells #[.nilIface] 38)::M)):
  GvD DM 232 [pp V,ii H] w λw'=>Ext w w':=by
 refine gvD Jk Tryz.func232 rfl Tryz.ntmps232 rfl (zw ?_);refine znm (Mem.nil w) ?_;intro t4 Z U;refine LoadV.mem (W.call U.ext) (i:=0) rfl rfl (zw ?_);refine zcv (qra _ Z) ?_;rintro r w2 ⟨rfl,rfl⟩;refine zu ?_;exact U.ext
def Mv(w0:DA)(M:DJ)(t4 c5 e:Nat)(o:Obj)(H U V:Bool)(W Z:DF)(w:DA):Prop:=
 (V=false/\Er w0 ((t4,.cells #[pp e] 123)::(c5,.cells #[errV e] 38)::M) o (λb=>pp b) errV errV H U false W Z undef w)\/
 (V=true/\H=true/\U=true/\∃nb,Mem w0 w ((nb,o)::(t4,.cells #[pp e] 123)::(c5,.cells #[errV nb] 38)::M))
theorem Mv.top{t4 c5 e:Nat}{o:Obj}{H U V:Bool}{W Z:DF}(h:Mv w0 M t4 c5 e o H U V W Z w):
  ∃X,Mem w0 w ((t4,.cells #[pp e] 123)::X):=by
 rcases h with⟨_,h⟩|⟨_,_,_,nb,h⟩
 ·exact⟨_,h.mem⟩
 ·exact⟨_,h.sub (Ak ..)⟩
theorem qjq(c5 e p q V:Nat)(hm:Mem w0 w ((c5,.cells #[errV e] 38)::M))(Z:CellsAt w e 0 [ii p,.iface 83 (ii q)])(hG:ErrTyp w)(hp:p<=1152921504606846976)(ao:V<=1152921504606846976):
  GvD DM 232 [pp c5,ii V] w λw'=>∃e',Mem w0 w' ((e',errO (p+V) q)::(c5,.cells #[errV e'] 38)::M):=by
 refine gvD Jk Tryz.func232 rfl Tryz.ntmps232 rfl (zw ?_);refine⟨λt4 w1 ai ag=>?_⟩;have ah:Ext w w1:=by rw[ag];exact xr.alloc _
 have hm:=hm.new ai ag;have Z:=Z.ext ah;have hG:=hG.ext ah;clear ag ai ah;refine zr hm 1 ?_;refine zcv (qk8 e t4 hm (i:=0) rfl hG) ?_;rintro r w2 ⟨rfl,aj,aq,af,ad⟩;have al:e≠t4:=by
  intro e1;have h1:=Z 0 _ rfl;rw[e1,qa (hm.get mh)]at h1;cases h1
 have Z:=(Z.ext af).other al ad;have hm:Mem w0 w2 ((t4,.cells #[pp e] 123)::(c5,.cells #[errV e] 38)::M):=aj;have ak:e≠c5:=by
  intro e1;have h1:=Z 0 _ rfl;rw[e1,qa (hm.get (zmc mh))]at h1;cases h1
 clear aj af ad;refine zu ?_;refine DrawV.gen (λS H w'=>Mv w0 M t4 c5 e (errO (p+V) q) (S 12) (S 13) (S 15) (H 12) (H 13) w'/\CellsAt w' e 0 [ii p,.iface 83 (ii q)]) rfl Jk (λH=>⟨.inl ⟨rfl,Er.start hm.drew⟩,Z.ext xr.drew⟩) ?_;clear hm Z;(conv=>whnf);refine zg ?_;refine StepG.of (pp e) (λS H wd hk hp U=>zw ?_) (zw ?_)
 ·obtain⟨X,hX⟩:=U.1.top;refine zr hX 0 ?_;exact⟨rfl,U⟩
 refine zg ?_;refine zg ?_;refine StepG.of (ii p) (λS H wd hk hp U=>zw ?_) (zw ?_)
 ·refine LoadV.of (U.2 0 _ rfl) (zw ?_);exact⟨rfl,U⟩
 refine zg ?_;refine zg ?_;refine StepG.of (pp e) (λS H wd hk hp U=>zw ?_) (zw ?_)
 ·obtain⟨X,hX⟩:=U.1.top;refine zr hX 0 ?_;exact⟨rfl,U⟩
 refine zg ?_;refine zg ?_;refine StepG.of (.iface 83 (ii q)) (λS H wd hk hp U=>zw ?_) (zw ?_)
 ·refine LoadV.of (U.2 1 _ rfl) (zw ?_);exact⟨rfl,U⟩
 refine zg ?_;refine StepG.any (λS H wd hk hp U=>?_) ?_
 ·dsimp only at U;rw[hk]at U;obtain⟨⟨W,hE⟩|⟨_,aa,_⟩,Z⟩:=U
  ·(conv=>whnf);refine⟨λx wx hb hw=>?_⟩;subst hb hw;(conv=>whnf);exact⟨trivial,.inl ⟨W,hE.alloc⟩,Z.ext (xr.alloc _)⟩
  ·cases aa
 refine StepG.any (λS H wd hk hp U=>?_) (zw ?_)
 ·have aa:S 12=true:=hp 12 Od;dsimp only at U;rw[hk,aa]at U;obtain⟨⟨W,hE⟩|⟨_,_,ae,_⟩,Z⟩:=U
  ·obtain⟨nb,hv,h3,_⟩:=hE.see;rw[ql hv];(conv=>whnf);refine⟨trivial,.inl ⟨W,?_⟩,Z⟩;show Er _ _ _ _ _ _ (S 12) true false _ _ _ _;rw[aa];exact h3
  ·cases ae
 refine zg ?_;refine StepG.of undef (λS H wd hk hp U=>?_) ?_
 ·have ae:S 13=true:=hp 13 Od;dsimp only at U;rw[hk,ae]at U;obtain⟨⟨_,hE⟩|⟨W,_⟩,Z⟩:=U
  ·rcases hE.h with⟨_,h,_⟩|⟨aa,nb,_,hv,_,am⟩
   ·cases h
   ·have hv:=hv rfl;rw[ql hv];refine StoreV.row am (i:=2) rfl Js rfl λwx ad _ an=>zw ?_;refine⟨rfl,.inr ⟨rfl,aa,ae,nb,an⟩,Z.other ak ad⟩
  ·cases W
 intro H ar U;obtain⟨⟨W,_⟩|⟨_,_,_,nb,hm⟩,_⟩:=U
 ·cases W
 (conv=>whnf);exact⟨nb,hm.sub (.cons_cons _ (Ak ..))⟩
def OkR(E:Nat×Nat)(H:Nat->DI)(v:DF)(w:DA):Prop:=
 (E.2≠0/\∃e,v=.tuple #[.pointer none,e]/\ErrAt w e E.1 E.2)\/(E.2=0/\∃b,v=.tuple #[pp b,.nilIface]/\H b w)
theorem quh(fb n cc H:Nat)(W:oA)(w:DA)(h1:w.cell? ⟨fb,4,none⟩=some (.slice W n cc))(h2:w.cell? ⟨fb,6,none⟩=some (ii H))(ah:H<=1152921504606846976)(hG:ErrTyp w)(f:FuncId)(E:Nat×Nat)(hE:E.1<=1152921504606846976)(Ok:Nat->DI)(ai:∀b w w',Ok b w->Ext w w'->Ok b w')(aj:∀(b:Nat) (w w':DA) (x:Nat) (fz:Nat×Nat),Ok b w->w.heap[x]?=some (.cells #[.nilIface] 38 fz)->(∀c,c≠x->w'.heap[c]?=w.heap[c]?)->Ok b w')(hf:∀w',Ext w w'->Gv DM f [.slice W n cc] w' λv ae=>OkR E Ok v ae/\Ext w' ae):
  Gv DM 161 [pp fb,.func (.func f) #[] #[]] w λv w'=>OkR (if E.2=0 then E else(E.1+H,E.2)) Ok v w'/\Ext w w':=by
 refine gvW Jk Tryz.func161 rfl Tryz.ntmps161 rfl (zw ?_);refine znm (Mem.nil w) ?_;intro c5 w1 Z;refine LoadV.of (v:=ii H) (Z.ext.cell h2) ?_;refine LoadV.of (v:=.slice W n cc) (Z.ext.cell h1) (zw ?_);refine zcv (hf w1 Z.ext) ?_;rintro v w2 ⟨⟨h0,e,rfl,eb,rfl,aa⟩|⟨h0,b,rfl,hb⟩,af⟩
 ·have Z:=Z.call af;rw[Aa h0];refine StoreV.row Z (i:=0) rfl Js rfl ?_;intro w3 ad _ U;have ak:eb≠c5:=by
   intro e1;have h1:=aa 0 _ rfl;rw[e1,qa (Z.get mh)]at h1;cases h1
  have aa:=CellsAt.other aa ak ad;have U:Mem w w3 ((c5,.cells #[errV eb] 38)::[]):=U;refine LeaveV.call ((qjq c5 eb E.1 E.2 H U aa (hG.ext U.ext) hE ah).mono λw4 ⟨e',V⟩=>?_);refine qd (R:=λv w'=>OkR (E.1+H,E.2) Ok v w'/\Ext w w') ?_;refine zr V 1 ?_;exact⟨.inl ⟨h0,errV e',rfl,e',rfl,CellsAt.mem V mh⟩,V.ext⟩
 ·have Z:=Z.call af;rw[Ab h0];refine StoreV.row Z (i:=0) rfl Js rfl ?_;intro w3 ad _ U;have hb:=aj b w2 w3 c5 (0,0) hb (Z.get mh) ad;have U:Mem w w3 ((c5,.cells #[.nilIface] 38)::[]):=U;refine LeaveV.call ((qjr c5 H U).mono λw4 ag=>?_);have V:=U.call ag;refine qd (R:=λv w'=>OkR E Ok v w'/\Ext w w') ?_;refine zr V 0 ?_;exact⟨.inr ⟨h0,b,rfl,ai _ _ _ hb ag⟩,V.ext⟩
theorem qzw(fb n cc H:Nat)(W:oA)(w:DA)(h1:w.cell? ⟨fb,5,none⟩=some (.slice W n cc))(h2:w.cell? ⟨fb,7,none⟩=some (ii H))(ah:H<=1152921504606846976)(hG:ErrTyp w)(f:FuncId)(E:Nat×Nat)(hE:E.1<=1152921504606846976)(Ok:Nat->DI)(ai:∀b w w',Ok b w->Ext w w'->Ok b w')(aj:∀(b:Nat) (w w':DA) (x:Nat) (fz:Nat×Nat),Ok b w->w.heap[x]?=some (.cells #[.nilIface] 38 fz)->(∀c,c≠x->w'.heap[c]?=w.heap[c]?)->Ok b w')(hf:∀w',Ext w w'->Gv DM f [.slice W n cc] w' λv ae=>OkR E Ok v ae/\Ext w' ae):
  Gv DM 162 [pp fb,.func (.func f) #[] #[]] w λv w'=>OkR (if E.2=0 then E else(E.1+H,E.2)) Ok v w'/\Ext w w':=by
 refine gvW Jk Tryz.func162 rfl Tryz.ntmps162 rfl (zw ?_);refine znm (Mem.nil w) ?_;intro c5 w1 Z;refine LoadV.of (v:=ii H) (Z.ext.cell h2) ?_;refine LoadV.of (v:=.slice W n cc) (Z.ext.cell h1) (zw ?_);refine zcv (hf w1 Z.ext) ?_;rintro v w2 ⟨⟨h0,e,rfl,eb,rfl,aa⟩|⟨h0,b,rfl,hb⟩,af⟩
 ·have Z:=Z.call af;rw[Aa h0];refine StoreV.row Z (i:=0) rfl Js rfl ?_;intro w3 ad _ U;have ak:eb≠c5:=by
   intro e1;have h1:=aa 0 _ rfl;rw[e1,qa (Z.get mh)]at h1;cases h1
  have aa:=CellsAt.other aa ak ad;have U:Mem w w3 ((c5,.cells #[errV eb] 38)::[]):=U;refine LeaveV.call ((qjq c5 eb E.1 E.2 H U aa (hG.ext U.ext) hE ah).mono λw4 ⟨e',V⟩=>?_);refine qd (R:=λv w'=>OkR (E.1+H,E.2) Ok v w'/\Ext w w') ?_;refine zr V 1 ?_;exact⟨.inl ⟨h0,errV e',rfl,e',rfl,CellsAt.mem V mh⟩,V.ext⟩
 ·have Z:=Z.call af;rw[Ab h0];refine StoreV.row Z (i:=0) rfl Js rfl ?_;intro w3 ad _ U;have hb:=aj b w2 w3 c5 (0,0) hb (Z.get mh) ad;have U:Mem w w3 ((c5,.cells #[.nilIface] 38)::[]):=U;refine LeaveV.call ((qjr c5 H U).mono λw4 ag=>?_);have V:=U.call ag;refine qd (R:=λv w'=>OkR E Ok v w'/\Ext w w') ?_;refine zr V 0 ?_;exact⟨.inr ⟨h0,b,rfl,ai _ _ _ hb ag⟩,V.ext⟩
def fpE(l:LB)(H U:Nat×Nat):Nat×Nat:=if H.2≠0 then(H.1+28,H.2)else if U.2≠0 then(U.1+(32+hN l 4),U.2)else(0,0)
def PfR(l:LB)(H U:Nat×Nat)(V W:Nat->DI)(v:DF)(w:DA):Prop:=
 ((fpE l H U).2≠0/\∃e,v=.tuple #[.pointer none,e]/\ErrAt w e (fpE l H U).1 (fpE l H U).2)\/
 ((fpE l H U).2=0/\∃b Z tb,v=.tuple #[pp b,.nilIface]/\
  w.heap[b]?=some (.cells #[ii (hN l 2),ii (hN l 3),ii (hN l 4),ii (hN l 5),pp Z,pp tb] 241)/\V Z w/\W tb w)
theorem q0g(l:LB)(A B:oA)(w:DA)(hG:ErrTyp w)(f1 f2:FuncId)(Z E2:Nat×Nat)(an:Z.1<=1152921504606846976)(ao:E2.1<=1152921504606846976)(H U:Nat->DI)(aa:∀b w w',H b w->Ext w w'->H b w')(ai:∀(b:Nat) (w w':DA) (x:Nat) (fz:Nat×Nat),H b w->w.heap[x]?=some (.cells #[.nilIface] 38 fz)->(∀c,c≠x->w'.heap[c]?=w.heap[c]?)->H b w')(ag:∀b w w',U b w->Ext w w'->U b w')(aj:∀(b:Nat) (w w':DA) (x:Nat) (fz:Nat×Nat),U b w->w.heap[x]?=some (.cells #[.nilIface] 38 fz)->(∀c,c≠x->w'.heap[c]?=w.heap[c]?)->U b w')(aq:∀w',Ext w w'->Gv DM f1 [.slice A (hN l 4) (hN l 4)] w' λv ad=>OkR Z H v ad/\Ext w' ad)(ar:∀w',Ext w w'->Gv DM f2 [.slice B (hN l 5) (hN l 5)] w' λv ad=>OkR E2 U v ad/\Ext w' ad):
  Gv DM 94 [.agg (okF l A B).toArray,.func (.func f1) #[] #[],.func (.func f2) #[] #[]] w λv w'=>PfR l Z E2 H U v w'/\Ext w w':=by
 have h4:=q8v l 4;refine ze Tryz.func94 Tryz.ntmps94 ?_;refine znm (Mem.nil w) ?_;intro fb w1 V;have hg:=V.get mh;(conv=>whnf);refine zcv (quh fb (hN l 4) (hN l 4) 28 A w1 (by rw[qa hg];rfl) (by rw[qa hg];rfl) Oo (hG.ext V.ext) f1 Z an H aa ai (λw' he=>aq w' (V.ext.trans he))) ?_;rintro v w2 ⟨⟨W,e,rfl,eb,rfl,ae⟩|⟨W,vb,rfl,hv⟩,ak⟩
 ·have hz:Z.2≠0:=by
   intro h;rw[Ab h]at W;exact W h
  rw[Aa hz]at ae W;have hE:fpE l Z E2=(Z.1+28,Z.2):=by rw[fpE,Ab hz]
  refine zu ?_;exact⟨.inl ⟨by rw[hE];exact hz,_,rfl,eb,rfl,by rw[hE];exact ae⟩,V.ext.trans ak⟩
 ·have hz:Z.2=0:=by
   refine BY λh=>?_;rw[Aa h]at W;exact h W
  have V:=V.call ak;have hg:=V.get mh;refine zu ?_;refine zcv (qzw fb (hN l 5) (hN l 5) (32+hN l 4) B w2 (by rw[qa hg];rfl) (by rw[qa hg];rfl) Oo (hG.ext V.ext) f2 E2 ao U ag aj (λw' he=>ar w' (V.ext.trans he))) ?_;rintro v w3 ⟨⟨W,e,rfl,eb,rfl,ae⟩|⟨W,tb,rfl,ht⟩,ah⟩
  ·have af:E2.2≠0:=by
    intro h;rw[Ab h]at W;exact W h
   rw[Aa af]at ae W;have hE:fpE l Z E2=(E2.1+(32+hN l 4),E2.2):=by rw[fpE,Aa Oo,Ab af]
   refine zu ?_;exact⟨.inl ⟨by rw[hE];exact af,_,rfl,eb,rfl,by rw[hE];exact ae⟩,V.ext.trans ah⟩
  ·have af:E2.2=0:=by
    refine BY λh=>?_;rw[Aa h]at W;exact h W
   have hE:(fpE l Z E2).2=0:=by rw[fpE,Aa Oo,Aa Oo]
   have V:=V.call ah;have hv:=aa _ _ _ hv ah;refine zu ?_;have au:CellsAt w3 fb 0 [ii (hN l 2:Nat),ii (hN l 3:Nat),ii (hN l 4:Nat),ii (hN l 5:Nat)]:=λk v hv=>by
    have hk:k<4:=(Ae.1 hv).1;refine CellsAt.mem V mh k v ?_
    rcases(show k=0\/k=1\/k=2\/k=3 by omega)with rfl|rfl|rfl|rfl<;>exact hv
   refine LoadA.cells au rfl (zw ?_);refine⟨λb w4 hb hw=>?_⟩;have al:Ext w3 w4:=by rw[hw];exact xr.alloc _
   have am:=V.new hb hw;(conv=>whnf);exact⟨.inr ⟨hE,b,vb,tb,rfl,am.get mh,aa _ _ _ hv al,ag _ _ _ ht al⟩,am.ext⟩
structure PackAt(w:DA)(b:Nat)(l:LB):Prop where
 h:∃vb tb,w.heap[b]?=some (.cells #[ii (hN l 2),ii (hN l 3),ii (hN l 4),ii (hN l 5),pp vb,pp tb] 241)/\VocAt w vb (qi l)/\TreeAt w tb (qk l)
theorem PackAt.ext(h:PackAt w b l)(H:Ext w w'):PackAt w' b l:=by
 obtain⟨U,V,W,Z,h3⟩:=h;exact⟨U,V,H.get W,Z.ext H,h3.ext H⟩
def PvR(l:LB)(v:DF)(w:DA):Prop:=
 ((packE l).2≠0/\∃e,v=.tuple #[.pointer none,e]/\ErrAt w e (packE l).1 (packE l).2)\/((packE l).2=0/\∃b,v=.tuple #[pp b,.nilIface]/\PackAt w b l)
theorem qep(h:(qt l).2=0):l.length=hN l 4+hN l 5+36/\l.length<=67108864:=by
 unfold qt at h
 split at h
 ·cases h
 split at h
 ·cases h
 split at h
 ·cases h
 split at h
 ·cases h
 split at h
 ·cases h
 split at h
 ·cases h
 split at h
 ·cases h
 omega
theorem qct(h:(qt l).2=0):(qi l).length=hN l 4:=by
 have:=qep h;rw[qi,Ar,zld];omega
theorem qds(h:(qt l).2=0):(qk l).length=hN l 5:=by
 have:=qep h;rw[qk,Ar,zld];omega
theorem qye(h:(qt l).2=0):packE l=fpE l (wE (qi l)) (tE (qk l)):=by
 rw[packE,Aa Oo,fpE,CL 28,CL (32+hN l 4)]
theorem qhj{f:Nat->Nat×Nat}{B:Nat}:∀n,(∀k,k<n->(f k).1<=B)->(errF f n).1<=B
 | 0,_=>Af _
 | n+1,h=>by
  rw[errF]
  split
  ·exact qhj n λk H=>h k Oo
  ·exact h n Oo
theorem qah2(l:LB):(sE l).1<=l.length+201326592:=by
 unfold sE
 split
 ·exact AE (qhj 3 λk _=>qf8 l k _) (Nat.le_add_right _ _)
 ·rename_i V
  have H:∀k,k<3->vNum l k<=67108864:=λk U=>qc3 (qas (f:=vsF l) (n:=3) Oo k U)
  have W:qj l 0=vAt l 3:=rfl;have Z:qj l 1=qj l 0+vNum l 0:=rfl;have e2:qj l 2=qj l 1+vNum l 1:=rfl;have e3:qj l 3=qj l 2+vNum l 2:=rfl;have h1:=H 0 Oo;have h2:=H 1 Oo;have h3:=H 2 Oo;have h4:=qco l 3
  split
  ·show l.length<=_;omega
  ·split
   ·show qj l 3<=_;omega
   ·exact Af _
theorem qaho(l:LB):(wE l).1<=2*l.length+201326592:=by
 unfold wE
 split
 ·have:=qah2 l;omega
 ·rename_i V
  obtain⟨_,H⟩:=qyu (l:=l) Oo;refine qhj 3 λk U=>?_;have W:=qeh H U;have Z:=q8a (sDict l k);have h6:=qqi l k;unfold sdF
  split
  ·exact Af _
  ·show qj l k+(dE (sDict l k)).1<=_;omega
theorem qag9(l:LB):(tE l).1<=l.length:=by
 have H:∀k,(tcF l k).1<=l.length:=λk=>by
  have:=qf8 l k 1048576;have:=qco l k;unfold tcF
  split
  ·assumption
  ·split
   ·assumption
   ·exact Af _
 have U:∀k,(tvF l k).1<=l.length:=λk=>by
  unfold tvF
  split
  ·exact Ai _
  ·split
   ·show tvAt l k<=_;omega
   ·split
    ·exact Ai _
    ·exact Af _
 unfold tE
 split
 ·exact qhj 4 λk _=>H k
 ·split
  ·exact qhj 4 λk _=>U k
  ·split
   ·show tvAt l 4<=_;omega
   ·exact Af _
theorem q5h(l:LB)(A:oA)(c:Nat)(w:DA)(hS:SlAt encB 1 w A l)(hc:l.length<=c)(hl:l.length<=140737488355328)(hT:CellsAt w 3 0 qlu)(hG:ErrTyp w):
  Gv DM 37 [.slice A l.length c] w λv w'=>PvR l v w'/\Ext w w':=by
 refine ze Tryz.func37 Tryz.ntmps37 ?_;refine zcv (qzu l A c w hS hc hl hT) ?_;rintro v w1 ⟨⟨U,ev,rfl,eb,rfl,Z⟩|⟨U,A',B',rfl,hA,hB⟩,V⟩
 ·have hE:packE l=qt l:=by rw[packE,Ab U]
  refine znm (Mem.nil w1) ?_;intro t4 w2 H;refine StoreA.all H (i:=0) rfl rfl (by simp[zF,Value.oneCell']) λw3 H=>zu ?_;exact⟨.inl ⟨by rw[hE];exact U,_,rfl,eb,rfl,by rw[hE];exact CellsAt.ext Z H.ext⟩,V.trans H.ext⟩
 ·have ae:=qct U;have af:=qds U;have ai:=qep U;have hE:=qye U;refine znm (Mem.nil w1) ?_;intro t4 w2 H;refine StoreA.all H (i:=0) rfl rfl (by simp[okF,Value.oneCell']) λw3 H=>zu ?_;refine zL H 0 ?_;have ag:=hA.ext H.ext;have ah:=hB.ext H.ext;have aa:=hG.ext (V.trans H.ext);have aj:=qaho (qi l);have ak:=qag9 (qk l);refine zcv (q0g l A' B' w3 aa 95 96 (wE (qi l)) (tE (qk l)) Oo Oo (λb w=>VocAt w b (qi l)) (λb w=>TreeAt w b (qk l)) (λb w w' h he=>h.ext he) (λb w w' x fz h W hw=>h.other W Od Od (λv hv c=>by simp only[Ay,Ci,or_false]at hv;subst hv;intro e;cases e) hw) (λb w w' h he=>h.ext he) (λb w w' x fz h W hw=>h.other W (λk c e=>by cases e) hw) (λw' W=>?_) (λw' W=>?_)) ?_
  ·have:=qwh (qi l) A' (hN l 4) w' (ag.ext W) Oo Oo (aa.ext W);rw[ae]at this;exact this
  ·have:=q6u (qk l) B' (hN l 5) w' (ah.ext W) Oo Oo;rw[af]at this;refine this.mono λv al ⟨h,he⟩=>⟨?_,he⟩
   rcases h with⟨U,e,h1,h2⟩|⟨U,b,h1,_,h2⟩
   ·exact .inl ⟨U,e,h1,h2⟩
   ·exact .inr ⟨U,b,h1,h2⟩
  rintro v w4 ⟨⟨hz,e,rfl,eb,rfl,Z⟩|⟨hz,b,vb,tb,rfl,hb,hv,ht⟩,ad⟩
  ·(conv=>whnf);exact⟨.inl ⟨by rw[hE];exact hz,_,rfl,eb,rfl,by rw[hE];exact Z⟩,(V.trans H.ext).trans ad⟩
  ·(conv=>whnf);exact⟨.inr ⟨by rw[hE];exact hz,b,rfl,vb,tb,hb,hv,ht⟩,(V.trans H.ext).trans ad⟩
def pS1(l:LB):Prop:=(crcL (qi l)).toNat=leN ((l.drop (28+hN l 4)).take 4)
def pS2(l:LB):Prop:=(crcL (qk l)).toNat=leN ((l.drop (32+hN l 4+hN l 5)).take 4)
def qagz(l:LB)(i:Nat):Prop:=(∀j,j<4->qce (qi l) (tNum (qk l) i j)≠none)/\qdd (q4Of (qi l) (tNum (qk l) i))=0
def qsi(l:LB):Prop:=∀i,i<vNum (qk l) 3->qagz l i
def q0f(l:LB):Prop:=∀id,1<=id->id<=vTot (qi l) 3->∃i,i<vNum (qk l) 3/\∃j,j<4/\tNum (qk l) i j=id
open Classical in
noncomputable def poE(l:LB):Nat×Nat:=
 if(qt l).2≠0 then qt l else if ¬pS1 l then(28+hN l 4,30)else if ¬pS2 l then(32+hN l 4+hN l 5,30)
 else if(vwE (qi l)).2≠0 then(28+(vwE (qi l)).1,(vwE (qi l)).2)else if(toE (qk l)).2≠0 then(32+hN l 4+(toE (qk l)).1,(toE (qk l)).2)
 else if vNum (qk l) 3≠hN l 2 then(8,180)else if vTot (qi l) 3≠hN l 3 then(12,170)
 else if ¬qsi l then(32+hN l 4,180)else if ¬q0f l then(28,170)else(0,0)
section
variable {l:LB}
theorem qyh(h:(qt l).2≠0):poE l=qt l:=by rw[poE,Ab h]
theorem qabo(h:(qt l).2=0)(H:¬pS1 l):poE l=(28+hN l 4,30):=by grind [poE]
theorem qabp(h:(qt l).2=0)(H:pS1 l)(U:¬pS2 l):poE l=(32+hN l 4+hN l 5,30):=by grind [poE]
theorem qagw(h:(qt l).2=0)(H:pS1 l)(U:pS2 l)(V:(vwE (qi l)).2≠0):poE l=(28+(vwE (qi l)).1,(vwE (qi l)).2):=by
 grind [poE]
theorem qagv(h:(qt l).2=0)(H:pS1 l)(U:pS2 l)(V:(vwE (qi l)).2=0)(W:(toE (qk l)).2≠0):poE l=(32+hN l 4+(toE (qk l)).1,(toE (qk l)).2):=by
 grind [poE]
theorem qagu(h:(qt l).2=0)(H:pS1 l)(U:pS2 l)(V:(vwE (qi l)).2=0)(W:(toE (qk l)).2=0)(Z:vNum (qk l) 3≠hN l 2):poE l=(8,180):=by
 grind [poE]
theorem qagt(h:(qt l).2=0)(H:pS1 l)(U:pS2 l)(V:(vwE (qi l)).2=0)(W:(toE (qk l)).2=0)(Z:vNum (qk l) 3=hN l 2)(h6:vTot (qi l) 3≠hN l 3):poE l=(12,170):=by
 grind [poE]
theorem q5g(h:(qt l).2=0)(H:pS1 l)(U:pS2 l)(V:(vwE (qi l)).2=0)(W:(toE (qk l)).2=0)(Z:vNum (qk l) 3=hN l 2)(h6:vTot (qi l) 3=hN l 3)(h7:¬qsi l):poE l=(32+hN l 4,180):=by
 grind [poE]
theorem qn9(h:(qt l).2=0)(H:pS1 l)(U:pS2 l)(V:(vwE (qi l)).2=0)(W:(toE (qk l)).2=0)(Z:vNum (qk l) 3=hN l 2)(h6:vTot (qi l) 3=hN l 3)(h7:qsi l)(h8:¬q0f l):poE l=(28,170):=by
 grind [poE]
theorem qabn(h:(qt l).2=0)(H:pS1 l)(U:pS2 l)(V:(vwE (qi l)).2=0)(W:(toE (qk l)).2=0)(Z:vNum (qk l) 3=hN l 2)(h6:vTot (qi l) 3=hN l 3)(h7:qsi l)(h8:q0f l):poE l=(0,0):=by
 grind [poE]
theorem qci(h:(poE l).2=0):(qt l).2=0/\pS1 l/\pS2 l/\(vwE (qi l)).2=0/\(toE (qk l)).2=0/\vNum (qk l) 3=hN l 2/\vTot (qi l) 3=hN l 3/\qsi l/\q0f l:=by
 by_cases H:(qt l).2=0
 case neg=>grind [qyh]
 by_cases U:pS1 l
 case neg=>grind [qabo]
 by_cases V:pS2 l
 case neg=>grind [qabp]
 by_cases W:(vwE (qi l)).2=0
 case neg=>grind [qagw]
 by_cases Z:(toE (qk l)).2=0
 case neg=>grind [qagv]
 grind [qagu,qagt,qsi,q5g,qn9]
end
theorem q53{A B:DB}{p m:LB}(H:A.data.toList=fixL (crcL p).toNat 4)(U:B.data.toList=m)(V:m.length=4):seq A B=decide ((crcL p).toNat=leN m):=by
 grind [qab,qrx,crcL,qd0]
structure Ca(w0:DA)(L:DJ)(Φ:DF->DF->DJ->Prop)(o:Obj)(mk:DF->DF->Obj)(sel:DF->DF->DF)(s t c m p q a:Bool)(vs vc vm vp vq va:DF)(w:DA):Prop where
 h:(c=false/\m=false/\p=false/\q=false/\a=false/\t=false/\∃b:Nat,(s=true->vs=pp b)/\Mem w0 w ((bif s then[(b,o)]else[])++L))\/
  (c=true/\∃(b:Nat) (x y:DF) (R:DJ),vc=.tuple #[x,y]/\(m=true->vm=.tuple #[x,y])/\(p=true->vp=x)/\(q=true->vq=y)/\(a=true->va=sel x y)/\(s=true->vs=pp b)/\(s=false->t=false)/\Φ x y R/\
   Mem w0 w ((bif s then[(b,bif t then mk x y else o)]else[])++(L++R)))
section
variable {w0 w w':DA} {L:DJ} {Φ:DF->DF->DJ->Prop} {o:Obj} {mk:DF->DF->Obj} {sel:DF->DF->DF} {s t c m p q a:Bool} {vs vc vm vp vq va:DF}
theorem Ca.start(h:Mem w0 w L):Ca w0 L Φ o mk sel false false false false false false false vs vc vm vp vq va w:=⟨.inl ⟨rfl,rfl,rfl,rfl,rfl,rfl,0,Js,h⟩⟩
theorem Ca.mem(h:Ca w0 L Φ o mk sel s t c m p q a vs vc vm vp vq va w):Mem w0 w L:=by
 rcases h.h with⟨_,_,_,_,_,_,b,_,H⟩|⟨_,b,x,y,R,_,_,_,_,_,_,_,_,H⟩
 ·exact H.sub Js
 ·exact H.sub Js
theorem Ca.called(h:Ca w0 L Φ o mk sel s t false m p q a vs vc vm vp vq va w){R:DJ}(hm:Mem w w' R)(H:Φ x y R):Ca w0 L Φ o mk sel s t true m p q a vs (.tuple #[x,y]) vm vp vq va w':=by
 rcases h.h with⟨_,U,V,W,Z,h5,b,h6,h7⟩|⟨h,_⟩
 ·subst U V W Z h5;refine⟨.inr ⟨rfl,b,x,y,R,rfl,Js,Js,Js,Js,h6,λ_=>rfl,H,?_⟩⟩
  grind [qx7]
 ·cases h
theorem Ca.made(h:Ca w0 L Φ o mk sel false t c m p q a vs vc vm vp vq va w):Ca w0 L Φ o mk sel true t c m p q a (.pointer (some ⟨w.heap.size,0,none⟩)) vc vm vp vq va (w.alloc o):=by
 rcases h.h with⟨H,U,V,W,Z,h5,b,h6,h7⟩|⟨H,b,x,y,R,U,V,W,Z,h5,h6,h7,h8,h9⟩
 ·exact⟨.inl ⟨H,U,V,W,Z,h5,w.heap.size,λ_=>rfl,h7.new rfl rfl⟩⟩
 ·refine⟨.inr ⟨H,w.heap.size,x,y,R,U,V,W,Z,h5,λ_=>rfl,Js,h8,?_⟩⟩;rw[h7 rfl];exact h9.new rfl rfl
theorem Ca.moved(h:Ca w0 L Φ o mk sel s t true false p q a vs vc vm vp vq va w):∃x y,vc=.tuple #[x,y]/\Ca w0 L Φ o mk sel s t true true p q a vs (.tuple #[x,y]) (.tuple #[x,y]) vp vq va w:=by
 rcases h.h with⟨h,_⟩|⟨U,b,x,y,R,H,V,W,Z,h5,h6,h7,h8,h9⟩
 ·cases h
 ·exact⟨x,y,H,⟨(by grind)⟩⟩
theorem Ca.fst(h:Ca w0 L Φ o mk sel s t c true false q a vs vc vm vp vq va w):∃x y R,vm=.tuple #[x,y]/\Φ x y R/\Ca w0 L Φ o mk sel s t c true true q a vs vc (.tuple #[x,y]) x vq va w:=by
 rcases h.h with⟨_,h,_⟩|⟨V,b,x,y,R,W,H,Z,h4,h5,h6,h7,U,h9⟩
 ·cases h
 ·exact⟨x,y,R,H rfl,U,⟨(by grind)⟩⟩
theorem Ca.snd(h:Ca w0 L Φ o mk sel s t c true p false a vs vc vm vp vq va w):∃x y R,vm=.tuple #[x,y]/\Φ x y R/\Ca w0 L Φ o mk sel s t c true p true a vs vc (.tuple #[x,y]) vp y va w:=by
 rcases h.h with⟨_,h,_⟩|⟨V,b,x,y,R,W,H,Z,h4,h5,h6,h7,U,h9⟩
 ·cases h
 ·exact⟨x,y,R,H rfl,U,⟨(by grind)⟩⟩
theorem Ca.see(h:Ca w0 L Φ o mk sel s t c m true q a vs vc vm vp vq va w):∃x y R,vp=x/\Φ x y R:=by
 grind [h]
theorem Ca.see2(h:Ca w0 L Φ o mk sel s t c m p true a vs vc vm vp vq va w):∃x y R,vq=y/\Φ x y R:=by
 grind [h]
theorem Ca.keepF(H:∀x y,sel x y=x)(h:Ca w0 L Φ o mk sel s t c m true q false vs vc vm vp vq va w):Ca w0 L Φ o mk sel s t c m true q true vs vc vm vp vq vp w:=by
 rcases h.h with⟨_,_,h,_⟩|⟨U,b,x,y,R,V,W,Z,h4,h5,h6,h7,h8,h9⟩
 ·cases h
 ·exact⟨(by grind)⟩
theorem Ca.keepS(H:∀x y,sel x y=y)(h:Ca w0 L Φ o mk sel s t c m p true false vs vc vm vp vq va w):Ca w0 L Φ o mk sel s t c m p true true vs vc vm vp vq vq w:=by
 rcases h.h with⟨_,_,_,h,_⟩|⟨U,b,x,y,R,V,W,Z,h4,h5,h6,h7,h8,h9⟩
 ·cases h
 ·exact⟨(by grind)⟩
theorem Ca.put'(h:Ca w0 L Φ o mk sel true false c m p true a vs vc vm vp vq va w):∃(b:Nat) (x y:DF) (R:DJ),vs=pp b/\(p=true->vp=x)/\(true=true->vq=y)/\Φ x y R/\∃M,Mem w0 w ((b,o)::M)/\
  ∀{w' H},Mem w0 w' ((b,mk x y)::M)->H=pp b->Ca w0 L Φ o mk sel true true c m p true a H vc vm vp vq va w':=by
 rcases h.h with⟨_,_,_,h,_⟩|⟨Z,b,x,y,R,h1,h2,U,V,h5,h6,h7,W,h9⟩
 ·cases h
 ·exact⟨b,x,y,R,h6 rfl,U,V,W,_,h9,λhm hu=>⟨.inr ⟨Z,b,x,y,R,h1,h2,U,V,h5,λ_=>hu,Js,W,hm⟩⟩⟩
theorem Ca.put1(h:Ca w0 L Φ o mk sel true false c m true q a vs vc vm vp vq va w):∃(b:Nat) (x y:DF) (R:DJ),vs=pp b/\vp=x/\Φ x y R/\∃M,Mem w0 w ((b,o)::M)/\
  ∀{w' H},Mem w0 w' ((b,mk x y)::M)->H=pp b->Ca w0 L Φ o mk sel true true c m true q a H vc vm vp vq va w':=by
 rcases h.h with⟨_,_,h,_⟩|⟨W,b,x,y,R,Z,h2,U,h4,h5,h6,h7,V,h9⟩
 ·cases h
 ·exact⟨b,x,y,R,h6 rfl,U rfl,V,_,h9,λhm hu=>⟨.inr ⟨W,b,x,y,R,Z,h2,U,h4,h5,λ_=>hu,Js,V,hm⟩⟩⟩
theorem Ca.done(h:Ca w0 L Φ o mk sel true true true true true true true vs vc vm vp vq va w):∃(b:Nat) (x y:DF) (R:DJ),vs=pp b/\va=sel x y/\vp=x/\vq=y/\Φ x y R/\Mem w0 w ((b,mk x y)::(L++R)):=by
 grind [h]
end
def mkO(t:DD):DF->Obj
 | .agg a=>.cells a t
 | _=>.cells #[] t
def DRow(m:LB)(x:DF)(R:DJ):Prop:=
 ∃ts:List DB,(∀i t,ts[i]?=some t->dGet m i=some t.data.toList)/\ts.length=dN m/\∃B c,x=.slice B (dN m) c/\RowB 9 (ts.map Value.string) R x
theorem DRow.keep{m:LB}{R H:DJ}(h:DRow m x R)(U:∀y∈R,y∈H):DRow m x H:=by
 obtain⟨ts,V,W,B,c,Z,h4⟩:=h;exact⟨ts,V,W,B,c,Z,h4.keep λy hy _=>U y hy⟩
def PhiD(m:LB)(x y:DF)(R:DJ):Prop:=
 ((doE m).2≠0/\(doE m).1<=m.length/\x=.slice none 0 0/\y=.agg #[ii (doE m).1,ii (doE m).2])\/((doE m).2=0/\y=.agg #[ii 0,ii 0]/\DRow m x R)
theorem PhiD.slice{m:LB}{R:DJ}(h:PhiD m x y R):∃A n c,x=.slice A n c:=by
 rcases h with⟨_,_,rfl,_⟩|⟨_,_,ts,_,_,B,c,rfl,_⟩
 ·exact⟨_,_,_,rfl⟩
 ·exact⟨_,_,_,rfl⟩
theorem PhiD.agg{m:LB}{R:DJ}(h:PhiD m x y R):∃a e:Int,y=.agg #[ii a,ii e]:=by
 rcases h with⟨_,_,_,rfl⟩|⟨_,rfl,_⟩
 ·exact⟨_,_,rfl⟩
 ·exact⟨_,_,rfl⟩
theorem DvR.phi{m:LB}{v:DF}(h:DvR m w.heap.size v w')(W:Ext w w'):∃x y R,v=.tuple #[x,y]/\Mem w w' R/\PhiD m x y R:=by
 rcases h with⟨H,U,rfl⟩|⟨Z,ts,H,U,B,c,rfl,ho⟩
 ·exact⟨_,_,[],rfl,(Mem.nil w).call W,.inl ⟨H,U,rfl,rfl⟩⟩
 ·obtain⟨R,hm,hB⟩:=V.Mem.row (Mem.nil w) W ho znr;exact⟨_,_,R,rfl,hm,.inr ⟨Z,rfl,ts,H,U,B,c,rfl,hB⟩⟩
def PhiR(kind:Int)(s:DB)(x y:DF)(R:DJ):Prop:=
 R=[]/\((∃e:Int,e≠0/\(∀t,¬ReadsAs kind s.data.toList t)/\x=.agg #[ii 0,.string ⟨#[]⟩,.string ⟨#[]⟩,.string ⟨#[]⟩]/\y=ii e)\/∃t,ReadsAs kind s.data.toList t/\TermOk t/\x=qy t/\y=ii 0)
theorem RdR.phi{s:DB}{v:DF}(h:RdR kind s v):∃x y,v=.tuple #[x,y]/\PhiR kind s x y []:=by
 rcases h with⟨e,H,U,rfl⟩|⟨t,V,W,rfl⟩
 ·exact⟨_,_,rfl,rfl,.inl ⟨e,H,U,rfl,rfl⟩⟩
 ·exact⟨_,_,rfl,rfl,.inr ⟨t,V,W,rfl,rfl⟩⟩
theorem PhiR.agg{s:DB}{R:DJ}(h:PhiR kind s x y R):∃(k:Int) (a b c:DB),x=.agg #[ii k,.string a,.string b,.string c]:=by
 rcases h.2 with⟨e,_,_,rfl,_⟩|⟨t,_,_,rfl,_⟩
 ·exact⟨_,_,_,_,rfl⟩
 ·exact⟨_,_,_,_,rfl⟩
theorem PhiR.int{s:DB}{R:DJ}(h:PhiR kind s x y R):∃e:Int,y=ii e:=by
 rcases h.2 with⟨e,_,_,_,rfl⟩|⟨t,_,_,_,rfl⟩
 ·exact⟨_,rfl⟩
 ·exact⟨_,rfl⟩
structure VTm(l:LB)(k j:Nat)(ts:List TM):Prop where
 len:ts.length=vTot l k+j
 ok:∀t∈ts,TermOk t
 at_:∀k' j',(k'<k/\j'<dN (sDict l k'))\/(k'=k/\j'<j)->∃s t,dGet (sDict l k') j'=some s/\s.length<=262144/\ReadsAs ((k'+1:Nat):Int) s t/\ts[vTot l k'+j']?=some t
theorem VTm.one(h:VTm l k j ts){t:TM}(Z:TermOk t)(hd:dGet (sDict l k) j=some s)(hs:s.length<=262144)(hr:ReadsAs ((k+1:Nat):Int) s t):VTm l k (j+1) (ts++[t]):=by
 refine⟨by rw[zla,h.len];rfl,λu H=>?_,λU V hk=>?_⟩
 ·rcases AU.1 H with H|H
  ·exact h.ok u H
  ·rw[Aq.1 H];exact Z
 ·by_cases e:U=k/\V=j
  ·obtain⟨rfl,rfl⟩:=e;exact⟨s,t,hd,hs,hr,by rw[AV (by rw[h.len];omega),h.len,BD];rfl⟩
  ·obtain⟨s',t',h1,h2,h3,W⟩:=h.at_ U V Oo;refine⟨s',t',h1,h2,h3,?_⟩;rw[AS (Ae.1 W).1];exact W
theorem VTm.next(h:VTm l k (dN (sDict l k)) ts):VTm l (k+1) 0 ts:=
 ⟨h.len,h.ok,λU V W=>h.at_ U V (by
  rcases W with⟨Z,H⟩|⟨_,H⟩
  ·by_cases e:U=k
   ·subst e;exact .inr ⟨rfl,H⟩
   ·exact .inl ⟨by omega,H⟩
  ·omega)⟩
theorem qni:DM.underlying 28=some (.slice 45):=Tryz.underlying28
theorem trmI:DM.info? 45=some ((DM.info? 45).get Jk):=(Bd _).symm
theorem trmZ:((DM.info? 45).get Jk).zero=some ((((DM.info? 45).get Jk).zero).get Jk):=(Bd _).symm
theorem qxl{f:Nat->Nat×Nat}{B:Nat}:∀n,(∀k,k<n->(f k).1<=B)->(errF f n).1<=B
 | 0,_=>Af _
 | n+1,h=>by
  rw[errF]
  split
  ·exact qxl n λk H=>h k Oo
  ·exact h n Oo
theorem qah1(l:LB):(sE l).1<=l.length+201326592:=by
 unfold sE
 split
 ·exact AE (qxl 3 λk _=>qf8 l k _) (Nat.le_add_right _ _)
 ·rename_i V
  have H:∀k,k<3->vNum l k<=67108864:=λk U=>qc3 (qas (f:=vsF l) (n:=3) Oo k U)
  have W:qj l 0=vAt l 3:=rfl;have Z:qj l 1=qj l 0+vNum l 0:=rfl;have e2:qj l 2=qj l 1+vNum l 1:=rfl;have e3:qj l 3=qj l 2+vNum l 2:=rfl;have h1:=H 0 Oo;have h2:=H 1 Oo;have h3:=H 2 Oo;have h4:=qco l 3
  split
  ·show l.length<=_;omega
  ·split
   ·show qj l 3<=_;omega
   ·exact Af _
def VoW(l:LB)(base:Nat)(v:DF)(w:DA):Prop:=
 ((vwE l).2≠0/\(vwE l).1<=1125899906842624/\v=.tuple #[.slice none 0 0,fltV (vwE l).1 (vwE l).2])\/
 ((vwE l).2=0/\∃ts,VTm l 3 0 ts/\∃B c,v=.tuple #[.slice B (vTot l 3) c,fltV 0 0]/\w.ownsRow base 45 4 (.slice B (vTot l 3) c) (vTot l 3) (ts.map encT).flatten)
theorem VoW.err{base:Nat}{e:Nat}{x y:Int}(h:vwE l=(a,e))(H:e≠0)(U:a<=1125899906842624)(V:x=a)(W:y=e):VoW l base (.tuple #[.slice none 0 0,.agg #[ii x,ii y]]) w:=by
 subst V W;refine .inl ?_;rw[h];exact⟨H,U,rfl⟩
theorem VTm.vr(h:VTm l k j ts):∀H,H<k->(vrF l H).2=0:=λH V=>qab2 λW Z=>by
 rintro⟨s,h1,h2⟩;obtain⟨s',t,U,_,g2,_⟩:=h.at_ H W (.inl ⟨V,Z⟩);rw[h1]at U;cases U;exact h2 t g2
theorem qwi(l:LB)(A:oA)(c:Nat)(w:DA)(hS:SlAt encB 1 w A l)(hc:l.length<=c)(hl:l.length<=70368744177664):
  Gv DM 97 [.slice A l.length c] w λv w'=>VoW l w.heap.size v w'/\Ext w w':=by
 refine ze Tryz.func97 Tryz.ntmps97 ?_;refine znm (Mem.nil w) λr3 w1 W=>zw ?_;refine zcv (qmp l A c w1 (hS.ext W.ext) hc hl) ?_;rintro r w4 ⟨⟨hE,P,rfl⟩|⟨hE,P,hP,rfl⟩,bd⟩
 all_goals
  have W:=W.call bd;(conv=>whnf);refine znm W λsb w5 W=>zw ?_;refine znm W λfb w6 W=>zw ?_;refine StoreA.all W (i:=1) rfl (by simp[qp]) (qa4 4 P) λw7 W=>zw ?_;refine zS W 0 λw8 W=>zw ?_;refine zr W 0 ?_;refine zv ?_
 ·have W:Mem w w8 [(fb,.cells #[ii (sE l).1,ii (sE l).2] 55),(sb,.cells (fnA 4 (inF P)) 94),(r3,.cells #[ii 0,ii 0] 55)]:=W;refine DrawV.inv (λS w'=>Mem w w' [(fb,.cells #[ii (sE l).1,ii (sE l).2] 55),(sb,.cells (fnA 4 (inF P)) 94),(r3,.cells (bif S 2 then #[ii (sE l).1,ii (sE l).2]else #[ii 0,ii 0]) 55)]) rfl Jk W.drew ?_;clear W;(conv=>whnf);refine zLi ?_;refine zi ?_;refine zSi ?_;intro wz W;have W:Mem w wz [(fb,.cells #[ii (sE l).1,ii (sE l).2] 55),(sb,.cells (fnA 4 (inF P)) 94),(r3,.cells #[ii (sE l).1,ii (sE l).2] 55)]:=W;(conv=>whnf);refine qd (R:=λv w'=>VoW l w.heap.size v w'/\Ext w w') (zw ?_);refine zl W 2 ?_;exact⟨.err (a:=(sE l).1) (e:=(sE l).2) (qahm hE) hE (by have:=qah1 l;omega) rfl rfl,W.ext⟩
 refine znm W ?_;intro dv w9 W;have W:Mem w w9 ((dv,.cells (fnA 3 (λ_=>.slice none 0 0)) 291)::(fb,.cells #[ii 0,ii 0] 55)::(sb,.cells (fnA 4 (inF P)) 94)::(r3,.cells #[ii 0,ii 0] 55)::[]):=W;obtain⟨be,a3⟩:=qyu hE;(conv=>whnf);refine qq (λk:Nat=>[(0,.slice A l.length c),(3,pp r3),(4,pp sb),(6,pp dv),(7,ii k)])
  (λk w'=>k<=3/\∃G R,Mem w w' ((dv,.cells (fnA 3 (G)) 291)::(fb,.cells #[ii 0,ii 0] 55)::(sb,.cells (fnA 4 (inF P)) 94)::(r3,.cells #[ii 0,ii 0] 55)::R)/\∀m,m<k->(doE (sDict l m)).2=0/\DRow (sDict l m) (G m) R) (λk=>3-k) 0
  fq ⟨by omega,_,[],W,λm h=>by omega⟩ ?_
 clear W;rintro k bf b0 ⟨k1,G,R,W,hG⟩;(conv=>whnf);refine zC (λ_=>zw ?_) (λ_=>zw ?_)
 ·have ae:=hP k Oo;have ao:=hP (k+1) Oo;have bg:qj l (k+1)=qj l k+vNum l k:=rfl;have aq:=qeh a3 (k:=k) Oo;have bh:=qmf a3 (k:=k) Oo;have bi:=be k Oo;obtain⟨y,ey⟩:∃y,y=qj l k:=⟨_,rfl⟩
  obtain⟨z,ez⟩:∃z,z=vNum l k:=⟨_,rfl⟩
  obtain⟨B,eB⟩:∃B,B=(if c=y then A else A.map (·.add (y*1))):=⟨_,rfl⟩
  have hB:SlAt encB 1 w B (sDict l k):=by
   rw[eB,sDict,<-ey];have:=hS.cut (lo:=y) (hi:=y+z) (m:=c) Oo Oo Oo rfl
   rwa[show y+z-y=vNum l k by omega]at this
  rw[bg,<-ey,<-ez]at ao;rw[<-ey]at ae aq;rw[<-ez]at aq bi;have a4:=λw' (bj:SlAt encB 1 w' B (sDict l k))=>(q2r (sDict l k) B (c-y) w' bj Oo Oo).mono λr b1 ⟨h1,h2⟩=>h1.phi h2
  rw[bh]at a4;refine DrawV.gen (λS H w'=>Ca w ((dv,.cells (fnA 3 (G)) 291)::(fb,.cells #[ii 0,ii 0] 55)::(sb,.cells (fnA 4 (inF P)) 94)::(r3,.cells #[ii 0,ii 0] 55)::R) (PhiD (sDict l k)) (.cells #[ii 0,ii 0] 201) (λ_ y=>mkO 201 y) (λx _=>x) (S 13) (S 15) (S 9) (S 10) (S 11) (S 12) (S 14) (H 13) (H 9) (H 10) (H 11) (H 12) (H 14) w') rfl Jk (λH=>Ca.start W.drew) ?_;clear W;(conv=>whnf);refine zg ?_;refine zg ?_;refine StepG.of (.pointer (some ⟨sb,0+(k)*tsz DM 3,none⟩)) (λS H wd hk hp U=>zw ?_) (zw ?_)
  ·refine IdxV.at_ (k) Oo Oo (zw ?_);exact⟨rfl,U⟩
  refine StepG.of (ii (y:Nat)) (λS H wd hk hp U=>zw ?_) (zw ?_)
  ·refine LoadV.fim (x:=((y:Nat):Int)) U.mem (b:=sb) (F:=P) (n:=4) (t:=94) Js (k) (by rw[show tsz DM 3=1 from by kernel_rfl];omega) Oo ae (zw ?_);exact⟨rfl,U⟩
  refine zg ?_;refine zg ?_;refine StepG.of (.pointer (some ⟨sb,0+(k+1)*tsz DM 3,none⟩)) (λS H wd hk hp U=>zw ?_) (zw ?_)
  ·refine IdxV.at_ (k+1) Oo Oo (zw ?_);exact⟨rfl,U⟩
  refine StepG.of (ii (y+z:Nat)) (λS H wd hk hp U=>zw ?_) (zw ?_)
  ·refine LoadV.fim (x:=((y+z:Nat):Int)) U.mem (b:=sb) (F:=P) (n:=4) (t:=94) Js (k+1) (by rw[show tsz DM 3=1 from by kernel_rfl];omega) Oo ao (zw ?_);exact⟨rfl,U⟩
  refine StepG.of (.slice B (vNum l k) (c-y)) (λS H wd hk hp U=>zw ?_) (zw ?_)
  ·refine SliceV.to y (y+z) c rfl rfl rfl Oo Oo znr (λh=>by cases h) ?_;rw[show tsz DM 5=1 from by kernel_rfl,<-eB,show y+z-y=vNum l k by omega];(conv=>whnf);exact⟨rfl,U⟩
  refine StepG.any (λS H wd hk hp U=>?_) (zw ?_)
  ·dsimp only at U;rw[hk]at U;(conv=>whnf);refine zcv (a4 wd (hB.ext U.mem.ext)) ?_;rintro v w9 ⟨x,u,R',rfl,bk,Z⟩;exact⟨trivial,U.called bk Z⟩
  refine StepG.any (λS H wd hk hp U=>?_) (zw ?_)
  ·dsimp only at U;have h9:S 9=true:=hp 9 Od;rw[hk,h9]at U;obtain⟨x,u,hv,hK⟩:=U.moved;rw[ql hv];(conv=>whnf);exact⟨trivial,by show Ca _ _ _ _ _ _ (S 13) (S 15) (S 9) true (S 11) (S 12) (S 14) _ _ _ _ _ _ _;rw[h9];exact hK⟩
  refine StepG.any (λS H wd hk hp U=>?_) (zw ?_)
  ·dsimp only at U;have aa:S 10=true:=hp 10 Od;rw[hk,aa]at U;obtain⟨x,u,R',hv,Z,hK⟩:=U.fst;obtain⟨A1,n1,c1,rfl⟩:=Z.slice;rw[ql hv];(conv=>whnf);exact⟨trivial,by show Ca _ _ _ _ _ _ (S 13) (S 15) (S 9) (S 10) true (S 12) (S 14) _ _ _ _ _ _ _;rw[aa];exact hK⟩
  refine StepG.any (λS H wd hk hp U=>?_) (zw ?_)
  ·dsimp only at U;have aa:S 10=true:=hp 10 Od;rw[hk,aa]at U;obtain⟨x,u,R',hv,Z,hK⟩:=U.snd;obtain⟨a,e,rfl⟩:=Z.agg;rw[ql hv];(conv=>whnf);exact⟨trivial,by show Ca _ _ _ _ _ _ (S 13) (S 15) (S 9) (S 10) (S 11) true (S 14) _ _ _ _ _ _ _;rw[aa];exact hK⟩
  refine StepG.any (λS H wd hk hp U=>?_) (zw ?_)
  ·dsimp only at U;rw[hk]at U;(conv=>whnf);refine⟨λx wx hb hw=>?_⟩;subst hb hw;(conv=>whnf);exact⟨trivial,U.made⟩
  refine StepG.any (λS H wd hk hp U=>?_) (zw ?_)
  ·dsimp only at U;have ag:S 11=true:=hp 11 Od;rw[hk,ag]at U;obtain⟨x,u,R',hx,Z⟩:=U.see;obtain⟨A1,n1,c1,rfl⟩:=Z.slice;rw[hx]at U;rw[ql hx];(conv=>whnf);exact⟨trivial,by show Ca _ _ _ _ _ _ (S 13) (S 15) (S 9) (S 10) (S 11) (S 12) true _ _ _ _ _ _ _;rw[ag];exact U.keepF (λ_ _=>rfl)⟩
  refine StepG.of undef (λS H wd hk hp U=>?_) (zw ?_)
  ·dsimp only at U;have ah:S 12=true:=hp 12 Od;have ai:S 13=true:=hp 13 Od;rw[hk,ah,ai]at U;obtain⟨x,u,R',hu,Z⟩:=U.see2;obtain⟨a,e,rfl⟩:=Z.agg;rw[hu]at U;obtain⟨b,x2,u2,R2,hv,h0,h1,aj,M,au,hK⟩:=U.put';obtain rfl:=h1 rfl;rw[ql hv,ql hu];(conv=>whnf);refine zS au 0 λwx av=>zw ?_;exact⟨rfl,by show Ca _ _ _ _ _ _ (S 13) true (S 9) (S 10) (S 11) (S 12) (S 14) _ _ _ _ _ _ _;rw[ah,ai];exact hK av rfl⟩
  intro H aw U;obtain⟨t9,x,u,R',ak,ad,ax,ay,Z,W⟩:=U.done;replace ad:H 14=x:=ad;obtain⟨A1,n1,c1,ex⟩:=Z.slice;rw[ex]at ad;rw[ql ak,ql ad];clear U ak ad ax ay
  rcases Z with⟨am,bl,_,rfl⟩|⟨az,rfl,bm⟩
  ·have a0:=qaie hE (λm h=>(hG m h).1) Oo am;rw[<-ey]at a0;obtain⟨a,ea⟩:∃a:Nat,a=(doE (sDict l k)).1:=⟨_,rfl⟩
   obtain⟨e,ee⟩:∃e:Nat,e=(doE (sDict l k)).2:=⟨_,rfl⟩
   rw[<-ea,<-ee]at a0 W;rw[<-ea]at bl;rw[<-ee]at am;have bw:(e:Int)≠0:=by omega
   have W:Mem w aw ((t9,.cells #[ii a,ii e] 201)::(dv,.cells (fnA 3 (G)) 291)::(fb,.cells #[ii 0,ii 0] 55)::(sb,.cells (fnA 4 (inF P)) 94)::(r3,.cells #[ii 0,ii 0] 55)::(R++R')):=by rw[<-AG,<-AG,<-AG,<-AG];exact W
   (conv=>whnf);refine zr W 0 ?_;refine zv ?_;refine DrawV.inv (λS w'=>Mem w w' ((t9,.cells #[ii a,ii e] 201)::(dv,.cells (fnA 3 (G)) 291)::(fb,.cells #[ii 0,ii 0] 55)::(sb,.cells (fnA 4 (inF P)) 94)::(r3,.cells (bif S 10 then #[ii ((y:Int)+a),ii e]else #[ii 0,ii 0]) 55)::(R++R'))) rfl Jk W.drew ?_;clear W;(conv=>whnf);refine zi ?_;refine StepI.of (.pointer (some ⟨sb,0+k*tsz DM 3,none⟩)) (λS wd hk hp U=>zw ?_) (zw ?_)
   ·refine IdxV.at_ k Oo Oo (zw ?_);exact⟨rfl,U⟩
   refine StepI.of (ii (y:Nat)) (λS wd hk hp U=>zw ?_) (zw ?_)
   ·refine LoadV.fim (x:=((y:Nat):Int)) U (b:=sb) (F:=P) (n:=4) (t:=94) Js k (by rw[show tsz DM 3=1 from by kernel_rfl];omega) Oo ae (zw ?_);exact⟨rfl,U⟩
   refine zi ?_;refine zLi ?_;refine zi ?_;refine zi ?_;refine zLi ?_;refine zi ?_;refine zi ?_;refine zSi ?_;intro wz W;have W:Mem w wz ((t9,.cells #[ii a,ii e] 201)::(dv,.cells (fnA 3 (G)) 291)::(fb,.cells #[ii 0,ii 0] 55)::(sb,.cells (fnA 4 (inF P)) 94)::(r3,.cells #[ii ((y:Int)+a),ii e] 55)::(R++R')):=W;(conv=>whnf);refine qd (R:=λv w'=>VoW l w.heap.size v w'/\Ext w w') (zw ?_);refine zl W 4 ?_;exact⟨.err a0 am Oo Oo rfl,W.ext⟩
  ·have W:Mem w aw ((t9,.cells #[ii 0,ii 0] 201)::(dv,.cells (fnA 3 (G)) 291)::(fb,.cells #[ii 0,ii 0] 55)::(sb,.cells (fnA 4 (inF P)) 94)::(r3,.cells #[ii 0,ii 0] 55)::(R++R')):=by rw[<-AG,<-AG,<-AG,<-AG];exact W
   (conv=>whnf);refine zr W 0 ?_;refine zv ?_;refine StoreV.fn (v:=.slice A1 n1 c1) W (i:=1) rfl k (by rw[show tsz DM 159=1 from by kernel_rfl];omega) Oo rfl ?_;intro a5 W;have W:=W.sub (Ak ..);refine zu ?_;refine⟨k+1,fq,⟨by omega,_,_,W,λm h=>?_⟩,by omega⟩
   by_cases e:m=k
   ·subst e;rw[qb1,<-ex];exact⟨az,bm.keep λy hy=>Ac _ hy⟩
   ·rw[qad _ _ _ _ e];exact⟨(hG m Oo).1,(hG m Oo).2.keep λy hy=>Ah _ hy⟩
 obtain rfl:k=3:=by omega
 refine zcv (quq bf) ?_;rintro r b2 ⟨rfl,a6⟩;have W:=W.call a6;(conv=>whnf);refine znm W λkb aw W=>zw ?_;refine zS W 0 ?_;intro a5 W;have W:Mem w a5 ((kb,.cells (fnA 3 (inF λi:Nat=>((i+1:Nat):Int))) 113)::(dv,.cells (fnA 3 (G)) 291)::(fb,.cells #[ii 0,ii 0] 55)::(sb,.cells (fnA 4 (inF P)) 94)::(r3,.cells #[ii 0,ii 0] 55)::R):=W;(conv=>whnf);refine qq (λx:Nat×List TM×oA×Nat=>[(3,pp r3),(4,pp sb),(6,pp dv),(10,.slice x.2.2.1 x.2.1.length x.2.2.2),(11,pp kb),(12,ii x.1)])
  (λx w'=>x.1<=3/\VTm l x.1 0 x.2.1/\Rw w w' (.slice x.2.2.1 x.2.1.length x.2.2.2) 45 4 x.2.1.length (x.2.1.map encT).flatten ((kb,.cells (fnA 3 (inF λi:Nat=>((i+1:Nat):Int))) 113)::(dv,.cells (fnA 3 (G)) 291)::(fb,.cells #[ii 0,ii 0] 55)::(sb,.cells (fnA 4 (inF P)) 94)::(r3,.cells #[ii 0,ii 0] 55)::R)) (λx=>3-x.1) (0,[],none,0)
  fq ⟨by simp,⟨rfl,λt h=>(by cases h),λk j h=>Oo⟩,Rw.nil W⟩ ?_
 clear W;rintro⟨k,ts,B,cc⟩ bn b3 ⟨k2,hV,hR⟩;dsimp only at k2 hV hR|-;(conv=>whnf);refine zC (λ_=>zw ?_) (λ_=>zw ?_)
 ·refine qq (λx:Nat×List TM×oA×Nat=>[(3,pp r3),(4,pp sb),(6,pp dv),(10,.slice x.2.2.1 x.2.1.length x.2.2.2),(11,pp kb),(12,ii k),(13,ii x.1)])
   (λx w'=>x.1<=dN (sDict l k)/\VTm l k x.1 x.2.1/\Rw w w' (.slice x.2.2.1 x.2.1.length x.2.2.2) 45 4 x.2.1.length (x.2.1.map encT).flatten ((kb,.cells (fnA 3 (inF λi:Nat=>((i+1:Nat):Int))) 113)::(dv,.cells (fnA 3 (G)) 291)::(fb,.cells #[ii 0,ii 0] 55)::(sb,.cells (fnA 4 (inF P)) 94)::(r3,.cells #[ii 0,ii 0] 55)::R)) (λx=>dN (sDict l k)-x.1) (0,ts,B,cc)
   fq ⟨by simp,hV,hR⟩ ?_
  clear hV hR;rintro⟨j,ts,B,cc⟩ an b4 ⟨j1,hV,hR⟩;dsimp only at j1 hV hR|-;obtain⟨az,es,a1,b5,EB,ec,eG,a7⟩:=hG k Oo;obtain⟨b6,b7,_⟩:=q8b (qb4 az).1;refine zu ?_;refine LoadV.fn (v:=.slice EB (dN (sDict l k)) ec) hR.mem (i:=1) rfl k (by rw[show tsz DM 159=1 from by kernel_rfl];omega) Oo eG (zw ?_);refine zC (λ_=>zu ?_) (λ_=>zu ?_)
  ·have af:j<es.length:=by omega
   have a8:es[j].size<=262144:=qkh (a1 j _ (zge af));have hT:SlAt V.zeS 1 an EB es:=V.RowB.slf (f:=Value.string) (λ_=>rfl) (by rw[eG]at a7;exact a7) hR.mem (λx hx=>by simp[hx]);obtain⟨gb,go,bo,bp⟩:=hT.at_ (by intro e;rw[e]at af;simp at af);have a2:an.cell? ⟨gb,go+j*1,none⟩=some (.string es[j]):=by
    have:=bp j _ (zge af) 0 _ rfl
    rwa[Bt]at this
   subst bo;refine DrawV.gen (λS H w'=>Ca an.drew [] (PhiR ((k+1:Nat):Int) es[j]) (.cells #[ii 0,.string ⟨#[]⟩,.string ⟨#[]⟩,.string ⟨#[]⟩] 45) (λx _=>mkO 45 x) (λ_ y=>y) (S 13) (S 14) (S 9) (S 10) (S 11) (S 12) (S 15) (H 13) (H 9) (H 10) (H 11) (H 12) (H 15) w') rfl Jk (λH=>Ca.start (Mem.nil _)) (zw ?_);refine zg ?_;refine StepG.of (.pointer (some ⟨kb,0+k*tsz DM 3,none⟩)) (λS H wd hk hp U=>zw ?_) (zw ?_)
   ·refine IdxV.at_ k Oo Oo (zw ?_);exact⟨rfl,U⟩
   refine StepG.of (ii (k+1:Nat)) (λS H wd hk hp U=>zw ?_) (zw ?_)
   ·refine LoadV.fim (x:=((k+1:Nat):Int)) (hR.mem.drew.call U.mem.ext) (b:=kb) (F:=λi:Nat=>((i+1:Nat):Int)) (n:=3) (t:=113) Js k (by rw[show tsz DM 3=1 from by kernel_rfl];omega) Oo rfl (zw ?_);exact⟨rfl,U⟩
   refine zg ?_;refine StepG.of (.pointer (some ⟨dv,0+k*tsz DM 159,none⟩)) (λS H wd hk hp U=>zw ?_) (zw ?_)
   ·refine IdxV.at_ k Oo Oo (zw ?_);exact⟨rfl,U⟩
   refine StepG.of (.slice (some ⟨gb,go,none⟩) (dN (sDict l k)) ec) (λS H wd hk hp U=>zw ?_) (zw ?_)
   ·refine LoadV.fn (v:=.slice (some ⟨gb,go,none⟩) (dN (sDict l k)) ec) (hR.mem.drew.call U.mem.ext) (i:=1) rfl k (by rw[show tsz DM 159=1 from by kernel_rfl];omega) Oo eG (zw ?_);exact⟨rfl,U⟩
   refine zg ?_;refine StepG.of (.pointer (some ⟨gb,go+j*tsz DM 9,none⟩)) (λS H wd hk hp U=>zw ?_) (zw ?_)
   ·refine⟨⟨gb,go,j,rfl,by omega,by omega,?_⟩⟩;(conv=>whnf);exact⟨rfl,U⟩
   refine StepG.of (.string es[j]) (λS H wd hk hp U=>zw ?_) (zw ?_)
   ·refine LoadV.of (Ext.cell (Ext.trans xr.drew U.mem.ext) a2) (zw ?_);exact⟨rfl,U⟩
   refine StepG.any (λS H wd hk hp U=>?_) (zw ?_)
   ·dsimp only at U;rw[hk]at U;(conv=>whnf);refine zcv (q0y ((k+1:Nat):Int) Oo es[j] a8 wd) ?_;rintro v w9 ⟨bq,h9⟩;obtain⟨x,u,rfl,Z⟩:=bq.phi;exact⟨trivial,U.called ((Mem.nil wd).call h9) Z⟩
   refine StepG.any (λS H wd hk hp U=>?_) (zw ?_)
   ·dsimp only at U;have h9:S 9=true:=hp 9 Od;rw[hk,h9]at U;obtain⟨x,u,hv,hK⟩:=U.moved;rw[ql hv];(conv=>whnf);exact⟨trivial,by show Ca _ _ _ _ _ _ (S 13) (S 14) (S 9) true (S 11) (S 12) (S 15) _ _ _ _ _ _ _;rw[h9];exact hK⟩
   refine StepG.any (λS H wd hk hp U=>?_) (zw ?_)
   ·dsimp only at U;have aa:S 10=true:=hp 10 Od;rw[hk,aa]at U;obtain⟨x,u,R',hv,Z,hK⟩:=U.fst;obtain⟨tk,ta,tb,tc,rfl⟩:=Z.agg;rw[ql hv];(conv=>whnf);exact⟨trivial,by show Ca _ _ _ _ _ _ (S 13) (S 14) (S 9) (S 10) true (S 12) (S 15) _ _ _ _ _ _ _;rw[aa];exact hK⟩
   refine StepG.any (λS H wd hk hp U=>?_) (zw ?_)
   ·dsimp only at U;have aa:S 10=true:=hp 10 Od;rw[hk,aa]at U;obtain⟨x,u,R',hv,Z,hK⟩:=U.snd;obtain⟨e,rfl⟩:=Z.int;rw[ql hv];(conv=>whnf);exact⟨trivial,by show Ca _ _ _ _ _ _ (S 13) (S 14) (S 9) (S 10) (S 11) true (S 15) _ _ _ _ _ _ _;rw[aa];exact hK⟩
   refine StepG.any (λS H wd hk hp U=>?_) (zw ?_)
   ·dsimp only at U;rw[hk]at U;(conv=>whnf);refine⟨λx wx hb hw=>?_⟩;subst hb hw;(conv=>whnf);exact⟨trivial,U.made⟩
   refine StepG.of undef (λS H wd hk hp U=>?_) (zw ?_)
   ·dsimp only at U;have ag:S 11=true:=hp 11 Od;have ai:S 13=true:=hp 13 Od;rw[hk,ag,ai]at U;obtain⟨x,u,R',hx,Z⟩:=U.see;obtain⟨tk,ta,tb,tc,rfl⟩:=Z.agg;rw[hx]at U;obtain⟨b,x2,u2,R2,hv,h0,aj,M,au,hK⟩:=U.put1;subst h0;rw[ql hv,ql hx];(conv=>whnf);refine zS au 0 λwx av=>zw ?_;exact⟨rfl,by show Ca _ _ _ _ _ _ (S 13) true (S 9) (S 10) (S 11) (S 12) (S 15) _ _ _ _ _ _ _;rw[ag,ai];exact hK av rfl⟩
   refine StepG.any (λS H wd hk hp U=>?_) (zw ?_)
   ·dsimp only at U;have ah:S 12=true:=hp 12 Od;rw[hk,ah]at U;obtain⟨x,u,R',hx,Z⟩:=U.see2;obtain⟨e,rfl⟩:=Z.int;rw[hx]at U;rw[ql hx];(conv=>whnf);exact⟨trivial,by show Ca _ _ _ _ _ _ (S 13) (S 14) (S 9) (S 10) (S 11) (S 12) true _ _ _ _ _ _ _;rw[ah];exact U.keepS (λ_ _=>rfl)⟩
   intro H a9 U;obtain⟨tb,x,u,R',ak,ad,ax,ay,Z,W⟩:=U.done;replace ad:H 15=u:=ad;obtain⟨e,eu⟩:=Z.int;rw[eu]at ad;rw[ql ak,ql ad];clear U ak ad ax ay;obtain⟨br,aj⟩:=Z;subst br;have hR:=Rw.join (V.Rw.drew hR) W
   rcases aj with⟨e',am,bt,rfl,rfl⟩|⟨t,bu,ba,rfl,rfl⟩
   ·cases eu;obtain⟨y,ey⟩:∃y,y=qj l k:=⟨_,rfl⟩
    have ae:=hP k Oo;rw[<-ey]at ae;have W:Mem w a9 ((tb,.cells #[ii 0,.string ⟨#[]⟩,.string ⟨#[]⟩,.string ⟨#[]⟩] 45)::(kb,.cells (fnA 3 (inF λi:Nat=>((i+1:Nat):Int))) 113)::(dv,.cells (fnA 3 (G)) 291)::(fb,.cells #[ii 0,ii 0] 55)::(sb,.cells (fnA 4 (inF P)) 94)::(r3,.cells #[ii 0,ii 0] 55)::R):=hR.mem;refine zu ?_;refine DrawV.inv (λS w'=>Mem w w' ((tb,.cells #[ii 0,.string ⟨#[]⟩,.string ⟨#[]⟩,.string ⟨#[]⟩] 45)::(kb,.cells (fnA 3 (inF λi:Nat=>((i+1:Nat):Int))) 113)::(dv,.cells (fnA 3 (G)) 291)::(fb,.cells #[ii 0,ii 0] 55)::(sb,.cells (fnA 4 (inF P)) 94)::(r3,.cells (bif S 5 then #[ii (y:Nat),ii 170]else #[ii 0,ii 0]) 55)::R)) rfl Jk W.drew ?_;clear W;(conv=>whnf);refine zi ?_;refine StepI.of (.pointer (some ⟨sb,0+k*tsz DM 3,none⟩)) (λS wd hk hp U=>zw ?_) (zw ?_)
    ·refine IdxV.at_ k Oo Oo (zw ?_);exact⟨rfl,U⟩
    refine StepI.of (ii (y:Nat)) (λS wd hk hp U=>zw ?_) (zw ?_)
    ·refine LoadV.fim (x:=((y:Nat):Int)) U (b:=sb) (F:=P) (n:=4) (t:=94) Js k (by rw[show tsz DM 3=1 from by kernel_rfl];omega) Oo ae (zw ?_);exact⟨rfl,U⟩
    refine zi ?_;refine zi ?_;refine zSi ?_;intro wz W;have W:Mem w wz ((tb,.cells #[ii 0,.string ⟨#[]⟩,.string ⟨#[]⟩,.string ⟨#[]⟩] 45)::(kb,.cells (fnA 3 (inF λi:Nat=>((i+1:Nat):Int))) 113)::(dv,.cells (fnA 3 (G)) 291)::(fb,.cells #[ii 0,ii 0] 55)::(sb,.cells (fnA 4 (inF P)) 94)::(r3,.cells #[ii (y:Nat),ii 170] 55)::R):=W;(conv=>whnf);refine qd (R:=λv w'=>VoW l w.heap.size v w'/\Ext w w') (zw ?_);refine zl W 5 ?_;exact⟨.err (qaif hE (λm h=>(hG m h).1) hV.vr Oo (show j<dN (sDict l k)by omega) ⟨_,a1 j _ (zge af),bt⟩) Od (by have:=qeh (qyu hE).2 (k:=k) Oo;omega) Oo rfl,W.ext⟩
   ·cases eu;have hR:Rw w a9 (.slice B ts.length cc) 45 4 ts.length (ts.map encT).flatten ((tb,.cells #[ii t.kind,.string t.text,.string t.type,.string t.lang] 45)::(kb,.cells (fnA 3 (inF λi:Nat=>((i+1:Nat):Int))) 113)::(dv,.cells (fnA 3 (G)) 291)::(fb,.cells #[ii 0,ii 0] 55)::(sb,.cells (fnA 4 (inF P)) 94)::(r3,.cells #[ii 0,ii 0] 55)::R):=hR;have W:=hR.mem;have ar:=hV.len;have b8:vTot l k<=8388608:=by
     have bb:∀m,m<3->dN (sDict l m)<=4194304:=λm W=>(q8b (qb4 (hG m W).1).1).1
     have h0:=bb 0 Oo;have h1:=bb 1 Oo
     rcases(show k=0\/k=1\/k=2 by omega)with rfl|rfl|rfl<;>simp only[vTot]<;>omega
    refine zu ?_;refine zl W 0 ?_;refine NewV.rw hR λnb b9 hR=>zw ?_;refine AppV.rw (m:=1) (news:=encT t) qni trmI trmZ Jk Jk Od hR rfl (λ_=>⟨nb,0,rfl,λk v hv=>?_⟩) (qaa t) (by rw[show((DM.info? 45).get Jk).bytes=56 from by kernel_rfl];omega) Oo ?_
    ·rw[qa (hR.mem.get mh),As];rw[An];exact hv
    clear hR;intro B2 c2 bv hR;have hR:Rw w bv (.slice B2 (ts++[t]).length c2) 45 4 (ts++[t]).length ((ts++[t]).map encT).flatten ((kb,.cells (fnA 3 (inF λi:Nat=>((i+1:Nat):Int))) 113)::(dv,.cells (fnA 3 (G)) 291)::(fb,.cells #[ii 0,ii 0] 55)::(sb,.cells (fnA 4 (inF P)) 94)::(r3,.cells #[ii 0,ii 0] 55)::R):=by
     have e:((ts++[t]).map encT).flatten=(ts.map encT).flatten++encT t:=by simp
     rw[e,zla];exact hR.tail.tail
    refine zu ?_;refine⟨(j+1,ts++[t],B2,c2),⟨rfl,rfl,rfl,?_,rfl,rfl,rfl,trivial⟩,⟨by simp only;omega,hV.one ba (a1 j _ (zge af)) a8 bu,hR⟩,by simp only;omega⟩;show Value.slice B2 (ts.length+1) c2=Value.slice B2 (ts++[t]).length c2;rw[zla];rfl
  ·obtain rfl:j=dN (sDict l k):=by omega
   exact⟨(k+1,ts,B,cc),fq,⟨by simp only;omega,hV.next,hR⟩,by simp only;omega⟩
 ·obtain rfl:k=3:=by omega
  have hW:(vwE l).2=0:=qab5 hE (λm h=>(hG m h).1) hV.vr;have ar:ts.length=vTot l 3:=hV.len;refine StoreA.same (hR.mem.get (L:=_) Js:bn.heap[r3]?=some (.cells #[ii 0,ii 0] 55)) rfl Od λan al=>zw ?_;refine qd (R:=λv w'=>VoW l w.heap.size v w'/\Ext w w') (zw ?_);refine LoadA.mem (hR.mem.call al) (i:=4) rfl rfl (zw ?_);rw[ar]at hR|-;exact⟨.inr ⟨hW,ts,hV,B,cc,rfl,qb5 hR.own al⟩,hR.mem.ext.trans al⟩
def txtC(a b:DB):Int:=if slt a b=true then -1 else if seq a b=true then 0 else 1
def cmpT(a b:TM):Int:=
 if a.kind≠b.kind then(if a.kind<b.kind then -1 else 1)else if txtC a.text b.text≠0 then txtC a.text b.text else if txtC a.type b.type≠0 then txtC a.type b.type else txtC a.lang b.lang
theorem qjh(a b:DB)(w:DA):Gv DM 152 [.string a,.string b] w λr w'=>r=ii (txtC a b)/\w'=w:=by
 cases H:slt a b
 ·cases U:seq a b
  ·refine ze Tryz.func152 Tryz.ntmps152 ?_;rw[H];refine zv ?_;rw[H,U];refine zv ?_;exact⟨by simp[txtC,H,U],rfl⟩
  ·refine ze Tryz.func152 Tryz.ntmps152 ?_;rw[H];refine zv ?_;rw[H,U];refine zv ?_;exact⟨by simp[txtC,H,U],rfl⟩
 ·refine ze Tryz.func152 Tryz.ntmps152 ?_;rw[H];refine zv ?_;exact⟨by simp[txtC,H],rfl⟩
theorem qbt(a b:TM)(w:DA):Gv DM 83 [qy a,qy b] w λr w'=>r=ii (cmpT a b)/\Ext w w':=by
 refine ze Tryz.func83 Tryz.ntmps83 ?_;refine znm (Mem.nil w) λb1 w1 H=>zw ?_;refine znm H λb2 w2 H=>zw ?_
 by_cases U:a.kind=b.kind
 ·refine LoadV.mem (i:=1) Oa rfl rfl (zw ?_);refine LoadV.mem (i:=0) Oa rfl rfl (zw ?_);refine zt ?_;refine LoadV.mem (i:=1) Oa rfl rfl (zw ?_);refine LoadV.mem (i:=0) Oa rfl rfl (zw ?_);refine zcv (qjh a.text b.text w2) ?_;rintro v w3 ⟨rfl,V⟩;subst V;conv=>whnf
  by_cases W:txtC a.text b.text=0
  ·refine zt ?_;refine LoadV.mem (i:=1) Oa rfl rfl (zw ?_);refine LoadV.mem (i:=0) Oa rfl rfl (zw ?_);refine zcv (qjh a.type b.type w3) ?_;rintro v w4 ⟨rfl,V⟩;subst V;conv=>whnf
   by_cases Z:txtC a.type b.type=0
   ·refine zt ?_;refine LoadV.mem (i:=1) Oa rfl rfl (zw ?_);refine LoadV.mem (i:=0) Oa rfl rfl (zw ?_);refine zcv (qjh a.lang b.lang w4) ?_;rintro v w5 ⟨rfl,V⟩;subst V;(conv=>whnf);exact⟨by rw[cmpT,Aa (by simpa using U),Aa (by simpa using W),Aa (by simpa using Z)],H.ext⟩
   ·refine zv ?_;exact⟨by rw[cmpT,Aa (by simpa using U),Aa (by simpa using W),Ab Z],H.ext⟩
  ·refine zv ?_;exact⟨by rw[cmpT,Aa (by simpa using U),Ab W],H.ext⟩
 ·refine LoadV.mem (i:=1) Oa rfl rfl (zw ?_);refine LoadV.mem (i:=0) Oa rfl rfl (zw ?_);refine zt ?_;refine LoadV.mem (i:=1) Oa rfl rfl (zw ?_);refine LoadV.mem (i:=0) Oa rfl rfl (zw ?_);refine zC (λ_=>zw ?_) (λ_=>zw ?_)
  ·exact⟨by rw[cmpT,Ab U,Ab Oa],H.ext⟩
  ·exact⟨by rw[cmpT,Ab U,Aa Oa],H.ext⟩
theorem q9m(q:Q4):qdd q=if qE 0 q.s≠0 then qE 0 q.s else if qE 1 q.p≠0 then qE 1 q.p else if qE 2 q.o≠0 then qE 2 q.o else qE 3 q.g:=by
 have V:((List.range 4).map λk=>qE k (q.at k)).length=4:=by simp
 have H:∀j (hj:j<((List.range 4).map λk=>qE k (q.at k)).length),((List.range 4).map λk=>qE k (q.at k))[j]=qE j (q.at j):=λj hj=>by simp
 have U:∀k,k<4->(∀j,j<k->qE j (q.at j)=0)->qE k (q.at k)≠0->qdd q=qE k (q.at k):=λk hk h aa=>by
  rw[qdd,qrw (k:=k) (by rw[V];exact hk) (λj hj ad=>by rw[H];exact h j ad) (by rw[H];exact aa),H]
 by_cases W:qE 0 q.s≠0
 ·rw[Ab W];exact U 0 Oo (λj h=>by omega) W
 rw[Aa W]
 by_cases Z:qE 1 q.p≠0
 ·rw[Ab Z];exact U 1 Oo (λj h=>by(obtain rfl:j=0:=by omega);exact B8.1 W) Z
 rw[Aa Z]
 by_cases h2:qE 2 q.o≠0
 ·rw[Ab h2];exact U 2 Oo (λj h=>by
   rcases(show j=0\/j=1 by omega)with rfl|rfl
   ·exact B8.1 W
   ·exact B8.1 Z) h2
 rw[Aa h2]
 by_cases h3:qE 3 q.g≠0
 ·exact U 3 Oo (λj h=>by
   rcases(show j=0\/j=1\/j=2 by omega)with rfl|rfl|rfl
   ·exact B8.1 W
   ·exact B8.1 Z
   ·exact B8.1 h2) h3
 ·rw[B8.1 h3,qdd,qg0 λj hj=>by
   rw[H];rw[V]at hj
   rcases(show j=0\/j=1\/j=2\/j=3 by omega)with rfl|rfl|rfl|rfl
   ·exact B8.1 W
   ·exact B8.1 Z
   ·exact B8.1 h2
   ·exact B8.1 h3]
theorem qagy{t:TM}(H:k=0\/k=1)(h:canB k t=true):qE k t=qam t:=by rw[qE,Aa (by rw[h];simp),Aa Oo]
theorem qE_2(t:TM):qE 2 t=qam t:=by
 rw[qE]
 by_cases h:canB 2 t=false
 ·rw[Ab h];rw[canB,Aa Oo,Aa Oo,Ab Oo,Bool.and_eq_false_iff,decide_eq_false_iff_not,decide_eq_false_iff_not]at h;rw[qam,Aa Oo,Aa Oo]
 ·rw[Aa h,Aa Oo]
theorem qj8(q:Q4)(hq:qcl q)(w:DA):Gv DM 146 [q4 q] w λv w'=>v=ii (qdd q)/\Ext w w':=by
 refine ze Tryz.func146 Tryz.ntmps146 ?_;refine znm (Mem.nil w) ?_;intro b w1 H;have U:CellsAt w1 b 0 (qm q):=CellsAt.mem H mh;have e0:canB 0 q.s=(decide (q.s.kind=1)||decide (q.s.kind=2)):=by rw[canB,Ab Oo]
 have e1:canB 1 q.p=decide (q.p.kind=1):=by rw[canB,Aa Oo,Ab Oo]
 have e3:canB 3 q.g=(q1r q.g||decide (q.g.kind=1)||decide (q.g.kind=2)):=by rw[canB,Aa Oo,Aa Oo,Aa Oo]
 have hz:∀t:TM,qal t ⟨0,⟨#[]⟩,⟨#[]⟩,⟨#[]⟩⟩=q1r t:=λ_=>rfl
 rw[q9m];conv=>whnf
 (repeat'(first|refine zp ?_|refine zC (λ_=>zw ?_) (λ_=>zw ?_)|refine LoadV.mem (i:=0) Oa rfl rfl (zw ?_)))
 ·exact⟨by rw[Ab (by rw[qE,Ab (by rw[e0];simp;omega)];decide),qE,Ab (by rw[e0];simp;omega)];rfl,H.ext⟩
 all_goals
  have c0:canB 0 q.s=true:=by rw[e0];simp;omega
  rw[qagy (.inl rfl) c0];refine LoadA.cells (qr U 0 Oo) rfl (zw ?_);refine zcv (qbj q.s (hq 0) w1) ?_;rintro v w2 ⟨rfl,V⟩;have H:=H.call V;have U:=U.ext V;conv=>whnf
  by_cases hs:qam q.s=0
  ·rw[Aa Oo]
   (repeat'(first|refine zp ?_|refine zC (λ_=>zw ?_) (λ_=>zw ?_)|refine LoadV.mem (i:=0) Oa rfl rfl (zw ?_)))
   ·exact⟨by rw[Ab (by rw[qE,Ab (by rw[e1];simp;omega)];decide),qE,Ab (by rw[e1];simp;omega)];rfl,H.ext⟩
   have c1:canB 1 q.p=true:=by rw[e1];simp;omega
   rw[qagy (.inr rfl) c1];refine LoadA.cells (qr U 1 Oo) rfl (zw ?_);refine zcv (qbj q.p (hq 1) w2) ?_;rintro v w3 ⟨rfl,W⟩;have H:=H.call W;have U:=U.ext W;conv=>whnf
   by_cases hp:qam q.p=0
   ·rw[Aa Oo];refine zv ?_;rw[qE_2];refine LoadA.cells (qr U 2 Oo) rfl (zw ?_);refine zcv (qbj q.o (hq 2) w3) ?_;rintro v w4 ⟨rfl,Z⟩;have H:=H.call Z;have U:=U.ext Z;conv=>whnf
    by_cases ho:qam q.o=0
    ·rw[Aa Oo];refine zv ?_;refine LoadA.cells (qr U 3 Oo) rfl (zw ?_);refine RunV.eqTerm (a:=q.g) (b:=⟨0,⟨#[]⟩,⟨#[]⟩,⟨#[]⟩⟩) (.inl rfl) ?_;rw[hz];cases hg:q1r q.g
     ·rw[hg]at e3;refine zu ?_
      (repeat'(first|refine zp ?_|refine zC (λ_=>zw ?_) (λ_=>zw ?_)|refine LoadV.mem (i:=0) Oa rfl rfl (zw ?_)))
      ·exact⟨by rw[qE,Ab (by rw[e3];simp;omega)];rfl,H.ext⟩
      all_goals
       have c3:canB 3 q.g=true:=by rw[e3];simp;omega
       refine LoadA.cells (qr U 3 Oo) rfl (zw ?_);refine zcv (qbj q.g (hq 3) w4) ?_;rintro v w5 ⟨rfl,aa⟩;(conv=>whnf);exact⟨by rw[qE,Aa (by rw[c3];simp),Aa Oo],H.ext.trans aa⟩
     ·have c3:canB 3 q.g=true:=by rw[e3,hg];rfl
      have ad:q.g.kind=0:=by
       have:=q7.1 ((hz q.g).trans hg);rw[this]
      refine zu ?_;exact⟨by rw[qE,Aa (by rw[c3];simp),Ab ⟨rfl,ad⟩];rfl,H.ext⟩
    ·rw[Ab ho];refine zv ?_;exact⟨rfl,H.ext⟩
   ·rw[Ab hp];refine zv ?_;exact⟨rfl,H.ext⟩
  ·rw[Ab hs];refine zv ?_;exact⟨rfl,H.ext⟩
end Go.Proofs.YtccmcfpmknpccaaGreatDoor
