/- Lemmas and contracts of functions on the way to the law's card (part 8 of 20). -/
import Derived.Test.YtccmcfpmknpccaaGreatDoorSA7
import Derived.Lib.Replace
import Derived.Lib.CutLaws
import Derived.Lib.ReplaceLaws
import Derived.LaidEql
import Derived.Stop.Asserts
import Derived.RowKitTokens
namespace Go.Proofs.YtccmcfpmknpccaaGreatDoor
set_option maxHeartbeats 8000000
open Go.RowKit V
set_option maxHeartbeats 8000000
set_option maxRecDepth 100000
variable {ahead l s:LB} {a b i j k off:Nat} {w w0:DU} {L:Ed} {kind:Int}
def fltV(a e:Int):DZ:=.agg #[ii a,ii e]
theorem q9s(l:LB)(A:oA)(n c:Nat)(w:DU)(V:SlAt encB 1 w A l)(W:l.length=n)(Z:l.length<=140737488355328)(h8:8<=l.length)(h9:vN l<=67108864)(aa:vM l<=vN l):
  Gv Eg 362 [.slice A n c] w λv U=>v=fltV 0 0/\Ext w U:=by
 refine ze Tryz.func362 Tryz.ntmps362 ?_;refine znm (Mem.nil w) λb w1 H=>zu ?_;refine zcv (qc5 l A n c w1 (V.ext H.ext) W h8 Z) ?_;rintro r w2 ⟨rfl,he⟩;have H:=H.call he;refine zu ?_;refine StoreA.all H (i:=0) rfl rfl Od λw2 H=>zw ?_;refine qi (R:=λv U=>v=fltV 0 0/\Ext w U) (zw ?_);refine zl H 0 ?_;exact⟨rfl,H.ext⟩
theorem qd3(d:LB)(n:Nat):(qat d n).length=8+d.length+4*upN n 2048+2*upN n 256+4*upN (cnt d n) 512:=by
 simp only[qat,zla,qt,qsf,qy8,qada]
theorem qo3(d:LB)(n:Nat):(qat d n).drop (8+d.length)=gL d n++(sL d n++mL d n):=by
 have e:qat d n=(fixL n 4++fixL (cnt d n) 4++d)++(gL d n++(sL d n++mL d n)):=by simp only[qat,Aw]
 have H:8+d.length=(fixL n 4++fixL (cnt d n) 4++d).length:=by simp only[zla,qt]
 rw[e,H,DJ]
theorem q22{m:LB}(H:l.length=m.length)(h:∀j,a<=j->j<l.length->l[j]?=m[j]?):l.drop a=m.drop a:=by
 apply Bk;intro i;rw[Cn,Cn]
 by_cases hi:a+i<l.length
 ·exact h (a+i) Oo hi
 ·rw[Bh Oo,Bh Oo]
theorem VecOk.voE{l:LB}(Z:vOk l=true)(h:(voE l).2=0):VecOk l:=by
 obtain⟨_,h2,h3⟩:=qle h;simp only[vOk,AQ,decide_eq_true_eq]at Z;have aa:qbe (vN l) (vM l)=qz (vN l)+4*upN (vN l) 2048+2*upN (vN l) 256+4*upN (vM l) 512:=rfl;have V:qz (vN l)=8+upN (vN l) 8:=rfl;have H:(vD l).length=upN (vN l) 8:=by rw[vD,Az,zld];omega
 have W:=qd3 (vD l) (vN l);have U:l.length=(qat (vD l) (vN l)).length:=by rw[W,h2,H];omega
 refine VecOk.of (by simp only[vOk,AQ,decide_eq_true_eq];exact Z) h2 ?_;rw[<-qo3,H,<-V];exact q22 U λj h4 h5=>h3 j Oo Oo
theorem q7p(l:LB)(A:oA)(n c:Nat)(w:DU)(hS:SlAt encB 1 w A l)(hn:l.length=n)(hc:n<=c)(hl:l.length<=67108864)(hv:vOk l=true)(hz:(voE l).2=0):
  Gv Eg 318 [.slice A n c] w λv w'=>v=fltV 0 0/\Ext w w':=by
 obtain⟨aa,ag,U⟩:=qle hz;simp only[vOk,AQ,decide_eq_true_eq]at hv;obtain⟨⟨⟨h8,hN⟩,hM⟩,aq⟩:=hv;have ar:qbe (vN l) (vM l)=qz (vN l)+4*upN (vN l) 2048+2*upN (vN l) 256+4*upN (vM l) 512:=rfl;have au:qz (vN l)=8+upN (vN l) 8:=rfl;have V:(vD l).length=upN (vN l) 8:=by rw[vD,Az,zld];omega
 have W:vN l<=8*(vD l).length:=by rw[V];unfold upN;omega
 have u1:=qbc (vN l) 2048 Od;have u2:=qbc (vN l) 256 Od;have u3:=qbc (vN l) 8 Od;have u4:=qbc (vM l) 512 Od;refine ze Tryz.func318 Tryz.ntmps318 ?_;refine znm (Mem.nil w) λb w1 H=>zw ?_;refine zcv (q9s l A n c w1 (hS.ext H.ext) hn Oo h8 hN hM) ?_;rintro r w2 ⟨rfl,he⟩;have H:=H.call he;(conv=>whnf);refine znm H λfb w3 H=>zw ?_;refine StoreA.all H (i:=0) rfl rfl Od λw4 H=>zw ?_;refine LoadV.mem (i:=0) Oa rfl rfl (zw ?_);refine zt ?_;have H:=H.sub (AS ..);refine zcv (qc5 l A n c w4 (hS.ext H.ext) hn h8 Oo) ?_;rintro r w5 ⟨rfl,ah⟩;have H:=H.call ah;(conv=>whnf);refine zcv (qjt (vN l) (vM l) w5 hN hM) ?_;rintro r w6 ⟨rfl,ai⟩;have H:=H.call ai;refine zu ?_;refine zcv (qr1 l A n c w6 (hS.ext H.ext) hn hc h8 hN Oo Oo) ?_;rintro r w7 ⟨⟨B,d,rfl,hD⟩,aj⟩;have H:=H.call aj;(conv=>whnf);refine zcv (qvh (vD l) B _ d (vN l) w7 hD V W Oo) ?_;rintro r w8 ⟨⟨pb,rfl,ak⟩,rfl⟩;obtain rfl:pb=true:=ak.2 aa;refine zu ?_;refine zcv (qzz (vD l) B _ d (vN l) _ hD V W hN Oo) ?_;rintro r w8 ⟨rfl,rfl⟩;refine zu ?_;refine zcv (qo2 (vD l) B _ d (vN l) _ hD V W hN Oo) ?_;rintro r av ⟨⟨C,cc,rfl,hW⟩,ad⟩;have H:=H.call ad;refine zu ?_;refine zcv (qhq (vN l) 2048 _ Oo Od Od) ?_;rintro r Z ⟨rfl,rfl⟩;refine zu ?_;refine zcv (qhq (vN l) 256 _ Oo Od Od) ?_;rintro r Z ⟨rfl,rfl⟩;refine zu ?_;have ae:=qd3 (vD l) (vN l);rw[ag,V]at ae;obtain⟨wt,al⟩:∃wt,wt=qat (vD l) (vN l):=⟨_,rfl⟩
 rw[<-al]at ae hW U|-;obtain⟨af,ao⟩:∃af:DU,af=Z:=⟨_,rfl⟩
 refine qk (λi:Nat=>[(0,.slice A n c),(2,pp b),(6,ii (qbe (vN l) (vM l))),(9,.slice C wt.length cc),(13,ii i)])
  (λi w'=>qz (vN l)<=i/\i<=qbe (vN l) (vM l)/\Ext Z w'/\Mem w w' [(b,.cells #[ii 0,ii 0] 434)]) (λi=>qbe (vN l) (vM l)-i) (qz (vN l))
  fq ⟨Ai _,by omega,xr,H⟩ ?_
 clear H;rintro i aw ax ⟨i1,i2,hx,H⟩;(conv=>whnf);refine zC (λ_=>zu ?_) (λ_=>zu ?_)
 ·have hq:l[i].toNat=wt[i].toNat:=by
   have:=U i i1 Oo;rw[zge Oo,zge Oo]at this;rw[Bb this]
  refine zy ?_;have H:=H.drew;have hx:=hx.drew;refine zv ?_;refine ElemV.bs (hS.ext H.ext) hn i rfl Oo ?_;intro eb eo am;refine zu ?_;refine LoadV.of am (zu ?_);refine ElemV.bs (hW.ext hx) rfl i rfl Oo ?_;intro ay az an;refine zu ?_;refine LoadV.of an (zu ?_);exact⟨i+1,fq,⟨by omega,by omega,hx,H⟩,by omega⟩
 refine StoreA.all H (i:=0) rfl rfl Od λw9 H=>zw ?_;refine qi (R:=λv w'=>v=fltV 0 0/\Ext w w') (zw ?_);refine zl H 0 ?_;exact⟨rfl,H.ext⟩
def inF(F:Nat->Int):Nat->DZ:=λj=>ii (F j)
def updI(F:Nat->Int)(i:Nat)(v:Int):Nat->Int:=λj=>if j=i then v else F j
theorem qd2(F:Nat->Int)(i:Nat)(v:Int):updI F i v i=v:=by simp[updI]
theorem qa4(F:Nat->Int)(i j:Nat)(v:Int)(h:j≠i):updI F i v j=F j:=by simp[updI,h]
theorem q7h(F:Nat->Int)(i:Nat)(v:Int):updF (inF F) i (ii v)=inF (updI F i v):=by
 funext j
 by_cases h:j=i
 ·simp[updF,updI,inF,h]
 ·simp[updF,updI,inF,h]
theorem V.LoadV.fi{n:Nat}{F:Nat->Int}{t:DX}{x:Int}{K:DZ->Prop}(h:Mem w0 w L)(hi:L[i]?=some (b,.cells (fnA n (inF F)) t))(j:Nat)(e:off=j)(H:j<n)(U:F j=x)(V:K (ii x)):LoadV w b off K:=
 LoadV.fn h hi j e H (by rw[<-U];rfl) V
theorem V.StoreV.fi{n:Nat}{F:Nat->Int}{t:DX}{x:Int}{K:Ec}(h:Mem w0 w L)(hi:L[i]?=some (b,.cells (fnA n (inF F)) t))(j:Nat)(e:off=j)(V:j<n)(W:∀H,Mem w0 H (L.set i (b,.cells (fnA n (inF (updI F j x))) t))->K H):StoreV w b off (ii x) K:=
 StoreV.fn h hi j e V rfl λH U=>W H (by rw[q7h]at U;exact U)
theorem q0u(l:LB)(A:oA)(n c U:Nat)(F:Nat->Int)(w0 w:DU)(L:Ed)(H:Mem w0 w ((U,.cells (fnA 13 (inF F)) 118)::L))(hS:SlAt encB 1 w0 A l)(hn:l.length=n)(hc:n<=c)(hl:l.length<=140737488355328)(hz:∀k,k<4->(tcF l k).2=0):
  Gv Eg 106 [.slice A n c,pp U] w λr W=>r=.tuple #[ii (vAt l 4),fltV 0 0]/\∃V,(∀k,k<4->V k=((vNum l k:Nat):Int))/\(∀j,4<=j->V j=F j)/\Mem w0 W ((U,.cells (fnA 13 (inF V)) 118)::L):=by
 refine ze Tryz.func106 Tryz.ntmps106 ?_;refine znm H ?_;intro rb w1 H;have H:Mem w0 w1 ((rb,.cells #[ii 0,ii 0] 120)::(U,.cells (fnA 13 (inF F)) 118)::L):=H;refine qk (λx:Nat×(Nat->Int)=>[(0,.slice A n c),(1,pp U),(4,ii 0),(5,pp rb),(6,ii (vAt l x.1)),(7,ii x.1)])
  (λx W=>x.1<=4/\(∀k,k<x.1->x.2 k=((vNum l k:Nat):Int))/\(∀j,4<=j->x.2 j=F j)/\Mem w0 W ((rb,.cells #[ii 0,ii 0] 120)::(U,.cells (fnA 13 (inF x.2)) 118)::L)) (λx=>4-x.1) (0,F)
  fq ⟨by simp,λj h=>by simp at h,λj _=>rfl,H⟩ ?_
 clear H;rintro⟨k,F1⟩ w2 ag ⟨k1,hF,Z,H⟩;dsimp only at k1 hF Z H|-;have ah:=qg9 l k;have ai:=qhs l k;(conv=>whnf);refine zC (λ_=>zw ?_) (λ_=>zw ?_)
 ·refine SliceV.bs (hS.ext H.ext) hn (vAt l k) n c rfl rfl rfl Oo znr hc znr (λh=>by cases h) ?_;intro A' aa;rw[Am (by rw[zld];omega)]at aa;(conv=>whnf);refine zcv (qch (l.drop (vAt l k)) A' _ _ w2 aa (by rw[zld];omega) (by rw[zld];omega)) ?_;rintro r w3 ⟨rfl,rfl⟩;have ad:(numL (l.drop (vAt l k))).1=vNum l k:=rfl;have ae:vAt l k+(numL (l.drop (vAt l k))).2.1=vAt l (k+1):=rfl;have af:=qg9 l (k+1);obtain⟨g1,g2,g3⟩:=qzf (hz k Oo);obtain⟨s,es⟩:∃s,s=(numL (l.drop (vAt l k))).2.1:=⟨_,rfl⟩
  rw[numV,ad,g1,<-es];rw[<-es]at ae;refine zu ?_;refine StoreV.fi (x:=((vNum l k:Nat):Int)) H (i:=1) rfl k (by rw[show tsz Eg 3=1 from by kernel_rfl];dsimp only;omega) Oo ?_;intro w4 H;have H:Mem w0 w4 ((rb,.cells #[ii 0,ii 0] 120)::(U,.cells (fnA 13 (inF (updI F1 k (vNum l k:Nat)))) 118)::L):=H;(conv=>whnf);refine zy ?_;have H:=H.drew;refine zt ?_;refine zC (λ_=>zu ?_) (λ_=>zu ?_)
  ·refine LoadV.fi (x:=((vNum l (k):Nat):Int)) H (i:=1) rfl (k) (by rw[show tsz Eg 3=1 from by kernel_rfl];dsimp only;omega) Oo (qd2 _ _ _) (zu ?_);refine IdxV.at_ (k-1) Oo Oo (zu ?_);refine LoadV.fi (x:=((vNum l (k-1):Nat):Int)) H (i:=1) rfl (k-1) (by rw[show tsz Eg 3=1 from by kernel_rfl];dsimp only;omega) Oo (by rw[qa4 _ _ _ _ Oo];exact hF (k-1) Oo) (zu ?_);refine LoadV.fi (x:=((vNum l (k):Nat):Int)) H (i:=1) rfl (k) (by rw[show tsz Eg 3=1 from by kernel_rfl];dsimp only;omega) Oo (qd2 _ _ _) (zu ?_);refine IdxV.at_ (k-1) Oo Oo (zu ?_);refine LoadV.fi (x:=((vNum l (k-1):Nat):Int)) H (i:=1) rfl (k-1) (by rw[show tsz Eg 3=1 from by kernel_rfl];dsimp only;omega) Oo (by rw[qa4 _ _ _ _ Oo];exact hF (k-1) Oo) (zu ?_);refine Tst.iff (vNum l k=0↔vNum l (k-1)=0) (by rw[Db,decide_eq_decide];omega) (λh=>?_) (λh=>absurd (g3 Oo).2 h);refine zu ?_;exact⟨(k+1,updI F1 k (vNum l k:Nat)),⟨rfl,rfl,rfl,rfl,(by show _=ii ((vAt l (k+1):Nat):Int);exact Ae (Value.int .i64) Oo),rfl,trivial⟩,⟨by simp only;omega,λj hj=>by grind [updI],λj hj=>by grind [updI],H⟩,by simp only;omega⟩
  ·exact⟨(k+1,updI F1 k (vNum l k:Nat)),⟨rfl,rfl,rfl,rfl,(by show _=ii ((vAt l (k+1):Nat):Int);exact Ae (Value.int .i64) Oo),rfl,trivial⟩,⟨by simp only;omega,λj hj=>by grind [updI],λj hj=>by grind [updI],H⟩,by simp only;omega⟩
 ·obtain rfl:k=4:=by omega
  refine StoreA.all H (i:=0) rfl rfl Od ?_;intro w9 H;refine qi (R:=λr W=>r=.tuple #[ii (vAt l 4),fltV 0 0]/\∃V,(∀k,k<4->V k=((vNum l k:Nat):Int))/\(∀j,4<=j->V j=F j)/\Mem w0 W ((U,.cells (fnA 13 (inF V)) 118)::L)) ?_;refine zl H 0 ?_;exact⟨rfl,F1,hF,Z,H.sub (AS ..)⟩
def hdV(F:Nat->Int):DZ:=.agg (fnA 13 (inF F))
structure HdF(l:LB)(F:Nat->Int):Prop where
 c:∀k,k<4->F k=((vNum l k:Nat):Int)
 w:∀k,k<4->F (4+k)=((tvAt l k:Nat):Int)
 v:∀k,k<4->F (8+k)=((tEnd l k:Nat):Int)
theorem qlz(n:Nat)(F:Nat->Int):∀v∈(fnA n (inF F)).toList,v.oneCell'=true:=by
 intro v H;simp only[fnA,AF]at H;obtain⟨j,_,rfl⟩:=H;rfl
theorem qaa3(l:LB)(A:oA)(n c:Nat)(w:DU)(hS:SlAt encB 1 w A l)(hn:l.length=n)(hc:n<=c)(hl:l.length<=140737488355328)(hE:(tE l).2=0):
  Gv Eg 51 [.slice A n c] w λr W=>(∃F,HdF l F/\r=.tuple #[hdV F,fltV 0 0])/\Ext w W:=by
 subst hn;obtain⟨hz,hv,aw⟩:=qwb hE;refine ze Tryz.func51 Tryz.ntmps51 ?_;refine znm (Mem.nil w) ?_;intro r2 w1 H;have H:Mem w w1 [(r2,.cells (fnA 13 (inF λ_=>0)) 118)]:=H;(conv=>whnf);refine znm H λZ w2 H=>zw ?_;refine znm H λV w3 H=>zw ?_;refine StoreA.all H (i:=0) rfl rfl Od ?_;intro w4 H;have H:Mem w w4 [(V,.cells (fnA 13 (inF λ_=>0)) 118),(Z,.cells #[ii 0,ii 0] 120),(r2,.cells (fnA 13 (inF λ_=>0)) 118)]:=H;(conv=>whnf);refine zcv (q0u l A _ c V (λ_=>0) w w4 _ H hS rfl hc hl hz) ?_;rintro r w5 ⟨rfl,F1,aj,aa,H⟩;have ak:=λj hj=>qis (hz j hj)
 have al:vAt l 4=tvAt l 0:=rfl;rw[al];(conv=>whnf);refine znm H λfb w6 H=>zw ?_;refine StoreA.all H (i:=0) rfl rfl Od λw7 H=>zw ?_;refine zr H 0 ?_;refine zv ?_;have H:Mem w w7 [(V,.cells (fnA 13 (inF F1)) 118),(Z,.cells #[ii 0,ii 0] 120),(r2,.cells (fnA 13 (inF λ_=>0)) 118)]:=H.sub (AS ..);refine qk (λx:Nat×(Nat->Int)=>[(0,.slice A l.length c),(2,pp r2),(3,pp Z),(4,pp V),(5,ii (tvAt l x.1)),(7,ii x.1)])
  (λx W=>x.1<=4/\(∀k,k<4->x.2 k=((vNum l k:Nat):Int))/\(∀k,k<x.1->x.2 (4+k)=((tvAt l k:Nat):Int)/\x.2 (8+k)=((tEnd l k:Nat):Int))/\Mem w W [(V,.cells (fnA 13 (inF x.2)) 118),(Z,.cells #[ii 0,ii 0] 120),(r2,.cells (fnA 13 (inF λ_=>0)) 118)]) (λx=>4-x.1) (0,F1)
  fq (by grind) ?_
 clear H aj aa;rintro⟨k,F⟩ w8 ax ⟨k1,hF,hW,H⟩;dsimp only at k1 hF hW H|-;have hk:=λh:k<4=>qix (hv k h)
 have am:k<4->tvAt l (k+1)=tEnd l k+(if k=0 then 0 else qbe (vNum l k) (vNum l (k-1))):=λh=>by grind [qbb]
 (conv=>whnf);refine zC (λ_=>zu ?_) (λ_=>zu ?_)
 ·refine ElemV.bs (hS.ext H.ext) rfl (tvAt l k) rfl Oo ?_;intro eb eo ad;have ay:tvAt l k<l.length:=by omega
  have hw:l[tvAt l k].toNat=tw l k:=by grind [tw]
  have az:tw l k<256:=by grind [q8]
  rw[hw]at ad;(conv=>whnf);refine LoadV.of ad (zu ?_);have ae:tw l k<=23:=by omega
  have an:=ak k Oo;have af:vNum l k*tw l k<=1048576*23:=B8 an ae;obtain⟨f,ef⟩:∃f,f=vNum l k*tw l k:=⟨_,rfl⟩
  have a0:((vNum l k:Nat):Int)*((tw l k:Nat):Int)=(f:Int):=by omega
  rw[<-ef]at af;have ar:tEnd l k=tvAt l k+1+(f+7)/8:=by rw[ef];rfl
  have ao:(((tvAt l k:Nat):Int)+1+(((vNum l k:Nat):Int)*((tw l k:Nat):Int)+7)/8)=((tEnd l k:Nat):Int):=by omega
  refine StoreV.fi (x:=((tvAt l k:Nat):Int)) H (i:=0) rfl (4+k) (by rw[show tsz Eg 3=1 from by kernel_rfl];dsimp only;omega) Oo λw9 H=>zw ?_;refine zy ?_;have H:=H.drew;refine zv ?_;refine LoadV.fi (x:=((vNum l k:Nat):Int)) H (i:=0) rfl k (by rw[show tsz Eg 3=1 from by kernel_rfl];dsimp only;omega) Oo (by rw[qa4 _ _ _ _ Oo];exact hF k Oo) (zu ?_);refine ElemV.bs (hS.ext H.ext) rfl (tvAt l k) rfl Oo ?_;intro a1 a2 ag;rw[hw]at ag;refine zu ?_;refine LoadV.of ag (zu ?_);rw[ao];refine StoreV.fi (x:=((tEnd l k:Nat):Int)) H (i:=0) rfl (8+k) (by rw[show tsz Eg 3=1 from by kernel_rfl];dsimp only;omega) Oo ?_;intro aq H;obtain⟨G,eG⟩:∃G,G=updI (updI F (4+k) ((tvAt l k:Nat):Int)) (8+k) ((tEnd l k:Nat):Int):=⟨_,rfl⟩
  have H:Mem w aq [(V,.cells (fnA 13 (inF G)) 118),(Z,.cells #[ii 0,ii 0] 120),(r2,.cells (fnA 13 (inF λ_=>0)) 118)]:=by rw[eG];exact H
  have gF:∀j,j<4->G j=((vNum l j:Nat):Int):=λj hj=>by rw[eG,qa4 _ _ _ _ Oo,qa4 _ _ _ _ Oo];exact hF j hj
  have gW:∀j,j<k+1->G (4+j)=((tvAt l j:Nat):Int)/\G (8+j)=((tEnd l j:Nat):Int):=λj hj=>by
   by_cases e:j=k
   ·simp_all[qd2,qa4]
   ·rw[eG,qa4 _ _ _ _ Oo,qa4 _ _ _ _ Oo,qa4 _ _ _ _ Oo,qa4 _ _ _ _ Oo]
    grind
  clear eG hF hW;(conv=>whnf);refine zC (λ_=>zu ?_) (λ_=>zu ?_)
  ·have ah:=qrf (hz k Oo) Oo;have au:=(by omega)
   have a3:=qnl (vNum l k) (vNum l (k-1)) Oo ah;have am:tvAt l (k+1)=tEnd l k+qbe (vNum l k) (vNum l (k-1)):=by grind [qbb]
   refine DrawV.free Jk Jk (zw ?_);(iterate 4 (refine zd ?_));apply zsd
   ·intro wd hd;(conv=>whnf);refine LoadV.fi (x:=((vNum l k:Nat):Int)) (Mem.call (Mem.drew H) hd) (i:=0) rfl k (by rw[show tsz Eg 3=1 from by kernel_rfl];dsimp only;omega) Oo (gF k Oo) (zw ?_);exact xq
   (conv=>whnf);(iterate 3 (refine zd ?_));apply zsd
   ·intro wd hd;(conv=>whnf);refine IdxV.at_ (k-1) Oo Oo (zw ?_);exact xq
   (conv=>whnf);apply zsd
   ·intro wd hd;(conv=>whnf);refine LoadV.fi (x:=((vNum l (k-1):Nat):Int)) (Mem.call (Mem.drew H) hd) (i:=0) rfl (k-1) (by rw[show tsz Eg 3=1 from by kernel_rfl];dsimp only;omega) Oo (gF (k-1) Oo) (zw ?_);exact xq
   (conv=>whnf);apply zsd
   ·intro wd hd;(conv=>whnf);refine zcv (qjt (vNum l k) (vNum l (k-1)) wd Oo ah) ?_;rintro v w9 ⟨rfl,h9⟩;exact⟨h9,rfl⟩
   (conv=>whnf);refine zd ?_;refine zd ?_;intro a4 U
   (repeat(intro _ _;(conv=>whnf)))
   (conv=>whnf);have H:=H.drew.call U;clear U;have ai:(((tEnd l k:Nat):Int)+((qbe (vNum l k) (vNum l (k-1)):Nat):Int))=((tvAt l (k+1):Nat):Int):=by omega
   rw[ai];refine zv ?_;refine⟨(k+1,G),⟨rfl,rfl,rfl,rfl,(by rfl),rfl,trivial⟩,⟨by simp only;omega,gF,gW,H⟩,by omega⟩
  have a5:k=0:=by omega
  have av:tvAt l (k+1)=tEnd l k:=by grind [qbb]
  refine⟨(k+1,G),⟨rfl,rfl,rfl,rfl,(by show _=ii ((tvAt l (k+1):Nat):Int);exact Ae (Value.int .i64) Oo),rfl,trivial⟩,⟨by simp only;omega,gF,gW,H⟩,by omega⟩
 ·obtain rfl:k=4:=by omega
  refine StoreV.fi (x:=((tvAt l 4:Nat):Int)) H (i:=0) rfl 12 (by rfl) Oo λw9 H=>zu ?_;have hd:HdF l (updI F 12 ((tvAt l 4:Nat):Int)):=⟨(by grind [qa4]),(by grind [qa4]),(by grind [qa4])⟩
  refine zl H 0 ?_;refine zS H 2 λa6 H=>zw ?_;refine zS H 1 λa7 H=>zw ?_;refine qi (R:=λr W=>(∃F,HdF l F/\r=.tuple #[hdV F,fltV 0 0])/\Ext w W) (zw ?_);refine zl H 2 ?_;refine zl H 1 ?_;exact⟨⟨_,hd,rfl⟩,H.ext⟩
theorem qel(x:Nat)(w:DU)(hx:x<18446744073709551616):Gv Eg 151 [.int .u64 x] w λr H=>r=ii (qah x)/\H=w:=by
 refine ze Tryz.func151 Tryz.ntmps151 ?_;refine qk (λs:Nat×Nat=>[(0,.int .u64 s.2),(3,ii s.1)]) (λs H=>s.1+qah s.2=qah x/\s.2<18446744073709551616/\H=w) (λs=>s.2) (0,x) fq (by grind) ?_;rintro⟨k,y⟩ w1 W ⟨Z,U,rfl⟩;dsimp only at Z U|-;have hW:qah x<=64:=qcq 64 x Oo Od;(conv=>whnf);refine zC (λ_=>zu ?_) (λ_=>zu ?_)
 ·have hh:=qj4 y Oo U;refine V.Wit.shrN 1 rfl Od (zw ?_);exact⟨(k+1,y/2),fq,(by grind),by omega⟩
 grind [qgv]
theorem qop(n H:Nat)(w:DU)(h:n*H<=4398046511104):Gv Eg 153 [ii n,ii H] w λr V=>r=ii ((n*H+7)/8:Nat)/\V=w:=by
 obtain⟨f,W⟩:∃f,f=n*H:=⟨_,rfl⟩
 have U:(n:Int)*(H:Int)=(f:Int):=by omega
 rw[<-W]at h|-;refine ze Tryz.func153 Tryz.ntmps153 ?_;rw[U];refine zv ?_;simp
def celU(p:LB)(H n i k:Nat):Ee:=(List.range n).map λj=>Value.int .u64 ((if j<i then valB p (j*H) H else if j=i then valB p (i*H) k else 0:Nat):Int)
theorem qo5(v:DZ)(n:Nat):qck [v] n=List.replicate n v:=by
 induction n<;>grind [qck]
theorem q2h(p:LB)(H n:Nat):celU p H n 0 0=qck [Value.int .u64 0] n:=by
 rw[qo5,celU,List.eq_replicate_iff];refine⟨by simp,λv U=>?_⟩;obtain⟨j,_,rfl⟩:=AF.1 U;rw[Aa Oo]
 split<;>rfl
theorem qaep(p:LB)(H n i k:Nat)(h:i<n):(celU p H n i k)[i]?=some (.int .u64 (valB p (i*H) k)):=by
 grind [celU]
theorem q2g(p:LB)(H n i:Nat):celU p H n (i+1) 0=celU p H n i H:=by
 unfold celU;refine Cx λj _=>?_
 congr 2
 by_cases U:j<i
 ·grind
 ·by_cases V:j=i
  ·simp_all
  ·rw[Aa Oo,Aa U,Aa V]
   split<;>rfl
theorem q8q(p:LB)(H n i k:Nat)(h:i<n):(celU p H n i k).set i (.int .u64 (valB p (i*H) (k+1)))=celU p H n i (k+1):=by
 apply Bk
 grind [celU]
def encU(n:Nat):Ee:=[.int .u64 n]
def unpN(p:LB)(n H:Nat):Ef:=(List.range n).map λi=>valB p (i*H) H
open Classical in
noncomputable def opE(p:LB)(n H:Nat):Nat:=if ∃t,n*H<=t/\t<8*p.length/\bitN p t=1 then 12 else 0
def unpV(p:LB)(n H:Nat):Ee:=(unpN p n H).map λx:Nat=>Value.int .u64 (x:Int)
def OpS(p:LB)(n H base:Nat)(v:DZ)(w:DU):Prop:=
 ∃A k c,v=.slice A k c/\k<=n/\(H≠0->k=n)/\w.ownsRow base 164 1 v k ((unpV p n H).take k)
def OpR(p:LB)(n H base:Nat)(v:DZ)(w:DU):Prop:=∃A k c,v=.tuple #[.slice A k c,ii 0]/\OpS p n H base (.slice A k c) w
theorem qk9(p:LB)(n H:Nat):(unpV p n H).length=n:=by simp[unpV,unpN]
theorem qy2(p:LB)(A:oA)(c n H:Nat)(w:DU)(hS:SlAt encB 1 w A p)(hp:p.length=(n*H+7)/8)(hn:n<=4194304)(hw:H<=64)(hE:opE p n H=0):
  Gv Eg 240 [.slice A p.length c,ii n,ii H] w λv w'=>OpR p n H w.heap.size v w'/\Ext w w':=by
 have hb:n*H<=4194304*64:=B8 hn hw;obtain⟨f,ef⟩:∃f,f=n*H:=⟨_,rfl⟩
 have ai:(n:Int)*(H:Int)=(f:Int):=by omega
 have aa:=λw=>qop n H w Oo
 rw[<-ef]at hp hb aa;refine ze Tryz.func240 Tryz.ntmps240 ?_;refine zv ?_;refine zcv (aa w) ?_;rintro r w1 ⟨rfl,rfl⟩;refine zu ?_;refine zcv (aa _) ?_;rintro r w1 ⟨rfl,rfl⟩;refine zu ?_;rw[ai];refine qk (λi:Nat=>[(0,.slice A p.length c),(1,ii n),(2,ii H),(8,ii i)]) (λi w'=>f<=i/\i<=8*p.length/\(∀t,f<=t->t<i->bitN p t≠1)/\w'=_) (λi=>8*p.length-i) f fq ⟨Ai _,by omega,λt h1 h2=>by omega,rfl⟩ ?_;rintro i w2 au ⟨i0,i1,av,rfl⟩;conv=>whnf
 (repeat'(first|refine zp ?_|refine zC (λ_=>zw ?_) (λ_=>zw ?_)))
 ·refine ElemV.bs hS rfl (i/8) Oo Oo ?_;intro eb eo hc;(conv=>whnf);refine LoadV.of hc (zu ?_);refine V.Wit.shrN (i%8) Oo (by show i%8<8;omega) (zw ?_);have ad:=q8 p[i/8];have Z:p[i/8].toNat/2 ^ (i%8)<256:=BI (Cv _ _) ad;refine Wit.eq (qay (k:=.u8) (m:=p[i/8].toNat/2 ^ (i%8)) 1 rfl (qff Z) ⟨by omega,by omega⟩) ?_;have aj:p[i/8].toNat/2 ^ (i%8)%2 ^ 1=bitN p i:=by
   grind [bitN]
  rw[aj];(conv=>whnf);refine zC (λ_=>zu ?_) (λ_=>zu ?_)
  ·have hb:bitN p i=1:=by
    omega
   rw[opE,Ad (by grind)]at hE;cases hE
  ·refine⟨i+1,fq,⟨by omega,by omega,λt h1 h2=>?_,rfl⟩,by omega⟩
   grind
 ·exact⟨⟨_,_,_,rfl,_,_,_,rfl,Ag _,by omega,rfl,.inl ⟨rfl,rfl⟩⟩,xr⟩
 ·refine⟨n,n,rfl,rfl,Ai _,by show n*8<=_;omega,by omega,λb w3 hb hw=>?_⟩;have U:=(Mem.nil w2).new hb hw;have hz:(qck [Value.int .u64 0] n).toArray=(celU p H n 0 0).toArray:=by rw[q2h]
  have U:Mem w2 w3 [(b,.cells (celU p H n 0 0).toArray 164)]:=by rw[<-hz];exact U
  (conv=>whnf);refine qk (λi:Nat=>[(0,.slice A p.length c),(1,ii n),(2,ii H),(9,.slice (some ⟨b,0,none⟩) n n),(10,ii i)]) (λi w'=>i<=n/\Mem w2 w' [(b,.cells (celU p H n i 0).toArray 164)]) (λi=>n-i) 0 fq ⟨Ag _,U⟩ ?_;clear U hb hw;rintro i w4 aw ⟨i1,U⟩;(conv=>whnf);refine zC (λ_=>zw ?_) (λ_=>zw ?_)
  ·have ak:i*H+H<=f:=by rw[ef,<-Cz];exact Bx _ Oo
   obtain⟨g,eg⟩:∃g,g=i*H:=⟨_,rfl⟩
   have ax:(i:Int)*(H:Int)=(g:Int):=by omega
   rw[<-eg]at ak;refine qk (λk:Nat=>[(0,.slice A p.length c),(1,ii n),(2,ii H),(9,.slice (some ⟨b,0,none⟩) n n),(10,ii i),(11,ii k)]) (λk w'=>k<=H/\Mem w2 w' [(b,.cells (celU p H n i k).toArray 164)]) (λk=>H-k) 0 fq ⟨Ag _,U⟩ ?_;clear U;rintro k w5 ay ⟨k1,U⟩;(conv=>whnf);refine zC (λ_=>zu ?_) (λ_=>zu ?_)
   ·have al:=qj3 p g k;have aq:valB p g (k+1)<2 ^ 64:=qrm _ _ _ Oo;have ar:(celU p H n i k).length=n:=by simp[celU]
    have am:(celU p H n i k)[i]?=some (.int .u64 (valB p g k)):=by grind [qaep]
    refine DrawV.own rfl Jk (zw ?_);(iterate 4 (refine zo ?_));apply StepO.still
    ·intro H hd;(conv=>whnf);refine ElemV.own1 i rfl Oo (zw ?_);exact PostO.still xr rfl
    (conv=>whnf);apply StepO.still
    ·intro H hd;(conv=>whnf);refine LoadV.mem (Mem.call (Mem.drew U) hd) (i:=0) rfl (by rw[An];exact am) ?_;(conv=>whnf);exact PostO.still xr rfl
    (conv=>whnf);have hj:(g+k)/8<p.length:=by omega
    obtain⟨gb,go,hA,an⟩:=hS.at_ (by grind);subst hA;have ae:w2.cell? ⟨gb,go+(g+k)/8*1,none⟩=some (.int .u8 p[(g+k)/8].toNat):=by
     have:=an ((g+k)/8) _ (zge hj) 0 _ rfl;omega
    have ad:=q8 p[(g+k)/8];have Z:p[(g+k)/8].toNat/2 ^ ((g+k)%8)<256:=BI (Cv _ _) ad;have af:p[(g+k)/8].toNat/2 ^ ((g+k)%8)%2 ^ 1=bitN p (g+k):=by
     grind [bitN]
    have az:=(by omega)
    have a0:2 ^ 64=18446744073709551616:=by decide
    (iterate 3 (refine zo ?_));apply StepO.still
    ·intro W hd;(conv=>whnf);refine⟨⟨gb,go,(g+k)/8,rfl,by omega,by omega,?_⟩⟩;exact PostO.still xr rfl
    (conv=>whnf);apply StepO.still
    ·intro W hd;(conv=>whnf);refine LoadV.of (Ext.cell (U.ext.trans (Ext.trans xr.drew hd)) ae) (zw ?_);exact PostO.still xr rfl
    (conv=>whnf);refine zo ?_;refine zo ?_;apply StepO.still
    ·intro W hd;(conv=>whnf);refine V.Wit.shrN ((g+k)%8) Oo (by show(g+k)%8<8;omega) (zw ?_);exact PostO.still xr rfl
    (conv=>whnf);apply StepO.still
    ·intro W hd;(conv=>whnf);refine Wit.eq (qay (k:=.u8) (m:=p[(g+k)/8].toNat/2 ^ ((g+k)%8)) 1 rfl (qff Z) ⟨by omega,by omega⟩) ?_;rw[af];(conv=>whnf);exact PostO.still xr rfl
    (conv=>whnf);refine zo ?_;refine zo ?_;apply StepO.still
    ·intro W hd;(conv=>whnf);refine V.Wit.shlN k Oo (by show k<64;omega) (qeu (by grind [valB])) (zw ?_);exact PostO.still xr rfl
    (conv=>whnf);apply StepO.still
    ·intro W hd;(conv=>whnf);refine Wit.eq (qbr k (by grind [qeu,valB]) al) (zw ?_);exact PostO.still xr rfl
    (conv=>whnf);apply StepO.still
    ·intro W hd;(conv=>whnf);refine ElemV.own1 i rfl Oo (zw ?_);exact PostO.still xr rfl
    (conv=>whnf);intro w6 ao
    (repeat(intro _;(conv=>whnf)))
    (conv=>whnf);refine StoreV.mem (U.drew.call ao) (i:=0) rfl (by simp_all) rfl ?_;intro w7 U;have ag:(celU p H n i k).toArray.setIfInBounds i (.int .u64 (valB p g k+bitN p (g+k)*2 ^ k:Nat))=(celU p H n i (k+1)).toArray:=by
     have:=q8q p H n i k Oo
     simp_all[valB]
    have U:Mem w2 w7 [(b,.cells (celU p H n i (k+1)).toArray 164)]:=by rw[<-ag];exact U
    refine zu ?_;exact⟨k+1,fq,(by grind),by omega⟩
   ·obtain rfl:k=H:=by omega
    exact⟨i+1,fq,(by grind [q2g]),by omega⟩
  ·obtain rfl:i=n:=by omega
   obtain⟨o1,o2⟩:=U.own _ mh;have ah:celU p H i i 0=unpV p i H:=by
    grind [unpV,unpN,celU,List.map_congr_left]
   rw[ah]at o2;exact⟨⟨_,_,_,rfl,_,_,_,rfl,Ai _,λ_=>rfl,by simp[qk9],.inr ⟨b,i,_,rfl,o1,o2,Ai _,by simp only[maxLen];omega,by simp[qk9],by simp[Am,qk9]⟩⟩,U.ext⟩
def wMx(H:Ef):Nat->Nat
 | 0=>0
 | i+1=>max (wMx H i) (qah (H.getD i 0))
noncomputable def vcE(l:LB)(k:Nat):Nat×Nat:=
 if tVec l k=false then(tEnd l k,180)else if(voE (qe l k)).2≠0 then(tEnd l k+(voE (qe l k)).1,(voE (qe l k)).2)
 else if 0<vNum l k/\bitN ((qe l k).drop 8) (vNum l k-1)≠1 then(tEnd l k,180)else(0,0)
theorem qako(h:tVec l k=false):vcE l k=(tEnd l k,180):=by rw[vcE,Ad h]
theorem qakq(h:tVec l k=true)(H:(voE (qe l k)).2≠0):vcE l k=(tEnd l k+(voE (qe l k)).1,(voE (qe l k)).2):=by grind [vcE]
theorem qab4(h:tVec l k=true)(H:(voE (qe l k)).2=0)(U:0<vNum l k)(V:bitN ((qe l k).drop 8) (vNum l k-1)≠1):vcE l k=(tEnd l k,180):=by
 grind [vcE]
theorem qakp(h:tVec l k=true)(H:(voE (qe l k)).2=0)(U:0<vNum l k->bitN ((qe l k).drop 8) (vNum l k-1)=1):vcE l k=(0,0):=by
 grind [vcE]
theorem qahv(h:¬(vN (qe l k)=vNum l k/\vM (qe l k)=vNum l (k-1))):tVec l k=false:=by
 grind [tVec]
def tX(l:LB)(k i:Nat):Nat:=valB (qg l k) (i*tw l k) (tw l k)
def nmF(l:LB)(k i:Nat):Nat×Nat:=
 if(k≠0/\tX l k i=0)\/4194304<tX l k i then(tvAt l k+1,180)
 else if 0<i/\(k=0\/bitN ((qe l k).drop 8) (i-1)≠1)/\tX l k i<=tX l k (i-1)then(tvAt l k+1,160)else(0,0)
noncomputable def lvE(l:LB)(k:Nat):Nat×Nat:=
 if opE (qg l k) (vNum l k) (tw l k)≠0 then(tEnd l k-1,12)else if wMx (unpN (qg l k) (vNum l k) (tw l k)) (vNum l k)≠tw l k then(tvAt l k,14)
 else if k≠0/\(vcE l k).2≠0 then vcE l k else errF (nmF l k) (vNum l k)
noncomputable def toE(l:LB):Nat×Nat:=if(tE l).2≠0 then tE l else errF (lvE l) 4
section
variable {l:LB} {k:Nat}
theorem qafs(h:opE (qg l k) (vNum l k) (tw l k)≠0):lvE l k=(tEnd l k-1,12):=by rw[lvE,Ad h]
theorem q42(h:opE (qg l k) (vNum l k) (tw l k)=0)(H:wMx (unpN (qg l k) (vNum l k) (tw l k)) (vNum l k)≠tw l k):lvE l k=(tvAt l k,14):=by
 grind [lvE]
theorem qaft(h:opE (qg l k) (vNum l k) (tw l k)=0)(H:wMx (unpN (qg l k) (vNum l k) (tw l k)) (vNum l k)=tw l k)(U:k≠0)(V:(vcE l k).2≠0):lvE l k=vcE l k:=by
 grind [lvE]
theorem q41(h:opE (qg l k) (vNum l k) (tw l k)=0)(H:wMx (unpN (qg l k) (vNum l k) (tw l k)) (vNum l k)=tw l k)(U:k=0\/(vcE l k).2=0):lvE l k=errF (nmF l k) (vNum l k):=by
 grind [lvE]
theorem qajo(h:opE (qg l k) (vNum l k) (tw l k)=0)(H:wMx (unpN (qg l k) (vNum l k) (tw l k)) (vNum l k)=tw l k)(U:k=0\/(vcE l k).2=0)(V:∀j,j<vNum l k->(nmF l k j).2=0):(lvE l k).2=0:=by grind [q41,qbl]
theorem qh6(h:(lvE l k).2=0):opE (qg l k) (vNum l k) (tw l k)=0/\wMx (unpN (qg l k) (vNum l k) (tw l k)) (vNum l k)=tw l k/\(k=0\/(vcE l k).2=0)/\∀j,j<vNum l k->(nmF l k j).2=0:=by
 by_cases H:opE (qg l k) (vNum l k) (tw l k)=0
 all_goals grind [qan,q41,qaft,q42,qafs]
theorem qaf8(h:(k≠0/\tX l k i=0)\/4194304<tX l k i):nmF l k i=(tvAt l k+1,180):=by rw[nmF,Ad h]
theorem qaf9(h:¬((k≠0/\tX l k i=0)\/4194304<tX l k i))(H:0<i/\(k=0\/bitN ((qe l k).drop 8) (i-1)≠1)/\tX l k i<=tX l k (i-1)):nmF l k i=(tvAt l k+1,160):=by grind [nmF]
theorem qajs(h:¬((k≠0/\tX l k i=0)\/4194304<tX l k i))(H:¬(0<i/\(k=0\/bitN ((qe l k).drop 8) (i-1)≠1)/\tX l k i<=tX l k (i-1))):nmF l k i=(0,0):=by grind [nmF]
end
theorem qald(h:(tE l).2≠0):toE l=tE l:=by rw[toE,Ad h]
theorem qaki(h:(tE l).2=0)(H:∀k,k<4->(lvE l k).2=0):(toE l).2=0:=by
 grind [toE,qbl]
theorem qca(h:(toE l).2=0):(tE l).2=0/\∀k,k<4->(lvE l k).2=0:=by
 by_cases H:(tE l).2=0
 ·rw[toE,Aa Oo]at h;exact⟨H,qan h⟩
 grind [qald]
def comL:LB->LB->Nat
 | x::a,y::b=>if x=y then comL a b+1 else 0
 | _,_=>0
theorem qln:∀a b:LB,comL a b=comL b a
 | [],[]=>rfl
 | [],_::_=>rfl
 | _::_,[]=>rfl
 | x::a,y::b=>by
  by_cases h:x=y
  ·rw[comL,comL,Ad h,Ad h.symm,qln a b]
  ·rw[comL,comL,Aa h,Aa (λe=>h e.symm)]
theorem quk:∀{i:Nat} {a b:LB},(∀j,j<i->a[j]?=b[j]?)->i<=a.length->i<=b.length->(i<a.length->i<b.length->a[i]?≠b[i]?)->comL a b=i
 | 0,[],_,_,_,_,_=>by cases ‹LB›<;>rfl
 | 0,_::_,[],_,_,_,_=>rfl
 | 0,x::a,y::b,_,_,_,h=>by
  have:=h Js Js;rw[comL,Aa (λe=>this (by rw[e];rfl))]
 | i+1,[],_,_,h,_,_=>by simp at h
 | i+1,_::_,[],_,_,h,_=>by simp at h
 | i+1,x::a,y::b,H,V,W,Z=>by
  have U:=H 0 Oo;simp only[AT,AR]at U;have ih:=quk (i:=i) (a:=a) (b:=b) (λj hj=>by have:=H (j+1) Oo;simpa using this) (by simpa using V) (by simpa using W) (λg1 g2=>by have:=Z (by simpa using g1) (by simpa using g2);simpa using this);rw[comL,Ad U,ih]
theorem qec{s:DV}(h:i<s.size):s.data.toList[i]?=some (gb s i):=by
 simp_all[gb]
def leL(a b:LB):Bool:=slt ⟨a.toArray⟩ ⟨b.toArray⟩||seq ⟨a.toArray⟩ ⟨b.toArray⟩
def dSt(m:LB):Nat->LB×Nat
 | 0=>([],0)
 | i+1=>((entG ((qd m).drop (dSt m i).2) (decide (i%16=0)) (dSt m i).1).1,(dSt m i).2+(entG ((qd m).drop (dSt m i).2) (decide (i%16=0)) (dSt m i).1).2.1)
def dnF(m:LB)(i:Nat):Nat×Nat:=
 if i%16=0/\q7 m (i/16)≠(dSt m i).2 then(ql m+(dSt m i).2,161)
 else if(entG ((qd m).drop (dSt m i).2) (decide (i%16=0)) (dSt m i).1).2.2≠0 then(ql m+(dSt m i).2,(entG ((qd m).drop (dSt m i).2) (decide (i%16=0)) (dSt m i).1).2.2)
 else if 0<i/\leL (dSt m (i+1)).1 (dSt m i).1=true then(ql m+(dSt m i).2,160)
 else if i%16≠0/\(numL ((qd m).drop (dSt m i).2)).1≠comL (dSt m (i+1)).1 (dSt m i).1 then(ql m+(dSt m i).2,161)else(0,0)
noncomputable def doE(m:LB):Nat×Nat:=
 if(dE m).2≠0 then dE m else if opE (qx m) (upN (dN m) 16) (dW m)≠0 then(ql m-1,12)
 else if(errF (dnF m) (dN m)).2≠0 then errF (dnF m) (dN m)else if(dSt m (dN m)).2<(qd m).length then(ql m+(dSt m (dN m)).2,13)else(0,0)
section
variable {m last:LB} {i p:Nat} (hd:dSt m i=(last,p))
include hd
theorem qpk{first:Bool}(H:first=decide (i%16=0)):dSt m (i+1)=((entG ((qd m).drop p) first last).1,p+(entG ((qd m).drop p) first last).2.1):=by rw[dSt,hd,H]
theorem qxu(H:i%16=0)(U:q7 m (i/16)≠p):dnF m i=(ql m+p,161):=by grind [dnF]
theorem qacu{first:Bool}(H:first=decide (i%16=0))(U:i%16=0->q7 m (i/16)=p)(V:(entG ((qd m).drop p) first last).2.2≠0):dnF m i=(ql m+p,(entG ((qd m).drop p) first last).2.2):=by
 grind [dnF]
theorem qaix{first:Bool}(H:first=decide (i%16=0))(U:i%16=0->q7 m (i/16)=p)(V:(entG ((qd m).drop p) first last).2.2=0)(W:0<i)(Z:leL (entG ((qd m).drop p) first last).1 last=true):dnF m i=(ql m+p,160):=by
 grind [dnF,qpk]
end
section
variable {m:LB}
theorem q82(h:(dE m).2≠0):doE m=dE m:=by rw[doE,Ad h]
theorem qaiy(h:(dE m).2=0)(H:opE (qx m) (upN (dN m) 16) (dW m)=0)(U:∀j,j<dN m->(dnF m j).2=0)(V:¬(dSt m (dN m)).2<(qd m).length):doE m=(0,0):=by
 grind [qbl,doE]
theorem qbs(h:(doE m).2=0):(dE m).2=0/\opE (qx m) (upN (dN m) 16) (dW m)=0/\(∀j,j<dN m->(dnF m j).2=0)/\¬(dSt m (dN m)).2<(qd m).length:=by
 by_cases H:(dE m).2=0
 ·by_cases U:opE (qx m) (upN (dN m) 16) (dW m)=0
  all_goals grind [qan,doE]
 grind [q82]
end
def escL:LB->LB
 | []=>[]
 | c::r=>if c=0 then 0::1::escL r else c::escL r
theorem qaw(r:LB):escL (0::r)=0::1::escL r:=by rfl
theorem qae{c:DY}(r:LB)(h:c≠0):escL (c::r)=c::escL r:=by rw[escL,Aa h]
theorem qxx(l:LB):(escL l).length<=2*l.length:=by
 induction l<;>grind [escL]
theorem qae4(l:LB):l.length<=(escL l).length:=by
 induction l<;>grind [escL]
section
variable {old new:LB}
theorem qk3(H:(old==new)=false)(h:Lib.index s old=-1):Lib.replaceAll s old new=s:=by
 grind [Lib.replaceAll,Lib.replace,Lib.replaceNum,Lib.count_miss,Lib.replaceK]
theorem qik(H:(old==new)=false)(U:old≠[])(h:Lib.index s old=i):Lib.replaceAll s old new=s.take i++new++Lib.replaceAll (s.drop (i+old.length)) old new:=by
 grind [Lib.count_hit,Lib.replaceAll,Lib.replace,Lib.replaceNum,Lib.replaceK_hit]
theorem q55(H:(old==new)=false)(U:old≠[])(h:old.isPrefixOf s=true):Lib.replaceAll s old new=new++Lib.replaceAll (s.drop old.length) old new:=by
 have hi:Lib.index s old=((0:Nat):Int):=Lib.index_first (Ag _) (by grind [Lib.occAt]) (λj V=>by omega);rw[qik H U hi];simp
theorem qy0{c:DY}{r:LB}(U:(old==new)=false)(V:old≠[])(h:old.isPrefixOf (c::r)=false):Lib.replaceAll (c::r) old new=c::Lib.replaceAll r old new:=by
 have W:Lib.index (c::r) old=if Lib.index r old==-1 then -1 else Lib.index r old+1:=by rw[Lib.index,h];simp
 by_cases Z:Lib.index r old=-1
 ·grind [qk3]
 ·obtain⟨i,hi⟩:∃i:Nat,Lib.index r old=i:=⟨(Lib.index r old).toNat,by have:=Lib.index_ge r old;omega⟩
  have H:Lib.index (c::r) old=((i+1:Nat):Int):=by
   simp_all
  rw[qik U V hi,qik U V H]
  grind
end
theorem qag6(l:LB):Lib.replaceAll l [0] [0,1]=escL l:=by
 induction l with
 | nil=>rfl
 | cons c r H=>
  grind [q55,qaw,qy0,qae]
theorem qti(l:LB):Lib.replaceAll (escL l) [0,1] [0]=l:=by
 induction l with
 | nil=>rfl
 | cons c r H=>
  grind [qaw,q55,qae,qy0]
theorem q2s{H:LB}(hi:i<=s.length)(h:Lib.occAt s H i=true)(U:∀j,j<i->Lib.occAt s H j=false):Lib.cut s H=(s.take i,s.drop (i+H.length),true):=by
 grind [Lib.cut,Lib.index_first]
theorem q5e{a b:LB}{H:LB}:Lib.occAt (a++(H++b)) H a.length=true:=by
 grind [Lib.occAt]
theorem qae5(l b:LB):∀j,j<(escL l).length->Lib.occAt (escL l++([0,0]++b)) [0,0] j=false:=by
 induction l with
 | nil=>grind [escL]
 | cons c r U=>
  intro j H
  by_cases h:c=0
  ·subst h;rw[qaw]at H|-
   match j with
   | 0=>rfl
   | 1=>rfl
   | j+2=>exact U j (by simpa using H)
  ·rw[qae _ h]at H|-
   match j with
   | 0=>grind [Lib.occAt]
   | j+1=>exact U j (by simpa using H)
theorem q2r(l b:LB):Lib.cut (escL l++([0,0]++b)) [0,0]=(escL l,b,true):=by
 rw[q2s (i:=(escL l).length) Js q5e (qae5 l b)];simp
theorem qxp(a b:LB)(h:∀c∈a,c≠0):Lib.cut (a++([0]++b)) [0]=(a,b,true):=by
 rw[q2s (i:=a.length) Js q5e (λj H=>by
  grind [Lib.occAt,List.drop_eq_getElem_cons])]
 simp
def qal(t:TM):LB:=if t.kind=3 then escL t.text.data.toList++([0,0]++(t.type.data.toList++([0]++t.lang.data.toList)))else t.text.data.toList
structure ReadsAs(kind:Int)(s:LB)(t:TM):Prop where
 kind:t.kind=kind
 ok:qap t=0
 entry:qal t=s
theorem q32{s:DV}(h:iriE s=0):∀c∈s.data.toList,c≠0:=by
 rintro c H rfl
 grind [refE,iriE,barB]
theorem ReadsAs.plain{t:TM}(h:ReadsAs kind s t)(H:kind≠3):t.text.data.toList=s/\t.type=⟨#[]⟩/\t.lang=⟨#[]⟩:=by
 have U:t.kind≠3:=by rw[h.kind];exact H
 have V:=h.ok;have W:=h.entry
 grind [qal,qap,qaf]
theorem ReadsAs.lit{t:TM}(h:ReadsAs 3 s t):s=escL t.text.data.toList++([0,0]++(t.type.data.toList++([0]++t.lang.data.toList)))/\∀c∈t.type.data.toList,c≠0:=by
 have U:=h.ok;have H:=h.entry;rw[qal,Ad h.kind]at H;refine⟨H.symm,q32 ?_⟩;rw[qap,Aa (by rw[h.kind];decide),Ad h.kind,litE]at U
 grind
theorem q9c{a b:LB}(h:escL a=escL b):a=b:=by
 grind [qti]
theorem qdj{a b:DV}(h:a.data.toList=b.data.toList):a=b:=by
 cases a;simp_all
theorem ReadsAs.unique{t u:TM}(h:ReadsAs kind s t)(g:ReadsAs kind s u):t=u:=by
 obtain⟨U,tt,ty,tl⟩:=t;obtain⟨V,ut,uy,ul⟩:=u;have W:U=V:=h.kind.trans g.kind.symm;subst W
 by_cases H:kind=3
 ·subst H;obtain⟨Z,h2⟩:=h.lit;obtain⟨g1,g2⟩:=g.lit
  grind [q2r,qxp,qdj,q9c]
 ·obtain⟨Z,h2,h3⟩:=h.plain H;obtain⟨g1,g2,g3⟩:=g.plain H
  grind [qdj]
open Classical in
noncomputable def qhk(kind:Int)(s:LB):Option TM:=if h:∃t,ReadsAs kind s t then some h.choose else none
theorem qej{t:TM}(h:ReadsAs kind s t):qhk kind s=some t:=by
 have H:∃t,ReadsAs kind s t:=⟨t,h⟩
 grind [qhk,ReadsAs.unique]
theorem q0z(h:∀t,¬ReadsAs kind s t):qhk kind s=none:=by
 grind [qhk]
theorem qvm{t:TM}(h:qhk kind s=some t):ReadsAs kind s t:=by
 unfold qhk at h
 split at h
 all_goals grind
theorem ReadsAs.size{t:TM}(h:ReadsAs kind s t):t.text.size<=s.length/\t.type.size<=s.length/\t.lang.size<=s.length:=by
 by_cases H:kind=3
 ·subst H;obtain⟨U,_⟩:=h.lit;have:=qae4 t.text.data.toList;have Z:t.text.data.toList.length=t.text.size:=rfl;have e2:t.type.data.toList.length=t.type.size:=rfl;have e3:t.lang.data.toList.length=t.lang.size:=rfl
  grind
 ·obtain⟨U,V,W⟩:=h.plain H;rw[<-U,V,W];exact⟨Ai _,Ag _,Ag _⟩
theorem qaay{t:TM}(h:qhk kind s=some t)(V:s.length<=262144)(U:InR .i64 kind):TermOk t:=by
 have H:=qvm h;obtain⟨W,Z,h3⟩:=H.size;exact⟨by rw[H.kind];exact U,by omega,by omega,by omega⟩
noncomputable def veF(l:LB)(k:Nat):Nat×Nat:=if(doE (sDict l k)).2=0 then(0,0)else(qr l k+(doE (sDict l k)).1,(doE (sDict l k)).2)
def vrB(l:LB)(k j:Nat):Prop:=∃s,dGet (sDict l k) j=some s/\∀t,¬ReadsAs ((k+1:Nat):Int) s t
open Classical in
noncomputable def vrF(l:LB)(k:Nat):Nat×Nat:=if ∃j,j<dN (sDict l k)/\vrB l k j then(qr l k,170)else(0,0)
noncomputable def vwE(l:LB):Nat×Nat:=if(sE l).2≠0 then sE l else if(errF (veF l) 3).2≠0 then errF (veF l) 3 else errF (vrF l) 3
section
variable {l:LB}
theorem qab6(h:(doE (sDict l k)).2=0):(veF l k).2=0:=by rw[veF,Ad h]
theorem qaid(H:j<dN (sDict l k))(h:vrB l k j):vrF l k=(qr l k,170):=by rw[vrF,Ad ⟨j,H,h⟩]
theorem qaks(h:∀j,j<dN (sDict l k)->¬vrB l k j):(vrF l k).2=0:=by rw[vrF,Aa (λ⟨j,H,U⟩=>h j H U)]
theorem q7s(h:(vrF l k).2=0)(H:j<dN (sDict l k)):¬vrB l k j:=λU=>by rw[qaid H U]at h;cases h
theorem qalh(h:(sE l).2≠0):vwE l=sE l:=by rw[vwE,Ad h]
theorem qaku(h:(sE l).2=0)(H:∀k,k<3->(doE (sDict l k)).2=0)(U:∀k,k<3->(vrF l k).2=0):(vwE l).2=0:=by
 have:=qbl (f:=veF l) (n:=3) λj V=>qab6 (H j V)
 rw[vwE,Aa Oo,Aa Oo];exact qbl U
theorem qd8(h:(vwE l).2=0):(sE l).2=0/\(∀k,k<3->(doE (sDict l k)).2=0)/\∀k,k<3->(vrF l k).2=0:=by
 by_cases H:(sE l).2=0
 ·by_cases U:(errF (veF l) 3).2=0
  ·rw[vwE,Aa Oo,Aa Oo]at h;refine⟨H,λk V=>?_,qan h⟩;have:=qan U k V;unfold veF at this
   split at this
   ·assumption
   ·exact absurd this Oa
  ·rw[vwE,Aa Oo,Ad U]at h;exact absurd h U
 ·rw[qalh H]at h;exact absurd h H
theorem qakv(h:(vwE l).2=0):(wE l).2=0:=by
 obtain⟨V,H,_⟩:=qd8 h;rw[wE,Aa Oo];exact qbl λm U=>by rw[sdF,Ad (qbs (H m U)).1]
end
theorem qlw{y x U:LB}(h:y=x++U):escL y=escL x++escL U:=by
 subst h
 induction x with
 | nil=>rfl
 | cons c x V=>
  by_cases H:c=0
  ·subst H;rw[Bi,qaw,qaw,V];rfl
  ·rw[Bi,qae _ H,qae _ H,V];rfl
def ScanI(s:LB)(i:Nat)(x:LB):Prop:=∀y r,s=escL y++([0,0]++r)->i=(escL x).length/\∃H,y=x++H
theorem ScanI.start(s:LB):ScanI s 0 []:=λy _ _=>⟨rfl,y,rfl⟩
theorem ScanI.at_{x y r:LB}(h:ScanI s i x)(U:s=escL y++([0,0]++r)):∃H,y=x++H/\i=(escL x).length/\s.drop i=escL H++([0,0]++r):=by
 obtain⟨V,H,W⟩:=h y r U;refine⟨H,W,V,?_⟩;rw[U,qlw W,V,Aw,DJ]
theorem qls{t:LB}(h:s.drop i=t):s[i+j]?=t[j]?:=by rw[<-h,Cn]
theorem ScanI.one{x:LB}{c:DY}(h:ScanI s i x)(V:s[i]?=some c)(U:c≠0):ScanI s (i+1) (x++[c]):=λy r W=>by
 obtain⟨Z,h1,h2,h3⟩:=h.at_ W;have H:=qls (j:=0) h3;rw[BB,V]at H;cases Z with
 | nil=>simp[escL]at H;exact absurd H U
 | cons d y3=>
  by_cases hd:d=0
  ·subst hd;rw[qaw]at H;simp at H;exact absurd H U
  ·rw[qae _ hd]at H;simp only[Bi,AT,AR]at H;subst H;refine⟨?_,y3,by rw[h1,Aw];rfl⟩;rw[qlw rfl,qae _ hd,zla,h2];rfl
theorem ScanI.two{x:LB}{d:DY}(h:ScanI s i x)(Z:s[i]?=some 0)(hd:s[i+1]?=some d)(h0:d≠0):ScanI s (i+2) (x++[0]):=λy r hs=>by
 obtain⟨y2,h1,h2,W⟩:=h.at_ hs;have U:=qls (j:=0) W;have H:=qls (j:=1) W;rw[BB,Z]at U;rw[hd]at H;cases y2 with
 | nil=>simp[escL]at H;exact absurd H h0
 | cons e y3=>
  by_cases V:e=0
  ·subst V;refine⟨?_,y3,by rw[h1,Aw];rfl⟩;rw[qlw rfl,qaw,zla,h2];rfl
  ·rw[qae _ V]at U;simp at U;exact absurd U.symm V
theorem ScanI.end_{x y r:LB}(h:ScanI s i x)(H:s=escL y++([0,0]++r)):i+1<s.length:=by
 obtain⟨V,W,Z,U⟩:=h.at_ H;have:=Ae List.length U;rw[zld]at this;simp only[zla,AC,BO]at this;omega
theorem ScanI.stop{x y r:LB}(h:ScanI s i x)(Z:s=escL y++([0,0]++r))(hc:s[i]?=some 0)(hd:s[i+1]?=some 0):y=x/\s.drop (i+2)=r:=by
 obtain⟨y2,h1,h2,V⟩:=h.at_ Z;have U:=qls (j:=0) V;have H:=qls (j:=1) V;rw[BB,hc]at U;rw[hd]at H;cases y2 with
 | nil=>
  refine⟨by rw[h1,B4],?_⟩;rw[<-Ar,V];rfl
 | cons e y3=>
  by_cases W:e=0
  ·subst W;rw[qaw]at H;simp at H
  ·rw[qae _ W]at U;simp at U;exact absurd U.symm W
theorem qbv(s:DV)(a b:Nat):(s.extract a b).data.toList=(s.data.toList.drop a).take (b-a):=by
 simp
theorem q8w(s H:DV)(w:DU)(V:MaxLenAt w)(hs:s.size<=67108864)(W:1<=H.size):Gv Eg 340 [.string s,.string H] w λr U=>r=ii (Lib.countB s H)/\U=w:=by
 obtain⟨m,Z⟩:=V;exact qg0 Jk ((Tryz.strings_Count_any s H m w Oo Z W).mono λe U ⟨he,hw⟩=>⟨_,he,rfl,hw⟩)
theorem q9w(s H:DV)(w:DU)(V:MaxLenAt w)(hs:s.size<=67108864):Gv Eg 341 [.string s,.string H] w λr U=>r=ii (Lib.indexB s H)/\U=w:=by
 obtain⟨m,W⟩:=V;exact qg0 Jk ((Tryz.strings_Index s H m w Oo W).mono λe U ⟨Z,hw⟩=>⟨_,Z,rfl,hw⟩)
theorem qacs(s H:DV)(w:DU)(V:MaxLenAt w)(hs:s.size<=67108864):Gv Eg 344 [.string s,.string H] w λr U=>
  r=.tuple #[.string ⟨(Lib.cut s.data.toList H.data.toList).1.toArray⟩,.string ⟨(Lib.cut s.data.toList H.data.toList).2.1.toArray⟩,.bool (Lib.cut s.data.toList H.data.toList).2.2]/\Ext w U:=by
 obtain⟨m,W⟩:=V;refine qg0 Jk ((Tryz.strings_Cut s H m w Oo W).mono λe U ⟨Z,n,hw⟩=>⟨_,Z,rfl,?_⟩);subst hw;exact⟨rfl,rfl,rfl,Ai _,λ_ _=>rfl⟩
theorem qafd(b n:Nat)(w0 w:DU)(h:Mem w0 w [(b,.cells #[.pointer none,.slice none 0 0] 472)])(W:n<=281474976710656):
  Gv Eg 366 [pp b,ii n] w λr U=>r=.tuple #[]/\Bld w0 U b [] []:=by
 have V:=h.own _ mh;refine qg0 Jk ((Tryz.Builder_Grow_fresh w0.heap.size b n w V.1 V.2 h.ext.size W).mono λe U ⟨Z,⟨h1,v,h2,h3,h4⟩,h5⟩=>⟨_,Z,rfl,⟨_,v,.inr rfl,⟨⟨Below.trans h.ext h5,?_,by simp⟩,h3,?_⟩⟩⟩)
 ·intro x H;simp only[AB,BQ,or_false]at H;subst H;exact⟨h1,h2⟩
 ·intro x H;simp only[AB,BQ,or_false]at H;subst H;exact h4
theorem qur(s:DV):s.extract 0 s.size=s:=qdj (by rw[qbv];simp;exact Am znr)
theorem qvr(s old new:DV)(w:DU)(hM:MaxLenAt w)(aa:seq old new=false)(hs:s.size<=67108864)(ho:(old.size=1/\new.size=2)\/(old.size=2/\new.size=1)):
  Gv Eg 320 [.string s,.string old,.string new,ii (-1)] w λr w'=>r=.string ⟨(Lib.replaceAll s.data.toList old.data.toList new.data.toList).toArray⟩/\Ext w w':=by
 have Z:1<=old.size:=by omega
 have ad:(old.data.toList==new.data.toList)=false:=by
  rw[beq_eq_false_iff_ne];intro e;have:old=new:=qdj e;rw[qaf.2 this]at aa;cases aa
 have ag:old.data.toList≠[]:=by
  intro e;have:old.data.toList.length=0:=by rw[e];rfl
  have h2:old.data.toList.length=old.size:=rfl;omega
 refine ze Tryz.func320 Tryz.ntmps320 ?_;rw[aa];refine zv ?_;refine zcv (q8w s old w hM hs Z) ?_;rintro v w' ⟨rfl,rfl⟩;(conv=>whnf);have ae:=Lib.countB_mul_le old Z s.size s znr;obtain⟨K,eK⟩:∃K,K=Lib.countB s old:=⟨_,rfl⟩
 rw[<-eK]at ae|-
 by_cases hK:K=0
 ·have hr:Lib.replaceAll s.data.toList old.data.toList new.data.toList=s.data.toList:=by
   rcases Lib.indexB_cases s old with H|⟨i,H,_⟩
   ·exact qk3 ad H
   ·have:=Lib.countB_hit s old i Z H;omega
  refine zv ?_;exact⟨by rw[hr],xr⟩
 refine zv ?_;refine znm (Mem.nil w') ?_;intro b w1 hm;have ak:K<=s.size:=AI (Nat.le_mul_of_pos_right K Z) ae;obtain⟨d,hd,al,am⟩:∃d:Int,(K:Int)*((new.size:Int)-(old.size:Int))=d/\-(K:Int)<=d/\d<=K:=by
  rcases ho with⟨Z,h2⟩|⟨Z,h2⟩
  ·exact⟨K,by rw[Z,h2];omega,by omega,by omega⟩
  ·exact⟨-K,by rw[Z,h2];omega,by omega,by omega⟩
 refine Obl.mk ⟨by omega,by omega⟩ (zw ?_);rw[hd];refine Obl.mk ⟨by omega,by omega⟩ ?_;refine Obl.mk ⟨by omega,by omega⟩ ?_;obtain⟨M,eM⟩:∃M:Nat,(s.size:Int)+d=M:=⟨((s.size:Int)+d).toNat,by omega⟩
 rw[eM];refine zcv (qafd b M w' w1 hm Oo) ?_;rintro r w2 ⟨rfl,U⟩;refine zu ?_;refine qk (λx:Nat×Nat×LB=>[(0,.string s),(1,.string old),(2,.string new),(10,pp b),(11,ii x.2.1),(52,ii K),(53,ii x.1)])
  (λx ah=>x.1<=K/\x.2.1<=s.size/\x.1+Lib.countB (s.extract x.2.1 s.size) old=K/\x.2.2++Lib.replaceAll (s.data.toList.drop x.2.1) old.data.toList new.data.toList=Lib.replaceAll s.data.toList old.data.toList new.data.toList/\x.2.2.length<=2*x.2.1/\Bld w' ah b x.2.2 []) (λx=>K-x.1) (0,0,[])
  fq ⟨by simp,by simp,by rw[qur,<-eK];omega,by simp,by simp,U⟩ ?_
 clear U;rintro⟨j,p,l⟩ w3 an ⟨hj,hp,hc,hr,hl,U⟩;dsimp only at hj hp hc hr hl U|-;have V:(s.extract p s.size).data.toList=s.data.toList.drop p:=by
  rw[qbv,Am];have:s.data.toList.length=s.size:=rfl;simp only[zld];omega
 obtain⟨r,er⟩:∃r,r=s.extract p s.size:=⟨_,rfl⟩
 have ao:r.size=s.size-p:=by
  have e1:r.size=r.data.toList.length:=rfl;have e2:s.data.toList.length=s.size:=rfl;rw[e1,er,V,zld,e2]
 rw[<-er]at hc V;(conv=>whnf);refine zC (λ_=>zw ?_) (λ_=>zw ?_)
 ·refine SliceS.at_ p s.size rfl rfl hp znr ?_;rw[<-er];(conv=>whnf);refine zcv (q9w r old w3 (hM.ext U.ext) Oo) ?_;rintro v w4 ⟨rfl,rfl⟩
  rcases Lib.indexB_cases r old with H|⟨i,H,ai⟩
  ·have:=Lib.countB_miss r old H;omega
  rw[H];have af:=Lib.countB_hit r old i Z H;have aj:r.extract (i+old.size) r.size=s.extract (p+i+old.size) s.size:=by
   refine qdj ?_;rw[qbv,qbv,V,Ar,show p+(i+old.size)=p+i+old.size by omega,show r.size-(i+old.size)=s.size-(p+i+old.size)by omega]
  rw[aj]at af;have W:=qik ad ag (s:=s.data.toList.drop p) (i:=i) (by rw[<-V];exact H);refine zu ?_;refine SliceS.at_ p (p+i) rfl (by show _=_;omega) Oo Oo (zw ?_);refine zcv (qd4 b l (s.extract p (p+i)) w' w4 [] U (λx hx=>by cases hx) (by simp;omega)) ?_;rintro v w5 ⟨rfl,U⟩;have aq:(s.extract p (p+i)).data.toList.length=i:=by
   have:s.data.toList.length=s.size:=rfl;rw[qbv,Az,zld];omega
  (conv=>whnf);refine zcv (qd4 b (l++(s.extract p (p+i)).data.toList) new w' w5 [] U (λx hx=>by cases hx) (by rw[zla];omega)) ?_;rintro v w6 ⟨rfl,U⟩;refine zu ?_;have ar:new.data.toList.length=new.size:=rfl;refine⟨(j+1,p+i+old.size,l++(s.extract p (p+i)).data.toList++new.data.toList),⟨rfl,rfl,rfl,rfl,by show ii _=ii _;congr 1,rfl,rfl,trivial⟩,⟨by simp only;omega,by simp only;omega,by simp only;omega,?_,by simp only[zla];omega,U⟩,by simp only;omega⟩;rw[<-hr,W,qbv,show p+i-p=i by omega,Ar,show p+(i+old.data.toList.length)=p+i+old.size from by show p+(i+old.size)=_;omega];simp
 ·obtain rfl:j=K:=by omega
  have H:Lib.indexB r old=-1:=by
   rcases Lib.indexB_cases r old with H|⟨i,H,ai⟩
   ·exact H
   ·have:=Lib.countB_hit r old i Z H;omega
  have W:=qk3 ad (s:=s.data.toList.drop p) (by rw[<-V];exact H);refine SliceS.at_ p s.size rfl rfl hp znr ?_;rw[<-er];(conv=>whnf);refine zcv (qd4 b l r w' w3 [] U (λx hx=>by cases hx) Oo) ?_;rintro v w4 ⟨rfl,U⟩;(conv=>whnf);refine zcv (qi4 b (l++r.data.toList) w' w4 [] U) ?_;rintro v w5 ⟨rfl,he⟩;(conv=>whnf);exact⟨by rw[<-hr,W,V],he⟩
theorem qg4(s old new:DV)(w:DU)(V:MaxLenAt w)(H:seq old new=false)(W:s.size<=67108864)(Z:(old.size=1/\new.size=2)\/(old.size=2/\new.size=1)):
  Gv Eg 246 [.string s,.string old,.string new] w λr U=>r=.string ⟨(Lib.replaceAll s.data.toList old.data.toList new.data.toList).toArray⟩/\Ext w U:=by
 refine ze Tryz.func246 Tryz.ntmps246 ?_;refine zcv (qvr s old new w V H W Z) ?_;rintro v U ⟨rfl,he⟩;(conv=>whnf);exact⟨rfl,he⟩
theorem qo0(t:TM)(V:TermOk t)(w:DU)(hM:MaxLenAt w)(hT:CellsAt w 4 0 qcb):
  Gv Eg 175 [qv t] w λr w'=>r=(if qap t=0 then .tuple #[.string ⟨(qal t).toArray⟩,ii 0]else .tuple #[.string ⟨#[]⟩,ii (qap t)])/\Ext w w':=by
 refine ze Tryz.func175 Tryz.ntmps175 ?_;refine znm (Mem.nil w) ?_;intro tb w1 H;have H:Mem w w1 [(tb,.cells #[ii t.kind,.string t.text,.string t.type,.string t.lang] 45)]:=H;(conv=>whnf);refine zl H 0 ?_;refine zcv (qit t V w1 (hM.ext H.ext) (hT.ext H.ext)) ?_;rintro r w2 ⟨rfl,W⟩;have H:=H.call W;obtain⟨e,ee⟩:∃e,e=qap t:=⟨_,rfl⟩
 rw[<-ee];conv=>whnf
 (repeat'(first|refine zC (λ_=>zw ?_) (λ_=>zw ?_)|refine LoadV.mem (i:=0) Oa rfl rfl (zw ?_)))
 ·rw[Aa Oo];exact⟨rfl,H.ext⟩
 ·have h1:qal t=t.text.data.toList:=by grind [qal]
  rw[Ad Oo,h1];exact⟨rfl,H.ext⟩
 rw[Ad Oo];have aa:t.kind=3:=by omega
 have ad:t.text.size<=65536:=by
  grind [qap,litE]
 have ae:=V.type;have af:=V.lang;obtain⟨R,eR,ag⟩:∃R:DV,R=⟨(Lib.replaceAll t.text.data.toList [0] [0,1]).toArray⟩/\R.data.toList=escL t.text.data.toList:=⟨_,rfl,qag6 _⟩
 have ah:R.size<=2*t.text.size:=by
  have h1:R.size=R.data.toList.length:=rfl;have h2:=qxx t.text.data.toList
  simp_all
 have ai:(⟨#[0,0]⟩:DV).size=2:=rfl;have aj:(⟨#[0]⟩:DV).size=1:=rfl;refine DrawV.free Jk Jk (zw ?_);refine zd ?_;refine zLd ?_;refine zsd (.string R) (λU hd=>zw ?_) (zw ?_)
 ·refine zcv (qg4 t.text ⟨#[0]⟩ ⟨#[0,1]⟩ U (hM.ext (H.drew.call hd).ext) rfl Oo (.inl ⟨rfl,rfl⟩)) ?_
  simp_all
 apply zsd
 ·intro U hd;(conv=>whnf);refine Obl.mk Oo (zw ?_);exact xq
 (conv=>whnf);refine zd ?_;refine zLd ?_;apply zsd
 ·intro U hd;(conv=>whnf);refine Obl.mk (by grind) (zw ?_);exact xq
 (conv=>whnf);apply zsd
 ·intro U hd;(conv=>whnf);refine Obl.mk (by grind) (zw ?_);exact xq
 (conv=>whnf);refine zd ?_;refine zLd ?_;apply zsd
 ·intro U hd;(conv=>whnf);refine Obl.mk (by grind) (zw ?_);exact xq
 (conv=>whnf);refine zd ?_;refine zd ?_;intro w3 Z;(conv=>whnf);refine⟨?_,(H.drew.call Z).ext⟩;have:R++⟨#[0,0]⟩++t.type++⟨#[0]⟩++t.lang=⟨(qal t).toArray⟩:=qdj (by grind [qal,ByteArray.data_append]);rw[this]
def vBad:DZ:=.tuple #[.agg #[ii 0,.string ⟨#[]⟩,.string ⟨#[]⟩,.string ⟨#[]⟩],ii 170]
noncomputable def qha(kind:Int)(s:LB):DZ:=
 match qhk kind s with
 | some t=>.tuple #[qv t,.int .i64 0]
 | none=>vBad
theorem qwl{t:TM}(h:ReadsAs kind s t):qha kind s=.tuple #[qv t,ii 0]:=by rw[qha,qej h]
theorem qht(h:∀t,¬ReadsAs kind s t):qha kind s=vBad:=by rw[qha,q0z h]
theorem q2t(s H:LB):(Lib.cut s H).1.length<=s.length/\(Lib.cut s H).2.1.length<=s.length:=by
 grind [Lib.cut]
theorem qag7:∀(l:LB),(Lib.replaceAll l [0,1] [0]).length<=l.length:=by
 intro l
 induction h:l.length using Nat.strongRecOn generalizing l with
 | _ n W=>
  by_cases Z:Lib.index l [0,1]=-1
  ·simp_all[qk3]
  ·obtain⟨i,hi⟩:∃i:Nat,Lib.index l [0,1]=i:=⟨(Lib.index l [0,1]).toNat,by have:=Lib.index_ge l [0,1];omega⟩
   have H:i+2<=l.length:=by
    rcases Lib.indexB_cases ⟨l.toArray⟩ ⟨#[0,1]⟩with U|⟨j,U,V⟩
    ·simp_all
    ·have h3:(Lib.index l [0,1])=j:=U;have h4:j+2<=l.length:=V;omega
   rw[qik Od Js hi,show i+([0,1]:LB).length=i+2 from rfl]
   grind
theorem q7t(kind:Int)(hk:kind=1\/kind=2\/kind=3)(s:DV)(hs:s.size<=262144)(w:DU)(hM:MaxLenAt w)(hT:CellsAt w 4 0 qcb):
  Gv Eg 303 [ii kind,.string s] w λr w'=>r=qha kind s.data.toList/\Ext w w':=by
 refine ze Tryz.func303 Tryz.ntmps303 ?_;refine znm (Mem.nil w) λr4 w1 H=>zw ?_;refine znm H λtb w2 H=>zw ?_;refine zS H 0 λw3 H=>zw ?_
 rcases hk with hk|hk|hk
 all_goals
  refine zv ?_
 case' inl|inr.inl=>
  obtain⟨t,Z⟩:∃t:TM,t=⟨kind,s,⟨#[]⟩,⟨#[]⟩⟩:=⟨_,rfl⟩
  have W:t.kind=kind:=by rw[Z]
  have ht:TermOk t:=by rw[Z];exact⟨(by grind [InR]),by grind,Ag _,Ag _⟩
  have U:∀u,ReadsAs kind s.data.toList u->u=t:=λu V=>by
   obtain⟨h1,h2,h3⟩:=V.plain Oo;have h4:=V.kind;rw[Z];obtain⟨uk,ux,uy,ul⟩:=u
   grind [qdj]
 case' inr.inr=>
  obtain⟨tx,rs,ok,ec⟩:∃tx rs ok,Lib.cut s.data.toList [0,0]=(tx,rs,ok):=(by grind)
  obtain⟨ty,la,fi,ed⟩:∃ty la fi,Lib.cut rs [0]=(ty,la,fi):=(by grind)
  have al:s.data.toList.length=s.size:=rfl;have ad:=q2t s.data.toList [0,0];rw[ec]at ad;dsimp only at ad;have ae:=q2t rs [0];rw[ed]at ae;dsimp only at ae;refine zcv (qacs s ⟨#[0,0]⟩ w3 (hM.ext H.ext) Oo) ?_;rintro r w4 ⟨rfl,af⟩;replace H:=H.call af;have ag:Lib.cut s.data.toList (⟨#[0,0]⟩:DV).data.toList=(tx,rs,ok):=ec;rw[ag];(conv=>whnf);refine zcv (qacs ⟨rs.toArray⟩ ⟨#[0]⟩ w4 (hM.ext H.ext) (by show rs.length<=_;omega)) ?_;rintro r w5 ⟨rfl,ah⟩;replace H:=H.call ah;have ai:Lib.cut (⟨rs.toArray⟩:DV).data.toList (⟨#[0]⟩:DV).data.toList=(ty,la,fi):=ed;rw[ai];have aa:∀u,ReadsAs kind s.data.toList u->tx=escL u.text.data.toList/\ty=u.type.data.toList/\la=u.lang.data.toList/\ok=true/\fi=true:=λu V=>by
   rw[hk]at V;obtain⟨h1,h2⟩:=V.lit
   grind [q2r,qxp]
  refine if aj:ok=true/\fi=true then ?good else ?bad
 case' good=>
  obtain⟨rfl,rfl⟩:=aj;obtain⟨t,Z⟩:∃t:TM,t=⟨kind,⟨(Lib.replaceAll tx [0,1] [0]).toArray⟩,⟨ty.toArray⟩,⟨la.toArray⟩⟩:=⟨_,rfl⟩
  have W:t.kind=kind:=by rw[Z]
  have am:=qag7 tx;have ht:TermOk t:=by
   rw[Z];refine⟨(by grind [InR]),?_,?_,?_⟩
   ·show(Lib.replaceAll tx [0,1] [0]).length<=_;omega
   ·show ty.length<=_;omega
   ·show la.length<=_;omega
  have U:∀u,ReadsAs kind s.data.toList u->u=t:=λu V=>by
   obtain⟨h1,h2,h3,_,_⟩:=aa u V;have h4:=V.kind;rw[Z];obtain⟨uk,ux,uy,ul⟩:=u
   simp_all[qti]
  refine zu ?_;refine zcv (qg4 ⟨tx.toArray⟩ ⟨#[0,1]⟩ ⟨#[0]⟩ w5 (hM.ext H.ext) rfl (by show tx.length<=_;omega) (.inr ⟨rfl,rfl⟩)) ?_;rintro r w6 ⟨rfl,ak⟩;replace H:=H.call ak;(conv=>whnf);refine StoreV.mem H (i:=0) rfl Js rfl λw7 H=>zw ?_;refine StoreV.mem H (i:=0) rfl Js rfl λw8 H=>zw ?_;refine StoreV.mem H (i:=0) rfl Js rfl λw3 H=>zw ?_
 case' inl|inr.inl|good=>
  replace H:Mem w w3 [(tb,.cells #[ii t.kind,.string t.text,.string t.type,.string t.lang] 45),(r4,.cells #[ii 0,.string ⟨#[]⟩,.string ⟨#[]⟩,.string ⟨#[]⟩] 45)]:=by rw[Z];exact H
  clear Z;refine zl H 0 ?_;refine zcv (qo0 t ht _ (hM.ext H.ext) (hT.ext H.ext)) ?_;rintro r w5 ⟨rfl,he⟩;replace H:=H.call he
  by_cases hE:qap t=0
  case' neg=>
   rw[Aa hE];have hv:qha kind s.data.toList=vBad:=qht λu V=>hE (U u V ▸ V.ok)
   refine zu ?_
  case' pos=>
   rw[Ad hE];cases hq:seq ⟨(qal t).toArray⟩ s
  case' true=>
   refine zu ?_;rw[hq];refine zu ?_;rw[qwl ⟨W,hE,(by grind [qaf])⟩];refine zl H 0 ?_;refine zS H 1 λw6 H=>zw ?_;refine qi (R:=λv w'=>v=.tuple #[qv t,ii 0]/\Ext w w') (zw ?_);refine zl H 1 ?_;exact⟨rfl,H.ext⟩
  case' false=>
   have hv:qha kind s.data.toList=vBad:=qht λu V=>by
    have e:=U u V;subst e;have:(⟨(qal u).toArray⟩:DV)=s:=qdj V.entry
    grind [qaf]
   refine zu ?_;rw[hq];refine zu ?_
 case' bad=>
  have hv:qha kind s.data.toList=vBad:=by grind [qht]
  obtain rfl|⟨rfl,rfl⟩:ok=false\/(ok=true/\fi=false):=by grind
  all_goals
   refine zu ?_
 all_goals
  rw[hv];refine zS H 1 λw6 H=>zw ?_;refine qi (R:=λv w'=>v=vBad/\Ext w w') (zw ?_);refine zl H 1 ?_;exact⟨rfl,H.ext⟩
open Go.RowKit Go.Extern.Stop Go.Stop Go.Extern
theorem qaip(t:DZ)(w:DU):
  Calls Tryz.prog 52 #[.nilIface,t] w λe H=>e=.returned (.bool false)/\H=w:=by
 go_enter Tryz.func52,Tryz.ntmps52
 go_wp2
 go_ret
 exact⟨rfl,rfl⟩
def entV(x:LB×Nat×Nat):DZ:=.tuple #[.string ⟨x.1.toArray⟩,ii x.2.1,ii x.2.2]
theorem q9b{B:LB}{p:Nat}{first:Bool}{s y:Nat×Nat×Nat}(es:s=if first then(0,0,0)else numL B)(H:y=numL (B.drop s.2.1)):
  (if(entG B first ahead).2.2≠0 then([],0,(entG B first ahead).2.2)else((entG B first ahead).1,p+(entG B first ahead).2.1,0))=if s.2.2≠0 then([],0,s.2.2)else if y.2.2≠0 then([],0,y.2.2)else if ahead.length<s.1 then([],0,161)else if 262144<y.1\/262144<s.1+y.1 then([],0,2)else if B.length-s.2.1-y.2.1<y.1 then([],0,10)else(ahead.take s.1++(B.drop (s.2.1+y.2.1)).take y.1,p+(s.2.1+y.2.1+y.1),0):=by
 have U:entG B first ahead=if s.2.2≠0 then([],0,s.2.2)else if y.2.2≠0 then([],0,y.2.2)else if ahead.length<s.1 then([],0,161)else if 262144<y.1\/262144<s.1+y.1 then([],0,2)else if B.length-s.2.1-y.2.1<y.1 then([],0,10)else(ahead.take s.1++(B.drop (s.2.1+y.2.1)).take y.1,s.2.1+y.2.1+y.1,0):=by
  rw[entG,<-es,H]
 rw[U]
 (repeat' split)<;>simp_all
theorem qr7(b:Nat)(m:LB)(p:Nat)(first:Bool)(last:DV)(w:DU)(h:DictAt w b m)(hp:p<=4294967296)(ah:last.size<=262144):
  Gv Eg 322 [pp b,ii p,.bool first,.string last] w λr w'=>r=entV (qgw (qd m) p first last.data.toList)/\Ext w w':=by
 obtain⟨⟨P,cp,E,W,h1,h2,h3,h4⟩,h5,h6,h7,h8⟩:=h;obtain⟨D,eD⟩:∃D,D=qd m:=⟨_,rfl⟩
 rw[<-eD]at h1 h3 h4 h8|-;refine ze Tryz.func322 Tryz.ntmps322 ?_;refine zv ?_;refine LoadV.own h1 rfl (zw ?_);refine zt ?_;refine zC (λ_=>zw ?_) (λ_=>zw ?_)
 ·rw[qgw,Ad Oo];exact⟨rfl,xr⟩
 refine LoadV.own h1 rfl (zw ?_);refine SliceV.bs h3 rfl p D.length W rfl rfl rfl Oo znr h4 znr (λh=>by cases h) ?_;intro A' ad;rw[Am Js]at ad;(conv=>whnf);obtain⟨B,eB⟩:∃B,B=D.drop p:=⟨_,rfl⟩
 have af:B.length=D.length-p:=by rw[eB,zld]
 rw[<-eB]at ad;have aa:∀w',Ext w w'->BS w' (.slice A' (D.length-p) (W-p)) B:=λw' he=>⟨A',W-p,by rw[af],by rw[af];omega,ad.ext he⟩
 refine zcv (qe8 _ B w (aa w xr)) ?_;rintro v w1 ⟨U,rfl,ai,aj,ak⟩;have H:Mem w w1 [(U,curO 367 (.slice A' (D.length-p) (W-p)) 0 0)]:=(Mem.nil w).fresh ak ai aj;(conv=>whnf);obtain⟨s,es⟩:∃s:Nat×Nat×Nat,s=if first then(0,0,0)else numL B:=⟨_,rfl⟩
 have al:s.1<18446744073709551616/\s.2.1<=B.length:=by
  have:=qbi B;rw[es];split
  ·exact⟨by decide,Ag _⟩
  ·exact⟨this.1,this.2.1⟩
 obtain⟨y,ey⟩:∃y,y=numL (B.drop s.2.1):=⟨_,rfl⟩
 obtain⟨Z,V⟩:∃Z,Z=qgw D p first last.data.toList:=⟨_,rfl⟩
 rw[<-V];rw[qgw,Aa Oo,<-eB,q9b es ey]at V;have aq:last.data.toList.length=last.size:=rfl;have am:=qbi (B.drop s.2.1);rw[<-ey,zld]at am;have hy:∀q,q=y.2.2->(numL (B.drop s.2.1)).2.2=q:=by rintro q rfl;rw[ey]
 cases first
 case' false=>
  have es:s=numL B:=es;refine zv ?_;refine zcv (qes U _ 0 0 B w1 (H.get mh) (aa w1 H.ext) (Ag _) Oo) ?_;rintro r w2 ⟨rfl,hu⟩
  by_cases he:(numL (B.drop 0)).2.2=0
  case' pos=>
   obtain⟨q1,q2,q3⟩:=q7l he;rw[q2,q3,As]at hu;rw[q1,show(numL (B.drop 0)).1=s.1 by rw[es];rfl];have H:Mem w w2 [(U,curO 367 (.slice A' (D.length-p) (W-p)) s.2.1 0)]:=by rw[es];exact H.upd (i:=0) rfl hu
   have e2:s.2.2=0:=by rw[es];exact he
  case neg=>
   obtain⟨q1,q2,q3⟩:=q7k he;rw[q2,q3]at hu;rw[q1];have H:Mem w w2 [(U,curO 367 (.slice A' (D.length-p) (W-p)) 0 (numL B).2.2)]:=H.upd (i:=0) rfl hu;have an:(numL B).2.2≠0:=he;refine zcv (qhe U _ _ _ w2 (H.get mh)) ?_;rintro r w3 ⟨rfl,rfl⟩;refine zu ?_;rw[V,Ad (show s.2.2≠0 by rw[es];exact an),es];exact⟨rfl,H.ext⟩
 case' true=>
  have es:s=(0,0,0):=es;have H:Mem w w1 [(U,curO 367 (.slice A' (D.length-p) (W-p)) s.2.1 0)]:=by rw[es];exact H
  have e2:s.2.2=0:=by rw[es]
  have ar:s.1=0:=by rw[es]
  refine zv ?_
 all_goals
  refine zcv (qhe U _ _ 0 _ (H.get mh)) ?_;rintro r w3 ⟨rfl,rfl⟩;refine zu ?_;refine zcv (qes U _ s.2.1 0 B _ (H.get mh) (aa _ H.ext) al.2 Oo) ?_;rintro r w4 ⟨rfl,hu⟩
  by_cases ae:y.2.2=0
  case neg=>
   obtain⟨q1,q2,q3⟩:=q7k (show(numL (B.drop s.2.1)).2.2≠0 by rw[<-ey];exact ae);rw[q2,q3,<-ey]at hu;rw[q1];have H:Mem w w4 [(U,curO 367 (.slice A' (D.length-p) (W-p)) s.2.1 y.2.2)]:=H.upd (i:=0) rfl hu;refine zcv (qhe U _ _ _ w4 (H.get mh)) ?_;rintro r w5 ⟨rfl,rfl⟩;refine zu ?_;rw[V,Aa (show ¬s.2.2≠0 by omega),Ad ae];exact⟨rfl,H.ext⟩
  obtain⟨q1,q2,q3⟩:=q7l (hy 0 ae.symm);rw[q2,q3,<-ey]at hu;rw[q1,<-ey];clear q1 q2 q3;have H:Mem w w4 [(U,curO 367 (.slice A' (D.length-p) (W-p)) (s.2.1+y.2.1) 0)]:=H.upd (i:=0) rfl hu;refine zcv (qhe U _ _ 0 w4 (H.get mh)) ?_;rintro r w5 ⟨rfl,rfl⟩;rw[Aa (show ¬s.2.2≠0 by omega),Aa (show ¬y.2.2≠0 by omega)]at V;clear hy;conv=>whnf
  (repeat'(first|refine zp ?_|refine zC (λ_=>zw ?_) (λ_=>zw ?_)))
  all_goals first
   | exact⟨by rw[V,Ad Oo];rfl,H.ext⟩
   | exact⟨by rw[V,Aa Oo,Ad Oo];rfl,H.ext⟩
   | skip
  rw[Aa Oo,Aa Oo]at V;refine zcv (qya U _ (s.2.1+y.2.1) 0 B w5 (H.get mh) (aa w5 H.ext) Oo Oo) ?_;rintro r w6 ⟨rfl,ao⟩;have H:=H.call ao;conv=>whnf
  (repeat'(first|refine zp ?_|refine zC (λ_=>zw ?_) (λ_=>zw ?_)))
  ·rw[V,Ad Oo];exact⟨rfl,H.ext⟩
  rw[Aa Oo]at V;subst V;refine zcv (qli U _ (s.2.1+y.2.1) 0 w6 (H.get mh)) ?_;rintro r w7 ⟨rfl,rfl⟩;refine zu ?_;refine zy ?_;have H:=H.drew;refine zv ?_;refine SliceS.at_ 0 s.1 rfl (by show(_:Int)=_;omega) Oo Oo (zu ?_);refine LoadV.own (H.ext.get h1) rfl (zu ?_);refine SliceV.bs (h3.ext H.ext) rfl (p+(s.2.1+y.2.1)) (p+(s.2.1+y.2.1)+y.1) W (by show(_:Int)=_;omega) (by show(_:Int)=_;omega) rfl Oo Oo Oo znr (λh=>by cases h) ?_;intro A2 ag;refine zu ?_;rw[show((D.drop (p+(s.2.1+y.2.1))).take (p+(s.2.1+y.2.1)+y.1-(p+(s.2.1+y.2.1))))=(B.drop (s.2.1+y.2.1)).take y.1 by rw[eB,Ar,BJ]]at ag;refine BytesS.sl ag (by rw[Az,zld];omega) (zu ?_);have z1:(last.extract 0 s.1).size=s.1:=by rw[BM];omega
  have z2:(⟨((B.drop (s.2.1+y.2.1)).take y.1).toArray⟩:DV).size=y.1:=by
   show(List.toArray _).size=_;rw[Ct,Az,zld];omega
  refine Obl.mk (by rw[z1,z2];omega) ?_;rw[show last.extract 0 s.1++⟨((B.drop (s.2.1+y.2.1)).take y.1).toArray⟩=(⟨(last.data.toList.take s.1++(B.drop (s.2.1+y.2.1)).take y.1).toArray⟩:DV)by
   apply ByteArray.ext;rw[<-BA,Dv,Cy];simp]
  refine zu ?_;refine⟨?_,H.ext⟩;rw[show((p:Int)+((s.2.1+y.2.1:Nat):Int)+((y.1:Nat):Int))=((p+(s.2.1+y.2.1+y.1):Nat):Int)by omega];rfl
end Go.Proofs.YtccmcfpmknpccaaGreatDoor
