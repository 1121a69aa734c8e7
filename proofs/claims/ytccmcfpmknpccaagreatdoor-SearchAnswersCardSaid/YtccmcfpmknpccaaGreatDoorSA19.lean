/- Lemmas and contracts of functions on the way to the law's card (part 19 of 20). -/
import Derived.Test.YtccmcfpmknpccaaGreatDoorSA18
namespace Go.Proofs.YtccmcfpmknpccaaGreatDoor
set_option maxHeartbeats 8000000
open Go.RowKit V
set_option maxHeartbeats 8000000
set_option maxRecDepth 100000
variable {b base c i j k m pb tb vb:Nat} {A:oA} {Q:Nat->Nat->Nat} {w w':DU} {cs:Eh} {fz:Nat×Nat} {l:LB}
theorem qaje(S:List Bool):boF (laN S)=laT S:=funext λt=>qafl S t
def boV(l:List Bool):Ee:=l.map Value.bool
theorem qhb(l:List Bool):(boV l).length=l.length:=by simp[boV]
def eD(m:Nat):DX:=if m%2=0 then 164 else 4
theorem qun(j:Nat):eD (2*j)=164:=Ad Oo
theorem q24(j:Nat):eD (2*j+1)=4:=Aa Oo
structure RdS(w w':DU)(rb:Nat)(U G:Eb)(L:Nat->Ee):Prop where
 sep:Sep w w' (rwF [] rb G)
 tab:w'.heap[rb]?=some (.cells (fnA 8 U) 172)
 row:∀m,m<8->w'.ownsRow 0 (eD m) 1 (G m) (L m).length (L m)
section
variable {w w1 w2:DU} {rb:Nat} {U G:Eb} {L:Nat->Ee}
theorem RdS.call(h:RdS w w1 rb U G L)(H:Ext w1 w2):RdS w w2 rb U G L:=⟨h.sep.call H,H.get h.tab,λm V=>qbj (h.row m V) H⟩
theorem RdS.chg(h:RdS w w1 rb U G L)(W:m<8){v:DZ}{x:Ee}(Z:w2.ownsRow 0 (eD m) 1 v x.length x)(hc:Chn (rowF (G m)) w1 w2)(hn:∀j∈rowF v,(j∈rowF (G m)\/w1.heap.size<=j)/\j<w2.heap.size):
  RdS w w2 rb U (updF G m v) (updR L m x):=by
 have H:=h.sep.row (i:=m+2) (qy7 [] rb G W) hc hn;refine⟨by rw[<-qahd];exact H.sep,?_,λj V=>?_⟩
 ·rw[H.keep 1 [rb] rfl Oo rb (Ak.2 rfl)];exact h.tab
 ·by_cases e:j=m
  ·subst e;rw[qb3,qj2];exact Z
  ·rw[qac _ _ _ _ e,qgh _ _ _ e];exact qcp (h.row j V) λi hi=>H.keep (j+2) _ (qy7 [] rb G V) Oo i hi
theorem RdS.store(h:RdS w w1 rb U G L)(Z:m<8){v:DZ}{K:Ec}(h1:qco v=true)(hK:∀w2,RdS w w2 rb (updF U m v) G L->K w2):StoreV w1 rb m v K:=by
 refine StoreV.own h.tab (by rw[qaq];exact Z) h1 λw2 hw=>?_;obtain⟨hc,V⟩:=Chn.set h.tab hw;have W:=h.sep.row (i:=1) (F':=[rb]) rfl hc λj H=>⟨.inl H,by rw[Ak.1 H];exact qfp V⟩
 exact hK w2 ⟨W.sep,by rw[V,qhf],λj H=>qcp (h.row j H) λi hi=>W.keep (j+2) _ (qy7 [] rb G H) Oo i hi⟩
theorem RdS.eqL{M:Nat->Ee}(h:RdS w w1 rb U G L)(e:∀m,m<8->L m=M m):RdS w w1 rb U G M:=
 ⟨h.sep,h.tab,λm H=>by rw[<-e m H];exact h.row m H⟩
theorem RdS.cell(h:RdS w w1 rb G G L)(hm:m<8)(hj:j<(L m).length)(V:G m=.slice A (L m).length c){v:DZ}(hv:qco v=true):∃g,A=some ⟨g,0,none⟩/\∀(K:Ec),(∀w2,RdS w w2 rb G G (updR L m ((L m).set j v))->K w2)->StoreV w1 g j v K:=by
 have Z:=h.row m hm;rw[V]at Z;obtain⟨g,hA,H,W,aa⟩:∃g,A=some ⟨g,0,none⟩/\∃H,w1.heap[g]?=some (.cells H (eD m))/\(L m).length<=H.size:=by
  rcases Z.2 with⟨q1,q2⟩|⟨g,ad,H,q1,_,W,q3,_,q4,q5⟩
  ·exfalso;omega
  ·cases q1;exact⟨g,rfl,H,W,by omega⟩
 subst hA;refine⟨g,rfl,λK hK=>StoreV.own W Oo hv λw2 hw=>?_⟩;obtain⟨ho,hc⟩:=qagm Z rfl hj hw;have hl:((L m).set j v).length=(L m).length:=DD;have h9:=h.chg hm (v:=.slice (some ⟨g,0,none⟩) (L m).length c) (x:=(L m).set j v) (by rw[hl];exact ho) (by rw[V];exact hc) (by
  rw[V];intro k hk;refine⟨.inl hk,?_⟩;rw[Ak.1 hk];exact Bf (qfp W) hc.size)
 have eG:∀i,updF G m (.slice (some ⟨g,0,none⟩) (L m).length c) i=G i:=λi=>by
  by_cases e:i=m
  ·subst e;rw[qb3,V]
  ·rw[qac _ _ _ _ e]
 rw[show updF G m (.slice (some ⟨g,0,none⟩) (L m).length c)=G from funext eG]at h9;exact hK w2 h9
end
def RdI(w w7:DU)(rb:Nat)(G:Eb)(L:Nat->Ee)(j x:Nat)(s4 s12 s13 s16:Bool)(v12 v13:DZ)(w':DU):Prop:=
 (s13=false/\s16=false/\Ext w7 w'/\(s12=true->∃H,v12=.slice (some ⟨H,0,none⟩) 1 1/\w'.heap[H]?=some (.cells #[.int .u64 x] 164)))\/
 (s12=true/\s13=true/\s16=false/\∃A c,v13=.slice A ((L (2*j)).length+1) c/\RdS w w' rb G (updF G (2*j) (.slice A ((L (2*j)).length+1) c)) (updR L (2*j) (L (2*j)++[.int .u64 x])))\/
 (s4=true/\s12=true/\s13=true/\s16=true/\∃V,RdS w w' rb V V (updR L (2*j) (L (2*j)++[.int .u64 x])))
section
variable {w w7 w':DU} {rb:Nat} {G:Eb} {L:Nat->Ee} {j x:Nat} {s4 s12 s13 s16:Bool} {v12 v13:DZ}
theorem RdI.ext(h:RdI w w7 rb G L j x s4 s12 s13 s16 v12 v13 w')(H:Ext w w7):Ext w w':=by
 rcases h with⟨_,_,h,_⟩|⟨_,_,_,_,_,_,h⟩|⟨_,_,_,_,_,h⟩
 ·exact H.trans h
 ·exact h.sep.ext
 ·exact h.sep.ext
theorem RdI.four(h:RdI w w7 rb G L j x false s12 s13 s16 v12 v13 w')(h7:RdS w w7 rb G G L):w'.heap[rb]?=some (.cells (fnA 8 G) 172)/\RdI w w7 rb G L j x true s12 s13 s16 v12 v13 w':=by
 rcases h with⟨V,W,H,Z⟩|⟨V,W,H,A,c,Z,h5⟩|⟨h,_⟩
 ·exact⟨H.get h7.tab,.inl ⟨V,W,H,Z⟩⟩
 ·exact⟨h5.tab,.inr (.inl ⟨V,W,H,A,c,Z,h5⟩)⟩
 ·cases h
theorem RdI.twelve(h:RdI w w7 rb G L j x s4 false s13 s16 v12 v13 w'){w2:DU}(H:b=w'.heap.size)(hw:w2=w'.alloc (.cells #[.int .u64 x] 164)):RdI w w7 rb G L j x s4 true s13 s16 (.slice (some ⟨b,0,none⟩) 1 1) v13 w2:=by
 rcases h with⟨V,W,Z,_⟩|⟨h,_⟩|⟨_,h,_⟩
 ·have he:Ext w' w2:=by rw[hw];exact(Ext.refl w').alloc _
  exact .inl ⟨V,W,Z.trans he,λ_=>⟨b,rfl,by rw[hw,H];exact heap_alloc_new w' _⟩⟩
 ·cases h
 ·cases h
theorem RdI.thirteen(h:RdI w w7 rb G L j x s4 true false s16 v12 v13 w'):s16=false/\Ext w7 w'/\∃H,v12=.slice (some ⟨H,0,none⟩) 1 1/\w'.heap[H]?=some (.cells #[.int .u64 x] 164):=by
 rcases h with⟨_,V,W,Z⟩|⟨_,h,_⟩|⟨_,_,h,_⟩
 ·exact⟨V,W,Z rfl⟩
 ·cases h
 ·cases h
theorem RdI.sixteen(h:RdI w w7 rb G L j x s4 s12 true false v12 v13 w'):s12=true/\∃A c,v13=.slice A ((L (2*j)).length+1) c/\RdS w w' rb G (updF G (2*j) (.slice A ((L (2*j)).length+1) c)) (updR L (2*j) (L (2*j)++[.int .u64 x])):=by
 rcases h with⟨h,_⟩|⟨H,_,_,V⟩|⟨_,_,_,h,_⟩
 ·cases h
 ·exact⟨H,V⟩
 ·cases h
theorem RdI.end_(h:RdI w w7 rb G L j x s4 s12 s13 true v12 v13 w'):∃H,RdS w w' rb H H (updR L (2*j) (L (2*j)++[.int .u64 x])):=by
 rcases h with⟨_,h,_⟩|⟨_,_,h,_⟩|⟨_,_,_,_,h⟩
 ·cases h
 ·cases h
 ·exact h
end
def LdQ(Q:Nat->Nat->Nat)(i m:Nat):Ee:=if m%2=0 then u64V (nuT Q (m/2) i)else boV (laM (stJ Q (m/2) i))
def LmQ(Q:Nat->Nat->Nat)(i k m:Nat):Ee:=if m/2<k then LdQ Q (i+1) m else LdQ Q i m
def LfQ(Q:Nat->Nat->Nat)(n k m:Nat):Ee:=if m%2=1/\m/2<k then boV (laN (stJ Q (m/2) n))else LdQ Q n m
theorem qo7(Q:Nat->Nat->Nat)(i j:Nat):LdQ Q i (2*j)=u64V (nuT Q j i):=by rw[LdQ,Ad Oo,show 2*j/2=j by omega]
theorem qud(Q:Nat->Nat->Nat)(i j:Nat):LdQ Q i (2*j+1)=boV (laM (stJ Q j i)):=by rw[LdQ,Aa Oo,show(2*j+1)/2=j by omega]
theorem q70(h:frU Q i (m/2)=false):LdQ Q (i+1) m=LdQ Q i m:=by rw[LdQ,LdQ,qaag h,qabh h]
theorem q73(Q:Nat->Nat->Nat)(i m:Nat):LmQ Q i 0 m=LdQ Q i m:=Aa Oo
theorem qad1(Q:Nat->Nat->Nat)(i:Nat)(h:m<8):LmQ Q i 4 m=LdQ Q (i+1) m:=Ad Oo
theorem qw0(Q:Nat->Nat->Nat)(i k:Nat):LmQ Q i k (2*k)=u64V (nuT Q k i):=by rw[LmQ,Aa Oo,qo7]
theorem qo8(Q:Nat->Nat->Nat)(i k:Nat):LmQ Q i k (2*k+1)=boV (laM (stJ Q k i)):=by rw[LmQ,Aa Oo,qud]
theorem q72(h:frU Q i k=false)(m:Nat):LmQ Q i k m=LmQ Q i (k+1) m:=by
 rw[LmQ,LmQ]
 by_cases g:m/2<k
 ·rw[Ad g,Ad Oo]
 ·by_cases H:m/2=k
  ·rw[Aa g,Ad Oo,q70 (by rw[H];exact h)]
  ·rw[Aa g,Aa Oo]
theorem qad2(h:frU Q i k=true){X:List Bool}(V:X=(laM (stJ Q k i)).set ((stJ Q k i).length-1) (if k=0 then false else frU Q i (k-1))){L:Nat->Ee}(W:∀m,m≠2*k->m≠2*k+1->L m=LmQ Q i k m)(m:Nat):
  updR (updR L (2*k) (u64V (nuT Q k i)++[.int .u64 (Q i k:Nat)])) (2*k+1) (boV (X++[false])) m=LmQ Q i (k+1) m:=by
 by_cases e:m=2*k+1
 ·subst e;rw[qj2,LmQ,Ad Oo,qud,qaho h,q90,V]
 ·rw[qgh _ _ _ e]
  by_cases H:m=2*k
  ·subst H;rw[qj2,LmQ,Ad Oo,qo7,qagd h,u64V,u64V,AJ];rfl
  ·rw[qgh _ _ _ H,W m H e,LmQ,LmQ]
   by_cases g:m/2<k
   ·rw[Ad g,Ad Oo]
   ·rw[Aa g,Aa Oo]
theorem q71(Q:Nat->Nat->Nat)(n m:Nat):LdQ Q n m=LfQ Q n 0 m:=(Aa Oo).symm
theorem qwy(Q:Nat->Nat->Nat)(n k j:Nat):LfQ Q n k (2*j)=u64V (nuT Q j n):=by rw[LfQ,Aa Oo,qo7]
theorem que(Q:Nat->Nat->Nat)(n k:Nat):LfQ Q n k (2*k+1)=boV (laM (stJ Q k n)):=by rw[LfQ,Aa Oo,qud]
theorem qwx(Q:Nat->Nat->Nat)(n:Nat)(h:j<k):LfQ Q n k (2*j+1)=boV (laN (stJ Q j n)):=by rw[LfQ,Ad Oo,show(2*j+1)/2=j by omega]
theorem qwz(Q:Nat->Nat->Nat)(n k m:Nat):updR (LfQ Q n k) (2*k+1) ((LfQ Q n k (2*k+1)).set ((stJ Q k n).length-1) (.bool true)) m=LfQ Q n (k+1) m:=by
 by_cases e:m=2*k+1
 ·subst e;rw[qj2,que,qwx Q n (CK k),<-qafm,boV,boV,DR]
 ·rw[qgh _ _ _ e,LfQ,LfQ]
  by_cases g:m%2=1/\m/2<k
  ·rw[Ad g,Ad Oo]
  ·rw[Aa g,Aa Oo]
theorem qad0{n:Nat}(h:(stJ Q k n).length=0)(m:Nat):LfQ Q n k m=LfQ Q n (k+1) m:=by
 rw[<-qwz,h]
 by_cases e:m=2*k+1
 ·subst e;have H:=Bg h;rw[qj2,que,H];rfl
 ·rw[qgh _ _ _ e]
def LvlR(Q:Nat->Nat->Nat)(n:Nat)(w:DU)(r:DZ):Prop:=
 ∃(H V:Nat->oA) (W Z:Nat->Nat),r=.agg #[.slice (H 0) (leT Q 0 n) (W 0),.slice (V 0) (leT Q 0 n) (Z 0),.slice (H 1) (leT Q 1 n) (W 1),.slice (V 1) (leT Q 1 n) (Z 1),
  .slice (H 2) (leT Q 2 n) (W 2),.slice (V 2) (leT Q 2 n) (Z 2),.slice (H 3) (leT Q 3 n) (W 3),.slice (V 3) (leT Q 3 n) (Z 3)]/\
  (∀j,j<4->SlAt encU 1 w (H j) (nuT Q j n))/\∀j,j<4->SlAt encO 1 w (V j) (laN (stJ Q j n))
theorem qsp(Q:Nat->Nat->Nat)(A:oA)(n c:Nat)(w:DU)(hS:SlAt idsE 4 w A ((List.range n).map Q))(hQ:TOk Q n):
  Gv Eg 86 [.slice A n c] w λr w'=>LvlR Q n w' r/\Ext w w':=by
 have b9:=hQ.nle;have af:((List.range n).map Q).length=n:=by simp
 have a8:∀i (hi:i<((List.range n).map Q).length),((List.range n).map Q)[i]=Q i:=λi hi=>by simp
 have a9:∀j i,i<=n->(nuT Q j i).length<=1048576:=λj i hi=>by have:=q4m (Q:=Q) j i;show leT Q j i<=_;omega
 have t2:tsz Eg 171=2:=by kernel_rfl
 have t1:tsz Eg 3=1:=by kernel_rfl
 refine ze Tryz.func86 Tryz.ntmps86 ?_;refine⟨λr2 w1 ba ay=>?_⟩;have az:Ext w w1:=by rw[ay];exact(Ext.refl w).alloc _
 have ar:w1.heap[r2]?=some (.cells #[.slice none 0 0,.slice none 0 0,.slice none 0 0,.slice none 0 0,.slice none 0 0,.slice none 0 0,.slice none 0 0,.slice none 0 0] 172):=by rw[ay,ba];exact heap_alloc_new w _
 have bb:w.heap.size<=r2:=by omega
 clear ba ay;(conv=>whnf);refine⟨λrb w2 be bf=>?_⟩;have h0:RdS w1 w2 rb (λ_=>.slice none 0 0) (λ_=>.slice none 0 0) (LdQ Q 0):=by
  have au:∀F∈(List.range 8).map (λ_:Nat=>rowF (.slice none 0 0)),F=[]:=λF hF=>by
   obtain⟨_,_,rfl⟩:=AF.1 hF;rfl
  have s0:Sep w1 w1 ((List.range 8).map λ_=>rowF (.slice none 0 0)):=by
   refine⟨Ext.refl w1,λF hF k hk=>?_,Bw.2 λi j hi hj _ k hk=>?_⟩
   ·rw[au F hF]at hk;cases hk
   ·rw[au _ (AH hi)]at hk;cases hk
  obtain⟨s1,hg⟩:=s0.new be bf;refine⟨s1.add (F:=[]) (Ext.refl w2) (λk hk=>by cases hk),hg,λm hm=>?_⟩;have e:LdQ Q 0 m=[]:=by
   rw[LdQ]
   split
   ·rfl
   ·rw[stJ]
    split<;>rfl
  rw[e];exact World.ownsRow_nil _ _ _ _
 clear be bf;(conv=>whnf);refine qk (λi:Nat=>[(0,.slice A n c),(2,pp r2),(3,pp rb),(4,ii i)])
  (λi w'=>i<=n/\∃G,RdS w1 w' rb G G (LdQ Q i)) (λi=>n-i) 0 fq ⟨Ag _,_,h0⟩ ?_
 clear h0;rintro i w3 cc ⟨i1,G,H⟩;(conv=>whnf);refine zC (λ_=>zw ?_) (λ_=>zw ?_)
 ·have hi:i<n:=by omega
  refine qk (λk:Nat=>[(0,.slice A n c),(2,pp r2),(3,pp rb),(4,ii i),(5,.bool (smQ Q i k)),(6,ii k)])
   (λk w'=>k<=4/\∃G,RdS w1 w' rb G G (LmQ Q i k)) (λk=>4-k) 0 ⟨rfl,rfl,rfl,rfl,Ae Value.bool (by rw[smQ,Ad rfl,AU];simp),rfl,trivial⟩ ⟨Ag _,G,H.eqL λm _=>(q73 Q i m).symm⟩ ?_
  clear H;rintro k w4 bw ⟨k1,G,H⟩;(conv=>whnf);refine zC (λ_=>zu ?_) (λ_=>zu ?_)
  ·have a0:k<4:=by omega
   have aj:=qai0 Q i k;obtain⟨b,eb⟩:∃b,b=smQ Q i k:=⟨_,rfl⟩
   rw[<-eb]at aj|-;obtain⟨A0,c0,e0⟩:=qbm (H.row (2*k) Oo);obtain⟨A1,c1,e1⟩:=qbm (H.row (2*k+1) Oo);have ag:(LmQ Q i k (2*k)).length=(nuT Q k i).length:=by rw[qw0,qfe]
   have ah:(LmQ Q i k (2*k+1)).length=(nuT Q k i).length:=by rw[qo8,qhb,qfq,qhn];rfl
   have V:(stJ Q k i).length=(nuT Q k i).length:=qhn Q k i;have o0:(fnA 8 G)[0+k*tsz Eg 171+0]?=some (.slice A0 (nuT Q k i).length c0):=by rw[t2,show 0+k*2+0=2*k by omega,qdr 8 G _ Oo,e0,ag]
   have o1:(fnA 8 G)[0+k*tsz Eg 171+1]?=some (.slice A1 (nuT Q k i).length c1):=by rw[t2,show 0+k*2+1=2*k+1 by omega,qdr 8 G _ Oo,e1,ah]
   have bz:=a9 k i i1;obtain⟨ab,ao,eA,bg⟩:=hS.at_ (by intro e;rw[e]at af;simp at af;omega);have ae:=bg i _ (zge (by rw[af];omega));rw[a8]at ae;subst eA;have bh:Ext w w4.drew:=az.trans H.sep.ext.drew;cases b
   case' true=>
    have b0:=qahn eb.symm;have bi:=ae.ext bh;have a1:=(bg (i-1) _ (zge (by rw[af];omega))).ext bh;rw[a8]at a1;have hb:(if k=0 then false else frU Q i (k-1))=false:=by
     rw[smQ]at eb
     split at eb
     ·rename_i g;rw[Ad g]
     ·rename_i g;rw[Aa g];simpa using eb.symm
    have H:=H.call (Ext.refl w4).drew;refine zy ?_;generalize w4.drew=w5 at *;refine zv ?_;refine⟨⟨ab,ao,i,rfl,by omega,by omega,?_⟩⟩;refine zu ?_;refine LoadV.of (by rw[t1,AZ];exact bi k _ (qe2 (Q i) Oo)) (zu ?_);refine⟨⟨ab,ao,i-1,rfl,by omega,by omega,?_⟩⟩;refine zu ?_;refine LoadV.of (by rw[t1,AZ];exact a1 k _ (qe2 (Q (i-1)) Oo)) (zw ?_);refine zt ?_;refine zC (λ_=>zu ?_) (λ_=>zu ?_)
    ·have hq:Q i k=Q (i-1) k:=by omega
     have hf:frU Q i k=false:=by rw[aj,AE hq];rfl
     exact⟨k+1,⟨rfl,rfl,rfl,rfl,Ae Value.bool (by rw[qq6,hf,hq];simp),Ae (Value.int .i64) Oo,trivial⟩,⟨by omega,G,H.eqL λm _=>q72 hf m⟩,by omega⟩
    have hq:Q i k≠Q (i-1) k:=by omega
    have hf:frU Q i k=true:=by rw[aj,AM hq];rfl
    have av:(decide ((Q i k:Int)=(Q (i-1) k:Int)))=smQ Q i (k+1):=by rw[qq6,hf];exact AM Oo
    refine LoadV.own H.tab o0 (zw ?_);refine zC (λ_=>zu ?_) (λ_=>zu ?_)
    all_goals have ad:∃L5 X,RdS w1 w5 rb G G L5/\(∀m,m≠2*k+1->L5 m=LmQ Q i k m)/\L5 (2*k+1)=boV X/\X=(laM (stJ Q k i)).set ((stJ Q k i).length-1) (if k=0 then false else frU Q i (k-1)):=
     ⟨_,laM (stJ Q k i),H,λm _=>rfl,qo8 Q i k,by rw[hb,q9z]⟩
    all_goals clear bi a1 b0 hq hb
   case' false=>
    have hf:frU Q i k=true:=aj;have H:=H.call (Ext.refl w4).drew;have av:false=smQ Q i (k+1):=by rw[qq6,hf];rfl
    refine zy ?_;generalize w4.drew=w5 at *;refine zv ?_;refine LoadV.own H.tab o0 (zw ?_);refine zC (λ_=>zu ?_) (λ_=>zu ?_)
    case' refine_2=>
     have h0:laM (stJ Q k i)=[]:=Bg (by rw[qfq];omega);have ad:∃L5 X,RdS w1 w5 rb G G L5/\(∀m,m≠2*k+1->L5 m=LmQ Q i k m)/\L5 (2*k+1)=boV X/\X=(laM (stJ Q k i)).set ((stJ Q k i).length-1) (if k=0 then false else frU Q i (k-1)):=
      ⟨_,[],H,λm _=>rfl,by rw[qo8,h0],by rw[h0];rfl⟩
    case' refine_1=>
     have bj:k≠0:=λe=>by
      subst e;rw[smQ,Ad rfl]at eb;have:¬0<i:=of_decide_eq_false eb.symm;have e0:i=0:=by omega
      subst e0;have:(nuT Q 0 0).length=0:=rfl;omega
     have hb:(if k=0 then false else frU Q i (k-1))=true:=by rw[smQ,Aa bj]at eb;rw[Aa bj];simpa using eb.symm
     refine LoadV.own H.tab o1 (zu ?_);obtain⟨g,a2,ad⟩:=H.cell (m:=2*k+1) (j:=(nuT Q k i).length-1) Oo (by rw[ah];omega) e1 (v:=.bool true) rfl;subst a2;refine ElemV.own1 ((nuT Q k i).length-1) Oo Oo (zw ?_);refine ad _ ?_;clear H ad;intro w5 H;(conv=>whnf);have ad:∃L5 X,RdS w1 w5 rb G G L5/\(∀m,m≠2*k+1->L5 m=LmQ Q i k m)/\L5 (2*k+1)=boV X/\X=(laM (stJ Q k i)).set ((stJ Q k i).length-1) (if k=0 then false else frU Q i (k-1)):=
      ⟨_,(laM (stJ Q k i)).set ((nuT Q k i).length-1) true,H,λm hm=>qgh _ _ _ hm,by rw[qj2,qo8,boV,boV,DR],by rw[hb,V]⟩
   all_goals
    obtain⟨L5,X,b1,bk,bl,hX⟩:=ad;have ak:L5 (2*k)=u64V (nuT Q k i):=by rw[bk _ Oo,qw0]
    have a3:X.length=(nuT Q k i).length:=by rw[hX,DD,qfq,V]
    have cd:=hQ.small hi a0;have bm:(L5 (2*k)).length=(nuT Q k i).length:=by rw[ak,qfe]
    clear H e1 ah o1;have a4:=b1.call (Ext.refl w5).drew;refine DrawV.gen (λS W w'=>RdI w1 w5.drew rb G L5 k (Q i k) (S 4) (S 12) (S 13) (S 16) (W 12) (W 13) w') rfl Jk (λW=>.inl ⟨rfl,rfl,xr,λh=>(by cases h)⟩) (zw ?_);(iterate 4 (refine zg ?_));refine StepG.of (.slice A0 (nuT Q k i).length c0) (λS W wd hk hp Z=>?_) (zw ?_)
    ·dsimp only at Z;rw[hk]at Z;obtain⟨ht,Z⟩:=Z.four a4;(conv=>whnf);refine LoadV.own ht o0 (zw ?_);exact⟨rfl,Z⟩
    (iterate 3 (refine zg ?_));refine StepG.of (.pointer (some ⟨ab,ao+i*4,none⟩)) (λS W wd hk hp Z=>zw ?_) (zw ?_)
    ·refine⟨⟨ab,ao,i,rfl,by omega,by omega,?_⟩⟩;rw[show tsz Eg 95=4 from by kernel_rfl];(conv=>whnf);exact⟨rfl,Z⟩
    refine zg ?_;refine StepG.of (ii (Q i k:Nat)) (λS W wd hk hp Z=>zw ?_) (zw ?_)
    ·refine LoadV.of (by rw[t1,AZ];exact(ae.ext (az.trans (Z.ext a4.sep.ext))) k _ (qe2 (Q i) a0)) (zw ?_);exact⟨rfl,Z⟩
    refine StepG.of (.int .u64 (Q i k:Nat)) (λS W wd hk hp Z=>?_) (zw ?_)
    ·refine zu ?_;exact⟨rfl,Z⟩
    refine StepG.any (λS W wd hk hp Z=>?_) (zw ?_)
    ·dsimp only at Z;rw[hk]at Z;(conv=>whnf);refine⟨λb w' hb hw=>?_⟩;(conv=>whnf);exact⟨trivial,Z.twelve hb hw⟩
    refine StepG.any (λS W wd hk hp Z=>?_) (zw ?_)
    ·dsimp only at Z;have al:S 12=true:=hp 12 Od;rw[hk,al]at Z;obtain⟨b2,a5,nb,hv,am⟩:=Z.thirteen;have an:=a4.call a5;have hr:=an.row (2*k) Oo;rw[e0,ak,qfe,ag,qun]at hr;rw[qp hv];(conv=>whnf);refine AppV.cell qah3 u64I u64Z Jk rfl (by decide +kernel) hr am rfl Oo ?_;intro A' c' w8 ho ai aa;have ai:Chn (rowF (G (2*k))) wd w8:=by rw[e0,ag];exact ai
     have aa:∀j∈rowF (.slice A' ((L5 (2*k)).length+1) c'),(j∈rowF (G (2*k))\/wd.heap.size<=j)/\j<w8.heap.size:=by rw[e0,ag,bm];exact aa
     (conv=>whnf);exact⟨trivial,.inr (.inl ⟨al,rfl,b2,A',c',(by rw[bm];rfl),an.chg Oo (by rw[zla,BC,qun,ak,qfe];exact ho) ai aa⟩)⟩
    refine zg ?_;refine zg ?_;refine StepG.any (λS W wd hk hp Z=>?_) (zw ?_)
    ·dsimp only at Z;have bn:S 13=true:=hp 13 Od;have h4:S 4=true:=hp 4 Od;rw[hk,bn]at Z;obtain⟨al,A',c',hv,an⟩:=Z.sixteen;rw[qp hv];(conv=>whnf);show StoreV _ rb (0+k*tsz Eg 171+0) _ _;rw[t2,show 0+k*2+0=2*k by omega];refine an.store Oo rfl ?_;intro w9 aq;exact⟨trivial,.inr (.inr ⟨h4,al,bn,rfl,_,aq⟩)⟩
    intro W w6 Z;obtain⟨G6,a6⟩:=Z.end_;clear Z;obtain⟨A6,c6,e6⟩:=qbm (a6.row (2*k+1) Oo);rw[qgh _ _ _ (show 2*k+1≠2*k by omega),bl,qhb,a3]at e6;(conv=>whnf);refine LoadV.own a6.tab (v:=.slice A6 (nuT Q k i).length c6) (by rw[t2];show(fnA 8 G6)[0+k*2+1]?=_;rw[show 0+k*2+1=2*k+1 by omega,qdr 8 G6 _ Oo,e6]) (zw ?_);refine⟨λnb w7 am hw=>?_⟩;have a5:Ext w6 w7:=by rw[hw];exact(Ext.refl w6).alloc _
    have b3:w7.heap[nb]?=some (.cells #[.bool false] 4):=by rw[hw,am];exact heap_alloc_new w6 _
    clear am hw;have bo:=a6.call a5;have bp:=bo.row (2*k+1) Oo;rw[e6,qgh _ _ _ (show 2*k+1≠2*k by omega),bl,qhb,a3,q24]at bp;(conv=>whnf);refine AppV.cell qais booI booZ Jk rfl (by decide +kernel) bp b3 rfl Oo ?_;intro A8 c8 w8 ho ai aa;rw[<-e6]at ai aa;have b4:=bo.chg (m:=2*k+1) Oo (v:=.slice A8 ((nuT Q k i).length+1) c8) (x:=boV (X++[false])) (by
     rw[qhb,zla,BC,a3,q24,boV,AJ];exact ho) ai aa
    (conv=>whnf);show StoreV _ rb (0+k*tsz Eg 171+1) _ _;rw[t2,show 0+k*2+1=2*k+1 by omega];refine b4.store Oo rfl ?_;intro w9 aq;refine zu ?_;rw[ak]at aq;exact⟨k+1,⟨rfl,rfl,rfl,rfl,Ae Value.bool av,Ae (Value.int .i64) Oo,trivial⟩,⟨by omega,_,aq.eqL λm _=>qad2 hf hX (λm _ h2=>bk m h2) m⟩,by omega⟩
  ·obtain rfl:k=4:=by omega
   exact⟨i+1,⟨rfl,rfl,rfl,Ae (Value.int .i64) Oo,trivial⟩,⟨by omega,G,H.eqL λm hm=>qad1 Q i hm⟩,by omega⟩
 ·obtain rfl:i=n:=by omega
  refine qk (λk:Nat=>[(2,pp r2),(3,pp rb),(10,ii k)])
   (λk w'=>k<=4/\∃G,RdS w1 w' rb G G (LfQ Q i k)) (λk=>4-k) 0 fq ⟨by omega,G,H.eqL λm _=>q71 Q i m⟩ ?_
  clear H;rintro k w4 bw ⟨k1,G,H⟩;(conv=>whnf);refine zC (λ_=>zu ?_) (λ_=>zu ?_)
  ·have a0:k<4:=by omega
   obtain⟨A0,c0,e0⟩:=qbm (H.row (2*k) Oo);obtain⟨A1,c1,e1⟩:=qbm (H.row (2*k+1) Oo);have ag:(LfQ Q i k (2*k)).length=(nuT Q k i).length:=by rw[qwy,qfe]
   have V:(stJ Q k i).length=(nuT Q k i).length:=qhn Q k i;have ah:(LfQ Q i k (2*k+1)).length=(nuT Q k i).length:=by rw[que,qhb,qfq,V]
   have o0:(fnA 8 G)[0+k*tsz Eg 171+0]?=some (.slice A0 (nuT Q k i).length c0):=by rw[t2,show 0+k*2+0=2*k by omega,qdr 8 G _ Oo,e0,ag]
   have o1:(fnA 8 G)[0+k*tsz Eg 171+1]?=some (.slice A1 (nuT Q k i).length c1):=by rw[t2,show 0+k*2+1=2*k+1 by omega,qdr 8 G _ Oo,e1,ah]
   have bz:=a9 k i i1;refine LoadV.own H.tab o0 (zw ?_);refine zC (λ_=>zu ?_) (λ_=>zu ?_)
   ·refine LoadV.own H.tab o1 (zu ?_);obtain⟨g,a2,ad⟩:=H.cell (m:=2*k+1) (j:=(stJ Q k i).length-1) Oo (by rw[ah];omega) e1 (v:=.bool true) rfl;subst a2;refine ElemV.own1 ((stJ Q k i).length-1) Oo Oo (zw ?_);refine ad _ ?_;clear H ad;intro w5 H;refine zu ?_;exact⟨k+1,⟨rfl,rfl,Ae (Value.int .i64) Oo,trivial⟩,⟨by omega,G,H.eqL λm _=>qwz Q i k m⟩,by omega⟩
   ·exact⟨k+1,⟨rfl,rfl,Ae (Value.int .i64) Oo,trivial⟩,⟨by omega,G,H.eqL λm _=>qad0 Oo m⟩,by omega⟩
  ·obtain rfl:k=4:=by omega
   have b5:∀m,m<8->(LfQ Q i 4 m).length=leT Q (m/2) i:=λm hm=>by
    rw[LfQ]
    split
    ·rw[qhb,qjh,qhn]
    ·rename_i g
     rw[LdQ]
     split
     ·rw[qfe];rfl
     ·exfalso;omega
   have V:∀m,∃A c,m<8->G m=.slice A (leT Q (m/2) i) c:=λm=>by
    by_cases hm:m<8
    ·obtain⟨A,c,e⟩:=qbm (H.row m hm);exact⟨A,c,λ_=>by rw[e,b5 m hm]⟩
    ·exact⟨none,0,λh=>absurd h hm⟩
   obtain⟨AA,V⟩:=Classical.axiomOfChoice V;obtain⟨CC,V⟩:=Classical.axiomOfChoice V;obtain⟨vs,evs⟩:∃vs,vs=[Value.slice (AA 0) (leT Q 0 i) (CC 0),.slice (AA 1) (leT Q 0 i) (CC 1),.slice (AA 2) (leT Q 1 i) (CC 2),.slice (AA 3) (leT Q 1 i) (CC 3),.slice (AA 4) (leT Q 2 i) (CC 4),.slice (AA 5) (leT Q 2 i) (CC 5),.slice (AA 6) (leT Q 3 i) (CC 6),.slice (AA 7) (leT Q 3 i) (CC 7)]:=⟨_,rfl⟩
   have b6:(fnA 8 G)=vs.toArray:=by
    rw[evs,fnA,show List.range 8=[0,1,2,3,4,5,6,7]from rfl];simp only[AK,BN];rw[V 0 Od,V 1 Od,V 2 Od,V 3 Od,V 4 Od,V 5 Od,V 6 Od,V 7 Od]
   have aw:=H.tab;rw[b6]at aw;have bq:=CellsAt.heap aw;have br:∀v∈vs,v.oneCell'=true:=by
    rw[evs];simp[Value.oneCell']
   have bt:vs.length=8:=by rw[evs];rfl
   have b7:=H.sep.ext.get ar;rw[evs]at bq;refine LoadA.cells bq rfl (zw ?_);rw[<-evs];refine StoreA.blk b7 (by rw[bt];exact Ai _) br ?_;intro w5 bu a7;have b8:r2<w1.heap.size:=qfp ar;have ax:∀m (hm:m<8),∀k∈rowF (G m),w5.heap[k]?=w4.heap[k]?:=λm hm k hk=>by
    have:=H.sep.at_ (qy7 [] rb G hm) k hk;exact bu.block k this.2 λg=>by rw[Ak.1 g]at this;omega
   have a7:w5.heap[r2]?=some (.cells vs.toArray 172):=by
    rw[a7]
    congr 3
    rw[bt];simp
   (conv=>whnf);refine qi (R:=λr w'=>LvlR Q i w' r/\Ext w w') ?_;have bv:=CellsAt.heap a7;rw[evs]at bv;(conv=>whnf);refine LoadA.cells bv rfl (zw ?_);refine⟨⟨λj=>AA (2*j),λj=>AA (2*j+1),λj=>CC (2*j),λj=>CC (2*j+1),rfl,λj hj=>?_,λj hj=>?_⟩,bu.ext (az.trans H.sep.ext) λk hk=>by rw[Ak.1 hk];exact bb⟩
   ·have hr:=qcp (H.row (2*j) Oo) (ax (2*j) Oo);rw[V (2*j) Oo,qwy,qfe,qun,show 2*j/2=j by omega]at hr;exact q5o hr rfl
   ·have hr:=qcp (H.row (2*j+1) Oo) (ax (2*j+1) Oo);rw[V (2*j+1) Oo,qwx Q i hj,qhb,qjh,qhn,q24,show(2*j+1)/2=j by omega]at hr;exact qqo (f:=Value.bool) hr (by rw[qjh,qhn])
def PvI(w0 w6:DU)(l x y:LB)(s5 s11 s12 s13:Bool)(v5 v11 v12 v13:DZ)(w':DU):Prop:=
 (s12=false/\s13=false/\Ext w6 w'/\(s5=true->∃A c,v5=.slice A x.length c/\SlAt encB 1 w' A x)/\(s11=true->s5=true/\∃A c,v11=.slice A y.length c/\SlAt encB 1 w' A y))\/
 (s5=true/\s11=true/\s12=true/\∃A c,v12=.slice A (l++y).length c/\RowS w0 w' (.slice A (l++y).length c) (l++y)/\(s13=true->v13=v12))
section
variable {w0 w6 w' w2:DU} {l x y:LB} {s5 s11 s12 s13:Bool} {v5 v11 v12 v13:DZ}
theorem PvI.start(H:Ext w6 w'):PvI w0 w6 l x y false false false false v5 v11 v12 v13 w':=.inl ⟨rfl,rfl,H,(λh=>(by cases h)),(λh=>(by cases h))⟩
theorem PvI.ext(h:PvI w0 w6 l x y s5 s11 s12 s13 v5 v11 v12 v13 w')(H:Ext w0 w6):Ext w0 w':=by
 rcases h with⟨_,_,h,_⟩|⟨_,_,_,_,_,_,h,_⟩
 ·exact H.trans h
 ·exact h.ext
theorem PvI.five(h:PvI w0 w6 l x y false s11 s12 s13 v5 v11 v12 v13 w')(H:Ext w' w2)(V:SlAt encB 1 w2 A x):PvI w0 w6 l x y true s11 s12 s13 (.slice A x.length c) v11 v12 v13 w2:=by
 rcases h with⟨W,Z,h3,_,h5⟩|⟨h,_⟩
 ·exact .inl ⟨W,Z,h3.trans H,λ_=>⟨A,c,rfl,V⟩,λg=>(by cases(h5 g).1)⟩
 ·cases h
theorem PvI.at5(h:PvI w0 w6 l x y true false s12 s13 v5 v11 v12 v13 w'):∃A c,v5=.slice A x.length c/\SlAt encB 1 w' A x:=by
 rcases h with⟨_,_,_,h,_⟩|⟨_,h,_⟩
 ·exact h rfl
 ·cases h
theorem PvI.eleven(h:PvI w0 w6 l x y true false s12 s13 v5 v11 v12 v13 w')(H:Ext w' w2)(V:SlAt encB 1 w2 A y):PvI w0 w6 l x y true true s12 s13 v5 (.slice A y.length c) v12 v13 w2:=by
 rcases h with⟨W,Z,h3,h4,_⟩|⟨_,h,_⟩
 ·obtain⟨B,d,h5,h6⟩:=h4 rfl;exact .inl ⟨W,Z,h3.trans H,λ_=>⟨B,d,h5,h6.ext H⟩,λ_=>⟨rfl,A,c,rfl,V⟩⟩
 ·cases h
theorem PvI.at11(h:PvI w0 w6 l x y s5 true false s13 v5 v11 v12 v13 w'):s5=true/\s13=false/\Ext w6 w'/\∃A c,v11=.slice A y.length c/\SlAt encB 1 w' A y:=by
 rcases h with⟨_,V,W,_,H⟩|⟨_,_,h,_⟩
 ·exact⟨(H rfl).1,V,W,(H rfl).2⟩
 ·cases h
theorem PvI.at12(h:PvI w0 w6 l x y s5 s11 true s13 v5 v11 v12 v13 w'):s5=true/\s11=true/\∃A c,v12=.slice A (l++y).length c/\RowS w0 w' (.slice A (l++y).length c) (l++y)/\(s13=true->v13=v12):=by
 rcases h with⟨h,_⟩|⟨H,V,_,W⟩
 ·cases h
 ·exact⟨H,V,W⟩
end
def lvW(Q:Nat->Nat->Nat)(n:Nat)(H V:Nat->oA)(W Z:Nat->Nat)(m:Nat):DZ:=if m%2=0 then .slice (H (m/2)) (leT Q (m/2) n) (W (m/2))else .slice (V (m/2)) (leT Q (m/2) n) (Z (m/2))
theorem q97(Q:Nat->Nat->Nat)(n:Nat)(H W:Nat->oA)(V Z:Nat->Nat)(hk:k<4):((List.range 8).map (lvW Q n H W V Z))[2*k]?=some (.slice (H k) (leT Q k n) (V k)):=by
 rw[Ao,Bu Oo,Bd,lvW,Ad Oo,show 2*k/2=k by omega]
theorem qafv(Q:Nat->Nat->Nat)(n:Nat)(W H:Nat->oA)(Z V:Nat->Nat)(hk:k<4):((List.range 8).map (lvW Q n W H Z V))[2*k+1]?=some (.slice (H k) (leT Q k n) (V k)):=by
 rw[Ao,Bu Oo,Bd,lvW,Aa Oo,show(2*k+1)/2=k by omega]
theorem qvv(Q:Nat->Nat->Nat)(A:oA)(n c:Nat)(w:DU)(hS:SlAt idsE 4 w A ((List.range n).map Q))(hQ:TOk Q n):
  Gv Eg 35 [.slice A n c,ii 1099511627776] w λr w'=>∃v,r=.tuple #[v,ii 0]/\NewS 5 w w' v (qu Q n):=by
 have b4:=hQ.nle;have a1:=hQ.le;have ad:((List.range n).map Q).length=n:=by simp
 have a2:∀i (hi:i<((List.range n).map Q).length),((List.range n).map Q)[i]=Q i:=λi hi=>by simp
 have t2:tsz Eg 171=2:=by kernel_rfl
 have bk:=q62 hQ;have bl:=λ{k:Nat} (hk:k<=4)=>qakk hQ hk
 refine ze Tryz.func35 Tryz.ntmps35 ?_;refine zv ?_;refine qk (λi:Nat=>[(0,.slice A n c),(1,ii 1099511627776),(6,ii i)]) (λi w1=>i<=n/\Ext w w1) (λi=>n-i) 0 fq ⟨Ag _,Ext.refl w⟩ ?_;rintro i w1 b5 ⟨i1,am⟩;(conv=>whnf);refine zC (λ_=>zw ?_) (λ_=>zw ?_)
 ·have hi:i<n:=by omega
  refine ElemV.sl (hS.ext am) ad i rfl hi ?_;intro eb eo ag;rw[a2]at ag;(conv=>whnf);refine LoadA.cells ag rfl (zw ?_);refine zcv (qvs Q n hQ hi w1) ?_;rintro r w2 ⟨rfl,ae⟩;refine zu ?_;exact⟨i+1,⟨rfl,rfl,Ae (Value.int .i64) Oo,trivial⟩,⟨by omega,am.trans ae⟩,by omega⟩
 ·obtain rfl:i=n:=by omega
  refine qk (λk:Nat=>[(0,.slice A i c),(1,ii 1099511627776),(8,ii (k+1:Nat))]) (λk w1=>Ext w w1) (λk=>i-k) 0 fq am ?_;rintro k w2 b6 ae;(conv=>whnf);refine zC (λ_=>zw ?_) (λ_=>zw ?_)
  ·have hk:k+1<i:=by omega
   obtain⟨b,a3,rfl,a4⟩:=(hS.ext ae).at_ (by intro e;rw[e]at ad;simp at ad;omega);have a5:=(a4 k _ (zge (by rw[ad];omega))).ext (Ext.refl w2).drew;have a6:=(a4 (k+1) _ (zge (by rw[ad];omega))).ext (Ext.refl w2).drew;rw[a2]at a5 a6;obtain⟨kk,W,an,bm⟩:=hQ.rise (k+1) Oo hk;refine DrawV.free rfl Jk (zw ?_);(iterate 3 (refine zd ?_));refine zf ?_ (by intro wd hd;(conv=>whnf);refine⟨⟨b,a3,k,rfl,by omega,by omega,?_⟩⟩;exact xq);apply zsd
   ·intro wd hd;(conv=>whnf);refine LoadA.cells (a5.ext hd) rfl (zw ?_);exact xq
   (conv=>whnf);refine zd ?_;refine zd ?_;refine zf ?_ (by intro wd hd;(conv=>whnf);refine⟨⟨b,a3,(k+1),rfl,by omega,by omega,?_⟩⟩;exact xq);apply zsd
   ·intro wd hd;(conv=>whnf);refine LoadA.cells (a6.ext hd) rfl (zw ?_);exact xq
   (conv=>whnf);apply zsd
   ·intro wd hd;(conv=>whnf);refine zcv (qpi (Q k) (Q (k+1)) wd W (λj hj=>(an j hj).symm) bm) ?_;rintro v w7 ⟨rfl,he⟩;exact⟨he,rfl⟩
   (conv=>whnf);refine zd ?_;intro wd hd;have ao:=(ae.drew).trans hd;refine zu ?_;exact⟨k+1,⟨rfl,rfl,Ae (Value.int .i64) Oo,trivial⟩,ao,by omega⟩
  ·refine zcv (qsp Q A i c w2 (hS.ext ae) hQ) ?_;rintro r w3 ⟨⟨NA,LA,NC,LC,rfl,hN,hL⟩,ao⟩;(conv=>whnf);refine znm (Mem.nil w3) λrb w4 hm=>zw ?_;refine StoreA.all (vs:=(List.range 8).map (lvW Q i NA LA NC LC)) hm (i:=0) rfl rfl (λv hv=>by
    obtain⟨m,_,rfl⟩:=AF.1 hv;rw[lvW];split<;>rfl) ?_
   intro w5 hm;have a7:CellsAt w5 rb 0 ((List.range 8).map (lvW Q i NA LA NC LC)):=CellsAt.mem hm mh;have bn:Ext w w5:=ae.trans (ao.trans hm.ext);have hN:=λj hj=>(hN j hj).ext hm.ext
   have hL:=λj hj=>(hL j hj).ext hm.ext
   clear hm;have aq:∀{w'},Ext w5 w'->∀{k},k<4->w'.cell? ⟨rb,0+k*tsz Eg 171+0,none⟩=some (.slice (NA k) (leT Q k i) (NC k)):=λhe k hk=>by
    rw[t2,show 0+k*2+0=0+2*k by omega];exact(a7.ext he) (2*k) _ (q97 Q i NA LA NC LC hk)
   have a8:∀{w'},Ext w5 w'->∀{k},k<4->w'.cell? ⟨rb,0+k*tsz Eg 171+1,none⟩=some (.slice (LA k) (leT Q k i) (LC k)):=λhe k hk=>by
    rw[t2,show 0+k*2+1=0+(2*k+1)by omega];exact(a7.ext he) (2*k+1) _ (qafv Q i NA LA NC LC hk)
   (conv=>whnf);refine qk (λx:Nat×oA×Nat=>[(1,ii 1099511627776),(9,pp rb),(10,.slice x.2.1 (trW Q i x.1).length x.2.2),(11,ii x.1)])
    (λx w'=>x.1<=4/\RowS w5 w' (.slice x.2.1 (trW Q i x.1).length x.2.2) (trW Q i x.1)) (λx=>4-x.1) (0,none,0) fq ⟨Ag _,RowS.nil (Ext.refl w5)⟩ ?_
   rintro⟨k,B,d⟩ w6 b7 ⟨k1,V⟩;dsimp only at k1 V|-;have b8:=bk k;(conv=>whnf);refine zC (λ_=>zu ?_) (λ_=>zu ?_)
   ·have W:k<4:=by omega
    have a9:=a1 k;have aa:=qbk 9 (leT Q k i) Oo;refine LoadV.of (aq V.ext W) (zu ?_);refine zcv (qe9 (leT Q k i) w6 Oo) ?_;rintro r w7 ⟨⟨Bv,dv,rfl,b9,bo⟩,bp⟩;have V:=V.call bp;(conv=>whnf);refine V.bys bo Oo ?_;clear V;intro B2 d2 w8 V;refine zu ?_;exact⟨(k+1,B2,d2),⟨rfl,rfl,rfl,Ae (Value.int .i64) Oo,trivial⟩,⟨by show k+1<=4;omega,V⟩,by show 4-(k+1)<4-k;omega⟩
   ·obtain rfl:k=4:=by omega
    refine qk (λx:Nat×oA×Nat=>[(1,ii 1099511627776),(9,pp rb),(10,.slice x.2.1 (trX Q i x.1).length x.2.2),(12,ii x.1)])
     (λx w'=>x.1<=4/\RowS w5 w' (.slice x.2.1 (trX Q i x.1).length x.2.2) (trX Q i x.1)) (λx=>4-x.1) (0,B,d) fq ⟨Ag _,V⟩ ?_
    clear V;rintro⟨k,B,d⟩ w7 cc ⟨k2,V⟩;dsimp only at k2 V|-;have bq:=bl k2;(conv=>whnf);refine zC (λ_=>zu ?_) (λ_=>zu ?_)
    ·have W:k<4:=by omega
     have a9:=a1 k;have ba:=hQ.wi W;have ar:leT Q k i*wiT (nuT Q k i)<=1048576*23:=B8 a9 ba;have ah:=qbz (nuT Q k i) (wiT (nuT Q k i));have bb:(nuT Q k i).length=leT Q k i:=rfl;have ai:∀x∈nuT Q k i,x<18446744073709551616:=λx hx=>by
      obtain⟨j,hj,rfl⟩:=qjp hx;exact hQ.big W j hj
     have au:=qnm (nuT Q k i) (NA k) (leT Q k i) (NC k) w7 ((hN k W).ext V.ext) rfl ai Oo;have av:=λw' he=>qtk (nuT Q k i) (wiT (nuT Q k i)) (NA k) (leT Q k i) (NC k) w' ((hN k W).ext he) rfl Oo (AI ar Od) (qajv hQ W) Oo
     have br:wMx (nuT Q k i) (leT Q k i)=wiT (nuT Q k i):=rfl;rw[br]at au;have aa:lvB Q i k=UInt8.ofNat (wiT (nuT Q k i))::(qcv (nuT Q k i) (wiT (nuT Q k i))++(if k=0 then[]else qat (qbu (stT Q (k-1) i)) (leT Q k i))):=rfl;obtain⟨wi,bt⟩:∃wi,wi=wiT (nuT Q k i):=⟨_,rfl⟩
     rw[<-bt]at ar ba ah aa au av;obtain⟨pk,bu⟩:∃pk,pk=qcv (nuT Q k i) wi:=⟨_,rfl⟩
     rw[bb]at ah;rw[<-bu]at ah aa av;obtain⟨lw,bv⟩:∃lw,lw=leT Q k i*wi:=⟨_,rfl⟩
     rw[<-bv]at ar ah;refine LoadV.of (aq V.ext W) (zw ?_);refine zcv (au) ?_;rintro r w8 ⟨rfl,rfl⟩;refine zu ?_;refine⟨λnb w9 ai hw=>?_⟩;have bw:Ext w8 w9:=by rw[hw];exact(Ext.refl w8).alloc _
     have bz:w9.heap[nb]?=some (.cells #[.int .u8 (wi:Nat)] 5):=by rw[hw,ai];exact heap_alloc_new w8 _
     clear ai hw;have V:=V.call bw;(conv=>whnf);refine V.one Oo bz Oo ?_;clear V;intro B2 d2 b0 V;have b1:(trX Q i k++[UInt8.ofNat wi]).length=(trX Q i k).length+1:=by simp
     refine zu ?_;refine LoadV.of (aq V.ext W) (zw ?_);refine zcv (av b0 V.ext) ?_;rintro r cd ⟨vp,rfl,be⟩;obtain⟨Ap,cp,ep,_,b2⟩:=be.bs;subst ep;have V:=V.call be.ext;(conv=>whnf);refine V.bys b2 Oo ?_;clear V;intro B3 d3 bf V;have ce:(trX Q i k++[UInt8.ofNat wi]++pk).length=(trX Q i k).length+1+pk.length:=by rw[zla,b1]
     (conv=>whnf);refine zC (λ_=>zu ?_) (λ_=>zu ?_)
     ·have bg:k≠0:=by omega
      rw[Aa bg]at aa;have bh:(stT Q (k-1) i).length=leT Q k i:=by rw[qb2,BV Oo]
      have b3:(qbu (stT Q (k-1) i)).length=upN (leT Q k i) 8:=by rw[qc3,bh]
      have cf:upN (leT Q k i) 8=(leT Q k i+7)/8:=rfl;have hx:qdl (boF (laN (stJ Q k i))) ((leT Q k i+7)/8)=qbu (stT Q (k-1) i):=by rw[qaje,qahp Q bg,qbu,bh];rfl
      have aw:=λw' he=>qs3 (laN (stJ Q k i)) (LA k) (leT Q k i) (LC k) w' ((hL k W).ext he) (by rw[qjh,qhn]) Oo
      rw[hx]at aw;have al:(qat (qbu (stT Q (k-1) i)) (leT Q k i)).length<=1000000000:=by
       have hu:=qso (Q:=Q) (k-1) i;rw[BV Oo]at hu;have hc:cnt (qbu (stT Q (k-1) i)) (leT Q k i)<=leT Q k i:=qlm _ _;rw[q7w b3];exact qnl _ _ Oo hc
      have ax:=λB cb wd hB=>qo2 (qbu (stT Q (k-1) i)) B (qbu (stT Q (k-1) i)).length cb (leT Q k i) wd hB rfl Oo Oo Oo
      obtain⟨x,ex⟩:∃x,x=qbu (stT Q (k-1) i):=⟨_,rfl⟩
      rw[<-ex]at aw ax aa al;obtain⟨y,ey⟩:∃y,y=qat x (leT Q k i):=⟨_,rfl⟩
      rw[<-ey]at ax aa al;have e2:trX Q i k++[UInt8.ofNat wi]++pk++y=trX Q i (k+1):=by rw[trX,aa];simp
      generalize trX Q i k++[UInt8.ofNat wi]++pk=Z at *;have aj:=V.call (Ext.refl bf).drew;refine DrawV.gen (λS H w'=>PvI w5 bf.drew Z x y (S 5) (S 11) (S 12) (S 13) (H 5) (H 11) (H 12) (H 13) w') rfl Jk (λH=>PvI.start xr) (zw ?_);(iterate 4 (refine zg ?_));refine StepG.of (.slice (LA k) (leT Q k i) (LC k)) (λS H wd hk hp hI=>zw ?_) (zw ?_)
      ·refine LoadV.of (a8 (hI.ext aj.ext) W) (zw ?_);exact⟨rfl,hI⟩
      refine StepG.any (λS H wd hk hp hI=>?_) (zw ?_)
      ·dsimp only at hI;rw[hk]at hI;(conv=>whnf);refine zcv (aw wd (hI.ext aj.ext)) ?_;rintro r wx bi;obtain⟨Ax,cx,rfl,_,ay⟩:=bi.bs;exact⟨trivial,hI.five bi.ext ay⟩
      (iterate 3 (refine zg ?_));refine StepG.of (.slice (LA k) (leT Q k i) (LC k)) (λS H wd hk hp hI=>zw ?_) (zw ?_)
      ·refine LoadV.of (a8 (hI.ext aj.ext) W) (zw ?_);exact⟨rfl,hI⟩
      refine zg ?_;refine StepG.any (λS H wd hk hp hI=>?_) (zw ?_)
      ·dsimp only at hI;have h5:S 5=true:=hp 5 Od;rw[hk,h5]at hI;obtain⟨Ax,cx,hv,ay⟩:=hI.at5;rw[hv]at hI;rw[qp hv];(conv=>whnf);refine zcv (ax Ax cx wd ay) ?_;rintro r wx ⟨⟨By,cy,rfl,az⟩,hex⟩;refine⟨trivial,?_⟩;show PvI _ _ _ _ _ (S 5) true _ _ _ _ _ _ _;rw[h5];exact hI.eleven hex az
      refine StepG.any (λS H wd hk hp hI=>?_) (zw ?_)
      ·dsimp only at hI;have ak:S 11=true:=hp 11 Od;rw[hk,ak]at hI;obtain⟨h5,a0,he,Ay,cy,hv,az⟩:=hI.at11;rw[qp hv];(conv=>whnf);refine(aj.call he).bys az Oo ?_;intro A' c' w' af;exact⟨trivial,.inr ⟨h5,ak,rfl,A',c',rfl,af,λh=>absurd (a0.symm.trans h) Od⟩⟩
      refine StepG.any (λS H wd hk hp hI=>?_) (zw ?_)
      ·dsimp only at hI;have bj:S 12=true:=hp 12 Od;rw[hk,bj]at hI;obtain⟨h5,ak,A',c',hv,af,_⟩:=hI.at12;rw[qp hv];(conv=>whnf);exact⟨trivial,.inr ⟨h5,ak,bj,A',c',rfl,af,λ_=>rfl⟩⟩
      intro H cg hI;obtain⟨_,_,A',c',hv,af,a0⟩:=hI.at12;rw[qp ((a0 rfl).trans hv)];clear hI;rw[e2]at af|-;refine zu ?_;exact⟨(k+1,A',c'),⟨rfl,rfl,rfl,Ae (Value.int .i64) Oo,trivial⟩,⟨by show k+1<=4;omega,af⟩,by show 4-(k+1)<4-k;omega⟩
     ·rw[Ad Oo]at aa;have e:trX Q i k++[UInt8.ofNat wi]++pk=trX Q i (k+1):=by rw[trX,aa];simp
      rw[e]at V|-;exact⟨(k+1,B3,d3),⟨rfl,rfl,rfl,Ae (Value.int .i64) Oo,trivial⟩,⟨by show k+1<=4;omega,V⟩,by show 4-(k+1)<4-k;omega⟩
    ·obtain rfl:k=4:=by omega
     rw[q63]at V bq|-;exact⟨_,rfl,V.new.back bn⟩
theorem qeh(n:Nat)(w:DU)(H:n<4294967296):Gv Eg 91 [ii n] w λr w'=>BS w' r (fixL n 4)/\Ext w w':=by
 refine ze Tryz.func91 Tryz.ntmps91 ?_;refine zv ?_;refine zcv (qor n w H) ?_;rintro r w1 ⟨⟨A,c,rfl,V,W⟩,Z⟩;(conv=>whnf);exact⟨⟨A,c,rfl,V,W⟩,Z⟩
theorem q59(a b:Nat)(V T:LB)(A B:oA)(c d:Nat)(w:DU)(ha:a<4294967296)(hb:b<4294967296)(hV:SlAt encB 1 w A V)(hT:SlAt encB 1 w B T)(ae:V.length<4294967296)(af:T.length<4294967296):
  Gv Eg 36 [ii a,ii b,.slice A V.length c,.slice B T.length d] w λr w'=>NewS 5 w w' r (qc6 a b V T):=by
 have f4:=λn=>qt n 4
 have s4:=λp=>qfc p
 refine ze Tryz.func36 Tryz.ntmps36 ?_;refine⟨λnb w1 ad hw=>?_⟩;have ag:Ext w w1:=by rw[hw];exact(Ext.refl w).alloc _
 have aa:w1.heap[nb]?=some (.cells #[.int .u8 84,.int .u8 83,.int .u8 82,.int .u8 65] 5):=by rw[hw,ad];exact heap_alloc_new w _
 have W:RowS w w1 (.slice (some ⟨nb,0,none⟩) (fixL 1095914324 4).length 4) (fixL 1095914324 4):=⟨(Sep.of (Ext.refl w)).add (F:=[nb]) ag (λk hk=>by rw[Ak.1 hk];exact⟨by omega,qfp aa⟩),rfl,.inr ⟨nb,4,_,rfl,Ag _,aa,Ai _,by decide,rfl,rfl⟩⟩
 clear ad hw aa;(conv=>whnf);refine zcv (qeh 1 w1 Od) ?_;rintro r v1 ⟨⟨C1,d1,rfl,_,Z⟩,he⟩;have W:=W.call he;(conv=>whnf);refine W.bys Z (by simp only[f4];omega) ?_;clear W Z he;intro A2 c2 w2 W;(conv=>whnf);refine zcv (qeh a w2 ha) ?_;rintro r v2 ⟨⟨C2,d2,rfl,_,Z⟩,he⟩;have W:=W.call he;(conv=>whnf);refine W.bys Z (by simp only[zla,f4];omega) ?_;clear W Z he;intro A3 c3 w3 W;(conv=>whnf);refine zcv (qeh b w3 hb) ?_;rintro r v3 ⟨⟨C3,d3,rfl,_,Z⟩,he⟩;have W:=W.call he;(conv=>whnf);refine W.bys Z (by simp only[zla,f4];omega) ?_;clear W Z he;intro A4 c4 w4 W;(conv=>whnf);refine zcv (qeh V.length w4 ae) ?_;rintro r v4 ⟨⟨C4,d4,rfl,_,Z⟩,he⟩;have W:=W.call he;(conv=>whnf);refine W.bys Z (by simp only[zla,f4];omega) ?_;clear W Z he;intro A5 c5 w5 W;(conv=>whnf);refine zcv (qeh T.length w5 af) ?_;rintro r v5 ⟨⟨C5,d5,rfl,_,Z⟩,he⟩;have W:=W.call he;(conv=>whnf);refine W.bys Z (by simp only[zla,f4];omega) ?_;clear W Z he;intro A6 c6 w6 W;(conv=>whnf);have eH:fixL 1095914324 4++fixL 1 4++fixL a 4++fixL b 4++fixL V.length 4++fixL T.length 4=h24 a b V.length T.length:=by simp only[h24,Aw]
 rw[eH]at W|-;have ah:=ql1 a b V.length T.length;have eP:h24 a b V.length T.length++sumL (h24 a b V.length T.length)++V++sumL V++T++sumL T=qc6 a b V T:=by simp only[qc6,Aw]
 obtain⟨H,ai⟩:∃H,H=h24 a b V.length T.length:=⟨_,rfl⟩
 rw[<-ai]at W ah eP|-;refine zcv (qen H A6 H.length c6 w6 W.sl rfl Oo) ?_;rintro r v6 ⟨⟨C6,d6,rfl,_,Z⟩,he⟩;have W:=W.call he;(conv=>whnf);refine W.bys (m:=sumL H) Z (by rw[s4];omega) ?_;clear W Z he;intro A7 c7 w7 W;have h7:(H++sumL H).length=28:=by rw[zla,s4];omega
 (conv=>whnf);refine W.bys (hV.ext W.ext) Oo ?_;clear W;intro A8 c8 w8 W;have h8:(H++sumL H++V).length=28+V.length:=by rw[zla,h7]
 (conv=>whnf);refine zcv (qen V A V.length c w8 (hV.ext W.ext) rfl Oo) ?_;rintro r v8 ⟨⟨C8,d8,rfl,_,Z⟩,he⟩;have W:=W.call he;(conv=>whnf);refine W.bys (m:=sumL V) Z (by rw[s4];omega) ?_;clear W Z he;intro A9 c9 w9 W;have h9:(H++sumL H++V++sumL V).length=32+V.length:=by rw[zla,h8,s4];omega
 (conv=>whnf);refine W.bys (hT.ext W.ext) Oo ?_;clear W;intro ak al aj W;have am:(H++sumL H++V++sumL V++T).length=32+V.length+T.length:=by rw[zla,h9]
 (conv=>whnf);refine zcv (qen T B T.length d aj (hT.ext W.ext) rfl Oo) ?_;rintro r an ⟨⟨ao,aq,rfl,_,Z⟩,he⟩;have W:=W.call he;(conv=>whnf);refine W.bys (m:=sumL T) Z (by rw[s4];omega) ?_;clear W Z he;intro ar au av W;rw[eP]at W|-;(conv=>whnf);exact W.new
theorem q9t(T:List TM)(q:Q4)(h:noT T (gat q i)=0):fnA 4 (inF (idF T q i))=fnA 4 (inF (idF T q (i+1))):=by
 refine qeg λj H=>?_;rw[inF,inF,idF,idF]
 congr 1
 by_cases e:j=i
 ·subst e;rw[Aa (D6 _),Ad (CK _),h];rfl
 ·by_cases h:j<i
  ·rw[Ad h,Ad Oo]
  ·rw[Aa h,Aa Oo]
theorem qaa0(T:List TM)(hr:RiseT T)(A:oA)(c:Nat)(q:Q4)(hq:∀k,k<4->gat q k∈T\/gat q k=zTM)(_:∀t∈T,1<=t.kind)(hl:T.length<=16777216)(w:DU)(hS:SlAt encT 4 w A T):
  Gv Eg 34 [.slice A T.length c,qy q] w λr w'=>r=idsV (λk=>noT T (gat q k))/\Ext w w':=by
 have t1:tsz Eg 3=1:=by kernel_rfl
 have t4:tsz Eg 45=4:=by kernel_rfl
 refine ze Tryz.func34 Tryz.ntmps34 ?_;refine znm (Mem.nil w) ?_;intro b3 w1 H;have H:Mem w w1 [(b3,.cells (qf q).toArray 47)]:=H;(conv=>whnf);refine znm H λb4 w2 H=>zw ?_;refine znm H ?_;intro b5 w3 H;have H:Mem w w3 [(b5,.cells (fnA 4 (inF (idF T q 0))) 95),(b4,.cells #[ii 0,ii 0,ii 0,ii 0] 95),(b3,.cells (qf q).toArray 47)]:=H;have hc:CellsAt w3 b3 0 (qf q):=CellsAt.mem H (zmg (i:=2) rfl);(conv=>whnf);refine LoadA.cells (qm hc 3 Oo) rfl (zw ?_);refine LoadA.cells (qm hc 0 Oo) rfl (zw ?_);refine LoadA.cells (qm hc 1 Oo) rfl (zw ?_);refine LoadA.cells (qm hc 2 Oo) rfl (zw ?_);refine znm H λb6 w4 H=>zw ?_;refine StoreA.all (vs:=qf (gQ q)) H (i:=0) rfl rfl (qb1 _) ?_;clear H;intro w5 H;have H:Mem w w5 [(b6,.cells (qf (gQ q)).toArray 166),(b5,.cells (fnA 4 (inF (idF T q 0))) 95),(b4,.cells #[ii 0,ii 0,ii 0,ii 0] 95),(b3,.cells (qf q).toArray 47)]:=H;(conv=>whnf);refine qk (λk:Nat=>[(0,.slice A T.length c),(4,pp b4),(5,pp b5),(6,pp b6),(7,ii k)])
  (λk w'=>k<=4/\Mem w w' [(b6,.cells (qf (gQ q)).toArray 166),(b5,.cells (fnA 4 (inF (idF T q k))) 95),(b4,.cells #[ii 0,ii 0,ii 0,ii 0] 95),(b3,.cells (qf q).toArray 47)]) (λk=>4-k) 0 fq ⟨by omega,H⟩ ?_
 clear H;rintro k w6 ar ⟨k1,H⟩;(conv=>whnf);refine zC (λ_=>zw ?_) (λ_=>zw ?_)
 ·have aa:k<4:=by omega
  have ae:CellsAt w6 b6 (0+k*4) (encT (gat q k)):=by rw[<-qafa q aa];exact qm (CellsAt.mem H mh) k aa
  obtain⟨t,et⟩:∃t,t=gat q k:=⟨_,rfl⟩
  have ai:=hq k aa;rw[<-et]at ae ai;refine qk (λx:Nat×Nat=>[(0,.slice A T.length c),(4,pp b4),(5,pp b5),(6,pp b6),(7,ii k),(8,ii x.1),(9,ii x.2)])
   (λx w'=>x.1<=x.2/\x.2<=T.length/\(∀p,T[p]?=some t->x.1<=p/\p<=x.2)/\Ext w6 w') (λx=>x.2-x.1) (0,T.length) fq ⟨Ag _,Ai _,λp hp=>⟨Ag _,Nat.le_of_lt (Af.1 hp).1⟩,Ext.refl w6⟩ ?_
  rintro⟨lo,hi⟩ w7 au ⟨x1,x2,x3,V⟩;dsimp only at x1 x2 x3 V|-;(conv=>whnf);refine zC (λ_=>zu ?_) (λ_=>zu ?_)
  ·obtain⟨m,em⟩:∃m,m=(lo+hi)/2:=⟨_,rfl⟩
   have ak:((lo:Int)+(hi:Int))/2=(m:Int):=by omega
   have W:m<T.length:=by omega
   rw[ak];obtain⟨tb,al,rfl,am⟩:=hS.at_ (by intro e;rw[e]at W;cases W);have Z:=(am m _ (zge W)).ext (H.ext.trans V.drew);have af:=ae.ext V.drew;obtain⟨u,eu⟩:∃u,u=T[m]:=⟨_,rfl⟩
   have aj:T[m]?=some u:=by rw[eu];exact zge W
   rw[<-eu]at Z;refine DrawV.free rfl Jk (zw ?_);refine zd ?_;refine zd ?_;apply zsd
   ·intro wd hd;(conv=>whnf);refine⟨⟨tb,al,m,rfl,rfl,W,?_⟩⟩;exact xq
   (conv=>whnf);apply zsd
   ·intro wd hd;(conv=>whnf);refine LoadA.cells (Z.ext hd) rfl (zw ?_);exact xq
   (conv=>whnf);refine zd ?_;refine zd ?_;apply zsd
   ·intro wd hd;(conv=>whnf);refine LoadA.cells (vs:=encT t) (by rw[t4];exact af.ext hd) rfl (zw ?_);exact xq
   (conv=>whnf);apply zsd
   ·intro wd hd;(conv=>whnf);refine zcv (qbg u t wd) ?_;rintro v w8 ⟨rfl,he⟩;exact⟨he,rfl⟩
   (conv=>whnf);refine zd ?_;intro w8 ad;have ad:Ext w6 w8:=V.drew.trans ad;(conv=>whnf);refine zC (λ_=>zu ?_) (λ_=>zu ?_)
   ·have an:LtT u t:=qav.1 Oo;exact⟨(m+1,hi),⟨rfl,rfl,rfl,rfl,rfl,Ae (Value.int .i64) Oo,rfl,trivial⟩,⟨by show m+1<=hi;omega,x2,λp hp=>⟨hr.lt aj hp an,(x3 p hp).2⟩,ad⟩,by show hi-(m+1)<hi-lo;omega⟩
   ·refine⟨(lo,m),fq,⟨by show lo<=m;omega,by show m<=T.length;omega,λp hp=>⟨(x3 p hp).1,Di.1 λg=>?_⟩,ad⟩,by show m-lo<hi-lo;omega⟩;have:=qav.2 (hr.at g aj hp);omega
  ·have e:lo=hi:=by omega
   subst e;have H:=H.call V;have af:=ae.ext V;have ao:0+k*tsz Eg 45+0=0+k*4:=by rw[t4];rfl
   refine LoadV.of (by show w7.cell? ⟨b6,0+k*tsz Eg 45+0,none⟩=some (ii t.kind);rw[ao];exact af 0 _ rfl) (zw ?_)
   by_cases ag:t.kind=0
   ·have ah:noT T (gat q k)=0:=by rw[<-et];exact qgo ag
    refine zv ?_;rw[q9t T q ah]at H;exact⟨k+1,⟨rfl,rfl,rfl,rfl,Ae (Value.int .i64) Oo,trivial⟩,⟨by omega,H⟩,by omega⟩
   ·have aq:t∈T:=ai.resolve_right λe=>ag (by rw[e];rfl)
    obtain⟨p,hp⟩:=AP.1 aq;have av:=x3 p hp;have ep:p=lo:=by omega
    subst ep;have ah:noT T (gat q k)=p+1:=by rw[<-et];exact qf0 hr hp ag
    refine zv ?_;have es:((p:Int)+1)=((noT T (gat q k):Nat):Int):=by rw[ah];rfl
    rw[es];show StoreV _ b5 (0+k*tsz Eg 3) _ _;rw[t1,show 0+k*1=k by omega];refine StoreV.mem H (i:=1) rfl (by rw[qaq];omega) rfl ?_;clear H;intro w8 H;have H:Mem w w8 [(b6,.cells (qf (gQ q)).toArray 166),(b5,.cells ((fnA 4 (inF (idF T q k))).setIfInBounds k (ii (noT T (gat q k):Nat))) 95),(b4,.cells #[ii 0,ii 0,ii 0,ii 0] 95),(b3,.cells (qf q).toArray 47)]:=H;rw[q3z T q aa]at H;refine zu ?_;exact⟨k+1,⟨rfl,rfl,rfl,rfl,Ae (Value.int .i64) Oo,trivial⟩,⟨by omega,H⟩,by omega⟩
 ·obtain rfl:k=4:=by omega
  refine zl H 1 ?_;refine zS H 2 λw8 H=>zw ?_;refine qi (R:=λv w'=>v=idsV (λk=>noT T (gat q k))/\Ext w w') (zw ?_);refine zl H 2 ?_;exact⟨rfl,H.ext⟩
theorem qahz{n:Nat}(h:TOk Q n):(qu Q n).length<=4200000000:=by
 have Z:=q62 h 4;have H:=h.lvLen (k:=0);have V:=h.le 0;have W:=h.wi (k:=0) Od;have h4:leT Q 0 n*wiT (nuT Q 0 n)<=1048576*23:=B8 V W;rw[Ad rfl]at H;have b1:=qye h (k:=1) Od;have b2:=qye h (k:=2) Od;have b3:=qye h (k:=3) Od;rw[<-q63];simp only[trX,zla];omega
theorem qvq(H:List Q4)(A:oA)(n c:Nat)(V:Int)(w:DU)(hS:SlAt qf 16 w A H)(hn:H.length=n)(hb:n<=140737488355328)(_:InR .i64 V)(hq:∀q∈H,qa5 q):
  Gv Eg 9 [.slice A n c,ii V] w λr w'=>EncR H V w w' r:=by
 subst hn;refine ze Tryz.func9 Tryz.ntmps9 ?_;refine zcv (qvz H A H.length c w hS rfl hb hq) ?_;rintro r w1 (⟨e,h0,he,rfl,az⟩|⟨hv,ae,v,rfl,hN⟩)
 ·have al:encE H V=e:=by
   rw[he]
   by_cases c1:valE H≠0
   ·rw[Ad c1,q89 c1]
   ·rw[Aa c1];rw[Aa c1]at he;exact q9a Oo (by rw[<-he];exact h0)
  have h1:¬((e:Nat):Int)=0:=by omega
  refine zu ?_;exact .inl ⟨by rw[al];exact h0,by rw[al],az⟩
 have a9:=(qep hv).1;have am:=qwf hv;have aa:=qzg hv am;have an:tmsN (trms H).length (trms H)=tmsQ H:=rfl;obtain⟨T,eT⟩:∃T,T=tmsQ H:=⟨_,rfl⟩
 have ah:∀t∈T,qap t=0/\1<=t.kind/\t.kind<=3:=λt ht=>qgg hv (by rw[<-eT];exact ht)
 have ai:RiseT T:=by rw[eT];exact qne H
 rw[<-eT]at ae hN am aa an;have ba:(vocB T).length<=210000030:=by
  have hd:=qo1 ae;have h1:=qwq (T:=T) (i:=3) Oo hd;have h2:=qwr (T:=T) (i:=3) Oo hd;rw[<-qaic,zla];omega
 obtain⟨Av,cv,ev,bb,aj⟩:=hN.bs;subst ev;refine zu ?_;refine zcv (qge H A c w1 (hS.ext hN.ext) Oo) ?_;rintro r w2 ⟨⟨B,d,rfl,hd,ao⟩,aq⟩;rw[an]at hd ao|-;have aj:=aj.ext aq;refine qk (λx:Nat×oA×Nat=>[(0,.slice A H.length c),(1,ii V),(6,.slice Av (vocB T).length cv),(8,.slice B T.length d),(9,.slice x.2.1 x.1 x.2.2),(10,ii x.1)])
  (λx w'=>x.1<=H.length/\Rw w2 w' (.slice x.2.1 x.1 x.2.2) 95 4 x.1 (qx5 T H x.1) []) (λx=>H.length-x.1) (0,none,0) fq ⟨Ag _,Rw.nil (Mem.nil w2)⟩ ?_
 rintro⟨i,D,e⟩ w3 be ⟨i1,W⟩;dsimp only at i1 W|-;have ar:=hN.ext.trans (aq.trans W.mem.ext);(conv=>whnf);refine zC (λ_=>zw ?_) (λ_=>zw ?_)
 ·have au:i<H.length:=by omega
  have av:H[i]?=some H[i]:=zge au;have aw:=AH au;obtain⟨q,eq⟩:∃q,q=H[i]:=⟨_,rfl⟩
  rw[<-eq]at av aw;have a0:∀k,k<4->gat q k∈T\/gat q k=zTM:=λk hk=>(aa.mem q aw k hk).imp id λg=>g.2.2
  refine ElemV.sl (hS.ext ar) rfl i rfl Oo ?_;intro eb eo ad;rw[<-eq]at ad;refine LoadA.cells ad rfl (zw ?_);refine zcv (qaa0 T ai B d q a0 (λt ht=>(ah t ht).2.1) Oo w3 (ao.ext W.mem.ext)) ?_;rintro r w4 ⟨rfl,a1⟩;have W:=W.call a1;refine NewV.rw W λa2 w9 W=>zw ?_;refine AppV.rw (m:=1) (news:=idsE λk=>noT T (gat q k)) qai5 idsI idsZ Jk Jk Od W rfl (λ_=>⟨a2,0,rfl,λk v hv=>?_⟩) (q9v _) (by rw[show((Eg.info? 95).get Jk).bytes=32 from by kernel_rfl];omega) Oo ?_
  ·rw[qa (W.mem.get mh),As];rw[<-hv];simp[idsE]
  clear W;intro B2 d2 bf W;rw[<-qux T H av]at W;refine zu ?_;exact⟨(i+1,B2,d2),⟨rfl,rfl,rfl,rfl,rfl,Ae (Value.int .i64) Oo,trivial⟩,⟨by show i+1<=H.length;omega,W.tail⟩,by show H.length-(i+1)<H.length-i;omega⟩
 ·obtain rfl:i=H.length:=by omega
  have ax:SlAt idsE 4 w3 D ((List.range H.length).map (noQ T H)):=qagk q9u W.own Js;have af:TOk (noQ T H) H.length:=aa.tok;have bg:=qahz af;refine zcv (qvv (noQ T H) D H.length e w3 ax af) ?_;rintro r w4 ⟨v2,rfl,ak⟩;obtain⟨At,ct,et,bh,a3⟩:=ak.bs;subst et;have ay:=aj.ext (W.mem.ext.trans ak.ext);refine zu ?_;refine zcv (q59 H.length T.length (vocB T) (qu (noQ T H) H.length) Av At cv ct w4 Oo Oo ay a3 Oo Oo) ?_;rintro r w5 Z;have a4:qc6 H.length T.length (vocB T) (qu (noQ T H) H.length)=pkB H:=by rw[eT];rfl
  rw[a4]at Z;obtain⟨A9,c9,a5,_⟩:=id Z.h;subst a5;have Z:=Z.back (ar.trans ak.ext);have a6:=qae0 (qs:=H) (most:=V) hv (by rw[<-eT];exact ae);have ag:=q87 (qs:=H) (most:=V) hv (by rw[<-eT];exact ae);conv=>whnf
  (repeat'(first|refine zp ?_|refine zC (λ_=>zw ?_) (λ_=>zw ?_)))
  ·have e1:=ag Oo;exact .inl ⟨by rw[e1];decide,by rw[e1];rfl,Z.ext⟩
  ·have e1:=ag Oo;exact .inl ⟨by rw[e1];decide,by rw[e1];rfl,Z.ext⟩
  ·exact .inr ⟨a6 Oo,_,rfl,Z⟩
def twoC(f:Eb):Eh:=#[f 0,f 1]
theorem qfd(f:Eb)(H:k<2):(twoC f)[k]?=some (f k):=by
 match k,H with
 | 0,_=>rfl
 | 1,_=>rfl
def updV(f:Eb)(k:Nat)(v:DZ):Nat->DZ:=λj=>if j=k then v else f j
theorem qeo(f:Eb)(k:Nat)(v:DZ):updV f k v k=v:=Ad rfl
theorem qnh(f:Eb)(v:DZ)(h:j<k):updV f k v j=f j:=Aa Oo
theorem qrh(f:Eb)(v:DZ)(H:k<2):(twoC f).setIfInBounds k v=twoC (updV f k v):=by
 match k,H with
 | 0,_=>rfl
 | 1,_=>rfl
def fouC(f g:Eb):Eh:=#[f 0,g 0,f 1,g 1]
theorem quu(f g:Eb)(H:k<2){v:DZ}(h:[f k,g k][j]?=some v):(fouC f g)[k*2+j]?=some v:=by
 match k,H with
 | 0,_=>
  match j with
  | 0=>exact h
  | 1=>exact h
  | j+2=>simp at h
 | 1,_=>
  match j with
  | 0=>exact h
  | 1=>exact h
  | j+2=>simp at h
theorem q9l(f g:Eb)(u v:DZ)(H:k<2):((fouC f g).toList.take (k*2)++[u,v]++(fouC f g).toList.drop (k*2+[u,v].length)).toArray=fouC (updV f k u) (updV g k v):=by
 match k,H with
 | 0,_=>rfl
 | 1,_=>rfl
def noI(v:DZ):Prop:=∀k c,v≠.int k c
theorem qmf{f:Eb}(H:∀j,noI (f j))(k:Nat){v:DZ}(V:noI v):∀j,noI (updV f k v j):=λj=>by
 unfold updV
 split
 ·exact V
 ·exact H j
def AlienX(w:DU)(x:Nat):Prop:=qaii w x/\∀cs fz,w.heap[x]?≠some (.cells cs 103 fz)
theorem AlienX.of{x:Nat}{t:DX}(h:w.heap[x]?=some (.cells cs t fz))(H:∀v∈cs.toList,noI v)(V:t≠395/\t≠305/\t≠381/\t≠241)(W:t≠103):AlienX w x:=by
 refine⟨⟨λZ k c e=>?_,λcs t' aa e=>?_⟩,λcs fz e=>?_⟩
 ·rw[qa h]at e;exact H _ (D9.2 (CV e)) k c rfl
 ·rw[h]at e
  injection e with e
  injection e with _ e _
  subst e;exact V
 ·rw[h]at e
  injection e with e
  injection e with _ e _
  exact W e
theorem qwi{f:Eb}(h:∀j,noI (f j)):∀v∈(twoC f).toList,noI v:=λv H=>by
 have H:v∈[f 0,f 1]:=H;simp only[AB,BQ,or_false]at H
 rcases H with rfl|rfl
 ·exact h 0
 ·exact h 1
theorem qae9{f g:Eb}(h:∀j,noI (f j))(V:∀j,noI (g j)):∀v∈(fouC f g).toList,noI v:=λv H=>by
 have H:v∈[f 0,g 0,f 1,g 1]:=H;simp only[AB,BQ,or_false]at H
 rcases H with rfl|rfl|rfl|rfl
 ·exact h 0
 ·exact V 0
 ·exact h 1
 ·exact V 1
structure IdxB(w:DU)(x pb vb tb:Nat)(l:LB):Prop where
 e:IdxE w x pb vb tb l
 b:w.heap[x]?=some (.cells #[pp pb] 103)
theorem IdxB.ext{x:Nat}(h:IdxB w x pb vb tb l)(H:Ext w w'):IdxB w' x pb vb tb l:=⟨h.e.ext H,H.get h.b⟩
section
variable {w w':DU} {y:Nat} (ha:AlienX w y) (hw:∀c,c≠y->w'.heap[c]?=w.heap[c]?)
include ha hw
theorem IdxB.alien{x:Nat}(h:IdxB w x pb vb tb l):IdxB w' x pb vb tb l:=by
 have V:x≠y:=λe=>by subst e;exact ha.2 _ _ h.b
 have W:pb≠y:=λe=>by subst e;exact(ha.1.2 _ _ _ h.e.b).2.2.2 rfl
 have H:w'.heap[x]?=some (.cells #[pp pb] 103):=by rw[hw x V];exact h.b
 exact⟨⟨by rw[qa H];rfl,by rw[hw pb W];exact h.e.b,h.e.v.alien ha.1 hw,h.e.t.alien ha.1 hw⟩,H⟩
theorem qhv{Z:Type}{V:Z->Ee}{H:Nat}{l:List Z}(h:SlAt V H w A l)(hi:∀x,∃k c vs,V x=.int k c::vs):SlAt V H w' A l:=by
 refine⟨λhn=>?_⟩;obtain⟨b,W,h1,h2⟩:=h.at_ hn;refine⟨b,W,h1,λj z hz=>?_⟩;obtain⟨k,c,vs,e⟩:=hi z;have:=h2 j z hz;rw[e]at this|-;exact qo6 ha.1 hw this
theorem LentS.alien{v:DZ}(h:LentS l base v w):LentS l base v w':=by
 obtain⟨g,V,W,H⟩:=h;have Z:g≠y:=λe=>by
  subst e;refine ha.1.1 l.length .u8 171 ?_;rw[qa H,An,Be (by rw[qd1];omega),qd1,BU];rfl
 exact⟨g,V,W,by rw[hw g Z];exact H⟩
end
def Good(X O B R S:DZ)(w:DU):Prop:=
 ∃T L,EncOk T L/\(encP T L).length<=140737488351232/\∃x pb vb tb H W V Z base A c,X=pp x/\R=.slice H L.length W/\S=.slice V T.length Z/\B=.slice A (encP T L).length c/\
  IdxB w x pb vb tb (encP T L)/\SlAt qf 16 w H L/\SlAt encT 4 w V T/\LentS (encP T L) base O w/\SlAt encB 1 w A (encP T L)
theorem Good.ext{X O B R S:DZ}(h:Good X O B R S w)(H:Ext w w'):Good X O B R S w':=by
 obtain⟨T,L,V,W,x,pb,vb,tb,Z,cq,TA,ct,base,A,c,e1,e2,e3,e4,h3,h4,h5,h6,h7⟩:=h;exact⟨T,L,V,W,x,pb,vb,tb,Z,cq,TA,ct,base,A,c,e1,e2,e3,e4,h3.ext H,h4.ext H,h5.ext H,h6.ext H,h7.ext H⟩
theorem Good.alien{X O B R S:DZ}{y:Nat}(ha:AlienX w y)(hw:∀c,c≠y->w'.heap[c]?=w.heap[c]?)(h:Good X O B R S w):Good X O B R S w':=by
 obtain⟨T,L,H,V,x,pb,vb,tb,W,Z,TA,ct,base,A,c,e1,e2,e3,e4,h3,h4,h5,h6,h7⟩:=h;exact⟨T,L,H,V,x,pb,vb,tb,W,Z,TA,ct,base,A,c,e1,e2,e3,e4,h3.alien ha hw,qhv ha hw h4 λ_=>⟨_,_,_,rfl⟩,qhv ha hw h5 λ_=>⟨_,_,_,rfl⟩,h6.alien ha hw,qdb ha.1 hw h7⟩
theorem q1d(l:LB)(A:oA)(c:Nat)(w:DU)(V:(packE l).2=0)(hV:∀k,0<k->k<4->tVec (qj l) k=true)(hS:SlAt encB 1 w A l)(hc:l.length<=c)(hl:l.length<=140737488355328)(hT:CellsAt w 3 0 qmd):
  Gv Eg 11 [.slice A l.length c] w λv w'=>∃x pb vb tb,v=.tuple #[pp x,.nilIface]/\IdxB w' x pb vb tb l/\Ext w w':=by
 refine ze Tryz.func11 Tryz.ntmps11 ?_;refine zcv (qaav l A c w hS hc hl hT V hV) ?_;rintro v w1 ⟨⟨b,rfl,vb,tb,W,Z,aa⟩,ad⟩;refine zu ?_;refine znm (Mem.nil w1) ?_;intro x w2 H;have hx:=H.get mh;exact⟨x,b,vb,tb,rfl,⟨⟨by rw[qa hx];rfl,H.ext.get W,Z.ext H.ext,aa.ext H.ext⟩,hx⟩,ad.trans H.ext⟩
structure TwoS where
 k:Nat
 X:Nat->DZ
 O:Nat->DZ
 B:Nat->DZ
 R:Nat->DZ
 S:Nat->DZ
def blk5(D:Eb)(H V W Z b9:Nat)(B O X:Eh)(RS:Eh):Ed:=
 [(H,.cells B 33),(V,.cells O 33),(W,.cells RS 31),(Z,.cells X 27),(b9,.cells (twoC D) 25)]
def TwoS.blks(s:TwoS)(D:Eb)(H V W Z b9:Nat):Ed:=blk5 D H V W Z b9 (twoC s.B) (twoC s.O) (twoC s.X) (fouC s.R s.S)
theorem qnf(f:Eb):(twoC f).size=2:=rfl
structure TwoOk(s:TwoS)(w:DU):Prop where
 le:s.k<=2
 good:∀j,j<s.k->Good (s.X j) (s.O j) (s.B j) (s.R j) (s.S j) w
 x:∀j,noI (s.X j)
 o:∀j,noI (s.O j)
 b:∀j,noI (s.B j)
 r:∀j,noI (s.R j)
 s:∀j,noI (s.S j)
def qki(_:Nat):DZ:=.slice none 0 0
def qaf6(_:Nat):DZ:=.pointer none
theorem qjv(q0:List Q4)(A0:oA)(c0:Nat)(q1:List Q4)(A1:oA)(c1:Nat)(Ls:List AskE)(A2:oA)(c2:Nat)(Bs:List Bool)(A3:oA)(c3:Nat)(w:DU)(cj:SlAt qf 16 w A0 q0)(ck:q0.length<=140737488355328)(cl:∀q∈q0,qa5 q)(cm:SlAt qf 16 w A1 q1)(cn:q1.length<=140737488355328)(cp:∀q∈q1,qa5 q)(bw:SlAt askC 20 w A2 Ls)(dm:Ls.length<=140737488355328)(bz:∀a∈Ls,q7z a)(cr:SlAt qaez 1 w A3 Bs)(_:Bs.length<=140737488355328)(bh:GlobS w)(hT:CellsAt w 3 0 qmd)(_:qww w):
  Gv Eg 3 [.slice A0 q0.length c0,.slice A1 q1.length c1,.slice A2 Ls.length c2,.slice A3 Bs.length c3] w λr w'=>r=.bool true/\Ext w w':=by
 have bi:tsz Eg 49=20:=by kernel_rfl
 have t2:tsz Eg 30=2:=by kernel_rfl
 have t1:tsz Eg 22=1:=by kernel_rfl
 have a0:tsz Eg 32=1:=by kernel_rfl
 have a7:tsz Eg 26=1:=by kernel_rfl
 obtain⟨D,eD⟩:∃D:Nat->DZ,D=λj=>if j=0 then .slice A0 q0.length c0 else .slice A1 q1.length c1:=⟨_,rfl⟩
 have hD:∀k,k<2->∃qs A c,D k=.slice A qs.length c/\SlAt qf 16 w A qs/\qs.length<=140737488355328/\∀q∈qs,qa5 q:=λk hk=>by
  rw[eD]
  match k,hk with
  | 0,_=>exact⟨q0,A0,c0,rfl,cj,ck,cl⟩
  | 1,_=>exact⟨q1,A1,c1,rfl,cm,cn,cp⟩
 refine ze Tryz.func3 Tryz.ntmps3 ?_;refine znm (Mem.nil w) λb9 w1 H=>zw ?_;refine zS H 0 ?_;clear H;intro w2 H;replace H:Mem w w2 [(b9,.cells (twoC D) 25)]:=by rw[eD];exact H
 (conv=>whnf);refine znm H λae w3 H=>zw ?_;refine znm H λaa w4 H=>zw ?_;refine znm H λag w5 H=>zw ?_;refine znm H ?_;clear H;intro ah w6 H;replace H:Mem w w6 (TwoS.blks ⟨0,qaf6,qki,qki,qki,qki⟩ D ah ag aa ae b9):=H;(conv=>whnf);refine qk (λs:TwoS=>[(2,.slice A2 Ls.length c2),(3,.slice A3 Bs.length c3),(9,pp b9),(10,pp ae),(11,pp aa),(12,pp ag),(13,pp ah),(14,ii s.k)])
  (λs w'=>TwoOk s w'/\Mem w w' (s.blks D ah ag aa ae b9)) (λs=>2-s.k) ⟨0,qaf6,qki,qki,qki,qki⟩
  fq ⟨⟨Ag _,λj hj=>absurd hj (BL _),λ_ _ _=>by simp[qaf6],λ_ _ _=>by simp[qki],λ_ _ _=>by simp[qki],λ_ _ _=>by simp[qki],λ_ _ _=>by simp[qki]⟩,H⟩ ?_
 clear H;rintro⟨k,X,O,B,R,S⟩ w7 dt ⟨hs,H⟩;have du:k<=2:=hs.le;dsimp only;(conv=>whnf);refine zC (λ_=>zu ?_) (λ_=>zu ?_)
 case refine_2=>
  obtain rfl:k=2:=by omega
  have hA:Good (X 0) (O 0) (B 0) (R 0) (S 0) w7:=hs.good 0 (show 0<2 by decide);have hB:Good (X 1) (O 1) (B 1) (R 1) (S 1) w7:=hs.good 1 (show 1<2 by decide);clear hs;replace H:Mem w w7 (blk5 D ah ag aa ae b9 (twoC B) (twoC O) (twoC X) (fouC R S)):=H;have al:=H.ext;have bj:∀k,k<2->Good (X k) (O k) (B k) (R k) (S k) w7:=λk hk=>by
   match k,hk with
   | 0,_=>exact hA
   | 1,_=>exact hB
  refine qk (λi:Nat=>[(2,.slice A2 Ls.length c2),(3,.slice A3 Bs.length c3),(10,pp ae),(11,pp aa),(12,pp ag),(13,pp ah),(19,ii i)])
   (λi w'=>i<=Ls.length/\Ext w7 w') (λi=>Ls.length-i) 0 fq ⟨Ag _,xr⟩ ?_
  rintro i w8 dl ⟨hi,af⟩;have bk:=H.call af;conv=>whnf
  (repeat'(first|refine zp ?_|refine zC (λ_=>zw ?_) (λ_=>zw ?_)|(refine zJ 0 ?_;(conv=>whnf))))
  case refine_1.refine_2=>
   have av:i<Ls.length:=by omega
   obtain⟨a,ha⟩:∃a,Ls[i]?=some a:=⟨_,zge av⟩
   have ai:=bz a (zmg ha);obtain⟨g2,aw,rfl,bl⟩:=bw.at_ (by intro e;rw[e]at av;simp at av);have a8:=bl i a ha;have ad:∀V,Ext w8.drew V->Ext w7 V:=λV Z=>af.trans ((Ext.refl w8).drew.trans Z)
   obtain⟨T,L,hE,hl,x,pb,vb,tb,QB,cq,TA,ct,base,Ab,cb,e1,e2,e3,e4,hI,hQ,a1,b0,W⟩:=bj 0 Od;refine DrawV.free Jk Jk (zw ?_);refine zd ?_;refine zsd (pp ae) (λV Z=>zw ?_) (zw ?_)
   ·refine zJ 0 ?_;(conv=>whnf);exact⟨xr,by rw[a7]⟩
   refine zsd (pp x) (λV Z=>zw ?_) (zw ?_)
   ·refine LoadV.own ((ad V Z).get (H.get (zmc (zmc (zmc mh))))) (qfd X (k:=0) Od) ?_;rw[e1];(conv=>whnf);exact xq
   refine zd ?_;refine zsd (.pointer (some ⟨aa,0*2,none⟩)) (λV Z=>zw ?_) (zw ?_)
   ·refine zJ 0 ?_;(conv=>whnf);exact⟨xr,by rw[t2]⟩
   apply zsd (.agg #[.slice QB L.length cq,.slice TA T.length ct])
   ·intro V Z;have hc:CellsAt V aa (0*2) [R 0,S 0]:=λj v hv=>by
     rw[qa ((ad V Z).get (H.get (zmc (zmc mh))))];exact quu R S (k:=0) Od hv
    rw[e2,e3]at hc;(conv=>whnf);refine LoadA.cells hc rfl (zw ?_);exact xq
   (conv=>whnf);refine zd ?_;refine zd ?_;refine zsd (.pointer (some ⟨g2,aw+i*20,none⟩)) (λV Z=>zw ?_) (zw ?_)
   ·refine⟨⟨g2,aw,i,rfl,by omega,by omega,?_⟩⟩;rw[bi];(conv=>whnf);exact xq
   refine zsd (askV a) (λV Z=>zw ?_) (zw ?_)
   ·refine LoadA.cells (CellsAt.ext a8 (al.trans (ad V Z))) rfl (zw ?_);exact xq
   apply zsd (.bool true)
   ·intro V Z;have hx:=ad V Z;(conv=>whnf);refine zcv (qlh T L hE x pb vb tb QB cq TA ct a ai.1 ai.2 V (hI.e.ext hx) (bh.ext (al.trans hx)) (hQ.ext hx) (a1.ext hx)) ?_;rintro r wy ⟨rfl,a2⟩;exact⟨a2,rfl⟩
   (conv=>whnf);refine zd (zw ?_);intro w9 am;refine zu ?_;exact⟨i+1,⟨rfl,rfl,rfl,rfl,rfl,rfl,Ae (Value.int .i64) Oo,trivial⟩,⟨by omega,ad w9 am⟩,by omega⟩
  case refine_2=>
   obtain⟨T0,L0,dv,b1,x0,dw,dx,dy,dz,d0,d1,d2,bm,cu,cv,e1,e2,e3,e4,d3,d4,d5,a3,b2⟩:=hA;obtain⟨T1,L1,d6,b3,x1,d7,d8,b4,d9,ea,eb,ec,bn,cw,cx,f1,f2,f3,f4,ed,ee,ef,a4,b5⟩:=hB;rw[show 0+0*tsz Eg 32=0 by rw[a0]];refine LoadV.mem bk (i:=1) rfl (qfd O (k:=0) Od) ?_;obtain⟨g0,cy,-,-⟩:=id a3;rw[cy]at a3|-;(conv=>whnf);refine zJ 0 ?_;(conv=>whnf);rw[show 0+0*tsz Eg 32=0 by rw[a0]];refine LoadV.mem bk (i:=0) rfl (qfd B (k:=0) Od) ?_;rw[e4];(conv=>whnf);refine zcv (qn0 (encP T0 L0) bm _ cu cv w8 (a3.ext af) (b2.ext af) b1) ?_;rintro v w9 ⟨rfl,am⟩;have a5:=bk.call am;have bp:=af.trans am;(conv=>whnf);refine zt ?_;refine zJ 1 ?_;(conv=>whnf);refine zt ?_;rw[show 0+1*tsz Eg 32=1 by rw[a0]];refine LoadV.mem a5 (i:=1) rfl (qfd O (k:=1) Od) ?_;obtain⟨g1,cz,-,-⟩:=id a4;rw[cz]at a4|-;(conv=>whnf);refine zt ?_;refine zJ 1 ?_;(conv=>whnf);refine zt ?_;rw[show 0+1*tsz Eg 32=1 by rw[a0]];refine LoadV.mem a5 (i:=0) rfl (qfd B (k:=1) Od) ?_;rw[f4];refine zu ?_;refine zcv (qn0 (encP T1 L1) bn _ cw cx w9 (a4.ext bp) (b5.ext bp) b3) ?_;rintro v b6 ⟨rfl,an⟩;refine zu ?_;exact⟨rfl,al.trans (bp.trans an)⟩
  have av:i<Ls.length:=by omega
  obtain⟨a,ha⟩:∃a,Ls[i]?=some a:=⟨_,zge av⟩
  have ai:=bz a (zmg ha);obtain⟨g2,aw,rfl,bl⟩:=bw.at_ (by intro e;rw[e]at av;simp at av);have a8:=bl i a ha;have ad:∀V,Ext w8.drew V->Ext w7 V:=λV Z=>af.trans ((Ext.refl w8).drew.trans Z)
  have bq:i<Bs.length:=by omega
  obtain⟨bo,c5⟩:∃b,Bs[i]?=some b:=⟨_,zge bq⟩
  obtain⟨g3,b7,rfl,b8⟩:=cr.at_ (by intro e;rw[e]at bq;simp at bq);have b4:tsz Eg 4=1:=by kernel_rfl
  have c6:=CellsAt.ext (b8 i bo c5) (al.trans af);refine⟨⟨g3,b7,i,rfl,by omega,by omega,?_⟩⟩;rw[b4];refine zu ?_;refine LoadV.of (c6 0 _ rfl) ?_;have c7:bo=false\/bo=true:=by cases bo<;>simp
  rcases c7 with rfl|rfl
  case inl=>
   refine zu ?_;obtain⟨T,L,hE,hl,x,pb,vb,tb,QB,cq,TA,ct,base,Ab,cb,e1,e2,e3,e4,hI,hQ,a1,b0,W⟩:=bj 0 Od;refine DrawV.free Jk Jk (zw ?_);refine zd ?_;refine zsd (pp ae) (λV Z=>zw ?_) (zw ?_)
   ·refine zJ 0 ?_;(conv=>whnf);exact⟨xr,by rw[a7]⟩
   refine zsd (pp x) (λV Z=>zw ?_) (zw ?_)
   ·refine LoadV.own ((ad V Z).get (H.get (zmc (zmc (zmc mh))))) (qfd X (k:=0) Od) ?_;rw[e1];(conv=>whnf);exact xq
   refine zd ?_;refine zsd (.pointer (some ⟨aa,0*2,none⟩)) (λV Z=>zw ?_) (zw ?_)
   ·refine zJ 0 ?_;(conv=>whnf);exact⟨xr,by rw[t2]⟩
   apply zsd (.agg #[.slice QB L.length cq,.slice TA T.length ct])
   ·intro V Z;have hc:CellsAt V aa (0*2) [R 0,S 0]:=λj v hv=>by
     rw[qa ((ad V Z).get (H.get (zmc (zmc mh))))];exact quu R S (k:=0) Od hv
    rw[e2,e3]at hc;(conv=>whnf);refine LoadA.cells hc rfl (zw ?_);exact xq
   (conv=>whnf);refine zd ?_;refine zd ?_;refine zsd (.pointer (some ⟨g2,aw+i*20,none⟩)) (λV Z=>zw ?_) (zw ?_)
   ·refine⟨⟨g2,aw,i,rfl,by omega,by omega,?_⟩⟩;rw[bi];(conv=>whnf);exact xq
   refine zsd (askV a) (λV Z=>zw ?_) (zw ?_)
   ·refine LoadA.cells (CellsAt.ext a8 (al.trans (ad V Z))) rfl (zw ?_);exact xq
   apply zsd (.bool true)
   ·intro V Z;have hx:=ad V Z;(conv=>whnf);refine zcv (qlh T L hE x pb vb tb QB cq TA ct a ai.1 ai.2 V (hI.e.ext hx) (bh.ext (al.trans hx)) (hQ.ext hx) (a1.ext hx)) ?_;rintro r wy ⟨rfl,a2⟩;exact⟨a2,rfl⟩
   (conv=>whnf);refine zd (zw ?_);intro w9 am;refine zu ?_;exact⟨i+1,⟨rfl,rfl,rfl,rfl,rfl,rfl,Ae (Value.int .i64) Oo,trivial⟩,⟨by omega,ad w9 am⟩,by omega⟩
  case inr=>
   refine zu ?_;obtain⟨T,L,hE,hl,x,pb,vb,tb,QB,cq,TA,ct,base,Ab,cb,e1,e2,e3,e4,hI,hQ,a1,b0,W⟩:=bj 1 Od;refine DrawV.free Jk Jk (zw ?_);refine zd ?_;refine zsd (.pointer (some ⟨ae,1,none⟩)) (λV Z=>zw ?_) (zw ?_)
   ·refine zJ 1 ?_;(conv=>whnf);exact⟨xr,by rw[a7]⟩
   refine zsd (pp x) (λV Z=>zw ?_) (zw ?_)
   ·refine LoadV.own ((ad V Z).get (H.get (zmc (zmc (zmc mh))))) (qfd X (k:=1) Od) ?_;rw[e1];(conv=>whnf);exact xq
   refine zd ?_;refine zsd (.pointer (some ⟨aa,1*2,none⟩)) (λV Z=>zw ?_) (zw ?_)
   ·refine zJ 1 ?_;(conv=>whnf);exact⟨xr,by rw[t2]⟩
   apply zsd (.agg #[.slice QB L.length cq,.slice TA T.length ct])
   ·intro V Z;have hc:CellsAt V aa (1*2) [R 1,S 1]:=λj v hv=>by
     rw[qa ((ad V Z).get (H.get (zmc (zmc mh))))];exact quu R S (k:=1) Od hv
    rw[e2,e3]at hc;(conv=>whnf);refine LoadA.cells hc rfl (zw ?_);exact xq
   (conv=>whnf);refine zd ?_;refine zd ?_;refine zsd (.pointer (some ⟨g2,aw+i*20,none⟩)) (λV Z=>zw ?_) (zw ?_)
   ·refine⟨⟨g2,aw,i,rfl,by omega,by omega,?_⟩⟩;rw[bi];(conv=>whnf);exact xq
   refine zsd (askV a) (λV Z=>zw ?_) (zw ?_)
   ·refine LoadA.cells (CellsAt.ext a8 (al.trans (ad V Z))) rfl (zw ?_);exact xq
   apply zsd (.bool true)
   ·intro V Z;have hx:=ad V Z;(conv=>whnf);refine zcv (qlh T L hE x pb vb tb QB cq TA ct a ai.1 ai.2 V (hI.e.ext hx) (bh.ext (al.trans hx)) (hQ.ext hx) (a1.ext hx)) ?_;rintro r wy ⟨rfl,a2⟩;exact⟨a2,rfl⟩
   (conv=>whnf);refine zd (zw ?_);intro w9 am;refine zu ?_;exact⟨i+1,⟨rfl,rfl,rfl,rfl,rfl,rfl,Ae (Value.int .i64) Oo,trivial⟩,⟨by omega,ad w9 am⟩,by omega⟩
 have hk:k<2:=by omega
 have hG:∀j,j<k->Good (X j) (O j) (B j) (R j) (S j) w7:=hs.good;obtain⟨hx,ho,hb,hr,a9⟩:(∀j,noI (X j))/\(∀j,noI (O j))/\(∀j,noI (B j))/\(∀j,noI (R j))/\(∀j,noI (S j)):=⟨hs.x,hs.o,hs.b,hs.r,hs.s⟩
 clear hs;replace H:Mem w w7 (blk5 D ah ag aa ae b9 (twoC B) (twoC O) (twoC X) (fouC R S)):=H;have c8:0+k*tsz Eg 22=k:=by rw[t1];omega
 have a6:0+k*tsz Eg 32=k:=by rw[a0];omega
 have c9:0+k*tsz Eg 26=k:=by rw[a7];omega
 have da:0+k*tsz Eg 30=k*2:=by rw[t2];omega
 obtain⟨qs,Aq,cq,db,dc,dd,de⟩:=hD k hk;(conv=>whnf);rw[c8];refine LoadV.mem H (i:=4) rfl (qfd D hk) ?_;rw[db];(conv=>whnf);refine zcv (qvq qs Aq qs.length cq 67108864 w7 (dc.ext H.ext) rfl dd ⟨by decide,by decide⟩ de) ?_;rintro v w8 (⟨eg,rfl,af⟩|⟨hz,v,rfl,hN⟩)
 ·refine zu ?_;exact⟨rfl,H.ext.trans af⟩
 have hE:=q88 (qwf (qlt hz).1) hz;have df:=(qlt hz).2.2.2;have br:=hE.packE;have ba:=hE.poE;rw[hE.pk]at br ba;have af:=hN.ext;obtain⟨l,el⟩:∃l,l=pkB qs:=⟨_,rfl⟩
 obtain⟨A,c,rfl,cc,W⟩:=hN.bs;rw[<-el]at br ba df cc W|-;clear hN;replace hG:=λj hj=>(hG j hj).ext af;replace H:=H.call af;refine zu ?_;rw[a6];refine StoreV.row H (i:=0) rfl (by rw[qnf];exact hk) rfl ?_;intro w9 bt _ a5;have bu:AlienX w8 ah:=AlienX.of (H.get mh) (qwi hb) Od Od;replace H:Mem w w9 (blk5 D ah ag aa ae b9 ((twoC B).setIfInBounds k (.slice A l.length c)) (twoC O) (twoC X) (fouC R S)):=a5;rw[qrh B _ hk]at H;replace hb:=qmf hb k (v:=.slice A l.length c) (λ_ _=>by simp);replace hG:=λj hj=>(hG j hj).alien bu bt;replace W:=qdb bu.1 bt W;clear a5 bu bt;(conv=>whnf);refine zcv (q0a l A c w9 W Oo) ?_;rintro v b6 ⟨hL,an⟩;obtain⟨g,rfl,dg,dh⟩:=id hL;replace hG:=λj hj=>(hG j hj).ext an;replace W:=W.ext an;replace H:=H.call an;refine zu ?_;rw[a6];refine StoreV.row H (i:=1) rfl (by rw[qnf];exact hk) rfl ?_;intro bv ax _ bf;have ay:AlienX b6 ag:=AlienX.of (H.get (zmc mh)) (qwi ho) Od Od;replace H:Mem w bv (blk5 D ah ag aa ae b9 (twoC (updV B k (.slice A l.length c))) ((twoC O).setIfInBounds k (.slice (some ⟨g,0,none⟩) l.length (l.length+2))) (twoC X) (fouC R S)):=bf;rw[qrh O _ hk]at H;replace ho:=qmf ho k (v:=.slice (some ⟨g,0,none⟩) l.length (l.length+2)) (λ_ _=>by simp);replace hG:=λj hj=>(hG j hj).alien ay ax;replace W:=qdb ay.1 ax W;replace hL:=LentS.alien ay ax hL;clear bf ay ax dh dg;have cd:SlAt encB 1 bv (some ⟨g,0,none⟩) l:=by
  obtain⟨g',e,_,h⟩:=hL
  injection e with e
  injection e with e
  injection e with e
  subst e;exact qadq h
 refine zu ?_;rw[a6];refine LoadV.mem H (i:=1) rfl (qfd _ hk) ?_;rw[qeo];(conv=>whnf);refine zcv (q1d l (some ⟨g,0,none⟩) (l.length+2) bv br (λk h1 h2=>(qbq (qb7 (by rw[ba])).2.2.2.2.1 k h1 Oo).tvec) cd Oo Oo (CellsAt.ext hT H.ext)) ?_;rintro v di ⟨x,pb,vb,tb,rfl,hI,az⟩;replace hG:=λj hj=>(hG j hj).ext az;replace W:=W.ext az;replace hL:=hL.ext az;replace H:=H.call az;clear cd;refine zu ?_;rw[c9];refine StoreV.row H (i:=3) rfl (by rw[qnf];exact hk) rfl ?_;intro ce ao _ bg;have aq:AlienX di ae:=AlienX.of (H.get (zmc (zmc (zmc mh)))) (qwi hx) Od Od;replace H:Mem w ce (blk5 D ah ag aa ae b9 (twoC (updV B k (.slice A l.length c))) (twoC (updV O k (.slice (some ⟨g,0,none⟩) l.length (l.length+2)))) ((twoC X).setIfInBounds k (pp x)) (fouC R S)):=bg;rw[qrh X _ hk]at H;replace hx:=qmf hx k (v:=pp x) (λ_ _=>by simp);replace hG:=λj hj=>(hG j hj).alien aq ao;replace W:=qdb aq.1 ao W;replace hL:=LentS.alien aq ao hL;replace hI:=IdxB.alien aq ao hI;clear bg aq ao;(conv=>whnf);have hP:(poE l).2=0:=by rw[ba]
 refine zcv (q5m l A c ce W cc Oo hP) ?_;rintro v dj ⟨⟨TA,dT,QB,dQ,rfl,bb,be⟩,ar⟩;have cf:=qaem hP;have cg:=q2f hP;obtain⟨T,eT⟩:∃T,T=vTms (qh l):=⟨_,rfl⟩
 obtain⟨L,eL⟩:∃L,L=qsP l:=⟨_,rfl⟩
 rw[<-eT,<-eL]at cf cg|-;rw[<-eL]at bb;rw[<-eT]at be;replace hG:=λj hj=>(hG j hj).ext ar;replace W:=W.ext ar;replace hL:=hL.ext ar;replace hI:=hI.ext ar;replace H:=H.call ar;refine zu ?_;rw[da];refine StoreA.row (vs:=[.slice QB L.length dQ,.slice TA T.length dT]) H (i:=2) rfl (show k*2+2<=4 by omega) (by simp[Value.oneCell']) ?_;intro dk aj _ au;have ak:AlienX dj aa:=AlienX.of (H.get (zmc (zmc mh))) (qae9 hr a9) Od Od;have au:=au;rw[q9l R S _ _ hk]at au;replace H:Mem w dk (TwoS.blks ⟨k+1,updV X k (pp x),updV O k (.slice (some ⟨g,0,none⟩) l.length (l.length+2)),updV B k (.slice A l.length c),updV R k (.slice QB L.length dQ),updV S k (.slice TA T.length dT)⟩ D ah ag aa ae b9):=au;replace hr:=qmf hr k (v:=.slice QB L.length dQ) (λ_ _=>by simp);replace a9:=qmf a9 k (v:=.slice TA T.length dT) (λ_ _=>by simp);replace hG:=λj hj=>(hG j hj).alien ak aj;replace W:=qdb ak.1 aj W;replace hL:=LentS.alien ak aj hL;replace hI:=IdxB.alien ak aj hI;replace bb:=qhv ak aj bb λ_=>⟨_,_,_,rfl⟩
 replace be:=qhv ak aj be λ_=>⟨_,_,_,rfl⟩
 clear au ak aj;refine zu ?_;refine⟨⟨k+1,updV X k (pp x),updV O k (.slice (some ⟨g,0,none⟩) l.length (l.length+2)),updV B k (.slice A l.length c),updV R k (.slice QB L.length dQ),updV S k (.slice TA T.length dT)⟩,⟨rfl,rfl,rfl,rfl,rfl,rfl,rfl,Ae (Value.int .i64) (by dsimp only;omega),trivial⟩,⟨⟨by dsimp only;omega,λj hj=>?_,hx,ho,hb,hr,a9⟩,H⟩,by dsimp only;omega⟩;dsimp only at hj|-
 rcases Bj j k with gj|gj
 ·rw[qnh X _ gj,qnh O _ gj,qnh B _ gj,qnh R _ gj,qnh S _ gj];exact hG j gj
 ·obtain rfl:j=k:=by omega
  rw[qeo,qeo,qeo,qeo,qeo];have ci:l.length<=140737488351232:=by omega
  rw[cg]at W hL hI ci|-;exact⟨T,L,cf,ci,x,pb,vb,tb,QB,dQ,TA,dT,_,A,c,rfl,rfl,rfl,rfl,hI,bb,be,hL,W⟩
end Go.Proofs.YtccmcfpmknpccaaGreatDoor
