/- Part 9 of 11. -/
import Derived.Test.YtacnkdagblbgfaaGreatDoorMS8
import Derived.Lib.LaidTab
import Derived.Test.YtacnkdagblbgfaaGreatDoorRows
import Derived.Deep.DeepHandedRow
import Derived.ProofKit
import Derived.OpenShut
import Derived.LaidHandle
import Derived.Shelf.Vars
namespace Go.Proofs.YtacnkdagblbgfaaGreatDoor
set_option maxHeartbeats 8000000
open Go.RowKit V
set_option maxHeartbeats 8000000
set_option maxRecDepth 100000
variable {b c g i j k m nb:Nat} {A:oA} {Q:Nat->Nat->Nat} {u:E8} {P:E4} {W w w':Ez} {vs xs:EE} {K:E9} {e:E6} {Y:ED} {zs:List Int} {E:List (Q4×EF)} {J:ED->EC}
theorem qadh(S:List Bool):boF (laN S)=laT S:=funext fun t=>qaaa S t
def boV(l:List Bool):EE:=l.map Value.bool
theorem qgp(l:List Bool):(boV l).length=l.length:=by simp[boV]
def eD(m:Nat):E6:=if m%2=0 then 125 else 4
theorem qsu(j:Nat):eD (2*j)=125:=Ad Oo
theorem q0d(j:Nat):eD (2*j+1)=4:=Aa Oo
structure RdS(w w':Ez)(rb:Nat)(U G:EB)(L:Nat->EE):Prop where
 sep:Sep w w' (rwF [] rb G)
 tab:w'.heap[rb]?=some (.cells (fnA 8 U) 152)
 row:∀m,m<8->w'.ownsRow 0 (eD m) 1 (G m) (L m).length (L m)
section
variable {w w1 w2:Ez} {rb:Nat} {U G:EB} {L:Nat->EE}
theorem RdS.call(h:RdS w w1 rb U G L)(he:Ext w1 w2):RdS w w2 rb U G L:=⟨h.sep.call he,he.get h.tab,fun m hm=>qa0 (h.row m hm) he⟩
theorem RdS.chg(h:RdS w w1 rb U G L)(hm:m<8){v:E8}{x:EE}(ho:w2.ownsRow 0 (eD m) 1 v x.length x)(hc:Chn (rowF (G m)) w1 w2)(hn:∀j∈rowF v,(j∈rowF (G m)\/w1.heap.size<=j)/\j<w2.heap.size):
  RdS w w2 rb U (updF G m v) (updR L m x):=by
 have hs:=h.sep.row (i:=m+2) (qwr [] rb G hm) hc hn;refine⟨by rw[<-qabv];exact hs.sep,?_,fun j hj=>?_⟩
 ·rw[hs.keep 1 [rb] rfl Oo rb (Ah.2 rfl)];exact h.tab
 ·by_cases e:j=m
  ·subst e;rw[qg1,qjg];exact ho
  ·rw[qak _ _ _ _ e,qfr _ _ _ e];exact qcd (h.row j hj) fun i hi=>hs.keep (j+2) _ (qwr [] rb G hj) Oo i hi
theorem RdS.store(h:RdS w w1 rb U G L)(hm:m<8){v:E8}{K:EC}(h1:qcx v=true)(hK:∀w2,RdS w w2 rb (updF U m v) G L->K w2):StoreV w1 rb m v K:=by
 refine StoreV.own h.tab (by rw[qz];exact hm) h1 fun w2 hw=>?_;obtain⟨hc,hg⟩:=Chn.set h.tab hw;have hs:=h.sep.row (i:=1) (F':=[rb]) rfl hc fun j hj=>⟨.inl hj,by rw[Ah.1 hj];exact qiu hg⟩
 exact hK w2 ⟨hs.sep,by rw[hg,qir],fun j hj=>qcd (h.row j hj) fun i hi=>hs.keep (j+2) _ (qwr [] rb G hj) Oo i hi⟩
theorem RdS.eqL{M:Nat->EE}(h:RdS w w1 rb U G L)(e:∀m,m<8->L m=M m):RdS w w1 rb U G M:=
 ⟨h.sep,h.tab,fun m hm=>by rw[<-e m hm];exact h.row m hm⟩
theorem RdS.cell(h:RdS w w1 rb G G L)(hm:m<8)(hj:j<(L m).length)(hG:G m=.slice A (L m).length c){v:E8}(hv:qcx v=true):∃g,A=some ⟨g,0,none⟩/\∀(K:EC),(∀w2,RdS w w2 rb G G (updR L m ((L m).set j v))->K w2)->StoreV w1 g j v K:=by
 have hr:=h.row m hm;rw[hG]at hr;obtain⟨g,hA,cur,hg,hcs⟩:∃g,A=some ⟨g,0,none⟩/\∃cur,w1.heap[g]?=some (.cells cur (eD m))/\(L m).length<=cur.size:=by
  rcases hr.2 with⟨q1,q2⟩|⟨g,cap,cur,q1,_,hg,q3,_,q4,q5⟩
  ·exfalso;omega
  ·cases q1;exact⟨g,rfl,cur,hg,by omega⟩
 subst hA;refine⟨g,rfl,fun K hK=>StoreV.own hg Oo hv fun w2 hw=>?_⟩;obtain⟨ho,hc⟩:=qaa6 hr rfl hj hw;have hl:((L m).set j v).length=(L m).length:=CP;have h9:=h.chg hm (v:=.slice (some ⟨g,0,none⟩) (L m).length c) (x:=(L m).set j v) (by rw[hl];exact ho) (by rw[hG];exact hc) (by
  rw[hG];intro k hk;refine⟨.inl hk,?_⟩;rw[Ah.1 hk];exact Bw (qiu hg) hc.size)
 have eG:∀i,updF G m (.slice (some ⟨g,0,none⟩) (L m).length c) i=G i:=fun i=>by
  by_cases e:i=m
  ·subst e;rw[qg1,hG]
  ·rw[qak _ _ _ _ e]
 rw[show updF G m (.slice (some ⟨g,0,none⟩) (L m).length c)=G from funext eG]at h9;exact hK w2 h9
end
def RdI(w w7:Ez)(rb:Nat)(G:EB)(L:Nat->EE)(j x:Nat)(s4 s12 s13 s16:Bool)(v12 v13:E8)(w':Ez):Prop:=
 (s13=false/\s16=false/\Ext w7 w'/\(s12=true->∃nb,v12=.slice (some ⟨nb,0,none⟩) 1 1/\w'.heap[nb]?=some (.cells #[.int .u64 x] 125)))\/
 (s12=true/\s13=true/\s16=false/\∃A c,v13=.slice A ((L (2*j)).length+1) c/\RdS w w' rb G (updF G (2*j) (.slice A ((L (2*j)).length+1) c)) (updR L (2*j) (L (2*j)++[.int .u64 x])))\/
 (s4=true/\s12=true/\s13=true/\s16=true/\∃G',RdS w w' rb G' G' (updR L (2*j) (L (2*j)++[.int .u64 x])))
section
variable {w w7 w':Ez} {rb:Nat} {G:EB} {L:Nat->EE} {j x:Nat} {s4 s12 s13 s16:Bool} {v12 v13:E8}
theorem RdI.ext(h:RdI w w7 rb G L j x s4 s12 s13 s16 v12 v13 w')(h7:Ext w w7):Ext w w':=by
 rcases h with⟨_,_,h,_⟩|⟨_,_,_,_,_,_,h⟩|⟨_,_,_,_,_,h⟩
 ·exact h7.trans h
 ·exact h.sep.ext
 ·exact h.sep.ext
theorem RdI.four(h:RdI w w7 rb G L j x false s12 s13 s16 v12 v13 w')(h7:RdS w w7 rb G G L):w'.heap[rb]?=some (.cells (fnA 8 G) 152)/\RdI w w7 rb G L j x true s12 s13 s16 v12 v13 w':=by
 rcases h with⟨h1,h2,h3,h4⟩|⟨h1,h2,h3,A,c,h4,h5⟩|⟨h,_⟩
 ·exact⟨h3.get h7.tab,.inl ⟨h1,h2,h3,h4⟩⟩
 ·exact⟨h5.tab,.inr (.inl ⟨h1,h2,h3,A,c,h4,h5⟩)⟩
 ·cases h
theorem RdI.twelve(h:RdI w w7 rb G L j x s4 false s13 s16 v12 v13 w'){w2:Ez}(hb:b=w'.heap.size)(hw:w2=w'.alloc (.cells #[.int .u64 x] 125)):RdI w w7 rb G L j x s4 true s13 s16 (.slice (some ⟨b,0,none⟩) 1 1) v13 w2:=by
 rcases h with⟨h1,h2,h3,_⟩|⟨h,_⟩|⟨_,h,_⟩
 ·have he:Ext w' w2:=by rw[hw];exact(Ext.refl w').alloc _
  exact .inl ⟨h1,h2,h3.trans he,fun _=>⟨b,rfl,by rw[hw,hb];exact heap_alloc_new w' _⟩⟩
 ·cases h
 ·cases h
theorem RdI.thirteen(h:RdI w w7 rb G L j x s4 true false s16 v12 v13 w'):s16=false/\Ext w7 w'/\∃nb,v12=.slice (some ⟨nb,0,none⟩) 1 1/\w'.heap[nb]?=some (.cells #[.int .u64 x] 125):=by
 rcases h with⟨_,h2,h3,h5⟩|⟨_,h,_⟩|⟨_,_,h,_⟩
 ·exact⟨h2,h3,h5 rfl⟩
 ·cases h
 ·cases h
theorem RdI.sixteen(h:RdI w w7 rb G L j x s4 s12 true false v12 v13 w'):s12=true/\∃A c,v13=.slice A ((L (2*j)).length+1) c/\RdS w w' rb G (updF G (2*j) (.slice A ((L (2*j)).length+1) c)) (updR L (2*j) (L (2*j)++[.int .u64 x])):=by
 rcases h with⟨h,_⟩|⟨h1,_,_,h2⟩|⟨_,_,_,h,_⟩
 ·cases h
 ·exact⟨h1,h2⟩
 ·cases h
theorem RdI.end_(h:RdI w w7 rb G L j x s4 s12 s13 true v12 v13 w'):∃G',RdS w w' rb G' G' (updR L (2*j) (L (2*j)++[.int .u64 x])):=by
 rcases h with⟨_,h,_⟩|⟨_,_,h,_⟩|⟨_,_,_,_,h⟩
 ·cases h
 ·cases h
 ·exact h
end
def LdQ(Q:Nat->Nat->Nat)(i m:Nat):EE:=if m%2=0 then u64V (nuT Q (m/2) i)else boV (laM (stJ Q (m/2) i))
def LmQ(Q:Nat->Nat->Nat)(i k m:Nat):EE:=if m/2<k then LdQ Q (i+1) m else LdQ Q i m
def LfQ(Q:Nat->Nat->Nat)(n k m:Nat):EE:=if m%2=1/\m/2<k then boV (laN (stJ Q (m/2) n))else LdQ Q n m
theorem qno(Q:Nat->Nat->Nat)(i j:Nat):LdQ Q i (2*j)=u64V (nuT Q j i):=by rw[LdQ,Ad Oo,show 2*j/2=j by omega]
theorem qsl(Q:Nat->Nat->Nat)(i j:Nat):LdQ Q i (2*j+1)=boV (laM (stJ Q j i)):=by rw[LdQ,Aa Oo,show(2*j+1)/2=j by omega]
theorem q4a(h:frU Q i (m/2)=false):LdQ Q (i+1) m=LdQ Q i m:=by rw[LdQ,LdQ,q55 h,q6w h]
theorem q4d(Q:Nat->Nat->Nat)(i m:Nat):LmQ Q i 0 m=LdQ Q i m:=Aa Oo
theorem q8z(Q:Nat->Nat->Nat)(i:Nat)(h:m<8):LmQ Q i 4 m=LdQ Q (i+1) m:=Ad Oo
theorem qu3(Q:Nat->Nat->Nat)(i k:Nat):LmQ Q i k (2*k)=u64V (nuT Q k i):=by rw[LmQ,Aa Oo,qno]
theorem qnp(Q:Nat->Nat->Nat)(i k:Nat):LmQ Q i k (2*k+1)=boV (laM (stJ Q k i)):=by rw[LmQ,Aa Oo,qsl]
theorem q4c(h:frU Q i k=false)(m:Nat):LmQ Q i k m=LmQ Q i (k+1) m:=by
 rw[LmQ,LmQ]
 by_cases g:m/2<k
 ·rw[Ad g,Ad Oo]
 ·by_cases g2:m/2=k
  ·rw[Aa g,Ad Oo,q4a (by rw[g2];exact h)]
  ·rw[Aa g,Aa Oo]
theorem q80(h:frU Q i k=true){X:List Bool}(hX:X=(laM (stJ Q k i)).set ((stJ Q k i).length-1) (if k=0 then false else frU Q i (k-1))){L:Nat->EE}(hL:∀m,m≠2*k->m≠2*k+1->L m=LmQ Q i k m)(m:Nat):
  updR (updR L (2*k) (u64V (nuT Q k i)++[.int .u64 (Q i k:Nat)])) (2*k+1) (boV (X++[false])) m=LmQ Q i (k+1) m:=by
 by_cases e:m=2*k+1
 ·subst e;rw[qjg,LmQ,Ad Oo,qsl,qab2 h,q5q,hX]
 ·rw[qfr _ _ _ e]
  by_cases e2:m=2*k
  ·subst e2;rw[qjg,LmQ,Ad Oo,qno,qaax h,u64V,u64V,AB];rfl
  ·rw[qfr _ _ _ e2,hL m e2 e,LmQ,LmQ]
   by_cases g:m/2<k
   ·rw[Ad g,Ad Oo]
   ·rw[Aa g,Aa Oo]
theorem q4b(Q:Nat->Nat->Nat)(n m:Nat):LdQ Q n m=LfQ Q n 0 m:=(Aa Oo).symm
theorem qu1(Q:Nat->Nat->Nat)(n k j:Nat):LfQ Q n k (2*j)=u64V (nuT Q j n):=by rw[LfQ,Aa Oo,qno]
theorem qsm(Q:Nat->Nat->Nat)(n k:Nat):LfQ Q n k (2*k+1)=boV (laM (stJ Q k n)):=by rw[LfQ,Aa Oo,qsl]
theorem qu0(Q:Nat->Nat->Nat)(n:Nat)(h:j<k):LfQ Q n k (2*j+1)=boV (laN (stJ Q j n)):=by rw[LfQ,Ad Oo,show(2*j+1)/2=j by omega]
theorem qu2(Q:Nat->Nat->Nat)(n k m:Nat):updR (LfQ Q n k) (2*k+1) ((LfQ Q n k (2*k+1)).set ((stJ Q k n).length-1) (.bool true)) m=LfQ Q n (k+1) m:=by
 by_cases e:m=2*k+1
 ·subst e;rw[qjg,qsm,qu0 Q n (Dk k),<-qaab,boV,boV,Ev]
 ·rw[qfr _ _ _ e,LfQ,LfQ]
  by_cases g:m%2=1/\m/2<k
  ·rw[Ad g,Ad Oo]
  ·rw[Aa g,Aa Oo]
theorem q8y{n:Nat}(h:(stJ Q k n).length=0)(m:Nat):LfQ Q n k m=LfQ Q n (k+1) m:=by
 rw[<-qu2,h]
 by_cases e:m=2*k+1
 ·subst e;have h0:=AW h;rw[qjg,qsm,h0];rfl
 ·rw[qfr _ _ _ e]
def LvlR(Q:Nat->Nat->Nat)(n:Nat)(w:Ez)(r:E8):Prop:=
 ∃(NA LA:Nat->oA) (NC LC:Nat->Nat),r=.agg #[.slice (NA 0) (leT Q 0 n) (NC 0),.slice (LA 0) (leT Q 0 n) (LC 0),.slice (NA 1) (leT Q 1 n) (NC 1),.slice (LA 1) (leT Q 1 n) (LC 1),
  .slice (NA 2) (leT Q 2 n) (NC 2),.slice (LA 2) (leT Q 2 n) (LC 2),.slice (NA 3) (leT Q 3 n) (NC 3),.slice (LA 3) (leT Q 3 n) (LC 3)]/\
  (∀j,j<4->SlAt encU 1 w (NA j) (nuT Q j n))/\∀j,j<4->SlAt encO 1 w (LA j) (laN (stJ Q j n))
theorem qq6(Q:Nat->Nat->Nat)(A:oA)(n c:Nat)(w:Ez)(hS:SlAt idsE 4 w A ((List.range n).map Q))(hQ:TOk Q n):
  Gv EG 79 [.slice A n c] w fun r w'=>LvlR Q n w' r/\Ext w w':=by
 have hnl:=hQ.nle;have hlen:((List.range n).map Q).length=n:=by simp
 have hat:∀i (hi:i<((List.range n).map Q).length),((List.range n).map Q)[i]=Q i:=fun i hi=>by simp
 have hns:∀j i,i<=n->(nuT Q j i).length<=1048576:=fun j i hi=>by have:=q1m (Q:=Q) j i;show leT Q j i<=_;omega
 have t2:tsz EG 151=2:=by kernel_rfl
 have t1:tsz EG 3=1:=by kernel_rfl
 refine ze Tryz.func79 Tryz.ntmps79 ?_;refine⟨fun r2 w1 hr2 hw1=>?_⟩;have he1:Ext w w1:=by rw[hw1];exact(Ext.refl w).alloc _
 have hr2c:w1.heap[r2]?=some (.cells #[.slice none 0 0,.slice none 0 0,.slice none 0 0,.slice none 0 0,.slice none 0 0,.slice none 0 0,.slice none 0 0,.slice none 0 0] 152):=by rw[hw1,hr2];exact heap_alloc_new w _
 have hr2n:w.heap.size<=r2:=by omega
 clear hr2 hw1;(conv=>whnf);refine⟨fun rb w2 hrb hw2=>?_⟩;have h0:RdS w1 w2 rb (fun _=>.slice none 0 0) (fun _=>.slice none 0 0) (LdQ Q 0):=by
  have hall:∀F∈(List.range 8).map (fun _:Nat=>rowF (.slice none 0 0)),F=[]:=fun F hF=>by
   obtain⟨_,_,rfl⟩:=AY.1 hF;rfl
  have s0:Sep w1 w1 ((List.range 8).map fun _=>rowF (.slice none 0 0)):=by
   refine⟨Ext.refl w1,fun F hF k hk=>?_,Cd.2 fun i j hi hj _ k hk=>?_⟩
   ·rw[hall F hF]at hk;cases hk
   ·rw[hall _ (AT hi)]at hk;cases hk
  obtain⟨s1,hg⟩:=s0.new hrb hw2;refine⟨s1.add (F:=[]) (Ext.refl w2) (fun k hk=>by cases hk),hg,fun m hm=>?_⟩;have e:LdQ Q 0 m=[]:=by
   rw[LdQ]
   split
   ·rfl
   ·rw[stJ]
    split<;>rfl
  rw[e];exact World.ownsRow_nil _ _ _ _
 clear hrb hw2;(conv=>whnf);refine qj (fun i:Nat=>[(0,.slice A n c),(2,pp r2),(3,pp rb),(4,ii i)])
  (fun i w'=>i<=n/\∃G,RdS w1 w' rb G G (LdQ Q i)) (fun i=>n-i) 0 fq ⟨Am _,_,h0⟩ ?_
 clear h0;rintro i w3 ρ' ⟨i1,G,hR⟩;(conv=>whnf);refine zC (fun _=>zw ?_) (fun _=>zw ?_)
 ·have hi:i<n:=by omega
  refine qj (fun k:Nat=>[(0,.slice A n c),(2,pp r2),(3,pp rb),(4,ii i),(5,.bool (smQ Q i k)),(6,ii k)])
   (fun k w'=>k<=4/\∃G,RdS w1 w' rb G G (LmQ Q i k)) (fun k=>4-k) 0 ⟨rfl,rfl,rfl,rfl,Af Value.bool (by rw[smQ,Ad rfl,AV];simp),rfl,trivial⟩ ⟨Am _,G,hR.eqL fun m _=>(q4d Q i m).symm⟩ ?_
  clear hR;rintro k w4 ρ2 ⟨k1,G,hR⟩;(conv=>whnf);refine zC (fun _=>zu ?_) (fun _=>zu ?_)
  ·have hk4:k<4:=by omega
   have hsm:=qac6 Q i k;obtain⟨b,eb⟩:∃b,b=smQ Q i k:=⟨_,rfl⟩
   rw[<-eb]at hsm|-;obtain⟨A0,c0,e0⟩:=qa6 (hR.row (2*k) Oo);obtain⟨A1,c1,e1⟩:=qa6 (hR.row (2*k+1) Oo);have hl0:(LmQ Q i k (2*k)).length=(nuT Q k i).length:=by rw[qu3,qes]
   have hl1:(LmQ Q i k (2*k+1)).length=(nuT Q k i).length:=by rw[qnp,qgp,qby,qgz];rfl
   have hsl:(stJ Q k i).length=(nuT Q k i).length:=qgz Q k i;have o0:(fnA 8 G)[0+k*tsz EG 151+0]?=some (.slice A0 (nuT Q k i).length c0):=by rw[t2,show 0+k*2+0=2*k by omega,qdd 8 G _ Oo,e0,hl0]
   have o1:(fnA 8 G)[0+k*tsz EG 151+1]?=some (.slice A1 (nuT Q k i).length c1):=by rw[t2,show 0+k*2+1=2*k+1 by omega,qdd 8 G _ Oo,e1,hl1]
   have hnk:=hns k i i1;obtain⟨ab,ao,eA,hcl⟩:=hS.at_ (by intro e;rw[e]at hlen;simp at hlen;omega);have hcell:=hcl i _ (zge (by rw[hlen];omega));rw[hat]at hcell;subst eA;have heW:Ext w w4.drew:=he1.trans hR.sep.ext.drew;cases b
   case' true=>
    have h0i:=qab1 eb.symm;have hp1:=hcell.ext heW;have hp2:=(hcl (i-1) _ (zge (by rw[hlen];omega))).ext heW;rw[hat]at hp2;have hb:(if k=0 then false else frU Q i (k-1))=false:=by
     rw[smQ]at eb
     split at eb
     ·rename_i g;rw[Ad g]
     ·rename_i g;rw[Aa g];simpa using eb.symm
    have hR:=hR.call (Ext.refl w4).drew;refine zy ?_;generalize w4.drew=w5 at *;refine zv ?_;refine⟨⟨ab,ao,i,rfl,by omega,by omega,?_⟩⟩;refine zu ?_;refine LoadV.of (by rw[t1,Bk];exact hp1 k _ (qeg (Q i) Oo)) (zu ?_);refine⟨⟨ab,ao,i-1,rfl,by omega,by omega,?_⟩⟩;refine zu ?_;refine LoadV.of (by rw[t1,Bk];exact hp2 k _ (qeg (Q (i-1)) Oo)) (zw ?_);refine zt ?_;refine zC (fun _=>zu ?_) (fun _=>zu ?_)
    ·have hq:Q i k=Q (i-1) k:=by omega
     have hf:frU Q i k=false:=by rw[hsm,Az hq];rfl
     exact⟨k+1,⟨rfl,rfl,rfl,rfl,Af Value.bool (by rw[qkl,hf,hq];simp),Af (Value.int .i64) Oo,trivial⟩,⟨by omega,G,hR.eqL fun m _=>q4c hf m⟩,by omega⟩
    have hq:Q i k≠Q (i-1) k:=by omega
    have hf:frU Q i k=true:=by rw[hsm,AH hq];rfl
    have hsl5:(decide ((Q i k:Int)=(Q (i-1) k:Int)))=smQ Q i (k+1):=by rw[qkl,hf];exact AH Oo
    refine LoadV.own hR.tab o0 (zw ?_);refine zC (fun _=>zu ?_) (fun _=>zu ?_)
    all_goals have hst:∃L5 X,RdS w1 w5 rb G G L5/\(∀m,m≠2*k+1->L5 m=LmQ Q i k m)/\L5 (2*k+1)=boV X/\X=(laM (stJ Q k i)).set ((stJ Q k i).length-1) (if k=0 then false else frU Q i (k-1)):=
     ⟨_,laM (stJ Q k i),hR,fun m _=>rfl,qnp Q i k,by rw[hb,q5p]⟩
    all_goals clear hp1 hp2 h0i hq hb
   case' false=>
    have hf:frU Q i k=true:=hsm;have hR:=hR.call (Ext.refl w4).drew;have hsl5:false=smQ Q i (k+1):=by rw[qkl,hf];rfl
    refine zy ?_;generalize w4.drew=w5 at *;refine zv ?_;refine LoadV.own hR.tab o0 (zw ?_);refine zC (fun _=>zu ?_) (fun _=>zu ?_)
    case' refine_2=>
     have h0:laM (stJ Q k i)=[]:=AW (by rw[qby];omega);have hst:∃L5 X,RdS w1 w5 rb G G L5/\(∀m,m≠2*k+1->L5 m=LmQ Q i k m)/\L5 (2*k+1)=boV X/\X=(laM (stJ Q k i)).set ((stJ Q k i).length-1) (if k=0 then false else frU Q i (k-1)):=
      ⟨_,[],hR,fun m _=>rfl,by rw[qnp,h0],by rw[h0];rfl⟩
    case' refine_1=>
     have hk0:k≠0:=fun e=>by
      subst e;rw[smQ,Ad rfl]at eb;have:¬0<i:=of_decide_eq_false eb.symm;have e0:i=0:=by omega
      subst e0;have:(nuT Q 0 0).length=0:=rfl;omega
     have hb:(if k=0 then false else frU Q i (k-1))=true:=by rw[smQ,Aa hk0]at eb;rw[Aa hk0];simpa using eb.symm
     refine LoadV.own hR.tab o1 (zu ?_);obtain⟨g,hA1,hst⟩:=hR.cell (m:=2*k+1) (j:=(nuT Q k i).length-1) Oo (by rw[hl1];omega) e1 (v:=.bool true) rfl;subst hA1;refine ElemV.own1 ((nuT Q k i).length-1) Oo Oo (zw ?_);refine hst _ ?_;clear hR hst;intro w5 hR;(conv=>whnf);have hst:∃L5 X,RdS w1 w5 rb G G L5/\(∀m,m≠2*k+1->L5 m=LmQ Q i k m)/\L5 (2*k+1)=boV X/\X=(laM (stJ Q k i)).set ((stJ Q k i).length-1) (if k=0 then false else frU Q i (k-1)):=
      ⟨_,(laM (stJ Q k i)).set ((nuT Q k i).length-1) true,hR,fun m hm=>qfr _ _ _ hm,by rw[qjg,qnp,boV,boV,Ev],by rw[hb,hsl]⟩
   all_goals
    obtain⟨L5,X,hR5,hL5,h5o,hX⟩:=hst;have h5n:L5 (2*k)=u64V (nuT Q k i):=by rw[hL5 _ Oo,qu3]
    have hXl:X.length=(nuT Q k i).length:=by rw[hX,CP,qby,hsl]
    have hqk:=hQ.small hi hk4;have hl5:(L5 (2*k)).length=(nuT Q k i).length:=by rw[h5n,qes]
    clear hR e1 hl1 o1;have hRD:=hR5.call (Ext.refl w5).drew;refine DrawV.gen (fun S vals w'=>RdI w1 w5.drew rb G L5 k (Q i k) (S 4) (S 12) (S 13) (S 16) (vals 12) (vals 13) w') rfl Jk (fun vals=>.inl ⟨rfl,rfl,xr,fun h=>(by cases h)⟩) (zw ?_);(iterate 4 (refine zg ?_));refine StepG.of (.slice A0 (nuT Q k i).length c0) (fun S vals wd hk hp hI=>?_) (zw ?_)
    ·dsimp only at hI;rw[hk]at hI;obtain⟨ht,hI⟩:=hI.four hRD;(conv=>whnf);refine LoadV.own ht o0 (zw ?_);exact⟨rfl,hI⟩
    (iterate 3 (refine zg ?_));refine StepG.of (.pointer (some ⟨ab,ao+i*4,none⟩)) (fun S vals wd hk hp hI=>zw ?_) (zw ?_)
    ·refine⟨⟨ab,ao,i,rfl,by omega,by omega,?_⟩⟩;rw[show tsz EG 101=4 from by kernel_rfl];(conv=>whnf);exact⟨rfl,hI⟩
    refine zg ?_;refine StepG.of (ii (Q i k:Nat)) (fun S vals wd hk hp hI=>zw ?_) (zw ?_)
    ·refine LoadV.of (by rw[t1,Bk];exact(hcell.ext (he1.trans (hI.ext hRD.sep.ext))) k _ (qeg (Q i) hk4)) (zw ?_);exact⟨rfl,hI⟩
    refine StepG.of (.int .u64 (Q i k:Nat)) (fun S vals wd hk hp hI=>?_) (zw ?_)
    ·refine zu ?_;exact⟨rfl,hI⟩
    refine StepG.any (fun S vals wd hk hp hI=>?_) (zw ?_)
    ·dsimp only at hI;rw[hk]at hI;(conv=>whnf);refine⟨fun b w' hb hw=>?_⟩;(conv=>whnf);exact⟨trivial,hI.twelve hb hw⟩
    refine StepG.any (fun S vals wd hk hp hI=>?_) (zw ?_)
    ·dsimp only at hI;have h12:S 12=true:=hp 12 Od;rw[hk,h12]at hI;obtain⟨h16,he7,nb,hv,hnb⟩:=hI.thirteen;have hRd:=hRD.call he7;have hr:=hRd.row (2*k) Oo;rw[e0,h5n,qes,hl0,qsu]at hr;rw[ql hv];(conv=>whnf);refine AppV.cell qaef u64I u64Z Jk rfl (by decide +kernel) hr hnb rfl Oo ?_;intro A' c' w8 ho hch hnew;have hch:Chn (rowF (G (2*k))) wd w8:=by rw[e0,hl0];exact hch
     have hnew:∀j∈rowF (.slice A' ((L5 (2*k)).length+1) c'),(j∈rowF (G (2*k))\/wd.heap.size<=j)/\j<w8.heap.size:=by rw[e0,hl0,hl5];exact hnew
     (conv=>whnf);exact⟨trivial,.inr (.inl ⟨h12,rfl,h16,A',c',(by rw[hl5];rfl),hRd.chg Oo (by rw[zla,AZ,qsu,h5n,qes];exact ho) hch hnew⟩)⟩
    refine zg ?_;refine zg ?_;refine StepG.any (fun S vals wd hk hp hI=>?_) (zw ?_)
    ·dsimp only at hI;have h13:S 13=true:=hp 13 Od;have h4:S 4=true:=hp 4 Od;rw[hk,h13]at hI;obtain⟨h12,A',c',hv,hRd⟩:=hI.sixteen;rw[ql hv];(conv=>whnf);show StoreV _ rb (0+k*tsz EG 151+0) _ _;rw[t2,show 0+k*2+0=2*k by omega];refine hRd.store Oo rfl ?_;intro w9 hR9;exact⟨trivial,.inr (.inr ⟨h4,h12,h13,rfl,_,hR9⟩)⟩
    intro vals w6 hI;obtain⟨G6,hR6⟩:=hI.end_;clear hI;obtain⟨A6,c6,e6⟩:=qa6 (hR6.row (2*k+1) Oo);rw[qfr _ _ _ (show 2*k+1≠2*k by omega),h5o,qgp,hXl]at e6;(conv=>whnf);refine LoadV.own hR6.tab (v:=.slice A6 (nuT Q k i).length c6) (by rw[t2];show(fnA 8 G6)[0+k*2+1]?=_;rw[show 0+k*2+1=2*k+1 by omega,qdd 8 G6 _ Oo,e6]) (zw ?_);refine⟨fun nb w7 hnb hw=>?_⟩;have he7:Ext w6 w7:=by rw[hw];exact(Ext.refl w6).alloc _
    have hc7:w7.heap[nb]?=some (.cells #[.bool false] 4):=by rw[hw,hnb];exact heap_alloc_new w6 _
    clear hnb hw;have hR7:=hR6.call he7;have hr7:=hR7.row (2*k+1) Oo;rw[e6,qfr _ _ _ (show 2*k+1≠2*k by omega),h5o,qgp,hXl,q0d]at hr7;(conv=>whnf);refine AppV.cell qaeu booI booZ Jk rfl (by decide +kernel) hr7 hc7 rfl Oo ?_;intro A8 c8 w8 ho hch hnew;rw[<-e6]at hch hnew;have hR8:=hR7.chg (m:=2*k+1) Oo (v:=.slice A8 ((nuT Q k i).length+1) c8) (x:=boV (X++[false])) (by
     rw[qgp,zla,AZ,hXl,q0d,boV,AB];exact ho) hch hnew
    (conv=>whnf);show StoreV _ rb (0+k*tsz EG 151+1) _ _;rw[t2,show 0+k*2+1=2*k+1 by omega];refine hR8.store Oo rfl ?_;intro w9 hR9;refine zu ?_;rw[h5n]at hR9;exact⟨k+1,⟨rfl,rfl,rfl,rfl,Af Value.bool hsl5,Af (Value.int .i64) Oo,trivial⟩,⟨by omega,_,hR9.eqL fun m _=>q80 hf hX (fun m _ h2=>hL5 m h2) m⟩,by omega⟩
  ·obtain rfl:k=4:=by omega
   exact⟨i+1,⟨rfl,rfl,rfl,Af (Value.int .i64) Oo,trivial⟩,⟨by omega,G,hR.eqL fun m hm=>q8z Q i hm⟩,by omega⟩
 ·obtain rfl:i=n:=by omega
  refine qj (fun k:Nat=>[(2,pp r2),(3,pp rb),(10,ii k)])
   (fun k w'=>k<=4/\∃G,RdS w1 w' rb G G (LfQ Q i k)) (fun k=>4-k) 0 fq ⟨by omega,G,hR.eqL fun m _=>q4b Q i m⟩ ?_
  clear hR;rintro k w4 ρ2 ⟨k1,G,hR⟩;(conv=>whnf);refine zC (fun _=>zu ?_) (fun _=>zu ?_)
  ·have hk4:k<4:=by omega
   obtain⟨A0,c0,e0⟩:=qa6 (hR.row (2*k) Oo);obtain⟨A1,c1,e1⟩:=qa6 (hR.row (2*k+1) Oo);have hl0:(LfQ Q i k (2*k)).length=(nuT Q k i).length:=by rw[qu1,qes]
   have hsl:(stJ Q k i).length=(nuT Q k i).length:=qgz Q k i;have hl1:(LfQ Q i k (2*k+1)).length=(nuT Q k i).length:=by rw[qsm,qgp,qby,hsl]
   have o0:(fnA 8 G)[0+k*tsz EG 151+0]?=some (.slice A0 (nuT Q k i).length c0):=by rw[t2,show 0+k*2+0=2*k by omega,qdd 8 G _ Oo,e0,hl0]
   have o1:(fnA 8 G)[0+k*tsz EG 151+1]?=some (.slice A1 (nuT Q k i).length c1):=by rw[t2,show 0+k*2+1=2*k+1 by omega,qdd 8 G _ Oo,e1,hl1]
   have hnk:=hns k i i1;refine LoadV.own hR.tab o0 (zw ?_);refine zC (fun _=>zu ?_) (fun _=>zu ?_)
   ·refine LoadV.own hR.tab o1 (zu ?_);obtain⟨g,hA1,hst⟩:=hR.cell (m:=2*k+1) (j:=(stJ Q k i).length-1) Oo (by rw[hl1];omega) e1 (v:=.bool true) rfl;subst hA1;refine ElemV.own1 ((stJ Q k i).length-1) Oo Oo (zw ?_);refine hst _ ?_;clear hR hst;intro w5 hR;refine zu ?_;exact⟨k+1,⟨rfl,rfl,Af (Value.int .i64) Oo,trivial⟩,⟨by omega,G,hR.eqL fun m _=>qu2 Q i k m⟩,by omega⟩
   ·exact⟨k+1,⟨rfl,rfl,Af (Value.int .i64) Oo,trivial⟩,⟨by omega,G,hR.eqL fun m _=>q8y Oo m⟩,by omega⟩
  ·obtain rfl:k=4:=by omega
   have hln:∀m,m<8->(LfQ Q i 4 m).length=leT Q (m/2) i:=fun m hm=>by
    rw[LfQ]
    split
    ·rw[qgp,qgt,qgz]
    ·rename_i g
     rw[LdQ]
     split
     ·rw[qes];rfl
     ·exfalso;omega
   have hsl:∀m,∃A c,m<8->G m=.slice A (leT Q (m/2) i) c:=fun m=>by
    by_cases hm:m<8
    ·obtain⟨A,c,e⟩:=qa6 (hR.row m hm);exact⟨A,c,fun _=>by rw[e,hln m hm]⟩
    ·exact⟨none,0,fun h=>absurd h hm⟩
   obtain⟨AA,hsl⟩:=Classical.axiomOfChoice hsl;obtain⟨CC,hsl⟩:=Classical.axiomOfChoice hsl;obtain⟨vs,evs⟩:∃vs,vs=[Value.slice (AA 0) (leT Q 0 i) (CC 0),.slice (AA 1) (leT Q 0 i) (CC 1),.slice (AA 2) (leT Q 1 i) (CC 2),.slice (AA 3) (leT Q 1 i) (CC 3),.slice (AA 4) (leT Q 2 i) (CC 4),.slice (AA 5) (leT Q 2 i) (CC 5),.slice (AA 6) (leT Q 3 i) (CC 6),.slice (AA 7) (leT Q 3 i) (CC 7)]:=⟨_,rfl⟩
   have hfv:(fnA 8 G)=vs.toArray:=by
    rw[evs,fnA,show List.range 8=[0,1,2,3,4,5,6,7]from rfl];simp only[AO,BM];rw[hsl 0 Od,hsl 1 Od,hsl 2 Od,hsl 3 Od,hsl 4 Od,hsl 5 Od,hsl 6 Od,hsl 7 Od]
   have htab:=hR.tab;rw[hfv]at htab;have hcs:=CellsAt.heap htab;have hone:∀v∈vs,v.oneCell'=true:=by
    rw[evs];simp[Value.oneCell']
   have hvl:vs.length=8:=by rw[evs];rfl
   have hr4:=hR.sep.ext.get hr2c;rw[evs]at hcs;refine LoadA.cells hcs rfl (zw ?_);rw[<-evs];refine StoreA.blk hr4 (by rw[hvl];exact Aq _) hone ?_;intro w5 hc5 hg5;have hr2l:r2<w1.heap.size:=qiu hr2c;have hfar:∀m (hm:m<8),∀k∈rowF (G m),w5.heap[k]?=w4.heap[k]?:=fun m hm k hk=>by
    have:=hR.sep.at_ (qwr [] rb G hm) k hk;exact hc5.block k this.2 fun g=>by rw[Ah.1 g]at this;omega
   have hg5:w5.heap[r2]?=some (.cells vs.toArray 152):=by
    rw[hg5]
    congr 3
    rw[hvl];simp
   (conv=>whnf);refine qh (R:=fun r w'=>LvlR Q i w' r/\Ext w w') ?_;have hc6:=CellsAt.heap hg5;rw[evs]at hc6;(conv=>whnf);refine LoadA.cells hc6 rfl (zw ?_);refine⟨⟨fun j=>AA (2*j),fun j=>AA (2*j+1),fun j=>CC (2*j),fun j=>CC (2*j+1),rfl,fun j hj=>?_,fun j hj=>?_⟩,hc5.ext (he1.trans hR.sep.ext) fun k hk=>by rw[Ah.1 hk];exact hr2n⟩
   ·have hr:=qcd (hR.row (2*j) Oo) (hfar (2*j) Oo);rw[hsl (2*j) Oo,qu1,qes,qsu,show 2*j/2=j by omega]at hr;exact q2e hr rfl
   ·have hr:=qcd (hR.row (2*j+1) Oo) (hfar (2*j+1) Oo);rw[hsl (2*j+1) Oo,qu0 Q i hj,qgp,qgt,qgz,q0d,show(2*j+1)/2=j by omega]at hr;exact qpc (f:=Value.bool) hr (by rw[qgt,qgz])
def PvI(w0 w6:Ez)(l x y:LB)(s5 s11 s12 s13:Bool)(v5 v11 v12 v13:E8)(w':Ez):Prop:=
 (s12=false/\s13=false/\Ext w6 w'/\(s5=true->∃A c,v5=.slice A x.length c/\SlAt encB 1 w' A x)/\(s11=true->s5=true/\∃A c,v11=.slice A y.length c/\SlAt encB 1 w' A y))\/
 (s5=true/\s11=true/\s12=true/\∃A c,v12=.slice A (l++y).length c/\RowS w0 w' (.slice A (l++y).length c) (l++y)/\(s13=true->v13=v12))
section
variable {w0 w6 w' w2:Ez} {l x y:LB} {s5 s11 s12 s13:Bool} {v5 v11 v12 v13:E8}
theorem PvI.start(he:Ext w6 w'):PvI w0 w6 l x y false false false false v5 v11 v12 v13 w':=.inl ⟨rfl,rfl,he,(fun h=>(by cases h)),(fun h=>(by cases h))⟩
theorem PvI.ext(h:PvI w0 w6 l x y s5 s11 s12 s13 v5 v11 v12 v13 w')(h0:Ext w0 w6):Ext w0 w':=by
 rcases h with⟨_,_,h,_⟩|⟨_,_,_,_,_,_,h,_⟩
 ·exact h0.trans h
 ·exact h.ext
theorem PvI.five(h:PvI w0 w6 l x y false s11 s12 s13 v5 v11 v12 v13 w')(he:Ext w' w2)(hS:SlAt encB 1 w2 A x):PvI w0 w6 l x y true s11 s12 s13 (.slice A x.length c) v11 v12 v13 w2:=by
 rcases h with⟨h1,h2,h3,_,h5⟩|⟨h,_⟩
 ·exact .inl ⟨h1,h2,h3.trans he,fun _=>⟨A,c,rfl,hS⟩,fun g=>(by cases(h5 g).1)⟩
 ·cases h
theorem PvI.at5(h:PvI w0 w6 l x y true false s12 s13 v5 v11 v12 v13 w'):∃A c,v5=.slice A x.length c/\SlAt encB 1 w' A x:=by
 rcases h with⟨_,_,_,h,_⟩|⟨_,h,_⟩
 ·exact h rfl
 ·cases h
theorem PvI.eleven(h:PvI w0 w6 l x y true false s12 s13 v5 v11 v12 v13 w')(he:Ext w' w2)(hS:SlAt encB 1 w2 A y):PvI w0 w6 l x y true true s12 s13 v5 (.slice A y.length c) v12 v13 w2:=by
 rcases h with⟨h1,h2,h3,h4,_⟩|⟨_,h,_⟩
 ·obtain⟨B,d,h5,h6⟩:=h4 rfl;exact .inl ⟨h1,h2,h3.trans he,fun _=>⟨B,d,h5,h6.ext he⟩,fun _=>⟨rfl,A,c,rfl,hS⟩⟩
 ·cases h
theorem PvI.at11(h:PvI w0 w6 l x y s5 true false s13 v5 v11 v12 v13 w'):s5=true/\s13=false/\Ext w6 w'/\∃A c,v11=.slice A y.length c/\SlAt encB 1 w' A y:=by
 rcases h with⟨_,h2,h3,_,h5⟩|⟨_,_,h,_⟩
 ·exact⟨(h5 rfl).1,h2,h3,(h5 rfl).2⟩
 ·cases h
theorem PvI.at12(h:PvI w0 w6 l x y s5 s11 true s13 v5 v11 v12 v13 w'):s5=true/\s11=true/\∃A c,v12=.slice A (l++y).length c/\RowS w0 w' (.slice A (l++y).length c) (l++y)/\(s13=true->v13=v12):=by
 rcases h with⟨h,_⟩|⟨h1,h2,_,h3⟩
 ·cases h
 ·exact⟨h1,h2,h3⟩
end
def lvV(Q:Nat->Nat->Nat)(n:Nat)(NA LA:Nat->oA)(NC LC:Nat->Nat)(m:Nat):E8:=if m%2=0 then .slice (NA (m/2)) (leT Q (m/2) n) (NC (m/2))else .slice (LA (m/2)) (leT Q (m/2) n) (LC (m/2))
theorem q5x(Q:Nat->Nat->Nat)(n:Nat)(NA LA:Nat->oA)(NC LC:Nat->Nat)(hk:k<4):((List.range 8).map (lvV Q n NA LA NC LC))[2*k]?=some (.slice (NA k) (leT Q k n) (NC k)):=by
 rw[Ao,Bt Oo,B4,lvV,Ad Oo,show 2*k/2=k by omega]
theorem qaak(Q:Nat->Nat->Nat)(n:Nat)(NA LA:Nat->oA)(NC LC:Nat->Nat)(hk:k<4):((List.range 8).map (lvV Q n NA LA NC LC))[2*k+1]?=some (.slice (LA k) (leT Q k n) (LC k)):=by
 rw[Ao,Bt Oo,B4,lvV,Aa Oo,show(2*k+1)/2=k by omega]
theorem qty(Q:Nat->Nat->Nat)(A:oA)(n c:Nat)(w:Ez)(hS:SlAt idsE 4 w A ((List.range n).map Q))(hQ:TOk Q n):
  Gv EG 50 [.slice A n c,ii 1099511627776] w fun r w'=>∃v,r=.tuple #[v,ii 0]/\NewS 5 w w' v (qr Q n):=by
 have hnl:=hQ.nle;have hle:=hQ.le;have hlen:((List.range n).map Q).length=n:=by simp
 have hat:∀i (hi:i<((List.range n).map Q).length),((List.range n).map Q)[i]=Q i:=fun i hi=>by simp
 have t2:tsz EG 151=2:=by kernel_rfl
 have hwl:=q3n hQ;have hxl:=fun{k:Nat} (hk:k<=4)=>qaee hQ hk
 refine ze Tryz.func50 Tryz.ntmps50 ?_;refine zv ?_;refine qj (fun i:Nat=>[(0,.slice A n c),(1,ii 1099511627776),(6,ii i)]) (fun i w1=>i<=n/\Ext w w1) (fun i=>n-i) 0 fq ⟨Am _,Ext.refl w⟩ ?_;rintro i w1 ρ' ⟨i1,he1⟩;(conv=>whnf);refine zC (fun _=>zw ?_) (fun _=>zw ?_)
 ·have hi:i<n:=by omega
  refine ElemV.sl (hS.ext he1) hlen i rfl hi ?_;intro eb eo hcell;rw[hat]at hcell;(conv=>whnf);refine LoadA.cells hcell rfl (zw ?_);refine zcv (qtw Q n hQ hi w1) ?_;rintro r w2 ⟨rfl,he2⟩;refine zu ?_;exact⟨i+1,⟨rfl,rfl,Af (Value.int .i64) Oo,trivial⟩,⟨by omega,he1.trans he2⟩,by omega⟩
 ·obtain rfl:i=n:=by omega
  refine qj (fun k:Nat=>[(0,.slice A i c),(1,ii 1099511627776),(8,ii (k+1:Nat))]) (fun k w1=>Ext w w1) (fun k=>i-k) 0 fq he1 ?_;rintro k w2 ρ2 he2;(conv=>whnf);refine zC (fun _=>zw ?_) (fun _=>zw ?_)
  ·have hk:k+1<i:=by omega
   obtain⟨b,off,rfl,hcl⟩:=(hS.ext he2).at_ (by intro e;rw[e]at hlen;simp at hlen;omega);have hca:=(hcl k _ (zge (by rw[hlen];omega))).ext (Ext.refl w2).drew;have hcb:=(hcl (k+1) _ (zge (by rw[hlen];omega))).ext (Ext.refl w2).drew;rw[hat]at hca hcb;obtain⟨kk,hk4,hsame,hlt⟩:=hQ.rise (k+1) Oo hk;refine DrawV.free rfl Jk (zw ?_);(iterate 3 (refine zd ?_));refine zf ?_ (by intro wd hd;(conv=>whnf);refine⟨⟨b,off,k,rfl,by omega,by omega,?_⟩⟩;exact xq);apply zsd
   ·intro wd hd;(conv=>whnf);refine LoadA.cells (hca.ext hd) rfl (zw ?_);exact xq
   (conv=>whnf);refine zd ?_;refine zd ?_;refine zf ?_ (by intro wd hd;(conv=>whnf);refine⟨⟨b,off,(k+1),rfl,by omega,by omega,?_⟩⟩;exact xq);apply zsd
   ·intro wd hd;(conv=>whnf);refine LoadA.cells (hcb.ext hd) rfl (zw ?_);exact xq
   (conv=>whnf);apply zsd
   ·intro wd hd;(conv=>whnf);refine zcv (qn4 (Q k) (Q (k+1)) wd hk4 (fun j hj=>(hsame j hj).symm) hlt) ?_;rintro v w7 ⟨rfl,he⟩;exact⟨he,rfl⟩
   (conv=>whnf);refine zd ?_;intro wd hd;have he3:=(he2.drew).trans hd;refine zu ?_;exact⟨k+1,⟨rfl,rfl,Af (Value.int .i64) Oo,trivial⟩,he3,by omega⟩
  ·refine zcv (qq6 Q A i c w2 (hS.ext he2) hQ) ?_;rintro r w3 ⟨⟨NA,LA,NC,LC,rfl,hN,hL⟩,he3⟩;(conv=>whnf);refine znm (Mem.nil w3) fun rb w4 hm=>zw ?_;refine StoreA.all (vs:=(List.range 8).map (lvV Q i NA LA NC LC)) hm (i:=0) rfl rfl (fun v hv=>by
    obtain⟨m,_,rfl⟩:=AY.1 hv;rw[lvV];split<;>rfl) ?_
   intro w5 hm;have hcs:CellsAt w5 rb 0 ((List.range 8).map (lvV Q i NA LA NC LC)):=CellsAt.mem hm mh;have he5:Ext w w5:=he2.trans (he3.trans hm.ext);have hN:=fun j hj=>(hN j hj).ext hm.ext
   have hL:=fun j hj=>(hL j hj).ext hm.ext
   clear hm;have hld:∀{w'},Ext w5 w'->∀{k},k<4->w'.cell? ⟨rb,0+k*tsz EG 151+0,none⟩=some (.slice (NA k) (leT Q k i) (NC k)):=fun he k hk=>by
    rw[t2,show 0+k*2+0=0+2*k by omega];exact(hcs.ext he) (2*k) _ (q5x Q i NA LA NC LC hk)
   have hll:∀{w'},Ext w5 w'->∀{k},k<4->w'.cell? ⟨rb,0+k*tsz EG 151+1,none⟩=some (.slice (LA k) (leT Q k i) (LC k)):=fun he k hk=>by
    rw[t2,show 0+k*2+1=0+(2*k+1)by omega];exact(hcs.ext he) (2*k+1) _ (qaak Q i NA LA NC LC hk)
   (conv=>whnf);refine qj (fun x:Nat×oA×Nat=>[(1,ii 1099511627776),(9,pp rb),(10,.slice x.2.1 (trW Q i x.1).length x.2.2),(11,ii x.1)])
    (fun x w'=>x.1<=4/\RowS w5 w' (.slice x.2.1 (trW Q i x.1).length x.2.2) (trW Q i x.1)) (fun x=>4-x.1) (0,none,0) fq ⟨Am _,RowS.nil (Ext.refl w5)⟩ ?_
   rintro⟨k,B,d⟩ w6 ρ3 ⟨k1,hO⟩;dsimp only at k1 hO|-;have hwk:=hwl k;(conv=>whnf);refine zC (fun _=>zu ?_) (fun _=>zu ?_)
   ·have hk4:k<4:=by omega
    have hlk:=hle k;have hlv:=qbe 9 (leT Q k i) Oo;refine LoadV.of (hld hO.ext hk4) (zu ?_);refine zcv (qen (leT Q k i) w6 Oo) ?_;rintro r w7 ⟨⟨Bv,dv,rfl,hdv,hVS⟩,he7⟩;have hO:=hO.call he7;(conv=>whnf);refine hO.bys hVS Oo ?_;clear hO;intro B2 d2 w8 hO;refine zu ?_;exact⟨(k+1,B2,d2),⟨rfl,rfl,rfl,Af (Value.int .i64) Oo,trivial⟩,⟨by show k+1<=4;omega,hO⟩,by show 4-(k+1)<4-k;omega⟩
   ·obtain rfl:k=4:=by omega
    refine qj (fun x:Nat×oA×Nat=>[(1,ii 1099511627776),(9,pp rb),(10,.slice x.2.1 (trX Q i x.1).length x.2.2),(12,ii x.1)])
     (fun x w'=>x.1<=4/\RowS w5 w' (.slice x.2.1 (trX Q i x.1).length x.2.2) (trX Q i x.1)) (fun x=>4-x.1) (0,B,d) fq ⟨Am _,hO⟩ ?_
    clear hO;rintro⟨k,B,d⟩ w7 ρ4 ⟨k2,hO⟩;dsimp only at k2 hO|-;have hxk:=hxl k2;(conv=>whnf);refine zC (fun _=>zu ?_) (fun _=>zu ?_)
    ·have hk4:k<4:=by omega
     have hlk:=hle k;have hwi:=hQ.wi hk4;have hlw:leT Q k i*wiT (nuT Q k i)<=1048576*23:=BT hlk hwi;have hpl:=qce (nuT Q k i) (wiT (nuT Q k i));have hnl2:(nuT Q k i).length=leT Q k i:=rfl;have hnb:∀x∈nuT Q k i,x<18446744073709551616:=fun x hx=>by
      obtain⟨j,hj,rfl⟩:=qi3 hx;exact hQ.big hk4 j hj
     have hww:=qux (nuT Q k i) (NA k) (leT Q k i) (NC k) w7 ((hN k hk4).ext hO.ext) rfl hnb Oo;have hpw:=fun w' he=>qr1 (nuT Q k i) (wiT (nuT Q k i)) (NA k) (leT Q k i) (NC k) w' ((hN k hk4).ext he) rfl Oo (AU hlw Od) (qadv hQ hk4) Oo
     have ewm:wMx (nuT Q k i) (leT Q k i)=wiT (nuT Q k i):=rfl;rw[ewm]at hww;have hlv:lvB Q i k=UInt8.ofNat (wiT (nuT Q k i))::(qde (nuT Q k i) (wiT (nuT Q k i))++(if k=0 then[]else qar (qb3 (stT Q (k-1) i)) (leT Q k i))):=rfl;obtain⟨wi,ewi⟩:∃wi,wi=wiT (nuT Q k i):=⟨_,rfl⟩
     rw[<-ewi]at hlw hwi hpl hlv hww hpw;obtain⟨pk,epk⟩:∃pk,pk=qde (nuT Q k i) wi:=⟨_,rfl⟩
     rw[hnl2]at hpl;rw[<-epk]at hpl hlv hpw;obtain⟨lw,elw⟩:∃lw,lw=leT Q k i*wi:=⟨_,rfl⟩
     rw[<-elw]at hlw hpl;refine LoadV.of (hld hO.ext hk4) (zw ?_);refine zcv (hww) ?_;rintro r w8 ⟨rfl,rfl⟩;refine zu ?_;refine⟨fun nb w9 hnb hw=>?_⟩;have he9:Ext w8 w9:=by rw[hw];exact(Ext.refl w8).alloc _
     have hc9:w9.heap[nb]?=some (.cells #[.int .u8 (wi:Nat)] 5):=by rw[hw,hnb];exact heap_alloc_new w8 _
     clear hnb hw;have hO:=hO.call he9;(conv=>whnf);refine hO.one Oo hc9 Oo ?_;clear hO;intro B2 d2 w10 hO;have hl2:(trX Q i k++[UInt8.ofNat wi]).length=(trX Q i k).length+1:=by simp
     refine zu ?_;refine LoadV.of (hld hO.ext hk4) (zw ?_);refine zcv (hpw w10 hO.ext) ?_;rintro r w11 ⟨vp,rfl,hNp⟩;obtain⟨Ap,cp,ep,_,hAp⟩:=hNp.bs;subst ep;have hO:=hO.call hNp.ext;(conv=>whnf);refine hO.bys hAp Oo ?_;clear hO;intro B3 d3 w12 hO;have hl3:(trX Q i k++[UInt8.ofNat wi]++pk).length=(trX Q i k).length+1+pk.length:=by rw[zla,hl2]
     (conv=>whnf);refine zC (fun _=>zu ?_) (fun _=>zu ?_)
     ·have hk0:k≠0:=by omega
      rw[Aa hk0]at hlv;have hsl:(stT Q (k-1) i).length=leT Q k i:=by rw[qbr,Ch Oo]
      have hlb:(qb3 (stT Q (k-1) i)).length=upN (leT Q k i) 8:=by rw[qe7,hsl]
      have hup:upN (leT Q k i) 8=(leT Q k i+7)/8:=rfl;have hx:qda (boF (laN (stJ Q k i))) ((leT Q k i+7)/8)=qb3 (stT Q (k-1) i):=by rw[qadh,qab3 Q hk0,qb3,hsl];rfl
      have hpk:=fun w' he=>qrm (laN (stJ Q k i)) (LA k) (leT Q k i) (LC k) w' ((hL k hk4).ext he) (by rw[qgt,qgz]) Oo
      rw[hx]at hpk;have hwll:(qar (qb3 (stT Q (k-1) i)) (leT Q k i)).length<=1000000000:=by
       have hu:=qq5 (Q:=Q) (k-1) i;rw[Ch Oo]at hu;have hc:cnt (qb3 (stT Q (k-1) i)) (leT Q k i)<=leT Q k i:=qmu _ _;rw[q35 hlb];exact qus _ _ Oo hc
      have hwp:=fun B cb wd hB=>qzd (qb3 (stT Q (k-1) i)) B (qb3 (stT Q (k-1) i)).length cb (leT Q k i) wd hB rfl Oo Oo Oo
      obtain⟨x,ex⟩:∃x,x=qb3 (stT Q (k-1) i):=⟨_,rfl⟩
      rw[<-ex]at hpk hwp hlv hwll;obtain⟨y,ey⟩:∃y,y=qar x (leT Q k i):=⟨_,rfl⟩
      rw[<-ey]at hwp hlv hwll;have e2:trX Q i k++[UInt8.ofNat wi]++pk++y=trX Q i (k+1):=by rw[trX,hlv];simp
      generalize trX Q i k++[UInt8.ofNat wi]++pk=Z at *;have hOd:=hO.call (Ext.refl w12).drew;refine DrawV.genW (fun S vals w'=>PvI w5 w12.drew Z x y (S 5) (S 11) (S 12) (S 13) (vals 5) (vals 11) (vals 12) (vals 13) w') rfl Jk (fun vals=>PvI.start xr) (zw ?_);(iterate 4 (refine zg ?_));refine StepG.of (.slice (LA k) (leT Q k i) (LC k)) (fun S vals wd hk hp hI=>zw ?_) (zw ?_)
      ·refine LoadV.of (hll (hI.ext hOd.ext) hk4) (zw ?_);exact⟨rfl,hI⟩
      refine StepG.any (fun S vals wd hk hp hI=>?_) (zw ?_)
      ·dsimp only at hI;rw[hk]at hI;(conv=>whnf);refine zcv (hpk wd (hI.ext hOd.ext)) ?_;rintro r wx hNx;obtain⟨Ax,cx,rfl,_,hSx⟩:=hNx.bs;exact⟨trivial,hI.five hNx.ext hSx⟩
      (iterate 3 (refine zg ?_));refine StepG.of (.slice (LA k) (leT Q k i) (LC k)) (fun S vals wd hk hp hI=>zw ?_) (zw ?_)
      ·refine LoadV.of (hll (hI.ext hOd.ext) hk4) (zw ?_);exact⟨rfl,hI⟩
      refine zg ?_;refine StepG.any (fun S vals wd hk hp hI=>?_) (zw ?_)
      ·dsimp only at hI;have h5:S 5=true:=hp 5 Od;rw[hk,h5]at hI;obtain⟨Ax,cx,hv,hSx⟩:=hI.at5;rw[hv]at hI;rw[ql hv];(conv=>whnf);refine zcv (hwp Ax cx wd hSx) ?_;rintro r wx ⟨⟨By,cy,rfl,hSy⟩,hex⟩;refine⟨trivial,?_⟩;show PvI _ _ _ _ _ (S 5) true _ _ _ _ _ _ _;rw[h5];exact hI.eleven hex hSy
      refine StepG.any (fun S vals wd hk hp hI=>?_) (zw ?_)
      ·dsimp only at hI;have h11:S 11=true:=hp 11 Od;rw[hk,h11]at hI;obtain⟨h5,h13,he,Ay,cy,hv,hSy⟩:=hI.at11;rw[ql hv];(conv=>whnf);refine(hOd.call he).bys hSy Oo ?_;intro A' c' w' hO';exact⟨trivial,.inr ⟨h5,h11,rfl,A',c',rfl,hO',fun h=>absurd (h13.symm.trans h) Od⟩⟩
      refine StepG.any (fun S vals wd hk hp hI=>?_) (zw ?_)
      ·dsimp only at hI;have h12:S 12=true:=hp 12 Od;rw[hk,h12]at hI;obtain⟨h5,h11,A',c',hv,hO',_⟩:=hI.at12;rw[ql hv];(conv=>whnf);exact⟨trivial,.inr ⟨h5,h11,h12,A',c',rfl,hO',fun _=>rfl⟩⟩
      intro vals w13 hI;obtain⟨_,_,A',c',hv,hO',h13⟩:=hI.at12;rw[ql ((h13 rfl).trans hv)];clear hI;rw[e2]at hO'|-;refine zu ?_;exact⟨(k+1,A',c'),⟨rfl,rfl,rfl,Af (Value.int .i64) Oo,trivial⟩,⟨by show k+1<=4;omega,hO'⟩,by show 4-(k+1)<4-k;omega⟩
     ·rw[Ad Oo]at hlv;have e:trX Q i k++[UInt8.ofNat wi]++pk=trX Q i (k+1):=by rw[trX,hlv];simp
      rw[e]at hO|-;exact⟨(k+1,B3,d3),⟨rfl,rfl,rfl,Af (Value.int .i64) Oo,trivial⟩,⟨by show k+1<=4;omega,hO⟩,by show 4-(k+1)<4-k;omega⟩
    ·obtain rfl:k=4:=by omega
     rw[q3o]at hO hxk|-;exact⟨_,rfl,hO.new.back he5⟩
theorem qdx(n:Nat)(w:Ez)(hn:n<4294967296):Gv EG 84 [ii n] w fun r w'=>BS w' r (fixL n 4)/\Ext w w':=by
 refine ze Tryz.func84 Tryz.ntmps84 ?_;refine zv ?_;refine zcv (qnc n w hn) ?_;rintro r w1 ⟨⟨A,c,rfl,hc,hS⟩,he⟩;(conv=>whnf);exact⟨⟨A,c,rfl,hc,hS⟩,he⟩
theorem q23(a b:Nat)(V T:LB)(A B:oA)(c d:Nat)(w:Ez)(ha:a<4294967296)(hb:b<4294967296)(hV:SlAt encB 1 w A V)(hT:SlAt encB 1 w B T)(hVl:V.length<4294967296)(hTl:T.length<4294967296):
  Gv EG 51 [ii a,ii b,.slice A V.length c,.slice B T.length d] w fun r w'=>NewS 5 w w' r (qcy a b V T):=by
 have f4:=fun n=>qi n 4
 have s4:=fun p=>qdp p
 refine ze Tryz.func51 Tryz.ntmps51 ?_;refine⟨fun nb w1 hnb hw=>?_⟩;have he1:Ext w w1:=by rw[hw];exact(Ext.refl w).alloc _
 have hg1:w1.heap[nb]?=some (.cells #[.int .u8 84,.int .u8 83,.int .u8 82,.int .u8 65] 5):=by rw[hw,hnb];exact heap_alloc_new w _
 have hO:RowS w w1 (.slice (some ⟨nb,0,none⟩) (fixL 1095914324 4).length 4) (fixL 1095914324 4):=⟨(Sep.of (Ext.refl w)).add (F:=[nb]) he1 (fun k hk=>by rw[Ah.1 hk];exact⟨by omega,qiu hg1⟩),rfl,.inr ⟨nb,4,_,rfl,Am _,hg1,Aq _,by decide,rfl,rfl⟩⟩
 clear hnb hw hg1;(conv=>whnf);refine zcv (qdx 1 w1 Od) ?_;rintro r v1 ⟨⟨C1,d1,rfl,_,hS⟩,he⟩;have hO:=hO.call he;(conv=>whnf);refine hO.bys hS (by simp only[f4];omega) ?_;clear hO hS he;intro A2 c2 w2 hO;(conv=>whnf);refine zcv (qdx a w2 ha) ?_;rintro r v2 ⟨⟨C2,d2,rfl,_,hS⟩,he⟩;have hO:=hO.call he;(conv=>whnf);refine hO.bys hS (by simp only[zla,f4];omega) ?_;clear hO hS he;intro A3 c3 w3 hO;(conv=>whnf);refine zcv (qdx b w3 hb) ?_;rintro r v3 ⟨⟨C3,d3,rfl,_,hS⟩,he⟩;have hO:=hO.call he;(conv=>whnf);refine hO.bys hS (by simp only[zla,f4];omega) ?_;clear hO hS he;intro A4 c4 w4 hO;(conv=>whnf);refine zcv (qdx V.length w4 hVl) ?_;rintro r v4 ⟨⟨C4,d4,rfl,_,hS⟩,he⟩;have hO:=hO.call he;(conv=>whnf);refine hO.bys hS (by simp only[zla,f4];omega) ?_;clear hO hS he;intro A5 c5 w5 hO;(conv=>whnf);refine zcv (qdx T.length w5 hTl) ?_;rintro r v5 ⟨⟨C5,d5,rfl,_,hS⟩,he⟩;have hO:=hO.call he;(conv=>whnf);refine hO.bys hS (by simp only[zla,f4];omega) ?_;clear hO hS he;intro A6 c6 w6 hO;(conv=>whnf);have eH:fixL 1095914324 4++fixL 1 4++fixL a 4++fixL b 4++fixL V.length 4++fixL T.length 4=h24 a b V.length T.length:=by simp only[h24,Ak]
 rw[eH]at hO|-;have hHl:=qit a b V.length T.length;have eP:h24 a b V.length T.length++sumL (h24 a b V.length T.length)++V++sumL V++T++sumL T=qcy a b V T:=by simp only[qcy,Ak]
 obtain⟨H,eH2⟩:∃H,H=h24 a b V.length T.length:=⟨_,rfl⟩
 rw[<-eH2]at hO hHl eP|-;refine zcv (ql5 H A6 H.length c6 w6 hO.sl rfl Oo) ?_;rintro r v6 ⟨⟨C6,d6,rfl,_,hS⟩,he⟩;have hO:=hO.call he;(conv=>whnf);refine hO.bys (m:=sumL H) hS (by rw[s4];omega) ?_;clear hO hS he;intro A7 c7 w7 hO;have h7:(H++sumL H).length=28:=by rw[zla,s4];omega
 (conv=>whnf);refine hO.bys (hV.ext hO.ext) Oo ?_;clear hO;intro A8 c8 w8 hO;have h8:(H++sumL H++V).length=28+V.length:=by rw[zla,h7]
 (conv=>whnf);refine zcv (ql5 V A V.length c w8 (hV.ext hO.ext) rfl Oo) ?_;rintro r v8 ⟨⟨C8,d8,rfl,_,hS⟩,he⟩;have hO:=hO.call he;(conv=>whnf);refine hO.bys (m:=sumL V) hS (by rw[s4];omega) ?_;clear hO hS he;intro A9 c9 w9 hO;have h9:(H++sumL H++V++sumL V).length=32+V.length:=by rw[zla,h8,s4];omega
 (conv=>whnf);refine hO.bys (hT.ext hO.ext) Oo ?_;clear hO;intro A10 c10 w10 hO;have h10:(H++sumL H++V++sumL V++T).length=32+V.length+T.length:=by rw[zla,h9]
 (conv=>whnf);refine zcv (ql5 T B T.length d w10 (hT.ext hO.ext) rfl Oo) ?_;rintro r v10 ⟨⟨C10,d10,rfl,_,hS⟩,he⟩;have hO:=hO.call he;(conv=>whnf);refine hO.bys (m:=sumL T) hS (by rw[s4];omega) ?_;clear hO hS he;intro A11 c11 w11 hO;rw[eP]at hO|-;(conv=>whnf);exact hO.new
theorem q5j(T:List TM)(q:Q4)(h:noT T (gat q i)=0):fnA 4 (inF (idF T q i))=fnA 4 (inF (idF T q (i+1))):=by
 refine qky fun j hj=>?_;rw[inF,inF,idF,idF]
 congr 1
 by_cases e:j=i
 ·subst e;rw[Aa (Dz _),Ad (Dk _),h];rfl
 ·by_cases h:j<i
  ·rw[Ad h,Ad Oo]
  ·rw[Aa h,Aa Oo]
theorem q6o(T:List TM)(hr:RiseT T)(A:oA)(c:Nat)(q:Q4)(hq:∀k,k<4->gat q k∈T\/gat q k=zTM)(_:∀t∈T,1<=t.kind)(hl:T.length<=16777216)(w:Ez)(hS:SlAt encT 4 w A T):
  Gv EG 49 [.slice A T.length c,qk q] w fun r w'=>r=idsV (fun k=>noT T (gat q k))/\Ext w w':=by
 have t1:tsz EG 3=1:=by kernel_rfl
 have t4:tsz EG 24=4:=by kernel_rfl
 refine ze Tryz.func49 Tryz.ntmps49 ?_;refine znm (Mem.nil w) fun b3 w1 hm=>zw ?_;refine znm hm fun b4 w2 hm=>zw ?_;refine znm hm ?_;intro b5 w3 hm;have hc:CellsAt w3 b3 0 (qd q):=CellsAt.mem hm (zmg (i:=2) rfl);(conv=>whnf);refine LoadA.cells (qt hc 3 Oo) rfl (zw ?_);refine LoadA.cells (qt hc 0 Oo) rfl (zw ?_);refine LoadA.cells (qt hc 1 Oo) rfl (zw ?_);refine LoadA.cells (qt hc 2 Oo) rfl (zw ?_);refine znm hm fun b6 w4 hm=>zw ?_;refine StoreA.all (vs:=qd (gQ q)) hm (i:=0) rfl rfl (qn _) fun w5 hm=>zw ?_;refine qj (fun k:Nat=>[(0,.slice A T.length c),(4,pp b4),(5,pp b5),(6,pp b6),(7,ii k)])
  (fun k w'=>k<=4/\Mem w w' [(b6,.cells (qd (gQ q)).toArray 131),(b5,.cells (fnA 4 (inF (idF T q k))) 101),(b4,.cells #[ii 0,ii 0,ii 0,ii 0] 101),(b3,.cells (qd q).toArray 26)]) (fun k=>4-k) 0 fq ⟨by omega,hm⟩ ?_
 clear hm;rintro k w6 ρ' ⟨k1,hm⟩;(conv=>whnf);refine zC (fun _=>zw ?_) (fun _=>zw ?_)
 ·have hk4:k<4:=by omega
  have hc6:CellsAt w6 b6 (0+k*4) (encT (gat q k)):=by rw[<-qaex q hk4];exact qt (CellsAt.mem hm mh) k hk4
  obtain⟨t,et⟩:∃t,t=gat q k:=⟨_,rfl⟩
  have htq:=hq k hk4;rw[<-et]at hc6 htq;refine qj (fun x:Nat×Nat=>[(0,.slice A T.length c),(4,pp b4),(5,pp b5),(6,pp b6),(7,ii k),(8,ii x.1),(9,ii x.2)])
   (fun x w'=>x.1<=x.2/\x.2<=T.length/\(∀p,T[p]?=some t->x.1<=p/\p<=x.2)/\Ext w6 w') (fun x=>x.2-x.1) (0,T.length) fq ⟨Am _,Aq _,fun p hp=>⟨Am _,Nat.le_of_lt (Ae.1 hp).1⟩,Ext.refl w6⟩ ?_
  rintro⟨lo,hi⟩ w7 ρ2 ⟨x1,x2,x3,he7⟩;dsimp only at x1 x2 x3 he7|-;(conv=>whnf);refine zC (fun _=>zu ?_) (fun _=>zu ?_)
  ·obtain⟨m,em⟩:∃m,m=(lo+hi)/2:=⟨_,rfl⟩
   have em2:((lo:Int)+(hi:Int))/2=(m:Int):=by omega
   have hm1:m<T.length:=by omega
   rw[em2];obtain⟨tb,tof,rfl,hat⟩:=hS.at_ (by intro e;rw[e]at hm1;cases hm1);have hcell:=(hat m _ (zge hm1)).ext (hm.ext.trans he7.drew);have hc7:=hc6.ext he7.drew;obtain⟨u,eu⟩:∃u,u=T[m]:=⟨_,rfl⟩
   have hum:T[m]?=some u:=by rw[eu];exact zge hm1
   rw[<-eu]at hcell;refine DrawV.free rfl Jk (zw ?_);refine zd ?_;refine zd ?_;apply zsd
   ·intro wd hd;(conv=>whnf);refine⟨⟨tb,tof,m,rfl,rfl,hm1,?_⟩⟩;exact xq
   (conv=>whnf);apply zsd
   ·intro wd hd;(conv=>whnf);refine LoadA.cells (hcell.ext hd) rfl (zw ?_);exact xq
   (conv=>whnf);refine zd ?_;refine zd ?_;apply zsd
   ·intro wd hd;(conv=>whnf);refine LoadA.cells (vs:=encT t) (by rw[t4];exact hc7.ext hd) rfl (zw ?_);exact xq
   (conv=>whnf);apply zsd
   ·intro wd hd;(conv=>whnf);refine zcv (qbc u t wd) ?_;rintro v w8 ⟨rfl,he⟩;exact⟨he,rfl⟩
   (conv=>whnf);refine zd ?_;intro w8 he8;have he8:Ext w6 w8:=he7.drew.trans he8;(conv=>whnf);refine zC (fun _=>zu ?_) (fun _=>zu ?_)
   ·have hlt:LtT u t:=qci.1 Oo;exact⟨(m+1,hi),⟨rfl,rfl,rfl,rfl,rfl,Af (Value.int .i64) Oo,rfl,trivial⟩,⟨by show m+1<=hi;omega,x2,fun p hp=>⟨hr.lt hum hp hlt,(x3 p hp).2⟩,he8⟩,by show hi-(m+1)<hi-lo;omega⟩
   ·refine⟨(lo,m),fq,⟨by show lo<=m;omega,by show m<=T.length;omega,fun p hp=>⟨(x3 p hp).1,DT.1 fun g=>?_⟩,he8⟩,by show m-lo<hi-lo;omega⟩;have:=qci.2 (hr.at g hum hp);omega
  ·have e:lo=hi:=by omega
   subst e;have hm:=hm.call he7;have hc7:=hc6.ext he7;have t4b:0+k*tsz EG 24+0=0+k*4:=by rw[t4];rfl
   refine LoadV.of (by show w7.cell? ⟨b6,0+k*tsz EG 24+0,none⟩=some (ii t.kind);rw[t4b];exact hc7 0 _ rfl) (zw ?_)
   by_cases hk0:t.kind=0
   ·have hno:noT T (gat q k)=0:=by rw[<-et];exact qfz hk0
    refine zv ?_;rw[q5j T q hno]at hm;exact⟨k+1,⟨rfl,rfl,rfl,rfl,Af (Value.int .i64) Oo,trivial⟩,⟨by omega,hm⟩,by omega⟩
   ·have htm:t∈T:=htq.resolve_right fun e=>hk0 (by rw[e];rfl)
    obtain⟨p,hp⟩:=Bi.1 htm;have hpl:=x3 p hp;have ep:p=lo:=by omega
    subst ep;have hno:noT T (gat q k)=p+1:=by rw[<-et];exact qlc hr hp hk0
    refine zv ?_;have es:((p:Int)+1)=((noT T (gat q k):Nat):Int):=by rw[hno];rfl
    rw[es];show StoreV _ b5 (0+k*tsz EG 3) _ _;rw[t1,show 0+k*1=k by omega];refine StoreV.mem hm (i:=1) rfl (by rw[qz];omega) rfl ?_;clear hm;intro w8 hm;have hm:Mem w w8 [(b6,.cells (qd (gQ q)).toArray 131),(b5,.cells ((fnA 4 (inF (idF T q k))).setIfInBounds k (ii (noT T (gat q k):Nat))) 101),(b4,.cells #[ii 0,ii 0,ii 0,ii 0] 101),(b3,.cells (qd q).toArray 26)]:=hm;rw[q96 T q hk4]at hm;refine zu ?_;exact⟨k+1,⟨rfl,rfl,rfl,rfl,Af (Value.int .i64) Oo,trivial⟩,⟨by omega,hm⟩,by omega⟩
 ·obtain rfl:k=4:=by omega
  refine zl hm 1 ?_;refine zS hm 2 fun w8 hm=>zw ?_;refine qh (R:=fun v w'=>v=idsV (fun k=>noT T (gat q k))/\Ext w w') (zw ?_);refine zl hm 2 ?_;exact⟨rfl,hm.ext⟩
theorem qaca{n:Nat}(h:TOk Q n):(qr Q n).length<=4200000000:=by
 have h0:=q3n h 4;have h1:=h.lvLen (k:=0);have h2:=h.le 0;have h3:=h.wi (k:=0) Od;have h4:leT Q 0 n*wiT (nuT Q 0 n)<=1048576*23:=BT h2 h3;rw[Ad rfl]at h1;have b1:=qv6 h (k:=1) Od;have b2:=qv6 h (k:=2) Od;have b3:=qv6 h (k:=3) Od;rw[<-q3o];simp only[trX,zla];omega
theorem qtu(qs:List Q4)(A:oA)(n c:Nat)(most:Int)(w:Ez)(hS:SlAt qd 16 w A qs)(hn:qs.length=n)(hb:n<=140737488355328)(_:InR .i64 most)(hq:∀q∈qs,qa9 q):
  Gv EG 27 [.slice A n c,ii most] w fun r w'=>EncR qs most w w' r:=by
 subst hn;refine ze Tryz.func27 Tryz.ntmps27 ?_;refine zcv (qt2 qs A qs.length c w hS rfl hb hq) ?_;rintro r w1 (⟨e,h0,he,rfl,he1⟩|⟨hv,hvo,v,rfl,hN⟩)
 ·have hee:encE qs most=e:=by
   rw[he]
   by_cases c1:valE qs≠0
   ·rw[Ad c1,q5a c1]
   ·rw[Aa c1];rw[Aa c1]at he;exact q5b Oo (by rw[<-he];exact h0)
  have h1:¬((e:Nat):Int)=0:=by omega
  refine zu ?_;exact .inl ⟨by rw[hee];exact h0,by rw[hee],he1⟩
 have hlq:=(qdh hv).1;have hnt:=quc hv;have hset:=qw1 hv hnt;have eT2:tmsN (trms qs).length (trms qs)=tmsQ qs:=rfl;obtain⟨T,eT⟩:∃T,T=tmsQ qs:=⟨_,rfl⟩
 have hterm:∀t∈T,qaj t=0/\1<=t.kind/\t.kind<=3:=fun t ht=>qfq hv (by rw[<-eT];exact ht)
 have hrise:RiseT T:=by rw[eT];exact qsd qs
 rw[<-eT]at hvo hN hnt hset eT2;have hvl:(vocB T).length<=210000030:=by
  have hd:=qnl hvo;have h1:=qut (T:=T) (i:=3) Oo hd;have h2:=quu (T:=T) (i:=3) Oo hd;rw[<-qack,zla];omega
 obtain⟨Av,cv,ev,hcv,hVS⟩:=hN.bs;subst ev;refine zu ?_;refine zcv (qjv qs A c w1 (hS.ext hN.ext) Oo) ?_;rintro r w2 ⟨⟨B,d,rfl,hd,hTS⟩,he2⟩;rw[eT2]at hd hTS|-;have hVS:=hVS.ext he2;(conv=>whnf);refine qj (fun x:Nat×oA×Nat=>[(0,.slice A qs.length c),(1,ii most),(6,.slice Av (vocB T).length cv),(8,.slice B T.length d),(9,.slice x.2.1 x.1 x.2.2),(10,ii x.1)])
  (fun x w'=>x.1<=qs.length/\Rw w2 w' (.slice x.2.1 x.1 x.2.2) 101 4 x.1 (qv3 T qs x.1) []) (fun x=>qs.length-x.1) (0,none,0) fq ⟨Am _,Rw.nil (Mem.nil w2)⟩ ?_
 rintro⟨i,D,e⟩ w3 ρ' ⟨i1,hR⟩;dsimp only at i1 hR|-;have he3:=hN.ext.trans (he2.trans hR.mem.ext);(conv=>whnf);refine zC (fun _=>zw ?_) (fun _=>zw ?_)
 ·have hil:i<qs.length:=by omega
  have hqi:qs[i]?=some qs[i]:=zge hil;have hqm:=AT hil;obtain⟨q,eq⟩:∃q,q=qs[i]:=⟨_,rfl⟩
  rw[<-eq]at hqi hqm;have hgt:∀k,k<4->gat q k∈T\/gat q k=zTM:=fun k hk=>(hset.mem q hqm k hk).imp id fun g=>g.2.2
  refine ElemV.sl (hS.ext he3) rfl i rfl Oo ?_;intro eb eo hcell;rw[<-eq]at hcell;(conv=>whnf);refine LoadA.cells hcell rfl (zw ?_);refine zcv (q6o T hrise B d q hgt (fun t ht=>(hterm t ht).2.1) Oo w3 (hTS.ext hR.mem.ext)) ?_;rintro r w4 ⟨rfl,he4⟩;have hR:=hR.call he4;(conv=>whnf);refine NewV.rw hR fun nb3 w9 hR=>zw ?_;refine AppV.rw (m:=1) (news:=idsE fun k=>noT T (gat q k)) qaey idsI idsZ Jk Jk Od hR rfl (fun _=>⟨nb3,0,rfl,fun k v hv=>?_⟩) (q5l _) (by rw[show((EG.info? 101).get Jk).bytes=32 from by kernel_rfl];omega) Oo ?_
  ·rw[qa (hR.mem.get mh),Aw];rw[<-hv];simp[idsE]
  clear hR;intro B2 d2 w10 hR;rw[<-qs3 T qs hqi]at hR;refine zu ?_;exact⟨(i+1,B2,d2),⟨rfl,rfl,rfl,rfl,rfl,Af (Value.int .i64) Oo,trivial⟩,⟨by show i+1<=qs.length;omega,hR.tail⟩,by show qs.length-(i+1)<qs.length-i;omega⟩
 ·obtain rfl:i=qs.length:=by omega
  have hidS:SlAt idsE 4 w3 D ((List.range qs.length).map (noQ T qs)):=qaa4 q5k hR.own Js;have htok:TOk (noQ T qs) qs.length:=hset.tok;have htl:=qaca htok;refine zcv (qty (noQ T qs) D qs.length e w3 hidS htok) ?_;rintro r w4 ⟨v2,rfl,hN4⟩;obtain⟨At,ct,et,hct,hTR⟩:=hN4.bs;subst et;have hVS4:=hVS.ext (hR.mem.ext.trans hN4.ext);refine zu ?_;refine zcv (q23 qs.length T.length (vocB T) (qr (noQ T qs) qs.length) Av At cv ct w4 Oo Oo hVS4 hTR Oo Oo) ?_;rintro r w5 hN5;have epk:qcy qs.length T.length (vocB T) (qr (noQ T qs) qs.length)=pkB qs:=by rw[eT];rfl
  rw[epk]at hN5;obtain⟨A9,c9,ev9,_⟩:=id hN5.h;subst ev9;have hN5:=hN5.back (he3.trans hN4.ext);have hok:=q9t (qs:=qs) (most:=most) hv (by rw[<-eT];exact hvo);have hbig:=q48 (qs:=qs) (most:=most) hv (by rw[<-eT];exact hvo);conv=>whnf
  (repeat'(first|refine zp ?_|refine zC (fun _=>zw ?_) (fun _=>zw ?_)))
  ·have e1:=hbig Oo;exact .inl ⟨by rw[e1];decide,by rw[e1];rfl,hN5.ext⟩
  ·have e1:=hbig Oo;exact .inl ⟨by rw[e1];decide,by rw[e1];rfl,hN5.ext⟩
  ·exact .inr ⟨hok Oo,_,rfl,hN5⟩
structure Turn(l l':LB)(f B:Nat):Prop where
 len:l'.length=l.length
 bit:∀t,t<8*l.length->bitN l' t=(bitN l t+(if f<=t/\t<f+32 then B/2 ^ (t-f)%2 else 0))%2
section
variable {l l':LB} {f B:Nat} (h:Turn l l' f B)
include h
end
theorem EncOk.packE{T:List TM}{qs:List Q4}(h:EncOk T qs):(packE (encP T qs)).2=0:=by
 have hp:=h.poE;obtain⟨h1,_,_,_,h5,_⟩:=q6e (l:=encP T qs) (by rw[hp]);rw[Go.Proofs.YtacnkdagblbgfaaGreatDoor.packE,Aa (fun g=>g h1),h.v,Aa (fun g=>g h.voc.wE),Aa (fun g=>g (qw2 h5).1)]
section
variable {qs:List Q4} {most:Int} (h:encE qs most=0)
include h
theorem qad0:EncOk (tmsQ qs) qs:=q49 (quc (qg8 h).1) h
end
def AllB(Pz:E8->Prop)(w:Ez)(v:E8):Prop:=∀g cur t fz,v.ownBlock=some g->w.heap[g]?=some (.cells cur t fz)->∀u∈cur.toList,Pz u
theorem qhl{z:EH}(hz:0<z.size)(h:u∈(Builtin.zeroCells z k).toList):u∈z.toList:=by
 unfold Builtin.zeroCells at h;rw[Array.toList_map,AY]at h;obtain⟨i,_,rfl⟩:=h;have hm:=CV i hz;rw[getElem!_pos z _ hm];exact Cg.2 (CL hm)
theorem qmj(w:Ez)(t ty e:E6)(i:TypeInfo)(z:E8)(ht:P.underlying t=some (.slice e))(hi:P.info? e=some i)(hz:i.zero=some z)(hzs:z.cells.size=i.size)(hsz:0<i.size)(v:E8)(n:Nat)(xs:EE)(hown:w.ownsRow 0 e i.size v n xs)(a:Addr)(m c:Nat)(hm0:0<m)(news:EE)(hl:news.length=m*i.size)(hnews:∀j u,news[j]?=some u->w.cell? (a.add j)=some u)(h1:∀u∈news,u.oneCell'=true)(h63:n+m<=maxLen)(hbytes:(n+m)*i.bytes<=140737488355328){Pz:E8->Prop}(hPz:∀u∈z.cells.toList,Pz u)(hPn:∀u∈news,Pz u)(hPo:AllB Pz w v):
  ∃v' w',(Builtin.append_ #[t,t] ty #[v,.slice (some a) m c]).run P w=.ok v' w'/\w'.ownsRow 0 e i.size v' (n+m) (xs++news)/\w.grownBy w' v.ownBlock/\(v'.ownBlock=v.ownBlock\/v'.ownBlock=some w.heap.size)/\AllB Pz w' v':=by
 obtain⟨v',w',hrun,h2,h3,_,h5⟩:=run_append_own_at (P:=P) w 0 t ty e i z i.size i.bytes ht hi hz rfl rfl hzs hsz v n xs hown a m c news hl hnews h1 h63 hbytes (Am _);refine⟨v',w',hrun,h2,h3,h5,?_⟩;have hsmall:n+m<=9223372036854775807:=by simp only[maxLen]at h63;omega
 rcases hown.2 with⟨rfl,rfl⟩|⟨g,cap,cur,rfl,_,hg,hnc,hcm,hcs,htake⟩
 ·have hr:=run_append_nil (P:=P) w t ty e i z ht hi hz a m c news hl hnews hm0 Oo (by have hb:=hbytes;simp only[Aw]at hb;omega);rw[hr]at hrun
  injection hrun with e1 e2
  subst e1 e2;intro g cur t fz hg hc u hu;cases hg;have hc:(w.drew.alloc _).heap[w.drew.heap.size]?=_:=hc;rw[heap_alloc_new w.drew]at hc
  injection hc with hc
  injection hc with hc _ _
  subst hc;rw[DO]at hu
  rcases Ba.1 hu with hu|hu
  ·exact hPn u (by simpa using hu)
  ·exact hPz u (qhl Oo hu)
 ·by_cases hroom:n+m<=cap
  ·have hfit:n*i.size+news.length<=cur.size:=by rw[hl,hcs,<-Eh];exact BI _ hroom
   have hr:=run_append_room (P:=P) w t ty e i ht hi g n cap cur hg a m c news hl hnews h1 hroom hfit;rw[hr]at hrun
   injection hrun with e1 e2
   subst e1 e2;intro g' cur' t fz hg' hc u hu;cases hg';rw[setRow_heap w g cur _ e _ hg]at hc
   injection hc with hc
   injection hc with hc _ _
   subst hc;have hold:=hPo g cur e (0,0) rfl hg;simp only[Ba]at hu
   rcases hu with(hu|hu)|hu
   ·exact hold u (CX hu)
   ·exact hPn u hu
   ·exact hold u (Eg hu)
  ·have holds:∀j u,xs[j]?=some u->w.cell? ((⟨g,0,none⟩:Addr).add j)=some u:=hown.cells (g:=g) rfl;have hr:=run_append_grow (P:=P) w t ty e i z ht hi hz ⟨g,0,none⟩ n cap xs hown.1 holds a m c news hl hnews Oo Oo (growslice_fits Oo hbytes);rw[hr]at hrun
   injection hrun with e1 e2
   subst e1 e2;intro g' cur' t fz hg' hc u hu;cases hg';have hc:(w.drew.alloc _).heap[w.drew.heap.size]?=_:=hc;rw[heap_alloc_new w.drew]at hc
   injection hc with hc
   injection hc with hc _ _
   subst hc;rw[DO,DO]at hu
   rcases Ba.1 hu with hu|hu
   ·rcases Ba.1 hu with hu|hu
    ·rw[<-htake]at hu;exact hPo g cur e (0,0) rfl hg u (CX (by simpa using hu))
    ·exact hPn u (by simpa using hu)
   ·exact hPz u (qhl Oo hu)
def PartX(w:Ez)(e:PartE):Prop:=match e.x with
 | none=>True
 | some (x,xp,vb,tb)=>IdxE w x xp vb tb (encP (tmsQ e.qs) e.qs)/\w.heap[x]?=some (.cells #[.pointer (some ⟨xp,0,none⟩)] 109)
theorem PartX.at_{e:PartE}(h:PartX w e):PartAt w e:=by
 obtain⟨x,qs⟩:=e;cases x with
 | none=>trivial
 | some x=>exact h.1
theorem PartX.ext{e:PartE}(h:PartX w e)(he:Ext w w'):PartX w' e:=by
 obtain⟨x,qs⟩:=e;cases x with
 | none=>trivial
 | some x=>exact⟨IdxE.ext h.1 he,he.get h.2⟩
theorem PartX.alien{e:PartE}(h:PartX w e)(ha:q8x w g)(hg:∀cs fz,w.heap[g]?≠some (.cells cs 109 fz))(hw:∀c,c≠g->w'.heap[c]?=w.heap[c]?):PartX w' e:=by
 obtain⟨x,qs⟩:=e;cases x with
 | none=>trivial
 | some x=>
  obtain⟨x,xp,vb,tb⟩:=x;obtain⟨⟨h1,h2,h3,h4⟩,h5⟩:=h;have hx:x≠g:=fun e=>by subst e;exact hg _ _ h5
  have hb:xp≠g:=fun e=>by subst e;exact(ha.2 _ _ _ h2).2.2.2 rfl
  have h5':w'.heap[x]?=some (.cells #[pp xp] 109):=by rw[hw x hx];exact h5
  exact⟨⟨by rw[qa h5'];rfl,by rw[hw xp hb];exact h2,h3.alien ha hw,h4.alien ha hw⟩,h5'⟩
def qx3(v:E8):Prop:=∀k c,v≠.int k c
theorem AppV.ixs{v:E8}{n:Nat}{es:List PartE}(hown:w.ownsRow 0 41 1 v n xs)(hA:AllB qx3 w v)(hP:∀e∈es,PartX w e)(hn:n<=1048576)(hb:w.cell? ⟨nb,0,none⟩=some u)(hu:qx3 u)(hu1:u.oneCell'=true)(hk:∀A' c' w',w'.ownsRow 0 41 1 (.slice A' (n+1) c') (n+1) (xs++[u])->AllB qx3 w' (.slice A' (n+1) c')->(∀e∈es,PartX w' e)->Chn (rowF v) w w'->(∀k∈rowF (.slice A' (n+1) c'),k∈rowF v\/w.heap.size<=k)->K (.slice A' (n+1) c') w'):
  AppV EG #[28,28] 28 v (.slice (some ⟨nb,0,none⟩) 1 1) w K:=by
 have hby:((EG.info? 41).get Jk).bytes=8:=by kernel_rfl
 have hsz:((EG.info? 41).get Jk).size=1:=by kernel_rfl
 have hzc:((((EG.info? 41).get Jk).zero).get Jk).cells=#[.pointer none]:=by kernel_rfl
 have hown':w.ownsRow 0 41 ((EG.info? 41).get Jk).size v n xs:=by rw[hsz];exact hown
 obtain⟨v',w',hrun,h2,h3,h4,h5⟩:=qmj (P:=EG) w 28 28 41 _ _ ixSl ixI ixZ (by rw[hzc,hsz];rfl) (by rw[hsz];decide) v n xs hown' ⟨nb,0,none⟩ 1 1 Od [u] (by rw[hsz];rfl) (fun j x hj=>by
  cases j with
  | zero=>
   simp at hj;subst hj;exact hb
  | succ j=>simp at hj) (fun x hx=>by rw[Ah.1 hx];exact hu1) (by simp only[maxLen];omega) (by rw[hby];omega) (Pz:=qx3) (fun x hx=>by
   rw[hzc]at hx;rw[Ah.1 hx];intro k c e;cases e) (fun x hx=>by rw[Ah.1 hx];exact hu) hA
 rw[hsz]at h2;obtain⟨A',c',rfl⟩:=qa6 h2;refine⟨_,w',hrun,hk A' c' w' h2 h5 (fun e he=>?_) (Chn.grown h3) (fun k hk=>?_)⟩
 ·have hp:=hP e he
  rcases hown.2 with⟨rfl,_⟩|⟨g,cap,cur,rfl,_,hg,_⟩
  ·exact hp.ext ⟨h3.os,h3.tape,h3.output,h3.size,fun k hk=>h3.block k hk (fun e=>by cases e)⟩
  ·have hlt:=qiu hg;have hs:=h3.size;have ho':w'.heap[g]?=some w'.heap[g]:=Aj Oo;have hal:q8x w g:=by
    refine⟨fun off k c e=>?_,fun cs t fz e=>?_⟩
    ·rw[qa hg]at e;exact hA g cur _ _ rfl hg _ (by rw[<-Cj]at e;exact zmg e) k c rfl
    ·rw[hg]at e
     injection e with e
     injection e with _ e _
     subst e;exact⟨by decide,by decide,by decide,by decide⟩
   have h6:PartX (setO w g w'.heap[g]) e:=hp.alien hal (fun cs fz e=>by
    rw[hg]at e
    injection e with e
    injection e with _ e _
    exact absurd e Od) (fun c hc=>qd3 hc)
   refine h6.ext ⟨h3.os,h3.tape,h3.output,by simpa[setO]using h3.size,fun k hk=>?_⟩;have hk':k<w.heap.size:=by simpa[setO]using hk
   by_cases e:k=g
   ·subst e;rw[qlx hg,ho']
   ·rw[qd3 e];exact h3.block k hk' (fun e'=>e (by simpa[Value.ownBlock]using e'))
 ·rcases h4 with h4|h4
  ·left;rw[rowF,<-h4];exact hk
  ·right
   rw[rowF,h4]at hk;rw[Ah.1 hk];exact Aq _
theorem qy5(qs:List Q4)(h:EncOk (tmsQ qs) qs)(A:oA)(n c:Nat)(w:Ez)(hS:SlAt encB 1 w A (pkB qs))(hn:n=(pkB qs).length)(hc:(pkB qs).length<=c)(hl:(pkB qs).length<=140737488355328)(hT:CellsAt w 1 0 qjy)(hG:ErrTyp w):
  Gv EG 28 [.slice A n c] w fun v w'=>∃x xp vb tb,v=.tuple #[pp x,.nilIface]/\PartX w' ⟨some (x,xp,vb,tb),qs⟩/\Ext w w':=by
 subst hn;have hpk:(packE (pkB qs)).2=0:=h.packE;refine ze Tryz.func28 Tryz.ntmps28 ?_;refine zcv (q2m (pkB qs) A c w hS hc hl hT hG) ?_;rintro v w1 ⟨⟨h0,_⟩|⟨h0,b,rfl,vb,tb,hb1,hb2,hb3⟩,he1⟩
 ·exact absurd hpk h0
 ·refine zu ?_;refine znm (Mem.nil w1) fun x w2 hm=>zw ?_;have hx:=hm.get mh;exact⟨x,b,vb,tb,rfl,⟨⟨by rw[qa hx];rfl,hm.ext.get hb1,hb2.ext hm.ext,hb3.ext hm.ext⟩,hx⟩,he1.trans hm.ext⟩
def q81(e:PartE):Prop:=(e.qs=[]\/valE e.qs=0)/\qji e
def qaer(ds:List DsE)(w w':Ez)(r:E8):Prop:=
 (r=.tuple #[.slice none 0 0,.bool false,.bool true]/\Ext w w')\/(∃(es:List PartE) (A:oA) (c:Nat),r=.tuple #[.slice A es.length c,.bool true,.bool true]/\es.map (·.qs)=ds.map (·.qs)/\(∀e∈es,q81 e)/\(∀e∈es,PartX w' e)/\
  w'.ownsRow 0 41 1 (.slice A es.length c) es.length (es.map ptE)/\Ext w w')
theorem AllB.ext{Pz:E8->Prop}{v:E8}{n:Nat}(h:AllB Pz w v)(ho:w.ownsRow 0 e 1 v n xs)(he:Ext w w'):AllB Pz w' v:=by
 intro g cur t fz hg hc
 rcases ho.2 with⟨rfl,_⟩|⟨g',cap,cur',rfl,_,hg',_⟩
 ·cases hg
 ·cases hg;rw[he.get hg']at hc
  injection hc with hc
  injection hc with hc _ _
  subst hc;exact h _ _ _ _ rfl hg'
structure OpI(ds:List DsE)(w w':Ez)(i:Nat)(es:List PartE)(v:E8):Prop where
 le:i<=ds.length
 qs:es.map (·.qs)=(ds.take i).map (·.qs)
 ok:∀e∈es,q81 e
 x:∀e∈es,PartX w' e
 own:w'.ownsRow 0 41 1 v es.length (es.map ptE)
 no:AllB qx3 w' v
 lo:∀k∈rowF v,w.heap.size<=k
 ext:Ext w w'
theorem OpI.call{ds:List DsE}{w2:Ez}{es:List PartE}{v:E8}(h:OpI ds w w' i es v)(he:Ext w' w2):OpI ds w w2 i es v:=
 ⟨h.le,h.qs,h.ok,fun e g=>(h.x e g).ext he,qa0 h.own he,h.no.ext h.own he,h.lo,h.ext.trans he⟩
theorem qyb(ds:List DsE)(A:oA)(n c:Nat)(w:Ez)(hS:SlAt encD 1 w A ds)(hn:ds.length=n)(hb:n<=60)(hD:∀d∈ds,SlAt qd 16 w d.A d.qs)(hl:∀d∈ds,d.qs.length<=140737488355328)(hq:∀d∈ds,∀q∈d.qs,qa9 q)(hT:CellsAt w 1 0 qjy)(hG:ErrTyp w):
  Gv EG 7 [.slice A n c] w fun r w'=>qaer ds w w' r:=by
 subst hn;have t1:tsz EG 46=1:=by kernel_rfl
 refine ze Tryz.func7 Tryz.ntmps7 ?_;refine qj (fun s:Nat×List PartE×E8=>[(0,.slice A ds.length c),(5,s.2.2),(6,ii s.1)])
  (fun s w'=>OpI ds w w' s.1 s.2.1 s.2.2) (fun s=>ds.length-s.1) (0,[],.slice none 0 0)
  fq ⟨Am _,by rw[Bz];rfl,(fun e he=>by cases he),(fun e he=>by cases he),⟨rfl,.inl ⟨rfl,rfl⟩⟩,(fun g cur t fz hg=>by cases hg),(fun k hk=>by cases hk),xr⟩ ?_
 rintro⟨i,es,v⟩ w1 ρ' hI;dsimp only at hI|-;have hi:=hI.le;have hes:=hI.qs;have he:=hI.ext;obtain⟨Av,cv,ev⟩:=qa6 hI.own;subst ev;have hesl:es.length=i:=by
  have:=Af List.length hes;rw[AC,AC,AG]at this;omega
 (conv=>whnf);refine zC (fun _=>zw ?_) (fun _=>zw ?_)
 case' refine_2=>
  obtain rfl:i=ds.length:=by omega
  rw[Bg]at hes;exact .inr ⟨es,Av,cv,rfl,hes,hI.ok,hI.x,hI.own,he⟩
 have hlt:i<ds.length:=by omega
 obtain⟨g,off,rfl,hat⟩:=hS.at_ (by intro e;rw[e]at hlt;simp at hlt);obtain⟨d,ed⟩:∃d,ds[i]?=some d:=⟨_,zge hlt⟩
 have hdm:=zmg ed;have hdl:=hl d hdm;have hcd:CellsAt w g (off+i*1) (encD d):=hat i d ed;have htk:(ds.take (i+1)).map (·.qs)=es.map (·.qs)++[d.qs]:=by rw[BJ,ed,AB,hes];rfl
 refine⟨⟨g,off,i,rfl,by omega,by omega,?_⟩⟩;rw[t1];(conv=>whnf);refine LoadV.cell0 (CellsAt.ext hcd he) (zw ?_);refine zcv (qtu d.qs d.A d.qs.length d.c 67108864 w1 ((hD d hdm).ext he) rfl hdl ⟨by decide,by decide⟩ (hq d hdm)) ?_;rintro r w2 (⟨h0,rfl,he2⟩|⟨h0,va,rfl,hN⟩)
 ·have h1:¬((encE d.qs 67108864:Nat):Int)=0:=by omega
  refine zu ?_;exact .inl ⟨rfl,he.trans he2⟩
 obtain⟨Ab,cb,eb,hcb,hBS⟩:=hN.bs;subst eb;have hlen:=(qg8 h0).2.2.2;have hxe:=he.trans hN.ext;replace hI:=hI.call hN.ext;have hent:=qad0 h0;have hval:=(qg8 h0).1;have hstep:∀(e:PartE) (u:E8) (nb:Nat) (w3:Ez),e.qs=d.qs->q81 e->PartX w3 e->u=ptE e->OpI ds w w3 i es (.slice Av es.length cv)->w3.heap[nb]?=some (.cells #[u] 41)->
   AppV EG #[28,28] 28 (.slice Av es.length cv) (.slice (some ⟨nb,0,none⟩) 1 1) w3 fun v' w4=>∃A' c',v'=.slice A' (es.length+1) c'/\OpI ds w w4 (i+1) (es++[e]) v':=by
  rintro e u nb w3 heq hle hxe rfl hI hb;have hnu:qx3 (ptE e):=by
   unfold ptE
   split
   ·intro k c g;cases g
   ·intro k c g;cases g
  have h1u:(ptE e).oneCell'=true:=by
   unfold ptE
   split<;>rfl
  refine AppV.ixs (es:=e::es) hI.own hI.no (fun e' g=>(AD.1 g).elim (fun g=>by subst g;exact hxe) (hI.x e')) Oo (by rw[qa hb];rfl) hnu h1u ?_;intro A' c' w4 ho hno hx hch hF;refine⟨A',c',rfl,by omega,by rw[htk,AB,<-heq];rfl,?_,?_,?_,hno,?_,hch.ext hI.ext hI.lo⟩
  ·intro e' g
   rcases Ba.1 g with g|g
   ·exact hI.ok e' g
   ·rw[Ah.1 g];exact hle
  ·intro e' g
   rcases Ba.1 g with g|g
   ·exact hx e' (zmc g)
   ·rw[Ah.1 g];exact hx e mh
  ·rw[zla,AB];exact ho
  ·intro k g
   rcases hF k g with g|g
   ·exact hI.lo k g
   ·have:=hI.ext.size;omega
 refine zu ?_;refine⟨⟨g,off,i,rfl,by omega,by omega,?_⟩⟩;rw[t1];(conv=>whnf);refine LoadV.cell0 (CellsAt.ext hcd (he.trans hN.ext)) (zw ?_)
 (repeat'(first|refine zp ?_|refine zC (fun _=>zw ?_) (fun _=>zw ?_)))
 case' refine_1=>
  have hq0:d.qs=[]:=AW Oo;refine znm (Mem.nil w2) fun nb w3 hm=>zw ?_;obtain⟨v',w4,hrun,A',c',rfl,hI4⟩:=hstep ⟨none,d.qs⟩ _ nb w3 rfl ⟨.inl hq0,hq0⟩ trivial rfl (hI.call hm.ext) (hm.get mh);refine⟨_,w4,hrun,?_⟩;refine zu ?_;exact⟨(i+1,es++[⟨none,d.qs⟩],.slice A' (es.length+1) c'),fq,hI4,by dsimp only;omega⟩
 all_goals
  refine zcv (qy5 d.qs hent Ab _ cb w2 hBS rfl hcb Oo (CellsAt.ext hT hxe) (hG.ext hxe)) ?_;rintro r w3 ⟨x,xp,vb,tb,rfl,hX,he3⟩;replace hI:=hI.call he3;refine zu ?_;refine znm (Mem.nil w3) fun nb w4 hm=>zw ?_;obtain⟨v',w5,hrun,A',c',rfl,hI5⟩:=hstep ⟨some (x,xp,vb,tb),d.qs⟩ _ nb w4 rfl ⟨.inr hval,hent⟩ (hX.ext hm.ext) rfl (hI.call hm.ext) (hm.get mh);refine⟨_,w5,hrun,?_⟩;refine zu ?_;exact⟨(i+1,es++[⟨some (x,xp,vb,tb),d.qs⟩],.slice A' (es.length+1) c'),fq,hI5,by dsimp only;omega⟩
theorem qkg{α:Type}(c:α->α->Int)(out:List α)(x:α):(qbu c out x).length<=out.length+1:=by
 unfold qbu
 split
 ·split<;>simp
 ·simp
theorem qk8{α:Type}(c:α->α->Int):∀(f:Nat) (a b out:List α),(mrgC c f a b out).length<=a.length+b.length+out.length
 | 0,a,b,out=>by rw[mrgC];omega
 | f+1,[],[],out=>by rw[mrgC];simp
 | f+1,x::a,[],out=>by
  rw[mrgC];have:=qk8 c f a [] (qbu c out x);have:=qkg c out x;simp only[As]at *;omega
 | f+1,[],y::b,out=>by
  rw[mrgC];have:=qk8 c f [] b (qbu c out y);have:=qkg c out y;simp only[As]at *;omega
 | f+1,x::a,y::b,out=>by
  rw[mrgC]
  split
  ·have:=qk8 c f a (y::b) (qbu c out x);have:=qkg c out x;simp only[As]at *;omega
  ·have:=qk8 c f (x::a) b (qbu c out y);have:=qkg c out y;simp only[As]at *;omega
theorem qje{α:Type}(c:α->α->Int):∀(f:Nat) (l:List α),(srtC c f l).length<=l.length
 | 0,l=>Aq _
 | f+1,l=>by
  rw[srtC]
  split
  ·exact Aq _
  ·have h1:=qje c f (l.take (l.length/2));have h2:=qje c f (l.drop (l.length/2));refine AU (qk8 c _ _ _ _) ?_;rw[AG]at h1;rw[zld]at h2;simp only[BP];omega
theorem qaar{x y:Q4}{a b out:List Q4}(h:cmpQ x y<=0):mrgC cmpQ ((x::a).length+(y::b).length) (x::a) (y::b) out=mrgC cmpQ (a.length+(y::b).length) a (y::b) (qbu cmpQ out x):=by
 rw[show(x::a).length+(y::b).length=(a.length+(y::b).length)+1 by simp;omega,mrgC,Ad h]
theorem qaaq{x y:Q4}{a b out:List Q4}(h:¬cmpQ x y<=0):mrgC cmpQ ((x::a).length+(y::b).length) (x::a) (y::b) out=mrgC cmpQ ((x::a).length+b.length) (x::a) b (qbu cmpQ out y):=by
 rw[show(x::a).length+(y::b).length=((x::a).length+b.length)+1 by simp;omega,mrgC,Aa h]
def QdR(l:List Q4)(v:E8)(w:Ez):Prop:=∃B d,v=.slice B l.length d/\l.length<=d/\SlAt qd 16 w B l
theorem QdR.ext{l:List Q4}(v:E8)(w w':Ez)(h:QdR l v w)(he:Ext w w'):QdR l v w':=by
 obtain⟨B,d,h1,h2,h3⟩:=h;exact⟨B,d,h1,h2,h3.ext he⟩
theorem V.SlAt.popQ{x:Q4}{a l:List Q4}(h:SlAt qd 16 w A l)(e:l=x::a)(hc:l.length<=c):
  (∃g o,A=some ⟨g,o,none⟩/\CellsAt w g (o+0*16) (qd x))/\SlAt qd 16 w (if c=1 then A else A.map (·.add (1*16))) a:=by
 subst e;obtain⟨g,o,h1,h2⟩:=h.at_ Js;refine⟨⟨g,o,h1,h2 0 x rfl⟩,?_⟩;have:=h.cut (lo:=1) (hi:=(x::a).length) (m:=c) Js znr hc rfl;have e:((x::a).drop 1).take ((x::a).length-1)=a:=by show a.take a.length=a;exact Bg
 rwa[e]at this
structure MgQ where
 a:List Q4
 A:oA
 ca:Nat
 b:List Q4
 B:oA
 cb:Nat
 out:List Q4
 O:oA
 co:Nat
theorem qrf(ta tb:List Q4)(A1 B1:oA)(a1 b1:Nat)(w:Ez)(ha2:SlAt qd 16 w A1 ta)(ha1:ta.length<=a1)(hb2:SlAt qd 16 w B1 tb)(hb1:tb.length<=b1)(hl:ta.length+tb.length<=16777216):
  Gv EG 54 [.slice A1 ta.length a1,.slice B1 tb.length b1] w fun v w'=>QdR (mrgC cmpQ (ta.length+tb.length) ta tb []) v w'/\Ext w w':=by
 refine ze Tryz.func54 Tryz.ntmps54 ?_;refine qj (fun x:MgQ=>[(0,.slice x.A x.a.length x.ca),(1,.slice x.B x.b.length x.cb),(5,.slice x.O x.out.length x.co)])
  (fun x w'=>SlAt qd 16 w x.A x.a/\x.a.length<=x.ca/\SlAt qd 16 w x.B x.b/\x.b.length<=x.cb/\Rw w w' (.slice x.O x.out.length x.co) 26 16 x.out.length (x.out.map qd).flatten []/\mrgC cmpQ (x.a.length+x.b.length) x.a x.b x.out=mrgC cmpQ (ta.length+tb.length) ta tb []/\x.a.length+x.b.length+x.out.length<=16777216)
  (fun x=>x.a.length+x.b.length) ⟨ta,A1,a1,tb,B1,b1,[],none,0⟩ fq ⟨ha2,ha1,hb2,hb1,Rw.nil (Mem.nil w),rfl,by simp only[BP];omega⟩ ?_
 obtain⟨res,hres⟩:∃res,res=mrgC cmpQ (ta.length+tb.length) ta tb []:=⟨_,rfl⟩
 rw[<-hres];clear ha2 ha1 hb2 hb1;rintro⟨a,A,ca,b,B,cb,out,O,co⟩ w5 ρ' ⟨hSa,hca,hSb,hcb,hR,hmr,hle⟩;dsimp only at hSa hca hSb hcb hR hmr hle|-;obtain⟨na,ha⟩|⟨x,a',ea⟩:(a.length=0/\a=[])\/∃x a',a=x::a':=by
  rcases a with _|⟨x,a'⟩
  ·exact .inl ⟨rfl,rfl⟩
  ·exact .inr ⟨x,a',rfl⟩
 case' inl=>
  obtain⟨nb,hb⟩|⟨y,b',eb⟩:(b.length=0/\b=[])\/∃y b',b=y::b':=by
   rcases b with _|⟨y,b'⟩
   ·exact .inl ⟨rfl,rfl⟩
   ·exact .inr ⟨y,b',rfl⟩
  case inl=>
   refine zu ?_;rw[ha,hb]at hmr;obtain⟨h3,h4⟩:=qb5 qa7 hR.own rfl;exact⟨⟨O,co,by rw[<-hmr];rfl,by rw[<-hmr];exact h4,by rw[<-hmr];exact h3⟩,hR.mem.ext⟩
  have nb:b.length=b'.length+1:=by rw[eb];rfl
  obtain⟨⟨gb,ob,eB,hxb⟩,hSb'⟩:=hSb.popQ eb hcb;subst eB;refine zu ?_;refine NewV.rw hR fun tp w6 hR=>zw ?_;refine DrawV.free Jk Jk (zw ?_);(iterate 18 (refine zd ?_));intro w7 he7;have hR:=hR.drew.call he7;refine zu ?_;refine⟨⟨gb,ob,0,rfl,by omega,by omega,?_⟩⟩;(conv=>whnf);refine LoadA.cells (CellsAt.ext hxb hR.mem.ext) rfl (zw ?_);refine StoreA.rwAll hR rfl (qn y) fun w8 hR=>zw ?_;refine SliceV.to 1 b.length cb rfl rfl rfl Oo Oo znr (fun h=>by cases h) ?_;rw[show tsz EG 26=16 from by kernel_rfl];(conv=>whnf);have hmr:mrgC cmpQ (a.length+b'.length) a b' (qbu cmpQ out y)=res:=by
   rw[<-hmr];subst ha eb;rw[show([]:List Q4).length+(y::b').length=(([]:List Q4).length+b'.length)+1 by simp];rfl
  obtain⟨q0,eq0⟩:∃q0,q0=y:=⟨_,rfl⟩
  rw[<-eq0]at hR hmr;have hSa1:SlAt qd 16 w A a:=hSa;have hSb1:SlAt qd 16 w (if cb=1 then(some ⟨gb,ob,none⟩:oA)else(some ⟨gb,ob,none⟩:oA).map (·.add (1*16))) b':=hSb';have hca1:a.length<=ca:=by omega
  have hcb1:b'.length<=cb-1:=by omega
  rw[show b.length-1=b'.length by omega];obtain⟨c1,ec1⟩:∃c1,c1=ca:=⟨_,rfl⟩
  obtain⟨d1,ed1⟩:∃d1,d1=cb-1:=⟨_,rfl⟩
  rw[<-ec1]at hca1|-;rw[<-ed1]at hcb1|-;obtain⟨A1,eA1⟩:∃A1,A1=A:=⟨_,rfl⟩
  obtain⟨B1,eB1⟩:∃B1,B1=(if cb=1 then(some ⟨gb,ob,none⟩:oA)else(some ⟨gb,ob,none⟩:oA).map (·.add (1*16))):=⟨_,rfl⟩
  rw[<-eA1]at hSa1|-;rw[<-eB1]at hSb1|-;have hle1:a.length+b'.length+out.length+1<=16777216:=by omega
  have hlt1:a.length+b'.length<a.length+b.length:=by omega
  obtain⟨a1,ea1⟩:∃a1,a1=a:=⟨_,rfl⟩
  obtain⟨b1,eb1⟩:∃b1,b1=b':=⟨_,rfl⟩
  rw[<-ea1]at hSa1 hca1 hmr hle1 hlt1|-;rw[<-eb1]at hSb1 hcb1 hmr hle1 hlt1|-;clear eq0 ec1 ed1 eA1 eB1 ea1 eb1
 case' inr=>
  have na:a.length=a'.length+1:=by rw[ea];rfl
  obtain⟨⟨ga,oa,eA,hxa⟩,hSa'⟩:=hSa.popQ ea hca;subst eA;obtain⟨nb,hb⟩|⟨y,b',eb⟩:(b.length=0/\b=[])\/∃y b',b=y::b':=by
   rcases b with _|⟨y,b'⟩
   ·exact .inl ⟨rfl,rfl⟩
   ·exact .inr ⟨y,b',rfl⟩
  case' inl=>
   refine zu ?_;refine NewV.rw hR fun tp w6 hR=>zw ?_;refine DrawV.free Jk Jk (zw ?_);(iterate 18 (refine zd ?_));intro w7 he7;have hR:=hR.drew.call he7;refine zu ?_;refine⟨⟨ga,oa,0,rfl,by omega,by omega,?_⟩⟩;(conv=>whnf);refine LoadA.cells (CellsAt.ext hxa hR.mem.ext) rfl (zw ?_);refine StoreA.rwAll hR rfl (qn x) fun w8 hR=>zw ?_;refine SliceV.to 1 a.length ca rfl rfl rfl Oo Oo znr (fun h=>by cases h) ?_;rw[show tsz EG 26=16 from by kernel_rfl];(conv=>whnf);have hmr:mrgC cmpQ (a'.length+b.length) a' b (qbu cmpQ out x)=res:=by
    rw[<-hmr];subst hb ea;rw[show(x::a').length+([]:List Q4).length=(a'.length+([]:List Q4).length)+1 by simp];rfl
   obtain⟨q0,eq0⟩:∃q0,q0=x:=⟨_,rfl⟩
   rw[<-eq0]at hR hmr;have hSa1:SlAt qd 16 w (if ca=1 then(some ⟨ga,oa,none⟩:oA)else(some ⟨ga,oa,none⟩:oA).map (·.add (1*16))) a':=hSa';have hSb1:SlAt qd 16 w B b:=hSb;have hca1:a'.length<=ca-1:=by omega
   have hcb1:b.length<=cb:=by omega
   rw[show a.length-1=a'.length by omega];obtain⟨c1,ec1⟩:∃c1,c1=ca-1:=⟨_,rfl⟩
   obtain⟨d1,ed1⟩:∃d1,d1=cb:=⟨_,rfl⟩
   rw[<-ec1]at hca1|-;rw[<-ed1]at hcb1|-;obtain⟨A1,eA1⟩:∃A1,A1=(if ca=1 then(some ⟨ga,oa,none⟩:oA)else(some ⟨ga,oa,none⟩:oA).map (·.add (1*16))):=⟨_,rfl⟩
   obtain⟨B1,eB1⟩:∃B1,B1=B:=⟨_,rfl⟩
   rw[<-eA1]at hSa1|-;rw[<-eB1]at hSb1|-;have hle1:a'.length+b.length+out.length+1<=16777216:=by omega
   have hlt1:a'.length+b.length<a.length+b.length:=by omega
   obtain⟨a1,ea1⟩:∃a1,a1=a':=⟨_,rfl⟩
   obtain⟨b1,eb1⟩:∃b1,b1=b:=⟨_,rfl⟩
   rw[<-ea1]at hSa1 hca1 hmr hle1 hlt1|-;rw[<-eb1]at hSb1 hcb1 hmr hle1 hlt1|-;clear eq0 ec1 ed1 eA1 eB1 ea1 eb1
  case' inr=>
   have nb:b.length=b'.length+1:=by rw[eb];rfl
   obtain⟨⟨gb,ob,eB,hxb⟩,hSb'⟩:=hSb.popQ eb hcb;subst eB
   by_cases hxy:cmpQ x y<=0
   case' pos=>
    refine zu ?_;refine NewV.rw hR fun tp w6 hR=>zw ?_;refine DrawV.free Jk Jk (zw ?_);(iterate 9 (refine zd ?_));refine zf ?_ (by intro wd hd;refine zu ?_;refine⟨⟨ga,oa,0,rfl,by omega,by omega,?_⟩⟩;exact xq);apply zsd (qk x)
    ·intro wd hd;refine zu ?_;refine LoadA.cells (CellsAt.ext hxa ((hR.mem.ext.trans (Ext.refl w6).drew).trans hd)) rfl (zw ?_);exact xq
    (conv=>whnf);refine zd ?_;refine zf ?_ (by intro wd hd;refine zu ?_;refine⟨⟨gb,ob,0,rfl,by omega,by omega,?_⟩⟩;exact xq);apply zsd (qk y)
    ·intro wd hd;refine zu ?_;refine LoadA.cells (CellsAt.ext hxb ((hR.mem.ext.trans (Ext.refl w6).drew).trans hd)) rfl (zw ?_);exact xq
    (conv=>whnf);apply zsd (ii (cmpQ x y))
    ·intro wd hd;refine zu ?_;refine zcv (qb0 x y wd) ?_;rintro v w7 ⟨rfl,h7⟩;exact⟨h7,rfl⟩
    (conv=>whnf);(iterate 3 (refine zd ?_));intro w7 he7;have hR:=hR.drew.call he7;refine zu ?_;refine⟨⟨ga,oa,0,rfl,by omega,by omega,?_⟩⟩;(conv=>whnf);refine LoadA.cells (CellsAt.ext hxa hR.mem.ext) rfl (zw ?_);refine StoreA.rwAll hR rfl (qn x) fun w8 hR=>zw ?_;refine SliceV.to 1 a.length ca rfl rfl rfl Oo Oo znr (fun h=>by cases h) ?_;rw[show tsz EG 26=16 from by kernel_rfl];(conv=>whnf);have hmr:mrgC cmpQ (a'.length+b.length) a' b (qbu cmpQ out x)=res:=by
     rw[<-hmr];subst ea eb;exact(qaar hxy).symm
    obtain⟨q0,eq0⟩:∃q0,q0=x:=⟨_,rfl⟩
    rw[<-eq0]at hR hmr;have hSa1:SlAt qd 16 w (if ca=1 then(some ⟨ga,oa,none⟩:oA)else(some ⟨ga,oa,none⟩:oA).map (·.add (1*16))) a':=hSa';have hSb1:SlAt qd 16 w (some ⟨gb,ob,none⟩:oA) b:=hSb;have hca1:a'.length<=ca-1:=by omega
    have hcb1:b.length<=cb:=by omega
    rw[show a.length-1=a'.length by omega];obtain⟨c1,ec1⟩:∃c1,c1=ca-1:=⟨_,rfl⟩
    obtain⟨d1,ed1⟩:∃d1,d1=cb:=⟨_,rfl⟩
    rw[<-ec1]at hca1|-;rw[<-ed1]at hcb1|-;obtain⟨A1,eA1⟩:∃A1,A1=(if ca=1 then(some ⟨ga,oa,none⟩:oA)else(some ⟨ga,oa,none⟩:oA).map (·.add (1*16))):=⟨_,rfl⟩
    obtain⟨B1,eB1⟩:∃B1,B1=(some ⟨gb,ob,none⟩:oA):=⟨_,rfl⟩
    rw[<-eA1]at hSa1|-;rw[<-eB1]at hSb1|-;have hle1:a'.length+b.length+out.length+1<=16777216:=by omega
    have hlt1:a'.length+b.length<a.length+b.length:=by omega
    obtain⟨a1,ea1⟩:∃a1,a1=a':=⟨_,rfl⟩
    obtain⟨b1,eb1⟩:∃b1,b1=b:=⟨_,rfl⟩
    rw[<-ea1]at hSa1 hca1 hmr hle1 hlt1|-;rw[<-eb1]at hSb1 hcb1 hmr hle1 hlt1|-;clear eq0 ec1 ed1 eA1 eB1 ea1 eb1
   case' neg=>
    refine zu ?_;refine NewV.rw hR fun tp w6 hR=>zw ?_;refine DrawV.free Jk Jk (zw ?_);(iterate 9 (refine zd ?_));refine zf ?_ (by intro wd hd;refine zu ?_;refine⟨⟨ga,oa,0,rfl,by omega,by omega,?_⟩⟩;exact xq);apply zsd (qk x)
    ·intro wd hd;refine zu ?_;refine LoadA.cells (CellsAt.ext hxa ((hR.mem.ext.trans (Ext.refl w6).drew).trans hd)) rfl (zw ?_);exact xq
    (conv=>whnf);refine zd ?_;refine zf ?_ (by intro wd hd;refine zu ?_;refine⟨⟨gb,ob,0,rfl,by omega,by omega,?_⟩⟩;exact xq);apply zsd (qk y)
    ·intro wd hd;refine zu ?_;refine LoadA.cells (CellsAt.ext hxb ((hR.mem.ext.trans (Ext.refl w6).drew).trans hd)) rfl (zw ?_);exact xq
    (conv=>whnf);apply zsd (ii (cmpQ x y))
    ·intro wd hd;refine zu ?_;refine zcv (qb0 x y wd) ?_;rintro v w7 ⟨rfl,h7⟩;exact⟨h7,rfl⟩
    (conv=>whnf);(iterate 3 (refine zd ?_));intro w7 he7;have hR:=hR.drew.call he7;refine zu ?_;refine⟨⟨gb,ob,0,rfl,by omega,by omega,?_⟩⟩;(conv=>whnf);refine LoadA.cells (CellsAt.ext hxb hR.mem.ext) rfl (zw ?_);refine StoreA.rwAll hR rfl (qn y) fun w8 hR=>zw ?_;refine SliceV.to 1 b.length cb rfl rfl rfl Oo Oo znr (fun h=>by cases h) ?_;rw[show tsz EG 26=16 from by kernel_rfl];(conv=>whnf);have hmr:mrgC cmpQ (a.length+b'.length) a b' (qbu cmpQ out y)=res:=by
     rw[<-hmr];subst ea eb;exact(qaaq hxy).symm
    obtain⟨q0,eq0⟩:∃q0,q0=y:=⟨_,rfl⟩
    rw[<-eq0]at hR hmr;have hSa1:SlAt qd 16 w (some ⟨ga,oa,none⟩:oA) a:=hSa;have hSb1:SlAt qd 16 w (if cb=1 then(some ⟨gb,ob,none⟩:oA)else(some ⟨gb,ob,none⟩:oA).map (·.add (1*16))) b':=hSb';have hca1:a.length<=ca:=by omega
    have hcb1:b'.length<=cb-1:=by omega
    rw[show b.length-1=b'.length by omega];obtain⟨c1,ec1⟩:∃c1,c1=ca:=⟨_,rfl⟩
    obtain⟨d1,ed1⟩:∃d1,d1=cb-1:=⟨_,rfl⟩
    rw[<-ec1]at hca1|-;rw[<-ed1]at hcb1|-;obtain⟨A1,eA1⟩:∃A1,A1=(some ⟨ga,oa,none⟩:oA):=⟨_,rfl⟩
    obtain⟨B1,eB1⟩:∃B1,B1=(if cb=1 then(some ⟨gb,ob,none⟩:oA)else(some ⟨gb,ob,none⟩:oA).map (·.add (1*16))):=⟨_,rfl⟩
    rw[<-eA1]at hSa1|-;rw[<-eB1]at hSb1|-;have hle1:a.length+b'.length+out.length+1<=16777216:=by omega
    have hlt1:a.length+b'.length<a.length+b.length:=by omega
    obtain⟨a1,ea1⟩:∃a1,a1=a:=⟨_,rfl⟩
    obtain⟨b1,eb1⟩:∃b1,b1=b':=⟨_,rfl⟩
    rw[<-ea1]at hSa1 hca1 hmr hle1 hlt1|-;rw[<-eb1]at hSb1 hcb1 hmr hle1 hlt1|-;clear eq0 ec1 ed1 eA1 eB1 ea1 eb1
 all_goals
  rcases hout:out.getLast? with _|z
  ·have hon:out=[]:=Cq.1 hout;have ho0:out.length=0:=by rw[hon];rfl
   have hpu:qbu cmpQ out q0=out++[q0]:=by rw[qbu,hout,hon];rfl
   refine DrawV.free Jk Jk (zw ?_);(iterate 14 (refine zd ?_));intro w9 he9;have hR:=hR.drew.call he9;refine zu ?_;refine zl hR.mem 0 ?_;refine NewV.rw hR fun nb' w17 hR=>zw ?_;refine AppV.rw (m:=1) (news:=qd q0) qdSl qdI qdZ Jk Jk Od hR rfl (fun _=>⟨nb',0,rfl,fun k v hv=>?_⟩) (qn q0) (by rw[show((EG.info? 26).get Jk).bytes=224 from by kernel_rfl];omega) Oo ?_
   ·rw[qa (hR.mem.get mh),Aw];rw[Ar];exact hv
   clear hR;intro B2 c2 w18 hR;have hR:Rw w w18 (.slice B2 (out++[q0]).length c2) 26 16 (out++[q0]).length ((out++[q0]).map qd).flatten []:=by
    have e:((out++[q0]).map qd).flatten=(out.map qd).flatten++qd q0:=by simp
    rw[e,zla];exact hR.tail.tail
   (conv=>whnf);rw[hpu]at hmr;refine⟨⟨a1,A1,c1,b1,B1,d1,out++[q0],B2,c2⟩,⟨rfl,rfl,?_,trivial⟩,⟨hSa1,hca1,hSb1,hcb1,hR,hmr,?_⟩,hlt1⟩
   ·first|rfl|(show Value.slice _ (out.length+1) _=Value.slice _ (out++[_]).length _;rw[zla];rfl)
   ·simp only[zla,AZ];omega
  ·obtain⟨ho1,ho2⟩:=qb5 qa7 hR.own rfl;have hon:out≠[]:=by intro e;rw[e]at hout;cases hout
   have hop:0<out.length:=Cc.2 hon;have hz:out[out.length-1]?=some z:=by rw[<-hout,CS]
   obtain⟨go,oo,eO,hco⟩:=ho1.at_ hon;subst eO;have hcz:=hco (out.length-1) z hz;refine DrawV.free Jk Jk (zw ?_);(iterate 8 (refine zd ?_));refine zf ?_ (by intro wd hd;refine zu ?_;refine⟨⟨go,oo,(out.length-1),rfl,by omega,by omega,?_⟩⟩;exact xq);apply zsd (qk z)
   ·intro wd hd;refine zu ?_;refine LoadA.cells (CellsAt.ext hcz ((Ext.refl w8).drew.trans hd)) rfl (zw ?_);exact xq
   (conv=>whnf);apply zsd (qk q0)
   ·intro wd hd;refine zu ?_;refine LoadA.mem (Mem.call (Mem.drew hR.mem) hd) (i:=0) rfl rfl (zw ?_);exact xq
   (conv=>whnf);apply zsd (ii (cmpQ z q0))
   ·intro wd hd;refine zu ?_;refine zcv (qb0 z q0 wd) ?_;rintro v w7 ⟨rfl,h7⟩;exact⟨h7,rfl⟩
   (conv=>whnf);refine zd ?_;refine zd ?_;intro w9 he9;have hR:=hR.drew.call he9;conv=>whnf
   by_cases hzq:cmpQ z q0<0
   ·have hpu:qbu cmpQ out q0=out++[q0]:=by rw[qbu,hout];simp only[hzq,if_true]
    refine zv ?_;refine zl hR.mem 0 ?_;refine NewV.rw hR fun nb' w17 hR=>zw ?_;refine AppV.rw (m:=1) (news:=qd q0) qdSl qdI qdZ Jk Jk Od hR rfl (fun _=>⟨nb',0,rfl,fun k v hv=>?_⟩) (qn q0) (by rw[show((EG.info? 26).get Jk).bytes=224 from by kernel_rfl];omega) Oo ?_
    ·rw[qa (hR.mem.get mh),Aw];rw[Ar];exact hv
    clear hR;intro B2 c2 w18 hR;have hR:Rw w w18 (.slice B2 (out++[q0]).length c2) 26 16 (out++[q0]).length ((out++[q0]).map qd).flatten []:=by
     have e:((out++[q0]).map qd).flatten=(out.map qd).flatten++qd q0:=by simp
     rw[e,zla];exact hR.tail.tail
    (conv=>whnf);rw[hpu]at hmr;refine⟨⟨a1,A1,c1,b1,B1,d1,out++[q0],B2,c2⟩,⟨rfl,rfl,?_,trivial⟩,⟨hSa1,hca1,hSb1,hcb1,hR,hmr,?_⟩,hlt1⟩
    ·first|rfl|(show Value.slice _ (out.length+1) _=Value.slice _ (out++[_]).length _;rw[zla];rfl)
    ·simp only[zla,AZ];omega
   ·have hpu:qbu cmpQ out q0=out:=by rw[qbu,hout];simp only[hzq,if_false]
    refine zv ?_;rw[hpu]at hmr;exact⟨⟨a1,A1,c1,b1,B1,d1,out,some ⟨go,oo,none⟩,co⟩,fq,⟨hSa1,hca1,hSb1,hcb1,hR.tail,hmr,by dsimp only;omega⟩,hlt1⟩
theorem qju(l:List Q4)(A:oA)(c:Nat)(w:Ez)(h2:l.length<2)(hS:SlAt qd 16 w A l):
  Gv EG 34 [.slice A l.length c] w fun v w'=>QdR l v w'/\Ext w w':=by
 refine ze Tryz.func34 Tryz.ntmps34 ?_;refine zv ?_;refine⟨fun nb w1 hb hw=>?_⟩;have he1:Ext w w1:=by rw[hw];exact xr.alloc _
 have hg:w1.heap[nb]?=some (.cells #[] 26):=by rw[hw,hb];exact heap_alloc_new w _
 have hR:Rw w w1 (.slice (some ⟨nb,0,none⟩) 0 0) 26 16 0 [] []:=⟨(Mem.nil w).call he1,⟨rfl,.inr ⟨nb,0,#[],rfl,by omega,hg,Aq _,Am _,rfl,rfl⟩⟩,fun x hx=>by simp at hx⟩
 (conv=>whnf);refine AppV.rw (m:=l.length) (news:=(l.map qd).flatten) qdSl qdI qdZ Jk Jk Od hR (qef qd 16 qa7 l) (fun hne=>?_) ?_ (by rw[show((EG.info? 26).get Jk).bytes=224 from by kernel_rfl];omega) Oo ?_
 ·obtain⟨b,off,h3,h4⟩:=hS.at_ (by intro e;subst e;exact hne rfl);exact⟨b,off,h3,(qea Od qa7 h4).ext he1⟩
 ·intro u hu;obtain⟨x,hx,hux⟩:=DL.1 hu;obtain⟨t,_,rfl⟩:=AY.1 hx;exact qn t u hux
 intro B d w2 hR2;(conv=>whnf);have e:0+l.length=l.length:=Aw _;rw[e]at hR2|-;obtain⟨h3,h4⟩:=qb5 qa7 hR2.own rfl;exact⟨⟨B,d,rfl,h4,h3⟩,hR2.mem.ext⟩
theorem qy6:∀(n:Nat) (l:List Q4) (A:oA) (c:Nat) (w:Ez),l.length<=n->SlAt qd 16 w A l->l.length<=c->l.length<=16777216->
  Gv EG 34 [.slice A l.length c] w fun v w'=>QdR (srtC cmpQ n l) v w'/\Ext w w':=by
 intro n
 induction n with
 | zero=>
  intro l A c w hn hS hc hl;exact qju l A c w Oo hS
 | succ n ih=>
  intro l A c w hn hS hc hl
  by_cases h2:l.length<2
  ·rw[srtC,Ad h2];exact qju l A c w h2 hS
  have et:srtC cmpQ (n+1) l=mrgC cmpQ ((srtC cmpQ n (l.take (l.length/2))).length+(srtC cmpQ n (l.drop (l.length/2))).length) (srtC cmpQ n (l.take (l.length/2))) (srtC cmpQ n (l.drop (l.length/2))) []:=by rw[srtC,Aa h2]
  rw[et];have hla:(l.take (l.length/2)).length=l.length/2:=by rw[AG];omega
  have hlb:(l.drop (l.length/2)).length=l.length-l.length/2:=zld ..;have hSa:=hS.cut (lo:=0) (hi:=l.length/2) (m:=c) Oo Oo Oo rfl;have hSb:=hS.cut (lo:=l.length/2) (hi:=l.length) (m:=c) Oo Oo Oo rfl;rw[BA,D7]at hSa;rw[AF (by rw[hlb];exact Aq _)]at hSb;have iha:=fun w' h=>ih (l.take (l.length/2)) (if c=0 then A else A.map (·.add (0*16))) c w' Oo h Oo Oo
  have ihb:=fun w' h=>ih (l.drop (l.length/2)) (if c=l.length/2 then A else A.map (·.add (l.length/2*16))) (c-l.length/2) w' Oo h Oo Oo
  rw[hla]at iha;rw[hlb]at ihb;have tla:=qje cmpQ n (l.take (l.length/2));have tlb:=qje cmpQ n (l.drop (l.length/2));obtain⟨ta,eta⟩:∃ta,ta=srtC cmpQ n (l.take (l.length/2)):=⟨_,rfl⟩
  obtain⟨tb,etb⟩:∃tb,tb=srtC cmpQ n (l.drop (l.length/2)):=⟨_,rfl⟩
  rw[<-eta]at iha tla|-;rw[<-etb]at ihb tlb|-;rw[hla]at tla;rw[hlb]at tlb;clear et eta etb ih;refine ze Tryz.func34 Tryz.ntmps34 ?_;refine zv ?_;refine DrawV.free Jk Jk (zw ?_);(iterate 4 (refine zd ?_));refine zsd (.slice (if c=0 then A else A.map (·.add (0*16))) (l.length/2) c) (fun wd hd=>zw ?_) (zw ?_)
  ·refine SliceV.to 0 (l.length/2) c rfl rfl rfl Oo Oo znr (fun h=>by cases h) ?_;rw[show tsz EG 26=16 from by kernel_rfl];exact xq
  apply StepD.of (QdR ta) QdR.ext
  ·intro wd hd;(conv=>whnf);refine zcv (iha wd (hSa.ext ((Ext.refl w).drew.trans hd))) ?_;rintro v w5 ⟨h1,h2⟩;exact⟨h2,h1⟩
  (conv=>whnf);(iterate 4 (refine zd ?_));refine zsd (.slice (if c=l.length/2 then A else A.map (·.add (l.length/2*16))) (l.length-l.length/2) (c-l.length/2)) (fun wd hd=>zw ?_) (zw ?_)
  ·refine SliceV.to (l.length/2) l.length c rfl rfl rfl Oo Oo znr (fun h=>by cases h) ?_;rw[show tsz EG 26=16 from by kernel_rfl];exact xq
  apply StepD.of (QdR tb) QdR.ext
  ·intro wd hd;conv=>whnf
   repeat(intro _ _;(conv=>whnf))
   refine zcv (ihb wd (hSb.ext ((Ext.refl w).drew.trans hd))) ?_;rintro v w5 ⟨h1,h2⟩;exact⟨h2,h1⟩
  (conv=>whnf);apply StepD.of (QdR (mrgC cmpQ (ta.length+tb.length) ta tb [])) QdR.ext
  ·intro wd hd;conv=>whnf
   repeat(rintro _ ⟨_,_,rfl,_,_⟩;(conv=>whnf))
   refine zcv (qrf ta tb _ _ _ _ wd Oa Oa Oa Oa Oo) ?_;rintro v w5 ⟨h1,h2⟩;exact⟨h2,h1⟩
  (conv=>whnf);apply StepD.of (QdR (mrgC cmpQ (ta.length+tb.length) ta tb [])) QdR.ext
  ·intro wd hd;conv=>whnf
   (repeat(rintro _ ⟨_,_,rfl,_,_⟩;(conv=>whnf)))
   exact⟨xr,_,_,rfl,by assumption,by assumption⟩
  (conv=>whnf);intro w4 he;conv=>whnf
  (repeat(rintro _ ⟨_,_,rfl,_,_⟩;(conv=>whnf)))
  exact⟨⟨_,_,rfl,by assumption,by assumption⟩,(Ext.refl w).drew.trans he⟩
theorem qvw{p t:TM}(h:p.kind=4):fitT p t=true:=by rw[fitT,h];rfl
theorem qvx{p t:TM}(h:qat p t=true):fitT p t=true:=by rw[fitT,h,Ew]
theorem qoj{p q:Q4}(i:Nat)(hi:i<4)(h4:¬(p.at i).kind=4)(hst:qat (p.at i) (q.at i)=false):fitQ p q=false:=Bx.2 fun g=>by
 have:=(qoi p q).1 g i hi;rw[fitT,hst,AH h4]at this;cases this
theorem qxp(p q:Q4)(w:Ez):Gv EG 35 [qk p,qk q] w fun r w'=>r=.bool (fitQ p q)/\Ext w w':=by
 refine ze Tryz.func35 Tryz.ntmps35 ?_;refine znm (Mem.nil w) fun pb w1 hm=>zw ?_;refine znm hm ?_;clear hm;intro qb w2 hm;have hcp:∀i,i<4->CellsAt w2 pb (4*i) (encT (p.at i)):=fun i hi k v hv=>by
  rw[qa (hm.get (zmc (Ah.2 rfl))),Ar];exact qhs p hi hv
 have hcq:∀i,i<4->CellsAt w2 qb (4*i) (encT (q.at i)):=fun i hi k v hv=>by
  rw[qa (hm.get mh),Ar];exact qhs q hi hv
 have hkd:∀i,i<4->w2.cell? ⟨pb,4*i+0,none⟩=some (ii (p.at i).kind):=fun i hi=>hcp i hi 0 _ rfl
 have he:=hm.ext;clear hm;(conv=>whnf);refine LoadV.of (hkd 0 Od) (zw ?_)
 rcases D8 ((p.at 0).kind=4)with h0|h0
 case' inl=>
  have hf0:=qvw (t:=q.at 0) h0;refine zv ?_
 case' inr=>
  refine zv ?_;refine LoadA.cells (vs:=encT (p.at 0)) (hcp 0 Od) rfl (zu ?_);refine LoadA.cells (vs:=encT (q.at 0)) (hcq 0 Od) rfl (zu ?_);refine RunV.eqTerm (a:=p.at 0) (b:=q.at 0) (.inl rfl) ?_;cases hst:qat (p.at 0) (q.at 0)
  case false=>
   refine zu ?_;exact⟨(Af Value.bool (qoj 0 Od h0 hst)).symm,he⟩
  have hf0:=qvx hst;refine zu ?_
 all_goals
  refine LoadV.of (hkd 1 Od) (zw ?_)
  rcases D8 ((p.at 1).kind=4)with h1|h1
  case' inl=>
   have hf1:=qvw (t:=q.at 1) h1;refine zv ?_
  case' inr=>
   refine zv ?_;refine LoadA.cells (vs:=encT (p.at 1)) (hcp 1 Od) rfl (zu ?_);refine LoadA.cells (vs:=encT (q.at 1)) (hcq 1 Od) rfl (zu ?_);refine RunV.eqTerm (a:=p.at 1) (b:=q.at 1) (.inl rfl) ?_;cases hst:qat (p.at 1) (q.at 1)
   case false=>
    refine zu ?_;exact⟨(Af Value.bool (qoj 1 Od h1 hst)).symm,he⟩
   have hf1:=qvx hst;refine zu ?_
 all_goals
  refine LoadV.of (hkd 2 Od) (zw ?_)
  rcases D8 ((p.at 2).kind=4)with h2|h2
  case' inl=>
   have hf2:=qvw (t:=q.at 2) h2;refine zv ?_
  case' inr=>
   refine zv ?_;refine LoadA.cells (vs:=encT (p.at 2)) (hcp 2 Od) rfl (zu ?_);refine LoadA.cells (vs:=encT (q.at 2)) (hcq 2 Od) rfl (zu ?_);refine RunV.eqTerm (a:=p.at 2) (b:=q.at 2) (.inl rfl) ?_;cases hst:qat (p.at 2) (q.at 2)
   case false=>
    refine zu ?_;exact⟨(Af Value.bool (qoj 2 Od h2 hst)).symm,he⟩
   have hf2:=qvx hst;refine zu ?_
 all_goals
  refine LoadV.of (hkd 3 Od) (zw ?_)
  rcases D8 ((p.at 3).kind=4)with h3|h3
  case' inl=>
   have hf3:=qvw (t:=q.at 3) h3;refine zv ?_
  case' inr=>
   refine zv ?_;refine LoadA.cells (vs:=encT (p.at 3)) (hcp 3 Od) rfl (zu ?_);refine LoadA.cells (vs:=encT (q.at 3)) (hcq 3 Od) rfl (zu ?_);refine RunV.eqTerm (a:=p.at 3) (b:=q.at 3) (.inl rfl) ?_;cases hst:qat (p.at 3) (q.at 3)
   case false=>
    refine zu ?_;exact⟨(Af Value.bool (qoj 3 Od h3 hst)).symm,he⟩
   have hf3:=qvx hst;refine zu ?_
 all_goals
  refine⟨Af Value.bool ((qoi p q).2 fun j hj=>?_).symm,he⟩
  match j,hj with
  | 0,_=>exact hf0
  | 1,_=>exact hf1
  | 2,_=>exact hf2
  | 3,_=>exact hf3
theorem q87{q:Q4}{L:List Q4}{x:Q4}(hi:L[i]?=some x)(h:cmpQ x q<0):aheC q (L.drop i)=aheC q (L.drop (i+1))+1:=by
 obtain⟨g1,g2⟩:=Ae.1 hi;rw[Bu g1,g2,aheC,Ad h]
theorem q86{q:Q4}{L:List Q4}{x:Q4}(hi:L[i]?=some x)(h:¬cmpQ x q<0):aheC q (L.drop i)=0:=by
 obtain⟨g1,g2⟩:=Ae.1 hi;rw[Bu g1,g2,aheC,Aa h]
theorem qxo(L:List Q4)(q:Q4)(A:oA)(n c:Nat)(w:Ez)(hS:SlAt qd 16 w A L)(hn:L.length=n)(hb:n<=140737488355328):
  Gv EG 36 [.slice A n c,qk q] w fun r w'=>(∃b,r=.tuple #[ii (aheC q L),.bool b]/\(b=true↔L[aheC q L]?=some q))/\Ext w w':=by
 subst hn;have t16:tsz EG 26=16:=by kernel_rfl
 refine ze Tryz.func36 Tryz.ntmps36 ?_;refine znm (Mem.nil w) fun qb w1 hm=>zw ?_;refine qj (fun i:Nat=>[(0,.slice A L.length c),(3,pp qb),(6,ii i)])
  (fun i w'=>i<=L.length/\aheC q L=aheC q (L.drop i)+i/\Mem w w' [(qb,.cells (qd q).toArray 26)]) (fun i=>L.length-i) 0 fq ⟨Am _,rfl,hm⟩ ?_
 clear hm;rintro i w2 ρ' ⟨hi,ha,hm⟩;(conv=>whnf);have hgq:∀wd,Ext w2 wd->wd.heap[qb]?=some (.cells (qd q).toArray 26):=fun wd he=>he.get (hm.get mh)
 have hx:∀wd,Ext w2.drew wd->Ext w wd:=fun wd hd=>hm.ext.trans ((Ext.refl w2).drew.trans hd)
 refine DrawV.free Jk Jk (zw ?_);(iterate 5 (refine zd ?_))
 by_cases hlt:i<L.length
 case neg=>
  obtain rfl:i=L.length:=by omega
  have hd:(decide ((L.length:Int)<(L.length:Int)))=false:=by simp
  rw[hd];(iterate 8 (refine zd ?_));intro w3 he3;refine zu ?_;refine DrawV.free Jk Jk (zw ?_);(iterate 15 (refine zd ?_));intro w4 he4;(conv=>whnf);rw[List.drop_length]at ha;have ha:aheC q L=L.length:=by rw[ha];exact Aw _
  refine⟨⟨false,by rw[ha],⟨(fun h=>by cases h),fun h=>?_⟩⟩,hm.ext.trans (((Ext.refl w2).drew.trans he3).trans ((Ext.refl w3).drew.trans he4))⟩;rw[ha,Au znr]at h;cases h
 obtain⟨g,off,rfl,hat⟩:=hS.at_ (by intro e;rw[e]at hlt;simp at hlt);obtain⟨x,hxi⟩:∃x,L[i]?=some x:=⟨_,zge hlt⟩
 have hcx:=hat i x hxi;have hd:(decide ((i:Int)<(L.length:Int)))=true:=Az Oo;rw[hd];refine zd ?_;refine zd ?_;apply zsd (.pointer (some ⟨g,off+i*16,none⟩))
 ·intro wd hd;refine zu ?_;refine⟨⟨g,off,i,rfl,by omega,by omega,?_⟩⟩;rw[t16];(conv=>whnf);exact xq
 (conv=>whnf);apply zsd (qk x)
 ·intro wd hd;refine zu ?_;refine LoadA.cells (CellsAt.ext hcx (hx wd hd)) rfl (zw ?_);exact xq
 (conv=>whnf);apply zsd (qk q)
 ·intro wd hd;refine zu ?_;refine LoadA.own (hgq wd ((Ext.refl w2).drew.trans hd)) rfl (zw ?_);exact xq
 (conv=>whnf);apply zsd (ii (cmpQ x q))
 ·intro wd hd;refine zu ?_;refine zcv (qb0 x q wd) ?_;rintro r wx ⟨rfl,hex⟩;exact⟨hex,rfl⟩
 (conv=>whnf);refine zd ?_;refine zd ?_;intro w3 he3;have hxe:Ext w w3:=hm.ext.trans ((Ext.refl w2).drew.trans he3);replace hm:=(hm.drew).call he3
 by_cases hc:cmpQ x q<0
 ·refine zu ?_;exact⟨i+1,⟨rfl,rfl,Af (Value.int .i64) Oo,trivial⟩,⟨by omega,by rw[ha,q87 hxi hc];omega,hm⟩,by omega⟩
 rw[q86 hxi hc,Aw]at ha;rw[ha,hxi];refine zu ?_;refine DrawV.free Jk Jk (zw ?_);(iterate 6 (refine zd ?_));rw[hd];refine zd ?_;refine zd ?_;apply zsd (.pointer (some ⟨g,off+i*16,none⟩))
 ·intro wd hd;refine zu ?_;refine⟨⟨g,off,i,rfl,by omega,by omega,?_⟩⟩;rw[t16];(conv=>whnf);exact xq
 (conv=>whnf);apply zsd (qk x)
 ·intro wd hd;refine zu ?_;refine LoadA.cells (CellsAt.ext hcx (hxe.trans ((Ext.refl w3).drew.trans hd))) rfl (zw ?_);exact xq
 (conv=>whnf);apply zsd (qk q)
 ·intro wd hd;refine zu ?_;refine LoadA.own (((Ext.refl w3).drew.trans hd).get (hm.get mh)) rfl (zw ?_);exact xq
 (conv=>whnf);apply zsd (.bool (qc0 x q))
 ·intro wd hd;refine zu ?_;refine RunV.eqQd (a:=x) (b:=q) (zw ?_);exact xq
 (conv=>whnf);(iterate 3 (refine zd ?_));intro w4 he4;(conv=>whnf);refine⟨⟨_,rfl,?_⟩,hxe.trans ((Ext.refl w3).drew.trans he4)⟩;rw[qfl,Bp]
theorem V.RowX.capd{size n:Nat}{v:E8}(h:RowX e size v n xs Y):∃A c,v=.slice A n c/\n<=c/\(n=0\/∃g,A=some ⟨g,0,none⟩):=by
 obtain⟨_,⟨rfl,rfl,_⟩|⟨g,cap,cur,rfl,_,h3,_⟩⟩:=h
 ·exact⟨_,_,rfl,Aq _,.inl rfl⟩
 ·exact⟨_,_,rfl,h3,.inr ⟨g,rfl⟩⟩
theorem V.RowX.cells{α:Type}{enc:α->EE}{e sz:Nat}(henc:∀x,(enc x).length=sz){l:List α}(h:RowX e sz (.slice (some ⟨g,0,none⟩) l.length c) l.length (l.map enc).flatten Y)(hY:∀x∈Y,w.heap[x.1]?=some x.2):
  ∀(i:Nat) (x:α),l[i]?=some x->CellsAt w g (0+i*sz) (enc x):=by
 intro i x hi k u hu;obtain⟨_,⟨h1,_⟩|⟨g',cap,cur,h1,rfl,_,_,_,h5⟩⟩:=h
 ·injection h1 with h1;cases h1
 injection h1 with h1 _ _
 injection h1 with h1
 injection h1 with h1
 subst h1;have hk:k<sz:=by
  have:=(Ae.1 hu).1
  rwa[henc]at this
 have hil:=(Ae.1 hi).1;have hfl:=qc7 enc sz henc l i x k hi hk;have hb:(i+1)*sz<=l.length*sz:=BI _ hil;rw[<-h5,Bc,Ad (by rw[CW]at hb;omega),hu]at hfl;rw[qa (hY _ (Ah.2 rfl)),Aw]
 simpa using hfl
structure SnE where
 q:Q4
 zs:List Int
 v:E8
def snC(s:SnE):EE:=seC s.q s.v
theorem q3e(s:SnE):(snC s).length=17:=rfl
def snP(s:SnE):Q4×List Int:=(s.q,s.zs)
def zsV(zs:List Int):EE:=zs.map (Value.int .i64 ·)
theorem q7p(zs:List Int):(zs.map V.zeI).flatten=zsV zs:=by
 induction zs with
 | nil=>rfl
 | cons z zs ih=>rw[AO,Cv,ih];rfl
def NsX:List SnE->ED->Prop
 | [],X=>X=[]
 | s::S,X=>∃Y Z,X=Y++Z/\RowX 3 1 s.v s.zs.length (zsV s.zs) Y/\NsX S Z
theorem NsX.snoc{s:SnE}(hp:RowX 3 1 s.v s.zs.length (zsV s.zs) Y):∀{S:List SnE} {X:ED},NsX S X->NsX (S++[s]) (X++Y)
 | [],X,h=>by
  have h:X=[]:=h;subst h;exact⟨Y,[],by simp,hp,rfl⟩
 | q::S,X,⟨Y',Z,e,h1,h2⟩=>⟨Y',Z++Y,by rw[e,Ak],h1,NsX.snoc hp h2⟩
theorem NsX.at_:∀{S:List SnE} {X:ED} {i:Nat} {s:SnE},NsX S X->S[i]?=some s->
  ∃A Y B,X=A++Y++B/\RowX 3 1 s.v s.zs.length (zsV s.zs) Y/\∀s' Y',RowX 3 1 s'.v s'.zs.length (zsV s'.zs) Y'->NsX (S.set i s') (A++Y'++B)
 | [],X,i,s,_,hi=>by simp at hi
 | q::S,X,0,s,⟨Y,Z,e,h1,h2⟩,hi=>by
  simp at hi;subst hi;exact⟨[],Y,Z,by rw[e];rfl,h1,fun s' Y' h'=>⟨Y',Z,rfl,h',h2⟩⟩
 | q::S,X,i+1,s,⟨Y,Z,e,h1,h2⟩,hi=>by
  obtain⟨A,Y2,B,h4,h5,h6⟩:=NsX.at_ h2 (by simpa using hi);refine⟨Y++A,Y2,B,by rw[e,h4];simp,h5,fun s' Y' h'=>⟨Y,A++Y'++B,by simp,h1,h6 s' Y' h'⟩⟩
def SeensX(v:E8)(S:List SnE)(Y:ED):Prop:=∃Y1 Y2,Y=Y1++Y2/\RowX 40 17 v S.length (S.map snC).flatten Y1/\NsX S Y2
theorem V.RowX.ints{v:E8}(h:RowX 3 1 v zs.length (zsV zs) Y)(hY:∀x∈Y,w.heap[x.1]?=some x.2):∃B d,v=.slice B zs.length d/\zs.length<=d/\SlAt V.zeI 1 w B zs:=by
 obtain⟨B,d,rfl,h1,h2⟩:=h.capd;refine⟨B,d,rfl,h1,⟨fun hn=>?_⟩⟩
 rcases h2 with h2|⟨g,rfl⟩
 ·exact absurd (AW h2) hn
 ·rw[<-q7p]at h;exact⟨g,0,rfl,fun i x hi=>V.RowX.cells (enc:=V.zeI) (sz:=1) (fun _=>rfl) h hY i x hi⟩
theorem SeensX.at_{v:E8}{S:List SnE}(h:SeensX v S Y)(hY:∀x∈Y,w.heap[x.1]?=some x.2):SeenAt w v (S.map snP):=by
 obtain⟨Y1,Y2,rfl,h1,h2⟩:=h;obtain⟨A,c,rfl,h3,h4⟩:=h1.capd;refine⟨A,c,by rw[AC],by rw[AC];exact h3,fun hn=>?_⟩
 rcases h4 with h4|⟨g,rfl⟩
 ·exact absurd (AW (by rw[AC];exact h4)) hn
 refine⟨g,0,rfl,fun i q zs hi=>?_⟩;rw[Ao]at hi;cases hs:S[i]? with
 | none=>rw[hs]at hi;cases hi
 | some s=>
  rw[hs]at hi;cases hi;have hc:=V.RowX.cells (enc:=snC) (sz:=17) q3e h1 (fun x hx=>hY x (Bb _ hx)) i s hs;obtain⟨A',Y',B',e,hr,_⟩:=h2.at_ hs;obtain⟨B,d,ev,hd,hI⟩:=hr.ints (w:=w) fun x hx=>hY x (Ai _ (by rw[e];simp[hx]));refine⟨B,d,?_,hd,hI⟩;rw[snC,ev]at hc;exact hc
theorem qie(w0:Ez):Carr fun X w=>Mem w0 w X:=
 ⟨fun h he=>h.call he,fun h hx=>h.get hx,fun _ h=>h.new rfl rfl,fun o' h=>h.setO (i:=0) o' rfl rfl,fun h=>h.sub (AP ..),fun h hp=>h.perm hp.symm⟩
theorem snSl:EG.underlying 34=some (.slice 40):=Tryz.underlying34
theorem snI:EG.info? 40=some ((EG.info? 40).get Jk):=(Bn _).symm
theorem snZ:((EG.info? 40).get Jk).zero=some ((((EG.info? 40).get Jk).zero).get Jk):=(Bn _).symm
theorem q2q(qs:List Q4):∀v∈(qs.map qd).flatten,v.oneCell'=true:=fun v hv=>by
 obtain⟨l,hl,hv⟩:=DL.1 hv;obtain⟨q,_,rfl⟩:=AY.1 hl;exact qn q v hv
def intP(e:Q4×EF):Q4×List Int:=(e.1,e.2.map fun n:Nat=>(n:Int))
theorem qin(ds:List DsE)(A:oA)(n c:Nat)(p:Q4)(w:Ez)(hS:SlAt encD 1 w A ds)(hn:ds.length=n)(hb:n<=60)(hD:∀d∈ds,SlAt qd 16 w d.A d.qs)(htot:((ds.map (·.qs)).flatten).length<=20000)(hrise:∀d∈ds,RiseC cmpQ d.qs):
  Gv EG 10 [.slice A n c,qk p] w fun r w'=>∃S Y,SeensX r S Y/\Mem w w' Y/\S.map snP=(eacD (ds.map (·.qs)) (fitQ p)).map intP:=by
 subst hn;have t1:tsz EG 46=1:=by kernel_rfl
 have t16:tsz EG 26=16:=by kernel_rfl
 obtain⟨P,eP⟩:∃P,P=ds.map (·.qs):=⟨_,rfl⟩
 rw[<-eP]at htot|-;have hPl:P.length=ds.length:=by rw[eP,AC]
 have cM:=qie w;refine ze Tryz.func10 Tryz.ntmps10 ?_;refine znm (Mem.nil w) ?_;intro pb w1 hm;have hm:Mem w w1 [(pb,.cells (qd p).toArray 26)]:=hm;(conv=>whnf);refine qj (fun s:Nat×E8×ED=>[(0,.slice A ds.length c),(3,pp pb),(5,s.2.1),(6,ii s.1)])
  (fun s w'=>s.1<=ds.length/\RowX 26 16 s.2.1 (P.take s.1).flatten.length ((P.take s.1).flatten.map qd).flatten s.2.2/\Mem w w' (s.2.2++[(pb,.cells (qd p).toArray 26)])) (fun s=>ds.length-s.1) (0,.slice none 0 0,[])
  fq ⟨Am _,RowX.nil _ _,hm⟩ ?_
 clear hm;rintro⟨i,v,Y⟩ w2 ρ' ⟨hi,hR,hm⟩;dsimp only at hi hR hm|-;obtain⟨Av,cv,ev⟩:=hR.slice;subst ev;(conv=>whnf);refine zC (fun _=>zw ?_) (fun _=>zw ?_)
 case' refine_1=>
  have hlt:i<ds.length:=by omega
  obtain⟨g,off,rfl,hat⟩:=hS.at_ (by intro e;rw[e]at hlt;simp at hlt);obtain⟨d,ed⟩:∃d,ds[i]?=some d:=⟨_,zge hlt⟩
  have hdm:=zmg ed;have hcd:CellsAt w g (off+i*1) (encD d):=hat i d ed;have htk:(P.take (i+1)).flatten=(P.take i).flatten++d.qs:=by rw[eP,BJ,Ao,ed];simp
  have hle:(P.take (i+1)).flatten.length<=20000:=by
   have:=Af (fun l=>(List.flatten l).length) (Ck (i+1) P);simp only[CN,zla]at this;omega
  have hln:(P.take (i+1)).flatten.length=(P.take i).flatten.length+d.qs.length:=by rw[htk,zla]
  refine⟨⟨g,off,i,rfl,by omega,by omega,?_⟩⟩;rw[t1];(conv=>whnf);refine LoadV.cell0 (CellsAt.ext hcd hm.ext) (zw ?_);refine AppV.carr (m:=d.qs.length) (news:=(d.qs.map qd).flatten) cM hm hR qdSl qdI qdZ Jk Jk Od (q2p d.qs) (fun hne=>by
   obtain⟨b,o,e,hq⟩:=((hD d hdm).ext hm.ext).at_ (by intro e;rw[e]at hne;exact hne rfl);exact⟨b,o,e,qxh hq⟩) (q2q d.qs) (by rw[show((EG.info? 26).get Jk).bytes=224 from by kernel_rfl];omega) Oo ?_
  clear hm;intro A' c' Y' w3 hR' hm;refine zu ?_;exact⟨(i+1,.slice A' ((P.take i).flatten.length+d.qs.length) c',Y'),fq,⟨by dsimp only;omega,by dsimp only;rw[hln,htk,AB,CN];exact hR',hm⟩,by dsimp only;omega⟩
 obtain rfl:i=ds.length:=by omega
 have hTk:P.take ds.length=P:=by rw[<-hPl,Bg]
 rw[hTk]at hR;rw[hTk];obtain⟨F,eF⟩:∃F,F=P.flatten:=⟨_,rfl⟩
 rw[<-eF]at hR htot|-;obtain⟨hSF,hFc⟩:=qb5 (enc:=qd) qa7 (hR.mem cM hm (fun x hx=>Bb _ hx)) rfl;have hFd:(srtC cmpQ F.length F).length<=F.length:=qje _ _ _;refine zcv (qy6 F.length F Av cv w2 znr hSF hFc Oo) ?_;rintro r w3 ⟨⟨B,d,rfl,hBd,hSB⟩,he3⟩;obtain⟨Q,eQ⟩:∃Q,Q=srtC cmpQ F.length F:=⟨_,rfl⟩
 rw[<-eQ]at hBd hSB hFd|-;have hm3:=hm.call he3;have hgp:w3.heap[pb]?=some (.cells (qd p).toArray 26):=hm3.get (Ai _ (Ah.2 rfl));have hm0:Mem w w3 []:=hm3.sub (Eu _);clear hm hm3 hR hSF hFc;have cN:=qie w3;(conv=>whnf);refine qj (fun s:Nat×List SnE×E8×ED=>[(0,.slice A ds.length c),(3,pp pb),(5,.slice B Q.length d),(7,s.2.2.1),(8,ii s.1)])
  (fun s w'=>s.1<=Q.length/\SeensX s.2.2.1 s.2.1 s.2.2.2/\Mem w3 w' s.2.2.2/\s.2.1.map snP=(((Q.take s.1).filter (fitQ p)).map fun q=>(q,idxC q P 0)).map intP/\s.2.1.length<=s.1) (fun s=>Q.length-s.1) (0,[],.slice none 0 0,[])
  fq ⟨Am _,⟨[],[],rfl,RowX.nil _ _,rfl⟩,Mem.nil w3,rfl,Am _⟩ ?_
 rintro⟨i,S,v,Y⟩ w4 ρ2 ⟨hi,hSn,hm,hSp,hSl⟩;dsimp only at hi hSn hm hSp hSl|-;obtain⟨Y1,Y2,rfl,hR,hN⟩:=id hSn;obtain⟨Av,cv,ev⟩:=hR.slice;subst ev;(conv=>whnf);refine zC (fun _=>zw ?_) (fun _=>zw ?_)
 case' refine_2=>
  obtain rfl:i=Q.length:=by omega
  rw[Bg]at hSp;exact⟨S,_,hSn,(hm0.glue hm).perm Js,by rw[hSp,eacD,<-eF,<-eQ]⟩
 have hlt:i<Q.length:=by omega
 obtain⟨g,off,rfl,hat⟩:=hSB.at_ (by intro e;rw[e]at hlt;simp at hlt);obtain⟨q,hq⟩:∃q,Q[i]?=some q:=⟨_,zge hlt⟩
 have hcq:=hat i q hq;have htk:(Q.take (i+1)).filter (fitQ p)=(Q.take i).filter (fitQ p)++if fitQ p q then[q]else[]:=by
  rw[BJ,hq,Ct]
  congr 1
  simp only[Option.toList_some,List.filter_cons,List.filter_nil]
 have hx:∀wd,Ext w4.drew wd->Ext w3 wd:=fun wd hd=>hm.ext.trans ((Ext.refl w4).drew.trans hd)
 refine DrawV.free Jk Jk (zw ?_);refine zsd (qk p) (fun wd hd=>zw ?_) (zw ?_)
 ·refine LoadA.own ((hx wd hd).get hgp) rfl (zw ?_);exact xq
 refine zd ?_;refine zd ?_;refine zsd (.pointer (some ⟨g,off+i*16,none⟩)) (fun wd hd=>zw ?_) (zw ?_)
 ·refine⟨⟨g,off,i,rfl,by omega,by omega,?_⟩⟩;rw[t16];(conv=>whnf);exact xq
 refine zsd (qk q) (fun wd hd=>zw ?_) (zw ?_)
 ·refine LoadA.cells (CellsAt.ext hcq (hx wd hd)) rfl (zw ?_);exact xq
 refine zsd (.bool (fitQ p q)) (fun wd hd=>zw ?_) (zw ?_)
 ·refine zcv (qxp p q wd) ?_;rintro r wx ⟨rfl,hex⟩;exact⟨hex,rfl⟩
 refine zd ?_;intro w5 he5;replace hm:=(hm.drew).call he5;cases hf:fitQ p q
 ·rw[hf]at htk;have htk:(Q.take (i+1)).filter (fitQ p)=(Q.take i).filter (fitQ p):=by rw[htk];exact AI _
  refine zu ?_;exact⟨(i+1,S,.slice Av S.length cv,Y1++Y2),fq,⟨by dsimp only;omega,hSn,hm,by dsimp only;rw[htk];exact hSp,by dsimp only;omega⟩,by dsimp only;omega⟩
 rw[hf]at htk;have htk:(Q.take (i+1)).filter (fitQ p)=(Q.take i).filter (fitQ p)++[q]:=htk;refine zu ?_;refine⟨⟨g,off,i,rfl,by omega,by omega,?_⟩⟩;rw[t16];(conv=>whnf);refine LoadA.cells (CellsAt.ext hcq hm.ext) rfl (zw ?_);refine NewV.carr cN hm fun tb w6 hm=>zw ?_;refine StoreA.carr (vs:=seC q (.slice none 0 0)) cN (A:=[]) hm rfl (fun u hu=>by
  rcases Ba.1 hu with hu|hu
  ·exact qn q u hu
  ·rw[Ah.1 hu];rfl) ?_
 clear hm;intro w7 hm;(conv=>whnf);refine qj (fun s:Nat×List Int×E8×ED=>[(0,.slice A ds.length c),(3,pp pb),(5,.slice (some ⟨g,off,none⟩) Q.length d),(7,.slice Av S.length cv),(8,ii i),(10,pp tb),(11,ii s.1)])
  (fun s w'=>s.1<=ds.length/\s.2.1++(idxC q (P.drop s.1) s.1).map (fun n:Nat=>(n:Int))=(idxC q P 0).map (fun n:Nat=>(n:Int))/\RowX 3 1 s.2.2.1 s.2.1.length (zsV s.2.1) s.2.2.2/\Mem w3 w' (s.2.2.2++(tb,.cells (seC q s.2.2.1).toArray 40)::(Y1++Y2))/\s.2.1.length<=s.1) (fun s=>ds.length-s.1) (0,[],.slice none 0 0,[])
  fq ⟨Am _,rfl,RowX.nil _ _,hm,Am _⟩ ?_
 clear hm;rintro⟨j,zs,vN,YN⟩ w8 ρ3 ⟨hj,hzs,hRN,hm,hzl⟩;dsimp only at hj hzs hRN hm hzl|-;obtain⟨AN,cN2,eN⟩:=hRN.slice;subst eN;(conv=>whnf);refine zC (fun _=>zw ?_) (fun _=>zw ?_)
 case' refine_1=>
  have hlj:j<ds.length:=by omega
  obtain⟨gA,oA,rfl,hatA⟩:=hS.at_ (by intro e;rw[e]at hlj;simp at hlj);obtain⟨e,ee⟩:∃e,ds[j]?=some e:=⟨_,zge hlj⟩
  have hem:=zmg ee;have hce:CellsAt w gA (oA+j*1) (encD e):=hatA j e ee;have hx8:∀wd,Ext w8.drew wd->Ext w3 wd:=fun wd hd=>hm.ext.trans ((Ext.refl w8).drew.trans hd)
  have hPj:P.drop j=e.qs::P.drop (j+1):=by
   have h1:P[j]?=some e.qs:=by rw[eP,Ao,ee];rfl
   obtain⟨g1,g2⟩:=Ae.1 h1;rw[Bu g1,g2]
  have hel:e.qs.length<=20000:=by
   have h1:=Af (fun l=>(List.flatten l).length) (Ck j P);simp only[CN,zla,hPj,Cv]at h1;rw[<-eF]at h1;omega
  obtain⟨bb,hbb⟩:∃b:Bool,(b=true↔q∈e.qs):=by
   by_cases h:q∈e.qs
   ·exact⟨true,⟨fun _=>h,fun _=>rfl⟩⟩
   ·exact⟨false,⟨(fun g=>by cases g),fun g=>absurd g h⟩⟩
  refine DrawV.free Jk Jk (zw ?_);refine zd ?_;refine zd ?_;refine zsd (.pointer (some ⟨gA,oA+j*1,none⟩)) (fun wd hd=>zw ?_) (zw ?_)
  ·refine⟨⟨gA,oA,j,rfl,by omega,by omega,?_⟩⟩;rw[t1];(conv=>whnf);exact xq
  refine zsd (.slice e.A e.qs.length e.c) (fun wd hd=>zw ?_) (zw ?_)
  ·refine LoadV.cell0 (CellsAt.ext hce (hm0.ext.trans (hx8 wd hd))) (zw ?_);exact xq
  refine zd ?_;refine zd ?_;refine zsd (.pointer (some ⟨g,off+i*16,none⟩)) (fun wd hd=>zw ?_) (zw ?_)
  ·refine⟨⟨g,off,i,rfl,by omega,by omega,?_⟩⟩;rw[t16];(conv=>whnf);exact xq
  refine zsd (qk q) (fun wd hd=>zw ?_) (zw ?_)
  ·refine LoadA.cells (CellsAt.ext hcq (hx8 wd hd)) rfl (zw ?_);exact xq
  refine zsd (.tuple #[ii (aheC q e.qs),.bool bb]) (fun wd hd=>zw ?_) (zw ?_)
  ·refine zcv (qxo e.qs q e.A e.qs.length e.c wd ((hD e hem).ext (hm0.ext.trans (hx8 wd hd))) rfl Oo) ?_;rintro r wx ⟨⟨b,rfl,hb⟩,hex⟩;rw[qqb (hrise e hem)]at hb;have hb2:b=bb:=by rw[AV,hb,hbb]
   rw[hb2];exact⟨hex,rfl⟩
  (iterate 5 (refine zd ?_));intro w9 he9;replace hm:=(hm.drew).call he9;rw[hPj]at hzs;cases bb
  case false=>
   have hqe:¬q∈e.qs:=fun g=>by cases hbb.2 g
   rw[idxC,Aa hqe]at hzs;refine zu ?_;exact⟨(j+1,zs,.slice AN zs.length cN2,YN),fq,⟨by dsimp only;omega,hzs,hRN,hm,by dsimp only;omega⟩,by dsimp only;omega⟩
  have hqe:q∈e.qs:=hbb.1 rfl;rw[idxC,Ad hqe]at hzs;refine zu ?_;refine LoadV.own (cN.get hm (Ai _ mh)) rfl (zw ?_);refine NewV.carr cN hm ?_;clear hm;intro nb w10 hm;have hm:Mem w3 w10 (YN++(nb,.cells #[ii j] 3)::((tb,.cells (seC q (.slice AN zs.length cN2)).toArray 40)::(Y1++Y2))):=cN.perm hm BO.symm;(conv=>whnf);refine AppV.carr (m:=1) (news:=[ii j]) cN hm hRN inSl inI inZ Jk Jk Od rfl (fun _=>⟨nb,0,rfl,fun k u hu=>by rw[qa (cN.get hm (Ai _ mh)),Aw,Ar];exact hu⟩) (fun u hu=>by rw[Ah.1 hu];rfl) (by rw[show((EG.info? 3).get Jk).bytes=8 from by kernel_rfl];omega) Oo ?_;clear hm;intro A' c' Y' w11 hRN' hm;replace hm:=cN.dropM hm;(conv=>whnf);refine StoreV.carr cN hm (by show 16<17;omega) rfl ?_;clear hm;intro w12 hm;have hm:Mem w3 w12 (Y'++(tb,.cells (seC q (.slice A' (zs.length+1) c')).toArray 40)::(Y1++Y2)):=hm;refine zu ?_;have hzl1:(zs++[(j:Int)]).length=zs.length+1:=by rw[zla];rfl
  refine⟨(j+1,zs++[(j:Int)],.slice A' (zs.length+1) c',Y'),fq,⟨by dsimp only;omega,?_,?_,hm,by dsimp only;omega⟩,by dsimp only;omega⟩
  ·dsimp only;rw[<-hzs,AO,Ak];rfl
  ·dsimp only;rw[hzl1,zsV,AB];exact hRN'
 obtain rfl:j=ds.length:=by omega
 rw[<-hPl,List.drop_length]at hzs;have hzs:zs++[]=(idxC q P 0).map (fun n:Nat=>(n:Int)):=hzs;rw[AI]at hzs;have hgt:=cN.get hm (Ai _ mh);refine LoadA.own hgt rfl (zw ?_);refine NewV.carr cN hm ?_;clear hm;intro nb w9 hm;have hm:Mem w3 w9 (Y1++((nb,.cells (seC q (.slice AN zs.length cN2)).toArray 40)::(YN++(tb,.cells (seC q (.slice AN zs.length cN2)).toArray 40)::Y2))):=cN.perm hm (by
  refine List.Perm.trans (List.Perm.cons _ ?_) BO.symm;refine List.Perm.trans (Cl YN (BO (a:=(tb,_)) (l₁:=Y1) (l₂:=Y2)).symm) ?_;rw[<-Ak,<-Ak];exact AE.append_right _)
 (conv=>whnf);refine AppV.carr (m:=1) (news:=seC q (.slice AN zs.length cN2)) cN hm hR snSl snI snZ Jk Jk Od rfl (fun _=>⟨nb,0,rfl,fun k u hu=>by rw[qa (cN.get hm (Ai _ mh)),Aw,Ar];exact hu⟩) (fun u hu=>by
  rcases Ba.1 hu with hu|hu
  ·exact qn q u hu
  ·rw[Ah.1 hu];rfl) (by rw[show((EG.info? 40).get Jk).bytes=248 from by kernel_rfl];omega) Oo ?_
 clear hm;intro A' c' Y1' w10 hR' hm;replace hm:=cN.dropM hm;rw[<-Ak]at hm;replace hm:=cN.dropM hm;rw[Ak]at hm;have hm:Mem w3 w10 (Y1'++(Y2++YN)):=cN.perm hm (Cl _ AE);refine zu ?_;have hN':=NsX.snoc (s:=⟨q,zs,.slice AN zs.length cN2⟩) hRN hN;have hSl1:(S++[(⟨q,zs,.slice AN zs.length cN2⟩:SnE)]).length=S.length+1:=by rw[zla];rfl
 refine⟨(i+1,S++[⟨q,zs,.slice AN zs.length cN2⟩],.slice A' (S.length+1) c',Y1'++(Y2++YN)),fq,⟨by dsimp only;omega,⟨Y1',Y2++YN,rfl,?_,hN'⟩,hm,?_,by dsimp only;omega⟩,by dsimp only;omega⟩
 ·dsimp only;rw[hSl1,AB,CN]
  simpa[snC]using hR'
 ·dsimp only;rw[htk,AB,AB,AB,hSp];simp[snP,intP,hzs]
open Go.RowKit
namespace V
theorem qv4{P:E4}{w:Ez}:∀{l:List (String×DataW Unit)} {ps:List MemPlace},DataW.LaidVars P w l ps->∀{n:String} {d:DataW Unit},(n,d)∈l->
  ∃g t cs fuel p,P.globalNamed n=some g/\(P.globals[g]?).map (·.type)=some t/\w.var? P n=some cs/\DataW.trod (fun _=>()) P w 0 (fun _=>true) false fuel t cs.toList=some (d,p)
 | [],_,_,_,_,h=>by cases h
 | (n0,d0)::r,ps,h,n,d,hm=>by
  obtain⟨g,t,cs,fuel,p,q,h1,h2,h3,h4,h5,_⟩:=h
  rcases AD.1 hm with e|hm
  ·cases e;exact⟨g,t,cs,fuel,p,h1,h2,h3,h4⟩
  ·exact qv4 h5 hm
theorem qow{name:String}{k:IntKind}{l:List (String×DataW Unit)}{t:E6}{n:Nat}(hg:P.globalNamed name=some g)(hty:(P.globals[g]?).map (·.type)=some t)(ht:P.underlying t=some (.array n e))(he:P.underlying e=some (.int k))(hce:P.cellsOf e=1)(hct:P.cellsOf t=n)(h:laidMet P l W)(hm:(name,Lib.tabData k zs)∈l):CellsAt W g 0 (zs.map fun z=>Value.int k z):=by
 obtain⟨ps,h,_⟩:=h;obtain⟨g',t',cs,fuel,p,hg',ht',hvar,hd⟩:=qv4 h hm;obtain rfl:=BB (hg.symm.trans hg');obtain rfl:=BB (hty.symm.trans ht');have hT:Lib.TabIs P W name k zs:=by
  unfold Lib.TabIs;rw[hvar,<-Lib.cells_of_tab ht he hce hct hd]
 intro i v hv;have hi:i<zs.length:=by simpa using(Ae.1 hv).1
 have:=hT.cell hg i hi;rw[Aw,this];rw[Ao,zge hi]at hv;rw[Ag,zge hi]
 simpa using hv
end V
open Go.ChangeShapes Go.WideShapes Go.ChangeAt Go.RowKit
theorem own:ownKnob EG.godebug=none:=by kernel_rfl
theorem q5r:laidOutB EG=true:=by kernel_rfl
mutual
def q7t:DataW Unit->EE
 | .lit (.int k n)=>[.int k n]
 | .agg l=>cellsDs l
 | _=>[]
def cellsDs:List (DataW Unit)->EE
 | []=>[]
 | d::l=>q7t d++cellsDs l
end
def qadl(w:Ez)(x:Nat×DataW Unit):Ez:=
 { w with heap:=w.heap.modify x.1 fun
   | .cells _ t frozen=>.cells (q7t x.2).toArray t frozen
   | o=>o }
noncomputable def qadk(os:Os)(l:List (Nat×DataW Unit)):Ez:=l.foldl qadl (World.holding EG os ⟨#[],#[],[]⟩)
open Go.ChangeShapes Go.WideShapes Go.ChangeAt Go.RowKit V
theorem qks:EG.cellsOf 24=4:=by kernel_rfl
theorem qz0:EG.cellsOf 26=16:=by kernel_rfl
theorem q9g:EG.bytesOf 26=224:=by kernel_rfl
theorem q9k:EG.cellsOf 46=1:=by kernel_rfl
theorem q9h:EG.bytesOf 46=24:=by kernel_rfl
section
variable {H:Type} {enc:E6×E8->H} {W:Ez}
theorem qpb{c:E8}(h:Opn enc EG W 9 [c]):∃s:E0,c=.string s/\s.size<=140737488355328:=h.string Tryz.underlying9
theorem qhq{cs:EE}(h:Opn enc EG W 24 cs):∃t:TM,cs=encT t/\TermOk t:=by
 obtain⟨hl,hf⟩:=Opn.fields Tryz.underlying24 h;rw[qks]at hl
 match cs,hl with
 | [c0,c1,c2,c3],_=>
  have g0:Opn enc EG W 3 (([c0,c1,c2,c3].drop 0).take (EG.cellsOf 3)):=hf 0 _ rfl;rw[q4u]at g0;have g1:Opn enc EG W 9 (([c0,c1,c2,c3].drop 1).take (EG.cellsOf 9)):=hf 1 _ rfl;rw[qnz]at g1;have g2:Opn enc EG W 9 (([c0,c1,c2,c3].drop 2).take (EG.cellsOf 9)):=hf 2 _ rfl;rw[qnz]at g2;have g3:Opn enc EG W 9 (([c0,c1,c2,c3].drop 3).take (EG.cellsOf 9)):=hf 3 _ rfl;rw[qnz]at g3;obtain⟨n0,rfl,k0⟩:=Opn.int (c:=c0) Tryz.underlying3 g0;obtain⟨n1,rfl,k1⟩:=qpb (c:=c1) g1;obtain⟨n2,rfl,k2⟩:=qpb (c:=c2) g2;obtain⟨n3,rfl,k3⟩:=qpb (c:=c3) g3;exact⟨⟨n0,n1,n2,n3⟩,rfl,⟨q03 k0,k1,k2,k3⟩⟩
theorem qri{cs:EE}(h:Opn enc EG W 26 cs):∃q:Q4,cs=qd q/\qa9 q:=by
 obtain⟨hl,hf⟩:=Opn.fields Tryz.underlying26 h;rw[qz0]at hl
 match cs,hl with
 | [a0,a1,a2,a3,b0,b1,b2,b3,c0,c1,c2,c3,d0,d1,d2,d3],_=>
  have g0:Opn enc EG W 24 (([a0,a1,a2,a3,b0,b1,b2,b3,c0,c1,c2,c3,d0,d1,d2,d3].drop 0).take (EG.cellsOf 24)):=hf 0 _ rfl;rw[qks]at g0;have g1:Opn enc EG W 24 (([a0,a1,a2,a3,b0,b1,b2,b3,c0,c1,c2,c3,d0,d1,d2,d3].drop 4).take (EG.cellsOf 24)):=hf 1 _ rfl;rw[qks]at g1;have g2:Opn enc EG W 24 (([a0,a1,a2,a3,b0,b1,b2,b3,c0,c1,c2,c3,d0,d1,d2,d3].drop 8).take (EG.cellsOf 24)):=hf 2 _ rfl;rw[qks]at g2;have g3:Opn enc EG W 24 (([a0,a1,a2,a3,b0,b1,b2,b3,c0,c1,c2,c3,d0,d1,d2,d3].drop 12).take (EG.cellsOf 24)):=hf 3 _ rfl;rw[qks]at g3;obtain⟨t0,e0,k0⟩:=qhq (cs:=[a0,a1,a2,a3]) g0;obtain⟨t1,e1,k1⟩:=qhq (cs:=[b0,b1,b2,b3]) g1;obtain⟨t2,e2,k2⟩:=qhq (cs:=[c0,c1,c2,c3]) g2;obtain⟨t3,e3,k3⟩:=qhq (cs:=[d0,d1,d2,d3]) g3;simp only[encT,List.cons.injEq]at e0 e1 e2 e3;obtain⟨rfl,rfl,rfl,rfl,_⟩:=e0;obtain⟨rfl,rfl,rfl,rfl,_⟩:=e1;obtain⟨rfl,rfl,rfl,rfl,_⟩:=e2;obtain⟨rfl,rfl,rfl,rfl,_⟩:=e3;refine⟨⟨t0,t1,t2,t3⟩,rfl,fun k=>?_⟩
  match k with
  | 0=>exact k0
  | 1=>exact k1
  | 2=>exact k2
  | k+3=>exact k3
noncomputable instance:Inhabited Q4:=⟨zQ⟩
theorem qya{c:E8}(h:Opn enc EG W 46 [c]):
  ∃(A:oA) (cap:Nat) (l:List Q4),c=.slice A l.length cap/\l.length<=140737488355328/\(∀q∈l,qa9 q)/\SlAt qd 16 W A l:=by
 obtain⟨A,cap,l,h1,h2,h3,h4,h5⟩:=h.sliceR (en:=qd) (R:=qa9) (size:=16) Tryz.underlying46 qz0 Od qa7 (fun cs hc=>qri hc);rw[q9g]at h3;exact⟨A,cap,l,h1,by omega,h4,h5⟩
def DsOk(W:Ez)(d:DsE):Prop:=SlAt qd 16 W d.A d.qs/\d.qs.length<=140737488355328/\∀q∈d.qs,qa9 q
instance:Inhabited DsE:=⟨⟨none,0,[]⟩⟩
theorem qx9{c:E8}(h:Opn enc EG W 22 [c]):
  ∃(A:oA) (cap:Nat) (ds:List DsE),c=.slice A ds.length cap/\ds.length<=140737488355328/\(∀d∈ds,DsOk W d)/\SlAt encD 1 W A ds:=by
 obtain⟨A,cap,l,h1,h2,h3,h4,h5⟩:=h.sliceR (en:=encD) (R:=DsOk W) (size:=1) Tryz.underlying22 q9k Od (fun _=>rfl) (fun cs hc=>by
  have hl:cs.length=1:=by
   obtain⟨n,d,ps,h1,_⟩:=id hc.h
   rcases Deep.open_slice Tryz.underlying46 h1 with⟨e,_⟩|⟨a,len,cap,m,n,D,Pl,e,_⟩
   ·rw[e];rfl
   ·rw[e];rfl
  match cs,hl with
  | [c],_=>
   obtain⟨A,cap,l,rfl,k1,k2,k3⟩:=qya hc;exact⟨⟨A,cap,l⟩,rfl,k3,k1,k2⟩)
 rw[q9h]at h3;exact⟨A,cap,l,h1,by omega,h4,h5⟩
end
theorem qaan(h:W.ShapedOpen EG):MaxLenAt W:=
 cell_of_shapedOpen_int (zero:=#[ii 0]) (t:=3) (k:=.i64) h (BR Jk) Jk rfl Jk Jk Tryz.underlying3
def tabs:List (String×DataW Unit):=[("unicode/utf8.acceptRanges",Rows.laid_unicode_utf8_acceptRanges),("tessera/sums.nibbles",Rows.laid_tessera_sums_nibbles),("tessera/names.basesTable",Rows.laid_tessera_names_basesTable),("tessera/vocab.kinds",Rows.laid_tessera_vocab_kinds),("unicode/utf8.first",Rows.laid_unicode_utf8_first)]
def qaac:List (String×DataW Unit):=[("unicode/utf8.acceptRanges",Rows.laid_unicode_utf8_acceptRanges),("errors.errorType",Rows.laid_errors_errorType),("tessera/sums.nibbles",Rows.laid_tessera_sums_nibbles),("tessera/names.basesTable",Rows.laid_tessera_names_basesTable),("tessera/vocab.kinds",Rows.laid_tessera_vocab_kinds),("unicode/utf8.first",Rows.laid_unicode_utf8_first)]
theorem qadj(h:laidMetH EG qaac W):laidMet EG tabs W/\handlesMet EG [("errors.errorType",Rows.laid_errors_errorType)] W:=h
theorem qaeb(h:laidMet EG tabs W):CellsAt W 6 0 qbz:=
 qow (name:= "tessera/names.basesTable") (k:=.i32) (zs:=[192,214,216,246,248,767,880,893,895,8191,8204,8205,8304,8591,11264,12271,12289,55295,63744,64975,65008,65533,65536,983039]) (l:=tabs) (g:=6) (t:=422) (e:=21) (n:=24)
  Jk Jk Tryz.underlying422 Tryz.underlying21 Jk Jk h (zmc (zmc mh))
theorem q54(h:laidMet EG tabs W):CellsAt W 1 0 qjy:=
 qow (name:= "tessera/sums.nibbles") (k:=.u32) (zs:=nibs.map fun n:Nat=>(n:Int)) (l:=tabs) (g:=1) (t:=328) (e:=129) (n:=16)
  Jk Jk Tryz.underlying328 Tryz.underlying129 Jk Jk h (zmc mh)
theorem qadg(h:laidMet EG tabs W):qkp W:=
 qow (name:= "tessera/vocab.kinds") (k:=.i64) (zs:=[1,2,3]) (l:=tabs) (g:=3) (t:=56) (e:=3) (n:=3)
  Jk Jk Tryz.underlying56 Tryz.underlying3 Jk Jk h (zmc (zmc (zmc mh)))
theorem etL:EG.globalNamed "errors.errorType" = some 0:=by kernel_rfl
theorem rtL:(EG.cutTypes.find? (·.1== "internal/reflectlite.rtype")).map (·.2)=some 365:=by kernel_rfl
theorem qaa1:((List.range EG.types.size).filter fun t=>EG.rowNamed t [101,114,114,111,114])=[74]:=by kernel_rfl
theorem q9v(h:handlesMet EG [("errors.errorType",Rows.laid_errors_errorType)] W):ErrTyp W:=by
 obtain⟨name,u,ty,e1,e2,e3,e4,e5⟩:=h _ (Ah.2 rfl);have en:name=[101,114,114,111,114]:=(BB e1).symm;subst en;obtain rfl:=BB (rtL.symm.trans e2);have hm:ty∈(List.range EG.types.size).filter fun t=>EG.rowNamed t [101,114,114,111,114]:=B0.2 ⟨BY.2 e3,e4⟩
 rw[qaa1]at hm;obtain rfl:=Ah.1 hm;have hh:typeHandle EG 74=.pointer (some ⟨7,74,none⟩):=by kernel_rfl
 rw[hh]at e5;have hc:=World.var?_cell etL e5 0;unfold ErrTyp
 simpa using hc
structure GlobM(w:Ez):Prop where
 S:GlobS w
 N:CellsAt w 1 0 qjy
 G:ErrTyp w
theorem q92(h:laidMetH EG qaac W)(hsh:W.ShapedOpen EG):GlobM W:=
 have hp:=qadj h
 ⟨⟨qaan hsh,qaeb hp.1,qadg hp.1⟩,q54 hp.1,q9v hp.2⟩
noncomputable def witP(os:Os):Ez:=
 let w0:=qadk os [(5,Rows.laid_unicode_utf8_acceptRanges),(1,Rows.laid_tessera_sums_nibbles),(6,Rows.laid_tessera_names_basesTable),(3,Rows.laid_tessera_vocab_kinds),(4,Rows.laid_unicode_utf8_first)]
 { w0 with heap:=w0.heap.modify 0 fun
   | .cells _ t frozen=>.cells #[.iface 365 (.agg #[.pointer (some ⟨7,74,none⟩)])] t frozen
   | o=>o }
theorem andT{a b:Bool}(h:a=true)(k:b=true):(a&&b)=true:=by rw[h,k];rfl
section
variable {J:ED->EC}
theorem V.RowX.put{e n:Nat}(h:RowX e 1 (.slice A n c) n xs Y)(hk:k<n):∃g cur,A=some ⟨g,0,none⟩/\Y=[(g,.cells cur e)]/\k<cur.size/\cur[k]?=xs[k]?/\∀v,RowX e 1 (.slice A n c) n (xs.set k v) [(g,.cells (cur.setIfInBounds k v) e)]:=by
 obtain⟨h1,⟨e1,h2,h3⟩|⟨g,cap,cur,e1,h3,h4,h5,h6,h7⟩⟩:=h
 ·omega
 ·injection e1 with e1 _ e2
  subst e1 e2;have h8:k<cur.size:=by omega
  refine⟨g,cur,rfl,h3,h8,?_,fun v=>⟨by rw[CP];exact h1,.inr ⟨g,c,_,rfl,rfl,h4,h5,by simpa using h6,?_⟩⟩⟩
  ·rw[<-h7,Bc,Ad Oo,Cj]
  ·rw[Co,<-h7,List.take_set]
end
theorem qi7(e:PartE):∃a,ptE e=.pointer a:=by
 unfold ptE
 split
 ·exact⟨_,rfl⟩
 ·exact⟨_,rfl⟩
theorem q60{α:Type}(L:List α)(m:Nat):L.take (min L.length m)=L.take m:=by
 rcases Nat.le_total m L.length with h|h
 ·rw[Nat.min_eq_right h]
 ·rw[Dd h,Bg,AF h]
section
variable {α:Type}
def cntF(f:α->Bool)(L:List α)(k:Nat):Nat:=((L.take k).filter f).length
theorem qn1(f:α->Bool)(L:List α):cntF f L L.length=(L.filter f).length:=by rw[cntF,Bg]
theorem qj8{f:α->Bool}{L:List α}{x:α}(h:L[k]?=some x)(hf:f x=true):cntF f L (k+1)=cntF f L k+1:=by
 rw[cntF,cntF,BJ,h,Ct,zla];simp[hf]
theorem qn3{f:α->Bool}{L:List α}{x:α}(h:L[k]?=some x)(hf:f x=false):cntF f L (k+1)=cntF f L k:=by
 rw[cntF,cntF,BJ,h,Ct,zla];simp[hf]
theorem qig{f:α->Bool}{L:List α}{x:α}(h:L[k]?=some x)(hf:f x=true):(L.filter f)[cntF f L k]?=some x:=by
 obtain⟨hl,hx⟩:=Ae.1 h;have e:L=L.take k++(x::L.drop (k+1)):=by
  conv=>lhs;rw[<-Ck k L]
  rw[Bu hl,hx]
 have e2:L.filter f=(L.take k).filter f++(x::(L.drop (k+1)).filter f):=by
  conv=>lhs;rw[e]
  rw[Ct,DV hf]
 rw[e2,cntF,AR znr,CE];rfl
theorem q9o(f:α->Bool)(L:List α)(k:Nat):cntF f L k<=(L.filter f).length:=by
 rw[cntF];exact((List.take_sublist k L).filter f).length_le
theorem qck{f:α->Bool}{L:List α}{x:α}(h:L[k]?=some x):(L.take (k+1)).filter f=(L.take k).filter f++if f x then[x]else[]:=by
 rw[BJ,h,Ct];cases hf:f x<;>simp[hf]
end
def BE(E:List (Q4×EF))(J:Nat->ED->EC)(k:Nat)(r:EE)(X:ED)(w:Ez):Prop:=∃Y,EaR E k r Y/\J k (Y++X) w
theorem BE.carr{J:Nat->ED->EC}(cJ:∀k,Carr (J k))(k:Nat)(r:EE):Carr (BE E J k r):=
 ⟨fun⟨Y,h1,h2⟩ he=>⟨Y,h1,(cJ k).ext h2 he⟩,fun⟨_,_,h2⟩ hx=>(cJ k).get h2 (Ai _ hx),fun o ⟨Y,h1,h2⟩=>⟨Y,h1,((cJ k).head Y).new o h2⟩,fun o' ⟨Y,h1,h2⟩=>⟨Y,h1,((cJ k).head Y).set o' h2⟩,fun⟨Y,h1,h2⟩=>⟨Y,h1,((cJ k).head Y).drop h2⟩,fun⟨Y,h1,h2⟩ hp=>⟨Y,h1,((cJ k).head Y).perm h2 hp⟩⟩
theorem BE.len{J:Nat->ED->EC}:∀k x X w,BE E J k x X w->x.length=2:=fun k r X' w' ⟨Y,⟨q,ns,v,_,hr,_⟩,_⟩=>by rw[hr];rfl
theorem qod(es:List PartE)(hes:∀e∈es,qji e)(hn:es.length<=1048576)(p:Q4)(hp:qa9 p)(b1 b2:Nat)(hE:E=eacE es p){J:Nat->ED->EC}{Jx:Code->Nat->ED->EC}(cJ:∀k,Carr (J k))(cX:∀c k,Carr (Jx c k))(h:∀k X w,J k X w->EaΦ es p b2 w)(h0:∀X w,J 0 X w->EaΦ0 es b1 w)(L0:ED)(Lx:Code->ED):
  SeqX EG 29 [pp b1,pp b2] E.length (fun k X w=>J k (X++L0) w) (fun k x X w=>BE E J k x (X++L0) w) (fun k X w=>∃c,Jx c k (X++Lx c) w):=by
 subst hE;exact fun l w hh hy=>(q10 es hes hn p hp b1 b2).toX (I:=fun k X w=>J k (X++L0) w) (Ix:=fun k X w=>∃c,Jx c k (X++Lx c) w) (fun k=>(cJ k).tail L0) (fun k=>Carr.any fun c=>(cX c k).tail (Lx c)) (fun k X' w' hh=>h k _ w' hh) (fun w' hh=>h0 _ w' hh) l w hh
  (fun k x X w hk ⟨Y,hR,hI⟩=>hy k x X w hk ⟨Y,hR,by rw[<-Ak];exact hI⟩)
def atl(n:Int)(e:Q4×EF):Bool:=decide (n<=(e.2.length:Int))
def q2n(e:Q4×EF):EE:=[qk e.1]
theorem qrb(A:oA)(n c:Nat)(p:Q4)(k:Int)(w:Ez):Gv EG 12 [.slice A n c,qk p,ii k] w fun r w'=>
  ∃b1 b2 b3,r=.func (.func 38) #[] #[pp b1,pp b2,pp b3]/\Mem w w' [(b3,.cells #[ii k] 3),(b2,.cells (qd p).toArray 26),(b1,.cells #[.slice A n c] 28)]:=by
 refine ze Tryz.func12 Tryz.ntmps12 ?_;refine znm (Mem.nil w) fun b1 w1 hm=>zw ?_;refine znm hm fun b2 w2 hm=>zw ?_;refine znm hm fun b3 w3 hm=>zw ?_;exact⟨b1,b2,b3,rfl,hm⟩
structure AlΦ(es:List PartE)(p:Q4)(n:Int)(A:oA)(c b1 b2 b3:Nat)(w:Ez):Prop where
 P:∀e∈es,PartAt w e
 G:GlobS w
 c1:w.cell? ⟨b1,0,none⟩=some (.slice A es.length c)
 S:SlAt encV 1 w A (es.map ptE)
 c2:CellsAt w b2 0 (qd p)
 c3:w.cell? ⟨b3,0,none⟩=some (ii n)
theorem qrc(es:List PartE)(hes:∀e∈es,qji e)(hn:es.length<=1048576)(p:Q4)(hp:qa9 p)(n:Int)(A:oA)(c b1 b2 b3:Nat)(E:List (Q4×EF))(hE:E=eacE es p):
  SeqC EG 38 [pp b1,pp b2,pp b3] ((E.filter (atl n)).map q2n) (AlΦ es p n A c b1 b2 b3):=by
 intro y I Ix w cI cIx hI h0 hy;rw[AC];refine gvW Jk Tryz.func38 rfl Tryz.ntmps38 rfl (zw ?_);refine NewV.carr (cI 0) h0 fun yb w1 h0=>zw ?_;refine LoadV.of (hI _ _ _ h0).c1 (zw ?_);refine LoadA.cells (hI _ _ _ h0).c2 rfl (zw ?_);refine zcv (qk7 A es.length c p w1) ?_;rintro r w2 ⟨d1,d2,rfl,hm⟩;replace h0:=(cI 0).call h0 hm;(conv=>whnf);obtain⟨L,hL⟩:∃L:ED,L=[(d2,.cells (qd p).toArray 26),(d1,.cells #[.slice A es.length c] 28),(yb,.cells #[.func (.yield y) #[] #[]] 91)]:=⟨_,rfl⟩
 have hJ:I (cntF (atl n) E 0) ([]++L) w2:=by rw[hL];exact h0
 clear h0 hm;have hin:∀(X:ED),(d2,Obj.cells (qd p).toArray 26)∈X++L/\(d1,Obj.cells #[.slice A es.length c] 28)∈X++L/\(yb,Obj.cells #[.func (.yield y) #[] #[]] 91)∈X++L:=fun X=>by
  rw[hL];refine⟨?_,?_,?_⟩<;>simp
 have cJ:∀k,Carr (fun X w'=>I (cntF (atl n) E k) (X++L) w'):=fun k=>(cI _).tail L
 have cX:∀(c:Code) (k:Nat),Carr (fun X w'=>(c=.ret/\cntF (atl n) E k<(E.filter (atl n)).length)/\Ix (cntF (atl n) E k) (X++L) w'):=fun c k=>Carr.and ((cIx _).tail L)
 refine qlk (m:=E.length) (lb:=[pp d1,pp d2]) rfl Jk Od
  (fun k X w'=>I (cntF (atl n) E k) (X++L) w') (BE E fun k X w'=>I (cntF (atl n) E k) (X++L) w') (fun c k X w'=>(c=.ret/\cntF (atl n) E k<(E.filter (atl n)).length)/\Ix (cntF (atl n) E k) (X++L) w')
  (qod es hes hn p hp d1 d2 hE cJ cX (fun k X w' hh=>⟨(hI _ _ _ hh).P,(hI _ _ _ hh).G,fun j u hu=>by rw[qa ((cI _).get hh (hin X).1),Aw,Ar];exact hu⟩) (fun X w' hh=>⟨A,c,by rw[qa ((cI _).get hh (hin X).2.1)];rfl,(hI _ _ _ hh).S⟩))
  BE.len cJ (BE.carr cJ) cX hJ ?_ ?_ ?_
 ·rintro l D ob ob' k r X w3 hk ⟨Yn,⟨q,ns,vn,hEk,rfl,hRn⟩,hB⟩;obtain⟨An,cn,en⟩:=hRn.slice;subst en;(conv=>whnf);refine NewV.carr (cJ k) hB fun qb w4 hB=>zw ?_;refine StoreA.carr (vs:=qd q) (cJ k) (A:=[]) hB rfl (qn q) fun w5 hB=>zw ?_;refine⟨rfl,(qb,.cells (qd q).toArray 26)::(D,.deferred (some []))::X,⟨Yn,⟨q,ns,_,hEk,rfl,hRn⟩,(cJ k).perm hB (BO.symm.trans (Cl _ (List.Perm.swap _ _ _)))⟩,fun w6 hB2=>?_⟩;clear hB hRn;obtain⟨Yn,⟨q',ns',v',hEk',hr,hRn⟩,hB⟩:=hB2;rw[hEk]at hEk';cases hEk'
  injection hr with _ hr
  injection hr with hr _
  subst hr;have hq:=(cI _).get hB (b:=qb) (o:=.cells (qd q).toArray 26) Js;(conv=>whnf);refine LoadV.of (hI _ _ _ hB).c3 (zw ?_);refine zC (fun _=>zu ?_) (fun _=>zu ?_)
  case' refine_1=>
   have hf:atl n (q,ns)=true:=Az (by dsimp only;omega);have hat:((E.filter (atl n)).map q2n)[cntF (atl n) E k]?=some [qk q]:=by rw[Ao,qig hEk hf];rfl
   have hlt:cntF (atl n) E k<(E.filter (atl n)).length:=(Ae.1 (qig hEk hf)).1;refine LoadV.carr (cI _) hB (hin _).2.2 rfl (zu ?_);refine LoadA.own hq rfl (zu ?_);have hB:I (cntF (atl n) E k) ((Yn++(l,ob')::(qb,.cells (qd q).toArray 26)::(D,.deferred (some []))::X)++L) w6:=hB;refine YieldV.mono (hy _ _ _ w6 hat hB) ?_;clear hB hq;rintro v w7 (⟨rfl,hJ⟩|⟨rfl,hX⟩)
   ·refine zu ?_;rw[qj8 hEk hf];rw[Ak]at hJ;exact(cI _).dropM (A:=[(l,ob')]) ((cI _).dropL hJ)
   ·refine zu ?_;rw[Ak]at hX;exact⟨⟨rfl,hlt⟩,(cIx _).dropM (A:=[(l,ob')]) ((cIx _).dropL hX)⟩
  have hf:atl n (q,ns)=false:=AH (by dsimp only;omega);rw[qn3 hEk hf];have hB:I (cntF (atl n) E k) ((Yn++(l,ob')::(qb,.cells (qd q).toArray 26)::(D,.deferred (some []))::X)++L) w6:=hB;rw[Ak]at hB;exact(cI _).dropM (A:=[(l,ob')]) ((cI _).dropL hB)
 ·rintro D w7 hJ;rw[qn1]at hJ;(conv=>whnf);refine LeaveV.marks (J:=fun X w'=>I (E.filter (atl n)).length X w') (cI _) ?_ (D:=D) (Ds:=[]) ((cI _).dropL ((cI _).perm hJ AE));intro w' h';(conv=>whnf);exact .inl h'
 ·rintro D c' k w7 hk ⟨⟨rfl,hlt⟩,hX⟩;(conv=>whnf);refine LeaveV.marks (J:=fun X w'=>Ix (cntF (atl n) E k) X w') (cIx _) ?_ (D:=D) (Ds:=[]) ((cIx _).dropL ((cIx _).perm hX AE));intro w' h';(conv=>whnf);exact .inr ⟨_,hlt,h'⟩
theorem qne{t:E6}{fr:Nat×Nat}(h:w.heap[b]?=some (.cells vs.toArray t fr)):SlAt encV 1 w (some ⟨b,0,none⟩) vs:=
 ⟨fun _=>⟨b,0,rfl,fun j v hj k u hu=>by
  have hk:k=0:=by have h1:=(Ae.1 hu).1;simp only[encV,AZ]at h1;omega
  subst hk;have hu:some v=some u:=hu;rw[qa h,<-hu,Ar,<-hj]
  congr 1
  omega⟩⟩
def one1(e:Q4×EF):Bool:=e.2.length==1
def qjl(e:Q4×EF):EE:=[qk e.1,.bool (e.2==[1])]
theorem qrd(xa xb:oA)(p:Q4)(w:Ez):Gv EG 18 [.pointer xa,.pointer xb,qk p] w fun r w'=>
  ∃b1 b2 b3,r=.func (.func 40) #[] #[pp b1,pp b2,pp b3]/\Mem w w' [(b3,.cells (qd p).toArray 26),(b2,.cells #[.pointer xb] 41),(b1,.cells #[.pointer xa] 41)]:=by
 refine ze Tryz.func18 Tryz.ntmps18 ?_;refine znm (Mem.nil w) fun b1 w1 hm=>zw ?_;refine znm hm fun b2 w2 hm=>zw ?_;refine znm hm fun b3 w3 hm=>zw ?_;exact⟨b1,b2,b3,rfl,hm⟩
structure DiΦ(ea eb:PartE)(p:Q4)(b1 b2 b3:Nat)(w:Ez):Prop where
 P:∀e∈[ea,eb],PartAt w e
 G:GlobS w
 c1:w.cell? ⟨b1,0,none⟩=some (ptE ea)
 c2:w.cell? ⟨b2,0,none⟩=some (ptE eb)
 c3:CellsAt w b3 0 (qd p)
theorem qre(ea eb:PartE)(hes:∀e∈[ea,eb],qji e)(p:Q4)(hp:qa9 p)(b1 b2 b3:Nat)(E:List (Q4×EF))(hE:E=eacE [ea,eb] p):
  SeqC EG 40 [pp b1,pp b2,pp b3] ((E.filter one1).map qjl) (DiΦ ea eb p b1 b2 b3):=by
 intro y I Ix w cI cIx hI h0 hy;obtain⟨xa,exa⟩:=qi7 ea;obtain⟨xb,exb⟩:=qi7 eb;have hc1:∀{k X w},I k X w->w.cell? ⟨b1,0,none⟩=some (.pointer xa):=fun h=>by rw[<-exa];exact(hI _ _ _ h).c1
 have hc2:∀{k X w},I k X w->w.cell? ⟨b2,0,none⟩=some (.pointer xb):=fun h=>by rw[<-exb];exact(hI _ _ _ h).c2
 have ti:tsz EG 3=1:=by kernel_rfl
 rw[AC];refine gvW Jk Tryz.func40 rfl Tryz.ntmps40 rfl (zw ?_);refine NewV.carr (cI 0) h0 fun yb w1 h0=>zw ?_;refine LoadV.of (hc1 h0) (zw ?_);refine LoadV.of (hc2 h0) (zw ?_);refine NewV.carr (cI 0) h0 fun ab w2 h0=>zw ?_;refine LoadA.cells (hI _ _ _ h0).c3 rfl (zw ?_);refine zcv (qk7 (some ⟨ab,0,none⟩) 2 2 p w2) ?_;rintro r w3 ⟨d1,d2,rfl,hm⟩;replace h0:=(cI 0).call h0 hm;(conv=>whnf);obtain⟨L,hL⟩:∃L:ED,L=[(d2,.cells (qd p).toArray 26),(d1,.cells #[.slice (some ⟨ab,0,none⟩) 2 2] 28),(ab,.cells #[.pointer xa,.pointer xb] 41),(yb,.cells #[.func (.yield y) #[] #[]] 92)]:=⟨_,rfl⟩
 have hJ:I (cntF one1 E 0) ([]++L) w3:=by rw[hL];exact h0
 clear h0 hm;have hin:∀(X:ED),(d2,Obj.cells (qd p).toArray 26)∈X++L/\(d1,Obj.cells #[.slice (some ⟨ab,0,none⟩) 2 2] 28)∈X++L/\(ab,Obj.cells #[.pointer xa,.pointer xb] 41)∈X++L/\(yb,Obj.cells #[.func (.yield y) #[] #[]] 92)∈X++L:=fun X=>by
  rw[hL];refine⟨?_,?_,?_,?_⟩<;>simp
 have cJ:∀k,Carr (fun X w'=>I (cntF one1 E k) (X++L) w'):=fun k=>(cI _).tail L
 have cX:∀(c:Code) (k:Nat),Carr (fun X w'=>(c=.ret/\cntF one1 E k<(E.filter one1).length)/\Ix (cntF one1 E k) (X++L) w'):=fun c k=>Carr.and ((cIx _).tail L)
 refine qlk (m:=E.length) (lb:=[pp d1,pp d2]) rfl Jk Od
  (fun k X w'=>I (cntF one1 E k) (X++L) w') (BE E fun k X w'=>I (cntF one1 E k) (X++L) w') (fun c k X w'=>(c=.ret/\cntF one1 E k<(E.filter one1).length)/\Ix (cntF one1 E k) (X++L) w')
  (qod [ea,eb] hes (show 2<=1048576 by decide) p hp d1 d2 hE cJ cX (fun k X w' hh=>⟨(hI _ _ _ hh).P,(hI _ _ _ hh).G,fun j u hu=>by rw[qa ((cI _).get hh (hin X).1),Aw,Ar];exact hu⟩) (fun X w' hh=>⟨some ⟨ab,0,none⟩,2,by rw[qa ((cI _).get hh (hin X).2.1)];rfl,by
   show SlAt encV 1 w' _ [ptE ea,ptE eb];rw[exa,exb];exact qne ((cI _).get hh (hin X).2.2.1)⟩))
  BE.len cJ (BE.carr cJ) cX hJ ?_ ?_ ?_
 ·rintro l D ob ob' k r X w4 hk ⟨Yn,⟨q,ns,vn,hEk,rfl,hRn⟩,hB⟩;obtain⟨An,cn,en⟩:=hRn.slice;subst en;(conv=>whnf);refine NewV.carr (cJ k) hB fun qb w5 hB=>zw ?_;refine StoreA.carr (vs:=qd q) (cJ k) (A:=[]) hB rfl (qn q) fun w6 hB=>zw ?_;refine⟨rfl,(qb,.cells (qd q).toArray 26)::(D,.deferred (some []))::X,⟨Yn,⟨q,ns,_,hEk,rfl,hRn⟩,(cJ k).perm hB (BO.symm.trans (Cl _ (List.Perm.swap _ _ _)))⟩,fun w7 hB2=>?_⟩;clear hB hRn;obtain⟨Yn,⟨q',ns',v',hEk',hr,hRn⟩,hB⟩:=hB2;rw[hEk]at hEk';cases hEk'
  injection hr with _ hr
  injection hr with hr _
  subst hr;have hB:I (cntF one1 E k) ((Yn++(l,ob')::(qb,.cells (qd q).toArray 26)::(D,.deferred (some []))::X)++L) w7:=hB;have hq:=(cI _).get hB (b:=qb) (o:=.cells (qd q).toArray 26) Js;have hyb:=(cI _).get hB (hin _).2.2.2;have hx:∀wd,Ext w7.drew wd->Ext w7 wd:=fun wd hd=>(Ext.refl w7).drew.trans hd
  by_cases hf:one1 (q,ns)=true
  ·have hlt:cntF one1 E k<(E.filter one1).length:=(Ae.1 (qig hEk hf)).1;obtain⟨m,rfl⟩:∃m,ns=[m]:=by
    match ns,hf with
    | [m],_=>exact⟨m,rfl⟩
    | [],hf=>cases hf
    | _::_::_,hf=>simp[one1]at hf
   have hat:((E.filter one1).map qjl)[cntF one1 E k]?=some [qk q,.bool (decide ((m:Int)=1))]:=by
    rw[Ao,qig hEk hf,B4,qjl]
    congr 4
    show(([m]:EF)==[1])=_
    by_cases h:m=1
    ·subst h;rfl
    ·rw[AH Oo];exact Cm.2 (fun e=>h (by injection e))
   obtain⟨gn,curn,eAn,eYn,_,hcv,_⟩:=V.RowX.put (k:=0) hRn Nat.zero_lt_one;have hcn:w7.cell? ⟨gn,0,none⟩=some (ii (m:Int)):=by
    rw[qa ((cI _).get hB (b:=gn) (o:=.cells curn 3) (by rw[eYn];simp)),hcv];rfl
   subst eAn;refine DrawW.tail 10 Jk Jk (.inr Jk) (AnyV.free Jk ?_);(conv=>whnf);refine zd ?_;refine zsd (ii 1) (fun wd hd=>zw ?_) (zw ?_)
   ·exact xq
   refine zd ?_;refine zd ?_;apply zsd (.func (.yield y) #[] #[])
   ·intro wd hd;refine zu ?_;refine LoadV.own ((hx wd hd).get hyb) rfl (zw ?_);exact xq
   (conv=>whnf);apply zsd (qk q)
   ·intro wd hd;refine zu ?_;refine LoadA.own ((hx wd hd).get hq) rfl (zw ?_);exact xq
   (conv=>whnf);refine zd ?_;apply zsd (pp gn)
   ·intro wd hd;refine zu ?_;refine⟨⟨gn,0,0,rfl,rfl,Nat.zero_lt_one,?_⟩⟩;rw[ti];(conv=>whnf);exact xq
   (conv=>whnf);apply zsd (ii (m:Int))
   ·intro wd hd;refine zu ?_;refine LoadV.of ((hx wd hd).cell hcn) (zw ?_);exact xq
   (conv=>whnf);apply zsd (.bool (decide ((m:Int)=1)))
   ·intro wd hd;refine zu ?_;exact xq
   (conv=>whnf);intro w8 he8;replace hB:=(cI _).ext hB (hx _ he8);refine zu ?_;refine YieldV.mono (hy _ _ _ w8 hat hB) ?_;clear hB hq hyb;rintro v w9 (⟨rfl,hJ⟩|⟨rfl,hX⟩)
   ·refine zu ?_;rw[qj8 hEk hf];rw[Ak]at hJ;exact(cI _).dropM (A:=[(l,ob')]) ((cI _).dropL hJ)
   ·refine zu ?_;rw[Ak]at hX;exact⟨⟨rfl,hlt⟩,(cIx _).dropM (A:=[(l,ob')]) ((cIx _).dropL hX)⟩
  ·have hf:one1 (q,ns)=false:=by simpa using hf
   have hnl:¬((ns.length:Int)=1):=fun h=>by
    rw[one1,Cm]at hf;exact hf (by dsimp only;omega)
   refine DrawW.tail 10 Jk Jk (.inr Jk) (AnyV.free Jk ?_);(conv=>whnf);refine zd ?_;refine zsd (ii ns.length) (fun wd hd=>zw ?_) (zw ?_)
   ·exact xq
   refine zsd (.bool false) (fun wd hd=>zw ?_) (zw ?_)
   ·exact⟨xr,by rw[<-AH hnl]⟩
   (iterate 7 (refine zd ?_));intro w8 he8;replace hB:=(cI _).ext hB (hx _ he8);refine zu ?_;rw[qn3 hEk hf];rw[Ak]at hB;exact(cI _).dropM (A:=[(l,ob')]) ((cI _).dropL hB)
 ·rintro D w8 hJ;rw[qn1]at hJ;(conv=>whnf);refine LeaveV.marks (J:=fun X w'=>I (E.filter one1).length X w') (cI _) ?_ (D:=D) (Ds:=[]) ((cI _).dropL ((cI _).perm hJ AE));intro w' h';(conv=>whnf);exact .inl h'
 ·rintro D c' k w8 hk ⟨⟨rfl,hlt⟩,hX⟩;(conv=>whnf);refine LeaveV.marks (J:=fun X w'=>Ix (cntF one1 E k) X w') (cIx _) ?_ (D:=D) (Ds:=[]) ((cIx _).dropL ((cIx _).perm hX AE));intro w' h';(conv=>whnf);exact .inr ⟨_,hlt,h'⟩
theorem SeenAt.elem{n:Nat}{E:List (Q4×List Int)}(h:SeenAt w (.slice A n c) E){q:Q4}(hi:E[i]?=some (q,zs)):
  ∃g off B d,A=some ⟨g,off,none⟩/\CellsAt w g (off+i*17) (seC q (.slice B zs.length d))/\zs.length<=d/\SlAt V.zeI 1 w B zs:=by
 obtain⟨A',c',e,_,h3⟩:=h
 injection e with e1 _ e2
 subst e1 e2;obtain⟨g,off,h4,h5⟩:=h3 (by intro e;rw[e]at hi;cases hi);obtain⟨B,d,h6,h7,h8⟩:=h5 i q zs hi;exact⟨g,off,B,d,h4,h6,h7,h8⟩
theorem SeenAt.len{n:Nat}{E:List (Q4×List Int)}(h:SeenAt w (.slice A n c) E):n=E.length/\n<=c:=by
 obtain⟨A',c',e,h2,_⟩:=h
 injection e with _ e1 e2
 subst e1 e2;exact⟨rfl,h2⟩
theorem SeenAt.slice{v:E8}{E:List (Q4×List Int)}(h:SeenAt w v E):∃A c,v=.slice A E.length c:=by
 obtain⟨A,c,e,_⟩:=h;exact⟨A,c,e⟩
theorem NsX.filter(f:SnE->Bool):∀{S:List SnE} {Y:ED},NsX S Y->∃Y',Y'.Sublist Y/\NsX (S.filter f) Y'
 | [],Y,h=>⟨[],Eu _,rfl⟩
 | s::S,X,⟨Y,Z,e,h1,h2⟩=>by
  obtain⟨Y',h3,h4⟩:=NsX.filter f h2;subst e;cases hf:f s
  ·rw[List.filter_cons_of_neg (by rw[hf];simp)];exact⟨Y',h3.trans (Dq _ _),h4⟩
  ·rw[DV hf];exact⟨Y++Y',List.Sublist.append (List.Sublist.refl _) h3,Y,Y',rfl,h1,h4⟩
theorem qi8(Q:List Q4)(q:Q4):((Q++[q]).map qd).flatten=(Q.map qd).flatten++qd q:=by simp
def qRowX(v:E8)(Q:List Q4)(Y:ED):Prop:=RowX 26 16 v Q.length (Q.map qd).flatten Y
theorem qs6{q:Q4}{ns:EF}(h:E[i]?=some (q,ns)):(E.map intP)[i]?=some (q,ns.map fun n:Nat=>(n:Int)):=by rw[Ao,h];rfl
theorem qnv(ds:List DsE)(A:oA)(n c:Nat)(p:Q4)(k:Int)(w:Ez)(hS:SlAt encD 1 w A ds)(hn:ds.length=n)(hb:n<=60)(hD:∀d∈ds,SlAt qd 16 w d.A d.qs)(htot:((ds.map (·.qs)).flatten).length<=20000)(hrise:∀d∈ds,RiseC cmpQ d.qs)(E:List (Q4×EF))(hE:E=eacD (ds.map (·.qs)) (fitQ p))(hEl:E.length<=1000000):
  Gv EG 13 [.slice A n c,qk p,ii k] w fun r w'=>∃Y,qRowX r ((E.filter (atl k)).map Prod.fst) Y/\Mem w w' Y:=by
 subst hn;have t17:tsz EG 40=17:=by kernel_rfl
 refine ze Tryz.func13 Tryz.ntmps13 ?_;refine znm (Mem.nil w) fun pb w1 hm=>zw ?_;refine LoadA.own (hm.get (Ah.2 rfl)) rfl (zw ?_);refine zcv (qin ds A ds.length c p w1 (hS.ext hm.ext) rfl hb (fun d hd=>(hD d hd).ext hm.ext) htot hrise) ?_;rintro r w2 ⟨S,Y,hSX,hM,hSE⟩;have hm0:Mem w w2 []:=(hm.glue hM).sub (Eu _);have hAt:=hSX.at_ (w:=w2) (fun x hx=>hM.get hx);rw[hSE,<-hE]at hAt;clear hm hM hSX;obtain⟨B,d,er⟩:=hAt.slice;subst er;have hil:(E.map intP).length=E.length:=AC ..;rw[hil]at hAt|-;have cN:=qie w2;(conv=>whnf);refine qj (fun s:Nat×E8×ED=>[(2,ii k),(7,.slice B E.length d),(8,s.2.1),(9,ii s.1)])
  (fun s w'=>s.1<=E.length/\qRowX s.2.1 (((E.take s.1).filter (atl k)).map Prod.fst) s.2.2/\Mem w2 w' s.2.2) (fun s=>E.length-s.1) (0,.slice none 0 0,[])
  fq ⟨Am _,RowX.nil _ _,Mem.nil w2⟩ ?_
 rintro⟨i,v,Yo⟩ w3 ρ' ⟨hi,hR,hm⟩;dsimp only at hi hR hm|-;obtain⟨Av,cv,ev⟩:=hR.slice;subst ev;have hQl:(((E.take i).filter (atl k)).map Prod.fst).length<=1000000:=by
  rw[AC];have h1:=Cb (atl k) (E.take i);rw[AG]at h1;omega
 (conv=>whnf);refine zC (fun _=>zw ?_) (fun _=>zw ?_)
 case' refine_2=>
  obtain rfl:i=E.length:=by omega
  rw[Bg]at hR|-;exact⟨Yo,hR,(hm0.glue hm).perm Js⟩
 have hlt:i<E.length:=by omega
 obtain⟨q,ns,hqn⟩:∃q ns,E[i]?=some (q,ns):=⟨_,_,zge hlt⟩
 obtain⟨g,off,N,dn,rfl,hc,hdn,hsN⟩:=(hAt.ext hm.ext).elem (qs6 hqn);have hlen:(ns.map fun n:Nat=>(n:Int)).length=ns.length:=AC ..;rw[hlen]at hc;refine⟨⟨g,off,i,rfl,by omega,by omega,?_⟩⟩;rw[t17];(conv=>whnf);refine LoadV.of (qt5 hc) (zw ?_);refine zC (fun _=>zu ?_) (fun _=>zu ?_)
 case' refine_1=>
  have hf:atl k (q,ns)=true:=Az (by dsimp only;omega);refine⟨⟨g,off,i,rfl,by omega,by omega,?_⟩⟩;rw[t17];(conv=>whnf);refine LoadA.cells (q6p hc) rfl (zw ?_);refine NewV.carr cN hm ?_;clear hm;intro nb w4 hm;have hm:Mem w2 w4 (Yo++[(nb,.cells (qd q).toArray 26)]):=cN.perm hm (AE (l₁:=[_]));(conv=>whnf);refine AppV.carr (m:=1) (news:=qd q) cN hm hR qdSl qdI qdZ Jk Jk Od rfl (fun _=>⟨nb,0,rfl,fun j u hu=>by rw[qa (cN.get hm (Ai _ mh)),Aw,Ar];exact hu⟩) (qn q) (by rw[show((EG.info? 26).get Jk).bytes=224 from by kernel_rfl];omega) Oo ?_;clear hm;intro A' c' Y' w5 hR' hm;replace hm:=cN.dropM hm;rw[AI]at hm;refine zu ?_;refine⟨(i+1,_,Y'),fq,⟨by dsimp only;omega,?_,hm⟩,by dsimp only;omega⟩;dsimp only;rw[qck hqn,Ad hf,AB];show RowX _ _ _ _ (((_++[q]).map qd).flatten) _;rw[qi8,zla];exact hR'
 have hf:atl k (q,ns)=false:=AH (by dsimp only;omega);refine⟨(i+1,_,Yo),fq,⟨by dsimp only;omega,?_,hm⟩,by dsimp only;omega⟩;dsimp only;rw[qck hqn,Aa (by rw[hf];simp),AI];exact hR
def fSn(s:SnE):Bool:=s.zs.length==1
theorem q9y{S:List SnE}(h:S.map snP=E.map intP):(S.filter fSn).map snP=(E.filter one1).map intP:=by
 have h1:(S.map snP).filter (fun x=>x.2.length==1)=(S.filter fSn).map snP:=by rw[List.filter_map];rfl
 have h2:(E.map intP).filter (fun x=>x.2.length==1)=(E.filter one1).map intP:=by
  rw[List.filter_map]
  congr 1
  refine DX fun x _=>?_;show((x.2.map fun n:Nat=>(n:Int)).length==1)=(x.2.length==1);rw[AC]
 rw[<-h1,h,h2]
theorem qwy{t:E6}{fr:Nat×Nat}{da db:DsE}(h:w.heap[b]?=some (.cells #[.slice da.A da.qs.length da.c,.slice db.A db.qs.length db.c] t fr)):SlAt encD 1 w (some ⟨b,0,none⟩) [da,db]:=
 ⟨fun _=>⟨b,0,rfl,fun j v hj k u hu=>by
  have hk:k=0:=by have h1:=(Ae.1 hu).1;simp only[encD,AZ]at h1;omega
  subst hk;have hu:some (Value.slice v.A v.qs.length v.c)=some u:=hu;rw[qa h,<-hu]
  match j,hj with
  | 0,hj=>cases hj;rfl
  | 1,hj=>cases hj;rfl⟩⟩
theorem qsn(da db:DsE)(p:Q4)(w:Ez)(hD:∀d∈[da,db],SlAt qd 16 w d.A d.qs)(htot:(([da,db].map (·.qs)).flatten).length<=20000)(hrise:∀d∈[da,db],RiseC cmpQ d.qs)(E:List (Q4×EF))(hE:E=eacD ([da,db].map (·.qs)) (fitQ p))(hEl:E.length<=1000000):
  Gv EG 16 [.slice da.A da.qs.length da.c,.slice db.A db.qs.length db.c,qk p] w fun r w'=>∃S Y,SeensX r S Y/\Mem w w' Y/\S.map snP=(E.filter one1).map intP:=by
 have t17:tsz EG 40=17:=by kernel_rfl
 refine ze Tryz.func16 Tryz.ntmps16 ?_;refine znm (Mem.nil w) fun pb w1 hm=>zw ?_;refine znm hm fun ab w2 hm=>zw ?_;refine LoadA.own (hm.get (zmc (Ah.2 rfl))) rfl (zw ?_);have hab:=hm.get mh;refine zcv (qin [da,db] (some ⟨ab,0,none⟩) 2 2 p w2 (qwy hab) rfl Od (fun d hd=>(hD d hd).ext hm.ext) htot hrise) ?_;rintro r w3 ⟨S,Y,hSX,hM,hSE⟩;rw[<-hE]at hSE;obtain⟨Y1,Y2,rfl,hR1,hN1⟩:=id hSX;obtain⟨A1,c1,er⟩:=hR1.slice;subst er;have hm3:Mem w w3 ((Y1++Y2)++_):=hm.glue hM;have hY1:∀x∈Y1,w3.heap[x.1]?=some x.2:=fun x hx=>hM.get (Bb _ hx)
 have hN2:∀{i:Nat} {s:SnE},S[i]?=some s->∃B d,s.v=.slice B s.zs.length d:=fun hi=>by
  obtain⟨_,_,_,_,h,_⟩:=hN1.at_ hi;exact h.slice
 have hSl:S.length=E.length:=by
  have h:=Af List.length hSE
  rwa[AC,AC]at h
 have hcap:=hR1.capd;clear hm hab;have cN:=qie w3;(conv=>whnf);refine qj (fun s:Nat×E8×ED=>[(7,.slice A1 S.length c1),(8,s.2.1),(9,ii s.1)])
  (fun s w'=>s.1<=S.length/\RowX 40 17 s.2.1 ((S.take s.1).filter fSn).length (((S.take s.1).filter fSn).map snC).flatten s.2.2/\Mem w3 w' s.2.2) (fun s=>S.length-s.1) (0,.slice none 0 0,[])
  fq ⟨Am _,RowX.nil _ _,Mem.nil w3⟩ ?_
 rintro⟨i,v,Yo⟩ w4 ρ' ⟨hi,hR,hm⟩;dsimp only at hi hR hm|-;obtain⟨Av,cv,ev⟩:=hR.slice;subst ev;have hQl:((S.take i).filter fSn).length<=1000000:=by
  have h1:=Cb fSn (S.take i);rw[AG]at h1;omega
 (conv=>whnf);refine zC (fun _=>zw ?_) (fun _=>zw ?_)
 case' refine_2=>
  obtain rfl:i=S.length:=by omega
  rw[Bg]at hR|-;obtain⟨Y2',hsub,hN'⟩:=hN1.filter fSn;refine⟨S.filter fSn,Yo++Y2',⟨Yo,Y2',rfl,hR,hN'⟩,?_,q9y hSE⟩;exact(hm3.sub (hsub.trans ((Dq Y1 Y2).trans (List.sublist_append_left _ _)))).glue hm
 have hlt:i<S.length:=by omega
 obtain⟨s,hs⟩:∃s,S[i]?=some s:=⟨_,zge hlt⟩
 obtain⟨B,d,esv⟩:=hN2 hs;obtain⟨A',c',e,hc',hA'⟩:=hcap
 injection e with e1 _ e2
 subst e1 e2;obtain⟨g,rfl⟩:=hA'.resolve_left Oo;have hc:CellsAt w4 g (0+i*17) (seC s.q (.slice B s.zs.length d)):=by
  rw[<-esv];exact(V.RowX.cells (enc:=snC) (sz:=17) q3e hR1 hY1 i s hs).ext hm.ext
 refine⟨⟨g,0,i,rfl,by omega,by omega,?_⟩⟩;rw[t17];(conv=>whnf);refine LoadV.of (qt5 hc) (zw ?_);refine zC (fun _=>zu ?_) (fun _=>zu ?_)
 case' refine_1=>
  have hf:fSn s=true:=by rw[fSn];exact CU.2 Oo
  refine⟨⟨g,0,i,rfl,by omega,by omega,?_⟩⟩;rw[t17];(conv=>whnf);refine LoadA.cells (vs:=seC s.q (.slice B s.zs.length d)) hc rfl (zw ?_);refine NewV.carr cN hm ?_;clear hm;intro nb w5 hm;have hm:Mem w3 w5 (Yo++[(nb,.cells (seC s.q (.slice B s.zs.length d)).toArray 40)]):=cN.perm hm (AE (l₁:=[_]));(conv=>whnf);refine AppV.carr (m:=1) (news:=seC s.q (.slice B s.zs.length d)) cN hm hR snSl snI snZ Jk Jk Od rfl (fun _=>⟨nb,0,rfl,fun j u hu=>by rw[qa (cN.get hm (Ai _ mh)),Aw,Ar];exact hu⟩) (fun u hu=>by
   rcases Ba.1 hu with hu|hu
   ·exact qn s.q u hu
   ·rw[Ah.1 hu];rfl) (by rw[show((EG.info? 40).get Jk).bytes=248 from by kernel_rfl];omega) Oo ?_
  clear hm;intro A' c' Y' w6 hR' hm;replace hm:=cN.dropM hm;rw[AI]at hm;refine zu ?_;refine⟨(i+1,_,Y'),fq,⟨by dsimp only;omega,?_,hm⟩,by dsimp only;omega⟩;dsimp only;rw[qck hs,Ad hf,zla,AB,CN];have e3:([s].map snC).flatten=seC s.q (.slice B s.zs.length d):=by rw[<-esv];simp[snC]
  rw[e3];exact hR'
 have hf:fSn s=false:=by rw[fSn];exact Cm.2 Oo
 refine⟨(i+1,_,Yo),fq,⟨by dsimp only;omega,?_,hm⟩,by dsimp only;omega⟩;dsimp only;rw[qck hs,Aa (by rw[hf];simp),AI];exact hR
theorem qcf(Q:List Q4)(A B:oA)(cA cB:Nat)(w:Ez)(hA:SlAt qd 16 w A Q)(hB:SlAt qd 16 w B Q)(hl:Q.length<=1152921504606846976):
  Gv EG 14 [.slice A Q.length cA,.slice B Q.length cB] w fun r w'=>r=.bool true/\Ext w w':=by
 have t16:tsz EG 26=16:=by kernel_rfl
 refine ze Tryz.func14 Tryz.ntmps14 ?_;refine zv ?_;refine qj (fun i:Nat=>[(0,.slice A Q.length cA),(1,.slice B Q.length cB),(5,ii i)]) (fun i w'=>i<=Q.length/\Ext w w') (fun i=>Q.length-i) 0 fq ⟨Am _,xr⟩ ?_;rintro i w1 ρ' ⟨hi,he⟩;(conv=>whnf);refine zC (fun _=>zw ?_) (fun _=>zw ?_)
 case' refine_2=>exact⟨rfl,he⟩
 have hlt:i<Q.length:=by omega
 have hne:Q≠[]:=by intro e;rw[e]at hlt;simp at hlt
 obtain⟨g1,o1,rfl,h1⟩:=hA.at_ hne;obtain⟨g2,o2,rfl,h2⟩:=hB.at_ hne;obtain⟨q,hq⟩:∃q,Q[i]?=some q:=⟨_,zge hlt⟩
 have hc1:=h1 i q hq;have hc2:=h2 i q hq;have hx:=fun wd (hd:Ext w1.drew wd)=>he.trans ((Ext.refl w1).drew.trans hd)
 refine DrawV.free Jk Jk (zw ?_);refine zd ?_;refine zd ?_;refine zsd (.pointer (some ⟨g1,o1+i*16,none⟩)) (fun wd hd=>zw ?_) (zw ?_)
 ·refine⟨⟨g1,o1,i,rfl,by omega,by omega,?_⟩⟩;rw[t16];(conv=>whnf);exact xq
 refine zsd (qk q) (fun wd hd=>zw ?_) (zw ?_)
 ·refine LoadA.cells (CellsAt.ext hc1 (hx wd hd)) rfl (zw ?_);exact xq
 refine zd ?_;refine zd ?_;refine zsd (.pointer (some ⟨g2,o2+i*16,none⟩)) (fun wd hd=>zw ?_) (zw ?_)
 ·refine⟨⟨g2,o2,i,rfl,by omega,by omega,?_⟩⟩;rw[t16];(conv=>whnf);exact xq
 refine zsd (qk q) (fun wd hd=>zw ?_) (zw ?_)
 ·refine LoadA.cells (CellsAt.ext hc2 (hx wd hd)) rfl (zw ?_);exact xq
 refine zsd (.bool false) (fun wd hd=>zw ?_) (zw ?_)
 ·refine RunV.neqQd (a:=q) (b:=q) ?_;rw[qfl.2 rfl];(conv=>whnf);exact xq
 intro w2 he2;refine zu ?_;exact⟨i+1,⟨rfl,rfl,Af (Value.int .i64) Oo,trivial⟩,⟨by omega,he.trans ((Ext.refl w1).drew.trans he2)⟩,by omega⟩
def QJ(J:ED->EC)(b5:Nat)(Q:List Q4)(m:Nat)(M:ED)(k:Nat)(X:ED)(w:Ez):Prop:=
 ∃s:E8×ED,(qRowX s.1 (Q.take k) s.2/\k<=m)/\J (X++(s.2++(b5,.cells #[s.1] 46)::M)) w
theorem QJ.carr(hJ:Carr J)(b5:Nat)(Q:List Q4)(m:Nat)(M:ED)(k:Nat):Carr (QJ J b5 Q m M k):=Carr.ex fun _=>hJ.tail _
def qR1(q:Q4):EE:=[qk q]
theorem qek(hJ:Carr J)(gf:FuncId)(he:qdc EG gf=true)(b1 b2 b3:Nat)(Q:List Q4)(hQ:Q.length<=1000000){Φ:EC}(hs:SeqC EG gf [pp b1,pp b2,pp b3] (Q.map qR1) Φ)(hΦ:∀X w,J X w->Φ w)(most:Int)(_:InR .i64 most)(X:ED)(w:Ez)(h0:J X w):
  Gv EG 15 [.func (.func gf) #[] #[pp b1,pp b2,pp b3],ii most] w fun r w'=>∃Y,qRowX r (Q.take most.toNat) Y/\J (Y++X) w':=by
 have hQl:(Q.map qR1).length=Q.length:=AC ..;refine gvW Jk Tryz.func15 rfl Tryz.ntmps15 rfl (zw ?_);refine NewV.carr hJ h0 fun b3' w1 h0=>zw ?_;refine NewV.carr hJ h0 fun b5 w2 h0=>zw ?_;refine⟨⟨.bool false,w2,?_,?_⟩⟩
 ·first|rfl|kernel_rfl
 (conv=>whnf);obtain⟨M,eM⟩:∃M:ED,M=(b3',.cells #[ii most] 3)::X:=⟨_,rfl⟩
 have h0:QJ J b5 Q most.toNat M 0 [] w2:=⟨(.slice none 0 0,[]),⟨RowX.nil _ _,Am _⟩,by rw[eM];exact h0⟩
 have cS:=QJ.carr hJ b5 Q most.toNat M;have hin:∀k X' w',QJ J b5 Q most.toNat M k X' w'->Φ w':=fun k X' w' ⟨s,_,hh⟩=>hΦ _ _ hh
 refine zv ?_;refine qlk (m:=(Q.map qR1).length) (lb:=[pp b1,pp b2,pp b3]) rfl he Od
  (QJ J b5 Q most.toNat M) (fun k r X' w'=>(Q.map qR1)[k]?=some r/\QJ J b5 Q most.toNat M k X' w') (fun c k X' w'=>(c=.exit 0/\k=most.toNat)/\QJ J b5 Q most.toNat M k X' w')
  (fun L0 Lx=>hs.toX (I:=fun k X w=>QJ J b5 Q most.toNat M k (X++L0) w) (Ix:=fun k X w=>∃c,(c=.exit 0/\k=most.toNat)/\QJ J b5 Q most.toNat M k (X++Lx c) w) (fun k=>(cS k).tail L0) (fun k=>Carr.any fun c=>Carr.and ((cS k).tail (Lx c))) (fun k X' w' hh=>hin k _ w' hh))
  (fun k r X' w' ⟨h1,_⟩=>by
   rw[Ao]at h1;cases h2:Q[k]? with
   | none=>rw[h2]at h1;cases h1
   | some q=>rw[h2]at h1;cases h1;rfl) cS (fun k r=>Carr.and (cS k)) (fun c k=>Carr.and (cS k)) h0 ?_ ?_ ?_
 case refine_1=>
  rintro l D ob ob' k r X' w6 hk ⟨hr,hB⟩;obtain⟨q,hq,rfl⟩:∃q,Q[k]?=some q/\r=qR1 q:=by
   rw[Ao]at hr;cases h2:Q[k]? with
   | none=>rw[h2]at hr;cases hr
   | some q=>rw[h2]at hr;cases hr;exact⟨q,rfl,rfl⟩
  (conv=>whnf);refine NewV.carr (cS k) hB fun qb w7 hB=>zw ?_;refine StoreA.carr (vs:=qd q) (cS k) (A:=[]) hB rfl (qn q) fun w8 hB=>zw ?_;refine⟨rfl,(qb,.cells (qd q).toArray 26)::(D,.deferred (some []))::X',⟨hr,(cS k).perm hB (List.Perm.swap _ _ _)⟩,fun w9 hB2=>?_⟩;clear hB;obtain⟨_,⟨v,Y⟩,⟨hR,hkm⟩,hB⟩:=hB2;dsimp only at hR hkm hB;have hkq:(Q.take k).length=k:=by rw[AG];have:=(Ae.1 hq).1;omega
  obtain⟨Av,cv,ev⟩:=hR.slice;subst ev;rw[hkq]at hB hR;have hR0:=hR;replace hR:RowX 26 16 (.slice Av k cv) (Q.take k).length ((Q.take k).map qd).flatten Y:=hR;rw[hkq]at hR;obtain⟨Z,eZ⟩:∃Z:ED,Z=(l,ob')::(qb,.cells (qd q).toArray 26)::(D,.deferred (some []))::X':=⟨_,rfl⟩
  rw[<-eZ]at hB;have hb5:(b5,Obj.cells #[.slice Av k cv] 46)∈Z++(Y++(b5,Obj.cells #[.slice Av k cv] 46)::M):=by simp
  have hb3:(b3',Obj.cells #[ii most] 3)∈Z++(Y++(b5,Obj.cells #[.slice Av k cv] 46)::M):=by rw[eM];simp
  have hqb:(qb,Obj.cells (qd q).toArray 26)∈Z++(Y++(b5,Obj.cells #[.slice Av k cv] 46)::M):=by rw[eZ];simp
  (conv=>whnf);refine LoadV.own (hJ.get hB hb5) rfl (zw ?_);refine LoadV.own (hJ.get hB hb3) rfl (zw ?_);refine zC (fun _=>zw ?_) (fun _=>zw ?_)
  case' refine_1=>
   refine⟨⟨rfl,by omega⟩,(.slice Av k cv,Y),⟨hR0,hkm⟩,?_⟩;rw[eZ]at hB;exact hJ.dropM (A:=[(l,ob')]) hB
  refine LoadV.own (hJ.get hB hb5) rfl (zw ?_);refine LoadA.own (hJ.get hB hqb) rfl (zw ?_);refine NewV.carr hJ hB ?_;clear hB hb5 hb3 hqb;intro nb w10 hB;have hB:J (Y++((nb,.cells (qd q).toArray 26)::(Z++(b5,.cells #[.slice Av k cv] 46)::M))) w10:=hJ.perm hB (by
   refine List.Perm.trans (List.Perm.cons _ (Ci _ _ _)) BO.symm)
  (conv=>whnf);refine AppV.carr (m:=1) (news:=qd q) hJ hB hR qdSl qdI qdZ Jk Jk Od rfl (fun _=>⟨nb,0,rfl,fun j u hu=>by rw[qa (hJ.get hB (Ai _ mh)),Aw,Ar];exact hu⟩) (qn q) (by rw[show((EG.info? 26).get Jk).bytes=224 from by kernel_rfl];omega) Oo ?_;clear hB;intro A' c' Y' w11 hR' hB;replace hB:=hJ.dropM hB;have hB:J ((Y'++Z)++(b5,.cells #[.slice Av k cv] 46)::M) w11:=by simpa using hB
  (conv=>whnf);refine StoreV.carr hJ hB (by show 0<1;omega) rfl ?_;clear hB;intro w12 hB;have hB:J ((Y'++Z)++(b5,.cells #[.slice A' (k+1) c'] 46)::M) w12:=hB;replace hB:=hJ.perm hB (AE.append_right _);rw[eZ,Ak]at hB;replace hB:=hJ.dropM (A:=[(l,ob')]) hB;have hk1:(Q.take (k+1)).length=k+1:=by rw[AG];have:=(Ae.1 hq).1;omega
  (conv=>whnf);refine⟨(.slice A' (k+1) c',Y'),⟨?_,by omega⟩,hB⟩;show RowX _ _ _ _ _ _;rw[hk1,BJ,hq];show RowX _ _ _ _ (((_++[q]).map qd).flatten) _;rw[qi8];exact hR'
 case refine_2=>
  rintro D w6 hh;obtain⟨⟨v,Y⟩,⟨hR,hkm⟩,hB⟩:=hh;dsimp only at hR hkm hB;rw[hQl,Bg]at hR;rw[hQl]at hkm;obtain⟨Av,cv,ev⟩:=hR.slice;subst ev;(conv=>whnf);refine LoadV.own (hJ.get hB (Ai _ (Ai _ mh))) rfl (zw ?_);refine LeaveV.marks (J:=fun X' w'=>J (X'++(Y++(b5,.cells #[.slice Av Q.length cv] 46)::M)) w') (hJ.tail _) ?_ (D:=D) (Ds:=[]) hB;intro w' h';(conv=>whnf);rw[eM]at h';exact⟨Y,by rw[AF hkm];exact hR,hJ.dropM (hJ.dropM h')⟩
 case refine_3=>
  rintro D c k w6 hk ⟨⟨rfl,hkm2⟩,hh⟩;obtain⟨⟨v,Y⟩,⟨hR,hkm⟩,hB⟩:=hh;dsimp only at hR hkm hB;obtain⟨Av,cv,ev⟩:=hR.slice;subst ev;(conv=>whnf);refine LoadV.own (hJ.get hB (Ai _ (Ai _ mh))) rfl (zw ?_);refine LeaveV.marks (J:=fun X' w'=>J (X'++(Y++(b5,.cells #[.slice Av (Q.take k).length cv] 46)::M)) w') (hJ.tail _) ?_ (D:=D) (Ds:=[]) hB;intro w' h';(conv=>whnf);rw[eM]at h';subst hkm2;exact⟨Y,hR,hJ.dropM (hJ.dropM h')⟩
def tR(x:Q4×Bool):EE:=[qk x.1,.bool x.2]
def tP(x:Q4×Bool):Q4×List Int:=(x.1,[if x.2 then 1 else 0])
def TJ(J:ED->EC)(b5:Nat)(R:List (Q4×Bool))(m:Nat)(M:ED)(k:Nat)(X:ED)(w:Ez):Prop:=
 ∃s:E8×List SnE×ED,(SeensX s.1 s.2.1 s.2.2/\s.2.1.map snP=(R.take k).map tP/\s.2.1.length=k/\k<=m)/\J (X++(s.2.2++(b5,.cells #[s.1] 34)::M)) w
theorem TJ.carr(hJ:Carr J)(b5:Nat)(R:List (Q4×Bool))(m:Nat)(M:ED)(k:Nat):Carr (TJ J b5 R m M k):=Carr.ex fun _=>hJ.tail _
theorem qni(hJ:Carr J)(gf:FuncId)(he:qdc EG gf=true)(b1 b2 b3:Nat)(R:List (Q4×Bool))(hRl:R.length<=1000000){Φ:EC}(hs:SeqC EG gf [pp b1,pp b2,pp b3] (R.map tR) Φ)(hΦ:∀X w,J X w->Φ w)(most:Int)(_:InR .i64 most)(X:ED)(w:Ez)(h0:J X w):
  Gv EG 19 [.func (.func gf) #[] #[pp b1,pp b2,pp b3],ii most] w fun r w'=>∃S Y,SeensX r S Y/\J (Y++X) w'/\S.map snP=(R.take most.toNat).map tP:=by
 have hQl:(R.map tR).length=R.length:=AC ..;refine gvW Jk Tryz.func19 rfl Tryz.ntmps19 rfl (zw ?_);refine NewV.carr hJ h0 fun b3' w1 h0=>zw ?_;refine NewV.carr hJ h0 fun b5 w2 h0=>zw ?_;refine⟨⟨.bool false,w2,?_,?_⟩⟩
 ·first|rfl|kernel_rfl
 (conv=>whnf);obtain⟨M,eM⟩:∃M:ED,M=(b3',.cells #[ii most] 3)::X:=⟨_,rfl⟩
 have h0:TJ J b5 R most.toNat M 0 [] w2:=⟨(.slice none 0 0,[],[]),⟨⟨[],[],rfl,RowX.nil _ _,rfl⟩,rfl,rfl,Am _⟩,by rw[eM];exact h0⟩
 have cS:=TJ.carr hJ b5 R most.toNat M;have hin:∀k X' w',TJ J b5 R most.toNat M k X' w'->Φ w':=fun k X' w' ⟨s,_,hh⟩=>hΦ _ _ hh
 refine zv ?_;refine qlk (m:=(R.map tR).length) (lb:=[pp b1,pp b2,pp b3]) rfl he Od
  (TJ J b5 R most.toNat M) (fun k r X' w'=>(R.map tR)[k]?=some r/\TJ J b5 R most.toNat M k X' w') (fun c k X' w'=>(c=.exit 0/\k=most.toNat)/\TJ J b5 R most.toNat M k X' w')
  (fun L0 Lx=>hs.toX (I:=fun k X w=>TJ J b5 R most.toNat M k (X++L0) w) (Ix:=fun k X w=>∃c,(c=.exit 0/\k=most.toNat)/\TJ J b5 R most.toNat M k (X++Lx c) w) (fun k=>(cS k).tail L0) (fun k=>Carr.any fun c=>Carr.and ((cS k).tail (Lx c))) (fun k X' w' hh=>hin k _ w' hh))
  (fun k r X' w' ⟨h1,_⟩=>by
   rw[Ao]at h1;cases h2:R[k]? with
   | none=>rw[h2]at h1;cases h1
   | some q=>rw[h2]at h1;cases h1;rfl) cS (fun k r=>Carr.and (cS k)) (fun c k=>Carr.and (cS k)) h0 ?_ ?_ ?_
 case refine_1=>
  rintro l D ob ob' k r X' w6 hk ⟨hr,hB⟩;obtain⟨q,b,hq,rfl⟩:∃q b,R[k]?=some (q,b)/\r=[qk q,.bool b]:=by
   rw[Ao]at hr;cases h2:R[k]? with
   | none=>rw[h2]at hr;cases hr
   | some q=>rw[h2]at hr;cases hr;exact⟨q.1,q.2,rfl,rfl⟩
  (conv=>whnf);refine NewV.carr (cS k) hB fun qb w7 hB=>zw ?_;refine StoreA.carr (vs:=qd q) (cS k) (A:=[]) hB rfl (qn q) fun w8 hB=>zw ?_;refine⟨rfl,(qb,.cells (qd q).toArray 26)::(D,.deferred (some []))::X',⟨hr,(cS k).perm hB (List.Perm.swap _ _ _)⟩,fun w9 hB2=>?_⟩;clear hB;obtain⟨_,⟨v,S,Y⟩,⟨hSn,hSp,hSl,hkm⟩,hB⟩:=hB2;dsimp only at hSn hSp hSl hB;obtain⟨Y1,Y2,rfl,hR,hN⟩:=id hSn;obtain⟨Av,cv,ev⟩:=hR.slice;subst ev;obtain⟨Z,eZ⟩:∃Z:ED,Z=(l,ob')::(qb,.cells (qd q).toArray 26)::(D,.deferred (some []))::X':=⟨_,rfl⟩
  rw[<-eZ]at hB;have hb5:(b5,Obj.cells #[.slice Av S.length cv] 34)∈Z++(Y1++Y2++(b5,Obj.cells #[.slice Av S.length cv] 34)::M):=by simp
  have hb3:(b3',Obj.cells #[ii most] 3)∈Z++(Y1++Y2++(b5,Obj.cells #[.slice Av S.length cv] 34)::M):=by rw[eM];simp
  have hqb:(qb,Obj.cells (qd q).toArray 26)∈Z++(Y1++Y2++(b5,Obj.cells #[.slice Av S.length cv] 34)::M):=by rw[eZ];simp
  have hkl:=(Ae.1 hq).1;(conv=>whnf);refine LoadV.own (hJ.get hB hb5) rfl (zw ?_);refine LoadV.own (hJ.get hB hb3) rfl (zw ?_);refine zC (fun _=>zw ?_) (fun _=>zw ?_)
  case' refine_1=>
   refine⟨⟨rfl,by omega⟩,(.slice Av S.length cv,S,Y1++Y2),⟨hSn,hSp,hSl,hkm⟩,?_⟩;rw[eZ]at hB;exact hJ.dropM (A:=[(l,ob')]) hB
  cases b
  all_goals
   refine zu ?_;refine LoadV.own (hJ.get hB hb5) rfl (zw ?_);refine LoadA.own (hJ.get hB hqb) rfl (zw ?_);refine NewV.carr hJ hB fun zb w10 hB=>zw ?_;refine NewV.carr hJ hB ?_;clear hB;intro nb w11 hB
  case false=>
   have hB:J (Y1++((nb,.cells (seC q (.slice (some ⟨zb,0,none⟩) 1 1)).toArray 40)::((zb,.cells #[ii 0] 3)::(Z++(Y2++(b5,.cells #[.slice Av S.length cv] 34)::M))))) w11:=hJ.perm hB (by
    refine List.Perm.trans (List.Perm.cons _ (List.Perm.cons _ ?_)) (Ci Y1 [_,_] _).symm;rw[Ak Y1];exact Ci _ _ _)
   (conv=>whnf);refine AppV.carr (m:=1) (news:=seC q (.slice (some ⟨zb,0,none⟩) 1 1)) hJ hB hR snSl snI snZ Jk Jk Od rfl (fun _=>⟨nb,0,rfl,fun j u hu=>by rw[qa (hJ.get hB (Ai _ mh)),Aw,Ar];exact hu⟩) (fun u hu=>by
    rcases Ba.1 hu with hu|hu
    ·exact qn q u hu
    ·rw[Ah.1 hu];rfl) (by rw[show((EG.info? 40).get Jk).bytes=248 from by kernel_rfl];omega) Oo ?_
   clear hB;intro A' c' Y1' w12 hR' hB;replace hB:=hJ.dropM hB;have hB:J ((Y1'++((zb,.cells #[ii 0] 3)::(Z++Y2)))++(b5,.cells #[.slice Av S.length cv] 34)::M) w12:=by simpa using hB
   (conv=>whnf);refine StoreV.carr hJ hB (by show 0<1;omega) rfl ?_;clear hB;intro w13 hB;have hB:J ((Y1'++((zb,.cells #[ii 0] 3)::(Z++Y2)))++(b5,.cells #[.slice A' (S.length+1) c'] 34)::M) w13:=hB;have pm:List.Perm (Y1'++((zb,Obj.cells #[ii 0] 3)::(Z++Y2))) (Z++(Y1'++(Y2++[(zb,Obj.cells #[ii 0] 3)]))):=by
    refine List.Perm.trans (Cl _ (AE (l₁:=[(zb,Obj.cells #[ii 0] 3)]) (l₂:=Z++Y2))) ?_;rw[Ak];exact Ci _ _ _
   replace hB:=hJ.perm hB (pm.append_right _);rw[eZ,Ak]at hB;replace hB:=hJ.dropM (A:=[(l,ob')]) hB;have hzr:RowX 3 1 (.slice (some ⟨zb,0,none⟩) 1 1) 1 (zsV [0]) [(zb,.cells #[ii 0] 3)]:=⟨rfl,.inr ⟨zb,1,_,rfl,rfl,Aq _,by decide,rfl,rfl⟩⟩
   have hN':=NsX.snoc (s:=⟨q,[0],.slice (some ⟨zb,0,none⟩) 1 1⟩) hzr hN;have hSl1:(S++[(⟨q,[0],.slice (some ⟨zb,0,none⟩) 1 1⟩:SnE)]).length=S.length+1:=by rw[zla];rfl
   (conv=>whnf);refine⟨(.slice A' (S.length+1) c',S++[(⟨q,[0],.slice (some ⟨zb,0,none⟩) 1 1⟩:SnE)],Y1'++(Y2++[(zb,Obj.cells #[ii 0] 3)])),⟨⟨Y1',Y2++[(zb,Obj.cells #[ii 0] 3)],rfl,?_,hN'⟩,?_,by dsimp only;omega,by omega⟩,hB⟩
   ·dsimp only;rw[hSl1,AB,CN]
    simpa[snC]using hR'
   ·dsimp only;rw[BJ,hq,AB,AB,hSp];rfl
  case true=>
   have hB:J (Y1++((nb,.cells (seC q (.slice (some ⟨zb,0,none⟩) 1 1)).toArray 40)::((zb,.cells #[ii 1] 3)::(Z++(Y2++(b5,.cells #[.slice Av S.length cv] 34)::M))))) w11:=hJ.perm hB (by
    refine List.Perm.trans (List.Perm.cons _ (List.Perm.cons _ ?_)) (Ci Y1 [_,_] _).symm;rw[Ak Y1];exact Ci _ _ _)
   (conv=>whnf);refine AppV.carr (m:=1) (news:=seC q (.slice (some ⟨zb,0,none⟩) 1 1)) hJ hB hR snSl snI snZ Jk Jk Od rfl (fun _=>⟨nb,0,rfl,fun j u hu=>by rw[qa (hJ.get hB (Ai _ mh)),Aw,Ar];exact hu⟩) (fun u hu=>by
    rcases Ba.1 hu with hu|hu
    ·exact qn q u hu
    ·rw[Ah.1 hu];rfl) (by rw[show((EG.info? 40).get Jk).bytes=248 from by kernel_rfl];omega) Oo ?_
   clear hB;intro A' c' Y1' w12 hR' hB;replace hB:=hJ.dropM hB;have hB:J ((Y1'++((zb,.cells #[ii 1] 3)::(Z++Y2)))++(b5,.cells #[.slice Av S.length cv] 34)::M) w12:=by simpa using hB
   (conv=>whnf);refine StoreV.carr hJ hB (by show 0<1;omega) rfl ?_;clear hB;intro w13 hB;have hB:J ((Y1'++((zb,.cells #[ii 1] 3)::(Z++Y2)))++(b5,.cells #[.slice A' (S.length+1) c'] 34)::M) w13:=hB;have pm:List.Perm (Y1'++((zb,Obj.cells #[ii 1] 3)::(Z++Y2))) (Z++(Y1'++(Y2++[(zb,Obj.cells #[ii 1] 3)]))):=by
    refine List.Perm.trans (Cl _ (AE (l₁:=[(zb,Obj.cells #[ii 1] 3)]) (l₂:=Z++Y2))) ?_;rw[Ak];exact Ci _ _ _
   replace hB:=hJ.perm hB (pm.append_right _);rw[eZ,Ak]at hB;replace hB:=hJ.dropM (A:=[(l,ob')]) hB;have hzr:RowX 3 1 (.slice (some ⟨zb,0,none⟩) 1 1) 1 (zsV [1]) [(zb,.cells #[ii 1] 3)]:=⟨rfl,.inr ⟨zb,1,_,rfl,rfl,Aq _,by decide,rfl,rfl⟩⟩
   have hN':=NsX.snoc (s:=⟨q,[1],.slice (some ⟨zb,0,none⟩) 1 1⟩) hzr hN;have hSl1:(S++[(⟨q,[1],.slice (some ⟨zb,0,none⟩) 1 1⟩:SnE)]).length=S.length+1:=by rw[zla];rfl
   (conv=>whnf);refine⟨(.slice A' (S.length+1) c',S++[(⟨q,[1],.slice (some ⟨zb,0,none⟩) 1 1⟩:SnE)],Y1'++(Y2++[(zb,Obj.cells #[ii 1] 3)])),⟨⟨Y1',Y2++[(zb,Obj.cells #[ii 1] 3)],rfl,?_,hN'⟩,?_,by dsimp only;omega,by omega⟩,hB⟩
   ·dsimp only;rw[hSl1,AB,CN]
    simpa[snC]using hR'
   ·dsimp only;rw[BJ,hq,AB,AB,hSp];rfl
 case refine_2=>
  rintro D w6 hh;obtain⟨⟨v,S,Y⟩,⟨hSn,hSp,hSl,hkm⟩,hB⟩:=hh;dsimp only at hSn hSp hSl hB;rw[hQl]at hkm hSp;obtain⟨Y1,Y2,rfl,hR,hN⟩:=id hSn;obtain⟨Av,cv,ev⟩:=hR.slice;subst ev;(conv=>whnf);refine LoadV.own (hJ.get hB (Ai _ (Ai _ mh))) rfl (zw ?_);refine LeaveV.marks (J:=fun X' w'=>J (X'++((Y1++Y2)++(b5,.cells #[.slice Av S.length cv] 34)::M)) w') (hJ.tail _) ?_ (D:=D) (Ds:=[]) hB;intro w' h';(conv=>whnf);rw[eM]at h';exact⟨S,_,hSn,hJ.dropM (hJ.dropM h'),by rw[hSp];congr 1;rw[Bg,AF hkm]⟩
 case refine_3=>
  rintro D c k w6 hk ⟨⟨rfl,hkm2⟩,hh⟩;obtain⟨⟨v,S,Y⟩,⟨hSn,hSp,hSl,hkm⟩,hB⟩:=hh;dsimp only at hSn hSp hSl hB;obtain⟨Y1,Y2,rfl,hR,hN⟩:=id hSn;obtain⟨Av,cv,ev⟩:=hR.slice;subst ev;(conv=>whnf);refine LoadV.own (hJ.get hB (Ai _ (Ai _ mh))) rfl (zw ?_);refine LeaveV.marks (J:=fun X' w'=>J (X'++((Y1++Y2)++(b5,.cells #[.slice Av S.length cv] 34)::M)) w') (hJ.tail _) ?_ (D:=D) (Ds:=[]) hB;intro w' h';(conv=>whnf);rw[eM]at h';exact⟨S,_,hSn,hJ.dropM (hJ.dropM h'),by rw[hSp];congr 1;rw[hkm2]⟩
end Go.Proofs.YtacnkdagblbgfaaGreatDoor
