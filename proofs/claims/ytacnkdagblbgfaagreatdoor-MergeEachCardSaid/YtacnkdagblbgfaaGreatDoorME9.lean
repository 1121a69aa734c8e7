/- Lemmas and contracts of functions on the way to the law's card (part 9 of 11). -/
import Derived.Test.YtacnkdagblbgfaaGreatDoorME8
import Derived.Lib.LaidTab
import Derived.Test.YtacnkdagblbgfaaGreatDoorRows
import Derived.Deep.DeepHandedRow
import Derived.ProofKit
import Derived.OpenShut
import Derived.LaidHandle
import Derived.Shelf.Vars
namespace Go.Proofs.YtacnkdagblbgfaaGreatDoor
set_option maxHeartbeats 8000000
open Go.RowKit V
set_option maxHeartbeats 8000000
set_option maxRecDepth 100000
theorem qacp(S:List Bool):boF (laN S)=laT S:=funext fun t=>q9f S t
def boV(l:List Bool):Ez:=l.map Value.bool
theorem qgm(l:List Bool):(boV l).length=l.length:=by simp[boV]
def eD(m:Nat):Ew:=if m%2=0 then 125 else 4
theorem qr2(j:Nat):eD (2*j)=125:=Ad Oo
theorem qzd(j:Nat):eD (2*j+1)=4:=Aa Oo
structure RdS(w w':Et)(rb:Nat)(U G:Nat->Value)(L:Nat->Ez):Prop where
 sep:Sep w w' (rwF [] rb G)
 tab:w'.heap[rb]?=some (.cells (fnA 8 U) 152)
 row:∀m,m<8->w'.ownsRow 0 (eD m) 1 (G m) (L m).length (L m)
section
variable {w w1 w2:Et} {rb:Nat} {U G:Nat->Value} {L:Nat->Ez}
theorem RdS.call(h:RdS w w1 rb U G L)(he:Ext w1 w2):RdS w w2 rb U G L:=⟨h.sep.call he,he.get h.tab,fun m hm=>qa0 (h.row m hm) he⟩
theorem RdS.chg(h:RdS w w1 rb U G L){m:Nat}(hm:m<8){v:Value}{x:Ez}(ho:w2.ownsRow 0 (eD m) 1 v x.length x)(hc:Chn (rowF (G m)) w1 w2)(hn:∀j∈rowF v,(j∈rowF (G m)\/w1.heap.size<=j)/\j<w2.heap.size):
  RdS w w2 rb U (updF G m v) (updR L m x):=by
 have hs:=h.sep.row (i:=m+2) (qvs [] rb G hm) hc hn;refine⟨by rw[<-qaa1];exact hs.sep,?_,fun j hj=>?_⟩
 ·rw[hs.keep 1 [rb] rfl Oo rb (Ak.2 rfl)];exact h.tab
 ·by_cases e:j=m
  ·subst e;rw[qgz,qi6];exact ho
  ·rw[qak _ _ _ _ e,qfq _ _ _ e];exact qcf (h.row j hj) fun i hi=>hs.keep (j+2) _ (qvs [] rb G hj) Oo i hi
theorem RdS.store(h:RdS w w1 rb U G L){m:Nat}(hm:m<8){v:Value}{K:Et->Prop}(h1:qcx v=true)(hK:∀w2,RdS w w2 rb (updF U m v) G L->K w2):StoreV w1 rb m v K:=by
 refine StoreV.own h.tab (by rw[qz];exact hm) h1 fun w2 hw=>?_;obtain⟨hc,hg⟩:=Chn.set h.tab hw;have hs:=h.sep.row (i:=1) (F':=[rb]) rfl hc fun j hj=>⟨.inl hj,by rw[Ak.1 hj];exact qe6 hg⟩
 exact hK w2 ⟨hs.sep,by rw[hg,qik],fun j hj=>qcf (h.row j hj) fun i hi=>hs.keep (j+2) _ (qvs [] rb G hj) Oo i hi⟩
theorem RdS.eqL{M:Nat->Ez}(h:RdS w w1 rb U G L)(e:∀m,m<8->L m=M m):RdS w w1 rb U G M:=
 ⟨h.sep,h.tab,fun m hm=>by rw[<-e m hm];exact h.row m hm⟩
theorem RdS.cell(h:RdS w w1 rb G G L){m j:Nat}(hm:m<8)(hj:j<(L m).length){A:oA}{c:Nat}(hG:G m=.slice A (L m).length c){v:Value}(hv:qcx v=true):∃g,A=some ⟨g,0,none⟩/\∀(K:Et->Prop),(∀w2,RdS w w2 rb G G (updR L m ((L m).set j v))->K w2)->StoreV w1 g j v K:=by
 have hr:=h.row m hm;rw[hG]at hr;obtain⟨g,hA,cur,hg,hcs⟩:∃g,A=some ⟨g,0,none⟩/\∃cur,w1.heap[g]?=some (.cells cur (eD m))/\(L m).length<=cur.size:=by
  rcases hr.2 with⟨q1,q2⟩|⟨g,cap,cur,q1,_,hg,q3,_,q4,q5⟩
  ·exfalso;omega
  ·cases q1;exact⟨g,rfl,cur,hg,by omega⟩
 subst hA;refine⟨g,rfl,fun K hK=>StoreV.own hg Oo hv fun w2 hw=>?_⟩;obtain⟨ho,hc⟩:=qaab hr rfl hj hw;have hl:((L m).set j v).length=(L m).length:=C9;have h9:=h.chg hm (v:=.slice (some ⟨g,0,none⟩) (L m).length c) (x:=(L m).set j v) (by rw[hl];exact ho) (by rw[hG];exact hc) (by
  rw[hG];intro k hk;refine⟨.inl hk,?_⟩;rw[Ak.1 hk];exact Bx (qe6 hg) hc.size)
 have eG:∀i,updF G m (.slice (some ⟨g,0,none⟩) (L m).length c) i=G i:=fun i=>by
  by_cases e:i=m
  ·subst e;rw[qgz,hG]
  ·rw[qak _ _ _ _ e]
 rw[show updF G m (.slice (some ⟨g,0,none⟩) (L m).length c)=G from funext eG]at h9;exact hK w2 h9
end
def RdI(w w7:Et)(rb:Nat)(G:Nat->Value)(L:Nat->Ez)(j x:Nat)(s4 s12 s13 s16:Bool)(v12 v13:Value)(w':Et):Prop:=
 (s13=false/\s16=false/\Ext w7 w'/\(s12=true->∃nb,v12=.slice (some ⟨nb,0,none⟩) 1 1/\w'.heap[nb]?=some (.cells #[.int .u64 x] 125)))\/
 (s12=true/\s13=true/\s16=false/\∃A c,v13=.slice A ((L (2*j)).length+1) c/\RdS w w' rb G (updF G (2*j) (.slice A ((L (2*j)).length+1) c)) (updR L (2*j) (L (2*j)++[.int .u64 x])))\/
 (s4=true/\s12=true/\s13=true/\s16=true/\∃G',RdS w w' rb G' G' (updR L (2*j) (L (2*j)++[.int .u64 x])))
section
variable {w w7 w':Et} {rb:Nat} {G:Nat->Value} {L:Nat->Ez} {j x:Nat} {s4 s12 s13 s16:Bool} {v12 v13:Value}
theorem RdI.ext(h:RdI w w7 rb G L j x s4 s12 s13 s16 v12 v13 w')(h7:Ext w w7):Ext w w':=by
 rcases h with⟨_,_,h,_⟩|⟨_,_,_,_,_,_,h⟩|⟨_,_,_,_,_,h⟩
 ·exact h7.trans h
 ·exact h.sep.ext
 ·exact h.sep.ext
theorem RdI.four(h:RdI w w7 rb G L j x false s12 s13 s16 v12 v13 w')(h7:RdS w w7 rb G G L):w'.heap[rb]?=some (.cells (fnA 8 G) 152)/\RdI w w7 rb G L j x true s12 s13 s16 v12 v13 w':=by
 rcases h with⟨h1,h2,h3,h4⟩|⟨h1,h2,h3,A,c,h4,h5⟩|⟨h,_⟩
 ·exact⟨h3.get h7.tab,.inl ⟨h1,h2,h3,h4⟩⟩
 ·exact⟨h5.tab,.inr (.inl ⟨h1,h2,h3,A,c,h4,h5⟩)⟩
 ·cases h
theorem RdI.twelve(h:RdI w w7 rb G L j x s4 false s13 s16 v12 v13 w'){w2:Et}{b:Nat}(hb:b=w'.heap.size)(hw:w2=w'.alloc (.cells #[.int .u64 x] 125)):RdI w w7 rb G L j x s4 true s13 s16 (.slice (some ⟨b,0,none⟩) 1 1) v13 w2:=by
 rcases h with⟨h1,h2,h3,_⟩|⟨h,_⟩|⟨_,h,_⟩
 ·have he:Ext w' w2:=by rw[hw];exact(Ext.refl w').alloc _
  exact .inl ⟨h1,h2,h3.trans he,fun _=>⟨b,rfl,by rw[hw,hb];exact heap_alloc_new w' _⟩⟩
 ·cases h
 ·cases h
theorem RdI.thirteen(h:RdI w w7 rb G L j x s4 true false s16 v12 v13 w'):s16=false/\Ext w7 w'/\∃nb,v12=.slice (some ⟨nb,0,none⟩) 1 1/\w'.heap[nb]?=some (.cells #[.int .u64 x] 125):=by
 rcases h with⟨_,h2,h3,h5⟩|⟨_,h,_⟩|⟨_,_,h,_⟩
 ·exact⟨h2,h3,h5 rfl⟩
 ·cases h
 ·cases h
theorem RdI.sixteen(h:RdI w w7 rb G L j x s4 s12 true false v12 v13 w'):s12=true/\∃A c,v13=.slice A ((L (2*j)).length+1) c/\RdS w w' rb G (updF G (2*j) (.slice A ((L (2*j)).length+1) c)) (updR L (2*j) (L (2*j)++[.int .u64 x])):=by
 rcases h with⟨h,_⟩|⟨h1,_,_,h2⟩|⟨_,_,_,h,_⟩
 ·cases h
 ·exact⟨h1,h2⟩
 ·cases h
theorem RdI.end_(h:RdI w w7 rb G L j x s4 s12 s13 true v12 v13 w'):∃G',RdS w w' rb G' G' (updR L (2*j) (L (2*j)++[.int .u64 x])):=by
 rcases h with⟨_,h,_⟩|⟨_,_,h,_⟩|⟨_,_,_,_,h⟩
 ·cases h
 ·cases h
 ·exact h
end
def LdQ(Q:Nat->Nat->Nat)(i m:Nat):Ez:=if m%2=0 then u64V (nuT Q (m/2) i)else boV (laM (stJ Q (m/2) i))
def LmQ(Q:Nat->Nat->Nat)(i k m:Nat):Ez:=if m/2<k then LdQ Q (i+1) m else LdQ Q i m
def LfQ(Q:Nat->Nat->Nat)(n k m:Nat):Ez:=if m%2=1/\m/2<k then boV (laN (stJ Q (m/2) n))else LdQ Q n m
theorem qm7(Q:Nat->Nat->Nat)(i j:Nat):LdQ Q i (2*j)=u64V (nuT Q j i):=by rw[LdQ,Ad Oo,show 2*j/2=j by omega]
theorem qru(Q:Nat->Nat->Nat)(i j:Nat):LdQ Q i (2*j+1)=boV (laM (stJ Q j i)):=by rw[LdQ,Aa Oo,show(2*j+1)/2=j by omega]
theorem q29{Q:Nat->Nat->Nat}{i m:Nat}(h:frU Q i (m/2)=false):LdQ Q (i+1) m=LdQ Q i m:=by rw[LdQ,LdQ,q47 h,q5y h]
theorem q3c(Q:Nat->Nat->Nat)(i m:Nat):LmQ Q i 0 m=LdQ Q i m:=Aa Oo
theorem q73(Q:Nat->Nat->Nat)(i:Nat){m:Nat}(h:m<8):LmQ Q i 4 m=LdQ Q (i+1) m:=Ad Oo
theorem qt5(Q:Nat->Nat->Nat)(i k:Nat):LmQ Q i k (2*k)=u64V (nuT Q k i):=by rw[LmQ,Aa Oo,qm7]
theorem qm8(Q:Nat->Nat->Nat)(i k:Nat):LmQ Q i k (2*k+1)=boV (laM (stJ Q k i)):=by rw[LmQ,Aa Oo,qru]
theorem q3b{Q:Nat->Nat->Nat}{i k:Nat}(h:frU Q i k=false)(m:Nat):LmQ Q i k m=LmQ Q i (k+1) m:=by
 rw[LmQ,LmQ]
 by_cases g:m/2<k
 ·rw[Ad g,Ad Oo]
 ·by_cases g2:m/2=k
  ·rw[Aa g,Ad Oo,q29 (by rw[g2];exact h)]
  ·rw[Aa g,Aa Oo]
theorem q74{Q:Nat->Nat->Nat}{i k:Nat}(h:frU Q i k=true){X:List Bool}(hX:X=(laM (stJ Q k i)).set ((stJ Q k i).length-1) (if k=0 then false else frU Q i (k-1))){L:Nat->Ez}(hL:∀m,m≠2*k->m≠2*k+1->L m=LmQ Q i k m)(m:Nat):
  updR (updR L (2*k) (u64V (nuT Q k i)++[.int .u64 (Q i k:Nat)])) (2*k+1) (boV (X++[false])) m=LmQ Q i (k+1) m:=by
 by_cases e:m=2*k+1
 ·subst e;rw[qi6,LmQ,Ad Oo,qru,qaa8 h,q4s,hX]
 ·rw[qfq _ _ _ e]
  by_cases e2:m=2*k
  ·subst e2;rw[qi6,LmQ,Ad Oo,qm7,q92 h,u64V,u64V,AG];rfl
  ·rw[qfq _ _ _ e2,hL m e2 e,LmQ,LmQ]
   by_cases g:m/2<k
   ·rw[Ad g,Ad Oo]
   ·rw[Aa g,Aa Oo]
theorem q3a(Q:Nat->Nat->Nat)(n m:Nat):LdQ Q n m=LfQ Q n 0 m:=(Aa Oo).symm
theorem qt3(Q:Nat->Nat->Nat)(n k j:Nat):LfQ Q n k (2*j)=u64V (nuT Q j n):=by rw[LfQ,Aa Oo,qm7]
theorem qrv(Q:Nat->Nat->Nat)(n k:Nat):LfQ Q n k (2*k+1)=boV (laM (stJ Q k n)):=by rw[LfQ,Aa Oo,qru]
theorem qt2(Q:Nat->Nat->Nat)(n:Nat){j k:Nat}(h:j<k):LfQ Q n k (2*j+1)=boV (laN (stJ Q j n)):=by rw[LfQ,Ad Oo,show(2*j+1)/2=j by omega]
theorem qt4(Q:Nat->Nat->Nat)(n k m:Nat):updR (LfQ Q n k) (2*k+1) ((LfQ Q n k (2*k+1)).set ((stJ Q k n).length-1) (.bool true)) m=LfQ Q n (k+1) m:=by
 by_cases e:m=2*k+1
 ·subst e;rw[qi6,qrv,qt2 Q n (Dh k),<-q9g,boV,boV,DO]
 ·rw[qfq _ _ _ e,LfQ,LfQ]
  by_cases g:m%2=1/\m/2<k
  ·rw[Ad g,Ad Oo]
  ·rw[Aa g,Aa Oo]
theorem q72{Q:Nat->Nat->Nat}{n k:Nat}(h:(stJ Q k n).length=0)(m:Nat):LfQ Q n k m=LfQ Q n (k+1) m:=by
 rw[<-qt4,h]
 by_cases e:m=2*k+1
 ·subst e;have h0:=AZ h;rw[qi6,qrv,h0];rfl
 ·rw[qfq _ _ _ e]
def LvlR(Q:Nat->Nat->Nat)(n:Nat)(w:Et)(r:Value):Prop:=
 ∃(NA LA:Nat->oA) (NC LC:Nat->Nat),r=.agg #[.slice (NA 0) (leT Q 0 n) (NC 0),.slice (LA 0) (leT Q 0 n) (LC 0),.slice (NA 1) (leT Q 1 n) (NC 1),.slice (LA 1) (leT Q 1 n) (LC 1),
  .slice (NA 2) (leT Q 2 n) (NC 2),.slice (LA 2) (leT Q 2 n) (LC 2),.slice (NA 3) (leT Q 3 n) (NC 3),.slice (LA 3) (leT Q 3 n) (LC 3)]/\
  (∀j,j<4->SlAt encU 1 w (NA j) (nuT Q j n))/\∀j,j<4->SlAt encO 1 w (LA j) (laN (stJ Q j n))
theorem qqk(Q:Nat->Nat->Nat)(A:oA)(n c:Nat)(w:Et)(hS:SlAt idsE 4 w A ((List.range n).map Q))(hQ:TOk Q n):
  Gv E4 79 [.slice A n c] w fun r w'=>LvlR Q n w' r/\Ext w w':=by
 have hnl:=hQ.nle;have hlen:((List.range n).map Q).length=n:=by simp
 have hat:∀i (hi:i<((List.range n).map Q).length),((List.range n).map Q)[i]=Q i:=fun i hi=>by simp
 have hns:∀j i,i<=n->(nuT Q j i).length<=1048576:=fun j i hi=>by have:=q0k (Q:=Q) j i;show leT Q j i<=_;omega
 have t2:tsz E4 151=2:=by kernel_rfl
 have t1:tsz E4 3=1:=by kernel_rfl
 refine ze Tryz.func79 Tryz.ntmps79 ?_;refine⟨fun r2 w1 hr2 hw1=>?_⟩;have he1:Ext w w1:=by rw[hw1];exact(Ext.refl w).alloc _
 have hr2c:w1.heap[r2]?=some (.cells #[.slice none 0 0,.slice none 0 0,.slice none 0 0,.slice none 0 0,.slice none 0 0,.slice none 0 0,.slice none 0 0,.slice none 0 0] 152):=by rw[hw1,hr2];exact heap_alloc_new w _
 have hr2n:w.heap.size<=r2:=by omega
 clear hr2 hw1;(conv=>whnf);refine⟨fun rb w2 hrb hw2=>?_⟩;have h0:RdS w1 w2 rb (fun _=>.slice none 0 0) (fun _=>.slice none 0 0) (LdQ Q 0):=by
  have hall:∀F∈(List.range 8).map (fun _:Nat=>rowF (.slice none 0 0)),F=[]:=fun F hF=>by
   obtain⟨_,_,rfl⟩:=Bc.1 hF;rfl
  have s0:Sep w1 w1 ((List.range 8).map fun _=>rowF (.slice none 0 0)):=by
   refine⟨Ext.refl w1,fun F hF k hk=>?_,Ce.2 fun i j hi hj _ k hk=>?_⟩
   ·rw[hall F hF]at hk;cases hk
   ·rw[hall _ (AT hi)]at hk;cases hk
  obtain⟨s1,hg⟩:=s0.new hrb hw2;refine⟨s1.add (F:=[]) (Ext.refl w2) (fun k hk=>by cases hk),hg,fun m hm=>?_⟩;have e:LdQ Q 0 m=[]:=by
   rw[LdQ]
   split
   ·rfl
   ·rw[stJ]
    split<;>rfl
  rw[e];exact World.ownsRow_nil _ _ _ _
 clear hrb hw2;(conv=>whnf);refine qj (fun i:Nat=>[(0,.slice A n c),(2,pp r2),(3,pp rb),(4,ii i)])
  (fun i w'=>i<=n/\∃G,RdS w1 w' rb G G (LdQ Q i)) (fun i=>n-i) 0 ⟨rfl,rfl,rfl,rfl,trivial⟩ ⟨Am _,_,h0⟩ ?_
 clear h0;rintro i w3 ρ' ⟨i1,G,hR⟩;(conv=>whnf);refine zC (fun _=>zw ?_) (fun _=>zw ?_)
 ·have hi:i<n:=by omega
  refine qj (fun k:Nat=>[(0,.slice A n c),(2,pp r2),(3,pp rb),(4,ii i),(5,.bool (smQ Q i k)),(6,ii k)])
   (fun k w'=>k<=4/\∃G,RdS w1 w' rb G G (LmQ Q i k)) (fun k=>4-k) 0 ⟨rfl,rfl,rfl,rfl,Af Value.bool (by rw[smQ,Ad rfl,AX];simp),rfl,trivial⟩ ⟨Am _,G,hR.eqL fun m _=>(q3c Q i m).symm⟩ ?_
  clear hR;rintro k w4 ρ2 ⟨k1,G,hR⟩;(conv=>whnf);refine zC (fun _=>zu ?_) (fun _=>zu ?_)
  ·have hk4:k<4:=by omega
   have hsm:=qace Q i k;obtain⟨b,eb⟩:∃b,b=smQ Q i k:=⟨_,rfl⟩
   rw[<-eb]at hsm|-;obtain⟨A0,c0,e0⟩:=qa6 (hR.row (2*k) Oo);obtain⟨A1,c1,e1⟩:=qa6 (hR.row (2*k+1) Oo);have hl0:(LmQ Q i k (2*k)).length=(nuT Q k i).length:=by rw[qt5,qeq]
   have hl1:(LmQ Q i k (2*k+1)).length=(nuT Q k i).length:=by rw[qm8,qgm,qb0,qgx];rfl
   have hsl:(stJ Q k i).length=(nuT Q k i).length:=qgx Q k i;have o0:(fnA 8 G)[0+k*tsz E4 151+0]?=some (.slice A0 (nuT Q k i).length c0):=by rw[t2,show 0+k*2+0=2*k by omega,qdd 8 G _ Oo,e0,hl0]
   have o1:(fnA 8 G)[0+k*tsz E4 151+1]?=some (.slice A1 (nuT Q k i).length c1):=by rw[t2,show 0+k*2+1=2*k+1 by omega,qdd 8 G _ Oo,e1,hl1]
   have hnk:=hns k i i1;obtain⟨ab,ao,eA,hcl⟩:=hS.at_ (by intro e;rw[e]at hlen;simp at hlen;omega);have hcell:=hcl i _ (zge (by rw[hlen];omega));rw[hat]at hcell;subst eA;have heW:Ext w w4.drew:=he1.trans hR.sep.ext.drew;cases b
   case' true=>
    have h0i:=qaa7 eb.symm;have hp1:=hcell.ext heW;have hp2:=(hcl (i-1) _ (zge (by rw[hlen];omega))).ext heW;rw[hat]at hp2;have hb:(if k=0 then false else frU Q i (k-1))=false:=by
     rw[smQ]at eb
     split at eb
     ·rename_i g;rw[Ad g]
     ·rename_i g;rw[Aa g];simpa using eb.symm
    have hR:=hR.call (Ext.refl w4).drew;refine zy ?_;generalize w4.drew=w5 at *;refine zv ?_;refine⟨⟨ab,ao,i,rfl,by omega,by omega,?_⟩⟩;refine zu ?_;refine LoadV.of (by rw[t1,Be];exact hp1 k _ (qef (Q i) Oo)) (zu ?_);refine⟨⟨ab,ao,i-1,rfl,by omega,by omega,?_⟩⟩;refine zu ?_;refine LoadV.of (by rw[t1,Be];exact hp2 k _ (qef (Q (i-1)) Oo)) (zw ?_);refine zt ?_;refine zC (fun _=>zu ?_) (fun _=>zu ?_)
    ·have hq:Q i k=Q (i-1) k:=by omega
     have hf:frU Q i k=false:=by rw[hsm,AD hq];rfl
     exact⟨k+1,⟨rfl,rfl,rfl,rfl,Af Value.bool (by rw[qj9,hf,hq];simp),Af (Value.int .i64) Oo,trivial⟩,⟨by omega,G,hR.eqL fun m _=>q3b hf m⟩,by omega⟩
    have hq:Q i k≠Q (i-1) k:=by omega
    have hf:frU Q i k=true:=by rw[hsm,AJ hq];rfl
    have hsl5:(decide ((Q i k:Int)=(Q (i-1) k:Int)))=smQ Q i (k+1):=by rw[qj9,hf];exact AJ Oo
    refine LoadV.own hR.tab o0 (zw ?_);refine zC (fun _=>zu ?_) (fun _=>zu ?_)
    all_goals have hst:∃L5 X,RdS w1 w5 rb G G L5/\(∀m,m≠2*k+1->L5 m=LmQ Q i k m)/\L5 (2*k+1)=boV X/\X=(laM (stJ Q k i)).set ((stJ Q k i).length-1) (if k=0 then false else frU Q i (k-1)):=
     ⟨_,laM (stJ Q k i),hR,fun m _=>rfl,qm8 Q i k,by rw[hb,q4r]⟩
    all_goals clear hp1 hp2 h0i hq hb
   case' false=>
    have hf:frU Q i k=true:=hsm;have hR:=hR.call (Ext.refl w4).drew;have hsl5:false=smQ Q i (k+1):=by rw[qj9,hf];rfl
    refine zy ?_;generalize w4.drew=w5 at *;refine zv ?_;refine LoadV.own hR.tab o0 (zw ?_);refine zC (fun _=>zu ?_) (fun _=>zu ?_)
    case' refine_2=>
     have h0:laM (stJ Q k i)=[]:=AZ (by rw[qb0];omega);have hst:∃L5 X,RdS w1 w5 rb G G L5/\(∀m,m≠2*k+1->L5 m=LmQ Q i k m)/\L5 (2*k+1)=boV X/\X=(laM (stJ Q k i)).set ((stJ Q k i).length-1) (if k=0 then false else frU Q i (k-1)):=
      ⟨_,[],hR,fun m _=>rfl,by rw[qm8,h0],by rw[h0];rfl⟩
    case' refine_1=>
     have hk0:k≠0:=fun e=>by
      subst e;rw[smQ,Ad rfl]at eb;have:¬0<i:=of_decide_eq_false eb.symm;have e0:i=0:=by omega
      subst e0;have:(nuT Q 0 0).length=0:=rfl;omega
     have hb:(if k=0 then false else frU Q i (k-1))=true:=by rw[smQ,Aa hk0]at eb;rw[Aa hk0];simpa using eb.symm
     refine LoadV.own hR.tab o1 (zu ?_);obtain⟨g,hA1,hst⟩:=hR.cell (m:=2*k+1) (j:=(nuT Q k i).length-1) Oo (by rw[hl1];omega) e1 (v:=.bool true) rfl;subst hA1;refine ElemV.own1 ((nuT Q k i).length-1) Oo Oo (zw ?_);refine hst _ ?_;clear hR hst;intro w5 hR;(conv=>whnf);have hst:∃L5 X,RdS w1 w5 rb G G L5/\(∀m,m≠2*k+1->L5 m=LmQ Q i k m)/\L5 (2*k+1)=boV X/\X=(laM (stJ Q k i)).set ((stJ Q k i).length-1) (if k=0 then false else frU Q i (k-1)):=
      ⟨_,(laM (stJ Q k i)).set ((nuT Q k i).length-1) true,hR,fun m hm=>qfq _ _ _ hm,by rw[qi6,qm8,boV,boV,DO],by rw[hb,hsl]⟩
   all_goals
    obtain⟨L5,X,hR5,hL5,h5o,hX⟩:=hst;have h5n:L5 (2*k)=u64V (nuT Q k i):=by rw[hL5 _ Oo,qt5]
    have hXl:X.length=(nuT Q k i).length:=by rw[hX,C9,qb0,hsl]
    have hqk:=hQ.small hi hk4;have hl5:(L5 (2*k)).length=(nuT Q k i).length:=by rw[h5n,qeq]
    clear hR e1 hl1 o1;have hRD:=hR5.call (Ext.refl w5).drew;refine DrawV.gen (fun S vals w'=>RdI w1 w5.drew rb G L5 k (Q i k) (S 4) (S 12) (S 13) (S 16) (vals 12) (vals 13) w') rfl Jk (fun vals=>.inl ⟨rfl,rfl,xr,fun h=>(by cases h)⟩) (zw ?_);(iterate 4 (refine zg ?_));refine StepG.of (.slice A0 (nuT Q k i).length c0) (fun S vals wd hk hp hI=>?_) (zw ?_)
    ·dsimp only at hI;rw[hk]at hI;obtain⟨ht,hI⟩:=hI.four hRD;(conv=>whnf);refine LoadV.own ht o0 (zw ?_);exact⟨rfl,hI⟩
    (iterate 3 (refine zg ?_));refine StepG.of (.pointer (some ⟨ab,ao+i*4,none⟩)) (fun S vals wd hk hp hI=>zw ?_) (zw ?_)
    ·refine⟨⟨ab,ao,i,rfl,by omega,by omega,?_⟩⟩;rw[show tsz E4 101=4 from by kernel_rfl];(conv=>whnf);exact⟨rfl,hI⟩
    refine zg ?_;refine StepG.of (ii (Q i k:Nat)) (fun S vals wd hk hp hI=>zw ?_) (zw ?_)
    ·refine LoadV.of (by rw[t1,Be];exact(hcell.ext (he1.trans (hI.ext hRD.sep.ext))) k _ (qef (Q i) hk4)) (zw ?_);exact⟨rfl,hI⟩
    refine StepG.of (.int .u64 (Q i k:Nat)) (fun S vals wd hk hp hI=>?_) (zw ?_)
    ·refine zu ?_;exact⟨rfl,hI⟩
    refine StepG.any (fun S vals wd hk hp hI=>?_) (zw ?_)
    ·dsimp only at hI;rw[hk]at hI;(conv=>whnf);refine⟨fun b w' hb hw=>?_⟩;(conv=>whnf);exact⟨trivial,hI.twelve hb hw⟩
    refine StepG.any (fun S vals wd hk hp hI=>?_) (zw ?_)
    ·dsimp only at hI;have h12:S 12=true:=hp 12 Od;rw[hk,h12]at hI;obtain⟨h16,he7,nb,hv,hnb⟩:=hI.thirteen;have hRd:=hRD.call he7;have hr:=hRd.row (2*k) Oo;rw[e0,h5n,qeq,hl0,qr2]at hr;rw[qk hv];(conv=>whnf);refine AppV.cell qadn u64I u64Z Jk rfl (by decide +kernel) hr hnb rfl Oo ?_;intro A' c' w8 ho hch hnew;have hch:Chn (rowF (G (2*k))) wd w8:=by rw[e0,hl0];exact hch
     have hnew:∀j∈rowF (.slice A' ((L5 (2*k)).length+1) c'),(j∈rowF (G (2*k))\/wd.heap.size<=j)/\j<w8.heap.size:=by rw[e0,hl0,hl5];exact hnew
     (conv=>whnf);exact⟨trivial,.inr (.inl ⟨h12,rfl,h16,A',c',(by rw[hl5];rfl),hRd.chg Oo (by rw[zla,Bh,qr2,h5n,qeq];exact ho) hch hnew⟩)⟩
    refine zg ?_;refine zg ?_;refine StepG.any (fun S vals wd hk hp hI=>?_) (zw ?_)
    ·dsimp only at hI;have h13:S 13=true:=hp 13 Od;have h4:S 4=true:=hp 4 Od;rw[hk,h13]at hI;obtain⟨h12,A',c',hv,hRd⟩:=hI.sixteen;rw[qk hv];(conv=>whnf);show StoreV _ rb (0+k*tsz E4 151+0) _ _;rw[t2,show 0+k*2+0=2*k by omega];refine hRd.store Oo rfl ?_;intro w9 hR9;exact⟨trivial,.inr (.inr ⟨h4,h12,h13,rfl,_,hR9⟩)⟩
    intro vals w6 hI;obtain⟨G6,hR6⟩:=hI.end_;clear hI;obtain⟨A6,c6,e6⟩:=qa6 (hR6.row (2*k+1) Oo);rw[qfq _ _ _ (show 2*k+1≠2*k by omega),h5o,qgm,hXl]at e6;(conv=>whnf);refine LoadV.own hR6.tab (v:=.slice A6 (nuT Q k i).length c6) (by rw[t2];show(fnA 8 G6)[0+k*2+1]?=_;rw[show 0+k*2+1=2*k+1 by omega,qdd 8 G6 _ Oo,e6]) (zw ?_);refine⟨fun nb w7 hnb hw=>?_⟩;have he7:Ext w6 w7:=by rw[hw];exact(Ext.refl w6).alloc _
    have hc7:w7.heap[nb]?=some (.cells #[.bool false] 4):=by rw[hw,hnb];exact heap_alloc_new w6 _
    clear hnb hw;have hR7:=hR6.call he7;have hr7:=hR7.row (2*k+1) Oo;rw[e6,qfq _ _ _ (show 2*k+1≠2*k by omega),h5o,qgm,hXl,qzd]at hr7;(conv=>whnf);refine AppV.cell qad2 booI booZ Jk rfl (by decide +kernel) hr7 hc7 rfl Oo ?_;intro A8 c8 w8 ho hch hnew;rw[<-e6]at hch hnew;have hR8:=hR7.chg (m:=2*k+1) Oo (v:=.slice A8 ((nuT Q k i).length+1) c8) (x:=boV (X++[false])) (by
     rw[qgm,zla,Bh,hXl,qzd,boV,AG];exact ho) hch hnew
    (conv=>whnf);show StoreV _ rb (0+k*tsz E4 151+1) _ _;rw[t2,show 0+k*2+1=2*k+1 by omega];refine hR8.store Oo rfl ?_;intro w9 hR9;refine zu ?_;rw[h5n]at hR9;exact⟨k+1,⟨rfl,rfl,rfl,rfl,Af Value.bool hsl5,Af (Value.int .i64) Oo,trivial⟩,⟨by omega,_,hR9.eqL fun m _=>q74 hf hX (fun m _ h2=>hL5 m h2) m⟩,by omega⟩
  ·obtain rfl:k=4:=by omega
   exact⟨i+1,⟨rfl,rfl,rfl,Af (Value.int .i64) Oo,trivial⟩,⟨by omega,G,hR.eqL fun m hm=>q73 Q i hm⟩,by omega⟩
 ·obtain rfl:i=n:=by omega
  refine qj (fun k:Nat=>[(2,pp r2),(3,pp rb),(10,ii k)])
   (fun k w'=>k<=4/\∃G,RdS w1 w' rb G G (LfQ Q i k)) (fun k=>4-k) 0 ⟨rfl,rfl,rfl,trivial⟩ ⟨by omega,G,hR.eqL fun m _=>q3a Q i m⟩ ?_
  clear hR;rintro k w4 ρ2 ⟨k1,G,hR⟩;(conv=>whnf);refine zC (fun _=>zu ?_) (fun _=>zu ?_)
  ·have hk4:k<4:=by omega
   obtain⟨A0,c0,e0⟩:=qa6 (hR.row (2*k) Oo);obtain⟨A1,c1,e1⟩:=qa6 (hR.row (2*k+1) Oo);have hl0:(LfQ Q i k (2*k)).length=(nuT Q k i).length:=by rw[qt3,qeq]
   have hsl:(stJ Q k i).length=(nuT Q k i).length:=qgx Q k i;have hl1:(LfQ Q i k (2*k+1)).length=(nuT Q k i).length:=by rw[qrv,qgm,qb0,hsl]
   have o0:(fnA 8 G)[0+k*tsz E4 151+0]?=some (.slice A0 (nuT Q k i).length c0):=by rw[t2,show 0+k*2+0=2*k by omega,qdd 8 G _ Oo,e0,hl0]
   have o1:(fnA 8 G)[0+k*tsz E4 151+1]?=some (.slice A1 (nuT Q k i).length c1):=by rw[t2,show 0+k*2+1=2*k+1 by omega,qdd 8 G _ Oo,e1,hl1]
   have hnk:=hns k i i1;refine LoadV.own hR.tab o0 (zw ?_);refine zC (fun _=>zu ?_) (fun _=>zu ?_)
   ·refine LoadV.own hR.tab o1 (zu ?_);obtain⟨g,hA1,hst⟩:=hR.cell (m:=2*k+1) (j:=(stJ Q k i).length-1) Oo (by rw[hl1];omega) e1 (v:=.bool true) rfl;subst hA1;refine ElemV.own1 ((stJ Q k i).length-1) Oo Oo (zw ?_);refine hst _ ?_;clear hR hst;intro w5 hR;refine zu ?_;exact⟨k+1,⟨rfl,rfl,Af (Value.int .i64) Oo,trivial⟩,⟨by omega,G,hR.eqL fun m _=>qt4 Q i k m⟩,by omega⟩
   ·exact⟨k+1,⟨rfl,rfl,Af (Value.int .i64) Oo,trivial⟩,⟨by omega,G,hR.eqL fun m _=>q72 Oo m⟩,by omega⟩
  ·obtain rfl:k=4:=by omega
   have hln:∀m,m<8->(LfQ Q i 4 m).length=leT Q (m/2) i:=fun m hm=>by
    rw[LfQ]
    split
    ·rw[qgm,qgq,qgx]
    ·rename_i g
     rw[LdQ]
     split
     ·rw[qeq];rfl
     ·exfalso;omega
   have hsl:∀m,∃A c,m<8->G m=.slice A (leT Q (m/2) i) c:=fun m=>by
    by_cases hm:m<8
    ·obtain⟨A,c,e⟩:=qa6 (hR.row m hm);exact⟨A,c,fun _=>by rw[e,hln m hm]⟩
    ·exact⟨none,0,fun h=>absurd h hm⟩
   obtain⟨AA,hsl⟩:=Classical.axiomOfChoice hsl;obtain⟨CC,hsl⟩:=Classical.axiomOfChoice hsl;obtain⟨vs,evs⟩:∃vs,vs=[Value.slice (AA 0) (leT Q 0 i) (CC 0),.slice (AA 1) (leT Q 0 i) (CC 1),.slice (AA 2) (leT Q 1 i) (CC 2),.slice (AA 3) (leT Q 1 i) (CC 3),.slice (AA 4) (leT Q 2 i) (CC 4),.slice (AA 5) (leT Q 2 i) (CC 5),.slice (AA 6) (leT Q 3 i) (CC 6),.slice (AA 7) (leT Q 3 i) (CC 7)]:=⟨_,rfl⟩
   have hfv:(fnA 8 G)=vs.toArray:=by
    rw[evs,fnA,show List.range 8=[0,1,2,3,4,5,6,7]from rfl];simp only[AW,BP];rw[hsl 0 Od,hsl 1 Od,hsl 2 Od,hsl 3 Od,hsl 4 Od,hsl 5 Od,hsl 6 Od,hsl 7 Od]
   have htab:=hR.tab;rw[hfv]at htab;have hcs:=CellsAt.heap htab;have hone:∀v∈vs,v.oneCell'=true:=by
    rw[evs];simp[Value.oneCell']
   have hvl:vs.length=8:=by rw[evs];rfl
   have hr4:=hR.sep.ext.get hr2c;rw[evs]at hcs;refine LoadA.cells hcs rfl (zw ?_);rw[<-evs];refine StoreA.blk hr4 (by rw[hvl];exact Ar _) hone ?_;intro w5 hc5 hg5;have hr2l:r2<w1.heap.size:=qe6 hr2c;have hfar:∀m (hm:m<8),∀k∈rowF (G m),w5.heap[k]?=w4.heap[k]?:=fun m hm k hk=>by
    have:=hR.sep.at_ (qvs [] rb G hm) k hk;exact hc5.block k this.2 fun g=>by rw[Ak.1 g]at this;omega
   have hg5:w5.heap[r2]?=some (.cells vs.toArray 152):=by
    rw[hg5]
    congr 3
    rw[hvl];simp
   (conv=>whnf);refine qh (R:=fun r w'=>LvlR Q i w' r/\Ext w w') ?_;have hc6:=CellsAt.heap hg5;rw[evs]at hc6;(conv=>whnf);refine LoadA.cells hc6 rfl (zw ?_);refine⟨⟨fun j=>AA (2*j),fun j=>AA (2*j+1),fun j=>CC (2*j),fun j=>CC (2*j+1),rfl,fun j hj=>?_,fun j hj=>?_⟩,hc5.ext (he1.trans hR.sep.ext) fun k hk=>by rw[Ak.1 hk];exact hr2n⟩
   ·have hr:=qcf (hR.row (2*j) Oo) (hfar (2*j) Oo);rw[hsl (2*j) Oo,qt3,qeq,qr2,show 2*j/2=j by omega]at hr;exact q1b hr rfl
   ·have hr:=qcf (hR.row (2*j+1) Oo) (hfar (2*j+1) Oo);rw[hsl (2*j+1) Oo,qt2 Q i hj,qgm,qgq,qgx,qzd,show(2*j+1)/2=j by omega]at hr;exact qor (f:=Value.bool) hr (by rw[qgq,qgx])
def PvI(w0 w6:Et)(l x y:LB)(s5 s11 s12 s13:Bool)(v5 v11 v12 v13:Value)(w':Et):Prop:=
 (s12=false/\s13=false/\Ext w6 w'/\(s5=true->∃A c,v5=.slice A x.length c/\SlAt encB 1 w' A x)/\(s11=true->s5=true/\∃A c,v11=.slice A y.length c/\SlAt encB 1 w' A y))\/
 (s5=true/\s11=true/\s12=true/\∃A c,v12=.slice A (l++y).length c/\RowS w0 w' (.slice A (l++y).length c) (l++y)/\(s13=true->v13=v12))
section
variable {w0 w6 w' w2:Et} {l x y:LB} {s5 s11 s12 s13:Bool} {v5 v11 v12 v13:Value}
theorem PvI.start(he:Ext w6 w'):PvI w0 w6 l x y false false false false v5 v11 v12 v13 w':=.inl ⟨rfl,rfl,he,(fun h=>(by cases h)),(fun h=>(by cases h))⟩
theorem PvI.ext(h:PvI w0 w6 l x y s5 s11 s12 s13 v5 v11 v12 v13 w')(h0:Ext w0 w6):Ext w0 w':=by
 rcases h with⟨_,_,h,_⟩|⟨_,_,_,_,_,_,h,_⟩
 ·exact h0.trans h
 ·exact h.ext
theorem PvI.five(h:PvI w0 w6 l x y false s11 s12 s13 v5 v11 v12 v13 w')(he:Ext w' w2){A:oA}{c:Nat}(hS:SlAt encB 1 w2 A x):PvI w0 w6 l x y true s11 s12 s13 (.slice A x.length c) v11 v12 v13 w2:=by
 rcases h with⟨h1,h2,h3,_,h5⟩|⟨h,_⟩
 ·exact .inl ⟨h1,h2,h3.trans he,fun _=>⟨A,c,rfl,hS⟩,fun g=>(by cases(h5 g).1)⟩
 ·cases h
theorem PvI.at5(h:PvI w0 w6 l x y true false s12 s13 v5 v11 v12 v13 w'):∃A c,v5=.slice A x.length c/\SlAt encB 1 w' A x:=by
 rcases h with⟨_,_,_,h,_⟩|⟨_,h,_⟩
 ·exact h rfl
 ·cases h
theorem PvI.eleven(h:PvI w0 w6 l x y true false s12 s13 v5 v11 v12 v13 w')(he:Ext w' w2){A:oA}{c:Nat}(hS:SlAt encB 1 w2 A y):PvI w0 w6 l x y true true s12 s13 v5 (.slice A y.length c) v12 v13 w2:=by
 rcases h with⟨h1,h2,h3,h4,_⟩|⟨_,h,_⟩
 ·obtain⟨B,d,h5,h6⟩:=h4 rfl;exact .inl ⟨h1,h2,h3.trans he,fun _=>⟨B,d,h5,h6.ext he⟩,fun _=>⟨rfl,A,c,rfl,hS⟩⟩
 ·cases h
theorem PvI.at11(h:PvI w0 w6 l x y s5 true false s13 v5 v11 v12 v13 w'):s5=true/\s13=false/\Ext w6 w'/\∃A c,v11=.slice A y.length c/\SlAt encB 1 w' A y:=by
 rcases h with⟨_,h2,h3,_,h5⟩|⟨_,_,h,_⟩
 ·exact⟨(h5 rfl).1,h2,h3,(h5 rfl).2⟩
 ·cases h
theorem PvI.at12(h:PvI w0 w6 l x y s5 s11 true s13 v5 v11 v12 v13 w'):s5=true/\s11=true/\∃A c,v12=.slice A (l++y).length c/\RowS w0 w' (.slice A (l++y).length c) (l++y)/\(s13=true->v13=v12):=by
 rcases h with⟨h,_⟩|⟨h1,h2,_,h3⟩
 ·cases h
 ·exact⟨h1,h2,h3⟩
end
def lvV(Q:Nat->Nat->Nat)(n:Nat)(NA LA:Nat->oA)(NC LC:Nat->Nat)(m:Nat):Value:=if m%2=0 then .slice (NA (m/2)) (leT Q (m/2) n) (NC (m/2))else .slice (LA (m/2)) (leT Q (m/2) n) (LC (m/2))
theorem q4z(Q:Nat->Nat->Nat)(n:Nat)(NA LA:Nat->oA)(NC LC:Nat->Nat){k:Nat}(hk:k<4):((List.range 8).map (lvV Q n NA LA NC LC))[2*k]?=some (.slice (NA k) (leT Q k n) (NC k)):=by
 rw[Au,Bw Oo,BG,lvV,Ad Oo,show 2*k/2=k by omega]
theorem q9p(Q:Nat->Nat->Nat)(n:Nat)(NA LA:Nat->oA)(NC LC:Nat->Nat){k:Nat}(hk:k<4):((List.range 8).map (lvV Q n NA LA NC LC))[2*k+1]?=some (.slice (LA k) (leT Q k n) (LC k)):=by
 rw[Au,Bw Oo,BG,lvV,Aa Oo,show(2*k+1)/2=k by omega]
theorem qs2(Q:Nat->Nat->Nat)(A:oA)(n c:Nat)(w:Et)(hS:SlAt idsE 4 w A ((List.range n).map Q))(hQ:TOk Q n):
  Gv E4 50 [.slice A n c,ii 1099511627776] w fun r w'=>∃v,r=.tuple #[v,ii 0]/\NewS 5 w w' v (qq Q n):=by
 have hnl:=hQ.nle;have hle:=hQ.le;have hlen:((List.range n).map Q).length=n:=by simp
 have hat:∀i (hi:i<((List.range n).map Q).length),((List.range n).map Q)[i]=Q i:=fun i hi=>by simp
 have t2:tsz E4 151=2:=by kernel_rfl
 have hwl:=q2l hQ;have hxl:=fun{k:Nat} (hk:k<=4)=>qadm hQ hk
 refine ze Tryz.func50 Tryz.ntmps50 ?_;refine zv ?_;refine qj (fun i:Nat=>[(0,.slice A n c),(1,ii 1099511627776),(6,ii i)]) (fun i w1=>i<=n/\Ext w w1) (fun i=>n-i) 0 ⟨rfl,rfl,rfl,trivial⟩ ⟨Am _,Ext.refl w⟩ ?_;rintro i w1 ρ' ⟨i1,he1⟩;(conv=>whnf);refine zC (fun _=>zw ?_) (fun _=>zw ?_)
 ·have hi:i<n:=by omega
  refine ElemV.sl (hS.ext he1) hlen i rfl hi ?_;intro eb eo hcell;rw[hat]at hcell;(conv=>whnf);refine LoadA.cells hcell rfl (zw ?_);refine zcv (qs0 Q n hQ hi w1) ?_;rintro r w2 ⟨rfl,he2⟩;refine zu ?_;exact⟨i+1,⟨rfl,rfl,Af (Value.int .i64) Oo,trivial⟩,⟨by omega,he1.trans he2⟩,by omega⟩
 ·obtain rfl:i=n:=by omega
  refine qj (fun k:Nat=>[(0,.slice A i c),(1,ii 1099511627776),(8,ii (k+1:Nat))]) (fun k w1=>Ext w w1) (fun k=>i-k) 0 ⟨rfl,rfl,rfl,trivial⟩ he1 ?_;rintro k w2 ρ2 he2;(conv=>whnf);refine zC (fun _=>zw ?_) (fun _=>zw ?_)
  ·have hk:k+1<i:=by omega
   obtain⟨b,off,rfl,hcl⟩:=(hS.ext he2).at_ (by intro e;rw[e]at hlen;simp at hlen;omega);have hca:=(hcl k _ (zge (by rw[hlen];omega))).ext (Ext.refl w2).drew;have hcb:=(hcl (k+1) _ (zge (by rw[hlen];omega))).ext (Ext.refl w2).drew;rw[hat]at hca hcb;obtain⟨kk,hk4,hsame,hlt⟩:=hQ.rise (k+1) Oo hk;refine DrawV.free rfl Jk (zw ?_);(iterate 3 (refine zd ?_));refine zf ?_ (by intro wd hd;(conv=>whnf);refine⟨⟨b,off,k,rfl,by omega,by omega,?_⟩⟩;exact⟨xr,rfl⟩);apply zsd
   ·intro wd hd;(conv=>whnf);refine LoadA.cells (hca.ext hd) rfl (zw ?_);exact⟨xr,rfl⟩
   (conv=>whnf);refine zd ?_;refine zd ?_;refine zf ?_ (by intro wd hd;(conv=>whnf);refine⟨⟨b,off,(k+1),rfl,by omega,by omega,?_⟩⟩;exact⟨xr,rfl⟩);apply zsd
   ·intro wd hd;(conv=>whnf);refine LoadA.cells (hcb.ext hd) rfl (zw ?_);exact⟨xr,rfl⟩
   (conv=>whnf);apply zsd
   ·intro wd hd;(conv=>whnf);refine zcv (qnj (Q k) (Q (k+1)) wd hk4 (fun j hj=>(hsame j hj).symm) hlt) ?_;rintro v w7 ⟨rfl,he⟩;exact⟨he,rfl⟩
   (conv=>whnf);refine zd ?_;intro wd hd;have he3:=(he2.drew).trans hd;refine zu ?_;exact⟨k+1,⟨rfl,rfl,Af (Value.int .i64) Oo,trivial⟩,he3,by omega⟩
  ·refine zcv (qqk Q A i c w2 (hS.ext he2) hQ) ?_;rintro r w3 ⟨⟨NA,LA,NC,LC,rfl,hN,hL⟩,he3⟩;(conv=>whnf);refine znm (Mem.nil w3) fun rb w4 hm=>zw ?_;refine StoreA.all (vs:=(List.range 8).map (lvV Q i NA LA NC LC)) hm (i:=0) rfl rfl (fun v hv=>by
    obtain⟨m,_,rfl⟩:=Bc.1 hv;rw[lvV];split<;>rfl) ?_
   intro w5 hm;have hcs:CellsAt w5 rb 0 ((List.range 8).map (lvV Q i NA LA NC LC)):=CellsAt.mem hm mh;have he5:Ext w w5:=he2.trans (he3.trans hm.ext);have hN:=fun j hj=>(hN j hj).ext hm.ext
   have hL:=fun j hj=>(hL j hj).ext hm.ext
   clear hm;have hld:∀{w'},Ext w5 w'->∀{k},k<4->w'.cell? ⟨rb,0+k*tsz E4 151+0,none⟩=some (.slice (NA k) (leT Q k i) (NC k)):=fun he k hk=>by
    rw[t2,show 0+k*2+0=0+2*k by omega];exact(hcs.ext he) (2*k) _ (q4z Q i NA LA NC LC hk)
   have hll:∀{w'},Ext w5 w'->∀{k},k<4->w'.cell? ⟨rb,0+k*tsz E4 151+1,none⟩=some (.slice (LA k) (leT Q k i) (LC k)):=fun he k hk=>by
    rw[t2,show 0+k*2+1=0+(2*k+1)by omega];exact(hcs.ext he) (2*k+1) _ (q9p Q i NA LA NC LC hk)
   (conv=>whnf);refine qj (fun x:Nat×oA×Nat=>[(1,ii 1099511627776),(9,pp rb),(10,.slice x.2.1 (trW Q i x.1).length x.2.2),(11,ii x.1)])
    (fun x w'=>x.1<=4/\RowS w5 w' (.slice x.2.1 (trW Q i x.1).length x.2.2) (trW Q i x.1)) (fun x=>4-x.1) (0,none,0) ⟨rfl,rfl,rfl,rfl,trivial⟩ ⟨Am _,RowS.nil (Ext.refl w5)⟩ ?_
   rintro⟨k,B,d⟩ w6 ρ3 ⟨k1,hO⟩;dsimp only at k1 hO|-;have hwk:=hwl k;(conv=>whnf);refine zC (fun _=>zu ?_) (fun _=>zu ?_)
   ·have hk4:k<4:=by omega
    have hlk:=hle k;have hlv:=qbc 9 (leT Q k i) Oo;refine LoadV.of (hld hO.ext hk4) (zu ?_);refine zcv (qel (leT Q k i) w6 Oo) ?_;rintro r w7 ⟨⟨Bv,dv,rfl,hdv,hVS⟩,he7⟩;have hO:=hO.call he7;(conv=>whnf);refine hO.bys hVS Oo ?_;clear hO;intro B2 d2 w8 hO;refine zu ?_;exact⟨(k+1,B2,d2),⟨rfl,rfl,rfl,Af (Value.int .i64) Oo,trivial⟩,⟨by show k+1<=4;omega,hO⟩,by show 4-(k+1)<4-k;omega⟩
   ·obtain rfl:k=4:=by omega
    refine qj (fun x:Nat×oA×Nat=>[(1,ii 1099511627776),(9,pp rb),(10,.slice x.2.1 (trX Q i x.1).length x.2.2),(12,ii x.1)])
     (fun x w'=>x.1<=4/\RowS w5 w' (.slice x.2.1 (trX Q i x.1).length x.2.2) (trX Q i x.1)) (fun x=>4-x.1) (0,B,d) ⟨rfl,rfl,rfl,rfl,trivial⟩ ⟨Am _,hO⟩ ?_
    clear hO;rintro⟨k,B,d⟩ w7 ρ4 ⟨k2,hO⟩;dsimp only at k2 hO|-;have hxk:=hxl k2;(conv=>whnf);refine zC (fun _=>zu ?_) (fun _=>zu ?_)
    ·have hk4:k<4:=by omega
     have hlk:=hle k;have hwi:=hQ.wi hk4;have hlw:leT Q k i*wiT (nuT Q k i)<=1048576*23:=BW hlk hwi;have hpl:=qcg (nuT Q k i) (wiT (nuT Q k i));have hnl2:(nuT Q k i).length=leT Q k i:=rfl;have hnb:∀x∈nuT Q k i,x<18446744073709551616:=fun x hx=>by
      obtain⟨j,hj,rfl⟩:=qiw hx;exact hQ.big hk4 j hj
     have hww:=qtz (nuT Q k i) (NA k) (leT Q k i) (NC k) w7 ((hN k hk4).ext hO.ext) rfl hnb Oo;have hpw:=fun w' he=>qrc (nuT Q k i) (wiT (nuT Q k i)) (NA k) (leT Q k i) (NC k) w' ((hN k hk4).ext he) rfl Oo (Bd hlw Od) (qac2 hQ hk4) Oo
     have ewm:wMx (nuT Q k i) (leT Q k i)=wiT (nuT Q k i):=rfl;rw[ewm]at hww;have hlv:lvB Q i k=UInt8.ofNat (wiT (nuT Q k i))::(qde (nuT Q k i) (wiT (nuT Q k i))++(if k=0 then[]else qar (qb5 (stT Q (k-1) i)) (leT Q k i))):=rfl;obtain⟨wi,ewi⟩:∃wi,wi=wiT (nuT Q k i):=⟨_,rfl⟩
     rw[<-ewi]at hlw hwi hpl hlv hww hpw;obtain⟨pk,epk⟩:∃pk,pk=qde (nuT Q k i) wi:=⟨_,rfl⟩
     rw[hnl2]at hpl;rw[<-epk]at hpl hlv hpw;obtain⟨lw,elw⟩:∃lw,lw=leT Q k i*wi:=⟨_,rfl⟩
     rw[<-elw]at hlw hpl;refine LoadV.of (hld hO.ext hk4) (zw ?_);refine zcv (hww) ?_;rintro r w8 ⟨rfl,rfl⟩;refine zu ?_;refine⟨fun nb w9 hnb hw=>?_⟩;have he9:Ext w8 w9:=by rw[hw];exact(Ext.refl w8).alloc _
     have hc9:w9.heap[nb]?=some (.cells #[.int .u8 (wi:Nat)] 5):=by rw[hw,hnb];exact heap_alloc_new w8 _
     clear hnb hw;have hO:=hO.call he9;(conv=>whnf);refine hO.one Oo hc9 Oo ?_;clear hO;intro B2 d2 w10 hO;have hl2:(trX Q i k++[UInt8.ofNat wi]).length=(trX Q i k).length+1:=by simp
     refine zu ?_;refine LoadV.of (hld hO.ext hk4) (zw ?_);refine zcv (hpw w10 hO.ext) ?_;rintro r w11 ⟨vp,rfl,hNp⟩;obtain⟨Ap,cp,ep,_,hAp⟩:=hNp.bs;subst ep;have hO:=hO.call hNp.ext;(conv=>whnf);refine hO.bys hAp Oo ?_;clear hO;intro B3 d3 w12 hO;have hl3:(trX Q i k++[UInt8.ofNat wi]++pk).length=(trX Q i k).length+1+pk.length:=by rw[zla,hl2]
     (conv=>whnf);refine zC (fun _=>zu ?_) (fun _=>zu ?_)
     ·have hk0:k≠0:=by omega
      rw[Aa hk0]at hlv;have hsl:(stT Q (k-1) i).length=leT Q k i:=by rw[qbs,Ci Oo]
      have hlb:(qb5 (stT Q (k-1) i)).length=upN (leT Q k i) 8:=by rw[qe7,hsl]
      have hup:upN (leT Q k i) 8=(leT Q k i+7)/8:=rfl;have hx:qdb (boF (laN (stJ Q k i))) ((leT Q k i+7)/8)=qb5 (stT Q (k-1) i):=by rw[qacp,qaa9 Q hk0,qb5,hsl];rfl
      have hpk:=fun w' he=>qqx (laN (stJ Q k i)) (LA k) (leT Q k i) (LC k) w' ((hL k hk4).ext he) (by rw[qgq,qgx]) Oo
      rw[hx]at hpk;have hwll:(qar (qb5 (stT Q (k-1) i)) (leT Q k i)).length<=1000000000:=by
       have hu:=qqj (Q:=Q) (k-1) i;rw[Ci Oo]at hu;have hc:cnt (qb5 (stT Q (k-1) i)) (leT Q k i)<=leT Q k i:=qme _ _;rw[q23 hlb];exact qtu _ _ Oo hc
      have hwp:=fun B cb wd hB=>qyc (qb5 (stT Q (k-1) i)) B (qb5 (stT Q (k-1) i)).length cb (leT Q k i) wd hB rfl Oo Oo Oo
      obtain⟨x,ex⟩:∃x,x=qb5 (stT Q (k-1) i):=⟨_,rfl⟩
      rw[<-ex]at hpk hwp hlv hwll;obtain⟨y,ey⟩:∃y,y=qar x (leT Q k i):=⟨_,rfl⟩
      rw[<-ey]at hwp hlv hwll;have e2:trX Q i k++[UInt8.ofNat wi]++pk++y=trX Q i (k+1):=by rw[trX,hlv];simp
      generalize trX Q i k++[UInt8.ofNat wi]++pk=Z at *;have hOd:=hO.call (Ext.refl w12).drew;refine DrawV.genW (fun S vals w'=>PvI w5 w12.drew Z x y (S 5) (S 11) (S 12) (S 13) (vals 5) (vals 11) (vals 12) (vals 13) w') rfl Jk (fun vals=>PvI.start xr) (zw ?_);(iterate 4 (refine zg ?_));refine StepG.of (.slice (LA k) (leT Q k i) (LC k)) (fun S vals wd hk hp hI=>zw ?_) (zw ?_)
      ·refine LoadV.of (hll (hI.ext hOd.ext) hk4) (zw ?_);exact⟨rfl,hI⟩
      refine StepG.any (fun S vals wd hk hp hI=>?_) (zw ?_)
      ·dsimp only at hI;rw[hk]at hI;(conv=>whnf);refine zcv (hpk wd (hI.ext hOd.ext)) ?_;rintro r wx hNx;obtain⟨Ax,cx,rfl,_,hSx⟩:=hNx.bs;exact⟨trivial,hI.five hNx.ext hSx⟩
      (iterate 3 (refine zg ?_));refine StepG.of (.slice (LA k) (leT Q k i) (LC k)) (fun S vals wd hk hp hI=>zw ?_) (zw ?_)
      ·refine LoadV.of (hll (hI.ext hOd.ext) hk4) (zw ?_);exact⟨rfl,hI⟩
      refine zg ?_;refine StepG.any (fun S vals wd hk hp hI=>?_) (zw ?_)
      ·dsimp only at hI;have h5:S 5=true:=hp 5 Od;rw[hk,h5]at hI;obtain⟨Ax,cx,hv,hSx⟩:=hI.at5;rw[hv]at hI;rw[qk hv];(conv=>whnf);refine zcv (hwp Ax cx wd hSx) ?_;rintro r wx ⟨⟨By,cy,rfl,hSy⟩,hex⟩;refine⟨trivial,?_⟩;show PvI _ _ _ _ _ (S 5) true _ _ _ _ _ _ _;rw[h5];exact hI.eleven hex hSy
      refine StepG.any (fun S vals wd hk hp hI=>?_) (zw ?_)
      ·dsimp only at hI;have h11:S 11=true:=hp 11 Od;rw[hk,h11]at hI;obtain⟨h5,h13,he,Ay,cy,hv,hSy⟩:=hI.at11;rw[qk hv];(conv=>whnf);refine(hOd.call he).bys hSy Oo ?_;intro A' c' w' hO';exact⟨trivial,.inr ⟨h5,h11,rfl,A',c',rfl,hO',fun h=>absurd (h13.symm.trans h) Od⟩⟩
      refine StepG.any (fun S vals wd hk hp hI=>?_) (zw ?_)
      ·dsimp only at hI;have h12:S 12=true:=hp 12 Od;rw[hk,h12]at hI;obtain⟨h5,h11,A',c',hv,hO',_⟩:=hI.at12;rw[qk hv];(conv=>whnf);exact⟨trivial,.inr ⟨h5,h11,h12,A',c',rfl,hO',fun _=>rfl⟩⟩
      intro vals w13 hI;obtain⟨_,_,A',c',hv,hO',h13⟩:=hI.at12;rw[qk ((h13 rfl).trans hv)];clear hI;rw[e2]at hO'|-;refine zu ?_;exact⟨(k+1,A',c'),⟨rfl,rfl,rfl,Af (Value.int .i64) Oo,trivial⟩,⟨by show k+1<=4;omega,hO'⟩,by show 4-(k+1)<4-k;omega⟩
     ·rw[Ad Oo]at hlv;have e:trX Q i k++[UInt8.ofNat wi]++pk=trX Q i (k+1):=by rw[trX,hlv];simp
      rw[e]at hO|-;exact⟨(k+1,B3,d3),⟨rfl,rfl,rfl,Af (Value.int .i64) Oo,trivial⟩,⟨by show k+1<=4;omega,hO⟩,by show 4-(k+1)<4-k;omega⟩
    ·obtain rfl:k=4:=by omega
     rw[q2m]at hO hxk|-;exact⟨_,rfl,hO.new.back he5⟩
theorem qdy(n:Nat)(w:Et)(hn:n<4294967296):Gv E4 84 [ii n] w fun r w'=>BS w' r (fixL n 4)/\Ext w w':=by
 refine ze Tryz.func84 Tryz.ntmps84 ?_;refine zv ?_;refine zcv (qmw n w hn) ?_;rintro r w1 ⟨⟨A,c,rfl,hc,hS⟩,he⟩;(conv=>whnf);exact⟨⟨A,c,rfl,hc,hS⟩,he⟩
theorem q10(a b:Nat)(V T:LB)(A B:oA)(c d:Nat)(w:Et)(ha:a<4294967296)(hb:b<4294967296)(hV:SlAt encB 1 w A V)(hT:SlAt encB 1 w B T)(hVl:V.length<4294967296)(hTl:T.length<4294967296):
  Gv E4 51 [ii a,ii b,.slice A V.length c,.slice B T.length d] w fun r w'=>NewS 5 w w' r (qcy a b V T):=by
 have f4:=fun n=>qi n 4
 have s4:=fun p=>qdp p
 refine ze Tryz.func51 Tryz.ntmps51 ?_;refine⟨fun nb w1 hnb hw=>?_⟩;have he1:Ext w w1:=by rw[hw];exact(Ext.refl w).alloc _
 have hg1:w1.heap[nb]?=some (.cells #[.int .u8 84,.int .u8 83,.int .u8 82,.int .u8 65] 5):=by rw[hw,hnb];exact heap_alloc_new w _
 have hO:RowS w w1 (.slice (some ⟨nb,0,none⟩) (fixL 1095914324 4).length 4) (fixL 1095914324 4):=⟨(Sep.of (Ext.refl w)).add (F:=[nb]) he1 (fun k hk=>by rw[Ak.1 hk];exact⟨by omega,qe6 hg1⟩),rfl,.inr ⟨nb,4,_,rfl,Am _,hg1,Ar _,by decide,rfl,rfl⟩⟩
 clear hnb hw hg1;(conv=>whnf);refine zcv (qdy 1 w1 Od) ?_;rintro r v1 ⟨⟨C1,d1,rfl,_,hS⟩,he⟩;have hO:=hO.call he;(conv=>whnf);refine hO.bys hS (by simp only[f4];omega) ?_;clear hO hS he;intro A2 c2 w2 hO;(conv=>whnf);refine zcv (qdy a w2 ha) ?_;rintro r v2 ⟨⟨C2,d2,rfl,_,hS⟩,he⟩;have hO:=hO.call he;(conv=>whnf);refine hO.bys hS (by simp only[zla,f4];omega) ?_;clear hO hS he;intro A3 c3 w3 hO;(conv=>whnf);refine zcv (qdy b w3 hb) ?_;rintro r v3 ⟨⟨C3,d3,rfl,_,hS⟩,he⟩;have hO:=hO.call he;(conv=>whnf);refine hO.bys hS (by simp only[zla,f4];omega) ?_;clear hO hS he;intro A4 c4 w4 hO;(conv=>whnf);refine zcv (qdy V.length w4 hVl) ?_;rintro r v4 ⟨⟨C4,d4,rfl,_,hS⟩,he⟩;have hO:=hO.call he;(conv=>whnf);refine hO.bys hS (by simp only[zla,f4];omega) ?_;clear hO hS he;intro A5 c5 w5 hO;(conv=>whnf);refine zcv (qdy T.length w5 hTl) ?_;rintro r v5 ⟨⟨C5,d5,rfl,_,hS⟩,he⟩;have hO:=hO.call he;(conv=>whnf);refine hO.bys hS (by simp only[zla,f4];omega) ?_;clear hO hS he;intro A6 c6 w6 hO;(conv=>whnf);have eH:fixL 1095914324 4++fixL 1 4++fixL a 4++fixL b 4++fixL V.length 4++fixL T.length 4=h24 a b V.length T.length:=by simp only[h24,Ag]
 rw[eH]at hO|-;have hHl:=qim a b V.length T.length;have eP:h24 a b V.length T.length++sumL (h24 a b V.length T.length)++V++sumL V++T++sumL T=qcy a b V T:=by simp only[qcy,Ag]
 obtain⟨H,eH2⟩:∃H,H=h24 a b V.length T.length:=⟨_,rfl⟩
 rw[<-eH2]at hO hHl eP|-;refine zcv (qlq H A6 H.length c6 w6 hO.sl rfl Oo) ?_;rintro r v6 ⟨⟨C6,d6,rfl,_,hS⟩,he⟩;have hO:=hO.call he;(conv=>whnf);refine hO.bys (m:=sumL H) hS (by rw[s4];omega) ?_;clear hO hS he;intro A7 c7 w7 hO;have h7:(H++sumL H).length=28:=by rw[zla,s4];omega
 (conv=>whnf);refine hO.bys (hV.ext hO.ext) Oo ?_;clear hO;intro A8 c8 w8 hO;have h8:(H++sumL H++V).length=28+V.length:=by rw[zla,h7]
 (conv=>whnf);refine zcv (qlq V A V.length c w8 (hV.ext hO.ext) rfl Oo) ?_;rintro r v8 ⟨⟨C8,d8,rfl,_,hS⟩,he⟩;have hO:=hO.call he;(conv=>whnf);refine hO.bys (m:=sumL V) hS (by rw[s4];omega) ?_;clear hO hS he;intro A9 c9 w9 hO;have h9:(H++sumL H++V++sumL V).length=32+V.length:=by rw[zla,h8,s4];omega
 (conv=>whnf);refine hO.bys (hT.ext hO.ext) Oo ?_;clear hO;intro A10 c10 w10 hO;have h10:(H++sumL H++V++sumL V++T).length=32+V.length+T.length:=by rw[zla,h9]
 (conv=>whnf);refine zcv (qlq T B T.length d w10 (hT.ext hO.ext) rfl Oo) ?_;rintro r v10 ⟨⟨C10,d10,rfl,_,hS⟩,he⟩;have hO:=hO.call he;(conv=>whnf);refine hO.bys (m:=sumL T) hS (by rw[s4];omega) ?_;clear hO hS he;intro A11 c11 w11 hO;rw[eP]at hO|-;(conv=>whnf);exact hO.new
theorem q4l(T:List TM)(q:Q4){i:Nat}(h:noT T (gat q i)=0):fnA 4 (inF (idF T q i))=fnA 4 (inF (idF T q (i+1))):=by
 refine qkm fun j hj=>?_;rw[inF,inF,idF,idF]
 congr 1
 by_cases e:j=i
 ·subst e;rw[Aa (Du _),Ad (Dh _),h];rfl
 ·by_cases h:j<i
  ·rw[Ad h,Ad Oo]
  ·rw[Aa h,Aa Oo]
theorem q5q(T:List TM)(hr:RiseT T)(A:oA)(c:Nat)(q:Q4)(hq:∀k,k<4->gat q k∈T\/gat q k=zTM)(_:∀t∈T,1<=t.kind)(hl:T.length<=16777216)(w:Et)(hS:SlAt encT 4 w A T):
  Gv E4 49 [.slice A T.length c,qn q] w fun r w'=>r=idsV (fun k=>noT T (gat q k))/\Ext w w':=by
 have t1:tsz E4 3=1:=by kernel_rfl
 have t4:tsz E4 24=4:=by kernel_rfl
 refine ze Tryz.func49 Tryz.ntmps49 ?_;refine znm (Mem.nil w) fun b3 w1 hm=>zw ?_;refine znm hm fun b4 w2 hm=>zw ?_;refine znm hm ?_;intro b5 w3 hm;have hc:CellsAt w3 b3 0 (qd q):=CellsAt.mem hm (zmg (i:=2) rfl);(conv=>whnf);refine LoadA.cells (qr hc 3 Oo) rfl (zw ?_);refine LoadA.cells (qr hc 0 Oo) rfl (zw ?_);refine LoadA.cells (qr hc 1 Oo) rfl (zw ?_);refine LoadA.cells (qr hc 2 Oo) rfl (zw ?_);refine znm hm fun b6 w4 hm=>zw ?_;refine StoreA.all (vs:=qd (gQ q)) hm (i:=0) rfl rfl (qv _) fun w5 hm=>zw ?_;refine qj (fun k:Nat=>[(0,.slice A T.length c),(4,pp b4),(5,pp b5),(6,pp b6),(7,ii k)])
  (fun k w'=>k<=4/\Mem w w' [(b6,.cells (qd (gQ q)).toArray 131),(b5,.cells (fnA 4 (inF (idF T q k))) 101),(b4,.cells #[ii 0,ii 0,ii 0,ii 0] 101),(b3,.cells (qd q).toArray 26)]) (fun k=>4-k) 0 ⟨rfl,rfl,rfl,rfl,rfl,trivial⟩ ⟨by omega,hm⟩ ?_
 clear hm;rintro k w6 ρ' ⟨k1,hm⟩;(conv=>whnf);refine zC (fun _=>zw ?_) (fun _=>zw ?_)
 ·have hk4:k<4:=by omega
  have hc6:CellsAt w6 b6 (0+k*4) (encT (gat q k)):=by rw[<-qad5 q hk4];exact qr (CellsAt.mem hm mh) k hk4
  obtain⟨t,et⟩:∃t,t=gat q k:=⟨_,rfl⟩
  have htq:=hq k hk4;rw[<-et]at hc6 htq;refine qj (fun x:Nat×Nat=>[(0,.slice A T.length c),(4,pp b4),(5,pp b5),(6,pp b6),(7,ii k),(8,ii x.1),(9,ii x.2)])
   (fun x w'=>x.1<=x.2/\x.2<=T.length/\(∀p,T[p]?=some t->x.1<=p/\p<=x.2)/\Ext w6 w') (fun x=>x.2-x.1) (0,T.length) ⟨rfl,rfl,rfl,rfl,rfl,rfl,rfl,trivial⟩ ⟨Am _,Ar _,fun p hp=>⟨Am _,Nat.le_of_lt (Ae.1 hp).1⟩,Ext.refl w6⟩ ?_
  rintro⟨lo,hi⟩ w7 ρ2 ⟨x1,x2,x3,he7⟩;dsimp only at x1 x2 x3 he7|-;(conv=>whnf);refine zC (fun _=>zu ?_) (fun _=>zu ?_)
  ·obtain⟨m,em⟩:∃m,m=(lo+hi)/2:=⟨_,rfl⟩
   have em2:((lo:Int)+(hi:Int))/2=(m:Int):=by omega
   have hm1:m<T.length:=by omega
   rw[em2];obtain⟨tb,tof,rfl,hat⟩:=hS.at_ (by intro e;rw[e]at hm1;cases hm1);have hcell:=(hat m _ (zge hm1)).ext (hm.ext.trans he7.drew);have hc7:=hc6.ext he7.drew;obtain⟨u,eu⟩:∃u,u=T[m]:=⟨_,rfl⟩
   have hum:T[m]?=some u:=by rw[eu];exact zge hm1
   rw[<-eu]at hcell;refine DrawV.free rfl Jk (zw ?_);refine zd ?_;refine zd ?_;apply zsd
   ·intro wd hd;(conv=>whnf);refine⟨⟨tb,tof,m,rfl,rfl,hm1,?_⟩⟩;exact⟨xr,rfl⟩
   (conv=>whnf);apply zsd
   ·intro wd hd;(conv=>whnf);refine LoadA.cells (hcell.ext hd) rfl (zw ?_);exact⟨xr,rfl⟩
   (conv=>whnf);refine zd ?_;refine zd ?_;apply zsd
   ·intro wd hd;(conv=>whnf);refine LoadA.cells (vs:=encT t) (by rw[t4];exact hc7.ext hd) rfl (zw ?_);exact⟨xr,rfl⟩
   (conv=>whnf);apply zsd
   ·intro wd hd;(conv=>whnf);refine zcv (qba u t wd) ?_;rintro v w8 ⟨rfl,he⟩;exact⟨he,rfl⟩
   (conv=>whnf);refine zd ?_;intro w8 he8;have he8:Ext w6 w8:=he7.drew.trans he8;(conv=>whnf);refine zC (fun _=>zu ?_) (fun _=>zu ?_)
   ·have hlt:LtT u t:=qcj.1 Oo;exact⟨(m+1,hi),⟨rfl,rfl,rfl,rfl,rfl,Af (Value.int .i64) Oo,rfl,trivial⟩,⟨by show m+1<=hi;omega,x2,fun p hp=>⟨hr.lt hum hp hlt,(x3 p hp).2⟩,he8⟩,by show hi-(m+1)<hi-lo;omega⟩
   ·refine⟨(lo,m),⟨rfl,rfl,rfl,rfl,rfl,rfl,rfl,trivial⟩,⟨by show lo<=m;omega,by show m<=T.length;omega,fun p hp=>⟨(x3 p hp).1,DL.1 fun g=>?_⟩,he8⟩,by show m-lo<hi-lo;omega⟩;have:=qcj.2 (hr.at g hum hp);omega
  ·have e:lo=hi:=by omega
   subst e;have hm:=hm.call he7;have hc7:=hc6.ext he7;have t4b:0+k*tsz E4 24+0=0+k*4:=by rw[t4];rfl
   refine LoadV.of (by show w7.cell? ⟨b6,0+k*tsz E4 24+0,none⟩=some (ii t.kind);rw[t4b];exact hc7 0 _ rfl) (zw ?_)
   by_cases hk0:t.kind=0
   ·have hno:noT T (gat q k)=0:=by rw[<-et];exact qfy hk0
    refine zv ?_;rw[q4l T q hno]at hm;exact⟨k+1,⟨rfl,rfl,rfl,rfl,Af (Value.int .i64) Oo,trivial⟩,⟨by omega,hm⟩,by omega⟩
   ·have htm:t∈T:=htq.resolve_right fun e=>hk0 (by rw[e];rfl)
    obtain⟨p,hp⟩:=Bg.1 htm;have hpl:=x3 p hp;have ep:p=lo:=by omega
    subst ep;have hno:noT T (gat q k)=p+1:=by rw[<-et];exact qkz hr hp hk0
    refine zv ?_;have es:((p:Int)+1)=((noT T (gat q k):Nat):Int):=by rw[hno];rfl
    rw[es];show StoreV _ b5 (0+k*tsz E4 3) _ _;rw[t1,show 0+k*1=k by omega];refine StoreV.mem hm (i:=1) rfl (by rw[qz];omega) rfl ?_;clear hm;intro w8 hm;have hm:Mem w w8 [(b6,.cells (qd (gQ q)).toArray 131),(b5,.cells ((fnA 4 (inF (idF T q k))).setIfInBounds k (ii (noT T (gat q k):Nat))) 101),(b4,.cells #[ii 0,ii 0,ii 0,ii 0] 101),(b3,.cells (qd q).toArray 26)]:=hm;rw[q9b T q hk4]at hm;refine zu ?_;exact⟨k+1,⟨rfl,rfl,rfl,rfl,Af (Value.int .i64) Oo,trivial⟩,⟨by omega,hm⟩,by omega⟩
 ·obtain rfl:k=4:=by omega
  refine zl hm 1 ?_;refine zS hm 2 fun w8 hm=>zw ?_;refine qh (R:=fun v w'=>v=idsV (fun k=>noT T (gat q k))/\Ext w w') (zw ?_);refine zl hm 2 ?_;exact⟨rfl,hm.ext⟩
theorem qabg{Q:Nat->Nat->Nat}{n:Nat}(h:TOk Q n):(qq Q n).length<=4200000000:=by
 have h0:=q2l h 4;have h1:=h.lvLen (k:=0);have h2:=h.le 0;have h3:=h.wi (k:=0) Od;have h4:leT Q 0 n*wiT (nuT Q 0 n)<=1048576*23:=BW h2 h3;rw[Ad rfl]at h1;have b1:=qu7 h (k:=1) Od;have b2:=qu7 h (k:=2) Od;have b3:=qu7 h (k:=3) Od;rw[<-q2m];simp only[trX,zla];omega
theorem qsy(qs:List Q4)(A:oA)(n c:Nat)(most:Int)(w:Et)(hS:SlAt qd 16 w A qs)(hn:qs.length=n)(hb:n<=140737488355328)(_:InR .i64 most)(hq:∀q∈qs,qby q):
  Gv E4 27 [.slice A n c,ii most] w fun r w'=>EncR qs most w w' r:=by
 subst hn;refine ze Tryz.func27 Tryz.ntmps27 ?_;refine zcv (qs6 qs A qs.length c w hS rfl hb hq) ?_;rintro r w1 (⟨e,h0,he,rfl,he1⟩|⟨hv,hvo,v,rfl,hN⟩)
 ·have hee:encE qs most=e:=by
   rw[he]
   by_cases c1:valE qs≠0
   ·rw[Ad c1,q4c c1]
   ·rw[Aa c1];rw[Aa c1]at he;exact q4d Oo (by rw[<-he];exact h0)
  have h1:¬((e:Nat):Int)=0:=by omega
  refine zu ?_;exact .inl ⟨by rw[hee];exact h0,by rw[hee],he1⟩
 have hlq:=(qdh hv).1;have hnt:=qtf hv;have hset:=qv2 hv hnt;have eT2:tmsN (trms qs).length (trms qs)=tmsQ qs:=rfl;obtain⟨T,eT⟩:∃T,T=tmsQ qs:=⟨_,rfl⟩
 have hterm:∀t∈T,qaj t=0/\1<=t.kind/\t.kind<=3:=fun t ht=>qfp hv (by rw[<-eT];exact ht)
 have hrise:RiseT T:=by rw[eT];exact qrm qs
 rw[<-eT]at hvo hN hnt hset eT2;have hvl:(vocB T).length<=210000030:=by
  have hd:=qm4 hvo;have h1:=qtv (T:=T) (i:=3) Oo hd;have h2:=qtw (T:=T) (i:=3) Oo hd;rw[<-qabq,zla];omega
 obtain⟨Av,cv,ev,hcv,hVS⟩:=hN.bs;subst ev;refine zu ?_;refine zcv (qjk qs A c w1 (hS.ext hN.ext) Oo) ?_;rintro r w2 ⟨⟨B,d,rfl,hd,hTS⟩,he2⟩;rw[eT2]at hd hTS|-;have hVS:=hVS.ext he2;(conv=>whnf);refine qj (fun x:Nat×oA×Nat=>[(0,.slice A qs.length c),(1,ii most),(6,.slice Av (vocB T).length cv),(8,.slice B T.length d),(9,.slice x.2.1 x.1 x.2.2),(10,ii x.1)])
  (fun x w'=>x.1<=qs.length/\Rw w2 w' (.slice x.2.1 x.1 x.2.2) 101 4 x.1 (qu4 T qs x.1) []) (fun x=>qs.length-x.1) (0,none,0) ⟨rfl,rfl,rfl,rfl,rfl,rfl,trivial⟩ ⟨Am _,Rw.nil (Mem.nil w2)⟩ ?_
 rintro⟨i,D,e⟩ w3 ρ' ⟨i1,hR⟩;dsimp only at i1 hR|-;have he3:=hN.ext.trans (he2.trans hR.mem.ext);(conv=>whnf);refine zC (fun _=>zw ?_) (fun _=>zw ?_)
 ·have hil:i<qs.length:=by omega
  have hqi:qs[i]?=some qs[i]:=zge hil;have hqm:=AT hil;obtain⟨q,eq⟩:∃q,q=qs[i]:=⟨_,rfl⟩
  rw[<-eq]at hqi hqm;have hgt:∀k,k<4->gat q k∈T\/gat q k=zTM:=fun k hk=>(hset.mem q hqm k hk).imp id fun g=>g.2.2
  refine ElemV.sl (hS.ext he3) rfl i rfl Oo ?_;intro eb eo hcell;rw[<-eq]at hcell;(conv=>whnf);refine LoadA.cells hcell rfl (zw ?_);refine zcv (q5q T hrise B d q hgt (fun t ht=>(hterm t ht).2.1) Oo w3 (hTS.ext hR.mem.ext)) ?_;rintro r w4 ⟨rfl,he4⟩;have hR:=hR.call he4;(conv=>whnf);refine NewV.rw hR fun nb3 w9 hR=>zw ?_;refine AppV.rw (m:=1) (news:=idsE fun k=>noT T (gat q k)) qad6 idsI idsZ Jk Jk Od hR rfl (fun _=>⟨nb3,0,rfl,fun k v hv=>?_⟩) (q4n _) (by rw[show((E4.info? 101).get Jk).bytes=32 from by kernel_rfl];omega) Oo ?_
  ·rw[qa (hR.mem.get mh),AC];rw[<-hv];simp[idsE]
  clear hR;intro B2 d2 w10 hR;rw[<-qsb T qs hqi]at hR;refine zu ?_;exact⟨(i+1,B2,d2),⟨rfl,rfl,rfl,rfl,rfl,Af (Value.int .i64) Oo,trivial⟩,⟨by show i+1<=qs.length;omega,hR.tail⟩,by show qs.length-(i+1)<qs.length-i;omega⟩
 ·obtain rfl:i=qs.length:=by omega
  have hidS:SlAt idsE 4 w3 D ((List.range qs.length).map (noQ T qs)):=q99 q4m hR.own Js;have htok:TOk (noQ T qs) qs.length:=hset.tok;have htl:=qabg htok;refine zcv (qs2 (noQ T qs) D qs.length e w3 hidS htok) ?_;rintro r w4 ⟨v2,rfl,hN4⟩;obtain⟨At,ct,et,hct,hTR⟩:=hN4.bs;subst et;have hVS4:=hVS.ext (hR.mem.ext.trans hN4.ext);refine zu ?_;refine zcv (q10 qs.length T.length (vocB T) (qq (noQ T qs) qs.length) Av At cv ct w4 Oo Oo hVS4 hTR Oo Oo) ?_;rintro r w5 hN5;have epk:qcy qs.length T.length (vocB T) (qq (noQ T qs) qs.length)=pkB qs:=by rw[eT];rfl
  rw[epk]at hN5;obtain⟨A9,c9,ev9,_⟩:=id hN5.h;subst ev9;have hN5:=hN5.back (he3.trans hN4.ext);have hok:=q81 (qs:=qs) (most:=most) hv (by rw[<-eT];exact hvo);have hbig:=q4a (qs:=qs) (most:=most) hv (by rw[<-eT];exact hvo);conv=>whnf
  (repeat'(first|refine zp ?_|refine zC (fun _=>zw ?_) (fun _=>zw ?_)))
  ·have e1:=hbig Oo;exact .inl ⟨by rw[e1];decide,by rw[e1];rfl,hN5.ext⟩
  ·have e1:=hbig Oo;exact .inl ⟨by rw[e1];decide,by rw[e1];rfl,hN5.ext⟩
  ·exact .inr ⟨hok Oo,_,rfl,hN5⟩
structure Turn(l l':LB)(f B:Nat):Prop where
 len:l'.length=l.length
 bit:∀t,t<8*l.length->bitN l' t=(bitN l t+(if f<=t/\t<f+32 then B/2 ^ (t-f)%2 else 0))%2
section
variable {l l':LB} {f B:Nat} (h:Turn l l' f B)
include h
end
theorem EncOk.packE{T:List TM}{qs:List Q4}(h:EncOk T qs):(packE (encP T qs)).2=0:=by
 have hp:=h.poE;obtain⟨h1,_,_,_,h5,_⟩:=q5g (l:=encP T qs) (by rw[hp]);rw[Go.Proofs.YtacnkdagblbgfaaGreatDoor.packE,Aa (fun g=>g h1),h.v,Aa (fun g=>g h.voc.wE),Aa (fun g=>g (qv3 h5).1)]
section
variable {qs:List Q4} {most:Int} (h:encE qs most=0)
include h
theorem qac7:EncOk (tmsQ qs) qs:=q4b (qtf (qg6 h).1) h
end
def AllB(Pz:Value->Prop)(w:Et)(v:Value):Prop:=∀g cur t fz,v.ownBlock=some g->w.heap[g]?=some (.cells cur t fz)->∀u∈cur.toList,Pz u
theorem qhj{z:E6}{k:Nat}{u:Value}(hz:0<z.size)(h:u∈(Builtin.zeroCells z k).toList):u∈z.toList:=by
 unfold Builtin.zeroCells at h;rw[Array.toList_map,Bc]at h;obtain⟨i,_,rfl⟩:=h;have hm:=CS i hz;rw[getElem!_pos z _ hm];exact Ch.2 (CI hm)
theorem ql4{P:Ev}(w:Et)(t ty e:Ew)(i:TypeInfo)(z:Value)(ht:P.underlying t=some (.slice e))(hi:P.info? e=some i)(hz:i.zero=some z)(hzs:z.cells.size=i.size)(hsz:0<i.size)(v:Value)(n:Nat)(xs:Ez)(hown:w.ownsRow 0 e i.size v n xs)(a:Addr)(m c:Nat)(hm0:0<m)(news:Ez)(hl:news.length=m*i.size)(hnews:∀j u,news[j]?=some u->w.cell? (a.add j)=some u)(h1:∀u∈news,u.oneCell'=true)(h63:n+m<=maxLen)(hbytes:(n+m)*i.bytes<=140737488355328){Pz:Value->Prop}(hPz:∀u∈z.cells.toList,Pz u)(hPn:∀u∈news,Pz u)(hPo:AllB Pz w v):
  ∃v' w',(Builtin.append_ #[t,t] ty #[v,.slice (some a) m c]).run P w=.ok v' w'/\w'.ownsRow 0 e i.size v' (n+m) (xs++news)/\w.grownBy w' v.ownBlock/\(v'.ownBlock=v.ownBlock\/v'.ownBlock=some w.heap.size)/\AllB Pz w' v':=by
 obtain⟨v',w',hrun,h2,h3,_,h5⟩:=run_append_own_at (P:=P) w 0 t ty e i z i.size i.bytes ht hi hz rfl rfl hzs hsz v n xs hown a m c news hl hnews h1 h63 hbytes (Am _);refine⟨v',w',hrun,h2,h3,h5,?_⟩;have hsmall:n+m<=9223372036854775807:=by simp only[maxLen]at h63;omega
 rcases hown.2 with⟨rfl,rfl⟩|⟨g,cap,cur,rfl,_,hg,hnc,hcm,hcs,htake⟩
 ·have hr:=run_append_nil (P:=P) w t ty e i z ht hi hz a m c news hl hnews hm0 Oo (by have hb:=hbytes;simp only[AC]at hb;omega);rw[hr]at hrun
  injection hrun with e1 e2
  subst e1 e2;intro g cur t fz hg hc u hu;cases hg;have hc:(w.drew.alloc _).heap[w.drew.heap.size]?=_:=hc;rw[heap_alloc_new w.drew]at hc
  injection hc with hc
  injection hc with hc _ _
  subst hc;rw[DF]at hu
  rcases Bj.1 hu with hu|hu
  ·exact hPn u (by simpa using hu)
  ·exact hPz u (qhj Oo hu)
 ·by_cases hroom:n+m<=cap
  ·have hfit:n*i.size+news.length<=cur.size:=by rw[hl,hcs,<-DN];exact B0 _ hroom
   have hr:=run_append_room (P:=P) w t ty e i ht hi g n cap cur hg a m c news hl hnews h1 hroom hfit;rw[hr]at hrun
   injection hrun with e1 e2
   subst e1 e2;intro g' cur' t fz hg' hc u hu;cases hg';rw[setRow_heap w g cur _ e _ hg]at hc
   injection hc with hc
   injection hc with hc _ _
   subst hc;have hold:=hPo g cur e (0,0) rfl hg;simp only[Bj]at hu
   rcases hu with(hu|hu)|hu
   ·exact hold u (CU hu)
   ·exact hPn u hu
   ·exact hold u (Ea hu)
  ·have holds:∀j u,xs[j]?=some u->w.cell? ((⟨g,0,none⟩:Addr).add j)=some u:=hown.cells (g:=g) rfl;have hr:=run_append_grow (P:=P) w t ty e i z ht hi hz ⟨g,0,none⟩ n cap xs hown.1 holds a m c news hl hnews Oo Oo (growslice_fits Oo hbytes);rw[hr]at hrun
   injection hrun with e1 e2
   subst e1 e2;intro g' cur' t fz hg' hc u hu;cases hg';have hc:(w.drew.alloc _).heap[w.drew.heap.size]?=_:=hc;rw[heap_alloc_new w.drew]at hc
   injection hc with hc
   injection hc with hc _ _
   subst hc;rw[DF,DF]at hu
   rcases Bj.1 hu with hu|hu
   ·rcases Bj.1 hu with hu|hu
    ·rw[<-htake]at hu;exact hPo g cur e (0,0) rfl hg u (CU (by simpa using hu))
    ·exact hPn u (by simpa using hu)
   ·exact hPz u (qhj Oo hu)
def PartX(w:Et)(e:PartE):Prop:=match e.x with
 | none=>True
 | some (x,xp,vb,tb)=>IdxE w x xp vb tb (encP (tmsQ e.qs) e.qs)/\w.heap[x]?=some (.cells #[.pointer (some ⟨xp,0,none⟩)] 109)
theorem PartX.at_{w:Et}{e:PartE}(h:PartX w e):qyi w e:=by
 obtain⟨x,qs⟩:=e;cases x with
 | none=>trivial
 | some x=>exact h.1
theorem PartX.ext{w w':Et}{e:PartE}(h:PartX w e)(he:Ext w w'):PartX w' e:=by
 obtain⟨x,qs⟩:=e;cases x with
 | none=>trivial
 | some x=>exact⟨IdxE.ext h.1 he,he.get h.2⟩
theorem PartX.alien{w w':Et}{e:PartE}{g:Nat}(h:PartX w e)(ha:q71 w g)(hg:∀cs fz,w.heap[g]?≠some (.cells cs 109 fz))(hw:∀c,c≠g->w'.heap[c]?=w.heap[c]?):PartX w' e:=by
 obtain⟨x,qs⟩:=e;cases x with
 | none=>trivial
 | some x=>
  obtain⟨x,xp,vb,tb⟩:=x;obtain⟨⟨h1,h2,h3,h4⟩,h5⟩:=h;have hx:x≠g:=fun e=>by subst e;exact hg _ _ h5
  have hb:xp≠g:=fun e=>by subst e;exact(ha.2 _ _ _ h2).2.2.2 rfl
  have h5':w'.heap[x]?=some (.cells #[pp xp] 109):=by rw[hw x hx];exact h5
  exact⟨⟨by rw[qa h5'];rfl,by rw[hw xp hb];exact h2,h3.alien ha hw,h4.alien ha hw⟩,h5'⟩
def qw2(v:Value):Prop:=∀k c,v≠.int k c
theorem AppV.ixs{w:Et}{v:Value}{n:Nat}{xs:Ez}{es:List PartE}{nb:Nat}{u:Value}{K:Value->Et->Prop}(hown:w.ownsRow 0 41 1 v n xs)(hA:AllB qw2 w v)(hP:∀e∈es,PartX w e)(hn:n<=1048576)(hb:w.cell? ⟨nb,0,none⟩=some u)(hu:qw2 u)(hu1:u.oneCell'=true)(hk:∀A' c' w',w'.ownsRow 0 41 1 (.slice A' (n+1) c') (n+1) (xs++[u])->AllB qw2 w' (.slice A' (n+1) c')->(∀e∈es,PartX w' e)->Chn (rowF v) w w'->(∀k∈rowF (.slice A' (n+1) c'),k∈rowF v\/w.heap.size<=k)->K (.slice A' (n+1) c') w'):
  AppV E4 #[28,28] 28 v (.slice (some ⟨nb,0,none⟩) 1 1) w K:=by
 have hby:((E4.info? 41).get Jk).bytes=8:=by kernel_rfl
 have hsz:((E4.info? 41).get Jk).size=1:=by kernel_rfl
 have hzc:((((E4.info? 41).get Jk).zero).get Jk).cells=#[.pointer none]:=by kernel_rfl
 have hown':w.ownsRow 0 41 ((E4.info? 41).get Jk).size v n xs:=by rw[hsz];exact hown
 obtain⟨v',w',hrun,h2,h3,h4,h5⟩:=ql4 (P:=E4) w 28 28 41 _ _ ixSl ixI ixZ (by rw[hzc,hsz];rfl) (by rw[hsz];decide) v n xs hown' ⟨nb,0,none⟩ 1 1 Od [u] (by rw[hsz];rfl) (fun j x hj=>by
  cases j with
  | zero=>
   simp at hj;subst hj;exact hb
  | succ j=>simp at hj) (fun x hx=>by rw[Ak.1 hx];exact hu1) (by simp only[maxLen];omega) (by rw[hby];omega) (Pz:=qw2) (fun x hx=>by
   rw[hzc]at hx;rw[Ak.1 hx];intro k c e;cases e) (fun x hx=>by rw[Ak.1 hx];exact hu) hA
 rw[hsz]at h2;obtain⟨A',c',rfl⟩:=qa6 h2;refine⟨_,w',hrun,hk A' c' w' h2 h5 (fun e he=>?_) (Chn.grown h3) (fun k hk=>?_)⟩
 ·have hp:=hP e he
  rcases hown.2 with⟨rfl,_⟩|⟨g,cap,cur,rfl,_,hg,_⟩
  ·exact hp.ext ⟨h3.os,h3.tape,h3.output,h3.size,fun k hk=>h3.block k hk (fun e=>by cases e)⟩
  ·have hlt:=qe6 hg;have hs:=h3.size;have ho':w'.heap[g]?=some w'.heap[g]:=Aj Oo;have hal:q71 w g:=by
    refine⟨fun off k c e=>?_,fun cs t fz e=>?_⟩
    ·rw[qa hg]at e;exact hA g cur _ _ rfl hg _ (by rw[<-Cq]at e;exact zmg e) k c rfl
    ·rw[hg]at e
     injection e with e
     injection e with _ e _
     subst e;exact⟨by decide,by decide,by decide,by decide⟩
   have h6:PartX (setO w g w'.heap[g]) e:=hp.alien hal (fun cs fz e=>by
    rw[hg]at e
    injection e with e
    injection e with _ e _
    exact absurd e Od) (fun c hc=>qbj hc)
   refine h6.ext ⟨h3.os,h3.tape,h3.output,by simpa[setO]using h3.size,fun k hk=>?_⟩;have hk':k<w.heap.size:=by simpa[setO]using hk
   by_cases e:k=g
   ·subst e;rw[qfl hg,ho']
   ·rw[qbj e];exact h3.block k hk' (fun e'=>e (by simpa[Value.ownBlock]using e'))
 ·rcases h4 with h4|h4
  ·left;rw[rowF,<-h4];exact hk
  ·right
   rw[rowF,h4]at hk;rw[Ak.1 hk];exact Ar _
theorem qx4(qs:List Q4)(h:EncOk (tmsQ qs) qs)(A:oA)(n c:Nat)(w:Et)(hS:SlAt encB 1 w A (pkB qs))(hn:n=(pkB qs).length)(hc:(pkB qs).length<=c)(hl:(pkB qs).length<=140737488355328)(hT:CellsAt w 1 0 qjn)(hG:ErrTyp w):
  Gv E4 28 [.slice A n c] w fun v w'=>∃x xp vb tb,v=.tuple #[pp x,.nilIface]/\PartX w' ⟨some (x,xp,vb,tb),qs⟩/\Ext w w':=by
 subst hn;have hpk:(packE (pkB qs)).2=0:=h.packE;refine ze Tryz.func28 Tryz.ntmps28 ?_;refine zcv (q1j (pkB qs) A c w hS hc hl hT hG) ?_;rintro v w1 ⟨⟨h0,_⟩|⟨h0,b,rfl,vb,tb,hb1,hb2,hb3⟩,he1⟩
 ·exact absurd hpk h0
 ·refine zu ?_;refine znm (Mem.nil w1) fun x w2 hm=>zw ?_;have hx:=hm.get mh;exact⟨x,b,vb,tb,rfl,⟨⟨by rw[qa hx];rfl,hm.ext.get hb1,hb2.ext hm.ext,hb3.ext hm.ext⟩,hx⟩,he1.trans hm.ext⟩
def q79(e:PartE):Prop:=(e.qs=[]\/valE e.qs=0)/\qt7 e
def qadz(ds:List DsE)(w w':Et)(r:Value):Prop:=
 (r=.tuple #[.slice none 0 0,.bool false,.bool true]/\Ext w w')\/(∃(es:List PartE) (A:oA) (c:Nat),r=.tuple #[.slice A es.length c,.bool true,.bool true]/\es.map (·.qs)=ds.map (·.qs)/\(∀e∈es,q79 e)/\(∀e∈es,PartX w' e)/\
  w'.ownsRow 0 41 1 (.slice A es.length c) es.length (es.map ptE)/\Ext w w')
theorem AllB.ext{Pz:Value->Prop}{w w':Et}{v:Value}{n:Nat}{xs:Ez}{e:Ew}(h:AllB Pz w v)(ho:w.ownsRow 0 e 1 v n xs)(he:Ext w w'):AllB Pz w' v:=by
 intro g cur t fz hg hc
 rcases ho.2 with⟨rfl,_⟩|⟨g',cap,cur',rfl,_,hg',_⟩
 ·cases hg
 ·cases hg;rw[he.get hg']at hc
  injection hc with hc
  injection hc with hc _ _
  subst hc;exact h _ _ _ _ rfl hg'
structure OpI(ds:List DsE)(w w':Et)(i:Nat)(es:List PartE)(v:Value):Prop where
 le:i<=ds.length
 qs:es.map (·.qs)=(ds.take i).map (·.qs)
 ok:∀e∈es,q79 e
 x:∀e∈es,PartX w' e
 own:w'.ownsRow 0 41 1 v es.length (es.map ptE)
 no:AllB qw2 w' v
 lo:∀k∈rowF v,w.heap.size<=k
 ext:Ext w w'
theorem OpI.call{ds:List DsE}{w w' w2:Et}{i:Nat}{es:List PartE}{v:Value}(h:OpI ds w w' i es v)(he:Ext w' w2):OpI ds w w2 i es v:=
 ⟨h.le,h.qs,h.ok,fun e g=>(h.x e g).ext he,qa0 h.own he,h.no.ext h.own he,h.lo,h.ext.trans he⟩
theorem qxa(ds:List DsE)(A:oA)(n c:Nat)(w:Et)(hS:SlAt encD 1 w A ds)(hn:ds.length=n)(hb:n<=60)(hD:∀d∈ds,SlAt qd 16 w d.A d.qs)(hl:∀d∈ds,d.qs.length<=140737488355328)(hq:∀d∈ds,∀q∈d.qs,qby q)(hT:CellsAt w 1 0 qjn)(hG:ErrTyp w):
  Gv E4 7 [.slice A n c] w fun r w'=>qadz ds w w' r:=by
 subst hn;have t1:tsz E4 46=1:=by kernel_rfl
 refine ze Tryz.func7 Tryz.ntmps7 ?_;refine qj (fun s:Nat×List PartE×Value=>[(0,.slice A ds.length c),(5,s.2.2),(6,ii s.1)])
  (fun s w'=>OpI ds w w' s.1 s.2.1 s.2.2) (fun s=>ds.length-s.1) (0,[],.slice none 0 0)
  ⟨rfl,rfl,rfl,trivial⟩ ⟨Am _,by rw[B8];rfl,(fun e he=>by cases he),(fun e he=>by cases he),⟨rfl,.inl ⟨rfl,rfl⟩⟩,(fun g cur t fz hg=>by cases hg),(fun k hk=>by cases hk),xr⟩ ?_
 rintro⟨i,es,v⟩ w1 ρ' hI;dsimp only at hI|-;have hi:=hI.le;have hes:=hI.qs;have he:=hI.ext;obtain⟨Av,cv,ev⟩:=qa6 hI.own;subst ev;have hesl:es.length=i:=by
  have:=Af List.length hes;rw[AI,AI,AK]at this;omega
 (conv=>whnf);refine zC (fun _=>zw ?_) (fun _=>zw ?_)
 case' refine_2=>
  obtain rfl:i=ds.length:=by omega
  rw[Bq]at hes;exact .inr ⟨es,Av,cv,rfl,hes,hI.ok,hI.x,hI.own,he⟩
 have hlt:i<ds.length:=by omega
 obtain⟨g,off,rfl,hat⟩:=hS.at_ (by intro e;rw[e]at hlt;simp at hlt);obtain⟨d,ed⟩:∃d,ds[i]?=some d:=⟨_,zge hlt⟩
 have hdm:=zmg ed;have hdl:=hl d hdm;have hcd:CellsAt w g (off+i*1) (encD d):=hat i d ed;have htk:(ds.take (i+1)).map (·.qs)=es.map (·.qs)++[d.qs]:=by rw[BU,ed,AG,hes];rfl
 refine⟨⟨g,off,i,rfl,by omega,by omega,?_⟩⟩;rw[t1];(conv=>whnf);refine LoadV.cell0 (CellsAt.ext hcd he) (zw ?_);refine zcv (qsy d.qs d.A d.qs.length d.c 67108864 w1 ((hD d hdm).ext he) rfl hdl ⟨by decide,by decide⟩ (hq d hdm)) ?_;rintro r w2 (⟨h0,rfl,he2⟩|⟨h0,va,rfl,hN⟩)
 ·have h1:¬((encE d.qs 67108864:Nat):Int)=0:=by omega
  refine zu ?_;exact .inl ⟨rfl,he.trans he2⟩
 obtain⟨Ab,cb,eb,hcb,hBS⟩:=hN.bs;subst eb;have hlen:=(qg6 h0).2.2.2;have hxe:=he.trans hN.ext;replace hI:=hI.call hN.ext;have hent:=qac7 h0;have hval:=(qg6 h0).1;have hstep:∀(e:PartE) (u:Value) (nb:Nat) (w3:Et),e.qs=d.qs->q79 e->PartX w3 e->u=ptE e->OpI ds w w3 i es (.slice Av es.length cv)->w3.heap[nb]?=some (.cells #[u] 41)->
   AppV E4 #[28,28] 28 (.slice Av es.length cv) (.slice (some ⟨nb,0,none⟩) 1 1) w3 fun v' w4=>∃A' c',v'=.slice A' (es.length+1) c'/\OpI ds w w4 (i+1) (es++[e]) v':=by
  rintro e u nb w3 heq hle hxe rfl hI hb;have hnu:qw2 (ptE e):=by
   unfold ptE
   split
   ·intro k c g;cases g
   ·intro k c g;cases g
  have h1u:(ptE e).oneCell'=true:=by
   unfold ptE
   split<;>rfl
  refine AppV.ixs (es:=e::es) hI.own hI.no (fun e' g=>(AF.1 g).elim (fun g=>by subst g;exact hxe) (hI.x e')) Oo (by rw[qa hb];rfl) hnu h1u ?_;intro A' c' w4 ho hno hx hch hF;refine⟨A',c',rfl,by omega,by rw[htk,AG,<-heq];rfl,?_,?_,?_,hno,?_,hch.ext hI.ext hI.lo⟩
  ·intro e' g
   rcases Bj.1 g with g|g
   ·exact hI.ok e' g
   ·rw[Ak.1 g];exact hle
  ·intro e' g
   rcases Bj.1 g with g|g
   ·exact hx e' (zmc g)
   ·rw[Ak.1 g];exact hx e mh
  ·rw[zla,AG];exact ho
  ·intro k g
   rcases hF k g with g|g
   ·exact hI.lo k g
   ·have:=hI.ext.size;omega
 refine zu ?_;refine⟨⟨g,off,i,rfl,by omega,by omega,?_⟩⟩;rw[t1];(conv=>whnf);refine LoadV.cell0 (CellsAt.ext hcd (he.trans hN.ext)) (zw ?_)
 (repeat'(first|refine zp ?_|refine zC (fun _=>zw ?_) (fun _=>zw ?_)))
 case' refine_1=>
  have hq0:d.qs=[]:=AZ Oo;refine znm (Mem.nil w2) fun nb w3 hm=>zw ?_;obtain⟨v',w4,hrun,A',c',rfl,hI4⟩:=hstep ⟨none,d.qs⟩ _ nb w3 rfl ⟨.inl hq0,hq0⟩ trivial rfl (hI.call hm.ext) (hm.get mh);refine⟨_,w4,hrun,?_⟩;refine zu ?_;exact⟨(i+1,es++[⟨none,d.qs⟩],.slice A' (es.length+1) c'),⟨rfl,rfl,rfl,trivial⟩,hI4,by dsimp only;omega⟩
 all_goals
  refine zcv (qx4 d.qs hent Ab _ cb w2 hBS rfl hcb Oo (CellsAt.ext hT hxe) (hG.ext hxe)) ?_;rintro r w3 ⟨x,xp,vb,tb,rfl,hX,he3⟩;replace hI:=hI.call he3;refine zu ?_;refine znm (Mem.nil w3) fun nb w4 hm=>zw ?_;obtain⟨v',w5,hrun,A',c',rfl,hI5⟩:=hstep ⟨some (x,xp,vb,tb),d.qs⟩ _ nb w4 rfl ⟨.inr hval,hent⟩ (hX.ext hm.ext) rfl (hI.call hm.ext) (hm.get mh);refine⟨_,w5,hrun,?_⟩;refine zu ?_;exact⟨(i+1,es++[⟨some (x,xp,vb,tb),d.qs⟩],.slice A' (es.length+1) c'),⟨rfl,rfl,rfl,trivial⟩,hI5,by dsimp only;omega⟩
theorem qj4{α:Type}(c:α->α->Int)(out:List α)(x:α):(qbv c out x).length<=out.length+1:=by
 unfold qbv
 split
 ·split<;>simp
 ·simp
theorem qkv{α:Type}(c:α->α->Int):∀(f:Nat) (a b out:List α),(mrgC c f a b out).length<=a.length+b.length+out.length
 | 0,a,b,out=>by rw[mrgC];omega
 | f+1,[],[],out=>by rw[mrgC];simp
 | f+1,x::a,[],out=>by
  rw[mrgC];have:=qkv c f a [] (qbv c out x);have:=qj4 c out x;simp only[Aw]at *;omega
 | f+1,[],y::b,out=>by
  rw[mrgC];have:=qkv c f [] b (qbv c out y);have:=qj4 c out y;simp only[Aw]at *;omega
 | f+1,x::a,y::b,out=>by
  rw[mrgC]
  split
  ·have:=qkv c f a (y::b) (qbv c out x);have:=qj4 c out x;simp only[Aw]at *;omega
  ·have:=qkv c f (x::a) b (qbv c out y);have:=qj4 c out y;simp only[Aw]at *;omega
theorem qi4{α:Type}(c:α->α->Int):∀(f:Nat) (l:List α),(srtC c f l).length<=l.length
 | 0,l=>Ar _
 | f+1,l=>by
  rw[srtC]
  split
  ·exact Ar _
  ·have h1:=qi4 c f (l.take (l.length/2));have h2:=qi4 c f (l.drop (l.length/2));refine Bd (qkv c _ _ _ _) ?_;rw[AK]at h1;rw[zld]at h2;simp only[BV];omega
theorem q9w{x y:Q4}{a b out:List Q4}(h:cmpQ x y<=0):mrgC cmpQ ((x::a).length+(y::b).length) (x::a) (y::b) out=mrgC cmpQ (a.length+(y::b).length) a (y::b) (qbv cmpQ out x):=by
 rw[show(x::a).length+(y::b).length=(a.length+(y::b).length)+1 by simp;omega,mrgC,Ad h]
theorem q9v{x y:Q4}{a b out:List Q4}(h:¬cmpQ x y<=0):mrgC cmpQ ((x::a).length+(y::b).length) (x::a) (y::b) out=mrgC cmpQ ((x::a).length+b.length) (x::a) b (qbv cmpQ out y):=by
 rw[show(x::a).length+(y::b).length=((x::a).length+b.length)+1 by simp;omega,mrgC,Aa h]
def QdR(l:List Q4)(v:Value)(w:Et):Prop:=∃B d,v=.slice B l.length d/\l.length<=d/\SlAt qd 16 w B l
theorem QdR.ext{l:List Q4}(v:Value)(w w':Et)(h:QdR l v w)(he:Ext w w'):QdR l v w':=by
 obtain⟨B,d,h1,h2,h3⟩:=h;exact⟨B,d,h1,h2,h3.ext he⟩
theorem V.SlAt.popQ{w:Et}{A:oA}{x:Q4}{a l:List Q4}{c:Nat}(h:SlAt qd 16 w A l)(e:l=x::a)(hc:l.length<=c):
  (∃g o,A=some ⟨g,o,none⟩/\CellsAt w g (o+0*16) (qd x))/\SlAt qd 16 w (if c=1 then A else A.map (·.add (1*16))) a:=by
 subst e;obtain⟨g,o,h1,h2⟩:=h.at_ Js;refine⟨⟨g,o,h1,h2 0 x rfl⟩,?_⟩;have:=h.cut (lo:=1) (hi:=(x::a).length) (m:=c) Js znr hc rfl;have e:((x::a).drop 1).take ((x::a).length-1)=a:=by show a.take a.length=a;exact Bq
 rwa[e]at this
structure MgQ where
 a:List Q4
 A:oA
 ca:Nat
 b:List Q4
 B:oA
 cb:Nat
 out:List Q4
 O:oA
 co:Nat
theorem qqq(ta tb:List Q4)(A1 B1:oA)(a1 b1:Nat)(w:Et)(ha2:SlAt qd 16 w A1 ta)(ha1:ta.length<=a1)(hb2:SlAt qd 16 w B1 tb)(hb1:tb.length<=b1)(hl:ta.length+tb.length<=16777216):
  Gv E4 54 [.slice A1 ta.length a1,.slice B1 tb.length b1] w fun v w'=>QdR (mrgC cmpQ (ta.length+tb.length) ta tb []) v w'/\Ext w w':=by
 refine ze Tryz.func54 Tryz.ntmps54 ?_;refine qj (fun x:MgQ=>[(0,.slice x.A x.a.length x.ca),(1,.slice x.B x.b.length x.cb),(5,.slice x.O x.out.length x.co)])
  (fun x w'=>SlAt qd 16 w x.A x.a/\x.a.length<=x.ca/\SlAt qd 16 w x.B x.b/\x.b.length<=x.cb/\Rw w w' (.slice x.O x.out.length x.co) 26 16 x.out.length (x.out.map qd).flatten []/\mrgC cmpQ (x.a.length+x.b.length) x.a x.b x.out=mrgC cmpQ (ta.length+tb.length) ta tb []/\x.a.length+x.b.length+x.out.length<=16777216)
  (fun x=>x.a.length+x.b.length) ⟨ta,A1,a1,tb,B1,b1,[],none,0⟩ ⟨rfl,rfl,rfl,trivial⟩ ⟨ha2,ha1,hb2,hb1,Rw.nil (Mem.nil w),rfl,by simp only[BV];omega⟩ ?_
 obtain⟨res,hres⟩:∃res,res=mrgC cmpQ (ta.length+tb.length) ta tb []:=⟨_,rfl⟩
 rw[<-hres];clear ha2 ha1 hb2 hb1;rintro⟨a,A,ca,b,B,cb,out,O,co⟩ w5 ρ' ⟨hSa,hca,hSb,hcb,hR,hmr,hle⟩;dsimp only at hSa hca hSb hcb hR hmr hle|-;obtain⟨na,ha⟩|⟨x,a',ea⟩:(a.length=0/\a=[])\/∃x a',a=x::a':=by
  rcases a with _|⟨x,a'⟩
  ·exact .inl ⟨rfl,rfl⟩
  ·exact .inr ⟨x,a',rfl⟩
 case' inl=>
  obtain⟨nb,hb⟩|⟨y,b',eb⟩:(b.length=0/\b=[])\/∃y b',b=y::b':=by
   rcases b with _|⟨y,b'⟩
   ·exact .inl ⟨rfl,rfl⟩
   ·exact .inr ⟨y,b',rfl⟩
  case inl=>
   refine zu ?_;rw[ha,hb]at hmr;obtain⟨h3,h4⟩:=qb7 qbe hR.own rfl;exact⟨⟨O,co,by rw[<-hmr];rfl,by rw[<-hmr];exact h4,by rw[<-hmr];exact h3⟩,hR.mem.ext⟩
  have nb:b.length=b'.length+1:=by rw[eb];rfl
  obtain⟨⟨gb,ob,eB,hxb⟩,hSb'⟩:=hSb.popQ eb hcb;subst eB;refine zu ?_;refine NewV.rw hR fun tp w6 hR=>zw ?_;refine DrawV.free Jk Jk (zw ?_);(iterate 18 (refine zd ?_));intro w7 he7;have hR:=hR.drew.call he7;refine zu ?_;refine⟨⟨gb,ob,0,rfl,by omega,by omega,?_⟩⟩;(conv=>whnf);refine LoadA.cells (CellsAt.ext hxb hR.mem.ext) rfl (zw ?_);refine StoreA.rwAll hR rfl (qv y) fun w8 hR=>zw ?_;refine SliceV.to 1 b.length cb rfl rfl rfl Oo Oo znr (fun h=>by cases h) ?_;rw[show tsz E4 26=16 from by kernel_rfl];(conv=>whnf);have hmr:mrgC cmpQ (a.length+b'.length) a b' (qbv cmpQ out y)=res:=by
   rw[<-hmr];subst ha eb;rw[show([]:List Q4).length+(y::b').length=(([]:List Q4).length+b'.length)+1 by simp];rfl
  obtain⟨q0,eq0⟩:∃q0,q0=y:=⟨_,rfl⟩
  rw[<-eq0]at hR hmr;have hSa1:SlAt qd 16 w A a:=hSa;have hSb1:SlAt qd 16 w (if cb=1 then(some ⟨gb,ob,none⟩:oA)else(some ⟨gb,ob,none⟩:oA).map (·.add (1*16))) b':=hSb';have hca1:a.length<=ca:=by omega
  have hcb1:b'.length<=cb-1:=by omega
  rw[show b.length-1=b'.length by omega];obtain⟨c1,ec1⟩:∃c1,c1=ca:=⟨_,rfl⟩
  obtain⟨d1,ed1⟩:∃d1,d1=cb-1:=⟨_,rfl⟩
  rw[<-ec1]at hca1|-;rw[<-ed1]at hcb1|-;obtain⟨A1,eA1⟩:∃A1,A1=A:=⟨_,rfl⟩
  obtain⟨B1,eB1⟩:∃B1,B1=(if cb=1 then(some ⟨gb,ob,none⟩:oA)else(some ⟨gb,ob,none⟩:oA).map (·.add (1*16))):=⟨_,rfl⟩
  rw[<-eA1]at hSa1|-;rw[<-eB1]at hSb1|-;have hle1:a.length+b'.length+out.length+1<=16777216:=by omega
  have hlt1:a.length+b'.length<a.length+b.length:=by omega
  obtain⟨a1,ea1⟩:∃a1,a1=a:=⟨_,rfl⟩
  obtain⟨b1,eb1⟩:∃b1,b1=b':=⟨_,rfl⟩
  rw[<-ea1]at hSa1 hca1 hmr hle1 hlt1|-;rw[<-eb1]at hSb1 hcb1 hmr hle1 hlt1|-;clear eq0 ec1 ed1 eA1 eB1 ea1 eb1
 case' inr=>
  have na:a.length=a'.length+1:=by rw[ea];rfl
  obtain⟨⟨ga,oa,eA,hxa⟩,hSa'⟩:=hSa.popQ ea hca;subst eA;obtain⟨nb,hb⟩|⟨y,b',eb⟩:(b.length=0/\b=[])\/∃y b',b=y::b':=by
   rcases b with _|⟨y,b'⟩
   ·exact .inl ⟨rfl,rfl⟩
   ·exact .inr ⟨y,b',rfl⟩
  case' inl=>
   refine zu ?_;refine NewV.rw hR fun tp w6 hR=>zw ?_;refine DrawV.free Jk Jk (zw ?_);(iterate 18 (refine zd ?_));intro w7 he7;have hR:=hR.drew.call he7;refine zu ?_;refine⟨⟨ga,oa,0,rfl,by omega,by omega,?_⟩⟩;(conv=>whnf);refine LoadA.cells (CellsAt.ext hxa hR.mem.ext) rfl (zw ?_);refine StoreA.rwAll hR rfl (qv x) fun w8 hR=>zw ?_;refine SliceV.to 1 a.length ca rfl rfl rfl Oo Oo znr (fun h=>by cases h) ?_;rw[show tsz E4 26=16 from by kernel_rfl];(conv=>whnf);have hmr:mrgC cmpQ (a'.length+b.length) a' b (qbv cmpQ out x)=res:=by
    rw[<-hmr];subst hb ea;rw[show(x::a').length+([]:List Q4).length=(a'.length+([]:List Q4).length)+1 by simp];rfl
   obtain⟨q0,eq0⟩:∃q0,q0=x:=⟨_,rfl⟩
   rw[<-eq0]at hR hmr;have hSa1:SlAt qd 16 w (if ca=1 then(some ⟨ga,oa,none⟩:oA)else(some ⟨ga,oa,none⟩:oA).map (·.add (1*16))) a':=hSa';have hSb1:SlAt qd 16 w B b:=hSb;have hca1:a'.length<=ca-1:=by omega
   have hcb1:b.length<=cb:=by omega
   rw[show a.length-1=a'.length by omega];obtain⟨c1,ec1⟩:∃c1,c1=ca-1:=⟨_,rfl⟩
   obtain⟨d1,ed1⟩:∃d1,d1=cb:=⟨_,rfl⟩
   rw[<-ec1]at hca1|-;rw[<-ed1]at hcb1|-;obtain⟨A1,eA1⟩:∃A1,A1=(if ca=1 then(some ⟨ga,oa,none⟩:oA)else(some ⟨ga,oa,none⟩:oA).map (·.add (1*16))):=⟨_,rfl⟩
   obtain⟨B1,eB1⟩:∃B1,B1=B:=⟨_,rfl⟩
   rw[<-eA1]at hSa1|-;rw[<-eB1]at hSb1|-;have hle1:a'.length+b.length+out.length+1<=16777216:=by omega
   have hlt1:a'.length+b.length<a.length+b.length:=by omega
   obtain⟨a1,ea1⟩:∃a1,a1=a':=⟨_,rfl⟩
   obtain⟨b1,eb1⟩:∃b1,b1=b:=⟨_,rfl⟩
   rw[<-ea1]at hSa1 hca1 hmr hle1 hlt1|-;rw[<-eb1]at hSb1 hcb1 hmr hle1 hlt1|-;clear eq0 ec1 ed1 eA1 eB1 ea1 eb1
  case' inr=>
   have nb:b.length=b'.length+1:=by rw[eb];rfl
   obtain⟨⟨gb,ob,eB,hxb⟩,hSb'⟩:=hSb.popQ eb hcb;subst eB
   by_cases hxy:cmpQ x y<=0
   case' pos=>
    refine zu ?_;refine NewV.rw hR fun tp w6 hR=>zw ?_;refine DrawV.free Jk Jk (zw ?_);(iterate 9 (refine zd ?_));refine zf ?_ (by intro wd hd;refine zu ?_;refine⟨⟨ga,oa,0,rfl,by omega,by omega,?_⟩⟩;exact⟨xr,rfl⟩);apply zsd (qn x)
    ·intro wd hd;refine zu ?_;refine LoadA.cells (CellsAt.ext hxa ((hR.mem.ext.trans (Ext.refl w6).drew).trans hd)) rfl (zw ?_);exact⟨xr,rfl⟩
    (conv=>whnf);refine zd ?_;refine zf ?_ (by intro wd hd;refine zu ?_;refine⟨⟨gb,ob,0,rfl,by omega,by omega,?_⟩⟩;exact⟨xr,rfl⟩);apply zsd (qn y)
    ·intro wd hd;refine zu ?_;refine LoadA.cells (CellsAt.ext hxb ((hR.mem.ext.trans (Ext.refl w6).drew).trans hd)) rfl (zw ?_);exact⟨xr,rfl⟩
    (conv=>whnf);apply zsd (ii (cmpQ x y))
    ·intro wd hd;refine zu ?_;refine zcv (qb2 x y wd) ?_;rintro v w7 ⟨rfl,h7⟩;exact⟨h7,rfl⟩
    (conv=>whnf);(iterate 3 (refine zd ?_));intro w7 he7;have hR:=hR.drew.call he7;refine zu ?_;refine⟨⟨ga,oa,0,rfl,by omega,by omega,?_⟩⟩;(conv=>whnf);refine LoadA.cells (CellsAt.ext hxa hR.mem.ext) rfl (zw ?_);refine StoreA.rwAll hR rfl (qv x) fun w8 hR=>zw ?_;refine SliceV.to 1 a.length ca rfl rfl rfl Oo Oo znr (fun h=>by cases h) ?_;rw[show tsz E4 26=16 from by kernel_rfl];(conv=>whnf);have hmr:mrgC cmpQ (a'.length+b.length) a' b (qbv cmpQ out x)=res:=by
     rw[<-hmr];subst ea eb;exact(q9w hxy).symm
    obtain⟨q0,eq0⟩:∃q0,q0=x:=⟨_,rfl⟩
    rw[<-eq0]at hR hmr;have hSa1:SlAt qd 16 w (if ca=1 then(some ⟨ga,oa,none⟩:oA)else(some ⟨ga,oa,none⟩:oA).map (·.add (1*16))) a':=hSa';have hSb1:SlAt qd 16 w (some ⟨gb,ob,none⟩:oA) b:=hSb;have hca1:a'.length<=ca-1:=by omega
    have hcb1:b.length<=cb:=by omega
    rw[show a.length-1=a'.length by omega];obtain⟨c1,ec1⟩:∃c1,c1=ca-1:=⟨_,rfl⟩
    obtain⟨d1,ed1⟩:∃d1,d1=cb:=⟨_,rfl⟩
    rw[<-ec1]at hca1|-;rw[<-ed1]at hcb1|-;obtain⟨A1,eA1⟩:∃A1,A1=(if ca=1 then(some ⟨ga,oa,none⟩:oA)else(some ⟨ga,oa,none⟩:oA).map (·.add (1*16))):=⟨_,rfl⟩
    obtain⟨B1,eB1⟩:∃B1,B1=(some ⟨gb,ob,none⟩:oA):=⟨_,rfl⟩
    rw[<-eA1]at hSa1|-;rw[<-eB1]at hSb1|-;have hle1:a'.length+b.length+out.length+1<=16777216:=by omega
    have hlt1:a'.length+b.length<a.length+b.length:=by omega
    obtain⟨a1,ea1⟩:∃a1,a1=a':=⟨_,rfl⟩
    obtain⟨b1,eb1⟩:∃b1,b1=b:=⟨_,rfl⟩
    rw[<-ea1]at hSa1 hca1 hmr hle1 hlt1|-;rw[<-eb1]at hSb1 hcb1 hmr hle1 hlt1|-;clear eq0 ec1 ed1 eA1 eB1 ea1 eb1
   case' neg=>
    refine zu ?_;refine NewV.rw hR fun tp w6 hR=>zw ?_;refine DrawV.free Jk Jk (zw ?_);(iterate 9 (refine zd ?_));refine zf ?_ (by intro wd hd;refine zu ?_;refine⟨⟨ga,oa,0,rfl,by omega,by omega,?_⟩⟩;exact⟨xr,rfl⟩);apply zsd (qn x)
    ·intro wd hd;refine zu ?_;refine LoadA.cells (CellsAt.ext hxa ((hR.mem.ext.trans (Ext.refl w6).drew).trans hd)) rfl (zw ?_);exact⟨xr,rfl⟩
    (conv=>whnf);refine zd ?_;refine zf ?_ (by intro wd hd;refine zu ?_;refine⟨⟨gb,ob,0,rfl,by omega,by omega,?_⟩⟩;exact⟨xr,rfl⟩);apply zsd (qn y)
    ·intro wd hd;refine zu ?_;refine LoadA.cells (CellsAt.ext hxb ((hR.mem.ext.trans (Ext.refl w6).drew).trans hd)) rfl (zw ?_);exact⟨xr,rfl⟩
    (conv=>whnf);apply zsd (ii (cmpQ x y))
    ·intro wd hd;refine zu ?_;refine zcv (qb2 x y wd) ?_;rintro v w7 ⟨rfl,h7⟩;exact⟨h7,rfl⟩
    (conv=>whnf);(iterate 3 (refine zd ?_));intro w7 he7;have hR:=hR.drew.call he7;refine zu ?_;refine⟨⟨gb,ob,0,rfl,by omega,by omega,?_⟩⟩;(conv=>whnf);refine LoadA.cells (CellsAt.ext hxb hR.mem.ext) rfl (zw ?_);refine StoreA.rwAll hR rfl (qv y) fun w8 hR=>zw ?_;refine SliceV.to 1 b.length cb rfl rfl rfl Oo Oo znr (fun h=>by cases h) ?_;rw[show tsz E4 26=16 from by kernel_rfl];(conv=>whnf);have hmr:mrgC cmpQ (a.length+b'.length) a b' (qbv cmpQ out y)=res:=by
     rw[<-hmr];subst ea eb;exact(q9v hxy).symm
    obtain⟨q0,eq0⟩:∃q0,q0=y:=⟨_,rfl⟩
    rw[<-eq0]at hR hmr;have hSa1:SlAt qd 16 w (some ⟨ga,oa,none⟩:oA) a:=hSa;have hSb1:SlAt qd 16 w (if cb=1 then(some ⟨gb,ob,none⟩:oA)else(some ⟨gb,ob,none⟩:oA).map (·.add (1*16))) b':=hSb';have hca1:a.length<=ca:=by omega
    have hcb1:b'.length<=cb-1:=by omega
    rw[show b.length-1=b'.length by omega];obtain⟨c1,ec1⟩:∃c1,c1=ca:=⟨_,rfl⟩
    obtain⟨d1,ed1⟩:∃d1,d1=cb-1:=⟨_,rfl⟩
    rw[<-ec1]at hca1|-;rw[<-ed1]at hcb1|-;obtain⟨A1,eA1⟩:∃A1,A1=(some ⟨ga,oa,none⟩:oA):=⟨_,rfl⟩
    obtain⟨B1,eB1⟩:∃B1,B1=(if cb=1 then(some ⟨gb,ob,none⟩:oA)else(some ⟨gb,ob,none⟩:oA).map (·.add (1*16))):=⟨_,rfl⟩
    rw[<-eA1]at hSa1|-;rw[<-eB1]at hSb1|-;have hle1:a.length+b'.length+out.length+1<=16777216:=by omega
    have hlt1:a.length+b'.length<a.length+b.length:=by omega
    obtain⟨a1,ea1⟩:∃a1,a1=a:=⟨_,rfl⟩
    obtain⟨b1,eb1⟩:∃b1,b1=b':=⟨_,rfl⟩
    rw[<-ea1]at hSa1 hca1 hmr hle1 hlt1|-;rw[<-eb1]at hSb1 hcb1 hmr hle1 hlt1|-;clear eq0 ec1 ed1 eA1 eB1 ea1 eb1
 all_goals
  rcases hout:out.getLast? with _|z
  ·have hon:out=[]:=Cl.1 hout;have ho0:out.length=0:=by rw[hon];rfl
   have hpu:qbv cmpQ out q0=out++[q0]:=by rw[qbv,hout,hon];rfl
   refine DrawV.free Jk Jk (zw ?_);(iterate 14 (refine zd ?_));intro w9 he9;have hR:=hR.drew.call he9;refine zu ?_;refine zl hR.mem 0 ?_;refine NewV.rw hR fun nb' w17 hR=>zw ?_;refine AppV.rw (m:=1) (news:=qd q0) qdSl qdI qdZ Jk Jk Od hR rfl (fun _=>⟨nb',0,rfl,fun k v hv=>?_⟩) (qv q0) (by rw[show((E4.info? 26).get Jk).bytes=224 from by kernel_rfl];omega) Oo ?_
   ·rw[qa (hR.mem.get mh),AC];rw[AB];exact hv
   clear hR;intro B2 c2 w18 hR;have hR:Rw w w18 (.slice B2 (out++[q0]).length c2) 26 16 (out++[q0]).length ((out++[q0]).map qd).flatten []:=by
    have e:((out++[q0]).map qd).flatten=(out.map qd).flatten++qd q0:=by simp
    rw[e,zla];exact hR.tail.tail
   (conv=>whnf);rw[hpu]at hmr;refine⟨⟨a1,A1,c1,b1,B1,d1,out++[q0],B2,c2⟩,⟨rfl,rfl,?_,trivial⟩,⟨hSa1,hca1,hSb1,hcb1,hR,hmr,?_⟩,hlt1⟩
   ·first|rfl|(show Value.slice _ (out.length+1) _=Value.slice _ (out++[_]).length _;rw[zla];rfl)
   ·simp only[zla,Bh];omega
  ·obtain⟨ho1,ho2⟩:=qb7 qbe hR.own rfl;have hon:out≠[]:=by intro e;rw[e]at hout;cases hout
   have hop:0<out.length:=Cd.2 hon;have hz:out[out.length-1]?=some z:=by rw[<-hout,CQ]
   obtain⟨go,oo,eO,hco⟩:=ho1.at_ hon;subst eO;have hcz:=hco (out.length-1) z hz;refine DrawV.free Jk Jk (zw ?_);(iterate 8 (refine zd ?_));refine zf ?_ (by intro wd hd;refine zu ?_;refine⟨⟨go,oo,(out.length-1),rfl,by omega,by omega,?_⟩⟩;exact⟨xr,rfl⟩);apply zsd (qn z)
   ·intro wd hd;refine zu ?_;refine LoadA.cells (CellsAt.ext hcz ((Ext.refl w8).drew.trans hd)) rfl (zw ?_);exact⟨xr,rfl⟩
   (conv=>whnf);apply zsd (qn q0)
   ·intro wd hd;refine zu ?_;refine LoadA.mem (Mem.call (Mem.drew hR.mem) hd) (i:=0) rfl rfl (zw ?_);exact⟨xr,rfl⟩
   (conv=>whnf);apply zsd (ii (cmpQ z q0))
   ·intro wd hd;refine zu ?_;refine zcv (qb2 z q0 wd) ?_;rintro v w7 ⟨rfl,h7⟩;exact⟨h7,rfl⟩
   (conv=>whnf);refine zd ?_;refine zd ?_;intro w9 he9;have hR:=hR.drew.call he9;conv=>whnf
   by_cases hzq:cmpQ z q0<0
   ·have hpu:qbv cmpQ out q0=out++[q0]:=by rw[qbv,hout];simp only[hzq,if_true]
    refine zv ?_;refine zl hR.mem 0 ?_;refine NewV.rw hR fun nb' w17 hR=>zw ?_;refine AppV.rw (m:=1) (news:=qd q0) qdSl qdI qdZ Jk Jk Od hR rfl (fun _=>⟨nb',0,rfl,fun k v hv=>?_⟩) (qv q0) (by rw[show((E4.info? 26).get Jk).bytes=224 from by kernel_rfl];omega) Oo ?_
    ·rw[qa (hR.mem.get mh),AC];rw[AB];exact hv
    clear hR;intro B2 c2 w18 hR;have hR:Rw w w18 (.slice B2 (out++[q0]).length c2) 26 16 (out++[q0]).length ((out++[q0]).map qd).flatten []:=by
     have e:((out++[q0]).map qd).flatten=(out.map qd).flatten++qd q0:=by simp
     rw[e,zla];exact hR.tail.tail
    (conv=>whnf);rw[hpu]at hmr;refine⟨⟨a1,A1,c1,b1,B1,d1,out++[q0],B2,c2⟩,⟨rfl,rfl,?_,trivial⟩,⟨hSa1,hca1,hSb1,hcb1,hR,hmr,?_⟩,hlt1⟩
    ·first|rfl|(show Value.slice _ (out.length+1) _=Value.slice _ (out++[_]).length _;rw[zla];rfl)
    ·simp only[zla,Bh];omega
   ·have hpu:qbv cmpQ out q0=out:=by rw[qbv,hout];simp only[hzq,if_false]
    refine zv ?_;rw[hpu]at hmr;exact⟨⟨a1,A1,c1,b1,B1,d1,out,some ⟨go,oo,none⟩,co⟩,⟨rfl,rfl,rfl,trivial⟩,⟨hSa1,hca1,hSb1,hcb1,hR.tail,hmr,by dsimp only;omega⟩,hlt1⟩
theorem qjj(l:List Q4)(A:oA)(c:Nat)(w:Et)(h2:l.length<2)(hS:SlAt qd 16 w A l):
  Gv E4 34 [.slice A l.length c] w fun v w'=>QdR l v w'/\Ext w w':=by
 refine ze Tryz.func34 Tryz.ntmps34 ?_;refine zv ?_;refine⟨fun nb w1 hb hw=>?_⟩;have he1:Ext w w1:=by rw[hw];exact xr.alloc _
 have hg:w1.heap[nb]?=some (.cells #[] 26):=by rw[hw,hb];exact heap_alloc_new w _
 have hR:Rw w w1 (.slice (some ⟨nb,0,none⟩) 0 0) 26 16 0 [] []:=⟨(Mem.nil w).call he1,⟨rfl,.inr ⟨nb,0,#[],rfl,by omega,hg,Ar _,Am _,rfl,rfl⟩⟩,fun x hx=>by simp at hx⟩
 (conv=>whnf);refine AppV.rw (m:=l.length) (news:=(l.map qd).flatten) qdSl qdI qdZ Jk Jk Od hR (qee qd 16 qbe l) (fun hne=>?_) ?_ (by rw[show((E4.info? 26).get Jk).bytes=224 from by kernel_rfl];omega) Oo ?_
 ·obtain⟨b,off,h3,h4⟩:=hS.at_ (by intro e;subst e;exact hne rfl);exact⟨b,off,h3,(qc3 Od qbe h4).ext he1⟩
 ·intro u hu;obtain⟨x,hx,hux⟩:=DC.1 hu;obtain⟨t,_,rfl⟩:=Bc.1 hx;exact qv t u hux
 intro B d w2 hR2;(conv=>whnf);have e:0+l.length=l.length:=AC _;rw[e]at hR2|-;obtain⟨h3,h4⟩:=qb7 qbe hR2.own rfl;exact⟨⟨B,d,rfl,h4,h3⟩,hR2.mem.ext⟩
theorem qx5:∀(n:Nat) (l:List Q4) (A:oA) (c:Nat) (w:Et),l.length<=n->SlAt qd 16 w A l->l.length<=c->l.length<=16777216->
  Gv E4 34 [.slice A l.length c] w fun v w'=>QdR (srtC cmpQ n l) v w'/\Ext w w':=by
 intro n
 induction n with
 | zero=>
  intro l A c w hn hS hc hl;exact qjj l A c w Oo hS
 | succ n ih=>
  intro l A c w hn hS hc hl
  by_cases h2:l.length<2
  ·rw[srtC,Ad h2];exact qjj l A c w h2 hS
  have et:srtC cmpQ (n+1) l=mrgC cmpQ ((srtC cmpQ n (l.take (l.length/2))).length+(srtC cmpQ n (l.drop (l.length/2))).length) (srtC cmpQ n (l.take (l.length/2))) (srtC cmpQ n (l.drop (l.length/2))) []:=by rw[srtC,Aa h2]
  rw[et];have hla:(l.take (l.length/2)).length=l.length/2:=by rw[AK];omega
  have hlb:(l.drop (l.length/2)).length=l.length-l.length/2:=zld ..;have hSa:=hS.cut (lo:=0) (hi:=l.length/2) (m:=c) Oo Oo Oo rfl;have hSb:=hS.cut (lo:=l.length/2) (hi:=l.length) (m:=c) Oo Oo Oo rfl;rw[BB,Es]at hSa;rw[AE (by rw[hlb];exact Ar _)]at hSb;have iha:=fun w' h=>ih (l.take (l.length/2)) (if c=0 then A else A.map (·.add (0*16))) c w' Oo h Oo Oo
  have ihb:=fun w' h=>ih (l.drop (l.length/2)) (if c=l.length/2 then A else A.map (·.add (l.length/2*16))) (c-l.length/2) w' Oo h Oo Oo
  rw[hla]at iha;rw[hlb]at ihb;have tla:=qi4 cmpQ n (l.take (l.length/2));have tlb:=qi4 cmpQ n (l.drop (l.length/2));obtain⟨ta,eta⟩:∃ta,ta=srtC cmpQ n (l.take (l.length/2)):=⟨_,rfl⟩
  obtain⟨tb,etb⟩:∃tb,tb=srtC cmpQ n (l.drop (l.length/2)):=⟨_,rfl⟩
  rw[<-eta]at iha tla|-;rw[<-etb]at ihb tlb|-;rw[hla]at tla;rw[hlb]at tlb;clear et eta etb ih;refine ze Tryz.func34 Tryz.ntmps34 ?_;refine zv ?_;refine DrawV.free Jk Jk (zw ?_);(iterate 4 (refine zd ?_));refine zsd (.slice (if c=0 then A else A.map (·.add (0*16))) (l.length/2) c) (fun wd hd=>zw ?_) (zw ?_)
  ·refine SliceV.to 0 (l.length/2) c rfl rfl rfl Oo Oo znr (fun h=>by cases h) ?_;rw[show tsz E4 26=16 from by kernel_rfl];exact⟨xr,rfl⟩
  apply StepD.of (QdR ta) QdR.ext
  ·intro wd hd;(conv=>whnf);refine zcv (iha wd (hSa.ext ((Ext.refl w).drew.trans hd))) ?_;rintro v w5 ⟨h1,h2⟩;exact⟨h2,h1⟩
  (conv=>whnf);(iterate 4 (refine zd ?_));refine zsd (.slice (if c=l.length/2 then A else A.map (·.add (l.length/2*16))) (l.length-l.length/2) (c-l.length/2)) (fun wd hd=>zw ?_) (zw ?_)
  ·refine SliceV.to (l.length/2) l.length c rfl rfl rfl Oo Oo znr (fun h=>by cases h) ?_;rw[show tsz E4 26=16 from by kernel_rfl];exact⟨xr,rfl⟩
  apply StepD.of (QdR tb) QdR.ext
  ·intro wd hd;conv=>whnf
   repeat(intro _ _;(conv=>whnf))
   refine zcv (ihb wd (hSb.ext ((Ext.refl w).drew.trans hd))) ?_;rintro v w5 ⟨h1,h2⟩;exact⟨h2,h1⟩
  (conv=>whnf);apply StepD.of (QdR (mrgC cmpQ (ta.length+tb.length) ta tb [])) QdR.ext
  ·intro wd hd;conv=>whnf
   repeat(rintro _ ⟨_,_,rfl,_,_⟩;(conv=>whnf))
   refine zcv (qqq ta tb _ _ _ _ wd Oa Oa Oa Oa Oo) ?_;rintro v w5 ⟨h1,h2⟩;exact⟨h2,h1⟩
  (conv=>whnf);apply StepD.of (QdR (mrgC cmpQ (ta.length+tb.length) ta tb [])) QdR.ext
  ·intro wd hd;conv=>whnf
   (repeat(rintro _ ⟨_,_,rfl,_,_⟩;(conv=>whnf)))
   exact⟨xr,_,_,rfl,by assumption,by assumption⟩
  (conv=>whnf);intro w4 he;conv=>whnf
  (repeat(rintro _ ⟨_,_,rfl,_,_⟩;(conv=>whnf)))
  exact⟨⟨_,_,rfl,by assumption,by assumption⟩,(Ext.refl w).drew.trans he⟩
theorem quy{p t:TM}(h:p.kind=4):fitT p t=true:=by rw[fitT,h];rfl
theorem quz{p t:TM}(h:qat p t=true):fitT p t=true:=by rw[fitT,h,Ep]
theorem qnx{p q:Q4}(i:Nat)(hi:i<4)(h4:¬(p.at i).kind=4)(hst:qat (p.at i) (q.at i)=false):fitQ p q=false:=Bz.2 fun g=>by
 have:=(qnw p q).1 g i hi;rw[fitT,hst,AJ h4]at this;cases this
theorem qwq(p q:Q4)(w:Et):Gv E4 35 [qn p,qn q] w fun r w'=>r=.bool (fitQ p q)/\Ext w w':=by
 refine ze Tryz.func35 Tryz.ntmps35 ?_;refine znm (Mem.nil w) fun pb w1 hm=>zw ?_;refine znm hm ?_;clear hm;intro qb w2 hm;have hcp:∀i,i<4->CellsAt w2 pb (4*i) (encT (p.at i)):=fun i hi k v hv=>by
  rw[qa (hm.get (zmc (Ak.2 rfl))),AB];exact qhq p hi hv
 have hcq:∀i,i<4->CellsAt w2 qb (4*i) (encT (q.at i)):=fun i hi k v hv=>by
  rw[qa (hm.get mh),AB];exact qhq q hi hv
 have hkd:∀i,i<4->w2.cell? ⟨pb,4*i+0,none⟩=some (ii (p.at i).kind):=fun i hi=>hcp i hi 0 _ rfl
 have he:=hm.ext;clear hm;(conv=>whnf);refine LoadV.of (hkd 0 Od) (zw ?_)
 rcases D2 ((p.at 0).kind=4)with h0|h0
 case' inl=>
  have hf0:=quy (t:=q.at 0) h0;refine zv ?_
 case' inr=>
  refine zv ?_;refine LoadA.cells (vs:=encT (p.at 0)) (hcp 0 Od) rfl (zu ?_);refine LoadA.cells (vs:=encT (q.at 0)) (hcq 0 Od) rfl (zu ?_);refine RunV.eqTerm (a:=p.at 0) (b:=q.at 0) (.inl rfl) ?_;cases hst:qat (p.at 0) (q.at 0)
  case false=>
   refine zu ?_;exact⟨(Af Value.bool (qnx 0 Od h0 hst)).symm,he⟩
  have hf0:=quz hst;refine zu ?_
 all_goals
  refine LoadV.of (hkd 1 Od) (zw ?_)
  rcases D2 ((p.at 1).kind=4)with h1|h1
  case' inl=>
   have hf1:=quy (t:=q.at 1) h1;refine zv ?_
  case' inr=>
   refine zv ?_;refine LoadA.cells (vs:=encT (p.at 1)) (hcp 1 Od) rfl (zu ?_);refine LoadA.cells (vs:=encT (q.at 1)) (hcq 1 Od) rfl (zu ?_);refine RunV.eqTerm (a:=p.at 1) (b:=q.at 1) (.inl rfl) ?_;cases hst:qat (p.at 1) (q.at 1)
   case false=>
    refine zu ?_;exact⟨(Af Value.bool (qnx 1 Od h1 hst)).symm,he⟩
   have hf1:=quz hst;refine zu ?_
 all_goals
  refine LoadV.of (hkd 2 Od) (zw ?_)
  rcases D2 ((p.at 2).kind=4)with h2|h2
  case' inl=>
   have hf2:=quy (t:=q.at 2) h2;refine zv ?_
  case' inr=>
   refine zv ?_;refine LoadA.cells (vs:=encT (p.at 2)) (hcp 2 Od) rfl (zu ?_);refine LoadA.cells (vs:=encT (q.at 2)) (hcq 2 Od) rfl (zu ?_);refine RunV.eqTerm (a:=p.at 2) (b:=q.at 2) (.inl rfl) ?_;cases hst:qat (p.at 2) (q.at 2)
   case false=>
    refine zu ?_;exact⟨(Af Value.bool (qnx 2 Od h2 hst)).symm,he⟩
   have hf2:=quz hst;refine zu ?_
 all_goals
  refine LoadV.of (hkd 3 Od) (zw ?_)
  rcases D2 ((p.at 3).kind=4)with h3|h3
  case' inl=>
   have hf3:=quy (t:=q.at 3) h3;refine zv ?_
  case' inr=>
   refine zv ?_;refine LoadA.cells (vs:=encT (p.at 3)) (hcp 3 Od) rfl (zu ?_);refine LoadA.cells (vs:=encT (q.at 3)) (hcq 3 Od) rfl (zu ?_);refine RunV.eqTerm (a:=p.at 3) (b:=q.at 3) (.inl rfl) ?_;cases hst:qat (p.at 3) (q.at 3)
   case false=>
    refine zu ?_;exact⟨(Af Value.bool (qnx 3 Od h3 hst)).symm,he⟩
   have hf3:=quz hst;refine zu ?_
 all_goals
  refine⟨Af Value.bool ((qnw p q).2 fun j hj=>?_).symm,he⟩
  match j,hj with
  | 0,_=>exact hf0
  | 1,_=>exact hf1
  | 2,_=>exact hf2
  | 3,_=>exact hf3
theorem q8f{q:Q4}{L:List Q4}{i:Nat}{x:Q4}(hi:L[i]?=some x)(h:cmpQ x q<0):aheC q (L.drop i)=aheC q (L.drop (i+1))+1:=by
 obtain⟨g1,g2⟩:=Ae.1 hi;rw[B9 g1,g2,aheC,Ad h]
theorem q8e{q:Q4}{L:List Q4}{i:Nat}{x:Q4}(hi:L[i]?=some x)(h:¬cmpQ x q<0):aheC q (L.drop i)=0:=by
 obtain⟨g1,g2⟩:=Ae.1 hi;rw[B9 g1,g2,aheC,Aa h]
theorem qwp(L:List Q4)(q:Q4)(A:oA)(n c:Nat)(w:Et)(hS:SlAt qd 16 w A L)(hn:L.length=n)(hb:n<=140737488355328):
  Gv E4 36 [.slice A n c,qn q] w fun r w'=>(∃b,r=.tuple #[ii (aheC q L),.bool b]/\(b=true↔L[aheC q L]?=some q))/\Ext w w':=by
 subst hn;have t16:tsz E4 26=16:=by kernel_rfl
 refine ze Tryz.func36 Tryz.ntmps36 ?_;refine znm (Mem.nil w) fun qb w1 hm=>zw ?_;refine qj (fun i:Nat=>[(0,.slice A L.length c),(3,pp qb),(6,ii i)])
  (fun i w'=>i<=L.length/\aheC q L=aheC q (L.drop i)+i/\Mem w w' [(qb,.cells (qd q).toArray 26)]) (fun i=>L.length-i) 0 ⟨rfl,rfl,rfl,trivial⟩ ⟨Am _,rfl,hm⟩ ?_
 clear hm;rintro i w2 ρ' ⟨hi,ha,hm⟩;(conv=>whnf);have hgq:∀wd,Ext w2 wd->wd.heap[qb]?=some (.cells (qd q).toArray 26):=fun wd he=>he.get (hm.get mh)
 have hx:∀wd,Ext w2.drew wd->Ext w wd:=fun wd hd=>hm.ext.trans ((Ext.refl w2).drew.trans hd)
 refine DrawV.free Jk Jk (zw ?_);(iterate 5 (refine zd ?_))
 by_cases hlt:i<L.length
 case neg=>
  obtain rfl:i=L.length:=by omega
  have hd:(decide ((L.length:Int)<(L.length:Int)))=false:=by simp
  rw[hd];(iterate 8 (refine zd ?_));intro w3 he3;refine zu ?_;refine DrawV.free Jk Jk (zw ?_);(iterate 15 (refine zd ?_));intro w4 he4;(conv=>whnf);rw[List.drop_length]at ha;have ha:aheC q L=L.length:=by rw[ha];exact AC _
  refine⟨⟨false,by rw[ha],⟨(fun h=>by cases h),fun h=>?_⟩⟩,hm.ext.trans (((Ext.refl w2).drew.trans he3).trans ((Ext.refl w3).drew.trans he4))⟩;rw[ha,Az znr]at h;cases h
 obtain⟨g,off,rfl,hat⟩:=hS.at_ (by intro e;rw[e]at hlt;simp at hlt);obtain⟨x,hxi⟩:∃x,L[i]?=some x:=⟨_,zge hlt⟩
 have hcx:=hat i x hxi;have hd:(decide ((i:Int)<(L.length:Int)))=true:=AD Oo;rw[hd];refine zd ?_;refine zd ?_;apply zsd (.pointer (some ⟨g,off+i*16,none⟩))
 ·intro wd hd;refine zu ?_;refine⟨⟨g,off,i,rfl,by omega,by omega,?_⟩⟩;rw[t16];(conv=>whnf);exact⟨xr,rfl⟩
 (conv=>whnf);apply zsd (qn x)
 ·intro wd hd;refine zu ?_;refine LoadA.cells (CellsAt.ext hcx (hx wd hd)) rfl (zw ?_);exact⟨xr,rfl⟩
 (conv=>whnf);apply zsd (qn q)
 ·intro wd hd;refine zu ?_;refine LoadA.own (hgq wd ((Ext.refl w2).drew.trans hd)) rfl (zw ?_);exact⟨xr,rfl⟩
 (conv=>whnf);apply zsd (ii (cmpQ x q))
 ·intro wd hd;refine zu ?_;refine zcv (qb2 x q wd) ?_;rintro r wx ⟨rfl,hex⟩;exact⟨hex,rfl⟩
 (conv=>whnf);refine zd ?_;refine zd ?_;intro w3 he3;have hxe:Ext w w3:=hm.ext.trans ((Ext.refl w2).drew.trans he3);replace hm:=(hm.drew).call he3
 by_cases hc:cmpQ x q<0
 ·refine zu ?_;exact⟨i+1,⟨rfl,rfl,Af (Value.int .i64) Oo,trivial⟩,⟨by omega,by rw[ha,q8f hxi hc];omega,hm⟩,by omega⟩
 rw[q8e hxi hc,AC]at ha;rw[ha,hxi];refine zu ?_;refine DrawV.free Jk Jk (zw ?_);(iterate 6 (refine zd ?_));rw[hd];refine zd ?_;refine zd ?_;apply zsd (.pointer (some ⟨g,off+i*16,none⟩))
 ·intro wd hd;refine zu ?_;refine⟨⟨g,off,i,rfl,by omega,by omega,?_⟩⟩;rw[t16];(conv=>whnf);exact⟨xr,rfl⟩
 (conv=>whnf);apply zsd (qn x)
 ·intro wd hd;refine zu ?_;refine LoadA.cells (CellsAt.ext hcx (hxe.trans ((Ext.refl w3).drew.trans hd))) rfl (zw ?_);exact⟨xr,rfl⟩
 (conv=>whnf);apply zsd (qn q)
 ·intro wd hd;refine zu ?_;refine LoadA.own (((Ext.refl w3).drew.trans hd).get (hm.get mh)) rfl (zw ?_);exact⟨xr,rfl⟩
 (conv=>whnf);apply zsd (.bool (qc0 x q))
 ·intro wd hd;refine zu ?_;refine RunV.eqQd (a:=x) (b:=q) (zw ?_);exact⟨xr,rfl⟩
 (conv=>whnf);(iterate 3 (refine zd ?_));intro w4 he4;(conv=>whnf);refine⟨⟨_,rfl,?_⟩,hxe.trans ((Ext.refl w3).drew.trans he4)⟩;rw[qhw,B4]
theorem V.RowX.capd{e:Ew}{size n:Nat}{v:Value}{xs:Ez}{Y:Ey}(h:RowX e size v n xs Y):∃A c,v=.slice A n c/\n<=c/\(n=0\/∃g,A=some ⟨g,0,none⟩):=by
 obtain⟨_,⟨rfl,rfl,_⟩|⟨g,cap,cur,rfl,_,h3,_⟩⟩:=h
 ·exact⟨_,_,rfl,Ar _,.inl rfl⟩
 ·exact⟨_,_,rfl,h3,.inr ⟨g,rfl⟩⟩
theorem V.RowX.cells{α:Type}{enc:α->Ez}{e sz:Nat}(henc:∀x,(enc x).length=sz){g c:Nat}{l:List α}{Y:Ey}{w:Et}(h:RowX e sz (.slice (some ⟨g,0,none⟩) l.length c) l.length (l.map enc).flatten Y)(hY:∀x∈Y,w.heap[x.1]?=some x.2):
  ∀(i:Nat) (x:α),l[i]?=some x->CellsAt w g (0+i*sz) (enc x):=by
 intro i x hi k u hu;obtain⟨_,⟨h1,_⟩|⟨g',cap,cur,h1,rfl,_,_,_,h5⟩⟩:=h
 ·injection h1 with h1;cases h1
 injection h1 with h1 _ _
 injection h1 with h1
 injection h1 with h1
 subst h1;have hk:k<sz:=by
  have:=(Ae.1 hu).1
  rwa[henc]at this
 have hil:=(Ae.1 hi).1;have hfl:=qc8 enc sz henc l i x k hi hk;have hb:(i+1)*sz<=l.length*sz:=B0 _ hil;rw[<-h5,Bi,Ad (by rw[CT]at hb;omega),hu]at hfl;rw[qa (hY _ (Ak.2 rfl)),AC]
 simpa using hfl
structure SnE where
 q:Q4
 zs:List Int
 v:Value
def snC(s:SnE):Ez:=seC s.q s.v
theorem q2c(s:SnE):(snC s).length=17:=rfl
def snP(s:SnE):Q4×List Int:=(s.q,s.zs)
def zsV(zs:List Int):Ez:=zs.map (Value.int .i64 ·)
theorem q6r(zs:List Int):(zs.map V.zeI).flatten=zsV zs:=by
 induction zs with
 | nil=>rfl
 | cons z zs ih=>rw[AW,CK,ih];rfl
def NsX:List SnE->Ey->Prop
 | [],X=>X=[]
 | s::S,X=>∃Y Z,X=Y++Z/\RowX 3 1 s.v s.zs.length (zsV s.zs) Y/\NsX S Z
theorem NsX.snoc{s:SnE}{Y:Ey}(hp:RowX 3 1 s.v s.zs.length (zsV s.zs) Y):∀{S:List SnE} {X:Ey},NsX S X->NsX (S++[s]) (X++Y)
 | [],X,h=>by
  have h:X=[]:=h;subst h;exact⟨Y,[],by simp,hp,rfl⟩
 | q::S,X,⟨Y',Z,e,h1,h2⟩=>⟨Y',Z++Y,by rw[e,Ag],h1,NsX.snoc hp h2⟩
theorem NsX.at_:∀{S:List SnE} {X:Ey} {i:Nat} {s:SnE},NsX S X->S[i]?=some s->
  ∃A Y B,X=A++Y++B/\RowX 3 1 s.v s.zs.length (zsV s.zs) Y/\∀s' Y',RowX 3 1 s'.v s'.zs.length (zsV s'.zs) Y'->NsX (S.set i s') (A++Y'++B)
 | [],X,i,s,_,hi=>by simp at hi
 | q::S,X,0,s,⟨Y,Z,e,h1,h2⟩,hi=>by
  simp at hi;subst hi;exact⟨[],Y,Z,by rw[e];rfl,h1,fun s' Y' h'=>⟨Y',Z,rfl,h',h2⟩⟩
 | q::S,X,i+1,s,⟨Y,Z,e,h1,h2⟩,hi=>by
  obtain⟨A,Y2,B,h4,h5,h6⟩:=NsX.at_ h2 (by simpa using hi);refine⟨Y++A,Y2,B,by rw[e,h4];simp,h5,fun s' Y' h'=>⟨Y,A++Y'++B,by simp,h1,h6 s' Y' h'⟩⟩
def SeensX(v:Value)(S:List SnE)(Y:Ey):Prop:=∃Y1 Y2,Y=Y1++Y2/\RowX 40 17 v S.length (S.map snC).flatten Y1/\NsX S Y2
theorem V.RowX.ints{v:Value}{zs:List Int}{Y:Ey}{w:Et}(h:RowX 3 1 v zs.length (zsV zs) Y)(hY:∀x∈Y,w.heap[x.1]?=some x.2):∃B d,v=.slice B zs.length d/\zs.length<=d/\SlAt V.zeI 1 w B zs:=by
 obtain⟨B,d,rfl,h1,h2⟩:=h.capd;refine⟨B,d,rfl,h1,⟨fun hn=>?_⟩⟩
 rcases h2 with h2|⟨g,rfl⟩
 ·exact absurd (AZ h2) hn
 ·rw[<-q6r]at h;exact⟨g,0,rfl,fun i x hi=>V.RowX.cells (enc:=V.zeI) (sz:=1) (fun _=>rfl) h hY i x hi⟩
theorem SeensX.at_{v:Value}{S:List SnE}{Y:Ey}{w:Et}(h:SeensX v S Y)(hY:∀x∈Y,w.heap[x.1]?=some x.2):SeenAt w v (S.map snP):=by
 obtain⟨Y1,Y2,rfl,h1,h2⟩:=h;obtain⟨A,c,rfl,h3,h4⟩:=h1.capd;refine⟨A,c,by rw[AI],by rw[AI];exact h3,fun hn=>?_⟩
 rcases h4 with h4|⟨g,rfl⟩
 ·exact absurd (AZ (by rw[AI];exact h4)) hn
 refine⟨g,0,rfl,fun i q zs hi=>?_⟩;rw[Au]at hi;cases hs:S[i]? with
 | none=>rw[hs]at hi;cases hi
 | some s=>
  rw[hs]at hi;cases hi;have hc:=V.RowX.cells (enc:=snC) (sz:=17) q2c h1 (fun x hx=>hY x (AQ _ hx)) i s hs;obtain⟨A',Y',B',e,hr,_⟩:=h2.at_ hs;obtain⟨B,d,ev,hd,hI⟩:=hr.ints (w:=w) fun x hx=>hY x (Ai _ (by rw[e];simp[hx]));refine⟨B,d,?_,hd,hI⟩;rw[snC,ev]at hc;exact hc
theorem qwg(w0:Et):Carr fun X w=>Mem w0 w X:=
 ⟨fun h he=>h.call he,fun h hx=>h.get hx,fun _ h=>h.new rfl rfl,fun o' h=>h.setO (i:=0) o' rfl rfl,fun h=>h.sub (AS ..),fun h hp=>h.perm hp.symm⟩
theorem snSl:E4.underlying 34=some (.slice 40):=Tryz.underlying34
theorem snI:E4.info? 40=some ((E4.info? 40).get Jk):=(Bp _).symm
theorem snZ:((E4.info? 40).get Jk).zero=some ((((E4.info? 40).get Jk).zero).get Jk):=(Bp _).symm
theorem q1m(qs:List Q4):∀v∈(qs.map qd).flatten,v.oneCell'=true:=fun v hv=>by
 obtain⟨l,hl,hv⟩:=DC.1 hv;obtain⟨q,_,rfl⟩:=Bc.1 hl;exact qv q v hv
def intP(e:Q4×E0):Q4×List Int:=(e.1,e.2.map fun n:Nat=>(n:Int))
theorem qwn(ds:List DsE)(A:oA)(n c:Nat)(p:Q4)(w:Et)(hS:SlAt encD 1 w A ds)(hn:ds.length=n)(hb:n<=60)(hD:∀d∈ds,SlAt qd 16 w d.A d.qs)(htot:((ds.map (·.qs)).flatten).length<=20000)(hrise:∀d∈ds,RiseC cmpQ d.qs):
  Gv E4 10 [.slice A n c,qn p] w fun r w'=>∃S Y,SeensX r S Y/\Mem w w' Y/\S.map snP=(eacD (ds.map (·.qs)) (fitQ p)).map intP:=by
 subst hn;have t1:tsz E4 46=1:=by kernel_rfl
 have t16:tsz E4 26=16:=by kernel_rfl
 obtain⟨P,eP⟩:∃P,P=ds.map (·.qs):=⟨_,rfl⟩
 rw[<-eP]at htot|-;have hPl:P.length=ds.length:=by rw[eP,AI]
 have cM:=qwg w;refine ze Tryz.func10 Tryz.ntmps10 ?_;refine znm (Mem.nil w) ?_;intro pb w1 hm;have hm:Mem w w1 [(pb,.cells (qd p).toArray 26)]:=hm;(conv=>whnf);refine qj (fun s:Nat×Value×Ey=>[(0,.slice A ds.length c),(3,pp pb),(5,s.2.1),(6,ii s.1)])
  (fun s w'=>s.1<=ds.length/\RowX 26 16 s.2.1 (P.take s.1).flatten.length ((P.take s.1).flatten.map qd).flatten s.2.2/\Mem w w' (s.2.2++[(pb,.cells (qd p).toArray 26)])) (fun s=>ds.length-s.1) (0,.slice none 0 0,[])
  ⟨rfl,rfl,rfl,rfl,trivial⟩ ⟨Am _,RowX.nil _ _,hm⟩ ?_
 clear hm;rintro⟨i,v,Y⟩ w2 ρ' ⟨hi,hR,hm⟩;dsimp only at hi hR hm|-;obtain⟨Av,cv,ev⟩:=hR.slice;subst ev;(conv=>whnf);refine zC (fun _=>zw ?_) (fun _=>zw ?_)
 case' refine_1=>
  have hlt:i<ds.length:=by omega
  obtain⟨g,off,rfl,hat⟩:=hS.at_ (by intro e;rw[e]at hlt;simp at hlt);obtain⟨d,ed⟩:∃d,ds[i]?=some d:=⟨_,zge hlt⟩
  have hdm:=zmg ed;have hcd:CellsAt w g (off+i*1) (encD d):=hat i d ed;have htk:(P.take (i+1)).flatten=(P.take i).flatten++d.qs:=by rw[eP,BU,Au,ed];simp
  have hle:(P.take (i+1)).flatten.length<=20000:=by
   have:=Af (fun l=>(List.flatten l).length) (Cr (i+1) P);simp only[Db,zla]at this;omega
  have hln:(P.take (i+1)).flatten.length=(P.take i).flatten.length+d.qs.length:=by rw[htk,zla]
  refine⟨⟨g,off,i,rfl,by omega,by omega,?_⟩⟩;rw[t1];(conv=>whnf);refine LoadV.cell0 (CellsAt.ext hcd hm.ext) (zw ?_);refine AppV.carr (m:=d.qs.length) (news:=(d.qs.map qd).flatten) cM hm hR qdSl qdI qdZ Jk Jk Od (q1l d.qs) (fun hne=>by
   obtain⟨b,o,e,hq⟩:=((hD d hdm).ext hm.ext).at_ (by intro e;rw[e]at hne;exact hne rfl);exact⟨b,o,e,qwh hq⟩) (q1m d.qs) (by rw[show((E4.info? 26).get Jk).bytes=224 from by kernel_rfl];omega) Oo ?_
  clear hm;intro A' c' Y' w3 hR' hm;refine zu ?_;exact⟨(i+1,.slice A' ((P.take i).flatten.length+d.qs.length) c',Y'),⟨rfl,rfl,rfl,rfl,trivial⟩,⟨by dsimp only;omega,by dsimp only;rw[hln,htk,AG,Db];exact hR',hm⟩,by dsimp only;omega⟩
 obtain rfl:i=ds.length:=by omega
 have hTk:P.take ds.length=P:=by rw[<-hPl,Bq]
 rw[hTk]at hR;rw[hTk];obtain⟨F,eF⟩:∃F,F=P.flatten:=⟨_,rfl⟩
 rw[<-eF]at hR htot|-;obtain⟨hSF,hFc⟩:=qb7 (enc:=qd) qbe (hR.mem cM hm (fun x hx=>AQ _ hx)) rfl;have hFd:(srtC cmpQ F.length F).length<=F.length:=qi4 _ _ _;refine zcv (qx5 F.length F Av cv w2 znr hSF hFc Oo) ?_;rintro r w3 ⟨⟨B,d,rfl,hBd,hSB⟩,he3⟩;obtain⟨Q,eQ⟩:∃Q,Q=srtC cmpQ F.length F:=⟨_,rfl⟩
 rw[<-eQ]at hBd hSB hFd|-;have hm3:=hm.call he3;have hgp:w3.heap[pb]?=some (.cells (qd p).toArray 26):=hm3.get (Ai _ (Ak.2 rfl));have hm0:Mem w w3 []:=hm3.sub (List.nil_sublist _);clear hm hm3 hR hSF hFc;have cN:=qwg w3;(conv=>whnf);refine qj (fun s:Nat×List SnE×Value×Ey=>[(0,.slice A ds.length c),(3,pp pb),(5,.slice B Q.length d),(7,s.2.2.1),(8,ii s.1)])
  (fun s w'=>s.1<=Q.length/\SeensX s.2.2.1 s.2.1 s.2.2.2/\Mem w3 w' s.2.2.2/\s.2.1.map snP=(((Q.take s.1).filter (fitQ p)).map fun q=>(q,idxC q P 0)).map intP/\s.2.1.length<=s.1) (fun s=>Q.length-s.1) (0,[],.slice none 0 0,[])
  ⟨rfl,rfl,rfl,rfl,rfl,trivial⟩ ⟨Am _,⟨[],[],rfl,RowX.nil _ _,rfl⟩,Mem.nil w3,rfl,Am _⟩ ?_
 rintro⟨i,S,v,Y⟩ w4 ρ2 ⟨hi,hSn,hm,hSp,hSl⟩;dsimp only at hi hSn hm hSp hSl|-;obtain⟨Y1,Y2,rfl,hR,hN⟩:=id hSn;obtain⟨Av,cv,ev⟩:=hR.slice;subst ev;(conv=>whnf);refine zC (fun _=>zw ?_) (fun _=>zw ?_)
 case' refine_2=>
  obtain rfl:i=Q.length:=by omega
  rw[Bq]at hSp;exact⟨S,_,hSn,(hm0.glue hm).perm Js,by rw[hSp,eacD,<-eF,<-eQ]⟩
 have hlt:i<Q.length:=by omega
 obtain⟨g,off,rfl,hat⟩:=hSB.at_ (by intro e;rw[e]at hlt;simp at hlt);obtain⟨q,hq⟩:∃q,Q[i]?=some q:=⟨_,zge hlt⟩
 have hcq:=hat i q hq;have htk:(Q.take (i+1)).filter (fitQ p)=(Q.take i).filter (fitQ p)++if fitQ p q then[q]else[]:=by
  rw[BU,hq,Dk]
  congr 1
  simp only[Option.toList_some,List.filter_cons,List.filter_nil]
 have hx:∀wd,Ext w4.drew wd->Ext w3 wd:=fun wd hd=>hm.ext.trans ((Ext.refl w4).drew.trans hd)
 refine DrawV.free Jk Jk (zw ?_);refine zsd (qn p) (fun wd hd=>zw ?_) (zw ?_)
 ·refine LoadA.own ((hx wd hd).get hgp) rfl (zw ?_);exact⟨xr,rfl⟩
 refine zd ?_;refine zd ?_;refine zsd (.pointer (some ⟨g,off+i*16,none⟩)) (fun wd hd=>zw ?_) (zw ?_)
 ·refine⟨⟨g,off,i,rfl,by omega,by omega,?_⟩⟩;rw[t16];(conv=>whnf);exact⟨xr,rfl⟩
 refine zsd (qn q) (fun wd hd=>zw ?_) (zw ?_)
 ·refine LoadA.cells (CellsAt.ext hcq (hx wd hd)) rfl (zw ?_);exact⟨xr,rfl⟩
 refine zsd (.bool (fitQ p q)) (fun wd hd=>zw ?_) (zw ?_)
 ·refine zcv (qwq p q wd) ?_;rintro r wx ⟨rfl,hex⟩;exact⟨hex,rfl⟩
 refine zd ?_;intro w5 he5;replace hm:=(hm.drew).call he5;cases hf:fitQ p q
 ·rw[hf]at htk;have htk:(Q.take (i+1)).filter (fitQ p)=(Q.take i).filter (fitQ p):=by rw[htk];exact AY _
  refine zu ?_;exact⟨(i+1,S,.slice Av S.length cv,Y1++Y2),⟨rfl,rfl,rfl,rfl,rfl,trivial⟩,⟨by dsimp only;omega,hSn,hm,by dsimp only;rw[htk];exact hSp,by dsimp only;omega⟩,by dsimp only;omega⟩
 rw[hf]at htk;have htk:(Q.take (i+1)).filter (fitQ p)=(Q.take i).filter (fitQ p)++[q]:=htk;refine zu ?_;refine⟨⟨g,off,i,rfl,by omega,by omega,?_⟩⟩;rw[t16];(conv=>whnf);refine LoadA.cells (CellsAt.ext hcq hm.ext) rfl (zw ?_);refine NewV.carr cN hm fun tb w6 hm=>zw ?_;refine StoreA.carr (vs:=seC q (.slice none 0 0)) cN (A:=[]) hm rfl (fun u hu=>by
  rcases Bj.1 hu with hu|hu
  ·exact qv q u hu
  ·rw[Ak.1 hu];rfl) ?_
 clear hm;intro w7 hm;(conv=>whnf);refine qj (fun s:Nat×List Int×Value×Ey=>[(0,.slice A ds.length c),(3,pp pb),(5,.slice (some ⟨g,off,none⟩) Q.length d),(7,.slice Av S.length cv),(8,ii i),(10,pp tb),(11,ii s.1)])
  (fun s w'=>s.1<=ds.length/\s.2.1++(idxC q (P.drop s.1) s.1).map (fun n:Nat=>(n:Int))=(idxC q P 0).map (fun n:Nat=>(n:Int))/\RowX 3 1 s.2.2.1 s.2.1.length (zsV s.2.1) s.2.2.2/\Mem w3 w' (s.2.2.2++(tb,.cells (seC q s.2.2.1).toArray 40)::(Y1++Y2))/\s.2.1.length<=s.1) (fun s=>ds.length-s.1) (0,[],.slice none 0 0,[])
  ⟨rfl,rfl,rfl,rfl,rfl,rfl,rfl,trivial⟩ ⟨Am _,rfl,RowX.nil _ _,hm,Am _⟩ ?_
 clear hm;rintro⟨j,zs,vN,YN⟩ w8 ρ3 ⟨hj,hzs,hRN,hm,hzl⟩;dsimp only at hj hzs hRN hm hzl|-;obtain⟨AN,cN2,eN⟩:=hRN.slice;subst eN;(conv=>whnf);refine zC (fun _=>zw ?_) (fun _=>zw ?_)
 case' refine_1=>
  have hlj:j<ds.length:=by omega
  obtain⟨gA,oA,rfl,hatA⟩:=hS.at_ (by intro e;rw[e]at hlj;simp at hlj);obtain⟨e,ee⟩:∃e,ds[j]?=some e:=⟨_,zge hlj⟩
  have hem:=zmg ee;have hce:CellsAt w gA (oA+j*1) (encD e):=hatA j e ee;have hx8:∀wd,Ext w8.drew wd->Ext w3 wd:=fun wd hd=>hm.ext.trans ((Ext.refl w8).drew.trans hd)
  have hPj:P.drop j=e.qs::P.drop (j+1):=by
   have h1:P[j]?=some e.qs:=by rw[eP,Au,ee];rfl
   obtain⟨g1,g2⟩:=Ae.1 h1;rw[B9 g1,g2]
  have hel:e.qs.length<=20000:=by
   have h1:=Af (fun l=>(List.flatten l).length) (Cr j P);simp only[Db,zla,hPj,CK]at h1;rw[<-eF]at h1;omega
  obtain⟨bb,hbb⟩:∃b:Bool,(b=true↔q∈e.qs):=by
   by_cases h:q∈e.qs
   ·exact⟨true,⟨fun _=>h,fun _=>rfl⟩⟩
   ·exact⟨false,⟨(fun g=>by cases g),fun g=>absurd g h⟩⟩
  refine DrawV.free Jk Jk (zw ?_);refine zd ?_;refine zd ?_;refine zsd (.pointer (some ⟨gA,oA+j*1,none⟩)) (fun wd hd=>zw ?_) (zw ?_)
  ·refine⟨⟨gA,oA,j,rfl,by omega,by omega,?_⟩⟩;rw[t1];(conv=>whnf);exact⟨xr,rfl⟩
  refine zsd (.slice e.A e.qs.length e.c) (fun wd hd=>zw ?_) (zw ?_)
  ·refine LoadV.cell0 (CellsAt.ext hce (hm0.ext.trans (hx8 wd hd))) (zw ?_);exact⟨xr,rfl⟩
  refine zd ?_;refine zd ?_;refine zsd (.pointer (some ⟨g,off+i*16,none⟩)) (fun wd hd=>zw ?_) (zw ?_)
  ·refine⟨⟨g,off,i,rfl,by omega,by omega,?_⟩⟩;rw[t16];(conv=>whnf);exact⟨xr,rfl⟩
  refine zsd (qn q) (fun wd hd=>zw ?_) (zw ?_)
  ·refine LoadA.cells (CellsAt.ext hcq (hx8 wd hd)) rfl (zw ?_);exact⟨xr,rfl⟩
  refine zsd (.tuple #[ii (aheC q e.qs),.bool bb]) (fun wd hd=>zw ?_) (zw ?_)
  ·refine zcv (qwp e.qs q e.A e.qs.length e.c wd ((hD e hem).ext (hm0.ext.trans (hx8 wd hd))) rfl Oo) ?_;rintro r wx ⟨⟨b,rfl,hb⟩,hex⟩;rw[qpq (hrise e hem)]at hb;have hb2:b=bb:=by rw[AX,hb,hbb]
   rw[hb2];exact⟨hex,rfl⟩
  (iterate 5 (refine zd ?_));intro w9 he9;replace hm:=(hm.drew).call he9;rw[hPj]at hzs;cases bb
  case false=>
   have hqe:¬q∈e.qs:=fun g=>by cases hbb.2 g
   rw[idxC,Aa hqe]at hzs;refine zu ?_;exact⟨(j+1,zs,.slice AN zs.length cN2,YN),⟨rfl,rfl,rfl,rfl,rfl,rfl,rfl,trivial⟩,⟨by dsimp only;omega,hzs,hRN,hm,by dsimp only;omega⟩,by dsimp only;omega⟩
  have hqe:q∈e.qs:=hbb.1 rfl;rw[idxC,Ad hqe]at hzs;refine zu ?_;refine LoadV.own (cN.get hm (Ai _ mh)) rfl (zw ?_);refine NewV.carr cN hm ?_;clear hm;intro nb w10 hm;have hm:Mem w3 w10 (YN++(nb,.cells #[ii j] 3)::((tb,.cells (seC q (.slice AN zs.length cN2)).toArray 40)::(Y1++Y2))):=cN.perm hm BL.symm;(conv=>whnf);refine AppV.carr (m:=1) (news:=[ii j]) cN hm hRN inSl inI inZ Jk Jk Od rfl (fun _=>⟨nb,0,rfl,fun k u hu=>by rw[qa (cN.get hm (Ai _ mh)),AC,AB];exact hu⟩) (fun u hu=>by rw[Ak.1 hu];rfl) (by rw[show((E4.info? 3).get Jk).bytes=8 from by kernel_rfl];omega) Oo ?_;clear hm;intro A' c' Y' w11 hRN' hm;replace hm:=cN.dropM hm;(conv=>whnf);refine StoreV.carr cN hm (by show 16<17;omega) rfl ?_;clear hm;intro w12 hm;have hm:Mem w3 w12 (Y'++(tb,.cells (seC q (.slice A' (zs.length+1) c')).toArray 40)::(Y1++Y2)):=hm;refine zu ?_;have hzl1:(zs++[(j:Int)]).length=zs.length+1:=by rw[zla];rfl
  refine⟨(j+1,zs++[(j:Int)],.slice A' (zs.length+1) c',Y'),⟨rfl,rfl,rfl,rfl,rfl,rfl,rfl,trivial⟩,⟨by dsimp only;omega,?_,?_,hm,by dsimp only;omega⟩,by dsimp only;omega⟩
  ·dsimp only;rw[<-hzs,AW,Ag];rfl
  ·dsimp only;rw[hzl1,zsV,AG];exact hRN'
 obtain rfl:j=ds.length:=by omega
 rw[<-hPl,List.drop_length]at hzs;have hzs:zs++[]=(idxC q P 0).map (fun n:Nat=>(n:Int)):=hzs;rw[AY]at hzs;have hgt:=cN.get hm (Ai _ mh);refine LoadA.own hgt rfl (zw ?_);refine NewV.carr cN hm ?_;clear hm;intro nb w9 hm;have hm:Mem w3 w9 (Y1++((nb,.cells (seC q (.slice AN zs.length cN2)).toArray 40)::(YN++(tb,.cells (seC q (.slice AN zs.length cN2)).toArray 40)::Y2))):=cN.perm hm (by
  refine List.Perm.trans (List.Perm.cons _ ?_) BL.symm;refine List.Perm.trans (BM YN (BL (a:=(tb,_)) (l₁:=Y1) (l₂:=Y2)).symm) ?_;rw[<-Ag,<-Ag];exact AH.append_right _)
 (conv=>whnf);refine AppV.carr (m:=1) (news:=seC q (.slice AN zs.length cN2)) cN hm hR snSl snI snZ Jk Jk Od rfl (fun _=>⟨nb,0,rfl,fun k u hu=>by rw[qa (cN.get hm (Ai _ mh)),AC,AB];exact hu⟩) (fun u hu=>by
  rcases Bj.1 hu with hu|hu
  ·exact qv q u hu
  ·rw[Ak.1 hu];rfl) (by rw[show((E4.info? 40).get Jk).bytes=248 from by kernel_rfl];omega) Oo ?_
 clear hm;intro A' c' Y1' w10 hR' hm;replace hm:=cN.dropM hm;rw[<-Ag]at hm;replace hm:=cN.dropM hm;rw[Ag]at hm;have hm:Mem w3 w10 (Y1'++(Y2++YN)):=cN.perm hm (BM _ AH);refine zu ?_;have hN':=NsX.snoc (s:=⟨q,zs,.slice AN zs.length cN2⟩) hRN hN;have hSl1:(S++[(⟨q,zs,.slice AN zs.length cN2⟩:SnE)]).length=S.length+1:=by rw[zla];rfl
 refine⟨(i+1,S++[⟨q,zs,.slice AN zs.length cN2⟩],.slice A' (S.length+1) c',Y1'++(Y2++YN)),⟨rfl,rfl,rfl,rfl,rfl,trivial⟩,⟨by dsimp only;omega,⟨Y1',Y2++YN,rfl,?_,hN'⟩,hm,?_,by dsimp only;omega⟩,by dsimp only;omega⟩
 ·dsimp only;rw[hSl1,AG,Db]
  simpa[snC]using hR'
 ·dsimp only;rw[htk,AG,AG,AG,hSp];simp[snP,intP,hzs]
def SnJ(J:Ey->Et->Prop)(b5:Nat)(E:List (Q4×E0))(m:Nat)(M:Ey)(k:Nat)(X:Ey)(w:Et):Prop:=
 ∃s:Value×List SnE×Ey,(SeensX s.1 s.2.1 s.2.2/\s.2.1.map snP=(E.take k).map intP/\s.2.1.length=k/\k<=m)/\J (X++(s.2.2++(b5,.cells #[s.1] 34)::M)) w
theorem SnJ.carr{J:Ey->Et->Prop}(hJ:Carr J)(b5:Nat)(E:List (Q4×E0))(m:Nat)(M:Ey)(k:Nat):Carr (SnJ J b5 E m M k):=Carr.ex fun _=>hJ.tail _
theorem q7e(ns:E0):nsV ns=zsV (ns.map fun n:Nat=>(n:Int)):=by rw[nsV,zsV,Eg];rfl
theorem qmx{J:Ey->Et->Prop}(hJ:Carr J)(es:List PartE)(hes:∀e∈es,qt7 e)(hn:es.length<=1048576)(p:Q4)(hp:qby p)(b1 b2:Nat)(most:Int)(_:InR .i64 most)(hEl:(eacE es p).length<=1000000)(hΦ:∀X w,J X w->EaΦ0 es b1 w/\EaΦ es p b2 w)(X:Ey)(w:Et)(h0:J X w):
  Gv E4 9 [.func (.func 29) #[] #[pp b1,pp b2],ii most] w fun r w'=>
   ∃S Y,SeensX r S Y/\J (Y++X) w'/\S.map snP=((eacE es p).take most.toNat).map intP:=by
 obtain⟨E,eE⟩:∃E,E=eacE es p:=⟨_,rfl⟩
 have hms:=qqp es hes hn p hp b1 b2;rw[<-eE]at hEl hms|-;refine gvW Jk Tryz.func9 rfl Tryz.ntmps9 rfl (zw ?_);refine NewV.carr hJ h0 fun b3 w1 h0=>zw ?_;refine NewV.carr hJ h0 fun b5 w2 h0=>zw ?_;refine⟨⟨.bool false,w2,?_,?_⟩⟩
 ·kernel_rfl
 (conv=>whnf);obtain⟨M,eM⟩:∃M:Ey,M=(b3,.cells #[ii most] 3)::X:=⟨_,rfl⟩
 have h0:SnJ J b5 E most.toNat M 0 [] w2:=⟨(.slice none 0 0,[],[]),⟨⟨[],[],rfl,RowX.nil _ _,rfl⟩,rfl,rfl,Am _⟩,by rw[eM];exact h0⟩
 have cS:=SnJ.carr hJ b5 E most.toNat M;have hin:∀k X' w',SnJ J b5 E most.toNat M k X' w'->EaΦ0 es b1 w'/\EaΦ es p b2 w':=fun k X' w' ⟨s,_,hh⟩=>hΦ _ _ hh
 refine zv ?_;refine q1o (m:=E.length) (lb:=[pp b1,pp b2]) rfl Jk Od
  (SnJ J b5 E most.toNat M) (fun k r X' w'=>∃Y,EaR E k r Y/\SnJ J b5 E most.toNat M k (Y++X') w') (fun c k X' w'=>(c=.exit 0/\k=most.toNat)/\SnJ J b5 E most.toNat M k X' w')
  (fun L0 Lx l w hh hy=>hms.toX (I:=fun k X w=>SnJ J b5 E most.toNat M k (X++L0) w) (Ix:=fun k X w=>∃c,(c=.exit 0/\k=most.toNat)/\SnJ J b5 E most.toNat M k (X++Lx c) w) (fun k=>(cS k).tail L0) (fun k=>Carr.any fun c=>Carr.and ((cS k).tail (Lx c))) (fun k X' w' hh=>(hin k _ w' hh).2) (fun w' hh=>(hin 0 _ w' hh).1) l w hh
   (fun k x X w hk ⟨Y,hR,hI⟩=>hy k x X w hk ⟨Y,hR,by rw[<-Ag];exact hI⟩))
  (fun k r X' w' ⟨Y,⟨q,ns,v,_,hr,_⟩,_⟩=>by rw[hr];rfl) cS (fun k r=>⟨fun⟨Y,h1,h2⟩ he=>⟨Y,h1,(cS k).ext h2 he⟩,fun⟨Y,h1,h2⟩ hx=>(cS k).get h2 (Ai _ hx),fun o ⟨Y,h1,h2⟩=>⟨Y,h1,((cS k).head Y).new o h2⟩,fun o' ⟨Y,h1,h2⟩=>⟨Y,h1,((cS k).head Y).set o' h2⟩,fun⟨Y,h1,h2⟩=>⟨Y,h1,((cS k).head Y).drop h2⟩,fun⟨Y,h1,h2⟩ hp=>⟨Y,h1,((cS k).head Y).perm h2 hp⟩⟩)
  (fun c k=>Carr.and (cS k)) h0 ?_ ?_ ?_
 case refine_1=>
  rintro l D ob ob' k r X' w6 hk ⟨Yn,⟨q,ns,vn,hEk,rfl,hRn⟩,hB⟩;obtain⟨An,cn,en⟩:=hRn.slice;subst en;(conv=>whnf);refine NewV.carr (cS k) hB fun qb w7 hB=>zw ?_;refine StoreA.carr (vs:=qd q) (cS k) (A:=[]) hB rfl (qv q) fun w8 hB=>zw ?_;refine⟨rfl,(qb,.cells (qd q).toArray 26)::(D,.deferred (some []))::X',⟨Yn,⟨q,ns,_,hEk,rfl,hRn⟩,(cS k).perm hB (BL.symm.trans (BM _ (List.Perm.swap _ _ _)))⟩,fun w9 hB2=>?_⟩;clear hB hRn;obtain⟨Yn,⟨q',ns',v',hEk',hr,hRn⟩,⟨v,S,Y⟩,⟨hSn,hSp,hSl,hkm⟩,hB⟩:=hB2;rw[hEk]at hEk';cases hEk'
  injection hr with _ hr
  injection hr with hr _
  subst hr;dsimp only at hSn hSp hSl hB;obtain⟨Y1,Y2,rfl,hR,hN⟩:=id hSn;obtain⟨Av,cv,ev⟩:=hR.slice;subst ev;obtain⟨Z,eZ⟩:∃Z:Ey,Z=(l,ob')::(qb,.cells (qd q).toArray 26)::(D,.deferred (some []))::X':=⟨_,rfl⟩
  rw[<-eZ]at hB;have hb5:(b5,Obj.cells #[.slice Av S.length cv] 34)∈Yn++Z++(Y1++Y2++(b5,Obj.cells #[.slice Av S.length cv] 34)::M):=by simp
  have hb3:(b3,Obj.cells #[ii most] 3)∈Yn++Z++(Y1++Y2++(b5,Obj.cells #[.slice Av S.length cv] 34)::M):=by rw[eM];simp
  have hqb:(qb,Obj.cells (qd q).toArray 26)∈Yn++Z++(Y1++Y2++(b5,Obj.cells #[.slice Av S.length cv] 34)::M):=by rw[eZ];simp
  (conv=>whnf);refine LoadV.own (hJ.get hB hb5) rfl (zw ?_);refine LoadV.own (hJ.get hB hb3) rfl (zw ?_);refine zC (fun _=>zw ?_) (fun _=>zw ?_)
  case' refine_1=>
   refine⟨⟨rfl,by omega⟩,(.slice Av S.length cv,S,Y1++Y2),⟨hSn,hSp,hSl,hkm⟩,?_⟩;rw[Ag]at hB;replace hB:=hJ.dropL hB;rw[eZ]at hB;exact hJ.dropM (A:=[(l,ob')]) hB
  refine LoadV.own (hJ.get hB hb5) rfl (zw ?_);refine LoadA.own (hJ.get hB hqb) rfl (zw ?_);refine NewV.carr hJ hB ?_;clear hB hb5 hb3 hqb;intro nb w10 hB;have hB:J (Y1++((nb,.cells (seC q (.slice An ns.length cn)).toArray 40)::((Yn++Z)++(Y2++(b5,.cells #[.slice Av S.length cv] 34)::M)))) w10:=hJ.perm hB (by
   refine List.Perm.trans (List.Perm.cons _ ?_) BL.symm;rw[Ag Y1,<-Ag (Yn++Z),<-Ag Y1];exact AH.append_right _)
  (conv=>whnf);refine AppV.carr (m:=1) (news:=seC q (.slice An ns.length cn)) hJ hB hR snSl snI snZ Jk Jk Od rfl (fun _=>⟨nb,0,rfl,fun j u hu=>by rw[qa (hJ.get hB (Ai _ mh)),AC,AB];exact hu⟩) (fun u hu=>by
   rcases Bj.1 hu with hu|hu
   ·exact qv q u hu
   ·rw[Ak.1 hu];rfl) (by rw[show((E4.info? 40).get Jk).bytes=248 from by kernel_rfl];omega) Oo ?_
  clear hB;intro A' c' Y1' w11 hR' hB;replace hB:=hJ.dropM hB;have hB:J ((Y1'++((Yn++Z)++Y2))++(b5,.cells #[.slice Av S.length cv] 34)::M) w11:=by simpa using hB
  (conv=>whnf);refine StoreV.carr hJ hB (by show 0<1;omega) rfl ?_;clear hB;intro w12 hB;have hB:J ((Y1'++((Yn++Z)++Y2))++(b5,.cells #[.slice A' (S.length+1) c'] 34)::M) w12:=hB;have pm:List.Perm (Y1'++((Yn++Z)++Y2)) (Z++(Y1'++(Y2++Yn))):=by
   refine AH.trans ?_;rw[Ag,Ag];refine AH.trans ?_;rw[Ag];refine BM _ ?_;rw[<-Ag Y1'];exact AH.append_right _
  replace hB:=hJ.perm hB (pm.append_right _);rw[eZ,Ag]at hB;replace hB:=hJ.dropM (A:=[(l,ob')]) hB;have hlen:(ns.map fun n:Nat=>(n:Int)).length=ns.length:=AI ..;have hN':=NsX.snoc (s:=⟨q,ns.map fun n:Nat=>(n:Int),.slice An ns.length cn⟩) (by rw[hlen,<-q7e];exact hRn) hN;have hSl1:(S++[(⟨q,ns.map fun n:Nat=>(n:Int),.slice An ns.length cn⟩:SnE)]).length=S.length+1:=by rw[zla];rfl
  (conv=>whnf);refine⟨(.slice A' (S.length+1) c',S++[⟨q,ns.map fun n:Nat=>(n:Int),.slice An ns.length cn⟩],Y1'++(Y2++Yn)),⟨⟨Y1',Y2++Yn,rfl,?_,hN'⟩,?_,by dsimp only;omega,by omega⟩,hB⟩
  ·dsimp only;rw[hSl1,AG,Db]
   simpa[snC]using hR'
  ·dsimp only;rw[BU,hEk,AG,AG,hSp];rfl
 case refine_2=>
  rintro D w6 hh;obtain⟨⟨v,S,Y⟩,⟨hSn,hSp,hSl,hkm⟩,hB⟩:=hh;dsimp only at hSn hSp hSl hB;(conv=>whnf);refine LoadV.own (hJ.get hB (Ai _ (Ai _ mh))) rfl ?_;obtain⟨Y1,Y2,rfl,hR,hN⟩:=id hSn;obtain⟨Av,cv,ev⟩:=hR.slice;subst ev;(conv=>whnf);refine LeaveV.marks (J:=fun X' w'=>J (X'++((Y1++Y2)++(b5,.cells #[.slice Av S.length cv] 34)::M)) w') (hJ.tail _) ?_ (D:=D) (Ds:=[]) hB;intro w' h';(conv=>whnf);rw[eM]at h';exact⟨S,_,hSn,hJ.dropM (hJ.dropM h'),by rw[hSp];congr 1;rw[Bq,AE hkm]⟩
 case refine_3=>
  rintro D c k w6 hk ⟨⟨rfl,hkm2⟩,hh⟩;obtain⟨⟨v,S,Y⟩,⟨hSn,hSp,hSl,hkm⟩,hB⟩:=hh;dsimp only at hSn hSp hSl hB;(conv=>whnf);refine LoadV.own (hJ.get hB (Ai _ (Ai _ mh))) rfl ?_;obtain⟨Y1,Y2,rfl,hR,hN⟩:=id hSn;obtain⟨Av,cv,ev⟩:=hR.slice;subst ev;(conv=>whnf);refine LeaveV.marks (J:=fun X' w'=>J (X'++((Y1++Y2)++(b5,.cells #[.slice Av S.length cv] 34)::M)) w') (hJ.tail _) ?_ (D:=D) (Ds:=[]) hB;intro w' h';(conv=>whnf);rw[eM]at h';exact⟨S,_,hSn,hJ.dropM (hJ.dropM h'),by rw[hSp];congr 1;rw[hkm2]⟩
theorem Mem.under{w0 w:Et}{L:Ey}{g:Nat}{o0:Obj}(h:Mem w0 w L)(hg:w0.heap[g]?=some o0)(o:Obj):Mem (setO w0 g o) (setO w g o) L:=by
 have hlt:=qe6 hg;have hs:=h.ext.size;refine⟨⟨h.ext.os,h.ext.tape,h.ext.output,by simpa[setO]using hs,fun k hk=>?_⟩,fun x hx=>?_,h.nodup⟩
 ·have hk':k<w0.heap.size:=by simpa[setO]using hk
  by_cases e:k=g
  ·subst e;rw[qfl hg,qfl (h.ext.get hg)]
  ·rw[qbj e,qbj e];exact h.ext.block k hk'
 ·obtain⟨h1,h2⟩:=h.own x hx;have h1':w0.heap.size<=x.1:=h1;refine⟨by simpa[setO]using h1,?_⟩;rw[qbj Oo];exact h2
section
variable {w w':Et} {x:Nat} {n:Int} (ha:w.heap[x]?=some (.cells #[ii n] 3)) (hw:∀c,c≠x->w'.heap[c]?=w.heap[c]?)
include ha hw
theorem qabv{b off:Nat}{c:Int}{vs:Ez}(h:CellsAt w b off (.int .u8 c::vs)):CellsAt w' b off (.int .u8 c::vs):=by
 refine CellsAt.other h (x:=x) (fun e=>?_) hw;subst e;have h0:=h 0 _ rfl;rw[qa ha]at h0;cases off with
 | zero=>cases h0
 | succ k=>rw[Bb Js]at h0;cases h0
theorem q76{b off:Nat}{u v:Value}{vs:Ez}(h:CellsAt w b off (u::v::vs)):CellsAt w' b off (u::v::vs):=by
 refine CellsAt.other h (x:=x) (fun e=>?_) hw;subst e;have h0:=h 1 _ rfl;rw[qa ha,Bb Js]at h0;cases h0
theorem qt6{A:oA}{l:LB}(h:SlAt encB 1 w A l):SlAt encB 1 w' A l:=by
 refine⟨fun hn=>?_⟩;obtain⟨b,off,h1,h2⟩:=h.at_ hn;exact⟨b,off,h1,fun j y hy=>qabv ha hw (h2 j y hy)⟩
theorem ql7{b:Nat}{cs:E6}{t:Ew}{fz:Nat×Nat}(h:w.heap[b]?=some (.cells cs t fz))(ht:t≠3):w'.heap[b]?=some (.cells cs t fz):=by
 rw[hw b (fun e=>by
  subst e;rw[ha]at h
  injection h with h
  injection h with _ h _
  exact ht h.symm)]
 exact h
theorem q3d{b:Nat}{m:LB}(h:DictAt w b m):DictAt w' b m:=by
 obtain⟨⟨P,cp,E,ce,h1,h2,h3,h4⟩,h5,h6,h7,h8⟩:=h;exact⟨⟨P,cp,E,ce,ql7 ha hw h1 Od,qt6 ha hw h2,qt6 ha hw h3,h4⟩,h5,h6,h7,h8⟩
theorem q78{b:Nat}{l:LB}(h:VocAt w b l):VocAt w' b l:=by
 obtain⟨d,h1,h2⟩:=h;exact⟨d,ql7 ha hw h1 Od,fun k hk=>q3d ha hw (h2 k hk)⟩
theorem q77{V s:Value}{l:LB}{k:Nat}(h:VecP w V s l k):VecP w' V s l k:=by
 rcases h with h|⟨h1,h2,vb,h3,h4⟩
 ·exact .inl h
 ·exact .inr ⟨h1,h2,vb,h3,ql7 ha hw h4 Od⟩
theorem q3f{b:Nat}{l:LB}(h:TreeAt w b l):TreeAt w' b l:=by
 refine⟨fun k hk=>?_,h.n,h.wd⟩;obtain⟨P,cp,S,cs,V,h1,h2,h3,h4,h5⟩:=h.lv k hk;exact⟨P,cp,S,cs,V,q76 ha hw h1,qt6 ha hw h2,qt6 ha hw h3,h4,q77 ha hw h5⟩
theorem q3e{e:PartE}(h:PartX w e):PartX w' e:=by
 obtain⟨x,qs⟩:=e;cases x with
 | none=>trivial
 | some x=>
  obtain⟨x,xp,vb,tb⟩:=x;obtain⟨⟨h1,h2,h3,h4⟩,h5⟩:=h;have h5':=ql7 ha hw h5 Od;exact⟨⟨by rw[qa h5'];rfl,ql7 ha hw h2 Od,q78 ha hw h3,q3f ha hw h4⟩,h5'⟩
theorem q75{e:Ew}{v:Value}{k:Nat}{xs:Ez}(h:w.ownsRow 0 e 1 v k xs)(he:e≠3):w'.ownsRow 0 e 1 v k xs:=by
 obtain⟨h1,⟨h2,h3⟩|⟨g,cap,cur,h2,h3,h4,r⟩⟩:=h
 ·exact⟨h1,.inl ⟨h2,h3⟩⟩
 ·exact⟨h1,.inr ⟨g,cap,cur,h2,h3,ql7 ha hw h4 he,r⟩⟩
end
open Go.RowKit
namespace V
theorem qu5{P:Ev}{w:Et}:∀{l:List (String×DataW Unit)} {ps:List MemPlace},DataW.LaidVars P w l ps->∀{n:String} {d:DataW Unit},(n,d)∈l->
  ∃g t cs fuel p,P.globalNamed n=some g/\(P.globals[g]?).map (·.type)=some t/\w.var? P n=some cs/\DataW.trod (fun _=>()) P w 0 (fun _=>true) false fuel t cs.toList=some (d,p)
 | [],_,_,_,_,h=>by cases h
 | (n0,d0)::r,ps,h,n,d,hm=>by
  obtain⟨g,t,cs,fuel,p,q,h1,h2,h3,h4,h5,_⟩:=h
  rcases AF.1 hm with e|hm
  ·cases e;exact⟨g,t,cs,fuel,p,h1,h2,h3,h4⟩
  ·exact qu5 h5 hm
theorem qob{P:Ev}{W:Et}{name:String}{k:IntKind}{zs:List Int}{l:List (String×DataW Unit)}{g:Nat}{t e:Ew}{n:Nat}(hg:P.globalNamed name=some g)(hty:(P.globals[g]?).map (·.type)=some t)(ht:P.underlying t=some (.array n e))(he:P.underlying e=some (.int k))(hce:P.cellsOf e=1)(hct:P.cellsOf t=n)(h:laidMet P l W)(hm:(name,Lib.tabData k zs)∈l):CellsAt W g 0 (zs.map fun z=>Value.int k z):=by
 obtain⟨ps,h,_⟩:=h;obtain⟨g',t',cs,fuel,p,hg',ht',hvar,hd⟩:=qu5 h hm;obtain rfl:=Bs (hg.symm.trans hg');obtain rfl:=Bs (hty.symm.trans ht');have hT:Lib.TabIs P W name k zs:=by
  unfold Lib.TabIs;rw[hvar,<-Lib.cells_of_tab ht he hce hct hd]
 intro i v hv;have hi:i<zs.length:=by simpa using(Ae.1 hv).1
 have:=hT.cell hg i hi;rw[AC,this];rw[Au,zge hi]at hv;rw[Ah,zge hi]
 simpa using hv
end V
open Go.ChangeShapes Go.WideShapes Go.ChangeAt Go.RowKit
theorem own:ownKnob E4.godebug=none:=by kernel_rfl
theorem q4t:laidOutB E4=true:=by kernel_rfl
mutual
def q6v:DataW Unit->Ez
 | .lit (.int k n)=>[.int k n]
 | .agg l=>cellsDs l
 | _=>[]
def cellsDs:List (DataW Unit)->Ez
 | []=>[]
 | d::l=>q6v d++cellsDs l
end
def qact(w:Et)(x:Nat×DataW Unit):Et:=
 { w with heap:=w.heap.modify x.1 fun
   | .cells _ t frozen=>.cells (q6v x.2).toArray t frozen
   | o=>o }
noncomputable def qacs(os:Os)(l:List (Nat×DataW Unit)):Et:=l.foldl qact (World.holding E4 os ⟨#[],#[],[]⟩)
open Go.ChangeShapes Go.WideShapes Go.ChangeAt Go.RowKit V
theorem qkg:E4.cellsOf 24=4:=by kernel_rfl
theorem qy0:E4.cellsOf 26=16:=by kernel_rfl
theorem q8o:E4.bytesOf 26=224:=by kernel_rfl
theorem q8s:E4.cellsOf 46=1:=by kernel_rfl
theorem q8p:E4.bytesOf 46=24:=by kernel_rfl
section
variable {H:Type} {enc:Ew×Value->H} {W:Et}
theorem qoq{c:Value}(h:Opn enc E4 W 9 [c]):∃s:Eu,c=.string s/\s.size<=140737488355328:=h.string Tryz.underlying9
theorem qho{cs:Ez}(h:Opn enc E4 W 24 cs):∃t:TM,cs=encT t/\TermOk t:=by
 obtain⟨hl,hf⟩:=Opn.fields Tryz.underlying24 h;rw[qkg]at hl
 match cs,hl with
 | [c0,c1,c2,c3],_=>
  have g0:Opn enc E4 W 3 (([c0,c1,c2,c3].drop 0).take (E4.cellsOf 3)):=hf 0 _ rfl;rw[q3w]at g0;have g1:Opn enc E4 W 9 (([c0,c1,c2,c3].drop 1).take (E4.cellsOf 9)):=hf 1 _ rfl;rw[qnh]at g1;have g2:Opn enc E4 W 9 (([c0,c1,c2,c3].drop 2).take (E4.cellsOf 9)):=hf 2 _ rfl;rw[qnh]at g2;have g3:Opn enc E4 W 9 (([c0,c1,c2,c3].drop 3).take (E4.cellsOf 9)):=hf 3 _ rfl;rw[qnh]at g3;obtain⟨n0,rfl,k0⟩:=Opn.int (c:=c0) Tryz.underlying3 g0;obtain⟨n1,rfl,k1⟩:=qoq (c:=c1) g1;obtain⟨n2,rfl,k2⟩:=qoq (c:=c2) g2;obtain⟨n3,rfl,k3⟩:=qoq (c:=c3) g3;exact⟨⟨n0,n1,n2,n3⟩,rfl,⟨q65 k0,k1,k2,k3⟩⟩
theorem qqt{cs:Ez}(h:Opn enc E4 W 26 cs):∃q:Q4,cs=qd q/\qby q:=by
 obtain⟨hl,hf⟩:=Opn.fields Tryz.underlying26 h;rw[qy0]at hl
 match cs,hl with
 | [a0,a1,a2,a3,b0,b1,b2,b3,c0,c1,c2,c3,d0,d1,d2,d3],_=>
  have g0:Opn enc E4 W 24 (([a0,a1,a2,a3,b0,b1,b2,b3,c0,c1,c2,c3,d0,d1,d2,d3].drop 0).take (E4.cellsOf 24)):=hf 0 _ rfl;rw[qkg]at g0;have g1:Opn enc E4 W 24 (([a0,a1,a2,a3,b0,b1,b2,b3,c0,c1,c2,c3,d0,d1,d2,d3].drop 4).take (E4.cellsOf 24)):=hf 1 _ rfl;rw[qkg]at g1;have g2:Opn enc E4 W 24 (([a0,a1,a2,a3,b0,b1,b2,b3,c0,c1,c2,c3,d0,d1,d2,d3].drop 8).take (E4.cellsOf 24)):=hf 2 _ rfl;rw[qkg]at g2;have g3:Opn enc E4 W 24 (([a0,a1,a2,a3,b0,b1,b2,b3,c0,c1,c2,c3,d0,d1,d2,d3].drop 12).take (E4.cellsOf 24)):=hf 3 _ rfl;rw[qkg]at g3;obtain⟨t0,e0,k0⟩:=qho (cs:=[a0,a1,a2,a3]) g0;obtain⟨t1,e1,k1⟩:=qho (cs:=[b0,b1,b2,b3]) g1;obtain⟨t2,e2,k2⟩:=qho (cs:=[c0,c1,c2,c3]) g2;obtain⟨t3,e3,k3⟩:=qho (cs:=[d0,d1,d2,d3]) g3;simp only[encT,List.cons.injEq]at e0 e1 e2 e3;obtain⟨rfl,rfl,rfl,rfl,_⟩:=e0;obtain⟨rfl,rfl,rfl,rfl,_⟩:=e1;obtain⟨rfl,rfl,rfl,rfl,_⟩:=e2;obtain⟨rfl,rfl,rfl,rfl,_⟩:=e3;refine⟨⟨t0,t1,t2,t3⟩,rfl,fun k=>?_⟩
  match k with
  | 0=>exact k0
  | 1=>exact k1
  | 2=>exact k2
  | k+3=>exact k3
noncomputable instance:Inhabited Q4:=⟨zQ⟩
theorem qw9{c:Value}(h:Opn enc E4 W 46 [c]):
  ∃(A:oA) (cap:Nat) (l:List Q4),c=.slice A l.length cap/\l.length<=140737488355328/\(∀q∈l,qby q)/\SlAt qd 16 W A l:=by
 obtain⟨A,cap,l,h1,h2,h3,h4,h5⟩:=h.sliceR (en:=qd) (R:=qby) (size:=16) Tryz.underlying46 qy0 Od qbe (fun cs hc=>qqt hc);rw[q8o]at h3;exact⟨A,cap,l,h1,by omega,h4,h5⟩
def DsOk(W:Et)(d:DsE):Prop:=SlAt qd 16 W d.A d.qs/\d.qs.length<=140737488355328/\∀q∈d.qs,qby q
instance:Inhabited DsE:=⟨⟨none,0,[]⟩⟩
theorem qw8{c:Value}(h:Opn enc E4 W 22 [c]):
  ∃(A:oA) (cap:Nat) (ds:List DsE),c=.slice A ds.length cap/\ds.length<=140737488355328/\(∀d∈ds,DsOk W d)/\SlAt encD 1 W A ds:=by
 obtain⟨A,cap,l,h1,h2,h3,h4,h5⟩:=h.sliceR (en:=encD) (R:=DsOk W) (size:=1) Tryz.underlying22 q8s Od (fun _=>rfl) (fun cs hc=>by
  have hl:cs.length=1:=by
   obtain⟨n,d,ps,h1,_⟩:=id hc.h
   rcases Deep.open_slice Tryz.underlying46 h1 with⟨e,_⟩|⟨a,len,cap,m,n,D,Pl,e,_⟩
   ·rw[e];rfl
   ·rw[e];rfl
  match cs,hl with
  | [c],_=>
   obtain⟨A,cap,l,rfl,k1,k2,k3⟩:=qw9 hc;exact⟨⟨A,cap,l⟩,rfl,k3,k1,k2⟩)
 rw[q8p]at h3;exact⟨A,cap,l,h1,by omega,h4,h5⟩
end
theorem q9s{W:Et}(h:W.ShapedOpen E4):MaxLenAt W:=
 cell_of_shapedOpen_int (zero:=#[ii 0]) (t:=3) (k:=.i64) h (BR Jk) Jk rfl Jk Jk Tryz.underlying3
def tabs:List (String×DataW Unit):=[("unicode/utf8.acceptRanges",Rows.laid_unicode_utf8_acceptRanges),("tessera/sums.nibbles",Rows.laid_tessera_sums_nibbles),("tessera/names.basesTable",Rows.laid_tessera_names_basesTable),("tessera/vocab.kinds",Rows.laid_tessera_vocab_kinds),("unicode/utf8.first",Rows.laid_unicode_utf8_first)]
def q9h:List (String×DataW Unit):=[("unicode/utf8.acceptRanges",Rows.laid_unicode_utf8_acceptRanges),("errors.errorType",Rows.laid_errors_errorType),("tessera/sums.nibbles",Rows.laid_tessera_sums_nibbles),("tessera/names.basesTable",Rows.laid_tessera_names_basesTable),("tessera/vocab.kinds",Rows.laid_tessera_vocab_kinds),("unicode/utf8.first",Rows.laid_unicode_utf8_first)]
theorem qacr{W:Et}(h:laidMetH E4 q9h W):laidMet E4 tabs W/\handlesMet E4 [("errors.errorType",Rows.laid_errors_errorType)] W:=h
theorem qadj{W:Et}(h:laidMet E4 tabs W):CellsAt W 6 0 qb1:=
 qob (name:= "tessera/names.basesTable") (k:=.i32) (zs:=[192,214,216,246,248,767,880,893,895,8191,8204,8205,8304,8591,11264,12271,12289,55295,63744,64975,65008,65533,65536,983039]) (l:=tabs) (g:=6) (t:=422) (e:=21) (n:=24)
  Jk Jk Tryz.underlying422 Tryz.underlying21 Jk Jk h (zmc (zmc mh))
theorem q46{W:Et}(h:laidMet E4 tabs W):CellsAt W 1 0 qjn:=
 qob (name:= "tessera/sums.nibbles") (k:=.u32) (zs:=nibs.map fun n:Nat=>(n:Int)) (l:=tabs) (g:=1) (t:=328) (e:=129) (n:=16)
  Jk Jk Tryz.underlying328 Tryz.underlying129 Jk Jk h (zmc mh)
theorem qaco{W:Et}(h:laidMet E4 tabs W):qkd W:=
 qob (name:= "tessera/vocab.kinds") (k:=.i64) (zs:=[1,2,3]) (l:=tabs) (g:=3) (t:=56) (e:=3) (n:=3)
  Jk Jk Tryz.underlying56 Tryz.underlying3 Jk Jk h (zmc (zmc (zmc mh)))
theorem etL:E4.globalNamed "errors.errorType" = some 0:=by kernel_rfl
theorem rtL:(E4.cutTypes.find? (·.1== "internal/reflectlite.rtype")).map (·.2)=some 365:=by kernel_rfl
theorem q96:((List.range E4.types.size).filter fun t=>E4.rowNamed t [101,114,114,111,114])=[74]:=by kernel_rfl
theorem q83{W:Et}(h:handlesMet E4 [("errors.errorType",Rows.laid_errors_errorType)] W):ErrTyp W:=by
 obtain⟨name,u,ty,e1,e2,e3,e4,e5⟩:=h _ (Ak.2 rfl);have en:name=[101,114,114,111,114]:=(Bs e1).symm;subst en;obtain rfl:=Bs (rtL.symm.trans e2);have hm:ty∈(List.range E4.types.size).filter fun t=>E4.rowNamed t [101,114,114,111,114]:=BF.2 ⟨Ca.2 e3,e4⟩
 rw[q96]at hm;obtain rfl:=Ak.1 hm;have hh:typeHandle E4 74=.pointer (some ⟨7,74,none⟩):=by kernel_rfl
 rw[hh]at e5;have hc:=World.var?_cell etL e5 0;unfold ErrTyp
 simpa using hc
structure GlobM(w:Et):Prop where
 S:GlobS w
 N:CellsAt w 1 0 qjn
 G:ErrTyp w
theorem q89{W:Et}(h:laidMetH E4 q9h W)(hsh:W.ShapedOpen E4):GlobM W:=
 have hp:=qacr h
 ⟨⟨q9s hsh,qadj hp.1,qaco hp.1⟩,q46 hp.1,q83 hp.2⟩
noncomputable def witP(os:Os):Et:=
 let w0:=qacs os [(5,Rows.laid_unicode_utf8_acceptRanges),(1,Rows.laid_tessera_sums_nibbles),(6,Rows.laid_tessera_names_basesTable),(3,Rows.laid_tessera_vocab_kinds),(4,Rows.laid_unicode_utf8_first)]
 { w0 with heap:=w0.heap.modify 0 fun
   | .cells _ t frozen=>.cells #[.iface 365 (.agg #[.pointer (some ⟨7,74,none⟩)])] t frozen
   | o=>o }
theorem andT{a b:Bool}(h:a=true)(k:b=true):(a&&b)=true:=by rw[h,k];rfl
section
variable {J:Ey->Et->Prop}
theorem AppV.share{P:Ev}(hJ:Carr J){e size:Nat}{w:Et}{v:Value}{n:Nat}{xs:Ez}{t ty:Ew}{i:TypeInfo}{z:Value}{a:Addr}{m c:Nat}{news:Ez}{X Y:Ey}{K:Value->Et->Prop}(h:J (Y++X) w)(hR:RowX e size v n xs Y)(ht:P.underlying t=some (.slice e))(hi:P.info? e=some i)(hz:i.zero=some z)(hsize:i.size=size)(hzs:z.cells.size=size)(hsz:0<size)(hm0:0<m)(hl:news.length=m*size)(hnews:∀j u,news[j]?=some u->w.cell? (a.add j)=some u)(h1:∀u∈news,u.oneCell'=true)(hb:(n+m)*i.bytes<=140737488355328)(h63:n+m<=140737488355328)(hk:∀A' c' Y' w',RowX e size (.slice A' (n+m) c') (n+m) (xs++news) Y'->((v=.slice A' n c'/\J (Y'++X) w')\/J (Y'++(Y++X)) w')->K (.slice A' (n+m) c') w'):AppV P #[t,t] ty v (.slice (some a) m c) w K:=by
 subst hsize;have ho:=hR.own fun x hx=>hJ.get h (AQ _ hx)
 obtain⟨v',w',hrun,h2,h3,_,h5⟩:=run_append_own_at (P:=P) w 0 t ty e i z i.size i.bytes ht hi hz rfl rfl hzs hsz v n xs ho a m c news hl hnews h1 (by simp only[maxLen];omega) hb (Am _);obtain⟨Y',hR',hY1,hY2⟩:=RowX.of h2;obtain⟨A',c',rfl⟩:=hR'.slice;refine⟨_,w',hrun,?_⟩;have hnew:Ext w w'->(Value.slice A' (n+m) c').ownBlock=some w.heap.size->K (.slice A' (n+m) c') w':=fun he hor=>by
  refine hk A' c' Y' w' hR' (.inr (hJ.call h ⟨he,fun x hx=>⟨?_,(hY2 x hx).2⟩,by rw[hY1,hor];simp⟩));have:x.1∈Y'.map (·.1):=Cp hx;rw[hY1,hor]at this;rw[Ak.1 this];exact Ar _
 obtain⟨hxl,⟨rfl,rfl,rfl⟩|⟨g,cap,cur,rfl,rfl,hn1,hn2,hn3,hn4⟩⟩:=id hR
 ·rcases h5 with h5|h5
  ·exfalso
   have hl2:=hR'.1;obtain⟨_,⟨_,h0,_⟩|⟨g,_,_,e1,_⟩⟩:=hR'
   ·omega
   ·injection e1 with e1
    subst e1;cases h5
  ·exact hnew ⟨h3.os,h3.tape,h3.output,h3.size,fun k hk=>h3.block k hk (fun e=>by cases e)⟩ h5
 ·have hg:=hJ.get h mh;have hlt:=qe6 hg
  by_cases hroom:n+m<=cap
  ·have hr:=run_append_room (P:=P) w t ty e i ht hi g n cap cur hg a m c news hl hnews h1 hroom (by rw[hl,hn3,<-DN];exact B0 _ hroom);rw[hr]at hrun
   injection hrun with e1 e2
   injection e1 with e1 _ e3
   subst e1 e3;refine hk _ _ Y' w' hR' (.inl ⟨rfl,?_⟩);rw[qgw hg]at e2;have h6:=hJ.set (.cells (cur.toList.take (n*i.size)++news++cur.toList.drop (n*i.size+news.length)).toArray e) h;rw[e2]at h6;have h7:Y'.map (·.1)=[g]:=hY1
   match Y',h7,hY2 with
   | [x],h7,hY2=>
    have e4:x.1=g:=by simpa using h7
    have e5:=(hY2 x (Ak.2 rfl)).2;rw[e4,hJ.get h6 mh]at e5;have e6:x=(g,.cells (cur.toList.take (n*i.size)++news++cur.toList.drop (n*i.size+news.length)).toArray e):=Eo e4 (Bs e5).symm;rw[e6];exact h6
  ·have holds:∀j u,xs[j]?=some u->w.cell? ((⟨g,0,none⟩:Addr).add j)=some u:=ho.cells (g:=g) rfl;have hr:=run_append_grow (P:=P) w t ty e i z ht hi hz ⟨g,0,none⟩ n cap xs hxl holds a m c news hl hnews Oo Oo (growslice_fits Oo hb);rw[hr]at hrun
   injection hrun with e1 e2
   injection e1 with e1 _ e3
   subst e1;refine hnew ?_ rfl;rw[<-e2];exact(Ext.refl w).drew.alloc _
theorem V.RowX.cut{e size n m c:Nat}{A:oA}{xs ws:Ez}{Y:Ey}(h:RowX e size (.slice A m c) m (xs++ws) Y)(hx:xs.length=n*size)(hn:n<=m):RowX e size (.slice A n c) n xs Y:=by
 obtain⟨h1,⟨e1,h2,h3⟩|⟨g,cap,cur,e1,h3,h4,h5,h6,h7⟩⟩:=h
 ·injection e1 with e1 _ e2
  subst e1 e2 h2;obtain rfl:n=0:=by omega
  exact⟨hx,.inl ⟨rfl,rfl,h3⟩⟩
 ·injection e1 with e1 _ e2
  subst e1 e2;refine⟨hx,.inr ⟨g,c,cur,rfl,h3,by omega,h5,h6,?_⟩⟩;have hle:n*size<=m*size:=B0 _ hn;have:=Af (List.take (n*size)) h7;rw[List.take_take,CM hle,<-hx,Ct]at this;rw[<-hx];exact this
theorem V.RowX.put{e n c k:Nat}{A:oA}{xs:Ez}{Y:Ey}(h:RowX e 1 (.slice A n c) n xs Y)(hk:k<n):∃g cur,A=some ⟨g,0,none⟩/\Y=[(g,.cells cur e)]/\k<cur.size/\cur[k]?=xs[k]?/\∀v,RowX e 1 (.slice A n c) n (xs.set k v) [(g,.cells (cur.setIfInBounds k v) e)]:=by
 obtain⟨h1,⟨e1,h2,h3⟩|⟨g,cap,cur,e1,h3,h4,h5,h6,h7⟩⟩:=h
 ·omega
 ·injection e1 with e1 _ e2
  subst e1 e2;have h8:k<cur.size:=by omega
  refine⟨g,cur,rfl,h3,h8,?_,fun v=>⟨by rw[C9];exact h1,.inr ⟨g,c,_,rfl,rfl,h4,h5,by simpa using h6,?_⟩⟩⟩
  ·rw[<-h7,Bi,Ad Oo,Cq]
  ·rw[Cj,<-h7,List.take_set]
end
theorem qaap(e:PartE):∃a,ptE e=.pointer a:=by
 unfold ptE
 split
 ·exact⟨_,rfl⟩
 ·exact⟨_,rfl⟩
theorem qabu(zs:List Int)(k:Nat)(z:Int):zsV (zs.set k z)=(zsV zs).set k (ii z):=by rw[zsV,zsV,DO]
theorem q28(zs:List Int):(zsV zs).length=zs.length:=AI ..
def ShX(v:Value)(zs:List Int)(Y:Ey)(l:Value)(m:Nat)(Z:Ey):Prop:=
 (∃A c ws,l=.slice A m c/\v=.slice A zs.length c/\Z=[]/\zs.length<=m/\RowX 3 1 l m (zsV zs++ws) Y)\/(RowX 3 1 v zs.length (zsV zs) Y/\∃xs,RowX 3 1 l m xs Z)
theorem ShX.start{v:Value}{zs:List Int}{Y:Ey}(h:RowX 3 1 v zs.length (zsV zs) Y):ShX v zs Y v zs.length []:=by
 obtain⟨A,c,rfl⟩:=h.slice;exact .inl ⟨A,c,[],rfl,rfl,rfl,Ar _,by rw[AY];exact h⟩
theorem ShX.row{v l:Value}{zs:List Int}{Y Z:Ey}{m:Nat}(h:ShX v zs Y l m Z):RowX 3 1 v zs.length (zsV zs) Y:=by
 rcases h with⟨A,c,ws,rfl,rfl,_,h1,h2⟩|⟨h,_⟩
 ·exact h2.cut (by rw[q28,Be]) h1
 ·exact h
theorem ShX.slice{v l:Value}{zs:List Int}{Y Z:Ey}{m:Nat}(h:ShX v zs Y l m Z):∃A c,l=.slice A m c:=by
 rcases h with⟨A,c,ws,rfl,_⟩|⟨_,xs,h⟩
 ·exact⟨A,c,rfl⟩
 ·exact h.slice
theorem AppV.shx{J:Ey->Et->Prop}(hJ:Carr J){v l:Value}{zs:List Int}{X Y Z:Ey}{m nb:Nat}{z:Int}{w:Et}{K:Value->Et->Prop}(hS:ShX v zs Y l m Z)(h:J (Z++(Y++X)) w)(hb:w.cell? ⟨nb,0,none⟩=some (ii z))(hm:m<=1000000)(hk:∀A' c' Y' Z' w',ShX v zs Y' (.slice A' (m+1) c') (m+1) Z'->J (Z'++(Y'++X)) w'->K (.slice A' (m+1) c') w'):AppV E4 #[38,38] 38 l (.slice (some ⟨nb,0,none⟩) 1 1) w K:=by
 have hby:((E4.info? 3).get Jk).bytes=8:=by kernel_rfl
 have hnews:∀(j:Nat) (u:Value),[ii z][j]?=some u->w.cell? ((⟨nb,0,none⟩:Addr).add j)=some u:=fun j u hu=>by
  cases j with
  | zero=>rw[<-Bs hu];exact hb
  | succ j=>cases hu
 have hone:∀u∈[ii z],u.oneCell'=true:=fun u hu=>by rw[Ak.1 hu];rfl
 rcases hS with⟨A,c,ws,rfl,rfl,rfl,h1,hR⟩|⟨hv,xs,hR⟩
 ·refine AppV.share (m:=1) (news:=[ii z]) hJ (Y:=Y) (X:=X) h hR inSl inI inZ Jk Jk Od Od rfl hnews hone (by rw[hby];omega) Oo ?_;rintro A' c' Y' w' hR' (⟨e,h2⟩|h2)
  ·injection e with e1 _ e2
   subst e1 e2;exact hk _ _ Y' [] w' (.inl ⟨_,_,ws++[ii z],rfl,rfl,rfl,by omega,by rw[<-Ag];exact hR'⟩) h2
  ·exact hk _ _ Y Y' w' (.inr ⟨hR.cut (by rw[q28,Be]) h1,_,hR'⟩) h2
 ·refine AppV.share (m:=1) (news:=[ii z]) hJ (Y:=Z) (X:=Y++X) h hR inSl inI inZ Jk Jk Od Od rfl hnews hone (by rw[hby];omega) Oo ?_;rintro A' c' Y' w' hR' (⟨_,h2⟩|h2)
  ·exact hk _ _ Y Y' w' (.inr ⟨hv,_,hR'⟩) h2
  ·exact hk _ _ Y Y' w' (.inr ⟨hv,_,hR'⟩) ((hJ.head Y').dropL h2)
theorem qz1{q:Q4}:∀(Ls:List (List Q4)) (i:Nat),(idxC q Ls i).length<=Ls.length
 | [],_=>Ar _
 | L::Ls,i=>by
  have:=qz1 (q:=q) Ls (i+1);rw[idxC]
  split<;>simp<;>omega
theorem q80{P:List (List Q4)}{f:Q4->Bool}:∀e∈eacD P f,e.2.length<=P.length:=fun e he=>by
 obtain⟨q,_,rfl⟩:=Bc.1 he;exact qz1 P 0
theorem qvy{α:Type}{L:List α}{i:Nat}{s:α}(h:L[i]?=some s):L.set i s=L:=by
 refine BT fun j=>?_;rw[BK]
 split
 ·next e=>subst e;rw[h,Ad (Ae.1 h).1]
 ·rfl
theorem q5u{α β:Type}{f:α->β}{L:List α}{i:Nat}{s s':α}(h:L[i]?=some s)(e:f s'=f s):(L.set i s').map f=L.map f:=by
 rw[DO,e];exact qvy (by rw[Au,h];rfl)
theorem q52{α:Type}(L:List α)(m:Nat):L.take (min L.length m)=L.take m:=by
 rcases Nat.le_total m L.length with h|h
 ·rw[Nat.min_eq_right h]
 ·rw[CM h,Bq,AE h]
end Go.Proofs.YtacnkdagblbgfaaGreatDoor
