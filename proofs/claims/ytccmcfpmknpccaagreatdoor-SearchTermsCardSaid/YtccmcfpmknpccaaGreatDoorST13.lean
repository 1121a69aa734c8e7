/- Lemmas and contracts of functions on the way to the law's card (part 13 of 16). -/
import Derived.Test.YtccmcfpmknpccaaGreatDoorST12
namespace Go.Proofs.YtccmcfpmknpccaaGreatDoor
set_option maxHeartbeats 8000000
open Go.RowKit V
set_option maxHeartbeats 8000000
set_option maxRecDepth 100000
variable {b base c g i j k kk m off r:Nat} {Q:Nat->Nat->Nat} {w w' w9:Dd} {Post:Dl} {args vs:Dn} {Fs:List Do} {P:Df} {f:FuncId} {e:Dg} {A:oA} {xo yo:Operand} {K:Dj} {T:List TM} {qs:List Q4} {ρ:Dk} {o:Oper} {J:Dm->Dl} {o':Obj}
def stJ(Q:Nat->Nat->Nat)(j i:Nat):List Bool:=if j=0 then List.replicate (leT Q 0 i) false else stT Q (j-1) i
theorem qhk(Q:Nat->Nat->Nat)(j i:Nat):(stJ Q j i).length=leT Q j i:=by
 rw[stJ]
 split
 ·rename_i h;subst h;exact List.length_replicate
 ·rw[qbm,BE Oo]
theorem q9x(Q:Nat->Nat->Nat)(h:j≠0)(i:Nat):stJ Q j i=stT Q (j-1) i:=Ab h
theorem q4s(h:frU Q i j=false):stJ Q j (i+1)=stJ Q j i:=by
 rw[stJ,stJ]
 split
 ·rename_i H;subst H;rw[qbc h]
 ·rw[stT,BE Oo,Ab (by rw[h];decide)]
theorem q9w(h:frU Q i j=true):stJ Q j (i+1)=stJ Q j i++[if j=0 then false else frU Q i (j-1)]:=by
 rw[stJ,stJ]
 split
 ·rename_i H;subst H;rw[qa0 h,List.replicate_succ']
 ·rw[stT,BE Oo,Af h]
theorem q8m(h:frU Q i j=true):nuT Q j (i+1)=nuT Q j i++[Q i j]:=by rw[nuT,Af h]
theorem q3u(h:frU Q i j=false):nuT Q j (i+1)=nuT Q j i:=by rw[nuT,Ab (by rw[h];decide)]
theorem TOk.first{n:Nat}(h:TOk Q n)(hi:i<n):∃k,k<4/\(∀j,j<k->frU Q i j=false)/\(∀j,k<=j->frU Q i j=true)/\(0<i->(∀j,j<k->Q i j=Q (i-1) j)/\Q i k≠Q (i-1) k)/\(i=0->k=0):=by
 by_cases O:i=0
 ·subst O;exact⟨0,by decide,λj H=>by omega,λj _=>qfs Q j,λh=>by omega,λ_=>rfl⟩
 ·obtain⟨k,hk,W,h2⟩:=h.rise i Oo hi;refine⟨k,hk,λj H=>qxy Oo λm hm=>W m Oo,λj H=>?_,λ_=>⟨W,by omega⟩,λg=>absurd g O⟩;cases hf:frU Q i j with
  | true=>rfl
  | false=>
   have:=(qfr hf).2 k H;omega
def LoQ(Q:Nat->Nat->Nat)(i m:Nat):Dn:=if m%2=0 then u64V (nuT Q (m/2) i)else byV (opB (stJ Q (m/2) i))
def LcQ(Q:Nat->Nat->Nat)(i kk j m:Nat):Dn:=if m%2=1/\kk<m/2/\m/2<j then byV (qay (stJ Q (m/2) i))else LoQ Q i m
def LpQ(Q:Nat->Nat->Nat)(i kk j m:Nat):Dn:=if kk<=m/2/\m/2<j then LoQ Q (i+1) m else LcQ Q i kk 4 m
theorem qrk(Q:Nat->Nat->Nat)(i j:Nat):LoQ Q i (2*j)=u64V (nuT Q j i):=by rw[LoQ,Af Oo,show 2*j/2=j by omega]
theorem qwf(Q:Nat->Nat->Nat)(i j:Nat):LoQ Q i (2*j+1)=byV (opB (stJ Q j i)):=by rw[LoQ,Ab Oo,show(2*j+1)/2=j by omega]
theorem q1y(h:frU Q i (m/2)=false):LoQ Q (i+1) m=LoQ Q i m:=by rw[LoQ,LoQ,q3u h,q4s h]
theorem qm7(Q:Nat->Nat->Nat)(i kk m:Nat):LcQ Q i kk (kk+1) m=LoQ Q i m:=Ab Oo
theorem qfi(Q:Nat->Nat->Nat)(i kk j l:Nat):LcQ Q i kk l (2*j)=u64V (nuT Q j i):=by rw[LcQ,Ab Oo,qrk]
theorem qla{l:Nat}(h:¬(kk<j/\j<l)):LcQ Q i kk l (2*j+1)=byV (opB (stJ Q j i)):=by rw[LcQ,Ab Oo,qwf]
theorem qh5{l:Nat}(h:kk<j)(H:j<l):LcQ Q i kk l (2*j+1)=byV (qay (stJ Q j i)):=by rw[LcQ,Af Oo,show(2*j+1)/2=j by omega]
theorem qrj(h:kk<j)(m:Nat):updR (LcQ Q i kk j) (2*j+1) (byV (qay (stJ Q j i))) m=LcQ Q i kk (j+1) m:=by
 by_cases e:m=2*j+1
 ·subst e;rw[qeb,qh5 h Oo]
 ·rw[qdn _ _ _ e,LcQ,LcQ]
  by_cases g:m%2=1/\kk<m/2/\m/2<j
  ·rw[Af g,Af Oo]
  ·rw[Ab g,Ab Oo]
theorem qwh(Q:Nat->Nat->Nat)(i kk m:Nat):LpQ Q i kk kk m=LcQ Q i kk 4 m:=Ab Oo
theorem qwg(Q:Nat->Nat->Nat)(i kk j:Nat)(h:m/2=j):LpQ Q i kk j m=LcQ Q i kk 4 m:=Ab Oo
theorem q1z(h:kk<=j)(m:Nat):updR (updR (LpQ Q i kk j) (2*j+1) (LoQ Q (i+1) (2*j+1))) (2*j) (LoQ Q (i+1) (2*j)) m=LpQ Q i kk (j+1) m:=by
 by_cases e:m=2*j
 ·subst e;rw[qeb,LpQ,Af Oo]
 ·rw[qdn _ _ _ e]
  by_cases H:m=2*j+1
  ·subst H;rw[qeb,LpQ,Af Oo]
  ·rw[qdn _ _ _ H,LpQ,LpQ]
   by_cases g:kk<=m/2/\m/2<j
   ·rw[Af g,Af Oo]
   ·rw[Ab g,Ab Oo]
theorem q60(H:∀j,j<kk->frU Q i j=false)(O:m<8):LpQ Q i kk 4 m=LoQ Q (i+1) m:=by
 rw[LpQ]
 by_cases g:kk<=m/2/\m/2<4
 ·rw[Af g]
 ·rw[Ab g,LcQ,Ab Oo,q1y (H _ Oo)]
section
variable {w w1 w2:Dd} {Z:Do} {rb:Nat} {U G:Dk} {L:Nat->Dn}
theorem RwS.newZ(h:RwS w w1 Z rb U G L){o:Obj}(W:b=w1.heap.size)(H:w2=w1.alloc o):RwS w w2 [b] rb U G L/\w2.heap[b]?=some o:=by
 have O:Ext w1 w2:=by rw[H];exact(Ext.refl w1).alloc _
 obtain⟨s,hg⟩:=(h.sep.drop 1).new W H;exact⟨⟨s,O.get h.tab,λm hm=>qcg (h.row m hm) O⟩,hg⟩
theorem RwS.chgZ(h:RwS w w1 Z rb U G L)(O:Chn Z w1 w2):RwS w w2 Z rb U G L:=by
 have H:=h.sep.row (i:=0) (F':=Z) rfl O λk W=>⟨.inl W,AE (h.sep.lo Z mh k W).2 O.size⟩
 refine⟨H.sep,?_,λm hm=>qam (h.row m hm) λi hi=>H.keep (m+2) _ (qkx Z rb G hm) Oo i hi⟩;rw[H.keep 1 [rb] rfl Oo rb (Ac.2 rfl)];exact h.tab
theorem RwS.noZ(h:RwS w w1 Z rb U G L):RwS w w1 [] rb U G L:=⟨(h.sep.drop 1).add (F:=[]) (Ext.refl w1) (λk H=>by cases H),h.tab,h.row⟩
end
def ReI(w9:Dd)(Post:Dl)(O H:Bool)(w':Dd):Prop:=(H=false/\Ext w9 w')\/(H=true/\O=true/\Post w')
theorem ReI.load{H:Bool}(h:ReI w9 Post false H w'):H=false/\Ext w9 w':=by
 rcases h with h|⟨_,h,_⟩
 ·exact h
 ·cases h
theorem ReI.call{H:Bool}(h:ReI w9 Post H false w'):Ext w9 w':=by
 rcases h with h|⟨h,_⟩
 ·exact h.2
 ·cases h
theorem ReI.post{H:Bool}(h:ReI w9 Post H true w'):Post w':=by
 rcases h with⟨h,_⟩|⟨_,_,h⟩
 ·cases h
 ·exact h
def qaav(Q:Nat->Nat->Nat)(n:Nat)(w0 w:Dd)(r:Di):Prop:=
 ∃(NA LA:Nat->oA) (H O:Nat->Nat),r=.agg #[.slice (NA 0) (leT Q 0 n) (H 0),.slice (LA 0) (upN (leT Q 0 n) 8) (O 0),.slice (NA 1) (leT Q 1 n) (H 1),.slice (LA 1) (upN (leT Q 1 n) 8) (O 1),
  .slice (NA 2) (leT Q 2 n) (H 2),.slice (LA 2) (upN (leT Q 2 n) 8) (O 2),.slice (NA 3) (leT Q 3 n) (H 3),.slice (LA 3) (upN (leT Q 3 n) 8) (O 3)]/\
  (∀j,j<4->SlAt encU 1 w (NA j) (nuT Q j n))/\(∀j,0<j->j<4->SlAt encB 1 w (LA j) (qay (stT Q (j-1) n)))/\
  ∀j,j<4->∀x∈rowF (.slice (NA j) 0 0)++rowF (.slice (LA j) 0 0),w0.heap.size<=x/\x<w.heap.size
theorem q4h(Q:Nat->Nat->Nat)(A:oA)(n c:Nat)(w:Dd)(hS:SlAt idsE 4 w A ((List.range n).map Q))(hQ:TOk Q n):
  Gv Dp 189 [.slice A n c] w λr w'=>qaav Q n w w' r/\Ext w w':=by
 have bv:=hQ.nle;have ad:((List.range n).map Q).length=n:=by simp
 have a3:∀i (hi:i<((List.range n).map Q).length),((List.range n).map Q)[i]=Q i:=λi hi=>by simp
 have av:∀j i,i<=n->(nuT Q j i).length<=1048576:=λj i hi=>by have:=qsp (Q:=Q) j i;show leT Q j i<=_;omega
 have t2:tsz Dp 331=2:=by kernel_rfl
 have t1:tsz Dp 3=1:=by kernel_rfl
 refine ze Tryz.func189 Tryz.ntmps189 ?_;refine⟨λr2 w1 a4 aw=>?_⟩;have al:Ext w w1:=by rw[aw];exact(Ext.refl w).alloc _
 have aq:w1.heap[r2]?=some (.cells #[.slice none 0 0,.slice none 0 0,.slice none 0 0,.slice none 0 0,.slice none 0 0,.slice none 0 0,.slice none 0 0,.slice none 0 0] 332):=by rw[aw,a4];exact heap_alloc_new w _
 have a5:w.heap.size<=r2:=by omega
 clear a4 aw;(conv=>whnf);refine⟨λrb w2 a6 a7=>?_⟩;have h0:RwS w1 w2 [] rb (λ_=>.slice none 0 0) (λ_=>.slice none 0 0) (LoQ Q 0):=by
  have ar:∀F∈(List.range 8).map (λ_:Nat=>rowF (.slice none 0 0)),F=[]:=λF hF=>by
   obtain⟨_,_,rfl⟩:=AG.1 hF;rfl
  have s0:Sep w1 w1 ((List.range 8).map λ_=>rowF (.slice none 0 0)):=by
   refine⟨Ext.refl w1,λF hF k hk=>?_,Bj.2 λi j hi hj _ k hk=>?_⟩
   ·rw[ar F hF]at hk;cases hk
   ·rw[ar _ (AP hi)]at hk;cases hk
  obtain⟨s1,hg⟩:=s0.new a6 a7;refine⟨s1.add (F:=[]) (Ext.refl w2) (λk hk=>by cases hk),hg,λm H=>?_⟩;have e:LoQ Q 0 m=[]:=by
   have hb:opB []=[]:=AK (by rw[qmd];rfl);rw[LoQ]
   split
   ·rfl
   ·rw[stJ]
    split
    ·rw[show leT Q 0 0=0 from rfl,List.replicate_zero,hb];rfl
    ·rw[show stT Q (m/2-1) 0=[]from rfl,hb];rfl
  rw[e];exact World.ownsRow_nil _ _ _ _
 clear a6 a7;refine qn (λi:Nat=>[(0,.slice A n c),(2,pp r2),(3,pp rb),(10,.slice A n c),(11,ii n),(12,ii i)])
  (λi w'=>i<=n/\∃G,RwS w1 w' [] rb G G (LoQ Q i)) (λi=>n-i) 0 fq ⟨An _,_,h0⟩ ?_
 clear h0;rintro i w3 bw ⟨i1,G,hR⟩;(conv=>whnf);refine zC (λ_=>zw ?_) (λ_=>zw ?_)
 ·have hi:i<n:=by omega
  obtain⟨kk,bz,a8,a9,hq,hz⟩:=hQ.first hi;refine ElemV.sl (hS.ext (al.trans hR.sep.ext)) ad i rfl hi ?_;intro eb eo ag;rw[a3]at ag;refine LoadA.cells ag rfl (zw ?_);refine⟨λqb w4 ba bb=>?_⟩;obtain⟨hR,W⟩:=hR.newZ ba bb;clear ba bb;refine StoreA.blk W (by show 0+4<=4;decide) (qid (Q i)) ?_;intro w5 af ah;have hR:=hR.chgZ af;have ah:w5.heap[qb]?=some (.cells (idsE (Q i)).toArray 95):=ah;clear af W;(conv=>whnf);refine zC (λ_=>zu ?_) (λ_=>zu ?_)
  case' refine_1=>
   refine qn (λk:Nat=>[(0,.slice A n c),(2,pp r2),(3,pp rb),(4,ii i),(5,pp qb),(6,ii k),(10,.slice A n c),(11,ii n),(12,ii i)]) (λk w'=>k<=kk/\Ext w5 w') (λk=>kk-k) 0 fq ⟨An _,xr⟩ ?_;rintro k w6 bi ⟨k1,ai⟩;obtain⟨bj,b0⟩:=hq Oo;obtain⟨ab,ao,eA,bk⟩:=(hS.ext (al.trans (hR.sep.ext.trans ai))).at_ (by intro e;rw[e]at ad;simp at ad;omega);have hp:=(bk (i-1) _ (zge (by rw[ad];omega))).ext (Ext.refl w6).drew;rw[a3]at hp;have bl:=(Ext.refl w6).drew.get (ai.get ah);(conv=>whnf);refine zy ?_;refine zv ?_;refine LoadV.own bl (by rw[t1,Aq,Bw,Az];exact qgw (Q i) Oo) ?_;refine zu ?_;refine⟨⟨ab,ao,i-1,eA,by omega,by omega,?_⟩⟩;refine zu ?_;refine LoadV.of (by rw[t1,Bw];exact hp k _ (qgw (Q (i-1)) Oo)) (zw ?_);refine zt ?_;refine zC (λ_=>zu ?_) (λ_=>zu ?_)
   ·have b1:k≠kk:=λe=>by subst e;omega
    exact⟨k+1,fq,⟨by omega,ai.drew⟩,by omega⟩
   have ax:(k:Int)=(kk:Int):=by
    rcases AM k kk with g|g
    ·have:=bj k g;omega
    ·omega
   have aj:=hR.call ai.drew;have W:=(ai.drew).get ah;obtain⟨w7,ay⟩:∃w7,w7=w6.drew:=⟨_,rfl⟩
   rw[<-ay]at aj W|-;obtain⟨kv,bm⟩:∃kv:Int,kv=(k:Int):=⟨_,rfl⟩
   rw[<-bm]at ax|-
  case' refine_2=>
   have aj:=hR;have W:=ah;have ax:(0:Int)=(kk:Int):=by have:=hz Oo;omega
   obtain⟨w7,ay⟩:∃w7,w7=w5:=⟨_,rfl⟩
   rw[<-ay]at aj W|-;have kv:=(0:Int)
  all_goals
   refine qn (λj:Nat=>[(0,.slice A n c),(2,pp r2),(3,pp rb),(5,pp qb),(6,ii kk),(7,ii j),(10,.slice A n c),(11,ii n),(12,ii i)])
    (λj w'=>kk+1<=j/\j<=4/\w'.heap[qb]?=some (.cells (idsE (Q i)).toArray 95)/\∃G,RwS w1 w' [qb] rb G G (LcQ Q i kk j)) (λj=>4-j) (kk+1)
    ⟨rfl,rfl,rfl,rfl,Ae (Value.int .i64) ax,Ae (Value.int .i64) Oo,rfl,rfl,rfl,trivial⟩ ⟨Ao _,by omega,W,G,aj.eqL λm _=>(qm7 Q i kk m).symm⟩ ?_
   clear aj W;rintro j w8 b2 ⟨j1,j2,W,G3,az⟩;conv=>whnf
   (repeat'(first|refine zp ?_|refine zC (λ_=>zw ?_) (λ_=>zw ?_)))
   ·have ac:j<4:=by omega
    rw[t2,show 0+j*2=2*j by omega];refine zcv (qhv w1 w8 [qb] rb G3 (LcQ Q i kk j) az j ac (nuT Q j i) (stJ Q j i) (qfi Q i kk j j) (qla Oo) (qhk Q j i) (av j i i1)) ?_;rintro r w9 ⟨rfl,⟨G4,aa⟩,bn⟩;refine zu ?_;exact⟨j+1,fq,⟨by omega,by omega,by rw[bn qb (Ac.2 rfl)];exact W,G4,aa.eqL λm _=>qrj Oo m⟩,by omega⟩
   ·obtain rfl:j=4:=by omega
    refine qn (λj:Nat=>[(0,.slice A n c),(2,pp r2),(3,pp rb),(5,pp qb),(8,ii j),(10,.slice A n c),(11,ii n),(12,ii i)])
     (λj w'=>kk<=j/\j<=4/\w'.heap[qb]?=some (.cells (idsE (Q i)).toArray 95)/\∃G,RwS w1 w' [qb] rb G G (LpQ Q i kk j)) (λj=>4-j) kk
     fq ⟨Ao _,by omega,W,G3,az.eqL λm _=>(qwh Q i kk m).symm⟩ ?_
    clear az W;rintro j w9 b3 ⟨j3,j4,W,G4,aa⟩;conv=>whnf
    (repeat'(first|refine zp ?_|refine zC (λ_=>zw ?_) (λ_=>zw ?_)))
    ·have ac:j<4:=by omega
     have bc:=a9 j Oo;have bo:LpQ Q i kk j (2*j)=u64V (nuT Q j i):=by rw[qwg Q i kk j Oo,qfi]
     have bp:LpQ Q i kk j (2*j+1)=byV (if kk<j then qay (stJ Q j i)else opB (stJ Q j i)):=by
      rw[qwg Q i kk j Oo]
      split
      ·rename_i g;exact qh5 g ac
      ·rename_i g;exact qla Oo
     have bq:(if kk<j then qay (stJ Q j i)else opB (stJ Q j i)).length<=1048576:=by
      have hs:=qhk Q j i;have ak:=qsp (Q:=Q) j i;have hu:=qbh (stJ Q j i).length 8 Od
      split
      ·rw[qcd];omega
      ·rw[qmd];omega
     have hG:gro (nuT Q j i).length (if kk<j then qay (stJ Q j i)else opB (stJ Q j i))=opB (stJ Q j (i+1)):=by
      have hs:(nuT Q j i).length=(stJ Q j i).length:=(qhk Q j i).symm;rw[q9w bc,hs]
      split
      ·rename_i g
       rw[Ab Oo,a9 (j-1) Oo,q3v]
      ·rename_i g
       have e:(if j=0 then false else frU Q i (j-1))=false:=by
        split
        ·rfl
        ·exact a8 (j-1) Oo
       rw[e,qzl]
     refine DrawV.gen (λS ae w'=>ReI w9 (λw'=>RwR w1 w9 w' [qb] rb (updR (updR (LpQ Q i kk j) (2*j+1) (LoQ Q (i+1) (2*j+1))) (2*j) (LoQ Q (i+1) (2*j)))) (S 4) (S 5) w') rfl Jk (λae=>.inl ⟨rfl,(Ext.refl w9).drew⟩) (zw ?_);(iterate 4 (refine zg ?_));refine StepG.of (ii (Q i j:Nat)) (λS ae wd hk hp hI=>?_) ?_
     ·dsimp only at hI;rw[hk]at hI;obtain⟨h5,he⟩:=hI.load;refine LoadV.own (he.get W) (by rw[t1,Aq,Bw,Az];exact qgw (Q i) ac) ?_;(conv=>whnf);exact⟨rfl,.inl ⟨h5,he⟩⟩
     refine StepG.of (.tuple #[]) (λS ae wd hk hp hI=>?_) ?_
     ·dsimp only at hI;rw[hk]at hI;have h4:S 4=true:=hp 4 Od;have he:=hI.call;have a0:=aa.call he;rw[t2,show 0+j*2=2*j by omega];refine zcv (qvm w1 wd [qb] rb G4 (LpQ Q i kk j) a0 j (Q i j) ac (nuT Q j i) _ bo bp (av j i i1) bq (by have:=hQ.small hi ac;omega)) ?_;rintro r br ⟨rfl,⟨G5,am⟩,a1⟩;rw[hG,<-q8m bc,<-qrk,<-qwf]at am;exact⟨rfl,.inr ⟨rfl,h4,⟨G5,am⟩,λk hk=>by rw[a1 k hk,he.block k (aa.sep.lo _ mh k hk).2]⟩⟩
     intro ae br hI;obtain⟨⟨G5,am⟩,a1⟩:=hI.post;clear hI;refine zu ?_;exact⟨j+1,fq,⟨by omega,by omega,by rw[a1 qb (Ac.2 rfl)];exact W,G5,am.eqL λm _=>q1z Oo m⟩,by omega⟩
    ·obtain rfl:j=4:=by omega
     exact⟨i+1,fq,⟨by omega,G4,(aa.eqL λm H=>q60 a8 H).noZ⟩,by omega⟩
 ·obtain rfl:i=n:=by omega
  refine qn (λj:Nat=>[(2,pp r2),(3,pp rb),(9,ii j)])
   (λj w'=>1<=j/\j<=4/\∃G,RwS w1 w' [] rb G G (LcQ Q i 0 j)) (λj=>4-j) 1 fq ⟨by omega,by omega,G,hR.eqL λm _=>(qm7 Q i 0 m).symm⟩ ?_
  clear hR;rintro j w4 bi ⟨j1,j2,G4,aa⟩;(conv=>whnf);refine zC (λ_=>zu ?_) (λ_=>zu ?_)
  ·have ac:j<4:=by omega
   rw[t2,show 0+j*2=2*j by omega];refine zcv (qhv w1 w4 [] rb G4 (LcQ Q i 0 j) aa j ac (nuT Q j i) (stJ Q j i) (qfi Q i 0 j j) (qla Oo) (qhk Q j i) (av j i i1)) ?_;rintro r w9 ⟨rfl,⟨G5,a0⟩,b4⟩;refine zu ?_;exact⟨j+1,fq,⟨by omega,by omega,G5,a0.eqL λm _=>qrj Oo m⟩,by omega⟩
  ·obtain rfl:j=4:=by omega
   have O:∀m,∃A c,m<8->G4 m=.slice A (LcQ Q i 0 4 m).length c:=λm=>by
    by_cases H:m<8
    ·obtain⟨A,c,e⟩:=qbn (aa.row m H);exact⟨A,c,λ_=>e⟩
    ·exact⟨none,0,λh=>absurd h H⟩
   obtain⟨AA,O⟩:=Classical.axiomOfChoice O;obtain⟨CC,O⟩:=Classical.axiomOfChoice O;have ak:∀j,(LcQ Q i 0 4 (2*j)).length=leT Q j i:=λj=>by rw[qfi,qdm];rfl
   have an:∀j,(LcQ Q i 0 4 (2*j+1)).length=upN (leT Q j i) 8:=λj=>by
    by_cases g:0<j/\j<4
    ·rw[qh5 g.1 g.2,qaq,qcd,qhk]
    ·rw[qla g,qaq,qmd,qhk]
   have hv:∀m (H:m<8) v,v=G4 m->w4.cell? ⟨rb,0+m,none⟩=some v:=λm H v e=>by
    rw[qa aa.tab,Aq,qa9 8 G4 m H,e]
   have g0:=O 0 Od;rw[ak 0]at g0;have g1:=O 1 Od;rw[an 0]at g1;have g2:=O 2 Od;rw[ak 1]at g2;have g3:=O 3 Od;rw[an 1]at g3;have g4:=O 4 Od;rw[ak 2]at g4;have g5:=O 5 Od;rw[an 2]at g5;have g6:=O 6 Od;rw[ak 3]at g6;have g7:=O 7 Od;rw[an 3]at g7;obtain⟨vs,evs⟩:∃vs,vs=[Value.slice (AA 0) (leT Q 0 i) (CC 0),.slice (AA 1) (upN (leT Q 0 i) 8) (CC 1),.slice (AA 2) (leT Q 1 i) (CC 2),.slice (AA 3) (upN (leT Q 1 i) 8) (CC 3),.slice (AA 4) (leT Q 2 i) (CC 4),.slice (AA 5) (upN (leT Q 2 i) 8) (CC 5),.slice (AA 6) (leT Q 3 i) (CC 6),.slice (AA 7) (upN (leT Q 3 i) 8) (CC 7)]:=⟨_,rfl⟩
   have bd:CellsAt w4 rb 0 vs:=by
    intro m v H;rw[evs]at H
    match m,H with
    | 0,H=>cases H;exact hv 0 Od _ g0.symm
    | 1,H=>cases H;exact hv 1 Od _ g1.symm
    | 2,H=>cases H;exact hv 2 Od _ g2.symm
    | 3,H=>cases H;exact hv 3 Od _ g3.symm
    | 4,H=>cases H;exact hv 4 Od _ g4.symm
    | 5,H=>cases H;exact hv 5 Od _ g5.symm
    | 6,H=>cases H;exact hv 6 Od _ g6.symm
    | 7,H=>cases H;exact hv 7 Od _ g7.symm
    | m+8,H=>cases H
   have be:∀v∈vs,v.oneCell'=true:=by
    rw[evs];simp[Value.oneCell']
   have bf:vs.length=8:=by rw[evs];rfl
   have bt:=aa.sep.ext.get aq;rw[evs]at bd;refine LoadA.cells bd rfl (zw ?_);rw[<-evs];refine StoreA.blk bt (by rw[bf];exact Ao _) be ?_;intro w5 af a2;have bu:r2<w1.heap.size:=qb1 aq;have au:∀m (H:m<8),∀k∈rowF (G4 m),w5.heap[k]?=w4.heap[k]?:=λm H k hk=>by
    have:=aa.sep.at_ (qkx [] rb G4 H) k hk;exact af.block k this.2 λg=>by rw[Ac.1 g]at this;omega
   have a2:w5.heap[r2]?=some (.cells vs.toArray 332):=by
    rw[a2]
    congr 3
    rw[bf];simp
   refine qk (R:=λr w'=>qaav Q i w w' r/\Ext w w') ?_;have bg:=CellsAt.heap a2;rw[evs]at bg;refine LoadA.cells bg rfl (zw ?_);refine⟨⟨λj=>AA (2*j),λj=>AA (2*j+1),λj=>CC (2*j),λj=>CC (2*j+1),rfl,λj hj=>?_,λj h0 hj=>?_,λj hj x hx=>?_⟩,af.ext (al.trans aa.sep.ext) λk hk=>by rw[Ac.1 hk];exact a5⟩
   ·have hr:=qam (aa.row (2*j) Oo) (au (2*j) Oo);rw[O (2*j) Oo,qfi,qdm,qpr]at hr;exact qqd hr rfl
   ·have hr:=qam (aa.row (2*j+1) Oo) (au (2*j+1) Oo);rw[O (2*j+1) Oo,qh5 h0 hj,qaq,qkf,q9x Q Oo]at hr;obtain⟨A',c',e1,_,h2⟩:=qs5 hr;cases e1;exact h2
   ·have bh:∀m (H:m<8),∀x∈rowF (G4 m),w.heap.size<=x/\x<w5.heap.size:=λm H x hx=>by
     have h1:=aa.sep.at_ (qkx [] rb G4 H) x hx;have h2:=al.size;have h3:=af.size;omega
    rcases AJ.1 hx with hx|hx
    ·exact bh (2*j) Oo x (by rw[O (2*j) Oo,qel _ _ _ 0 0];exact hx)
    ·exact bh (2*j+1) Oo x (by rw[O (2*j+1) Oo,qel _ _ _ 0 0];exact hx)
theorem q0r(H:Do)(A:oA)(n c:Nat)(w:Dd)(hS:SlAt encU 1 w A H)(hn:H.length=n)(h0:0<n)(hl:n<=140737488355328):
  Gv Dp 191 [.slice A n c] w λr w'=>r=.int .u64 (mxN (λi=>H.getD i 0) n:Nat)/\w'=w:=by
 have hg:∀i (hi:i<H.length),H.getD i 0=H[i]:=λi hi=>by rw[Ag,zge hi];rfl
 refine ze Tryz.func191 Tryz.ntmps191 ?_;refine zv ?_;refine ElemV.sl hS hn 0 rfl h0 ?_;intro eb eo W;refine LoadV.cell0 W ?_;refine qn (λi:Nat=>[(0,.slice A n c),(3,.int .u64 (mxN (λi=>H.getD i 0) (i+1):Nat)),(4,ii (i+1:Nat))]) (λi w'=>i+1<=n/\w'=w) (λi=>n-i) 0 ⟨rfl,Ae (λk:Nat=>Value.int .u64 k) (by simp only[mxN];rw[hg 0 Oo];omega),rfl,trivial⟩ ⟨by omega,rfl⟩ ?_;rintro i w1 aa ⟨i1,rfl⟩;(conv=>whnf);refine zC (λ_=>zw ?_) (λ_=>zw ?_)
 ·refine ElemV.sl hS hn (i+1) Oo Oo ?_;intro ab ac O;refine LoadV.cell0 O ?_;refine V.Fall.max2 rfl rfl rfl λm hm=>?_;have em:m=((mxN (λi=>H.getD i 0) (i+1+1):Nat):Int):=by
   have e1:mxN (λi=>H.getD i 0) (i+1+1)=max (mxN (λi=>H.getD i 0) (i+1)) (H.getD (i+1) 0):=rfl;rw[hm,e1,hg (i+1) Oo];omega
  rw[em];refine zu ?_;exact⟨i+1,⟨rfl,rfl,Ae (Value.int .i64) Oo,trivial⟩,⟨by omega,rfl⟩,by omega⟩
 ·obtain rfl:i+1=n:=by omega
  exact⟨rfl,rfl⟩
theorem qabu(l:Do)(h:∀x∈l,x<18446744073709551616):qaf (mxN (λi=>(0::l).getD i 0) (l.length+1))=wiT l:=by
 have H:∀i,l.getD i 0<18446744073709551616:=λi=>by
  rw[Ag]
  rcases AM i l.length with g|g
  ·rw[zge g];exact h _ (AP g)
  ·rw[AS g];decide
 have e:∀k,mxN (λi=>(0::l).getD i 0) (k+1)=mxN (λi=>l.getD i 0) k:=by
  intro k
  induction k with
  | zero=>rfl
  | succ k O=>rw[mxN,O];rfl
 rw[e,wiT];exact qt6 λi _=>⟨H i,rfl⟩
def trW(Q:Nat->Nat->Nat)(n:Nat):Nat->LB
 | 0=>[]
 | k+1=>trW Q n k++varL (leT Q k n)
def trX(Q:Nat->Nat->Nat)(n:Nat):Nat->LB
 | 0=>trW Q n 4
 | k+1=>trX Q n k++lvB Q n k
theorem q96(Q:Nat->Nat->Nat)(n:Nat):trX Q n 4=qm Q n:=by
 simp only[trX,trW,qm,tlB,Bt,Au,By]
section
variable {Q:Nat->Nat->Nat} {n:Nat} (h:TOk Q n)
include h
theorem q6q(k:Nat):(trW Q n k).length<=10*k:=by
 induction k with
 | zero=>exact Ao _
 | succ k H=>
  have O:=h.le k;have W:=qbd 9 (leT Q k n) Oo;rw[trW,zla];omega
theorem qabs(O:k<4):(lvB Q n k).length<=1100000000:=by
 have W:=h.lvLen (k:=k);have h2:=h.le k;have h3:=h.wi O;have h4:leT Q k n*wiT (nuT Q k n)<=1048576*23:=Bz h2 h3;have h5:=h.le (k-1);rw[W];have h6:k≠0->qa7 (leT Q k n) (leT Q (k-1) n)<=1000000000:=λH=>qrf _ _ Oo (by
  have:=qn5 (Q:=Q) (k-1) n;rw[BE Oo]at this;exact this)
 split
 ·omega
 ·rename_i H;have:=h6 H;omega
theorem qacu(O:k<=4):(trX Q n k).length<=40+1100000000*k:=by
 induction k with
 | zero=>exact q6q h 4
 | succ k H=>
  have W:=H Oo;have h2:=qabs h (k:=k) Oo;rw[trX,zla];omega
end
def tbR(NA LA:Nat->oA):Do:=(List.range 4).flatMap λj=>rowF (.slice (NA j) 0 0)++rowF (.slice (LA j) 0 0)
theorem qjr{NA LA:Nat->oA}{x:Nat}:x∈tbR NA LA↔∃j,j<4/\x∈rowF (.slice (NA j) 0 0)++rowF (.slice (LA j) 0 0):=by
 rw[tbR,List.mem_flatMap]
 constructor
 ·rintro⟨j,H,O⟩;exact⟨j,B7.1 H,O⟩
 ·rintro⟨j,H,O⟩;exact⟨j,B7.2 H,O⟩
structure TbS(Q:Nat->Nat->Nat)(n:Nat)(w0 w:Dd)(b rb:Nat)(l:LB)(vs:Dn)(NA LA:Nat->oA)(Z:Do):Prop where
 h:∃F,Sep w0 w [F,[rb],tbR NA LA,Z]/\BufAt w b 67108864 l F
 cells:CellsAt w rb 0 vs
 num:∀j,j<4->SlAt encU 1 w (NA j) (nuT Q j n)
 lst:∀j,0<j->j<4->SlAt encB 1 w (LA j) (qay (stT Q (j-1) n))
theorem V.CellsAt.keep(h:CellsAt w b off vs)(H:w'.heap[b]?=w.heap[b]?):CellsAt w' b off vs:=λk v O=>by
 rw[<-h k v O,World.cell?_of_block];exact H
section
variable {Q:Nat->Nat->Nat} {n:Nat} {w0 w w':Dd} {b rb:Nat} {l:LB} {vs:Dn} {NA LA:Nat->oA} {Z:Do}
theorem TbS.call(h:TbS Q n w0 w b rb l vs NA LA Z)(H:Ext w w'):TbS Q n w0 w' b rb l vs NA LA Z:=
 ⟨h.h.elim λF h=>⟨F,h.1.call H,h.2.call H⟩,h.cells.ext H,λj O=>(h.num j O).ext H,λj W O=>(h.lst j W O).ext H⟩
theorem V.Sep.join{A B:Do}(h:Sep w0 w (A::B::Fs)):Sep w0 w ((A++B)::Fs):=by
 have W:=AV.1 h.ap;have h2:=AV.1 W.2;refine⟨h.ext,λF O k H=>?_,AV.2 ⟨λG hG k H=>?_,h2.2⟩⟩
 ·rcases Aw.1 O with rfl|O
  ·rcases AJ.1 H with H|H
   ·exact h.lo A mh k H
   ·exact h.lo B (zmc mh) k H
  ·exact h.lo F (zmc (zmc O)) k H
 ·rcases AJ.1 H with H|H
  ·exact W.1 G (zmc hG) k H
  ·exact h2.1 G hG k H
theorem TbS.addZ(h:TbS Q n w0 w b rb l vs NA LA Z)(H:Ext w w'){Y:Do}(W:∀k∈Y,w.heap.size<=k/\k<w'.heap.size):TbS Q n w0 w' b rb l vs NA LA (Y++Z):=by
 obtain⟨F,h1,h2⟩:=h.h;have h3:=((h1.add H W).perm ((BF Z [F,[rb],tbR NA LA]).cons Y)).join;exact⟨⟨F,h3.perm (BF (Y++Z) [F,[rb],tbR NA LA]).symm,h2.call H⟩,h.cells.ext H,λj O=>(h.num j O).ext H,λj h0 O=>(h.lst j h0 O).ext H⟩
theorem TbS.step(h:TbS Q n w0 w b rb l vs NA LA Z){l':LB}(hc:∀F,BufAt w b 67108864 l F->Gv P f args w λr w'=>r=.tuple #[]/\BufC w w' b 67108864 l' F):
  Gv P f args w λr w'=>r=.tuple #[]/\TbS Q n w0 w' b rb l' vs NA LA Z/\∀k∈Z,w'.heap[k]?=w.heap[k]?:=by
 obtain⟨F,h1,h2⟩:=h.h;refine(hc F h2).mono ?_;rintro r w' ⟨e,hB⟩;obtain⟨F',W,h4⟩:=h1.buf (i:=0) rfl hB;have hk:=W.keep 2 _ rfl Od;refine⟨e,⟨⟨F',W.sep,h4⟩,h.cells.keep (W.keep 1 _ rfl Od rb (Ac.2 rfl)),λj O=>(h.num j O).keep λk H=>hk k (qjr.2 ⟨j,O,Am _ H⟩),λj h0 O=>(h.lst j h0 O).keep λk H=>hk k (qjr.2 ⟨j,O,Aa _ H⟩)⟩,W.keep 3 _ rfl Od⟩
end
theorem q1c(l:Do):(l.map encU).flatten=u64V l:=by
 induction l with
 | nil=>rfl
 | cons x l H=>rw[AF,BR,H];rfl
theorem qabz{n:Nat}(h:TOk Q n)(W:k<4):∀x∈nuT Q k n,x<2 ^ wiT (nuT Q k n):=λx hx=>by
 obtain⟨e,H,rfl⟩:=BK.1 hx;have O:=qzh (h.big W) (e:=e) H;rw[Ag,zge H]at O;exact O
theorem qv1(Q:Nat->Nat->Nat)(A:oA)(n c:Nat)(w:Dd)(hS:SlAt idsE 4 w A ((List.range n).map Q))(hQ:TOk Q n):
  Gv Dp 113 [.slice A n c,ii 67108864] w λr w'=>(67108864<(qm Q n).length/\r=.tuple #[.slice none 0 0,ii 1]/\Ext w w')\/((qm Q n).length<=67108864/\∃v,r=.tuple #[v,ii 0]/\NewS 5 w w' v (qm Q n)):=by
 have cf:=hQ.nle;have a3:=hQ.le;have ad:=λ{k:Nat} (hk:k<4)=>hQ.big hk
 have t2:tsz Dp 331=2:=by kernel_rfl
 have a4:∀k,k<4->∀x∈nuT Q k n,x<18446744073709551616:=λk hk x hx=>by
  obtain⟨i,hi,rfl⟩:=qg5 hx;exact ad hk i hi
 have bv:=q6q hQ;have bw:=λ{k:Nat} (hk:k<=4)=>qacu hQ hk
 refine ze Tryz.func113 Tryz.ntmps113 ?_;refine zcv (qv2 Q A n c w hS hQ) ?_;rintro r w1 ⟨rfl,av⟩;refine zu ?_;refine zcv (qef 67108864 w1) ?_;rintro r w2 ⟨b,rfl,a5,bz,hB⟩;have aa:Sep w1 w2 [[b]]:=(Sep.of (Ext.refl w1)).add a5 λk hk=>by rw[Ac.1 hk];exact⟨bz,hB.lt b (Ac.2 rfl)⟩
 (conv=>whnf);refine zcv (q4h Q A n c w2 (hS.ext (av.trans a5)) hQ) ?_;rintro r w3 ⟨b0,a6⟩;obtain⟨NA,LA,NC,LC,rfl,hN,hL,a7⟩:=b0;have aa:=aa.add (F:=tbR NA LA) a6 λk hk=>by
  obtain⟨j,hj,hx⟩:=qjr.1 hk;exact a7 j hj k hx
 have hB:=hB.call a6;clear a7;obtain⟨vs,evs⟩:∃vs,vs=[Value.slice (NA 0) (leT Q 0 n) (NC 0),.slice (LA 0) (upN (leT Q 0 n) 8) (LC 0),.slice (NA 1) (leT Q 1 n) (NC 1),.slice (LA 1) (upN (leT Q 1 n) 8) (LC 1),.slice (NA 2) (leT Q 2 n) (NC 2),.slice (LA 2) (upN (leT Q 2 n) 8) (LC 2),.slice (NA 3) (leT Q 3 n) (NC 3),.slice (LA 3) (upN (leT Q 3 n) 8) (LC 3)]:=⟨_,rfl⟩
 have cg:vs.length=8:=by rw[evs];rfl
 have cc:∀v∈vs,v.oneCell'=true:=by rw[evs];simp[Value.oneCell']
 have ae:∀k,k<4->(vs.drop (k*2)).take 2=[.slice (NA k) (leT Q k n) (NC k),.slice (LA k) (upN (leT Q k n) 8) (LC k)]:=λk hk=>by
  rw[evs]
  rcases(show k=0\/k=1\/k=2\/k=3 by omega)with rfl|rfl|rfl|rfl<;>rfl
 (conv=>whnf);refine⟨λrb w4 a8 aw=>?_⟩;have ah:Ext w3 w4:=by rw[aw];exact(Ext.refl w3).alloc _
 obtain⟨aa,a9⟩:=aa.new a8 aw;have hB:=hB.call ah;clear a8 aw;refine StoreA.blk a9 (Ao 8) (by simp[Value.oneCell']) ?_;intro w5 ba af;have ai:=aa.row (i:=0) (F':=[rb]) rfl ba λj hj=>⟨.inl hj,by rw[Ac.1 hj];exact qb1 af⟩
 have af:w5.heap[rb]?=some (.cells vs.toArray 332):=by
  rw[evs,af];rfl
 have ax:=ai.keep 1 _ rfl Od;have H:TbS Q n w1 w5 b rb (trW Q n 0) vs NA LA []:=⟨⟨[b],((ai.sep.perm (BF [b] [[rb],tbR NA LA])).add (F:=[]) (Ext.refl w5) (λk hk=>by cases hk)).perm (BF [] [[b],[rb],tbR NA LA]).symm,hB.keep (ai.keep 2 _ rfl Od)⟩,CellsAt.heap af,λj hj=>((hN j hj).ext ah).keep λk hk=>ax k (qjr.2 ⟨j,hj,Am _ hk⟩),λj h0 hj=>((hL j h0 hj).ext ah).keep λk hk=>ax k (qjr.2 ⟨j,hj,Aa _ hk⟩)⟩
 clear aa hN hL hB a9 ba ai af ax ah;have ac:=H.cells;rw[evs]at ac;refine LoadA.cells ac rfl ?_;clear ac;refine qn (λk:Nat=>[(7,pp b),(8,pp rb),(27,.agg vs.toArray),(28,ii k)]) (λk w'=>k<=4/\∃Z,TbS Q n w1 w' b rb (trW Q n k) vs NA LA Z) (λk=>4-k) 0 ⟨rfl,rfl,(by rw[evs];rfl),rfl,trivial⟩ ⟨by omega,_,H⟩ ?_;clear H;rintro k w6 ci ⟨k1,Z,H⟩;(conv=>whnf);refine zC (λ_=>zu ?_) (λ_=>zu ?_)
 ·have W:k<4:=by omega
  have bb:=a3 k;have cj:=bv k;refine⟨[.slice (NA k) (leT Q k n) (NC k),.slice (LA k) (upN (leT Q k n) 8) (LC k)],(by rw[t2];exact ae k W),?_⟩;refine znm (Mem.nil w6) ?_;intro pb w7 hm;refine StoreA.all (vs:=[.slice (NA k) (leT Q k n) (NC k),.slice (LA k) (upN (leT Q k n) 8) (LC k)]) hm (i:=0) rfl rfl (by simp[Value.oneCell']) ?_;intro w8 hm;have H:=H.call hm.ext;refine zr hm 0 ?_;refine zv ?_;refine zcv (H.step λF hF=>qbr b 67108864 _ (leT Q k n) F w8 hF Oo Od Oo) ?_;rintro r w9 ⟨rfl,H,_⟩;refine zu ?_;exact⟨k+1,fq,⟨by omega,_,H⟩,by omega⟩
 ·obtain rfl:k=4:=by omega
  have ac:=H.cells;rw[evs]at ac;refine LoadA.cells ac rfl ?_;clear ac;refine qn (λk:Nat=>[(7,pp b),(38,.agg vs.toArray),(39,ii k)]) (λk w'=>k<=4/\∃Z,TbS Q n w1 w' b rb (trX Q n k) vs NA LA Z) (λk=>4-k) 0 ⟨rfl,(by rw[evs];rfl),rfl,trivial⟩ ⟨by omega,_,H⟩ ?_;clear H;rintro k w6 ck ⟨k2,Z2,H⟩;have b1:=bw k2;(conv=>whnf);refine zC (λ_=>zu ?_) (λ_=>zu ?_)
  ·have W:k<4:=by omega
   have bb:=a3 k;have bc:=hQ.wi W;have bd:leT Q k n*wiT (nuT Q k n)<=1048576*23:=Bz bb bc;have aj:=qby (nuT Q k n) (wiT (nuT Q k n));have ab:(nuT Q k n).length=leT Q k n:=rfl;obtain⟨wi,ak⟩:∃wi,wi=wiT (nuT Q k n):=⟨_,rfl⟩
   obtain⟨pk,al⟩:∃pk,pk=qc3 (nuT Q k n) wi:=⟨_,rfl⟩
   rw[ab]at aj;rw[<-ak]at bd bc aj;rw[<-al]at aj;obtain⟨lw,be⟩:∃lw,lw=leT Q k n*wi:=⟨_,rfl⟩
   rw[<-be]at bd aj;refine⟨[.slice (NA k) (leT Q k n) (NC k),.slice (LA k) (upN (leT Q k n) 8) (LC k)],(by rw[t2];exact ae k W),?_⟩;refine znm (Mem.nil w6) ?_;intro pb w7 hm;refine StoreA.all (vs:=[.slice (NA k) (leT Q k n) (NC k),.slice (LA k) (upN (leT Q k n) 8) (LC k)]) hm (i:=0) rfl rfl (by simp[Value.oneCell']) ?_;intro w8 hm;have H:=H.addZ hm.ext (Y:=[pb]) λx hx=>by rw[Ac.1 hx];exact⟨(hm.own _ mh).1,hm.lt mh⟩
   have O:CellsAt w8 pb 0 [.slice (NA k) (leT Q k n) (NC k),.slice (LA k) (upN (leT Q k n) 8) (LC k)]:=CellsAt.mem hm mh;clear hm;(conv=>whnf);refine⟨λzb w9 bf ay=>?_⟩;have am:Ext w8 w9:=by rw[ay];exact(Ext.refl w8).alloc _
   have bg:w9.heap[zb]?=some (.cells #[.int .u64 0] 164):=by rw[ay,bf];exact heap_alloc_new w8 _
   have bh:w8.heap.size<=zb:=by omega
   clear bf ay;refine LoadV.cell0 (O.ext am) (zw ?_);have bi:w9.ownsRow 0 164 1 (.slice (some ⟨zb,0,none⟩) 1 1) 1 [.int .u64 0]:=⟨rfl,.inr ⟨zb,1,_,rfl,An _,bg,Ao _,by decide,rfl,rfl⟩⟩
   refine AppV.row (size:=1) (news:=u64V (nuT Q k n)) qaad u64I u64Z Jk rfl Od bi (by rw[qdm,ab];exact(Bw _).symm) (λbk=>?_) (λu hu=>?_) (by rw[show((Dp.info? 164).get Jk).bytes=8 from by kernel_rfl];omega) Oo ?_
   ·obtain⟨g,o,h1,h2⟩:=((H.num k W).ext am).at_ (by intro e;rw[e]at bk;exact bk rfl);exact⟨g,o,h1,by rw[<-q1c];exact qfl (enc:=encU) (size:=1) Od (λ_=>rfl) h2⟩
   ·obtain⟨y,_,rfl⟩:=AG.1 hu;rfl
   intro A' c' az ho bl _;have aq:Ext w8 az:=bl.ext am λx hx=>by rw[Ac.1 hx];exact bh
   have H:=H.call aq;have O:=O.ext aq;clear am bi bg bh bl;have bm:mxN (λi=>(0::nuT Q k n).getD i 0) (leT Q k n+1)<18446744073709551616:=qzf Od λi hi=>by
    rw[Ag]
    rcases AM i (0::nuT Q k n).length with g|g
    ·rw[zge g]
     rcases Aw.1 (AP g)with e|e
     ·rw[BY,e];decide
     ·exact a4 k W _ e
    ·rw[AS g];decide
   have a0:=qabu (nuT Q k n) (a4 k W);rw[ab,<-ak]at a0;have b2:SlAt encU 1 az A' (0::nuT Q k n):=qqd (n:=1+leT Q k n) (c:=c') ho (by rw[AH,ab];omega);obtain⟨mx,bn⟩:∃mx,mx=mxN (λi=>(0::nuT Q k n).getD i 0) (leT Q k n+1):=⟨_,rfl⟩
   have bo:=q0r (0::nuT Q k n) A' (1+leT Q k n) c' az b2 (by rw[AH,ab];omega) Oo Oo;rw[show 1+leT Q k n=leT Q k n+1 by omega,<-bn]at bo;rw[<-bn]at bm a0;rw[show 1+leT Q k n=leT Q k n+1 by omega];(conv=>whnf);refine zcv (bo) ?_;rintro r b3 ⟨rfl,rfl⟩;(conv=>whnf);refine zcv (qgi mx b3 bm) ?_;rintro r b4 ⟨rfl,rfl⟩;rw[a0];refine LoadV.cell0 O (zw ?_);refine zcv (qs6 (nuT Q k n) wi (NA k) (leT Q k n) (NC k) b4 (H.num k W) rfl Oo (by rw[<-be];omega) (by rw[ak];exact qabz hQ W) Oo) ?_;rintro r b5 ⟨vp,rfl,an⟩;obtain⟨Ap,cp,ep,_,ao⟩:=an.bs;subst ep;rw[<-al]at ao;have H:=H.addZ an.ext (Y:=rowF (.slice Ap 0 0)) λx hx=>an.lo x (by rw[qel _ _ _ 0 0];exact hx)
   have O:=O.ext an.ext;refine zu ?_;rw[<-al];refine zcv (H.step λF hF=>q2e b 67108864 _ wi F b5 hF Oo Od Oo) ?_;rintro r b6 ⟨rfl,H,ar⟩;have ao:=ao.keep λx hx=>ar x (Am _ hx)
   have O:=O.keep (ar pb (Aa _ (Am _ (Ac.2 rfl))));(conv=>whnf);refine zcv (H.step λF hF=>qcr b 67108864 _ pk F Ap pk.length cp b6 hF ao rfl Od (by rw[zla,Bv];omega)) ?_;rintro r b7 ⟨rfl,H,bp⟩;have O:=O.keep (bp pb (Aa _ (Am _ (Ac.2 rfl))));have ag:lvB Q n k=UInt8.ofNat wi::(pk++(if k=0 then[]else qac (qay (stT Q (k-1) n)) (leT Q k n))):=by rw[lvB,al,ak]
   (conv=>whnf);refine zC (λ_=>zu ?_) (λ_=>zu ?_)
   ·have b8:0<k:=by omega
    rw[Ab Oo]at ag;have bq:(stT Q (k-1) n).length=leT Q k n:=by rw[qbm,BE Oo]
    have a1:(qay (stT Q (k-1) n)).length=upN (leT Q k n) 8:=by rw[qcd,bq]
    have au:=qn3 (stT Q (k-1) n);rw[bq]at au;refine LoadV.of (O 1 _ rfl) ?_;refine LoadV.cell0 O (zw ?_);refine zcv (qvc (qay (stT Q (k-1) n)) (LA k) (upN (leT Q k n) 8) (LC k) (leT Q k n) b7 (H.lst k b8 W) a1 a1 Oo au) ?_;rintro r b9 ⟨vv,rfl,br⟩;obtain⟨Av,cv,ev,_,bt⟩:=br.bs;subst ev;have H:=H.call br.ext;obtain⟨wl,a2⟩:∃wl,wl=qac (qay (stT Q (k-1) n)) (leT Q k n):=⟨_,rfl⟩
    have ce:wl.length<=1000000000:=by
     have ca:=qn5 (Q:=Q) (k-1) n;rw[BE Oo]at ca;have hc:cnt (qay (stT Q (k-1) n)) (leT Q k n)<=leT Q k n:=qdv _ _;rw[a2,qct a1];exact qrf _ _ Oo hc
    rw[<-a2]at bt ag;rw[<-a2];refine zcv (H.step λF hF=>qcr b 67108864 _ wl F Av wl.length cv b9 hF bt rfl Od (by simp only[zla,Bv];omega)) ?_;rintro r cm ⟨rfl,H,_⟩;have e:trX Q n k++[UInt8.ofNat wi]++pk++wl=trX Q n (k+1):=by rw[trX,ag];simp
    rw[e]at H;refine zu ?_;exact⟨k+1,fq,⟨by omega,_,H⟩,by omega⟩
   ·rw[Af Oo]at ag;have e:trX Q n k++[UInt8.ofNat wi]++pk=trX Q n (k+1):=by rw[trX,ag];simp
    rw[e]at H;exact⟨k+1,fq,⟨by omega,_,H⟩,by omega⟩
  ·obtain rfl:k=4:=by omega
   rw[q96]at H b1;obtain⟨F,aa,hB⟩:=H.h;refine zcv (qcj b 67108864 _ F w6 hB Oo) ?_;rintro r w7 (⟨ad,rfl,rfl⟩|⟨bu,v,rfl,hN⟩)
   ·(conv=>whnf);exact .inl ⟨ad,rfl,av.trans aa.ext⟩
   ·obtain⟨A9,c9,cb,_⟩:=id hN.h;subst cb;(conv=>whnf);exact .inr ⟨bu,_,rfl,hN.back (av.trans aa.ext)⟩
theorem q8x{α:Type}{O:α->Dn}{H:Nat}(W:∀x,(O x).length=H){n:Nat}{l:List α}(h:w.ownsRow base e H (.slice A n c) n ((l.map O).flatten))(hn:l.length=n):SlAt O H w A l:=by
 subst hn;refine⟨λaa=>?_⟩
 rcases h.2 with⟨e1,e2⟩|⟨g,ab,ac,e1,_,h2,_,_,h5,h6⟩
 ·exact absurd (AK e2) aa
 ·cases e1;refine⟨g,0,rfl,λj x hx k v hv=>?_⟩;have hj:=(Ad.1 hx).1;have hk:k<H:=by rw[<-W x];exact(Ad.1 hv).1
  have h7:=qbv O H W l j x k hx hk;have h8:j*H+k<l.length*H:=by
   have:(j+1)*H<=l.length*H:=Bd _ hj;rw[Ch]at this;omega
  rw[<-h6,Bn,Af h8,hv]at h7;rw[qa h2,Aq]
  simpa using h7
theorem q3b(q:Nat->Nat):(idsE q).length=4:=rfl
def qnx(T:List TM)(qs:List Q4)(i:Nat):Dn:=(((List.range i).map (noQ T qs)).map idsE).flatten
theorem qpz(T:List TM)(qs:List Q4){q:Q4}(h:qs[i]?=some q):qnx T qs (i+1)=qnx T qs i++idsE λk=>noT T (gat q k):=by
 have e:noQ T qs i=λk=>noT T (gat q k):=funext λk=>qhs h
 simp[qnx,Cg,e]
def hdN(a b c d:Nat):Do:=[1095914324,1,a,b,c,d]
def fxL(H:Do):LB:=(H.map λn=>fixL n 4).flatten
theorem q7y(H:Do):(fxL H).length=4*H.length:=by
 induction H with
 | nil=>rfl
 | cons n H O=>rw[fxL,AF,BR,zla,qh];rw[fxL]at O;rw[O,AH];omega
theorem q26(H:Do)(h:i<H.length):fxL (H.take (i+1))=fxL (H.take i)++fixL H[i] 4:=by
 rw[Bu,zge h,fxL,fxL,Ba,Cm];simp
theorem q7x(a b c d:Nat):fxL (hdN a b c d)=h24 a b c d:=by simp[fxL,hdN,h24]
def ptL(H:List LB):LB:=(H.map λp=>p++sumL p).flatten
theorem q38(H:List LB)(h:i<H.length):ptL (H.take (i+1))=(ptL (H.take i)++H[i])++sumL H[i]:=by
 rw[Bu,zge h,ptL,ptL,Ba,Cm];simp
theorem q39(a b:Nat)(V T:LB):ptL [h24 a b V.length T.length,V,T]=qcw a b V T:=by
 simp[ptL,qcw]
def EncR(qs:List Q4)(H:Int)(w w':Dd)(r:Di):Prop:=
 (encE qs H≠0/\r=.tuple #[.slice none 0 0,ii (encE qs H:Nat)]/\Ext w w')\/(encE qs H=0/\∃v,r=.tuple #[v,ii 0]/\NewS 5 w w' v (pkB qs))
theorem qui(qs:List Q4)(A:oA)(n c:Nat)(O:Int)(w:Dd)(hS:SlAt qe 16 w A qs)(hn:qs.length=n)(hb:n<=140737488355328)(_:InR .i64 O)(hq:∀q∈qs,qap q)(hM:MaxLenAt w)(hT:CellsAt w 4 0 qa3)(bb:CellsAt w 3 0 qg4)(_:ErrTyp w):
  Gv Dp 55 [.slice A n c,ii O] w λr w'=>EncR qs O w w' r:=by
 refine ze Tryz.func55 Tryz.ntmps55 ?_;refine zcv (qv9 qs A n c w hS hn hb hq hM hT) ?_;rintro r w1 (⟨e,h0,he,rfl,bu⟩|⟨hv,ag,an,v,rfl,hN⟩)
 ·have bc:encE qs O=e:=by
   have cf:=qqg qs;rw[he]
   by_cases c1:valE qs≠0
   ·rw[Af c1,qsd c1]
   ·rw[Ab c1]
    by_cases c2:qc5 (tmsQ qs)≠0
    ·rw[Af c2,qse Oo c2]
    ·rw[Ab c2];rw[Ab c1,Ab c2]at he
     by_cases c3:67108864<(vocB (tmsQ qs)).length
     ·rw[Af c3,qic Oo Oo (.inr Oo)]
     ·rw[Ab c3]at he;exact absurd he h0
  refine zu ?_;exact .inl ⟨by rw[bc];exact h0,by rw[bc],bu⟩
 have bd:=qmx hv;have af:=qtx hv bd;obtain⟨T,eT⟩:∃T,T=tmsQ qs:=⟨_,rfl⟩
 have ae:∀t∈T,qa2 t=0/\1<=t.kind/\t.kind<=3:=λt ht=>qda hv (by rw[<-eT];exact ht)
 have ah:RiseT T:=by rw[eT];exact qd9 qs
 rw[<-eT]at ag an hN bd af;have a4:VOk T:=⟨λk hk=>qfo (qk6 ag k hk),A6 (q6b _ _ _) an⟩
 have cg:=af.len;obtain⟨Av,cv,ev,bv,be⟩:=hN.bs;subst ev;refine zu ?_;refine zcv (qk7 (vocB T) Av cv w1 be bv Oo a4.wE) ?_;rintro r w2 ⟨⟨vb,rfl,hV⟩,a5⟩;(conv=>whnf);refine qn (λx:Nat×oA×Nat=>[(0,.slice A n c),(1,ii O),(6,.slice Av (vocB T).length cv),(8,pp vb),(10,.slice x.2.1 x.1 x.2.2),(37,.slice A n c),(38,ii n),(39,ii x.1)])
  (λx w'=>x.1<=n/\Rw w2 w' (.slice x.2.1 x.1 x.2.2) 95 4 x.1 (qnx T qs x.1) []) (λx=>n-x.1) (0,none,0) fq ⟨An _,Rw.nil (Mem.nil w2)⟩ ?_
 rintro⟨i,B,d⟩ w3 ci ⟨i1,W⟩;dsimp only at i1 W|-;have ao:=hN.ext.trans (a5.trans W.mem.ext);(conv=>whnf);refine zC (λ_=>zw ?_) (λ_=>zw ?_)
 ·have bf:i<qs.length:=by omega
  have bg:qs[i]?=some qs[i]:=zge bf;have a6:=AP bf;obtain⟨q,eq⟩:∃q,q=qs[i]:=⟨_,rfl⟩
  rw[<-eq]at bg a6;have bw:∀k,k<4->gat q k∈T\/gat q k=zTM:=λk hk=>(af.mem q a6 k hk).imp id λg=>g.2.2
  refine ElemV.sl (hS.ext ao) hn i rfl Oo ?_;intro eb eo ai;rw[<-eq]at ai;refine LoadA.cells ai rfl ?_;refine NewV.rw W ?_;clear W;intro nb w4 W;refine StoreA.rwAll (vs:=qe q) W rfl (qa8 _) ?_;clear W;intro w5 W;have W:Rw w2 w5 (.slice B i d) 95 4 i (qnx T qs i) [(nb,.cells (qe q).toArray 47)]:=W;refine zL W.mem 0 ?_;have aj:=hN.ext.trans (a5.trans W.mem.ext);refine zcv (q5k T a4 ah (λt ht=>(ae t ht).2) (λt ht=>(ae t ht).1) vb q bw (hq q a6) w5 (hV.ext W.mem.ext) (hM.ext aj) (hT.ext aj)) ?_;rintro r w6 ⟨rfl,ak⟩;have W:=W.call ak;refine NewV.rw W ?_;clear W;intro ck w7 W;refine StoreA.rwAll (vs:=idsE λk=>noT T (gat q k)) W rfl (qid _) λw8 W=>zw ?_;refine zL W.mem 0 ?_;refine NewV.rw W λbz w9 W=>zw ?_;refine AppV.rw (m:=1) (news:=idsE λk=>noT T (gat q k)) qac9 idsI idsZ Jk Jk Od W rfl (λ_=>⟨bz,0,rfl,λk v hv=>?_⟩) (qid _) (by rw[show((Dp.info? 95).get Jk).bytes=32 from by kernel_rfl];omega) Oo ?_
  ·rw[qa (W.mem.get mh),Aq];rw[<-hv];simp[idsE]
  clear W;intro B2 d2 aq W;rw[<-qpz T qs bg]at W;refine zu ?_;exact⟨(i+1,B2,d2),⟨rfl,rfl,rfl,rfl,rfl,rfl,rfl,Ae (Value.int .i64) Oo,trivial⟩,⟨by show i+1<=n;omega,W.tail.tail.tail⟩,by show n-(i+1)<n-i;omega⟩
 ·obtain rfl:i=n:=by omega
  have ay:SlAt idsE 4 w3 B ((List.range i).map (noQ T qs)):=q8x q3b W.own Js;have bh:TOk (noQ T qs) i:=by rw[<-hn];exact af.tok
  have az:(pkB qs).length=(vocB T).length+(qm (noQ T qs) i).length+36:=by rw[qqg,<-eT,hn]
  refine zcv (qv1 (noQ T qs) B i d w3 ay bh) ?_;rintro r w4 (⟨a0,rfl,al⟩|⟨bi,v,rfl,ar⟩)
  ·refine zu ?_;have e1:=qic (qs:=qs) (most:=O) hv (by rw[<-eT];exact ag) (.inr Oo);exact .inl ⟨by rw[e1];decide,by rw[e1];rfl,ao.trans al⟩
  obtain⟨At,ct,et,cl,bj⟩:=ar.bs;subst et;have al:=ao.trans ar.ext;have a1:=be.ext (a5.trans (W.mem.ext.trans ar.ext));have b0:=hV.ext (W.mem.ext.trans ar.ext);clear W ay ao;obtain⟨X,eX⟩:∃X,X=vocB T:=⟨_,rfl⟩
  obtain⟨Y,eY⟩:∃Y,Y=qm (noQ T qs) i:=⟨_,rfl⟩
  have bk:=a4.tot ah (λt ht=>(ae t ht).2);rw[<-eX]at an a1 az|-;rw[<-eY]at bi bj az|-;refine zu ?_;refine V.Fall.min2 rfl rfl rfl λk hk=>?_
  (conv=>whnf);refine zcv (qef k w4) ?_;rintro r w5 ⟨b,rfl,aj,b1,hB⟩;obtain⟨m,em⟩:∃m,m=(max k 0).toNat:=⟨_,rfl⟩
  rw[<-em]at hB;have aa:Sep w4 w5 [[b]]:=(Sep.of (Ext.refl w4)).add aj λk hk=>by rw[Ac.1 hk];exact⟨b1,hB.lt b (Ac.2 rfl)⟩
  (conv=>whnf);refine zcv (qef 28 w5) ?_;rintro r w6 ⟨b2,rfl,ak,b3,ab⟩;have aa:=aa.add ak (F:=[b2]) λk hk=>by rw[Ac.1 hk];exact⟨b3,ab.lt b2 (Ac.2 rfl)⟩
  have hB:=hB.call ak;(conv=>whnf);refine zcv (qwa vb (vocB T) w6 (b0.ext (aj.trans ak))) ?_;rintro r w7 ⟨rfl,rfl⟩;rw[bk];(conv=>whnf);obtain⟨ns,au⟩:∃ns,ns=hdN i T.length X.length Y.length:=⟨_,rfl⟩
  have cm:ns.length=6:=by rw[au];rfl
  have b4:∀x∈ns,x<18446744073709551616:=λx hx=>by
   rw[au]at hx;simp only[hdN,Aw,BH,or_false]at hx;omega
  have b5:(#[ii 1095914324,ii 1,ii i,ii T.length,ii X.length,ii Y.length]:Dq)=(ns.map λn:Nat=>ii (n:Nat)).toArray:=by rw[au];rfl
  refine qn (λj:Nat=>[(6,.slice Av X.length cv),(15,.slice At Y.length ct),(16,pp b),(17,pp b2),(73,.agg (ns.map λn:Nat=>ii (n:Nat)).toArray),(74,ii j)])
   (λj w'=>j<=6/\∃F,Sep w4 w' [F,[b]]/\BufAt w' b2 28 (fxL (ns.take j)) F/\BufAt w' b m [] [b]) (λj=>6-j) 0 ⟨rfl,rfl,rfl,rfl,(by rw[<-b5];rfl),rfl,trivial⟩ ⟨by omega,_,aa,ab,hB⟩ ?_
  clear aa ab hB;rintro j w8 cn ⟨j1,F,aa,ab,hB⟩;have bl:(fxL (ns.take j)).length<=24:=by rw[q7y,A4];omega
  (conv=>whnf);refine zC (λ_=>zu ?_) (λ_=>zu ?_)
  ·have a7:j<ns.length:=by omega
   have ad:(ns.map λn:Nat=>ii (n:Nat))[j]?=some (ii (ns[j]:Nat)):=by rw[Ar,zge a7];rfl
   refine⟨ii (ns[j]:Nat),by rw[show j*tsz Dp 3=j by rw[show tsz Dp 3=1 from by kernel_rfl];omega];exact ad,?_⟩;have b6:=b4 _ (AP a7);refine zu ?_;refine zcv (qj9 b2 28 _ ns[j] F w8 ab b6 Od Oo) ?_;rintro r w9 ⟨rfl,hC⟩;obtain⟨F9,bm,ab⟩:=aa.buf (i:=0) rfl hC;have hB:=hB.keep (bm.keep 1 [b] rfl Od);rw[<-q26 ns a7]at ab;refine zu ?_;exact⟨j+1,⟨rfl,rfl,rfl,rfl,rfl,Ae (Value.int .i64) Oo,trivial⟩,⟨by omega,F9,bm.sep,ab,hB⟩,by omega⟩
  ·obtain rfl:j=6:=by omega
   have bn:fxL (ns.take 6)=h24 i T.length X.length Y.length:=by rw[Ay Oo,au,q7x]
   rw[bn]at ab bl;refine zcv (qcj b2 28 _ F w8 ab Oo) ?_;rintro r w9 (⟨a0,rfl,rfl⟩|⟨b7,v,rfl,av⟩)
   ·omega
   obtain⟨Ah,ch,eh,co,ac⟩:=av.bs;subst eh;have aa:=((aa.drop 1).add av.ext av.lo).perm (List.Perm.swap _ _ _);have hB:=hB.call av.ext;clear ab;obtain⟨H,eH⟩:∃H,H=h24 i T.length X.length Y.length:=⟨_,rfl⟩
   rw[<-eH]at ac aa bl|-;have cd:H.length=24:=by rw[eH];exact qlw _ _ _ _
   obtain⟨ps,a8⟩:∃ps,ps=[H,X,Y]:=⟨_,rfl⟩
   have cp:ps.length=3:=by rw[a8];rfl
   have bo:ptL ps=pkB qs:=by rw[a8,eH,q39,eX,eY,<-hn,eT];rfl
   have a2:∀j (hj:j<ps.length) w',Ext w4 w'->SlAt encB 1 w' Ah H->∃Aj cj,[Value.slice Ah H.length ch,.slice Av X.length cv,.slice At Y.length ct][j]?=some (.slice Aj ps[j].length cj)/\SlAt encB 1 w' Aj ps[j]/\ps[j].length<=67108864:=λj hj w' he hh=>by
    subst a8
    rcases(show j=0\/j=1\/j=2 by omega)with rfl|rfl|rfl
    ·exact⟨Ah,ch,rfl,hh,by show H.length<=_;omega⟩
    ·exact⟨Av,cv,rfl,a1.ext he,an⟩
    ·exact⟨At,ct,rfl,bj.ext he,bi⟩
   (conv=>whnf);refine qn (λj:Nat=>[(16,pp b),(90,.agg #[.slice Ah H.length ch,.slice Av X.length cv,.slice At Y.length ct]),(91,ii j)])
    (λj w'=>j<=3/\(ptL (ps.take j)).length<=j*67108868/\∃F,Sep w4 w' [F,rowF (.slice Ah H.length ch)]/\BufAt w' b m (ptL (ps.take j)) F/\SlAt encB 1 w' Ah H) (λj=>3-j) 0 fq ⟨by omega,An _,_,aa,hB,ac⟩ ?_
   clear aa hB ac;rintro j aq cq ⟨j2,cr,F3,aa,hB,ac⟩;(conv=>whnf);refine zC (λ_=>zu ?_) (λ_=>zu ?_)
   ·have a9:j<ps.length:=by omega
    obtain⟨Aj,cj,ad,bp,b8⟩:=a2 j a9 aq aa.ext ac;obtain⟨pj,bq⟩:∃pj,pj=ps[j]:=⟨_,rfl⟩
    have ba:=q38 ps a9;rw[<-bq]at ad bp b8 ba;refine⟨.slice Aj pj.length cj,by rw[show j*tsz Dp 32=j by rw[show tsz Dp 32=1 from by kernel_rfl];omega];exact ad,?_⟩;have cu:(crcL pj).toNat<4294967296:=(crcL pj).isLt;(conv=>whnf);refine zcv (qcr b m _ pj F3 Aj pj.length cj aq hB bp rfl Oo Oo) ?_;rintro r aw ⟨rfl,hC⟩;obtain⟨F4,ax,hB⟩:=aa.buf (i:=0) rfl hC;have ac:=ac.keep λx hx=>ax.keep 1 _ rfl Od x (by rw[qel _ _ _ 0 0];exact hx)
    obtain⟨cw,cx,am,a3,_⟩:=a2 j a9 aw ax.sep.ext ac;have br:SlAt encB 1 aw Aj pj:=by
     rw[<-bq]at am a3;have e:=Bg (ad.symm.trans am)
     injection e with e1 e2 e3
     rw[e1];exact a3
    have b9:=(al.trans ax.sep.ext)
    (conv=>whnf);refine zcv (q03 pj Aj pj.length cj aw br rfl Oo (CellsAt.ext bb b9)) ?_;rintro r ca ⟨rfl,rfl⟩;refine zu ?_;refine zcv (qj9 b m _ (crcL pj).toNat F4 ca hB Oo Oo (by rw[zla];omega)) ?_;rintro r cy ⟨rfl,hC⟩;obtain⟨F5,bt,hB⟩:=ax.sep.buf (i:=0) rfl hC;have ac:=ac.keep λx hx=>bt.keep 1 _ rfl Od x (by rw[qel _ _ _ 0 0];exact hx)
    rw[<-show sumL pj=fixL (crcL pj).toNat 4 from rfl,<-ba]at hB;refine zu ?_;refine⟨j+1,⟨rfl,rfl,Ae (Value.int .i64) Oo,trivial⟩,⟨by omega,?_,F5,bt.sep,hB,ac⟩,by omega⟩;rw[ba,zla,zla,qdl];omega
   ·obtain rfl:j=3:=by omega
    rw[Ay Oo,bo]at hB;refine zcv (qcj b m _ F3 aq hB Oo) ?_;rintro r aw (⟨a0,rfl,rfl⟩|⟨b7,v,rfl,hN⟩)
    ·have e1:=qic (qs:=qs) (most:=O) hv (by rw[<-eT];exact ag) Oo;(conv=>whnf);exact .inl ⟨by rw[e1];decide,by rw[e1];rfl,al.trans aa.ext⟩
    ·have e1:=qps (qs:=qs) (most:=O) hv (by rw[<-eT];exact ag) Oo;obtain⟨A9,c9,cb,_⟩:=id hN.h;subst cb;(conv=>whnf);exact .inr ⟨e1,_,rfl,hN.back (al.trans aa.ext)⟩
namespace V
theorem RunV.eqQd{a b:Q4}(h:K (.bool (qcs a b)) w):
  RunV Dp (do eqGuard .eql 47 xo yo (qw a) (qw b);binOp .eql 47 (qw a) (qw b)) w K:=by
 refine⟨_,w,?_,h⟩;rw[Sem.run_bind,qw,qw,run_eqGuard_agg w .eql _ xo yo _ _ q72,Result.andThen_ok];have e:=qe2 9997 a b w;simp only[qw]at e;rw[run_eql_struct,e];rfl
end V
open Classical in
noncomputable def vidR(T:List TM)(q:Q4):Di:=if ∀k,k<4->gat q k∈T\/gat q k=zTM then .tuple #[idsV λk=>noT T (gat q k),.bool true]else .tuple #[idsV λ_=>0,.bool false]
theorem q1o(T:List TM)(h:VOk T)(hr:RiseT T)(hk:∀t∈T,1<=t.kind/\t.kind<=3)(he:∀t∈T,qa2 t=0)(b:Nat)(q:Q4)(aa:qap q)(w:Dd)(hV:VocAt w b (vocB T))(hM:MaxLenAt w)(hT:CellsAt w 4 0 qa3):
  Gv Dp 74 [pp b,qw q] w λr w'=>r=vidR T q/\Ext w w':=by
 refine ze Tryz.func74 Tryz.ntmps74 ?_;refine znm (Mem.nil w) ?_;intro b3 w1 H;have H:Mem w w1 [(b3,.cells (qe q).toArray 47)]:=H;(conv=>whnf);refine znm H λb4 w2 H=>zw ?_;refine znm H ?_;intro b6 w3 H;have H:Mem w w3 [(b6,.cells (fnA 4 (inF (idF T q 0))) 95),(b4,.cells #[ii 0,ii 0,ii 0,ii 0] 95),(b3,.cells (qe q).toArray 47)]:=H;have hc:CellsAt w3 b3 0 (qe q):=CellsAt.mem H (zmg (i:=2) rfl);(conv=>whnf);refine LoadA.cells (qu hc 3 Oo) rfl (zw ?_);refine LoadA.cells (qu hc 0 Oo) rfl (zw ?_);refine LoadA.cells (qu hc 1 Oo) rfl (zw ?_);refine LoadA.cells (qu hc 2 Oo) rfl (zw ?_);refine qn (λk:Nat=>[(0,pp b),(4,pp b4),(6,pp b6),(19,qw (gQ q)),(20,ii k)])
  (λk w'=>k<=4/\(∀j,j<k->gat q j∈T\/gat q j=zTM)/\Mem w w' [(b6,.cells (fnA 4 (inF (idF T q k))) 95),(b4,.cells #[ii 0,ii 0,ii 0,ii 0] 95),(b3,.cells (qe q).toArray 47)]) (λk=>4-k) 0 fq ⟨by omega,λj hj=>absurd hj (Cf _),H⟩ ?_
 clear H hc;rintro k w4 ae ⟨k1,ab,H⟩;(conv=>whnf);refine zC (λ_=>zu ?_) (λ_=>zu ?_)
 ·have O:k<4:=by omega
  refine Wit.eq (y:=encT ((gQ q).at k)) (qjc (gQ q) k O) ?_;rw[q27 q O];(conv=>whnf);refine znm H λb8 w5 H=>zw ?_;refine StoreA.all (vs:=encT (gat q k)) H (i:=0) rfl rfl (qab _) ?_;clear H;intro w6 H;have H:Mem w w6 [(b8,.cells (encT (gat q k)).toArray 45),(b6,.cells (fnA 4 (inF (idF T q k))) 95),(b4,.cells #[ii 0,ii 0,ii 0,ii 0] 95),(b3,.cells (qe q).toArray 47)]:=H;(conv=>whnf);refine zl H 0 ?_;have ac:TermOk (gat q k):=by rw[<-q27 q O];have:=aa;rcases(show k=0\/k=1\/k=2\/k=3 by omega)with rfl|rfl|rfl|rfl;exact this 3;exact this 0;exact this 1;exact this 2
  refine zcv (qt2 T h hr hk he b (gat q k) ac w6 (hV.ext H.ext) (hM.ext H.ext) (hT.ext H.ext)) ?_;rintro r w7 ⟨rfl,ad⟩;have H:=H.call ad
  rcases BW (gat q k∈T\/gat q k=zTM)with W|W
  case inr=>
   rw[idR,Ab W];refine zu ?_;refine zS H 2 λw8 H=>zw ?_;refine qk (R:=λv w'=>v=vidR T q/\Ext w w') (zw ?_);refine zl H 2 ?_;exact⟨by rw[vidR,Ab (λg=>W (g k O))];rfl,H.ext⟩
  rw[idR,Af W];refine zu ?_;rw[show 0+k*tsz Dp 3=k by rw[show tsz Dp 3=1 from by kernel_rfl];omega];refine StoreV.mem H (i:=1) rfl (by rw[qba];omega) rfl ?_;clear H;intro w8 H;have H:Mem w w8 [(b8,.cells (encT (gat q k)).toArray 45),(b6,.cells ((fnA 4 (inF (idF T q k))).setIfInBounds k (ii (noT T (gat q k):Nat))) 95),(b4,.cells #[ii 0,ii 0,ii 0,ii 0] 95),(b3,.cells (qe q).toArray 47)]:=H;rw[qya T q O]at H;refine zu ?_;exact⟨k+1,⟨rfl,rfl,rfl,rfl,Ae (Value.int .i64) Oo,trivial⟩,⟨by omega,(by grind),H.sub Js⟩,by omega⟩
 ·refine zl H 0 ?_;refine zS H 1 λw8 H=>zw ?_;obtain rfl:k=4:=by omega
  refine qk (R:=λv w'=>v=vidR T q/\Ext w w') (zw ?_);refine zl H 1 ?_;exact⟨by rw[vidR,Af (λj hj=>ab j hj)];rfl,H.ext⟩
theorem EncOk.idX(h:EncOk T qs)(p:Q4):∀k,k<4->InR .i64 (idP T p k):=λk _=>by
 have H:=h.set.few;rw[idP,idT]
 split
 ·exact⟨by omega,by omega⟩
 ·have O:noT T (gat p k)<=T.length+1:=by
   grind [noT]
  exact⟨by omega,by omega⟩
theorem qva(b H:Nat)(O W a2 a3 a5:Di)(w:Dd)(h:w.heap[b]?=some (.cells #[O,W,a2,a3,pp H,a5] 241)):Gv Dp 73 [pp b] w λv w'=>v=pp H/\w'=w:=by
 refine ze Tryz.func73 Tryz.ntmps73 ?_;refine LoadV.own h rfl (zw ?_);simp
theorem q4r(l:LB)(x W vb H:Nat)(w:Dd)(O:IdxE w x W vb H l):Gv Dp 26 [pp x] w λr w'=>r=ii (vNum (qt l) 3:Nat)/\Ext w w':=by
 refine ze Tryz.func26 Tryz.ntmps26 ?_;refine LoadV.of O.c (zw ?_);refine zcv (qdj W H _ _ _ _ _ w O.b) ?_;rintro r w1 ⟨rfl,rfl⟩;(conv=>whnf);refine zcv (qgb H _ w1 O.t) ?_;rintro r w2 ⟨rfl,rfl⟩;conv=>whnf
 grind [Ext.refl]
section
variable {T:List TM} {qs:List Q4} (h:EncOk T qs)
include h
theorem EncOk.gatIn:∀q∈qs,∀k,k<4->gat q k∈T\/gat q k=zTM:=λq H k O=>(h.set.mem q H k O).imp id λg=>g.2.2
theorem EncOk.cnt{p:Q4}(H:KnQ T p):tcnt (qt (encP T qs)) (idP T p)=(qal p qs).length:=by
 rw[h.t,q43 h.set.tok,qi5 (P:=idP T p) h.set.rise (λt O=>(h.kinds t O).1) h.gatIn (λ_ _=>rfl) H]
theorem EncOk.rows{p:Q4}(H:KnQ T p):(tmaR (qt (encP T qs)) (idP T p)).length<=1048576:=by
 have e:=Ae List.length (h.tma H);rw[AC]at e;rw[e];exact A6 (qkm p qs) h.set.len
theorem EncOk.fin{q:Q4}(hK:∀k,k<4->gat q k∈T\/gat q k=zTM):
  (∃i,tfin (qt (encP T qs)) (λk=>(noT T (gat q k):Int))=(i,true)/\qs[i]?=some q)\/((tfin (qt (encP T qs)) (λk=>(noT T (gat q k):Int))).2=false/\q∉qs):=by
 have H:∀k,k<4->(gat q k).kind≠4:=λk O=>by
  rcases hK k O with g|g
  ·have:=(h.kinds _ g).2;omega
  ·rw[g];decide
 have eP:(λk=>(noT T (gat q k):Int))=λk=>(noT T (gat q k):Int):=rfl
 have hP:∀k,k<4->(λk=>(noT T (gat q k):Int)) k=idT T (gat q k):=(by grind [idT])
 have W:∀k,k<4->KnT T (gat q k):=λk O=>.inr (hK k O)
 have hm:=qi5 h.set.rise (λt ht=>(h.kinds t ht).1) h.gatIn hP W;have h3:vNum (qm (noQ T qs) qs.length) 3=qs.length:=by rw[h.set.tok.vNum Od,h.set.tok.all Oo]
 have hf:=q7w (P:=λk=>(noT T (gat q k):Int)) h.set.tok h.set.tok.canD Oo (m:=3) (k:=0) rfl h.set.tok.winT;rw[h.set.tok.lvM_all,hm]at hf;obtain⟨aa,ab⟩:=qze (qs:=qs) H;rw[h.t,tfin,h3,h.set.tok.vNum Od]
 grind
end
theorem qhb(T:List TM)(qs:List Q4)(h:EncOk T qs)(x pb vb tb:Nat)(p:Q4)(hp:qap p)(w:Dd)(hX:IdxE w x pb vb tb (encP T qs))(hG:GlobS w):
  Gv Dp 21 [pp x,qw p] w λr w'=>r=ii ((qal p qs).length:Nat)/\Ext w w':=by
 refine ze Tryz.func21 Tryz.ntmps21 ?_;refine znm (Mem.nil w) ?_;intro qb w1 H;have H:Mem w w1 [(qb,.cells (qe p).toArray 47)]:=H;(conv=>whnf);refine zl H 0 ?_;refine zcv (qtr T qs h x p hp w1 (hX.ext H.ext).at_ (hG.ext H.ext).M (hG.ext H.ext).T) ?_;rintro r w2 ⟨rfl,ab⟩;replace H:=H.call ab
 by_cases hK:KnQ T p
 case neg=>
  rw[qj5,Ab hK];(conv=>whnf);refine znm H λib w3 H=>zw ?_;refine StoreA.all H (i:=0) rfl rfl Od λw4 H=>zu ?_;exact⟨by rw[h.tmaN hK];rfl,H.ext⟩
 rw[qj5,Af hK];(conv=>whnf);refine znm H λib w3 H=>zw ?_;refine zS H 0 ?_;clear H;intro w4 H;have ac:w4.heap[ib]?=some (.cells #[ii (idP T p 0),ii (idP T p 1),ii (idP T p 2),ii (idP T p 3)] 95):=H.get mh;have hx:∀O,Ext w4.drew O->Ext w O:=λO W=>H.ext.trans ((Ext.refl w4).drew.trans W)
 refine zu ?_;refine DrawV.free Jk Jk (zw ?_);(iterate 3 (refine zd ?_));refine zsd (pp pb) (λO W=>zw ?_) (zw ?_)
 ·refine LoadV.of (hX.ext (hx O W)).c (zw ?_);exact xq
 refine zsd (pp tb) (λO W=>zw ?_) (zw ?_)
 ·refine zcv (qdj pb tb _ _ _ _ _ O (hX.ext (hx O W)).b) ?_
  grind [Ext.refl]
 refine zsd (.agg #[ii (idP T p 0),ii (idP T p 1),ii (idP T p 2),ii (idP T p 3)]) (λO W=>zw ?_) (zw ?_)
 ·refine LoadA.own (Ext.get ((Ext.refl w4).drew.trans W) ac) rfl (zw ?_);exact xq
 refine zsd (ii ((qal p qs).length:Nat)) (λO W=>zw ?_) (zw ?_)
 ·refine zcv (qv4 tb (qt (encP T qs)) (idP T p) O (hX.ext (hx O W)).t h.vms (h.idX p) (h.rows hK)) ?_;rintro r w5 ⟨rfl,aa⟩;exact⟨aa,by rw[h.cnt hK]⟩
 refine zd ?_;intro w5 aa;conv=>whnf
 simp_all
theorem q4o(T:List TM)(qs:List Q4)(h:EncOk T qs)(x pb vb tb:Nat)(q:Q4)(hq:qap q)(w:Dd)(hX:IdxE w x pb vb tb (encP T qs))(hG:GlobS w):
  Gv Dp 31 [pp x,qw q] w λr w'=>(∃b,r=.bool b/\(b=true↔q∈qs))/\Ext w w':=by
 obtain⟨F,bb,ev,hF⟩:∃(F:Nat->Nat) (bb:Bool),vidR T q=.tuple #[idsV F,.bool bb]/\((bb=true/\(∀k,k<4->gat q k∈T\/gat q k=zTM)/\F=λk=>noT T (gat q k))\/(bb=false/\¬ ∀k,k<4->gat q k∈T\/gat q k=zTM)):=by
  by_cases hK:∀k,k<4->gat q k∈T\/gat q k=zTM
  ·simp_all[vidR]
  ·exact⟨_,false,by rw[vidR,Ab hK],(by grind)⟩
 unfold idsV at ev;refine ze Tryz.func31 Tryz.ntmps31 ?_;refine znm (Mem.nil w) ?_;intro qb w1 O;have O:Mem w w1 [(qb,.cells (qe q).toArray 47)]:=O;(conv=>whnf);refine DrawV.gen (λS H w'=>Al w [(qb,.cells (qe q).toArray 47)] (.cells zq 95) (.cells #[ii (F 0:Nat),ii (F 1:Nat),ii (F 2:Nat),ii (F 3:Nat)] 95) (.cells zq 95) (.cells zq 95) (S 10) false (S 11) false (H 10) undef w') rfl Jk (λH=>Al.start O.drew) ?_;clear O;(conv=>whnf);(iterate 3 (refine zg ?_));refine StepG.of (pp pb) (λS H wd hk hp W=>zw ?_) (zw ?_)
 ·refine LoadV.of (hX.ext W.mem.ext).c (zw ?_);exact⟨rfl,W⟩
 refine StepG.of (pp vb) (λS H wd hk hp W=>zw ?_) (zw ?_)
 ·refine zcv (qva pb vb _ _ _ _ _ wd (hX.ext W.mem.ext).b) ?_;rintro r w5 ⟨rfl,rfl⟩;exact⟨rfl,W⟩
 refine StepG.of (qw q) (λS H wd hk hp W=>zw ?_) (zw ?_)
 ·refine LoadA.own (W.mem.get (Ac.2 rfl)) rfl (zw ?_);exact⟨rfl,W⟩
 refine StepG.of (.tuple #[.agg #[ii (F 0:Nat),ii (F 1:Nat),ii (F 2:Nat),ii (F 3:Nat)],.bool bb]) (λS H wd hk hp W=>?_) (zw ?_)
 ·have hv:=(hX.ext W.mem.ext).v;rw[h.v]at hv;(conv=>whnf);refine zcv (q1o T h.voc h.set.rise h.kinds h.term vb q hq wd hv (hG.ext W.mem.ext).M (hG.ext W.mem.ext).T) ?_;rintro r w5 ⟨rfl,ab⟩;exact⟨ev,W.call ab⟩
 (iterate 3 (refine zg ?_));refine StepG.any (λS H wd hk hp W=>?_) (zw ?_)
 ·dsimp only at W;rw[hk]at W;(conv=>whnf);refine⟨λx wx hb hw=>?_⟩;subst hb hw;(conv=>whnf);exact⟨trivial,W.new1⟩
 refine StepG.of undef (λS H wd hk hp W=>?_) (zw ?_)
 ·dsimp only at W;have ac:S 10=true:=hp 10 Od;rw[hk,ac]at W;obtain⟨b,hv,M,ad,hK⟩:=W.put1;rw[qbj hv];(conv=>whnf);refine zS ad 0 λwx ae=>zw ?_;exact⟨rfl,by show Al _ _ _ _ _ _ (S 10) _ true _ _ _ _;rw[ac];exact hK ae rfl⟩
 refine zg ?_;intro H w3 W;obtain⟨nb,hv,O⟩:=W.done1;rw[qbj hv];clear W hv;conv=>whnf
 rcases hF with⟨rfl,hK,hF⟩|⟨rfl,hK⟩
 case inr=>
  refine zu ?_;refine⟨⟨false,rfl,Js,λg=>absurd (h.gatIn q g) hK⟩,O.ext⟩
 have af:w3.heap[nb]?=some (.cells #[ii (F 0:Nat),ii (F 1:Nat),ii (F 2:Nat),ii (F 3:Nat)] 95):=O.get mh;have ai:w3.heap[qb]?=some (.cells (qe q).toArray 47):=O.get (zmc (Ac.2 rfl));have hx:∀wd,Ext w3.drew wd->Ext w3 wd:=λwd hd=>(Ext.refl w3).drew.trans hd
 have aa:=h.fin hK;rw[show(λk=>(noT T (gat q k):Int))=λk=>(F k:Int)by rw[hF]]at aa;obtain⟨R,eR⟩:∃R,R=tfin (qt (encP T qs)) λk=>(F k:Int):=⟨_,rfl⟩
 rw[<-eR]at aa;obtain⟨i,bf⟩:=R;refine zu ?_;refine DrawV.free Jk Jk (zw ?_);(iterate 3 (refine zd ?_));refine zsd (pp pb) (λwd hd=>zw ?_) (zw ?_)
 ·refine LoadV.of (hX.ext (O.ext.trans (hx wd hd))).c (zw ?_);exact xq
 refine zsd (pp tb) (λwd hd=>zw ?_) (zw ?_)
 ·refine zcv (qdj pb tb _ _ _ _ _ wd (hX.ext (O.ext.trans (hx wd hd))).b) ?_
  grind [Ext.refl]
 refine zsd (.agg #[ii (F 0:Nat),ii (F 1:Nat),ii (F 2:Nat),ii (F 3:Nat)]) (λwd hd=>zw ?_) (zw ?_)
 ·refine LoadA.own (Ext.get (hx wd hd) af) rfl (zw ?_);exact xq
 refine zsd (.tuple #[ii (i:Nat),.bool bf]) (λwd hd=>zw ?_) (zw ?_)
 ·refine zcv (q08 tb (qt (encP T qs)) (λk=>(F k:Int)) wd (hX.ext (O.ext.trans (hx wd hd))).t h.vms) ?_
  grind
 (iterate 5 (refine zd ?_));intro w4 ag;replace O:=O.drew.call ag
 rcases aa with⟨i',e1,hi⟩|⟨e1,aj⟩
 case inr=>
  dsimp only at e1;subst e1;refine zu ?_;exact⟨(by grind),O.ext⟩
 injection e1 with e1 e2
 subst e1 e2;have ak:=(Ad.1 hi).1;have ah:=h.set.len;refine zu ?_;refine LoadV.of (hX.ext O.ext).c (zw ?_);refine zcv (qoc pb (encP T qs) i w4 (hX.ext O.ext).pk Oo (hG.ext O.ext).M (hG.ext O.ext).T (hG.ext O.ext).K) ?_;rintro r w5 ⟨rfl,ab⟩;replace O:=O.call ab;rw[h.pq hi];(conv=>whnf);refine znm O λob w6 O=>zw ?_;refine StoreA.all (vs:=qe q) O (i:=0) rfl rfl (qa8 q) λw7 O=>zu ?_;refine LoadA.mem (cs:=(qe q).toArray) O (i:=0) rfl rfl (zu ?_);refine LoadA.mem (cs:=(qe q).toArray) O (i:=2) rfl rfl (zu ?_);refine RunV.eqQd (a:=q) (b:=q) ?_;rw[show qcs q q=true from(qoo).2 rfl];refine zu ?_;exact⟨(by grind),O.ext⟩
theorem qlx(s p:De)(w:Dd):Gv Dp 134 [.string s,.string p] w λr w'=>r=.bool (hasP s p)/\w'=w:=by
 have H:Gv Dp 211 [.string s,.string p] w λr w'=>r=.bool (hasP s p)/\w'=w:=by
  rcases AM s.size p.size with h|h
  ·have e:hasP s p=false:=by rw[hasP,AZ (Nat.not_le_of_lt h)];rfl
   rw[e];refine ze Tryz.func211 Tryz.ntmps211 ?_;refine zv ?_;exact⟨rfl,rfl⟩
  ·have e:hasP s p=seq (s.extract 0 p.size) p:=by rw[hasP,AI h];rfl
   rw[e];refine ze Tryz.func211 Tryz.ntmps211 ?_;refine zv ?_;refine SliceS.at_ 0 p.size rfl rfl (An _) h (zu ?_);exact⟨rfl,rfl⟩
 refine ze Tryz.func134 Tryz.ntmps134 ?_;refine zcv (H) ?_;rintro r w1 ⟨rfl,rfl⟩;(conv=>whnf);exact⟨rfl,rfl⟩
theorem qvd(q:Q4)(w:Dd):Gv Dp 199 [qw q] w λr w'=>r=qr q.s/\Ext w w':=by
 refine ze Tryz.func199 Tryz.ntmps199 ?_;refine znm (Mem.nil w) ?_;intro O w1 H;have W:CellsAt w1 O 0 (qe q):=CellsAt.mem H (Ac.2 rfl);(conv=>whnf);refine znm H ?_;clear H;intro rb w2 H;have W:CellsAt w2 O 0 (qe q):=CellsAt.mem H (zmc (Ac.2 rfl));(conv=>whnf);refine LoadA.cells (qu W 0 Oo) rfl (zw ?_);refine zS H 0 λw3 H=>zw ?_;refine qk (R:=λr w'=>r=qr q.s/\Ext w w') (zw ?_);refine zl H 0 ?_;exact⟨rfl,H.ext⟩
theorem qve(q:Q4)(w:Dd):Gv Dp 200 [qw q] w λr w'=>r=qr q.p/\Ext w w':=by
 refine ze Tryz.func200 Tryz.ntmps200 ?_;refine znm (Mem.nil w) ?_;intro O w1 H;have W:CellsAt w1 O 0 (qe q):=CellsAt.mem H (Ac.2 rfl);(conv=>whnf);refine znm H ?_;clear H;intro rb w2 H;have W:CellsAt w2 O 0 (qe q):=CellsAt.mem H (zmc (Ac.2 rfl));(conv=>whnf);refine LoadA.cells (qu W 1 Oo) rfl (zw ?_);refine zS H 0 λw3 H=>zw ?_;refine qk (R:=λr w'=>r=qr q.p/\Ext w w') (zw ?_);refine zl H 0 ?_;exact⟨rfl,H.ext⟩
theorem qvf(q:Q4)(w:Dd):Gv Dp 201 [qw q] w λr w'=>r=qr q.o/\Ext w w':=by
 refine ze Tryz.func201 Tryz.ntmps201 ?_;refine znm (Mem.nil w) ?_;intro O w1 H;have W:CellsAt w1 O 0 (qe q):=CellsAt.mem H (Ac.2 rfl);(conv=>whnf);refine znm H ?_;clear H;intro rb w2 H;have W:CellsAt w2 O 0 (qe q):=CellsAt.mem H (zmc (Ac.2 rfl));(conv=>whnf);refine LoadA.cells (qu W 2 Oo) rfl (zw ?_);refine zS H 0 λw3 H=>zw ?_;refine qk (R:=λr w'=>r=qr q.o/\Ext w w') (zw ?_);refine zl H 0 ?_;exact⟨rfl,H.ext⟩
theorem qvg(q:Q4)(w:Dd):Gv Dp 202 [qw q] w λr w'=>r=qr q.g/\Ext w w':=by
 refine ze Tryz.func202 Tryz.ntmps202 ?_;refine znm (Mem.nil w) ?_;intro O w1 H;have W:CellsAt w1 O 0 (qe q):=CellsAt.mem H (Ac.2 rfl);(conv=>whnf);refine znm H ?_;clear H;intro rb w2 H;have W:CellsAt w2 O 0 (qe q):=CellsAt.mem H (zmc (Ac.2 rfl));(conv=>whnf);refine LoadA.cells (qu W 3 Oo) rfl (zw ?_);refine zS H 0 λw3 H=>zw ?_;refine qk (R:=λr w'=>r=qr q.g/\Ext w w') (zw ?_);refine zl H 0 ?_;exact⟨rfl,H.ext⟩
def PlF(H:Int)(g:FuncId):Prop:=∀q w,Gv Dp g [qw q] w λr w'=>r=qr (plT H q)/\Ext w w'
def RchR(H:Int)(v:Di):Prop:=
 (plOk H=false/\v=.tuple #[.agg #[.nilFunc],.bool false])\/(plOk H=true/\∃g,v=.tuple #[.agg #[.func (.func g) #[] #[]],.bool true]/\PlF H g)
theorem qog(W:Int)(w:Dd):Gv Dp 122 [ii W] w λr w'=>RchR W r/\Ext w w':=by
 refine ze Tryz.func122 Tryz.ntmps122 ?_;refine znm (Mem.nil w) λrb w1 H=>zw ?_;refine znm H ?_;clear H;intro ab w2 H
 rcases BW (plOk W=true)with hp|hp
 case inr=>
  replace hp:plOk W=false:=by simpa using hp
  have hn:=qzz.1 hp
  rcases Dc W 0 with h0|h0
  all_goals
   refine zu ?_;refine zS H 1 λw3 H=>zw ?_;refine qk (R:=λr w'=>RchR W r/\Ext w w') (zw ?_);refine zl H 1 ?_;exact⟨.inl ⟨hp,rfl⟩,H.ext⟩
 have ac:=qmh.1 hp;obtain⟨k,rfl⟩:∃k:Nat,W=(k:Int):=⟨W.toNat,by omega⟩
 have hk:k<4:=by omega
 have O:∀g,(∀q w,Gv Dp g [qw q] w λr w'=>r=qr (q.at k)/\Ext w w')->PlF (k:Int) g:=λg hg q w=>hg q w
 refine zu ?_;refine ElemV.own1 k rfl Oo ?_
 match k,hk with
 | 0,_=>
  (conv=>whnf);refine LoadA.part (vs:=[.func (.func 199) #[] #[]]) (H.get mh) rfl (λi hi=>by have aa:i<1:=hi;obtain rfl:i=0:=(by omega);rfl) (zw ?_);refine zS H 1 λw3 H=>zw ?_;refine qk (R:=λr w'=>RchR ((0:Nat):Int) r/\Ext w w') (zw ?_);refine zl H 1 ?_;exact⟨.inr ⟨rfl,_,rfl,O _ qvd⟩,H.ext⟩
 | 1,_=>
  (conv=>whnf);refine LoadA.part (vs:=[.func (.func 200) #[] #[]]) (H.get mh) rfl (λi hi=>by have aa:i<1:=hi;obtain rfl:i=0:=(by omega);rfl) (zw ?_);refine zS H 1 λw3 H=>zw ?_;refine qk (R:=λr w'=>RchR ((1:Nat):Int) r/\Ext w w') (zw ?_);refine zl H 1 ?_;exact⟨.inr ⟨rfl,_,rfl,O _ qve⟩,H.ext⟩
 | 2,_=>
  (conv=>whnf);refine LoadA.part (vs:=[.func (.func 201) #[] #[]]) (H.get mh) rfl (λi hi=>by have aa:i<1:=hi;obtain rfl:i=0:=(by omega);rfl) (zw ?_);refine zS H 1 λw3 H=>zw ?_;refine qk (R:=λr w'=>RchR ((2:Nat):Int) r/\Ext w w') (zw ?_);refine zl H 1 ?_;exact⟨.inr ⟨rfl,_,rfl,O _ qvf⟩,H.ext⟩
 | 3,_=>
  (conv=>whnf);refine LoadA.part (vs:=[.func (.func 202) #[] #[]]) (H.get mh) rfl (λi hi=>by have aa:i<1:=hi;obtain rfl:i=0:=(by omega);rfl) (zw ?_);refine zS H 1 λw3 H=>zw ?_;refine qk (R:=λr w'=>RchR ((3:Nat):Int) r/\Ext w w') (zw ?_);refine zl H 1 ?_;exact⟨.inr ⟨rfl,_,rfl,O _ qvg⟩,H.ext⟩
structure SbeΦ(x pb vb tb:Nat)(T:List TM)(qs:List Q4)(p:Q4)(pl:Int)(pre:De)(b1 b2 b3 b4:Nat)(w:Dd):Prop where
 X:IdxE w x pb vb tb (encP T qs)
 G:GlobS w
 c1:w.cell? ⟨b1,0,none⟩=some (pp x)
 c2:CellsAt w b2 0 (qe p)
 c3:w.cell? ⟨b3,0,none⟩=some (ii pl)
 c4:w.cell? ⟨b4,0,none⟩=some (.string pre)
theorem qqr(x:Nat)(p:Q4)(pl:Int)(pre:De)(w:Dd):Gv Dp 64 [pp x,qw p,ii pl,.string pre] w λr w'=>
  ∃b1 b2 O W,r=.func (.func 133) #[] #[pp O,pp b1,pp b2,pp W]/\
   Mem w w' [(W,.cells #[.string pre] 9),(O,.cells #[ii pl] 3),(b2,.cells (qe p).toArray 47),(b1,.cells #[pp x] 26)]:=by
 refine ze Tryz.func64 Tryz.ntmps64 ?_;refine znm (Mem.nil w) λb1 w1 H=>zw ?_;refine znm H λb2 w2 H=>zw ?_;refine znm H λO w3 H=>zw ?_;refine znm H λW w4 H=>zw ?_;exact⟨b1,b2,O,W,rfl,H⟩
theorem qqs(T:List TM)(qs:List Q4)(h:EncOk T qs)(x pb vb tb:Nat)(p:Q4)(hp:qap p)(pl:Int)(pre:De)(b1 b2 b3 b4:Nat):
  SeqC Dp 133 [pp b3,pp b1,pp b2,pp b4] ((begL pl pre p qs).map (sRow qs)) (SbeΦ x pb vb tb T qs p pl pre b1 b2 b3 b4):=by
 intro y I Ix w H aa hI h0 hy;have ac:((begL pl pre p qs).map (sRow qs)).length=(begL pl pre p qs).length:=AC ..;refine gvW Jk Tryz.func133 rfl Tryz.ntmps133 rfl (zw ?_);refine NewV.carr (H 0) h0 λyb w1 h0=>zw ?_;refine LoadV.of (hI _ _ _ h0).c3 (zw ?_);refine zcv (qog pl w1) ?_;rintro r w2 ⟨hr,ao⟩;replace h0:=(H 0).ext h0 ao
 rcases hr with⟨ad,rfl⟩|⟨ad,g,rfl,hg⟩
 case inl=>
  (conv=>whnf);refine NewV.carr (H 0) h0 λab w3 h0=>zw ?_;refine StoreA.carr (H 0) (A:=[]) h0 rfl (by simp[Value.oneCell']) λw4 h0=>zu ?_;refine .inl ?_;rw[ac,q67 pre p qs ad];exact(H 0).drop ((H 0).drop h0)
 (conv=>whnf);refine NewV.carr (H 0) h0 λab w3 h0=>zw ?_;refine StoreA.carr (H 0) (A:=[]) h0 rfl (by simp[Value.oneCell']) λw4 h0=>zu ?_;refine LoadV.of (hI _ _ _ h0).c1 (zw ?_);refine LoadA.cells (hI _ _ _ h0).c2 rfl (zw ?_);refine zcv (qhh x p w4) ?_;rintro r w5 ⟨c1,c2,rfl,aq⟩;replace h0:=(H 0).call h0 aq;obtain⟨f,ef⟩:∃f:Nat->Bool,f=λi=>plOk pl&&begQ pl pre (qs.getD i zQ):=⟨_,rfl⟩
 obtain⟨M,eM⟩:∃M,M=qal p qs:=⟨_,rfl⟩
 have eB:begL pl pre p qs=M.filter f:=by rw[begL,eM,ef]
 rw[eB]at ac hy|-;obtain⟨L,hL⟩:∃L:Dm,L=[(c2,.cells (qe p).toArray 47),(c1,.cells #[pp x] 26),(ab,.cells #[.func (.func g) #[] #[]] 233),(yb,.cells #[.func (.yield y) #[] #[]] 150)]:=⟨_,rfl⟩
 have O:I 0 ([]++L) w5:=by rw[hL];exact h0
 clear h0;have ah:(c1,Obj.cells #[pp x] 26)∈L:=by rw[hL];simp
 have ai:(c2,Obj.cells (qe p).toArray 47)∈L:=by rw[hL];simp
 have aj:(ab,Obj.cells #[.func (.func g) #[] #[]] 233)∈L:=by rw[hL];simp
 have ak:(yb,Obj.cells #[.func (.yield y) #[] #[]] 150)∈L:=by rw[hL];simp
 have ar:(M.map (sRow qs)).length=M.length:=AC ..;have au:∀{k:Nat} {X:Dm} {w':Dd},I k (X++L) w'->w'.heap[ab]?=some (.cells #[.func (.func g) #[] #[]] 233):=λhh=>(H _).get hh (Aa _ aj)
 have av:∀{k:Nat} {X:Dm} {w':Dd},I k (X++L) w'->w'.heap[yb]?=some (.cells #[.func (.yield y) #[] #[]] 150):=λhh=>(H _).get hh (Aa _ ak)
 have O:I (cntB f M 0) ([]++L) w5:=O;(conv=>whnf);refine qz4 (Φ:=SmaΦ x pb vb tb T qs p c1 c2) (lb:=[pp c1,pp c2]) (xs:=M.map (sRow qs)) rfl Jk (by rw[eM];exact qhi T qs h x pb vb tb p hp (h.idX p) c1 c2) Od ?_
  (λk X w'=>I (cntB f M k) (X++L) w') (λc k X w'=>(c=.ret/\cntB f M k<(M.filter f).length)/\Ix (cntB f M k) (X++L) w')
  (λk=>(H _).tail _) (λc k=>Carr.and ((aa _).tail _))
  (λk X w' hh=>⟨(hI _ _ _ hh).X,(hI _ _ _ hh).G,by rw[qa ((H _).get hh (Aa _ ah))];rfl,λj v hv=>by rw[qa ((H _).get hh (Aa _ ai)),Aq,Az];exact hv⟩) O ?_ ?_ ?_
 ·intro r hr;obtain⟨j,_,rfl⟩:=AG.1 hr;rfl
 ·rintro l2 D oa od k r X w6 hr O;rw[Ar]at hr;cases W:M[k]? with
  | none=>rw[W]at hr;cases hr
  | some i=>
  rw[W,AU,AN]at hr;subst hr;obtain⟨q,eq⟩:∃q,qs.getD i zQ=q:=⟨_,rfl⟩
  have ae:f i=begQ pl pre q:=by rw[ef];dsimp only;rw[ad,eq];rfl
  rw[show sRow qs i=[ii i,qw q]by rw[sRow,eq]];(conv=>whnf);refine NewV.carr (H _) O λnb w8 O=>zw ?_;refine StoreA.carr (vs:=qe q) (H _) (A:=[]) O rfl (qa8 q) λw9 O=>zw ?_;refine⟨rfl,(nb,.cells (qe q).toArray 47)::(D,.deferred (some []))::X,(H _).perm O (List.Perm.swap _ _ _),?_⟩;clear O;intro w9 O;have aw:=(H _).get O (zmc mh);(conv=>whnf);refine LoadV.own (au O) rfl (zw ?_);refine LoadA.own aw rfl (zw ?_);refine zcv (hg q w9) ?_;rintro r a0 ⟨rfl,al⟩;replace O:=(H _).ext O al;obtain⟨t,et⟩:∃t,t=plT pl q:=⟨_,rfl⟩
  rw[<-et];(conv=>whnf);refine NewV.carr (H _) O λa1 a2 O=>zw ?_;refine StoreA.carr (vs:=encT t) (H _) (A:=[]) O rfl (qab t) ?_;clear O;intro ax O;have am:=(H _).get O mh;(conv=>whnf);refine LoadV.own am rfl ?_
  rcases BW (t.kind=1)with hk|hk
  case inr=>
   have e:=qw6 W (show f i=false by rw[ae];rw[begQ,<-et,AZ hk];rfl);refine zu ?_;show I (cntB f M (k+1)) _ _;rw[e];exact(H _).dropM (A:=[(l2,od)]) ((H _).drop O)
  refine zu ?_;refine LoadV.own am rfl (zu ?_);refine LoadV.of (hI _ _ _ O).c4 (zu ?_);refine zcv (qlx t.text pre ax) ?_;rintro r ay ⟨rfl,rfl⟩;cases hs:hasP t.text pre
  case false=>
   have e:=qw6 W (show f i=false by rw[ae];rw[begQ,<-et,hs,Bool.and_false]);refine zu ?_;show I (cntB f M (k+1)) _ _;rw[e];exact(H _).dropM (A:=[(l2,od)]) ((H _).drop O)
  have af:f i=true:=by rw[ae];rw[begQ,<-et,hs,AI hk];rfl
  have e:=q2l W af;have an:=qr1 W af;have ag:=q7i W af;refine zu ?_;refine LoadV.own (av ((H _).drop O)) rfl (zu ?_);refine LoadA.own ((H _).get O (zmc (zmc mh))) rfl (zu ?_);have az:((M.filter f).map (sRow qs))[cntB f M k]?=some [ii i,qw q]:=by
   rw[Ar,an,AU,sRow,eq]
  refine YieldV.mono (hy _ _ _ ay az O) ?_;clear O;rintro v a3 (⟨rfl,O⟩|⟨rfl,hX⟩)
  ·refine zu ?_;show I (cntB f M (k+1)) _ _;rw[e];exact(H _).dropM (A:=[(l2,od)]) ((H _).drop O)
  ·refine zu ?_;exact⟨⟨rfl,ag⟩,(aa _).dropM (A:=[(l2,od)]) ((aa _).drop hX)⟩
 ·rintro D w6 O;rw[ar,q2k]at O;(conv=>whnf);refine LeaveV.marks (J:=λX w'=>I (M.filter f).length X w') (H _) ?_ (D:=D) (Ds:=[]) ((H _).dropL ((H _).perm O As));intro w' h';(conv=>whnf);exact .inl (by rw[ac];exact h')
 ·rintro D c k w6 hk ⟨⟨rfl,ag⟩,hX⟩;(conv=>whnf);refine LeaveV.marks (J:=λX w'=>Ix (cntB f M k) X w') (aa _) ?_ (D:=D) (Ds:=[]) ((aa _).dropL ((aa _).perm hX As));intro w' h';(conv=>whnf);exact .inr ⟨cntB f M k,by rw[ac];exact ag,h'⟩
abbrev TN:=TM×Nat
def meT(i:Nat)(e:TN):MapEntry:=⟨qr e.1,ii e.2,i⟩
def mpO(l:List TN):Obj:=.map (l.mapIdx meT).toArray l.length
def ixL(t:TM):List TN->Nat
 | []=>0
 | e::l=>if qx t e.1=true then 0 else ixL t l+1
def cnL(t:TM):List TN->Nat
 | []=>0
 | e::l=>if qx t e.1=true then e.2 else cnL t l
def adL(t:TM):List TN->List TN
 | []=>[(t,0)]
 | e::l=>if qx t e.1=true then e::l else e::adL t l
def icT(t:TM):List TN->List TN
 | []=>[(t,1)]
 | e::l=>if qx t e.1=true then(e.1,e.2+1)::l else e::icT t l
theorem qyf(t:TM):∀l:List TN,ixL t l<=l.length
 | []=>Ao _
 | e::l=>by
  have:=qyf t l;rw[ixL]
  split<;>simp<;>omega
theorem qrm{t:TM}:∀{l:List TN},ixL t l<l.length->adL t l=l
 | [],h=>(by grind)
 | e::l,h=>by
  rw[ixL]at h;rw[adL]
  split
  ·rfl
  ·rename_i H
   rw[Ab H]at h;rw[qrm (by simpa using h)]
theorem qlb{t:TM}:∀{l:List TN},¬ixL t l<l.length->adL t l=l++[(t,0)]
 | [],_=>rfl
 | e::l,h=>by
  rw[ixL]at h;rw[adL]
  split
  ·rename_i H
   rw[Af H]at h;exact absurd (CM _) h
  ·rename_i H
   rw[Ab H]at h;rw[qlb (by simpa using h)];rfl
theorem qp1{t:TM}{l:List TN}(h:¬ixL t l<l.length):ixL t l=l.length:=by grind [qyf]
theorem qlj{t:TM}:∀{l:List TN},¬ixL t l<l.length->cnL t l=0
 | [],_=>rfl
 | e::l,h=>by
  rw[ixL]at h;rw[cnL]
  split
  ·rename_i H
   rw[Af H]at h;exact absurd (CM _) h
  ·rename_i H
   rw[Ab H]at h;exact qlj (by simpa using h)
theorem qye{t:TM}:∀{l:List TN},ixL t l<l.length->l[ixL t l]?=some (t,cnL t l)
 | [],h=>(by grind)
 | e::l,h=>by
  rw[ixL]at h;rw[ixL,cnL]
  split
  ·rename_i H
   rw[ql.1 H];rfl
  ·rename_i H
   rw[Ab H]at h;rw[Cn];exact qye (by simpa using h)
theorem qaay(t:TM)(l:List TN):ixL t l<(adL t l).length:=by
 grind [qrm,qlb,qp1]
theorem q53(t:TM):∀l:List TN,icT t l=(adL t l).set (ixL t l) (t,cnL t l+1)
 | []=>rfl
 | e::l=>by
  rw[icT,adL,ixL,cnL]
  split
  ·rename_i H
   rw[ql.1 H];rfl
  ·rw[q53 t l];rfl
theorem q5s(t:TM):∀l:List TN,cnL t (adL t l)=cnL t l
 | []=>by rw[adL];simp[cnL]
 | e::l=>by
  rw[adL]
  split
  ·rfl
  ·rename_i H
   rw[cnL,cnL,Ab H,Ab H,q5s t l]
theorem q54(t:TM):∀l:List TN,cnL t (icT t l)=cnL t l+1
 | []=>by
  grind [ql,icT,cnL]
 | e::l=>by
  rw[icT]
  split
  ·rename_i H
   rw[cnL,cnL,Af H,Af H]
  ·rename_i H
   rw[cnL,cnL,Ab H,Ab H,q54 t l]
theorem qw5{t:TM}:∀{l:List TN},(∀e∈l,1<=e.2)->(cnL t l=0↔t∉l.map (·.1))
 | [],_=>by simp[cnL]
 | e::l,h=>by
  rw[cnL]
  split
  ·rename_i H
   have:=h e mh;rw[ql.1 H];simp only[AF,Aw,true_or,not_true,iff_false];omega
  ·rename_i H
   rw[qw5 (λx O=>h x (zmc O))];simp only[AF,Aw,not_or];exact⟨λg=>⟨λW=>H (ql.2 W),g⟩,λg=>g.2⟩
theorem qx7{t:TM}:∀{l:List TN},(∀e∈l,1<=e.2)->∀e∈icT t l,1<=e.2
 | [],_=>by simp[icT]
 | e::l,h=>by
  rw[icT]
  split
  ·grind
  ·intro x H
   rcases Aw.1 H with rfl|H
   ·exact h _ mh
   ·exact qx7 (λy O=>h y (zmc O)) x H
open Classical in
theorem qsm(t:TM):∀l:List TN,(icT t l).map (·.1)=if t∈l.map (·.1)then l.map (·.1)else l.map (·.1)++[t]
 | []=>by simp[icT]
 | e::l=>by
  rw[icT]
  split
  ·rename_i O
   rw[ql.1 O];simp
  ·rename_i O
   have W:t≠e.1:=λe2=>O (ql.2 e2)
   rw[AF,qsm t l]
   by_cases H:t∈l.map (·.1)
   ·rw[Af H,AF,Af (zmc H)]
   ·rw[Ab H,Ab (by rw[AF,Aw,not_or];exact⟨W,H⟩)];rfl
theorem qx8(t:TM):∀l:List TN,((icT t l).map (·.2)).sum=(l.map (·.2)).sum+1
 | []=>rfl
 | e::l=>by
  rw[icT]
  split
  ·simp only[AF,CP];omega
  ·rw[AF,CP,qx8 t l];simp only[AF,CP];omega
theorem q5y(t:TM):∀l:List TN,cnL t l<=(l.map (·.2)).sum
 | []=>Ao _
 | e::l=>by
  have:=q5y t l;rw[cnL,AF,CP]
  split<;>omega
theorem mapK:Dp.underlying 236=some (.map 45 3):=by kernel_rfl
theorem qtm(t:TM)(b:Bool)(d:Nat)(w:Dd):(Instr.checkKey b (d+2) 45 (qr t)).run Dp w=.ok () w:=by
 have H:=Tryz.underlying3;have O:=Tryz.isAgg3;have W:=Tryz.sizeOf3;have u9:=Tryz.underlying9;have a9:=Tryz.isAgg9;have z9:=Tryz.sizeOf9;simp only[qr,Instr.checkKey];simp only[Sem.run_bind,run_underlying Tryz.underlying45,Result.andThen_ok];rw[<-Array.forIn_toList];simp only[List.forIn_cons,List.forIn_nil]
 go_simp
theorem q9o(a b:TM)(w:Dd):(Op.equal 45 (qr a) (qr b)).run Dp w=.ok (qx a b) w:=qas 9998 a b w
theorem qtl(t:TM)(w:Dd):∀(l:List TN) (es:List MapEntry) (i:Nat),(∀(j:Nat) e,l[j]?=some e->∃b,es[j]?=some ⟨qr e.1,ii e.2,b⟩)->es.length=l.length->
  (Instr.findAsking 45 (qr t) es i).run Dp w=.ok (if ixL t l<l.length then some (i+ixL t l,ii (cnL t l))else none) w
 | [],es,i,_,H=>by
  simp_all[Instr.findAsking]
 | e::l,[],i,_,H=>by simp at H
 | e::l,x::es,i,h,H=>by
  obtain⟨b,O⟩:=h 0 e rfl;rw[Bc,AN]at O;subst O;have ih:=qtl t w l es (i+1) (λj y W=>h (j+1) y W) (by simpa using H);rw[Instr.findAsking,Sem.run_bind,q9o,Result.andThen_ok,ixL,cnL];cases hs:qx t e.1
  ·grind
  ·simp
theorem qfx(l:List TN)(j:Nat):(l.mapIdx meT)[j]?=(l[j]?).map (meT j):=List.getElem?_mapIdx
theorem qok(t:TM)(l:List TN)(w:Dd):(Instr.findKey 45 (qr t) (l.mapIdx meT)).run Dp w=.ok (if ixL t l<l.length then some (ixL t l,ii (cnL t l))else none) w:=by
 have H:=qtl t w l (l.mapIdx meT) 0 (λj e O=>⟨j,by rw[qfx,O];rfl⟩) Js;rw[Aq]at H;rw[Instr.findKey,Sem.run_bind,run_underlying Tryz.underlying45,Result.andThen_ok];cases W:l with
 | nil=>rfl
 | cons e l2=>
  rw[W]at H;have hn:∀d:Array Field,Instr.findNow (.struct d) (qr t) ((e::l2).mapIdx meT) 0=none:=λd=>by
   rw[List.mapIdx_cons,Instr.findNow];rfl
  simp_all
theorem qi1{l:List TN}(h:w.heap[r]?=some (mpO l)):(getObj r).run Dp w=.ok (.map (l.mapIdx meT).toArray l.length) w:=by
 simp[getObj,Sem.run,h,mpO]
theorem qjl{l:List TN}(o:Obj)(h:w.heap[r]?=some (mpO l)):(setObj r o).run Dp w=.ok () (setO w r o):=by
 simp[setObj,Sem.run,h,setO,mpO]
theorem qaau(w:Dd):(zeroValue 3).run Dp w=.ok (ii 0) w:=by kernel_rfl
theorem qol(t:TM)(l:List TN)(r:Nat)(w:Dd)(h:w.heap[r]?=some (mpO l)):(Instr.lookup 236 (.map (some r)) (qr t) false).run Dp w=.ok (ii (cnL t l)) w:=by
 rw[Instr.lookup,Sem.run_bind,run_underlying mapK,Result.andThen_ok];simp only[Sem.run_bind,qi1 h,Result.andThen_ok,Sem.run_pure];rw[show(10000:Nat)=9998+2 from rfl,qtm,Result.andThen_ok,qok,Result.andThen_ok]
 by_cases H:ixL t l<l.length
 ·simp_all
 ·rw[Ab H,qlj H];simp
theorem q0i(t:TM)(n:Nat):Instr.sameBits (n+1) (qr t) (qr t)=true:=by
 simp[beq_toListBytes,qr,Instr.sameBits]
theorem qvp(t:TM)(w:Dd):(Instr.keyThatStays (qr t) (qr t)).run Dp w=.ok (qr t) w:=by
 simp[Instr.keyThatStays,q0i]
theorem qp9(l:List TN)(i:Nat)(t:TM)(n:Nat)(h:l[i]?=some (t,n)):(l.mapIdx meT).toArray.modify i (λe=>{ e with key:=qr t })=(l.mapIdx meT).toArray:=by
 apply Array.ext_getElem?;intro j;rw[CK]
 split
 ·rename_i e
  subst e;rw[Az,qfx,h];rfl
 ·rfl
theorem q4a(l:List TN)(t:TM)(n:Nat):(l.mapIdx meT).toArray.push ⟨qr t,ii n,l.length⟩=((l++[(t,n)]).mapIdx meT).toArray:=by
 grind [meT]
theorem q4i(t:TM)(l:List TN)(r:Nat)(w:Dd)(h:w.heap[r]?=some (mpO l)):(Instr.mapEntry 236 (.map (some r)) (qr t)).run Dp w=.ok (.tuple #[ii (cnL t l),ii (ixL t l)]) (setO w r (mpO (adL t l))):=by
 rw[Instr.mapEntry,Sem.run_bind,run_underlying mapK,Result.andThen_ok];simp only[Sem.run_bind,qi1 h,Result.andThen_ok];rw[show(10000:Nat)=9998+2 from rfl,qtm,Result.andThen_ok,qok,Result.andThen_ok]
 by_cases H:ixL t l<l.length
 ·have O:=qye H;have W:(l.mapIdx meT).toArray[ixL t l]?=some (meT (ixL t l) (t,cnL t l)):=by simp_all
  rw[Af H];simp only[W,AU,BY];rw[show(meT (ixL t l) (t,cnL t l)).key=qr t from rfl,Sem.run_bind,qvp,Result.andThen_ok,Sem.run_bind,qp9 l _ t _ O,qjl _ h,Result.andThen_ok,qrm H];rfl
 ·rw[Ab H];simp only[Sem.run_bind,qaau,Result.andThen_ok];rw[qjl _ h,Result.andThen_ok,qlb H,qlj H,qp1 H];have:=q4a l t 0
  simp_all[mpO,goInt]
theorem qxr(l:List TN)(i:Nat)(h:i<l.length):(l.mapIdx meT).toArray.findIdx? (λe=>(e.born:Int)==(i:Int))=some i:=by
 grind [Array.findIdx?_eq_some_iff_getElem,meT]
theorem quw(l:List TN)(i:Nat)(t:TM)(n m:Nat)(h:l[i]?=some (t,n)):(l.mapIdx meT).toArray.modify i (λe=>{ e with val:=ii m })=((l.set i (t,m)).mapIdx meT).toArray:=by
 have O:=(Ad.1 h).1;apply Array.ext_getElem?;intro j;rw[CK,Az,Az,qfx,qfx,BP]
 split
 ·rename_i e
  subst e;rw[h];rfl
 ·rfl
theorem qaax(t:TM)(l:List TN):(adL t l)[ixL t l]?=some (t,cnL t l):=by
 grind [qrm,qye,qlb,qp1,qlj]
theorem q4j(t:TM)(l:List TN)(r:Nat)(w:Dd)(h:w.heap[r]?=some (mpO (adL t l))):(Instr.entryStore 236 (.map (some r)) (ii (ixL t l)) (ii ((cnL t l:Int)+1))).run Dp w=.ok () (setO w r (mpO (icT t l))):=by
 have H:=qaay t l;rw[Instr.entryStore];simp only[Sem.run_bind,qi1 h,Result.andThen_ok];have O:(asInt (ii (ixL t l:Nat))).run Dp w=.ok ((ixL t l:Nat):Int) w:=by
  rfl
 rw[O,Result.andThen_ok,qxr _ _ H]
 grind [quw,qaax,qjl,q53,mpO]
namespace V
theorem Fall.make{t:Dg}(H:o.op=.makeMap t none)(h:NewV w (.map #[] 0) λb w'=>K (.map (some b)) w'):Fall P (execOp (ev ρ) o) w K:=by
 refine⟨.inl ⟨.map (some w.heap.size),w.alloc (.map #[] 0),?_,h.h _ _ rfl rfl⟩⟩
 simp_all[execOp,Instr.makeMap]
theorem Fall.look{t:Dg}{m k:Operand}(O:o.op=.lookup t m k false){a b v:Di}(W:ev ρ m=a)(hb:ev ρ k=b)(hr:(Instr.lookup t a b false).run P w=.ok v w)(H:K v w):Fall P (execOp (ev ρ) o) w K:=by
 refine⟨.inl ⟨v,w,?_,H⟩⟩
 simp_all[execOp]
theorem Fall.entry{t:Dg}{m k:Operand}(O:o.op=.mapEntry t m k){a b v:Di}(W:ev ρ m=a)(hb:ev ρ k=b)(hr:(Instr.mapEntry t a b).run P w=.ok v w')(H:K v w'):Fall P (execOp (ev ρ) o) w K:=by
 refine⟨.inl ⟨v,w',?_,H⟩⟩
 simp_all[execOp]
theorem Fall.put{t:Dg}{m s x:Operand}(O:o.op=.entryStore t m s x){a b c:Di}(W:ev ρ m=a)(hb:ev ρ s=b)(hc:ev ρ x=c)(hr:(Instr.entryStore t a b c).run P w=.ok () w')(H:K undef w'):Fall P (execOp (ev ρ) o) w K:=by
 refine⟨.inr ⟨w',?_,H⟩⟩
 simp_all[execOp]
end V
theorem V.Carr.chn(O:Carr J){o:Obj}{X:Dm}(h:J ((g,o)::X) w)(H:Chn [g] w w')(ho:w'.heap[g]?=some o'):J ((g,o')::X) w':=by
 have hg:=O.get h mh;have h2:=O.set o' h;refine O.ext h2 ⟨H.os,H.tape,H.output,by simpa[setO]using H.size,λk hk=>?_⟩;have W:k<w.heap.size:=by grind [setO]
 by_cases e:k=g
 ·grind [qjk]
 ·rw[qem e];exact H.block k W (by simpa using e)
end Go.Proofs.YtccmcfpmknpccaaGreatDoor
