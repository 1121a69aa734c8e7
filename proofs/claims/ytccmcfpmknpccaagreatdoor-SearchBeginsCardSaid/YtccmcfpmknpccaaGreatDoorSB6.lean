/- Lemmas and contracts of functions on the way to the law's card (part 6 of 16). -/
import Derived.Test.YtccmcfpmknpccaaGreatDoorSB5
import Derived.Lib.Replace
import Derived.Lib.CutLaws
import Derived.Lib.ReplaceLaws
import Derived.LaidEql
import Derived.Stop.Asserts
import Derived.RowKitTokens
import Derived.TacticsIn
import Derived.RangeFuncSeq
import Derived.RangeFuncLeaves
namespace Go.Proofs.YtccmcfpmknpccaaGreatDoor
set_option maxHeartbeats 8000000
open Go.RowKit V
set_option maxHeartbeats 8000000
set_option maxRecDepth 100000
variable {w w0:Dc} {a b base i id j k m off:Nat} {args lb vs xs:Dm} {ahead l s:LB} {A:oA} {L M:Dl} {kind:Int} {P:De} {f gf:FuncId} {ρ:Dj} {K R:Di} {o oj:Oper} {ds:Dq} {ops:Array Oper} {Q':Exit->Act->Dk} {assign body:Code} {J:Dl->Dk}
theorem V.LoadV.cellsE{o:Nat}{v:Dh}{K:Dh->Prop}(h:CellsAt w b o vs)(j:Nat)(e:off=o+j)(H:vs[j]?=some v)(O:K v):LoadV w b off K:=by
 subst e;exact LoadV.cells h j H O
theorem qaa5{o:Nat}{v:Dh}(h:CellsAt w b o vs)(j:Nat)(H:vs[j]?=some v)(e:off=o+j):w.cell? ⟨b,off,none⟩=some v:=by rw[e];exact h j v H
theorem qgd(b:Nat)(l:LB)(w:Dc)(h:TreeAt w b l):Gv Do 65 [pp b] w λr w'=>r=ii (vNum l 3)/\w'=w:=by
 obtain⟨P3,O,S3,U,V3,H,W,Z,aa,ab⟩:=(h.lv 3 Oo).h;refine ze Tryz.func65 Tryz.ntmps65 ?_;refine zJ 3 ?_;(conv=>whnf);refine LoadV.cellsE H 0 (by rw[lvSz];first|done|rfl) rfl (zw ?_);exact⟨rfl,rfl⟩
def zq:Dp:=#[ii 0,ii 0,ii 0,ii 0]
def qmu(l:LB)(i:Nat):Dh:=
 if i<vNum l 3/\tOk l i=true then .tuple #[.agg #[ii (tNum l i 0),ii (tNum l i 1),ii (tNum l i 2),ii (tNum l i 3)],.bool true]else .tuple #[.agg zq,.bool false]
theorem q4x(h:tOk l i=true)(j:Nat)(H:j<4):qhl l i j=true:=by
 simp only[tOk,AB]at h;obtain⟨⟨⟨O,U⟩,W⟩,Z⟩:=h
 match j,H with
 | 0,_=>exact O
 | 1,_=>exact U
 | 2,_=>exact W
 | 3,_=>exact Z
theorem q4w(H:j<4)(h:¬qhl l i j=true):qmu l i=.tuple #[.agg zq,.bool false]:=by rw[qmu,Ab λO=>h (q4x O.2 j H)]
def qF(l:LB)(i j x:Nat):Dh:=ii (if 3<j+x then tNum l i x else 0:Nat)
theorem q9e(h:k+j=3):updF (qF l i j) k (ii (tNum l i k))=qF l i (j+1):=by
 funext x
 simp only[updF,qF]
 by_cases e:x=k
 ·rw[Af e,Af Oo,e]
 ·rw[Ab e]
  by_cases H:3<j+x
  ·rw[Af H,Af Oo]
  ·rw[Ab H,Ab Oo]
theorem q45(b:Nat)(l:LB)(i:Nat)(w:Dc)(h:TreeAt w b l)(hi:i<=1048576):Gv Do 144 [pp b,ii i] w λv w'=>v=qmu l i/\Ext w w':=by
 refine ze Tryz.func144 Tryz.ntmps144 ?_;refine znm (Mem.nil w) ?_;intro W w1 H;have H:Mem w w1 [(W,.cells zq 95)]:=H;refine zu ?_;refine zcv (qgd b l w1 (h.ext H.ext)) ?_;rintro r w2 ⟨rfl,rfl⟩;(conv=>whnf);refine zt ?_;refine zC (λ_=>zw ?_) (λ_=>zw ?_)
 ·refine StoreA.all H (i:=0) rfl rfl Od λw9 H=>zw ?_;refine qj (R:=λv w'=>v=qmu l i/\Ext w w') (zw ?_);refine zl H 0 ?_;exact⟨by rw[qmu,Ab (λhx=>by omega)];rfl,H.ext⟩
 have ag:i<vNum l 3:=by omega
 refine znm H ?_;intro Z w3 H;have H:Mem w w3 [(Z,.cells (fnA 4 (qF l i 0)) 95),(W,.cells zq 95)]:=H;(conv=>whnf);refine qm (λj:Nat=>[(0,pp b),(1,ii (tUp l i (min j 3))),(4,pp W),(5,.bool false),(6,pp Z),(7,ii (3-(j:Int)))])
  (λj w'=>j<=4/\(∀m,m<j->qhl l i m=true)/\Mem w w' [(Z,.cells (fnA 4 (qF l i j)) 95),(W,.cells zq 95)]) (λj=>4-j) 0 fq ⟨by omega,λm H=>by omega,H⟩ ?_
 clear H;rintro j w4 am ⟨j1,hf,H⟩
 by_cases hj:j=4
 ·subst hj;refine zu ?_;replace H:Mem w w4 [(Z,.cells #[ii (tNum l i 0),ii (tNum l i 1),ii (tNum l i 2),ii (tNum l i 3)] 95),(W,.cells zq 95)]:=H;refine zl H 0 ?_;refine zS H 1 λw9 H=>zw ?_;refine qj (R:=λv w'=>v=qmu l i/\Ext w w') (zw ?_);refine zl H 1 ?_;have ah:tOk l i=true:=by rw[tOk,hf 0 Oo,hf 1 Oo,hf 2 Oo,hf 3 Oo];rfl
  exact⟨(Af ⟨ag,ah⟩).symm,H.ext⟩
 obtain⟨k,hk⟩:∃k,k+j=3:=⟨3-j,by omega⟩
 obtain⟨P,cp,S,cs,V,hc,hP,hS,hl,hv⟩:=(h.lv k Oo).h;have hn:=h.n k Oo;obtain⟨y,ey⟩:∃y,y=tUp l i j:=⟨_,rfl⟩
 have O:qhl l i j=(decide (y<vNum l k)&&(decide (j=3)||tVec l k)):=by rw[ey,show k=3-j by omega];rfl
 rw[show min j 3=j by omega,<-ey];refine zu ?_;refine IdxV.at_ k Oo Oo (zw ?_);refine LoadV.cellsE (hc.ext H.ext) 0 (by rw[lvSz];dsimp only;omega) rfl ?_;refine if hy:y<vNum l k then if ai:k=0 then ?yk else ?yv else ?no
 case' yv=>rcases hv with⟨hx,rfl⟩|⟨_,aa,vb,rfl,aj⟩
 all_goals
  refine zu ?_
 case' yv.inl|yv.inr=>
  refine LoadV.cellsE (hc.ext H.ext) 7 (by rw[lvSz];dsimp only;omega) rfl (zu ?_)
 case' no=>have ab:¬qhl l i j=true:=by rw[O,Be hy];simp
 case' yv.inl=>have ab:¬qhl l i j=true:=by rw[O,hx.resolve_left ai,Be (show ¬j=3 by omega)];simp
 case no|yv.inl=>
  refine StoreA.all H (i:=1) rfl rfl Od λw9 H=>zw ?_;refine qj (R:=λv w'=>v=qmu l i/\Ext w w') (zw ?_);refine zl H 1 ?_;exact⟨by rw[q4w Oo ab];rfl,H.ext⟩
 all_goals
  refine zcv (qbt b _ y (tw l k) cp P (qg l k) _ (qaa5 (hc.ext H.ext) 1 rfl (by rw[lvSz];dsimp only;omega)) (qaa5 (hc.ext H.ext) 5 rfl (by rw[lvSz];dsimp only;omega)) (hP.ext H.ext) (h.wd k Oo) Oo) ?_;rintro r an ⟨rfl,ac⟩;replace H:=H.call ac;(conv=>whnf);refine IdxV.at_ k Oo Oo (zw ?_);refine StoreV.fn H (i:=0) rfl k (by rw[show tsz Do 3=1 from by kernel_rfl];omega) Oo rfl ?_;clear H;intro ad H;replace H:Mem w ad [(Z,.cells (fnA 4 (updF (qF l i j) k (ii (numP (qg l k) (tw l k) y)))) 95),(W,.cells zq 95)]:=H;rw[show numP (qg l k) (tw l k) y=tNum l i k by rw[tNum,ey,show 3-k=j by omega],q9e hk]at H;refine zu ?_
 case' yv.inr=>
  have U:=aa;simp only[tVec,AB,decide_eq_true_eq]at U;obtain⟨⟨ae,ak⟩,al⟩:=U;refine LoadV.cellsE (hc.ext H.ext) 7 (by rw[lvSz];dsimp only;omega) rfl (zw ?_);refine zcv (qtf (qd l k) S cs vb y ad (hS.ext H.ext) hl ae (by rw[ak,al];exact H.ext.get aj) Oo) ?_;rintro r ao ⟨rfl,af⟩;replace H:=H.call af;refine zu ?_;have e1:qfa (qd l k) y=tUp l i (min (j+1) 3):=by rw[show min (j+1) 3=j+1 by omega,ey,show k=3-j by omega];rfl
  have e2:qhl l i j=true:=by rw[O,AF hy,aa];simp
 case' yk=>
  have e1:y=tUp l i (min (j+1) 3):=by rw[ey,show min (j+1) 3=j by omega]
  have e2:qhl l i j=true:=by rw[O,AF hy,AF (show j=3 by omega)];rfl
 all_goals exact⟨j+1,⟨rfl,Ad (λn:Nat=>ii (n:Int)) e1,rfl,rfl,rfl,Ad (Value.int .i64) Oo,trivial⟩,⟨by omega,up hf e2,H⟩,by omega⟩
open Go.RowKit
namespace V
def byV(l:LB):Dm:=l.map λc=>Value.int .u8 c.toNat
theorem qao(l:LB):(byV l).length=l.length:=by simp[byV]
section
variable {P:De} {e:Df} {w0 w w':Dc} {a b c:Dh} {x y z:LB}
theorem qbn{H n:Nat}{v:Dh}(h:w.ownsRow base e H v n xs):∃A c,v=.slice A n c:=by
 rcases h.2 with⟨rfl,rfl⟩|⟨g,O,U,rfl,_⟩
 ·exact⟨_,_,rfl⟩
 ·exact⟨_,_,rfl⟩
theorem qry(h:SlAt encB 1 w A l):byV l≠[]->∃b off,A=some ⟨b,off,none⟩/\CellsAt w b off (byV l):=by
 intro H;obtain⟨b,off,U,W⟩:=h.at_ (by rintro rfl;exact H rfl);refine⟨b,off,U,λk v O=>?_⟩;rw[byV,Ar]at O;obtain⟨u,Z,rfl⟩:=Cn.1 O;have:=W k u Z 0 (.int .u8 u.toNat) rfl
 simpa using this
theorem qs7{v:Dh}(h:w.ownsRow base e 1 v l.length (byV l)):BS w v l:=by
 rcases h.2 with⟨rfl,Z⟩|⟨g,O,U,rfl,h1,h2,h3,h4,h5,h6⟩
 ·have:l=[]:=AK Z;subst this;exact BS.nil w
 ·refine⟨_,O,rfl,h3,⟨λ_=>⟨g,0,rfl,λj u hu k v W=>?_⟩⟩⟩;cases k with
  | succ k=>simp[encB]at W
  | zero=>
   simp only[encB,Bb,AN]at W;subst W;have H:(U.toList.take (l.length*1))[j]?=some (.int .u8 u.toNat):=by rw[h6,byV,Ar,hu];rfl
   rw[Bn]at H
   split at H
   ·rw[qa h2]
    simpa using H
   ·cases H
end
end V
structure LvlV(l:LB)(k:Nat):Prop where
 vec:VecOk (qd l k)
 n:vN (qd l k)=vNum l k
 m:vM (qd l k)=vNum l (k-1)
 last:0<vNum l k->bitN ((qd l k).drop 8) (vNum l k-1)=1
theorem LvlV.tvec(h:LvlV l k):tVec l k=true:=by
 unfold tVec;rw[h.vec.ok,AF h.n,AF h.m];rfl
theorem LvlV.rank(h:LvlV l k)(i:Nat)(hi:i<=vNum l k):qfa (qd l k) i=cnt ((qd l k).drop 8) i:=h.vec.rank i (by rw[h.n];exact hi)
theorem LvlV.lt(h:LvlV l k)(i:Nat)(hi:i<vNum l k):qfa (qd l k) i<vNum l (k-1):=by
 rw[h.rank i Oo,<-h.m,<-h.vec.ones,h.n];have e:vNum l k=vNum l k-1+1:=by omega
 have H:=h.last Oo;have O:cnt ((qd l k).drop 8) i<=cnt ((qd l k).drop 8) (vNum l k-1):=qef Oo
 grind [cnt]
section
variable {l:LB} (hL:∀k,1<=k->k<=3->LvlV l k) {i:Nat} (hi:i<vNum l 3)
include hL hi
theorem q6p:∀j,j<=3->tUp l i j<vNum l (3-j)
 | 0,_=>hi
 | j+1,H=>by
  have h:=q6p j Oo;have:=(hL (3-j) Oo Oo).lt _ h
  grind [tUp]
theorem q91:tOk l i=true:=by
 have h:=q6p hL hi;unfold tOk qhl;rw[AF (h 0 Oo),AF (h 1 Oo),AF (h 2 Oo),AF (h 3 Oo),(hL 3 Oo Oo).tvec,(hL 2 Oo Oo).tvec,(hL 1 Oo Oo).tvec];rfl
end
structure DSt(m:LB)(i:Nat)(last:LB)(p:Nat):Prop where
 le:p<=(qc m).length
 st:∀j,i=j+1->blk (qc m) (qy m (j/16)) (j%16)=(last,p,0)
theorem DSt.step{m:LB}{last:LB}{p:Nat}(h:DSt m i last p)(Z:i%16=0->qy m (i/16)=p){first:Bool}(hf:first=decide (i%16=0))(he:(entG ((qc m).drop p) first last).2.2=0):DSt m (i+1) (entG ((qc m).drop p) first last).1 (p+(entG ((qc m).drop p) first last).2.1):=by
 have O:=(qev he).2;have aa:=h.le;rw[zld]at O;refine⟨by omega,λj hj=>?_⟩;obtain rfl:j=i:=by omega
 have U:∀b x,entG ((qc m).drop p) b x=entG ((qc m).drop p) first last->qet (qc m) p b x=((entG ((qc m).drop p) first last).1,p+(entG ((qc m).drop p) first last).2.1,0):=λb x e=>by
  grind [qet]
 by_cases W:j%16=0
 ·rw[W,Z W];have H:first=true:=by simp_all
  subst H;exact U _ _ (by rfl)
 ·have H:first=false:=by simp_all
  subst H;obtain⟨k,rfl⟩:∃k,j=k+1:=⟨j-1,by omega⟩
  have hk:=h.st k rfl;have e1:(k+1)/16=k/16:=by omega
  have e2:(k+1)%16=k%16+1:=by omega
  grind [blk]
theorem DSt.get{m:LB}{last:LB}{p:Nat}(h:DSt m (i+1) last p)(hi:i<dN m):dGet m i=some last:=by
 have:=h.st i rfl
 grind [dGet]
def gL(d:LB):Nat->LB
 | 0=>[]
 | i+1=>if i%2048=0 then gL d i++fixL (cnt d i) 4 else gL d i
def sL(d:LB):Nat->LB
 | 0=>[]
 | i+1=>if i%256=0 then sL d i++fixL (cnt d i-cnt d (2048*(i/2048))) 2 else sL d i
def mL(d:LB):Nat->LB
 | 0=>[]
 | i+1=>if bitN d i=1/\cnt d i%512=0 then mL d i++fixL i 4 else mL d i
theorem qnv(d:LB)(i:Nat):(gL d i).length=4*upN i 2048:=by
 induction i<;>grind [gL,qh,upN]
theorem qtp(d:LB)(i:Nat):(sL d i).length=2*upN i 256:=by
 induction i<;>grind [sL,qh,upN]
theorem qze(d:LB)(i:Nat):(mL d i).length=4*upN (cnt d i) 512:=by
 induction i<;>grind [mL,cnt,upN,qh,bitN]
theorem qabc(d:LB)(i j:Nat)(H:j<upN i 2048):((gL d i).drop (4*j)).take 4=fixL (cnt d (2048*j)) 4:=by
 induction i<;>grind [upN,qnv,gL,qh]
theorem qace(d:LB)(i j:Nat)(H:j<upN i 256):((sL d i).drop (2*j)).take 2=fixL (cnt d (256*j)-cnt d (2048*(j/8))) 2:=by
 induction i<;>grind [upN,qtp,sL,List.drop_left,qh]
theorem qkf(d:LB)(a b:Nat):cnt d (a+b)<=cnt d a+b:=by
 induction b<;>grind [qgl,cnt]
def vD(l:LB):LB:=(l.drop 8).take (upN (vN l) 8)
theorem qr7(l:LB)(n:Nat)(H:n<=vN l):cnt (vD l) n=cnt (l.drop 8) n:=qr6 _ _ _ (by unfold upN;omega)
theorem VecOk.of(W:vOk l=true)(h1:cnt (vD l) (vN l)=vM l)(hd:l.drop (qi (vN l))=gL (vD l) (vN l)++(sL (vD l) (vN l)++mL (vD l) (vN l))):VecOk l:=by
 have hn:vN l<=67108864:=by
  grind [vOk]
 refine⟨W,λj O=>?_,λj O=>?_,by grind [qr7]⟩
 ·have H:=qnv (vD l) (vN l);rw[<-Ax,hd,BI Oo,Bx (by grind),qabc _ _ _ O,qgz]
  grind [upN,qdu,qr7]
 ·have H:=qnv (vD l) (vN l);have U:=qtp (vD l) (vN l);have e:qz (vN l)+2*j=qi (vN l)+((gL (vD l) (vN l)).length+2*j):=by grind [qz]
  have Z:∀A B:LB,(A++B).drop (A.length+2*j)=B.drop (2*j):=λA B=>by simp
  rw[e,<-Ax,hd,Z,BI Oo,Bx (by grind),qace _ _ _ O,qgz];have aa:256*j<=vN l:=by grind [upN]
  have hc:cnt (vD l) (256*j)<=cnt (vD l) (2048*(j/8))+2048:=by
   have:=qkf (vD l) (2048*(j/8)) (256*j-2048*(j/8));have e4:2048*(j/8)+(256*j-2048*(j/8))=256*j:=by omega
   grind
  grind [qr7]
def qab(d:LB)(n:Nat):LB:=fixL n 4++fixL (cnt d n) 4++d++gL d n++sL d n++mL d n
def ahN(d:LB)(i:Nat):Nat:=if i=0 then 0 else cnt d (2048*((i-1)/2048))
def PadB(d:LB)(n:Nat):Prop:=∃t,n<=t/\t<8*d.length/\bitN d t=1
def qeb(n i:Nat):Nat:=
 if i<qz n then qi n+(i-qi n)/4*4 else if i<qak n then qz n+(i-qz n)/2*2 else qak n+(i-qak n)/4*4
def spF(l:LB)(t:Nat):Nat×Nat:=
 if l[qi (vN l)+t]?=(qab (vD l) (vN l))[qi (vN l)+t]? then(0,0)else(qeb (vN l) (qi (vN l)+t),20)
open Classical in
noncomputable def voE(l:LB):Nat×Nat:=
 if PadB (vD l) (vN l)then(7+upN (vN l) 8,12)else if cnt (vD l) (vN l)≠vM l then(4,20)else errF (spF l) (qa7 (vN l) (vM l)-qi (vN l))
theorem qaaq(h:PadB (vD l) (vN l)):voE l=(7+upN (vN l) 8,12):=by rw[voE,Af h]
theorem qaap(h:¬PadB (vD l) (vN l))(H:cnt (vD l) (vN l)≠vM l):voE l=(4,20):=by grind [voE]
theorem qadj(h:¬PadB (vD l) (vN l))(W:cnt (vD l) (vN l)=vM l)(hi:qi (vN l)<=i)(H:i<qa7 (vN l) (vM l))(Z:∀j,qi (vN l)<=j->j<i->l[j]?=(qab (vD l) (vN l))[j]?)(O:l[i]?≠(qab (vD l) (vN l))[i]?):voE l=(qeb (vN l) i,20):=by
 obtain⟨t,rfl⟩:∃t,i=qi (vN l)+t:=⟨i-qi (vN l),by omega⟩
 have U:spF l t=(qeb (vN l) (qi (vN l)+t),20):=by grind [spF]
 rw[voE,Ab h,Ab Oo,q7s (k:=t) (λj h3=>by grind [spF]) Oo (by simp_all),U]
theorem qacw(h:¬PadB (vD l) (vN l))(H:cnt (vD l) (vN l)=vM l)(O:∀j,qi (vN l)<=j->j<qa7 (vN l) (vM l)->l[j]?=(qab (vD l) (vN l))[j]?):voE l=(0,0):=by
 have U:∀k,k<qa7 (vN l) (vM l)-qi (vN l)->spF l k=(0,0):=λk W=>by grind [spF]
 rw[voE,Ab h,Ab Oo];have:∀n,n<=qa7 (vN l) (vM l)-qi (vN l)->errF (spF l) n=(0,0):=by
  intro n Z
  induction n<;>grind [errF]
 simp_all
theorem q5n(h:(voE l).2=0):¬PadB (vD l) (vN l)/\cnt (vD l) (vN l)=vM l/\∀j,qi (vN l)<=j->j<qa7 (vN l) (vM l)->l[j]?=(qab (vD l) (vN l))[j]?:=by
 by_cases H:PadB (vD l) (vN l)
 ·grind [qaaq]
 by_cases O:cnt (vD l) (vN l)=vM l
 ·refine⟨H,O,λj W U=>?_⟩;rw[voE,Ab H,Ab Oo]at h;have Z:=qb8 h (j-qi (vN l)) Oo
  grind [spF]
 grind [qaap]
theorem qed(d:LB)(n:Nat):(qab d n).length=8+d.length+4*upN n 2048+2*upN n 256+4*upN (cnt d n) 512:=by
 simp only[qab,zla,qh,qnv,qtp,qze]
theorem qk8(d:LB)(n:Nat):(qab d n).drop (8+d.length)=gL d n++(sL d n++mL d n):=by
 have e:qab d n=(fixL n 4++fixL (cnt d n) 4++d)++(gL d n++(sL d n++mL d n)):=by simp only[qab,Au]
 have H:8+d.length=(fixL n 4++fixL (cnt d n) 4++d).length:=by simp only[zla,qh]
 rw[e,H,List.drop_left]
theorem qxl{m:LB}(H:l.length=m.length)(h:∀j,a<=j->j<l.length->l[j]?=m[j]?):l.drop a=m.drop a:=by
 apply Bi;intro i;rw[Cc,Cc]
 by_cases hi:a+i<l.length
 ·exact h (a+i) Oo hi
 ·rw[AS Oo,AS Oo]
theorem VecOk.voE{l:LB}(Z:vOk l=true)(h:(voE l).2=0):VecOk l:=by
 obtain⟨_,h2,h3⟩:=q5n h;simp only[vOk,AB,decide_eq_true_eq]at Z;have aa:qa7 (vN l) (vM l)=qi (vN l)+4*upN (vN l) 2048+2*upN (vN l) 256+4*upN (vM l) 512:=rfl;have U:qi (vN l)=8+upN (vN l) 8:=rfl;have H:(vD l).length=upN (vN l) 8:=by rw[vD,A6,zld];omega
 have W:=qed (vD l) (vN l);have O:l.length=(qab (vD l) (vN l)).length:=by rw[W,h2,H];omega
 refine VecOk.of (by simp only[vOk,AB,decide_eq_true_eq];exact Z) h2 ?_;rw[<-qk8,H,<-U];exact qxl O λj h4 h5=>h3 j Oo Oo
def inF(F:Nat->Int):Nat->Dh:=λj=>ii (F j)
def updI(F:Nat->Int)(i:Nat)(v:Int):Nat->Int:=λj=>if j=i then v else F j
theorem q1g(F:Nat->Int)(i:Nat)(v:Int):updI F i v i=v:=by simp[updI]
theorem q1h(F:Nat->Int)(i j:Nat)(v:Int)(h:j≠i):updI F i v j=F j:=by simp[updI,h]
theorem qaaj(F:Nat->Int)(i:Nat)(v:Int):updF (inF F) i (ii v)=inF (updI F i v):=by
 funext j
 by_cases h:j=i
 ·simp[updF,updI,inF,h]
 ·simp[updF,updI,inF,h]
theorem V.LoadV.fi{n:Nat}{F:Nat->Int}{t:Df}{x:Int}{K:Dh->Prop}(h:Mem w0 w L)(hi:L[i]?=some (b,.cells (fnA n (inF F)) t))(j:Nat)(e:off=j)(H:j<n)(O:F j=x)(U:K (ii x)):LoadV w b off K:=
 LoadV.fn h hi j e H (by rw[<-O];rfl) U
theorem V.StoreV.fi{n:Nat}{F:Nat->Int}{t:Df}{x:Int}{K:Dk}(h:Mem w0 w L)(hi:L[i]?=some (b,.cells (fnA n (inF F)) t))(j:Nat)(e:off=j)(O:j<n)(U:∀w',Mem w0 w' (L.set i (b,.cells (fnA n (inF (updI F j x))) t))->K w'):StoreV w b off (ii x) K:=
 StoreV.fn h hi j e O rfl λw' H=>U w' (by rw[qaaj]at H;exact H)
theorem qxz(n:Nat)(F:Nat->Int):∀v∈(fnA n (inF F)).toList,v.oneCell'=true:=by
 intro v H;simp only[fnA,AI]at H;obtain⟨j,_,rfl⟩:=H;rfl
theorem qwg(v:Dh)(n:Nat):qcu [v] n=List.replicate n v:=by
 induction n<;>grind [qcu]
def encU(n:Nat):Dm:=[.int .u64 n]
def unpN(p:LB)(n H:Nat):Dn:=(List.range n).map λi=>valB p (i*H) H
open Classical in
noncomputable def opE(p:LB)(n H:Nat):Nat:=if ∃t,n*H<=t/\t<8*p.length/\bitN p t=1 then 12 else 0
def wMx(xs:Dn):Nat->Nat
 | 0=>0
 | i+1=>max (wMx xs i) (qae (xs.getD i 0))
noncomputable def vcE(l:LB)(k:Nat):Nat×Nat:=
 if tVec l k=false then(tEnd l k,180)else if(voE (qd l k)).2≠0 then(tEnd l k+(voE (qd l k)).1,(voE (qd l k)).2)
 else if 0<vNum l k/\bitN ((qd l k).drop 8) (vNum l k-1)≠1 then(tEnd l k,180)else(0,0)
theorem qact(h:tVec l k=false):vcE l k=(tEnd l k,180):=by rw[vcE,Af h]
theorem qacv(h:tVec l k=true)(H:(voE (qd l k)).2≠0):vcE l k=(tEnd l k+(voE (qd l k)).1,(voE (qd l k)).2):=by grind [vcE]
theorem q5i(h:tVec l k=true)(H:(voE (qd l k)).2=0)(O:0<vNum l k)(U:bitN ((qd l k).drop 8) (vNum l k-1)≠1):vcE l k=(tEnd l k,180):=by
 grind [vcE]
theorem qacu(h:tVec l k=true)(H:(voE (qd l k)).2=0)(O:0<vNum l k->bitN ((qd l k).drop 8) (vNum l k-1)=1):vcE l k=(0,0):=by
 grind [vcE]
def tX(l:LB)(k i:Nat):Nat:=valB (qg l k) (i*tw l k) (tw l k)
def nmF(l:LB)(k i:Nat):Nat×Nat:=
 if(k≠0/\tX l k i=0)\/4194304<tX l k i then(tvAt l k+1,180)
 else if 0<i/\(k=0\/bitN ((qd l k).drop 8) (i-1)≠1)/\tX l k i<=tX l k (i-1)then(tvAt l k+1,160)else(0,0)
noncomputable def lvE(l:LB)(k:Nat):Nat×Nat:=
 if opE (qg l k) (vNum l k) (tw l k)≠0 then(tEnd l k-1,12)else if wMx (unpN (qg l k) (vNum l k) (tw l k)) (vNum l k)≠tw l k then(tvAt l k,14)
 else if k≠0/\(vcE l k).2≠0 then vcE l k else errF (nmF l k) (vNum l k)
noncomputable def toE(l:LB):Nat×Nat:=if(tE l).2≠0 then tE l else errF (lvE l) 4
section
variable {l:LB} {k:Nat}
theorem q8a(h:opE (qg l k) (vNum l k) (tw l k)≠0):lvE l k=(tEnd l k-1,12):=by rw[lvE,Af h]
theorem qza(h:opE (qg l k) (vNum l k) (tw l k)=0)(H:wMx (unpN (qg l k) (vNum l k) (tw l k)) (vNum l k)≠tw l k):lvE l k=(tvAt l k,14):=by
 grind [lvE]
theorem q8b(h:opE (qg l k) (vNum l k) (tw l k)=0)(H:wMx (unpN (qg l k) (vNum l k) (tw l k)) (vNum l k)=tw l k)(O:k≠0)(U:(vcE l k).2≠0):lvE l k=vcE l k:=by
 grind [lvE]
theorem qy9(h:opE (qg l k) (vNum l k) (tw l k)=0)(H:wMx (unpN (qg l k) (vNum l k) (tw l k)) (vNum l k)=tw l k)(O:k=0\/(vcE l k).2=0):lvE l k=errF (nmF l k) (vNum l k):=by
 grind [lvE]
theorem qabt(h:opE (qg l k) (vNum l k) (tw l k)=0)(H:wMx (unpN (qg l k) (vNum l k) (tw l k)) (vNum l k)=tw l k)(O:k=0\/(vcE l k).2=0)(U:∀j,j<vNum l k->(nmF l k j).2=0):(lvE l k).2=0:=by grind [qy9,qbd]
theorem q3o(h:(lvE l k).2=0):opE (qg l k) (vNum l k) (tw l k)=0/\wMx (unpN (qg l k) (vNum l k) (tw l k)) (vNum l k)=tw l k/\(k=0\/(vcE l k).2=0)/\∀j,j<vNum l k->(nmF l k j).2=0:=by
 by_cases H:opE (qg l k) (vNum l k) (tw l k)=0
 all_goals grind [qb8,qy9,q8b,qza,q8a]
theorem qabv(h:¬((k≠0/\tX l k i=0)\/4194304<tX l k i))(H:¬(0<i/\(k=0\/bitN ((qd l k).drop 8) (i-1)≠1)/\tX l k i<=tX l k (i-1))):nmF l k i=(0,0):=by grind [nmF]
end
theorem qadg(h:(tE l).2≠0):toE l=tE l:=by rw[toE,Af h]
theorem qacn(h:(tE l).2=0)(H:∀k,k<4->(lvE l k).2=0):(toE l).2=0:=by
 grind [toE,qbd]
theorem qty(h:(toE l).2=0):(tE l).2=0/\∀k,k<4->(lvE l k).2=0:=by
 by_cases H:(tE l).2=0
 ·rw[toE,Ab Oo]at h;exact⟨H,qb8 h⟩
 grind [qadg]
def comL:LB->LB->Nat
 | x::a,y::b=>if x=y then comL a b+1 else 0
 | _,_=>0
theorem qng:∀a b:LB,comL a b=comL b a
 | [],[]=>rfl
 | [],_::_=>rfl
 | _::_,[]=>rfl
 | x::a,y::b=>by
  by_cases h:x=y
  ·rw[comL,comL,Af h,Af h.symm,qng a b]
  ·rw[comL,comL,Ab h,Ab (λe=>h e.symm)]
theorem qpl:∀{i:Nat} {a b:LB},(∀j,j<i->a[j]?=b[j]?)->i<=a.length->i<=b.length->(i<a.length->i<b.length->a[i]?≠b[i]?)->comL a b=i
 | 0,[],_,_,_,_,_=>by cases ‹LB›<;>rfl
 | 0,_::_,[],_,_,_,_=>rfl
 | 0,x::a,y::b,_,_,_,h=>by
  have:=h Js Js;rw[comL,Ab (λe=>this (by rw[e];rfl))]
 | i+1,[],_,_,h,_,_=>by simp at h
 | i+1,_::_,[],_,_,h,_=>by simp at h
 | i+1,x::a,y::b,H,U,W,Z=>by
  have O:=H 0 Oo;simp only[Bb,AN]at O;have ih:=qpl (i:=i) (a:=a) (b:=b) (λj hj=>by have:=H (j+1) Oo;simpa using this) (by simpa using U) (by simpa using W) (λg1 g2=>by have:=Z (by simpa using g1) (by simpa using g2);simpa using this);rw[comL,Af O,ih]
theorem qlw{s:Dd}(h:i<s.size):s.data.toList[i]?=some (gb s i):=by
 simp_all[gb]
def leL(a b:LB):Bool:=slt ⟨a.toArray⟩ ⟨b.toArray⟩||seq ⟨a.toArray⟩ ⟨b.toArray⟩
def dSt(m:LB):Nat->LB×Nat
 | 0=>([],0)
 | i+1=>((entG ((qc m).drop (dSt m i).2) (decide (i%16=0)) (dSt m i).1).1,(dSt m i).2+(entG ((qc m).drop (dSt m i).2) (decide (i%16=0)) (dSt m i).1).2.1)
def dnF(m:LB)(i:Nat):Nat×Nat:=
 if i%16=0/\qy m (i/16)≠(dSt m i).2 then(qx m+(dSt m i).2,161)
 else if(entG ((qc m).drop (dSt m i).2) (decide (i%16=0)) (dSt m i).1).2.2≠0 then(qx m+(dSt m i).2,(entG ((qc m).drop (dSt m i).2) (decide (i%16=0)) (dSt m i).1).2.2)
 else if 0<i/\leL (dSt m (i+1)).1 (dSt m i).1=true then(qx m+(dSt m i).2,160)
 else if i%16≠0/\(numL ((qc m).drop (dSt m i).2)).1≠comL (dSt m (i+1)).1 (dSt m i).1 then(qx m+(dSt m i).2,161)else(0,0)
noncomputable def doE(m:LB):Nat×Nat:=
 if(dE m).2≠0 then dE m else if opE (qah m) (upN (dN m) 16) (dW m)≠0 then(qx m-1,12)
 else if(errF (dnF m) (dN m)).2≠0 then errF (dnF m) (dN m)else if(dSt m (dN m)).2<(qc m).length then(qx m+(dSt m (dN m)).2,13)else(0,0)
section
variable {m last:LB} {i p:Nat} (hd:dSt m i=(last,p))
include hd
theorem q2p{first:Bool}(H:first=decide (i%16=0)):dSt m (i+1)=((entG ((qc m).drop p) first last).1,p+(entG ((qc m).drop p) first last).2.1):=by rw[dSt,hd,H]
theorem q2s(H:i%16=0)(O:qy m (i/16)≠p):dnF m i=(qx m+p,161):=by grind [dnF]
theorem qaa9{first:Bool}(H:first=decide (i%16=0))(O:i%16=0->qy m (i/16)=p)(U:(entG ((qc m).drop p) first last).2.2≠0):dnF m i=(qx m+p,(entG ((qc m).drop p) first last).2.2):=by
 grind [dnF]
end
section
variable {m:LB}
theorem q2t(h:(dE m).2≠0):doE m=dE m:=by rw[doE,Af h]
theorem qaba(h:(dE m).2=0)(H:opE (qah m) (upN (dN m) 16) (dW m)=0)(O:∀j,j<dN m->(dnF m j).2=0)(U:¬(dSt m (dN m)).2<(qc m).length):doE m=(0,0):=by
 grind [qbd,doE]
theorem qsd(h:(doE m).2=0):(dE m).2=0/\opE (qah m) (upN (dN m) 16) (dW m)=0/\(∀j,j<dN m->(dnF m j).2=0)/\¬(dSt m (dN m)).2<(qc m).length:=by
 by_cases H:(dE m).2=0
 ·by_cases O:opE (qah m) (upN (dN m) 16) (dW m)=0
  all_goals grind [qb8,doE]
 grind [q2t]
end
def escL:LB->LB
 | []=>[]
 | c::r=>if c=0 then 0::1::escL r else c::escL r
theorem qcm(r:LB):escL (0::r)=0::1::escL r:=by rfl
theorem qbu{c:Dg}(r:LB)(h:c≠0):escL (c::r)=c::escL r:=by rw[escL,Ab h]
theorem qsi(l:LB):(escL l).length<=2*l.length:=by
 induction l<;>grind [escL]
theorem q7u(l:LB):l.length<=(escL l).length:=by
 induction l<;>grind [escL]
section
variable {old new:LB}
theorem qil(H:(old==new)=false)(h:Lib.index s old=-1):Lib.replaceAll s old new=s:=by
 grind [Lib.replaceAll,Lib.replace,Lib.replaceNum,Lib.count_miss,Lib.replaceK]
theorem qf5(H:(old==new)=false)(O:old≠[])(h:Lib.index s old=i):Lib.replaceAll s old new=s.take i++new++Lib.replaceAll (s.drop (i+old.length)) old new:=by
 grind [Lib.count_hit,Lib.replaceAll,Lib.replace,Lib.replaceNum,Lib.replaceK_hit]
theorem q0f(H:(old==new)=false)(O:old≠[])(h:old.isPrefixOf s=true):Lib.replaceAll s old new=new++Lib.replaceAll (s.drop old.length) old new:=by
 have hi:Lib.index s old=((0:Nat):Int):=Lib.index_first (An _) (by grind [Lib.occAt]) (λj U=>by omega);rw[qf5 H O hi];simp
theorem qtl{c:Dg}{r:LB}(O:(old==new)=false)(U:old≠[])(h:old.isPrefixOf (c::r)=false):Lib.replaceAll (c::r) old new=c::Lib.replaceAll r old new:=by
 have W:Lib.index (c::r) old=if Lib.index r old==-1 then -1 else Lib.index r old+1:=by rw[Lib.index,h];simp
 by_cases Z:Lib.index r old=-1
 ·grind [qil]
 ·obtain⟨i,hi⟩:∃i:Nat,Lib.index r old=i:=⟨(Lib.index r old).toNat,by have:=Lib.index_ge r old;omega⟩
  have H:Lib.index (c::r) old=((i+1:Nat):Int):=by
   simp_all
  rw[qf5 O U hi,qf5 O U H]
  grind
end
theorem q9i(l:LB):Lib.replaceAll l [0] [0,1]=escL l:=by
 induction l with
 | nil=>rfl
 | cons c r H=>
  grind [q0f,qcm,qtl,qbu]
theorem qoh(l:LB):Lib.replaceAll (escL l) [0,1] [0]=l:=by
 induction l with
 | nil=>rfl
 | cons c r H=>
  grind [qcm,q0f,qbu,qtl]
theorem qxd{H:LB}(hi:i<=s.length)(h:Lib.occAt s H i=true)(O:∀j,j<i->Lib.occAt s H j=false):Lib.cut s H=(s.take i,s.drop (i+H.length),true):=by
 grind [Lib.cut,Lib.index_first]
theorem qzn{a b:LB}{H:LB}:Lib.occAt (a++(H++b)) H a.length=true:=by
 grind [Lib.occAt]
theorem q7v(l b:LB):∀j,j<(escL l).length->Lib.occAt (escL l++([0,0]++b)) [0,0] j=false:=by
 induction l with
 | nil=>grind [escL]
 | cons c r O=>
  intro j H
  by_cases h:c=0
  ·subst h;rw[qcm]at H|-
   match j with
   | 0=>rfl
   | 1=>rfl
   | j+2=>exact O j (by simpa using H)
  ·rw[qbu _ h]at H|-
   match j with
   | 0=>grind [Lib.occAt]
   | j+1=>exact O j (by simpa using H)
theorem qxc(l b:LB):Lib.cut (escL l++([0,0]++b)) [0,0]=(escL l,b,true):=by
 rw[qxd (i:=(escL l).length) Js qzn (q7v l b)];simp
theorem qr9(a b:LB)(h:∀c∈a,c≠0):Lib.cut (a++([0]++b)) [0]=(a,b,true):=by
 rw[qxd (i:=a.length) Js qzn (λj H=>by
  grind [Lib.occAt,List.drop_eq_getElem_cons])]
 simp
def qad(t:TM):LB:=if t.kind=3 then escL t.text.data.toList++([0,0]++(t.type.data.toList++([0]++t.lang.data.toList)))else t.text.data.toList
structure ReadsAs(kind:Int)(s:LB)(t:TM):Prop where
 kind:t.kind=kind
 ok:qa2 t=0
 entry:qad t=s
theorem qyh{s:Dd}(h:iriE s=0):∀c∈s.data.toList,c≠0:=by
 rintro c H rfl
 grind [refE,iriE,barB]
theorem ReadsAs.plain{t:TM}(h:ReadsAs kind s t)(H:kind≠3):t.text.data.toList=s/\t.type=⟨#[]⟩/\t.lang=⟨#[]⟩:=by
 have O:t.kind≠3:=by rw[h.kind];exact H
 have U:=h.ok;have W:=h.entry
 grind [qad,qa2,qa1]
theorem ReadsAs.lit{t:TM}(h:ReadsAs 3 s t):s=escL t.text.data.toList++([0,0]++(t.type.data.toList++([0]++t.lang.data.toList)))/\∀c∈t.type.data.toList,c≠0:=by
 have O:=h.ok;have H:=h.entry;rw[qad,Af h.kind]at H;refine⟨H.symm,qyh ?_⟩;rw[qa2,Ab (by rw[h.kind];decide),Af h.kind,litE]at O
 grind
theorem q20{a b:LB}(h:escL a=escL b):a=b:=by
 grind [qoh]
theorem qeu{a b:Dd}(h:a.data.toList=b.data.toList):a=b:=by
 cases a;simp_all
theorem ReadsAs.unique{t u:TM}(h:ReadsAs kind s t)(g:ReadsAs kind s u):t=u:=by
 obtain⟨O,tt,ty,tl⟩:=t;obtain⟨U,ut,uy,ul⟩:=u;have W:O=U:=h.kind.trans g.kind.symm;subst W
 by_cases H:kind=3
 ·subst H;obtain⟨Z,h2⟩:=h.lit;obtain⟨g1,g2⟩:=g.lit
  grind [qxc,qr9,qeu,q20]
 ·obtain⟨Z,h2,h3⟩:=h.plain H;obtain⟨g1,g2,g3⟩:=g.plain H
  grind [qeu]
open Classical in
noncomputable def qf4(kind:Int)(s:LB):Option TM:=if h:∃t,ReadsAs kind s t then some h.choose else none
theorem qkx{t:TM}(h:ReadsAs kind s t):qf4 kind s=some t:=by
 have H:∃t,ReadsAs kind s t:=⟨t,h⟩
 grind [qf4,ReadsAs.unique]
theorem qvh(h:∀t,¬ReadsAs kind s t):qf4 kind s=none:=by
 grind [qf4]
theorem qqk{t:TM}(h:qf4 kind s=some t):ReadsAs kind s t:=by
 unfold qf4 at h
 split at h
 all_goals grind
theorem ReadsAs.size{t:TM}(h:ReadsAs kind s t):t.text.size<=s.length/\t.type.size<=s.length/\t.lang.size<=s.length:=by
 by_cases H:kind=3
 ·subst H;obtain⟨O,_⟩:=h.lit;have:=q7u t.text.data.toList;have Z:t.text.data.toList.length=t.text.size:=rfl;have e2:t.type.data.toList.length=t.type.size:=rfl;have e3:t.lang.data.toList.length=t.lang.size:=rfl
  grind
 ·obtain⟨O,U,W⟩:=h.plain H;rw[<-O,U,W];exact⟨Ao _,An _,An _⟩
theorem q4g{t:TM}(h:qf4 kind s=some t)(U:s.length<=262144)(O:InR .i64 kind):TermOk t:=by
 have H:=qqk h;obtain⟨W,Z,h3⟩:=H.size;exact⟨by rw[H.kind];exact O,by omega,by omega,by omega⟩
noncomputable def veF(l:LB)(k:Nat):Nat×Nat:=if(doE (sDict l k)).2=0 then(0,0)else(q8 l k+(doE (sDict l k)).1,(doE (sDict l k)).2)
def vrB(l:LB)(k j:Nat):Prop:=∃s,dGet (sDict l k) j=some s/\∀t,¬ReadsAs ((k+1:Nat):Int) s t
open Classical in
noncomputable def vrF(l:LB)(k:Nat):Nat×Nat:=if ∃j,j<dN (sDict l k)/\vrB l k j then(q8 l k,170)else(0,0)
noncomputable def vwE(l:LB):Nat×Nat:=if(sE l).2≠0 then sE l else if(errF (veF l) 3).2≠0 then errF (veF l) 3 else errF (vrF l) 3
section
variable {l:LB}
theorem q5k(h:(doE (sDict l k)).2=0):(veF l k).2=0:=by rw[veF,Af h]
theorem qacx(h:∀j,j<dN (sDict l k)->¬vrB l k j):(vrF l k).2=0:=by rw[vrF,Ab (λ⟨j,H,O⟩=>h j H O)]
theorem qacy(h:(sE l).2=0)(H:∀k,k<3->(doE (sDict l k)).2=0)(O:∀k,k<3->(vrF l k).2=0):(vwE l).2=0:=by
 have:=qbd (f:=veF l) (n:=3) λj U=>q5k (H j U)
 rw[vwE,Ab Oo,Ab Oo];exact qbd O
end
theorem qbe(s:Dd)(a b:Nat):(s.extract a b).data.toList=(s.data.toList.drop a).take (b-a):=by
 simp[ByteArray.data_extract]
theorem q2o(s H:Dd)(w:Dc)(O:MaxLenAt w)(hs:s.size<=67108864)(U:1<=H.size):Gv Do 340 [.string s,.string H] w λr w'=>r=ii (Lib.countB s H)/\w'=w:=by
 obtain⟨m,W⟩:=O;exact qew Jk ((Tryz.strings_Count_any s H m w Oo W U).mono λe w' ⟨Z,hw⟩=>⟨_,Z,rfl,hw⟩)
theorem q3d(s H:Dd)(w:Dc)(O:MaxLenAt w)(hs:s.size<=67108864):Gv Do 341 [.string s,.string H] w λr w'=>r=ii (Lib.indexB s H)/\w'=w:=by
 obtain⟨m,U⟩:=O;exact qew Jk ((Tryz.strings_Index s H m w Oo U).mono λe w' ⟨W,Z⟩=>⟨_,W,rfl,Z⟩)
theorem q52(s H:Dd)(w:Dc)(O:MaxLenAt w)(hs:s.size<=67108864):Gv Do 344 [.string s,.string H] w λr w'=>
  r=.tuple #[.string ⟨(Lib.cut s.data.toList H.data.toList).1.toArray⟩,.string ⟨(Lib.cut s.data.toList H.data.toList).2.1.toArray⟩,.bool (Lib.cut s.data.toList H.data.toList).2.2]/\Ext w w':=by
 obtain⟨m,U⟩:=O;refine qew Jk ((Tryz.strings_Cut s H m w Oo U).mono λe w' ⟨W,n,Z⟩=>⟨_,W,rfl,?_⟩);subst Z;exact⟨rfl,rfl,rfl,Ao _,λ_ _=>rfl⟩
theorem q72(b n:Nat)(w0 w:Dc)(h:Mem w0 w [(b,.cells #[.pointer none,.slice none 0 0] 472)])(U:n<=281474976710656):
  Gv Do 366 [pp b,ii n] w λr w'=>r=.tuple #[]/\Bld w0 w' b [] []:=by
 have O:=h.own _ mh;refine qew Jk ((Tryz.Builder_Grow_fresh w0.heap.size b n w O.1 O.2 h.ext.size U).mono λe w' ⟨W,⟨Z,v,h2,h3,h4⟩,h5⟩=>⟨_,W,rfl,⟨_,v,.inr rfl,⟨⟨Below.trans h.ext h5,?_,by simp⟩,h3,?_⟩⟩⟩)
 ·intro x H;simp only[Aw,BG,or_false]at H;subst H;exact⟨Z,h2⟩
 ·intro x H;simp only[Aw,BG,or_false]at H;subst H;exact h4
theorem qpv(s:Dd):s.extract 0 s.size=s:=qeu (by rw[qbe];simp;exact Ay znr)
theorem qql(s old new:Dd)(w:Dc)(hM:MaxLenAt w)(aa:seq old new=false)(hs:s.size<=67108864)(ho:(old.size=1/\new.size=2)\/(old.size=2/\new.size=1)):
  Gv Do 320 [.string s,.string old,.string new,ii (-1)] w λr w'=>r=.string ⟨(Lib.replaceAll s.data.toList old.data.toList new.data.toList).toArray⟩/\Ext w w':=by
 have Z:1<=old.size:=by omega
 have ab:(old.data.toList==new.data.toList)=false:=by
  rw[beq_eq_false_iff_ne];intro e;have:old=new:=qeu e;rw[qa1.2 this]at aa;cases aa
 have ae:old.data.toList≠[]:=by
  intro e;have:old.data.toList.length=0:=by rw[e];rfl
  have h2:old.data.toList.length=old.size:=rfl;omega
 refine ze Tryz.func320 Tryz.ntmps320 ?_;rw[aa];refine zv ?_;refine zcv (q2o s old w hM hs Z) ?_;rintro v w' ⟨rfl,rfl⟩;(conv=>whnf);have ac:=Lib.countB_mul_le old Z s.size s znr;obtain⟨K,eK⟩:∃K,K=Lib.countB s old:=⟨_,rfl⟩
 rw[<-eK]at ac|-
 by_cases hK:K=0
 ·have hr:Lib.replaceAll s.data.toList old.data.toList new.data.toList=s.data.toList:=by
   rcases Lib.indexB_cases s old with H|⟨i,H,_⟩
   ·exact qil ab H
   ·have:=Lib.countB_hit s old i Z H;omega
  refine zv ?_;exact⟨by rw[hr],xr⟩
 refine zv ?_;refine znm (Mem.nil w') ?_;intro b w1 hm;have ai:K<=s.size:=A4 (Nat.le_mul_of_pos_right K Z) ac;obtain⟨d,hd,aj,ak⟩:∃d:Int,(K:Int)*((new.size:Int)-(old.size:Int))=d/\-(K:Int)<=d/\d<=K:=by
  rcases ho with⟨Z,h2⟩|⟨Z,h2⟩
  ·exact⟨K,by rw[Z,h2];omega,by omega,by omega⟩
  ·exact⟨-K,by rw[Z,h2];omega,by omega,by omega⟩
 refine Obl.mk ⟨by omega,by omega⟩ (zw ?_);rw[hd];refine Obl.mk ⟨by omega,by omega⟩ ?_;refine Obl.mk ⟨by omega,by omega⟩ ?_;obtain⟨M,eM⟩:∃M:Nat,(s.size:Int)+d=M:=⟨((s.size:Int)+d).toNat,by omega⟩
 rw[eM];refine zcv (q72 b M w' w1 hm Oo) ?_;rintro r w2 ⟨rfl,O⟩;refine zu ?_;refine qm (λx:Nat×Nat×LB=>[(0,.string s),(1,.string old),(2,.string new),(10,pp b),(11,ii x.2.1),(52,ii K),(53,ii x.1)])
  (λx af=>x.1<=K/\x.2.1<=s.size/\x.1+Lib.countB (s.extract x.2.1 s.size) old=K/\x.2.2++Lib.replaceAll (s.data.toList.drop x.2.1) old.data.toList new.data.toList=Lib.replaceAll s.data.toList old.data.toList new.data.toList/\x.2.2.length<=2*x.2.1/\Bld w' af b x.2.2 []) (λx=>K-x.1) (0,0,[])
  fq ⟨by simp,by simp,by rw[qpv,<-eK];omega,by simp,by simp,O⟩ ?_
 clear O;rintro⟨j,p,l⟩ w3 al ⟨hj,hp,hc,hr,hl,O⟩;dsimp only at hj hp hc hr hl O|-;have U:(s.extract p s.size).data.toList=s.data.toList.drop p:=by
  rw[qbe,Ay];have:s.data.toList.length=s.size:=rfl;simp only[zld];omega
 obtain⟨r,er⟩:∃r,r=s.extract p s.size:=⟨_,rfl⟩
 have am:r.size=s.size-p:=by
  have e1:r.size=r.data.toList.length:=rfl;have e2:s.data.toList.length=s.size:=rfl;rw[e1,er,U,zld,e2]
 rw[<-er]at hc U;(conv=>whnf);refine zC (λ_=>zw ?_) (λ_=>zw ?_)
 ·refine SliceS.at_ p s.size rfl rfl hp znr ?_;rw[<-er];(conv=>whnf);refine zcv (q3d r old w3 (hM.ext O.ext) Oo) ?_;rintro v w4 ⟨rfl,rfl⟩
  rcases Lib.indexB_cases r old with H|⟨i,H,ag⟩
  ·have:=Lib.countB_miss r old H;omega
  rw[H];have ad:=Lib.countB_hit r old i Z H;have ah:r.extract (i+old.size) r.size=s.extract (p+i+old.size) s.size:=by
   refine qeu ?_;rw[qbe,qbe,U,Ax,show p+(i+old.size)=p+i+old.size by omega,show r.size-(i+old.size)=s.size-(p+i+old.size)by omega]
  rw[ah]at ad;have W:=qf5 ab ae (s:=s.data.toList.drop p) (i:=i) (by rw[<-U];exact H);refine zu ?_;refine SliceS.at_ p (p+i) rfl (by show _=_;omega) Oo Oo (zw ?_);refine zcv (qct b l (s.extract p (p+i)) w' w4 [] O (λx hx=>by cases hx) (by simp;omega)) ?_;rintro v w5 ⟨rfl,O⟩;have an:(s.extract p (p+i)).data.toList.length=i:=by
   have:s.data.toList.length=s.size:=rfl;rw[qbe,A6,zld];omega
  (conv=>whnf);refine zcv (qct b (l++(s.extract p (p+i)).data.toList) new w' w5 [] O (λx hx=>by cases hx) (by rw[zla];omega)) ?_;rintro v w6 ⟨rfl,O⟩;refine zu ?_;have ao:new.data.toList.length=new.size:=rfl;refine⟨(j+1,p+i+old.size,l++(s.extract p (p+i)).data.toList++new.data.toList),⟨rfl,rfl,rfl,rfl,by show ii _=ii _;congr 1,rfl,rfl,trivial⟩,⟨by simp only;omega,by simp only;omega,by simp only;omega,?_,by simp only[zla];omega,O⟩,by simp only;omega⟩;rw[<-hr,W,qbe,show p+i-p=i by omega,Ax,show p+(i+old.data.toList.length)=p+i+old.size from by show p+(i+old.size)=_;omega];simp
 ·obtain rfl:j=K:=by omega
  have H:Lib.indexB r old=-1:=by
   rcases Lib.indexB_cases r old with H|⟨i,H,ag⟩
   ·exact H
   ·have:=Lib.countB_hit r old i Z H;omega
  have W:=qil ab (s:=s.data.toList.drop p) (by rw[<-U];exact H);refine SliceS.at_ p s.size rfl rfl hp znr ?_;rw[<-er];(conv=>whnf);refine zcv (qct b l r w' w3 [] O (λx hx=>by cases hx) Oo) ?_;rintro v w4 ⟨rfl,O⟩;(conv=>whnf);refine zcv (qgm b (l++r.data.toList) w' w4 [] O) ?_;rintro v w5 ⟨rfl,he⟩;(conv=>whnf);exact⟨by rw[<-hr,W,U],he⟩
theorem qe0(s old new:Dd)(w:Dc)(O:MaxLenAt w)(H:seq old new=false)(U:s.size<=67108864)(W:(old.size=1/\new.size=2)\/(old.size=2/\new.size=1)):
  Gv Do 246 [.string s,.string old,.string new] w λr w'=>r=.string ⟨(Lib.replaceAll s.data.toList old.data.toList new.data.toList).toArray⟩/\Ext w w':=by
 refine ze Tryz.func246 Tryz.ntmps246 ?_;refine zcv (qql s old new w O H U W) ?_;rintro v w' ⟨rfl,Z⟩;(conv=>whnf);exact⟨rfl,Z⟩
theorem qep(t:TM)(U:TermOk t)(w:Dc)(hM:MaxLenAt w)(hT:CellsAt w 4 0 qa3):
  Gv Do 175 [qq t] w λr w'=>r=(if qa2 t=0 then .tuple #[.string ⟨(qad t).toArray⟩,ii 0]else .tuple #[.string ⟨#[]⟩,ii (qa2 t)])/\Ext w w':=by
 refine ze Tryz.func175 Tryz.ntmps175 ?_;refine znm (Mem.nil w) ?_;intro tb w1 H;have H:Mem w w1 [(tb,.cells #[ii t.kind,.string t.text,.string t.type,.string t.lang] 45)]:=H;(conv=>whnf);refine zl H 0 ?_;refine zcv (qgc t U w1 (hM.ext H.ext) (hT.ext H.ext)) ?_;rintro r w2 ⟨rfl,W⟩;have H:=H.call W;obtain⟨e,ee⟩:∃e,e=qa2 t:=⟨_,rfl⟩
 rw[<-ee];conv=>whnf
 (repeat'(first|refine zC (λ_=>zw ?_) (λ_=>zw ?_)|refine LoadV.mem (i:=0) Oa rfl rfl (zw ?_)))
 ·rw[Ab Oo];exact⟨rfl,H.ext⟩
 ·have h1:qad t=t.text.data.toList:=by grind [qad]
  rw[Af Oo,h1];exact⟨rfl,H.ext⟩
 rw[Af Oo];have aa:t.kind=3:=by omega
 have ab:t.text.size<=65536:=by
  grind [qa2,litE]
 have ac:=U.type;have ad:=U.lang;obtain⟨R,eR,ae⟩:∃R:Dd,R=⟨(Lib.replaceAll t.text.data.toList [0] [0,1]).toArray⟩/\R.data.toList=escL t.text.data.toList:=⟨_,rfl,q9i _⟩
 have af:R.size<=2*t.text.size:=by
  have h1:R.size=R.data.toList.length:=rfl;have h2:=qsi t.text.data.toList
  simp_all
 have ag:(⟨#[0,0]⟩:Dd).size=2:=rfl;have ah:(⟨#[0]⟩:Dd).size=1:=rfl;refine DrawV.free Jk Jk (zw ?_);refine zd ?_;refine zLd ?_;refine zsd (.string R) (λO hd=>zw ?_) (zw ?_)
 ·refine zcv (qe0 t.text ⟨#[0]⟩ ⟨#[0,1]⟩ O (hM.ext (H.drew.call hd).ext) rfl Oo (.inl ⟨rfl,rfl⟩)) ?_
  simp_all
 apply zsd
 ·intro O hd;(conv=>whnf);refine Obl.mk Oo (zw ?_);exact xq
 (conv=>whnf);refine zd ?_;refine zLd ?_;apply zsd
 ·intro O hd;(conv=>whnf);refine Obl.mk (by grind) (zw ?_);exact xq
 (conv=>whnf);apply zsd
 ·intro O hd;(conv=>whnf);refine Obl.mk (by grind) (zw ?_);exact xq
 (conv=>whnf);refine zd ?_;refine zLd ?_;apply zsd
 ·intro O hd;(conv=>whnf);refine Obl.mk (by grind) (zw ?_);exact xq
 (conv=>whnf);refine zd ?_;refine zd ?_;intro w3 Z;(conv=>whnf);refine⟨?_,(H.drew.call Z).ext⟩;have:R++⟨#[0,0]⟩++t.type++⟨#[0]⟩++t.lang=⟨(qad t).toArray⟩:=qeu (by grind [qad,ByteArray.data_append]);rw[this]
def vBad:Dh:=.tuple #[.agg #[ii 0,.string ⟨#[]⟩,.string ⟨#[]⟩,.string ⟨#[]⟩],ii 170]
noncomputable def qe3(kind:Int)(s:LB):Dh:=
 match qf4 kind s with
 | some t=>.tuple #[qq t,.int .i64 0]
 | none=>vBad
theorem qrc{t:TM}(h:ReadsAs kind s t):qe3 kind s=.tuple #[qq t,ii 0]:=by rw[qe3,qkx h]
theorem qfh(h:∀t,¬ReadsAs kind s t):qe3 kind s=vBad:=by rw[qe3,qvh h]
theorem qxe(s H:LB):(Lib.cut s H).1.length<=s.length/\(Lib.cut s H).2.1.length<=s.length:=by
 grind [Lib.cut]
theorem q9j:∀(l:LB),(Lib.replaceAll l [0,1] [0]).length<=l.length:=by
 intro l
 induction h:l.length using Nat.strongRecOn generalizing l with
 | _ n W=>
  by_cases Z:Lib.index l [0,1]=-1
  ·simp_all[qil]
  ·obtain⟨i,hi⟩:∃i:Nat,Lib.index l [0,1]=i:=⟨(Lib.index l [0,1]).toNat,by have:=Lib.index_ge l [0,1];omega⟩
   have H:i+2<=l.length:=by
    rcases Lib.indexB_cases ⟨l.toArray⟩ ⟨#[0,1]⟩with O|⟨j,O,U⟩
    ·simp_all
    ·have h3:(Lib.index l [0,1])=j:=O;have h4:j+2<=l.length:=U;omega
   rw[qf5 Od Js hi,show i+([0,1]:LB).length=i+2 from rfl]
   grind
theorem q1t(kind:Int)(hk:kind=1\/kind=2\/kind=3)(s:Dd)(hs:s.size<=262144)(w:Dc)(hM:MaxLenAt w)(hT:CellsAt w 4 0 qa3):
  Gv Do 303 [ii kind,.string s] w λr w'=>r=qe3 kind s.data.toList/\Ext w w':=by
 refine ze Tryz.func303 Tryz.ntmps303 ?_;refine znm (Mem.nil w) λr4 w1 H=>zw ?_;refine znm H λtb w2 H=>zw ?_;refine zS H 0 λw3 H=>zw ?_
 rcases hk with hk|hk|hk
 all_goals
  refine zv ?_
 case' inl|inr.inl=>
  obtain⟨t,Z⟩:∃t:TM,t=⟨kind,s,⟨#[]⟩,⟨#[]⟩⟩:=⟨_,rfl⟩
  have W:t.kind=kind:=by rw[Z]
  have ht:TermOk t:=by rw[Z];exact⟨(by grind [InR]),by grind,An _,An _⟩
  have O:∀u,ReadsAs kind s.data.toList u->u=t:=λu U=>by
   obtain⟨h1,h2,h3⟩:=U.plain Oo;have h4:=U.kind;rw[Z];obtain⟨uk,ux,uy,ul⟩:=u
   grind [qeu]
 case' inr.inr=>
  obtain⟨tx,rs,ok,ec⟩:∃tx rs ok,Lib.cut s.data.toList [0,0]=(tx,rs,ok):=(by grind)
  obtain⟨ty,la,fi,ed⟩:∃ty la fi,Lib.cut rs [0]=(ty,la,fi):=(by grind)
  have aj:s.data.toList.length=s.size:=rfl;have ab:=qxe s.data.toList [0,0];rw[ec]at ab;dsimp only at ab;have ac:=qxe rs [0];rw[ed]at ac;dsimp only at ac;refine zcv (q52 s ⟨#[0,0]⟩ w3 (hM.ext H.ext) Oo) ?_;rintro r w4 ⟨rfl,ad⟩;replace H:=H.call ad;have ae:Lib.cut s.data.toList (⟨#[0,0]⟩:Dd).data.toList=(tx,rs,ok):=ec;rw[ae];(conv=>whnf);refine zcv (q52 ⟨rs.toArray⟩ ⟨#[0]⟩ w4 (hM.ext H.ext) (by show rs.length<=_;omega)) ?_;rintro r w5 ⟨rfl,af⟩;replace H:=H.call af;have ag:Lib.cut (⟨rs.toArray⟩:Dd).data.toList (⟨#[0]⟩:Dd).data.toList=(ty,la,fi):=ed;rw[ag];have aa:∀u,ReadsAs kind s.data.toList u->tx=escL u.text.data.toList/\ty=u.type.data.toList/\la=u.lang.data.toList/\ok=true/\fi=true:=λu U=>by
   rw[hk]at U;obtain⟨h1,h2⟩:=U.lit
   grind [qxc,qr9]
  refine if ah:ok=true/\fi=true then ?good else ?bad
 case' good=>
  obtain⟨rfl,rfl⟩:=ah;obtain⟨t,Z⟩:∃t:TM,t=⟨kind,⟨(Lib.replaceAll tx [0,1] [0]).toArray⟩,⟨ty.toArray⟩,⟨la.toArray⟩⟩:=⟨_,rfl⟩
  have W:t.kind=kind:=by rw[Z]
  have ak:=q9j tx;have ht:TermOk t:=by
   rw[Z];refine⟨(by grind [InR]),?_,?_,?_⟩
   ·show(Lib.replaceAll tx [0,1] [0]).length<=_;omega
   ·show ty.length<=_;omega
   ·show la.length<=_;omega
  have O:∀u,ReadsAs kind s.data.toList u->u=t:=λu U=>by
   obtain⟨h1,h2,h3,_,_⟩:=aa u U;have h4:=U.kind;rw[Z];obtain⟨uk,ux,uy,ul⟩:=u
   simp_all[qoh]
  refine zu ?_;refine zcv (qe0 ⟨tx.toArray⟩ ⟨#[0,1]⟩ ⟨#[0]⟩ w5 (hM.ext H.ext) rfl (by show tx.length<=_;omega) (.inr ⟨rfl,rfl⟩)) ?_;rintro r w6 ⟨rfl,ai⟩;replace H:=H.call ai;(conv=>whnf);refine StoreV.mem H (i:=0) rfl Js rfl λw7 H=>zw ?_;refine StoreV.mem H (i:=0) rfl Js rfl λw8 H=>zw ?_;refine StoreV.mem H (i:=0) rfl Js rfl λw3 H=>zw ?_
 case' inl|inr.inl|good=>
  replace H:Mem w w3 [(tb,.cells #[ii t.kind,.string t.text,.string t.type,.string t.lang] 45),(r4,.cells #[ii 0,.string ⟨#[]⟩,.string ⟨#[]⟩,.string ⟨#[]⟩] 45)]:=by rw[Z];exact H
  clear Z;refine zl H 0 ?_;refine zcv (qep t ht _ (hM.ext H.ext) (hT.ext H.ext)) ?_;rintro r w5 ⟨rfl,he⟩;replace H:=H.call he
  by_cases hE:qa2 t=0
  case' neg=>
   rw[Ab hE];have hv:qe3 kind s.data.toList=vBad:=qfh λu U=>hE (O u U ▸ U.ok)
   refine zu ?_
  case' pos=>
   rw[Af hE];cases hq:seq ⟨(qad t).toArray⟩ s
  case' true=>
   refine zu ?_;rw[hq];refine zu ?_;rw[qrc ⟨W,hE,(by grind [qa1])⟩];refine zl H 0 ?_;refine zS H 1 λw6 H=>zw ?_;refine qj (R:=λv w'=>v=.tuple #[qq t,ii 0]/\Ext w w') (zw ?_);refine zl H 1 ?_;exact⟨rfl,H.ext⟩
  case' false=>
   have hv:qe3 kind s.data.toList=vBad:=qfh λu U=>by
    have e:=O u U;subst e;have:(⟨(qad u).toArray⟩:Dd)=s:=qeu U.entry
    grind [qa1]
   refine zu ?_;rw[hq];refine zu ?_
 case' bad=>
  have hv:qe3 kind s.data.toList=vBad:=by grind [qfh]
  obtain rfl|⟨rfl,rfl⟩:ok=false\/(ok=true/\fi=false):=by grind
  all_goals
   refine zu ?_
 all_goals
  rw[hv];refine zS H 1 λw6 H=>zw ?_;refine qj (R:=λv w'=>v=vBad/\Ext w w') (zw ?_);refine zl H 1 ?_;exact⟨rfl,H.ext⟩
open Go.RowKit Go.Extern.Stop Go.Stop Go.Extern
theorem qaa2(t:Dh)(w:Dc):
  Calls Tryz.prog 52 #[.nilIface,t] w λe w'=>e=.returned (.bool false)/\w'=w:=by
 go_enter Tryz.func52,Tryz.ntmps52
 go_wp2
 go_ret
 exact⟨rfl,rfl⟩
def entV(x:LB×Nat×Nat):Dh:=.tuple #[.string ⟨x.1.toArray⟩,ii x.2.1,ii x.2.2]
theorem q2z{B:LB}{p:Nat}{first:Bool}{s y:Nat×Nat×Nat}(es:s=if first then(0,0,0)else numL B)(H:y=numL (B.drop s.2.1)):
  (if(entG B first ahead).2.2≠0 then([],0,(entG B first ahead).2.2)else((entG B first ahead).1,p+(entG B first ahead).2.1,0))=if s.2.2≠0 then([],0,s.2.2)else if y.2.2≠0 then([],0,y.2.2)else if ahead.length<s.1 then([],0,161)else if 262144<y.1\/262144<s.1+y.1 then([],0,2)else if B.length-s.2.1-y.2.1<y.1 then([],0,10)else(ahead.take s.1++(B.drop (s.2.1+y.2.1)).take y.1,p+(s.2.1+y.2.1+y.1),0):=by
 have O:entG B first ahead=if s.2.2≠0 then([],0,s.2.2)else if y.2.2≠0 then([],0,y.2.2)else if ahead.length<s.1 then([],0,161)else if 262144<y.1\/262144<s.1+y.1 then([],0,2)else if B.length-s.2.1-y.2.1<y.1 then([],0,10)else(ahead.take s.1++(B.drop (s.2.1+y.2.1)).take y.1,s.2.1+y.2.1+y.1,0):=by
  rw[entG,<-es,H]
 rw[O]
 (repeat' split)<;>simp_all
theorem qnp(b:Nat)(m:LB)(p:Nat)(first:Bool)(last:Dd)(w:Dc)(h:DictAt w b m)(hp:p<=4294967296)(af:last.size<=262144):
  Gv Do 322 [pp b,ii p,.bool first,.string last] w λr w'=>r=entV (qet (qc m) p first last.data.toList)/\Ext w w':=by
 obtain⟨⟨P,cp,E,W,h1,h2,h3,h4⟩,h5,h6,h7,h8⟩:=h;obtain⟨D,eD⟩:∃D,D=qc m:=⟨_,rfl⟩
 rw[<-eD]at h1 h3 h4 h8|-;refine ze Tryz.func322 Tryz.ntmps322 ?_;refine zv ?_;refine LoadV.own h1 rfl (zw ?_);refine zt ?_;refine zC (λ_=>zw ?_) (λ_=>zw ?_)
 ·rw[qet,Af Oo];exact⟨rfl,xr⟩
 refine LoadV.own h1 rfl (zw ?_);refine SliceV.bs h3 rfl p D.length W rfl rfl rfl Oo znr h4 znr (λh=>by cases h) ?_;intro A' ab;rw[Ay Js]at ab;(conv=>whnf);obtain⟨B,eB⟩:∃B,B=D.drop p:=⟨_,rfl⟩
 have ad:B.length=D.length-p:=by rw[eB,zld]
 rw[<-eB]at ab;have aa:∀w',Ext w w'->BS w' (.slice A' (D.length-p) (W-p)) B:=λw' he=>⟨A',W-p,by rw[ad],by rw[ad];omega,ab.ext he⟩
 refine zcv (qdj _ B w (aa w xr)) ?_;rintro v w1 ⟨O,rfl,ag,ah,ai⟩;have H:Mem w w1 [(O,curO 367 (.slice A' (D.length-p) (W-p)) 0 0)]:=(Mem.nil w).fresh ai ag ah;(conv=>whnf);obtain⟨s,es⟩:∃s:Nat×Nat×Nat,s=if first then(0,0,0)else numL B:=⟨_,rfl⟩
 have aj:s.1<18446744073709551616/\s.2.1<=B.length:=by
  have:=qb4 B;rw[es];split
  ·exact⟨by decide,An _⟩
  ·exact⟨this.1,this.2.1⟩
 obtain⟨y,ey⟩:∃y,y=numL (B.drop s.2.1):=⟨_,rfl⟩
 obtain⟨Z,U⟩:∃Z,Z=qet D p first last.data.toList:=⟨_,rfl⟩
 rw[<-U];rw[qet,Ab Oo,<-eB,q2z es ey]at U;have an:last.data.toList.length=last.size:=rfl;have ak:=qb4 (B.drop s.2.1);rw[<-ey,zld]at ak;have hy:∀q,q=y.2.2->(numL (B.drop s.2.1)).2.2=q:=by rintro q rfl;rw[ey]
 cases first
 case' false=>
  have es:s=numL B:=es;refine zv ?_;refine zcv (qda O _ 0 0 B w1 (H.get mh) (aa w1 H.ext) (An _) Oo) ?_;rintro r w2 ⟨rfl,hu⟩
  by_cases he:(numL (B.drop 0)).2.2=0
  case' pos=>
   obtain⟨q1,q2,q3⟩:=q1m he;rw[q2,q3,Aq]at hu;rw[q1,show(numL (B.drop 0)).1=s.1 by rw[es];rfl];have H:Mem w w2 [(O,curO 367 (.slice A' (D.length-p) (W-p)) s.2.1 0)]:=by rw[es];exact H.upd (i:=0) rfl hu
   have e2:s.2.2=0:=by rw[es];exact he
  case neg=>
   obtain⟨q1,q2,q3⟩:=q1l he;rw[q2,q3]at hu;rw[q1];have H:Mem w w2 [(O,curO 367 (.slice A' (D.length-p) (W-p)) 0 (numL B).2.2)]:=H.upd (i:=0) rfl hu;have al:(numL B).2.2≠0:=he;refine zcv (qe5 O _ _ _ w2 (H.get mh)) ?_;rintro r w3 ⟨rfl,rfl⟩;refine zu ?_;rw[U,Af (show s.2.2≠0 by rw[es];exact al),es];exact⟨rfl,H.ext⟩
 case' true=>
  have es:s=(0,0,0):=es;have H:Mem w w1 [(O,curO 367 (.slice A' (D.length-p) (W-p)) s.2.1 0)]:=by rw[es];exact H
  have e2:s.2.2=0:=by rw[es]
  have ao:s.1=0:=by rw[es]
  refine zv ?_
 all_goals
  refine zcv (qe5 O _ _ 0 _ (H.get mh)) ?_;rintro r w3 ⟨rfl,rfl⟩;refine zu ?_;refine zcv (qda O _ s.2.1 0 B _ (H.get mh) (aa _ H.ext) aj.2 Oo) ?_;rintro r w4 ⟨rfl,hu⟩
  by_cases ac:y.2.2=0
  case neg=>
   obtain⟨q1,q2,q3⟩:=q1l (show(numL (B.drop s.2.1)).2.2≠0 by rw[<-ey];exact ac);rw[q2,q3,<-ey]at hu;rw[q1];have H:Mem w w4 [(O,curO 367 (.slice A' (D.length-p) (W-p)) s.2.1 y.2.2)]:=H.upd (i:=0) rfl hu;refine zcv (qe5 O _ _ _ w4 (H.get mh)) ?_;rintro r w5 ⟨rfl,rfl⟩;refine zu ?_;rw[U,Ab (show ¬s.2.2≠0 by omega),Af ac];exact⟨rfl,H.ext⟩
  obtain⟨q1,q2,q3⟩:=q1m (hy 0 ac.symm);rw[q2,q3,<-ey]at hu;rw[q1,<-ey];clear q1 q2 q3;have H:Mem w w4 [(O,curO 367 (.slice A' (D.length-p) (W-p)) (s.2.1+y.2.1) 0)]:=H.upd (i:=0) rfl hu;refine zcv (qe5 O _ _ 0 w4 (H.get mh)) ?_;rintro r w5 ⟨rfl,rfl⟩;rw[Ab (show ¬s.2.2≠0 by omega),Ab (show ¬y.2.2≠0 by omega)]at U;clear hy;conv=>whnf
  (repeat'(first|refine zp ?_|refine zC (λ_=>zw ?_) (λ_=>zw ?_)))
  all_goals first
   | exact⟨by rw[U,Af Oo];rfl,H.ext⟩
   | exact⟨by rw[U,Ab Oo,Af Oo];rfl,H.ext⟩
   | skip
  rw[Ab Oo,Ab Oo]at U;refine zcv (qsu O _ (s.2.1+y.2.1) 0 B w5 (H.get mh) (aa w5 H.ext) Oo Oo) ?_;rintro r w6 ⟨rfl,am⟩;have H:=H.call am;conv=>whnf
  (repeat'(first|refine zp ?_|refine zC (λ_=>zw ?_) (λ_=>zw ?_)))
  ·rw[U,Af Oo];exact⟨rfl,H.ext⟩
  rw[Ab Oo]at U;subst U;refine zcv (qir O _ (s.2.1+y.2.1) 0 w6 (H.get mh)) ?_;rintro r w7 ⟨rfl,rfl⟩;refine zu ?_;refine zy ?_;have H:=H.drew;refine zv ?_;refine SliceS.at_ 0 s.1 rfl (by show(_:Int)=_;omega) Oo Oo (zu ?_);refine LoadV.own (H.ext.get h1) rfl (zu ?_);refine SliceV.bs (h3.ext H.ext) rfl (p+(s.2.1+y.2.1)) (p+(s.2.1+y.2.1)+y.1) W (by show(_:Int)=_;omega) (by show(_:Int)=_;omega) rfl Oo Oo Oo znr (λh=>by cases h) ?_;intro A2 ae;refine zu ?_;rw[show((D.drop (p+(s.2.1+y.2.1))).take (p+(s.2.1+y.2.1)+y.1-(p+(s.2.1+y.2.1))))=(B.drop (s.2.1+y.2.1)).take y.1 by rw[eB,Ax,BL]]at ae;refine BytesS.sl ae (by rw[A6,zld];omega) (zu ?_);have z1:(last.extract 0 s.1).size=s.1:=by rw[CD];omega
  have z2:(⟨((B.drop (s.2.1+y.2.1)).take y.1).toArray⟩:Dd).size=y.1:=by
   show(List.toArray _).size=_;rw[Ci,A6,zld];omega
  refine Obl.mk (by rw[z1,z2];omega) ?_;rw[show last.extract 0 s.1++⟨((B.drop (s.2.1+y.2.1)).take y.1).toArray⟩=(⟨(last.data.toList.take s.1++(B.drop (s.2.1+y.2.1)).take y.1).toArray⟩:Dd)by
   apply ByteArray.ext;rw[<-Br,ByteArray.data_append,ByteArray.data_extract];simp]
  refine zu ?_;refine⟨?_,H.ext⟩;rw[show((p:Int)+((s.2.1+y.2.1:Nat):Int)+((y.1:Nat):Int))=((p+(s.2.1+y.2.1+y.1):Nat):Int)by omega];rfl
namespace V
def Fr(r:Option Nat):Fence:={ fn:=λ_=>True,depth:=none,alive:=false,round:=r }
theorem qck{r:Option Nat}{args:Dp}{R:Ending->Dk}:CallsIn (Fr r) m P f args w R↔Calls P f args w R:=by
 show CallsIn Fence.wide m P f args w R↔_;exact callsIn_wide
def Sw(n:Nat)(ρ:Dj)(a:Act):Prop:=St n ρ { a with defers:=[] }
theorem Sw.eval{n:Nat}{a:Act}(h:Sw n ρ a):a.eval=ev ρ:=by
 have:=St.eval h;rw[<-this];rfl
theorem Sw.put{n:Nat}{a:Act}(h:Sw n ρ a)(ds:Dq){H:Option Tmp}{v:Dh}{K:Dj->Prop}(W:putV n H ρ v K):
  ∃O,Sw n O ({ a with defers:=ds }.put H v)/\({ a with defers:=ds }.put H v).defers=ds/\K O:=by
 obtain⟨O,Z,h2⟩:=putV.st W h;refine⟨O,?_,?_,h2⟩
 ·cases H<;>exact Z
 ·cases H<;>rfl
theorem Sw.st{n:Nat}{a:Act}(h:Sw n ρ a)(hd:a.defers=[]):St n ρ a:=by
 have:a={ a with defers:=[] }:=by cases a;cases hd;rfl
 rw[this];exact h
theorem St.sw{n:Nat}{a:Act}(h:St n ρ a):Sw n ρ a:=by
 have:a={ a with defers:=[] }:=by have:=h.defers;cases a;cases this;rfl
 grind [Sw]
structure YieldV(P:De)(l:Nat)(args:Dm)(w:Dc)(K:Di):Prop where
 h:YieldAt (Fr none) 0 P l args.toArray w λe w'=>∃v,e=.returned v/\K v w'
theorem YieldV.mono{l:Nat}{U:Di}(h:YieldV P l args w K)(hk:∀v w',K v w'->U v w'):YieldV P l args w U:=by
 obtain⟨W,H,O,b,Z,h2⟩:=h.h;exact⟨⟨W,H,O,b,Z,h2.mono (by grind)⟩⟩
def q7e(P:De)(c:Call)(U:Df)(ρ:Dj)(w:Dc)(s:Sem Next)(K:Di):Prop:=
 match c.callee with
 | .value f=>match ev ρ f with
  | .func (.yield l) first H=>match first.toList,H.toList with
   | [],[]=>qbx (evs ρ c.args.toList) λvs=>YieldV P l vs w K
   | _,_=>False
  | .func (.func g) first H=>qbx (evs ρ c.args.toList) λvs=>
   match first.toList,H.toList with
   | [],[]=>CallV P g vs w K
   | x,y=>CallV P g (x++(vs++y)) w K
  | _=>Fall P s w K
 | .builtin .len=>lenV P (getL c.argTypes.toList 0) (evs ρ c.args.toList) w s K
 | .builtin .append=>appV P c.argTypes U (evs ρ c.args.toList) w s K
 | .invoke O name=>match ev ρ O with
  | .iface t v=>qbx (evs ρ c.args.toList) λvs=>InvV P t v name vs w K
  | _=>Fall P s w K
 | _=>Fall P s w K
def defW(c:Call)(ρ:Dj)(K:Deferred->Prop):Prop:=
 match c.callee with
 | .value f=>match ev ρ f with
  | .func (.func g) first H=>match first.toList,H.toList with
   | [],[]=>qbx (evs ρ c.args.toList) λvs=>K { target:=.fn (.func g) #[],args:=vs.toArray }
   | _,_=>False
  | _=>False
 | _=>False
def opW(P:De)(r:Option Nat)(o:Oper)(ρ:Dj)(ds:Dq)(w:Dc)(K:Dh->Dq->Dk):Prop:=
 match o.op with
 | .call c=>q7e P c o.type ρ w (execOp (ev ρ) o) λv w'=>K v ds w'
 | .defer c=>match r with
  | none=>defW c ρ λd=>K undef (d::ds) w
  | some _=>False
 | _=>opV P o ρ w λv w'=>K v ds w'
section
variable {P:De} {n:Nat} {r:Option Nat}
theorem q2h{c:Call}(Z:o.op=.call c)(h:q7e P c o.type ρ w (execOp (ev ρ) o) K):
  OpOk P (execOp (ev ρ) o) w K\/∃l f H U b,(execOp (ev ρ) o).run P w=.ok (.round l f H U b) w/\RoundIn (Fr none) 0 P l f H U b w λe w'=>∃v,e=.returned v/\K v w':=by
 have W:qw1 P c o.type ρ w (execOp (ev ρ) o) K->OpOk P (execOp (ev ρ) o) w K:=qr1 Z;unfold q7e at h;unfold qw1 at W
 split at h
 ·rename_i f hc
  simp only[hc]at W
  split at h
  ·rename_i l first O hf
   split at h
   ·rename_i h1 h2
    rw[qam]at h;obtain⟨f',H,U,b,hy,hR⟩:=h.h;refine .inr ⟨l,f',H,U,b,?_,hR⟩;have e1:first=#[]:=by simp_all
    have e2:O=#[]:=by simp_all
    subst e1 e2;rw[qcy]at hy;have e3:(c.args.toList.map (ev ρ)).toArray=c.args.map (ev ρ):=by grind
    grind [execOp,resolve,Deferred.ofValue,invoke]
   ·exact h.elim
  all_goals grind
 all_goals grind
theorem q6g{K:Dh->Dq->Dk}{a:Act}{next:Act->Dk}{Q:Exit->Act->Dk}(ha:Sw n ρ a)(hd:a.defers=ds)(h:opW P r o ρ ds w K)(hn:∀v aa w',K v aa w'->next ({ a with defers:=aa }.put o.dst v) w'):o.wpIn (Fr r) 0 P a w next Q:=by
 refine⟨λ_ _=>trivial,?_⟩;have ae:({ a with defers:=ds }:Act)=a:=by subst hd;rfl
 have Z:∀v w',K v ds w'->next (a.put o.dst v) w':=(by grind)
 rw[ha.eval];unfold opW at h
 split at h
 ·rename_i c ho
  rw[Oper.semAt_eq _ _ _ (by intro c' e;rw[ho]at e;cases e)]
  rcases q2h ho h with((⟨v,w',O,H⟩|⟨w',O,H⟩)|⟨f,args,O,H⟩)|⟨l,f,ab,ac,b,O,H⟩
  ·rw[O];exact Z _ _ H
  ·rw[O];exact Z _ _ H
  ·rw[O,Oper.uponIn_enter];refine⟨(by grind [Fr]),qck.2 (H.mono λe w' ⟨v,he,hk⟩=>?_)⟩
   simp_all
  ·rw[O,Oper.uponIn_round];refine⟨(by grind [Fr]),?_⟩;have H:RoundIn (Fr r) 0 P l f ab ac b w _:=H;refine H.mono λe w' ⟨v,he,hk⟩=>?_
   simp_all
 ·rename_i c ho
  split at h
  ·unfold defW at h
   split at h
   ·rename_i f hc
    split at h
    ·rename_i g first U hf
     split at h
     ·rename_i O H
      rw[qam]at h;have e1:first=#[]:=by simp_all
      have e2:U=#[]:=by simp_all
      subst e1 e2;rw[qcy]at h;have e3:(c.args.toList.map (ev ρ)).toArray=c.args.map (ev ρ):=by grind
      simp_all[Oper.semAt_none,execOp,resolve,Deferred.ofValue,Fr,Oper.uponIn_defer]
     ·exact h.elim
    ·exact h.elim
   ·exact h.elim
  ·exact h.elim
 ·rename_i af ad
  rw[Oper.semAt_eq _ _ _ (λc e=>ad c e)]
  rcases qzs h with(⟨v,w',O,H⟩|⟨w',O,H⟩)|⟨f,args,O,H⟩
  ·rw[O];exact Z _ _ H
  ·rw[O];exact Z _ _ H
  ·rw[O,Oper.uponIn_enter];refine⟨(by grind [Fr]),qck.2 (H.mono λe w' ⟨v,he,hk⟩=>?_)⟩
   simp_all
end
def runW(P:De)(n:Nat)(r:Option Nat)(o:Oper)(K:Dj->Dq->Dk)(ρ:Dj)(ds:Dq)(w:Dc):Prop:=
 opW P r o ρ ds w λv H w'=>putV n o.dst ρ v λO=>K O H w'
def qqy(n:Nat)(o:Oper)(K:Dj->Dq->Dk)(ρ:Dj)(ds:Dq)(w:Dc):Prop:=
 putV n o.dst ρ undef λH=>K H ds w
def regW(P:De)(n:Nat)(r:Option Nat)(ops:List Oper)(Q:Dj->Dq->Dk):List Oper->Dj->Dq->Dc->Prop
 | [],ρ,ds,w=>Q ρ ds w
 | o::H,ρ,ds,w=>
  match o.guard with
  | none=>runW P n r o (regW P n r ops Q H) ρ ds w
  | some (j,O)=>
   match getL ops j with
   | none=>qqy n o (regW P n r ops Q H) ρ ds w
   | some oj=>match oj.dst with
    | none=>qqy n o (regW P n r ops Q H) ρ ds w
    | some d=>bif Nat.blt d n then
      match ρ d with
      | .bool b=>Tst b
        (match O with
         | true=>runW P n r o (regW P n r ops Q H) (upd ρ d (.bool true)) ds w
         | false=>qqy n o (regW P n r ops Q H) (upd ρ d (.bool true)) ds w)
        (match O with
         | true=>qqy n o (regW P n r ops Q H) (upd ρ d (.bool false)) ds w
         | false=>runW P n r o (regW P n r ops Q H) (upd ρ d (.bool false)) ds w)
      | _=>qqy n o (regW P n r ops Q H) ρ ds w
     else False
abbrev QW:=Exit->Dj->Dq->Dc->Prop
def seqW(K:Dj->Dq->Dk)(Q:QW):QW
 | .normal,ρ,ds,w=>K ρ ds w
 | .exit i,ρ,ds,w=>Q (.exit i) ρ ds w
 | .goto l,ρ,ds,w=>Q (.goto l) ρ ds w
 | .ret,ρ,ds,w=>Q .ret ρ ds w
 | .panic c,ρ,ds,w=>Q (.panic c) ρ ds w
 | .outgrown,ρ,ds,w=>Q .outgrown ρ ds w
def qrv(id:Nat)(Q:QW):QW
 | .normal,ρ,ds,w=>Q .normal ρ ds w
 | .exit i,ρ,ds,w=>bif Nat.beq i id then Q .normal ρ ds w else Q (.exit i) ρ ds w
 | .goto l,ρ,ds,w=>Q (.goto l) ρ ds w
 | .ret,ρ,ds,w=>Q .ret ρ ds w
 | .panic c,ρ,ds,w=>Q (.panic c) ρ ds w
 | .outgrown,ρ,ds,w=>Q .outgrown ρ ds w
def qdq(n:Nat)(Q:QW):Exit->Act->Dc->Prop:=λe a w=>∃ρ,Sw n ρ a/\Q e ρ a.defers w
structure LoopW(P:De)(n:Nat)(r:Option Nat)(body:Code)(Q:QW)(ρ:Dj)(ds:Dq)(w:Dc):Prop where
 h:∀a,Sw n ρ a->a.defers=ds->(Code.loop body).wpIn (Fr r) 0 P (qdq n Q) a w
structure DrawW(P:De)(n:Nat)(r:Option Nat)(id:Nat)(ops:Array Oper)(Q:QW)(ρ:Dj)(ds:Dq)(w:Dc):Prop where
 h:∀a,Sw n ρ a->a.defers=ds->(Code.region id ops true).wpIn (Fr r) 0 P (qdq n Q) a w
structure ScopeW(P:De)(n:Nat)(r:Option Nat)(c:Code)(Q:QW)(ρ:Dj)(ds:Dq)(w:Dc):Prop where
 h:∀a,Sw n ρ a->a.defers=ds->(Code.scope c).wpIn (Fr r) 0 P (qdq n Q) a w
structure RangeW(P:De)(n:Nat)(r:Option Nat)(f:Operand)(ps:Array Tmp)(assign body:Code)(Q:QW)(ρ:Dj)(ds:Dq)(w:Dc):Prop where
 h:∀a,Sw n ρ a->a.defers=ds->(Code.rangeFunc f ps assign body).wpIn (Fr r) 0 P (qdq n Q) a w
def qdv(P:De)(n:Nat)(r:Option Nat):Code->QW->Dj->Dq->Dc->Prop
 | .skip,Q,ρ,ds,w=>Q .normal ρ ds w
 | .region id ops H,Q,ρ,ds,w=>
  match H with
  | false=>regW P n r ops.toList (Q .normal) ops.toList ρ ds w
  | true=>DrawW P n r id ops Q ρ ds w
 | .seq a b,Q,ρ,ds,w=>qdv P n r a (seqW (qdv P n r b Q) Q) ρ ds w
 | .cond c t e,Q,ρ,ds,w=>
  match ev ρ c with
  | .bool b=>Tst b (qdv P n r t Q ρ ds w) (qdv P n r e Q ρ ds w)
  | _=>False
 | .block id c,Q,ρ,ds,w=>qdv P n r c (qrv id Q) ρ ds w
 | .loop c,Q,ρ,ds,w=>LoopW P n r c Q ρ ds w
 | .exit id,Q,ρ,ds,w=>Q (.exit id) ρ ds w
 | .label _,Q,ρ,ds,w=>Q .normal ρ ds w
 | .ret,Q,ρ,ds,w=>Q .ret ρ ds w
 | .goto l,Q,ρ,ds,w=>Q (.goto l) ρ ds w
 | .scope c,Q,ρ,ds,w=>ScopeW P n r c Q ρ ds w
 | .rangeFunc f p a b,Q,ρ,ds,w=>RangeW P n r f p a b Q ρ ds w
 | .refuse _,_,_,_,_=>False
section
variable {P:De} {n:Nat} {r:Option Nat}
theorem Sw.yield{a:Act}(H:Sw n ρ a){ops:List Oper}{d:Nat}(O:getL ops j=some oj)(hd:oj.dst=some d)(U:d<n):
  yielded ops.toArray a.tmps j=match ρ d with | .bool b=>some b|_=>none:=St.yield H O hd U
theorem qqq{K:Dj->Dq->Dk}{a:Act}{O:List Oper}(hg:Region.wanted o (yielded ops a.tmps)=true)(Z:Sw n ρ a)(hd:a.defers=ds)(h:runW P n r o K ρ ds w)(hk:∀U H W w',Sw n U W->W.defers=H->K U H w'->wpListIn (Fr r) 0 P ops Q' O W w'):
  wpListIn (Fr r) 0 P ops Q' (o::O) a w:=by
 unfold wpListIn;rw[Af hg];refine q6g Z hd h λv H w' hp=>?_;obtain⟨U,h1,h2,h3⟩:=Z.put H hp
 grind
theorem qgb{K:Dj->Dq->Dk}{a:Act}{H:List Oper}(hg:Region.wanted o (yielded ops a.tmps)=false)(ha:Sw n ρ a)(hd:a.defers=ds)(h:qqy n o K ρ ds w)(hk:∀O U Z w',Sw n O Z->Z.defers=U->K O U w'->wpListIn (Fr r) 0 P ops Q' H Z w'):
  wpListIn (Fr r) 0 P ops Q' (o::H) a w:=by
 unfold wpListIn;rw[Ab (by rw[hg];simp)];refine⟨λ_ _=>trivial,?_⟩;obtain⟨O,h1,h2,h3⟩:=ha.put ds h;have e:({ a with defers:=ds }:Act)=a:=by subst hd;rfl
 grind
theorem q9h{ops:List Oper}{Q:Dj->Dq->Dk}(hQ:∀ρ ds a w,Sw n ρ a->a.defers=ds->Q ρ ds w->Q' .normal a w)(l:List Oper):
  ∀(ρ:Dj) (ds:Dq) (a:Act) (w:Dc),Sw n ρ a->a.defers=ds->regW P n r ops Q l ρ ds w->wpListIn (Fr r) 0 P ops.toArray Q' l a w:=by
 induction l with
 | nil=>intro ρ ds a w O hd h;exact hQ _ _ _ _ O hd h
 | cons o H ih=>
  intro ρ ds a w O hd h;unfold regW at h;have ae:∀U W Z w',Sw n U Z->Z.defers=W->regW P n r ops Q H U W w'->wpListIn (Fr r) 0 P ops.toArray Q' H Z w':=(by omega)
  split at h
  ·grind [qqq,Region.wanted]
  ·rename_i j ad hg
   split at h
   ·grind [qat,qgb,Region.wanted,yielded]
   ·rename_i oj hj
    split at h
    ·grind [qgb,qat,Region.wanted,yielded]
    ·rename_i d aa
     cases hn:Nat.blt d n<;>rw[hn]at h
     ·exact h.elim
     ·have ab:d<n:=by simpa using hn
      have hy:=O.yield hj aa ab;simp only[cond_true]at h
      split at h
      ·rename_i b hb
       rw[hb]at hy;cases b
       ·have h:=h.f rfl;have ac:Sw n _ a:=St.same O hb
        grind [qqq,Region.wanted,qgb]
       ·have h:=h.t rfl;have ac:Sw n _ a:=St.same O hb
        grind [qgb,Region.wanted,qqq]
      grind [qgb,Region.wanted]
theorem qy5{K:Dj->Dq->Dk}{Q:QW}{e:Exit}{a:Act}(h:qdq n (seqW K Q) e a w):
  Exit.then (λa w=>∃ρ,Sw n ρ a/\K ρ a.defers w) (qdq n Q) e a w:=by
 obtain⟨ρ,H,O⟩:=h;cases e<;>exact⟨ρ,H,O⟩
theorem qp5{Q:QW}{e:Exit}{a:Act}(h:qdq n (qrv id Q) e a w):
  Exit.inBlock id (qdq n Q) e a w:=by
 obtain⟨ρ,O,H⟩:=h;cases e with
 | exit i=>
  by_cases hi:i=id
  ·have U:Nat.beq i id=true:=by subst hi;simp
   simp only[qrv,U,cond_true]at H;simp only[Exit.inBlock,hi,if_true];exact⟨ρ,O,H⟩
  ·have U:Nat.beq i id=false:=(by grind [Nat.eq_of_beq_eq_true])
   simp only[qrv,U,cond_false]at H;simp only[Exit.inBlock,hi,if_false];exact⟨ρ,O,H⟩
 | normal=>exact⟨ρ,O,H⟩
 | goto l=>exact⟨ρ,O,H⟩
 | ret=>exact⟨ρ,O,H⟩
 | panic c=>exact⟨ρ,O,H⟩
 | outgrown=>exact⟨ρ,O,H⟩
theorem qeg(c:Code):∀(Q:QW) (ρ:Dj) (ds:Dq) (w:Dc),qdv P n r c Q ρ ds w->∀a,Sw n ρ a->a.defers=ds->c.wpIn (Fr r) 0 P (qdq n Q) a w:=by
 induction c with
 | skip=>intro Q ρ ds w h a H hd;subst hd;exact Go.wpIn_skip ⟨ρ,H,h⟩
 | region id ops O=>
  intro Q ρ ds w h a H hd;cases O
  ·refine wpIn_region_list ?_;have:=q9h (Q':=qdq n Q) (λρ ds a w H hd h=>by subst hd;exact⟨ρ,H,h⟩) ops.toList ρ ds a w H hd h;omega
  ·exact h.h a H hd
 | seq x y W hy=>
  intro Q ρ ds w h a H hd;refine Go.wpIn_seq (Go.wpIn_mono (W _ _ _ _ h a H hd) λe a w h=>?_);have:=qy5 h;cases e with
  | normal=>obtain⟨aa,h1,h2⟩:=this;exact hy _ _ _ _ h2 _ h1 rfl
  | exit i=>exact this
  | goto l=>exact this
  | ret=>exact this
  | panic c=>exact this
  | outgrown=>exact this
 | cond c t e ht he=>
  intro Q ρ ds w h a H hd;unfold qdv at h
  split at h
  ·rename_i b Z
   refine Go.wpIn_cond_split (t:=b) (by rw[H.eval,Z]) (λe=>ht _ _ _ _ (h.t e) a H hd) (λe=>he _ _ _ _ (h.f e) a H hd)
  ·exact h.elim
 | block id c U=>
  intro Q ρ ds w h a H hd;exact Go.wpIn_block (Go.wpIn_mono (U _ _ _ _ h a H hd) λe a w h=>qp5 h)
 | loop c U=>intro Q ρ ds w h a H hd;exact h.h a H hd
 | rangeFunc f p x b W Z=>intro Q ρ ds w h a H hd;exact h.h a H hd
 | exit id=>intro Q ρ ds w h a H hd;subst hd;exact Go.wpIn_exit ⟨ρ,H,h⟩
 | scope c U=>intro Q ρ ds w h a H hd;exact h.h a H hd
 | label l=>intro Q ρ ds w h a H hd;subst hd;exact Go.wpIn_label ⟨ρ,H,h⟩
 | goto l=>intro Q ρ ds w h a H hd;subst hd;exact Go.wpIn_goto ⟨ρ,H,h⟩
 | ret=>intro Q ρ ds w h a H hd;subst hd;exact Go.wpIn_ret ⟨ρ,H,h⟩
 | refuse ab=>intro Q ρ ds w h a H hd;exact h.elim
theorem DrawW.of{Q:QW}(h:DrawV P n id ops (λe H w'=>Q e H [] w') ρ w):DrawW P n none id ops Q ρ [] w:=by
 refine⟨λa U hd=>?_⟩;have:=h.h a (U.st hd);show(Code.region id ops true).wpIn Fence.wide 0 P _ a w;refine wpIn_wide.2 (Go.wp_mono this λe a w ⟨H,O,W⟩=>⟨H,O.sw,?_⟩);rw[O.defers];exact W
theorem q3m{α:Type}(l:α->List (Nat×Dh))(I:α->Dk)(μ:α->Nat){Q:QW}(x0:α)(h0:qm7 (l x0) ρ)(hI:I x0 w)(hr:∀x w ak,I x w->qdv P n r body (seqW (λad ae w'=>ae=ds/\∃x',qm7 (l x') ad/\I x' w'/\μ x'<μ x) Q) (over (l x) ak) ds w):LoopW P n r body Q ρ ds w:=by
 refine⟨λa ha hd=>?_⟩;intro b k cs al hb aa;have am:∀m x,μ x=m->∀ρ a w,qm7 (l x) ρ->Sw n ρ a->a.defers=ds->I x w->
   ∃e a' w',qdq n Q e a' w'/\ArrivesIn (Machine.fenced P (Fr r)) P (lone (b.atR a (.code body::.inLoop body::k)) cs w) b k cs e a' w':=by
  intro m
  induction m using Nat.strongRecOn with
  | _ m ih=>
   intro x hm ρ a w an ao aq hI;have h1:=hr x w ρ hI;rw[qn7 an]at h1;obtain⟨e,W,Z,hq,U⟩:=qeg body _ _ _ _ h1 a ao aq b (.inLoop body::k) cs al hb aa;obtain⟨O,H,hq⟩:=hq;cases e with
   | normal=>
    obtain⟨af,x',ag,ar,au⟩:=hq;obtain⟨ah,ai,aj,ac,ab⟩:=ih (μ x') (hm ▸ au) x' rfl O W Z ag H af ar;exact⟨ah,ai,aj,ac,.of_steps (StepsIn.trans U (.one (fenced_calm hb aa rfl) stepR_inLoop)) ab⟩
   | exit id=>exact⟨_,W,Z,⟨O,H,hq⟩,.pass (x:=.inLoop body) rfl Js U⟩
   | goto l=>exact⟨_,W,Z,⟨O,H,hq⟩,.pass (x:=.inLoop body) rfl Js U⟩
   | ret=>exact⟨_,W,Z,⟨O,H,hq⟩,.pass (x:=.inLoop body) rfl Js U⟩
   | panic ch=>exact⟨_,W,Z,⟨O,H,hq⟩,.pass (x:=.inLoop body) rfl Js U⟩
   | outgrown=>exact⟨_,W,Z,⟨O,H,hq⟩,.pass (x:=.inLoop body) rfl Js U⟩
 obtain⟨e,a',w',hq,U⟩:=am _ x0 rfl ρ a w h0 ha hd hI;exact⟨e,a',w',hq,.of_steps (.one (fenced_calm hb aa rfl) stepR_loop) U⟩
structure LeaveV(P:De)(n:Nat)(fn:Func)(R:Di)(ρ:Dj)(ds:Dq)(w:Dc):Prop where
 h:∀a,Sw n ρ a->LeavesInM (Fr none) 0 P fn a.tmps (λe w'=>∃v,e=.returned v/\R v w') ds .returning w
def qkn(P:De)(n:Nat)(H:Func)(R:Di)(ρ:Dj)(ds:Dq)(w:Dc):Prop:=
 match ds with
 | []=>resV H.results ρ w H R P n
 | d::ds=>LeaveV P n H R ρ (d::ds) w
theorem qfv{H:Func}(h:qkn P n H R ρ ds w){a:Act}(O:Sw n ρ a):
  LeavesInM (Fr none) 0 P H a.tmps (λe w'=>∃v,e=.returned v/\R v w') ds .returning w:=by
 cases ds with
 | nil=>
  obtain⟨v,U,W⟩:=qjg rfl O h;exact⟨v,U,v,rfl,W⟩
 | cons d ds=>exact h.h a O
theorem LeaveV.mark{O:Func}{D:Nat}(h:w.heap[D]?=some (.deferred (some [])))(U:∀w',w'=setO w D (.deferred none)->qkn P n O R ρ ds w'):LeaveV P n O R ρ ({ target:=.collected D,args:=#[] }::ds) w:=
 ⟨λa W=>⟨by simp,.inl ⟨D,_,rfl,run_takeDeferred h,qfv (U _ rfl) W⟩⟩⟩
def GvD(P:De)(f:FuncId)(args:Dm)(w:Dc)(R:Dk):Prop:=
 qcl P f=true/\CallsDIn (Fr none) 0 P f args.toArray .returning w λe H w'=>H=.returning/\∃v,e=.returned v/\R w'
theorem LeaveV.call{O:Func}{g:FuncId}(h:GvD P g vs w λw'=>qkn P n O R ρ ds w'):LeaveV P n O R ρ ({ target:=.fn (.func g) #[],args:=vs.toArray }::ds) w:=by
 refine⟨λa U=>⟨by simp,.inr ⟨(by grind [Fr]),.func g,#[],g,vs.toArray,rfl,?_,λ_ _=>trivial,?_⟩⟩⟩
 ·simp only[invoke,Array.append_empty];exact qce h.1 _
 ·refine h.2.mono ?_;rintro e Z w' ⟨rfl,v,rfl,W⟩;exact qfv W U
def qac1(P:De)(n:Nat)(H:Func)(R:Di):QW
 | .normal,ρ,ds,w=>qkn P n H R ρ ds w
 | .ret,ρ,ds,w=>qkn P n H R ρ ds w
 | _,_,_,_=>False
theorem q58{n:Nat}(U:vs.length<=n):Sw n (ini vs) { tmps:=vs.toArray++Array.replicate (n-vs.toArray.size) undef,defers:=[] }:=by
 refine⟨by simp;omega,λt=>?_,rfl⟩;rw[q57,BM]
 grind
theorem gvW{U:Func}{c:Code}(Z:qcl P f=true)(hf:P.funcs[f]?=some U)(hb:U.body=some c)(hn:U.ntmps=n)(hl:Nat.ble vs.length n=true)(h:qdv P n none c (qac1 P n U R) (ini vs) [] w):Gv P f vs w R:=by
 have W:vs.length<=n:=by simpa using hl
 refine⟨Z,qck (r:=none) (m:=0) |>.1 (callsIn_of_wp_marks hf hb trivial (Go.wpIn_mono (qeg c _ _ _ _ h _ (by rw[hn];exact q58 W) rfl) λe a w H=>?_))⟩;obtain⟨ρ,O,H⟩:=H;cases e with
 | normal=>exact qfv H O
 | ret=>exact qfv H O
 | exit i=>exact H.elim
 | goto i=>exact H.elim
 | panic i=>exact H.elim
 | outgrown=>exact H.elim
theorem gvD{U:Func}{c:Code}{R:Dk}(he:qcl P f=true)(hf:P.funcs[f]?=some U)(hb:U.body=some c)(hn:U.ntmps=n)(hl:Nat.ble vs.length n=true)(h:qgq P n c (q2e P n U (λ_ w'=>R w')) (ini vs) w):GvD P f vs w R:=by
 have aa:vs.length<=n:=by simpa using hl
 have W:c.wpIn (Fr none) 0 P (bodyPost P U λe w'=>∃v,e=.returned v/\R w') { tmps:=vs.toArray++Array.replicate (U.ntmps-vs.toArray.size) undef,defers:=[] } w:=by
  refine wpIn_wide.2 (Go.wp_mono (qia c _ _ _ h _ (by rw[hn];exact(q58 aa).st rfl)) λe a w O=>?_);obtain⟨ρ,H,O⟩:=O;cases e with
  | normal=>
   obtain⟨v,W,h2⟩:=qjg rfl H O;exact⟨H.defers,v,W,v,rfl,h2⟩
  | ret=>
   obtain⟨v,W,h2⟩:=qjg rfl H O;exact⟨H.defers,v,W,v,rfl,h2⟩
  | exit i=>exact O.elim
  | goto i=>exact O.elim
  | panic i=>exact O.elim
  | outgrown=>exact O.elim
 exact⟨he,callsDIn_of_wp hf hb trivial W⟩
theorem GvD.mono{R H:Dk}(h:GvD P f vs w R)(O:∀w',R w'->H w'):GvD P f vs w H:=
 ⟨h.1,h.2.mono (by grind)⟩
structure Carr(J:Dl->Dk):Prop where
 ext:∀{X w w'},J X w->Ext w w'->J X w'
 get:∀{X w} {b:Nat} {o:Obj},J X w->(b,o)∈X->w.heap[b]?=some o
 new:∀{X w} (o:Obj),J X w->J ((w.heap.size,o)::X) (w.alloc o)
 set:∀{X w} {b:Nat} {o:Obj} (o':Obj),J ((b,o)::X) w->J ((b,o')::X) (setO w b o')
 drop:∀{X w} {x:Nat×Obj},J (x::X) w->J X w
 perm:∀{X Y w},J X w->X.Perm Y->J Y w
theorem Carr.tail(h:Carr J)(L:Dl):Carr λX w=>J (X++L) w:=
 ⟨h.ext,λk U=>h.get k (by grind),λo k=>h.new o k,λH k=>h.set H k,h.drop,λk O=>h.perm k (O.append_right L)⟩
theorem Carr.any{H:Type}{J:H->Dl->Dk}(h:∀c,Carr (J c)):Carr λX w=>∃c,J c X w:=
 ⟨λ⟨c,k⟩ O=>⟨c,(h c).ext k O⟩,(by grind [get]),(by grind [new]),(by grind [set]),λ⟨c,k⟩=>⟨c,(h c).drop k⟩,λ⟨c,k⟩ U=>⟨c,(h c).perm k U⟩⟩
def SeqV(P:De)(gf:FuncId)(lb:Dm)(xs:List Dm)(O:Dk):Prop:=
 ∀(l:Nat) (I H:Nat->Dk) (w:Dc),(∀k w,I k w->O w)->(∀k w w',I k w->Ext w w'->I k w')->(∀k w w',H k w->Ext w w'->H k w')->I 0 w->
  (∀k x w,xs[k]?=some x->I k w->YieldV P l x w λv w'=>(v=.bool true/\I (k+1) w')\/(v=.bool false/\H k w'))->
  Gv P gf (.func (.yield l) #[] #[]::lb) w λ_ w'=>I xs.length w'\/∃k,k<xs.length/\H k w'
def SeqC(P:De)(gf:FuncId)(lb:Dm)(xs:List Dm)(O:Dk):Prop:=
 ∀(l:Nat) (I H:Nat->Dl->Dk) (w:Dc),(∀k,Carr (I k))->(∀k,Carr (H k))->(∀k X w,I k X w->O w)->I 0 [] w->
  (∀k x X w,xs[k]?=some x->I k X w->YieldV P l x w λv w'=>(v=.bool true/\I (k+1) X w')\/(v=.bool false/\H k X w'))->
  Gv P gf (.func (.yield l) #[] #[]::lb) w λ_ w'=>I xs.length [] w'\/∃k,k<xs.length/\H k [] w'
theorem SeqV.toC{xs:List Dm}{U:Dk}(h:SeqV P gf lb xs U):SeqC P gf lb xs U:=
 λl I W w Z H hw h0 hy=>h l (λk w=>I k [] w) (λk w=>W k [] w) w (by grind) (λk _ _ g O=>(Z k).ext g O) (λk _ _ g O=>(H k).ext g O) h0 (by grind)
def qos:List Tmp->Dm->Dj->Nat->Dh
 | p::H,v::vs,ρ=>qos H vs (upd ρ p v)
 | _,_,ρ=>ρ
theorem qts:∀(H:List Tmp) (vs:Dm) (ρ:Dj) (t:Dp),H.all (Nat.blt · n)=true->St n ρ ⟨t,[]⟩->
  St n (qos H vs ρ) ⟨(H.zip vs).foldl (λt (p,v)=>t.setIfInBounds p v) t,[]⟩:=by
 intro H
 induction H with
 | nil=>intro vs ρ t _ h;exact h
 | cons p H U=>
  intro vs ρ t O h;cases vs with
  | nil=>exact h
  | cons v vs=>
   simp only[List.all_cons,AB]at O;exact U vs _ _ O.2 (h.put (by simp_all) v)
structure BeginV(w1 w2:Dc)(ds:Dq)(K:Prop):Prop where
 w:w2=w1
 d:ds=[]
 k:K
def q3v(K:Dj->Dq->Dk):QW
 | .normal,ρ,ds,w=>K ρ ds w
 | _,_,_,_=>False
def qtm(J:Dk)(H:Code->Dk):QW
 | .normal,_,_,w=>J w
 | .ret,_,_,w=>H .ret w
 | .exit id,_,_,w=>H (.exit id) w
 | .goto t,_,_,w=>H (.goto t) w
 | _,_,_,_=>False
def qacj(c:Code)(Q:QW)(ρ:Dj)(ds:Dq)(w:Dc):Prop:=
 match c with
 | .ret=>Q .ret ρ ds w
 | .exit id=>Q (.exit id) ρ ds w
 | .goto t=>Q (.goto t) ρ ds w
 | _=>False
theorem qte{f:Operand}{ps:Array Tmp}{Q:QW}{Φ:Dk}{xs:List Dm}(hf:ev ρ f=.func (.func gf) #[] lb.toArray)(he:qcl P gf=true)(ah:SeqC P gf lb xs Φ)(ao:ps.toList.all (Nat.blt · n)=true)(aq:∀x∈xs,x.length=ps.size)(J:Nat->Dl->Dk)(Jx:Code->Nat->Dl->Dk)(hJ:∀k,Carr (J k))(O:∀c k,Carr (Jx c k))(hw:∀k X w,J k X w->Φ w)(h0:J 0 [] w)(ae:∀l D ob k x X w1 w2,xs[k]?=some x->J k ((l,ob)::(D,.deferred (some []))::X) w2->
   qdv P n (some l) assign (q3v λai ar au=>BeginV w1 au ar
    (qdv P n (some l) body (qtm (J (k+1) ((l,ob)::(D,.deferred (some []))::X)) (λc=>Jx c k ((l,ob)::(D,.deferred (some []))::X))) ai [] w2)) (qos ps.toList x ρ) [] w1)(af:∀D w',J xs.length [(D,.deferred (some []))] w'->Q .normal ρ ({ target:=.collected D,args:=#[] }::ds) w')(ag:∀D c k w',k<xs.length->Jx c k [(D,.deferred (some []))] w'->qacj c Q ρ ({ target:=.collected D,args:=#[] }::ds) w'):RangeW P n none f ps assign body Q ρ ds w:=by
 refine⟨λa ha hd=>?_⟩;subst hd;refine wpIn_rangeFunc ?_;intro fn av;obtain⟨U,H⟩:∃U:LoopState->Option Code->Loop,U=λst pe=>{ state:=st,pending:=pe,fn,tmps:=a.tmps,params:=ps,assign,body,defers:=w.heap.size }:=⟨_,rfl⟩
 obtain⟨W1,al⟩:∃W1,(w.alloc (.deferred (some []))).alloc (.loop (U .ready none))=W1:=⟨_,rfl⟩
 have hD:=(hJ 0).new (.deferred (some [])) h0;have hL:=(hJ 0).new (.loop (U .ready none)) hD;rw[al,World.size_alloc]at hL;refine⟨w.heap.size+1,[{ target:=.collected w.heap.size,args:=#[] }],W1,{ target:=.fn (.func gf) lb.toArray,args:=#[.func (.yield (w.heap.size+1)) #[] #[]] },W1,gf,
  #[.func (.yield (w.heap.size+1)) #[] #[]]++lb.toArray,W1,?_,?_,λ_ _=>trivial,?_,(by grind [Fr]),?_⟩
 ·rw[<-al,H];exact run_enterLoop_outer _ _ _ _ _
 ·have:a.eval f=.func (.func gf) #[] lb.toArray:=by rw[ha.eval,hf]
  simp only[resolve,this];simp[go_sem]
 ·grind [invoke,qce]
 ·have ea:#[Value.func (.yield (w.heap.size+1)) #[] #[]]++lb.toArray=(Value.func (.yield (w.heap.size+1)) #[] #[]::lb).toArray:=by simp
  rw[ea];refine qck.2 ((ah (w.heap.size+1) (λk X W=>J k (X++[(w.heap.size+1,.loop (U .ready none)),(w.heap.size,.deferred (some []))]) W)
   (λk X W=>∃c,Jx c k (X++[(w.heap.size+1,.loop (U .done (some c))),(w.heap.size,.deferred (some []))]) W) W1
   (λk=>(hJ k).tail _) (λk=>Carr.any λc=>(O c k).tail _) (by grind) hL ?_).2.mono ?_)
  ·intro k x X W hx hk;replace hk:=(hJ k).perm hk As;have hl:=(hJ k).get hk mh;have hy:=run_yield (P:=P) (args:=x.toArray) hl (by rw[H];simpa using aq x (zmg hx));rw[H]at hy;refine⟨⟨fn,_,assign,body,hy,roundIn_of_wpIn av ?_⟩⟩;have h1:=ae (w.heap.size+1) w.heap.size _ k x X W _ hx ((hJ k).set (.loop { U .ready none with state:=.busy }) hk);have hz:(ps.zip x.toArray).foldl (λt (p,v)=>t.setIfInBounds p v) a.tmps=(ps.toList.zip x).foldl (λt (p,v)=>t.setIfInBounds p v) a.tmps:=by
    rw[<-Array.foldl_toList];simp
   have aw:Sw n (qos ps.toList x ρ) { tmps:=(ps.zip x.toArray).foldl (λt (p,v)=>t.setIfInBounds p v) a.tmps,defers:=[] }:=by
    rw[hz];exact qts _ _ _ _ ao ha
   refine Go.wpIn_mono (F:=Fr (some (w.heap.size+1))) (qeg assign _ _ _ _ h1 _ aw rfl) λe a1 w1 Z=>?_;obtain⟨ai,am,Z⟩:=Z;cases e with
   | normal=>
    obtain⟨ax,ay,az⟩:=Z;subst ax;refine⟨_,run_beginRound hl (by rw[H]),?_⟩;refine Go.wpIn_mono (F:=Fr (some (w.heap.size+1))) (qeg body _ _ _ _ az _ am ay) λe a2 w2 Z=>?_;obtain⟨a3,a0,Z⟩:=Z;cases e with
    | normal=>
     refine⟨_,_,run_endRound none ((hJ _).get Z mh),_,rfl,.inl ⟨rfl,?_⟩⟩;have:=(hJ (k+1)).perm ((hJ (k+1)).set (.loop (U .ready none)) Z) (As (l₁:=[_,_]));rw[H]at this|-;exact this
    | ret=>
     refine⟨_,_,run_endRound (some .ret) ((O _ _).get Z mh),_,rfl,.inr ⟨rfl,.ret,?_⟩⟩;have:=(O _ k).perm ((O _ k).set (.loop (U .done (some .ret))) Z) (As (l₁:=[_,_]));rw[H]at this|-;exact this
    | exit id=>
     refine⟨_,_,run_endRound (some (.exit id)) ((O _ _).get Z mh),_,rfl,.inr ⟨rfl,.exit id,?_⟩⟩;have:=(O _ k).perm ((O _ k).set (.loop (U .done (some (.exit id)))) Z) (As (l₁:=[_,_]));rw[H]at this|-;exact this
    | goto t=>
     refine⟨_,_,run_endRound (some (.goto t)) ((O _ _).get Z mh),_,rfl,.inr ⟨rfl,.goto t,?_⟩⟩;have:=(O _ k).perm ((O _ k).set (.loop (U .done (some (.goto t)))) Z) (As (l₁:=[_,_]));rw[H]at this|-;exact this
    | panic ch=>exact Z.elim
    | outgrown=>exact Z.elim
   | ret=>exact Z.elim
   | exit id=>exact Z.elim
   | goto t=>exact Z.elim
   | panic ch=>exact Z.elim
   | outgrown=>exact Z.elim
  ·rintro e W2 ⟨v,rfl,h|⟨k,hk,c,h⟩⟩
   ·have hl:=(hJ _).get h mh;have:=run_endLoop (P:=P) hl (by rw[H];simp);rw[H]at this;exact⟨none,_,this,ρ,ha,af _ _ ((hJ _).drop ((hJ _).set _ h))⟩
   ·have hl:=(O _ _).get h mh;have:=run_endLoop (P:=P) hl (by rw[H];simp);rw[H]at this;refine⟨some c,_,this,?_⟩;have hs:=ag _ c k _ hk ((O _ _).drop ((O _ _).set (.loop { U .done (some c)with state:=.exhausted }) h));rw[H]at hs;cases c with
    | ret=>exact Go.wpIn_ret ⟨ρ,ha,hs⟩
    | exit id=>exact Go.wpIn_exit ⟨ρ,ha,hs⟩
    | goto t=>exact Go.wpIn_goto ⟨ρ,ha,hs⟩
    | _=>exact hs.elim
theorem Mem.glue{a b c:Dc}(h:Mem a b L)(k:Mem b c M):Mem a c (M++L):=by
 refine⟨h.ext.trans k.ext,λx H=>?_,?_⟩
 ·rcases AJ.1 H with H|H
  ·exact⟨A4 h.ext.size (k.own x H).1,(k.own x H).2⟩
  ·exact⟨(h.own x H).1,k.ext.get (h.own x H).2⟩
 ·rw[AY,List.nodup_append];refine⟨k.nodup,h.nodup,?_⟩;intro u O v U e;obtain⟨x,H,rfl⟩:=AI.1 O;obtain⟨y,W,rfl⟩:=AI.1 U;have Z:=(k.own x H).1;have h2:=h.lt (b:=y.1) (o:=y.2) W;omega
theorem Mem.glue2{a b c:Dc}(h:Mem a b L)(k:Mem b c M):Mem a c (L++M):=(h.glue k).perm As
theorem Carr.mem{U:Type}(A:U->Prop)(L:U->Dl):Carr λX w=>∃s,A s/\Mem w0 w (X++L s):=by
 refine⟨?_,?_,?_,?_,?_,?_⟩
 ·rintro X w w' ⟨s,O,H⟩ W;exact⟨s,O,H.call W⟩
 ·rintro X w b o ⟨s,O,H⟩ hx;exact H.get (by grind)
 ·rintro X w o ⟨s,O,H⟩;exact⟨s,O,H.new rfl rfl⟩
 ·rintro X w b o Z ⟨s,O,H⟩;exact⟨s,O,H.setO (i:=0) Z rfl rfl⟩
 ·rintro X w x ⟨s,O,H⟩;exact⟨s,O,H.sub Js⟩
 ·rintro X Y w ⟨s,O,H⟩ hp;exact⟨s,O,H.perm (hp.symm.append_right _)⟩
end
end V
end Go.Proofs.YtccmcfpmknpccaaGreatDoor
