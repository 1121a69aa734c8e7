/- Lemmas and contracts of functions on the way to the law's card (part 7 of 20). -/
import Derived.Test.YtccmcfpmknpccaaGreatDoorSA6
import Derived.Lib.BitFns
namespace Go.Proofs.YtccmcfpmknpccaaGreatDoor
set_option maxHeartbeats 8000000
open Go.RowKit V
variable {a b base c d i j k m most off:Nat} {ahead l s:LB} {w w' w0:DU} {A B:oA} {mx:Option DZ} {L:Ed} {vs xs:Ee} {e ty:DX} {K:Ea} {P:DW} {z:DZ}
theorem qff{n:Nat}(h:n<256):InR .u8 (n:Int):=⟨by omega,by omega⟩
def qid(n:Nat):Nat:=n%2+n/2%2+n/4%2+n/8%2+n/16%2+n/32%2+n/64%2+n/128%2
def qb6(l:LB):Nat->Nat->Nat
 | _,0=>0
 | a,k+1=>qb6 l a k+qid (l.getD (a+k) 0).toNat
def qgx(l:LB)(i:Nat):Nat:=
 if i=0\/vN l=0 then 0 else if vN l<=i then vM l else
  min (leN ((l.drop (qz (vN l)+4*(i/2048))).take 4)+leN ((l.drop (qa6 (vN l)+2*(i/256))).take 2)+qb6 l (8+i/256*32) (i%256/8)+qid ((l.getD (8+i/8) 0).toNat%2 ^ (i%8))) i
def bitN(d:LB)(i:Nat):Nat:=(d.getD (i/8) 0).toNat/2 ^ (i%8)%2
def cnt(d:LB):Nat->Nat
 | 0=>0
 | n+1=>cnt d n+bitN d n
theorem qc8(d:LB)(i:Nat):bitN d i<=1:=by unfold bitN;omega
theorem qlm(d:LB)(n:Nat):cnt d n<=n:=by
 induction n<;>grind [qc8,cnt]
theorem qks{d:LB}(h:a<=b):cnt d a<=cnt d b:=by
 induction h<;>grind [cnt]
theorem q0l:∀x,x<256->∀r,r<8->qid (x%2 ^ (r+1))=qid (x%2 ^ r)+x/2 ^ r%2:=by decide +kernel
theorem qacr(d:LB)(a r:Nat)(H:r<=8):cnt d (8*a+r)=cnt d (8*a)+qid ((d.getD a 0).toNat%2 ^ r):=by
 induction r with
 | zero=>rw[Nat.pow_zero,Nat.mod_one,BB];rfl
 | succ r U=>
  grind [cnt,q0l,q8,bitN]
theorem q8u(d:LB)(a k:Nat):cnt d (8*(a+k))=cnt d (8*a)+qb6 d a k:=by
 induction k with
 | zero=>rfl
 | succ k H=>
  have e:8*(a+(k+1))=8*(a+k)+8:=by omega
  rw[e,qacr d (a+k) 8 Oo,H,qb6]
  grind [q8]
theorem q3m{H:Type}(l:List H)(a i:Nat)(x:H):(l.drop a).getD i x=l.getD (a+i) x:=by
 simp
theorem qqm(l:LB)(b a k:Nat):qb6 (l.drop b) a k=qb6 l (b+a) k:=by
 induction k<;>grind [qb6]
theorem q14(l:LB)(a t:Nat):bitN (l.drop a) t=bitN l (8*a+t):=by
 grind [bitN]
theorem qdk(l:LB)(a t:Nat)(h:t<8*a):bitN (l.take a) t=bitN l t:=by
 grind [bitN]
theorem qxn(l:LB)(a:Nat):∀n,n<=8*a->cnt (l.take a) n=cnt l n
 | 0,_=>rfl
 | n+1,h=>by rw[cnt,cnt,qxn l a n Oo,qdk _ _ _ Oo]
structure VecOk(l:LB):Prop where
 ok:vOk l=true
 great:∀j,j<upN (vN l) 2048->leN ((l.drop (qz (vN l)+4*j)).take 4)=cnt (l.drop 8) (2048*j)
 small:∀j,j<upN (vN l) 256->leN ((l.drop (qa6 (vN l)+2*j)).take 2)=cnt (l.drop 8) (256*j)-cnt (l.drop 8) (2048*(j/8))
 ones:cnt (l.drop 8) (vN l)=vM l
theorem VecOk.rank(h:VecOk l)(i:Nat)(hi:i<=vN l):qgx l i=cnt (l.drop 8) i:=by
 rw[qgx]
 by_cases H:i=0\/vN l=0
 ·rw[Ad H];obtain rfl:i=0:=by omega
  rfl
 rw[Aa H]
 by_cases U:vN l<=i
 ·rw[Ad U];obtain rfl:i=vN l:=by omega
  exact h.ones.symm
 rw[Aa U];have W:i/2048<upN (vN l) 2048:=by unfold upN;omega
 have Z:i/256<upN (vN l) 256:=by unfold upN;omega
 rw[h.great _ W,h.small _ Z,<-qqm,<-q3m];have e8:i/256/8=i/2048:=by omega
 rw[e8];have m1:cnt (l.drop 8) (2048*(i/2048))<=cnt (l.drop 8) (256*(i/256)):=qks Oo;have f1:=q8u (l.drop 8) (i/256*32) (i%256/8);have f2:=qacr (l.drop 8) (i/8) (i%8) Oo
 grind [qlm]
theorem q4j:∀(l:LB) (t:Nat),leN l/2 ^ t%2=bitN l t
 | [],t=>by simp[leN,bitN]
 | x::l,t=>by
  have Z:=q8 x
  rcases Bj t 8 with W|W
  ·have H:t/8=0:=by omega
   have U:t%8=t:=by omega
   rw[bitN,H,U,leN];simp only[List.getD_cons_zero];obtain rfl|rfl|rfl|rfl|rfl|rfl|rfl|rfl:t=0\/t=1\/t=2\/t=3\/t=4\/t=5\/t=6\/t=7:=by omega
   all_goals(simp only[Nat.reducePow];omega)
  ·obtain⟨u,rfl⟩:∃u,t=8+u:=⟨t-8,by omega⟩
   rw[leN,Nat.pow_add,<-Nat.div_div_eq_div_mul];have e:(x.toNat+256*leN l)/2 ^ 8=leN l:=by simp only[Nat.reducePow];omega
   rw[e,q4j l u,bitN,bitN];have H:(8+u)/8=u/8+1:=by omega
   have U:(8+u)%8=u%8:=by omega
   rw[H,U,List.getD_cons_succ]
def valB(p:LB)(f:Nat):Nat->Nat
 | 0=>0
 | k+1=>valB p f k+bitN p (f+k)*2 ^ k
theorem qj3(p:LB)(f k:Nat):valB p f k<2 ^ k:=by
 induction k with
 | zero=>simp[valB]
 | succ k H=>
  have:=qc8 p (f+k);have U:bitN p (f+k)*2 ^ k<=1*2 ^ k:=Bx _ this
  grind [valB]
theorem qrm(p:LB)(f k:Nat)(h:k<=m):valB p f k<2 ^ m:=Bf (qj3 p f k) (AY Od h)
def numP(p:LB)(w i:Nat):Nat:=leN ((p.drop (i*w/8)).take 4)/2 ^ (i*w%8)%2 ^ w
theorem qage(p:LB)(w i:Nat):numP p w i<2 ^ w:=Cu _ (Nat.two_pow_pos w)
theorem qky(p:LB)(w i:Nat)(W:w<=24):numP p w i=valB p (i*w) w:=by
 have H:∀k,k<=w->leN ((p.drop (i*w/8)).take 4)/2 ^ (i*w%8)%2 ^ k=valB p (i*w) k:=by
  intro k
  induction k with
  | zero=>grind [valB]
  | succ k U=>
   intro Z;rw[Nat.mod_pow_succ,U Oo,valB,Nat.div_div_eq_div_mul,<-Nat.pow_add,q4j,qdk _ _ _ Oo,q14]
   grind
 exact H w znr
def errF(f:Nat->Nat×Nat):Nat->Nat×Nat
 | 0=>(0,0)
 | k+1=>if(errF f k).2≠0 then errF f k else f k
theorem qbl{f:Nat->Nat×Nat}{n:Nat}(h:∀k,k<n->(f k).2=0):(errF f n).2=0:=by
 induction n<;>grind [errF]
theorem qae2{f:Nat->Nat×Nat}{n:Nat}(h:∀j,j<k->(f j).2=0)(H:k<n)(U:(f k).2≠0):errF f n=f k:=by
 induction n<;>grind [errF,qbl]
theorem qan{f:Nat->Nat×Nat}{n:Nat}(h:(errF f n).2=0):∀k,k<n->(f k).2=0:=by
 induction n<;>grind [errF]
def vAt(l:LB):Nat->Nat
 | 0=>0
 | k+1=>vAt l k+(numL (l.drop (vAt l k))).2.1
def vNum(l:LB)(k:Nat):Nat:=(numL (l.drop (vAt l k))).1
def numE(l:LB)(k most:Nat):Nat×Nat:=
 if(numL (l.drop (vAt l k))).2.2≠0 then(vAt l k,(numL (l.drop (vAt l k))).2.2)else if most<vNum l k then(vAt l k,2)else(0,0)
theorem qg9(l:LB)(k:Nat):vAt l k<=l.length:=by
 induction k<;>grind [qbi,vAt]
theorem qhs(l:LB)(k:Nat):vNum l k<18446744073709551616:=(qbi (l.drop (vAt l k))).1
theorem qwn(h:(numL (l.drop (vAt l k))).2.2=0):varS l (vAt l k) 0=(vNum l k,vAt l (k+1),0):=by
 rw[varS,Aa Js,Aa Oo];rfl
section
variable {l:LB} {k:Nat}
theorem qlb(h:(numL (l.drop (vAt l k))).2.2=0):(varS l (vAt l k) 0).1=vNum l k:=by rw[qwn h]
theorem qlc(h:(numL (l.drop (vAt l k))).2.2=0):(varS l (vAt l k) 0).2.1=vAt l (k+1):=by rw[qwn h]
theorem qld(h:(numL (l.drop (vAt l k))).2.2=0):(varS l (vAt l k) 0).2.2=0:=by rw[qwn h]
theorem q7l(h:(numL (l.drop a)).2.2=0):(varS l a 0).1=(numL (l.drop a)).1/\(varS l a 0).2.1=a+(numL (l.drop a)).2.1/\(varS l a 0).2.2=0:=by
 grind [varS]
theorem q7k(h:(numL (l.drop a)).2.2≠0):(varS l a 0).1=0/\(varS l a 0).2.1=a/\(varS l a 0).2.2=(numL (l.drop a)).2.2:=by
 grind [varS]
theorem qjq(H:(numL (l.drop (vAt l k))).2.2=0)(U:vNum l k<=most):numE l k most=(0,0):=by grind [numE]
theorem q5d(H:(numL (l.drop (vAt l k))).2.2=0)(h:(numE l k most).2=0):vNum l k<=most:=by
 grind [numE]
theorem qgq(H:(numL (l.drop (vAt l k))).2.2≠0):numE l k most=(vAt l k,(numL (l.drop (vAt l k))).2.2):=by grind [numE]
end
def qah(n:Nat):Nat:=Go.Lib.bitLen n
def dhF(m:LB)(k:Nat):Nat×Nat:=numE m k (if k=0 then 4194304 else 67108864)
def dN(m:LB):Nat:=vNum m 0
def qez(m:LB):Nat:=vNum m 1
def dW(m:LB):Nat:=qah (qez m)
def qak(m:LB):Nat:=vAt m 2
def ql(m:LB):Nat:=qak m+(upN (dN m) 16*dW m+7)/8
def dEnd(m:LB):Nat:=ql m+qez m
def dE(m:LB):Nat×Nat:=
 if(errF (dhF m) 2).2≠0 then errF (dhF m) 2 else if m.length<dEnd m then(m.length,10)else if dEnd m<m.length then(dEnd m,13)else(0,0)
def qx(m:LB):LB:=(m.drop (qak m)).take (ql m-qak m)
def qd(m:LB):LB:=m.drop (ql m)
def entG(m:LB)(first:Bool)(ahead:LB):LB×Nat×Nat:=
 let s:Nat×Nat×Nat:=if first then(0,0,0)else numL m
 if s.2.2≠0 then([],0,s.2.2)else
  let t:=numL (m.drop s.2.1)
  if t.2.2≠0 then([],0,t.2.2)else if ahead.length<s.1 then([],0,161)else if 262144<t.1\/262144<s.1+t.1 then([],0,2)
  else if m.length-s.2.1-t.2.1<t.1 then([],0,10)else(ahead.take s.1++(m.drop (s.2.1+t.2.1)).take t.1,s.2.1+t.2.1+t.1,0)
def qgw(E:LB)(p:Nat)(first:Bool)(ahead:LB):LB×Nat×Nat:=
 if E.length<p then([],0,10)else if(entG (E.drop p) first ahead).2.2≠0 then([],0,(entG (E.drop p) first ahead).2.2)else
  ((entG (E.drop p) first ahead).1,p+(entG (E.drop p) first ahead).2.1,0)
def blk(E:LB)(p:Nat):Nat->LB×Nat×Nat
 | 0=>qgw E p true []
 | j+1=>if(blk E p j).2.2≠0 then blk E p j else qgw E (blk E p j).2.1 false (blk E p j).1
def q7(m:LB)(k:Nat):Nat:=valB (qx m) (k*dW m) (dW m)
def dGet(m:LB)(i:Nat):Option LB:=
 if i<dN m then(if(blk (qd m) (q7 m (i/16)) (i%16)).2.2=0 then some (blk (qd m) (q7 m (i/16)) (i%16)).1 else none)else none
theorem qea{m:LB}{first:Bool}(h:(entG m first ahead).2.2=0):(entG m first ahead).1.length<=262144/\(entG m first ahead).2.1<=m.length:=by
 grind [entG,qbi]
theorem qxw{E:LB}{p:Nat}{first:Bool}(h:(qgw E p first ahead).2.2=0):(qgw E p first ahead).1.length<=262144/\(qgw E p first ahead).2.1<=E.length:=by
 grind [qgw,qea]
theorem qack{E:LB}{p:Nat}:∀{j:Nat},(blk E p j).2.2=0->(blk E p j).1.length<=262144/\(blk E p j).2.1<=E.length
 | 0,h=>qxw h
 | j+1,h=>by
  grind [blk,qxw]
theorem q8h{E:LB}{p:Nat}(h:(blk E p j).2.2≠0):∀{i:Nat},j<=i->blk E p i=blk E p j:=by
 intro i hi
 induction hi<;>grind [blk]
theorem qku{m:LB}(h:dGet m i=some s):s.length<=262144:=by
 grind [dGet,qack]
def vsF(l:LB)(k:Nat):Nat×Nat:=numE l k 67108864
def qr(l:LB):Nat->Nat
 | 0=>vAt l 3
 | k+1=>qr l k+vNum l k
def sE(l:LB):Nat×Nat:=
 if(errF (vsF l) 3).2≠0 then errF (vsF l) 3 else if l.length<qr l 3 then(l.length,10)else if qr l 3<l.length then(qr l 3,13)else(0,0)
def sDict(l:LB)(k:Nat):LB:=(l.drop (qr l k)).take (vNum l k)
def sdF(l:LB)(k:Nat):Nat×Nat:=if(dE (sDict l k)).2=0 then(0,0)else(qr l k+(dE (sDict l k)).1,(dE (sDict l k)).2)
def wE(l:LB):Nat×Nat:=if(sE l).2≠0 then sE l else errF (sdF l) 3
def vTot(l:LB):Nat->Nat
 | 0=>0
 | k+1=>vTot l k+dN (sDict l k)
def qce(l:LB)(id:Nat):Nat:=if vTot l 2<id then 2 else if vTot l 1<id then 1 else 0
def tcF(l:LB)(k:Nat):Nat×Nat:=
 if(numE l k 1048576).2≠0 then numE l k 1048576 else if 0<k/\(vNum l k<vNum l (k-1)\/¬(vNum l (k-1)=0↔vNum l k=0))then(vAt l k,180)else(0,0)
def tvAt(l:LB):Nat->Nat
 | 0=>vAt l 4
 | k+1=>tvAt l k+1+(vNum l k*(l.getD (tvAt l k) 0).toNat+7)/8+(if k=0 then 0 else qbe (vNum l k) (vNum l (k-1)))
def tw(l:LB)(k:Nat):Nat:=(l.getD (tvAt l k) 0).toNat
def tEnd(l:LB)(k:Nat):Nat:=tvAt l k+1+(vNum l k*tw l k+7)/8
def tvF(l:LB)(k:Nat):Nat×Nat:=if l.length<=tvAt l k then(l.length,10)else if 23<tw l k then(tvAt l k,14)else if l.length<tvAt l (k+1)then(l.length,10)else(0,0)
def tE(l:LB):Nat×Nat:=
 if(errF (tcF l) 4).2≠0 then errF (tcF l) 4 else if(errF (tvF l) 4).2≠0 then errF (tvF l) 4 else if tvAt l 4<l.length then(tvAt l 4,13)else(0,0)
def qg(l:LB)(k:Nat):LB:=(l.drop (tvAt l k+1)).take (tEnd l k-(tvAt l k+1))
def qe(l:LB)(k:Nat):LB:=(l.drop (tEnd l k)).take (tvAt l (k+1)-tEnd l k)
def tVec(l:LB)(k:Nat):Bool:=vOk (qe l k)&&decide (vN (qe l k)=vNum l k)&&decide (vM (qe l k)=vNum l (k-1))
def tUp(l:LB)(i:Nat):Nat->Nat
 | 0=>i
 | j+1=>qgx (qe l (3-j)) (tUp l i j)
def qj0(l:LB)(i j:Nat):Bool:=decide (tUp l i j<vNum l (3-j))&&(decide (j=3)||tVec l (3-j))
def tNum(l:LB)(i k:Nat):Nat:=numP (qg l k) (tw l k) (tUp l i (3-k))
def tOk(l:LB)(i:Nat):Bool:=qj0 l i 0&&qj0 l i 1&&qj0 l i 2&&qj0 l i 3
theorem qbb(l:LB)(k:Nat):tvAt l (k+1)=tEnd l k+(if k=0 then 0 else qbe (vNum l k) (vNum l (k-1))):=rfl
def qh(l:LB):LB:=(l.drop 28).take (hN l 4)
def qj(l:LB):LB:=(l.drop (32+hN l 4)).take (hN l 5)
def packE(l:LB):Nat×Nat:=
 if(qcd l).2≠0 then qcd l else if(wE (qh l)).2≠0 then(28+(wE (qh l)).1,(wE (qh l)).2)
 else if(tE (qj l)).2≠0 then(32+hN l 4+(tE (qj l)).1,(tE (qj l)).2)else(0,0)
set_option maxHeartbeats 8000000
set_option maxRecDepth 100000
theorem q4s(x:Nat)(w:DU)(H:x<18446744073709551616):Gv Eg 259 [.int .u64 x] w λr w'=>r=ii (qah x)/\w'=w:=
 qz8 Jk (Tryz.bits_Len64 x w Oo Oo)
theorem q7y(x:Nat)(w:DU)(H:x<18446744073709551616):Gv Eg 190 [.int .u64 x] w λr w'=>r=ii (qah x)/\w'=w:=by
 refine ze Tryz.func190 Tryz.ntmps190 ?_;refine zcv (q4s x w H) ?_;rintro r U ⟨rfl,rfl⟩;(conv=>whnf);exact⟨rfl,rfl⟩
theorem qj4(x:Nat)(H:x≠0)(h:x<18446744073709551616):qah x=1+qah (x/2):=Go.Lib.bitLen_half x H (by simpa using h)
theorem qgv:qah 0=0:=by decide
theorem qcq:∀(k x:Nat),x<2 ^ k->k<=64->qah x<=k
 | 0,x,h,_=>by
  obtain rfl:x=0:=by simpa using h
  rw[qgv];exact Ai _
 | k+1,x,h,U=>by
  by_cases H:x=0
  ·subst H;rw[qgv];exact Ag _
  ·have W:(2:Nat) ^ (k+1)<=2 ^ 64:=AY Od U;rw[qj4 x H (Bf h W)];have:=qcq k (x/2) (by rw[Nat.pow_succ]at h;omega) Oo;omega
theorem qn2(n:Nat)(w:DU)(H:n<=4194304):Gv Eg 316 [ii n] w λr w'=>r=ii (upN n 16)/\w'=w:=by
 refine ze Tryz.func316 Tryz.ntmps316 ?_;refine zv ?_;exact⟨Ae (Value.int .i64) (by unfold upN;omega),rfl⟩
structure DictAt(w:DU)(b:Nat)(m:LB):Prop where
 h:∃P cp E ce,w.heap[b]?=some (.cells #[ii (dN m),ii (dW m),.slice P (qx m).length cp,.slice E (qd m).length ce] 395)/\SlAt encB 1 w P (qx m)/\SlAt encB 1 w E (qd m)/\(qd m).length<=ce
 n:dN m<=4194304
 size:qez m<=67108864
 qg2:(qx m).length=(upN (dN m) 16*dW m+7)/8
 entries:(qd m).length=qez m
theorem DictAt.ext{m:LB}(h:DictAt w b m)(H:Ext w w'):DictAt w' b m:=by
 obtain⟨⟨P,U,E,W,Z,h2,h3,h4⟩,h5,h6,h7,h8⟩:=h;exact⟨⟨P,U,E,W,H.get Z,h2.ext H,h3.ext H,h4⟩,h5,h6,h7,h8⟩
theorem DictAt.width{m:LB}(h:DictAt w b m):dW m<=27:=qcq 27 _ (by have:=h.size;simp only[Nat.reducePow];omega) Od
theorem qxt(b:Nat)(m:LB)(w:DU)(h:DictAt w b m):Gv Eg 177 [pp b] w λr w'=>r=ii (dN m)/\w'=w:=by
 obtain⟨⟨P,U,E,W,H,Z,h3,h4⟩,h5,h6,h7,h8⟩:=h;refine ze Tryz.func177 Tryz.ntmps177 ?_;refine LoadV.own H rfl (zw ?_);exact⟨rfl,rfl⟩
theorem qs5(b:Nat)(m:LB)(k:Nat)(w:DU)(h:DictAt w b m)(hk:k<upN (dN m) 16):Gv Eg 323 [pp b,ii k] w λr w'=>r=ii (q7 m k)/\w'=w:=by
 have hW:=h.width;obtain⟨⟨P,cp,E,ce,Z,h2,h3,h4⟩,h5,h6,h7,h8⟩:=h;have aa:upN (dN m) 16<=4194304:=AI (qbc _ _ Od) h5;obtain⟨W,eW⟩:∃W,W=dW m:=⟨_,rfl⟩
 rw[q7];rw[<-eW]at Z h7 hW|-;have ad:k*W+W<=upN (dN m) 16*W:=by rw[<-Cz];exact Bx _ hk
 have ah:upN (dN m) 16*W<=4194304*27:=B8 aa hW;obtain⟨f,ef⟩:∃f,f=k*W:=⟨_,rfl⟩
 have ae:(k:Int)*(W:Int)=(f:Int):=by rw[ef,DC]
 rw[<-ef]at ad|-;refine ze Tryz.func323 Tryz.ntmps323 ?_;refine LoadV.own Z rfl ?_;refine qk (λi:Nat=>[(0,pp b),(1,ii k),(5,ii (valB (qx m) f i)),(11,ii W),(12,ii i)]) (λi w'=>i<=W/\w'=w) (λi=>W-i) 0 fq ⟨Ag _,rfl⟩ ?_;rintro i w1 ai ⟨i1,rfl⟩;have hv:=qj3 (qx m) f i;have af:valB (qx m) f i<2 ^ 27:=qrm _ _ _ Oo;simp only[Nat.reducePow]at af;(conv=>whnf);refine zC (λ_=>zw ?_) (λ_=>zw ?_)
 ·refine LoadV.own Z rfl (zw ?_);rw[ae];refine zv ?_;refine LoadV.own Z rfl (zu ?_);have hj:(f+i)/8<(qx m).length:=by omega
  refine ElemV.bs h2 rfl ((f+i)/8) Oo hj ?_;intro eb eo hc;refine LoadV.of hc (zu ?_);refine V.Wit.shrN ((f+i)%8) Oo (by show(f+i)%8<8;omega) ?_;have ag:=q8 (qx m)[(f+i)/8];have U:(qx m)[(f+i)/8].toNat/2 ^ ((f+i)%8)<256:=BI (Cv _ _) ag;refine Wit.eq (qay (k:=.u8) (m:=(qx m)[(f+i)/8].toNat/2 ^ ((f+i)%8)) 1 rfl (qff U) ⟨by omega,by omega⟩) (zu ?_);have hb:(qx m)[(f+i)/8].toNat/2 ^ ((f+i)%8)%2 ^ 1=bitN (qx m) (f+i):=by
   rw[bitN,Ah,zge hj];rfl
  rw[hb];have aj:=qj3 (qx m) f (i+1);have H:valB (qx m) f (i+1)<2 ^ 27:=qrm _ _ _ Oo;simp only[Nat.reducePow]at H;rw[valB]at H;refine V.Wit.shlN i Oo (by show i<64;omega) (qai Oo) ?_;refine Wit.eq (qbr i (qai Oo) hv) (zu ?_);exact⟨i+1,fq,⟨by omega,rfl⟩,by omega⟩
 ·obtain rfl:i=W:=by omega
  exact⟨rfl,rfl⟩
namespace V
theorem SliceV.to{H:Nat}{n:Nat}{lo hi:Option DZ}{K:DZ->Prop}(a b m:Nat)(Z:bnd lo 0 a)(h2:bnd hi n b)(h3:bnd mx c m)(U:a<=b)(W:b<=m)(hm:m<=c)(hs:mx.isSome=true->hi.isSome=true)(hk:K (.slice (if m=a then A else A.map (·.add (a*H))) (b-a) (m-a))):SliceV H A n c lo hi mx K:=
 ⟨a,b,m,Z,h2,h3,U,W,hm,hs,(by grind)⟩
end V
def hdL(m:LB)(k:Nat):Ee:=[ii (if 0<k then vNum m 0 else 0:Nat),ii (if 1<k then vNum m 1 else 0:Nat)]
theorem qaex{m:LB}(h:(dE m).2=0):(∀k,k<2->(numL (m.drop (vAt m k))).2.2=0/\vNum m k<=if k=0 then 4194304 else 67108864)/\dEnd m=m.length:=by
 have H:=qan (f:=dhF m) (n:=2) (by grind [dE]);exact⟨λk U=>by have:=H k U;grind [dhF,numE],by grind [dE]⟩
theorem q23(m:LB)(A:oA)(c:Nat)(w:DU)(hS:SlAt encB 1 w A m)(hc:m.length<=c)(hl:m.length<=140737488355328)(hE:(dE m).2=0):
  Gv Eg 236 [.slice A m.length c] w λv w'=>(∃b,v=.tuple #[pp b,ii (qak m),ii (ql m),.nilIface]/\w.heap.size<=b/\DictAt w' b m)/\Ext w w':=by
 obtain⟨ad,a0⟩:=qaex hE;have ag:BS w (.slice A m.length c) m:=⟨A,c,rfl,hc,hS⟩
 refine ze Tryz.func236 Tryz.ntmps236 ?_;refine zcv (qe8 _ m w ag) ?_;rintro v w1 ⟨Z,rfl,ah,ai,aj⟩;have H:Mem w w1 [(Z,curO 367 (.slice A m.length c) (vAt m 0) 0)]:=(Mem.nil w).fresh aj ah ai;(conv=>whnf);refine znm H ?_;intro W w2 H;have H:Mem w w2 [(W,.cells (hdL m 0).toArray 431),(Z,curO 367 (.slice A m.length c) (vAt m 0) 0)]:=H;(conv=>whnf);refine qk (λk:Nat=>[(0,.slice A m.length c),(2,.pointer none),(3,ii 0),(4,ii 0),(5,.nilIface),(6,pp Z),(7,pp W),(16,.agg #[.int .u64 4194304,.int .u64 67108864]),(17,ii k)])
  (λk w'=>k<=2/\Mem w w' [(W,.cells (hdL m k).toArray 431),(Z,curO 367 (.slice A m.length c) (vAt m k) 0)]) (λk=>2-k) 0
  fq (by grind) ?_
 clear H ai aj ah;rintro k w3 a2 ⟨k1,H⟩;(conv=>whnf);refine zC (λ_=>zu ?_) (λ_=>zu ?_)
 ·have hv:BS w3 (.slice A m.length c) m:=ag.ext H.ext;have ar:=qg9 m k;have a3:=qhs m k;have ae:∃mo:Nat,mo=(if k=0 then 4194304 else 67108864)/\(#[Value.int .u64 4194304,.int .u64 67108864]:Eh).toList[k*tsz Eg 164]?=some (.int .u64 mo):=by
   refine⟨_,rfl,?_⟩;rw[show tsz Eg 164=1 from by kernel_rfl]
   grind
  obtain⟨mo,au,av⟩:=ae;refine⟨_,av,?_⟩;(conv=>whnf);refine zcv (qli Z _ (vAt m k) 0 w3 (H.get (zmc mh))) ?_;rintro r w4 ⟨rfl,rfl⟩;(conv=>whnf);refine zcv (qes Z _ (vAt m k) 0 m _ (H.get (zmc mh)) hv ar hl) ?_;rintro r w5 ⟨rfl,hu⟩;obtain⟨he,aa⟩:=ad k Oo;rw[<-au]at aa;rw[qlc he,qld he]at hu;rw[qlb he];have H:Mem w w5 [(W,.cells (hdL m k).toArray 431),(Z,curO 367 (.slice A m.length c) (vAt m (k+1)) 0)]:=H.upd (i:=1) rfl hu;(conv=>whnf);refine zcv (qhe Z _ _ 0 w5 (H.get (zmc mh))) ?_;rintro r w6 ⟨rfl,rfl⟩;refine zu ?_;have a1:mo<=67108864:=by grind
  refine Wit.conv (qai Oo) (zu ?_);have e2:0+k*tsz Eg 3=k:=by rw[show tsz Eg 3=1 from by kernel_rfl];omega
  refine StoreV.mem H (i:=0) rfl (by grind [hdL]) rfl ?_;intro w8 H;rw[e2]at H;have ak:(hdL m k).toArray.setIfInBounds k (ii (vNum m k))=(hdL m (k+1)).toArray:=by
   obtain rfl|rfl:k=0\/k=1:=by omega
   all_goals rfl
  have H:Mem w w8 [(W,.cells (hdL m (k+1)).toArray 431),(Z,curO 367 (.slice A m.length c) (vAt m (k+1)) 0)]:=by rw[<-ak];exact H
  refine zu ?_;refine⟨k+1,fq,⟨by omega,H⟩,by omega⟩
 ·obtain rfl:k=2:=by omega
  have H:Mem w w3 [(W,.cells #[ii (vNum m 0),ii (vNum m 1)] 431),(Z,curO 367 (.slice A m.length c) (vAt m 2) 0)]:=H;have af:vNum m 0<=4194304:=(ad 0 Oo).2;have g2:vNum m 1<=67108864:=(ad 1 Oo).2;have aw:dW m<=27:=qcq 27 _ (by show vNum m 1<_;omega) Od;refine DrawV.free Jk Jk (zw ?_);refine zf ?_ (by intro wd W;(conv=>whnf);refine zJ 0 ?_;(conv=>whnf);exact xq);refine zLd ?_;refine zf ?_ (by intro wd W;(conv=>whnf);refine zJ 1 ?_;(conv=>whnf);exact xq);refine zLd ?_;refine zd ?_;apply zsd
  ·intro wd W;(conv=>whnf);refine zcv (q7y (vNum m 1) wd Oo) ?_;rintro v w9 ⟨rfl,rfl⟩;exact xq
  (conv=>whnf);refine zd ?_;apply StepD.of (λv wx=>∃b,v=pp b/\w3.drew.heap.size<=b/\wx.heap[b]?=some (.cells #[ii (dN m),ii (dW m),.slice none 0 0,.slice none 0 0] 395))
   (λ_ _ _ h he=>let⟨b,h1,h2,h3⟩:=h;⟨b,h1,h2,he.get h3⟩)
  ·intro wd W;(conv=>whnf);refine⟨λx wx hb hw=>?_⟩;subst hb hw;(conv=>whnf);exact⟨xr.alloc _,_,rfl,W.size,heap_alloc_new _ _⟩
  (conv=>whnf);apply StepD.of (λv wx=>∃b,v=pp b/\w3.drew.heap.size<=b/\wx.heap[b]?=some (.cells #[ii (dN m),ii (dW m),.slice none 0 0,.slice none 0 0] 395))
   (λ_ _ _ h he=>let⟨b,h1,h2,h3⟩:=h;⟨b,h1,h2,he.get h3⟩)
  ·intro wd W;(conv=>whnf);rintro _ _;(conv=>whnf);rintro v ⟨b,rfl,h1,h2⟩;conv=>whnf
   grind [Ext.refl]
  (conv=>whnf);intro w9 ax;(conv=>whnf);rintro v ⟨b,rfl,hb,ho⟩;(conv=>whnf);intro _ _;(conv=>whnf);have H:=H.drew.fresh ax hb ho;refine zcv (qli Z _ (vAt m 2) 0 w9 (H.get (zmc (zmc mh)))) ?_;rintro r ay ⟨rfl,rfl⟩;(conv=>whnf);have az:upN (dN m) 16<=4194304:=AI (qbc _ _ Od) af;have al:upN (dN m) 16*dW m<=4194304*27:=B8 az aw;obtain⟨f,ef⟩:∃f,f=upN (dN m) 16*dW m:=⟨_,rfl⟩
  have a4:((upN (dN m) 16:Nat):Int)*((dW m:Nat):Int)=(f:Int):=by omega
  rw[<-ef]at al;have e3:qak m=vAt m 2:=rfl;have e4:ql m=qak m+(f+7)/8:=by rw[ef];rfl
  have e5:dEnd m=ql m+vNum m 1:=rfl;have a5:=qg9 m 2;refine zy ?_;have H:=H.drew;refine zt ?_;refine LoadV.mem (i:=0) Oa rfl rfl (zw ?_);refine zt ?_;refine⟨ii (upN (dN m) 16),qn2 (dN m) _ af,?_⟩;(conv=>whnf);refine zt ?_;refine LoadV.mem (i:=0) Oa rfl rfl (zw ?_);refine zt ?_;refine zJ 1 ?_;(conv=>whnf);refine LoadV.mem (i:=1) Oa rfl rfl (zw ?_);refine zt ?_;obtain⟨am,an⟩:∃am:DU,am=ay.drew:=⟨_,rfl⟩
  rw[<-an]at H|-;obtain⟨PV,ao⟩:∃PV:DZ,PV=.slice (if c=qak m then A else A.map (·.add (qak m*1))) (ql m-qak m) (c-qak m):=⟨_,rfl⟩
  obtain⟨EV,aq⟩:∃EV:DZ,EV=.slice (if c=ql m then A else A.map (·.add (ql m*1))) (dEnd m-ql m) (c-ql m):=⟨_,rfl⟩
  refine DrawV.inv (λS w'=>Mem w w' [(b,.cells #[ii (dN m),ii (dW m),(bif S 12 then PV else .slice none 0 0),(bif S 15 then EV else .slice none 0 0)] 395),(W,.cells #[ii (vNum m 0),ii (vNum m 1)] 431),(Z,curO 367 (.slice A m.length c) (vAt m 2) 0)]) rfl Jk H.drew (zw ?_);(iterate 5 (refine zi ?_));refine StepI.of PV (λS wd hk hp U=>zw ?_) (zw ?_)
  ·refine SliceV.to (qak m) (ql m) c (by rfl) (by rfl) rfl Oo Oo Oo (λh=>by cases h) (zw ?_);exact⟨ao.symm,U⟩
  (iterate 3 (refine zi ?_));refine StepI.of EV (λS wd hk hp U=>zw ?_) ?_
  ·refine SliceV.to (ql m) (dEnd m) c (by rfl) (by rfl) rfl Oo Oo Oo (λh=>by cases h) (zw ?_);exact⟨aq.symm,U⟩
  subst ao aq;(conv=>whnf);refine zi ?_;refine zi ?_;refine StepI.of undef (λS wd hk hp U=>?_) (zw ?_)
  ·dsimp only at U;rw[hk]at U;(conv=>whnf);refine StoreV.mem U (i:=0) rfl (show 2<4 by decide) rfl λwx aa=>zw ?_;exact⟨rfl,aa⟩
  refine zi ?_;refine zi ?_;refine StepI.of undef (λS wd hk hp U=>?_) (zw ?_)
  ·dsimp only at U;rw[hk]at U;(conv=>whnf);refine StoreV.mem U (i:=0) rfl (show 3<4 by decide) rfl λwx aa=>zw ?_;exact⟨rfl,aa⟩
  intro a6 U;(conv=>whnf);obtain⟨o1,o2⟩:=U.own _ mh;have l1:(qx m).length=ql m-qak m:=by grind [qx]
  have l2:(qd m).length=dEnd m-ql m:=by grind [qd]
  have e9:(((vAt m 2:Nat):Int)+(((upN (dN m) 16:Nat):Int)*((dW m:Nat):Int)+7)/8)=((ql m:Nat):Int):=by omega
  rw[e9];have c1:SlAt encB 1 w (if c=qak m then A else A.map (·.add (qak m*1))) (qx m):=hS.cut (m:=c) Oo Oo Oo rfl;have c2:SlAt encB 1 w (if c=ql m then A else A.map (·.add (ql m*1))) (qd m):=by
   have:=hS.cut (m:=c) (lo:=ql m) (hi:=m.length) (A':=if c=ql m then A else A.map (·.add (ql m*1))) Oo Oo Oo rfl
   rwa[Am Js]at this
  refine⟨⟨b,rfl,o1,⟨⟨_,c-qak m,_,c-ql m,?_,c1.ext U.ext,c2.ext U.ext,?_⟩,af,g2,?_,?_⟩⟩,U.ext⟩
  ·grind
  ·omega
  ·omega
  ·rw[l2];show _=vNum m 1;omega
theorem q86(m:LB)(A:oA)(c:Nat)(w:DU)(U:SlAt encB 1 w A m)(W:m.length<=c)(Z:m.length<=140737488355328)(hE:(dE m).2=0):
  Gv Eg 164 [.slice A m.length c] w λv w'=>(∃b,v=.tuple #[pp b,.nilIface]/\w.heap.size<=b/\DictAt w' b m)/\Ext w w':=by
 have H:=q23 m A c w U W Z hE;refine ze Tryz.func164 Tryz.ntmps164 ?_;refine zcv (H) ?_;rintro v w1 ⟨⟨b,rfl,hb,hD⟩,he⟩;(conv=>whnf);exact⟨⟨b,rfl,hb,hD⟩,he⟩
theorem qab7(s:DZ)(n m b:Nat)(w:DU)(H:w.heap[b]?=some (vecO 381 s n m)):Gv Eg 170 [pp b] w λr w'=>r=ii n/\w'=w:=by
 refine ze Tryz.func170 Tryz.ntmps170 ?_;refine LoadV.own H rfl (zw ?_);simp
theorem q7o(s:DZ)(n m b:Nat)(w:DU)(H:w.heap[b]?=some (vecO 381 s n m)):Gv Eg 171 [pp b] w λr w'=>r=ii m/\w'=w:=by
 refine ze Tryz.func171 Tryz.ntmps171 ?_;refine LoadV.own H rfl (zw ?_);simp
theorem qsv(x:Nat)(w:DU)(H:x<256):Gv Eg 301 [.int .u8 x] w λr w'=>r=ii (qid x)/\w'=w:=by
 refine ze Tryz.func301 Tryz.ntmps301 ?_;refine IdxV.nat (by show x<256;exact H) (zw ?_);refine Wit.conv (by grind [qai,q8]) (zw ?_);refine⟨Ae (Value.int .i64) (Ae Int.ofNat ?_),rfl⟩;clear w
 revert x
 decide +kernel
theorem qyu(l:LB)(A:oA)(c b i:Nat)(w:DU)(hS:SlAt encB 1 w A l)(hc:l.length<=c)(hv:vOk l=true)(hb:w.heap[b]?=some (vecO 381 (.slice A l.length c) (vN l) (vM l)))(hi:i<=67108864):
  Gv Eg 224 [pp b,ii i] w λr w'=>r=ii (qgx l i)/\Ext w w':=by
 refine ze Tryz.func224 Tryz.ntmps224 ?_;simp only[vOk,AQ,decide_eq_true_eq]at hv;obtain⟨⟨⟨v1,v2⟩,v3⟩,v4⟩:=hv;have u1:=qbc (vN l) 8 Od;have u2:=qbc (vN l) 2048 Od;have u3:=qbc (vN l) 256 Od;have u4:=qbc (vM l) 512 Od;have g1:qz (vN l)=8+upN (vN l) 8:=rfl;have g2:qa6 (vN l)=qz (vN l)+4*upN (vN l) 2048:=rfl;have g3:qcs (vN l)=qa6 (vN l)+2*upN (vN l) 256:=rfl;have g4:qbe (vN l) (vM l)=qcs (vN l)+4*upN (vM l) 512:=rfl;rw[qgx];refine zC (λ_=>zu ?_) (λ_=>zu ?_)
 ·grind [Ext.refl]
 refine LoadV.own hb rfl (zw ?_);refine zt ?_;refine zC (λ_=>zw ?_) (λ_=>zw ?_)
 ·grind [Ext.refl]
 refine LoadV.own hb rfl (zw ?_);refine zC (λ_=>zw ?_) (λ_=>zw ?_)
 ·refine LoadV.own hb rfl (zw ?_)
  grind [Ext.refl]
 obtain⟨g,off,hA,_⟩:=hS.at_ (by grind);subst hA;have k1:i/2048+1<=upN (vN l) 2048:=by unfold upN;omega
 have k2:i/256+1<=upN (vN l) 256:=by unfold upN;omega
 have k3:i/8+1<=upN (vN l) 8:=by unfold upN;omega
 refine DrawV.free Jk Jk (zw ?_);(iterate 3 (refine zd ?_));refine zf ?_ (by intro wd Z;(conv=>whnf);refine LoadV.own (Ext.get (Ext.trans (Ext.drew xr) Z) hb) rfl ?_;(conv=>whnf);exact xq);(iterate 4 (refine zd ?_));refine zf ?_ (by intro wd Z;(conv=>whnf);refine LoadV.own (Ext.get (Ext.trans (Ext.drew xr) Z) hb) rfl ?_;(conv=>whnf);exact xq);(iterate 4 (refine zd ?_));apply zsd
 ·intro wd Z;(conv=>whnf);refine SliceV.rest (qz (vN l)+4*(i/2048)) (by rfl) hc Oo (zw ?_);exact xq
 (conv=>whnf);apply zsd
 ·intro wd Z;(conv=>whnf);refine zcv (qp0 (l.drop (qz (vN l)+4*(i/2048))) _ _ _ wd (SlAt.rest (hS.ext ((Ext.refl w).drew.trans Z)) Oo) (by rw[zld]) (by rw[zld];omega)) ?_;rintro v w9 ⟨rfl,h9⟩;exact⟨h9,rfl⟩
 (conv=>whnf);(iterate 3 (refine zd ?_));refine zf ?_ (by intro wd Z;(conv=>whnf);refine LoadV.own (Ext.get (Ext.trans (Ext.drew xr) Z) hb) rfl ?_;(conv=>whnf);exact xq);(iterate 4 (refine zd ?_));refine zf ?_ (by intro wd Z;(conv=>whnf);refine LoadV.own (Ext.get (Ext.trans (Ext.drew xr) Z) hb) rfl ?_;(conv=>whnf);exact xq);(iterate 4 (refine zd ?_));apply zsd
 ·intro wd Z;(conv=>whnf);refine SliceV.rest (qa6 (vN l)+2*(i/256)) (by rfl) hc Oo (zw ?_);exact xq
 (conv=>whnf);apply zsd
 ·intro wd Z;(conv=>whnf);refine zcv (qah0 (l.drop (qa6 (vN l)+2*(i/256))) _ _ _ wd (SlAt.rest (hS.ext ((Ext.refl w).drew.trans Z)) Oo) (by rw[zld]) (by rw[zld];omega)) ?_;rintro v w9 ⟨rfl,h9⟩;exact⟨h9,rfl⟩
 (conv=>whnf);have hG:=qbx (l.drop (qz (vN l)+4*(i/2048))) 4 (by grind);have hH:=qbx (l.drop (qa6 (vN l)+2*(i/256))) 2 (by grind);obtain⟨G,eG⟩:∃G,G=leN ((l.drop (qz (vN l)+4*(i/2048))).take 4):=⟨_,rfl⟩
 obtain⟨H,eH⟩:∃H,H=leN ((l.drop (qa6 (vN l)+2*(i/256))).take 2):=⟨_,rfl⟩
 rw[<-eG]at hG|-;rw[<-eH]at hH|-;simp only[Nat.reduceMul,Nat.reducePow]at hG hH;refine zd ?_;refine zd ?_;intro w1 ae;(conv=>whnf);have hx:=(Ext.refl w).drew.trans ae;refine zv ?_;have af:∀k,k<=i%256/8->qb6 l (8+i/256*32) k<=8*k:=λk hk=>by
  clear hG hH
  induction k<;>grind [qid,qb6]
 refine qk (λk:Nat=>[(0,pp b),(1,ii i),(5,ii (G+H+qb6 l (8+i/256*32) k:Nat)),(7,ii (i/256*256+8*k:Nat))]) (λk w'=>k<=i%256/8/\Ext w w') (λk=>i%256/8-k) 0
  ⟨rfl,rfl,by rfl,by simp;rfl,trivial⟩ (by grind) ?_
 rintro k w2 aj ⟨k1,ad⟩;have hk:=af k k1;(conv=>whnf);refine zt ?_;refine zC (λ_=>zw ?_) (λ_=>zw ?_)
 ·refine zy ?_;refine zv ?_;have U:=ad.drew;refine LoadV.own (U.get hb) rfl (zu ?_);refine LoadV.own (U.get hb) rfl (zu ?_);have hj:8+i/256*32+k<l.length:=by omega
  refine ElemV.bs (hS.ext U) rfl (8+i/256*32+k) Oo hj ?_;intro eb eo W;have aa:=q8 (l[8+i/256*32+k]);refine zu ?_;refine LoadV.of W (zu ?_);refine⟨ii (qid (l[8+i/256*32+k]).toNat),qsv _ _ aa,?_⟩;have h8:qid (l[8+i/256*32+k]).toNat<=8:=by unfold qid;omega
  have ag:qb6 l (8+i/256*32) (k+1)=qb6 l (8+i/256*32) k+qid (l[8+i/256*32+k]).toNat:=by
   grind [qb6]
  refine zu ?_;exact⟨k+1,⟨rfl,rfl,by rw[ag];exact Ae (Value.int .i64) Oo,by rfl,trivial⟩,(by grind),by omega⟩
 ·obtain rfl:k=i%256/8:=by omega
  refine zy ?_;refine zv ?_;have U:=ad.drew;refine LoadV.own (U.get hb) rfl (zu ?_);refine LoadV.own (U.get hb) rfl (zu ?_);have hj:8+i/8<l.length:=by omega
  refine ElemV.bs (hS.ext U) rfl (8+i/8) Oo hj ?_;intro eb eo W;have aa:=q8 (l[8+i/8]);have ah:2 ^ (i%8)<=2 ^ 7:=AY Od Oo;have ak:=Nat.two_pow_pos (i%8);simp only[Nat.reducePow]at ah;refine zu ?_;refine LoadV.of W (zu ?_);refine V.Wit.shlN (a:=1) (i%8) Oo (by show i%8<8;omega) (qff Oo) ?_;rw[Nat.one_mul];refine zu ?_;refine Wit.eq (qay (k:=.u8) (m:=(l[8+i/8]).toNat) (i%8) Oo (qff aa) ⟨by omega,by omega⟩) ?_;have ai:(l[8+i/8]).toNat%2 ^ (i%8)<256:=(by omega)
  refine zu ?_;refine⟨ii (qid ((l[8+i/8]).toNat%2 ^ (i%8))),qsv _ _ ai,?_⟩;have h8:qid ((l[8+i/8]).toNat%2 ^ (i%8))<=8:=by unfold qid;omega
  refine zu ?_;refine V.Fall.max2 rfl rfl rfl λmx al=>?_;(conv=>whnf);refine V.Fall.min2 rfl rfl rfl λmn am=>?_;conv=>whnf
  grind
theorem qci(b off i H cp:Nat)(P:oA)(p:LB)(w:DU)(h1:w.cell? ⟨b,off+1,none⟩=some (ii H))(h5:w.cell? ⟨b,off+5,none⟩=some (.slice P p.length cp))(hP:SlAt encB 1 w P p)(hw:H<=23)(hi:i<=4194304):
  Gv Eg 129 [.pointer (some ⟨b,off,none⟩),ii i] w λr w'=>r=ii (numP p H i)/\Ext w w':=by
 have hb:i*H<=4194304*23:=B8 hi hw;rw[numP];obtain⟨f,ef⟩:∃f,f=i*H:=⟨_,rfl⟩
 have aa:(i:Int)*(H:Int)=(f:Int):=by rw[ef,DC]
 rw[<-ef]at hb|-;obtain⟨m,em⟩:∃m,m=p.drop (f/8):=⟨_,rfl⟩
 have ah:m.length=p.length-f/8:=by rw[em,zld]
 rw[<-em];refine ze Tryz.func129 Tryz.ntmps129 ?_;refine LoadV.of h1 (zw ?_);rw[aa];refine zv ?_;refine qk (λk:Nat=>[(0,.pointer (some ⟨b,off,none⟩)),(5,ii f),(6,ii (leN (m.take k))),(7,ii k)]) (λk w'=>k<=4/\k<=m.length/\w'=w) (λk=>4-k) 0 fq ⟨by omega,by omega,rfl⟩ ?_;rintro k w1 ai ⟨k1,k2,rfl⟩;have ad:=qbx m k k2;have hp:=pow8 k k1;have U:∀x,x=leN (m.take 4)->x<4294967296:=λx W=>by
  rw[W];have:=qx9 (m.take 4);have h3:256 ^ (m.take 4).length<=256 ^ 4:=AY Od Ys;have h4:(256:Nat) ^ 4=4294967296:=by decide
  omega
 have ae:2 ^ H<=2 ^ 23:=AY Od hw;have aj:=Nat.two_pow_pos H;simp only[Nat.reducePow]at ae;(conv=>whnf);refine zC (λ_=>zu ?_) (λ_=>zu ?_)
 ·refine LoadV.of h5 (zw ?_);refine zt ?_;refine zC (λ_=>zw ?_) (λ_=>zw ?_)
  ·have hk:k<m.length:=by omega
   refine LoadV.of h5 (zu ?_);refine ElemV.bs hP rfl (f/8+k) Oo Oo ?_;intro eb eo hc;have af:p[f/8+k]' Oo=m[k]:=by simp[em]
   rw[af]at hc;have ak:=q8 m[k];have hp:=pow8 (k+1) Oo;have Z:=qbx m (k+1) Oo;rw[qkv m k hk]at Z;(conv=>whnf);refine LoadV.of hc (zu ?_);refine V.Wit.shlN (8*k) Oo (by show 8*k<64;omega) (qai Oo) (zw ?_);refine Wit.eq (qbr (8*k) (qai Oo) ad) (zu ?_);exact⟨k+1,⟨rfl,rfl,by rw[qkv m k hk];rfl,rfl,trivial⟩,⟨by omega,by omega,rfl⟩,by omega⟩
  ·have e4:leN (m.take k)=leN (m.take 4):=by rw[Am Oo,Am Oo]
   rw[e4];have W:=U _ rfl;generalize leN (m.take 4)=x at W|-;have ag:x/2 ^ (f%8)<=x:=Cv _ _;refine zy ?_;refine zv ?_;refine V.Wit.shrN (f%8) Oo (by show f%8<64;omega) (zu ?_);refine LoadV.of h1 (zu ?_);refine V.Wit.shlN (a:=1) H Oo (by show H<64;omega) (qai Oo) ?_;rw[Nat.one_mul];refine zu ?_;refine Wit.eq (qay (k:=.i64) (m:=x/2 ^ (f%8)) H Oo (qai Oo) ⟨by omega,by omega⟩) (zu ?_);exact⟨rfl,(Ext.refl w1).drew⟩
 ·obtain rfl:k=4:=by omega
  have W:=U _ rfl;generalize leN (m.take 4)=x at W|-;have ag:x/2 ^ (f%8)<=x:=Cv _ _;refine zy ?_;refine zv ?_;refine V.Wit.shrN (f%8) Oo (by show f%8<64;omega) (zu ?_);refine LoadV.of h1 (zu ?_);refine V.Wit.shlN (a:=1) H Oo (by show H<64;omega) (qai Oo) ?_;rw[Nat.one_mul];refine zu ?_;refine Wit.eq (qay (k:=.i64) (m:=x/2 ^ (f%8)) H Oo (qai Oo) ⟨by omega,by omega⟩) (zu ?_);exact⟨rfl,(Ext.refl w1).drew⟩
def fnA(n:Nat)(F:Eb):Eh:=((List.range n).map F).toArray
def updF(F:Eb)(i:Nat)(v:DZ):Nat->DZ:=λj=>if j=i then v else F j
theorem qb3(F:Eb)(i:Nat)(v:DZ):updF F i v i=v:=by simp[updF]
theorem qac(F:Eb)(i j:Nat)(v:DZ)(h:j≠i):updF F i v j=F j:=by simp[updF,h]
theorem qaq(n:Nat)(F:Eb):(fnA n F).size=n:=by simp[fnA]
theorem qdr(n:Nat)(F:Eb)(i:Nat)(h:i<n):(fnA n F)[i]?=some (F i):=by
 rw[fnA,An,Ao,Bu h];rfl
theorem qhf(n:Nat)(F:Eb)(i:Nat)(v:DZ):(fnA n F).setIfInBounds i v=fnA n (updF F i v):=by
 rw[<-BA];simp only[fnA,Ci];apply Bk;intro j;rw[Cr,Ao,Ao]
 by_cases e:i=j
 ·subst e;rw[Ad rfl]
  by_cases h:i<n
  ·rw[Ad (by simpa using h),Bu h];simp[updF]
  ·rw[Aa (by simpa using h),Bh (by simpa using h)];rfl
 ·rw[Aa e]
  by_cases h:j<n
  ·rw[Bu h];simp[updF,Ne.symm e]
  ·rw[Bh (by simpa using h)];rfl
theorem qeg{n:Nat}{F G:Eb}(h:∀j,j<n->F j=G j):fnA n F=fnA n G:=by
 unfold fnA
 congr 1
 exact Cx λj H=>h j (by simpa using H)
theorem V.LoadV.fn{n:Nat}{F:Eb}{t:DX}{v:DZ}{K:DZ->Prop}(h:Mem w0 w L)(hi:L[i]?=some (b,.cells (fnA n F) t))(j:Nat)(e:off=j)(H:j<n)(U:F j=v)(W:K v):LoadV w b off K:=by
 subst e;exact LoadV.mem h hi (by rw[qdr n F _ H,U]) W
theorem V.StoreV.fn{n:Nat}{F:Eb}{t:DX}{v:DZ}{K:Ec}(h:Mem w0 w L)(hi:L[i]?=some (b,.cells (fnA n F) t))(j:Nat)(e:off=j)(H:j<n)(U:qco v=true)(W:∀w',Mem w0 w' (L.set i (b,.cells (fnA n (updF F j v)) t))->K w'):StoreV w b off v K:=by
 subst e;refine StoreV.mem h hi (by rw[qaq];exact H) U λw' Z=>W w' ?_
 rwa[qhf]at Z
theorem lvSz:tsz Eg 244=8:=by kernel_rfl
theorem qzf(h:(tcF l k).2=0):(numL (l.drop (vAt l k))).2.2=0/\vNum l k<=1048576/\(0<k->vNum l (k-1)<=vNum l k/\(vNum l k=0↔vNum l (k-1)=0)):=by grind [tcF,numE]
theorem q1k(l:LB)(v:DZ)(W U:Nat)(F:Eb)(w0 w:DU)(H:Mem w0 w [(U,curO 367 v 0 0),(W,.cells (fnA 32 F) 247)])(ad:BS w0 v l)(hl:l.length<=140737488355328)(hz:∀k,k<4->(tcF l k).2=0):
  Gv Eg 165 [pp W,pp U] w λr w'=>
   r=.nilIface/\∃F',(∀k,k<4->F' (8*k)=ii (vNum l k))/\(∀j,j%8≠0->F' j=F j)/\Mem w0 w' [(U,curO 367 v (vAt l 4) 0),(W,.cells (fnA 32 F') 247)]:=by
 refine ze Tryz.func165 Tryz.ntmps165 ?_;refine qk (λx:Nat×Eb=>[(0,pp W),(1,pp U),(4,.nilIface),(9,ii x.1)])
  (λx w'=>x.1<=4/\(∀k,k<x.1->x.2 (8*k)=ii (vNum l k))/\(∀j,j%8≠0->x.2 j=F j)/\Mem w0 w' [(U,curO 367 v (vAt l x.1) 0),(W,.cells (fnA 32 x.2) 247)]) (λx=>4-x.1) (0,F)
  fq ⟨by simp,λj h=>by simp at h,λj _=>rfl,H⟩ ?_
 clear H;rintro⟨k,Z⟩ w1 af ⟨k1,hF,aa,H⟩;dsimp only at k1 hF aa H|-;(conv=>whnf);refine zC (λ_=>zw ?_) (λ_=>zw ?_)
 ·have hv:BS w1 v l:=ad.ext H.ext;have ae:=qg9 l k;have ag:=qhs l k;refine zcv (qli U _ (vAt l k) 0 w1 (H.get mh)) ?_;rintro r w2 ⟨rfl,rfl⟩;(conv=>whnf);refine zcv (qes U _ (vAt l k) 0 l _ (H.get mh) hv ae hl) ?_;rintro r w3 ⟨rfl,hu⟩;obtain⟨he,g2,g3⟩:=qzf (hz k Oo);rw[qlc he,qld he]at hu;rw[qlb he];have H:Mem w0 w3 [(U,curO 367 v (vAt l (k+1)) 0),(W,.cells (fnA 32 Z) 247)]:=H.upd (i:=0) rfl hu;(conv=>whnf);refine zcv (qhe U _ _ 0 w3 (H.get mh)) ?_;rintro r w4 ⟨rfl,rfl⟩;refine zu ?_;refine StoreV.fn H (i:=1) rfl (8*k) (by rw[lvSz];dsimp only;omega) Oo rfl ?_;intro w5 H;have H:Mem w0 w5 [(U,curO 367 v (vAt l (k+1)) 0),(W,.cells (fnA 32 (updF Z (8*k) (ii (vNum l k)))) 247)]:=H;(conv=>whnf);refine zC (λ_=>zu ?_) (λ_=>zu ?_)
  ·refine IdxV.at_ (k-1) Oo Oo (zu ?_);refine LoadV.fn (v:=ii (vNum l (k-1))) H (i:=1) rfl (8*(k-1)) (by rw[lvSz];dsimp only;omega) Oo (by rw[qac _ _ _ _ Oo];exact hF (k-1) Oo) (zu ?_);refine IdxV.at_ (k-1) Oo Oo (zu ?_);refine LoadV.fn (v:=ii (vNum l (k-1))) H (i:=1) rfl (8*(k-1)) (by rw[lvSz];dsimp only;omega) Oo (by rw[qac _ _ _ _ Oo];exact hF (k-1) Oo) (zu ?_);refine Tst.iff (vNum l (k-1)=0↔vNum l k=0) (by rw[Db,decide_eq_decide];omega) (λh=>?_) (λh=>absurd (g3 Oo).2.symm h);refine zu ?_;exact⟨(k+1,updF Z (8*k) (ii (vNum l k))),fq,⟨by simp only;omega,λj hj=>by grind [updF],λj hj=>by grind [updF],H⟩,by simp only;omega⟩
  ·exact⟨(k+1,updF Z (8*k) (ii (vNum l k))),fq,⟨by simp only;omega,λj hj=>by grind [updF],λj hj=>by grind [updF],H⟩,by simp only;omega⟩
 ·obtain rfl:k=4:=by omega
  exact⟨rfl,Z,hF,aa,H⟩
def VecP(w:DU)(V s:DZ)(l:LB)(k:Nat):Prop:=
 ((k=0\/tVec l k=false)/\V=.pointer none)\/(0<k/\tVec l k=true/\∃H,V=pp H/\w.heap[H]?=some (vecO 381 s (vNum l k) (vNum l (k-1))))
structure LvAt(w:DU)(b:Nat)(l:LB)(k:Nat):Prop where
 h:∃P cp S cs V,CellsAt w b (8*k) [ii (vNum l k),ii (tw l k),ii (tvAt l k),ii (tvAt l k+1:Nat),ii (tEnd l k),.slice P (qg l k).length cp,.slice S (qe l k).length cs,V]/\
  SlAt encB 1 w P (qg l k)/\SlAt encB 1 w S (qe l k)/\(qe l k).length<=cs/\VecP w V (.slice S (qe l k).length cs) l k
theorem VecP.ext{V s:DZ}(h:VecP w V s l k)(H:Ext w w'):VecP w' V s l k:=by
 rcases h with h|⟨U,W,Z,h3,h4⟩
 ·exact .inl h
 ·exact .inr ⟨U,W,Z,h3,H.get h4⟩
theorem LvAt.ext(h:LvAt w b l k)(H:Ext w w'):LvAt w' b l k:=by
 obtain⟨P,U,S,W,V,Z,h2,h3,h4,h5⟩:=h;exact⟨P,U,S,W,V,Z.ext H,h2.ext H,h3.ext H,h4,h5.ext H⟩
structure TreeAt(w:DU)(b:Nat)(l:LB):Prop where
 lv:∀k,k<4->LvAt w b l k
 n:∀k,k<4->vNum l k<=1048576
 wd:∀k,k<4->tw l k<=23
theorem TreeAt.ext(h:TreeAt w b l)(H:Ext w w'):TreeAt w' b l:=⟨λk U=>(h.lv k U).ext H,h.n,h.wd⟩
def tF0(j:Nat):DZ:=if j%8<5 then ii 0 else if j%8<7 then .slice none 0 0 else .pointer none
def tPV(A:oA)(c:Nat)(l:LB)(k:Nat):DZ:=.slice (if c=tvAt l k+1 then A else A.map (·.add ((tvAt l k+1)*1))) (tEnd l k-(tvAt l k+1)) (c-(tvAt l k+1))
def tSV(A:oA)(c:Nat)(l:LB)(k:Nat):DZ:=.slice (if c=tEnd l k then A else A.map (·.add (tEnd l k*1))) (tvAt l (k+1)-tEnd l k) (c-tEnd l k)
def VecM(L:Ed)(V s:DZ)(l:LB)(k:Nat):Prop:=
 ((k=0\/tVec l k=false)/\V=.pointer none)\/(0<k/\tVec l k=true/\∃H,V=pp H/\(H,vecO 381 s (vNum l k) (vNum l (k-1)))∈L)
theorem VecM.more{x:Nat×Obj}{V s:DZ}(h:VecM L V s l k):VecM (x::L) V s l k:=by
 rcases h with h|⟨H,U,W,Z,h4⟩
 ·exact .inl h
 ·exact .inr ⟨H,U,W,Z,zmc h4⟩
def lvV(A:oA)(c:Nat)(l:LB)(k i:Nat)(v:DZ):DZ:=
 match i with
 | 0=>.int .i64 (vNum l k)
 | 1=>.int .i64 (tw l k)
 | 2=>.int .i64 (tvAt l k)
 | 3=>.int .i64 ((tvAt l k:Int)+1)
 | 4=>.int .i64 (tEnd l k)
 | 5=>tPV A c l k
 | 6=>tSV A c l k
 | _=>v
def tFk(A:oA)(c:Nat)(l:LB)(V:Eb)(k x:Nat):DZ:=if x%8=0\/x/8<k then lvV A c l (x/8) (x%8) (V (x/8))else tF0 x
def updB(s:Bool)(F:Eb)(i:Nat)(v:DZ):Nat->DZ:=bif s then updF F i v else F
theorem qhr(s:Bool)(F:Eb)(i j:Nat)(v:DZ)(h:j≠i):updB s F i v j=F j:=by cases s<;>simp[updB,updF,h]
theorem q7g(s:Bool)(F:Eb)(i j:Nat)(u v:DZ)(h:j≠i):updF (updB s F j u) i v=updB s (updF F i v) j u:=by
 funext x
 cases s<;>simp only[updB,cond_true,cond_false,updF]
 grind
def tFm(s:Bool)(A:oA)(c:Nat)(l:LB)(V:Eb)(k:Nat):Nat->DZ:=
 updB s (updF (updF (updF (tFk A c l V k) (8*k+2) (ii (tvAt l k))) (8*k+1) (ii (tw l k))) (8*k+3) (ii ((tvAt l k:Int)+1))) (8*k+4) (ii (tEnd l k))
def tFn(s t:Bool)(A:oA)(c:Nat)(l:LB)(V:Eb)(k:Nat):Nat->DZ:=updB t (updB s (tFm true A c l V k) (8*k+5) (tPV A c l k)) (8*k+6) (tSV A c l k)
section
variable (s t:Bool) (A:oA) (c:Nat) (l:LB) (V:Eb) (k j:Nat)
theorem qabj:tFm s A c l V k (8*j)=ii (vNum l j):=by
 unfold tFm;rw[qhr _ _ _ _ _ Oo,qac _ _ _ _ Oo,qac _ _ _ _ Oo,qac _ _ _ _ Oo,tFk,Ad (.inl Oo),show 8*j/8=j by omega,show 8*j%8=0 by omega];rfl
theorem qala:tFm s A c l V k (8*k+1)=ii (tw l k):=by rw[tFm,qhr _ _ _ _ _ Oo,qac _ _ _ _ Oo,qb3]
theorem qakf:tFm s A c l V k (8*k+3)=ii ((tvAt l k:Int)+1):=by rw[tFm,qhr _ _ _ _ _ Oo,qb3]
theorem qt2(h:j≠8*k+5)(H:j≠8*k+6):tFn s t A c l V k j=tFm true A c l V k j:=by rw[tFn,qhr _ _ _ _ _ H,qhr _ _ _ _ _ h]
theorem qaht:tFn s t A c l V k (8*j)=ii (vNum l j):=by rw[qt2 _ _ _ _ _ _ _ _ Oo Oo,qabj]
theorem qalb:tFn s t A c l V k (8*k+3)=ii ((tvAt l k:Int)+1):=by rw[qt2 _ _ _ _ _ _ _ _ Oo Oo,qakf]
theorem qakg:tFn s t A c l V k (8*k+4)=ii (tEnd l k):=by rw[qt2 _ _ _ _ _ _ _ _ Oo Oo];exact qb3 _ _ _
theorem qalc:updF (tFn false t A c l V k) (8*k+5) (tPV A c l k)=tFn true t A c l V k:=q7g _ _ _ _ _ _ Oo
theorem qze(v:DZ)(x:Nat):updF (tFn true true A c l V k) (8*k+7) v x=tFk A c l (updF V k v) (k+1) x:=by
 by_cases e:x/8=k
 ·rw[tFk,Ad (.inr Oo),e,qb3];obtain h|h|h|h|h|h|h|h:x=8*k\/x=8*k+1\/x=8*k+2\/x=8*k+3\/x=8*k+4\/x=8*k+5\/x=8*k+6\/x=8*k+7:=by omega
  ·subst h;rw[qac _ _ _ _ Oo,qaht,show 8*k%8=0 by omega];rfl
  all_goals
   subst h;simp[updF,updB,tFm,tFn,lvV]
 ·rw[qac _ _ _ _ Oo,qt2 _ _ _ _ _ _ _ _ Oo Oo,tFm,qhr _ _ _ _ _ Oo,qac _ _ _ _ Oo,qac _ _ _ _ Oo,qac _ _ _ _ Oo,tFk,tFk,qac _ _ _ _ e]
  by_cases h:x%8=0\/x/8<k
  ·rw[Ad h,Ad Oo]
  ·rw[Aa h,Aa Oo]
theorem qabi:fnA 32 (tFn true true A c l V k)=fnA 32 (tFk A c l (updF V k (.pointer none)) (k+1)):=qeg λx _=>by
 rw[<-qze]
 by_cases e:x=8*k+7
 ·subst e;rw[qb3,qt2 _ _ _ _ _ _ _ _ Oo Oo,tFm,qhr _ _ _ _ _ Oo,qac _ _ _ _ Oo,qac _ _ _ _ Oo,qac _ _ _ _ Oo,tFk,Aa Oo,tF0,Aa Oo,Aa Oo]
 ·rw[qac _ _ _ _ e]
end
theorem up{p:Nat->Prop}(h:∀j,j<k->p j)(H:p k):∀j,j<k+1->p j:=λj U=>by
 rcases Nat.lt_succ_iff_lt_or_eq.1 U with W|rfl
 ·exact h j W
 ·exact H
theorem qix(h:(tvF l k).2=0):tvAt l k<l.length/\tw l k<=23/\tvAt l (k+1)<=l.length:=by
 rw[tvF]at h
 split at h
 ·cases h
 split at h
 ·cases h
 split at h
 ·cases h
 ·omega
theorem qis(h:(tcF l k).2=0):vNum l k<=1048576:=by
 rw[tcF]at h
 split at h
 ·rename_i H;exact absurd h H
 ·rename_i H
  unfold numE at H
  split at H
  ·rename_i U;exact absurd U H
  ·split at H
   ·exact absurd Js H
   ·omega
theorem qrf(h:(tcF l k).2=0)(U:0<k):vNum l (k-1)<=vNum l k:=by
 rw[tcF]at h
 split at h
 ·rename_i H;exact absurd h H
 ·split at h
  ·cases h
  ·omega
theorem qjl{F:Eb}{v:DZ}{K:DZ->Prop}(k c:Nat)(h:Mem w0 w ((b,.cells (fnA 32 F) 247)::L))(H:F (8*k+c)=v)(U:K v)(e:off=8*k+c:=by rw[lvSz];dsimp only;omega)(W:8*k+c<32:=by omega):LoadV w b off K:=
 .fn h (i:=0) rfl _ e W H U
theorem qu7{F:Eb}{v:DZ}{K:Ec}(k c:Nat)(h:Mem w0 w ((b,.cells (fnA 32 F) 247)::L))(H:∀w',Mem w0 w' ((b,.cells (fnA 32 (updF F (8*k+c) v)) 247)::L)->K w')(e:off=8*k+c:=by rw[lvSz];dsimp only;omega)(U:8*k+c<32:=by omega)(W:qco v=true:=by rfl):StoreV w b off v K:=
 .fn h (i:=0) rfl _ e U W H
theorem qwb(h:(tE l).2=0):(∀k,k<4->(tcF l k).2=0)/\(∀k,k<4->(tvF l k).2=0)/\tvAt l 4=l.length:=by
 have U:(errF (tcF l) 4).2=0:=by grind [tE]
 have W:(errF (tvF l) 4).2=0:=by grind [tE]
 have H:=qan W;have:=(qix (H 3 Oo)).2.2;exact⟨qan U,H,by grind [tE]⟩
theorem qabv(l:LB)(A:oA)(c:Nat)(w:DU)(hS:SlAt encB 1 w A l)(hc:l.length<=c)(hl:l.length<=140737488355328)(hE:(tE l).2=0)(hV:∀k,0<k->k<4->tVec l k=true):
  Gv Eg 96 [.slice A l.length c] w λv w'=>(∃b,v=.tuple #[pp b,.nilIface]/\w.heap.size<=b/\TreeAt w' b l)/\Ext w w':=by
 obtain⟨hz,hv,ax⟩:=qwb hE;have ag:BS w (.slice A l.length c) l:=⟨A,c,rfl,hc,hS⟩
 refine ze Tryz.func96 Tryz.ntmps96 ?_;refine znm (Mem.nil w) ?_;intro tb w1 H;have H:Mem w w1 [(tb,.cells (fnA 32 tF0) 247)]:=H;(conv=>whnf);refine zcv (qe8 _ l w1 (ag.ext H.ext)) ?_;rintro v w2 ⟨cb,rfl,ay,ah,az⟩;have H:Mem w w2 [(cb,curO 367 (.slice A l.length c) 0 0),(tb,.cells (fnA 32 tF0) 247)]:=H.fresh az ay ah;(conv=>whnf);refine zcv (q1k l _ tb cb tF0 w w2 H ag hl hz) ?_;rintro v w3 ⟨rfl,F1,ai,aa,H⟩;refine zu ?_;refine zcv (qli cb _ (vAt l 4) 0 w3 (H.get mh)) ?_;rintro v w4 ⟨rfl,rfl⟩;replace H:=H.sub (AS ..);rw[show fnA 32 F1=fnA 32 (tFk A c l (λ_=>.pointer none) 0)from qeg λx hx=>by
  by_cases e:x%8=0
  ·rw[tFk,Ad (.inl e),e,show x=8*(x/8)by omega,ai _ Oo,show 8*(x/8)/8=x/8 by omega];rfl
  ·rw[tFk,Aa Oo,aa _ e]]at H
 clear ai aa;rw[show vAt l 4=tvAt l 0 from rfl];(conv=>whnf);refine qk (λx:Nat×Eb×Ed=>[(0,.slice A l.length c),(2,.pointer none),(3,.nilIface),(4,pp tb),(7,ii (tvAt l x.1)),(24,ii x.1)])
  (λx w'=>x.1<=4/\(∀j,j<x.1->VecM x.2.2 (x.2.1 j) (tSV A c l j) l j)/\Mem w w' ((tb,.cells (fnA 32 (tFk A c l x.2.1 x.1)) 247)::x.2.2)) (λx=>4-x.1) (0,λ_=>.pointer none,[])
  fq ⟨by simp,λj h=>by simp at h,H⟩ ?_
 clear H ah;rintro⟨k,F,L⟩ w5 bf ⟨k1,hL,H⟩;dsimp only at k1 hL H|-;have hn:=λj hj=>qis (hz j hj)
 have bg:=λh:k<4=>qix (hv k h)
 have bh:4<=k->tvAt l k=l.length:=λh=>by rw[show k=4 by omega,ax]
 (conv=>whnf);refine zC (λ_=>zu ?_) (λ_=>zu ?_)
 ·refine ElemV.bs (hS.ext H.ext) rfl (tvAt l k) rfl Oo ?_;intro eb eo aj;have a0:tvAt l k<l.length:=by omega
  have hw:l[tvAt l k].toNat=tw l k:=by rw[tw,Ah,zge a0];rfl
  have bi:tw l k<256:=by rw[<-hw];exact q8 _
  rw[hw]at aj;(conv=>whnf);refine LoadV.of aj (zu ?_);refine qu7 k 2 H λw6 H=>?_;(conv=>whnf);refine qu7 k 1 H λw7 H=>?_;(conv=>whnf);refine qjl k 1 H (qb3 _ _ _) (zu ?_);have ak:tw l k<=23:=by omega
  have a1:=hn k Oo;have al:vNum l k*tw l k<=1048576*23:=B8 a1 ak;obtain⟨f,ef⟩:∃f,f=vNum l k*tw l k:=⟨_,rfl⟩
  have bj:((vNum l k:Nat):Int)*((tw l k:Nat):Int)=(f:Int):=by rw[ef,DC]
  rw[<-ef]at al;have a9:tEnd l k=tvAt l k+1+(f+7)/8:=by rw[ef];rfl
  have a2:(((tvAt l k:Nat):Int)+1+(((vNum l k:Nat):Int)*((tw l k:Nat):Int)+7)/8)=((tEnd l k:Nat):Int):=by omega
  refine qu7 k 3 H λw8 H=>?_;(conv=>whnf);refine DrawV.inv (λS w'=>Mem w w' ((tb,.cells (fnA 32 (tFm (S 19) A c l F k)) 247)::L)) rfl Jk H.drew ?_;clear H;(conv=>whnf);(iterate 4 (refine zi ?_));refine StepI.of (ii ((tvAt l k:Int)+1)) (λS Z hk hp U=>zw ?_) (zw ?_)
  ·refine qjl k 3 U (qakf ..) (zw ?_);exact⟨rfl,U⟩
  (iterate 3 (refine zi ?_));refine StepI.of (ii (vNum l k)) (λS Z hk hp U=>zw ?_) (zw ?_)
  ·refine qjl k 0 U (qabj ..) (zw ?_);exact⟨rfl,U⟩
  (iterate 3 (refine zi ?_));refine StepI.of (ii (tw l k)) (λS Z hk hp U=>zw ?_) (zw ?_)
  ·refine qjl k 1 U (qala ..) (zw ?_);exact⟨rfl,U⟩
  (iterate 6 (refine zi ?_));refine StepI.of undef (λS Z hk hp U=>?_) (zw ?_)
  ·dsimp only at U;rw[hk]at U;(conv=>whnf);rw[a2];refine qu7 k 4 U λwx hx=>?_;(conv=>whnf);exact⟨rfl,hx⟩
  intro a3 H;dsimp only at H;(conv=>whnf);refine qjl k 4 H (qb3 _ _ _) ?_;have am:=qbb l k;refine if ae:k=0 then ?pp else ?pn
  case' pp=>
   rw[Ad ae]at am;refine zu ?_
  case' pn=>
   rw[Aa ae]at am;refine zu ?_;have an:=qrf (hz k Oo) Oo;have ba:=hn (k-1) Oo;have bk:=qnl (vNum l k) (vNum l (k-1)) Oo an;refine DrawV.free Jk Jk (zw ?_);(iterate 4 (refine zd ?_));apply zsd
   ·intro Z hd;(conv=>whnf);refine qjl k 0 (Mem.call (Mem.drew H) hd) (qabj ..) (zw ?_);exact xq
   (conv=>whnf);(iterate 5 (refine zd ?_));apply zsd
   ·intro Z hd;(conv=>whnf);refine IdxV.at_ (k-1) Oo Oo (zw ?_);exact xq
   (conv=>whnf);refine zd ?_;apply zsd
   ·intro Z hd;(conv=>whnf);refine qjl (k-1) 0 (Mem.call (Mem.drew H) hd) (qabj ..) (zw ?_);exact xq
   (conv=>whnf);apply zsd
   ·intro Z hd;(conv=>whnf);refine zcv (q6b (vNum l k) (vNum l (k-1)) Z Oo an) ?_;rintro v w9 ⟨rfl,h9⟩;exact⟨h9,rfl⟩
   (conv=>whnf);refine zd ?_;refine zd ?_;intro a3 ad
   (repeat(intro _ _;(conv=>whnf)))
   (conv=>whnf);replace H:=H.drew.call ad;clear ad;rw[show(((tEnd l k:Nat):Int)+((qbe (vNum l k) (vNum l (k-1)):Nat):Int))=((tvAt l (k+1):Nat):Int)by omega];refine zv ?_
  all_goals
   have bb:tvAt l k+1<=tEnd l k:=by omega
   have be:tEnd l k<=tvAt l (k+1):=by omega
   refine DrawV.inv (λS w'=>Mem w w' ((tb,.cells (fnA 32 (tFn (S 21) (S 24) A c l F k)) 247)::L)) rfl Jk H.drew ?_;clear H;(conv=>whnf);(iterate 6 (refine zi ?_));refine StepI.of (ii ((tvAt l k:Int)+1)) (λS Z hk hp U=>zw ?_) (zw ?_)
   ·refine qjl k 3 U (qalb ..) (zw ?_);exact⟨rfl,U⟩
   (iterate 3 (refine zi ?_));refine StepI.of (ii (tEnd l k)) (λS Z hk hp U=>zw ?_) (zw ?_)
   ·refine qjl k 4 U (qakg ..) (zw ?_);exact⟨rfl,U⟩
   refine StepI.of (tPV A c l k) (λS Z hk hp U=>zw ?_) (zw ?_)
   ·refine SliceV.to (tvAt l k+1) (tEnd l k) c (by show(_:Int)=_;omega) rfl rfl Oo Oo znr (λh=>by cases h) (zw ?_);exact⟨rfl,U⟩
   (iterate 4 (refine zi ?_));refine StepI.of (ii (tEnd l k)) (λS Z hk hp U=>zw ?_) (zw ?_)
   ·refine qjl k 4 U (qakg ..) (zw ?_);exact⟨rfl,U⟩
   refine zi ?_;refine StepI.of (tSV A c l k) (λS Z hk hp U=>zw ?_) (zw ?_)
   ·refine SliceV.to (tEnd l k) (tvAt l (k+1)) c rfl (by show(_:Int)=_;omega) rfl Oo Oo znr (λh=>by cases h) (zw ?_);exact⟨rfl,U⟩
   refine zi ?_;refine zi ?_;refine StepI.of undef (λS Z hk hp U=>?_) (zw ?_)
   ·dsimp only at U;rw[hk]at U;(conv=>whnf);show StoreV _ _ _ (tPV A c l k) _;refine qu7 k 5 U λwx hx=>?_;rw[qalc]at hx;(conv=>whnf);exact⟨rfl,hx⟩
   refine zi ?_;refine zi ?_;refine StepI.of undef (λS Z hk hp U=>?_) (zw ?_)
   ·dsimp only at U;rw[hk]at U;(conv=>whnf);refine qu7 k 6 U λwx hx=>?_;(conv=>whnf);exact⟨rfl,hx⟩
   intro a4 H;dsimp only at H;refine zu ?_
  case' pp=>have nv:k=0\/tVec l k=false:=.inl ae
  case' pn=>
   have W:(qe l k).length=tvAt l (k+1)-tEnd l k:=by rw[qe,Az,zld];omega
   have af:SlAt encB 1 w (if c=tEnd l k then A else A.map (·.add (tEnd l k*1))) (qe l k):=hS.cut (m:=c) Oo Oo Oo rfl;refine qjl k 6 (v:=tSV A c l k) H (qb3 _ _ _) (zw ?_);have ao:=hV k Oo Oo;have aq:=ao;simp only[tVec,AQ,decide_eq_true_eq]at aq;obtain⟨⟨h1,e1⟩,e2⟩:=aq;have ar:=qacd (qe l k) _ (c-tEnd l k) a4 (af.ext H.ext) (by rw[W];omega) (by rw[W];omega) h1;rw[W]at ar;refine zcv (ar) ?_;rintro r a5 ⟨⟨vb,rfl,a6,a7⟩,au⟩;replace H:Mem w a5 ((tb,.cells (fnA 32 (tFn true true A c l F k)) 247)::(vb,vecO 381 (tSV A c l k) (vN (qe l k)) (vM (qe l k)))::L):=(H.fresh au a6 a7).perm (List.Perm.swap ..);(conv=>whnf);refine zy ?_;replace H:=H.drew;refine zv ?_;refine⟨ii (vN (qe l k)),qab7 _ _ _ _ _ (H.get (zmc mh)),?_⟩;refine zu ?_;refine qjl k 0 H (qaht ..) (zu ?_);refine⟨ii (vM (qe l k)),q7o _ _ _ _ _ (H.get (zmc mh)),?_⟩;refine zu ?_;refine IdxV.at_ (k-1) Oo Oo (zu ?_);refine qjl (k-1) 0 H (qaht ..) (zu ?_);refine qu7 k 7 (v:=pp vb) H λbl H=>?_
   rw[e1,e2,qeg λx _=>qze A c l F k _ x]at H;refine zu ?_;exact⟨(k+1,updF F k _,_::L),⟨rfl,rfl,rfl,rfl,by show _=ii ((tvAt l (k+1):Nat):Int);exact Ae (Value.int .i64) Oo,rfl,trivial⟩,⟨by simp only;omega,up (λj hj=>by dsimp only;rw[qac _ _ _ _ Oo];exact(hL j hj).more) (by dsimp only;rw[qb3];exact .inr ⟨by omega,ao,vb,rfl,AV ..⟩),H⟩,by simp only;omega⟩
  all_goals
   rw[qabi]at H;exact⟨(k+1,updF F k (.pointer none),L),⟨rfl,rfl,rfl,rfl,by show _=ii ((tvAt l (k+1):Nat):Int);exact Ae (Value.int .i64) Oo,rfl,trivial⟩,⟨by simp only;omega,up (λj hj=>by dsimp only;rw[qac _ _ _ _ Oo];exact hL j hj) (by dsimp only;rw[qb3];exact .inl ⟨nv,rfl⟩),H⟩,by simp only;omega⟩
 ·obtain rfl:k=4:=by omega
  obtain⟨o1,o2⟩:=H.own _ mh;refine⟨⟨tb,rfl,o1,⟨λj hj=>?_,λj hj=>qis (hz j hj),λj hj=>(qix (hv j hj)).2.1⟩⟩,H.ext⟩;obtain⟨z1,z2,z3⟩:=qix (hv j hj);have t1:tvAt l j+1<=tEnd l j:=by show _<=tvAt l j+1+_;omega
  have t2:tEnd l j<=tvAt l (j+1):=by rw[qbb];omega
  have av:(qg l j).length=tEnd l j-(tvAt l j+1):=by rw[qg,Az,zld];omega
  have W:(qe l j).length=tvAt l (j+1)-tEnd l j:=by rw[qe,Az,zld];omega
  have a8:SlAt encB 1 w (if c=tvAt l j+1 then A else A.map (·.add ((tvAt l j+1)*1))) (qg l j):=hS.cut (m:=c) Oo Oo Oo rfl;have af:SlAt encB 1 w (if c=tEnd l j then A else A.map (·.add (tEnd l j*1))) (qe l j):=hS.cut (m:=c) Oo Oo Oo rfl;refine⟨⟨_,c-(tvAt l j+1),_,c-tEnd l j,F j,?_,a8.ext H.ext,af.ext H.ext,by rw[W];omega,?_⟩⟩
  ·intro i v aw;have hi8:i<8:=(Af.1 aw).1;rw[qa o2,qdr 32 _ _ Oo,tFk,Ad (.inr Oo),show(8*j+i)/8=j by omega,show(8*j+i)%8=i by omega,<-aw,av,W]
   rcases i with _|_|_|_|_|_|_|_|i
   all_goals first|rfl|omega
  ·rw[W]
   rcases hL j hj with h|⟨h1,h2,vb,h3,h4⟩
   ·exact .inl h
   ·exact .inr ⟨h1,h2,vb,h3,H.get (zmc h4)⟩
theorem V.LoadV.cellsE{o:Nat}{v:DZ}{K:DZ->Prop}(h:CellsAt w b o vs)(j:Nat)(e:off=o+j)(H:vs[j]?=some v)(U:K v):LoadV w b off K:=by
 subst e;exact LoadV.cells h j H U
theorem qaiu{o:Nat}{v:DZ}(h:CellsAt w b o vs)(j:Nat)(H:vs[j]?=some v)(e:off=o+j):w.cell? ⟨b,off,none⟩=some v:=by rw[e];exact h j v H
theorem qiv(b:Nat)(l:LB)(w:DU)(h:TreeAt w b l):Gv Eg 65 [pp b] w λr w'=>r=ii (vNum l 3)/\w'=w:=by
 obtain⟨P3,U,S3,W,V3,H,Z,aa,ad,ae⟩:=(h.lv 3 Oo).h;refine ze Tryz.func65 Tryz.ntmps65 ?_;refine zJ 3 ?_;(conv=>whnf);refine LoadV.cellsE H 0 (by rw[lvSz];first|done|rfl) rfl (zw ?_);exact⟨rfl,rfl⟩
def zq:Eh:=#[ii 0,ii 0,ii 0,ii 0]
def qrc(l:LB)(i:Nat):DZ:=
 if i<vNum l 3/\tOk l i=true then .tuple #[.agg #[ii (tNum l i 0),ii (tNum l i 1),ii (tNum l i 2),ii (tNum l i 3)],.bool true]else .tuple #[.agg zq,.bool false]
theorem qabl(h:tOk l i=true)(j:Nat)(H:j<4):qj0 l i j=true:=by
 simp only[tOk,AQ]at h;obtain⟨⟨⟨U,W⟩,Z⟩,h3⟩:=h
 match j,H with
 | 0,_=>exact U
 | 1,_=>exact W
 | 2,_=>exact Z
 | 3,_=>exact h3
theorem qabk(H:j<4)(h:¬qj0 l i j=true):qrc l i=.tuple #[.agg zq,.bool false]:=by rw[qrc,Aa λU=>h (qabl U.2 j H)]
def qF(l:LB)(i j x:Nat):DZ:=ii (if 3<j+x then tNum l i x else 0:Nat)
theorem qag1(h:k+j=3):updF (qF l i j) k (ii (tNum l i k))=qF l i (j+1):=by
 funext x
 simp only[updF,qF]
 by_cases e:x=k
 ·rw[Ad e,Ad Oo,e]
 ·rw[Aa e]
  by_cases H:3<j+x
  ·rw[Ad H,Ad Oo]
  ·rw[Aa H,Aa Oo]
theorem qabs(b:Nat)(l:LB)(i:Nat)(w:DU)(h:TreeAt w b l)(hi:i<=1048576):Gv Eg 144 [pp b,ii i] w λv w'=>v=qrc l i/\Ext w w':=by
 refine ze Tryz.func144 Tryz.ntmps144 ?_;refine znm (Mem.nil w) ?_;intro Z w1 H;have H:Mem w w1 [(Z,.cells zq 95)]:=H;refine zu ?_;refine zcv (qiv b l w1 (h.ext H.ext)) ?_;rintro r w2 ⟨rfl,rfl⟩;(conv=>whnf);refine zt ?_;refine zC (λ_=>zw ?_) (λ_=>zw ?_)
 ·refine StoreA.all H (i:=0) rfl rfl Od λw9 H=>zw ?_;refine qi (R:=λv w'=>v=qrc l i/\Ext w w') (zw ?_);refine zl H 0 ?_;exact⟨by rw[qrc,Aa (λhx=>by omega)];rfl,H.ext⟩
 have ai:i<vNum l 3:=by omega
 refine znm H ?_;intro qb w3 H;have H:Mem w w3 [(qb,.cells (fnA 4 (qF l i 0)) 95),(Z,.cells zq 95)]:=H;(conv=>whnf);refine qk (λj:Nat=>[(0,pp b),(1,ii (tUp l i (min j 3))),(4,pp Z),(5,.bool false),(6,pp qb),(7,ii (3-(j:Int)))])
  (λj w'=>j<=4/\(∀m,m<j->qj0 l i m=true)/\Mem w w' [(qb,.cells (fnA 4 (qF l i j)) 95),(Z,.cells zq 95)]) (λj=>4-j) 0 fq ⟨by omega,λm H=>by omega,H⟩ ?_
 clear H;rintro j w4 ao ⟨j1,hf,H⟩
 by_cases hj:j=4
 ·subst hj;refine zu ?_;replace H:Mem w w4 [(qb,.cells #[ii (tNum l i 0),ii (tNum l i 1),ii (tNum l i 2),ii (tNum l i 3)] 95),(Z,.cells zq 95)]:=H;refine zl H 0 ?_;refine zS H 1 λw9 H=>zw ?_;refine qi (R:=λv w'=>v=qrc l i/\Ext w w') (zw ?_);refine zl H 1 ?_;have aj:tOk l i=true:=by rw[tOk,hf 0 Oo,hf 1 Oo,hf 2 Oo,hf 3 Oo];rfl
  exact⟨(Ad ⟨ai,aj⟩).symm,H.ext⟩
 obtain⟨k,hk⟩:∃k,k+j=3:=⟨3-j,by omega⟩
 obtain⟨P,cp,S,cs,V,hc,hP,hS,hl,hv⟩:=(h.lv k Oo).h;have hn:=h.n k Oo;obtain⟨y,ey⟩:∃y,y=tUp l i j:=⟨_,rfl⟩
 have U:qj0 l i j=(decide (y<vNum l k)&&(decide (j=3)||tVec l k)):=by rw[ey,show k=3-j by omega];rfl
 rw[show min j 3=j by omega,<-ey];refine zu ?_;refine IdxV.at_ k Oo Oo (zw ?_);refine LoadV.cellsE (hc.ext H.ext) 0 (by rw[lvSz];dsimp only;omega) rfl ?_;refine if hy:y<vNum l k then if ak:k=0 then ?yk else ?yv else ?no
 case' yv=>rcases hv with⟨hx,rfl⟩|⟨_,aa,vb,rfl,al⟩
 all_goals
  refine zu ?_
 case' yv.inl|yv.inr=>
  refine LoadV.cellsE (hc.ext H.ext) 7 (by rw[lvSz];dsimp only;omega) rfl (zu ?_)
 case' no=>have ad:¬qj0 l i j=true:=by rw[U,AM hy];simp
 case' yv.inl=>have ad:¬qj0 l i j=true:=by rw[U,hx.resolve_left ak,AM (show ¬j=3 by omega)];simp
 case no|yv.inl=>
  refine StoreA.all H (i:=1) rfl rfl Od λw9 H=>zw ?_;refine qi (R:=λv w'=>v=qrc l i/\Ext w w') (zw ?_);refine zl H 1 ?_;exact⟨by rw[qabk Oo ad];rfl,H.ext⟩
 all_goals
  refine zcv (qci b _ y (tw l k) cp P (qg l k) _ (qaiu (hc.ext H.ext) 1 rfl (by rw[lvSz];dsimp only;omega)) (qaiu (hc.ext H.ext) 5 rfl (by rw[lvSz];dsimp only;omega)) (hP.ext H.ext) (h.wd k Oo) Oo) ?_;rintro r aq ⟨rfl,ae⟩;replace H:=H.call ae;(conv=>whnf);refine IdxV.at_ k Oo Oo (zw ?_);refine StoreV.fn H (i:=0) rfl k (by rw[show tsz Eg 3=1 from by kernel_rfl];omega) Oo rfl ?_;clear H;intro af H;replace H:Mem w af [(qb,.cells (fnA 4 (updF (qF l i j) k (ii (numP (qg l k) (tw l k) y)))) 95),(Z,.cells zq 95)]:=H;rw[show numP (qg l k) (tw l k) y=tNum l i k by rw[tNum,ey,show 3-k=j by omega],qag1 hk]at H;refine zu ?_
 case' yv.inr=>
  have W:=aa;simp only[tVec,AQ,decide_eq_true_eq]at W;obtain⟨⟨ag,am⟩,an⟩:=W;refine LoadV.cellsE (hc.ext H.ext) 7 (by rw[lvSz];dsimp only;omega) rfl (zw ?_);refine zcv (qyu (qe l k) S cs vb y af (hS.ext H.ext) hl ag (by rw[am,an];exact H.ext.get al) Oo) ?_;rintro r ar ⟨rfl,ah⟩;replace H:=H.call ah;refine zu ?_;have e1:qgx (qe l k) y=tUp l i (min (j+1) 3):=by rw[show min (j+1) 3=j+1 by omega,ey,show k=3-j by omega];rfl
  have e2:qj0 l i j=true:=by rw[U,AE hy,aa];simp
 case' yk=>
  have e1:y=tUp l i (min (j+1) 3):=by rw[ey,show min (j+1) 3=j by omega]
  have e2:qj0 l i j=true:=by rw[U,AE hy,AE (show j=3 by omega)];rfl
 all_goals exact⟨j+1,⟨rfl,Ae (λn:Nat=>ii (n:Int)) e1,rfl,rfl,rfl,Ae (Value.int .i64) Oo,trivial⟩,⟨by omega,up hf e2,H⟩,by omega⟩
open Go.RowKit
namespace V
def byV(l:LB):Ee:=l.map λc=>Value.int .u8 c.toNat
theorem qdn(l:LB):(byV l).length=l.length:=by simp[byV]
structure Tri(e:DX)(w0 w:DU)(a b c:DZ)(x y z:LB):Prop where
 ext:Ext w0 w
 oa:w.ownsRow w0.heap.size e 1 a x.length (byV x)
 ob:w.ownsRow w0.heap.size e 1 b y.length (byV y)
 oc:w.ownsRow w0.heap.size e 1 c z.length (byV z)
 ab:∀g,a.ownBlock=some g->b.ownBlock≠some g
 ac:∀g,a.ownBlock=some g->c.ownBlock≠some g
 bc:∀g,b.ownBlock=some g->c.ownBlock≠some g
section
variable {P:DW} {e:DX} {w0 w w':DU} {a b c:DZ} {x y z:LB}
theorem Tri.nil(w:DU):Tri e w w (.slice none 0 0) (.slice none 0 0) (.slice none 0 0) [] [] []:=
 ⟨Ext.refl w,World.ownsRow_nil _ _ _ _,World.ownsRow_nil _ _ _ _,World.ownsRow_nil _ _ _ _,λg h=>(by cases h),λg h=>(by cases h),λg h=>(by cases h)⟩
theorem qcf{H n:Nat}{v:DZ}(h:w.ownsRow base e H v n xs)(U:Ext w w'):w'.ownsRow base e H v n xs:=
 h.kept (row:=none) ⟨U.os,U.tape,U.output,U.size,λk W _=>U.block k W⟩ (by cases v.ownBlock<;>simp)
theorem Tri.call(h:Tri e w0 w a b c x y z)(H:Ext w w'):Tri e w0 w' a b c x y z:=
 ⟨h.ext.trans H,qcf h.oa H,qcf h.ob H,qcf h.oc H,h.ab,h.ac,h.bc⟩
theorem Tri.rot(h:Tri e w0 w a b c x y z):Tri e w0 w b c a y z x:=
 ⟨h.ext,h.ob,h.oc,h.oa,h.bc,λg U H=>h.ab g H U,λg W H=>h.ac g H W⟩
theorem qbm{H n:Nat}{v:DZ}(h:w.ownsRow base e H v n xs):∃A c,v=.slice A n c:=by
 rcases h.2 with⟨rfl,rfl⟩|⟨g,U,W,rfl,_⟩
 ·exact⟨_,_,rfl⟩
 ·exact⟨_,_,rfl⟩
theorem qpf(h:SlAt encB 1 w A l):byV l≠[]->∃b off,A=some ⟨b,off,none⟩/\CellsAt w b off (byV l):=by
 intro H;obtain⟨b,off,W,Z⟩:=h.at_ (by rintro rfl;exact H rfl);refine⟨b,off,W,λk v U=>?_⟩;rw[byV,Ao]at U;obtain⟨u,hu,rfl⟩:=CO.1 U;have:=Z k u hu 0 (.int .u8 u.toNat) rfl
 simpa using this
theorem Tri.app{t:DX}{i:TypeInfo}{zv:DZ}{m:LB}(h:Tri e w0 w a b c x y z)(ht:P.underlying t=some (.slice e))(hi:P.info? e=some i)(hz:i.zero=some zv)(W:i.size=1)(ae:zv.cells.size=1)(af:i.bytes<=16)(hS:SlAt encB 1 w B m)(aa:x.length+m.length<=8000000000000)(hk:∀A' c' w',Tri e w0 w' (.slice A' (x.length+m.length) c') b c (x++m) y z->K (.slice A' (x.length+m.length) c') w'):AppV P #[t,t] ty a (.slice B m.length d) w K:=by
 refine AppV.own (news:=byV m) ht hi hz W ae Od h.oa h.ext.size (by rw[qdn,AZ]) (qpf hS) (λu hu=>?_) (AI (B8 aa af) Od) Oo ?_
 ·simp only[byV,AF]at hu;obtain⟨v,_,rfl⟩:=hu;rfl
 ·intro v' w' ho hg H;obtain⟨A',c',rfl⟩:=qbm ho;have ap:∀(v:DZ) (l:LB),w.ownsRow w0.heap.size e 1 v l.length (byV l)->(∀g,a.ownBlock=some g->v.ownBlock≠some g)->(v.ownBlock=none\/v.ownBlock≠a.ownBlock)/\∀g,Value.ownBlock (.slice A' (x.length+m.length) c')=some g->v.ownBlock≠some g:=λv l hv ad=>by
   constructor
   ·cases U:v.ownBlock with
    | none=>exact .inl rfl
    | some g=>exact .inr λe=>ad g e.symm U
   ·intro g Z U
    rcases H with H|H
    ·exact ad g (by rw[<-H];exact Z) U
    ·rw[H]at Z;have:=(hv.lt g U).2;have e:w.heap.size=g:=Bb Z;omega
  obtain⟨b1,b2⟩:=ap b y h.ob h.ab;obtain⟨c1,c2⟩:=ap c z h.oc h.ac;refine hk A' c' w' ⟨?_,?_,h.ob.kept hg b1,h.oc.kept hg c1,b2,c2,h.bc⟩
  ·exact Below.grown h.ext hg h.ext.size (λk hk=>(h.oa.lt k hk).1)
  ·rw[byV,AJ,zla];exact ho
theorem qig{v:DZ}(h:w.ownsRow base e 1 v l.length (byV l)):BS w v l:=by
 rcases h.2 with⟨rfl,h0⟩|⟨g,U,W,rfl,h1,h2,h3,h4,h5,h6⟩
 ·have:l=[]:=Bg h0;subst this;exact BS.nil w
 ·refine⟨_,U,rfl,h3,⟨λ_=>⟨g,0,rfl,λj u hu k v Z=>?_⟩⟩⟩;cases k with
  | succ k=>simp[encB]at Z
  | zero=>
   simp only[encB,AT,AR]at Z;subst Z;have H:(W.toList.take (l.length*1))[j]?=some (.int .u8 u.toNat):=by rw[h6,byV,Ao,hu];rfl
   rw[BE]at H
   split at H
   ·rw[qa h2]
    simpa using H
   ·cases H
end
end V
structure LvlV(l:LB)(k:Nat):Prop where
 vec:VecOk (qe l k)
 n:vN (qe l k)=vNum l k
 m:vM (qe l k)=vNum l (k-1)
 last:0<vNum l k->bitN ((qe l k).drop 8) (vNum l k-1)=1
theorem LvlV.tvec(h:LvlV l k):tVec l k=true:=by
 unfold tVec;rw[h.vec.ok,AE h.n,AE h.m];rfl
theorem LvlV.rank(h:LvlV l k)(i:Nat)(hi:i<=vNum l k):qgx (qe l k) i=cnt ((qe l k).drop 8) i:=h.vec.rank i (by rw[h.n];exact hi)
theorem LvlV.lt(h:LvlV l k)(i:Nat)(hi:i<vNum l k):qgx (qe l k) i<vNum l (k-1):=by
 rw[h.rank i Oo,<-h.m,<-h.vec.ones,h.n];have e:vNum l k=vNum l k-1+1:=by omega
 have H:=h.last Oo;have U:cnt ((qe l k).drop 8) i<=cnt ((qe l k).drop 8) (vNum l k-1):=qks Oo
 grind [cnt]
section
variable {l:LB} (hL:∀k,1<=k->k<=3->LvlV l k) {i:Nat} (hi:i<vNum l 3)
include hL hi
theorem qg8:∀j,j<=3->tUp l i j<vNum l (3-j)
 | 0,_=>hi
 | j+1,H=>by
  have h:=qg8 j Oo;have:=(hL (3-j) Oo Oo).lt _ h
  grind [tUp]
theorem qahu:tOk l i=true:=by
 have h:=qg8 hL hi;unfold tOk qj0;rw[AE (h 0 Oo),AE (h 1 Oo),AE (h 2 Oo),AE (h 3 Oo),(hL 3 Oo Oo).tvec,(hL 2 Oo Oo).tvec,(hL 1 Oo Oo).tvec];rfl
theorem qnb(Z:j<3)(h:tUp l (i+1) j=tUp l i j+1)(U:bitN ((qe l (3-j)).drop 8) (tUp l i j)=1):tUp l (i+1) (j+1)=tUp l i (j+1)+1:=by
 have W:=qg8 hL hi j Oo;have H:=hL (3-j) Oo Oo;rw[tUp,tUp,h,H.rank _ Oo,H.rank _ Oo,cnt,U]
theorem qk6(Z:j<3)(h:tUp l (i+1) j=tUp l i j+1)(hb:bitN ((qe l (3-j)).drop 8) (tUp l i j)≠1):tUp l (i+1) (j+1)=tUp l i (j+1):=by
 have W:=qg8 hL hi j Oo;have U:=hL (3-j) Oo Oo;have h0:=qc8 ((qe l (3-j)).drop 8) (tUp l i j);have H:bitN ((qe l (3-j)).drop 8) (tUp l i j)=0:=by omega
 rw[tUp,tUp,h,U.rank _ Oo,U.rank _ Oo,cnt,H];rfl
end
theorem qk7{H:Nat}(h:tUp l H j=tUp l i j):∀{m:Nat},j<=m->tUp l H m=tUp l i m:=by
 intro m U
 induction U<;>grind [tUp]
theorem qrd(l:LB):∀j,tUp l 0 j=0
 | 0=>rfl
 | j+1=>by rw[tUp,qrd l j,qgx,Ad (.inl rfl)]
structure DSt(m:LB)(i:Nat)(last:LB)(p:Nat):Prop where
 le:p<=(qd m).length
 st:∀j,i=j+1->blk (qd m) (q7 m (j/16)) (j%16)=(last,p,0)
theorem DSt.step{m:LB}{H:LB}{p:Nat}(h:DSt m i H p)(hp:i%16=0->q7 m (i/16)=p){first:Bool}(hf:first=decide (i%16=0))(he:(entG ((qd m).drop p) first H).2.2=0):DSt m (i+1) (entG ((qd m).drop p) first H).1 (p+(entG ((qd m).drop p) first H).2.1):=by
 have W:=(qea he).2;have aa:=h.le;rw[zld]at W;refine⟨by omega,λj hj=>?_⟩;obtain rfl:j=i:=by omega
 have Z:∀b x,entG ((qd m).drop p) b x=entG ((qd m).drop p) first H->qgw (qd m) p b x=((entG ((qd m).drop p) first H).1,p+(entG ((qd m).drop p) first H).2.1,0):=λb x e=>by
  grind [qgw]
 by_cases h0:j%16=0
 ·rw[h0,hp h0];have U:first=true:=by simp_all
  subst U;exact Z _ _ (by rfl)
 ·have U:first=false:=by simp_all
  subst U;obtain⟨k,rfl⟩:∃k,j=k+1:=⟨j-1,by omega⟩
  have hk:=h.st k rfl;have e1:(k+1)/16=k/16:=by omega
  have e2:(k+1)%16=k%16+1:=by omega
  grind [blk]
theorem DSt.get{m:LB}{H:LB}{p:Nat}(h:DSt m (i+1) H p)(hi:i<dN m):dGet m i=some H:=by
 have:=h.st i rfl
 grind [dGet]
def gL(d:LB):Nat->LB
 | 0=>[]
 | i+1=>if i%2048=0 then gL d i++fixL (cnt d i) 4 else gL d i
def sL(d:LB):Nat->LB
 | 0=>[]
 | i+1=>if i%256=0 then sL d i++fixL (cnt d i-cnt d (2048*(i/2048))) 2 else sL d i
def mL(d:LB):Nat->LB
 | 0=>[]
 | i+1=>if bitN d i=1/\cnt d i%512=0 then mL d i++fixL i 4 else mL d i
theorem qsf(d:LB)(i:Nat):(gL d i).length=4*upN i 2048:=by
 induction i<;>grind [gL,qt,upN]
theorem qy8(d:LB)(i:Nat):(sL d i).length=2*upN i 256:=by
 induction i<;>grind [sL,qt,upN]
theorem qada(d:LB)(i:Nat):(mL d i).length=4*upN (cnt d i) 512:=by
 induction i<;>grind [mL,cnt,upN,qt,bitN]
theorem qak1(d:LB)(i j:Nat)(H:j<upN i 2048):((gL d i).drop (4*j)).take 4=fixL (cnt d (2048*j)) 4:=by
 induction i<;>grind [upN,qsf,gL,qt]
theorem qak8(d:LB)(i j:Nat)(H:j<upN i 256):((sL d i).drop (2*j)).take 2=fixL (cnt d (256*j)-cnt d (2048*(j/8))) 2:=by
 induction i<;>grind [upN,qy8,sL,List.drop_left,qt]
theorem qzy(d:LB)(a b:Nat):cnt d (a+b)<=cnt d a+b:=by
 induction b<;>grind [qc8,cnt]
def vD(l:LB):LB:=(l.drop 8).take (upN (vN l) 8)
theorem qxo(l:LB)(n:Nat)(H:n<=vN l):cnt (vD l) n=cnt (l.drop 8) n:=qxn _ _ _ (by unfold upN;omega)
theorem VecOk.of(hv:vOk l=true)(h1:cnt (vD l) (vN l)=vM l)(Z:l.drop (qz (vN l))=gL (vD l) (vN l)++(sL (vD l) (vN l)++mL (vD l) (vN l))):VecOk l:=by
 have hn:vN l<=67108864:=by
  grind [vOk]
 refine⟨hv,λj U=>?_,λj U=>?_,by grind [qxo]⟩
 ·have H:=qsf (vD l) (vN l);rw[<-Ar,Z,CM Oo,CN (by grind),qak1 _ _ _ U,qfs]
  grind [upN,qlm,qxo]
 ·have H:=qsf (vD l) (vN l);have W:=qy8 (vD l) (vN l);have e:qa6 (vN l)+2*j=qz (vN l)+((gL (vD l) (vN l)).length+2*j):=by grind [qa6]
  have e2:∀A B:LB,(A++B).drop (A.length+2*j)=B.drop (2*j):=λA B=>by simp
  rw[e,<-Ar,Z,e2,CM Oo,CN (by grind),qak8 _ _ _ U,qfs];have aa:256*j<=vN l:=by grind [upN]
  have hc:cnt (vD l) (256*j)<=cnt (vD l) (2048*(j/8))+2048:=by
   have:=qzy (vD l) (2048*(j/8)) (256*j-2048*(j/8));have e4:2048*(j/8)+(256*j-2048*(j/8))=256*j:=by omega
   grind
  grind [qxo]
theorem qkm(d:LB)(A:oA)(n c t:Nat)(w:DU)(hS:SlAt encB 1 w A d)(Z:d.length=n)(ht:t/8<d.length)(hd:d.length<=67108864):
  Gv Eg 155 [.slice A n c,ii t] w λv w'=>v=.bool (decide (bitN d t=1))/\w'=w:=by
 have U:=q8 d[t/8];have H:d[t/8].toNat/2 ^ (t%8)<256:=BI (Cv _ _) U;have hb:d[t/8].toNat/2 ^ (t%8)%2 ^ 1=bitN d t:=by
  rw[bitN,Ah,zge ht];rfl
 have W:t/8<n:=Z ▸ ht;refine ze Tryz.func155 Tryz.ntmps155 ?_;refine zv ?_;refine ElemV.bs hS Z (t/8) Oo W ?_;intro eb eo hc;refine LoadV.of hc (zu ?_);refine V.Wit.shrN (t%8) Oo (by show t%8<8;omega) ?_;refine Wit.eq (qay (k:=.u8) (m:=d[t/8].toNat/2 ^ (t%8)) 1 rfl (qff H) ⟨by omega,by omega⟩) ?_;rw[hb];(conv=>whnf);refine⟨Ae Value.bool ?_,rfl⟩;rw[AU];simp only[decide_eq_true_eq];omega
theorem qy1(n k:Nat)(w:DU)(hk:k<=4):
  Gv Eg 154 [ii n,ii k] w λr w'=>w'.ownsRow w.heap.size 5 1 r k (byV (fixL n k))/\Ext w w':=by
 refine ze Tryz.func154 Tryz.ntmps154 ?_;refine qk (λx:Nat×oA×Nat=>[(0,ii n),(1,ii k),(5,.slice x.2.1 x.1 x.2.2),(6,ii x.1)])
  (λx Z=>x.1<=k/\Rw w Z (.slice x.2.1 x.1 x.2.2) 5 1 x.1 (byV (fixL n x.1)) []) (λx=>k-x.1) (0,none,0) fq ⟨by simp,Rw.nil (Mem.nil w)⟩ ?_
 rintro⟨i,A,c⟩ Z aa ⟨h1,H⟩;dsimp only at h1 H|-;(conv=>whnf);refine zC (λ_=>zu ?_) (λ_=>zu ?_)
 ·refine V.Wit.shrN (8*i) Oo (by show 8*i<64;omega) ?_;refine V.Wit.low8 ?_;refine NewV.rw H ?_;intro nb w4 U;refine AppV.one qdo bytI bytZ Jk rfl (by decide +kernel) U rfl Oo ?_;intro B' d' w5 W;refine zu ?_;refine⟨(i+1,B',d'),fq,⟨by simp only;omega,?_⟩,by simp only;omega⟩;simp only[fixL,byV,AJ,AK,BN];have e:(UInt8.ofNat (n/2 ^ (8*i)%256)).toNat=n/2 ^ (8*i)%256:=by simp
  rw[e];exact W
 ·obtain rfl:i=k:=by omega
  exact⟨H.own,H.mem.ext⟩
theorem qzz(d:LB)(A:oA)(l c n:Nat)(w:DU)(U:SlAt encB 1 w A d)(W:d.length=l)(hn:n<=8*d.length)(hb:n<=67108864)(Z:d.length<=67108864):
  Gv Eg 365 [.slice A l c,ii n] w λv w'=>v=ii (cnt d n)/\w'=w:=by
 refine ze Tryz.func365 Tryz.ntmps365 ?_;refine qk (λi:Nat=>[(0,.slice A l c),(1,ii n),(5,ii (cnt d i)),(6,ii i)]) (λi w'=>i<=n/\w'=w) (λi=>n-i) 0 fq ⟨Ag _,rfl⟩ ?_;rintro i w1 aa ⟨i1,rfl⟩;have hc:=qlm d i;have ad:=qc8 d i;have H:cnt d (i+1)=cnt d i+bitN d i:=rfl;(conv=>whnf);refine zC (λ_=>zw ?_) (λ_=>zw ?_)
 ·refine zcv (qkm d A l c i _ U W Oo Z) ?_;rintro r w2 ⟨rfl,rfl⟩;(conv=>whnf);refine zC (λ_=>zu ?_) (λ_=>zu ?_)
  ·exact⟨i+1,⟨rfl,rfl,by rw[H];exact Ae (Value.int .i64) Oo,rfl,trivial⟩,⟨by omega,rfl⟩,by omega⟩
  ·exact⟨i+1,⟨rfl,rfl,by rw[H];exact Ae (Value.int .i64) Oo,rfl,trivial⟩,⟨by omega,rfl⟩,by omega⟩
 ·obtain rfl:i=n:=by omega
  exact⟨rfl,rfl⟩
theorem qvh(d:LB)(A:oA)(l c n:Nat)(w:DU)(hS:SlAt encB 1 w A d)(hl:d.length=l)(hn:n<=8*d.length)(hd:d.length<=67108864):
  Gv Eg 364 [.slice A l c,ii n] w λv w'=>(∃b,v=.bool b/\(b=true↔¬ ∃t,n<=t/\t<8*d.length/\bitN d t=1))/\w'=w:=by
 refine ze Tryz.func364 Tryz.ntmps364 ?_;refine qk (λi:Nat=>[(0,.slice A l c),(5,ii i)]) (λi w'=>n<=i/\i<=8*d.length/\(∀t,n<=t->t<i->bitN d t≠1)/\w'=w) (λi=>8*d.length-i) n fq ⟨Ai _,hn,λt H W=>by omega,rfl⟩ ?_;rintro i w1 aa ⟨i0,i1,Z,rfl⟩;(conv=>whnf);refine zt ?_;refine zC (λ_=>zw ?_) (λ_=>zw ?_)
 ·refine zcv (qkm d A l c i _ hS hl Oo hd) ?_;rintro r w2 ⟨rfl,rfl⟩
  by_cases U:bitN d i=1
  ·rw[AE U];refine zu ?_;exact⟨⟨_,rfl,⟨λh=>(by cases h),λh=>absurd ⟨i,i0,by omega,U⟩ h⟩⟩,rfl⟩
  ·rw[AM U];refine zu ?_;refine⟨i+1,fq,⟨by omega,by omega,λt H W=>?_,rfl⟩,by omega⟩
   by_cases e:t=i
   ·subst e;exact U
   ·exact Z t H Oo
 ·obtain rfl:i=8*d.length:=by omega
  exact⟨⟨_,rfl,⟨λ_=>by rintro⟨t,H,W,h3⟩;exact Z t H W h3,λ_=>rfl⟩⟩,rfl⟩
theorem qale(l:LB):leN ((l.drop 0).take 4)=vN l:=rfl
theorem qc5(l:LB)(A:oA)(n c:Nat)(w:DU)(U:SlAt encB 1 w A l)(W:l.length=n)(h8:8<=l.length)(Z:l.length<=140737488355328):
  Gv Eg 317 [.slice A n c] w λv w'=>v=.tuple #[ii (vN l),ii (vM l)]/\Ext w w':=by
 refine ze Tryz.func317 Tryz.ntmps317 ?_;refine zcv (qzh l A n c 0 w U W Oo Z) ?_;rintro r w1 ⟨rfl,he⟩;rw[qale];(conv=>whnf);refine zcv (qzh l A n c 4 w1 (U.ext he) W Oo Z) ?_;rintro r w2 ⟨rfl,H⟩;(conv=>whnf);exact⟨rfl,he.trans H⟩
theorem qr1(l:LB)(A:oA)(n c:Nat)(w:DU)(H:SlAt encB 1 w A l)(U:l.length=n)(hc:n<=c)(h8:8<=l.length)(hv:vN l<=67108864)(hg:qz (vN l)<=l.length)(hl:l.length<=140737488355328):
  Gv Eg 363 [.slice A n c] w λv w'=>(∃B d,v=.slice B (upN (vN l) 8) d/\SlAt encB 1 w' B (vD l))/\Ext w w':=by
 have hu:=qbc (vN l) 8 Od;have aa:qz (vN l)=8+upN (vN l) 8:=rfl;refine ze Tryz.func363 Tryz.ntmps363 ?_;refine zcv (qc5 l A n c w H U h8 hl) ?_;rintro r w1 ⟨rfl,W⟩;(conv=>whnf);refine zcv (qhq (vN l) 8 w1 Oo Od Od) ?_;rintro r w2 ⟨rfl,rfl⟩;refine zu ?_;refine SliceV.bs (H.ext W) U 8 (8+upN (vN l) 8) c rfl (by show(8:Int)+_=_;omega) rfl Oo Oo Oo znr (λ_=>rfl) ?_;intro B Z;have e:8+upN (vN l) 8-8=upN (vN l) 8:=by omega
 rw[e]at Z|-;(conv=>whnf);exact⟨⟨B,_,rfl,Z⟩,W⟩
def qat(d:LB)(n:Nat):LB:=fixL n 4++fixL (cnt d n) 4++d++gL d n++sL d n++mL d n
def ahN(d:LB)(i:Nat):Nat:=if i=0 then 0 else cnt d (2048*((i-1)/2048))
theorem qacw(d:LB)(i:Nat)(h:i%2048=0):gL d (i+1)=gL d i++fixL (cnt d i) 4:=by rw[gL,Ad h]
theorem q3k(d:LB)(i:Nat)(h:i%2048≠0):gL d (i+1)=gL d i:=by rw[gL,Aa h]
theorem qadn(d:LB)(i:Nat)(h:i%256=0):sL d (i+1)=sL d i++fixL (cnt d i-cnt d (2048*(i/2048))) 2:=by rw[sL,Ad h]
theorem qahf(d:LB)(i:Nat)(h:i%256≠0):sL d (i+1)=sL d i:=by rw[sL,Aa h]
theorem qac9(d:LB)(i:Nat)(h:bitN d i=1)(H:cnt d i%512=0):mL d (i+1)=mL d i++fixL i 4:=by rw[mL,Ad ⟨h,H⟩]
theorem q46(d:LB)(i:Nat)(h:¬(bitN d i=1/\cnt d i%512=0)):mL d (i+1)=mL d i:=by rw[mL,Aa h]
theorem qain(d:LB)(i:Nat)(h:i%2048=0):ahN d (i+1)=cnt d i:=by
 rw[ahN,Aa Oo];have e:2048*((i+1-1)/2048)=i:=by omega
 rw[e]
theorem q1v(d:LB)(i:Nat)(h:i%2048≠0):ahN d (i+1)=ahN d i:=by
 rw[ahN,ahN,Aa Oo,Aa Oo];have e:(i+1-1)/2048=(i-1)/2048:=by omega
 rw[e]
theorem q1w(d:LB)(i:Nat):ahN d (i+1)=cnt d (2048*(i/2048)):=by
 rw[ahN,Aa Oo];rfl
theorem qakx(d:LB)(i:Nat):ahN d i<=cnt d i:=by
 rw[ahN]
 split
 ·exact Ag _
 ·exact qks Oo
theorem V.AppV.rwB{t:DX}{i:TypeInfo}{x m:LB}(ht:P.underlying t=some (.slice e))(hi:P.info? e=some i)(hz:i.zero=some z)(H:i.size=1)(aa:z.cells.size=1)(ad:i.bytes<=16)(h:Rw w0 w (.slice A x.length c) e 1 x.length (byV x) L)(hS:SlAt encB 1 w B m)(U:x.length+m.length<=8000000000000)(hk:∀W Z w',Rw w0 w' (.slice W (x++m).length Z) e 1 (x++m).length (byV (x++m)) L->K (.slice W (x++m).length Z) w'):AppV P #[t,t] ty (.slice A x.length c) (.slice B m.length d) w K:=by
 refine AppV.rw (news:=byV m) ht hi hz H aa Od h (by rw[qdn,AZ]) (qpf hS) (λu hu=>?_) (AI (B8 U ad) Od) Oo ?_
 ·simp only[byV,AF]at hu;obtain⟨v,_,rfl⟩:=hu;rfl
 ·intro W Z w' hR;rw[<-zla]at hR|-;exact hk W Z w' (by rw[byV,AJ];exact hR)
theorem qil(n k:Nat)(w:DU)(H:k<=4):
  Gv Eg 154 [ii n,ii k] w λr w'=>(∃A c,r=.slice A (fixL n k).length c/\SlAt encB 1 w' A (fixL n k))/\Ext w w':=by
 refine(qy1 n k w H).mono ?_;rintro r w' ⟨U,W⟩;obtain⟨A,c,e,_,Z⟩:=qig (l:=fixL n k) (by rw[qt];exact U);exact⟨⟨A,c,e,Z⟩,W⟩
theorem qo2(d:LB)(A:oA)(l c n:Nat)(w:DU)(hS:SlAt encB 1 w A d)(hl:d.length=l)(hn:n<=8*d.length)(hb:n<=67108864)(hd:d.length<=67108864):
  Gv Eg 89 [.slice A l c,ii n] w λv w'=>(∃B cb,v=.slice B (qat d n).length cb/\SlAt encB 1 w' B (qat d n))/\Ext w w':=by
 refine ze Tryz.func89 Tryz.ntmps89 ?_;refine qk (λx:Nat×(oA×Nat)×(oA×Nat)×(oA×Nat)=>[(0,.slice A l c),(1,ii n),(5,.slice x.2.1.1 (gL d x.1).length x.2.1.2),(6,.slice x.2.2.1.1 (sL d x.1).length x.2.2.1.2),(7,.slice x.2.2.2.1 (mL d x.1).length x.2.2.2.2),(8,ii (cnt d x.1)),(9,ii (ahN d x.1)),(10,ii x.1)])
  (λx w'=>x.1<=n/\V.Tri 5 w w' (.slice x.2.1.1 (gL d x.1).length x.2.1.2) (.slice x.2.2.1.1 (sL d x.1).length x.2.2.1.2) (.slice x.2.2.2.1 (mL d x.1).length x.2.2.2.2) (gL d x.1) (sL d x.1) (mL d x.1)) (λx=>n-x.1) (0,(none,0),(none,0),(none,0))
  fq ⟨Ag _,Tri.nil w⟩ ?_
 rintro⟨i,⟨GA,gc⟩,⟨SA,sc⟩,⟨MA,mc⟩⟩ w1 aj ⟨i1,H⟩;dsimp only at i1 H|-;have hc:=qlm d i;have ak:=qakx d i;have al:=qsf d i;have am:=qy8 d i;have an:=qada d i;have ao:=qbc i 2048 Od;have aq:=qbc i 256 Od;have ar:=qbc (cnt d i) 512 Od;have hs:cnt d (i+1)=cnt d i+bitN d i:=rfl;have au:=qc8 d i;refine if hx:i=n then ?cX else if Z:i%2048=0 then ?cA else if h2:i%256=0 then ?cB else ?cC
 case' cA=>
  have W:ahN d (i+1)=cnt d i:=qain d i Z;refine zu ?_;refine zcv (qil (cnt d i) 4 w1 Od) ?_;rintro r w2 ⟨⟨B,cb,rfl,af⟩,he⟩;have H:=H.call he;(conv=>whnf);refine V.Tri.app H qdo bytI bytZ Jk rfl (by decide +kernel) af (by rw[qt];omega) ?_;intro GA gc w3 H;have e1:(gL d i).length+(fixL (cnt d i) 4).length=(gL d (i+1)).length:=by rw[qacw d i Z,zla]
  rw[e1]at H|-;rw[<-qacw d i Z]at H;refine zu ?_;have es:((cnt d i:Nat):Int)-((cnt d i:Nat):Int)=((cnt d i-ahN d (i+1):Nat):Int):=by rw[W];omega
 case' cB=>
  have W:ahN d (i+1)=ahN d i:=q1v d i Z;rw[<-q3k d i Z]at H|-;refine zu ?_;have es:((cnt d i:Nat):Int)-((ahN d i:Nat):Int)=((cnt d i-ahN d (i+1):Nat):Int):=by rw[W];omega
 case' cA|cB=>
  rw[es];refine zcv (qil (cnt d i-ahN d (i+1)) 2 _ Od) ?_;rintro r w4 ⟨⟨B2,ag,rfl,ad⟩,aa⟩;have H:=(H.call aa).rot;(conv=>whnf);refine V.Tri.app H qdo bytI bytZ Jk rfl (by decide +kernel) ad (by rw[qt];omega) ?_;intro SA sc w5 H;have e2:(sL d i).length+(fixL (cnt d i-ahN d (i+1)) 2).length=(sL d (i+1)).length:=by rw[qadn d i Oo,zla,q1w]
  rw[e2]at H|-;rw[q1w,<-qadn d i Oo]at H;have H:=H.rot.rot;conv=>whnf
 case' cC=>
  have W:ahN d (i+1)=ahN d i:=q1v d i Z;rw[<-q3k d i Z,<-qahf d i h2]at H|-;refine zu ?_
 case' cA|cB|cC=>
  refine zcv (qkm d A l c i _ (hS.ext H.ext) hl Oo hd) ?_;rintro r w6 ⟨rfl,rfl⟩;(conv=>whnf);refine if hb:bitN d i=1 then(if h5:cnt d i%512=0 then ?_ else ?_)else ?_
 case' cA.refine_1|cB.refine_1|cC.refine_1=>
  refine zv ?_;refine zcv (qil i 4 _ Od) ?_;rintro r w7 ⟨⟨B3,av,rfl,ae⟩,ah⟩;have H:=(H.call ah).rot.rot;(conv=>whnf);refine V.Tri.app H qdo bytI bytZ Jk rfl (by decide +kernel) ae (by rw[qt];omega) ?_;intro MA mc w8 H;have e4:(mL d i).length+(fixL i 4).length=(mL d (i+1)).length:=by rw[qac9 d i hb h5,zla]
  rw[e4]at H|-;rw[<-qac9 d i hb h5]at H;have H:=H.rot;conv=>whnf
 case' cA.refine_2|cB.refine_2|cC.refine_2=>
  rw[<-q46 d i (λh=>by omega)]at H|-
 case' cA.refine_3|cB.refine_3|cC.refine_3=>
  rw[<-q46 d i (λh=>by omega)]at H|-
 case' cA.refine_1|cB.refine_1|cC.refine_1|cA.refine_2|cB.refine_2|cC.refine_2|cA.refine_3|cB.refine_3|cC.refine_3=>
  refine zv ?_;exact⟨(i+1,(GA,gc),(SA,sc),(MA,mc)),⟨rfl,rfl,rfl,rfl,rfl,by exact Ae (Value.int .i64) (by dsimp only;omega),by rw[W];rfl,rfl,trivial⟩,⟨by simp only;omega,H⟩,by simp only;omega⟩
 obtain rfl:i=n:=hx;refine zu ?_;have hG:SlAt encB 1 w1 GA (gL d i):=by
  obtain⟨_,_,e,_,h⟩:=qig H.oa;cases e;exact h
 have hH:SlAt encB 1 w1 SA (sL d i):=by
  obtain⟨_,_,e,_,h⟩:=qig H.ob;cases e;exact h
 have hI:SlAt encB 1 w1 MA (mL d i):=by
  obtain⟨_,_,e,_,h⟩:=qig H.oc;cases e;exact h
 refine zcv (qy1 i 4 w1 Od) ?_;rintro r w2 ⟨ho,he⟩;obtain⟨B,cb,rfl⟩:=qbm ho;have U:Rw w1 w2 (.slice B (fixL i 4).length cb) 5 1 (fixL i 4).length (byV (fixL i 4)) []:=⟨⟨he,by simp,by simp⟩,ho,by simp⟩
 (conv=>whnf);refine zcv (qil (cnt d i) 4 w2 Od) ?_;rintro r w3 ⟨⟨B2,ag,rfl,ai⟩,aa⟩;have U:=U.call aa;(conv=>whnf);refine AppV.rwB (x:=fixL i 4) qdo bytI bytZ Jk rfl (by decide +kernel) U ai (by rw[qt,qt];omega) ?_;intro C1 c1 w4 U;(conv=>whnf);subst hl;refine AppV.rwB (x:=fixL i 4++fixL (cnt d i) 4) qdo bytI bytZ Jk rfl (by decide +kernel) U (hS.ext (H.ext.trans U.mem.ext)) (by simp only[zla,qt];omega) ?_;intro C2 c2 w5 U;(conv=>whnf);refine AppV.rwB (x:=fixL i 4++fixL (cnt d i) 4++d) qdo bytI bytZ Jk rfl (by decide +kernel) U (hG.ext U.mem.ext) (by simp only[zla,qt];omega) ?_;intro C3 c3 w6 U;(conv=>whnf);refine AppV.rwB (x:=fixL i 4++fixL (cnt d i) 4++d++gL d i) qdo bytI bytZ Jk rfl (by decide +kernel) U (hH.ext U.mem.ext) (by simp only[zla,qt];omega) ?_;intro C4 c4 w7 U;(conv=>whnf);refine AppV.rwB (x:=fixL i 4++fixL (cnt d i) 4++d++gL d i++sL d i) qdo bytI bytZ Jk rfl (by decide +kernel) U (hI.ext U.mem.ext) (by simp only[zla,qt];omega) ?_;intro C5 c5 w8 U;(conv=>whnf);obtain⟨_,_,e,_,h⟩:=qig U.own;cases e;exact⟨⟨C5,c5,rfl,h⟩,H.ext.trans U.mem.ext⟩
def PadB(d:LB)(n:Nat):Prop:=∃t,n<=t/\t<8*d.length/\bitN d t=1
def q7i(n i:Nat):Nat:=
 if i<qa6 n then qz n+(i-qz n)/4*4 else if i<qcs n then qa6 n+(i-qa6 n)/2*2 else qcs n+(i-qcs n)/4*4
def spF(l:LB)(t:Nat):Nat×Nat:=
 if l[qz (vN l)+t]?=(qat (vD l) (vN l))[qz (vN l)+t]? then(0,0)else(q7i (vN l) (qz (vN l)+t),20)
open Classical in
noncomputable def voE(l:LB):Nat×Nat:=
 if PadB (vD l) (vN l)then(7+upN (vN l) 8,12)else if cnt (vD l) (vN l)≠vM l then(4,20)else errF (spF l) (qbe (vN l) (vM l)-qz (vN l))
theorem qaia(h:PadB (vD l) (vN l)):voE l=(7+upN (vN l) 8,12):=by rw[voE,Ad h]
theorem qah9(h:¬PadB (vD l) (vN l))(H:cnt (vD l) (vN l)≠vM l):voE l=(4,20):=by grind [voE]
theorem qali(h:¬PadB (vD l) (vN l))(Z:cnt (vD l) (vN l)=vM l)(hi:qz (vN l)<=i)(H:i<qbe (vN l) (vM l))(hj:∀j,qz (vN l)<=j->j<i->l[j]?=(qat (vD l) (vN l))[j]?)(U:l[i]?≠(qat (vD l) (vN l))[i]?):voE l=(q7i (vN l) i,20):=by
 obtain⟨t,rfl⟩:∃t,i=qz (vN l)+t:=⟨i-qz (vN l),by omega⟩
 have W:spF l t=(q7i (vN l) (qz (vN l)+t),20):=by grind [spF]
 rw[voE,Aa h,Aa Oo,qae2 (k:=t) (λj h3=>by grind [spF]) Oo (by simp_all),W]
theorem qakr(h:¬PadB (vD l) (vN l))(H:cnt (vD l) (vN l)=vM l)(U:∀j,qz (vN l)<=j->j<qbe (vN l) (vM l)->l[j]?=(qat (vD l) (vN l))[j]?):voE l=(0,0):=by
 have W:∀k,k<qbe (vN l) (vM l)-qz (vN l)->spF l k=(0,0):=λk Z=>by grind [spF]
 rw[voE,Aa h,Aa Oo];have:∀n,n<=qbe (vN l) (vM l)-qz (vN l)->errF (spF l) n=(0,0):=by
  intro n hn
  induction n<;>grind [errF]
 simp_all
theorem qle(h:(voE l).2=0):¬PadB (vD l) (vN l)/\cnt (vD l) (vN l)=vM l/\∀j,qz (vN l)<=j->j<qbe (vN l) (vM l)->l[j]?=(qat (vD l) (vN l))[j]?:=by
 by_cases H:PadB (vD l) (vN l)
 ·grind [qaia]
 by_cases U:cnt (vD l) (vN l)=vM l
 ·refine⟨H,U,λj Z W=>?_⟩;rw[voE,Aa H,Aa Oo]at h;have h3:=qan h (j-qz (vN l)) Oo
  grind [spF]
 grind [qah9]
end Go.Proofs.YtccmcfpmknpccaaGreatDoor
