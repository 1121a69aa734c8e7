/- Part 5 of 11. -/
import Derived.Test.YtacnkdagblbgfaaGreatDoorMS4
import Derived.Lib.Replace
import Derived.Lib.CutLaws
import Derived.Lib.ReplaceLaws
import Derived.LaidEql
import Derived.Stop.Asserts
import Derived.RowKitTokens
import Derived.TacticsIn
import Derived.RangeFuncSeq
import Derived.RangeFuncLeaves
namespace Go.Proofs.YtacnkdagblbgfaaGreatDoor
set_option maxHeartbeats 8000000
open Go.RowKit V
variable {ahead l:LB} {b c cc d i id j k m most nb off:Nat} {w w' w0:Ez} {L M:ED} {s:E0} {kind:Int} {P:E4} {f gf:FuncId} {args cs cur:EH} {ρ:EB} {a:Act} {K R:E9} {o oj:Oper} {ds:EI} {ops:Array Oper} {Q':Exit->Act->EC} {body:Code} {lb vs:EE} {J:ED->EC} {A:oA} {e ty:E6} {fz:Nat×Nat}
def PadB(d:LB)(n:Nat):Prop:=∃t,n<=t/\t<8*d.length/\bitN d t=1
def q3w(n i:Nat):Nat:=
 if i<qbi n then qaa n+(i-qaa n)/4*4 else if i<qdn n then qbi n+(i-qbi n)/2*2 else qdn n+(i-qdn n)/4*4
def spF(l:LB)(t:Nat):Nat×Nat:=
 if l[qaa (vN l)+t]?=(qar (vD l) (vN l))[qaa (vN l)+t]? then(0,0)else(q3w (vN l) (qaa (vN l)+t),20)
open Classical in
noncomputable def voE(l:LB):Nat×Nat:=
 if PadB (vD l) (vN l)then(7+upN (vN l) 8,12)else if cnt (vD l) (vN l)≠vM l then(4,20)else errF (spF l) (qch (vN l) (vM l)-qaa (vN l))
theorem qaci(h:PadB (vD l) (vN l)):voE l=(7+upN (vN l) 8,12):=by rw[voE,Ad h]
theorem qach(h:¬PadB (vD l) (vN l))(h2:cnt (vD l) (vN l)≠vM l):voE l=(4,20):=by rw[voE,Aa h,Ad h2]
theorem qafc(h:¬PadB (vD l) (vN l))(h2:cnt (vD l) (vN l)=vM l)(hi:qaa (vN l)<=i)(hi2:i<qch (vN l) (vM l))(hj:∀j,qaa (vN l)<=j->j<i->l[j]?=(qar (vD l) (vN l))[j]?)(hne:l[i]?≠(qar (vD l) (vN l))[i]?):voE l=(q3w (vN l) i,20):=by
 obtain⟨t,rfl⟩:∃t,i=qaa (vN l)+t:=⟨i-qaa (vN l),by omega⟩
 have hk:spF l t=(q3w (vN l) (qaa (vN l)+t),20):=by rw[spF,Aa hne]
 rw[voE,Aa h,Aa Oo,qcj (k:=t) (fun j h3=>by rw[spF,Ad (hj _ Oo Oo)]) Oo (by rw[hk];exact Cz 19),hk]
theorem qaem(h:¬PadB (vD l) (vN l))(h2:cnt (vD l) (vN l)=vM l)(hj:∀j,qaa (vN l)<=j->j<qch (vN l) (vM l)->l[j]?=(qar (vD l) (vN l))[j]?):voE l=(0,0):=by
 have hz:∀k,k<qch (vN l) (vM l)-qaa (vN l)->spF l k=(0,0):=fun k hk=>by rw[spF,Ad (hj _ Oo Oo)]
 rw[voE,Aa h,Aa Oo];have:∀n,n<=qch (vN l) (vM l)-qaa (vN l)->errF (spF l) n=(0,0):=by
  intro n hn
  induction n with
  | zero=>rfl
  | succ n ih=>rw[errF,ih Oo,Aa Od,hz n Oo]
 exact this _ znr
theorem q7f(h:(voE l).2=0):¬PadB (vD l) (vN l)/\cnt (vD l) (vN l)=vM l/\∀j,qaa (vN l)<=j->j<qch (vN l) (vM l)->l[j]?=(qar (vD l) (vN l))[j]?:=by
 by_cases h1:PadB (vD l) (vN l)
 ·rw[qaci h1]at h;cases h
 by_cases h2:cnt (vD l) (vN l)=vM l
 ·refine⟨h1,h2,fun j hj hj2=>?_⟩;rw[voE,Aa h1,Aa Oo]at h;have h3:=qed h (j-qaa (vN l)) Oo;rw[spF,show qaa (vN l)+(j-qaa (vN l))=j by omega]at h3
  split at h3
  ·assumption
  ·cases h3
 ·rw[qach h1 h2]at h;cases h
set_option maxHeartbeats 8000000
set_option maxRecDepth 100000
theorem qfs(d:LB)(n:Nat):(qar d n).length=8+d.length+4*upN n 2048+2*upN n 256+4*upN (cnt d n) 512:=by
 simp only[qar,zla,qi,qqz,qwt,q8a]
theorem qze(d:LB)(n:Nat):(qar d n).drop (8+d.length)=gL d n++(sL d n++mL d n):=by
 have e:qar d n=(fixL n 4++fixL (cnt d n) 4++d)++(gL d n++(sL d n++mL d n)):=by simp only[qar,Ak]
 have e2:8+d.length=(fixL n 4++fixL (cnt d n) 4++d).length:=by simp only[zla,qi]
 rw[e,e2,D5]
theorem q0b{m:LB}{a:Nat}(hlen:l.length=m.length)(h:∀j,a<=j->j<l.length->l[j]?=m[j]?):l.drop a=m.drop a:=by
 apply BW;intro i;rw[Cr,Cr]
 by_cases hi:a+i<l.length
 ·exact h (a+i) Oo hi
 ·rw[Au Oo,Au Oo]
theorem VecOk.voE{l:LB}(hv:vOk l=true)(h:(voE l).2=0):VecOk l:=by
 obtain⟨_,h2,h3⟩:=q7f h;simp only[vOk,AJ,decide_eq_true_eq]at hv;have hve:qch (vN l) (vM l)=qaa (vN l)+4*upN (vN l) 2048+2*upN (vN l) 256+4*upN (vM l) 512:=rfl;have hgg:qaa (vN l)=8+upN (vN l) 8:=rfl;have hdl:(vD l).length=upN (vN l) 8:=by rw[vD,AG,zld];omega
 have hwl:=qfs (vD l) (vN l);have hlen:l.length=(qar (vD l) (vN l)).length:=by rw[hwl,h2,hdl];omega
 refine VecOk.of (by simp only[vOk,AJ,decide_eq_true_eq];exact hv) h2 ?_;rw[<-qze,hdl,<-hgg];exact q0b hlen fun j h4 h5=>h3 j Oo Oo
def inF(F:Nat->Int):Nat->E8:=fun j=>ii (F j)
def updI(F:Nat->Int)(i:Nat)(v:Int):Nat->Int:=fun j=>if j=i then v else F j
theorem q3t(F:Nat->Int)(i:Nat)(v:Int):updI F i v i=v:=by simp[updI]
theorem q3u(F:Nat->Int)(i j:Nat)(v:Int)(h:j≠i):updI F i v j=F j:=by simp[updI,h]
theorem qacf(F:Nat->Int)(i:Nat)(v:Int):updF (inF F) i (ii v)=inF (updI F i v):=by
 funext j
 by_cases h:j=i
 ·simp[updF,updI,inF,h]
 ·simp[updF,updI,inF,h]
theorem V.LoadV.fi{n:Nat}{F:Nat->Int}{t:E6}{x:Int}{K:E8->Prop}(h:Mem w0 w L)(hi:L[i]?=some (b,.cells (fnA n (inF F)) t))(j:Nat)(e:off=j)(hj:j<n)(hv:F j=x)(hk:K (ii x)):LoadV w b off K:=
 LoadV.fn h hi j e hj (by rw[<-hv];rfl) hk
theorem V.StoreV.fi{n:Nat}{F:Nat->Int}{t:E6}{x:Int}{K:EC}(h:Mem w0 w L)(hi:L[i]?=some (b,.cells (fnA n (inF F)) t))(j:Nat)(e:off=j)(hj:j<n)(hk:∀w',Mem w0 w' (L.set i (b,.cells (fnA n (inF (updI F j x))) t))->K w'):StoreV w b off (ii x) K:=
 StoreV.fn h hi j e hj rfl fun w' hm=>hk w' (by rw[qacf]at hm;exact hm)
theorem qgr(n:Nat)(F:Nat->Int):∀v∈(fnA n (inF F)).toList,v.oneCell'=true:=by
 intro v hv;simp only[fnA,AY]at hv;obtain⟨j,_,rfl⟩:=hv;rfl
theorem qjb(x:Nat)(w:Ez)(hx:x<18446744073709551616):Gv EG 125 [.int .u64 x] w fun r w'=>r=ii (qao x)/\w'=w:=by
 refine ze Tryz.func125 Tryz.ntmps125 ?_;refine qj (fun s:Nat×Nat=>[(0,.int .u64 s.2),(3,ii s.1)]) (fun s w'=>s.1+qao s.2=qao x/\s.2<18446744073709551616/\w'=w) (fun s=>s.2) (0,x) fq ⟨Aw _,hx,rfl⟩ ?_;rintro⟨k,y⟩ w1 ρ' ⟨h1,h2,rfl⟩;dsimp only at h1 h2|-;have hW:qao x<=64:=qc5 64 x (by simpa using hx) Od;(conv=>whnf);refine zC (fun _=>zu ?_) (fun _=>zu ?_)
 ·have hh:=qjh y Oo h2;refine V.Wit.shrN 1 rfl Od (zw ?_);exact⟨(k+1,y/2),fq,⟨by simp only;omega,by simp only;omega,rfl⟩,by simp only;omega⟩
 ·obtain rfl:y=0:=by omega
  rw[qgb]at h1;exact⟨Af (Value.int .i64) Oo,rfl⟩
theorem qyp(n wd:Nat)(w:Ez)(h:n*wd<=4398046511104):Gv EG 126 [ii n,ii wd] w fun r w'=>r=ii ((n*wd+7)/8:Nat)/\w'=w:=by
 obtain⟨f,ef⟩:∃f,f=n*wd:=⟨_,rfl⟩
 have efi:(n:Int)*(wd:Int)=(f:Int):=by rw[ef,Dr]
 rw[<-ef]at h|-;refine ze Tryz.func126 Tryz.ntmps126 ?_;rw[efi];refine zv ?_;exact⟨Af (Value.int .i64) Oo,rfl⟩
theorem qzi(v:E8)(n:Nat):qca [v] n=List.replicate n v:=by
 induction n with
 | zero=>rfl
 | succ n ih=>rw[qca,ih];rfl
def encU(n:Nat):EE:=[.int .u64 n]
def unpN(p:LB)(n wd:Nat):EF:=(List.range n).map fun i=>valB p (i*wd) wd
open Classical in
noncomputable def opE(p:LB)(n wd:Nat):Nat:=if ∃t,n*wd<=t/\t<8*p.length/\bitN p t=1 then 12 else 0
def wMx(xs:EF):Nat->Nat
 | 0=>0
 | i+1=>max (wMx xs i) (qao (xs.getD i 0))
noncomputable def vcE(l:LB)(k:Nat):Nat×Nat:=
 if tVec l k=false then(tEnd l k,180)else if(voE (qg l k)).2≠0 then(tEnd l k+(voE (qg l k)).1,(voE (qg l k)).2)
 else if 0<vNum l k/\bitN ((qg l k).drop 8) (vNum l k-1)≠1 then(tEnd l k,180)else(0,0)
theorem qaej(h:tVec l k=false):vcE l k=(tEnd l k,180):=by rw[vcE,Ad h]
theorem qael(h:tVec l k=true)(h2:(voE (qg l k)).2≠0):vcE l k=(tEnd l k+(voE (qg l k)).1,(voE (qg l k)).2):=by rw[vcE,Aa (by rw[h];decide),Ad h2]
theorem q7a(h:tVec l k=true)(h2:(voE (qg l k)).2=0)(h3:0<vNum l k)(h4:bitN ((qg l k).drop 8) (vNum l k-1)≠1):vcE l k=(tEnd l k,180):=by
 rw[vcE,Aa (by rw[h];decide),Aa Oo,Ad ⟨h3,h4⟩]
theorem qaek(h:tVec l k=true)(h2:(voE (qg l k)).2=0)(h4:0<vNum l k->bitN ((qg l k).drop 8) (vNum l k-1)=1):vcE l k=(0,0):=by
 rw[vcE,Aa (by rw[h];decide),Aa Oo,Aa (fun g=>g.2 (h4 g.1))]
def tX(l:LB)(k i:Nat):Nat:=valB (qv l k) (i*tw l k) (tw l k)
def nmF(l:LB)(k i:Nat):Nat×Nat:=
 if(k≠0/\tX l k i=0)\/4194304<tX l k i then(tvAt l k+1,180)
 else if 0<i/\(k=0\/bitN ((qg l k).drop 8) (i-1)≠1)/\tX l k i<=tX l k (i-1)then(tvAt l k+1,160)else(0,0)
noncomputable def lvE(l:LB)(k:Nat):Nat×Nat:=
 if opE (qv l k) (vNum l k) (tw l k)≠0 then(tEnd l k-1,12)else if wMx (unpN (qv l k) (vNum l k) (tw l k)) (vNum l k)≠tw l k then(tvAt l k,14)
 else if k≠0/\(vcE l k).2≠0 then vcE l k else errF (nmF l k) (vNum l k)
noncomputable def toE(l:LB):Nat×Nat:=if(tE l).2≠0 then tE l else errF (lvE l) 4
section
variable {l:LB} {k:Nat}
theorem qaag(h:opE (qv l k) (vNum l k) (tw l k)≠0):lvE l k=(tEnd l k-1,12):=by rw[lvE,Ad h]
theorem q1v(h:opE (qv l k) (vNum l k) (tw l k)=0)(h2:wMx (unpN (qv l k) (vNum l k) (tw l k)) (vNum l k)≠tw l k):lvE l k=(tvAt l k,14):=by
 rw[lvE,Aa Oo,Ad h2]
theorem qaah(h:opE (qv l k) (vNum l k) (tw l k)=0)(h2:wMx (unpN (qv l k) (vNum l k) (tw l k)) (vNum l k)=tw l k)(h3:k≠0)(h4:(vcE l k).2≠0):lvE l k=vcE l k:=by
 rw[lvE,Aa Oo,Aa Oo,Ad ⟨h3,h4⟩]
theorem q1u(h:opE (qv l k) (vNum l k) (tw l k)=0)(h2:wMx (unpN (qv l k) (vNum l k) (tw l k)) (vNum l k)=tw l k)(h3:k=0\/(vcE l k).2=0):lvE l k=errF (nmF l k) (vNum l k):=by
 rw[lvE,Aa Oo,Aa Oo,Aa Oo]
theorem qado(h:opE (qv l k) (vNum l k) (tw l k)=0)(h2:wMx (unpN (qv l k) (vNum l k) (tw l k)) (vNum l k)=tw l k)(h3:k=0\/(vcE l k).2=0)(h4:∀j,j<vNum l k->(nmF l k j).2=0):(lvE l k).2=0:=by rw[q1u h h2 h3];exact qaf h4
theorem q5v(h:(lvE l k).2=0):opE (qv l k) (vNum l k) (tw l k)=0/\wMx (unpN (qv l k) (vNum l k) (tw l k)) (vNum l k)=tw l k/\(k=0\/(vcE l k).2=0)/\∀j,j<vNum l k->(nmF l k j).2=0:=by
 by_cases h1:opE (qv l k) (vNum l k) (tw l k)=0
 ·by_cases h2:wMx (unpN (qv l k) (vNum l k) (tw l k)) (vNum l k)=tw l k
  ·by_cases h3:k=0\/(vcE l k).2=0
   ·exact⟨h1,h2,h3,qed (by rw[<-q1u h1 h2 h3];exact h)⟩
   ·rw[qaah h1 h2 Oo Oo]at h;exact absurd h Oo
  ·rw[q1v h1 h2]at h;cases h
 ·rw[qaag h1]at h;cases h
theorem qadr(h:¬((k≠0/\tX l k i=0)\/4194304<tX l k i))(h2:¬(0<i/\(k=0\/bitN ((qg l k).drop 8) (i-1)≠1)/\tX l k i<=tX l k (i-1))):nmF l k i=(0,0):=by rw[nmF,Aa h,Aa h2]
end
theorem qae9(h:(tE l).2≠0):toE l=tE l:=by rw[toE,Ad h]
theorem qaec(h:(tE l).2=0)(h2:∀k,k<4->(lvE l k).2=0):(toE l).2=0:=by
 rw[toE,Aa Oo];exact qaf h2
theorem qw2(h:(toE l).2=0):(tE l).2=0/\∀k,k<4->(lvE l k).2=0:=by
 by_cases h1:(tE l).2=0
 ·rw[toE,Aa Oo]at h;exact⟨h1,qed h⟩
 ·rw[qae9 h1]at h;exact absurd h h1
def comL:LB->LB->Nat
 | x::a,y::b=>if x=y then comL a b+1 else 0
 | _,_=>0
theorem qqj:∀a b:LB,comL a b=comL b a
 | [],[]=>rfl
 | [],_::_=>rfl
 | _::_,[]=>rfl
 | x::a,y::b=>by
  by_cases h:x=y
  ·rw[comL,comL,Ad h,Ad h.symm,qqj a b]
  ·rw[comL,comL,Aa h,Aa (fun e=>h e.symm)]
theorem qsq:∀{i:Nat} {a b:LB},(∀j,j<i->a[j]?=b[j]?)->i<=a.length->i<=b.length->(i<a.length->i<b.length->a[i]?≠b[i]?)->comL a b=i
 | 0,[],_,_,_,_,_=>by cases ‹LB›<;>rfl
 | 0,_::_,[],_,_,_,_=>rfl
 | 0,x::a,y::b,_,_,_,h=>by
  have:=h Js Js;rw[comL,Aa (fun e=>this (by rw[e];rfl))]
 | i+1,[],_,_,h,_,_=>by simp at h
 | i+1,_::_,[],_,_,h,_=>by simp at h
 | i+1,x::a,y::b,h1,h2,h3,h4=>by
  have h0:=h1 0 Oo;simp only[B9,Bp]at h0;have ih:=qsq (i:=i) (a:=a) (b:=b) (fun j hj=>by have:=h1 (j+1) Oo;simpa using this) (by simpa using h2) (by simpa using h3) (fun g1 g2=>by have:=h4 (by simpa using g1) (by simpa using g2);simpa using this);rw[comL,Ad h0,ih]
theorem qom(h:i<s.size):s.data.toList[i]?=some (gb s i):=by
 have hl:s.data.toList.length=s.size:=rfl;rw[gb,Ag,zge Oo];rfl
def leL(a b:LB):Bool:=slt ⟨a.toArray⟩ ⟨b.toArray⟩||seq ⟨a.toArray⟩ ⟨b.toArray⟩
def dSt(m:LB):Nat->LB×Nat
 | 0=>([],0)
 | i+1=>((entG ((qe m).drop (dSt m i).2) (decide (i%16=0)) (dSt m i).1).1,(dSt m i).2+(entG ((qe m).drop (dSt m i).2) (decide (i%16=0)) (dSt m i).1).2.1)
def dnF(m:LB)(i:Nat):Nat×Nat:=
 if i%16=0/\q9 m (i/16)≠(dSt m i).2 then(qx m+(dSt m i).2,161)
 else if(entG ((qe m).drop (dSt m i).2) (decide (i%16=0)) (dSt m i).1).2.2≠0 then(qx m+(dSt m i).2,(entG ((qe m).drop (dSt m i).2) (decide (i%16=0)) (dSt m i).1).2.2)
 else if 0<i/\leL (dSt m (i+1)).1 (dSt m i).1=true then(qx m+(dSt m i).2,160)
 else if i%16≠0/\(numL ((qe m).drop (dSt m i).2)).1≠comL (dSt m (i+1)).1 (dSt m i).1 then(qx m+(dSt m i).2,161)else(0,0)
noncomputable def doE(m:LB):Nat×Nat:=
 if(dE m).2≠0 then dE m else if opE (qag m) (upN (dN m) 16) (dW m)≠0 then(qx m-1,12)
 else if(errF (dnF m) (dN m)).2≠0 then errF (dnF m) (dN m)else if(dSt m (dN m)).2<(qe m).length then(qx m+(dSt m (dN m)).2,13)else(0,0)
section
variable {m last:LB} {i p:Nat} (hd:dSt m i=(last,p))
include hd
theorem qvi{first:Bool}(hf:first=decide (i%16=0)):dSt m (i+1)=((entG ((qe m).drop p) first last).1,p+(entG ((qe m).drop p) first last).2.1):=by rw[dSt,hd,hf]
theorem q42(h1:i%16=0)(h2:q9 m (i/16)≠p):dnF m i=(qx m+p,161):=by rw[dnF,hd,Ad ⟨h1,h2⟩]
theorem qac3{first:Bool}(hf:first=decide (i%16=0))(h1:i%16=0->q9 m (i/16)=p)(h2:(entG ((qe m).drop p) first last).2.2≠0):dnF m i=(qx m+p,(entG ((qe m).drop p) first last).2.2):=by
 subst hf;rw[dnF,hd,Aa (fun h=>h.2 (h1 h.1)),Ad h2]
end
section
variable {m:LB}
theorem q43(h:(dE m).2≠0):doE m=dE m:=by rw[doE,Ad h]
theorem q9s(h:(dE m).2=0)(h2:opE (qag m) (upN (dN m) 16) (dW m)≠0):doE m=(qx m-1,12):=by rw[doE,Aa Oo,Ad h2]
theorem q44(h:(dE m).2=0)(h2:opE (qag m) (upN (dN m) 16) (dW m)=0)(h3:∀j,j<dN m->(dnF m j).2=0)(h4:(dSt m (dN m)).2<(qe m).length):doE m=(qx m+(dSt m (dN m)).2,13):=by
 have:=qaf h3;rw[doE,Aa Oo,Aa Oo,Aa Oo,Ad h4]
theorem qac4(h:(dE m).2=0)(h2:opE (qag m) (upN (dN m) 16) (dW m)=0)(h3:∀j,j<dN m->(dnF m j).2=0)(h4:¬(dSt m (dN m)).2<(qe m).length):doE m=(0,0):=by
 have:=qaf h3;rw[doE,Aa Oo,Aa Oo,Aa Oo,Aa h4]
theorem qvo(h:(doE m).2=0):(dE m).2=0/\opE (qag m) (upN (dN m) 16) (dW m)=0/\(∀j,j<dN m->(dnF m j).2=0)/\¬(dSt m (dN m)).2<(qe m).length:=by
 by_cases h1:(dE m).2=0
 ·by_cases h2:opE (qag m) (upN (dN m) 16) (dW m)=0
  ·by_cases h3:(errF (dnF m) (dN m)).2=0
   ·by_cases h4:(dSt m (dN m)).2<(qe m).length
    ·rw[q44 h1 h2 (qed h3) h4]at h;cases h
    ·exact⟨h1,h2,qed h3,h4⟩
   ·rw[doE,Aa Oo,Aa Oo,Ad h3]at h;exact absurd h h3
  ·rw[q9s h1 h2]at h;cases h
 ·rw[q43 h1]at h;exact absurd h h1
end
def escL:LB->LB
 | []=>[]
 | c::r=>if c=0 then 0::1::escL r else c::escL r
theorem qb1(r:LB):escL (0::r)=0::1::escL r:=by rw[escL,Ad rfl]
theorem qa3{c:E7}(r:LB)(h:c≠0):escL (c::r)=c::escL r:=by rw[escL,Aa h]
theorem qvu(l:LB):(escL l).length<=2*l.length:=by
 induction l with
 | nil=>exact Aq _
 | cons c r ih=>
  rw[escL]
  split<;>simp only[As]<;>omega
theorem q9w(l:LB):l.length<=(escL l).length:=by
 induction l with
 | nil=>exact Aq _
 | cons c r ih=>
  rw[escL]
  split<;>simp only[As]<;>omega
section
variable {old new:LB}
theorem qf4{s:LB}(ho:(old==new)=false)(h:Lib.index s old=-1):Lib.replaceAll s old new=s:=by
 unfold Lib.replaceAll Lib.replace;rw[ho];simp only[CF,if_false,Lib.replaceNum,Int.reduceNeg,Int.reduceLT,true_or,if_true,Lib.count_miss h,Lib.replaceK]
theorem qhw{s:LB}(ho:(old==new)=false)(hn:old≠[])(h:Lib.index s old=i):Lib.replaceAll s old new=s.take i++new++Lib.replaceAll (s.drop (i+old.length)) old new:=by
 have hc:=Lib.count_hit hn h;unfold Lib.replaceAll Lib.replace;rw[ho];simp only[CF,if_false,Lib.replaceNum,Int.reduceNeg,Int.reduceLT,true_or,if_true];rw[hc,CB 1,Lib.replaceK_hit _ _ _ _ i h]
theorem q2y{s:LB}(ho:(old==new)=false)(hn:old≠[])(h:old.isPrefixOf s=true):Lib.replaceAll s old new=new++Lib.replaceAll (s.drop old.length) old new:=by
 have hi:Lib.index s old=((0:Nat):Int):=Lib.index_first (Am _) (by simpa[Lib.occAt]using h) (fun j hj=>by omega);rw[qhw ho hn hi];simp
theorem q2z(ho:(old==new)=false)(hn:old≠[]):Lib.replaceAll [] old new=[]:=qf4 ho (by cases old with|nil=>exact absurd rfl hn|cons _ _=>rfl)
theorem qwo{c:E7}{r:LB}(ho:(old==new)=false)(hn:old≠[])(h:old.isPrefixOf (c::r)=false):Lib.replaceAll (c::r) old new=c::Lib.replaceAll r old new:=by
 have hix:Lib.index (c::r) old=if Lib.index r old==-1 then -1 else Lib.index r old+1:=by rw[Lib.index,h];simp
 by_cases hm:Lib.index r old=-1
 ·rw[qf4 ho hm,qf4 ho (by rw[hix,hm];rfl)]
 ·obtain⟨i,hi⟩:∃i:Nat,Lib.index r old=i:=⟨(Lib.index r old).toNat,by have:=Lib.index_ge r old;omega⟩
  have hi':Lib.index (c::r) old=((i+1:Nat):Int):=by
   rw[hix,hi];have:((i:Int)==-1)=false:=by rw[Cm];omega
   rw[this];simp
  rw[qhw ho hn hi,qhw ho hn hi'];have e:i+1+old.length=i+old.length+1:=by omega
  rw[e];simp
end
theorem qabp(l:LB):Lib.replaceAll l [0] [0,1]=escL l:=by
 induction l with
 | nil=>exact q2z Od Js
 | cons c r ih=>
  by_cases h:c=0
  ·subst h;rw[q2y Od Js (by rfl),qb1];simp[ih]
  ·rw[qwo Od Js (by simp[List.isPrefixOf,Ne.symm h]),qa3 _ h,ih]
theorem qlp(l:LB):Lib.replaceAll (escL l) [0,1] [0]=l:=by
 induction l with
 | nil=>exact q2z Od Js
 | cons c r ih=>
  by_cases h:c=0
  ·subst h;rw[qb1,q2y Od Js (by rfl)];simp[ih]
  ·rw[qa3 _ h,qwo Od Js (by simp[List.isPrefixOf,Ne.symm h]),ih]
theorem qz2{s sep:LB}(hi:i<=s.length)(h:Lib.occAt s sep i=true)(hn:∀j,j<i->Lib.occAt s sep j=false):Lib.cut s sep=(s.take i,s.drop (i+sep.length),true):=by
 rw[Lib.cut,Lib.index_first hi h hn,Ad Oo];simp
theorem q17{a b:LB}{sep:LB}:Lib.occAt (a++(sep++b)) sep a.length=true:=by
 unfold Lib.occAt;rw[D5];exact List.isPrefixOf_iff_prefix.2 (List.prefix_append _ _)
theorem q9x(l b:LB):∀j,j<(escL l).length->Lib.occAt (escL l++([0,0]++b)) [0,0] j=false:=by
 induction l with
 | nil=>intro j hj;simp[escL]at hj
 | cons c r ih=>
  intro j hj
  by_cases h:c=0
  ·subst h;rw[qb1]at hj|-
   match j with
   | 0=>rfl
   | 1=>rfl
   | j+2=>exact ih j (by simpa using hj)
  ·rw[qa3 _ h]at hj|-
   match j with
   | 0=>simp[Lib.occAt,List.isPrefixOf,Ne.symm h]
   | j+1=>exact ih j (by simpa using hj)
theorem qsr(l b:LB):Lib.cut (escL l++([0,0]++b)) [0,0]=(escL l,b,true):=by
 rw[qz2 (i:=(escL l).length) Js q17 (q9x l b)];have e:escL l++([0,0]++b)=(escL l++[0,0])++b:=by rw[Ak]
 rw[C9,e];have e2:(escL l).length+([0,0]:LB).length=(escL l++[0,0]).length:=by simp
 rw[e2,D5]
theorem qn7(a b:LB)(h:∀c∈a,c≠0):Lib.cut (a++([0]++b)) [0]=(a,b,true):=by
 rw[qz2 (i:=a.length) Js q17 (fun j hj=>by
  unfold Lib.occAt;rw[BQ Oo,Bu hj,BL,List.isPrefixOf,Cm.2 (Ne.symm (h _ (AT hj)))];rfl)]
 have e:a++([0]++b)=(a++[0])++b:=by rw[Ak]
 rw[C9,e];have e2:a.length+([0]:LB).length=(a++[0]).length:=by simp
 rw[e2,D5]
def qae(t:TM):LB:=if t.kind=3 then escL t.text.data.toList++([0,0]++(t.type.data.toList++([0]++t.lang.data.toList)))else t.text.data.toList
structure ReadsAs(kind:Int)(s:LB)(t:TM):Prop where
 kind:t.kind=kind
 ok:qaj t=0
 entry:qae t=s
theorem q04(h:iriE s=0):∀c∈s.data.toList,c≠0:=by
 rintro c hc rfl;have hr:refE s=0:=by
  by_cases h1:refE s=0
  ·exact h1
  ·rw[iriE,Ad h1]at h;exact h
 unfold refE at hr
 split at hr
 ·cases hr
 split at hr
 ·cases hr
 split at hr
 ·cases hr
 rename_i h3
 exact h3 (Es.2 ⟨0,hc,by simp[barB]⟩)
theorem ReadsAs.plain{s:LB}{t:TM}(h:ReadsAs kind s t)(hk:kind≠3):t.text.data.toList=s/\t.type=⟨#[]⟩/\t.lang=⟨#[]⟩:=by
 have hk':t.kind≠3:=by rw[h.kind];exact hk
 have h1:=h.ok;have h2:=h.entry;rw[qae,Aa hk']at h2;rw[qaj]at h1
 split at h1
 ·split at h1
  ·cases h1
  ·rename_i h3
   refine⟨h2,?_,?_⟩
   ·have:¬seq t.type ⟨#[]⟩=false:=fun e=>h3 (.inl e)
    exact qac.1 (by simpa using this)
   ·have:¬seq t.lang ⟨#[]⟩=false:=fun e=>h3 (.inr e)
    exact qac.1 (by simpa using this)
 ·cases h1
theorem ReadsAs.lit{s:LB}{t:TM}(h:ReadsAs 3 s t):s=escL t.text.data.toList++([0,0]++(t.type.data.toList++([0]++t.lang.data.toList)))/\∀c∈t.type.data.toList,c≠0:=by
 have h1:=h.ok;have h2:=h.entry;rw[qae,Ad h.kind]at h2;refine⟨h2.symm,q04 ?_⟩;rw[qaj,Aa (by rw[h.kind];decide),Ad h.kind,litE]at h1
 split at h1
 ·cases h1
 split at h1
 ·cases h1
 split at h1
 ·rename_i h3;exact absurd h1 h3
 ·rename_i h3;omega
theorem q5c{a b:LB}(h:escL a=escL b):a=b:=by
 rw[<-qlp a,<-qlp b,h]
theorem qc9{a b:E0}(h:a.data.toList=b.data.toList):a=b:=by
 cases a;cases b;simp only[ByteArray.mk.injEq];exact Bf.1 h
theorem ReadsAs.unique{s:LB}{t u:TM}(h:ReadsAs kind s t)(g:ReadsAs kind s u):t=u:=by
 obtain⟨tk,tt,ty,tl⟩:=t;obtain⟨uk,ut,uy,ul⟩:=u;have e1:tk=uk:=h.kind.trans g.kind.symm;subst e1
 by_cases hk:kind=3
 ·subst hk;obtain⟨h1,h2⟩:=h.lit;obtain⟨g1,g2⟩:=g.lit;dsimp only at h1 h2 g1 g2;have hc:=qsr tt.data.toList (ty.data.toList++([0]++tl.data.toList));have gc:=qsr ut.data.toList (uy.data.toList++([0]++ul.data.toList));rw[<-h1,g1,gc]at hc;simp only[Ef,and_true]at hc;obtain⟨q1,q2⟩:=hc;have hz:=qn7 ty.data.toList tl.data.toList h2;rw[<-q2,qn7 uy.data.toList ul.data.toList g2]at hz;simp only[Ef,and_true]at hz;rw[qc9 (q5c q1.symm),qc9 hz.1.symm,qc9 hz.2.symm]
 ·obtain⟨h1,h2,h3⟩:=h.plain hk;obtain⟨g1,g2,g3⟩:=g.plain hk;dsimp only at h1 h2 h3 g1 g2 g3;rw[qc9 (h1.trans g1.symm),h2,h3,g2,g3]
open Classical in
noncomputable def qhu(kind:Int)(s:LB):Option TM:=if h:∃t,ReadsAs kind s t then some h.choose else none
theorem qna{s:LB}{t:TM}(h:ReadsAs kind s t):qhu kind s=some t:=by
 have hx:∃t,ReadsAs kind s t:=⟨t,h⟩
 rw[qhu,dif_pos hx,ReadsAs.unique hx.choose_spec h]
theorem qyq{s:LB}(h:∀t,¬ReadsAs kind s t):qhu kind s=none:=by
 rw[qhu,dif_neg (fun⟨t,ht⟩=>h t ht)]
theorem qtq{s:LB}{t:TM}(h:qhu kind s=some t):ReadsAs kind s t:=by
 unfold qhu at h
 split at h
 ·rename_i hx
  cases h;exact hx.choose_spec
 ·cases h
theorem ReadsAs.size{s:LB}{t:TM}(h:ReadsAs kind s t):t.text.size<=s.length/\t.type.size<=s.length/\t.lang.size<=s.length:=by
 by_cases hk:kind=3
 ·subst hk;obtain⟨h1,_⟩:=h.lit;have:=q9w t.text.data.toList;have e1:t.text.data.toList.length=t.text.size:=rfl;have e2:t.type.data.toList.length=t.type.size:=rfl;have e3:t.lang.data.toList.length=t.lang.size:=rfl;rw[h1];simp only[zla,As,BP];omega
 ·obtain⟨h1,h2,h3⟩:=h.plain hk;rw[<-h1,h2,h3];exact⟨Aq _,Am _,Am _⟩
theorem q6k{s:LB}{t:TM}(h:qhu kind s=some t)(hs:s.length<=262144)(hk:InR .i64 kind):TermOk t:=by
 have hr:=qtq h;obtain⟨h1,h2,h3⟩:=hr.size;exact⟨by rw[hr.kind];exact hk,by omega,by omega,by omega⟩
noncomputable def veF(l:LB)(k:Nat):Nat×Nat:=if(doE (sDict l k)).2=0 then(0,0)else(qo l k+(doE (sDict l k)).1,(doE (sDict l k)).2)
def vrB(l:LB)(k j:Nat):Prop:=∃s,dGet (sDict l k) j=some s/\∀t,¬ReadsAs ((k+1:Nat):Int) s t
open Classical in
noncomputable def vrF(l:LB)(k:Nat):Nat×Nat:=if ∃j,j<dN (sDict l k)/\vrB l k j then(qo l k,170)else(0,0)
noncomputable def vwE(l:LB):Nat×Nat:=if(sE l).2≠0 then sE l else if(errF (veF l) 3).2≠0 then errF (veF l) 3 else errF (vrF l) 3
section
variable {l:LB}
theorem q7c(h:(doE (sDict l k)).2=0):(veF l k).2=0:=by rw[veF,Ad h]
theorem qaen(h:∀j,j<dN (sDict l k)->¬vrB l k j):(vrF l k).2=0:=by rw[vrF,Aa (fun⟨j,h1,h2⟩=>h j h1 h2)]
theorem qaep(h:(sE l).2=0)(h2:∀k,k<3->(doE (sDict l k)).2=0)(h3:∀k,k<3->(vrF l k).2=0):(vwE l).2=0:=by
 have:=qaf (f:=veF l) (n:=3) fun j hj=>q7c (h2 j hj)
 rw[vwE,Aa Oo,Aa Oo];exact qaf h3
end
theorem qbn(s:E0)(a b:Nat):(s.extract a b).data.toList=(s.data.toList.drop a).take (b-a):=by
 simp
theorem q4y(s sep:E0)(w:Ez)(hM:MaxLenAt w)(hs:s.size<=67108864)(h1:1<=sep.size):Gv EG 265 [.string s,.string sep] w fun r w'=>r=ii (Lib.countB s sep)/\w'=w:=by
 obtain⟨m,hm⟩:=hM;exact qhe Jk ((Tryz.strings_Count_any s sep m w Oo hm h1).mono fun e w' ⟨he,hw⟩=>⟨_,he,rfl,hw⟩)
theorem q5m(s sep:E0)(w:Ez)(hM:MaxLenAt w)(hs:s.size<=67108864):Gv EG 267 [.string s,.string sep] w fun r w'=>r=ii (Lib.indexB s sep)/\w'=w:=by
 obtain⟨m,hm⟩:=hM;exact qhe Jk ((Tryz.strings_Index s sep m w Oo hm).mono fun e w' ⟨he,hw⟩=>⟨_,he,rfl,hw⟩)
theorem q7y(s sep:E0)(w:Ez)(hM:MaxLenAt w)(hs:s.size<=67108864):Gv EG 303 [.string s,.string sep] w fun r w'=>
  r=.tuple #[.string ⟨(Lib.cut s.data.toList sep.data.toList).1.toArray⟩,.string ⟨(Lib.cut s.data.toList sep.data.toList).2.1.toArray⟩,.bool (Lib.cut s.data.toList sep.data.toList).2.2]/\Ext w w':=by
 obtain⟨m,hm⟩:=hM;refine qhe Jk ((Tryz.strings_Cut s sep m w Oo hm).mono fun e w' ⟨he,n,hw⟩=>⟨_,he,rfl,?_⟩);subst hw;exact⟨rfl,rfl,rfl,Aq _,fun _ _=>rfl⟩
theorem q93(b n:Nat)(w0 w:Ez)(h:Mem w0 w [(b,.cells #[.pointer none,.slice none 0 0] 358)])(hn:n<=281474976710656):
  Gv EG 266 [pp b,ii n] w fun r w'=>r=.tuple #[]/\Bld w0 w' b [] []:=by
 have ho:=h.own _ mh;refine qhe Jk ((Tryz.Builder_Grow_fresh w0.heap.size b n w ho.1 ho.2 h.ext.size hn).mono fun e w' ⟨he,⟨h1,v,h2,h3,h4⟩,h5⟩=>⟨_,he,rfl,⟨_,v,.inr rfl,⟨⟨Below.trans h.ext h5,?_,by simp⟩,h3,?_⟩⟩⟩)
 ·intro x hx;simp only[AD,Cu,or_false]at hx;subst hx;exact⟨h1,h2⟩
 ·intro x hx;simp only[AD,Cu,or_false]at hx;subst hx;exact h4
theorem qsy(s:E0):s.extract 0 s.size=s:=qc9 (by rw[qbn];simp;exact AF znr)
theorem qtv(s old new:E0)(w:Ez)(hM:MaxLenAt w)(hne:seq old new=false)(hs:s.size<=67108864)(ho:(old.size=1/\new.size=2)\/(old.size=2/\new.size=1)):
  Gv EG 211 [.string s,.string old,.string new,ii (-1)] w fun r w'=>r=.string ⟨(Lib.replaceAll s.data.toList old.data.toList new.data.toList).toArray⟩/\Ext w w':=by
 have h1:1<=old.size:=by omega
 have hoe:(old.data.toList==new.data.toList)=false:=by
  rw[Cm];intro e;have:old=new:=qc9 e;rw[qac.2 this]at hne;cases hne
 have hon:old.data.toList≠[]:=by
  intro e;have:old.data.toList.length=0:=by rw[e];rfl
  have h2:old.data.toList.length=old.size:=rfl;omega
 refine ze Tryz.func211 Tryz.ntmps211 ?_;rw[hne];refine zv ?_;refine zcv (q4y s old w hM hs h1) ?_;rintro v w' ⟨rfl,rfl⟩;(conv=>whnf);have hKo:=Lib.countB_mul_le old h1 s.size s znr;obtain⟨K,eK⟩:∃K,K=Lib.countB s old:=⟨_,rfl⟩
 rw[<-eK]at hKo|-
 by_cases hK:K=0
 ·have hr:Lib.replaceAll s.data.toList old.data.toList new.data.toList=s.data.toList:=by
   rcases Lib.indexB_cases s old with hix|⟨i,hix,_⟩
   ·exact qf4 hoe hix
   ·have:=Lib.countB_hit s old i h1 hix;omega
  refine zv ?_;exact⟨by rw[hr],xr⟩
 refine zv ?_;refine znm (Mem.nil w') fun b w1 hm=>zw ?_;have hK1:K<=s.size:=AU (Nat.le_mul_of_pos_right K h1) hKo;obtain⟨d,hd,hd1,hd2⟩:∃d:Int,(K:Int)*((new.size:Int)-(old.size:Int))=d/\-(K:Int)<=d/\d<=K:=by
  rcases ho with⟨h1,h2⟩|⟨h1,h2⟩
  ·exact⟨K,by rw[h1,h2];omega,by omega,by omega⟩
  ·exact⟨-K,by rw[h1,h2];omega,by omega,by omega⟩
 refine Obl.mk ⟨by omega,by omega⟩ (zw ?_);rw[hd];refine Obl.mk ⟨by omega,by omega⟩ (zw ?_);refine Obl.mk ⟨by omega,by omega⟩ (zw ?_);obtain⟨M,eM⟩:∃M:Nat,(s.size:Int)+d=M:=⟨((s.size:Int)+d).toNat,by omega⟩
 rw[eM];refine zcv (q93 b M w' w1 hm Oo) ?_;rintro r w2 ⟨rfl,hB⟩;refine zu ?_;refine qj (fun x:Nat×Nat×LB=>[(0,.string s),(1,.string old),(2,.string new),(10,pp b),(11,ii x.2.1),(52,ii K),(53,ii x.1)])
  (fun x w''=>x.1<=K/\x.2.1<=s.size/\x.1+Lib.countB (s.extract x.2.1 s.size) old=K/\x.2.2++Lib.replaceAll (s.data.toList.drop x.2.1) old.data.toList new.data.toList=Lib.replaceAll s.data.toList old.data.toList new.data.toList/\x.2.2.length<=2*x.2.1/\Bld w' w'' b x.2.2 []) (fun x=>K-x.1) (0,0,[])
  fq ⟨by simp,by simp,by rw[qsy,<-eK];omega,by simp,by simp,hB⟩ ?_
 clear hB;rintro⟨j,p,l⟩ w3 ρ' ⟨hj,hp,hc,hr,hl,hB⟩;dsimp only at hj hp hc hr hl hB|-;have hrl:(s.extract p s.size).data.toList=s.data.toList.drop p:=by
  rw[qbn,AF];have:s.data.toList.length=s.size:=rfl;simp only[zld];omega
 obtain⟨r,er⟩:∃r,r=s.extract p s.size:=⟨_,rfl⟩
 have hrs:r.size=s.size-p:=by
  have e1:r.size=r.data.toList.length:=rfl;have e2:s.data.toList.length=s.size:=rfl;rw[e1,er,hrl,zld,e2]
 rw[<-er]at hc hrl;(conv=>whnf);refine zC (fun _=>zw ?_) (fun _=>zw ?_)
 ·refine SliceS.at_ p s.size rfl rfl hp znr ?_;rw[<-er];(conv=>whnf);refine zcv (q5m r old w3 (hM.ext hB.ext) Oo) ?_;rintro v w4 ⟨rfl,rfl⟩
  rcases Lib.indexB_cases r old with hix|⟨i,hix,hio⟩
  ·have:=Lib.countB_miss r old hix;omega
  rw[hix];have hhit:=Lib.countB_hit r old i h1 hix;have hrx:r.extract (i+old.size) r.size=s.extract (p+i+old.size) s.size:=by
   refine qc9 ?_;rw[qbn,qbn,hrl,AM,show p+(i+old.size)=p+i+old.size by omega,show r.size-(i+old.size)=s.size-(p+i+old.size)by omega]
  rw[hrx]at hhit;have hrep:=qhw hoe hon (s:=s.data.toList.drop p) (i:=i) (by rw[<-hrl];exact hix);refine zu ?_;refine SliceS.at_ p (p+i) rfl (by show _=_;omega) Oo Oo (zw ?_);refine zcv (qdi b l (s.extract p (p+i)) w' w4 [] hB (fun x hx=>by cases hx) (by simp;omega)) ?_;rintro v w5 ⟨rfl,hB⟩;have hwl:(s.extract p (p+i)).data.toList.length=i:=by
   have:s.data.toList.length=s.size:=rfl;rw[qbn,AG,zld];omega
  (conv=>whnf);refine zcv (qdi b (l++(s.extract p (p+i)).data.toList) new w' w5 [] hB (fun x hx=>by cases hx) (by rw[zla];omega)) ?_;rintro v w6 ⟨rfl,hB⟩;refine zu ?_;have hnl:new.data.toList.length=new.size:=rfl;refine⟨(j+1,p+i+old.size,l++(s.extract p (p+i)).data.toList++new.data.toList),⟨rfl,rfl,rfl,rfl,by show ii _=ii _;congr 1,rfl,rfl,trivial⟩,⟨by simp only;omega,by simp only;omega,by simp only;omega,?_,by simp only[zla];omega,hB⟩,by simp only;omega⟩;rw[<-hr,hrep,qbn,show p+i-p=i by omega,AM,show p+(i+old.data.toList.length)=p+i+old.size from by show p+(i+old.size)=_;omega];simp
 ·obtain rfl:j=K:=by omega
  have hix:Lib.indexB r old=-1:=by
   rcases Lib.indexB_cases r old with hix|⟨i,hix,hio⟩
   ·exact hix
   ·have:=Lib.countB_hit r old i h1 hix;omega
  have hrep:=qf4 hoe (s:=s.data.toList.drop p) (by rw[<-hrl];exact hix);refine SliceS.at_ p s.size rfl rfl hp znr ?_;rw[<-er];(conv=>whnf);refine zcv (qdi b l r w' w3 [] hB (fun x hx=>by cases hx) Oo) ?_;rintro v w4 ⟨rfl,hB⟩;(conv=>whnf);refine zcv (qic b (l++r.data.toList) w' w4 [] hB) ?_;rintro v w5 ⟨rfl,he⟩;(conv=>whnf);exact⟨by rw[<-hr,hrep,hrl],he⟩
theorem qgk(s old new:E0)(w:Ez)(hM:MaxLenAt w)(hne:seq old new=false)(hs:s.size<=67108864)(ho:(old.size=1/\new.size=2)\/(old.size=2/\new.size=1)):
  Gv EG 150 [.string s,.string old,.string new] w fun r w'=>r=.string ⟨(Lib.replaceAll s.data.toList old.data.toList new.data.toList).toArray⟩/\Ext w w':=by
 refine ze Tryz.func150 Tryz.ntmps150 ?_;refine zcv (qtv s old new w hM hne hs ho) ?_;rintro v w' ⟨rfl,he⟩;(conv=>whnf);exact⟨rfl,he⟩
theorem qf9(t:TM)(ht:TermOk t)(w:Ez)(hM:MaxLenAt w)(hT:CellsAt w 6 0 qbz):
  Gv EG 97 [qa8 t] w fun r w'=>r=(if qaj t=0 then .tuple #[.string ⟨(qae t).toArray⟩,ii 0]else .tuple #[.string ⟨#[]⟩,ii (qaj t)])/\Ext w w':=by
 refine ze Tryz.func97 Tryz.ntmps97 ?_;refine znm (Mem.nil w) ?_;intro tb w1 hm;have hm:Mem w w1 [(tb,.cells #[ii t.kind,.string t.text,.string t.type,.string t.lang] 24)]:=hm;(conv=>whnf);refine zl hm 0 ?_;refine zcv (qh4 t ht w1 (hM.ext hm.ext) (hT.ext hm.ext)) ?_;rintro r w2 ⟨rfl,he2⟩;have hm:=hm.call he2;obtain⟨e,ee⟩:∃e,e=qaj t:=⟨_,rfl⟩
 rw[<-ee];conv=>whnf
 (repeat'(first|refine zC (fun _=>zw ?_) (fun _=>zw ?_)|refine LoadV.mem (i:=0) Oa rfl rfl (zw ?_)))
 ·rw[Aa Oo];exact⟨rfl,hm.ext⟩
 ·have h1:qae t=t.text.data.toList:=by rw[qae,Aa Oa]
  rw[Ad Oo,h1];exact⟨rfl,hm.ext⟩
 rw[Ad Oo];have hk3:t.kind=3:=by omega
 have htx:t.text.size<=65536:=by
  have hz:qaj t=0:=by omega
  rw[qaj,Aa Oo,Ad hk3,litE]at hz
  by_cases h:65536<t.text.size
  ·rw[Ad h]at hz;cases hz
  ·omega
 have hty:=ht.type;have htl:=ht.lang;obtain⟨R,eR,hRl⟩:∃R:E0,R=⟨(Lib.replaceAll t.text.data.toList [0] [0,1]).toArray⟩/\R.data.toList=escL t.text.data.toList:=⟨_,rfl,qabp _⟩
 have hRs:R.size<=2*t.text.size:=by
  have h1:R.size=R.data.toList.length:=rfl;have h2:=qvu t.text.data.toList;rw[h1,hRl];exact h2
 have hz2:(⟨#[0,0]⟩:E0).size=2:=rfl;have hz1:(⟨#[0]⟩:E0).size=1:=rfl;refine DrawV.free Jk Jk (zw ?_);refine zd ?_;refine zf ?_ (by intro wd hd;(conv=>whnf);refine LoadV.mem (Mem.call (Mem.drew hm) hd) (i:=0) rfl rfl ?_;(conv=>whnf);exact xq);refine zsd (.string R) (fun wd hd=>zw ?_) (zw ?_)
 ·refine zcv (qgk t.text ⟨#[0]⟩ ⟨#[0,1]⟩ wd (hM.ext (hm.drew.call hd).ext) rfl Oo (.inl ⟨rfl,rfl⟩)) ?_;rintro r w5 ⟨rfl,he⟩;exact⟨he,by rw[eR]⟩
 apply zsd
 ·intro wd hd;(conv=>whnf);refine Obl.mk (by rw[hz2];omega) (zw ?_);exact xq
 (conv=>whnf);refine zd ?_;refine zf ?_ (by intro wd hd;(conv=>whnf);refine LoadV.mem (Mem.call (Mem.drew hm) hd) (i:=0) rfl rfl ?_;(conv=>whnf);exact xq);apply zsd
 ·intro wd hd;(conv=>whnf);refine Obl.mk (by simp only[DD];rw[hz2];omega) (zw ?_);exact xq
 (conv=>whnf);apply zsd
 ·intro wd hd;(conv=>whnf);refine Obl.mk (by simp only[DD];rw[hz2,hz1];omega) (zw ?_);exact xq
 (conv=>whnf);refine zd ?_;refine zf ?_ (by intro wd hd;(conv=>whnf);refine LoadV.mem (Mem.call (Mem.drew hm) hd) (i:=0) rfl rfl ?_;(conv=>whnf);exact xq);apply zsd
 ·intro wd hd;(conv=>whnf);refine Obl.mk (by simp only[DD];rw[hz2,hz1];omega) (zw ?_);exact xq
 (conv=>whnf);refine zd ?_;refine zd ?_;intro w3 he3;(conv=>whnf);refine⟨?_,(hm.drew.call he3).ext⟩;have:R++⟨#[0,0]⟩++t.type++⟨#[0]⟩++t.lang=⟨(qae t).toArray⟩:=qc9 (by simp[qae,hk3,hRl]);rw[this]
noncomputable def qdq(kind:Int)(s:LB):E8:=
 match qhu kind s with
 | some t=>.tuple #[qa8 t,.int .i64 0]
 | none=>.tuple #[.agg #[.int .i64 0,.string ⟨#[]⟩,.string ⟨#[]⟩,.string ⟨#[]⟩],.int .i64 170]
theorem qg2{s:LB}{t:TM}(h:ReadsAs kind s t):qdq kind s=.tuple #[qa8 t,ii 0]:=by rw[qdq,qna h]
theorem qb7{s:LB}(h:∀t,¬ReadsAs kind s t):qdq kind s=.tuple #[.agg #[ii 0,.string ⟨#[]⟩,.string ⟨#[]⟩,.string ⟨#[]⟩],ii 170]:=by rw[qdq,qyq h]
theorem qz3(s sep:LB):(Lib.cut s sep).1.length<=s.length/\(Lib.cut s sep).2.1.length<=s.length:=by
 unfold Lib.cut
 split<;>simp<;>exact Nat.min_le_right _ _
theorem qabq:∀(l:LB),(Lib.replaceAll l [0,1] [0]).length<=l.length:=by
 intro l
 induction h:l.length using Nat.strongRecOn generalizing l with
 | _ n ih=>
  by_cases hm:Lib.index l [0,1]=-1
  ·rw[qf4 Od hm];omega
  ·obtain⟨i,hi⟩:∃i:Nat,Lib.index l [0,1]=i:=⟨(Lib.index l [0,1]).toNat,by have:=Lib.index_ge l [0,1];omega⟩
   have hroom:i+2<=l.length:=by
    rcases Lib.indexB_cases ⟨l.toArray⟩ ⟨#[0,1]⟩with h1|⟨j,h1,h2⟩
    ·exact absurd h1 hm
    ·have h3:(Lib.index l [0,1])=j:=h1;have h4:j+2<=l.length:=h2;omega
   rw[qhw Od Js hi,show i+([0,1]:LB).length=i+2 from rfl];have:=ih (l.drop (i+2)).length (by rw[zld];omega) (l.drop (i+2)) rfl;simp only[zla,AG,As,BP,zld]at this|-;omega
theorem q31(kind:Int)(hk:kind=1\/kind=2\/kind=3)(s:E0)(hs:s.size<=262144)(w:Ez)(hM:MaxLenAt w)(hT:CellsAt w 6 0 qbz):
  Gv EG 262 [ii kind,.string s] w fun r w'=>r=qdq kind s.data.toList/\Ext w w':=by
 rcases hk with rfl|rfl|rfl
 all_goals
  refine ze Tryz.func262 Tryz.ntmps262 ?_;refine znm (Mem.nil w) fun r4 w1 hm=>zw ?_;refine znm hm fun tb w2 hm=>zw ?_;refine zS hm 0 fun w3 hm=>zu ?_
 ·obtain⟨t,et⟩:∃t:TM,t=⟨1,s,⟨#[]⟩,⟨#[]⟩⟩:=⟨_,rfl⟩
  have hkind:t.kind=1:=by rw[et]
  have ht:TermOk t:=by rw[et];exact⟨(show InR .i64 1 from⟨by decide,by decide⟩),by show s.size<=_;omega,Am _,Am _⟩
  have hm:Mem w w3 [(tb,.cells #[ii t.kind,.string t.text,.string t.type,.string t.lang] 24),(r4,.cells #[ii 0,.string ⟨#[]⟩,.string ⟨#[]⟩,.string ⟨#[]⟩] 24)]:=by rw[et];exact hm
  have huniq:∀u,ReadsAs 1 s.data.toList u->u=t:=fun u hu=>by
   obtain⟨h1,h2,h3⟩:=hu.plain Od;have h4:=hu.kind;rw[et];obtain⟨uk,ux,uy,ul⟩:=u;dsimp only at h1 h2 h3 h4;rw[h2,h3,h4,qc9 h1]
  clear et;refine zl hm 0 ?_;refine zcv (qf9 t ht _ (hM.ext hm.ext) (hT.ext hm.ext)) ?_;rintro r w5 ⟨rfl,he⟩;have hm:=hm.call he
  by_cases hE:qaj t=0
  ·rw[Ad hE];cases hq:seq ⟨(qae t).toArray⟩ s
   ·have hv:qdq 1 s.data.toList=.tuple #[.agg #[ii 0,.string ⟨#[]⟩,.string ⟨#[]⟩,.string ⟨#[]⟩],ii 170]:=qb7 fun u hu=>by
     have e:=huniq u hu;subst e;have:(⟨(qae u).toArray⟩:E0)=s:=qc9 hu.entry;rw[qac.2 this]at hq;cases hq
    rw[hv];refine zu ?_;rw[hq];refine zu ?_;refine zS hm 1 fun w6 hm=>zw ?_;refine qh (R:=fun v w'=>v=.tuple #[.agg #[ii 0,.string ⟨#[]⟩,.string ⟨#[]⟩,.string ⟨#[]⟩],ii 170]/\Ext w w') (zw ?_);refine zl hm 1 ?_;exact⟨rfl,hm.ext⟩
   ·have hr:ReadsAs 1 s.data.toList t:=⟨hkind,hE,Af (fun b:E0=>b.data.toList) (qac.1 hq)⟩
    rw[qg2 hr];refine zu ?_;rw[hq];refine zu ?_;refine zl hm 0 ?_;refine zS hm 1 fun w6 hm=>zw ?_;refine qh (R:=fun v w'=>v=.tuple #[qa8 t,ii 0]/\Ext w w') (zw ?_);refine zl hm 1 ?_;exact⟨rfl,hm.ext⟩
  ·rw[Aa hE];have hv:qdq 1 s.data.toList=.tuple #[.agg #[ii 0,.string ⟨#[]⟩,.string ⟨#[]⟩,.string ⟨#[]⟩],ii 170]:=qb7 fun u hu=>hE (huniq u hu ▸ hu.ok)
   rw[hv];refine zu ?_;refine zS hm 1 fun w6 hm=>zw ?_;refine qh (R:=fun v w'=>v=.tuple #[.agg #[ii 0,.string ⟨#[]⟩,.string ⟨#[]⟩,.string ⟨#[]⟩],ii 170]/\Ext w w') (zw ?_);refine zl hm 1 ?_;exact⟨rfl,hm.ext⟩
 ·obtain⟨t,et⟩:∃t:TM,t=⟨2,s,⟨#[]⟩,⟨#[]⟩⟩:=⟨_,rfl⟩
  have hkind:t.kind=2:=by rw[et]
  have ht:TermOk t:=by rw[et];exact⟨(show InR .i64 2 from⟨by decide,by decide⟩),by show s.size<=_;omega,Am _,Am _⟩
  have hm:Mem w w3 [(tb,.cells #[ii t.kind,.string t.text,.string t.type,.string t.lang] 24),(r4,.cells #[ii 0,.string ⟨#[]⟩,.string ⟨#[]⟩,.string ⟨#[]⟩] 24)]:=by rw[et];exact hm
  have huniq:∀u,ReadsAs 2 s.data.toList u->u=t:=fun u hu=>by
   obtain⟨h1,h2,h3⟩:=hu.plain Od;have h4:=hu.kind;rw[et];obtain⟨uk,ux,uy,ul⟩:=u;dsimp only at h1 h2 h3 h4;rw[h2,h3,h4,qc9 h1]
  clear et;refine zl hm 0 ?_;refine zcv (qf9 t ht _ (hM.ext hm.ext) (hT.ext hm.ext)) ?_;rintro r w5 ⟨rfl,he⟩;have hm:=hm.call he
  by_cases hE:qaj t=0
  ·rw[Ad hE];cases hq:seq ⟨(qae t).toArray⟩ s
   ·have hv:qdq 2 s.data.toList=.tuple #[.agg #[ii 0,.string ⟨#[]⟩,.string ⟨#[]⟩,.string ⟨#[]⟩],ii 170]:=qb7 fun u hu=>by
     have e:=huniq u hu;subst e;have:(⟨(qae u).toArray⟩:E0)=s:=qc9 hu.entry;rw[qac.2 this]at hq;cases hq
    rw[hv];refine zu ?_;rw[hq];refine zu ?_;refine zS hm 1 fun w6 hm=>zw ?_;refine qh (R:=fun v w'=>v=.tuple #[.agg #[ii 0,.string ⟨#[]⟩,.string ⟨#[]⟩,.string ⟨#[]⟩],ii 170]/\Ext w w') (zw ?_);refine zl hm 1 ?_;exact⟨rfl,hm.ext⟩
   ·have hr:ReadsAs 2 s.data.toList t:=⟨hkind,hE,Af (fun b:E0=>b.data.toList) (qac.1 hq)⟩
    rw[qg2 hr];refine zu ?_;rw[hq];refine zu ?_;refine zl hm 0 ?_;refine zS hm 1 fun w6 hm=>zw ?_;refine qh (R:=fun v w'=>v=.tuple #[qa8 t,ii 0]/\Ext w w') (zw ?_);refine zl hm 1 ?_;exact⟨rfl,hm.ext⟩
  ·rw[Aa hE];have hv:qdq 2 s.data.toList=.tuple #[.agg #[ii 0,.string ⟨#[]⟩,.string ⟨#[]⟩,.string ⟨#[]⟩],ii 170]:=qb7 fun u hu=>hE (huniq u hu ▸ hu.ok)
   rw[hv];refine zu ?_;refine zS hm 1 fun w6 hm=>zw ?_;refine qh (R:=fun v w'=>v=.tuple #[.agg #[ii 0,.string ⟨#[]⟩,.string ⟨#[]⟩,.string ⟨#[]⟩],ii 170]/\Ext w w') (zw ?_);refine zl hm 1 ?_;exact⟨rfl,hm.ext⟩
 ·have hcs:=fun w' hM'=>q7y s ⟨#[0,0]⟩ w' hM' Oo
  obtain⟨tx,rs,ok,ec⟩:∃tx rs ok,Lib.cut s.data.toList [0,0]=(tx,rs,ok):=⟨_,_,_,rfl⟩
  obtain⟨ty,la,fi,ed⟩:∃ty la fi,Lib.cut rs [0]=(ty,la,fi):=⟨_,_,_,rfl⟩
  have hls:s.data.toList.length=s.size:=rfl;have hl1:=qz3 s.data.toList [0,0];rw[ec]at hl1;dsimp only at hl1;have hl2:=qz3 rs [0];rw[ed]at hl2;dsimp only at hl2;refine zcv (hcs w3 (hM.ext hm.ext)) ?_;rintro r w4 ⟨rfl,he4⟩;have hm:=hm.call he4;have ec':Lib.cut s.data.toList (⟨#[0,0]⟩:E0).data.toList=(tx,rs,ok):=ec;rw[ec'];(conv=>whnf);refine zcv (q7y ⟨rs.toArray⟩ ⟨#[0]⟩ w4 (hM.ext hm.ext) (by show rs.length<=_;omega)) ?_;rintro r w5 ⟨rfl,he5⟩;have hm:=hm.call he5;have ed':Lib.cut (⟨rs.toArray⟩:E0).data.toList (⟨#[0]⟩:E0).data.toList=(ty,la,fi):=ed;rw[ed'];have hgood:∀u,ReadsAs 3 s.data.toList u->tx=escL u.text.data.toList/\ty=u.type.data.toList/\la=u.lang.data.toList/\ok=true/\fi=true:=fun u hu=>by
   obtain⟨h1,h2⟩:=hu.lit;have h3:=qsr u.text.data.toList (u.type.data.toList++([0]++u.lang.data.toList));rw[<-h1,ec]at h3;cases h3;have h4:=qn7 u.type.data.toList u.lang.data.toList h2;rw[ed]at h4;cases h4;exact⟨rfl,rfl,rfl,rfl,rfl⟩
  by_cases hok:ok=true/\fi=true
  ·obtain⟨rfl,rfl⟩:=hok;obtain⟨t,et⟩:∃t:TM,t=⟨3,⟨(Lib.replaceAll tx [0,1] [0]).toArray⟩,⟨ty.toArray⟩,⟨la.toArray⟩⟩:=⟨_,rfl⟩
   have hkind:t.kind=3:=by rw[et]
   have hrl:=qabq tx;have ht:TermOk t:=by
    rw[et];refine⟨(show InR .i64 3 from⟨by decide,by decide⟩),?_,?_,?_⟩
    ·show(Lib.replaceAll tx [0,1] [0]).length<=_;omega
    ·show ty.length<=_;omega
    ·show la.length<=_;omega
   have huniq:∀u,ReadsAs 3 s.data.toList u->u=t:=fun u hu=>by
    obtain⟨h1,h2,h3,_,_⟩:=hgood u hu;have h4:=hu.kind;rw[et];obtain⟨uk,ux,uy,ul⟩:=u;dsimp only at h1 h2 h3 h4;rw[h4,h1,qlp,h2,h3]
   refine zu ?_;refine zcv (qgk ⟨tx.toArray⟩ ⟨#[0,1]⟩ ⟨#[0]⟩ w5 (hM.ext hm.ext) rfl (by show tx.length<=_;omega) (.inr ⟨rfl,rfl⟩)) ?_;rintro r w6 ⟨rfl,he6⟩;have hm:=hm.call he6;(conv=>whnf);refine StoreV.mem hm (i:=0) rfl (by first|(show 1<4;decide)|simp) rfl fun w7 hm=>zw ?_;refine StoreV.mem hm (i:=0) rfl (by first|(show 2<4;decide)|simp) rfl fun w8 hm=>zw ?_;refine StoreV.mem hm (i:=0) rfl (by first|(show 3<4;decide)|simp) rfl ?_;intro w9 hm;have hm:Mem w w9 [(tb,.cells #[ii t.kind,.string t.text,.string t.type,.string t.lang] 24),(r4,.cells #[ii 0,.string ⟨#[]⟩,.string ⟨#[]⟩,.string ⟨#[]⟩] 24)]:=by rw[et];exact hm
   clear et;(conv=>whnf);refine zl hm 0 ?_;refine zcv (qf9 t ht _ (hM.ext hm.ext) (hT.ext hm.ext)) ?_;rintro r w5 ⟨rfl,he⟩;have hm:=hm.call he
   by_cases hE:qaj t=0
   ·rw[Ad hE];cases hq:seq ⟨(qae t).toArray⟩ s
    ·have hv:qdq 3 s.data.toList=.tuple #[.agg #[ii 0,.string ⟨#[]⟩,.string ⟨#[]⟩,.string ⟨#[]⟩],ii 170]:=qb7 fun u hu=>by
      have e:=huniq u hu;subst e;have:(⟨(qae u).toArray⟩:E0)=s:=qc9 hu.entry;rw[qac.2 this]at hq;cases hq
     rw[hv];refine zu ?_;rw[hq];refine zu ?_;refine zS hm 1 fun w6 hm=>zw ?_;refine qh (R:=fun v w'=>v=.tuple #[.agg #[ii 0,.string ⟨#[]⟩,.string ⟨#[]⟩,.string ⟨#[]⟩],ii 170]/\Ext w w') (zw ?_);refine zl hm 1 ?_;exact⟨rfl,hm.ext⟩
    ·have hr:ReadsAs 3 s.data.toList t:=⟨hkind,hE,Af (fun b:E0=>b.data.toList) (qac.1 hq)⟩
     rw[qg2 hr];refine zu ?_;rw[hq];refine zu ?_;refine zl hm 0 ?_;refine zS hm 1 fun w6 hm=>zw ?_;refine qh (R:=fun v w'=>v=.tuple #[qa8 t,ii 0]/\Ext w w') (zw ?_);refine zl hm 1 ?_;exact⟨rfl,hm.ext⟩
   ·rw[Aa hE];have hv:qdq 3 s.data.toList=.tuple #[.agg #[ii 0,.string ⟨#[]⟩,.string ⟨#[]⟩,.string ⟨#[]⟩],ii 170]:=qb7 fun u hu=>hE (huniq u hu ▸ hu.ok)
    rw[hv];refine zu ?_;refine zS hm 1 fun w6 hm=>zw ?_;refine qh (R:=fun v w'=>v=.tuple #[.agg #[ii 0,.string ⟨#[]⟩,.string ⟨#[]⟩,.string ⟨#[]⟩],ii 170]/\Ext w w') (zw ?_);refine zl hm 1 ?_;exact⟨rfl,hm.ext⟩
  ·have hv:qdq 3 s.data.toList=.tuple #[.agg #[ii 0,.string ⟨#[]⟩,.string ⟨#[]⟩,.string ⟨#[]⟩],ii 170]:=qb7 fun u hu=>hok ⟨(hgood u hu).2.2.2.1,(hgood u hu).2.2.2.2⟩
   rw[hv];have hcase:ok=false\/(ok=true/\fi=false):=by
    cases ok
    ·exact .inl rfl
    ·cases fi
     ·exact .inr ⟨rfl,rfl⟩
     ·exact absurd ⟨rfl,rfl⟩ hok
   rcases hcase with rfl|⟨rfl,rfl⟩
   all_goals
    refine zu ?_;refine zS hm 1 fun w6 hm=>zw ?_;refine qh (R:=fun v w'=>v=.tuple #[.agg #[ii 0,.string ⟨#[]⟩,.string ⟨#[]⟩,.string ⟨#[]⟩],ii 170]/\Ext w w') (zw ?_);refine zl hm 1 ?_;exact⟨rfl,hm.ext⟩
open Go.RowKit Go.Extern.Stop Go.Stop Go.Extern
theorem qacv(t:E8)(w:Ez):
  Calls Tryz.prog 157 #[.nilIface,t] w fun e w'=>e=.returned (.bool false)/\w'=w:=by
 go_enter Tryz.func157,Tryz.ntmps157
 go_wp2
 go_ret
 exact⟨rfl,rfl⟩
theorem qpj(t:Addr)(w:Ez):(ReflectliteValue.unpack (.iface 257 (.pointer (some t)))).run Tryz.prog w
  = .ok (.agg #[.pointer (some ⟨7,257,none⟩),.pointer (some ⟨w.heap.size,0,none⟩),.int .u64 150]) (w.alloc (.cells #[.pointer (some t)] 257)):=by kernel_rfl
theorem qyn(a:Addr)(w:Ez):(ReflectliteValue.methodAny (ReflectliteValue.valueError "reflectlite.Value.Type" 0) (fun t _ _ _=>ReflectliteType.toType t) #[.agg #[.pointer (some ⟨7,257,none⟩),.pointer (some a),.int .u64 150]]).run Tryz.prog w
  = .ok (.iface 365 (.agg #[.pointer (some ⟨7,257,none⟩)])) w:=by kernel_rfl
theorem qmf(h:E8)(w:Ez):(Go.method 553 365 (.agg #[h]) "Kind").run Tryz.prog w=.ok (358,h) w:=by kernel_rfl
theorem qym(w:Ez):((ReflectliteType.abiMethod fun t=>(fun a:Nat=>Value.int IntKind.u8 (a:Int)) <$> Rtype.kind t) #[.pointer (some ⟨7,257,none⟩)]).run Tryz.prog w=.ok (.int .u8 22) w:=by kernel_rfl
theorem qyl(w:Ez):((ReflectliteType.abiMethod fun t=>(fun a:Nat=>Value.int IntKind.u8 (a:Int)) <$> Rtype.kind t) #[.pointer (some ⟨7,255,none⟩)]).run Tryz.prog w=.ok (.int .u8 22) w:=by kernel_rfl
theorem rlm(z:Sem E8)(f:E6->Addr->Nat->Nat->Sem E8)(v:E8):
  ReflectliteValue.method z f #[v]=(do match <-ReflectliteValue.parts v with|none=>z|some (t,a,fl)=>f t a fl (fl%32)):=rfl
theorem qll(a:Addr)(w:Ez):(ReflectliteValue.parts (.agg #[.pointer (some ⟨7,257,none⟩),.pointer (some a),.int .u64 150])).run EG w=.ok (some (257,a,150)) w:=by kernel_rfl
theorem qtn(a p:Addr)(W:Ez)(ha:W.cell? a=some (.pointer (some p))):
  (ReflectliteValue.method (ReflectliteValue.valueError "reflectlite.Value.IsNil" 0) ReflectliteValue.isNil #[.agg #[.pointer (some ⟨7,257,none⟩),.pointer (some a),.int .u64 150]]).run Tryz.prog W=.ok (.bool false) W:=by
 rw[rlm];simp only[Sem.run_bind,qll,Result.andThen];simp[ReflectliteValue.isNil,loadVar,isAgg,underlying,Tryz.underlying257,ha,Result.andThen]
theorem qme(h:E8)(w:Ez):(Go.method 553 365 (.agg #[h]) "Elem").run Tryz.prog w=.ok (374,.agg #[h]) w:=by kernel_rfl
theorem qgd(h:E8)(w:Ez):(Go.method 553 365 (.agg #[h]) "Implements").run Tryz.prog w=.ok (375,.agg #[h]) w:=by kernel_rfl
theorem qe1(h:E8)(w:Ez):(Go.method 553 365 (.agg #[h]) "AssignableTo").run Tryz.prog w=.ok (372,.agg #[h]) w:=by kernel_rfl
theorem qyk(w:Ez):(ReflectliteType.method ReflectliteType.elem #[.agg #[.pointer (some ⟨7,257,none⟩)]]).run Tryz.prog w=.ok (.iface 365 (.agg #[.pointer (some ⟨7,255,none⟩)])) w:=by kernel_rfl
theorem qj1(w:Ez):(ReflectliteType.relation "Implements" ReflectliteType.implements_ #[.agg #[.pointer (some ⟨7,255,none⟩)],.iface 365 (.agg #[.pointer (some ⟨7,74,none⟩)])]).run Tryz.prog w=.ok (.bool true) w:=by kernel_rfl
theorem qrt(v:E8)(w:Ez):(ReflectliteType.typeOf #[.iface 255 v]).run Tryz.prog w=.ok (.iface 365 (.agg #[.pointer (some ⟨7,255,none⟩)])) w:=by kernel_rfl
theorem qj0(w:Ez):(ReflectliteType.relation "AssignableTo" ReflectliteType.assignableTo #[.agg #[.pointer (some ⟨7,255,none⟩)],.iface 365 (.agg #[.pointer (some ⟨7,255,none⟩)])]).run Tryz.prog w=.ok (.bool true) w:=by kernel_rfl
theorem qpi(e:Addr)(w:Ez):(ReflectliteValue.unpack (.iface 255 (.pointer (some e)))).run Tryz.prog w
  = .ok (.agg #[.pointer (some ⟨7,255,none⟩),.pointer (some ⟨w.heap.size,0,none⟩),.int .u64 150]) (w.alloc (.cells #[.pointer (some e)] 255)):=by kernel_rfl
theorem qrr(w:Ez):(Rtype.elem? 257).run EG w=.ok (some 255) w:=by kernel_rfl
theorem q6i(p:Addr)(w:Ez):(ReflectliteValue.mk 255 p ReflectliteValue.flagAddr).run EG w=.ok (.agg #[.pointer (some ⟨7,255,none⟩),.pointer (some p),.int .u64 406]) w:=by kernel_rfl
theorem qtm(a p:Addr)(W:Ez)(ha:W.cell? a=some (.pointer (some p))):
  (ReflectliteValue.method (ReflectliteValue.valueError "reflectlite.Value.Elem" 0) ReflectliteValue.elem #[.agg #[.pointer (some ⟨7,257,none⟩),.pointer (some a),.int .u64 150]]).run Tryz.prog W
   = .ok (.agg #[.pointer (some ⟨7,255,none⟩),.pointer (some p),.int .u64 406]) W:=by
 rw[rlm];simp only[Sem.run_bind,qll,Result.andThen];simp[ReflectliteValue.elem,loadVar,isAgg,underlying,Tryz.underlying257,ha,Result.andThen,qrr,q6i]
theorem rls(v x:E8):ReflectliteValue.set #[v,x]=(do
  let(some (dst,a,fl),some (src,b,_)):=(<-ReflectliteValue.parts v,<-ReflectliteValue.parts x)
   | unsupported (.noEntry "extern/(internal/reflectlite.Value).Set.zeroValue")
  if fl/ReflectliteValue.flagAddr%2==0 then unsupported (.noEntry "extern/(internal/reflectlite.Value).Set.unaddressable")
  let val <-loadVar src b
  if <-Rtype.directlyAssignable dst src then storeVar dst a val
  else if <-Rtype.implements dst src then
   if(<-Rtype.kind src)==20 then
    match val with
    | .nilIface=>unsupported (.noEntry "extern/reflectlite: a nil value of one interface type handed on as a value of another")
    | _=>storeVar dst a val
   else storeVar dst a (.iface src val)
  else panicString ("reflectlite.Set: value of type "++(<-Rtype.spelt src)++ " is not assignable to type "++(<-Rtype.spelt dst))
  pure (.tuple #[])):=rfl
theorem qrs(a:Addr)(w:Ez):(ReflectliteValue.parts (.agg #[.pointer (some ⟨7,255,none⟩),.pointer (some a),.int .u64 406])).run EG w=.ok (some (255,a,406)) w:=by kernel_rfl
theorem qto(a:Addr)(w:Ez):(ReflectliteValue.parts (.agg #[.pointer (some ⟨7,255,none⟩),.pointer (some a),.int .u64 150])).run EG w=.ok (some (255,a,150)) w:=by kernel_rfl
theorem qrq(w:Ez):(Rtype.directlyAssignable 255 255).run EG w=.ok true w:=by kernel_rfl
theorem q2w(ta b e:Addr)(old:E8)(W:Ez)(hb:W.cell? b=some (.pointer (some e)))(ht:W.cell? ta=some old)(hf:W.frozen? ta=false):
  (ReflectliteValue.set #[.agg #[.pointer (some ⟨7,255,none⟩),.pointer (some ta),.int .u64 406],.agg #[.pointer (some ⟨7,255,none⟩),.pointer (some b),.int .u64 150]]).run Tryz.prog W
   = .ok (.tuple #[]) (W.setCell ta (.pointer (some e))):=by
 rw[rls];simp only[Sem.run_bind,qrs,qto,Result.andThen];simp[ReflectliteValue.flagAddr,loadVar,isAgg,underlying,Tryz.underlying255,hb,Result.andThen,qrq,storeVar,Value.cells,storeCells,Addr.add];rw[run_store Tryz.prog W ta _ _ (by rfl)];simp[ht,hf]
theorem qacu(e t:Addr)(old:E8)(w:Ez)(hg:w.cell? ⟨0,0,none⟩=some (.iface 365 (.agg #[.pointer (some ⟨7,74,none⟩)])))(ht0:w.cell? t=some old)(hf0:w.frozen? t=false):
  Calls Tryz.prog 157 #[.iface 255 (.pointer (some e)),.iface 257 (.pointer (some t))] w fun ev w'=>ev=.returned (.bool true)/\w'=((((w.alloc (.cells #[.pointer (some t)] 257)).alloc (.cells #[.pointer (some ⟨7,257,none⟩),.pointer (some ⟨w.heap.size,0,none⟩),.int .u64 150] 306)).alloc (.cells #[.pointer (some ⟨7,257,none⟩),.pointer (some ⟨w.heap.size,0,none⟩),.int .u64 150] 306)).alloc (.cells #[.pointer (some e)] 255)).setCell t (.pointer (some e)):=by
 have h6:=@run_callFunc_extern Tryz.prog 213 _ (fun args=>ReflectliteValue.unpack (args.getD 0 (.tuple #[]))) Tryz.func213 Jk Jk Jk Jk;have h7:=@run_callFunc_extern Tryz.prog 214 _ (ReflectliteValue.methodAny (ReflectliteValue.valueError "reflectlite.Value.Type" 0) (fun t _ _ _=>ReflectliteType.toType t)) Tryz.func214 Jk Jk Jk Jk;have h8:=@run_callFunc_extern Tryz.prog 215 _ (ReflectliteValue.method (ReflectliteValue.valueError "reflectlite.Value.IsNil" 0) ReflectliteValue.isNil) Tryz.func215 Jk Jk Jk Jk;have h27:=@run_callFunc_extern Tryz.prog 358 _ (ReflectliteType.abiMethod fun t=>do pure (.int .u8 (<-Rtype.kind t))) Tryz.func358 Jk Jk Jk Jk;have h37:=@run_callFunc_extern Tryz.prog 374 _ (ReflectliteType.method ReflectliteType.elem) Tryz.func374 Jk Jk Jk Jk;have h38:=@run_callFunc_extern Tryz.prog 375 _ (ReflectliteType.relation "Implements" ReflectliteType.implements_) Tryz.func375 Jk Jk Jk Jk;have h10:=@run_callFunc_extern Tryz.prog 272 _ ReflectliteType.typeOf Tryz.func272 Jk Jk Jk Jk;have h35:=@run_callFunc_extern Tryz.prog 372 _ (ReflectliteType.relation "AssignableTo" ReflectliteType.assignableTo) Tryz.func372 Jk Jk Jk Jk;have h11:=@run_callFunc_extern Tryz.prog 273 _ (ReflectliteValue.method (ReflectliteValue.valueError "reflectlite.Value.Elem" 0) ReflectliteValue.elem) Tryz.func273 Jk Jk Jk Jk;have h12:=@run_callFunc_extern Tryz.prog 274 _ ReflectliteValue.set Tryz.func274 Jk Jk Jk Jk;have tO:=qrt;have mA:=qe1;have a25:=qj0;have v25:=qpi;have f6:=qpj;have f7:=qyn;have mK:=qmf;have mE:=qme;have mI:=qgd;have k27:=qym;have k25:=qyl;have e27:=qyk;have i25:=qj1;have n8:=qtn ⟨w.heap.size,0,none⟩ t ((w.alloc (.cells #[.pointer (some t)] 257)).alloc (.cells #[.pointer (some ⟨7,257,none⟩),.pointer (some ⟨w.heap.size,0,none⟩),.int .u64 150] 306)) Js;have hlt:0<w.heap.size:=by
  rcases AX 0 w.heap.size with h|h
  ·exact h
  ·simp[World.cell?,Bd h]at hg
 have hg2:((w.alloc (.cells #[.pointer (some t)] 257)).alloc (.cells #[.pointer (some ⟨7,257,none⟩),.pointer (some ⟨w.heap.size,0,none⟩),.int .u64 150] 306)).cell? ⟨0,0,none⟩=some (.iface 365 (.agg #[.pointer (some ⟨7,74,none⟩)])):=by
  rw[World.cell?_alloc_lt _ _ ⟨0,0,none⟩ (by simp<;>omega),World.cell?_alloc_lt _ _ ⟨0,0,none⟩ hlt];exact hg
 have htl:t.block<w.heap.size:=by
  rcases AX t.block w.heap.size with h|h
  ·exact h
  ·simp[World.cell?,Bd h]at ht0
 have el:=qtm ⟨w.heap.size,0,none⟩ t (((w.alloc (.cells #[.pointer (some t)] 257)).alloc (.cells #[.pointer (some ⟨7,257,none⟩),.pointer (some ⟨w.heap.size,0,none⟩),.int .u64 150] 306)).alloc (.cells #[.pointer (some ⟨7,257,none⟩),.pointer (some ⟨w.heap.size,0,none⟩),.int .u64 150] 306)) (by rw[World.cell?_alloc_lt _ _ ⟨w.heap.size,0,none⟩ Ys];simp);have st:=q2w t ⟨w.heap.size+1+1+1,0,none⟩ e old ((((w.alloc (.cells #[.pointer (some t)] 257)).alloc (.cells #[.pointer (some ⟨7,257,none⟩),.pointer (some ⟨w.heap.size,0,none⟩),.int .u64 150] 306)).alloc (.cells #[.pointer (some ⟨7,257,none⟩),.pointer (some ⟨w.heap.size,0,none⟩),.int .u64 150] 306)).alloc (.cells #[.pointer (some e)] 255))
  (by rw[World.cell?_alloc_at _ _ _ _ Js];rfl)
  (by rw[World.cell?_alloc_lt _ _ t Ys,World.cell?_alloc_lt _ _ t Ys,World.cell?_alloc_lt _ _ t Ys,World.cell?_alloc_lt _ _ t htl];exact ht0)
  (by rw[World.frozen?_alloc_old _ _ t Ys,World.frozen?_alloc_old _ _ t Ys,World.frozen?_alloc_old _ _ t Ys,World.frozen?_alloc_old _ _ t (Nat.ne_of_lt htl)];exact hf0)
 go_enter Tryz.func157,Tryz.ntmps157
 go_wp2
 refine wp_loop_rounds 1 ?_;rw[rounds_succ]
 go_wp2
 go_ret
 exact⟨rfl,rfl⟩
def entV(x:LB×Nat×Nat):E8:=.tuple #[.string ⟨x.1.toArray⟩,ii x.2.1,ii x.2.2]
theorem q0g{m:LB}{first:Bool}{s y:Nat×Nat×Nat}(es:s=if first then(0,0,0)else numL m)(ey:y=numL (m.drop s.2.1))(e2:s.2.2=0)(he2:y.2.2=0):
  entG m first ahead=if ahead.length<s.1 then([],0,161)else if 262144<y.1\/262144<s.1+y.1 then([],0,2)else if m.length-s.2.1-y.2.1<y.1 then([],0,10)else(ahead.take s.1++(m.drop (s.2.1+y.2.1)).take y.1,s.2.1+y.2.1+y.1,0):=by
 unfold entG;rw[<-es];dsimp only;rw[Aa Oo,<-ey,Aa Oo]
theorem qqt(b:Nat)(m:LB)(p:Nat)(first:Bool)(last:E0)(w:Ez)(h:DictAt w b m)(hp:p<=4294967296)(hlast:last.size<=262144):
  Gv EG 276 [pp b,ii p,.bool first,.string last] w fun r w'=>r=entV (qcs (qe m) p first last.data.toList)/\Ext w w':=by
 obtain⟨⟨P,cp,E,ce,h1,h2,h3,h4⟩,h5,h6,h7,h8⟩:=h;obtain⟨D,eD⟩:∃D,D=qe m:=⟨_,rfl⟩
 rw[<-eD]at h1 h3 h4 h8|-;refine ze Tryz.func276 Tryz.ntmps276 ?_;refine zv ?_;refine LoadV.own h1 rfl (zw ?_);refine zt ?_;refine zC (fun _=>zw ?_) (fun _=>zw ?_)
 ·rw[qcs,Ad Oo];exact⟨rfl,xr⟩
 refine LoadV.own h1 rfl (zw ?_);refine SliceV.bs h3 rfl p D.length ce rfl rfl rfl Oo znr h4 znr (fun h=>by cases h) ?_;intro A' hA';rw[AF Js]at hA';(conv=>whnf);obtain⟨B,eB⟩:∃B,B=D.drop p:=⟨_,rfl⟩
 have hBl:B.length=D.length-p:=by rw[eB,zld]
 rw[<-eB]at hA';have hvB:∀w',Ext w w'->BS w' (.slice A' (D.length-p) (ce-p)) B:=fun w' he=>⟨A',ce-p,by rw[hBl],by rw[hBl];omega,hA'.ext he⟩
 refine zcv (qem _ B w (hvB w xr)) ?_;rintro v w1 ⟨cb,rfl,hcb,hco,he1⟩;have hm:Mem w w1 [(cb,curO 288 (.slice A' (D.length-p) (ce-p)) 0 0)]:=(Mem.nil w).fresh he1 hcb hco;(conv=>whnf);obtain⟨s,es⟩:∃s:Nat×Nat×Nat,s=if first then(0,0,0)else numL B:=⟨_,rfl⟩
 have hsb:s.1<18446744073709551616/\s.2.1<=B.length:=by
  have:=qbp B;rw[es];split
  ·exact⟨by decide,Am _⟩
  ·exact⟨this.1,this.2.1⟩
 cases first
 ·refine zv ?_;refine zcv (qc8 cb _ 0 0 B w1 (hm.get mh) (hvB w1 hm.ext) (Am _) Oo) ?_;rintro r w2 ⟨rfl,hu⟩
  by_cases he:(numL (B.drop 0)).2.2=0
  ·obtain⟨q1,q2,q3⟩:=qun he;rw[q2,q3,Aw]at hu;rw[q1];have es:s=numL B:=es;have hm:Mem w w2 [(cb,curO 288 (.slice A' (D.length-p) (ce-p)) s.2.1 0)]:=by rw[es];exact hm.upd (i:=0) rfl hu
   have e1:(numL (B.drop 0)).1=s.1:=by rw[es];rfl
   have e2:s.2.2=0:=by rw[es];exact he
   rw[e1];clear q1 q2 q3 hu e1;(conv=>whnf);refine zcv (qcb cb _ _ 0 w2 (hm.get mh)) ?_;rintro r w3 ⟨rfl,rfl⟩;refine zu ?_;refine zcv (qc8 cb _ s.2.1 0 B _ (hm.get mh) (hvB _ hm.ext) hsb.2 Oo) ?_;rintro r w4 ⟨rfl,hu⟩;have hx1:=qbp (B.drop s.2.1);rw[zld]at hx1
   by_cases he2:(numL (B.drop s.2.1)).2.2=0
   ·obtain⟨q1,q2,q3⟩:=qun he2;rw[q2,q3]at hu;rw[q1];clear q1 q2 q3;obtain⟨y,ey⟩:∃y,y=numL (B.drop s.2.1):=⟨_,rfl⟩
    rw[<-ey]at he2 hu hx1|-;have hE:=q0g (ahead:=last.data.toList) (first:=false) es ey e2 he2;have hll:last.data.toList.length=last.size:=rfl;have hm:Mem w w4 [(cb,curO 288 (.slice A' (D.length-p) (ce-p)) (s.2.1+y.2.1) 0)]:=hm.upd (i:=0) rfl hu;(conv=>whnf);refine zcv (qcb cb _ _ 0 w4 (hm.get mh)) ?_;rintro r w5 ⟨rfl,rfl⟩;conv=>whnf
    (repeat'(first|refine zp ?_|refine zC (fun _=>zw ?_) (fun _=>zw ?_)))
    ·have hent:entG B false last.data.toList=([],0,161):=by rw[hE,Ad Oo]
     rw[qcs,Aa Oo,<-eB,hent];exact⟨rfl,hm.ext⟩
    ·have hent:entG B false last.data.toList=([],0,2):=by rw[hE,Aa Oo,Ad Oo]
     rw[qcs,Aa Oo,<-eB,hent];exact⟨rfl,hm.ext⟩
    ·have hent:entG B false last.data.toList=([],0,2):=by rw[hE,Aa Oo,Ad Oo]
     rw[qcs,Aa Oo,<-eB,hent];exact⟨rfl,hm.ext⟩
    refine zcv (qoy cb _ (s.2.1+y.2.1) 0 B w5 (hm.get mh) (hvB w5 hm.ext) Oo Oo) ?_;rintro r w6 ⟨rfl,he6⟩;have hm:=hm.call he6;(conv=>whnf);refine zt ?_;refine zC (fun _=>zw ?_) (fun _=>zw ?_)
    ·have hent:entG B false last.data.toList=([],0,10):=by rw[hE,Aa Oo,Aa Oo,Ad Oo]
     rw[qcs,Aa Oo,<-eB,hent];exact⟨rfl,hm.ext⟩
    have hent:entG B false last.data.toList=(last.data.toList.take s.1++(B.drop (s.2.1+y.2.1)).take y.1,s.2.1+y.2.1+y.1,0):=by rw[hE,Aa Oo,Aa Oo,Aa Oo]
    rw[qcs,Aa Oo,<-eB,hent];refine zcv (qjj cb _ (s.2.1+y.2.1) 0 w6 (hm.get mh)) ?_;rintro r w7 ⟨rfl,rfl⟩;refine zu ?_;refine zy ?_;have hm:=hm.drew;refine zv ?_;refine SliceS.at_ 0 s.1 rfl (by show(_:Int)=_;omega) Oo Oo (zu ?_);refine LoadV.own (hm.ext.get h1) rfl (zu ?_);refine SliceV.bs (h3.ext hm.ext) rfl (p+(s.2.1+y.2.1)) (p+(s.2.1+y.2.1)+y.1) ce (by show(_:Int)=_;omega) (by show(_:Int)=_;omega) rfl Oo Oo Oo znr (fun h=>by cases h) ?_;intro A2 hA2;refine zu ?_;have ecut:((D.drop (p+(s.2.1+y.2.1))).take (p+(s.2.1+y.2.1)+y.1-(p+(s.2.1+y.2.1))))=(B.drop (s.2.1+y.2.1)).take y.1:=by
     rw[eB,AM];congr 1;omega
    rw[ecut]at hA2;refine BytesS.sl hA2 (by rw[AG,zld];omega) (zu ?_);have z1:(last.extract 0 s.1).size=s.1:=by rw[Cy];omega
    have z2:(⟨((B.drop (s.2.1+y.2.1)).take y.1).toArray⟩:E0).size=y.1:=by
     show(List.toArray _).size=_;rw[CK,AG,zld];omega
    refine Obl.mk (by rw[z1,z2];omega) (zw ?_);have hcat:last.extract 0 s.1++⟨((B.drop (s.2.1+y.2.1)).take y.1).toArray⟩=(⟨(last.data.toList.take s.1++(B.drop (s.2.1+y.2.1)).take y.1).toArray⟩:E0):=by
     apply ByteArray.ext;rw[<-Bf,Ea,De];simp
    rw[hcat,Aa Js];refine zv ?_;refine⟨?_,hm.ext⟩;have e8:((p:Int)+((s.2.1+y.2.1:Nat):Int)+((y.1:Nat):Int))=((p+(s.2.1+y.2.1+y.1):Nat):Int):=by omega
    rw[e8];rfl
   ·obtain⟨q1,q2,q3⟩:=qum he2;rw[q2,q3]at hu;rw[q1];have hm:Mem w w4 [(cb,curO 288 (.slice A' (D.length-p) (ce-p)) s.2.1 (numL (B.drop s.2.1)).2.2)]:=hm.upd (i:=0) rfl hu;(conv=>whnf);refine zcv (qcb cb _ _ _ w4 (hm.get mh)) ?_;rintro r w5 ⟨rfl,rfl⟩;refine zu ?_;have hent:(entG B false last.data.toList)=([],0,(numL (B.drop s.2.1)).2.2):=by
     simp only[entG,CF,if_false,<-es];rw[Aa Oo,Ad he2]
    rw[qcs,Aa Oo,<-eB,hent,Ad he2];exact⟨rfl,hm.ext⟩
  ·obtain⟨q1,q2,q3⟩:=qum he;rw[q2,q3]at hu;rw[q1];have hm:Mem w w2 [(cb,curO 288 (.slice A' (D.length-p) (ce-p)) 0 (numL B).2.2)]:=hm.upd (i:=0) rfl hu;have he':(numL B).2.2≠0:=he;(conv=>whnf);refine zcv (qcb cb _ _ _ w2 (hm.get mh)) ?_;rintro r w3 ⟨rfl,rfl⟩;refine zu ?_;have hent:qcs D p false last.data.toList=([],0,(numL B).2.2):=by
    have:(entG B false last.data.toList).2.2=(numL B).2.2:=by
     simp only[entG,CF,if_false];rw[Ad he']
    rw[qcs,Aa Oo,<-eB,this,Ad he']
   rw[hent];exact⟨rfl,hm.ext⟩
 ·refine zv ?_;have es:s=(0,0,0):=es;have hm:Mem w w1 [(cb,curO 288 (.slice A' (D.length-p) (ce-p)) s.2.1 0)]:=by rw[es];exact hm
  have e2:s.2.2=0:=by rw[es]
  refine zcv (qcb cb _ _ 0 w1 (hm.get mh)) ?_;rintro r w3 ⟨rfl,rfl⟩;refine zu ?_;refine zcv (qc8 cb _ s.2.1 0 B _ (hm.get mh) (hvB _ hm.ext) hsb.2 Oo) ?_;rintro r w4 ⟨rfl,hu⟩;have hx1:=qbp (B.drop s.2.1);rw[zld]at hx1
  by_cases he2:(numL (B.drop s.2.1)).2.2=0
  ·obtain⟨q1,q2,q3⟩:=qun he2;rw[q2,q3]at hu;rw[q1];clear q1 q2 q3;obtain⟨y,ey⟩:∃y,y=numL (B.drop s.2.1):=⟨_,rfl⟩
   rw[<-ey]at he2 hu hx1|-;have hE:=q0g (ahead:=last.data.toList) (first:=true) es ey e2 he2;have hll:last.data.toList.length=last.size:=rfl;have hs1:s.1=0:=by rw[es]
   have hm:Mem w w4 [(cb,curO 288 (.slice A' (D.length-p) (ce-p)) (s.2.1+y.2.1) 0)]:=hm.upd (i:=0) rfl hu;(conv=>whnf);refine zcv (qcb cb _ _ 0 w4 (hm.get mh)) ?_;rintro r w5 ⟨rfl,rfl⟩;(conv=>whnf);refine zt ?_;refine zC (fun _=>zu ?_) (fun _=>zu ?_)
   ·have hent:entG B true last.data.toList=([],0,2):=by rw[hE,Aa Oo,Ad Oo]
    rw[qcs,Aa Oo,<-eB,hent];exact⟨rfl,hm.ext⟩
   refine zcv (qoy cb _ (s.2.1+y.2.1) 0 B w5 (hm.get mh) (hvB w5 hm.ext) Oo Oo) ?_;rintro r w6 ⟨rfl,he6⟩;have hm:=hm.call he6;(conv=>whnf);refine zt ?_;refine zC (fun _=>zw ?_) (fun _=>zw ?_)
   ·have hent:entG B true last.data.toList=([],0,10):=by rw[hE,Aa Oo,Aa Oo,Ad Oo]
    rw[qcs,Aa Oo,<-eB,hent];exact⟨rfl,hm.ext⟩
   have hent:entG B true last.data.toList=(last.data.toList.take s.1++(B.drop (s.2.1+y.2.1)).take y.1,s.2.1+y.2.1+y.1,0):=by rw[hE,Aa Oo,Aa Oo,Aa Oo]
   rw[qcs,Aa Oo,<-eB,hent];refine zcv (qjj cb _ (s.2.1+y.2.1) 0 w6 (hm.get mh)) ?_;rintro r w7 ⟨rfl,rfl⟩;refine zu ?_;refine zy ?_;have hm:=hm.drew;refine zv ?_;refine SliceS.at_ 0 s.1 rfl (by show(_:Int)=_;omega) Oo Oo (zu ?_);refine LoadV.own (hm.ext.get h1) rfl (zu ?_);refine SliceV.bs (h3.ext hm.ext) rfl (p+(s.2.1+y.2.1)) (p+(s.2.1+y.2.1)+y.1) ce (by show(_:Int)=_;omega) (by show(_:Int)=_;omega) rfl Oo Oo Oo znr (fun h=>by cases h) ?_;intro A2 hA2;refine zu ?_;have ecut:((D.drop (p+(s.2.1+y.2.1))).take (p+(s.2.1+y.2.1)+y.1-(p+(s.2.1+y.2.1))))=(B.drop (s.2.1+y.2.1)).take y.1:=by
    rw[eB,AM];congr 1;omega
   rw[ecut]at hA2;refine BytesS.sl hA2 (by rw[AG,zld];omega) (zu ?_);have z1:(last.extract 0 s.1).size=s.1:=by rw[Cy];omega
   have z2:(⟨((B.drop (s.2.1+y.2.1)).take y.1).toArray⟩:E0).size=y.1:=by
    show(List.toArray _).size=_;rw[CK,AG,zld];omega
   refine Obl.mk (by rw[z1,z2];omega) (zw ?_);have hcat:last.extract 0 s.1++⟨((B.drop (s.2.1+y.2.1)).take y.1).toArray⟩=(⟨(last.data.toList.take s.1++(B.drop (s.2.1+y.2.1)).take y.1).toArray⟩:E0):=by
    apply ByteArray.ext;rw[<-Bf,Ea,De];simp
   rw[hcat,Aa Js];refine zv ?_;refine⟨?_,hm.ext⟩;have e8:((p:Int)+((s.2.1+y.2.1:Nat):Int)+((y.1:Nat):Int))=((p+(s.2.1+y.2.1+y.1):Nat):Int):=by omega
   rw[e8];rfl
  ·obtain⟨q1,q2,q3⟩:=qum he2;rw[q2,q3]at hu;rw[q1];have hm:Mem w w4 [(cb,curO 288 (.slice A' (D.length-p) (ce-p)) s.2.1 (numL (B.drop s.2.1)).2.2)]:=hm.upd (i:=0) rfl hu;(conv=>whnf);refine zcv (qcb cb _ _ _ w4 (hm.get mh)) ?_;rintro r w5 ⟨rfl,rfl⟩;refine zu ?_;have hent:(entG B true last.data.toList)=([],0,(numL (B.drop s.2.1)).2.2):=by
    simp only[entG,if_true,<-es];rw[Aa Oo,Ad he2]
   rw[qcs,Aa Oo,<-eB,hent,Ad he2];exact⟨rfl,hm.ext⟩
open Go.RowKit
namespace V
def Fr(r:Option Nat):Fence:={ fn:=fun _=>True,depth:=none,alive:=false,round:=r }
theorem qc6{r:Option Nat}{R:Ending->EC}:CallsIn (Fr r) m P f args w R↔Calls P f args w R:=by
 show CallsIn Fence.wide m P f args w R↔_;exact callsIn_wide
def Sw(n:Nat)(ρ:EB)(a:Act):Prop:=St n ρ { a with defers:=[] }
theorem Sw.eval{n:Nat}(h:Sw n ρ a):a.eval=ev ρ:=by
 have:=St.eval h;rw[<-this];funext x;cases x<;>rfl
theorem Sw.put{n:Nat}(h:Sw n ρ a)(ds:EI){dst:Option Tmp}{v:E8}{K:EB->Prop}(hk:putV n dst ρ v K):
  ∃ρ',Sw n ρ' ({ a with defers:=ds }.put dst v)/\({ a with defers:=ds }.put dst v).defers=ds/\K ρ':=by
 obtain⟨ρ',h1,h2⟩:=putV.st hk h;refine⟨ρ',?_,?_,h2⟩
 ·cases dst<;>exact h1
 ·cases dst<;>rfl
theorem Sw.st{n:Nat}(h:Sw n ρ a)(hd:a.defers=[]):St n ρ a:=by
 have:a={ a with defers:=[] }:=by cases a;cases hd;rfl
 rw[this];exact h
theorem St.sw{n:Nat}(h:St n ρ a):Sw n ρ a:=by
 have:a={ a with defers:=[] }:=by have:=h.defers;cases a;cases this;rfl
 unfold Sw;rw[<-this];exact h
structure YieldV(P:E4)(l:Nat)(args:EE)(w:Ez)(K:E9):Prop where
 h:YieldAt (Fr none) 0 P l args.toArray w fun e w'=>∃v,e=.returned v/\K v w'
theorem YieldV.mono{l:Nat}{args:EE}{K':E9}(h:YieldV P l args w K)(hk:∀v w',K v w'->K' v w'):YieldV P l args w K':=by
 obtain⟨fn,tmps,asg,b,h1,h2⟩:=h.h;exact⟨⟨fn,tmps,asg,b,h1,h2.mono fun e w' ⟨v,he,hv⟩=>⟨v,he,hk _ _ hv⟩⟩⟩
def q9j(P:E4)(c:Call)(ty:E6)(ρ:EB)(w:Ez)(s:Sem Next)(K:E9):Prop:=
 match c.callee with
 | .value f=>match ev ρ f with
  | .func (.yield l) first captured=>match first.toList,captured.toList with
   | [],[]=>qcc (evs ρ c.args.toList) fun vs=>YieldV P l vs w K
   | _,_=>False
  | .func (.func g) first captured=>qcc (evs ρ c.args.toList) fun vs=>
   match first.toList,captured.toList with
   | [],[]=>CallV P g vs w K
   | x,y=>CallV P g (x++(vs++y)) w K
  | _=>Fall P s w K
 | .builtin .len=>lenV P (getL c.argTypes.toList 0) (evs ρ c.args.toList) w s K
 | .builtin .append=>appV P c.argTypes ty (evs ρ c.args.toList) w s K
 | .invoke recv name=>match ev ρ recv with
  | .iface t v=>qcc (evs ρ c.args.toList) fun vs=>InvV P t v name vs w K
  | _=>Fall P s w K
 | _=>Fall P s w K
def defW(c:Call)(ρ:EB)(K:Deferred->Prop):Prop:=
 match c.callee with
 | .value f=>match ev ρ f with
  | .func (.func g) first captured=>match first.toList,captured.toList with
   | [],[]=>qcc (evs ρ c.args.toList) fun vs=>K { target:=.fn (.func g) #[],args:=vs.toArray }
   | _,_=>False
  | _=>False
 | _=>False
def opW(P:E4)(r:Option Nat)(o:Oper)(ρ:EB)(ds:EI)(w:Ez)(K:E8->EI->EC):Prop:=
 match o.op with
 | .call c=>q9j P c o.type ρ w (execOp (ev ρ) o) fun v w'=>K v ds w'
 | .defer c=>match r with
  | none=>defW c ρ fun d=>K undef (d::ds) w
  | some _=>False
 | _=>opV P o ρ w fun v w'=>K v ds w'
section
variable {P:E4} {n:Nat} {r:Option Nat}
theorem q4t{c:Call}(ho:o.op=.call c)(h:q9j P c o.type ρ w (execOp (ev ρ) o) K):
  OpOk P (execOp (ev ρ) o) w K\/∃l f tmps asg b,(execOp (ev ρ) o).run P w=.ok (.round l f tmps asg b) w/\RoundIn (Fr none) 0 P l f tmps asg b w fun e w'=>∃v,e=.returned v/\K v w':=by
 have key:qzy P c o.type ρ w (execOp (ev ρ) o) K->OpOk P (execOp (ev ρ) o) w K:=qve ho;unfold q9j at h;unfold qzy at key
 split at h
 ·rename_i f hc
  simp only[hc]at key
  split at h
  ·rename_i l first captured hf
   split at h
   ·rename_i h1 h2
    rw[qai]at h;obtain⟨f',tmps,asg,b,hy,hR⟩:=h.h;refine .inr ⟨l,f',tmps,asg,b,?_,hR⟩;have e1:first=#[]:=by rw[<-Bf];simpa using h1
    have e2:captured=#[]:=by rw[<-Bf];simpa using h2
    subst e1 e2;rw[qeu]at hy;have e3:(c.args.toList.map (ev ρ)).toArray=c.args.map (ev ρ):=by rw[<-Bf];simp
    rw[e3]at hy;simp only[execOp,ho,resolve,hc,hf];simp[go_sem,Deferred.ofValue,invoke,hy]
   ·exact h.elim
  ·rename_i g first captured hf
   rw[hf]at key;exact .inl (key h)
  ·rename_i hn1 hn2
   exact .inl (.inl h.ok)
 ·rename_i hc
  simp only[hc]at key;exact .inl (key h)
 ·rename_i hc
  simp only[hc]at key;exact .inl (key h)
 ·rename_i hc
  simp only[hc]at key;exact .inl (key h)
 ·exact .inl (.inl h.ok)
theorem q8c{K:E8->EI->EC}{next:Act->EC}{Q:Exit->Act->EC}(ha:Sw n ρ a)(hd:a.defers=ds)(h:opW P r o ρ ds w K)(hn:∀v ds' w',K v ds' w'->next ({ a with defers:=ds' }.put o.dst v) w'):o.wpIn (Fr r) 0 P a w next Q:=by
 refine⟨fun _ _=>trivial,?_⟩;have hds:({ a with defers:=ds }:Act)=a:=by subst hd;rfl
 have hn0:∀v w',K v ds w'->next (a.put o.dst v) w':=fun v w' hk=>by have:=hn v ds w' hk;rwa[hds]at this
 rw[ha.eval];unfold opW at h
 split at h
 ·rename_i c ho
  rw[Oper.semAt_eq _ _ _ (by intro c' e;rw[ho]at e;cases e)]
  rcases q4t ho h with((⟨v,w',h1,h2⟩|⟨w',h1,h2⟩)|⟨f,args,h1,h2⟩)|⟨l,f,tmps,asg,b,h1,h2⟩
  ·rw[h1];exact hn0 _ _ h2
  ·rw[h1];exact hn0 _ _ h2
  ·rw[h1,Oper.uponIn_enter];refine⟨fun h=>by simp[Fr]at h,qc6.2 (h2.mono fun e w' ⟨v,he,hk⟩=>?_)⟩;subst he;exact hn0 _ _ hk
  ·rw[h1,Oper.uponIn_round];refine⟨fun h=>by simp[Fr]at h,?_⟩;have h2:RoundIn (Fr r) 0 P l f tmps asg b w _:=h2;refine h2.mono fun e w' ⟨v,he,hk⟩=>?_;subst he;exact hn0 _ _ hk
 ·rename_i c ho
  split at h
  ·unfold defW at h
   split at h
   ·rename_i f hc
    split at h
    ·rename_i g first captured hf
     split at h
     ·rename_i h1 h2
      rw[qai]at h;have e1:first=#[]:=by rw[<-Bf];simpa using h1
      have e2:captured=#[]:=by rw[<-Bf];simpa using h2
      subst e1 e2;rw[qeu]at h;have e3:(c.args.toList.map (ev ρ)).toArray=c.args.map (ev ρ):=by rw[<-Bf];simp
      rw[e3]at h;have e4:(Oper.semAt none (ev ρ) o).run P w=.ok (.defer { target:=.fn (.func g) #[],args:=c.args.map (ev ρ) }) w:=by
       simp only[Oper.semAt_none,execOp,ho,resolve,hc,hf];simp[go_sem,Deferred.ofValue]
      have e5:(Fr none).round=none:=rfl;rw[e5,e4,Oper.uponIn_defer];subst hd;exact hn _ _ _ h
     ·exact h.elim
    ·exact h.elim
   ·exact h.elim
  ·exact h.elim
 ·rename_i hn1 hn2
  rw[Oper.semAt_eq _ _ _ (fun c e=>hn2 c e)]
  rcases qwg h with(⟨v,w',h1,h2⟩|⟨w',h1,h2⟩)|⟨f,args,h1,h2⟩
  ·rw[h1];exact hn0 _ _ h2
  ·rw[h1];exact hn0 _ _ h2
  ·rw[h1,Oper.uponIn_enter];refine⟨fun h=>by simp[Fr]at h,qc6.2 (h2.mono fun e w' ⟨v,he,hk⟩=>?_)⟩;subst he;exact hn0 _ _ hk
end
def runW(P:E4)(n:Nat)(r:Option Nat)(o:Oper)(K:EB->EI->EC)(ρ:EB)(ds:EI)(w:Ez):Prop:=
 opW P r o ρ ds w fun v ds' w'=>putV n o.dst ρ v fun ρ'=>K ρ' ds' w'
def qt6(n:Nat)(o:Oper)(K:EB->EI->EC)(ρ:EB)(ds:EI)(w:Ez):Prop:=
 putV n o.dst ρ undef fun ρ'=>K ρ' ds w
def regW(P:E4)(n:Nat)(r:Option Nat)(ops:List Oper)(Q:EB->EI->EC):List Oper->EB->EI->Ez->Prop
 | [],ρ,ds,w=>Q ρ ds w
 | o::rest,ρ,ds,w=>
  match o.guard with
  | none=>runW P n r o (regW P n r ops Q rest) ρ ds w
  | some (j,want)=>
   match getL ops j with
   | none=>qt6 n o (regW P n r ops Q rest) ρ ds w
   | some oj=>match oj.dst with
    | none=>qt6 n o (regW P n r ops Q rest) ρ ds w
    | some d=>bif Nat.blt d n then
      match ρ d with
      | .bool b=>Tst b
        (match want with
         | true=>runW P n r o (regW P n r ops Q rest) (upd ρ d (.bool true)) ds w
         | false=>qt6 n o (regW P n r ops Q rest) (upd ρ d (.bool true)) ds w)
        (match want with
         | true=>qt6 n o (regW P n r ops Q rest) (upd ρ d (.bool false)) ds w
         | false=>runW P n r o (regW P n r ops Q rest) (upd ρ d (.bool false)) ds w)
      | _=>qt6 n o (regW P n r ops Q rest) ρ ds w
     else False
abbrev QW:=Exit->EB->EI->Ez->Prop
def seqW(K:EB->EI->EC)(Q:QW):QW
 | .normal,ρ,ds,w=>K ρ ds w
 | .exit i,ρ,ds,w=>Q (.exit i) ρ ds w
 | .goto l,ρ,ds,w=>Q (.goto l) ρ ds w
 | .ret,ρ,ds,w=>Q .ret ρ ds w
 | .panic c,ρ,ds,w=>Q (.panic c) ρ ds w
 | .outgrown,ρ,ds,w=>Q .outgrown ρ ds w
def qva(id:Nat)(Q:QW):QW
 | .normal,ρ,ds,w=>Q .normal ρ ds w
 | .exit i,ρ,ds,w=>bif Nat.beq i id then Q .normal ρ ds w else Q (.exit i) ρ ds w
 | .goto l,ρ,ds,w=>Q (.goto l) ρ ds w
 | .ret,ρ,ds,w=>Q .ret ρ ds w
 | .panic c,ρ,ds,w=>Q (.panic c) ρ ds w
 | .outgrown,ρ,ds,w=>Q .outgrown ρ ds w
def qez(n:Nat)(Q:QW):Exit->Act->Ez->Prop:=fun e a w=>∃ρ,Sw n ρ a/\Q e ρ a.defers w
structure LoopW(P:E4)(n:Nat)(r:Option Nat)(body:Code)(Q:QW)(ρ:EB)(ds:EI)(w:Ez):Prop where
 h:∀a,Sw n ρ a->a.defers=ds->(Code.loop body).wpIn (Fr r) 0 P (qez n Q) a w
structure DrawW(P:E4)(n:Nat)(r:Option Nat)(id:Nat)(ops:Array Oper)(Q:QW)(ρ:EB)(ds:EI)(w:Ez):Prop where
 h:∀a,Sw n ρ a->a.defers=ds->(Code.region id ops true).wpIn (Fr r) 0 P (qez n Q) a w
structure ScopeW(P:E4)(n:Nat)(r:Option Nat)(c:Code)(Q:QW)(ρ:EB)(ds:EI)(w:Ez):Prop where
 h:∀a,Sw n ρ a->a.defers=ds->(Code.scope c).wpIn (Fr r) 0 P (qez n Q) a w
structure RangeW(P:E4)(n:Nat)(r:Option Nat)(f:Operand)(ps:Array Tmp)(assign body:Code)(Q:QW)(ρ:EB)(ds:EI)(w:Ez):Prop where
 h:∀a,Sw n ρ a->a.defers=ds->(Code.rangeFunc f ps assign body).wpIn (Fr r) 0 P (qez n Q) a w
def qih(P:E4)(n:Nat)(r:Option Nat):Code->QW->EB->EI->Ez->Prop
 | .skip,Q,ρ,ds,w=>Q .normal ρ ds w
 | .region id ops draw,Q,ρ,ds,w=>
  match draw with
  | false=>regW P n r ops.toList (Q .normal) ops.toList ρ ds w
  | true=>DrawW P n r id ops Q ρ ds w
 | .seq a b,Q,ρ,ds,w=>qih P n r a (seqW (qih P n r b Q) Q) ρ ds w
 | .cond c t e,Q,ρ,ds,w=>
  match ev ρ c with
  | .bool b=>Tst b (qih P n r t Q ρ ds w) (qih P n r e Q ρ ds w)
  | _=>False
 | .block id c,Q,ρ,ds,w=>qih P n r c (qva id Q) ρ ds w
 | .loop c,Q,ρ,ds,w=>LoopW P n r c Q ρ ds w
 | .exit id,Q,ρ,ds,w=>Q (.exit id) ρ ds w
 | .label _,Q,ρ,ds,w=>Q .normal ρ ds w
 | .ret,Q,ρ,ds,w=>Q .ret ρ ds w
 | .goto l,Q,ρ,ds,w=>Q (.goto l) ρ ds w
 | .scope c,Q,ρ,ds,w=>ScopeW P n r c Q ρ ds w
 | .rangeFunc f p a b,Q,ρ,ds,w=>RangeW P n r f p a b Q ρ ds w
 | .refuse _,_,_,_,_=>False
section
variable {P:E4} {n:Nat} {r:Option Nat}
theorem Sw.yield(ha:Sw n ρ a){ops:List Oper}(hj:getL ops j=some oj)(hd:oj.dst=some d)(hn:d<n):
  yielded ops.toArray a.tmps j=match ρ d with | .bool b=>some b|_=>none:=St.yield ha hj hd hn
theorem qt1{K:EB->EI->EC}{rest:List Oper}(hg:Region.wanted o (yielded ops a.tmps)=true)(ha:Sw n ρ a)(hd:a.defers=ds)(h:runW P n r o K ρ ds w)(hk:∀ρ' ds' a' w',Sw n ρ' a'->a'.defers=ds'->K ρ' ds' w'->wpListIn (Fr r) 0 P ops Q' rest a' w'):
  wpListIn (Fr r) 0 P ops Q' (o::rest) a w:=by
 unfold wpListIn;rw[Ad hg];refine q8c ha hd h fun v ds' w' hp=>?_;obtain⟨ρ',h1,h2,h3⟩:=ha.put ds' hp;exact hk _ _ _ _ h1 h2 h3
theorem qh1{K:EB->EI->EC}{rest:List Oper}(hg:Region.wanted o (yielded ops a.tmps)=false)(ha:Sw n ρ a)(hd:a.defers=ds)(h:qt6 n o K ρ ds w)(hk:∀ρ' ds' a' w',Sw n ρ' a'->a'.defers=ds'->K ρ' ds' w'->wpListIn (Fr r) 0 P ops Q' rest a' w'):
  wpListIn (Fr r) 0 P ops Q' (o::rest) a w:=by
 unfold wpListIn;rw[Aa (by rw[hg];simp)];refine⟨fun _ _=>trivial,?_⟩;obtain⟨ρ',h1,h2,h3⟩:=ha.put ds h;have e:({ a with defers:=ds }:Act)=a:=by subst hd;rfl
 rw[e]at h1 h2;exact hk _ _ _ _ h1 h2 h3
theorem qabo{ops:List Oper}{Q:EB->EI->EC}(hQ:∀ρ ds a w,Sw n ρ a->a.defers=ds->Q ρ ds w->Q' .normal a w)(l:List Oper):
  ∀(ρ:EB) (ds:EI) (a:Act) (w:Ez),Sw n ρ a->a.defers=ds->regW P n r ops Q l ρ ds w->wpListIn (Fr r) 0 P ops.toArray Q' l a w:=by
 induction l with
 | nil=>intro ρ ds a w ha hd h;exact hQ _ _ _ _ ha hd h
 | cons o rest ih=>
  intro ρ ds a w ha hd h;unfold regW at h;have ih':∀ρ' ds' a' w',Sw n ρ' a'->a'.defers=ds'->regW P n r ops Q rest ρ' ds' w'->wpListIn (Fr r) 0 P ops.toArray Q' rest a' w':=fun ρ' ds' a' w'=>ih ρ' ds' a' w'
  split at h
  ·rename_i hg
   exact qt1 (by simp[Region.wanted,hg]) ha hd h ih'
  ·rename_i j want hg
   split at h
   ·rename_i hj
    rw[qm]at hj;refine qh1 ?_ ha hd h ih';have:ops.toArray[j]?=none:=by simpa using hj
    simp[Region.wanted,hg,yielded,this]
   ·rename_i oj hj
    split at h
    ·rename_i hdd
     refine qh1 ?_ ha hd h ih';have hj2:=hj;rw[qm]at hj2;have:ops.toArray[j]?=some oj:=by simpa using hj2
     simp[Region.wanted,hg,yielded,this,hdd]
    ·rename_i d hdd
     cases hn:Nat.blt d n<;>rw[hn]at h
     ·exact h.elim
     ·have hn':d<n:=by simpa using hn
      have hy:=ha.yield hj hdd hn';simp only[cond_true]at h
      split at h
      ·rename_i b hb
       rw[hb]at hy;cases b
       ·have h:=h.f rfl;have ha':Sw n _ a:=St.same ha hb;cases want
        ·exact qt1 (by simp[Region.wanted,hg,hy]) ha' hd h ih'
        ·exact qh1 (by simp[Region.wanted,hg,hy]) ha' hd h ih'
       ·have h:=h.t rfl;have ha':Sw n _ a:=St.same ha hb;cases want
        ·exact qh1 (by simp[Region.wanted,hg,hy]) ha' hd h ih'
        ·exact qt1 (by simp[Region.wanted,hg,hy]) ha' hd h ih'
      ·rename_i hb
       refine qh1 ?_ ha hd h ih';have:yielded ops.toArray a.tmps j=none:=by
        rw[hy]
        split
        ·rename_i b hb';exact absurd hb' (hb b)
        ·rfl
       simp[Region.wanted,hg,this]
theorem q1s{K:EB->EI->EC}{Q:QW}{e:Exit}(h:qez n (seqW K Q) e a w):
  Exit.then (fun a w=>∃ρ,Sw n ρ a/\K ρ a.defers w) (qez n Q) e a w:=by
 obtain⟨ρ,h1,h2⟩:=h;cases e<;>exact⟨ρ,h1,h2⟩
theorem qta{Q:QW}{e:Exit}(h:qez n (qva id Q) e a w):
  Exit.inBlock id (qez n Q) e a w:=by
 obtain⟨ρ,h1,h2⟩:=h;cases e with
 | exit i=>
  by_cases hi:i=id
  ·have hb:Nat.beq i id=true:=by subst hi;simp
   simp only[qva,hb,cond_true]at h2;simp only[Exit.inBlock,hi,if_true];exact⟨ρ,h1,h2⟩
  ·have hb:Nat.beq i id=false:=Bx.2 fun h=>hi (Bl h)
   simp only[qva,hb,cond_false]at h2;simp only[Exit.inBlock,hi,if_false];exact⟨ρ,h1,h2⟩
 | normal=>exact⟨ρ,h1,h2⟩
 | goto l=>exact⟨ρ,h1,h2⟩
 | ret=>exact⟨ρ,h1,h2⟩
 | panic c=>exact⟨ρ,h1,h2⟩
 | outgrown=>exact⟨ρ,h1,h2⟩
theorem qfu(c:Code):∀(Q:QW) (ρ:EB) (ds:EI) (w:Ez),qih P n r c Q ρ ds w->∀a,Sw n ρ a->a.defers=ds->c.wpIn (Fr r) 0 P (qez n Q) a w:=by
 induction c with
 | skip=>intro Q ρ ds w h a ha hd;subst hd;exact Go.wpIn_skip ⟨ρ,ha,h⟩
 | region id ops draw=>
  intro Q ρ ds w h a ha hd;cases draw
  ·refine wpIn_region_list ?_;have:=qabo (Q':=qez n Q) (fun ρ ds a w ha hd h=>by subst hd;exact⟨ρ,ha,h⟩) ops.toList ρ ds a w ha hd h
   simpa using this
  ·exact h.h a ha hd
 | seq x y hx hy=>
  intro Q ρ ds w h a ha hd;refine Go.wpIn_seq (Go.wpIn_mono (hx _ _ _ _ h a ha hd) fun e a w h=>?_);have:=q1s h;cases e with
  | normal=>obtain⟨ρ',h1,h2⟩:=this;exact hy _ _ _ _ h2 _ h1 rfl
  | exit i=>exact this
  | goto l=>exact this
  | ret=>exact this
  | panic c=>exact this
  | outgrown=>exact this
 | cond c t e ht he=>
  intro Q ρ ds w h a ha hd;unfold qih at h
  split at h
  ·rename_i b hb
   refine Go.wpIn_cond_split (t:=b) (by rw[ha.eval,hb]) (fun e=>ht _ _ _ _ (h.t e) a ha hd) (fun e=>he _ _ _ _ (h.f e) a ha hd)
  ·exact h.elim
 | block id c hc=>
  intro Q ρ ds w h a ha hd;exact Go.wpIn_block (Go.wpIn_mono (hc _ _ _ _ h a ha hd) fun e a w h=>qta h)
 | loop c hc=>intro Q ρ ds w h a ha hd;exact h.h a ha hd
 | rangeFunc f p x b hx hb=>intro Q ρ ds w h a ha hd;exact h.h a ha hd
 | exit id=>intro Q ρ ds w h a ha hd;subst hd;exact Go.wpIn_exit ⟨ρ,ha,h⟩
 | scope c hc=>intro Q ρ ds w h a ha hd;exact h.h a ha hd
 | label l=>intro Q ρ ds w h a ha hd;subst hd;exact Go.wpIn_label ⟨ρ,ha,h⟩
 | goto l=>intro Q ρ ds w h a ha hd;subst hd;exact Go.wpIn_goto ⟨ρ,ha,h⟩
 | ret=>intro Q ρ ds w h a ha hd;subst hd;exact Go.wpIn_ret ⟨ρ,ha,h⟩
 | refuse why=>intro Q ρ ds w h a ha hd;exact h.elim
theorem DrawW.of{Q:QW}(h:DrawV P n id ops (fun e ρ' w'=>Q e ρ' [] w') ρ w):DrawW P n none id ops Q ρ [] w:=by
 refine⟨fun a ha hd=>?_⟩;have:=h.h a (ha.st hd);show(Code.region id ops true).wpIn Fence.wide 0 P _ a w;refine wpIn_wide.2 (Go.wp_mono this fun e a w ⟨ρ',h1,h2⟩=>⟨ρ',h1.sw,?_⟩);rw[h1.defers];exact h2
theorem qtc{α:Type}(l:α->List (Nat×E8))(I:α->EC)(μ:α->Nat){Q:QW}(x0:α)(h0:qqa (l x0) ρ)(hI:I x0 w)(hr:∀x w ρ',I x w->qih P n r body (seqW (fun ρ'' ds'' w'=>ds''=ds/\∃x',qqa (l x') ρ''/\I x' w'/\μ x'<μ x) Q) (over (l x) ρ') ds w):LoopW P n r body Q ρ ds w:=by
 refine⟨fun a ha hd=>?_⟩;intro b k cs hro hb hroom;have key:∀m x,μ x=m->∀ρ a w,qqa (l x) ρ->Sw n ρ a->a.defers=ds->I x w->
   ∃e a' w',qez n Q e a' w'/\ArrivesIn (Machine.fenced P (Fr r)) P (lone (b.atR a (.code body::.inLoop body::k)) cs w) b k cs e a' w':=by
  intro m
  induction m using Nat.strongRecOn with
  | _ m ih=>
   intro x hm ρ a w hag hst hds hI;have h1:=hr x w ρ hI;rw[qrj hag]at h1;obtain⟨e,a₁,w₁,hq,harr⟩:=qfu body _ _ _ _ h1 a hst hds b (.inLoop body::k) cs hro hb hroom;obtain⟨ρ₁,hst₁,hq⟩:=hq;cases e with
   | normal=>
    obtain⟨hds',x',hag',hI',hlt⟩:=hq;obtain⟨e₂,a₂,w₂,hq₂,harr₂⟩:=ih (μ x') (hm ▸ hlt) x' rfl ρ₁ a₁ w₁ hag' hst₁ hds' hI';exact⟨e₂,a₂,w₂,hq₂,.of_steps (StepsIn.trans harr (.one (fenced_calm hb hroom rfl) stepR_inLoop)) harr₂⟩
   | exit id=>exact⟨_,a₁,w₁,⟨ρ₁,hst₁,hq⟩,.pass (x:=.inLoop body) rfl (fun _ _=>.inl Js) harr⟩
   | goto l=>exact⟨_,a₁,w₁,⟨ρ₁,hst₁,hq⟩,.pass (x:=.inLoop body) rfl (fun _ _=>.inl Js) harr⟩
   | ret=>exact⟨_,a₁,w₁,⟨ρ₁,hst₁,hq⟩,.pass (x:=.inLoop body) rfl (fun _ _=>.inl Js) harr⟩
   | panic ch=>exact⟨_,a₁,w₁,⟨ρ₁,hst₁,hq⟩,.pass (x:=.inLoop body) rfl (fun _ _=>.inl Js) harr⟩
   | outgrown=>exact⟨_,a₁,w₁,⟨ρ₁,hst₁,hq⟩,.pass (x:=.inLoop body) rfl (fun _ _=>.inl Js) harr⟩
 obtain⟨e,a',w',hq,harr⟩:=key _ x0 rfl ρ a w h0 ha hd hI;exact⟨e,a',w',hq,.of_steps (.one (fenced_calm hb hroom rfl) stepR_loop) harr⟩
structure LeaveV(P:E4)(n:Nat)(fn:Func)(R:E9)(ρ:EB)(ds:EI)(w:Ez):Prop where
 h:∀a,Sw n ρ a->LeavesInM (Fr none) 0 P fn a.tmps (fun e w'=>∃v,e=.returned v/\R v w') ds .returning w
def qm0(P:E4)(n:Nat)(fn:Func)(R:E9)(ρ:EB)(ds:EI)(w:Ez):Prop:=
 match ds with
 | []=>resV fn.results ρ w fn R P n
 | d::ds=>LeaveV P n fn R ρ (d::ds) w
theorem qhh{fn:Func}(h:qm0 P n fn R ρ ds w)(ha:Sw n ρ a):
  LeavesInM (Fr none) 0 P fn a.tmps (fun e w'=>∃v,e=.returned v/\R v w') ds .returning w:=by
 cases ds with
 | nil=>
  obtain⟨v,h1,h2⟩:=qlq rfl ha h;exact⟨v,h1,v,rfl,h2⟩
 | cons d ds=>exact h.h a ha
theorem LeaveV.mark{fn:Func}{D:Nat}(h:w.heap[D]?=some (.deferred (some [])))(hk:∀w',w'=setO w D (.deferred none)->qm0 P n fn R ρ ds w'):LeaveV P n fn R ρ ({ target:=.collected D,args:=#[] }::ds) w:=
 ⟨fun a ha=>⟨by simp,.inl ⟨D,_,rfl,run_takeDeferred h,qhh (hk _ rfl) ha⟩⟩⟩
def GvD(P:E4)(f:FuncId)(args:EE)(w:Ez)(R:EC):Prop:=
 qdc P f=true/\CallsDIn (Fr none) 0 P f args.toArray .returning w fun e u' w'=>u'=.returning/\∃v,e=.returned v/\R w'
theorem LeaveV.call{fn:Func}{g:FuncId}(h:GvD P g vs w fun w'=>qm0 P n fn R ρ ds w'):LeaveV P n fn R ρ ({ target:=.fn (.func g) #[],args:=vs.toArray }::ds) w:=by
 refine⟨fun a ha=>⟨by simp,.inr ⟨fun h=>by simp[Fr]at h,.func g,#[],g,vs.toArray,rfl,?_,fun _ _=>trivial,?_⟩⟩⟩
 ·simp only[invoke,Array.append_empty];exact qcu h.1 _
 ·refine h.2.mono ?_;rintro e u' w' ⟨rfl,v,rfl,hk⟩;exact qhh hk ha
def qaet(P:E4)(n:Nat)(fn:Func)(R:E9):QW
 | .normal,ρ,ds,w=>qm0 P n fn R ρ ds w
 | .ret,ρ,ds,w=>qm0 P n fn R ρ ds w
 | _,_,_,_=>False
theorem q74{n:Nat}(hl:vs.length<=n):Sw n (ini vs) { tmps:=vs.toArray++Array.replicate (n-vs.toArray.size) undef,defers:=[] }:=by
 refine⟨by simp;omega,fun t=>?_,rfl⟩;rw[q73,BN];simp only[Array.getElem?_append,CK]
 split
 ·simp
 ·rename_i ht
  rw[Au Oo];simp only[DP]
  split<;>rfl
theorem gvW{fn:Func}{c:Code}(he:qdc P f=true)(hf:P.funcs[f]?=some fn)(hb:fn.body=some c)(hn:fn.ntmps=n)(hl:Nat.ble vs.length n=true)(h:qih P n none c (qaet P n fn R) (ini vs) [] w):Gv P f vs w R:=by
 have hl':vs.length<=n:=by simpa using hl
 refine⟨he,qc6 (r:=none) (m:=0) |>.1 (callsIn_of_wp_marks hf hb trivial (Go.wpIn_mono (qfu c _ _ _ _ h _ (by rw[hn];exact q74 hl') rfl) fun e a w hq=>?_))⟩;obtain⟨ρ,hst,hq⟩:=hq;cases e with
 | normal=>exact qhh hq hst
 | ret=>exact qhh hq hst
 | exit i=>exact hq.elim
 | goto i=>exact hq.elim
 | panic i=>exact hq.elim
 | outgrown=>exact hq.elim
theorem gvD{fn:Func}{c:Code}{R:EC}(he:qdc P f=true)(hf:P.funcs[f]?=some fn)(hb:fn.body=some c)(hn:fn.ntmps=n)(hl:Nat.ble vs.length n=true)(h:qe4 P n c (q4q P n fn (fun _ w'=>R w')) (ini vs) w):GvD P f vs w R:=by
 have hl':vs.length<=n:=by simpa using hl
 have h1:c.wpIn (Fr none) 0 P (bodyPost P fn fun e w'=>∃v,e=.returned v/\R w') { tmps:=vs.toArray++Array.replicate (fn.ntmps-vs.toArray.size) undef,defers:=[] } w:=by
  refine wpIn_wide.2 (Go.wp_mono (qka c _ _ _ h _ (by rw[hn];exact(q74 hl').st rfl)) fun e a w hq=>?_);obtain⟨ρ,hst,hq⟩:=hq;cases e with
  | normal=>
   obtain⟨v,h1,h2⟩:=qlq rfl hst hq;exact⟨hst.defers,v,h1,v,rfl,h2⟩
  | ret=>
   obtain⟨v,h1,h2⟩:=qlq rfl hst hq;exact⟨hst.defers,v,h1,v,rfl,h2⟩
  | exit i=>exact hq.elim
  | goto i=>exact hq.elim
  | panic i=>exact hq.elim
  | outgrown=>exact hq.elim
 exact⟨he,callsDIn_of_wp hf hb trivial h1⟩
theorem GvD.mono{R R':EC}(h:GvD P f vs w R)(hr:∀w',R w'->R' w'):GvD P f vs w R':=
 ⟨h.1,h.2.mono fun _ _ _ ⟨hu,v,he,hv⟩=>⟨hu,v,he,hr _ hv⟩⟩
structure Carr(J:ED->EC):Prop where
 ext:∀{X w w'},J X w->Ext w w'->J X w'
 get:∀{X w} {b:Nat} {o:Obj},J X w->(b,o)∈X->w.heap[b]?=some o
 new:∀{X w} (o:Obj),J X w->J ((w.heap.size,o)::X) (w.alloc o)
 set:∀{X w} {b:Nat} {o:Obj} (o':Obj),J ((b,o)::X) w->J ((b,o')::X) (setO w b o')
 drop:∀{X w} {x:Nat×Obj},J (x::X) w->J X w
 perm:∀{X Y w},J X w->X.Perm Y->J Y w
theorem Carr.tail(h:Carr J)(L:ED):Carr fun X w=>J (X++L) w:=
 ⟨h.ext,fun k hx=>h.get k (Bb _ hx),fun o k=>h.new o k,fun o' k=>h.set o' k,h.drop,fun k hp=>h.perm k (hp.append_right L)⟩
theorem Carr.any{α:Type}{J:α->ED->EC}(h:∀c,Carr (J c)):Carr fun X w=>∃c,J c X w:=
 ⟨fun⟨c,k⟩ he=>⟨c,(h c).ext k he⟩,fun⟨c,k⟩ hx=>(h c).get k hx,fun o ⟨c,k⟩=>⟨c,(h c).new o k⟩,fun o' ⟨c,k⟩=>⟨c,(h c).set o' k⟩,fun⟨c,k⟩=>⟨c,(h c).drop k⟩,fun⟨c,k⟩ hp=>⟨c,(h c).perm k hp⟩⟩
def SeqV(P:E4)(gf:FuncId)(lb:EE)(xs:List EE)(Φ:EC):Prop:=
 ∀(l:Nat) (I Ix:Nat->EC) (w:Ez),(∀k w,I k w->Φ w)->(∀k w w',I k w->Ext w w'->I k w')->(∀k w w',Ix k w->Ext w w'->Ix k w')->I 0 w->
  (∀k x w,xs[k]?=some x->I k w->YieldV P l x w fun v w'=>(v=.bool true/\I (k+1) w')\/(v=.bool false/\Ix k w'))->
  Gv P gf (.func (.yield l) #[] #[]::lb) w fun _ w'=>I xs.length w'\/∃k,k<xs.length/\Ix k w'
def SeqC(P:E4)(gf:FuncId)(lb:EE)(xs:List EE)(Φ:EC):Prop:=
 ∀(l:Nat) (I Ix:Nat->ED->EC) (w:Ez),(∀k,Carr (I k))->(∀k,Carr (Ix k))->(∀k X w,I k X w->Φ w)->I 0 [] w->
  (∀k x X w,xs[k]?=some x->I k X w->YieldV P l x w fun v w'=>(v=.bool true/\I (k+1) X w')\/(v=.bool false/\Ix k X w'))->
  Gv P gf (.func (.yield l) #[] #[]::lb) w fun _ w'=>I xs.length [] w'\/∃k,k<xs.length/\Ix k [] w'
theorem SeqV.toC{xs:List EE}{Φ:EC}(h:SeqV P gf lb xs Φ):SeqC P gf lb xs Φ:=
 fun l I Ix w hI hIx hw h0 hy=>h l (fun k w=>I k [] w) (fun k w=>Ix k [] w) w (fun k w g=>hw k [] w g) (fun k _ _ g he=>(hI k).ext g he) (fun k _ _ g he=>(hIx k).ext g he) h0 fun k x w hx g=>hy k x [] w hx g
def qy0:List Tmp->EE->EB->Nat->E8
 | p::ps,v::vs,ρ=>qy0 ps vs (upd ρ p v)
 | _,_,ρ=>ρ
theorem qww:∀(ps:List Tmp) (vs:EE) (ρ:EB) (t:EH),ps.all (Nat.blt · n)=true->St n ρ ⟨t,[]⟩->
  St n (qy0 ps vs ρ) ⟨(ps.zip vs).foldl (fun t (p,v)=>t.setIfInBounds p v) t,[]⟩:=by
 intro ps
 induction ps with
 | nil=>intro vs ρ t _ h;exact h
 | cons p ps ih=>
  intro vs ρ t hp h;cases vs with
  | nil=>exact h
  | cons v vs=>
   simp only[Di,AJ]at hp;exact ih vs _ _ hp.2 (h.put (by simpa using hp.1) v)
structure BeginV(w1 w2:Ez)(ds:EI)(K:Prop):Prop where
 w:w2=w1
 d:ds=[]
 k:K
def qadu(K:EB->EI->EC):QW
 | .normal,ρ,ds,w=>K ρ ds w
 | _,_,_,_=>False
def q8h(J:EC)(Jx:Code->EC):QW
 | .normal,_,_,w=>J w
 | .ret,_,_,w=>Jx .ret w
 | .exit id,_,_,w=>Jx (.exit id) w
 | .goto t,_,_,w=>Jx (.goto t) w
 | _,_,_,_=>False
def qaea(c:Code)(Q:QW)(ρ:EB)(ds:EI)(w:Ez):Prop:=
 match c with
 | .ret=>Q .ret ρ ds w
 | .exit id=>Q (.exit id) ρ ds w
 | .goto t=>Q (.goto t) ρ ds w
 | _=>False
theorem q2u{f:Operand}{ps:Array Tmp}{assign:Code}{Q:QW}{Φ:EC}{xs:List EE}(hf:ev ρ f=.func (.func gf) #[] lb.toArray)(he:qdc P gf=true)(hseq:SeqC P gf lb xs Φ)(hpn:ps.toList.all (Nat.blt · n)=true)(hps:∀x∈xs,x.length=ps.size)(J:Nat->ED->EC)(Jx:Code->Nat->ED->EC)(hJ:∀k,Carr (J k))(hJx:∀c k,Carr (Jx c k))(hw:∀k X w,J k X w->Φ w)(h0:J 0 [] w)(hbody:∀l D ob k x X w1 w2,xs[k]?=some x->J k ((l,ob)::(D,.deferred (some []))::X) w2->
   qih P n (some l) assign (qadu fun ρ1 ds1 w1'=>BeginV w1 w1' ds1
    (qih P n (some l) body (q8h (J (k+1) ((l,ob)::(D,.deferred (some []))::X)) (fun c=>Jx c k ((l,ob)::(D,.deferred (some []))::X))) ρ1 [] w2)) (qy0 ps.toList x ρ) [] w1)(hdone:∀D w',J xs.length [(D,.deferred (some []))] w'->Q .normal ρ ({ target:=.collected D,args:=#[] }::ds) w')(hstop:∀D c k w',k<xs.length->Jx c k [(D,.deferred (some []))] w'->qaea c Q ρ ({ target:=.collected D,args:=#[] }::ds) w'):RangeW P n none f ps assign body Q ρ ds w:=by
 refine⟨fun a ha hd=>?_⟩;subst hd;refine wpIn_rangeFunc ?_;intro fn hfn;obtain⟨rec,hrec⟩:∃rec:LoopState->Option Code->Loop,rec=fun st pe=>{ state:=st,pending:=pe,fn,tmps:=a.tmps,params:=ps,assign,body,defers:=w.heap.size }:=⟨_,rfl⟩
 obtain⟨W1,hW1⟩:∃W1,(w.alloc (.deferred (some []))).alloc (.loop (rec .ready none))=W1:=⟨_,rfl⟩
 have hD:=(hJ 0).new (.deferred (some [])) h0;have hL:=(hJ 0).new (.loop (rec .ready none)) hD;rw[hW1,World.size_alloc]at hL;refine⟨w.heap.size+1,[{ target:=.collected w.heap.size,args:=#[] }],W1,{ target:=.fn (.func gf) lb.toArray,args:=#[.func (.yield (w.heap.size+1)) #[] #[]] },W1,gf,
  #[.func (.yield (w.heap.size+1)) #[] #[]]++lb.toArray,W1,?_,?_,fun _ _=>trivial,?_,fun h=>by simp[Fr]at h,?_⟩
 ·rw[<-hW1,hrec];exact run_enterLoop_outer _ _ _ _ _
 ·have:a.eval f=.func (.func gf) #[] lb.toArray:=by rw[ha.eval,hf]
  simp only[resolve,this];simp[go_sem]
 ·simp only[invoke];exact qcu he _
 ·have ea:#[Value.func (.yield (w.heap.size+1)) #[] #[]]++lb.toArray=(Value.func (.yield (w.heap.size+1)) #[] #[]::lb).toArray:=by rw[<-Bf];simp
  rw[ea];refine qc6.2 ((hseq (w.heap.size+1) (fun k X W=>J k (X++[(w.heap.size+1,.loop (rec .ready none)),(w.heap.size,.deferred (some []))]) W)
   (fun k X W=>∃c,Jx c k (X++[(w.heap.size+1,.loop (rec .done (some c))),(w.heap.size,.deferred (some []))]) W) W1
   (fun k=>(hJ k).tail _) (fun k=>Carr.any fun c=>(hJx c k).tail _) (fun k X W h=>hw _ _ _ h) hL ?_).2.mono ?_)
  ·intro k x X W hx hk;replace hk:=(hJ k).perm hk AE;have hl:=(hJ k).get hk mh;have hy:=run_yield (P:=P) (args:=x.toArray) hl (by rw[hrec];simpa using hps x (zmg hx));rw[hrec]at hy;refine⟨⟨fn,_,assign,body,hy,roundIn_of_wpIn hfn ?_⟩⟩;have h1:=hbody (w.heap.size+1) w.heap.size _ k x X W _ hx ((hJ k).set (.loop { rec .ready none with state:=.busy }) hk);have hz:(ps.zip x.toArray).foldl (fun t (p,v)=>t.setIfInBounds p v) a.tmps=(ps.toList.zip x).foldl (fun t (p,v)=>t.setIfInBounds p v) a.tmps:=by
    rw[<-Em];simp
   have hst:Sw n (qy0 ps.toList x ρ) { tmps:=(ps.zip x.toArray).foldl (fun t (p,v)=>t.setIfInBounds p v) a.tmps,defers:=[] }:=by
    rw[hz];exact qww _ _ _ _ hpn ha
   refine Go.wpIn_mono (F:=Fr (some (w.heap.size+1))) (qfu assign _ _ _ _ h1 _ hst rfl) fun e a1 w1 hq=>?_;obtain⟨ρ1,hst1,hq⟩:=hq;cases e with
   | normal=>
    obtain⟨hw1,hd1,hb1⟩:=hq;subst hw1;refine⟨_,run_beginRound hl (by rw[hrec]),?_⟩;refine Go.wpIn_mono (F:=Fr (some (w.heap.size+1))) (qfu body _ _ _ _ hb1 _ hst1 hd1) fun e a2 w2 hq=>?_;obtain⟨ρ2,hst2,hq⟩:=hq;cases e with
    | normal=>
     refine⟨_,_,run_endRound none ((hJ _).get hq mh),_,rfl,.inl ⟨rfl,?_⟩⟩;have:=(hJ (k+1)).perm ((hJ (k+1)).set (.loop (rec .ready none)) hq) (AE (l₁:=[_,_]));rw[hrec]at this|-;exact this
    | ret=>
     refine⟨_,_,run_endRound (some .ret) ((hJx _ _).get hq mh),_,rfl,.inr ⟨rfl,.ret,?_⟩⟩;have:=(hJx _ k).perm ((hJx _ k).set (.loop (rec .done (some .ret))) hq) (AE (l₁:=[_,_]));rw[hrec]at this|-;exact this
    | exit id=>
     refine⟨_,_,run_endRound (some (.exit id)) ((hJx _ _).get hq mh),_,rfl,.inr ⟨rfl,.exit id,?_⟩⟩;have:=(hJx _ k).perm ((hJx _ k).set (.loop (rec .done (some (.exit id)))) hq) (AE (l₁:=[_,_]));rw[hrec]at this|-;exact this
    | goto t=>
     refine⟨_,_,run_endRound (some (.goto t)) ((hJx _ _).get hq mh),_,rfl,.inr ⟨rfl,.goto t,?_⟩⟩;have:=(hJx _ k).perm ((hJx _ k).set (.loop (rec .done (some (.goto t)))) hq) (AE (l₁:=[_,_]));rw[hrec]at this|-;exact this
    | panic ch=>exact hq.elim
    | outgrown=>exact hq.elim
   | ret=>exact hq.elim
   | exit id=>exact hq.elim
   | goto t=>exact hq.elim
   | panic ch=>exact hq.elim
   | outgrown=>exact hq.elim
  ·rintro e W2 ⟨v,rfl,h|⟨k,hk,c,h⟩⟩
   ·have hl:=(hJ _).get h mh;have:=run_endLoop (P:=P) hl (by rw[hrec];simp);rw[hrec]at this;exact⟨none,_,this,ρ,ha,hdone _ _ ((hJ _).drop ((hJ _).set _ h))⟩
   ·have hl:=(hJx _ _).get h mh;have:=run_endLoop (P:=P) hl (by rw[hrec];simp);rw[hrec]at this;refine⟨some c,_,this,?_⟩;have hs:=hstop _ c k _ hk ((hJx _ _).drop ((hJx _ _).set (.loop { rec .done (some c)with state:=.exhausted }) h));rw[hrec]at hs;cases c with
    | ret=>exact Go.wpIn_ret ⟨ρ,ha,hs⟩
    | exit id=>exact Go.wpIn_exit ⟨ρ,ha,hs⟩
    | goto t=>exact Go.wpIn_goto ⟨ρ,ha,hs⟩
    | _=>exact hs.elim
theorem Mem.glue{a b c:Ez}(h:Mem a b L)(k:Mem b c M):Mem a c (M++L):=by
 refine⟨h.ext.trans k.ext,fun x hx=>?_,?_⟩
 ·rcases Ba.1 hx with hx|hx
  ·exact⟨AU h.ext.size (k.own x hx).1,(k.own x hx).2⟩
  ·exact⟨(h.own x hx).1,k.ext.get (h.own x hx).2⟩
 ·rw[AB,List.nodup_append];refine⟨k.nodup,h.nodup,?_⟩;intro u hu v hv e;obtain⟨x,hx,rfl⟩:=AY.1 hu;obtain⟨y,hy,rfl⟩:=AY.1 hv;have h1:=(k.own x hx).1;have h2:=h.lt (b:=y.1) (o:=y.2) hy;omega
theorem Mem.glue2{a b c:Ez}(h:Mem a b L)(k:Mem b c M):Mem a c (L++M):=(h.glue k).perm AE
theorem Carr.mem{σ:Type}(A:σ->Prop)(L:σ->ED):Carr fun X w=>∃s,A s/\Mem w0 w (X++L s):=by
 refine⟨?_,?_,?_,?_,?_,?_⟩
 ·rintro X w w' ⟨s,hs,hm⟩ he;exact⟨s,hs,hm.call he⟩
 ·rintro X w b o ⟨s,hs,hm⟩ hx;exact hm.get (Bb _ hx)
 ·rintro X w o ⟨s,hs,hm⟩;exact⟨s,hs,hm.new rfl rfl⟩
 ·rintro X w b o o' ⟨s,hs,hm⟩;exact⟨s,hs,hm.setO (i:=0) o' rfl rfl⟩
 ·rintro X w x ⟨s,hs,hm⟩;exact⟨s,hs,hm.sub (AP ..)⟩
 ·rintro X Y w ⟨s,hs,hm⟩ hp;exact⟨s,hs,hm.perm (hp.symm.append_right _)⟩
end
end V
def bSt(E:LB)(p:Nat):Nat->LB×Nat
 | 0=>([],p)
 | j+1=>((blk E p j).1,(blk E p j).2.1)
theorem qacx{E:LB}{p:Nat}:∀{j:Nat},(∀i,i<j->(blk E p i).2.2=0)->blk E p j=qcs E (bSt E p j).2 (decide (j=0)) (bSt E p j).1
 | 0,_=>rfl
 | j+1,h=>by
  rw[blk,Aa (by rw[h j Oo];simp)];rfl
def bRow(m:LB)(k j:Nat):EE:=[ii (16*k+j:Nat),.string ⟨(blk (qe m) (q9 m k) j).1.toArray⟩]
structure BEnd(m:LB)(k n:Nat):Prop where
 ok:∀j,j<n->16*k+j<dN m/\(blk (qe m) (q9 m k) j).2.2=0
 le:n<=16
 stop:n<16->16*k+n<dN m->(blk (qe m) (q9 m k) n).2.2≠0
theorem BEnd.ex(m:LB)(k:Nat):∃n,BEnd m k n:=by
 have:∀d j,j+d=16->(∀i,i<j->16*k+i<dN m/\(blk (qe m) (q9 m k) i).2.2=0)->∃n,BEnd m k n:=by
  intro d
  induction d with
  | zero=>intro j hj h;exact⟨j,h,by omega,fun h=>by omega⟩
  | succ d ih=>
   intro j hj h
   by_cases hg:16*k+j<dN m/\(blk (qe m) (q9 m k) j).2.2=0
   ·refine ih (j+1) Oo fun i hi=>?_
    by_cases e:i=j
    ·subst e;exact hg
    ·exact h i Oo
   ·exact⟨j,h,by omega,fun _ h1 h2=>hg ⟨h1,h2⟩⟩
 exact this 16 0 rfl fun i h=>by omega
theorem qqn{m:LB}(h:DictAt w b m)(k:Nat):q9 m k<=134217728:=by
 have:=quj (qag m) (k*dW m) (dW m) h.width;unfold q9;omega
theorem qacw{m:LB}{n:Nat}(h:BEnd m k n)(hj:j<=n)(hE:(qe m).length<=67108864)(hp:q9 m k<=134217728):
  (bSt (qe m) (q9 m k) j).1.length<=262144/\(bSt (qe m) (q9 m k) j).2<=134217728:=by
 cases j with
 | zero=>exact⟨by simp[bSt],hp⟩
 | succ j=>
  have:=q7r (h.ok j Oo).2;exact⟨this.1,by have:=this.2;simp only[bSt];omega⟩
def BlkΦ(b:Nat)(m:LB)(k b1 b2:Nat)(w:Ez):Prop:=DictAt w b m/\w.cell? ⟨b1,0,none⟩=some (pp b)/\w.cell? ⟨b2,0,none⟩=some (ii k)
theorem qqe(b:Nat)(m:LB)(k n b1 b2:Nat)(hk:k<upN (dN m) 16)(hn:BEnd m k n):
  SeqV EG 319 [pp b1,pp b2] ((List.range n).map (bRow m k)) (BlkΦ b m k b1 b2):=by
 intro l I Ix w hI sI sIx h0 hy;obtain⟨h,h1,h2⟩:=hI 0 w h0;have hub:upN (dN m) 16<=4194304:=AU (qb9 _ _ Od) h.n;have hEl:(qe m).length<=67108864:=by rw[h.entries];exact h.size
 have hpl:=qqn h k;refine gvW Jk Tryz.func319 rfl Tryz.ntmps319 rfl (zw ?_);refine LoadV.of h1 (zw ?_);refine LoadV.of h2 (zw ?_);refine zcv (qrn b m k w h hk) ?_;rintro v w' ⟨rfl,rfl⟩;(conv=>whnf);refine LoadV.of h2 (zu ?_);refine qtc (fun j:Nat=>[(0,.func (.yield l) #[] #[]),(1,pp b1),(2,pp b2),(4,ii (bSt (qe m) (q9 m k) j).2),(5,.string ⟨(bSt (qe m) (q9 m k) j).1.toArray⟩),(6,ii ((k:Int)*16+j))])
  (fun j w'=>j<=n/\I j w') (fun j=>n-j) 0 ⟨rfl,rfl,rfl,rfl,rfl,by show ii _=ii _;congr 1,trivial⟩ ⟨by omega,h0⟩ ?_
 rintro j w1 ρ' ⟨hj,hIj⟩;obtain⟨hD1,hc1,hc2⟩:=hI j w1 hIj;obtain⟨hs1,hs2⟩:=qacw hn hj hEl hpl;have hb:=fun hg:∀i,i<j->(blk (qe m) (q9 m k) i).2.2=0=>qacx hg
 have hb:=hb fun i hi=>(hn.ok i Oo).2
 have hle:=hn.le;(conv=>whnf);refine LoadV.of hc1 (zw ?_);obtain⟨⟨P,cp,E,ce,hd1,_,_,_⟩,_⟩:=id hD1;refine LoadV.own hd1 rfl ?_;have hxs:((List.range n).map (bRow m k)).length=n:=by simp
 have hend:j=n->I ((List.range n).map (bRow m k)).length w1:=fun e=>by rw[hxs,<-e];exact hIj
 (conv=>whnf);refine zC (fun _=>zu ?_) (fun _=>zu ?_)
 ·refine LoadV.of hc2 (zw ?_);refine zt ?_;refine zC (fun _=>zw ?_) (fun _=>zw ?_)
  ·refine LoadV.of hc1 (zw ?_);have e16:decide (((k:Int)*16+(j:Int))%16=0)=decide (j=0):=decide_eq_decide.2 Oo;refine Obl.mk ⟨by omega,by omega⟩ (zw ?_);rw[e16];refine zcv (qqt b m (bSt (qe m) (q9 m k) j).2 (decide (j=0)) ⟨(bSt (qe m) (q9 m k) j).1.toArray⟩ w1 hD1 Oo (by show(bSt (qe m) (q9 m k) j).1.length<=_;omega)) ?_;rintro v w2 ⟨rfl,he2⟩;have hb':qcs (qe m) (bSt (qe m) (q9 m k) j).2 (decide (j=0)) (⟨(bSt (qe m) (q9 m k) j).1.toArray⟩:E0).data.toList=blk (qe m) (q9 m k) j:=hb.symm;rw[hb'];obtain⟨x,ex⟩:∃x,x=blk (qe m) (q9 m k) j:=⟨_,rfl⟩
   have hok:=hn.ok j;have hst:=hn.stop;rw[<-ex]at hok|-;conv=>whnf
   by_cases hx0:x.2.2=0
   ·have hjn:j<n:=by
     refine CR fun hc=>?_;obtain rfl:j=n:=by omega
     exact hst Oo Oo (by rw[<-ex];exact hx0)
    refine zv ?_;refine YieldV.mono (hy j [ii ((k:Int)*16+j),.string ⟨x.1.toArray⟩] w2 ?_ (sI _ _ _ hIj he2)) ?_
    ·rw[Ao,Bt hjn,B4,bRow,<-ex]
     congr 3
     omega
    rintro v w3 (⟨rfl,hI3⟩|⟨rfl,hX⟩)
    ·refine zu ?_;refine⟨rfl,j+1,⟨rfl,rfl,rfl,?_,?_,?_,trivial⟩,⟨by omega,hI3⟩,by omega⟩
     ·simp only[bSt,<-ex];rfl
     ·simp only[bSt,<-ex];rfl
     ·show ii _=ii _
      congr 1
    ·refine zu ?_;exact .inr ⟨j,by rw[hxs];exact hjn,hX⟩
   ·have hjn:j=n:=by
     refine CR fun hc=>?_;exact hx0 (hok Oo).2
    refine zv ?_;exact .inl (sI _ _ _ (hend hjn) he2)
  ·have hjn:j=n:=by omega
   exact .inl (hend hjn)
 ·have hjn:j=n:=by
   refine CR fun hc=>?_;have:=(hn.ok j Oo).1;omega
  exact .inl (hend hjn)
theorem qzu(b k:Nat)(w:Ez):Gv EG 278 [pp b,ii k] w fun r w'=>
  (∃b1 b2,r=.func (.func 319) #[] #[pp b1,pp b2]/\w'.cell? ⟨b1,0,none⟩=some (pp b)/\w'.cell? ⟨b2,0,none⟩=some (ii k))/\Ext w w':=by
 refine ze Tryz.func278 Tryz.ntmps278 ?_;refine znm (Mem.nil w) fun b1 w1 hm=>zw ?_;refine znm hm fun b2 w2 hm=>zw ?_;refine⟨⟨b1,b2,rfl,?_,?_⟩,hm.ext⟩
 ·rw[qa (hm.get (zmc mh))];rfl
 ·rw[qa (hm.get mh)];rfl
def qii(m:LB)(i:Nat):E8:=
 match dGet m i with
 | some s=>.tuple #[.string ⟨s.toArray⟩,.bool true]
 | none=>.tuple #[.string ⟨#[]⟩,.bool false]
theorem qvk(b:Nat)(m:LB)(i:Nat)(w:Ez)(h:DictAt w b m)(hi:i<=16777216):
  Gv EG 221 [pp b,ii i] w fun r w'=>r=qii m i/\Ext w w':=by
 refine gvW Jk Tryz.func221 rfl Tryz.ntmps221 rfl (zw ?_);refine znm (Mem.nil w) fun bi w1 hm=>zw ?_;refine znm hm fun bs w2 hm=>zw ?_;refine znm hm fun bb w3 hm=>zw ?_;refine DrawW.of ?_;obtain⟨⟨P,cp,E,ce,hd1,_,_,_⟩,_⟩:=h.ext hm.ext;refine zy ?_;refine LoadV.mem (hm.drew) (i:=2) rfl rfl (zu ?_);refine LoadV.mem (hm.drew) (i:=2) rfl rfl (zu ?_);refine LoadV.own hd1 rfl (zw ?_);refine zt ?_;refine zC (fun _=>zw ?_) (fun _=>zw ?_)
 ·have hg:qii m i=.tuple #[.string ⟨#[]⟩,.bool false]:=by rw[qii,dGet,Aa Oo]
  rw[hg];refine StoreV.mem hm.drew (i:=1) rfl Js rfl fun w4 hm=>zw ?_;refine StoreV.mem hm (i:=0) rfl Js rfl fun w5 hm=>zw ?_;refine qh (R:=fun v w'=>v=.tuple #[.string ⟨#[]⟩,.bool false]/\Ext w w') (zw ?_);refine zr hm 1 ?_;refine zr hm 0 ?_;exact⟨rfl,hm.ext⟩
 have hm:=hm.drew;refine zr hm 2 ?_;refine zv ?_;refine zcv (qzu b (i/16) w3.drew) ?_;rintro v w4 ⟨⟨b1,b2,rfl,hb1,hb2⟩,he4⟩;have hm:=hm.call he4;have hD4:=h.ext hm.ext;(conv=>whnf);obtain⟨n,hn⟩:=BEnd.ex m (i/16);have hn16:=hn.le;have hki:i/16<upN (dN m) 16:=by unfold upN;omega
 have hlen:((List.range n).map (bRow m (i/16))).length=n:=by simp
 refine q2u (Φ:=BlkΦ b m (i/16) b1 b2) (lb:=[pp b1,pp b2]) (xs:=(List.range n).map (bRow m (i/16))) rfl Jk (qqe b m (i/16) n b1 b2 hki hn).toC Od ?_
  (fun k X w'=>∃_:Unit,k<=i%16/\Mem w4 w' (X++[]))
  (fun c k X w'=>∃_:Unit,(c=.ret/\k=i%16)/\Mem w w' (X++[(bb,.cells #[.bool true] 4),(bs,.cells #[.string ⟨(blk (qe m) (q9 m (i/16)) (i%16)).1.toArray⟩] 9),(bi,.cells #[ii i] 3)]))
  (fun k=>Carr.mem _ _) (fun c k=>Carr.mem _ _) (fun k X w' ⟨_,_,hm⟩=>⟨hD4.ext hm.ext,hm.ext.cell hb1,hm.ext.cell hb2⟩) ⟨(),Am _,by simpa using Mem.nil w4⟩ ?_ ?_ ?_
 ·intro x hx;obtain⟨j,_,rfl⟩:=AY.1 hx;rfl
 ·rintro l D ob k x X w5 w6 hx ⟨_,hk,hmJ⟩;have hkn:k<n:=by
   have:=(Ae.1 hx).1
   rwa[hlen]at this
  rw[Ao,Bt hkn,B4,Bp]at hx;subst hx;have hm:=hm.glue2 hmJ;(conv=>whnf);refine⟨rfl,rfl,?_⟩;(conv=>whnf);refine zr hm 2 ?_;refine zC (fun _=>zw ?_) (fun _=>zw ?_)
  ·obtain rfl:k=i%16:=by omega
   refine StoreV.mem hm (i:=1) rfl Js rfl fun w7 hm=>zw ?_;refine StoreV.mem hm (i:=0) rfl Js rfl ?_;intro w8 hm;rw[AI]at hm;(conv=>whnf);exact⟨(),⟨rfl,rfl⟩,hm.perm AE⟩
  ·exact⟨(),by omega,hmJ⟩
 ·rintro D w5 ⟨_,hk,hmJ⟩;rw[hlen]at hk;have hm:=hm.glue hmJ;have hg:qii m i=.tuple #[.string ⟨#[]⟩,.bool false]:=by
   have hst:=hn.stop;have hne:(blk (qe m) (q9 m (i/16)) (i%16)).2.2≠0:=by
    have h1:=hst Oo Oo;rw[q4n h1 (i:=i%16) Oo];exact h1
   rw[qii,dGet,Ad Oo,Aa hne]
  rw[hg];(conv=>whnf);refine StoreV.mem hm (i:=2) rfl Js rfl fun w6 hm=>zw ?_;refine StoreV.mem hm (i:=1) rfl Js rfl fun w7 hm=>zw ?_;refine LeaveV.mark (hm.get mh) fun w8 hw=>?_;have hm:=hm.setO (i:=0) _ rfl hw;(conv=>whnf);refine qh (R:=fun v w'=>v=.tuple #[.string ⟨#[]⟩,.bool false]/\Ext w w') (zw ?_);refine zr hm 2 ?_;refine zr hm 1 ?_;exact⟨rfl,hm.ext⟩
 ·rintro D c k w5 hkl ⟨_,⟨rfl,rfl⟩,hm⟩;rw[hlen]at hkl;have hg:qii m i=.tuple #[.string ⟨(blk (qe m) (q9 m (i/16)) (i%16)).1.toArray⟩,.bool true]:=by
   rw[qii,dGet,Ad Oo,Ad (hn.ok _ hkl).2]
  rw[hg];(conv=>whnf);refine LeaveV.mark (hm.get mh) fun w8 hw=>?_;have hm:=hm.setO (i:=0) _ rfl hw;(conv=>whnf);refine qh (R:=fun v w'=>v=.tuple #[.string ⟨(blk (qe m) (q9 m (i/16)) (i%16)).1.toArray⟩,.bool true]/\Ext w w') (zw ?_);refine zr hm 2 ?_;refine zr hm 1 ?_;exact⟨rfl,hm.ext⟩
theorem qld(h:(numE l k most).2=0):vNum l k<=most:=by
 unfold numE at h
 split at h
 ·rename_i g;exact absurd h g
 ·split at h
  ·cases h
  ·omega
theorem qxk(a b:E0)(w:Ez)(ha:a.size<=4194304):
  Gv EG 124 [.string a,.string b] w fun r w'=>r=ii (comL a.data.toList b.data.toList)/\Ext w w':=by
 have la:a.data.toList.length=a.size:=rfl;have lb:b.data.toList.length=b.size:=rfl;refine ze Tryz.func124 Tryz.ntmps124 ?_;refine qj (fun i:Nat=>[(0,.string a),(1,.string b),(5,ii i)]) (fun i w'=>i<=a.size/\i<=b.size/\(∀j,j<i->a.data.toList[j]?=b.data.toList[j]?)/\Ext w w') (fun i=>a.size-i) 0 fq ⟨Am _,Am _,fun j h=>by omega,xr⟩ ?_;rintro i w1 ρ' ⟨i1,i2,i3,he⟩;(conv=>whnf);refine zy ?_
 (repeat'(first|refine zp ?_|refine zC (fun _=>zw ?_) (fun _=>zw ?_)))
 all_goals first
  | exact⟨i+1,fq,⟨by omega,by omega,fun j hj=>by
    by_cases e:j=i
    ·subst e;rw[qom Oo,qom Oo];exact Af some (D9.1 Oo)
    ·exact i3 j Oo,he.drew⟩,by omega⟩
  | exact⟨by rw[qsq i3 Oo Oo fun g1 g2=>by omega],he.drew⟩
  | (refine⟨?_,he.drew⟩;rw[qsq i3 Oo Oo fun g1 g2=>by
    rw[qom Oo,qom Oo];intro e;have:=Af UInt8.toNat (BB e);omega])
theorem V.Rw.slAt{α:Type}{f:α->E8}{enc:α->EE}{n:Nat}{l:List α}(he:∀x,enc x=[f x])(h:Rw w0 w (.slice A n c) e 1 n (l.map f) L)(hn:l.length=n):SlAt enc 1 w A l:=by
 refine⟨fun hne=>?_⟩;obtain⟨g,rfl,_,_,_,hc⟩:=h.cells (by rw[<-hn];exact Cc.2 hne);refine⟨g,0,rfl,fun j x hx k v hv=>?_⟩;rw[he]at hv;cases k with
 | succ k=>simp at hv
 | zero=>
  simp only[B9,Bp]at hv;subst hv;have:=hc j (f x) (by rw[Ao,hx];rfl)
  simpa using this
theorem qux(xs:EF)(A:oA)(n c:Nat)(w:Ez)(hS:SlAt encU 1 w A xs)(hn:xs.length=n)(hx:∀x∈xs,x<18446744073709551616)(hb:n<=4194304):
  Gv EG 80 [.slice A n c] w fun r w'=>r=ii (wMx xs n)/\w'=w:=by
 refine ze Tryz.func80 Tryz.ntmps80 ?_;refine qj (fun x:Nat×Nat=>[(0,.slice A n c),(3,ii x.2),(4,ii x.1)]) (fun x w'=>x.1<=n/\x.2<=64/\x.2=wMx xs x.1/\w'=w) (fun x=>n-x.1) (0,0) fq ⟨Am _,by simp,rfl,rfl⟩ ?_;rintro⟨i,m⟩ w1 ρ' ⟨i1,m1,m2,rfl⟩;dsimp only at i1 m1 m2|-;(conv=>whnf);refine zC (fun _=>zw ?_) (fun _=>zw ?_)
 ·refine ElemV.sl hS hn i rfl Oo ?_;intro b off hc;(conv=>whnf);refine LoadV.cell0 hc (zw ?_);have hxi:=hx _ (AT (l:=xs) (n:=i) Oo);refine zcv (qjb xs[i] _ hxi) ?_;rintro r w2 ⟨rfl,rfl⟩;have hw:=qc5 64 xs[i] (by simpa using hxi) Od;(conv=>whnf);refine V.Fall.max2 rfl rfl rfl fun q hq=>?_;obtain⟨q',rfl⟩:∃q':Nat,q=(q':Int):=⟨q.toNat,by omega⟩
  refine zu ?_;have hq2:q'=wMx xs (i+1):=by
   rw[wMx,Ag,zge Oo,CI,<-m2];omega
  exact⟨(i+1,q'),fq,⟨by simp only;omega,by simp only;omega,hq2,rfl⟩,by simp only;omega⟩
 ·obtain rfl:i=n:=by omega
  exact⟨by rw[m2],rfl⟩
def encO(b:Bool):EE:=[.bool b]
theorem qaeu:EG.underlying 149=some (.slice 4):=Tryz.underlying149
theorem booI:EG.info? 4=some ((EG.info? 4).get Jk):=(Bn _).symm
theorem booZ:((EG.info? 4).get Jk).zero=some (.bool false):=by kernel_rfl
theorem qaef:EG.underlying 148=some (.slice 125):=Tryz.underlying148
theorem u64I:EG.info? 125=some ((EG.info? 125).get Jk):=(Bn _).symm
theorem u64Z:((EG.info? 125).get Jk).zero=some (.int .u64 0):=by kernel_rfl
theorem q0i{f:Nat->Nat×Nat}{b:Nat}(h:∀k,(f k).1<=b):∀n,(errF f n).1<=b
 | 0=>Am _
 | n+1=>by
  rw[errF]
  split
  ·exact q0i h n
  ·exact h n
theorem qi4(l:LB)(k most:Nat):(numE l k most).1<=l.length:=by
 unfold numE
 split
 ·exact qh9 l k
 ·split
  ·exact qh9 l k
  ·exact Am _
theorem qac2(m:LB):(dE m).1<=m.length:=by
 unfold dE
 split
 ·exact q0i (fun k=>qi4 m k _) 2
 ·split
  ·exact Aq _
  ·split
   ·simp only;omega
   ·exact Am _
theorem qkw(a b:LB):escL (a++b)=escL a++escL b:=by
 induction a with
 | nil=>rfl
 | cons c r ih=>
  by_cases h:c=0
  ·subst h;rw[BL,qb1,qb1,ih];rfl
  ·rw[BL,qa3 _ h,qa3 _ h,ih];rfl
theorem AppV.byt{x:LB}{c:E7}(h:Rw w0 w (.slice A x.length cc) 5 1 x.length (byV x) ((nb,.cells #[.int .u8 c.toNat] 5)::L))(hn:x.length+1<=8000000000000)(hk:∀A' c' w',Rw w0 w' (.slice A' (x++[c]).length c') 5 1 (x++[c]).length (byV (x++[c])) L->K (.slice A' (x++[c]).length c') w'):AppV EG #[60,60] ty (.slice A x.length cc) (.slice (some ⟨nb,0,none⟩) 1 1) w K:=by
 have el:(x++[c]).length=x.length+1:=by simp
 have ev:byV (x++[c])=byV x++[.int .u8 c.toNat]:=by simp[byV]
 refine AppV.one qcp bytI bytZ Jk rfl (by decide +kernel) h rfl hn fun A' c' w' hR=>?_;have:=hk A' c' w';rw[el,ev]at this;exact this hR
theorem AppV.byt2{x:LB}(h:Rw w0 w (.slice A x.length cc) 5 1 x.length (byV x) ((nb,.cells #[.int .u8 0,.int .u8 0] 5)::L))(hn:x.length+2<=8000000000000)(hk:∀A' c' w',Rw w0 w' (.slice A' (x++[0,0]).length c') 5 1 (x++[0,0]).length (byV (x++[0,0])) L->K (.slice A' (x++[0,0]).length c') w'):AppV EG #[60,60] ty (.slice A x.length cc) (.slice (some ⟨nb,0,none⟩) 2 2) w K:=by
 refine AppV.rwB (m:=[0,0]) qcp bytI bytZ Jk rfl (by decide +kernel) h ⟨fun _=>⟨nb,0,rfl,fun j y hj k u hu=>?_⟩⟩ Ys (fun A' c' w' hR=>hk A' c' w' hR.tail);cases k with
 | succ k=>simp[encB]at hu
 | zero=>
  simp only[encB,B9,Bp]at hu;subst hu;rw[qa (h.mem.get mh)]
  match j with
  | 0=>cases hj;rfl
  | 1=>cases hj;rfl
  | j+2=>simp at hj
theorem AppV.str{x:LB}(h:Rw w0 w (.slice A x.length cc) 5 1 x.length (byV x) L)(hL:qmm 5 L)(hn:x.length+s.size<=8000000000000)(hk:∀A' c' w',Rw w0 w' (.slice A' (x++s.data.toList).length c') 5 1 (x++s.data.toList).length (byV (x++s.data.toList)) L->K (.slice A' (x++s.data.toList).length c') w'):AppV EG #[60,9] ty (.slice A x.length cc) (.string s) w K:=by
 have el:(x++s.data.toList).length=x.length+s.size:=by rw[zla];rfl
 have ev:byV (x++s.data.toList)=byV x++byteCells s.data.toList:=by simp[byV,byteCells]
 refine AppV.rwS qcp Tryz.underlying9 bytI bytZ Jk Jk h hL Oo fun v' w' hR=>?_;obtain⟨A',c',rfl⟩:=hR.slice;have:=hk A' c' w';rw[el,ev]at this;exact this hR
theorem q1t{t:TM}(hz:qaj t=0)(hk3:t.kind=3):t.text.size<=65536/\t.type.size<=65536/\t.lang.size<=65536:=by
 rw[qaj,Aa Oo,Ad hk3,litE]at hz
 by_cases h:65536<t.text.size
 ·rw[Ad h]at hz;cases hz
 rw[Aa h]at hz
 by_cases h1:scal t.text.data.toList=none
 ·rw[Ad h1]at hz;cases hz
 rw[Aa h1]at hz
 by_cases h2:iriE t.type≠0
 ·rw[Ad h2]at hz;exact absurd hz h2
 rw[Aa h2]at hz;refine⟨by omega,?_,?_⟩
 ·have h3:iriE t.type=0:=by omega
  unfold iriE at h3
  by_cases h0:refE t.type≠0
  ·rw[Ad h0]at h3;exact absurd h3 h0
  ·have h4:refE t.type=0:=by omega
   unfold refE at h4
   by_cases h5:65536<t.type.size
   ·rw[Ad h5]at h4;cases h4
   ·omega
 ·by_cases h6:65536<t.lang.size
  ·have h7:seq t.lang ⟨#[]⟩=false:=by
    cases h8:seq t.lang ⟨#[]⟩
    ·rfl
    ·rw[qac.1 h8]at h6;exact absurd h6 Od
   rw[Ad ⟨h7,h6⟩]at hz;cases hz
  ·omega
theorem qsw(t:TM)(ht:TermOk t)(w:Ez):Gv EG 73 [qa8 t] w fun r w'=>r=(if qaj t=0 then .tuple #[.string ⟨(qae t).toArray⟩,ii 0]else .tuple #[.string ⟨#[]⟩,ii (qaj t)])/\Ext w w':=by
 refine ze Tryz.func73 Tryz.ntmps73 ?_;refine znm (Mem.nil w) ?_;intro tb w1 hm;have hm:Mem w w1 [(tb,.cells #[ii t.kind,.string t.text,.string t.type,.string t.lang] 24)]:=hm;(conv=>whnf);refine zl hm 0 ?_;refine zcv (qbg t ht w1) ?_;rintro r w2 ⟨rfl,he2⟩;have hm:=hm.call he2;obtain⟨e,ee⟩:∃e,e=qaj t:=⟨_,rfl⟩
 rw[<-ee];conv=>whnf
 (repeat'(first|refine zC (fun _=>zw ?_) (fun _=>zw ?_)|refine LoadV.mem (i:=0) Oa rfl rfl (zw ?_)))
 ·rw[Aa Oo];exact⟨rfl,hm.ext⟩
 rw[Ad Oo]
 ·have h1:qae t=t.text.data.toList:=by rw[qae,Aa Oa]
  rw[h1];exact⟨rfl,hm.ext⟩
 have hk3:t.kind=3:=by omega
 have hbl:t.text.data.toList.length=t.text.size:=rfl;obtain⟨htx,hty,htl⟩:=q1t (show qaj t=0 by omega) hk3;refine qj (fun x:Nat×LB×oA×Nat=>[(1,pp tb),(5,.slice x.2.2.1 x.2.1.length x.2.2.2),(6,ii x.1)])
  (fun x w'=>x.1<=t.text.size/\x.2.1=escL (t.text.data.toList.take x.1)/\Rw w w' (.slice x.2.2.1 x.2.1.length x.2.2.2) 5 1 x.2.1.length (byV x.2.1) [(tb,.cells #[ii t.kind,.string t.text,.string t.type,.string t.lang] 24)]) (fun x=>t.text.size-x.1) (0,[],none,0)
  fq ⟨Am _,rfl,Rw.nil hm⟩ ?_
 clear hm;rintro⟨i,x,A,c⟩ w3 ρ' ⟨i1,hx,hR⟩;dsimp only at i1 hx hR|-;have hxl:=qvu (t.text.data.toList.take i);rw[<-hx,AG]at hxl;have hm:=hR.mem;conv=>whnf
 (repeat'(first|refine zp ?_|refine zC (fun _=>zw ?_) (fun _=>zw ?_)|refine LoadV.mem (i:=0) Oa rfl rfl (zw ?_)))
 ·have hgb:t.text.data.toList.take (i+1)=t.text.data.toList.take i++[gb t.text i]:=by
   rw[BJ,zge Oo,gb,Ag,zge Oo];rfl
  refine NewV.rw hR fun nb w4 hR=>zw ?_;refine AppV.byt (c:=gb t.text i) hR Oo ?_;clear hR;intro B d w5 hR;have hm:=hR.mem;(conv=>whnf);refine LoadV.mem (i:=0) Oa rfl rfl (zw ?_);refine zt ?_;refine zC (fun _=>zu ?_) (fun _=>zu ?_)
  ·refine NewV.rw hR fun nb w6 hR=>zw ?_;refine AppV.byt (c:=1) hR (by rw[zla];simp;omega) ?_;clear hR;intro B2 d2 w7 hR;refine zu ?_;refine⟨(i+1,x++[gb t.text i]++[1],B2,d2),fq,⟨by simp only;omega,?_,hR⟩,by simp only;omega⟩;have h0:gb t.text i=0:=UInt8.toNat.inj (by rw[show(0:E7).toNat=0 from rfl];omega);simp only;rw[hgb,qkw,hx,h0,qb1];simp[escL]
  ·refine⟨(i+1,x++[gb t.text i],B,d),fq,⟨by simp only;omega,?_,hR⟩,by simp only;omega⟩;have h0:gb t.text i≠0:=fun h=>by
    have:(gb t.text i).toNat=0:=by rw[h];rfl
    omega
   simp only;rw[hgb,qkw,hx,qa3 _ h0];simp[escL]
 obtain rfl:i=t.text.size:=by omega
 rw[AF Oo]at hx;have hN:qmm 5 [(tb,Obj.cells #[ii t.kind,.string t.text,.string t.type,.string t.lang] 24)]:=by
  intro y hy c fz h;simp at hy;subst hy;simp at h
 refine NewV.rw hR fun nb w4 hR=>zw ?_;refine AppV.byt2 hR Oo ?_;clear hR;intro B d w5 hR;have hm:=hR.mem;(conv=>whnf);refine LoadV.mem (i:=0) Oa rfl rfl (zw ?_);refine AppV.str hR hN (by rw[zla];simp;omega) ?_;clear hR;intro B d w6 hR;(conv=>whnf);refine NewV.rw hR fun nb w7 hR=>zw ?_;refine AppV.byt (c:=0) hR (by rw[zla,zla,show t.type.data.toList.length=t.type.size from rfl];simp;omega) ?_;clear hR;intro B d w8 hR;have hm:=hR.mem;(conv=>whnf);refine LoadV.mem (i:=0) Oa rfl rfl (zw ?_);refine AppV.str hR hN (by simp only[zla];rw[show t.type.data.toList.length=t.type.size from rfl];simp;omega) ?_;clear hR;intro B d w9 hR;(conv=>whnf);have hB:SlAt encB 1 w9 B (x++[0,0]++t.type.data.toList++[0]++t.lang.data.toList):=V.Rw.slAt (f:=fun c:E7=>Value.int .u8 c.toNat) (fun _=>rfl) hR rfl;refine BytesS.sl hB rfl (zw ?_);have hent:qae t=x++[0,0]++t.type.data.toList++[0]++t.lang.data.toList:=by
  rw[qae,Ad hk3,hx];simp
 rw[hent,Ad Oo];exact⟨rfl,hR.mem.ext⟩
theorem qs7(w:Ez):Gv EG 72 [] w fun r w'=>r=.agg #[ii 1,ii 2,ii 3]/\Ext w w':=by
 refine ze Tryz.func72 Tryz.ntmps72 ?_;refine znm (Mem.nil w) fun r0 w1 hm=>zw ?_;refine zS hm 0 fun w2 hm=>zw ?_;refine qh (R:=fun r w'=>r=.agg #[ii 1,ii 2,ii 3]/\Ext w w') (zw ?_);refine zl hm 0 ?_;exact⟨rfl,hm.ext⟩
theorem q8i(h:∀j,j<k->(vsF l j).2=0)(hk:k<3)(he:(vsF l k).2≠0):sE l=vsF l k:=by
 have:=qcj (f:=vsF l) h hk he;rw[sE,this,Ad he]
theorem qaey:EG.underlying 99=some (.slice 101):=Tryz.underlying99
theorem idsI:EG.info? 101=some ((EG.info? 101).get Jk):=(Bn _).symm
theorem idsZ:((EG.info? 101).get Jk).zero=some ((((EG.info? 101).get Jk).zero).get Jk):=(Bn _).symm
structure Al(w0:Ez)(L:ED)(o1 o1' o2 o2':Obj)(s1 s2 t1 t2:Bool)(v1 v2:E8)(w:Ez):Prop where
 h:∃b1 b2:Nat,(s1=true->v1=pp b1)/\(s2=true->v2=pp b2)/\(s1=false->t1=false)/\(s2=false->t2=false)/\
  Mem w0 w ((bif s1 then[(b1,bif t1 then o1' else o1)]else[])++((bif s2 then[(b2,bif t2 then o2' else o2)]else[])++L))
section
variable {w0 w w':Ez} {L:ED} {o1 o1' o2 o2':Obj} {s1 s2 t1 t2:Bool} {v1 v2:E8}
theorem Al.start(h:Mem w0 w L):Al w0 L o1 o1' o2 o2' false false false false v1 v2 w:=⟨0,0,fun h=>(by cases h),fun h=>(by cases h),fun _=>rfl,fun _=>rfl,h⟩
theorem Al.call(h:Al w0 L o1 o1' o2 o2' s1 s2 t1 t2 v1 v2 w)(he:Ext w w'):Al w0 L o1 o1' o2 o2' s1 s2 t1 t2 v1 v2 w':=by
 obtain⟨b1,b2,h1,h2,h3,h4,h5⟩:=h;exact⟨b1,b2,h1,h2,h3,h4,h5.call he⟩
theorem Al.mem(h:Al w0 L o1 o1' o2 o2' s1 s2 t1 t2 v1 v2 w):Mem w0 w L:=by
 obtain⟨b1,b2,h1,h2,h3,h4,h5⟩:=h;exact h5.sub ((Dq _ _).trans (Dq _ _))
theorem Al.new1(h:Al w0 L o1 o1' o2 o2' false s2 t1 t2 v1 v2 w):Al w0 L o1 o1' o2 o2' true s2 t1 t2 (.pointer (some ⟨w.heap.size,0,none⟩)) v2 (w.alloc o1):=by
 obtain⟨b1,b2,h1,h2,h3,h4,h5⟩:=h;refine⟨w.heap.size,b2,fun _=>rfl,h2,fun h=>(by cases h),h4,?_⟩;rw[h3 rfl];exact h5.new rfl rfl
theorem Al.put1(h:Al w0 L o1 o1' o2 o2' true s2 false t2 v1 v2 w):∃b,v1=pp b/\∃M,Mem w0 w ((b,o1)::M)/\∀{w' u1},Mem w0 w' ((b,o1')::M)->u1=pp b->Al w0 L o1 o1' o2 o2' true s2 true t2 u1 v2 w':=by
 obtain⟨b1,b2,h1,h2,h3,h4,h5⟩:=h;exact⟨b1,h1 rfl,_,h5,fun hm hu=>⟨b1,b2,fun _=>hu,h2,fun h=>(by cases h),h4,hm⟩⟩
theorem Al.done1(h:Al w0 L o1 o1' o2 o2' true false true t2 v1 v2 w):∃b1,v1=pp b1/\Mem w0 w ((b1,o1')::L):=by
 obtain⟨b1,b2,h1,h2,h3,h4,h5⟩:=h;exact⟨b1,h1 rfl,h5⟩
end
theorem LoadV.fim{n:Nat}{F:Nat->Int}{t:E6}{x:Int}{K:E8->Prop}(h:Mem w0 w L)(hi:(b,Obj.cells (fnA n (inF F)) t)∈L)(j:Nat)(e:off=j)(hj:j<n)(hv:F j=x)(hk:K (ii x)):LoadV w b off K:=by
 obtain⟨i,hi⟩:=List.getElem?_of_mem hi;exact LoadV.fi h hi j e hj hv hk
theorem qad7(h:(sE l).2=0):(∀k,k<3->vNum l k<=67108864)/\qo l 3=l.length:=by
 unfold sE at h
 split at h
 ·rename_i h0;exact absurd h h0
 rename_i h0
 split at h
 ·cases h
 rename_i g1
 split at h
 ·cases h
 rename_i g2
 exact⟨fun k hk=>qld (qed (f:=vsF l) (n:=3) Oo k hk),by omega⟩
theorem qlt(h:qo l 3=l.length)(hk:k<3):qo l k+vNum l k<=l.length:=by
 have e1:qo l 1=qo l 0+vNum l 0:=rfl;have e2:qo l 2=qo l 1+vNum l 1:=rfl;have e3:qo l 3=qo l 2+vNum l 2:=rfl
 rcases(show k=0\/k=1\/k=2 by omega)with rfl|rfl|rfl<;>omega
theorem q25(h:qo l 3=l.length)(hk:k<3):(sDict l k).length=vNum l k:=by
 have:=qlt h hk;rw[sDict,AG,zld];omega
namespace V
theorem StoreA.row{t:E6}{K:EC}(h:Mem w0 w L)(hi:L[i]?=some (b,.cells cur t))(hl:off+vs.length<=cur.size)(h1:∀v∈vs,v.oneCell'=true)(hk:∀w',(∀c,c≠b->w'.heap[c]?=w.heap[c]?)->w.heap.size<=w'.heap.size->Mem w0 w' (L.set i (b,.cells (cur.toList.take off++vs++cur.toList.drop (off+vs.length)).toArray t))->K w'):StoreA P w b off vs K:=by
 have hm:(b,Obj.cells cur t)∈L:=zmg hi;have hg:=h.get hm;have hr:=run_storeCells_at P b off t vs 0 cur w hg (by simpa using hl) h1;simp only[BH]at hr;refine⟨_,hr,hk _ (fun c hc=>qw hc) (by simp[World.setRow]) ?_⟩;refine h.set hi ?_ (qcl hg) (fun c hc=>qw hc);exact Below.trans h.ext ⟨rfl,rfl,rfl,by simp[World.setRow],fun k hk=>qw (by have:=(h.own _ hm).1;simp only at this;omega)⟩
structure Er(w0:Ez)(L:ED)(o:Obj)(m1 m2 m3:EB)(c1 c2 c3:Bool)(v1 v2 v3:E8)(w:Ez):Prop where
 h:(c1=false/\c2=false/\c3=false/\Mem w0 w L)\/(c1=true/\∃b,v1=m1 b/\(c2=true->v2=m2 b)/\(c3=true->v3=m3 b)/\Mem w0 w ((b,o)::L))
section
variable {w0 w w':Ez} {L L':ED} {o:Obj} {m1 m2 m3:EB} {c1 c2 c3:Bool} {v1 v2 v3:E8}
theorem Er.start(h:Mem w0 w L):Er w0 L o m1 m2 m3 false false false v1 v2 v3 w:=⟨.inl ⟨rfl,rfl,rfl,h⟩⟩
theorem Er.mem(h:Er w0 L o m1 m2 m3 c1 c2 c3 v1 v2 v3 w):Mem w0 w L:=by
 rcases h.h with⟨_,_,_,h⟩|⟨_,b,_,_,_,h⟩
 ·exact h
 ·exact h.sub (AP ..)
theorem Er.made(h:Er w0 L o m1 m2 m3 false c2 c3 v1 v2 v3 w)(he:Ext w w')(hb:w.heap.size<=b)(ho:w'.heap[b]?=some o):Er w0 L o m1 m2 m3 true c2 c3 (m1 b) v2 v3 w':=by
 rcases h.h with⟨_,h2,h3,hm⟩|⟨h1,_⟩
 ·exact⟨.inr ⟨rfl,b,rfl,fun h=>(by rw[h2]at h;cases h),fun h=>(by rw[h3]at h;cases h),hm.fresh he hb ho⟩⟩
 ·cases h1
theorem Er.alloc(h:Er w0 L o m1 m2 m3 false c2 c3 v1 v2 v3 w):Er w0 L o m1 m2 m3 true c2 c3 (m1 w.heap.size) v2 v3 (w.alloc o):=
 h.made ((Ext.refl w).alloc o) znr (heap_alloc_new w o)
theorem Er.see(h:Er w0 L o m1 m2 m3 true c2 c3 v1 v2 v3 w):∃b,v1=m1 b/\Er w0 L o m1 m2 m3 true true c3 (m1 b) (m2 b) v3 w/\Er w0 L o m1 m2 m3 true c2 true (m1 b) v2 (m3 b) w:=by
 rcases h.h with⟨h1,_⟩|⟨_,b,h2,h3,h4,h⟩
 ·cases h1
 ·exact⟨b,h2,⟨.inr ⟨rfl,b,rfl,fun _=>rfl,h4,h⟩⟩,⟨.inr ⟨rfl,b,rfl,h3,fun _=>rfl,h⟩⟩⟩
theorem Er.see2(h:Er w0 L o m1 m2 m3 c1 true c3 v1 v2 v3 w):∃b,v2=m2 b/\Er w0 L o m1 m2 m3 c1 true true v1 (m2 b) (m3 b) w:=by
 rcases h.h with⟨_,h1,_⟩|⟨h0,b,h2,h3,h4,h⟩
 ·cases h1
 ·exact⟨b,h3 rfl,⟨.inr ⟨h0,b,h2,fun _=>rfl,fun _=>rfl,h⟩⟩⟩
theorem Er.store{K:EC}{t:E6}(h:Er w0 L o m1 m2 m3 c1 c2 c3 v1 v2 v3 w)(hi:L[i]?=some (b,.cells cur t))(hl:cur.size=vs.length)(hv:∀v∈vs,v.oneCell'=true)(hL:L.set i (b,.cells vs.toArray t)=L')(hk:∀w',(∀c,c≠b->w'.heap[c]?=w.heap[c]?)->Er w0 L' o m1 m2 m3 c1 c2 c3 v1 v2 v3 w'->K w'):StoreA P w b 0 vs K:=by
 subst hL;have e:(cur.toList.take 0++vs++cur.toList.drop (0+vs.length)).toArray=vs.toArray:=by
  rw[Bz,Br,Be Ys,AI]
 rcases h.h with⟨h1,h2,h3,h⟩|⟨h1,x,h2,h3,h4,h⟩
 ·refine StoreA.row h hi Oo hv fun w' hf _ hm=>hk w' hf ⟨.inl ⟨h1,h2,h3,?_⟩⟩
  rwa[e]at hm
 ·refine StoreA.row h (i:=i+1) hi Oo hv fun w' hf _ hm=>hk w' hf ⟨.inr ⟨h1,x,h2,h3,h4,?_⟩⟩;rw[e]at hm;exact hm
theorem Er.done(h:Er w0 L o m1 m2 m3 true c2 true v1 v2 v3 w):∃b,v1=m1 b/\v3=m3 b/\Mem w0 w ((b,o)::L):=by
 rcases h.h with⟨h1,_⟩|⟨_,b,h2,_,h4,h⟩
 ·cases h1
 ·exact⟨b,h2,h4 rfl,h⟩
end
theorem StoreV.row{t:E6}{v:E8}{K:EC}(h:Mem w0 w L)(hi:L[i]?=some (b,.cells cs t))(ho:off<cs.size)(h1:qcx v=true)(hk:∀w',(∀c,c≠b->w'.heap[c]?=w.heap[c]?)->w.heap.size<=w'.heap.size->Mem w0 w' (L.set i (b,.cells (cs.setIfInBounds off v) t))->K w'):StoreV w b off v K:=
 StoreV.own (h.get (zmg hi)) ho h1 fun w' hw=>hk w' (fun c hc=>by subst hw;exact Below.heap_setCell _ _ _ _ hc) (by subst hw;simp[World.setCell]) (h.setCell hi hw)
theorem CellsAt.other{x:Nat}(h:CellsAt w b off vs)(hb:b≠x)(hw:∀c,c≠x->w'.heap[c]?=w.heap[c]?):CellsAt w' b off vs:=by
 intro k v hv;have:=h k v hv;unfold World.cell? at this|-;simp only at this|-;rw[hw b hb];exact this
theorem SlAt.other{α:Type}{enc:α->EE}{size:Nat}{l:List α}{x:Nat}{t:E6}(h:SlAt enc size w A l)(hx:w.heap[x]?=some (.cells cs t fz))(hne:∀y∈l,∀v∈cs.toList,(enc y)[0]?≠some v)(hen:∀y∈l,enc y≠[])(hw:∀c,c≠x->w'.heap[c]?=w.heap[c]?):SlAt enc size w' A l:=by
 refine⟨fun hn=>?_⟩;obtain⟨b,off,h1,h2⟩:=h.at_ hn;refine⟨b,off,h1,fun j y hy=>(h2 j y hy).other ?_ hw⟩;intro hbx;subst hbx;have hy':y∈l:=zmg hy;obtain⟨v,hv⟩:∃v,(enc y)[0]?=some v:=by
  cases he:enc y with
  | nil=>exact absurd he (hen y hy')
  | cons v r=>exact⟨v,rfl⟩
 have h3:=h2 j y hy 0 v hv;rw[qa hx]at h3;exact hne y hy' v (Cg.2 (Eb h3)) hv
end V
def errV(b:Nat):E8:=.iface 255 (pp b)
def errO(p c:Nat):Obj:=.cells #[ii p,.iface 61 (ii c)] 259
theorem qp7(p c:Nat)(w:Ez):Gv EG 156 [ii p,ii c] w fun v w'=>∃b,v=errV b/\w.heap.size<=b/\w'.heap[b]?=some (errO p c)/\Ext w w':=by
 refine ze Tryz.func156 Tryz.ntmps156 ?_;refine znm (Mem.nil w) fun b w1 hm=>zw ?_;exact⟨b,rfl,(hm.own _ mh).1,hm.get mh,hm.ext⟩
def ErrTyp(w:Ez):Prop:=w.cell? ⟨0,0,none⟩=some (.iface 365 (.agg #[.pointer (some ⟨7,74,none⟩)]))
theorem ErrTyp.ext(h:ErrTyp w)(he:Ext w w'):ErrTyp w':=he.cell h
theorem qqd(t:E8)(w:Ez):Gv EG 157 [.nilIface,t] w fun r w'=>r=.bool false/\w'=w:=
 qhe Jk ((qacv t w).mono fun e w' ⟨he,hw⟩=>⟨_,he,rfl,hw⟩)
theorem qqc(e pb:Nat)(hm:Mem w0 w L)(hi:L[i]?=some (pb,.cells #[.pointer none] 255))(hg:ErrTyp w):
  Gv EG 157 [errV e,.iface 257 (pp pb)] w fun r w'=>r=.bool true/\Mem w0 w' (L.set i (pb,.cells #[pp e] 255))/\
   ∃w4,Ext w w4/\∀c,c≠pb->w'.heap[c]?=w4.heap[c]?:=by
 have hb:=hm.get (zmg hi);refine qhe Jk ((qacu ⟨e,0,none⟩ ⟨pb,0,none⟩ (.pointer none) w hg (by rw[qa hb];rfl) (by simp[World.frozen?,hb])).mono ?_);rintro r w' ⟨rfl,hw⟩;refine⟨_,rfl,rfl,?_,_,(((((Ext.refl w).alloc _).alloc _).alloc _).alloc _),fun c hc=>by subst hw;exact Below.heap_setCell _ _ _ _ hc⟩;exact(hm.call (((((Ext.refl w).alloc _).alloc _).alloc _).alloc _)).setCell hi hw
def fE(l:LB)(E:Nat->Nat×Nat):Nat×Nat:=if(sE l).2≠0 then sE l else errF (fun k=>if(E k).2=0 then(0,0)else(qo l k+(E k).1,(E k).2)) 3
def vF(d:Nat->Nat)(l:LB)(k:Nat):Nat->E8:=fun j=>
 if j=6 then ii (vTot l k:Nat)else if j/2<k then(if j%2=0 then .pointer (some ⟨d (j/2),0,none⟩)else ii (vTot l (j/2)+1:Nat))else(if j%2=0 then .pointer none else ii 0)
structure VocAt(w:Ez)(b:Nat)(l:LB):Prop where
 h:∃d,w.heap[b]?=some (.cells (fnA 7 (vF d l 3)) 204)/\∀k,k<3->DictAt w (d k) (sDict l k)
theorem VocAt.ext(h:VocAt w b l)(he:Ext w w'):VocAt w' b l:=by
 obtain⟨d,h1,h2⟩:=h;exact⟨d,he.get h1,fun k hk=>(h2 k hk).ext he⟩
def DoR(m:LB)(E:Nat×Nat)(v:E8)(w:Ez):Prop:=
 (E.2≠0/\∃e,v=.tuple #[.pointer none,e]/\ErrAt w e E.1 E.2)\/(E.2=0/\∃b,v=.tuple #[pp b,.nilIface]/\DictAt w b m)
def FndR(l:LB)(E:Nat->Nat×Nat)(v:E8)(w:Ez):Prop:=
 ((fE l E).2≠0/\∃G e,v=.tuple #[.pointer none,.agg (fnA 3 (inF G)),e]/\ErrAt w e (fE l E).1 (fE l E).2)\/
 ((fE l E).2=0/\∃b G,v=.tuple #[pp b,.agg (fnA 3 (inF G)),.nilIface]/\(∀k,k<3->G k=((qo l k:Nat):Int))/\VocAt w b l)
theorem qvz(n:Nat)(F:EB)(j:Nat)(h:j<n):(fnA n F).toList[j]?=some (F j):=by
 have:=qdd n F j h
 simpa using this
theorem qky{n:Nat}{F G:EB}(h:∀j,j<n->F j=G j):fnA n F=fnA n G:=by
 unfold fnA
 congr 1
 exact DN fun j hj=>h j (by simpa using hj)
theorem q5f(n:Nat)(F:EB)(i:Nat)(a b:E8)(h:i+2<=n):((fnA n F).toList.take i++[a,b]++(fnA n F).toList.drop (i+[a,b].length)).toArray=fnA n (updF (updF F i a) (i+1) b):=by
 rw[<-qir,<-qir,<-Bf];simp only[Co,As,BP];have hl:(fnA n F).toList.length=n:=by simp[qz]
 generalize(fnA n F).toList=xs at hl;apply BW;intro j;rw[BX,BX,Ak,DG];simp only[AG,CP,hl]
 by_cases h1:j<i
 ·rw[Ad Oo,Aa Oo,Aa Oo,Bc,Ad h1]
 ·rw[Aa Oo,DG];simp only[As,BP]
  by_cases h2:j=i
  ·subst h2;rw[Ad Oo,Aa Oo,Ad rfl,Ad Oo,show j-min j n=0 by omega];rfl
  ·by_cases h3:j=i+1
   ·subst h3;rw[Ad Oo,Ad rfl,Ad Oo,show i+1-min i n=1 by omega];rfl
   ·rw[Aa Oo,Aa Oo,Aa Oo,Cr]
    congr 1
    omega
theorem DictAt.other{x:Nat}{m:LB}{t:E6}(h:DictAt w b m)(hx:w.heap[x]?=some (.cells cs t fz))(ht:t≠317)(hc:∀v∈cs.toList,∀c:Nat,v≠.int .u8 c)(hw:∀c,c≠x->w'.heap[c]?=w.heap[c]?):DictAt w' b m:=by
 obtain⟨⟨P,cp,E,ce,h1,h2,h3,h4⟩,h5,h6,h7,h8⟩:=h;have hbx:b≠x:=by
  intro e;subst e;rw[hx]at h1
  injection h1 with h1
  injection h1 with _ h1 _
  exact ht h1
 have hne:∀(z:LB),∀y∈z,∀v∈cs.toList,(encB y)[0]?≠some v:=fun z y _ v hv e=>by
  cases e;exact hc _ hv _ rfl
 exact⟨⟨P,cp,E,ce,by rw[hw b hbx];exact h1,h2.other hx (hne _) (fun _ _ e=>by cases e) hw,h3.other hx (hne _) (fun _ _ e=>by cases e) hw,h4⟩,h5,h6,h7,h8⟩
theorem q8s(d:Nat->Nat)(l:LB)(k j:Nat):∀c:Nat,vF d l k j≠.int .u8 c:=by
 intro c;unfold vF
 split
 ·intro e;cases e
 ·split
  ·split<;>(intro e;cases e)
  ·split<;>(intro e;cases e)
theorem qacg(d:Nat->Nat)(l:LB)(k b:Nat)(hk:k<3):fnA 7 (updF (updF (updF (vF d l k) (2*k) (pp b)) (2*k+1) (ii (vTot l k+1:Nat))) 6 (ii (vTot l (k+1):Nat))) =
  fnA 7 (vF (fun j=>if j=k then b else d j) l (k+1)):=qky fun j hj=>by
 rcases(show k=0\/k=1\/k=2 by omega)with rfl|rfl|rfl<;>
 rcases(show j=0\/j=1\/j=2\/j=3\/j=4\/j=5\/j=6 by omega)with rfl|rfl|rfl|rfl|rfl|rfl|rfl<;>rfl
theorem q0o(l:LB)(A:oA)(c:Nat)(w:Ez)(hS:SlAt encB 1 w A l)(hc:l.length<=c)(hl:l.length<=70368744177664)(hG:ErrTyp w)(f:FuncId)(E:Nat->Nat×Nat)(hEb:∀k,k<3->(E k).1<=70368744177664)(hf:∀k,k<3->∀w' B c',Ext w w'->SlAt encB 1 w' B (sDict l k)->(sDict l k).length<=c'->Gv EG f [.slice B (sDict l k).length c'] w' fun v w''=>DoR (sDict l k) (E k) v w''/\Ext w' w''):
  Gv EG 100 [.slice A l.length c,.func (.func f) #[] #[]] w fun v w'=>FndR l E v w'/\Ext w w':=by
 refine ze Tryz.func100 Tryz.ntmps100 ?_;refine znm (Mem.nil w) fun r5 w1 hm=>zw ?_;refine zcv (qem _ l w1 ⟨A,c,rfl,hc,hS.ext hm.ext⟩) ?_;rintro v w2 ⟨cb,rfl,hcb,hco,he1⟩;have hm:=hm.fresh he1 hcb hco;(conv=>whnf);refine znm hm fun sz w3 hm=>zw ?_;refine znm hm fun pl w4 hm=>zw ?_;refine qj (fun x:Nat×(Nat->Int)=>[(0,.slice A l.length c),(1,.func (.func f) #[] #[]),(4,.pointer none),(5,pp r5),(6,.nilIface),(7,pp cb),(8,pp sz),(9,pp pl),(24,ii x.1)])
  (fun x w'=>x.1<=3/\(∀j,j<x.1->(vsF l j).2=0)/\(∀j,j<x.1->x.2 j=((vNum l j:Nat):Int))/\Mem w w' [(pl,.cells (fnA 3 (inF (fun _:Nat=>(0:Int)))) 56),(sz,.cells (fnA 3 (inF (x.2))) 56),(cb,curO 288 (.slice A l.length c) (vAt l x.1) 0),(r5,.cells (fnA 3 (inF (fun _:Nat=>(0:Int)))) 56)]) (fun x=>3-x.1) (0,fun _:Nat=>(0:Int))
  fq ⟨by simp,fun j h=>by simp at h,fun j h=>by simp at h,hm⟩ ?_
 clear hm hco he1 hcb;rintro⟨k,Q⟩ w6 ρ' ⟨k1,hz,hQ,hm⟩;dsimp only at k1 hz hQ hm|-;have hle:=qh9 l k;have hlt:=qui l k;(conv=>whnf);refine zC (fun _=>zw ?_) (fun _=>zw ?_)
 ·refine zcv (qjj cb (.slice A l.length c) (vAt l k) 0 w6 (hm.get Js)) ?_;rintro r w7 ⟨rfl,rfl⟩;(conv=>whnf);refine zcv (qc8 cb (.slice A l.length c) (vAt l k) 0 l _ (hm.get Js) ⟨A,c,rfl,hc,hS.ext hm.ext⟩ hle Oo) ?_;rintro r w8 ⟨rfl,hu⟩
  by_cases he:(numL (l.drop (vAt l k))).2.2=0
  case neg=>
   rw[qp2 he,qp3 he]at hu;rw[qp1 he];obtain⟨q,eq⟩:∃q,q=(numL (l.drop (vAt l k))).2.2:=⟨_,rfl⟩
   have hf:vsF l k=(vAt l k,q):=by rw[vsF,qo8 he,eq]
   rw[<-eq]at hu he;have hE1:sE l=(vAt l k,q):=by rw[q8i hz Oo (by rw[hf];exact he),hf]
   have hE:fE l E=(vAt l k,q):=by rw[fE,hE1,Ad he]
   have hm:Mem w w8 [(pl,.cells (fnA 3 (inF (fun _:Nat=>(0:Int)))) 56),(sz,.cells (fnA 3 (inF (Q))) 56),(cb,curO 288 (.slice A l.length c) (vAt l k) q),(r5,.cells (fnA 3 (inF (fun _:Nat=>(0:Int)))) 56)]:=hm.upd (i:=2) rfl hu;(conv=>whnf);refine zcv (qcb cb (.slice A l.length c) (vAt l k) q w8 (hm.get Js)) ?_;rintro r w9 ⟨rfl,rfl⟩;refine zu ?_;refine DrawV.gen (fun S vals w'=>Er w [(pl,.cells (fnA 3 (inF (fun _:Nat=>(0:Int)))) 56),(sz,.cells (fnA 3 (inF (Q))) 56),(cb,curO 288 (.slice A l.length c) (vAt l k) q),(r5,.cells (bif S 6 then fnA 3 (inF (fun _:Nat=>(0:Int)))else fnA 3 (inF (fun _:Nat=>(0:Int)))) 56)] (errO (vAt l k) (q)) errV errV errV (S 4) false (S 7) (vals 4) undef (vals 7) w') rfl Jk (fun vals=>Er.start hm.drew) ?_;clear hm;(conv=>whnf);refine StepG.of (.agg (fnA 3 (inF (fun _:Nat=>(0:Int))))) (fun S vals wd hk hp hI=>zw ?_) (zw ?_)
   ·refine LoadA.mem hI.mem (i:=0) rfl (by simp[qz];rfl) (zw ?_);exact⟨rfl,hI⟩
   refine zg ?_;refine zg ?_;refine StepG.of (ii (q:Nat)) (fun S vals wd hk hp hI=>zw ?_) (zw ?_)
   ·refine zcv (qcb cb (.slice A l.length c) (vAt l k) q wd (hI.mem.get Js)) ?_;rintro r w9 ⟨rfl,rfl⟩;exact⟨rfl,hI⟩
   refine StepG.any (fun S vals wd hk hp hI=>?_) (zw ?_)
   ·dsimp only at hI;rw[hk]at hI;(conv=>whnf);refine zcv (qp7 (vAt l k) (q) wd) ?_;rintro v w8 ⟨eb,rfl,hb,ho,he⟩;exact⟨trivial,hI.made he hb ho⟩
   refine zg ?_;refine StepG.of undef (fun S vals wd hk hp hI=>?_) (zw ?_)
   ·dsimp only at hI;rw[hk]at hI;(conv=>whnf);refine hI.store (i:=3) rfl (by simp[qz]) (qgr 3 _) rfl ?_;intro wx _ hx;(conv=>whnf);exact⟨rfl,hx⟩
   refine StepG.any (fun S vals wd hk hp hI=>?_) (zw ?_)
   ·have h4:S 4=true:=hp 4 Od;dsimp only at hI;rw[hk,h4]at hI;obtain⟨eb,hv,_,h3⟩:=hI.see;rw[ql hv];(conv=>whnf);exact⟨trivial,by show Er _ _ _ _ _ _ (S 4) false true _ _ _ _;rw[h4];exact h3⟩
   intro vals w8 hI;obtain⟨eb,hv1,hv3,hm⟩:=hI.done;rw[ql hv1,ql hv3];clear hI;(conv=>whnf);refine qh (R:=fun v w'=>FndR l E v w'/\Ext w w') (zw ?_);refine LoadA.mem hm (i:=4) rfl (by simp[qz];rfl) (zw ?_);exact⟨.inl ⟨by rw[hE];exact he,(fun _:Nat=>(0:Int)),errV eb,rfl,⟨eb,rfl,by rw[hE];exact CellsAt.mem hm mh⟩⟩,hm.ext⟩
  rw[qp5 he,qp6 he]at hu;rw[qp4 he];have hm:Mem w w8 [(pl,.cells (fnA 3 (inF (fun _:Nat=>(0:Int)))) 56),(sz,.cells (fnA 3 (inF (Q))) 56),(cb,curO 288 (.slice A l.length c) (vAt l (k+1)) 0),(r5,.cells (fnA 3 (inF (fun _:Nat=>(0:Int)))) 56)]:=hm.upd (i:=2) rfl hu;(conv=>whnf);refine zcv (qcb cb (.slice A l.length c) (vAt l (k+1)) 0 w8 (hm.get Js)) ?_;rintro r w9 ⟨rfl,rfl⟩;(conv=>whnf);refine zt ?_;refine zC (fun _=>zu ?_) (fun _=>zu ?_)
  ·have hf:vsF l k=(vAt l k,2):=by rw[vsF,qle he Oo]
   have hE1:sE l=(vAt l k,2):=by rw[q8i hz Oo (by rw[hf];exact Cz _),hf]
   have hE:fE l E=(vAt l k,2):=by rw[fE,hE1,Ad (Cz _)]
   refine DrawV.gen (fun S vals w'=>Er w [(pl,.cells (fnA 3 (inF (fun _:Nat=>(0:Int)))) 56),(sz,.cells (fnA 3 (inF (Q))) 56),(cb,curO 288 (.slice A l.length c) (vAt l (k+1)) 0),(r5,.cells (bif S 4 then fnA 3 (inF (fun _:Nat=>(0:Int)))else fnA 3 (inF (fun _:Nat=>(0:Int)))) 56)] (errO (vAt l k) (2)) errV errV errV (S 2) false (S 5) (vals 2) undef (vals 5) w') rfl Jk (fun vals=>Er.start hm.drew) ?_;clear hm;(conv=>whnf);refine StepG.of (.agg (fnA 3 (inF (fun _:Nat=>(0:Int))))) (fun S vals wd hk hp hI=>zw ?_) (zw ?_)
   ·refine LoadA.mem hI.mem (i:=0) rfl (by simp[qz];rfl) (zw ?_);exact⟨rfl,hI⟩
   refine zg ?_;refine StepG.any (fun S vals wd hk hp hI=>?_) (zw ?_)
   ·dsimp only at hI;rw[hk]at hI;(conv=>whnf);refine zcv (qp7 (vAt l k) (2) wd) ?_;rintro v w8 ⟨eb,rfl,hb,ho,he⟩;exact⟨trivial,hI.made he hb ho⟩
   refine zg ?_;refine StepG.of undef (fun S vals wd hk hp hI=>?_) (zw ?_)
   ·dsimp only at hI;rw[hk]at hI;(conv=>whnf);refine hI.store (i:=3) rfl (by simp[qz]) (qgr 3 _) rfl ?_;intro wx _ hx;(conv=>whnf);exact⟨rfl,hx⟩
   refine StepG.any (fun S vals wd hk hp hI=>?_) (zw ?_)
   ·have h4:S 2=true:=hp 2 Od;dsimp only at hI;rw[hk,h4]at hI;obtain⟨eb,hv,_,h3⟩:=hI.see;rw[ql hv];(conv=>whnf);exact⟨trivial,by show Er _ _ _ _ _ _ (S 2) false true _ _ _ _;rw[h4];exact h3⟩
   intro vals w8 hI;obtain⟨eb,hv1,hv3,hm⟩:=hI.done;rw[ql hv1,ql hv3];clear hI;(conv=>whnf);refine qh (R:=fun v w'=>FndR l E v w'/\Ext w w') (zw ?_);refine LoadA.mem hm (i:=4) rfl (by simp[qz];rfl) (zw ?_);exact⟨.inl ⟨by rw[hE];exact Cz _,(fun _:Nat=>(0:Int)),errV eb,rfl,⟨eb,rfl,by rw[hE];exact CellsAt.mem hm mh⟩⟩,hm.ext⟩
  refine StoreV.fi (x:=((vNum l k:Nat):Int)) hm (i:=1) rfl k (by rw[show tsz EG 3=1 from by kernel_rfl];omega) Oo fun w10 hm=>zu ?_;refine⟨(k+1,updI Q k (vNum l k:Nat)),fq,⟨by simp only;omega,fun j hj=>?_,fun j hj=>?_,hm⟩,by simp only;omega⟩
  ·by_cases e:j=k
   ·subst e;rw[vsF,qcw he Oo]
   ·exact hz j (by simp only at hj;omega)
  ·simp only at hj|-
   by_cases e:j=k
   ·subst e;exact q3t _ _ _
   ·rw[q3u _ _ _ _ e];exact hQ j Oo
 obtain rfl:k=3:=by omega
 have hz0:(errF (vsF l) 3).2=0:=qaf hz;have hnb:∀j,j<3->vNum l j<=67108864:=fun j hj=>qld (hz j hj)
 refine zcv (qjj cb (.slice A l.length c) (vAt l 3) 0 w6 (hm.get Js)) ?_;rintro r w7 ⟨rfl,rfl⟩;(conv=>whnf);refine LoadA.mem hm (i:=1) rfl (by simp[qz];rfl) (zw ?_);refine qj (fun x:Nat×(Nat->Int)=>[(0,.slice A l.length c),(1,.func (.func f) #[] #[]),(4,.pointer none),(5,pp r5),(6,.nilIface),(8,pp sz),(9,pp pl),(13,ii (qo l x.1:Nat)),(53,.agg (fnA 3 (inF Q))),(54,ii x.1)])
  (fun x w'=>x.1<=3/\(∀j,j<x.1->x.2 j=((qo l j:Nat):Int))/\Mem w w' [(pl,.cells (fnA 3 (inF (x.2))) 56),(sz,.cells (fnA 3 (inF (Q))) 56),(cb,curO 288 (.slice A l.length c) (vAt l 3) 0),(r5,.cells (fnA 3 (inF (fun _:Nat=>(0:Int)))) 56)]) (fun x=>3-x.1) (0,fun _:Nat=>(0:Int))
  fq ⟨by simp,fun j h=>by simp at h,hm⟩ ?_
 clear hm;rintro⟨k,P⟩ w8 ρ2 ⟨k2,hP,hm⟩;dsimp only at k2 hP hm|-;have hs1:qo l (k+1)=qo l k+vNum l k:=rfl;have hsb:∀j,j<=3->qo l j<=l.length+201326592:=by
  have e0:qo l 0=vAt l 3:=rfl;have e1:qo l 1=qo l 0+vNum l 0:=rfl;have e2:qo l 2=qo l 1+vNum l 1:=rfl;have e3:qo l 3=qo l 2+vNum l 2:=rfl;have h0:=hnb 0 Oo;have h1:=hnb 1 Oo;have h2:=hnb 2 Oo;have h3:=qh9 l 3;intro j hj
  rcases(show j=0\/j=1\/j=2\/j=3 by omega)with rfl|rfl|rfl|rfl<;>omega
 have hsk:=hsb k Oo;conv=>whnf
 (repeat'(first|refine zp ?_|refine zC (fun _=>zw ?_) (fun _=>zw ?_)))
 ·have hn:=hnb k Oo;refine⟨ii (vNum l k:Nat),?_,?_⟩
  ·rw[show k*tsz EG 3=k from by rw[show tsz EG 3=1 from by kernel_rfl];omega];have:=qvz 3 (inF Q) k Oo;rw[inF,hQ k Oo]at this;exact this
  (conv=>whnf);refine IdxV.at_ k Oo Oo (zw ?_);refine StoreV.fi (x:=((qo l k:Nat):Int)) hm (i:=0) rfl k (by rw[show tsz EG 3=1 from by kernel_rfl];omega) Oo fun w10 hm=>zu ?_;refine⟨(k+1,updI P k (qo l k:Nat)),⟨rfl,rfl,rfl,rfl,rfl,rfl,rfl,?_,rfl,rfl,trivial⟩,⟨by simp only;omega,fun j hj=>?_,hm⟩,by simp only;omega⟩
  ·show ii _=ii _
   congr 1
  ·simp only at hj|-
   by_cases e:j=k
   ·subst e;exact q3t _ _ _
   ·rw[q3u _ _ _ _ e];exact hP j Oo
 ·obtain rfl:k=3:=by omega
  have hsE:sE l=if l.length<qo l 3 then(l.length,10)else if qo l 3<l.length then(qo l 3,13)else(0,0):=by rw[sE,Aa Oo]
  have hE1:sE l=(l.length,10):=by rw[hsE,Ad Oo]
  have hE:fE l E=(l.length,10):=by rw[fE,hE1,Ad (Cz _)]
  refine DrawV.gen (fun S vals w'=>Er w [(pl,.cells (fnA 3 (inF (P))) 56),(sz,.cells (fnA 3 (inF (Q))) 56),(cb,curO 288 (.slice A l.length c) (vAt l 3) 0),(r5,.cells (bif S 5 then fnA 3 (inF (P))else fnA 3 (inF (fun _:Nat=>(0:Int)))) 56)] (errO (l.length) (10)) errV errV errV (S 3) false (S 6) (vals 3) undef (vals 6) w') rfl Jk (fun vals=>Er.start hm.drew) ?_;clear hm;(conv=>whnf);refine StepG.of (.agg (fnA 3 (inF (P)))) (fun S vals wd hk hp hI=>zw ?_) (zw ?_)
  ·refine LoadA.mem hI.mem (i:=0) rfl (by simp[qz];rfl) (zw ?_);exact⟨rfl,hI⟩
  refine zg ?_;refine zg ?_;refine StepG.any (fun S vals wd hk hp hI=>?_) (zw ?_)
  ·dsimp only at hI;rw[hk]at hI;(conv=>whnf);refine zcv (qp7 (l.length) (10) wd) ?_;rintro v w8 ⟨eb,rfl,hb,ho,he⟩;exact⟨trivial,hI.made he hb ho⟩
  refine zg ?_;refine StepG.of undef (fun S vals wd hk hp hI=>?_) (zw ?_)
  ·dsimp only at hI;rw[hk]at hI;(conv=>whnf);refine hI.store (i:=3) rfl (by simp[qz]) (qgr 3 _) rfl ?_;intro wx _ hx;(conv=>whnf);exact⟨rfl,hx⟩
  refine StepG.any (fun S vals wd hk hp hI=>?_) (zw ?_)
  ·have h4:S 3=true:=hp 3 Od;dsimp only at hI;rw[hk,h4]at hI;obtain⟨eb,hv,_,h3⟩:=hI.see;rw[ql hv];(conv=>whnf);exact⟨trivial,by show Er _ _ _ _ _ _ (S 3) false true _ _ _ _;rw[h4];exact h3⟩
  intro vals w8 hI;obtain⟨eb,hv1,hv3,hm⟩:=hI.done;rw[ql hv1,ql hv3];clear hI;(conv=>whnf);refine qh (R:=fun v w'=>FndR l E v w'/\Ext w w') (zw ?_);refine LoadA.mem hm (i:=4) rfl (by simp[qz];rfl) (zw ?_);exact⟨.inl ⟨by rw[hE];exact Cz _,(P),errV eb,rfl,⟨eb,rfl,by rw[hE];exact CellsAt.mem hm mh⟩⟩,hm.ext⟩
 ·obtain rfl:k=3:=by omega
  have hsE:sE l=if l.length<qo l 3 then(l.length,10)else if qo l 3<l.length then(qo l 3,13)else(0,0):=by rw[sE,Aa Oo]
  have hE1:sE l=(qo l 3,13):=by rw[hsE,Aa Oo,Ad Oo]
  have hE:fE l E=(qo l 3,13):=by rw[fE,hE1,Ad (Cz _)]
  refine DrawV.gen (fun S vals w'=>Er w [(pl,.cells (fnA 3 (inF (P))) 56),(sz,.cells (fnA 3 (inF (Q))) 56),(cb,curO 288 (.slice A l.length c) (vAt l 3) 0),(r5,.cells (bif S 4 then fnA 3 (inF (P))else fnA 3 (inF (fun _:Nat=>(0:Int)))) 56)] (errO (qo l 3) (13)) errV errV errV (S 2) false (S 5) (vals 2) undef (vals 5) w') rfl Jk (fun vals=>Er.start hm.drew) ?_;clear hm;(conv=>whnf);refine StepG.of (.agg (fnA 3 (inF (P)))) (fun S vals wd hk hp hI=>zw ?_) (zw ?_)
  ·refine LoadA.mem hI.mem (i:=0) rfl (by simp[qz];rfl) (zw ?_);exact⟨rfl,hI⟩
  refine zg ?_;refine StepG.any (fun S vals wd hk hp hI=>?_) (zw ?_)
  ·dsimp only at hI;rw[hk]at hI;(conv=>whnf);refine zcv (qp7 (qo l 3) (13) wd) ?_;rintro v w8 ⟨eb,rfl,hb,ho,he⟩;exact⟨trivial,hI.made he hb ho⟩
  refine zg ?_;refine StepG.of undef (fun S vals wd hk hp hI=>?_) (zw ?_)
  ·dsimp only at hI;rw[hk]at hI;(conv=>whnf);refine hI.store (i:=3) rfl (by simp[qz]) (qgr 3 _) rfl ?_;intro wx _ hx;(conv=>whnf);exact⟨rfl,hx⟩
  refine StepG.any (fun S vals wd hk hp hI=>?_) (zw ?_)
  ·have h4:S 2=true:=hp 2 Od;dsimp only at hI;rw[hk,h4]at hI;obtain⟨eb,hv,_,h3⟩:=hI.see;rw[ql hv];(conv=>whnf);exact⟨trivial,by show Er _ _ _ _ _ _ (S 2) false true _ _ _ _;rw[h4];exact h3⟩
  intro vals w8 hI;obtain⟨eb,hv1,hv3,hm⟩:=hI.done;rw[ql hv1,ql hv3];clear hI;(conv=>whnf);refine qh (R:=fun v w'=>FndR l E v w'/\Ext w w') (zw ?_);refine LoadA.mem hm (i:=4) rfl (by simp[qz];rfl) (zw ?_);exact⟨.inl ⟨by rw[hE];exact Cz _,(P),errV eb,rfl,⟨eb,rfl,by rw[hE];exact CellsAt.mem hm mh⟩⟩,hm.ext⟩
 obtain rfl:k=3:=by omega
 have hpl:qo l 3=l.length:=by omega
 have hE0:(sE l).2=0:=by rw[sE,Aa Oo,Aa Oo,Aa Oo]
 have hfE:fE l E=errF (fun k=>if(E k).2=0 then(0,0)else(qo l k+(E k).1,(E k).2)) 3:=by rw[fE,Aa Oo]
 refine znm hm fun vb w9 hm=>zw ?_;refine LoadA.mem hm (i:=2) rfl (by simp[qz];rfl) (zw ?_);refine qj (fun x:Nat×(Nat->Nat)=>[(0,.slice A l.length c),(1,.func (.func f) #[] #[]),(4,.pointer none),(5,pp r5),(6,.nilIface),(9,pp pl),(16,pp vb),(84,.agg (fnA 3 (inF Q))),(85,ii x.1)])
  (fun x w'=>x.1<=3/\(∀j,j<x.1->(E j).2=0)/\(∀j,j<x.1->DictAt w' (x.2 j) (sDict l j))/\Mem w w' [(vb,.cells (fnA 7 (vF (x.2) l (x.1))) 204),(pl,.cells (fnA 3 (inF (P))) 56),(sz,.cells (fnA 3 (inF (Q))) 56),(cb,curO 288 (.slice A l.length c) (vAt l 3) 0),(r5,.cells (fnA 3 (inF (fun _:Nat=>(0:Int)))) 56)]) (fun x=>3-x.1) (0,fun _=>0)
  fq ⟨by simp,fun j h=>by simp at h,fun j h=>by simp at h,hm⟩ ?_
 clear hm;rintro⟨k,d⟩ w10 ρ3 ⟨k3,hEz,hD,hm⟩;dsimp only at k3 hEz hD hm|-;(conv=>whnf);refine zC (fun _=>zu ?_) (fun _=>zu ?_)
 ·have hn:=hnb k Oo;have hPk:=hP k Oo;have hple:=qlt hpl (k:=k) Oo;have hdl:=q25 hpl (k:=k) Oo;obtain⟨y,ey⟩:∃y,y=qo l k:=⟨_,rfl⟩
  obtain⟨z,ez⟩:∃z,z=vNum l k:=⟨_,rfl⟩
  obtain⟨B,eB⟩:∃B,B=(if y+z=y then A else A.map (·.add (y*1))):=⟨_,rfl⟩
  have hB:SlAt encB 1 w B (sDict l k):=by
   rw[eB,sDict,<-ey];have:=hS.cut (lo:=y) (hi:=y+z) (m:=y+z) Oo Oo Oo rfl
   rwa[show y+z-y=vNum l k by omega]at this
  have hfk:=fun w' h1 h2=>hf k Oo w' B z h1 h2 Oo
  rw[hdl]at hfk;refine⟨ii (vNum l k:Nat),?_,?_⟩
  ·rw[show k*tsz EG 3=k from by rw[show tsz EG 3=1 from by kernel_rfl];omega];have:=qvz 3 (inF Q) k Oo;rw[inF,hQ k Oo]at this;exact this
  rw[<-ey]at hPk hple;rw[<-ez]at hn hple hfk|-;(conv=>whnf);have hEbk:=hEb k Oo
  by_cases hEk:(E k).2=0
  ·refine DrawV.free Jk Jk (zw ?_);(iterate 4 (refine zd ?_));refine zsd (ii (y:Nat)) (fun wd hd=>zw ?_) (zw ?_)
   ·refine LoadV.fim (x:=((y:Nat):Int)) (hm.drew.call hd) (b:=pl) (F:=P) (n:=3) (t:=56) Js k (by rw[show tsz EG 3=1 from by kernel_rfl];omega) Oo hPk (zw ?_);exact xq
   refine zd ?_;refine zd ?_;refine zsd (ii (y:Nat)) (fun wd hd=>zw ?_) (zw ?_)
   ·refine LoadV.fim (x:=((y:Nat):Int)) (hm.drew.call hd) (b:=pl) (F:=P) (n:=3) (t:=56) Js k (by rw[show tsz EG 3=1 from by kernel_rfl];omega) Oo hPk (zw ?_);exact xq
   (iterate 4 (refine zd ?_));refine zsd (ii (y:Nat)) (fun wd hd=>zw ?_) (zw ?_)
   ·refine LoadV.fim (x:=((y:Nat):Int)) (hm.drew.call hd) (b:=pl) (F:=P) (n:=3) (t:=56) Js k (by rw[show tsz EG 3=1 from by kernel_rfl];omega) Oo hPk (zw ?_);exact xq
   refine zd ?_;refine zd ?_;refine zsd (.slice B z z) (fun wd hd=>zw ?_) (zw ?_)
   ·refine SliceV.to y (y+z) (y+z) rfl (by show(_:Int)=_;omega) (by show(_:Int)=_;omega) Oo znr Oo (fun _=>rfl) ?_;rw[show tsz EG 5=1 from by kernel_rfl,<-eB,show y+z-y=z by omega];(conv=>whnf);exact xq
   apply StepD.of (fun v wx=>∃b,v=.tuple #[pp b,.nilIface]/\DictAt wx b (sDict l k)) (fun _ _ _ ⟨b,h1,h2⟩ he=>⟨b,h1,h2.ext he⟩)
   ·intro wd hd;(conv=>whnf);refine zcv (hfk wd (hm.drew.call hd).ext (hB.ext (hm.drew.call hd).ext)) ?_;rintro v w11 ⟨⟨h0,_⟩|⟨_,b,rfl,hD⟩,he11⟩
    ·exact absurd hEk h0
    ·exact⟨he11,b,rfl,hD⟩
   (conv=>whnf);apply StepD.of (fun v wx=>∃b,v=.tuple #[pp b,.nilIface]/\DictAt wx b (sDict l k)) (fun _ _ _ ⟨b,h1,h2⟩ he=>⟨b,h1,h2.ext he⟩)
   ·intro wd hd;(conv=>whnf);rintro v ⟨b,rfl,hD⟩;(conv=>whnf);exact⟨xr,b,rfl,hD⟩
   (conv=>whnf);apply StepD.of (fun v wx=>∃b,v=pp b/\DictAt wx b (sDict l k)) (fun _ _ _ ⟨b,h1,h2⟩ he=>⟨b,h1,h2.ext he⟩)
   ·intro wd hd;(conv=>whnf);rintro v ⟨b,rfl,hD⟩;(conv=>whnf);exact⟨xr,b,rfl,hD⟩
   (conv=>whnf);apply zsd .nilIface
   ·intro wd hd;conv=>whnf
    repeat(rintro v ⟨b,rfl,hD⟩;(conv=>whnf))
    exact xq
   (conv=>whnf);apply StepD.of (fun v wx=>∃b,v=pp b/\DictAt wx b (sDict l k)) (fun _ _ _ ⟨b,h1,h2⟩ he=>⟨b,h1,h2.ext he⟩)
   ·intro wd hd;conv=>whnf
    repeat(rintro v ⟨b,rfl,hD⟩;(conv=>whnf))
    exact⟨xr,_,rfl,by assumption⟩
   (conv=>whnf);apply zsd .nilIface
   ·intro wd hd;conv=>whnf
    repeat(rintro v ⟨b,rfl,hD⟩;(conv=>whnf))
    exact xq
   (conv=>whnf);intro w11 he11;have hm:=hm.drew.call he11;have hD:=fun j hj=>(hD j hj).ext ((Ext.refl w10).drew.trans he11)
   clear he11;(conv=>whnf);rintro v ⟨b,rfl,hDb⟩;conv=>whnf
   repeat(rintro v ⟨_,rfl,_⟩;(conv=>whnf))
   refine⟨fun pb w12 hpb hw12=>?_⟩;have he12:Ext w11 w12:=by rw[hw12];exact xr.alloc _
   have hm:=hm.new hpb hw12;have hD:=fun j hj=>(hD j hj).ext he12
   have hDb:=hDb.ext he12;clear he12 hw12 hpb;(conv=>whnf);refine zcv (qqd _ w12) ?_;rintro r w13 ⟨rfl,rfl⟩;refine zu ?_;refine DrawV.inv (fun S w'=>Mem w w' [(pb,.cells #[.pointer none] 255),(vb,.cells (bif S 12 then fnA 7 (updF (updF (vF d l k) (2*k) (pp b)) (2*k+1) (ii (vTot l k+1:Nat)))else fnA 7 (vF d l k)) 204),(pl,.cells (fnA 3 (inF (P))) 56),(sz,.cells (fnA 3 (inF (Q))) 56),(cb,curO 288 (.slice A l.length c) (vAt l 3) 0),(r5,.cells (fnA 3 (inF (fun _:Nat=>(0:Int)))) 56)]/\(∀j,j<k->DictAt w' (d j) (sDict l j))/\DictAt w' b (sDict l k)) rfl Jk ⟨hm.drew,fun j hj=>(hD j hj).ext xr.drew,hDb.ext xr.drew⟩ ?_;have hdk:=hDb.n;have hvt:vTot l k<=8388608:=by
    rcases(show k=0\/k=1\/k=2 by omega)with rfl|rfl|rfl
    ·exact Am _
    ·have h0:=(hD 0 Oo).n;simp only[vTot];omega
    ·have h0:=(hD 0 Oo).n;have h1:=(hD 1 Oo).n;simp only[vTot];omega
   clear hm hD hDb;(conv=>whnf);(iterate 6 (refine zi ?_));refine StepI.of (ii (vTot l k:Nat)) (fun S wd hk hp hI=>zw ?_) (zw ?_)
   ·dsimp only at hI;cases h12:S 12
    ·rw[h12]at hI;refine LoadV.fn (v:=ii (vTot l k:Nat)) hI.1 (i:=1) rfl 6 rfl Oo rfl (zw ?_);exact⟨rfl,by show Mem _ _ [_,(vb,.cells (bif S 12 then _ else _) _ _),_,_,_,_]/\_;rw[h12];exact hI⟩
    ·rw[h12]at hI;refine LoadV.fn (v:=ii (vTot l k:Nat)) hI.1 (i:=1) rfl 6 rfl Oo (by rw[qak _ _ _ _ Oo,qak _ _ _ _ Oo];rfl) (zw ?_);exact⟨rfl,by show Mem _ _ [_,(vb,.cells (bif S 12 then _ else _) _ _),_,_,_,_]/\_;rw[h12];exact hI⟩
   (iterate 5 (refine zi ?_));refine StepI.of undef (fun S wd hk hp hI=>?_) (zw ?_)
   ·dsimp only at hI;rw[hk]at hI;(conv=>whnf);have hx:=hI.1.get (zmc mh);refine StoreA.row hI.1 (i:=1) rfl (by rw[show tsz EG 201=2 from by kernel_rfl];simp[qz];omega) (by simp[Value.oneCell']) ?_;intro wx hfr _ hmx;have hmx:Mem w wx [(pb,.cells #[.pointer none] 255),(vb,.cells (fnA 7 (updF (updF (vF d l k) (2*k) (pp b)) (2*k+1) (ii (vTot l k+1:Nat)))) 204),(pl,.cells (fnA 3 (inF (P))) 56),(sz,.cells (fnA 3 (inF (Q))) 56),(cb,curO 288 (.slice A l.length c) (vAt l 3) 0),(r5,.cells (fnA 3 (inF (fun _:Nat=>(0:Int)))) 56)]:=by
     have e:=q5f 7 (vF d l k) (2*k) (pp b) (ii (vTot l k+1:Nat)) Oo;rw[<-e];have e2:0+0+k*tsz EG 201=2*k:=by rw[show tsz EG 201=2 from by kernel_rfl];omega
     rw[<-e2];exact hmx
    (conv=>whnf);refine⟨rfl,hmx,fun j hj=>(hI.2.1 j hj).other hx Od ?_ hfr,hI.2.2.other hx Od ?_ hfr⟩
    all_goals
     intro v hv c;obtain⟨m,hm',rfl⟩:=AY.1 (show v∈(List.range 7).map (vF d l k)from hv);exact q8s d l k m c
   intro w14 hI;obtain⟨hm,hD,hDb⟩:=hI;(conv=>whnf);refine DrawV.inv (fun S w'=>((S 6=true->S 3=true)/\(S 9=true->S 3=true))/\Mem w w' [(pb,.cells #[.pointer none] 255),(vb,.cells (bif S 9 then fnA 7 (updF (updF (updF (vF d l k) (2*k) (pp b)) (2*k+1) (ii (vTot l k+1:Nat))) 6 (ii (vTot l (k+1):Nat)))else fnA 7 (updF (updF (vF d l k) (2*k) (pp b)) (2*k+1) (ii (vTot l k+1:Nat)))) 204),(pl,.cells (fnA 3 (inF (P))) 56),(sz,.cells (fnA 3 (inF (Q))) 56),(cb,curO 288 (.slice A l.length c) (vAt l 3) 0),(r5,.cells (fnA 3 (inF (fun _:Nat=>(0:Int)))) 56)]/\(∀j,j<k->DictAt w' (d j) (sDict l j))/\DictAt w' b (sDict l k)) rfl Jk ⟨⟨fun h=>(by cases h),fun h=>(by cases h)⟩,hm.drew,fun j hj=>(hD j hj).ext xr.drew,hDb.ext xr.drew⟩ ?_;clear hm hD hDb;have hvs:vTot l (k+1)=vTot l k+dN (sDict l k):=rfl;(conv=>whnf);(iterate 3 (refine zi ?_));refine StepI.of (ii (vTot l k:Nat)) (fun S wd hk hp hI=>zw ?_) (zw ?_)
   ·have h9:S 9=false:=by
     cases h:S 9
     ·rfl
     ·have:=hI.1.2 h;rw[hk]at this;cases this
    have hI2:=hI.2.1;rw[h9]at hI2;refine LoadV.fn (v:=ii (vTot l k:Nat)) hI2 (i:=1) rfl 6 rfl Oo (by rw[qak _ _ _ _ Oo,qak _ _ _ _ Oo];rfl) (zw ?_);exact⟨rfl,⟨fun _=>rfl,fun _=>rfl⟩,hI.2⟩
   refine zi ?_;refine StepI.of (ii (dN (sDict l k):Nat)) (fun S wd hk hp hI=>zw ?_) (zw ?_)
   ·refine zcv (qvn b (sDict l k) wd hI.2.2.2) ?_;rintro r w15 ⟨rfl,rfl⟩;exact⟨rfl,hI⟩
   refine StepI.of (ii (vTot l (k+1):Nat)) (fun S wd hk hp hI=>zw ?_) (zw ?_)
   ·refine Obl.mk ⟨by omega,by omega⟩ (zw ?_);exact⟨rfl,⟨fun _=>hp 3 Od,hI.1.2⟩,hI.2⟩
   refine zi ?_;refine zi ?_;refine StepI.of undef (fun S wd hk hp hI=>?_) (zw ?_)
   ·have h6:=hp 6 Od;obtain⟨hI1,hI2,hI3,hI4⟩:=hI;rw[hk]at hI2;(conv=>whnf);have hx:=hI2.get (zmc mh);refine StoreV.row hI2 (i:=1) rfl (by simp[qz]) rfl ?_;intro wx hfr _ hmx;have hmx:Mem w wx [(pb,.cells #[.pointer none] 255),(vb,.cells (fnA 7 (updF (updF (updF (vF d l k) (2*k) (pp b)) (2*k+1) (ii (vTot l k+1:Nat))) 6 (ii (vTot l (k+1):Nat)))) 204),(pl,.cells (fnA 3 (inF (P))) 56),(sz,.cells (fnA 3 (inF (Q))) 56),(cb,curO 288 (.slice A l.length c) (vAt l 3) 0),(r5,.cells (fnA 3 (inF (fun _:Nat=>(0:Int)))) 56)]:=by
     rw[<-qir];exact hmx
    (conv=>whnf);refine⟨rfl,⟨hI1.1,fun _=>hI1.1 h6⟩,hmx,fun j hj=>(hI3 j hj).other hx Od ?_ hfr,hI4.other hx Od ?_ hfr⟩
    all_goals
     intro v hv c;obtain⟨m,hm',rfl⟩:=AY.1 (show v∈(List.range 7).map (updF (updF (vF d l k) (2*k) (pp b)) (2*k+1) (ii (vTot l k+1:Nat)))from hv);unfold updF
     split
     ·intro e;cases e
     split
     ·intro e;cases e
     exact q8s d l k m c
   intro w15 hI;obtain⟨_,hm,hD,hDb⟩:=hI;rw[qacg d l k b Oo]at hm;have hm:=hm.sub (AP ..);refine zu ?_;refine⟨(k+1,fun j=>if j=k then b else d j),fq,⟨by simp only;omega,fun j hj=>?_,fun j hj=>?_,hm⟩,by simp only;omega⟩
   ·by_cases e:j=k
    ·subst e;exact hEk
    ·exact hEz j (by simp only at hj;omega)
   ·simp only at hj|-
    by_cases e:j=k
    ·subst e;rw[Ad rfl];exact hDb
    ·rw[Aa e];exact hD j Oo
  ·obtain⟨p,ep⟩:∃p,p=(E k).1:=⟨_,rfl⟩
   obtain⟨q,eq⟩:∃q,q=(E k).2:=⟨_,rfl⟩
   have hEf:fE l E=(y+p,q):=by
    rw[hfE,qcj (k:=k) (fun j hj=>by simp only[Ad (hEz j hj)]) Oo (by simp only[Aa hEk];exact hEk),Aa hEk,ey,ep,eq]
   have hfk2:∀w',Ext w w'->SlAt encB 1 w' B (sDict l k)->Gv EG f [.slice B z z] w' fun v w''=>(∃e,v=.tuple #[.pointer none,e]/\ErrAt w'' e p q)/\Ext w' w'':=fun w' h1 h2=>(hfk w' h1 h2).mono fun v w'' ⟨h,he⟩=>by
    rcases h with⟨_,e,h3,h4⟩|⟨h0,_⟩
    ·rw[<-ep,<-eq]at h4;exact⟨⟨e,h3,h4⟩,he⟩
    ·exact absurd h0 hEk
   rw[<-ep]at hEbk;rw[<-eq]at hEk;refine DrawV.free Jk Jk (zw ?_);(iterate 4 (refine zd ?_));refine zsd (ii (y:Nat)) (fun wd hd=>zw ?_) (zw ?_)
   ·refine LoadV.fim (x:=((y:Nat):Int)) (hm.drew.call hd) (b:=pl) (F:=P) (n:=3) (t:=56) Js k (by rw[show tsz EG 3=1 from by kernel_rfl];omega) Oo hPk (zw ?_);exact xq
   refine zd ?_;refine zd ?_;refine zsd (ii (y:Nat)) (fun wd hd=>zw ?_) (zw ?_)
   ·refine LoadV.fim (x:=((y:Nat):Int)) (hm.drew.call hd) (b:=pl) (F:=P) (n:=3) (t:=56) Js k (by rw[show tsz EG 3=1 from by kernel_rfl];omega) Oo hPk (zw ?_);exact xq
   (iterate 4 (refine zd ?_));refine zsd (ii (y:Nat)) (fun wd hd=>zw ?_) (zw ?_)
   ·refine LoadV.fim (x:=((y:Nat):Int)) (hm.drew.call hd) (b:=pl) (F:=P) (n:=3) (t:=56) Js k (by rw[show tsz EG 3=1 from by kernel_rfl];omega) Oo hPk (zw ?_);exact xq
   refine zd ?_;refine zd ?_;refine zsd (.slice B z z) (fun wd hd=>zw ?_) (zw ?_)
   ·refine SliceV.to y (y+z) (y+z) rfl (by show(_:Int)=_;omega) (by show(_:Int)=_;omega) Oo znr Oo (fun _=>rfl) ?_;rw[show tsz EG 5=1 from by kernel_rfl,<-eB,show y+z-y=z by omega];(conv=>whnf);exact xq
   apply StepD.of (fun v wx=>∃e,v=.tuple #[.pointer none,e]/\ErrAt wx e p q) (fun _ _ _ ⟨e,h1,h2⟩ he=>⟨e,h1,h2.ext he⟩)
   ·intro wd hd;(conv=>whnf);refine zcv (hfk2 wd (hm.drew.call hd).ext (hB.ext (hm.drew.call hd).ext)) ?_;rintro v w11 ⟨⟨e,rfl,hE⟩,he11⟩;exact⟨he11,e,rfl,hE⟩
   (conv=>whnf);apply StepD.of (fun v wx=>∃e,v=.tuple #[.pointer none,e]/\ErrAt wx e p q) (fun _ _ _ ⟨e,h1,h2⟩ he=>⟨e,h1,h2.ext he⟩)
   ·intro wd hd;(conv=>whnf);rintro v ⟨e,rfl,hE⟩;obtain⟨eb,rfl,hec⟩:=hE;(conv=>whnf);exact⟨xr,_,rfl,eb,rfl,hec⟩
   (conv=>whnf);refine zsd (.pointer none) (fun wd hd=>zw ?_) (zw ?_)
   ·rintro v ⟨e,rfl,eb,rfl,hec⟩;(conv=>whnf);exact xq
   apply StepD.of (fun v wx=>ErrAt wx v p q) (fun _ _ _ h he=>h.ext he)
   ·intro wd hd;(conv=>whnf);rintro v ⟨e,rfl,eb,rfl,hec⟩;(conv=>whnf);exact⟨xr,eb,rfl,hec⟩
   (conv=>whnf);apply zsd (.pointer none)
   ·intro wd hd;conv=>whnf
    repeat(intro _ _;(conv=>whnf))
    exact xq
   (conv=>whnf);apply StepD.of (fun v wx=>ErrAt wx v p q) (fun _ _ _ h he=>h.ext he)
   ·intro wd hd;conv=>whnf
    repeat(rintro v ⟨eb,rfl,hec⟩;(conv=>whnf))
    exact⟨xr,_,rfl,by assumption⟩
   (conv=>whnf);intro w11 he11;have hm:=hm.drew.call he11;clear he11;(conv=>whnf);rintro v ⟨eb,rfl,hec⟩;conv=>whnf
   repeat(intro _ _;(conv=>whnf))
   refine⟨fun pb w12 hpb hw12=>?_⟩;have he12:Ext w11 w12:=by rw[hw12];exact xr.alloc _
   have hm:=hm.new hpb hw12;have hec:=hec.ext he12;clear he12 hw12 hpb;(conv=>whnf);refine zcv (qqc eb pb hm (i:=0) rfl (hG.ext hm.ext)) ?_;rintro r w13 ⟨rfl,hm',w4',he4',hfr⟩;have hne:eb≠pb:=by
    intro e;have h1:=hec 0 _ rfl;rw[e,qa (hm.get mh)]at h1;cases h1
   have hec:=(hec.ext he4').other hne hfr;have hm:Mem w w13 [(pb,.cells #[pp eb] 255),(vb,.cells (fnA 7 (vF (d) l (k))) 204),(pl,.cells (fnA 3 (inF (P))) 56),(sz,.cells (fnA 3 (inF (Q))) 56),(cb,curO 288 (.slice A l.length c) (vAt l 3) 0),(r5,.cells (fnA 3 (inF (fun _:Nat=>(0:Int)))) 56)]:=hm';have hr5:eb≠r5:=by
    intro e;have h1:=hec 1 _ rfl;have hg5:w13.heap[r5]?=some (.cells (fnA 3 (inF fun _:Nat=>(0:Int))) 56):=hm.get Js;rw[e,qa hg5]at h1;cases h1
   clear hm' he4' hfr;refine zu ?_;refine DrawV.gen (fun S vals w'=>Er w [(pb,.cells #[pp eb] 255),(vb,.cells (fnA 7 (vF (d) l (k))) 204),(pl,.cells (fnA 3 (inF (P))) 56),(sz,.cells (fnA 3 (inF (Q))) 56),(cb,curO 288 (.slice A l.length c) (vAt l 3) 0),(r5,.cells (bif S 17 then fnA 3 (inF P)else fnA 3 (inF fun _:Nat=>(0:Int))) 56)] (errO (y+p) q) (fun b=>pp b) errV errV (S 14) (S 15) (S 18) (vals 14) (vals 15) (vals 18) w'/\CellsAt w' eb 0 [ii p,.iface 61 (ii q)]) rfl Jk (fun vals=>⟨Er.start hm.drew,hec.ext xr.drew⟩) ?_;clear hm hec;(conv=>whnf);refine StepG.of (.agg (fnA 3 (inF P))) (fun S vals wd hk hp hI=>zw ?_) (zw ?_)
   ·refine LoadA.mem hI.1.mem (i:=2) rfl (by simp[qz];rfl) (zw ?_);exact⟨rfl,hI⟩
   refine zg ?_;refine zg ?_;refine StepG.of (ii (y:Nat)) (fun S vals wd hk hp hI=>zw ?_) (zw ?_)
   ·refine LoadV.fim (x:=((y:Nat):Int)) hI.1.mem (b:=pl) (F:=P) (n:=3) (t:=56) Js k (by rw[show tsz EG 3=1 from by kernel_rfl];omega) Oo hPk (zw ?_);exact⟨rfl,hI⟩
   refine StepG.of (pp eb) (fun S vals wd hk hp hI=>zw ?_) (zw ?_)
   ·refine zr hI.1.mem 0 ?_;exact⟨rfl,hI⟩
   refine zg ?_;refine zg ?_;refine StepG.of (ii p) (fun S vals wd hk hp hI=>zw ?_) (zw ?_)
   ·refine LoadV.of (hI.2 0 _ rfl) (zw ?_);exact⟨rfl,hI⟩
   refine zg ?_;refine StepG.of (pp eb) (fun S vals wd hk hp hI=>zw ?_) (zw ?_)
   ·refine zr hI.1.mem 0 ?_;exact⟨rfl,hI⟩
   refine zg ?_;refine zg ?_;refine StepG.of (.iface 61 (ii q)) (fun S vals wd hk hp hI=>zw ?_) (zw ?_)
   ·refine LoadV.of (hI.2 1 _ rfl) (zw ?_);exact⟨rfl,hI⟩
   refine zg ?_;refine StepG.any (fun S vals wd hk hp hI=>?_) (zw ?_)
   ·dsimp only at hI;rw[hk]at hI;(conv=>whnf);refine⟨fun x wx hb hw=>?_⟩;subst hb hw;(conv=>whnf);exact⟨trivial,hI.1.alloc,hI.2.ext (xr.alloc _)⟩
   refine StepG.any (fun S vals wd hk hp hI=>?_) (zw ?_)
   ·have h4:S 14=true:=hp 14 Od;dsimp only at hI;rw[hk,h4]at hI;obtain⟨nb,hv,h3,_⟩:=hI.1.see;rw[ql hv];(conv=>whnf);exact⟨trivial,by show Er _ _ _ _ _ _ (S 14) true (S 18) _ _ _ _;rw[h4];exact h3,hI.2⟩
   refine zg ?_;refine StepG.of undef (fun S vals wd hk hp hI=>?_) (zw ?_)
   ·dsimp only at hI;rw[hk]at hI;(conv=>whnf);refine hI.1.store (i:=5) rfl (by simp[qz]) (qgr 3 _) rfl ?_;intro wx hfr hx;(conv=>whnf);exact⟨rfl,hx,hI.2.other hr5 hfr⟩
   refine StepG.any (fun S vals wd hk hp hI=>?_) (zw ?_)
   ·have h4:S 15=true:=hp 15 Od;dsimp only at hI;rw[hk,h4]at hI;obtain⟨nb,hv,h3⟩:=hI.1.see2;rw[ql hv];(conv=>whnf);exact⟨trivial,by show Er _ _ _ _ _ _ (S 14) (S 15) true _ _ _ _;rw[h4];exact h3,hI.2⟩
   intro vals w14 hI;obtain⟨nb,hv1,hv3,hm⟩:=hI.1.done;rw[ql hv1,ql hv3];clear hI;(conv=>whnf);refine qh (R:=fun v w'=>FndR l E v w'/\Ext w w') (zw ?_);refine LoadA.mem hm (i:=6) rfl (by simp[qz];rfl) (zw ?_);exact⟨.inl ⟨by rw[hEf];exact hEk,P,errV nb,rfl,⟨nb,rfl,by rw[hEf];exact CellsAt.mem hm mh⟩⟩,hm.ext⟩
 obtain rfl:k=3:=by omega
 have hE3:(fE l E).2=0:=by
  rw[hfE];exact qaf fun j hj=>by simp only[Ad (hEz j hj)]
 refine DrawV.inv (fun S w'=>Mem w w' [(vb,.cells (fnA 7 (vF (d) l (3))) 204),(pl,.cells (fnA 3 (inF (P))) 56),(sz,.cells (fnA 3 (inF (Q))) 56),(cb,curO 288 (.slice A l.length c) (vAt l 3) 0),(r5,.cells (bif S 3 then fnA 3 (inF P)else fnA 3 (inF fun _:Nat=>(0:Int))) 56)]/\∀j,j<3->DictAt w' (d j) (sDict l j)) rfl Jk ⟨hm.drew,fun j hj=>(hD j hj).ext xr.drew⟩ ?_;clear hm hD;(conv=>whnf);refine zi ?_;refine StepI.of (.agg (fnA 3 (inF P))) (fun S wd hk hp hI=>zw ?_) (zw ?_)
 ·refine LoadA.mem hI.1 (i:=1) rfl (by simp[qz];rfl) (zw ?_);exact⟨rfl,hI⟩
 refine zi ?_;refine StepI.of undef (fun S wd hk hp hI=>?_) (zw ?_)
 ·dsimp only at hI;rw[hk]at hI;(conv=>whnf);have hx:wd.heap[r5]?=some (.cells (fnA 3 (inF fun _:Nat=>(0:Int))) 56):=hI.1.get Js;refine StoreA.row hI.1 (i:=4) rfl (by simp[qz]) (qgr 3 P) fun wx hfr _ hmx=>zw ?_;refine⟨rfl,hmx,fun j hj=>(hI.2 j hj).other hx Od ?_ hfr⟩;intro v hv c;obtain⟨m,hm',rfl⟩:=AY.1 (show v∈(List.range 3).map (inF fun _:Nat=>(0:Int))from hv);intro e;cases e
 refine zi ?_;intro w12 hI;obtain⟨hm,hD⟩:=hI;(conv=>whnf);refine qh (R:=fun v w'=>FndR l E v w'/\Ext w w') (zw ?_);refine LoadA.mem hm (i:=4) rfl (by simp[qz];rfl) (zw ?_);exact⟨.inr ⟨hE3,vb,P,rfl,fun k hk=>hP k hk,d,hm.get mh,hD⟩,hm.ext⟩
end Go.Proofs.YtacnkdagblbgfaaGreatDoor
