/- Lemmas and contracts of functions on the way to the law's card (part 4 of 9). -/
import Derived.Test.YtacnkdagblbgfaaGreatDoorMP3
import Derived.Lib.BitFns
import Derived.Lib.Replace
import Derived.Lib.CutLaws
import Derived.Lib.ReplaceLaws
import Derived.LaidEql
import Derived.Stop.Asserts
import Derived.RowKitTokens
import Derived.TacticsIn
import Derived.RangeFuncSeq
import Derived.RangeFuncLeaves
namespace Go.Proofs.YtacnkdagblbgfaaGreatDoor
set_option maxHeartbeats 8000000
open Go.RowKit V
def errF (f:Nat→Nat × Nat):Nat→Nat × Nat
 | 0=>(0,0)
 | k+1=>if (errF f k).2≠0 then errF f k else f k
theorem qbw {f:Nat→Nat × Nat} {n:Nat} (h:∀ k,k<n→(f k).2=0):(errF f n).2=0:=by
 induction n with
 | zero=>rfl
 | succ n ih=>
  have:=ih fun k hk=>h k Oo
  rw [errF,if_neg Oo];exact h n Oo
theorem qmh {f:Nat→Nat × Nat} {n k:Nat} (h:∀ j,j<k→(f j).2=0) (hk:k<n) (he:(f k).2≠0):errF f n=f k:=by
 induction n with
 | zero=>omega
 | succ n ih=>
  by_cases hn:k=n
  ·subst hn;rw [errF,if_neg (by rw [qbw h];simp)]
  ·rw [errF,ih Oo,if_pos he]
theorem qs7 {f:Nat→Nat × Nat} {n:Nat} (h:(errF f n).2=0):∀ k,k<n→(f k).2=0:=by
 induction n with
 | zero=>intro k hk;omega
 | succ n ih=>
  rw [errF] at h
  split at h
  ·rename_i h0;exact absurd h h0
  ·rename_i h0
   intro k hk
   by_cases hn:k=n
   ·subst hn;exact h
   ·exact ih Oo k Oo
def vAt (l:LB):Nat→Nat
 | 0=>0
 | k+1=>vAt l k+(numL (l.drop (vAt l k))).2.1
def vNum (l:LB) (k:Nat):Nat:=(numL (l.drop (vAt l k))).1
def numE (l:LB) (k most:Nat):Nat × Nat:=
 if (numL (l.drop (vAt l k))).2.2≠0 then (vAt l k,(numL (l.drop (vAt l k))).2.2) else if most<vNum l k then (vAt l k,2) else (0,0)
theorem qlm (l:LB) (k:Nat):vAt l k≤l.length:=by
 induction k with
 | zero=>exact Nat.zero_le _
 | succ k ih=>
  have:=(qa7 (l.drop (vAt l k))).2.1;rw [zld] at this;rw [vAt];omega
theorem q02 (l:LB) (k:Nat):vNum l k<18446744073709551616:=(qa7 (l.drop (vAt l k))).1
theorem qr3 {l:LB} {k:Nat} (h:(numL (l.drop (vAt l k))).2.2=0):varS l (vAt l k) 0=(vNum l k,vAt l (k+1),0):=by
 rw [varS,if_neg Js,if_neg Oo];rfl
theorem qr2 {l:LB} {k:Nat} (h:(numL (l.drop (vAt l k))).2.2≠0):varS l (vAt l k) 0=(0,vAt l k,(numL (l.drop (vAt l k))).2.2):=by
 rw [varS,if_neg Js,if_pos h]
section
variable {l:LB} {k:Nat}
theorem qut (h:(numL (l.drop (vAt l k))).2.2=0):(varS l (vAt l k) 0).1=vNum l k:=by rw [qr3 h]
theorem quu (h:(numL (l.drop (vAt l k))).2.2=0):(varS l (vAt l k) 0).2.1=vAt l (k+1):=by rw [qr3 h]
theorem quv (h:(numL (l.drop (vAt l k))).2.2=0):(varS l (vAt l k) 0).2.2=0:=by rw [qr3 h]
theorem quq (h:(numL (l.drop (vAt l k))).2.2≠0):(varS l (vAt l k) 0).1=0:=by rw [qr2 h]
theorem qur (h:(numL (l.drop (vAt l k))).2.2≠0):(varS l (vAt l k) 0).2.1=vAt l k:=by rw [qr2 h]
theorem qus (h:(numL (l.drop (vAt l k))).2.2≠0):(varS l (vAt l k) 0).2.2=(numL (l.drop (vAt l k))).2.2:=by rw [qr2 h]
theorem qr1 {a:Nat} (h:(numL (l.drop a)).2.2=0):(varS l a 0).1=(numL (l.drop a)).1∧(varS l a 0).2.1=a+(numL (l.drop a)).2.1∧(varS l a 0).2.2=0:=by
 rw [varS,if_neg Js,if_neg Oo];exact ⟨rfl,rfl,rfl⟩
theorem qr0 {a:Nat} (h:(numL (l.drop a)).2.2≠0):(varS l a 0).1=0∧(varS l a 0).2.1=a∧(varS l a 0).2.2=(numL (l.drop a)).2.2:=by
 rw [varS,if_neg Js,if_pos h];exact ⟨rfl,rfl,rfl⟩
theorem qfw {most:Nat} (h1:(numL (l.drop (vAt l k))).2.2=0) (h2:vNum l k≤most):numE l k most=(0,0):=by rw [numE,if_neg Oo,if_neg Oo]
theorem q58 {most:Nat} (h1:(numL (l.drop (vAt l k))).2.2=0) (h:(numE l k most).2=0):vNum l k≤most:=by
 rw [numE,if_neg Oo] at h
 split at h
 ·cases h
 ·omega
theorem qtt {most:Nat} (h1:(numL (l.drop (vAt l k))).2.2≠0):numE l k most=(vAt l k,(numL (l.drop (vAt l k))).2.2):=by rw [numE,if_pos h1]
theorem qo2 {most:Nat} (h1:(numL (l.drop (vAt l k))).2.2=0) (h2:most<vNum l k):numE l k most=(vAt l k,2):=by rw [numE,if_neg Oo,if_pos h2]
end
def qp (n:Nat):Nat:=Go.Lib.bitLen n
def dhF (m:LB) (k:Nat):Nat × Nat:=numE m k (if k=0 then 4194304 else 67108864)
def dN (m:LB):Nat:=vNum m 0
def qva (m:LB):Nat:=vNum m 1
def dW (m:LB):Nat:=qp (qva m)
def qb9 (m:LB):Nat:=vAt m 2
def qt (m:LB):Nat:=qb9 m+(upN (dN m) 16*dW m+7)/8
def dEnd (m:LB):Nat:=qt m+qva m
def dE (m:LB):Nat × Nat:=
 if (errF (dhF m) 2).2≠0 then errF (dhF m) 2 else if m.length<dEnd m then (m.length,10) else if dEnd m<m.length then (dEnd m,13) else (0,0)
def qaf (m:LB):LB:=(m.drop (qb9 m)).take (qt m-qb9 m)
def qd (m:LB):LB:=m.drop (qt m)
def entG (m:LB) (first:Bool) (ahead:LB):LB × Nat × Nat:=
 let s:Nat × Nat × Nat:=if first then (0,0,0) else numL m
 if s.2.2≠0 then ([],0,s.2.2) else
  let t:=numL (m.drop s.2.1)
  if t.2.2≠0 then ([],0,t.2.2) else if ahead.length<s.1 then ([],0,161) else if 262144<t.1∨262144<s.1+t.1 then ([],0,2)
  else if m.length-s.2.1-t.2.1<t.1 then ([],0,10) else (ahead.take s.1++(m.drop (s.2.1+t.2.1)).take t.1,s.2.1+t.2.1+t.1,0)
def qcb (E:LB) (p:Nat) (first:Bool) (ahead:LB):LB × Nat × Nat:=
 if E.length<p then ([],0,10) else if (entG (E.drop p) first ahead).2.2≠0 then ([],0,(entG (E.drop p) first ahead).2.2) else
  ((entG (E.drop p) first ahead).1,p+(entG (E.drop p) first ahead).2.1,0)
def blk (E:LB) (p:Nat):Nat→LB × Nat × Nat
 | 0=>qcb E p true []
 | j+1=>if (blk E p j).2.2≠0 then blk E p j else qcb E (blk E p j).2.1 false (blk E p j).1
def qz (m:LB) (k:Nat):Nat:=valB (qaf m) (k*dW m) (dW m)
def dGet (m:LB) (i:Nat):Option LB:=
 if i<dN m then (if (blk (qd m) (qz m (i/16)) (i%16)).2.2=0 then some (blk (qd m) (qz m (i/16)) (i%16)).1 else none) else none
theorem qfh {m:LB} {first:Bool} {ahead:LB} (h:(entG m first ahead).2.2=0):(entG m first ahead).1.length≤262144∧(entG m first ahead).2.1≤m.length:=by
 unfold entG at h ⊢;have hb1:=qa7 m;obtain ⟨s,hs⟩:∃ s:Nat × Nat × Nat,s=if first then (0,0,0) else numL m:=⟨_,rfl⟩
 rw [← hs] at h ⊢;have hs2:s.2.1≤m.length:=by rw [hs];split;exact Nat.zero_le _;exact hb1.2.1
 have hb2:=qa7 (m.drop s.2.1);rw [zld] at hb2;dsimp only at h ⊢
 split at h
 ·rename_i h0;exact absurd h h0
 rename_i g0
 rw [if_neg g0]
 split at h
 ·rename_i h0;exact absurd h h0
 rename_i g1
 rw [if_neg g1]
 split at h
 ·cases h
 rename_i g2
 rw [if_neg g2]
 split at h
 ·cases h
 rename_i g3
 rw [if_neg g3]
 split at h
 ·cases h
 rename_i g4
 rw [if_neg g4];refine ⟨?_,?_⟩
 ·simp only [zla,List.length_take,zld];omega
 ·simp only;omega
theorem qs6 {E:LB} {p:Nat} {first:Bool} {ahead:LB} (h:(qcb E p first ahead).2.2=0):(qcb E p first ahead).1.length≤262144∧(qcb E p first ahead).2.1≤E.length:=by
 unfold qcb at h ⊢
 split at h
 ·cases h
 rename_i g0
 rw [if_neg g0]
 split at h
 ·rename_i g1;exact absurd h g1
 rename_i g1
 rw [if_neg g1];have:=qfh (show (entG (E.drop p) first ahead).2.2=0 by omega);rw [zld] at this;exact ⟨this.1,by simp only;omega⟩
theorem q7n {E:LB} {p:Nat}:∀ {j:Nat},(blk E p j).2.2=0→(blk E p j).1.length≤262144∧(blk E p j).2.1≤E.length
 | 0,h=>qs6 h
 | j+1,h=>by
  unfold blk at h ⊢
  split at h
  ·rename_i g;exact absurd h g
  rename_i g
  rw [if_neg g];exact qs6 h
theorem q1p {E:LB} {p j:Nat} (h:(blk E p j).2.2≠0):∀ {i:Nat},j≤i→blk E p i=blk E p j:=by
 intro i hi
 induction hi with
 | refl=>rfl
 | step _ ih=>rw [blk,ih,if_pos h]
def vsF (l:LB) (k:Nat):Nat × Nat:=numE l k 67108864
def qm (l:LB):Nat→Nat
 | 0=>vAt l 3
 | k+1=>qm l k+vNum l k
def sE (l:LB):Nat × Nat:=
 if (errF (vsF l) 3).2≠0 then errF (vsF l) 3 else if l.length<qm l 3 then (l.length,10) else if qm l 3<l.length then (qm l 3,13) else (0,0)
def sDict (l:LB) (k:Nat):LB:=(l.drop (qm l k)).take (vNum l k)
def sdF (l:LB) (k:Nat):Nat × Nat:=if (dE (sDict l k)).2=0 then (0,0) else (qm l k+(dE (sDict l k)).1,(dE (sDict l k)).2)
def wE (l:LB):Nat × Nat:=if (sE l).2≠0 then sE l else errF (sdF l) 3
def vTot (l:LB):Nat→Nat
 | 0=>0
 | k+1=>vTot l k+dN (sDict l k)
def q7b (l:LB) (id:Nat):Nat:=if vTot l 2<id then 2 else if vTot l 1<id then 1 else 0
def tcF (l:LB) (k:Nat):Nat × Nat:=
 if (numE l k 1048576).2≠0 then numE l k 1048576 else if 0<k∧(vNum l k<vNum l (k-1)∨¬ (vNum l (k-1)=0↔vNum l k=0)) then (vAt l k,180) else (0,0)
def tvAt (l:LB):Nat→Nat
 | 0=>vAt l 4
 | k+1=>tvAt l k+1+(vNum l k*(l.getD (tvAt l k) 0).toNat+7)/8+(if k=0 then 0 else qce (vNum l k) (vNum l (k-1)))
def tw (l:LB) (k:Nat):Nat:=(l.getD (tvAt l k) 0).toNat
def tEnd (l:LB) (k:Nat):Nat:=tvAt l k+1+(vNum l k*tw l k+7)/8
def tvF (l:LB) (k:Nat):Nat × Nat:=if l.length≤tvAt l k then (l.length,10) else if 23<tw l k then (tvAt l k,14) else if l.length<tvAt l (k+1) then (l.length,10) else (0,0)
def tE (l:LB):Nat × Nat:=
 if (errF (tcF l) 4).2≠0 then errF (tcF l) 4 else if (errF (tvF l) 4).2≠0 then errF (tvF l) 4 else if tvAt l 4<l.length then (tvAt l 4,13) else (0,0)
def qnq (l:LB) (k:Nat):LB:=(l.drop (tvAt l k+1)).take (tEnd l k-(tvAt l k+1))
def qdl (l:LB) (k:Nat):LB:=(l.drop (tEnd l k)).take (tvAt l (k+1)-tEnd l k)
def tVec (l:LB) (k:Nat):Bool:=vOk (qdl l k)&&decide (vN (qdl l k)=vNum l k)&&decide (vM (qdl l k)=vNum l (k-1))
def tUp (l:LB) (i:Nat):Nat→Nat
 | 0=>i
 | j+1=>q9e (qdl l (3-j)) (tUp l i j)
def tNum (l:LB) (i k:Nat):Nat:=numP (qnq l k) (tw l k) (tUp l i (3-k))
def qh6 (l:LB):LB:=(l.drop 28).take (hN l 4)
def qkj (l:LB):LB:=(l.drop (32+hN l 4)).take (hN l 5)
set_option maxRecDepth 100000
theorem qy1 (x:Nat) (w:World) (hx:x<18446744073709551616):Gv Tryz.prog 165 [.int .u64 x] w fun r w'=>r=ii (qp x)∧w'=w:=
 qvh Ok (Tryz.bits_Len64 x w Oo Oo)
theorem qg5 (x:Nat) (w:World) (hx:x<18446744073709551616):Gv Tryz.prog 105 [.int .u64 x] w fun r w'=>r=ii (qp x)∧w'=w:=by
 refine ze Tryz.func105 Tryz.ntmps105 ?_;refine zcv (qy1 x w hx) ?_;rintro r w1 ⟨rfl,rfl⟩;(conv=>whnf);exact ⟨rfl,rfl⟩
theorem qdp (x:Nat) (h0:x≠0) (h:x<18446744073709551616):qp x=1+qp (x/2):=Go.Lib.bitLen_half x h0 (by simpa using h)
theorem qcp:qp 0=0:=by decide
theorem qcl:∀ (k x:Nat),x<2 ^ k→k≤64→qp x≤k
 | 0,x,h,_=>by
  obtain rfl:x=0:=by simpa using h
  rw [qcp];exact Nat.le_refl _
 | k+1,x,h,hk=>by
  by_cases h0:x=0
  ·subst h0;rw [qcp];exact Nat.zero_le _
  ·have hp:(2:Nat) ^ (k+1)≤2 ^ 64:=Nat.pow_le_pow_right Od hk;rw [qdp x h0 (Nat.lt_of_lt_of_le h hp)];have:=qcl k (x/2) (by rw [Nat.pow_succ] at h;omega) Oo;omega
theorem qkw (n:Nat) (w:World) (hn:n≤4194304):Gv Tryz.prog 218 [ii n] w fun r w'=>r=ii (upN n 16)∧w'=w:=by
 refine ze Tryz.func218 Tryz.ntmps218 ?_;refine zv ?_;exact ⟨congrArg (Value.int .i64) (by unfold upN;omega),rfl⟩
structure DictAt (w:World) (b:Nat) (m:LB):Prop where
 h:∃ P cp E ce,w.heap[b]?=some (.cells #[ii (dN m),ii (dW m),.slice P (qaf m).length cp,.slice E (qd m).length ce] 317)∧SlAt encB 1 w P (qaf m)∧SlAt encB 1 w E (qd m)∧(qd m).length≤ce
 n:dN m≤4194304
 size:qva m≤67108864
 qdh:(qaf m).length=(upN (dN m) 16*dW m+7)/8
 entries:(qd m).length=qva m
theorem DictAt.ext {w w':World} {b:Nat} {m:LB} (h:DictAt w b m) (he:Ext w w'):DictAt w' b m:=by
 obtain ⟨⟨P,cp,E,ce,h1,h2,h3,h4⟩,h5,h6,h7,h8⟩:=h;exact ⟨⟨P,cp,E,ce,he.get h1,h2.ext he,h3.ext he,h4⟩,h5,h6,h7,h8⟩
theorem DictAt.width {w:World} {b:Nat} {m:LB} (h:DictAt w b m):dW m≤27:=qcl 27 _ (by have:=h.size;simp only [Nat.reducePow];omega) Od
theorem qs2 (b:Nat) (m:LB) (w:World) (h:DictAt w b m):Gv Tryz.prog 158 [pp b] w fun r w'=>r=ii (dN m)∧w'=w:=by
 obtain ⟨⟨P,cp,E,ce,h1,h2,h3,h4⟩,h5,h6,h7,h8⟩:=h;refine ze Tryz.func158 Tryz.ntmps158 ?_;refine LoadV.own h1 rfl (zw ?_);exact ⟨rfl,rfl⟩
theorem qo5 (b:Nat) (m:LB) (k:Nat) (w:World) (h:DictAt w b m) (hk:k<upN (dN m) 16):Gv Tryz.prog 277 [pp b,ii k] w fun r w'=>r=ii (qz m k)∧w'=w:=by
 have hW:=h.width;obtain ⟨⟨P,cp,E,ce,h1,h2,h3,h4⟩,h5,h6,h7,h8⟩:=h;have hub:upN (dN m) 16≤4194304:=Nat.le_trans (qa0 _ _ Od) h5;obtain ⟨W,eW⟩:∃ W,W=dW m:=⟨_,rfl⟩
 rw [qz];rw [← eW] at h1 h7 hW ⊢;have hm1:k*W+W≤upN (dN m) 16*W:=by rw [← Nat.succ_mul];exact Nat.mul_le_mul_right _ hk
 have hm2:upN (dN m) 16*W≤4194304*27:=Nat.mul_le_mul hub hW;obtain ⟨f,ef⟩:∃ f,f=k*W:=⟨_,rfl⟩
 have efi:(k:Int)*(W:Int)=(f:Int):=by rw [ef,Int.natCast_mul]
 rw [← ef] at hm1 ⊢;refine ze Tryz.func277 Tryz.ntmps277 ?_;refine LoadV.own h1 rfl (zw ?_);refine qe (fun i:Nat=>[(0,pp b),(1,ii k),(5,ii (valB (qaf m) f i)),(11,ii W),(12,ii i)]) (fun i w'=>i≤W∧w'=w) (fun i=>W-i) 0 ⟨rfl,rfl,rfl,rfl,rfl,trivial⟩ ⟨Nat.zero_le _,rfl⟩ ?_;rintro i w1 ρ' ⟨i1,rfl⟩;have hv:=qry (qaf m) f i;have hv2:valB (qaf m) f i<2 ^ 27:=qrx _ _ _ Oo;simp only [Nat.reducePow] at hv2;(conv=>whnf);refine zC (fun _=>zw ?_) (fun _=>zw ?_)
 ·refine LoadV.own h1 rfl (zw ?_);rw [efi];refine zv ?_;refine LoadV.own h1 rfl (zu ?_);have hj:(f+i)/8<(qaf m).length:=by omega
  refine ElemV.bs h2 rfl ((f+i)/8) Oo hj ?_;intro eb eo hc;(conv=>whnf);refine LoadV.of hc (zu ?_);refine V.Wit.shrN ((f+i)%8) Oo (by show (f+i)%8<8;omega) (zw ?_);have hlt:=qbg (qaf m)[(f+i)/8];have hlt2:(qaf m)[(f+i)/8].toNat/2 ^ ((f+i)%8)<256:=Nat.lt_of_le_of_lt (Nat.div_le_self _ _) hlt;refine Wit.eq (qbc (k:=.u8) (m:=(qaf m)[(f+i)/8].toNat/2 ^ ((f+i)%8)) 1 rfl (qd8 hlt2) ⟨by omega,by omega⟩) (zu ?_);have hb:(qaf m)[(f+i)/8].toNat/2 ^ ((f+i)%8)%2 ^ 1=bitN (qaf m) (f+i):=by
   rw [bitN,List.getD_eq_getElem?_getD,zge hj];rfl
  rw [hb];have hvs:=qry (qaf m) f (i+1);have hvs2:valB (qaf m) f (i+1)<2 ^ 27:=qrx _ _ _ Oo;simp only [Nat.reducePow] at hvs2;rw [valB] at hvs2;refine V.Wit.shlN i Oo (by show i<64;omega) (qiz Oo) (zw ?_);refine Wit.eq (ql3 i (qiz Oo) hv) (zu ?_);exact ⟨i+1,⟨rfl,rfl,rfl,rfl,rfl,trivial⟩,⟨by omega,rfl⟩,by omega⟩
 ·obtain rfl:i=W:=by omega
  exact ⟨rfl,rfl⟩
namespace V
theorem SliceV.to {size:Nat} {A:oA} {n c:Nat} {lo hi mx:Option Value} {K:Value→Prop} (a b m:Nat) (h1:bnd lo 0 a) (h2:bnd hi n b) (h3:bnd mx c m) (hab:a≤b) (hbm:b≤m) (hm:m≤c)
  (hs:mx.isSome=true→hi.isSome=true) (hk:K (.slice (if m=a then A else A.map (·.add (a*size))) (b-a) (m-a))):SliceV size A n c lo hi mx K:=
 ⟨a,b,m,h1,h2,h3,hab,hbm,hm,hs,fun A' e=>by rw [e];exact hk⟩
end V
def hdL (m:LB) (k:Nat):List Value:=[ii (if 0<k then vNum m 0 else 0:Nat),ii (if 1<k then vNum m 1 else 0:Nat)]
def DShR (m:LB) (v:Value) (w0 w:World):Prop:=
 ((dE m).2≠0∧∃ e,v=.tuple #[.pointer none,ii 0,ii 0,e]∧ErrAt w e (dE m).1 (dE m).2)∨
 ((dE m).2=0∧∃ b,v=.tuple #[pp b,ii (qb9 m),ii (qt m),.nilIface]∧w0.heap.size≤b∧DictAt w b m)
theorem qvd (m:LB) (A:oA) (c:Nat) (w:World) (hS:SlAt encB 1 w A m) (hc:m.length≤c) (hl:m.length≤140737488355328) :
  Gv Tryz.prog 159 [.slice A m.length c] w fun v w'=>DShR m v w w'∧Ext w w':=by
 have hv0:BS w (.slice A m.length c) m:=⟨A,c,rfl,hc,hS⟩
 refine ze Tryz.func159 Tryz.ntmps159 ?_;refine zcv (qnb _ m w hv0) ?_;rintro v w1 ⟨cb,rfl,hcb,hco,he1⟩;have hm:Mem w w1 [(cb,curO 288 (.slice A m.length c) (vAt m 0) 0)]:=(Mem.nil w).fresh he1 hcb hco;(conv=>whnf);refine znm hm fun hd w2 hm=>zw ?_;refine qe (fun k:Nat=>[(0,.slice A m.length c),(2,.pointer none),(3,ii 0),(4,ii 0),(5,.nilIface),(6,pp cb),(7,pp hd),(16,.agg #[.int .u64 4194304,.int .u64 67108864]),(17,ii k)])
  (fun k w'=>k≤2∧(∀ j,j<k→(numL (m.drop (vAt m j))).2.2=0∧vNum m j≤67108864∧(dhF m j).2=0)∧Mem w w' [(hd,.cells (hdL m k).toArray 318),(cb,curO 288 (.slice A m.length c) (vAt m k) 0)]) (fun k=>2-k) 0
  ⟨rfl,rfl,rfl,rfl,rfl,rfl,rfl,rfl,rfl,trivial⟩ ⟨by omega,fun j hj=>by omega,hm⟩ ?_
 clear hm hco he1 hcb;rintro k w3 ρ' ⟨k1,hj,hm⟩;(conv=>whnf);refine zC (fun _=>zu ?_) (fun _=>zu ?_)
 ·have hv:BS w3 (.slice A m.length c) m:=hv0.ext hm.ext;have hle:=qlm m k;have hlt:=q02 m k;have hmost:∃ mo:Nat,mo=(if k=0 then 4194304 else 67108864)∧(#[Value.int .u64 4194304,.int .u64 67108864]:Array Value).toList[k*tsz Tryz.prog 125]?=some (.int .u64 mo):=by
   refine ⟨_,rfl,?_⟩;rw [show tsz Tryz.prog 125=1 from by kernel_rfl];obtain rfl|rfl:k=0∨k=1:=by omega
   all_goals rfl
  obtain ⟨mo,emo,hmo⟩:=hmost;refine ⟨_,hmo,?_⟩;(conv=>whnf);refine zcv (qkr cb _ (vAt m k) 0 w3 (hm.get (zmc mh))) ?_;rintro r w4 ⟨rfl,rfl⟩;(conv=>whnf);refine zcv (qdo cb _ (vAt m k) 0 m _ (hm.get (zmc mh)) hv hle hl) ?_;rintro r w5 ⟨rfl,hu⟩
  by_cases he:(numL (m.drop (vAt m k))).2.2=0
  ·rw [quu he,quv he] at hu;rw [qut he];have hm:Mem w w5 [(hd,.cells (hdL m k).toArray 318),(cb,curO 288 (.slice A m.length c) (vAt m (k+1)) 0)]:=hm.upd (i:=1) rfl hu;(conv=>whnf);refine zcv (qcg cb _ _ 0 w5 (hm.get (zmc mh))) ?_;rintro r w6 ⟨rfl,rfl⟩;(conv=>whnf);refine zt ?_;refine zC (fun _=>zw ?_) (fun _=>zw ?_)
   ·refine zcv (qe4 (vAt m k) 2 w6) ?_;rintro r w7 ⟨hE,he7⟩;have hdh:dhF m k=(vAt m k,2):=qo2 he (by rw [← emo];omega);have hdE:dE m=(vAt m k,2):=by
     have:=qmh (f:=dhF m) (n:=2) (k:=k) (fun j h=>(hj j h).2.2) Oo (by rw [hdh];simp);rw [dE,this,hdh,if_pos Js]
    obtain ⟨eb,rfl,hec⟩:=hE;(conv=>whnf);refine ⟨.inl ⟨by rw [hdE];simp,_,rfl,?_⟩,hm.ext.trans he7⟩;rw [hdE];exact ⟨eb,rfl,hec⟩
   ·have hmo2:mo≤67108864:=by rw [emo];split<;>omega
    refine Wit.conv (qiz Oo) (zu ?_);have e2:0+k*tsz Tryz.prog 3=k:=by rw [show tsz Tryz.prog 3=1 from by kernel_rfl];omega
    refine StoreV.mem hm (i:=0) rfl (by rw [e2];simp [hdL];omega) rfl ?_;intro w8 hm;rw [e2] at hm;have hset:(hdL m k).toArray.setIfInBounds k (ii (vNum m k))=(hdL m (k+1)).toArray:=by
     obtain rfl|rfl:k=0∨k=1:=by omega
     all_goals rfl
    have hm:Mem w w8 [(hd,.cells (hdL m (k+1)).toArray 318),(cb,curO 288 (.slice A m.length c) (vAt m (k+1)) 0)]:=by rw [← hset];exact hm
    refine zu ?_;refine ⟨k+1,⟨rfl,rfl,rfl,rfl,rfl,rfl,rfl,rfl,rfl,trivial⟩,⟨by omega,fun j hjk=>?_,hm⟩,by omega⟩
    by_cases ej:j=k
    ·subst ej;exact ⟨he,by omega,by rw [dhF,qfw he (by rw [← emo];omega)]⟩
    ·exact hj j Oo
  ·rw [qur he,qus he] at hu;rw [quq he];have hm:Mem w w5 [(hd,.cells (hdL m k).toArray 318),(cb,curO 288 (.slice A m.length c) (vAt m k) (numL (m.drop (vAt m k))).2.2)]:=hm.upd (i:=1) rfl hu;(conv=>whnf);refine zcv (qcg cb _ _ _ w5 (hm.get (zmc mh))) ?_;rintro r w6 ⟨rfl,rfl⟩;refine zu ?_;refine zcv (qe4 (vAt m k) (numL (m.drop (vAt m k))).2.2 w6) ?_;rintro r w7 ⟨hE,he7⟩;have hdh:dhF m k=(vAt m k,(numL (m.drop (vAt m k))).2.2):=qtt he;have hdE:dE m=(vAt m k,(numL (m.drop (vAt m k))).2.2):=by
    have:=qmh (f:=dhF m) (n:=2) (k:=k) (fun j h=>(hj j h).2.2) Oo (by rw [hdh];exact he);rw [dE,this,hdh,if_pos he]
   obtain ⟨eb,rfl,hec⟩:=hE;(conv=>whnf);refine ⟨.inl ⟨by rw [hdE];exact he,_,rfl,?_⟩,hm.ext.trans he7⟩;rw [hdE];exact ⟨eb,rfl,hec⟩
 ·obtain rfl:k=2:=by omega
  have hm:Mem w w3 [(hd,.cells #[ii (vNum m 0),ii (vNum m 1)] 318),(cb,curO 288 (.slice A m.length c) (vAt m 2) 0)]:=hm;obtain ⟨f1,f2,f3⟩:=hj 0 Oo;obtain ⟨g1,g2,g3⟩:=hj 1 Oo;have hn0:vNum m 0≤4194304:=q58 f1 f3;have hz:(errF (dhF m) 2).2=0:=qbw fun k hk=>by
   obtain rfl|rfl:k=0∨k=1:=by omega
   ·exact f3
   ·exact g3
  have hWb:dW m≤27:=qcl 27 _ (by show vNum m 1<_;simp only [Nat.reducePow];omega) Od;refine DrawV.free Ok Ok (zw ?_);refine zf ?_ (by intro wd hd;(conv=>whnf);refine zJ 0 ?_;(conv=>whnf);exact ⟨xr,rfl⟩);refine zf ?_ (by intro wd hd;(conv=>whnf);refine LoadV.mem (Mem.call (Mem.drew hm) hd) (i:=0) rfl rfl ?_;(conv=>whnf);exact ⟨xr,rfl⟩);refine zf ?_ (by intro wd hd;(conv=>whnf);refine zJ 1 ?_;(conv=>whnf);exact ⟨xr,rfl⟩);refine zf ?_ (by intro wd hd;(conv=>whnf);refine LoadV.mem (Mem.call (Mem.drew hm) hd) (i:=0) rfl rfl ?_;(conv=>whnf);exact ⟨xr,rfl⟩);refine zd ?_;apply zsd
  ·intro wd hd;(conv=>whnf);refine zcv (qg5 (vNum m 1) wd Oo) ?_;rintro v w9 ⟨rfl,rfl⟩;exact ⟨xr,rfl⟩
  (conv=>whnf);refine zd ?_;apply StepD.of (fun v wx=>∃ b,v=pp b∧w3.drew.heap.size≤b∧wx.heap[b]?=some (.cells #[ii (dN m),ii (dW m),.slice none 0 0,.slice none 0 0] 317))
   (fun _ _ _ h he=>let ⟨b,h1,h2,h3⟩:=h;⟨b,h1,h2,he.get h3⟩)
  ·intro wd hd;(conv=>whnf);refine ⟨fun x wx hb hw=>?_⟩;subst hb hw;(conv=>whnf);exact ⟨xr.alloc _,_,rfl,hd.size,heap_alloc_new _ _⟩
  (conv=>whnf);apply StepD.of (fun v wx=>∃ b,v=pp b∧w3.drew.heap.size≤b∧wx.heap[b]?=some (.cells #[ii (dN m),ii (dW m),.slice none 0 0,.slice none 0 0] 317))
   (fun _ _ _ h he=>let ⟨b,h1,h2,h3⟩:=h;⟨b,h1,h2,he.get h3⟩)
  ·intro wd hd;(conv=>whnf);rintro _ _;(conv=>whnf);rintro v ⟨b,rfl,h1,h2⟩;(conv=>whnf);exact ⟨xr,b,rfl,h1,h2⟩
  (conv=>whnf);intro w9 he9;(conv=>whnf);rintro v ⟨b,rfl,hb,ho⟩;(conv=>whnf);intro _ _;(conv=>whnf);have hm:=hm.drew.fresh he9 hb ho;refine zcv (qkr cb _ (vAt m 2) 0 w9 (hm.get (zmc (zmc mh)))) ?_;rintro r w10 ⟨rfl,rfl⟩;(conv=>whnf);have hub:upN (dN m) 16≤4194304:=Nat.le_trans (qa0 _ _ Od) hn0;have hmul:upN (dN m) 16*dW m≤4194304*27:=Nat.mul_le_mul hub hWb;obtain ⟨f,ef⟩:∃ f,f=upN (dN m) 16*dW m:=⟨_,rfl⟩
  have efi:((upN (dN m) 16:Nat):Int)*((dW m:Nat):Int)=(f:Int):=by rw [ef,Int.natCast_mul]
  rw [← ef] at hmul;have e3:qb9 m=vAt m 2:=rfl;have e4:qt m=qb9 m+(f+7)/8:=by rw [ef];rfl
  have e5:dEnd m=qt m+vNum m 1:=rfl;have h2l:=qlm m 2;refine zy ?_;have hm:=hm.drew;refine zt ?_;refine LoadV.mem (i:=0) Oa rfl rfl (zw ?_);refine zt ?_;refine ⟨ii (upN (dN m) 16),qkw (dN m) _ hn0,?_⟩;conv=>whnf
  (repeat' (first|refine zp ?_|refine zC (fun _=>zw ?_) (fun _=>zw ?_)|(refine zJ 1 ?_;(conv=>whnf))|refine LoadV.mem (i:=0) Oa rfl rfl (zw ?_)|refine LoadV.mem (i:=1) Oa rfl rfl (zw ?_)))
  ·have hdE:dE m=(m.length,10):=by rw [dE,if_neg Oo,if_pos Oo]
   refine zcv (qe4 m.length 10 _) ?_;rintro r w7 ⟨⟨eb,rfl,hec⟩,he7⟩;(conv=>whnf);refine ⟨.inl ⟨by rw [hdE];simp,_,rfl,?_⟩,hm.ext.trans he7⟩;rw [hdE];exact ⟨eb,rfl,hec⟩
  ·have hdE:dE m=(dEnd m,13):=by rw [dE,if_neg Oo,if_neg Oo,if_pos Oo]
   have hEnd:(((vAt m 2:Nat):Int)+(((upN (dN m) 16:Nat):Int)*((dW m:Nat):Int)+7)/8+((vNum m 1:Nat):Int))=((dEnd m:Nat):Int):=by omega
   rw [hEnd];refine zcv (qe4 (dEnd m) 13 _) ?_;rintro r w7 ⟨⟨eb,rfl,hec⟩,he7⟩;(conv=>whnf);refine ⟨.inl ⟨by rw [hdE];simp,_,rfl,?_⟩,hm.ext.trans he7⟩;rw [hdE];exact ⟨eb,rfl,hec⟩
  have hdE:dE m=(0,0):=by rw [dE,if_neg Oo,if_neg Oo,if_neg Oo]
  have hlen:m.length=dEnd m:=by omega
  obtain ⟨w11,ew11⟩:∃ w11:World,w11=w10.drew:=⟨_,rfl⟩
  rw [← ew11] at hm ⊢;obtain ⟨PV,hPV⟩:∃ PV:Value,PV=.slice (if c=qb9 m then A else A.map (·.add (qb9 m*1))) (qt m-qb9 m) (c-qb9 m):=⟨_,rfl⟩
  obtain ⟨EV,hEV⟩:∃ EV:Value,EV=.slice (if c=qt m then A else A.map (·.add (qt m*1))) (dEnd m-qt m) (c-qt m):=⟨_,rfl⟩
  refine DrawV.inv (fun S w'=>Mem w w' [(b,.cells #[ii (dN m),ii (dW m),(bif S 12 then PV else .slice none 0 0),(bif S 15 then EV else .slice none 0 0)] 317),(hd,.cells #[ii (vNum m 0),ii (vNum m 1)] 318),(cb,curO 288 (.slice A m.length c) (vAt m 2) 0)]) rfl Ok hm.drew (zw ?_);(iterate 5 (refine zi ?_));refine StepI.of PV (fun S wd hk hp hI=>zw ?_) (zw ?_)
  ·refine SliceV.to (qb9 m) (qt m) c (by show (_:Int)=_;omega) (by show (_:Int)=_;omega) rfl Oo Oo znr (fun h=>by cases h) (zw ?_);exact ⟨hPV.symm,hI⟩
  (iterate 3 (refine zi ?_));refine StepI.of EV (fun S wd hk hp hI=>zw ?_) ?_
  ·refine SliceV.to (qt m) (dEnd m) c (by show (_:Int)=_;omega) (by show (_:Int)=_;omega) rfl Oo Oo znr (fun h=>by cases h) (zw ?_);exact ⟨hEV.symm,hI⟩
  subst hPV hEV;(conv=>whnf);refine zi ?_;refine zi ?_;refine StepI.of undef (fun S wd hk hp hI=>?_) (zw ?_)
  ·dsimp only at hI;rw [hk] at hI;(conv=>whnf);refine StoreV.mem hI (i:=0) rfl (show 2<4 by decide) rfl fun wx hmx=>zw ?_;exact ⟨rfl,hmx⟩
  refine zi ?_;refine zi ?_;refine StepI.of undef (fun S wd hk hp hI=>?_) (zw ?_)
  ·dsimp only at hI;rw [hk] at hI;(conv=>whnf);refine StoreV.mem hI (i:=0) rfl (show 3<4 by decide) rfl fun wx hmx=>zw ?_;exact ⟨rfl,hmx⟩
  intro w12 hI;(conv=>whnf);obtain ⟨o1,o2⟩:=hI.own _ mh;have l1:(qaf m).length=qt m-qb9 m:=by rw [qaf,List.length_take,zld];omega
  have l2:(qd m).length=dEnd m-qt m:=by rw [qd,zld];omega
  have e9:(((vAt m 2:Nat):Int)+(((upN (dN m) 16:Nat):Int)*((dW m:Nat):Int)+7)/8)=((qt m:Nat):Int):=by omega
  rw [e9];have c1:SlAt encB 1 w (if c=qb9 m then A else A.map (·.add (qb9 m*1))) (qaf m):=hS.cut (m:=c) Oo Oo Oo rfl;have c2:SlAt encB 1 w (if c=qt m then A else A.map (·.add (qt m*1))) (qd m):=by
   have:=hS.cut (m:=c) (lo:=qt m) (hi:=m.length) (A':=if c=qt m then A else A.map (·.add (qt m*1))) Oo Oo Oo rfl
   rwa [List.take_of_length_le Js] at this
  refine ⟨.inr ⟨by rw [hdE],b,rfl,o1,⟨⟨_,c-qb9 m,_,c-qt m,?_,c1.ext hI.ext,c2.ext hI.ext,?_⟩,hn0,g2,?_,?_⟩⟩,hI.ext⟩
  ·rw [l1,l2];exact o2
  ·rw [l2];omega
  ·rw [l1,← ef];omega
  ·rw [l2];show _=vNum m 1;omega
def DVwR (m:LB) (v:Value) (w0 w:World):Prop:=
 ((dE m).2≠0∧∃ e,v=.tuple #[.pointer none,e]∧ErrAt w e (dE m).1 (dE m).2)∨
 ((dE m).2=0∧∃ b,v=.tuple #[pp b,.nilIface]∧w0.heap.size≤b∧DictAt w b m)
theorem qxy (m:LB) (A:oA) (c:Nat) (w:World) (hS:SlAt encB 1 w A m) (hc:m.length≤c) (hl:m.length≤140737488355328) :
  Gv Tryz.prog 101 [.slice A m.length c] w fun v w'=>DVwR m v w w'∧Ext w w':=by
 have hsh:=qvd m A c w hS hc hl;refine ze Tryz.func101 Tryz.ntmps101 ?_;refine zcv (hsh) ?_;rintro v w1 ⟨⟨h0,e,rfl,b,rfl,hE⟩|⟨h0,b,rfl,hb,hD⟩,he⟩
 ·(conv=>whnf);exact ⟨.inl ⟨h0,_,rfl,b,rfl,hE⟩,he⟩
 ·(conv=>whnf);exact ⟨.inr ⟨h0,b,rfl,hb,hD⟩,he⟩
theorem qzh (x:Nat) (w:World) (hx:x<256):Gv Tryz.prog 224 [.int .u8 x] w fun r w'=>r=ii (qm0 x)∧w'=w:=by
 refine ze Tryz.func224 Tryz.ntmps224 ?_;refine IdxV.nat (by show x<256;exact hx) (zw ?_);refine Wit.conv (qiz (Nat.lt_of_lt_of_le (qbg _) Od)) (zw ?_);refine ⟨congrArg (Value.int .i64) (congrArg Int.ofNat ?_),rfl⟩;clear w
 revert x
 decide +kernel
def fnA (n:Nat) (F:Nat→Value):Array Value:=((List.range n).map F).toArray
def updF (F:Nat→Value) (i:Nat) (v:Value):Nat→Value:=fun j=>if j=i then v else F j
theorem qb6 (F:Nat→Value) (i:Nat) (v:Value):updF F i v i=v:=by simp [updF]
theorem qbk (F:Nat→Value) (i j:Nat) (v:Value) (h:j≠i):updF F i v j=F j:=by simp [updF,h]
theorem qn (n:Nat) (F:Nat→Value):(fnA n F).size=n:=by simp [fnA]
theorem qan (n:Nat) (F:Nat→Value) (i:Nat) (h:i<n):(fnA n F)[i]?=some (F i):=by
 rw [fnA,List.getElem?_toArray,List.getElem?_map,List.getElem?_range h];rfl
theorem qdw (n:Nat) (F:Nat→Value) (i:Nat) (v:Value):(fnA n F).setIfInBounds i v=fnA n (updF F i v):=by
 rw [← Array.toList_inj];simp only [fnA,Array.toList_setIfInBounds];apply List.ext_getElem?;intro j;rw [List.getElem?_set,List.getElem?_map,List.getElem?_map]
 by_cases e:i=j
 ·subst e;rw [if_pos rfl]
  by_cases h:i<n
  ·rw [if_pos (by simpa using h),List.getElem?_range h];simp [updF]
  ·rw [if_neg (by simpa using h),List.getElem?_eq_none (by simpa using h)];rfl
 ·rw [if_neg e]
  by_cases h:j<n
  ·rw [List.getElem?_range h];simp [updF,Ne.symm e]
  ·rw [List.getElem?_eq_none (by simpa using h)];rfl
theorem V.LoadV.fn {w0 w:World} {L:List (Nat × Obj)} {i b off n:Nat} {F:Nat→Value} {t:TypeId} {v:Value} {K:Value→Prop} (h:Mem w0 w L) (hi:L[i]?=some (b,.cells (fnA n F) t)) (j:Nat) (e:off=j) (hj:j<n) (hv:F j=v) (hk:K v):LoadV w b off K:=by
 subst e;exact LoadV.mem h hi (by rw [qan n F _ hj,hv]) hk
theorem V.StoreV.fn {w0 w:World} {L:List (Nat × Obj)} {i b off n:Nat} {F:Nat→Value} {t:TypeId} {v:Value} {K:World→Prop} (h:Mem w0 w L) (hi:L[i]?=some (b,.cells (fnA n F) t)) (j:Nat) (e:off=j) (hj:j<n) (h1:qbz v=true)
  (hk:∀ w',Mem w0 w' (L.set i (b,.cells (fnA n (updF F j v)) t))→K w'):StoreV w b off v K:=by
 subst e;refine StoreV.mem h hi (by rw [qn];exact hj) h1 fun w' hm=>hk w' ?_
 rwa [qdw] at hm
open Go.RowKit
namespace V
def que (n:Nat) (ops:Array Oper):Bool:=
 Region.noSelect ops&&(List.range ops.size).all fun j=>
  match ops[j]? with
  | none=>true
  | some o=>(qk o).all (fun k=>decide (k<j))&&(match o.dst with|some d=>decide (d<n)|none=>true)&&(List.range ops.size).all fun k=>
   match ops[k]? with
   | none=>true
   | some ok=>match ok.dst with
    | none=>true
    | some t=>(!(o.looksAt ops).contains t||((qk o).contains k||(qk ok).contains j))&&(k==j||o.dst != some t)
structure ShapeW (n:Nat) (ops:Array Oper):Prop where
 sel:Region.noSelect ops=true
 lt:∀ (j:Nat) (o:Oper),ops[j]?=some o→∀ k∈qk o,k<j
 dn:∀ (j:Nat) (o:Oper),ops[j]?=some o→∀ d,o.dst=some d→d<n
 look:∀ (j:Nat) (o:Oper) (k:Nat) (ok:Oper) (t:Nat),ops[j]?=some o→ops[k]?=some ok→ok.dst=some t→t∈o.looksAt ops→k∈qk o∨j∈qk ok
 uniq:∀ (j:Nat) (o:Oper) (k:Nat) (ok:Oper) (t:Nat),ops[j]?=some o→ops[k]?=some ok→ok.dst=some t→o.dst=some t→k=j
theorem qps {n:Nat} {ops:Array Oper} (h:que n ops=true):ShapeW n ops:=by
 simp only [que,Bool.and_eq_true] at h;obtain ⟨h1,h2⟩:=h;have key:∀ (j:Nat) (o:Oper),ops[j]?=some o→((qk o).all (fun k=>decide (k<j))&&(match o.dst with|some d=>decide (d<n)|none=>true)&&(List.range ops.size).all fun k=>
   match ops[k]? with
   | none=>true
   | some ok=>match ok.dst with
    | none=>true
    | some t=>(!(o.looksAt ops).contains t||((qk o).contains k||(qk ok).contains j))&&(k==j||o.dst != some t))=true:=fun j o hj=>by
  have:=List.all_eq_true.1 h2 j (List.mem_range.2 (Array.getElem?_eq_some_iff.1 hj).1);rw [hj] at this;exact this
 have key2:∀ (j:Nat) (o:Oper) (k:Nat) (ok:Oper) (t:Nat),ops[j]?=some o→ops[k]?=some ok→ok.dst=some t→((!(o.looksAt ops).contains t||((qk o).contains k||(qk ok).contains j))&&(k==j||o.dst != some t))=true:=fun j o k ok t hj hk ht=>by
  have:=key j o hj;simp only [Bool.and_eq_true] at this;have:=List.all_eq_true.1 this.2 k (List.mem_range.2 (Array.getElem?_eq_some_iff.1 hk).1);rw [hk] at this;simp only [ht] at this
  simpa using this
 refine ⟨h1,fun j o hj k hk=>?_,fun j o hj d hd=>?_,fun j o k ok t hj hk ht hl=>?_,fun j o k ok t hj hk ht ho=>?_⟩
 ·have:=key j o hj;simp only [Bool.and_eq_true] at this
  simpa using List.all_eq_true.1 this.1.1 k hk
 ·have:=key j o hj;simp only [Bool.and_eq_true] at this;have:=this.1.2;rw [hd] at this
  simpa using this
 ·have:=key2 j o k ok t hj hk ht;simp only [Bool.and_eq_true,Bool.or_eq_true,Bool.not_eq_true'] at this
  rcases this.1 with h|h
  ·rw [List.contains_eq_mem,decide_eq_false_iff_not] at h;exact absurd hl h
  ·simpa using h
 ·have:=key2 j o k ok t hj hk ht;simp only [Bool.and_eq_true,Bool.or_eq_true,beq_iff_eq] at this
  rcases this.2 with h|h
  ·exact h
  ·rw [ho] at h;simp at h
section
variable {P:Program} {n:Nat} {ops:Array Oper} {w0:World} {E:List Ent} {ρ:Nat→Value}
theorem qgb (hd:∀ (i:Nat) (o:Oper) (e:Ent),ops[i]?=some o→E[i]?=some e→EntOk e o) (hl:E.length=ops.size) (hS:ShapeW n ops) {listed:Array Bool} {vals ρa:Nat→Value} {a:Act} {w:World} (I:InvD n E w0 ρ listed vals ρa a w)
  (i:Nat) (ks:List Nat) (t:Nat) (h1:∀ (k:Nat) (e:Ent),E[k]?=some e→e.d=some t→k<i→listed.getD k false=true∧(e.v=none→k∈ks)) (h2:∀ (k:Nat) (e:Ent),E[k]?=some e→e.d=some t→listed.getD k false=true→k<i) :
  fr (E.take i) vals ks (sfr (E.take i) ρ) t=ρa t:=by
 have op_of:∀ (k:Nat) (e:Ent),E[k]?=some e→∃ o,ops[k]?=some o∧EntOk e o:=fun k e hk=>by
  have hlt:k<ops.size:=by
   rw [← hl]
   rcases Nat.lt_or_ge k E.length with h|h
   ·exact h
   ·rw [List.getElem?_eq_none h] at hk;cases hk
  exact ⟨ops[k],Array.getElem?_eq_getElem hlt,hd k _ e (Array.getElem?_eq_getElem hlt) hk⟩
 have uniq:∀ (k k':Nat) (e e':Ent),E[k]?=some e→E[k']?=some e'→e.d=some t→e'.d=some t→k'=k:=fun k k' e e' hk hk' hd1 hd2=>by
  obtain ⟨o,ho,hok⟩:=op_of k e hk;obtain ⟨o',ho',hok'⟩:=op_of k' e' hk';exact hS.uniq k o k' o' t ho ho' (hok'.d ▸ hd2) (hok.d ▸ hd1)
 have inE:∀ (k:Nat) (e:Ent),getL (E.take i) k=some e→E[k]?=some e∧k<i:=fun k e hk=>by
  rw [qg,List.getElem?_take] at hk
  split at hk
  ·exact ⟨hk,by assumption⟩
  ·cases hk
 by_cases hex:∃ (k:Nat) (e:Ent),E[k]?=some e∧e.d=some t∧k<i
 ·obtain ⟨k,e,hk,hdt,hki⟩:=hex;obtain ⟨hlis,hks⟩:=h1 k e hk hdt hki;obtain ⟨o,ho,hok⟩:=op_of k e hk;have hra:=I.at_ k hlis e t hk hdt;have hmem:e∈E.take i:=zmg (i:=k) (by rw [List.getElem?_take,if_pos hki];exact hk);have huE:∀ e'∈E.take i,e'.d=some t→e'=e:=fun e' he' hd'=>by
   obtain ⟨k',hk'⟩:=List.mem_iff_getElem?.1 he';have hk'':=(inE k' e' (by rw [qg];exact hk')).1;have:=uniq k k' e e' hk hk'' hdt hd';subst this;rw [hk] at hk'';exact (Option.some.inj hk'').symm
  cases hv:e.v with
  | some x=>
   have hx:vals k=x:=hok.v x hv _ _ (I.φ k hlis e hk);rw [qhj,qro _ _ (fun e' he' hd'=>by rw [huE e' he' hd'];exact hv) (.inr ⟨e,hmem,hdt⟩),hra,hx];intro k' _ φ hk';have:=huE _ (zmg (i:=k') (by rw [qg] at hk';exact hk')) rfl;rw [← this] at hv;cases hv
  | none=>
   obtain ⟨ed,ev,eφ⟩:=e;simp only at hdt hv;subst hdt hv;rw [qx9 (k0:=k) rfl (fun k' φ hk'=>?_) _ _ (.inr ⟨hks rfl,eφ,by rw [qg,List.getElem?_take,if_pos hki];exact hk⟩),hra];exact uniq k k' _ _ hk (inE k' _ hk').1 rfl rfl
 ·have hno:∀ k e,E[k]?=some e→k<i→e.d≠some t:=fun k e hk hki hd=>hex ⟨k,e,hk,hd,hki⟩
  rw [qhj,qnk]
  ·refine (I.miss t fun k hk e he hd=>?_).symm;exact hno k e he (h2 k e he hd hk) hd
  ·intro e he hd;obtain ⟨k',hk'⟩:=List.mem_iff_getElem?.1 he;obtain ⟨h3,h4⟩:=inE k' e (by rw [qg];exact hk');exact absurd hd (hno k' e h3 h4)
  ·intro k' _ φ hk';obtain ⟨h3,h4⟩:=inE k' _ hk';exact hno k' _ h3 h4 rfl
theorem qk3 {o:Oper} {ρ' ρa:Nat→Value} {a:Act} {w:World} {K:Value→World→Prop} {K2:Act→World→Prop} {Q':Exit→Act→World→Prop} {i:Nat} (hi:ops[i]?=some o) (hS:ShapeW n ops)
  (ha:St n ρa a) (hag:∀ t∈o.looksAt ops,ρ' t=ρa t) (h:qav P ops.toList o ρ' w K) (hk:∀ v w',K v w'→K2 (a.put o.dst v) w'):wpOp P ops Q' i K2 a w:=by
 have hsel:=Region.noSelect_spec hS.sel i o;have run:opV P o ρ' w K→Region.wanted o (yielded ops a.tmps)=true→wpOp P ops Q' i K2 a w:=fun h hw=>by
  unfold wpOp;rw [hi];simp only [hw,if_true];have hok:=qtv h;rw [qzn (ops:=ops) (fun cs b=>hsel cs b hi) hag] at hok;exact .inl (OpOk.wp ha.eval hok hk)
 have skip:K undef w→Region.wanted o (yielded ops a.tmps)=false→wpOp P ops Q' i K2 a w:=fun h hw=>by
  unfold wpOp;rw [hi];simp only [hw,Bool.false_eq_true,if_false];exact hk _ _ h
 unfold qav at h
 split at h
 ·rename_i hg
  exact run h (by simp [Region.wanted,hg])
 ·rename_i j want hg
  split at h
  ·rename_i hj
   rw [qg] at hj;have:ops[j]?=none:=by simpa using hj
   exact skip h (by simp [Region.wanted,hg,yielded,this])
  ·rename_i oj hj
   have hj':=hj;rw [qg] at hj';have hoj:ops[j]?=some oj:=by simpa using hj'
   split at h
   ·rename_i hd
    exact skip h (by simp [Region.wanted,hg,yielded,hoj,hd])
   ·rename_i d hd
    have hy:=ha.yield hj hd (hS.dn j oj hoj d hd);rw [Array.toArray_toList] at hy;rw [hag d (qgd hg hoj hd)] at h
    split at h
    ·rename_i b hb
     rw [hb] at hy;cases b
     ·have h:=h.f rfl;cases want
      ·exact run h (by simp [Region.wanted,hg,hy])
      ·exact skip h (by simp [Region.wanted,hg,hy])
     ·have h:=h.t rfl;cases want
      ·exact skip h (by simp [Region.wanted,hg,hy])
      ·exact run h (by simp [Region.wanted,hg,hy])
    ·rename_i hb
     refine skip h ?_;have:yielded ops a.tmps j=none:=by
      rw [hy]
      split
      ·rename_i b hb';exact absurd hb' (hb b)
      ·rfl
     simp [Region.wanted,hg,this]
theorem qsc {Q:(Nat→Value)→World→Prop} {Q':Exit→Act→World→Prop} (hQ:∀ ρ a w,St n ρ a→Q ρ w→Q' .normal a w) (hS:ShapeW n ops) (hl:E.length=ops.size)
  (hE:∀ (i:Nat) (o:Oper) (e:Ent),ops[i]?=some o→E[i]?=some e→EntOk e o∧
   ∀ w,Ext w0 w→allv (E.take i) (qk o) (sfr (E.take i) ρ) w fun ρ'=>qav P ops.toList o ρ' w fun v w'=>Ext w w'∧e.φ v w')
  (hF:∃ ks:List Nat,(∀ k d φ,getL E k=some ⟨some d,none,φ⟩→k∈ks)∧∀ w,Ext w0 w→allv E ks (sfr E ρ) w fun ρ'=>Q ρ' w) :
  ∀ (fuel:Nat) (listed:Array Bool) (vals ρa:Nat→Value) (a:Act) (w:World),listed.size=ops.size→listed.toList.count false≤fuel→(∀ k,listed.getD k false=true→∀ o,ops[k]?=some o→∀ j∈qk o,listed.getD j false=true)→InvD n E w0 ρ listed vals ρa a w→wpAny P .any ops Q' fuel listed a w:=by
 obtain ⟨ks,hks,hF⟩:=hF;have hd:∀ (i:Nat) (o:Oper) (e:Ent),ops[i]?=some o→E[i]?=some e→EntOk e o:=fun i o e h1 h2=>(hE i o e h1 h2).1
 have hlt:∀ (k:Nat) (e:Ent),E[k]?=some e→k<ops.size:=fun k e hk=>by
  rw [← hl]
  rcases Nat.lt_or_ge k E.length with h|h
  ·exact h
  ·rw [List.getElem?_eq_none h] at hk;cases hk
 have final:∀ (listed:Array Bool) (vals ρa:Nat→Value) (a:Act) (w:World),(∀ k,k<ops.size→listed.getD k false=true)→InvD n E w0 ρ listed vals ρa a w→Q' .normal a w:=fun listed vals ρa a w hall I=>by
  have h:=qg6 (vals:=vals) _ _ (fun k _ e hk=>by
   rw [qg] at hk;exact I.φ k (hall k (hlt k e hk)) e hk) (hF w I.ext)
  have he:fr E vals ks (sfr E ρ)=ρa:=by
   funext t
   have:=qgb hd hl hS I E.length ks t (fun k e hk hdt hki=>⟨hall k (hlt k e hk),fun hv=>hks k t e.φ (by
    obtain ⟨ed,ev,eφ⟩:=e;simp only at hdt hv;subst hdt hv;rw [qg];exact hk)⟩) (fun k e hk _ _=>by rw [hl];exact hlt k e hk)
   rwa [List.take_length] at this
  rw [he] at h;exact hQ _ _ _ I.st h
 have nodone:∀ (listed:Array Bool),listed.size=ops.size→Region.ready .any ops listed=[]→∀ k,k<ops.size→listed.getD k false=true:=fun listed hsz hr k hk=>by
  induction k using Nat.strongRecOn with
  | _ k ih=>
   cases hv:listed.getD k false with
   | true=>rfl
   | false=>
    exfalso
    have hmem:k∈Region.ready .any ops listed:=by
     refine mem_ready.2 ⟨?_,ops[k],Array.getElem?_eq_getElem hk,fun e he hb=>?_⟩
     ·have:k<listed.size:=by omega
      simp [this] at hv ⊢;exact hv
     ·rw [qaj] at hb;have hp:e.on∈qk ops[k]:=qv.2 ⟨e,by simpa using he,hb,rfl⟩;have h1:=hS.lt k _ (Array.getElem?_eq_getElem hk) _ hp;exact ih _ h1 Oo
    rw [hr] at hmem;cases hmem
 intro fuel
 induction fuel with
 | zero=>
  intro listed vals ρa a w hsz hc hdc I;have hall:∀ k,k<ops.size→listed.getD k false=true:=fun k hk=>by
   have h0:listed.toList.count false=0:=by omega
   have h1:=List.count_eq_zero.1 h0;have hk':k<listed.size:=by omega
   cases hv:listed[k] with
   | true=>simp [hk',hv]
   | false=>exact absurd (by rw [← hv];exact Array.mem_toList_iff.2 (Array.getElem_mem hk')) h1
  refine ⟨?_,final listed vals ρa a w hall I⟩;rw [List.eq_nil_iff_forall_not_mem];intro j hj;obtain ⟨h1,o,ho,_⟩:=mem_ready.1 hj;have h2:=hall j (Array.getElem?_eq_some_iff.1 ho).1;have hk':j<listed.size:=by have:=(Array.getElem?_eq_some_iff.1 ho).1;omega
  simp [hk'] at h1 h2;rw [h1] at h2;cases h2
 | succ fuel ih=>
  intro listed vals ρa a w hsz hc hdc I;refine ⟨fun hr=>final listed vals ρa a w (nodone listed hsz hr) I,fun i hi=>?_⟩;obtain ⟨hun,o,ho,hall⟩:=mem_ready.1 hi;have hio:i<ops.size:=(Array.getElem?_eq_some_iff.1 ho).1;have hiE:i<E.length:=by omega
  obtain ⟨hok,hspec⟩:=hE i o E[i] ho (zge hiE);have hpl:∀ k∈qk o,listed.getD k false=true:=fun k hk=>by
   obtain ⟨e,he,hb,hon⟩:=qv.1 hk;rw [← hon];exact hall e (by simpa using he) (by rw [qaj];exact hb)
  have h:=qg6 (vals:=vals) _ _ (fun k hk e he=>by
   rw [qg,List.getElem?_take,if_pos (hS.lt i o ho k hk)] at he;exact I.φ k (hpl k hk) e he) (hspec w I.ext)
  have hag:∀ t∈o.looksAt ops,fr (E.take i) vals (qk o) (sfr (E.take i) ρ) t=ρa t:=fun t ht=>by
   have hp:∀ (k:Nat) (e:Ent),E[k]?=some e→e.d=some t→k∈qk o∨(i<k∧listed.getD k false≠true):=fun k e hk hdt=>by
    have hk':=hlt k e hk
    rcases hS.look i o k ops[k] t ho (Array.getElem?_eq_getElem hk') ((hd k _ e (Array.getElem?_eq_getElem hk') hk).d ▸ hdt) ht with h|h
    ·exact .inl h
    ·refine .inr ⟨hS.lt k _ (Array.getElem?_eq_getElem hk') i h,fun hl=>?_⟩;have:=hdc k hl _ (Array.getElem?_eq_getElem hk') i h;have hi':i<listed.size:=by omega
     simp [hi'] at hun this;rw [hun] at this;cases this
   exact qgb hd hl hS I i (qk o) t (fun k e hk hdt hki=>by
    rcases hp k e hk hdt with h|h
    ·exact ⟨hpl k h,fun _=>h⟩
    ·omega) (fun k e hk hdt hlk=>by
    rcases hp k e hk hdt with h|h
    ·exact hS.lt i o ho k h
    ·exact absurd hlk h.2)
  refine qk3 ho hS I.st hag h fun v w' ⟨hx,hφ⟩=>?_;have hgd:∀ k,(listed.setIfInBounds i true).getD k false=true→k=i∨(k≠i∧listed.getD k false=true):=fun k hk=>by
   by_cases hki:k=i
   ·exact .inl hki
   ·rw [getD_set_ne false (fun e=>hki e.symm)] at hk;exact .inr ⟨hki,hk⟩
  have hnl:listed.getD i false=false:=by
   have:i<listed.size:=by omega
   simp [this] at hun ⊢;exact hun
  refine ih _ (fun k=>if k=i then v else vals k) (match o.dst with|some d=>upd ρa d v|none=>ρa) _ _ (by simp [hsz]) (by have:=countP_set listed i hun;omega) (fun k hk o' ho' j hj=>by
   have hset:∀ j,listed.getD j false=true→(listed.setIfInBounds i true).getD j false=true:=fun j hj=>by
    by_cases hji:j=i
    ·subst hji;rw [hnl] at hj;cases hj
    ·rw [getD_set_ne false (fun e=>hji e.symm)];exact hj
   rcases hgd k hk with rfl|⟨hki,hk⟩
   ·rw [ho] at ho';cases ho';exact hset j (hpl j hj)
   ·exact hset j (hdc k hk o' ho' j hj)) ⟨I.ext.trans hx,?_,?_,?_,?_⟩
  ·cases hdd:o.dst with
   | none=>exact I.st
   | some d=>exact I.st.put (hS.dn i o ho d hdd) v
  ·intro k hk e he
   rcases hgd k hk with rfl|⟨hki,hk⟩
   ·rw [zge hiE] at he;cases he
    simpa using hφ
   ·simp only [if_neg hki];have hk':=hlt k e he;exact (hd k _ e (Array.getElem?_eq_getElem hk') he).st _ _ _ (I.φ k hk e he) hx
  ·intro k hk e d he hdd
   rcases hgd k hk with rfl|⟨hki,hk⟩
   ·rw [zge hiE] at he;cases he;rw [hok.d] at hdd;simp [hdd,qc8]
   ·simp only [if_neg hki];have hk':=hlt k e he;have hd2:=(hd k _ e (Array.getElem?_eq_getElem hk') he).d;cases ho2:o.dst with
    | none=>exact I.at_ k hk e d he hdd
    | some d2=>
     have hne:d≠d2:=by
      rintro rfl;exact hki (hS.uniq i o k _ d ho (Array.getElem?_eq_getElem hk') (hd2 ▸ hdd) ho2)
     simp only;rw [qah _ _ _ _ hne];exact I.at_ k hk e d he hdd
  ·intro t ht;have h1:ρa t=ρ t:=I.miss t fun k hk e he=>ht k (by
    by_cases hki:k=i
    ·subst hki;rw [hnl] at hk;cases hk
    ·rw [getD_set_ne false (fun e=>hki e.symm)];exact hk) e he
   cases ho2:o.dst with
   | none=>exact h1
   | some d2=>
    have hne:t≠d2:=by
     rintro rfl;refine ht i ?_ E[i] (zge hiE) (by rw [hok.d,ho2]);have:i<listed.size:=by omega
     simp [this]
    simp only;rw [qah _ _ _ _ hne];exact h1
end
end V
def kv:Nat→Int
 | 0=>3
 | 1=>2
 | 2=>1
 | 3=>0
 | _=>-1
namespace V
def byV (l:LB):List Value:=l.map fun c=>Value.int .u8 c.toNat
theorem qae (l:LB):(byV l).length=l.length:=by simp [byV]
structure Tri (e:TypeId) (w0 w:World) (a b c:Value) (x y z:LB):Prop where
 ext:Ext w0 w
 oa:w.ownsRow w0.heap.size e 1 a x.length (byV x)
 ob:w.ownsRow w0.heap.size e 1 b y.length (byV y)
 oc:w.ownsRow w0.heap.size e 1 c z.length (byV z)
 ab:∀ g,a.ownBlock=some g→b.ownBlock≠some g
 ac:∀ g,a.ownBlock=some g→c.ownBlock≠some g
 bc:∀ g,b.ownBlock=some g→c.ownBlock≠some g
section
variable {P:Program} {e:TypeId} {w0 w w':World} {a b c:Value} {x y z:LB}
theorem Tri.nil (w:World):Tri e w w (.slice none 0 0) (.slice none 0 0) (.slice none 0 0) [] [] []:=
 ⟨Ext.refl w,World.ownsRow_nil _ _ _ _,World.ownsRow_nil _ _ _ _,World.ownsRow_nil _ _ _ _,fun g h=>(by cases h),fun g h=>(by cases h),fun g h=>(by cases h)⟩
theorem qms {base size n:Nat} {v:Value} {xs:List Value} (h:w.ownsRow base e size v n xs) (he:Ext w w'):w'.ownsRow base e size v n xs:=
 h.kept (row:=none) ⟨he.os,he.tape,he.output,he.size,fun k hk _=>he.block k hk⟩ (by cases v.ownBlock<;>simp)
theorem Tri.call (h:Tri e w0 w a b c x y z) (he:Ext w w'):Tri e w0 w' a b c x y z:=
 ⟨h.ext.trans he,qms h.oa he,qms h.ob he,qms h.oc he,h.ab,h.ac,h.bc⟩
theorem Tri.rot (h:Tri e w0 w a b c x y z):Tri e w0 w b c a y z x:=
 ⟨h.ext,h.ob,h.oc,h.oa,h.bc,fun g hb ha=>h.ab g ha hb,fun g hc ha=>h.ac g ha hc⟩
theorem q8 {base size n:Nat} {v:Value} {xs:List Value} (h:w.ownsRow base e size v n xs):∃ A c,v=.slice A n c:=by
 rcases h.2 with ⟨rfl,rfl⟩|⟨g,cap,cur,rfl,_⟩
 ·exact ⟨_,_,rfl⟩
 ·exact ⟨_,_,rfl⟩
theorem qin {A:oA} {l:LB} (h:SlAt encB 1 w A l):byV l≠[]→∃ b off,A=some ⟨b,off,none⟩∧CellsAt w b off (byV l):=by
 intro hne;obtain ⟨b,off,h1,h2⟩:=h.at_ (by rintro rfl;exact hne rfl);refine ⟨b,off,h1,fun k v hv=>?_⟩;rw [byV,List.getElem?_map] at hv;obtain ⟨u,hu,rfl⟩:=Option.map_eq_some_iff.1 hv;have:=h2 k u hu 0 (.int .u8 u.toNat) rfl
 simpa using this
theorem Tri.app {t ty:TypeId} {i:TypeInfo} {zv:Value} {B:oA} {d:Nat} {m:LB} {K:Value→World→Prop} (h:Tri e w0 w a b c x y z) (ht:P.underlying t=some (.slice e)) (hi:P.info? e=some i) (hz:i.zero=some zv)
  (hsize:i.size=1) (hzs:zv.cells.size=1) (hby:i.bytes≤16) (hS:SlAt encB 1 w B m) (hlen:x.length+m.length≤8000000000000)
  (hk:∀ A' c' w',Tri e w0 w' (.slice A' (x.length+m.length) c') b c (x++m) y z→K (.slice A' (x.length+m.length) c') w'):AppV P #[t,t] ty a (.slice B m.length d) w K:=by
 refine AppV.own (news:=byV m) ht hi hz hsize hzs Od h.oa h.ext.size (by rw [qae,Nat.mul_one]) (qin hS) (fun u hu=>?_) (Nat.le_trans (Nat.mul_le_mul hlen hby) Od) Oo ?_
 ·simp only [byV,List.mem_map] at hu;obtain ⟨v,_,rfl⟩:=hu;rfl
 ·intro v' w' ho hg hor;obtain ⟨A',c',rfl⟩:=q8 ho;have ap:∀ (v:Value) (l:LB),w.ownsRow w0.heap.size e 1 v l.length (byV l)→(∀ g,a.ownBlock=some g→v.ownBlock≠some g)→(v.ownBlock=none∨v.ownBlock≠a.ownBlock)∧∀ g,Value.ownBlock (.slice A' (x.length+m.length) c')=some g→v.ownBlock≠some g:=fun v l hv hap=>by
   constructor
   ·cases hvb:v.ownBlock with
    | none=>exact .inl rfl
    | some g=>exact .inr fun e=>hap g e.symm hvb
   ·intro g hg' hvb
    rcases hor with hor|hor
    ·exact hap g (by rw [← hor];exact hg') hvb
    ·rw [hor] at hg';have:=(hv.lt g hvb).2;have e:w.heap.size=g:=Option.some.inj hg';omega
  obtain ⟨b1,b2⟩:=ap b y h.ob h.ab;obtain ⟨c1,c2⟩:=ap c z h.oc h.ac;refine hk A' c' w' ⟨?_,?_,h.ob.kept hg b1,h.oc.kept hg c1,b2,c2,h.bc⟩
  ·exact Below.grown h.ext hg h.ext.size (fun k hk=>(h.oa.lt k hk).1)
  ·rw [byV,List.map_append,zla];exact ho
theorem qd2 {base:Nat} {v:Value} {l:LB} (h:w.ownsRow base e 1 v l.length (byV l)):BS w v l:=by
 rcases h.2 with ⟨rfl,h0⟩|⟨g,cap,cur,rfl,h1,h2,h3,h4,h5,h6⟩
 ·have:l=[]:=List.eq_nil_of_length_eq_zero h0;subst this;exact BS.nil w
 ·refine ⟨_,cap,rfl,h3,⟨fun _=>⟨g,0,rfl,fun j u hu k v hv=>?_⟩⟩⟩;cases k with
  | succ k=>simp [encB] at hv
  | zero=>
   simp only [encB,List.getElem?_cons_zero,Option.some.injEq] at hv;subst hv;have hj:(cur.toList.take (l.length*1))[j]?=some (.int .u8 u.toNat):=by rw [h6,byV,List.getElem?_map,hu];rfl
   rw [List.getElem?_take] at hj
   split at hj
   ·rw [qa h2]
    simpa using hj
   ·cases hj
end
end V
structure LvlV (l:LB) (k:Nat):Prop where
 vec:VecOk (qdl l k)
 n:vN (qdl l k)=vNum l k
 m:vM (qdl l k)=vNum l (k-1)
 last:0<vNum l k→bitN ((qdl l k).drop 8) (vNum l k-1)=1
section
variable {l:LB} (hL:∀ k,1≤k→k≤3→LvlV l k) {i:Nat} (hi:i<vNum l 3)
include hL hi
end
structure DSt (m:LB) (i:Nat) (last:LB) (p:Nat):Prop where
 le:p≤(qd m).length
 st:∀ j,i=j+1→blk (qd m) (qz m (j/16)) (j%16)=(last,p,0)
theorem DSt.step {m:LB} {i:Nat} {last:LB} {p:Nat} (h:DSt m i last p) (hp:i%16=0→qz m (i/16)=p) {first:Bool} (hf:first=decide (i%16=0))
  (he:(entG ((qd m).drop p) first last).2.2=0):DSt m (i+1) (entG ((qd m).drop p) first last).1 (p+(entG ((qd m).drop p) first last).2.1):=by
 have hlen:=(qfh he).2;have hle:=h.le;rw [zld] at hlen;refine ⟨by omega,fun j hj=>?_⟩;obtain rfl:j=i:=by omega
 have hat:∀ b x,entG ((qd m).drop p) b x=entG ((qd m).drop p) first last→qcb (qd m) p b x=((entG ((qd m).drop p) first last).1,p+(entG ((qd m).drop p) first last).2.1,0):=fun b x e=>by
  rw [qcb,if_neg Oo,e,if_neg Oo]
 by_cases h0:j%16=0
 ·rw [h0,hp h0];have hf1:first=true:=by rw [hf,decide_eq_true h0]
  subst hf1;exact hat _ _ (by simp only [entG,if_true,Nat.not_lt_zero,if_false,List.take_zero])
 ·have hf1:first=false:=by rw [hf,decide_eq_false h0]
  subst hf1;obtain ⟨k,rfl⟩:∃ k,j=k+1:=⟨j-1,by omega⟩
  have hk:=h.st k rfl;have e1:(k+1)/16=k/16:=by omega
  have e2:(k+1)%16=k%16+1:=by omega
  rw [e1,e2,blk,hk,if_neg Js];exact hat _ _ rfl
theorem DSt.get {m:LB} {i:Nat} {last:LB} {p:Nat} (h:DSt m (i+1) last p) (hi:i<dN m):dGet m i=some last:=by
 have:=h.st i rfl;rw [dGet,if_pos hi,this,if_pos rfl]
def gL (d:LB):Nat→LB
 | 0=>[]
 | i+1=>if i%2048=0 then gL d i++fixL (cnt d i) 4 else gL d i
def sL (d:LB):Nat→LB
 | 0=>[]
 | i+1=>if i%256=0 then sL d i++fixL (cnt d i-cnt d (2048*(i/2048))) 2 else sL d i
def mL (d:LB):Nat→LB
 | 0=>[]
 | i+1=>if bitN d i=1∧cnt d i%512=0 then mL d i++fixL i 4 else mL d i
theorem qtb (d:LB) (i:Nat):(gL d i).length=4*upN i 2048:=by
 induction i with
 | zero=>rfl
 | succ i ih=>
  rw [gL]
  split
  ·rw [zla,ih,qf];unfold upN;omega
  ·rw [ih];unfold upN;omega
theorem qt9 (d:LB) (i:Nat):(sL d i).length=2*upN i 256:=by
 induction i with
 | zero=>rfl
 | succ i ih=>
  rw [sL]
  split
  ·rw [zla,ih,qf];unfold upN;omega
  ·rw [ih];unfold upN;omega
theorem qtk (d:LB) (i:Nat):(mL d i).length=4*upN (cnt d i) 512:=by
 induction i with
 | zero=>simp [mL,cnt,upN]
 | succ i ih=>
  have hb:=qfq d i;rw [mL,cnt]
  split
  ·rename_i h
   rw [zla,ih,qf,h.1];unfold upN;omega
  ·rename_i h
   rw [ih]
   by_cases h1:bitN d i=1
   ·have:cnt d i%512≠0:=fun e=>h ⟨h1,e⟩
    rw [h1];unfold upN;omega
   ·have:bitN d i=0:=by omega
    rw [this];rfl
theorem q86 (d:LB) (i j:Nat) (hj:j<upN i 2048):((gL d i).drop (4*j)).take 4=fixL (cnt d (2048*j)) 4:=by
 induction i with
 | zero=>simp [upN] at hj
 | succ i ih=>
  have hlen:=qtb d i;rw [gL]
  split
  ·rename_i h
   by_cases hlt:j<upN i 2048
   ·rw [List.drop_append_of_le_length Oo,List.take_append_of_le_length (by rw [zld];omega)];exact ih hlt
   ·have e1:4*j=(gL d i).length:=by rw [hlen];unfold upN at hj hlt ⊢;omega
    have e2:i=2048*j:=by unfold upN at hj hlt;omega
    rw [e1,List.drop_left,List.take_of_length_le (by rw [qf];exact Nat.le_refl _),← e2]
  ·rename_i h
   exact ih (by unfold upN at hj ⊢;omega)
theorem q9h (d:LB) (i j:Nat) (hj:j<upN i 256):((sL d i).drop (2*j)).take 2=fixL (cnt d (256*j)-cnt d (2048*(j/8))) 2:=by
 induction i with
 | zero=>simp [upN] at hj
 | succ i ih=>
  have hlen:=qt9 d i;rw [sL]
  split
  ·rename_i h
   by_cases hlt:j<upN i 256
   ·rw [List.drop_append_of_le_length Oo,List.take_append_of_le_length (by rw [zld];omega)];exact ih hlt
   ·have e1:2*j=(sL d i).length:=by rw [hlen];unfold upN at hj hlt ⊢;omega
    have e2:i=256*j:=by unfold upN at hj hlt;omega
    have e3:i/2048=j/8:=by omega
    rw [e1,List.drop_left,List.take_of_length_le (by rw [qf];exact Nat.le_refl _),e3,← e2]
  ·rename_i h
   exact ih (by unfold upN at hj ⊢;omega)
theorem qu8 (d:LB) (a b:Nat):cnt d (a+b)≤cnt d a+b:=by
 induction b with
 | zero=>exact Nat.le_refl _
 | succ b ih=>have:=qfq d (a+b);rw [← Nat.add_assoc,cnt];omega
def vD (l:LB):LB:=(l.drop 8).take (upN (vN l) 8)
theorem ql1 (d:LB) (A:oA) (n c t:Nat) (w:World) (hS:SlAt encB 1 w A d) (hn:d.length=n) (ht:t/8<d.length) (hd:d.length≤67108864) :
  Gv Tryz.prog 128 [.slice A n c,ii t] w fun v w'=>v=.bool (decide (bitN d t=1))∧w'=w:=by
 have hlt:=qbg d[t/8];have hlt2:d[t/8].toNat/2 ^ (t%8)<256:=Nat.lt_of_le_of_lt (Nat.div_le_self _ _) hlt;have hb:d[t/8].toNat/2 ^ (t%8)%2 ^ 1=bitN d t:=by
  rw [bitN,List.getD_eq_getElem?_getD,zge ht];rfl
 have ht':t/8<n:=hn ▸ ht;refine ze Tryz.func128 Tryz.ntmps128 ?_;refine zv ?_;refine ElemV.bs hS hn (t/8) Oo ht' ?_;intro eb eo hc;(conv=>whnf);refine LoadV.of hc (zu ?_);refine V.Wit.shrN (t%8) Oo (by show t%8<8;omega) (zw ?_);refine Wit.eq (qbc (k:=.u8) (m:=d[t/8].toNat/2 ^ (t%8)) 1 rfl (qd8 hlt2) ⟨by omega,by omega⟩) ?_;rw [hb];(conv=>whnf);refine ⟨congrArg Value.bool ?_,rfl⟩;rw [Bool.eq_iff_iff];simp only [decide_eq_true_eq];omega
theorem qt6 (n k:Nat) (w:World) (hk:k≤4) :
  Gv Tryz.prog 127 [ii n,ii k] w fun r w'=>w'.ownsRow w.heap.size 5 1 r k (byV (fixL n k))∧Ext w w':=by
 refine ze Tryz.func127 Tryz.ntmps127 ?_;refine qe (fun x:Nat × oA × Nat=>[(0,ii n),(1,ii k),(5,.slice x.2.1 x.1 x.2.2),(6,ii x.1)])
  (fun x w2=>x.1≤k∧Rw w w2 (.slice x.2.1 x.1 x.2.2) 5 1 x.1 (byV (fixL n x.1)) []) (fun x=>k-x.1) (0,none,0) ⟨rfl,rfl,rfl,rfl,trivial⟩ ⟨by simp,Rw.nil (Mem.nil w)⟩ ?_
 rintro ⟨i,A,c⟩ w2 ρ' ⟨h1,hR⟩;dsimp only at h1 hR ⊢;(conv=>whnf);refine zC (fun _=>zu ?_) (fun _=>zu ?_)
 ·refine V.Wit.shrN (8*i) Oo (by show 8*i<64;omega) (zw ?_);refine V.Wit.low8 (zw ?_);refine NewV.rw hR fun nb w4 hR4=>zw ?_;refine AppV.one qbf bytI bytZ Ok rfl (by decide +kernel) hR4 rfl Oo ?_;intro B' d' w5 hR5;refine zu ?_;refine ⟨(i+1,B',d'),⟨rfl,rfl,rfl,rfl,trivial⟩,⟨by simp only;omega,?_⟩,by simp only;omega⟩;simp only [fixL,byV,List.map_append,List.map_cons,List.map_nil];have e:(UInt8.ofNat (n/2 ^ (8*i)%256)).toNat=n/2 ^ (8*i)%256:=by simp
  rw [e];exact hR5
 ·obtain rfl:i=k:=by omega
  exact ⟨hR.own,hR.mem.ext⟩
def qab (d:LB) (n:Nat):LB:=fixL n 4++fixL (cnt d n) 4++d++gL d n++sL d n++mL d n
def ahN (d:LB) (i:Nat):Nat:=if i=0 then 0 else cnt d (2048*((i-1)/2048))
theorem q32 (d:LB) (i:Nat) (h:i%2048=0):gL d (i+1)=gL d i++fixL (cnt d i) 4:=by rw [gL,if_pos h]
theorem qya (d:LB) (i:Nat) (h:i%2048≠0):gL d (i+1)=gL d i:=by rw [gL,if_neg h]
theorem qt8 (d:LB) (i:Nat) (h:i%256=0):sL d (i+1)=sL d i++fixL (cnt d i-cnt d (2048*(i/2048))) 2:=by rw [sL,if_pos h]
theorem q6u (d:LB) (i:Nat) (h:i%256≠0):sL d (i+1)=sL d i:=by rw [sL,if_neg h]
theorem qk7 (d:LB) (i:Nat) (h:bitN d i=1) (h2:cnt d i%512=0):mL d (i+1)=mL d i++fixL i 4:=by rw [mL,if_pos ⟨h,h2⟩]
theorem qhm (d:LB) (i:Nat) (h:¬ (bitN d i=1∧cnt d i%512=0)):mL d (i+1)=mL d i:=by rw [mL,if_neg h]
theorem q7i (d:LB) (i:Nat) (h:i%2048=0):ahN d (i+1)=cnt d i:=by
 rw [ahN,if_neg Oo];have e:2048*((i+1-1)/2048)=i:=by omega
 rw [e]
theorem qw0 (d:LB) (i:Nat) (h:i%2048≠0):ahN d (i+1)=ahN d i:=by
 rw [ahN,ahN,if_neg Oo,if_neg Oo];have e:(i+1-1)/2048=(i-1)/2048:=by omega
 rw [e]
theorem qlw (d:LB) (i:Nat):ahN d (i+1)=cnt d (2048*(i/2048)):=by
 rw [ahN,if_neg Oo];rfl
theorem q81 (d:LB) (i:Nat):ahN d i≤cnt d i:=by
 rw [ahN]
 split
 ·exact Nat.zero_le _
 ·exact qio Oo
theorem V.AppV.rwB {P:Program} {w0 w:World} {e t ty:TypeId} {i:TypeInfo} {z:Value} {L:List (Nat × Obj)} {A B:oA} {c d:Nat} {x m:LB} {K:Value→World→Prop} (ht:P.underlying t=some (.slice e)) (hi:P.info? e=some i) (hz:i.zero=some z)
  (hsize:i.size=1) (hzs:z.cells.size=1) (hby:i.bytes≤16) (h:Rw w0 w (.slice A x.length c) e 1 x.length (byV x) L) (hS:SlAt encB 1 w B m) (hlen:x.length+m.length≤8000000000000)
  (hk:∀ A' c' w',Rw w0 w' (.slice A' (x++m).length c') e 1 (x++m).length (byV (x++m)) L→K (.slice A' (x++m).length c') w'):AppV P #[t,t] ty (.slice A x.length c) (.slice B m.length d) w K:=by
 refine AppV.rw (news:=byV m) ht hi hz hsize hzs Od h (by rw [qae,Nat.mul_one]) (qin hS) (fun u hu=>?_) (Nat.le_trans (Nat.mul_le_mul hlen hby) Od) Oo ?_
 ·simp only [byV,List.mem_map] at hu;obtain ⟨v,_,rfl⟩:=hu;rfl
 ·intro A' c' w' hR;rw [← zla] at hR ⊢;exact hk A' c' w' (by rw [byV,List.map_append];exact hR)
theorem qcv (n k:Nat) (w:World) (hk:k≤4) :
  Gv Tryz.prog 127 [ii n,ii k] w fun r w'=>(∃ A c,r=.slice A (fixL n k).length c∧SlAt encB 1 w' A (fixL n k))∧Ext w w':=by
 refine (qt6 n k w hk).mono ?_;rintro r w' ⟨ho,he⟩;obtain ⟨A,c,e,_,hS⟩:=qd2 (l:=fixL n k) (by rw [qf];exact ho);exact ⟨⟨A,c,e,hS⟩,he⟩
theorem qwq (d:LB) (A:oA) (l c n:Nat) (w:World) (hS:SlAt encB 1 w A d) (hl:d.length=l) (hn:n≤8*d.length) (hb:n≤67108864) (hd:d.length≤67108864) :
  Gv Tryz.prog 82 [.slice A l c,ii n] w fun v w'=>(∃ B cb,v=.slice B (qab d n).length cb∧SlAt encB 1 w' B (qab d n))∧Ext w w':=by
 refine ze Tryz.func82 Tryz.ntmps82 ?_;refine qe (fun x:Nat × (oA × Nat) × (oA × Nat) × (oA × Nat)=>[(0,.slice A l c),(1,ii n),(5,.slice x.2.1.1 (gL d x.1).length x.2.1.2),(6,.slice x.2.2.1.1 (sL d x.1).length x.2.2.1.2),(7,.slice x.2.2.2.1 (mL d x.1).length x.2.2.2.2),(8,ii (cnt d x.1)),(9,ii (ahN d x.1)),(10,ii x.1)])
  (fun x w'=>x.1≤n∧V.Tri 5 w w' (.slice x.2.1.1 (gL d x.1).length x.2.1.2) (.slice x.2.2.1.1 (sL d x.1).length x.2.2.1.2) (.slice x.2.2.2.1 (mL d x.1).length x.2.2.2.2) (gL d x.1) (sL d x.1) (mL d x.1)) (fun x=>n-x.1) (0,(none,0),(none,0),(none,0))
  ⟨rfl,rfl,rfl,rfl,rfl,rfl,rfl,rfl,trivial⟩ ⟨Nat.zero_le _,Tri.nil w⟩ ?_
 rintro ⟨i,⟨GA,gc⟩,⟨SA,sc⟩,⟨MA,mc⟩⟩ w1 ρ' ⟨i1,hT⟩;dsimp only at i1 hT ⊢;have hc:=qeh d i;have hah:=q81 d i;have hgl:=qtb d i;have hsl:=qt9 d i;have hml:=qtk d i;have hu1:=qa0 i 2048 Od;have hu2:=qa0 i 256 Od;have hu3:=qa0 (cnt d i) 512 Od;have hs:cnt d (i+1)=cnt d i+bitN d i:=rfl;have hb1:=qfq d i;conv=>whnf
 (repeat' (first|refine zp ?_|refine zC (fun _=>zw ?_) (fun _=>zw ?_)))
 ·have hah1:ahN d (i+1)=cnt d i:=q7i d i Oo;refine zcv (qcv (cnt d i) 4 w1 Od) ?_;rintro r w2 ⟨⟨B,cb,rfl,hSB⟩,he⟩;have hT:=hT.call he;(conv=>whnf);refine V.Tri.app hT qbf bytI bytZ Ok rfl (by decide +kernel) hSB (by rw [qf];omega) ?_;intro GA gc w3 hT;have e1:(gL d i).length+(fixL (cnt d i) 4).length=(gL d (i+1)).length:=by rw [q32 d i Oo,zla]
  rw [e1] at hT ⊢;rw [← q32 d i Oo] at hT;refine zu ?_;have es:((cnt d i:Nat):Int)-((cnt d i:Nat):Int)=((cnt d i-ahN d (i+1):Nat):Int):=by rw [hah1];omega
  rw [es];refine zcv (qcv (cnt d i-ahN d (i+1)) 2 _ Od) ?_;rintro r w4 ⟨⟨B2,cb2,rfl,hSB2⟩,he2⟩;have hT:=(hT.call he2).rot;(conv=>whnf);refine V.Tri.app hT qbf bytI bytZ Ok rfl (by decide +kernel) hSB2 (by rw [qf];omega) ?_;intro SA sc w5 hT;have e2:(sL d i).length+(fixL (cnt d i-ahN d (i+1)) 2).length=(sL d (i+1)).length:=by rw [qt8 d i Oo,zla,qlw]
  rw [e2] at hT ⊢;rw [qlw,← qt8 d i Oo] at hT;have hT:=hT.rot.rot;(conv=>whnf);refine zcv (ql1 d A l c i _ (hS.ext hT.ext) hl Oo hd) ?_;rintro r w6 ⟨rfl,rfl⟩;conv=>whnf
  (repeat' (first|refine zp ?_|refine zC (fun _=>zw ?_) (fun _=>zw ?_)))
  ·have e3:((cnt d i:Nat):Int)+1=((cnt d (i+1):Nat):Int):=by rw [hs];omega
   refine zcv (qcv i 4 _ Od) ?_;rintro r w7 ⟨⟨B3,cb3,rfl,hSB3⟩,he3⟩;have hT:=(hT.call he3).rot.rot;(conv=>whnf);refine V.Tri.app hT qbf bytI bytZ Ok rfl (by decide +kernel) hSB3 (by rw [qf];omega) ?_;intro MA mc w8 hT;have e4:(mL d i).length+(fixL i 4).length=(mL d (i+1)).length:=by rw [qk7 d i ‹_› Oo,zla]
   rw [e4] at hT ⊢;rw [← qk7 d i ‹_› Oo] at hT;have hT:=hT.rot;refine zu ?_;exact ⟨(i+1,(GA,gc),(SA,sc),(MA,mc)),⟨rfl,rfl,rfl,rfl,rfl,by rw [← e3];rfl,by rw [hah1];rfl,rfl,trivial⟩,⟨by simp only;omega,hT⟩,by simp only;omega⟩
  ·have e3:((cnt d i:Nat):Int)+1=((cnt d (i+1):Nat):Int):=by rw [hs];omega
   rw [← qhm d i (fun h=>by omega)] at hT ⊢;exact ⟨(i+1,(GA,gc),(SA,sc),(MA,mc)),⟨rfl,rfl,rfl,rfl,rfl,by rw [← e3];rfl,by rw [hah1];rfl,rfl,trivial⟩,⟨by simp only;omega,hT⟩,by simp only;omega⟩
  ·have e3:cnt d i=cnt d (i+1):=by rw [hs];omega
   rw [← qhm d i (fun h=>by omega)] at hT ⊢;rw [e3];exact ⟨(i+1,(GA,gc),(SA,sc),(MA,mc)),⟨rfl,rfl,rfl,rfl,rfl,rfl,by rw [hah1,e3];rfl,rfl,trivial⟩,⟨by simp only;omega,hT⟩,by simp only;omega⟩
 ·have hah1:ahN d (i+1)=ahN d i:=qw0 d i Oo;rw [← qya d i Oo] at hT ⊢;have es:((cnt d i:Nat):Int)-((ahN d i:Nat):Int)=((cnt d i-ahN d (i+1):Nat):Int):=by rw [hah1];omega
  rw [es];refine zcv (qcv (cnt d i-ahN d (i+1)) 2 _ Od) ?_;rintro r w4 ⟨⟨B2,cb2,rfl,hSB2⟩,he2⟩;have hT:=(hT.call he2).rot;(conv=>whnf);refine V.Tri.app hT qbf bytI bytZ Ok rfl (by decide +kernel) hSB2 (by rw [qf];omega) ?_;intro SA sc w5 hT;have e2:(sL d i).length+(fixL (cnt d i-ahN d (i+1)) 2).length=(sL d (i+1)).length:=by rw [qt8 d i Oo,zla,qlw]
  rw [e2] at hT ⊢;rw [qlw,← qt8 d i Oo] at hT;have hT:=hT.rot.rot;(conv=>whnf);refine zcv (ql1 d A l c i _ (hS.ext hT.ext) hl Oo hd) ?_;rintro r w6 ⟨rfl,rfl⟩;conv=>whnf
  (repeat' (first|refine zp ?_|refine zC (fun _=>zw ?_) (fun _=>zw ?_)))
  ·have e3:((cnt d i:Nat):Int)+1=((cnt d (i+1):Nat):Int):=by rw [hs];omega
   refine zcv (qcv i 4 _ Od) ?_;rintro r w7 ⟨⟨B3,cb3,rfl,hSB3⟩,he3⟩;have hT:=(hT.call he3).rot.rot;(conv=>whnf);refine V.Tri.app hT qbf bytI bytZ Ok rfl (by decide +kernel) hSB3 (by rw [qf];omega) ?_;intro MA mc w8 hT;have e4:(mL d i).length+(fixL i 4).length=(mL d (i+1)).length:=by rw [qk7 d i ‹_› Oo,zla]
   rw [e4] at hT ⊢;rw [← qk7 d i ‹_› Oo] at hT;have hT:=hT.rot;refine zu ?_;exact ⟨(i+1,(GA,gc),(SA,sc),(MA,mc)),⟨rfl,rfl,rfl,rfl,rfl,by rw [← e3];rfl,by rw [hah1];rfl,rfl,trivial⟩,⟨by simp only;omega,hT⟩,by simp only;omega⟩
  ·have e3:((cnt d i:Nat):Int)+1=((cnt d (i+1):Nat):Int):=by rw [hs];omega
   rw [← qhm d i (fun h=>by omega)] at hT ⊢;exact ⟨(i+1,(GA,gc),(SA,sc),(MA,mc)),⟨rfl,rfl,rfl,rfl,rfl,by rw [← e3];rfl,by rw [hah1];rfl,rfl,trivial⟩,⟨by simp only;omega,hT⟩,by simp only;omega⟩
  ·have e3:cnt d i=cnt d (i+1):=by rw [hs];omega
   rw [← qhm d i (fun h=>by omega)] at hT ⊢;rw [e3];exact ⟨(i+1,(GA,gc),(SA,sc),(MA,mc)),⟨rfl,rfl,rfl,rfl,rfl,rfl,by rw [hah1];rfl,rfl,trivial⟩,⟨by simp only;omega,hT⟩,by simp only;omega⟩
 ·have hah1:ahN d (i+1)=ahN d i:=qw0 d i Oo;rw [← qya d i Oo,← q6u d i Oo] at hT ⊢;refine zcv (ql1 d A l c i _ (hS.ext hT.ext) hl Oo hd) ?_;rintro r w6 ⟨rfl,rfl⟩;conv=>whnf
  (repeat' (first|refine zp ?_|refine zC (fun _=>zw ?_) (fun _=>zw ?_)))
  ·have e3:((cnt d i:Nat):Int)+1=((cnt d (i+1):Nat):Int):=by rw [hs];omega
   refine zcv (qcv i 4 _ Od) ?_;rintro r w7 ⟨⟨B3,cb3,rfl,hSB3⟩,he3⟩;have hT:=(hT.call he3).rot.rot;(conv=>whnf);refine V.Tri.app hT qbf bytI bytZ Ok rfl (by decide +kernel) hSB3 (by rw [qf];omega) ?_;intro MA mc w8 hT;have e4:(mL d i).length+(fixL i 4).length=(mL d (i+1)).length:=by rw [qk7 d i ‹_› Oo,zla]
   rw [e4] at hT ⊢;rw [← qk7 d i ‹_› Oo] at hT;have hT:=hT.rot;refine zu ?_;exact ⟨(i+1,(GA,gc),(SA,sc),(MA,mc)),⟨rfl,rfl,rfl,rfl,rfl,by rw [← e3];rfl,by rw [hah1];rfl,rfl,trivial⟩,⟨by simp only;omega,hT⟩,by simp only;omega⟩
  ·have e3:((cnt d i:Nat):Int)+1=((cnt d (i+1):Nat):Int):=by rw [hs];omega
   rw [← qhm d i (fun h=>by omega)] at hT ⊢;exact ⟨(i+1,(GA,gc),(SA,sc),(MA,mc)),⟨rfl,rfl,rfl,rfl,rfl,by rw [← e3];rfl,by rw [hah1];rfl,rfl,trivial⟩,⟨by simp only;omega,hT⟩,by simp only;omega⟩
  ·have e3:cnt d i=cnt d (i+1):=by rw [hs];omega
   rw [← qhm d i (fun h=>by omega)] at hT ⊢;rw [e3];exact ⟨(i+1,(GA,gc),(SA,sc),(MA,mc)),⟨rfl,rfl,rfl,rfl,rfl,rfl,by rw [hah1];rfl,rfl,trivial⟩,⟨by simp only;omega,hT⟩,by simp only;omega⟩
 ·obtain rfl:i=n:=by omega
  have hG:SlAt encB 1 w1 GA (gL d i):=by
   obtain ⟨_,_,e,_,h⟩:=qd2 hT.oa;cases e;exact h
  have hH:SlAt encB 1 w1 SA (sL d i):=by
   obtain ⟨_,_,e,_,h⟩:=qd2 hT.ob;cases e;exact h
  have hI:SlAt encB 1 w1 MA (mL d i):=by
   obtain ⟨_,_,e,_,h⟩:=qd2 hT.oc;cases e;exact h
  refine zcv (qt6 i 4 w1 Od) ?_;rintro r w2 ⟨ho,he⟩;obtain ⟨B,cb,rfl⟩:=q8 ho;have hR:Rw w1 w2 (.slice B (fixL i 4).length cb) 5 1 (fixL i 4).length (byV (fixL i 4)) []:=⟨⟨he,by simp,by simp⟩,ho,by simp⟩
  (conv=>whnf);refine zcv (qcv (cnt d i) 4 w2 Od) ?_;rintro r w3 ⟨⟨B2,cb2,rfl,hS2⟩,he2⟩;have hR:=hR.call he2;(conv=>whnf);refine AppV.rwB (x:=fixL i 4) qbf bytI bytZ Ok rfl (by decide +kernel) hR hS2 (by rw [qf,qf];omega) ?_;intro C1 c1 w4 hR;(conv=>whnf);subst hl;refine AppV.rwB (x:=fixL i 4++fixL (cnt d i) 4) qbf bytI bytZ Ok rfl (by decide +kernel) hR (hS.ext (hT.ext.trans hR.mem.ext)) (by simp only [zla,qf];omega) ?_;intro C2 c2 w5 hR;(conv=>whnf);refine AppV.rwB (x:=fixL i 4++fixL (cnt d i) 4++d) qbf bytI bytZ Ok rfl (by decide +kernel) hR (hG.ext hR.mem.ext) (by simp only [zla,qf];omega) ?_;intro C3 c3 w6 hR;(conv=>whnf);refine AppV.rwB (x:=fixL i 4++fixL (cnt d i) 4++d++gL d i) qbf bytI bytZ Ok rfl (by decide +kernel) hR (hH.ext hR.mem.ext) (by simp only [zla,qf];omega) ?_;intro C4 c4 w7 hR;(conv=>whnf);refine AppV.rwB (x:=fixL i 4++fixL (cnt d i) 4++d++gL d i++sL d i) qbf bytI bytZ Ok rfl (by decide +kernel) hR (hI.ext hR.mem.ext) (by simp only [zla,qf];omega) ?_;intro C5 c5 w8 hR;(conv=>whnf);obtain ⟨_,_,e,_,h⟩:=qd2 hR.own;cases e;exact ⟨⟨C5,c5,rfl,h⟩,hT.ext.trans hR.mem.ext⟩
def PadB (d:LB) (n:Nat):Prop:=∃ t,n≤t∧t<8*d.length∧bitN d t=1
def qg2 (n i:Nat):Nat:=
 if i<qal n then qx n+(i-qx n)/4*4 else if i<qap n then qal n+(i-qal n)/2*2 else qap n+(i-qap n)/4*4
def spF (l:LB) (t:Nat):Nat × Nat:=
 if l[qx (vN l)+t]?=(qab (vD l) (vN l))[qx (vN l)+t]? then (0,0) else (qg2 (vN l) (qx (vN l)+t),20)
open Classical in
noncomputable def voE (l:LB):Nat × Nat:=
 if PadB (vD l) (vN l) then (7+upN (vN l) 8,12) else if cnt (vD l) (vN l)≠vM l then (4,20) else errF (spF l) (qce (vN l) (vM l)-qx (vN l))
theorem qke (d:LB) (n:Nat):(qab d n).length=8+d.length+4*upN n 2048+2*upN n 256+4*upN (cnt d n) 512:=by
 simp only [qab,zla,qf,qtb,qt9,qtk]
theorem qwr (d:LB) (n:Nat):(qab d n).drop (8+d.length)=gL d n++(sL d n++mL d n):=by
 have e:qab d n=(fixL n 4++fixL (cnt d n) 4++d)++(gL d n++(sL d n++mL d n)):=by simp only [qab,List.append_assoc]
 have e2:8+d.length=(fixL n 4++fixL (cnt d n) 4++d).length:=by simp only [zla,qf]
 rw [e,e2,List.drop_left]
def inF (F:Nat→Int):Nat→Value:=fun j=>ii (F j)
def updI (F:Nat→Int) (i:Nat) (v:Int):Nat→Int:=fun j=>if j=i then v else F j
theorem q0z (F:Nat→Int) (i:Nat) (v:Int):updI F i v i=v:=by simp [updI]
theorem q00 (F:Nat→Int) (i j:Nat) (v:Int) (h:j≠i):updI F i v j=F j:=by simp [updI,h]
theorem q69 (F:Nat→Int) (i:Nat) (v:Int):updF (inF F) i (ii v)=inF (updI F i v):=by
 funext j
 by_cases h:j=i
 ·simp [updF,updI,inF,h]
 ·simp [updF,updI,inF,h]
theorem V.LoadV.fi {w0 w:World} {L:List (Nat × Obj)} {i b off n:Nat} {F:Nat→Int} {t:TypeId} {x:Int} {K:Value→Prop} (h:Mem w0 w L) (hi:L[i]?=some (b,.cells (fnA n (inF F)) t)) (j:Nat) (e:off=j) (hj:j<n) (hv:F j=x) (hk:K (ii x)):LoadV w b off K:=
 LoadV.fn h hi j e hj (by rw [← hv];rfl) hk
theorem V.StoreV.fi {w0 w:World} {L:List (Nat × Obj)} {i b off n:Nat} {F:Nat→Int} {t:TypeId} {x:Int} {K:World→Prop} (h:Mem w0 w L) (hi:L[i]?=some (b,.cells (fnA n (inF F)) t)) (j:Nat) (e:off=j) (hj:j<n)
  (hk:∀ w',Mem w0 w' (L.set i (b,.cells (fnA n (inF (updI F j x))) t))→K w'):StoreV w b off (ii x) K:=
 StoreV.fn h hi j e hj rfl fun w' hm=>hk w' (by rw [q69] at hm;exact hm)
theorem qft (n:Nat) (F:Nat→Int):∀ v∈(fnA n (inF F)).toList,v.oneCell'=true:=by
 intro v hv;simp only [fnA,List.mem_map] at hv;obtain ⟨j,_,rfl⟩:=hv;rfl
theorem qhv (x:Nat) (w:World) (hx:x<18446744073709551616):Gv Tryz.prog 125 [.int .u64 x] w fun r w'=>r=ii (qp x)∧w'=w:=by
 refine ze Tryz.func125 Tryz.ntmps125 ?_;refine qe (fun s:Nat × Nat=>[(0,.int .u64 s.2),(3,ii s.1)]) (fun s w'=>s.1+qp s.2=qp x∧s.2<18446744073709551616∧w'=w) (fun s=>s.2) (0,x) ⟨rfl,rfl,trivial⟩ ⟨Nat.zero_add _,hx,rfl⟩ ?_;rintro ⟨k,y⟩ w1 ρ' ⟨h1,h2,rfl⟩;dsimp only at h1 h2 ⊢;have hW:qp x≤64:=qcl 64 x (by simpa using hx) Od;(conv=>whnf);refine zC (fun _=>zu ?_) (fun _=>zu ?_)
 ·have hh:=qdp y Oo h2;refine V.Wit.shrN 1 rfl Od (zw ?_);exact ⟨(k+1,y/2),⟨rfl,rfl,trivial⟩,⟨by simp only;omega,by simp only;omega,rfl⟩,by simp only;omega⟩
 ·obtain rfl:y=0:=by omega
  rw [qcp] at h1;exact ⟨congrArg (Value.int .i64) Oo,rfl⟩
theorem qv5 (n wd:Nat) (w:World) (h:n*wd≤4398046511104):Gv Tryz.prog 126 [ii n,ii wd] w fun r w'=>r=ii ((n*wd+7)/8:Nat)∧w'=w:=by
 obtain ⟨f,ef⟩:∃ f,f=n*wd:=⟨_,rfl⟩
 have efi:(n:Int)*(wd:Int)=(f:Int):=by rw [ef,Int.natCast_mul]
 rw [← ef] at h ⊢;refine ze Tryz.func126 Tryz.ntmps126 ?_;rw [efi];refine zv ?_;exact ⟨congrArg (Value.int .i64) Oo,rfl⟩
theorem qwv (v:Value) (n:Nat):qbb [v] n=List.replicate n v:=by
 induction n with
 | zero=>rfl
 | succ n ih=>rw [qbb,ih];rfl
def encU (n:Nat):List Value:=[.int .u64 n]
def unpN (p:LB) (n wd:Nat):List Nat:=(List.range n).map fun i=>valB p (i*wd) wd
open Classical in
noncomputable def opE (p:LB) (n wd:Nat):Nat:=if ∃ t,n*wd≤t∧t<8*p.length∧bitN p t=1 then 12 else 0
def wMx (xs:List Nat):Nat→Nat
 | 0=>0
 | i+1=>max (wMx xs i) (qp (xs.getD i 0))
noncomputable def vcE (l:LB) (k:Nat):Nat × Nat:=
 if tVec l k=false then (tEnd l k,180) else if (voE (qdl l k)).2≠0 then (tEnd l k+(voE (qdl l k)).1,(voE (qdl l k)).2)
 else if 0<vNum l k∧bitN ((qdl l k).drop 8) (vNum l k-1)≠1 then (tEnd l k,180) else (0,0)
def tX (l:LB) (k i:Nat):Nat:=valB (qnq l k) (i*tw l k) (tw l k)
def nmF (l:LB) (k i:Nat):Nat × Nat:=
 if (k≠0∧tX l k i=0)∨4194304<tX l k i then (tvAt l k+1,180)
 else if 0<i∧(k=0∨bitN ((qdl l k).drop 8) (i-1)≠1)∧tX l k i≤tX l k (i-1) then (tvAt l k+1,160) else (0,0)
noncomputable def lvE (l:LB) (k:Nat):Nat × Nat:=
 if opE (qnq l k) (vNum l k) (tw l k)≠0 then (tEnd l k-1,12) else if wMx (unpN (qnq l k) (vNum l k) (tw l k)) (vNum l k)≠tw l k then (tvAt l k,14)
 else if k≠0∧(vcE l k).2≠0 then vcE l k else errF (nmF l k) (vNum l k)
noncomputable def toE (l:LB):Nat × Nat:=if (tE l).2≠0 then tE l else errF (lvE l) 4
section
variable {l:LB} {k:Nat}
end
def comL:LB→LB→Nat
 | x::a,y::b=>if x=y then comL a b+1 else 0
 | _,_=>0
theorem qn6:∀ a b:LB,comL a b=comL b a
 | [],[]=>rfl
 | [],_::_=>rfl
 | _::_,[]=>rfl
 | x::a,y::b=>by
  by_cases h:x=y
  ·rw [comL,comL,if_pos h,if_pos h.symm,qn6 a b]
  ·rw [comL,comL,if_neg h,if_neg (fun e=>h e.symm)]
theorem qi5:∀ {i:Nat} {a b:LB},(∀ j,j<i→a[j]?=b[j]?)→i≤a.length→i≤b.length→(i<a.length→i<b.length→a[i]?≠b[i]?)→comL a b=i
 | 0,[],_,_,_,_,_=>by cases ‹LB›<;>rfl
 | 0,_::_,[],_,_,_,_=>rfl
 | 0,x::a,y::b,_,_,_,h=>by
  have:=h Js Js;rw [comL,if_neg (fun e=>this (by rw [e];rfl))]
 | i+1,[],_,_,h,_,_=>by simp at h
 | i+1,_::_,[],_,_,h,_=>by simp at h
 | i+1,x::a,y::b,h1,h2,h3,h4=>by
  have h0:=h1 0 Oo;simp only [List.getElem?_cons_zero,Option.some.injEq] at h0;have ih:=qi5 (i:=i) (a:=a) (b:=b) (fun j hj=>by have:=h1 (j+1) Oo;simpa using this) (by simpa using h2) (by simpa using h3) (fun g1 g2=>by have:=h4 (by simpa using g1) (by simpa using g2);simpa using this);rw [comL,if_pos h0,ih]
theorem qej {s:ByteArray} {i:Nat} (h:i<s.size):s.data.toList[i]?=some (gb s i):=by
 have hl:s.data.toList.length=s.size:=rfl;rw [gb,List.getD_eq_getElem?_getD,zge Oo];rfl
def leL (a b:LB):Bool:=slt ⟨a.toArray⟩ ⟨b.toArray⟩||seq ⟨a.toArray⟩ ⟨b.toArray⟩
def dSt (m:LB):Nat→LB × Nat
 | 0=>([],0)
 | i+1=>((entG ((qd m).drop (dSt m i).2) (decide (i%16=0)) (dSt m i).1).1,(dSt m i).2+(entG ((qd m).drop (dSt m i).2) (decide (i%16=0)) (dSt m i).1).2.1)
def dnF (m:LB) (i:Nat):Nat × Nat:=
 if i%16=0∧qz m (i/16)≠(dSt m i).2 then (qt m+(dSt m i).2,161)
 else if (entG ((qd m).drop (dSt m i).2) (decide (i%16=0)) (dSt m i).1).2.2≠0 then (qt m+(dSt m i).2,(entG ((qd m).drop (dSt m i).2) (decide (i%16=0)) (dSt m i).1).2.2)
 else if 0<i∧leL (dSt m (i+1)).1 (dSt m i).1=true then (qt m+(dSt m i).2,160)
 else if i%16≠0∧(numL ((qd m).drop (dSt m i).2)).1≠comL (dSt m (i+1)).1 (dSt m i).1 then (qt m+(dSt m i).2,161) else (0,0)
noncomputable def doE (m:LB):Nat × Nat:=
 if (dE m).2≠0 then dE m else if opE (qaf m) (upN (dN m) 16) (dW m)≠0 then (qt m-1,12)
 else if (errF (dnF m) (dN m)).2≠0 then errF (dnF m) (dN m) else if (dSt m (dN m)).2<(qd m).length then (qt m+(dSt m (dN m)).2,13) else (0,0)
section
variable {m last:LB} {i p:Nat} (hd:dSt m i=(last,p))
include hd
theorem qsy {first:Bool} (hf:first=decide (i%16=0)):dSt m (i+1)=((entG ((qd m).drop p) first last).1,p+(entG ((qd m).drop p) first last).2.1):=by rw [dSt,hd,hf]
theorem q11 (h1:i%16=0) (h2:qz m (i/16)≠p):dnF m i=(qt m+p,161):=by rw [dnF,hd,if_pos ⟨h1,h2⟩]
theorem q7r {first:Bool} (hf:first=decide (i%16=0)) (h1:i%16=0→qz m (i/16)=p) (h2:(entG ((qd m).drop p) first last).2.2≠0):dnF m i=(qt m+p,(entG ((qd m).drop p) first last).2.2):=by
 subst hf;rw [dnF,hd,if_neg (fun h=>h.2 (h1 h.1)),if_pos h2]
end
section
variable {m:LB}
theorem q12 (h:(dE m).2≠0):doE m=dE m:=by rw [doE,if_pos h]
theorem q5h (h:(dE m).2=0) (h2:opE (qaf m) (upN (dN m) 16) (dW m)≠0):doE m=(qt m-1,12):=by rw [doE,if_neg Oo,if_pos h2]
theorem q13 (h:(dE m).2=0) (h2:opE (qaf m) (upN (dN m) 16) (dW m)=0) (h3:∀ j,j<dN m→(dnF m j).2=0) (h4:(dSt m (dN m)).2<(qd m).length):doE m=(qt m+(dSt m (dN m)).2,13):=by
 have:=qbw h3;rw [doE,if_neg Oo,if_neg Oo,if_neg Oo,if_pos h4]
theorem q7s (h:(dE m).2=0) (h2:opE (qaf m) (upN (dN m) 16) (dW m)=0) (h3:∀ j,j<dN m→(dnF m j).2=0) (h4:¬ (dSt m (dN m)).2<(qd m).length):doE m=(0,0):=by
 have:=qbw h3;rw [doE,if_neg Oo,if_neg Oo,if_neg Oo,if_neg h4]
theorem qs3 (h:(doE m).2=0):(dE m).2=0∧opE (qaf m) (upN (dN m) 16) (dW m)=0∧(∀ j,j<dN m→(dnF m j).2=0)∧¬ (dSt m (dN m)).2<(qd m).length:=by
 by_cases h1:(dE m).2=0
 ·by_cases h2:opE (qaf m) (upN (dN m) 16) (dW m)=0
  ·by_cases h3:(errF (dnF m) (dN m)).2=0
   ·by_cases h4:(dSt m (dN m)).2<(qd m).length
    ·rw [q13 h1 h2 (qs7 h3) h4] at h;cases h
    ·exact ⟨h1,h2,qs7 h3,h4⟩
   ·rw [doE,if_neg Oo,if_neg Oo,if_pos h3] at h;exact absurd h h3
  ·rw [q5h h1 h2] at h;cases h
 ·rw [q12 h1] at h;exact absurd h h1
end
def escL:LB→LB
 | []=>[]
 | c::r=>if c=0 then 0::1::escL r else c::escL r
theorem qf7 (r:LB):escL (0::r)=0::1::escL r:=by rw [escL,if_pos rfl]
theorem qe5 {c:UInt8} (r:LB) (h:c≠0):escL (c::r)=c::escL r:=by rw [escL,if_neg h]
theorem qs8 (l:LB):(escL l).length≤2*l.length:=by
 induction l with
 | nil=>exact Nat.le_refl _
 | cons c r ih=>
  rw [escL]
  split<;>simp only [List.length_cons]<;>omega
section
variable {old new:LB}
theorem qgl {s:LB} (ho:(old==new)=false) (h:Lib.index s old=-1):Lib.replaceAll s old new=s:=by
 unfold Lib.replaceAll Lib.replace;rw [ho];simp only [Bool.false_eq_true,if_false,Lib.replaceNum,Int.reduceNeg,Int.reduceLT,true_or,if_true,Lib.count_miss h,Lib.replaceK]
theorem qiw {s:LB} {i:Nat} (ho:(old==new)=false) (hn:old≠[]) (h:Lib.index s old=i):Lib.replaceAll s old new=s.take i++new++Lib.replaceAll (s.drop (i+old.length)) old new:=by
 have hc:=Lib.count_hit hn h;unfold Lib.replaceAll Lib.replace;rw [ho];simp only [Bool.false_eq_true,if_false,Lib.replaceNum,Int.reduceNeg,Int.reduceLT,true_or,if_true];rw [hc,Nat.add_comm 1,Lib.replaceK_hit _ _ _ _ i h]
theorem q6o {s:LB} (ho:(old==new)=false) (hn:old≠[]) (h:old.isPrefixOf s=true):Lib.replaceAll s old new=new++Lib.replaceAll (s.drop old.length) old new:=by
 have hi:Lib.index s old=((0:Nat):Int):=Lib.index_first (Nat.zero_le _) (by simpa [Lib.occAt] using h) (fun j hj=>by omega);rw [qiw ho hn hi];simp
theorem q6p (ho:(old==new)=false) (hn:old≠[]):Lib.replaceAll [] old new=[]:=qgl ho (by cases old with|nil=>exact absurd rfl hn|cons _ _=>rfl)
theorem q3c {c:UInt8} {r:LB} (ho:(old==new)=false) (hn:old≠[]) (h:old.isPrefixOf (c::r)=false):Lib.replaceAll (c::r) old new=c::Lib.replaceAll r old new:=by
 have hix:Lib.index (c::r) old=if Lib.index r old==-1 then -1 else Lib.index r old+1:=by rw [Lib.index,h];simp
 by_cases hm:Lib.index r old=-1
 ·rw [qgl ho hm,qgl ho (by rw [hix,hm];rfl)]
 ·obtain ⟨i,hi⟩:∃ i:Nat,Lib.index r old=i:=⟨(Lib.index r old).toNat,by have:=Lib.index_ge r old;omega⟩
  have hi':Lib.index (c::r) old=((i+1:Nat):Int):=by
   rw [hix,hi];have:((i:Int)==-1)=false:=by rw [beq_eq_false_iff_ne];omega
   rw [this];simp
  rw [qiw ho hn hi,qiw ho hn hi'];have e:i+1+old.length=i+old.length+1:=by omega
  rw [e];simp
end
theorem q6n (l:LB):Lib.replaceAll l [0] [0,1]=escL l:=by
 induction l with
 | nil=>exact q6p Od Js
 | cons c r ih=>
  by_cases h:c=0
  ·subst h;rw [q6o Od Js (by rfl),qf7];simp [ih]
  ·rw [q3c Od Js (by simp [List.isPrefixOf,Ne.symm h]),qe5 _ h,ih]
def qbv (t:TM):LB:=if t.kind=3 then escL t.text.data.toList++([0,0]++(t.type.data.toList++([0]++t.lang.data.toList))) else t.text.data.toList
structure ReadsAs (kind:Int) (s:LB) (t:TM):Prop where
 kind:t.kind=kind
 ok:qas t=0
 entry:qbv t=s
theorem qks {a b:ByteArray} (h:a.data.toList=b.data.toList):a=b:=by
 cases a;cases b;simp only [ByteArray.mk.injEq];exact Array.toList_inj.1 h
open Classical in
noncomputable def q9g (kind:Int) (s:LB):Option TM:=if h:∃ t,ReadsAs kind s t then some h.choose else none
noncomputable def veF (l:LB) (k:Nat):Nat × Nat:=if (doE (sDict l k)).2=0 then (0,0) else (qm l k+(doE (sDict l k)).1,(doE (sDict l k)).2)
def vrB (l:LB) (k j:Nat):Prop:=∃ s,dGet (sDict l k) j=some s∧∀ t,¬ ReadsAs ((k+1:Nat):Int) s t
open Classical in
noncomputable def vrF (l:LB) (k:Nat):Nat × Nat:=if ∃ j,j<dN (sDict l k)∧vrB l k j then (qm l k,170) else (0,0)
noncomputable def vwE (l:LB):Nat × Nat:=if (sE l).2≠0 then sE l else if (errF (veF l) 3).2≠0 then errF (veF l) 3 else errF (vrF l) 3
section
variable {l:LB}
end
theorem qau (s:ByteArray) (a b:Nat):(s.extract a b).data.toList=(s.data.toList.drop a).take (b-a):=by
 simp [ByteArray.data_extract]
theorem q1x (s sep:ByteArray) (w:World) (hM:MaxLenAt w) (hs:s.size≤67108864) (h1:1≤sep.size):Gv Tryz.prog 265 [.string s,.string sep] w fun r w'=>r=ii (Lib.countB s sep)∧w'=w:=by
 obtain ⟨m,hm⟩:=hM;exact qfj Ok ((Tryz.strings_Count_any s sep m w Oo hm h1).mono fun e w' ⟨he,hw⟩=>⟨_,he,rfl,hw⟩)
theorem q2d (s sep:ByteArray) (w:World) (hM:MaxLenAt w) (hs:s.size≤67108864):Gv Tryz.prog 267 [.string s,.string sep] w fun r w'=>r=ii (Lib.indexB s sep)∧w'=w:=by
 obtain ⟨m,hm⟩:=hM;exact qfj Ok ((Tryz.strings_Index s sep m w Oo hm).mono fun e w' ⟨he,hw⟩=>⟨_,he,rfl,hw⟩)
theorem q5o (b n:Nat) (w0 w:World) (h:Mem w0 w [(b,.cells #[.pointer none,.slice none 0 0] 358)]) (hn:n≤281474976710656) :
  Gv Tryz.prog 266 [pp b,ii n] w fun r w'=>r=.tuple #[]∧Bld w0 w' b [] []:=by
 have ho:=h.own _ mh;refine qfj Ok ((Tryz.Builder_Grow_fresh w0.heap.size b n w ho.1 ho.2 h.ext.size hn).mono fun e w' ⟨he,⟨h1,v,h2,h3,h4⟩,h5⟩=>⟨_,he,rfl,⟨_,v,.inr rfl,⟨⟨Below.trans h.ext h5,?_,by simp⟩,h3,?_⟩⟩⟩)
 ·intro x hx;simp only [List.mem_cons,List.not_mem_nil,or_false] at hx;subst hx;exact ⟨h1,h2⟩
 ·intro x hx;simp only [List.mem_cons,List.not_mem_nil,or_false] at hx;subst hx;exact h4
theorem qqn (s:ByteArray):s.extract 0 s.size=s:=qks (by rw [qau];simp;exact List.take_of_length_le znr)
theorem qrd (s old new:ByteArray) (w:World) (hM:MaxLenAt w) (hne:seq old new=false) (hs:s.size≤67108864) (ho:(old.size=1∧new.size=2)∨(old.size=2∧new.size=1)) :
  Gv Tryz.prog 211 [.string s,.string old,.string new,ii (-1)] w fun r w'=>r=.string ⟨(Lib.replaceAll s.data.toList old.data.toList new.data.toList).toArray⟩∧Ext w w':=by
 have h1:1≤old.size:=by omega
 have hoe:(old.data.toList==new.data.toList)=false:=by
  rw [beq_eq_false_iff_ne];intro e;have:old=new:=qks e;rw [qao.2 this] at hne;cases hne
 have hon:old.data.toList≠[]:=by
  intro e;have:old.data.toList.length=0:=by rw [e];rfl
  have h2:old.data.toList.length=old.size:=rfl;omega
 refine ze Tryz.func211 Tryz.ntmps211 ?_;rw [hne];refine zv ?_;refine zcv (q1x s old w hM hs h1) ?_;rintro v w' ⟨rfl,rfl⟩;(conv=>whnf);have hKo:=Lib.countB_mul_le old h1 s.size s znr;obtain ⟨K,eK⟩:∃ K,K=Lib.countB s old:=⟨_,rfl⟩
 rw [← eK] at hKo ⊢
 by_cases hK:K=0
 ·have hr:Lib.replaceAll s.data.toList old.data.toList new.data.toList=s.data.toList:=by
   rcases Lib.indexB_cases s old with hix|⟨i,hix,_⟩
   ·exact qgl hoe hix
   ·have:=Lib.countB_hit s old i h1 hix;omega
  refine zv ?_;exact ⟨by rw [hr],xr⟩
 refine zv ?_;refine znm (Mem.nil w') fun b w1 hm=>zw ?_;have hK1:K≤s.size:=Nat.le_trans (Nat.le_mul_of_pos_right K h1) hKo;obtain ⟨d,hd,hd1,hd2⟩:∃ d:Int,(K:Int)*((new.size:Int)-(old.size:Int))=d∧-(K:Int)≤d∧d≤K:=by
  rcases ho with ⟨h1,h2⟩|⟨h1,h2⟩
  ·exact ⟨K,by rw [h1,h2];omega,by omega,by omega⟩
  ·exact ⟨-K,by rw [h1,h2];omega,by omega,by omega⟩
 refine Obl.mk ⟨by omega,by omega⟩ (zw ?_);rw [hd];refine Obl.mk ⟨by omega,by omega⟩ (zw ?_);refine Obl.mk ⟨by omega,by omega⟩ (zw ?_);obtain ⟨M,eM⟩:∃ M:Nat,(s.size:Int)+d=M:=⟨((s.size:Int)+d).toNat,by omega⟩
 rw [eM];refine zcv (q5o b M w' w1 hm Oo) ?_;rintro r w2 ⟨rfl,hB⟩;refine zu ?_;refine qe (fun x:Nat × Nat × LB=>[(0,.string s),(1,.string old),(2,.string new),(10,pp b),(11,ii x.2.1),(52,ii K),(53,ii x.1)])
  (fun x w''=>x.1≤K∧x.2.1≤s.size∧x.1+Lib.countB (s.extract x.2.1 s.size) old=K∧x.2.2++Lib.replaceAll (s.data.toList.drop x.2.1) old.data.toList new.data.toList=Lib.replaceAll s.data.toList old.data.toList new.data.toList∧x.2.2.length≤2*x.2.1∧Bld w' w'' b x.2.2 []) (fun x=>K-x.1) (0,0,[])
  ⟨rfl,rfl,rfl,rfl,rfl,rfl,rfl,trivial⟩ ⟨by simp,by simp,by rw [qqn,← eK];omega,by simp,by simp,hB⟩ ?_
 clear hB;rintro ⟨j,p,l⟩ w3 ρ' ⟨hj,hp,hc,hr,hl,hB⟩;dsimp only at hj hp hc hr hl hB ⊢;have hrl:(s.extract p s.size).data.toList=s.data.toList.drop p:=by
  rw [qau,List.take_of_length_le];have:s.data.toList.length=s.size:=rfl;simp only [zld];omega
 obtain ⟨r,er⟩:∃ r,r=s.extract p s.size:=⟨_,rfl⟩
 have hrs:r.size=s.size-p:=by
  have e1:r.size=r.data.toList.length:=rfl;have e2:s.data.toList.length=s.size:=rfl;rw [e1,er,hrl,zld,e2]
 rw [← er] at hc hrl;(conv=>whnf);refine zC (fun _=>zw ?_) (fun _=>zw ?_)
 ·refine SliceS.at_ p s.size rfl rfl hp znr ?_;rw [← er];(conv=>whnf);refine zcv (q2d r old w3 (hM.ext hB.ext) Oo) ?_;rintro v w4 ⟨rfl,rfl⟩
  rcases Lib.indexB_cases r old with hix|⟨i,hix,hio⟩
  ·have:=Lib.countB_miss r old hix;omega
  rw [hix];have hhit:=Lib.countB_hit r old i h1 hix;have hrx:r.extract (i+old.size) r.size=s.extract (p+i+old.size) s.size:=by
   refine qks ?_;rw [qau,qau,hrl,List.drop_drop,show p+(i+old.size)=p+i+old.size by omega,show r.size-(i+old.size)=s.size-(p+i+old.size) by omega]
  rw [hrx] at hhit;have hrep:=qiw hoe hon (s:=s.data.toList.drop p) (i:=i) (by rw [← hrl];exact hix);refine zu ?_;refine SliceS.at_ p (p+i) rfl (by show _=_;omega) Oo Oo (zw ?_);refine zcv (qcz b l (s.extract p (p+i)) w' w4 [] hB (fun x hx=>by cases hx) (by simp [ByteArray.size_extract];omega)) ?_;rintro v w5 ⟨rfl,hB⟩;have hwl:(s.extract p (p+i)).data.toList.length=i:=by
   have:s.data.toList.length=s.size:=rfl;rw [qau,List.length_take,zld];omega
  (conv=>whnf);refine zcv (qcz b (l++(s.extract p (p+i)).data.toList) new w' w5 [] hB (fun x hx=>by cases hx) (by rw [zla];omega)) ?_;rintro v w6 ⟨rfl,hB⟩;refine zu ?_;have hnl:new.data.toList.length=new.size:=rfl;refine ⟨(j+1,p+i+old.size,l++(s.extract p (p+i)).data.toList++new.data.toList),⟨rfl,rfl,rfl,rfl,by show ii _=ii _;congr 1,rfl,rfl,trivial⟩,⟨by simp only;omega,by simp only;omega,by simp only;omega,?_,by simp only [zla];omega,hB⟩,by simp only;omega⟩;rw [← hr,hrep,qau,show p+i-p=i by omega,List.drop_drop,show p+(i+old.data.toList.length)=p+i+old.size from by show p+(i+old.size)=_;omega];simp [List.append_assoc]
 ·obtain rfl:j=K:=by omega
  have hix:Lib.indexB r old=-1:=by
   rcases Lib.indexB_cases r old with hix|⟨i,hix,hio⟩
   ·exact hix
   ·have:=Lib.countB_hit r old i h1 hix;omega
  have hrep:=qgl hoe (s:=s.data.toList.drop p) (by rw [← hrl];exact hix);refine SliceS.at_ p s.size rfl rfl hp znr ?_;rw [← er];(conv=>whnf);refine zcv (qcz b l r w' w3 [] hB (fun x hx=>by cases hx) Oo) ?_;rintro v w4 ⟨rfl,hB⟩;(conv=>whnf);refine zcv (qg7 b (l++r.data.toList) w' w4 [] hB) ?_;rintro v w5 ⟨rfl,he⟩;(conv=>whnf);exact ⟨by rw [← hr,hrep,hrl],he⟩
theorem qko (s old new:ByteArray) (w:World) (hM:MaxLenAt w) (hne:seq old new=false) (hs:s.size≤67108864) (ho:(old.size=1∧new.size=2)∨(old.size=2∧new.size=1)) :
  Gv Tryz.prog 150 [.string s,.string old,.string new] w fun r w'=>r=.string ⟨(Lib.replaceAll s.data.toList old.data.toList new.data.toList).toArray⟩∧Ext w w':=by
 refine ze Tryz.func150 Tryz.ntmps150 ?_;refine zcv (qrd s old new w hM hne hs ho) ?_;rintro v w' ⟨rfl,he⟩;(conv=>whnf);exact ⟨rfl,he⟩
theorem qln (t:TM) (ht:TermOk t) (w:World) (hM:MaxLenAt w) (hT:CellsAt w 6 0 qbt) :
  Gv Tryz.prog 97 [qbq t] w fun r w'=>r=(if qas t=0 then .tuple #[.string ⟨(qbv t).toArray⟩,ii 0] else .tuple #[.string ⟨#[]⟩,ii (qas t)])∧Ext w w':=by
 refine ze Tryz.func97 Tryz.ntmps97 ?_;refine znm (Mem.nil w) ?_;intro tb w1 hm;have hm:Mem w w1 [(tb,.cells #[ii t.kind,.string t.text,.string t.type,.string t.lang] 24)]:=hm;(conv=>whnf);refine zl hm 0 ?_;refine zcv (qgt t ht w1 (hM.ext hm.ext) (hT.ext hm.ext)) ?_;rintro r w2 ⟨rfl,he2⟩;have hm:=hm.call he2;obtain ⟨e,ee⟩:∃ e,e=qas t:=⟨_,rfl⟩
 rw [← ee];conv=>whnf
 (repeat' (first|refine zC (fun _=>zw ?_) (fun _=>zw ?_)|refine LoadV.mem (i:=0) Oa rfl rfl (zw ?_)))
 ·rw [if_neg Oo];exact ⟨rfl,hm.ext⟩
 ·have h1:qbv t=t.text.data.toList:=by rw [qbv,if_neg Oa]
  rw [if_pos Oo,h1];exact ⟨rfl,hm.ext⟩
 rw [if_pos Oo];have hk3:t.kind=3:=by omega
 have htx:t.text.size≤65536:=by
  have hz:qas t=0:=by omega
  rw [qas,if_neg Oo,if_pos hk3,litE] at hz
  by_cases h:65536<t.text.size
  ·rw [if_pos h] at hz;cases hz
  ·omega
 have hty:=ht.type;have htl:=ht.lang;obtain ⟨R,eR,hRl⟩:∃ R:ByteArray,R=⟨(Lib.replaceAll t.text.data.toList [0] [0,1]).toArray⟩∧R.data.toList=escL t.text.data.toList:=⟨_,rfl,q6n _⟩
 have hRs:R.size≤2*t.text.size:=by
  have h1:R.size=R.data.toList.length:=rfl;have h2:=qs8 t.text.data.toList;rw [h1,hRl];exact h2
 have hz2:(⟨#[0,0]⟩:ByteArray).size=2:=rfl;have hz1:(⟨#[0]⟩:ByteArray).size=1:=rfl;refine DrawV.free Ok Ok (zw ?_);refine zd ?_;refine zf ?_ (by intro wd hd;(conv=>whnf);refine LoadV.mem (Mem.call (Mem.drew hm) hd) (i:=0) rfl rfl ?_;(conv=>whnf);exact ⟨xr,rfl⟩);refine zsd (.string R) (fun wd hd=>zw ?_) (zw ?_)
 ·refine zcv (qko t.text ⟨#[0]⟩ ⟨#[0,1]⟩ wd (hM.ext (hm.drew.call hd).ext) rfl Oo (.inl ⟨rfl,rfl⟩)) ?_;rintro r w5 ⟨rfl,he⟩;exact ⟨he,by rw [eR]⟩
 apply zsd
 ·intro wd hd;(conv=>whnf);refine Obl.mk (by rw [hz2];omega) (zw ?_);exact ⟨xr,rfl⟩
 (conv=>whnf);refine zd ?_;refine zf ?_ (by intro wd hd;(conv=>whnf);refine LoadV.mem (Mem.call (Mem.drew hm) hd) (i:=0) rfl rfl ?_;(conv=>whnf);exact ⟨xr,rfl⟩);apply zsd
 ·intro wd hd;(conv=>whnf);refine Obl.mk (by simp only [ByteArray.size_append];rw [hz2];omega) (zw ?_);exact ⟨xr,rfl⟩
 (conv=>whnf);apply zsd
 ·intro wd hd;(conv=>whnf);refine Obl.mk (by simp only [ByteArray.size_append];rw [hz2,hz1];omega) (zw ?_);exact ⟨xr,rfl⟩
 (conv=>whnf);refine zd ?_;refine zf ?_ (by intro wd hd;(conv=>whnf);refine LoadV.mem (Mem.call (Mem.drew hm) hd) (i:=0) rfl rfl ?_;(conv=>whnf);exact ⟨xr,rfl⟩);apply zsd
 ·intro wd hd;(conv=>whnf);refine Obl.mk (by simp only [ByteArray.size_append];rw [hz2,hz1];omega) (zw ?_);exact ⟨xr,rfl⟩
 (conv=>whnf);refine zd ?_;refine zd ?_;intro w3 he3;(conv=>whnf);refine ⟨?_,(hm.drew.call he3).ext⟩;have:R++⟨#[0,0]⟩++t.type++⟨#[0]⟩++t.lang=⟨(qbv t).toArray⟩:=qks (by simp [qbv,hk3,hRl,ByteArray.data_append]);rw [this]
open Go.RowKit Go.Extern.Stop Go.Stop Go.Extern
theorem q7l (t:Value) (w:World) :
  Calls Tryz.prog 157 #[.nilIface,t] w fun e w'=>e=.returned (.bool false)∧w'=w:=by
 go_enter Tryz.func157,Tryz.ntmps157
 go_wp2
 go_ret
 exact ⟨rfl,rfl⟩
theorem qna (t:Addr) (w:World):(ReflectliteValue.unpack (.iface 257 (.pointer (some t)))).run Tryz.prog w
  = .ok (.agg #[.pointer (some ⟨7,257,none⟩),.pointer (some ⟨w.heap.size,0,none⟩),.int .u64 150]) (w.alloc (.cells #[.pointer (some t)] 257)):=by kernel_rfl
theorem qv2 (a:Addr) (w:World):(ReflectliteValue.methodAny (ReflectliteValue.valueError "reflectlite.Value.Type" 0) (fun t _ _ _=>ReflectliteType.toType t) #[.agg #[.pointer (some ⟨7,257,none⟩),.pointer (some a),.int .u64 150]]).run Tryz.prog w
  = .ok (.iface 365 (.agg #[.pointer (some ⟨7,257,none⟩)])) w:=by kernel_rfl
theorem qkl (h:Value) (w:World):(Go.method 553 365 (.agg #[h]) "Kind").run Tryz.prog w=.ok (358,h) w:=by kernel_rfl
theorem qv1 (w:World):((ReflectliteType.abiMethod fun t=>(fun a:Nat=>Value.int IntKind.u8 (a:Int)) <$> Rtype.kind t) #[.pointer (some ⟨7,257,none⟩)]).run Tryz.prog w=.ok (.int .u8 22) w:=by kernel_rfl
theorem qv0 (w:World):((ReflectliteType.abiMethod fun t=>(fun a:Nat=>Value.int IntKind.u8 (a:Int)) <$> Rtype.kind t) #[.pointer (some ⟨7,255,none⟩)]).run Tryz.prog w=.ok (.int .u8 22) w:=by kernel_rfl
theorem rlm (z:Sem Value) (f:TypeId→Addr→Nat→Nat→Sem Value) (v:Value) :
  ReflectliteValue.method z f #[v]=(do match ← ReflectliteValue.parts v with|none=>z|some (t,a,fl)=>f t a fl (fl%32)):=rfl
theorem qju (a:Addr) (w:World):(ReflectliteValue.parts (.agg #[.pointer (some ⟨7,257,none⟩),.pointer (some a),.int .u64 150])).run Tryz.prog w=.ok (some (257,a,150)) w:=by kernel_rfl
theorem qq5 (a p:Addr) (W:World) (ha:W.cell? a=some (.pointer (some p))) :
  (ReflectliteValue.method (ReflectliteValue.valueError "reflectlite.Value.IsNil" 0) ReflectliteValue.isNil #[.agg #[.pointer (some ⟨7,257,none⟩),.pointer (some a),.int .u64 150]]).run Tryz.prog W=.ok (.bool false) W:=by
 rw [rlm];simp only [Sem.run_bind,qju,Result.andThen];simp [ReflectliteValue.isNil,loadVar,isAgg,underlying,Tryz.underlying257,ha,Result.andThen]
theorem qkk (h:Value) (w:World):(Go.method 553 365 (.agg #[h]) "Elem").run Tryz.prog w=.ok (374,.agg #[h]) w:=by kernel_rfl
theorem qff (h:Value) (w:World):(Go.method 553 365 (.agg #[h]) "Implements").run Tryz.prog w=.ok (375,.agg #[h]) w:=by kernel_rfl
theorem qeg (h:Value) (w:World):(Go.method 553 365 (.agg #[h]) "AssignableTo").run Tryz.prog w=.ok (372,.agg #[h]) w:=by kernel_rfl
theorem qvz (w:World):(ReflectliteType.method ReflectliteType.elem #[.agg #[.pointer (some ⟨7,257,none⟩)]]).run Tryz.prog w=.ok (.iface 365 (.agg #[.pointer (some ⟨7,255,none⟩)])) w:=by kernel_rfl
theorem qig (w:World):(ReflectliteType.relation "Implements" ReflectliteType.implements_ #[.agg #[.pointer (some ⟨7,255,none⟩)],.iface 365 (.agg #[.pointer (some ⟨7,74,none⟩)])]).run Tryz.prog w=.ok (.bool true) w:=by kernel_rfl
theorem qpc (v:Value) (w:World):(ReflectliteType.typeOf #[.iface 255 v]).run Tryz.prog w=.ok (.iface 365 (.agg #[.pointer (some ⟨7,255,none⟩)])) w:=by kernel_rfl
theorem qif (w:World):(ReflectliteType.relation "AssignableTo" ReflectliteType.assignableTo #[.agg #[.pointer (some ⟨7,255,none⟩)],.iface 365 (.agg #[.pointer (some ⟨7,255,none⟩)])]).run Tryz.prog w=.ok (.bool true) w:=by kernel_rfl
theorem qm9 (e:Addr) (w:World):(ReflectliteValue.unpack (.iface 255 (.pointer (some e)))).run Tryz.prog w
  = .ok (.agg #[.pointer (some ⟨7,255,none⟩),.pointer (some ⟨w.heap.size,0,none⟩),.int .u64 150]) (w.alloc (.cells #[.pointer (some e)] 255)):=by kernel_rfl
theorem qpa (w:World):(Rtype.elem? 257).run Tryz.prog w=.ok (some 255) w:=by kernel_rfl
theorem q27 (p:Addr) (w:World):(ReflectliteValue.mk 255 p ReflectliteValue.flagAddr).run Tryz.prog w=.ok (.agg #[.pointer (some ⟨7,255,none⟩),.pointer (some p),.int .u64 406]) w:=by kernel_rfl
theorem qq4 (a p:Addr) (W:World) (ha:W.cell? a=some (.pointer (some p))) :
  (ReflectliteValue.method (ReflectliteValue.valueError "reflectlite.Value.Elem" 0) ReflectliteValue.elem #[.agg #[.pointer (some ⟨7,257,none⟩),.pointer (some a),.int .u64 150]]).run Tryz.prog W
   = .ok (.agg #[.pointer (some ⟨7,255,none⟩),.pointer (some p),.int .u64 406]) W:=by
 rw [rlm];simp only [Sem.run_bind,qju,Result.andThen];simp [ReflectliteValue.elem,loadVar,isAgg,underlying,Tryz.underlying257,ha,Result.andThen,qpa,q27]
theorem rls (v x:Value):ReflectliteValue.set #[v,x]=(do
  let (some (dst,a,fl),some (src,b,_)):=(← ReflectliteValue.parts v,← ReflectliteValue.parts x)
   | unsupported (.noEntry "extern/(internal/reflectlite.Value).Set.zeroValue")
  if fl/ReflectliteValue.flagAddr%2==0 then unsupported (.noEntry "extern/(internal/reflectlite.Value).Set.unaddressable")
  let val ← loadVar src b
  if ← Rtype.directlyAssignable dst src then storeVar dst a val
  else if ← Rtype.implements dst src then
   if (← Rtype.kind src)==20 then
    match val with
    | .nilIface=>unsupported (.noEntry "extern/reflectlite: a nil value of one interface type handed on as a value of another")
    | _=>storeVar dst a val
   else storeVar dst a (.iface src val)
  else panicString ("reflectlite.Set: value of type "++(← Rtype.spelt src)++ " is not assignable to type "++(← Rtype.spelt dst))
  pure (.tuple #[])):=rfl
theorem qpb (a:Addr) (w:World):(ReflectliteValue.parts (.agg #[.pointer (some ⟨7,255,none⟩),.pointer (some a),.int .u64 406])).run Tryz.prog w=.ok (some (255,a,406)) w:=by kernel_rfl
theorem qq6 (a:Addr) (w:World):(ReflectliteValue.parts (.agg #[.pointer (some ⟨7,255,none⟩),.pointer (some a),.int .u64 150])).run Tryz.prog w=.ok (some (255,a,150)) w:=by kernel_rfl
theorem qo9 (w:World):(Rtype.directlyAssignable 255 255).run Tryz.prog w=.ok true w:=by kernel_rfl
theorem qz4 (ta b e:Addr) (old:Value) (W:World) (hb:W.cell? b=some (.pointer (some e))) (ht:W.cell? ta=some old) (hf:W.frozen? ta=false) :
  (ReflectliteValue.set #[.agg #[.pointer (some ⟨7,255,none⟩),.pointer (some ta),.int .u64 406],.agg #[.pointer (some ⟨7,255,none⟩),.pointer (some b),.int .u64 150]]).run Tryz.prog W
   = .ok (.tuple #[]) (W.setCell ta (.pointer (some e))):=by
 rw [rls];simp only [Sem.run_bind,qpb,qq6,Result.andThen];simp [ReflectliteValue.flagAddr,loadVar,isAgg,underlying,Tryz.underlying255,hb,Result.andThen,qo9,storeVar,Value.cells,storeCells,Addr.add];rw [run_store Tryz.prog W ta _ _ (by rfl)];simp [ht,hf]
theorem q7k (e t:Addr) (old:Value) (w:World) (hg:w.cell? ⟨0,0,none⟩=some (.iface 365 (.agg #[.pointer (some ⟨7,74,none⟩)]))) (ht0:w.cell? t=some old) (hf0:w.frozen? t=false) :
  Calls Tryz.prog 157 #[.iface 255 (.pointer (some e)),.iface 257 (.pointer (some t))] w fun ev w'=>ev=.returned (.bool true)∧w'=((((w.alloc (.cells #[.pointer (some t)] 257)).alloc (.cells #[.pointer (some ⟨7,257,none⟩),.pointer (some ⟨w.heap.size,0,none⟩),.int .u64 150] 306)).alloc (.cells #[.pointer (some ⟨7,257,none⟩),.pointer (some ⟨w.heap.size,0,none⟩),.int .u64 150] 306)).alloc (.cells #[.pointer (some e)] 255)).setCell t (.pointer (some e)):=by
 have h6:=@run_callFunc_extern Tryz.prog 213 _ (fun args=>ReflectliteValue.unpack (args.getD 0 (.tuple #[]))) Tryz.func213 Ok Ok Ok Ok;have h7:=@run_callFunc_extern Tryz.prog 214 _ (ReflectliteValue.methodAny (ReflectliteValue.valueError "reflectlite.Value.Type" 0) (fun t _ _ _=>ReflectliteType.toType t)) Tryz.func214 Ok Ok Ok Ok;have h8:=@run_callFunc_extern Tryz.prog 215 _ (ReflectliteValue.method (ReflectliteValue.valueError "reflectlite.Value.IsNil" 0) ReflectliteValue.isNil) Tryz.func215 Ok Ok Ok Ok;have h27:=@run_callFunc_extern Tryz.prog 358 _ (ReflectliteType.abiMethod fun t=>do pure (.int .u8 (← Rtype.kind t))) Tryz.func358 Ok Ok Ok Ok;have h37:=@run_callFunc_extern Tryz.prog 374 _ (ReflectliteType.method ReflectliteType.elem) Tryz.func374 Ok Ok Ok Ok;have h38:=@run_callFunc_extern Tryz.prog 375 _ (ReflectliteType.relation "Implements" ReflectliteType.implements_) Tryz.func375 Ok Ok Ok Ok;have h10:=@run_callFunc_extern Tryz.prog 272 _ ReflectliteType.typeOf Tryz.func272 Ok Ok Ok Ok;have h35:=@run_callFunc_extern Tryz.prog 372 _ (ReflectliteType.relation "AssignableTo" ReflectliteType.assignableTo) Tryz.func372 Ok Ok Ok Ok;have h11:=@run_callFunc_extern Tryz.prog 273 _ (ReflectliteValue.method (ReflectliteValue.valueError "reflectlite.Value.Elem" 0) ReflectliteValue.elem) Tryz.func273 Ok Ok Ok Ok;have h12:=@run_callFunc_extern Tryz.prog 274 _ ReflectliteValue.set Tryz.func274 Ok Ok Ok Ok;have tO:=qpc;have mA:=qeg;have a25:=qif;have v25:=qm9;have f6:=qna;have f7:=qv2;have mK:=qkl;have mE:=qkk;have mI:=qff;have k27:=qv1;have k25:=qv0;have e27:=qvz;have i25:=qig;have n8:=qq5 ⟨w.heap.size,0,none⟩ t ((w.alloc (.cells #[.pointer (some t)] 257)).alloc (.cells #[.pointer (some ⟨7,257,none⟩),.pointer (some ⟨w.heap.size,0,none⟩),.int .u64 150] 306)) Js;have hlt:0<w.heap.size:=by
  rcases Nat.lt_or_ge 0 w.heap.size with h|h
  ·exact h
  ·simp [World.cell?,Array.getElem?_eq_none h] at hg
 have hg2:((w.alloc (.cells #[.pointer (some t)] 257)).alloc (.cells #[.pointer (some ⟨7,257,none⟩),.pointer (some ⟨w.heap.size,0,none⟩),.int .u64 150] 306)).cell? ⟨0,0,none⟩=some (.iface 365 (.agg #[.pointer (some ⟨7,74,none⟩)])):=by
  rw [World.cell?_alloc_lt _ _ ⟨0,0,none⟩ (by simp<;>omega),World.cell?_alloc_lt _ _ ⟨0,0,none⟩ hlt];exact hg
 have htl:t.block<w.heap.size:=by
  rcases Nat.lt_or_ge t.block w.heap.size with h|h
  ·exact h
  ·simp [World.cell?,Array.getElem?_eq_none h] at ht0
 have el:=qq4 ⟨w.heap.size,0,none⟩ t (((w.alloc (.cells #[.pointer (some t)] 257)).alloc (.cells #[.pointer (some ⟨7,257,none⟩),.pointer (some ⟨w.heap.size,0,none⟩),.int .u64 150] 306)).alloc (.cells #[.pointer (some ⟨7,257,none⟩),.pointer (some ⟨w.heap.size,0,none⟩),.int .u64 150] 306)) (by rw [World.cell?_alloc_lt _ _ ⟨w.heap.size,0,none⟩ Ys];simp);have st:=qz4 t ⟨w.heap.size+1+1+1,0,none⟩ e old ((((w.alloc (.cells #[.pointer (some t)] 257)).alloc (.cells #[.pointer (some ⟨7,257,none⟩),.pointer (some ⟨w.heap.size,0,none⟩),.int .u64 150] 306)).alloc (.cells #[.pointer (some ⟨7,257,none⟩),.pointer (some ⟨w.heap.size,0,none⟩),.int .u64 150] 306)).alloc (.cells #[.pointer (some e)] 255))
  (by rw [World.cell?_alloc_at _ _ _ _ Js];rfl)
  (by rw [World.cell?_alloc_lt _ _ t Ys,World.cell?_alloc_lt _ _ t Ys,World.cell?_alloc_lt _ _ t Ys,World.cell?_alloc_lt _ _ t htl];exact ht0)
  (by rw [World.frozen?_alloc_old _ _ t Ys,World.frozen?_alloc_old _ _ t Ys,World.frozen?_alloc_old _ _ t Ys,World.frozen?_alloc_old _ _ t (Nat.ne_of_lt htl)];exact hf0)
 go_enter Tryz.func157,Tryz.ntmps157
 go_wp2
 refine wp_loop_rounds 1 ?_;rw [rounds_succ]
 go_wp2
 go_ret
 exact ⟨rfl,rfl⟩
def entV (x:LB × Nat × Nat):Value:=.tuple #[.string ⟨x.1.toArray⟩,ii x.2.1,ii x.2.2]
theorem qx2 {m ahead:LB} {first:Bool} {s y:Nat × Nat × Nat} (es:s=if first then (0,0,0) else numL m) (ey:y=numL (m.drop s.2.1)) (e2:s.2.2=0) (he2:y.2.2=0) :
  entG m first ahead=if ahead.length<s.1 then ([],0,161) else if 262144<y.1∨262144<s.1+y.1 then ([],0,2) else if m.length-s.2.1-y.2.1<y.1 then ([],0,10) else (ahead.take s.1++(m.drop (s.2.1+y.2.1)).take y.1,s.2.1+y.2.1+y.1,0):=by
 unfold entG;rw [← es];dsimp only;rw [if_neg Oo,← ey,if_neg Oo]
theorem qof (b:Nat) (m:LB) (p:Nat) (first:Bool) (last:ByteArray) (w:World) (h:DictAt w b m) (hp:p≤4294967296) (hlast:last.size≤262144) :
  Gv Tryz.prog 276 [pp b,ii p,.bool first,.string last] w fun r w'=>r=entV (qcb (qd m) p first last.data.toList)∧Ext w w':=by
 obtain ⟨⟨P,cp,E,ce,h1,h2,h3,h4⟩,h5,h6,h7,h8⟩:=h;obtain ⟨D,eD⟩:∃ D,D=qd m:=⟨_,rfl⟩
 rw [← eD] at h1 h3 h4 h8 ⊢;refine ze Tryz.func276 Tryz.ntmps276 ?_;refine zv ?_;refine LoadV.own h1 rfl (zw ?_);refine zt ?_;refine zC (fun _=>zw ?_) (fun _=>zw ?_)
 ·rw [qcb,if_pos Oo];exact ⟨rfl,xr⟩
 refine LoadV.own h1 rfl (zw ?_);refine SliceV.bs h3 rfl p D.length ce rfl rfl rfl Oo znr h4 znr (fun h=>by cases h) ?_;intro A' hA';rw [List.take_of_length_le Js] at hA';(conv=>whnf);obtain ⟨B,eB⟩:∃ B,B=D.drop p:=⟨_,rfl⟩
 have hBl:B.length=D.length-p:=by rw [eB,zld]
 rw [← eB] at hA';have hvB:∀ w',Ext w w'→BS w' (.slice A' (D.length-p) (ce-p)) B:=fun w' he=>⟨A',ce-p,by rw [hBl],by rw [hBl];omega,hA'.ext he⟩
 refine zcv (qnb _ B w (hvB w xr)) ?_;rintro v w1 ⟨cb,rfl,hcb,hco,he1⟩;have hm:Mem w w1 [(cb,curO 288 (.slice A' (D.length-p) (ce-p)) 0 0)]:=(Mem.nil w).fresh he1 hcb hco;(conv=>whnf);obtain ⟨s,es⟩:∃ s:Nat × Nat × Nat,s=if first then (0,0,0) else numL B:=⟨_,rfl⟩
 have hsb:s.1<18446744073709551616∧s.2.1≤B.length:=by
  have:=qa7 B;rw [es];split
  ·exact ⟨by decide,Nat.zero_le _⟩
  ·exact ⟨this.1,this.2.1⟩
 cases first
 ·refine zv ?_;refine zcv (qdo cb _ 0 0 B w1 (hm.get mh) (hvB w1 hm.ext) (Nat.zero_le _) Oo) ?_;rintro r w2 ⟨rfl,hu⟩
  by_cases he:(numL (B.drop 0)).2.2=0
  ·obtain ⟨q1,q2,q3⟩:=qr1 he;rw [q2,q3,Nat.zero_add] at hu;rw [q1];have es:s=numL B:=es;have hm:Mem w w2 [(cb,curO 288 (.slice A' (D.length-p) (ce-p)) s.2.1 0)]:=by rw [es];exact hm.upd (i:=0) rfl hu
   have e1:(numL (B.drop 0)).1=s.1:=by rw [es];rfl
   have e2:s.2.2=0:=by rw [es];exact he
   rw [e1];clear q1 q2 q3 hu e1;(conv=>whnf);refine zcv (qcg cb _ _ 0 w2 (hm.get mh)) ?_;rintro r w3 ⟨rfl,rfl⟩;refine zu ?_;refine zcv (qdo cb _ s.2.1 0 B _ (hm.get mh) (hvB _ hm.ext) hsb.2 Oo) ?_;rintro r w4 ⟨rfl,hu⟩;have hx1:=qa7 (B.drop s.2.1);rw [zld] at hx1
   by_cases he2:(numL (B.drop s.2.1)).2.2=0
   ·obtain ⟨q1,q2,q3⟩:=qr1 he2;rw [q2,q3] at hu;rw [q1];clear q1 q2 q3;obtain ⟨y,ey⟩:∃ y,y=numL (B.drop s.2.1):=⟨_,rfl⟩
    rw [← ey] at he2 hu hx1 ⊢;have hE:=qx2 (ahead:=last.data.toList) (first:=false) es ey e2 he2;have hll:last.data.toList.length=last.size:=rfl;have hm:Mem w w4 [(cb,curO 288 (.slice A' (D.length-p) (ce-p)) (s.2.1+y.2.1) 0)]:=hm.upd (i:=0) rfl hu;(conv=>whnf);refine zcv (qcg cb _ _ 0 w4 (hm.get mh)) ?_;rintro r w5 ⟨rfl,rfl⟩;conv=>whnf
    (repeat' (first|refine zp ?_|refine zC (fun _=>zw ?_) (fun _=>zw ?_)))
    ·have hent:entG B false last.data.toList=([],0,161):=by rw [hE,if_pos Oo]
     rw [qcb,if_neg Oo,← eB,hent];exact ⟨rfl,hm.ext⟩
    ·have hent:entG B false last.data.toList=([],0,2):=by rw [hE,if_neg Oo,if_pos Oo]
     rw [qcb,if_neg Oo,← eB,hent];exact ⟨rfl,hm.ext⟩
    ·have hent:entG B false last.data.toList=([],0,2):=by rw [hE,if_neg Oo,if_pos Oo]
     rw [qcb,if_neg Oo,← eB,hent];exact ⟨rfl,hm.ext⟩
    refine zcv (qth cb _ (s.2.1+y.2.1) 0 B w5 (hm.get mh) (hvB w5 hm.ext) Oo Oo) ?_;rintro r w6 ⟨rfl,he6⟩;have hm:=hm.call he6;(conv=>whnf);refine zt ?_;refine zC (fun _=>zw ?_) (fun _=>zw ?_)
    ·have hent:entG B false last.data.toList=([],0,10):=by rw [hE,if_neg Oo,if_neg Oo,if_pos Oo]
     rw [qcb,if_neg Oo,← eB,hent];exact ⟨rfl,hm.ext⟩
    have hent:entG B false last.data.toList=(last.data.toList.take s.1++(B.drop (s.2.1+y.2.1)).take y.1,s.2.1+y.2.1+y.1,0):=by rw [hE,if_neg Oo,if_neg Oo,if_neg Oo]
    rw [qcb,if_neg Oo,← eB,hent];refine zcv (qkr cb _ (s.2.1+y.2.1) 0 w6 (hm.get mh)) ?_;rintro r w7 ⟨rfl,rfl⟩;refine zu ?_;refine zy ?_;have hm:=hm.drew;refine zv ?_;refine SliceS.at_ 0 s.1 rfl (by show (_:Int)=_;omega) Oo Oo (zu ?_);refine LoadV.own (hm.ext.get h1) rfl (zu ?_);refine SliceV.bs (h3.ext hm.ext) rfl (p+(s.2.1+y.2.1)) (p+(s.2.1+y.2.1)+y.1) ce (by show (_:Int)=_;omega) (by show (_:Int)=_;omega) rfl Oo Oo Oo znr (fun h=>by cases h) ?_;intro A2 hA2;refine zu ?_;have ecut:((D.drop (p+(s.2.1+y.2.1))).take (p+(s.2.1+y.2.1)+y.1-(p+(s.2.1+y.2.1))))=(B.drop (s.2.1+y.2.1)).take y.1:=by
     rw [eB,List.drop_drop];congr 1;omega
    rw [ecut] at hA2;refine BytesS.sl hA2 (by rw [List.length_take,zld];omega) (zu ?_);have z1:(last.extract 0 s.1).size=s.1:=by rw [ByteArray.size_extract];omega
    have z2:(⟨((B.drop (s.2.1+y.2.1)).take y.1).toArray⟩:ByteArray).size=y.1:=by
     show (List.toArray _).size=_;rw [List.size_toArray,List.length_take,zld];omega
    refine Obl.mk (by rw [z1,z2];omega) (zw ?_);have hcat:last.extract 0 s.1++⟨((B.drop (s.2.1+y.2.1)).take y.1).toArray⟩=(⟨(last.data.toList.take s.1++(B.drop (s.2.1+y.2.1)).take y.1).toArray⟩:ByteArray):=by
     apply ByteArray.ext;rw [← Array.toList_inj,ByteArray.data_append,ByteArray.data_extract];simp
    rw [hcat,if_neg Js];refine zv ?_;refine ⟨?_,hm.ext⟩;have e8:((p:Int)+((s.2.1+y.2.1:Nat):Int)+((y.1:Nat):Int))=((p+(s.2.1+y.2.1+y.1):Nat):Int):=by omega
    rw [e8];rfl
   ·obtain ⟨q1,q2,q3⟩:=qr0 he2;rw [q2,q3] at hu;rw [q1];have hm:Mem w w4 [(cb,curO 288 (.slice A' (D.length-p) (ce-p)) s.2.1 (numL (B.drop s.2.1)).2.2)]:=hm.upd (i:=0) rfl hu;(conv=>whnf);refine zcv (qcg cb _ _ _ w4 (hm.get mh)) ?_;rintro r w5 ⟨rfl,rfl⟩;refine zu ?_;have hent:(entG B false last.data.toList)=([],0,(numL (B.drop s.2.1)).2.2):=by
     simp only [entG,Bool.false_eq_true,if_false,← es];rw [if_neg Oo,if_pos he2]
    rw [qcb,if_neg Oo,← eB,hent,if_pos he2];exact ⟨rfl,hm.ext⟩
  ·obtain ⟨q1,q2,q3⟩:=qr0 he;rw [q2,q3] at hu;rw [q1];have hm:Mem w w2 [(cb,curO 288 (.slice A' (D.length-p) (ce-p)) 0 (numL B).2.2)]:=hm.upd (i:=0) rfl hu;have he':(numL B).2.2≠0:=he;(conv=>whnf);refine zcv (qcg cb _ _ _ w2 (hm.get mh)) ?_;rintro r w3 ⟨rfl,rfl⟩;refine zu ?_;have hent:qcb D p false last.data.toList=([],0,(numL B).2.2):=by
    have:(entG B false last.data.toList).2.2=(numL B).2.2:=by
     simp only [entG,Bool.false_eq_true,if_false];rw [if_pos he']
    rw [qcb,if_neg Oo,← eB,this,if_pos he']
   rw [hent];exact ⟨rfl,hm.ext⟩
 ·refine zv ?_;have es:s=(0,0,0):=es;have hm:Mem w w1 [(cb,curO 288 (.slice A' (D.length-p) (ce-p)) s.2.1 0)]:=by rw [es];exact hm
  have e2:s.2.2=0:=by rw [es]
  refine zcv (qcg cb _ _ 0 w1 (hm.get mh)) ?_;rintro r w3 ⟨rfl,rfl⟩;refine zu ?_;refine zcv (qdo cb _ s.2.1 0 B _ (hm.get mh) (hvB _ hm.ext) hsb.2 Oo) ?_;rintro r w4 ⟨rfl,hu⟩;have hx1:=qa7 (B.drop s.2.1);rw [zld] at hx1
  by_cases he2:(numL (B.drop s.2.1)).2.2=0
  ·obtain ⟨q1,q2,q3⟩:=qr1 he2;rw [q2,q3] at hu;rw [q1];clear q1 q2 q3;obtain ⟨y,ey⟩:∃ y,y=numL (B.drop s.2.1):=⟨_,rfl⟩
   rw [← ey] at he2 hu hx1 ⊢;have hE:=qx2 (ahead:=last.data.toList) (first:=true) es ey e2 he2;have hll:last.data.toList.length=last.size:=rfl;have hs1:s.1=0:=by rw [es]
   have hm:Mem w w4 [(cb,curO 288 (.slice A' (D.length-p) (ce-p)) (s.2.1+y.2.1) 0)]:=hm.upd (i:=0) rfl hu;(conv=>whnf);refine zcv (qcg cb _ _ 0 w4 (hm.get mh)) ?_;rintro r w5 ⟨rfl,rfl⟩;(conv=>whnf);refine zt ?_;refine zC (fun _=>zu ?_) (fun _=>zu ?_)
   ·have hent:entG B true last.data.toList=([],0,2):=by rw [hE,if_neg Oo,if_pos Oo]
    rw [qcb,if_neg Oo,← eB,hent];exact ⟨rfl,hm.ext⟩
   refine zcv (qth cb _ (s.2.1+y.2.1) 0 B w5 (hm.get mh) (hvB w5 hm.ext) Oo Oo) ?_;rintro r w6 ⟨rfl,he6⟩;have hm:=hm.call he6;(conv=>whnf);refine zt ?_;refine zC (fun _=>zw ?_) (fun _=>zw ?_)
   ·have hent:entG B true last.data.toList=([],0,10):=by rw [hE,if_neg Oo,if_neg Oo,if_pos Oo]
    rw [qcb,if_neg Oo,← eB,hent];exact ⟨rfl,hm.ext⟩
   have hent:entG B true last.data.toList=(last.data.toList.take s.1++(B.drop (s.2.1+y.2.1)).take y.1,s.2.1+y.2.1+y.1,0):=by rw [hE,if_neg Oo,if_neg Oo,if_neg Oo]
   rw [qcb,if_neg Oo,← eB,hent];refine zcv (qkr cb _ (s.2.1+y.2.1) 0 w6 (hm.get mh)) ?_;rintro r w7 ⟨rfl,rfl⟩;refine zu ?_;refine zy ?_;have hm:=hm.drew;refine zv ?_;refine SliceS.at_ 0 s.1 rfl (by show (_:Int)=_;omega) Oo Oo (zu ?_);refine LoadV.own (hm.ext.get h1) rfl (zu ?_);refine SliceV.bs (h3.ext hm.ext) rfl (p+(s.2.1+y.2.1)) (p+(s.2.1+y.2.1)+y.1) ce (by show (_:Int)=_;omega) (by show (_:Int)=_;omega) rfl Oo Oo Oo znr (fun h=>by cases h) ?_;intro A2 hA2;refine zu ?_;have ecut:((D.drop (p+(s.2.1+y.2.1))).take (p+(s.2.1+y.2.1)+y.1-(p+(s.2.1+y.2.1))))=(B.drop (s.2.1+y.2.1)).take y.1:=by
    rw [eB,List.drop_drop];congr 1;omega
   rw [ecut] at hA2;refine BytesS.sl hA2 (by rw [List.length_take,zld];omega) (zu ?_);have z1:(last.extract 0 s.1).size=s.1:=by rw [ByteArray.size_extract];omega
   have z2:(⟨((B.drop (s.2.1+y.2.1)).take y.1).toArray⟩:ByteArray).size=y.1:=by
    show (List.toArray _).size=_;rw [List.size_toArray,List.length_take,zld];omega
   refine Obl.mk (by rw [z1,z2];omega) (zw ?_);have hcat:last.extract 0 s.1++⟨((B.drop (s.2.1+y.2.1)).take y.1).toArray⟩=(⟨(last.data.toList.take s.1++(B.drop (s.2.1+y.2.1)).take y.1).toArray⟩:ByteArray):=by
    apply ByteArray.ext;rw [← Array.toList_inj,ByteArray.data_append,ByteArray.data_extract];simp
   rw [hcat,if_neg Js];refine zv ?_;refine ⟨?_,hm.ext⟩;have e8:((p:Int)+((s.2.1+y.2.1:Nat):Int)+((y.1:Nat):Int))=((p+(s.2.1+y.2.1+y.1):Nat):Int):=by omega
   rw [e8];rfl
  ·obtain ⟨q1,q2,q3⟩:=qr0 he2;rw [q2,q3] at hu;rw [q1];have hm:Mem w w4 [(cb,curO 288 (.slice A' (D.length-p) (ce-p)) s.2.1 (numL (B.drop s.2.1)).2.2)]:=hm.upd (i:=0) rfl hu;(conv=>whnf);refine zcv (qcg cb _ _ _ w4 (hm.get mh)) ?_;rintro r w5 ⟨rfl,rfl⟩;refine zu ?_;have hent:(entG B true last.data.toList)=([],0,(numL (B.drop s.2.1)).2.2):=by
    simp only [entG,if_true,← es];rw [if_neg Oo,if_pos he2]
   rw [qcb,if_neg Oo,← eB,hent,if_pos he2];exact ⟨rfl,hm.ext⟩
namespace V
def Fr (r:Option Nat):Fence:={ fn:=fun _=>True,depth:=none,alive:=false,round:=r }
theorem qcn {r:Option Nat} {m:Nat} {P:Program} {f:FuncId} {args:Array Value} {w:World} {R:Ending→World→Prop}:CallsIn (Fr r) m P f args w R↔Calls P f args w R:=by
 show CallsIn Fence.wide m P f args w R↔_;exact callsIn_wide
def Sw (n:Nat) (ρ:Nat→Value) (a:Act):Prop:=St n ρ { a with defers:=[] }
theorem Sw.eval {n:Nat} {ρ:Nat→Value} {a:Act} (h:Sw n ρ a):a.eval=ev ρ:=by
 have:=St.eval h;rw [← this];funext x;cases x<;>rfl
theorem Sw.put {n:Nat} {ρ:Nat→Value} {a:Act} (h:Sw n ρ a) (ds:List Deferred) {dst:Option Tmp} {v:Value} {K:(Nat→Value)→Prop} (hk:putV n dst ρ v K) :
  ∃ ρ',Sw n ρ' ({ a with defers:=ds }.put dst v)∧({ a with defers:=ds }.put dst v).defers=ds∧K ρ':=by
 obtain ⟨ρ',h1,h2⟩:=putV.st hk h;refine ⟨ρ',?_,?_,h2⟩
 ·cases dst<;>exact h1
 ·cases dst<;>rfl
theorem Sw.st {n:Nat} {ρ:Nat→Value} {a:Act} (h:Sw n ρ a) (hd:a.defers=[]):St n ρ a:=by
 have:a={ a with defers:=[] }:=by cases a;cases hd;rfl
 rw [this];exact h
theorem St.sw {n:Nat} {ρ:Nat→Value} {a:Act} (h:St n ρ a):Sw n ρ a:=by
 have:a={ a with defers:=[] }:=by have:=h.defers;cases a;cases this;rfl
 unfold Sw;rw [← this];exact h
structure YieldV (P:Program) (l:Nat) (args:List Value) (w:World) (K:Value→World→Prop):Prop where
 h:YieldAt (Fr none) 0 P l args.toArray w fun e w'=>∃ v,e=.returned v∧K v w'
theorem YieldV.mono {P:Program} {l:Nat} {args:List Value} {w:World} {K K':Value→World→Prop} (h:YieldV P l args w K) (hk:∀ v w',K v w'→K' v w'):YieldV P l args w K':=by
 obtain ⟨fn,tmps,asg,b,h1,h2⟩:=h.h;exact ⟨⟨fn,tmps,asg,b,h1,h2.mono fun e w' ⟨v,he,hv⟩=>⟨v,he,hk _ _ hv⟩⟩⟩
def q49 (P:Program) (c:Call) (ty:TypeId) (ρ:Nat→Value) (w:World) (s:Sem Next) (K:Value→World→Prop):Prop:=
 match c.callee with
 | .value f=>match ev ρ f with
  | .func (.yield l) first captured=>match first.toList,captured.toList with
   | [],[]=>qbx (evs ρ c.args.toList) fun vs=>YieldV P l vs w K
   | _,_=>False
  | .func (.func g) first captured=>qbx (evs ρ c.args.toList) fun vs=>
   match first.toList,captured.toList with
   | [],[]=>CallV P g vs w K
   | x,y=>CallV P g (x++(vs++y)) w K
  | _=>Fall P s w K
 | .builtin .len=>lenV P (getL c.argTypes.toList 0) (evs ρ c.args.toList) w s K
 | .builtin .append=>appV P c.argTypes ty (evs ρ c.args.toList) w s K
 | .invoke recv name=>match ev ρ recv with
  | .iface t v=>qbx (evs ρ c.args.toList) fun vs=>InvV P t v name vs w K
  | _=>Fall P s w K
 | _=>Fall P s w K
def defW (c:Call) (ρ:Nat→Value) (K:Deferred→Prop):Prop:=
 match c.callee with
 | .value f=>match ev ρ f with
  | .func (.func g) first captured=>match first.toList,captured.toList with
   | [],[]=>qbx (evs ρ c.args.toList) fun vs=>K { target:=.fn (.func g) #[],args:=vs.toArray }
   | _,_=>False
  | _=>False
 | _=>False
def opW (P:Program) (r:Option Nat) (o:Oper) (ρ:Nat→Value) (ds:List Deferred) (w:World) (K:Value→List Deferred→World→Prop):Prop:=
 match o.op with
 | .call c=>q49 P c o.type ρ w (execOp (ev ρ) o) fun v w'=>K v ds w'
 | .defer c=>match r with
  | none=>defW c ρ fun d=>K undef (d::ds) w
  | some _=>False
 | _=>opV P o ρ w fun v w'=>K v ds w'
section
variable {P:Program} {n:Nat} {r:Option Nat}
theorem q1t {ρ:Nat→Value} {w:World} {o:Oper} {c:Call} {K:Value→World→Prop} (ho:o.op=.call c) (h:q49 P c o.type ρ w (execOp (ev ρ) o) K) :
  OpOk P (execOp (ev ρ) o) w K∨∃ l f tmps asg b,(execOp (ev ρ) o).run P w=.ok (.round l f tmps asg b) w∧RoundIn (Fr none) 0 P l f tmps asg b w fun e w'=>∃ v,e=.returned v∧K v w':=by
 have key:qxg P c o.type ρ w (execOp (ev ρ) o) K→OpOk P (execOp (ev ρ) o) w K:=qsu ho;unfold q49 at h;unfold qxg at key
 split at h
 ·rename_i f hc
  simp only [hc] at key
  split at h
  ·rename_i l first captured hf
   split at h
   ·rename_i h1 h2
    rw [qag] at h;obtain ⟨f',tmps,asg,b,hy,hR⟩:=h.h;refine .inr ⟨l,f',tmps,asg,b,?_,hR⟩;have e1:first=#[]:=by rw [← Array.toList_inj];simpa using h1
    have e2:captured=#[]:=by rw [← Array.toList_inj];simpa using h2
    subst e1 e2;rw [qc0] at hy;have e3:(c.args.toList.map (ev ρ)).toArray=c.args.map (ev ρ):=by rw [← Array.toList_inj];simp
    rw [e3] at hy;simp only [execOp,ho,resolve,hc,hf];simp [go_sem,Deferred.ofValue,invoke,hy]
   ·exact h.elim
  ·rename_i g first captured hf
   rw [hf] at key;exact .inl (key h)
  ·rename_i hn1 hn2
   exact .inl (.inl h.ok)
 ·rename_i hc
  simp only [hc] at key;exact .inl (key h)
 ·rename_i hc
  simp only [hc] at key;exact .inl (key h)
 ·rename_i hc
  simp only [hc] at key;exact .inl (key h)
 ·exact .inl (.inl h.ok)
theorem q4c {o:Oper} {ρ:Nat→Value} {ds:List Deferred} {w:World} {K:Value→List Deferred→World→Prop} {a:Act} {next:Act→World→Prop} {Q:Exit→Act→World→Prop}
  (ha:Sw n ρ a) (hd:a.defers=ds) (h:opW P r o ρ ds w K) (hn:∀ v ds' w',K v ds' w'→next ({ a with defers:=ds' }.put o.dst v) w'):o.wpIn (Fr r) 0 P a w next Q:=by
 refine ⟨fun _ _=>trivial,?_⟩;have hds:({ a with defers:=ds }:Act)=a:=by subst hd;rfl
 have hn0:∀ v w',K v ds w'→next (a.put o.dst v) w':=fun v w' hk=>by have:=hn v ds w' hk;rwa [hds] at this
 rw [ha.eval];unfold opW at h
 split at h
 ·rename_i c ho
  rw [Oper.semAt_eq _ _ _ (by intro c' e;rw [ho] at e;cases e)]
  rcases q1t ho h with ((⟨v,w',h1,h2⟩|⟨w',h1,h2⟩)|⟨f,args,h1,h2⟩)|⟨l,f,tmps,asg,b,h1,h2⟩
  ·rw [h1];exact hn0 _ _ h2
  ·rw [h1];exact hn0 _ _ h2
  ·rw [h1,Oper.uponIn_enter];refine ⟨fun h=>by simp [Fr] at h,qcn.2 (h2.mono fun e w' ⟨v,he,hk⟩=>?_)⟩;subst he;exact hn0 _ _ hk
  ·rw [h1,Oper.uponIn_round];refine ⟨fun h=>by simp [Fr] at h,?_⟩;have h2:RoundIn (Fr r) 0 P l f tmps asg b w _:=h2;refine h2.mono fun e w' ⟨v,he,hk⟩=>?_;subst he;exact hn0 _ _ hk
 ·rename_i c ho
  split at h
  ·unfold defW at h
   split at h
   ·rename_i f hc
    split at h
    ·rename_i g first captured hf
     split at h
     ·rename_i h1 h2
      rw [qag] at h;have e1:first=#[]:=by rw [← Array.toList_inj];simpa using h1
      have e2:captured=#[]:=by rw [← Array.toList_inj];simpa using h2
      subst e1 e2;rw [qc0] at h;have e3:(c.args.toList.map (ev ρ)).toArray=c.args.map (ev ρ):=by rw [← Array.toList_inj];simp
      rw [e3] at h;have e4:(Oper.semAt none (ev ρ) o).run P w=.ok (.defer { target:=.fn (.func g) #[],args:=c.args.map (ev ρ) }) w:=by
       simp only [Oper.semAt_none,execOp,ho,resolve,hc,hf];simp [go_sem,Deferred.ofValue]
      have e5:(Fr none).round=none:=rfl;rw [e5,e4,Oper.uponIn_defer];subst hd;exact hn _ _ _ h
     ·exact h.elim
    ·exact h.elim
   ·exact h.elim
  ·exact h.elim
 ·rename_i hn1 hn2
  rw [Oper.semAt_eq _ _ _ (fun c e=>hn2 c e)]
  rcases qtv h with (⟨v,w',h1,h2⟩|⟨w',h1,h2⟩)|⟨f,args,h1,h2⟩
  ·rw [h1];exact hn0 _ _ h2
  ·rw [h1];exact hn0 _ _ h2
  ·rw [h1,Oper.uponIn_enter];refine ⟨fun h=>by simp [Fr] at h,qcn.2 (h2.mono fun e w' ⟨v,he,hk⟩=>?_)⟩;subst he;exact hn0 _ _ hk
end
def runW (P:Program) (n:Nat) (r:Option Nat) (o:Oper) (K:(Nat→Value)→List Deferred→World→Prop) (ρ:Nat→Value) (ds:List Deferred) (w:World):Prop:=
 opW P r o ρ ds w fun v ds' w'=>putV n o.dst ρ v fun ρ'=>K ρ' ds' w'
def qrp (n:Nat) (o:Oper) (K:(Nat→Value)→List Deferred→World→Prop) (ρ:Nat→Value) (ds:List Deferred) (w:World):Prop:=
 putV n o.dst ρ undef fun ρ'=>K ρ' ds w
def regW (P:Program) (n:Nat) (r:Option Nat) (ops:List Oper) (Q:(Nat→Value)→List Deferred→World→Prop):List Oper→(Nat→Value)→List Deferred→World→Prop
 | [],ρ,ds,w=>Q ρ ds w
 | o::rest,ρ,ds,w=>
  match o.guard with
  | none=>runW P n r o (regW P n r ops Q rest) ρ ds w
  | some (j,want)=>
   match getL ops j with
   | none=>qrp n o (regW P n r ops Q rest) ρ ds w
   | some oj=>match oj.dst with
    | none=>qrp n o (regW P n r ops Q rest) ρ ds w
    | some d=>bif Nat.blt d n then
      match ρ d with
      | .bool b=>Tst b
        (match want with
         | true=>runW P n r o (regW P n r ops Q rest) (upd ρ d (.bool true)) ds w
         | false=>qrp n o (regW P n r ops Q rest) (upd ρ d (.bool true)) ds w)
        (match want with
         | true=>qrp n o (regW P n r ops Q rest) (upd ρ d (.bool false)) ds w
         | false=>runW P n r o (regW P n r ops Q rest) (upd ρ d (.bool false)) ds w)
      | _=>qrp n o (regW P n r ops Q rest) ρ ds w
     else False
abbrev QW:=Exit→(Nat→Value)→List Deferred→World→Prop
def seqW (K:(Nat→Value)→List Deferred→World→Prop) (Q:QW):QW
 | .normal,ρ,ds,w=>K ρ ds w
 | .exit i,ρ,ds,w=>Q (.exit i) ρ ds w
 | .goto l,ρ,ds,w=>Q (.goto l) ρ ds w
 | .ret,ρ,ds,w=>Q .ret ρ ds w
 | .panic c,ρ,ds,w=>Q (.panic c) ρ ds w
 | .outgrown,ρ,ds,w=>Q .outgrown ρ ds w
def qsr (id:Nat) (Q:QW):QW
 | .normal,ρ,ds,w=>Q .normal ρ ds w
 | .exit i,ρ,ds,w=>bif Nat.beq i id then Q .normal ρ ds w else Q (.exit i) ρ ds w
 | .goto l,ρ,ds,w=>Q (.goto l) ρ ds w
 | .ret,ρ,ds,w=>Q .ret ρ ds w
 | .panic c,ρ,ds,w=>Q (.panic c) ρ ds w
 | .outgrown,ρ,ds,w=>Q .outgrown ρ ds w
def qed (n:Nat) (Q:QW):Exit→Act→World→Prop:=fun e a w=>∃ ρ,Sw n ρ a∧Q e ρ a.defers w
structure LoopW (P:Program) (n:Nat) (r:Option Nat) (body:Code) (Q:QW) (ρ:Nat→Value) (ds:List Deferred) (w:World):Prop where
 h:∀ a,Sw n ρ a→a.defers=ds→(Code.loop body).wpIn (Fr r) 0 P (qed n Q) a w
structure DrawW (P:Program) (n:Nat) (r:Option Nat) (id:Nat) (ops:Array Oper) (Q:QW) (ρ:Nat→Value) (ds:List Deferred) (w:World):Prop where
 h:∀ a,Sw n ρ a→a.defers=ds→(Code.region id ops true).wpIn (Fr r) 0 P (qed n Q) a w
structure ScopeW (P:Program) (n:Nat) (r:Option Nat) (c:Code) (Q:QW) (ρ:Nat→Value) (ds:List Deferred) (w:World):Prop where
 h:∀ a,Sw n ρ a→a.defers=ds→(Code.scope c).wpIn (Fr r) 0 P (qed n Q) a w
structure RangeW (P:Program) (n:Nat) (r:Option Nat) (f:Operand) (ps:Array Tmp) (assign body:Code) (Q:QW) (ρ:Nat→Value) (ds:List Deferred) (w:World):Prop where
 h:∀ a,Sw n ρ a→a.defers=ds→(Code.rangeFunc f ps assign body).wpIn (Fr r) 0 P (qed n Q) a w
def qha (P:Program) (n:Nat) (r:Option Nat):Code→QW→(Nat→Value)→List Deferred→World→Prop
 | .skip,Q,ρ,ds,w=>Q .normal ρ ds w
 | .region id ops draw,Q,ρ,ds,w=>
  match draw with
  | false=>regW P n r ops.toList (Q .normal) ops.toList ρ ds w
  | true=>DrawW P n r id ops Q ρ ds w
 | .seq a b,Q,ρ,ds,w=>qha P n r a (seqW (qha P n r b Q) Q) ρ ds w
 | .cond c t e,Q,ρ,ds,w=>
  match ev ρ c with
  | .bool b=>Tst b (qha P n r t Q ρ ds w) (qha P n r e Q ρ ds w)
  | _=>False
 | .block id c,Q,ρ,ds,w=>qha P n r c (qsr id Q) ρ ds w
 | .loop c,Q,ρ,ds,w=>LoopW P n r c Q ρ ds w
 | .exit id,Q,ρ,ds,w=>Q (.exit id) ρ ds w
 | .label _,Q,ρ,ds,w=>Q .normal ρ ds w
 | .ret,Q,ρ,ds,w=>Q .ret ρ ds w
 | .goto l,Q,ρ,ds,w=>Q (.goto l) ρ ds w
 | .scope c,Q,ρ,ds,w=>ScopeW P n r c Q ρ ds w
 | .rangeFunc f p a b,Q,ρ,ds,w=>RangeW P n r f p a b Q ρ ds w
 | .refuse _,_,_,_,_=>False
section
variable {P:Program} {n:Nat} {r:Option Nat}
theorem Sw.yield {ρ:Nat→Value} {a:Act} (ha:Sw n ρ a) {ops:List Oper} {j d:Nat} {oj:Oper} (hj:getL ops j=some oj) (hd:oj.dst=some d) (hn:d<n) :
  yielded ops.toArray a.tmps j=match ρ d with | .bool b=>some b|_=>none:=St.yield ha hj hd hn
theorem qrj {o:Oper} {ops:Array Oper} {ρ:Nat→Value} {ds:List Deferred} {w:World} {K:(Nat→Value)→List Deferred→World→Prop} {a:Act} {rest:List Oper} {Q':Exit→Act→World→Prop}
  (hg:Region.wanted o (yielded ops a.tmps)=true) (ha:Sw n ρ a) (hd:a.defers=ds) (h:runW P n r o K ρ ds w)
  (hk:∀ ρ' ds' a' w',Sw n ρ' a'→a'.defers=ds'→K ρ' ds' w'→wpListIn (Fr r) 0 P ops Q' rest a' w') :
  wpListIn (Fr r) 0 P ops Q' (o::rest) a w:=by
 unfold wpListIn;rw [if_pos hg];refine q4c ha hd h fun v ds' w' hp=>?_;obtain ⟨ρ',h1,h2,h3⟩:=ha.put ds' hp;exact hk _ _ _ _ h1 h2 h3
theorem qgs {o:Oper} {ops:Array Oper} {ρ:Nat→Value} {ds:List Deferred} {w:World} {K:(Nat→Value)→List Deferred→World→Prop} {a:Act} {rest:List Oper} {Q':Exit→Act→World→Prop}
  (hg:Region.wanted o (yielded ops a.tmps)=false) (ha:Sw n ρ a) (hd:a.defers=ds) (h:qrp n o K ρ ds w)
  (hk:∀ ρ' ds' a' w',Sw n ρ' a'→a'.defers=ds'→K ρ' ds' w'→wpListIn (Fr r) 0 P ops Q' rest a' w') :
  wpListIn (Fr r) 0 P ops Q' (o::rest) a w:=by
 unfold wpListIn;rw [if_neg (by rw [hg];simp)];refine ⟨fun _ _=>trivial,?_⟩;obtain ⟨ρ',h1,h2,h3⟩:=ha.put ds h;have e:({ a with defers:=ds }:Act)=a:=by subst hd;rfl
 rw [e] at h1 h2;exact hk _ _ _ _ h1 h2 h3
theorem q6m {ops:List Oper} {Q:(Nat→Value)→List Deferred→World→Prop} {Q':Exit→Act→World→Prop} (hQ:∀ ρ ds a w,Sw n ρ a→a.defers=ds→Q ρ ds w→Q' .normal a w) (l:List Oper) :
  ∀ (ρ:Nat→Value) (ds:List Deferred) (a:Act) (w:World),Sw n ρ a→a.defers=ds→regW P n r ops Q l ρ ds w→wpListIn (Fr r) 0 P ops.toArray Q' l a w:=by
 induction l with
 | nil=>intro ρ ds a w ha hd h;exact hQ _ _ _ _ ha hd h
 | cons o rest ih=>
  intro ρ ds a w ha hd h;unfold regW at h;have ih':∀ ρ' ds' a' w',Sw n ρ' a'→a'.defers=ds'→regW P n r ops Q rest ρ' ds' w'→wpListIn (Fr r) 0 P ops.toArray Q' rest a' w':=fun ρ' ds' a' w'=>ih ρ' ds' a' w'
  split at h
  ·rename_i hg
   exact qrj (by simp [Region.wanted,hg]) ha hd h ih'
  ·rename_i j want hg
   split at h
   ·rename_i hj
    rw [qg] at hj;refine qgs ?_ ha hd h ih';have:ops.toArray[j]?=none:=by simpa using hj
    simp [Region.wanted,hg,yielded,this]
   ·rename_i oj hj
    split at h
    ·rename_i hdd
     refine qgs ?_ ha hd h ih';have hj2:=hj;rw [qg] at hj2;have:ops.toArray[j]?=some oj:=by simpa using hj2
     simp [Region.wanted,hg,yielded,this,hdd]
    ·rename_i d hdd
     cases hn:Nat.blt d n<;>rw [hn] at h
     ·exact h.elim
     ·have hn':d<n:=by simpa using hn
      have hy:=ha.yield hj hdd hn';simp only [cond_true] at h
      split at h
      ·rename_i b hb
       rw [hb] at hy;cases b
       ·have h:=h.f rfl;have ha':Sw n _ a:=St.same ha hb;cases want
        ·exact qrj (by simp [Region.wanted,hg,hy]) ha' hd h ih'
        ·exact qgs (by simp [Region.wanted,hg,hy]) ha' hd h ih'
       ·have h:=h.t rfl;have ha':Sw n _ a:=St.same ha hb;cases want
        ·exact qgs (by simp [Region.wanted,hg,hy]) ha' hd h ih'
        ·exact qrj (by simp [Region.wanted,hg,hy]) ha' hd h ih'
      ·rename_i hb
       refine qgs ?_ ha hd h ih';have:yielded ops.toArray a.tmps j=none:=by
        rw [hy]
        split
        ·rename_i b hb';exact absurd hb' (hb b)
        ·rfl
       simp [Region.wanted,hg,this]
theorem qy4 {K:(Nat→Value)→List Deferred→World→Prop} {Q:QW} {e:Exit} {a:Act} {w:World} (h:qed n (seqW K Q) e a w) :
  Exit.then (fun a w=>∃ ρ,Sw n ρ a∧K ρ a.defers w) (qed n Q) e a w:=by
 obtain ⟨ρ,h1,h2⟩:=h;cases e<;>exact ⟨ρ,h1,h2⟩
theorem qqv {id:Nat} {Q:QW} {e:Exit} {a:Act} {w:World} (h:qed n (qsr id Q) e a w) :
  Exit.inBlock id (qed n Q) e a w:=by
 obtain ⟨ρ,h1,h2⟩:=h;cases e with
 | exit i=>
  by_cases hi:i=id
  ·have hb:Nat.beq i id=true:=by subst hi;simp
   simp only [qsr,hb,cond_true] at h2;simp only [Exit.inBlock,hi,if_true];exact ⟨ρ,h1,h2⟩
  ·have hb:Nat.beq i id=false:=Bool.eq_false_iff.2 fun h=>hi (Nat.eq_of_beq_eq_true h)
   simp only [qsr,hb,cond_false] at h2;simp only [Exit.inBlock,hi,if_false];exact ⟨ρ,h1,h2⟩
 | normal=>exact ⟨ρ,h1,h2⟩
 | goto l=>exact ⟨ρ,h1,h2⟩
 | ret=>exact ⟨ρ,h1,h2⟩
 | panic c=>exact ⟨ρ,h1,h2⟩
 | outgrown=>exact ⟨ρ,h1,h2⟩
theorem qe2 (c:Code):∀ (Q:QW) (ρ:Nat→Value) (ds:List Deferred) (w:World),qha P n r c Q ρ ds w→∀ a,Sw n ρ a→a.defers=ds→c.wpIn (Fr r) 0 P (qed n Q) a w:=by
 induction c with
 | skip=>intro Q ρ ds w h a ha hd;subst hd;exact Go.wpIn_skip ⟨ρ,ha,h⟩
 | region id ops draw=>
  intro Q ρ ds w h a ha hd;cases draw
  ·refine wpIn_region_list ?_;have:=q6m (Q':=qed n Q) (fun ρ ds a w ha hd h=>by subst hd;exact ⟨ρ,ha,h⟩) ops.toList ρ ds a w ha hd h
   simpa using this
  ·exact h.h a ha hd
 | seq x y hx hy=>
  intro Q ρ ds w h a ha hd;refine Go.wpIn_seq (Go.wpIn_mono (hx _ _ _ _ h a ha hd) fun e a w h=>?_);have:=qy4 h;cases e with
  | normal=>obtain ⟨ρ',h1,h2⟩:=this;exact hy _ _ _ _ h2 _ h1 rfl
  | exit i=>exact this
  | goto l=>exact this
  | ret=>exact this
  | panic c=>exact this
  | outgrown=>exact this
 | cond c t e ht he=>
  intro Q ρ ds w h a ha hd;unfold qha at h
  split at h
  ·rename_i b hb
   refine Go.wpIn_cond_split (t:=b) (by rw [ha.eval,hb]) (fun e=>ht _ _ _ _ (h.t e) a ha hd) (fun e=>he _ _ _ _ (h.f e) a ha hd)
  ·exact h.elim
 | block id c hc=>
  intro Q ρ ds w h a ha hd;exact Go.wpIn_block (Go.wpIn_mono (hc _ _ _ _ h a ha hd) fun e a w h=>qqv h)
 | loop c hc=>intro Q ρ ds w h a ha hd;exact h.h a ha hd
 | rangeFunc f p x b hx hb=>intro Q ρ ds w h a ha hd;exact h.h a ha hd
 | exit id=>intro Q ρ ds w h a ha hd;subst hd;exact Go.wpIn_exit ⟨ρ,ha,h⟩
 | scope c hc=>intro Q ρ ds w h a ha hd;exact h.h a ha hd
 | label l=>intro Q ρ ds w h a ha hd;subst hd;exact Go.wpIn_label ⟨ρ,ha,h⟩
 | goto l=>intro Q ρ ds w h a ha hd;subst hd;exact Go.wpIn_goto ⟨ρ,ha,h⟩
 | ret=>intro Q ρ ds w h a ha hd;subst hd;exact Go.wpIn_ret ⟨ρ,ha,h⟩
 | refuse why=>intro Q ρ ds w h a ha hd;exact h.elim
theorem DrawW.of {id:Nat} {ops:Array Oper} {Q:QW} {ρ:Nat→Value} {w:World} (h:DrawV P n id ops (fun e ρ' w'=>Q e ρ' [] w') ρ w):DrawW P n none id ops Q ρ [] w:=by
 refine ⟨fun a ha hd=>?_⟩;have:=h.h a (ha.st hd);show (Code.region id ops true).wpIn Fence.wide 0 P _ a w;refine wpIn_wide.2 (Go.wp_mono this fun e a w ⟨ρ',h1,h2⟩=>⟨ρ',h1.sw,?_⟩);rw [h1.defers];exact h2
theorem q2n {α:Type} (l:α→List (Nat × Value)) (I:α→World→Prop) (μ:α→Nat) {body:Code} {Q:QW} {ρ:Nat→Value} {ds:List Deferred} {w:World} (x0:α)
  (h0:qnz (l x0) ρ) (hI:I x0 w)
  (hr:∀ x w ρ',I x w→qha P n r body (seqW (fun ρ'' ds'' w'=>ds''=ds∧∃ x',qnz (l x') ρ''∧I x' w'∧μ x'<μ x) Q) (over (l x) ρ') ds w):LoopW P n r body Q ρ ds w:=by
 refine ⟨fun a ha hd=>?_⟩;intro b k cs hro hb hroom;have key:∀ m x,μ x=m→∀ ρ a w,qnz (l x) ρ→Sw n ρ a→a.defers=ds→I x w→
   ∃ e a' w',qed n Q e a' w'∧ArrivesIn (Machine.fenced P (Fr r)) P (lone (b.atR a (.code body::.inLoop body::k)) cs w) b k cs e a' w':=by
  intro m
  induction m using Nat.strongRecOn with
  | _ m ih=>
   intro x hm ρ a w hag hst hds hI;have h1:=hr x w ρ hI;rw [qo3 hag] at h1;obtain ⟨e,a₁,w₁,hq,harr⟩:=qe2 body _ _ _ _ h1 a hst hds b (.inLoop body::k) cs hro hb hroom;obtain ⟨ρ₁,hst₁,hq⟩:=hq;cases e with
   | normal=>
    obtain ⟨hds',x',hag',hI',hlt⟩:=hq;obtain ⟨e₂,a₂,w₂,hq₂,harr₂⟩:=ih (μ x') (hm ▸ hlt) x' rfl ρ₁ a₁ w₁ hag' hst₁ hds' hI';exact ⟨e₂,a₂,w₂,hq₂,.of_steps (StepsIn.trans harr (.one (fenced_calm hb hroom rfl) stepR_inLoop)) harr₂⟩
   | exit id=>exact ⟨_,a₁,w₁,⟨ρ₁,hst₁,hq⟩,.pass (x:=.inLoop body) rfl (fun _ _=>.inl Js) harr⟩
   | goto l=>exact ⟨_,a₁,w₁,⟨ρ₁,hst₁,hq⟩,.pass (x:=.inLoop body) rfl (fun _ _=>.inl Js) harr⟩
   | ret=>exact ⟨_,a₁,w₁,⟨ρ₁,hst₁,hq⟩,.pass (x:=.inLoop body) rfl (fun _ _=>.inl Js) harr⟩
   | panic ch=>exact ⟨_,a₁,w₁,⟨ρ₁,hst₁,hq⟩,.pass (x:=.inLoop body) rfl (fun _ _=>.inl Js) harr⟩
   | outgrown=>exact ⟨_,a₁,w₁,⟨ρ₁,hst₁,hq⟩,.pass (x:=.inLoop body) rfl (fun _ _=>.inl Js) harr⟩
 obtain ⟨e,a',w',hq,harr⟩:=key _ x0 rfl ρ a w h0 ha hd hI;exact ⟨e,a',w',hq,.of_steps (.one (fenced_calm hb hroom rfl) stepR_loop) harr⟩
structure LeaveV (P:Program) (n:Nat) (fn:Func) (R:Value→World→Prop) (ρ:Nat→Value) (ds:List Deferred) (w:World):Prop where
 h:∀ a,Sw n ρ a→LeavesInM (Fr none) 0 P fn a.tmps (fun e w'=>∃ v,e=.returned v∧R v w') ds .returning w
def qot (P:Program) (n:Nat) (fn:Func) (R:Value→World→Prop) (ρ:Nat→Value) (ds:List Deferred) (w:World):Prop:=
 match ds with
 | []=>resV fn.results ρ w fn R P n
 | d::ds=>LeaveV P n fn R ρ (d::ds) w
theorem qjh {fn:Func} {R:Value→World→Prop} {ρ:Nat→Value} {ds:List Deferred} {w:World} (h:qot P n fn R ρ ds w) {a:Act} (ha:Sw n ρ a) :
  LeavesInM (Fr none) 0 P fn a.tmps (fun e w'=>∃ v,e=.returned v∧R v w') ds .returning w:=by
 cases ds with
 | nil=>
  obtain ⟨v,h1,h2⟩:=qre rfl ha h;exact ⟨v,h1,v,rfl,h2⟩
 | cons d ds=>exact h.h a ha
theorem LeaveV.mark {fn:Func} {R:Value→World→Prop} {ρ:Nat→Value} {D:Nat} {ds:List Deferred} {w:World} (h:w.heap[D]?=some (.deferred (some [])))
  (hk:∀ w',w'=setO w D (.deferred none)→qot P n fn R ρ ds w'):LeaveV P n fn R ρ ({ target:=.collected D,args:=#[] }::ds) w:=
 ⟨fun a ha=>⟨by simp,.inl ⟨D,_,rfl,run_takeDeferred h,qjh (hk _ rfl) ha⟩⟩⟩
def q82 (P:Program) (n:Nat) (fn:Func) (R:Value→World→Prop):QW
 | .normal,ρ,ds,w=>qot P n fn R ρ ds w
 | .ret,ρ,ds,w=>qot P n fn R ρ ds w
 | _,_,_,_=>False
theorem q7z {vs:List Value} {n:Nat} (hl:vs.length≤n):Sw n (ini vs) { tmps:=vs.toArray++Array.replicate (n-vs.toArray.size) undef,defers:=[] }:=by
 refine ⟨by simp;omega,fun t=>?_,rfl⟩;rw [q34,Array.getD_eq_getD_getElem?];simp only [Array.getElem?_append,List.size_toArray]
 split
 ·simp
 ·rename_i ht
  rw [List.getElem?_eq_none Oo];simp only [Array.getElem?_replicate]
  split<;>rfl
theorem gvW {f:FuncId} {fn:Func} {c:Code} {vs:List Value} {w:World} {R:Value→World→Prop} (he:qei P f=true) (hf:P.funcs[f]?=some fn) (hb:fn.body=some c) (hn:fn.ntmps=n)
  (hl:Nat.ble vs.length n=true) (h:qha P n none c (q82 P n fn R) (ini vs) [] w):Gv P f vs w R:=by
 have hl':vs.length≤n:=by simpa using hl
 refine ⟨he,qcn (r:=none) (m:=0) |>.1 (callsIn_of_wp_marks hf hb trivial (Go.wpIn_mono (qe2 c _ _ _ _ h _ (by rw [hn];exact q7z hl') rfl) fun e a w hq=>?_))⟩;obtain ⟨ρ,hst,hq⟩:=hq;cases e with
 | normal=>exact qjh hq hst
 | ret=>exact qjh hq hst
 | exit i=>exact hq.elim
 | goto i=>exact hq.elim
 | panic i=>exact hq.elim
 | outgrown=>exact hq.elim
structure Carr (J:List (Nat × Obj)→World→Prop):Prop where
 ext:∀ {X w w'},J X w→Ext w w'→J X w'
 get:∀ {X w} {b:Nat} {o:Obj},J X w→(b,o)∈X→w.heap[b]?=some o
 new:∀ {X w} (o:Obj),J X w→J ((w.heap.size,o)::X) (w.alloc o)
 set:∀ {X w} {b:Nat} {o:Obj} (o':Obj),J ((b,o)::X) w→J ((b,o')::X) (setO w b o')
 drop:∀ {X w} {x:Nat × Obj},J (x::X) w→J X w
 perm:∀ {X Y w},J X w→X.Perm Y→J Y w
theorem Carr.tail {J:List (Nat × Obj)→World→Prop} (h:Carr J) (L:List (Nat × Obj)):Carr fun X w=>J (X++L) w:=
 ⟨h.ext,fun k hx=>h.get k (List.mem_append_left _ hx),fun o k=>h.new o k,fun o' k=>h.set o' k,h.drop,fun k hp=>h.perm k (hp.append_right L)⟩
theorem Carr.any {α:Type} {J:α→List (Nat × Obj)→World→Prop} (h:∀ c,Carr (J c)):Carr fun X w=>∃ c,J c X w:=
 ⟨fun ⟨c,k⟩ he=>⟨c,(h c).ext k he⟩,fun ⟨c,k⟩ hx=>(h c).get k hx,fun o ⟨c,k⟩=>⟨c,(h c).new o k⟩,fun o' ⟨c,k⟩=>⟨c,(h c).set o' k⟩,fun ⟨c,k⟩=>⟨c,(h c).drop k⟩,fun ⟨c,k⟩ hp=>⟨c,(h c).perm k hp⟩⟩
def SeqV (P:Program) (gf:FuncId) (lb:List Value) (xs:List (List Value)) (Φ:World→Prop):Prop:=
 ∀ (l:Nat) (I Ix:Nat→World→Prop) (w:World),(∀ k w,I k w→Φ w)→(∀ k w w',I k w→Ext w w'→I k w')→(∀ k w w',Ix k w→Ext w w'→Ix k w')→I 0 w→
  (∀ k x w,xs[k]?=some x→I k w→YieldV P l x w fun v w'=>(v=.bool true∧I (k+1) w')∨(v=.bool false∧Ix k w'))→
  Gv P gf (.func (.yield l) #[] #[]::lb) w fun _ w'=>I xs.length w'∨∃ k,k<xs.length∧Ix k w'
def SeqC (P:Program) (gf:FuncId) (lb:List Value) (xs:List (List Value)) (Φ:World→Prop):Prop:=
 ∀ (l:Nat) (I Ix:Nat→List (Nat × Obj)→World→Prop) (w:World),(∀ k,Carr (I k))→(∀ k,Carr (Ix k))→(∀ k X w,I k X w→Φ w)→I 0 [] w→
  (∀ k x X w,xs[k]?=some x→I k X w→YieldV P l x w fun v w'=>(v=.bool true∧I (k+1) X w')∨(v=.bool false∧Ix k X w'))→
  Gv P gf (.func (.yield l) #[] #[]::lb) w fun _ w'=>I xs.length [] w'∨∃ k,k<xs.length∧Ix k [] w'
theorem SeqV.toC {P:Program} {gf:FuncId} {lb:List Value} {xs:List (List Value)} {Φ:World→Prop} (h:SeqV P gf lb xs Φ):SeqC P gf lb xs Φ:=
 fun l I Ix w hI hIx hw h0 hy=>h l (fun k w=>I k [] w) (fun k w=>Ix k [] w) w (fun k w g=>hw k [] w g) (fun k _ _ g he=>(hI k).ext g he) (fun k _ _ g he=>(hIx k).ext g he) h0 fun k x w hx g=>hy k x [] w hx g
def qwg:List Tmp→List Value→(Nat→Value)→Nat→Value
 | p::ps,v::vs,ρ=>qwg ps vs (upd ρ p v)
 | _,_,ρ=>ρ
theorem qud:∀ (ps:List Tmp) (vs:List Value) (ρ:Nat→Value) (t:Array Value),ps.all (Nat.blt · n)=true→St n ρ ⟨t,[]⟩→
  St n (qwg ps vs ρ) ⟨(ps.zip vs).foldl (fun t (p,v)=>t.setIfInBounds p v) t,[]⟩:=by
 intro ps
 induction ps with
 | nil=>intro vs ρ t _ h;exact h
 | cons p ps ih=>
  intro vs ρ t hp h;cases vs with
  | nil=>exact h
  | cons v vs=>
   simp only [List.all_cons,Bool.and_eq_true] at hp;exact ih vs _ _ hp.2 (h.put (by simpa using hp.1) v)
structure BeginV (w1 w2:World) (ds:List Deferred) (K:Prop):Prop where
 w:w2=w1
 d:ds=[]
 k:K
def q8f (K:(Nat→Value)→List Deferred→World→Prop):QW
 | .normal,ρ,ds,w=>K ρ ds w
 | _,_,_,_=>False
def q4h (J:World→Prop) (Jx:Code→World→Prop):QW
 | .normal,_,_,w=>J w
 | .ret,_,_,w=>Jx .ret w
 | .exit id,_,_,w=>Jx (.exit id) w
 | .goto t,_,_,w=>Jx (.goto t) w
 | _,_,_,_=>False
def q8s (c:Code) (Q:QW) (ρ:Nat→Value) (ds:List Deferred) (w:World):Prop:=
 match c with
 | .ret=>Q .ret ρ ds w
 | .exit id=>Q (.exit id) ρ ds w
 | .goto t=>Q (.goto t) ρ ds w
 | _=>False
theorem q4g {f:Operand} {ps:Array Tmp} {assign body:Code} {Q:QW} {ρ:Nat→Value} {ds:List Deferred} {w:World} {Φ:World→Prop} {gf:FuncId} {lb:List Value} {xs:List (List Value)}
  (hf:ev ρ f=.func (.func gf) #[] lb.toArray) (he:qei P gf=true) (hseq:SeqC P gf lb xs Φ) (hpn:ps.toList.all (Nat.blt · n)=true) (hps:∀ x∈xs,x.length=ps.size)
  (J:Nat→List (Nat × Obj)→World→Prop) (Jx:Code→Nat→List (Nat × Obj)→World→Prop) (hJ:∀ k,Carr (J k)) (hJx:∀ c k,Carr (Jx c k)) (hw:∀ k X w,J k X w→Φ w) (h0:J 0 [] w)
  (hbody:∀ l D ob k x X w1 w2,xs[k]?=some x→J k ((l,ob)::(D,.deferred (some []))::X) w2→
   qha P n (some l) assign (q8f fun ρ1 ds1 w1'=>BeginV w1 w1' ds1
    (qha P n (some l) body (q4h (J (k+1) ((l,ob)::(D,.deferred (some []))::X)) (fun c=>Jx c k ((l,ob)::(D,.deferred (some []))::X))) ρ1 [] w2)) (qwg ps.toList x ρ) [] w1)
  (hdone:∀ D w',J xs.length [(D,.deferred (some []))] w'→Q .normal ρ ({ target:=.collected D,args:=#[] }::ds) w')
  (hstop:∀ D c k w',k<xs.length→Jx c k [(D,.deferred (some []))] w'→q8s c Q ρ ({ target:=.collected D,args:=#[] }::ds) w'):RangeW P n none f ps assign body Q ρ ds w:=by
 refine ⟨fun a ha hd=>?_⟩;subst hd;refine wpIn_rangeFunc ?_;intro fn hfn;obtain ⟨rec,hrec⟩:∃ rec:LoopState→Option Code→Loop,rec=fun st pe=>{ state:=st,pending:=pe,fn,tmps:=a.tmps,params:=ps,assign,body,defers:=w.heap.size }:=⟨_,rfl⟩
 obtain ⟨W1,hW1⟩:∃ W1,(w.alloc (.deferred (some []))).alloc (.loop (rec .ready none))=W1:=⟨_,rfl⟩
 have hD:=(hJ 0).new (.deferred (some [])) h0;have hL:=(hJ 0).new (.loop (rec .ready none)) hD;rw [hW1,World.size_alloc] at hL;refine ⟨w.heap.size+1,[{ target:=.collected w.heap.size,args:=#[] }],W1,{ target:=.fn (.func gf) lb.toArray,args:=#[.func (.yield (w.heap.size+1)) #[] #[]] },W1,gf,
  #[.func (.yield (w.heap.size+1)) #[] #[]]++lb.toArray,W1,?_,?_,fun _ _=>trivial,?_,fun h=>by simp [Fr] at h,?_⟩
 ·rw [← hW1,hrec];exact run_enterLoop_outer _ _ _ _ _
 ·have:a.eval f=.func (.func gf) #[] lb.toArray:=by rw [ha.eval,hf]
  simp only [resolve,this];simp [go_sem]
 ·simp only [invoke];exact qc6 he _
 ·have ea:#[Value.func (.yield (w.heap.size+1)) #[] #[]]++lb.toArray=(Value.func (.yield (w.heap.size+1)) #[] #[]::lb).toArray:=by rw [← Array.toList_inj];simp
  rw [ea];refine qcn.2 ((hseq (w.heap.size+1) (fun k X W=>J k (X++[(w.heap.size+1,.loop (rec .ready none)),(w.heap.size,.deferred (some []))]) W)
   (fun k X W=>∃ c,Jx c k (X++[(w.heap.size+1,.loop (rec .done (some c))),(w.heap.size,.deferred (some []))]) W) W1
   (fun k=>(hJ k).tail _) (fun k=>Carr.any fun c=>(hJx c k).tail _) (fun k X W h=>hw _ _ _ h) hL ?_).2.mono ?_)
  ·intro k x X W hx hk;replace hk:=(hJ k).perm hk List.perm_append_comm;have hl:=(hJ k).get hk mh;have hy:=run_yield (P:=P) (args:=x.toArray) hl (by rw [hrec];simpa using hps x (zmg hx));rw [hrec] at hy;refine ⟨⟨fn,_,assign,body,hy,roundIn_of_wpIn hfn ?_⟩⟩;have h1:=hbody (w.heap.size+1) w.heap.size _ k x X W _ hx ((hJ k).set (.loop { rec .ready none with state:=.busy }) hk);have hz:(ps.zip x.toArray).foldl (fun t (p,v)=>t.setIfInBounds p v) a.tmps=(ps.toList.zip x).foldl (fun t (p,v)=>t.setIfInBounds p v) a.tmps:=by
    rw [← Array.foldl_toList];simp
   have hst:Sw n (qwg ps.toList x ρ) { tmps:=(ps.zip x.toArray).foldl (fun t (p,v)=>t.setIfInBounds p v) a.tmps,defers:=[] }:=by
    rw [hz];exact qud _ _ _ _ hpn ha
   refine Go.wpIn_mono (F:=Fr (some (w.heap.size+1))) (qe2 assign _ _ _ _ h1 _ hst rfl) fun e a1 w1 hq=>?_;obtain ⟨ρ1,hst1,hq⟩:=hq;cases e with
   | normal=>
    obtain ⟨hw1,hd1,hb1⟩:=hq;subst hw1;refine ⟨_,run_beginRound hl (by rw [hrec]),?_⟩;refine Go.wpIn_mono (F:=Fr (some (w.heap.size+1))) (qe2 body _ _ _ _ hb1 _ hst1 hd1) fun e a2 w2 hq=>?_;obtain ⟨ρ2,hst2,hq⟩:=hq;cases e with
    | normal=>
     refine ⟨_,_,run_endRound none ((hJ _).get hq mh),_,rfl,.inl ⟨rfl,?_⟩⟩;have:=(hJ (k+1)).perm ((hJ (k+1)).set (.loop (rec .ready none)) hq) (List.perm_append_comm (l₁:=[_,_]));rw [hrec] at this ⊢;exact this
    | ret=>
     refine ⟨_,_,run_endRound (some .ret) ((hJx _ _).get hq mh),_,rfl,.inr ⟨rfl,.ret,?_⟩⟩;have:=(hJx _ k).perm ((hJx _ k).set (.loop (rec .done (some .ret))) hq) (List.perm_append_comm (l₁:=[_,_]));rw [hrec] at this ⊢;exact this
    | exit id=>
     refine ⟨_,_,run_endRound (some (.exit id)) ((hJx _ _).get hq mh),_,rfl,.inr ⟨rfl,.exit id,?_⟩⟩;have:=(hJx _ k).perm ((hJx _ k).set (.loop (rec .done (some (.exit id)))) hq) (List.perm_append_comm (l₁:=[_,_]));rw [hrec] at this ⊢;exact this
    | goto t=>
     refine ⟨_,_,run_endRound (some (.goto t)) ((hJx _ _).get hq mh),_,rfl,.inr ⟨rfl,.goto t,?_⟩⟩;have:=(hJx _ k).perm ((hJx _ k).set (.loop (rec .done (some (.goto t)))) hq) (List.perm_append_comm (l₁:=[_,_]));rw [hrec] at this ⊢;exact this
    | panic ch=>exact hq.elim
    | outgrown=>exact hq.elim
   | ret=>exact hq.elim
   | exit id=>exact hq.elim
   | goto t=>exact hq.elim
   | panic ch=>exact hq.elim
   | outgrown=>exact hq.elim
  ·rintro e W2 ⟨v,rfl,h|⟨k,hk,c,h⟩⟩
   ·have hl:=(hJ _).get h mh;have:=run_endLoop (P:=P) hl (by rw [hrec];simp);rw [hrec] at this;exact ⟨none,_,this,ρ,ha,hdone _ _ ((hJ _).drop ((hJ _).set _ h))⟩
   ·have hl:=(hJx _ _).get h mh;have:=run_endLoop (P:=P) hl (by rw [hrec];simp);rw [hrec] at this;refine ⟨some c,_,this,?_⟩;have hs:=hstop _ c k _ hk ((hJx _ _).drop ((hJx _ _).set (.loop { rec .done (some c) with state:=.exhausted }) h));rw [hrec] at hs;cases c with
    | ret=>exact Go.wpIn_ret ⟨ρ,ha,hs⟩
    | exit id=>exact Go.wpIn_exit ⟨ρ,ha,hs⟩
    | goto t=>exact Go.wpIn_goto ⟨ρ,ha,hs⟩
    | _=>exact hs.elim
theorem Mem.glue {a b c:World} {L M:List (Nat × Obj)} (h:Mem a b L) (k:Mem b c M):Mem a c (M++L):=by
 refine ⟨h.ext.trans k.ext,fun x hx=>?_,?_⟩
 ·rcases List.mem_append.1 hx with hx|hx
  ·exact ⟨Nat.le_trans h.ext.size (k.own x hx).1,(k.own x hx).2⟩
  ·exact ⟨(h.own x hx).1,k.ext.get (h.own x hx).2⟩
 ·rw [List.map_append,List.nodup_append];refine ⟨k.nodup,h.nodup,?_⟩;intro u hu v hv e;obtain ⟨x,hx,rfl⟩:=List.mem_map.1 hu;obtain ⟨y,hy,rfl⟩:=List.mem_map.1 hv;have h1:=(k.own x hx).1;have h2:=h.lt (b:=y.1) (o:=y.2) hy;omega
theorem Mem.glue2 {a b c:World} {L M:List (Nat × Obj)} (h:Mem a b L) (k:Mem b c M):Mem a c (L++M):=(h.glue k).perm List.perm_append_comm
theorem Carr.mem {σ:Type} {w0:World} (A:σ→Prop) (L:σ→List (Nat × Obj)):Carr fun X w=>∃ s,A s∧Mem w0 w (X++L s):=by
 refine ⟨?_,?_,?_,?_,?_,?_⟩
 ·rintro X w w' ⟨s,hs,hm⟩ he;exact ⟨s,hs,hm.call he⟩
 ·rintro X w b o ⟨s,hs,hm⟩ hx;exact hm.get (List.mem_append_left _ hx)
 ·rintro X w o ⟨s,hs,hm⟩;exact ⟨s,hs,hm.new rfl rfl⟩
 ·rintro X w b o o' ⟨s,hs,hm⟩;exact ⟨s,hs,hm.setO (i:=0) o' rfl rfl⟩
 ·rintro X w x ⟨s,hs,hm⟩;exact ⟨s,hs,hm.sub (List.sublist_cons_self ..)⟩
 ·rintro X Y w ⟨s,hs,hm⟩ hp;exact ⟨s,hs,hm.perm (hp.symm.append_right _)⟩
end
end V
def bSt (E:LB) (p:Nat):Nat→LB × Nat
 | 0=>([],p)
 | j+1=>((blk E p j).1,(blk E p j).2.1)
theorem q7o {E:LB} {p:Nat}:∀ {j:Nat},(∀ i,i<j→(blk E p i).2.2=0)→blk E p j=qcb E (bSt E p j).2 (decide (j=0)) (bSt E p j).1
 | 0,_=>rfl
 | j+1,h=>by
  rw [blk,if_neg (by rw [h j Oo];simp)];rfl
def bRow (m:LB) (k j:Nat):List Value:=[ii (16*k+j:Nat),.string ⟨(blk (qd m) (qz m k) j).1.toArray⟩]
structure BEnd (m:LB) (k n:Nat):Prop where
 ok:∀ j,j<n→16*k+j<dN m∧(blk (qd m) (qz m k) j).2.2=0
 le:n≤16
 stop:n<16→16*k+n<dN m→(blk (qd m) (qz m k) n).2.2≠0
theorem BEnd.ex (m:LB) (k:Nat):∃ n,BEnd m k n:=by
 have:∀ d j,j+d=16→(∀ i,i<j→16*k+i<dN m∧(blk (qd m) (qz m k) i).2.2=0)→∃ n,BEnd m k n:=by
  intro d
  induction d with
  | zero=>intro j hj h;exact ⟨j,h,by omega,fun h=>by omega⟩
  | succ d ih=>
   intro j hj h
   by_cases hg:16*k+j<dN m∧(blk (qd m) (qz m k) j).2.2=0
   ·refine ih (j+1) Oo fun i hi=>?_
    by_cases e:i=j
    ·subst e;exact hg
    ·exact h i Oo
   ·exact ⟨j,h,by omega,fun _ h1 h2=>hg ⟨h1,h2⟩⟩
 exact this 16 0 rfl fun i h=>by omega
theorem qob {w:World} {b:Nat} {m:LB} (h:DictAt w b m) (k:Nat):qz m k≤134217728:=by
 have:=qrx (qaf m) (k*dW m) (dW m) h.width;unfold qz;omega
theorem q7m {m:LB} {k n j:Nat} (h:BEnd m k n) (hj:j≤n) (hE:(qd m).length≤67108864) (hp:qz m k≤134217728) :
  (bSt (qd m) (qz m k) j).1.length≤262144∧(bSt (qd m) (qz m k) j).2≤134217728:=by
 cases j with
 | zero=>exact ⟨by simp [bSt],hp⟩
 | succ j=>
  have:=q7n (h.ok j Oo).2;exact ⟨this.1,by have:=this.2;simp only [bSt];omega⟩
def BlkΦ (b:Nat) (m:LB) (k b1 b2:Nat) (w:World):Prop:=DictAt w b m∧w.cell? ⟨b1,0,none⟩=some (pp b)∧w.cell? ⟨b2,0,none⟩=some (ii k)
theorem qn3 (b:Nat) (m:LB) (k n b1 b2:Nat) (hk:k<upN (dN m) 16) (hn:BEnd m k n) :
  SeqV Tryz.prog 319 [pp b1,pp b2] ((List.range n).map (bRow m k)) (BlkΦ b m k b1 b2):=by
 intro l I Ix w hI sI sIx h0 hy;obtain ⟨h,h1,h2⟩:=hI 0 w h0;have hub:upN (dN m) 16≤4194304:=Nat.le_trans (qa0 _ _ Od) h.n;have hEl:(qd m).length≤67108864:=by rw [h.entries];exact h.size
 have hpl:=qob h k;refine gvW Ok Tryz.func319 rfl Tryz.ntmps319 rfl (zw ?_);refine LoadV.of h1 (zw ?_);refine LoadV.of h2 (zw ?_);refine zcv (qo5 b m k w h hk) ?_;rintro v w' ⟨rfl,rfl⟩;(conv=>whnf);refine LoadV.of h2 (zu ?_);refine q2n (fun j:Nat=>[(0,.func (.yield l) #[] #[]),(1,pp b1),(2,pp b2),(4,ii (bSt (qd m) (qz m k) j).2),(5,.string ⟨(bSt (qd m) (qz m k) j).1.toArray⟩),(6,ii ((k:Int)*16+j))])
  (fun j w'=>j≤n∧I j w') (fun j=>n-j) 0 ⟨rfl,rfl,rfl,rfl,rfl,by show ii _=ii _;congr 1,trivial⟩ ⟨by omega,h0⟩ ?_
 rintro j w1 ρ' ⟨hj,hIj⟩;obtain ⟨hD1,hc1,hc2⟩:=hI j w1 hIj;obtain ⟨hs1,hs2⟩:=q7m hn hj hEl hpl;have hb:=fun hg:∀ i,i<j→(blk (qd m) (qz m k) i).2.2=0=>q7o hg
 have hb:=hb fun i hi=>(hn.ok i Oo).2
 have hle:=hn.le;(conv=>whnf);refine LoadV.of hc1 (zw ?_);obtain ⟨⟨P,cp,E,ce,hd1,_,_,_⟩,_⟩:=id hD1;refine LoadV.own hd1 rfl ?_;have hxs:((List.range n).map (bRow m k)).length=n:=by simp
 have hend:j=n→I ((List.range n).map (bRow m k)).length w1:=fun e=>by rw [hxs,← e];exact hIj
 (conv=>whnf);refine zC (fun _=>zu ?_) (fun _=>zu ?_)
 ·refine LoadV.of hc2 (zw ?_);refine zt ?_;refine zC (fun _=>zw ?_) (fun _=>zw ?_)
  ·refine LoadV.of hc1 (zw ?_);have e16:decide (((k:Int)*16+(j:Int))%16=0)=decide (j=0):=decide_eq_decide.2 Oo;refine Obl.mk ⟨by omega,by omega⟩ (zw ?_);rw [e16];refine zcv (qof b m (bSt (qd m) (qz m k) j).2 (decide (j=0)) ⟨(bSt (qd m) (qz m k) j).1.toArray⟩ w1 hD1 Oo (by show (bSt (qd m) (qz m k) j).1.length≤_;omega)) ?_;rintro v w2 ⟨rfl,he2⟩;have hb':qcb (qd m) (bSt (qd m) (qz m k) j).2 (decide (j=0)) (⟨(bSt (qd m) (qz m k) j).1.toArray⟩:ByteArray).data.toList=blk (qd m) (qz m k) j:=hb.symm;rw [hb'];obtain ⟨x,ex⟩:∃ x,x=blk (qd m) (qz m k) j:=⟨_,rfl⟩
   have hok:=hn.ok j;have hst:=hn.stop;rw [← ex] at hok ⊢;conv=>whnf
   by_cases hx0:x.2.2=0
   ·have hjn:j<n:=by
     refine Decidable.byContradiction fun hc=>?_;obtain rfl:j=n:=by omega
     exact hst Oo Oo (by rw [← ex];exact hx0)
    refine zv ?_;refine YieldV.mono (hy j [ii ((k:Int)*16+j),.string ⟨x.1.toArray⟩] w2 ?_ (sI _ _ _ hIj he2)) ?_
    ·rw [List.getElem?_map,List.getElem?_range hjn,Option.map_some,bRow,← ex]
     congr 3
     omega
    rintro v w3 (⟨rfl,hI3⟩|⟨rfl,hX⟩)
    ·refine zu ?_;refine ⟨rfl,j+1,⟨rfl,rfl,rfl,?_,?_,?_,trivial⟩,⟨by omega,hI3⟩,by omega⟩
     ·simp only [bSt,← ex];rfl
     ·simp only [bSt,← ex];rfl
     ·show ii _=ii _
      congr 1
    ·refine zu ?_;exact .inr ⟨j,by rw [hxs];exact hjn,hX⟩
   ·have hjn:j=n:=by
     refine Decidable.byContradiction fun hc=>?_;exact hx0 (hok Oo).2
    refine zv ?_;exact .inl (sI _ _ _ (hend hjn) he2)
  ·have hjn:j=n:=by omega
   exact .inl (hend hjn)
 ·have hjn:j=n:=by
   refine Decidable.byContradiction fun hc=>?_;have:=(hn.ok j Oo).1;omega
  exact .inl (hend hjn)
theorem qxb (b k:Nat) (w:World):Gv Tryz.prog 278 [pp b,ii k] w fun r w'=>
  (∃ b1 b2,r=.func (.func 319) #[] #[pp b1,pp b2]∧w'.cell? ⟨b1,0,none⟩=some (pp b)∧w'.cell? ⟨b2,0,none⟩=some (ii k))∧Ext w w':=by
 refine ze Tryz.func278 Tryz.ntmps278 ?_;refine znm (Mem.nil w) fun b1 w1 hm=>zw ?_;refine znm hm fun b2 w2 hm=>zw ?_;refine ⟨⟨b1,b2,rfl,?_,?_⟩,hm.ext⟩
 ·rw [qa (hm.get (zmc mh))];rfl
 ·rw [qa (hm.get mh)];rfl
def qi7 (m:LB) (i:Nat):Value:=
 match dGet m i with
 | some s=>.tuple #[.string ⟨s.toArray⟩,.bool true]
 | none=>.tuple #[.string ⟨#[]⟩,.bool false]
theorem q10 (b:Nat) (m:LB) (i:Nat) (w:World) (h:DictAt w b m) (hi:i≤16777216) :
  Gv Tryz.prog 221 [pp b,ii i] w fun r w'=>r=qi7 m i∧Ext w w':=by
 refine gvW Ok Tryz.func221 rfl Tryz.ntmps221 rfl (zw ?_);refine znm (Mem.nil w) fun bi w1 hm=>zw ?_;refine znm hm fun bs w2 hm=>zw ?_;refine znm hm fun bb w3 hm=>zw ?_;refine DrawW.of ?_;obtain ⟨⟨P,cp,E,ce,hd1,_,_,_⟩,_⟩:=h.ext hm.ext;refine zy ?_;refine LoadV.mem (hm.drew) (i:=2) rfl rfl (zu ?_);refine LoadV.mem (hm.drew) (i:=2) rfl rfl (zu ?_);refine LoadV.own hd1 rfl (zw ?_);refine zt ?_;refine zC (fun _=>zw ?_) (fun _=>zw ?_)
 ·have hg:qi7 m i=.tuple #[.string ⟨#[]⟩,.bool false]:=by rw [qi7,dGet,if_neg Oo]
  rw [hg];refine StoreV.mem hm.drew (i:=1) rfl Js rfl fun w4 hm=>zw ?_;refine StoreV.mem hm (i:=0) rfl Js rfl fun w5 hm=>zw ?_;refine qaa (R:=fun v w'=>v=.tuple #[.string ⟨#[]⟩,.bool false]∧Ext w w') (zw ?_);refine zr hm 1 ?_;refine zr hm 0 ?_;exact ⟨rfl,hm.ext⟩
 have hm:=hm.drew;refine zr hm 2 ?_;refine zv ?_;refine zcv (qxb b (i/16) w3.drew) ?_;rintro v w4 ⟨⟨b1,b2,rfl,hb1,hb2⟩,he4⟩;have hm:=hm.call he4;have hD4:=h.ext hm.ext;(conv=>whnf);obtain ⟨n,hn⟩:=BEnd.ex m (i/16);have hn16:=hn.le;have hki:i/16<upN (dN m) 16:=by unfold upN;omega
 have hlen:((List.range n).map (bRow m (i/16))).length=n:=by simp
 refine q4g (Φ:=BlkΦ b m (i/16) b1 b2) (lb:=[pp b1,pp b2]) (xs:=(List.range n).map (bRow m (i/16))) rfl Ok (qn3 b m (i/16) n b1 b2 hki hn).toC Od ?_
  (fun k X w'=>∃ _:Unit,k≤i%16∧Mem w4 w' (X++[]))
  (fun c k X w'=>∃ _:Unit,(c=.ret∧k=i%16)∧Mem w w' (X++[(bb,.cells #[.bool true] 4),(bs,.cells #[.string ⟨(blk (qd m) (qz m (i/16)) (i%16)).1.toArray⟩] 9),(bi,.cells #[ii i] 3)]))
  (fun k=>Carr.mem _ _) (fun c k=>Carr.mem _ _) (fun k X w' ⟨_,_,hm⟩=>⟨hD4.ext hm.ext,hm.ext.cell hb1,hm.ext.cell hb2⟩) ⟨(),Nat.zero_le _,by simpa using Mem.nil w4⟩ ?_ ?_ ?_
 ·intro x hx;obtain ⟨j,_,rfl⟩:=List.mem_map.1 hx;rfl
 ·rintro l D ob k x X w5 w6 hx ⟨_,hk,hmJ⟩;have hkn:k<n:=by
   have:=(List.getElem?_eq_some_iff.1 hx).1
   rwa [hlen] at this
  rw [List.getElem?_map,List.getElem?_range hkn,Option.map_some,Option.some.injEq] at hx;subst hx;have hm:=hm.glue2 hmJ;(conv=>whnf);refine ⟨rfl,rfl,?_⟩;(conv=>whnf);refine zr hm 2 ?_;refine zC (fun _=>zw ?_) (fun _=>zw ?_)
  ·obtain rfl:k=i%16:=by omega
   refine StoreV.mem hm (i:=1) rfl Js rfl fun w7 hm=>zw ?_;refine StoreV.mem hm (i:=0) rfl Js rfl ?_;intro w8 hm;rw [List.append_nil] at hm;(conv=>whnf);exact ⟨(),⟨rfl,rfl⟩,hm.perm List.perm_append_comm⟩
  ·exact ⟨(),by omega,hmJ⟩
 ·rintro D w5 ⟨_,hk,hmJ⟩;rw [hlen] at hk;have hm:=hm.glue hmJ;have hg:qi7 m i=.tuple #[.string ⟨#[]⟩,.bool false]:=by
   have hst:=hn.stop;have hne:(blk (qd m) (qz m (i/16)) (i%16)).2.2≠0:=by
    have h1:=hst Oo Oo;rw [q1p h1 (i:=i%16) Oo];exact h1
   rw [qi7,dGet,if_pos Oo,if_neg hne]
  rw [hg];(conv=>whnf);refine StoreV.mem hm (i:=2) rfl Js rfl fun w6 hm=>zw ?_;refine StoreV.mem hm (i:=1) rfl Js rfl fun w7 hm=>zw ?_;refine LeaveV.mark (hm.get mh) fun w8 hw=>?_;have hm:=hm.setO (i:=0) _ rfl hw;(conv=>whnf);refine qaa (R:=fun v w'=>v=.tuple #[.string ⟨#[]⟩,.bool false]∧Ext w w') (zw ?_);refine zr hm 2 ?_;refine zr hm 1 ?_;exact ⟨rfl,hm.ext⟩
 ·rintro D c k w5 hkl ⟨_,⟨rfl,rfl⟩,hm⟩;rw [hlen] at hkl;have hg:qi7 m i=.tuple #[.string ⟨(blk (qd m) (qz m (i/16)) (i%16)).1.toArray⟩,.bool true]:=by
   rw [qi7,dGet,if_pos Oo,if_pos (hn.ok _ hkl).2]
  rw [hg];(conv=>whnf);refine LeaveV.mark (hm.get mh) fun w8 hw=>?_;have hm:=hm.setO (i:=0) _ rfl hw;(conv=>whnf);refine qaa (R:=fun v w'=>v=.tuple #[.string ⟨(blk (qd m) (qz m (i/16)) (i%16)).1.toArray⟩,.bool true]∧Ext w w') (zw ?_);refine zr hm 2 ?_;refine zr hm 1 ?_;exact ⟨rfl,hm.ext⟩
theorem qzd {l:LB} {k most:Nat} (h:(numE l k most).2=0):vNum l k≤most:=by
 unfold numE at h
 split at h
 ·rename_i g;exact absurd h g
 ·split at h
  ·cases h
  ·omega
theorem qu9 (a b:ByteArray) (w:World) (ha:a.size≤4194304) :
  Gv Tryz.prog 124 [.string a,.string b] w fun r w'=>r=ii (comL a.data.toList b.data.toList)∧Ext w w':=by
 have la:a.data.toList.length=a.size:=rfl;have lb:b.data.toList.length=b.size:=rfl;refine ze Tryz.func124 Tryz.ntmps124 ?_;refine qe (fun i:Nat=>[(0,.string a),(1,.string b),(5,ii i)]) (fun i w'=>i≤a.size∧i≤b.size∧(∀ j,j<i→a.data.toList[j]?=b.data.toList[j]?)∧Ext w w') (fun i=>a.size-i) 0 ⟨rfl,rfl,rfl,trivial⟩ ⟨Nat.zero_le _,Nat.zero_le _,fun j h=>by omega,xr⟩ ?_;rintro i w1 ρ' ⟨i1,i2,i3,he⟩;(conv=>whnf);refine zy ?_
 (repeat' (first|refine zp ?_|refine zC (fun _=>zw ?_) (fun _=>zw ?_)))
 all_goals first
  | exact ⟨i+1,⟨rfl,rfl,rfl,trivial⟩,⟨by omega,by omega,fun j hj=>by
    by_cases e:j=i
    ·subst e;rw [qej Oo,qej Oo];exact congrArg some (UInt8.toNat_inj.1 Oo)
    ·exact i3 j Oo,he.drew⟩,by omega⟩
  | exact ⟨by rw [qi5 i3 Oo Oo fun g1 g2=>by omega],he.drew⟩
  | (refine ⟨?_,he.drew⟩;rw [qi5 i3 Oo Oo fun g1 g2=>by
    rw [qej Oo,qej Oo];intro e;have:=congrArg UInt8.toNat (Option.some.inj e);omega])
theorem V.Rw.slAt {α:Type} {f:α→Value} {enc:α→List Value} {w0 w:World} {A:oA} {n c:Nat} {e:TypeId} {l:List α} {L:List (Nat × Obj)} (he:∀ x,enc x=[f x]) (h:Rw w0 w (.slice A n c) e 1 n (l.map f) L) (hn:l.length=n):SlAt enc 1 w A l:=by
 refine ⟨fun hne=>?_⟩;obtain ⟨g,rfl,_,_,_,hc⟩:=h.cells (by rw [← hn];exact List.length_pos_iff.2 hne);refine ⟨g,0,rfl,fun j x hx k v hv=>?_⟩;rw [he] at hv;cases k with
 | succ k=>simp at hv
 | zero=>
  simp only [List.getElem?_cons_zero,Option.some.injEq] at hv;subst hv;have:=hc j (f x) (by rw [List.getElem?_map,hx];rfl)
  simpa using this
theorem qsa (xs:List Nat) (A:oA) (n c:Nat) (w:World) (hS:SlAt encU 1 w A xs) (hn:xs.length=n) (hx:∀ x∈xs,x<18446744073709551616) (hb:n≤4194304) :
  Gv Tryz.prog 80 [.slice A n c] w fun r w'=>r=ii (wMx xs n)∧w'=w:=by
 refine ze Tryz.func80 Tryz.ntmps80 ?_;refine qe (fun x:Nat × Nat=>[(0,.slice A n c),(3,ii x.2),(4,ii x.1)]) (fun x w'=>x.1≤n∧x.2≤64∧x.2=wMx xs x.1∧w'=w) (fun x=>n-x.1) (0,0) ⟨rfl,rfl,rfl,trivial⟩ ⟨Nat.zero_le _,by simp,rfl,rfl⟩ ?_;rintro ⟨i,m⟩ w1 ρ' ⟨i1,m1,m2,rfl⟩;dsimp only at i1 m1 m2 ⊢;(conv=>whnf);refine zC (fun _=>zw ?_) (fun _=>zw ?_)
 ·refine ElemV.sl hS hn i rfl Oo ?_;intro b off hc;(conv=>whnf);refine LoadV.cell0 hc (zw ?_);have hxi:=hx _ (List.getElem_mem (l:=xs) (n:=i) Oo);refine zcv (qhv xs[i] _ hxi) ?_;rintro r w2 ⟨rfl,rfl⟩;have hw:=qcl 64 xs[i] (by simpa using hxi) Od;(conv=>whnf);refine V.Fall.max2 rfl rfl rfl fun q hq=>?_;obtain ⟨q',rfl⟩:∃ q':Nat,q=(q':Int):=⟨q.toNat,by omega⟩
  refine zu ?_;have hq2:q'=wMx xs (i+1):=by
   rw [wMx,List.getD_eq_getElem?_getD,zge Oo,Option.getD_some,← m2];omega
  exact ⟨(i+1,q'),⟨rfl,rfl,rfl,trivial⟩,⟨by simp only;omega,by simp only;omega,hq2,rfl⟩,by simp only;omega⟩
 ·obtain rfl:i=n:=by omega
  exact ⟨by rw [m2],rfl⟩
def encO (b:Bool):List Value:=[.bool b]
theorem q83:Tryz.prog.underlying 149=some (.slice 4):=Tryz.underlying149
theorem booI:Tryz.prog.info? 4=some ((Tryz.prog.info? 4).get Ok):=(Option.some_get _).symm
theorem booZ:((Tryz.prog.info? 4).get Ok).zero=some (.bool false):=by kernel_rfl
theorem q0w:Tryz.prog.underlying 148=some (.slice 125):=Tryz.underlying148
theorem u64I:Tryz.prog.info? 125=some ((Tryz.prog.info? 125).get Ok):=(Option.some_get _).symm
theorem u64Z:((Tryz.prog.info? 125).get Ok).zero=some (.int .u64 0):=by kernel_rfl
theorem qx3 {f:Nat→Nat × Nat} {b:Nat} (h:∀ k,(f k).1≤b):∀ n,(errF f n).1≤b
 | 0=>Nat.zero_le _
 | n+1=>by
  rw [errF]
  split
  ·exact qx3 h n
  ·exact h n
theorem qvo (l:LB) (k most:Nat):(numE l k most).1≤l.length:=by
 unfold numE
 split
 ·exact qlm l k
 ·split
  ·exact qlm l k
  ·exact Nat.zero_le _
theorem q85 (m:LB):(dE m).1≤m.length:=by
 unfold dE
 split
 ·exact qx3 (fun k=>qvo m k _) 2
 ·split
  ·exact Nat.le_refl _
  ·split
   ·simp only;omega
   ·exact Nat.zero_le _
theorem qja (a b:LB):escL (a++b)=escL a++escL b:=by
 induction a with
 | nil=>rfl
 | cons c r ih=>
  by_cases h:c=0
  ·subst h;rw [List.cons_append,qf7,qf7,ih];rfl
  ·rw [List.cons_append,qe5 _ h,qe5 _ h,ih];rfl
theorem AppV.byt {w0 w:World} {A:oA} {cc nb:Nat} {x:LB} {c:UInt8} {L:List (Nat × Obj)} {ty:TypeId} {K:Value→World→Prop}
  (h:Rw w0 w (.slice A x.length cc) 5 1 x.length (byV x) ((nb,.cells #[.int .u8 c.toNat] 5)::L)) (hn:x.length+1≤8000000000000)
  (hk:∀ A' c' w',Rw w0 w' (.slice A' (x++[c]).length c') 5 1 (x++[c]).length (byV (x++[c])) L→K (.slice A' (x++[c]).length c') w'):AppV Tryz.prog #[60,60] ty (.slice A x.length cc) (.slice (some ⟨nb,0,none⟩) 1 1) w K:=by
 have el:(x++[c]).length=x.length+1:=by simp
 have ev:byV (x++[c])=byV x++[.int .u8 c.toNat]:=by simp [byV]
 refine AppV.one qbf bytI bytZ Ok rfl (by decide +kernel) h rfl hn fun A' c' w' hR=>?_;have:=hk A' c' w';rw [el,ev] at this;exact this hR
theorem AppV.byt2 {w0 w:World} {A:oA} {cc nb:Nat} {x:LB} {L:List (Nat × Obj)} {ty:TypeId} {K:Value→World→Prop}
  (h:Rw w0 w (.slice A x.length cc) 5 1 x.length (byV x) ((nb,.cells #[.int .u8 0,.int .u8 0] 5)::L)) (hn:x.length+2≤8000000000000)
  (hk:∀ A' c' w',Rw w0 w' (.slice A' (x++[0,0]).length c') 5 1 (x++[0,0]).length (byV (x++[0,0])) L→K (.slice A' (x++[0,0]).length c') w'):AppV Tryz.prog #[60,60] ty (.slice A x.length cc) (.slice (some ⟨nb,0,none⟩) 2 2) w K:=by
 refine AppV.rwB (m:=[0,0]) qbf bytI bytZ Ok rfl (by decide +kernel) h ⟨fun _=>⟨nb,0,rfl,fun j y hj k u hu=>?_⟩⟩ Ys (fun A' c' w' hR=>hk A' c' w' hR.tail);cases k with
 | succ k=>simp [encB] at hu
 | zero=>
  simp only [encB,List.getElem?_cons_zero,Option.some.injEq] at hu;subst hu;rw [qa (h.mem.get mh)]
  match j with
  | 0=>cases hj;rfl
  | 1=>cases hj;rfl
  | j+2=>simp at hj
theorem AppV.str {w0 w:World} {A:oA} {cc:Nat} {x:LB} {s:ByteArray} {L:List (Nat × Obj)} {ty:TypeId} {K:Value→World→Prop}
  (h:Rw w0 w (.slice A x.length cc) 5 1 x.length (byV x) L) (hL:qkq 5 L) (hn:x.length+s.size≤8000000000000)
  (hk:∀ A' c' w',Rw w0 w' (.slice A' (x++s.data.toList).length c') 5 1 (x++s.data.toList).length (byV (x++s.data.toList)) L→K (.slice A' (x++s.data.toList).length c') w'):AppV Tryz.prog #[60,9] ty (.slice A x.length cc) (.string s) w K:=by
 have el:(x++s.data.toList).length=x.length+s.size:=by rw [zla];rfl
 have ev:byV (x++s.data.toList)=byV x++byteCells s.data.toList:=by simp [byV,byteCells]
 refine AppV.rwS qbf Tryz.underlying9 bytI bytZ Ok Ok h hL Oo fun v' w' hR=>?_;obtain ⟨A',c',rfl⟩:=hR.slice;have:=hk A' c' w';rw [el,ev] at this;exact this hR
theorem qy5 {t:TM} (hz:qas t=0) (hk3:t.kind=3):t.text.size≤65536∧t.type.size≤65536∧t.lang.size≤65536:=by
 rw [qas,if_neg Oo,if_pos hk3,litE] at hz
 by_cases h:65536<t.text.size
 ·rw [if_pos h] at hz;cases hz
 rw [if_neg h] at hz
 by_cases h1:scal t.text.data.toList=none
 ·rw [if_pos h1] at hz;cases hz
 rw [if_neg h1] at hz
 by_cases h2:iriE t.type≠0
 ·rw [if_pos h2] at hz;exact absurd hz h2
 rw [if_neg h2] at hz;refine ⟨by omega,?_,?_⟩
 ·have h3:iriE t.type=0:=by omega
  unfold iriE at h3
  by_cases h0:refE t.type≠0
  ·rw [if_pos h0] at h3;exact absurd h3 h0
  ·have h4:refE t.type=0:=by omega
   unfold refE at h4
   by_cases h5:65536<t.type.size
   ·rw [if_pos h5] at h4;cases h4
   ·omega
 ·by_cases h6:65536<t.lang.size
  ·have h7:seq t.lang ⟨#[]⟩=false:=by
    cases h8:seq t.lang ⟨#[]⟩
    ·rfl
    ·rw [qao.1 h8] at h6;exact absurd h6 Od
   rw [if_pos ⟨h7,h6⟩] at hz;cases hz
  ·omega
theorem qql (t:TM) (ht:TermOk t) (w:World):Gv Tryz.prog 73 [qbq t] w fun r w'=>r=(if qas t=0 then .tuple #[.string ⟨(qbv t).toArray⟩,ii 0] else .tuple #[.string ⟨#[]⟩,ii (qas t)])∧Ext w w':=by
 refine ze Tryz.func73 Tryz.ntmps73 ?_;refine znm (Mem.nil w) ?_;intro tb w1 hm;have hm:Mem w w1 [(tb,.cells #[ii t.kind,.string t.text,.string t.type,.string t.lang] 24)]:=hm;(conv=>whnf);refine zl hm 0 ?_;refine zcv (qaz t ht w1) ?_;rintro r w2 ⟨rfl,he2⟩;have hm:=hm.call he2;obtain ⟨e,ee⟩:∃ e,e=qas t:=⟨_,rfl⟩
 rw [← ee];conv=>whnf
 (repeat' (first|refine zC (fun _=>zw ?_) (fun _=>zw ?_)|refine LoadV.mem (i:=0) Oa rfl rfl (zw ?_)))
 ·rw [if_neg Oo];exact ⟨rfl,hm.ext⟩
 rw [if_pos Oo]
 ·have h1:qbv t=t.text.data.toList:=by rw [qbv,if_neg Oa]
  rw [h1];exact ⟨rfl,hm.ext⟩
 have hk3:t.kind=3:=by omega
 have hbl:t.text.data.toList.length=t.text.size:=rfl;obtain ⟨htx,hty,htl⟩:=qy5 (show qas t=0 by omega) hk3;refine qe (fun x:Nat × LB × oA × Nat=>[(1,pp tb),(5,.slice x.2.2.1 x.2.1.length x.2.2.2),(6,ii x.1)])
  (fun x w'=>x.1≤t.text.size∧x.2.1=escL (t.text.data.toList.take x.1)∧Rw w w' (.slice x.2.2.1 x.2.1.length x.2.2.2) 5 1 x.2.1.length (byV x.2.1) [(tb,.cells #[ii t.kind,.string t.text,.string t.type,.string t.lang] 24)]) (fun x=>t.text.size-x.1) (0,[],none,0)
  ⟨rfl,rfl,rfl,trivial⟩ ⟨Nat.zero_le _,rfl,Rw.nil hm⟩ ?_
 clear hm;rintro ⟨i,x,A,c⟩ w3 ρ' ⟨i1,hx,hR⟩;dsimp only at i1 hx hR ⊢;have hxl:=qs8 (t.text.data.toList.take i);rw [← hx,List.length_take] at hxl;have hm:=hR.mem;conv=>whnf
 (repeat' (first|refine zp ?_|refine zC (fun _=>zw ?_) (fun _=>zw ?_)|refine LoadV.mem (i:=0) Oa rfl rfl (zw ?_)))
 ·have hgb:t.text.data.toList.take (i+1)=t.text.data.toList.take i++[gb t.text i]:=by
   rw [List.take_add_one,zge Oo,gb,List.getD_eq_getElem?_getD,zge Oo];rfl
  refine NewV.rw hR fun nb w4 hR=>zw ?_;refine AppV.byt (c:=gb t.text i) hR Oo ?_;clear hR;intro B d w5 hR;have hm:=hR.mem;(conv=>whnf);refine LoadV.mem (i:=0) Oa rfl rfl (zw ?_);refine zt ?_;refine zC (fun _=>zu ?_) (fun _=>zu ?_)
  ·refine NewV.rw hR fun nb w6 hR=>zw ?_;refine AppV.byt (c:=1) hR (by rw [zla];simp;omega) ?_;clear hR;intro B2 d2 w7 hR;refine zu ?_;refine ⟨(i+1,x++[gb t.text i]++[1],B2,d2),⟨rfl,rfl,rfl,trivial⟩,⟨by simp only;omega,?_,hR⟩,by simp only;omega⟩;have h0:gb t.text i=0:=UInt8.toNat.inj (by rw [show (0:UInt8).toNat=0 from rfl];omega);simp only;rw [hgb,qja,hx,h0,qf7];simp [escL]
  ·refine ⟨(i+1,x++[gb t.text i],B,d),⟨rfl,rfl,rfl,trivial⟩,⟨by simp only;omega,?_,hR⟩,by simp only;omega⟩;have h0:gb t.text i≠0:=fun h=>by
    have:(gb t.text i).toNat=0:=by rw [h];rfl
    omega
   simp only;rw [hgb,qja,hx,qe5 _ h0];simp [escL]
 obtain rfl:i=t.text.size:=by omega
 rw [List.take_of_length_le Oo] at hx;have hN:qkq 5 [(tb,Obj.cells #[ii t.kind,.string t.text,.string t.type,.string t.lang] 24)]:=by
  intro y hy c fz h;simp at hy;subst hy;simp at h
 refine NewV.rw hR fun nb w4 hR=>zw ?_;refine AppV.byt2 hR Oo ?_;clear hR;intro B d w5 hR;have hm:=hR.mem;(conv=>whnf);refine LoadV.mem (i:=0) Oa rfl rfl (zw ?_);refine AppV.str hR hN (by rw [zla];simp;omega) ?_;clear hR;intro B d w6 hR;(conv=>whnf);refine NewV.rw hR fun nb w7 hR=>zw ?_;refine AppV.byt (c:=0) hR (by rw [zla,zla,show t.type.data.toList.length=t.type.size from rfl];simp;omega) ?_;clear hR;intro B d w8 hR;have hm:=hR.mem;(conv=>whnf);refine LoadV.mem (i:=0) Oa rfl rfl (zw ?_);refine AppV.str hR hN (by simp only [zla];rw [show t.type.data.toList.length=t.type.size from rfl];simp;omega) ?_;clear hR;intro B d w9 hR;(conv=>whnf);have hB:SlAt encB 1 w9 B (x++[0,0]++t.type.data.toList++[0]++t.lang.data.toList):=V.Rw.slAt (f:=fun c:UInt8=>Value.int .u8 c.toNat) (fun _=>rfl) hR rfl;refine BytesS.sl hB rfl (zw ?_);have hent:qbv t=x++[0,0]++t.type.data.toList++[0]++t.lang.data.toList:=by
  rw [qbv,if_pos hk3,hx];simp
 rw [hent,if_pos Oo];exact ⟨rfl,hR.mem.ext⟩
theorem qqr (w:World):Gv Tryz.prog 72 [] w fun r w'=>r=.agg #[ii 1,ii 2,ii 3]∧Ext w w':=by
 refine ze Tryz.func72 Tryz.ntmps72 ?_;refine znm (Mem.nil w) fun r0 w1 hm=>zw ?_;refine zS hm 0 fun w2 hm=>zw ?_;refine qaa (R:=fun r w'=>r=.agg #[ii 1,ii 2,ii 3]∧Ext w w') (zw ?_);refine zl hm 0 ?_;exact ⟨rfl,hm.ext⟩
theorem q4i {l:LB} {k:Nat} (h:∀ j,j<k→(vsF l j).2=0) (hk:k<3) (he:(vsF l k).2≠0):sE l=vsF l k:=by
 have:=qmh (f:=vsF l) h hk he;rw [sE,this,if_pos he]
theorem q7y:Tryz.prog.underlying 99=some (.slice 101):=Tryz.underlying99
theorem idsI:Tryz.prog.info? 101=some ((Tryz.prog.info? 101).get Ok):=(Option.some_get _).symm
theorem idsZ:((Tryz.prog.info? 101).get Ok).zero=some ((((Tryz.prog.info? 101).get Ok).zero).get Ok):=(Option.some_get _).symm
structure Al (w0:World) (L:List (Nat × Obj)) (o1 o1' o2 o2':Obj) (s1 s2 t1 t2:Bool) (v1 v2:Value) (w:World):Prop where
 h:∃ b1 b2:Nat,(s1=true→v1=pp b1)∧(s2=true→v2=pp b2)∧(s1=false→t1=false)∧(s2=false→t2=false)∧
  Mem w0 w ((bif s1 then [(b1,bif t1 then o1' else o1)] else [])++((bif s2 then [(b2,bif t2 then o2' else o2)] else [])++L))
section
variable {w0 w w':World} {L:List (Nat × Obj)} {o1 o1' o2 o2':Obj} {s1 s2 t1 t2:Bool} {v1 v2:Value}
theorem Al.start (h:Mem w0 w L):Al w0 L o1 o1' o2 o2' false false false false v1 v2 w:=⟨0,0,fun h=>(by cases h),fun h=>(by cases h),fun _=>rfl,fun _=>rfl,h⟩
theorem Al.mem (h:Al w0 L o1 o1' o2 o2' s1 s2 t1 t2 v1 v2 w):Mem w0 w L:=by
 obtain ⟨b1,b2,h1,h2,h3,h4,h5⟩:=h;exact h5.sub ((List.sublist_append_right _ _).trans (List.sublist_append_right _ _))
theorem Al.new1 (h:Al w0 L o1 o1' o2 o2' false s2 t1 t2 v1 v2 w):Al w0 L o1 o1' o2 o2' true s2 t1 t2 (.pointer (some ⟨w.heap.size,0,none⟩)) v2 (w.alloc o1):=by
 obtain ⟨b1,b2,h1,h2,h3,h4,h5⟩:=h;refine ⟨w.heap.size,b2,fun _=>rfl,h2,fun h=>(by cases h),h4,?_⟩;rw [h3 rfl];exact h5.new rfl rfl
theorem Al.put1 (h:Al w0 L o1 o1' o2 o2' true s2 false t2 v1 v2 w):∃ b,v1=pp b∧∃ M,Mem w0 w ((b,o1)::M)∧∀ {w' u1},Mem w0 w' ((b,o1')::M)→u1=pp b→Al w0 L o1 o1' o2 o2' true s2 true t2 u1 v2 w':=by
 obtain ⟨b1,b2,h1,h2,h3,h4,h5⟩:=h;exact ⟨b1,h1 rfl,_,h5,fun hm hu=>⟨b1,b2,fun _=>hu,h2,fun h=>(by cases h),h4,hm⟩⟩
theorem Al.done1 (h:Al w0 L o1 o1' o2 o2' true false true t2 v1 v2 w):∃ b1,v1=pp b1∧Mem w0 w ((b1,o1')::L):=by
 obtain ⟨b1,b2,h1,h2,h3,h4,h5⟩:=h;exact ⟨b1,h1 rfl,h5⟩
end
theorem LoadV.fim {w0 w:World} {L:List (Nat × Obj)} {b off n:Nat} {F:Nat→Int} {t:TypeId} {x:Int} {K:Value→Prop} (h:Mem w0 w L) (hi:(b,Obj.cells (fnA n (inF F)) t)∈L) (j:Nat) (e:off=j) (hj:j<n) (hv:F j=x) (hk:K (ii x)):LoadV w b off K:=by
 obtain ⟨i,hi⟩:=List.getElem?_of_mem hi;exact LoadV.fi h hi j e hj hv hk
theorem qpm {l:LB} (h:qm l 3=l.length) {k:Nat} (hk:k<3):qm l k+vNum l k≤l.length:=by
 have e1:qm l 1=qm l 0+vNum l 0:=rfl;have e2:qm l 2=qm l 1+vNum l 1:=rfl;have e3:qm l 3=qm l 2+vNum l 2:=rfl
 rcases (show k=0∨k=1∨k=2 by omega) with rfl|rfl|rfl<;>omega
theorem q0d {l:LB} (h:qm l 3=l.length) {k:Nat} (hk:k<3):(sDict l k).length=vNum l k:=by
 have:=qpm h hk;rw [sDict,List.length_take,zld];omega
namespace V
theorem StoreA.row {P:Program} {w0 w:World} {L:List (Nat × Obj)} {i b off:Nat} {cur:Array Value} {t:TypeId} {vs:List Value} {K:World→Prop} (h:Mem w0 w L)
  (hi:L[i]?=some (b,.cells cur t)) (hl:off+vs.length≤cur.size) (h1:∀ v∈vs,v.oneCell'=true)
  (hk:∀ w',(∀ c,c≠b→w'.heap[c]?=w.heap[c]?)→w.heap.size≤w'.heap.size→Mem w0 w' (L.set i (b,.cells (cur.toList.take off++vs++cur.toList.drop (off+vs.length)).toArray t))→K w'):StoreA P w b off vs K:=by
 have hm:(b,Obj.cells cur t)∈L:=zmg hi;have hg:=h.get hm;have hr:=run_storeCells_at P b off t vs 0 cur w hg (by simpa using hl) h1;simp only [Nat.add_zero] at hr;refine ⟨_,hr,hk _ (fun c hc=>qu hc) (by simp [World.setRow]) ?_⟩;refine h.set hi ?_ (qcq hg) (fun c hc=>qu hc);exact Below.trans h.ext ⟨rfl,rfl,rfl,by simp [World.setRow],fun k hk=>qu (by have:=(h.own _ hm).1;simp only at this;omega)⟩
structure Er (w0:World) (L:List (Nat × Obj)) (o:Obj) (m1 m2 m3:Nat→Value) (c1 c2 c3:Bool) (v1 v2 v3:Value) (w:World):Prop where
 h:(c1=false∧c2=false∧c3=false∧Mem w0 w L)∨(c1=true∧∃ b,v1=m1 b∧(c2=true→v2=m2 b)∧(c3=true→v3=m3 b)∧Mem w0 w ((b,o)::L))
section
variable {w0 w w':World} {L L':List (Nat × Obj)} {o:Obj} {m1 m2 m3:Nat→Value} {c1 c2 c3:Bool} {v1 v2 v3:Value}
theorem Er.start (h:Mem w0 w L):Er w0 L o m1 m2 m3 false false false v1 v2 v3 w:=⟨.inl ⟨rfl,rfl,rfl,h⟩⟩
theorem Er.mem (h:Er w0 L o m1 m2 m3 c1 c2 c3 v1 v2 v3 w):Mem w0 w L:=by
 rcases h.h with ⟨_,_,_,h⟩|⟨_,b,_,_,_,h⟩
 ·exact h
 ·exact h.sub (List.sublist_cons_self ..)
theorem Er.made (h:Er w0 L o m1 m2 m3 false c2 c3 v1 v2 v3 w) {b:Nat} (he:Ext w w') (hb:w.heap.size≤b) (ho:w'.heap[b]?=some o):Er w0 L o m1 m2 m3 true c2 c3 (m1 b) v2 v3 w':=by
 rcases h.h with ⟨_,h2,h3,hm⟩|⟨h1,_⟩
 ·exact ⟨.inr ⟨rfl,b,rfl,fun h=>(by rw [h2] at h;cases h),fun h=>(by rw [h3] at h;cases h),hm.fresh he hb ho⟩⟩
 ·cases h1
theorem Er.alloc (h:Er w0 L o m1 m2 m3 false c2 c3 v1 v2 v3 w):Er w0 L o m1 m2 m3 true c2 c3 (m1 w.heap.size) v2 v3 (w.alloc o):=
 h.made ((Ext.refl w).alloc o) znr (heap_alloc_new w o)
theorem Er.see (h:Er w0 L o m1 m2 m3 true c2 c3 v1 v2 v3 w):∃ b,v1=m1 b∧Er w0 L o m1 m2 m3 true true c3 (m1 b) (m2 b) v3 w∧Er w0 L o m1 m2 m3 true c2 true (m1 b) v2 (m3 b) w:=by
 rcases h.h with ⟨h1,_⟩|⟨_,b,h2,h3,h4,h⟩
 ·cases h1
 ·exact ⟨b,h2,⟨.inr ⟨rfl,b,rfl,fun _=>rfl,h4,h⟩⟩,⟨.inr ⟨rfl,b,rfl,h3,fun _=>rfl,h⟩⟩⟩
theorem Er.see2 (h:Er w0 L o m1 m2 m3 c1 true c3 v1 v2 v3 w):∃ b,v2=m2 b∧Er w0 L o m1 m2 m3 c1 true true v1 (m2 b) (m3 b) w:=by
 rcases h.h with ⟨_,h1,_⟩|⟨h0,b,h2,h3,h4,h⟩
 ·cases h1
 ·exact ⟨b,h3 rfl,⟨.inr ⟨h0,b,h2,fun _=>rfl,fun _=>rfl,h⟩⟩⟩
theorem Er.store {P:Program} {K:World→Prop} {i b:Nat} {cur:Array Value} {t:TypeId} {vs:List Value} (h:Er w0 L o m1 m2 m3 c1 c2 c3 v1 v2 v3 w) (hi:L[i]?=some (b,.cells cur t))
  (hl:cur.size=vs.length) (hv:∀ v∈vs,v.oneCell'=true) (hL:L.set i (b,.cells vs.toArray t)=L') (hk:∀ w',(∀ c,c≠b→w'.heap[c]?=w.heap[c]?)→Er w0 L' o m1 m2 m3 c1 c2 c3 v1 v2 v3 w'→K w'):StoreA P w b 0 vs K:=by
 subst hL;have e:(cur.toList.take 0++vs++cur.toList.drop (0+vs.length)).toArray=vs.toArray:=by
  rw [List.take_zero,List.nil_append,List.drop_eq_nil_of_le Ys,List.append_nil]
 rcases h.h with ⟨h1,h2,h3,h⟩|⟨h1,x,h2,h3,h4,h⟩
 ·refine StoreA.row h hi Oo hv fun w' hf _ hm=>hk w' hf ⟨.inl ⟨h1,h2,h3,?_⟩⟩
  rwa [e] at hm
 ·refine StoreA.row h (i:=i+1) hi Oo hv fun w' hf _ hm=>hk w' hf ⟨.inr ⟨h1,x,h2,h3,h4,?_⟩⟩;rw [e] at hm;exact hm
theorem Er.done (h:Er w0 L o m1 m2 m3 true c2 true v1 v2 v3 w):∃ b,v1=m1 b∧v3=m3 b∧Mem w0 w ((b,o)::L):=by
 rcases h.h with ⟨h1,_⟩|⟨_,b,h2,_,h4,h⟩
 ·cases h1
 ·exact ⟨b,h2,h4 rfl,h⟩
end
theorem StoreV.row {w0 w:World} {L:List (Nat × Obj)} {i b off:Nat} {cs:Array Value} {t:TypeId} {v:Value} {K:World→Prop} (h:Mem w0 w L) (hi:L[i]?=some (b,.cells cs t))
  (ho:off<cs.size) (h1:qbz v=true) (hk:∀ w',(∀ c,c≠b→w'.heap[c]?=w.heap[c]?)→w.heap.size≤w'.heap.size→Mem w0 w' (L.set i (b,.cells (cs.setIfInBounds off v) t))→K w'):StoreV w b off v K:=
 StoreV.own (h.get (zmg hi)) ho h1 fun w' hw=>hk w' (fun c hc=>by subst hw;exact Below.heap_setCell _ _ _ _ hc) (by subst hw;simp [World.setCell]) (h.setCell hi hw)
theorem CellsAt.other {w w':World} {x b off:Nat} {vs:List Value} (h:CellsAt w b off vs) (hb:b≠x) (hw:∀ c,c≠x→w'.heap[c]?=w.heap[c]?):CellsAt w' b off vs:=by
 intro k v hv;have:=h k v hv;unfold World.cell? at this ⊢;simp only at this ⊢;rw [hw b hb];exact this
theorem SlAt.other {α:Type} {enc:α→List Value} {size:Nat} {w w':World} {A:oA} {l:List α} {x:Nat} {cs:Array Value} {t:TypeId} {fz:Nat × Nat} (h:SlAt enc size w A l) (hx:w.heap[x]?=some (.cells cs t fz))
  (hne:∀ y∈l,∀ v∈cs.toList,(enc y)[0]?≠some v) (hen:∀ y∈l,enc y≠[]) (hw:∀ c,c≠x→w'.heap[c]?=w.heap[c]?):SlAt enc size w' A l:=by
 refine ⟨fun hn=>?_⟩;obtain ⟨b,off,h1,h2⟩:=h.at_ hn;refine ⟨b,off,h1,fun j y hy=>(h2 j y hy).other ?_ hw⟩;intro hbx;subst hbx;have hy':y∈l:=zmg hy;obtain ⟨v,hv⟩:∃ v,(enc y)[0]?=some v:=by
  cases he:enc y with
  | nil=>exact absurd he (hen y hy')
  | cons v r=>exact ⟨v,rfl⟩
 have h3:=h2 j y hy 0 v hv;rw [qa hx] at h3;exact hne y hy' v (Array.mem_toList_iff.2 (Array.mem_of_getElem? h3)) hv
end V
end Go.Proofs.YtacnkdagblbgfaaGreatDoor
