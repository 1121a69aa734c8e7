/- Lemmas and contracts of functions on the way to the law's card (part 6 of 16). -/
import Derived.Test.YtccmcfpmknpccaaGreatDoorSH5
import Derived.Lib.Replace
import Derived.Lib.CutLaws
import Derived.Lib.ReplaceLaws
import Derived.LaidEql
import Derived.Stop.Asserts
import Derived.RowKitTokens
import Derived.TacticsIn
import Derived.RangeFuncSeq
import Derived.RangeFuncLeaves
namespace Go.Proofs.YtccmcfpmknpccaaGreatDoor
set_option maxHeartbeats 8000000
open Go.RowKit V
set_option maxRecDepth 100000
theorem V.LoadV.cellsE {w:World} {b o off:Nat} {vs:List Value} {v:Value} {K:Value→Prop} (h:CellsAt w b o vs) (j:Nat) (e:off=o+j) (hv:vs[j]?=some v) (hk:K v):LoadV w b off K:=by
 subst e;exact LoadV.cells h j hv hk
theorem qabf {w:World} {b o off:Nat} {vs:List Value} {v:Value} (h:CellsAt w b o vs) (j:Nat) (hv:vs[j]?=some v) (e:off=o+j):w.cell? ⟨b,off,none⟩=some v:=by rw [e];exact h j v hv
theorem qge (b:Nat) (l:LB) (w:World) (h:TreeAt w b l):Gv Tryz.prog 65 [pp b] w fun r w'=>r=ii (vNum l 3)∧w'=w:=by
 obtain ⟨P3,cp3,S3,cs3,V3,hc3,hP3,hS3,hl3,hv3⟩:=(h.lv 3 Oo).h;refine ze Tryz.func65 Tryz.ntmps65 ?_;refine zJ 3 ?_;(conv=>whnf);refine LoadV.cellsE hc3 0 (by rw [lvSz];first|done|rfl) rfl (zw ?_);exact ⟨rfl,rfl⟩
def zq:Array Value:=#[ii 0,ii 0,ii 0,ii 0]
def qm0 (l:LB) (i:Nat):Value:=
 if i<vNum l 3∧tOk l i=true then .tuple #[.agg #[ii (tNum l i 0),ii (tNum l i 1),ii (tNum l i 2),ii (tNum l i 3)],.bool true] else .tuple #[.agg zq,.bool false]
theorem q4w {l:LB} {i:Nat} (h:tOk l i=true) (j:Nat) (hj:j<4):qhl l i j=true:=by
 simp only [tOk,Bool.and_eq_true] at h;obtain ⟨⟨⟨h0,h1⟩,h2⟩,h3⟩:=h
 match j,hj with
 | 0,_=>exact h0
 | 1,_=>exact h1
 | 2,_=>exact h2
 | 3,_=>exact h3
theorem q4v {l:LB} {i j:Nat} (hj:j<4) (h:¬ qhl l i j=true):qm0 l i=.tuple #[.agg zq,.bool false]:=by rw [qm0,if_neg fun hx=>h (q4w hx.2 j hj)]
def qF (l:LB) (i j x:Nat):Value:=ii (if 3<j+x then tNum l i x else 0:Nat)
theorem q9k {l:LB} {i j k:Nat} (h:k+j=3):updF (qF l i j) k (ii (tNum l i k))=qF l i (j+1):=by
 funext x
 simp only [updF,qF]
 by_cases e:x=k
 ·rw [if_pos e,if_pos Oo,e]
 ·rw [if_neg e]
  by_cases e2:3<j+x
  ·rw [if_pos e2,if_pos Oo]
  ·rw [if_neg e2,if_neg Oo]
theorem q44 (b:Nat) (l:LB) (i:Nat) (w:World) (h:TreeAt w b l) (hi:i≤1048576):Gv Tryz.prog 144 [pp b,ii i] w fun v w'=>v=qm0 l i∧Ext w w':=by
 refine ze Tryz.func144 Tryz.ntmps144 ?_;refine znm (Mem.nil w) ?_;intro rb w1 hm;have hm:Mem w w1 [(rb,.cells zq 95)]:=hm;refine zu ?_;refine zcv (qge b l w1 (h.ext hm.ext)) ?_;rintro r w2 ⟨rfl,rfl⟩;(conv=>whnf);refine zt ?_;refine zC (fun _=>zw ?_) (fun _=>zw ?_)
 ·refine StoreA.all hm (i:=0) rfl rfl Od fun w9 hm=>zw ?_;refine qj (R:=fun v w'=>v=qm0 l i∧Ext w w') (zw ?_);refine zl hm 0 ?_;exact ⟨by rw [qm0,if_neg (fun hx=>by omega)];rfl,hm.ext⟩
 have hi3:i<vNum l 3:=by omega
 refine znm hm ?_;intro qb w3 hm;have hm:Mem w w3 [(qb,.cells (fnA 4 (qF l i 0)) 95),(rb,.cells zq 95)]:=hm;(conv=>whnf);refine qm (fun j:Nat=>[(0,pp b),(1,ii (tUp l i (min j 3))),(4,pp rb),(5,.bool false),(6,pp qb),(7,ii (3-(j:Int)))])
  (fun j w'=>j≤4∧(∀ m,m<j→qhl l i m=true)∧Mem w w' [(qb,.cells (fnA 4 (qF l i j)) 95),(rb,.cells zq 95)]) (fun j=>4-j) 0 ⟨rfl,rfl,rfl,rfl,rfl,rfl,trivial⟩ ⟨by omega,fun m hm=>by omega,hm⟩ ?_
 clear hm;rintro j w4 ρ' ⟨j1,hf,hm⟩
 by_cases hj:j=4
 ·subst hj;refine zu ?_;replace hm:Mem w w4 [(qb,.cells #[ii (tNum l i 0),ii (tNum l i 1),ii (tNum l i 2),ii (tNum l i 3)] 95),(rb,.cells zq 95)]:=hm;refine zl hm 0 ?_;refine zS hm 1 fun w9 hm=>zw ?_;refine qj (R:=fun v w'=>v=qm0 l i∧Ext w w') (zw ?_);refine zl hm 1 ?_;have hok:tOk l i=true:=by rw [tOk,hf 0 Oo,hf 1 Oo,hf 2 Oo,hf 3 Oo];rfl
  exact ⟨(if_pos ⟨hi3,hok⟩).symm,hm.ext⟩
 obtain ⟨k,hk⟩:∃ k,k+j=3:=⟨3-j,by omega⟩
 obtain ⟨P,cp,S,cs,V,hc,hP,hS,hl,hv⟩:=(h.lv k Oo).h;have hn:=h.n k Oo;obtain ⟨y,ey⟩:∃ y,y=tUp l i j:=⟨_,rfl⟩
 have hfe:qhl l i j=(decide (y<vNum l k)&&(decide (j=3)||tVec l k)):=by rw [ey,show k=3-j by omega];rfl
 rw [show min j 3=j by omega,← ey];refine zu ?_;refine IdxV.at_ k Oo Oo (zw ?_);refine LoadV.cellsE (hc.ext hm.ext) 0 (by rw [lvSz];dsimp only;omega) rfl ?_;refine if hy:y<vNum l k then if hk0:k=0 then ?yk else ?yv else ?no
 case' yv=>rcases hv with ⟨hx,rfl⟩|⟨_,htv,vb,rfl,hvo⟩
 all_goals
  refine zu ?_
 case' yv.inl|yv.inr=>
  refine LoadV.cellsE (hc.ext hm.ext) 7 (by rw [lvSz];dsimp only;omega) rfl (zu ?_)
 case' no=>have hnf:¬ qhl l i j=true:=by rw [hfe,decide_eq_false hy];simp
 case' yv.inl=>have hnf:¬ qhl l i j=true:=by rw [hfe,hx.resolve_left hk0,decide_eq_false (show ¬ j=3 by omega)];simp
 case no|yv.inl=>
  refine StoreA.all hm (i:=1) rfl rfl Od fun w9 hm=>zw ?_;refine qj (R:=fun v w'=>v=qm0 l i∧Ext w w') (zw ?_);refine zl hm 1 ?_;exact ⟨by rw [q4v Oo hnf];rfl,hm.ext⟩
 all_goals
  refine zcv (qbu b _ y (tw l k) cp P (qg l k) _ (qabf (hc.ext hm.ext) 1 rfl (by rw [lvSz];dsimp only;omega)) (qabf (hc.ext hm.ext) 5 rfl (by rw [lvSz];dsimp only;omega)) (hP.ext hm.ext) (h.wd k Oo) Oo) ?_;rintro r w10 ⟨rfl,he10⟩;replace hm:=hm.call he10;(conv=>whnf);refine IdxV.at_ k Oo Oo (zw ?_);refine StoreV.fn hm (i:=0) rfl k (by rw [show tsz Tryz.prog 3=1 from by kernel_rfl];omega) Oo rfl ?_;clear hm;intro w11 hm;replace hm:Mem w w11 [(qb,.cells (fnA 4 (updF (qF l i j) k (ii (numP (qg l k) (tw l k) y)))) 95),(rb,.cells zq 95)]:=hm;rw [show numP (qg l k) (tw l k) y=tNum l i k by rw [tNum,ey,show 3-k=j by omega],q9k hk] at hm;refine zu ?_
 case' yv.inr=>
  have htv2:=htv;simp only [tVec,Bool.and_eq_true,decide_eq_true_eq] at htv2;obtain ⟨⟨hvok,hvn⟩,hvm⟩:=htv2;refine LoadV.cellsE (hc.ext hm.ext) 7 (by rw [lvSz];dsimp only;omega) rfl (zw ?_);refine zcv (qtm (qe l k) S cs vb y w11 (hS.ext hm.ext) hl hvok (by rw [hvn,hvm];exact hm.ext.get hvo) Oo) ?_;rintro r w12 ⟨rfl,he12⟩;replace hm:=hm.call he12;refine zu ?_;have e1:qff (qe l k) y=tUp l i (min (j+1) 3):=by rw [show min (j+1) 3=j+1 by omega,ey,show k=3-j by omega];rfl
  have e2:qhl l i j=true:=by rw [hfe,decide_eq_true hy,htv];simp
 case' yk=>
  have e1:y=tUp l i (min (j+1) 3):=by rw [ey,show min (j+1) 3=j by omega]
  have e2:qhl l i j=true:=by rw [hfe,decide_eq_true hy,decide_eq_true (show j=3 by omega)];rfl
 all_goals exact ⟨j+1,⟨rfl,congrArg (fun n:Nat=>ii (n:Int)) e1,rfl,rfl,rfl,congrArg (Value.int .i64) Oo,trivial⟩,⟨by omega,up hf e2,hm⟩,by omega⟩
open Go.RowKit
namespace V
def byV (l:LB):List Value:=l.map fun c=>Value.int .u8 c.toNat
theorem qas (l:LB):(byV l).length=l.length:=by simp [byV]
section
variable {P:Program} {e:TypeId} {w0 w w':World} {a b c:Value} {x y z:LB}
theorem qbp {base size n:Nat} {v:Value} {xs:List Value} (h:w.ownsRow base e size v n xs):∃ A c,v=.slice A n c:=by
 rcases h.2 with ⟨rfl,rfl⟩|⟨g,cap,cur,rfl,_⟩
 ·exact ⟨_,_,rfl⟩
 ·exact ⟨_,_,rfl⟩
theorem qr6 {A:oA} {l:LB} (h:SlAt encB 1 w A l):byV l≠[]→∃ b off,A=some ⟨b,off,none⟩∧CellsAt w b off (byV l):=by
 intro hne;obtain ⟨b,off,h1,h2⟩:=h.at_ (by rintro rfl;exact hne rfl);refine ⟨b,off,h1,fun k v hv=>?_⟩;rw [byV,List.getElem?_map] at hv;obtain ⟨u,hu,rfl⟩:=Option.map_eq_some_iff.1 hv;have:=h2 k u hu 0 (.int .u8 u.toNat) rfl
 simpa using this
theorem qte {base:Nat} {v:Value} {l:LB} (h:w.ownsRow base e 1 v l.length (byV l)):BS w v l:=by
 rcases h.2 with ⟨rfl,h0⟩|⟨g,cap,cur,rfl,h1,h2,h3,h4,h5,h6⟩
 ·have:l=[]:=List.eq_nil_of_length_eq_zero h0;subst this;exact BS.nil w
 ·refine ⟨_,cap,rfl,h3,⟨fun _=>⟨g,0,rfl,fun j u hu k v hv=>?_⟩⟩⟩;cases k with
  | succ k=>simp [encB] at hv
  | zero=>
   simp only [encB,List.getElem?_cons_zero,Option.some.injEq] at hv;subst hv;have hj:(cur.toList.take (l.length*1))[j]?=some (.int .u8 u.toNat):=by rw [h6,byV,List.getElem?_map,hu];rfl
   rw [List.getElem?_take] at hj
   split at hj
   ·rw [qa h2]
    simpa using hj
   ·cases hj
end
end V
structure LvlV (l:LB) (k:Nat):Prop where
 vec:VecOk (qe l k)
 n:vN (qe l k)=vNum l k
 m:vM (qe l k)=vNum l (k-1)
 last:0<vNum l k→bitN ((qe l k).drop 8) (vNum l k-1)=1
theorem LvlV.tvec {l:LB} {k:Nat} (h:LvlV l k):tVec l k=true:=by
 unfold tVec;rw [h.vec.ok,decide_eq_true h.n,decide_eq_true h.m];rfl
theorem LvlV.rank {l:LB} {k:Nat} (h:LvlV l k) (i:Nat) (hi:i≤vNum l k):qff (qe l k) i=cnt ((qe l k).drop 8) i:=h.vec.rank i (by rw [h.n];exact hi)
theorem LvlV.lt {l:LB} {k:Nat} (h:LvlV l k) (i:Nat) (hi:i<vNum l k):qff (qe l k) i<vNum l (k-1):=by
 rw [h.rank i Oo,← h.m,← h.vec.ones,h.n];have e:vNum l k=vNum l k-1+1:=by omega
 have h1:=h.last Oo;have h2:cnt ((qe l k).drop 8) i≤cnt ((qe l k).drop 8) (vNum l k-1):=qei Oo
 grind [cnt]
section
variable {l:LB} (hL:∀ k,1≤k→k≤3→LvlV l k) {i:Nat} (hi:i<vNum l 3)
include hL hi
theorem q6q:∀ j,j≤3→tUp l i j<vNum l (3-j)
 | 0,_=>hi
 | j+1,hj=>by
  have h:=q6q j Oo;have:=(hL (3-j) Oo Oo).lt _ h
  grind [tUp]
theorem q99:tOk l i=true:=by
 have h:=q6q hL hi;unfold tOk qhl;rw [decide_eq_true (h 0 Oo),decide_eq_true (h 1 Oo),decide_eq_true (h 2 Oo),decide_eq_true (h 3 Oo),(hL 3 Oo Oo).tvec,(hL 2 Oo Oo).tvec,(hL 1 Oo Oo).tvec];rfl
end
structure DSt (m:LB) (i:Nat) (last:LB) (p:Nat):Prop where
 le:p≤(qc m).length
 st:∀ j,i=j+1→blk (qc m) (qy m (j/16)) (j%16)=(last,p,0)
theorem DSt.step {m:LB} {i:Nat} {last:LB} {p:Nat} (h:DSt m i last p) (hp:i%16=0→qy m (i/16)=p) {first:Bool} (hf:first=decide (i%16=0))
  (he:(entG ((qc m).drop p) first last).2.2=0):DSt m (i+1) (entG ((qc m).drop p) first last).1 (p+(entG ((qc m).drop p) first last).2.1):=by
 have hlen:=(qey he).2;have hle:=h.le;rw [zld] at hlen;refine ⟨by omega,fun j hj=>?_⟩;obtain rfl:j=i:=by omega
 have hat:∀ b x,entG ((qc m).drop p) b x=entG ((qc m).drop p) first last→qew (qc m) p b x=((entG ((qc m).drop p) first last).1,p+(entG ((qc m).drop p) first last).2.1,0):=fun b x e=>by
  grind [qew]
 by_cases h0:j%16=0
 ·rw [h0,hp h0];have hf1:first=true:=by simp_all
  subst hf1;exact hat _ _ (by rfl)
 ·have hf1:first=false:=by simp_all
  subst hf1;obtain ⟨k,rfl⟩:∃ k,j=k+1:=⟨j-1,by omega⟩
  have hk:=h.st k rfl;have e1:(k+1)/16=k/16:=by omega
  have e2:(k+1)%16=k%16+1:=by omega
  grind [blk]
theorem DSt.get {m:LB} {i:Nat} {last:LB} {p:Nat} (h:DSt m (i+1) last p) (hi:i<dN m):dGet m i=some last:=by
 have:=h.st i rfl
 grind [dGet]
def gL (d:LB):Nat→LB
 | 0=>[]
 | i+1=>if i%2048=0 then gL d i++fixL (cnt d i) 4 else gL d i
def sL (d:LB):Nat→LB
 | 0=>[]
 | i+1=>if i%256=0 then sL d i++fixL (cnt d i-cnt d (2048*(i/2048))) 2 else sL d i
def mL (d:LB):Nat→LB
 | 0=>[]
 | i+1=>if bitN d i=1∧cnt d i%512=0 then mL d i++fixL i 4 else mL d i
theorem qnz (d:LB) (i:Nat):(gL d i).length=4*upN i 2048:=by
 induction i<;>grind [gL,qh,upN]
theorem qtw (d:LB) (i:Nat):(sL d i).length=2*upN i 256:=by
 induction i<;>grind [sL,qh,upN]
theorem qzj (d:LB) (i:Nat):(mL d i).length=4*upN (cnt d i) 512:=by
 induction i<;>grind [mL,cnt,upN,qh,bitN]
theorem qabn (d:LB) (i j:Nat) (hj:j<upN i 2048):((gL d i).drop (4*j)).take 4=fixL (cnt d (2048*j)) 4:=by
 induction i<;>grind [upN,qnz,gL,qh]
theorem qacs (d:LB) (i j:Nat) (hj:j<upN i 256):((sL d i).drop (2*j)).take 2=fixL (cnt d (256*j)-cnt d (2048*(j/8))) 2:=by
 induction i<;>grind [upN,qtw,sL,List.drop_left,qh]
theorem qkk (d:LB) (a b:Nat):cnt d (a+b)≤cnt d a+b:=by
 induction b<;>grind [qgm,cnt]
def vD (l:LB):LB:=(l.drop 8).take (upN (vN l) 8)
theorem qsf (l:LB) (n:Nat) (hn:n≤vN l):cnt (vD l) n=cnt (l.drop 8) n:=qse _ _ _ (by unfold upN;omega)
theorem VecOk.of {l:LB} (hv:vOk l=true) (h1:cnt (vD l) (vN l)=vM l) (hd:l.drop (qi (vN l))=gL (vD l) (vN l)++(sL (vD l) (vN l)++mL (vD l) (vN l))):VecOk l:=by
 have hn:vN l≤67108864:=by
  grind [vOk]
 refine ⟨hv,fun j hj=>?_,fun j hj=>?_,by grind [qsf]⟩
 ·have hlen:=qnz (vD l) (vN l);rw [← List.drop_drop,hd,List.drop_append_of_le_length Oo,List.take_append_of_le_length (by grind),qabn _ _ _ hj,qg0]
  grind [upN,qd0,qsf]
 ·have hlen:=qnz (vD l) (vN l);have hlen2:=qtw (vD l) (vN l);have e:qz (vN l)+2*j=qi (vN l)+((gL (vD l) (vN l)).length+2*j):=by grind [qz]
  have e2:∀ A B:LB,(A++B).drop (A.length+2*j)=B.drop (2*j):=fun A B=>by simp
  rw [e,← List.drop_drop,hd,e2,List.drop_append_of_le_length Oo,List.take_append_of_le_length (by grind),qacs _ _ _ hj,qg0];have hle:256*j≤vN l:=by grind [upN]
  have hc:cnt (vD l) (256*j)≤cnt (vD l) (2048*(j/8))+2048:=by
   have:=qkk (vD l) (2048*(j/8)) (256*j-2048*(j/8));have e4:2048*(j/8)+(256*j-2048*(j/8))=256*j:=by omega
   grind
  grind [qsf]
def qac (d:LB) (n:Nat):LB:=fixL n 4++fixL (cnt d n) 4++d++gL d n++sL d n++mL d n
def ahN (d:LB) (i:Nat):Nat:=if i=0 then 0 else cnt d (2048*((i-1)/2048))
def PadB (d:LB) (n:Nat):Prop:=∃ t,n≤t∧t<8*d.length∧bitN d t=1
def qee (n i:Nat):Nat:=
 if i<qz n then qi n+(i-qi n)/4*4 else if i<qam n then qz n+(i-qz n)/2*2 else qam n+(i-qam n)/4*4
def spF (l:LB) (t:Nat):Nat × Nat:=
 if l[qi (vN l)+t]?=(qac (vD l) (vN l))[qi (vN l)+t]? then (0,0) else (qee (vN l) (qi (vN l)+t),20)
open Classical in
noncomputable def voE (l:LB):Nat × Nat:=
 if PadB (vD l) (vN l) then (7+upN (vN l) 8,12) else if cnt (vD l) (vN l)≠vM l then (4,20) else errF (spF l) (qba (vN l) (vM l)-qi (vN l))
theorem qaa0 {l:LB} (h:PadB (vD l) (vN l)):voE l=(7+upN (vN l) 8,12):=by rw [voE,if_pos h]
theorem qaaz {l:LB} (h:¬ PadB (vD l) (vN l)) (h2:cnt (vD l) (vN l)≠vM l):voE l=(4,20):=by grind [voE]
theorem qad1 {l:LB} (h:¬ PadB (vD l) (vN l)) (h2:cnt (vD l) (vN l)=vM l) {i:Nat} (hi:qi (vN l)≤i) (hi2:i<qba (vN l) (vM l))
  (hj:∀ j,qi (vN l)≤j→j<i→l[j]?=(qac (vD l) (vN l))[j]?) (hne:l[i]?≠(qac (vD l) (vN l))[i]?):voE l=(qee (vN l) i,20):=by
 obtain ⟨t,rfl⟩:∃ t,i=qi (vN l)+t:=⟨i-qi (vN l),by omega⟩
 have hk:spF l t=(qee (vN l) (qi (vN l)+t),20):=by grind [spF]
 rw [voE,if_neg h,if_neg Oo,q7v (k:=t) (fun j h3=>by grind [spF]) Oo (by simp_all),hk]
theorem qadb {l:LB} (h:¬ PadB (vD l) (vN l)) (h2:cnt (vD l) (vN l)=vM l) (hj:∀ j,qi (vN l)≤j→j<qba (vN l) (vM l)→l[j]?=(qac (vD l) (vN l))[j]?):voE l=(0,0):=by
 have hz:∀ k,k<qba (vN l) (vM l)-qi (vN l)→spF l k=(0,0):=fun k hk=>by grind [spF]
 rw [voE,if_neg h,if_neg Oo];have:∀ n,n≤qba (vN l) (vM l)-qi (vN l)→errF (spF l) n=(0,0):=by
  intro n hn
  induction n<;>grind [errF]
 simp_all
theorem q5m {l:LB} (h:(voE l).2=0):¬ PadB (vD l) (vN l)∧cnt (vD l) (vN l)=vM l∧∀ j,qi (vN l)≤j→j<qba (vN l) (vM l)→l[j]?=(qac (vD l) (vN l))[j]?:=by
 by_cases h1:PadB (vD l) (vN l)
 ·grind [qaa0]
 by_cases h2:cnt (vD l) (vN l)=vM l
 ·refine ⟨h1,h2,fun j hj hj2=>?_⟩;rw [voE,if_neg h1,if_neg Oo] at h;have h3:=qb8 h (j-qi (vN l)) Oo
  grind [spF]
 grind [qaaz]
theorem qeg (d:LB) (n:Nat):(qac d n).length=8+d.length+4*upN n 2048+2*upN n 256+4*upN (cnt d n) 512:=by
 simp only [qac,zla,qh,qnz,qtw,qzj]
theorem qlc (d:LB) (n:Nat):(qac d n).drop (8+d.length)=gL d n++(sL d n++mL d n):=by
 have e:qac d n=(fixL n 4++fixL (cnt d n) 4++d)++(gL d n++(sL d n++mL d n)):=by simp only [qac,List.append_assoc]
 have e2:8+d.length=(fixL n 4++fixL (cnt d n) 4++d).length:=by simp only [zla,qh]
 rw [e,e2,List.drop_left]
theorem qxr {l m:LB} {a:Nat} (hlen:l.length=m.length) (h:∀ j,a≤j→j<l.length→l[j]?=m[j]?):l.drop a=m.drop a:=by
 apply List.ext_getElem?;intro i;rw [List.getElem?_drop,List.getElem?_drop]
 by_cases hi:a+i<l.length
 ·exact h (a+i) Oo hi
 ·rw [List.getElem?_eq_none Oo,List.getElem?_eq_none Oo]
theorem VecOk.voE {l:LB} (hv:vOk l=true) (h:(voE l).2=0):VecOk l:=by
 obtain ⟨_,h2,h3⟩:=q5m h;simp only [vOk,Bool.and_eq_true,decide_eq_true_eq] at hv;have hve:qba (vN l) (vM l)=qi (vN l)+4*upN (vN l) 2048+2*upN (vN l) 256+4*upN (vM l) 512:=rfl;have hgg:qi (vN l)=8+upN (vN l) 8:=rfl;have hdl:(vD l).length=upN (vN l) 8:=by rw [vD,List.length_take,zld];omega
 have hwl:=qeg (vD l) (vN l);have hlen:l.length=(qac (vD l) (vN l)).length:=by rw [hwl,h2,hdl];omega
 refine VecOk.of (by simp only [vOk,Bool.and_eq_true,decide_eq_true_eq];exact hv) h2 ?_;rw [← qlc,hdl,← hgg];exact qxr hlen fun j h4 h5=>h3 j Oo Oo
def inF (F:Nat→Int):Nat→Value:=fun j=>ii (F j)
def updI (F:Nat→Int) (i:Nat) (v:Int):Nat→Int:=fun j=>if j=i then v else F j
theorem q1k (F:Nat→Int) (i:Nat) (v:Int):updI F i v i=v:=by simp [updI]
theorem q1l (F:Nat→Int) (i j:Nat) (v:Int) (h:j≠i):updI F i v j=F j:=by simp [updI,h]
theorem qaat (F:Nat→Int) (i:Nat) (v:Int):updF (inF F) i (ii v)=inF (updI F i v):=by
 funext j
 by_cases h:j=i
 ·simp [updF,updI,inF,h]
 ·simp [updF,updI,inF,h]
theorem V.LoadV.fi {w0 w:World} {L:List (Nat × Obj)} {i b off n:Nat} {F:Nat→Int} {t:TypeId} {x:Int} {K:Value→Prop} (h:Mem w0 w L) (hi:L[i]?=some (b,.cells (fnA n (inF F)) t)) (j:Nat) (e:off=j) (hj:j<n) (hv:F j=x) (hk:K (ii x)):LoadV w b off K:=
 LoadV.fn h hi j e hj (by rw [← hv];rfl) hk
theorem V.StoreV.fi {w0 w:World} {L:List (Nat × Obj)} {i b off n:Nat} {F:Nat→Int} {t:TypeId} {x:Int} {K:World→Prop} (h:Mem w0 w L) (hi:L[i]?=some (b,.cells (fnA n (inF F)) t)) (j:Nat) (e:off=j) (hj:j<n)
  (hk:∀ w',Mem w0 w' (L.set i (b,.cells (fnA n (inF (updI F j x))) t))→K w'):StoreV w b off (ii x) K:=
 StoreV.fn h hi j e hj rfl fun w' hm=>hk w' (by rw [qaat] at hm;exact hm)
theorem qx4 (n:Nat) (F:Nat→Int):∀ v∈(fnA n (inF F)).toList,v.oneCell'=true:=by
 intro v hv;simp only [fnA,List.mem_map] at hv;obtain ⟨j,_,rfl⟩:=hv;rfl
theorem qwo (v:Value) (n:Nat):qcv [v] n=List.replicate n v:=by
 induction n<;>grind [qcv]
def encU (n:Nat):List Value:=[.int .u64 n]
def unpN (p:LB) (n wd:Nat):List Nat:=(List.range n).map fun i=>valB p (i*wd) wd
open Classical in
noncomputable def opE (p:LB) (n wd:Nat):Nat:=if ∃ t,n*wd≤t∧t<8*p.length∧bitN p t=1 then 12 else 0
def wMx (xs:List Nat):Nat→Nat
 | 0=>0
 | i+1=>max (wMx xs i) (qaf (xs.getD i 0))
noncomputable def vcE (l:LB) (k:Nat):Nat × Nat:=
 if tVec l k=false then (tEnd l k,180) else if (voE (qe l k)).2≠0 then (tEnd l k+(voE (qe l k)).1,(voE (qe l k)).2)
 else if 0<vNum l k∧bitN ((qe l k).drop 8) (vNum l k-1)≠1 then (tEnd l k,180) else (0,0)
theorem qac8 {l:LB} {k:Nat} (h:tVec l k=false):vcE l k=(tEnd l k,180):=by rw [vcE,if_pos h]
theorem qada {l:LB} {k:Nat} (h:tVec l k=true) (h2:(voE (qe l k)).2≠0):vcE l k=(tEnd l k+(voE (qe l k)).1,(voE (qe l k)).2):=by grind [vcE]
theorem q5h {l:LB} {k:Nat} (h:tVec l k=true) (h2:(voE (qe l k)).2=0) (h3:0<vNum l k) (h4:bitN ((qe l k).drop 8) (vNum l k-1)≠1):vcE l k=(tEnd l k,180):=by
 grind [vcE]
theorem qac9 {l:LB} {k:Nat} (h:tVec l k=true) (h2:(voE (qe l k)).2=0) (h4:0<vNum l k→bitN ((qe l k).drop 8) (vNum l k-1)=1):vcE l k=(0,0):=by
 grind [vcE]
def tX (l:LB) (k i:Nat):Nat:=valB (qg l k) (i*tw l k) (tw l k)
def nmF (l:LB) (k i:Nat):Nat × Nat:=
 if (k≠0∧tX l k i=0)∨4194304<tX l k i then (tvAt l k+1,180)
 else if 0<i∧(k=0∨bitN ((qe l k).drop 8) (i-1)≠1)∧tX l k i≤tX l k (i-1) then (tvAt l k+1,160) else (0,0)
noncomputable def lvE (l:LB) (k:Nat):Nat × Nat:=
 if opE (qg l k) (vNum l k) (tw l k)≠0 then (tEnd l k-1,12) else if wMx (unpN (qg l k) (vNum l k) (tw l k)) (vNum l k)≠tw l k then (tvAt l k,14)
 else if k≠0∧(vcE l k).2≠0 then vcE l k else errF (nmF l k) (vNum l k)
noncomputable def toE (l:LB):Nat × Nat:=if (tE l).2≠0 then tE l else errF (lvE l) 4
section
variable {l:LB} {k:Nat}
theorem q8b (h:opE (qg l k) (vNum l k) (tw l k)≠0):lvE l k=(tEnd l k-1,12):=by rw [lvE,if_pos h]
theorem qzf (h:opE (qg l k) (vNum l k) (tw l k)=0) (h2:wMx (unpN (qg l k) (vNum l k) (tw l k)) (vNum l k)≠tw l k):lvE l k=(tvAt l k,14):=by
 grind [lvE]
theorem q8c (h:opE (qg l k) (vNum l k) (tw l k)=0) (h2:wMx (unpN (qg l k) (vNum l k) (tw l k)) (vNum l k)=tw l k) (h3:k≠0) (h4:(vcE l k).2≠0):lvE l k=vcE l k:=by
 grind [lvE]
theorem qze (h:opE (qg l k) (vNum l k) (tw l k)=0) (h2:wMx (unpN (qg l k) (vNum l k) (tw l k)) (vNum l k)=tw l k) (h3:k=0∨(vcE l k).2=0):lvE l k=errF (nmF l k) (vNum l k):=by
 grind [lvE]
theorem qab5 (h:opE (qg l k) (vNum l k) (tw l k)=0) (h2:wMx (unpN (qg l k) (vNum l k) (tw l k)) (vNum l k)=tw l k) (h3:k=0∨(vcE l k).2=0)
  (h4:∀ j,j<vNum l k→(nmF l k j).2=0):(lvE l k).2=0:=by grind [qze,qbf]
theorem q3o (h:(lvE l k).2=0):opE (qg l k) (vNum l k) (tw l k)=0∧wMx (unpN (qg l k) (vNum l k) (tw l k)) (vNum l k)=tw l k∧(k=0∨(vcE l k).2=0)∧∀ j,j<vNum l k→(nmF l k j).2=0:=by
 by_cases h1:opE (qg l k) (vNum l k) (tw l k)=0
 all_goals grind [qb8,qze,q8c,qzf,q8b]
theorem qab8 {i:Nat} (h:¬ ((k≠0∧tX l k i=0)∨4194304<tX l k i)) (h2:¬ (0<i∧(k=0∨bitN ((qe l k).drop 8) (i-1)≠1)∧tX l k i≤tX l k (i-1))):nmF l k i=(0,0):=by grind [nmF]
end
theorem qady {l:LB} (h:(tE l).2≠0):toE l=tE l:=by rw [toE,if_pos h]
theorem qac2 {l:LB} (h:(tE l).2=0) (h2:∀ k,k<4→(lvE l k).2=0):(toE l).2=0:=by
 grind [toE,qbf]
theorem qt6 {l:LB} (h:(toE l).2=0):(tE l).2=0∧∀ k,k<4→(lvE l k).2=0:=by
 by_cases h1:(tE l).2=0
 ·rw [toE,if_neg Oo] at h;exact ⟨h1,qb8 h⟩
 grind [qady]
def comL:LB→LB→Nat
 | x::a,y::b=>if x=y then comL a b+1 else 0
 | _,_=>0
theorem qnk:∀ a b:LB,comL a b=comL b a
 | [],[]=>rfl
 | [],_::_=>rfl
 | _::_,[]=>rfl
 | x::a,y::b=>by
  by_cases h:x=y
  ·rw [comL,comL,if_pos h,if_pos h.symm,qnk a b]
  ·rw [comL,comL,if_neg h,if_neg (fun e=>h e.symm)]
theorem qps:∀ {i:Nat} {a b:LB},(∀ j,j<i→a[j]?=b[j]?)→i≤a.length→i≤b.length→(i<a.length→i<b.length→a[i]?≠b[i]?)→comL a b=i
 | 0,[],_,_,_,_,_=>by cases ‹LB›<;>rfl
 | 0,_::_,[],_,_,_,_=>rfl
 | 0,x::a,y::b,_,_,_,h=>by
  have:=h Js Js;rw [comL,if_neg (fun e=>this (by rw [e];rfl))]
 | i+1,[],_,_,h,_,_=>by simp at h
 | i+1,_::_,[],_,_,h,_=>by simp at h
 | i+1,x::a,y::b,h1,h2,h3,h4=>by
  have h0:=h1 0 Oo;simp only [List.getElem?_cons_zero,Option.some.injEq] at h0;have ih:=qps (i:=i) (a:=a) (b:=b) (fun j hj=>by have:=h1 (j+1) Oo;simpa using this) (by simpa using h2) (by simpa using h3) (fun g1 g2=>by have:=h4 (by simpa using g1) (by simpa using g2);simpa using this);rw [comL,if_pos h0,ih]
theorem ql0 {s:ByteArray} {i:Nat} (h:i<s.size):s.data.toList[i]?=some (gb s i):=by
 simp_all [gb]
def leL (a b:LB):Bool:=slt ⟨a.toArray⟩ ⟨b.toArray⟩||seq ⟨a.toArray⟩ ⟨b.toArray⟩
def dSt (m:LB):Nat→LB × Nat
 | 0=>([],0)
 | i+1=>((entG ((qc m).drop (dSt m i).2) (decide (i%16=0)) (dSt m i).1).1,(dSt m i).2+(entG ((qc m).drop (dSt m i).2) (decide (i%16=0)) (dSt m i).1).2.1)
def dnF (m:LB) (i:Nat):Nat × Nat:=
 if i%16=0∧qy m (i/16)≠(dSt m i).2 then (qx m+(dSt m i).2,161)
 else if (entG ((qc m).drop (dSt m i).2) (decide (i%16=0)) (dSt m i).1).2.2≠0 then (qx m+(dSt m i).2,(entG ((qc m).drop (dSt m i).2) (decide (i%16=0)) (dSt m i).1).2.2)
 else if 0<i∧leL (dSt m (i+1)).1 (dSt m i).1=true then (qx m+(dSt m i).2,160)
 else if i%16≠0∧(numL ((qc m).drop (dSt m i).2)).1≠comL (dSt m (i+1)).1 (dSt m i).1 then (qx m+(dSt m i).2,161) else (0,0)
noncomputable def doE (m:LB):Nat × Nat:=
 if (dE m).2≠0 then dE m else if opE (qai m) (upN (dN m) 16) (dW m)≠0 then (qx m-1,12)
 else if (errF (dnF m) (dN m)).2≠0 then errF (dnF m) (dN m) else if (dSt m (dN m)).2<(qc m).length then (qx m+(dSt m (dN m)).2,13) else (0,0)
section
variable {m last:LB} {i p:Nat} (hd:dSt m i=(last,p))
include hd
theorem q2s {first:Bool} (hf:first=decide (i%16=0)):dSt m (i+1)=((entG ((qc m).drop p) first last).1,p+(entG ((qc m).drop p) first last).2.1):=by rw [dSt,hd,hf]
theorem q2v (h1:i%16=0) (h2:qy m (i/16)≠p):dnF m i=(qx m+p,161):=by grind [dnF]
theorem qabj {first:Bool} (hf:first=decide (i%16=0)) (h1:i%16=0→qy m (i/16)=p) (h2:(entG ((qc m).drop p) first last).2.2≠0):dnF m i=(qx m+p,(entG ((qc m).drop p) first last).2.2):=by
 grind [dnF]
end
section
variable {m:LB}
theorem q2w (h:(dE m).2≠0):doE m=dE m:=by rw [doE,if_pos h]
theorem qabk (h:(dE m).2=0) (h2:opE (qai m) (upN (dN m) 16) (dW m)=0) (h3:∀ j,j<dN m→(dnF m j).2=0) (h4:¬ (dSt m (dN m)).2<(qc m).length):doE m=(0,0):=by
 grind [qbf,doE]
theorem qsl (h:(doE m).2=0):(dE m).2=0∧opE (qai m) (upN (dN m) 16) (dW m)=0∧(∀ j,j<dN m→(dnF m j).2=0)∧¬ (dSt m (dN m)).2<(qc m).length:=by
 by_cases h1:(dE m).2=0
 ·by_cases h2:opE (qai m) (upN (dN m) 16) (dW m)=0
  all_goals grind [qb8,doE]
 grind [q2w]
end
def escL:LB→LB
 | []=>[]
 | c::r=>if c=0 then 0::1::escL r else c::escL r
theorem qcn (r:LB):escL (0::r)=0::1::escL r:=by rfl
theorem qbv {c:UInt8} (r:LB) (h:c≠0):escL (c::r)=c::escL r:=by rw [escL,if_neg h]
theorem qsq (l:LB):(escL l).length≤2*l.length:=by
 induction l<;>grind [escL]
theorem q7x (l:LB):l.length≤(escL l).length:=by
 induction l<;>grind [escL]
section
variable {old new:LB}
theorem qik {s:LB} (ho:(old==new)=false) (h:Lib.index s old=-1):Lib.replaceAll s old new=s:=by
 grind [Lib.replaceAll,Lib.replace,Lib.replaceNum,Lib.count_miss,Lib.replaceK]
theorem qf7 {s:LB} {i:Nat} (ho:(old==new)=false) (hn:old≠[]) (h:Lib.index s old=i):Lib.replaceAll s old new=s.take i++new++Lib.replaceAll (s.drop (i+old.length)) old new:=by
 grind [Lib.count_hit,Lib.replaceAll,Lib.replace,Lib.replaceNum,Lib.replaceK_hit]
theorem q0i {s:LB} (ho:(old==new)=false) (hn:old≠[]) (h:old.isPrefixOf s=true):Lib.replaceAll s old new=new++Lib.replaceAll (s.drop old.length) old new:=by
 have hi:Lib.index s old=((0:Nat):Int):=Lib.index_first (Nat.zero_le _) (by grind [Lib.occAt]) (fun j hj=>by omega);rw [qf7 ho hn hi];simp
theorem qts {c:UInt8} {r:LB} (ho:(old==new)=false) (hn:old≠[]) (h:old.isPrefixOf (c::r)=false):Lib.replaceAll (c::r) old new=c::Lib.replaceAll r old new:=by
 have hix:Lib.index (c::r) old=if Lib.index r old==-1 then -1 else Lib.index r old+1:=by rw [Lib.index,h];simp
 by_cases hm:Lib.index r old=-1
 ·grind [qik]
 ·obtain ⟨i,hi⟩:∃ i:Nat,Lib.index r old=i:=⟨(Lib.index r old).toNat,by have:=Lib.index_ge r old;omega⟩
  have hi':Lib.index (c::r) old=((i+1:Nat):Int):=by
   simp_all
  rw [qf7 ho hn hi,qf7 ho hn hi']
  grind
end
theorem q9o (l:LB):Lib.replaceAll l [0] [0,1]=escL l:=by
 induction l with
 | nil=>rfl
 | cons c r ih=>
  grind [q0i,qcn,qts,qbv]
theorem qom (l:LB):Lib.replaceAll (escL l) [0,1] [0]=l:=by
 induction l with
 | nil=>rfl
 | cons c r ih=>
  grind [qcn,q0i,qbv,qts]
theorem qxj {s sep:LB} {i:Nat} (hi:i≤s.length) (h:Lib.occAt s sep i=true) (hn:∀ j,j<i→Lib.occAt s sep j=false):Lib.cut s sep=(s.take i,s.drop (i+sep.length),true):=by
 grind [Lib.cut,Lib.index_first]
theorem qzs {a b:LB} {sep:LB}:Lib.occAt (a++(sep++b)) sep a.length=true:=by
 grind [Lib.occAt]
theorem q7y (l b:LB):∀ j,j<(escL l).length→Lib.occAt (escL l++([0,0]++b)) [0,0] j=false:=by
 induction l with
 | nil=>grind [escL]
 | cons c r ih=>
  intro j hj
  by_cases h:c=0
  ·subst h;rw [qcn] at hj ⊢
   match j with
   | 0=>rfl
   | 1=>rfl
   | j+2=>exact ih j (by simpa using hj)
  ·rw [qbv _ h] at hj ⊢
   match j with
   | 0=>grind [Lib.occAt]
   | j+1=>exact ih j (by simpa using hj)
theorem qxi (l b:LB):Lib.cut (escL l++([0,0]++b)) [0,0]=(escL l,b,true):=by
 rw [qxj (i:=(escL l).length) Js qzs (q7y l b)];simp
theorem qsh (a b:LB) (h:∀ c∈a,c≠0):Lib.cut (a++([0]++b)) [0]=(a,b,true):=by
 rw [qxj (i:=a.length) Js qzs (fun j hj=>by
  grind [Lib.occAt,List.drop_eq_getElem_cons])]
 simp
def qae (t:TM):LB:=if t.kind=3 then escL t.text.data.toList++([0,0]++(t.type.data.toList++([0]++t.lang.data.toList))) else t.text.data.toList
structure ReadsAs (kind:Int) (s:LB) (t:TM):Prop where
 kind:t.kind=kind
 ok:qa5 t=0
 entry:qae t=s
theorem qyl {s:ByteArray} (h:iriE s=0):∀ c∈s.data.toList,c≠0:=by
 rintro c hc rfl
 grind [refE,iriE,barB]
theorem ReadsAs.plain {kind:Int} {s:LB} {t:TM} (h:ReadsAs kind s t) (hk:kind≠3):t.text.data.toList=s∧t.type=⟨#[]⟩∧t.lang=⟨#[]⟩:=by
 have hk':t.kind≠3:=by rw [h.kind];exact hk
 have h1:=h.ok;have h2:=h.entry
 grind [qae,qa5,qa9]
theorem ReadsAs.lit {s:LB} {t:TM} (h:ReadsAs 3 s t):s=escL t.text.data.toList++([0,0]++(t.type.data.toList++([0]++t.lang.data.toList)))∧∀ c∈t.type.data.toList,c≠0:=by
 have h1:=h.ok;have h2:=h.entry;rw [qae,if_pos h.kind] at h2;refine ⟨h2.symm,qyl ?_⟩;rw [qa5,if_neg (by rw [h.kind];decide),if_pos h.kind,litE] at h1
 grind
theorem q23 {a b:LB} (h:escL a=escL b):a=b:=by
 grind [qom]
theorem qex {a b:ByteArray} (h:a.data.toList=b.data.toList):a=b:=by
 cases a;simp_all
theorem ReadsAs.unique {kind:Int} {s:LB} {t u:TM} (h:ReadsAs kind s t) (g:ReadsAs kind s u):t=u:=by
 obtain ⟨tk,tt,ty,tl⟩:=t;obtain ⟨uk,ut,uy,ul⟩:=u;have e1:tk=uk:=h.kind.trans g.kind.symm;subst e1
 by_cases hk:kind=3
 ·subst hk;obtain ⟨h1,h2⟩:=h.lit;obtain ⟨g1,g2⟩:=g.lit
  grind [qxi,qsh,qex,q23]
 ·obtain ⟨h1,h2,h3⟩:=h.plain hk;obtain ⟨g1,g2,g3⟩:=g.plain hk
  grind [qex]
open Classical in
noncomputable def qf6 (kind:Int) (s:LB):Option TM:=if h:∃ t,ReadsAs kind s t then some h.choose else none
theorem qk0 {kind:Int} {s:LB} {t:TM} (h:ReadsAs kind s t):qf6 kind s=some t:=by
 have hx:∃ t,ReadsAs kind s t:=⟨t,h⟩
 grind [qf6,ReadsAs.unique]
theorem qvp {kind:Int} {s:LB} (h:∀ t,¬ ReadsAs kind s t):qf6 kind s=none:=by
 grind [qf6]
theorem qqs {kind:Int} {s:LB} {t:TM} (h:qf6 kind s=some t):ReadsAs kind s t:=by
 unfold qf6 at h
 split at h
 all_goals grind
theorem ReadsAs.size {kind:Int} {s:LB} {t:TM} (h:ReadsAs kind s t):t.text.size≤s.length∧t.type.size≤s.length∧t.lang.size≤s.length:=by
 by_cases hk:kind=3
 ·subst hk;obtain ⟨h1,_⟩:=h.lit;have:=q7x t.text.data.toList;have e1:t.text.data.toList.length=t.text.size:=rfl;have e2:t.type.data.toList.length=t.type.size:=rfl;have e3:t.lang.data.toList.length=t.lang.size:=rfl
  grind
 ·obtain ⟨h1,h2,h3⟩:=h.plain hk;rw [← h1,h2,h3];exact ⟨Nat.le_refl _,Nat.zero_le _,Nat.zero_le _⟩
theorem q4g {kind:Int} {s:LB} {t:TM} (h:qf6 kind s=some t) (hs:s.length≤262144) (hk:InR .i64 kind):TermOk t:=by
 have hr:=qqs h;obtain ⟨h1,h2,h3⟩:=hr.size;exact ⟨by rw [hr.kind];exact hk,by omega,by omega,by omega⟩
noncomputable def veF (l:LB) (k:Nat):Nat × Nat:=if (doE (sDict l k)).2=0 then (0,0) else (q8 l k+(doE (sDict l k)).1,(doE (sDict l k)).2)
def vrB (l:LB) (k j:Nat):Prop:=∃ s,dGet (sDict l k) j=some s∧∀ t,¬ ReadsAs ((k+1:Nat):Int) s t
open Classical in
noncomputable def vrF (l:LB) (k:Nat):Nat × Nat:=if ∃ j,j<dN (sDict l k)∧vrB l k j then (q8 l k,170) else (0,0)
noncomputable def vwE (l:LB):Nat × Nat:=if (sE l).2≠0 then sE l else if (errF (veF l) 3).2≠0 then errF (veF l) 3 else errF (vrF l) 3
section
variable {l:LB}
theorem q5j {k:Nat} (h:(doE (sDict l k)).2=0):(veF l k).2=0:=by rw [veF,if_pos h]
theorem qadc {k:Nat} (h:∀ j,j<dN (sDict l k)→¬ vrB l k j):(vrF l k).2=0:=by rw [vrF,if_neg (fun ⟨j,h1,h2⟩=>h j h1 h2)]
theorem qadd (h:(sE l).2=0) (h2:∀ k,k<3→(doE (sDict l k)).2=0) (h3:∀ k,k<3→(vrF l k).2=0):(vwE l).2=0:=by
 have:=qbf (f:=veF l) (n:=3) fun j hj=>q5j (h2 j hj)
 rw [vwE,if_neg Oo,if_neg Oo];exact qbf h3
end
theorem qbg (s:ByteArray) (a b:Nat):(s.extract a b).data.toList=(s.data.toList.drop a).take (b-a):=by
 simp [ByteArray.data_extract]
theorem q2r (s sep:ByteArray) (w:World) (hM:MaxLenAt w) (hs:s.size≤67108864) (h1:1≤sep.size):Gv Tryz.prog 340 [.string s,.string sep] w fun r w'=>r=ii (Lib.countB s sep)∧w'=w:=by
 obtain ⟨m,hm⟩:=hM;exact qez Jk ((Tryz.strings_Count_any s sep m w Oo hm h1).mono fun e w' ⟨he,hw⟩=>⟨_,he,rfl,hw⟩)
theorem q3e (s sep:ByteArray) (w:World) (hM:MaxLenAt w) (hs:s.size≤67108864):Gv Tryz.prog 341 [.string s,.string sep] w fun r w'=>r=ii (Lib.indexB s sep)∧w'=w:=by
 obtain ⟨m,hm⟩:=hM;exact qez Jk ((Tryz.strings_Index s sep m w Oo hm).mono fun e w' ⟨he,hw⟩=>⟨_,he,rfl,hw⟩)
theorem q51 (s sep:ByteArray) (w:World) (hM:MaxLenAt w) (hs:s.size≤67108864):Gv Tryz.prog 344 [.string s,.string sep] w fun r w'=>
  r=.tuple #[.string ⟨(Lib.cut s.data.toList sep.data.toList).1.toArray⟩,.string ⟨(Lib.cut s.data.toList sep.data.toList).2.1.toArray⟩,.bool (Lib.cut s.data.toList sep.data.toList).2.2]∧Ext w w':=by
 obtain ⟨m,hm⟩:=hM;refine qez Jk ((Tryz.strings_Cut s sep m w Oo hm).mono fun e w' ⟨he,n,hw⟩=>⟨_,he,rfl,?_⟩);subst hw;exact ⟨rfl,rfl,rfl,Nat.le_refl _,fun _ _=>rfl⟩
theorem q73 (b n:Nat) (w0 w:World) (h:Mem w0 w [(b,.cells #[.pointer none,.slice none 0 0] 472)]) (hn:n≤281474976710656) :
  Gv Tryz.prog 366 [pp b,ii n] w fun r w'=>r=.tuple #[]∧Bld w0 w' b [] []:=by
 have ho:=h.own _ mh;refine qez Jk ((Tryz.Builder_Grow_fresh w0.heap.size b n w ho.1 ho.2 h.ext.size hn).mono fun e w' ⟨he,⟨h1,v,h2,h3,h4⟩,h5⟩=>⟨_,he,rfl,⟨_,v,.inr rfl,⟨⟨Below.trans h.ext h5,?_,by simp⟩,h3,?_⟩⟩⟩)
 ·intro x hx;simp only [List.mem_cons,List.not_mem_nil,or_false] at hx;subst hx;exact ⟨h1,h2⟩
 ·intro x hx;simp only [List.mem_cons,List.not_mem_nil,or_false] at hx;subst hx;exact h4
theorem qp2 (s:ByteArray):s.extract 0 s.size=s:=qex (by rw [qbg];simp;exact List.take_of_length_le znr)
theorem qqt (s old new:ByteArray) (w:World) (hM:MaxLenAt w) (hne:seq old new=false) (hs:s.size≤67108864) (ho:(old.size=1∧new.size=2)∨(old.size=2∧new.size=1)) :
  Gv Tryz.prog 320 [.string s,.string old,.string new,ii (-1)] w fun r w'=>r=.string ⟨(Lib.replaceAll s.data.toList old.data.toList new.data.toList).toArray⟩∧Ext w w':=by
 have h1:1≤old.size:=by omega
 have hoe:(old.data.toList==new.data.toList)=false:=by
  rw [beq_eq_false_iff_ne];intro e;have:old=new:=qex e;rw [qa9.2 this] at hne;cases hne
 have hon:old.data.toList≠[]:=by
  intro e;have:old.data.toList.length=0:=by rw [e];rfl
  have h2:old.data.toList.length=old.size:=rfl;omega
 refine ze Tryz.func320 Tryz.ntmps320 ?_;rw [hne];refine zv ?_;refine zcv (q2r s old w hM hs h1) ?_;rintro v w' ⟨rfl,rfl⟩;(conv=>whnf);have hKo:=Lib.countB_mul_le old h1 s.size s znr;obtain ⟨K,eK⟩:∃ K,K=Lib.countB s old:=⟨_,rfl⟩
 rw [← eK] at hKo ⊢
 by_cases hK:K=0
 ·have hr:Lib.replaceAll s.data.toList old.data.toList new.data.toList=s.data.toList:=by
   rcases Lib.indexB_cases s old with hix|⟨i,hix,_⟩
   ·exact qik hoe hix
   ·have:=Lib.countB_hit s old i h1 hix;omega
  refine zv ?_;exact ⟨by rw [hr],xr⟩
 refine zv ?_;refine znm (Mem.nil w') ?_;intro b w1 hm;have hK1:K≤s.size:=Nat.le_trans (Nat.le_mul_of_pos_right K h1) hKo;obtain ⟨d,hd,hd1,hd2⟩:∃ d:Int,(K:Int)*((new.size:Int)-(old.size:Int))=d∧-(K:Int)≤d∧d≤K:=by
  rcases ho with ⟨h1,h2⟩|⟨h1,h2⟩
  ·exact ⟨K,by rw [h1,h2];omega,by omega,by omega⟩
  ·exact ⟨-K,by rw [h1,h2];omega,by omega,by omega⟩
 refine Obl.mk ⟨by omega,by omega⟩ (zw ?_);rw [hd];refine Obl.mk ⟨by omega,by omega⟩ ?_;refine Obl.mk ⟨by omega,by omega⟩ ?_;obtain ⟨M,eM⟩:∃ M:Nat,(s.size:Int)+d=M:=⟨((s.size:Int)+d).toNat,by omega⟩
 rw [eM];refine zcv (q73 b M w' w1 hm Oo) ?_;rintro r w2 ⟨rfl,hB⟩;refine zu ?_;refine qm (fun x:Nat × Nat × LB=>[(0,.string s),(1,.string old),(2,.string new),(10,pp b),(11,ii x.2.1),(52,ii K),(53,ii x.1)])
  (fun x w''=>x.1≤K∧x.2.1≤s.size∧x.1+Lib.countB (s.extract x.2.1 s.size) old=K∧x.2.2++Lib.replaceAll (s.data.toList.drop x.2.1) old.data.toList new.data.toList=Lib.replaceAll s.data.toList old.data.toList new.data.toList∧x.2.2.length≤2*x.2.1∧Bld w' w'' b x.2.2 []) (fun x=>K-x.1) (0,0,[])
  ⟨rfl,rfl,rfl,rfl,rfl,rfl,rfl,trivial⟩ ⟨by simp,by simp,by rw [qp2,← eK];omega,by simp,by simp,hB⟩ ?_
 clear hB;rintro ⟨j,p,l⟩ w3 ρ' ⟨hj,hp,hc,hr,hl,hB⟩;dsimp only at hj hp hc hr hl hB ⊢;have hrl:(s.extract p s.size).data.toList=s.data.toList.drop p:=by
  rw [qbg,List.take_of_length_le];have:s.data.toList.length=s.size:=rfl;simp only [zld];omega
 obtain ⟨r,er⟩:∃ r,r=s.extract p s.size:=⟨_,rfl⟩
 have hrs:r.size=s.size-p:=by
  have e1:r.size=r.data.toList.length:=rfl;have e2:s.data.toList.length=s.size:=rfl;rw [e1,er,hrl,zld,e2]
 rw [← er] at hc hrl;(conv=>whnf);refine zC (fun _=>zw ?_) (fun _=>zw ?_)
 ·refine SliceS.at_ p s.size rfl rfl hp znr ?_;rw [← er];(conv=>whnf);refine zcv (q3e r old w3 (hM.ext hB.ext) Oo) ?_;rintro v w4 ⟨rfl,rfl⟩
  rcases Lib.indexB_cases r old with hix|⟨i,hix,hio⟩
  ·have:=Lib.countB_miss r old hix;omega
  rw [hix];have hhit:=Lib.countB_hit r old i h1 hix;have hrx:r.extract (i+old.size) r.size=s.extract (p+i+old.size) s.size:=by
   refine qex ?_;rw [qbg,qbg,hrl,List.drop_drop,show p+(i+old.size)=p+i+old.size by omega,show r.size-(i+old.size)=s.size-(p+i+old.size) by omega]
  rw [hrx] at hhit;have hrep:=qf7 hoe hon (s:=s.data.toList.drop p) (i:=i) (by rw [← hrl];exact hix);refine zu ?_;refine SliceS.at_ p (p+i) rfl (by show _=_;omega) Oo Oo (zw ?_);refine zcv (qcu b l (s.extract p (p+i)) w' w4 [] hB (fun x hx=>by cases hx) (by simp [ByteArray.size_extract];omega)) ?_;rintro v w5 ⟨rfl,hB⟩;have hwl:(s.extract p (p+i)).data.toList.length=i:=by
   have:s.data.toList.length=s.size:=rfl;rw [qbg,List.length_take,zld];omega
  (conv=>whnf);refine zcv (qcu b (l++(s.extract p (p+i)).data.toList) new w' w5 [] hB (fun x hx=>by cases hx) (by rw [zla];omega)) ?_;rintro v w6 ⟨rfl,hB⟩;refine zu ?_;have hnl:new.data.toList.length=new.size:=rfl;refine ⟨(j+1,p+i+old.size,l++(s.extract p (p+i)).data.toList++new.data.toList),⟨rfl,rfl,rfl,rfl,by show ii _=ii _;congr 1,rfl,rfl,trivial⟩,⟨by simp only;omega,by simp only;omega,by simp only;omega,?_,by simp only [zla];omega,hB⟩,by simp only;omega⟩;rw [← hr,hrep,qbg,show p+i-p=i by omega,List.drop_drop,show p+(i+old.data.toList.length)=p+i+old.size from by show p+(i+old.size)=_;omega];simp [List.append_assoc]
 ·obtain rfl:j=K:=by omega
  have hix:Lib.indexB r old=-1:=by
   rcases Lib.indexB_cases r old with hix|⟨i,hix,hio⟩
   ·exact hix
   ·have:=Lib.countB_hit r old i h1 hix;omega
  have hrep:=qik hoe (s:=s.data.toList.drop p) (by rw [← hrl];exact hix);refine SliceS.at_ p s.size rfl rfl hp znr ?_;rw [← er];(conv=>whnf);refine zcv (qcu b l r w' w3 [] hB (fun x hx=>by cases hx) Oo) ?_;rintro v w4 ⟨rfl,hB⟩;(conv=>whnf);refine zcv (qgn b (l++r.data.toList) w' w4 [] hB) ?_;rintro v w5 ⟨rfl,he⟩;(conv=>whnf);exact ⟨by rw [← hr,hrep,hrl],he⟩
theorem qe3 (s old new:ByteArray) (w:World) (hM:MaxLenAt w) (hne:seq old new=false) (hs:s.size≤67108864) (ho:(old.size=1∧new.size=2)∨(old.size=2∧new.size=1)) :
  Gv Tryz.prog 246 [.string s,.string old,.string new] w fun r w'=>r=.string ⟨(Lib.replaceAll s.data.toList old.data.toList new.data.toList).toArray⟩∧Ext w w':=by
 refine ze Tryz.func246 Tryz.ntmps246 ?_;refine zcv (qqt s old new w hM hne hs ho) ?_;rintro v w' ⟨rfl,he⟩;(conv=>whnf);exact ⟨rfl,he⟩
theorem qes (t:TM) (ht:TermOk t) (w:World) (hM:MaxLenAt w) (hT:CellsAt w 4 0 qa6) :
  Gv Tryz.prog 175 [qt t] w fun r w'=>r=(if qa5 t=0 then .tuple #[.string ⟨(qae t).toArray⟩,ii 0] else .tuple #[.string ⟨#[]⟩,ii (qa5 t)])∧Ext w w':=by
 refine ze Tryz.func175 Tryz.ntmps175 ?_;refine znm (Mem.nil w) ?_;intro tb w1 hm;have hm:Mem w w1 [(tb,.cells #[ii t.kind,.string t.text,.string t.type,.string t.lang] 45)]:=hm;(conv=>whnf);refine zl hm 0 ?_;refine zcv (qgd t ht w1 (hM.ext hm.ext) (hT.ext hm.ext)) ?_;rintro r w2 ⟨rfl,he2⟩;have hm:=hm.call he2;obtain ⟨e,ee⟩:∃ e,e=qa5 t:=⟨_,rfl⟩
 rw [← ee];conv=>whnf
 (repeat' (first|refine zC (fun _=>zw ?_) (fun _=>zw ?_)|refine LoadV.mem (i:=0) Oa rfl rfl (zw ?_)))
 ·rw [if_neg Oo];exact ⟨rfl,hm.ext⟩
 ·have h1:qae t=t.text.data.toList:=by grind [qae]
  rw [if_pos Oo,h1];exact ⟨rfl,hm.ext⟩
 rw [if_pos Oo];have hk3:t.kind=3:=by omega
 have htx:t.text.size≤65536:=by
  grind [qa5,litE]
 have hty:=ht.type;have htl:=ht.lang;obtain ⟨R,eR,hRl⟩:∃ R:ByteArray,R=⟨(Lib.replaceAll t.text.data.toList [0] [0,1]).toArray⟩∧R.data.toList=escL t.text.data.toList:=⟨_,rfl,q9o _⟩
 have hRs:R.size≤2*t.text.size:=by
  have h1:R.size=R.data.toList.length:=rfl;have h2:=qsq t.text.data.toList
  simp_all
 have hz2:(⟨#[0,0]⟩:ByteArray).size=2:=rfl;have hz1:(⟨#[0]⟩:ByteArray).size=1:=rfl;refine DrawV.free Jk Jk (zw ?_);refine zd ?_;refine zLd ?_;refine zsd (.string R) (fun wd hd=>zw ?_) (zw ?_)
 ·refine zcv (qe3 t.text ⟨#[0]⟩ ⟨#[0,1]⟩ wd (hM.ext (hm.drew.call hd).ext) rfl Oo (.inl ⟨rfl,rfl⟩)) ?_
  simp_all
 apply zsd
 ·intro wd hd;(conv=>whnf);refine Obl.mk Oo (zw ?_);exact ⟨xr,rfl⟩
 (conv=>whnf);refine zd ?_;refine zLd ?_;apply zsd
 ·intro wd hd;(conv=>whnf);refine Obl.mk (by grind) (zw ?_);exact ⟨xr,rfl⟩
 (conv=>whnf);apply zsd
 ·intro wd hd;(conv=>whnf);refine Obl.mk (by grind) (zw ?_);exact ⟨xr,rfl⟩
 (conv=>whnf);refine zd ?_;refine zLd ?_;apply zsd
 ·intro wd hd;(conv=>whnf);refine Obl.mk (by grind) (zw ?_);exact ⟨xr,rfl⟩
 (conv=>whnf);refine zd ?_;refine zd ?_;intro w3 he3;(conv=>whnf);refine ⟨?_,(hm.drew.call he3).ext⟩;have:R++⟨#[0,0]⟩++t.type++⟨#[0]⟩++t.lang=⟨(qae t).toArray⟩:=qex (by grind [qae,ByteArray.data_append]);rw [this]
def vBad:Value:=.tuple #[.agg #[ii 0,.string ⟨#[]⟩,.string ⟨#[]⟩,.string ⟨#[]⟩],ii 170]
noncomputable def qe7 (kind:Int) (s:LB):Value:=
 match qf6 kind s with
 | some t=>.tuple #[qt t,.int .i64 0]
 | none=>vBad
theorem qrk {kind:Int} {s:LB} {t:TM} (h:ReadsAs kind s t):qe7 kind s=.tuple #[qt t,ii 0]:=by rw [qe7,qk0 h]
theorem qfl {kind:Int} {s:LB} (h:∀ t,¬ ReadsAs kind s t):qe7 kind s=vBad:=by rw [qe7,qvp h]
theorem qxk (s sep:LB):(Lib.cut s sep).1.length≤s.length∧(Lib.cut s sep).2.1.length≤s.length:=by
 grind [Lib.cut]
theorem q9p:∀ (l:LB),(Lib.replaceAll l [0,1] [0]).length≤l.length:=by
 intro l
 induction h:l.length using Nat.strongRecOn generalizing l with
 | _ n ih=>
  by_cases hm:Lib.index l [0,1]=-1
  ·simp_all [qik]
  ·obtain ⟨i,hi⟩:∃ i:Nat,Lib.index l [0,1]=i:=⟨(Lib.index l [0,1]).toNat,by have:=Lib.index_ge l [0,1];omega⟩
   have hroom:i+2≤l.length:=by
    rcases Lib.indexB_cases ⟨l.toArray⟩ ⟨#[0,1]⟩ with h1|⟨j,h1,h2⟩
    ·simp_all
    ·have h3:(Lib.index l [0,1])=j:=h1;have h4:j+2≤l.length:=h2;omega
   rw [qf7 Od Js hi,show i+([0,1]:LB).length=i+2 from rfl]
   grind
theorem q1x (kind:Int) (hk:kind=1∨kind=2∨kind=3) (s:ByteArray) (hs:s.size≤262144) (w:World) (hM:MaxLenAt w) (hT:CellsAt w 4 0 qa6) :
  Gv Tryz.prog 303 [ii kind,.string s] w fun r w'=>r=qe7 kind s.data.toList∧Ext w w':=by
 refine ze Tryz.func303 Tryz.ntmps303 ?_;refine znm (Mem.nil w) fun r4 w1 hm=>zw ?_;refine znm hm fun tb w2 hm=>zw ?_;refine zS hm 0 fun w3 hm=>zw ?_
 rcases hk with hk|hk|hk
 all_goals
  refine zv ?_
 case' inl|inr.inl=>
  obtain ⟨t,et⟩:∃ t:TM,t=⟨kind,s,⟨#[]⟩,⟨#[]⟩⟩:=⟨_,rfl⟩
  have hkind:t.kind=kind:=by rw [et]
  have ht:TermOk t:=by rw [et];exact ⟨(by grind [InR]),by grind,Nat.zero_le _,Nat.zero_le _⟩
  have huniq:∀ u,ReadsAs kind s.data.toList u→u=t:=fun u hu=>by
   obtain ⟨h1,h2,h3⟩:=hu.plain Oo;have h4:=hu.kind;rw [et];obtain ⟨uk,ux,uy,ul⟩:=u
   grind [qex]
 case' inr.inr=>
  obtain ⟨tx,rs,ok,ec⟩:∃ tx rs ok,Lib.cut s.data.toList [0,0]=(tx,rs,ok):=(by grind)
  obtain ⟨ty,la,fi,ed⟩:∃ ty la fi,Lib.cut rs [0]=(ty,la,fi):=(by grind)
  have hls:s.data.toList.length=s.size:=rfl;have hl1:=qxk s.data.toList [0,0];rw [ec] at hl1;dsimp only at hl1;have hl2:=qxk rs [0];rw [ed] at hl2;dsimp only at hl2;refine zcv (q51 s ⟨#[0,0]⟩ w3 (hM.ext hm.ext) Oo) ?_;rintro r w4 ⟨rfl,he4⟩;replace hm:=hm.call he4;have ec':Lib.cut s.data.toList (⟨#[0,0]⟩:ByteArray).data.toList=(tx,rs,ok):=ec;rw [ec'];(conv=>whnf);refine zcv (q51 ⟨rs.toArray⟩ ⟨#[0]⟩ w4 (hM.ext hm.ext) (by show rs.length≤_;omega)) ?_;rintro r w5 ⟨rfl,he5⟩;replace hm:=hm.call he5;have ed':Lib.cut (⟨rs.toArray⟩:ByteArray).data.toList (⟨#[0]⟩:ByteArray).data.toList=(ty,la,fi):=ed;rw [ed'];have hgood:∀ u,ReadsAs kind s.data.toList u→tx=escL u.text.data.toList∧ty=u.type.data.toList∧la=u.lang.data.toList∧ok=true∧fi=true:=fun u hu=>by
   rw [hk] at hu;obtain ⟨h1,h2⟩:=hu.lit
   grind [qxi,qsh]
  refine if hok:ok=true∧fi=true then ?good else ?bad
 case' good=>
  obtain ⟨rfl,rfl⟩:=hok;obtain ⟨t,et⟩:∃ t:TM,t=⟨kind,⟨(Lib.replaceAll tx [0,1] [0]).toArray⟩,⟨ty.toArray⟩,⟨la.toArray⟩⟩:=⟨_,rfl⟩
  have hkind:t.kind=kind:=by rw [et]
  have hrl:=q9p tx;have ht:TermOk t:=by
   rw [et];refine ⟨(by grind [InR]),?_,?_,?_⟩
   ·show (Lib.replaceAll tx [0,1] [0]).length≤_;omega
   ·show ty.length≤_;omega
   ·show la.length≤_;omega
  have huniq:∀ u,ReadsAs kind s.data.toList u→u=t:=fun u hu=>by
   obtain ⟨h1,h2,h3,_,_⟩:=hgood u hu;have h4:=hu.kind;rw [et];obtain ⟨uk,ux,uy,ul⟩:=u
   simp_all [qom]
  refine zu ?_;refine zcv (qe3 ⟨tx.toArray⟩ ⟨#[0,1]⟩ ⟨#[0]⟩ w5 (hM.ext hm.ext) rfl (by show tx.length≤_;omega) (.inr ⟨rfl,rfl⟩)) ?_;rintro r w6 ⟨rfl,he6⟩;replace hm:=hm.call he6;(conv=>whnf);refine StoreV.mem hm (i:=0) rfl Js rfl fun w7 hm=>zw ?_;refine StoreV.mem hm (i:=0) rfl Js rfl fun w8 hm=>zw ?_;refine StoreV.mem hm (i:=0) rfl Js rfl fun w3 hm=>zw ?_
 case' inl|inr.inl|good=>
  replace hm:Mem w w3 [(tb,.cells #[ii t.kind,.string t.text,.string t.type,.string t.lang] 45),(r4,.cells #[ii 0,.string ⟨#[]⟩,.string ⟨#[]⟩,.string ⟨#[]⟩] 45)]:=by rw [et];exact hm
  clear et;refine zl hm 0 ?_;refine zcv (qes t ht _ (hM.ext hm.ext) (hT.ext hm.ext)) ?_;rintro r w5 ⟨rfl,he⟩;replace hm:=hm.call he
  by_cases hE:qa5 t=0
  case' neg=>
   rw [if_neg hE];have hv:qe7 kind s.data.toList=vBad:=qfl fun u hu=>hE (huniq u hu ▸ hu.ok)
   refine zu ?_
  case' pos=>
   rw [if_pos hE];cases hq:seq ⟨(qae t).toArray⟩ s
  case' true=>
   refine zu ?_;rw [hq];refine zu ?_;rw [qrk ⟨hkind,hE,(by grind [qa9])⟩];refine zl hm 0 ?_;refine zS hm 1 fun w6 hm=>zw ?_;refine qj (R:=fun v w'=>v=.tuple #[qt t,ii 0]∧Ext w w') (zw ?_);refine zl hm 1 ?_;exact ⟨rfl,hm.ext⟩
  case' false=>
   have hv:qe7 kind s.data.toList=vBad:=qfl fun u hu=>by
    have e:=huniq u hu;subst e;have:(⟨(qae u).toArray⟩:ByteArray)=s:=qex hu.entry
    grind [qa9]
   refine zu ?_;rw [hq];refine zu ?_
 case' bad=>
  have hv:qe7 kind s.data.toList=vBad:=by grind [qfl]
  obtain rfl|⟨rfl,rfl⟩:ok=false∨(ok=true∧fi=false):=by grind
  all_goals
   refine zu ?_
 all_goals
  rw [hv];refine zS hm 1 fun w6 hm=>zw ?_;refine qj (R:=fun v w'=>v=vBad∧Ext w w') (zw ?_);refine zl hm 1 ?_;exact ⟨rfl,hm.ext⟩
open Go.RowKit Go.Extern.Stop Go.Stop Go.Extern
theorem qabc (t:Value) (w:World) :
  Calls Tryz.prog 52 #[.nilIface,t] w fun e w'=>e=.returned (.bool false)∧w'=w:=by
 go_enter Tryz.func52,Tryz.ntmps52
 go_wp2
 go_ret
 exact ⟨rfl,rfl⟩
def entV (x:LB × Nat × Nat):Value:=.tuple #[.string ⟨x.1.toArray⟩,ii x.2.1,ii x.2.2]
theorem q22 {B ahead:LB} {p:Nat} {first:Bool} {s y:Nat × Nat × Nat} (es:s=if first then (0,0,0) else numL B) (ey:y=numL (B.drop s.2.1)) :
  (if (entG B first ahead).2.2≠0 then ([],0,(entG B first ahead).2.2) else ((entG B first ahead).1,p+(entG B first ahead).2.1,0))=if s.2.2≠0 then ([],0,s.2.2) else if y.2.2≠0 then ([],0,y.2.2) else if ahead.length<s.1 then ([],0,161) else if 262144<y.1∨262144<s.1+y.1 then ([],0,2) else if B.length-s.2.1-y.2.1<y.1 then ([],0,10) else (ahead.take s.1++(B.drop (s.2.1+y.2.1)).take y.1,p+(s.2.1+y.2.1+y.1),0):=by
 have hg:entG B first ahead=if s.2.2≠0 then ([],0,s.2.2) else if y.2.2≠0 then ([],0,y.2.2) else if ahead.length<s.1 then ([],0,161) else if 262144<y.1∨262144<s.1+y.1 then ([],0,2) else if B.length-s.2.1-y.2.1<y.1 then ([],0,10) else (ahead.take s.1++(B.drop (s.2.1+y.2.1)).take y.1,s.2.1+y.2.1+y.1,0):=by
  rw [entG,← es,ey]
 rw [hg]
 (repeat' split)<;>simp_all
theorem qnt (b:Nat) (m:LB) (p:Nat) (first:Bool) (last:ByteArray) (w:World) (h:DictAt w b m) (hp:p≤4294967296) (hlast:last.size≤262144) :
  Gv Tryz.prog 322 [pp b,ii p,.bool first,.string last] w fun r w'=>r=entV (qew (qc m) p first last.data.toList)∧Ext w w':=by
 obtain ⟨⟨P,cp,E,ce,h1,h2,h3,h4⟩,h5,h6,h7,h8⟩:=h;obtain ⟨D,eD⟩:∃ D,D=qc m:=⟨_,rfl⟩
 rw [← eD] at h1 h3 h4 h8 ⊢;refine ze Tryz.func322 Tryz.ntmps322 ?_;refine zv ?_;refine LoadV.own h1 rfl (zw ?_);refine zt ?_;refine zC (fun _=>zw ?_) (fun _=>zw ?_)
 ·rw [qew,if_pos Oo];exact ⟨rfl,xr⟩
 refine LoadV.own h1 rfl (zw ?_);refine SliceV.bs h3 rfl p D.length ce rfl rfl rfl Oo znr h4 znr (fun h=>by cases h) ?_;intro A' hA';rw [List.take_of_length_le Js] at hA';(conv=>whnf);obtain ⟨B,eB⟩:∃ B,B=D.drop p:=⟨_,rfl⟩
 have hBl:B.length=D.length-p:=by rw [eB,zld]
 rw [← eB] at hA';have hvB:∀ w',Ext w w'→BS w' (.slice A' (D.length-p) (ce-p)) B:=fun w' he=>⟨A',ce-p,by rw [hBl],by rw [hBl];omega,hA'.ext he⟩
 refine zcv (qdr _ B w (hvB w xr)) ?_;rintro v w1 ⟨cb,rfl,hcb,hco,he1⟩;have hm:Mem w w1 [(cb,curO 367 (.slice A' (D.length-p) (ce-p)) 0 0)]:=(Mem.nil w).fresh he1 hcb hco;(conv=>whnf);obtain ⟨s,es⟩:∃ s:Nat × Nat × Nat,s=if first then (0,0,0) else numL B:=⟨_,rfl⟩
 have hsb:s.1<18446744073709551616∧s.2.1≤B.length:=by
  have:=qb5 B;rw [es];split
  ·exact ⟨by decide,Nat.zero_le _⟩
  ·exact ⟨this.1,this.2.1⟩
 obtain ⟨y,ey⟩:∃ y,y=numL (B.drop s.2.1):=⟨_,rfl⟩
 obtain ⟨Z,eZ⟩:∃ Z,Z=qew D p first last.data.toList:=⟨_,rfl⟩
 rw [← eZ];rw [qew,if_neg Oo,← eB,q22 es ey] at eZ;have hll:last.data.toList.length=last.size:=rfl;have hx1:=qb5 (B.drop s.2.1);rw [← ey,zld] at hx1;have hy:∀ q,q=y.2.2→(numL (B.drop s.2.1)).2.2=q:=by rintro q rfl;rw [ey]
 cases first
 case' false=>
  have es:s=numL B:=es;refine zv ?_;refine zcv (qde cb _ 0 0 B w1 (hm.get mh) (hvB w1 hm.ext) (Nat.zero_le _) Oo) ?_;rintro r w2 ⟨rfl,hu⟩
  by_cases he:(numL (B.drop 0)).2.2=0
  case' pos=>
   obtain ⟨q1,q2,q3⟩:=q1q he;rw [q2,q3,Nat.zero_add] at hu;rw [q1,show (numL (B.drop 0)).1=s.1 by rw [es];rfl];have hm:Mem w w2 [(cb,curO 367 (.slice A' (D.length-p) (ce-p)) s.2.1 0)]:=by rw [es];exact hm.upd (i:=0) rfl hu
   have e2:s.2.2=0:=by rw [es];exact he
  case neg=>
   obtain ⟨q1,q2,q3⟩:=q1p he;rw [q2,q3] at hu;rw [q1];have hm:Mem w w2 [(cb,curO 367 (.slice A' (D.length-p) (ce-p)) 0 (numL B).2.2)]:=hm.upd (i:=0) rfl hu;have he':(numL B).2.2≠0:=he;refine zcv (qe9 cb _ _ _ w2 (hm.get mh)) ?_;rintro r w3 ⟨rfl,rfl⟩;refine zu ?_;rw [eZ,if_pos (show s.2.2≠0 by rw [es];exact he'),es];exact ⟨rfl,hm.ext⟩
 case' true=>
  have es:s=(0,0,0):=es;have hm:Mem w w1 [(cb,curO 367 (.slice A' (D.length-p) (ce-p)) s.2.1 0)]:=by rw [es];exact hm
  have e2:s.2.2=0:=by rw [es]
  have hs1:s.1=0:=by rw [es]
  refine zv ?_
 all_goals
  refine zcv (qe9 cb _ _ 0 _ (hm.get mh)) ?_;rintro r w3 ⟨rfl,rfl⟩;refine zu ?_;refine zcv (qde cb _ s.2.1 0 B _ (hm.get mh) (hvB _ hm.ext) hsb.2 Oo) ?_;rintro r w4 ⟨rfl,hu⟩
  by_cases he2:y.2.2=0
  case neg=>
   obtain ⟨q1,q2,q3⟩:=q1p (show (numL (B.drop s.2.1)).2.2≠0 by rw [← ey];exact he2);rw [q2,q3,← ey] at hu;rw [q1];have hm:Mem w w4 [(cb,curO 367 (.slice A' (D.length-p) (ce-p)) s.2.1 y.2.2)]:=hm.upd (i:=0) rfl hu;refine zcv (qe9 cb _ _ _ w4 (hm.get mh)) ?_;rintro r w5 ⟨rfl,rfl⟩;refine zu ?_;rw [eZ,if_neg (show ¬ s.2.2≠0 by omega),if_pos he2];exact ⟨rfl,hm.ext⟩
  obtain ⟨q1,q2,q3⟩:=q1q (hy 0 he2.symm);rw [q2,q3,← ey] at hu;rw [q1,← ey];clear q1 q2 q3;have hm:Mem w w4 [(cb,curO 367 (.slice A' (D.length-p) (ce-p)) (s.2.1+y.2.1) 0)]:=hm.upd (i:=0) rfl hu;refine zcv (qe9 cb _ _ 0 w4 (hm.get mh)) ?_;rintro r w5 ⟨rfl,rfl⟩;rw [if_neg (show ¬ s.2.2≠0 by omega),if_neg (show ¬ y.2.2≠0 by omega)] at eZ;clear hy;conv=>whnf
  (repeat' (first|refine zp ?_|refine zC (fun _=>zw ?_) (fun _=>zw ?_)))
  all_goals first
   | exact ⟨by rw [eZ,if_pos Oo];rfl,hm.ext⟩
   | exact ⟨by rw [eZ,if_neg Oo,if_pos Oo];rfl,hm.ext⟩
   | skip
  rw [if_neg Oo,if_neg Oo] at eZ;refine zcv (qs2 cb _ (s.2.1+y.2.1) 0 B w5 (hm.get mh) (hvB w5 hm.ext) Oo Oo) ?_;rintro r w6 ⟨rfl,he6⟩;have hm:=hm.call he6;conv=>whnf
  (repeat' (first|refine zp ?_|refine zC (fun _=>zw ?_) (fun _=>zw ?_)))
  ·rw [eZ,if_pos Oo];exact ⟨rfl,hm.ext⟩
  rw [if_neg Oo] at eZ;subst eZ;refine zcv (qis cb _ (s.2.1+y.2.1) 0 w6 (hm.get mh)) ?_;rintro r w7 ⟨rfl,rfl⟩;refine zu ?_;refine zy ?_;have hm:=hm.drew;refine zv ?_;refine SliceS.at_ 0 s.1 rfl (by show (_:Int)=_;omega) Oo Oo (zu ?_);refine LoadV.own (hm.ext.get h1) rfl (zu ?_);refine SliceV.bs (h3.ext hm.ext) rfl (p+(s.2.1+y.2.1)) (p+(s.2.1+y.2.1)+y.1) ce (by show (_:Int)=_;omega) (by show (_:Int)=_;omega) rfl Oo Oo Oo znr (fun h=>by cases h) ?_;intro A2 hA2;refine zu ?_;rw [show ((D.drop (p+(s.2.1+y.2.1))).take (p+(s.2.1+y.2.1)+y.1-(p+(s.2.1+y.2.1))))=(B.drop (s.2.1+y.2.1)).take y.1 by rw [eB,List.drop_drop,Nat.add_sub_cancel_left]] at hA2;refine BytesS.sl hA2 (by rw [List.length_take,zld];omega) (zu ?_);have z1:(last.extract 0 s.1).size=s.1:=by rw [ByteArray.size_extract];omega
  have z2:(⟨((B.drop (s.2.1+y.2.1)).take y.1).toArray⟩:ByteArray).size=y.1:=by
   show (List.toArray _).size=_;rw [List.size_toArray,List.length_take,zld];omega
  refine Obl.mk (by rw [z1,z2];omega) ?_;rw [show last.extract 0 s.1++⟨((B.drop (s.2.1+y.2.1)).take y.1).toArray⟩=(⟨(last.data.toList.take s.1++(B.drop (s.2.1+y.2.1)).take y.1).toArray⟩:ByteArray) by
   apply ByteArray.ext;rw [← Array.toList_inj,ByteArray.data_append,ByteArray.data_extract];simp]
  refine zu ?_;refine ⟨?_,hm.ext⟩;rw [show ((p:Int)+((s.2.1+y.2.1:Nat):Int)+((y.1:Nat):Int))=((p+(s.2.1+y.2.1+y.1):Nat):Int) by omega];rfl
namespace V
def Fr (r:Option Nat):Fence:={ fn:=fun _=>True,depth:=none,alive:=false,round:=r }
theorem qck {r:Option Nat} {m:Nat} {P:Program} {f:FuncId} {args:Array Value} {w:World} {R:Ending→World→Prop}:CallsIn (Fr r) m P f args w R↔Calls P f args w R:=by
 show CallsIn Fence.wide m P f args w R↔_;exact callsIn_wide
def Sw (n:Nat) (ρ:Nat→Value) (a:Act):Prop:=St n ρ { a with defers:=[] }
theorem Sw.eval {n:Nat} {ρ:Nat→Value} {a:Act} (h:Sw n ρ a):a.eval=ev ρ:=by
 have:=St.eval h;rw [← this];rfl
theorem Sw.put {n:Nat} {ρ:Nat→Value} {a:Act} (h:Sw n ρ a) (ds:List Deferred) {dst:Option Tmp} {v:Value} {K:(Nat→Value)→Prop} (hk:putV n dst ρ v K) :
  ∃ ρ',Sw n ρ' ({ a with defers:=ds }.put dst v)∧({ a with defers:=ds }.put dst v).defers=ds∧K ρ':=by
 obtain ⟨ρ',h1,h2⟩:=putV.st hk h;refine ⟨ρ',?_,?_,h2⟩
 ·cases dst<;>exact h1
 ·cases dst<;>rfl
theorem Sw.st {n:Nat} {ρ:Nat→Value} {a:Act} (h:Sw n ρ a) (hd:a.defers=[]):St n ρ a:=by
 have:a={ a with defers:=[] }:=by cases a;cases hd;rfl
 rw [this];exact h
theorem St.sw {n:Nat} {ρ:Nat→Value} {a:Act} (h:St n ρ a):Sw n ρ a:=by
 have:a={ a with defers:=[] }:=by have:=h.defers;cases a;cases this;rfl
 grind [Sw]
structure YieldV (P:Program) (l:Nat) (args:List Value) (w:World) (K:Value→World→Prop):Prop where
 h:YieldAt (Fr none) 0 P l args.toArray w fun e w'=>∃ v,e=.returned v∧K v w'
theorem YieldV.mono {P:Program} {l:Nat} {args:List Value} {w:World} {K K':Value→World→Prop} (h:YieldV P l args w K) (hk:∀ v w',K v w'→K' v w'):YieldV P l args w K':=by
 obtain ⟨fn,tmps,asg,b,h1,h2⟩:=h.h;exact ⟨⟨fn,tmps,asg,b,h1,h2.mono (by grind)⟩⟩
def q7h (P:Program) (c:Call) (ty:TypeId) (ρ:Nat→Value) (w:World) (s:Sem Next) (K:Value→World→Prop):Prop:=
 match c.callee with
 | .value f=>match ev ρ f with
  | .func (.yield l) first captured=>match first.toList,captured.toList with
   | [],[]=>qby (evs ρ c.args.toList) fun vs=>YieldV P l vs w K
   | _,_=>False
  | .func (.func g) first captured=>qby (evs ρ c.args.toList) fun vs=>
   match first.toList,captured.toList with
   | [],[]=>CallV P g vs w K
   | x,y=>CallV P g (x++(vs++y)) w K
  | _=>Fall P s w K
 | .builtin .len=>lenV P (getL c.argTypes.toList 0) (evs ρ c.args.toList) w s K
 | .builtin .append=>appV P c.argTypes ty (evs ρ c.args.toList) w s K
 | .invoke recv name=>match ev ρ recv with
  | .iface t v=>qby (evs ρ c.args.toList) fun vs=>InvV P t v name vs w K
  | _=>Fall P s w K
 | _=>Fall P s w K
def defW (c:Call) (ρ:Nat→Value) (K:Deferred→Prop):Prop:=
 match c.callee with
 | .value f=>match ev ρ f with
  | .func (.func g) first captured=>match first.toList,captured.toList with
   | [],[]=>qby (evs ρ c.args.toList) fun vs=>K { target:=.fn (.func g) #[],args:=vs.toArray }
   | _,_=>False
  | _=>False
 | _=>False
def opW (P:Program) (r:Option Nat) (o:Oper) (ρ:Nat→Value) (ds:List Deferred) (w:World) (K:Value→List Deferred→World→Prop):Prop:=
 match o.op with
 | .call c=>q7h P c o.type ρ w (execOp (ev ρ) o) fun v w'=>K v ds w'
 | .defer c=>match r with
  | none=>defW c ρ fun d=>K undef (d::ds) w
  | some _=>False
 | _=>opV P o ρ w fun v w'=>K v ds w'
section
variable {P:Program} {n:Nat} {r:Option Nat}
theorem q2j {ρ:Nat→Value} {w:World} {o:Oper} {c:Call} {K:Value→World→Prop} (ho:o.op=.call c) (h:q7h P c o.type ρ w (execOp (ev ρ) o) K) :
  OpOk P (execOp (ev ρ) o) w K∨∃ l f tmps asg b,(execOp (ev ρ) o).run P w=.ok (.round l f tmps asg b) w∧RoundIn (Fr none) 0 P l f tmps asg b w fun e w'=>∃ v,e=.returned v∧K v w':=by
 have key:qw6 P c o.type ρ w (execOp (ev ρ) o) K→OpOk P (execOp (ev ρ) o) w K:=qr9 ho;unfold q7h at h;unfold qw6 at key
 split at h
 ·rename_i f hc
  simp only [hc] at key
  split at h
  ·rename_i l first captured hf
   split at h
   ·rename_i h1 h2
    rw [qap] at h;obtain ⟨f',tmps,asg,b,hy,hR⟩:=h.h;refine .inr ⟨l,f',tmps,asg,b,?_,hR⟩;have e1:first=#[]:=by simp_all
    have e2:captured=#[]:=by simp_all
    subst e1 e2;rw [qcz] at hy;have e3:(c.args.toList.map (ev ρ)).toArray=c.args.map (ev ρ):=by grind
    grind [execOp,resolve,Deferred.ofValue,invoke]
   ·exact h.elim
  all_goals grind
 all_goals grind
theorem q6g {o:Oper} {ρ:Nat→Value} {ds:List Deferred} {w:World} {K:Value→List Deferred→World→Prop} {a:Act} {next:Act→World→Prop} {Q:Exit→Act→World→Prop}
  (ha:Sw n ρ a) (hd:a.defers=ds) (h:opW P r o ρ ds w K) (hn:∀ v ds' w',K v ds' w'→next ({ a with defers:=ds' }.put o.dst v) w'):o.wpIn (Fr r) 0 P a w next Q:=by
 refine ⟨fun _ _=>trivial,?_⟩;have hds:({ a with defers:=ds }:Act)=a:=by subst hd;rfl
 have hn0:∀ v w',K v ds w'→next (a.put o.dst v) w':=(by grind)
 rw [ha.eval];unfold opW at h
 split at h
 ·rename_i c ho
  rw [Oper.semAt_eq _ _ _ (by intro c' e;rw [ho] at e;cases e)]
  rcases q2j ho h with ((⟨v,w',h1,h2⟩|⟨w',h1,h2⟩)|⟨f,args,h1,h2⟩)|⟨l,f,tmps,asg,b,h1,h2⟩
  ·rw [h1];exact hn0 _ _ h2
  ·rw [h1];exact hn0 _ _ h2
  ·rw [h1,Oper.uponIn_enter];refine ⟨(by grind [Fr]),qck.2 (h2.mono fun e w' ⟨v,he,hk⟩=>?_)⟩
   simp_all
  ·rw [h1,Oper.uponIn_round];refine ⟨(by grind [Fr]),?_⟩;have h2:RoundIn (Fr r) 0 P l f tmps asg b w _:=h2;refine h2.mono fun e w' ⟨v,he,hk⟩=>?_
   simp_all
 ·rename_i c ho
  split at h
  ·unfold defW at h
   split at h
   ·rename_i f hc
    split at h
    ·rename_i g first captured hf
     split at h
     ·rename_i h1 h2
      rw [qap] at h;have e1:first=#[]:=by simp_all
      have e2:captured=#[]:=by simp_all
      subst e1 e2;rw [qcz] at h;have e3:(c.args.toList.map (ev ρ)).toArray=c.args.map (ev ρ):=by grind
      simp_all [Oper.semAt_none,execOp,resolve,Deferred.ofValue,Fr,Oper.uponIn_defer]
     ·exact h.elim
    ·exact h.elim
   ·exact h.elim
  ·exact h.elim
 ·rename_i hn1 hn2
  rw [Oper.semAt_eq _ _ _ (fun c e=>hn2 c e)]
  rcases qzx h with (⟨v,w',h1,h2⟩|⟨w',h1,h2⟩)|⟨f,args,h1,h2⟩
  ·rw [h1];exact hn0 _ _ h2
  ·rw [h1];exact hn0 _ _ h2
  ·rw [h1,Oper.uponIn_enter];refine ⟨(by grind [Fr]),qck.2 (h2.mono fun e w' ⟨v,he,hk⟩=>?_)⟩
   simp_all
end
def runW (P:Program) (n:Nat) (r:Option Nat) (o:Oper) (K:(Nat→Value)→List Deferred→World→Prop) (ρ:Nat→Value) (ds:List Deferred) (w:World):Prop:=
 opW P r o ρ ds w fun v ds' w'=>putV n o.dst ρ v fun ρ'=>K ρ' ds' w'
def qq6 (n:Nat) (o:Oper) (K:(Nat→Value)→List Deferred→World→Prop) (ρ:Nat→Value) (ds:List Deferred) (w:World):Prop:=
 putV n o.dst ρ undef fun ρ'=>K ρ' ds w
def regW (P:Program) (n:Nat) (r:Option Nat) (ops:List Oper) (Q:(Nat→Value)→List Deferred→World→Prop):List Oper→(Nat→Value)→List Deferred→World→Prop
 | [],ρ,ds,w=>Q ρ ds w
 | o::rest,ρ,ds,w=>
  match o.guard with
  | none=>runW P n r o (regW P n r ops Q rest) ρ ds w
  | some (j,want)=>
   match getL ops j with
   | none=>qq6 n o (regW P n r ops Q rest) ρ ds w
   | some oj=>match oj.dst with
    | none=>qq6 n o (regW P n r ops Q rest) ρ ds w
    | some d=>bif Nat.blt d n then
      match ρ d with
      | .bool b=>Tst b
        (match want with
         | true=>runW P n r o (regW P n r ops Q rest) (upd ρ d (.bool true)) ds w
         | false=>qq6 n o (regW P n r ops Q rest) (upd ρ d (.bool true)) ds w)
        (match want with
         | true=>qq6 n o (regW P n r ops Q rest) (upd ρ d (.bool false)) ds w
         | false=>runW P n r o (regW P n r ops Q rest) (upd ρ d (.bool false)) ds w)
      | _=>qq6 n o (regW P n r ops Q rest) ρ ds w
     else False
abbrev QW:=Exit→(Nat→Value)→List Deferred→World→Prop
def seqW (K:(Nat→Value)→List Deferred→World→Prop) (Q:QW):QW
 | .normal,ρ,ds,w=>K ρ ds w
 | .exit i,ρ,ds,w=>Q (.exit i) ρ ds w
 | .goto l,ρ,ds,w=>Q (.goto l) ρ ds w
 | .ret,ρ,ds,w=>Q .ret ρ ds w
 | .panic c,ρ,ds,w=>Q (.panic c) ρ ds w
 | .outgrown,ρ,ds,w=>Q .outgrown ρ ds w
def qr3 (id:Nat) (Q:QW):QW
 | .normal,ρ,ds,w=>Q .normal ρ ds w
 | .exit i,ρ,ds,w=>bif Nat.beq i id then Q .normal ρ ds w else Q (.exit i) ρ ds w
 | .goto l,ρ,ds,w=>Q (.goto l) ρ ds w
 | .ret,ρ,ds,w=>Q .ret ρ ds w
 | .panic c,ρ,ds,w=>Q (.panic c) ρ ds w
 | .outgrown,ρ,ds,w=>Q .outgrown ρ ds w
def qdm (n:Nat) (Q:QW):Exit→Act→World→Prop:=fun e a w=>∃ ρ,Sw n ρ a∧Q e ρ a.defers w
structure LoopW (P:Program) (n:Nat) (r:Option Nat) (body:Code) (Q:QW) (ρ:Nat→Value) (ds:List Deferred) (w:World):Prop where
 h:∀ a,Sw n ρ a→a.defers=ds→(Code.loop body).wpIn (Fr r) 0 P (qdm n Q) a w
structure DrawW (P:Program) (n:Nat) (r:Option Nat) (id:Nat) (ops:Array Oper) (Q:QW) (ρ:Nat→Value) (ds:List Deferred) (w:World):Prop where
 h:∀ a,Sw n ρ a→a.defers=ds→(Code.region id ops true).wpIn (Fr r) 0 P (qdm n Q) a w
structure ScopeW (P:Program) (n:Nat) (r:Option Nat) (c:Code) (Q:QW) (ρ:Nat→Value) (ds:List Deferred) (w:World):Prop where
 h:∀ a,Sw n ρ a→a.defers=ds→(Code.scope c).wpIn (Fr r) 0 P (qdm n Q) a w
structure RangeW (P:Program) (n:Nat) (r:Option Nat) (f:Operand) (ps:Array Tmp) (assign body:Code) (Q:QW) (ρ:Nat→Value) (ds:List Deferred) (w:World):Prop where
 h:∀ a,Sw n ρ a→a.defers=ds→(Code.rangeFunc f ps assign body).wpIn (Fr r) 0 P (qdm n Q) a w
def qdw (P:Program) (n:Nat) (r:Option Nat):Code→QW→(Nat→Value)→List Deferred→World→Prop
 | .skip,Q,ρ,ds,w=>Q .normal ρ ds w
 | .region id ops draw,Q,ρ,ds,w=>
  match draw with
  | false=>regW P n r ops.toList (Q .normal) ops.toList ρ ds w
  | true=>DrawW P n r id ops Q ρ ds w
 | .seq a b,Q,ρ,ds,w=>qdw P n r a (seqW (qdw P n r b Q) Q) ρ ds w
 | .cond c t e,Q,ρ,ds,w=>
  match ev ρ c with
  | .bool b=>Tst b (qdw P n r t Q ρ ds w) (qdw P n r e Q ρ ds w)
  | _=>False
 | .block id c,Q,ρ,ds,w=>qdw P n r c (qr3 id Q) ρ ds w
 | .loop c,Q,ρ,ds,w=>LoopW P n r c Q ρ ds w
 | .exit id,Q,ρ,ds,w=>Q (.exit id) ρ ds w
 | .label _,Q,ρ,ds,w=>Q .normal ρ ds w
 | .ret,Q,ρ,ds,w=>Q .ret ρ ds w
 | .goto l,Q,ρ,ds,w=>Q (.goto l) ρ ds w
 | .scope c,Q,ρ,ds,w=>ScopeW P n r c Q ρ ds w
 | .rangeFunc f p a b,Q,ρ,ds,w=>RangeW P n r f p a b Q ρ ds w
 | .refuse _,_,_,_,_=>False
section
variable {P:Program} {n:Nat} {r:Option Nat}
theorem Sw.yield {ρ:Nat→Value} {a:Act} (ha:Sw n ρ a) {ops:List Oper} {j d:Nat} {oj:Oper} (hj:getL ops j=some oj) (hd:oj.dst=some d) (hn:d<n) :
  yielded ops.toArray a.tmps j=match ρ d with | .bool b=>some b|_=>none:=St.yield ha hj hd hn
theorem qqy {o:Oper} {ops:Array Oper} {ρ:Nat→Value} {ds:List Deferred} {w:World} {K:(Nat→Value)→List Deferred→World→Prop} {a:Act} {rest:List Oper} {Q':Exit→Act→World→Prop}
  (hg:Region.wanted o (yielded ops a.tmps)=true) (ha:Sw n ρ a) (hd:a.defers=ds) (h:runW P n r o K ρ ds w)
  (hk:∀ ρ' ds' a' w',Sw n ρ' a'→a'.defers=ds'→K ρ' ds' w'→wpListIn (Fr r) 0 P ops Q' rest a' w') :
  wpListIn (Fr r) 0 P ops Q' (o::rest) a w:=by
 unfold wpListIn;rw [if_pos hg];refine q6g ha hd h fun v ds' w' hp=>?_;obtain ⟨ρ',h1,h2,h3⟩:=ha.put ds' hp
 grind
theorem qgc {o:Oper} {ops:Array Oper} {ρ:Nat→Value} {ds:List Deferred} {w:World} {K:(Nat→Value)→List Deferred→World→Prop} {a:Act} {rest:List Oper} {Q':Exit→Act→World→Prop}
  (hg:Region.wanted o (yielded ops a.tmps)=false) (ha:Sw n ρ a) (hd:a.defers=ds) (h:qq6 n o K ρ ds w)
  (hk:∀ ρ' ds' a' w',Sw n ρ' a'→a'.defers=ds'→K ρ' ds' w'→wpListIn (Fr r) 0 P ops Q' rest a' w') :
  wpListIn (Fr r) 0 P ops Q' (o::rest) a w:=by
 unfold wpListIn;rw [if_neg (by rw [hg];simp)];refine ⟨fun _ _=>trivial,?_⟩;obtain ⟨ρ',h1,h2,h3⟩:=ha.put ds h;have e:({ a with defers:=ds }:Act)=a:=by subst hd;rfl
 grind
theorem q9n {ops:List Oper} {Q:(Nat→Value)→List Deferred→World→Prop} {Q':Exit→Act→World→Prop} (hQ:∀ ρ ds a w,Sw n ρ a→a.defers=ds→Q ρ ds w→Q' .normal a w) (l:List Oper) :
  ∀ (ρ:Nat→Value) (ds:List Deferred) (a:Act) (w:World),Sw n ρ a→a.defers=ds→regW P n r ops Q l ρ ds w→wpListIn (Fr r) 0 P ops.toArray Q' l a w:=by
 induction l with
 | nil=>intro ρ ds a w ha hd h;exact hQ _ _ _ _ ha hd h
 | cons o rest ih=>
  intro ρ ds a w ha hd h;unfold regW at h;have ih':∀ ρ' ds' a' w',Sw n ρ' a'→a'.defers=ds'→regW P n r ops Q rest ρ' ds' w'→wpListIn (Fr r) 0 P ops.toArray Q' rest a' w':=(by omega)
  split at h
  ·grind [qqy,Region.wanted]
  ·rename_i j want hg
   split at h
   ·grind [qax,qgc,Region.wanted,yielded]
   ·rename_i oj hj
    split at h
    ·grind [qgc,qax,Region.wanted,yielded]
    ·rename_i d hdd
     cases hn:Nat.blt d n<;>rw [hn] at h
     ·exact h.elim
     ·have hn':d<n:=by simpa using hn
      have hy:=ha.yield hj hdd hn';simp only [cond_true] at h
      split at h
      ·rename_i b hb
       rw [hb] at hy;cases b
       ·have h:=h.f rfl;have ha':Sw n _ a:=St.same ha hb
        grind [qqy,Region.wanted,qgc]
       ·have h:=h.t rfl;have ha':Sw n _ a:=St.same ha hb
        grind [qgc,Region.wanted,qqy]
      grind [qgc,Region.wanted]
theorem qy9 {K:(Nat→Value)→List Deferred→World→Prop} {Q:QW} {e:Exit} {a:Act} {w:World} (h:qdm n (seqW K Q) e a w) :
  Exit.then (fun a w=>∃ ρ,Sw n ρ a∧K ρ a.defers w) (qdm n Q) e a w:=by
 obtain ⟨ρ,h1,h2⟩:=h;cases e<;>exact ⟨ρ,h1,h2⟩
theorem qqc {id:Nat} {Q:QW} {e:Exit} {a:Act} {w:World} (h:qdm n (qr3 id Q) e a w) :
  Exit.inBlock id (qdm n Q) e a w:=by
 obtain ⟨ρ,h1,h2⟩:=h;cases e with
 | exit i=>
  by_cases hi:i=id
  ·have hb:Nat.beq i id=true:=by subst hi;simp
   simp only [qr3,hb,cond_true] at h2;simp only [Exit.inBlock,hi,if_true];exact ⟨ρ,h1,h2⟩
  ·have hb:Nat.beq i id=false:=(by grind [Nat.eq_of_beq_eq_true])
   simp only [qr3,hb,cond_false] at h2;simp only [Exit.inBlock,hi,if_false];exact ⟨ρ,h1,h2⟩
 | normal=>exact ⟨ρ,h1,h2⟩
 | goto l=>exact ⟨ρ,h1,h2⟩
 | ret=>exact ⟨ρ,h1,h2⟩
 | panic c=>exact ⟨ρ,h1,h2⟩
 | outgrown=>exact ⟨ρ,h1,h2⟩
theorem qdi (c:Code):∀ (Q:QW) (ρ:Nat→Value) (ds:List Deferred) (w:World),qdw P n r c Q ρ ds w→∀ a,Sw n ρ a→a.defers=ds→c.wpIn (Fr r) 0 P (qdm n Q) a w:=by
 induction c with
 | skip=>intro Q ρ ds w h a ha hd;subst hd;exact Go.wpIn_skip ⟨ρ,ha,h⟩
 | region id ops draw=>
  intro Q ρ ds w h a ha hd;cases draw
  ·refine wpIn_region_list ?_;have:=q9n (Q':=qdm n Q) (fun ρ ds a w ha hd h=>by subst hd;exact ⟨ρ,ha,h⟩) ops.toList ρ ds a w ha hd h;omega
  ·exact h.h a ha hd
 | seq x y hx hy=>
  intro Q ρ ds w h a ha hd;refine Go.wpIn_seq (Go.wpIn_mono (hx _ _ _ _ h a ha hd) fun e a w h=>?_);have:=qy9 h;cases e with
  | normal=>obtain ⟨ρ',h1,h2⟩:=this;exact hy _ _ _ _ h2 _ h1 rfl
  | exit i=>exact this
  | goto l=>exact this
  | ret=>exact this
  | panic c=>exact this
  | outgrown=>exact this
 | cond c t e ht he=>
  intro Q ρ ds w h a ha hd;unfold qdw at h
  split at h
  ·rename_i b hb
   refine Go.wpIn_cond_split (t:=b) (by rw [ha.eval,hb]) (fun e=>ht _ _ _ _ (h.t e) a ha hd) (fun e=>he _ _ _ _ (h.f e) a ha hd)
  ·exact h.elim
 | block id c hc=>
  intro Q ρ ds w h a ha hd;exact Go.wpIn_block (Go.wpIn_mono (hc _ _ _ _ h a ha hd) fun e a w h=>qqc h)
 | loop c hc=>intro Q ρ ds w h a ha hd;exact h.h a ha hd
 | rangeFunc f p x b hx hb=>intro Q ρ ds w h a ha hd;exact h.h a ha hd
 | exit id=>intro Q ρ ds w h a ha hd;subst hd;exact Go.wpIn_exit ⟨ρ,ha,h⟩
 | scope c hc=>intro Q ρ ds w h a ha hd;exact h.h a ha hd
 | label l=>intro Q ρ ds w h a ha hd;subst hd;exact Go.wpIn_label ⟨ρ,ha,h⟩
 | goto l=>intro Q ρ ds w h a ha hd;subst hd;exact Go.wpIn_goto ⟨ρ,ha,h⟩
 | ret=>intro Q ρ ds w h a ha hd;subst hd;exact Go.wpIn_ret ⟨ρ,ha,h⟩
 | refuse why=>intro Q ρ ds w h a ha hd;exact h.elim
theorem DrawW.of {id:Nat} {ops:Array Oper} {Q:QW} {ρ:Nat→Value} {w:World} (h:DrawV P n id ops (fun e ρ' w'=>Q e ρ' [] w') ρ w):DrawW P n none id ops Q ρ [] w:=by
 refine ⟨fun a ha hd=>?_⟩;have:=h.h a (ha.st hd);show (Code.region id ops true).wpIn Fence.wide 0 P _ a w;refine wpIn_wide.2 (Go.wp_mono this fun e a w ⟨ρ',h1,h2⟩=>⟨ρ',h1.sw,?_⟩);rw [h1.defers];exact h2
theorem qza {α:Type} (l:α→List (Nat × Value)) (I:α→World→Prop) (μ:α→Nat) {body:Code} {Q:QW} {ρ:Nat→Value} {ds:List Deferred} {w:World} (x0:α)
  (h0:qiq (l x0) ρ) (hI:I x0 w)
  (hr:∀ x w ρ',I x w→qdw P n r body (seqW (fun ρ'' ds'' w'=>ds''=ds∧∃ x',qiq (l x') ρ''∧I x' w'∧μ x'<μ x) Q) (over (l x) ρ') ds w):LoopW P n r body Q ρ ds w:=by
 refine ⟨fun a ha hd=>?_⟩;intro b k cs hro hb hroom;have key:∀ m x,μ x=m→∀ ρ a w,qiq (l x) ρ→Sw n ρ a→a.defers=ds→I x w→
   ∃ e a' w',qdm n Q e a' w'∧ArrivesIn (Machine.fenced P (Fr r)) P (lone (b.atR a (.code body::.inLoop body::k)) cs w) b k cs e a' w':=by
  intro m
  induction m using Nat.strongRecOn with
  | _ m ih=>
   intro x hm ρ a w hag hst hds hI;have h1:=hr x w ρ hI;rw [qjf hag] at h1;obtain ⟨e,a₁,w₁,hq,harr⟩:=qdi body _ _ _ _ h1 a hst hds b (.inLoop body::k) cs hro hb hroom;obtain ⟨ρ₁,hst₁,hq⟩:=hq;cases e with
   | normal=>
    obtain ⟨hds',x',hag',hI',hlt⟩:=hq;obtain ⟨e₂,a₂,w₂,hq₂,harr₂⟩:=ih (μ x') (hm ▸ hlt) x' rfl ρ₁ a₁ w₁ hag' hst₁ hds' hI';exact ⟨e₂,a₂,w₂,hq₂,.of_steps (StepsIn.trans harr (.one (fenced_calm hb hroom rfl) stepR_inLoop)) harr₂⟩
   | exit id=>exact ⟨_,a₁,w₁,⟨ρ₁,hst₁,hq⟩,.pass (x:=.inLoop body) rfl Js harr⟩
   | goto l=>exact ⟨_,a₁,w₁,⟨ρ₁,hst₁,hq⟩,.pass (x:=.inLoop body) rfl Js harr⟩
   | ret=>exact ⟨_,a₁,w₁,⟨ρ₁,hst₁,hq⟩,.pass (x:=.inLoop body) rfl Js harr⟩
   | panic ch=>exact ⟨_,a₁,w₁,⟨ρ₁,hst₁,hq⟩,.pass (x:=.inLoop body) rfl Js harr⟩
   | outgrown=>exact ⟨_,a₁,w₁,⟨ρ₁,hst₁,hq⟩,.pass (x:=.inLoop body) rfl Js harr⟩
 obtain ⟨e,a',w',hq,harr⟩:=key _ x0 rfl ρ a w h0 ha hd hI;exact ⟨e,a',w',hq,.of_steps (.one (fenced_calm hb hroom rfl) stepR_loop) harr⟩
structure LeaveV (P:Program) (n:Nat) (fn:Func) (R:Value→World→Prop) (ρ:Nat→Value) (ds:List Deferred) (w:World):Prop where
 h:∀ a,Sw n ρ a→LeavesInM (Fr none) 0 P fn a.tmps (fun e w'=>∃ v,e=.returned v∧R v w') ds .returning w
def qks (P:Program) (n:Nat) (fn:Func) (R:Value→World→Prop) (ρ:Nat→Value) (ds:List Deferred) (w:World):Prop:=
 match ds with
 | []=>resV fn.results ρ w fn R P n
 | d::ds=>LeaveV P n fn R ρ (d::ds) w
theorem qfz {fn:Func} {R:Value→World→Prop} {ρ:Nat→Value} {ds:List Deferred} {w:World} (h:qks P n fn R ρ ds w) {a:Act} (ha:Sw n ρ a) :
  LeavesInM (Fr none) 0 P fn a.tmps (fun e w'=>∃ v,e=.returned v∧R v w') ds .returning w:=by
 cases ds with
 | nil=>
  obtain ⟨v,h1,h2⟩:=qjl rfl ha h;exact ⟨v,h1,v,rfl,h2⟩
 | cons d ds=>exact h.h a ha
theorem LeaveV.mark {fn:Func} {R:Value→World→Prop} {ρ:Nat→Value} {D:Nat} {ds:List Deferred} {w:World} (h:w.heap[D]?=some (.deferred (some [])))
  (hk:∀ w',w'=setO w D (.deferred none)→qks P n fn R ρ ds w'):LeaveV P n fn R ρ ({ target:=.collected D,args:=#[] }::ds) w:=
 ⟨fun a ha=>⟨by simp,.inl ⟨D,_,rfl,run_takeDeferred h,qfz (hk _ rfl) ha⟩⟩⟩
def GvD (P:Program) (f:FuncId) (args:List Value) (w:World) (R:World→Prop):Prop:=
 qcm P f=true∧CallsDIn (Fr none) 0 P f args.toArray .returning w fun e u' w'=>u'=.returning∧∃ v,e=.returned v∧R w'
theorem LeaveV.call {fn:Func} {R:Value→World→Prop} {ρ:Nat→Value} {g:FuncId} {vs:List Value} {ds:List Deferred} {w:World}
  (h:GvD P g vs w fun w'=>qks P n fn R ρ ds w'):LeaveV P n fn R ρ ({ target:=.fn (.func g) #[],args:=vs.toArray }::ds) w:=by
 refine ⟨fun a ha=>⟨by simp,.inr ⟨(by grind [Fr]),.func g,#[],g,vs.toArray,rfl,?_,fun _ _=>trivial,?_⟩⟩⟩
 ·simp only [invoke,Array.append_empty];exact qce h.1 _
 ·refine h.2.mono ?_;rintro e u' w' ⟨rfl,v,rfl,hk⟩;exact qfz hk ha
def qadh (P:Program) (n:Nat) (fn:Func) (R:Value→World→Prop):QW
 | .normal,ρ,ds,w=>qks P n fn R ρ ds w
 | .ret,ρ,ds,w=>qks P n fn R ρ ds w
 | _,_,_,_=>False
theorem q56 {vs:List Value} {n:Nat} (hl:vs.length≤n):Sw n (ini vs) { tmps:=vs.toArray++Array.replicate (n-vs.toArray.size) undef,defers:=[] }:=by
 refine ⟨by simp;omega,fun t=>?_,rfl⟩;rw [q55,Array.getD_eq_getD_getElem?]
 grind
theorem gvW {f:FuncId} {fn:Func} {c:Code} {vs:List Value} {w:World} {R:Value→World→Prop} (he:qcm P f=true) (hf:P.funcs[f]?=some fn) (hb:fn.body=some c) (hn:fn.ntmps=n)
  (hl:Nat.ble vs.length n=true) (h:qdw P n none c (qadh P n fn R) (ini vs) [] w):Gv P f vs w R:=by
 have hl':vs.length≤n:=by simpa using hl
 refine ⟨he,qck (r:=none) (m:=0) |>.1 (callsIn_of_wp_marks hf hb trivial (Go.wpIn_mono (qdi c _ _ _ _ h _ (by rw [hn];exact q56 hl') rfl) fun e a w hq=>?_))⟩;obtain ⟨ρ,hst,hq⟩:=hq;cases e with
 | normal=>exact qfz hq hst
 | ret=>exact qfz hq hst
 | exit i=>exact hq.elim
 | goto i=>exact hq.elim
 | panic i=>exact hq.elim
 | outgrown=>exact hq.elim
theorem gvD {f:FuncId} {fn:Func} {c:Code} {vs:List Value} {w:World} {R:World→Prop} (he:qcm P f=true) (hf:P.funcs[f]?=some fn) (hb:fn.body=some c) (hn:fn.ntmps=n)
  (hl:Nat.ble vs.length n=true) (h:qgr P n c (q2g P n fn (fun _ w'=>R w')) (ini vs) w):GvD P f vs w R:=by
 have hl':vs.length≤n:=by simpa using hl
 have h1:c.wpIn (Fr none) 0 P (bodyPost P fn fun e w'=>∃ v,e=.returned v∧R w') { tmps:=vs.toArray++Array.replicate (fn.ntmps-vs.toArray.size) undef,defers:=[] } w:=by
  refine wpIn_wide.2 (Go.wp_mono (qh9 c _ _ _ h _ (by rw [hn];exact (q56 hl').st rfl)) fun e a w hq=>?_);obtain ⟨ρ,hst,hq⟩:=hq;cases e with
  | normal=>
   obtain ⟨v,h1,h2⟩:=qjl rfl hst hq;exact ⟨hst.defers,v,h1,v,rfl,h2⟩
  | ret=>
   obtain ⟨v,h1,h2⟩:=qjl rfl hst hq;exact ⟨hst.defers,v,h1,v,rfl,h2⟩
  | exit i=>exact hq.elim
  | goto i=>exact hq.elim
  | panic i=>exact hq.elim
  | outgrown=>exact hq.elim
 exact ⟨he,callsDIn_of_wp hf hb trivial h1⟩
theorem GvD.mono {f:FuncId} {vs:List Value} {w:World} {R R':World→Prop} (h:GvD P f vs w R) (hr:∀ w',R w'→R' w'):GvD P f vs w R':=
 ⟨h.1,h.2.mono (by grind)⟩
structure Carr (J:List (Nat × Obj)→World→Prop):Prop where
 ext:∀ {X w w'},J X w→Ext w w'→J X w'
 get:∀ {X w} {b:Nat} {o:Obj},J X w→(b,o)∈X→w.heap[b]?=some o
 new:∀ {X w} (o:Obj),J X w→J ((w.heap.size,o)::X) (w.alloc o)
 set:∀ {X w} {b:Nat} {o:Obj} (o':Obj),J ((b,o)::X) w→J ((b,o')::X) (setO w b o')
 drop:∀ {X w} {x:Nat × Obj},J (x::X) w→J X w
 perm:∀ {X Y w},J X w→X.Perm Y→J Y w
theorem Carr.tail {J:List (Nat × Obj)→World→Prop} (h:Carr J) (L:List (Nat × Obj)):Carr fun X w=>J (X++L) w:=
 ⟨h.ext,fun k hx=>h.get k (by grind),fun o k=>h.new o k,fun o' k=>h.set o' k,h.drop,fun k hp=>h.perm k (hp.append_right L)⟩
theorem Carr.any {α:Type} {J:α→List (Nat × Obj)→World→Prop} (h:∀ c,Carr (J c)):Carr fun X w=>∃ c,J c X w:=
 ⟨fun ⟨c,k⟩ he=>⟨c,(h c).ext k he⟩,(by grind [get]),(by grind [new]),(by grind [set]),fun ⟨c,k⟩=>⟨c,(h c).drop k⟩,fun ⟨c,k⟩ hp=>⟨c,(h c).perm k hp⟩⟩
def SeqV (P:Program) (gf:FuncId) (lb:List Value) (xs:List (List Value)) (Φ:World→Prop):Prop:=
 ∀ (l:Nat) (I Ix:Nat→World→Prop) (w:World),(∀ k w,I k w→Φ w)→(∀ k w w',I k w→Ext w w'→I k w')→(∀ k w w',Ix k w→Ext w w'→Ix k w')→I 0 w→
  (∀ k x w,xs[k]?=some x→I k w→YieldV P l x w fun v w'=>(v=.bool true∧I (k+1) w')∨(v=.bool false∧Ix k w'))→
  Gv P gf (.func (.yield l) #[] #[]::lb) w fun _ w'=>I xs.length w'∨∃ k,k<xs.length∧Ix k w'
def SeqC (P:Program) (gf:FuncId) (lb:List Value) (xs:List (List Value)) (Φ:World→Prop):Prop:=
 ∀ (l:Nat) (I Ix:Nat→List (Nat × Obj)→World→Prop) (w:World),(∀ k,Carr (I k))→(∀ k,Carr (Ix k))→(∀ k X w,I k X w→Φ w)→I 0 [] w→
  (∀ k x X w,xs[k]?=some x→I k X w→YieldV P l x w fun v w'=>(v=.bool true∧I (k+1) X w')∨(v=.bool false∧Ix k X w'))→
  Gv P gf (.func (.yield l) #[] #[]::lb) w fun _ w'=>I xs.length [] w'∨∃ k,k<xs.length∧Ix k [] w'
theorem SeqV.toC {P:Program} {gf:FuncId} {lb:List Value} {xs:List (List Value)} {Φ:World→Prop} (h:SeqV P gf lb xs Φ):SeqC P gf lb xs Φ:=
 fun l I Ix w hI hIx hw h0 hy=>h l (fun k w=>I k [] w) (fun k w=>Ix k [] w) w (by grind) (fun k _ _ g he=>(hI k).ext g he) (fun k _ _ g he=>(hIx k).ext g he) h0 (by grind)
def qox:List Tmp→List Value→(Nat→Value)→Nat→Value
 | p::ps,v::vs,ρ=>qox ps vs (upd ρ p v)
 | _,_,ρ=>ρ
theorem qtz:∀ (ps:List Tmp) (vs:List Value) (ρ:Nat→Value) (t:Array Value),ps.all (Nat.blt · n)=true→St n ρ ⟨t,[]⟩→
  St n (qox ps vs ρ) ⟨(ps.zip vs).foldl (fun t (p,v)=>t.setIfInBounds p v) t,[]⟩:=by
 intro ps
 induction ps with
 | nil=>intro vs ρ t _ h;exact h
 | cons p ps ih=>
  intro vs ρ t hp h;cases vs with
  | nil=>exact h
  | cons v vs=>
   simp only [List.all_cons,Bool.and_eq_true] at hp;exact ih vs _ _ hp.2 (h.put (by simp_all) v)
structure BeginV (w1 w2:World) (ds:List Deferred) (K:Prop):Prop where
 w:w2=w1
 d:ds=[]
 k:K
def q3v (K:(Nat→Value)→List Deferred→World→Prop):QW
 | .normal,ρ,ds,w=>K ρ ds w
 | _,_,_,_=>False
def qtt (J:World→Prop) (Jx:Code→World→Prop):QW
 | .normal,_,_,w=>J w
 | .ret,_,_,w=>Jx .ret w
 | .exit id,_,_,w=>Jx (.exit id) w
 | .goto t,_,_,w=>Jx (.goto t) w
 | _,_,_,_=>False
def qacy (c:Code) (Q:QW) (ρ:Nat→Value) (ds:List Deferred) (w:World):Prop:=
 match c with
 | .ret=>Q .ret ρ ds w
 | .exit id=>Q (.exit id) ρ ds w
 | .goto t=>Q (.goto t) ρ ds w
 | _=>False
theorem qtl {f:Operand} {ps:Array Tmp} {assign body:Code} {Q:QW} {ρ:Nat→Value} {ds:List Deferred} {w:World} {Φ:World→Prop} {gf:FuncId} {lb:List Value} {xs:List (List Value)}
  (hf:ev ρ f=.func (.func gf) #[] lb.toArray) (he:qcm P gf=true) (hseq:SeqC P gf lb xs Φ) (hpn:ps.toList.all (Nat.blt · n)=true) (hps:∀ x∈xs,x.length=ps.size)
  (J:Nat→List (Nat × Obj)→World→Prop) (Jx:Code→Nat→List (Nat × Obj)→World→Prop) (hJ:∀ k,Carr (J k)) (hJx:∀ c k,Carr (Jx c k)) (hw:∀ k X w,J k X w→Φ w) (h0:J 0 [] w)
  (hbody:∀ l D ob k x X w1 w2,xs[k]?=some x→J k ((l,ob)::(D,.deferred (some []))::X) w2→
   qdw P n (some l) assign (q3v fun ρ1 ds1 w1'=>BeginV w1 w1' ds1
    (qdw P n (some l) body (qtt (J (k+1) ((l,ob)::(D,.deferred (some []))::X)) (fun c=>Jx c k ((l,ob)::(D,.deferred (some []))::X))) ρ1 [] w2)) (qox ps.toList x ρ) [] w1)
  (hdone:∀ D w',J xs.length [(D,.deferred (some []))] w'→Q .normal ρ ({ target:=.collected D,args:=#[] }::ds) w')
  (hstop:∀ D c k w',k<xs.length→Jx c k [(D,.deferred (some []))] w'→qacy c Q ρ ({ target:=.collected D,args:=#[] }::ds) w'):RangeW P n none f ps assign body Q ρ ds w:=by
 refine ⟨fun a ha hd=>?_⟩;subst hd;refine wpIn_rangeFunc ?_;intro fn hfn;obtain ⟨rec,hrec⟩:∃ rec:LoopState→Option Code→Loop,rec=fun st pe=>{ state:=st,pending:=pe,fn,tmps:=a.tmps,params:=ps,assign,body,defers:=w.heap.size }:=⟨_,rfl⟩
 obtain ⟨W1,hW1⟩:∃ W1,(w.alloc (.deferred (some []))).alloc (.loop (rec .ready none))=W1:=⟨_,rfl⟩
 have hD:=(hJ 0).new (.deferred (some [])) h0;have hL:=(hJ 0).new (.loop (rec .ready none)) hD;rw [hW1,World.size_alloc] at hL;refine ⟨w.heap.size+1,[{ target:=.collected w.heap.size,args:=#[] }],W1,{ target:=.fn (.func gf) lb.toArray,args:=#[.func (.yield (w.heap.size+1)) #[] #[]] },W1,gf,
  #[.func (.yield (w.heap.size+1)) #[] #[]]++lb.toArray,W1,?_,?_,fun _ _=>trivial,?_,(by grind [Fr]),?_⟩
 ·rw [← hW1,hrec];exact run_enterLoop_outer _ _ _ _ _
 ·have:a.eval f=.func (.func gf) #[] lb.toArray:=by rw [ha.eval,hf]
  simp only [resolve,this];simp [go_sem]
 ·grind [invoke,qce]
 ·have ea:#[Value.func (.yield (w.heap.size+1)) #[] #[]]++lb.toArray=(Value.func (.yield (w.heap.size+1)) #[] #[]::lb).toArray:=by simp
  rw [ea];refine qck.2 ((hseq (w.heap.size+1) (fun k X W=>J k (X++[(w.heap.size+1,.loop (rec .ready none)),(w.heap.size,.deferred (some []))]) W)
   (fun k X W=>∃ c,Jx c k (X++[(w.heap.size+1,.loop (rec .done (some c))),(w.heap.size,.deferred (some []))]) W) W1
   (fun k=>(hJ k).tail _) (fun k=>Carr.any fun c=>(hJx c k).tail _) (by grind) hL ?_).2.mono ?_)
  ·intro k x X W hx hk;replace hk:=(hJ k).perm hk List.perm_append_comm;have hl:=(hJ k).get hk mh;have hy:=run_yield (P:=P) (args:=x.toArray) hl (by rw [hrec];simpa using hps x (zmg hx));rw [hrec] at hy;refine ⟨⟨fn,_,assign,body,hy,roundIn_of_wpIn hfn ?_⟩⟩;have h1:=hbody (w.heap.size+1) w.heap.size _ k x X W _ hx ((hJ k).set (.loop { rec .ready none with state:=.busy }) hk);have hz:(ps.zip x.toArray).foldl (fun t (p,v)=>t.setIfInBounds p v) a.tmps=(ps.toList.zip x).foldl (fun t (p,v)=>t.setIfInBounds p v) a.tmps:=by
    rw [← Array.foldl_toList];simp
   have hst:Sw n (qox ps.toList x ρ) { tmps:=(ps.zip x.toArray).foldl (fun t (p,v)=>t.setIfInBounds p v) a.tmps,defers:=[] }:=by
    rw [hz];exact qtz _ _ _ _ hpn ha
   refine Go.wpIn_mono (F:=Fr (some (w.heap.size+1))) (qdi assign _ _ _ _ h1 _ hst rfl) fun e a1 w1 hq=>?_;obtain ⟨ρ1,hst1,hq⟩:=hq;cases e with
   | normal=>
    obtain ⟨hw1,hd1,hb1⟩:=hq;subst hw1;refine ⟨_,run_beginRound hl (by rw [hrec]),?_⟩;refine Go.wpIn_mono (F:=Fr (some (w.heap.size+1))) (qdi body _ _ _ _ hb1 _ hst1 hd1) fun e a2 w2 hq=>?_;obtain ⟨ρ2,hst2,hq⟩:=hq;cases e with
    | normal=>
     refine ⟨_,_,run_endRound none ((hJ _).get hq mh),_,rfl,.inl ⟨rfl,?_⟩⟩;have:=(hJ (k+1)).perm ((hJ (k+1)).set (.loop (rec .ready none)) hq) (List.perm_append_comm (l₁:=[_,_]));rw [hrec] at this ⊢;exact this
    | ret=>
     refine ⟨_,_,run_endRound (some .ret) ((hJx _ _).get hq mh),_,rfl,.inr ⟨rfl,.ret,?_⟩⟩;have:=(hJx _ k).perm ((hJx _ k).set (.loop (rec .done (some .ret))) hq) (List.perm_append_comm (l₁:=[_,_]));rw [hrec] at this ⊢;exact this
    | exit id=>
     refine ⟨_,_,run_endRound (some (.exit id)) ((hJx _ _).get hq mh),_,rfl,.inr ⟨rfl,.exit id,?_⟩⟩;have:=(hJx _ k).perm ((hJx _ k).set (.loop (rec .done (some (.exit id)))) hq) (List.perm_append_comm (l₁:=[_,_]));rw [hrec] at this ⊢;exact this
    | goto t=>
     refine ⟨_,_,run_endRound (some (.goto t)) ((hJx _ _).get hq mh),_,rfl,.inr ⟨rfl,.goto t,?_⟩⟩;have:=(hJx _ k).perm ((hJx _ k).set (.loop (rec .done (some (.goto t)))) hq) (List.perm_append_comm (l₁:=[_,_]));rw [hrec] at this ⊢;exact this
    | panic ch=>exact hq.elim
    | outgrown=>exact hq.elim
   | ret=>exact hq.elim
   | exit id=>exact hq.elim
   | goto t=>exact hq.elim
   | panic ch=>exact hq.elim
   | outgrown=>exact hq.elim
  ·rintro e W2 ⟨v,rfl,h|⟨k,hk,c,h⟩⟩
   ·have hl:=(hJ _).get h mh;have:=run_endLoop (P:=P) hl (by rw [hrec];simp);rw [hrec] at this;exact ⟨none,_,this,ρ,ha,hdone _ _ ((hJ _).drop ((hJ _).set _ h))⟩
   ·have hl:=(hJx _ _).get h mh;have:=run_endLoop (P:=P) hl (by rw [hrec];simp);rw [hrec] at this;refine ⟨some c,_,this,?_⟩;have hs:=hstop _ c k _ hk ((hJx _ _).drop ((hJx _ _).set (.loop { rec .done (some c) with state:=.exhausted }) h));rw [hrec] at hs;cases c with
    | ret=>exact Go.wpIn_ret ⟨ρ,ha,hs⟩
    | exit id=>exact Go.wpIn_exit ⟨ρ,ha,hs⟩
    | goto t=>exact Go.wpIn_goto ⟨ρ,ha,hs⟩
    | _=>exact hs.elim
theorem Mem.glue {a b c:World} {L M:List (Nat × Obj)} (h:Mem a b L) (k:Mem b c M):Mem a c (M++L):=by
 refine ⟨h.ext.trans k.ext,fun x hx=>?_,?_⟩
 ·rcases List.mem_append.1 hx with hx|hx
  ·exact ⟨Nat.le_trans h.ext.size (k.own x hx).1,(k.own x hx).2⟩
  ·exact ⟨(h.own x hx).1,k.ext.get (h.own x hx).2⟩
 ·rw [List.map_append,List.nodup_append];refine ⟨k.nodup,h.nodup,?_⟩;intro u hu v hv e;obtain ⟨x,hx,rfl⟩:=List.mem_map.1 hu;obtain ⟨y,hy,rfl⟩:=List.mem_map.1 hv;have h1:=(k.own x hx).1;have h2:=h.lt (b:=y.1) (o:=y.2) hy;omega
theorem Mem.glue2 {a b c:World} {L M:List (Nat × Obj)} (h:Mem a b L) (k:Mem b c M):Mem a c (L++M):=(h.glue k).perm List.perm_append_comm
theorem Carr.mem {σ:Type} {w0:World} (A:σ→Prop) (L:σ→List (Nat × Obj)):Carr fun X w=>∃ s,A s∧Mem w0 w (X++L s):=by
 refine ⟨?_,?_,?_,?_,?_,?_⟩
 ·rintro X w w' ⟨s,hs,hm⟩ he;exact ⟨s,hs,hm.call he⟩
 ·rintro X w b o ⟨s,hs,hm⟩ hx;exact hm.get (by grind)
 ·rintro X w o ⟨s,hs,hm⟩;exact ⟨s,hs,hm.new rfl rfl⟩
 ·rintro X w b o o' ⟨s,hs,hm⟩;exact ⟨s,hs,hm.setO (i:=0) o' rfl rfl⟩
 ·rintro X w x ⟨s,hs,hm⟩;exact ⟨s,hs,hm.sub Js⟩
 ·rintro X Y w ⟨s,hs,hm⟩ hp;exact ⟨s,hs,hm.perm (hp.symm.append_right _)⟩
end
end V
end Go.Proofs.YtccmcfpmknpccaaGreatDoor
