/- Lemmas and contracts of functions on the way to the law's card (part 12 of 13). -/
import Derived.Test.YtajgbepghniciaaGreatDoorPV11
import Derived.Laws.CopyRow
import Derived.Laws.IdiomCopy
import Derived.Lib.LaidTab
import Derived.Test.YtajgbepghniciaaGreatDoorRows
import Derived.Deep.DeepHandedRow
import Derived.ProofKit
import Derived.OpenShut
namespace Go.Proofs.YtajgbepghniciaaGreatDoor
open Go.RowKit V
set_option maxRecDepth 100000
theorem V.LoadV.cellsE {w:World} {b o off:Nat} {vs:List Value} {v:Value} {K:Value→Prop} (h:CellsAt w b o vs) (j:Nat) (e:off=o+j) (hv:vs[j]?=some v) (hk:K v):LoadV w b off K:=by
 subst e;exact LoadV.cells h j hv hk
theorem qp3 (b:Nat) (l:List UInt8) (w:World) (h:TreeAt w b l):Gv Tryz.prog 28 [.pointer (some ⟨b,0,none⟩)] w fun r w'=>r=.int .i64 (vNum l 3)∧w'=w:=by
 obtain ⟨P3,cp3,S3,cs3,V3,hc3,hP3,hS3,hl3,hv3⟩:=(h.lv 3 (by omega)).h;refine zE Tryz.func28 Tryz.ntmps28 ?_;(conv=>whnf);refine zJ 3 ?_;(conv=>whnf);refine LoadV.cellsE hc3 0 (by rw [lvSz];first|done|rfl) rfl ?_;(conv=>whnf);exact ⟨rfl,rfl⟩
def zq:Array Value:=#[.int .i64 0,.int .i64 0,.int .i64 0,.int .i64 0]
def qep (l:List UInt8) (i:Nat):Value:=
 if i<vNum l 3∧tOk l i=true then .tuple #[.agg #[.int .i64 (tNum l i 0),.int .i64 (tNum l i 1),.int .i64 (tNum l i 2),.int .i64 (tNum l i 3)],.bool true] else .tuple #[.agg zq,.bool false]
theorem qdh {l:List UInt8} {i:Nat} (h:¬ tOk l i=true):qep l i=.tuple #[.agg zq,.bool false]:=by rw [qep,if_neg fun hx=>h hx.2]
theorem qdi {l:List UInt8} {i:Nat} (h:tOk l i=true) (j:Nat) (hj:j<4):qdt l i j=true:=by
 simp only [tOk,Bool.and_eq_true] at h;obtain ⟨⟨⟨h0,h1⟩,h2⟩,h3⟩:=h
 match j,hj with
 | 0,_=>exact h0
 | 1,_=>exact h1
 | 2,_=>exact h2
 | 3,_=>exact h3
theorem qzl (l:List UInt8) (i j k:Nat) (h:k=3-j):qhg (qk l k) (tUp l i j)=tUp l i (j+1):=by subst h;rw [tUp]
def tI (l:List UInt8) (i:Nat):Nat→Nat
 | 4=>tUp l i 3
 | j=>tUp l i j
def kv:Nat→Int
 | 0=>3
 | 1=>2
 | 2=>1
 | 3=>0
 | _=>-1
def qL (l:List UInt8) (i j:Nat):List Value:=[.int .i64 (if 3<j then tNum l i 0 else 0:Nat),.int .i64 (if 2<j then tNum l i 1 else 0:Nat),.int .i64 (if 1<j then tNum l i 2 else 0:Nat),.int .i64 (if 0<j then tNum l i 3 else 0:Nat)]
set_option maxHeartbeats 8000000 in
theorem qw8 (b:Nat) (l:List UInt8) (i:Nat) (w:World) (h:TreeAt w b l) (hi:i≤1048576):Gv Tryz.prog 66 [.pointer (some ⟨b,0,none⟩),.int .i64 i] w fun v w'=>v=qep l i∧Ext w w':=by
 obtain ⟨P0,cp0,S0,cs0,V0,hc0,hP0,hS0,hl0,hv0⟩:=(h.lv 0 (by omega)).h;obtain ⟨P1,cp1,S1,cs1,V1,hc1,hP1,hS1,hl1,hv1⟩:=(h.lv 1 (by omega)).h;obtain ⟨P2,cp2,S2,cs2,V2,hc2,hP2,hS2,hl2,hv2⟩:=(h.lv 2 (by omega)).h;obtain ⟨P3,cp3,S3,cs3,V3,hc3,hP3,hS3,hl3,hv3⟩:=(h.lv 3 (by omega)).h;refine zE Tryz.func66 Tryz.ntmps66 ?_;(conv=>whnf);refine NewV.mem (Mem.nil w) ?_;intro rb w1 hm;have hm:Mem w w1 [(rb,.cells zq 153 (0,0))]:=hm;(conv=>whnf);refine zN (fun _=>?_);(conv=>whnf);(iterate 2 (refine zU ?_;(conv=>whnf)));refine CallV.of (qp3 b l w1 (h.ext hm.ext)) ?_;rintro r w2 ⟨rfl,rfl⟩;(conv=>whnf);(iterate 2 (refine zU ?_;(conv=>whnf)));refine zC (fun _=>?_) (fun _=>?_)<;>(conv=>whnf)
 ·refine StoreA.all hm (i:=0) rfl rfl (by decide) ?_;intro w9 hm;(conv=>whnf);refine qa (R:=fun v w'=>v=qep l i∧Ext w w') ?_;(conv=>whnf);refine zL hm 0 ?_;(conv=>whnf);exact ⟨by rw [qep,if_neg (fun hx=>by omega)];rfl,hm.ext⟩
 have hi3:i<vNum l 3:=by omega
 refine NewV.mem hm ?_;intro qb w3 hm;have hm:Mem w w3 [(qb,.cells (qL l i 0).toArray 153 (0,0)),(rb,.cells zq 153 (0,0))]:=hm;(conv=>whnf);refine qm (fun j:Nat=>[(0,.pointer (some ⟨b,0,none⟩)),(1,.int .i64 (tI l i j)),(4,.pointer (some ⟨rb,0,none⟩)),(5,.bool false),(6,.pointer (some ⟨qb,0,none⟩)),(7,.int .i64 (kv j))])
  (fun j w'=>j≤4∧(∀ m,m<j→qdt l i m=true)∧Mem w w' [(qb,.cells (qL l i j).toArray 153 (0,0)),(rb,.cells zq 153 (0,0))]) (fun j=>4-j) 0 ⟨rfl,rfl,rfl,rfl,rfl,rfl,trivial⟩ ⟨by omega,fun m hm=>by omega,hm⟩ ?_
 clear hm;rintro j w4 ρ' ⟨j1,hf,hm⟩;obtain rfl|rfl|rfl|rfl|rfl:j=0∨j=1∨j=2∨j=3∨j=4:=by omega
 ·have hn3:=h.n 3 (by omega);have hkv:kv 0=3:=rfl;obtain ⟨y,ey0⟩:∃ y,y=tI l i 0:=⟨_,rfl⟩
  rw [← ey0];have ey:y=tUp l i 0:=ey0;(conv=>whnf);refine zY (fun _=>?_);(conv=>whnf);refine zJ 3 ?_;(conv=>whnf);refine LoadV.cellsE (hc3.ext hm.ext) 0 (by rw [lvSz];first|done|rfl) rfl ?_;conv=>whnf
  (repeat' (first|((with_reducible refine zT ?_);(conv=>whnf))|((with_reducible refine zU ?_);(conv=>whnf))|((with_reducible refine zC (fun _=>?_) (fun _=>?_))<;>first|(exfalso;omega)|(conv=>whnf))))
  ·refine StoreA.all hm (i:=1) rfl rfl (by decide) ?_;intro w9 hm;(conv=>whnf);refine qa (R:=fun v w'=>v=qep l i∧Ext w w') ?_;(conv=>whnf);refine zL hm 1 ?_;(conv=>whnf);exact ⟨by rw [qdh (fun hq=>by have hq2:=qdi hq 0 (by omega);have e:qdt l i 0=(decide (y<vNum l 3)&&(decide (0=3)||tVec l 3)):=(by subst ey;rfl);rw [e,decide_eq_false (show ¬ y<vNum l 3 by omega)] at hq2;simp at hq2)];rfl,hm.ext⟩
  rcases hv3 with ⟨hx|hx,rfl⟩|⟨_,htv,vb,rfl,hvo⟩
  ·omega
  ·refine LoadV.cellsE (hc3.ext hm.ext) 7 (by rw [lvSz];first|done|rfl) rfl ?_;(conv=>whnf);(iterate 2 (refine zT ?_;(conv=>whnf);refine zU ?_;(conv=>whnf)));refine Tst.yes rfl ?_;(conv=>whnf);refine StoreA.all hm (i:=1) rfl rfl (by decide) ?_;intro w9 hm;(conv=>whnf);refine qa (R:=fun v w'=>v=qep l i∧Ext w w') ?_;(conv=>whnf);refine zL hm 1 ?_;(conv=>whnf);exact ⟨by rw [qdh (fun hq=>by have hq2:=qdi hq 0 (by omega);have e:qdt l i 0=(decide (y<vNum l 3)&&(decide (0=3)||tVec l 3)):=(by subst ey;rfl);rw [e,show tVec l 3=false from hx] at hq2;simp at hq2)];rfl,hm.ext⟩
  refine LoadV.cellsE (hc3.ext hm.ext) 7 (by rw [lvSz];first|done|rfl) rfl ?_;(conv=>whnf);(iterate 2 (refine zT ?_;(conv=>whnf);refine zU ?_;(conv=>whnf)));refine Tst.no rfl ?_;(conv=>whnf);refine CallV.of (qdj b _ y (tw l 3) cp3 P3 (qr l 3) _ (by rw [lvSz];exact (hc3.ext hm.ext) 1 _ rfl) (by rw [lvSz];exact (hc3.ext hm.ext) 5 _ rfl) (hP3.ext hm.ext) (h.wd 3 (by omega)) (by omega)) ?_;rintro r w10 ⟨rfl,he10⟩;have hm:=hm.call he10;(conv=>whnf);refine zJ 3 ?_;(conv=>whnf);refine StoreV.mem hm (i:=0) rfl (by show 0+3*tsz _ _<4;rw [show tsz Tryz.prog 3=1 from by kernel_rfl];decide) rfl ?_;intro w11 hm;rw [ey] at hm;have hm:Mem w w11 [(qb,.cells (qL l i (0+1)).toArray 153 (0,0)),(rb,.cells zq 153 (0,0))]:=hm;(conv=>whnf);refine zY (fun _=>?_);(conv=>whnf);have htv2:=htv;simp only [tVec,Bool.and_eq_true,decide_eq_true_eq] at htv2;obtain ⟨⟨hvok,hvn⟩,hvm⟩:=htv2;refine LoadV.cellsE (hc3.ext hm.ext) 7 (by rw [lvSz];first|done|rfl) rfl ?_;(conv=>whnf);refine CallV.of (qk8 (qk l 3) S3 cs3 vb y w11 (hS3.ext hm.ext) hl3 hvok (by rw [hvn,hvm];exact hm.ext.get hvo) (by omega)) ?_;rintro r w12 ⟨rfl,he12⟩;have hm:=hm.call he12;(conv=>whnf);refine zA ?_;(conv=>whnf);refine ⟨0+1,⟨rfl,congrArg (fun n:Nat=>Value.int .i64 (n:Int)) (show qhg (qk l 3) y=tI l i (0+1) by rw [ey];exact qzl l i 0 3 rfl),rfl,rfl,rfl,rfl,trivial⟩,⟨by omega,fun m hm'=>?_,hm⟩,by omega⟩
  by_cases e:m=0
  ·subst e;have e:qdt l i 0=(decide (y<vNum l 3)&&(decide (0=3)||tVec l 3)):=(by subst ey;rfl);rw [e,decide_eq_true (show y<vNum l 3 by omega),htv];simp
  ·exact hf m (by omega)
 ·have hn2:=h.n 2 (by omega);have hkv:kv 1=2:=rfl;obtain ⟨y,ey0⟩:∃ y,y=tI l i 1:=⟨_,rfl⟩
  rw [← ey0];have ey:y=tUp l i 1:=ey0;(conv=>whnf);refine zY (fun _=>?_);(conv=>whnf);refine zJ 2 ?_;(conv=>whnf);refine LoadV.cellsE (hc2.ext hm.ext) 0 (by rw [lvSz];first|done|rfl) rfl ?_;conv=>whnf
  (repeat' (first|((with_reducible refine zT ?_);(conv=>whnf))|((with_reducible refine zU ?_);(conv=>whnf))|((with_reducible refine zC (fun _=>?_) (fun _=>?_))<;>first|(exfalso;omega)|(conv=>whnf))))
  ·refine StoreA.all hm (i:=1) rfl rfl (by decide) ?_;intro w9 hm;(conv=>whnf);refine qa (R:=fun v w'=>v=qep l i∧Ext w w') ?_;(conv=>whnf);refine zL hm 1 ?_;(conv=>whnf);exact ⟨by rw [qdh (fun hq=>by have hq2:=qdi hq 1 (by omega);have e:qdt l i 1=(decide (y<vNum l 2)&&(decide (1=3)||tVec l 2)):=(by subst ey;rfl);rw [e,decide_eq_false (show ¬ y<vNum l 2 by omega)] at hq2;simp at hq2)];rfl,hm.ext⟩
  rcases hv2 with ⟨hx|hx,rfl⟩|⟨_,htv,vb,rfl,hvo⟩
  ·omega
  ·refine LoadV.cellsE (hc2.ext hm.ext) 7 (by rw [lvSz];first|done|rfl) rfl ?_;(conv=>whnf);(iterate 2 (refine zT ?_;(conv=>whnf);refine zU ?_;(conv=>whnf)));refine Tst.yes rfl ?_;(conv=>whnf);refine StoreA.all hm (i:=1) rfl rfl (by decide) ?_;intro w9 hm;(conv=>whnf);refine qa (R:=fun v w'=>v=qep l i∧Ext w w') ?_;(conv=>whnf);refine zL hm 1 ?_;(conv=>whnf);exact ⟨by rw [qdh (fun hq=>by have hq2:=qdi hq 1 (by omega);have e:qdt l i 1=(decide (y<vNum l 2)&&(decide (1=3)||tVec l 2)):=(by subst ey;rfl);rw [e,show tVec l 2=false from hx] at hq2;simp at hq2)];rfl,hm.ext⟩
  refine LoadV.cellsE (hc2.ext hm.ext) 7 (by rw [lvSz];first|done|rfl) rfl ?_;(conv=>whnf);(iterate 2 (refine zT ?_;(conv=>whnf);refine zU ?_;(conv=>whnf)));refine Tst.no rfl ?_;(conv=>whnf);refine CallV.of (qdj b _ y (tw l 2) cp2 P2 (qr l 2) _ (by rw [lvSz];exact (hc2.ext hm.ext) 1 _ rfl) (by rw [lvSz];exact (hc2.ext hm.ext) 5 _ rfl) (hP2.ext hm.ext) (h.wd 2 (by omega)) (by omega)) ?_;rintro r w10 ⟨rfl,he10⟩;have hm:=hm.call he10;(conv=>whnf);refine zJ 2 ?_;(conv=>whnf);refine StoreV.mem hm (i:=0) rfl (by show 0+2*tsz _ _<4;rw [show tsz Tryz.prog 3=1 from by kernel_rfl];decide) rfl ?_;intro w11 hm;rw [ey] at hm;have hm:Mem w w11 [(qb,.cells (qL l i (1+1)).toArray 153 (0,0)),(rb,.cells zq 153 (0,0))]:=hm;(conv=>whnf);refine zY (fun _=>?_);(conv=>whnf);have htv2:=htv;simp only [tVec,Bool.and_eq_true,decide_eq_true_eq] at htv2;obtain ⟨⟨hvok,hvn⟩,hvm⟩:=htv2;refine LoadV.cellsE (hc2.ext hm.ext) 7 (by rw [lvSz];first|done|rfl) rfl ?_;(conv=>whnf);refine CallV.of (qk8 (qk l 2) S2 cs2 vb y w11 (hS2.ext hm.ext) hl2 hvok (by rw [hvn,hvm];exact hm.ext.get hvo) (by omega)) ?_;rintro r w12 ⟨rfl,he12⟩;have hm:=hm.call he12;(conv=>whnf);refine zA ?_;(conv=>whnf);refine ⟨1+1,⟨rfl,congrArg (fun n:Nat=>Value.int .i64 (n:Int)) (show qhg (qk l 2) y=tI l i (1+1) by rw [ey];exact qzl l i 1 2 rfl),rfl,rfl,rfl,rfl,trivial⟩,⟨by omega,fun m hm'=>?_,hm⟩,by omega⟩
  by_cases e:m=1
  ·subst e;have e:qdt l i 1=(decide (y<vNum l 2)&&(decide (1=3)||tVec l 2)):=(by subst ey;rfl);rw [e,decide_eq_true (show y<vNum l 2 by omega),htv];simp
  ·exact hf m (by omega)
 ·have hn1:=h.n 1 (by omega);have hkv:kv 2=1:=rfl;obtain ⟨y,ey0⟩:∃ y,y=tI l i 2:=⟨_,rfl⟩
  rw [← ey0];have ey:y=tUp l i 2:=ey0;(conv=>whnf);refine zY (fun _=>?_);(conv=>whnf);refine zJ 1 ?_;(conv=>whnf);refine LoadV.cellsE (hc1.ext hm.ext) 0 (by rw [lvSz];first|done|rfl) rfl ?_;conv=>whnf
  (repeat' (first|((with_reducible refine zT ?_);(conv=>whnf))|((with_reducible refine zU ?_);(conv=>whnf))|((with_reducible refine zC (fun _=>?_) (fun _=>?_))<;>first|(exfalso;omega)|(conv=>whnf))))
  ·refine StoreA.all hm (i:=1) rfl rfl (by decide) ?_;intro w9 hm;(conv=>whnf);refine qa (R:=fun v w'=>v=qep l i∧Ext w w') ?_;(conv=>whnf);refine zL hm 1 ?_;(conv=>whnf);exact ⟨by rw [qdh (fun hq=>by have hq2:=qdi hq 2 (by omega);have e:qdt l i 2=(decide (y<vNum l 1)&&(decide (2=3)||tVec l 1)):=(by subst ey;rfl);rw [e,decide_eq_false (show ¬ y<vNum l 1 by omega)] at hq2;simp at hq2)];rfl,hm.ext⟩
  rcases hv1 with ⟨hx|hx,rfl⟩|⟨_,htv,vb,rfl,hvo⟩
  ·omega
  ·refine LoadV.cellsE (hc1.ext hm.ext) 7 (by rw [lvSz];first|done|rfl) rfl ?_;(conv=>whnf);(iterate 2 (refine zT ?_;(conv=>whnf);refine zU ?_;(conv=>whnf)));refine Tst.yes rfl ?_;(conv=>whnf);refine StoreA.all hm (i:=1) rfl rfl (by decide) ?_;intro w9 hm;(conv=>whnf);refine qa (R:=fun v w'=>v=qep l i∧Ext w w') ?_;(conv=>whnf);refine zL hm 1 ?_;(conv=>whnf);exact ⟨by rw [qdh (fun hq=>by have hq2:=qdi hq 2 (by omega);have e:qdt l i 2=(decide (y<vNum l 1)&&(decide (2=3)||tVec l 1)):=(by subst ey;rfl);rw [e,show tVec l 1=false from hx] at hq2;simp at hq2)];rfl,hm.ext⟩
  refine LoadV.cellsE (hc1.ext hm.ext) 7 (by rw [lvSz];first|done|rfl) rfl ?_;(conv=>whnf);(iterate 2 (refine zT ?_;(conv=>whnf);refine zU ?_;(conv=>whnf)));refine Tst.no rfl ?_;(conv=>whnf);refine CallV.of (qdj b _ y (tw l 1) cp1 P1 (qr l 1) _ (by rw [lvSz];exact (hc1.ext hm.ext) 1 _ rfl) (by rw [lvSz];exact (hc1.ext hm.ext) 5 _ rfl) (hP1.ext hm.ext) (h.wd 1 (by omega)) (by omega)) ?_;rintro r w10 ⟨rfl,he10⟩;have hm:=hm.call he10;(conv=>whnf);refine zJ 1 ?_;(conv=>whnf);refine StoreV.mem hm (i:=0) rfl (by show 0+1*tsz _ _<4;rw [show tsz Tryz.prog 3=1 from by kernel_rfl];decide) rfl ?_;intro w11 hm;rw [ey] at hm;have hm:Mem w w11 [(qb,.cells (qL l i (2+1)).toArray 153 (0,0)),(rb,.cells zq 153 (0,0))]:=hm;(conv=>whnf);refine zY (fun _=>?_);(conv=>whnf);have htv2:=htv;simp only [tVec,Bool.and_eq_true,decide_eq_true_eq] at htv2;obtain ⟨⟨hvok,hvn⟩,hvm⟩:=htv2;refine LoadV.cellsE (hc1.ext hm.ext) 7 (by rw [lvSz];first|done|rfl) rfl ?_;(conv=>whnf);refine CallV.of (qk8 (qk l 1) S1 cs1 vb y w11 (hS1.ext hm.ext) hl1 hvok (by rw [hvn,hvm];exact hm.ext.get hvo) (by omega)) ?_;rintro r w12 ⟨rfl,he12⟩;have hm:=hm.call he12;(conv=>whnf);refine zA ?_;(conv=>whnf);refine ⟨2+1,⟨rfl,congrArg (fun n:Nat=>Value.int .i64 (n:Int)) (show qhg (qk l 1) y=tI l i (2+1) by rw [ey];exact qzl l i 2 1 rfl),rfl,rfl,rfl,rfl,trivial⟩,⟨by omega,fun m hm'=>?_,hm⟩,by omega⟩
  by_cases e:m=2
  ·subst e;have e:qdt l i 2=(decide (y<vNum l 1)&&(decide (2=3)||tVec l 1)):=(by subst ey;rfl);rw [e,decide_eq_true (show y<vNum l 1 by omega),htv];simp
  ·exact hf m (by omega)
 ·have hn0:=h.n 0 (by omega);have hkv:kv 3=0:=rfl;obtain ⟨y,ey0⟩:∃ y,y=tI l i 3:=⟨_,rfl⟩
  rw [← ey0];have ey:y=tUp l i 3:=ey0;(conv=>whnf);refine zY (fun _=>?_);(conv=>whnf);refine zJ 0 ?_;(conv=>whnf);refine LoadV.cellsE (hc0.ext hm.ext) 0 (by rw [lvSz];first|done|rfl) rfl ?_;conv=>whnf
  (repeat' (first|((with_reducible refine zT ?_);(conv=>whnf))|((with_reducible refine zU ?_);(conv=>whnf))|((with_reducible refine zC (fun _=>?_) (fun _=>?_))<;>first|(exfalso;omega)|(conv=>whnf))))
  ·refine StoreA.all hm (i:=1) rfl rfl (by decide) ?_;intro w9 hm;(conv=>whnf);refine qa (R:=fun v w'=>v=qep l i∧Ext w w') ?_;(conv=>whnf);refine zL hm 1 ?_;(conv=>whnf);exact ⟨by rw [qdh (fun hq=>by have hq2:=qdi hq 3 (by omega);have e:qdt l i 3=(decide (y<vNum l 0)&&(decide (3=3)||tVec l 0)):=(by subst ey;rfl);rw [e,decide_eq_false (show ¬ y<vNum l 0 by omega)] at hq2;simp at hq2)];rfl,hm.ext⟩
  refine CallV.of (qdj b _ y (tw l 0) cp0 P0 (qr l 0) _ (by rw [lvSz];exact (hc0.ext hm.ext) 1 _ rfl) (by rw [lvSz];exact (hc0.ext hm.ext) 5 _ rfl) (hP0.ext hm.ext) (h.wd 0 (by omega)) (by omega)) ?_;rintro r w10 ⟨rfl,he10⟩;have hm:=hm.call he10;(conv=>whnf);refine zJ 0 ?_;(conv=>whnf);refine StoreV.mem hm (i:=0) rfl (by show 0+0*tsz _ _<4;rw [show tsz Tryz.prog 3=1 from by kernel_rfl];decide) rfl ?_;intro w11 hm;rw [ey] at hm;have hm:Mem w w11 [(qb,.cells (qL l i (3+1)).toArray 153 (0,0)),(rb,.cells zq 153 (0,0))]:=hm;(conv=>whnf);refine zN (fun _=>?_);(conv=>whnf);refine zA ?_;(conv=>whnf);refine ⟨3+1,⟨rfl,congrArg (fun n:Nat=>Value.int .i64 (n:Int)) ey,rfl,rfl,rfl,rfl,trivial⟩,⟨by omega,fun m hm'=>?_,hm⟩,by omega⟩
  by_cases e:m=3
  ·subst e;have e:qdt l i 3=(decide (y<vNum l 0)&&(decide (3=3)||tVec l 0)):=(by subst ey;rfl);rw [e,decide_eq_true (show y<vNum l 0 by omega)];simp
  ·exact hf m (by omega)
 ·have hkv:kv 4=-1:=rfl;(conv=>whnf);refine zN (fun _=>?_);(conv=>whnf);refine zL hm 0 ?_;(conv=>whnf);refine StoreA.all hm (i:=1) rfl rfl (by intro v hv;simp at hv;rcases hv with rfl|rfl|rfl|rfl<;>rfl) ?_;intro w9 hm;(conv=>whnf);refine qa (R:=fun v w'=>v=qep l i∧Ext w w') ?_;(conv=>whnf);refine zL hm 1 ?_;(conv=>whnf);have hok:tOk l i=true:=by rw [tOk,hf 0 (by omega),hf 1 (by omega),hf 2 (by omega),hf 3 (by omega)];rfl
  have hg:qep l i=.tuple #[.agg #[.int .i64 (tNum l i 0),.int .i64 (tNum l i 1),.int .i64 (tNum l i 2),.int .i64 (tNum l i 3)],.bool true]:=if_pos ⟨hi3,hok⟩;exact ⟨by rw [hg];rfl,hm.ext⟩
open Go.RowKit V
set_option maxRecDepth 100000
def OkR (E:Nat × Nat) (Ok:Nat→World→Prop) (v:Value) (w:World):Prop:=
 (E.2≠0∧∃ e,v=.tuple #[.pointer none,e]∧ErrAt w e E.1 E.2)∨(E.2=0∧∃ b,v=.tuple #[.pointer (some ⟨b,0,none⟩),.nilIface]∧Ok b w)
set_option maxHeartbeats 1000000 in
theorem qnk (fb n cc place:Nat) (W:Option Addr) (w:World) (h1:w.cell? ⟨fb,4,none⟩=some (.slice W n cc)) (h2:w.cell? ⟨fb,6,none⟩=some (.int .i64 place)) (hpl:place≤1152921504606846976) (hG:ErrTyp w) (f:FuncId) (E:Nat × Nat) (hE:E.1≤1152921504606846976) (Ok:Nat→World→Prop)
  (hOk:∀ b w w',Ok b w→Ext w w'→Ok b w') (hOx:∀ (b:Nat) (w w':World) (x:Nat) (fz:Nat × Nat),Ok b w→w.heap[x]?=some (.cells #[.nilIface] 49 fz)→(∀ c,c≠x→w'.heap[c]?=w.heap[c]?)→Ok b w')
  (hf:∀ w',Ext w w'→Gv Tryz.prog f [.slice W n cc] w' fun v w''=>OkR E Ok v w''∧Ext w' w'') :
  Gv Tryz.prog 95 [.pointer (some ⟨fb,0,none⟩),.func (.func f) #[] #[]] w fun v w'=>OkR (if E.2=0 then E else (E.1+place,E.2)) Ok v w'∧Ext w w':=by
 refine gvW (by kernel_rfl) Tryz.func95 rfl Tryz.ntmps95 rfl ?_;(conv=>whnf);refine NewV.mem (Mem.nil w) ?_;intro c5 w1 hm;(conv=>whnf);refine LoadV.of (v:=.int .i64 place) (hm.ext.cell h2) ?_;(conv=>whnf);refine LoadV.of (v:=.slice W n cc) (hm.ext.cell h1) ?_;(conv=>whnf);refine CallV.of (hf w1 hm.ext) ?_;rintro v w2 ⟨⟨h0,e,rfl,eb,rfl,hec⟩|⟨h0,b,rfl,hb⟩,he2⟩
 ·have hm:=hm.call he2;rw [if_neg h0];(conv=>whnf);refine StoreV.row hm (i:=0) rfl (by simp) rfl ?_;intro w3 hfr _ hm3;have hne:eb≠c5:=by
   intro e1;have h1:=hec 0 _ rfl;rw [e1,qd (hm.get (List.mem_cons_self ..))] at h1;cases h1
  have hec:=CellsAt.other hec hne hfr;have hm3:Mem w w3 ((c5,.cells #[errV eb] 49 (0,0))::[]):=hm3;(conv=>whnf);refine LeaveV.call ((qg6 c5 eb E.1 E.2 place hm3 hec (hG.ext hm3.ext) hE hpl).mono fun w4 ⟨e',hm4⟩=>?_);(conv=>whnf);refine qa (R:=fun v w'=>OkR (E.1+place,E.2) Ok v w'∧Ext w w') ?_;(conv=>whnf);refine LoadV.mem hm4 (i:=1) rfl rfl ?_;(conv=>whnf);exact ⟨.inl ⟨h0,errV e',rfl,e',rfl,CellsAt.mem hm4 (List.mem_cons_self ..)⟩,hm4.ext⟩
 ·have hm:=hm.call he2;rw [if_pos h0];(conv=>whnf);refine StoreV.row hm (i:=0) rfl (by simp) rfl ?_;intro w3 hfr _ hm3;have hb:=hOx b w2 w3 c5 (0,0) hb (hm.get (List.mem_cons_self ..)) hfr;have hm3:Mem w w3 ((c5,.cells #[.nilIface] 49 (0,0))::[]):=hm3;(conv=>whnf);refine LeaveV.call ((qg7 c5 place hm3).mono fun w4 he4=>?_);have hm4:=hm3.call he4;(conv=>whnf);refine qa (R:=fun v w'=>OkR E Ok v w'∧Ext w w') ?_;(conv=>whnf);refine LoadV.mem hm4 (i:=0) rfl rfl ?_;(conv=>whnf);exact ⟨.inr ⟨h0,b,rfl,hOk _ _ _ hb he4⟩,hm4.ext⟩
set_option maxHeartbeats 1000000 in
theorem qqo (fb n cc place:Nat) (W:Option Addr) (w:World) (h1:w.cell? ⟨fb,5,none⟩=some (.slice W n cc)) (h2:w.cell? ⟨fb,7,none⟩=some (.int .i64 place)) (hpl:place≤1152921504606846976) (hG:ErrTyp w) (f:FuncId) (E:Nat × Nat) (hE:E.1≤1152921504606846976) (Ok:Nat→World→Prop)
  (hOk:∀ b w w',Ok b w→Ext w w'→Ok b w') (hOx:∀ (b:Nat) (w w':World) (x:Nat) (fz:Nat × Nat),Ok b w→w.heap[x]?=some (.cells #[.nilIface] 49 fz)→(∀ c,c≠x→w'.heap[c]?=w.heap[c]?)→Ok b w')
  (hf:∀ w',Ext w w'→Gv Tryz.prog f [.slice W n cc] w' fun v w''=>OkR E Ok v w''∧Ext w' w'') :
  Gv Tryz.prog 96 [.pointer (some ⟨fb,0,none⟩),.func (.func f) #[] #[]] w fun v w'=>OkR (if E.2=0 then E else (E.1+place,E.2)) Ok v w'∧Ext w w':=by
 refine gvW (by kernel_rfl) Tryz.func96 rfl Tryz.ntmps96 rfl ?_;(conv=>whnf);refine NewV.mem (Mem.nil w) ?_;intro c5 w1 hm;(conv=>whnf);refine LoadV.of (v:=.int .i64 place) (hm.ext.cell h2) ?_;(conv=>whnf);refine LoadV.of (v:=.slice W n cc) (hm.ext.cell h1) ?_;(conv=>whnf);refine CallV.of (hf w1 hm.ext) ?_;rintro v w2 ⟨⟨h0,e,rfl,eb,rfl,hec⟩|⟨h0,b,rfl,hb⟩,he2⟩
 ·have hm:=hm.call he2;rw [if_neg h0];(conv=>whnf);refine StoreV.row hm (i:=0) rfl (by simp) rfl ?_;intro w3 hfr _ hm3;have hne:eb≠c5:=by
   intro e1;have h1:=hec 0 _ rfl;rw [e1,qd (hm.get (List.mem_cons_self ..))] at h1;cases h1
  have hec:=CellsAt.other hec hne hfr;have hm3:Mem w w3 ((c5,.cells #[errV eb] 49 (0,0))::[]):=hm3;(conv=>whnf);refine LeaveV.call ((qg6 c5 eb E.1 E.2 place hm3 hec (hG.ext hm3.ext) hE hpl).mono fun w4 ⟨e',hm4⟩=>?_);(conv=>whnf);refine qa (R:=fun v w'=>OkR (E.1+place,E.2) Ok v w'∧Ext w w') ?_;(conv=>whnf);refine LoadV.mem hm4 (i:=1) rfl rfl ?_;(conv=>whnf);exact ⟨.inl ⟨h0,errV e',rfl,e',rfl,CellsAt.mem hm4 (List.mem_cons_self ..)⟩,hm4.ext⟩
 ·have hm:=hm.call he2;rw [if_pos h0];(conv=>whnf);refine StoreV.row hm (i:=0) rfl (by simp) rfl ?_;intro w3 hfr _ hm3;have hb:=hOx b w2 w3 c5 (0,0) hb (hm.get (List.mem_cons_self ..)) hfr;have hm3:Mem w w3 ((c5,.cells #[.nilIface] 49 (0,0))::[]):=hm3;(conv=>whnf);refine LeaveV.call ((qg7 c5 place hm3).mono fun w4 he4=>?_);have hm4:=hm3.call he4;(conv=>whnf);refine qa (R:=fun v w'=>OkR E Ok v w'∧Ext w w') ?_;(conv=>whnf);refine LoadV.mem hm4 (i:=0) rfl rfl ?_;(conv=>whnf);exact ⟨.inr ⟨h0,b,rfl,hOk _ _ _ hb he4⟩,hm4.ext⟩
open Go.RowKit V
set_option maxRecDepth 100000
def fpE (l:List UInt8) (E1 E2:Nat × Nat):Nat × Nat:=if E1.2≠0 then (E1.1+28,E1.2) else if E2.2≠0 then (E2.1+(32+hN l 4),E2.2) else (0,0)
def PfR (l:List UInt8) (E1 E2:Nat × Nat) (Ok1 Ok2:Nat→World→Prop) (v:Value) (w:World):Prop:=
 ((fpE l E1 E2).2≠0∧∃ e,v=.tuple #[.pointer none,e]∧ErrAt w e (fpE l E1 E2).1 (fpE l E1 E2).2)∨
 ((fpE l E1 E2).2=0∧∃ b vb tb,v=.tuple #[.pointer (some ⟨b,0,none⟩),.nilIface]∧
  w.heap[b]?=some (.cells #[.int .i64 (hN l 2),.int .i64 (hN l 3),.int .i64 (hN l 4),.int .i64 (hN l 5),.pointer (some ⟨vb,0,none⟩),.pointer (some ⟨tb,0,none⟩)] 123 (0,0))∧Ok1 vb w∧Ok2 tb w)
set_option maxHeartbeats 2000000 in
theorem qq6 (l:List UInt8) (A B:Option Addr) (w:World) (hG:ErrTyp w) (f1 f2:FuncId) (E1 E2:Nat × Nat) (hE1:E1.1≤1152921504606846976) (hE2:E2.1≤1152921504606846976) (Ok1 Ok2:Nat→World→Prop)
  (hOk1:∀ b w w',Ok1 b w→Ext w w'→Ok1 b w') (hOx1:∀ (b:Nat) (w w':World) (x:Nat) (fz:Nat × Nat),Ok1 b w→w.heap[x]?=some (.cells #[.nilIface] 49 fz)→(∀ c,c≠x→w'.heap[c]?=w.heap[c]?)→Ok1 b w')
  (hOk2:∀ b w w',Ok2 b w→Ext w w'→Ok2 b w') (hOx2:∀ (b:Nat) (w w':World) (x:Nat) (fz:Nat × Nat),Ok2 b w→w.heap[x]?=some (.cells #[.nilIface] 49 fz)→(∀ c,c≠x→w'.heap[c]?=w.heap[c]?)→Ok2 b w')
  (hf1:∀ w',Ext w w'→Gv Tryz.prog f1 [.slice A (hN l 4) (hN l 4)] w' fun v w''=>OkR E1 Ok1 v w''∧Ext w' w'')
  (hf2:∀ w',Ext w w'→Gv Tryz.prog f2 [.slice B (hN l 5) (hN l 5)] w' fun v w''=>OkR E2 Ok2 v w''∧Ext w' w'') :
  Gv Tryz.prog 53 [.agg (okF l A B).toArray,.func (.func f1) #[] #[],.func (.func f2) #[] #[]] w fun v w'=>PfR l E1 E2 Ok1 Ok2 v w'∧Ext w w':=by
 have h4:=qv5 l 4;refine zE Tryz.func53 Tryz.ntmps53 ?_;(conv=>whnf);refine NewV.mem (Mem.nil w) ?_;intro fb w1 hm;have hg:=hm.get (List.mem_cons_self ..);(conv=>whnf);refine CallV.of (qnk fb (hN l 4) (hN l 4) 28 A w1 (by rw [qd hg];rfl) (by rw [qd hg];rfl) (by omega) (hG.ext hm.ext) f1 E1 hE1 Ok1 hOk1 hOx1 (fun w' he=>hf1 w' (hm.ext.trans he))) ?_;rintro v w2 ⟨⟨h0,e,rfl,eb,rfl,hec⟩|⟨h0,vb,rfl,hv⟩,he2⟩
 ·have hz:E1.2≠0:=by
   intro h;rw [if_pos h] at h0;exact h0 h
  rw [if_neg hz] at hec h0;have hE:fpE l E1 E2=(E1.1+28,E1.2):=by rw [fpE,if_pos hz]
  (conv=>whnf);refine Tst.yes rfl ?_;(conv=>whnf);exact ⟨.inl ⟨by rw [hE];exact hz,_,rfl,eb,rfl,by rw [hE];exact hec⟩,hm.ext.trans he2⟩
 ·have hz:E1.2=0:=by
   refine Decidable.byContradiction fun h=>?_;rw [if_neg h] at h0;exact h h0
  have hm:=hm.call he2;have hg:=hm.get (List.mem_cons_self ..);(conv=>whnf);refine Tst.no rfl ?_;(conv=>whnf);refine CallV.of (qqo fb (hN l 5) (hN l 5) (32+hN l 4) B w2 (by rw [qd hg];rfl) (by rw [qd hg];rfl) (by omega) (hG.ext hm.ext) f2 E2 hE2 Ok2 hOk2 hOx2 (fun w' he=>hf2 w' (hm.ext.trans he))) ?_;rintro v w3 ⟨⟨h0,e,rfl,eb,rfl,hec⟩|⟨h0,tb,rfl,ht⟩,he3⟩
  ·have hz2:E2.2≠0:=by
    intro h;rw [if_pos h] at h0;exact h0 h
   rw [if_neg hz2] at hec h0;have hE:fpE l E1 E2=(E2.1+(32+hN l 4),E2.2):=by rw [fpE,if_neg (by omega),if_pos hz2]
   (conv=>whnf);refine Tst.yes rfl ?_;(conv=>whnf);exact ⟨.inl ⟨by rw [hE];exact hz2,_,rfl,eb,rfl,by rw [hE];exact hec⟩,hm.ext.trans he3⟩
  ·have hz2:E2.2=0:=by
    refine Decidable.byContradiction fun h=>?_;rw [if_neg h] at h0;exact h h0
   have hE:(fpE l E1 E2).2=0:=by rw [fpE,if_neg (by omega),if_neg (by omega)]
   have hm:=hm.call he3;have hv:=hOk1 _ _ _ hv he3;(conv=>whnf);refine Tst.no rfl ?_;(conv=>whnf);have hcs:CellsAt w3 fb 0 [.int .i64 (hN l 2:Nat),.int .i64 (hN l 3:Nat),.int .i64 (hN l 4:Nat),.int .i64 (hN l 5:Nat)]:=fun k v hv=>by
    have hk:k<4:=(List.getElem?_eq_some_iff.1 hv).1;refine CellsAt.mem hm (List.mem_cons_self ..) k v ?_
    rcases (show k=0∨k=1∨k=2∨k=3 by omega) with rfl|rfl|rfl|rfl<;>exact hv
   refine LoadA.cells hcs rfl ?_;(conv=>whnf);refine ⟨fun b w4 hb hw=>?_⟩;have he4:Ext w3 w4:=by rw [hw];exact (Ext.refl _).alloc _
   have hm4:=hm.new hb hw;(conv=>whnf);exact ⟨.inr ⟨hE,b,vb,tb,rfl,hm4.get (List.mem_cons_self ..),hOk1 _ _ _ hv he4,hOk2 _ _ _ ht he4⟩,hm4.ext⟩
open Go.RowKit V
set_option maxRecDepth 100000
structure PackAt (w:World) (b:Nat) (l:List UInt8):Prop where
 h:∃ vb tb,w.heap[b]?=some (.cells #[.int .i64 (hN l 2),.int .i64 (hN l 3),.int .i64 (hN l 4),.int .i64 (hN l 5),.pointer (some ⟨vb,0,none⟩),.pointer (some ⟨tb,0,none⟩)] 123 (0,0))∧VocAt w vb (qq l)∧TreeAt w tb (qw l)
theorem PackAt.ext {w w':World} {b:Nat} {l:List UInt8} (h:PackAt w b l) (he:Ext w w'):PackAt w' b l:=by
 obtain ⟨vb,tb,h1,h2,h3⟩:=h;exact ⟨vb,tb,he.get h1,h2.ext he,h3.ext he⟩
def PvR (l:List UInt8) (v:Value) (w:World):Prop:=
 ((q8 l).2≠0∧∃ e,v=.tuple #[.pointer none,e]∧ErrAt w e (q8 l).1 (q8 l).2)∨((q8 l).2=0∧∃ b,v=.tuple #[.pointer (some ⟨b,0,none⟩),.nilIface]∧PackAt w b l)
theorem qda {l:List UInt8} (h:(qp l).2=0):l.length=hN l 4+hN l 5+36∧l.length≤67108864:=by
 unfold qp at h
 split at h
 ·cases h
 split at h
 ·cases h
 split at h
 ·cases h
 split at h
 ·cases h
 split at h
 ·cases h
 split at h
 ·cases h
 split at h
 ·cases h
 omega
theorem qbv {l:List UInt8} (h:(qp l).2=0):(qq l).length=hN l 4:=by
 have:=qda h;rw [qq,List.length_take,List.length_drop];omega
theorem qck {l:List UInt8} (h:(qp l).2=0):(qw l).length=hN l 5:=by
 have:=qda h;rw [qw,List.length_take,List.length_drop];omega
theorem qfp {l:List UInt8} (h:(qp l).2=0):q8 l=fpE l (wE (qq l)) (tE (qw l)):=by
 rw [q8,if_neg (by omega),fpE,Nat.add_comm 28,Nat.add_comm (32+hN l 4)]
theorem qfe {f:Nat→Nat × Nat} {B:Nat}:∀ n,(∀ k,k<n→(f k).1≤B)→(errF f n).1≤B
 | 0,_=>Nat.zero_le _
 | n+1,h=>by
  rw [errF]
  split
  ·exact qfe n fun k hk=>h k (by omega)
  ·exact h n (by omega)
theorem q03 (l:List UInt8):(sE l).1≤l.length+201326592:=by
 unfold sE
 split
 ·exact Nat.le_trans (qfe 3 fun k _=>qeh l k _) (Nat.le_add_right _ _)
 ·rename_i h0
  have hn:∀ k,k<3→vNum l k≤67108864:=fun k hk=>qb4 (qcd (f:=vsF l) (n:=3) (by omega) k hk)
  have e0:qi l 0=vAt l 3:=rfl;have e1:qi l 1=qi l 0+vNum l 0:=rfl;have e2:qi l 2=qi l 1+vNum l 1:=rfl;have e3:qi l 3=qi l 2+vNum l 2:=rfl;have h1:=hn 0 (by omega);have h2:=hn 1 (by omega);have h3:=hn 2 (by omega);have h4:=qbs l 3
  split
  ·show l.length≤_;omega
  ·split
   ·show qi l 3≤_;omega
   ·exact Nat.zero_le _
theorem q0s (l:List UInt8):(wE l).1≤2*l.length+201326592:=by
 unfold wE
 split
 ·have:=q03 l;omega
 ·rename_i h0
  obtain ⟨_,h3⟩:=qpu (l:=l) (by omega);refine qfe 3 fun k hk=>?_;have h4:=qc6 h3 hk;have h5:=qvr (qn l k);have h6:=qli l k;unfold sdF
  split
  ·exact Nat.zero_le _
  ·show qi l k+(dE (qn l k)).1≤_;omega
theorem q0n (l:List UInt8):(tE l).1≤l.length:=by
 have h1:∀ k,(tcF l k).1≤l.length:=fun k=>by
  have:=qeh l k 1048576;have:=qbs l k;unfold tcF
  split
  ·assumption
  ·split
   ·assumption
   ·exact Nat.zero_le _
 have h2:∀ k,(tvF l k).1≤l.length:=fun k=>by
  unfold tvF
  split
  ·exact Nat.le_refl _
  ·split
   ·show tvAt l k≤_;omega
   ·split
    ·exact Nat.le_refl _
    ·exact Nat.zero_le _
 unfold tE
 split
 ·exact qfe 4 fun k _=>h1 k
 ·split
  ·exact qfe 4 fun k _=>h2 k
  ·split
   ·show tvAt l 4≤_;omega
   ·exact Nat.zero_le _
set_option maxHeartbeats 2000000 in
theorem qml (l:List UInt8) (A:Option Addr) (c:Nat) (w:World) (hS:SlAt encB 1 w A l) (hc:l.length≤c) (hl:l.length≤140737488355328) (hT:CellsAt w 2 0 qi9) (hG:ErrTyp w) :
  Gv Tryz.prog 19 [.slice A l.length c] w fun v w'=>PvR l v w'∧Ext w w':=by
 refine zE Tryz.func19 Tryz.ntmps19 ?_;(conv=>whnf);refine CallV.of (qqm l A c w hS hc hl hT) ?_;rintro v w1 ⟨⟨h0,ev,rfl,eb,rfl,hec⟩|⟨h0,A',B',rfl,hA,hB⟩,he1⟩
 ·have hE:q8 l=qp l:=by rw [q8,if_pos h0]
  (conv=>whnf);refine NewV.mem (Mem.nil w1) ?_;intro t4 w2 hm;(conv=>whnf);refine StoreA.all hm (i:=0) rfl rfl (by simp [zF,Value.oneCell']) ?_;intro w3 hm;(conv=>whnf);refine Tst.yes rfl ?_;(conv=>whnf);exact ⟨.inl ⟨by rw [hE];exact h0,_,rfl,eb,rfl,by rw [hE];exact CellsAt.ext hec hm.ext⟩,he1.trans hm.ext⟩
 ·have hv4:=qbv h0;have ht5:=qck h0;have hho:=qda h0;have hE:=qfp h0;(conv=>whnf);refine NewV.mem (Mem.nil w1) ?_;intro t4 w2 hm;(conv=>whnf);refine StoreA.all hm (i:=0) rfl rfl (by simp [okF,Value.oneCell']) ?_;intro w3 hm;(conv=>whnf);refine Tst.no rfl ?_;(conv=>whnf);refine zL hm 0 ?_;(conv=>whnf);have hA3:=hA.ext hm.ext;have hB3:=hB.ext hm.ext;have hG3:=hG.ext (he1.trans hm.ext);have hwl:=q0s (qq l);have htl:=q0n (qw l);refine CallV.of (qq6 l A' B' w3 hG3 54 55 (wE (qq l)) (tE (qw l)) (by omega) (by omega) (fun b w=>VocAt w b (qq l)) (fun b w=>TreeAt w b (qw l)) (fun b w w' h he=>h.ext he) (fun b w w' x fz h hx hw=>h.other hx (by decide) (by decide) (fun v hv c=>by simp only [List.mem_cons,List.not_mem_nil,or_false] at hv;subst hv;intro e;cases e) hw) (fun b w w' h he=>h.ext he) (fun b w w' x fz h hx hw=>h.other hx (fun k c e=>by cases e) hw) (fun w' hx=>?_) (fun w' hx=>?_)) ?_
  ·have:=qon (qq l) A' (hN l 4) w' (hA3.ext hx) (by omega) (by omega) (hG3.ext hx);rw [hv4] at this;exact this
  ·have:=quz (qw l) B' (hN l 5) w' (hB3.ext hx) (by omega) (by omega);rw [ht5] at this;refine this.mono fun v w'' ⟨h,he⟩=>⟨?_,he⟩
   rcases h with ⟨h0,e,h1,h2⟩|⟨h0,b,h1,_,h2⟩
   ·exact .inl ⟨h0,e,h1,h2⟩
   ·exact .inr ⟨h0,b,h1,h2⟩
  rintro v w4 ⟨⟨hz,e,rfl,eb,rfl,hec⟩|⟨hz,b,vb,tb,rfl,hb,hv,ht⟩,he4⟩
  ·(conv=>whnf);exact ⟨.inl ⟨by rw [hE];exact hz,_,rfl,eb,rfl,by rw [hE];exact hec⟩,(he1.trans hm.ext).trans he4⟩
  ·(conv=>whnf);exact ⟨.inr ⟨by rw [hE];exact hz,b,rfl,vb,tb,hb,hv,ht⟩,(he1.trans hm.ext).trans he4⟩
open Go.RowKit V
set_option maxRecDepth 100000
def inf4 (l:List UInt8):Value:=.agg #[.int .i64 (hN l 2),.int .i64 (hN l 3),.int .i64 (hN l 4),.int .i64 (hN l 5)]
def infZ:Value:=.agg #[.int .i64 0,.int .i64 0,.int .i64 0,.int .i64 0]
theorem PackAt.inf {w:World} {b:Nat} {l:List UInt8} (h:PackAt w b l):CellsAt w b 0 [.int .i64 (hN l 2:Nat),.int .i64 (hN l 3:Nat),.int .i64 (hN l 4:Nat),.int .i64 (hN l 5:Nat)]:=by
 obtain ⟨vb,tb,h1,_⟩:=h;intro k v hv;have hk:k<4:=(List.getElem?_eq_some_iff.1 hv).1;rw [qd h1]
 rcases (show k=0∨k=1∨k=2∨k=3 by omega) with rfl|rfl|rfl|rfl<;>exact hv
def PiR (l:List UInt8) (v:Value) (w:World):Prop:=
 ((q8 l).2≠0∧∃ e,v=.tuple #[infZ,e]∧ErrAt w e (q8 l).1 (q8 l).2)∨((q8 l).2=0∧v=.tuple #[inf4 l,.nilIface])
theorem qmh (l:List UInt8) (A:Option Addr) (c:Nat) (w:World) (hS:SlAt encB 1 w A l) (hc:l.length≤c) (hl:l.length≤140737488355328) (hT:CellsAt w 2 0 qi9) (hG:ErrTyp w) :
  Gv Tryz.prog 20 [.slice A l.length c] w fun v w'=>PiR l v w'∧Ext w w':=by
 refine zE Tryz.func20 Tryz.ntmps20 ?_;(conv=>whnf);refine NewV.mem (Mem.nil w) ?_;intro r2 w1 hm;(conv=>whnf);refine CallV.of (qml l A c w1 (hS.ext hm.ext) hc hl (hT.ext hm.ext) (hG.ext hm.ext)) ?_;rintro v w2 ⟨⟨h0,e,rfl,eb,rfl,hec⟩|⟨h0,b,rfl,hP⟩,he2⟩
 ·have hm:=hm.call he2;have hne:eb≠r2:=by
   intro e1;have h1:=hec 1 _ rfl;rw [e1,qd (hm.get (List.mem_cons_self ..))] at h1;cases h1
  (conv=>whnf);refine Tst.yes rfl ?_;(conv=>whnf);refine StoreA.row hm (i:=0) rfl (by simp) (by simp [Value.oneCell']) ?_;intro w3 hfr _ hm3;have hec:=CellsAt.other hec hne hfr;(conv=>whnf);refine qa (R:=fun v w'=>PiR l v w'∧Ext w w') ?_;(conv=>whnf);refine zL hm3 0 ?_;(conv=>whnf);exact ⟨.inl ⟨h0,errV eb,rfl,eb,rfl,hec⟩,hm3.ext⟩
 ·have hm:=hm.call he2;(conv=>whnf);refine Tst.no rfl ?_;(conv=>whnf);refine LoadA.cells hP.inf rfl ?_;(conv=>whnf);refine zS hm 0 ?_;intro w3 hm;(conv=>whnf);refine qa (R:=fun v w'=>PiR l v w'∧Ext w w') ?_;(conv=>whnf);refine zL hm 0 ?_;(conv=>whnf);exact ⟨.inr ⟨h0,rfl⟩,hm.ext⟩
theorem qq7 (b:Nat) (l:List UInt8) (w:World) (h:PackAt w b l):Gv Tryz.prog 24 [.pointer (some ⟨b,0,none⟩)] w fun v w'=>v=inf4 l∧Ext w w':=by
 refine zE Tryz.func24 Tryz.ntmps24 ?_;(conv=>whnf);refine NewV.mem (Mem.nil w) ?_;intro r2 w1 hm;(conv=>whnf);refine LoadA.cells (h.ext hm.ext).inf rfl ?_;(conv=>whnf);refine zS hm 0 ?_;intro w3 hm;(conv=>whnf);refine qa (R:=fun v w'=>v=inf4 l∧Ext w w') ?_;(conv=>whnf);refine zL hm 0 ?_;(conv=>whnf);exact ⟨rfl,hm.ext⟩
theorem qnu (b:Nat) (l:List UInt8) (w:World) (h:PackAt w b l):Gv Tryz.prog 25 [.pointer (some ⟨b,0,none⟩)] w fun v w'=>(∃ vb,v=.pointer (some ⟨vb,0,none⟩)∧VocAt w vb (qq l))∧w'=w:=by
 obtain ⟨vb,tb,h1,h2,h3⟩:=h;refine zE Tryz.func25 Tryz.ntmps25 ?_;(conv=>whnf);refine LoadV.own h1 rfl ?_;(conv=>whnf);exact ⟨⟨vb,rfl,h2⟩,rfl⟩
theorem qjw (b:Nat) (l:List UInt8) (w:World) (h:PackAt w b l):Gv Tryz.prog 26 [.pointer (some ⟨b,0,none⟩)] w fun v w'=>(∃ tb,v=.pointer (some ⟨tb,0,none⟩)∧TreeAt w tb (qw l))∧w'=w:=by
 obtain ⟨vb,tb,h1,h2,h3⟩:=h;refine zE Tryz.func26 Tryz.ntmps26 ?_;(conv=>whnf);refine LoadV.own h1 rfl ?_;(conv=>whnf);exact ⟨⟨tb,rfl,h3⟩,rfl⟩
theorem qoe (b:Nat) (w:World):Gv Tryz.prog 66 [.pointer (some ⟨b,0,none⟩),.int .i64 (-1)] w fun v w'=>v=.tuple #[.agg zq,.bool false]∧Ext w w':=by
 refine zE Tryz.func66 Tryz.ntmps66 ?_;(conv=>whnf);refine NewV.mem (Mem.nil w) ?_;intro rb w1 hm;(conv=>whnf);refine zY (fun _=>?_);(conv=>whnf);(iterate 5 (refine zT ?_;(conv=>whnf)));refine zS hm 0 ?_;intro w9 hm;(conv=>whnf);refine qa (R:=fun v w'=>v=.tuple #[.agg zq,.bool false]∧Ext w w') ?_;(conv=>whnf);refine zL hm 0 ?_;(conv=>whnf);exact ⟨rfl,hm.ext⟩
theorem qxa {l:List UInt8} {id:Nat} {t:TM} (h:qeb l id=some t):TermOk t:=by
 unfold qeb at h
 split at h
 ·cases h;exact ⟨(show InR .i64 0 from ⟨by decide,by decide⟩),(show (0:Nat)≤1048576 by decide),(show (0:Nat)≤1048576 by decide),(show (0:Nat)≤1048576 by decide)⟩
 ·split at h
  ·cases h
  ·split at h
   ·rename_i s hs
    have h3:qb9 l id<3:=by unfold qb9;split<;>(try split)<;>omega
    exact qwq h (qki hs) ⟨by omega,by omega⟩
   ·cases h
theorem q1b (l:List UInt8) (q:Nat→Nat) (j:Nat):TermOk (uT l q j):=by
 unfold uT;cases h:qeb l (q j) with
 | none=>exact ⟨(show InR .i64 0 from ⟨by decide,by decide⟩),(show (0:Nat)≤1048576 by decide),(show (0:Nat)≤1048576 by decide),(show (0:Nat)≤1048576 by decide)⟩
 | some t=>exact qxa h
theorem qt3 (l:List UInt8) (q:Nat→Nat):qji (q4Of l q):=by
 intro k;unfold q4Of Q4.at
 split<;>exact q1b _ _ _
def qIds (l:List UInt8) (i:Nat):Nat→Nat:=fun k=>tNum (qw l) i k
def PqOk (l:List UInt8) (i:Nat):Prop:=(i<vNum (qw l) 3∧tOk (qw l) i=true)∧(∀ j,j<4→qeb (qq l) (qIds l i j)≠none)∧qc3 (q4Of (qq l) (qIds l i))=0
open Classical in
noncomputable def qca (l:List UInt8) (i:Nat):Value:=if PqOk l i then .tuple #[qat (q4Of (qq l) (qIds l i)),.bool true] else .tuple #[qat zQ,.bool false]
theorem qmk (b:Nat) (l:List UInt8) (w:World) (h:PackAt w b l):Gv Tryz.prog 29 [.pointer (some ⟨b,0,none⟩),.int .i64 (-1)] w fun v w'=>v=.tuple #[qat zQ,.bool false]∧Ext w w':=by
 obtain ⟨vb,tb,h1,h2,h3⟩:=h;refine zE Tryz.func29 Tryz.ntmps29 ?_;(conv=>whnf);refine NewV.mem (Mem.nil w) ?_;intro r4 w1 hm;(conv=>whnf);refine LoadV.own (hm.ext.get h1) rfl ?_;(conv=>whnf);refine CallV.of (qoe tb w1) ?_;rintro v w2 ⟨rfl,he2⟩;have hm:=hm.call he2;unfold zq;(conv=>whnf);refine NewV.mem hm ?_;intro t6 w3 hm;(conv=>whnf);refine zS hm 0 ?_;intro w4 hm;(conv=>whnf);refine zP ?_;refine zU ?_;(conv=>whnf);refine zS hm 1 ?_;intro w5 hm;(conv=>whnf);refine qa (R:=fun v w'=>v=.tuple #[qat zQ,.bool false]∧Ext w w') ?_;(conv=>whnf);refine zL hm 1 ?_;(conv=>whnf);exact ⟨rfl,hm.ext⟩
open Go.RowKit V
set_option maxRecDepth 100000
theorem qjp {l:List UInt8} (h:(qp l).2=0):qp l=(0,0):=by
 unfold qp at h ⊢
 repeat' split at h
 all_goals first|(cases h;done)|skip
 simp only [*,if_false]
theorem qew {x:Int} {d n:Nat} (h:x=(n:Int)):bnd (some (.int .i64 x)) d n:=by
 subst h;rfl
theorem qdd (a b e:Int) (w:World) (h1:-9223372036854775808≤a+b) (h2:a+b≤9223372036854775807) :
  Gv Tryz.prog 58 [.int .i64 a,.int .i64 b,.int .i64 e] w fun v w'=>v=fltV (a+b) e∧Ext w w':=by
 refine zE Tryz.func58 Tryz.ntmps58 ?_;(conv=>whnf);refine NewV.mem (Mem.nil w) ?_;intro r w1 hm;(conv=>whnf);refine zA ?_;(conv=>whnf);refine zS hm 0 ?_;intro w2 hm;(conv=>whnf);refine qa (R:=fun v w'=>v=fltV (a+b) e∧Ext w w') ?_;(conv=>whnf);refine zL hm 0 ?_;(conv=>whnf);exact ⟨rfl,hm.ext⟩
def infP (l:List UInt8):Value:=if (q8 l).2=0 then inf4 l else infZ
theorem qmg {l:List UInt8} {A:Option Addr} {c:Nat} {w:World} (hS:SlAt encB 1 w A l) (hc:l.length≤c) (h:(qp l).2=0):SlAt encB 1 w (if c=28 then A else A.map (·.add (28*1))) (qq l):=by
 have hl:=qda h;have:=hS.cut (lo:=28) (hi:=28+hN l 4) (m:=c) (by omega) (by omega) (by omega) rfl
 rwa [show 28+hN l 4-28=hN l 4 by omega] at this
theorem qpm {l:List UInt8} {A:Option Addr} {c:Nat} {w:World} (hS:SlAt encB 1 w A l) (hc:l.length≤c) (h:(qp l).2=0):SlAt encB 1 w (if c=32+hN l 4 then A else A.map (·.add ((32+hN l 4)*1))) (qw l):=by
 have hl:=qda h;have:=hS.cut (lo:=32+hN l 4) (hi:=32+hN l 4+hN l 5) (m:=c) (by omega) (by omega) (by omega) rfl
 rwa [show 32+hN l 4+hN l 5-(32+hN l 4)=hN l 5 by omega] at this
set_option maxHeartbeats 4000000 in
theorem qj5 (l:List UInt8) (A:Option Addr) (c:Nat) (w:World) (hS:SlAt encB 1 w A l) (hc:l.length≤c) (hl:l.length≤140737488351232) :
  Gv Tryz.prog 21 [.slice A l.length c] w fun v w'=>v=.tuple #[infP l,fltV (q8 l).1 (q8 l).2]∧Ext w w':=by
 refine zE Tryz.func21 Tryz.ntmps21 ?_;(conv=>whnf);refine NewV.mem (Mem.nil w) ?_;intro r2 w1 hm;(conv=>whnf);refine NewV.mem hm ?_;intro r3 w2 hm;(conv=>whnf);refine CallV.of (qjo l A _ c w2 (hS.ext hm.ext) rfl hc (by omega)) ?_;rintro v w3 ⟨rfl,he3⟩;have hm:=hm.call he3
 by_cases h0:(qp l).2=0
 ·have hH:qb6 l=[.int .i64 (hN l 2),.int .i64 (hN l 3),.int .i64 (hN l 4),.int .i64 (hN l 5)]:=by rw [qb6,if_pos h0]
  have hpk:=qfp h0;obtain ⟨hl1,hl2⟩:=qda h0;rw [hH];(conv=>whnf);refine NewV.mem hm ?_;intro h4 w4 hm;(conv=>whnf);refine NewV.mem hm ?_;intro f5 w5 hm;(conv=>whnf);refine zS hm 1 ?_;intro w6 hm;(conv=>whnf);refine zS hm 0 ?_;intro w7 hm;(conv=>whnf);refine zR hm 0 ?_;(conv=>whnf);refine zN (fun _=>?_);(conv=>whnf);refine zR hm 1 ?_;(conv=>whnf);refine zA ?_;(conv=>whnf);refine SliceV.to 28 (28+hN l 4) c rfl rfl rfl (by omega) (by omega) (by omega) (fun h=>by cases h) ?_;rw [show tsz Tryz.prog 5=1 from by kernel_rfl,show 28+hN l 4-28=(qq l).length by rw [qbv h0];omega];have hm:Mem w w7 ((f5,.cells #[.int .i64 (0:Int),.int .i64 (0:Int)] 57 (0,0))::(h4,.cells #[.int .i64 (hN l 2:Nat),.int .i64 (hN l 3:Nat),.int .i64 (hN l 4:Nat),.int .i64 (hN l 5:Nat)] 53 (0,0))::(r3,.cells #[.int .i64 (0:Int),.int .i64 (0:Int)] 57 (0,0))::(r2,.cells #[.int .i64 0,.int .i64 0,.int .i64 0,.int .i64 0] 53 (0,0))::[]):=by
   rw [qjp h0] at hm;exact hm
  have hV:=qoq (qq l) (if c=28 then A else A.map (·.add (28*1))) (c-28) w7 ((qmg hS hc h0).ext hm.ext) (by rw [qbv h0];omega) (by rw [qbv h0];omega);(conv=>whnf);refine CallV.of (hV) ?_;clear hV;rintro v w8 ⟨⟨hE,G,rfl⟩|⟨hE,G,hG,rfl⟩,he8⟩
  ·have hm:=hm.call he8;have hwle:=q0s (qq l);rw [qbv h0] at hwle;have hP:q8 l=((wE (qq l)).1+28,(wE (qq l)).2):=by rw [hpk,fpE,if_pos hE]
   unfold fltV;(conv=>whnf);refine zS hm 0 ?_;clear hm;intro w9 hm;(conv=>whnf);refine zR hm 0 ?_;(conv=>whnf);refine zY (fun _=>?_);(conv=>whnf);refine zR hm 0 ?_;(conv=>whnf);refine zR hm 0 ?_;(conv=>whnf);refine CallV.of (qdd 28 ((wE (qq l)).1:Nat) ((wE (qq l)).2:Nat) w9 (by omega) (by omega)) ?_;rintro v wa ⟨rfl,hea⟩;have hm:=hm.call hea;unfold fltV;(conv=>whnf);refine zS hm 3 ?_;clear hm;intro wb hm;(conv=>whnf);refine zS hm 2 ?_;clear hm;intro wc hm;(conv=>whnf);refine qa (R:=fun v w'=>v=.tuple #[infP l,fltV (q8 l).1 (q8 l).2]∧Ext w w') ?_;(conv=>whnf);refine zL hm 3 ?_;(conv=>whnf);refine zL hm 2 ?_;(conv=>whnf);refine ⟨?_,hm.ext⟩;rw [infP,if_neg (by rw [hP];exact hE),hP];show _=Value.tuple #[_,.agg #[.int .i64 (((wE (qq l)).1+28:Nat):Int),.int .i64 ((wE (qq l)).2:Nat)]];rw [show (((wE (qq l)).1+28:Nat):Int)=28+((wE (qq l)).1:Nat) by omega];rfl
  ·have hm:=hm.call he8;unfold fltV;(conv=>whnf);refine zS hm 0 ?_;clear hm;intro w9 hm;have hm:Mem w w9 ((f5,.cells #[.int .i64 (0:Int),.int .i64 (0:Int)] 57 (0,0))::(h4,.cells #[.int .i64 (hN l 2:Nat),.int .i64 (hN l 3:Nat),.int .i64 (hN l 4:Nat),.int .i64 (hN l 5:Nat)] 53 (0,0))::(r3,.cells #[.int .i64 (0:Int),.int .i64 (0:Int)] 57 (0,0))::(r2,.cells #[.int .i64 0,.int .i64 0,.int .i64 0,.int .i64 0] 53 (0,0))::[]):=hm;(conv=>whnf);refine zR hm 0 ?_;(conv=>whnf);refine zN (fun _=>?_);(conv=>whnf);refine zR hm 1 ?_;(conv=>whnf);(iterate 2 (refine zA ?_;(conv=>whnf)));refine zR hm 1 ?_;(conv=>whnf);refine zA ?_;(conv=>whnf);refine SliceV.to (32+hN l 4) (32+hN l 4+hN l 5) c (qew (by omega)) (qew (by omega)) rfl (by omega) (by omega) (by omega) (fun h=>by cases h) ?_;rw [show tsz Tryz.prog 5=1 from by kernel_rfl,show 32+hN l 4+hN l 5-(32+hN l 4)=(qw l).length by rw [qck h0];omega];have hT:=qmy (qw l) (if c=32+hN l 4 then A else A.map (·.add ((32+hN l 4)*1))) (qw l).length (c-(32+hN l 4)) w9 ((qpm hS hc h0).ext hm.ext) rfl (by rw [qck h0];omega) (by rw [qck h0];omega);(conv=>whnf);refine CallV.of (hT) ?_;clear hT;rintro v w10 ⟨⟨hT,H,rfl⟩|⟨hT,H,hH2,rfl⟩,he10⟩
   all_goals
    have hm:=hm.call he10;unfold fltV hdV;(conv=>whnf);refine NewV.mem hm ?_;intro t7 w11 hm;(conv=>whnf);refine NewV.mem hm ?_;intro t8 w12 hm;(conv=>whnf);refine StoreA.all hm (i:=1) rfl rfl (qar 13 H) ?_;clear hm;intro w13 hm;(conv=>whnf);refine zS hm 0 ?_;clear hm;intro w14 hm;(conv=>whnf);refine zR hm 0 ?_;conv=>whnf
    (repeat' ((with_reducible refine zC (fun _=>?_) (fun _=>?_))<;>first|(exfalso;omega)|(conv=>whnf)))
   ·have htle:=q0n (qw l);rw [qck h0] at htle;have hP:q8 l=((tE (qw l)).1+(32+hN l 4),(tE (qw l)).2):=by rw [hpk,fpE,if_neg (by omega),if_pos hT]
    refine zR hm 0 ?_;(conv=>whnf);refine zR hm 0 ?_;(conv=>whnf);refine CallV.of (qdd _ ((tE (qw l)).1:Nat) ((tE (qw l)).2:Nat) w14 (by omega) (by omega)) ?_;rintro v wa ⟨rfl,hea⟩;have hm:=hm.call hea;unfold fltV;(conv=>whnf);refine zS hm 5 ?_;clear hm;intro wb hm;(conv=>whnf);refine zS hm 4 ?_;clear hm;intro wc hm;(conv=>whnf);refine qa (R:=fun v w'=>v=.tuple #[infP l,fltV (q8 l).1 (q8 l).2]∧Ext w w') ?_;(conv=>whnf);refine zL hm 5 ?_;(conv=>whnf);refine zL hm 4 ?_;(conv=>whnf);refine ⟨?_,hm.ext⟩;rw [infP,if_neg (by rw [hP];exact hT),hP];show _=Value.tuple #[_,.agg #[.int .i64 (((tE (qw l)).1+(32+hN l 4):Nat):Int),.int .i64 ((tE (qw l)).2:Nat)]];rw [show (((tE (qw l)).1+(32+hN l 4):Nat):Int)=28+((hN l 4:Nat):Int)+4+((tE (qw l)).1:Nat) by omega];rfl
   ·have hP:q8 l=(0,0):=by rw [hpk,fpE,if_neg (by omega),if_neg (by omega)]
    refine zL hm 3 ?_;(conv=>whnf);refine zS hm 5 ?_;clear hm;intro wb hm;(conv=>whnf);refine zS hm 4 ?_;clear hm;intro wc hm;(conv=>whnf);refine qa (R:=fun v w'=>v=.tuple #[infP l,fltV (q8 l).1 (q8 l).2]∧Ext w w') ?_;(conv=>whnf);refine zL hm 5 ?_;(conv=>whnf);refine zL hm 4 ?_;(conv=>whnf);refine ⟨?_,hm.ext⟩;rw [infP,if_pos (by rw [hP]),hP];rfl
 ·have hP:q8 l=qp l:=by rw [q8,if_pos h0]
  have hH:qb6 l=[.int .i64 0,.int .i64 0,.int .i64 0,.int .i64 0]:=by rw [qb6,if_neg h0]
  rw [hH];(conv=>whnf);refine NewV.mem hm ?_;intro h4 w4 hm;(conv=>whnf);refine NewV.mem hm ?_;intro f5 w5 hm;(conv=>whnf);refine zS hm 1 ?_;clear hm;intro w6 hm;(conv=>whnf);refine zS hm 0 ?_;clear hm;intro w7 hm;(conv=>whnf);refine zR hm 0 ?_;(conv=>whnf);refine zY (fun _=>?_);(conv=>whnf);refine DrawV.inv (fun S w'=>Mem w w' ((f5,.cells #[.int .i64 ((qp l).1:Nat),.int .i64 ((qp l).2:Nat)] 57 (0,0))::(h4,.cells #[.int .i64 0,.int .i64 0,.int .i64 0,.int .i64 0] 53 (0,0))::(r3,(bif S 3 then .cells #[.int .i64 ((qp l).1:Nat),.int .i64 ((qp l).2:Nat)] 57 (0,0) else .cells #[.int .i64 (0:Int),.int .i64 (0:Int)] 57 (0,0)))::(r2,.cells #[.int .i64 0,.int .i64 0,.int .i64 0,.int .i64 0] 53 (0,0))::[])) rfl (by kernel_rfl) hm.drew ?_;clear hm;(conv=>whnf);refine zI ?_;(conv=>whnf);refine StepI.of (.agg #[.int .i64 (qp l).1,.int .i64 (qp l).2]) (fun S wd hk hp hI=>?_) ?_
  ·(conv=>whnf);refine zL hI 0 ?_;(conv=>whnf);exact ⟨rfl,hI⟩
  (conv=>whnf);refine StepI.of undef (fun S wd hk hp hI=>?_) ?_
  ·(conv=>whnf);refine zS hI 3 ?_;intro wx hmx;(conv=>whnf);exact ⟨rfl,hmx⟩
  (conv=>whnf);refine StepI.of undef (fun S wd hk hp hI=>?_) ?_
  ·dsimp only at hI;rw [hk] at hI;(conv=>whnf);refine zS hI 2 ?_;intro wx hmx;(conv=>whnf);exact ⟨rfl,hmx⟩
  (conv=>whnf);intro wz hm;have hm:Mem w wz ((f5,.cells #[.int .i64 ((qp l).1:Nat),.int .i64 ((qp l).2:Nat)] 57 (0,0))::(h4,.cells #[.int .i64 0,.int .i64 0,.int .i64 0,.int .i64 0] 53 (0,0))::(r3,.cells #[.int .i64 ((qp l).1:Nat),.int .i64 ((qp l).2:Nat)] 57 (0,0))::(r2,.cells #[.int .i64 0,.int .i64 0,.int .i64 0,.int .i64 0] 53 (0,0))::[]):=hm;(conv=>whnf);refine qa (R:=fun v w'=>v=.tuple #[infP l,fltV (q8 l).1 (q8 l).2]∧Ext w w') ?_;(conv=>whnf);refine zL hm 3 ?_;(conv=>whnf);refine zL hm 2 ?_;(conv=>whnf);refine ⟨?_,hm.ext⟩;rw [infP,if_neg (by rw [hP];exact h0),hP];rfl
open Go.RowKit V
set_option maxRecDepth 100000
theorem qzp {l:List UInt8} (h:(wE l).2=0):vTot l 3≤12582912:=by
 have h0:(sE l).2=0:=by
  rw [wE] at h
  split at h
  ·rename_i g;exact absurd h g
  ·omega
 have hz:(errF (sdF l) 3).2=0:=by rw [wE,if_neg (by omega)] at h;exact h
 have hd:∀ k,k<3→dN (qn l k)≤4194304:=fun k hk=>by
  have:=qcd hz k hk;unfold sdF at this
  split at this
  ·rename_i g;exact (qvs g).1
  ·rename_i g;exact absurd this g
 have h1:=hd 0 (by omega);have h2:=hd 1 (by omega);have h3:=hd 2 (by omega);simp only [vTot];omega
theorem qp7 {l:List UInt8} (h:(tE l).2=0):vNum l 3≤1048576:=by
 obtain ⟨h1,_⟩:=quv h;have:=h1 3 (by omega);unfold tcF at this
 split at this
 ·rename_i g;exact absurd this g
 ·rename_i g
  exact qb4 (by omega)
theorem qd5 {base:Nat} {e:TypeId} {size n:Nat} {v:Value} {xs:List Value} {w w':World} (h:w.ownsRow base e size v n xs) (hw:∀ c,base≤c→c<w.heap.size→w'.heap[c]?=w.heap[c]?):w'.ownsRow base e size v n xs:=by
 obtain ⟨h1,h2|⟨g,cap,cur,h3,h4,h5,h6⟩⟩:=h
 ·exact ⟨h1,.inl h2⟩
 ·exact ⟨h1,.inr ⟨g,cap,cur,h3,h4,(hw g h4 (qyk h5)).trans h5,h6⟩⟩
def Op19 (l:List UInt8) (v:Value) (w:World):Prop:=
 (∃ a e:Int,e≠0∧v=.tuple #[infZ,.slice none 0 0,.slice none 0 0,.agg #[.int .i64 a,.int .i64 e]])∨
 ((q8 l).2=0∧∃ ts,VTm (qq l) 3 0 ts∧(∀ k,1≤k→k≤3→LvlV (qw l) k)∧vNum (qw l) 3=hN l 2∧
  (∀ i,i<vNum (qw l) 3→(∀ j,j<4→tNum (qw l) i j≤ts.length)∧qc3 (sQ ts (tNum (qw l) i))=0)∧
  ∃ A n' c' B c,v=.tuple #[inf4 l,.slice A n' c',.slice B (vNum (qw l) 3) c,.agg #[.int .i64 0,.int .i64 0]]∧vNum (qw l) 3≤c∧
   SlAt qaw 16 w B ((List.range (vNum (qw l) 3)).map fun i=>sQ ts (tNum (qw l) i)))
set_option maxHeartbeats 8000000 in
theorem qq1 (l:List UInt8) (A:Option Addr) (c:Nat) (w:World) (hS:SlAt encB 1 w A l) (hc:l.length≤c) (hl:l.length≤140737488351232) :
  Gv Tryz.prog 27 [.slice A l.length c] w fun v w'=>Op19 l v w'∧Ext w w':=by
 refine zE Tryz.func27 Tryz.ntmps27 ?_;(conv=>whnf);refine NewV.mem (Mem.nil w) ?_;intro r2 w1 hm;(conv=>whnf);refine NewV.mem hm ?_;intro r5 w2 hm;(conv=>whnf);refine NewV.mem hm ?_;intro z6 w3 hm;(conv=>whnf);refine zS hm 0 ?_;clear hm;intro w4 hm;(conv=>whnf);refine CallV.of (qjo l A _ c w4 (hS.ext hm.ext) rfl hc (by omega)) ?_;rintro v w5 ⟨rfl,he5⟩;have hm:=hm.call he5
 by_cases h0:(qp l).2=0
 ·have hpk:=qfp h0;obtain ⟨hl1,hl2⟩:=qda h0;have hH:qb6 l=[.int .i64 (hN l 2),.int .i64 (hN l 3),.int .i64 (hN l 4),.int .i64 (hN l 5)]:=by rw [qb6,if_pos h0]
  rw [hH,qjp h0];(conv=>whnf);refine NewV.mem hm ?_;intro i7 w6 hm;(conv=>whnf);refine NewV.mem hm ?_;intro f8 w7 hm;(conv=>whnf);refine zS hm 1 ?_;clear hm;intro w8 hm;(conv=>whnf);refine zS hm 0 ?_;clear hm;intro w9 hm;(conv=>whnf);have hm:Mem w w9 ((f8,.cells #[.int .i64 (0:Int),.int .i64 (0:Int)] 57 (0,0))::(i7,.cells #[.int .i64 (hN l 2:Nat),.int .i64 (hN l 3:Nat),.int .i64 (hN l 4:Nat),.int .i64 (hN l 5:Nat)] 53 (0,0))::(z6,.cells #[.int .i64 0,.int .i64 0,.int .i64 0,.int .i64 0] 53 (0,0))::(r5,.cells #[.int .i64 (0:Int),.int .i64 (0:Int)] 57 (0,0))::(r2,.cells #[.int .i64 0,.int .i64 0,.int .i64 0,.int .i64 0] 53 (0,0))::[]):=hm;refine zR hm 0 ?_;(conv=>whnf);refine zN (fun _=>?_);(conv=>whnf);refine zR hm 1 ?_;(conv=>whnf);refine zA ?_;(conv=>whnf);refine SliceV.to 28 (28+hN l 4) c rfl rfl rfl (by omega) (by omega) (by omega) (fun h=>by cases h) ?_;rw [show tsz Tryz.prog 5=1 from by kernel_rfl,show 28+hN l 4-28=(qq l).length by rw [qbv h0];omega];obtain ⟨VA,hVA⟩:∃ VA,VA=(if c=28 then A else A.map (·.add (28*1))):=⟨_,rfl⟩
  have hSV:=qmg hS hc h0;rw [← hVA] at hSV ⊢;clear hVA;(conv=>whnf);refine zR hm 1 ?_;(conv=>whnf);(iterate 2 (refine zA ?_;(conv=>whnf)));refine zR hm 1 ?_;(conv=>whnf);refine zA ?_;(conv=>whnf);refine SliceV.to (32+hN l 4) (32+hN l 4+hN l 5) c (qew (by omega)) (qew (by omega)) rfl (by omega) (by omega) (by omega) (fun h=>by cases h) ?_;rw [show tsz Tryz.prog 5=1 from by kernel_rfl,show 32+hN l 4+hN l 5-(32+hN l 4)=(qw l).length by rw [qck h0];omega];obtain ⟨TA,hTA⟩:∃ TA,TA=(if c=32+hN l 4 then A else A.map (·.add ((32+hN l 4)*1))):=⟨_,rfl⟩
  have hST:=qpm hS hc h0;rw [← hTA] at hST ⊢;clear hTA;have hVl:=qbv h0;have hTl:=qck h0;(conv=>whnf);refine DrawV.free (by kernel_rfl) (by kernel_rfl) ?_;(conv=>whnf);refine zD ?_;(conv=>whnf);apply StepD.of (fun v w=>BS w v (fixL (crcL (qq l)).toNat 4)) (fun _ _ _ h he=>h.ext he)
  ·intro wd hd;(conv=>whnf);refine CallV.of (qi2 (qq l) _ _ _ wd (hSV.ext (hm.drew.ext.trans hd)) rfl (by omega)) ?_;rintro v w9 ⟨h9,he9⟩;exact ⟨he9,h9⟩
  (conv=>whnf);apply StepD.still
  ·intro wd hd;(conv=>whnf);rintro v ⟨A',c',rfl,h1,h2⟩;(conv=>whnf);refine BytesS.sl h2 rfl ?_;(conv=>whnf);exact ⟨Ext.refl _,rfl⟩
  (conv=>whnf);refine zD ?_;(conv=>whnf);refine zD ?_;(conv=>whnf);refine zD ?_ (by intro wd hd;(conv=>whnf);(refine zA ?_;(conv=>whnf));exact ⟨Ext.refl _,rfl⟩);(conv=>whnf);refine zD ?_;(conv=>whnf);apply StepD.of (fun v w=>∃ A' n' c',v=.slice A' n' c'∧SlAt encB 1 w A' ((l.drop (28+hN l 4)).take (32+hN l 4-(28+hN l 4)))∧((l.drop (28+hN l 4)).take (32+hN l 4-(28+hN l 4))).length=n') (fun _ _ _ h he=>let ⟨A',n',c',h1,h2,h3⟩:=h;⟨A',n',c',h1,h2.ext he,h3⟩)
  ·intro wd hd;(conv=>whnf);refine SliceV.bs (hS.ext (hm.drew.ext.trans hd)) rfl (28+hN l 4) (32+hN l 4) c (qew (by omega)) (qew (by omega)) rfl (by omega) (by omega) (by omega) (Nat.le_refl _) (fun h=>by cases h) ?_;intro A' hA';(conv=>whnf);exact ⟨Ext.refl _,_,_,_,rfl,hA',by rw [List.length_take,List.length_drop];omega⟩
  (conv=>whnf);apply StepD.still
  ·intro wd hd;(conv=>whnf);rintro v ⟨A',n',c',rfl,h2,h3⟩;(conv=>whnf);refine BytesS.sl h2 h3 ?_;(conv=>whnf);exact ⟨Ext.refl _,rfl⟩
  (conv=>whnf);refine zD ?_;(conv=>whnf);intro w10 he9
  (repeat (intro _ _;(conv=>whnf)))
  (conv=>whnf);replace hm:=hm.drew.call he9;clear he9;generalize (!seq _ _)=bb;obtain rfl|rfl:bb=true∨bb=false:=by cases bb<;>simp
  ·refine zT ?_;(conv=>whnf);refine zL hm 2 ?_;(conv=>whnf);refine zA ?_;(conv=>whnf);refine zS hm 4 ?_;clear hm;intro xa hm;(conv=>whnf);refine zS hm 3 ?_;clear hm;intro xb hm;(conv=>whnf);refine qa (R:=fun v w'=>Op19 l v w'∧Ext w w') ?_;(conv=>whnf);refine zL hm 4 ?_;(conv=>whnf);refine zL hm 3 ?_;(conv=>whnf);exact ⟨.inl ⟨_,_,by omega,rfl⟩,hm.ext⟩
  refine zU ?_;(conv=>whnf);refine DrawV.free (by kernel_rfl) (by kernel_rfl) ?_;(conv=>whnf);refine zD ?_;(conv=>whnf);apply StepD.of (fun v w=>BS w v (fixL (crcL (qw l)).toNat 4)) (fun _ _ _ h he=>h.ext he)
  ·intro wd hd;(conv=>whnf);refine CallV.of (qi2 (qw l) _ _ _ wd (hST.ext (hm.drew.ext.trans hd)) rfl (by omega)) ?_;rintro v w9 ⟨h9,he9⟩;exact ⟨he9,h9⟩
  (conv=>whnf);apply StepD.still
  ·intro wd hd;(conv=>whnf);rintro v ⟨A',c',rfl,h1,h2⟩;(conv=>whnf);refine BytesS.sl h2 rfl ?_;(conv=>whnf);exact ⟨Ext.refl _,rfl⟩
  (conv=>whnf);refine zD ?_;(conv=>whnf);refine zD ?_;(conv=>whnf);refine zD ?_;(conv=>whnf);refine zD ?_ (by intro wd hd;(conv=>whnf);refine LoadV.mem (Mem.call (Mem.drew hm) hd) (i:=1) rfl rfl ?_;(conv=>whnf);exact ⟨Ext.refl _,rfl⟩);(conv=>whnf);refine zD ?_ (by intro wd hd;(conv=>whnf);(refine zA ?_;(conv=>whnf));exact ⟨Ext.refl _,rfl⟩);(conv=>whnf);apply StepD.of (fun v w=>∃ A' n' c',v=.slice A' n' c'∧SlAt encB 1 w A' ((l.drop (32+hN l 4+hN l 5)).take (l.length-(32+hN l 4+hN l 5)))∧((l.drop (32+hN l 4+hN l 5)).take (l.length-(32+hN l 4+hN l 5))).length=n') (fun _ _ _ h he=>let ⟨A',n',c',h1,h2,h3⟩:=h;⟨A',n',c',h1,h2.ext he,h3⟩)
  ·intro wd hd;(conv=>whnf);refine SliceV.bs (hS.ext (hm.drew.ext.trans hd)) rfl (32+hN l 4+hN l 5) (l.length) c (qew (by omega)) rfl rfl (by omega) (by omega) (by omega) (Nat.le_refl _) (fun h=>by cases h) ?_;intro A' hA';(conv=>whnf);exact ⟨Ext.refl _,_,_,_,rfl,hA',by rw [List.length_take,List.length_drop];omega⟩
  (conv=>whnf);apply StepD.still
  ·intro wd hd;(conv=>whnf);rintro v ⟨A',n',c',rfl,h2,h3⟩;(conv=>whnf);refine BytesS.sl h2 h3 ?_;(conv=>whnf);exact ⟨Ext.refl _,rfl⟩
  (conv=>whnf);refine zD ?_;(conv=>whnf);intro w11 he9
  (repeat (intro _ _;(conv=>whnf)))
  (conv=>whnf);replace hm:=hm.drew.call he9;clear he9;generalize (!seq _ _)=bb;obtain rfl|rfl:bb=true∨bb=false:=by cases bb<;>simp
  ·refine zT ?_;(conv=>whnf);refine DrawV.inv (fun S w'=>∃ a9:Int,Mem w w' ((f8,.cells #[.int .i64 (0:Int),.int .i64 (0:Int)] 57 (0,0))::(i7,.cells #[.int .i64 (hN l 2:Nat),.int .i64 (hN l 3:Nat),.int .i64 (hN l 4:Nat),.int .i64 (hN l 5:Nat)] 53 (0,0))::(z6,.cells #[.int .i64 0,.int .i64 0,.int .i64 0,.int .i64 0] 53 (0,0))::(r5,(bif S 9 then .cells #[.int .i64 a9,.int .i64 (30:Int)] 57 (0,0) else .cells #[.int .i64 (0:Int),.int .i64 (0:Int)] 57 (0,0)))::(r2,.cells #[.int .i64 0,.int .i64 0,.int .i64 0,.int .i64 0] 53 (0,0))::[])) rfl (by kernel_rfl) ⟨0,hm.drew⟩ ?_;clear hm;(conv=>whnf);refine StepI.of (.agg #[.int .i64 0,.int .i64 0,.int .i64 0,.int .i64 0]) (fun S wd hk hp hI=>?_) ?_
   ·(conv=>whnf);obtain ⟨a0,hI'⟩:=hI;refine zL hI' 2 ?_;(conv=>whnf);exact ⟨rfl,a0,hI'⟩
   (conv=>whnf);refine zI ?_;(conv=>whnf);refine zI ?_;(conv=>whnf);refine StepI.of (.int .i64 ((hN l 5:Nat))) (fun S wd hk hp hI=>?_) ?_
   ·(conv=>whnf);obtain ⟨a0,hI'⟩:=hI;refine zR hI' 1 ?_;(conv=>whnf);exact ⟨rfl,a0,hI'⟩
   (conv=>whnf);refine zI ?_ (by intro S wd hk hp hI;(conv=>whnf);(refine zA ?_;(conv=>whnf));exact ⟨rfl,hI⟩);(conv=>whnf);refine zI ?_;(conv=>whnf);refine StepI.of undef (fun S wd hk hp hI=>?_) ?_
   ·(conv=>whnf);obtain ⟨a0,hI'⟩:=hI;refine zS hI' 4 ?_;intro wx hmx;(conv=>whnf);exact ⟨rfl,a0,hmx⟩
   (conv=>whnf);refine zI ?_;(conv=>whnf);refine zI ?_;(conv=>whnf);refine StepI.of undef (fun S wd hk hp hI=>?_) ?_
   ·obtain ⟨a0,hI'⟩:=hI
    try dsimp only at hI'
    rw [hk] at hI';(conv=>whnf);refine zS hI' 3 ?_;intro wx hmx;(conv=>whnf);exact ⟨rfl,_,hmx⟩
   (conv=>whnf);rintro wy ⟨a0,hm⟩;have hm:Mem w wy ((f8,.cells #[.int .i64 (0:Int),.int .i64 (0:Int)] 57 (0,0))::(i7,.cells #[.int .i64 (hN l 2:Nat),.int .i64 (hN l 3:Nat),.int .i64 (hN l 4:Nat),.int .i64 (hN l 5:Nat)] 53 (0,0))::(z6,.cells #[.int .i64 0,.int .i64 0,.int .i64 0,.int .i64 0] 53 (0,0))::(r5,.cells #[.int .i64 a0,.int .i64 (30:Int)] 57 (0,0))::(r2,.cells #[.int .i64 0,.int .i64 0,.int .i64 0,.int .i64 0] 53 (0,0))::[]):=hm;(conv=>whnf);refine qa (R:=fun v w'=>Op19 l v w'∧Ext w w') ?_;(conv=>whnf);refine zL hm 4 ?_;(conv=>whnf);refine zL hm 3 ?_;(conv=>whnf);exact ⟨.inl ⟨_,_,by omega,rfl⟩,hm.ext⟩
  refine zU ?_;(conv=>whnf);have hVo:=qoo (qq l) VA (c-28) w11 (hSV.ext hm.ext) (by omega) (by omega);have hTo:=fun w' (h':SlAt encB 1 w' TA (qw l))=>qux (qw l) TA (c-(32+hN l 4)) w' h' (by omega) (by omega)
  refine CallV.of (hVo) ?_;clear hVo;rintro v w12 ⟨⟨a,e,he0,hab,rfl⟩|⟨hW,ts,hVT,VB,vc,rfl,hVown⟩,he12⟩
  ·have hm:=hm.call he12;unfold fltV;(conv=>whnf);refine zS hm 0 ?_;clear hm;intro w13 hm;(conv=>whnf);refine zR hm 0 ?_;(conv=>whnf);refine zY (fun _=>?_);(conv=>whnf);refine DrawV.inv (fun S w'=>∃ a9:Int,Mem w w' ((f8,.cells #[.int .i64 (a),.int .i64 (e)] 57 (0,0))::(i7,.cells #[.int .i64 (hN l 2:Nat),.int .i64 (hN l 3:Nat),.int .i64 (hN l 4:Nat),.int .i64 (hN l 5:Nat)] 53 (0,0))::(z6,.cells #[.int .i64 0,.int .i64 0,.int .i64 0,.int .i64 0] 53 (0,0))::(r5,(bif S 9 then .cells #[.int .i64 a9,.int .i64 e] 57 (0,0) else .cells #[.int .i64 (0:Int),.int .i64 (0:Int)] 57 (0,0)))::(r2,.cells #[.int .i64 0,.int .i64 0,.int .i64 0,.int .i64 0] 53 (0,0))::[])) rfl (by kernel_rfl) ⟨0,hm.drew⟩ ?_;clear hm;(conv=>whnf);refine StepI.of (.agg #[.int .i64 0,.int .i64 0,.int .i64 0,.int .i64 0]) (fun S wd hk hp hI=>?_) ?_
   ·(conv=>whnf);obtain ⟨a0,hI'⟩:=hI;refine zL hI' 2 ?_;(conv=>whnf);exact ⟨rfl,a0,hI'⟩
   (conv=>whnf);refine zI ?_;(conv=>whnf);refine StepI.of (.int .i64 (a)) (fun S wd hk hp hI=>?_) ?_
   ·(conv=>whnf);obtain ⟨a0,hI'⟩:=hI;refine zR hI' 0 ?_;(conv=>whnf);exact ⟨rfl,a0,hI'⟩
   (conv=>whnf);refine zI ?_;(conv=>whnf);refine StepI.of (.int .i64 (e)) (fun S wd hk hp hI=>?_) ?_
   ·(conv=>whnf);obtain ⟨a0,hI'⟩:=hI;refine zR hI' 0 ?_;(conv=>whnf);exact ⟨rfl,a0,hI'⟩
   (conv=>whnf);refine StepI.of (.agg #[.int .i64 (28+a),.int .i64 (e)]) (fun S wd hk hp hI=>?_) ?_
   ·(conv=>whnf);obtain ⟨a0,hI'⟩:=hI;refine CallV.of (qdd (28) (a) (e) wd (by omega) (by omega)) ?_;rintro v wx ⟨rfl,hx⟩;unfold fltV;exact ⟨rfl,a0,hI'.call hx⟩
   (conv=>whnf);refine StepI.of undef (fun S wd hk hp hI=>?_) ?_
   ·(conv=>whnf);obtain ⟨a0,hI'⟩:=hI;refine zS hI' 4 ?_;intro wx hmx;(conv=>whnf);exact ⟨rfl,a0,hmx⟩
   (conv=>whnf);refine zI ?_;(conv=>whnf);refine zI ?_;(conv=>whnf);refine StepI.of undef (fun S wd hk hp hI=>?_) ?_
   ·obtain ⟨a0,hI'⟩:=hI
    try dsimp only at hI'
    rw [hk] at hI';(conv=>whnf);refine zS hI' 3 ?_;intro wx hmx;(conv=>whnf);exact ⟨rfl,_,hmx⟩
   (conv=>whnf);rintro wy ⟨a0,hm⟩;have hm:Mem w wy ((f8,.cells #[.int .i64 (a),.int .i64 (e)] 57 (0,0))::(i7,.cells #[.int .i64 (hN l 2:Nat),.int .i64 (hN l 3:Nat),.int .i64 (hN l 4:Nat),.int .i64 (hN l 5:Nat)] 53 (0,0))::(z6,.cells #[.int .i64 0,.int .i64 0,.int .i64 0,.int .i64 0] 53 (0,0))::(r5,.cells #[.int .i64 a0,.int .i64 e] 57 (0,0))::(r2,.cells #[.int .i64 0,.int .i64 0,.int .i64 0,.int .i64 0] 53 (0,0))::[]):=hm;(conv=>whnf);refine qa (R:=fun v w'=>Op19 l v w'∧Ext w w') ?_;(conv=>whnf);refine zL hm 4 ?_;(conv=>whnf);refine zL hm 3 ?_;(conv=>whnf);exact ⟨.inl ⟨_,_,he0,rfl⟩,hm.ext⟩
  have hm0:=hm;have hm:=hm.call he12;unfold fltV;(conv=>whnf);have hf8:f8<w11.heap.size:=hm0.lt (List.mem_cons_self ..);refine StoreA.row hm (i:=0) rfl (Nat.le_refl 2) (by simp [Value.oneCell']) ?_;clear hm;intro w13 hoth hsz hm;have hm:Mem w w13 ((f8,.cells #[.int .i64 (0:Int),.int .i64 (0:Int)] 57 (0,0))::(i7,.cells #[.int .i64 (hN l 2:Nat),.int .i64 (hN l 3:Nat),.int .i64 (hN l 4:Nat),.int .i64 (hN l 5:Nat)] 53 (0,0))::(z6,.cells #[.int .i64 0,.int .i64 0,.int .i64 0,.int .i64 0] 53 (0,0))::(r5,.cells #[.int .i64 (0:Int),.int .i64 (0:Int)] 57 (0,0))::(r2,.cells #[.int .i64 0,.int .i64 0,.int .i64 0,.int .i64 0] 53 (0,0))::[]):=hm;have hVown:=qd5 hVown (fun c hc _=>hoth c (by omega));(conv=>whnf);refine zR hm 0 ?_;(conv=>whnf);refine zN (fun _=>?_);(conv=>whnf);refine CallV.of (hTo w13 (hST.ext hm.ext)) ?_;clear hTo;rintro v w14 ⟨⟨a,e,he0,hab,rfl⟩|⟨hT,hLv,TB,tc,rfl,hTown⟩,he14⟩
  all_goals
   have hm:=hm.call he14;unfold fltV;(conv=>whnf);refine ⟨fun t14 w15 hb15 hw15=>?_⟩;have hm:=hm.new hb15 hw15;(conv=>whnf);refine StoreA.row hm (i:=0) rfl (Nat.le_refl 2) (by simp [Value.oneCell']) ?_;clear hm;intro w16 hoth6 hsz6 hm;have hag:∀ c,c<w14.heap.size→w16.heap[c]?=w14.heap[c]?:=fun c hc=>by
    rw [hoth6 c (by omega),hw15];exact ((Ext.refl w14).alloc _).block c hc
   (conv=>whnf);refine zR hm 0 ?_;conv=>whnf
   (repeat' ((with_reducible refine zC (fun _=>?_) (fun _=>?_))<;>first|(exfalso;omega)|(conv=>whnf)))
  ·skip
   refine DrawV.inv (fun S w'=>∃ a9:Int,Mem w w' ((t14,.cells #[.int .i64 (a),.int .i64 (e)] 132 (0,0))::(f8,.cells #[.int .i64 (0:Int),.int .i64 (0:Int)] 57 (0,0))::(i7,.cells #[.int .i64 (hN l 2:Nat),.int .i64 (hN l 3:Nat),.int .i64 (hN l 4:Nat),.int .i64 (hN l 5:Nat)] 53 (0,0))::(z6,.cells #[.int .i64 0,.int .i64 0,.int .i64 0,.int .i64 0] 53 (0,0))::(r5,(bif S 10 then .cells #[.int .i64 a9,.int .i64 e] 57 (0,0) else .cells #[.int .i64 (0:Int),.int .i64 (0:Int)] 57 (0,0)))::(r2,.cells #[.int .i64 0,.int .i64 0,.int .i64 0,.int .i64 0] 53 (0,0))::[])) rfl (by kernel_rfl) ⟨0,hm.drew⟩ ?_;clear hm;(conv=>whnf);refine StepI.of (.agg #[.int .i64 0,.int .i64 0,.int .i64 0,.int .i64 0]) (fun S wd hk hp hI=>?_) ?_
   ·(conv=>whnf);obtain ⟨a0,hI'⟩:=hI;refine zL hI' 3 ?_;(conv=>whnf);exact ⟨rfl,a0,hI'⟩
   (conv=>whnf);refine zI ?_;(conv=>whnf);refine zI ?_;(conv=>whnf);refine StepI.of (.int .i64 (a)) (fun S wd hk hp hI=>?_) ?_
   ·(conv=>whnf);obtain ⟨a0,hI'⟩:=hI;refine zR hI' 0 ?_;(conv=>whnf);exact ⟨rfl,a0,hI'⟩
   (conv=>whnf);refine zI ?_;(conv=>whnf);refine StepI.of (.int .i64 (e)) (fun S wd hk hp hI=>?_) ?_
   ·(conv=>whnf);obtain ⟨a0,hI'⟩:=hI;refine zR hI' 0 ?_;(conv=>whnf);exact ⟨rfl,a0,hI'⟩
   (conv=>whnf);refine StepI.of (.agg #[.int .i64 (28+(hN l 4:Nat)+4+a),.int .i64 (e)]) (fun S wd hk hp hI=>?_) ?_
   ·(conv=>whnf);obtain ⟨a0,hI'⟩:=hI;refine CallV.of (qdd (28+(hN l 4:Nat)+4) (a) (e) wd (by omega) (by omega)) ?_;rintro v wx ⟨rfl,hx⟩;unfold fltV;exact ⟨rfl,a0,hI'.call hx⟩
   (conv=>whnf);refine StepI.of undef (fun S wd hk hp hI=>?_) ?_
   ·(conv=>whnf);obtain ⟨a0,hI'⟩:=hI;refine zS hI' 5 ?_;intro wx hmx;(conv=>whnf);exact ⟨rfl,a0,hmx⟩
   (conv=>whnf);refine zI ?_;(conv=>whnf);refine zI ?_;(conv=>whnf);refine StepI.of undef (fun S wd hk hp hI=>?_) ?_
   ·obtain ⟨a0,hI'⟩:=hI
    try dsimp only at hI'
    rw [hk] at hI';(conv=>whnf);refine zS hI' 4 ?_;intro wx hmx;(conv=>whnf);exact ⟨rfl,_,hmx⟩
   (conv=>whnf);rintro wy ⟨a0,hm⟩;have hm:Mem w wy ((t14,.cells #[.int .i64 (a),.int .i64 (e)] 132 (0,0))::(f8,.cells #[.int .i64 (0:Int),.int .i64 (0:Int)] 57 (0,0))::(i7,.cells #[.int .i64 (hN l 2:Nat),.int .i64 (hN l 3:Nat),.int .i64 (hN l 4:Nat),.int .i64 (hN l 5:Nat)] 53 (0,0))::(z6,.cells #[.int .i64 0,.int .i64 0,.int .i64 0,.int .i64 0] 53 (0,0))::(r5,.cells #[.int .i64 a0,.int .i64 e] 57 (0,0))::(r2,.cells #[.int .i64 0,.int .i64 0,.int .i64 0,.int .i64 0] 53 (0,0))::[]):=hm;(conv=>whnf);refine qa (R:=fun v w'=>Op19 l v w'∧Ext w w') ?_;(conv=>whnf);refine zL hm 5 ?_;(conv=>whnf);refine zL hm 4 ?_;(conv=>whnf);exact ⟨.inl ⟨_,_,he0,rfl⟩,hm.ext⟩
  have hVown:=qd5 (qbz hVown he14) (fun c _ hc=>hag c hc);have hTown:=qd5 hTown (fun c _ hc=>hag c hc);clear hag hoth6 hsz6 hb15 hw15 hoth hsz;have hm16:=hm;have hm:Mem w w16 ((t14,.cells #[.int .i64 (0:Int),.int .i64 (0:Int)] 132 (0,0))::(f8,.cells #[.int .i64 (0:Int),.int .i64 (0:Int)] 57 (0,0))::(i7,.cells #[.int .i64 (hN l 2:Nat),.int .i64 (hN l 3:Nat),.int .i64 (hN l 4:Nat),.int .i64 (hN l 5:Nat)] 53 (0,0))::(z6,.cells #[.int .i64 0,.int .i64 0,.int .i64 0,.int .i64 0] 53 (0,0))::(r5,.cells #[.int .i64 (0:Int),.int .i64 (0:Int)] 57 (0,0))::(r2,.cells #[.int .i64 0,.int .i64 0,.int .i64 0,.int .i64 0] 53 (0,0))::[]):=hm;refine zR hm 2 ?_;(conv=>whnf);refine zC (fun _=>?_) (fun _=>?_)<;>(conv=>whnf)
  ·refine zL hm 3 ?_;(conv=>whnf);refine zS hm 5 ?_;clear hm;intro xa hm;(conv=>whnf);refine zS hm 4 ?_;clear hm;intro xb hm;(conv=>whnf);refine qa (R:=fun v w'=>Op19 l v w'∧Ext w w') ?_;(conv=>whnf);refine zL hm 5 ?_;(conv=>whnf);refine zL hm 4 ?_;(conv=>whnf);exact ⟨.inl ⟨_,_,by omega,rfl⟩,hm.ext⟩
  refine zR hm 2 ?_;(conv=>whnf);refine zC (fun _=>?_) (fun _=>?_)<;>(conv=>whnf)
  ·refine zL hm 3 ?_;(conv=>whnf);refine zS hm 5 ?_;clear hm;intro xa hm;(conv=>whnf);refine zS hm 4 ?_;clear hm;intro xb hm;(conv=>whnf);refine qa (R:=fun v w'=>Op19 l v w'∧Ext w w') ?_;(conv=>whnf);refine zL hm 5 ?_;(conv=>whnf);refine zL hm 4 ?_;(conv=>whnf);exact ⟨.inl ⟨_,_,by omega,rfl⟩,hm.ext⟩
  obtain ⟨is,eis⟩:∃ is:List (Nat→Nat),is=(List.range (vNum (qw l) 3)).map fun i=>tNum (qw l) i:=⟨_,rfl⟩
  have hisl:is.length=vNum (qw l) 3:=by rw [eis,List.length_map,List.length_range]
  have htl:ts.length=vTot (qq l) 3:=hVT.len;have hisf:idsL (qw l) (vNum (qw l) 3)=(is.map idE).flatten:=by
   rw [eis,idsL,List.map_map];rfl
  rw [hisf] at hTown;obtain ⟨hVS,hVc⟩:=qb7 qby hVown htl;obtain ⟨hTS,hTc⟩:=qb7 (enc:=idE) (fun _=>rfl) hTown hisl;have hvt:=qzp hW;have hvn:=qp7 hT;have hsd:=qww ts is VB TB vc tc w16 hVS hTS hVT.ok (by omega) (by omega);rw [htl,hisl] at hsd;(conv=>whnf);refine CallV.of (hsd) ?_;clear hsd;rintro v w17 ⟨rfl|⟨hQ,QB,qc,rfl,hQown⟩,he17⟩
  ·have hm:=hm.call he17;(conv=>whnf);refine zP ?_;refine zU ?_;(conv=>whnf);refine zL hm 3 ?_;(conv=>whnf);refine zS hm 5 ?_;clear hm;intro xa hm;(conv=>whnf);refine zS hm 4 ?_;clear hm;intro xb hm;(conv=>whnf);refine qa (R:=fun v w'=>Op19 l v w'∧Ext w w') ?_;(conv=>whnf);refine zL hm 5 ?_;(conv=>whnf);refine zL hm 4 ?_;(conv=>whnf);exact ⟨.inl ⟨_,_,by omega,rfl⟩,hm.ext⟩
  have hm:=hm.call he17;have hql:(is.map (sQ ts)).length=is.length:=List.length_map ..;obtain ⟨hQS,hQc⟩:=qb7 qmm hQown hql;have htt:=qm7 (is.map (sQ ts)) QB qc w17 hQS (by omega);rw [hql] at htt;rw [hisl] at htt ⊢;(conv=>whnf);refine zP ?_;refine zT ?_;(conv=>whnf);refine CallV.of (htt) ?_;clear htt;rintro v w18 ⟨⟨EB,ec,rfl,_,_⟩,he18⟩;have hm:=hm.call he18;(conv=>whnf);refine zC (fun _=>?_) (fun _=>?_)<;>(conv=>whnf)
  ·refine zL hm 3 ?_;(conv=>whnf);refine zS hm 5 ?_;clear hm;intro xa hm;(conv=>whnf);refine zS hm 4 ?_;clear hm;intro xb hm;(conv=>whnf);refine qa (R:=fun v w'=>Op19 l v w'∧Ext w w') ?_;(conv=>whnf);refine zL hm 5 ?_;(conv=>whnf);refine zL hm 4 ?_;(conv=>whnf);exact ⟨.inl ⟨_,_,by omega,rfl⟩,hm.ext⟩
  refine zL hm 2 ?_;(conv=>whnf);have hQown:=qbz hQown he18;have hbr2:r2<w16.heap.size:=hm16.lt (List.mem_of_getElem? (i:=5) rfl);have hbr5:r5<w16.heap.size:=hm16.lt (List.mem_of_getElem? (i:=4) rfl);refine StoreA.row hm (i:=5) rfl (Nat.le_refl 4) (by simp [Value.oneCell']) ?_;clear hm;intro w19 hoth hsz hm;have hQown:=qd5 hQown (fun c hc _=>hoth c (by omega));(conv=>whnf);refine StoreA.row hm (i:=4) rfl (Nat.le_refl 2) (by simp [Value.oneCell']) ?_;clear hm;intro w20 hoth2 hsz2 hm;have hQown:=qd5 hQown (fun c hc _=>hoth2 c (by omega));(conv=>whnf);refine qa (R:=fun v w'=>Op19 l v w'∧Ext w w') ?_;(conv=>whnf);refine zL hm 5 ?_;(conv=>whnf);refine zL hm 4 ?_;(conv=>whnf);obtain ⟨hQS,hQc⟩:=qb7 qmm hQown hql;rw [hisl] at hQc;have hPE:(q8 l).2=0:=by rw [hpk,fpE,if_neg (by omega),if_neg (by omega)]
  refine ⟨.inr ⟨hPE,ts,hVT,hLv,by omega,fun i hi=>?_,VB,vTot (qq l) 3,vc,QB,qc,rfl,hQc,?_⟩,hm.ext⟩
  ·exact hQ (tNum (qw l) i) (by rw [eis];exact List.mem_map.2 ⟨i,List.mem_range.2 hi,rfl⟩)
  ·rw [eis,List.map_map] at hQS;exact hQS
 ·have hH:qb6 l=[.int .i64 0,.int .i64 0,.int .i64 0,.int .i64 0]:=by rw [qb6,if_neg h0]
  rw [hH];(conv=>whnf);refine NewV.mem hm ?_;intro i7 w6 hm;(conv=>whnf);refine NewV.mem hm ?_;intro f8 w7 hm;(conv=>whnf);refine zS hm 1 ?_;clear hm;intro w8 hm;(conv=>whnf);refine zS hm 0 ?_;clear hm;intro w9 hm;(conv=>whnf);refine zR hm 0 ?_;(conv=>whnf);refine zY (fun _=>?_);(conv=>whnf);refine DrawV.inv (fun S w'=>∃ a9:Int,Mem w w' ((f8,.cells #[.int .i64 (((qp l).1:Nat)),.int .i64 (((qp l).2:Nat))] 57 (0,0))::(i7,.cells #[.int .i64 0,.int .i64 0,.int .i64 0,.int .i64 0] 53 (0,0))::(z6,.cells #[.int .i64 0,.int .i64 0,.int .i64 0,.int .i64 0] 53 (0,0))::(r5,(bif S 5 then .cells #[.int .i64 a9,.int .i64 (((qp l).2:Nat):Int)] 57 (0,0) else .cells #[.int .i64 (0:Int),.int .i64 (0:Int)] 57 (0,0)))::(r2,.cells #[.int .i64 0,.int .i64 0,.int .i64 0,.int .i64 0] 53 (0,0))::[])) rfl (by kernel_rfl) ⟨0,hm.drew⟩ ?_;clear hm;(conv=>whnf);refine StepI.of (.agg #[.int .i64 0,.int .i64 0,.int .i64 0,.int .i64 0]) (fun S wd hk hp hI=>?_) ?_
  ·(conv=>whnf);obtain ⟨a0,hI'⟩:=hI;refine zL hI' 2 ?_;(conv=>whnf);exact ⟨rfl,a0,hI'⟩
  (conv=>whnf);refine StepI.of (.agg #[.int .i64 ((qp l).1:Nat),.int .i64 ((qp l).2:Nat)]) (fun S wd hk hp hI=>?_) ?_
  ·(conv=>whnf);obtain ⟨a0,hI'⟩:=hI;refine zL hI' 0 ?_;(conv=>whnf);exact ⟨rfl,a0,hI'⟩
  (conv=>whnf);refine StepI.of undef (fun S wd hk hp hI=>?_) ?_
  ·(conv=>whnf);obtain ⟨a0,hI'⟩:=hI;refine zS hI' 4 ?_;intro wx hmx;(conv=>whnf);exact ⟨rfl,a0,hmx⟩
  (conv=>whnf);refine zI ?_;(conv=>whnf);refine zI ?_;(conv=>whnf);refine StepI.of undef (fun S wd hk hp hI=>?_) ?_
  ·obtain ⟨a0,hI'⟩:=hI
   try dsimp only at hI'
   rw [hk] at hI';(conv=>whnf);refine zS hI' 3 ?_;intro wx hmx;(conv=>whnf);exact ⟨rfl,_,hmx⟩
  (conv=>whnf);rintro wy ⟨a0,hm⟩;have hm:Mem w wy ((f8,.cells #[.int .i64 (((qp l).1:Nat)),.int .i64 (((qp l).2:Nat))] 57 (0,0))::(i7,.cells #[.int .i64 0,.int .i64 0,.int .i64 0,.int .i64 0] 53 (0,0))::(z6,.cells #[.int .i64 0,.int .i64 0,.int .i64 0,.int .i64 0] 53 (0,0))::(r5,.cells #[.int .i64 a0,.int .i64 (((qp l).2:Nat):Int)] 57 (0,0))::(r2,.cells #[.int .i64 0,.int .i64 0,.int .i64 0,.int .i64 0] 53 (0,0))::[]):=hm;(conv=>whnf);refine qa (R:=fun v w'=>Op19 l v w'∧Ext w w') ?_;(conv=>whnf);refine zL hm 4 ?_;(conv=>whnf);refine zL hm 3 ?_;(conv=>whnf);exact ⟨.inl ⟨_,_,by omega,rfl⟩,hm.ext⟩
open Go.RowKit V
set_option maxRecDepth 100000
namespace V
theorem Fall.copy {P:Program} {ρ:Nat→Value} {o:Oper} {c:Call} {w:World} {K:Value→World→Prop} {a b:Value} (ho:o.op=.call c) (hc:c.callee=.builtin .copy) (hv:evs ρ c.args.toList=[a,b]) (v:Value) (w':World)
  (hrun:(Builtin.copy_ c.argTypes o.type #[a,b]).run P w=.ok v w') (hk:K v w'):Fall P (execOp (ev ρ) o) w K:=by
 have he:execOp (ev ρ) o=(do pure (.value (← Builtin.copy_ c.argTypes o.type (c.args.map (ev ρ))))):=by
  simp only [execOp,ho,resolve,hc];rfl
 have hv':c.args.map (ev ρ)=#[a,b]:=by
  rw [qdm] at hv;rw [← Array.toList_inj];simpa using hv
 rw [he,hv'];exact ⟨.inl ⟨v,w',by rw [Sem.run_bind,hrun];rfl,hk⟩⟩
end V
theorem qqi (l:List UInt8) (A:Option Addr) (c:Nat) (w:World) (hS:SlAt encB 1 w A l) (hl:l.length≤140737488351232) :
  Gv Tryz.prog 51 [.slice A l.length c] w fun v w'=>Rw w w' v 5 1 l.length (l.map fun c=>Value.int .u8 c.toNat) []:=by
 refine zE Tryz.func51 Tryz.ntmps51 ?_;(conv=>whnf);refine ⟨l.length,l.length,rfl,rfl,Nat.le_refl _,show l.length*1≤140737488355328 by omega,by omega,?_⟩;intro ob w1 hob hw1;have hm:Mem w w1 [(ob,.cells (qa6 [.int .u8 0] l.length).toArray 5 (0,0))]:=(Mem.nil w).new hob hw1;clear hob hw1;(conv=>whnf);have hu:Tryz.prog.underlying 45=some (.slice 5):=Tryz.underlying45;have hsz:(Tryz.prog.info? 5).map (·.size)=some 1:=by kernel_rfl
 have hg:=hm.get (List.mem_cons_self ..);have hzl:(qa6 [Value.int .u8 0] l.length).length=l.length:=by rw [qf7];simp
 rcases Nat.eq_zero_or_pos l.length with h0|h0
 ·have hcp:=run_copy_none (P:=Tryz.prog) w1 45 45 3 5 (some ⟨ob,0,none⟩) A l.length l.length l.length c hu hsz (by rw [h0];rfl);refine Fall.copy rfl rfl rfl _ _ hcp ?_;(conv=>whnf);have e:l=[]:=List.eq_nil_of_length_eq_zero h0;subst e;exact ⟨hm.sub (List.nil_sublist _),⟨rfl,.inr ⟨ob,0,_,rfl,(hm.own _ (List.mem_cons_self ..)).1,hg,Nat.le_refl _,Nat.zero_le _,rfl,rfl⟩⟩,fun x hx=>by simp at hx⟩
 ·obtain ⟨gb,go,eA,hca⟩:=hS.at_ (by intro e;rw [e] at h0;simp at h0);subst eA;have hlm:(l.map fun c=>Value.int .u8 c.toNat).length=l.length:=List.length_map ..;have hcp:=run_copy_row (P:=Tryz.prog) w1 45 45 3 5 ob 0 l.length l.length ⟨gb,go,none⟩ l.length c _ 5 (l.map fun c=>Value.int .u8 c.toNat) hu hsz hg (by rw [hlm];exact (Nat.min_self _).symm) (fun j v hv=>by
   rw [List.getElem?_map] at hv;obtain ⟨x,hx,rfl⟩:=Option.map_eq_some_iff.1 hv;have h1:=Ext.cell hm.ext (hca j x hx 0 _ rfl);rw [Nat.mul_one,Nat.add_zero] at h1;have ea:(⟨gb,go,none⟩:Addr).add j=⟨gb,go+j,none⟩:=by unfold Addr.add;split<;>simp_all
   rw [ea];exact h1) (by rw [hlm,Nat.zero_add];simp [hzl]) (fun v hv=>by
   obtain ⟨x,_,rfl⟩:=List.mem_map.1 hv;rfl)
  have ec:((qa6 [Value.int .u8 0] l.length).toArray.toList.take 0++(l.map fun c=>Value.int .u8 c.toNat)++(qa6 [Value.int .u8 0] l.length).toArray.toList.drop (0+(l.map fun c=>Value.int .u8 c.toNat).length)).toArray=(l.map fun c=>Value.int .u8 c.toNat).toArray:=by
   rw [List.take_zero,List.nil_append,List.drop_eq_nil_of_le (by rw [hlm];simp [hzl]),List.append_nil]
  rw [ec] at hcp;refine Fall.copy rfl rfl rfl _ _ hcp ?_;have hm2:Mem w (w1.setRow ob (l.map fun c=>Value.int .u8 c.toNat).toArray) [(ob,.cells (l.map fun c=>Value.int .u8 c.toNat).toArray 5 (0,0))]:=by
   refine hm.set (i:=0) rfl (Below.trans hm.ext ⟨rfl,rfl,rfl,by simp [World.setRow],fun k hk=>ql (by have:=(hm.own _ (List.mem_cons_self ..)).1;simp only at this;omega)⟩) (qbt hg) (fun c hc=>ql hc)
  unfold goInt;(conv=>whnf);exact ⟨hm2.sub (List.nil_sublist _),⟨by rw [hlm,Nat.mul_one],.inr ⟨ob,l.length,_,rfl,(hm2.own _ (List.mem_cons_self ..)).1,hm2.get (List.mem_cons_self ..),Nat.le_refl _,by simp only [maxLen];omega,by simp,by
   show List.take (l.length*1) _=_;rw [Nat.mul_one];exact List.take_of_length_le (by rw [hlm];exact Nat.le_refl _)⟩⟩,fun x hx=>by simp at hx⟩
theorem qoy {x:Int} {d n:Nat} (h:x=(n:Int)):bnd (some (.int .i64 x)) d n:=by
 subst h;rfl
def Roomy (l:List UInt8) (base:Nat) (v:Value) (w:World):Prop:=
 ∃ g c,v=.slice (some ⟨g,0,none⟩) l.length c∧l.length+2≤c∧base≤g∧SlAt encB 1 w (some ⟨g,0,none⟩) (l++[201,202])
theorem Roomy.ext {l:List UInt8} {base:Nat} {v:Value} {w w':World} (h:Roomy l base v w) (he:Ext w w'):Roomy l base v w':=by
 obtain ⟨g,c,h1,h2,h3,h4⟩:=h;exact ⟨g,c,h1,h2,h3,h4.ext he⟩
theorem qqf (l:List UInt8):(l.map fun c=>Value.int .u8 c.toNat)=(l.map encB).flatten:=by
 induction l with
 | nil=>rfl
 | cons x l ih=>simp only [List.map_cons,List.flatten_cons,ih];rfl
theorem qug (l:List UInt8) (A:Option Addr) (c:Nat) (w:World) (hS:SlAt encB 1 w A l) (hl:l.length≤140737488351232) :
  Gv Tryz.prog 18 [.slice A l.length c] w fun v w'=>Roomy l w.heap.size v w'∧Ext w w':=by
 refine zE Tryz.func18 Tryz.ntmps18 ?_;(conv=>whnf);refine CallV.of (qqi l A c w hS hl) ?_;rintro v w1 hR;obtain ⟨A1,c1,rfl⟩:=hR.slice;(conv=>whnf);refine NewV.rw hR ?_;clear hR;intro nb w2 hR;(conv=>whnf);refine AppV.rw (m:=2) (news:=[.int .u8 201,.int .u8 202]) qdv bytI bytZ (by kernel_rfl) rfl (by decide +kernel) hR rfl (fun _=>⟨nb,0,rfl,fun k v hv=>?_⟩) (by simp [Value.oneCell']) (by rw [show ((Tryz.prog.info? 5).get (by kernel_rfl)).bytes=1 from by kernel_rfl];omega) (by omega) ?_
 ·rw [qd (hR.mem.get (List.mem_cons_self ..)),Nat.zero_add];rw [List.getElem?_toArray];exact hv
 clear hR;intro A2 c2 w3 hR;have hfl:(l.map fun c=>Value.int .u8 c.toNat)++[.int .u8 201,.int .u8 202]=((l++[201,202]).map encB).flatten:=by
  rw [← qqf];simp
 rw [hfl] at hR;have hlen:(l++[(201:UInt8),202]).length=l.length+2:=by simp
 obtain ⟨h1,⟨_,h0⟩|⟨g,cap,cur,h2,h3,h4,h5,h6⟩⟩:=id hR.own
 ·cases h0
 cases h2;obtain ⟨o1,o2⟩:=qb7 (enc:=encB) (fun _=>rfl) hR.own hlen;(conv=>whnf);refine SliceV.to 0 l.length c2 rfl rfl rfl (by omega) (by omega) (Nat.le_refl _) (fun h=>by cases h) ?_;rw [if_neg (by omega)];(conv=>whnf);refine ⟨⟨g,c2,?_,o2,h3,o1⟩,hR.mem.ext⟩;rw [show tsz Tryz.prog 5=1 from by kernel_rfl];rfl
theorem qpe (l:List UInt8) (A:Option Addr) (c base:Nat) (v:Value) (w:World) (hm:Roomy l base v w) (hS:SlAt encB 1 w A l) (hl:l.length≤140737488351232) :
  Gv Tryz.prog 23 [v,.slice A l.length c] w fun v w'=>v=.bool true∧Ext w w':=by
 obtain ⟨g,c2,rfl,hc2,_,o1⟩:=hm;have o0:SlAt encB 1 w (some ⟨g,0,none⟩) l:=by
  have:=o1.cut (lo:=0) (hi:=l.length) (m:=c2) (by omega) (by simp) (by omega) rfl;rw [if_neg (by omega),List.drop_zero,Nat.sub_zero,List.take_left] at this;exact this
 obtain ⟨g',o',e',hcell⟩:=o1.at_ (by simp);cases e';have hc1:w.cell? ⟨g,0+l.length,none⟩=some (.int .u8 201):=by
  have:=hcell l.length 201 (by simp) 0 _ rfl;rw [Nat.mul_one,Nat.add_zero] at this;exact this
 have hc3:w.cell? ⟨g,0+(l.length+1),none⟩=some (.int .u8 202):=by
  have:=hcell (l.length+1) 202 (by rw [List.getElem?_append_right (by omega)];simp) 0 _ rfl;rw [Nat.mul_one,Nat.add_zero] at this;exact this
 refine zE Tryz.func23 Tryz.ntmps23 ?_;(conv=>whnf);refine zA ?_;(conv=>whnf);refine SliceV.to 0 (l.length+2) c2 rfl (qoy (by omega)) rfl (by omega) (by omega) (Nat.le_refl _) (fun h=>by cases h) ?_;rw [if_neg (by omega),show tsz Tryz.prog 5=1 from by kernel_rfl,show Option.map (fun x:Addr=>x.add (0*1)) (some ⟨g,0,none⟩)=some ⟨g,0,none⟩ from rfl,Nat.sub_zero,Nat.sub_zero];(conv=>whnf);refine DrawV.quiet (by kernel_rfl) (by kernel_rfl) ?_;(conv=>whnf);(iterate 3 (refine zW ?_;(conv=>whnf)));refine SliceV.to 0 l.length c2 rfl (qoy rfl) rfl (by omega) (by omega) (Nat.le_refl _) (fun h=>by cases h) ?_;rw [if_neg (by omega),show tsz Tryz.prog 5=1 from by kernel_rfl,show Option.map (fun x:Addr=>x.add (0*1)) (some ⟨g,0,none⟩)=some ⟨g,0,none⟩ from rfl,Nat.sub_zero,Nat.sub_zero];(conv=>whnf);refine zW ?_;(conv=>whnf);refine BytesS.sl (o0.ext (Ext.refl _).drew) rfl ?_;(conv=>whnf);(iterate 2 (refine zW ?_;(conv=>whnf)));refine BytesS.sl (hS.ext (Ext.refl _).drew) rfl ?_;(conv=>whnf);(iterate 3 (refine zW ?_;(conv=>whnf)));have hsq:seq (⟨l.toArray⟩:ByteArray) ⟨l.toArray⟩=true:=q7.2 rfl;rw [hsq];(conv=>whnf);(iterate 3 (refine zT ?_;(conv=>whnf);refine zW ?_;(conv=>whnf)));refine zT ?_;(conv=>whnf);refine ⟨⟨g,0,l.length,rfl,rfl,by omega,?_⟩⟩;rw [show tsz Tryz.prog 5=1 from by kernel_rfl,Nat.mul_one];(conv=>whnf);refine zW ?_;(conv=>whnf);refine zT ?_;(conv=>whnf);refine LoadV.of (hc1) ?_;(conv=>whnf);(iterate 2 (refine zW ?_;(conv=>whnf);refine zT ?_;(conv=>whnf)));(iterate 2 (refine zW ?_;(conv=>whnf)));refine zY (fun _=>?_);(conv=>whnf);(iterate 3 (refine zW ?_;(conv=>whnf);refine zT ?_;(conv=>whnf)));refine zA ?_;(conv=>whnf);refine zW ?_;(conv=>whnf);refine zT ?_;(conv=>whnf);refine ⟨⟨g,0,(l.length+1),rfl,rfl,by omega,?_⟩⟩;rw [show tsz Tryz.prog 5=1 from by kernel_rfl,Nat.mul_one];(conv=>whnf);refine zW ?_;(conv=>whnf);refine zT ?_;(conv=>whnf);refine LoadV.of (hc3) ?_;(conv=>whnf);(iterate 2 (refine zW ?_;(conv=>whnf);refine zT ?_;(conv=>whnf)));(iterate 2 (refine zW ?_;(conv=>whnf)));exact ⟨rfl,(Ext.refl w).drew⟩
open Go.RowKit V
set_option maxRecDepth 100000
namespace V
theorem Fall.assert {P:Program} {ρ:Nat→Value} {o:Oper} {x:Operand} {xT t:TypeId} {c:Bool} {w:World} {K:Value→World→Prop} (ho:o.op=.typeAssert x xT t c) (v:Value) (w':World)
  (hrun:(Instr.typeAssert (ev ρ x) xT t c).run P w=.ok v w') (hk:K v w'):Fall P (execOp (ev ρ) o) w K:=by
 have he:execOp (ev ρ) o=(do pure (.value (← Instr.typeAssert (ev ρ x) xT t c))):=by
  simp only [execOp,ho]
 rw [he];exact ⟨.inl ⟨v,w',by rw [Sem.run_bind,hrun];rfl,hk⟩⟩
end V
theorem q0u (n:Int) (w:World):(Instr.typeAssert (.iface 26 (.int .i64 n)) 49 26 true).run Tryz.prog w=.ok (.tuple #[.int .i64 n,.bool true]) w:=by kernel_rfl
theorem qx2 (v:Value) (w:World):(Instr.typeAssert (.iface 135 v) 49 26 true).run Tryz.prog w=.ok (.tuple #[.int .i64 0,.bool false]) w:=by kernel_rfl
theorem qx3 (v:Value) (w:World):(Instr.typeAssert (.iface 135 v) 49 135 true).run Tryz.prog w=.ok (.tuple #[v,.bool true]) w:=by kernel_rfl
theorem qmd (n:Int) (w:World):Gv Tryz.prog 60 [.iface 26 (.int .i64 n)] w fun v w'=>v=.int .i64 n∧Ext w w':=by
 refine zE Tryz.func60 Tryz.ntmps60 ?_;(conv=>whnf);refine Fall.assert rfl _ _ (q0u n w) ?_;(conv=>whnf);refine zT ?_;(conv=>whnf);exact ⟨rfl,Ext.refl _⟩
theorem qob (w:World):Gv Tryz.prog 22 [.nilIface] w fun v w'=>v=fltV 0 0∧Ext w w':=by
 refine zE Tryz.func22 Tryz.ntmps22 ?_;(conv=>whnf);refine NewV.mem (Mem.nil w) ?_;intro r w1 hm;(conv=>whnf);refine Tst.yes rfl ?_;(conv=>whnf);refine zS hm 0 ?_;intro w2 hm;(conv=>whnf);refine qa (R:=fun v w'=>v=fltV 0 0∧Ext w w') ?_;(conv=>whnf);refine zL hm 0 ?_;(conv=>whnf);exact ⟨rfl,hm.ext⟩
theorem qix (e:Value) (p n:Nat) (w:World) (h:ErrAt w e p n):Gv Tryz.prog 22 [e] w fun v w'=>v=fltV p n∧Ext w w':=by
 obtain ⟨b,rfl,hc⟩:=h;refine zE Tryz.func22 Tryz.ntmps22 ?_;(conv=>whnf);refine NewV.mem (Mem.nil w) ?_;intro r w1 hm;(conv=>whnf);refine Tst.no rfl ?_;(conv=>whnf);refine Fall.assert rfl _ _ (qx2 _ w1) ?_;(conv=>whnf);refine zU ?_;(conv=>whnf);refine Fall.assert rfl _ _ (qx3 _ w1) ?_;(conv=>whnf);refine zT ?_;(conv=>whnf);refine Tst.yes rfl ?_;(conv=>whnf);refine DrawV.inv (fun S w'=>Mem w w' [(r,.cells (bif S 10 then #[.int .i64 p,.int .i64 n] else #[.int .i64 0,.int .i64 0]) 57 (0,0))]) rfl (by kernel_rfl) hm.drew ?_;clear hm;(conv=>whnf);refine zI ?_;(conv=>whnf);refine zI ?_;(conv=>whnf);refine zI ?_;(conv=>whnf);refine StepI.of (.int .i64 p) (fun S wd hk hp hI=>?_) ?_
 ·(conv=>whnf);refine LoadV.of (CellsAt.ext hc hI.ext 0 _ rfl) ?_;(conv=>whnf);exact ⟨rfl,hI⟩
 (conv=>whnf);refine zI ?_;(conv=>whnf);refine zI ?_;(conv=>whnf);refine zI ?_;(conv=>whnf);refine StepI.of (.iface 26 (.int .i64 n)) (fun S wd hk hp hI=>?_) ?_
 ·(conv=>whnf);refine LoadV.of (CellsAt.ext hc hI.ext 1 _ rfl) ?_;(conv=>whnf);exact ⟨rfl,hI⟩
 (conv=>whnf);refine StepI.of (.int .i64 n) (fun S wd hk hp hI=>?_) ?_
 ·(conv=>whnf);refine CallV.of (qmd n wd) ?_;rintro v wx ⟨rfl,hx⟩;exact ⟨rfl,hI.call hx⟩
 (conv=>whnf);refine zI ?_;(conv=>whnf);refine StepI.of undef (fun S wd hk hp hI=>?_) ?_
 ·dsimp only at hI;rw [hk] at hI;(conv=>whnf);refine zS hI 0 ?_;intro wx hmx;(conv=>whnf);exact ⟨rfl,hmx⟩
 (conv=>whnf);intro wz hm;have hm:Mem w wz [(r,.cells #[.int .i64 p,.int .i64 n] 57 (0,0))]:=hm;(conv=>whnf);refine qa (R:=fun v w'=>v=fltV p n∧Ext w w') ?_;(conv=>whnf);refine zL hm 0 ?_;(conv=>whnf);exact ⟨rfl,hm.ext⟩
open Go.RowKit V
set_option maxRecDepth 100000
set_option maxHeartbeats 4000000 in
theorem qmj (b:Nat) (l:List UInt8) (i:Nat) (w:World) (h:PackAt w b l) (hi:i≤1048576) (hM:MaxLenAt w) (hT:CellsAt w 3 0 qbo) (hK:qf8 w) :
  Gv Tryz.prog 29 [.pointer (some ⟨b,0,none⟩),.int .i64 i] w fun v w'=>v=qca l i∧Ext w w':=by
 obtain ⟨vb,tb,h1,h2,h3⟩:=h;have hwd:=h3.wd;refine zE Tryz.func29 Tryz.ntmps29 ?_;(conv=>whnf);refine NewV.mem (Mem.nil w) ?_;intro r4 w1 hm;(conv=>whnf);refine LoadV.own (hm.ext.get h1) rfl ?_;(conv=>whnf);refine CallV.of (qw8 tb (qw l) i w1 (h3.ext hm.ext) hi) ?_;rintro v w2 ⟨rfl,he2⟩;have hm:=hm.call he2
 by_cases hok:i<vNum (qw l) 3∧tOk (qw l) i=true
 case neg=>
  have hv:qca l i=.tuple #[qat zQ,.bool false]:=by rw [qca,if_neg (fun hx=>hok hx.1)]
  rw [hv,qep,if_neg hok];unfold zq;(conv=>whnf);refine NewV.mem hm ?_;intro t6 w3 hm;(conv=>whnf);refine zS hm 0 ?_;intro w4 hm;(conv=>whnf);refine zP ?_;refine zU ?_;(conv=>whnf);refine zS hm 1 ?_;intro w5 hm;(conv=>whnf);refine qa (R:=fun v w'=>v=.tuple #[qat zQ,.bool false]∧Ext w w') ?_;(conv=>whnf);refine zL hm 1 ?_;(conv=>whnf);exact ⟨rfl,hm.ext⟩
 rw [qep,if_pos hok];(conv=>whnf);refine NewV.mem hm ?_;intro t6 w3 hm;(conv=>whnf);refine zS hm 0 ?_;intro w4 hm;have hm:Mem w w4 [(t6,.cells #[.int .i64 (qIds l i 0:Nat),.int .i64 (qIds l i 1:Nat),.int .i64 (qIds l i 2:Nat),.int .i64 (qIds l i 3:Nat)] 153 (0,0)),(r4,.cells (qaw zQ).toArray 75 (0,0))]:=hm;have hqb:∀ j,j<4→qIds l i j≤16777216:=fun j hj=>by
  have h1:=qyx (qr (qw l) j) (tw (qw l) j) (tUp (qw l) i (3-j));have h2:2 ^ tw (qw l) j≤2 ^ 23:=Nat.pow_le_pow_right (by decide) (hwd j hj);have h3:(2:Nat) ^ 23=8388608:=by decide
  show tNum (qw l) i j≤_;unfold tNum;omega
 (conv=>whnf);refine zP ?_;refine zT ?_;(conv=>whnf);obtain ⟨u,ok,hqv,hcs⟩:∃ u ok,qhc (qq l) (qIds l i)=.tuple #[qat u,.bool ok]∧qji u∧((ok=true∧u=q4Of (qq l) (qIds l i)∧∀ j,j<4→qeb (qq l) (qIds l i j)≠none)∨(ok=false∧¬ ∀ j,j<4→qeb (qq l) (qIds l i j)≠none)):=by
  by_cases hall:∀ j,j<4→qeb (qq l) (qIds l i j)≠none
  ·exact ⟨_,true,by rw [qhc,if_pos hall],qt3 _ _,.inl ⟨rfl,rfl,hall⟩⟩
  ·refine ⟨zQ,false,by rw [qhc,if_neg hall],?_,.inr ⟨rfl,hall⟩⟩;intro k;unfold zQ Q4.at
   split<;>exact ⟨(show InR .i64 0 from ⟨by decide,by decide⟩),(show (0:Nat)≤1048576 by decide),(show (0:Nat)≤1048576 by decide),(show (0:Nat)≤1048576 by decide)⟩
 obtain ⟨hqo,hcs⟩:=hcs;refine DrawV.gen (fun S vals w'=>Al w [(t6,.cells #[.int .i64 (qIds l i 0:Nat),.int .i64 (qIds l i 1:Nat),.int .i64 (qIds l i 2:Nat),.int .i64 (qIds l i 3:Nat)] 153 (0,0)),(r4,.cells (qaw zQ).toArray 75 (0,0))] (.cells (qaw zQ).toArray 75 (0,0)) (.cells (qaw u).toArray 75 (0,0)) (.cells #[] 0 (0,0)) (.cells #[] 0 (0,0)) (S 9) false (S 10) false (vals 9) undef w') rfl (by kernel_rfl) (fun vals=>Al.start hm.drew) ?_;clear hm;(conv=>whnf);refine zG ?_;(conv=>whnf);refine zG ?_;(conv=>whnf);refine zG ?_;(conv=>whnf);refine StepG.of (.pointer (some ⟨vb,0,none⟩)) (fun S vals wd hk hp hI=>?_) ?_
 ·(conv=>whnf);refine LoadV.own (hI.mem.ext.get h1) rfl ?_;(conv=>whnf);exact ⟨rfl,hI⟩
 (conv=>whnf);refine StepG.of (idsV (qIds l i)) (fun S vals wd hk hp hI=>?_) ?_
 ·(conv=>whnf);refine zL hI.mem 0 ?_;(conv=>whnf);exact ⟨rfl,hI⟩
 (conv=>whnf);refine StepG.of (.tuple #[qat u,.bool ok]) (fun S vals wd hk hp hI=>?_) ?_
 ·(conv=>whnf);refine CallV.of (qu6 vb (qq l) (qIds l i) wd (h2.ext hI.mem.ext) hqb (hM.ext hI.mem.ext) (hT.ext hI.mem.ext) (CellsAt.ext hK hI.mem.ext)) ?_;rintro v w5 ⟨rfl,he⟩;exact ⟨hqv,hI.call he⟩
 (conv=>whnf);refine zG ?_;(conv=>whnf);refine zG ?_;(conv=>whnf);refine zG ?_;(conv=>whnf);refine StepG.any (fun S vals wd hk hp hI=>?_) ?_
 ·dsimp only at hI;rw [hk] at hI;(conv=>whnf);refine ⟨fun x wx hb hw=>?_⟩;subst hb hw;(conv=>whnf);exact ⟨trivial,hI.new1⟩
 (conv=>whnf);refine StepG.of undef (fun S vals wd hk hp hI=>?_) ?_
 ·dsimp only at hI;have h9:S 9=true:=hp 9 (by decide);rw [hk,h9] at hI;obtain ⟨nb,hv,M,hmM,hKx⟩:=hI.put1;rw [qh hv];(conv=>whnf);refine zS hmM 0 ?_;intro wx hmx;(conv=>whnf);exact ⟨rfl,by show Al _ _ _ _ _ _ (S 9) false true false _ _ _;rw [h9];exact hKx hmx rfl⟩
 (conv=>whnf);refine zG ?_;(conv=>whnf);intro vals w5 hI;obtain ⟨t8,hv1,hm⟩:=hI.done1;rw [qh hv1];clear hI;have hm:Mem w w5 [(t8,.cells (qaw u).toArray 75 (0,0)),(t6,.cells #[.int .i64 (qIds l i 0:Nat),.int .i64 (qIds l i 1:Nat),.int .i64 (qIds l i 2:Nat),.int .i64 (qIds l i 3:Nat)] 153 (0,0)),(r4,.cells (qaw zQ).toArray 75 (0,0))]:=hm;conv=>whnf
 rcases hcs with ⟨rfl,rfl,hall⟩|⟨rfl,hall⟩
 ·refine zP ?_;refine zT ?_;(conv=>whnf);refine zL hm 0 ?_;(conv=>whnf);refine zU ?_;(conv=>whnf);refine CallV.of (qfb (q4Of (qq l) (qIds l i)) hqo w5 (hM.ext hm.ext) (hT.ext hm.ext)) ?_;rintro v w6 ⟨rfl,he6⟩;have hm:=hm.call he6;conv=>whnf
  by_cases hz:qc3 (q4Of (qq l) (qIds l i))=0
  ·have hv:qca l i=.tuple #[qat (q4Of (qq l) (qIds l i)),.bool true]:=by rw [qca,if_pos ⟨hok,hall,hz⟩]
   rw [hv];(iterate 2 (refine zU ?_;(conv=>whnf)));refine zN (fun _=>?_);(conv=>whnf);refine zL hm 0 ?_;(conv=>whnf);refine zS hm 2 ?_;intro w7 hm;(conv=>whnf);refine qa (R:=fun v w'=>v=.tuple #[qat (q4Of (qq l) (qIds l i)),.bool true]∧Ext w w') ?_;(conv=>whnf);refine zL hm 2 ?_;(conv=>whnf);exact ⟨rfl,hm.ext⟩
  ·have hv:qca l i=.tuple #[qat zQ,.bool false]:=by rw [qca,if_neg (fun hx=>hz hx.2.2)]
   rw [hv];(iterate 2 (refine zU ?_;(conv=>whnf)));refine zY (fun _=>?_);(conv=>whnf);refine zS hm 2 ?_;intro w7 hm;(conv=>whnf);refine qa (R:=fun v w'=>v=.tuple #[qat zQ,.bool false]∧Ext w w') ?_;(conv=>whnf);refine zL hm 2 ?_;(conv=>whnf);exact ⟨rfl,hm.ext⟩
 ·have hv:qca l i=.tuple #[qat zQ,.bool false]:=by rw [qca,if_neg (fun hx=>hall hx.2.1)]
  rw [hv];refine zP ?_;refine zU ?_;(conv=>whnf);(iterate 4 (refine zT ?_;(conv=>whnf)));refine zS hm 2 ?_;intro w7 hm;(conv=>whnf);refine qa (R:=fun v w'=>v=.tuple #[qat zQ,.bool false]∧Ext w w') ?_;(conv=>whnf);refine zL hm 2 ?_;(conv=>whnf);exact ⟨rfl,hm.ext⟩
open Go.RowKit V
set_option maxRecDepth 100000
theorem qs4:Tryz.prog.underlying 57=some (.struct (Tryz.prog.fieldsOf 57)):=by kernel_rfl
theorem qw1:Tryz.prog.stoodInHeld 57=false:=by kernel_rfl
theorem qv2:Tryz.prog.eqGuardType Tryz.prog.depth 57=false:=by kernel_rfl
theorem qir (d:Nat) (a e:Int) (w:World):(Op.equalIn (d+2) 57 (fltV a e) (fltV a e)).run Tryz.prog w=.ok true w:=by
 have u3:=Tryz.underlying3;have a3:=Tryz.isAgg3;have z3:=Tryz.sizeOf3;simp only [fltV];rw [run_equalIn_agg w (d+1) _ _ _ qs4 qw1];simp only [Program.fieldsOf,Tryz.underlying57]
 go_simp
theorem qs5:Tryz.prog.underlying 53=some (.struct (Tryz.prog.fieldsOf 53)):=by kernel_rfl
theorem qw2:Tryz.prog.stoodInHeld 53=false:=by kernel_rfl
theorem qv3:Tryz.prog.eqGuardType Tryz.prog.depth 53=false:=by kernel_rfl
theorem qis (d:Nat) (a b c e:Int) (w:World):(Op.equalIn (d+2) 53 (.agg #[.int .i64 a,.int .i64 b,.int .i64 c,.int .i64 e]) (.agg #[.int .i64 a,.int .i64 b,.int .i64 c,.int .i64 e])).run Tryz.prog w=.ok true w:=by
 have u3:=Tryz.underlying3;have a3:=Tryz.isAgg3;have z3:=Tryz.sizeOf3;rw [run_equalIn_agg w (d+1) _ _ _ qs5 qw2];simp only [Program.fieldsOf,Tryz.underlying53]
 go_simp
theorem qv0:Tryz.prog.underlying 75=some (.struct (Tryz.prog.fieldsOf 75)):=by kernel_rfl
theorem qzh:Tryz.prog.stoodInHeld 75=false:=by kernel_rfl
theorem qyj:Tryz.prog.eqGuardType Tryz.prog.depth 75=false:=by kernel_rfl
def qce (a b:Q4):Bool:=qbb a.s b.s&&(qbb a.p b.p&&(qbb a.o b.o&&qbb a.g b.g))
theorem qmz {a b:Q4}:qce a b=true↔a=b:=by
 obtain ⟨a0,a1,a2,a3⟩:=a;obtain ⟨b0,b1,b2,b3⟩:=b;simp [qce,qm0]
theorem qjf (d:Nat) (a b:Q4) (w:World):(Op.equalIn (d+3) 75 (qat a) (qat b)).run Tryz.prog w=.ok (qce a b) w:=by
 have a3:=Tryz.isAgg73;have z3:=Tryz.sizeOf73;simp only [qat];rw [run_equalIn_agg w (d+2) _ _ _ qv0 qzh];simp only [Program.fieldsOf,Tryz.underlying75];have e1:=qa1 d a.s b.s w;have e2:=qa1 d a.p b.p w;have e3:=qa1 d a.o b.o w;have e4:=qa1 d a.g b.g w;simp only [qa2] at e1 e2 e3 e4;clear e1 e2 e3 e4
 go_simp
 have e:∀ x y:ByteArray,(x.toList=y.toList)=(seq x y=true):=fun x y=>by rw [← qjj,beq_iff_eq]
 simp only [e]
 by_cases h1:a.s.kind=b.s.kind
 rotate_left
 ·simp [qce,qbb,h1]
 by_cases h2:seq a.s.text b.s.text=true
 rotate_left
 ·simp [qce,qbb,h1,h2]
 by_cases h3:seq a.s.type b.s.type=true
 rotate_left
 ·simp [qce,qbb,h1,h2,h3]
 by_cases h4:seq a.s.lang b.s.lang=true
 rotate_left
 ·simp [qce,qbb,h1,h2,h3,h4]
 by_cases h5:a.p.kind=b.p.kind
 rotate_left
 ·simp [qce,qbb,h1,h2,h3,h4,h5]
 by_cases h6:seq a.p.text b.p.text=true
 rotate_left
 ·simp [qce,qbb,h1,h2,h3,h4,h5,h6]
 by_cases h7:seq a.p.type b.p.type=true
 rotate_left
 ·simp [qce,qbb,h1,h2,h3,h4,h5,h6,h7]
 by_cases h8:seq a.p.lang b.p.lang=true
 rotate_left
 ·simp [qce,qbb,h1,h2,h3,h4,h5,h6,h7,h8]
 by_cases h9:a.o.kind=b.o.kind
 rotate_left
 ·simp [qce,qbb,h1,h2,h3,h4,h5,h6,h7,h8,h9]
 by_cases h10:seq a.o.text b.o.text=true
 rotate_left
 ·simp [qce,qbb,h1,h2,h3,h4,h5,h6,h7,h8,h9,h10]
 by_cases h11:seq a.o.type b.o.type=true
 rotate_left
 ·simp [qce,qbb,h1,h2,h3,h4,h5,h6,h7,h8,h9,h10,h11]
 by_cases h12:seq a.o.lang b.o.lang=true
 rotate_left
 ·simp [qce,qbb,h1,h2,h3,h4,h5,h6,h7,h8,h9,h10,h11,h12]
 by_cases h13:a.g.kind=b.g.kind
 rotate_left
 ·simp [qce,qbb,h1,h2,h3,h4,h5,h6,h7,h8,h9,h10,h11,h12,h13]
 by_cases h14:seq a.g.text b.g.text=true
 rotate_left
 ·simp [qce,qbb,h1,h2,h3,h4,h5,h6,h7,h8,h9,h10,h11,h12,h13,h14]
 by_cases h15:seq a.g.type b.g.type=true
 rotate_left
 ·simp [qce,qbb,h1,h2,h3,h4,h5,h6,h7,h8,h9,h10,h11,h12,h13,h14,h15]
 by_cases h16:seq a.g.lang b.g.lang=true
 rotate_left
 ·simp [qce,qbb,h1,h2,h3,h4,h5,h6,h7,h8,h9,h10,h11,h12,h13,h14,h15,h16]
 simp [qce,qbb,h1,h2,h3,h4,h5,h6,h7,h8,h9,h10,h11,h12,h13,h14,h15,h16]
namespace V
theorem RunV.neqFlt {xo yo:Operand} {a e:Int} {w:World} {K:Value→World→Prop} (h:K (.bool false) w) :
  RunV Tryz.prog (do eqGuard .neq 57 xo yo (fltV a e) (fltV a e);binOp .neq 57 (fltV a e) (fltV a e)) w K:=by
 refine ⟨_,w,?_,h⟩;rw [Sem.run_bind,fltV,run_eqGuard_agg w .neq _ xo yo _ _ qv2,Result.andThen_ok];have e:=qir 9998 a e w;simp only [fltV] at e;rw [run_neq_struct,e];rfl
theorem RunV.neqInf {xo yo:Operand} {a b c e:Int} {w:World} {K:Value→World→Prop} (h:K (.bool false) w) :
  RunV Tryz.prog (do eqGuard .neq 53 xo yo (.agg #[.int .i64 a,.int .i64 b,.int .i64 c,.int .i64 e]) (.agg #[.int .i64 a,.int .i64 b,.int .i64 c,.int .i64 e]);binOp .neq 53 (.agg #[.int .i64 a,.int .i64 b,.int .i64 c,.int .i64 e]) (.agg #[.int .i64 a,.int .i64 b,.int .i64 c,.int .i64 e])) w K:=by
 refine ⟨_,w,?_,h⟩;rw [Sem.run_bind,run_eqGuard_agg w .neq _ xo yo _ _ qv3,Result.andThen_ok];have e:=qis 9998 a b c e w;rw [run_neq_struct,e];rfl
theorem RunV.neqQd {xo yo:Operand} {a b:Q4} {w:World} {K:Value→World→Prop} (h:K (.bool (!qce a b)) w) :
  RunV Tryz.prog (do eqGuard .neq 75 xo yo (qat a) (qat b);binOp .neq 75 (qat a) (qat b)) w K:=by
 refine ⟨_,w,?_,h⟩;rw [Sem.run_bind,qat,qat,run_eqGuard_agg w .neq _ xo yo _ _ qyj,Result.andThen_ok];have e:=qjf 9997 a b w;simp only [qat] at e;rw [run_neq_struct,e];rfl
end V
open Go.RowKit V
set_option maxRecDepth 100000
theorem qxb {l:List UInt8} {ts:List TM} {id:Nat} (hV:VTm l 3 0 ts) (h:id≤ts.length):qeb l id=some (sT ts id):=by
 have hlen:ts.length=vTot l 3:=hV.len;unfold qeb sT
 by_cases h0:id=0
 ·rw [if_pos h0,if_pos h0];rfl
 ·rw [if_neg h0,if_neg h0,if_neg (by omega)];obtain ⟨h1,h2,h3⟩:=qp8 h0 (show id≤vTot l 3 by omega);have h4:vTot l (qb9 l id+1)=vTot l (qb9 l id)+dN (qn l (qb9 l id)):=rfl;obtain ⟨s,t,hd,hs,hr,ht⟩:=hV.at_ (qb9 l id) (id-(vTot l (qb9 l id)+1)) (.inl ⟨h1,by omega⟩);rw [hd];dsimp only;rw [qjy hr];have e:vTot l (qb9 l id)+(id-(vTot l (qb9 l id)+1))=id-1:=by omega
  rw [e] at ht;rw [List.getD_eq_getElem?_getD,ht];rfl
theorem qq3 {l:List UInt8} {ts:List TM} {i:Nat} (hV:VTm (qq l) 3 0 ts) (hL:∀ k,1≤k→k≤3→LvlV (qw l) k) (hi:i<vNum (qw l) 3)
  (hq:(∀ j,j<4→tNum (qw l) i j≤ts.length)∧qc3 (sQ ts (tNum (qw l) i))=0):PqOk l i∧q4Of (qq l) (qIds l i)=sQ ts (tNum (qw l) i):=by
 have hv:∀ j,j<4→qeb (qq l) (qIds l i j)=some (sT ts (qIds l i j)):=fun j hj=>qxb hV (hq.1 j hj)
 have e:q4Of (qq l) (qIds l i)=sQ ts (tNum (qw l) i):=by
  simp only [q4Of,uT,hv 0 (by omega),hv 1 (by omega),hv 2 (by omega),hv 3 (by omega),Option.getD_some];rfl
 exact ⟨⟨⟨hi,qzj hL hi⟩,fun j hj=>by rw [hv j hj];simp,by rw [e];exact hq.2⟩,e⟩
theorem qy1:qc3 zQ≠0:=by
 have e0:qE 0 zTM=70:=by rw [qE,if_pos (by rfl)]
 unfold qc3;simp [List.range,List.range.loop,Q4.at,zQ,e0,qg3]
theorem qze {q:Q4} (h:qc3 q=0):qce q zQ=false:=by
 cases e:qce q zQ
 ·rfl
 ·rw [qmz.1 e] at h;exact absurd h qy1
theorem qej (q:Q4):qce q q=true:=qmz.2 rfl
open Go.RowKit V
set_option maxRecDepth 100000
theorem qq5 {l:List UInt8} (h:(q8 l).2=0):q8 l=(0,0):=by
 by_cases h1:(qp l).2=0
 ·rw [qfp h1] at h ⊢;unfold fpE at h ⊢
  split at h
  ·rename_i g;exact absurd h g
  ·split at h
   ·rename_i g;exact absurd h g
   ·rename_i g1 g2;rw [if_neg g1,if_neg g2]
 ·rw [q8,if_pos h1] at h;exact absurd h h1
theorem qq4 {l:List UInt8} (h:(q8 l).2=0):(tE (qw l)).2=0:=by
 by_cases h1:(qp l).2=0
 ·rw [qfp h1] at h;unfold fpE at h
  split at h
  ·rename_i g;exact absurd h g
  ·split at h
   ·rename_i g;exact absurd h g
   ·omega
 ·rw [q8,if_pos h1] at h;exact absurd h h1
theorem qt4 {a b:Q4} (h:qat a=qat b):a=b:=by
 obtain ⟨⟨a0,a1,a2,a3⟩,⟨a4,a5,a6,a7⟩,⟨a8,a9,aa,ab⟩,⟨ac,ad,ae,af⟩⟩:=a;obtain ⟨⟨b0,b1,b2,b3⟩,⟨b4,b5,b6,b7⟩,⟨b8,b9,ba,bb⟩,⟨bc,bd,be,bf⟩⟩:=b;simp only [qat,Value.agg.injEq,Array.mk.injEq,List.cons.injEq,Value.int.injEq,Value.string.injEq,true_and,and_true] at h;simp [h]
structure AtQ (l:List UInt8) (x:Int) (q:Q4) (ok:Bool):Prop where
 yes:ok=true→qc3 q=0∧qji q∧0≤x∧x<(vNum (qw l) 3:Nat)
 no:ok=false→q=zQ
 at_:∀ i:Nat,x=(i:Int)→qca l i=.tuple #[qat q,.bool ok]
theorem qx4 (b:Nat) (l:List UInt8) (x:Int) (h1:-1≤x) (h2:x≤1048576):∃ q ok,AtQ l x q ok∧∀ w,PackAt w b l→MaxLenAt w→CellsAt w 3 0 qbo→qf8 w→
  Gv Tryz.prog 29 [.pointer (some ⟨b,0,none⟩),.int .i64 x] w fun v w'=>v=.tuple #[qat q,.bool ok]∧Ext w w':=by
 by_cases hx:x=-1
 ·subst hx;exact ⟨zQ,false,⟨fun h=>(by cases h),fun _=>rfl,fun i hi=>(by omega)⟩,fun w h _ _ _=>qmk b l w h⟩
 ·obtain ⟨i,rfl⟩:∃ i:Nat,x=(i:Int):=⟨x.toNat,by omega⟩
  by_cases hq:PqOk l i
  ·have e:qca l i=.tuple #[qat (q4Of (qq l) (qIds l i)),.bool true]:=by rw [qca,if_pos hq]
   refine ⟨_,true,⟨fun _=>⟨hq.2.2,qt3 _ _,by omega,by have:=hq.1.1;omega⟩,fun h=>(by cases h),fun j hj=>by rw [← e,show j=i by omega]⟩,fun w h a b c=>?_⟩;rw [← e];exact qmj _ l i w h (by omega) a b c
  ·have e:qca l i=.tuple #[qat zQ,.bool false]:=by rw [qca,if_neg hq]
   refine ⟨_,false,⟨fun h=>(by cases h),fun _=>rfl,fun j hj=>by rw [← e,show j=i by omega]⟩,fun w h a b c=>?_⟩;rw [← e];exact qmj _ l i w h (by omega) a b c
set_option maxHeartbeats 8000000 in
theorem qk7 (l:List UInt8) (A:Option Addr) (c:Nat) (w:World) (hS:SlAt encB 1 w A l) (hc:l.length≤c) (hl:l.length≤140737488351232) (hN:CellsAt w 2 0 qi9) (hG:ErrTyp w)
  (hM:MaxLenAt w) (hT:CellsAt w 3 0 qbo) (hK:qf8 w) :
  Gv Tryz.prog 5 [.slice A l.length c] w fun v w'=>v=.bool true∧Ext w w':=by
 refine zE Tryz.func5 Tryz.ntmps5 ?_;(conv=>whnf);refine CallV.of (qug l A c w hS hl) ?_;rintro v w1 ⟨hRm,he1⟩;obtain ⟨g,c2,hv,hc2,hge,hR1⟩:=id hRm;subst hv;have hSg:SlAt encB 1 w1 (some ⟨g,0,none⟩) l:=by
  have:=hR1.cut (lo:=0) (hi:=l.length) (m:=c2) (by omega) (by simp) (by omega) rfl;rw [if_neg (by omega),List.drop_zero,Nat.sub_zero,List.take_left] at this;exact this
 (conv=>whnf);refine CallV.of (qml l (some ⟨g,0,none⟩) c2 w1 hSg (by omega) (by omega) (hN.ext he1) (hG.ext he1)) ?_;rintro v w2 ⟨hPv,he2⟩;obtain ⟨pv,ev,hv,hpv⟩:∃ pv ev,v=.tuple #[pv,ev]∧(((q8 l).2≠0∧pv=.pointer none∧ErrAt w2 ev (q8 l).1 (q8 l).2)∨((q8 l).2=0∧ev=.nilIface∧∃ b,pv=.pointer (some ⟨b,0,none⟩)∧PackAt w2 b l)):=by
  rcases hPv with ⟨h1,e,rfl,h2⟩|⟨h1,b,rfl,h2⟩
  ·exact ⟨_,_,rfl,.inl ⟨h1,rfl,h2⟩⟩
  ·exact ⟨_,_,rfl,.inr ⟨h1,rfl,b,rfl,h2⟩⟩
 clear hPv;subst hv
 rcases hpv with ⟨hE,rfl,hErr⟩|⟨hE,rfl,b,rfl,hPA⟩
 ·obtain ⟨be,rfl,hbe⟩:=id hErr;(conv=>whnf);refine CallV.of (qmh l (some ⟨g,0,none⟩) c2 w2 (hSg.ext he2) (by omega) (by omega) (hN.ext (he1.trans he2)) (hG.ext (he1.trans he2))) ?_;rintro v w3 ⟨⟨_,e,rfl,hErr2⟩|⟨h0,_⟩,he3⟩
  case inr=>exact absurd h0 hE
  obtain ⟨be2,rfl,hbe2⟩:=id hErr2;have he03:Ext w w3:=he1.trans (he2.trans he3);have hinfP:infP l=infZ:=by rw [infP,if_neg hE]
  unfold infZ;(conv=>whnf);refine NewV.mem (Mem.nil w3) ?_;intro t6 w4 hm;(conv=>whnf);refine zS hm 0 ?_;clear hm;intro w5 hm;(conv=>whnf);refine CallV.of (qj5 l A c w5 (hS.ext (he03.trans hm.ext)) hc hl) ?_;rintro v w6 ⟨rfl,he6⟩;replace hm:=hm.call he6;rw [hinfP];unfold infZ fltV;(conv=>whnf);refine NewV.mem hm ?_;clear hm;intro t8 w7 hm;(conv=>whnf);refine NewV.mem hm ?_;clear hm;intro t9 w8 hm;(conv=>whnf);refine zS hm 1 ?_;clear hm;intro w9 hm;(conv=>whnf);refine zS hm 0 ?_;clear hm;intro w10 hm;(conv=>whnf);refine DrawV.free (by kernel_rfl) (by kernel_rfl) ?_;(conv=>whnf);refine zD ?_;(conv=>whnf);apply StepD.still (fltV (q8 l).1 (q8 l).2)
  ·intro wd hd;(conv=>whnf);refine CallV.of (qix _ _ _ wd (hErr.ext (he3.trans (hm.ext.trans ((Ext.refl _).drew.trans hd))))) ?_;rintro v wx ⟨rfl,hx⟩;exact ⟨hx,rfl⟩
  (conv=>whnf);apply StepD.still (fltV (q8 l).1 (q8 l).2)
  ·intro wd hd;(conv=>whnf);refine LoadA.mem (hm.drew.call hd) (i:=0) rfl rfl ?_;(conv=>whnf);exact ⟨Ext.refl _,rfl⟩
  (conv=>whnf);apply StepD.still (.bool false)
  ·intro wd hd;(conv=>whnf);refine RunV.neqFlt ?_;(conv=>whnf);exact ⟨Ext.refl _,rfl⟩
  (conv=>whnf);refine zD ?_;(conv=>whnf);refine zD ?_ (by intro wd hd;(conv=>whnf);(refine zU ?_;(conv=>whnf));exact ⟨Ext.refl _,rfl⟩);(conv=>whnf);apply StepD.still (fltV (q8 l).1 (q8 l).2)
  ·intro wd hd;(conv=>whnf);refine zU ?_;(conv=>whnf);refine CallV.of (qix _ _ _ wd (hErr2.ext (hm.ext.trans ((Ext.refl _).drew.trans hd)))) ?_;rintro v wx ⟨rfl,hx⟩;exact ⟨hx,rfl⟩
  (conv=>whnf);apply StepD.still (fltV (q8 l).1 (q8 l).2)
  ·intro wd hd;(conv=>whnf);refine zU ?_;(conv=>whnf);refine LoadA.mem (hm.drew.call hd) (i:=0) rfl rfl ?_;(conv=>whnf);exact ⟨Ext.refl _,rfl⟩
  (conv=>whnf);apply StepD.still (.bool false)
  ·intro wd hd;(conv=>whnf);refine zU ?_;(conv=>whnf);refine RunV.neqFlt ?_;(conv=>whnf);exact ⟨Ext.refl _,rfl⟩
  (conv=>whnf);refine zD ?_ (by intro wd hd;(conv=>whnf);(refine zU ?_;(conv=>whnf));exact ⟨Ext.refl _,rfl⟩);(conv=>whnf);refine zD ?_;(conv=>whnf);refine zD ?_ (by intro wd hd;(conv=>whnf);(refine zU ?_;(conv=>whnf));exact ⟨Ext.refl _,rfl⟩);(conv=>whnf);apply StepD.still (.bool true)
  ·intro wd hd;(conv=>whnf);refine zU ?_;(conv=>whnf);refine ⟨Ext.refl _,?_⟩;rfl
  (conv=>whnf);refine zD ?_ (by intro wd hd;(conv=>whnf);(refine zU ?_;(conv=>whnf));exact ⟨Ext.refl _,rfl⟩);(conv=>whnf);refine zD ?_ (by intro wd hd;(conv=>whnf);(refine zU ?_;(conv=>whnf));refine LoadV.mem (Mem.call (Mem.drew hm) hd) (i:=0) rfl rfl ?_;(conv=>whnf);exact ⟨Ext.refl _,rfl⟩);(conv=>whnf);apply StepD.still (.bool true)
  ·intro wd hd;(conv=>whnf);refine zU ?_;(conv=>whnf);refine ⟨Ext.refl _,?_⟩;simp [hE]
  (conv=>whnf);apply StepD.still (.bool false)
  ·intro wd hd;(conv=>whnf);refine zU ?_;(conv=>whnf);refine ⟨Ext.refl _,?_⟩;rfl
  (conv=>whnf);refine zD ?_ (by intro wd hd;(conv=>whnf);(refine zU ?_;(conv=>whnf));exact ⟨Ext.refl _,rfl⟩);(conv=>whnf);refine zD ?_;(conv=>whnf);apply StepD.still (infZ)
  ·intro wd hd;(conv=>whnf);refine zU ?_;(conv=>whnf);refine LoadA.mem (hm.drew.call hd) (i:=2) rfl rfl ?_;(conv=>whnf);exact ⟨Ext.refl _,rfl⟩
  (conv=>whnf);apply StepD.still (infZ)
  ·intro wd hd;(conv=>whnf);refine zU ?_;(conv=>whnf);refine LoadA.mem (hm.drew.call hd) (i:=1) rfl rfl ?_;(conv=>whnf);exact ⟨Ext.refl _,rfl⟩
  (conv=>whnf);apply StepD.still (.bool false)
  ·intro wd hd;(conv=>whnf);refine zU ?_;(conv=>whnf);refine RunV.neqInf ?_;(conv=>whnf);exact ⟨Ext.refl _,rfl⟩
  (conv=>whnf);refine zD ?_ (by intro wd hd;(conv=>whnf);(refine zU ?_;(conv=>whnf));exact ⟨Ext.refl _,rfl⟩);(conv=>whnf);intro w9 he9;(conv=>whnf);refine zU ?_;(conv=>whnf);refine Tst.yes rfl ?_;(conv=>whnf);replace hm:=hm.drew.call he9;have hex:Ext w w9:=he03.trans hm.ext;refine CallV.of (qpe l A c w.heap.size _ w9 (hRm.ext (he2.trans (he3.trans hm.ext))) (hS.ext hex) hl) ?_;rintro v wz ⟨rfl,hz⟩;(conv=>whnf);exact ⟨rfl,hex.trans hz⟩
 ·have hZ:q8 l=(0,0):=qq5 hE;have hsn:∀ wd,Gv Tryz.prog 22 [.nilIface] wd fun v w'=>v=fltV (q8 l).1 (q8 l).2∧Ext wd w':=fun wd=>by rw [hZ];exact qob wd
  (conv=>whnf);refine CallV.of (qmh l (some ⟨g,0,none⟩) c2 w2 (hSg.ext he2) (by omega) (by omega) (hN.ext (he1.trans he2)) (hG.ext (he1.trans he2))) ?_;rintro v w3 ⟨⟨h0,_⟩|⟨_,rfl⟩,he3⟩
  ·exact absurd hE h0
  have he03:Ext w w3:=he1.trans (he2.trans he3);have hinfP:infP l=inf4 l:=by rw [infP,if_pos hE]
  unfold inf4;(conv=>whnf);refine NewV.mem (Mem.nil w3) ?_;intro t6 w4 hm;(conv=>whnf);refine zS hm 0 ?_;clear hm;intro w5 hm;(conv=>whnf);refine CallV.of (qj5 l A c w5 (hS.ext (he03.trans hm.ext)) hc hl) ?_;rintro v w6 ⟨rfl,he6⟩;replace hm:=hm.call he6;rw [hinfP];unfold inf4 fltV;(conv=>whnf);refine NewV.mem hm ?_;clear hm;intro t8 w7 hm;(conv=>whnf);refine NewV.mem hm ?_;clear hm;intro t9 w8 hm;(conv=>whnf);refine zS hm 1 ?_;clear hm;intro w9 hm;(conv=>whnf);refine zS hm 0 ?_;clear hm;intro w10 hm;(conv=>whnf);refine DrawV.free (by kernel_rfl) (by kernel_rfl) ?_;(conv=>whnf);refine zD ?_;(conv=>whnf);apply StepD.still (fltV (q8 l).1 (q8 l).2)
  ·intro wd hd;(conv=>whnf);refine CallV.of (hsn wd) ?_;rintro v wx ⟨rfl,hx⟩;exact ⟨hx,rfl⟩
  (conv=>whnf);apply StepD.still (fltV (q8 l).1 (q8 l).2)
  ·intro wd hd;(conv=>whnf);refine LoadA.mem (hm.drew.call hd) (i:=0) rfl rfl ?_;(conv=>whnf);exact ⟨Ext.refl _,rfl⟩
  (conv=>whnf);apply StepD.still (.bool false)
  ·intro wd hd;(conv=>whnf);refine RunV.neqFlt ?_;(conv=>whnf);exact ⟨Ext.refl _,rfl⟩
  (conv=>whnf);refine zD ?_;(conv=>whnf);refine zD ?_ (by intro wd hd;(conv=>whnf);(refine zU ?_;(conv=>whnf));exact ⟨Ext.refl _,rfl⟩);(conv=>whnf);apply StepD.still (fltV (q8 l).1 (q8 l).2)
  ·intro wd hd;(conv=>whnf);refine zU ?_;(conv=>whnf);refine CallV.of (hsn wd) ?_;rintro v wx ⟨rfl,hx⟩;exact ⟨hx,rfl⟩
  (conv=>whnf);apply StepD.still (fltV (q8 l).1 (q8 l).2)
  ·intro wd hd;(conv=>whnf);refine zU ?_;(conv=>whnf);refine LoadA.mem (hm.drew.call hd) (i:=0) rfl rfl ?_;(conv=>whnf);exact ⟨Ext.refl _,rfl⟩
  (conv=>whnf);apply StepD.still (.bool false)
  ·intro wd hd;(conv=>whnf);refine zU ?_;(conv=>whnf);refine RunV.neqFlt ?_;(conv=>whnf);exact ⟨Ext.refl _,rfl⟩
  (conv=>whnf);refine zD ?_ (by intro wd hd;(conv=>whnf);(refine zU ?_;(conv=>whnf));exact ⟨Ext.refl _,rfl⟩);(conv=>whnf);refine zD ?_;(conv=>whnf);refine zD ?_ (by intro wd hd;(conv=>whnf);(refine zU ?_;(conv=>whnf));exact ⟨Ext.refl _,rfl⟩);(conv=>whnf);apply StepD.still (.bool false)
  ·intro wd hd;(conv=>whnf);refine zU ?_;(conv=>whnf);refine ⟨Ext.refl _,?_⟩;rfl
  (conv=>whnf);refine zD ?_ (by intro wd hd;(conv=>whnf);(refine zU ?_;(conv=>whnf));exact ⟨Ext.refl _,rfl⟩);(conv=>whnf);refine zD ?_ (by intro wd hd;(conv=>whnf);(refine zU ?_;(conv=>whnf));refine LoadV.mem (Mem.call (Mem.drew hm) hd) (i:=0) rfl rfl ?_;(conv=>whnf);exact ⟨Ext.refl _,rfl⟩);(conv=>whnf);apply StepD.still (.bool false)
  ·intro wd hd;(conv=>whnf);refine zU ?_;(conv=>whnf);refine ⟨Ext.refl _,?_⟩;simp [hE]
  (conv=>whnf);apply StepD.still (.bool false)
  ·intro wd hd;(conv=>whnf);refine zU ?_;(conv=>whnf);refine ⟨Ext.refl _,?_⟩;rfl
  (conv=>whnf);refine zD ?_ (by intro wd hd;(conv=>whnf);(refine zU ?_;(conv=>whnf));exact ⟨Ext.refl _,rfl⟩);(conv=>whnf);refine zD ?_;(conv=>whnf);apply StepD.still (inf4 l)
  ·intro wd hd;(conv=>whnf);refine zU ?_;(conv=>whnf);refine LoadA.mem (hm.drew.call hd) (i:=2) rfl rfl ?_;(conv=>whnf);exact ⟨Ext.refl _,rfl⟩
  (conv=>whnf);apply StepD.still (inf4 l)
  ·intro wd hd;(conv=>whnf);refine zU ?_;(conv=>whnf);refine LoadA.mem (hm.drew.call hd) (i:=1) rfl rfl ?_;(conv=>whnf);exact ⟨Ext.refl _,rfl⟩
  (conv=>whnf);apply StepD.still (.bool false)
  ·intro wd hd;(conv=>whnf);refine zU ?_;(conv=>whnf);refine RunV.neqInf ?_;(conv=>whnf);exact ⟨Ext.refl _,rfl⟩
  (conv=>whnf);refine zD ?_ (by intro wd hd;(conv=>whnf);(refine zU ?_;(conv=>whnf));exact ⟨Ext.refl _,rfl⟩);(conv=>whnf);intro w9 he9;(conv=>whnf);refine zU ?_;(conv=>whnf);refine Tst.no rfl ?_;(conv=>whnf);replace hm:=hm.drew.call he9;refine DrawV.free (by kernel_rfl) (by kernel_rfl) ?_;(conv=>whnf);refine zD ?_;(conv=>whnf);apply StepD.still (inf4 l)
  ·intro wd hd;(conv=>whnf);refine CallV.of (qq7 b l wd (hPA.ext (he3.trans (hm.ext.trans ((Ext.refl _).drew.trans hd))))) ?_;rintro v wx ⟨rfl,hx⟩;exact ⟨hx,rfl⟩
  (conv=>whnf);apply StepD.still (inf4 l)
  ·intro wd hd;(conv=>whnf);refine LoadA.mem (hm.drew.call hd) (i:=1) rfl rfl ?_;(conv=>whnf);exact ⟨Ext.refl _,rfl⟩
  (conv=>whnf);apply StepD.still (.bool false)
  ·intro wd hd;(conv=>whnf);refine RunV.neqInf ?_;(conv=>whnf);exact ⟨Ext.refl _,rfl⟩
  (conv=>whnf);refine zD ?_;(conv=>whnf);refine zD ?_ (by intro wd hd;(conv=>whnf);(refine zU ?_;(conv=>whnf));exact ⟨Ext.refl _,rfl⟩);(conv=>whnf);apply StepD.of (fun v _=>∃ vb,v=.pointer (some ⟨vb,0,none⟩)) (fun _ _ _ h _=>h)
  ·intro wd hd;(conv=>whnf);refine zU ?_;(conv=>whnf);refine CallV.of (qnu b l wd (hPA.ext (he3.trans (hm.ext.trans ((Ext.refl _).drew.trans hd))))) ?_;rintro v wx ⟨⟨vb,rfl,_⟩,rfl⟩;exact ⟨Ext.refl _,vb,rfl⟩
  (conv=>whnf);apply StepD.still (.bool false)
  ·intro wd hd;(conv=>whnf);rintro v ⟨vb,rfl⟩;(conv=>whnf);refine zU ?_;(conv=>whnf);exact ⟨Ext.refl _,rfl⟩
  (conv=>whnf);refine zD ?_ (by intro wd hd;(conv=>whnf);(refine zU ?_;(conv=>whnf));exact ⟨Ext.refl _,rfl⟩);(conv=>whnf);(apply StepD.still;(·intro wd hd;(conv=>whnf);(repeat (intro _ _;(conv=>whnf)));(first|exact ⟨Ext.refl _,rfl⟩|(skip;exact ⟨Ext.refl _,rfl⟩)));(conv=>whnf));refine zD ?_ (by intro wd hd;(conv=>whnf);(refine zU ?_;(conv=>whnf));exact ⟨Ext.refl _,rfl⟩);(conv=>whnf);apply StepD.of (fun v _=>∃ vb,v=.pointer (some ⟨vb,0,none⟩)) (fun _ _ _ h _=>h)
  ·intro wd hd;(conv=>whnf);refine zU ?_;(conv=>whnf);refine CallV.of (qjw b l wd (hPA.ext (he3.trans (hm.ext.trans ((Ext.refl _).drew.trans hd))))) ?_;rintro v wx ⟨⟨vb,rfl,_⟩,rfl⟩;exact ⟨Ext.refl _,vb,rfl⟩
  (conv=>whnf);apply StepD.still (.bool false)
  ·intro wd hd;(conv=>whnf);rintro v ⟨vb,rfl⟩;(conv=>whnf);refine zU ?_;(conv=>whnf);exact ⟨Ext.refl _,rfl⟩
  (conv=>whnf);refine zD ?_ (by intro wd hd;(conv=>whnf);(refine zU ?_;(conv=>whnf));exact ⟨Ext.refl _,rfl⟩);(conv=>whnf);intro w11 he11;(conv=>whnf);rintro _ ⟨_,rfl⟩;(conv=>whnf);rintro _ ⟨_,rfl⟩;(conv=>whnf);refine zU ?_;(conv=>whnf);replace hm:=hm.drew.call he11;have hex:Ext w w11:=he03.trans hm.ext;refine CallV.of (qq1 l A c w11 (hS.ext hex) hc hl) ?_;rintro v w12 ⟨hOp,he12⟩;obtain ⟨i0,i1,i2,i3,OA,on,oc,QB,m,qc,a,e,hv,hcase⟩:∃ (i0 i1 i2 i3:Int) (OA:Option Addr) (on oc:Nat) (QB:Option Addr) (m qc:Nat) (a e:Int),v=.tuple #[.agg #[.int .i64 i0,.int .i64 i1,.int .i64 i2,.int .i64 i3],.slice OA on oc,.slice QB m qc,.agg #[.int .i64 a,.int .i64 e]]∧
    (e≠0∨(e=0∧m=vNum (qw l) 3∧∃ qs:List Q4,qs.length=m∧SlAt qaw 16 w12 QB qs∧∀ i q,qs[i]?=some q→qca l i=.tuple #[qat q,.bool true])):=by
   rcases hOp with ⟨a,e,he0,rfl⟩|⟨_,ts,hVT,hLv,hnum,hQ,OA,on,oc,QB,qc,rfl,hqc,hQS⟩
   ·exact ⟨_,_,_,_,_,_,_,_,_,_,_,_,rfl,.inl he0⟩
   ·refine ⟨_,_,_,_,_,_,_,_,_,_,_,_,rfl,.inr ⟨rfl,rfl,_,by simp,hQS,fun i q hi=>?_⟩⟩;obtain ⟨hil,hiq⟩:=List.getElem?_eq_some_iff.1 hi;simp only [List.length_map,List.length_range] at hil;simp only [List.getElem_map,List.getElem_range] at hiq;obtain ⟨h1,h2⟩:=qq3 hVT hLv hil (hQ i hil);rw [qca,if_pos h1,h2,hiq]
  subst hv;clear hOp;have hex12:Ext w3 w12:=(hm.call he12).ext;replace hm:=Mem.nil w12;have hnb:=qp7 (qq4 hE);(conv=>whnf);refine NewV.mem hm ?_;clear hm;intro t10 w13 hm;(conv=>whnf);refine NewV.mem hm ?_;clear hm;intro t13 w14 hm;(conv=>whnf);refine zS hm 1 ?_;clear hm;intro w15 hm;(conv=>whnf);refine zS hm 0 ?_;clear hm;intro w16 hm;(conv=>whnf);refine CallV.of (qjw b l w16 (hPA.ext (he3.trans (hex12.trans hm.ext)))) ?_;rintro v w17 ⟨⟨tb,rfl,hTA⟩,rfl⟩;(conv=>whnf);refine CallV.of (qp3 tb (qw l) w17 hTA) ?_;rintro v w18 ⟨rfl,rfl⟩;obtain ⟨n,hn⟩:∃ n,n=vNum (qw l) 3:=⟨_,rfl⟩
  rw [← hn] at hnb hcase ⊢;(conv=>whnf);refine zB ?_;(conv=>whnf);refine zA ?_;(conv=>whnf);have hm:Mem w12 w18 [(t13,.cells #[.int .i64 a,.int .i64 e] 57 (0,0))]:=hm.sub (List.cons_sublist_cons.2 (List.nil_sublist _));refine qm (fun x:Int=>[(0,.slice A l.length c),(3,.slice (some ⟨g,0,none⟩) l.length c2),(4,.pointer (some ⟨b,0,none⟩)),(12,.slice QB m qc),(13,.pointer (some ⟨t13,0,none⟩)),(14,.int .i64 (n:Nat)),(15,.int .i64 (1+(n:Int)/500)),(16,.int .i64 x)])
   (fun x w'=>-1≤x∧x≤1148577∧Mem w12 w' [(t13,.cells #[.int .i64 a,.int .i64 e] 57 (0,0))]) (fun x=>(1148577-x).toNat) (-1)
   ⟨rfl,rfl,rfl,rfl,rfl,rfl,rfl,rfl,trivial⟩ ⟨by omega,by omega,hm⟩ ?_
  clear hm;rintro x w19 ρ' ⟨hx1,hx2,hm⟩;(conv=>whnf);refine zC (fun _=>?_) (fun _=>?_)<;>(conv=>whnf)
  ·obtain ⟨q,ok,hAt,hcall⟩:=qx4 b l x hx1 (by omega);refine CallV.of (hcall w19 (hPA.ext (he3.trans (hex12.trans hm.ext))) (hM.ext (he03.trans (hex12.trans hm.ext))) (hT.ext (he03.trans (hex12.trans hm.ext))) (CellsAt.ext hK (he03.trans (hex12.trans hm.ext)))) ?_;rintro v w20 ⟨rfl,he20⟩;replace hm:=hm.call he20;clear he20;(conv=>whnf);refine NewV.mem hm ?_;clear hm;intro t17 w21 hm;(conv=>whnf);refine StoreA.all hm (i:=0) rfl rfl (qfq q) ?_;clear hm;intro w22 hm;(conv=>whnf);refine CallV.of (hcall w22 (hPA.ext (he3.trans (hex12.trans hm.ext))) (hM.ext (he03.trans (hex12.trans hm.ext))) (hT.ext (he03.trans (hex12.trans hm.ext))) (CellsAt.ext hK (he03.trans (hex12.trans hm.ext)))) ?_;rintro v w23 ⟨rfl,he20⟩;replace hm:=hm.call he20;clear he20;(conv=>whnf);refine NewV.mem hm ?_;clear hm;intro t19 w24 hm;(conv=>whnf);refine StoreA.all hm (i:=0) rfl rfl (qfq q) ?_;clear hm;intro w25 hm;conv=>whnf
   rcases ok with _|_
   ·have hqz:=hAt.no rfl;refine zL hm 1 ?_;(conv=>whnf);refine zL hm 0 ?_;(conv=>whnf);refine RunV.neqQd (a:=q) (b:=q) ?_;rw [qej];(conv=>whnf);refine zP ?_;refine zT ?_;(conv=>whnf);(iterate 3 (refine zU ?_;(conv=>whnf)));refine zP ?_;refine Tst.beqF ?_;(iterate 2 (refine zU ?_;(conv=>whnf)));refine zL hm 1 ?_;(conv=>whnf);(iterate 2 (refine zU ?_;(conv=>whnf)));refine RunV.neqQd (a:=q) (b:=zQ) ?_;rw [hqz,qej];(conv=>whnf);(iterate 2 (refine zU ?_;(conv=>whnf)));refine zP ?_;refine Tst.yes rfl ?_;(conv=>whnf);(iterate 17 (refine zU ?_;(conv=>whnf)))
    rcases hcase with he0|⟨he0,hmn,qs,hqs,hQS,hqv⟩
    ·refine DrawV.quiet (by kernel_rfl) (by kernel_rfl) ?_;(conv=>whnf);refine zW ?_;(conv=>whnf);refine zR hm.drew 2 ?_;(conv=>whnf);(iterate 3 (refine zW ?_;(conv=>whnf)));refine zN (fun _=>?_);(conv=>whnf);(iterate 2 (refine zU ?_;(conv=>whnf)));(iterate 2 (refine zW ?_;(conv=>whnf)));(iterate 5 (refine zU ?_;(conv=>whnf)));(iterate 2 (refine zW ?_;(conv=>whnf)));(iterate 7 (refine zU ?_;(conv=>whnf)));refine zW ?_;(conv=>whnf);refine zU ?_;(conv=>whnf);refine zA ?_;(conv=>whnf);exact ⟨x+(1+(n:Int)/500),⟨rfl,rfl,rfl,rfl,rfl,rfl,rfl,rfl,trivial⟩,⟨by omega,by omega,hm.drew.sub (List.Sublist.cons _ (List.Sublist.cons _ (List.Sublist.refl _)))⟩,by omega⟩
    ·by_cases hxm:0≤x∧x<(m:Nat)
     ·obtain ⟨j,rfl⟩:∃ j:Nat,x=(j:Int):=⟨x.toNat,by omega⟩
      have hjl:j<qs.length:=by omega
      have hqj:=hqv j _ (List.getElem?_eq_getElem hjl);rw [hAt.at_ j rfl] at hqj;simp at hqj
     ·refine DrawV.quiet (by kernel_rfl) (by kernel_rfl) ?_;(conv=>whnf);refine zW ?_;(conv=>whnf);refine zR hm.drew 2 ?_;conv=>whnf
      (repeat' (first|(refine zA ?_;(conv=>whnf))|((with_reducible refine zT ?_);(conv=>whnf))|((with_reducible refine zU ?_);(conv=>whnf))|((with_reducible refine zC (fun _=>?_) (fun _=>?_))<;>first|(exfalso;omega)|(conv=>whnf))|((with_reducible refine zW ?_);(conv=>whnf))))
      all_goals exact ⟨x+(1+(n:Int)/500),⟨rfl,rfl,rfl,rfl,rfl,rfl,rfl,rfl,trivial⟩,⟨by omega,by omega,hm.drew.sub (List.Sublist.cons _ (List.Sublist.cons _ (List.Sublist.refl _)))⟩,by omega⟩
   ·obtain ⟨hE0,hok0,hx0,hxn⟩:=hAt.yes rfl;rw [← hn] at hxn;refine zL hm 1 ?_;(conv=>whnf);refine zL hm 0 ?_;(conv=>whnf);refine RunV.neqQd (a:=q) (b:=q) ?_;rw [qej];(conv=>whnf);refine zP ?_;refine zT ?_;(conv=>whnf);(iterate 3 (refine zU ?_;(conv=>whnf)));refine zP ?_;refine Tst.beqT ?_;refine zT ?_;(conv=>whnf);refine zU ?_;(conv=>whnf);refine zL hm 1 ?_;(conv=>whnf);(iterate 2 (refine zU ?_;(conv=>whnf)));refine RunV.neqQd (a:=q) (b:=zQ) ?_;rw [qze hE0];(conv=>whnf);(iterate 2 (refine zU ?_;(conv=>whnf)));refine zP ?_;refine Tst.yes rfl ?_;(conv=>whnf);refine zU ?_;(conv=>whnf);refine zT ?_;(conv=>whnf);refine zL hm 1 ?_;(conv=>whnf);refine zT ?_;(conv=>whnf);refine CallV.of (qfb q hok0 w25 (hM.ext (he03.trans (hex12.trans hm.ext))) (hT.ext (he03.trans (hex12.trans hm.ext)))) ?_;rintro v w26 ⟨rfl,he26⟩;replace hm:=hm.call he26;rw [hE0];(conv=>whnf);(iterate 2 (refine zT ?_;(conv=>whnf);refine zU ?_;(conv=>whnf)));refine zN (fun _=>?_);(conv=>whnf);refine zU ?_;(conv=>whnf);(iterate 3 (refine zT ?_;(conv=>whnf)));refine zN (fun _=>?_);(conv=>whnf);(iterate 2 (refine zU ?_;(conv=>whnf);refine zU ?_;(conv=>whnf);refine zT ?_;(conv=>whnf)));refine zU ?_;(conv=>whnf);refine zN (fun _=>?_);conv=>whnf
    rcases hcase with he0|⟨he0,hmn,qs,hqs,hQS,hqv⟩
    ·refine DrawV.quiet (by kernel_rfl) (by kernel_rfl) ?_;(conv=>whnf);refine zW ?_;(conv=>whnf);refine zR hm.drew 2 ?_;(conv=>whnf);(iterate 3 (refine zW ?_;(conv=>whnf)));refine zN (fun _=>?_);(conv=>whnf);(iterate 2 (refine zU ?_;(conv=>whnf)));(iterate 2 (refine zW ?_;(conv=>whnf)));(iterate 5 (refine zU ?_;(conv=>whnf)));(iterate 2 (refine zW ?_;(conv=>whnf)));(iterate 7 (refine zU ?_;(conv=>whnf)));refine zW ?_;(conv=>whnf);refine zU ?_;(conv=>whnf);refine zA ?_;(conv=>whnf);exact ⟨x+(1+(n:Int)/500),⟨rfl,rfl,rfl,rfl,rfl,rfl,rfl,rfl,trivial⟩,⟨by omega,by omega,hm.drew.sub (List.Sublist.cons _ (List.Sublist.cons _ (List.Sublist.refl _)))⟩,by omega⟩
    ·by_cases hxm:0≤x∧x<(m:Nat)
     ·obtain ⟨j,rfl⟩:∃ j:Nat,x=(j:Int):=⟨x.toNat,by omega⟩
      have hjl:j<qs.length:=by omega
      have hqj:=hqv j _ (List.getElem?_eq_getElem hjl);rw [hAt.at_ j rfl] at hqj;have hqe:q=qs[j]:=qt4 (by simpa using hqj);obtain ⟨gq,oq,eQ,hcl⟩:=hQS.at_ (by intro e;rw [e] at hjl;simp at hjl);have hcj:=CellsAt.ext (hcl j _ (List.getElem?_eq_getElem hjl)) (hm.ext.trans (Ext.refl _).drew);subst eQ;refine DrawV.quiet (by kernel_rfl) (by kernel_rfl) ?_;(conv=>whnf);refine zW ?_;(conv=>whnf);refine zR hm.drew 2 ?_;(conv=>whnf);(iterate 3 (refine zW ?_;(conv=>whnf)));refine zY (fun _=>?_);(conv=>whnf);(iterate 2 (refine zW ?_;(conv=>whnf);refine zT ?_;(conv=>whnf)));(iterate 2 (refine zW ?_;(conv=>whnf)));refine zY (fun _=>?_);(conv=>whnf);(iterate 4 (refine zW ?_;(conv=>whnf);refine zT ?_;(conv=>whnf)));(iterate 2 (refine zW ?_;(conv=>whnf)));refine zY (fun _=>?_);(conv=>whnf);refine zL hm.drew 1 ?_;(conv=>whnf);(iterate 3 (refine zW ?_;(conv=>whnf);refine zT ?_;(conv=>whnf)));refine ⟨⟨gq,oq,j,rfl,by omega,by omega,?_⟩⟩;rw [show tsz Tryz.prog 75=16 from by kernel_rfl];(conv=>whnf);refine zW ?_;(conv=>whnf);refine zT ?_;(conv=>whnf);refine LoadA.cells hcj rfl ?_;(conv=>whnf);refine zW ?_;(conv=>whnf);refine zT ?_;(conv=>whnf);refine RunV.neqQd (a:=q) (b:=qs[j]) ?_;rw [← hqe,qej];(conv=>whnf);refine zW ?_;(conv=>whnf);refine zT ?_;(conv=>whnf);refine zW ?_;(conv=>whnf);refine zP ?_;refine zT ?_;(conv=>whnf);refine zA ?_;(conv=>whnf);exact ⟨(j:Int)+(1+(n:Int)/500),⟨rfl,rfl,rfl,rfl,rfl,rfl,rfl,rfl,trivial⟩,⟨by omega,by omega,hm.drew.sub (List.Sublist.cons _ (List.Sublist.cons _ (List.Sublist.refl _)))⟩,by omega⟩
     ·refine DrawV.quiet (by kernel_rfl) (by kernel_rfl) ?_;(conv=>whnf);refine zW ?_;(conv=>whnf);refine zR hm.drew 2 ?_;(conv=>whnf);(iterate 3 (refine zW ?_;(conv=>whnf)));(with_reducible refine zC (fun _=>?_) (fun _=>?_))<;>(exfalso;omega)
      all_goals exact ⟨x+(1+(n:Int)/500),⟨rfl,rfl,rfl,rfl,rfl,rfl,rfl,rfl,trivial⟩,⟨by omega,by omega,hm.drew.sub (List.Sublist.cons _ (List.Sublist.cons _ (List.Sublist.refl _)))⟩,by omega⟩
  ·have hxn':(n:Int)<x:=by omega
   have hex2:Ext w w19:=he03.trans (hex12.trans hm.ext);refine CallV.of (qpe l A c w.heap.size _ w19 (hRm.ext (he2.trans (he3.trans (hex12.trans hm.ext)))) (hS.ext hex2) hl) ?_;rintro v wz ⟨rfl,hz⟩;replace hm:=hm.call hz;(conv=>whnf);(iterate 2 (refine zT ?_;(conv=>whnf)));refine zR hm 0 ?_;conv=>whnf
   (repeat' (first|((with_reducible refine zT ?_);(conv=>whnf))|((with_reducible refine zU ?_);(conv=>whnf))|((with_reducible refine zC (fun _=>?_) (fun _=>?_))<;>first|(exfalso;omega)|(conv=>whnf))))
   ·exact ⟨rfl,hex2.trans hz⟩
   ·have hmn:m=n:=by
     rcases hcase with h|⟨_,h,_⟩
     ·omega
     ·exact h
    exact ⟨by rw [hmn];simp,hex2.trans hz⟩
end Go.Proofs.YtajgbepghniciaaGreatDoor
namespace Go.Proofs.YtajgbepghniciaaGreatDoor
open Go.RowKit
namespace V
theorem qpf {P:Program} {w:World}:∀ {l:List (String × DataW Unit)} {ps:List MemPlace},DataW.LaidVars P w l ps→∀ {n:String} {d:DataW Unit},(n,d)∈l→
  ∃ g t cs fuel p,P.globalNamed n=some g∧(P.globals[g]?).map (·.type)=some t∧w.var? P n=some cs∧DataW.trod (fun _=>()) P w 0 (fun _=>true) false fuel t cs.toList=some (d,p)
 | [],_,_,_,_,h=>by cases h
 | (n0,d0)::r,ps,h,n,d,hm=>by
  obtain ⟨g,t,cs,fuel,p,q,h1,h2,h3,h4,h5,_⟩:=h
  rcases List.mem_cons.1 hm with e|hm
  ·cases e;exact ⟨g,t,cs,fuel,p,h1,h2,h3,h4⟩
  ·exact qpf h5 hm
theorem qkx {P:Program} {W:World} {name:String} {k:IntKind} {zs:List Int} {l:List (String × DataW Unit)} {g:Nat} {t e:TypeId} {n:Nat}
  (hg:P.globalNamed name=some g) (hty:(P.globals[g]?).map (·.type)=some t) (ht:P.underlying t=some (.array n e)) (he:P.underlying e=some (.int k)) (hce:P.cellsOf e=1) (hct:P.cellsOf t=n)
  (h:laidMet P l W) (hm:(name,Lib.tabData k zs)∈l):CellsAt W g 0 (zs.map fun z=>Value.int k z):=by
 obtain ⟨ps,h,_⟩:=h;obtain ⟨g',t',cs,fuel,p,hg',ht',hvar,hd⟩:=qpf h hm;obtain rfl:=Option.some.inj (hg.symm.trans hg');obtain rfl:=Option.some.inj (hty.symm.trans ht');have hT:Lib.TabIs P W name k zs:=by
  unfold Lib.TabIs;rw [hvar,← Lib.cells_of_tab ht he hce hct hd]
 intro i v hv;have hi:i<zs.length:=by simpa using (List.getElem?_eq_some_iff.1 hv).1
 have:=hT.cell hg i hi;rw [Nat.zero_add,this];rw [List.getElem?_map,List.getElem?_eq_getElem hi] at hv;rw [List.getD_eq_getElem?_getD,List.getElem?_eq_getElem hi]
 simpa using hv
end V
end Go.Proofs.YtajgbepghniciaaGreatDoor
namespace Go.Proofs.YtajgbepghniciaaGreatDoor
open Go.ChangeShapes Go.WideShapes Go.ChangeAt Go.RowKit
theorem own:ownKnob Tryz.prog.godebug=none:=by kernel_rfl
theorem qwa:laidOutB Tryz.prog=true:=by kernel_rfl
mutual
def qxh:DataW Unit→List Value
 | .lit (.int k n)=>[.int k n]
 | .agg l=>cellsDs l
 | _=>[]
def cellsDs:List (DataW Unit)→List Value
 | []=>[]
 | d::l=>qxh d++cellsDs l
end
def qz8 (w:World) (x:Nat × DataW Unit):World:=
 { w with heap:=w.heap.modify x.1 fun
   | .cells _ t frozen=>.cells (qxh x.2).toArray t frozen
   | o=>o }
noncomputable def qz7 (os:Os) (l:List (Nat × DataW Unit)):World:=l.foldl qz8 (World.holding Tryz.prog os ⟨#[],#[],[]⟩)
end Go.Proofs.YtajgbepghniciaaGreatDoor
