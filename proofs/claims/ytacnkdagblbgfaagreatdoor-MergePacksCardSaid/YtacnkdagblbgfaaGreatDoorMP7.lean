/- Lemmas and contracts of functions on the way to the law's card (part 7 of 9). -/
import Derived.Test.YtacnkdagblbgfaaGreatDoorMP6
import Derived.Shelf.SlSortCmp.WholeK
import Derived.Shelf.SlSortCmp.NoneTotal
namespace Go.Proofs.YtacnkdagblbgfaaGreatDoor
set_option maxHeartbeats 8000000
open Go.RowKit
namespace V
theorem ExtE.grow {w w':World} (h:ExtE w w'):∃ q os,w'=Sort.grow (w.drewN q) os:=by
 refine ⟨w'.drawn-w.drawn,(w'.heap.toList.drop w.heap.size).toArray,?_⟩;have hh:w'.heap=w.heap++(w'.heap.toList.drop w.heap.size).toArray:=by
  rw [← Array.toList_inj,Array.toList_append];conv=>lhs;rw [← List.take_append_drop w.heap.size w'.heap.toList]
  congr 1
  apply List.ext_getElem?;intro k;rw [List.getElem?_take]
  by_cases hk:k<w.heap.size
  ·rw [if_pos hk];have:=h.ext.block k hk
   simpa using this
  ·rw [if_neg hk,List.getElem?_eq_none (by simpa using hk)]
 have hd:=h.dr;obtain ⟨h1,h2,h3,h4,h5⟩:=w';obtain ⟨e1,e2,e3,e4,e5⟩:=h.ext;simp only [Sort.grow,World.drewN] at *;subst e1 e2 e3;rw [← hh]
 congr 1
 omega
section
variable {α:Type} [Inhabited α] {enc:α→List Value} {k:Nat}
theorem qk2 (henc:∀ x,(enc x).length=k) (hk:0<k) (Y:List α):(Sort.flatK enc k Y.toArray).toList=(Y.map enc).flatten:=by
 apply List.ext_getElem?;intro t
 by_cases ht:t<Y.length*k
 ·have hj:t/k<Y.length:=Nat.div_lt_of_lt_mul (by rw [Nat.mul_comm];exact ht);have hm:t%k<k:=Nat.mod_lt _ hk;have e:t/k*k+t%k=t:=Nat.div_add_mod' t k;have h1:=qb2 enc k henc Y (t/k) Y[t/k] (t%k) (zge hj) hm;rw [e] at h1;have h2:t<(Sort.flatK enc k Y.toArray).size:=by simpa using ht
  have h3:=Sort.get_flatK enc k Y.toArray t (by simpa using ht);have h4:(enc Y[t/k])[t%k]?=some ((enc Y[t/k])[t%k]!):=by
   rw [zge (by rw [henc];exact hm),getElem!_pos _ _ (by rw [henc];exact hm)]
  rw [getElem!_pos _ t h2,getElem!_pos Y.toArray (t/k) (by simpa using hj)] at h3;rw [h1,h4,Array.getElem?_toList,Array.getElem?_eq_getElem h2,h3];simp only [List.getElem_toArray]
 ·rw [List.getElem?_eq_none (by simpa using ht),List.getElem?_eq_none (by rw [qa4 enc k henc];omega)]
theorem q0b (henc:∀ x,(enc x).length=k) (hk:0<k) {w:World} {g:Nat} {cur:Array Value} {e:TypeId} {Y:List α} (hg:w.heap[g]?=some (.cells cur e)) (ht:cur.toList.take (Y.length*k)=(Y.map enc).flatten):Sort.HoldsK enc k w g 0 Y.toArray:=by
 intro j hj;refine ⟨?_,by simp [World.frozen?,hg]⟩;rw [qa hg,Nat.zero_add,getElem!_pos _ j hj];have hj':j<Y.length*k:=by simpa using hj
 have h1:(cur.toList.take (Y.length*k))[j]?=(Sort.flatK enc k Y.toArray).toList[j]?:=by rw [ht,qk2 henc hk]
 rw [List.getElem?_take,if_pos hj',Array.getElem?_toList,Array.getElem?_toList,Array.getElem?_eq_getElem hj] at h1;exact h1
theorem qnn (w:World) (g m:Nat) (d:Array α) (os:Array Obj) (_:g<w.heap.size):Chn [g] w (sortWorldK enc k w g 0 m d os):=by
 refine ⟨rfl,rfl,rfl,?_,fun b hb hn=>?_⟩
 ·simp [sortWorldK,Sort.grow,Sort.putRowK,Sort.putRow,Sort.mapBlock,Sort.ahead]
 ·have hne:g≠b:=fun e=>hn (by rw [e];exact List.mem_singleton.2 rfl)
  simp only [sortWorldK,Sort.grow,Sort.putRowK,Sort.putRow,Sort.mapBlock,Sort.ahead];rw [Array.getElem?_append_left (by simpa using hb),Array.getElem?_modify,if_neg hne]
theorem qno (henc:∀ x,(enc x).length=k) (hk:0<k) {w:World} {g m:Nat} {cur:Array Value} {e:TypeId} {d:Array α} {os:Array Obj} (hg:w.heap[g]?=some (.cells cur e)) (hc:d.size*k≤cur.size) :
  ∃ cur',(sortWorldK enc k w g 0 m d os).heap[g]?=some (.cells cur' e)∧cur'.size=cur.size∧cur'.toList.take (d.size*k)=(d.toList.map enc).flatten:=by
 have hlt:=qa5 hg;refine ⟨Sort.putCells id 0 (Sort.flatK enc k d) cur,?_,by simp [Sort.putCells],?_⟩
 ·simp only [sortWorldK,Sort.grow,Sort.putRowK,Sort.putRow,Sort.mapBlock,Sort.ahead];rw [Array.getElem?_append_left (by simpa using hlt),Array.getElem?_modify,if_pos rfl,hg];rfl
 ·have hf:=qk2 henc hk d.toList;have e1:d.toList.toArray=d:=by simp
  rw [e1] at hf;rw [← hf];apply List.ext_getElem?;intro j;rw [List.getElem?_take]
  by_cases hj:j<d.size*k
  ·have h2:j<(Sort.flatK enc k d).size:=by simpa using hj
   rw [if_pos hj,Array.getElem?_toList,Array.getElem?_toList,Array.getElem?_eq_getElem h2];simp only [Sort.putCells,Array.getElem?_mapIdx,Array.getElem?_eq_getElem (show j<cur.size by omega),Option.map_some];rw [if_pos ⟨Nat.zero_le _,by omega⟩,Nat.sub_zero,getElem!_pos _ j h2];rfl
  ·rw [if_neg hj,List.getElem?_eq_none (by simpa using hj)]
end
end V
open Go.RowKit V
def tmA (X:List TM) (i:Nat):TM:=X.getD i zTM
theorem qkb {X:List TM} {i:Nat} (h:i<X.length):tmA X i=X[i]:=by rw [tmA,List.getD_eq_getElem?_getD,zge h];rfl
def unqN (X:List TM):Nat→List TM
 | 0=>[]
 | p+1=>if 0<p∧qck (tmA X p) (tmA X (p-1))=true then unqN X p else unqN X p++[tmA X p]
theorem qp2 {X:List TM} {p:Nat} (h0:0<p) (h:qck (tmA X p) (tmA X (p-1))=true):unqN X (p+1)=unqN X p:=by rw [unqN,if_pos ⟨h0,h⟩]
theorem qul {X:List TM} {p:Nat} (h:qck (tmA X p) (tmA X (p-1))=false):unqN X (p+1)=unqN X p++[tmA X p]:=by rw [unqN,if_neg (fun g=>by rw [h] at g;cases g.2)]
theorem q3n (X:List TM):unqN X 1=[tmA X 0]:=by rw [unqN,if_neg (fun g=>by omega)];rfl
theorem q3m (X:List TM):∀ p,(unqN X p).length≤p
 | 0=>Nat.le_refl _
 | p+1=>by
  have:=q3m X p;rw [unqN]
  split
  ·omega
  ·rw [zla,List.length_singleton];omega
theorem qg1 {X:List TM}:∀ {p:Nat},p≤X.length→(∀ i,0<i→i<p→qck (tmA X i) (tmA X (i-1))=false)→unqN X p=X.take p
 | 0,_,_=>rfl
 | p+1,hp,h=>by
  have ih:=qg1 (p:=p) Oo fun i h1 h2=>h i h1 Oo
  have e:X.take (p+1)=X.take p++[tmA X p]:=by rw [List.take_succ_eq_append_getElem Oo,qkb Oo]
  rw [e,← ih]
  rcases Nat.eq_zero_or_pos p with rfl|h0
  ·exact q3n X
  ·exact qul (h p h0 Oo)
theorem qnt {X:List TM} {t:TM}:∀ {p:Nat},t∈unqN X p↔∃ i,i<p∧tmA X i=t
 | 0=>by simp [unqN]
 | p+1=>by
  have ih:=qnt (X:=X) (t:=t) (p:=p);rw [unqN]
  split
  ·rename_i h
   rw [ih]
   constructor
   ·rintro ⟨i,h1,h2⟩;exact ⟨i,by omega,h2⟩
   ·rintro ⟨i,h1,h2⟩
    rcases Nat.lt_or_ge i p with g|g
    ·exact ⟨i,g,h2⟩
    ·obtain rfl:i=p:=by omega
     exact ⟨i-1,by omega,by rw [← h2,qb0.1 h.2]⟩
  ·rw [List.mem_append,ih,List.mem_singleton]
   constructor
   ·rintro (⟨i,h1,h2⟩|h)
    ·exact ⟨i,by omega,h2⟩
    ·exact ⟨p,by omega,h.symm⟩
   ·rintro ⟨i,h1,h2⟩
    rcases Nat.lt_or_ge i p with g|g
    ·exact .inl ⟨i,g,h2⟩
    ·obtain rfl:i=p:=by omega
     exact .inr h2.symm
def AscT (X:List TM):Prop:=∀ i j,i<j→j<X.length→¬ LtT (tmA X j) (tmA X i)
theorem qp1 {X:List TM} (h:AscT X):∀ {p:Nat},p≤X.length→RiseT (unqN X p)
 | 0,_=>List.Pairwise.nil
 | p+1,hp=>by
  have ih:=qp1 h (p:=p) Oo;rw [unqN]
  split
  ·exact ih
  ·rename_i hs
   refine List.pairwise_append.2 ⟨ih,List.pairwise_singleton _ _,fun u hu v hv=>?_⟩;rw [List.mem_singleton.1 hv];obtain ⟨i,hi,rfl⟩:=qnt.1 hu
   rcases LtT.tri (tmA X i) (tmA X p) with g|g|g
   ·exact g
   ·exfalso
    have hne:¬ qck (tmA X p) (tmA X (p-1))=true:=fun e=>hs ⟨by omega,e⟩
    by_cases hi2:i=p-1
    ·subst hi2;exact hne (qb0.2 g.symm)
    ·have g1:=h i (p-1) Oo Oo;have g2:=h (p-1) p Oo Oo;rw [g] at g1
     rcases LtT.tri (tmA X (p-1)) (tmA X p) with q|q|q
     ·exact g1 q
     ·exact hne (qb0.2 q.symm)
     ·exact g2 q
   ·exact absurd g (h i p hi Oo)
theorem q62 {X:List TM} {t:TM}:(∃ i,i<X.length∧tmA X i=t)↔t∈X:=by
 constructor
 ·rintro ⟨i,h,rfl⟩;rw [qkb h];exact List.getElem_mem h
 ·intro h;obtain ⟨i,hi,e⟩:=List.mem_iff_getElem.1 h;exact ⟨i,hi,by rw [qkb hi,e]⟩
theorem q3o {X:List TM} {qs:List Q4} (h:AscT X) (hp:∀ t,t∈X↔t∈trms qs):unqN X X.length=tmsQ qs:=
 RiseT.ext (qp1 h znr) (qgx qs) fun y=>by
  rw [qnt,q62,hp,qgf,qtm]
set_option maxRecDepth 100000
instance:Inhabited TM:=⟨zTM⟩
theorem qn7 (a b:TM) (w:World):Gv Tryz.prog 68 [qbq a,qbq b] w fun r w'=>r=ii (cmpT a b)∧ExtE w w':=by
 refine gv Ok Tryz.func68 rfl Tryz.ntmps68 rfl (zw ?_);refine ⟨fun b1 w1 hb1 hw1=>?_⟩;have hm:=(Mem.nil w).new hb1 hw1;have hx:ExtE w w1:=by rw [hw1];exact (ExtE.refl w).alloc _
 clear hb1 hw1;(conv=>whnf);refine ⟨fun b2 w2 hb2 hw2=>?_⟩;have hm:=hm.new hb2 hw2;have hx:ExtE w w2:=by rw [hw2];exact hx.alloc _
 clear hb2 hw2;(conv=>whnf);refine DrawV.freeE rfl Ok (zw ?_);(apply StepE.still;(· intro wd hd;(conv=>whnf);(repeat (intro _ _;(conv=>whnf)));(first|exact ⟨ExtE.refl _,rfl⟩|((repeat' (first|(refine Obl.mk ⟨by omega,by omega⟩ ?_;conv=>whnf)|(refine Obl.mk ⟨by omega,by omega,⟨by omega,by omega⟩⟩ ?_;conv=>whnf)|((with_reducible refine Tst.tt ?_);conv=>whnf)|((with_reducible refine Tst.ff ?_);conv=>whnf)|((with_reducible refine Tst.dec (fun _=>?_) (fun _=>?_))<;>first|(exfalso;omega)|(conv=>whnf))|((with_reducible refine Tst.not ?_))|(refine Wit.conv ⟨by omega,by omega⟩ ?_;conv=>whnf)|((with_reducible refine IdxV.nat Oo ?_);conv=>whnf)|((with_reducible refine IdxV.at_ 0 ?_ Od ?_);rfl;(conv=>whnf))|((with_reducible refine IdxV.at_ 1 ?_ Od ?_);rfl;(conv=>whnf))|((with_reducible refine IdxV.at_ 2 ?_ Od ?_);rfl;(conv=>whnf))|((with_reducible refine IdxV.at_ 3 ?_ Od ?_);rfl;(conv=>whnf))|((with_reducible refine SameW.mk rfl ?_);conv=>whnf)|((with_reducible refine Tst.beqT ?_))|((with_reducible refine Tst.beqF ?_))|(refine Tst.yes rfl ?_;conv=>whnf)|(refine Tst.no rfl ?_;conv=>whnf)));exact ⟨ExtE.refl _,rfl⟩)));(conv=>whnf));(apply StepE.still;(· intro wd hd;(conv=>whnf);(repeat' (first|(refine Obl.mk ⟨by omega,by omega⟩ ?_;conv=>whnf)|(refine Obl.mk ⟨by omega,by omega,⟨by omega,by omega⟩⟩ ?_;conv=>whnf)|((with_reducible refine Tst.tt ?_);conv=>whnf)|((with_reducible refine Tst.ff ?_);conv=>whnf)|((with_reducible refine Tst.dec (fun _=>?_) (fun _=>?_))<;>first|(exfalso;omega)|(conv=>whnf))|((with_reducible refine Tst.not ?_))|(refine Wit.conv ⟨by omega,by omega⟩ ?_;conv=>whnf)|((with_reducible refine IdxV.nat Oo ?_);conv=>whnf)|((with_reducible refine IdxV.at_ 0 ?_ Od ?_);rfl;(conv=>whnf))|((with_reducible refine IdxV.at_ 1 ?_ Od ?_);rfl;(conv=>whnf))|((with_reducible refine IdxV.at_ 2 ?_ Od ?_);rfl;(conv=>whnf))|((with_reducible refine IdxV.at_ 3 ?_ Od ?_);rfl;(conv=>whnf))|((with_reducible refine SameW.mk rfl ?_);conv=>whnf)|((with_reducible refine Tst.beqT ?_))|((with_reducible refine Tst.beqF ?_))|(refine Tst.yes rfl ?_;conv=>whnf)|(refine Tst.no rfl ?_;conv=>whnf)));refine LoadV.mem (Mem.call (Mem.drew hm) hd.ext) (i:=1) rfl rfl ?_;(conv=>whnf);exact ⟨ExtE.refl _,rfl⟩);(conv=>whnf));(apply StepE.still;(· intro wd hd;(conv=>whnf);(repeat (intro _ _;(conv=>whnf)));(first|exact ⟨ExtE.refl _,rfl⟩|((repeat' (first|(refine Obl.mk ⟨by omega,by omega⟩ ?_;conv=>whnf)|(refine Obl.mk ⟨by omega,by omega,⟨by omega,by omega⟩⟩ ?_;conv=>whnf)|((with_reducible refine Tst.tt ?_);conv=>whnf)|((with_reducible refine Tst.ff ?_);conv=>whnf)|((with_reducible refine Tst.dec (fun _=>?_) (fun _=>?_))<;>first|(exfalso;omega)|(conv=>whnf))|((with_reducible refine Tst.not ?_))|(refine Wit.conv ⟨by omega,by omega⟩ ?_;conv=>whnf)|((with_reducible refine IdxV.nat Oo ?_);conv=>whnf)|((with_reducible refine IdxV.at_ 0 ?_ Od ?_);rfl;(conv=>whnf))|((with_reducible refine IdxV.at_ 1 ?_ Od ?_);rfl;(conv=>whnf))|((with_reducible refine IdxV.at_ 2 ?_ Od ?_);rfl;(conv=>whnf))|((with_reducible refine IdxV.at_ 3 ?_ Od ?_);rfl;(conv=>whnf))|((with_reducible refine SameW.mk rfl ?_);conv=>whnf)|((with_reducible refine Tst.beqT ?_))|((with_reducible refine Tst.beqF ?_))|(refine Tst.yes rfl ?_;conv=>whnf)|(refine Tst.no rfl ?_;conv=>whnf)));exact ⟨ExtE.refl _,rfl⟩)));(conv=>whnf));(apply StepE.still;(· intro wd hd;(conv=>whnf);(repeat' (first|(refine Obl.mk ⟨by omega,by omega⟩ ?_;conv=>whnf)|(refine Obl.mk ⟨by omega,by omega,⟨by omega,by omega⟩⟩ ?_;conv=>whnf)|((with_reducible refine Tst.tt ?_);conv=>whnf)|((with_reducible refine Tst.ff ?_);conv=>whnf)|((with_reducible refine Tst.dec (fun _=>?_) (fun _=>?_))<;>first|(exfalso;omega)|(conv=>whnf))|((with_reducible refine Tst.not ?_))|(refine Wit.conv ⟨by omega,by omega⟩ ?_;conv=>whnf)|((with_reducible refine IdxV.nat Oo ?_);conv=>whnf)|((with_reducible refine IdxV.at_ 0 ?_ Od ?_);rfl;(conv=>whnf))|((with_reducible refine IdxV.at_ 1 ?_ Od ?_);rfl;(conv=>whnf))|((with_reducible refine IdxV.at_ 2 ?_ Od ?_);rfl;(conv=>whnf))|((with_reducible refine IdxV.at_ 3 ?_ Od ?_);rfl;(conv=>whnf))|((with_reducible refine SameW.mk rfl ?_);conv=>whnf)|((with_reducible refine Tst.beqT ?_))|((with_reducible refine Tst.beqF ?_))|(refine Tst.yes rfl ?_;conv=>whnf)|(refine Tst.no rfl ?_;conv=>whnf)));refine LoadV.mem (Mem.call (Mem.drew hm) hd.ext) (i:=0) rfl rfl ?_;(conv=>whnf);exact ⟨ExtE.refl _,rfl⟩);(conv=>whnf));apply StepE.still
 ·intro wd hd;(conv=>whnf);refine zcv (qg9 a.kind b.kind wd) ?_;rintro v w7 ⟨rfl,rfl⟩;exact ⟨ExtE.refl _,rfl⟩
 (conv=>whnf);(apply StepE.still;(· intro wd hd;(conv=>whnf);(repeat (intro _ _;(conv=>whnf)));(first|exact ⟨ExtE.refl _,rfl⟩|((repeat' (first|(refine Obl.mk ⟨by omega,by omega⟩ ?_;conv=>whnf)|(refine Obl.mk ⟨by omega,by omega,⟨by omega,by omega⟩⟩ ?_;conv=>whnf)|((with_reducible refine Tst.tt ?_);conv=>whnf)|((with_reducible refine Tst.ff ?_);conv=>whnf)|((with_reducible refine Tst.dec (fun _=>?_) (fun _=>?_))<;>first|(exfalso;omega)|(conv=>whnf))|((with_reducible refine Tst.not ?_))|(refine Wit.conv ⟨by omega,by omega⟩ ?_;conv=>whnf)|((with_reducible refine IdxV.nat Oo ?_);conv=>whnf)|((with_reducible refine IdxV.at_ 0 ?_ Od ?_);rfl;(conv=>whnf))|((with_reducible refine IdxV.at_ 1 ?_ Od ?_);rfl;(conv=>whnf))|((with_reducible refine IdxV.at_ 2 ?_ Od ?_);rfl;(conv=>whnf))|((with_reducible refine IdxV.at_ 3 ?_ Od ?_);rfl;(conv=>whnf))|((with_reducible refine SameW.mk rfl ?_);conv=>whnf)|((with_reducible refine Tst.beqT ?_))|((with_reducible refine Tst.beqF ?_))|(refine Tst.yes rfl ?_;conv=>whnf)|(refine Tst.no rfl ?_;conv=>whnf)));exact ⟨ExtE.refl _,rfl⟩)));(conv=>whnf));(apply StepE.still;(· intro wd hd;(conv=>whnf);(repeat' (first|(refine Obl.mk ⟨by omega,by omega⟩ ?_;conv=>whnf)|(refine Obl.mk ⟨by omega,by omega,⟨by omega,by omega⟩⟩ ?_;conv=>whnf)|((with_reducible refine Tst.tt ?_);conv=>whnf)|((with_reducible refine Tst.ff ?_);conv=>whnf)|((with_reducible refine Tst.dec (fun _=>?_) (fun _=>?_))<;>first|(exfalso;omega)|(conv=>whnf))|((with_reducible refine Tst.not ?_))|(refine Wit.conv ⟨by omega,by omega⟩ ?_;conv=>whnf)|((with_reducible refine IdxV.nat Oo ?_);conv=>whnf)|((with_reducible refine IdxV.at_ 0 ?_ Od ?_);rfl;(conv=>whnf))|((with_reducible refine IdxV.at_ 1 ?_ Od ?_);rfl;(conv=>whnf))|((with_reducible refine IdxV.at_ 2 ?_ Od ?_);rfl;(conv=>whnf))|((with_reducible refine IdxV.at_ 3 ?_ Od ?_);rfl;(conv=>whnf))|((with_reducible refine SameW.mk rfl ?_);conv=>whnf)|((with_reducible refine Tst.beqT ?_))|((with_reducible refine Tst.beqF ?_))|(refine Tst.yes rfl ?_;conv=>whnf)|(refine Tst.no rfl ?_;conv=>whnf)));refine LoadV.mem (Mem.call (Mem.drew hm) hd.ext) (i:=1) rfl rfl ?_;(conv=>whnf);exact ⟨ExtE.refl _,rfl⟩);(conv=>whnf));(apply StepE.still;(· intro wd hd;(conv=>whnf);(repeat (intro _ _;(conv=>whnf)));(first|exact ⟨ExtE.refl _,rfl⟩|((repeat' (first|(refine Obl.mk ⟨by omega,by omega⟩ ?_;conv=>whnf)|(refine Obl.mk ⟨by omega,by omega,⟨by omega,by omega⟩⟩ ?_;conv=>whnf)|((with_reducible refine Tst.tt ?_);conv=>whnf)|((with_reducible refine Tst.ff ?_);conv=>whnf)|((with_reducible refine Tst.dec (fun _=>?_) (fun _=>?_))<;>first|(exfalso;omega)|(conv=>whnf))|((with_reducible refine Tst.not ?_))|(refine Wit.conv ⟨by omega,by omega⟩ ?_;conv=>whnf)|((with_reducible refine IdxV.nat Oo ?_);conv=>whnf)|((with_reducible refine IdxV.at_ 0 ?_ Od ?_);rfl;(conv=>whnf))|((with_reducible refine IdxV.at_ 1 ?_ Od ?_);rfl;(conv=>whnf))|((with_reducible refine IdxV.at_ 2 ?_ Od ?_);rfl;(conv=>whnf))|((with_reducible refine IdxV.at_ 3 ?_ Od ?_);rfl;(conv=>whnf))|((with_reducible refine SameW.mk rfl ?_);conv=>whnf)|((with_reducible refine Tst.beqT ?_))|((with_reducible refine Tst.beqF ?_))|(refine Tst.yes rfl ?_;conv=>whnf)|(refine Tst.no rfl ?_;conv=>whnf)));exact ⟨ExtE.refl _,rfl⟩)));(conv=>whnf));(apply StepE.still;(· intro wd hd;(conv=>whnf);(repeat' (first|(refine Obl.mk ⟨by omega,by omega⟩ ?_;conv=>whnf)|(refine Obl.mk ⟨by omega,by omega,⟨by omega,by omega⟩⟩ ?_;conv=>whnf)|((with_reducible refine Tst.tt ?_);conv=>whnf)|((with_reducible refine Tst.ff ?_);conv=>whnf)|((with_reducible refine Tst.dec (fun _=>?_) (fun _=>?_))<;>first|(exfalso;omega)|(conv=>whnf))|((with_reducible refine Tst.not ?_))|(refine Wit.conv ⟨by omega,by omega⟩ ?_;conv=>whnf)|((with_reducible refine IdxV.nat Oo ?_);conv=>whnf)|((with_reducible refine IdxV.at_ 0 ?_ Od ?_);rfl;(conv=>whnf))|((with_reducible refine IdxV.at_ 1 ?_ Od ?_);rfl;(conv=>whnf))|((with_reducible refine IdxV.at_ 2 ?_ Od ?_);rfl;(conv=>whnf))|((with_reducible refine IdxV.at_ 3 ?_ Od ?_);rfl;(conv=>whnf))|((with_reducible refine SameW.mk rfl ?_);conv=>whnf)|((with_reducible refine Tst.beqT ?_))|((with_reducible refine Tst.beqF ?_))|(refine Tst.yes rfl ?_;conv=>whnf)|(refine Tst.no rfl ?_;conv=>whnf)));refine LoadV.mem (Mem.call (Mem.drew hm) hd.ext) (i:=0) rfl rfl ?_;(conv=>whnf);exact ⟨ExtE.refl _,rfl⟩);(conv=>whnf));apply StepE.still
 ·intro wd hd;(conv=>whnf);refine zcv (qfb a.text b.text wd) ?_;rintro v w7 ⟨rfl,rfl⟩;exact ⟨ExtE.refl _,rfl⟩
 (conv=>whnf);(apply StepE.still;(· intro wd hd;(conv=>whnf);(repeat (intro _ _;(conv=>whnf)));(first|exact ⟨ExtE.refl _,rfl⟩|((repeat' (first|(refine Obl.mk ⟨by omega,by omega⟩ ?_;conv=>whnf)|(refine Obl.mk ⟨by omega,by omega,⟨by omega,by omega⟩⟩ ?_;conv=>whnf)|((with_reducible refine Tst.tt ?_);conv=>whnf)|((with_reducible refine Tst.ff ?_);conv=>whnf)|((with_reducible refine Tst.dec (fun _=>?_) (fun _=>?_))<;>first|(exfalso;omega)|(conv=>whnf))|((with_reducible refine Tst.not ?_))|(refine Wit.conv ⟨by omega,by omega⟩ ?_;conv=>whnf)|((with_reducible refine IdxV.nat Oo ?_);conv=>whnf)|((with_reducible refine IdxV.at_ 0 ?_ Od ?_);rfl;(conv=>whnf))|((with_reducible refine IdxV.at_ 1 ?_ Od ?_);rfl;(conv=>whnf))|((with_reducible refine IdxV.at_ 2 ?_ Od ?_);rfl;(conv=>whnf))|((with_reducible refine IdxV.at_ 3 ?_ Od ?_);rfl;(conv=>whnf))|((with_reducible refine SameW.mk rfl ?_);conv=>whnf)|((with_reducible refine Tst.beqT ?_))|((with_reducible refine Tst.beqF ?_))|(refine Tst.yes rfl ?_;conv=>whnf)|(refine Tst.no rfl ?_;conv=>whnf)));exact ⟨ExtE.refl _,rfl⟩)));(conv=>whnf));(apply StepE.still;(· intro wd hd;(conv=>whnf);(repeat' (first|(refine Obl.mk ⟨by omega,by omega⟩ ?_;conv=>whnf)|(refine Obl.mk ⟨by omega,by omega,⟨by omega,by omega⟩⟩ ?_;conv=>whnf)|((with_reducible refine Tst.tt ?_);conv=>whnf)|((with_reducible refine Tst.ff ?_);conv=>whnf)|((with_reducible refine Tst.dec (fun _=>?_) (fun _=>?_))<;>first|(exfalso;omega)|(conv=>whnf))|((with_reducible refine Tst.not ?_))|(refine Wit.conv ⟨by omega,by omega⟩ ?_;conv=>whnf)|((with_reducible refine IdxV.nat Oo ?_);conv=>whnf)|((with_reducible refine IdxV.at_ 0 ?_ Od ?_);rfl;(conv=>whnf))|((with_reducible refine IdxV.at_ 1 ?_ Od ?_);rfl;(conv=>whnf))|((with_reducible refine IdxV.at_ 2 ?_ Od ?_);rfl;(conv=>whnf))|((with_reducible refine IdxV.at_ 3 ?_ Od ?_);rfl;(conv=>whnf))|((with_reducible refine SameW.mk rfl ?_);conv=>whnf)|((with_reducible refine Tst.beqT ?_))|((with_reducible refine Tst.beqF ?_))|(refine Tst.yes rfl ?_;conv=>whnf)|(refine Tst.no rfl ?_;conv=>whnf)));refine LoadV.mem (Mem.call (Mem.drew hm) hd.ext) (i:=1) rfl rfl ?_;(conv=>whnf);exact ⟨ExtE.refl _,rfl⟩);(conv=>whnf));(apply StepE.still;(· intro wd hd;(conv=>whnf);(repeat (intro _ _;(conv=>whnf)));(first|exact ⟨ExtE.refl _,rfl⟩|((repeat' (first|(refine Obl.mk ⟨by omega,by omega⟩ ?_;conv=>whnf)|(refine Obl.mk ⟨by omega,by omega,⟨by omega,by omega⟩⟩ ?_;conv=>whnf)|((with_reducible refine Tst.tt ?_);conv=>whnf)|((with_reducible refine Tst.ff ?_);conv=>whnf)|((with_reducible refine Tst.dec (fun _=>?_) (fun _=>?_))<;>first|(exfalso;omega)|(conv=>whnf))|((with_reducible refine Tst.not ?_))|(refine Wit.conv ⟨by omega,by omega⟩ ?_;conv=>whnf)|((with_reducible refine IdxV.nat Oo ?_);conv=>whnf)|((with_reducible refine IdxV.at_ 0 ?_ Od ?_);rfl;(conv=>whnf))|((with_reducible refine IdxV.at_ 1 ?_ Od ?_);rfl;(conv=>whnf))|((with_reducible refine IdxV.at_ 2 ?_ Od ?_);rfl;(conv=>whnf))|((with_reducible refine IdxV.at_ 3 ?_ Od ?_);rfl;(conv=>whnf))|((with_reducible refine SameW.mk rfl ?_);conv=>whnf)|((with_reducible refine Tst.beqT ?_))|((with_reducible refine Tst.beqF ?_))|(refine Tst.yes rfl ?_;conv=>whnf)|(refine Tst.no rfl ?_;conv=>whnf)));exact ⟨ExtE.refl _,rfl⟩)));(conv=>whnf));(apply StepE.still;(· intro wd hd;(conv=>whnf);(repeat' (first|(refine Obl.mk ⟨by omega,by omega⟩ ?_;conv=>whnf)|(refine Obl.mk ⟨by omega,by omega,⟨by omega,by omega⟩⟩ ?_;conv=>whnf)|((with_reducible refine Tst.tt ?_);conv=>whnf)|((with_reducible refine Tst.ff ?_);conv=>whnf)|((with_reducible refine Tst.dec (fun _=>?_) (fun _=>?_))<;>first|(exfalso;omega)|(conv=>whnf))|((with_reducible refine Tst.not ?_))|(refine Wit.conv ⟨by omega,by omega⟩ ?_;conv=>whnf)|((with_reducible refine IdxV.nat Oo ?_);conv=>whnf)|((with_reducible refine IdxV.at_ 0 ?_ Od ?_);rfl;(conv=>whnf))|((with_reducible refine IdxV.at_ 1 ?_ Od ?_);rfl;(conv=>whnf))|((with_reducible refine IdxV.at_ 2 ?_ Od ?_);rfl;(conv=>whnf))|((with_reducible refine IdxV.at_ 3 ?_ Od ?_);rfl;(conv=>whnf))|((with_reducible refine SameW.mk rfl ?_);conv=>whnf)|((with_reducible refine Tst.beqT ?_))|((with_reducible refine Tst.beqF ?_))|(refine Tst.yes rfl ?_;conv=>whnf)|(refine Tst.no rfl ?_;conv=>whnf)));refine LoadV.mem (Mem.call (Mem.drew hm) hd.ext) (i:=0) rfl rfl ?_;(conv=>whnf);exact ⟨ExtE.refl _,rfl⟩);(conv=>whnf));apply StepE.still
 ·intro wd hd;(conv=>whnf);refine zcv (qfb a.type b.type wd) ?_;rintro v w7 ⟨rfl,rfl⟩;exact ⟨ExtE.refl _,rfl⟩
 (conv=>whnf);(apply StepE.still;(· intro wd hd;(conv=>whnf);(repeat (intro _ _;(conv=>whnf)));(first|exact ⟨ExtE.refl _,rfl⟩|((repeat' (first|(refine Obl.mk ⟨by omega,by omega⟩ ?_;conv=>whnf)|(refine Obl.mk ⟨by omega,by omega,⟨by omega,by omega⟩⟩ ?_;conv=>whnf)|((with_reducible refine Tst.tt ?_);conv=>whnf)|((with_reducible refine Tst.ff ?_);conv=>whnf)|((with_reducible refine Tst.dec (fun _=>?_) (fun _=>?_))<;>first|(exfalso;omega)|(conv=>whnf))|((with_reducible refine Tst.not ?_))|(refine Wit.conv ⟨by omega,by omega⟩ ?_;conv=>whnf)|((with_reducible refine IdxV.nat Oo ?_);conv=>whnf)|((with_reducible refine IdxV.at_ 0 ?_ Od ?_);rfl;(conv=>whnf))|((with_reducible refine IdxV.at_ 1 ?_ Od ?_);rfl;(conv=>whnf))|((with_reducible refine IdxV.at_ 2 ?_ Od ?_);rfl;(conv=>whnf))|((with_reducible refine IdxV.at_ 3 ?_ Od ?_);rfl;(conv=>whnf))|((with_reducible refine SameW.mk rfl ?_);conv=>whnf)|((with_reducible refine Tst.beqT ?_))|((with_reducible refine Tst.beqF ?_))|(refine Tst.yes rfl ?_;conv=>whnf)|(refine Tst.no rfl ?_;conv=>whnf)));exact ⟨ExtE.refl _,rfl⟩)));(conv=>whnf));(apply StepE.still;(· intro wd hd;(conv=>whnf);(repeat' (first|(refine Obl.mk ⟨by omega,by omega⟩ ?_;conv=>whnf)|(refine Obl.mk ⟨by omega,by omega,⟨by omega,by omega⟩⟩ ?_;conv=>whnf)|((with_reducible refine Tst.tt ?_);conv=>whnf)|((with_reducible refine Tst.ff ?_);conv=>whnf)|((with_reducible refine Tst.dec (fun _=>?_) (fun _=>?_))<;>first|(exfalso;omega)|(conv=>whnf))|((with_reducible refine Tst.not ?_))|(refine Wit.conv ⟨by omega,by omega⟩ ?_;conv=>whnf)|((with_reducible refine IdxV.nat Oo ?_);conv=>whnf)|((with_reducible refine IdxV.at_ 0 ?_ Od ?_);rfl;(conv=>whnf))|((with_reducible refine IdxV.at_ 1 ?_ Od ?_);rfl;(conv=>whnf))|((with_reducible refine IdxV.at_ 2 ?_ Od ?_);rfl;(conv=>whnf))|((with_reducible refine IdxV.at_ 3 ?_ Od ?_);rfl;(conv=>whnf))|((with_reducible refine SameW.mk rfl ?_);conv=>whnf)|((with_reducible refine Tst.beqT ?_))|((with_reducible refine Tst.beqF ?_))|(refine Tst.yes rfl ?_;conv=>whnf)|(refine Tst.no rfl ?_;conv=>whnf)));refine LoadV.mem (Mem.call (Mem.drew hm) hd.ext) (i:=1) rfl rfl ?_;(conv=>whnf);exact ⟨ExtE.refl _,rfl⟩);(conv=>whnf));(apply StepE.still;(· intro wd hd;(conv=>whnf);(repeat (intro _ _;(conv=>whnf)));(first|exact ⟨ExtE.refl _,rfl⟩|((repeat' (first|(refine Obl.mk ⟨by omega,by omega⟩ ?_;conv=>whnf)|(refine Obl.mk ⟨by omega,by omega,⟨by omega,by omega⟩⟩ ?_;conv=>whnf)|((with_reducible refine Tst.tt ?_);conv=>whnf)|((with_reducible refine Tst.ff ?_);conv=>whnf)|((with_reducible refine Tst.dec (fun _=>?_) (fun _=>?_))<;>first|(exfalso;omega)|(conv=>whnf))|((with_reducible refine Tst.not ?_))|(refine Wit.conv ⟨by omega,by omega⟩ ?_;conv=>whnf)|((with_reducible refine IdxV.nat Oo ?_);conv=>whnf)|((with_reducible refine IdxV.at_ 0 ?_ Od ?_);rfl;(conv=>whnf))|((with_reducible refine IdxV.at_ 1 ?_ Od ?_);rfl;(conv=>whnf))|((with_reducible refine IdxV.at_ 2 ?_ Od ?_);rfl;(conv=>whnf))|((with_reducible refine IdxV.at_ 3 ?_ Od ?_);rfl;(conv=>whnf))|((with_reducible refine SameW.mk rfl ?_);conv=>whnf)|((with_reducible refine Tst.beqT ?_))|((with_reducible refine Tst.beqF ?_))|(refine Tst.yes rfl ?_;conv=>whnf)|(refine Tst.no rfl ?_;conv=>whnf)));exact ⟨ExtE.refl _,rfl⟩)));(conv=>whnf));(apply StepE.still;(· intro wd hd;(conv=>whnf);(repeat' (first|(refine Obl.mk ⟨by omega,by omega⟩ ?_;conv=>whnf)|(refine Obl.mk ⟨by omega,by omega,⟨by omega,by omega⟩⟩ ?_;conv=>whnf)|((with_reducible refine Tst.tt ?_);conv=>whnf)|((with_reducible refine Tst.ff ?_);conv=>whnf)|((with_reducible refine Tst.dec (fun _=>?_) (fun _=>?_))<;>first|(exfalso;omega)|(conv=>whnf))|((with_reducible refine Tst.not ?_))|(refine Wit.conv ⟨by omega,by omega⟩ ?_;conv=>whnf)|((with_reducible refine IdxV.nat Oo ?_);conv=>whnf)|((with_reducible refine IdxV.at_ 0 ?_ Od ?_);rfl;(conv=>whnf))|((with_reducible refine IdxV.at_ 1 ?_ Od ?_);rfl;(conv=>whnf))|((with_reducible refine IdxV.at_ 2 ?_ Od ?_);rfl;(conv=>whnf))|((with_reducible refine IdxV.at_ 3 ?_ Od ?_);rfl;(conv=>whnf))|((with_reducible refine SameW.mk rfl ?_);conv=>whnf)|((with_reducible refine Tst.beqT ?_))|((with_reducible refine Tst.beqF ?_))|(refine Tst.yes rfl ?_;conv=>whnf)|(refine Tst.no rfl ?_;conv=>whnf)));refine LoadV.mem (Mem.call (Mem.drew hm) hd.ext) (i:=0) rfl rfl ?_;(conv=>whnf);exact ⟨ExtE.refl _,rfl⟩);(conv=>whnf));apply StepE.still
 ·intro wd hd;(conv=>whnf);refine zcv (qfb a.lang b.lang wd) ?_;rintro v w7 ⟨rfl,rfl⟩;exact ⟨ExtE.refl _,rfl⟩
 (conv=>whnf);apply StepE.of (fun v wx=>∃ nb,v=.slice (some ⟨nb,0,none⟩) 4 4∧wx.heap[nb]?=some (.cells #[ii (intC a.kind b.kind),ii (txtC a.text b.text),ii (txtC a.type b.type),ii (txtC a.lang b.lang)] 3)) (fun _ _ _ h he=>let ⟨nb,h1,h2⟩:=h;⟨nb,h1,he.ext.get h2⟩)
 ·intro wd hd;(conv=>whnf);refine ⟨fun nb wx hb hw=>?_⟩;subst hb hw;(conv=>whnf);exact ⟨(ExtE.refl wd).alloc _,_,rfl,heap_alloc_new wd _⟩
 (conv=>whnf);apply StepE.still
 ·intro wd hd;(conv=>whnf);rintro v ⟨nb,rfl,hn⟩;(conv=>whnf);refine zcv (qqy _ _ _ _ nb wd hn) ?_;rintro v w7 ⟨rfl,rfl⟩;rw [qxn];exact ⟨ExtE.refl _,rfl⟩
 (conv=>whnf);(apply StepE.still;(· intro wd hd;(conv=>whnf);(repeat (intro _ _;(conv=>whnf)));(first|exact ⟨ExtE.refl _,rfl⟩|((repeat' (first|(refine Obl.mk ⟨by omega,by omega⟩ ?_;conv=>whnf)|(refine Obl.mk ⟨by omega,by omega,⟨by omega,by omega⟩⟩ ?_;conv=>whnf)|((with_reducible refine Tst.tt ?_);conv=>whnf)|((with_reducible refine Tst.ff ?_);conv=>whnf)|((with_reducible refine Tst.dec (fun _=>?_) (fun _=>?_))<;>first|(exfalso;omega)|(conv=>whnf))|((with_reducible refine Tst.not ?_))|(refine Wit.conv ⟨by omega,by omega⟩ ?_;conv=>whnf)|((with_reducible refine IdxV.nat Oo ?_);conv=>whnf)|((with_reducible refine IdxV.at_ 0 ?_ Od ?_);rfl;(conv=>whnf))|((with_reducible refine IdxV.at_ 1 ?_ Od ?_);rfl;(conv=>whnf))|((with_reducible refine IdxV.at_ 2 ?_ Od ?_);rfl;(conv=>whnf))|((with_reducible refine IdxV.at_ 3 ?_ Od ?_);rfl;(conv=>whnf))|((with_reducible refine SameW.mk rfl ?_);conv=>whnf)|((with_reducible refine Tst.beqT ?_))|((with_reducible refine Tst.beqF ?_))|(refine Tst.yes rfl ?_;conv=>whnf)|(refine Tst.no rfl ?_;conv=>whnf)));exact ⟨ExtE.refl _,rfl⟩)));(conv=>whnf));intro wd hd;conv=>whnf
 (repeat (intro _ _;(conv=>whnf)))
 exact ⟨rfl,(hx.trans (ExtE.drew w2)).trans hd⟩
theorem qxo (a:TM):cmpT a a=0:=qbh.2 rfl
theorem swoT:Sort.SWO (ltOf cmpT) where
 irrefl x:=by rw [ltOf,qxo];rfl
 trans x y z h1 h2:=by
  rw [ltOf,decide_eq_true_iff,qbi] at *;exact h1.trans h2
 ntrans x y z h1 h2:=by
  rw [ltOf,decide_eq_false_iff_not,qbi] at *;intro h3
  rcases LtT.tri x y with h|h|h
  ·exact h1 h
  ·subst h;exact h2 h3
  ·exact h2 (h.trans h3)
theorem q3l (g n:Nat) (w:World):CmpLays Tryz.prog 68 #[] encT 4 cmpT g 0 n w:=by
 intro m os dk _ x y;refine (qn7 x y _).2.mono ?_;rintro e w' ⟨v,rfl,rfl,he⟩;exact ⟨rfl,he.grow⟩
theorem q61 (args:Array Value) (w:World):(callFunc 68 args).run Tryz.prog w=.ok (.enter 68 args) w:=enters_of Tryz.func68 Ok rfl args w
theorem qwl (T:List TM) (A:oA) (n c:Nat) (w:World) (hS:SlAt encT 4 w A T) (hn:T.length=n) (hl:n≤1000000000000) :
  Gv Tryz.prog 207 [.slice A n c] w fun r w'=>∃ A' c',r=.slice A' n c'∧Ext w w'∧w'.ownsRow w.heap.size 24 4 (.slice A' n c') n (T.map encT).flatten:=by
 subst hn;cases A with
 | none=>
  have h0:T=[]:=by
   cases T with
   | nil=>rfl
   | cons x r=>obtain ⟨b,off,h0,_⟩:=hS.at_ Js;cases h0
  subst h0;refine gv Ok Tryz.func207 rfl Tryz.ntmps207 rfl (zw ?_)
  (repeat' (first
   | (refine Obl.mk ⟨by omega,by omega⟩ ?_;conv=>whnf)
   | (refine Obl.mk ⟨by omega,by omega,⟨by omega,by omega⟩⟩ ?_;conv=>whnf)
   | ((with_reducible refine Tst.tt ?_);conv=>whnf)
   | ((with_reducible refine Tst.ff ?_);conv=>whnf)
   | ((with_reducible refine Tst.dec (fun _=>?_) (fun _=>?_))<;>first|(exfalso;omega)|(conv=>whnf))
   | ((with_reducible refine Tst.not ?_))
   | (refine Wit.conv ⟨by omega,by omega⟩ ?_;conv=>whnf)
   | ((with_reducible refine IdxV.nat Oo ?_);conv=>whnf)|((with_reducible refine IdxV.at_ 0 ?_ Od ?_);rfl;(conv=>whnf))|((with_reducible refine IdxV.at_ 1 ?_ Od ?_);rfl;(conv=>whnf))|((with_reducible refine IdxV.at_ 2 ?_ Od ?_);rfl;(conv=>whnf))|((with_reducible refine IdxV.at_ 3 ?_ Od ?_);rfl;(conv=>whnf))
   | ((with_reducible refine SameW.mk rfl ?_);conv=>whnf)
   | (refine LoadV.mem (i:=0) Oa rfl rfl ?_;conv=>whnf)
   | (refine LoadV.mem (i:=1) Oa rfl rfl ?_;conv=>whnf)
   | (refine LoadV.mem (i:=2) Oa rfl rfl ?_;conv=>whnf)
   | ((with_reducible refine Tst.beqT ?_))
   | ((with_reducible refine Tst.beqF ?_))
   | (refine Tst.yes rfl ?_;conv=>whnf)
   | (refine Tst.no rfl ?_;conv=>whnf)))
  exact ⟨none,0,rfl,Ext.refl w,World.ownsRow_nil _ _ _ _⟩
 | some a=>
  refine gv Ok Tryz.func207 rfl Tryz.ntmps207 rfl (zw ?_)
  (repeat' (first
   | (refine Obl.mk ⟨by omega,by omega⟩ ?_;conv=>whnf)
   | (refine Obl.mk ⟨by omega,by omega,⟨by omega,by omega⟩⟩ ?_;conv=>whnf)
   | ((with_reducible refine Tst.tt ?_);conv=>whnf)
   | ((with_reducible refine Tst.ff ?_);conv=>whnf)
   | ((with_reducible refine Tst.dec (fun _=>?_) (fun _=>?_))<;>first|(exfalso;omega)|(conv=>whnf))
   | ((with_reducible refine Tst.not ?_))
   | (refine Wit.conv ⟨by omega,by omega⟩ ?_;conv=>whnf)
   | ((with_reducible refine IdxV.nat Oo ?_);conv=>whnf)|((with_reducible refine IdxV.at_ 0 ?_ Od ?_);rfl;(conv=>whnf))|((with_reducible refine IdxV.at_ 1 ?_ Od ?_);rfl;(conv=>whnf))|((with_reducible refine IdxV.at_ 2 ?_ Od ?_);rfl;(conv=>whnf))|((with_reducible refine IdxV.at_ 3 ?_ Od ?_);rfl;(conv=>whnf))
   | ((with_reducible refine SameW.mk rfl ?_);conv=>whnf)
   | (refine LoadV.mem (i:=0) Oa rfl rfl ?_;conv=>whnf)
   | (refine LoadV.mem (i:=1) Oa rfl rfl ?_;conv=>whnf)
   | (refine LoadV.mem (i:=2) Oa rfl rfl ?_;conv=>whnf)
   | ((with_reducible refine Tst.beqT ?_))
   | ((with_reducible refine Tst.beqF ?_))
   | (refine Tst.yes rfl ?_;conv=>whnf)
   | (refine Tst.no rfl ?_;conv=>whnf)))
  refine ⟨fun nb w1 hnb hw=>?_⟩;have he:Ext w w1:=by rw [hw];exact (Ext.refl w).alloc _
  have hc:w1.heap[nb]?=some (.cells #[] 24):=by rw [hw,hnb];exact heap_alloc_new w _
  have ho:w1.ownsRow w.heap.size 24 4 (.slice (some ⟨nb,0,none⟩) 0 0) 0 []:=⟨rfl,.inr ⟨nb,0,#[],rfl,by omega,hc,Nat.le_refl _,Nat.zero_le _,rfl,rfl⟩⟩
  have hfl:=qa4 encT 4 q6 T;(conv=>whnf);refine AppV.own (news:=(T.map encT).flatten) qf0 trmI trmZ Ok Ok Od ho he.size hfl (fun hne=>?_) (fun u hu=>?_) (by rw [show ((Tryz.prog.info? 24).get Ok).bytes=56 from by kernel_rfl];omega) Oo ?_
  ·obtain ⟨b,off,h1,h2⟩:=(hS.ext he).at_ (by rintro rfl;exact hne rfl);exact ⟨b,off,h1,qds Od q6 h2⟩
  ·obtain ⟨l,hl1,hl2⟩:=List.mem_flatten.1 hu;obtain ⟨t,_,rfl⟩:=List.mem_map.1 hl1;exact qq t u hl2
  ·intro v' w2 ho2 hg _;have ho2:w2.ownsRow w.heap.size 24 4 v' T.length (T.map encT).flatten:=by rw [Nat.zero_add] at ho2;exact ho2
   obtain ⟨A',c',rfl⟩:=q8 ho2;(conv=>whnf);refine ⟨A',c',rfl,(Chn.grown hg).ext he fun k hk=>?_,ho2⟩;rw [List.mem_singleton.1 hk,hnb];exact Nat.le_refl _
theorem qpx (A:oA) (n c:Nat) (hc:n≤c) (hA:A=none∨∃ g o,A=some ⟨g,o,none⟩) (w:World):Gv Tryz.prog 209 [.slice A n c] w fun v w'=>v=.slice A n n∧w'=w:=by
 refine gv Ok Tryz.func209 rfl Tryz.ntmps209 rfl (zw ?_)
 (repeat' (first
   | (refine Obl.mk ⟨by omega,by omega⟩ ?_;conv=>whnf)
   | (refine Obl.mk ⟨by omega,by omega,⟨by omega,by omega⟩⟩ ?_;conv=>whnf)
   | ((with_reducible refine Tst.tt ?_);conv=>whnf)
   | ((with_reducible refine Tst.ff ?_);conv=>whnf)
   | ((with_reducible refine Tst.dec (fun _=>?_) (fun _=>?_))<;>first|(exfalso;omega)|(conv=>whnf))
   | ((with_reducible refine Tst.not ?_))
   | (refine Wit.conv ⟨by omega,by omega⟩ ?_;conv=>whnf)
   | ((with_reducible refine IdxV.nat Oo ?_);conv=>whnf)|((with_reducible refine IdxV.at_ 0 ?_ Od ?_);rfl;(conv=>whnf))|((with_reducible refine IdxV.at_ 1 ?_ Od ?_);rfl;(conv=>whnf))|((with_reducible refine IdxV.at_ 2 ?_ Od ?_);rfl;(conv=>whnf))|((with_reducible refine IdxV.at_ 3 ?_ Od ?_);rfl;(conv=>whnf))
   | ((with_reducible refine SameW.mk rfl ?_);conv=>whnf)
   | (refine LoadV.mem (i:=0) Oa rfl rfl ?_;conv=>whnf)
   | (refine LoadV.mem (i:=1) Oa rfl rfl ?_;conv=>whnf)
   | (refine LoadV.mem (i:=2) Oa rfl rfl ?_;conv=>whnf)
   | ((with_reducible refine Tst.beqT ?_))
   | ((with_reducible refine Tst.beqF ?_))
   | (refine Tst.yes rfl ?_;conv=>whnf)
   | (refine Tst.no rfl ?_;conv=>whnf)))
 refine ⟨0,n,n,rfl,rfl,rfl,Nat.zero_le _,Nat.le_refl _,hc,fun _=>rfl,fun A' e=>?_⟩;have e2:A'=A:=by
  rw [e]
  split
  ·rfl
  ·rcases hA with rfl|⟨g,o,rfl⟩
   ·rfl
   ·simp [Addr.add]
 subst e2;(conv=>whnf);exact ⟨rfl,rfl⟩
theorem qyd (d:Array TM) (i:Nat):d[i]! = tmA d.toList i:=by
 rw [tmA,List.getD_eq_getElem?_getD,Array.getElem?_toList]
 by_cases h:i<d.size
 ·rw [getElem!_pos d i h,Array.getElem?_eq_getElem h];rfl
 ·rw [getElem!_neg d i h,Array.getElem?_eq_none Oo];rfl
theorem q0u (Y:List TM) (A:oA) (c base:Nat) (w:World) (h:w.ownsRow base 24 4 (.slice A Y.length c) Y.length (Y.map encT).flatten) (hl:Y.length≤1000000000000) :
  Gv Tryz.prog 208 [.slice A Y.length c,.func (.func 68) #[] #[]] w fun r w'=>r=.tuple #[]∧∃ Y',Y'.Perm Y∧AscT Y'∧w'.ownsRow base 24 4 (.slice A Y.length c) Y.length (Y'.map encT).flatten∧Chn (rowF (.slice A Y.length c)) w w':=by
 rcases h.2 with ⟨e1,e2⟩|⟨g,cap,cur,e1,hb,hg,hn,hcm,hcs,htk⟩
 ·have h0:Y=[]:=List.eq_nil_of_length_eq_zero e2;subst h0;cases e1;refine qfj Ok ((AnyF.slices_SortFunc_none { Tryz.srt with } none 0 (.func (.func 68) #[] #[]) w).mono ?_);rintro e w' ⟨rfl,rfl⟩;exact ⟨_,rfl,rfl,[],List.Perm.refl _,(fun i j _ hj=>by simp at hj),h,Chn.refl _ _⟩
 ·cases e1;have hlt:=qa5 hg;refine qfj Ok ((AnyQ.slices_SortFunc Tryz.srt 4 Tryz.isAgg24 Tryz.sizeOf24 encT q6 (fun x v hv=>qq x v hv) cmpT swoT 68 #[] g 0 c Y.toArray w q61 (q3l g _ w) (q0b q6 Od hg (by rw [htk])) hlt Ys).mono ?_);rintro e w' ⟨rfl,d',n,os,⟨p1,_,p3⟩,hs,rfl⟩;have hz:d'.size=Y.length:=by simpa using p1
  obtain ⟨cur',r1,r2,r3⟩:=qno (m:=n) (os:=os) (d:=d') q6 Od hg (by rw [hz];omega);have hp:d'.toList.Perm Y:=by
   have e3:(d'.extract 0 Y.toArray.size).toList=d'.toList:=by
    rw [Array.toList_extract];simp [List.extract];exact List.take_of_length_le (by simp [hz])
   have e4:(Y.toArray.extract 0 Y.toArray.size).toList=Y:=by simp
   rw [e3,e4] at p3;exact p3
  refine ⟨_,rfl,rfl,d'.toList,hp,fun i j hij hj=>?_,⟨by rw [qa4 encT 4 q6];simp [hz],.inr ⟨g,c,cur',rfl,hb,r1,hn,hcm,by rw [r2,hcs],by rw [← hz];exact r3⟩⟩,?_⟩
  ·have h1:=hs i j (Nat.zero_le _) hij (by simpa [hz] using hj);rw [ltOf,decide_eq_false_iff_not,qbi,qyd,qyd] at h1;exact h1
  ·exact qnn w g n d' os hlt
namespace V
theorem qhz {w:World} {b:Nat} {cur cs:Array Value} {t:TypeId} (hg:w.heap[b]?=some (.cells cur t)):Chn [b] w (w.setRow b cs)∧(w.setRow b cs).heap[b]?=some (.cells cs t):=
 ⟨⟨rfl,rfl,rfl,by simp [World.setRow],fun k _ hn=>qu fun e=>hn (by rw [e];exact List.mem_singleton.2 rfl)⟩,qcq hg⟩
theorem StoreA.blk {P:Program} {w:World} {b off:Nat} {cur:Array Value} {t:TypeId} {vs:List Value} {K:World→Prop} (hg:w.heap[b]?=some (.cells cur t)) (hl:off+vs.length≤cur.size) (h1:∀ v∈vs,v.oneCell'=true)
  (hk:∀ w',Chn [b] w w'→w'.heap[b]?=some (.cells (cur.toList.take off++vs++cur.toList.drop (off+vs.length)).toArray t)→K w'):StoreA P w b off vs K:=by
 have hr:=run_storeCells_at P b off t vs 0 cur w hg (by simpa using hl) h1;simp only [Nat.add_zero] at hr;obtain ⟨h2,h3⟩:=qhz (cs:=(cur.toList.take off++vs++cur.toList.drop (off+vs.length)).toArray) hg;exact ⟨_,hr,hk _ h2 h3⟩
theorem Fall.clear {P:Program} {ρ:Nat→Value} {o:Oper} {c:Call} {w:World} {K:Value→World→Prop} {a:Value} (ho:o.op=.call c) (hc:c.callee=.builtin .clear) (hv:evs ρ c.args.toList=[a]) (v:Value) (w':World)
  (hrun:(Builtin.clear_ c.argTypes o.type #[a]).run P w=.ok v w') (hk:K v w'):Fall P (execOp (ev ρ) o) w K:=by
 have he:execOp (ev ρ) o=(do pure (.value (← Builtin.clear_ c.argTypes o.type (c.args.map (ev ρ))))):=by
  simp only [execOp,ho,resolve,hc];rfl
 have hv':c.args.map (ev ρ)=#[a]:=by
  rw [qc0] at hv;rw [← Array.toList_inj];simpa using hv
 rw [he,hv'];exact ⟨.inl ⟨v,w',by rw [Sem.run_bind,hrun];rfl,hk⟩⟩
theorem qwb {P:Program} {w:World} {b off n c:Nat} {cur:Array Value} {t e et ty:TypeId} {i:TypeInfo} {z:Value} {k:Nat} (ht:P.underlying t=some (.slice e)) (hi:P.info? e=some i) (hz:i.zero=some z) (hzs:z.cells.size=k) (h1:∀ v∈z.cells.toList,v.oneCell'=true) (hk:0<k)
  (hg:w.heap[b]?=some (.cells cur et)) (hn:0<n) (hl:off+n*k≤cur.size) :
  ∃ zs:List Value,zs.length=n*k∧(Builtin.clear_ #[t] ty #[.slice (some ⟨b,off,none⟩) n c]).run P w=.ok (.tuple #[]) (w.setRow b (cur.toList.take off++zs++cur.toList.drop (off+zs.length)).toArray):=by
 refine ⟨(Builtin.zeroCells z.cells n).toList,by simp [Builtin.zeroCells,hzs],?_⟩;have hone:∀ v∈(Builtin.zeroCells z.cells n).toList,v.oneCell'=true:=by
  intro v hv;simp only [Builtin.zeroCells,Array.toList_map,List.mem_map] at hv;obtain ⟨j,hj,rfl⟩:=hv;have hj2:j%z.cells.size<z.cells.size:=Nat.mod_lt _ Oo;rw [getElem!_pos z.cells _ hj2];exact h1 _ Js
 have hst:=run_storeCells_at P b off et (Builtin.zeroCells z.cells n).toList 0 cur w hg (by simp [Builtin.zeroCells,hzs];omega) hone;simp only [Nat.add_zero] at hst;have hze:(zeroValue e).run P w=.ok z w:=by simp [zeroValue,typeInfo,hi,hz]
 obtain ⟨m,rfl⟩:∃ m,n=m+1:=⟨n-1,by omega⟩
 simp [Builtin.clear_,run_underlying ht,hze,hst]
end V
theorem qrn (Y:List TM) (k:Nat) (t:TM) (hk:k<Y.length):((Y.set k t).map encT).flatten=(Y.map encT).flatten.take (k*4)++encT t++(Y.map encT).flatten.drop (k*4+4):=by
 have h1:∀ (Z:List TM),((Z.map encT).flatten).length=Z.length*4:=qa4 encT 4 q6;have e1:Y=Y.take k++(Y[k]::Y.drop (k+1)):=by rw [← List.drop_eq_getElem_cons hk,List.take_append_drop]
 have l1:((Y.take k).map encT).flatten.length=k*4:=by rw [h1,List.length_take];congr 1;omega
 have e2:=congrArg (fun Z=>(List.map encT Z).flatten) e1;have e3:Y.set k t=Y.take k++(t::Y.drop (k+1)):=by rw [List.set_eq_take_append_cons_drop,if_pos hk]
 simp only [List.map_append,List.map_cons,List.flatten_append,List.flatten_cons] at e2;rw [e3];simp only [List.map_append,List.map_cons,List.flatten_append,List.flatten_cons];obtain ⟨P,eP⟩:∃ P,P=((Y.take k).map encT).flatten:=⟨_,rfl⟩
 obtain ⟨R,eR⟩:∃ R,R=((Y.drop (k+1)).map encT).flatten:=⟨_,rfl⟩
 rw [← eP] at l1;rw [← eP,← eR] at e2 ⊢;have hd:(P++(encT Y[k]++R)).drop (k*4+4)=R:=by
  rw [← List.append_assoc];exact List.drop_left' (by rw [zla,l1];rfl)
 rw [e2,List.take_left' l1,hd,List.append_assoc]
structure TRow (w:World) (g c:Nat) (Y:List TM):Prop where
 h:∃ cur,w.heap[g]?=some (.cells cur 24)∧Y.length≤c∧cur.size=c*4∧cur.toList.take (Y.length*4)=(Y.map encT).flatten
theorem TRow.at {w:World} {g c:Nat} {Y:List TM} (h:TRow w g c Y) {j:Nat} (hj:j<Y.length):CellsAt w g (j*4) (encT Y[j]):=by
 obtain ⟨cur,h1,h2,h3,h4⟩:=h.h;intro k v hv;have hk:k<4:=(List.getElem?_eq_some_iff.1 hv).1;rw [qa h1,← hv,← qb2 encT 4 q6 Y j Y[j] k (zge hj) hk,← h4,List.getElem?_take,if_pos Oo];simp
theorem TRow.set {w:World} {P:Program} {g c:Nat} {Y:List TM} (h:TRow w g c Y) {j:Nat} (hj:j<Y.length) (t:TM) {K:World→Prop} (hk:∀ w',Chn [g] w w'→TRow w' g c (Y.set j t)→K w'):StoreA P w g (j*4) (encT t) K:=by
 obtain ⟨cur,h1,h2,h3,h4⟩:=h.h;have hf:=qa4 encT 4 q6 Y;refine StoreA.blk h1 (by rw [q6];omega) (qq t) fun w' hc hg=>hk w' hc ⟨⟨_,hg,by rw [List.length_set];exact h2,?_,?_⟩⟩
 ·simp [q6];omega
 ·rw [List.length_set,qrn Y j t hj,q6,← h4];have hcl:cur.toList.length=c*4:=by simpa using h3
  rw [List.take_take,Nat.min_eq_left Oo,List.drop_take];rw [List.take_append,List.take_of_length_le (by rw [zla,List.length_take,q6];omega)]
  congr 2
  rw [zla,List.length_take,q6,Nat.min_eq_left Oo]
theorem TRow.cut {w:World} {g c:Nat} {Y:List TM} (h:TRow w g c Y) (m:Nat):TRow w g c (Y.take m):=by
 obtain ⟨cur,h1,h2,h3,h4⟩:=h.h;refine ⟨⟨cur,h1,by rw [List.length_take];omega,h3,?_⟩⟩;have hf:=qa4 encT 4 q6 (Y.take m);have e:=congrArg (fun Z=>(List.map encT Z).flatten) (List.take_append_drop m Y).symm;simp only [List.map_append,List.flatten_append] at e;have h5:=congrArg (List.take ((Y.take m).length*4)) h4;rw [List.take_take,Nat.min_eq_left (Nat.mul_le_mul_right _ (by rw [List.length_take];omega)),e,List.take_left' hf] at h5;exact h5
theorem TRow.sl {w:World} {g c:Nat} {Y:List TM} (h:TRow w g c Y):SlAt encT 4 w (some ⟨g,0,none⟩) Y:=
 ⟨fun _=>⟨g,0,rfl,fun j x hx=>by
  obtain ⟨h1,rfl⟩:=List.getElem?_eq_some_iff.1 hx;rw [Nat.zero_add];exact h.at h1⟩⟩
theorem TRow.ext {w w':World} {g c:Nat} {Y:List TM} (h:TRow w g c Y) (he:Ext w w'):TRow w' g c Y:=by
 obtain ⟨cur,h1,h2⟩:=h.h;exact ⟨⟨cur,he.get h1,h2⟩⟩
def CmpR (X:List TM) (g:Nat) (w w':World) (r:Value):Prop:=∃ c,r=.slice (some ⟨g,0,none⟩) (unqN X X.length).length c∧(unqN X X.length).length≤c∧SlAt encT 4 w' (some ⟨g,0,none⟩) (unqN X X.length)∧Chn [g] w w'
theorem q9i:∀ v∈((((Tryz.prog.info? 24).get Ok).zero).get Ok).cells.toList,v.oneCell'=true:=List.all_eq_true.1 Ok
theorem qpy (X:List TM) (g n c:Nat) (w:World) (h:TRow w g c X) (hn:X.length=n) (hl:n≤1000000000000) :
  Gv Tryz.prog 210 [.slice (some ⟨g,0,none⟩) n c] w fun r w'=>CmpR X g w w' r:=by
 have hnc:n≤c:=by obtain ⟨cur,_,h2,_⟩:=h.h;omega
 refine ze Tryz.func210 Tryz.ntmps210 ?_;refine zC (fun _=>zw ?_) (fun _=>zw ?_)
 ·have hu:unqN X X.length=X:=by
   rw [qg1 znr (fun i h0 hi=>by omega),List.take_length]
  exact ⟨c,by rw [hu,hn],by rw [hu];omega,by rw [hu];exact h.sl,Chn.refl _ _⟩
 ·refine qe (fun i:Nat=>[(0,.slice (some ⟨g,0,none⟩) n c),(3,ii (i+1:Nat))]) (fun i w'=>i+1≤n∧(∀ j,0<j→j<i+1→qck (tmA X j) (tmA X (j-1))=false)∧Ext w w') (fun i=>n-i) 0 ⟨rfl,rfl,trivial⟩ ⟨by omega,fun j h0 hj=>by omega,Ext.refl w⟩ ?_;rintro i w1 ρ' ⟨i1,i2,he⟩;have hr:=h.ext he;(conv=>whnf);refine zC (fun _=>zw ?_) (fun _=>zw ?_)
  ·have hi:i+1<X.length:=by omega
   have c1:=(hr.at hi).ext (Ext.refl w1).drew;have c0:=(hr.at (show i<X.length by omega)).ext (Ext.refl w1).drew;refine zy ?_;refine zv ?_;refine ⟨⟨g,0,i+1,rfl,by omega,by omega,?_⟩⟩;rw [show tsz Tryz.prog 24=4 from by kernel_rfl,Nat.zero_add];refine zu ?_;refine LoadA.cells c1 rfl (zu ?_);refine ⟨⟨g,0,i,rfl,by omega,by omega,?_⟩⟩;rw [show tsz Tryz.prog 24=4 from by kernel_rfl,Nat.zero_add];refine zu ?_;refine LoadA.cells c0 rfl (zu ?_);refine RunV.eqTerm (a:=X[i+1]) (b:=X[i]) (.inl rfl) ?_;have ht1:tmA X (i+1)=X[i+1]:=qkb hi;have ht0:tmA X (i+1-1)=X[i]:=qkb (i:=i) Oo;have he:=he.drew;have hr:=h.ext he;cases hs:qck X[i+1] X[i]
   ·refine zu ?_;refine ⟨i+1,⟨rfl,congrArg (Value.int .i64) Oo,trivial⟩,⟨by omega,fun j h0 hj=>?_,he⟩,by omega⟩
    by_cases e:j=i+1
    ·subst e;rw [ht1,ht0];exact hs
    ·exact i2 j h0 Oo
   ·have hu:unqN X (i+1)=X.take (i+1):=qg1 Oo i2;have hu2:unqN X (i+2)=unqN X (i+1):=qp2 Oo (by rw [ht1,ht0];exact hs);have hul:(unqN X (i+1)).length=i+1:=by rw [hu,List.length_take];omega
    refine zu ?_;refine ⟨i+1,n,c,by show ((i+1:Nat):Int)=_;rfl,rfl,rfl,by omega,hnc,Nat.le_refl _,(fun h=>(by cases h)),fun A' hA=>?_⟩;rw [if_neg Oo] at hA;have hA:A'=some ⟨g,(i+1)*4,none⟩:=by
     rw [hA,show tsz Tryz.prog 24=4 from by kernel_rfl];show some (Addr.add _ _)=_;rw [qad,Nat.zero_add]
    subst hA;(conv=>whnf);refine qe (fun q:Nat=>[(0,.slice (some ⟨g,0,none⟩) n c),(3,ii (unqN X (i+2+q)).length),(4,.slice (some ⟨g,(i+1)*4,none⟩) (n-(i+1)) (c-(i+1))),(5,ii (q+1:Nat))])
     (fun q w'=>i+2+q≤n∧(unqN X (i+2+q)).length≤i+1+q∧Chn [g] w w'∧∃ Y:List TM,TRow w' g c Y∧Y.length=n∧Y.take (unqN X (i+2+q)).length=unqN X (i+2+q)∧∀ j,i+1+q≤j→tmA Y j=tmA X j) (fun q=>n-q) 0
     ⟨rfl,congrArg (fun n:Nat=>ii n) (show i+1=(unqN X (i+2+0)).length by rw [Nat.add_zero,hu2,hul]),rfl,rfl,trivial⟩ ⟨by omega,by rw [Nat.add_zero,hu2,hul];omega,Chn.of _ he,X,hr,hn,by rw [Nat.add_zero,hu2,hul,hu],fun j _=>rfl⟩ ?_
    rintro q w2 ρ2 ⟨q1,q2,hch,Y,hY,hYn,hYt,hYj⟩;obtain ⟨k,ek⟩:∃ k,k=(unqN X (i+2+q)).length:=⟨_,rfl⟩
    rw [← ek] at q2 hYt ⊢;(conv=>whnf);refine zC (fun _=>zw ?_) (fun _=>zw ?_)
    ·have hp:i+2+q<Y.length:=by omega
     have d1:=(hY.at hp).ext (Ext.refl w2).drew;have d0:=(hY.at (show i+1+q<Y.length by omega)).ext (Ext.refl w2).drew;have hy1:Y[i+2+q]=tmA X (i+2+q):=by rw [← hYj _ Oo,qkb hp]
     have hy0:Y[i+1+q]=tmA X (i+2+q-1):=by rw [show i+2+q-1=i+1+q by omega,← hYj _ Oo,qkb Oo]
     refine zy ?_;refine zv ?_;refine ⟨⟨g,(i+1)*4,q+1,rfl,by omega,by omega,?_⟩⟩;rw [show tsz Tryz.prog 24=4 from by kernel_rfl,show (i+1)*4+(q+1)*4=(i+2+q)*4 by omega];refine zu ?_;refine LoadA.cells d1 rfl (zu ?_);refine ⟨⟨g,(i+1)*4,q,rfl,by omega,by omega,?_⟩⟩;rw [show tsz Tryz.prog 24=4 from by kernel_rfl,show (i+1)*4+q*4=(i+1+q)*4 by omega];refine zu ?_;refine LoadA.cells d0 rfl (zu ?_);refine RunV.eqTerm (a:=Y[i+2+q]) (b:=Y[i+1+q]) (.inr rfl) ?_;have hch:=hch.trans (Chn.of _ (Ext.refl w2).drew);have hY:=hY.ext (Ext.refl w2).drew;have e3:i+2+(q+1)=i+2+q+1:=by omega
     cases hs2:qck Y[i+2+q] Y[i+1+q]
     ·have hq2:unqN X (i+2+q+1)=unqN X (i+2+q)++[tmA X (i+2+q)]:=qul (by rw [← hy1,← hy0];exact hs2);have hq3:(unqN X (i+2+q+1)).length=k+1:=by rw [hq2,zla,← ek];rfl
      refine zu ?_;refine ⟨⟨g,(i+1)*4,q+1,rfl,by omega,by omega,?_⟩⟩;rw [show tsz Tryz.prog 24=4 from by kernel_rfl,show (i+1)*4+(q+1)*4=(i+2+q)*4 by omega];(conv=>whnf);refine LoadA.cells d1 rfl (zw ?_);refine ⟨⟨g,0,k,rfl,rfl,by omega,?_⟩⟩;rw [show tsz Tryz.prog 24=4 from by kernel_rfl,Nat.zero_add];(conv=>whnf);refine hY.set Oo Y[i+2+q] ?_;intro w3 hc3 hY3;refine zu ?_;refine ⟨q+1,⟨rfl,by rw [e3,hq3];exact congrArg (Value.int .i64) Oo,rfl,congrArg (Value.int .i64) Oo,trivial⟩,⟨by omega,by rw [e3,hq3];omega,hch.trans hc3,_,hY3,by rw [List.length_set];exact hYn,?_,fun j hj=>?_⟩,by omega⟩
      ·rw [e3,hq3,hq2,← hYt,← hy1];rw [List.take_add_one,List.take_set_of_le znr,List.getElem?_set_self Oo];rfl
      ·rw [tmA,List.getD_eq_getElem?_getD,List.getElem?_set_ne Oo,← List.getD_eq_getElem?_getD];exact hYj j Oo
     ·have hq2:unqN X (i+2+q+1)=unqN X (i+2+q):=qp2 Oo (by rw [← hy1,← hy0];exact hs2);refine zu ?_;refine ⟨q+1,⟨rfl,congrArg (fun n:Nat=>ii n) (show k=(unqN X (i+2+(q+1))).length by rw [e3,hq2,← ek]),rfl,congrArg (Value.int .i64) Oo,trivial⟩,⟨by omega,by rw [e3,hq2,← ek];omega,hch,Y,hY,hYn,by rw [e3,hq2,← ek];exact hYt,fun j hj=>hYj j Oo⟩,by omega⟩
    ·have hp:i+2+q=n:=by omega
     have hkn:k<n:=by omega
     refine ⟨k,n,c,rfl,rfl,rfl,by omega,hnc,Nat.le_refl _,(fun h=>(by cases h)),fun A' hA=>?_⟩;rw [if_neg Oo] at hA;have hA:A'=some ⟨g,k*4,none⟩:=by
      rw [hA,show tsz Tryz.prog 24=4 from by kernel_rfl];show some (Addr.add _ _)=_;rw [qad,Nat.zero_add]
     subst hA;(conv=>whnf);obtain ⟨cur,r1,r2,r3,r4⟩:=(hY.cut k).h;obtain ⟨zs,hzl,hrun⟩:=qwb (P:=Tryz.prog) (w:=w2) (off:=k*4) (n:=n-k) (c:=c-k) (ty:=0) qf0 trmI trmZ Ok q9i (show 0<4 by decide) r1 Oo Oo;obtain ⟨hc3,hg3⟩:=qhz (cs:=(cur.toList.take (k*4)++zs++cur.toList.drop (k*4+zs.length)).toArray) r1;refine Fall.clear rfl rfl rfl _ _ hrun ?_;generalize w2.setRow g (cur.toList.take (k*4)++zs++cur.toList.drop (k*4+zs.length)).toArray=w3 at *;have hYl:(Y.take k).length=k:=by rw [List.length_take];omega
     have hcl:cur.toList.length=c*4:=by simpa using r3
     have hY3:TRow w3 g c (Y.take k):=⟨⟨_,hg3,r2,by simp;omega,by
      rw [hYl] at r4 ⊢;rw [List.toList_toArray,List.append_assoc,List.take_append_of_le_length (by rw [List.length_take];omega),List.take_of_length_le (by rw [List.length_take];omega)];exact r4⟩⟩
     rw [hYt] at hY3;have hun:unqN X X.length=unqN X (i+2+q):=by rw [hn,hp]
     (conv=>whnf);refine ⟨0,k,c,rfl,rfl,rfl,Nat.zero_le _,by omega,Nat.le_refl _,(fun h=>(by cases h)),fun A' hA=>?_⟩;have hA:A'=some ⟨g,0,none⟩:=by
      rw [hA]
      split
      ·rfl
      ·rw [show tsz Tryz.prog 24=4 from by kernel_rfl];show some (Addr.add _ _)=_;rw [qad]
     subst hA;(conv=>whnf);exact ⟨c,by rw [hun,← ek];rfl,by rw [hun,← ek];omega,by rw [hun];exact hY3.sl,hch.trans hc3⟩
  ·obtain rfl:i+1=n:=by omega
   have hu:unqN X X.length=X:=by rw [hn,qg1 Oo i2,← hn,List.take_length]
   exact ⟨c,by rw [hu,hn],by rw [hu];omega,by rw [hu];exact hr.sl,Chn.of _ he⟩
theorem qka (w:World):Gv Tryz.prog 210 [.slice none 0 0] w fun r w'=>r=.slice none 0 0∧w'=w:=by
 refine ze Tryz.func210 Tryz.ntmps210 ?_;refine zv ?_
 all_goals exact ⟨rfl,rfl⟩
theorem qrv (X:List TM) (A:oA) (n c:Nat) (w:World) (hS:SlAt encT 4 w A X) (hn:X.length=n) (hl:n≤1000000000000) :
  Gv Tryz.prog 149 [.slice A n c,.func (.func 68) #[] #[]] w fun r w'=>∃ Y:List TM,Y.Perm X∧AscT Y∧(∃ B,r=.slice B (unqN Y n).length (unqN Y n).length∧SlAt encT 4 w' B (unqN Y n)∧∀ k∈rowF (.slice B 0 0),w.heap.size≤k∧k<w'.heap.size)∧Ext w w':=by
 subst hn;refine ze Tryz.func149 Tryz.ntmps149 ?_;refine zcv (qwl X A _ c w hS rfl hl) ?_;rintro r w1 ⟨A1,c1,rfl,he1,ho1⟩;(conv=>whnf);refine zcv (q0u X A1 c1 w.heap.size w1 ho1 hl) ?_;rintro r w2 ⟨rfl,Y,hp,ha,ho2,hc2⟩;have hYl:=hp.length_eq;have he2:Ext w w2:=hc2.ext he1 fun k hk=>(qfl ho1 k hk).1
 (conv=>whnf)
 rcases ho2.2 with ⟨e1,e2⟩|⟨g,cap,cur,e1,hb,hg,hnc,hcm,hcs,htk⟩
 ·have h0:Y=[]:=List.eq_nil_of_length_eq_zero Oo;obtain rfl:X=[]:=List.eq_nil_of_length_eq_zero e2;subst h0;cases e1;refine zcv (qka w2) ?_;rintro r w3 ⟨rfl,rfl⟩;(conv=>whnf);refine zcv (qpx none 0 0 znr (.inl rfl) w3) ?_;rintro r w4 ⟨rfl,rfl⟩;(conv=>whnf);exact ⟨[],hp,ha,⟨none,rfl,⟨fun h=>absurd rfl h⟩,fun k hk=>by cases hk⟩,he2⟩
 ·cases e1;have hr:TRow w2 g c1 Y:=⟨⟨cur,hg,by omega,hcs,by rw [hYl];exact htk⟩⟩
  refine zcv (qpy Y g X.length c1 w2 hr hYl hl) ?_;rintro r w3 ⟨c3,rfl,hc3,hS3,hch⟩;rw [hYl] at hc3 hS3 ⊢;have he3:Ext w w3:=hch.ext he2 fun k hk=>by rw [List.mem_singleton.1 hk];exact hb
  (conv=>whnf);refine zcv (qpx (some ⟨g,0,none⟩) (unqN Y X.length).length c3 hc3 (.inr ⟨g,0,rfl⟩) w3) ?_;rintro r w4 ⟨rfl,rfl⟩;(conv=>whnf);exact ⟨Y,hp,ha,⟨some ⟨g,0,none⟩,rfl,hS3,fun k hk=>by rw [List.mem_singleton.1 hk];exact ⟨hb,Nat.lt_of_lt_of_le (qa5 hg) hch.size⟩⟩,he3⟩
theorem q0t (qs:List Q4) (A:oA) (n c:Nat) (w:World) (hS:SlAt q7 16 w A qs) (hn:qs.length=n) (hl:n≤4194304) :
  Gv Tryz.prog 96 [.slice A n c] w fun r w'=>∃ B,r=.slice B (tmsQ qs).length (tmsQ qs).length∧SlAt encT 4 w' B (tmsQ qs)∧(∀ k∈rowF (.slice B 0 0),w.heap.size≤k∧k<w'.heap.size)∧Ext w w':=by
 subst hn;refine ze Tryz.func96 Tryz.ntmps96 ?_;refine qe (fun x:Nat × List TM × oA × Nat=>[(0,.slice A qs.length c),(3,.slice x.2.2.1 x.2.1.length x.2.2.2),(6,.slice A qs.length c),(7,ii qs.length),(8,ii x.1)])
  (fun x w'=>x.1≤qs.length∧x.2.1=trms (qs.take x.1)∧Rw w w' (.slice x.2.2.1 x.2.1.length x.2.2.2) 24 4 x.2.1.length (x.2.1.map encT).flatten []) (fun x=>qs.length-x.1) (0,[],none,0)
  ⟨rfl,rfl,rfl,rfl,rfl,trivial⟩ ⟨by simp,rfl,Rw.nil (Mem.nil w)⟩ ?_
 rintro ⟨i,out,B,cb⟩ w1 ρ' ⟨h1,h2,hR⟩;dsimp only at h1 h2 hR ⊢;(conv=>whnf);refine zC (fun _=>zw ?_) (fun _=>zw ?_)
 ·have hil:i<qs.length:=by omega
  have hq:qs[i]?=some qs[i]:=zge hil;have hto:=qkd (qs.take i);rw [← h2,List.length_take,Nat.min_eq_left h1] at hto;refine ElemV.sl (hS.ext hR.mem.ext) rfl i rfl Oo ?_;intro eb eo hcell;(conv=>whnf);refine LoadA.cells hcell rfl (zw ?_);refine NewV.rw hR fun nb w2 hR=>zw ?_;refine StoreA.rwAll (vs:=q7 qs[i]) hR rfl (qct _) ?_;clear hR;intro w3 hR;have hR:Rw w w3 (.slice B out.length cb) 24 4 out.length (out.map encT).flatten [(nb,.cells (q7 qs[i]).toArray 26)]:=hR;obtain ⟨q,eq⟩:∃ q,q=qs[i]:=⟨_,rfl⟩
  rw [← eq] at hR hq;have hqc:CellsAt w3 nb 0 (q7 q):=CellsAt.mem hR.mem mh;(conv=>whnf);refine LoadA.cells (qi hqc 0 Od) rfl (zw ?_);refine LoadA.cells (qi hqc 1 Od) rfl (zw ?_);refine LoadA.cells (qi hqc 2 Od) rfl (zw ?_);refine NewV.rw hR fun nb2 w4 hR=>zw ?_;refine AppV.rw (m:=3) (news:=encT q.s++encT q.p++encT q.o) qf0 trmI trmZ Ok Ok Od hR rfl (fun _=>⟨nb2,0,rfl,fun k v hv=>?_⟩) (qod q) (by rw [show ((Tryz.prog.info? 24).get Ok).bytes=56 from by kernel_rfl];omega) Oo ?_
  ·rw [qa (hR.mem.get mh),Nat.zero_add];rw [List.getElem?_toArray];exact hv
  clear hR;intro B2 c2 w5 hR;obtain ⟨out3,eout⟩:∃ out3,out3=out++[q.s,q.p,q.o]:=⟨_,rfl⟩
  have el3:out3.length=out.length+3:=by rw [eout];simp
  have hR:Rw w w5 (.slice B2 out3.length c2) 24 4 out3.length (out3.map encT).flatten [(nb,.cells (q7 q).toArray 26)]:=by
   have e:(out3.map encT).flatten=(out.map encT).flatten++(encT q.s++encT q.p++encT q.o):=by rw [eout];simp
   rw [e,el3];exact hR.tail
  rw [← el3];have hqc:CellsAt w5 nb 0 (q7 q):=CellsAt.mem hR.mem mh;(conv=>whnf);refine LoadV.cell0 (qi hqc 3 Od) (zw ?_);refine zC (fun _=>zu ?_) (fun _=>zu ?_)
  ·have etr:out3++[q.g]=out++trQ q:=by rw [eout,trQ,if_neg (by show ¬ (q.at 3).kind=0;omega)];simp
   refine LoadA.cells (qi hqc 3 Od) rfl (zw ?_);refine NewV.rw hR fun nb3 w6 hR=>zw ?_;refine AppV.rw (m:=1) (news:=encT q.g) qf0 trmI trmZ Ok Ok Od hR rfl (fun _=>⟨nb3,0,rfl,fun k v hv=>?_⟩) (qq q.g) (by rw [show ((Tryz.prog.info? 24).get Ok).bytes=56 from by kernel_rfl];omega) Oo ?_
   ·rw [qa (hR.mem.get mh),Nat.zero_add];rw [List.getElem?_toArray];exact hv
   clear hR;intro B3 c3 w7 hR;have hR:Rw w w7 (.slice B3 (out++trQ q).length c3) 24 4 (out++trQ q).length ((out++trQ q).map encT).flatten []:=by
    have e:((out++trQ q).map encT).flatten=(out3.map encT).flatten++encT q.g:=by rw [← etr];simp
    rw [e,← etr,zla];exact hR.tail.tail
   refine zu ?_;refine ⟨(i+1,out++trQ q,B3,c3),⟨rfl,?_,rfl,rfl,rfl,trivial⟩,⟨by simp only;omega,?_,hR⟩,by simp only;omega⟩
   ·show Value.slice B3 (out3.length+1) c3=Value.slice B3 (out++trQ q).length c3;rw [← etr,zla];rfl
   ·show out++trQ q=trms (qs.take (i+1));rw [qgz qs i q hq,← h2]
  ·have etr:out3=out++trQ q:=by rw [eout,trQ,if_pos (by show (q.at 3).kind=0;omega)];simp
   refine ⟨(i+1,out3,B2,c2),⟨rfl,rfl,rfl,rfl,rfl,trivial⟩,⟨by simp only;omega,?_,hR.tail⟩,by simp only;omega⟩;show out3=trms (qs.take (i+1));rw [qgz qs i q hq,← h2,etr]
 ·obtain rfl:i=qs.length:=by omega
  rw [List.take_length] at h2;subst h2;have hle:=qkd qs;obtain ⟨o1,o2⟩:=qd3 q6 hR.own rfl;refine zcv (qrv (trms qs) B _ cb w1 o1 rfl Oo) ?_;rintro r w5 ⟨Y,hp,ha,⟨B5,rfl,hS5,hlo⟩,he5⟩;have hu:unqN Y (trms qs).length=tmsQ qs:=by rw [← hp.length_eq];exact q3o ha fun t=>hp.mem_iff
  rw [hu] at hS5 ⊢;(conv=>whnf);exact ⟨B5,rfl,hS5,fun k hk=>⟨Nat.le_trans hR.mem.ext.size (hlo k hk).1,(hlo k hk).2⟩,hR.mem.ext.trans he5⟩
def entA (t:TM):ByteArray:=⟨(qbv t).toArray⟩
def secA (T:List TM) (k:Nat):List ByteArray:=(T.filter fun t=>decide (t.kind=((k+1:Nat):Int))).map entA
theorem quc (T:List TM) (k:Nat):txs (secA T k)=secE T k:=by
 rw [txs,secA,secE,List.map_map];rfl
theorem qub {T:List TM} {t:TM} {k:Nat} (h:t.kind=((k+1:Nat):Int)):secA (T++[t]) k=secA T k++[entA t]:=by
 rw [secA,List.filter_append,List.map_append,List.filter_cons_of_pos (by simpa using h)];rfl
theorem qpn {T:List TM} {t:TM} {k:Nat} (h:t.kind≠((k+1:Nat):Int)):secA (T++[t]) k=secA T k:=by
 rw [secA,List.filter_append,List.map_append,List.filter_cons_of_neg (by simpa using h)];exact List.append_nil _
theorem qnj (T:List TM) (k:Nat):(secA T k).length≤T.length:=by
 rw [secA,List.length_map];exact List.length_filter_le _ _
def vocW (T:List TM):Nat→LB
 | 0=>[]
 | k+1=>vocW T k++varL (qh (secE T k)).length
theorem q05 (T:List TM):vocB T=((vocW T 3++qh (secE T 0))++qh (secE T 1))++qh (secE T 2):=by
 simp only [vocB,jo3,vocW,List.nil_append,List.append_assoc]
theorem V.SlAt.keep {α:Type} {enc:α→List Value} {size:Nat} {w w':World} {A:oA} {l:List α} (h:SlAt enc size w A l) (hk:∀ k∈rowF (.slice A 0 0),w'.heap[k]?=w.heap[k]?):SlAt enc size w' A l:=by
 refine ⟨fun hn=>?_⟩;obtain ⟨b,off,rfl,h4⟩:=h.at_ hn;refine ⟨b,off,rfl,fun j x hx k u hu=>?_⟩;have:=h4 j x hx k u hu;rw [← this,World.cell?_of_block];exact hk b (List.mem_singleton.2 rfl)
def vbF (xb tb:Nat) (V:Nat→Value) (B:oA):List (List Nat):=[[xb],[tb],rowF (V 0),rowF (V 1),rowF (V 2),rowF (.slice B 0 0)]
theorem q7c (xb tb:Nat) (V:Nat→Value) (B:oA) {k:Nat} (hk:k<3) (v:Value):(vbF xb tb V B).set (k+2) (rowF v)=vbF xb tb (updF V k v) B:=by
 rcases (show k=0∨k=1∨k=2 by omega) with rfl|rfl|rfl<;>rfl
theorem quw (xb tb:Nat) (V:Nat→Value) (B:oA) {k:Nat} (hk:k<3):(vbF xb tb V B)[k+2]?=some (rowF (V k)):=by
 rcases (show k=0∨k=1∨k=2 by omega) with rfl|rfl|rfl<;>rfl
def strV (L:List ByteArray):List Value:=L.map Value.string
def addL (L:Nat→List ByteArray) (k:Nat) (s:ByteArray):Nat→List ByteArray:=fun j=>if j=k then L k++[s] else L j
structure VbS (w w':World) (B:oA) (T:List TM) (xb tb:Nat) (t:TM) (U V:Nat→Value) (L:Nat→List ByteArray):Prop where
 sep:Sep w w' (vbF xb tb V B)
 tm:w'.heap[xb]?=some (.cells (encT t).toArray 24)
 tab:w'.heap[tb]?=some (.cells (fnA 3 U) 178)
 row:∀ j,j<3→w'.ownsRow 0 9 1 (V j) (L j).length (strV (L j))
 src:SlAt encT 4 w' B T
section
variable {w w1 w2:World} {B:oA} {T:List TM} {xb tb:Nat} {t:TM} {U V:Nat→Value} {L:Nat→List ByteArray}
theorem VbS.call (h:VbS w w1 B T xb tb t U V L) (he:Ext w1 w2):VbS w w2 B T xb tb t U V L:=
 ⟨h.sep.call he,he.get h.tm,he.get h.tab,fun j hj=>q9 (h.row j hj) he,h.src.ext he⟩
theorem VbS.app (h:VbS w w1 B T xb tb t U V L) {k:Nat} (hk:k<3) {s:ByteArray} {A:oA} {c:Nat} (ho:w2.ownsRow 0 9 1 (.slice A ((L k).length+1) c) ((L k).length+1) (strV (L k)++[.string s])) (hc:Chn (rowF (V k)) w1 w2)
  (hn:∀ j∈rowF (.slice A ((L k).length+1) c),(j∈rowF (V k)∨w1.heap.size≤j)∧j<w2.heap.size):VbS w w2 B T xb tb t U (updF V k (.slice A ((L k).length+1) c)) (addL L k s):=by
 have hs:=h.sep.row (i:=k+2) (quw xb tb V B hk) hc hn;refine ⟨by rw [← q7c xb tb V B hk];exact hs.sep,?_,?_,fun j hj=>?_,h.src.keep (hs.keep 5 _ rfl Oo)⟩
 ·rw [hs.keep 0 [xb] rfl Oo xb (List.mem_singleton.2 rfl)];exact h.tm
 ·rw [hs.keep 1 [tb] rfl Oo tb (List.mem_singleton.2 rfl)];exact h.tab
 ·by_cases e:j=k
  ·subst e;rw [qb6,addL,if_pos rfl,zla,strV,List.map_append];exact ho
  ·rw [qbk _ _ _ _ e,addL,if_neg e];exact qo (h.row j hj) fun i hi=>hs.keep (j+2) _ (quw xb tb V B hj) Oo i hi
theorem VbS.store (h:VbS w w1 B T xb tb t U V L) {k:Nat} (hk:k<3) {K:World→Prop} (h1:qbz (V k)=true) (hK:∀ w2,VbS w w2 B T xb tb t (updF U k (V k)) V L→K w2):StoreV w1 tb k (V k) K:=by
 refine StoreV.own h.tab (by rw [qn];exact hk) h1 fun w2 hw=>hK w2 ?_;obtain ⟨hc,hg⟩:=Chn.set h.tab hw;have hs:=h.sep.row (i:=1) (F':=[tb]) rfl hc fun j hj=>⟨.inl hj,by rw [List.mem_singleton.1 hj];exact qa5 hg⟩
 refine ⟨hs.sep,?_,by rw [hg,qdw],fun j hj=>qo (h.row j hj) fun i hi=>hs.keep (j+2) _ (quw xb tb V B hj) Oo i hi,h.src.keep (hs.keep 5 _ rfl Oo)⟩;rw [hs.keep 0 [xb] rfl Od xb (List.mem_singleton.2 rfl)];exact h.tm
end
def VbI (w w1:World) (B:oA) (T:List TM) (xb tb:Nat) (t:TM) (V:Nat→Value) (L:Nat→List ByteArray) (k:Nat) (s:ByteArray) (s7 s9 s10 s12:Bool) (v9 v10:Value) (w':World):Prop:=
 (s10=false∧s12=false∧Ext w1 w'∧VbS w w' B T xb tb t V V L∧(s9=true→∃ nb,v9=.slice (some ⟨nb,0,none⟩) 1 1∧w'.heap[nb]?=some (.cells #[.string s] 9)))∨
 (s9=true∧s10=true∧s12=false∧∃ A c,v10=.slice A ((L k).length+1) c∧VbS w w' B T xb tb t V (updF V k (.slice A ((L k).length+1) c)) (addL L k s))∨
 (s7=true∧s9=true∧s10=true∧s12=true∧∃ A c,VbS w w' B T xb tb t (updF V k (.slice A ((L k).length+1) c)) (updF V k (.slice A ((L k).length+1) c)) (addL L k s))
section
variable {w w1 w':World} {B:oA} {T:List TM} {xb tb:Nat} {t:TM} {V:Nat→Value} {L:Nat→List ByteArray} {k:Nat} {s:ByteArray} {s7 s9 s10 s12:Bool} {v9 v10:Value}
theorem VbI.tm (h:VbI w w1 B T xb tb t V L k s s7 s9 s10 s12 v9 v10 w'):w'.heap[xb]?=some (.cells (encT t).toArray 24):=by
 rcases h with ⟨_,_,_,h,_⟩|⟨_,_,_,_,_,_,h⟩|⟨_,_,_,_,_,_,h⟩
 all_goals exact h.tm
theorem VbI.tab (h:VbI w w1 B T xb tb t V L k s false s9 s10 s12 v9 v10 w'):w'.heap[tb]?=some (.cells (fnA 3 V) 178):=by
 rcases h with ⟨_,_,_,h,_⟩|⟨_,_,_,_,_,_,h⟩|⟨h,_⟩
 ·exact h.tab
 ·exact h.tab
 ·cases h
theorem VbI.seven (h:VbI w w1 B T xb tb t V L k s false s9 s10 s12 v9 v10 w'):VbI w w1 B T xb tb t V L k s true s9 s10 s12 v9 v10 w':=by
 rcases h with h|h|⟨h,_⟩
 ·exact .inl h
 ·exact .inr (.inl h)
 ·cases h
theorem VbI.nine (h:VbI w w1 B T xb tb t V L k s s7 false s10 s12 v9 v10 w') {w2:World} {b:Nat} (hb:b=w'.heap.size) (hw:w2=w'.alloc (.cells #[.string s] 9)):VbI w w1 B T xb tb t V L k s s7 true s10 s12 (.slice (some ⟨b,0,none⟩) 1 1) v10 w2:=by
 rcases h with ⟨h1,h2,h3,h4,_⟩|⟨h,_⟩|⟨_,h,_⟩
 ·have he:Ext w' w2:=by rw [hw];exact (Ext.refl w').alloc _
  exact .inl ⟨h1,h2,h3.trans he,h4.call he,fun _=>⟨b,rfl,by rw [hw,hb];exact heap_alloc_new w' _⟩⟩
 ·cases h
 ·cases h
theorem VbI.ten (h:VbI w w1 B T xb tb t V L k s s7 true false s12 v9 v10 w'):s12=false∧VbS w w' B T xb tb t V V L∧∃ nb,v9=.slice (some ⟨nb,0,none⟩) 1 1∧w'.heap[nb]?=some (.cells #[.string s] 9):=by
 rcases h with ⟨_,h2,_,h4,h5⟩|⟨_,h,_⟩|⟨_,_,h,_⟩
 ·exact ⟨h2,h4,h5 rfl⟩
 ·cases h
 ·cases h
theorem VbI.twelve (h:VbI w w1 B T xb tb t V L k s s7 s9 true false v9 v10 w'):s9=true∧∃ A c,v10=.slice A ((L k).length+1) c∧VbS w w' B T xb tb t V (updF V k (.slice A ((L k).length+1) c)) (addL L k s):=by
 rcases h with ⟨h,_⟩|⟨h1,_,_,h2⟩|⟨_,_,_,h,_⟩
 ·cases h
 ·exact ⟨h1,h2⟩
 ·cases h
theorem VbI.end_ (h:VbI w w1 B T xb tb t V L k s s7 s9 s10 true v9 v10 w'):∃ A c,VbS w w' B T xb tb t (updF V k (.slice A ((L k).length+1) c)) (updF V k (.slice A ((L k).length+1) c)) (addL L k s):=by
 rcases h with ⟨_,h,_⟩|⟨_,_,h,_⟩|⟨_,_,_,_,h⟩
 ·cases h
 ·cases h
 ·exact h
end
def VBuR (qs:List Q4) (w w':World) (r:Value):Prop:=
 (∃ e:Nat,e≠0∧e=(if valE qs≠0 then valE qs else if qcy (tmsQ qs)≠0 then qcy (tmsQ qs) else if 67108864<(vocB (tmsQ qs)).length then 1 else 0)∧r=.tuple #[.slice none 0 0,ii e]∧Ext w w')∨
 (valE qs=0∧qcy (tmsQ qs)=0∧(vocB (tmsQ qs)).length≤67108864∧∃ v,r=.tuple #[v,ii 0]∧NewS 5 w w' v (vocB (tmsQ qs)))
def vdF (F:List Nat) (ab:Nat) (U:Nat→Value) (i:Nat):List (List Nat):=F::[ab]::(List.range i).map fun j=>rowF (U j)
theorem q7d {w0 w w':World} {F:List Nat} {ab i:Nat} {U:Nat→Value} {v:Value} (h:Sep w0 w (vdF F ab U i)) (he:Ext w w') (hv:∀ k∈rowF v,w.heap.size≤k∧k<w'.heap.size):Sep w0 w' (vdF F ab (updF U i v) (i+1)):=by
 have h1:=(h.add he hv).perm (List.perm_append_singleton (rowF v) (vdF F ab U i)).symm;have e:vdF F ab U i++[rowF v]=vdF F ab (updF U i v) (i+1):=by
  simp only [vdF,List.range_succ,List.map_append,List.map_cons,List.map_nil,List.cons_append,qb6]
  congr 3
  exact List.map_congr_left fun j hj=>by rw [qbk _ _ _ _ (by have:=List.mem_range.1 hj;omega)]
 rw [← e];exact h1
theorem qp7 (F:List Nat) (ab:Nat) (U:Nat→Value) {i j:Nat} (h:j<i):(vdF F ab U i)[j+2]?=some (rowF (U j)):=by
 show ((List.range i).map fun j=>rowF (U j))[j]?=_;rw [List.getElem?_map,List.getElem?_range h];rfl
structure VdS (T:List TM) (w w':World) (b ab i:Nat) (U:Nat→Value):Prop where
 h:∃ F,Sep w w' (vdF F ab U i)∧BufAt w' b 67108864 (vocW T i) F∧w'.heap[ab]?=some (.cells (fnA 3 U) 127)∧∀ j,j<i→BS w' (U j) (qh (secE T j))
def vocX (T:List TM):Nat→LB
 | 0=>vocW T 3
 | k+1=>vocX T k++qh (secE T k)
theorem q3s (T:List TM):vocX T 3=vocB T:=(q05 T).symm
theorem qnr {qs:List Q4} (h:valE qs=0):(tmsQ qs).length≤4194304:=by
 have h1:=qkd qs;have h2:=qkc (trms qs).length (trms qs);have h3:=(qdm h).1;have h4:(tmsQ qs).length=(tmsN (trms qs).length (trms qs)).length:=rfl;omega
theorem qle {q:Q4} (h:qci q) {t:TM} (ht:t∈trQ q):TermOk t:=by
 unfold trQ at ht
 rcases List.mem_append.1 ht with ht|ht
 ·simp only [List.mem_cons,List.not_mem_nil,or_false] at ht
  rcases ht with rfl|rfl|rfl
  ·exact h 0
  ·exact h 1
  ·exact h 2
 ·split at ht
  ·cases ht
  ·simp only [List.mem_cons,List.not_mem_nil,or_false] at ht;subst ht;exact h 3
theorem CellsAt.heap {w:World} {b:Nat} {vs:List Value} {e:TypeId} (h:w.heap[b]?=some (.cells vs.toArray e)):CellsAt w b 0 vs:=by
 intro k v hv;rw [qa h,Nat.zero_add,List.getElem?_toArray];exact hv
theorem qe3 {L:List LB} (h:dicE L=0):(qh L).length≤70000000:=qoa (qi9 h).n (qi9 h).area
theorem qh1 {T:List TM}:∀ {i:Nat},i≤3→(∀ j,j<i→dicE (secE T j)=0)→(vocW T i).length≤10*i
 | 0,_,_=>Nat.le_refl _
 | i+1,h,hd=>by
  have h1:=qh1 (T:=T) (i:=i) Oo fun j hj=>hd j Oo
  have h2:=qe3 (hd i Oo);have h3:=qac 9 (qh (secE T i)).length Oo;rw [vocW,zla];omega
theorem q06 {T:List TM}:∀ {i:Nat},i≤3→(∀ j,j<3→dicE (secE T j)=0)→(vocX T i).length≤30+70000000*i
 | 0,_,hd=>by have:=qh1 (T:=T) (i:=3) Oo hd;rw [vocX];omega
 | i+1,h,hd=>by
  have h1:=q06 (T:=T) (i:=i) Oo hd;have h2:=qe3 (hd i Oo);rw [vocX,zla];omega
theorem qwo (qs:List Q4) (A:oA) (n c:Nat) (w:World) (hS:SlAt q7 16 w A qs) (hn:qs.length=n) (hb:n≤140737488355328) (hq:∀ q∈qs,qci q) (hM:MaxLenAt w) (hT:CellsAt w 6 0 qbt) :
  Gv Tryz.prog 55 [.slice A n c,ii 67108864] w fun r w'=>VBuR qs w w' r:=by
 refine ze Tryz.func55 Tryz.ntmps55 ?_;refine zcv (q04 qs A n c w hS hn hb hq hM hT) ?_;rintro r w1 ⟨⟨i0,rfl⟩,he1⟩
 by_cases hE:valE qs=0
 ·have hlq:=(qdm hE).1;have hNT:=qnr hE;have hTE:=fun t (ht:t∈tmsQ qs)=>qe0 hE ht
  have hTO:∀ t∈tmsQ qs,TermOk t:=fun t ht=>by
   obtain ⟨q,h1,h2⟩:=qgf.1 ht;exact qle (hq q h1) h2
  unfold VBuR;rw [if_neg (fun g=>g hE)];rw [hE];refine zu ?_;refine ⟨fun tb w2 htb hw2=>?_⟩;have h0:Sep w w1 [rowF (.slice none 0 0),rowF (.slice none 0 0),rowF (.slice none 0 0)]:=(((Sep.of he1).add (F:=rowF (.slice none 0 0)) (Ext.refl w1) (fun k hk=>by cases hk)).add (F:=rowF (.slice none 0 0)) (Ext.refl w1) (fun k hk=>by cases hk)).add (F:=rowF (.slice none 0 0)) (Ext.refl w1) (fun k hk=>by cases hk);obtain ⟨h0,htab⟩:=h0.new htb hw2;have he2:Ext w w2:=h0.ext;clear htb hw2;(conv=>whnf);refine zcv (q0t qs A n c w2 (hS.ext he2) hn Oo) ?_;rintro r w3 ⟨B,rfl,hTS,hlo,he3⟩;have h0:Sep w w3 [[tb],rowF (.slice none 0 0),rowF (.slice none 0 0),rowF (.slice none 0 0),rowF (.slice B 0 0)]:=(h0.add he3 hlo).perm (List.perm_append_singleton (rowF (.slice B 0 0)) _).symm;have htab:=he3.get htab;generalize tmsQ qs=T at *;(conv=>whnf);refine qe (fun i:Nat=>[(1,ii 67108864),(8,pp tb),(29,.slice B T.length T.length),(30,ii T.length),(31,ii i)])
   (fun i w'=>i≤T.length∧∃ V L,Sep w w' [[tb],rowF (V 0),rowF (V 1),rowF (V 2),rowF (.slice B 0 0)]∧w'.heap[tb]?=some (.cells (fnA 3 V) 178)∧(∀ j,j<3→w'.ownsRow 0 9 1 (V j) (L j).length (strV (L j)))∧(∀ j,j<3→L j=secA (T.take i) j)∧SlAt encT 4 w' B T) (fun i=>T.length-i) 0
   ⟨rfl,rfl,rfl,rfl,rfl,trivial⟩ ⟨Nat.zero_le _,fun _=>.slice none 0 0,fun _=>[],h0,htab,fun j _=>World.ownsRow_nil _ _ _ _,fun j _=>rfl,hTS⟩ ?_
  clear h0 htab hTS hlo;rintro i w4 ρ' ⟨i1,V,L,hSp,htab,hrow,hL,hTS⟩;(conv=>whnf);refine zC (fun _=>zw ?_) (fun _=>zw ?_)
  ·have hi:i<T.length:=by omega
   obtain ⟨t,et⟩:∃ t,t=T[i]:=⟨_,rfl⟩
   have htm:t∈T:=by rw [et];exact List.getElem_mem hi
   obtain ⟨tE,k1,k3⟩:=hTE t htm;obtain ⟨k,hk⟩:∃ k:Nat,t.kind=((k+1:Nat):Int):=⟨(t.kind-1).toNat,by omega⟩
   have hk3:k<3:=by omega
   refine ElemV.sl hTS rfl i rfl Oo ?_;intro eb eo hcell;rw [← et] at hcell;(conv=>whnf);refine LoadA.cells hcell rfl (zw ?_);refine ⟨fun xb w5 hxb hw5=>?_⟩;have he5:Ext w4 w5:=by rw [hw5];exact (Ext.refl w4).alloc _
   obtain ⟨hSp,hxc⟩:=hSp.new hxb hw5;have htab:=he5.get htab;have hrow:=fun j hj=>q9 (hrow j hj) he5
   have hTS:=hTS.ext he5;clear hxb hw5;(conv=>whnf);refine StoreA.blk hxc (by show 0+4≤4;decide) (qq t) ?_;intro w6 hc6 hx6;have hs6:=hSp.row (i:=0) (F':=[xb]) rfl hc6 fun j hj=>⟨.inl hj,by rw [List.mem_singleton.1 hj];exact qa5 hx6⟩
   have hVS:VbS w w6 B T xb tb t V V L:=⟨hs6.sep,hx6,by rw [hs6.keep 1 [tb] rfl Od tb (List.mem_singleton.2 rfl)];exact htab,fun j hj=>qo (hrow j hj) fun m hm=>hs6.keep (j+2) _ (quw xb tb V B hj) Oo m hm,hTS.keep (hs6.keep 5 _ rfl Oo)⟩
   clear hs6 hSp hc6 hx6 hxc htab hrow hTS;(conv=>whnf);refine LoadA.cells (vs:=encT t) (CellsAt.heap hVS.tm) rfl (zw ?_);refine zcv (qln t (hTO t htm) w6 (hM.ext hVS.sep.ext) (hT.ext hVS.sep.ext)) ?_;rintro r w7 ⟨rfl,he7⟩;rw [if_pos tE];have hVS:=hVS.call he7;obtain ⟨Ak,ck,eV⟩:=q8 (hVS.row k hk3);(conv=>whnf);refine DrawV.gen (fun S vals w'=>VbI w w7.drew B T xb tb t V L k (entA t) (S 7) (S 9) (S 10) (S 12) (vals 9) (vals 10) w') rfl Ok (fun vals=>.inl ⟨rfl,rfl,xr,hVS.call (Ext.refl w7).drew,fun h=>(by cases h)⟩) ?_;clear hVS;(conv=>whnf);refine zg ?_;refine StepG.of (ii t.kind) (fun S vals wd hk hp hI=>zw ?_) (zw ?_)
   ·refine LoadV.own hI.tm rfl (zw ?_);exact ⟨rfl,hI⟩
   refine zg ?_;refine zg ?_;refine StepG.of (ii t.kind) (fun S vals wd hk hp hI=>zw ?_) (zw ?_)
   ·refine LoadV.own hI.tm rfl (zw ?_);exact ⟨rfl,hI⟩
   refine zg ?_;refine StepG.of (.pointer (some ⟨tb,k,none⟩)) (fun S vals wd hk hp hI=>zw ?_) (zw ?_)
   ·refine ⟨k,by omega,hk3,?_⟩;(conv=>whnf);exact ⟨by simp [show tsz Tryz.prog 140=1 from by kernel_rfl];rfl,hI⟩
   refine StepG.of (.slice Ak (L k).length ck) (fun S vals wd hk hp hI=>?_) (zw ?_)
   ·dsimp only at hI;rw [hk] at hI;(conv=>whnf);refine LoadV.own hI.tab (by rw [qan 3 V k hk3,eV]) (zw ?_);exact ⟨rfl,hI.seven⟩
   refine zg ?_;refine StepG.any (fun S vals wd hk hp hI=>?_) (zw ?_)
   ·dsimp only at hI;rw [hk] at hI;(conv=>whnf);refine ⟨fun b w' hb hw=>?_⟩;(conv=>whnf);exact ⟨trivial,hI.nine hb hw⟩
   refine StepG.any (fun S vals wd hk hp hI=>?_) (zw ?_)
   ·dsimp only at hI;have h9:S 9=true:=hp 9 Od;rw [hk,h9] at hI;obtain ⟨h12,hVS,nb,hv,hnb⟩:=hI.ten;have hr:=hVS.row k hk3;rw [eV] at hr;have hlk:(L k).length≤4194304:=by rw [hL k hk3];exact Nat.le_trans (qnj _ _) (by rw [List.length_take];omega)
    rw [ql hv];(conv=>whnf);refine AppV.cell qrr strI strZ Ok rfl (by decide +kernel) hr hnb rfl Oo ?_;intro A' c' w8 ho hch hnew;rw [← eV] at hch hnew;exact ⟨trivial,.inr (.inl ⟨h9,rfl,h12,A',c',rfl,hVS.app hk3 ho hch hnew⟩)⟩
   refine StepG.of (.pointer (some ⟨tb,k,none⟩)) (fun S vals wd hk hp hI=>zw ?_) (zw ?_)
   ·refine ⟨k,by omega,hk3,?_⟩;(conv=>whnf);exact ⟨by simp [show tsz Tryz.prog 140=1 from by kernel_rfl];rfl,hI⟩
   refine StepG.any (fun S vals wd hk hp hI=>?_) (zw ?_)
   ·dsimp only at hI;have h10:S 10=true:=hp 10 Od;have h7:S 7=true:=hp 7 Od;rw [hk,h10] at hI;obtain ⟨h9,A',c',hv,hVS⟩:=hI.twelve;rw [ql hv];(conv=>whnf);have e1:updF V k (.slice A' ((L k).length+1) c') k=.slice A' ((L k).length+1) c':=qb6 _ _ _;have hst:=fun (K:World→Prop) h1 hK=>hVS.store (K:=K) hk3 h1 hK
    rw [e1] at hst;refine hst _ rfl ?_;intro w8 hVS;exact ⟨trivial,.inr (.inr ⟨h7,h9,h10,rfl,A',c',hVS⟩)⟩
   intro vals w8 hI;obtain ⟨A',c',hVS⟩:=hI.end_;clear hI;refine zu ?_;have etk:T.take (i+1)=T.take i++[t]:=by rw [List.take_add_one,zge hi,← et];rfl
   refine ⟨i+1,⟨rfl,rfl,rfl,rfl,rfl,trivial⟩,⟨by omega,_,_,hVS.sep.drop 1,hVS.tab,hVS.row,fun j hj=>?_,hVS.src⟩,by omega⟩
   by_cases e:j=k
   ·subst e;rw [addL,if_pos rfl,hL j hj,etk,qub hk]
   ·rw [addL,if_neg e,hL j hj,etk,qpn Oo]
  ·obtain rfl:i=T.length:=by omega
   rw [List.take_length] at hL;have he4:=hSp.ext;refine zcv (qe1 67108864 w4) ?_;rintro r w5 ⟨b,rfl,he5,hb5,hB⟩;have hB:BufAt w5 b 67108864 (vocW T 0) [b]:=hB;(conv=>whnf);refine ⟨fun ab w6 hab hw6=>?_⟩;have he6:Ext w5 w6:=by rw [hw6];exact (Ext.refl w5).alloc _
   have hSb:Sep w4 w5 [[b]]:=(Sep.of (Ext.refl w4)).add he5 fun k hk=>by rw [List.mem_singleton.1 hk];exact ⟨hb5,hB.lt b (List.mem_singleton.2 rfl)⟩
   obtain ⟨hSb,hac⟩:=hSb.new hab hw6;have hB:=hB.call he6;have hSv:Sep w4 w6 (vdF [b] ab (fun _=>.slice none 0 0) 0):=hSb.perm (List.Perm.swap _ _ _);have hac:w6.heap[ab]?=some (.cells (fnA 3 fun _=>.slice none 0 0) 127):=hac;clear hSb hab hw6;(conv=>whnf);refine qe (fun i:Nat=>[(8,pp tb),(13,pp b),(14,pp ab),(55,ii i)])
    (fun i w'=>i≤3∧(∀ j,j<i→dicE (secE T j)=0)∧∃ U,VdS T w4 w' b ab i U) (fun i=>3-i) 0 ⟨rfl,rfl,rfl,rfl,trivial⟩ ⟨by omega,fun j h=>by omega,_,⟨⟨[b],hSv,hB,hac,fun j h=>by omega⟩⟩⟩ ?_
   clear hSv hB hac;rintro i w7 ρ2 ⟨j1,hD,U,⟨F,hSv,hB,hac,hbs⟩⟩;have he7:=hSv.ext;(conv=>whnf);refine zC (fun _=>zu ?_) (fun _=>zu ?_)
   ·have hi3:i<3:=by omega
    obtain ⟨Ai,ci,eV⟩:=q8 (hrow i hi3);have hro:=hrow i hi3;rw [eV] at hro;have hss:SlAt zeS 1 w7 Ai (L i):=SlAt.ext (qjo hro rfl) he7;have hli:(L i).length≤4194304:=by rw [hL i hi3];exact Nat.le_trans (qnj _ _) hNT
    refine LoadV.own (he7.get htab) (v:=.slice Ai (L i).length ci) (by
     rw [show (0+i*tsz Tryz.prog 140)=i by rw [show tsz Tryz.prog 140=1 from by kernel_rfl];omega];rw [qan 3 V i hi3,eV]) ?_
    (conv=>whnf);refine zcv (qvb (L i) Ai (L i).length ci w7 hss rfl Oo) ?_;rintro r w8 hR;rw [hL i hi3,quc] at hR
    rcases hR with ⟨h0,rfl,he8⟩|⟨h0,v,rfl,hN⟩
    ·have hve:=qux hi3 hD h0;refine zu ?_;exact .inl ⟨_,h0,by rw [if_pos (by rw [hve];exact h0),hve],rfl,(he4.trans he7).trans he8⟩
    ·obtain ⟨Av,cv,ev,hcv,_⟩:=hN.bs;have hlen:=qe3 h0;subst ev;refine zu ?_;have hB:=hB.call hN.ext;have hSv:=q7d hSv hN.ext hN.lo;have hac:=hN.ext.get hac;refine StoreV.own hac (by rw [qn,show tsz Tryz.prog 60=1 from by kernel_rfl];omega) rfl ?_;intro w9 hw9;obtain ⟨hc9,hg9⟩:=Chn.set hac hw9;have hs9:=hSv.row (i:=1) (F':=[ab]) rfl hc9 fun j hj=>⟨.inl hj,by rw [List.mem_singleton.1 hj];exact qa5 hg9⟩
     have hB:=hB.keep (hs9.keep 0 F rfl Od);have hbs9:∀ j,j<i+1→BS w9 (updF U i (.slice Av (qh (secE T i)).length cv) j) (qh (secE T j)):=fun j hj=>by
      by_cases e:j=i
      ·subst e;rw [qb6];refine BS.keep hN.bs fun k hk=>?_;have:=hs9.keep (j+2) _ (qp7 F ab (updF U j (.slice Av (qh (secE T j)).length cv)) (Nat.lt_succ_self j)) Oo k;rw [qb6] at this;exact this hk
      ·rw [qbk _ _ _ _ e];refine BS.keep (BS.ext (hbs j Oo) hN.ext) fun k hk=>?_;have:=hs9.keep (j+2) _ (qp7 F ab (updF U i (.slice Av (qh (secE T i)).length cv)) hj) Oo k;rw [qbk _ _ _ _ e] at this;exact this hk
     rw [qdw,show (0+i*tsz Tryz.prog 60)=i by rw [show tsz Tryz.prog 60=1 from by kernel_rfl];omega] at hg9;clear hw9 hc9;refine zu ?_;have hvl:=qac 9 (qh (secE T i)).length Oo;have hvw:=qh1 (T:=T) (i:=i) Oo hD;refine zcv (qbn b 67108864 _ (qh (secE T i)).length F w9 hB Oo Od Oo) ?_;rintro r w10 ⟨rfl,hC⟩;obtain ⟨F10,hs10,hB⟩:=hs9.sep.buf (i:=0) rfl hC;have hg10:w10.heap[ab]?=some (.cells (fnA 3 (updF U i (.slice Av (qh (secE T i)).length cv))) 127):=by rw [hs10.keep 1 [ab] rfl Od ab (List.mem_singleton.2 rfl)];exact hg9
     refine zu ?_;refine ⟨i+1,⟨rfl,rfl,rfl,rfl,trivial⟩,⟨by omega,fun j hj=>?_,_,⟨⟨F10,hs10.sep,hB,hg10,fun j hj=>BS.keep (hbs9 j hj) fun k hk=>hs10.keep (j+2) _ (qp7 F ab _ hj) Oo k hk⟩⟩⟩,by omega⟩
     by_cases e:j=i
     ·subst e;exact h0
     ·exact hD j Oo
   ·obtain rfl:i=3:=by omega
    have hve:qcy T=0:=quy fun k hk=>hD k hk
    rw [if_neg (fun g=>g hve)];have hdl:=fun k (hk:k<3)=>qe3 (hD k hk)
    have hvw:=qh1 (T:=T) (i:=3) Oo hD;obtain ⟨A0,c0,e0,hc0,hs0⟩:=hbs 0 Od;obtain ⟨A1,c1,e1,hc1,hs1⟩:=hbs 1 Od;obtain ⟨A2,c2,e2,hc2,hs2⟩:=hbs 2 Od;have hcs:CellsAt w7 ab 0 [.slice A0 (qh (secE T 0)).length c0,.slice A1 (qh (secE T 1)).length c1,.slice A2 (qh (secE T 2)).length c2]:=by
     intro k v hv;rw [qa hac,Nat.zero_add]
     match k,hv with
     | 0,hv=>cases hv;rw [qan 3 U 0 Od,e0]
     | 1,hv=>cases hv;rw [qan 3 U 1 Od,e1]
     | 2,hv=>cases hv;rw [qan 3 U 2 Od,e2]
     | k+3,hv=>cases hv
    refine LoadA.cells hcs rfl ?_;have hSk:∀ j,j<3→(vdF F ab U 3)[j+2]?=some (rowF (U j)):=fun j hj=>qp7 F ab U hj
    (conv=>whnf);refine qe (fun i:Nat=>[(13,pp b),(77,.agg #[.slice A0 (qh (secE T 0)).length c0,.slice A1 (qh (secE T 1)).length c1,.slice A2 (qh (secE T 2)).length c2]),(78,ii i)])
     (fun i w'=>i≤3∧∃ F',Sep w4 w' (vdF F' ab U 3)∧BufAt w' b 67108864 (vocX T i) F'∧∀ j,j<3→BS w' (U j) (qh (secE T j))) (fun i=>3-i) 0 ⟨rfl,rfl,rfl,trivial⟩ ⟨by omega,F,hSv,hB,hbs⟩ ?_
    clear hcs hs0 hs1 hs2 hac hB hSv hbs;rintro i w8 ρ3 ⟨k1,F8,hSv,hB,hbs⟩;have hvx:=q06 (T:=T) (i:=i) Oo hD;(conv=>whnf);refine zC (fun _=>zu ?_) (fun _=>zu ?_)
    ·have hi3:i<3:=by omega
     obtain ⟨Ai,ci,ei,hci,hsi⟩:=hbs i hi3;have hget:[Value.slice A0 (qh (secE T 0)).length c0,.slice A1 (qh (secE T 1)).length c1,.slice A2 (qh (secE T 2)).length c2][i]?=some (.slice Ai (qh (secE T i)).length ci):=by
      rw [← ei]
      rcases (show i=0∨i=1∨i=2 by omega) with rfl|rfl|rfl
      ·rw [e0];rfl
      ·rw [e1];rfl
      ·rw [e2];rfl
     have hdi:=hdl i hi3;refine ⟨.slice Ai (qh (secE T i)).length ci,by rw [show i*tsz Tryz.prog 60=i by rw [show tsz Tryz.prog 60=1 from by kernel_rfl];omega];exact hget,?_⟩;(conv=>whnf);refine zcv (qcu b 67108864 _ (qh (secE T i)) F8 Ai (qh (secE T i)).length ci w8 hB hsi rfl Od Oo) ?_;rintro r w9 ⟨rfl,hC⟩;obtain ⟨F9,hs9,hB⟩:=hSv.buf (i:=0) rfl hC;refine zu ?_;exact ⟨i+1,⟨rfl,rfl,rfl,trivial⟩,⟨by omega,F9,hs9.sep,hB,fun j hj=>BS.keep (hbs j hj) fun k hk=>hs9.keep (j+2) _ (qp7 F8 ab U hj) Oo k hk⟩,by omega⟩
    ·obtain rfl:i=3:=by omega
     rw [q3s] at hB hvx;refine zcv (qcm b 67108864 _ F8 w8 hB Oo) ?_;rintro r w9 (⟨hbig,rfl,rfl⟩|⟨hle,v,rfl,hN⟩)
     ·(conv=>whnf);exact .inl ⟨1,by decide,by rw [if_pos hbig],rfl,he4.trans hSv.ext⟩
     ·obtain ⟨A9,c9,ev9,_⟩:=id hN.h;subst ev9;(conv=>whnf);exact .inr ⟨rfl,hve,hle,_,rfl,hN.back (he4.trans hSv.ext)⟩
 ·have h0:¬ ((valE qs:Nat):Int)=0:=by omega
  refine zu ?_;exact .inl ⟨valE qs,hE,by rw [if_pos hE],rfl,he1⟩
def ovr (x:LB) (p:Nat) (y:LB):LB:=x.take p++(y++x.drop (p+y.length))
theorem qd1 {x y:LB} {p:Nat} (h:p+y.length≤x.length):(ovr x p y).length=x.length:=by
 simp only [ovr,zla,List.length_take,zld];omega
theorem qjn {x y:LB} {p j:Nat} (h:p≤x.length) (hj:j<y.length):(ovr x p y)[p+j]?=y[j]?:=by
 have e:(x.take p).length=p:=by rw [List.length_take];omega
 rw [ovr,List.getElem?_append_right Oo,e,Nat.add_sub_cancel_left,List.getElem?_append_left hj]
theorem qer {x y:LB} {p j:Nat} (h:p+y.length≤x.length) (hj:j<p∨p+y.length≤j):(ovr x p y)[j]?=x[j]?:=by
 have e:(x.take p).length=p:=by rw [List.length_take];omega
 rcases hj with hj|hj
 ·rw [ovr,List.getElem?_append_left Oo,List.getElem?_take_of_lt hj]
 ·rw [ovr,List.getElem?_append_right Oo,e,List.getElem?_append_right Oo,List.getElem?_drop]
  congr 1;omega
theorem qqz (x:LB) (p:Nat):ovr x p []=x:=by rw [ovr,List.length_nil,Nat.add_zero,List.nil_append,List.take_append_drop]
theorem q6f {x y:LB} {p i:Nat} (h:p+y.length≤x.length) (hi:i<y.length):(ovr x p (y.take i)).set (p+i) (y.getD i 0)=ovr x p (y.take (i+1)):=by
 have l1:(y.take i).length=i:=by rw [List.length_take];omega
 have l2:(y.take (i+1)).length=i+1:=by rw [List.length_take];omega
 refine List.ext_getElem? fun j=>?_;rw [List.getElem?_set]
 split
 ·rename_i e
  subst e;rw [qd1 Oo,if_pos Oo,qjn Oo Oo,List.getElem?_take_of_lt Oo,List.getD_eq_getElem?_getD,zge hi];rfl
 ·rename_i e
  rcases Nat.lt_or_ge j p with g|g
  ·rw [qer Oo (.inl g),qer Oo (.inl g)]
  ·obtain ⟨k,rfl⟩:∃ k,j=p+k:=⟨j-p,by omega⟩
   rcases Nat.lt_or_ge k i with g2|g2
   ·rw [qjn Oo Oo,qjn Oo Oo,List.getElem?_take_of_lt g2,List.getElem?_take_of_lt Oo]
   ·rw [qer Oo (.inr Oo),qer Oo (.inr Oo)]
theorem q45 (l:LB) (j:Nat) (b:UInt8):(byV l).set j (.int .u8 b.toNat)=byV (l.set j b):=by
 rw [byV,byV,List.map_set]
section
variable {d:LB} {n:Nat} (hn:n≤67108864) (hd:d.length=upN n 8) (hp:¬ PadB d n)
include hn hd hp
theorem qp9 {x:Nat × Nat × Nat} (hx:x∈dirD d (upN n 8)):qx n≤plD n x∧plD n x+szD x≤qce n (cnt d n)∧((qab d n).drop (plD n x)).take (szD x)=fixL x.2.2 (szD x)∧x.2.2<256 ^ szD x:=by
 have h:=q5g (l:=qab d n) (qqa hn hd) (by rw [qfc hn hd,qb8 hn];exact hp) (by rw [qfc hn hd,qb8 hn,qg4 hn]) (x:=x) (by rw [qfc hn hd,qb8 hn];exact hx);rw [qfc hn hd,qb8 hn,qg4 hn] at h;exact ⟨h.1,h.2.1,h.2.2.2.1,h.2.2.2.2⟩
omit hp in
theorem qr9 {i:Nat} (h1:qx n≤i) (h2:i<qce n (cnt d n)):∃ x∈dirD d (upN n 8),plD n x≤i∧i<plD n x+szD x:=by
 have h:=qxv (l:=qab d n) (qqa hn hd) (by rw [qfc hn hd,qb8 hn,qg4 hn]) (i:=i) (by rw [qb8 hn];exact h1) (by rw [qb8 hn,qg4 hn];exact h2);rw [qfc hn hd,qb8 hn] at h;obtain ⟨x,hx,_,a,b⟩:=h;exact ⟨x,hx,a,b⟩
omit hn hp in
theorem qcf:(qab d n).length=qce n (cnt d n):=by
 rw [qke,hd];unfold qce qap qal qx;omega
end
structure Par (d:LB) (n:Nat) (L:List (Nat × Nat × Nat)) (x:LB):Prop where
 len:x.length=(qab d n).length
 eq:∀ j,j<x.length→(j<qx n∨∃ y∈L,plD n y≤j∧j<plD n y+szD y)→x[j]?=(qab d n)[j]?
section
variable {d:LB} {n:Nat} (hn:n≤67108864) (hd:d.length=upN n 8) (hp:¬ PadB d n)
include hn hd
theorem Par.put {L:List (Nat × Nat × Nat)} {x:LB} (h:Par d n L x) {y:Nat × Nat × Nat} (hp:¬ PadB d n) (hy:y∈dirD d (upN n 8)):Par d n (L++[y]) (ovr x (plD n y) (fixL y.2.2 (szD y))):=by
 obtain ⟨h1,h2,h3,h4⟩:=qp9 hn hd hp hy;have hl:=h.len;rw [qcf hd] at hl;have hf:(fixL y.2.2 (szD y)).length=szD y:=qf _ _;have hfit:plD n y+(fixL y.2.2 (szD y)).length≤x.length:=by rw [hf,hl];exact h2
 refine ⟨by rw [qd1 hfit];exact h.len,fun j hj ho=>?_⟩;rw [qd1 hfit] at hj
 by_cases g:plD n y≤j∧j<plD n y+szD y
 ·obtain ⟨k,rfl⟩:∃ k,j=plD n y+k:=⟨j-plD n y,by omega⟩
  rw [qjn Oo Oo,← h3,List.getElem?_take_of_lt Oo,List.getElem?_drop]
 ·rw [qer hfit (by rw [hf];omega)];refine h.eq j hj (ho.imp id ?_);rintro ⟨z,hz,h5⟩
  rcases List.mem_append.1 hz with hz|hz
  ·exact ⟨z,hz,h5⟩
  ·rw [List.mem_singleton.1 hz] at h5;exact absurd h5 g
theorem Par.all {x:LB} (h:Par d n (dirD d (upN n 8)) x):x=qab d n:=by
 refine List.ext_getElem? fun j=>?_
 rcases Nat.lt_or_ge j x.length with g|g
 ·refine h.eq j g ?_;have hl:=h.len;rw [qcf hd] at hl
  rcases Nat.lt_or_ge j (qx n) with g2|g2
  ·exact .inl g2
  ·exact .inr (qr9 hn hd g2 Oo)
 ·rw [List.getElem?_eq_none g,List.getElem?_eq_none (by rw [← h.len];exact g)]
omit hn in
theorem Par.start {z:LB} (hz:z.length=(qab d n).length):Par d n [] (ovr (ovr (ovr z 0 (fixL n 4)) 4 (fixL (cnt d n) 4)) 8 d):=by
 have hw:=qcf hd (n:=n);have hw2:qce n (cnt d n)=qx n+4*upN n 2048+2*upN n 256+4*upN (cnt d n) 512:=rfl;have hg:qx n=8+upN n 8:=rfl;have f1:(fixL n 4).length=4:=qf _ _;have f2:(fixL (cnt d n) 4).length=4:=qf _ _;have l1:(ovr z 0 (fixL n 4)).length=z.length:=qd1 Oo;have l2:(ovr (ovr z 0 (fixL n 4)) 4 (fixL (cnt d n) 4)).length=z.length:=by rw [qd1 Oo,l1]
 have l3:(ovr (ovr (ovr z 0 (fixL n 4)) 4 (fixL (cnt d n) 4)) 8 d).length=z.length:=by rw [qd1 Oo,l2]
 have hW:qab d n=fixL n 4++(fixL (cnt d n) 4++(d++(gL d n++(sL d n++mL d n)))):=by simp only [qab,List.append_assoc]
 refine ⟨by rw [l3,hz],fun j hj ho=>?_⟩
 rcases ho with ho|⟨y,hy,_⟩
 ·rw [hW]
  rcases Nat.lt_or_ge j 4 with g|g
  ·rw [qer Oo (.inl Oo),qer Oo (.inl Oo),List.getElem?_append_left Oo];have:=qjn (x:=z) (y:=fixL n 4) (p:=0) (j:=j) (Nat.zero_le _) Oo;rw [Nat.zero_add] at this;exact this
  rw [List.getElem?_append_right Oo,f1]
  rcases Nat.lt_or_ge j 8 with g2|g2
  ·rw [qer Oo (.inl Oo),List.getElem?_append_left Oo];obtain ⟨k,rfl⟩:∃ k,j=4+k:=⟨j-4,by omega⟩
   rw [qjn Oo Oo,Nat.add_sub_cancel_left]
  ·rw [List.getElem?_append_right Oo,f2];obtain ⟨k,rfl⟩:∃ k,j=8+k:=⟨j-8,by omega⟩
   rw [qjn Oo Oo,show 8+k-4-4=k by omega,List.getElem?_append_left Oo]
 ·cases hy
end
theorem addM (b o n:Nat):Option.map (fun x:Addr=>x.add n) (some ⟨b,o,none⟩)=some ⟨b,o+n,none⟩:=by rw [Option.map_some,qad]
theorem qoj (v:Nat):∀ {m i:Nat},i≤m→(fixL v m).take i=fixL v i
 | 0,i,h=>by
  obtain rfl:i=0:=by omega
  rfl
 | m+1,i,h=>by
  rcases Nat.lt_or_ge i (m+1) with g|g
  ·rw [fixL,List.take_append_of_le_length (by rw [qf];omega),qoj v Oo]
  ·obtain rfl:i=m+1:=by omega
   exact List.take_of_length_le (by rw [qf];exact Nat.le_refl _)
theorem qx6 (v:Nat) {m i:Nat} (h:i<m):(fixL v m).getD i 0=UInt8.ofNat (v/2 ^ (8*i)%256):=by
 have h1:=qoj v (m:=m) (i:=i+1) h;have h2:(fixL v (i+1))[i]?=some (UInt8.ofNat (v/2 ^ (8*i)%256)):=by
  rw [fixL,List.getElem?_append_right (by rw [qf];exact Nat.le_refl _),qf,Nat.sub_self];rfl
 rw [← h1,List.getElem?_take_of_lt (Nat.lt_succ_self i)] at h2;rw [List.getD_eq_getElem?_getD,h2];rfl
theorem qgm (x:LB) (b p len cap v m:Nat) (w:World) (hb:w.heap[b]?=some (.cells (byV x).toArray 5)) (hfit:p+m≤x.length) (hlen:m≤len) (_:v<4611686018427387904) (hm:m≤4) :
  Gv Tryz.prog 174 [.slice (some ⟨b,p,none⟩) len cap,ii v,ii m] w fun r w'=>r=.tuple #[]∧Chn [b] w w'∧w'.heap[b]?=some (.cells (byV (ovr x p (fixL v m))).toArray 5):=by
 refine ze Tryz.func174 Tryz.ntmps174 ?_;refine qe (fun i:Nat=>[(0,.slice (some ⟨b,p,none⟩) len cap),(1,ii v),(7,ii m),(8,ii i)])
  (fun i w'=>i≤m∧Chn [b] w w'∧w'.heap[b]?=some (.cells (byV (ovr x p ((fixL v m).take i))).toArray 5)) (fun i=>m-i) 0 ⟨rfl,rfl,rfl,rfl,trivial⟩ ⟨Nat.zero_le _,Chn.refl _ _,by rw [List.take_zero,qqz];exact hb⟩ ?_
 rintro i w1 ρ' ⟨i1,hc,hb1⟩;(conv=>whnf);refine zC (fun _=>zu ?_) (fun _=>zu ?_)
 ·have hi:i<m:=by omega
  have hl:(fixL v m).length=m:=qf _ _;have hol:(ovr x p ((fixL v m).take i)).length=x.length:=qd1 (by rw [List.length_take];omega);refine V.Wit.shrN (8*i) Oo (by show 8*i<64;omega) (zw ?_);refine V.Wit.low8 (zw ?_);refine ⟨⟨b,p,i,rfl,rfl,by omega,?_⟩⟩;rw [show tsz Tryz.prog 5=1 from by kernel_rfl,Nat.mul_one];(conv=>whnf);refine StoreV.own hb1 (by rw [List.size_toArray,qae,hol];omega) rfl ?_;intro w2 hw;obtain ⟨hc2,hb2⟩:=Chn.set hb1 hw;have e:((byV (ovr x p ((fixL v m).take i))).toArray.setIfInBounds (p+i) (.int .u8 (v/2 ^ (8*i)%256:Nat)))=(byV (ovr x p ((fixL v m).take (i+1)))).toArray:=by
   rw [← q6f Oo Oo,qx6 v hi,← q45];have e8:(UInt8.ofNat (v/2 ^ (8*i)%256)).toNat=v/2 ^ (8*i)%256:=by simp
   rw [e8];simp
  have hb2:w2.heap[b]?=some (.cells ((byV (ovr x p ((fixL v m).take i))).toArray.setIfInBounds (p+i) (.int .u8 (v/2 ^ (8*i)%256:Nat))) 5):=hb2;rw [e] at hb2;refine zu ?_;exact ⟨i+1,⟨rfl,rfl,rfl,rfl,trivial⟩,⟨by omega,hc.trans hc2,hb2⟩,by omega⟩
 ·obtain rfl:i=m:=by omega
  rw [List.take_of_length_le (by rw [qf];exact Nat.le_refl _)] at hb1;exact ⟨rfl,hc,hb1⟩
def q2z (n m:Nat):Obj:=.cells (cutV n m).toArray 270
def RbI (d:LB) (n:Nat) (w0:World) (vb ob pb:Nat) (L:List (Nat × Nat × Nat)) (w:World):Prop:=
 ∃ x,Par d n L x∧Mem w0 w [(ob,.cells (byV x).toArray 5),(vb,.cells #[.slice (some ⟨ob,0,none⟩) (qab d n).length (qab d n).length] 60),(pb,q2z n (cnt d n))]
theorem qq7 (d:LB) (n:Nat) (w0:World) (vb ob pb:Nat) (L:List (Nat × Nat × Nat)) (x:Nat × Nat × Nat) (w:World) (hn:n≤67108864) (hd:d.length=upN n 8) (hp:¬ PadB d n) (hI:RbI d n w0 vb ob pb L w) (hx:x∈dirD d (upN n 8)) :
  Gv Tryz.prog 176 [ii x.1,ii x.2.1,ii x.2.2,pp vb,pp pb] w fun r w'=>r=.bool true∧RbI d n w0 vb ob pb (L++[x]) w':=by
 obtain ⟨y,hy,hm⟩:=hI;have hk:=qxu hx;obtain ⟨q1,q2,_,q4⟩:=qp9 hn hd hp hx;have hyp:=Par.put hn hd hy hp hx;have hyl:=hy.len;rw [qcf hd] at hyl;have u1:=qa0 n 8 Od;have u2:=qa0 n 2048 Od;have u3:=qa0 n 256 Od;have u4:=qa0 (cnt d n) 512 Od;have u5:=qeh d n;have g1:qx n=8+upN n 8:=rfl;have g2:qal n=qx n+4*upN n 2048:=rfl;have g3:qap n=qal n+2*upN n 256:=rfl;have g4:qce n (cnt d n)=qap n+4*upN (cnt d n) 512:=rfl;have hwl:(qab d n).length=qce n (cnt d n):=qcf hd;have t1:tsz Tryz.prog 5=1:=by kernel_rfl
 obtain ⟨k,j,v⟩:=x;dsimp only at hk q1 q2 q4 hyp ⊢;have hbo:=hm.get mh;rw [hwl] at hm;obtain ⟨W,eW⟩:∃ W,W=qce n (cnt d n):=⟨_,rfl⟩
 rw [← eW] at hm q2 hyl;have fin:∀ w1,Chn [ob] w w1→w1.heap[ob]?=some (.cells (byV (ovr y (plD n (k,j,v)) (fixL v (szD (k,j,v))))).toArray 5)→RbI d n w0 vb ob pb (L++[(k,j,v)]) w1:=fun w1 hc hb=>⟨_,hyp,by
  have:=hm.upd (i:=0) rfl (hc.upd_ hb);rw [hwl,← eW];exact this⟩
 refine ze Tryz.func176 Tryz.ntmps176 ?_
 (repeat' refine zC (fun _=>zw ?_) (fun _=>zw ?_))
 ·obtain rfl:k=2048:=by omega
  have hP:plD n (2048,j,v)=qx n+4*j:=rfl;have hZ:szD (2048,j,v)=4:=rfl;rw [hP,hZ] at fin q2;rw [hZ] at q4;refine zr hm 1 ?_;refine zr hm 2 ?_;refine zv ?_;refine SliceV.to (qx n+4*j) W W (ql4 Oo) rfl rfl Oo znr znr (fun h=>(by cases h)) ?_;rw [if_neg Oo];(conv=>whnf);rw [t1,Nat.mul_one,addM,Nat.zero_add];refine zcv (qgm y ob (qx n+4*j) (W-(qx n+4*j)) (W-(qx n+4*j)) v 4 w hbo Oo Oo Oo Od) ?_;rintro r w1 ⟨rfl,hc,hb1⟩;(conv=>whnf);exact ⟨rfl,fin w1 hc hb1⟩
 ·obtain rfl:k=256:=by omega
  have hP:plD n (256,j,v)=qal n+2*j:=rfl;have hZ:szD (256,j,v)=2:=rfl;rw [hP,hZ] at fin q2;rw [hZ] at q4;refine zr hm 1 ?_;refine zr hm 2 ?_;refine zv ?_;refine SliceV.to (qal n+2*j) W W (ql4 Oo) rfl rfl Oo znr znr (fun h=>(by cases h)) ?_;rw [if_neg Oo];(conv=>whnf);rw [t1,Nat.mul_one,addM,Nat.zero_add];refine zcv (qgm y ob (qal n+2*j) (W-(qal n+2*j)) (W-(qal n+2*j)) v 2 w hbo Oo Oo Oo Od) ?_;rintro r w1 ⟨rfl,hc,hb1⟩;(conv=>whnf);exact ⟨rfl,fin w1 hc hb1⟩
 ·obtain rfl:k=512:=by omega
  have hP:plD n (512,j,v)=qap n+4*j:=rfl;have hZ:szD (512,j,v)=4:=rfl;rw [hP,hZ] at fin q2;rw [hZ] at q4;refine zr hm 1 ?_;refine zr hm 2 ?_;refine zv ?_;refine SliceV.to (qap n+4*j) W W (ql4 Oo) rfl rfl Oo znr znr (fun h=>(by cases h)) ?_;rw [if_neg Oo];(conv=>whnf);rw [t1,Nat.mul_one,addM,Nat.zero_add];refine zcv (qgm y ob (qap n+4*j) (W-(qap n+4*j)) (W-(qap n+4*j)) v 4 w hbo Oo Oo Oo Od) ?_;rintro r w1 ⟨rfl,hc,hb1⟩;(conv=>whnf);exact ⟨rfl,fin w1 hc hb1⟩
theorem qxe (n:Nat):qbb [Value.int .u8 0] n=byV (List.replicate n 0):=by
 induction n with
 | zero=>rfl
 | succ n ih=>rw [qbb,ih,List.replicate_succ];rfl
theorem qsx {w:World} {ob p len cap l c:Nat} {A:oA} {x d:LB} (hb:w.heap[ob]?=some (.cells (byV x).toArray 5)) (hS:SlAt encB 1 w A d) (hl:d.length=l) (hfit:p+d.length≤x.length) (hlen:d.length≤len) :
  ∃ w',(Builtin.copy_ #[60,60] 3 #[.slice (some ⟨ob,p,none⟩) len cap,.slice A l c]).run Tryz.prog w=.ok (goInt l) w'∧Chn [ob] w w'∧w'.heap[ob]?=some (.cells (byV (ovr x p d)).toArray 5):=by
 have hu:Tryz.prog.underlying 60=some (.slice 5):=Tryz.underlying60;have hsz:(Tryz.prog.info? 5).map (·.size)=some 1:=by kernel_rfl
 rcases Nat.eq_zero_or_pos l with h0|h0
 ·have e0:d=[]:=List.eq_nil_of_length_eq_zero Oo;subst h0 e0;refine ⟨w,run_copy_none (P:=Tryz.prog) w 60 60 3 5 (some ⟨ob,p,none⟩) A len cap 0 c hu hsz (Nat.zero_min len),Chn.refl _ _,by rw [qqz];exact hb⟩
 ·obtain ⟨gb,go,eA,hca⟩:=hS.at_ (by intro e;rw [e] at hl;simp at hl;omega);subst eA;have hcp:=run_copy_row (P:=Tryz.prog) w 60 60 3 5 ob p len cap ⟨gb,go,none⟩ l c _ 5 (byV d) hu hsz hb (by rw [qae,hl];exact (Nat.min_eq_left Oo).symm) (fun j v hv=>by
   rw [byV,List.getElem?_map] at hv;obtain ⟨x,hx,rfl⟩:=Option.map_eq_some_iff.1 hv;have h1:=hca j x hx 0 _ rfl;rw [Nat.mul_one,Nat.add_zero] at h1;have ea:(⟨gb,go,none⟩:Addr).add j=⟨gb,go+j,none⟩:=by unfold Addr.add;split<;>simp_all
   rw [ea];exact h1) (by rw [qae,List.size_toArray,qae];omega) (fun v hv=>by
   obtain ⟨x,_,rfl⟩:=List.mem_map.1 hv;rfl)
  obtain ⟨h2,h3⟩:=qhz (cs:=((byV x).toArray.toList.take p++byV d++(byV x).toArray.toList.drop (p+(byV d).length)).toArray) hb;have e:goInt (((byV d).length:Nat):Int)=goInt ((l:Nat):Int):=by rw [qae,hl]
  rw [e] at hcp;refine ⟨_,hcp,h2,?_⟩;rw [h3]
  congr 3
  rw [qae,ovr];simp [byV,List.map_take,List.map_drop]
theorem qv3 (d:LB) (A:oA) (l c n:Nat) (w:World) (hS:SlAt encB 1 w A d) (hl:d.length=l) (hd:d.length=upN n 8) (hn:n≤67108864) (hp:¬ PadB d n) :
  Gv Tryz.prog 109 [.slice A l c,ii n] w fun r w'=>∃ v,r=.tuple #[v,ii 0]∧NewS 5 w w' v (qab d n):=by
 have hu:upN n 8=(n+7)/8:=rfl;have u1:=qa0 n 8 Od;have u2:=qa0 n 2048 Od;have u3:=qa0 n 256 Od;have u4:=qa0 (cnt d n) 512 Od;have u5:=qeh d n;have g1:qx n=8+upN n 8:=rfl;have g2:qal n=qx n+4*upN n 2048:=rfl;have g3:qap n=qal n+2*upN n 256:=rfl;have g4:qce n (cnt d n)=qap n+4*upN (cnt d n) 512:=rfl;have hwl:(qab d n).length=qce n (cnt d n):=qcf hd;have hup:=fun w=>qp3 n 8 w
 have t1:tsz Tryz.prog 5=1:=by kernel_rfl
 refine ze Tryz.func109 Tryz.ntmps109 ?_;refine zv ?_;refine zcv (hup w Oo Od Od) ?_;rintro r w1 ⟨rfl,rfl⟩;refine zu ?_;refine zcv (hup w1 Oo Od Od) ?_;rintro r w2 ⟨rfl,rfl⟩;refine zu ?_;refine zcv (qvv d A l c n w2 hS hl hd hn) ?_;rintro r w3 ⟨⟨bb,rfl,hbb⟩,rfl⟩;obtain rfl:bb=true:=hbb.2 hp;refine zu ?_;refine zcv (qxp d A l c w3 hS hl Oo) ?_;rintro r w4 ⟨rfl,rfl⟩;have hcn:cnt d (8*d.length)=cnt d n:=q5b hp Oo znr;rw [hcn];(conv=>whnf);refine zcv (q5e n (cnt d n) w4 hn Oo) ?_;rintro r w5 ⟨rfl,he5⟩;(conv=>whnf);refine znm ((Mem.nil w4).call he5) fun pb w6 hm=>zw ?_;refine StoreA.all (vs:=cutV n (cnt d n)) hm (i:=0) rfl rfl (by simp [cutV,Value.oneCell']) ?_;intro w7 hm;have hm:Mem w4 w7 [(pb,q2z n (cnt d n))]:=hm;(conv=>whnf);refine zr hm 0 ?_;obtain ⟨W,eW⟩:∃ W,W=qce n (cnt d n):=⟨_,rfl⟩
 rw [← eW] at hwl g4 ⊢;refine ⟨W,W,rfl,rfl,Nat.le_refl _,show W*1≤140737488355328 by omega,by omega,?_⟩;intro ob w8 hob hw8;have hm:=hm.new hob hw8;clear hob hw8;have hm:Mem w4 w8 [(ob,.cells (qbb [Value.int .u8 0] W).toArray 5),(pb,q2z n (cnt d n))]:=hm;rw [qxe] at hm;(conv=>whnf);refine znm hm fun vb w9 hm=>zw ?_;refine StoreV.mem hm (i:=0) rfl Nat.zero_lt_one rfl ?_;intro w10 hm;have hm:Mem w4 w10 [(vb,.cells #[.slice (some ⟨ob,0,none⟩) W W] 60),(ob,.cells (byV (List.replicate W 0)).toArray 5),(pb,q2z n (cnt d n))]:=hm;(conv=>whnf);refine zr hm 0 ?_;have hz:(List.replicate W (0:UInt8)).length=W:=List.length_replicate;have f1:(fixL n 4).length=4:=qf _ _;have f2:(fixL (cnt d n) 4).length=4:=qf _ _;have l1:(ovr (List.replicate W (0:UInt8)) 0 (fixL n 4)).length=W:=by rw [qd1 Oo,hz]
 have l2:(ovr (ovr (List.replicate W (0:UInt8)) 0 (fixL n 4)) 4 (fixL (cnt d n) 4)).length=W:=by rw [qd1 Oo,l1]
 refine zcv (qgm (List.replicate W 0) ob 0 W W n 4 w10 (hm.get (zmc mh)) Oo Oo Oo Od) ?_;rintro r w11 ⟨rfl,hc,hb⟩;have hm:=hm.upd (i:=1) rfl (hc.upd_ hb);(conv=>whnf);refine zr hm 0 ?_;refine SliceV.to 4 W W rfl rfl rfl Oo znr znr (fun h=>(by cases h)) ?_;rw [if_neg Oo];(conv=>whnf);rw [t1,Nat.mul_one,addM,Nat.zero_add];refine zcv (qgm _ ob 4 (W-4) (W-4) (cnt d n) 4 w11 hb Oo Oo Oo Od) ?_;rintro r w12 ⟨rfl,hc,hb⟩;have hm:=hm.upd (i:=1) rfl (hc.upd_ hb);(conv=>whnf);refine zr hm 0 ?_;refine zr hm 2 ?_;have hb:w12.heap[ob]?=some (.cells (byV (ovr (ovr (List.replicate W (0:UInt8)) 0 (fixL n 4)) 4 (fixL (cnt d n) 4))).toArray 5):=hb;have hSd:=hS.ext hm.ext;have key:∀ Q:oA,(W=8→Q=some ⟨ob,0,none⟩)→(W≠8→Q=some ⟨ob,8,none⟩)→∃ w',(Builtin.copy_ #[60,60] 3 #[.slice Q (W-8) (W-8),.slice A l c]).run Tryz.prog w12=.ok (goInt l) w'∧Chn [ob] w12 w'∧
   w'.heap[ob]?=some (.cells (byV (ovr (ovr (ovr (List.replicate W (0:UInt8)) 0 (fixL n 4)) 4 (fixL (cnt d n) 4)) 8 d)).toArray 5):=by
  intro Q q1 q2
  by_cases hW:W=8
  ·have hd0:d=[]:=List.eq_nil_of_length_eq_zero Oo;have:=qsx (p:=0) (len:=W-8) (cap:=W-8) (c:=c) hb hSd hl Oo Oo;rw [q1 hW];subst hd0;rw [qqz] at this ⊢;exact this
  ·rw [q2 hW];exact qsx (p:=8) (len:=W-8) (cap:=W-8) (c:=c) hb hSd hl Oo Oo
 refine SliceV.to 8 W W rfl rfl rfl Oo znr znr (fun h=>(by cases h)) ?_;obtain ⟨w13,hrun,hc,hb⟩:=key (if W=8 then some ⟨ob,0,none⟩ else Option.map (fun x:Addr=>x.add (8*tsz Tryz.prog 5)) (some ⟨ob,0,none⟩)) (fun h=>if_pos h) (fun h=>by rw [if_neg h,t1,Nat.mul_one,addM]);(conv=>whnf);refine Fall.copy rfl rfl rfl _ _ hrun ?_;have hm:=hm.upd (i:=1) rfl (hc.upd_ hb);unfold goInt;(conv=>whnf);have hI:RbI d n w4 vb ob pb [] w13:=⟨_,Par.start hd (by rw [hz,hwl]),by
  rw [hwl];exact hm.perm (List.Perm.swap _ _ _)⟩
 refine zcv (qme d A l c n w13 hl hd hn _ (pp vb) (pp pb) (RbI d n w4 vb ob pb) (fun _ _ h=>let ⟨_,_,g⟩:=h;hS.ext g.ext) hI (fun L x w' hI hx=>qq7 d n w4 vb ob pb L x w' hn hd hp hI hx)) ?_;rintro r w14 ⟨rfl,x,hx,hm⟩;obtain rfl:=Par.all hn hd hx;rw [hwl] at hm;(conv=>whnf);refine zr hm 1 ?_;obtain ⟨o1,o2⟩:=hm.own _ mh;exact ⟨_,rfl,NewS.blk hm.ext o1 o2 hwl⟩
def opT (S:List Bool) (t:Nat):Nat:=if S.getD (t+1) false=true then 1 else 0
def opB (S:List Bool):LB:=qbm (opT S) (upN S.length 8)
theorem qm1 (S:List Bool):(opB S).length=upN S.length 8:=qbu _ _
theorem qit {S:List Bool} {t:Nat} (h:S.length≤t+1):opT S t=0:=by
 rw [opT,List.getD_eq_getElem?_getD,List.getElem?_eq_none h,if_neg Od]
theorem qqs {S:List Bool} {t:Nat} (h:t+1≠S.length):laT S t=opT S t:=by rw [laT,if_neg h,opT]
theorem q2v (S:List Bool) (t:Nat):opT (S++[true]) t=laT S t:=by
 rw [opT,laT,List.getD_eq_getElem?_getD]
 by_cases h:t+1=S.length
 ·rw [if_pos h,h,List.getElem?_append_right znr,Nat.sub_self];rfl
 ·rw [if_neg h,List.getD_eq_getElem?_getD]
  rcases Nat.lt_or_ge (t+1) S.length with g|g
  ·rw [List.getElem?_append_left g]
  ·rw [List.getElem?_eq_none (by rw [zla,List.length_singleton];omega),List.getElem?_eq_none g]
theorem qzk (S:List Bool) (t:Nat):opT (S++[false]) t=opT S t:=by
 rw [opT,opT,List.getD_eq_getElem?_getD,List.getD_eq_getElem?_getD]
 rcases Nat.lt_or_ge (t+1) S.length with g|g
 ·rw [List.getElem?_append_left g]
 ·rw [List.getElem?_eq_none g]
  rcases Nat.lt_or_ge S.length (t+1) with g2|g2
  ·rw [List.getElem?_eq_none (by rw [zla,List.length_singleton];omega)]
  ·rw [show t+1=S.length by omega,List.getElem?_append_right znr,Nat.sub_self];rfl
theorem qu6 (f:Nat→Nat) (m:Nat) (h:∀ s,s<8→f (8*m+s)%2=0):qbm f (m+1)=qbm f m++[0]:=by
 have hb:byt f m=0:=by
  have:=qxf (f:=f) (b:=m) (r:=0) Od fun s _ hs=>h s hs
  omega
 rw [qbm,List.range_succ,List.map_append,List.map_singleton,hb];rfl
def gro (n:Nat) (l:LB):LB:=if n%8=0 then l++[0] else l
theorem qn1 {f g:Nat→Nat} {n:Nat} (h:∀ t,f t%2=g t%2) (h0:∀ t,n≤t→g t%2=0):qbm f (upN (n+1) 8)=gro n (qbm g (upN n 8)):=by
 rw [qi1 fun t _=>h t,gro]
 split
 ·rename_i hn
  rw [show upN (n+1) 8=upN n 8+1 by unfold upN;omega,qu6];intro s _;exact h0 _ (by unfold upN;omega)
 ·rename_i hn
  rw [show upN (n+1) 8=upN n 8 by unfold upN;omega]
theorem q2i {S:List Bool} {t:Nat} (h:S.length≤t):laT S t=0:=by rw [qqs Oo,qit Oo]
theorem q2u (S:List Bool):opB (S++[true])=gro S.length (qat S):=by
 rw [opB,zla,List.length_singleton];exact qn1 (fun t=>by rw [q2v]) fun t ht=>by rw [q2i ht]
theorem qzj (S:List Bool):opB (S++[false])=gro S.length (opB S):=by
 rw [opB,zla,List.length_singleton];exact qn1 (fun t=>by rw [qzk]) fun t ht=>by rw [qit Oo]
theorem q6c:opB []=qat []:=rfl
theorem qzi {S:List Bool} {e:Nat} (h:S.length=e+1):(byV (opB S)).set (e/8) (.int .u8 (byt (opT S) (e/8)+2 ^ (e%8):Nat))=byV (qat S):=by
 have hm:e<8*upN S.length 8:=by unfold upN;omega
 have h1:=qn2 (f:=opT S) (g:=laT S) hm fun t _ ht=>by rw [qqs Oo]
 have h2:=qst (f:=opT S) (g:=laT S) (b:=e/8) (r:=e%8) Oo (fun s _ hs=>by rw [qqs Oo]) (by rw [show 8*(e/8)+e%8=e by omega,qit Oo]);rw [show 8*(e/8)+e%8=e by omega,laT,if_pos h.symm,show 1%2=1 from rfl,Nat.one_mul] at h2;rw [opB,qat,← h1,h2]
theorem q8h {S:List Bool} {e:Nat} (h:S.length=e+1):qdd .or .u8 ((byt (opT S) (e/8):Nat):Int) ((2 ^ (e%8):Nat):Int)=((byt (opT S) (e/8)+2 ^ (e%8):Nat):Int):=by
 have h1:=qtw (f:=opT S) e 1;have h2:byt (upF (opT S) e) (e/8)=byt (opT S) (e/8):=qqf fun s _=>by
  rw [upF]
  split
  ·rfl
  ·rw [qit Oo]
 rw [h2,show 1%2=1 from rfl,Nat.one_mul] at h1;exact h1
namespace V
theorem Fall.arr {P:Program} {ρ:Nat→Value} {o:Oper} {t:TypeId} {x:Operand} {w:World} {K:Value→World→Prop} {b off n e:Nat} (ho:o.op=.slice t x none none none) (hx:ev ρ x=.pointer (some ⟨b,off,none⟩)) (hu:P.underlying t=some (.array n e)) (hT:hasT P e=true)
  (hk:K (.slice (some ⟨b,off,none⟩) n n) w):Fall P (execOp (ev ρ) o) w K:=by
 have he:execOp (ev ρ) o=(do pure (.value (← Instr.sliceAt t (ev ρ x) none none none))):=by simp only [execOp,ho];rfl
 rw [he,hx];refine ⟨.inl ⟨.slice (some ⟨b,off,none⟩) n n,w,?_,hk⟩⟩;simp [Instr.sliceAt,Instr.sureAddr,run_underlying hu,Instr.sliceBounds,qw hT,qad]
end V
def idsE (q:Nat→Nat):List Value:=[ii (q 0:Nat),ii (q 1:Nat),ii (q 2:Nat),ii (q 3:Nat)]
theorem qbp (q:Nat→Nat) {k:Nat} (hk:k<4):(idsE q)[k]?=some (ii (q k:Nat)):=by
 rcases (show k=0∨k=1∨k=2∨k=3 by omega) with rfl|rfl|rfl|rfl<;>rfl
theorem qgc (q:Nat→Nat):∀ v∈idsE q,v.oneCell'=true:=by simp [idsE,Value.oneCell']
def idsW (q:Nat→Nat):Value:=.agg #[ii (q 0:Nat),ii (q 1:Nat),ii (q 2:Nat),ii (q 3:Nat)]
theorem qnl (a b:Nat→Nat) (ab bb:Nat) (w:World) (ha:CellsAt w ab 0 (idsE a)) (hb:CellsAt w bb 0 (idsE b)) {k:Nat} (hk:k<4) (he:∀ j,j<k→a j=b j) (hlt:a k<b k) :
  Gv Tryz.prog 222 [.slice (some ⟨ab,0,none⟩) 4 4,.slice (some ⟨bb,0,none⟩) 4 4] w fun r w'=>r=ii (-1)∧w'=w:=by
 refine ze Tryz.func222 Tryz.ntmps222 ?_;refine qe (fun i:Nat=>[(0,.slice (some ⟨ab,0,none⟩) 4 4),(1,.slice (some ⟨bb,0,none⟩) 4 4),(9,.slice (some ⟨ab,0,none⟩) 4 4),(10,ii 4),(11,ii i)]) (fun i w'=>i≤k∧w'=w) (fun i=>k-i) 0 ⟨rfl,rfl,rfl,rfl,rfl,trivial⟩ ⟨Nat.zero_le _,rfl⟩ ?_;rintro i w1 ρ' ⟨i1,rfl⟩;refine zu ?_;refine ElemV.own1 i rfl Oo (zw ?_);refine LoadV.of (by have:=ha i _ (qbp a Oo);rw [Nat.zero_add] at this;exact this) (zu ?_);refine ElemV.own1 i rfl Oo (zw ?_);refine LoadV.of (by have:=hb i _ (qbp b Oo);rw [Nat.zero_add] at this;exact this) (zw ?_);refine zcv (qg9 (a i) (b i) w1) ?_;rintro r w2 ⟨rfl,rfl⟩
 by_cases h:i=k
 ·subst h;have e:intC (a i) (b i)=-1:=by rw [intC,if_pos Oo]
  rw [e];refine zu ?_;exact ⟨rfl,rfl⟩
 ·have e:intC (a i) (b i)=0:=by have:=he i Oo;rw [intC,if_neg Oo,if_neg Oo]
  rw [e];refine zu ?_;exact ⟨i+1,⟨rfl,rfl,rfl,rfl,rfl,trivial⟩,⟨by omega,rfl⟩,by omega⟩
theorem qpz (a b:Nat→Nat) (w:World) {k:Nat} (hk:k<4) (he:∀ j,j<k→a j=b j) (hlt:a k<b k) :
  Gv Tryz.prog 162 [idsW a,idsW b] w fun r w'=>r=ii (-1)∧Ext w w':=by
 refine ze Tryz.func162 Tryz.ntmps162 ?_;refine znm (Mem.nil w) fun b1 w1 hm=>zw ?_;refine znm hm fun b2 w2 hm=>zw ?_;have c1:CellsAt w2 b1 0 (idsE a):=CellsAt.mem hm (zmc mh);have c2:CellsAt w2 b2 0 (idsE b):=CellsAt.mem hm mh;refine DrawV.free rfl Ok (zw ?_);apply zsd
 ·intro wd hd;(conv=>whnf);refine Fall.arr rfl rfl Tryz.underlying101 Ok ?_;exact ⟨xr,rfl⟩
 (conv=>whnf);apply zsd
 ·intro wd hd;(conv=>whnf);refine Fall.arr rfl rfl Tryz.underlying101 Ok ?_;exact ⟨xr,rfl⟩
 (conv=>whnf);apply zsd
 ·intro wd hd;(conv=>whnf);refine zcv (qnl a b b1 b2 wd (c1.ext ((Ext.refl w2).drew.trans hd)) (c2.ext ((Ext.refl w2).drew.trans hd)) hk he hlt) ?_;rintro v w7 ⟨rfl,rfl⟩;exact ⟨xr,rfl⟩
 (conv=>whnf);refine zd ?_;intro wd hd;conv=>whnf
 (repeat (intro _ _;(conv=>whnf)))
 exact ⟨rfl,(hm.drew.call hd).ext⟩
theorem TOk.small {Q:Nat→Nat→Nat} {n:Nat} (h:TOk Q n) {i k:Nat} (hi:i<n) (hk:k<4):Q i k≤4194304:=(h.num i k hi hk).2
theorem qwk (Q:Nat→Nat→Nat) (A:oA) (n c:Nat) (w:World) (hS:SlAt idsE 4 w A ((List.range n).map Q)) (hQ:TOk Q n) :
  Gv Tryz.prog 103 [.slice A n c] w fun r w'=>r=ii 0∧Ext w w':=by
 have hnl:=hQ.nle;have hlen:((List.range n).map Q).length=n:=by simp
 have hat:∀ i (hi:i<((List.range n).map Q).length),((List.range n).map Q)[i]=Q i:=fun i hi=>by simp
 refine ze Tryz.func103 Tryz.ntmps103 ?_;refine zv ?_;refine qe (fun i:Nat=>[(0,.slice A n c),(11,.slice A n c),(12,ii n),(13,ii i)]) (fun i w1=>i≤n∧Ext w w1) (fun i=>n-i) 0 ⟨rfl,rfl,rfl,rfl,trivial⟩ ⟨Nat.zero_le _,Ext.refl w⟩ ?_;rintro i w1 ρ' ⟨i1,he1⟩;(conv=>whnf);refine zC (fun _=>zw ?_) (fun _=>zw ?_)
 ·have hi:i<n:=by omega
  refine ElemV.sl (hS.ext he1) hlen i rfl hi ?_;intro eb eo hcell;rw [hat] at hcell;(conv=>whnf);refine LoadA.cells hcell rfl (zw ?_);refine znm (Mem.nil w1) fun nb w2 hm=>zw ?_;refine StoreA.all (vs:=idsE (Q i)) hm (i:=0) rfl rfl (qgc _) ?_;intro w3 hm;have hm:Mem w1 w3 [(nb,.cells (idsE (Q i)).toArray 101)]:=hm;(conv=>whnf);refine zl hm 0 ?_;refine qe (fun k:Nat=>[(0,.slice A n c),(11,.slice A n c),(12,ii n),(13,ii i),(17,idsW (Q i)),(18,ii k)]) (fun k w2=>k≤4∧w2=w3) (fun k=>4-k) 0 ⟨rfl,rfl,rfl,rfl,rfl,rfl,trivial⟩ ⟨Nat.zero_le _,rfl⟩ ?_;rintro k w4 ρ2 ⟨k1,rfl⟩;(conv=>whnf);refine zC (fun _=>zu ?_) (fun _=>zu ?_)
  ·have hk:k<4:=by omega
   have hr:=hQ.num i k hi hk;refine ⟨ii (Q i k:Nat),by rw [show k*tsz Tryz.prog 3=k by rw [show tsz Tryz.prog 3=1 from by kernel_rfl];omega];exact qbp (Q i) hk,?_⟩;(conv=>whnf);refine zcv (qz9 k (Q i k) w4) ?_;rintro r w5 ⟨rfl,rfl⟩;refine zu ?_;exact ⟨k+1,⟨rfl,rfl,rfl,rfl,rfl,rfl,trivial⟩,⟨by omega,rfl⟩,by omega⟩
  ·obtain rfl:k=4:=by omega
   exact ⟨i+1,⟨rfl,rfl,rfl,rfl,trivial⟩,⟨by omega,he1.trans hm.ext⟩,by omega⟩
 ·obtain rfl:i=n:=by omega
  refine qe (fun k:Nat=>[(0,.slice A i c),(7,ii (k+1:Nat))]) (fun k w1=>Ext w w1) (fun k=>i-k) 0 ⟨rfl,rfl,trivial⟩ he1 ?_;rintro k w2 ρ2 he2;(conv=>whnf);refine zC (fun _=>zw ?_) (fun _=>zw ?_)
  ·have hk:k+1<i:=by omega
   obtain ⟨b,off,rfl,hcl⟩:=(hS.ext he2).at_ (by intro e;rw [e] at hlen;simp at hlen;omega);have hca:=(hcl k _ (zge (by rw [hlen];omega))).ext (Ext.refl w2).drew;have hcb:=(hcl (k+1) _ (zge (by rw [hlen];omega))).ext (Ext.refl w2).drew;rw [hat] at hca hcb;obtain ⟨kk,hk4,hsame,hlt⟩:=hQ.rise (k+1) Oo hk;refine DrawV.free rfl Ok (zw ?_);(iterate 3 (refine zd ?_));refine zf ?_ (by intro wd hd;(conv=>whnf);refine ⟨⟨b,off,k,rfl,by omega,by omega,?_⟩⟩;exact ⟨xr,rfl⟩);apply zsd
   ·intro wd hd;(conv=>whnf);refine LoadA.cells (hca.ext hd) rfl (zw ?_);exact ⟨xr,rfl⟩
   (conv=>whnf);refine zd ?_;refine zd ?_;refine zf ?_ (by intro wd hd;(conv=>whnf);refine ⟨⟨b,off,(k+1),rfl,by omega,by omega,?_⟩⟩;exact ⟨xr,rfl⟩);apply zsd
   ·intro wd hd;(conv=>whnf);refine LoadA.cells (hcb.ext hd) rfl (zw ?_);exact ⟨xr,rfl⟩
   (conv=>whnf);apply zsd
   ·intro wd hd;(conv=>whnf);refine zcv (qpz (Q k) (Q (k+1)) wd hk4 (fun j hj=>(hsame j hj).symm) hlt) ?_;rintro v w7 ⟨rfl,he⟩;exact ⟨he,rfl⟩
   (conv=>whnf);refine zd ?_;intro wd hd;have he3:=(he2.drew).trans hd;refine zu ?_;exact ⟨k+1,⟨rfl,congrArg (Value.int .i64) Oo,trivial⟩,he3,by omega⟩
  ·exact ⟨rfl,he2⟩
def eT (m:Nat):TypeId:=if m%2=0 then 125 else 5
def rwF (Z:List Nat) (rb:Nat) (G:Nat→Value):List (List Nat):=Z::[rb]::(List.range 8).map fun m=>rowF (G m)
theorem qfo (Z:List Nat) (rb:Nat) (G:Nat→Value) {m:Nat} (hm:m<8):(rwF Z rb G)[m+2]?=some (rowF (G m)):=by
 show ((List.range 8).map fun m=>rowF (G m))[m]?=_;rw [List.getElem?_map,List.getElem?_range hm];rfl
theorem q0c (Z:List Nat) (rb:Nat) (G:Nat→Value) {m:Nat} (v:Value):(rwF Z rb G).set (m+2) (rowF v)=rwF Z rb (updF G m v):=by
 show Z::[rb]::((List.range 8).map fun m=>rowF (G m)).set m (rowF v)=Z::[rb]::(List.range 8).map fun m'=>rowF (updF G m v m')
 congr 2
 refine List.ext_getElem? fun j=>?_;rw [List.getElem?_set,List.getElem?_map,List.getElem?_map]
 by_cases h:j<8
 ·rw [List.getElem?_range h]
  by_cases e:m=j
  ·subst e;rw [if_pos rfl,if_pos (by simpa using h),Option.map_some,qb6]
  ·rw [if_neg e,Option.map_some,Option.map_some,qbk _ _ _ _ (fun g=>e g.symm)]
 ·rw [List.getElem?_eq_none (by simpa using h)]
  split
  ·rw [if_neg (by rename_i e;subst e;simpa using h)];rfl
  ·rfl
structure RwS (w w':World) (Z:List Nat) (rb:Nat) (U G:Nat→Value) (L:Nat→List Value):Prop where
 sep:Sep w w' (rwF Z rb G)
 tab:w'.heap[rb]?=some (.cells (fnA 8 U) 190)
 row:∀ m,m<8→w'.ownsRow 0 (eT m) 1 (G m) (L m).length (L m)
def updR (L:Nat→List Value) (m:Nat) (x:List Value):Nat→List Value:=fun j=>if j=m then x else L j
theorem qb1 (L:Nat→List Value) (m:Nat) (x:List Value):updR L m x m=x:=if_pos rfl
theorem qba (L:Nat→List Value) (m:Nat) (x:List Value) {j:Nat} (h:j≠m):updR L m x j=L j:=if_neg h
section
variable {w w1 w2:World} {Z:List Nat} {rb:Nat} {U G:Nat→Value} {L:Nat→List Value}
theorem RwS.call (h:RwS w w1 Z rb U G L) (he:Ext w1 w2):RwS w w2 Z rb U G L:=⟨h.sep.call he,he.get h.tab,fun m hm=>q9 (h.row m hm) he⟩
theorem RwS.chg (h:RwS w w1 Z rb U G L) {m:Nat} (hm:m<8) {v:Value} {x:List Value} (ho:w2.ownsRow 0 (eT m) 1 v x.length x) (hc:Chn (rowF (G m)) w1 w2) (hn:∀ j∈rowF v,(j∈rowF (G m)∨w1.heap.size≤j)∧j<w2.heap.size) :
  RwS w w2 Z rb U (updF G m v) (updR L m x)∧∀ k∈Z,w2.heap[k]?=w1.heap[k]?:=by
 have hs:=h.sep.row (i:=m+2) (qfo Z rb G hm) hc hn;refine ⟨⟨by rw [← q0c];exact hs.sep,?_,fun j hj=>?_⟩,hs.keep 0 Z rfl Oo⟩
 ·rw [hs.keep 1 [rb] rfl Oo rb (List.mem_singleton.2 rfl)];exact h.tab
 ·by_cases e:j=m
  ·subst e;rw [qb6,qb1];exact ho
  ·rw [qbk _ _ _ _ e,qba _ _ _ e];exact qo (h.row j hj) fun i hi=>hs.keep (j+2) _ (qfo Z rb G hj) Oo i hi
theorem RwS.store (h:RwS w w1 Z rb U G L) {m:Nat} (hm:m<8) {v:Value} (_:G m=v) {K:World→Prop} (h1:qbz v=true) (hK:∀ w2,RwS w w2 Z rb (updF U m v) G L→(∀ k∈Z,w2.heap[k]?=w1.heap[k]?)→K w2):StoreV w1 rb m v K:=by
 refine StoreV.own h.tab (by rw [qn];exact hm) h1 fun w2 hw=>?_;obtain ⟨hc,hg⟩:=Chn.set h.tab hw;have hs:=h.sep.row (i:=1) (F':=[rb]) rfl hc fun j hj=>⟨.inl hj,by rw [List.mem_singleton.1 hj];exact qa5 hg⟩
 exact hK w2 ⟨hs.sep,by rw [hg,qdw],fun j hj=>qo (h.row j hj) fun i hi=>hs.keep (j+2) _ (qfo Z rb G hj) Oo i hi⟩ (hs.keep 0 Z rfl Oo)
theorem RwS.eqU {V:Nat→Value} (h:RwS w w1 Z rb U G L) (e:∀ m,m<8→U m=V m):RwS w w1 Z rb V G L:=by
 refine ⟨h.sep,?_,h.row⟩;have e2:fnA 8 V=fnA 8 U:=by
  rw [fnA,fnA]
  congr 1
  exact (List.map_congr_left fun m hm=>e m (List.mem_range.1 hm)).symm
 rw [e2];exact h.tab
theorem RwS.eqL {M:Nat→List Value} (h:RwS w w1 Z rb U G L) (e:∀ m,m<8→L m=M m):RwS w w1 Z rb U G M:=
 ⟨h.sep,h.tab,fun m hm=>by rw [← e m hm];exact h.row m hm⟩
end
theorem qqj (j:Nat):eT (2*j)=125:=if_pos Oo
theorem qk1 (j:Nat):eT (2*j+1)=5:=if_neg Oo
structure RwR (w w1 w2:World) (Z:List Nat) (rb:Nat) (L:Nat→List Value):Prop where
 h:∃ G,RwS w w2 Z rb G G L
 z:∀ k∈Z,w2.heap[k]?=w1.heap[k]?
theorem qwa (w w1:World) (Z:List Nat) (rb:Nat) (G:Nat→Value) (L:Nat→List Value) (h:RwS w w1 Z rb G G L) (j x:Nat) (hj:j<4) (ns:List Nat) (bs:LB) (hns:L (2*j)=u64V ns) (hbs:L (2*j+1)=byV bs) (hl:ns.length≤1048576) (hb:bs.length≤1048576) (hx:x<18446744073709551616) :
  Gv Tryz.prog 164 [.pointer (some ⟨rb,2*j,none⟩),ii x] w1 fun r w2=>r=.tuple #[]∧RwR w w1 w2 Z rb (updR (updR L (2*j+1) (byV (gro ns.length bs))) (2*j) (u64V (ns++[x]))):=by
 obtain ⟨A0,c0,e0⟩:=q8 (h.row (2*j) Oo);obtain ⟨A1,c1,e1⟩:=q8 (h.row (2*j+1) Oo);have hl0:(L (2*j)).length=ns.length:=by rw [hns,qa2]
 have hl1:(L (2*j+1)).length=bs.length:=by rw [hbs,qae]
 rw [hl0] at e0;rw [hl1] at e1;have half:∀ (w3:World) (G3:Nat→Value) (L3:Nat→List Value),RwS w w3 Z rb G3 G3 L3→(∀ k∈Z,w3.heap[k]?=w1.heap[k]?)→G3 (2*j)=.slice A0 ns.length c0→L3 (2*j)=u64V ns→(∀ m,m<8→updR L3 (2*j) (u64V (ns++[x])) m=updR (updR L (2*j+1) (byV (gro ns.length bs))) (2*j) (u64V (ns++[x])) m)→
   ∀ (nb:Nat) (w4:World),nb=w3.heap.size→w4=w3.alloc (.cells #[.int .u64 x] 125)→∀ (K:Value→World→Prop),(∀ A' c' w5,(∀ K2:World→Prop,(∀ w6,RwR w w1 w6 Z rb (updR (updR L (2*j+1) (byV (gro ns.length bs))) (2*j) (u64V (ns++[x])))→K2 w6)→StoreV w5 rb (2*j) (.slice A' (ns.length+1) c') K2)→K (.slice A' (ns.length+1) c') w5)→
    AppV Tryz.prog #[148,148] 148 (.slice A0 ns.length c0) (.slice (some ⟨nb,0,none⟩) 1 1) w4 K:=by
  intro w3 G3 L3 h3 hz3 hG3 hL3 hLe nb w4 hnb hw4 K hK;have he4:Ext w3 w4:=by rw [hw4];exact (Ext.refl w3).alloc _
  have hc4:w4.heap[nb]?=some (.cells #[.int .u64 x] 125):=by rw [hw4,hnb];exact heap_alloc_new w3 _
  have h4:=h3.call he4;have hz4:∀ k∈Z,w4.heap[k]?=w1.heap[k]?:=fun k hk=>by rw [he4.block k (h3.sep.lo Z mh k hk).2];exact hz3 k hk
  have hr:=h4.row (2*j) Oo;rw [hG3,hL3,qa2,qqj] at hr;refine AppV.cell q0w u64I u64Z Ok rfl (by decide +kernel) hr hc4 rfl Oo ?_;intro A' c' w5 ho hch hnew;refine hK A' c' w5 fun K2 hK2=>?_
  have hlen:(u64V (ns++[x])).length=ns.length+1:=by rw [qa2,zla];rfl
  obtain ⟨h5,hz5⟩:=h4.chg (m:=2*j) Oo (v:=.slice A' (ns.length+1) c') (x:=u64V (ns++[x])) (by
   rw [hlen,qqj,u64V,List.map_append];exact ho) (by rw [hG3];exact hch) (by rw [hG3];exact hnew)
  refine h5.store (m:=2*j) Oo (qb6 _ _ _) rfl ?_;intro w6 h6 hz6;refine hK2 w6 ⟨⟨_,h6.eqL hLe⟩,fun k hk=>?_⟩;rw [hz6 k hk,hz5 k hk,hz4 k hk]
 refine ze Tryz.func164 Tryz.ntmps164 ?_;refine LoadV.own h.tab (v:=.slice A0 ns.length c0) ((qan 8 G (2*j) Oo).trans (congrArg some e0)) (zw ?_);refine zt ?_;refine zC (fun _=>zw ?_) (fun _=>zw ?_)
 ·have hg:gro ns.length bs=bs++[0]:=by rw [gro,if_pos Oo]
  refine LoadV.own h.tab (v:=.slice A1 bs.length c1) ((qan 8 G (2*j+1) Oo).trans (congrArg some e1)) (zw ?_);refine ⟨fun nb w2 hnb hw=>?_⟩;have he2:Ext w1 w2:=by rw [hw];exact (Ext.refl w1).alloc _
  have hc2:w2.heap[nb]?=some (.cells #[.int .u8 0] 5):=by rw [hw,hnb];exact heap_alloc_new w1 _
  have h2:=h.call he2;have hz2:∀ k∈Z,w2.heap[k]?=w1.heap[k]?:=fun k hk=>he2.block k (h.sep.lo Z mh k hk).2
  clear hnb hw;have hr:=h2.row (2*j+1) Oo;rw [e1,hbs,qae,qk1] at hr;(conv=>whnf);refine AppV.cell qbf bytI bytZ Ok rfl (by decide +kernel) hr hc2 rfl Oo ?_;intro A' c' w3 ho hch hnew;obtain ⟨h3,hz3⟩:=h2.chg (m:=2*j+1) Oo (v:=.slice A' (bs.length+1) c') (x:=byV (bs++[0])) (by
   rw [qae,zla,List.length_singleton,qk1,byV,List.map_append];exact ho) (by rw [e1];exact hch) (by rw [e1];exact hnew)
  (conv=>whnf);refine h3.store (m:=2*j+1) Oo (qb6 _ _ _) rfl ?_;intro w4 h4 hz4;have h4:=h4;(conv=>whnf);refine LoadV.own h4.tab (v:=.slice A0 ns.length c0) ((qan 8 _ (2*j) Oo).trans (congrArg some (by rw [qbk _ _ _ _ Oo];exact e0))) (zu ?_);refine ⟨fun nb2 w5 hnb2 hw5=>?_⟩;(conv=>whnf);refine half w4 _ _ h4 (fun k hk=>by rw [hz4 k hk,hz3 k hk,hz2 k hk]) (by rw [qbk _ _ _ _ Oo,e0]) (by rw [qba _ _ _ Oo,hns]) (fun m hm=>by rw [hg]) nb2 w5 hnb2 hw5 _ ?_;intro A3 c3 w6 hst;(conv=>whnf);refine hst _ fun w7 h7=>?_;(conv=>whnf);exact ⟨rfl,h7⟩
 ·have hg:gro ns.length bs=bs:=by rw [gro,if_neg Oo]
  refine LoadV.own h.tab (v:=.slice A0 ns.length c0) ((qan 8 G (2*j) Oo).trans (congrArg some e0)) (zu ?_);refine ⟨fun nb2 w5 hnb2 hw5=>?_⟩;(conv=>whnf);refine half w1 _ _ h (fun k hk=>rfl) e0 hns (fun m hm=>by
   by_cases e:m=2*j
   ·subst e;rw [qb1,qb1]
   ·rw [qba _ _ _ e,qba _ _ _ e]
    by_cases e2:m=2*j+1
    ·subst e2;rw [qb1,hg,hbs]
    ·rw [qba _ _ _ e2]) nb2 w5 hnb2 hw5 _ ?_
  intro A3 c3 w6 hst;(conv=>whnf);refine hst _ fun w7 h7=>?_;(conv=>whnf);exact ⟨rfl,h7⟩
theorem qzp {w w':World} {base n j:Nat} {e:TypeId} {A:oA} {c g:Nat} {xs:List Value} {v:Value} (h:w.ownsRow base e 1 (.slice A n c) n xs) (hA:A=some ⟨g,0,none⟩) (_:j<n) (hw:w'=w.setCell ⟨g,j,none⟩ v):w'.ownsRow base e 1 (.slice A n c) n (xs.set j v)∧Chn [g] w w':=by
 subst hA;have hxl:=h.1
 rcases h.2 with ⟨e1,e2⟩|⟨g',cap,cur,e1,hb,hg,h2,h3,h4,h5⟩
 ·cases e1
 ·cases e1;obtain ⟨hc,hg2⟩:=Chn.set hg hw;refine ⟨⟨by simp [hxl],.inr ⟨g,c,_,rfl,hb,hg2,h2,h3,by simp [h4],?_⟩⟩,hc⟩;rw [← h5];simp [List.take_set]
theorem qh8 (w w1:World) (Z:List Nat) (rb:Nat) (G:Nat→Value) (L:Nat→List Value) (h:RwS w w1 Z rb G G L) (j:Nat) (hj:j<4) (ns:List Nat) (S:List Bool) (hns:L (2*j)=u64V ns) (hbs:L (2*j+1)=byV (opB S)) (hSn:S.length=ns.length) (hl:ns.length≤1048576) :
  Gv Tryz.prog 163 [.pointer (some ⟨rb,2*j,none⟩)] w1 fun r w2=>r=.tuple #[]∧RwR w w1 w2 Z rb (updR L (2*j+1) (byV (qat S))):=by
 obtain ⟨A0,c0,e0⟩:=q8 (h.row (2*j) Oo);obtain ⟨A1,c1,e1⟩:=q8 (h.row (2*j+1) Oo);have hl0:(L (2*j)).length=ns.length:=by rw [hns,qa2]
 have hl1:(L (2*j+1)).length=upN S.length 8:=by rw [hbs,qae,qm1]
 rw [hl0] at e0;rw [hl1] at e1;refine ze Tryz.func163 Tryz.ntmps163 ?_;refine LoadV.own h.tab (v:=.slice A0 ns.length c0) ((qan 8 G (2*j) Oo).trans (congrArg some e0)) (zw ?_);refine zt ?_;refine zC (fun _=>zw ?_) (fun _=>zw ?_)
 ·obtain ⟨e,he⟩:∃ e,S.length=e+1:=⟨S.length-1,by omega⟩
  have ei:(ns.length:Int)-1=(e:Int):=by omega
  rw [ei];have hup:upN S.length 8=(S.length+7)/8:=rfl;have hby:=qky (opT S) (e/8);have hr:=h.row (2*j+1) Oo;rw [e1,hl1,hbs,qk1] at hr;obtain ⟨g,hA1,hrg⟩:∃ g,A1=some ⟨g,0,none⟩∧∃ cur,w1.heap[g]?=some (.cells cur 5)∧cur[e/8]?=some (.int .u8 (byt (opT S) (e/8):Nat))∧cur.size=c1∧upN S.length 8≤c1:=by
   rcases hr.2 with ⟨q1,q2⟩|⟨g,cap,cur,q1,_,hg,q3,_,q4,q5⟩
   ·exfalso;omega
   ·cases q1;refine ⟨g,rfl,cur,hg,?_,by omega,q3⟩;have hb:=qdr (f:=opT S) (m:=upN S.length 8) (b:=e/8) Oo;rw [← opB,← q5,List.getElem?_take,if_pos Oo] at hb
    simpa using hb
  subst hA1;obtain ⟨cur,hg,hcell,hcs,hcu⟩:=hrg;have hg0:=(Ext.refl w1).drew.get hg;have ht0:=(Ext.refl w1).drew.get h.tab;refine DrawV.own rfl Ok (zw ?_);(iterate 3 (refine zo ?_));apply StepO.still
  ·intro wd hd;(conv=>whnf);refine LoadV.own (hd.get ht0) (by rw [qan 8 G (2*j+1) Oo,e1]) (zw ?_);exact PostO.still xr rfl
  (conv=>whnf);refine zo ?_;refine zo ?_;apply StepO.still
  ·intro wd hd;(conv=>whnf);refine ElemV.own1 (e/8) Oo Oo (zw ?_);exact PostO.still xr rfl
  (conv=>whnf);apply StepO.still
  ·intro wd hd;(conv=>whnf);refine LoadV.own (hd.get hg0) hcell (zw ?_);exact PostO.still xr rfl
  (conv=>whnf);refine zo ?_;refine zo ?_;apply StepO.still
  ·intro wd1 hd;(conv=>whnf);refine V.Wit.shlN (a:=1) (e%8) Oo (by show e%8<8;omega) (qd8 ?_) ?_
   ·have h2:2 ^ (e%8)≤2 ^ 7:=Nat.pow_le_pow_right Od Oo;have e7:(2:Nat) ^ 7=128:=by decide
    show 1*2 ^ (e%8)<256;omega
   rw [Nat.one_mul];(conv=>whnf);exact PostO.still xr rfl
  (conv=>whnf);apply StepO.still
  ·intro wd1 hd;(conv=>whnf);refine Wit.eq (q8h he) (zw ?_);exact PostO.still xr rfl
  (conv=>whnf);apply StepO.still
  ·intro wd1 hd;(conv=>whnf);refine ElemV.own1 (e/8) Oo Oo (zw ?_);exact PostO.still xr rfl
  (conv=>whnf);intro w8 hd8
  (repeat (intro _;(conv=>whnf)))
  (conv=>whnf);have h8:=h.call ((Ext.refl w1).drew.trans hd8);have hg8:=hd8.get hg0;have hz8:∀ k∈Z,w8.heap[k]?=w1.heap[k]?:=fun k hk=>((Ext.refl w1).drew.trans hd8).block k (h.sep.lo Z mh k hk).2
  refine StoreV.own hg8 Oo rfl ?_;intro w9 hw9;have hr8:=h8.row (2*j+1) Oo;rw [e1,hl1,hbs,qk1] at hr8;obtain ⟨ho,hc⟩:=qzp hr8 rfl (show e/8<upN S.length 8 by omega) hw9;have ho:w9.ownsRow 0 5 1 (.slice (some ⟨g,0,none⟩) (upN S.length 8) c1) (upN S.length 8) ((byV (opB S)).set (e/8) (.int .u8 (byt (opT S) (e/8)+2 ^ (e%8):Nat))):=ho;rw [qzi he] at ho;obtain ⟨h9,hz9⟩:=h8.chg (m:=2*j+1) Oo (v:=.slice (some ⟨g,0,none⟩) (upN S.length 8) c1) (x:=byV (qat S)) (by rw [qae,qcr,qk1];exact ho) (by rw [e1];exact hc) (by
   rw [e1];intro k hk;refine ⟨.inl hk,?_⟩;rw [List.mem_singleton.1 hk];exact Nat.lt_of_lt_of_le (qa5 hg8) hc.size)
  (conv=>whnf);refine ⟨rfl,⟨_,h9.eqU (V:=updF G (2*j+1) (.slice (some ⟨g,0,none⟩) (upN S.length 8) c1)) fun m hm=>?_⟩,fun k hk=>by rw [hz9 k hk,hz8 k hk]⟩
  by_cases q:m=2*j+1
  ·subst q;rw [qb6,e1]
  ·rw [qbk _ _ _ _ q]
 ·have h0:S=[]:=List.eq_nil_of_length_eq_zero Oo;subst h0;refine ⟨rfl,⟨G,h.eqL fun m hm=>?_⟩,fun k hk=>rfl⟩
  by_cases q:m=2*j+1
  ·subst q;rw [qb1,hbs,q6c]
  ·rw [qba _ _ _ q]
def stJ (Q:Nat→Nat→Nat) (j i:Nat):List Bool:=if j=0 then List.replicate (leT Q 0 i) false else stT Q (j-1) i
theorem qb5 (Q:Nat→Nat→Nat) (j i:Nat):(stJ Q j i).length=leT Q j i:=by
 rw [stJ]
 split
 ·rename_i h;subst h;exact List.length_replicate
 ·rw [qfz,Nat.sub_add_cancel Oo]
theorem q0n (Q:Nat→Nat→Nat) {j:Nat} (h:j≠0) (i:Nat):stJ Q j i=stT Q (j-1) i:=if_neg h
theorem qug {Q:Nat→Nat→Nat} {j i:Nat} (h:frU Q i j=false):stJ Q j (i+1)=stJ Q j i:=by
 rw [stJ,stJ]
 split
 ·rename_i h0;subst h0;rw [qc4 h]
 ·rw [stT,Nat.sub_add_cancel Oo,if_neg (by rw [h];decide)]
theorem q0m {Q:Nat→Nat→Nat} {j i:Nat} (h:frU Q i j=true):stJ Q j (i+1)=stJ Q j i++[if j=0 then false else frU Q i (j-1)]:=by
 rw [stJ,stJ]
 split
 ·rename_i h0;subst h0;rw [qdy h,List.replicate_succ']
 ·rw [stT,Nat.sub_add_cancel Oo,if_pos h]
theorem qzb {Q:Nat→Nat→Nat} {j i:Nat} (h:frU Q i j=true):nuT Q j (i+1)=nuT Q j i++[Q i j]:=by rw [nuT,if_pos h]
theorem qts {Q:Nat→Nat→Nat} {j i:Nat} (h:frU Q i j=false):nuT Q j (i+1)=nuT Q j i:=by rw [nuT,if_neg (by rw [h];decide)]
theorem TOk.first {Q:Nat→Nat→Nat} {n:Nat} (h:TOk Q n) {i:Nat} (hi:i<n):∃ k,k<4∧(∀ j,j<k→frU Q i j=false)∧(∀ j,k≤j→frU Q i j=true)∧(0<i→(∀ j,j<k→Q i j=Q (i-1) j)∧Q i k≠Q (i-1) k)∧(i=0→k=0):=by
 by_cases h0:i=0
 ·subst h0;exact ⟨0,by decide,fun j hj=>by omega,fun j _=>qga Q j,fun h=>by omega,fun _=>rfl⟩
 ·obtain ⟨k,hk,h1,h2⟩:=h.rise i Oo hi;refine ⟨k,hk,fun j hj=>q31 Oo fun m hm=>h1 m Oo,fun j hj=>?_,fun _=>⟨h1,by omega⟩,fun g=>absurd g h0⟩;cases hf:frU Q i j with
  | true=>rfl
  | false=>
   have:=(qml hf).2 k hj;omega
def LoQ (Q:Nat→Nat→Nat) (i m:Nat):List Value:=if m%2=0 then u64V (nuT Q (m/2) i) else byV (opB (stJ Q (m/2) i))
def LcQ (Q:Nat→Nat→Nat) (i kk j m:Nat):List Value:=if m%2=1∧kk<m/2∧m/2<j then byV (qat (stJ Q (m/2) i)) else LoQ Q i m
def LpQ (Q:Nat→Nat→Nat) (i kk j m:Nat):List Value:=if kk≤m/2∧m/2<j then LoQ Q (i+1) m else LcQ Q i kk 4 m
theorem qsj (Q:Nat→Nat→Nat) (i j:Nat):LoQ Q i (2*j)=u64V (nuT Q j i):=by rw [LoQ,if_pos Oo,show 2*j/2=j by omega]
theorem qww (Q:Nat→Nat→Nat) (i j:Nat):LoQ Q i (2*j+1)=byV (opB (stJ Q j i)):=by rw [LoQ,if_neg Oo,show (2*j+1)/2=j by omega]
theorem q1g {Q:Nat→Nat→Nat} {i m:Nat} (h:frU Q i (m/2)=false):LoQ Q (i+1) m=LoQ Q i m:=by rw [LoQ,LoQ,qts h,qug h]
theorem qny (Q:Nat→Nat→Nat) (i kk m:Nat):LcQ Q i kk (kk+1) m=LoQ Q i m:=if_neg Oo
theorem qf1 (Q:Nat→Nat→Nat) (i kk j l:Nat):LcQ Q i kk l (2*j)=u64V (nuT Q j i):=by rw [LcQ,if_neg Oo,qsj]
theorem qlt {Q:Nat→Nat→Nat} {i kk j l:Nat} (h:¬ (kk<j∧j<l)):LcQ Q i kk l (2*j+1)=byV (opB (stJ Q j i)):=by rw [LcQ,if_neg Oo,qww]
theorem qil {Q:Nat→Nat→Nat} {i kk j l:Nat} (h:kk<j) (h2:j<l):LcQ Q i kk l (2*j+1)=byV (qat (stJ Q j i)):=by rw [LcQ,if_pos Oo,show (2*j+1)/2=j by omega]
theorem qse {Q:Nat→Nat→Nat} {i kk j:Nat} (h:kk<j) (m:Nat):updR (LcQ Q i kk j) (2*j+1) (byV (qat (stJ Q j i))) m=LcQ Q i kk (j+1) m:=by
 by_cases e:m=2*j+1
 ·subst e;rw [qb1,qil h Oo]
 ·rw [qba _ _ _ e,LcQ,LcQ]
  by_cases g:m%2=1∧kk<m/2∧m/2<j
  ·rw [if_pos g,if_pos Oo]
  ·rw [if_neg g,if_neg Oo]
theorem qwy (Q:Nat→Nat→Nat) (i kk m:Nat):LpQ Q i kk kk m=LcQ Q i kk 4 m:=if_neg Oo
theorem qwx (Q:Nat→Nat→Nat) (i kk j:Nat) {m:Nat} (h:m/2=j):LpQ Q i kk j m=LcQ Q i kk 4 m:=if_neg Oo
theorem q1h {Q:Nat→Nat→Nat} {i kk j:Nat} (h:kk≤j) (m:Nat):updR (updR (LpQ Q i kk j) (2*j+1) (LoQ Q (i+1) (2*j+1))) (2*j) (LoQ Q (i+1) (2*j)) m=LpQ Q i kk (j+1) m:=by
 by_cases e:m=2*j
 ·subst e;rw [qb1,LpQ,if_pos Oo]
 ·rw [qba _ _ _ e]
  by_cases e2:m=2*j+1
  ·subst e2;rw [qb1,LpQ,if_pos Oo]
  ·rw [qba _ _ _ e2,LpQ,LpQ]
   by_cases g:kk≤m/2∧m/2<j
   ·rw [if_pos g,if_pos Oo]
   ·rw [if_neg g,if_neg Oo]
theorem q4v {Q:Nat→Nat→Nat} {i kk:Nat} (hs:∀ j,j<kk→frU Q i j=false) {m:Nat} (hm:m<8):LpQ Q i kk 4 m=LoQ Q (i+1) m:=by
 rw [LpQ]
 by_cases g:kk≤m/2∧m/2<4
 ·rw [if_pos g]
 ·rw [if_neg g,LcQ,if_neg Oo,q1g (hs _ Oo)]
section
variable {w w1 w2:World} {Z:List Nat} {rb:Nat} {U G:Nat→Value} {L:Nat→List Value}
theorem RwS.newZ (h:RwS w w1 Z rb U G L) {b:Nat} {o:Obj} (hb:b=w1.heap.size) (hw:w2=w1.alloc o):RwS w w2 [b] rb U G L∧w2.heap[b]?=some o:=by
 have he:Ext w1 w2:=by rw [hw];exact (Ext.refl w1).alloc _
 obtain ⟨s,hg⟩:=(h.sep.drop 1).new hb hw;exact ⟨⟨s,he.get h.tab,fun m hm=>q9 (h.row m hm) he⟩,hg⟩
theorem RwS.chgZ (h:RwS w w1 Z rb U G L) (hc:Chn Z w1 w2):RwS w w2 Z rb U G L:=by
 have hs:=h.sep.row (i:=0) (F':=Z) rfl hc fun k hk=>⟨.inl hk,Nat.lt_of_lt_of_le (h.sep.lo Z mh k hk).2 hc.size⟩
 refine ⟨hs.sep,?_,fun m hm=>qo (h.row m hm) fun i hi=>hs.keep (m+2) _ (qfo Z rb G hm) Oo i hi⟩;rw [hs.keep 1 [rb] rfl Oo rb (List.mem_singleton.2 rfl)];exact h.tab
theorem RwS.noZ (h:RwS w w1 Z rb U G L):RwS w w1 [] rb U G L:=⟨(h.sep.drop 1).add (F:=[]) (Ext.refl w1) (fun k hk=>by cases hk),h.tab,h.row⟩
end
def ReI (w9:World) (Post:World→Prop) (s4 s5:Bool) (w':World):Prop:=(s5=false∧Ext w9 w')∨(s5=true∧s4=true∧Post w')
theorem ReI.load {w9 w':World} {Post:World→Prop} {s5:Bool} (h:ReI w9 Post false s5 w'):s5=false∧Ext w9 w':=by
 rcases h with h|⟨_,h,_⟩
 ·exact h
 ·cases h
theorem ReI.call {w9 w':World} {Post:World→Prop} {s4:Bool} (h:ReI w9 Post s4 false w'):Ext w9 w':=by
 rcases h with h|⟨h,_⟩
 ·exact h.2
 ·cases h
theorem ReI.post {w9 w':World} {Post:World→Prop} {s4:Bool} (h:ReI w9 Post s4 true w'):Post w':=by
 rcases h with ⟨h,_⟩|⟨_,_,h⟩
 ·cases h
 ·exact h
def q7g (Q:Nat→Nat→Nat) (n:Nat) (w0 w:World) (r:Value):Prop:=
 ∃ (NA LA:Nat→oA) (NC LC:Nat→Nat),r=.agg #[.slice (NA 0) (leT Q 0 n) (NC 0),.slice (LA 0) (upN (leT Q 0 n) 8) (LC 0),.slice (NA 1) (leT Q 1 n) (NC 1),.slice (LA 1) (upN (leT Q 1 n) 8) (LC 1),
  .slice (NA 2) (leT Q 2 n) (NC 2),.slice (LA 2) (upN (leT Q 2 n) 8) (LC 2),.slice (NA 3) (leT Q 3 n) (NC 3),.slice (LA 3) (upN (leT Q 3 n) 8) (LC 3)]∧
  (∀ j,j<4→SlAt encU 1 w (NA j) (nuT Q j n))∧(∀ j,0<j→j<4→SlAt encB 1 w (LA j) (qat (stT Q (j-1) n)))∧
  ∀ j,j<4→∀ x∈rowF (.slice (NA j) 0 0)++rowF (.slice (LA j) 0 0),w0.heap.size≤x∧x<w.heap.size
theorem q3f (Q:Nat→Nat→Nat) (A:oA) (n c:Nat) (w:World) (hS:SlAt idsE 4 w A ((List.range n).map Q)) (hQ:TOk Q n) :
  Gv Tryz.prog 104 [.slice A n c] w fun r w'=>q7g Q n w w' r∧Ext w w':=by
 have hnl:=hQ.nle;have hlen:((List.range n).map Q).length=n:=by simp
 have hat:∀ i (hi:i<((List.range n).map Q).length),((List.range n).map Q)[i]=Q i:=fun i hi=>by simp
 have hns:∀ j i,i≤n→(nuT Q j i).length≤1048576:=fun j i hi=>by have:=qos (Q:=Q) j i;show leT Q j i≤_;omega
 have t2:tsz Tryz.prog 189=2:=by kernel_rfl
 have t1:tsz Tryz.prog 3=1:=by kernel_rfl
 refine ze Tryz.func104 Tryz.ntmps104 ?_;refine ⟨fun r2 w1 hr2 hw1=>?_⟩;have he1:Ext w w1:=by rw [hw1];exact (Ext.refl w).alloc _
 have hr2c:w1.heap[r2]?=some (.cells #[.slice none 0 0,.slice none 0 0,.slice none 0 0,.slice none 0 0,.slice none 0 0,.slice none 0 0,.slice none 0 0,.slice none 0 0] 190):=by rw [hw1,hr2];exact heap_alloc_new w _
 have hr2n:w.heap.size≤r2:=by omega
 clear hr2 hw1;(conv=>whnf);refine ⟨fun rb w2 hrb hw2=>?_⟩;have h0:RwS w1 w2 [] rb (fun _=>.slice none 0 0) (fun _=>.slice none 0 0) (LoQ Q 0):=by
  have hall:∀ F∈(List.range 8).map (fun _:Nat=>rowF (.slice none 0 0)),F=[]:=fun F hF=>by
   obtain ⟨_,_,rfl⟩:=List.mem_map.1 hF;rfl
  have s0:Sep w1 w1 ((List.range 8).map fun _=>rowF (.slice none 0 0)):=by
   refine ⟨Ext.refl w1,fun F hF k hk=>?_,List.pairwise_iff_getElem.2 fun i j hi hj _ k hk=>?_⟩
   ·rw [hall F hF] at hk;cases hk
   ·rw [hall _ (List.getElem_mem hi)] at hk;cases hk
  obtain ⟨s1,hg⟩:=s0.new hrb hw2;refine ⟨s1.add (F:=[]) (Ext.refl w2) (fun k hk=>by cases hk),hg,fun m hm=>?_⟩;have e:LoQ Q 0 m=[]:=by
   have hb:opB []=[]:=List.eq_nil_of_length_eq_zero (by rw [qm1];rfl);rw [LoQ]
   split
   ·rfl
   ·rw [stJ]
    split
    ·rw [show leT Q 0 0=0 from rfl,List.replicate_zero,hb];rfl
    ·rw [show stT Q (m/2-1) 0=[] from rfl,hb];rfl
  rw [e];exact World.ownsRow_nil _ _ _ _
 clear hrb hw2;(conv=>whnf);refine qe (fun i:Nat=>[(0,.slice A n c),(2,pp r2),(3,pp rb),(10,.slice A n c),(11,ii n),(12,ii i)])
  (fun i w'=>i≤n∧∃ G,RwS w1 w' [] rb G G (LoQ Q i)) (fun i=>n-i) 0 ⟨rfl,rfl,rfl,rfl,rfl,rfl,trivial⟩ ⟨Nat.zero_le _,_,h0⟩ ?_
 clear h0;rintro i w3 ρ' ⟨i1,G,hR⟩;(conv=>whnf);refine zC (fun _=>zw ?_) (fun _=>zw ?_)
 ·have hi:i<n:=by omega
  obtain ⟨kk,hk4,hf0,hf1,hq,hz⟩:=hQ.first hi;refine ElemV.sl (hS.ext (he1.trans hR.sep.ext)) hlen i rfl hi ?_;intro eb eo hcell;rw [hat] at hcell;(conv=>whnf);refine LoadA.cells hcell rfl (zw ?_);refine ⟨fun qb w4 hqb hw4=>?_⟩;obtain ⟨hR,hqc⟩:=hR.newZ hqb hw4;clear hqb hw4;(conv=>whnf);refine StoreA.blk hqc (by show 0+4≤4;decide) (qgc (Q i)) ?_;intro w5 hc5 hq5;have hR:=hR.chgZ hc5;have hq5:w5.heap[qb]?=some (.cells (idsE (Q i)).toArray 101):=hq5;clear hc5 hqc;(conv=>whnf);refine zC (fun _=>zu ?_) (fun _=>zu ?_)
  case' refine_1=>
   refine qe (fun k:Nat=>[(0,.slice A n c),(2,pp r2),(3,pp rb),(4,ii i),(5,pp qb),(6,ii k),(10,.slice A n c),(11,ii n),(12,ii i)]) (fun k w'=>k≤kk∧Ext w5 w') (fun k=>kk-k) 0 ⟨rfl,rfl,rfl,rfl,rfl,rfl,rfl,rfl,rfl,trivial⟩ ⟨Nat.zero_le _,xr⟩ ?_;rintro k w6 ρ2 ⟨k1,he6⟩;obtain ⟨hs1,hs2⟩:=hq Oo;obtain ⟨ab,ao,eA,hcl⟩:=(hS.ext (he1.trans (hR.sep.ext.trans he6))).at_ (by intro e;rw [e] at hlen;simp at hlen;omega);have hp:=(hcl (i-1) _ (zge (by rw [hlen];omega))).ext (Ext.refl w6).drew;rw [hat] at hp;have hq6:=(Ext.refl w6).drew.get (he6.get hq5);(conv=>whnf);refine zy ?_;refine zv ?_;refine LoadV.own hq6 (by rw [t1,Nat.zero_add,Nat.mul_one,List.getElem?_toArray];exact qbp (Q i) Oo) ?_;refine zu ?_;refine ⟨⟨ab,ao,i-1,eA,by omega,by omega,?_⟩⟩;refine zu ?_;refine LoadV.of (by rw [t1,Nat.mul_one];exact hp k _ (qbp (Q (i-1)) Oo)) (zw ?_);refine zt ?_;refine zC (fun _=>zu ?_) (fun _=>zu ?_)
   ·have hkk:k≠kk:=fun e=>by subst e;omega
    exact ⟨k+1,⟨rfl,rfl,rfl,rfl,rfl,rfl,rfl,rfl,rfl,trivial⟩,⟨by omega,he6.drew⟩,by omega⟩
   have hkv:(k:Int)=(kk:Int):=by
    rcases Nat.lt_or_ge k kk with g|g
    ·have:=hs1 k g;omega
    ·omega
   have hRc:=hR.call he6.drew;have hqc:=(he6.drew).get hq5;obtain ⟨w7,ew7⟩:∃ w7,w7=w6.drew:=⟨_,rfl⟩
   rw [← ew7] at hRc hqc ⊢;obtain ⟨kv,ekv⟩:∃ kv:Int,kv=(k:Int):=⟨_,rfl⟩
   rw [← ekv] at hkv ⊢
  case' refine_2=>
   have hRc:=hR;have hqc:=hq5;have hkv:(0:Int)=(kk:Int):=by have:=hz Oo;omega
   obtain ⟨w7,ew7⟩:∃ w7,w7=w5:=⟨_,rfl⟩
   rw [← ew7] at hRc hqc ⊢;have kv:=(0:Int)
  all_goals
   refine qe (fun j:Nat=>[(0,.slice A n c),(2,pp r2),(3,pp rb),(5,pp qb),(6,ii kk),(7,ii j),(10,.slice A n c),(11,ii n),(12,ii i)])
    (fun j w'=>kk+1≤j∧j≤4∧w'.heap[qb]?=some (.cells (idsE (Q i)).toArray 101)∧∃ G,RwS w1 w' [qb] rb G G (LcQ Q i kk j)) (fun j=>4-j) (kk+1)
    ⟨rfl,rfl,rfl,rfl,congrArg (Value.int .i64) hkv,congrArg (Value.int .i64) Oo,rfl,rfl,rfl,trivial⟩ ⟨Nat.le_refl _,by omega,hqc,G,hRc.eqL fun m _=>(qny Q i kk m).symm⟩ ?_
   clear hRc hqc;rintro j w8 ρ3 ⟨j1,j2,hqc,G3,hR3⟩;conv=>whnf
   (repeat' (first|refine zp ?_|refine zC (fun _=>zw ?_) (fun _=>zw ?_)))
   ·have hj4:j<4:=by omega
    rw [t2,show 0+j*2=2*j by omega];refine zcv (qh8 w1 w8 [qb] rb G3 (LcQ Q i kk j) hR3 j hj4 (nuT Q j i) (stJ Q j i) (qf1 Q i kk j j) (qlt Oo) (qb5 Q j i) (hns j i i1)) ?_;rintro r w9 ⟨rfl,⟨G4,hR4⟩,hz4⟩;refine zu ?_;exact ⟨j+1,⟨rfl,rfl,rfl,rfl,rfl,rfl,rfl,rfl,rfl,trivial⟩,⟨by omega,by omega,by rw [hz4 qb (List.mem_singleton.2 rfl)];exact hqc,G4,hR4.eqL fun m _=>qse Oo m⟩,by omega⟩
   ·obtain rfl:j=4:=by omega
    refine qe (fun j:Nat=>[(0,.slice A n c),(2,pp r2),(3,pp rb),(5,pp qb),(8,ii j),(10,.slice A n c),(11,ii n),(12,ii i)])
     (fun j w'=>kk≤j∧j≤4∧w'.heap[qb]?=some (.cells (idsE (Q i)).toArray 101)∧∃ G,RwS w1 w' [qb] rb G G (LpQ Q i kk j)) (fun j=>4-j) kk
     ⟨rfl,rfl,rfl,rfl,rfl,rfl,rfl,rfl,trivial⟩ ⟨Nat.le_refl _,by omega,hqc,G3,hR3.eqL fun m _=>(qwy Q i kk m).symm⟩ ?_
    clear hR3 hqc;rintro j w9 ρ4 ⟨j3,j4,hqc,G4,hR4⟩;conv=>whnf
    (repeat' (first|refine zp ?_|refine zC (fun _=>zw ?_) (fun _=>zw ?_)))
    ·have hj4:j<4:=by omega
     have hfj:=hf1 j Oo;have hL0:LpQ Q i kk j (2*j)=u64V (nuT Q j i):=by rw [qwx Q i kk j Oo,qf1]
     have hL1:LpQ Q i kk j (2*j+1)=byV (if kk<j then qat (stJ Q j i) else opB (stJ Q j i)):=by
      rw [qwx Q i kk j Oo]
      split
      ·rename_i g;exact qil g hj4
      ·rename_i g;exact qlt Oo
     have hbl:(if kk<j then qat (stJ Q j i) else opB (stJ Q j i)).length≤1048576:=by
      have hs:=qb5 Q j i;have hle:=qos (Q:=Q) j i;have hu:=qa0 (stJ Q j i).length 8 Od
      split
      ·rw [qcr];omega
      ·rw [qm1];omega
     have hG:gro (nuT Q j i).length (if kk<j then qat (stJ Q j i) else opB (stJ Q j i))=opB (stJ Q j (i+1)):=by
      have hs:(nuT Q j i).length=(stJ Q j i).length:=(qb5 Q j i).symm;rw [q0m hfj,hs]
      split
      ·rename_i g
       rw [if_neg Oo,hf1 (j-1) Oo,q2u]
      ·rename_i g
       have e:(if j=0 then false else frU Q i (j-1))=false:=by
        split
        ·rfl
        ·exact hf0 (j-1) Oo
       rw [e,qzj]
     refine DrawV.gen (fun S vals w'=>ReI w9 (fun w'=>RwR w1 w9 w' [qb] rb (updR (updR (LpQ Q i kk j) (2*j+1) (LoQ Q (i+1) (2*j+1))) (2*j) (LoQ Q (i+1) (2*j)))) (S 4) (S 5) w') rfl Ok (fun vals=>.inl ⟨rfl,(Ext.refl w9).drew⟩) (zw ?_);(iterate 4 (refine zg ?_));refine StepG.of (ii (Q i j:Nat)) (fun S vals wd hk hp hI=>?_) (zw ?_)
     ·dsimp only at hI;rw [hk] at hI;obtain ⟨h5,he⟩:=hI.load;(conv=>whnf);refine LoadV.own (he.get hqc) (by rw [t1,Nat.zero_add,Nat.mul_one,List.getElem?_toArray];exact qbp (Q i) hj4) ?_;(conv=>whnf);exact ⟨rfl,.inl ⟨h5,he⟩⟩
     refine StepG.of (.tuple #[]) (fun S vals wd hk hp hI=>?_) (zw ?_)
     ·dsimp only at hI;rw [hk] at hI;have h4:S 4=true:=hp 4 Od;have he:=hI.call;have hR5:=hR4.call he;(conv=>whnf);rw [t2,show 0+j*2=2*j by omega];refine zcv (qwa w1 wd [qb] rb G4 (LpQ Q i kk j) hR5 j (Q i j) hj4 (nuT Q j i) _ hL0 hL1 (hns j i i1) hbl (by have:=hQ.small hi hj4;omega)) ?_;rintro r w11 ⟨rfl,⟨G5,hR6⟩,hz6⟩;rw [hG,← qzb hfj,← qsj,← qww] at hR6;exact ⟨rfl,.inr ⟨rfl,h4,⟨G5,hR6⟩,fun k hk=>by rw [hz6 k hk,he.block k (hR4.sep.lo _ mh k hk).2]⟩⟩
     intro vals w11 hI;obtain ⟨⟨G5,hR6⟩,hz6⟩:=hI.post;clear hI;refine zu ?_;exact ⟨j+1,⟨rfl,rfl,rfl,rfl,rfl,rfl,rfl,rfl,trivial⟩,⟨by omega,by omega,by rw [hz6 qb (List.mem_singleton.2 rfl)];exact hqc,G5,hR6.eqL fun m _=>q1h Oo m⟩,by omega⟩
    ·obtain rfl:j=4:=by omega
     exact ⟨i+1,⟨rfl,rfl,rfl,rfl,rfl,rfl,trivial⟩,⟨by omega,G4,(hR4.eqL fun m hm=>q4v hf0 hm).noZ⟩,by omega⟩
 ·obtain rfl:i=n:=by omega
  refine qe (fun j:Nat=>[(2,pp r2),(3,pp rb),(9,ii j)])
   (fun j w'=>1≤j∧j≤4∧∃ G,RwS w1 w' [] rb G G (LcQ Q i 0 j)) (fun j=>4-j) 1 ⟨rfl,rfl,rfl,trivial⟩ ⟨by omega,by omega,G,hR.eqL fun m _=>(qny Q i 0 m).symm⟩ ?_
  clear hR;rintro j w4 ρ2 ⟨j1,j2,G4,hR4⟩;(conv=>whnf);refine zC (fun _=>zu ?_) (fun _=>zu ?_)
  ·have hj4:j<4:=by omega
   rw [t2,show 0+j*2=2*j by omega];refine zcv (qh8 w1 w4 [] rb G4 (LcQ Q i 0 j) hR4 j hj4 (nuT Q j i) (stJ Q j i) (qf1 Q i 0 j j) (qlt Oo) (qb5 Q j i) (hns j i i1)) ?_;rintro r w9 ⟨rfl,⟨G5,hR5⟩,hz5⟩;refine zu ?_;exact ⟨j+1,⟨rfl,rfl,rfl,trivial⟩,⟨by omega,by omega,G5,hR5.eqL fun m _=>qse Oo m⟩,by omega⟩
  ·obtain rfl:j=4:=by omega
   have hsl:∀ m,∃ A c,m<8→G4 m=.slice A (LcQ Q i 0 4 m).length c:=fun m=>by
    by_cases hm:m<8
    ·obtain ⟨A,c,e⟩:=q8 (hR4.row m hm);exact ⟨A,c,fun _=>e⟩
    ·exact ⟨none,0,fun h=>absurd h hm⟩
   obtain ⟨AA,hsl⟩:=Classical.axiomOfChoice hsl;obtain ⟨CC,hsl⟩:=Classical.axiomOfChoice hsl;have hle:∀ j,(LcQ Q i 0 4 (2*j)).length=leT Q j i:=fun j=>by rw [qf1,qa2];rfl
   have hlo:∀ j,(LcQ Q i 0 4 (2*j+1)).length=upN (leT Q j i) 8:=fun j=>by
    by_cases g:0<j∧j<4
    ·rw [qil g.1 g.2,qae,qcr,qb5]
    ·rw [qlt g,qae,qm1,qb5]
   have hv:∀ m (hm:m<8) v,v=G4 m→w4.cell? ⟨rb,0+m,none⟩=some v:=fun m hm v e=>by
    rw [qa hR4.tab,Nat.zero_add,qan 8 G4 m hm,e]
   have g0:=hsl 0 Od;rw [hle 0] at g0;have g1:=hsl 1 Od;rw [hlo 0] at g1;have g2:=hsl 2 Od;rw [hle 1] at g2;have g3:=hsl 3 Od;rw [hlo 1] at g3;have g4:=hsl 4 Od;rw [hle 2] at g4;have g5:=hsl 5 Od;rw [hlo 2] at g5;have g6:=hsl 6 Od;rw [hle 3] at g6;have g7:=hsl 7 Od;rw [hlo 3] at g7;obtain ⟨vs,evs⟩:∃ vs,vs=[Value.slice (AA 0) (leT Q 0 i) (CC 0),.slice (AA 1) (upN (leT Q 0 i) 8) (CC 1),.slice (AA 2) (leT Q 1 i) (CC 2),.slice (AA 3) (upN (leT Q 1 i) 8) (CC 3),.slice (AA 4) (leT Q 2 i) (CC 4),.slice (AA 5) (upN (leT Q 2 i) 8) (CC 5),.slice (AA 6) (leT Q 3 i) (CC 6),.slice (AA 7) (upN (leT Q 3 i) 8) (CC 7)]:=⟨_,rfl⟩
   have hcs:CellsAt w4 rb 0 vs:=by
    intro m v hm;rw [evs] at hm
    match m,hm with
    | 0,hm=>cases hm;exact hv 0 Od _ g0.symm
    | 1,hm=>cases hm;exact hv 1 Od _ g1.symm
    | 2,hm=>cases hm;exact hv 2 Od _ g2.symm
    | 3,hm=>cases hm;exact hv 3 Od _ g3.symm
    | 4,hm=>cases hm;exact hv 4 Od _ g4.symm
    | 5,hm=>cases hm;exact hv 5 Od _ g5.symm
    | 6,hm=>cases hm;exact hv 6 Od _ g6.symm
    | 7,hm=>cases hm;exact hv 7 Od _ g7.symm
    | m+8,hm=>cases hm
   have hone:∀ v∈vs,v.oneCell'=true:=by
    rw [evs];simp [Value.oneCell']
   have hvl:vs.length=8:=by rw [evs];rfl
   have hr4:=hR4.sep.ext.get hr2c;rw [evs] at hcs;refine LoadA.cells hcs rfl (zw ?_);rw [← evs];refine StoreA.blk hr4 (by rw [hvl];exact Nat.le_refl _) hone ?_;intro w5 hc5 hg5;have hr2l:r2<w1.heap.size:=qa5 hr2c;have hfar:∀ m (hm:m<8),∀ k∈rowF (G4 m),w5.heap[k]?=w4.heap[k]?:=fun m hm k hk=>by
    have:=hR4.sep.at_ (qfo [] rb G4 hm) k hk;exact hc5.block k this.2 fun g=>by rw [List.mem_singleton.1 g] at this;omega
   have hg5:w5.heap[r2]?=some (.cells vs.toArray 190):=by
    rw [hg5]
    congr 3
    rw [hvl];simp
   (conv=>whnf);refine qaa (R:=fun r w'=>q7g Q i w w' r∧Ext w w') ?_;have hc6:=CellsAt.heap hg5;rw [evs] at hc6;(conv=>whnf);refine LoadA.cells hc6 rfl (zw ?_);refine ⟨⟨fun j=>AA (2*j),fun j=>AA (2*j+1),fun j=>CC (2*j),fun j=>CC (2*j+1),rfl,fun j hj=>?_,fun j h0 hj=>?_,fun j hj x hx=>?_⟩,hc5.ext (he1.trans hR4.sep.ext) fun k hk=>by rw [List.mem_singleton.1 hk];exact hr2n⟩
   ·have hr:=qo (hR4.row (2*j) Oo) (hfar (2*j) Oo);rw [hsl (2*j) Oo,qf1,qa2,qqj] at hr;exact qjp hr rfl
   ·have hr:=qo (hR4.row (2*j+1) Oo) (hfar (2*j+1) Oo);rw [hsl (2*j+1) Oo,qil h0 hj,qae,qk1,q0n Q Oo] at hr;obtain ⟨A',c',e1,_,h2⟩:=qd2 hr;cases e1;exact h2
   ·have key:∀ m (hm:m<8),∀ x∈rowF (G4 m),w.heap.size≤x∧x<w5.heap.size:=fun m hm x hx=>by
     have h1:=hR4.sep.at_ (qfo [] rb G4 hm) x hx;have h2:=he1.size;have h3:=hc5.size;omega
    rcases List.mem_append.1 hx with hx|hx
    ·exact key (2*j) Oo x (by rw [hsl (2*j) Oo,qd4 _ _ _ 0 0];exact hx)
    ·exact key (2*j+1) Oo x (by rw [hsl (2*j+1) Oo,qd4 _ _ _ 0 0];exact hx)
theorem q0j (xs:List Nat) (A:oA) (n c:Nat) (w:World) (hS:SlAt encU 1 w A xs) (hn:xs.length=n) (h0:0<n) (hl:n≤140737488355328) :
  Gv Tryz.prog 106 [.slice A n c] w fun r w'=>r=.int .u64 (mxN (fun i=>xs.getD i 0) n:Nat)∧w'=w:=by
 have hg:∀ i (hi:i<xs.length),xs.getD i 0=xs[i]:=fun i hi=>by rw [List.getD_eq_getElem?_getD,zge hi];rfl
 refine ze Tryz.func106 Tryz.ntmps106 ?_;refine zv ?_;refine ElemV.sl hS hn 0 rfl h0 ?_;intro eb eo hcell;(conv=>whnf);refine LoadV.cell0 hcell (zw ?_);refine qe (fun i:Nat=>[(0,.slice A n c),(3,.int .u64 (mxN (fun i=>xs.getD i 0) (i+1):Nat)),(4,ii (i+1:Nat))]) (fun i w'=>i+1≤n∧w'=w) (fun i=>n-i) 0 ⟨rfl,congrArg (fun k:Nat=>Value.int .u64 k) (by simp only [mxN];rw [hg 0 Oo];omega),rfl,trivial⟩ ⟨by omega,rfl⟩ ?_;rintro i w1 ρ' ⟨i1,rfl⟩;(conv=>whnf);refine zC (fun _=>zw ?_) (fun _=>zw ?_)
 ·refine ElemV.sl hS hn (i+1) Oo Oo ?_;intro eb2 eo2 hcell2;(conv=>whnf);refine LoadV.cell0 hcell2 (zw ?_);refine V.Fall.max2 rfl rfl rfl fun m hm=>?_;have em:m=((mxN (fun i=>xs.getD i 0) (i+1+1):Nat):Int):=by
   have e1:mxN (fun i=>xs.getD i 0) (i+1+1)=max (mxN (fun i=>xs.getD i 0) (i+1)) (xs.getD (i+1) 0):=rfl;rw [hm,e1,hg (i+1) Oo];omega
  rw [em];refine zu ?_;exact ⟨i+1,⟨rfl,rfl,congrArg (Value.int .i64) Oo,trivial⟩,⟨by omega,rfl⟩,by omega⟩
 ·obtain rfl:i+1=n:=by omega
  exact ⟨rfl,rfl⟩
theorem q8c (l:List Nat) (h:∀ x∈l,x<18446744073709551616):qp (mxN (fun i=>(0::l).getD i 0) (l.length+1))=wiT l:=by
 have hb:∀ i,l.getD i 0<18446744073709551616:=fun i=>by
  rw [List.getD_eq_getElem?_getD]
  rcases Nat.lt_or_ge i l.length with g|g
  ·rw [zge g];exact h _ (List.getElem_mem g)
  ·rw [List.getElem?_eq_none g];decide
 have e:∀ k,mxN (fun i=>(0::l).getD i 0) (k+1)=mxN (fun i=>l.getD i 0) k:=by
  intro k
  induction k with
  | zero=>rfl
  | succ k ih=>rw [mxN,ih];rfl
 rw [e,wiT];exact qu0 fun i _=>⟨hb i,rfl⟩
def trW (Q:Nat→Nat→Nat) (n:Nat):Nat→LB
 | 0=>[]
 | k+1=>trW Q n k++varL (leT Q k n)
def trX (Q:Nat→Nat→Nat) (n:Nat):Nat→LB
 | 0=>trW Q n 4
 | k+1=>trX Q n k++lvB Q n k
theorem qru (Q:Nat→Nat→Nat) (n:Nat):trX Q n 4=qgy Q n:=by
 simp only [trX,trW,qgy,tlB,List.nil_append,List.append_assoc,List.append_nil]
section
variable {Q:Nat→Nat→Nat} {n:Nat} (h:TOk Q n)
include h
theorem quj (k:Nat):(trW Q n k).length≤10*k:=by
 induction k with
 | zero=>exact Nat.le_refl _
 | succ k ih=>
  have h1:=h.le k;have h2:=qac 9 (leT Q k n) Oo;rw [trW,zla];omega
theorem qtj {k:Nat} (hk:k<4):(lvB Q n k).length≤1100000000:=by
 have h1:=h.lvLen (k:=k);have h2:=h.le k;have h3:=h.wi hk;have h4:leT Q k n*wiT (nuT Q k n)≤1048576*23:=Nat.mul_le_mul h2 h3;have h5:=h.le (k-1);rw [h1];have h6:k≠0→qce (leT Q k n) (leT Q (k-1) n)≤1000000000:=fun h0=>qr5 _ _ Oo (by
  have:=qtg (Q:=Q) (k-1) n;rw [Nat.sub_add_cancel Oo] at this;exact this)
 split
 ·omega
 ·rename_i h0;have:=h6 h0;omega
theorem q4k {k:Nat} (hk:k≤4):(trX Q n k).length≤40+1100000000*k:=by
 induction k with
 | zero=>exact quj h 4
 | succ k ih=>
  have h1:=ih Oo;have h2:=qtj h (k:=k) Oo;rw [trX,zla];omega
end
def tbR (NA LA:Nat→oA):List Nat:=(List.range 4).flatMap fun j=>rowF (.slice (NA j) 0 0)++rowF (.slice (LA j) 0 0)
theorem qj9 {NA LA:Nat→oA} {x:Nat}:x∈tbR NA LA↔∃ j,j<4∧x∈rowF (.slice (NA j) 0 0)++rowF (.slice (LA j) 0 0):=by
 rw [tbR,List.mem_flatMap]
 constructor
 ·rintro ⟨j,hj,hx⟩;exact ⟨j,List.mem_range.1 hj,hx⟩
 ·rintro ⟨j,hj,hx⟩;exact ⟨j,List.mem_range.2 hj,hx⟩
structure TbS (Q:Nat→Nat→Nat) (n:Nat) (w0 w:World) (b rb:Nat) (l:LB) (vs:List Value) (NA LA:Nat→oA) (Z:List Nat):Prop where
 h:∃ F,Sep w0 w [F,[rb],tbR NA LA,Z]∧BufAt w b 67108864 l F
 cells:CellsAt w rb 0 vs
 num:∀ j,j<4→SlAt encU 1 w (NA j) (nuT Q j n)
 lst:∀ j,0<j→j<4→SlAt encB 1 w (LA j) (qat (stT Q (j-1) n))
theorem V.CellsAt.keep {w w':World} {b off:Nat} {vs:List Value} (h:CellsAt w b off vs) (hk:w'.heap[b]?=w.heap[b]?):CellsAt w' b off vs:=fun k v hv=>by
 rw [← h k v hv,World.cell?_of_block];exact hk
section
variable {Q:Nat→Nat→Nat} {n:Nat} {w0 w w':World} {b rb:Nat} {l:LB} {vs:List Value} {NA LA:Nat→oA} {Z:List Nat}
theorem TbS.call (h:TbS Q n w0 w b rb l vs NA LA Z) (he:Ext w w'):TbS Q n w0 w' b rb l vs NA LA Z:=
 ⟨h.h.elim fun F h=>⟨F,h.1.call he,h.2.call he⟩,h.cells.ext he,fun j hj=>(h.num j hj).ext he,fun j h0 hj=>(h.lst j h0 hj).ext he⟩
theorem V.Sep.join {A B:List Nat} {Fs:List (List Nat)} (h:Sep w0 w (A::B::Fs)):Sep w0 w ((A++B)::Fs):=by
 have h1:=List.pairwise_cons.1 h.ap;have h2:=List.pairwise_cons.1 h1.2;refine ⟨h.ext,fun F hF k hk=>?_,List.pairwise_cons.2 ⟨fun G hG k hk=>?_,h2.2⟩⟩
 ·rcases List.mem_cons.1 hF with rfl|hF
  ·rcases List.mem_append.1 hk with hk|hk
   ·exact h.lo A mh k hk
   ·exact h.lo B (zmc mh) k hk
  ·exact h.lo F (zmc (zmc hF)) k hk
 ·rcases List.mem_append.1 hk with hk|hk
  ·exact h1.1 G (zmc hG) k hk
  ·exact h2.1 G hG k hk
theorem TbS.addZ (h:TbS Q n w0 w b rb l vs NA LA Z) (he:Ext w w') {Y:List Nat} (hY:∀ k∈Y,w.heap.size≤k∧k<w'.heap.size):TbS Q n w0 w' b rb l vs NA LA (Y++Z):=by
 obtain ⟨F,h1,h2⟩:=h.h;have h3:=((h1.add he hY).perm ((List.perm_append_singleton Z [F,[rb],tbR NA LA]).cons Y)).join;exact ⟨⟨F,h3.perm (List.perm_append_singleton (Y++Z) [F,[rb],tbR NA LA]).symm,h2.call he⟩,h.cells.ext he,fun j hj=>(h.num j hj).ext he,fun j h0 hj=>(h.lst j h0 hj).ext he⟩
theorem TbS.step (h:TbS Q n w0 w b rb l vs NA LA Z) {P:Program} {f:FuncId} {args:List Value} {l':LB} (hc:∀ F,BufAt w b 67108864 l F→Gv P f args w fun r w'=>r=.tuple #[]∧BufC w w' b 67108864 l' F) :
  Gv P f args w fun r w'=>r=.tuple #[]∧TbS Q n w0 w' b rb l' vs NA LA Z∧∀ k∈Z,w'.heap[k]?=w.heap[k]?:=by
 obtain ⟨F,h1,h2⟩:=h.h;refine (hc F h2).mono ?_;rintro r w' ⟨e,hB⟩;obtain ⟨F',h3,h4⟩:=h1.buf (i:=0) rfl hB;have hk:=h3.keep 2 _ rfl Od;refine ⟨e,⟨⟨F',h3.sep,h4⟩,h.cells.keep (h3.keep 1 _ rfl Od rb (List.mem_singleton.2 rfl)),fun j hj=>(h.num j hj).keep fun k hk'=>hk k (qj9.2 ⟨j,hj,List.mem_append_left _ hk'⟩),fun j h0 hj=>(h.lst j h0 hj).keep fun k hk'=>hk k (qj9.2 ⟨j,hj,List.mem_append_right _ hk'⟩)⟩,h3.keep 3 _ rfl Od⟩
end
theorem q0x (l:List Nat):(l.map encU).flatten=u64V l:=by
 induction l with
 | nil=>rfl
 | cons x l ih=>rw [List.map_cons,List.flatten_cons,ih];rfl
theorem q4b {Q:Nat→Nat→Nat} {n k:Nat} (h:TOk Q n) (hk:k<4):∀ x∈nuT Q k n,x<2 ^ wiT (nuT Q k n):=fun x hx=>by
 obtain ⟨e,he,rfl⟩:=List.mem_iff_getElem.1 hx;have h1:=q8g (h.big hk) (e:=e) he;rw [List.getD_eq_getElem?_getD,zge he] at h1;exact h1
theorem qwj (Q:Nat→Nat→Nat) (A:oA) (n c:Nat) (w:World) (hS:SlAt idsE 4 w A ((List.range n).map Q)) (hQ:TOk Q n) :
  Gv Tryz.prog 58 [.slice A n c,ii 67108864] w fun r w'=>(67108864<(qgy Q n).length∧r=.tuple #[.slice none 0 0,ii 1]∧Ext w w')∨((qgy Q n).length≤67108864∧∃ v,r=.tuple #[v,ii 0]∧NewS 5 w w' v (qgy Q n)):=by
 have hnl:=hQ.nle;have hle:=hQ.le;have hbig:=fun {k:Nat} (hk:k<4)=>hQ.big hk
 have t2:tsz Tryz.prog 189=2:=by kernel_rfl
 have hnb:∀ k,k<4→∀ x∈nuT Q k n,x<18446744073709551616:=fun k hk x hx=>by
  obtain ⟨i,hi,rfl⟩:=qhr hx;exact hbig hk i hi
 have hwl:=quj hQ;have hxl:=fun {k:Nat} (hk:k≤4)=>q4k hQ hk
 refine ze Tryz.func58 Tryz.ntmps58 ?_;refine zcv (qwk Q A n c w hS hQ) ?_;rintro r w1 ⟨rfl,he1⟩;refine zu ?_;refine zcv (qe1 67108864 w1) ?_;rintro r w2 ⟨b,rfl,he2,hb2,hB⟩;have hSp:Sep w1 w2 [[b]]:=(Sep.of (Ext.refl w1)).add he2 fun k hk=>by rw [List.mem_singleton.1 hk];exact ⟨hb2,hB.lt b (List.mem_singleton.2 rfl)⟩
 (conv=>whnf);refine zcv (q3f Q A n c w2 (hS.ext (he1.trans he2)) hQ) ?_;rintro r w3 ⟨hRo,he3⟩;obtain ⟨NA,LA,NC,LC,rfl,hN,hL,hlo⟩:=hRo;have hSp:=hSp.add (F:=tbR NA LA) he3 fun k hk=>by
  obtain ⟨j,hj,hx⟩:=qj9.1 hk;exact hlo j hj k hx
 have hB:=hB.call he3;clear hlo;obtain ⟨vs,evs⟩:∃ vs,vs=[Value.slice (NA 0) (leT Q 0 n) (NC 0),.slice (LA 0) (upN (leT Q 0 n) 8) (LC 0),.slice (NA 1) (leT Q 1 n) (NC 1),.slice (LA 1) (upN (leT Q 1 n) 8) (LC 1),.slice (NA 2) (leT Q 2 n) (NC 2),.slice (LA 2) (upN (leT Q 2 n) 8) (LC 2),.slice (NA 3) (leT Q 3 n) (NC 3),.slice (LA 3) (upN (leT Q 3 n) 8) (LC 3)]:=⟨_,rfl⟩
 have hvl:vs.length=8:=by rw [evs];rfl
 have hone:∀ v∈vs,v.oneCell'=true:=by rw [evs];simp [Value.oneCell']
 have hpart:∀ k,k<4→(vs.drop (k*2)).take 2=[.slice (NA k) (leT Q k n) (NC k),.slice (LA k) (upN (leT Q k n) 8) (LC k)]:=fun k hk=>by
  rw [evs]
  rcases (show k=0∨k=1∨k=2∨k=3 by omega) with rfl|rfl|rfl|rfl<;>rfl
 (conv=>whnf);refine ⟨fun rb w4 hrb hw4=>?_⟩;have he4:Ext w3 w4:=by rw [hw4];exact (Ext.refl w3).alloc _
 obtain ⟨hSp,hg4⟩:=hSp.new hrb hw4;have hB:=hB.call he4;clear hrb hw4;(conv=>whnf);refine StoreA.blk hg4 (Nat.le_refl 8) (by simp [Value.oneCell']) ?_;intro w5 hc5 hg5;have hs5:=hSp.row (i:=0) (F':=[rb]) rfl hc5 fun j hj=>⟨.inl hj,by rw [List.mem_singleton.1 hj];exact qa5 hg5⟩
 have hg5:w5.heap[rb]?=some (.cells vs.toArray 190):=by
  rw [evs,hg5];rfl
 have hk1:=hs5.keep 1 _ rfl Od;have hT:TbS Q n w1 w5 b rb (trW Q n 0) vs NA LA []:=⟨⟨[b],((hs5.sep.perm (List.perm_append_singleton [b] [[rb],tbR NA LA])).add (F:=[]) (Ext.refl w5) (fun k hk=>by cases hk)).perm (List.perm_append_singleton [] [[b],[rb],tbR NA LA]).symm,hB.keep (hs5.keep 2 _ rfl Od)⟩,CellsAt.heap hg5,fun j hj=>((hN j hj).ext he4).keep fun k hk=>hk1 k (qj9.2 ⟨j,hj,List.mem_append_left _ hk⟩),fun j h0 hj=>((hL j h0 hj).ext he4).keep fun k hk=>hk1 k (qj9.2 ⟨j,hj,List.mem_append_right _ hk⟩)⟩
 clear hSp hN hL hB hg4 hc5 hs5 hg5 hk1 he4;have hcs:=hT.cells;rw [evs] at hcs;(conv=>whnf);refine LoadA.cells hcs rfl ?_;clear hcs;(conv=>whnf);refine qe (fun k:Nat=>[(7,pp b),(8,pp rb),(27,.agg vs.toArray),(28,ii k)]) (fun k w'=>k≤4∧∃ Z,TbS Q n w1 w' b rb (trW Q n k) vs NA LA Z) (fun k=>4-k) 0 ⟨rfl,rfl,(by rw [evs];rfl),rfl,trivial⟩ ⟨by omega,_,hT⟩ ?_;clear hT;rintro k w6 ρ2 ⟨k1,Z,hT⟩;(conv=>whnf);refine zC (fun _=>zu ?_) (fun _=>zu ?_)
 ·have hk4:k<4:=by omega
  have hlk:=hle k;have hwk:=hwl k;refine ⟨[.slice (NA k) (leT Q k n) (NC k),.slice (LA k) (upN (leT Q k n) 8) (LC k)],(by rw [t2];exact hpart k hk4),?_⟩;(conv=>whnf);refine znm (Mem.nil w6) fun pb w7 hm=>zw ?_;refine StoreA.all (vs:=[.slice (NA k) (leT Q k n) (NC k),.slice (LA k) (upN (leT Q k n) 8) (LC k)]) hm (i:=0) rfl rfl (by simp [Value.oneCell']) ?_;intro w8 hm;have hT:=hT.call hm.ext;(conv=>whnf);refine zr hm 0 ?_;refine zv ?_;refine zcv (hT.step fun F hF=>qbn b 67108864 _ (leT Q k n) F w8 hF Oo Od Oo) ?_;rintro r w9 ⟨rfl,hT,_⟩;refine zu ?_;exact ⟨k+1,⟨rfl,rfl,rfl,rfl,trivial⟩,⟨by omega,_,hT⟩,by omega⟩
 ·obtain rfl:k=4:=by omega
  have hcs:=hT.cells;rw [evs] at hcs;refine LoadA.cells hcs rfl ?_;clear hcs;(conv=>whnf);refine qe (fun k:Nat=>[(7,pp b),(38,.agg vs.toArray),(39,ii k)]) (fun k w'=>k≤4∧∃ Z,TbS Q n w1 w' b rb (trX Q n k) vs NA LA Z) (fun k=>4-k) 0 ⟨rfl,(by rw [evs];rfl),rfl,trivial⟩ ⟨by omega,_,hT⟩ ?_;clear hT;rintro k w6 ρ3 ⟨k2,Z2,hT⟩;have hxk:=hxl k2;(conv=>whnf);refine zC (fun _=>zu ?_) (fun _=>zu ?_)
  ·have hk4:k<4:=by omega
   have hlk:=hle k;have hwi:=hQ.wi hk4;have hlw:leT Q k n*wiT (nuT Q k n)≤1048576*23:=Nat.mul_le_mul hlk hwi;have hpl:=qbl (nuT Q k n) (wiT (nuT Q k n));have hnl2:(nuT Q k n).length=leT Q k n:=rfl;obtain ⟨wi,ewi⟩:∃ wi,wi=wiT (nuT Q k n):=⟨_,rfl⟩
   obtain ⟨pk,epk⟩:∃ pk,pk=qcs (nuT Q k n) wi:=⟨_,rfl⟩
   rw [hnl2] at hpl;rw [← ewi] at hlw hwi hpl;rw [← epk] at hpl;obtain ⟨lw,elw⟩:∃ lw,lw=leT Q k n*wi:=⟨_,rfl⟩
   rw [← elw] at hlw hpl;refine ⟨[.slice (NA k) (leT Q k n) (NC k),.slice (LA k) (upN (leT Q k n) 8) (LC k)],(by rw [t2];exact hpart k hk4),?_⟩;(conv=>whnf);refine znm (Mem.nil w6) fun pb w7 hm=>zw ?_;refine StoreA.all (vs:=[.slice (NA k) (leT Q k n) (NC k),.slice (LA k) (upN (leT Q k n) 8) (LC k)]) hm (i:=0) rfl rfl (by simp [Value.oneCell']) ?_;intro w8 hm;have hT:=hT.addZ hm.ext (Y:=[pb]) fun x hx=>by rw [List.mem_singleton.1 hx];exact ⟨(hm.own _ mh).1,hm.lt mh⟩
   have hpc:CellsAt w8 pb 0 [.slice (NA k) (leT Q k n) (NC k),.slice (LA k) (upN (leT Q k n) 8) (LC k)]:=CellsAt.mem hm mh;clear hm;(conv=>whnf);refine ⟨fun zb w9 hzb hw9=>?_⟩;have he9:Ext w8 w9:=by rw [hw9];exact (Ext.refl w8).alloc _
   have hg9:w9.heap[zb]?=some (.cells #[.int .u64 0] 125):=by rw [hw9,hzb];exact heap_alloc_new w8 _
   have hzn:w8.heap.size≤zb:=by omega
   clear hzb hw9;(conv=>whnf);refine LoadV.cell0 (hpc.ext he9) (zw ?_);have hz0:w9.ownsRow 0 125 1 (.slice (some ⟨zb,0,none⟩) 1 1) 1 [.int .u64 0]:=⟨rfl,.inr ⟨zb,1,_,rfl,Nat.zero_le _,hg9,Nat.le_refl _,by decide,rfl,rfl⟩⟩
   refine AppV.row (size:=1) (news:=u64V (nuT Q k n)) q0w u64I u64Z Ok rfl Od hz0 (by rw [qa2,hnl2];exact (Nat.mul_one _).symm) (fun hne=>?_) (fun u hu=>?_) (by rw [show ((Tryz.prog.info? 125).get Ok).bytes=8 from by kernel_rfl];omega) Oo ?_
   ·obtain ⟨g,o,h1,h2⟩:=((hT.num k hk4).ext he9).at_ (by intro e;rw [e] at hne;exact hne rfl);exact ⟨g,o,h1,by rw [← q0x];exact qds (enc:=encU) (size:=1) Od (fun _=>rfl) h2⟩
   ·obtain ⟨y,_,rfl⟩:=List.mem_map.1 hu;rfl
   intro A' c' w10 ho hch _;have he10:Ext w8 w10:=hch.ext he9 fun x hx=>by rw [List.mem_singleton.1 hx];exact hzn
   have hT:=hT.call he10;have hpc:=hpc.ext he10;clear he9 hz0 hg9 hzn hch;have hmx:mxN (fun i=>(0::nuT Q k n).getD i 0) (leT Q k n+1)<18446744073709551616:=qy8 Od fun i hi=>by
    rw [List.getD_eq_getElem?_getD]
    rcases Nat.lt_or_ge i (0::nuT Q k n).length with g|g
    ·rw [zge g]
     rcases List.mem_cons.1 (List.getElem_mem g) with e|e
     ·rw [Option.getD_some,e];decide
     ·exact hnb k hk4 _ e
    ·rw [List.getElem?_eq_none g];decide
   have hwm:=q8c (nuT Q k n) (hnb k hk4);rw [hnl2,← ewi] at hwm;have hso:SlAt encU 1 w10 A' (0::nuT Q k n):=qjp (n:=1+leT Q k n) (c:=c') ho (by rw [List.length_cons,hnl2];omega);obtain ⟨mx,emx⟩:∃ mx,mx=mxN (fun i=>(0::nuT Q k n).getD i 0) (leT Q k n+1):=⟨_,rfl⟩
   have hsm:=q0j (0::nuT Q k n) A' (1+leT Q k n) c' w10 hso (by rw [List.length_cons,hnl2];omega) Oo Oo;rw [show 1+leT Q k n=leT Q k n+1 by omega,← emx] at hsm;rw [← emx] at hmx hwm;rw [show 1+leT Q k n=leT Q k n+1 by omega];(conv=>whnf);refine zcv (hsm) ?_;rintro r w11 ⟨rfl,rfl⟩;(conv=>whnf);refine zcv (qg5 mx w11 hmx) ?_;rintro r w12 ⟨rfl,rfl⟩;rw [hwm];(conv=>whnf);refine LoadV.cell0 hpc (zw ?_);refine zcv (qtx (nuT Q k n) wi (NA k) (leT Q k n) (NC k) w12 (hT.num k hk4) rfl Oo (by rw [← elw];omega) (by rw [ewi];exact q4b hQ hk4) Oo) ?_;rintro r w13 ⟨vp,rfl,hNp⟩;obtain ⟨Ap,cp,ep,_,hAp⟩:=hNp.bs;subst ep;rw [← epk] at hAp;have hT:=hT.addZ hNp.ext (Y:=rowF (.slice Ap 0 0)) fun x hx=>hNp.lo x (by rw [qd4 _ _ _ 0 0];exact hx)
   have hpc:=hpc.ext hNp.ext;refine zu ?_;rw [← epk];refine zcv (hT.step fun F hF=>q1r b 67108864 _ wi F w13 hF Oo Od Oo) ?_;rintro r w14 ⟨rfl,hT,hz14⟩;have hAp:=hAp.keep fun x hx=>hz14 x (List.mem_append_left _ hx)
   have hpc:=hpc.keep (hz14 pb (List.mem_append_right _ (List.mem_append_left _ (List.mem_singleton.2 rfl))));(conv=>whnf);refine zcv (hT.step fun F hF=>qcu b 67108864 _ pk F Ap pk.length cp w14 hF hAp rfl Od (by rw [zla,List.length_singleton];omega)) ?_;rintro r w15 ⟨rfl,hT,hz15⟩;have hpc:=hpc.keep (hz15 pb (List.mem_append_right _ (List.mem_append_left _ (List.mem_singleton.2 rfl))));have hlv:lvB Q n k=UInt8.ofNat wi::(pk++(if k=0 then [] else qab (qat (stT Q (k-1) n)) (leT Q k n))):=by rw [lvB,epk,ewi]
   (conv=>whnf);refine zC (fun _=>zu ?_) (fun _=>zu ?_)
   ·have hk0:0<k:=by omega
    rw [if_neg Oo] at hlv;have hsl:(stT Q (k-1) n).length=leT Q k n:=by rw [qfz,Nat.sub_add_cancel Oo]
    have hll:(qat (stT Q (k-1) n)).length=upN (leT Q k n) 8:=by rw [qcr,hsl]
    have hpad:=qyx (stT Q (k-1) n);rw [hsl] at hpad;refine LoadV.of (hpc 1 _ rfl) (zw ?_);refine LoadV.cell0 hpc (zw ?_);refine zcv (qv3 (qat (stT Q (k-1) n)) (LA k) (upN (leT Q k n) 8) (LC k) (leT Q k n) w15 (hT.lst k hk0 hk4) hll hll Oo hpad) ?_;rintro r w16 ⟨vv,rfl,hNv⟩;obtain ⟨Av,cv,ev,_,hAv⟩:=hNv.bs;subst ev;have hT:=hT.call hNv.ext;obtain ⟨wl,ewl⟩:∃ wl,wl=qab (qat (stT Q (k-1) n)) (leT Q k n):=⟨_,rfl⟩
    have hwll:wl.length≤1000000000:=by
     have hup:=qtg (Q:=Q) (k-1) n;rw [Nat.sub_add_cancel Oo] at hup;have hc:cnt (qat (stT Q (k-1) n)) (leT Q k n)≤leT Q k n:=qeh _ _;rw [ewl,qcf hll];exact qr5 _ _ Oo hc
    rw [← ewl] at hAv hlv;(conv=>whnf);rw [← ewl];refine zcv (hT.step fun F hF=>qcu b 67108864 _ wl F Av wl.length cv w16 hF hAv rfl Od (by simp only [zla,List.length_singleton];omega)) ?_;rintro r w17 ⟨rfl,hT,_⟩;have e:trX Q n k++[UInt8.ofNat wi]++pk++wl=trX Q n (k+1):=by rw [trX,hlv];simp
    rw [e] at hT;refine zu ?_;exact ⟨k+1,⟨rfl,rfl,rfl,trivial⟩,⟨by omega,_,hT⟩,by omega⟩
   ·rw [if_pos Oo] at hlv;have e:trX Q n k++[UInt8.ofNat wi]++pk=trX Q n (k+1):=by rw [trX,hlv];simp
    rw [e] at hT;exact ⟨k+1,⟨rfl,rfl,rfl,trivial⟩,⟨by omega,_,hT⟩,by omega⟩
  ·obtain rfl:k=4:=by omega
   rw [qru] at hT hxk;obtain ⟨F,hSp,hB⟩:=hT.h;refine zcv (qcm b 67108864 _ F w6 hB Oo) ?_;rintro r w7 (⟨hbig,rfl,rfl⟩|⟨hfit,v,rfl,hN⟩)
   ·(conv=>whnf);exact .inl ⟨hbig,rfl,he1.trans hSp.ext⟩
   ·obtain ⟨A9,c9,ev9,_⟩:=id hN.h;subst ev9;(conv=>whnf);exact .inr ⟨hfit,_,rfl,hN.back (he1.trans hSp.ext)⟩
theorem qzo {α:Type} {enc:α→List Value} {size:Nat} (henc:∀ x,(enc x).length=size) {w:World} {base n c:Nat} {e:TypeId} {A:oA} {l:List α} (h:w.ownsRow base e size (.slice A n c) n ((l.map enc).flatten)) (hn:l.length=n):SlAt enc size w A l:=by
 subst hn;refine ⟨fun hne=>?_⟩
 rcases h.2 with ⟨e1,e2⟩|⟨g,cap,cur,e1,_,h2,_,_,h5,h6⟩
 ·exact absurd (List.eq_nil_of_length_eq_zero e2) hne
 ·cases e1;refine ⟨g,0,rfl,fun j x hx k v hv=>?_⟩;have hj:=(List.getElem?_eq_some_iff.1 hx).1;have hk:k<size:=by rw [← henc x];exact (List.getElem?_eq_some_iff.1 hv).1
  have h7:=qb2 enc size henc l j x k hx hk;have h8:j*size+k<l.length*size:=by
   have:(j+1)*size≤l.length*size:=Nat.mul_le_mul_right _ hj;rw [Nat.succ_mul] at this;omega
  rw [← h6,List.getElem?_take,if_pos h8,hv] at h7;rw [qa h2,Nat.zero_add]
  simpa using h7
theorem qtd (q:Nat→Nat):(idsE q).length=4:=rfl
def qk4 (T:List TM) (qs:List Q4) (i:Nat):List Value:=(((List.range i).map (noQ T qs)).map idsE).flatten
theorem qje (T:List TM) (qs:List Q4) {i:Nat} {q:Q4} (h:qs[i]?=some q):qk4 T qs (i+1)=qk4 T qs i++idsE fun k=>noT T (gat q k):=by
 have e:noQ T qs i=fun k=>noT T (gat q k):=funext fun k=>qk8 h
 simp [qk4,List.range_succ,e]
def hdN (a b c d:Nat):List Nat:=[1095914324,1,a,b,c,d]
def fxL (ns:List Nat):LB:=(ns.map fun n=>fixL n 4).flatten
theorem q5l (ns:List Nat):(fxL ns).length=4*ns.length:=by
 induction ns with
 | nil=>rfl
 | cons n ns ih=>rw [fxL,List.map_cons,List.flatten_cons,zla,qf];rw [fxL] at ih;rw [ih,List.length_cons];omega
theorem q18 (ns:List Nat) {i:Nat} (h:i<ns.length):fxL (ns.take (i+1))=fxL (ns.take i)++fixL ns[i] 4:=by
 rw [List.take_add_one,zge h,fxL,fxL,List.map_append,List.flatten_append];simp
theorem q5k (a b c d:Nat):fxL (hdN a b c d)=h24 a b c d:=by simp [fxL,hdN,h24]
def ptL (ps:List LB):LB:=(ps.map fun p=>p++sumL p).flatten
theorem q24 (ps:List LB) {i:Nat} (h:i<ps.length):ptL (ps.take (i+1))=(ptL (ps.take i)++ps[i])++sumL ps[i]:=by
 rw [List.take_add_one,zge h,ptL,ptL,List.map_append,List.flatten_append];simp
theorem q25 (a b:Nat) (V T:LB):ptL [h24 a b V.length T.length,V,T]=qm3 a b V T:=by
 simp [ptL,qm3]
def EncR (qs:List Q4) (most:Int) (w w':World) (r:Value):Prop:=
 (encE qs most≠0∧r=.tuple #[.slice none 0 0,ii (encE qs most:Nat)]∧Ext w w')∨(encE qs most=0∧∃ v,r=.tuple #[v,ii 0]∧NewS 5 w w' v (pkB qs))
theorem qve (qs:List Q4) (A:oA) (n c:Nat) (most:Int) (w:World) (hS:SlAt q7 16 w A qs) (hn:qs.length=n) (hb:n≤140737488355328) (_:InR .i64 most) (hq:∀ q∈qs,qci q) (hM:MaxLenAt w) (hT:CellsAt w 6 0 qbt)
  (hNib:CellsAt w 1 0 qo1) (hG:ErrTyp w) :
  Gv Tryz.prog 41 [.slice A n c,ii most] w fun r w'=>EncR qs most w w' r:=by
 refine ze Tryz.func41 Tryz.ntmps41 ?_;refine zcv (qwo qs A n c w hS hn hb hq hM hT) ?_;rintro r w1 (⟨e,h0,he,rfl,he1⟩|⟨hv,hvo,hvl,v,rfl,hN⟩)
 ·have hee:encE qs most=e:=by
   have hpk:=qq1 qs;rw [he]
   by_cases c1:valE qs≠0
   ·rw [if_pos c1,qs4 c1]
   ·rw [if_neg c1]
    by_cases c2:qcy (tmsQ qs)≠0
    ·rw [if_pos c2,qs5 Oo c2]
    ·rw [if_neg c2];rw [if_neg c1,if_neg c2] at he
     by_cases c3:67108864<(vocB (tmsQ qs)).length
     ·rw [if_pos c3,qip Oo Oo (.inr Oo)]
     ·rw [if_neg c3] at he;exact absurd he h0
  refine zu ?_;exact .inl ⟨by rw [hee];exact h0,by rw [hee],he1⟩
 have hnt:=qnr hv;have hset:=qui hv hnt;obtain ⟨T,eT⟩:∃ T,T=tmsQ qs:=⟨_,rfl⟩
 have hterm:∀ t∈T,qas t=0∧1≤t.kind∧t.kind≤3:=fun t ht=>qe0 hv (by rw [← eT];exact ht)
 have hrise:RiseT T:=by rw [eT];exact qgx qs
 rw [← eT] at hvo hvl hN hnt hset;have hVO:VOk T:=⟨fun k hk=>qi9 (qlo hvo k hk),Nat.le_trans (q74 _ _ _) hvl⟩
 have hql:=hset.len;obtain ⟨Av,cv,ev,hcv,hVS⟩:=hN.bs;subst ev;refine zu ?_;refine zcv (qr7 (vocB T) Av cv w1 hVS hcv Oo (hG.ext hN.ext)) ?_;rintro r w2 ⟨⟨h0,_⟩|⟨_,vb,rfl,hV⟩,he2⟩
 ·exact absurd hVO.wE h0
 (conv=>whnf);refine qe (fun x:Nat × oA × Nat=>[(0,.slice A n c),(1,ii most),(6,.slice Av (vocB T).length cv),(8,pp vb),(10,.slice x.2.1 x.1 x.2.2),(37,.slice A n c),(38,ii n),(39,ii x.1)])
  (fun x w'=>x.1≤n∧Rw w2 w' (.slice x.2.1 x.1 x.2.2) 101 4 x.1 (qk4 T qs x.1) []) (fun x=>n-x.1) (0,none,0) ⟨rfl,rfl,rfl,rfl,rfl,rfl,rfl,rfl,trivial⟩ ⟨Nat.zero_le _,Rw.nil (Mem.nil w2)⟩ ?_
 rintro ⟨i,B,d⟩ w3 ρ' ⟨i1,hR⟩;dsimp only at i1 hR ⊢;have he3:=hN.ext.trans (he2.trans hR.mem.ext);(conv=>whnf);refine zC (fun _=>zw ?_) (fun _=>zw ?_)
 ·have hil:i<qs.length:=by omega
  have hqi:qs[i]?=some qs[i]:=zge hil;have hqm:=List.getElem_mem hil;obtain ⟨q,eq⟩:∃ q,q=qs[i]:=⟨_,rfl⟩
  rw [← eq] at hqi hqm;have hgt:∀ k,k<4→gat q k∈T∨gat q k=zTM:=fun k hk=>(hset.mem q hqm k hk).imp id fun g=>g.2.2
  refine ElemV.sl (hS.ext he3) hn i rfl Oo ?_;intro eb eo hcell;rw [← eq] at hcell;(conv=>whnf);refine LoadA.cells hcell rfl (zw ?_);refine NewV.rw hR fun nb w4 hR=>zw ?_;refine StoreA.rwAll (vs:=q7 q) hR rfl (qct _) ?_;clear hR;intro w5 hR;have hR:Rw w2 w5 (.slice B i d) 101 4 i (qk4 T qs i) [(nb,.cells (q7 q).toArray 26)]:=hR;(conv=>whnf);refine zl hR.mem 0 ?_;have he5:=hN.ext.trans (he2.trans hR.mem.ext);refine zcv (q3r T hVO hrise (fun t ht=>(hterm t ht).2) (fun t ht=>(hterm t ht).1) vb q hgt (hq q hqm) w5 (hV.ext hR.mem.ext) (hM.ext he5) (hT.ext he5)) ?_;rintro r w6 ⟨rfl,he6⟩;have hR:=hR.call he6;(conv=>whnf);refine NewV.rw hR fun nb2 w7 hR=>zw ?_;refine StoreA.rwAll (vs:=idsE fun k=>noT T (gat q k)) hR rfl (qgc _) fun w8 hR=>zw ?_;refine zl hR.mem 0 ?_;refine NewV.rw hR fun nb3 w9 hR=>zw ?_;refine AppV.rw (m:=1) (news:=idsE fun k=>noT T (gat q k)) q7y idsI idsZ Ok Ok Od hR rfl (fun _=>⟨nb3,0,rfl,fun k v hv=>?_⟩) (qgc _) (by rw [show ((Tryz.prog.info? 101).get Ok).bytes=32 from by kernel_rfl];omega) Oo ?_
  ·rw [qa (hR.mem.get mh),Nat.zero_add];rw [← hv];simp [idsE]
  clear hR;intro B2 d2 w10 hR;rw [← qje T qs hqi] at hR;refine zu ?_;exact ⟨(i+1,B2,d2),⟨rfl,rfl,rfl,rfl,rfl,rfl,rfl,congrArg (Value.int .i64) Oo,trivial⟩,⟨by show i+1≤n;omega,hR.tail.tail.tail⟩,by show n-(i+1)<n-i;omega⟩
 ·obtain rfl:i=n:=by omega
  have hidS:SlAt idsE 4 w3 B ((List.range i).map (noQ T qs)):=qzo qtd hR.own Js;have htok:TOk (noQ T qs) i:=by rw [← hn];exact hset.tok
  have hpkl:(pkB qs).length=(vocB T).length+(qgy (noQ T qs) i).length+36:=by rw [qq1,← eT,hn]
  refine zcv (qwj (noQ T qs) B i d w3 hidS htok) ?_;rintro r w4 (⟨hbig,rfl,he4⟩|⟨htl,v,rfl,hN4⟩)
  ·refine zu ?_;have e1:=qip (qs:=qs) (most:=most) hv (by rw [← eT];exact hvo) (.inr Oo);exact .inl ⟨by rw [e1];decide,by rw [e1];rfl,he3.trans he4⟩
  obtain ⟨At,ct,et,hct,hTS⟩:=hN4.bs;subst et;have he4:=he3.trans hN4.ext;have hVS4:=hVS.ext (he2.trans (hR.mem.ext.trans hN4.ext));have hV4:=hV.ext (hR.mem.ext.trans hN4.ext);clear hR hidS he3;obtain ⟨X,eX⟩:∃ X,X=vocB T:=⟨_,rfl⟩
  obtain ⟨Y,eY⟩:∃ Y,Y=qgy (noQ T qs) i:=⟨_,rfl⟩
  have hto3:=hVO.tot hrise (fun t ht=>(hterm t ht).2);rw [← eX] at hvl hVS4 hpkl ⊢;rw [← eY] at htl hTS hpkl ⊢;refine zu ?_;refine V.Fall.min2 rfl rfl rfl fun k hk=>?_
  (conv=>whnf);refine zcv (qe1 k w4) ?_;rintro r w5 ⟨b,rfl,he5,hb5,hB⟩;obtain ⟨m,em⟩:∃ m,m=(max k 0).toNat:=⟨_,rfl⟩
  rw [← em] at hB;have hSp:Sep w4 w5 [[b]]:=(Sep.of (Ext.refl w4)).add he5 fun k hk=>by rw [List.mem_singleton.1 hk];exact ⟨hb5,hB.lt b (List.mem_singleton.2 rfl)⟩
  (conv=>whnf);refine zcv (qe1 28 w5) ?_;rintro r w6 ⟨b2,rfl,he6,hb6,hB2⟩;have hSp:=hSp.add he6 (F:=[b2]) fun k hk=>by rw [List.mem_singleton.1 hk];exact ⟨hb6,hB2.lt b2 (List.mem_singleton.2 rfl)⟩
  have hB:=hB.call he6;(conv=>whnf);refine zcv (qwp vb (vocB T) w6 (hV4.ext (he5.trans he6))) ?_;rintro r w7 ⟨rfl,rfl⟩;rw [hto3];(conv=>whnf);obtain ⟨ns,ens⟩:∃ ns,ns=hdN i T.length X.length Y.length:=⟨_,rfl⟩
  have hnl:ns.length=6:=by rw [ens];rfl
  have hns:∀ x∈ns,x<18446744073709551616:=fun x hx=>by
   rw [ens] at hx;simp only [hdN,List.mem_cons,List.not_mem_nil,or_false] at hx;omega
  have hag:(#[ii 1095914324,ii 1,ii i,ii T.length,ii X.length,ii Y.length]:Array Value)=(ns.map fun n:Nat=>ii (n:Nat)).toArray:=by rw [ens];rfl
  refine qe (fun j:Nat=>[(6,.slice Av X.length cv),(15,.slice At Y.length ct),(16,pp b),(17,pp b2),(73,.agg (ns.map fun n:Nat=>ii (n:Nat)).toArray),(74,ii j)])
   (fun j w'=>j≤6∧∃ F,Sep w4 w' [F,[b]]∧BufAt w' b2 28 (fxL (ns.take j)) F∧BufAt w' b m [] [b]) (fun j=>6-j) 0 ⟨rfl,rfl,rfl,rfl,(by rw [← hag];rfl),rfl,trivial⟩ ⟨by omega,_,hSp,hB2,hB⟩ ?_
  clear hSp hB2 hB;rintro j w8 ρ2 ⟨j1,F,hSp,hB2,hB⟩;have hfl:(fxL (ns.take j)).length≤24:=by rw [q5l,List.length_take];omega
  (conv=>whnf);refine zC (fun _=>zu ?_) (fun _=>zu ?_)
  ·have hj6:j<ns.length:=by omega
   have hget:(ns.map fun n:Nat=>ii (n:Nat))[j]?=some (ii (ns[j]:Nat)):=by rw [List.getElem?_map,zge hj6];rfl
   refine ⟨ii (ns[j]:Nat),by rw [show j*tsz Tryz.prog 3=j by rw [show tsz Tryz.prog 3=1 from by kernel_rfl];omega];exact hget,?_⟩;have hnj:=hns _ (List.getElem_mem hj6);refine zu ?_;refine zcv (qku b2 28 _ ns[j] F w8 hB2 hnj Od Oo) ?_;rintro r w9 ⟨rfl,hC⟩;obtain ⟨F9,hs9,hB2⟩:=hSp.buf (i:=0) rfl hC;have hB:=hB.keep (hs9.keep 1 [b] rfl Od);rw [← q18 ns hj6] at hB2;refine zu ?_;exact ⟨j+1,⟨rfl,rfl,rfl,rfl,rfl,congrArg (Value.int .i64) Oo,trivial⟩,⟨by omega,F9,hs9.sep,hB2,hB⟩,by omega⟩
  ·obtain rfl:j=6:=by omega
   have hall:fxL (ns.take 6)=h24 i T.length X.length Y.length:=by rw [List.take_of_length_le Oo,ens,q5k]
   rw [hall] at hB2 hfl;refine zcv (qcm b2 28 _ F w8 hB2 Oo) ?_;rintro r w9 (⟨hbig,rfl,rfl⟩|⟨hle,v,rfl,hN9⟩)
   ·omega
   obtain ⟨Ah,ch,eh,hch,hHS⟩:=hN9.bs;subst eh;have hSp:=((hSp.drop 1).add hN9.ext hN9.lo).perm (List.Perm.swap _ _ _);have hB:=hB.call hN9.ext;clear hB2;obtain ⟨H,eH⟩:∃ H,H=h24 i T.length X.length Y.length:=⟨_,rfl⟩
   rw [← eH] at hHS hSp hfl ⊢;have h24l:H.length=24:=by rw [eH];exact qqp _ _ _ _
   obtain ⟨ps,eps⟩:∃ ps,ps=[H,X,Y]:=⟨_,rfl⟩
   have hpl:ps.length=3:=by rw [eps];rfl
   have hptk:ptL ps=pkB qs:=by rw [eps,eH,q25,eX,eY,← hn,eT];rfl
   have hrow:∀ j (hj:j<ps.length) w',Ext w4 w'→SlAt encB 1 w' Ah H→∃ Aj cj,[Value.slice Ah H.length ch,.slice Av X.length cv,.slice At Y.length ct][j]?=some (.slice Aj ps[j].length cj)∧SlAt encB 1 w' Aj ps[j]∧ps[j].length≤67108864:=fun j hj w' he hh=>by
    subst eps
    rcases (show j=0∨j=1∨j=2 by omega) with rfl|rfl|rfl
    ·exact ⟨Ah,ch,rfl,hh,by show H.length≤_;omega⟩
    ·exact ⟨Av,cv,rfl,hVS4.ext he,hvl⟩
    ·exact ⟨At,ct,rfl,hTS.ext he,htl⟩
   (conv=>whnf);refine qe (fun j:Nat=>[(16,pp b),(90,.agg #[.slice Ah H.length ch,.slice Av X.length cv,.slice At Y.length ct]),(91,ii j)])
    (fun j w'=>j≤3∧(ptL (ps.take j)).length≤j*67108868∧∃ F,Sep w4 w' [F,rowF (.slice Ah H.length ch)]∧BufAt w' b m (ptL (ps.take j)) F∧SlAt encB 1 w' Ah H) (fun j=>3-j) 0 ⟨rfl,rfl,rfl,trivial⟩ ⟨by omega,Nat.zero_le _,_,hSp,hB,hHS⟩ ?_
   clear hSp hB hHS;rintro j w10 ρ3 ⟨j2,hlj,F3,hSp,hB,hHS⟩;(conv=>whnf);refine zC (fun _=>zu ?_) (fun _=>zu ?_)
   ·have hj3:j<ps.length:=by omega
    obtain ⟨Aj,cj,hget,hsj,hpj⟩:=hrow j hj3 w10 hSp.ext hHS;obtain ⟨pj,epj⟩:∃ pj,pj=ps[j]:=⟨_,rfl⟩
    have hnx:=q24 ps hj3;rw [← epj] at hget hsj hpj hnx;refine ⟨.slice Aj pj.length cj,by rw [show j*tsz Tryz.prog 60=j by rw [show tsz Tryz.prog 60=1 from by kernel_rfl];omega];exact hget,?_⟩;have hcr:(crcL pj).toNat<4294967296:=(crcL pj).isLt;(conv=>whnf);refine zcv (qcu b m _ pj F3 Aj pj.length cj w10 hB hsj rfl Oo Oo) ?_;rintro r w11 ⟨rfl,hC⟩;obtain ⟨F4,hs4,hB⟩:=hSp.buf (i:=0) rfl hC;have hHS:=hHS.keep fun x hx=>hs4.keep 1 _ rfl Od x (by rw [qd4 _ _ _ 0 0];exact hx)
    obtain ⟨Aj2,cj2,hget2,hsj2,_⟩:=hrow j hj3 w11 hs4.sep.ext hHS;have hsj3:SlAt encB 1 w11 Aj pj:=by
     rw [← epj] at hget2 hsj2;have e:=Option.some.inj (hget.symm.trans hget2)
     injection e with e1 e2 e3
     rw [e1];exact hsj2
    have heN:=(he4.trans hs4.sep.ext)
    (conv=>whnf);refine zcv (q6y pj Aj pj.length cj w11 hsj3 rfl Oo (CellsAt.ext hNib heN)) ?_;rintro r w12 ⟨rfl,rfl⟩;refine zu ?_;refine zcv (qku b m _ (crcL pj).toNat F4 w12 hB Oo Oo (by rw [zla];omega)) ?_;rintro r w13 ⟨rfl,hC⟩;obtain ⟨F5,hs5,hB⟩:=hs4.sep.buf (i:=0) rfl hC;have hHS:=hHS.keep fun x hx=>hs5.keep 1 _ rfl Od x (by rw [qd4 _ _ _ 0 0];exact hx)
    rw [← show sumL pj=fixL (crcL pj).toNat 4 from rfl,← hnx] at hB;refine zu ?_;refine ⟨j+1,⟨rfl,rfl,congrArg (Value.int .i64) Oo,trivial⟩,⟨by omega,?_,F5,hs5.sep,hB,hHS⟩,by omega⟩;rw [hnx,zla,zla,qnp];omega
   ·obtain rfl:j=3:=by omega
    rw [List.take_of_length_le Oo,hptk] at hB;refine zcv (qcm b m _ F3 w10 hB Oo) ?_;rintro r w11 (⟨hbig,rfl,rfl⟩|⟨hle,v,rfl,hN⟩)
    ·have e1:=qip (qs:=qs) (most:=most) hv (by rw [← eT];exact hvo) Oo;(conv=>whnf);exact .inl ⟨by rw [e1];decide,by rw [e1];rfl,he4.trans hSp.ext⟩
    ·have e1:=qx0 (qs:=qs) (most:=most) hv (by rw [← eT];exact hvo) Oo;obtain ⟨A9,c9,ev9,_⟩:=id hN.h;subst ev9;(conv=>whnf);exact .inr ⟨e1,_,rfl,hN.back (he4.trans hSp.ext)⟩
structure DsE where
 A:oA
 c:Nat
 qs:List Q4
theorem strU:Tryz.prog.underlying 9=some .string:=Tryz.underlying9
theorem qd5 (n:Nat) (w:World) (hn:n<18446744073709551616) :
  Gv Tryz.prog 75 [.int .u64 n] w fun r w'=>BS w' r (varL n)∧Ext w w':=by
 have hv:=qac 9 n (Nat.lt_of_lt_of_le hn Od);refine ze Tryz.func75 Tryz.ntmps75 ?_;refine qe (fun x:oA × Nat × LB × Nat=>[(0,.int .u64 x.2.2.2),(3,.slice x.1 x.2.2.1.length x.2.1)])
  (fun x w2=>x.2.2.2<18446744073709551616∧varL n=x.2.2.1++varL x.2.2.2∧Rw w w2 (.slice x.1 x.2.2.1.length x.2.1) 5 1 x.2.2.1.length (byV x.2.2.1) []) (fun x=>x.2.2.2) (none,0,[],n) ⟨rfl,rfl,trivial⟩ ⟨hn,rfl,Rw.nil (Mem.nil w)⟩ ?_
 rintro ⟨A,c,ys,k⟩ w2 ρ' ⟨h1,h2,hR⟩;dsimp only at h1 h2 hR ⊢;have hp:=qup k;have hyl:ys.length+(varL k).length≤10:=by have:=congrArg List.length h2;rw [zla] at this;omega
 (conv=>whnf);refine zC (fun _=>zu ?_) (fun _=>zu ?_)
 ·refine V.Wit.low8 (zw ?_);refine Wit.eq (qkv k) (zw ?_);refine NewV.rw hR fun nb w4 hR4=>zw ?_;refine AppV.one qbf bytI bytZ Ok rfl (by decide +kernel) hR4 rfl Oo ?_;intro B' d' w5 hR5;(conv=>whnf);refine V.Wit.shrN 7 rfl Od (zw ?_);have hk:128≤k:=by omega
  have e:(ys++[UInt8.ofNat (k%128+128)]).length=ys.length+1:=by simp
  refine ⟨(B',d',ys++[UInt8.ofNat (k%128+128)],k/128),⟨rfl,by show Value.slice _ _ _=_;rw [e],trivial⟩,⟨by simp only;omega,?_,?_⟩,by simp only;omega⟩
  ·rw [h2,qdn hk,List.append_assoc];rfl
  ·show Rw w w5 (.slice B' (ys++[UInt8.ofNat (k%128+128)]).length d') _ 1 _ _ _;rw [e,byV,List.map_append,List.map_cons,List.map_nil,qak Oo];exact hR5
 ·have hk:k<128:=by omega
  refine NewV.rw hR fun nb w4 hR4=>zw ?_;refine AppV.one qbf bytI bytZ Ok rfl (by decide +kernel) hR4 rfl Oo ?_;intro B' d' w5 hR5;have e:(ys++[UInt8.ofNat k]).length=ys.length+1:=by simp
  have hR6:Rw w w5 (.slice B' (ys.length+1) d') 5 1 (ys.length+1) (byV (ys++[UInt8.ofNat k])) []:=by
   rw [byV,List.map_append,List.map_cons,List.map_nil,qak Oo];exact hR5
  have e2:varL n=ys++[UInt8.ofNat k]:=by rw [h2,qco hk]
  (conv=>whnf);exact ⟨by rw [e2];exact Rw.byts hR6 e,hR6.mem.ext⟩
theorem qpk (ps:List Nat) (wd:Nat) (A:oA) (n c:Nat) (w:World) (hS:SlAt encU 1 w A ps) (hn:ps.length=n) (hl:n≤4398046511104) (hnw:n*wd≤4398046511104) (hp:∀ x∈ps,x<2 ^ wd) (hw:wd≤64) :
  Gv Tryz.prog 81 [.slice A n c,ii wd] w fun r w'=>∃ v,r=.tuple #[v,ii 0]∧NewS 5 w w' v (qcs ps wd):=by
 have hroom:=fun w=>qv5 n wd w hnw
 obtain ⟨f,ef⟩:∃ f,f=n*wd:=⟨_,rfl⟩
 rw [← ef] at hroom;have efp:ps.length*wd=f:=by rw [hn,ef]
 refine ze Tryz.func81 Tryz.ntmps81 ?_;refine zv ?_;refine qe (fun i:Nat=>[(0,.slice A n c),(1,ii wd),(6,ii i)]) (fun i w'=>i≤n∧w'=w) (fun i=>n-i) 0 ⟨rfl,rfl,rfl,trivial⟩ ⟨Nat.zero_le _,rfl⟩ ?_;rintro i w1 ρ' ⟨i1,rfl⟩;(conv=>whnf);refine zC (fun _=>zw ?_) (fun _=>zw ?_)
 ·have hi:i<ps.length:=by omega
  have hx:=hp _ (List.getElem_mem hi);have hx64:ps[i]<18446744073709551616:=Nat.lt_of_lt_of_le hx (Nat.pow_le_pow_right Od hw);have hwd:=qnw hx hw;refine ElemV.sl hS hn i rfl Oo ?_;intro eb eo hcell;(conv=>whnf);refine LoadV.cell0 hcell (zw ?_);refine zcv (qhv ps[i] w1 hx64) ?_;rintro r w2 ⟨rfl,rfl⟩;refine zu ?_;exact ⟨i+1,⟨rfl,rfl,rfl,trivial⟩,⟨by omega,rfl⟩,by omega⟩
 ·refine zcv (hroom w1) ?_;rintro r w4 ⟨rfl,rfl⟩;(conv=>whnf);refine ⟨(f+7)/8,(f+7)/8,rfl,rfl,Nat.le_refl _,by show (f+7)/8*1≤_;omega,by omega,fun ob w5 hb hw5=>?_⟩;have hm:=(Mem.nil w4).new hb hw5;have hm:Mem w4 w5 [(ob,.cells (pkC ps wd 0).toArray 5)]:=by rw [qtz,efp];exact hm
  clear hb hw5;(conv=>whnf);refine qe (fun i:Nat=>[(0,.slice A n c),(1,ii wd),(7,.slice (some ⟨ob,0,none⟩) ((f+7)/8) ((f+7)/8)),(8,ii i)])
   (fun i w'=>i≤n∧Mem w4 w' [(ob,.cells (pkC ps wd (i*wd)).toArray 5)]) (fun i=>n-i) 0 ⟨rfl,rfl,rfl,rfl,trivial⟩ ⟨Nat.zero_le _,by rw [Nat.zero_mul];exact hm⟩ ?_
  clear hm;rintro i w6 ρ' ⟨i1,hm⟩;(conv=>whnf);refine zC (fun _=>zw ?_) (fun _=>zw ?_)
  ·have hi:i<ps.length:=by omega
   have hx:=hp _ (List.getElem_mem hi);have hx64:ps[i]<18446744073709551616:=Nat.lt_of_lt_of_le hx (Nat.pow_le_pow_right Od hw);have hg:ps.getD i 0=ps[i]:=by rw [List.getD_eq_getElem?_getD,zge hi];rfl
   have hm1:i*wd+wd≤f:=by rw [ef,← Nat.succ_mul];exact Nat.mul_le_mul_right _ Oo
   obtain ⟨g,eg⟩:∃ g,g=i*wd:=⟨_,rfl⟩
   have egi:(i:Int)*(wd:Int)=(g:Int):=by rw [eg,Int.natCast_mul]
   rw [← eg] at hm1;refine qe (fun k:Nat=>[(0,.slice A n c),(1,ii wd),(7,.slice (some ⟨ob,0,none⟩) ((f+7)/8) ((f+7)/8)),(8,ii i),(9,ii k)])
    (fun k w'=>k≤wd∧Mem w4 w' [(ob,.cells (pkC ps wd (g+k)).toArray 5)]) (fun k=>wd-k) 0 ⟨rfl,rfl,rfl,rfl,rfl,trivial⟩ ⟨Nat.zero_le _,by rw [Nat.add_zero,eg];exact hm⟩ ?_
   clear hm;rintro k w7 ρ2 ⟨k1,hm⟩;have hq:ps[i]/2 ^ k<18446744073709551616:=Nat.lt_of_le_of_lt (Nat.div_le_self _ _) hx64;(conv=>whnf);refine zC (fun _=>zu ?_) (fun _=>zu ?_)
   ·have hkw:k<wd:=by omega
    have he:g+k<ps.length*wd:=by rw [efp];omega
    have hcl:=qzx ps wd (g+k);rw [efp] at hcl;have hld:=q4e he;have hF:pkF ps wd (g+k)=ps[i]/2 ^ k:=by rw [eg,q4f hkw,hg]
    have hby:=qky (upF (pkF ps wd) (g+k)) ((g+k)/8);have hst:=qzy he;rw [hF] at hst;obtain ⟨gb,go,hA,hcl2⟩:=hS.at_ (by intro e;rw [e] at hi;cases hi);subst hA;have hcell:=(hcl2 i _ (zge hi)).ext hm.ext;rw [egi];refine DrawV.own rfl Ok (zw ?_);(iterate 6 (refine zo ?_));apply StepO.still
    ·intro wd hd;(conv=>whnf);refine ElemV.own1 ((g+k)/8) rfl Oo (zw ?_);exact PostO.still xr rfl
    (conv=>whnf);apply StepO.still
    ·intro wd hd;(conv=>whnf);refine LoadV.mem (Mem.call (Mem.drew hm) hd) (i:=0) rfl (by rw [List.getElem?_toArray];exact hld) ?_;(conv=>whnf);exact PostO.still xr rfl
    (conv=>whnf);refine zo ?_;refine zo ?_;apply StepO.still
    ·intro wd1 hd;(conv=>whnf);refine ⟨⟨gb,go,i,rfl,by omega,by omega,?_⟩⟩;exact PostO.still xr rfl
    (conv=>whnf);apply StepO.still
    ·intro wd1 hd;(conv=>whnf);refine LoadV.cell0 (hcell.ext ((Ext.refl w7).drew.trans hd)) (zw ?_);exact PostO.still xr rfl
    (conv=>whnf);refine zo ?_;apply StepO.still
    ·intro wd1 hd;(conv=>whnf);refine V.Wit.shrN k rfl (by show k<64;omega) (zw ?_);exact PostO.still xr rfl
    (conv=>whnf);apply StepO.still
    ·intro wd1 hd;(conv=>whnf);refine Wit.eq (qbc (k:=.u64) (m:=ps[i]/2 ^ k) 1 rfl (qls hq) ⟨by omega,by omega⟩) (zw ?_);exact PostO.still xr rfl
    (conv=>whnf);(iterate 3 (refine zo ?_));apply StepO.still
    ·intro wd1 hd;(conv=>whnf);refine V.Wit.shlN ((g+k)%8) Oo (by show (g+k)%8<8;omega) (qd8 ?_) ?_
     ·have h2:2 ^ ((g+k)%8)≤2 ^ 7:=Nat.pow_le_pow_right Od Oo;have h3:ps[i]/2 ^ k%2 ^ 1*2 ^ ((g+k)%8)≤1*2 ^ ((g+k)%8):=Nat.mul_le_mul_right _ Oo;have e7:(2:Nat) ^ 7=128:=by decide
      show ps[i]/2 ^ k%2 ^ 1*2 ^ ((g+k)%8)<256;omega
     (conv=>whnf);exact PostO.still xr rfl
    (conv=>whnf);apply StepO.still
    ·intro wd1 hd;(conv=>whnf);refine Wit.eq (qtw (f:=pkF ps wd) (g+k) (ps[i]/2 ^ k)) (zw ?_);exact PostO.still xr rfl
    (conv=>whnf);apply StepO.still
    ·intro wd1 hd;(conv=>whnf);refine ElemV.own1 ((g+k)/8) rfl Oo (zw ?_);exact PostO.still xr rfl
    (conv=>whnf);intro w8 hd8
    (repeat (intro _;(conv=>whnf)))
    (conv=>whnf);refine StoreV.mem (hm.drew.call hd8) (i:=0) rfl (by rw [List.size_toArray];omega) rfl ?_;intro w9 hm;have hm:Mem w4 w9 [(ob,.cells (pkC ps wd (g+k+1)).toArray 5)]:=by
     rw [← hst];have e:((pkC ps wd (g+k)).toArray.setIfInBounds ((g+k)/8) (.int .u8 (byt (upF (pkF ps wd) (g+k)) ((g+k)/8)+ps[i]/2 ^ k%2*2 ^ ((g+k)%8):Nat)))=((pkC ps wd (g+k)).set ((g+k)/8) (.int .u8 (byt (upF (pkF ps wd) (g+k)) ((g+k)/8)+ps[i]/2 ^ k%2*2 ^ ((g+k)%8):Nat))).toArray:=by simp
     rw [← e];exact hm
    refine zu ?_;refine ⟨k+1,⟨rfl,rfl,rfl,rfl,rfl,trivial⟩,⟨by omega,hm⟩,by omega⟩
   ·have hkw:k=wd:=by omega
    refine ⟨i+1,⟨rfl,rfl,rfl,rfl,trivial⟩,⟨by omega,?_⟩,by omega⟩;rw [Nat.add_mul,Nat.one_mul,← eg,show g+wd=g+k by omega];exact hm
  ·obtain rfl:i=n:=by omega
   obtain ⟨o1,o2⟩:=hm.own _ mh;refine ⟨_,rfl,NewS.blk hm.ext o1 ?_ (by rw [qbl,efp])⟩;rw [← qzw,hn];exact o2
theorem qm6 (v:Value) (x:LB) (n:Nat) (s:ByteArray) (w:World) (h:w.ownsRow 0 5 1 v x.length (byV x)) (hn:n<9223372036854775808) (hl:x.length+s.size+16≤8000000000000) :
  Gv Tryz.prog 123 [v,ii n,.string s] w fun r w'=>RowC 5 w w' v r (x++(varL n++s.data.toList)):=by
 have hv:=qac 9 n (Nat.lt_of_lt_of_le hn Od);obtain ⟨A,c,rfl⟩:=q8 h;refine ze Tryz.func123 Tryz.ntmps123 ?_;refine zv ?_;refine zcv (qd5 n w Oo) ?_;rintro r w1 ⟨⟨B,d,rfl,hd,hS⟩,he⟩;have h1:=q9 h he;(conv=>whnf);refine AppV.bys qbf bytI bytZ Ok rfl (by decide +kernel) h1 hS Oo ?_;intro A' c' w2 ho2 hc2 hn2;(conv=>whnf);have hlen:(x++varL n).length=x.length+(varL n).length:=zla;have ho2':w2.ownsRow 0 5 1 (.slice A' (x.length+(varL n).length) c') (x++varL n).length (byV (x++varL n)):=ho2;refine AppV.strR qbf strU bytI bytZ Ok Ok ho2' Oo ?_;intro A3 c3 w3 ho3 hc3 hn3;(conv=>whnf);have e:(x++(varL n++s.data.toList)).length=(x++varL n).length+s.size:=by rw [← List.append_assoc,zla];rfl
 have r1:RowC 5 w1 w2 (.slice A x.length c) (.slice A' (x.length+(varL n).length) c') (x++varL n):=⟨⟨A',c',by rw [hlen]⟩,ho2,hc2,hn2⟩
 have r2:RowC 5 w2 w3 (.slice A' (x.length+(varL n).length) c') (.slice A3 ((x++varL n).length+s.size) c3) (x++(varL n++s.data.toList)):=⟨⟨A3,c3,by rw [e]⟩,by rw [← List.append_assoc];exact ho3,hc3,hn3⟩
 exact (r1.trans r2).back he
end Go.Proofs.YtacnkdagblbgfaaGreatDoor
