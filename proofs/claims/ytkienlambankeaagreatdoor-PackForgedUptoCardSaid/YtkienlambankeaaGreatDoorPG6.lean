/- Lemmas and contracts of functions on the way to the law's card (part 6 of 10). -/
import Derived.Test.YtkienlambankeaaGreatDoorPG5
import Derived.OrdersIn
namespace Go.Proofs.YtkienlambankeaaGreatDoor
set_option maxHeartbeats 8000000
open Go.RowKit V
theorem q2p {l:List Nat} {w:Nat} (h:∀ i,i<l.length→l.getD i 0<2 ^ w):unpN (qcx l w) l.length w=l:=by
 apply List.ext_getElem
 ·simp [unpN]
 ·intro i h1 h2;simp only [unpN,List.getElem_map,List.getElem_range];rw [qkt h2 (h i h2),List.getD_eq_getElem?_getD,zge h2];rfl
section
variable {Q:Nat→Nat→Nat} {n:Nat} (h:TOk Q n)
include h
theorem TOk.lvE {k:Nat} (hk:k<4):(lvE (qv Q n) k).2=0:=by
 refine q7j ?_ ?_ ?_ ?_
 ·refine Classical.byContradiction fun g=>?_;have g1:=(qkp _ _ _).1 g;rw [h.packed hk,h.tw hk,h.vNum hk] at g1;exact qks _ _ g1
 ·rw [h.packed hk,h.tw hk,h.vNum hk,show leT Q k n=(nuT Q k n).length from rfl,q2p fun i hi=>q0u (h.big hk) hi];rfl
 ·by_cases e:k=0
  ·exact .inl e
  ·obtain ⟨m,rfl⟩:∃ m,k=m+1:=⟨k-1,by omega⟩
   exact .inr (by rw [h.vcE hk])
 ·intro e he;rw [h.vNum hk] at he;have hm:(nuT Q k n).getD e 0∈nuT Q k n:=by
   rw [List.getD_eq_getElem?_getD,zge (show e<(nuT Q k n).length from he)];exact List.getElem_mem _
  obtain ⟨i,h1,h2⟩:=qik hm;obtain ⟨h3,h4⟩:=h.num i k h1 hk;rw [h2] at h3 h4;rw [qvc]
  ·rw [h.tX hk he];rintro (⟨g1,g2⟩|g1)
   ·have:=h3 g1;omega
   ·omega
  ·rintro ⟨g1,g2,g3⟩;rw [h.tX hk he,h.tX hk Oo] at g3;have:=h.order hk g1 he g2;omega
theorem TOk.toE:(toE (qv Q n)).2=0:=q7x h.tE fun _ hk=>h.lvE hk
theorem TOk.fresh {i:Nat} (hi:i<n):frU Q i 3=true:=by
 by_cases h0:i=0
 ·rw [h0];exact qem Q 3
 ·obtain ⟨k,h1,h2,h3⟩:=h.rise i Oo hi;cases hf:frU Q i 3 with
  | true=>rfl
  | false=>have:=(qft hf).2 k Oo;omega
theorem TOk.all:∀ {i:Nat},i≤n→leT Q 3 i=i
 | 0,_=>rfl
 | i+1,hi=>by rw [qa8 (h.fresh hi),TOk.all Oo]
theorem TOk.up {i:Nat} (hi:i<n):∀ {j:Nat},j<4→tUp (qv Q n) i j=leT Q (3-j) (i+1)-1
 | 0,_=>by rw [tUp,h.all Oo];rfl
 | j+1,hj=>by
  have ih:=TOk.up hi (j:=j) Oo;obtain ⟨k,hk⟩:∃ k,3-j=k+1:=⟨2-j,by omega⟩
  have hv:=qbs h.toE (3-j) Oo Oo;have hp:=qie (Q:=Q) (k+1) (i:=i+1) Oo;have hm:=qg4 (Q:=Q) (k+1) (a:=i+1) (b:=n) hi;rw [tUp,ih,hv.rank _ (by rw [h.vNum Oo,hk];omega),hk];obtain ⟨_,h2,_,h4,_⟩:=h.vec (k:=k) Oo;rw [← qps _ _ (by rw [h2];omega),h4,q2b Q k hi,show 3-(j+1)=k by omega]
theorem TOk.tNum {i k:Nat} (hi:i<n) (hk:k<4):tNum (qv Q n) i k=Q i k:=by
 have hp:=qie (Q:=Q) k (i:=i+1) Oo;have hm:=qg4 (Q:=Q) k (a:=i+1) (b:=n) hi;have hw:=h.wi hk;rw [Go.Proofs.YtkienlambankeaaGreatDoor.tNum,h.up hi Oo,show 3-(3-k)=k by omega,qn2 _ _ _ (by rw [h.tw hk];omega)];exact (h.tX hk (e:=leT Q k (i+1)-1) Oo).trans (ql9 k hi)
end
def h24 (nq nt nv nr:Nat):LB:=fixL 1095914324 4++(fixL 1 4++(fixL nq 4++(fixL nt 4++(fixL nv 4++fixL nr 4))))
def sumL (p:LB):LB:=fixL (crcL p).toNat 4
def qch (nq nt:Nat) (V T:LB):LB:=
 h24 nq nt V.length T.length++(sumL (h24 nq nt V.length T.length)++(V++(sumL V++(T++sumL T))))
theorem qdz (a b c d:Nat):(h24 a b c d).length=24:=by simp [h24,qh]
theorem qcs (p:LB):(sumL p).length=4:=qh _ _
theorem qor (p:LB):leN (sumL p)=(crcL p).toNat:=by
 rw [sumL,qd0,Nat.mod_eq_of_lt];exact (crcL p).isLt
theorem qt {α:Type} {a b:List α} {n:Nat} (h:a.length=n):(a++b).drop n=b:=by subst h;exact qf a b
theorem qck {α:Type} {a b:List α} {n:Nat} (h:a.length=n):(a++b).take n=a:=by subst h;exact List.take_left
theorem qco (n:Nat) (r:LB) (h:n<4294967296):leN ((fixL n 4++r).take 4)=n:=by
 rw [qck (qh n 4),qd0,Nat.mod_eq_of_lt h]
section
variable {nq nt:Nat} {V T:LB} (h1:nq<4294967296) (h2:nt<4294967296) (h3:V.length+T.length+36≤67108864)
theorem qvi (nq nt:Nat) (V T:LB):(qch nq nt V T).length=V.length+T.length+36:=by
 simp only [qch,zla,qdz,qcs];omega
theorem qku (nq nt:Nat) (V T:LB) (k:Nat) (hk:k≤6):(qch nq nt V T).drop (4*k)=(h24 nq nt V.length T.length).drop (4*k)++(sumL (h24 nq nt V.length T.length)++(V++(sumL V++(T++sumL T)))):=by
 rw [qch,List.drop_append_of_le_length (by rw [qdz];omega)]
theorem q96:hN (qch nq nt V T) 0=1095914324:=by
 rw [hN,qku _ _ _ _ 0 Oo,h24];simp only [Nat.mul_zero,List.drop_zero,List.append_assoc];exact qco _ _ Od
theorem q97:hN (qch nq nt V T) 1=1:=by
 rw [hN,qku _ _ _ _ 1 Oo,h24,qt (qh _ _)];simp only [List.append_assoc];exact qco _ _ Od
include h1 in
theorem q98:hN (qch nq nt V T) 2=nq:=by
 rw [hN,qku _ _ _ _ 2 Oo,h24,show 4*2=4+4 from rfl,← List.drop_drop,qt (qh _ _),qt (qh _ _)];simp only [List.append_assoc];exact qco _ _ h1
include h2 in
theorem q99:hN (qch nq nt V T) 3=nt:=by
 rw [hN,qku _ _ _ _ 3 Oo,h24,show 4*3=4+4+4 from rfl,← List.drop_drop,← List.drop_drop,qt (qh _ _),qt (qh _ _),qt (qh _ _)];simp only [List.append_assoc];exact qco _ _ h2
include h3
theorem qkv:hN (qch nq nt V T) 4=V.length:=by
 rw [hN,qku _ _ _ _ 4 Oo,h24,show 4*4=4+4+4+4 from rfl,← List.drop_drop,← List.drop_drop,← List.drop_drop,qt (qh _ _),qt (qh _ _),qt (qh _ _),qt (qh _ _)];simp only [List.append_assoc];exact qco _ _ Oo
theorem qsr:hN (qch nq nt V T) 5=T.length:=by
 rw [hN,qku _ _ _ _ 5 Oo,h24,show 4*5=4+4+4+4+4 from rfl,← List.drop_drop,← List.drop_drop,← List.drop_drop,← List.drop_drop,qt (qh _ _),qt (qh _ _),qt (qh _ _),qt (qh _ _),qt (qh _ _)];exact qco _ _ Oo
omit h3 in
theorem qaaa:hN (qch nq nt V T) 6=(crcL ((qch nq nt V T).take 24)).toNat:=by
 rw [hN,qku _ _ _ _ 6 Oo,List.drop_of_length_le (by rw [qdz];omega),List.nil_append,qck (qcs _),qor,qch,qck (qdz _ _ _ _)]
theorem q1a:(qar (qch nq nt V T)).2=0:=by
 have hl:=qvi nq nt V T;rw [qar,hl,qkv h3,qsr h3,q96,q97,← qaaa,if_neg Oo,if_neg Oo,if_neg Oo,if_neg Oo,if_neg Oo,if_neg Oo,if_neg Oo]
omit h3 in
theorem qn7 (nq nt:Nat) (V T:LB):(qch nq nt V T).drop 28=V++(sumL V++(T++sumL T)):=by
 rw [qch,show 28=24+4 from rfl,← List.drop_drop,qt (qdz _ _ _ _),qt (qcs _)]
theorem q7n:qk (qch nq nt V T)=V:=by rw [qk,qn7,qkv h3,List.take_left]
theorem q7m:qe (qch nq nt V T)=T:=by
 rw [qe,qkv h3,qsr h3,show 32+V.length=28+(V.length+4) by omega,← List.drop_drop,qn7,← List.drop_drop,qf,qt (qcs _),List.take_left]
theorem q1b:pS1 (qch nq nt V T):=by
 rw [pS1,q7n h3,qkv h3,← List.drop_drop,qn7,qf,qck (qcs _),qor]
theorem q1c:pS2 (qch nq nt V T):=by
 rw [pS2,q7m h3,qkv h3,qsr h3,show 32+V.length+T.length=28+(V.length+(4+T.length)) by omega,← List.drop_drop,qn7,← List.drop_drop,qf,← List.drop_drop,qt (qcs _),qf,List.take_of_length_le (by rw [qcs];exact Nat.le_refl _),qor]
end
theorem RiseT.at {T:List TM} (h:RiseT T) {i j:Nat} {a b:TM} (hij:i<j) (ha:T[i]?=some a) (hb:T[j]?=some b):LtT a b:=by
 obtain ⟨h1,rfl⟩:=List.getElem?_eq_some_iff.1 ha;obtain ⟨h2,rfl⟩:=List.getElem?_eq_some_iff.1 hb;exact (List.pairwise_iff_getElem.1 h) i j h1 h2 hij
theorem RiseT.inj {T:List TM} (h:RiseT T) {i j:Nat} {a:TM} (ha:T[i]?=some a) (hb:T[j]?=some a):i=j:=by
 rcases Nat.lt_trichotomy i j with g|g|g
 ·exact absurd (h.at g ha hb) (LtT.irrefl a)
 ·exact g
 ·exact absurd (h.at g hb ha) (LtT.irrefl a)
theorem RiseT.lt {T:List TM} (h:RiseT T) {i j:Nat} {a b:TM} (ha:T[i]?=some a) (hb:T[j]?=some b) (hl:LtT a b):i<j:=by
 rcases Nat.lt_trichotomy i j with g|g|g
 ·exact g
 ·subst g;rw [ha] at hb;cases hb;exact absurd hl (LtT.irrefl a)
 ·exact absurd (hl.trans (h.at g hb ha)) (LtT.irrefl a)
theorem RiseT.ext:∀ {S T:List TM},RiseT S→RiseT T→(∀ y,y∈S↔y∈T)→S=T
 | [],[],_,_,_=>rfl
 | [],b::T,_,_,h=>absurd ((h b).2 mh) Js
 | a::S,[],_,_,h=>absurd ((h a).1 mh) Js
 | a::S,b::T,hs,ht,h=>by
  obtain ⟨s1,s2⟩:=List.pairwise_cons.1 hs;obtain ⟨t1,t2⟩:=List.pairwise_cons.1 ht;have e:a=b:=by
   rcases List.mem_cons.1 ((h a).1 mh) with g|g
   ·exact g
   ·rcases List.mem_cons.1 ((h b).2 mh) with g2|g2
    ·exact g2.symm
    ·exact absurd ((t1 a g).trans (s1 b g2)) (LtT.irrefl b)
  subst e
  congr 1
  refine RiseT.ext s2 t2 fun y=>⟨fun hy=>?_,fun hy=>?_⟩
  ·rcases List.mem_cons.1 ((h y).1 (zmc hy)) with g|g
   ·subst g;exact absurd (s1 y hy) (LtT.irrefl y)
   ·exact g
  ·rcases List.mem_cons.1 ((h y).2 (zmc hy)) with g|g
   ·subst g;exact absurd (t1 y hy) (LtT.irrefl y)
   ·exact g
def noT (T:List TM) (t:TM):Nat:=if t.kind=0 then 0 else T.findIdx (fun x=>cmpT x t==0)+1
theorem qg9 {T:List TM} {t:TM} (h:t.kind=0):noT T t=0:=by rw [noT,if_pos h]
theorem ql8 {T:List TM} (h:RiseT T) {i:Nat} {t:TM} (ht:T[i]?=some t) (hk:t.kind≠0):noT T t=i+1:=by
 obtain ⟨h1,h2⟩:=List.getElem?_eq_some_iff.1 ht;rw [noT,if_neg hk];have h3:T.findIdx (fun x=>cmpT x t==0)<T.length:=List.findIdx_lt_length_of_exists ⟨t,zmg ht,by simp [qbq]⟩;have h4:=List.findIdx_getElem (w:=h3);rw [beq_iff_eq,qbq] at h4;have:=h.inj (i:=T.findIdx (fun x=>cmpT x t==0)) (j:=i) (by rw [zge h3,h4]) ht;omega
theorem qadg (T:List TM) (t:TM) (h:t∈T∨t.kind=0):noT T t≤T.length:=by
 unfold noT
 split
 ·omega
 ·rename_i h0
  have:=List.findIdx_lt_length_of_exists (p:=fun x=>cmpT x t==0) (xs:=T) ⟨t,h.resolve_right h0,by simp [qbq]⟩;omega
theorem qadh {T:List TM} (h:RiseT T) (_h0:∀ t∈T,0≤t.kind) {a b:TM} (ha:a∈T∨a.kind=0) (hb:b∈T) (hk:b.kind≠0) (hl:LtT a b):noT T a<noT T b:=by
 obtain ⟨j,hj⟩:=List.mem_iff_getElem?.1 hb;rw [ql8 h hj hk]
 by_cases e:a.kind=0
 ·rw [qg9 e];omega
 ·obtain ⟨i,hi⟩:=List.mem_iff_getElem?.1 (ha.resolve_right e);rw [ql8 h hi e];have:=h.lt hi hj hl;omega
def gat (q:Q4):Nat→TM
 | 0=>q.g
 | 1=>q.s
 | 2=>q.p
 | _=>q.o
def LtQ (q r:Q4):Prop:=∃ k,k<4∧(∀ j,j<k→gat q j=gat r j)∧LtT (gat q k) (gat r k)
def noQ (T:List TM) (qs:List Q4) (i k:Nat):Nat:=match qs[i]? with
 | some q=>noT T (gat q k)
 | none=>0
theorem qg8 {T:List TM} {qs:List Q4} {i k:Nat} {q:Q4} (h:qs[i]?=some q):noQ T qs i k=noT T (gat q k):=by rw [noQ,h]
structure SetOk (T:List TM) (qs:List Q4):Prop where
 rise:RiseT T
 few:T.length≤4194304
 kind:∀ t∈T,0<t.kind
 mem:∀ q∈qs,∀ k,k<4→gat q k∈T∨(k=0∧(gat q k).kind=0∧gat q k=zTM)
 len:qs.length≤1048576
 ord:qs.Pairwise LtQ
theorem SetOk.tok {T:List TM} {qs:List Q4} (h:SetOk T qs):TOk (noQ T qs) qs.length:=by
 refine ⟨h.len,fun i k hi hk=>?_,fun i h0 hi=>?_⟩
 ·have hq:qs[i]?=some qs[i]:=zge hi;rw [qg8 hq]
  rcases h.mem _ (List.getElem_mem hi) k hk with g|⟨g1,g2,_⟩
  ·refine ⟨fun _=>?_,Nat.le_trans (qadg _ _ (.inl g)) h.few⟩;have:=h.kind _ g;rw [noT,if_neg Oo];omega
  ·exact ⟨fun g=>absurd g1 g,by rw [qg9 g2];omega⟩
 ·have hq:qs[i]?=some qs[i]:=zge hi;have hp:qs[i-1]?=some qs[i-1]:=zge Oo;obtain ⟨k,h1,h2,h3⟩:=(List.pairwise_iff_getElem.1 h.ord) (i-1) i Oo hi Oo;refine ⟨k,h1,fun j hj=>?_,?_⟩
  ·rw [qg8 hq,qg8 hp,h2 j hj]
  ·rw [qg8 hq,qg8 hp];have hb:gat qs[i] k∈T:=by
    rcases h.mem _ (List.getElem_mem hi) k h1 with g|⟨g1,g2,g3⟩
    ·exact g
    ·exfalso
     rcases h.mem _ (List.getElem_mem (show i-1<qs.length by omega)) k h1 with f|⟨f1,f2,f3⟩
     ·have:=h.kind _ f
      rcases h3 with h3|⟨h3,_⟩<;>omega
     ·rw [g3,f3] at h3;exact LtT.irrefl _ h3
   refine qadh h.rise (fun t ht=>by have:=h.kind t ht;omega) ?_ hb (by have:=h.kind _ hb;omega) h3
   rcases h.mem _ (List.getElem_mem (show i-1<qs.length by omega)) k h1 with f|⟨f1,f2,f3⟩
   ·exact .inl f
   ·exact .inr f2
def ofK (T:List TM) (k:Nat):List TM:=T.filter fun t=>decide (t.kind=((k+1:Nat):Int))
theorem qdw (T:List TM) (k:Nat):secE T k=(ofK T k).map qas:=rfl
theorem qjt {T:List TM} {k:Nat} {t:TM} (h:t∈ofK T k):t.kind=((k+1:Nat):Int):=by simpa using (List.mem_filter.1 h).2
theorem qn3 {T:List TM} (h:RiseT T) (k:Nat):RiseT (ofK T k):=h.filter _
theorem qsj {T:List TM} (h:RiseT T) (hk:∀ t∈T,1≤t.kind∧t.kind≤3):T=ofK T 0++(ofK T 1++ofK T 2):=by
 have hc:∀ {i j:Nat},i<j→∀ a∈ofK T i,∀ b∈ofK T j,LtT a b:=fun hij a ha b hb=>.inl (by rw [qjt ha,qjt hb];omega)
 refine RiseT.ext h ?_ fun y=>⟨fun hy=>?_,fun hy=>?_⟩
 ·refine List.pairwise_append.2 ⟨qn3 h 0,List.pairwise_append.2 ⟨qn3 h 1,qn3 h 2,fun a ha b hb=>hc Od a ha b hb⟩,fun a ha b hb=>?_⟩
  rcases List.mem_append.1 hb with hb|hb
  ·exact hc Od a ha b hb
  ·exact hc Od a ha b hb
 ·have:=hk y hy;have hd:y.kind=1∨y.kind=2∨y.kind=3:=by omega
  rcases hd with e|e|e
  ·exact List.mem_append_left _ (List.mem_filter.2 ⟨hy,by rw [e];rfl⟩)
  ·exact List.mem_append_right _ (List.mem_append_left _ (List.mem_filter.2 ⟨hy,by rw [e];rfl⟩))
  ·exact List.mem_append_right _ (List.mem_append_right _ (List.mem_filter.2 ⟨hy,by rw [e];rfl⟩))
 ·rcases List.mem_append.1 hy with hy|hy
  ·exact (List.mem_filter.1 hy).1
  ·rcases List.mem_append.1 hy with hy|hy
   ·exact (List.mem_filter.1 hy).1
   ·exact (List.mem_filter.1 hy).1
section
variable {T:List TM} (h:VOk T) (hr:RiseT T) (hk:∀ t∈T,1≤t.kind∧t.kind≤3) (ht:∀ t∈T,qbi t=0)
include h
theorem VOk.tot1:vTot (vocB T) 1=(ofK T 0).length:=by rw [vTot,vTot,h.dN Od,qdw,List.length_map,Nat.zero_add]
theorem VOk.tot2:vTot (vocB T) 2=(ofK T 0).length+(ofK T 1).length:=by rw [vTot,h.tot1,h.dN Od,qdw,List.length_map]
theorem VOk.tot3:vTot (vocB T) 3=(ofK T 0).length+(ofK T 1).length+(ofK T 2).length:=by rw [vTot,h.tot2,h.dN Od,qdw,List.length_map]
include hr hk
theorem VOk.tot:vTot (vocB T) 3=T.length:=by
 have e:=congrArg List.length (qsj hr hk);simp only [zla] at e;rw [h.tot3];omega
include ht
theorem VOk.sec {k j:Nat} {t:TM} (hk3:k<3) (hj:(ofK T k)[j]?=some t):(match dGet (Go.Proofs.YtkienlambankeaaGreatDoor.sDict (vocB T) k) j with
  | some s=>qgj ((k+1:Nat):Int) s
  | none=>none)=some t:=by
 have _h:=hr;have _k:=hk
 obtain ⟨h1,h2⟩:=List.getElem?_eq_some_iff.1 hj;have hm:=zmg hj;rw [h.get hk3 (by rw [qdw,List.length_map];exact h1)];refine qfw ⟨qjt hm,ht t (List.mem_filter.1 hm).1,?_⟩;rw [tx,List.getD_eq_getElem?_getD,qdw,List.getElem?_map,hj];rfl
theorem VOk.term {i:Nat} {t:TM} (hi:T[i]?=some t):qcl (vocB T) (i+1)=some t:=by
 have e:=qsj hr hk;have hl:=(List.getElem?_eq_some_iff.1 hi).1;have t1:=h.tot1;have t2:=h.tot2;have t3:=h.tot3;have tt:=h.tot hr hk;rw [qcl,if_neg Oo,if_neg Oo];rw [e] at hi
 by_cases c2:vTot (vocB T) 2<i+1
 ·rw [qca,if_pos c2];refine h.sec hr hk ht Od ?_;rw [List.getElem?_append_right Oo,List.getElem?_append_right Oo] at hi;rw [← hi];congr 1<;>omega
 ·by_cases c1:vTot (vocB T) 1<i+1
  ·rw [qca,if_neg c2,if_pos c1];refine h.sec hr hk ht Od ?_;rw [List.getElem?_append_right Oo,List.getElem?_append_left Oo] at hi;rw [← hi];congr 1<;>omega
  ·rw [qca,if_neg c2,if_neg c1];refine h.sec hr hk ht Od ?_;rw [List.getElem?_append_left Oo] at hi;rw [← hi];congr 1<;>(rw [vTot];omega)
end
def encP (T:List TM) (qs:List Q4):LB:=qch qs.length T.length (vocB T) (qv (noQ T qs) qs.length)
structure EncOk (T:List TM) (qs:List Q4):Prop where
 set:SetOk T qs
 voc:VOk T
 kind3:∀ t∈T,t.kind≤3
 term:∀ t∈T,qbi t=0
 quad:∀ q∈qs,qcy q=0
 used:∀ t∈T,∃ q∈qs,∃ k,k<4∧gat q k=t
 size:(vocB T).length+(qv (noQ T qs) qs.length).length+36≤67108864
section
variable {T:List TM} {qs:List Q4} (h:EncOk T qs)
include h
theorem EncOk.v:qk (encP T qs)=vocB T:=q7n h.size
theorem EncOk.t:qe (encP T qs)=qv (noQ T qs) qs.length:=q7m h.size
theorem EncOk.kinds:∀ t∈T,1≤t.kind∧t.kind≤3:=fun t ht=>⟨by have:=h.set.kind t ht;omega,h.kind3 t ht⟩
theorem EncOk.n:vNum (qe (encP T qs)) 3=qs.length:=by rw [h.t,h.set.tok.vNum Od,h.set.tok.all znr]
theorem EncOk.no {t:TM} (ht:t∈T∨t=zTM):qcl (qk (encP T qs)) (noT T t)=some t:=by
 rw [h.v]
 rcases ht with ht|ht
 ·obtain ⟨i,hi⟩:=List.mem_iff_getElem?.1 ht;rw [ql8 h.set.rise hi (by have:=h.set.kind t ht;omega)];exact h.voc.term h.set.rise h.kinds h.term hi
 ·subst ht;rw [qg9 rfl,qcl,if_pos rfl];rfl
theorem EncOk.told {i:Nat} {q:Q4} (hi:qs[i]?=some q) {k:Nat} (hk:k<4):qcl (qk (encP T qs)) (tNum (qe (encP T qs)) i k)=some (gat q k):=by
 have hl:=(List.getElem?_eq_some_iff.1 hi).1;rw [h.t,h.set.tok.tNum hl hk,qg8 hi];refine h.no ?_
 rcases h.set.mem q (zmg hi) k hk with g|⟨_,_,g⟩
 ·exact .inl g
 ·exact .inr g
theorem EncOk.quad4 {i:Nat} {q:Q4} (hi:qs[i]?=some q):q4Of (qk (encP T qs)) (tNum (qe (encP T qs)) i)=q:=by
 unfold q4Of uT;rw [h.told hi (k:=0) Od,h.told hi (k:=1) Od,h.told hi (k:=2) Od,h.told hi (k:=3) Od];rfl
theorem EncOk.poE:poE (encP T qs)=(0,0):=by
 have hq:qs.length<4294967296:=by have:=h.set.len;omega
 have hT:T.length<4294967296:=by have:=h.set.few;omega
 refine q1h (q1a h.size) (q1b h.size) (q1c h.size) ?_ ?_ ?_ ?_ ?_ ?_
 ·rw [h.v];exact h.voc.vwE h.term
 ·rw [h.t];exact h.set.tok.toE
 ·rw [h.n];exact (q98 hq).symm
 ·rw [h.v,h.voc.tot h.set.rise h.kinds];exact (q99 hT).symm
 ·intro i hi;rw [h.n] at hi;have hi2:qs[i]?=some qs[i]:=zge hi;exact ⟨fun j hj=>by rw [h.told hi2 hj];exact (fun g=>(by cases g)),by rw [h.quad4 hi2];exact h.quad _ (List.getElem_mem hi)⟩
 ·intro id h1 h2;rw [h.v,h.voc.tot h.set.rise h.kinds] at h2;have ht:T[id-1]?=some T[id-1]:=zge Oo;obtain ⟨q,hq,k,hk,e⟩:=h.used _ (zmg ht);obtain ⟨i,hi⟩:=List.mem_iff_getElem?.1 hq;have hl:=(List.getElem?_eq_some_iff.1 hi).1;refine ⟨i,by rw [h.n];exact hl,k,hk,?_⟩;rw [h.t,h.set.tok.tNum hl hk,qg8 hi,e,ql8 h.set.rise ht (by have:=h.set.kind _ (zmg ht);omega)];omega
end
theorem q0x (c:UInt8):UInt8.ofNat c.toNat=c:=by simp
theorem qkn:∀ (l:LB) (i a:Nat),i≤9→(qff i a l).2.2=0→∃ n r,l=varL n++r∧(0<i→0<n)∧qff i a l=(a+n*2 ^ (7*i),i+(varL n).length,0)
 | [],i,a,_,h=>by cases h
 | c::l,i,a,hi,h=>by
  have hc:c.toNat<256:=c.toBitVec.isLt;rw [qc9] at h ⊢
  split at h
  ·cases h
  rename_i h1
  rw [if_neg h1]
  split at h
  ·rename_i h2
   refine ⟨c.toNat,l,?_,fun h0=>by omega,?_⟩
   ·rw [qai h2,q0x];rfl
   ·rw [if_pos h2,qai h2,Nat.mod_eq_of_lt h2];rfl
  ·rename_i h2
   obtain ⟨n,r,h3,h4,h5⟩:=qkn l (i+1) (a+c.toNat%128*2 ^ (7*i)) Oo h;have hn:=h4 Oo;have e1:(n*128+c.toNat%128)%128=c.toNat%128:=by omega
   have e2:(n*128+c.toNat%128)/128=n:=by omega
   have e3:varL (n*128+c.toNat%128)=c::varL n:=by
    rw [qeb Oo,e1,e2,show c.toNat%128+128=c.toNat by omega,q0x]
   refine ⟨n*128+c.toNat%128,r,?_,fun _=>by omega,?_⟩
   ·rw [e3,h3];rfl
   ·rw [if_neg h2,h5,e3,List.length_cons];have e4:(n*128+c.toNat%128)*2 ^ (7*i)=c.toNat%128*2 ^ (7*i)+n*2 ^ (7*(i+1)):=by
     rw [show 7*(i+1)=7+7*i by omega,Nat.pow_add,← Nat.mul_assoc,← Nat.add_mul]
     congr 1;omega
    rw [e4,Nat.add_assoc];refine Prod.ext rfl (Prod.ext ?_ rfl);show i+1+_=i+(_+1);omega
theorem qda {l:LB} (h:(numL l).2.2=0):l=varL (numL l).1++l.drop (numL l).2.1∧(numL l).2.1=(varL (numL l).1).length:=by
 obtain ⟨n,r,h1,_,h2⟩:=qkn l 0 0 Oo h;have e:numL l=(n,(varL n).length,0):=by rw [numL,h2];simp
 rw [e];refine ⟨?_,rfl⟩;rw [h1,qf]
theorem qyt {a b:UInt8} (h:∀ r,r<8→a.toNat/2 ^ r%2=b.toNat/2 ^ r%2):a=b:=by
 have ha:a.toNat<256:=a.toBitVec.isLt;have hb:b.toNat<256:=b.toBitVec.isLt;have h0:=h 0 Od;have h1:=h 1 Od;have h2:=h 2 Od;have h3:=h 3 Od;have h4:=h 4 Od;have h5:=h 5 Od;have h6:=h 6 Od;have h7:=h 7 Od;simp only [Nat.reducePow,Nat.div_one] at h0 h1 h2 h3 h4 h5 h6 h7;exact UInt8.toNat_inj.1 Oo
theorem qub {p q:LB} (hl:p.length=q.length) (h:∀ t,t<8*p.length→bitN p t=bitN q t):p=q:=by
 apply List.ext_getElem hl;intro b h1 h2;refine qyt fun r hr=>?_;have:=h (8*b+r) Oo;rw [bitN,bitN,show (8*b+r)/8=b by omega,show (8*b+r)%8=r by omega] at this
 rwa [List.getD_eq_getElem?_getD,zge h1,List.getD_eq_getElem?_getD,zge h2] at this
theorem qv2 (p:LB) (f:Nat):∀ {w k:Nat},k<w→valB p f w/2 ^ k%2=bitN p (f+k)
 | w+1,k,h=>by
  have hb:=qcc p (f+w);have hv:=qo2 p f w;rw [valB]
  by_cases e:k=w
  ·subst e;rw [Nat.add_mul_div_right _ _ (Nat.two_pow_pos k),Nat.div_eq_of_lt hv,Nat.zero_add];omega
  ·have ih:=qv2 p f (w:=w) (k:=k) Oo;obtain ⟨d,rfl⟩:∃ d,w=k+1+d:=⟨w-(k+1),by omega⟩
   rw [← ih,show bitN p (f+(k+1+d))*2 ^ (k+1+d)=(bitN p (f+(k+1+d))*2 ^ d*2)*2 ^ k by
    rw [Nat.pow_add,Nat.pow_succ];simp only [Nat.mul_assoc,Nat.mul_comm,Nat.mul_left_comm],Nat.add_mul_div_right _ _ (Nat.two_pow_pos k),Nat.add_mul_mod_self_right]
theorem qmd {p:LB} {n w:Nat} (hl:p.length=(n*w+7)/8) (hp:¬ PadB p (n*w)):p=qcx (unpN p n w) w:=by
 have hn:(unpN p n w).length=n:=by simp [unpN]
 refine qub (by rw [qa0,hn,hl]) fun t ht=>?_
 by_cases h:t<n*w
 ·have hw:0<w:=Nat.pos_of_ne_zero fun e=>by rw [e] at h;omega
  have e1:t=t/w*w+t%w:=(Nat.div_add_mod' t w).symm;have hi:t/w<n:=(Nat.div_lt_iff_lt_mul hw).2 h;have hk:=Nat.mod_lt t hw;rw [e1,qqq (by rw [hn];exact hi) hk];rw [unpN,List.getD_eq_getElem?_getD,List.getElem?_map,List.getElem?_range hi];exact (qv2 p _ hk).symm
 ·have h1:bitN p t≠1:=fun e=>hp ⟨t,by omega,ht,e⟩
  have h2:bitN (qcx (unpN p n w) w) t≠1:=fun e=>qks (unpN p n w) w ⟨t,by rw [hn];omega,by rw [qa0,hn,← hl];exact ht,e⟩
  have:=qcc p t;have:=qcc (qcx (unpN p n w) w) t;omega
theorem qzl {m ahead:LB} {first:Bool} (h:(entG m first ahead).2.2=0) (hc:first=false→(numL m).1=comL (entG m first ahead).1 ahead) :
  m=entE first ahead (entG m first ahead).1++m.drop (entG m first ahead).2.1∧(entG m first ahead).2.1=(entE first ahead (entG m first ahead).1).length:=by
 cases first with
 | true=>
  unfold entG at h ⊢;rw [if_pos rfl] at h ⊢;dsimp only at h ⊢;rw [if_neg Oo,List.drop_zero] at h ⊢
  by_cases h1:(numL m).2.2=0
  case neg=>rw [if_pos h1] at h;exact absurd h h1
  rw [if_neg Oo] at h ⊢;rw [if_neg Oo] at h ⊢
  by_cases h2:262144<(numL m).1∨262144<0+(numL m).1
  case pos=>rw [if_pos h2] at h;cases h
  rw [if_neg h2] at h ⊢
  by_cases h3:m.length-0-(numL m).2.1<(numL m).1
  case pos=>rw [if_pos h3] at h;cases h
  rw [if_neg h3];obtain ⟨c1,c2⟩:=qda h1;simp only [List.take_zero,List.nil_append,Nat.zero_add];have hl:((m.drop (numL m).2.1).take (numL m).1).length=(numL m).1:=by rw [List.length_take,zld];omega
  rw [entE,if_pos rfl,hl];refine ⟨?_,by rw [zla,hl,c2]⟩;rw [List.append_assoc,← List.drop_drop,List.take_append_drop];exact c1
 | false=>
  have hc:=hc rfl;unfold entG at h hc ⊢;rw [if_neg Bool.false_ne_true] at h hc ⊢;dsimp only at h hc ⊢
  by_cases h0:(numL m).2.2=0
  case neg=>rw [if_pos h0] at h;exact absurd h h0
  rw [if_neg Oo] at h hc ⊢
  by_cases h1:(numL (m.drop (numL m).2.1)).2.2=0
  case neg=>rw [if_pos h1] at h;exact absurd h h1
  rw [if_neg Oo] at h hc ⊢
  by_cases h4:ahead.length<(numL m).1
  case pos=>rw [if_pos h4] at h;cases h
  rw [if_neg h4] at h hc ⊢
  by_cases h2:262144<(numL (m.drop (numL m).2.1)).1∨262144<(numL m).1+(numL (m.drop (numL m).2.1)).1
  case pos=>rw [if_pos h2] at h;cases h
  rw [if_neg h2] at h hc ⊢
  by_cases h3:m.length-(numL m).2.1-(numL (m.drop (numL m).2.1)).2.1<(numL (m.drop (numL m).2.1)).1
  case pos=>rw [if_pos h3] at h;cases h
  rw [if_neg h3] at hc ⊢;obtain ⟨c1,c2⟩:=qda h0;obtain ⟨d1,d2⟩:=qda h1;dsimp only at hc ⊢;obtain ⟨c,hcn⟩:∃ c,c=(numL m).1:=⟨_,rfl⟩
  obtain ⟨k1,hk1⟩:∃ k,k=(numL m).2.1:=⟨_,rfl⟩
  rw [← hk1] at h1 h2 h3 hc d1 d2 ⊢;obtain ⟨q,hq⟩:∃ q,q=(numL (m.drop k1)).1:=⟨_,rfl⟩
  obtain ⟨k2,hk2⟩:∃ k,k=(numL (m.drop k1)).2.1:=⟨_,rfl⟩
  rw [← hcn] at c1 c2 hc h4 ⊢;rw [← hk1] at c1 c2;rw [← hq] at d1 d2 hc h3 ⊢;rw [← hk2] at d1 d2 hc h3 ⊢;have hl:((m.drop (k1+k2)).take q).length=q:=by rw [List.length_take,zld];omega
  have ha:(ahead.take c).length=c:=by rw [List.length_take];omega
  have hs:(ahead.take c++(m.drop (k1+k2)).take q).length=c+q:=by rw [zla,hl,ha]
  rw [entE,if_neg Bool.false_ne_true,qgt,← hc,hs,Nat.add_sub_cancel_left,qt ha];refine ⟨?_,by rw [zla,zla,hl,← c2,← d2];omega⟩;rw [List.append_assoc,List.append_assoc,← List.drop_drop (i:=q),List.take_append_drop,← List.drop_drop (i:=k2),← d1];exact c1
def txsD (m:LB):List LB:=(List.range (dN m)).map fun i=>(dSt m (i+1)).1
theorem qcu (m:LB):(txsD m).length=dN m:=by simp [txsD]
theorem qtm {m:LB} {i:Nat} (h:i<dN m):tx (txsD m) i=(dSt m (i+1)).1:=by
 rw [tx,List.getD_eq_getElem?_getD,txsD,List.getElem?_map,List.getElem?_range h];rfl
section
variable {m:LB} (h:(doE m).2=0)
include h
theorem q64 {i:Nat} (hi:i<dN m):(i%16=0→q6 m (i/16)=(dSt m i).2)∧(entG ((qa m).drop (dSt m i).2) (decide (i%16=0)) (dSt m i).1).2.2=0∧
  (decide (i%16=0)=false→(numL ((qa m).drop (dSt m i).2)).1=comL (dSt m (i+1)).1 (dSt m i).1):=by
 have hd:=(qc4 h).2.2.1 i hi;rw [dnF] at hd
 by_cases h1:i%16=0∧q6 m (i/16)≠(dSt m i).2
 case pos=>rw [if_pos h1] at hd;cases hd
 rw [if_neg h1] at hd
 by_cases h2:(entG ((qa m).drop (dSt m i).2) (decide (i%16=0)) (dSt m i).1).2.2=0
 case neg=>rw [if_pos h2] at hd;exact absurd hd h2
 rw [if_neg Oo] at hd
 by_cases h3:0<i∧leL (dSt m (i+1)).1 (dSt m i).1=true
 case pos=>rw [if_pos h3] at hd;cases hd
 rw [if_neg h3] at hd
 by_cases h4:i%16≠0∧(numL ((qa m).drop (dSt m i).2)).1≠comL (dSt m (i+1)).1 (dSt m i).1
 case pos=>rw [if_pos h4] at hd;cases hd
 refine ⟨fun g=>Classical.byContradiction fun g2=>h1 ⟨g,g2⟩,h2,fun g=>Classical.byContradiction fun g2=>h4 ⟨by simpa using g,g2⟩⟩
theorem qhx:∀ {i:Nat},i≤dN m→qa m=arL (txsD m) i++(qa m).drop (dSt m i).2∧(dSt m i).2=(arL (txsD m) i).length
 | 0,_=>⟨rfl,rfl⟩
 | i+1,hi=>by
  obtain ⟨ih1,ih2⟩:=qhx (i:=i) Oo;obtain ⟨h1,h2,h3⟩:=q64 h (i:=i) hi;obtain ⟨c1,c2⟩:=qzl h2 h3;have e0:(if i=0 then [] else tx (txsD m) (i-1))=(dSt m i).1:=by
   by_cases e:i=0
   ·subst e;rw [if_pos rfl];rfl
   ·rw [if_neg e,qtm Oo,Nat.sub_add_cancel Oo]
  have e1:arL (txsD m) (i+1)=arL (txsD m) i++entE (decide (i%16=0)) (dSt m i).1 (dSt m (i+1)).1:=by rw [arL,e0,qtm hi]
  have e2:(dSt m (i+1)).2=(dSt m i).2+(entG ((qa m).drop (dSt m i).2) (decide (i%16=0)) (dSt m i).1).2.1:=rfl;have e3:(dSt m (i+1)).1=(entG ((qa m).drop (dSt m i).2) (decide (i%16=0)) (dSt m i).1).1:=rfl;rw [← e3] at c1 c2;rw [e1,e2];refine ⟨?_,by rw [zla,← c2,ih2]⟩;rw [List.append_assoc,← List.drop_drop,← c1];exact ih1
theorem qt7:qaj (txsD m)=qa m:=by
 obtain ⟨h1,h2⟩:=qhx h znr;have h3:=(qc4 h).2.2.2;rw [List.drop_of_length_le Oo,List.append_nil] at h1;rw [qaj,qcu];exact h1.symm
theorem qh5:m=qn (txsD m):=by
 obtain ⟨hE,hO,_,_⟩:=qc4 h;have ha:=qt7 h;have e2:(errF (dhF m) 2).2=0:=Classical.byContradiction fun g=>by rw [dE,if_pos g] at hE;exact g hE
 rw [dE,if_neg Oo] at hE
 by_cases l1:m.length<dEnd m
 case pos=>rw [if_pos l1] at hE;cases hE
 rw [if_neg l1] at hE
 by_cases l2:dEnd m<m.length
 case pos=>rw [if_pos l2] at hE;cases hE
 have n0:(numL (m.drop (vAt m 0))).2.2=0:=Classical.byContradiction fun g=>by
  have:=qaw (n:=2) e2 0 Oo;rw [dhF,qcp g] at this;exact g this
 have n1:(numL (m.drop (vAt m 1))).2.2=0:=Classical.byContradiction fun g=>by
  have:=qaw (n:=2) e2 1 Oo;rw [dhF,qcp g] at this;exact g this
 obtain ⟨c1,c2⟩:=qda n0;obtain ⟨d1,d2⟩:=qda n1;have a1:vAt m 1=(numL (m.drop (vAt m 0))).2.1:=Nat.zero_add _;have a2:qa9 m=vAt m 1+(numL (m.drop (vAt m 1))).2.1:=rfl;have hf:ql m=qa9 m+(upN (dN m) 16*dW m+7)/8:=rfl;have hen:dEnd m=ql m+qgv m:=rfl;have hel:(qa m).length=qgv m:=by rw [qa,zld];omega
 have hpl:(qr m).length=(upN (dN m) 16*dW m+7)/8:=by rw [qr,List.length_take,zld];omega
 have hpp:qr m=qcx (unpN (qr m) (upN (dN m) 16) (dW m)) (dW m):=qmd hpl fun g=>(qkp _ _ _).2 g hO
 have hun:unpN (qr m) (upN (dN m) 16) (dW m)=plcL (txsD m):=by
  rw [unpN,plcL,qcu];refine List.map_congr_left fun k hk=>?_;rw [List.mem_range] at hk;have hk2:16*k<dN m:=by unfold upN at hk;omega
  have h1:=(q64 h hk2).1 Oo;rw [show 16*k/16=k by omega,(qhx h (i:=16*k) Oo).2] at h1;exact h1
 have hw:dW m=qae (qaj (txsD m)).length:=by rw [ha,hel];rfl
 rw [hun,hw] at hpp;have hd:qn (txsD m)=varL (dN m)++(varL (qgv m)++(qr m++qa m)):=by rw [qn,qcu,← hpp,ha,hel]
 have r0:m=varL (dN m)++m.drop (vAt m 1):=by
  rw [a1];rw [vAt,List.drop_zero] at c1 ⊢;exact c1
 have r1:m.drop (vAt m 1)=varL (qgv m)++m.drop (qa9 m):=by
  rw [a2,← List.drop_drop];exact d1
 have r2:m.drop (qa9 m)=qr m++qa m:=by
  rw [qr,qa,show m.drop (ql m)=(m.drop (qa9 m)).drop (ql m-qa9 m) by rw [List.drop_drop];congr 1;omega,List.take_append_drop]
 rw [hd,← r2,← r1];exact r0
end
theorem qeq {l:LB} {k:Nat} (h:(numL (l.drop (vAt l k))).2.2=0):l.drop (vAt l k)=varL (vNum l k)++l.drop (vAt l (k+1)):=by
 have h1:=(qda h).1;rw [List.drop_drop] at h1;exact h1
theorem q5t {l:LB} (h:(sE l).2=0):l=jo3 (sDict l 0) (sDict l 1) (sDict l 2):=by
 have e2:(errF (vsF l) 3).2=0:=Classical.byContradiction fun g=>by rw [sE,if_pos g] at h;exact g h
 rw [sE,if_neg Oo] at h
 by_cases l1:l.length<qm l 3
 case pos=>rw [if_pos l1] at h;cases h
 rw [if_neg l1] at h
 by_cases l2:qm l 3<l.length
 case pos=>rw [if_pos l2] at h;cases h
 have hn:∀ k,k<3→(numL (l.drop (vAt l k))).2.2=0:=fun k hk=>Classical.byContradiction fun g=>by
  have:=qaw (n:=3) e2 k hk;rw [vsF,qcp g] at this;exact g this
 have s1:qm l 1=vAt l 3+vNum l 0:=rfl;have s2:qm l 2=vAt l 3+vNum l 0+vNum l 1:=rfl;have s3:qm l 3=vAt l 3+vNum l 0+vNum l 1+vNum l 2:=rfl;have d0:(sDict l 0).length=vNum l 0:=by rw [sDict,List.length_take,zld];show min _ (_-vAt l 3)=_;omega
 have d1:(sDict l 1).length=vNum l 1:=by rw [sDict,List.length_take,zld];omega
 have d2:(sDict l 2).length=vNum l 2:=by rw [sDict,List.length_take,zld];omega
 have r0:l=varL (vNum l 0)++l.drop (vAt l 1):=qeq (k:=0) (hn 0 Od);have r1:=qeq (k:=1) (hn 1 Od);have r2:=qeq (k:=2) (hn 2 Od);have r3:l.drop (vAt l 3)=sDict l 0++(sDict l 1++sDict l 2):=by
  have b2:sDict l 2=l.drop (qm l 2):=by rw [sDict,List.take_of_length_le];rw [zld];omega
  have b1:l.drop (qm l 1)=sDict l 1++l.drop (qm l 2):=by
   rw [sDict,show qm l 2=qm l 1+vNum l 1 from rfl,← List.drop_drop,List.take_append_drop]
  have b0:l.drop (qm l 0)=sDict l 0++l.drop (qm l 1):=by
   rw [sDict,show qm l 1=qm l 0+vNum l 0 from rfl,← List.drop_drop,List.take_append_drop]
  rw [b2,← b1];exact b0
 rw [jo3,d0,d1,d2,← r3,← r2,← r1];exact r0
theorem qx5 {l:LB} (h:(vwE l).2=0):l=jo3 (qn (txsD (sDict l 0))) (qn (txsD (sDict l 1))) (qn (txsD (sDict l 2))):=by
 obtain ⟨h1,h2,_⟩:=qhv h;rw [← qh5 (h2 0 Od),← qh5 (h2 1 Od),← qh5 (h2 2 Od)];exact q5t h1
theorem q25 {l:LB} (hv:vOk l=true) (h:(voE l).2=0):l=q8 (vD l) (vN l):=by
 obtain ⟨_,h2,h3⟩:=qpd h;simp only [vOk,Bool.and_eq_true,decide_eq_true_eq] at hv;obtain ⟨⟨⟨v1,v2⟩,v3⟩,v4⟩:=hv;have hg:qi (vN l)=8+upN (vN l) 8:=rfl;have he:qag (vN l) (vM l)=qi (vN l)+4*upN (vN l) 2048+2*upN (vN l) 256+4*upN (vM l) 512:=rfl;have hd:(vD l).length=upN (vN l) 8:=by rw [vD,List.length_take,zld];omega
 have hwl:(q8 (vD l) (vN l)).length=l.length:=by rw [qdl,hd,h2,v4,he,hg]
 have e1:fixL (vN l) 4=l.take 4:=(qzr (by rw [List.length_take];omega) Oo).2 rfl;have e2:fixL (cnt (vD l) (vN l)) 4=(l.drop 4).take 4:=(qzr (by rw [List.length_take,zld];omega) Oo).2 h2.symm;have e3:l.drop (qi (vN l))=gL (vD l) (vN l)++(sL (vD l) (vN l)++mL (vD l) (vN l)):=by
  rw [← qiy,hd,← hg];apply List.ext_getElem?;intro j;rw [List.getElem?_drop,List.getElem?_drop]
  by_cases hj:qi (vN l)+j<qag (vN l) (vM l)
  ·exact h3 _ Oo hj
  ·rw [List.getElem?_eq_none Oo,List.getElem?_eq_none Oo]
 have r:l=l.take 4++((l.drop 4).take 4++(vD l++l.drop (qi (vN l)))):=by
  rw [vD,hg,← List.drop_drop (i:=upN (vN l) 8),List.take_append_drop,show l.drop 8=(l.drop 4).drop 4 by rw [List.drop_drop],List.take_append_drop,List.take_append_drop]
 rw [q8,List.append_assoc,List.append_assoc,List.append_assoc,List.append_assoc,← e3,e1,e2];exact r
section
variable {l:LB} (h:(toE l).2=0)
include h
theorem qaer {k:Nat} (hk:k<4):tw l k≤23:=by
 have h1:=(qk9 (qct h).1).2 k hk;rw [tvF] at h1
 by_cases c1:l.length≤tvAt l k
 case pos=>rw [if_pos c1] at h1;cases h1
 rw [if_neg c1] at h1
 by_cases c2:23<tw l k
 case pos=>rw [if_pos c2] at h1;cases h1
 omega
theorem qfk {i k:Nat} (hk:k<4):tNum l i k=tX l k (tUp l i (3-k)):=by
 rw [tNum,tX];exact qn2 _ _ _ (by have:=qaer h hk;omega)
theorem q9t {k e:Nat} (hk:k<4) (he:e<vNum l k):¬ ((k≠0∧tX l k e=0)∨4194304<tX l k e)∧(0<e→(k=0∨bitN ((qg l k).drop 8) (e-1)≠1)→tX l k (e-1)<tX l k e):=by
 have h1:=(qjq ((qct h).2 k hk)).2.2.2 e he
 by_cases c1:(k≠0∧tX l k e=0)∨4194304<tX l k e
 case pos=>rw [q0s c1] at h1;cases h1
 refine ⟨c1,fun h0 hb=>?_⟩
 by_cases c2:tX l k e≤tX l k (e-1)
 ·rw [q0t c1 ⟨h0,hb,c2⟩] at h1;cases h1
 ·omega
theorem qto {i:Nat} (hi:i+1<vNum l 3):∀ {j:Nat},j≤3→tUp l (i+1) j=tUp l i j∨tUp l (i+1) j=tUp l i j+1
 | 0,_=>.inr rfl
 | j+1,hj=>by
  rcases qto hi (j:=j) Oo with g|g
  ·exact .inl (qou g (Nat.le_succ j))
  ·by_cases hb:bitN ((qg l (3-j)).drop 8) (tUp l i j)=1
   ·exact .inr (qot (qbs h) Oo Oo g hb)
   ·exact .inl (qos (qbs h) Oo Oo g hb)
theorem q73 {i:Nat} (hi:i+1<vNum l 3):∀ (d:Nat) {j:Nat},3-j=d→j≤3→tUp l (i+1) j=tUp l i j+1→∃ k,k≤3-j∧tNum l (i+1) k≠tNum l i k
 | d,j,hd,hj,g=>by
  have hlt:=qla (qbs h) hi j hj;obtain ⟨_,h2⟩:=q9t h (k:=3-j) (e:=tUp l (i+1) j) Oo hlt;have hne:(3-j=0∨bitN ((qg l (3-j)).drop 8) (tUp l i j)≠1)→∃ k,k≤3-j∧tNum l (i+1) k≠tNum l i k:=fun hb=>by
   have h3:=h2 Oo (by rw [g,Nat.add_sub_cancel];exact hb);refine ⟨3-j,Nat.le_refl _,?_⟩;rw [qfk h Oo,qfk h Oo,show 3-(3-j)=j by omega];rw [g,Nat.add_sub_cancel] at h3;rw [g];omega
  by_cases h0:3-j=0
  ·exact hne (.inl h0)
  ·by_cases hb:bitN ((qg l (3-j)).drop 8) (tUp l i j)=1
   ·have g2:=qot (qbs h) (i:=i) Oo (show j<3 by omega) g hb;clear hne
    match d,hd with
    | 0,hd=>exact absurd hd h0
    | d+1,hd=>
     obtain ⟨k,h4,h5⟩:=q73 hi d (j:=j+1) Oo Oo g2;exact ⟨k,by omega,h5⟩
   ·exact hne (.inr hb)
theorem q4h {i k:Nat} (hi:i+1<vNum l 3) (hk:k<4):frU (tNum l) (i+1) k=true↔tUp l (i+1) (3-k)=tUp l i (3-k)+1:=by
 constructor
 ·intro hf
  rcases qto h hi (j:=3-k) Oo with g|g
  ·exfalso
   have:frU (tNum l) (i+1) k=false:=quw Oo fun j hj=>by
    rw [Nat.add_sub_cancel,qfk h Oo,qfk h Oo,qou g (m:=3-j) Oo]
   rw [this] at hf;cases hf
  ·exact g
 ·intro g;cases hf:frU (tNum l) (i+1) k with
  | true=>rfl
  | false=>
   exfalso
   obtain ⟨m,h1,h2⟩:=q73 h hi _ rfl Oo g;have:=(qft hf).2 m Oo;rw [Nat.add_sub_cancel] at this;exact h2 this
theorem q0g {k:Nat} (hk:k<4):∀ {i:Nat},i<vNum l 3→leT (tNum l) k (i+1)=tUp l i (3-k)+1
 | 0,_=>by rw [qa8 (qem _ k),qvu];rfl
 | i+1,hi=>by
  have ih:=q0g hk (i:=i) Oo;cases hf:frU (tNum l) (i+1) k with
  | true=>rw [qa8 hf,ih,(q4h h hi hk).1 hf]
  | false=>
   rw [qbv hf,ih]
   rcases qto h hi (j:=3-k) Oo with g|g
   ·rw [g]
   ·rw [(q4h h hi hk).2 g] at hf;cases hf
end
section
variable {l:LB} (h:(toE l).2=0)
include h
theorem q2q (h0:0<vNum l 3):∀ {j:Nat},j≤3→tUp l (vNum l 3-1) j+1=vNum l (3-j)
 | 0,_=>by show vNum l 3-1+1=vNum l 3;omega
 | j+1,hj=>by
  have ih:=q2q h0 (j:=j) Oo;have hv:=qbs h (3-j) Oo Oo;have hl:=hv.last Oo;have ho:=hv.vec.ones;rw [hv.n,← ih,cnt,show tUp l (vNum l 3-1) j=vNum l (3-j)-1 by omega,hl,hv.m] at ho;rw [tUp,hv.rank _ Oo,show 3-(j+1)=3-j-1 by omega,← ho]
  congr 2;omega
theorem q43 (h0:vNum l 3=0):∀ {k:Nat},k<4→vNum l k=0:=by
 have ht:=(qk9 (qct h).1).1;have hs:∀ k,0<k→k<4→vNum l k=0→vNum l (k-1)=0:=fun k hk hk4 hz=>by
  have:=ht k hk4;rw [tcF] at this
  by_cases c1:(numE l k 1048576).2≠0
  case pos=>rw [if_pos c1] at this;exact absurd this c1
  rw [if_neg c1] at this
  by_cases c2:0<k∧(vNum l k<vNum l (k-1)∨¬ (vNum l (k-1)=0↔vNum l k=0))
  case pos=>rw [if_pos c2] at this;cases this
  exact Classical.byContradiction fun g=>c2 ⟨hk,.inl Oo⟩
 have h2:=hs 3 Od Od h0;have h1:=hs 2 Od Od h2;have h3:=hs 1 Od Od h1;intro k hk
 match k,hk with
 | 0,_=>exact h3
 | 1,_=>exact h1
 | 2,_=>exact h2
 | 3,_=>exact h0
theorem qkg {k:Nat} (hk:k<4):leT (tNum l) k (vNum l 3)=vNum l k:=by
 by_cases h0:vNum l 3=0
 ·rw [h0,q43 h h0 hk];rfl
 ·have h1:=q2q h Oo (j:=3-k) Oo;have h2:=q0g h hk (i:=vNum l 3-1) Oo;rw [Nat.sub_add_cancel Oo] at h2;rw [h2,h1,show 3-(3-k)=k by omega]
theorem q42 {k:Nat} (hk:k<4):nuT (tNum l) k (vNum l 3)=unpN (qp l k) (vNum l k) (tw l k):=by
 have hn:=qkg h hk;apply List.ext_getElem
 ·rw [show (nuT (tNum l) k (vNum l 3)).length=_ from hn];simp [unpN]
 ·intro e h1 h2;have h1':e<leT (tNum l) k (vNum l 3):=h1;obtain ⟨i,g1,g2,g3⟩:=qp4 (tNum l) k h1';have g4:=ql9 (Q:=tNum l) k (i:=i) (n:=vNum l 3) g1;have g5:=q0g h hk g1;rw [qa8 g2,g3,Nat.add_sub_cancel] at g4;rw [qa8 g2,g3] at g5;rw [List.getD_eq_getElem?_getD,zge h1] at g4;simp only [unpN,List.getElem_map,List.getElem_range];refine Eq.trans g4 ?_;rw [qfk h hk,show tUp l i (3-k)=e by omega];rfl
theorem qwf {k:Nat} (hk:k+1<4):qax (stT (tNum l) k (vNum l 3))=vD (qg l (k+1)):=by
 have hv:=qbs h (k+1) Oo Oo;have hn:=qkg h hk;have hve:=(qjq ((qct h).2 (k+1) hk)).2.2.1.resolve_left Oo;have hvo:(voE (qg l (k+1))).2=0:=by
  rw [vcE,if_neg (by rw [hv.tvec];decide)] at hve;exact Classical.byContradiction fun g=>by rw [if_pos g] at hve;exact g hve
 have hpad:=(qpd hvo).1;have hvd:(vD (qg l (k+1))).length=upN (vNum l (k+1)) 8:=by
  have hok:=hv.vec.ok;simp only [vOk,Bool.and_eq_true,decide_eq_true_eq] at hok;have he:qag (vN (qg l (k+1))) (vM (qg l (k+1)))=8+upN (vN (qg l (k+1))) 8+4*upN (vN (qg l (k+1))) 2048+2*upN (vN (qg l (k+1))) 256+4*upN (vM (qg l (k+1))) 512:=rfl;rw [vD,List.length_take,zld,hok.2,he,hv.n];omega
 have hS:(stT (tNum l) k (vNum l 3)).length=vNum l (k+1):=by rw [qbr,hn]
 refine qub (by rw [qbk,hS,hvd]) fun t ht=>?_;rw [qbk,hS] at ht
 by_cases h1:t<vNum l (k+1)
 ·rw [qg3 (by rw [hS];exact h1),laT,hS];have hb:bitN (vD (qg l (k+1))) t=bitN ((qg l (k+1)).drop 8) t:=qgo _ _ _ (by rw [hv.n];exact ht);rw [hb]
  by_cases h2:t+1=vNum l (k+1)
  ·rw [if_pos h2];have hla:=hv.last Oo;have e:t=vNum l (k+1)-1:=by omega
   rw [e];exact hla.symm
  ·rw [if_neg h2];obtain ⟨i,g1,g2,g3⟩:=qp4 (tNum l) (k+1) (e:=t+1) (n:=vNum l 3) (by rw [hn];omega);obtain ⟨p,rfl⟩:∃ p,i=p+1:=⟨i-1,by
    rcases Nat.eq_zero_or_pos i with e|e
    ·rw [e] at g3;exact (Nat.succ_ne_zero t g3.symm).elim
    ·omega⟩
   have u1:=q0g h hk (i:=p) Oo;have u2:=q0g h hk (i:=p+1) g1;rw [qa8 g2,g3] at u2;rw [g3] at u1;rw [← g3,q7w (tNum l) k g1 g2];have e1:tUp l p (3-(k+1))=t:=(Nat.add_right_cancel u1).symm;have e2:tUp l (p+1) (3-(k+1))=tUp l p (3-(k+1))+1:=by rw [e1];exact (Nat.add_right_cancel u2).symm
   have e3:3-(3-(k+1))=k+1:=by omega
   have e4:3-(k+1)+1=3-k:=by omega
   by_cases hbt:bitN ((qg l (k+1)).drop 8) t=1
   ·have:=qot (qbs h) (i:=p) Oo (j:=3-(k+1)) Oo e2 (by rw [e3,e1];exact hbt);rw [e4] at this;rw [if_pos ((q4h h g1 Oo).2 this),hbt]
   ·have:=qos (qbs h) (i:=p) Oo (j:=3-(k+1)) Oo e2 (by rw [e3,e1];exact hbt);rw [e4] at this;have hb0:=qcc ((qg l (k+1)).drop 8) t;rw [if_neg (fun g=>by have g':=(q4h h g1 Oo).1 g;rw [this] at g';exact Nat.succ_ne_self _ g'.symm)];clear this e1 e2 u1 u2;omega
 ·have a1:bitN (qax (stT (tNum l) k (vNum l 3))) t≠1:=fun e=>qke (stT (tNum l) k (vNum l 3)) ⟨t,by omega,by rw [qbk,hS];exact ht,e⟩
  have a2:bitN (vD (qg l (k+1))) t≠1:=fun e=>hpad ⟨t,by rw [hv.n];omega,by rw [hvd];exact ht,e⟩
  have:=qcc (qax (stT (tNum l) k (vNum l 3))) t;have:=qcc (vD (qg l (k+1))) t;omega
end
theorem ql1 (l:LB) {a b:Nat} (h:a≤b):l.drop a=(l.drop a).take (b-a)++l.drop b:=by
 obtain ⟨d,rfl⟩:=Nat.exists_eq_add_of_le h;rw [Nat.add_sub_cancel_left,← List.drop_drop,List.take_append_drop]
section
variable {l:LB} (h:(toE l).2=0)
include h
theorem qjr {k:Nat} (hk:k<4):l.drop (tvAt l k)=lvB (tNum l) (vNum l 3) k++l.drop (tvAt l (k+1)):=by
 obtain ⟨h1,h2,h3⟩:=qrk ((qk9 (qct h).1).2 k hk);obtain ⟨g1,g2,g3,_⟩:=qjq ((qct h).2 k hk);have hn:=qkg h hk;have hnu:=q42 h hk;have hul:(unpN (qp l k) (vNum l k) (tw l k)).length=vNum l k:=by simp [unpN]
 have hw:wiT (nuT (tNum l) k (vNum l 3))=tw l k:=by rw [wiT,hnu,hul];exact g2
 have hend:tEnd l k=tvAt l k+1+(vNum l k*tw l k+7)/8:=rfl;have hle:tEnd l k≤l.length:=by rw [qbn] at h3;omega
 have hpl:(qp l k).length=(vNum l k*tw l k+7)/8:=by rw [qp,List.length_take,zld];omega
 have hp:qp l k=qcx (nuT (tNum l) k (vNum l 3)) (tw l k):=by
  rw [hnu];exact qmd hpl fun g=>(qkp _ _ _).2 g g1
 have hb:UInt8.ofNat (tw l k)=l[tvAt l k]:=by
  rw [tw,List.getD_eq_getElem?_getD,zge h1];exact q0x _
 have r1:l.drop (tvAt l k)=UInt8.ofNat (tw l k)::(qp l k++l.drop (tEnd l k)):=by
  have hs:=ql1 l (a:=tvAt l k+1) (b:=tEnd l k) Oo;rw [List.drop_eq_getElem_cons h1,hb,qp,← hs]
 have r2:l.drop (tEnd l k)=(if k=0 then [] else q8 (qax (stT (tNum l) (k-1) (vNum l 3))) (leT (tNum l) k (vNum l 3)))++l.drop (tvAt l (k+1)):=by
  by_cases e:k=0
  ·subst e;rw [if_pos rfl,qbn,if_pos rfl];rfl
  ·rw [if_neg e];obtain ⟨m,rfl⟩:∃ m,k=m+1:=⟨k-1,by omega⟩
   have hv:=qbs h (m+1) Oo Oo;have hve:=g3.resolve_left e;have hvo:(voE (qg l (m+1))).2=0:=by
    rw [vcE,if_neg (by rw [hv.tvec];decide)] at hve;exact Classical.byContradiction fun g=>by rw [if_pos g] at hve;exact g hve
   have hvc:=q25 hv.vec.ok hvo;rw [← qwf h hk,hv.n] at hvc;have hs:=ql1 l (a:=tEnd l (m+1)) (b:=tvAt l (m+1+1)) (by rw [qbn];omega);rw [Nat.add_sub_cancel,hn,← hvc,qg,← hs]
 rw [r1,r2,hp,lvB,hw,List.cons_append,List.append_assoc]
theorem qx1:l=qv (tNum l) (vNum l 3):=by
 have ht:=qk9 (qct h).1;have hno:∀ k,k<4→(numL (l.drop (vAt l k))).2.2=0:=fun k hk=>Classical.byContradiction fun g=>by
  have:=ht.1 k hk;have e:=qcp (most:=1048576) g;rw [tcF,if_pos (by rw [e];exact g),e] at this;exact g this
 have r0:l=varL (vNum l 0)++l.drop (vAt l 1):=qeq (k:=0) (hno 0 Od);have r1:=qeq (k:=1) (hno 1 Od);have r2:=qeq (k:=2) (hno 2 Od);have r3:=qeq (k:=3) (hno 3 Od);have b0:l.drop (vAt l 4)=_:=qjr h (k:=0) Od;have b1:=qjr h (k:=1) Od;have b2:=qjr h (k:=2) Od;have b3:=qjr h (k:=3) Od;have b4:l.drop (tvAt l 4)=[]:=by
  have h1:=(qct h).1;rw [tE] at h1
  by_cases c1:(errF (tcF l) 4).2≠0
  case pos=>rw [if_pos c1] at h1;exact absurd h1 c1
  rw [if_neg c1] at h1
  by_cases c2:(errF (tvF l) 4).2≠0
  case pos=>rw [if_pos c2] at h1;exact absurd h1 c2
  rw [if_neg c2] at h1
  by_cases c3:tvAt l 4<l.length
  case pos=>rw [if_pos c3] at h1;cases h1
  exact List.drop_of_length_le Oo
 rw [b4,List.append_nil] at b3;clear b4;rw [qv,qkg h (k:=0) Od,qkg h (k:=1) Od,qkg h (k:=2) Od,qkg h (k:=3) Od];have e:tlB (tNum l) (vNum l 3) 4=l.drop (vAt l 4):=by
  rw [b0,b1,b2,b3];simp only [tlB,List.append_nil]
 rw [e,← r3,← r2,← r1];exact r0
end
theorem q72 {c:UInt8} (h:c≠0):(0:UInt8)<c:=by
 have h1:c.toNat≠0:=fun e=>h (UInt8.toNat_inj.1 e)
 rw [UInt8.lt_iff_toNat_lt];show 0<c.toNat;omega
theorem qabg {c d:UInt8} (h:c<d):d≠0:=fun e=>by
 subst e;rw [UInt8.lt_iff_toNat_lt] at h;exact absurd h (Nat.not_lt_zero _)
theorem qg7 (p:LB) {a b:LB} (h:a<b):p++a<p++b:=by
 induction p with
 | nil=>exact h
 | cons c p ih=>exact List.cons_lt_cons_iff.2 (.inr ⟨rfl,ih⟩)
theorem qzm:∀ {a b:LB} (r s:LB),a<b→escL a++(0::0::r)<escL b++(0::0::s)
 | _,[],_,_,h=>absurd h (List.not_lt_nil _)
 | [],d::b,r,s,_=>by
  by_cases hd:d=0
  ·subst hd;rw [qdd];exact List.cons_lt_cons_iff.2 (.inr ⟨rfl,List.cons_lt_cons_iff.2 (.inl Od)⟩)
  ·rw [qbz _ hd];exact List.cons_lt_cons_iff.2 (.inl (q72 hd))
 | c::a,d::b,r,s,h=>by
  rcases List.cons_lt_cons_iff.1 h with h1|⟨rfl,h1⟩
  ·rw [qbz _ (qabg h1)]
   by_cases hc:c=0
   ·subst hc;rw [qdd];exact List.cons_lt_cons_iff.2 (.inl h1)
   ·rw [qbz _ hc];exact List.cons_lt_cons_iff.2 (.inl h1)
  ·by_cases hc:c=0
   ·subst hc;rw [qdd,qdd];exact qg7 [0,1] (qzm r s h1)
   ·rw [qbz _ hc,qbz _ hc];exact qg7 [c] (qzm r s h1)
theorem q70:∀ {a b:LB} (r s:LB),(∀ c∈b,c≠0)→a<b→a++(0::r)<b++(0::s)
 | _,[],_,_,_,h=>absurd h (List.not_lt_nil _)
 | [],d::b,r,s,hb,_=>List.cons_lt_cons_iff.2 (.inl (q72 (hb d mh)))
 | c::a,d::b,r,s,hb,h=>by
  rcases List.cons_lt_cons_iff.1 h with h1|⟨rfl,h1⟩
  ·exact List.cons_lt_cons_iff.2 (.inl h1)
  ·exact qg7 [c] (q70 r s (fun x hx=>hb x (zmc hx)) h1)
theorem q38 {a b:TM} (ha:qbi a=0) (hb:qbi b=0) (hk:a.kind=b.kind) (h:LtT a b):qas a<qas b:=by
 have h:slt a.text b.text=true∨(a.text=b.text∧(slt a.type b.type=true∨(a.type=b.type∧slt a.lang b.lang=true))):=by
  rcases h with g|⟨_,g⟩
  ·exact absurd g Oo
  ·exact g
 simp only [qdi] at h
 by_cases h3:b.kind=3
 ·have ra:ReadsAs 3 (qas a) a:=⟨by omega,ha,rfl⟩
  have rb:ReadsAs 3 (qas b) b:=⟨h3,hb,rfl⟩
  obtain ⟨ea,_⟩:=ra.lit;obtain ⟨eb,hz⟩:=rb.lit;rw [ea,eb]
  rcases h with h|⟨e1,h|⟨e2,h⟩⟩
  ·exact qzm _ _ h
  ·rw [e1];exact qg7 _ (qg7 [0,0] (q70 _ _ hz h))
  ·rw [e1,e2];exact qg7 _ (qg7 [0,0] (qg7 _ (qg7 [0] h)))
 ·have ra:ReadsAs a.kind (qas a) a:=⟨rfl,ha,rfl⟩
  have rb:ReadsAs b.kind (qas b) b:=⟨rfl,hb,rfl⟩
  obtain ⟨a1,a2,a3⟩:=ra.plain Oo;obtain ⟨b1,b2,b3⟩:=rb.plain h3;rw [← a1,← b1]
  rcases h with h|⟨_,h|⟨_,h⟩⟩
  ·exact h
  ·rw [b2] at h;exact absurd h (List.not_lt_nil _)
  ·rw [b3] at h;exact absurd h (List.not_lt_nil _)
theorem qadb {a b:LB} (h:a<b):leL b a=false:=by
 rw [leL,Bool.or_eq_false_iff];refine ⟨Bool.eq_false_iff.2 fun g=>?_,Bool.eq_false_iff.2 fun g=>?_⟩
 ·rw [qdi] at g;exact List.lt_irrefl _ (List.lt_trans h g)
 ·rw [qan] at g;have:b=a:=by have:=congrArg (fun x:ByteArray=>x.data.toList) g;exact this
  subst this;exact List.lt_irrefl _ h
open Classical in
noncomputable def dicE (L:List LB):Nat:=
 if 4194304<L.length∨∃ i,262144<(tx L i).length then 2 else if ∃ i,i+1<L.length∧leL (tx L (i+1)) (tx L i)=true then 160 else if 67108864<(qaj L).length then 1 else 0
section
variable {l:LB} (h:(toE l).2=0)
include h
theorem qui {i:Nat} (hi:i+1<vNum l 3):∀ (d:Nat) {j:Nat},3-j=d→j≤3→tUp l (i+1) j=tUp l i j+1→∃ k,k<4∧(∀ m,m<k→tNum l (i+1) m=tNum l i m)∧tNum l i k<tNum l (i+1) k
 | d,j,hd,hj,g=>by
  have hlt:=qla (qbs h) hi j hj;obtain ⟨_,h2⟩:=q9t h (k:=3-j) (e:=tUp l (i+1) j) Oo hlt;have hne:(3-j=0∨bitN ((qg l (3-j)).drop 8) (tUp l i j)≠1)→∃ k,k<4∧(∀ m,m<k→tNum l (i+1) m=tNum l i m)∧tNum l i k<tNum l (i+1) k:=fun hb=>by
   have h3:=h2 Oo (by rw [g,Nat.add_sub_cancel];exact hb);refine ⟨3-j,by omega,fun m hm=>?_,?_⟩
   ·have g2:=qos (qbs h) (i:=i) Oo (show j<3 by omega) g (hb.resolve_left Oo);have g3:=qou g2 (m:=3-m) Oo;rw [tNum,tNum,g3]
   ·rw [qfk h Oo,qfk h Oo,show 3-(3-j)=j by omega];rw [g,Nat.add_sub_cancel] at h3;rw [g];exact h3
  by_cases h0:3-j=0
  ·exact hne (.inl h0)
  ·by_cases hb:bitN ((qg l (3-j)).drop 8) (tUp l i j)=1
   ·have g2:=qot (qbs h) (i:=i) Oo (show j<3 by omega) g hb;clear hne
    match d,hd with
    | 0,hd=>exact absurd hd h0
    | d+1,hd=>exact qui hi d (j:=j+1) Oo Oo g2
   ·exact hne (.inr hb)
theorem qm1:TOk (tNum l) (vNum l 3):=by
 refine ⟨?_,fun i k hi hk=>?_,fun i h0 hi=>?_⟩
 ·have ht:=(qk9 (qct h).1).1 3 Od;have hn:(numE l 3 1048576).2=0:=Classical.byContradiction fun g=>by rw [tcF,if_pos g] at ht;exact g ht
  have h1:(numL (l.drop (vAt l 3))).2.2=0:=Classical.byContradiction fun g=>by rw [qcp g] at hn;exact g hn
  exact qn1 h1 hn
 ·have h2:=qla (qbs h) hi (3-k) Oo;obtain ⟨h1,_⟩:=q9t h hk (e:=tUp l i (3-k)) (by rwa [show 3-(3-k)=k by omega] at h2);rw [qfk h hk];exact ⟨fun g=>by omega,by omega⟩
 ·obtain ⟨i,rfl⟩:∃ m,i=m+1:=⟨i-1,by omega⟩
  exact qui h hi 3 (j:=0) rfl Oo rfl
end
section
variable {Q R:Nat→Nat→Nat} {n:Nat} (h:∀ i k,i<n→k<4→Q i k=R i k)
include h
theorem qnj {i:Nat} (hi:i<n):∀ {k:Nat},k<4→frU Q i k=frU R i k
 | 0,hk=>by rw [frU,frU,h i 0 hi hk,h (i-1) 0 Oo hk]
 | k+1,hk=>by rw [frU,frU,qnj hi (k:=k) Oo,h i (k+1) hi hk,h (i-1) (k+1) Oo hk]
theorem qsi {k:Nat} (hk:k<4):∀ {i:Nat},i≤n→nuT Q k i=nuT R k i
 | 0,_=>rfl
 | i+1,hi=>by rw [nuT,nuT,qnj h (i:=i) Oo hk,h i k Oo hk,qsi hk (i:=i) Oo]
theorem q2c {k:Nat} (hk:k+1<4):∀ {i:Nat},i≤n→stT Q k i=stT R k i
 | 0,_=>rfl
 | i+1,hi=>by rw [stT,stT,qnj h (i:=i) Oo hk,qnj h (i:=i) (k:=k) Oo Oo,q2c hk (i:=i) Oo]
theorem qkf {k:Nat} (hk:k<4):leT Q k n=leT R k n:=by rw [leT,leT,qsi h hk znr]
theorem qnv {k:Nat} (hk:k<4):lvB Q n k=lvB R n k:=by
 rw [lvB,lvB,qsi h hk znr,qkf h hk]
 by_cases e:k=0
 ·rw [if_pos e,if_pos e]
 ·rw [if_neg e,if_neg e,q2c h Oo znr]
theorem q2k:qv Q n=qv R n:=by
 rw [qv,qv,qkf h (k:=0) Od,qkf h (k:=1) Od,qkf h (k:=2) Od,qkf h (k:=3) Od];simp only [tlB];rw [qnv h (k:=3-0) Od,qnv h (k:=3-1) Od,qnv h (k:=3-2) Od,qnv h (k:=3-3) Od]
end
noncomputable def sTm (l:LB) (k:Nat):List TM:=(txsD (sDict l k)).map fun s=>(qgj ((k+1:Nat):Int) s).getD zTM
noncomputable def vTms (l:LB):List TM:=sTm l 0++(sTm l 1++sTm l 2)
theorem qh7 {α:Type} {p:α→Bool} {l:List α} (h:∀ x∈l,p x=true):l.filter p=l:=List.filter_eq_self.2 h
theorem qcf {α:Type} {p:α→Bool} {l:List α} (h:∀ x∈l,p x=false):l.filter p=[]:=List.filter_eq_nil_iff.2 fun x hx=>by rw [h x hx];decide
theorem qd2 (l:LB) (k:Nat):(sTm l k).length=dN (sDict l k):=by rw [sTm,List.length_map,qcu]
theorem qo0 (l:LB):(vTms l).length=vTot l 3:=by
 have e:vTot l 3=0+dN (sDict l 0)+dN (sDict l 1)+dN (sDict l 2):=rfl;rw [vTms,zla,zla,qd2,qd2,qd2,e];omega
section
variable {l:LB} (h:(vwE l).2=0)
include h
theorem qgk {k j:Nat} (hk:k<3) (hj:j<dN (sDict l k)):dGet (sDict l k) j=some (tx (txsD (sDict l k)) j):=by
 have h2:=(qhv h).2.1 k hk;obtain ⟨_,_,h3,_⟩:=qc4 h2;have h4:=(qgb (m:=sDict l k) (i:=j+1) fun i hi=>h3 i Oo).2 Oo Oo;rw [Nat.add_sub_cancel] at h4;rw [h4,qtm hj]
theorem q12 {k j:Nat} (hk:k<3) (hj:j<dN (sDict l k)):∃ t,ReadsAs ((k+1:Nat):Int) (tx (txsD (sDict l k)) j) t:=by
 have h1:=qabr ((qhv h).2.2 k hk) hj;refine Classical.byContradiction fun g=>h1 ⟨_,qgk h hk hj,fun t ht=>g ⟨t,ht⟩⟩
theorem qq3 {k j:Nat} (hk:k<3) (hj:j<dN (sDict l k)):∃ t,ReadsAs ((k+1:Nat):Int) (tx (txsD (sDict l k)) j) t∧(sTm l k)[j]?=some t:=by
 obtain ⟨t,ht⟩:=q12 h hk hj;refine ⟨t,ht,?_⟩;have h1:(txsD (sDict l k))[j]?=some (tx (txsD (sDict l k)) j):=by
  have hl:j<(txsD (sDict l k)).length:=by rw [qcu];exact hj
  rw [tx,List.getD_eq_getElem?_getD,zge hl];rfl
 rw [sTm,List.getElem?_map,h1,Option.map_some,qfw ht];rfl
theorem qadw {k:Nat} (hk:k<3) {t:TM} (ht:t∈sTm l k):∃ j,j<dN (sDict l k)∧(sTm l k)[j]?=some t∧ReadsAs ((k+1:Nat):Int) (tx (txsD (sDict l k)) j) t:=by
 obtain ⟨j,hj⟩:=List.mem_iff_getElem?.1 ht;have hl:=(List.getElem?_eq_some_iff.1 hj).1;rw [qd2] at hl;obtain ⟨u,h1,h2⟩:=qq3 h hk hl;rw [h2] at hj;cases hj;exact ⟨j,hl,h2,h1⟩
theorem qhk {k:Nat} (hk:k<3) {t:TM} (ht:t∈sTm l k):t.kind=((k+1:Nat):Int)∧qbi t=0:=by
 obtain ⟨_,_,_,h3⟩:=qadw h hk ht;exact ⟨h3.kind,h3.ok⟩
theorem qaaw {k:Nat} (hk:k<3):(sTm l k).map qas=txsD (sDict l k):=by
 apply List.ext_getElem?;intro j;rw [List.getElem?_map]
 by_cases hj:j<dN (sDict l k)
 ·obtain ⟨t,h1,h2⟩:=qq3 h hk hj;have hl:j<(txsD (sDict l k)).length:=by rw [qcu];exact hj
  rw [h2,Option.map_some,h1.entry,tx,List.getD_eq_getElem?_getD,zge hl];rfl
 ·rw [List.getElem?_eq_none (by rw [qd2];omega),List.getElem?_eq_none (by rw [qcu];omega)];rfl
theorem qok {k:Nat} (hk:k<3):RiseT (sTm l k):=by
 refine List.pairwise_iff_getElem.2 fun i j hi hj hij=>?_;rw [qd2] at hi hj;obtain ⟨t,h1,h2⟩:=qq3 h hk hi;obtain ⟨u,g1,g2⟩:=qq3 h hk hj;have et:=(List.getElem?_eq_some_iff.1 h2).2;have eu:=(List.getElem?_eq_some_iff.1 g2).2;rw [et,eu];obtain ⟨d,rfl⟩:∃ d,j=i+1+d:=⟨j-(i+1),by omega⟩
 have hlt:=qzb ((qhv h).2.1 k hk) hj (qgk h hk hi) (qgk h hk hj);rw [← h1.entry,← g1.entry] at hlt
 rcases LtT.tri t u with a|a|a
 ·exact a
 ·subst a;exact absurd hlt (List.lt_irrefl _)
 ·exact absurd (List.lt_trans hlt (q38 g1.ok h1.ok (by rw [h1.kind,g1.kind]) a)) (List.lt_irrefl _)
theorem q6g {t:TM}:t∈vTms l↔∃ k,k<3∧t∈sTm l k:=by
 have _h:=h
 rw [vTms,List.mem_append,List.mem_append]
 constructor
 ·rintro (g|g|g)
  ·exact ⟨0,by decide,g⟩
  ·exact ⟨1,by decide,g⟩
  ·exact ⟨2,by decide,g⟩
 ·rintro ⟨k,hk,g⟩
  rcases (show k=0∨k=1∨k=2 by omega) with e|e|e<;>rw [e] at g
  ·exact .inl g
  ·exact .inr (.inl g)
  ·exact .inr (.inr g)
theorem qfo {t:TM} (ht:t∈vTms l):1≤t.kind∧t.kind≤3∧qbi t=0:=by
 obtain ⟨k,hk,g⟩:=(q6g h).1 ht;obtain ⟨h1,h2⟩:=qhk h hk g;omega
theorem qle:RiseT (vTms l):=by
 have hc:∀ {i j:Nat},i<3→j<3→i<j→∀ a∈sTm l i,∀ b∈sTm l j,LtT a b:=fun hi hj hij a ha b hb=>.inl (by rw [(qhk h hi ha).1,(qhk h hj hb).1];omega)
 refine List.pairwise_append.2 ⟨qok h Od,List.pairwise_append.2 ⟨qok h Od,qok h Od,hc Od Od Od⟩,fun a ha b hb=>?_⟩
 rcases List.mem_append.1 hb with hb|hb
 ·exact hc (i:=0) (j:=1) Od Od Od a ha b hb
 ·exact hc (i:=0) (j:=2) Od Od Od a ha b hb
theorem q6h {k:Nat} (hk:k<3):ofK (vTms l) k=sTm l k:=by
 have hy:∀ t∈sTm l k,decide (t.kind=((k+1:Nat):Int))=true:=fun t ht=>decide_eq_true (qhk h hk ht).1
 have hn:∀ j,j<3→j≠k→∀ t∈sTm l j,decide (t.kind=((k+1:Nat):Int))=false:=fun j hj hjk t ht=>decide_eq_false (by rw [(qhk h hj ht).1];omega)
 rw [ofK,vTms,List.filter_append,List.filter_append]
 match k,hk with
 | 0,_=>rw [qh7 hy,qcf (hn 1 Od Od),qcf (hn 2 Od Od),List.append_nil,List.append_nil]
 | 1,_=>rw [qh7 hy,qcf (hn 0 Od Od),qcf (hn 2 Od Od),List.append_nil,List.nil_append]
 | 2,_=>rw [qh7 hy,qcf (hn 0 Od Od),qcf (hn 1 Od Od),List.nil_append,List.nil_append]
theorem qjy {k:Nat} (hk:k<3):secE (vTms l) k=txsD (sDict l k):=by rw [qdw,q6h h hk,qaaw h hk]
theorem qo1:vocB (vTms l)=l:=by
 rw [vocB,qjy h Od,qjy h Od,qjy h Od];exact (qx5 h).symm
theorem q2x {id:Nat} (h0:id≠0) (h1:id≤vTot l 3):qcl l id=(vTms l)[id-1]?:=by
 obtain ⟨p1,p2,p3⟩:=qv1 h0 h1;have h4:vTot l (qca l id+1)=vTot l (qca l id)+dN (sDict l (qca l id)):=rfl;have hj:id-(vTot l (qca l id)+1)<dN (sDict l (qca l id)):=by omega
 obtain ⟨t,g1,g2⟩:=qq3 h p1 hj;rw [qcl,if_neg h0,if_neg Oo,qgk h p1 hj];dsimp only;rw [qfw g1,← g2];have t0:vTot l 0=0:=rfl;have t1:vTot l 1=(sTm l 0).length:=by rw [qd2];exact Nat.zero_add _
 have t2:vTot l 2=vTot l 1+(sTm l 1).length:=by rw [qd2];rfl
 have hp:qca l id=0∨qca l id=1∨qca l id=2:=by omega
 rcases hp with e|e|e<;>rw [e] at p2 p3 hj ⊢
 ·rw [vTms,List.getElem?_append_left (by rw [qd2];omega)];congr 1<;>omega
 ·rw [← qd2] at hj;rw [vTms,List.getElem?_append_right Oo,List.getElem?_append_left Oo];congr 1<;>omega
 ·rw [vTms,List.getElem?_append_right Oo,List.getElem?_append_right Oo];congr 1<;>omega
theorem q8v {k:Nat} (hk:k<3):DOk (txsD (sDict l k)):=by
 have h2:=(qhv h).2.1 k hk;have hE:=(qc4 h2).1;have e2:(errF (dhF (sDict l k)) 2).2=0:=Classical.byContradiction fun g=>by rw [dE,if_pos g] at hE;exact g hE
 have hh:=qaw e2;have n0:(numL ((sDict l k).drop (vAt (sDict l k) 0))).2.2=0:=Classical.byContradiction fun g=>by
  have:=hh 0 Oo;rw [dhF,qcp g] at this;exact g this
 have n1:(numL ((sDict l k).drop (vAt (sDict l k) 1))).2.2=0:=Classical.byContradiction fun g=>by
  have:=hh 1 Oo;rw [dhF,qcp g] at this;exact g this
 have m0:=qn1 n0 (hh 0 Oo);have m1:=qn1 n1 (hh 1 Oo);rw [if_pos rfl] at m0;rw [if_neg Od] at m1;refine ⟨by rw [qcu];exact m0,fun i=>?_,fun i hi=>?_,?_⟩
 ·by_cases hi:i<dN (sDict l k)
  ·exact qjk (qgk h hk hi)
  ·rw [tx,List.getD_eq_getElem?_getD,List.getElem?_eq_none (by rw [qcu];omega)];exact Nat.zero_le _
 ·rw [qcu] at hi;exact qadb (qj7 h2 (j:=i+1) Oo hi (by rw [Nat.add_sub_cancel];exact qgk h hk Oo) (qgk h hk hi))
 ·rw [qt7 h2];rw [dE,if_neg Oo] at hE
  by_cases l1:(sDict l k).length<dEnd (sDict l k)
  case pos=>rw [if_pos l1] at hE;cases hE
  rw [if_neg l1] at hE
  by_cases l2:dEnd (sDict l k)<(sDict l k).length
  case pos=>rw [if_pos l2] at hE;cases hE
  have hen:dEnd (sDict l k)=ql (sDict l k)+qgv (sDict l k):=rfl;have hs:qgv (sDict l k)≤67108864:=m1;rw [qa,zld];omega
end
theorem LtQ.trans {a b c:Q4} (h:LtQ a b) (g:LtQ b c):LtQ a c:=by
 obtain ⟨k,h1,h2,h3⟩:=h;obtain ⟨m,g1,g2,g3⟩:=g
 rcases Nat.lt_trichotomy k m with e|e|e
 ·exact ⟨k,h1,fun j hj=>(h2 j hj).trans (g2 j Oo),by rw [← g2 k e];exact h3⟩
 ·subst e;exact ⟨k,h1,fun j hj=>(h2 j hj).trans (g2 j hj),h3.trans g3⟩
 ·exact ⟨m,g1,fun j hj=>(h2 j Oo).trans (g2 j hj),by rw [h2 m e];exact g3⟩
theorem qqr {α:Type} {R:α→α→Prop} (ht:∀ a b c,R a b→R b c→R a c) {l:List α} (h:∀ i a b,l[i]?=some a→l[i+1]?=some b→R a b):l.Pairwise R:=by
 refine List.pairwise_iff_getElem.2 fun i j hi hj hij=>?_;obtain ⟨d,rfl⟩:∃ d,j=i+1+d:=⟨j-(i+1),by omega⟩
 clear hij
 induction d with
 | zero=>exact h i _ _ (zge hi) (zge hj)
 | succ d ih=>exact ht _ _ _ (ih Oo) (h (i+1+d) _ _ (zge Oo) (zge hj))
noncomputable def qsP (l:LB):List Q4:=(List.range (vNum (qe l) 3)).map fun i=>q4Of (qk l) (tNum (qe l) i)
theorem qqu {l:LB} {i:Nat} (hi:i<vNum (qe l) 3):(qsP l)[i]?=some (q4Of (qk l) (tNum (qe l) i)):=by rw [qsP,List.getElem?_map,List.getElem?_range hi];rfl
theorem qgh (l:LB):(qsP l).length=vNum (qe l) 3:=by simp [qsP]
theorem q1o {l:LB} {q:Q4} (h:q∈qsP l):∃ i,i<vNum (qe l) 3∧q=q4Of (qk l) (tNum (qe l) i):=by
 simp only [qsP,List.mem_map,List.mem_range] at h;obtain ⟨i,h1,h2⟩:=h;exact ⟨i,h1,h2.symm⟩
theorem qzv (v:LB) (q:Nat→Nat) {k:Nat} (hk:k<4):gat (q4Of v q) k=uT v q k:=
 match k,hk with
 | 0,_=>rfl
 | 1,_=>rfl
 | 2,_=>rfl
 | 3,_=>rfl
theorem qic {l:LB} (h:(qar l).2=0):28≤l.length∧hN l 0=1095914324∧hN l 6=(crcL (l.take 24)).toNat∧hN l 1=1∧hN l 4+hN l 5+36≤67108864∧l.length=hN l 4+hN l 5+36:=by
 rw [qar] at h
 by_cases c1:l.length<28
 case pos=>rw [if_pos c1] at h;cases h
 rw [if_neg c1] at h
 by_cases c2:hN l 0≠1095914324
 case pos=>rw [if_pos c2] at h;cases h
 rw [if_neg c2] at h
 by_cases c3:hN l 6≠(crcL (l.take 24)).toNat
 case pos=>rw [if_pos c3] at h;cases h
 rw [if_neg c3] at h
 by_cases c4:hN l 1≠1
 case pos=>rw [if_pos c4] at h;cases h
 rw [if_neg c4] at h
 by_cases c5:67108864<hN l 4+hN l 5+36
 case pos=>rw [if_pos c5] at h;cases h
 rw [if_neg c5] at h
 by_cases c6:l.length<hN l 4+hN l 5+36
 case pos=>rw [if_pos c6] at h;cases h
 rw [if_neg c6] at h
 by_cases c7:hN l 4+hN l 5+36<l.length
 case pos=>rw [if_pos c7] at h;cases h
 exact ⟨by omega,Classical.not_not.1 c2,Classical.not_not.1 c3,Classical.not_not.1 c4,by omega,by omega⟩
theorem qb5 {l:LB} {a n:Nat} (hl:a+4≤l.length) (h:leN ((l.drop a).take 4)=n):l.drop a=fixL n 4++l.drop (a+4):=by
 have e1:((l.drop a).take 4).length=4:=by rw [List.length_take,zld];omega
 have e2:=qu1 ((l.drop a).take 4);rw [e1,h] at e2;rw [(qzr e1 e2).2 h,← List.drop_drop,List.take_append_drop]
theorem qsq {l:LB} (h0:(qar l).2=0) (h1:pS1 l) (h2:pS2 l):l=qch (hN l 2) (hN l 3) (qk l) (qe l):=by
 obtain ⟨g1,g2,g3,g4,g5,g6⟩:=qic h0;have lv:(qk l).length=hN l 4:=by rw [qk,List.length_take,zld];omega
 have lt:(qe l).length=hN l 5:=by rw [qe,List.length_take,zld];omega
 have r0:l=fixL 1095914324 4++l.drop 4:=qb5 (a:=0) Oo g2;have r1:l.drop 4=fixL 1 4++l.drop 8:=qb5 (a:=4) Oo g4;have r2:l.drop 8=fixL (hN l 2) 4++l.drop 12:=qb5 (a:=8) Oo rfl;have r3:l.drop 12=fixL (hN l 3) 4++l.drop 16:=qb5 (a:=12) Oo rfl;have r4:l.drop 16=fixL (hN l 4) 4++l.drop 20:=qb5 (a:=16) Oo rfl;have r5:l.drop 20=fixL (hN l 5) 4++l.drop 24:=qb5 (a:=20) Oo rfl;have r6:l.drop 24=fixL (crcL (l.take 24)).toNat 4++l.drop 28:=qb5 (a:=24) Oo g3;have r7:l.drop 28=qk l++l.drop (28+hN l 4):=by rw [qk,← List.drop_drop,List.take_append_drop]
 have r8:l.drop (28+hN l 4)=fixL (crcL (qk l)).toNat 4++l.drop (28+hN l 4+4):=qb5 Oo h1.symm;have r9:l.drop (28+hN l 4+4)=qe l++l.drop (32+hN l 4+hN l 5):=by
  rw [qe,show 28+hN l 4+4=32+hN l 4 by omega,← List.drop_drop (i:=hN l 5),List.take_append_drop]
 have r10:l.drop (32+hN l 4+hN l 5)=fixL (crcL (qe l)).toNat 4:=by
  have:=qb5 (l:=l) (a:=32+hN l 4+hN l 5) Oo h2.symm;rw [this,List.drop_of_length_le Oo,List.append_nil]
 have e24:l.take 24=h24 (hN l 2) (hN l 3) (hN l 4) (hN l 5):=by
  have e:l=h24 (hN l 2) (hN l 3) (hN l 4) (hN l 5)++l.drop 24:=by
   rw [h24];simp only [List.append_assoc];rw [← r5,← r4,← r3,← r2,← r1];exact r0
  have e2:=congrArg (List.take 24) e;rw [qck (qdz _ _ _ _)] at e2;exact e2
 rw [qch,lv,lt,← e24,sumL,sumL,sumL,← r10,← r9,← r8,← r7,← r6,List.take_append_drop]
section
variable {l:LB} (h:(poE l).2=0)
include h
theorem q6z {i k:Nat} (hi:i<vNum (qe l) 3) (hk:k<4):(k≠0→1≤tNum (qe l) i k)∧tNum (qe l) i k≤vTot (qk l) 3∧qcl (qk l) (tNum (qe l) i k)=some (gat (q4Of (qk l) (tNum (qe l) i)) k):=by
 obtain ⟨_,_,_,_,h5,_,_,h8,_⟩:=qcq h;obtain ⟨h9,_⟩:=h8 i hi;have h10:=h9 k hk;refine ⟨((qm1 h5).num i k hi hk).1,?_,?_⟩
 ·refine Classical.byContradiction fun g=>h10 ?_;rw [qcl,if_neg Oo,if_pos Oo]
 ·rw [qzv _ _ hk,uT];cases e:qcl (qk l) (tNum (qe l) i k) with
  | none=>exact absurd e h10
  | some t=>rfl
theorem qyv {i k:Nat} (hi:i<vNum (qe l) 3) (hk:k<4):(tNum (qe l) i k=0∧gat (q4Of (qk l) (tNum (qe l) i)) k=zTM)∨(tNum (qe l) i k≠0∧(vTms (qk l))[tNum (qe l) i k-1]?=some (gat (q4Of (qk l) (tNum (qe l) i)) k)):=by
 obtain ⟨_,h2,h3⟩:=q6z h hi hk;obtain ⟨_,_,_,h4,_⟩:=qcq h
 by_cases h0:tNum (qe l) i k=0
 ·refine .inl ⟨h0,?_⟩;rw [h0] at h3;have:qcl (qk l) 0=some zTM:=by rw [qcl,if_pos rfl];rfl
  rw [this] at h3;exact (Option.some.inj h3).symm
 ·exact .inr ⟨h0,by rw [← q2x h4 h0 h2];exact h3⟩
theorem q8x:(vTms (qk l)).length≤4194304:=by
 obtain ⟨_,_,_,_,h5,_,_,_,h9⟩:=qcq h;rw [qo0];refine Classical.byContradiction fun g=>?_;obtain ⟨i,h1,j,h2,h3⟩:=h9 (vTot (qk l) 3) Oo znr;have:=((qm1 h5).num i j h1 h2).2;omega
theorem q3x {i:Nat} (hi:i+1<vNum (qe l) 3):LtQ (q4Of (qk l) (tNum (qe l) i)) (q4Of (qk l) (tNum (qe l) (i+1))):=by
 obtain ⟨_,_,_,h4,h5,_⟩:=qcq h;obtain ⟨k,h1,h2,h3⟩:=(qm1 h5).rise (i+1) Oo hi;rw [Nat.add_sub_cancel] at h2 h3;refine ⟨k,h1,fun j hj=>?_,?_⟩
 ·rw [qzv _ _ Oo,qzv _ _ Oo,uT,uT,h2 j hj]
 ·rcases qyv h (i:=i) Oo h1 with ⟨a1,a2⟩|⟨a1,a2⟩<;>rcases qyv h hi h1 with ⟨b1,b2⟩|⟨b1,b2⟩
  ·omega
  ·rw [a2];have:=qfo h4 (zmg b2);exact .inl (by show (0:Int)<_;omega)
  ·omega
  ·exact (qle h4).at Oo a2 b2
theorem q8y:SetOk (vTms (qk l)) (qsP l):=by
 obtain ⟨_,_,_,h4,h5,_⟩:=qcq h;refine ⟨qle h4,q8x h,fun t ht=>by have:=qfo h4 ht;omega,fun q hq k hk=>?_,by rw [qgh];exact (qm1 h5).nle,?_⟩
 ·obtain ⟨i,hi,rfl⟩:=q1o hq
  rcases qyv h hi hk with ⟨a1,a2⟩|⟨a1,a2⟩
  ·refine .inr ⟨?_,by rw [a2];rfl,a2⟩;have:=(q6z h hi hk).1;omega
  ·exact .inl (zmg a2)
 ·refine qqr (R:=LtQ) (fun _ _ _ h g=>LtQ.trans h g) fun i a b ha hb=>?_;have hl:=(List.getElem?_eq_some_iff.1 hb).1;rw [qgh] at hl;rw [qqu Oo] at ha;rw [qqu hl] at hb;cases ha;cases hb;exact q3x h hl
theorem qace {i k:Nat} (hi:i<vNum (qe l) 3) (hk:k<4):noQ (vTms (qk l)) (qsP l) i k=tNum (qe l) i k:=by
 obtain ⟨_,_,_,h4,_⟩:=qcq h;rw [qg8 (qqu hi)]
 rcases qyv h hi hk with ⟨a1,a2⟩|⟨a1,a2⟩
 ·rw [a2,a1];exact qg9 rfl
 ·rw [ql8 (qle h4) a2 (by have:=qfo h4 (zmg a2);omega)];omega
theorem quj:qv (noQ (vTms (qk l)) (qsP l)) (qsP l).length=qe l:=by
 obtain ⟨_,_,_,_,h5,_⟩:=qcq h;rw [qgh,q2k fun i k hi hk=>qace h hi hk];exact (qx1 h5).symm
theorem qyw:l=encP (vTms (qk l)) (qsP l):=by
 obtain ⟨h1,h2,h3,h4,h5,h6,h7,_⟩:=qcq h;rw [encP,qo1 h4,quj h,qo0,qgh,h6,h7];exact qsq h1 h2 h3
theorem q8w:EncOk (vTms (qk l)) (qsP l):=by
 obtain ⟨h1,h2,h3,h4,h5,h6,h7,h8,h9⟩:=qcq h;obtain ⟨g1,_,_,_,g5,g6⟩:=qic h1;have lv:(qk l).length=hN l 4:=by rw [qk,List.length_take,zld];omega
 have lt:(qe l).length=hN l 5:=by rw [qe,List.length_take,zld];omega
 refine ⟨q8y h,⟨fun k hk=>by rw [qjy h4 hk];exact q8v h4 hk,?_⟩,fun t ht=>(qfo h4 ht).2.1,fun t ht=>(qfo h4 ht).2.2,fun q hq=>?_,fun t ht=>?_,?_⟩
 ·have e:=congrArg List.length (qo1 h4);rw [vocB,jo3] at e;simp only [zla] at e;omega
 ·obtain ⟨i,hi,rfl⟩:=q1o hq;exact (h8 i hi).2
 ·obtain ⟨j,hj⟩:=List.mem_iff_getElem?.1 ht;have hl:=(List.getElem?_eq_some_iff.1 hj).1;rw [qo0] at hl;obtain ⟨i,a1,k,a2,a3⟩:=h9 (j+1) Oo Oo;refine ⟨_,zmg (qqu a1),k,a2,?_⟩
  rcases qyv h a1 a2 with ⟨b1,_⟩|⟨_,b2⟩
  ·omega
  ·rw [a3,Nat.add_sub_cancel,hj] at b2;exact (Option.some.inj b2).symm
 ·rw [qo1 h4,quj h,lv,lt];exact g5
end
def cmpQ (a b:Q4):Int:=if cmpT a.g b.g≠0 then cmpT a.g b.g else if cmpT a.s b.s≠0 then cmpT a.s b.s else if cmpT a.p b.p≠0 then cmpT a.p b.p else cmpT a.o b.o
theorem qy2 {a b:Q4}:cmpQ a b<0↔LtQ a b:=by
 unfold cmpQ
 constructor
 ·intro h
  by_cases h0:cmpT a.g b.g≠0
  ·rw [if_pos h0] at h;exact ⟨0,by decide,fun j hj=>absurd hj (Nat.not_lt_zero _),qb2.1 h⟩
  rw [if_neg h0] at h;have e0:=qbq.1 (Classical.not_not.1 h0)
  by_cases h1:cmpT a.s b.s≠0
  ·rw [if_pos h1] at h;exact ⟨1,by decide,fun j hj=>by obtain rfl:j=0:=(by omega);exact e0,qb2.1 h⟩
  rw [if_neg h1] at h;have e1:=qbq.1 (Classical.not_not.1 h1)
  by_cases h2:cmpT a.p b.p≠0
  ·rw [if_pos h2] at h;refine ⟨2,by decide,fun j hj=>?_,qb2.1 h⟩
   rcases (show j=0∨j=1 by omega) with rfl|rfl
   ·exact e0
   ·exact e1
  rw [if_neg h2] at h;have e2:=qbq.1 (Classical.not_not.1 h2);refine ⟨3,by decide,fun j hj=>?_,qb2.1 h⟩
  rcases (show j=0∨j=1∨j=2 by omega) with rfl|rfl|rfl
  ·exact e0
  ·exact e1
  ·exact e2
 ·rintro ⟨k,hk,h1,h2⟩
  match k,hk with
  | 0,_=>
   have:=qb2.2 h2;have g:cmpT a.g b.g<0:=this;rw [if_pos Oo];exact g
  | 1,_=>
   have g:cmpT a.s b.s<0:=qb2.2 h2;rw [if_neg (fun x=>x (qbq.2 (h1 0 Od))),if_pos Oo];exact g
  | 2,_=>
   have g:cmpT a.p b.p<0:=qb2.2 h2;rw [if_neg (fun x=>x (qbq.2 (h1 0 Od))),if_neg (fun x=>x (qbq.2 (h1 1 Od))),if_pos Oo];exact g
  | 3,_=>
   have g:cmpT a.o b.o<0:=qb2.2 h2;rw [if_neg (fun x=>x (qbq.2 (h1 0 Od))),if_neg (fun x=>x (qbq.2 (h1 1 Od))),if_neg (fun x=>x (qbq.2 (h1 2 Od)))];exact g
def q3h (qs:List Q4) (n:Nat):Prop:=∀ i,i+1<n→∀ a b,qs[i]?=some a→qs[i+1]?=some b→LtQ a b
open Classical in
noncomputable def valE (qs:List Q4):Nat:=if 1048576<qs.length then 2 else if qdr (qs.map qcy)≠0 then qdr (qs.map qcy) else if q3h qs qs.length then 0 else 6
theorem q2y {qs:List Q4} (h:1048576<qs.length):valE qs=2:=by rw [valE,if_pos h]
theorem q2z {qs:List Q4} (h:¬ 1048576<qs.length) {i e:Nat} {q:Q4} (hq:qs[i]?=some q) (hj:∀ j r,j<i→qs[j]?=some r→qcy r=0) (he:qcy q=e) (h0:e≠0):valE qs=e:=by
 have hl:=(List.getElem?_eq_some_iff.1 hq).1;have e1:qdr (qs.map qcy)=e:=by
  rw [qp6 (k:=i) (by rw [List.length_map];exact hl) (fun j hj1 hj2=>by rw [List.getElem_map];exact hj j _ hj2 (zge Oo))
   (by rw [List.getElem_map,(List.getElem?_eq_some_iff.1 hq).2,he];exact h0),List.getElem_map,(List.getElem?_eq_some_iff.1 hq).2,he]
 rw [valE,if_neg h,e1,if_pos h0]
theorem qmh {qs:List Q4} (h:∀ q∈qs,qcy q=0):qdr (qs.map qcy)=0:=
 qek fun j hj=>by rw [List.getElem_map];exact h _ (List.getElem_mem _)
theorem q6i {qs:List Q4} (h:¬ 1048576<qs.length) (hq:∀ q∈qs,qcy q=0) {i:Nat} {a b:Q4} (ha:qs[i]?=some a) (hb:qs[i+1]?=some b) (hn:¬ LtQ a b):valE qs=6:=by
 have hl:=(List.getElem?_eq_some_iff.1 hb).1;rw [valE,if_neg h,qmh hq,if_neg (fun g=>g rfl),if_neg (fun g=>hn (g i hl a b ha hb))]
theorem qtq {qs:List Q4} (h:¬ 1048576<qs.length) (hq:∀ q∈qs,qcy q=0) (hr:q3h qs qs.length):valE qs=0:=by
 rw [valE,if_neg h,qmh hq,if_neg (fun g=>g rfl),if_pos hr]
theorem qh8:∀ {l:List Nat},qdr l=0→∀ x∈l,x=0
 | [],_,x,hx=>by cases hx
 | y::l,h,x,hx=>by
  rw [qdr] at h
  by_cases e:y=0
  ·rw [if_neg (fun g=>g e)] at h
   rcases List.mem_cons.1 hx with rfl|hx
   ·exact e
   ·exact qh8 h x hx
  ·rw [if_pos e] at h;exact absurd h e
theorem qea {qs:List Q4} (h:valE qs=0):qs.length≤1048576∧(∀ q∈qs,qcy q=0)∧qs.Pairwise LtQ:=by
 unfold valE at h
 by_cases h1:1048576<qs.length
 case pos=>rw [if_pos h1] at h;cases h
 rw [if_neg h1] at h
 by_cases h2:qdr (qs.map qcy)≠0
 case pos=>rw [if_pos h2] at h;exact absurd h h2
 rw [if_neg h2] at h
 by_cases h3:q3h qs qs.length
 case neg=>rw [if_neg h3] at h;cases h
 refine ⟨by omega,fun q hq=>qh8 (Classical.not_not.1 h2) _ (List.mem_map.2 ⟨q,hq,rfl⟩),qqr (R:=LtQ) (fun _ _ _ h g=>LtQ.trans h g) fun i a b ha hb=>h3 i (List.getElem?_eq_some_iff.1 hb).1 a b ha hb⟩
theorem qoc {q:Q4} (h:qcy q=0) {k:Nat} (hk:k<4):qE k (q.at k)=0:=qh8 h _ (List.mem_map.2 ⟨k,List.mem_range.2 hk,rfl⟩)
theorem qob {k:Nat} {t:TM} (h:qE k t=0):canB k t=true∧((k=3∧t.kind=0)∨qbi t=0):=by
 unfold qE at h
 by_cases h1:canB k t=false
 case pos=>rw [if_pos h1] at h;cases h
 rw [if_neg h1] at h;refine ⟨by simpa using h1,?_⟩
 by_cases h2:k=3∧t.kind=0
 ·exact .inl h2
 ·rw [if_neg h2] at h;exact .inr h
theorem qxz {t:TM} (h:qbi t=0):1≤t.kind∧t.kind≤3:=by
 unfold qbi at h
 by_cases h1:t.kind=1∨t.kind=2
 ·omega
 ·rw [if_neg h1] at h
  by_cases h2:t.kind=3
  ·omega
  ·rw [if_neg h2] at h;cases h
theorem q6s {t:TM} (h:q6r t=true):t=zTM:=qb8.1 h
theorem qod {q:Q4} (h:qcy q=0) {k:Nat} (hk:k<4):(qbi (gat q k)=0∧gat q k∈trQ q)∨(k=0∧(gat q k).kind=0∧gat q k=zTM):=by
 match k,hk with
 | 0,_=>
  obtain ⟨h1,h2⟩:=qob (qoc h (k:=3) Od)
  by_cases h0:q.g.kind=0
  ·refine .inr ⟨rfl,h0,?_⟩;have h1:canB 3 q.g=true:=h1;rw [canB,if_neg Oo,if_neg Oo,if_neg Oo] at h1;simp only [Bool.or_eq_true,decide_eq_true_eq] at h1
   rcases h1 with (h1|h1)|h1
   ·exact q6s h1
   ·omega
   ·omega
  ·refine .inl ⟨h2.resolve_left fun g=>h0 g.2,?_⟩;rw [trQ,if_neg h0];exact List.mem_append_right _ (List.mem_singleton.2 rfl)
 | 1,_=>
  obtain ⟨_,h2⟩:=qob (qoc h (k:=0) Od);exact .inl ⟨h2.resolve_left fun g=>absurd g.1 Od,List.mem_append_left _ mh⟩
 | 2,_=>
  obtain ⟨_,h2⟩:=qob (qoc h (k:=1) Od);exact .inl ⟨h2.resolve_left fun g=>absurd g.1 Od,List.mem_append_left _ (zmc mh)⟩
 | 3,_=>
  obtain ⟨_,h2⟩:=qob (qoc h (k:=2) Od);exact .inl ⟨h2.resolve_left fun g=>absurd g.1 Od,List.mem_append_left _ (zmc (zmc mh))⟩
theorem qti {q:Q4} {t:TM} (h:t∈trQ q):∃ k,k<4∧gat q k=t∧(k=0→(gat q k).kind≠0):=by
 rw [trQ] at h
 rcases List.mem_append.1 h with h|h
 ·simp only [List.mem_cons,List.not_mem_nil,or_false] at h
  rcases h with rfl|rfl|rfl
  ·exact ⟨1,by decide,rfl,fun g=>by cases g⟩
  ·exact ⟨2,by decide,rfl,fun g=>by cases g⟩
  ·exact ⟨3,by decide,rfl,fun g=>by cases g⟩
 ·by_cases h0:q.g.kind=0
  ·rw [if_pos h0] at h;cases h
  ·rw [if_neg h0] at h;rw [List.mem_singleton.1 h];exact ⟨0,by decide,rfl,fun _=>h0⟩
def tmsQ (qs:List Q4):List TM:=tmsN (trms qs).length (trms qs)
theorem qhs (qs:List Q4):RiseT (tmsQ qs):=(qhr _ (trms qs) znr).1
theorem qu7 {qs:List Q4} {t:TM}:t∈trms qs↔∃ q∈qs,t∈trQ q:=by
 simp only [trms,List.mem_flatten,List.mem_map]
 constructor
 ·rintro ⟨_,⟨q,hq,rfl⟩,ht⟩;exact ⟨q,hq,ht⟩
 ·rintro ⟨q,hq,ht⟩;exact ⟨_,⟨q,hq,rfl⟩,ht⟩
theorem qep {qs:List Q4} {t:TM}:t∈tmsQ qs↔∃ q∈qs,t∈trQ q:=by
 rw [← qu7];exact (qhr _ (trms qs) znr).2 t
section
variable {qs:List Q4} (h:valE qs=0)
include h
theorem qfl {t:TM} (ht:t∈tmsQ qs):qbi t=0∧1≤t.kind∧t.kind≤3:=by
 obtain ⟨q,hq,hm⟩:=qep.1 ht;obtain ⟨k,hk,rfl,h0⟩:=qti hm
 rcases qod ((qea h).2.1 q hq) hk with g|⟨g1,g2,_⟩
 ·exact ⟨g.1,qxz g.1⟩
 ·exact absurd g2 (h0 g1)
theorem qvw (hn:(tmsQ qs).length≤4194304):SetOk (tmsQ qs) qs:=by
 obtain ⟨h1,h2,h3⟩:=qea h;refine ⟨qhs qs,hn,fun t ht=>by have:=qfl h ht;omega,fun q hq k hk=>?_,h1,h3⟩
 rcases qod (h2 q hq) hk with g|g
 ·exact .inl (qep.2 ⟨q,hq,g.2⟩)
 ·exact .inr g
theorem q54 (hn:(tmsQ qs).length≤4194304) (hv:VOk (tmsQ qs)) (hs:(vocB (tmsQ qs)).length+(qv (noQ (tmsQ qs) qs) qs.length).length+36≤67108864):EncOk (tmsQ qs) qs:=by
 refine ⟨qvw h hn,hv,fun t ht=>(qfl h ht).2.2,fun t ht=>(qfl h ht).1,fun q hq=>(qea h).2.1 q hq,fun t ht=>?_,hs⟩;obtain ⟨q,hq,hm⟩:=qep.1 ht;obtain ⟨k,hk,e,_⟩:=qti hm;exact ⟨q,hq,k,hk,e⟩
end
theorem EncOk.terms {T:List TM} {qs:List Q4} (h:EncOk T qs):T=tmsQ qs:=by
 refine RiseT.ext h.set.rise (qhs qs) fun t=>⟨fun ht=>?_,fun ht=>?_⟩
 ·obtain ⟨q,hq,k,hk,e⟩:=h.used t ht
  rcases qod (h.quad q hq) hk with g|⟨_,g,_⟩
  ·rw [← e];exact qep.2 ⟨q,hq,g.2⟩
  ·have:=h.set.kind t ht;rw [e] at g;omega
 ·obtain ⟨q,hq,hm⟩:=qep.1 ht;obtain ⟨k,hk,e,h0⟩:=qti hm
  rcases h.set.mem q hq k hk with g|⟨g1,g2,_⟩
  ·rw [← e];exact g
  ·exact absurd g2 (h0 g1)
theorem EncOk.val {T:List TM} {qs:List Q4} (h:EncOk T qs):valE qs=0:=
 qtq (by have:=h.set.len;omega) h.quad fun i _ a b ha hb=>(List.pairwise_iff_getElem.1 h.set.ord) i (i+1) (List.getElem?_eq_some_iff.1 ha).1 (List.getElem?_eq_some_iff.1 hb).1 Oo |> fun g=>by
  rw [(List.getElem?_eq_some_iff.1 ha).2,(List.getElem?_eq_some_iff.1 hb).2] at g;exact g
theorem qacj {L:List LB} (h:¬ 4194304<L.length) (h2:∀ i,¬ 262144<(tx L i).length) {i:Nat} (hi:i+1<L.length) (hl:leL (tx L (i+1)) (tx L i)=true):dicE L=160:=by
 rw [dicE,if_neg (fun g=>g.elim h fun ⟨i,g⟩=>h2 i g),if_pos ⟨i,hi,hl⟩]
theorem qaci {L:List LB} (h:¬ 4194304<L.length) (h2:∀ i,¬ 262144<(tx L i).length) (h3:∀ i,i+1<L.length→leL (tx L (i+1)) (tx L i)=false) (h4:67108864<(qaj L).length):dicE L=1:=by
 rw [dicE,if_neg (fun g=>g.elim h fun ⟨i,g⟩=>h2 i g),if_neg (fun ⟨i,g,g2⟩=>by rw [h3 i g] at g2;cases g2),if_pos h4]
theorem qm8 {L:List LB} (h:DOk L):dicE L=0:=by
 have h1:=h.n;have h4:=h.area;rw [dicE,if_neg (fun g=>g.elim Oo fun ⟨i,g⟩=>by have:=h.len i;omega),if_neg (fun ⟨i,g,g2⟩=>by rw [h.rise i g] at g2;cases g2),if_neg Oo]
theorem qgw {L:List LB} (h:dicE L=0):DOk L:=by
 unfold dicE at h
 by_cases h1:4194304<L.length∨∃ i,262144<(tx L i).length
 case pos=>rw [if_pos h1] at h;cases h
 rw [if_neg h1] at h
 by_cases h2:∃ i,i+1<L.length∧leL (tx L (i+1)) (tx L i)=true
 case pos=>rw [if_pos h2] at h;cases h
 rw [if_neg h2] at h
 by_cases h3:67108864<(qaj L).length
 case pos=>rw [if_pos h3] at h;cases h
 refine ⟨Nat.not_lt.1 fun g=>h1 (.inl g),fun i=>Nat.not_lt.1 fun g=>h1 (.inr ⟨i,g⟩),fun i hi=>?_,by omega⟩;cases e:leL (tx L (i+1)) (tx L i) with
 | false=>rfl
 | true=>exact absurd ⟨i,hi,e⟩ h2
noncomputable def qd4 (T:List TM):Nat:=if dicE (secE T 0)≠0 then dicE (secE T 0) else if dicE (secE T 1)≠0 then dicE (secE T 1) else dicE (secE T 2)
theorem q6n {T:List TM} {k:Nat} (hk:k<3) (h:∀ j,j<k→dicE (secE T j)=0) (h0:dicE (secE T k)≠0):qd4 T=dicE (secE T k):=by
 match k,hk with
 | 0,_=>rw [qd4,if_pos h0]
 | 1,_=>rw [qd4,if_neg (fun g=>g (h 0 Od)),if_pos h0]
 | 2,_=>rw [qd4,if_neg (fun g=>g (h 0 Od)),if_neg (fun g=>g (h 1 Od))]
theorem qpe {T:List TM} (h:∀ k,k<3→dicE (secE T k)=0):qd4 T=0:=by
 rw [qd4,if_neg (fun g=>g (h 0 Od)),if_neg (fun g=>g (h 1 Od))];exact h 2 Od
theorem qmo {T:List TM} (h:qd4 T=0):∀ k,k<3→dicE (secE T k)=0:=by
 unfold qd4 at h
 by_cases h0:dicE (secE T 0)≠0
 case pos=>rw [if_pos h0] at h;exact absurd h h0
 rw [if_neg h0] at h
 by_cases h1:dicE (secE T 1)≠0
 case pos=>rw [if_pos h1] at h;exact absurd h h1
 rw [if_neg h1] at h;intro k hk
 match k,hk with
 | 0,_=>exact Classical.not_not.1 h0
 | 1,_=>exact Classical.not_not.1 h1
 | 2,_=>exact h
def pkB (qs:List Q4):LB:=encP (tmsQ qs) qs
theorem qkw (qs:List Q4):(pkB qs).length=(vocB (tmsQ qs)).length+(qv (noQ (tmsQ qs) qs) qs.length).length+36:=qvi _ _ _ _
noncomputable def encE (qs:List Q4) (most:Int):Nat:=
 if valE qs≠0 then valE qs else if qd4 (tmsQ qs)≠0 then qd4 (tmsQ qs) else if most<((pkB qs).length:Int)∨67108864<(pkB qs).length then 1 else 0
section
variable {qs:List Q4} {most:Int}
theorem q34 (h:valE qs≠0):encE qs most=valE qs:=by rw [encE,if_pos h]
theorem q35 (h:valE qs=0) (h2:qd4 (tmsQ qs)≠0):encE qs most=qd4 (tmsQ qs):=by rw [encE,if_neg (fun g=>g h),if_pos h2]
theorem qnd (h:valE qs=0) (h2:qd4 (tmsQ qs)=0) (h3:most<((pkB qs).length:Int)∨67108864<(pkB qs).length):encE qs most=1:=by rw [encE,if_neg (fun g=>g h),if_neg (fun g=>g h2),if_pos h3]
theorem qr4 (h:valE qs=0) (h2:qd4 (tmsQ qs)=0) (h3:¬ (most<((pkB qs).length:Int)∨67108864<(pkB qs).length)):encE qs most=0:=by rw [encE,if_neg (fun g=>g h),if_neg (fun g=>g h2),if_neg h3]
theorem qp2 (h:encE qs most=0):valE qs=0∧qd4 (tmsQ qs)=0∧((pkB qs).length:Int)≤most∧(pkB qs).length≤67108864:=by
 unfold encE at h
 by_cases h0:valE qs≠0
 case pos=>rw [if_pos h0] at h;exact absurd h h0
 rw [if_neg h0] at h
 by_cases h1:qd4 (tmsQ qs)≠0
 case pos=>rw [if_pos h1] at h;exact absurd h h1
 rw [if_neg h1] at h
 by_cases h2:most<((pkB qs).length:Int)∨67108864<(pkB qs).length
 case pos=>rw [if_pos h2] at h;cases h
 exact ⟨Classical.not_not.1 h0,Classical.not_not.1 h1,by omega,by omega⟩
theorem q7e (a b c:LB):a.length+b.length+c.length≤(jo3 a b c).length:=by
 rw [jo3];simp only [zla];omega
theorem q33 (hn:(tmsQ qs).length≤4194304) (h:encE qs most=0):EncOk (tmsQ qs) qs:=by
 obtain ⟨h1,h2,_,h4⟩:=qp2 h;rw [qkw] at h4;refine q54 h1 hn ⟨fun k hk=>qgw (qmo h2 k hk),?_⟩ h4;have:=q7e (qn (secE (tmsQ qs) 0)) (qn (secE (tmsQ qs) 1)) (qn (secE (tmsQ qs) 2));have e:(vocB (tmsQ qs)).length=(jo3 (qn (secE (tmsQ qs) 0)) (qn (secE (tmsQ qs) 1)) (qn (secE (tmsQ qs) 2))).length:=rfl;omega
theorem EncOk.pk {T:List TM} (h:EncOk T qs):encP T qs=pkB qs:=by rw [pkB,← h.terms]
theorem EncOk.encE {T:List TM} (h:EncOk T qs) (hm:((pkB qs).length:Int)≤most):encE qs most=0:=by
 have e:=h.terms;refine qr4 h.val (qpe fun k hk=>?_) ?_
 ·rw [← e];exact qm8 (h.voc.d k hk)
 ·have h2:=h.size;rw [qkw,← e] at hm ⊢;omega
end
def hvT (t:TM):Nat:=20+t.text.size+t.type.size+t.lang.size
def hvQ (q:Q4):Nat:=hvT q.s+hvT q.p+hvT q.o+hvT q.g
set_option maxRecDepth 100000
theorem q6f {l:LB} {id:Nat} {t:TM} (h:qcl l id=some t):TermOk t:=by
 unfold qcl at h
 split at h
 ·cases h;exact ⟨(show InR .i64 0 from ⟨by decide,by decide⟩),Nat.zero_le _,Nat.zero_le _,Nat.zero_le _⟩
 ·split at h
  ·cases h
  ·split at h
   ·rename_i s hs
    have h3:qca l id<3:=by unfold qca;split<;>(try split)<;>omega
    exact q5l h (qjk hs) ⟨by omega,by omega⟩
   ·cases h
theorem qaes (l:LB) (q:Nat→Nat) (j:Nat):TermOk (uT l q j):=by
 unfold uT;cases h:qcl l (q j) with
 | none=>exact ⟨(show InR .i64 0 from ⟨by decide,by decide⟩),Nat.zero_le _,Nat.zero_le _,Nat.zero_le _⟩
 | some t=>exact q6f h
theorem q1l (l:LB) (q:Nat→Nat):qf5 (q4Of l q):=by
 intro k;unfold q4Of Q4.at
 split<;>exact qaes _ _ _
def tz8 (x:Nat):Nat:=if x%2=1 then 0 else if x/2%2=1 then 1 else if x/4%2=1 then 2 else if x/8%2=1 then 3 else if x/16%2=1 then 4 else if x/32%2=1 then 5 else if x/64%2=1 then 6 else if x/128%2=1 then 7 else 8
def hi8 (x t:Nat):Nat:=x/2 ^ t*2 ^ t
theorem qacy {x t:Nat} (h:x<256):hi8 x t<256:=Nat.lt_of_le_of_lt (Nat.div_mul_le_self _ _) h
theorem q4k (x:Nat):hi8 x 0=x:=by simp [hi8]
theorem qabd:∀ x,x<256→∀ t,t<9→hi8 x t≠0→t≤tz8 (hi8 x t)∧tz8 (hi8 x t)<8∧x/2 ^ tz8 (hi8 x t)%2=1∧(hi8 x t) &&&(hi8 x t-1)=hi8 x (tz8 (hi8 x t)+1):=by decide +kernel
theorem qabe:∀ x,x<256→∀ t,t<9→∀ s,s<8→t≤s→s<tz8 (hi8 x t)→x/2 ^ s%2=0:=by decide +kernel
theorem qad5:∀ x,x<256→∀ t,t<9→hi8 x t=0→∀ s,s<8→t≤s→x/2 ^ s%2=0:=by decide +kernel
theorem qrv (d:LB) (b s:Nat) (hs:s<8):bitN d (8*b+s)=(d.getD b 0).toNat/2 ^ s%2:=by
 rw [bitN,show (8*b+s)/8=b by omega,show (8*b+s)%8=s by omega]
theorem qu8 {d:LB} {b t:Nat}:∀ {u:Nat},t≤u→(∀ s,t≤s→s<u→bitN d (8*b+s)=0)→mkD d b u=mkD d b t∧cnt d (8*b+u)=cnt d (8*b+t):=by
 intro u hu
 induction hu with
 | refl=>intro _;exact ⟨rfl,rfl⟩
 | step hu ih=>
  rename_i u
  intro h;obtain ⟨h1,h2⟩:=ih fun s a b=>h s a Oo;have h3:=h u hu Oo;rw [mkD,if_neg (by rw [h3];omega)];refine ⟨h1,?_⟩;show cnt d (8*b+u)+bitN d (8*b+u)=_;rw [h3,h2,Nat.add_zero]
theorem q0r {d:LB} {b t:Nat} (ht:t<9) (h:hi8 (d.getD b 0).toNat t≠0) {u:Nat} (hu:u=tz8 (hi8 (d.getD b 0).toNat t)) :
  t≤u∧u<8∧bitN d (8*b+u)=1∧cnt d (8*b+u)=cnt d (8*b+t)∧mkD d b u=mkD d b t∧(hi8 (d.getD b 0).toNat t) &&&(hi8 (d.getD b 0).toNat t-1)=hi8 (d.getD b 0).toNat (u+1):=by
 obtain ⟨h1,h2,h3,h4⟩:=qabd _ (qac _) t ht h;rw [← hu] at h1 h2 h3 h4;obtain ⟨h5,h6⟩:=qu8 (d:=d) (b:=b) h1 fun s a b'=>by
  rw [qrv _ _ _ Oo];exact qabe _ (qac _) t ht s Oo a (by rw [← hu];exact b')
 exact ⟨h1,h2,by rw [qrv _ _ _ h2];exact h3,h6,h5,h4⟩
theorem q9p {d:LB} {b t:Nat} (ht:t<9) (h:hi8 (d.getD b 0).toNat t=0):mkD d b 8=mkD d b t∧cnt d (8*(b+1))=cnt d (8*b+t):=by
 rcases Nat.lt_or_ge t 8 with h8|h8
 ·exact qu8 (d:=d) (b:=b) (Nat.le_of_lt h8) fun s a b'=>by
   rw [qrv _ _ _ b'];exact qad5 _ (qac _) t ht h s b' a
 ·obtain rfl:t=8:=by omega
  exact ⟨rfl,rfl⟩
theorem qme (d:LB) (A:oA) (l c n:Nat) (w:World) (hS:SlAt encB 1 w A d) (hl:d.length=l) (hd:d.length=upN n 8) (hb:n≤67108864) :
  Gv Tryz.prog 132 [.slice A l c,ii n] w fun v w'=>(∃ b,v=.bool b∧(b=true↔¬ PadB d n))∧w'=w:=by
 have hu:upN n 8=(n+7)/8:=rfl;refine ze Tryz.func132 Tryz.ntmps132 ?_;refine zt ?_;refine zC (fun _=>zu ?_) (fun _=>zu ?_)
 ·exact ⟨⟨true,rfl,⟨fun _ h=>((qn8 hd).1 h).1 Oo,fun _=>rfl⟩⟩,rfl⟩
 have hi:n/8<d.length:=by omega
 refine ElemV.bs hS hl (n/8) Oo Oo ?_;intro eb eo hc;refine zu ?_;refine LoadV.of hc (zu ?_);refine V.Wit.shrN (n%8) Oo (by show n%8<8;omega) (zu ?_);have hg:d.getD (n/8) 0=d[n/8]:=by rw [List.getD_eq_getElem?_getD,zge hi];rfl
 refine ⟨⟨_,rfl,?_⟩,rfl⟩;rw [qn8 hd,hg];obtain ⟨X,eX⟩:∃ X,X=d[n/8].toNat/2 ^ (n%8):=⟨_,rfl⟩
 rw [← eX];simp only [decide_eq_true_eq];omega
theorem qpw (d:LB) (A:oA) (l c:Nat) (w:World) (hS:SlAt encB 1 w A d) (hl:d.length=l) (hb:l≤67108864) :
  Gv Tryz.prog 133 [.slice A l c] w fun v w'=>v=ii (cnt d (8*d.length))∧w'=w:=by
 refine ze Tryz.func133 Tryz.ntmps133 ?_;refine qy (fun i:Nat=>[(3,ii (cnt d (8*i))),(6,.slice A l c),(7,ii l),(8,ii i)]) (fun i w'=>i≤l∧w'=w) (fun i=>l-i) 0 ⟨rfl,rfl,rfl,rfl,trivial⟩ ⟨Nat.zero_le _,rfl⟩ ?_;rintro i w1 ρ' ⟨i1,rfl⟩;have hc8:=qe0 d (8*i);(conv=>whnf);refine zC (fun _=>zw ?_) (fun _=>zw ?_)
 ·have hi:i<d.length:=by omega
  refine ElemV.bs hS hl i rfl Oo ?_;intro eb eo hc;(conv=>whnf);refine LoadV.of hc (zw ?_);refine zcv (qko d[i].toNat _ (qac _)) ?_;rintro r w2 ⟨rfl,rfl⟩;have h8:qe2 d[i].toNat≤8:=by unfold qe2;omega
  have hs:cnt d (8*(i+1))=cnt d (8*i)+qe2 d[i].toNat:=by
   have:=qul d i 1;rw [this,qaz,qaz,Nat.add_zero,List.getD_eq_getElem?_getD,zge hi,Nat.zero_add];rfl
  refine zu ?_;exact ⟨i+1,⟨by rw [hs];exact congrArg (Value.int .i64) Oo,rfl,rfl,rfl,trivial⟩,⟨by omega,rfl⟩,by omega⟩
 ·obtain rfl:i=l:=by omega
  exact ⟨by rw [hl],rfl⟩
theorem qabc (x:Nat) (w:World) (hx:x<256):Gv Tryz.prog 189 [.int .u8 x] w fun r w'=>r=ii (tz8 x)∧w'=w:=by
 refine ze Tryz.func189 Tryz.ntmps189 ?_;refine IdxV.nat (by show x<256;exact hx) (zw ?_);refine Wit.conv (qa7 (Nat.lt_of_lt_of_le (qac _) Od)) (zw ?_);refine ⟨congrArg (Value.int .i64) (congrArg Int.ofNat ?_),rfl⟩;clear w
 revert x
 decide +kernel
theorem ah8 (d:LB) (b:Nat):ahN d (8*(b+1))=cnt d (2048*(8*b/2048)):=by
 rw [ahN,if_neg Oo,show (8*(b+1)-1)/2048=8*b/2048 by omega]
theorem ah8' (d:LB) (b:Nat) (h:8*b%2048≠0):ahN d (8*b)=cnt d (2048*(8*b/2048)):=by
 rw [ahN,if_neg Oo,show (8*b-1)/2048=8*b/2048 by omega]
theorem qua (x:Nat) (h:x<256) (h0:x≠0):qee .and .u8 (x:Int) ((x:Int)-1)=((x &&&(x-1):Nat):Int):=by
 have e:(x:Int)-1=((x-1:Nat):Int):=by omega
 rw [e];exact qmx (qez h) (qez Oo)
theorem qgx (d:LB) (A:oA) (l c n:Nat) (w:World) (hl:d.length=l) (hd:d.length=upN n 8) (hb:n≤67108864) (g:FuncId) (c1 c2:Value) (I:List (Nat × Nat × Nat)→World→Prop)
  (hIx:∀ L w',I L w'→SlAt encB 1 w' A d) (h0:I [] w)
  (ht:∀ L x w',I L w'→x∈dirD d (upN n 8)→Gv Tryz.prog g [ii x.1,ii x.2.1,ii x.2.2,c1,c2] w' fun r w''=>r=.bool true∧I (L++[x]) w'') :
  Gv Tryz.prog 136 [.slice A l c,ii n,.func (.func g) #[] #[c1,c2]] w fun r w'=>r=.bool true∧I (dirD d (upN n 8)) w':=by
 have hu:upN n 8=(n+7)/8:=rfl;refine ze Tryz.func136 Tryz.ntmps136 ?_;refine qy (fun b:Nat=>[(0,.slice A l c),(1,ii n),(2,.func (.func g) #[] #[c1,c2]),(7,ii (cnt d (8*b))),(8,ii (ahN d (8*b))),(9,ii (8*b:Nat))]) (fun b w'=>b≤upN n 8∧I (dirD d b) w') (fun b=>upN n 8-b) 0
  ⟨rfl,rfl,rfl,rfl,rfl,rfl,trivial⟩ ⟨Nat.zero_le _,h0⟩ ?_
 rintro b w1 ρ' ⟨b1,hI⟩;have hcb:=qe0 d (8*b);have hcm:cnt d (2048*(8*b/2048))≤cnt d (8*b):=qgr Oo;have hnext:∀ {x},b<upN n 8→x∈grD d b∨x∈smD d b∨x∈mkD d b 8→x∈dirD d (upN n 8):=fun hbn hx=>qeo.2 ⟨b,hbn,hx⟩
 (conv=>whnf)
 (repeat' (first|refine zp ?_|refine zC (fun _=>zw ?_) (fun _=>zw ?_)))
 case' refine_1.refine_1=>
  have hbn:b<upN n 8:=by omega
  have hbl:b<d.length:=by omega
  rw [show ((8*b:Nat):Int)/2048=((8*b/2048:Nat):Int) by omega];have hgr:grD d b=[(2048,8*b/2048,cnt d (8*b))]:=by rw [grD,if_pos Oo]
  have hsm:smD d b=[(256,8*b/256,cnt d (8*b)-cnt d (2048*(8*b/2048)))]:=by rw [smD,if_pos Oo]
  have ha:cnt d (8*b)=cnt d (2048*(8*b/2048)):=by rw [show 2048*(8*b/2048)=8*b by omega]
  refine zcv (ht (dirD d b) (2048,8*b/2048,cnt d (8*b)) w1 hI (hnext hbn (.inl (by rw [hgr];exact List.mem_singleton.2 rfl)))) ?_;rintro r w2 ⟨rfl,hI2⟩;rw [← hgr] at hI2;refine zu ?_;rw [show ((8*b:Nat):Int)/256=((8*b/256:Nat):Int) by omega,show (cnt d (8*b):Int)-(cnt d (8*b):Int)=((cnt d (8*b)-cnt d (2048*(8*b/2048)):Nat):Int) by omega];refine zcv (ht (dirD d b++grD d b) (256,8*b/256,cnt d (8*b)-cnt d (2048*(8*b/2048))) w2 hI2 (hnext hbn (.inr (.inl (by rw [hsm];exact List.mem_singleton.2 rfl))))) ?_;rintro r w3 ⟨rfl,hI3⟩;rw [← hsm,List.append_assoc] at hI3;refine zu ?_
 case' refine_1.refine_2.refine_1=>
  have hbn:b<upN n 8:=by omega
  have hbl:b<d.length:=by omega
  have hgr:grD d b=[]:=by rw [grD,if_neg Oo]
  have hsm:smD d b=[(256,8*b/256,cnt d (8*b)-cnt d (2048*(8*b/2048)))]:=by rw [smD,if_pos Oo]
  have ha:=ah8' d b Oo;refine zv ?_;rw [show ((8*b:Nat):Int)/256=((8*b/256:Nat):Int) by omega,show (cnt d (8*b):Int)-(ahN d (8*b):Int)=((cnt d (8*b)-cnt d (2048*(8*b/2048)):Nat):Int) by omega];refine zcv (ht (dirD d b) (256,8*b/256,cnt d (8*b)-cnt d (2048*(8*b/2048))) w1 hI (hnext hbn (.inr (.inl (by rw [hsm];exact List.mem_singleton.2 rfl))))) ?_;rintro r w3 ⟨rfl,hI3⟩;rw [← hsm,← List.nil_append (smD d b),← hgr] at hI3;refine zu ?_
 case' refine_1.refine_2.refine_2=>
  have hbn:b<upN n 8:=by omega
  have hbl:b<d.length:=by omega
  have hgr:grD d b=[]:=by rw [grD,if_neg Oo]
  have hsm:smD d b=[]:=by rw [smD,if_neg Oo]
  have ha:=ah8' d b Oo;have hI3:I (dirD d b++(grD d b++smD d b)) w1:=by rw [hgr,hsm,List.append_nil,List.append_nil];exact hI
 case' refine_2=>
  obtain rfl:b=upN n 8:=by omega
  exact ⟨rfl,hI⟩
 all_goals
  refine ElemV.bs (hIx _ _ hI3) hl b Oo Oo ?_;intro eb eo hc;(conv=>whnf);refine LoadV.of hc (zw ?_);have hX:d[b]=d.getD b 0:=by rw [List.getD_eq_getElem?_getD,zge hbl];rfl
  refine qy (fun t:Nat=>[(0,.slice A l c),(1,ii n),(2,.func (.func g) #[] #[c1,c2]),(7,ii (cnt d (8*b+t))),(8,ii (cnt d (2048*(8*b/2048)))),(9,ii (8*b:Nat)),(10,.int .u8 (hi8 (d.getD b 0).toNat t))])
   (fun t w'=>t≤8∧I (dirD d b++(grD d b++(smD d b++mkD d b t))) w') (fun t=>9-t) 0
   ⟨rfl,rfl,rfl,rfl,congrArg (fun n:Nat=>ii n) ha,rfl,congrArg (fun n:Nat=>Value.int .u8 n) (by rw [q4k,hX]),trivial⟩ ⟨Nat.zero_le _,by rw [mkD,List.append_nil];exact hI3⟩ ?_
  rintro t w4 ρ2 ⟨t8,hI4⟩;have hlt:=qacy (t:=t) (qac (d.getD b 0));have hct:=qe0 d (8*b+t);conv=>whnf
  (repeat' (first|refine zp ?_|refine zC (fun _=>zw ?_) (fun _=>zw ?_)))
  ·rename_i hz h5
   obtain ⟨m1,m2,m3,m4,m5,m6⟩:=q0r (d:=d) (b:=b) (t:=t) Oo Oo rfl;obtain ⟨u,eu⟩:∃ u,u=tz8 (hi8 (d.getD b 0).toNat t):=⟨_,rfl⟩
   have hq:=qabc (hi8 (d.getD b 0).toNat t);rw [← eu] at m1 m2 m3 m4 m5 m6 hq;have hc1:cnt d (8*b+(u+1))=cnt d (8*b+t)+1:=by rw [show 8*b+(u+1)=8*b+u+1 from rfl,cnt,m3,m4]
   have hmk:mkD d b (u+1)=mkD d b t++[(512,cnt d (8*b+t)/512,8*b+u)]:=by rw [mkD,if_pos ⟨m3,by omega⟩,m5,m4]
   rw [show (cnt d (8*b+t):Int)/512=((cnt d (8*b+t)/512:Nat):Int) by omega];refine zcv (hq w4 hlt) ?_;rintro r w5 ⟨rfl,rfl⟩;refine zu ?_;rw [show ((8*b:Nat):Int)+(u:Int)=((8*b+u:Nat):Int) by omega];refine zcv (ht _ (512,cnt d (8*b+t)/512,8*b+u) w5 hI4 (hnext hbn (.inr (.inr (qij.2 ⟨u,m2,m3,by omega,by rw [m4]⟩))))) ?_;rintro r w6 ⟨rfl,hI6⟩;rw [List.append_assoc,List.append_assoc,List.append_assoc,← hmk] at hI6;refine zu ?_;refine Wit.eq (qua _ hlt Oo) ?_;rw [m6];(conv=>whnf);exact ⟨u+1,⟨rfl,rfl,rfl,by rw [hc1];rfl,rfl,rfl,rfl,trivial⟩,⟨by omega,hI6⟩,by omega⟩
  ·rename_i hz h5
   obtain ⟨m1,m2,m3,m4,m5,m6⟩:=q0r (d:=d) (b:=b) (t:=t) Oo Oo rfl;obtain ⟨u,eu⟩:∃ u,u=tz8 (hi8 (d.getD b 0).toNat t):=⟨_,rfl⟩
   rw [← eu] at m1 m2 m3 m4 m5 m6;have hc1:cnt d (8*b+(u+1))=cnt d (8*b+t)+1:=by rw [show 8*b+(u+1)=8*b+u+1 from rfl,cnt,m3,m4]
   have hmk:mkD d b (u+1)=mkD d b t:=by rw [mkD,if_neg Oo,m5]
   refine Wit.eq (qua _ hlt Oo) ?_;rw [m6];(conv=>whnf);exact ⟨u+1,⟨rfl,rfl,rfl,by rw [hc1];rfl,rfl,rfl,rfl,trivial⟩,⟨by omega,by rw [hmk];exact hI4⟩,by omega⟩
  ·obtain ⟨m1,m2⟩:=q9p (d:=d) (b:=b) (t:=t) Oo Oo;exact ⟨b+1,⟨rfl,rfl,rfl,by rw [m2];rfl,by rw [ah8];rfl,congrArg (Value.int .i64) Oo,trivial⟩,⟨by omega,by rw [dirD,m1];exact hI4⟩,by omega⟩
namespace V
theorem Rw.permL {w0 w:World} {v:Value} {e:TypeId} {size n:Nat} {xs:List Value} {L L':List (Nat × Obj)} (h:Rw w0 w v e size n xs L) (hp:L'.Perm L):Rw w0 w v e size n xs L':=⟨h.mem.perm hp,h.own,fun x hx=>h.apart x (hp.mem_iff.1 hx)⟩
theorem Rw.subL {w0 w:World} {v:Value} {e:TypeId} {size n:Nat} {xs:List Value} {L L':List (Nat × Obj)} (h:Rw w0 w v e size n xs L) (hs:L'.Sublist L):Rw w0 w v e size n xs L':=⟨h.mem.sub hs,h.own,fun x hx=>h.apart x (hs.subset hx)⟩
theorem Carr.rw {σ:Type} {w0:World} {e:TypeId} {size:Nat} (A:σ→Prop) (v:σ→Value) (n:σ→Nat) (xs:σ→List Value) (L:σ→List (Nat × Obj)):Carr fun X w=>∃ s,A s∧Rw w0 w (v s) e size (n s) (xs s) (X++L s):=by
 refine ⟨?_,?_,?_,?_,?_,?_⟩
 ·rintro X w w' ⟨s,hs,hm⟩ he;exact ⟨s,hs,hm.call he⟩
 ·rintro X w b o ⟨s,hs,hm⟩ hx;exact hm.mem.get (List.mem_append_left _ hx)
 ·rintro X w o ⟨s,hs,hm⟩;exact ⟨s,hs,hm.newBlk rfl rfl⟩
 ·rintro X w b o o' ⟨s,hs,hm⟩;exact ⟨s,hs,hm.setO (i:=0) o' rfl rfl⟩
 ·rintro X w x ⟨s,hs,hm⟩;exact ⟨s,hs,hm.subL (List.sublist_cons_self ..)⟩
 ·rintro X Y w ⟨s,hs,hm⟩ hp;exact ⟨s,hs,hm.permL (hp.symm.append_right _)⟩
end V
def tAgg (l:LB) (i:Nat):Value:=.agg #[ii (tNum l i 0),ii (tNum l i 1),ii (tNum l i 2),ii (tNum l i 3)]
def tRow (l:LB) (i:Nat):List Value:=[ii i,tAgg l i]
def TreΦ (b:Nat) (l:LB) (b1 b2:Nat) (w:World):Prop:=TreeAt w b l∧w.cell? ⟨b1,0,none⟩=some (ii 0)∧w.cell? ⟨b2,0,none⟩=some (pp b)
theorem qri (b:Nat) (l:LB) (b1 b2:Nat) (hok:∀ i,i<vNum l 3→tOk l i=true) :
  SeqV Tryz.prog 90 [pp b1,pp b2] ((List.range (vNum l 3)).map (tRow l)) (TreΦ b l b1 b2):=by
 intro l' I Ix w hI sI sIx h0 hy;obtain ⟨h,h1,h2⟩:=hI 0 w h0;have hn:=h.n 3 Oo;have hxs:((List.range (vNum l 3)).map (tRow l)).length=vNum l 3:=by simp
 refine gvW Jk Tryz.func90 rfl Tryz.ntmps90 rfl (zw ?_);refine LoadV.of h1 (zw ?_);refine V.Fall.max2 rfl rfl rfl fun m hm=>?_;obtain rfl:m=0:=by omega
 (conv=>whnf);refine qwu (fun i:Nat=>[(0,.func (.yield l') #[] #[]),(1,pp b1),(2,pp b2),(4,ii i)])
  (fun i w'=>i≤vNum l 3∧I i w') (fun i=>vNum l 3-i) 0 ⟨rfl,rfl,rfl,rfl,trivial⟩ ⟨by omega,h0⟩ ?_
 rintro i w1 ρ' ⟨hi,hIi⟩;obtain ⟨hD1,hc1,hc2⟩:=hI i w1 hIi;have hend:i=vNum l 3→I ((List.range (vNum l 3)).map (tRow l)).length w1:=fun e=>by rw [hxs,← e];exact hIi
 (conv=>whnf);refine LoadV.of hc2 (zw ?_);refine zcv (qov b l w1 hD1) ?_;rintro v w2 ⟨rfl,rfl⟩;(conv=>whnf);refine zC (fun _=>zw ?_) (fun _=>zw ?_)
 ·refine LoadV.of hc2 (zw ?_);refine zcv (q53 b l i w2 hD1 Oo) ?_;rintro v w3 ⟨rfl,he3⟩;have hlt:i<vNum l 3:=by omega
  rw [qgm,if_pos ⟨hlt,hok i hlt⟩];(conv=>whnf);refine znm (Mem.nil w3) fun b5 w4 hm=>zw ?_;refine zS hm 0 fun w5 hm=>zu ?_;refine zl hm 0 ?_;refine zv ?_;refine YieldV.mono (hy i (tRow l i) w5 ?_ (sI _ _ _ hIi (he3.trans hm.ext))) ?_
  ·rw [List.getElem?_map,List.getElem?_range hlt,Option.map_some]
  rintro v w6 (⟨rfl,hI6⟩|⟨rfl,hX⟩)
  ·refine zu ?_;refine ⟨rfl,i+1,⟨rfl,rfl,rfl,?_,trivial⟩,⟨by omega,hI6⟩,by omega⟩;show ii _=ii _
   congr 1
  ·refine zu ?_;exact .inr ⟨i,by rw [hxs];exact hlt,hX⟩
 ·exact .inl (hend Oo)
theorem qrh (b:Nat) (w:World):Gv Tryz.prog 43 [pp b,ii 0] w fun r w'=>
  ∃ b1 b2,r=.func (.func 90) #[] #[pp b1,pp b2]∧Mem w w' [(b1,.cells #[ii 0] 3),(b2,.cells #[pp b] 96)]:=by
 refine ze Tryz.func43 Tryz.ntmps43 ?_;refine znm (Mem.nil w) fun b1 w1 hm=>zw ?_;refine znm hm fun b2 w2 hm=>zw ?_;exact ⟨b2,b1,rfl,hm⟩
open Go.RowKit
namespace V
section
variable {P:Program} {n:Nat} {r:Option Nat}
theorem qaas {row:String} {args:Array Value} {w:World} {R:Value→World→Prop} (h:Rows P row args w R):RowsIn (Fr r) 0 P row args w R:=fun c cs _=>by
 obtain ⟨v,w',hr,s⟩:=h c cs;exact ⟨v,w',hr,(stepsIn_wide.2 s:StepsIn (Machine.fenced P Fence.wide) P _ _)⟩
theorem qx8 {o:Oper} (hnd:r=none∨∀ c,o.op≠.defer c) {a:Act} {ds:List Deferred} {w:World} {K K2:Act→World→Prop} {Q Q2:Exit→Act→World→Prop} (hQ:∀ e a w,Q e a w→e=.normal)
  (hK:∀ a w,K a w→K2 { a with defers:=a.defers++ds } w) (h:o.wp P a w K Q):o.wpIn (Fr r) 0 P { a with defers:=a.defers++ds } w K2 Q2:=by
 refine ⟨fun _ _=>trivial,?_⟩;have he:({ a with defers:=a.defers++ds }:Act).eval=a.eval:=by funext x;cases x<;>rfl
 have hs:o.semAt (Fr r).round a.eval=execOp a.eval o:=by
  rcases hnd with rfl|hnd
  ·exact Oper.semAt_none _ _
  ·exact Oper.semAt_eq _ _ _ hnd
 rw [he,hs];unfold Oper.wp at h;have hp:∀ v,({ a with defers:=a.defers++ds }:Act).put o.dst v={ a.put o.dst v with defers:=(a.put o.dst v).defers++ds }:=fun v=>by cases o.dst<;>rfl
 generalize (execOp a.eval o).run P w=res at h;cases res with
 | ok nx w'=>
  cases nx with
  | value v=>show K2 _ _;rw [hp];exact hK _ _ h
  | skip=>show K2 _ _;rw [hp];exact hK _ _ h
  | defer d=>
   have h1:=hK _ _ h;show K2 _ _;cases hd:o.dst with
   | none=>rw [hd] at h1;exact h1
   | some t=>rw [hd] at h1;exact h1
  | enter f args=>
   refine ⟨fun h=>by simp [Fr] at h,qc7.2 (Calls.mono h fun e w'' he=>?_)⟩;cases e with
   | returned v=>dsimp only at he ⊢;rw [hp];exact hK _ _ he
   | panicked ch=>have:=hQ _ _ _ he;cases this
   | outgrown=>obtain ⟨a',w',hq⟩:=he;have:=hQ _ _ _ hq;cases this
  | row row args=>
   refine ⟨fun h=>by simp [Fr] at h,qaas (Rows.mono h fun v w'' he=>?_)⟩;rw [hp];exact hK _ _ he
  | _=>exact h.elim
 | halt x w'=>
  cases x with
  | panic v=>have:=hQ _ _ _ h;cases this
  | _=>exact h.elim
def q9u (ops:List Oper):Bool:=ops.all fun o=>match o.op with
 | .defer _=>false
 | _=>true
theorem q40 {ops:List Oper} (h:q9u ops=true) {o:Oper} (ho:o∈ops):∀ c,o.op≠.defer c:=by
 intro c e;have:=List.all_eq_true.1 h o ho;rw [e] at this;cases this
theorem qt5 {ops:Array Oper} (hnd:r=none∨q9u ops.toList=true) {ds:List Deferred} {Q Q2:Exit→Act→World→Prop} (hQ:∀ e a w,Q e a w→e=.normal)
  (hk:∀ a w,Q .normal a w→Q2 .normal { a with defers:=a.defers++ds } w):∀ (fuel:Nat) (listed:Array Bool) (a:Act) (w:World),wpAny P .any ops Q fuel listed a w→
  wpAnyIn (Fr r) 0 P .any ops Q2 fuel listed { a with defers:=a.defers++ds } w
 | 0,_,_,_,h=>⟨h.1,hk _ _ h.2⟩
 | fuel+1,listed,a,w,h=>by
  refine ⟨fun hr=>hk _ _ (h.1 hr),fun i hi=>?_⟩;have h1:=h.2 i hi;unfold wpOp at h1;unfold wpOpIn;cases ho:ops[i]? with
  | none=>rw [ho] at h1;exact qt5 hnd hQ hk fuel _ _ _ h1
  | some o=>
   rw [ho] at h1;dsimp only at h1 ⊢;have hno:r=none∨∀ c,o.op≠.defer c:=hnd.imp_right fun hn=>q40 hn (Array.mem_toList_iff.2 (Array.mem_of_getElem? ho))
   split
   ·rename_i hw
    rw [if_pos hw] at h1
    rcases h1 with h1|⟨_,a',w',hq⟩
    ·exact qx8 hno hQ (fun a w h=>qt5 hnd hQ hk fuel _ a w h) h1
    ·have:=hQ _ _ _ hq;cases this
   ·rename_i hw
    rw [if_neg hw] at h1;refine ⟨fun _ _=>trivial,?_⟩;have hp:({ a with defers:=a.defers++ds }:Act).put o.dst undef={ a.put o.dst undef with defers:=(a.put o.dst undef).defers++ds }:=by cases o.dst<;>rfl
    rw [hp];exact qt5 hnd hQ hk fuel _ _ _ h1
structure AnyV (P:Program) (n:Nat) (ops:Array Oper) (R:(Nat→Value)→World→Prop) (ρ:Nat→Value) (w:World):Prop where
 h:∀ a,St n ρ a→wpAny P .any ops (fun e a' w'=>e=.normal∧∃ ρ',St n ρ' a'∧R ρ' w') ops.size (Array.replicate ops.size false) a w.drew
theorem DrawW.any {id:Nat} {ops:Array Oper} {Q:QW} {ρ:Nat→Value} {ds:List Deferred} {w:World} (hm:P.follows .mixedOrders=true) (hnd:r=none∨q9u ops.toList=true)
  (h:AnyV P n ops (fun ρ' w'=>Q .normal ρ' ds w') ρ w):DrawW P n r id ops Q ρ ds w:=by
 refine ⟨fun a ha hd=>wpIn_region_any hm ?_⟩;have e:a={ ({ a with defers:=[] }:Act) with defers:=({ a with defers:=[] }:Act).defers++ds }:=by subst hd;rfl
 have h1:=qt5 (r:=r) (ds:=ds) (Q2:=qig n Q) hnd (fun _ _ _ h=>h.1) (fun a' w' h=>?_) _ _ _ _ (h.h { a with defers:=[] } ha)
 ·rw [← e] at h1;exact h1
 ·obtain ⟨_,ρ',hs,hq⟩:=h;have hd':a'.defers++ds=ds:=by rw [hs.defers];rfl
  refine ⟨ρ',?_,?_⟩
  ·show St n ρ' { a' with defers:=[] };have:({ a' with defers:=[] }:Act)=a':=by have:=hs.defers;cases a';cases this;rfl
   rw [this];exact hs
  ·show Q .normal ρ' (a'.defers++ds) w';rw [hd'];exact hq
theorem AnyV.free {ops:Array Oper} {R:(Nat→Value)→World→Prop} {ρ:Nat→Value} {w:World} (hB:qhl n ops=true) (h:regD P ops.toList w.drew R ops.toList 0 [] ρ):AnyV P n ops R ρ w:=by
 refine ⟨fun a ha=>?_⟩;obtain ⟨E,h1,h2,h3⟩:=qoi ops.toList [] [] ρ (fun k=>rfl) h;refine qmq (Q:=R) (E:=E) (w0:=w.drew) (ρ:=ρ) (fun ρ a w h1 h2=>⟨rfl,ρ,h1,h2⟩) (qdh hB) (by simpa using h1) (fun i o e ho he=>?_) (by simpa using h3) _ _ (fun _=>undef) ρ a _ Js Js ⟨xr,ha,?_,?_,fun t _=>rfl⟩
 ·have:=h2 i o e (by simpa using ho) he
  simpa using this
 ·intro k hk;rw [qd] at hk;cases hk
 ·intro k hk;rw [qd] at hk;cases hk
theorem AnyV.gen {ops:Array Oper} {R:(Nat→Value)→World→Prop} {ρ:Nat→Value} {w:World} (I:(Nat→Bool)→(Nat→Value)→World→Prop) (hB:qhl n ops=true)
  (h0:∀ vals,I (fun j=>Nat.ble ops.size j) vals w.drew) (h:regG P ops.toList I R ops.toList 0 [] ρ):AnyV P n ops R ρ w:=by
 refine ⟨fun a ha=>?_⟩;obtain ⟨E,h1,h2,h3⟩:=qoj ops.toList [] [] ρ (AgreeG.mk (fun _ _ h=>by cases h) (fun _ _ _ h=>by simp at h)) h;refine qrt (I:=I) (Q:=R) (E:=E) (w0:=w.drew) (ρ:=ρ) (fun ρ a w h1 h2=>⟨rfl,ρ,h1,h2⟩) (qdh hB) (by simpa using h1) (fun i o e ho he=>?_) (by simpa using h3) _ _ (fun _=>undef) ρ a _ Js Js ⟨xr,ha,?_,?_,fun t _=>rfl⟩ ?_
 ·have:=h2 i o e (by simpa using ho) he
  simpa using this
 ·intro k hk;rw [qd] at hk;cases hk
 ·intro k hk;rw [qd] at hk;cases hk
 ·have:(fun j=>(Array.replicate ops.size false).getD j true)=fun j=>Nat.ble ops.size j:=by
   funext j
   rcases Nat.lt_or_ge j ops.size with hj|hj
   ·have h2:Nat.ble ops.size j=false:=Bool.eq_false_iff.2 fun e=>by have:=Nat.le_of_ble_eq_true e;omega
    simp [hj,h2]
   ·rw [Nat.ble_eq_true_of_le hj];simp [hj]
  rw [this];exact h0 _
theorem q7i {α:Type} (l:α→List (Nat × Value)) (d:α→List Deferred) (I:α→World→Prop) (μ:α→Nat) {body:Code} {Q:QW} {ρ:Nat→Value} {ds:List Deferred} {w:World} (x0:α)
  (h0:qj0 (l x0) ρ) (hd0:ds=d x0) (hI:I x0 w)
  (hr:∀ x w ρ',I x w→qgs P n r body (seqW (fun ρ'' ds'' w'=>∃ x',qj0 (l x') ρ''∧ds''=d x'∧I x' w'∧μ x'<μ x) Q) (over (l x) ρ') (d x) w):LoopW P n r body Q ρ ds w:=by
 subst hd0;refine ⟨fun a ha hd=>?_⟩;intro b k cs hro hb hroom;have key:∀ m x,μ x=m→∀ ρ a w,qj0 (l x) ρ→Sw n ρ a→a.defers=d x→I x w→
   ∃ e a' w',qig n Q e a' w'∧ArrivesIn (Machine.fenced P (Fr r)) P (lone (b.atR a (.code body::.inLoop body::k)) cs w) b k cs e a' w':=by
  intro m
  induction m using Nat.strongRecOn with
  | _ m ih=>
   intro x hm ρ a w hag hst hds hI;have h1:=hr x w ρ hI;rw [qkq hag] at h1;obtain ⟨e,a₁,w₁,hq,harr⟩:=qeg body _ _ _ _ h1 a hst hds b (.inLoop body::k) cs hro hb hroom;obtain ⟨ρ₁,hst₁,hq⟩:=hq;cases e with
   | normal=>
    obtain ⟨x',hag',hds',hI',hlt⟩:=hq;obtain ⟨e₂,a₂,w₂,hq₂,harr₂⟩:=ih (μ x') (hm ▸ hlt) x' rfl ρ₁ a₁ w₁ hag' hst₁ hds' hI';exact ⟨e₂,a₂,w₂,hq₂,.of_steps (StepsIn.trans harr (.one (fenced_calm hb hroom rfl) stepR_inLoop)) harr₂⟩
   | exit id=>exact ⟨_,a₁,w₁,⟨ρ₁,hst₁,hq⟩,.pass (x:=.inLoop body) rfl (fun _ _=>.inl Js) harr⟩
   | goto l=>exact ⟨_,a₁,w₁,⟨ρ₁,hst₁,hq⟩,.pass (x:=.inLoop body) rfl (fun _ _=>.inl Js) harr⟩
   | ret=>exact ⟨_,a₁,w₁,⟨ρ₁,hst₁,hq⟩,.pass (x:=.inLoop body) rfl (fun _ _=>.inl Js) harr⟩
   | panic ch=>exact ⟨_,a₁,w₁,⟨ρ₁,hst₁,hq⟩,.pass (x:=.inLoop body) rfl (fun _ _=>.inl Js) harr⟩
   | outgrown=>exact ⟨_,a₁,w₁,⟨ρ₁,hst₁,hq⟩,.pass (x:=.inLoop body) rfl (fun _ _=>.inl Js) harr⟩
 obtain ⟨e,a',w',hq,harr⟩:=key _ x0 rfl ρ a w h0 ha hd hI;exact ⟨e,a',w',hq,.of_steps (.one (fenced_calm hb hroom rfl) stepR_loop) harr⟩
structure BeginA (J:List (Nat × Obj)→World→Prop) (l:Nat) (ob ob':Obj) (w:World) (ds:List Deferred) (K:World→Prop):Prop where
 d:ds=[]
 h:∃ Y,J ((l,ob)::Y) w∧∀ w2,J ((l,ob')::Y) w2→K w2
theorem q7q {f:Operand} {ps:Array Tmp} {assign body:Code} {Q:QW} {ρ:Nat→Value} {ds:List Deferred} {w:World} {Φ:World→Prop} {gf:FuncId} {lb:List Value} {xs:List (List Value)}
  (hf:ev ρ f=.func (.func gf) #[] lb.toArray) (he:qd5 P gf=true) (hseq:SeqC P gf lb xs Φ) (hpn:ps.toList.all (Nat.blt · n)=true) (hps:∀ x∈xs,x.length=ps.size)
  (J:Nat→List (Nat × Obj)→World→Prop) (Jx:Code→Nat→List (Nat × Obj)→World→Prop) (hJ:∀ k,Carr (J k)) (hJx:∀ c k,Carr (Jx c k)) (hw:∀ k X w,J k X w→Φ w) (h0:J 0 [] w)
  (hbody:∀ l D ob ob' k x X w1,xs[k]?=some x→J k ((l,ob)::(D,.deferred (some []))::X) w1→
   qgs P n (some l) assign (qadi fun ρ1 ds1 w1'=>BeginA (J k) l ob ob' w1' ds1
    (fun w2=>qgs P n (some l) body (q7r (J (k+1) ((l,ob')::(D,.deferred (some []))::X)) (fun c=>Jx c k ((l,ob')::(D,.deferred (some []))::X))) ρ1 [] w2)) (qxq ps.toList x ρ) [] w1)
  (hdone:∀ D w',J xs.length [(D,.deferred (some []))] w'→Q .normal ρ ({ target:=.collected D,args:=#[] }::ds) w')
  (hstop:∀ D c k w',k<xs.length→Jx c k [(D,.deferred (some []))] w'→qadz c Q ρ ({ target:=.collected D,args:=#[] }::ds) w'):RangeW P n none f ps assign body Q ρ ds w:=by
 refine ⟨fun a ha hd=>?_⟩;subst hd;refine wpIn_rangeFunc ?_;intro fn hfn;obtain ⟨rec,hrec⟩:∃ rec:LoopState→Option Code→Loop,rec=fun st pe=>{ state:=st,pending:=pe,fn,tmps:=a.tmps,params:=ps,assign,body,defers:=w.heap.size }:=⟨_,rfl⟩
 obtain ⟨W1,hW1⟩:∃ W1,(w.alloc (.deferred (some []))).alloc (.loop (rec .ready none))=W1:=⟨_,rfl⟩
 have hD:=(hJ 0).new (.deferred (some [])) h0;have hL:=(hJ 0).new (.loop (rec .ready none)) hD;rw [hW1,World.size_alloc] at hL;refine ⟨w.heap.size+1,[{ target:=.collected w.heap.size,args:=#[] }],W1,{ target:=.fn (.func gf) lb.toArray,args:=#[.func (.yield (w.heap.size+1)) #[] #[]] },W1,gf,
  #[.func (.yield (w.heap.size+1)) #[] #[]]++lb.toArray,W1,?_,?_,fun _ _=>trivial,?_,fun h=>by simp [Fr] at h,?_⟩
 ·rw [← hW1,hrec];exact run_enterLoop_outer _ _ _ _ _
 ·have:a.eval f=.func (.func gf) #[] lb.toArray:=by rw [ha.eval,hf]
  simp only [resolve,this];simp [go_sem]
 ·simp only [invoke];exact qcz he _
 ·have ea:#[Value.func (.yield (w.heap.size+1)) #[] #[]]++lb.toArray=(Value.func (.yield (w.heap.size+1)) #[] #[]::lb).toArray:=by rw [← Array.toList_inj];simp
  rw [ea];refine qc7.2 ((hseq (w.heap.size+1) (fun k X W=>J k (X++[(w.heap.size+1,.loop (rec .ready none)),(w.heap.size,.deferred (some []))]) W)
   (fun k X W=>∃ c,Jx c k (X++[(w.heap.size+1,.loop (rec .done (some c))),(w.heap.size,.deferred (some []))]) W) W1
   (fun k=>(hJ k).tail _) (fun k=>Carr.any fun c=>(hJx c k).tail _) (fun k X W h=>hw _ _ _ h) hL ?_).2.mono ?_)
  ·intro k x X W hx hk;replace hk:=(hJ k).perm hk List.perm_append_comm;have hl:=(hJ k).get hk mh;have hy:=run_yield (P:=P) (args:=x.toArray) hl (by rw [hrec];simpa using hps x (zmg hx));rw [hrec] at hy;refine ⟨⟨fn,_,assign,body,hy,roundIn_of_wpIn hfn ?_⟩⟩;have h1:=hbody (w.heap.size+1) w.heap.size _ (.loop { rec .ready none with state:=.busy }) k x X W hx hk;have hz:(ps.zip x.toArray).foldl (fun t (p,v)=>t.setIfInBounds p v) a.tmps=(ps.toList.zip x).foldl (fun t (p,v)=>t.setIfInBounds p v) a.tmps:=by
    rw [← Array.foldl_toList];simp
   have hst:Sw n (qxq ps.toList x ρ) { tmps:=(ps.zip x.toArray).foldl (fun t (p,v)=>t.setIfInBounds p v) a.tmps,defers:=[] }:=by
    rw [hz];exact qvr _ _ _ _ hpn ha
   refine Go.wpIn_mono (F:=Fr (some (w.heap.size+1))) (qeg assign _ _ _ _ h1 _ hst rfl) fun e a1 w1 hq=>?_;obtain ⟨ρ1,hst1,hq⟩:=hq;cases e with
   | normal=>
    obtain ⟨hd1,Y,hY,hb1⟩:=hq;have hb1:=hb1 _ ((hJ k).set (.loop { rec .ready none with state:=.busy }) hY);refine ⟨_,run_beginRound ((hJ k).get hY mh) (by rw [hrec]),?_⟩;refine Go.wpIn_mono (F:=Fr (some (w.heap.size+1))) (qeg body _ _ _ _ hb1 _ hst1 hd1) fun e a2 w2 hq=>?_;obtain ⟨ρ2,hst2,hq⟩:=hq;cases e with
    | normal=>
     refine ⟨_,_,run_endRound none ((hJ _).get hq mh),_,rfl,.inl ⟨rfl,?_⟩⟩;have:=(hJ (k+1)).perm ((hJ (k+1)).set (.loop (rec .ready none)) hq) (List.perm_append_comm (l₁:=[_,_]));rw [hrec] at this ⊢;exact this
    | ret=>
     refine ⟨_,_,run_endRound (some .ret) ((hJx _ _).get hq mh),_,rfl,.inr ⟨rfl,.ret,?_⟩⟩;have:=(hJx _ k).perm ((hJx _ k).set (.loop (rec .done (some .ret))) hq) (List.perm_append_comm (l₁:=[_,_]));rw [hrec] at this ⊢;exact this
    | exit id=>
     refine ⟨_,_,run_endRound (some (.exit id)) ((hJx _ _).get hq mh),_,rfl,.inr ⟨rfl,.exit id,?_⟩⟩;have:=(hJx _ k).perm ((hJx _ k).set (.loop (rec .done (some (.exit id)))) hq) (List.perm_append_comm (l₁:=[_,_]));rw [hrec] at this ⊢;exact this
    | goto t=>
     refine ⟨_,_,run_endRound (some (.goto t)) ((hJx _ _).get hq mh),_,rfl,.inr ⟨rfl,.goto t,?_⟩⟩;have:=(hJx _ k).perm ((hJx _ k).set (.loop (rec .done (some (.goto t)))) hq) (List.perm_append_comm (l₁:=[_,_]));rw [hrec] at this ⊢;exact this
    | panic ch=>exact hq.elim
    | outgrown=>exact hq.elim
   | ret=>exact hq.elim
   | exit id=>exact hq.elim
   | goto t=>exact hq.elim
   | panic ch=>exact hq.elim
   | outgrown=>exact hq.elim
  ·rintro e W2 ⟨v,rfl,h|⟨k,hk,c,h⟩⟩
   ·have hl:=(hJ _).get h mh;have:=run_endLoop (P:=P) hl (by rw [hrec];simp);rw [hrec] at this;exact ⟨none,_,this,ρ,ha,hdone _ _ ((hJ _).drop ((hJ _).set _ h))⟩
   ·have hl:=(hJx _ _).get h mh;have:=run_endLoop (P:=P) hl (by rw [hrec];simp);rw [hrec] at this;refine ⟨some c,_,this,?_⟩;have hs:=hstop _ c k _ hk ((hJx _ _).drop ((hJx _ _).set (.loop { rec .done (some c) with state:=.exhausted }) h));rw [hrec] at hs;cases c with
    | ret=>exact Go.wpIn_ret ⟨ρ,ha,hs⟩
    | exit id=>exact Go.wpIn_exit ⟨ρ,ha,hs⟩
    | goto t=>exact Go.wpIn_goto ⟨ρ,ha,hs⟩
    | _=>exact hs.elim
def qlm (D:Nat):Deferred:={ target:=.collected D,args:=#[] }
def qdf (D:Nat):Nat × Obj:=(D,.deferred (some []))
theorem qe9 {fn:Func} {R:Value→World→Prop} {ρ:Nat→Value} {J:List (Nat × Obj)→World→Prop} (hJ:Carr J) (hk:∀ w',J [] w'→resV fn.results ρ w' fn R P n) :
  ∀ (Ds:List Nat) (w:World),J (Ds.map qdf) w→qkh P n fn R ρ (Ds.map qlm) w
 | [],w,h=>hk w h
 | D::Ds,w,h=>by
  show LeaveV P n fn R ρ (qlm D::Ds.map qlm) w;refine LeaveV.mark (hJ.get h mh) fun w' hw=>?_;subst hw;exact qe9 hJ hk Ds _ (hJ.drop (hJ.set _ h))
theorem Carr.setM {J:List (Nat × Obj)→World→Prop} (h:Carr J) {A B:List (Nat × Obj)} {b:Nat} {o:Obj} {w:World} (o':Obj) (k:J (A++(b,o)::B) w):J (A++(b,o')::B) (setO w b o'):=
 h.perm (h.set o' (h.perm k List.perm_middle)) List.perm_middle.symm
theorem LeaveV.marks {fn:Func} {R:Value→World→Prop} {ρ:Nat→Value} {J:List (Nat × Obj)→World→Prop} (hJ:Carr J) (hk:∀ w',J [] w'→resV fn.results ρ w' fn R P n) {D:Nat} {Ds:List Nat} {w:World} (h:J ((D::Ds).map qdf) w) :
  LeaveV P n fn R ρ (qlm D::Ds.map qlm) w:=qe9 hJ hk (D::Ds) w h
theorem Carr.dropM {J:List (Nat × Obj)→World→Prop} (h:Carr J) {A B:List (Nat × Obj)} {x:Nat × Obj} {w:World} (k:J (A++x::B) w):J (A++B) w:=h.drop (h.perm k List.perm_middle)
theorem qq7 {w:World} {b off:Nat} {v:Value} {cs:Array Value} {t:TypeId} {fr:Nat × Nat} (h:w.heap[b]?=some (.cells cs t fr)):w.setCell ⟨b,off,none⟩ v=setO w b (.cells (cs.setIfInBounds off v) t fr):=by
 unfold World.setCell setO
 congr 1
 apply Array.ext_getElem?;intro i
 by_cases hi:i=b
 ·subst hi;have hlt:i<w.heap.size:=by
   rcases Nat.lt_or_ge i w.heap.size with h' | h'
   ·exact h'
   ·rw [Array.getElem?_eq_none h'] at h;cases h
  rw [Array.getElem?_modify,if_pos rfl,h,Array.getElem?_setIfInBounds_self_of_lt hlt];rfl
 ·rw [Array.getElem?_modify,if_neg (fun e=>hi e.symm),Array.getElem?_setIfInBounds_ne (fun e=>hi e.symm)]
theorem StoreV.carr {J:List (Nat × Obj)→World→Prop} (hJ:Carr J) {A B:List (Nat × Obj)} {b off:Nat} {cs:Array Value} {t:TypeId} {v:Value} {w:World} {K:World→Prop} (h:J (A++(b,.cells cs t)::B) w) (ho:off<cs.size) (h1:qc1 v=true)
  (hk:∀ w',J (A++(b,.cells (cs.setIfInBounds off v) t)::B) w'→K w'):StoreV w b off v K:=by
 have hg:=hJ.get h (List.mem_append_right _ mh);refine StoreV.own hg ho h1 fun w' hw=>hk w' ?_
 rw [hw,qq7 hg];exact hJ.setM _ h
theorem NewV.carr {J:List (Nat × Obj)→World→Prop} (hJ:Carr J) {X:List (Nat × Obj)} {o:Obj} {w:World} {K:Nat→World→Prop} (h:J X w) (hk:∀ b w',J ((b,o)::X) w'→K b w'):NewV w o K:=
 ⟨fun b w' hb hw=>by subst hb hw;exact hk _ _ (hJ.new o h)⟩
theorem LoadV.carr {J:List (Nat × Obj)→World→Prop} (hJ:Carr J) {X:List (Nat × Obj)} {b off:Nat} {cs:Array Value} {t:TypeId} {fr:Nat × Nat} {v:Value} {w:World} {K:Value→Prop} (h:J X w) (hx:(b,Obj.cells cs t fr)∈X) (hv:cs[off]?=some v) (hk:K v):LoadV w b off K:=
 LoadV.own (hJ.get h hx) hv hk
end
end V
def dRow (m:LB) (i:Nat):List Value:=[ii i,.string ⟨(dTxt m i).toArray⟩]
def DicΦ (b:Nat) (m:LB) (b1 b2:Nat) (w:World):Prop:=DictAt w b m∧w.cell? ⟨b1,0,none⟩=some (ii 0)∧w.cell? ⟨b2,0,none⟩=some (pp b)
theorem qy9 (b:Nat) (w:World):Gv Tryz.prog 100 [pp b,ii 0] w fun r w'=>
  ∃ b1 b2,r=.func (.func 167) #[] #[pp b1,pp b2]∧Mem w w' [(b1,.cells #[ii 0] 3),(b2,.cells #[pp b] 148)]:=by
 refine ze Tryz.func100 Tryz.ntmps100 ?_;refine znm (Mem.nil w) fun b1 w1 hm=>zw ?_;refine znm hm fun b2 w2 hm=>zw ?_;exact ⟨b2,b1,rfl,hm⟩
theorem q3q (b k:Nat) {J:List (Nat × Obj)→World→Prop} (hJ:Carr J) {X:List (Nat × Obj)} (w:World) (h:J X w):Gv Tryz.prog 168 [pp b,ii k] w fun r w'=>
  ∃ b1 b2,r=.func (.func 207) #[] #[pp b1,pp b2]∧J ((b2,.cells #[ii k] 3)::(b1,.cells #[pp b] 148)::X) w':=by
 refine ze Tryz.func168 Tryz.ntmps168 ?_;refine NewV.carr hJ h fun b1 w1 hm=>zw ?_;refine NewV.carr hJ hm fun b2 w2 hm=>zw ?_;exact ⟨b1,b2,rfl,hm⟩
theorem qza (b:Nat) (m:LB) (b1 b2:Nat) (hE:(doE m).2=0) :
  SeqC Tryz.prog 167 [pp b1,pp b2] ((List.range (dN m)).map (dRow m)) (DicΦ b m b1 b2):=by
 intro l I Ix w cI cIx hI h0 hy;have hdn:=(hI 0 [] w h0).1.n;have hub:upN (dN m) 16≤4194304:=Nat.le_trans (qaq _ _ Od) hdn;have hxs:((List.range (dN m)).map (dRow m)).length=dN m:=by simp
 refine gvW Jk Tryz.func167 rfl Tryz.ntmps167 rfl (zw ?_);refine NewV.carr (cI 0) h0 fun b3 w1 h0=>zw ?_;refine LoadV.of (hI _ _ _ h0).2.1 (zw ?_);refine V.Fall.max2 rfl rfl rfl fun m' hm'=>?_;obtain rfl:m'=0:=by omega
 (conv=>whnf);refine NewV.carr (cI 0) h0 fun b4 w2 h0=>zw ?_;refine StoreV.carr (cI 0) (A:=[]) h0 Js rfl fun w3 h0=>zw ?_;refine LoadV.carr (cI 0) h0 mh rfl (zu ?_);refine q7i (fun x:Nat × List Nat=>[(0,.func (.yield l) #[] #[]),(1,pp b1),(2,pp b2),(3,pp b3),(4,pp b4),(5,ii x.1)]) (fun x=>x.2.map qlm)
  (fun x w'=>x.1≤upN (dN m) 16∧I (min (16*x.1) (dN m)) (x.2.map qdf++[(b4,.cells #[ii 0] 3),(b3,.cells #[.func (.yield l) #[] #[]] 256)]) w') (fun x=>upN (dN m) 16-x.1) (0,[])
  ⟨rfl,rfl,rfl,rfl,rfl,rfl,trivial⟩ rfl ⟨Nat.zero_le _,by show I (min (16*0) (dN m)) _ w3;rw [Nat.mul_zero,Nat.zero_min];exact h0⟩ ?_
 clear h0;rintro ⟨k,Ds⟩ w4 ρ' ⟨hk,hIk⟩;dsimp only at hk hIk ⊢;obtain ⟨⟨⟨P,cp,E,ce,hd1,_,_,_⟩,_⟩,_,hc2⟩:=hI _ _ _ hIk;(conv=>whnf);refine LoadV.of hc2 (zw ?_);refine LoadV.own hd1 rfl (zw ?_);refine zcv (qfq (dN m) w4 hdn) ?_;rintro v w5 ⟨rfl,rfl⟩;(conv=>whnf);refine zC (fun _=>zu ?_) (fun _=>zu ?_)
 ·have hkn:16*k<dN m:=by unfold upN at *;omega
  have hmin:min (16*k) (dN m)=16*k:=by omega
  rw [hmin] at hIk;obtain ⟨n,hnn⟩:∃ n,n=min 16 (dN m-16*k):=⟨_,rfl⟩
  have hn:BEnd m k n:=by rw [hnn];exact BEnd.full hE k
  refine NewV.carr (cI _) hIk fun b6 w6 hJ=>zw ?_;refine StoreV.carr (cI _) (A:=[]) hJ Js rfl fun w7 hJ=>zw ?_;refine LoadV.of (hI _ _ _ hJ).2.2 (zw ?_);refine zcv (q3q b k (cI _) w7 hJ) ?_;clear hJ;rintro v w8 ⟨c1,c2,rfl,hJ⟩;(conv=>whnf);have hlen:((List.range n).map (bRow m k)).length=n:=by simp
  obtain ⟨L,hL⟩:∃ L:Nat→List (Nat × Obj),L=fun j=>[(c2,.cells #[ii k] 3),(c1,.cells #[pp b] 148)]++(b6,.cells #[ii (16*k+j:Nat)] 3)::(Ds.map qdf++[(b4,.cells #[ii 0] 3),(b3,.cells #[.func (.yield l) #[] #[]] 256)]):=⟨_,rfl⟩
  have hJ:I (16*k+0) ([]++L 0) w8:=by
   rw [hL];have e:((k:Int)*16)=((16*k+0:Nat):Int):=by omega
   rw [e] at hJ;exact hJ
  have hin:∀ (X:List (Nat × Obj)) (j:Nat),(c1,Obj.cells #[pp b] 148)∈X++L j∧(c2,Obj.cells #[ii k] 3)∈X++L j∧(b4,Obj.cells #[ii 0] 3)∈X++L j∧(b3,Obj.cells #[.func (.yield l) #[] #[]] 256)∈X++L j∧(b6,Obj.cells #[ii (16*k+j:Nat)] 3)∈X++L j:=fun X j=>by
   rw [hL];refine ⟨?_,?_,?_,?_,?_⟩<;>simp
  refine qvj (Φ:=BlkΦ b m k c1 c2) (lb:=[pp c1,pp c2]) (xs:=(List.range n).map (bRow m k)) rfl Jk (qj2 b m k n c1 c2 Oo hn).toC Od ?_
   (fun j X w'=>I (16*k+j) (X++L j) w') (fun c j X w'=>∃ _:PLift (c=.ret),Ix (16*k+j) (X++L j) w')
   (fun j=>(cI _).tail _) (fun c j=>Carr.any fun _=>(cIx _).tail _)
   (fun j X w' h=>⟨(hI _ _ _ h).1,by rw [qc ((cI _).get h (hin X j).1)];rfl,by rw [qc ((cI _).get h (hin X j).2.1)];rfl⟩) hJ ?_ ?_ ?_
  ·intro x hx;obtain ⟨j,_,rfl⟩:=List.mem_map.1 hx;rfl
  ·rintro l2 D ob j x X w9 w10 hx hJ;have hjn:j<n:=by
    have:=(List.getElem?_eq_some_iff.1 hx).1
    rwa [hlen] at this
   rw [List.getElem?_map,List.getElem?_range hjn,Option.map_some,Option.some.injEq] at hx;subst hx;have hj16:j<16:=by omega
   (conv=>whnf);refine ⟨rfl,rfl,?_⟩;(conv=>whnf);refine LoadV.carr (cI _) hJ (hin _ j).2.2.1 rfl (zu ?_);refine LoadV.carr (cI _) hJ (hin _ j).2.2.2.1 rfl (zu ?_);refine YieldV.mono (hy (16*k+j) _ _ w10 ?_ hJ) ?_
   ·rw [List.getElem?_map,List.getElem?_range Oo,Option.map_some,dRow,← qt8 m k j hj16];rfl
   clear hJ;rintro v w11 (⟨rfl,hJ⟩|⟨rfl,hX⟩)
   ·refine zu ?_;have hJ:I (16*k+j+1) ((((l2,ob)::(D,.deferred (some []))::X)++[(c2,.cells #[ii k] 3),(c1,.cells #[pp b] 148)])++(b6,.cells #[ii (16*k+j:Nat)] 3)::(Ds.map qdf++[(b4,.cells #[ii 0] 3),(b3,.cells #[.func (.yield l) #[] #[]] 256)])) w11:=by
     rw [hL] at hJ
     simpa using hJ
    refine StoreV.carr (cI _) hJ Js rfl fun w12 hJ=>zw ?_;have e:(((16*k+j:Nat):Int)+1)=((16*k+(j+1):Nat):Int):=by omega
    rw [hL];have hJ:I (16*k+j+1) ((((l2,ob)::(D,.deferred (some []))::X)++[(c2,.cells #[ii k] 3),(c1,.cells #[pp b] 148)])++(b6,.cells #[ii (((16*k+j:Nat):Int)+1)] 3)::(Ds.map qdf++[(b4,.cells #[ii 0] 3),(b3,.cells #[.func (.yield l) #[] #[]] 256)])) w12:=hJ;rw [e] at hJ
    simpa [Nat.add_assoc] using hJ
   ·refine zu ?_;exact ⟨⟨rfl⟩,hX⟩
  ·rintro D w9 hJ;rw [hlen] at hJ;have hg6:=(cI _).get hJ (hin _ n).2.2.2.2;obtain ⟨⟨⟨P,cp,E,ce,hd1,_,_,_⟩,_⟩,_,hc2⟩:=hI _ _ _ hJ;(conv=>whnf);refine DrawW.any Jk (.inl rfl) (AnyV.free Jk ?_);(conv=>whnf);refine zf ?_ (by intro wd hd;(conv=>whnf);refine LoadV.own (Ext.get (Ext.trans (Ext.drew xr) hd) hg6) rfl ?_;(conv=>whnf);exact ⟨xr,rfl⟩);refine zf ?_ (by intro wd hd;(conv=>whnf);refine LoadV.of (Ext.cell (Ext.trans (Ext.drew xr) hd) hc2) ?_;(conv=>whnf);exact ⟨xr,rfl⟩);refine zd ?_;refine zd ?_;refine zf ?_ (by intro wd hd;(conv=>whnf);refine LoadV.own (Ext.get (Ext.trans (Ext.drew xr) hd) hd1) rfl ?_;(conv=>whnf);exact ⟨xr,rfl⟩);(iterate 3 (refine zd ?_));refine zsd (ii (min (dN m:Int) (((k:Int)+1)*16))) (fun wd hd=>zw ?_) (zw ?_)
   ·refine V.Fall.min2 rfl rfl rfl fun m' hm'=>?_;subst hm';exact ⟨xr,rfl⟩
   refine zd ?_;intro w10 he10;refine zu ?_;refine ⟨(k+1,D::Ds),⟨rfl,rfl,rfl,rfl,rfl,rfl,trivial⟩,rfl,⟨by simp only;omega,?_⟩,by simp only;omega⟩;have hJ:=(cI _).ext hJ (Ext.trans xr.drew he10);rw [hL] at hJ;have e:min (16*(k+1)) (dN m)=16*k+n:=by omega
   have h1:=(cI _).dropM (A:=[(D,.deferred (some []))]) (by simpa using hJ);have h2:=(cI _).dropM (A:=[(D,.deferred (some []))]) (by simpa using h1);have h3:=(cI _).dropM (A:=[(D,.deferred (some []))]) (by simpa using h2);simp only [e]
   simpa [qdf] using h3
  ·rintro D c j w9 hjn ⟨⟨rfl⟩,hX⟩;rw [hlen] at hjn;(conv=>whnf);refine LeaveV.marks (J:=fun X w'=>Ix (16*k+j) X w') (cIx _) ?_ (D:=D) (Ds:=Ds) ?_
   ·intro w' h;(conv=>whnf);exact .inr ⟨16*k+j,by rw [hxs];omega,h⟩
   ·rw [hL] at hX;have h1:=(cIx _).dropM (A:=[(D,.deferred (some []))]) (by simpa using hX);have h2:=(cIx _).dropM (A:=[(D,.deferred (some []))]) (by simpa using h1);have h3:=(cIx _).dropM (A:=[(D,.deferred (some []))]) (by simpa using h2);have h4:=(cIx _).dropM (A:=(D,.deferred (some []))::Ds.map qdf) (by simpa using h3);have h5:=(cIx _).dropM (A:=(D,.deferred (some []))::Ds.map qdf) (by simpa using h4)
    simpa [qdf] using h5
 ·have e:min (16*k) (dN m)=dN m:=by unfold upN at *;omega
  rw [e] at hIk;refine qe9 (J:=fun X w'=>I (dN m) X w') (cI _) ?_ Ds _ ?_
  ·intro w' h;(conv=>whnf);exact .inl (by rw [hxs];exact h)
  ·have h4:=(cI _).dropM (A:=Ds.map qdf) (by simpa using hIk);have h5:=(cI _).dropM (A:=Ds.map qdf) (by simpa using h4)
   simpa using h5
theorem qiw {l:LB} (hv:vOk l=true):8≤l.length∧vN l≤67108864∧vM l≤vN l∧l.length=qag (vN l) (vM l)∧qag (vN l) (vM l)≤1000000000:=by
 simp only [vOk,Bool.and_eq_true,decide_eq_true_eq] at hv;obtain ⟨⟨⟨v1,v2⟩,v3⟩,v4⟩:=hv;exact ⟨v1,v2,v3,v4,qlh _ _ v2 v3⟩
theorem q24 (l:LB) (A:oA) (c b:Nat) (w:World) (hS:SlAt encB 1 w A l) (hc:l.length≤c) (hv:vOk l=true) (hb:w.heap[b]?=some (vecO 263 (.slice A l.length c) (vN l) (vM l))) :
  Gv Tryz.prog 209 [pp b] w fun r w'=>(∃ A' c',r=.slice A' (upN (vN l) 8) c'∧SlAt encB 1 w' A' (vD l))∧Ext w w':=by
 obtain ⟨v1,v2,v3,v4,v5⟩:=qiw hv;have g1:qi (vN l)=8+upN (vN l) 8:=rfl;have g2:qu (vN l)=qi (vN l)+4*upN (vN l) 2048:=rfl;have g3:qaa (vN l)=qu (vN l)+2*upN (vN l) 256:=rfl;have g4:qag (vN l) (vM l)=qaa (vN l)+4*upN (vM l) 512:=rfl;have hcut:=SlAt.cut hS (lo:=8) (hi:=qi (vN l)) (m:=c) Oo Oo Oo rfl;rw [show qi (vN l)-8=upN (vN l) 8 by omega] at hcut;refine ze Tryz.func209 Tryz.ntmps209 ?_;refine DrawV.free Jk Jk (zw ?_);(iterate 3 (refine zd ?_));refine zf ?_ (by intro wd hd;(conv=>whnf);refine LoadV.own (Ext.get (Ext.trans (Ext.drew xr) hd) hb) rfl ?_;(conv=>whnf);exact ⟨xr,rfl⟩);(iterate 4 (refine zd ?_));refine zf ?_ (by intro wd hd;(conv=>whnf);refine LoadV.own (Ext.get (Ext.trans (Ext.drew xr) hd) hb) rfl ?_;(conv=>whnf);exact ⟨xr,rfl⟩);(iterate 4 (refine zd ?_));refine zf ?_ (by intro wd hd;(conv=>whnf);refine LoadV.own (Ext.get (Ext.trans (Ext.drew xr) hd) hb) rfl ?_;(conv=>whnf);exact ⟨xr,rfl⟩);apply zsd
 ·intro wd hd;(conv=>whnf);refine SliceV.to 8 (qi (vN l)) c rfl rfl rfl Oo Oo znr (fun h=>by cases h) (zw ?_);exact ⟨xr,rfl⟩
 (conv=>whnf);refine zd ?_;intro w1 he1;(conv=>whnf);have hx:=(Ext.refl w).drew.trans he1;exact ⟨⟨_,_,by rw [show qi (vN l)-8=upN (vN l) 8 by omega];rfl,hcut.ext hx⟩,hx⟩
theorem qv4 (l:LB) (A:oA) (c b i:Nat) (w:World) (hS:SlAt encB 1 w A l) (hv:vOk l=true) (hb:w.heap[b]?=some (vecO 263 (.slice A l.length c) (vN l) (vM l))) (hi:i<vN l) :
  Gv Tryz.prog 171 [pp b,ii i] w fun r w'=>r=.bool (decide (bitN (l.drop 8) i=1))∧Ext w w':=by
 obtain ⟨v1,v2,v3,v4,v5⟩:=qiw hv;have g1:qi (vN l)=8+(vN l+7)/8:=rfl;have g4:qi (vN l)≤qag (vN l) (vM l):=by unfold qag qaa qu;omega
 refine ze Tryz.func171 Tryz.ntmps171 ?_;refine zy ?_;refine zv ?_;refine LoadV.own ((Ext.refl w).drew.get hb) rfl (zu ?_);refine LoadV.own ((Ext.refl w).drew.get hb) rfl (zu ?_);refine LoadV.own ((Ext.refl w).drew.get hb) rfl (zu ?_);have hj:8+i/8<l.length:=by omega
 refine ElemV.bs (hS.ext (Ext.refl w).drew) rfl (8+i/8) Oo hj ?_;intro eb eo hcell;have hlt:=qac (l[8+i/8]);have hlt2:l[8+i/8].toNat/2 ^ (i%8)<256:=Nat.lt_of_le_of_lt (Nat.div_le_self _ _) hlt;have hbit:l[8+i/8].toNat/2 ^ (i%8)%2 ^ 1=bitN (l.drop 8) i:=by
  rw [bitN,List.getD_eq_getElem?_getD,List.getElem?_drop,zge hj];rfl
 refine zu ?_;refine LoadV.of hcell (zu ?_);refine V.Wit.shrN (i%8) Oo (by show i%8<8;omega) (zu ?_);refine Wit.eq (qbp (k:=.u8) (m:=l[8+i/8].toNat/2 ^ (i%8)) 1 rfl (qez hlt2) ⟨by omega,by omega⟩) ?_;rw [hbit];refine zu ?_;refine ⟨congrArg Value.bool ?_,(Ext.refl w).drew⟩;rw [Bool.eq_iff_iff];simp only [decide_eq_true_eq];omega
def SpM (l:LB) (w0:World) (b pb pf:Nat) (L:List (Nat × Nat × Nat)) (w:World):Prop:=
 ∃ f:Int,SpI l L f∧Mem w0 w [(pf,.cells #[ii f] 3),(pb,.cells #[pp b] 196)]
theorem qtb (l:LB) (A:oA) (c b pb pf:Nat) (w0 w:World) (L:List (Nat × Nat × Nat)) (x:Nat × Nat × Nat) (hS:SlAt encB 1 w0 A l) (hc:l.length≤c) (hv:vOk l=true)
  (hb:w0.heap[b]?=some (vecO 263 (.slice A l.length c) (vN l) (vM l))) (hI:SpM l w0 b pb pf L w) (hk:x.1=2048∨x.1=256∨x.1=512) (hx:plD (vN l) x+szD x≤l.length) :
  Gv Tryz.prog 248 [ii x.1,ii x.2.1,ii x.2.2,pp pb,pp pf] w fun r w'=>r=.bool true∧SpM l w0 b pb pf (L++[x]) w':=by
 obtain ⟨v1,v2,v3,v4,v5⟩:=qiw hv;obtain ⟨f,hf,hm⟩:=hI;obtain ⟨k,y,z⟩:=x;have hb1:=hm.ext.get hb;have hS1:=hS.ext hm.ext;obtain ⟨g,off,rfl,_⟩:=hS.at_ (by intro e;rw [e] at v1;simp at v1);dsimp only at hk ⊢;have hy:y≤500000000:=by
  unfold plD at hx;dsimp only at hx
  split at hx
  ·omega
  ·split at hx<;>omega
 have u1:=qaq (vN l) 8 Od;have u2:=qaq (vN l) 2048 Od;have u3:=qaq (vN l) 256 Od;have g1:qi (vN l)=8+upN (vN l) 8:=rfl;have g2:qu (vN l)=qi (vN l)+4*upN (vN l) 2048:=rfl;have g3:qaa (vN l)=qu (vN l)+2*upN (vN l) 256:=rfl;refine ze Tryz.func248 Tryz.ntmps248 ?_;refine zr hm 1 ?_;refine LoadV.own hb1 rfl (zw ?_)
 (repeat' (first|refine zp ?_|refine zC (fun _=>zw ?_) (fun _=>zw ?_)))
 case' refine_1=>
  obtain rfl:k=2048:=by omega
  have hP:plD (vN l) (2048,y,z)=qi (vN l)+4*y:=rfl;have hx:qi (vN l)+4*y+4≤l.length:=hx;have hZ:okD l (2048,y,z)↔leN ((l.drop (qi (vN l)+4*y)).take 4)=z:=Iff.rfl;refine zr hm 1 ?_;refine LoadV.own hb1 rfl (zu ?_);refine zr hm 1 ?_;refine LoadV.own hb1 rfl (zw ?_);refine SliceV.rest (qi (vN l)+4*y) (by show (_:Int)=_;omega) hc Oo (zw ?_);refine zcv (qg0 (l.drop (qi (vN l)+4*y)) _ _ _ _ (SlAt.rest hS1 Oo) (by rw [zld]) (by rw [zld];omega)) ?_
 case' refine_2.refine_1=>
  obtain rfl:k=256:=by omega
  have hP:plD (vN l) (256,y,z)=qu (vN l)+2*y:=rfl;have hx:qu (vN l)+2*y+2≤l.length:=hx;have hZ:okD l (256,y,z)↔leN ((l.drop (qu (vN l)+2*y)).take 2)=z:=Iff.rfl;refine zr hm 1 ?_;refine LoadV.own hb1 rfl (zu ?_);refine zr hm 1 ?_;refine LoadV.own hb1 rfl (zw ?_);refine SliceV.rest (qu (vN l)+2*y) (by show (_:Int)=_;omega) hc Oo (zw ?_);refine zcv (q2n (l.drop (qu (vN l)+2*y)) _ _ _ _ (SlAt.rest hS1 Oo) (by rw [zld]) (by rw [zld];omega)) ?_
 case' refine_2.refine_2=>
  obtain rfl:k=512:=by omega
  have hP:plD (vN l) (512,y,z)=qaa (vN l)+4*y:=rfl;have hx:qaa (vN l)+4*y+4≤l.length:=hx;have hZ:okD l (512,y,z)↔leN ((l.drop (qaa (vN l)+4*y)).take 4)=z:=Iff.rfl;refine zr hm 1 ?_;refine LoadV.own hb1 rfl (zw ?_);refine SliceV.rest (qaa (vN l)+4*y) (by show (_:Int)=_;omega) hc Oo (zw ?_);refine zcv (qg0 (l.drop (qaa (vN l)+4*y)) _ _ _ _ (SlAt.rest hS1 Oo) (by rw [zld]) (by rw [zld];omega)) ?_
 all_goals
  rintro r w9 ⟨rfl,he9⟩;have hm9:=hm.call he9;conv=>whnf
  (repeat' (first|refine zp ?_|refine zC (fun _=>zw ?_) (fun _=>zw ?_)))
  ·rename_i hz
   have hbad:=fun g=>hz (congrArg (Nat.cast:Nat→Int) (hZ.1 g))
   refine zr hm9 0 ?_
   (repeat' (first|refine zp ?_|refine zC (fun _=>zw ?_) (fun _=>zw ?_)))
   ·rename_i hf0
    refine StoreV.mem hm9 (i:=0) rfl Nat.zero_lt_one rfl fun w10 hm10=>zw ?_;exact ⟨rfl,_,hf.take hbad (.inl hf0),hm10⟩
   ·rename_i hf0
    refine zr hm9 0 ?_
    (repeat' (first|refine zp ?_|refine zC (fun _=>zw ?_) (fun _=>zw ?_)))
    ·rename_i hf1
     refine StoreV.mem hm9 (i:=0) rfl Nat.zero_lt_one rfl fun w10 hm10=>zw ?_;exact ⟨rfl,_,hf.take hbad (.inr hf1),hm10⟩
    ·rename_i hf1
     exact ⟨rfl,f,hf.keep (.inr ⟨by omega,by rw [hP];omega⟩),hm9⟩
  ·rename_i hz
   exact ⟨rfl,f,hf.keep (.inl (hZ.2 Oo)),hm9⟩
theorem qpz {d:LB} {nb:Nat} {x:Nat × Nat × Nat} (h:x∈dirD d nb):x.1=2048∨x.1=256∨x.1=512:=by
 obtain ⟨b,_,hx|hx|hx⟩:=qeo.1 h
 ·unfold grD at hx
  split at hx
  ·rw [List.mem_singleton.1 hx];exact .inl rfl
  ·cases hx
 ·unfold smD at hx
  split at hx
  ·rw [List.mem_singleton.1 hx];exact .inr (.inl rfl)
  ·cases hx
 ·obtain ⟨s,_,_,_,e⟩:=qij.1 hx;rw [e];exact .inr (.inr rfl)
theorem qxt (l:LB) (A A':oA) (c c' b:Nat) (w:World) (hS:SlAt encB 1 w A l) (hc:l.length≤c) (hv:vOk l=true)
  (hb:w.heap[b]?=some (vecO 263 (.slice A l.length c) (vN l) (vM l))) (hD:SlAt encB 1 w A' (vD l)) (hp:¬ PadB (vD l) (vN l)) (hcn:cnt (vD l) (vN l)=vM l) :
  Gv Tryz.prog 210 [pp b,.slice A' (upN (vN l) 8) c'] w fun r w'=>((r=ii (-1)∧voE l=(0,0))∨∃ a:Nat,r=ii a∧voE l=(a,20))∧Ext w w':=by
 obtain ⟨v1,v2,v3,v4,v5⟩:=qiw hv;have hd:=qv0 hv;refine ze Tryz.func210 Tryz.ntmps210 ?_;refine znm (Mem.nil w) fun pb w1 hm=>zw ?_;refine znm hm fun pf w2 hm=>zw ?_;refine StoreV.mem hm (i:=0) rfl Nat.zero_lt_one rfl fun w3 hm=>zw ?_;refine zr hm 1 ?_;refine LoadV.own (hm.ext.get hb) rfl (zw ?_);refine zcv (qgx (vD l) A' _ c' (vN l) w3 hd hd v2 _ (pp pb) (pp pf) (SpM l w b pb pf) (fun _ _ h=>let ⟨_,_,g⟩:=h;hD.ext g.ext) ⟨-1,SpI.nil l,hm⟩ (fun L x w' hI hx=>qtb l A c b pb pf w w' L x hS hc hv hb hI (qpz hx) (by have:=(qm9 hv hp hcn hx).2.1;omega))) ?_;rintro r w4 ⟨rfl,f,hf,hm4⟩;(conv=>whnf);refine zr hm4 0 ?_;refine ⟨?_,hm4.ext⟩
 rcases hf.voE hv hp hcn with ⟨rfl,h⟩|⟨_,a,rfl,h⟩
 ·exact .inl ⟨rfl,h⟩
 ·exact .inr ⟨a,rfl,h⟩
def ROpR (l:LB) (s:Value) (w0:World) (v:Value) (w:World):Prop:=
 (voE l=(0,0)∧∃ b,v=.tuple #[pp b,.nilIface]∧w0.heap.size≤b∧w.heap[b]?=some (vecO 263 s (vN l) (vM l)))∨
 ((voE l).2≠0∧∃ e,v=.tuple #[.pointer none,e]∧ErrAt w e (voE l).1 (voE l).2)
theorem qxk (l:LB) (A:oA) (c:Nat) (w:World) (hS:SlAt encB 1 w A l) (hc:l.length≤c) (hv:vOk l=true) :
  Gv Tryz.prog 170 [.slice A l.length c] w fun v w'=>ROpR l (.slice A l.length c) w v w'∧Ext w w':=by
 obtain ⟨v1,v2,v3,v4,v5⟩:=qiw hv;have hd:=qv0 hv;have hu:upN (vN l) 8=(vN l+7)/8:=rfl;have g1:qi (vN l)=8+upN (vN l) 8:=rfl;refine ze Tryz.func170 Tryz.ntmps170 ?_;refine zcv (qq9 l A c w hS hc Oo) ?_;rintro v w1 ⟨⟨h,_⟩|⟨_,b,rfl,hbw,hb⟩,he1⟩
 ·rw [hv] at h;cases h
 refine zu ?_;have hS1:=hS.ext he1;refine zcv (q24 l A c b w1 hS1 hc hv hb) ?_;rintro v w2 ⟨⟨A',c',rfl,hD⟩,he2⟩;(conv=>whnf);refine LoadV.own (he2.get hb) rfl (zw ?_);refine zcv (qme (vD l) A' _ c' (vN l) w2 hD hd hd v2) ?_;rintro v w3 ⟨⟨bb,rfl,hpad⟩,rfl⟩;(conv=>whnf);have hb2:=he2.get hb;have hx2:=he1.trans he2;cases bb
 ·have hP:PadB (vD l) (vN l):=Classical.byContradiction fun g=>by cases hpad.2 g
  refine zv ?_;refine LoadV.own hb2 rfl (zu ?_);rw [show (qi (vN l):Int)-1=((7+upN (vN l) 8:Nat):Int) by omega];refine zcv (qb0 (7+upN (vN l) 8) 12 w3) ?_;rintro v w4 ⟨⟨q,rfl,hq⟩,he4⟩;(conv=>whnf);exact ⟨.inr ⟨by rw [qpc hP];exact Nat.succ_ne_zero 11,_,rfl,by rw [qpc hP];exact ⟨q,rfl,hq⟩⟩,hx2.trans he4⟩
 ·have hP:¬ PadB (vD l) (vN l):=hpad.1 rfl;refine zv ?_;refine DrawV.free Jk Jk (zw ?_);refine zd ?_;apply zsd
  ·intro wd hd';(conv=>whnf);refine zcv (qpw (vD l) A' _ c' wd (hD.ext ((Ext.refl w3).drew.trans hd')) hd Oo) ?_;rintro v w9 ⟨rfl,rfl⟩;exact ⟨xr,rfl⟩
  (conv=>whnf);(iterate 3 (refine zd ?_));refine zf ?_ (by intro wd hd;(conv=>whnf);refine LoadV.own (Ext.get (Ext.trans (Ext.drew xr) hd) hb2) rfl ?_;(conv=>whnf);exact ⟨xr,rfl⟩);refine zd ?_;refine zd ?_;intro w4 he4;have hcn:cnt (vD l) (8*(vD l).length)=cnt (vD l) (vN l):=qy5 hP Oo znr;have hx4:=hx2.trans ((Ext.refl w3).drew.trans he4);rw [hcn];(conv=>whnf);refine zC (fun _=>zw ?_) (fun _=>zw ?_)
  ·rename_i hne
   refine zcv (qb0 4 20 w4) ?_;rintro v w5 ⟨⟨q,rfl,hq⟩,he5⟩;(conv=>whnf);have hE:=qtv hP Oo;exact ⟨.inr ⟨by rw [hE];decide,_,rfl,by rw [hE];exact ⟨q,rfl,hq⟩⟩,hx4.trans he5⟩
  ·rename_i hne
   have hb4:=(Ext.refl w3).drew.trans he4 |>.get hb2;refine zcv (qxt l A A' c c' b w4 (hS.ext hx4) hc hv hb4 (hD.ext ((Ext.refl w3).drew.trans he4)) hP Oo) ?_;rintro v w5 ⟨⟨rfl,hE⟩|⟨a,rfl,hE⟩,he5⟩
   ·refine zu ?_;exact ⟨.inl ⟨hE,b,rfl,by have:=he1.size;omega,he5.get hb4⟩,hx4.trans he5⟩
   ·refine zu ?_;refine zcv (qb0 a 20 w5) ?_;rintro v w6 ⟨⟨q,rfl,hq⟩,he6⟩;(conv=>whnf);exact ⟨.inr ⟨by rw [hE];exact Nat.succ_ne_zero 19,_,rfl,by rw [hE];exact ⟨q,rfl,hq⟩⟩,hx4.trans (he5.trans he6)⟩
theorem q4f (n:Nat) (w:World) (h:n≤64):Gv Tryz.prog 127 [ii n] w fun r w'=>r=.bool true∧w'=w:=by
 refine ze Tryz.func127 Tryz.ntmps127 ?_;refine zv ?_;exact ⟨congrArg Value.bool (decide_eq_true Oo),rfl⟩
theorem q5q (n wd:Nat) (w:World) (h:n*wd≤4398046511104):Gv Tryz.prog 130 [ii n,ii wd] w fun r w'=>r=ii ((n*wd+7)/8:Nat)∧w'=w:=by
 have e:(n:Int)*(wd:Int)=((n*wd:Nat):Int):=(Int.natCast_mul n wd).symm;refine ze Tryz.func130 Tryz.ntmps130 ?_;rw [e];obtain ⟨f,ef⟩:∃ f,f=n*wd:=⟨_,rfl⟩
 rw [← ef] at h ⊢;refine zv ?_;exact ⟨congrArg (Value.int .i64) Oo,rfl⟩
theorem qpp (p:LB) (A:oA) (c n wd:Nat) (w:World) (hS:SlAt encB 1 w A p) (hp:p.length=(n*wd+7)/8) (hn:n≤4194304) (hw:wd≤64) :
  Gv Tryz.prog 161 [.slice A p.length c,ii n,ii wd] w fun v w'=>v=.tuple #[.agg (if opE p n wd=0 then #[.slice A p.length c,ii n,ii wd] else #[.slice none 0 0,ii 0,ii 0]),ii (opE p n wd)]∧Ext w w':=by
 have hb:n*wd≤4194304*64:=Nat.mul_le_mul hn hw;have hE:=q45 hp;have h012:opE p n wd=0∨opE p n wd=12:=by unfold opE;split<;>simp
 have e:(n:Int)*(wd:Int)=((n*wd:Nat):Int):=(Int.natCast_mul n wd).symm;refine ze Tryz.func161 Tryz.ntmps161 ?_;refine znm (Mem.nil w) fun pb w1 hm=>zw ?_;refine zcv (q4f wd w1 hw) ?_;rintro r w2 ⟨rfl,rfl⟩;refine zu ?_;refine zcv (q5q n wd _ Oo) ?_;rintro r w2 ⟨rfl,rfl⟩;(conv=>whnf);refine zt ?_;refine zC (fun _=>zu ?_) (fun _=>zu ?_);have hS2:=hS.ext hm.ext;rw [e];obtain ⟨f,ef⟩:∃ f,f=n*wd:=⟨_,rfl⟩
 rw [← ef] at hp hb hE e ⊢
 ·rename_i hx
  rw [e] at hx;refine ElemV.bs hS2 rfl (p.length-1) Oo Oo ?_;intro b off hc;refine zu ?_;refine LoadV.of hc (zu ?_);rw [e];refine V.Wit.shrN (f%8) Oo (by show f%8<8;omega) (zw ?_);refine zt ?_;refine zC (fun _=>zw ?_) (fun _=>zw ?_)
  ·rename_i hz
   refine StoreA.all hm (i:=0) rfl rfl (by intro v hv;simp at hv;rcases hv with rfl|rfl<;>rfl) fun w3 hm3=>zw ?_;have hq:(p.getD (p.length-1) 0).toNat=p[p.length-1].toNat:=by rw [List.getD_eq_getElem?_getD,zge Oo];rfl
   rw [hq] at hE;have h0:opE p n wd=12:=h012.resolve_left (hE.2 ⟨by omega,fun g=>hz (by rw [g];rfl)⟩);refine qj (R:=fun v w'=>v=.tuple #[.agg (if opE p n wd=0 then #[.slice A p.length c,ii n,ii wd] else #[.slice none 0 0,ii 0,ii 0]),ii (opE p n wd)]∧Ext w w') (zw ?_);refine zl hm3 0 ?_;rw [h0];exact ⟨rfl,hm3.ext⟩
  ·rename_i hz
   refine StoreA.all hm (i:=0) rfl rfl (by intro v hv;simp at hv;rcases hv with rfl|rfl|rfl<;>rfl) fun w3 hm3=>zw ?_;have hq:(p.getD (p.length-1) 0).toNat=p[p.length-1].toNat:=by rw [List.getD_eq_getElem?_getD,zge Oo];rfl
   rw [hq] at hE;have h0:opE p n wd=0:=Classical.byContradiction fun g=>(hE.1 g).2 Oo
   refine qj (R:=fun v w'=>v=.tuple #[.agg (if opE p n wd=0 then #[.slice A p.length c,ii n,ii wd] else #[.slice none 0 0,ii 0,ii 0]),ii (opE p n wd)]∧Ext w w') (zw ?_);refine zl hm3 0 ?_;rw [h0];exact ⟨rfl,hm3.ext⟩
 ·rename_i hx
  rw [e] at hx;refine StoreA.all hm (i:=0) rfl rfl (by intro v hv;simp at hv;rcases hv with rfl|rfl|rfl<;>rfl) fun w3 hm3=>zw ?_;have h0:opE p n wd=0:=Classical.byContradiction fun g=>by have:=(hE.1 g).1;omega
  refine qj (R:=fun v w'=>v=.tuple #[.agg (if opE p n wd=0 then #[.slice A p.length c,ii n,ii wd] else #[.slice none 0 0,ii 0,ii 0]),ii (opE p n wd)]∧Ext w w') (zw ?_);refine zl hm3 0 ?_;rw [h0];exact ⟨rfl,hm3.ext⟩
namespace V
theorem Fall.assert {P:Program} {ρ:Nat→Value} {o:Oper} {x:Operand} {xT t:TypeId} {c:Bool} {w:World} {K:Value→World→Prop} (ho:o.op=.typeAssert x xT t c) (v:Value) (w':World)
  (hrun:(Instr.typeAssert (ev ρ x) xT t c).run P w=.ok v w') (hk:K v w'):Fall P (execOp (ev ρ) o) w K:=by
 have he:execOp (ev ρ) o=(do pure (.value (← Instr.typeAssert (ev ρ x) xT t c))):=by
  simp only [execOp,ho]
 rw [he];exact ⟨.inl ⟨v,w',by rw [Sem.run_bind,hrun];rfl,hk⟩⟩
end V
theorem qaea (n:Int) (w:World):(Instr.typeAssert (.iface 26 (ii n)) 37 26 true).run Tryz.prog w=.ok (.tuple #[ii n,.bool true]) w:=by kernel_rfl
theorem q8i (v:Value) (w:World):(Instr.typeAssert (.iface 104 v) 37 26 true).run Tryz.prog w=.ok (.tuple #[ii 0,.bool false]) w:=by kernel_rfl
theorem qyh (v:Value) (w:World):(Instr.typeAssert (.iface 104 v) 37 104 true).run Tryz.prog w=.ok (.tuple #[v,.bool true]) w:=by kernel_rfl
theorem qqm (n:Int) (w:World):Gv Tryz.prog 46 [.iface 26 (ii n)] w fun v w'=>v=ii n∧Ext w w':=by
 refine ze Tryz.func46 Tryz.ntmps46 ?_;refine Fall.assert rfl _ _ (qaea n w) (zu ?_);exact ⟨rfl,xr⟩
theorem qs8 (e:Value) (p n:Nat) (w:World) (h:ErrAt w e p n):Gv Tryz.prog 20 [e] w fun v w'=>v=fltV p n∧Ext w w':=by
 obtain ⟨b,rfl,hc⟩:=h;refine ze Tryz.func20 Tryz.ntmps20 ?_;refine znm (Mem.nil w) fun r w1 hm=>zu ?_;refine Fall.assert rfl _ _ (q8i _ w1) (zu ?_);refine Fall.assert rfl _ _ (qyh _ w1) (zu ?_);refine DrawV.inv (fun S w'=>Mem w w' [(r,.cells (bif S 10 then #[ii p,ii n] else #[ii 0,ii 0]) 48)]) rfl Jk hm.drew ?_;clear hm;(conv=>whnf);(iterate 3 (refine zi ?_));refine StepI.of (ii p) (fun S wd hk hp hI=>zw ?_) (zw ?_)
 ·refine LoadV.of (CellsAt.ext hc hI.ext 0 _ rfl) (zw ?_);exact ⟨rfl,hI⟩
 (iterate 3 (refine zi ?_));refine StepI.of (.iface 26 (ii n)) (fun S wd hk hp hI=>zw ?_) (zw ?_)
 ·refine LoadV.of (CellsAt.ext hc hI.ext 1 _ rfl) (zw ?_);exact ⟨rfl,hI⟩
 refine StepI.of (ii n) (fun S wd hk hp hI=>zw ?_) (zw ?_)
 ·refine zcv (qqm n wd) ?_;rintro v wx ⟨rfl,hx⟩;exact ⟨rfl,hI.call hx⟩
 refine zi ?_;refine StepI.of undef (fun S wd hk hp hI=>?_) (zw ?_)
 ·dsimp only at hI;rw [hk] at hI;(conv=>whnf);refine zS hI 0 fun wx hmx=>zw ?_;exact ⟨rfl,hmx⟩
 intro wz hm;have hm:Mem w wz [(r,.cells #[ii p,ii n] 48)]:=hm;(conv=>whnf);refine qj (R:=fun v w'=>v=fltV p n∧Ext w w') (zw ?_);refine zl hm 0 ?_;exact ⟨rfl,hm.ext⟩
theorem qq1 (k n:Nat) (w:World):Gv Tryz.prog 122 [ii k,ii n] w fun r w'=>r=.bool (decide (¬ ((k≠0∧n=0)∨4194304<n)))∧w'=w:=by
 refine ze Tryz.func122 Tryz.ntmps122 ?_;refine V.Fall.min2 rfl rfl rfl fun m hm=>?_;(conv=>whnf);refine zC (fun _=>zu ?_) (fun _=>zu ?_)
 all_goals refine ⟨congrArg Value.bool ?_,rfl⟩
 all_goals first|exact (decide_eq_false Oo).symm|exact decide_eq_decide.2 Oo
structure Nb (w0:World) (t:TypeId) (n:Nat) (s:Bool) (v:Value) (w:World):Prop where
 e:Ext w0 w
 b:s=true→∃ x,v=pp x∧w0.heap.size≤x∧∃ cs:Array Value,cs.size=n∧w.heap[x]?=some (.cells cs t)
section
variable {w0 w w':World} {t:TypeId} {n:Nat} {s:Bool} {v:Value}
theorem Nb.start:Nb w0 t n false v w0:=⟨xr,fun h=>by cases h⟩
theorem Nb.call (h:Nb w0 t n s v w) (he:Ext w w'):Nb w0 t n s v w':=⟨h.e.trans he,fun hs=>let ⟨x,h1,h2,cs,h3,h4⟩:=h.b hs;⟨x,h1,h2,cs,h3,he.get h4⟩⟩
theorem Nb.alloc {cs:Array Value} (h:Nb w0 t n false v w) (hc:cs.size=n):Nb w0 t n true (.pointer (some ⟨w.heap.size,0,none⟩)) (w.alloc (.cells cs t)):=
 ⟨h.e.trans (xr.alloc _),fun _=>⟨_,rfl,h.e.size,cs,hc,heap_alloc_new _ _⟩⟩
theorem Nb.store {P:Program} {vs:List Value} {K:World→Prop} {x:Nat} (h:Nb w0 t n true v w) (hv:v=pp x) (hl:vs.length=n) (h1:∀ v∈vs,v.oneCell'=true) (hk:∀ w',Nb w0 t n true v w'→K w'):StoreA P w x 0 vs K:=by
 obtain ⟨y,hy,hge,cs,hc,hh⟩:=h.b rfl;rw [hv] at hy;cases hy;have hm:Mem w0 w [(x,.cells cs t)]:=(Mem.nil w0).fresh h.e hge hh;refine StoreA.all hm (i:=0) rfl Oo h1 fun w' hm'=>hk w' ⟨hm'.ext,fun _=>⟨x,hv,hge,vs.toArray,by simpa using hl,hm'.get mh⟩⟩
end
theorem qabz (n:Int) (w:World):(Instr.typeAssert (.iface 26 (ii n)) 37 26 false).run Tryz.prog w=.ok (ii n) w:=by kernel_rfl
def LkR (l:LB) (k:Nat) (v:Value) (w:World):Prop:=((lvE l k).2=0∧v=.nilIface)∨((lvE l k).2≠0∧ErrAt w v (lvE l k).1 (lvE l k).2)
theorem LkR.err {l:LB} {k a e:Nat} {v:Value} {w:World} (h:lvE l k=(a,e)) (h0:e≠0) (hv:ErrAt w v a e):LkR l k v w:=.inr ⟨by rw [h];exact h0,by rw [h];exact hv⟩
theorem q4v (l:LB) (b k:Nat) (w:World) (hT:TreeAt w b l) (hE:(tE l).2=0) (hk3:k<4) (hl:l.length≤140737488355328) :
  Gv Tryz.prog 103 [.pointer (some ⟨b,8*k,none⟩),ii k] w fun v w'=>LkR l k v w'∧Ext w w':=by
 obtain ⟨hz,hv⟩:=qk9 hE;obtain ⟨z1,z2,z3⟩:=qrk (hv k hk3);have hnk:=q2i (hz k hk3);have t1:tvAt l k+1≤tEnd l k:=by show _≤tvAt l k+1+_;omega
 have t2:tEnd l k≤tvAt l (k+1):=by rw [qbn];omega
 have lenP:(qp l k).length=tEnd l k-(tvAt l k+1):=by rw [qp,List.length_take,zld];omega
 have lenP2:(qp l k).length=(vNum l k*tw l k+7)/8:=by rw [lenP];show tvAt l k+1+(vNum l k*tw l k+7)/8-_=_;omega
 have hw64:tw l k≤64:=by omega
 obtain ⟨P,cp,S,cs,vv,hc,hP,hS,hcs,hV⟩:=(hT.lv k hk3).h;have hnum:∀ (w':World) (i:Nat),Ext w w'→i≤4194304→Gv Tryz.prog 155 [.pointer (some ⟨b,8*k,none⟩),ii i] w' fun r w''=>r=ii (tX l k i)∧Ext w' w'':=fun w' i he hi=>by
  have:=qdj b (8*k) i (tw l k) cp P (qp l k) w' (hc.ext he 1 _ rfl) (hc.ext he 5 _ rfl) (hP.ext he) z2 hi;rw [qn2 _ _ _ Oo] at this;exact this
 have hXlt:∀ i,tX l k i<8388608:=fun i=>qlf _ _ _ z2
 refine ze Tryz.func103 Tryz.ntmps103 ?_;obtain ⟨E,eE⟩:∃ E,E=opE (qp l k) (vNum l k) (tw l k):=⟨_,rfl⟩
 obtain ⟨A1,n1,c1,x1,y1,hagg⟩:∃ A1 n1 c1,∃ x1 y1:Int,(if opE (qp l k) (vNum l k) (tw l k)=0 then #[.slice P (qp l k).length cp,ii (vNum l k),ii (tw l k)] else #[.slice none 0 0,ii 0,ii 0])=#[Value.slice A1 n1 c1,ii x1,ii y1]:=by
  split<;>exact ⟨_,_,_,_,_,rfl⟩
 refine DrawV.gen (fun S vals w'=>Nb w.drew 249 3 (S 16) (vals 16) w') rfl Jk (fun vals=>Nb.start) (zw ?_);(iterate 3 (refine zg ?_));refine StepG.of (.slice P (qp l k).length cp) (fun S vals wd hk hp hI=>zw ?_) (zw ?_)
 ·refine LoadV.of (hc.ext ((Ext.refl w).drew.trans hI.e) 5 _ rfl) (zw ?_);exact ⟨rfl,hI⟩
 (iterate 3 (refine zg ?_));refine StepG.of (ii (vNum l k)) (fun S vals wd hk hp hI=>zw ?_) (zw ?_)
 ·refine LoadV.of (hc.ext ((Ext.refl w).drew.trans hI.e) 0 _ rfl) (zw ?_);exact ⟨rfl,hI⟩
 (iterate 3 (refine zg ?_));refine StepG.of (ii (tw l k)) (fun S vals wd hk hp hI=>zw ?_) (zw ?_)
 ·refine LoadV.of (hc.ext ((Ext.refl w).drew.trans hI.e) 1 _ rfl) (zw ?_);exact ⟨rfl,hI⟩
 refine StepG.of (.tuple #[.agg #[.slice A1 n1 c1,ii x1,ii y1],ii E]) (fun S vals wd hk hp hI=>zw ?_) (zw ?_)
 ·refine zcv (qpp (qp l k) P cp (vNum l k) (tw l k) wd (hP.ext ((Ext.refl w).drew.trans hI.e)) lenP2 Oo hw64) ?_;rintro v w9 ⟨rfl,h9⟩;exact ⟨by rw [hagg,eE];rfl,hI.call h9⟩
 (iterate 3 (refine zg ?_));refine StepG.any (fun S vals wd hk hp hI=>?_) (zw ?_)
 ·dsimp only at hI;rw [hk] at hI;(conv=>whnf);refine ⟨fun x wx hb hw=>?_⟩;subst hb hw;(conv=>whnf);exact ⟨trivial,hI.alloc rfl⟩
 refine StepG.of undef (fun S vals wd hk hp hI=>?_) (zw ?_)
 ·have h16:S 16=true:=hp 16 Od;dsimp only at hI;rw [h16] at hI;obtain ⟨x,hx,_⟩:=hI.b rfl;rw [qq hx];(conv=>whnf);refine hI.store hx rfl (by intro v hv;simp at hv;rcases hv with rfl|rfl|rfl<;>rfl) ?_;intro wx hIx;(conv=>whnf);exact ⟨rfl,by show Nb _ _ _ (S 16) (pp x) _;rw [h16,← hx];exact hIx⟩
 refine zg ?_;intro vals w1 hI;have he1:Ext w w1:=(Ext.refl w).drew.trans hI.e;clear hI;(conv=>whnf);refine zC (fun _=>zw ?_) (fun _=>zw ?_)
 ·rename_i hne
  have h0:opE (qp l k) (vNum l k) (tw l k)≠0:=by omega
  have h12:E=12:=by rw [eE];unfold opE at h0 ⊢;split at h0<;>simp_all
  refine LoadV.of (hc.ext he1 4 _ rfl) (zu ?_);rw [show ((tEnd l k:Nat):Int)-1=((tEnd l k-1:Nat):Int) by omega];refine zcv (qaf (tEnd l k-1) E w1) ?_;rintro v w2 ⟨⟨q,rfl,hq⟩,he2⟩;rw [h12] at hq;(conv=>whnf);exact ⟨LkR.err (q0p h0) Od ⟨q,rfl,hq⟩,he1.trans he2⟩
 rename_i hE0
 have hE0:opE (qp l k) (vNum l k) (tw l k)=0:=by omega
 refine LoadV.of (hc.ext he1 0 _ rfl) (zw ?_);refine qy (fun i:Nat=>[(0,.pointer (some ⟨b,8*k,none⟩)),(1,ii k),(7,ii (mxN (tX l k) i)),(43,ii (vNum l k)),(44,ii i)]) (fun i w'=>i≤vNum l k∧Ext w w') (fun i=>vNum l k-i) 0
  ⟨rfl,rfl,rfl,rfl,rfl,trivial⟩ ⟨Nat.zero_le _,he1⟩ ?_
 rintro i w2 ρ' ⟨i1,he2⟩;(conv=>whnf);refine zC (fun _=>zw ?_) (fun _=>zw ?_)
 ·refine zcv (hnum w2 i he2 Oo) ?_;rintro r w3 ⟨rfl,he3⟩;(conv=>whnf);refine V.Fall.max2 rfl rfl rfl fun m hm=>?_;obtain rfl:m=((mxN (tX l k) (i+1):Nat):Int):=by rw [mxN];omega
  refine zu ?_;exact ⟨i+1,⟨rfl,rfl,rfl,rfl,congrArg (Value.int .i64) Oo,trivial⟩,⟨by omega,he2.trans he3⟩,by omega⟩
 obtain rfl:i=vNum l k:=by omega
 have hmx:mxN (tX l k) (vNum l k)<8388608:=qu9 Od fun i _=>hXlt i
 have hwx:=q6q (l:=l) (k:=k) z2;obtain ⟨M,eM⟩:∃ M,M=mxN (tX l k) (vNum l k):=⟨_,rfl⟩
 rw [← eM] at hmx hwx ⊢;(conv=>whnf);refine DrawV.free Jk Jk (zw ?_);refine zd ?_;refine zd ?_;apply zsd
 ·intro wd hd;(conv=>whnf);refine zcv (qfp M wd Oo) ?_;rintro v w9 ⟨rfl,rfl⟩;exact ⟨xr,rfl⟩
 (conv=>whnf);(iterate 3 (refine zd ?_));apply zsd
 ·intro wd hd;(conv=>whnf);refine LoadV.of (hc.ext (he2.trans ((Ext.refl w2).drew.trans hd)) 1 _ rfl) (zw ?_);exact ⟨xr,rfl⟩
 (conv=>whnf);refine zd ?_;intro w3 hd3;have he3:=he2.trans ((Ext.refl w2).drew.trans hd3);rw [hwx];obtain ⟨wm,ewm⟩:∃ wm,wm=wMx (unpN (qp l k) (vNum l k) (tw l k)) (vNum l k):=⟨_,rfl⟩
 rw [← ewm];conv=>whnf
 (repeat' refine zC (fun _=>zw ?_) (fun _=>zw ?_))
 ·rename_i hne
  refine LoadV.of (hc.ext he3 2 _ rfl) (zw ?_);refine zcv (qaf (tvAt l k) 14 w3) ?_;rintro v w4 ⟨⟨q,rfl,hq⟩,he4⟩;(conv=>whnf);exact ⟨LkR.err (qqj hE0 Oo) Od ⟨q,rfl,hq⟩,he3.trans he4⟩
 rename_i hwm hk0
 have hwm':wMx (unpN (qp l k) (vNum l k) (tw l k)) (vNum l k)=tw l k:=by omega
 rcases hV with ⟨hx,hvv⟩|⟨_,htv,vb,hvv,hvo⟩
 ·have hx:tVec l k=false:=hx.resolve_left Oo;refine LoadV.of (hc.ext he3 7 _ rfl) ?_;rw [hvv];refine zu ?_;refine LoadV.of (hc.ext he3 4 _ rfl) (zw ?_);refine zcv (qaf (tEnd l k) 180 w3) ?_;rintro v w4 ⟨⟨q,rfl,hq⟩,he4⟩;(conv=>whnf);have h1:(vcE l k).2≠0:=by rw [q21 hx];exact Nat.succ_ne_zero 179
  exact ⟨LkR.err ((qnw hE0 hwm' Oo h1).trans (q21 hx)) Od ⟨q,rfl,hq⟩,he3.trans he4⟩
 refine LoadV.of (hc.ext he3 7 _ rfl) ?_;rw [hvv];refine zu ?_;refine LoadV.of (hc.ext he3 6 _ rfl) (zw ?_);have htv2:=htv;simp only [tVec,Bool.and_eq_true,decide_eq_true_eq] at htv2;obtain ⟨⟨hvok,hvn⟩,hvm⟩:=htv2;rw [← hvn,← hvm] at hvo;refine zcv (qxk (qg l k) S cs w3 (hS.ext he3) hcs hvok) ?_;rintro v w4 ⟨⟨hvo0,vb2,rfl,_,_⟩|⟨hvo0,e,rfl,q,rfl,hq⟩,he4⟩
 rotate_left
 ·have h1:(vcE l k).2≠0:=by rw [q23 htv hvo0];exact hvo0
  have h2:=(qnw hE0 hwm' Oo h1).trans (q23 htv hvo0);have hb1:(voE (qg l k)).1≤1125899906842624:=by
   have h3:=q76 (qg l k);have h4:=(qiw hvok).2.2.2.2;omega
  obtain ⟨a,ea⟩:∃ a,a=(voE (qg l k)).1:=⟨_,rfl⟩
  obtain ⟨c,ec⟩:∃ c,c=(voE (qg l k)).2:=⟨_,rfl⟩
  rw [← ea] at hq h2 hb1;rw [← ec] at hq h2 hvo0;refine zu ?_;refine V.Fall.assert rfl _ _ (qyh _ w4) (zw ?_);have he4':=he3.trans he4;refine DrawV.free Jk Jk (zw ?_);(iterate 3 (refine zd ?_));apply zsd
  ·intro wd hd;(conv=>whnf);refine LoadV.of (hc.ext (he4'.trans ((Ext.refl w4).drew.trans hd)) 4 _ rfl) (zw ?_);exact ⟨xr,rfl⟩
  (conv=>whnf);(iterate 3 (refine zd ?_));apply zsd
  ·intro wd hd;(conv=>whnf);refine LoadV.of (hq.ext ((Ext.refl w4).drew.trans hd) 0 _ rfl) (zw ?_);exact ⟨xr,rfl⟩
  (conv=>whnf);(iterate 4 (refine zd ?_));apply zsd
  ·intro wd hd;(conv=>whnf);refine LoadV.of (hq.ext ((Ext.refl w4).drew.trans hd) 1 _ rfl) (zw ?_);exact ⟨xr,rfl⟩
  (conv=>whnf);apply zsd
  ·intro wd hd;(conv=>whnf);refine V.Fall.assert rfl _ _ (qabz _ wd) (zw ?_);exact ⟨xr,rfl⟩
  (conv=>whnf);apply StepD.of (fun v wx=>ErrAt wx v (tEnd l k+a) c) (fun v wx wy h he=>let ⟨q,h1,h2⟩:=h;⟨q,h1,h2.ext he⟩)
  ·intro wd hd;(conv=>whnf);rw [show ((tEnd l k:Nat):Int)+(a:Int)=((tEnd l k+a:Nat):Int) by omega];refine zcv (qaf (tEnd l k+a) c wd) ?_;rintro v w9 ⟨he,h9⟩;exact ⟨h9,he⟩
  (conv=>whnf);apply StepD.of (fun v wx=>ErrAt wx v (tEnd l k+a) c) (fun v wx wy h he=>let ⟨q,h1,h2⟩:=h;⟨q,h1,h2.ext he⟩)
  ·intro wd hd;conv=>whnf
   iterate 2 (rintro _ _;(conv=>whnf))
   rintro v ⟨q,rfl,hq⟩;conv=>whnf
   (repeat (rintro _ _;(conv=>whnf)))
   exact ⟨xr,q,rfl,hq⟩
  (conv=>whnf);intro w5 hd5;(conv=>whnf);rintro v ⟨q,rfl,hq⟩;conv=>whnf
  (repeat (rintro _ _;(conv=>whnf)))
  (repeat (rintro _;(conv=>whnf)))
  exact ⟨LkR.err h2 hvo0 ⟨q,rfl,hq⟩,he4'.trans ((Ext.refl w4).drew.trans hd5)⟩
 rotate_left
 have he4':=he3.trans he4;refine zu ?_;refine DrawV.free Jk Jk (zw ?_);(iterate 3 (refine zd ?_));apply zsd
 ·intro wd hd;(conv=>whnf);refine LoadV.of (hc.ext (he4'.trans ((Ext.refl w4).drew.trans hd)) 0 _ rfl) (zw ?_);exact ⟨xr,rfl⟩
 (conv=>whnf)
 by_cases hn0:0<vNum l k
 (iterate 5 (refine zd ?_));apply zsd
 ·intro wd hd;refine zu ?_;refine LoadV.of (hc.ext (he4'.trans ((Ext.refl w4).drew.trans hd)) 7 _ rfl) ?_;rw [hvv];(conv=>whnf);exact ⟨xr,rfl⟩
 (conv=>whnf);(iterate 3 (refine zd ?_));apply zsd
 ·intro wd hd;refine zu ?_;refine LoadV.of (hc.ext (he4'.trans ((Ext.refl w4).drew.trans hd)) 0 _ rfl) (zw ?_);exact ⟨xr,rfl⟩
 (conv=>whnf);refine zd ?_;apply zsd
 ·intro wd hd;refine zu ?_;have hx:=he4'.trans ((Ext.refl w4).drew.trans hd);rw [show ((vNum l k:Nat):Int)-1=((vNum l k-1:Nat):Int) by omega];refine zcv (qv4 (qg l k) S cs vb (vNum l k-1) wd (hS.ext hx) hvok (hx.get hvo) Oo) ?_;rintro v w9 ⟨rfl,h9⟩;exact ⟨h9,rfl⟩
 (conv=>whnf);refine zd ?_;refine zd ?_;intro w5 hd5;have hx5:=he4'.trans ((Ext.refl w4).drew.trans hd5);(conv=>whnf);refine zt ?_;refine zC (fun _=>zw ?_) (fun _=>zw ?_)
 rotate_left
 ·refine LoadV.of (hc.ext hx5 4 _ rfl) (zw ?_);refine zcv (qaf (tEnd l k) 180 w5) ?_;rintro v w6 ⟨⟨q,rfl,hq⟩,he6⟩;(conv=>whnf);have h2:=qv5 htv (by rw [hvo0]) hn0 Oa;have h1:(vcE l k).2≠0:=by rw [h2];exact Nat.succ_ne_zero 179
  exact ⟨LkR.err ((qnw hE0 hwm' Oo h1).trans h2) Od ⟨q,rfl,hq⟩,hx5.trans he6⟩
 (iterate 14 (refine zd ?_));intro w5 hd5;have hx5:=he4'.trans ((Ext.refl w4).drew.trans hd5);refine zu ?_
 all_goals
  have hVec:k=0∨((vcE l k).2=0∧∃ vb,vv=pp vb∧w.heap[vb]?=some (vecO 263 (.slice S (qg l k).length cs) (vN (qg l k)) (vM (qg l k)))∧vOk (qg l k)=true∧vN (qg l k)=vNum l k):=by
   first
   | exact .inl Oo
   | exact .inr ⟨by rw [q22 htv (by rw [hvo0]) (fun _=>by assumption)],vb,hvv,hvo,hvok,hvn⟩
   | exact .inr ⟨by rw [q22 htv (by rw [hvo0]) (fun h=>absurd h hn0)],vb,hvv,hvo,hvok,hvn⟩
  have hwm':wMx (unpN (qp l k) (vNum l k) (tw l k)) (vNum l k)=tw l k:=by omega
  refine LoadV.of (hc.ext (by first|exact hx5|exact he3) 0 _ rfl) (zw ?_);refine qy (fun i:Nat=>[(0,.pointer (some ⟨b,8*k,none⟩)),(1,ii k),(134,ii (vNum l k)),(135,ii i)]) (fun i w'=>i≤vNum l k∧(∀ j,j<i→(nmF l k j).2=0)∧Ext w w') (fun i=>vNum l k-i) 0
   ⟨rfl,rfl,rfl,rfl,trivial⟩ ⟨Nat.zero_le _,fun j h=>absurd h (Nat.not_lt_zero _),(by first|exact hx5|exact he3)⟩ ?_
  rintro i w6 ρ' ⟨i1,i2,he6⟩;conv=>whnf
  (repeat' (first|refine zp ?_|refine zC (fun _=>zw ?_) (fun _=>zw ?_)))
  all_goals try
   obtain rfl:i=vNum l k:=by omega
   exact ⟨.inl ⟨q7j hE0 hwm' (hVec.imp id And.left) i2,rfl⟩,he6⟩
 all_goals
  have hat:=fun {a e:Nat} (h6:nmF l k i=(a,e)) (h7:e≠0)=>qadd hE0 hwm' (hVec.imp id And.left) i2 Oo h6 h7
  refine zcv (hnum w6 i he6 Oo) ?_;rintro r w7 ⟨rfl,he7⟩;have hx7:=he6.trans he7;have hXi:=hXlt i;obtain ⟨X,eX⟩:∃ X,X=tX l k i:=⟨_,rfl⟩
  rw [← eX] at hXi ⊢;(conv=>whnf);refine zcv (qq1 k X w7) ?_;rintro r w8 ⟨rfl,rfl⟩;conv=>whnf
  (repeat' (first|refine zp ?_|refine zC (fun _=>zw ?_) (fun _=>zw ?_)))
 all_goals try
  refine LoadV.of (hc.ext hx7 3 _ rfl) (zw ?_);refine zcv (qaf (tvAt l k+1) 180 w8) ?_;rintro v w9 ⟨⟨q,rfl,hq⟩,he9⟩;(conv=>whnf);exact ⟨LkR.err (hat (q0s (by rw [← eX];omega)) Od) Od ⟨q,rfl,hq⟩,hx7.trans he9⟩
 all_goals try
  exact ⟨i+1,⟨rfl,rfl,rfl,congrArg (Value.int .i64) Oo,trivial⟩,⟨by omega,qnz i2 (qvc (by rw [← eX];omega) Oo),hx7⟩,by omega⟩
 rotate_left
 obtain ⟨_,vb2,hvv2,hvo2,hok2,hn2⟩:=hVec.resolve_left Oo;refine LoadV.of (hc.ext hx7 7 _ rfl) ?_;rw [hvv2];refine zu ?_;rw [show (i:Int)-1=((i-1:Nat):Int) by omega];refine zcv (qv4 (qg l k) S cs vb2 (i-1) w8 (hS.ext hx7) hok2 (hx7.get hvo2) Oo) ?_;rintro r w9 ⟨rfl,he9⟩;replace hx7:=hx7.trans he9;(conv=>whnf);refine zt ?_;refine zC (fun _=>zu ?_) (fun _=>zu ?_)
 ·exact ⟨i+1,⟨rfl,rfl,rfl,congrArg (Value.int .i64) Oo,trivial⟩,⟨by omega,qnz i2 (qvc (by rw [← eX];omega) Oo),hx7⟩,by omega⟩
 all_goals
  rw [show (i:Int)-1=((i-1:Nat):Int) by omega];refine zcv (hnum _ (i-1) hx7 Oo) ?_;rintro r w10 ⟨rfl,he10⟩;replace hx7:=hx7.trans he10;obtain ⟨Y,eY⟩:∃ Y,Y=tX l k (i-1):=⟨_,rfl⟩
  rw [← eY];conv=>whnf
  (repeat' (first|refine zp ?_|refine zC (fun _=>zw ?_) (fun _=>zw ?_)))
  ·refine LoadV.of (hc.ext hx7 3 _ rfl) (zw ?_);refine zcv (qaf (tvAt l k+1) 160 w10) ?_;rintro v w11 ⟨⟨q,rfl,hq⟩,he11⟩;(conv=>whnf);exact ⟨LkR.err (hat (q0t (by rw [← eX];omega) (by rw [← eX,← eY];omega)) Od) Od ⟨q,rfl,hq⟩,hx7.trans he11⟩
  ·exact ⟨i+1,⟨rfl,rfl,rfl,congrArg (Value.int .i64) Oo,trivial⟩,⟨by omega,qnz i2 (qvc (by rw [← eX];omega) (by rw [← eX,← eY];omega)),hx7⟩,by omega⟩
def TOpR (l:LB) (v:Value) (w0 w:World):Prop:=
 ((toE l).2≠0∧∃ e,v=.tuple #[.pointer none,e]∧ErrAt w e (toE l).1 (toE l).2)∨
 ((toE l).2=0∧∃ b,v=.tuple #[pp b,.nilIface]∧w0.heap.size≤b∧TreeAt w b l)
theorem qx2 (l:LB) (A:oA) (c:Nat) (w:World) (hS:SlAt encB 1 w A l) (hc:l.length≤c) (hl:l.length≤140737488355328) :
  Gv Tryz.prog 51 [.slice A l.length c] w fun v w'=>TOpR l v w w'∧Ext w w':=by
 refine ze Tryz.func51 Tryz.ntmps51 ?_;refine zcv (q2m l A c w hS hc hl) ?_;rintro v w1 ⟨⟨hE,e,rfl,q,rfl,hq⟩|⟨hE,b,rfl,hb,hT⟩,he1⟩
 ·refine zu ?_;have h1:=qaa9 hE;exact ⟨.inl ⟨by rw [h1];exact hE,_,rfl,by rw [h1];exact ⟨q,rfl,hq⟩⟩,he1⟩
 refine zu ?_;refine qy (fun k:Nat=>[(4,pp b),(16,ii k)]) (fun k w'=>k≤4∧(∀ j,j<k→(lvE l j).2=0)∧Ext w1 w') (fun k=>4-k) 0
  ⟨rfl,rfl,trivial⟩ ⟨Nat.zero_le _,fun j h=>absurd h (Nat.not_lt_zero _),xr⟩ ?_
 rintro k w2 ρ' ⟨k1,k2,he2⟩;(conv=>whnf);refine zC (fun _=>zu ?_) (fun _=>zu ?_)
 ·have hlook:∀ o,o=8*k→Gv Tryz.prog 103 [.pointer (some ⟨b,o,none⟩),ii k] w2 fun v w'=>LkR l k v w'∧Ext w2 w':=fun o ho=>by rw [ho];exact q4v l b k w2 (hT.ext he2) hE Oo hl
  refine zcv (hlook _ (by rw [lvSz];dsimp only;omega)) ?_;rintro v w3 ⟨⟨h0,rfl⟩|⟨h0,q,rfl,hq⟩,he3⟩
  ·refine zu ?_;exact ⟨k+1,⟨rfl,congrArg (Value.int .i64) Oo,trivial⟩,⟨by omega,fun j hj=>by
    by_cases e:j=k
    ·rw [e];exact h0
    ·exact k2 j Oo,he2.trans he3⟩,by omega⟩
  ·refine zu ?_;have h1:=qaep hE k2 Oo h0;exact ⟨.inl ⟨by rw [h1];exact h0,_,rfl,by rw [h1];exact ⟨q,rfl,hq⟩⟩,he1.trans (he2.trans he3)⟩
 ·obtain rfl:k=4:=by omega
  exact ⟨.inr ⟨q7x hE k2,b,rfl,hb,hT.ext he2⟩,he1.trans he2⟩
theorem qpj (a b:ByteArray) (w:World) (ha:a.size≤4194304) :
  Gv Tryz.prog 115 [.string a,.string b] w fun r w'=>r=ii (comL a.data.toList b.data.toList)∧Ext w w':=by
 have la:a.data.toList.length=a.size:=rfl;have lb:b.data.toList.length=b.size:=rfl;refine ze Tryz.func115 Tryz.ntmps115 ?_;refine qy (fun i:Nat=>[(0,.string a),(1,.string b),(5,ii i)]) (fun i w'=>i≤a.size∧i≤b.size∧(∀ j,j<i→a.data.toList[j]?=b.data.toList[j]?)∧Ext w w') (fun i=>a.size-i) 0 ⟨rfl,rfl,rfl,trivial⟩ ⟨Nat.zero_le _,Nat.zero_le _,fun j h=>by omega,xr⟩ ?_;rintro i w1 ρ' ⟨i1,i2,i3,he⟩;(conv=>whnf);refine zy ?_
 (repeat' (first|refine zp ?_|refine zC (fun _=>zw ?_) (fun _=>zw ?_)))
 all_goals first
  | exact ⟨i+1,⟨rfl,rfl,rfl,trivial⟩,⟨by omega,by omega,fun j hj=>by
    by_cases e:j=i
    ·subst e;rw [qnk Oo,qnk Oo];exact congrArg some (UInt8.toNat_inj.1 Oo)
    ·exact i3 j Oo,he.drew⟩,by omega⟩
  | exact ⟨by rw [qry i3 Oo Oo fun g1 g2=>by omega],he.drew⟩
  | (refine ⟨?_,he.drew⟩;rw [qry i3 Oo Oo fun g1 g2=>by
    rw [qnk Oo,qnk Oo];intro e;have:=congrArg UInt8.toNat (Option.some.inj e);omega])
theorem qxl (b:Nat) (m:LB) (p:Nat) (w:World) (h:DictAt w b m) (hp:p≤(qa m).length) (hok:(numL ((qa m).drop p)).2.2=0) (hlt:(numL ((qa m).drop p)).1≤4194304) :
  Gv Tryz.prog 166 [pp b,ii p] w fun r w'=>r=ii (numL ((qa m).drop p)).1∧Ext w w':=by
 obtain ⟨⟨P,cp,E,ce,h1,h2,h3,h4⟩,h5,h6,h7,h8⟩:=h;obtain ⟨D,eD⟩:∃ D,D=qa m:=⟨_,rfl⟩
 rw [← eD] at h1 h3 h4 h8 hp hok hlt ⊢;refine ze Tryz.func166 Tryz.ntmps166 ?_;refine LoadV.own h1 rfl (zw ?_);refine SliceV.bs h3 rfl p D.length ce rfl rfl rfl Oo znr h4 znr (fun h=>by cases h) ?_;intro A' hA';rw [List.take_of_length_le Js] at hA';(conv=>whnf);obtain ⟨B,eB⟩:∃ B,B=D.drop p:=⟨_,rfl⟩
 have hBl:B.length=D.length-p:=by rw [eB,zld]
 rw [← eB] at hA' hok hlt ⊢;have hvB:∀ w',Ext w w'→BS w' (.slice A' (D.length-p) (ce-p)) B:=fun w' he=>⟨A',ce-p,by rw [hBl],by rw [hBl];omega,hA'.ext he⟩
 refine zcv (qdv _ B w (hvB w xr)) ?_;rintro v w1 ⟨cb,rfl,hcb,hco,he1⟩;have hm:Mem w w1 [(cb,curO 244 (.slice A' (D.length-p) (ce-p)) 0 0)]:=(Mem.nil w).fresh he1 hcb hco;(conv=>whnf);refine zcv (qcm cb _ 0 0 B w1 (hm.get mh) (hvB w1 hm.ext) (Nat.zero_le _) Oo) ?_;rintro r w2 ⟨rfl,hu⟩;obtain ⟨q1,q2,q3⟩:=qo4 (l:=B) (a:=0) hok;rw [q1];have hm:=hm.upd (i:=0) rfl hu;obtain ⟨x,ex⟩:∃ x,x=(numL (B.drop 0)).1:=⟨_,rfl⟩
 have hx:(numL B).1=x:=by rw [ex];rfl
 rw [hx] at hlt ⊢;rw [← ex];refine zu ?_;exact ⟨rfl,hm.ext⟩
def DOpR (m:LB) (v:Value) (w0 w:World):Prop:=
 ((doE m).2≠0∧∃ e,v=.tuple #[.pointer none,e]∧ErrAt w e (doE m).1 (doE m).2)∨
 ((doE m).2=0∧∃ b,v=.tuple #[pp b,.nilIface]∧w0.heap.size≤b∧DictAt w b m)
theorem DOpR.err {m:LB} {a e q:Nat} {w0 w:World} (h:doE m=(a,e)) (h0:e≠0) (hv:CellsAt w q 0 [ii a,.iface 26 (ii e)]):DOpR m (.tuple #[.pointer none,.iface 104 (pp q)]) w0 w:=
 .inl ⟨by rw [h];exact h0,_,rfl,by rw [h];exact ⟨q,rfl,hv⟩⟩
theorem qnf {m ahead:LB} (h:(entG m false ahead).2.2=0):(numL m).2.2=0:=by
 refine Classical.byContradiction fun hn=>?_;unfold entG at h;simp only [Bool.false_eq_true,if_false] at h;rw [if_pos hn] at h;exact hn h
theorem qwj (m:LB) (A:oA) (c:Nat) (w:World) (hS:SlAt encB 1 w A m) (hc:m.length≤c) (hl:m.length≤140737488355328) :
  Gv Tryz.prog 99 [.slice A m.length c] w fun v w'=>DOpR m v w w'∧Ext w w':=by
 refine ze Tryz.func99 Tryz.ntmps99 ?_;refine zcv (ql2 m A c w hS hc hl) ?_;rintro v w1 ⟨⟨hE,e,rfl,q,rfl,hq⟩|⟨hE,b,rfl,hb,hD⟩,he1⟩
 ·refine zu ?_;exact ⟨.err (qnc hE) hE hq,he1⟩
 have hW:=hD.width;obtain ⟨P,cp,F,ce,h1,h2,h3,h4⟩:=hD.h;have hdn:=hD.n;have hds:=hD.size;have hdp:=hD.places;have hde:=hD.entries;have e4:ql m=qa9 m+(qr m).length:=by rw [hdp];rfl
 have e3:qa9 m≤m.length:=qf8 m 2;have hdpl:(qr m).length≤4194304*27:=by
  have:=Nat.mul_le_mul (Nat.le_trans (qaq _ _ Od) hdn:upN (dN m) 16≤4194304) hW;omega
 have hub:upN (dN m) 16≤4194304:=Nat.le_trans (qaq _ _ Od) hdn;refine zu ?_;obtain ⟨E,eE⟩:∃ E,E=opE (qr m) (upN (dN m) 16) (dW m):=⟨_,rfl⟩
 obtain ⟨A1,n1,c1,x1,y1,hagg⟩:∃ A1 n1 c1,∃ x1 y1:Int,(if opE (qr m) (upN (dN m) 16) (dW m)=0 then #[.slice P (qr m).length cp,ii (upN (dN m) 16),ii (dW m)] else #[.slice none 0 0,ii 0,ii 0])=#[Value.slice A1 n1 c1,ii x1,ii y1]:=by
  split<;>exact ⟨_,_,_,_,_,rfl⟩
 refine DrawV.gen (fun S vals w'=>Nb w1.drew 249 3 (S 17) (vals 17) w') rfl Jk (fun vals=>Nb.start) (zw ?_);(iterate 3 (refine zg ?_));refine StepG.of (.slice P (qr m).length cp) (fun S vals wd hk hp hI=>zw ?_) (zw ?_)
 ·refine LoadV.own (((Ext.refl w1).drew.trans hI.e).get h1) rfl (zw ?_);exact ⟨rfl,hI⟩
 (iterate 3 (refine zg ?_));refine StepG.of (ii (dN m)) (fun S vals wd hk hp hI=>zw ?_) (zw ?_)
 ·refine LoadV.own (((Ext.refl w1).drew.trans hI.e).get h1) rfl (zw ?_);exact ⟨rfl,hI⟩
 refine StepG.of (ii (upN (dN m) 16)) (fun S vals wd hk hp hI=>zw ?_) (zw ?_)
 ·refine zcv (qfq (dN m) wd hdn) ?_;rintro v w9 ⟨rfl,rfl⟩;exact ⟨rfl,hI⟩
 (iterate 3 (refine zg ?_));refine StepG.of (ii (dW m)) (fun S vals wd hk hp hI=>zw ?_) (zw ?_)
 ·refine LoadV.own (((Ext.refl w1).drew.trans hI.e).get h1) rfl (zw ?_);exact ⟨rfl,hI⟩
 refine StepG.of (.tuple #[.agg #[.slice A1 n1 c1,ii x1,ii y1],ii E]) (fun S vals wd hk hp hI=>zw ?_) (zw ?_)
 ·refine zcv (qpp (qr m) P cp (upN (dN m) 16) (dW m) wd (h2.ext ((Ext.refl w1).drew.trans hI.e)) hdp hub Oo) ?_;rintro v w9 ⟨rfl,h9⟩;exact ⟨by rw [hagg,eE];rfl,hI.call h9⟩
 (iterate 3 (refine zg ?_));refine StepG.any (fun S vals wd hk hp hI=>?_) (zw ?_)
 ·dsimp only at hI;rw [hk] at hI;(conv=>whnf);refine ⟨fun x wx hb hw=>?_⟩;subst hb hw;(conv=>whnf);exact ⟨trivial,hI.alloc rfl⟩
 refine StepG.of undef (fun S vals wd hk hp hI=>?_) (zw ?_)
 ·have h16:S 17=true:=hp 17 Od;dsimp only at hI;rw [h16] at hI;obtain ⟨x,hx,_⟩:=hI.b rfl;rw [qq hx];(conv=>whnf);refine hI.store hx rfl (by intro v hv;simp at hv;rcases hv with rfl|rfl|rfl<;>rfl) ?_;intro wx hIx;(conv=>whnf);exact ⟨rfl,by show Nb _ _ _ (S 17) (pp x) _;rw [h16,← hx];exact hIx⟩
 refine zg ?_;intro vals w2 hI;have he2:Ext w1 w2:=(Ext.refl w1).drew.trans hI.e;clear hI;(conv=>whnf);refine zC (fun _=>zu ?_) (fun _=>zu ?_)
 ·rename_i hne
  have h0:opE (qr m) (upN (dN m) 16) (dW m)≠0:=by omega
  have h12:E=12:=by rw [eE];unfold opE at h0 ⊢;split at h0<;>simp_all
  have hpos:=q91 h0;rw [show ((ql m:Nat):Int)-1=((ql m-1:Nat):Int) by omega];refine zcv (qbb (ql m-1) E w2) ?_;rintro v w3 ⟨⟨q,rfl,hq⟩,he3⟩;rw [h12] at hq;(conv=>whnf);exact ⟨.err (qzd hE h0) Od hq,he1.trans (he2.trans he3)⟩
 rename_i hE0
 have hE0:opE (qr m) (upN (dN m) 16) (dW m)=0:=by omega
 refine LoadV.own (he2.get h1) rfl (zw ?_);refine qy (fun x:Nat × ByteArray × Nat=>[(4,pp b),(6,ii (ql m)),(10,ii x.2.2),(11,.string x.2.1),(52,ii (dN m)),(53,ii x.1)])
  (fun x w'=>x.1≤dN m∧dSt m x.1=(x.2.1.data.toList,x.2.2)∧DSt m x.1 x.2.1.data.toList x.2.2∧x.2.1.size≤262144∧(∀ j,j<x.1→(dnF m j).2=0)∧Ext w1 w') (fun x=>dN m-x.1) (0,⟨#[]⟩,0)
  ⟨rfl,rfl,rfl,rfl,rfl,rfl,trivial⟩ ⟨Nat.zero_le _,rfl,⟨Nat.zero_le _,fun j h=>by omega⟩,Nat.zero_le _,fun j h=>absurd h (Nat.not_lt_zero _),he2⟩ ?_
 rintro ⟨i,last,p⟩ w3 ρ' ⟨i1,hdst,hst,hlast,hfine,he3⟩;dsimp only at i1 hdst hst hlast hfine he3 ⊢;have hD3:=hD.ext he3;have hple:=hst.le;have hat:=fun {a e:Nat} (h4:i<dN m) (h5:dnF m i=(a,e)) (h6:e≠0)=>qacl hE hE0 hfine h4 h5 h6
 (conv=>whnf)
 (repeat' (first|refine zp ?_|refine zC (fun _=>zw ?_) (fun _=>zw ?_)))
 rotate_right
 ·obtain rfl:i=dN m:=by omega
  refine LoadV.own (he3.get h1) rfl (zw ?_);refine zC (fun _=>zu ?_) (fun _=>zu ?_)
  ·rename_i hlt
   rw [show ((ql m:Nat):Int)+(p:Int)=((ql m+p:Nat):Int) by omega];refine zcv (qbb (ql m+p) 13 w3) ?_;rintro v w4 ⟨⟨q,rfl,hq⟩,he4⟩;(conv=>whnf);have h13:=qus hE hE0 hfine (by rw [hdst];dsimp only;omega);rw [hdst] at h13;exact ⟨.err h13 Od hq,he1.trans (he3.trans he4)⟩
  ·rename_i hlt
   have h0:=q67 hE hE0 hfine (by rw [hdst];dsimp only;omega);exact ⟨.inr ⟨by rw [h0],b,rfl,hb,hD3⟩,he1.trans he3⟩
 rw [show (i:Int)/16=((i/16:Nat):Int) by omega];refine zcv (qkx b m (i/16) w3 hD3 (by unfold upN;omega)) ?_;rintro r w4 ⟨rfl,rfl⟩;obtain ⟨pl,epl⟩:∃ pl,pl=q6 m (i/16):=⟨_,rfl⟩
 rw [← epl];(conv=>whnf);refine zt ?_;refine zC (fun _=>zu ?_) (fun _=>zu ?_)
 ·rename_i hne
  rw [show ((ql m:Nat):Int)+(p:Int)=((ql m+p:Nat):Int) by omega];refine zcv (qbb (ql m+p) 161 w4) ?_;rintro v w5 ⟨⟨q,rfl,hq⟩,he5⟩;(conv=>whnf);exact ⟨.err (hat Oo (qna hdst Oo Oo) Od) Od hq,he1.trans (he3.trans he5)⟩
 all_goals
  have hpp:i%16=0→q6 m (i/16)=p:=fun h=>by omega
  obtain ⟨first,hf⟩:∃ f,f=decide (i%16=0):=⟨_,rfl⟩
  have hd:decide ((i:Int)%16=0)=first:=by rw [hf];exact decide_eq_decide.2 Oo
  rw [hd];refine zcv (qka b m p first last _ hD3 Oo hlast) ?_;rintro r w5 ⟨rfl,he5⟩;have hx5:=he3.trans he5
  by_cases he:(entG ((qa m).drop p) first last.data.toList).2.2=0
  case neg=>
   have hdn:=qzc hdst hf hpp he;rw [qcb,if_neg Oo,if_pos he];obtain ⟨e,ee⟩:∃ e,e=(entG ((qa m).drop p) first last.data.toList).2.2:=⟨_,rfl⟩
   rw [← ee] at he hdn ⊢;have hev:entV ([],0,e)=.tuple #[.string ⟨#[]⟩,ii 0,ii e]:=rfl;rw [hev];refine zu ?_;rw [show ((ql m:Nat):Int)+(p:Int)=((ql m+p:Nat):Int) by omega];refine zcv (qbb (ql m+p) e w5) ?_;rintro v w6 ⟨⟨q,rfl,hq⟩,he6⟩;(conv=>whnf);exact ⟨.err (hat Oo hdn he) he hq,he1.trans (hx5.trans he6)⟩
  have hst':=hst.step hpp hf he;have hdst':=qei hdst hf;have hsz:=(qcn he).1;have hdo:=q65 hdst hf hpp he;have hok:=qaee hdst hf hpp he;have hdf:=fun h1:i%16≠0=>q32 hdst hf h1 he
  have hsd:=fun h1:i%16≠0=>(show (entG ((qa m).drop p) false last.data.toList).2.2=0 by rw [show first=false by rw [hf];exact decide_eq_false h1] at he;exact he)
  rw [qcb,if_neg Oo,if_neg Oo];obtain ⟨X,eX⟩:∃ X:ByteArray,X=⟨(entG ((qa m).drop p) first last.data.toList).1.toArray⟩:=⟨_,rfl⟩
  have hX1:(entG ((qa m).drop p) first last.data.toList).1=X.data.toList:=by rw [eX]
  obtain ⟨y,ey⟩:∃ y,y=(entG ((qa m).drop p) first last.data.toList).2.1:=⟨_,rfl⟩
  rw [hX1,← ey] at hst' hdst';rw [hX1] at hsz;have hsz:X.size≤262144:=hsz;rw [hX1,q7h] at hdo hok;rw [hX1,q7h] at hdf;have hev:entV ((entG ((qa m).drop p) first last.data.toList).1,p+(entG ((qa m).drop p) first last.data.toList).2.1,0)=.tuple #[.string X,ii (p+y:Nat),ii 0]:=by rw [eX,ey];rfl
  rw [hev];have hnext:=fun hfin:dnF m i=(0,0)=>(show ∀ j,j<i+1→(dnF m j).2=0 from fun j hj=>by
   by_cases e:j=i
   ·rw [e,hfin]
   ·exact hfine j Oo)
  obtain ⟨z,ez⟩:∃ z,z=(slt X last||seq X last):=⟨_,rfl⟩
  rw [← ez] at hdo hok hdf;conv=>whnf
  (repeat' (first|refine zp ?_|refine zC (fun _=>zw ?_) (fun _=>zw ?_)))
  rw [← ez];cases z
  case true=>
   have hdn:=hdo Oo rfl;refine zv ?_;rw [show ((ql m:Nat):Int)+(p:Int)=((ql m+p:Nat):Int) by omega];refine zcv (qbb (ql m+p) 160 w5) ?_;rintro v w6 ⟨⟨q,rfl,hq⟩,he6⟩;(conv=>whnf);exact ⟨.err (hat Oo hdn Od) Od hq,he1.trans (hx5.trans he6)⟩
  refine zv ?_
 ·exact ⟨(i+1,X,p+y),⟨rfl,rfl,rfl,rfl,rfl,congrArg (Value.int .i64) (by simp only;omega),trivial⟩,⟨by simp only;omega,hdst',hst',hsz,hnext (hok (fun _=>rfl) (fun h=>by omega)),hx5⟩,by simp only;omega⟩
 ·exact ⟨(i+1,X,p+y),⟨rfl,rfl,rfl,rfl,rfl,congrArg (Value.int .i64) (by simp only;omega),trivial⟩,⟨by simp only;omega,hdst',hst',hsz,hnext (hok (fun h=>absurd h Oo) (fun h=>absurd h Oo)),hx5⟩,by simp only;omega⟩
 ·have hff:=hsd Oo;have h1:=qnf hff;have h2:=qne hff;have hls:last.data.toList.length=last.size:=rfl;refine zcv (qxl b m p w5 (hD.ext hx5) hple h1 Oo) ?_;rintro r w6 ⟨rfl,he6⟩;obtain ⟨s,es⟩:∃ s,s=(numL ((qa m).drop p)).1:=⟨_,rfl⟩
  rw [← es] at hok hdf ⊢;refine zu ?_;refine zcv (qpj last X w6 Oo) ?_;rintro r w7 ⟨rfl,he7⟩;have hx7:=hx5.trans (he6.trans he7);rw [qgt];obtain ⟨a,ea⟩:∃ a,a=comL X.data.toList last.data.toList:=⟨_,rfl⟩
  rw [← ea] at hok hdf ⊢;(conv=>whnf);refine zt ?_;refine zC (fun _=>zu ?_) (fun _=>zu ?_)
  ·rename_i hne
   have hdn:=hdf Oo rfl Oo;rw [show ((ql m:Nat):Int)+(p:Int)=((ql m+p:Nat):Int) by omega];refine zcv (qbb (ql m+p) 161 w7) ?_;rintro v w8 ⟨⟨q,rfl,hq⟩,he8⟩;(conv=>whnf);exact ⟨.err (hat Oo hdn Od) Od hq,he1.trans (hx7.trans he8)⟩
  ·exact ⟨(i+1,X,p+y),⟨rfl,rfl,rfl,rfl,rfl,congrArg (Value.int .i64) (by simp only;omega),trivial⟩,⟨by simp only;omega,hdst',hst',hsz,hnext (hok (fun _=>rfl) (fun h=>by omega)),hx7⟩,by simp only;omega⟩
def Alien (w:World) (x:Nat):Prop:=(∀ off k c,w.cell? ⟨x,off,none⟩≠some (.int k c))∧∀ cs t fz,w.heap[x]?=some (.cells cs t fz)→t≠253∧t≠153∧t≠263∧t≠98
theorem Alien.mark {w:World} {x:Nat} {ds:Option (List Deferred)} (h:w.heap[x]?=some (.deferred ds)):Alien w x:=by
 refine ⟨fun off k c e=>?_,fun cs t fz e=>?_⟩
 ·unfold World.cell? at e;simp only [h] at e;cases e
 ·rw [h] at e;cases e
theorem Alien.one {w:World} {x:Nat} {v:Value} {t:TypeId} {fz:Nat × Nat} (h:w.heap[x]?=some (.cells #[v] t fz)) (hv:∀ k c,v≠.int k c) (ht:t≠253∧t≠153∧t≠263∧t≠98):Alien w x:=by
 refine ⟨fun off k c e=>?_,fun cs t' fz' e=>?_⟩
 ·rw [qc h] at e;cases off with
  | zero=>exact hv k c (Option.some.inj e)
  | succ n=>rw [Array.getElem?_eq_none Js] at e;cases e
 ·rw [h] at e
  injection e with e
  injection e with _ e _
  subst e;exact ht
section
variable {w w':World} {x:Nat} (ha:Alien w x) (hw:∀ c,c≠x→w'.heap[c]?=w.heap[c]?)
include ha hw
theorem qt1 {b off:Nat} {k:IntKind} {c:Int} {vs:List Value} (h:CellsAt w b off (.int k c::vs)):CellsAt w' b off (.int k c::vs):=by
 refine CellsAt.other h (x:=x) (fun e=>?_) hw;subst e;exact ha.1 _ _ _ (h 0 _ rfl)
theorem qji {A:oA} {l:LB} (h:SlAt encB 1 w A l):SlAt encB 1 w' A l:=by
 refine ⟨fun hn=>?_⟩;obtain ⟨b,off,h1,h2⟩:=h.at_ hn;exact ⟨b,off,h1,fun j y hy=>qt1 ha hw (h2 j y hy)⟩
theorem DictAt.alien {b:Nat} {m:LB} (h:DictAt w b m):DictAt w' b m:=by
 obtain ⟨⟨P,cp,E,ce,h1,h2,h3,h4⟩,h5,h6,h7,h8⟩:=h;have hb:b≠x:=fun e=>by subst e;exact (ha.2 _ _ _ h1).1 rfl
 exact ⟨⟨P,cp,E,ce,by rw [hw b hb];exact h1,qji ha hw h2,qji ha hw h3,h4⟩,h5,h6,h7,h8⟩
theorem VocAt.alien {b:Nat} {l:LB} (h:VocAt w b l):VocAt w' b l:=by
 obtain ⟨d,h1,h2⟩:=h;have hb:b≠x:=fun e=>by subst e;exact (ha.2 _ _ _ h1).2.1 rfl
 exact ⟨d,by rw [hw b hb];exact h1,fun k hk=>(h2 k hk).alien ha hw⟩
theorem VecP.alien {V s:Value} {l:LB} {k:Nat} (h:VecP w V s l k):VecP w' V s l k:=by
 rcases h with h|⟨h1,h2,vb,h3,h4⟩
 ·exact .inl h
 ·have hb:vb≠x:=fun e=>by subst e;exact (ha.2 _ _ _ h4).2.2.1 rfl
  exact .inr ⟨h1,h2,vb,h3,by rw [hw vb hb];exact h4⟩
theorem TreeAt.alien {b:Nat} {l:LB} (h:TreeAt w b l):TreeAt w' b l:=by
 refine ⟨fun k hk=>?_,h.n,h.wd⟩;obtain ⟨P,cp,S,cs,V,h1,h2,h3,h4,h5⟩:=h.lv k hk;exact ⟨P,cp,S,cs,V,qt1 ha hw h1,qji ha hw h2,qji ha hw h3,h4,h5.alien ha hw⟩
theorem PackAt.alien {b:Nat} {l:LB} (h:PackAt w b l):PackAt w' b l:=by
 obtain ⟨vb,tb,h1,h2,h3⟩:=h;have hb:b≠x:=fun e=>by subst e;exact (ha.2 _ _ _ h1).2.2.2 rfl
 exact ⟨vb,tb,by rw [hw b hb];exact h1,h2.alien ha hw,h3.alien ha hw⟩
end
namespace V
theorem qen {P:Program} {n:Nat} {fn:Func} {R:Value→World→Prop} {ρ:Nat→Value} {w0:World} {L:List (Nat × Obj)} {Φ:World→Prop} (hΦ:∀ w w' x,Alien w x→(∀ c,c≠x→w'.heap[c]?=w.heap[c]?)→Φ w→Φ w')
  (hk:∀ w',Mem w0 w' L→Φ w'→resV fn.results ρ w' fn R P n):∀ (Ds:List Nat) (w:World),Mem w0 w (Ds.map qdf++L)→Φ w→qkh P n fn R ρ (Ds.map qlm) w
 | [],w,h,hp=>hk w h hp
 | D::Ds,w,h,hp=>by
  show LeaveV P n fn R ρ (qlm D::Ds.map qlm) w;have hg:=h.get mh;refine LeaveV.mark hg fun w' hw=>?_;subst hw;exact qen hΦ hk Ds _ ((h.setO (i:=0) _ rfl rfl).sub (List.sublist_cons_self ..)) (hΦ _ _ D (Alien.mark hg) (fun c hc=>qfz hc) hp)
end V
theorem q37 (m:LB) (f:Bool) (a:LB):(entG m f a).2.1≤m.length:=by
 by_cases h:(entG m f a).2.2=0
 ·exact (qcn h).2
 ·unfold entG at h ⊢;obtain ⟨s,hs⟩:∃ s:Nat × Nat × Nat,s=if f then (0,0,0) else numL m:=⟨_,rfl⟩
  rw [← hs] at h ⊢;dsimp only at h ⊢
  split
  ·exact Nat.zero_le _
  rename_i g1
  rw [if_neg g1] at h
  split
  ·exact Nat.zero_le _
  rename_i g2
  rw [if_neg g2] at h
  split
  ·exact Nat.zero_le _
  rename_i g3
  rw [if_neg g3] at h
  split
  ·exact Nat.zero_le _
  rename_i g4
  rw [if_neg g4] at h
  split
  ·exact Nat.zero_le _
  rename_i g5
  rw [if_neg g5] at h;exact absurd rfl h
theorem qr1 (m:LB):∀ i,(dSt m i).2≤(qa m).length
 | 0=>Nat.zero_le _
 | i+1=>by
  have h1:=qr1 m i;have h2:=q37 ((qa m).drop (dSt m i).2) (decide (i%16=0)) (dSt m i).1;rw [zld] at h2;rw [dSt];show (dSt m i).2+_≤_;omega
theorem qack (m:LB) (i:Nat):(dnF m i).1≤ql m+(qa m).length:=by
 have h1:=qr1 m i;unfold dnF
 split
 ·show ql m+(dSt m i).2≤_;omega
 split
 ·show ql m+(dSt m i).2≤_;omega
 split
 ·show ql m+(dSt m i).2≤_;omega
 split
 ·show ql m+(dSt m i).2≤_;omega
 ·exact Nat.zero_le _
theorem q66 (m:LB):(doE m).1≤m.length:=by
 by_cases h:(dE m).2=0
 ·obtain ⟨_,_,h3⟩:=qaed h;have e:dEnd m=ql m+qgv m:=rfl;have h4:(qa m).length=m.length-ql m:=by rw [qa,zld]
  have h5:=qr1 m (dN m);rw [doE,if_neg Oo]
  split
  ·show ql m-1≤_;omega
  split
  ·have:=qng (fun k=>qack m k) (dN m);omega
  split
  ·show ql m+_≤_;omega
  ·exact Nat.zero_le _
 ·rw [qnc h];exact qach m
theorem qad9 (l:LB):(vwE l).1≤2*l.length+201326592:=by
 unfold vwE
 split
 ·have:=qaem l;omega
 ·rename_i h0
  obtain ⟨_,h3⟩:=qadt (l:=l) Oo;have hv:∀ k,k<3→(veF l k).1≤2*l.length+201326592:=fun k hk=>by
   have h4:=qhj h3 hk;have h5:=q66 (sDict l k);have h6:=qhi l k;unfold veF
   split
   ·exact Nat.zero_le _
   ·show qm l k+(doE (sDict l k)).1≤_;omega
  split
  ·exact qej 3 hv
  ·refine qej 3 fun k hk=>?_;have h4:=qhj h3 hk;unfold vrF
   split
   ·show qm l k≤_;omega
   ·exact Nat.zero_le _
theorem qade (l:LB) (k:Nat):(lvE l k).1≤tvAt l k+tEnd l k+1000000009:=by
 unfold lvE
 split
 ·show tEnd l k-1≤_;omega
 split
 ·show tvAt l k≤_;omega
 split
 ·unfold vcE
  split
  ·show tEnd l k≤_;omega
  rename_i g
  split
  ·have h1:=q76 (qg l k);have h2:qag (vN (qg l k)) (vM (qg l k))≤1000000000:=by
    have g1:tVec l k=true:=by simpa using g
    simp only [tVec,vOk,Bool.and_eq_true,decide_eq_true_eq] at g1;exact qlh _ _ g1.1.1.1.1.2 g1.1.1.1.2
   show tEnd l k+(voE (qg l k)).1≤_;omega
  split
  ·show tEnd l k≤_;omega
  ·exact Nat.zero_le _
 ·refine qng (fun i=>?_) _;unfold nmF
  split
  ·show tvAt l k+1≤_;omega
  split
  ·show tvAt l k+1≤_;omega
  ·exact Nat.zero_le _
theorem qad2 (l:LB):(toE l).1≤2*l.length+1000000009:=by
 by_cases h:(tE l).2=0
 ·rw [toE,if_neg Oo];refine qej 4 fun k hk=>?_;have h1:=qade l k;obtain ⟨_,h2⟩:=qk9 h;obtain ⟨z1,z2,z3⟩:=qrk (h2 k hk);have t2:tEnd l k≤tvAt l (k+1):=by rw [qbn];omega
  omega
 ·rw [qaa9 h];have:=qaeo l;omega
end Go.Proofs.YtkienlambankeaaGreatDoor
