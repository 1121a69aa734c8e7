/- Lemmas and contracts of functions on the way to the law's card (part 6 of 10). -/
import Derived.Test.YtkienlambankeaaGreatDoorPU5
import Derived.OrdersIn
namespace Go.Proofs.YtkienlambankeaaGreatDoor
set_option maxHeartbeats 8000000
open Go.RowKit V
theorem RiseT.at {T:List TM} (h:RiseT T) {i j:Nat} {a b:TM} (hij:i<j) (ha:T[i]?=some a) (hb:T[j]?=some b):LtT a b:=by
 obtain ⟨h1,rfl⟩:=List.getElem?_eq_some_iff.1 ha;obtain ⟨h2,rfl⟩:=List.getElem?_eq_some_iff.1 hb;exact (List.pairwise_iff_getElem.1 h) i j h1 h2 hij
theorem RiseT.inj {T:List TM} (h:RiseT T) {i j:Nat} {a:TM} (ha:T[i]?=some a) (hb:T[j]?=some a):i=j:=by
 rcases Nat.lt_trichotomy i j with g|g|g
 ·exact absurd (h.at g ha hb) (LtT.irrefl a)
 ·exact g
 ·exact absurd (h.at g hb ha) (LtT.irrefl a)
theorem RiseT.lt {T:List TM} (h:RiseT T) {i j:Nat} {a b:TM} (ha:T[i]?=some a) (hb:T[j]?=some b) (hl:LtT a b):i<j:=by
 rcases Nat.lt_trichotomy i j with g|g|g
 ·exact g
 ·subst g;rw [ha] at hb;cases hb;exact absurd hl (LtT.irrefl a)
 ·exact absurd (hl.trans (h.at g hb ha)) (LtT.irrefl a)
theorem RiseT.ext:∀ {S T:List TM},RiseT S→RiseT T→(∀ y,y∈S↔y∈T)→S=T
 | [],[],_,_,_=>rfl
 | [],b::T,_,_,h=>absurd ((h b).2 mh) Js
 | a::S,[],_,_,h=>absurd ((h a).1 mh) Js
 | a::S,b::T,hs,ht,h=>by
  obtain ⟨s1,s2⟩:=List.pairwise_cons.1 hs;obtain ⟨t1,t2⟩:=List.pairwise_cons.1 ht;have e:a=b:=by
   rcases List.mem_cons.1 ((h a).1 mh) with g|g
   ·exact g
   ·rcases List.mem_cons.1 ((h b).2 mh) with g2|g2
    ·exact g2.symm
    ·exact absurd ((t1 a g).trans (s1 b g2)) (LtT.irrefl b)
  subst e
  congr 1
  refine RiseT.ext s2 t2 fun y=>⟨fun hy=>?_,fun hy=>?_⟩
  ·rcases List.mem_cons.1 ((h y).1 (zmc hy)) with g|g
   ·subst g;exact absurd (s1 y hy) (LtT.irrefl y)
   ·exact g
  ·rcases List.mem_cons.1 ((h y).2 (zmc hy)) with g|g
   ·subst g;exact absurd (t1 y hy) (LtT.irrefl y)
   ·exact g
def noT (T:List TM) (t:TM):Nat:=if t.kind=0 then 0 else T.findIdx (fun x=>cmpT x t==0)+1
theorem qiy {T:List TM} {t:TM} (h:t.kind=0):noT T t=0:=by rw [noT,if_pos h]
theorem qo8 {T:List TM} (h:RiseT T) {i:Nat} {t:TM} (ht:T[i]?=some t) (hk:t.kind≠0):noT T t=i+1:=by
 obtain ⟨h1,h2⟩:=List.getElem?_eq_some_iff.1 ht;rw [noT,if_neg hk];have h3:T.findIdx (fun x=>cmpT x t==0)<T.length:=List.findIdx_lt_length_of_exists ⟨t,zmg ht,by simp [qbl]⟩;have h4:=List.findIdx_getElem (w:=h3);rw [beq_iff_eq,qbl] at h4;have:=h.inj (i:=T.findIdx (fun x=>cmpT x t==0)) (j:=i) (by rw [zge h3,h4]) ht;omega
theorem qaa5 (T:List TM) (t:TM) (h:t∈T∨t.kind=0):noT T t≤T.length:=by
 unfold noT
 split
 ·omega
 ·rename_i h0
  have:=List.findIdx_lt_length_of_exists (p:=fun x=>cmpT x t==0) (xs:=T) ⟨t,h.resolve_right h0,by simp [qbl]⟩;omega
theorem qaa6 {T:List TM} (h:RiseT T) (_h0:∀ t∈T,0≤t.kind) {a b:TM} (ha:a∈T∨a.kind=0) (hb:b∈T) (hk:b.kind≠0) (hl:LtT a b):noT T a<noT T b:=by
 obtain ⟨j,hj⟩:=List.mem_iff_getElem?.1 hb;rw [qo8 h hj hk]
 by_cases e:a.kind=0
 ·rw [qiy e];omega
 ·obtain ⟨i,hi⟩:=List.mem_iff_getElem?.1 (ha.resolve_right e);rw [qo8 h hi e];have:=h.lt hi hj hl;omega
def gat (q:Q4):Nat→TM
 | 0=>q.g
 | 1=>q.s
 | 2=>q.p
 | _=>q.o
def LtQ (q r:Q4):Prop:=∃ k,k<4∧(∀ j,j<k→gat q j=gat r j)∧LtT (gat q k) (gat r k)
def noQ (T:List TM) (qs:List Q4) (i k:Nat):Nat:=match qs[i]? with
 | some q=>noT T (gat q k)
 | none=>0
theorem qid {T:List TM} {qs:List Q4} {i k:Nat} {q:Q4} (h:qs[i]?=some q):noQ T qs i k=noT T (gat q k):=by rw [noQ,h]
structure SetOk (T:List TM) (qs:List Q4):Prop where
 rise:RiseT T
 few:T.length≤4194304
 kind:∀ t∈T,0<t.kind
 mem:∀ q∈qs,∀ k,k<4→gat q k∈T∨(k=0∧(gat q k).kind=0∧gat q k=zTM)
 len:qs.length≤1048576
 ord:qs.Pairwise LtQ
theorem SetOk.tok {T:List TM} {qs:List Q4} (h:SetOk T qs):TOk (noQ T qs) qs.length:=by
 refine ⟨h.len,fun i k hi hk=>?_,fun i h0 hi=>?_⟩
 ·have hq:qs[i]?=some qs[i]:=zge hi;rw [qid hq]
  rcases h.mem _ (List.getElem_mem hi) k hk with g|⟨g1,g2,_⟩
  ·refine ⟨fun _=>?_,Nat.le_trans (qaa5 _ _ (.inl g)) h.few⟩;have:=h.kind _ g;rw [noT,if_neg Oo];omega
  ·exact ⟨fun g=>absurd g1 g,by rw [qiy g2];omega⟩
 ·have hq:qs[i]?=some qs[i]:=zge hi;have hp:qs[i-1]?=some qs[i-1]:=zge Oo;obtain ⟨k,h1,h2,h3⟩:=(List.pairwise_iff_getElem.1 h.ord) (i-1) i Oo hi Oo;refine ⟨k,h1,fun j hj=>?_,?_⟩
  ·rw [qid hq,qid hp,h2 j hj]
  ·rw [qid hq,qid hp];have hb:gat qs[i] k∈T:=by
    rcases h.mem _ (List.getElem_mem hi) k h1 with g|⟨g1,g2,g3⟩
    ·exact g
    ·exfalso
     rcases h.mem _ (List.getElem_mem (show i-1<qs.length by omega)) k h1 with f|⟨f1,f2,f3⟩
     ·have:=h.kind _ f
      rcases h3 with h3|⟨h3,_⟩<;>omega
     ·rw [g3,f3] at h3;exact LtT.irrefl _ h3
   refine qaa6 h.rise (fun t ht=>by have:=h.kind t ht;omega) ?_ hb (by have:=h.kind _ hb;omega) h3
   rcases h.mem _ (List.getElem_mem (show i-1<qs.length by omega)) k h1 with f|⟨f1,f2,f3⟩
   ·exact .inl f
   ·exact .inr f2
def ofK (T:List TM) (k:Nat):List TM:=T.filter fun t=>decide (t.kind=((k+1:Nat):Int))
theorem qd4 (T:List TM) (k:Nat):secE T k=(ofK T k).map qbb:=rfl
theorem qiz {T:List TM} {k:Nat} {t:TM} (h:t∈ofK T k):t.kind=((k+1:Nat):Int):=by simpa using (List.mem_filter.1 h).2
theorem qmw {T:List TM} (h:RiseT T) (k:Nat):RiseT (ofK T k):=h.filter _
theorem qq4 {T:List TM} (h:RiseT T) (hk:∀ t∈T,1≤t.kind∧t.kind≤3):T=ofK T 0++(ofK T 1++ofK T 2):=by
 have hc:∀ {i j:Nat},i<j→∀ a∈ofK T i,∀ b∈ofK T j,LtT a b:=fun hij a ha b hb=>.inl (by rw [qiz ha,qiz hb];omega)
 refine RiseT.ext h ?_ fun y=>⟨fun hy=>?_,fun hy=>?_⟩
 ·refine List.pairwise_append.2 ⟨qmw h 0,List.pairwise_append.2 ⟨qmw h 1,qmw h 2,fun a ha b hb=>hc Od a ha b hb⟩,fun a ha b hb=>?_⟩
  rcases List.mem_append.1 hb with hb|hb
  ·exact hc Od a ha b hb
  ·exact hc Od a ha b hb
 ·have:=hk y hy;have hd:y.kind=1∨y.kind=2∨y.kind=3:=by omega
  rcases hd with e|e|e
  ·exact List.mem_append_left _ (List.mem_filter.2 ⟨hy,by rw [e];rfl⟩)
  ·exact List.mem_append_right _ (List.mem_append_left _ (List.mem_filter.2 ⟨hy,by rw [e];rfl⟩))
  ·exact List.mem_append_right _ (List.mem_append_right _ (List.mem_filter.2 ⟨hy,by rw [e];rfl⟩))
 ·rcases List.mem_append.1 hy with hy|hy
  ·exact (List.mem_filter.1 hy).1
  ·rcases List.mem_append.1 hy with hy|hy
   ·exact (List.mem_filter.1 hy).1
   ·exact (List.mem_filter.1 hy).1
section
variable {T:List TM} (h:VOk T) (hr:RiseT T) (hk:∀ t∈T,1≤t.kind∧t.kind≤3) (ht:∀ t∈T,qbr t=0)
include h
theorem VOk.tot1:vTot (vocB T) 1=(ofK T 0).length:=by rw [vTot,vTot,h.dN Od,qd4,List.length_map,Nat.zero_add]
theorem VOk.tot2:vTot (vocB T) 2=(ofK T 0).length+(ofK T 1).length:=by rw [vTot,h.tot1,h.dN Od,qd4,List.length_map]
theorem VOk.tot3:vTot (vocB T) 3=(ofK T 0).length+(ofK T 1).length+(ofK T 2).length:=by rw [vTot,h.tot2,h.dN Od,qd4,List.length_map]
include hr hk
theorem VOk.tot:vTot (vocB T) 3=T.length:=by
 have e:=congrArg List.length (qq4 hr hk);simp only [zla] at e;rw [h.tot3];omega
include ht
theorem VOk.sec {k j:Nat} {t:TM} (hk3:k<3) (hj:(ofK T k)[j]?=some t):(match dGet (Go.Proofs.YtkienlambankeaaGreatDoor.sDict (vocB T) k) j with
  | some s=>qgs ((k+1:Nat):Int) s
  | none=>none)=some t:=by
 have _h:=hr;have _k:=hk
 obtain ⟨h1,h2⟩:=List.getElem?_eq_some_iff.1 hj;have hm:=zmg hj;rw [h.get hk3 (by rw [qd4,List.length_map];exact h1)];refine qli ⟨qiz hm,ht t (List.mem_filter.1 hm).1,?_⟩;rw [tx,List.getD_eq_getElem?_getD,qd4,List.getElem?_map,hj];rfl
theorem VOk.term {i:Nat} {t:TM} (hi:T[i]?=some t):qds (vocB T) (i+1)=some t:=by
 have e:=qq4 hr hk;have hl:=(List.getElem?_eq_some_iff.1 hi).1;have t1:=h.tot1;have t2:=h.tot2;have t3:=h.tot3;have tt:=h.tot hr hk;rw [qds,if_neg Oo,if_neg Oo];rw [e] at hi
 by_cases c2:vTot (vocB T) 2<i+1
 ·rw [qdj,if_pos c2];refine h.sec hr hk ht Od ?_;rw [List.getElem?_append_right Oo,List.getElem?_append_right Oo] at hi;rw [← hi];congr 1<;>omega
 ·by_cases c1:vTot (vocB T) 1<i+1
  ·rw [qdj,if_neg c2,if_pos c1];refine h.sec hr hk ht Od ?_;rw [List.getElem?_append_right Oo,List.getElem?_append_left Oo] at hi;rw [← hi];congr 1<;>omega
  ·rw [qdj,if_neg c2,if_neg c1];refine h.sec hr hk ht Od ?_;rw [List.getElem?_append_left Oo] at hi;rw [← hi];congr 1<;>(rw [vTot];omega)
end
def encP (T:List TM) (qs:List Q4):LB:=qco qs.length T.length (vocB T) (qv (noQ T qs) qs.length)
structure EncOk (T:List TM) (qs:List Q4):Prop where
 set:SetOk T qs
 voc:VOk T
 kind3:∀ t∈T,t.kind≤3
 term:∀ t∈T,qbr t=0
 quad:∀ q∈qs,qcg q=0
 used:∀ t∈T,∃ q∈qs,∃ k,k<4∧gat q k=t
 size:(vocB T).length+(qv (noQ T qs) qs.length).length+36≤67108864
section
variable {T:List TM} {qs:List Q4} (h:EncOk T qs)
include h
theorem EncOk.v:qm (encP T qs)=vocB T:=q5s h.size
theorem EncOk.t:qe (encP T qs)=qv (noQ T qs) qs.length:=q5r h.size
theorem EncOk.kinds:∀ t∈T,1≤t.kind∧t.kind≤3:=fun t ht=>⟨by have:=h.set.kind t ht;omega,h.kind3 t ht⟩
theorem EncOk.n:vNum (qe (encP T qs)) 3=qs.length:=by rw [h.t,h.set.tok.vNum Od,h.set.tok.all znr]
theorem EncOk.no {t:TM} (ht:t∈T∨t=zTM):qds (qm (encP T qs)) (noT T t)=some t:=by
 rw [h.v]
 rcases ht with ht|ht
 ·obtain ⟨i,hi⟩:=List.mem_iff_getElem?.1 ht;rw [qo8 h.set.rise hi (by have:=h.set.kind t ht;omega)];exact h.voc.term h.set.rise h.kinds h.term hi
 ·subst ht;rw [qiy rfl,qds,if_pos rfl];rfl
theorem EncOk.told {i:Nat} {q:Q4} (hi:qs[i]?=some q) {k:Nat} (hk:k<4):qds (qm (encP T qs)) (tNum (qe (encP T qs)) i k)=some (gat q k):=by
 have hl:=(List.getElem?_eq_some_iff.1 hi).1;rw [h.t,h.set.tok.tNum hl hk,qid hi];refine h.no ?_
 rcases h.set.mem q (zmg hi) k hk with g|⟨_,_,g⟩
 ·exact .inl g
 ·exact .inr g
theorem EncOk.quad4 {i:Nat} {q:Q4} (hi:qs[i]?=some q):q4Of (qm (encP T qs)) (tNum (qe (encP T qs)) i)=q:=by
 unfold q4Of uT;rw [h.told hi (k:=0) Od,h.told hi (k:=1) Od,h.told hi (k:=2) Od,h.told hi (k:=3) Od];rfl
theorem EncOk.poE:poE (encP T qs)=(0,0):=by
 have hq:qs.length<4294967296:=by have:=h.set.len;omega
 have hT:T.length<4294967296:=by have:=h.set.few;omega
 refine q5u (qzq h.size) (q8c h.size) (q8d h.size) ?_ ?_ ?_ ?_ ?_ ?_
 ·rw [h.v];exact h.voc.vwE h.term
 ·rw [h.t];exact h.set.tok.toE
 ·rw [h.n];exact (q79 hq).symm
 ·rw [h.v,h.voc.tot h.set.rise h.kinds];exact (q8a hT).symm
 ·intro i hi;rw [h.n] at hi;have hi2:qs[i]?=some qs[i]:=zge hi;exact ⟨fun j hj=>by rw [h.told hi2 hj];exact (fun g=>(by cases g)),by rw [h.quad4 hi2];exact h.quad _ (List.getElem_mem hi)⟩
 ·intro id h1 h2;rw [h.v,h.voc.tot h.set.rise h.kinds] at h2;have ht:T[id-1]?=some T[id-1]:=zge Oo;obtain ⟨q,hq,k,hk,e⟩:=h.used _ (zmg ht);obtain ⟨i,hi⟩:=List.mem_iff_getElem?.1 hq;have hl:=(List.getElem?_eq_some_iff.1 hi).1;refine ⟨i,by rw [h.n];exact hl,k,hk,?_⟩;rw [h.t,h.set.tok.tNum hl hk,qid hi,e,qo8 h.set.rise ht (by have:=h.set.kind _ (zmg ht);omega)];omega
end
theorem qxf {a b:UInt8} (h:∀ r,r<8→a.toNat/2 ^ r%2=b.toNat/2 ^ r%2):a=b:=by
 have ha:a.toNat<256:=a.toBitVec.isLt;have hb:b.toNat<256:=b.toBitVec.isLt;have h0:=h 0 Od;have h1:=h 1 Od;have h2:=h 2 Od;have h3:=h 3 Od;have h4:=h 4 Od;have h5:=h 5 Od;have h6:=h 6 Od;have h7:=h 7 Od;simp only [Nat.reducePow,Nat.div_one] at h0 h1 h2 h3 h4 h5 h6 h7;exact UInt8.toNat_inj.1 Oo
theorem q1z {p q:LB} (hl:p.length=q.length) (h:∀ t,t<8*p.length→bitN p t=bitN q t):p=q:=by
 apply List.ext_getElem hl;intro b h1 h2;refine qxf fun r hr=>?_;have:=h (8*b+r) Oo;rw [bitN,bitN,show (8*b+r)/8=b by omega,show (8*b+r)%8=r by omega] at this
 rwa [List.getD_eq_getElem?_getD,zge h1,List.getD_eq_getElem?_getD,zge h2] at this
open Classical in
noncomputable def dicE (L:List LB):Nat:=
 if 4194304<L.length∨∃ i,262144<(tx L i).length then 2 else if ∃ i,i+1<L.length∧leL (tx L (i+1)) (tx L i)=true then 160 else if 67108864<(qal L).length then 1 else 0
theorem LtQ.trans {a b c:Q4} (h:LtQ a b) (g:LtQ b c):LtQ a c:=by
 obtain ⟨k,h1,h2,h3⟩:=h;obtain ⟨m,g1,g2,g3⟩:=g
 rcases Nat.lt_trichotomy k m with e|e|e
 ·exact ⟨k,h1,fun j hj=>(h2 j hj).trans (g2 j Oo),by rw [← g2 k e];exact h3⟩
 ·subst e;exact ⟨k,h1,fun j hj=>(h2 j hj).trans (g2 j hj),h3.trans g3⟩
 ·exact ⟨m,g1,fun j hj=>(h2 j Oo).trans (g2 j hj),by rw [h2 m e];exact g3⟩
theorem qzr {α:Type} {R:α→α→Prop} (ht:∀ a b c,R a b→R b c→R a c) {l:List α} (h:∀ i a b,l[i]?=some a→l[i+1]?=some b→R a b):l.Pairwise R:=by
 refine List.pairwise_iff_getElem.2 fun i j hi hj hij=>?_;obtain ⟨d,rfl⟩:∃ d,j=i+1+d:=⟨j-(i+1),by omega⟩
 clear hij
 induction d with
 | zero=>exact h i _ _ (zge hi) (zge hj)
 | succ d ih=>exact ht _ _ _ (ih Oo) (h (i+1+d) _ _ (zge Oo) (zge hj))
noncomputable def qsP (l:LB):List Q4:=(List.range (vNum (qe l) 3)).map fun i=>q4Of (qm l) (tNum (qe l) i)
theorem qabk {l:LB} {i:Nat} (hi:i<vNum (qe l) 3):(qsP l)[i]?=some (q4Of (qm l) (tNum (qe l) i)):=by rw [qsP,List.getElem?_map,List.getElem?_range hi];rfl
theorem qz2 (l:LB):(qsP l).length=vNum (qe l) 3:=by simp [qsP]
theorem qhk {l:LB} (h:(qao l).2=0):28≤l.length∧hN l 0=1095914324∧hN l 6=(crcL (l.take 24)).toNat∧hN l 1=1∧hN l 4+hN l 5+36≤67108864∧l.length=hN l 4+hN l 5+36:=by
 rw [qao] at h
 by_cases c1:l.length<28
 case pos=>rw [if_pos c1] at h;cases h
 rw [if_neg c1] at h
 by_cases c2:hN l 0≠1095914324
 case pos=>rw [if_pos c2] at h;cases h
 rw [if_neg c2] at h
 by_cases c3:hN l 6≠(crcL (l.take 24)).toNat
 case pos=>rw [if_pos c3] at h;cases h
 rw [if_neg c3] at h
 by_cases c4:hN l 1≠1
 case pos=>rw [if_pos c4] at h;cases h
 rw [if_neg c4] at h
 by_cases c5:67108864<hN l 4+hN l 5+36
 case pos=>rw [if_pos c5] at h;cases h
 rw [if_neg c5] at h
 by_cases c6:l.length<hN l 4+hN l 5+36
 case pos=>rw [if_pos c6] at h;cases h
 rw [if_neg c6] at h
 by_cases c7:hN l 4+hN l 5+36<l.length
 case pos=>rw [if_pos c7] at h;cases h
 exact ⟨by omega,Classical.not_not.1 c2,Classical.not_not.1 c3,Classical.not_not.1 c4,by omega,by omega⟩
section
variable {l:LB} (h:(poE l).2=0)
include h
end
def cmpQ (a b:Q4):Int:=if cmpT a.g b.g≠0 then cmpT a.g b.g else if cmpT a.s b.s≠0 then cmpT a.s b.s else if cmpT a.p b.p≠0 then cmpT a.p b.p else cmpT a.o b.o
theorem qxl {a b:Q4}:cmpQ a b<0↔LtQ a b:=by
 unfold cmpQ
 constructor
 ·intro h
  by_cases h0:cmpT a.g b.g≠0
  ·rw [if_pos h0] at h;exact ⟨0,by decide,fun j hj=>absurd hj (Nat.not_lt_zero _),qbt.1 h⟩
  rw [if_neg h0] at h;have e0:=qbl.1 (Classical.not_not.1 h0)
  by_cases h1:cmpT a.s b.s≠0
  ·rw [if_pos h1] at h;exact ⟨1,by decide,fun j hj=>by obtain rfl:j=0:=(by omega);exact e0,qbt.1 h⟩
  rw [if_neg h1] at h;have e1:=qbl.1 (Classical.not_not.1 h1)
  by_cases h2:cmpT a.p b.p≠0
  ·rw [if_pos h2] at h;refine ⟨2,by decide,fun j hj=>?_,qbt.1 h⟩
   rcases (show j=0∨j=1 by omega) with rfl|rfl
   ·exact e0
   ·exact e1
  rw [if_neg h2] at h;have e2:=qbl.1 (Classical.not_not.1 h2);refine ⟨3,by decide,fun j hj=>?_,qbt.1 h⟩
  rcases (show j=0∨j=1∨j=2 by omega) with rfl|rfl|rfl
  ·exact e0
  ·exact e1
  ·exact e2
 ·rintro ⟨k,hk,h1,h2⟩
  match k,hk with
  | 0,_=>
   have:=qbt.2 h2;have g:cmpT a.g b.g<0:=this;rw [if_pos Oo];exact g
  | 1,_=>
   have g:cmpT a.s b.s<0:=qbt.2 h2;rw [if_neg (fun x=>x (qbl.2 (h1 0 Od))),if_pos Oo];exact g
  | 2,_=>
   have g:cmpT a.p b.p<0:=qbt.2 h2;rw [if_neg (fun x=>x (qbl.2 (h1 0 Od))),if_neg (fun x=>x (qbl.2 (h1 1 Od))),if_pos Oo];exact g
  | 3,_=>
   have g:cmpT a.o b.o<0:=qbt.2 h2;rw [if_neg (fun x=>x (qbl.2 (h1 0 Od))),if_neg (fun x=>x (qbl.2 (h1 1 Od))),if_neg (fun x=>x (qbl.2 (h1 2 Od)))];exact g
def q1s (qs:List Q4) (n:Nat):Prop:=∀ i,i+1<n→∀ a b,qs[i]?=some a→qs[i+1]?=some b→LtQ a b
open Classical in
noncomputable def valE (qs:List Q4):Nat:=if 1048576<qs.length then 2 else if qc8 (qs.map qcg)≠0 then qc8 (qs.map qcg) else if q1s qs qs.length then 0 else 6
theorem q1a {qs:List Q4} (h:1048576<qs.length):valE qs=2:=by rw [valE,if_pos h]
theorem q1c {qs:List Q4} (h:¬ 1048576<qs.length) {i e:Nat} {q:Q4} (hq:qs[i]?=some q) (hj:∀ j r,j<i→qs[j]?=some r→qcg r=0) (he:qcg q=e) (h0:e≠0):valE qs=e:=by
 have hl:=(List.getElem?_eq_some_iff.1 hq).1;have e1:qc8 (qs.map qcg)=e:=by
  rw [qos (k:=i) (by rw [List.length_map];exact hl) (fun j hj1 hj2=>by rw [List.getElem_map];exact hj j _ hj2 (zge Oo))
   (by rw [List.getElem_map,(List.getElem?_eq_some_iff.1 hq).2,he];exact h0),List.getElem_map,(List.getElem?_eq_some_iff.1 hq).2,he]
 rw [valE,if_neg h,e1,if_pos h0]
theorem qlg {qs:List Q4} (h:∀ q∈qs,qcg q=0):qc8 (qs.map qcg)=0:=
 qdz fun j hj=>by rw [List.getElem_map];exact h _ (List.getElem_mem _)
theorem q4n {qs:List Q4} (h:¬ 1048576<qs.length) (hq:∀ q∈qs,qcg q=0) {i:Nat} {a b:Q4} (ha:qs[i]?=some a) (hb:qs[i+1]?=some b) (hn:¬ LtQ a b):valE qs=6:=by
 have hl:=(List.getElem?_eq_some_iff.1 hb).1;rw [valE,if_neg h,qlg hq,if_neg (fun g=>g rfl),if_neg (fun g=>hn (g i hl a b ha hb))]
theorem q1b {qs:List Q4} (h:¬ 1048576<qs.length) (hq:∀ q∈qs,qcg q=0) (hr:q1s qs qs.length):valE qs=0:=by
 rw [valE,if_neg h,qlg hq,if_neg (fun g=>g rfl),if_pos hr]
theorem qhf:∀ {l:List Nat},qc8 l=0→∀ x∈l,x=0
 | [],_,x,hx=>by cases hx
 | y::l,h,x,hx=>by
  rw [qc8] at h
  by_cases e:y=0
  ·rw [if_neg (fun g=>g e)] at h
   rcases List.mem_cons.1 hx with rfl|hx
   ·exact e
   ·exact qhf h x hx
  ·rw [if_pos e] at h;exact absurd h e
theorem qe3 {qs:List Q4} (h:valE qs=0):qs.length≤1048576∧(∀ q∈qs,qcg q=0)∧qs.Pairwise LtQ:=by
 unfold valE at h
 by_cases h1:1048576<qs.length
 case pos=>rw [if_pos h1] at h;cases h
 rw [if_neg h1] at h
 by_cases h2:qc8 (qs.map qcg)≠0
 case pos=>rw [if_pos h2] at h;exact absurd h h2
 rw [if_neg h2] at h
 by_cases h3:q1s qs qs.length
 case neg=>rw [if_neg h3] at h;cases h
 refine ⟨by omega,fun q hq=>qhf (Classical.not_not.1 h2) _ (List.mem_map.2 ⟨q,hq,rfl⟩),qzr (R:=LtQ) (fun _ _ _ h g=>LtQ.trans h g) fun i a b ha hb=>h3 i (List.getElem?_eq_some_iff.1 hb).1 a b ha hb⟩
theorem qm5 {q:Q4} (h:qcg q=0) {k:Nat} (hk:k<4):qE k (q.at k)=0:=qhf h _ (List.mem_map.2 ⟨k,List.mem_range.2 hk,rfl⟩)
theorem qm4 {k:Nat} {t:TM} (h:qE k t=0):canB k t=true∧((k=3∧t.kind=0)∨qbr t=0):=by
 unfold qE at h
 by_cases h1:canB k t=false
 case pos=>rw [if_pos h1] at h;cases h
 rw [if_neg h1] at h;refine ⟨by simpa using h1,?_⟩
 by_cases h2:k=3∧t.kind=0
 ·exact .inl h2
 ·rw [if_neg h2] at h;exact .inr h
theorem qwn {t:TM} (h:qbr t=0):1≤t.kind∧t.kind≤3:=by
 unfold qbr at h
 by_cases h1:t.kind=1∨t.kind=2
 ·omega
 ·rw [if_neg h1] at h
  by_cases h2:t.kind=3
  ·omega
  ·rw [if_neg h2] at h;cases h
theorem q4x {t:TM} (h:q4w t=true):t=zTM:=qb0.1 h
theorem qt0 {q:Q4} (h:qcg q=0) {k:Nat} (hk:k<4):(qbr (gat q k)=0∧gat q k∈trQ q)∨(k=0∧(gat q k).kind=0∧gat q k=zTM):=by
 match k,hk with
 | 0,_=>
  obtain ⟨h1,h2⟩:=qm4 (qm5 h (k:=3) Od)
  by_cases h0:q.g.kind=0
  ·refine .inr ⟨rfl,h0,?_⟩;have h1:canB 3 q.g=true:=h1;rw [canB,if_neg Oo,if_neg Oo,if_neg Oo] at h1;simp only [Bool.or_eq_true,decide_eq_true_eq] at h1
   rcases h1 with (h1|h1)|h1
   ·exact q4x h1
   ·omega
   ·omega
  ·refine .inl ⟨h2.resolve_left fun g=>h0 g.2,?_⟩;rw [trQ,if_neg h0];exact List.mem_append_right _ (List.mem_singleton.2 rfl)
 | 1,_=>
  obtain ⟨_,h2⟩:=qm4 (qm5 h (k:=0) Od);exact .inl ⟨h2.resolve_left fun g=>absurd g.1 Od,List.mem_append_left _ mh⟩
 | 2,_=>
  obtain ⟨_,h2⟩:=qm4 (qm5 h (k:=1) Od);exact .inl ⟨h2.resolve_left fun g=>absurd g.1 Od,List.mem_append_left _ (zmc mh)⟩
 | 3,_=>
  obtain ⟨_,h2⟩:=qm4 (qm5 h (k:=2) Od);exact .inl ⟨h2.resolve_left fun g=>absurd g.1 Od,List.mem_append_left _ (zmc (zmc mh))⟩
theorem q0z {q:Q4} {t:TM} (h:t∈trQ q):∃ k,k<4∧gat q k=t∧(k=0→(gat q k).kind≠0):=by
 rw [trQ] at h
 rcases List.mem_append.1 h with h|h
 ·simp only [List.mem_cons,List.not_mem_nil,or_false] at h
  rcases h with rfl|rfl|rfl
  ·exact ⟨1,by decide,rfl,fun g=>by cases g⟩
  ·exact ⟨2,by decide,rfl,fun g=>by cases g⟩
  ·exact ⟨3,by decide,rfl,fun g=>by cases g⟩
 ·by_cases h0:q.g.kind=0
  ·rw [if_pos h0] at h;cases h
  ·rw [if_neg h0] at h;rw [List.mem_singleton.1 h];exact ⟨0,by decide,rfl,fun _=>h0⟩
def tmsQ (qs:List Q4):List TM:=tmsN (trms qs).length (trms qs)
theorem qkd (qs:List Q4):RiseT (tmsQ qs):=(qg2 _ (trms qs) znr).1
theorem qtm {qs:List Q4} {t:TM}:t∈trms qs↔∃ q∈qs,t∈trQ q:=by
 simp only [trms,List.mem_flatten,List.mem_map]
 constructor
 ·rintro ⟨_,⟨q,hq,rfl⟩,ht⟩;exact ⟨q,hq,ht⟩
 ·rintro ⟨q,hq,ht⟩;exact ⟨_,⟨q,hq,rfl⟩,ht⟩
theorem qgk {qs:List Q4} {t:TM}:t∈tmsQ qs↔∃ q∈qs,t∈trQ q:=by
 rw [← qtm];exact (qg2 _ (trms qs) znr).2 t
section
variable {qs:List Q4} (h:valE qs=0)
include h
theorem qe0 {t:TM} (ht:t∈tmsQ qs):qbr t=0∧1≤t.kind∧t.kind≤3:=by
 obtain ⟨q,hq,hm⟩:=qgk.1 ht;obtain ⟨k,hk,rfl,h0⟩:=q0z hm
 rcases qt0 ((qe3 h).2.1 q hq) hk with g|⟨g1,g2,_⟩
 ·exact ⟨g.1,qwn g.1⟩
 ·exact absurd g2 (h0 g1)
theorem qud (hn:(tmsQ qs).length≤4194304):SetOk (tmsQ qs) qs:=by
 obtain ⟨h1,h2,h3⟩:=qe3 h;refine ⟨qkd qs,hn,fun t ht=>by have:=qe0 h ht;omega,fun q hq k hk=>?_,h1,h3⟩
 rcases qt0 (h2 q hq) hk with g|g
 ·exact .inl (qgk.2 ⟨q,hq,g.2⟩)
 ·exact .inr g
theorem q4a (hn:(tmsQ qs).length≤4194304) (hv:VOk (tmsQ qs)) (hs:(vocB (tmsQ qs)).length+(qv (noQ (tmsQ qs) qs) qs.length).length+36≤67108864):EncOk (tmsQ qs) qs:=by
 refine ⟨qud h hn,hv,fun t ht=>(qe0 h ht).2.2,fun t ht=>(qe0 h ht).1,fun q hq=>(qe3 h).2.1 q hq,fun t ht=>?_,hs⟩;obtain ⟨q,hq,hm⟩:=qgk.1 ht;obtain ⟨k,hk,e,_⟩:=q0z hm;exact ⟨q,hq,k,hk,e⟩
end
theorem qaac {L:List LB} (h:¬ 4194304<L.length) (h2:∀ i,¬ 262144<(tx L i).length) {i:Nat} (hi:i+1<L.length) (hl:leL (tx L (i+1)) (tx L i)=true):dicE L=160:=by
 rw [dicE,if_neg (fun g=>g.elim h fun ⟨i,g⟩=>h2 i g),if_pos ⟨i,hi,hl⟩]
theorem qaab {L:List LB} (h:¬ 4194304<L.length) (h2:∀ i,¬ 262144<(tx L i).length) (h3:∀ i,i+1<L.length→leL (tx L (i+1)) (tx L i)=false) (h4:67108864<(qal L).length):dicE L=1:=by
 rw [dicE,if_neg (fun g=>g.elim h fun ⟨i,g⟩=>h2 i g),if_neg (fun ⟨i,g,g2⟩=>by rw [h3 i g] at g2;cases g2),if_pos h4]
theorem qqo {L:List LB} (h:DOk L):dicE L=0:=by
 have h1:=h.n;have h4:=h.area;rw [dicE,if_neg (fun g=>g.elim Oo fun ⟨i,g⟩=>by have:=h.len i;omega),if_neg (fun ⟨i,g,g2⟩=>by rw [h.rise i g] at g2;cases g2),if_neg Oo]
theorem qgb {L:List LB} (h:dicE L=0):DOk L:=by
 unfold dicE at h
 by_cases h1:4194304<L.length∨∃ i,262144<(tx L i).length
 case pos=>rw [if_pos h1] at h;cases h
 rw [if_neg h1] at h
 by_cases h2:∃ i,i+1<L.length∧leL (tx L (i+1)) (tx L i)=true
 case pos=>rw [if_pos h2] at h;cases h
 rw [if_neg h2] at h
 by_cases h3:67108864<(qal L).length
 case pos=>rw [if_pos h3] at h;cases h
 refine ⟨Nat.not_lt.1 fun g=>h1 (.inl g),fun i=>Nat.not_lt.1 fun g=>h1 (.inr ⟨i,g⟩),fun i hi=>?_,by omega⟩;cases e:leL (tx L (i+1)) (tx L i) with
 | false=>rfl
 | true=>exact absurd ⟨i,hi,e⟩ h2
noncomputable def qdk (T:List TM):Nat:=if dicE (secE T 0)≠0 then dicE (secE T 0) else if dicE (secE T 1)≠0 then dicE (secE T 1) else dicE (secE T 2)
theorem q4s {T:List TM} {k:Nat} (hk:k<3) (h:∀ j,j<k→dicE (secE T j)=0) (h0:dicE (secE T k)≠0):qdk T=dicE (secE T k):=by
 match k,hk with
 | 0,_=>rw [qdk,if_pos h0]
 | 1,_=>rw [qdk,if_neg (fun g=>g (h 0 Od)),if_pos h0]
 | 2,_=>rw [qdk,if_neg (fun g=>g (h 0 Od)),if_neg (fun g=>g (h 1 Od))]
theorem quq {T:List TM} (h:∀ k,k<3→dicE (secE T k)=0):qdk T=0:=by
 rw [qdk,if_neg (fun g=>g (h 0 Od)),if_neg (fun g=>g (h 1 Od))];exact h 2 Od
theorem qlp {T:List TM} (h:qdk T=0):∀ k,k<3→dicE (secE T k)=0:=by
 unfold qdk at h
 by_cases h0:dicE (secE T 0)≠0
 case pos=>rw [if_pos h0] at h;exact absurd h h0
 rw [if_neg h0] at h
 by_cases h1:dicE (secE T 1)≠0
 case pos=>rw [if_pos h1] at h;exact absurd h h1
 rw [if_neg h1] at h;intro k hk
 match k,hk with
 | 0,_=>exact Classical.not_not.1 h0
 | 1,_=>exact Classical.not_not.1 h1
 | 2,_=>exact h
def pkB (qs:List Q4):LB:=encP (tmsQ qs) qs
theorem qjx (qs:List Q4):(pkB qs).length=(vocB (tmsQ qs)).length+(qv (noQ (tmsQ qs) qs) qs.length).length+36:=qty _ _ _ _
noncomputable def encE (qs:List Q4) (most:Int):Nat:=
 if valE qs≠0 then valE qs else if qdk (tmsQ qs)≠0 then qdk (tmsQ qs) else if most<((pkB qs).length:Int)∨67108864<(pkB qs).length then 1 else 0
section
variable {qs:List Q4} {most:Int}
theorem q2e (h:valE qs≠0):encE qs most=valE qs:=by rw [encE,if_pos h]
theorem q2f (h:valE qs=0) (h2:qdk (tmsQ qs)≠0):encE qs most=qdk (tmsQ qs):=by rw [encE,if_neg (fun g=>g h),if_pos h2]
theorem qmb (h:valE qs=0) (h2:qdk (tmsQ qs)=0) (h3:most<((pkB qs).length:Int)∨67108864<(pkB qs).length):encE qs most=1:=by rw [encE,if_neg (fun g=>g h),if_neg (fun g=>g h2),if_pos h3]
theorem qx0 (h:valE qs=0) (h2:qdk (tmsQ qs)=0) (h3:¬ (most<((pkB qs).length:Int)∨67108864<(pkB qs).length)):encE qs most=0:=by rw [encE,if_neg (fun g=>g h),if_neg (fun g=>g h2),if_neg h3]
theorem qjf (h:encE qs most=0):valE qs=0∧qdk (tmsQ qs)=0∧((pkB qs).length:Int)≤most∧(pkB qs).length≤67108864:=by
 unfold encE at h
 by_cases h0:valE qs≠0
 case pos=>rw [if_pos h0] at h;exact absurd h h0
 rw [if_neg h0] at h
 by_cases h1:qdk (tmsQ qs)≠0
 case pos=>rw [if_pos h1] at h;exact absurd h h1
 rw [if_neg h1] at h
 by_cases h2:most<((pkB qs).length:Int)∨67108864<(pkB qs).length
 case pos=>rw [if_pos h2] at h;cases h
 exact ⟨Classical.not_not.1 h0,Classical.not_not.1 h1,by omega,by omega⟩
theorem q5i (a b c:LB):a.length+b.length+c.length≤(jo3 a b c).length:=by
 rw [jo3];simp only [zla];omega
theorem q2d (hn:(tmsQ qs).length≤4194304) (h:encE qs most=0):EncOk (tmsQ qs) qs:=by
 obtain ⟨h1,h2,_,h4⟩:=qjf h;rw [qjx] at h4;refine q4a h1 hn ⟨fun k hk=>qgb (qlp h2 k hk),?_⟩ h4;have:=q5i (qn (secE (tmsQ qs) 0)) (qn (secE (tmsQ qs) 1)) (qn (secE (tmsQ qs) 2));have e:(vocB (tmsQ qs)).length=(jo3 (qn (secE (tmsQ qs) 0)) (qn (secE (tmsQ qs) 1)) (qn (secE (tmsQ qs) 2))).length:=rfl;omega
end
def hvT (t:TM):Nat:=20+t.text.size+t.type.size+t.lang.size
def hvQ (q:Q4):Nat:=hvT q.s+hvT q.p+hvT q.o+hvT q.g
def hvL (qs:List Q4):Nat:=(qs.map hvQ).sum
theorem q7f (qs:List Q4):80*qs.length≤hvL qs:=by
 induction qs with
 | nil=>exact Nat.le_refl _
 | cons q qs ih=>
  have e:hvL (q::qs)=hvQ q+hvL qs:=by simp [hvL]
  have h1:80≤hvQ q:=by unfold hvQ hvT;omega
  rw [e,List.length_cons];omega
set_option maxRecDepth 100000
def inf4 (l:LB):Value:=.agg #[ii (hN l 2),ii (hN l 3),ii (hN l 4),ii (hN l 5)]
def infZ:Value:=.agg #[ii 0,ii 0,ii 0,ii 0]
theorem PackAt.inf {w:World} {b:Nat} {l:LB} (h:PackAt w b l):CellsAt w b 0 [ii (hN l 2:Nat),ii (hN l 3:Nat),ii (hN l 4:Nat),ii (hN l 5:Nat)]:=by
 obtain ⟨vb,tb,h1,_⟩:=h;intro k v hv;have hk:k<4:=(List.getElem?_eq_some_iff.1 hv).1;rw [qa h1]
 rcases (show k=0∨k=1∨k=2∨k=3 by omega) with rfl|rfl|rfl|rfl<;>exact hv
def PiR (l:LB) (v:Value) (w:World):Prop:=
 ((packE l).2≠0∧∃ e,v=.tuple #[infZ,e]∧ErrAt w e (packE l).1 (packE l).2)∨((packE l).2=0∧v=.tuple #[inf4 l,.nilIface])
theorem qzt (l:LB) (A:oA) (c:Nat) (w:World) (hS:SlAt encB 1 w A l) (hc:l.length≤c) (hl:l.length≤140737488355328) (hT:CellsAt w 1 0 qgl) (hG:ErrTyp w) :
  Gv Tryz.prog 25 [.slice A l.length c] w fun v w'=>PiR l v w'∧Ext w w':=by
 refine ze Tryz.func25 Tryz.ntmps25 ?_;refine znm (Mem.nil w) fun r2 w1 hm=>zw ?_;refine zcv (qzz l A c w1 (hS.ext hm.ext) hc hl (hT.ext hm.ext) (hG.ext hm.ext)) ?_;rintro v w2 ⟨⟨h0,e,rfl,eb,rfl,hec⟩|⟨h0,b,rfl,hP⟩,he2⟩
 ·have hm:=hm.call he2;have hne:eb≠r2:=by
   intro e1;have h1:=hec 1 _ rfl;rw [e1,qa (hm.get mh)] at h1;cases h1
  refine zu ?_;refine StoreA.row hm (i:=0) rfl Js (by simp [Value.oneCell']) ?_;intro w3 hfr _ hm3;have hec:=CellsAt.other hec hne hfr;(conv=>whnf);refine qh (R:=fun v w'=>PiR l v w'∧Ext w w') (zw ?_);refine zl hm3 0 ?_;exact ⟨.inl ⟨h0,errV eb,rfl,eb,rfl,hec⟩,hm3.ext⟩
 ·have hm:=hm.call he2;refine zu ?_;refine LoadA.cells hP.inf rfl (zw ?_);refine zS hm 0 fun w3 hm=>zw ?_;refine qh (R:=fun v w'=>PiR l v w'∧Ext w w') (zw ?_);refine zl hm 0 ?_;exact ⟨.inr ⟨h0,rfl⟩,hm.ext⟩
theorem q4m {l:LB} {id:Nat} {t:TM} (h:qds l id=some t):TermOk t:=by
 unfold qds at h
 split at h
 ·cases h;exact ⟨(show InR .i64 0 from ⟨by decide,by decide⟩),Nat.zero_le _,Nat.zero_le _,Nat.zero_le _⟩
 ·split at h
  ·cases h
  ·split at h
   ·rename_i s hs
    have h3:qdj l id<3:=by unfold qdj;split<;>(try split)<;>omega
    exact q3t h (ql6 hs) ⟨by omega,by omega⟩
   ·cases h
theorem qach (l:LB) (q:Nat→Nat) (j:Nat):TermOk (uT l q j):=by
 unfold uT;cases h:qds l (q j) with
 | none=>exact ⟨(show InR .i64 0 from ⟨by decide,by decide⟩),Nat.zero_le _,Nat.zero_le _,Nat.zero_le _⟩
 | some t=>exact q4m h
theorem q8j (l:LB) (q:Nat→Nat):qfq (q4Of l q):=by
 intro k;unfold q4Of Q4.at
 split<;>exact qach _ _ _
theorem qte {qs:List Q4} {i:Nat} {q:Q4} (h:qs[i]?=some q):hvL (qs.take (i+1))=hvL (qs.take i)+hvQ q:=by
 rw [List.take_add_one,h];simp [hvL]
def hvK (q:Q4):Nat→Nat
 | 0=>0
 | k+1=>hvK q k+hvT (q.at k)
theorem qtd (q:Q4):hvK q 4=hvQ q:=by simp [hvK,hvQ,Q4.at]
theorem q5c (q:Q4) {k:Nat} (h:k≤4):hvK q k≤hvQ q:=by
 rw [← qtd];have:∀ d,k+d=4→hvK q k≤hvK q 4:=fun d hd=>by
  rcases (show k=0∨k=1∨k=2∨k=3∨k=4 by omega) with rfl|rfl|rfl|rfl|rfl<;>simp only [hvK]<;>omega
 exact this (4-k) Oo
theorem qyi (qs:List Q4) (A:oA) (n c:Nat) (w:World) (hS:SlAt qaf 16 w A qs) (hn:qs.length=n) (hb:n≤140737488355328) (hq:∀ q∈qs,hvQ q≤1152921504606846976) :
  Gv Tryz.prog 9 [.slice A n c] w fun r w'=>∃ h:Bool,r=.bool h∧(h=false→hvL qs≤67108864)∧Ext w w':=by
 have t16:tsz Tryz.prog 68=16:=by kernel_rfl
 have t4:tsz Tryz.prog 66=4:=by kernel_rfl
 refine ze Tryz.func9 Tryz.ntmps9 ?_;refine qt (fun x:Nat=>[(0,.slice A n c),(3,ii (hvL (qs.take x):Nat)),(4,ii x)]) (fun x w'=>x≤n∧hvL (qs.take x)≤1152921504606846976+67108864∧Ext w w') (fun x=>n-x) 0 ⟨rfl,rfl,rfl,trivial⟩ ⟨Nat.zero_le _,by simp [hvL],xr⟩ ?_;rintro i w1 ρ' ⟨i1,hv,he⟩;conv=>whnf
 (repeat' (first|refine zp ?_|refine zC (fun _=>zw ?_) (fun _=>zw ?_)))
 ·have hil:i<qs.length:=by omega
  have hqi:qs[i]?=some qs[i]:=zge hil;have hqm:=List.getElem_mem hil;obtain ⟨q,eq⟩:∃ q,q=qs[i]:=⟨_,rfl⟩
  rw [← eq] at hqi hqm;have hqb:=hq q hqm;obtain ⟨g,o,rfl,hcs⟩:=(hS.ext he).at_ (by intro e;rw [e] at hil;simp at hil);have hcq:=hcs i q hqi;refine DrawV.gen (fun S vals w'=>Al w1 [] (.cells (qaf zQ).toArray 69) (.cells (qaf q).toArray 69) (.cells #[] 0) (.cells #[] 0) (S 21) false (S 22) false (vals 21) undef w') rfl Jk (fun vals=>Al.start (Mem.nil w1).drew) (zw ?_);refine zg ?_;refine zg ?_;refine StepG.of (.pointer (some ⟨g,o+i*16,none⟩)) (fun S vals wd hk hp hI=>zw ?_) (zw ?_)
  ·refine ⟨⟨g,o,i,rfl,by omega,by omega,?_⟩⟩;rw [t16];(conv=>whnf);exact ⟨rfl,hI⟩
  refine zg ?_;refine StepG.of (qbk (q.at 0)) (fun S vals wd hk hp hI=>zw ?_) (zw ?_)
  ·refine LoadA.cells (qac (CellsAt.ext hcq hI.mem.ext) 0 Od) rfl (zw ?_);exact ⟨rfl,hI⟩
  refine zg ?_;refine zg ?_;refine StepG.of (.pointer (some ⟨g,o+i*16,none⟩)) (fun S vals wd hk hp hI=>zw ?_) (zw ?_)
  ·refine ⟨⟨g,o,i,rfl,by omega,by omega,?_⟩⟩;rw [t16];(conv=>whnf);exact ⟨rfl,hI⟩
  refine zg ?_;refine StepG.of (qbk (q.at 1)) (fun S vals wd hk hp hI=>zw ?_) (zw ?_)
  ·refine LoadA.cells (qac (CellsAt.ext hcq hI.mem.ext) 1 Od) rfl (zw ?_);exact ⟨rfl,hI⟩
  refine zg ?_;refine zg ?_;refine StepG.of (.pointer (some ⟨g,o+i*16,none⟩)) (fun S vals wd hk hp hI=>zw ?_) (zw ?_)
  ·refine ⟨⟨g,o,i,rfl,by omega,by omega,?_⟩⟩;rw [t16];(conv=>whnf);exact ⟨rfl,hI⟩
  refine zg ?_;refine StepG.of (qbk (q.at 2)) (fun S vals wd hk hp hI=>zw ?_) (zw ?_)
  ·refine LoadA.cells (qac (CellsAt.ext hcq hI.mem.ext) 2 Od) rfl (zw ?_);exact ⟨rfl,hI⟩
  refine zg ?_;refine zg ?_;refine StepG.of (.pointer (some ⟨g,o+i*16,none⟩)) (fun S vals wd hk hp hI=>zw ?_) (zw ?_)
  ·refine ⟨⟨g,o,i,rfl,by omega,by omega,?_⟩⟩;rw [t16];(conv=>whnf);exact ⟨rfl,hI⟩
  refine zg ?_;refine StepG.of (qbk (q.at 3)) (fun S vals wd hk hp hI=>zw ?_) (zw ?_)
  ·refine LoadA.cells (qac (CellsAt.ext hcq hI.mem.ext) 3 Od) rfl (zw ?_);exact ⟨rfl,hI⟩
  refine zg ?_;refine StepG.any (fun S vals wd hk hp hI=>?_) (zw ?_)
  ·dsimp only at hI;rw [hk] at hI;(conv=>whnf);refine ⟨fun x wx hb hw=>?_⟩;subst hb hw;(conv=>whnf);exact ⟨trivial,hI.new1⟩
  refine StepG.of undef (fun S vals wd hk hp hI=>?_) (zw ?_)
  ·dsimp only at hI;have h9:S 21=true:=hp 21 Od;rw [hk,h9] at hI;obtain ⟨nb,hv,M,hmM,hKx⟩:=hI.put1;rw [qr hv];(conv=>whnf);refine zS hmM 0 fun wx hmx=>zw ?_;exact ⟨rfl,by show Al _ _ _ _ _ _ (S 21) false true false _ _ _;rw [h9];exact hKx hmx rfl⟩
  intro vals w2 hI;obtain ⟨t5,hv1,hm⟩:=hI.done1;rw [qr hv1];clear hI;(conv=>whnf);refine qt (fun k:Nat=>[(0,.slice (some ⟨g,o,none⟩) n c),(3,ii (hvL (qs.take i)+hvK q k:Nat)),(4,ii i),(5,pp t5),(6,ii k)]) (fun k w'=>k≤4∧Mem w1 w' [(t5,.cells (qaf q).toArray 69)]) (fun k=>4-k) 0 ⟨rfl,rfl,rfl,rfl,rfl,trivial⟩ ⟨by omega,hm⟩ ?_;clear hm;rintro k w3 ρ2 ⟨k1,hm⟩;have hkl:=q5c q k1;(conv=>whnf);refine zC (fun _=>zu ?_) (fun _=>zu ?_)
  ·have hc3:CellsAt w3 t5 0 (qaf q):=CellsAt.mem hm mh;have hcell:=CellsAt.ext (qac hc3 k Oo) (Ext.refl w3).drew;have hnx:hvK q (k+1)=hvK q k+(20+(q.at k).text.size+(q.at k).type.size+(q.at k).lang.size):=rfl;have hkl1:=q5c q (k:=k+1) Oo;refine zy ?_;refine zv ?_;refine LoadV.of (v:=.string (q.at k).text) ?_ ?_
   ·rw [← hcell 1 _ rfl,t4]
   refine zu ?_;refine LoadV.of (v:=.string (q.at k).type) ?_ ?_
   ·rw [← hcell 2 _ rfl,t4]
   refine zu ?_;refine LoadV.of (v:=.string (q.at k).lang) ?_ ?_
   ·rw [← hcell 3 _ rfl,t4]
   refine zu ?_;exact ⟨k+1,⟨rfl,congrArg (Value.int .i64) Oo,rfl,rfl,congrArg (Value.int .i64) Oo,trivial⟩,⟨by omega,hm.drew⟩,by omega⟩
  ·obtain rfl:k=4:=by omega
   rw [qtd,← qte hqi];exact ⟨i+1,⟨rfl,rfl,congrArg (Value.int .i64) Oo,trivial⟩,⟨by omega,by rw [qte hqi];omega,he.trans hm.ext⟩,by omega⟩
 ·exact ⟨_,rfl,fun h=>by have:=of_decide_eq_false h;omega,he⟩
 ·obtain rfl:i=n:=by omega
  rw [List.take_of_length_le Oo];exact ⟨_,rfl,fun h=>by have:=of_decide_eq_false h;omega,he⟩
def tz8 (x:Nat):Nat:=if x%2=1 then 0 else if x/2%2=1 then 1 else if x/4%2=1 then 2 else if x/8%2=1 then 3 else if x/16%2=1 then 4 else if x/32%2=1 then 5 else if x/64%2=1 then 6 else if x/128%2=1 then 7 else 8
def hi8 (x t:Nat):Nat:=x/2 ^ t*2 ^ t
theorem qaan {x t:Nat} (h:x<256):hi8 x t<256:=Nat.lt_of_le_of_lt (Nat.div_mul_le_self _ _) h
theorem q2r (x:Nat):hi8 x 0=x:=by simp [hi8]
theorem q9b:∀ x,x<256→∀ t,t<9→hi8 x t≠0→t≤tz8 (hi8 x t)∧tz8 (hi8 x t)<8∧x/2 ^ tz8 (hi8 x t)%2=1∧(hi8 x t) &&&(hi8 x t-1)=hi8 x (tz8 (hi8 x t)+1):=by decide +kernel
theorem q9c:∀ x,x<256→∀ t,t<9→∀ s,s<8→t≤s→s<tz8 (hi8 x t)→x/2 ^ s%2=0:=by decide +kernel
theorem qabx:∀ x,x<256→∀ t,t<9→hi8 x t=0→∀ s,s<8→t≤s→x/2 ^ s%2=0:=by decide +kernel
theorem qqf (d:LB) (b s:Nat) (hs:s<8):bitN d (8*b+s)=(d.getD b 0).toNat/2 ^ s%2:=by
 rw [bitN,show (8*b+s)/8=b by omega,show (8*b+s)%8=s by omega]
theorem qtn {d:LB} {b t:Nat}:∀ {u:Nat},t≤u→(∀ s,t≤s→s<u→bitN d (8*b+s)=0)→mkD d b u=mkD d b t∧cnt d (8*b+u)=cnt d (8*b+t):=by
 intro u hu
 induction hu with
 | refl=>intro _;exact ⟨rfl,rfl⟩
 | step hu ih=>
  rename_i u
  intro h;obtain ⟨h1,h2⟩:=ih fun s a b=>h s a Oo;have h3:=h u hu Oo;rw [mkD,if_neg (by rw [h3];omega)];refine ⟨h1,?_⟩;show cnt d (8*b+u)+bitN d (8*b+u)=_;rw [h3,h2,Nat.add_zero]
theorem qy9 {d:LB} {b t:Nat} (ht:t<9) (h:hi8 (d.getD b 0).toNat t≠0) {u:Nat} (hu:u=tz8 (hi8 (d.getD b 0).toNat t)) :
  t≤u∧u<8∧bitN d (8*b+u)=1∧cnt d (8*b+u)=cnt d (8*b+t)∧mkD d b u=mkD d b t∧(hi8 (d.getD b 0).toNat t) &&&(hi8 (d.getD b 0).toNat t-1)=hi8 (d.getD b 0).toNat (u+1):=by
 obtain ⟨h1,h2,h3,h4⟩:=q9b _ (qad _) t ht h;rw [← hu] at h1 h2 h3 h4;obtain ⟨h5,h6⟩:=qtn (d:=d) (b:=b) h1 fun s a b'=>by
  rw [qqf _ _ _ Oo];exact q9c _ (qad _) t ht s Oo a (by rw [← hu];exact b')
 exact ⟨h1,h2,by rw [qqf _ _ _ h2];exact h3,h6,h5,h4⟩
theorem q7o {d:LB} {b t:Nat} (ht:t<9) (h:hi8 (d.getD b 0).toNat t=0):mkD d b 8=mkD d b t∧cnt d (8*(b+1))=cnt d (8*b+t):=by
 rcases Nat.lt_or_ge t 8 with h8|h8
 ·exact qtn (d:=d) (b:=b) (Nat.le_of_lt h8) fun s a b'=>by
   rw [qqf _ _ _ b'];exact qabx _ (qad _) t ht h s b' a
 ·obtain rfl:t=8:=by omega
  exact ⟨rfl,rfl⟩
theorem qlb (d:LB) (A:oA) (l c n:Nat) (w:World) (hS:SlAt encB 1 w A d) (hl:d.length=l) (hd:d.length=upN n 8) (hb:n≤67108864) :
  Gv Tryz.prog 132 [.slice A l c,ii n] w fun v w'=>(∃ b,v=.bool b∧(b=true↔¬ PadB d n))∧w'=w:=by
 have hu:upN n 8=(n+7)/8:=rfl;refine ze Tryz.func132 Tryz.ntmps132 ?_;refine zt ?_;refine zC (fun _=>zu ?_) (fun _=>zu ?_)
 ·exact ⟨⟨true,rfl,⟨fun _ h=>((qm2 hd).1 h).1 Oo,fun _=>rfl⟩⟩,rfl⟩
 have hi:n/8<d.length:=by omega
 refine ElemV.bs hS hl (n/8) Oo Oo ?_;intro eb eo hc;refine zu ?_;refine LoadV.of hc (zu ?_);refine V.Wit.shrN (n%8) Oo (by show n%8<8;omega) (zu ?_);have hg:d.getD (n/8) 0=d[n/8]:=by rw [List.getD_eq_getElem?_getD,zge hi];rfl
 refine ⟨⟨_,rfl,?_⟩,rfl⟩;rw [qm2 hd,hg];obtain ⟨X,eX⟩:∃ X,X=d[n/8].toNat/2 ^ (n%8):=⟨_,rfl⟩
 rw [← eX];simp only [decide_eq_true_eq];omega
theorem qoh (d:LB) (A:oA) (l c:Nat) (w:World) (hS:SlAt encB 1 w A d) (hl:d.length=l) (hb:l≤67108864) :
  Gv Tryz.prog 133 [.slice A l c] w fun v w'=>v=ii (cnt d (8*d.length))∧w'=w:=by
 refine ze Tryz.func133 Tryz.ntmps133 ?_;refine qt (fun i:Nat=>[(3,ii (cnt d (8*i))),(6,.slice A l c),(7,ii l),(8,ii i)]) (fun i w'=>i≤l∧w'=w) (fun i=>l-i) 0 ⟨rfl,rfl,rfl,rfl,trivial⟩ ⟨Nat.zero_le _,rfl⟩ ?_;rintro i w1 ρ' ⟨i1,rfl⟩;have hc8:=qee d (8*i);(conv=>whnf);refine zC (fun _=>zw ?_) (fun _=>zw ?_)
 ·have hi:i<d.length:=by omega
  refine ElemV.bs hS hl i rfl Oo ?_;intro eb eo hc;(conv=>whnf);refine LoadV.of hc (zw ?_);refine zcv (qjs d[i].toNat _ (qad _)) ?_;rintro r w2 ⟨rfl,rfl⟩;have h8:qeg d[i].toNat≤8:=by unfold qeg;omega
  have hs:cnt d (8*(i+1))=cnt d (8*i)+qeg d[i].toNat:=by
   have:=qs0 d i 1;rw [this,qau,qau,Nat.add_zero,List.getD_eq_getElem?_getD,zge hi,Nat.zero_add];rfl
  refine zu ?_;exact ⟨i+1,⟨by rw [hs];exact congrArg (Value.int .i64) Oo,rfl,rfl,rfl,trivial⟩,⟨by omega,rfl⟩,by omega⟩
 ·obtain rfl:i=l:=by omega
  exact ⟨by rw [hl],rfl⟩
theorem q9a (x:Nat) (w:World) (hx:x<256):Gv Tryz.prog 189 [.int .u8 x] w fun r w'=>r=ii (tz8 x)∧w'=w:=by
 refine ze Tryz.func189 Tryz.ntmps189 ?_;refine IdxV.nat (by show x<256;exact hx) (zw ?_);refine Wit.conv (qa3 (Nat.lt_of_lt_of_le (qad _) Od)) (zw ?_);refine ⟨congrArg (Value.int .i64) (congrArg Int.ofNat ?_),rfl⟩;clear w
 revert x
 decide +kernel
theorem ah8 (d:LB) (b:Nat):ahN d (8*(b+1))=cnt d (2048*(8*b/2048)):=by
 rw [ahN,if_neg Oo,show (8*(b+1)-1)/2048=8*b/2048 by omega]
theorem ah8' (d:LB) (b:Nat) (h:8*b%2048≠0):ahN d (8*b)=cnt d (2048*(8*b/2048)):=by
 rw [ahN,if_neg Oo,show (8*b-1)/2048=8*b/2048 by omega]
theorem qsr (x:Nat) (h:x<256) (h0:x≠0):qdl .and .u8 (x:Int) ((x:Int)-1)=((x &&&(x-1):Nat):Int):=by
 have e:(x:Int)-1=((x-1:Nat):Int):=by omega
 rw [e];exact ql0 (qc3 h) (qc3 Oo)
theorem qgc (d:LB) (A:oA) (l c n:Nat) (w:World) (hl:d.length=l) (hd:d.length=upN n 8) (hb:n≤67108864) (g:FuncId) (c1 c2:Value) (I:List (Nat × Nat × Nat)→World→Prop)
  (hIx:∀ L w',I L w'→SlAt encB 1 w' A d) (h0:I [] w)
  (ht:∀ L x w',I L w'→x∈dirD d (upN n 8)→Gv Tryz.prog g [ii x.1,ii x.2.1,ii x.2.2,c1,c2] w' fun r w''=>r=.bool true∧I (L++[x]) w'') :
  Gv Tryz.prog 136 [.slice A l c,ii n,.func (.func g) #[] #[c1,c2]] w fun r w'=>r=.bool true∧I (dirD d (upN n 8)) w':=by
 have hu:upN n 8=(n+7)/8:=rfl;refine ze Tryz.func136 Tryz.ntmps136 ?_;refine qt (fun b:Nat=>[(0,.slice A l c),(1,ii n),(2,.func (.func g) #[] #[c1,c2]),(7,ii (cnt d (8*b))),(8,ii (ahN d (8*b))),(9,ii (8*b:Nat))]) (fun b w'=>b≤upN n 8∧I (dirD d b) w') (fun b=>upN n 8-b) 0
  ⟨rfl,rfl,rfl,rfl,rfl,rfl,trivial⟩ ⟨Nat.zero_le _,h0⟩ ?_
 rintro b w1 ρ' ⟨b1,hI⟩;have hcb:=qee d (8*b);have hcm:cnt d (2048*(8*b/2048))≤cnt d (8*b):=qf8 Oo;have hnext:∀ {x},b<upN n 8→x∈grD d b∨x∈smD d b∨x∈mkD d b 8→x∈dirD d (upN n 8):=fun hbn hx=>qd2.2 ⟨b,hbn,hx⟩
 (conv=>whnf)
 (repeat' (first|refine zp ?_|refine zC (fun _=>zw ?_) (fun _=>zw ?_)))
 case' refine_1.refine_1=>
  have hbn:b<upN n 8:=by omega
  have hbl:b<d.length:=by omega
  rw [show ((8*b:Nat):Int)/2048=((8*b/2048:Nat):Int) by omega];have hgr:grD d b=[(2048,8*b/2048,cnt d (8*b))]:=by rw [grD,if_pos Oo]
  have hsm:smD d b=[(256,8*b/256,cnt d (8*b)-cnt d (2048*(8*b/2048)))]:=by rw [smD,if_pos Oo]
  have ha:cnt d (8*b)=cnt d (2048*(8*b/2048)):=by rw [show 2048*(8*b/2048)=8*b by omega]
  refine zcv (ht (dirD d b) (2048,8*b/2048,cnt d (8*b)) w1 hI (hnext hbn (.inl (by rw [hgr];exact List.mem_singleton.2 rfl)))) ?_;rintro r w2 ⟨rfl,hI2⟩;rw [← hgr] at hI2;refine zu ?_;rw [show ((8*b:Nat):Int)/256=((8*b/256:Nat):Int) by omega,show (cnt d (8*b):Int)-(cnt d (8*b):Int)=((cnt d (8*b)-cnt d (2048*(8*b/2048)):Nat):Int) by omega];refine zcv (ht (dirD d b++grD d b) (256,8*b/256,cnt d (8*b)-cnt d (2048*(8*b/2048))) w2 hI2 (hnext hbn (.inr (.inl (by rw [hsm];exact List.mem_singleton.2 rfl))))) ?_;rintro r w3 ⟨rfl,hI3⟩;rw [← hsm,List.append_assoc] at hI3;refine zu ?_
 case' refine_1.refine_2.refine_1=>
  have hbn:b<upN n 8:=by omega
  have hbl:b<d.length:=by omega
  have hgr:grD d b=[]:=by rw [grD,if_neg Oo]
  have hsm:smD d b=[(256,8*b/256,cnt d (8*b)-cnt d (2048*(8*b/2048)))]:=by rw [smD,if_pos Oo]
  have ha:=ah8' d b Oo;refine zv ?_;rw [show ((8*b:Nat):Int)/256=((8*b/256:Nat):Int) by omega,show (cnt d (8*b):Int)-(ahN d (8*b):Int)=((cnt d (8*b)-cnt d (2048*(8*b/2048)):Nat):Int) by omega];refine zcv (ht (dirD d b) (256,8*b/256,cnt d (8*b)-cnt d (2048*(8*b/2048))) w1 hI (hnext hbn (.inr (.inl (by rw [hsm];exact List.mem_singleton.2 rfl))))) ?_;rintro r w3 ⟨rfl,hI3⟩;rw [← hsm,← List.nil_append (smD d b),← hgr] at hI3;refine zu ?_
 case' refine_1.refine_2.refine_2=>
  have hbn:b<upN n 8:=by omega
  have hbl:b<d.length:=by omega
  have hgr:grD d b=[]:=by rw [grD,if_neg Oo]
  have hsm:smD d b=[]:=by rw [smD,if_neg Oo]
  have ha:=ah8' d b Oo;have hI3:I (dirD d b++(grD d b++smD d b)) w1:=by rw [hgr,hsm,List.append_nil,List.append_nil];exact hI
 case' refine_2=>
  obtain rfl:b=upN n 8:=by omega
  exact ⟨rfl,hI⟩
 all_goals
  refine ElemV.bs (hIx _ _ hI3) hl b Oo Oo ?_;intro eb eo hc;(conv=>whnf);refine LoadV.of hc (zw ?_);have hX:d[b]=d.getD b 0:=by rw [List.getD_eq_getElem?_getD,zge hbl];rfl
  refine qt (fun t:Nat=>[(0,.slice A l c),(1,ii n),(2,.func (.func g) #[] #[c1,c2]),(7,ii (cnt d (8*b+t))),(8,ii (cnt d (2048*(8*b/2048)))),(9,ii (8*b:Nat)),(10,.int .u8 (hi8 (d.getD b 0).toNat t))])
   (fun t w'=>t≤8∧I (dirD d b++(grD d b++(smD d b++mkD d b t))) w') (fun t=>9-t) 0
   ⟨rfl,rfl,rfl,rfl,congrArg (fun n:Nat=>ii n) ha,rfl,congrArg (fun n:Nat=>Value.int .u8 n) (by rw [q2r,hX]),trivial⟩ ⟨Nat.zero_le _,by rw [mkD,List.append_nil];exact hI3⟩ ?_
  rintro t w4 ρ2 ⟨t8,hI4⟩;have hlt:=qaan (t:=t) (qad (d.getD b 0));have hct:=qee d (8*b+t);conv=>whnf
  (repeat' (first|refine zp ?_|refine zC (fun _=>zw ?_) (fun _=>zw ?_)))
  ·rename_i hz h5
   obtain ⟨m1,m2,m3,m4,m5,m6⟩:=qy9 (d:=d) (b:=b) (t:=t) Oo Oo rfl;obtain ⟨u,eu⟩:∃ u,u=tz8 (hi8 (d.getD b 0).toNat t):=⟨_,rfl⟩
   have hq:=q9a (hi8 (d.getD b 0).toNat t);rw [← eu] at m1 m2 m3 m4 m5 m6 hq;have hc1:cnt d (8*b+(u+1))=cnt d (8*b+t)+1:=by rw [show 8*b+(u+1)=8*b+u+1 from rfl,cnt,m3,m4]
   have hmk:mkD d b (u+1)=mkD d b t++[(512,cnt d (8*b+t)/512,8*b+u)]:=by rw [mkD,if_pos ⟨m3,by omega⟩,m5,m4]
   rw [show (cnt d (8*b+t):Int)/512=((cnt d (8*b+t)/512:Nat):Int) by omega];refine zcv (hq w4 hlt) ?_;rintro r w5 ⟨rfl,rfl⟩;refine zu ?_;rw [show ((8*b:Nat):Int)+(u:Int)=((8*b+u:Nat):Int) by omega];refine zcv (ht _ (512,cnt d (8*b+t)/512,8*b+u) w5 hI4 (hnext hbn (.inr (.inr (qhr.2 ⟨u,m2,m3,by omega,by rw [m4]⟩))))) ?_;rintro r w6 ⟨rfl,hI6⟩;rw [List.append_assoc,List.append_assoc,List.append_assoc,← hmk] at hI6;refine zu ?_;refine Wit.eq (qsr _ hlt Oo) ?_;rw [m6];(conv=>whnf);exact ⟨u+1,⟨rfl,rfl,rfl,by rw [hc1];rfl,rfl,rfl,rfl,trivial⟩,⟨by omega,hI6⟩,by omega⟩
  ·rename_i hz h5
   obtain ⟨m1,m2,m3,m4,m5,m6⟩:=qy9 (d:=d) (b:=b) (t:=t) Oo Oo rfl;obtain ⟨u,eu⟩:∃ u,u=tz8 (hi8 (d.getD b 0).toNat t):=⟨_,rfl⟩
   rw [← eu] at m1 m2 m3 m4 m5 m6;have hc1:cnt d (8*b+(u+1))=cnt d (8*b+t)+1:=by rw [show 8*b+(u+1)=8*b+u+1 from rfl,cnt,m3,m4]
   have hmk:mkD d b (u+1)=mkD d b t:=by rw [mkD,if_neg Oo,m5]
   refine Wit.eq (qsr _ hlt Oo) ?_;rw [m6];(conv=>whnf);exact ⟨u+1,⟨rfl,rfl,rfl,by rw [hc1];rfl,rfl,rfl,rfl,trivial⟩,⟨by omega,by rw [hmk];exact hI4⟩,by omega⟩
  ·obtain ⟨m1,m2⟩:=q7o (d:=d) (b:=b) (t:=t) Oo Oo;exact ⟨b+1,⟨rfl,rfl,rfl,by rw [m2];rfl,by rw [ah8];rfl,congrArg (Value.int .i64) Oo,trivial⟩,⟨by omega,by rw [dirD,m1];exact hI4⟩,by omega⟩
namespace V
theorem Rw.permL {w0 w:World} {v:Value} {e:TypeId} {size n:Nat} {xs:List Value} {L L':List (Nat × Obj)} (h:Rw w0 w v e size n xs L) (hp:L'.Perm L):Rw w0 w v e size n xs L':=⟨h.mem.perm hp,h.own,fun x hx=>h.apart x (hp.mem_iff.1 hx)⟩
theorem Rw.subL {w0 w:World} {v:Value} {e:TypeId} {size n:Nat} {xs:List Value} {L L':List (Nat × Obj)} (h:Rw w0 w v e size n xs L) (hs:L'.Sublist L):Rw w0 w v e size n xs L':=⟨h.mem.sub hs,h.own,fun x hx=>h.apart x (hs.subset hx)⟩
theorem Carr.rw {σ:Type} {w0:World} {e:TypeId} {size:Nat} (A:σ→Prop) (v:σ→Value) (n:σ→Nat) (xs:σ→List Value) (L:σ→List (Nat × Obj)):Carr fun X w=>∃ s,A s∧Rw w0 w (v s) e size (n s) (xs s) (X++L s):=by
 refine ⟨?_,?_,?_,?_,?_,?_⟩
 ·rintro X w w' ⟨s,hs,hm⟩ he;exact ⟨s,hs,hm.call he⟩
 ·rintro X w b o ⟨s,hs,hm⟩ hx;exact hm.mem.get (List.mem_append_left _ hx)
 ·rintro X w o ⟨s,hs,hm⟩;exact ⟨s,hs,hm.newBlk rfl rfl⟩
 ·rintro X w b o o' ⟨s,hs,hm⟩;exact ⟨s,hs,hm.setO (i:=0) o' rfl rfl⟩
 ·rintro X w x ⟨s,hs,hm⟩;exact ⟨s,hs,hm.subL (List.sublist_cons_self ..)⟩
 ·rintro X Y w ⟨s,hs,hm⟩ hp;exact ⟨s,hs,hm.permL (hp.symm.append_right _)⟩
end V
def tAgg (l:LB) (i:Nat):Value:=.agg #[ii (tNum l i 0),ii (tNum l i 1),ii (tNum l i 2),ii (tNum l i 3)]
def tRow (l:LB) (i:Nat):List Value:=[ii i,tAgg l i]
def TreΦ (b:Nat) (l:LB) (b1 b2:Nat) (w:World):Prop:=TreeAt w b l∧w.cell? ⟨b1,0,none⟩=some (ii 0)∧w.cell? ⟨b2,0,none⟩=some (pp b)
theorem qp2 (b:Nat) (l:LB) (b1 b2:Nat) (hok:∀ i,i<vNum l 3→tOk l i=true) :
  SeqV Tryz.prog 90 [pp b1,pp b2] ((List.range (vNum l 3)).map (tRow l)) (TreΦ b l b1 b2):=by
 intro l' I Ix w hI sI sIx h0 hy;obtain ⟨h,h1,h2⟩:=hI 0 w h0;have hn:=h.n 3 Oo;have hxs:((List.range (vNum l 3)).map (tRow l)).length=vNum l 3:=by simp
 refine gvW Jk Tryz.func90 rfl Tryz.ntmps90 rfl (zw ?_);refine LoadV.of h1 (zw ?_);refine V.Fall.max2 rfl rfl rfl fun m hm=>?_;obtain rfl:m=0:=by omega
 (conv=>whnf);refine qvh (fun i:Nat=>[(0,.func (.yield l') #[] #[]),(1,pp b1),(2,pp b2),(4,ii i)])
  (fun i w'=>i≤vNum l 3∧I i w') (fun i=>vNum l 3-i) 0 ⟨rfl,rfl,rfl,rfl,trivial⟩ ⟨by omega,h0⟩ ?_
 rintro i w1 ρ' ⟨hi,hIi⟩;obtain ⟨hD1,hc1,hc2⟩:=hI i w1 hIi;have hend:i=vNum l 3→I ((List.range (vNum l 3)).map (tRow l)).length w1:=fun e=>by rw [hxs,← e];exact hIi
 (conv=>whnf);refine LoadV.of hc2 (zw ?_);refine zcv (qnj b l w1 hD1) ?_;rintro v w2 ⟨rfl,rfl⟩;(conv=>whnf);refine zC (fun _=>zw ?_) (fun _=>zw ?_)
 ·refine LoadV.of hc2 (zw ?_);refine zcv (q39 b l i w2 hD1 Oo) ?_;rintro v w3 ⟨rfl,he3⟩;have hlt:i<vNum l 3:=by omega
  rw [qf2,if_pos ⟨hlt,hok i hlt⟩];(conv=>whnf);refine znm (Mem.nil w3) fun b5 w4 hm=>zw ?_;refine zS hm 0 fun w5 hm=>zu ?_;refine zl hm 0 ?_;refine zv ?_;refine YieldV.mono (hy i (tRow l i) w5 ?_ (sI _ _ _ hIi (he3.trans hm.ext))) ?_
  ·rw [List.getElem?_map,List.getElem?_range hlt,Option.map_some]
  rintro v w6 (⟨rfl,hI6⟩|⟨rfl,hX⟩)
  ·refine zu ?_;refine ⟨rfl,i+1,⟨rfl,rfl,rfl,?_,trivial⟩,⟨by omega,hI6⟩,by omega⟩;show ii _=ii _
   congr 1
  ·refine zu ?_;exact .inr ⟨i,by rw [hxs];exact hlt,hX⟩
 ·exact .inl (hend Oo)
theorem qp1 (b:Nat) (w:World):Gv Tryz.prog 43 [pp b,ii 0] w fun r w'=>
  ∃ b1 b2,r=.func (.func 90) #[] #[pp b1,pp b2]∧Mem w w' [(b1,.cells #[ii 0] 3),(b2,.cells #[pp b] 96)]:=by
 refine ze Tryz.func43 Tryz.ntmps43 ?_;refine znm (Mem.nil w) fun b1 w1 hm=>zw ?_;refine znm hm fun b2 w2 hm=>zw ?_;exact ⟨b2,b1,rfl,hm⟩
open Go.RowKit
namespace V
section
variable {P:Program} {n:Nat} {r:Option Nat}
theorem q8s {row:String} {args:Array Value} {w:World} {R:Value→World→Prop} (h:Rows P row args w R):RowsIn (Fr r) 0 P row args w R:=fun c cs _=>by
 obtain ⟨v,w',hr,s⟩:=h c cs;exact ⟨v,w',hr,(stepsIn_wide.2 s:StepsIn (Machine.fenced P Fence.wide) P _ _)⟩
theorem qwt {o:Oper} (hnd:r=none∨∀ c,o.op≠.defer c) {a:Act} {ds:List Deferred} {w:World} {K K2:Act→World→Prop} {Q Q2:Exit→Act→World→Prop} (hQ:∀ e a w,Q e a w→e=.normal)
  (hK:∀ a w,K a w→K2 { a with defers:=a.defers++ds } w) (h:o.wp P a w K Q):o.wpIn (Fr r) 0 P { a with defers:=a.defers++ds } w K2 Q2:=by
 refine ⟨fun _ _=>trivial,?_⟩;have he:({ a with defers:=a.defers++ds }:Act).eval=a.eval:=by funext x;cases x<;>rfl
 have hs:o.semAt (Fr r).round a.eval=execOp a.eval o:=by
  rcases hnd with rfl|hnd
  ·exact Oper.semAt_none _ _
  ·exact Oper.semAt_eq _ _ _ hnd
 rw [he,hs];unfold Oper.wp at h;have hp:∀ v,({ a with defers:=a.defers++ds }:Act).put o.dst v={ a.put o.dst v with defers:=(a.put o.dst v).defers++ds }:=fun v=>by cases o.dst<;>rfl
 generalize (execOp a.eval o).run P w=res at h;cases res with
 | ok nx w'=>
  cases nx with
  | value v=>show K2 _ _;rw [hp];exact hK _ _ h
  | skip=>show K2 _ _;rw [hp];exact hK _ _ h
  | defer d=>
   have h1:=hK _ _ h;show K2 _ _;cases hd:o.dst with
   | none=>rw [hd] at h1;exact h1
   | some t=>rw [hd] at h1;exact h1
  | enter f args=>
   refine ⟨fun h=>by simp [Fr] at h,qcq.2 (Calls.mono h fun e w'' he=>?_)⟩;cases e with
   | returned v=>dsimp only at he ⊢;rw [hp];exact hK _ _ he
   | panicked ch=>have:=hQ _ _ _ he;cases this
   | outgrown=>obtain ⟨a',w',hq⟩:=he;have:=hQ _ _ _ hq;cases this
  | row row args=>
   refine ⟨fun h=>by simp [Fr] at h,q8s (Rows.mono h fun v w'' he=>?_)⟩;rw [hp];exact hK _ _ he
  | _=>exact h.elim
 | halt x w'=>
  cases x with
  | panic v=>have:=hQ _ _ _ h;cases this
  | _=>exact h.elim
def q7u (ops:List Oper):Bool:=ops.all fun o=>match o.op with
 | .defer _=>false
 | _=>true
theorem q29 {ops:List Oper} (h:q7u ops=true) {o:Oper} (ho:o∈ops):∀ c,o.op≠.defer c:=by
 intro c e;have:=List.all_eq_true.1 h o ho;rw [e] at this;cases this
theorem qsm {ops:Array Oper} (hnd:r=none∨q7u ops.toList=true) {ds:List Deferred} {Q Q2:Exit→Act→World→Prop} (hQ:∀ e a w,Q e a w→e=.normal)
  (hk:∀ a w,Q .normal a w→Q2 .normal { a with defers:=a.defers++ds } w):∀ (fuel:Nat) (listed:Array Bool) (a:Act) (w:World),wpAny P .any ops Q fuel listed a w→
  wpAnyIn (Fr r) 0 P .any ops Q2 fuel listed { a with defers:=a.defers++ds } w
 | 0,_,_,_,h=>⟨h.1,hk _ _ h.2⟩
 | fuel+1,listed,a,w,h=>by
  refine ⟨fun hr=>hk _ _ (h.1 hr),fun i hi=>?_⟩;have h1:=h.2 i hi;unfold wpOp at h1;unfold wpOpIn;cases ho:ops[i]? with
  | none=>rw [ho] at h1;exact qsm hnd hQ hk fuel _ _ _ h1
  | some o=>
   rw [ho] at h1;dsimp only at h1 ⊢;have hno:r=none∨∀ c,o.op≠.defer c:=hnd.imp_right fun hn=>q29 hn (Array.mem_toList_iff.2 (Array.mem_of_getElem? ho))
   split
   ·rename_i hw
    rw [if_pos hw] at h1
    rcases h1 with h1|⟨_,a',w',hq⟩
    ·exact qwt hno hQ (fun a w h=>qsm hnd hQ hk fuel _ a w h) h1
    ·have:=hQ _ _ _ hq;cases this
   ·rename_i hw
    rw [if_neg hw] at h1;refine ⟨fun _ _=>trivial,?_⟩;have hp:({ a with defers:=a.defers++ds }:Act).put o.dst undef={ a.put o.dst undef with defers:=(a.put o.dst undef).defers++ds }:=by cases o.dst<;>rfl
    rw [hp];exact qsm hnd hQ hk fuel _ _ _ h1
structure AnyV (P:Program) (n:Nat) (ops:Array Oper) (R:(Nat→Value)→World→Prop) (ρ:Nat→Value) (w:World):Prop where
 h:∀ a,St n ρ a→wpAny P .any ops (fun e a' w'=>e=.normal∧∃ ρ',St n ρ' a'∧R ρ' w') ops.size (Array.replicate ops.size false) a w.drew
theorem DrawW.any {id:Nat} {ops:Array Oper} {Q:QW} {ρ:Nat→Value} {ds:List Deferred} {w:World} (hm:P.follows .mixedOrders=true) (hnd:r=none∨q7u ops.toList=true)
  (h:AnyV P n ops (fun ρ' w'=>Q .normal ρ' ds w') ρ w):DrawW P n r id ops Q ρ ds w:=by
 refine ⟨fun a ha hd=>wpIn_region_any hm ?_⟩;have e:a={ ({ a with defers:=[] }:Act) with defers:=({ a with defers:=[] }:Act).defers++ds }:=by subst hd;rfl
 have h1:=qsm (r:=r) (ds:=ds) (Q2:=qho n Q) hnd (fun _ _ _ h=>h.1) (fun a' w' h=>?_) _ _ _ _ (h.h { a with defers:=[] } ha)
 ·rw [← e] at h1;exact h1
 ·obtain ⟨_,ρ',hs,hq⟩:=h;have hd':a'.defers++ds=ds:=by rw [hs.defers];rfl
  refine ⟨ρ',?_,?_⟩
  ·show St n ρ' { a' with defers:=[] };have:({ a' with defers:=[] }:Act)=a':=by have:=hs.defers;cases a';cases this;rfl
   rw [this];exact hs
  ·show Q .normal ρ' (a'.defers++ds) w';rw [hd'];exact hq
theorem AnyV.free {ops:Array Oper} {R:(Nat→Value)→World→Prop} {ρ:Nat→Value} {w:World} (hB:qgw n ops=true) (h:regD P ops.toList w.drew R ops.toList 0 [] ρ):AnyV P n ops R ρ w:=by
 refine ⟨fun a ha=>?_⟩;obtain ⟨E,h1,h2,h3⟩:=qna ops.toList [] [] ρ (fun k=>rfl) h;refine qls (Q:=R) (E:=E) (w0:=w.drew) (ρ:=ρ) (fun ρ a w h1 h2=>⟨rfl,ρ,h1,h2⟩) (qcy hB) (by simpa using h1) (fun i o e ho he=>?_) (by simpa using h3) _ _ (fun _=>undef) ρ a _ Js Js ⟨xr,ha,?_,?_,fun t _=>rfl⟩
 ·have:=h2 i o e (by simpa using ho) he
  simpa using this
 ·intro k hk;rw [qd] at hk;cases hk
 ·intro k hk;rw [qd] at hk;cases hk
theorem AnyV.gen {ops:Array Oper} {R:(Nat→Value)→World→Prop} {ρ:Nat→Value} {w:World} (I:(Nat→Bool)→(Nat→Value)→World→Prop) (hB:qgw n ops=true)
  (h0:∀ vals,I (fun j=>Nat.ble ops.size j) vals w.drew) (h:regG P ops.toList I R ops.toList 0 [] ρ):AnyV P n ops R ρ w:=by
 refine ⟨fun a ha=>?_⟩;obtain ⟨E,h1,h2,h3⟩:=qt5 ops.toList [] [] ρ (AgreeG.mk (fun _ _ h=>by cases h) (fun _ _ _ h=>by simp at h)) h;refine qqd (I:=I) (Q:=R) (E:=E) (w0:=w.drew) (ρ:=ρ) (fun ρ a w h1 h2=>⟨rfl,ρ,h1,h2⟩) (qcy hB) (by simpa using h1) (fun i o e ho he=>?_) (by simpa using h3) _ _ (fun _=>undef) ρ a _ Js Js ⟨xr,ha,?_,?_,fun t _=>rfl⟩ ?_
 ·have:=h2 i o e (by simpa using ho) he
  simpa using this
 ·intro k hk;rw [qd] at hk;cases hk
 ·intro k hk;rw [qd] at hk;cases hk
 ·have:(fun j=>(Array.replicate ops.size false).getD j true)=fun j=>Nat.ble ops.size j:=by
   funext j
   rcases Nat.lt_or_ge j ops.size with hj|hj
   ·have h2:Nat.ble ops.size j=false:=Bool.eq_false_iff.2 fun e=>by have:=Nat.le_of_ble_eq_true e;omega
    simp [hj,h2]
   ·rw [Nat.ble_eq_true_of_le hj];simp [hj]
  rw [this];exact h0 _
theorem q5m {α:Type} (l:α→List (Nat × Value)) (d:α→List Deferred) (I:α→World→Prop) (μ:α→Nat) {body:Code} {Q:QW} {ρ:Nat→Value} {ds:List Deferred} {w:World} (x0:α)
  (h0:qi5 (l x0) ρ) (hd0:ds=d x0) (hI:I x0 w)
  (hr:∀ x w ρ',I x w→qf9 P n r body (seqW (fun ρ'' ds'' w'=>∃ x',qi5 (l x') ρ''∧ds''=d x'∧I x' w'∧μ x'<μ x) Q) (over (l x) ρ') (d x) w):LoopW P n r body Q ρ ds w:=by
 subst hd0;refine ⟨fun a ha hd=>?_⟩;intro b k cs hro hb hroom;have key:∀ m x,μ x=m→∀ ρ a w,qi5 (l x) ρ→Sw n ρ a→a.defers=d x→I x w→
   ∃ e a' w',qho n Q e a' w'∧ArrivesIn (Machine.fenced P (Fr r)) P (lone (b.atR a (.code body::.inLoop body::k)) cs w) b k cs e a' w':=by
  intro m
  induction m using Nat.strongRecOn with
  | _ m ih=>
   intro x hm ρ a w hag hst hds hI;have h1:=hr x w ρ hI;rw [qjt hag] at h1;obtain ⟨e,a₁,w₁,hq,harr⟩:=qdx body _ _ _ _ h1 a hst hds b (.inLoop body::k) cs hro hb hroom;obtain ⟨ρ₁,hst₁,hq⟩:=hq;cases e with
   | normal=>
    obtain ⟨x',hag',hds',hI',hlt⟩:=hq;obtain ⟨e₂,a₂,w₂,hq₂,harr₂⟩:=ih (μ x') (hm ▸ hlt) x' rfl ρ₁ a₁ w₁ hag' hst₁ hds' hI';exact ⟨e₂,a₂,w₂,hq₂,.of_steps (StepsIn.trans harr (.one (fenced_calm hb hroom rfl) stepR_inLoop)) harr₂⟩
   | exit id=>exact ⟨_,a₁,w₁,⟨ρ₁,hst₁,hq⟩,.pass (x:=.inLoop body) rfl (fun _ _=>.inl Js) harr⟩
   | goto l=>exact ⟨_,a₁,w₁,⟨ρ₁,hst₁,hq⟩,.pass (x:=.inLoop body) rfl (fun _ _=>.inl Js) harr⟩
   | ret=>exact ⟨_,a₁,w₁,⟨ρ₁,hst₁,hq⟩,.pass (x:=.inLoop body) rfl (fun _ _=>.inl Js) harr⟩
   | panic ch=>exact ⟨_,a₁,w₁,⟨ρ₁,hst₁,hq⟩,.pass (x:=.inLoop body) rfl (fun _ _=>.inl Js) harr⟩
   | outgrown=>exact ⟨_,a₁,w₁,⟨ρ₁,hst₁,hq⟩,.pass (x:=.inLoop body) rfl (fun _ _=>.inl Js) harr⟩
 obtain ⟨e,a',w',hq,harr⟩:=key _ x0 rfl ρ a w h0 ha hd hI;exact ⟨e,a',w',hq,.of_steps (.one (fenced_calm hb hroom rfl) stepR_loop) harr⟩
structure BeginA (J:List (Nat × Obj)→World→Prop) (l:Nat) (ob ob':Obj) (w:World) (ds:List Deferred) (K:World→Prop):Prop where
 d:ds=[]
 h:∃ Y,J ((l,ob)::Y) w∧∀ w2,J ((l,ob')::Y) w2→K w2
theorem q5x {f:Operand} {ps:Array Tmp} {assign body:Code} {Q:QW} {ρ:Nat→Value} {ds:List Deferred} {w:World} {Φ:World→Prop} {gf:FuncId} {lb:List Value} {xs:List (List Value)}
  (hf:ev ρ f=.func (.func gf) #[] lb.toArray) (he:qdm P gf=true) (hseq:SeqC P gf lb xs Φ) (hpn:ps.toList.all (Nat.blt · n)=true) (hps:∀ x∈xs,x.length=ps.size)
  (J:Nat→List (Nat × Obj)→World→Prop) (Jx:Code→Nat→List (Nat × Obj)→World→Prop) (hJ:∀ k,Carr (J k)) (hJx:∀ c k,Carr (Jx c k)) (hw:∀ k X w,J k X w→Φ w) (h0:J 0 [] w)
  (hbody:∀ l D ob ob' k x X w1,xs[k]?=some x→J k ((l,ob)::(D,.deferred (some []))::X) w1→
   qf9 P n (some l) assign (qaa7 fun ρ1 ds1 w1'=>BeginA (J k) l ob ob' w1' ds1
    (fun w2=>qf9 P n (some l) body (q5y (J (k+1) ((l,ob')::(D,.deferred (some []))::X)) (fun c=>Jx c k ((l,ob')::(D,.deferred (some []))::X))) ρ1 [] w2)) (qwe ps.toList x ρ) [] w1)
  (hdone:∀ D w',J xs.length [(D,.deferred (some []))] w'→Q .normal ρ ({ target:=.collected D,args:=#[] }::ds) w')
  (hstop:∀ D c k w',k<xs.length→Jx c k [(D,.deferred (some []))] w'→qabr c Q ρ ({ target:=.collected D,args:=#[] }::ds) w'):RangeW P n none f ps assign body Q ρ ds w:=by
 refine ⟨fun a ha hd=>?_⟩;subst hd;refine wpIn_rangeFunc ?_;intro fn hfn;obtain ⟨rec,hrec⟩:∃ rec:LoopState→Option Code→Loop,rec=fun st pe=>{ state:=st,pending:=pe,fn,tmps:=a.tmps,params:=ps,assign,body,defers:=w.heap.size }:=⟨_,rfl⟩
 obtain ⟨W1,hW1⟩:∃ W1,(w.alloc (.deferred (some []))).alloc (.loop (rec .ready none))=W1:=⟨_,rfl⟩
 have hD:=(hJ 0).new (.deferred (some [])) h0;have hL:=(hJ 0).new (.loop (rec .ready none)) hD;rw [hW1,World.size_alloc] at hL;refine ⟨w.heap.size+1,[{ target:=.collected w.heap.size,args:=#[] }],W1,{ target:=.fn (.func gf) lb.toArray,args:=#[.func (.yield (w.heap.size+1)) #[] #[]] },W1,gf,
  #[.func (.yield (w.heap.size+1)) #[] #[]]++lb.toArray,W1,?_,?_,fun _ _=>trivial,?_,fun h=>by simp [Fr] at h,?_⟩
 ·rw [← hW1,hrec];exact run_enterLoop_outer _ _ _ _ _
 ·have:a.eval f=.func (.func gf) #[] lb.toArray:=by rw [ha.eval,hf]
  simp only [resolve,this];simp [go_sem]
 ·simp only [invoke];exact qch he _
 ·have ea:#[Value.func (.yield (w.heap.size+1)) #[] #[]]++lb.toArray=(Value.func (.yield (w.heap.size+1)) #[] #[]::lb).toArray:=by rw [← Array.toList_inj];simp
  rw [ea];refine qcq.2 ((hseq (w.heap.size+1) (fun k X W=>J k (X++[(w.heap.size+1,.loop (rec .ready none)),(w.heap.size,.deferred (some []))]) W)
   (fun k X W=>∃ c,Jx c k (X++[(w.heap.size+1,.loop (rec .done (some c))),(w.heap.size,.deferred (some []))]) W) W1
   (fun k=>(hJ k).tail _) (fun k=>Carr.any fun c=>(hJx c k).tail _) (fun k X W h=>hw _ _ _ h) hL ?_).2.mono ?_)
  ·intro k x X W hx hk;replace hk:=(hJ k).perm hk List.perm_append_comm;have hl:=(hJ k).get hk mh;have hy:=run_yield (P:=P) (args:=x.toArray) hl (by rw [hrec];simpa using hps x (zmg hx));rw [hrec] at hy;refine ⟨⟨fn,_,assign,body,hy,roundIn_of_wpIn hfn ?_⟩⟩;have h1:=hbody (w.heap.size+1) w.heap.size _ (.loop { rec .ready none with state:=.busy }) k x X W hx hk;have hz:(ps.zip x.toArray).foldl (fun t (p,v)=>t.setIfInBounds p v) a.tmps=(ps.toList.zip x).foldl (fun t (p,v)=>t.setIfInBounds p v) a.tmps:=by
    rw [← Array.foldl_toList];simp
   have hst:Sw n (qwe ps.toList x ρ) { tmps:=(ps.zip x.toArray).foldl (fun t (p,v)=>t.setIfInBounds p v) a.tmps,defers:=[] }:=by
    rw [hz];exact qua _ _ _ _ hpn ha
   refine Go.wpIn_mono (F:=Fr (some (w.heap.size+1))) (qdx assign _ _ _ _ h1 _ hst rfl) fun e a1 w1 hq=>?_;obtain ⟨ρ1,hst1,hq⟩:=hq;cases e with
   | normal=>
    obtain ⟨hd1,Y,hY,hb1⟩:=hq;have hb1:=hb1 _ ((hJ k).set (.loop { rec .ready none with state:=.busy }) hY);refine ⟨_,run_beginRound ((hJ k).get hY mh) (by rw [hrec]),?_⟩;refine Go.wpIn_mono (F:=Fr (some (w.heap.size+1))) (qdx body _ _ _ _ hb1 _ hst1 hd1) fun e a2 w2 hq=>?_;obtain ⟨ρ2,hst2,hq⟩:=hq;cases e with
    | normal=>
     refine ⟨_,_,run_endRound none ((hJ _).get hq mh),_,rfl,.inl ⟨rfl,?_⟩⟩;have:=(hJ (k+1)).perm ((hJ (k+1)).set (.loop (rec .ready none)) hq) (List.perm_append_comm (l₁:=[_,_]));rw [hrec] at this ⊢;exact this
    | ret=>
     refine ⟨_,_,run_endRound (some .ret) ((hJx _ _).get hq mh),_,rfl,.inr ⟨rfl,.ret,?_⟩⟩;have:=(hJx _ k).perm ((hJx _ k).set (.loop (rec .done (some .ret))) hq) (List.perm_append_comm (l₁:=[_,_]));rw [hrec] at this ⊢;exact this
    | exit id=>
     refine ⟨_,_,run_endRound (some (.exit id)) ((hJx _ _).get hq mh),_,rfl,.inr ⟨rfl,.exit id,?_⟩⟩;have:=(hJx _ k).perm ((hJx _ k).set (.loop (rec .done (some (.exit id)))) hq) (List.perm_append_comm (l₁:=[_,_]));rw [hrec] at this ⊢;exact this
    | goto t=>
     refine ⟨_,_,run_endRound (some (.goto t)) ((hJx _ _).get hq mh),_,rfl,.inr ⟨rfl,.goto t,?_⟩⟩;have:=(hJx _ k).perm ((hJx _ k).set (.loop (rec .done (some (.goto t)))) hq) (List.perm_append_comm (l₁:=[_,_]));rw [hrec] at this ⊢;exact this
    | panic ch=>exact hq.elim
    | outgrown=>exact hq.elim
   | ret=>exact hq.elim
   | exit id=>exact hq.elim
   | goto t=>exact hq.elim
   | panic ch=>exact hq.elim
   | outgrown=>exact hq.elim
  ·rintro e W2 ⟨v,rfl,h|⟨k,hk,c,h⟩⟩
   ·have hl:=(hJ _).get h mh;have:=run_endLoop (P:=P) hl (by rw [hrec];simp);rw [hrec] at this;exact ⟨none,_,this,ρ,ha,hdone _ _ ((hJ _).drop ((hJ _).set _ h))⟩
   ·have hl:=(hJx _ _).get h mh;have:=run_endLoop (P:=P) hl (by rw [hrec];simp);rw [hrec] at this;refine ⟨some c,_,this,?_⟩;have hs:=hstop _ c k _ hk ((hJx _ _).drop ((hJx _ _).set (.loop { rec .done (some c) with state:=.exhausted }) h));rw [hrec] at hs;cases c with
    | ret=>exact Go.wpIn_ret ⟨ρ,ha,hs⟩
    | exit id=>exact Go.wpIn_exit ⟨ρ,ha,hs⟩
    | goto t=>exact Go.wpIn_goto ⟨ρ,ha,hs⟩
    | _=>exact hs.elim
def qkn (D:Nat):Deferred:={ target:=.collected D,args:=#[] }
def qcw (D:Nat):Nat × Obj:=(D,.deferred (some []))
theorem qeo {fn:Func} {R:Value→World→Prop} {ρ:Nat→Value} {J:List (Nat × Obj)→World→Prop} (hJ:Carr J) (hk:∀ w',J [] w'→resV fn.results ρ w' fn R P n) :
  ∀ (Ds:List Nat) (w:World),J (Ds.map qcw) w→qjm P n fn R ρ (Ds.map qkn) w
 | [],w,h=>hk w h
 | D::Ds,w,h=>by
  show LeaveV P n fn R ρ (qkn D::Ds.map qkn) w;refine LeaveV.mark (hJ.get h mh) fun w' hw=>?_;subst hw;exact qeo hJ hk Ds _ (hJ.drop (hJ.set _ h))
theorem Carr.setM {J:List (Nat × Obj)→World→Prop} (h:Carr J) {A B:List (Nat × Obj)} {b:Nat} {o:Obj} {w:World} (o':Obj) (k:J (A++(b,o)::B) w):J (A++(b,o')::B) (setO w b o'):=
 h.perm (h.set o' (h.perm k List.perm_middle)) List.perm_middle.symm
theorem LeaveV.marks {fn:Func} {R:Value→World→Prop} {ρ:Nat→Value} {J:List (Nat × Obj)→World→Prop} (hJ:Carr J) (hk:∀ w',J [] w'→resV fn.results ρ w' fn R P n) {D:Nat} {Ds:List Nat} {w:World} (h:J ((D::Ds).map qcw) w) :
  LeaveV P n fn R ρ (qkn D::Ds.map qkn) w:=qeo hJ hk (D::Ds) w h
theorem Carr.dropM {J:List (Nat × Obj)→World→Prop} (h:Carr J) {A B:List (Nat × Obj)} {x:Nat × Obj} {w:World} (k:J (A++x::B) w):J (A++B) w:=h.drop (h.perm k List.perm_middle)
theorem qpr {w:World} {b off:Nat} {v:Value} {cs:Array Value} {t:TypeId} {fr:Nat × Nat} (h:w.heap[b]?=some (.cells cs t fr)):w.setCell ⟨b,off,none⟩ v=setO w b (.cells (cs.setIfInBounds off v) t fr):=by
 unfold World.setCell setO
 congr 1
 apply Array.ext_getElem?;intro i
 by_cases hi:i=b
 ·subst hi;have hlt:i<w.heap.size:=by
   rcases Nat.lt_or_ge i w.heap.size with h' | h'
   ·exact h'
   ·rw [Array.getElem?_eq_none h'] at h;cases h
  rw [Array.getElem?_modify,if_pos rfl,h,Array.getElem?_setIfInBounds_self_of_lt hlt];rfl
 ·rw [Array.getElem?_modify,if_neg (fun e=>hi e.symm),Array.getElem?_setIfInBounds_ne (fun e=>hi e.symm)]
theorem StoreV.carr {J:List (Nat × Obj)→World→Prop} (hJ:Carr J) {A B:List (Nat × Obj)} {b off:Nat} {cs:Array Value} {t:TypeId} {v:Value} {w:World} {K:World→Prop} (h:J (A++(b,.cells cs t)::B) w) (ho:off<cs.size) (h1:qck v=true)
  (hk:∀ w',J (A++(b,.cells (cs.setIfInBounds off v) t)::B) w'→K w'):StoreV w b off v K:=by
 have hg:=hJ.get h (List.mem_append_right _ mh);refine StoreV.own hg ho h1 fun w' hw=>hk w' ?_
 rw [hw,qpr hg];exact hJ.setM _ h
theorem NewV.carr {J:List (Nat × Obj)→World→Prop} (hJ:Carr J) {X:List (Nat × Obj)} {o:Obj} {w:World} {K:Nat→World→Prop} (h:J X w) (hk:∀ b w',J ((b,o)::X) w'→K b w'):NewV w o K:=
 ⟨fun b w' hb hw=>by subst hb hw;exact hk _ _ (hJ.new o h)⟩
theorem LoadV.carr {J:List (Nat × Obj)→World→Prop} (hJ:Carr J) {X:List (Nat × Obj)} {b off:Nat} {cs:Array Value} {t:TypeId} {fr:Nat × Nat} {v:Value} {w:World} {K:Value→Prop} (h:J X w) (hx:(b,Obj.cells cs t fr)∈X) (hv:cs[off]?=some v) (hk:K v):LoadV w b off K:=
 LoadV.own (hJ.get h hx) hv hk
end
end V
def dRow (m:LB) (i:Nat):List Value:=[ii i,.string ⟨(dTxt m i).toArray⟩]
def DicΦ (b:Nat) (m:LB) (b1 b2:Nat) (w:World):Prop:=DictAt w b m∧w.cell? ⟨b1,0,none⟩=some (ii 0)∧w.cell? ⟨b2,0,none⟩=some (pp b)
theorem qxt (b:Nat) (w:World):Gv Tryz.prog 100 [pp b,ii 0] w fun r w'=>
  ∃ b1 b2,r=.func (.func 167) #[] #[pp b1,pp b2]∧Mem w w' [(b1,.cells #[ii 0] 3),(b2,.cells #[pp b] 148)]:=by
 refine ze Tryz.func100 Tryz.ntmps100 ?_;refine znm (Mem.nil w) fun b1 w1 hm=>zw ?_;refine znm hm fun b2 w2 hm=>zw ?_;exact ⟨b2,b1,rfl,hm⟩
theorem q12 (b k:Nat) {J:List (Nat × Obj)→World→Prop} (hJ:Carr J) {X:List (Nat × Obj)} (w:World) (h:J X w):Gv Tryz.prog 168 [pp b,ii k] w fun r w'=>
  ∃ b1 b2,r=.func (.func 207) #[] #[pp b1,pp b2]∧J ((b2,.cells #[ii k] 3)::(b1,.cells #[pp b] 148)::X) w':=by
 refine ze Tryz.func168 Tryz.ntmps168 ?_;refine NewV.carr hJ h fun b1 w1 hm=>zw ?_;refine NewV.carr hJ hm fun b2 w2 hm=>zw ?_;exact ⟨b1,b2,rfl,hm⟩
theorem qxu (b:Nat) (m:LB) (b1 b2:Nat) (hE:(doE m).2=0) :
  SeqC Tryz.prog 167 [pp b1,pp b2] ((List.range (dN m)).map (dRow m)) (DicΦ b m b1 b2):=by
 intro l I Ix w cI cIx hI h0 hy;have hdn:=(hI 0 [] w h0).1.n;have hub:upN (dN m) 16≤4194304:=Nat.le_trans (qan _ _ Od) hdn;have hxs:((List.range (dN m)).map (dRow m)).length=dN m:=by simp
 refine gvW Jk Tryz.func167 rfl Tryz.ntmps167 rfl (zw ?_);refine NewV.carr (cI 0) h0 fun b3 w1 h0=>zw ?_;refine LoadV.of (hI _ _ _ h0).2.1 (zw ?_);refine V.Fall.max2 rfl rfl rfl fun m' hm'=>?_;obtain rfl:m'=0:=by omega
 (conv=>whnf);refine NewV.carr (cI 0) h0 fun b4 w2 h0=>zw ?_;refine StoreV.carr (cI 0) (A:=[]) h0 Js rfl fun w3 h0=>zw ?_;refine LoadV.carr (cI 0) h0 mh rfl (zu ?_);refine q5m (fun x:Nat × List Nat=>[(0,.func (.yield l) #[] #[]),(1,pp b1),(2,pp b2),(3,pp b3),(4,pp b4),(5,ii x.1)]) (fun x=>x.2.map qkn)
  (fun x w'=>x.1≤upN (dN m) 16∧I (min (16*x.1) (dN m)) (x.2.map qcw++[(b4,.cells #[ii 0] 3),(b3,.cells #[.func (.yield l) #[] #[]] 256)]) w') (fun x=>upN (dN m) 16-x.1) (0,[])
  ⟨rfl,rfl,rfl,rfl,rfl,rfl,trivial⟩ rfl ⟨Nat.zero_le _,by show I (min (16*0) (dN m)) _ w3;rw [Nat.mul_zero,Nat.zero_min];exact h0⟩ ?_
 clear h0;rintro ⟨k,Ds⟩ w4 ρ' ⟨hk,hIk⟩;dsimp only at hk hIk ⊢;obtain ⟨⟨⟨P,cp,E,ce,hd1,_,_,_⟩,_⟩,_,hc2⟩:=hI _ _ _ hIk;(conv=>whnf);refine LoadV.of hc2 (zw ?_);refine LoadV.own hd1 rfl (zw ?_);refine zcv (qe5 (dN m) w4 hdn) ?_;rintro v w5 ⟨rfl,rfl⟩;(conv=>whnf);refine zC (fun _=>zu ?_) (fun _=>zu ?_)
 ·have hkn:16*k<dN m:=by unfold upN at *;omega
  have hmin:min (16*k) (dN m)=16*k:=by omega
  rw [hmin] at hIk;obtain ⟨n,hnn⟩:∃ n,n=min 16 (dN m-16*k):=⟨_,rfl⟩
  have hn:BEnd m k n:=by rw [hnn];exact BEnd.full hE k
  refine NewV.carr (cI _) hIk fun b6 w6 hJ=>zw ?_;refine StoreV.carr (cI _) (A:=[]) hJ Js rfl fun w7 hJ=>zw ?_;refine LoadV.of (hI _ _ _ hJ).2.2 (zw ?_);refine zcv (q12 b k (cI _) w7 hJ) ?_;clear hJ;rintro v w8 ⟨c1,c2,rfl,hJ⟩;(conv=>whnf);have hlen:((List.range n).map (bRow m k)).length=n:=by simp
  obtain ⟨L,hL⟩:∃ L:Nat→List (Nat × Obj),L=fun j=>[(c2,.cells #[ii k] 3),(c1,.cells #[pp b] 148)]++(b6,.cells #[ii (16*k+j:Nat)] 3)::(Ds.map qcw++[(b4,.cells #[ii 0] 3),(b3,.cells #[.func (.yield l) #[] #[]] 256)]):=⟨_,rfl⟩
  have hJ:I (16*k+0) ([]++L 0) w8:=by
   rw [hL];have e:((k:Int)*16)=((16*k+0:Nat):Int):=by omega
   rw [e] at hJ;exact hJ
  have hin:∀ (X:List (Nat × Obj)) (j:Nat),(c1,Obj.cells #[pp b] 148)∈X++L j∧(c2,Obj.cells #[ii k] 3)∈X++L j∧(b4,Obj.cells #[ii 0] 3)∈X++L j∧(b3,Obj.cells #[.func (.yield l) #[] #[]] 256)∈X++L j∧(b6,Obj.cells #[ii (16*k+j:Nat)] 3)∈X++L j:=fun X j=>by
   rw [hL];refine ⟨?_,?_,?_,?_,?_⟩<;>simp
  refine qt1 (Φ:=BlkΦ b m k c1 c2) (lb:=[pp c1,pp c2]) (xs:=(List.range n).map (bRow m k)) rfl Jk (qi7 b m k n c1 c2 Oo hn).toC Od ?_
   (fun j X w'=>I (16*k+j) (X++L j) w') (fun c j X w'=>∃ _:PLift (c=.ret),Ix (16*k+j) (X++L j) w')
   (fun j=>(cI _).tail _) (fun c j=>Carr.any fun _=>(cIx _).tail _)
   (fun j X w' h=>⟨(hI _ _ _ h).1,by rw [qa ((cI _).get h (hin X j).1)];rfl,by rw [qa ((cI _).get h (hin X j).2.1)];rfl⟩) hJ ?_ ?_ ?_
  ·intro x hx;obtain ⟨j,_,rfl⟩:=List.mem_map.1 hx;rfl
  ·rintro l2 D ob j x X w9 w10 hx hJ;have hjn:j<n:=by
    have:=(List.getElem?_eq_some_iff.1 hx).1
    rwa [hlen] at this
   rw [List.getElem?_map,List.getElem?_range hjn,Option.map_some,Option.some.injEq] at hx;subst hx;have hj16:j<16:=by omega
   (conv=>whnf);refine ⟨rfl,rfl,?_⟩;(conv=>whnf);refine LoadV.carr (cI _) hJ (hin _ j).2.2.1 rfl (zu ?_);refine LoadV.carr (cI _) hJ (hin _ j).2.2.2.1 rfl (zu ?_);refine YieldV.mono (hy (16*k+j) _ _ w10 ?_ hJ) ?_
   ·rw [List.getElem?_map,List.getElem?_range Oo,Option.map_some,dRow,← qso m k j hj16];rfl
   clear hJ;rintro v w11 (⟨rfl,hJ⟩|⟨rfl,hX⟩)
   ·refine zu ?_;have hJ:I (16*k+j+1) ((((l2,ob)::(D,.deferred (some []))::X)++[(c2,.cells #[ii k] 3),(c1,.cells #[pp b] 148)])++(b6,.cells #[ii (16*k+j:Nat)] 3)::(Ds.map qcw++[(b4,.cells #[ii 0] 3),(b3,.cells #[.func (.yield l) #[] #[]] 256)])) w11:=by
     rw [hL] at hJ
     simpa using hJ
    refine StoreV.carr (cI _) hJ Js rfl fun w12 hJ=>zw ?_;have e:(((16*k+j:Nat):Int)+1)=((16*k+(j+1):Nat):Int):=by omega
    rw [hL];have hJ:I (16*k+j+1) ((((l2,ob)::(D,.deferred (some []))::X)++[(c2,.cells #[ii k] 3),(c1,.cells #[pp b] 148)])++(b6,.cells #[ii (((16*k+j:Nat):Int)+1)] 3)::(Ds.map qcw++[(b4,.cells #[ii 0] 3),(b3,.cells #[.func (.yield l) #[] #[]] 256)])) w12:=hJ;rw [e] at hJ
    simpa [Nat.add_assoc] using hJ
   ·refine zu ?_;exact ⟨⟨rfl⟩,hX⟩
  ·rintro D w9 hJ;rw [hlen] at hJ;have hg6:=(cI _).get hJ (hin _ n).2.2.2.2;obtain ⟨⟨⟨P,cp,E,ce,hd1,_,_,_⟩,_⟩,_,hc2⟩:=hI _ _ _ hJ;(conv=>whnf);refine DrawW.any Jk (.inl rfl) (AnyV.free Jk ?_);(conv=>whnf);refine zf ?_ (by intro wd hd;(conv=>whnf);refine LoadV.own (Ext.get (Ext.trans (Ext.drew xr) hd) hg6) rfl ?_;(conv=>whnf);exact ⟨xr,rfl⟩);refine zf ?_ (by intro wd hd;(conv=>whnf);refine LoadV.of (Ext.cell (Ext.trans (Ext.drew xr) hd) hc2) ?_;(conv=>whnf);exact ⟨xr,rfl⟩);refine zd ?_;refine zd ?_;refine zf ?_ (by intro wd hd;(conv=>whnf);refine LoadV.own (Ext.get (Ext.trans (Ext.drew xr) hd) hd1) rfl ?_;(conv=>whnf);exact ⟨xr,rfl⟩);(iterate 3 (refine zd ?_));refine zsd (ii (min (dN m:Int) (((k:Int)+1)*16))) (fun wd hd=>zw ?_) (zw ?_)
   ·refine V.Fall.min2 rfl rfl rfl fun m' hm'=>?_;subst hm';exact ⟨xr,rfl⟩
   refine zd ?_;intro w10 he10;refine zu ?_;refine ⟨(k+1,D::Ds),⟨rfl,rfl,rfl,rfl,rfl,rfl,trivial⟩,rfl,⟨by simp only;omega,?_⟩,by simp only;omega⟩;have hJ:=(cI _).ext hJ (Ext.trans xr.drew he10);rw [hL] at hJ;have e:min (16*(k+1)) (dN m)=16*k+n:=by omega
   have h1:=(cI _).dropM (A:=[(D,.deferred (some []))]) (by simpa using hJ);have h2:=(cI _).dropM (A:=[(D,.deferred (some []))]) (by simpa using h1);have h3:=(cI _).dropM (A:=[(D,.deferred (some []))]) (by simpa using h2);simp only [e]
   simpa [qcw] using h3
  ·rintro D c j w9 hjn ⟨⟨rfl⟩,hX⟩;rw [hlen] at hjn;(conv=>whnf);refine LeaveV.marks (J:=fun X w'=>Ix (16*k+j) X w') (cIx _) ?_ (D:=D) (Ds:=Ds) ?_
   ·intro w' h;(conv=>whnf);exact .inr ⟨16*k+j,by rw [hxs];omega,h⟩
   ·rw [hL] at hX;have h1:=(cIx _).dropM (A:=[(D,.deferred (some []))]) (by simpa using hX);have h2:=(cIx _).dropM (A:=[(D,.deferred (some []))]) (by simpa using h1);have h3:=(cIx _).dropM (A:=[(D,.deferred (some []))]) (by simpa using h2);have h4:=(cIx _).dropM (A:=(D,.deferred (some []))::Ds.map qcw) (by simpa using h3);have h5:=(cIx _).dropM (A:=(D,.deferred (some []))::Ds.map qcw) (by simpa using h4)
    simpa [qcw] using h5
 ·have e:min (16*k) (dN m)=dN m:=by unfold upN at *;omega
  rw [e] at hIk;refine qeo (J:=fun X w'=>I (dN m) X w') (cI _) ?_ Ds _ ?_
  ·intro w' h;(conv=>whnf);exact .inl (by rw [hxs];exact h)
  ·have h4:=(cI _).dropM (A:=Ds.map qcw) (by simpa using hIk);have h5:=(cI _).dropM (A:=Ds.map qcw) (by simpa using h4)
   simpa using h5
theorem qh6 {l:LB} (hv:vOk l=true):8≤l.length∧vN l≤67108864∧vM l≤vN l∧l.length=qaj (vN l) (vM l)∧qaj (vN l) (vM l)≤1000000000:=by
 simp only [vOk,Bool.and_eq_true,decide_eq_true_eq] at hv;obtain ⟨⟨⟨v1,v2⟩,v3⟩,v4⟩:=hv;exact ⟨v1,v2,v3,v4,qkg _ _ v2 v3⟩
theorem q1h (l:LB) (A:oA) (c b:Nat) (w:World) (hS:SlAt encB 1 w A l) (hc:l.length≤c) (hv:vOk l=true) (hb:w.heap[b]?=some (vecO 263 (.slice A l.length c) (vN l) (vM l))) :
  Gv Tryz.prog 209 [pp b] w fun r w'=>(∃ A' c',r=.slice A' (upN (vN l) 8) c'∧SlAt encB 1 w' A' (vD l))∧Ext w w':=by
 obtain ⟨v1,v2,v3,v4,v5⟩:=qh6 hv;have g1:qg (vN l)=8+upN (vN l) 8:=rfl;have g2:qq (vN l)=qg (vN l)+4*upN (vN l) 2048:=rfl;have g3:qaa (vN l)=qq (vN l)+2*upN (vN l) 256:=rfl;have g4:qaj (vN l) (vM l)=qaa (vN l)+4*upN (vM l) 512:=rfl;have hcut:=SlAt.cut hS (lo:=8) (hi:=qg (vN l)) (m:=c) Oo Oo Oo rfl;rw [show qg (vN l)-8=upN (vN l) 8 by omega] at hcut;refine ze Tryz.func209 Tryz.ntmps209 ?_;refine DrawV.free Jk Jk (zw ?_);(iterate 3 (refine zd ?_));refine zf ?_ (by intro wd hd;(conv=>whnf);refine LoadV.own (Ext.get (Ext.trans (Ext.drew xr) hd) hb) rfl ?_;(conv=>whnf);exact ⟨xr,rfl⟩);(iterate 4 (refine zd ?_));refine zf ?_ (by intro wd hd;(conv=>whnf);refine LoadV.own (Ext.get (Ext.trans (Ext.drew xr) hd) hb) rfl ?_;(conv=>whnf);exact ⟨xr,rfl⟩);(iterate 4 (refine zd ?_));refine zf ?_ (by intro wd hd;(conv=>whnf);refine LoadV.own (Ext.get (Ext.trans (Ext.drew xr) hd) hb) rfl ?_;(conv=>whnf);exact ⟨xr,rfl⟩);apply zsd
 ·intro wd hd;(conv=>whnf);refine SliceV.to 8 (qg (vN l)) c rfl rfl rfl Oo Oo znr (fun h=>by cases h) (zw ?_);exact ⟨xr,rfl⟩
 (conv=>whnf);refine zd ?_;intro w1 he1;(conv=>whnf);have hx:=(Ext.refl w).drew.trans he1;exact ⟨⟨_,_,by rw [show qg (vN l)-8=upN (vN l) 8 by omega];rfl,hcut.ext hx⟩,hx⟩
theorem qum (l:LB) (A:oA) (c b i:Nat) (w:World) (hS:SlAt encB 1 w A l) (hv:vOk l=true) (hb:w.heap[b]?=some (vecO 263 (.slice A l.length c) (vN l) (vM l))) (hi:i<vN l) :
  Gv Tryz.prog 171 [pp b,ii i] w fun r w'=>r=.bool (decide (bitN (l.drop 8) i=1))∧Ext w w':=by
 obtain ⟨v1,v2,v3,v4,v5⟩:=qh6 hv;have g1:qg (vN l)=8+(vN l+7)/8:=rfl;have g4:qg (vN l)≤qaj (vN l) (vM l):=by unfold qaj qaa qq;omega
 refine ze Tryz.func171 Tryz.ntmps171 ?_;refine zy ?_;refine zv ?_;refine LoadV.own ((Ext.refl w).drew.get hb) rfl (zu ?_);refine LoadV.own ((Ext.refl w).drew.get hb) rfl (zu ?_);refine LoadV.own ((Ext.refl w).drew.get hb) rfl (zu ?_);have hj:8+i/8<l.length:=by omega
 refine ElemV.bs (hS.ext (Ext.refl w).drew) rfl (8+i/8) Oo hj ?_;intro eb eo hcell;have hlt:=qad (l[8+i/8]);have hlt2:l[8+i/8].toNat/2 ^ (i%8)<256:=Nat.lt_of_le_of_lt (Nat.div_le_self _ _) hlt;have hbit:l[8+i/8].toNat/2 ^ (i%8)%2 ^ 1=bitN (l.drop 8) i:=by
  rw [bitN,List.getD_eq_getElem?_getD,List.getElem?_drop,zge hj];rfl
 refine zu ?_;refine LoadV.of hcell (zu ?_);refine V.Wit.shrN (i%8) Oo (by show i%8<8;omega) (zu ?_);refine Wit.eq (qa9 (k:=.u8) (m:=l[8+i/8].toNat/2 ^ (i%8)) 1 rfl (qc3 hlt2) ⟨by omega,by omega⟩) ?_;rw [hbit];refine zu ?_;refine ⟨congrArg Value.bool ?_,(Ext.refl w).drew⟩;rw [Bool.eq_iff_iff];simp only [decide_eq_true_eq];omega
def SpM (l:LB) (w0:World) (b pb pf:Nat) (L:List (Nat × Nat × Nat)) (w:World):Prop:=
 ∃ f:Int,SpI l L f∧Mem w0 w [(pf,.cells #[ii f] 3),(pb,.cells #[pp b] 196)]
theorem qru (l:LB) (A:oA) (c b pb pf:Nat) (w0 w:World) (L:List (Nat × Nat × Nat)) (x:Nat × Nat × Nat) (hS:SlAt encB 1 w0 A l) (hc:l.length≤c) (hv:vOk l=true)
  (hb:w0.heap[b]?=some (vecO 263 (.slice A l.length c) (vN l) (vM l))) (hI:SpM l w0 b pb pf L w) (hk:x.1=2048∨x.1=256∨x.1=512) (hx:plD (vN l) x+szD x≤l.length) :
  Gv Tryz.prog 248 [ii x.1,ii x.2.1,ii x.2.2,pp pb,pp pf] w fun r w'=>r=.bool true∧SpM l w0 b pb pf (L++[x]) w':=by
 obtain ⟨v1,v2,v3,v4,v5⟩:=qh6 hv;obtain ⟨f,hf,hm⟩:=hI;obtain ⟨k,y,z⟩:=x;have hb1:=hm.ext.get hb;have hS1:=hS.ext hm.ext;obtain ⟨g,off,rfl,_⟩:=hS.at_ (by intro e;rw [e] at v1;simp at v1);dsimp only at hk ⊢;have hy:y≤500000000:=by
  unfold plD at hx;dsimp only at hx
  split at hx
  ·omega
  ·split at hx<;>omega
 have u1:=qan (vN l) 8 Od;have u2:=qan (vN l) 2048 Od;have u3:=qan (vN l) 256 Od;have g1:qg (vN l)=8+upN (vN l) 8:=rfl;have g2:qq (vN l)=qg (vN l)+4*upN (vN l) 2048:=rfl;have g3:qaa (vN l)=qq (vN l)+2*upN (vN l) 256:=rfl;refine ze Tryz.func248 Tryz.ntmps248 ?_;refine zr hm 1 ?_;refine LoadV.own hb1 rfl (zw ?_)
 (repeat' (first|refine zp ?_|refine zC (fun _=>zw ?_) (fun _=>zw ?_)))
 case' refine_1=>
  obtain rfl:k=2048:=by omega
  have hP:plD (vN l) (2048,y,z)=qg (vN l)+4*y:=rfl;have hx:qg (vN l)+4*y+4≤l.length:=hx;have hZ:okD l (2048,y,z)↔leN ((l.drop (qg (vN l)+4*y)).take 4)=z:=Iff.rfl;refine zr hm 1 ?_;refine LoadV.own hb1 rfl (zu ?_);refine zr hm 1 ?_;refine LoadV.own hb1 rfl (zw ?_);refine SliceV.rest (qg (vN l)+4*y) (by show (_:Int)=_;omega) hc Oo (zw ?_);refine zcv (qge (l.drop (qg (vN l)+4*y)) _ _ _ _ (SlAt.rest hS1 Oo) (by rw [zld]) (by rw [zld];omega)) ?_
 case' refine_2.refine_1=>
  obtain rfl:k=256:=by omega
  have hP:plD (vN l) (256,y,z)=qq (vN l)+2*y:=rfl;have hx:qq (vN l)+2*y+2≤l.length:=hx;have hZ:okD l (256,y,z)↔leN ((l.drop (qq (vN l)+2*y)).take 2)=z:=Iff.rfl;refine zr hm 1 ?_;refine LoadV.own hb1 rfl (zu ?_);refine zr hm 1 ?_;refine LoadV.own hb1 rfl (zw ?_);refine SliceV.rest (qq (vN l)+2*y) (by show (_:Int)=_;omega) hc Oo (zw ?_);refine zcv (q01 (l.drop (qq (vN l)+2*y)) _ _ _ _ (SlAt.rest hS1 Oo) (by rw [zld]) (by rw [zld];omega)) ?_
 case' refine_2.refine_2=>
  obtain rfl:k=512:=by omega
  have hP:plD (vN l) (512,y,z)=qaa (vN l)+4*y:=rfl;have hx:qaa (vN l)+4*y+4≤l.length:=hx;have hZ:okD l (512,y,z)↔leN ((l.drop (qaa (vN l)+4*y)).take 4)=z:=Iff.rfl;refine zr hm 1 ?_;refine LoadV.own hb1 rfl (zw ?_);refine SliceV.rest (qaa (vN l)+4*y) (by show (_:Int)=_;omega) hc Oo (zw ?_);refine zcv (qge (l.drop (qaa (vN l)+4*y)) _ _ _ _ (SlAt.rest hS1 Oo) (by rw [zld]) (by rw [zld];omega)) ?_
 all_goals
  rintro r w9 ⟨rfl,he9⟩;have hm9:=hm.call he9;conv=>whnf
  (repeat' (first|refine zp ?_|refine zC (fun _=>zw ?_) (fun _=>zw ?_)))
  ·rename_i hz
   have hbad:=fun g=>hz (congrArg (Nat.cast:Nat→Int) (hZ.1 g))
   refine zr hm9 0 ?_
   (repeat' (first|refine zp ?_|refine zC (fun _=>zw ?_) (fun _=>zw ?_)))
   ·rename_i hf0
    refine StoreV.mem hm9 (i:=0) rfl Nat.zero_lt_one rfl fun w10 hm10=>zw ?_;exact ⟨rfl,_,hf.take hbad (.inl hf0),hm10⟩
   ·rename_i hf0
    refine zr hm9 0 ?_
    (repeat' (first|refine zp ?_|refine zC (fun _=>zw ?_) (fun _=>zw ?_)))
    ·rename_i hf1
     refine StoreV.mem hm9 (i:=0) rfl Nat.zero_lt_one rfl fun w10 hm10=>zw ?_;exact ⟨rfl,_,hf.take hbad (.inr hf1),hm10⟩
    ·rename_i hf1
     exact ⟨rfl,f,hf.keep (.inr ⟨by omega,by rw [hP];omega⟩),hm9⟩
  ·rename_i hz
   exact ⟨rfl,f,hf.keep (.inl (hZ.2 Oo)),hm9⟩
theorem qol {d:LB} {nb:Nat} {x:Nat × Nat × Nat} (h:x∈dirD d nb):x.1=2048∨x.1=256∨x.1=512:=by
 obtain ⟨b,_,hx|hx|hx⟩:=qd2.1 h
 ·unfold grD at hx
  split at hx
  ·rw [List.mem_singleton.1 hx];exact .inl rfl
  ·cases hx
 ·unfold smD at hx
  split at hx
  ·rw [List.mem_singleton.1 hx];exact .inr (.inl rfl)
  ·cases hx
 ·obtain ⟨s,_,_,_,e⟩:=qhr.1 hx;rw [e];exact .inr (.inr rfl)
theorem qwh (l:LB) (A A':oA) (c c' b:Nat) (w:World) (hS:SlAt encB 1 w A l) (hc:l.length≤c) (hv:vOk l=true)
  (hb:w.heap[b]?=some (vecO 263 (.slice A l.length c) (vN l) (vM l))) (hD:SlAt encB 1 w A' (vD l)) (hp:¬ PadB (vD l) (vN l)) (hcn:cnt (vD l) (vN l)=vM l) :
  Gv Tryz.prog 210 [pp b,.slice A' (upN (vN l) 8) c'] w fun r w'=>((r=ii (-1)∧voE l=(0,0))∨∃ a:Nat,r=ii a∧voE l=(a,20))∧Ext w w':=by
 obtain ⟨v1,v2,v3,v4,v5⟩:=qh6 hv;have hd:=quk hv;refine ze Tryz.func210 Tryz.ntmps210 ?_;refine znm (Mem.nil w) fun pb w1 hm=>zw ?_;refine znm hm fun pf w2 hm=>zw ?_;refine StoreV.mem hm (i:=0) rfl Nat.zero_lt_one rfl fun w3 hm=>zw ?_;refine zr hm 1 ?_;refine LoadV.own (hm.ext.get hb) rfl (zw ?_);refine zcv (qgc (vD l) A' _ c' (vN l) w3 hd hd v2 _ (pp pb) (pp pf) (SpM l w b pb pf) (fun _ _ h=>let ⟨_,_,g⟩:=h;hD.ext g.ext) ⟨-1,SpI.nil l,hm⟩ (fun L x w' hI hx=>qru l A c b pb pf w w' L x hS hc hv hb hI (qol hx) (by have:=(ql8 hv hp hcn hx).2.1;omega))) ?_;rintro r w4 ⟨rfl,f,hf,hm4⟩;(conv=>whnf);refine zr hm4 0 ?_;refine ⟨?_,hm4.ext⟩
 rcases hf.voE hv hp hcn with ⟨rfl,h⟩|⟨_,a,rfl,h⟩
 ·exact .inl ⟨rfl,h⟩
 ·exact .inr ⟨a,rfl,h⟩
def ROpR (l:LB) (s:Value) (w0:World) (v:Value) (w:World):Prop:=
 (voE l=(0,0)∧∃ b,v=.tuple #[pp b,.nilIface]∧w0.heap.size≤b∧w.heap[b]?=some (vecO 263 s (vN l) (vM l)))∨
 ((voE l).2≠0∧∃ e,v=.tuple #[.pointer none,e]∧ErrAt w e (voE l).1 (voE l).2)
theorem qv8 (l:LB) (A:oA) (c:Nat) (w:World) (hS:SlAt encB 1 w A l) (hc:l.length≤c) (hv:vOk l=true) :
  Gv Tryz.prog 170 [.slice A l.length c] w fun v w'=>ROpR l (.slice A l.length c) w v w'∧Ext w w':=by
 obtain ⟨v1,v2,v3,v4,v5⟩:=qh6 hv;have hd:=quk hv;have hu:upN (vN l) 8=(vN l+7)/8:=rfl;have g1:qg (vN l)=8+upN (vN l) 8:=rfl;refine ze Tryz.func170 Tryz.ntmps170 ?_;refine zcv (qps l A c w hS hc Oo) ?_;rintro v w1 ⟨⟨h,_⟩|⟨_,b,rfl,hbw,hb⟩,he1⟩
 ·rw [hv] at h;cases h
 refine zu ?_;have hS1:=hS.ext he1;refine zcv (q1h l A c b w1 hS1 hc hv hb) ?_;rintro v w2 ⟨⟨A',c',rfl,hD⟩,he2⟩;(conv=>whnf);refine LoadV.own (he2.get hb) rfl (zw ?_);refine zcv (qlb (vD l) A' _ c' (vN l) w2 hD hd hd v2) ?_;rintro v w3 ⟨⟨bb,rfl,hpad⟩,rfl⟩;(conv=>whnf);have hb2:=he2.get hb;have hx2:=he1.trans he2;cases bb
 ·have hP:PadB (vD l) (vN l):=Classical.byContradiction fun g=>by cases hpad.2 g
  refine zv ?_;refine LoadV.own hb2 rfl (zu ?_);rw [show (qg (vN l):Int)-1=((7+upN (vN l) 8:Nat):Int) by omega];refine zcv (qbs (7+upN (vN l) 8) 12 w3) ?_;rintro v w4 ⟨⟨q,rfl,hq⟩,he4⟩;(conv=>whnf);exact ⟨.inr ⟨by rw [qnx hP];exact Nat.succ_ne_zero 11,_,rfl,by rw [qnx hP];exact ⟨q,rfl,hq⟩⟩,hx2.trans he4⟩
 ·have hP:¬ PadB (vD l) (vN l):=hpad.1 rfl;refine zv ?_;refine DrawV.free Jk Jk (zw ?_);refine zd ?_;apply zsd
  ·intro wd hd';(conv=>whnf);refine zcv (qoh (vD l) A' _ c' wd (hD.ext ((Ext.refl w3).drew.trans hd')) hd Oo) ?_;rintro v w9 ⟨rfl,rfl⟩;exact ⟨xr,rfl⟩
  (conv=>whnf);(iterate 3 (refine zd ?_));refine zf ?_ (by intro wd hd;(conv=>whnf);refine LoadV.own (Ext.get (Ext.trans (Ext.drew xr) hd) hb2) rfl ?_;(conv=>whnf);exact ⟨xr,rfl⟩);refine zd ?_;refine zd ?_;intro w4 he4;have hcn:cnt (vD l) (8*(vD l).length)=cnt (vD l) (vN l):=qxo hP Oo znr;have hx4:=hx2.trans ((Ext.refl w3).drew.trans he4);rw [hcn];(conv=>whnf);refine zC (fun _=>zw ?_) (fun _=>zw ?_)
  ·rename_i hne
   refine zcv (qbs 4 20 w4) ?_;rintro v w5 ⟨⟨q,rfl,hq⟩,he5⟩;(conv=>whnf);have hE:=qsd hP Oo;exact ⟨.inr ⟨by rw [hE];decide,_,rfl,by rw [hE];exact ⟨q,rfl,hq⟩⟩,hx4.trans he5⟩
  ·rename_i hne
   have hb4:=(Ext.refl w3).drew.trans he4 |>.get hb2;refine zcv (qwh l A A' c c' b w4 (hS.ext hx4) hc hv hb4 (hD.ext ((Ext.refl w3).drew.trans he4)) hP Oo) ?_;rintro v w5 ⟨⟨rfl,hE⟩|⟨a,rfl,hE⟩,he5⟩
   ·refine zu ?_;exact ⟨.inl ⟨hE,b,rfl,by have:=he1.size;omega,he5.get hb4⟩,hx4.trans he5⟩
   ·refine zu ?_;refine zcv (qbs a 20 w5) ?_;rintro v w6 ⟨⟨q,rfl,hq⟩,he6⟩;(conv=>whnf);exact ⟨.inr ⟨by rw [hE];exact Nat.succ_ne_zero 19,_,rfl,by rw [hE];exact ⟨q,rfl,hq⟩⟩,hx4.trans (he5.trans he6)⟩
theorem q2m (n:Nat) (w:World) (h:n≤64):Gv Tryz.prog 127 [ii n] w fun r w'=>r=.bool true∧w'=w:=by
 refine ze Tryz.func127 Tryz.ntmps127 ?_;refine zv ?_;exact ⟨congrArg Value.bool (decide_eq_true Oo),rfl⟩
theorem q3y (n wd:Nat) (w:World) (h:n*wd≤4398046511104):Gv Tryz.prog 130 [ii n,ii wd] w fun r w'=>r=ii ((n*wd+7)/8:Nat)∧w'=w:=by
 have e:(n:Int)*(wd:Int)=((n*wd:Nat):Int):=(Int.natCast_mul n wd).symm;refine ze Tryz.func130 Tryz.ntmps130 ?_;rw [e];obtain ⟨f,ef⟩:∃ f,f=n*wd:=⟨_,rfl⟩
 rw [← ef] at h ⊢;refine zv ?_;exact ⟨congrArg (Value.int .i64) Oo,rfl⟩
theorem qoa (p:LB) (A:oA) (c n wd:Nat) (w:World) (hS:SlAt encB 1 w A p) (hp:p.length=(n*wd+7)/8) (hn:n≤4194304) (hw:wd≤64) :
  Gv Tryz.prog 161 [.slice A p.length c,ii n,ii wd] w fun v w'=>v=.tuple #[.agg (if opE p n wd=0 then #[.slice A p.length c,ii n,ii wd] else #[.slice none 0 0,ii 0,ii 0]),ii (opE p n wd)]∧Ext w w':=by
 have hb:n*wd≤4194304*64:=Nat.mul_le_mul hn hw;have hE:=q3c hp;have h012:opE p n wd=0∨opE p n wd=12:=by unfold opE;split<;>simp
 have e:(n:Int)*(wd:Int)=((n*wd:Nat):Int):=(Int.natCast_mul n wd).symm;refine ze Tryz.func161 Tryz.ntmps161 ?_;refine znm (Mem.nil w) fun pb w1 hm=>zw ?_;refine zcv (q2m wd w1 hw) ?_;rintro r w2 ⟨rfl,rfl⟩;refine zu ?_;refine zcv (q3y n wd _ Oo) ?_;rintro r w2 ⟨rfl,rfl⟩;(conv=>whnf);refine zt ?_;refine zC (fun _=>zu ?_) (fun _=>zu ?_);have hS2:=hS.ext hm.ext;rw [e];obtain ⟨f,ef⟩:∃ f,f=n*wd:=⟨_,rfl⟩
 rw [← ef] at hp hb hE e ⊢
 ·rename_i hx
  rw [e] at hx;refine ElemV.bs hS2 rfl (p.length-1) Oo Oo ?_;intro b off hc;refine zu ?_;refine LoadV.of hc (zu ?_);rw [e];refine V.Wit.shrN (f%8) Oo (by show f%8<8;omega) (zw ?_);refine zt ?_;refine zC (fun _=>zw ?_) (fun _=>zw ?_)
  ·rename_i hz
   refine StoreA.all hm (i:=0) rfl rfl (by intro v hv;simp at hv;rcases hv with rfl|rfl<;>rfl) fun w3 hm3=>zw ?_;have hq:(p.getD (p.length-1) 0).toNat=p[p.length-1].toNat:=by rw [List.getD_eq_getElem?_getD,zge Oo];rfl
   rw [hq] at hE;have h0:opE p n wd=12:=h012.resolve_left (hE.2 ⟨by omega,fun g=>hz (by rw [g];rfl)⟩);refine qh (R:=fun v w'=>v=.tuple #[.agg (if opE p n wd=0 then #[.slice A p.length c,ii n,ii wd] else #[.slice none 0 0,ii 0,ii 0]),ii (opE p n wd)]∧Ext w w') (zw ?_);refine zl hm3 0 ?_;rw [h0];exact ⟨rfl,hm3.ext⟩
  ·rename_i hz
   refine StoreA.all hm (i:=0) rfl rfl (by intro v hv;simp at hv;rcases hv with rfl|rfl|rfl<;>rfl) fun w3 hm3=>zw ?_;have hq:(p.getD (p.length-1) 0).toNat=p[p.length-1].toNat:=by rw [List.getD_eq_getElem?_getD,zge Oo];rfl
   rw [hq] at hE;have h0:opE p n wd=0:=Classical.byContradiction fun g=>(hE.1 g).2 Oo
   refine qh (R:=fun v w'=>v=.tuple #[.agg (if opE p n wd=0 then #[.slice A p.length c,ii n,ii wd] else #[.slice none 0 0,ii 0,ii 0]),ii (opE p n wd)]∧Ext w w') (zw ?_);refine zl hm3 0 ?_;rw [h0];exact ⟨rfl,hm3.ext⟩
 ·rename_i hx
  rw [e] at hx;refine StoreA.all hm (i:=0) rfl rfl (by intro v hv;simp at hv;rcases hv with rfl|rfl|rfl<;>rfl) fun w3 hm3=>zw ?_;have h0:opE p n wd=0:=Classical.byContradiction fun g=>by have:=(hE.1 g).1;omega
  refine qh (R:=fun v w'=>v=.tuple #[.agg (if opE p n wd=0 then #[.slice A p.length c,ii n,ii wd] else #[.slice none 0 0,ii 0,ii 0]),ii (opE p n wd)]∧Ext w w') (zw ?_);refine zl hm3 0 ?_;rw [h0];exact ⟨rfl,hm3.ext⟩
namespace V
theorem Fall.assert {P:Program} {ρ:Nat→Value} {o:Oper} {x:Operand} {xT t:TypeId} {c:Bool} {w:World} {K:Value→World→Prop} (ho:o.op=.typeAssert x xT t c) (v:Value) (w':World)
  (hrun:(Instr.typeAssert (ev ρ x) xT t c).run P w=.ok v w') (hk:K v w'):Fall P (execOp (ev ρ) o) w K:=by
 have he:execOp (ev ρ) o=(do pure (.value (← Instr.typeAssert (ev ρ x) xT t c))):=by
  simp only [execOp,ho]
 rw [he];exact ⟨.inl ⟨v,w',by rw [Sem.run_bind,hrun];rfl,hk⟩⟩
end V
theorem q6n (v:Value) (w:World):(Instr.typeAssert (.iface 104 v) 37 104 true).run Tryz.prog w=.ok (.tuple #[v,.bool true]) w:=by kernel_rfl
theorem qpm (k n:Nat) (w:World):Gv Tryz.prog 122 [ii k,ii n] w fun r w'=>r=.bool (decide (¬ ((k≠0∧n=0)∨4194304<n)))∧w'=w:=by
 refine ze Tryz.func122 Tryz.ntmps122 ?_;refine V.Fall.min2 rfl rfl rfl fun m hm=>?_;(conv=>whnf);refine zC (fun _=>zu ?_) (fun _=>zu ?_)
 all_goals refine ⟨congrArg Value.bool ?_,rfl⟩
 all_goals first|exact (decide_eq_false Oo).symm|exact decide_eq_decide.2 Oo
structure Nb (w0:World) (t:TypeId) (n:Nat) (s:Bool) (v:Value) (w:World):Prop where
 e:Ext w0 w
 b:s=true→∃ x,v=pp x∧w0.heap.size≤x∧∃ cs:Array Value,cs.size=n∧w.heap[x]?=some (.cells cs t)
section
variable {w0 w w':World} {t:TypeId} {n:Nat} {s:Bool} {v:Value}
theorem Nb.start:Nb w0 t n false v w0:=⟨xr,fun h=>by cases h⟩
theorem Nb.call (h:Nb w0 t n s v w) (he:Ext w w'):Nb w0 t n s v w':=⟨h.e.trans he,fun hs=>let ⟨x,h1,h2,cs,h3,h4⟩:=h.b hs;⟨x,h1,h2,cs,h3,he.get h4⟩⟩
theorem Nb.alloc {cs:Array Value} (h:Nb w0 t n false v w) (hc:cs.size=n):Nb w0 t n true (.pointer (some ⟨w.heap.size,0,none⟩)) (w.alloc (.cells cs t)):=
 ⟨h.e.trans (xr.alloc _),fun _=>⟨_,rfl,h.e.size,cs,hc,heap_alloc_new _ _⟩⟩
theorem Nb.store {P:Program} {vs:List Value} {K:World→Prop} {x:Nat} (h:Nb w0 t n true v w) (hv:v=pp x) (hl:vs.length=n) (h1:∀ v∈vs,v.oneCell'=true) (hk:∀ w',Nb w0 t n true v w'→K w'):StoreA P w x 0 vs K:=by
 obtain ⟨y,hy,hge,cs,hc,hh⟩:=h.b rfl;rw [hv] at hy;cases hy;have hm:Mem w0 w [(x,.cells cs t)]:=(Mem.nil w0).fresh h.e hge hh;refine StoreA.all hm (i:=0) rfl Oo h1 fun w' hm'=>hk w' ⟨hm'.ext,fun _=>⟨x,hv,hge,vs.toArray,by simpa using hl,hm'.get mh⟩⟩
end
theorem q9t (n:Int) (w:World):(Instr.typeAssert (.iface 26 (ii n)) 37 26 false).run Tryz.prog w=.ok (ii n) w:=by kernel_rfl
def LkR (l:LB) (k:Nat) (v:Value) (w:World):Prop:=((lvE l k).2=0∧v=.nilIface)∨((lvE l k).2≠0∧ErrAt w v (lvE l k).1 (lvE l k).2)
theorem LkR.err {l:LB} {k a e:Nat} {v:Value} {w:World} (h:lvE l k=(a,e)) (h0:e≠0) (hv:ErrAt w v a e):LkR l k v w:=.inr ⟨by rw [h];exact h0,by rw [h];exact hv⟩
theorem q22 (l:LB) (b k:Nat) (w:World) (hT:TreeAt w b l) (hE:(tE l).2=0) (hk3:k<4) (hl:l.length≤140737488355328) :
  Gv Tryz.prog 103 [.pointer (some ⟨b,8*k,none⟩),ii k] w fun v w'=>LkR l k v w'∧Ext w w':=by
 obtain ⟨hz,hv⟩:=q53 hE;obtain ⟨z1,z2,z3⟩:=quf (hv k hk3);have hnk:=q0x (hz k hk3);have t1:tvAt l k+1≤tEnd l k:=by show _≤tvAt l k+1+_;omega
 have t2:tEnd l k≤tvAt l (k+1):=by rw [qci];omega
 have lenP:(qp l k).length=tEnd l k-(tvAt l k+1):=by rw [qp,List.length_take,zld];omega
 have lenP2:(qp l k).length=(vNum l k*tw l k+7)/8:=by rw [lenP];show tvAt l k+1+(vNum l k*tw l k+7)/8-_=_;omega
 have hw64:tw l k≤64:=by omega
 obtain ⟨P,cp,S,cs,vv,hc,hP,hS,hcs,hV⟩:=(hT.lv k hk3).h;have hnum:∀ (w':World) (i:Nat),Ext w w'→i≤4194304→Gv Tryz.prog 155 [.pointer (some ⟨b,8*k,none⟩),ii i] w' fun r w''=>r=ii (tX l k i)∧Ext w' w'':=fun w' i he hi=>by
  have:=qcz b (8*k) i (tw l k) cp P (qp l k) w' (hc.ext he 1 _ rfl) (hc.ext he 5 _ rfl) (hP.ext he) z2 hi;rw [qts _ _ _ Oo] at this;exact this
 have hXlt:∀ i,tX l k i<8388608:=fun i=>qke _ _ _ z2
 refine ze Tryz.func103 Tryz.ntmps103 ?_;obtain ⟨E,eE⟩:∃ E,E=opE (qp l k) (vNum l k) (tw l k):=⟨_,rfl⟩
 obtain ⟨A1,n1,c1,x1,y1,hagg⟩:∃ A1 n1 c1,∃ x1 y1:Int,(if opE (qp l k) (vNum l k) (tw l k)=0 then #[.slice P (qp l k).length cp,ii (vNum l k),ii (tw l k)] else #[.slice none 0 0,ii 0,ii 0])=#[Value.slice A1 n1 c1,ii x1,ii y1]:=by
  split<;>exact ⟨_,_,_,_,_,rfl⟩
 refine DrawV.gen (fun S vals w'=>Nb w.drew 249 3 (S 16) (vals 16) w') rfl Jk (fun vals=>Nb.start) (zw ?_);(iterate 3 (refine zg ?_));refine StepG.of (.slice P (qp l k).length cp) (fun S vals wd hk hp hI=>zw ?_) (zw ?_)
 ·refine LoadV.of (hc.ext ((Ext.refl w).drew.trans hI.e) 5 _ rfl) (zw ?_);exact ⟨rfl,hI⟩
 (iterate 3 (refine zg ?_));refine StepG.of (ii (vNum l k)) (fun S vals wd hk hp hI=>zw ?_) (zw ?_)
 ·refine LoadV.of (hc.ext ((Ext.refl w).drew.trans hI.e) 0 _ rfl) (zw ?_);exact ⟨rfl,hI⟩
 (iterate 3 (refine zg ?_));refine StepG.of (ii (tw l k)) (fun S vals wd hk hp hI=>zw ?_) (zw ?_)
 ·refine LoadV.of (hc.ext ((Ext.refl w).drew.trans hI.e) 1 _ rfl) (zw ?_);exact ⟨rfl,hI⟩
 refine StepG.of (.tuple #[.agg #[.slice A1 n1 c1,ii x1,ii y1],ii E]) (fun S vals wd hk hp hI=>zw ?_) (zw ?_)
 ·refine zcv (qoa (qp l k) P cp (vNum l k) (tw l k) wd (hP.ext ((Ext.refl w).drew.trans hI.e)) lenP2 Oo hw64) ?_;rintro v w9 ⟨rfl,h9⟩;exact ⟨by rw [hagg,eE];rfl,hI.call h9⟩
 (iterate 3 (refine zg ?_));refine StepG.any (fun S vals wd hk hp hI=>?_) (zw ?_)
 ·dsimp only at hI;rw [hk] at hI;(conv=>whnf);refine ⟨fun x wx hb hw=>?_⟩;subst hb hw;(conv=>whnf);exact ⟨trivial,hI.alloc rfl⟩
 refine StepG.of undef (fun S vals wd hk hp hI=>?_) (zw ?_)
 ·have h16:S 16=true:=hp 16 Od;dsimp only at hI;rw [h16] at hI;obtain ⟨x,hx,_⟩:=hI.b rfl;rw [qr hx];(conv=>whnf);refine hI.store hx rfl (by intro v hv;simp at hv;rcases hv with rfl|rfl|rfl<;>rfl) ?_;intro wx hIx;(conv=>whnf);exact ⟨rfl,by show Nb _ _ _ (S 16) (pp x) _;rw [h16,← hx];exact hIx⟩
 refine zg ?_;intro vals w1 hI;have he1:Ext w w1:=(Ext.refl w).drew.trans hI.e;clear hI;(conv=>whnf);refine zC (fun _=>zw ?_) (fun _=>zw ?_)
 ·rename_i hne
  have h0:opE (qp l k) (vNum l k) (tw l k)≠0:=by omega
  have h12:E=12:=by rw [eE];unfold opE at h0 ⊢;split at h0<;>simp_all
  refine LoadV.of (hc.ext he1 4 _ rfl) (zu ?_);rw [show ((tEnd l k:Nat):Int)-1=((tEnd l k-1:Nat):Int) by omega];refine zcv (qag (tEnd l k-1) E w1) ?_;rintro v w2 ⟨⟨q,rfl,hq⟩,he2⟩;rw [h12] at hq;(conv=>whnf);exact ⟨LkR.err (qy7 h0) Od ⟨q,rfl,hq⟩,he1.trans he2⟩
 rename_i hE0
 have hE0:opE (qp l k) (vNum l k) (tw l k)=0:=by omega
 refine LoadV.of (hc.ext he1 0 _ rfl) (zw ?_);refine qt (fun i:Nat=>[(0,.pointer (some ⟨b,8*k,none⟩)),(1,ii k),(7,ii (mxN (tX l k) i)),(43,ii (vNum l k)),(44,ii i)]) (fun i w'=>i≤vNum l k∧Ext w w') (fun i=>vNum l k-i) 0
  ⟨rfl,rfl,rfl,rfl,rfl,trivial⟩ ⟨Nat.zero_le _,he1⟩ ?_
 rintro i w2 ρ' ⟨i1,he2⟩;(conv=>whnf);refine zC (fun _=>zw ?_) (fun _=>zw ?_)
 ·refine zcv (hnum w2 i he2 Oo) ?_;rintro r w3 ⟨rfl,he3⟩;(conv=>whnf);refine V.Fall.max2 rfl rfl rfl fun m hm=>?_;obtain rfl:m=((mxN (tX l k) (i+1):Nat):Int):=by rw [mxN];omega
  refine zu ?_;exact ⟨i+1,⟨rfl,rfl,rfl,rfl,congrArg (Value.int .i64) Oo,trivial⟩,⟨by omega,he2.trans he3⟩,by omega⟩
 obtain rfl:i=vNum l k:=by omega
 have hmx:mxN (tX l k) (vNum l k)<8388608:=qto Od fun i _=>hXlt i
 have hwx:=q4v (l:=l) (k:=k) z2;obtain ⟨M,eM⟩:∃ M,M=mxN (tX l k) (vNum l k):=⟨_,rfl⟩
 rw [← eM] at hmx hwx ⊢;(conv=>whnf);refine DrawV.free Jk Jk (zw ?_);refine zd ?_;refine zd ?_;apply zsd
 ·intro wd hd;(conv=>whnf);refine zcv (qe4 M wd Oo) ?_;rintro v w9 ⟨rfl,rfl⟩;exact ⟨xr,rfl⟩
 (conv=>whnf);(iterate 3 (refine zd ?_));apply zsd
 ·intro wd hd;(conv=>whnf);refine LoadV.of (hc.ext (he2.trans ((Ext.refl w2).drew.trans hd)) 1 _ rfl) (zw ?_);exact ⟨xr,rfl⟩
 (conv=>whnf);refine zd ?_;intro w3 hd3;have he3:=he2.trans ((Ext.refl w2).drew.trans hd3);rw [hwx];obtain ⟨wm,ewm⟩:∃ wm,wm=wMx (unpN (qp l k) (vNum l k) (tw l k)) (vNum l k):=⟨_,rfl⟩
 rw [← ewm];conv=>whnf
 (repeat' refine zC (fun _=>zw ?_) (fun _=>zw ?_))
 ·rename_i hne
  refine LoadV.of (hc.ext he3 2 _ rfl) (zw ?_);refine zcv (qag (tvAt l k) 14 w3) ?_;rintro v w4 ⟨⟨q,rfl,hq⟩,he4⟩;(conv=>whnf);exact ⟨LkR.err (qo6 hE0 Oo) Od ⟨q,rfl,hq⟩,he3.trans he4⟩
 rename_i hwm hk0
 have hwm':wMx (unpN (qp l k) (vNum l k) (tw l k)) (vNum l k)=tw l k:=by omega
 rcases hV with ⟨hx,hvv⟩|⟨_,htv,vb,hvv,hvo⟩
 ·have hx:tVec l k=false:=hx.resolve_left Oo;refine LoadV.of (hc.ext he3 7 _ rfl) ?_;rw [hvv];refine zu ?_;refine LoadV.of (hc.ext he3 4 _ rfl) (zw ?_);refine zcv (qag (tEnd l k) 180 w3) ?_;rintro v w4 ⟨⟨q,rfl,hq⟩,he4⟩;(conv=>whnf);have h1:(vcE l k).2≠0:=by rw [q1e hx];exact Nat.succ_ne_zero 179
  exact ⟨LkR.err ((qmr hE0 hwm' Oo h1).trans (q1e hx)) Od ⟨q,rfl,hq⟩,he3.trans he4⟩
 refine LoadV.of (hc.ext he3 7 _ rfl) ?_;rw [hvv];refine zu ?_;refine LoadV.of (hc.ext he3 6 _ rfl) (zw ?_);have htv2:=htv;simp only [tVec,Bool.and_eq_true,decide_eq_true_eq] at htv2;obtain ⟨⟨hvok,hvn⟩,hvm⟩:=htv2;rw [← hvn,← hvm] at hvo;refine zcv (qv8 (qk l k) S cs w3 (hS.ext he3) hcs hvok) ?_;rintro v w4 ⟨⟨hvo0,vb2,rfl,_,_⟩|⟨hvo0,e,rfl,q,rfl,hq⟩,he4⟩
 rotate_left
 ·have h1:(vcE l k).2≠0:=by rw [q1g htv hvo0];exact hvo0
  have h2:=(qmr hE0 hwm' Oo h1).trans (q1g htv hvo0);have hb1:(voE (qk l k)).1≤1125899906842624:=by
   have h3:=q6b (qk l k);have h4:=(qh6 hvok).2.2.2.2;omega
  obtain ⟨a,ea⟩:∃ a,a=(voE (qk l k)).1:=⟨_,rfl⟩
  obtain ⟨c,ec⟩:∃ c,c=(voE (qk l k)).2:=⟨_,rfl⟩
  rw [← ea] at hq h2 hb1;rw [← ec] at hq h2 hvo0;refine zu ?_;refine V.Fall.assert rfl _ _ (q6n _ w4) (zw ?_);have he4':=he3.trans he4;refine DrawV.free Jk Jk (zw ?_);(iterate 3 (refine zd ?_));apply zsd
  ·intro wd hd;(conv=>whnf);refine LoadV.of (hc.ext (he4'.trans ((Ext.refl w4).drew.trans hd)) 4 _ rfl) (zw ?_);exact ⟨xr,rfl⟩
  (conv=>whnf);(iterate 3 (refine zd ?_));apply zsd
  ·intro wd hd;(conv=>whnf);refine LoadV.of (hq.ext ((Ext.refl w4).drew.trans hd) 0 _ rfl) (zw ?_);exact ⟨xr,rfl⟩
  (conv=>whnf);(iterate 4 (refine zd ?_));apply zsd
  ·intro wd hd;(conv=>whnf);refine LoadV.of (hq.ext ((Ext.refl w4).drew.trans hd) 1 _ rfl) (zw ?_);exact ⟨xr,rfl⟩
  (conv=>whnf);apply zsd
  ·intro wd hd;(conv=>whnf);refine V.Fall.assert rfl _ _ (q9t _ wd) (zw ?_);exact ⟨xr,rfl⟩
  (conv=>whnf);apply StepD.of (fun v wx=>ErrAt wx v (tEnd l k+a) c) (fun v wx wy h he=>let ⟨q,h1,h2⟩:=h;⟨q,h1,h2.ext he⟩)
  ·intro wd hd;(conv=>whnf);rw [show ((tEnd l k:Nat):Int)+(a:Int)=((tEnd l k+a:Nat):Int) by omega];refine zcv (qag (tEnd l k+a) c wd) ?_;rintro v w9 ⟨he,h9⟩;exact ⟨h9,he⟩
  (conv=>whnf);apply StepD.of (fun v wx=>ErrAt wx v (tEnd l k+a) c) (fun v wx wy h he=>let ⟨q,h1,h2⟩:=h;⟨q,h1,h2.ext he⟩)
  ·intro wd hd;conv=>whnf
   iterate 2 (rintro _ _;(conv=>whnf))
   rintro v ⟨q,rfl,hq⟩;conv=>whnf
   (repeat (rintro _ _;(conv=>whnf)))
   exact ⟨xr,q,rfl,hq⟩
  (conv=>whnf);intro w5 hd5;(conv=>whnf);rintro v ⟨q,rfl,hq⟩;conv=>whnf
  (repeat (rintro _ _;(conv=>whnf)))
  (repeat (rintro _;(conv=>whnf)))
  exact ⟨LkR.err h2 hvo0 ⟨q,rfl,hq⟩,he4'.trans ((Ext.refl w4).drew.trans hd5)⟩
 rotate_left
 have he4':=he3.trans he4;refine zu ?_;refine DrawV.free Jk Jk (zw ?_);(iterate 3 (refine zd ?_));apply zsd
 ·intro wd hd;(conv=>whnf);refine LoadV.of (hc.ext (he4'.trans ((Ext.refl w4).drew.trans hd)) 0 _ rfl) (zw ?_);exact ⟨xr,rfl⟩
 (conv=>whnf)
 by_cases hn0:0<vNum l k
 (iterate 5 (refine zd ?_));apply zsd
 ·intro wd hd;refine zu ?_;refine LoadV.of (hc.ext (he4'.trans ((Ext.refl w4).drew.trans hd)) 7 _ rfl) ?_;rw [hvv];(conv=>whnf);exact ⟨xr,rfl⟩
 (conv=>whnf);(iterate 3 (refine zd ?_));apply zsd
 ·intro wd hd;refine zu ?_;refine LoadV.of (hc.ext (he4'.trans ((Ext.refl w4).drew.trans hd)) 0 _ rfl) (zw ?_);exact ⟨xr,rfl⟩
 (conv=>whnf);refine zd ?_;apply zsd
 ·intro wd hd;refine zu ?_;have hx:=he4'.trans ((Ext.refl w4).drew.trans hd);rw [show ((vNum l k:Nat):Int)-1=((vNum l k-1:Nat):Int) by omega];refine zcv (qum (qk l k) S cs vb (vNum l k-1) wd (hS.ext hx) hvok (hx.get hvo) Oo) ?_;rintro v w9 ⟨rfl,h9⟩;exact ⟨h9,rfl⟩
 (conv=>whnf);refine zd ?_;refine zd ?_;intro w5 hd5;have hx5:=he4'.trans ((Ext.refl w4).drew.trans hd5);(conv=>whnf);refine zt ?_;refine zC (fun _=>zw ?_) (fun _=>zw ?_)
 rotate_left
 ·refine LoadV.of (hc.ext hx5 4 _ rfl) (zw ?_);refine zcv (qag (tEnd l k) 180 w5) ?_;rintro v w6 ⟨⟨q,rfl,hq⟩,he6⟩;(conv=>whnf);have h2:=qun htv (by rw [hvo0]) hn0 Oa;have h1:(vcE l k).2≠0:=by rw [h2];exact Nat.succ_ne_zero 179
  exact ⟨LkR.err ((qmr hE0 hwm' Oo h1).trans h2) Od ⟨q,rfl,hq⟩,hx5.trans he6⟩
 (iterate 14 (refine zd ?_));intro w5 hd5;have hx5:=he4'.trans ((Ext.refl w4).drew.trans hd5);refine zu ?_
 all_goals
  have hVec:k=0∨((vcE l k).2=0∧∃ vb,vv=pp vb∧w.heap[vb]?=some (vecO 263 (.slice S (qk l k).length cs) (vN (qk l k)) (vM (qk l k)))∧vOk (qk l k)=true∧vN (qk l k)=vNum l k):=by
   first
   | exact .inl Oo
   | exact .inr ⟨by rw [q1f htv (by rw [hvo0]) (fun _=>by assumption)],vb,hvv,hvo,hvok,hvn⟩
   | exact .inr ⟨by rw [q1f htv (by rw [hvo0]) (fun h=>absurd h hn0)],vb,hvv,hvo,hvok,hvn⟩
  have hwm':wMx (unpN (qp l k) (vNum l k) (tw l k)) (vNum l k)=tw l k:=by omega
  refine LoadV.of (hc.ext (by first|exact hx5|exact he3) 0 _ rfl) (zw ?_);refine qt (fun i:Nat=>[(0,.pointer (some ⟨b,8*k,none⟩)),(1,ii k),(134,ii (vNum l k)),(135,ii i)]) (fun i w'=>i≤vNum l k∧(∀ j,j<i→(nmF l k j).2=0)∧Ext w w') (fun i=>vNum l k-i) 0
   ⟨rfl,rfl,rfl,rfl,trivial⟩ ⟨Nat.zero_le _,fun j h=>absurd h (Nat.not_lt_zero _),(by first|exact hx5|exact he3)⟩ ?_
  rintro i w6 ρ' ⟨i1,i2,he6⟩;conv=>whnf
  (repeat' (first|refine zp ?_|refine zC (fun _=>zw ?_) (fun _=>zw ?_)))
  all_goals try
   obtain rfl:i=vNum l k:=by omega
   exact ⟨.inl ⟨q5n hE0 hwm' (hVec.imp id And.left) i2,rfl⟩,he6⟩
 all_goals
  have hat:=fun {a e:Nat} (h6:nmF l k i=(a,e)) (h7:e≠0)=>qaa2 hE0 hwm' (hVec.imp id And.left) i2 Oo h6 h7
  refine zcv (hnum w6 i he6 Oo) ?_;rintro r w7 ⟨rfl,he7⟩;have hx7:=he6.trans he7;have hXi:=hXlt i;obtain ⟨X,eX⟩:∃ X,X=tX l k i:=⟨_,rfl⟩
  rw [← eX] at hXi ⊢;(conv=>whnf);refine zcv (qpm k X w7) ?_;rintro r w8 ⟨rfl,rfl⟩;conv=>whnf
  (repeat' (first|refine zp ?_|refine zC (fun _=>zw ?_) (fun _=>zw ?_)))
 all_goals try
  refine LoadV.of (hc.ext hx7 3 _ rfl) (zw ?_);refine zcv (qag (tvAt l k+1) 180 w8) ?_;rintro v w9 ⟨⟨q,rfl,hq⟩,he9⟩;(conv=>whnf);exact ⟨LkR.err (hat (q7s (by rw [← eX];omega)) Od) Od ⟨q,rfl,hq⟩,hx7.trans he9⟩
 all_goals try
  exact ⟨i+1,⟨rfl,rfl,rfl,congrArg (Value.int .i64) Oo,trivial⟩,⟨by omega,qmu i2 (qtr (by rw [← eX];omega) Oo),hx7⟩,by omega⟩
 rotate_left
 obtain ⟨_,vb2,hvv2,hvo2,hok2,hn2⟩:=hVec.resolve_left Oo;refine LoadV.of (hc.ext hx7 7 _ rfl) ?_;rw [hvv2];refine zu ?_;rw [show (i:Int)-1=((i-1:Nat):Int) by omega];refine zcv (qum (qk l k) S cs vb2 (i-1) w8 (hS.ext hx7) hok2 (hx7.get hvo2) Oo) ?_;rintro r w9 ⟨rfl,he9⟩;replace hx7:=hx7.trans he9;(conv=>whnf);refine zt ?_;refine zC (fun _=>zu ?_) (fun _=>zu ?_)
 ·exact ⟨i+1,⟨rfl,rfl,rfl,congrArg (Value.int .i64) Oo,trivial⟩,⟨by omega,qmu i2 (qtr (by rw [← eX];omega) Oo),hx7⟩,by omega⟩
 all_goals
  rw [show (i:Int)-1=((i-1:Nat):Int) by omega];refine zcv (hnum _ (i-1) hx7 Oo) ?_;rintro r w10 ⟨rfl,he10⟩;replace hx7:=hx7.trans he10;obtain ⟨Y,eY⟩:∃ Y,Y=tX l k (i-1):=⟨_,rfl⟩
  rw [← eY];conv=>whnf
  (repeat' (first|refine zp ?_|refine zC (fun _=>zw ?_) (fun _=>zw ?_)))
  ·refine LoadV.of (hc.ext hx7 3 _ rfl) (zw ?_);refine zcv (qag (tvAt l k+1) 160 w10) ?_;rintro v w11 ⟨⟨q,rfl,hq⟩,he11⟩;(conv=>whnf);exact ⟨LkR.err (hat (q7t (by rw [← eX];omega) (by rw [← eX,← eY];omega)) Od) Od ⟨q,rfl,hq⟩,hx7.trans he11⟩
  ·exact ⟨i+1,⟨rfl,rfl,rfl,congrArg (Value.int .i64) Oo,trivial⟩,⟨by omega,qmu i2 (qtr (by rw [← eX];omega) (by rw [← eX,← eY];omega)),hx7⟩,by omega⟩
def TOpR (l:LB) (v:Value) (w0 w:World):Prop:=
 ((toE l).2≠0∧∃ e,v=.tuple #[.pointer none,e]∧ErrAt w e (toE l).1 (toE l).2)∨
 ((toE l).2=0∧∃ b,v=.tuple #[pp b,.nilIface]∧w0.heap.size≤b∧TreeAt w b l)
theorem qwp (l:LB) (A:oA) (c:Nat) (w:World) (hS:SlAt encB 1 w A l) (hc:l.length≤c) (hl:l.length≤140737488355328) :
  Gv Tryz.prog 51 [.slice A l.length c] w fun v w'=>TOpR l v w w'∧Ext w w':=by
 refine ze Tryz.func51 Tryz.ntmps51 ?_;refine zcv (qp4 l A c w hS hc hl) ?_;rintro v w1 ⟨⟨hE,e,rfl,q,rfl,hq⟩|⟨hE,b,rfl,hb,hT⟩,he1⟩
 ·refine zu ?_;have h1:=q87 hE;exact ⟨.inl ⟨by rw [h1];exact hE,_,rfl,by rw [h1];exact ⟨q,rfl,hq⟩⟩,he1⟩
 refine zu ?_;refine qt (fun k:Nat=>[(4,pp b),(16,ii k)]) (fun k w'=>k≤4∧(∀ j,j<k→(lvE l j).2=0)∧Ext w1 w') (fun k=>4-k) 0
  ⟨rfl,rfl,trivial⟩ ⟨Nat.zero_le _,fun j h=>absurd h (Nat.not_lt_zero _),xr⟩ ?_
 rintro k w2 ρ' ⟨k1,k2,he2⟩;(conv=>whnf);refine zC (fun _=>zu ?_) (fun _=>zu ?_)
 ·have hlook:∀ o,o=8*k→Gv Tryz.prog 103 [.pointer (some ⟨b,o,none⟩),ii k] w2 fun v w'=>LkR l k v w'∧Ext w2 w':=fun o ho=>by rw [ho];exact q22 l b k w2 (hT.ext he2) hE Oo hl
  refine zcv (hlook _ (by rw [lvSz];dsimp only;omega)) ?_;rintro v w3 ⟨⟨h0,rfl⟩|⟨h0,q,rfl,hq⟩,he3⟩
  ·refine zu ?_;exact ⟨k+1,⟨rfl,congrArg (Value.int .i64) Oo,trivial⟩,⟨by omega,fun j hj=>by
    by_cases e:j=k
    ·rw [e];exact h0
    ·exact k2 j Oo,he2.trans he3⟩,by omega⟩
  ·refine zu ?_;have h1:=qacf hE k2 Oo h0;exact ⟨.inl ⟨by rw [h1];exact h0,_,rfl,by rw [h1];exact ⟨q,rfl,hq⟩⟩,he1.trans (he2.trans he3)⟩
 ·obtain rfl:k=4:=by omega
  exact ⟨.inr ⟨q55 hE k2,b,rfl,hb,hT.ext he2⟩,he1.trans he2⟩
theorem qn2 (a b:ByteArray) (w:World) (ha:a.size≤4194304) :
  Gv Tryz.prog 115 [.string a,.string b] w fun r w'=>r=ii (comL a.data.toList b.data.toList)∧Ext w w':=by
 have la:a.data.toList.length=a.size:=rfl;have lb:b.data.toList.length=b.size:=rfl;refine ze Tryz.func115 Tryz.ntmps115 ?_;refine qt (fun i:Nat=>[(0,.string a),(1,.string b),(5,ii i)]) (fun i w'=>i≤a.size∧i≤b.size∧(∀ j,j<i→a.data.toList[j]?=b.data.toList[j]?)∧Ext w w') (fun i=>a.size-i) 0 ⟨rfl,rfl,rfl,trivial⟩ ⟨Nat.zero_le _,Nat.zero_le _,fun j h=>by omega,xr⟩ ?_;rintro i w1 ρ' ⟨i1,i2,i3,he⟩;(conv=>whnf);refine zy ?_
 (repeat' (first|refine zp ?_|refine zC (fun _=>zw ?_) (fun _=>zw ?_)))
 all_goals first
  | exact ⟨i+1,⟨rfl,rfl,rfl,trivial⟩,⟨by omega,by omega,fun j hj=>by
    by_cases e:j=i
    ·subst e;rw [qmh Oo,qmh Oo];exact congrArg some (UInt8.toNat_inj.1 Oo)
    ·exact i3 j Oo,he.drew⟩,by omega⟩
  | exact ⟨by rw [qqi i3 Oo Oo fun g1 g2=>by omega],he.drew⟩
  | (refine ⟨?_,he.drew⟩;rw [qqi i3 Oo Oo fun g1 g2=>by
    rw [qmh Oo,qmh Oo];intro e;have:=congrArg UInt8.toNat (Option.some.inj e);omega])
theorem qv9 (b:Nat) (m:LB) (p:Nat) (w:World) (h:DictAt w b m) (hp:p≤(qc m).length) (hok:(numL ((qc m).drop p)).2.2=0) (hlt:(numL ((qc m).drop p)).1≤4194304) :
  Gv Tryz.prog 166 [pp b,ii p] w fun r w'=>r=ii (numL ((qc m).drop p)).1∧Ext w w':=by
 obtain ⟨⟨P,cp,E,ce,h1,h2,h3,h4⟩,h5,h6,h7,h8⟩:=h;obtain ⟨D,eD⟩:∃ D,D=qc m:=⟨_,rfl⟩
 rw [← eD] at h1 h3 h4 h8 hp hok hlt ⊢;refine ze Tryz.func166 Tryz.ntmps166 ?_;refine LoadV.own h1 rfl (zw ?_);refine SliceV.bs h3 rfl p D.length ce rfl rfl rfl Oo znr h4 znr (fun h=>by cases h) ?_;intro A' hA';rw [List.take_of_length_le Js] at hA';(conv=>whnf);obtain ⟨B,eB⟩:∃ B,B=D.drop p:=⟨_,rfl⟩
 have hBl:B.length=D.length-p:=by rw [eB,zld]
 rw [← eB] at hA' hok hlt ⊢;have hvB:∀ w',Ext w w'→BS w' (.slice A' (D.length-p) (ce-p)) B:=fun w' he=>⟨A',ce-p,by rw [hBl],by rw [hBl];omega,hA'.ext he⟩
 refine zcv (qdc _ B w (hvB w xr)) ?_;rintro v w1 ⟨cb,rfl,hcb,hco,he1⟩;have hm:Mem w w1 [(cb,curO 244 (.slice A' (D.length-p) (ce-p)) 0 0)]:=(Mem.nil w).fresh he1 hcb hco;(conv=>whnf);refine zcv (qb8 cb _ 0 0 B w1 (hm.get mh) (hvB w1 hm.ext) (Nat.zero_le _) Oo) ?_;rintro r w2 ⟨rfl,hu⟩;obtain ⟨q1,q2,q3⟩:=qnp (l:=B) (a:=0) hok;rw [q1];have hm:=hm.upd (i:=0) rfl hu;obtain ⟨x,ex⟩:∃ x,x=(numL (B.drop 0)).1:=⟨_,rfl⟩
 have hx:(numL B).1=x:=by rw [ex];rfl
 rw [hx] at hlt ⊢;rw [← ex];refine zu ?_;exact ⟨rfl,hm.ext⟩
def DOpR (m:LB) (v:Value) (w0 w:World):Prop:=
 ((doE m).2≠0∧∃ e,v=.tuple #[.pointer none,e]∧ErrAt w e (doE m).1 (doE m).2)∨
 ((doE m).2=0∧∃ b,v=.tuple #[pp b,.nilIface]∧w0.heap.size≤b∧DictAt w b m)
theorem DOpR.err {m:LB} {a e q:Nat} {w0 w:World} (h:doE m=(a,e)) (h0:e≠0) (hv:CellsAt w q 0 [ii a,.iface 26 (ii e)]):DOpR m (.tuple #[.pointer none,.iface 104 (pp q)]) w0 w:=
 .inl ⟨by rw [h];exact h0,_,rfl,by rw [h];exact ⟨q,rfl,hv⟩⟩
theorem qmd {m ahead:LB} (h:(entG m false ahead).2.2=0):(numL m).2.2=0:=by
 refine Classical.byContradiction fun hn=>?_;unfold entG at h;simp only [Bool.false_eq_true,if_false] at h;rw [if_pos hn] at h;exact hn h
theorem qu6 (m:LB) (A:oA) (c:Nat) (w:World) (hS:SlAt encB 1 w A m) (hc:m.length≤c) (hl:m.length≤140737488355328) :
  Gv Tryz.prog 99 [.slice A m.length c] w fun v w'=>DOpR m v w w'∧Ext w w':=by
 refine ze Tryz.func99 Tryz.ntmps99 ?_;refine zcv (qk2 m A c w hS hc hl) ?_;rintro v w1 ⟨⟨hE,e,rfl,q,rfl,hq⟩|⟨hE,b,rfl,hb,hD⟩,he1⟩
 ·refine zu ?_;exact ⟨.err (qma hE) hE hq,he1⟩
 have hW:=hD.width;obtain ⟨P,cp,F,ce,h1,h2,h3,h4⟩:=hD.h;have hdn:=hD.n;have hds:=hD.size;have hdp:=hD.places;have hde:=hD.entries;have e4:qj m=qbu m+(qx m).length:=by rw [hdp];rfl
 have e3:qbu m≤m.length:=qft m 2;have hdpl:(qx m).length≤4194304*27:=by
  have:=Nat.mul_le_mul (Nat.le_trans (qan _ _ Od) hdn:upN (dN m) 16≤4194304) hW;omega
 have hub:upN (dN m) 16≤4194304:=Nat.le_trans (qan _ _ Od) hdn;refine zu ?_;obtain ⟨E,eE⟩:∃ E,E=opE (qx m) (upN (dN m) 16) (dW m):=⟨_,rfl⟩
 obtain ⟨A1,n1,c1,x1,y1,hagg⟩:∃ A1 n1 c1,∃ x1 y1:Int,(if opE (qx m) (upN (dN m) 16) (dW m)=0 then #[.slice P (qx m).length cp,ii (upN (dN m) 16),ii (dW m)] else #[.slice none 0 0,ii 0,ii 0])=#[Value.slice A1 n1 c1,ii x1,ii y1]:=by
  split<;>exact ⟨_,_,_,_,_,rfl⟩
 refine DrawV.gen (fun S vals w'=>Nb w1.drew 249 3 (S 17) (vals 17) w') rfl Jk (fun vals=>Nb.start) (zw ?_);(iterate 3 (refine zg ?_));refine StepG.of (.slice P (qx m).length cp) (fun S vals wd hk hp hI=>zw ?_) (zw ?_)
 ·refine LoadV.own (((Ext.refl w1).drew.trans hI.e).get h1) rfl (zw ?_);exact ⟨rfl,hI⟩
 (iterate 3 (refine zg ?_));refine StepG.of (ii (dN m)) (fun S vals wd hk hp hI=>zw ?_) (zw ?_)
 ·refine LoadV.own (((Ext.refl w1).drew.trans hI.e).get h1) rfl (zw ?_);exact ⟨rfl,hI⟩
 refine StepG.of (ii (upN (dN m) 16)) (fun S vals wd hk hp hI=>zw ?_) (zw ?_)
 ·refine zcv (qe5 (dN m) wd hdn) ?_;rintro v w9 ⟨rfl,rfl⟩;exact ⟨rfl,hI⟩
 (iterate 3 (refine zg ?_));refine StepG.of (ii (dW m)) (fun S vals wd hk hp hI=>zw ?_) (zw ?_)
 ·refine LoadV.own (((Ext.refl w1).drew.trans hI.e).get h1) rfl (zw ?_);exact ⟨rfl,hI⟩
 refine StepG.of (.tuple #[.agg #[.slice A1 n1 c1,ii x1,ii y1],ii E]) (fun S vals wd hk hp hI=>zw ?_) (zw ?_)
 ·refine zcv (qoa (qx m) P cp (upN (dN m) 16) (dW m) wd (h2.ext ((Ext.refl w1).drew.trans hI.e)) hdp hub Oo) ?_;rintro v w9 ⟨rfl,h9⟩;exact ⟨by rw [hagg,eE];rfl,hI.call h9⟩
 (iterate 3 (refine zg ?_));refine StepG.any (fun S vals wd hk hp hI=>?_) (zw ?_)
 ·dsimp only at hI;rw [hk] at hI;(conv=>whnf);refine ⟨fun x wx hb hw=>?_⟩;subst hb hw;(conv=>whnf);exact ⟨trivial,hI.alloc rfl⟩
 refine StepG.of undef (fun S vals wd hk hp hI=>?_) (zw ?_)
 ·have h16:S 17=true:=hp 17 Od;dsimp only at hI;rw [h16] at hI;obtain ⟨x,hx,_⟩:=hI.b rfl;rw [qr hx];(conv=>whnf);refine hI.store hx rfl (by intro v hv;simp at hv;rcases hv with rfl|rfl|rfl<;>rfl) ?_;intro wx hIx;(conv=>whnf);exact ⟨rfl,by show Nb _ _ _ (S 17) (pp x) _;rw [h16,← hx];exact hIx⟩
 refine zg ?_;intro vals w2 hI;have he2:Ext w1 w2:=(Ext.refl w1).drew.trans hI.e;clear hI;(conv=>whnf);refine zC (fun _=>zu ?_) (fun _=>zu ?_)
 ·rename_i hne
  have h0:opE (qx m) (upN (dN m) 16) (dW m)≠0:=by omega
  have h12:E=12:=by rw [eE];unfold opE at h0 ⊢;split at h0<;>simp_all
  have hpos:=q72 h0;rw [show ((qj m:Nat):Int)-1=((qj m-1:Nat):Int) by omega];refine zcv (qa6 (qj m-1) E w2) ?_;rintro v w3 ⟨⟨q,rfl,hq⟩,he3⟩;rw [h12] at hq;(conv=>whnf);exact ⟨.err (qxv hE h0) Od hq,he1.trans (he2.trans he3)⟩
 rename_i hE0
 have hE0:opE (qx m) (upN (dN m) 16) (dW m)=0:=by omega
 refine LoadV.own (he2.get h1) rfl (zw ?_);refine qt (fun x:Nat × ByteArray × Nat=>[(4,pp b),(6,ii (qj m)),(10,ii x.2.2),(11,.string x.2.1),(52,ii (dN m)),(53,ii x.1)])
  (fun x w'=>x.1≤dN m∧dSt m x.1=(x.2.1.data.toList,x.2.2)∧DSt m x.1 x.2.1.data.toList x.2.2∧x.2.1.size≤262144∧(∀ j,j<x.1→(dnF m j).2=0)∧Ext w1 w') (fun x=>dN m-x.1) (0,⟨#[]⟩,0)
  ⟨rfl,rfl,rfl,rfl,rfl,rfl,trivial⟩ ⟨Nat.zero_le _,rfl,⟨Nat.zero_le _,fun j h=>by omega⟩,Nat.zero_le _,fun j h=>absurd h (Nat.not_lt_zero _),he2⟩ ?_
 rintro ⟨i,last,p⟩ w3 ρ' ⟨i1,hdst,hst,hlast,hfine,he3⟩;dsimp only at i1 hdst hst hlast hfine he3 ⊢;have hD3:=hD.ext he3;have hple:=hst.le;have hat:=fun {a e:Nat} (h4:i<dN m) (h5:dnF m i=(a,e)) (h6:e≠0)=>qaaf hE hE0 hfine h4 h5 h6
 (conv=>whnf)
 (repeat' (first|refine zp ?_|refine zC (fun _=>zw ?_) (fun _=>zw ?_)))
 rotate_right
 ·obtain rfl:i=dN m:=by omega
  refine LoadV.own (he3.get h1) rfl (zw ?_);refine zC (fun _=>zu ?_) (fun _=>zu ?_)
  ·rename_i hlt
   rw [show ((qj m:Nat):Int)+(p:Int)=((qj m+p:Nat):Int) by omega];refine zcv (qa6 (qj m+p) 13 w3) ?_;rintro v w4 ⟨⟨q,rfl,hq⟩,he4⟩;(conv=>whnf);have h13:=qs7 hE hE0 hfine (by rw [hdst];dsimp only;omega);rw [hdst] at h13;exact ⟨.err h13 Od hq,he1.trans (he3.trans he4)⟩
  ·rename_i hlt
   have h0:=q49 hE hE0 hfine (by rw [hdst];dsimp only;omega);exact ⟨.inr ⟨by rw [h0],b,rfl,hb,hD3⟩,he1.trans he3⟩
 rw [show (i:Int)/16=((i/16:Nat):Int) by omega];refine zcv (qjy b m (i/16) w3 hD3 (by unfold upN;omega)) ?_;rintro r w4 ⟨rfl,rfl⟩;obtain ⟨pl,epl⟩:∃ pl,pl=qz m (i/16):=⟨_,rfl⟩
 rw [← epl];(conv=>whnf);refine zt ?_;refine zC (fun _=>zu ?_) (fun _=>zu ?_)
 ·rename_i hne
  rw [show ((qj m:Nat):Int)+(p:Int)=((qj m+p:Nat):Int) by omega];refine zcv (qa6 (qj m+p) 161 w4) ?_;rintro v w5 ⟨⟨q,rfl,hq⟩,he5⟩;(conv=>whnf);exact ⟨.err (hat Oo (qs6 hdst Oo Oo) Od) Od hq,he1.trans (he3.trans he5)⟩
 all_goals
  have hpp:i%16=0→qz m (i/16)=p:=fun h=>by omega
  obtain ⟨first,hf⟩:∃ f,f=decide (i%16=0):=⟨_,rfl⟩
  have hd:decide ((i:Int)%16=0)=first:=by rw [hf];exact decide_eq_decide.2 Oo
  rw [hd];refine zcv (qjg b m p first last _ hD3 Oo hlast) ?_;rintro r w5 ⟨rfl,he5⟩;have hx5:=he3.trans he5
  by_cases he:(entG ((qc m).drop p) first last.data.toList).2.2=0
  case neg=>
   have hdn:=q47 hdst hf hpp he;rw [qb2,if_neg Oo,if_pos he];obtain ⟨e,ee⟩:∃ e,e=(entG ((qc m).drop p) first last.data.toList).2.2:=⟨_,rfl⟩
   rw [← ee] at he hdn ⊢;have hev:entV ([],0,e)=.tuple #[.string ⟨#[]⟩,ii 0,ii e]:=rfl;rw [hev];refine zu ?_;rw [show ((qj m:Nat):Int)+(p:Int)=((qj m+p:Nat):Int) by omega];refine zcv (qa6 (qj m+p) e w5) ?_;rintro v w6 ⟨⟨q,rfl,hq⟩,he6⟩;(conv=>whnf);exact ⟨.err (hat Oo hdn he) he hq,he1.trans (hx5.trans he6)⟩
  have hst':=hst.step hpp hf he;have hdst':=qe8 hdst hf;have hsz:=(qca he).1;have hdo:=qaae hdst hf hpp he;have hok:=qab5 hdst hf hpp he;have hdf:=fun h1:i%16≠0=>q2c hdst hf h1 he
  have hsd:=fun h1:i%16≠0=>(show (entG ((qc m).drop p) false last.data.toList).2.2=0 by rw [show first=false by rw [hf];exact decide_eq_false h1] at he;exact he)
  rw [qb2,if_neg Oo,if_neg Oo];obtain ⟨X,eX⟩:∃ X:ByteArray,X=⟨(entG ((qc m).drop p) first last.data.toList).1.toArray⟩:=⟨_,rfl⟩
  have hX1:(entG ((qc m).drop p) first last.data.toList).1=X.data.toList:=by rw [eX]
  obtain ⟨y,ey⟩:∃ y,y=(entG ((qc m).drop p) first last.data.toList).2.1:=⟨_,rfl⟩
  rw [hX1,← ey] at hst' hdst';rw [hX1] at hsz;have hsz:X.size≤262144:=hsz;rw [hX1,q5l] at hdo hok;rw [hX1,q5l] at hdf;have hev:entV ((entG ((qc m).drop p) first last.data.toList).1,p+(entG ((qc m).drop p) first last.data.toList).2.1,0)=.tuple #[.string X,ii (p+y:Nat),ii 0]:=by rw [eX,ey];rfl
  rw [hev];have hnext:=fun hfin:dnF m i=(0,0)=>(show ∀ j,j<i+1→(dnF m j).2=0 from fun j hj=>by
   by_cases e:j=i
   ·rw [e,hfin]
   ·exact hfine j Oo)
  obtain ⟨z,ez⟩:∃ z,z=(slt X last||seq X last):=⟨_,rfl⟩
  rw [← ez] at hdo hok hdf;conv=>whnf
  (repeat' (first|refine zp ?_|refine zC (fun _=>zw ?_) (fun _=>zw ?_)))
  rw [← ez];cases z
  case true=>
   have hdn:=hdo Oo rfl;refine zv ?_;rw [show ((qj m:Nat):Int)+(p:Int)=((qj m+p:Nat):Int) by omega];refine zcv (qa6 (qj m+p) 160 w5) ?_;rintro v w6 ⟨⟨q,rfl,hq⟩,he6⟩;(conv=>whnf);exact ⟨.err (hat Oo hdn Od) Od hq,he1.trans (hx5.trans he6)⟩
  refine zv ?_
 ·exact ⟨(i+1,X,p+y),⟨rfl,rfl,rfl,rfl,rfl,congrArg (Value.int .i64) (by simp only;omega),trivial⟩,⟨by simp only;omega,hdst',hst',hsz,hnext (hok (fun _=>rfl) (fun h=>by omega)),hx5⟩,by simp only;omega⟩
 ·exact ⟨(i+1,X,p+y),⟨rfl,rfl,rfl,rfl,rfl,congrArg (Value.int .i64) (by simp only;omega),trivial⟩,⟨by simp only;omega,hdst',hst',hsz,hnext (hok (fun h=>absurd h Oo) (fun h=>absurd h Oo)),hx5⟩,by simp only;omega⟩
 ·have hff:=hsd Oo;have h1:=qmd hff;have h2:=qmc hff;have hls:last.data.toList.length=last.size:=rfl;refine zcv (qv9 b m p w5 (hD.ext hx5) hple h1 Oo) ?_;rintro r w6 ⟨rfl,he6⟩;obtain ⟨s,es⟩:∃ s,s=(numL ((qc m).drop p)).1:=⟨_,rfl⟩
  rw [← es] at hok hdf ⊢;refine zu ?_;refine zcv (qn2 last X w6 Oo) ?_;rintro r w7 ⟨rfl,he7⟩;have hx7:=hx5.trans (he6.trans he7);rw [qja];obtain ⟨a,ea⟩:∃ a,a=comL X.data.toList last.data.toList:=⟨_,rfl⟩
  rw [← ea] at hok hdf ⊢;(conv=>whnf);refine zt ?_;refine zC (fun _=>zu ?_) (fun _=>zu ?_)
  ·rename_i hne
   have hdn:=hdf Oo rfl Oo;rw [show ((qj m:Nat):Int)+(p:Int)=((qj m+p:Nat):Int) by omega];refine zcv (qa6 (qj m+p) 161 w7) ?_;rintro v w8 ⟨⟨q,rfl,hq⟩,he8⟩;(conv=>whnf);exact ⟨.err (hat Oo hdn Od) Od hq,he1.trans (hx7.trans he8)⟩
  ·exact ⟨(i+1,X,p+y),⟨rfl,rfl,rfl,rfl,rfl,congrArg (Value.int .i64) (by simp only;omega),trivial⟩,⟨by simp only;omega,hdst',hst',hsz,hnext (hok (fun _=>rfl) (fun h=>by omega)),hx7⟩,by simp only;omega⟩
def Alien (w:World) (x:Nat):Prop:=(∀ off k c,w.cell? ⟨x,off,none⟩≠some (.int k c))∧∀ cs t fz,w.heap[x]?=some (.cells cs t fz)→t≠253∧t≠153∧t≠263∧t≠98
theorem Alien.mark {w:World} {x:Nat} {ds:Option (List Deferred)} (h:w.heap[x]?=some (.deferred ds)):Alien w x:=by
 refine ⟨fun off k c e=>?_,fun cs t fz e=>?_⟩
 ·unfold World.cell? at e;simp only [h] at e;cases e
 ·rw [h] at e;cases e
theorem Alien.one {w:World} {x:Nat} {v:Value} {t:TypeId} {fz:Nat × Nat} (h:w.heap[x]?=some (.cells #[v] t fz)) (hv:∀ k c,v≠.int k c) (ht:t≠253∧t≠153∧t≠263∧t≠98):Alien w x:=by
 refine ⟨fun off k c e=>?_,fun cs t' fz' e=>?_⟩
 ·rw [qa h] at e;cases off with
  | zero=>exact hv k c (Option.some.inj e)
  | succ n=>rw [Array.getElem?_eq_none Js] at e;cases e
 ·rw [h] at e
  injection e with e
  injection e with _ e _
  subst e;exact ht
section
variable {w w':World} {x:Nat} (ha:Alien w x) (hw:∀ c,c≠x→w'.heap[c]?=w.heap[c]?)
include ha hw
theorem qsi {b off:Nat} {k:IntKind} {c:Int} {vs:List Value} (h:CellsAt w b off (.int k c::vs)):CellsAt w' b off (.int k c::vs):=by
 refine CellsAt.other h (x:=x) (fun e=>?_) hw;subst e;exact ha.1 _ _ _ (h 0 _ rfl)
theorem qip {A:oA} {l:LB} (h:SlAt encB 1 w A l):SlAt encB 1 w' A l:=by
 refine ⟨fun hn=>?_⟩;obtain ⟨b,off,h1,h2⟩:=h.at_ hn;exact ⟨b,off,h1,fun j y hy=>qsi ha hw (h2 j y hy)⟩
theorem DictAt.alien {b:Nat} {m:LB} (h:DictAt w b m):DictAt w' b m:=by
 obtain ⟨⟨P,cp,E,ce,h1,h2,h3,h4⟩,h5,h6,h7,h8⟩:=h;have hb:b≠x:=fun e=>by subst e;exact (ha.2 _ _ _ h1).1 rfl
 exact ⟨⟨P,cp,E,ce,by rw [hw b hb];exact h1,qip ha hw h2,qip ha hw h3,h4⟩,h5,h6,h7,h8⟩
theorem VocAt.alien {b:Nat} {l:LB} (h:VocAt w b l):VocAt w' b l:=by
 obtain ⟨d,h1,h2⟩:=h;have hb:b≠x:=fun e=>by subst e;exact (ha.2 _ _ _ h1).2.1 rfl
 exact ⟨d,by rw [hw b hb];exact h1,fun k hk=>(h2 k hk).alien ha hw⟩
theorem VecP.alien {V s:Value} {l:LB} {k:Nat} (h:VecP w V s l k):VecP w' V s l k:=by
 rcases h with h|⟨h1,h2,vb,h3,h4⟩
 ·exact .inl h
 ·have hb:vb≠x:=fun e=>by subst e;exact (ha.2 _ _ _ h4).2.2.1 rfl
  exact .inr ⟨h1,h2,vb,h3,by rw [hw vb hb];exact h4⟩
theorem TreeAt.alien {b:Nat} {l:LB} (h:TreeAt w b l):TreeAt w' b l:=by
 refine ⟨fun k hk=>?_,h.n,h.wd⟩;obtain ⟨P,cp,S,cs,V,h1,h2,h3,h4,h5⟩:=h.lv k hk;exact ⟨P,cp,S,cs,V,qsi ha hw h1,qip ha hw h2,qip ha hw h3,h4,h5.alien ha hw⟩
theorem PackAt.alien {b:Nat} {l:LB} (h:PackAt w b l):PackAt w' b l:=by
 obtain ⟨vb,tb,h1,h2,h3⟩:=h;have hb:b≠x:=fun e=>by subst e;exact (ha.2 _ _ _ h1).2.2.2 rfl
 exact ⟨vb,tb,by rw [hw b hb];exact h1,h2.alien ha hw,h3.alien ha hw⟩
end
namespace V
theorem qd1 {P:Program} {n:Nat} {fn:Func} {R:Value→World→Prop} {ρ:Nat→Value} {w0:World} {L:List (Nat × Obj)} {Φ:World→Prop} (hΦ:∀ w w' x,Alien w x→(∀ c,c≠x→w'.heap[c]?=w.heap[c]?)→Φ w→Φ w')
  (hk:∀ w',Mem w0 w' L→Φ w'→resV fn.results ρ w' fn R P n):∀ (Ds:List Nat) (w:World),Mem w0 w (Ds.map qcw++L)→Φ w→qjm P n fn R ρ (Ds.map qkn) w
 | [],w,h,hp=>hk w h hp
 | D::Ds,w,h,hp=>by
  show LeaveV P n fn R ρ (qkn D::Ds.map qkn) w;have hg:=h.get mh;refine LeaveV.mark hg fun w' hw=>?_;subst hw;exact qd1 hΦ hk Ds _ ((h.setO (i:=0) _ rfl rfl).sub (List.sublist_cons_self ..)) (hΦ _ _ D (Alien.mark hg) (fun c hc=>qfi hc) hp)
end V
theorem q2g (m:LB) (f:Bool) (a:LB):(entG m f a).2.1≤m.length:=by
 by_cases h:(entG m f a).2.2=0
 ·exact (qca h).2
 ·unfold entG at h ⊢;obtain ⟨s,hs⟩:∃ s:Nat × Nat × Nat,s=if f then (0,0,0) else numL m:=⟨_,rfl⟩
  rw [← hs] at h ⊢;dsimp only at h ⊢
  split
  ·exact Nat.zero_le _
  rename_i g1
  rw [if_neg g1] at h
  split
  ·exact Nat.zero_le _
  rename_i g2
  rw [if_neg g2] at h
  split
  ·exact Nat.zero_le _
  rename_i g3
  rw [if_neg g3] at h
  split
  ·exact Nat.zero_le _
  rename_i g4
  rw [if_neg g4] at h
  split
  ·exact Nat.zero_le _
  rename_i g5
  rw [if_neg g5] at h;exact absurd rfl h
theorem qqm (m:LB):∀ i,(dSt m i).2≤(qc m).length
 | 0=>Nat.zero_le _
 | i+1=>by
  have h1:=qqm m i;have h2:=q2g ((qc m).drop (dSt m i).2) (decide (i%16=0)) (dSt m i).1;rw [zld] at h2;rw [dSt];show (dSt m i).2+_≤_;omega
theorem qaad (m:LB) (i:Nat):(dnF m i).1≤qj m+(qc m).length:=by
 have h1:=qqm m i;unfold dnF
 split
 ·show qj m+(dSt m i).2≤_;omega
 split
 ·show qj m+(dSt m i).2≤_;omega
 split
 ·show qj m+(dSt m i).2≤_;omega
 split
 ·show qj m+(dSt m i).2≤_;omega
 ·exact Nat.zero_le _
theorem q48 (m:LB):(doE m).1≤m.length:=by
 by_cases h:(dE m).2=0
 ·obtain ⟨_,_,h3⟩:=qab4 h;have e:dEnd m=qj m+qoi m:=rfl;have h4:(qc m).length=m.length-qj m:=by rw [qc,zld]
  have h5:=qqm m (dN m);rw [doE,if_neg Oo]
  split
  ·show qj m-1≤_;omega
  split
  ·have:=qme (fun k=>qaad m k) (dN m);omega
  split
  ·show qj m+_≤_;omega
  ·exact Nat.zero_le _
 ·rw [qma h];exact q65 m
theorem qab1 (l:LB):(vwE l).1≤2*l.length+201326592:=by
 unfold vwE
 split
 ·have:=qabm l;omega
 ·rename_i h0
  obtain ⟨_,h3⟩:=q5z (l:=l) Oo;have hv:∀ k,k<3→(veF l k).1≤2*l.length+201326592:=fun k hk=>by
   have h4:=qex h3 hk;have h5:=q48 (sDict l k);have h6:=qfh l k;unfold veF
   split
   ·exact Nat.zero_le _
   ·show ql l k+(doE (sDict l k)).1≤_;omega
  split
  ·exact qc5 3 hv
  ·refine qc5 3 fun k hk=>?_;have h4:=qex h3 hk;unfold vrF
   split
   ·show ql l k≤_;omega
   ·exact Nat.zero_le _
theorem qaa3 (l:LB) (k:Nat):(lvE l k).1≤tvAt l k+tEnd l k+1000000009:=by
 unfold lvE
 split
 ·show tEnd l k-1≤_;omega
 split
 ·show tvAt l k≤_;omega
 split
 ·unfold vcE
  split
  ·show tEnd l k≤_;omega
  rename_i g
  split
  ·have h1:=q6b (qk l k);have h2:qaj (vN (qk l k)) (vM (qk l k))≤1000000000:=by
    have g1:tVec l k=true:=by simpa using g
    simp only [tVec,vOk,Bool.and_eq_true,decide_eq_true_eq] at g1;exact qkg _ _ g1.1.1.1.1.2 g1.1.1.1.2
   show tEnd l k+(voE (qk l k)).1≤_;omega
  split
  ·show tEnd l k≤_;omega
  ·exact Nat.zero_le _
 ·refine qme (fun i=>?_) _;unfold nmF
  split
  ·show tvAt l k+1≤_;omega
  split
  ·show tvAt l k+1≤_;omega
  ·exact Nat.zero_le _
theorem qabu (l:LB):(toE l).1≤2*l.length+1000000009:=by
 by_cases h:(tE l).2=0
 ·rw [toE,if_neg Oo];refine qc5 4 fun k hk=>?_;have h1:=qaa3 l k;obtain ⟨_,h2⟩:=q53 h;obtain ⟨z1,z2,z3⟩:=quf (h2 k hk);have t2:tEnd l k≤tvAt l (k+1):=by rw [qci];omega
  omega
 ·rw [q87 h];have:=qabs l;omega
theorem qab6 {l:LB} (h:(fE l fun k=>doE (sDict l k)).2≠0):vwE l=fE l fun k=>doE (sDict l k):=by
 have hf:(fun k=>if (doE (sDict l k)).2=0 then (0,0) else (ql l k+(doE (sDict l k)).1,(doE (sDict l k)).2))=veF l:=by
  funext k;rw [veF]
 unfold fE at h ⊢;rw [hf] at h ⊢;unfold vwE
 split at h
 ·rename_i g;rw [if_pos g,if_pos g]
 ·rename_i g;rw [if_neg g,if_neg g,if_pos h]
theorem q7a {l:LB} (h:(fE l fun k=>doE (sDict l k)).2=0):(sE l).2=0∧∀ k,k<3→(doE (sDict l k)).2=0:=by
 unfold fE at h
 split at h
 ·rename_i g;exact absurd h g
 ·rename_i g
  refine ⟨by omega,fun k hk=>?_⟩;have:=qbv h k hk;dsimp only at this
  split at this
  ·assumption
  ·exact absurd this Oa
def VOpR (l:LB) (v:Value) (w:World):Prop:=
 ((vwE l).2≠0∧∃ e,v=.tuple #[.pointer none,e]∧ErrAt w e (vwE l).1 (vwE l).2)∨((vwE l).2=0∧∃ b,v=.tuple #[pp b,.nilIface]∧VocAt w b l)
theorem q8w (d:Nat→Nat) (l:LB) (i:Nat) (hi:i<3) :
  ((#[Value.pointer (some ⟨d 0,0,none⟩),ii (vTot l 0+1:Nat),.pointer (some ⟨d 1,0,none⟩),ii (vTot l 1+1:Nat),.pointer (some ⟨d 2,0,none⟩),ii (vTot l 2+1:Nat)]:Array Value).toList.drop (i*2)).take 2=[.pointer (some ⟨d i,0,none⟩),ii (vTot l i+1:Nat)]:=by
 rcases (show i=0∨i=1∨i=2 by omega) with rfl|rfl|rfl<;>rfl
theorem qse (l:LB) (A:oA) (c:Nat) (w:World) (hS:SlAt encB 1 w A l) (hc:l.length≤c) (hl:l.length≤70368744177664) (hG:ErrTyp w)
  (hM:MaxLenAt w) (hT:CellsAt w 6 0 qa1) (hK:qej w) :
  Gv Tryz.prog 50 [.slice A l.length c] w fun v w'=>VOpR l v w'∧Ext w w':=by
 have hfd:=fun w' (hx:Ext w w')=>qow l A c w' (hS.ext hx) hc hl (hG.ext hx) 99 (fun k=>doE (sDict l k)) (fun k _=>Nat.le_trans (Nat.le_trans (q48 (sDict l k)) (qfh l k)) Oo) (fun k _ w' B c' hx hB hc'=>(qu6 (sDict l k) B c' w' hB hc' (by have:=qfh l k;omega)).mono fun v w'' ⟨h,he⟩=>⟨by
   rcases h with ⟨h0,e,h1,h2⟩|⟨h0,b,h1,_,h2⟩
   ·exact .inl ⟨h0,e,h1,h2⟩
   ·exact .inr ⟨h0,b,h1,h2⟩,he⟩)
 refine gvW Jk Tryz.func50 rfl Tryz.ntmps50 rfl (zw ?_);refine znm (Mem.nil w) fun b2 w1 hm=>zw ?_;refine znm hm fun b3 w2 hm=>zw ?_;refine zcv (hfd w2 hm.ext) ?_;rintro v w3 ⟨⟨h0,G,e,rfl,eb,rfl,hec⟩|⟨h0,vb,G,rfl,hG2,hV⟩,he3⟩
 ·have hvw:=qab6 h0;have hm0:=hm.call he3;have hne2:eb≠b2:=by
   intro e1;have h1:=hec 0 _ rfl;rw [e1,qa (hm0.get (zmg (i:=1) rfl))] at h1;cases h1
  have hne3:eb≠b3:=by
   intro e1;have h1:=hec 0 _ rfl;rw [e1,qa (hm0.get (zmg (i:=0) rfl))] at h1;cases h1
  (conv=>whnf);refine znm (Mem.nil w3) fun t5 w4 hm4=>zw ?_;refine StoreA.all hm4 (i:=0) rfl (by simp [qu]) (qd0 3 G) ?_;intro w5 hm5;have hec:=CellsAt.ext hec hm5.ext;have hm5:=hm0.glue2 hm5;refine zu ?_;refine StoreV.row hm5 (i:=1) rfl Js rfl ?_;intro w6 hfr6 _ hm6;have hec:=CellsAt.other hec hne2 hfr6;(conv=>whnf);refine StoreV.row hm6 (i:=0) rfl Js rfl ?_;intro w7 hfr7 _ hm7;have hec:=CellsAt.other hec hne3 hfr7;(conv=>whnf);refine qh (R:=fun v w'=>VOpR l v w'∧Ext w w') (zw ?_);refine zr hm7 1 ?_;refine zr hm7 0 ?_;exact ⟨.inl ⟨by rw [hvw];exact h0,_,rfl,eb,rfl,by rw [hvw];exact hec⟩,hm7.ext⟩
 obtain ⟨hs0,hdz⟩:=q7a h0;obtain ⟨d,hvc,hdD⟩:=id hV;have hm0:=hm.call he3;have hw3:Ext w w3:=hm0.ext;clear hm;(conv=>whnf);refine znm (Mem.nil w3) fun t5 w4 hm=>zw ?_;refine StoreA.all hm (i:=0) rfl (by simp [qu]) (qd0 3 G) fun w5 hm=>zu ?_;have hvl:CellsAt w5 vb 0 [.pointer (some ⟨d 0,0,none⟩),ii (vTot l 0+1:Nat),.pointer (some ⟨d 1,0,none⟩),ii (vTot l 1+1:Nat),.pointer (some ⟨d 2,0,none⟩),ii (vTot l 2+1:Nat)]:=fun k v hv=>by
  have hk:k<6:=(List.getElem?_eq_some_iff.1 hv).1;rw [qa (hm.ext.get hvc),Nat.zero_add]
  rcases (show k=0∨k=1∨k=2∨k=3∨k=4∨k=5 by omega) with rfl|rfl|rfl|rfl|rfl|rfl<;>exact hv
 refine LoadA.cells hvl rfl ?_;clear hvl;(conv=>whnf);obtain ⟨T,eT⟩:∃ T,T=(t5,Obj.cells (fnA 3 (inF G)) 129):=⟨_,rfl⟩
 have hm:Mem w3 w5 [T]:=by rw [eT];exact hm
 refine q5m (fun x:Nat × List Nat=>[(2,pp b2),(3,pp b3),(4,pp vb),(5,pp t5),(25,.agg #[.pointer (some ⟨d 0,0,none⟩),ii (vTot l 0+1:Nat),.pointer (some ⟨d 1,0,none⟩),ii (vTot l 1+1:Nat),.pointer (some ⟨d 2,0,none⟩),ii (vTot l 2+1:Nat)]),(26,ii x.1)]) (fun x=>x.2.map qkn)
  (fun x w'=>x.1≤3∧(∀ k,k<x.1→(vrF l k).2=0)∧Mem w3 w' (x.2.map qcw++[T])) (fun x=>3-x.1) (0,[])
  ⟨rfl,rfl,rfl,rfl,rfl,rfl,trivial⟩ rfl ⟨Nat.zero_le _,fun k h=>absurd h (Nat.not_lt_zero _),hm⟩ ?_
 clear hm;rintro ⟨i,Ds⟩ w6 ρ' ⟨hi,hz,hm⟩;dsimp only at hi hz hm ⊢;(conv=>whnf);refine zC (fun _=>zu ?_) (fun _=>zu ?_)
 ·refine ⟨[.pointer (some ⟨d i,0,none⟩),ii (vTot l i+1:Nat)],?_,?_⟩
  ·rw [show tsz Tryz.prog 150=2 from by kernel_rfl];exact q8w d l i Oo
  (conv=>whnf);refine znm hm fun t7 w7 hm=>zw ?_;refine znm hm fun t8 w8 hm=>zw ?_;refine StoreV.mem hm (i:=1) rfl Js rfl fun w9 hm=>zw ?_;refine zS hm 0 fun w10 hm=>zw ?_;refine zr hm 0 ?_;refine zcv (qxt (d i) w10) ?_;rintro v w11 ⟨c1,c2,rfl,hmE⟩;replace hm:=hm.glue hmE;clear hmE;(conv=>whnf);have hi3:i<3:=by omega
  have hlen:((List.range (dN (sDict l i))).map (dRow (sDict l i))).length=dN (sDict l i):=by simp
  have hdi:=hdz i hi3;obtain ⟨L,hL⟩:∃ L:List (Nat × Obj),L=[(c1,.cells #[ii 0] 3),(c2,.cells #[.pointer (some ⟨d i,0,none⟩)] 148),(t8,.cells #[.pointer (some ⟨d i,0,none⟩),ii (vTot l i+1:Nat)] 150),(t7,.cells #[ii i] 3)]++(Ds.map qcw++[T]):=⟨_,rfl⟩
  have hm:Mem w3 w11 ([]++L):=by rw [hL];exact hm
  have hin1:(c1,Obj.cells #[ii 0] 3)∈L:=by rw [hL];exact zmg (i:=0) rfl
  have hin2:(c2,Obj.cells #[.pointer (some ⟨d i,0,none⟩)] 148)∈L:=by rw [hL];exact zmg (i:=1) rfl
  refine qt1 (Φ:=DicΦ (d i) (sDict l i) c1 c2) (lb:=[pp c1,pp c2]) (xs:=(List.range (dN (sDict l i))).map (dRow (sDict l i))) rfl Jk (qxu (d i) (sDict l i) c1 c2 hdi) Od ?_
   (fun j X w'=>∃ _:Unit,(∀ j',j'<j→¬ vrB l i j')∧Mem w3 w' (X++L))
   (fun c j X w'=>∃ eb:Nat,(c=.ret∧vwE l=(ql l i,170))∧Mem w w' (X++([(eb,.cells #[ii (ql l i:Nat),.iface 26 (ii (170:Nat))] 106),(b3,.cells #[.iface 104 (pp eb)] 37),(b2,.cells #[.pointer none] 71)]++Ds.map qcw)))
   (fun j=>Carr.mem _ _) (fun c j=>Carr.mem _ _)
   (fun j X w' ⟨_,_,hm⟩=>⟨(hdD i hi3).ext hm.ext,by rw [qa (hm.get (List.mem_append_right _ hin1))];rfl,by rw [qa (hm.get (List.mem_append_right _ hin2))];rfl⟩) ⟨(),fun j h=>absurd h (Nat.not_lt_zero _),hm⟩ ?_ ?_ ?_
  ·intro x hx;obtain ⟨j,_,rfl⟩:=List.mem_map.1 hx;rfl
  ·clear hm;rintro l2 D ob j x X w12 w13 hx ⟨_,hbj,hmJ⟩;have hjn:j<dN (sDict l i):=by
    have:=(List.getElem?_eq_some_iff.1 hx).1
    rwa [hlen] at this
   rw [List.getElem?_map,List.getElem?_range hjn,Option.map_some,Option.some.injEq] at hx;subst hx;have hm:=hmJ.perm (List.perm_append_comm (l₁:=L));rw [hL] at hm;have hgt:=(ql9 hdi hjn).2;have hsz:=ql6 hgt;(conv=>whnf);refine ⟨rfl,rfl,?_⟩;(conv=>whnf);refine zr hm 3 ?_;refine zv ?_;have hkk:((i+1:Nat):Int)=1∨((i+1:Nat):Int)=2∨((i+1:Nat):Int)=3:=by omega
   refine LoadV.of (v:=ii (i+1:Nat)) ?_ ?_
   ·have hKx:=fun j v (hv:([ii 1,ii 2,ii 3]:List Value)[j]?=some v)=>(CellsAt.ext hK (hw3.trans hm.ext)) j v hv
    rw [show tsz Tryz.prog 3=1 from by kernel_rfl]
    rcases (show i=0∨i=1∨i=2 by omega) with rfl|rfl|rfl
    ·exact hKx 0 _ rfl
    ·exact hKx 1 _ rfl
    ·exact hKx 2 _ rfl
   (conv=>whnf);obtain ⟨t,e,hrv,hrc⟩:∃ t e,qcl ((i+1:Nat):Int) (⟨(dTxt (sDict l i) j).toArray⟩:ByteArray).data.toList=.tuple #[qbk t,ii (e:Nat)]∧((e=0∧∃ t,ReadsAs ((i+1:Nat):Int) (dTxt (sDict l i) j) t)∨(e≠0∧∀ t,¬ ReadsAs ((i+1:Nat):Int) (dTxt (sDict l i) j) t)):=by
    show ∃ t e,qcl ((i+1:Nat):Int) (dTxt (sDict l i) j)=_∧_
    by_cases hr:∃ t,ReadsAs ((i+1:Nat):Int) (dTxt (sDict l i) j) t
    ·obtain ⟨t,ht⟩:=id hr;exact ⟨t,0,qeb ht,.inl ⟨rfl,hr⟩⟩
    ·have hr:∀ t,¬ ReadsAs ((i+1:Nat):Int) (dTxt (sDict l i) j) t:=fun t ht=>hr ⟨t,ht⟩
     exact ⟨⟨0,⟨#[]⟩,⟨#[]⟩,⟨#[]⟩⟩,170,qbj hr,.inr ⟨by decide,hr⟩⟩
   refine zcv (qqb ((i+1:Nat):Int) hkk ⟨(dTxt (sDict l i) j).toArray⟩ hsz w13 (hM.ext (hw3.trans hm.ext)) (hT.ext (hw3.trans hm.ext))) ?_;rintro r w14 ⟨rfl,he14⟩;rw [hrv];replace hm:=hm.call he14;(conv=>whnf);refine znm hm fun t11 w15 hm=>zw ?_;refine zS hm 0 ?_;clear hm;intro w16 hm;replace hm:=hm.sub (List.sublist_cons_self ..);conv=>whnf
   rcases hrc with ⟨rfl,hr⟩|⟨he,hr⟩
   ·refine zv ?_;refine ⟨(),fun j' hj'=>?_,?_⟩
    ·by_cases e:j'=j
     ·subst e;rintro ⟨s,hs,hno⟩;rw [hgt] at hs;cases hs;obtain ⟨t',ht'⟩:=hr;exact hno t' ht'
     ·exact hbj j' Oo
    ·rw [hL];exact hm.perm List.perm_append_comm
   ·refine zv ?_;have hvw:vwE l=(ql l i,170):=qaci hs0 hdz hz hi3 hjn ⟨_,hgt,hr⟩;refine zr hm 3 ?_;refine zv ?_;refine LoadV.fim (x:=((ql l i:Nat):Int)) hm (b:=t5) (F:=G) (n:=3) (t:=129) (by rw [eT];simp) i (by rw [show tsz Tryz.prog 3=1 from by kernel_rfl];omega) hi3 (hG2 i hi3) (zw ?_);refine zcv (qkf (ql l i) 170 w16) ?_;rintro v w17 ⟨eb,rfl,heb,hge,he17⟩;have hmF:=(hm0.glue2 hm).fresh he17 (by have:=hm.ext.size;exact heb) hge;unfold errV;(conv=>whnf);refine StoreV.mem hmF (i:=2) rfl Js rfl fun w18 hm=>zw ?_;refine StoreV.mem hm (i:=1) rfl Js rfl fun w19 hm=>zw ?_;refine ⟨eb,⟨rfl,hvw⟩,?_⟩;have hm:Mem w w19 ((eb,.cells #[ii (ql l i:Nat),.iface 26 (ii (170:Nat))] 106)::(b3,.cells #[.iface 104 (pp eb)] 37)::(b2,.cells #[.pointer none] 71)::
     (c1,.cells #[ii 0] 3)::(c2,.cells #[.pointer (some ⟨d i,0,none⟩)] 148)::(t8,.cells #[.pointer (some ⟨d i,0,none⟩),ii (vTot l i+1:Nat)] 150)::(t7,.cells #[ii i] 3)::((Ds.map qcw++[T])++((l2,ob)::(D,.deferred (some []))::X))):=hm
    have hm:=hm.sub (.cons_cons _ (.cons_cons _ (.cons_cons _ (.cons _ (.cons _ (.cons _ (.cons _ (List.Sublist.append (List.sublist_append_left (Ds.map qcw) [T]) (List.Sublist.refl _)))))))));exact hm.perm (List.perm_append_comm (l₁:=(l2,ob)::(D,.deferred (some []))::X))
  ·clear hm;rintro D w12 ⟨_,hbj,hm⟩;rw [hlen] at hbj;refine zu ?_;have hv0:(vrF l i).2=0:=q6d hbj;refine ⟨(i+1,D::Ds),⟨rfl,rfl,rfl,rfl,rfl,rfl,trivial⟩,rfl,⟨by simp only;omega,fun k hk=>?_,?_⟩,by simp only;omega⟩
   ·by_cases e:k=i
    ·rw [e];exact hv0
    ·exact hz k (by simp only at hk;omega)
   ·rw [hL] at hm;have hm:Mem w3 w12 ((D,.deferred (some []))::(c1,.cells #[ii 0] 3)::(c2,.cells #[.pointer (some ⟨d i,0,none⟩)] 148)::(t8,.cells #[.pointer (some ⟨d i,0,none⟩),ii (vTot l i+1:Nat)] 150)::(t7,.cells #[ii i] 3)::(Ds.map qcw++[T])):=hm;exact hm.sub (.cons_cons _ (.cons _ (.cons _ (.cons _ (.cons _ (List.Sublist.refl _))))))
  ·clear hm;rintro D c j w12 hj ⟨eb,⟨rfl,hvw⟩,hm⟩;(conv=>whnf);refine LeaveV.marks (J:=fun X w'=>∃ _:Unit,True∧Mem w w' (X++[(eb,.cells #[ii (ql l i:Nat),.iface 26 (ii (170:Nat))] 106),(b3,.cells #[.iface 104 (pp eb)] 37),(b2,.cells #[.pointer none] 71)])) (Carr.mem _ _) ?_ (D:=D) (Ds:=Ds) ?_
   ·rintro w' ⟨_,_,hm⟩;refine qh (R:=fun v w'=>VOpR l v w'∧Ext w w') (zw ?_);refine zr hm 2 ?_;refine zr hm 1 ?_;exact ⟨.inl ⟨by rw [hvw];show (170:Nat)≠0;decide,_,rfl,eb,rfl,by rw [hvw];exact CellsAt.mem hm mh⟩,hm.ext⟩
   ·exact ⟨(),trivial,hm.perm (by
     refine List.Perm.cons _ ?_;exact List.perm_append_comm)⟩
 ·obtain rfl:i=3:=by omega
  have hvw:=q6e hs0 hdz hz;have hV6:=hV.ext hm.ext;have hm:=hm0.glue2 hm;have ha2:=Alien.one (x:=b2) (hm.get (zmg (i:=1) rfl)) (fun _ _ e=>by cases e) Od;(conv=>whnf);refine StoreV.row hm (i:=1) rfl Js rfl ?_;intro w7 hfr7 _ hm7;have hV7:=hV6.alien ha2 hfr7;have ha3:=Alien.one (x:=b3) (hm7.get (zmg (i:=0) rfl)) (fun _ _ e=>by cases e) Od;(conv=>whnf);refine StoreV.row hm7 (i:=0) rfl Js rfl ?_;intro w8 hfr8 _ hm8;have hV8:=hV7.alien ha3 hfr8;have hm:Mem w w8 ((b3,.cells #[.nilIface] 37)::(b2,.cells #[pp vb] 71)::(Ds.map qcw++[T])):=hm8;have hm:=hm.sub (.cons_cons _ (.cons_cons _ (List.sublist_append_left (Ds.map qcw) [T])));have hm:Mem w w8 (Ds.map qcw++[(b3,.cells #[.nilIface] 37),(b2,.cells #[pp vb] 71)]):=hm.perm (List.perm_append_comm);(conv=>whnf);refine qd1 (Φ:=fun w'=>VocAt w' vb l) (fun w w' x ha hw h=>h.alien ha hw) ?_ Ds _ hm hV8;intro w' hm hv;refine qh (R:=fun v w'=>VOpR l v w'∧Ext w w') (zw ?_);refine zr hm 1 ?_;refine zr hm 0 ?_;exact ⟨.inr ⟨hvw,vb,rfl,hv⟩,hm.ext⟩
def us4 (q:Nat→Nat) (id:Nat):Nat→Nat
 | 0=>0
 | k+1=>us4 q id k+if q k=id then 1 else 0
def usN (l:LB) (id:Nat):Nat→Nat
 | 0=>0
 | i+1=>usN l id i+us4 (tNum l i) id 4
theorem q07 (q:Nat→Nat) (id:Nat):∀ k,us4 q id k≤k
 | 0=>Nat.le_refl _
 | k+1=>by
  have:=q07 q id k;rw [us4]
  split<;>omega
theorem q59 (l:LB) (id:Nat):∀ n,usN l id n≤4*n
 | 0=>Nat.le_refl _
 | n+1=>by
  have:=q59 l id n;have:=q07 (tNum l n) id 4;rw [usN];omega
theorem qnm {q:Nat→Nat} {id:Nat}:∀ {k},us4 q id k≠0↔∃ j,j<k∧q j=id
 | 0=>by simp [us4]
 | k+1=>by
  rw [us4]
  constructor
  ·intro h
   by_cases e:q k=id
   ·exact ⟨k,by omega,e⟩
   ·rw [if_neg e] at h;obtain ⟨j,h1,h2⟩:=qnm.1 (show us4 q id k≠0 by omega);exact ⟨j,by omega,h2⟩
  ·rintro ⟨j,h1,h2⟩
   by_cases e:j=k
   ·subst e;rw [if_pos h2];omega
   ·have:=qnm.2 ⟨j,show j<k by omega,h2⟩;omega
theorem qnn {l:LB} {id:Nat}:∀ {n},usN l id n≠0↔∃ i,i<n∧∃ j,j<4∧tNum l i j=id
 | 0=>by simp [usN]
 | n+1=>by
  rw [usN]
  constructor
  ·intro h
   by_cases e:us4 (tNum l n) id 4=0
   ·obtain ⟨i,h1,h2⟩:=qnn.1 (show usN l id n≠0 by omega);exact ⟨i,by omega,h2⟩
   ·exact ⟨n,by omega,qnm.1 e⟩
  ·rintro ⟨i,h1,h2⟩
   by_cases e:i=n
   ·subst e;have:=qnm.2 h2;omega
   ·have:=qnn.2 ⟨i,show i<n by omega,h2⟩;omega
theorem quj {l:LB}:qrc l↔∀ id,1≤id→id≤vTot (qm l) 3→usN (qe l) id (vNum (qe l) 3)≠0:=by
 constructor
 ·intro h id h1 h2;exact qnn.2 (h id h1 h2)
 ·intro h id h1 h2;exact qnn.1 (h id h1 h2)
namespace V
theorem LoadA.own {w:World} {b size:Nat} {cs:Array Value} {t:TypeId} {fr:Nat × Nat} {K:List Value→Prop} (h:w.heap[b]?=some (.cells cs t fr)) (hs:cs.toList.length=size) (hk:K cs.toList):LoadA w b 0 size K:=
 ⟨cs.toList,hs,fun j _=>by rw [qa h,Nat.zero_add];simp,hk⟩
end V
theorem qfz (p c:Nat) (w:World):Gv Tryz.prog 48 [ii p,ii c] w fun v w'=>∃ b,v=errV b∧w.heap.size≤b∧w'.heap[b]?=some (errO p c)∧Ext w w':=by
 refine ze Tryz.func48 Tryz.ntmps48 ?_;refine znm (Mem.nil w) fun b w1 hm=>zw ?_;exact ⟨b,rfl,(hm.own _ mh).1,hm.get mh,hm.ext⟩
theorem qh7 (b:Nat) (l:LB) (w:World) (h:VocAt w b l):Gv Tryz.prog 32 [pp b] w fun r w'=>r=ii (vTot l 3)∧w'=w:=by
 obtain ⟨d,_,hn⟩:=h.cell;refine ze Tryz.func32 Tryz.ntmps32 ?_;refine LoadV.of hn (zw ?_);exact ⟨rfl,rfl⟩
theorem q2y (tb:Nat) (l:LB) (w:World) (h:TreeAt w tb l) {K:Value→World→Prop} (hk:K (ii (vNum l 3)) w):InvV Tryz.prog 96 (pp tb) "Len" [] w K:=by
 refine ⟨91,pp tb,by kernel_rfl,?_⟩;refine zcv (qnj tb l w h) ?_;rintro v w' ⟨rfl,rfl⟩;exact hk
theorem q2z (vb:Nat) (l:LB) (w:World) (h:VocAt w vb l) {K:Value→World→Prop} (hk:K (ii (vTot l 3)) w):InvV Tryz.prog 71 (pp vb) "Len" [] w K:=by
 refine ⟨32,pp vb,by kernel_rfl,?_⟩;refine zcv (qh7 vb l w h) ?_;rintro v w' ⟨rfl,rfl⟩;exact hk
def POpR (l:LB) (v:Value) (w:World):Prop:=
 ((poE l).2≠0∧∃ e,v=.tuple #[.pointer none,e]∧ErrAt w e (poE l).1 (poE l).2)∨((poE l).2=0∧∃ b,v=.tuple #[pp b,.nilIface]∧PackAt w b l)
def usF (l:LB) (i j:Nat) (id:Nat):Value:=ii (usN l id i+us4 (tNum l i) id j:Nat)
theorem q4k (l:LB):usF l 0 0=fun _=>ii 0:=by funext id;simp [usF,usN,us4]
theorem q4i (l:LB) (i:Nat):usF l i 4=usF l (i+1) 0:=by funext id;simp [usF,usN,us4]
theorem q4j (l:LB) (i j:Nat):updF (usF l i j) (tNum l i j) (ii (usN l (tNum l i j) i+us4 (tNum l i) (tNum l i j) j+1:Nat))=usF l i (j+1):=by
 funext id
 unfold updF
 by_cases e:id=tNum l i j
 ·subst e;rw [if_pos rfl];simp only [usF,us4,if_true]
  congr 1
 ·rw [if_neg e];simp only [usF,us4];rw [if_neg (fun h=>e h.symm),Nat.add_zero]
theorem q4y (n:Nat):(qbf [ii 0] n).toArray=fnA n (fun _=>ii 0):=by
 rw [qlt];unfold fnA
 congr 1
 apply List.ext_getElem?;intro i
 by_cases h:i<n
 ·simp [h]
 ·simp [h]
theorem qzm {l:LB}:pS1 l↔(((crcL (qm l)).toNat:Nat):Int)=((leN ((l.drop (28+hN l 4)).take 4):Nat):Int):=⟨fun h=>congrArg _ h,fun h=>by unfold pS1;omega⟩
theorem qzn {l:LB}:pS2 l↔(((crcL (qe l)).toNat:Nat):Int)=((leN ((l.drop (32+hN l 4+hN l 5)).take 4):Nat):Int):=⟨fun h=>congrArg _ h,fun h=>by unfold pS2;omega⟩
theorem qaah {l:LB} (h:(qao l).2=0) (h1:pS1 l) (h2:pS2 l) (h0:(fpE l (vwE (qm l)) (toE (qe l))).2≠0):poE l=fpE l (vwE (qm l)) (toE (qe l)):=by
 unfold fpE at h0 ⊢
 split at h0
 ·rename_i g;rw [if_pos g,qabh h h1 h2 g,Nat.add_comm]
 ·rename_i g
  rw [if_neg g]
  split at h0
  ·rename_i g2;rw [if_pos g2,qabg h h1 h2 (Decidable.byContradiction g) g2,Nat.add_comm]
  ·exact absurd rfl h0
theorem qaai {l:LB} {E1 E2:Nat × Nat} (h0:(fpE l E1 E2).2=0):E1.2=0∧E2.2=0:=by
 unfold fpE at h0
 split at h0
 ·rename_i g;exact absurd h0 g
 ·rename_i g
  split at h0
  ·rename_i g2;exact absurd h0 g2
  ·rename_i g2
   exact ⟨Decidable.byContradiction g,Decidable.byContradiction g2⟩
theorem qab7 {l:LB} (h0:(fpE l (vwE (qm l)) (toE (qe l))).2=0):(vwE (qm l)).2=0∧(toE (qe l)).2=0:=qaai h0
end Go.Proofs.YtkienlambankeaaGreatDoor
