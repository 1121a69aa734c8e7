/- Lemmas and contracts of functions on the way to the law's card (part 8 of 10). -/
import Derived.Test.YtaiiejogocblgaaGreatDoorPO7
import Derived.OrdersIn
namespace Go.Proofs.YtaiiejogocblgaaGreatDoor
set_option maxHeartbeats 8000000
open Go.RowKit V
set_option maxRecDepth 100000
def sT (ts:List TM) (j:Nat):TM:=if j=0 then zTM else ts.getD (j-1) zTM
def sQ (ts:List TM) (q:Nat→Nat):Q4:=⟨sT ts (q 1),sT ts (q 2),sT ts (q 3),sT ts (q 0)⟩
def sA (ts:List TM) (q:Nat→Nat) (k j:Nat):TM:=if j<k then sT ts (q j) else zTM
def sR (ts:List TM) (q:Nat→Nat) (k:Nat):Q4:=⟨sA ts q k 0,sA ts q k 1,sA ts q k 2,sA ts q k 3⟩
def idE (q:Nat→Nat):List Value:=[ii (q 0:Nat),ii (q 1:Nat),ii (q 2:Nat),ii (q 3:Nat)]
theorem q5a (q:Nat→Nat) (k:Nat) (hk:k<4):(idE q)[k]?=some (ii (q k:Nat)):=by
 rcases (show k=0∨k=1∨k=2∨k=3 by omega) with rfl|rfl|rfl|rfl<;>rfl
theorem q5s (ts:List TM) (q:Nat→Nat) (k:Nat) (hk:k<4):((qae (sR ts q k)).take (k*4)++encT (sT ts (q k))++(qae (sR ts q k)).drop (k*4+4))=qae (sR ts q (k+1)):=by
 rcases (show k=0∨k=1∨k=2∨k=3 by omega) with rfl|rfl|rfl|rfl<;>rfl
theorem q4b (ts:List TM) (q:Nat→Nat) (k:Nat) (h:q k=0):sR ts q (k+1)=sR ts q k:=by
 have e:∀ j,sA ts q (k+1) j=sA ts q k j:=fun j=>by
  unfold sA
  by_cases h1:j<k
  ·rw [if_pos h1,if_pos Oo]
  ·by_cases h2:j=k
   ·subst h2;rw [if_pos Oo,if_neg Oo,h];rfl
   ·rw [if_neg Oo,if_neg h1]
 simp only [sR,e]
theorem q1j:TermOk zTM:=⟨⟨by decide,by decide⟩,by decide,by decide,by decide⟩
theorem q09 {ts:List TM} (h:∀ t∈ts,TermOk t) {j:Nat} (hj:j≤ts.length):TermOk (sT ts j):=by
 unfold sT
 split
 ·exact q1j
 ·have hl:j-1<ts.length:=by omega
  rw [List.getD_eq_getElem?_getD,zge hl];exact h _ (List.getElem_mem hl)
theorem q6j {ts:List TM} (h:∀ t∈ts,TermOk t) {q:Nat→Nat} (hj:∀ j,j<4→q j≤ts.length):qk7 (sQ ts q):=by
 intro k;unfold Q4.at
 split
 ·exact q09 h (hj 1 Oo)
 ·exact q09 h (hj 2 Oo)
 ·exact q09 h (hj 3 Oo)
 ·exact q09 h (hj 0 Oo)
theorem qdk (q:Q4):(qae q).length=16:=rfl
theorem qcy (q:Q4):∀ v∈qae q,v.oneCell'=true:=by
 intro v hv;unfold qae at hv
 rcases List.mem_append.1 hv with hv|hv
 ·exact qab _ v hv
 ·rcases List.mem_append.1 hv with hv|hv
  ·exact qab _ v hv
  ·rcases List.mem_append.1 hv with hv|hv
   ·exact qab _ v hv
   ·exact qab _ v hv
namespace V
theorem StoreA.rwAt {P:Program} {w0 w:World} {v:Value} {e:TypeId} {size n:Nat} {xs:List Value} {L:List (Nat × Obj)} {b off:Nat} {cur:Array Value} {t:TypeId} {vs:List Value} {K:World→Prop} (h:Rw w0 w v e size n xs ((b,.cells cur t)::L))
  (hl:off+vs.length≤cur.size) (h1:∀ v∈vs,v.oneCell'=true) (hk:∀ w',Rw w0 w' v e size n xs ((b,.cells (cur.toList.take off++vs++cur.toList.drop (off+vs.length)).toArray t)::L)→K w'):StoreA P w b off vs K:=by
 have hg:=h.mem.get mh;have hb:v.ownBlock≠some b:=h.apart _ mh;have hr:=run_storeCells_at P b off t vs 0 cur w hg (by simpa using hl) h1;have ec:(cur.toList.take (off+0)++vs++cur.toList.drop (off+0+vs.length)).toArray=(cur.toList.take off++vs++cur.toList.drop (off+vs.length)).toArray:=by rw [Nat.add_zero]
 rw [ec] at hr;refine ⟨_,hr,hk _ ⟨?_,?_,fun y hy=>?_⟩⟩
 ·have:=h.mem.set (i:=0) (b:=b) (o:=.cells cur t) (o':=.cells (cur.toList.take off++vs++cur.toList.drop (off+vs.length)).toArray t) rfl (w':=w.setRow b _) ?_ (qbw hg) (fun c hc=>qo hc)
  ·exact this
  ·exact Below.trans h.mem.ext ⟨rfl,rfl,rfl,by simp [World.setRow],fun k hk=>qo (by have:=(h.mem.own _ mh).1;simp only at this;omega)⟩
 ·refine h.own.kept (row:=some b) ⟨rfl,rfl,rfl,by simp [World.setRow],fun k _ hk=>qo (fun e=>hk (by simp [e]))⟩ (Or.inr hb)
 ·rcases List.mem_cons.1 hy with rfl|hy
  ·exact hb
  ·exact h.apart y (zmc hy)
end V
theorem qdSl:Tryz.prog.underlying 29=some (.slice 53):=Tryz.underlying29
theorem qdI:Tryz.prog.info? 53=some ((Tryz.prog.info? 53).get Jk):=(Option.some_get _).symm
theorem qdZ:((Tryz.prog.info? 53).get Jk).zero=some ((((Tryz.prog.info? 53).get Jk).zero).get Jk):=(Option.some_get _).symm
def SdR (ts:List TM) (is:List (Nat→Nat)) (base:Nat) (v:Value) (w:World):Prop:=
 ((∃ q∈is,¬ ((∀ j,j<4→q j≤ts.length)∧qck (sQ ts q)=0))∧v=.tuple #[.slice none 0 0,.bool false])∨
 ((∀ q∈is,(∀ j,j<4→q j≤ts.length)∧qck (sQ ts q)=0)∧∃ B c,v=.tuple #[.slice B is.length c,.bool true]∧w.ownsRow base 53 16 (.slice B is.length c) is.length ((is.map (sQ ts)).map qae).flatten)
theorem q1a (ts:List TM) (is:List (Nat→Nat)) (A B:oA) (cA cB:Nat) (w:World) (hA:SlAt encT 4 w A ts) (hB:SlAt idE 4 w B is) (hok:∀ t∈ts,TermOk t) (hts:ts.length≤16777216) (hl:is.length≤4194304) :
  Gv Tryz.prog 34 [.slice A ts.length cA,.slice B is.length cB] w fun v w'=>SdR ts is w.heap.size v w'∧Ext w w':=by
 refine ze Tryz.func34 Tryz.ntmps34 ?_;refine qr (fun x:Nat × oA × Nat=>[(0,.slice A ts.length cA),(1,.slice B is.length cB),(6,.slice x.2.1 x.1 x.2.2),(7,ii x.1)])
  (fun x w'=>x.1≤is.length∧(∀ q∈is.take x.1,(∀ j,j<4→q j≤ts.length)∧qck (sQ ts q)=0)∧Rw w w' (.slice x.2.1 x.1 x.2.2) 53 16 x.1 (((is.take x.1).map (sQ ts)).map qae).flatten []) (fun x=>is.length-x.1) (0,none,0)
  ⟨rfl,rfl,rfl,rfl,trivial⟩ ⟨by simp,by simp,Rw.nil (Mem.nil w)⟩ ?_
 rintro ⟨i,C,cc⟩ w1 ρ' ⟨h1,h2,hR⟩;dsimp only at h1 h2 hR ⊢;(conv=>whnf);refine zC (fun _=>zw ?_) (fun _=>zw ?_)
 ·have hil:i<is.length:=by omega
  obtain ⟨gi,oi,eB,hci⟩:=hB.at_ (by intro e;rw [e] at hil;simp at hil);subst eB;obtain ⟨q,hq⟩:∃ q,is[i]?=some q:=⟨_,zge hil⟩
  have hcq:=hci i q hq;refine NewV.rw hR ?_;clear hR;intro tb w2 hR;have hR:Rw w w2 (.slice C i cc) 53 16 i (((is.take i).map (sQ ts)).map qae).flatten [(tb,.cells (qae (sR ts q 0)).toArray 137)]:=hR;(conv=>whnf);refine qr (fun k:Nat=>[(0,.slice A ts.length cA),(1,.slice (some ⟨gi,oi,none⟩) is.length cB),(6,.slice C i cc),(7,ii i),(8,pp tb),(9,ii k)])
   (fun k w'=>k≤4∧(∀ j,j<k→q j≤ts.length)∧Rw w w' (.slice C i cc) 53 16 i (((is.take i).map (sQ ts)).map qae).flatten [(tb,.cells (qae (sR ts q k)).toArray 137)]) (fun k=>4-k) 0
   ⟨rfl,rfl,rfl,rfl,rfl,rfl,trivial⟩ ⟨by omega,fun j h=>by omega,hR⟩ ?_
  clear hR;rintro k w3 ρ2 ⟨k1,hj,hR⟩;conv=>whnf
  (repeat' (first|refine zC (fun _=>zw ?_) (fun _=>zw ?_)|(refine zJ 0 ?_;(conv=>whnf))))
  ·have hck:w3.cell? ⟨gi,oi+i*4+k,none⟩=some (ii (q k:Nat)):=Ext.cell hR.mem.ext (hcq k _ (q5a q k Oo));refine ⟨⟨gi,oi,i,rfl,by omega,by omega,?_⟩⟩;rw [show tsz Tryz.prog 82=4 from by kernel_rfl];refine zu ?_;rw [show tsz Tryz.prog 3=1 from by kernel_rfl,Nat.mul_one];refine LoadV.of hck (zw ?_);refine zC (fun _=>zw ?_) (fun _=>zw ?_)
   ·exact ⟨.inl ⟨⟨q,zmg hq,fun h=>by have:=h.1 k Oo;omega⟩,rfl⟩,hR.mem.ext⟩
   refine ⟨⟨gi,oi,i,rfl,by omega,by omega,?_⟩⟩;rw [show tsz Tryz.prog 82=4 from by kernel_rfl];refine zu ?_;rw [show tsz Tryz.prog 3=1 from by kernel_rfl,Nat.mul_one];refine LoadV.of hck (zw ?_);refine zC (fun _=>zu ?_) (fun _=>zu ?_)
   ·have hts0:0<ts.length:=by omega
    obtain ⟨ga,oa,eA,hca⟩:=hA.at_ (by intro e;rw [e] at hts0;simp at hts0);subst eA;have hkl:q k-1<ts.length:=by omega
    have hct:=hca (q k-1) _ (zge hkl);have est:sT ts (q k)=ts[q k-1]:=by rw [sT,if_neg Oo,List.getD_eq_getElem?_getD,zge hkl];rfl
    refine ⟨⟨gi,oi,i,rfl,by omega,by omega,?_⟩⟩;rw [show tsz Tryz.prog 82=4 from by kernel_rfl];refine zu ?_;rw [show tsz Tryz.prog 3=1 from by kernel_rfl,Nat.mul_one];refine LoadV.of hck (zu ?_);refine ⟨⟨ga,oa,q k-1,rfl,by omega,by omega,?_⟩⟩;rw [show tsz Tryz.prog 51=4 from by kernel_rfl];(conv=>whnf);refine LoadA.cells (hct.ext hR.mem.ext) rfl (zu ?_);rw [show tsz Tryz.prog 51=4 from by kernel_rfl,Nat.zero_add];refine StoreA.rwAt hR (by show k*4+4≤16;omega) (qab _) fun w4 hR=>zu ?_;refine ⟨k+1,⟨rfl,rfl,rfl,rfl,rfl,rfl,trivial⟩,⟨by omega,fun j hj'=>?_,?_⟩,by omega⟩
    ·by_cases e:j=k
     ·subst e;omega
     ·exact hj j Oo
    ·rw [← q5s ts q k Oo,est];exact hR
   ·refine ⟨k+1,⟨rfl,rfl,rfl,rfl,rfl,rfl,trivial⟩,⟨by omega,fun j hj'=>?_,?_⟩,by omega⟩
    ·by_cases e:j=k
     ·subst e;omega
     ·exact hj j Oo
    ·rw [q4b ts q k Oo];exact hR
  ·obtain rfl:k=4:=by omega
   have hc:CellsAt w3 tb 0 (qae (sR ts q 4)):=CellsAt.mem hR.mem mh;rw [show tsz Tryz.prog 51=4 from by kernel_rfl];refine LoadA.cells (qag hc 0 Oo) rfl (zw ?_);refine zJ 1 ?_;(conv=>whnf);rw [show tsz Tryz.prog 51=4 from by kernel_rfl];refine LoadA.cells (qag hc 1 Oo) rfl (zw ?_);refine zJ 2 ?_;(conv=>whnf);rw [show tsz Tryz.prog 51=4 from by kernel_rfl];refine LoadA.cells (qag hc 2 Oo) rfl (zw ?_);refine zJ 3 ?_;(conv=>whnf);rw [show tsz Tryz.prog 51=4 from by kernel_rfl];refine LoadA.cells (qag hc 3 Oo) rfl (zw ?_);have hqo:=q6j hok hj;refine NewV.rw hR fun qb w4 hR=>zw ?_;refine StoreA.rwAll (vs:=qae (sQ ts q)) hR rfl (qcy _) fun w5 hR=>zw ?_;refine zl hR.mem 0 ?_;refine zcv (qil (sQ ts q) hqo w5) ?_;rintro v w6 ⟨rfl,he6⟩;have hR:=hR.call he6;(conv=>whnf);refine zC (fun _=>zw ?_) (fun _=>zw ?_)
   ·exact ⟨.inl ⟨⟨q,zmg hq,fun h=>by have:=h.2;omega⟩,rfl⟩,hR.mem.ext⟩
   refine zl hR.mem 0 ?_;refine NewV.rw hR fun nb w7 hR=>zw ?_;refine AppV.rw (m:=1) (news:=qae (sQ ts q)) qdSl qdI qdZ Jk Jk Od hR rfl (fun _=>⟨nb,0,rfl,fun k v hv=>?_⟩) (qcy _) (by rw [show ((Tryz.prog.info? 53).get Jk).bytes=224 from by kernel_rfl];omega) Oo ?_
   ·rw [qd (hR.mem.get mh),Nat.zero_add];rw [List.getElem?_toArray];exact hv
   clear hR;intro C2 c2 w8 hR;have et:is.take (i+1)=is.take i++[q]:=by rw [List.take_add_one,hq];rfl
   have hR:Rw w w8 (.slice C2 (i+1) c2) 53 16 (i+1) (((is.take (i+1)).map (sQ ts)).map qae).flatten []:=by
    have e:(((is.take (i+1)).map (sQ ts)).map qae).flatten=(((is.take i).map (sQ ts)).map qae).flatten++qae (sQ ts q):=by rw [et];simp
    rw [e];exact hR.tail.tail.tail
   refine zu ?_;refine ⟨(i+1,C2,c2),⟨rfl,rfl,rfl,rfl,trivial⟩,⟨by simp only;omega,?_,hR⟩,by simp only;omega⟩;show ∀ q∈is.take (i+1),_;rw [et];intro q' hq'
   rcases List.mem_append.1 hq' with hq' | hq'
   ·exact h2 q' hq'
   ·rw [List.mem_singleton.1 hq'];exact ⟨hj,by omega⟩
 ·obtain rfl:i=is.length:=by omega
  rw [List.take_length] at h2 hR;exact ⟨.inr ⟨h2,C,cc,rfl,hR.own⟩,hR.mem.ext⟩
def LtT (a b:TM):Prop:=a.kind<b.kind∨(a.kind=b.kind∧(slt a.text b.text=true∨(a.text=b.text∧(slt a.type b.type=true∨(a.type=b.type∧slt a.lang b.lang=true)))))
theorem qrg {a b:ByteArray}:txtC a b<0↔slt a b=true:=by
 unfold txtC
 split
 ·simp [*]
 ·split<;>simp [*]
theorem qd4 {a b:ByteArray}:txtC a b=0↔a=b:=by
 unfold txtC
 split
 ·rename_i h
  constructor
  ·intro h2;exact absurd h2 Od
  ·rintro rfl;rw [qfa] at h;cases h
 ·split
  ·rename_i h;simp [qx.1 h]
  ·rename_i h
   constructor
   ·intro h2;exact absurd h2 Od
   ·rintro rfl;exact absurd (qx.2 rfl) h
theorem qpx {a b:TM}:cmpT a b<0↔LtT a b:=by
 unfold cmpT LtT
 split
 ·rename_i h
  split
  ·rename_i h2;exact ⟨fun _=>.inl h2,fun _=>by decide⟩
  ·rename_i h2
   exact ⟨fun h3=>absurd h3 Od,fun h3=>by
    rcases h3 with h3|⟨h3,_⟩
    ·exact absurd h3 h2
    ·exact absurd h3 h⟩
 ·rename_i h
  have h:a.kind=b.kind:=Classical.byContradiction h
  split
  ·rename_i h1
   rw [qrg]
   constructor
   ·intro h2;exact .inr ⟨h,.inl h2⟩
   ·rintro (h2|⟨_,h2|⟨h2,_⟩⟩)
    ·omega
    ·exact h2
    ·exact absurd (qd4.2 h2) h1
  ·rename_i h1
   have h1:a.text=b.text:=qd4.1 (Classical.byContradiction h1)
   split
   ·rename_i h2
    rw [qrg]
    constructor
    ·intro h3;exact .inr ⟨h,.inr ⟨h1,.inl h3⟩⟩
    ·rintro (h3|⟨_,h3|⟨_,h3|⟨h3,_⟩⟩⟩)
     ·omega
     ·rw [h1,qfa] at h3;cases h3
     ·exact h3
     ·exact absurd (qd4.2 h3) h2
   ·rename_i h2
    have h2:a.type=b.type:=qd4.1 (Classical.byContradiction h2);rw [qrg]
    constructor
    ·intro h3;exact .inr ⟨h,.inr ⟨h1,.inr ⟨h2,h3⟩⟩⟩
    ·rintro (h3|⟨_,h3|⟨_,h3|⟨_,h3⟩⟩⟩)
     ·omega
     ·rw [h1,qfa] at h3;cases h3
     ·rw [h2,qfa] at h3;cases h3
     ·exact h3
theorem qpw {a b:TM}:cmpT a b=0↔a=b:=by
 obtain ⟨ak,at_,ay,al⟩:=a;obtain ⟨bk,bt,by_,bl⟩:=b;unfold cmpT;simp only [TM.mk.injEq]
 split
 ·rename_i h
  constructor
  ·intro h2
   split at h2<;>exact absurd h2 Od
  ·rintro ⟨h2,_⟩;exact absurd h2 h
 ·rename_i h
  have h:ak=bk:=Classical.byContradiction h
  split
  ·rename_i h1
   exact ⟨fun h2=>absurd h2 h1,fun h2=>absurd (qd4.2 h2.2.1) h1⟩
  ·rename_i h1
   have h1:at_=bt:=qd4.1 (Classical.byContradiction h1)
   split
   ·rename_i h2
    exact ⟨fun h3=>absurd h3 h2,fun h3=>absurd (qd4.2 h3.2.2.1) h2⟩
   ·rename_i h2
    have h2:ay=by_:=qd4.1 (Classical.byContradiction h2);rw [qd4];exact ⟨fun h3=>⟨h,h1,h2,h3⟩,fun h3=>h3.2.2.2⟩
theorem LtT.irrefl (a:TM):¬ LtT a a:=fun h=>by
 have h1:=qpx.2 h;have h2:cmpT a a=0:=qpw.2 rfl;omega
theorem LtT.ne {a b:TM} (h:LtT a b):a≠b:=by
 rintro rfl;exact LtT.irrefl _ h
theorem LtT.trans {a b c:TM} (h:LtT a b) (g:LtT b c):LtT a c:=by
 unfold LtT at *
 rcases h with h|⟨h,h1⟩
 ·rcases g with g|⟨g,_⟩
  ·exact .inl Oo
  ·exact .inl Oo
 ·rcases g with g|⟨g,g1⟩
  ·exact .inl Oo
  ·refine .inr ⟨h.trans g,?_⟩
   rcases h1 with h1|⟨h1,h2⟩
   ·rcases g1 with g1|⟨g1,_⟩
    ·exact .inl (qki h1 g1)
    ·exact .inl (by rw [← g1];exact h1)
   ·rcases g1 with g1|⟨g1,g2⟩
    ·exact .inl (by rw [h1];exact g1)
    ·refine .inr ⟨h1.trans g1,?_⟩
     rcases h2 with h2|⟨h2,h3⟩
     ·rcases g2 with g2|⟨g2,_⟩
      ·exact .inl (qki h2 g2)
      ·exact .inl (by rw [← g2];exact h2)
     ·rcases g2 with g2|⟨g2,g3⟩
      ·exact .inl (by rw [h2];exact g2)
      ·exact .inr ⟨h2.trans g2,qki h3 g3⟩
theorem LtT.tri (a b:TM):LtT a b∨a=b∨LtT b a:=by
 unfold LtT
 rcases Int.lt_trichotomy a.kind b.kind with h|h|h
 ·exact .inl (.inl h)
 ·rcases qnl a.text b.text with h1|h1|h1
  ·exact .inl (.inr ⟨h,.inl h1⟩)
  ·rcases qnl a.type b.type with h2|h2|h2
   ·exact .inl (.inr ⟨h,.inr ⟨h1,.inl h2⟩⟩)
   ·rcases qnl a.lang b.lang with h3|h3|h3
    ·exact .inl (.inr ⟨h,.inr ⟨h1,.inr ⟨h2,h3⟩⟩⟩)
    ·refine .inr (.inl ?_);cases a;cases b;simp_all
    ·exact .inr (.inr (.inr ⟨h.symm,.inr ⟨h1.symm,.inr ⟨h2.symm,h3⟩⟩⟩))
   ·exact .inr (.inr (.inr ⟨h.symm,.inr ⟨h1.symm,.inl h2⟩⟩))
  ·exact .inr (.inr (.inr ⟨h.symm,.inl h1⟩))
 ·exact .inr (.inr (.inl h))
def RiseT (l:List TM):Prop:=l.Pairwise LtT
def AheadT (out l:List TM):Prop:=∀ z,out.getLast?=some z→∀ x∈l,z=x∨LtT z x
theorem RiseT.lt_last {out:List TM} (h:RiseT out) {z:TM} (hz:out.getLast?=some z):∀ x∈out,x=z∨LtT x z:=by
 obtain ⟨ys,rfl⟩:=List.getLast?_eq_some_iff.1 hz;intro x hx
 rcases List.mem_append.1 hx with hx|hx
 ·exact .inr ((List.pairwise_append.1 h).2.2 x hx z (List.mem_singleton.2 rfl))
 ·exact .inl (List.mem_singleton.1 hx)
theorem qe6 {out:List TM} {x:TM} (h:RiseT out) (ha:AheadT out [x]):RiseT (qam out x)∧(∀ y,y∈qam out x↔y∈out∨y=x)∧(qam out x).getLast?=some x:=by
 unfold qam
 split
 ·rename_i z hz
  rcases ha z hz x (List.mem_singleton.2 rfl) with rfl|hlt
  ·rw [qgq.2 rfl];have hm:z∈out:=List.mem_of_getLast? hz;exact ⟨h,fun y=>⟨.inl,fun g=>by rcases g with g|rfl<;>assumption⟩,hz⟩
  ·have:qbe z x=false:=Bool.eq_false_iff.2 fun e=>hlt.ne (qgq.1 e)
   rw [this];refine ⟨?_,fun y=>by simp,by simp⟩;refine List.pairwise_append.2 ⟨h,List.pairwise_singleton _ _,fun a hA b hB=>?_⟩;rw [List.mem_singleton.1 hB]
   rcases h.lt_last hz a hA with rfl|g
   ·exact hlt
   ·exact g.trans hlt
 ·rename_i hz
  have:out=[]:=List.getLast?_eq_none_iff.1 hz;subst this;exact ⟨List.pairwise_singleton _ _,fun y=>by simp,rfl⟩
theorem AheadT.next {out a:List TM} {x:TM} (hr:RiseT (x::a)) (hl:(qam out x).getLast?=some x):AheadT (qam out x) a:=fun z hz y hy=>by
 rw [hl] at hz;cases hz;exact .inr ((List.pairwise_cons.1 hr).1 y hy)
theorem qeo:∀ (f:Nat) (a b out:List TM),a.length+b.length≤f→RiseT a→RiseT b→RiseT out→AheadT out a→AheadT out b→RiseT (mrgN f a b out)∧∀ y,y∈mrgN f a b out↔y∈out∨y∈a∨y∈b
 | 0,a,b,out,hf,_,_,ho,_,_=>by
  have ea:a=[]:=List.eq_nil_of_length_eq_zero Oo;have eb:b=[]:=List.eq_nil_of_length_eq_zero Oo;subst ea eb;exact ⟨ho,fun y=>by simp [mrgN]⟩
 | f+1,[],[],out,_,_,_,ho,_,_=>⟨ho,fun y=>by simp [mrgN]⟩
 | f+1,x::a,[],out,hf,ha,hb,ho,h1,h2=>by
  obtain ⟨p1,p2,p3⟩:=qe6 ho (x:=x) fun z hz y hy=>h1 z hz y (by rw [List.mem_singleton.1 hy];exact List.mem_cons_self ..);obtain ⟨r1,r2⟩:=qeo f a [] (qam out x) (by simpa using hf) (List.pairwise_cons.1 ha).2 hb p1 (.next ha p3) (fun z _ y hy=>by cases hy);refine ⟨r1,fun y=>?_⟩;rw [mrgN,r2,p2];simp [or_assoc]
 | f+1,[],x::b,out,hf,ha,hb,ho,h1,h2=>by
  obtain ⟨p1,p2,p3⟩:=qe6 ho (x:=x) fun z hz y hy=>h2 z hz y (by rw [List.mem_singleton.1 hy];exact List.mem_cons_self ..);obtain ⟨r1,r2⟩:=qeo f [] b (qam out x) (by simpa using hf) ha (List.pairwise_cons.1 hb).2 p1 (fun z _ y hy=>by cases hy) (.next hb p3);refine ⟨r1,fun y=>?_⟩;rw [mrgN,r2,p2];simp [or_assoc]
 | f+1,x::a,u::b,out,hf,ha,hb,ho,h1,h2=>by
  have hx:AheadT out [x]:=fun z hz y hy=>h1 z hz y (by rw [List.mem_singleton.1 hy];exact List.mem_cons_self ..)
  have hu:AheadT out [u]:=fun z hz y hy=>h2 z hz y (by rw [List.mem_singleton.1 hy];exact List.mem_cons_self ..)
  rw [mrgN]
  split
  ·rename_i hle
   obtain ⟨p1,p2,p3⟩:=qe6 ho hx;have hxu:x=u∨LtT x u:=by
    rcases Int.lt_or_eq_of_le hle with h|h
    ·exact .inr (qpx.1 h)
    ·exact .inl (qpw.1 h)
   have hah:AheadT (qam out x) (u::b):=fun z hz y hy=>by
    rw [p3] at hz;cases hz
    rcases List.mem_cons.1 hy with rfl|hy
    ·exact hxu
    ·have:=(List.pairwise_cons.1 hb).1 y hy
     rcases hxu with rfl|h
     ·exact .inr this
     ·exact .inr (h.trans this)
   obtain ⟨r1,r2⟩:=qeo f a (u::b) (qam out x) (by simp only [List.length_cons] at hf ⊢;omega) (List.pairwise_cons.1 ha).2 hb p1 (.next ha p3) hah;refine ⟨r1,fun y=>?_⟩;rw [r2,p2];simp only [List.mem_cons,or_assoc]
  ·rename_i hle
   obtain ⟨p1,p2,p3⟩:=qe6 ho hu;have hux:LtT u x:=by
    rcases LtT.tri x u with h|h|h
    ·exact absurd (Int.le_of_lt (qpx.2 h)) hle
    ·exact absurd (Int.le_of_eq (qpw.2 h)) hle
    ·exact h
   have hah:AheadT (qam out u) (x::a):=fun z hz y hy=>by
    rw [p3] at hz;cases hz
    rcases List.mem_cons.1 hy with rfl|hy
    ·exact .inr hux
    ·exact .inr (hux.trans ((List.pairwise_cons.1 ha).1 y hy))
   obtain ⟨r1,r2⟩:=qeo f (x::a) b (qam out u) (by simp only [List.length_cons] at hf ⊢;omega) ha (List.pairwise_cons.1 hb).2 p1 hah (.next hb p3);refine ⟨r1,fun y=>?_⟩;rw [r2,p2];simp only [List.mem_cons]
   constructor
   ·rintro ((h|h)|(h|h)|h)<;>simp [h]
   ·rintro (h|(h|h)|(h|h))<;>simp [h]
theorem qko:∀ (f:Nat) (l:List TM),l.length≤f→RiseT (tmsN f l)∧∀ y,y∈tmsN f l↔y∈l
 | 0,l,h=>by
  have:l=[]:=List.eq_nil_of_length_eq_zero Oo;subst this;exact ⟨List.Pairwise.nil,fun y=>Iff.rfl⟩
 | f+1,l,h=>by
  rw [tmsN]
  split
  ·rename_i h2
   refine ⟨?_,fun y=>Iff.rfl⟩
   match l,h2 with
   | [],_=>exact List.Pairwise.nil
   | [x],_=>exact List.pairwise_singleton _ _
  ·rename_i h2
   obtain ⟨a1,a2⟩:=qko f (l.take (l.length/2)) (by rw [List.length_take];omega);obtain ⟨b1,b2⟩:=qko f (l.drop (l.length/2)) (by rw [zld];omega);obtain ⟨r1,r2⟩:=qeo _ _ _ [] znr a1 b1 List.Pairwise.nil (fun z hz=>by cases hz) (fun z hz=>by cases hz);refine ⟨r1,fun y=>?_⟩;rw [r2,a2,b2,← List.mem_append,List.take_append_drop];simp
theorem qge {α:Type}:∀ {a b:List α},a.Pairwise (·≠·)→(∀ x∈a,x∈b)→a.length≤b.length
 | [],_,_,_=>Nat.zero_le _
 | x::a,b,h,hs=>by
  obtain ⟨b1,b2,rfl⟩:=List.append_of_mem (hs x mh);have h1:=List.pairwise_cons.1 h;have:=qge (a:=a) (b:=b1++b2) h1.2 fun y hy=>by
   have hy2:=hs y (zmc hy)
   rcases List.mem_append.1 hy2 with g|g
   ·exact List.mem_append_left _ g
   ·rcases List.mem_cons.1 g with g|g
    ·exact absurd g.symm (h1.1 y hy)
    ·exact List.mem_append_right _ g
  simp only [zla,List.length_cons] at this ⊢;omega
theorem qxm {α:Type} {a b:List α} (ha:a.Pairwise (·≠·)) (hs:∀ x∈a,x∈b) (hl:b.length≤a.length):∀ y∈b,y∈a:=by
 intro y hy;apply Classical.byContradiction;intro hn;have:=qge (a:=y::a) (b:=b) (List.pairwise_cons.2 ⟨fun x hx e=>hn (by rw [e];exact hx),ha⟩) fun x hx=>by
  rcases List.mem_cons.1 hx with rfl|hx
  ·exact hy
  ·exact hs x hx
 simp only [List.length_cons] at this;omega
theorem qja {m:LB}:∀ {i:Nat},(∀ j,j<i→(dnF m j).2=0)→DSt m i (dSt m i).1 (dSt m i).2∧(0<i→i≤dN m→dGet m (i-1)=some (dSt m i).1)
 | 0,_=>⟨⟨Nat.zero_le _,fun j h=>by cases h⟩,fun h=>by omega⟩
 | i+1,h=>by
  obtain ⟨ih,_⟩:=qja (m:=m) (i:=i) fun j hj=>h j Oo;have hi:=h i Oo;obtain ⟨last,p⟩:LB × Nat:=dSt m i;have hd:dSt m i=((dSt m i).1,(dSt m i).2):=rfl;have hp:i%16=0→qy m (i/16)=(dSt m i).2:=fun h1=>Classical.byContradiction fun h2=>by
   rw [qf3 hd h1 h2] at hi;cases hi
  have he:(entG ((qe m).drop (dSt m i).2) (decide (i%16=0)) (dSt m i).1).2.2=0:=Classical.byContradiction fun h2=>by
   rw [qld hd rfl hp h2] at hi;exact h2 hi
  have hs:=ih.step hp rfl he;have e:=qdu hd (first:=decide (i%16=0)) rfl;rw [e];exact ⟨hs,fun _ h3=>hs.get Oo⟩
theorem qn8 {m:LB} (h:(doE m).2=0) {j:Nat} (h0:0<j) (hj:j<dN m) {s t:LB} (hs:dGet m (j-1)=some s) (ht:dGet m j=some t):s<t:=by
 obtain ⟨_,_,hf,_⟩:=qe1 h;have h1:=(qja (m:=m) (i:=j) fun k hk=>hf k Oo).2 h0 Oo;have h2:=(qja (m:=m) (i:=j+1) fun k hk=>hf k Oo).2 Oo Oo;rw [Nat.add_sub_cancel] at h2;rw [hs] at h1;rw [ht] at h2;cases h1;cases h2;have hj2:=hf j hj;have hd:dSt m j=((dSt m j).1,(dSt m j).2):=rfl;have hp:j%16=0→qy m (j/16)=(dSt m j).2:=fun h1=>Classical.byContradiction fun h2=>by
  rw [qf3 hd h1 h2] at hj2;cases hj2
 have he:(entG ((qe m).drop (dSt m j).2) (decide (j%16=0)) (dSt m j).1).2.2=0:=Classical.byContradiction fun h2=>by
  rw [qld hd rfl hp h2] at hj2;exact h2 hj2
 have hl:leL (dSt m (j+1)).1 (dSt m j).1≠true:=fun h3=>by
  rw [qdu hd (first:=decide (j%16=0)) rfl] at h3;rw [qoa hd rfl hp he h0 h3] at hj2;cases hj2
 simp only [leL,ne_eq,Bool.or_eq_true,not_or] at hl
 rcases qnl ⟨(dSt m (j+1)).1.toArray⟩ ⟨(dSt m j).1.toArray⟩ with h3|h3|h3
 ·exact absurd h3 hl.1
 ·exact absurd (qx.2 h3) hl.2
 ·exact qkh.1 h3
theorem qp0 {m:LB} (h:(doE m).2=0):∀ {d j:Nat} {s t:LB},j+1+d<dN m→dGet m j=some s→dGet m (j+1+d)=some t→s<t
 | 0,j,s,t,h1,h2,h3=>qn8 h Oo h1 (by simpa using h2) h3
 | d+1,j,s,t,h1,h2,h3=>by
  obtain ⟨_,_,hf,_⟩:=qe1 h;have h4:=(qja (m:=m) (i:=j+1+d+1) fun k hk=>hf k Oo).2 Oo Oo;rw [Nat.add_sub_cancel] at h4;have h5:=qp0 h Oo h2 h4;have h6:=qn8 h (j:=j+1+(d+1)) Oo h1 (by rw [show j+1+(d+1)-1=j+1+d by omega];exact h4) h3;exact List.lt_trans h5 h6
theorem qzy {m:LB} (h:(doE m).2=0) {i j:Nat} {s:LB} (hi:i<dN m) (hj:j<dN m) (h1:dGet m i=some s) (h2:dGet m j=some s):i=j:=by
 rcases Nat.lt_trichotomy i j with g|g|g
 ·obtain ⟨d,rfl⟩:∃ d,j=i+1+d:=⟨j-(i+1),by omega⟩
  exact absurd (qp0 h hj h1 h2) (List.lt_irrefl _)
 ·exact g
 ·obtain ⟨d,rfl⟩:∃ d,i=j+1+d:=⟨i-(j+1),by omega⟩
  exact absurd (qp0 h hi h2 h1) (List.lt_irrefl _)
theorem qum {Q:Q4} (h:qck Q=0) {k:Nat} (hk:k<3) (h0:(Q.at k).kind=0):False:=by
 have hc:canB k (Q.at k)=false:=by
  unfold canB
  rcases (show k=0∨k=1∨k=2 by omega) with rfl|rfl|rfl<;>simp [h0]
 have e:qE k (Q.at k)=70:=by rw [qE,if_pos hc]
 have hz:∀ x∈(List.range 4).map fun k=>qE k (Q.at k),x=0:=by
  unfold qck at h;generalize (List.range 4).map (fun k=>qE k (Q.at k))=L at h;intro x hx
  induction L with
  | nil=>cases hx
  | cons y L ih=>
   rw [qh4] at h
   split at h
   ·rename_i hy;exact absurd h hy
   ·rename_i hy
    rcases List.mem_cons.1 hx with rfl|hx
    ·omega
    ·exact ih h hx
 have:=hz (qE k (Q.at k)) (List.mem_map.2 ⟨k,List.mem_range.2 Oo,rfl⟩);omega
theorem qkq {l:LB} {i:Nat} (h:i<vTot l 3):∃ k j,k<3∧j<dN (qq l k)∧i=vTot l k+j:=by
 have h3:vTot l 3=vTot l 2+dN (qq l 2):=rfl;have h2:vTot l 2=vTot l 1+dN (qq l 1):=rfl;have h1:vTot l 1=vTot l 0+dN (qq l 0):=rfl;have h0:vTot l 0=0:=rfl
 by_cases g2:vTot l 2≤i
 ·exact ⟨2,i-vTot l 2,by omega,by omega,by omega⟩
 ·by_cases g1:vTot l 1≤i
  ·exact ⟨1,i-vTot l 1,by omega,by omega,by omega⟩
  ·exact ⟨0,i,by omega,by omega,by omega⟩
section
variable {l:LB} {ts:List TM} (hV:VTm l 3 0 ts) (hd:∀ k,k<3→(doE (qq l k)).2=0)
include hV hd
theorem qpk {i j:Nat} {t:TM} (hi:ts[i]?=some t) (hj:ts[j]?=some t):i=j:=by
 have hlen:ts.length=vTot l 3:=hV.len;obtain ⟨k1,j1,a1,a2,a3⟩:=qkq (l:=l) (i:=i) (by have:=(List.getElem?_eq_some_iff.1 hi).1;omega);obtain ⟨k2,j2,b1,b2,b3⟩:=qkq (l:=l) (i:=j) (by have:=(List.getElem?_eq_some_iff.1 hj).1;omega);obtain ⟨s1,t1,c1,_,c2,c3⟩:=hV.at_ k1 j1 (.inl ⟨a1,a2⟩);obtain ⟨s2,t2,d1,_,d2,d3⟩:=hV.at_ k2 j2 (.inl ⟨b1,b2⟩);rw [← a3,hi] at c3;rw [← b3,hj] at d3;cases c3;cases d3;have hk:k1=k2:=by have h1:=c2.kind;have h2:=d2.kind;omega
 subst hk;have hs:s1=s2:=c2.entry.symm.trans d2.entry;subst hs;have:=qzy (hd k1 a1) a2 b2 c1 d1;omega
theorem qrb:ts.Pairwise (·≠·):=by
 rw [List.pairwise_iff_getElem];intro i j hi hj hij e;have:=qpk hV hd (i:=i) (j:=j) (zge hi) (by rw [e];exact zge hj);omega
omit hd in
theorem qvd {t:TM} (h:t∈ts):t.kind≠0:=by
 have hlen:ts.length=vTot l 3:=hV.len;obtain ⟨i,hi,rfl⟩:=List.getElem_of_mem h;obtain ⟨k1,j1,a1,a2,a3⟩:=qkq (l:=l) (i:=i) Oo;obtain ⟨s1,t1,_,_,c2,c3⟩:=hV.at_ k1 j1 (.inl ⟨a1,a2⟩);rw [← a3,zge hi] at c3;cases c3;have:=c2.kind;omega
theorem q1p {is:List (Nat→Nat)} (hq:∀ q∈is,(∀ j,j<4→q j≤ts.length)∧qck (sQ ts q)=0) :
  (tmsN (trms (is.map (sQ ts))).length (trms (is.map (sQ ts)))).length=ts.length↔∀ id,1≤id→id≤ts.length→∃ q∈is,∃ j,j<4∧q j=id:=by
 obtain ⟨r1,r2⟩:=qko _ (trms (is.map (sQ ts))) znr;have hnd:(tmsN (trms (is.map (sQ ts))).length (trms (is.map (sQ ts)))).Pairwise (·≠·):=r1.imp fun h=>h.ne
 have hT:∀ q∈is,∀ j,j<4→q j≠0→sT ts (q j)∈ts∧ts[q j-1]?=some (sT ts (q j)):=fun q hq1 j hj h0=>by
  have h1:=(hq q hq1).1 j hj;have h2:ts[q j-1]?=some (sT ts (q j)):=by
   rw [sT,if_neg h0,List.getD_eq_getElem?_getD,zge Oo];rfl
  exact ⟨zmg h2,h2⟩
 have hk:∀ q∈is,∀ j,1≤j→j<4→q j≠0:=fun q hq1 j h1 h4 h0=>by
  have h2:=(hq q hq1).2;have h3:sT ts (q j)=zTM:=by rw [sT,if_pos h0]
  exact qum h2 (k:=j-1) Oo (by
   have:(sQ ts q).at (j-1)=sT ts (q j):=by
    rcases (show j=1∨j=2∨j=3 by omega) with rfl|rfl|rfl<;>rfl
   rw [this,h3];rfl)
 have hmem:∀ t,t∈trms (is.map (sQ ts))↔∃ q∈is,∃ j,j<4∧q j≠0∧t=sT ts (q j):=fun t=>by
  unfold trms;rw [List.mem_flatten]
  constructor
  ·rintro ⟨x,hx,ht⟩;obtain ⟨Q,hQ,rfl⟩:=List.mem_map.1 hx;obtain ⟨q,hq1,rfl⟩:=List.mem_map.1 hQ;unfold trQ at ht
   rcases List.mem_append.1 ht with ht|ht
   ·simp only [List.mem_cons,List.not_mem_nil,or_false] at ht
    rcases ht with rfl|rfl|rfl
    ·exact ⟨q,hq1,1,by omega,hk q hq1 1 Oo Oo,rfl⟩
    ·exact ⟨q,hq1,2,by omega,hk q hq1 2 Oo Oo,rfl⟩
    ·exact ⟨q,hq1,3,by omega,hk q hq1 3 Oo Oo,rfl⟩
   ·split at ht
    ·cases ht
    ·rename_i hg
     rw [List.mem_singleton] at ht;refine ⟨q,hq1,0,by omega,fun h0=>hg ?_,ht⟩;show (sT ts (q 0)).kind=0;rw [sT,if_pos h0];rfl
  ·rintro ⟨q,hq1,j,hj,h0,rfl⟩;refine ⟨trQ (sQ ts q),List.mem_map.2 ⟨_,List.mem_map.2 ⟨q,hq1,rfl⟩,rfl⟩,?_⟩;unfold trQ
   rcases (show j=0∨j=1∨j=2∨j=3 by omega) with rfl|rfl|rfl|rfl
   ·have hg:(sQ ts q).g.kind≠0:=qvd hV (hT q hq1 0 Oo h0).1;rw [if_neg hg];exact List.mem_append_right _ (List.mem_singleton.2 rfl)
   ·exact List.mem_append_left _ (by simp [sQ])
   ·exact List.mem_append_left _ (by simp [sQ])
   ·exact List.mem_append_left _ (by simp [sQ])
 have hsub:∀ t∈tmsN (trms (is.map (sQ ts))).length (trms (is.map (sQ ts))),t∈ts:=fun t ht=>by
  obtain ⟨q,hq1,j,hj,h0,rfl⟩:=(hmem t).1 ((r2 t).1 ht);exact (hT q hq1 j hj h0).1
 constructor
 ·intro he id h1 h2;have hid:ts[id-1]' Oo∈tmsN (trms (is.map (sQ ts))).length (trms (is.map (sQ ts))):=qxm hnd hsub Oo _ (List.getElem_mem _);obtain ⟨q,hq1,j,hj,h0,e⟩:=(hmem _).1 ((r2 _).1 hid);refine ⟨q,hq1,j,hj,?_⟩;have:=qpk hV hd (hT q hq1 j hj h0).2 (by rw [← e];exact zge Oo);omega
 ·intro h;refine Nat.le_antisymm (qge hnd hsub) (qge (qrb hV hd) fun t ht=>?_);obtain ⟨i,hi,rfl⟩:=List.getElem_of_mem ht;obtain ⟨q,hq1,j,hj,e⟩:=h (i+1) Oo Oo;refine (r2 _).2 ((hmem _).2 ⟨q,hq1,j,hj,by omega,?_⟩);have h2:=(hT q hq1 j hj Oo).2;rw [e,Nat.add_sub_cancel,zge hi] at h2;rw [e];exact Option.some.inj h2
end
theorem q1s {l:LB} {k:Nat} (h:(vcE l k).2=0):tVec l k=true∧(voE (qi l k)).2=0∧(0<vNum l k→bitN ((qi l k).drop 8) (vNum l k-1)=1):=by
 by_cases h1:tVec l k=true
 ·by_cases h2:(voE (qi l k)).2=0
  ·refine ⟨h1,h2,fun h3=>Classical.byContradiction fun h4=>?_⟩;rw [qnv h1 h2 h3 h4] at h;exact absurd (show (180:Nat)=0 from h) Od
  ·rw [qte h1 h2] at h;exact absurd h h2
 ·rw [qpo (by simpa using h1)] at h;exact absurd (show (180:Nat)=0 from h) Od
theorem LvlV.of {l:LB} {k:Nat} (h:(vcE l k).2=0):LvlV l k:=by
 obtain ⟨h1,h2,h3⟩:=q1s h;simp only [tVec,Bool.and_eq_true,decide_eq_true_eq] at h1;exact ⟨VecOk.voE h1.1.1 h2,h1.1.2,h1.2,h3⟩
theorem qre {l:LB} (h:(toE l).2=0):∀ k,1≤k→k≤3→LvlV l k:=fun k h1 h3=>by
 obtain ⟨_,h4⟩:=qs5 h;obtain ⟨_,_,h5,_⟩:=q0o (h4 k Oo);exact LvlV.of (h5.resolve_left Oo)
def dTxt (m:LB) (i:Nat):LB:=(blk (qe m) (qy m (i/16)) (i%16)).1
theorem qwf {m:LB} (h:(doE m).2=0) {i:Nat} (hi:i<dN m):(blk (qe m) (qy m (i/16)) (i%16)).2.2=0∧dGet m i=some (dTxt m i):=by
 obtain ⟨_,_,hf,_⟩:=qe1 h;have h1:=(qja (m:=m) (i:=i+1) fun k hk=>hf k Oo).2 Oo Oo;rw [Nat.add_sub_cancel,dGet,if_pos hi] at h1
 split at h1
 ·rename_i h2
  refine ⟨h2,?_⟩;rw [dGet,if_pos hi,if_pos h2,dTxt]
 ·cases h1
theorem BEnd.full {m:LB} (h:(doE m).2=0) (k:Nat):BEnd m k (min 16 (dN m-16*k)):=by
 refine ⟨fun j hj=>⟨by omega,?_⟩,by omega,fun h1 h2=>by omega⟩;have:=(qwf h (i:=16*k+j) Oo).1
 rwa [show (16*k+j)/16=k by omega,show (16*k+j)%16=j by omega] at this
theorem qzj (m:LB) (k j:Nat) (hj:j<16):bRow m k j=[ii (16*k+j:Nat),.string ⟨(dTxt m (16*k+j)).toArray⟩]:=by
 rw [bRow,dTxt,show (16*k+j)/16=k by omega,show (16*k+j)%16=j by omega]
namespace V
theorem Rw.permL {w0 w:World} {v:Value} {e:TypeId} {size n:Nat} {xs:List Value} {L L':List (Nat × Obj)} (h:Rw w0 w v e size n xs L) (hp:L'.Perm L):Rw w0 w v e size n xs L':=⟨h.mem.perm hp,h.own,fun x hx=>h.apart x (hp.mem_iff.1 hx)⟩
theorem Rw.subL {w0 w:World} {v:Value} {e:TypeId} {size n:Nat} {xs:List Value} {L L':List (Nat × Obj)} (h:Rw w0 w v e size n xs L) (hs:L'.Sublist L):Rw w0 w v e size n xs L':=⟨h.mem.sub hs,h.own,fun x hx=>h.apart x (hs.subset hx)⟩
theorem Carr.rw {σ:Type} {w0:World} {e:TypeId} {size:Nat} (A:σ→Prop) (v:σ→Value) (n:σ→Nat) (xs:σ→List Value) (L:σ→List (Nat × Obj)):Carr fun X w=>∃ s,A s∧Rw w0 w (v s) e size (n s) (xs s) (X++L s):=by
 refine ⟨?_,?_,?_,?_,?_,?_⟩
 ·rintro X w w' ⟨s,hs,hm⟩ he;exact ⟨s,hs,hm.call he⟩
 ·rintro X w b o ⟨s,hs,hm⟩ hx;exact hm.mem.get (List.mem_append_left _ hx)
 ·rintro X w o ⟨s,hs,hm⟩;exact ⟨s,hs,hm.newBlk rfl rfl⟩
 ·rintro X w b o o' ⟨s,hs,hm⟩;exact ⟨s,hs,hm.setO (i:=0) o' rfl rfl⟩
 ·rintro X w x ⟨s,hs,hm⟩;exact ⟨s,hs,hm.subL (List.sublist_cons_self ..)⟩
 ·rintro X Y w ⟨s,hs,hm⟩ hp;exact ⟨s,hs,hm.permL (hp.symm.append_right _)⟩
end V
def tAgg (l:LB) (i:Nat):Value:=.agg #[ii (tNum l i 0),ii (tNum l i 1),ii (tNum l i 2),ii (tNum l i 3)]
def tRow (l:LB) (i:Nat):List Value:=[ii i,tAgg l i]
def TreΦ (b:Nat) (l:LB) (b1 b2:Nat) (w:World):Prop:=TreeAt w b l∧w.cell? ⟨b1,0,none⟩=some (ii 0)∧w.cell? ⟨b2,0,none⟩=some (pp b)
theorem qpi (b:Nat) (l:LB) (b1 b2:Nat) (hok:∀ i,i<vNum l 3→tOk l i=true) :
  SeqV Tryz.prog 50 [pp b1,pp b2] ((List.range (vNum l 3)).map (tRow l)) (TreΦ b l b1 b2):=by
 intro l' I Ix w hI sI sIx h0 hy;obtain ⟨h,h1,h2⟩:=hI 0 w h0;have hn:=h.n 3 Oo;have hxs:((List.range (vNum l 3)).map (tRow l)).length=vNum l 3:=by simp
 refine gvW Jk Tryz.func50 rfl Tryz.ntmps50 rfl (zw ?_);refine LoadV.of h1 (zw ?_);refine V.Fall.max2 rfl rfl rfl fun m hm=>?_;obtain rfl:m=0:=by omega
 (conv=>whnf);refine qt5 (fun i:Nat=>[(0,.func (.yield l') #[] #[]),(1,pp b1),(2,pp b2),(4,ii i)])
  (fun i w'=>i≤vNum l 3∧I i w') (fun i=>vNum l 3-i) 0 ⟨rfl,rfl,rfl,rfl,trivial⟩ ⟨by omega,h0⟩ ?_
 rintro i w1 ρ' ⟨hi,hIi⟩;obtain ⟨hD1,hc1,hc2⟩:=hI i w1 hIi;have hend:i=vNum l 3→I ((List.range (vNum l 3)).map (tRow l)).length w1:=fun e=>by rw [hxs,← e];exact hIi
 (conv=>whnf);refine LoadV.of hc2 (zw ?_);refine zcv (qiy b l w1 hD1) ?_;rintro v w2 ⟨rfl,rfl⟩;(conv=>whnf);refine zC (fun _=>zw ?_) (fun _=>zw ?_)
 ·refine LoadV.of hc2 (zw ?_);refine zcv (qs4 b l i w2 hD1 Oo) ?_;rintro v w3 ⟨rfl,he3⟩;have hlt:i<vNum l 3:=by omega
  rw [qew,if_pos ⟨hlt,hok i hlt⟩];(conv=>whnf);refine znm (Mem.nil w3) fun b5 w4 hm=>zw ?_;refine zS hm 0 fun w5 hm=>zu ?_;refine zl hm 0 ?_;refine zv ?_;refine YieldV.mono (hy i (tRow l i) w5 ?_ (sI _ _ _ hIi (he3.trans hm.ext))) ?_
  ·rw [List.getElem?_map,List.getElem?_range hlt,Option.map_some]
  rintro v w6 (⟨rfl,hI6⟩|⟨rfl,hX⟩)
  ·refine zu ?_;refine ⟨rfl,i+1,⟨rfl,rfl,rfl,?_,trivial⟩,⟨by omega,hI6⟩,by omega⟩;show ii _=ii _
   congr 1
  ·refine zu ?_;exact .inr ⟨i,by rw [hxs];exact hlt,hX⟩
 ·exact .inl (hend Oo)
theorem qph (b:Nat) (w:World):Gv Tryz.prog 26 [pp b,ii 0] w fun r w'=>
  ∃ b1 b2,r=.func (.func 50) #[] #[pp b1,pp b2]∧Mem w w' [(b1,.cells #[ii 0] 3),(b2,.cells #[pp b] 47)]:=by
 refine ze Tryz.func26 Tryz.ntmps26 ?_;refine znm (Mem.nil w) fun b1 w1 hm=>zw ?_;refine znm hm fun b2 w2 hm=>zw ?_;exact ⟨b2,b1,rfl,hm⟩
open Go.RowKit
namespace V
section
variable {P:Program} {n:Nat} {r:Option Nat}
theorem q35 {row:String} {args:Array Value} {w:World} {R:Value→World→Prop} (h:Rows P row args w R):RowsIn (Fr r) 0 P row args w R:=fun c cs _=>by
 obtain ⟨v,w',hr,s⟩:=h c cs;exact ⟨v,w',hr,(stepsIn_wide.2 s:StepsIn (Machine.fenced P Fence.wide) P _ _)⟩
theorem qvk {o:Oper} (hnd:r=none∨∀ c,o.op≠.defer c) {a:Act} {ds:List Deferred} {w:World} {K K2:Act→World→Prop} {Q Q2:Exit→Act→World→Prop} (hQ:∀ e a w,Q e a w→e=.normal)
  (hK:∀ a w,K a w→K2 { a with defers:=a.defers++ds } w) (h:o.wp P a w K Q):o.wpIn (Fr r) 0 P { a with defers:=a.defers++ds } w K2 Q2:=by
 refine ⟨fun _ _=>trivial,?_⟩;have he:({ a with defers:=a.defers++ds }:Act).eval=a.eval:=by funext x;cases x<;>rfl
 have hs:o.semAt (Fr r).round a.eval=execOp a.eval o:=by
  rcases hnd with rfl|hnd
  ·exact Oper.semAt_none _ _
  ·exact Oper.semAt_eq _ _ _ hnd
 rw [he,hs];unfold Oper.wp at h;have hp:∀ v,({ a with defers:=a.defers++ds }:Act).put o.dst v={ a.put o.dst v with defers:=(a.put o.dst v).defers++ds }:=fun v=>by cases o.dst<;>rfl
 generalize (execOp a.eval o).run P w=res at h;cases res with
 | ok nx w'=>
  cases nx with
  | value v=>show K2 _ _;rw [hp];exact hK _ _ h
  | skip=>show K2 _ _;rw [hp];exact hK _ _ h
  | defer d=>
   have h1:=hK _ _ h;show K2 _ _;cases hd:o.dst with
   | none=>rw [hd] at h1;exact h1
   | some t=>rw [hd] at h1;exact h1
  | enter f args=>
   refine ⟨fun h=>by simp [Fr] at h,qcr.2 (Calls.mono h fun e w'' he=>?_)⟩;cases e with
   | returned v=>dsimp only at he ⊢;rw [hp];exact hK _ _ he
   | panicked ch=>have:=hQ _ _ _ he;cases this
   | outgrown=>obtain ⟨a',w',hq⟩:=he;have:=hQ _ _ _ hq;cases this
  | row row args=>
   refine ⟨fun h=>by simp [Fr] at h,q35 (Rows.mono h fun v w'' he=>?_)⟩;rw [hp];exact hK _ _ he
  | _=>exact h.elim
 | halt x w'=>
  cases x with
  | panic v=>have:=hQ _ _ _ h;cases this
  | _=>exact h.elim
def q3n (ops:List Oper):Bool:=ops.all fun o=>match o.op with
 | .defer _=>false
 | _=>true
theorem q0t {ops:List Oper} (h:q3n ops=true) {o:Oper} (ho:o∈ops):∀ c,o.op≠.defer c:=by
 intro c e;have:=List.all_eq_true.1 h o ho;rw [e] at this;cases this
theorem qrs {ops:Array Oper} (hnd:r=none∨q3n ops.toList=true) {ds:List Deferred} {Q Q2:Exit→Act→World→Prop} (hQ:∀ e a w,Q e a w→e=.normal)
  (hk:∀ a w,Q .normal a w→Q2 .normal { a with defers:=a.defers++ds } w):∀ (fuel:Nat) (listed:Array Bool) (a:Act) (w:World),wpAny P .any ops Q fuel listed a w→
  wpAnyIn (Fr r) 0 P .any ops Q2 fuel listed { a with defers:=a.defers++ds } w
 | 0,_,_,_,h=>⟨h.1,hk _ _ h.2⟩
 | fuel+1,listed,a,w,h=>by
  refine ⟨fun hr=>hk _ _ (h.1 hr),fun i hi=>?_⟩;have h1:=h.2 i hi;unfold wpOp at h1;unfold wpOpIn;cases ho:ops[i]? with
  | none=>rw [ho] at h1;exact qrs hnd hQ hk fuel _ _ _ h1
  | some o=>
   rw [ho] at h1;dsimp only at h1 ⊢;have hno:r=none∨∀ c,o.op≠.defer c:=hnd.imp_right fun hn=>q0t hn (Array.mem_toList_iff.2 (Array.mem_of_getElem? ho))
   split
   ·rename_i hw
    rw [if_pos hw] at h1
    rcases h1 with h1|⟨_,a',w',hq⟩
    ·exact qvk hno hQ (fun a w h=>qrs hnd hQ hk fuel _ a w h) h1
    ·have:=hQ _ _ _ hq;cases this
   ·rename_i hw
    rw [if_neg hw] at h1;refine ⟨fun _ _=>trivial,?_⟩;have hp:({ a with defers:=a.defers++ds }:Act).put o.dst undef={ a.put o.dst undef with defers:=(a.put o.dst undef).defers++ds }:=by cases o.dst<;>rfl
    rw [hp];exact qrs hnd hQ hk fuel _ _ _ h1
structure AnyV (P:Program) (n:Nat) (ops:Array Oper) (R:(Nat→Value)→World→Prop) (ρ:Nat→Value) (w:World):Prop where
 h:∀ a,St n ρ a→wpAny P .any ops (fun e a' w'=>e=.normal∧∃ ρ',St n ρ' a'∧R ρ' w') ops.size (Array.replicate ops.size false) a w.drew
theorem DrawW.any {id:Nat} {ops:Array Oper} {Q:QW} {ρ:Nat→Value} {ds:List Deferred} {w:World} (hm:P.follows .mixedOrders=true) (hnd:r=none∨q3n ops.toList=true)
  (h:AnyV P n ops (fun ρ' w'=>Q .normal ρ' ds w') ρ w):DrawW P n r id ops Q ρ ds w:=by
 refine ⟨fun a ha hd=>wpIn_region_any hm ?_⟩;have e:a={ ({ a with defers:=[] }:Act) with defers:=({ a with defers:=[] }:Act).defers++ds }:=by subst hd;rfl
 have h1:=qrs (r:=r) (ds:=ds) (Q2:=qhf n Q) hnd (fun _ _ _ h=>h.1) (fun a' w' h=>?_) _ _ _ _ (h.h { a with defers:=[] } ha)
 ·rw [← e] at h1;exact h1
 ·obtain ⟨_,ρ',hs,hq⟩:=h;have hd':a'.defers++ds=ds:=by rw [hs.defers];rfl
  refine ⟨ρ',?_,?_⟩
  ·show St n ρ' { a' with defers:=[] };have:({ a' with defers:=[] }:Act)=a':=by have:=hs.defers;cases a';cases this;rfl
   rw [this];exact hs
  ·show Q .normal ρ' (a'.defers++ds) w';rw [hd'];exact hq
theorem AnyV.free {ops:Array Oper} {R:(Nat→Value)→World→Prop} {ρ:Nat→Value} {w:World} (hB:qie n ops=true) (h:regD P ops.toList w.drew R ops.toList 0 [] ρ):AnyV P n ops R ρ w:=by
 refine ⟨fun a ha=>?_⟩;obtain ⟨E,h1,h2,h3⟩:=qni ops.toList [] [] ρ (fun k=>rfl) h;refine qly (Q:=R) (E:=E) (w0:=w.drew) (ρ:=ρ) (fun ρ a w h1 h2=>⟨rfl,ρ,h1,h2⟩) (qdn hB) (by simpa using h1) (fun i o e ho he=>?_) (by simpa using h3) _ _ (fun _=>undef) ρ a _ Js Js ⟨xr,ha,?_,?_,fun t _=>rfl⟩
 ·have:=h2 i o e (by simpa using ho) he
  simpa using this
 ·intro k hk;rw [qh] at hk;cases hk
 ·intro k hk;rw [qh] at hk;cases hk
theorem AnyV.gen {ops:Array Oper} {R:(Nat→Value)→World→Prop} {ρ:Nat→Value} {w:World} (I:(Nat→Bool)→(Nat→Value)→World→Prop) (hB:qie n ops=true)
  (h0:∀ vals,I (fun j=>Nat.ble ops.size j) vals w.drew) (h:regG P ops.toList I R ops.toList 0 [] ρ):AnyV P n ops R ρ w:=by
 refine ⟨fun a ha=>?_⟩;obtain ⟨E,h1,h2,h3⟩:=qnj ops.toList [] [] ρ (AgreeG.mk (fun _ _ h=>by cases h) (fun _ _ _ h=>by simp at h)) h;refine qpu (I:=I) (Q:=R) (E:=E) (w0:=w.drew) (ρ:=ρ) (fun ρ a w h1 h2=>⟨rfl,ρ,h1,h2⟩) (qdn hB) (by simpa using h1) (fun i o e ho he=>?_) (by simpa using h3) _ _ (fun _=>undef) ρ a _ Js Js ⟨xr,ha,?_,?_,fun t _=>rfl⟩ ?_
 ·have:=h2 i o e (by simpa using ho) he
  simpa using this
 ·intro k hk;rw [qh] at hk;cases hk
 ·intro k hk;rw [qh] at hk;cases hk
 ·have:(fun j=>(Array.replicate ops.size false).getD j true)=fun j=>Nat.ble ops.size j:=by
   funext j
   rcases Nat.lt_or_ge j ops.size with hj|hj
   ·have h2:Nat.ble ops.size j=false:=Bool.eq_false_iff.2 fun e=>by have:=Nat.le_of_ble_eq_true e;omega
    simp [hj,h2]
   ·rw [Nat.ble_eq_true_of_le hj];simp [hj]
  rw [this];exact h0 _
theorem q2b {α:Type} (l:α→List (Nat × Value)) (d:α→List Deferred) (I:α→World→Prop) (μ:α→Nat) {body:Code} {Q:QW} {ρ:Nat→Value} {ds:List Deferred} {w:World} (x0:α)
  (h0:qi6 (l x0) ρ) (hd0:ds=d x0) (hI:I x0 w)
  (hr:∀ x w ρ',I x w→qf0 P n r body (seqW (fun ρ'' ds'' w'=>∃ x',qi6 (l x') ρ''∧ds''=d x'∧I x' w'∧μ x'<μ x) Q) (over (l x) ρ') (d x) w):LoopW P n r body Q ρ ds w:=by
 subst hd0;refine ⟨fun a ha hd=>?_⟩;intro b k cs hro hb hroom;have key:∀ m x,μ x=m→∀ ρ a w,qi6 (l x) ρ→Sw n ρ a→a.defers=d x→I x w→
   ∃ e a' w',qhf n Q e a' w'∧ArrivesIn (Machine.fenced P (Fr r)) P (lone (b.atR a (.code body::.inLoop body::k)) cs w) b k cs e a' w':=by
  intro m
  induction m using Nat.strongRecOn with
  | _ m ih=>
   intro x hm ρ a w hag hst hds hI;have h1:=hr x w ρ hI;rw [qjx hag] at h1;obtain ⟨e,a₁,w₁,hq,harr⟩:=qdt body _ _ _ _ h1 a hst hds b (.inLoop body::k) cs hro hb hroom;obtain ⟨ρ₁,hst₁,hq⟩:=hq;cases e with
   | normal=>
    obtain ⟨x',hag',hds',hI',hlt⟩:=hq;obtain ⟨e₂,a₂,w₂,hq₂,harr₂⟩:=ih (μ x') (hm ▸ hlt) x' rfl ρ₁ a₁ w₁ hag' hst₁ hds' hI';exact ⟨e₂,a₂,w₂,hq₂,.of_steps (StepsIn.trans harr (.one (fenced_calm hb hroom rfl) stepR_inLoop)) harr₂⟩
   | exit id=>exact ⟨_,a₁,w₁,⟨ρ₁,hst₁,hq⟩,.pass (x:=.inLoop body) rfl (fun _ _=>.inl Js) harr⟩
   | goto l=>exact ⟨_,a₁,w₁,⟨ρ₁,hst₁,hq⟩,.pass (x:=.inLoop body) rfl (fun _ _=>.inl Js) harr⟩
   | ret=>exact ⟨_,a₁,w₁,⟨ρ₁,hst₁,hq⟩,.pass (x:=.inLoop body) rfl (fun _ _=>.inl Js) harr⟩
   | panic ch=>exact ⟨_,a₁,w₁,⟨ρ₁,hst₁,hq⟩,.pass (x:=.inLoop body) rfl (fun _ _=>.inl Js) harr⟩
   | outgrown=>exact ⟨_,a₁,w₁,⟨ρ₁,hst₁,hq⟩,.pass (x:=.inLoop body) rfl (fun _ _=>.inl Js) harr⟩
 obtain ⟨e,a',w',hq,harr⟩:=key _ x0 rfl ρ a w h0 ha hd hI;exact ⟨e,a',w',hq,.of_steps (.one (fenced_calm hb hroom rfl) stepR_loop) harr⟩
structure BeginA (J:List (Nat × Obj)→World→Prop) (l:Nat) (ob ob':Obj) (w:World) (ds:List Deferred) (K:World→Prop):Prop where
 d:ds=[]
 h:∃ Y,J ((l,ob)::Y) w∧∀ w2,J ((l,ob')::Y) w2→K w2
theorem q2e {f:Operand} {ps:Array Tmp} {assign body:Code} {Q:QW} {ρ:Nat→Value} {ds:List Deferred} {w:World} {Φ:World→Prop} {gf:FuncId} {lb:List Value} {xs:List (List Value)}
  (hf:ev ρ f=.func (.func gf) #[] lb.toArray) (he:qdg P gf=true) (hseq:SeqC P gf lb xs Φ) (hpn:ps.toList.all (Nat.blt · n)=true) (hps:∀ x∈xs,x.length=ps.size)
  (J:Nat→List (Nat × Obj)→World→Prop) (Jx:Code→Nat→List (Nat × Obj)→World→Prop) (hJ:∀ k,Carr (J k)) (hJx:∀ c k,Carr (Jx c k)) (hw:∀ k X w,J k X w→Φ w) (h0:J 0 [] w)
  (hbody:∀ l D ob ob' k x X w1,xs[k]?=some x→J k ((l,ob)::(D,.deferred (some []))::X) w1→
   qf0 P n (some l) assign (q5j fun ρ1 ds1 w1'=>BeginA (J k) l ob ob' w1' ds1
    (fun w2=>qf0 P n (some l) body (q2f (J (k+1) ((l,ob')::(D,.deferred (some []))::X)) (fun c=>Jx c k ((l,ob')::(D,.deferred (some []))::X))) ρ1 [] w2)) (qu7 ps.toList x ρ) [] w1)
  (hdone:∀ D w',J xs.length [(D,.deferred (some []))] w'→Q .normal ρ ({ target:=.collected D,args:=#[] }::ds) w')
  (hstop:∀ D c k w',k<xs.length→Jx c k [(D,.deferred (some []))] w'→q5v c Q ρ ({ target:=.collected D,args:=#[] }::ds) w'):RangeW P n none f ps assign body Q ρ ds w:=by
 refine ⟨fun a ha hd=>?_⟩;subst hd;refine wpIn_rangeFunc ?_;intro fn hfn;obtain ⟨rec,hrec⟩:∃ rec:LoopState→Option Code→Loop,rec=fun st pe=>{ state:=st,pending:=pe,fn,tmps:=a.tmps,params:=ps,assign,body,defers:=w.heap.size }:=⟨_,rfl⟩
 obtain ⟨W1,hW1⟩:∃ W1,(w.alloc (.deferred (some []))).alloc (.loop (rec .ready none))=W1:=⟨_,rfl⟩
 have hD:=(hJ 0).new (.deferred (some [])) h0;have hL:=(hJ 0).new (.loop (rec .ready none)) hD;rw [hW1,World.size_alloc] at hL;refine ⟨w.heap.size+1,[{ target:=.collected w.heap.size,args:=#[] }],W1,{ target:=.fn (.func gf) lb.toArray,args:=#[.func (.yield (w.heap.size+1)) #[] #[]] },W1,gf,
  #[.func (.yield (w.heap.size+1)) #[] #[]]++lb.toArray,W1,?_,?_,fun _ _=>trivial,?_,fun h=>by simp [Fr] at h,?_⟩
 ·rw [← hW1,hrec];exact run_enterLoop_outer _ _ _ _ _
 ·have:a.eval f=.func (.func gf) #[] lb.toArray:=by rw [ha.eval,hf]
  simp only [resolve,this];simp [go_sem]
 ·simp only [invoke];exact qci he _
 ·have ea:#[Value.func (.yield (w.heap.size+1)) #[] #[]]++lb.toArray=(Value.func (.yield (w.heap.size+1)) #[] #[]::lb).toArray:=by rw [← Array.toList_inj];simp
  rw [ea];refine qcr.2 ((hseq (w.heap.size+1) (fun k X W=>J k (X++[(w.heap.size+1,.loop (rec .ready none)),(w.heap.size,.deferred (some []))]) W)
   (fun k X W=>∃ c,Jx c k (X++[(w.heap.size+1,.loop (rec .done (some c))),(w.heap.size,.deferred (some []))]) W) W1
   (fun k=>(hJ k).tail _) (fun k=>Carr.any fun c=>(hJx c k).tail _) (fun k X W h=>hw _ _ _ h) hL ?_).2.mono ?_)
  ·intro k x X W hx hk;replace hk:=(hJ k).perm hk List.perm_append_comm;have hl:=(hJ k).get hk mh;have hy:=run_yield (P:=P) (args:=x.toArray) hl (by rw [hrec];simpa using hps x (zmg hx));rw [hrec] at hy;refine ⟨⟨fn,_,assign,body,hy,roundIn_of_wpIn hfn ?_⟩⟩;have h1:=hbody (w.heap.size+1) w.heap.size _ (.loop { rec .ready none with state:=.busy }) k x X W hx hk;have hz:(ps.zip x.toArray).foldl (fun t (p,v)=>t.setIfInBounds p v) a.tmps=(ps.toList.zip x).foldl (fun t (p,v)=>t.setIfInBounds p v) a.tmps:=by
    rw [← Array.foldl_toList];simp
   have hst:Sw n (qu7 ps.toList x ρ) { tmps:=(ps.zip x.toArray).foldl (fun t (p,v)=>t.setIfInBounds p v) a.tmps,defers:=[] }:=by
    rw [hz];exact qsz _ _ _ _ hpn ha
   refine Go.wpIn_mono (F:=Fr (some (w.heap.size+1))) (qdt assign _ _ _ _ h1 _ hst rfl) fun e a1 w1 hq=>?_;obtain ⟨ρ1,hst1,hq⟩:=hq;cases e with
   | normal=>
    obtain ⟨hd1,Y,hY,hb1⟩:=hq;have hb1:=hb1 _ ((hJ k).set (.loop { rec .ready none with state:=.busy }) hY);refine ⟨_,run_beginRound ((hJ k).get hY mh) (by rw [hrec]),?_⟩;refine Go.wpIn_mono (F:=Fr (some (w.heap.size+1))) (qdt body _ _ _ _ hb1 _ hst1 hd1) fun e a2 w2 hq=>?_;obtain ⟨ρ2,hst2,hq⟩:=hq;cases e with
    | normal=>
     refine ⟨_,_,run_endRound none ((hJ _).get hq mh),_,rfl,.inl ⟨rfl,?_⟩⟩;have:=(hJ (k+1)).perm ((hJ (k+1)).set (.loop (rec .ready none)) hq) (List.perm_append_comm (l₁:=[_,_]));rw [hrec] at this ⊢;exact this
    | ret=>
     refine ⟨_,_,run_endRound (some .ret) ((hJx _ _).get hq mh),_,rfl,.inr ⟨rfl,.ret,?_⟩⟩;have:=(hJx _ k).perm ((hJx _ k).set (.loop (rec .done (some .ret))) hq) (List.perm_append_comm (l₁:=[_,_]));rw [hrec] at this ⊢;exact this
    | exit id=>
     refine ⟨_,_,run_endRound (some (.exit id)) ((hJx _ _).get hq mh),_,rfl,.inr ⟨rfl,.exit id,?_⟩⟩;have:=(hJx _ k).perm ((hJx _ k).set (.loop (rec .done (some (.exit id)))) hq) (List.perm_append_comm (l₁:=[_,_]));rw [hrec] at this ⊢;exact this
    | goto t=>
     refine ⟨_,_,run_endRound (some (.goto t)) ((hJx _ _).get hq mh),_,rfl,.inr ⟨rfl,.goto t,?_⟩⟩;have:=(hJx _ k).perm ((hJx _ k).set (.loop (rec .done (some (.goto t)))) hq) (List.perm_append_comm (l₁:=[_,_]));rw [hrec] at this ⊢;exact this
    | panic ch=>exact hq.elim
    | outgrown=>exact hq.elim
   | ret=>exact hq.elim
   | exit id=>exact hq.elim
   | goto t=>exact hq.elim
   | panic ch=>exact hq.elim
   | outgrown=>exact hq.elim
  ·rintro e W2 ⟨v,rfl,h|⟨k,hk,c,h⟩⟩
   ·have hl:=(hJ _).get h mh;have:=run_endLoop (P:=P) hl (by rw [hrec];simp);rw [hrec] at this;exact ⟨none,_,this,ρ,ha,hdone _ _ ((hJ _).drop ((hJ _).set _ h))⟩
   ·have hl:=(hJx _ _).get h mh;have:=run_endLoop (P:=P) hl (by rw [hrec];simp);rw [hrec] at this;refine ⟨some c,_,this,?_⟩;have hs:=hstop _ c k _ hk ((hJx _ _).drop ((hJx _ _).set (.loop { rec .done (some c) with state:=.exhausted }) h));rw [hrec] at hs;cases c with
    | ret=>exact Go.wpIn_ret ⟨ρ,ha,hs⟩
    | exit id=>exact Go.wpIn_exit ⟨ρ,ha,hs⟩
    | goto t=>exact Go.wpIn_goto ⟨ρ,ha,hs⟩
    | _=>exact hs.elim
def qkz (D:Nat):Deferred:={ target:=.collected D,args:=#[] }
def qc3 (D:Nat):Nat × Obj:=(D,.deferred (some []))
theorem qek {fn:Func} {R:Value→World→Prop} {ρ:Nat→Value} {J:List (Nat × Obj)→World→Prop} (hJ:Carr J) (hk:∀ w',J [] w'→resV fn.results ρ w' fn R P n) :
  ∀ (Ds:List Nat) (w:World),J (Ds.map qc3) w→qjm P n fn R ρ (Ds.map qkz) w
 | [],w,h=>hk w h
 | D::Ds,w,h=>by
  show LeaveV P n fn R ρ (qkz D::Ds.map qkz) w;refine LeaveV.mark (hJ.get h mh) fun w' hw=>?_;subst hw;exact qek hJ hk Ds _ (hJ.drop (hJ.set _ h))
theorem Carr.setM {J:List (Nat × Obj)→World→Prop} (h:Carr J) {A B:List (Nat × Obj)} {b:Nat} {o:Obj} {w:World} (o':Obj) (k:J (A++(b,o)::B) w):J (A++(b,o')::B) (setO w b o'):=
 h.perm (h.set o' (h.perm k List.perm_middle)) List.perm_middle.symm
theorem LeaveV.marks {fn:Func} {R:Value→World→Prop} {ρ:Nat→Value} {J:List (Nat × Obj)→World→Prop} (hJ:Carr J) (hk:∀ w',J [] w'→resV fn.results ρ w' fn R P n) {D:Nat} {Ds:List Nat} {w:World} (h:J ((D::Ds).map qc3) w) :
  LeaveV P n fn R ρ (qkz D::Ds.map qkz) w:=qek hJ hk (D::Ds) w h
theorem Carr.dropM {J:List (Nat × Obj)→World→Prop} (h:Carr J) {A B:List (Nat × Obj)} {x:Nat × Obj} {w:World} (k:J (A++x::B) w):J (A++B) w:=h.drop (h.perm k List.perm_middle)
theorem qo8 {w:World} {b off:Nat} {v:Value} {cs:Array Value} {t:TypeId} {fr:Nat × Nat} (h:w.heap[b]?=some (.cells cs t fr)):w.setCell ⟨b,off,none⟩ v=setO w b (.cells (cs.setIfInBounds off v) t fr):=by
 unfold World.setCell setO
 congr 1
 apply Array.ext_getElem?;intro i
 by_cases hi:i=b
 ·subst hi;have hlt:i<w.heap.size:=by
   rcases Nat.lt_or_ge i w.heap.size with h' | h'
   ·exact h'
   ·rw [Array.getElem?_eq_none h'] at h;cases h
  rw [Array.getElem?_modify,if_pos rfl,h,Array.getElem?_setIfInBounds_self_of_lt hlt];rfl
 ·rw [Array.getElem?_modify,if_neg (fun e=>hi e.symm),Array.getElem?_setIfInBounds_ne (fun e=>hi e.symm)]
theorem StoreV.carr {J:List (Nat × Obj)→World→Prop} (hJ:Carr J) {A B:List (Nat × Obj)} {b off:Nat} {cs:Array Value} {t:TypeId} {v:Value} {w:World} {K:World→Prop} (h:J (A++(b,.cells cs t)::B) w) (ho:off<cs.size) (h1:qcw v=true)
  (hk:∀ w',J (A++(b,.cells (cs.setIfInBounds off v) t)::B) w'→K w'):StoreV w b off v K:=by
 have hg:=hJ.get h (List.mem_append_right _ mh);refine StoreV.own hg ho h1 fun w' hw=>hk w' ?_
 rw [hw,qo8 hg];exact hJ.setM _ h
theorem NewV.carr {J:List (Nat × Obj)→World→Prop} (hJ:Carr J) {X:List (Nat × Obj)} {o:Obj} {w:World} {K:Nat→World→Prop} (h:J X w) (hk:∀ b w',J ((b,o)::X) w'→K b w'):NewV w o K:=
 ⟨fun b w' hb hw=>by subst hb hw;exact hk _ _ (hJ.new o h)⟩
theorem LoadV.carr {J:List (Nat × Obj)→World→Prop} (hJ:Carr J) {X:List (Nat × Obj)} {b off:Nat} {cs:Array Value} {t:TypeId} {fr:Nat × Nat} {v:Value} {w:World} {K:Value→Prop} (h:J X w) (hx:(b,Obj.cells cs t fr)∈X) (hv:cs[off]?=some v) (hk:K v):LoadV w b off K:=
 LoadV.own (hJ.get h hx) hv hk
end
end V
def dRow (m:LB) (i:Nat):List Value:=[ii i,.string ⟨(dTxt m i).toArray⟩]
def DicΦ (b:Nat) (m:LB) (b1 b2:Nat) (w:World):Prop:=DictAt w b m∧w.cell? ⟨b1,0,none⟩=some (ii 0)∧w.cell? ⟨b2,0,none⟩=some (pp b)
theorem qwa (b:Nat) (w:World):Gv Tryz.prog 45 [pp b,ii 0] w fun r w'=>
  ∃ b1 b2,r=.func (.func 84) #[] #[pp b1,pp b2]∧Mem w w' [(b1,.cells #[ii 0] 3),(b2,.cells #[pp b] 102)]:=by
 refine ze Tryz.func45 Tryz.ntmps45 ?_;refine znm (Mem.nil w) fun b1 w1 hm=>zw ?_;refine znm hm fun b2 w2 hm=>zw ?_;exact ⟨b2,b1,rfl,hm⟩
theorem qzo (b k:Nat) {J:List (Nat × Obj)→World→Prop} (hJ:Carr J) {X:List (Nat × Obj)} (w:World) (h:J X w):Gv Tryz.prog 85 [pp b,ii k] w fun r w'=>
  ∃ b1 b2,r=.func (.func 132) #[] #[pp b1,pp b2]∧J ((b2,.cells #[ii k] 3)::(b1,.cells #[pp b] 102)::X) w':=by
 refine ze Tryz.func85 Tryz.ntmps85 ?_;refine NewV.carr hJ h fun b1 w1 hm=>zw ?_;refine NewV.carr hJ hm fun b2 w2 hm=>zw ?_;exact ⟨b1,b2,rfl,hm⟩
theorem qwb (b:Nat) (m:LB) (b1 b2:Nat) (hE:(doE m).2=0) :
  SeqC Tryz.prog 84 [pp b1,pp b2] ((List.range (dN m)).map (dRow m)) (DicΦ b m b1 b2):=by
 intro l I Ix w cI cIx hI h0 hy;have hdn:=(hI 0 [] w h0).1.n;have hub:upN (dN m) 16≤4194304:=Nat.le_trans (qak _ _ Od) hdn;have hxs:((List.range (dN m)).map (dRow m)).length=dN m:=by simp
 refine gvW Jk Tryz.func84 rfl Tryz.ntmps84 rfl (zw ?_);refine NewV.carr (cI 0) h0 fun b3 w1 h0=>zw ?_;refine LoadV.of (hI _ _ _ h0).2.1 (zw ?_);refine V.Fall.max2 rfl rfl rfl fun m' hm'=>?_;obtain rfl:m'=0:=by omega
 (conv=>whnf);refine NewV.carr (cI 0) h0 fun b4 w2 h0=>zw ?_;refine StoreV.carr (cI 0) (A:=[]) h0 Js rfl fun w3 h0=>zw ?_;refine LoadV.carr (cI 0) h0 mh rfl (zu ?_);refine q2b (fun x:Nat × List Nat=>[(0,.func (.yield l) #[] #[]),(1,pp b1),(2,pp b2),(3,pp b3),(4,pp b4),(5,ii x.1)]) (fun x=>x.2.map qkz)
  (fun x w'=>x.1≤upN (dN m) 16∧I (min (16*x.1) (dN m)) (x.2.map qc3++[(b4,.cells #[ii 0] 3),(b3,.cells #[.func (.yield l) #[] #[]] 192)]) w') (fun x=>upN (dN m) 16-x.1) (0,[])
  ⟨rfl,rfl,rfl,rfl,rfl,rfl,trivial⟩ rfl ⟨Nat.zero_le _,by show I (min (16*0) (dN m)) _ w3;rw [Nat.mul_zero,Nat.zero_min];exact h0⟩ ?_
 clear h0;rintro ⟨k,Ds⟩ w4 ρ' ⟨hk,hIk⟩;dsimp only at hk hIk ⊢;obtain ⟨⟨⟨P,cp,E,ce,hd1,_,_,_⟩,_⟩,_,hc2⟩:=hI _ _ _ hIk;(conv=>whnf);refine LoadV.of hc2 (zw ?_);refine LoadV.own hd1 rfl (zw ?_);refine zcv (qg1 (dN m) w4 hdn) ?_;rintro v w5 ⟨rfl,rfl⟩;(conv=>whnf);refine zC (fun _=>zu ?_) (fun _=>zu ?_)
 ·have hkn:16*k<dN m:=by unfold upN at *;omega
  have hmin:min (16*k) (dN m)=16*k:=by omega
  rw [hmin] at hIk;obtain ⟨n,hnn⟩:∃ n,n=min 16 (dN m-16*k):=⟨_,rfl⟩
  have hn:BEnd m k n:=by rw [hnn];exact BEnd.full hE k
  refine NewV.carr (cI _) hIk fun b6 w6 hJ=>zw ?_;refine StoreV.carr (cI _) (A:=[]) hJ Js rfl fun w7 hJ=>zw ?_;refine LoadV.of (hI _ _ _ hJ).2.2 (zw ?_);refine zcv (qzo b k (cI _) w7 hJ) ?_;clear hJ;rintro v w8 ⟨c1,c2,rfl,hJ⟩;(conv=>whnf);have hlen:((List.range n).map (bRow m k)).length=n:=by simp
  obtain ⟨L,hL⟩:∃ L:Nat→List (Nat × Obj),L=fun j=>[(c2,.cells #[ii k] 3),(c1,.cells #[pp b] 102)]++(b6,.cells #[ii (16*k+j:Nat)] 3)::(Ds.map qc3++[(b4,.cells #[ii 0] 3),(b3,.cells #[.func (.yield l) #[] #[]] 192)]):=⟨_,rfl⟩
  have hJ:I (16*k+0) ([]++L 0) w8:=by
   rw [hL];have e:((k:Int)*16)=((16*k+0:Nat):Int):=by omega
   rw [e] at hJ;exact hJ
  have hin:∀ (X:List (Nat × Obj)) (j:Nat),(c1,Obj.cells #[pp b] 102)∈X++L j∧(c2,Obj.cells #[ii k] 3)∈X++L j∧(b4,Obj.cells #[ii 0] 3)∈X++L j∧(b3,Obj.cells #[.func (.yield l) #[] #[]] 192)∈X++L j∧(b6,Obj.cells #[ii (16*k+j:Nat)] 3)∈X++L j:=fun X j=>by
   rw [hL];refine ⟨?_,?_,?_,?_,?_⟩<;>simp
  refine qx6 (Φ:=BlkΦ b m k c1 c2) (lb:=[pp c1,pp c2]) (xs:=(List.range n).map (bRow m k)) rfl Jk (qn0 b m k n c1 c2 Oo hn).toC Od ?_
   (fun j X w'=>I (16*k+j) (X++L j) w') (fun c j X w'=>∃ _:PLift (c=.ret),Ix (16*k+j) (X++L j) w')
   (fun j=>(cI _).tail _) (fun c j=>Carr.any fun _=>(cIx _).tail _)
   (fun j X w' h=>⟨(hI _ _ _ h).1,by rw [qd ((cI _).get h (hin X j).1)];rfl,by rw [qd ((cI _).get h (hin X j).2.1)];rfl⟩) hJ ?_ ?_ ?_
  ·intro x hx;obtain ⟨j,_,rfl⟩:=List.mem_map.1 hx;rfl
  ·rintro l2 D ob j x X w9 w10 hx hJ;have hjn:j<n:=by
    have:=(List.getElem?_eq_some_iff.1 hx).1
    rwa [hlen] at this
   rw [List.getElem?_map,List.getElem?_range hjn,Option.map_some,Option.some.injEq] at hx;subst hx;have hj16:j<16:=by omega
   (conv=>whnf);refine ⟨rfl,rfl,?_⟩;(conv=>whnf);refine LoadV.carr (cI _) hJ (hin _ j).2.2.1 rfl (zu ?_);refine LoadV.carr (cI _) hJ (hin _ j).2.2.2.1 rfl (zu ?_);refine YieldV.mono (hy (16*k+j) _ _ w10 ?_ hJ) ?_
   ·rw [List.getElem?_map,List.getElem?_range Oo,Option.map_some,dRow,← qzj m k j hj16];rfl
   clear hJ;rintro v w11 (⟨rfl,hJ⟩|⟨rfl,hX⟩)
   ·refine zu ?_;have hJ:I (16*k+j+1) ((((l2,ob)::(D,.deferred (some []))::X)++[(c2,.cells #[ii k] 3),(c1,.cells #[pp b] 102)])++(b6,.cells #[ii (16*k+j:Nat)] 3)::(Ds.map qc3++[(b4,.cells #[ii 0] 3),(b3,.cells #[.func (.yield l) #[] #[]] 192)])) w11:=by
     rw [hL] at hJ
     simpa using hJ
    refine StoreV.carr (cI _) hJ Js rfl fun w12 hJ=>zw ?_;have e:(((16*k+j:Nat):Int)+1)=((16*k+(j+1):Nat):Int):=by omega
    rw [hL];have hJ:I (16*k+j+1) ((((l2,ob)::(D,.deferred (some []))::X)++[(c2,.cells #[ii k] 3),(c1,.cells #[pp b] 102)])++(b6,.cells #[ii (((16*k+j:Nat):Int)+1)] 3)::(Ds.map qc3++[(b4,.cells #[ii 0] 3),(b3,.cells #[.func (.yield l) #[] #[]] 192)])) w12:=hJ;rw [e] at hJ
    simpa [Nat.add_assoc] using hJ
   ·refine zu ?_;exact ⟨⟨rfl⟩,hX⟩
  ·rintro D w9 hJ;rw [hlen] at hJ;have hg6:=(cI _).get hJ (hin _ n).2.2.2.2;obtain ⟨⟨⟨P,cp,E,ce,hd1,_,_,_⟩,_⟩,_,hc2⟩:=hI _ _ _ hJ;(conv=>whnf);refine DrawW.any Jk (.inl rfl) (AnyV.free Jk ?_);(conv=>whnf);refine zf ?_ (by intro wd hd;(conv=>whnf);refine LoadV.own (Ext.get (Ext.trans (Ext.drew xr) hd) hg6) rfl ?_;(conv=>whnf);exact ⟨xr,rfl⟩);refine zf ?_ (by intro wd hd;(conv=>whnf);refine LoadV.of (Ext.cell (Ext.trans (Ext.drew xr) hd) hc2) ?_;(conv=>whnf);exact ⟨xr,rfl⟩);refine zd ?_;refine zd ?_;refine zf ?_ (by intro wd hd;(conv=>whnf);refine LoadV.own (Ext.get (Ext.trans (Ext.drew xr) hd) hd1) rfl ?_;(conv=>whnf);exact ⟨xr,rfl⟩);(iterate 3 (refine zd ?_));refine zsd (ii (min (dN m:Int) (((k:Int)+1)*16))) (fun wd hd=>zw ?_) (zw ?_)
   ·refine V.Fall.min2 rfl rfl rfl fun m' hm'=>?_;subst hm';exact ⟨xr,rfl⟩
   refine zd ?_;intro w10 he10;refine zu ?_;refine ⟨(k+1,D::Ds),⟨rfl,rfl,rfl,rfl,rfl,rfl,trivial⟩,rfl,⟨by simp only;omega,?_⟩,by simp only;omega⟩;have hJ:=(cI _).ext hJ (Ext.trans xr.drew he10);rw [hL] at hJ;have e:min (16*(k+1)) (dN m)=16*k+n:=by omega
   have h1:=(cI _).dropM (A:=[(D,.deferred (some []))]) (by simpa using hJ);have h2:=(cI _).dropM (A:=[(D,.deferred (some []))]) (by simpa using h1);have h3:=(cI _).dropM (A:=[(D,.deferred (some []))]) (by simpa using h2);simp only [e]
   simpa [qc3] using h3
  ·rintro D c j w9 hjn ⟨⟨rfl⟩,hX⟩;rw [hlen] at hjn;(conv=>whnf);refine LeaveV.marks (J:=fun X w'=>Ix (16*k+j) X w') (cIx _) ?_ (D:=D) (Ds:=Ds) ?_
   ·intro w' h;(conv=>whnf);exact .inr ⟨16*k+j,by rw [hxs];omega,h⟩
   ·rw [hL] at hX;have h1:=(cIx _).dropM (A:=[(D,.deferred (some []))]) (by simpa using hX);have h2:=(cIx _).dropM (A:=[(D,.deferred (some []))]) (by simpa using h1);have h3:=(cIx _).dropM (A:=[(D,.deferred (some []))]) (by simpa using h2);have h4:=(cIx _).dropM (A:=(D,.deferred (some []))::Ds.map qc3) (by simpa using h3);have h5:=(cIx _).dropM (A:=(D,.deferred (some []))::Ds.map qc3) (by simpa using h4)
    simpa [qc3] using h5
 ·have e:min (16*k) (dN m)=dN m:=by unfold upN at *;omega
  rw [e] at hIk;refine qek (J:=fun X w'=>I (dN m) X w') (cI _) ?_ Ds _ ?_
  ·intro w' h;(conv=>whnf);exact .inl (by rw [hxs];exact h)
  ·have h4:=(cI _).dropM (A:=Ds.map qc3) (by simpa using hIk);have h5:=(cI _).dropM (A:=Ds.map qc3) (by simpa using h4)
   simpa using h5
theorem qn2:∀ x,x<256→∀ r,r<8→(x/2 ^ r≠0↔∃ s,s<8∧r≤s∧x/2 ^ s%2=1):=by decide +kernel
theorem qm5 {d:LB} {n:Nat} (hd:d.length=upN n 8):PadB d n↔n%8≠0∧(d.getD (n/8) 0).toNat/2 ^ (n%8)≠0:=by
 have hu:upN n 8=(n+7)/8:=rfl
 constructor
 ·rintro ⟨t,h1,h2,h3⟩;have h4:n%8≠0:=by omega
  have h5:t/8=n/8:=by omega
  rw [bitN,h5] at h3;exact ⟨h4,(qn2 _ (qv _) _ Oo).2 ⟨t%8,by omega,by omega,h3⟩⟩
 ·rintro ⟨h1,h2⟩;obtain ⟨s,h3,h4,h5⟩:=(qn2 _ (qv _) _ Oo).1 h2;refine ⟨8*(n/8)+s,by omega,by omega,?_⟩;rw [bitN,show (8*(n/8)+s)/8=n/8 by omega,show (8*(n/8)+s)%8=s by omega];exact h5
theorem q21 {d:LB} {n:Nat} (h:¬ PadB d n):∀ {m:Nat},n≤m→m≤8*d.length→cnt d m=cnt d n:=by
 intro m hm
 induction hm with
 | refl=>intro _;rfl
 | step hm ih=>
  rename_i m
  intro hle;rw [cnt,ih Oo];have h1:=qct d m;have h2:bitN d m≠1:=fun e=>h ⟨m,hm,by omega,e⟩
  omega
def mkD (d:LB) (b:Nat):Nat→List (Nat × Nat × Nat)
 | 0=>[]
 | t+1=>if bitN d (8*b+t)=1∧cnt d (8*b+t)%512=0 then mkD d b t++[(512,cnt d (8*b+t)/512,8*b+t)] else mkD d b t
def grD (d:LB) (b:Nat):List (Nat × Nat × Nat):=if 8*b%2048=0 then [(2048,8*b/2048,cnt d (8*b))] else []
def smD (d:LB) (b:Nat):List (Nat × Nat × Nat):=if 8*b%256=0 then [(256,8*b/256,cnt d (8*b)-cnt d (2048*(8*b/2048)))] else []
def dirD (d:LB):Nat→List (Nat × Nat × Nat)
 | 0=>[]
 | b+1=>dirD d b++(grD d b++(smD d b++mkD d b 8))
def plD (n:Nat) (x:Nat × Nat × Nat):Nat:=if x.1=2048 then qn n+4*x.2.1 else if x.1=256 then q7 n+2*x.2.1 else qaq n+4*x.2.1
def szD (x:Nat × Nat × Nat):Nat:=if x.1=256 then 2 else 4
def okD (l:LB) (x:Nat × Nat × Nat):Prop:=leN ((l.drop (plD (vN l) x)).take (szD x))=x.2.2
structure SpI (l:LB) (L:List (Nat × Nat × Nat)) (f:Int):Prop where
 none:f<0→f=-1∧∀ x∈L,okD l x
 some:0≤f→(∃ x∈L,¬ okD l x∧f=plD (vN l) x)∧∀ x∈L,¬ okD l x→f≤plD (vN l) x
theorem SpI.nil (l:LB):SpI l [] (-1):=⟨fun _=>⟨rfl,fun x h=>by cases h⟩,fun h=>by omega⟩
theorem SpI.keep {l:LB} {L:List (Nat × Nat × Nat)} {f:Int} {x:Nat × Nat × Nat} (h:SpI l L f) (hx:okD l x∨(0≤f∧f≤plD (vN l) x)):SpI l (L++[x]) f:=by
 refine ⟨fun hf=>⟨(h.none hf).1,fun y hy=>?_⟩,fun hf=>⟨?_,fun y hy hn=>?_⟩⟩
 ·rcases List.mem_append.1 hy with hy|hy
  ·exact (h.none hf).2 y hy
  ·rw [List.mem_singleton.1 hy]
   rcases hx with hx|⟨hx,_⟩
   ·exact hx
   ·omega
 ·obtain ⟨y,hy,g⟩:=(h.some hf).1;exact ⟨y,List.mem_append_left _ hy,g⟩
 ·rcases List.mem_append.1 hy with hy|hy
  ·exact (h.some hf).2 y hy hn
  ·rw [List.mem_singleton.1 hy] at hn ⊢
   rcases hx with hx|⟨_,hx⟩
   ·exact absurd hx hn
   ·exact hx
theorem SpI.take {l:LB} {L:List (Nat × Nat × Nat)} {f:Int} {x:Nat × Nat × Nat} (h:SpI l L f) (hx:¬ okD l x) (hf:f<0∨(plD (vN l) x:Int)<f):SpI l (L++[x]) (plD (vN l) x:Nat):=by
 refine ⟨fun h=>by omega,fun _=>⟨⟨x,List.mem_append_right _ (List.mem_singleton.2 rfl),hx,rfl⟩,fun y hy hn=>?_⟩⟩
 rcases List.mem_append.1 hy with hy|hy
 ·by_cases h0:f<0
  ·exact absurd ((h.none h0).2 y hy) hn
  ·have:=(h.some Oo).2 y hy hn;omega
 ·rw [List.mem_singleton.1 hy];exact Int.le_refl _
theorem qhk {d:LB} {b:Nat}:∀ {t:Nat} {x:Nat × Nat × Nat},x∈mkD d b t↔∃ s,s<t∧bitN d (8*b+s)=1∧cnt d (8*b+s)%512=0∧x=(512,cnt d (8*b+s)/512,8*b+s)
 | 0,x=>by simp [mkD]
 | t+1,x=>by
  rw [mkD]
  split
  ·rename_i h
   rw [List.mem_append,qhk,List.mem_singleton]
   constructor
   ·rintro (⟨s,h1,h2⟩|rfl)
    ·exact ⟨s,by omega,h2⟩
    ·exact ⟨t,by omega,h.1,h.2,rfl⟩
   ·rintro ⟨s,h1,h2,h3,h4⟩
    by_cases e:s=t
    ·subst e;exact .inr h4
    ·exact .inl ⟨s,by omega,h2,h3,h4⟩
  ·rename_i h
   rw [qhk]
   constructor
   ·rintro ⟨s,h1,h2⟩;exact ⟨s,by omega,h2⟩
   ·rintro ⟨s,h1,h2,h3,h4⟩
    by_cases e:s=t
    ·subst e;exact absurd ⟨h2,h3⟩ h
    ·exact ⟨s,by omega,h2,h3,h4⟩
theorem qd0 {d:LB}:∀ {nb:Nat} {x:Nat × Nat × Nat},x∈dirD d nb↔∃ b,b<nb∧(x∈grD d b∨x∈smD d b∨x∈mkD d b 8)
 | 0,x=>by simp [dirD]
 | nb+1,x=>by
  rw [dirD,List.mem_append,qd0,List.mem_append,List.mem_append]
  constructor
  ·rintro (⟨b,h1,h2⟩|h)
   ·exact ⟨b,by omega,h2⟩
   ·exact ⟨nb,by omega,h⟩
  ·rintro ⟨b,h1,h2⟩
   by_cases e:b=nb
   ·subst e;exact .inr h2
   ·exact .inl ⟨b,by omega,h2⟩
theorem qr2 {d:LB} {k:Nat}:∀ {n:Nat},k<cnt d n→∃ i,i<n∧cnt d i=k∧bitN d i=1
 | 0,h=>by simp [cnt] at h
 | n+1,h=>by
  by_cases h1:k<cnt d n
  ·obtain ⟨i,a,b⟩:=qr2 h1;exact ⟨i,by omega,b⟩
  ·have h2:=qct d n;rw [cnt] at h;exact ⟨n,by omega,by omega,by omega⟩
theorem q6f (d:LB) {i:Nat} (hb:bitN d i=1) (hm:cnt d i%512=0):∀ n,i<n→((mL d n).drop (4*(cnt d i/512))).take 4=fixL i 4:=by
 intro n hn
 induction hn with
 | refl=>
  have hl:=qsi d i;have e:4*(cnt d i/512)=(mL d i).length:=by rw [hl];unfold upN;omega
  rw [mL,if_pos ⟨hb,hm⟩,e,List.drop_left,List.take_of_length_le (by rw [q9];exact Nat.le_refl _)]
 | step hn ih=>
  rename_i n
  have hl:=qsi d n;have hc:cnt d i+1≤cnt d n:=by
   have h1:cnt d (i+1)=cnt d i+bitN d i:=rfl;have h2:=qez (d:=d) (a:=i+1) (b:=n) hn;omega
  rw [mL]
  split
  ·rw [List.drop_append_of_le_length (by rw [hl];unfold upN;omega),List.take_append_of_le_length (by rw [zld,hl];unfold upN;omega)];exact ih
  ·exact ih
theorem qz5 {p:Nat→Prop}:∀ {n:Nat},p n→∃ i,p i∧i≤n∧∀ j,j<i→¬ p j:=by
 intro n
 induction n using Nat.strongRecOn with
 | _ n ih=>
  intro h
  by_cases g:∃ j,j<n∧p j
  ·obtain ⟨j,h1,h2⟩:=g;obtain ⟨i,a,b,c⟩:=ih j h1 h2;exact ⟨i,a,by omega,c⟩
  ·exact ⟨n,h,Nat.le_refl _,fun j hj hp=>g ⟨j,hj,hp⟩⟩
theorem q4j {l m:LB} {a s:Nat} (h:(l.drop a).take s≠(m.drop a).take s):∃ r,r<s∧l[a+r]?≠m[a+r]?:=by
 apply Classical.byContradiction;intro hn;refine h (List.ext_getElem? fun i=>?_)
 by_cases hi:i<s
 ·rw [List.getElem?_take_of_lt hi,List.getElem?_take_of_lt hi,List.getElem?_drop,List.getElem?_drop];exact Classical.byContradiction fun g=>hn ⟨i,hi,g⟩
 ·rw [List.getElem?_eq_none (by rw [List.length_take];omega),List.getElem?_eq_none (by rw [List.length_take];omega)]
theorem qpg {l m:LB} {a s r:Nat} (h:(l.drop a).take s=(m.drop a).take s) (hr:r<s):l[a+r]?=m[a+r]?:=by
 have:=congrArg (fun x=>x[r]?) h
 simpa only [List.getElem?_take_of_lt hr,List.getElem?_drop] using this
section
variable {l:LB} (hv:vOk l=true) (hp:¬ PadB (vD l) (vN l)) (hc:cnt (vD l) (vN l)=vM l)
include hv
theorem qta:(vD l).length=upN (vN l) 8:=by
 simp only [vOk,Bool.and_eq_true,decide_eq_true_eq] at hv;have h1:qal (vN l) (vM l)=qn (vN l)+4*upN (vN l) 2048+2*upN (vN l) 256+4*upN (vM l) 512:=rfl;have h2:qn (vN l)=8+upN (vN l) 8:=rfl;rw [vD,List.length_take,zld];omega
include hp hc
theorem qp1 {x:Nat × Nat × Nat} (hx:x∈dirD (vD l) (upN (vN l) 8)):qn (vN l)≤plD (vN l) x∧plD (vN l) x+szD x≤qal (vN l) (vM l)∧
  (∀ r,r<szD x→qbu (vN l) (plD (vN l) x+r)=plD (vN l) x)∧((qcj (vD l) (vN l)).drop (plD (vN l) x)).take (szD x)=fixL x.2.2 (szD x)∧x.2.2<256 ^ szD x:=by
 have hdl:=qta hv;have hN:vN l≤67108864:=by
  simp only [vOk,Bool.and_eq_true,decide_eq_true_eq] at hv;exact hv.1.1.2
 obtain ⟨d,ed⟩:∃ d,d=vD l:=⟨_,rfl⟩
 obtain ⟨n,en⟩:∃ n,n=vN l:=⟨_,rfl⟩
 rw [← ed,← en] at hdl hp hc hx;rw [← en] at hN;rw [← ed,← en];have hW:=qlw d n;rw [hdl] at hW;have hG:qn n=8+upN n 8:=rfl;have hS:q7 n=qn n+4*upN n 2048:=rfl;have hM:qaq n=q7 n+2*upN n 256:=rfl;have hE:qal n (vM l)=qaq n+4*upN (vM l) 512:=rfl;rw [← hG] at hW;have hgl:=qle d n;have hsl:=qo6 d n;have u8:upN n 8=(n+7)/8:=rfl;have u2048:upN n 2048=(n+2047)/2048:=rfl;have u256:upN n 256=(n+255)/256:=rfl;have u512:upN (vM l) 512=(vM l+511)/512:=rfl;have hcn:∀ i,i≤n→cnt d i≤n:=fun i hi=>Nat.le_trans (qh3 d i) hi
 obtain ⟨b,hb,hx|hx|hx⟩:=qd0.1 hx
 ·unfold grD at hx
  split at hx
  ·rename_i h8
   rw [List.mem_singleton.1 hx];have e:plD n (2048,8*b/2048,cnt d (8*b))=qn n+4*(8*b/2048):=rfl;have e2:szD (2048,8*b/2048,cnt d (8*b))=4:=rfl;have hj:8*b/2048<upN n 2048:=by omega
   rw [e,e2];refine ⟨by omega,by omega,fun r hr=>?_,?_,?_⟩
   ·unfold qbu;rw [if_pos Oo];omega
   ·rw [← List.drop_drop,hW,List.drop_append_of_le_length Oo,List.take_append_of_le_length (by rw [zld];omega),q47 _ _ _ hj]
    congr 2;omega
   ·have:=hcn (8*b) Oo;show cnt d (8*b)<4294967296;omega
  ·cases hx
 ·unfold smD at hx
  split at hx
  ·rename_i h8
   rw [List.mem_singleton.1 hx];obtain ⟨v,ev⟩:∃ v,v=cnt d (8*b)-cnt d (2048*(8*b/2048)):=⟨_,rfl⟩
   rw [← ev];have e:plD n (256,8*b/256,v)=q7 n+2*(8*b/256):=rfl;have e2:szD (256,8*b/256,v)=2:=rfl;have hj:8*b/256<upN n 256:=by omega
   rw [e,e2];refine ⟨by omega,by omega,fun r hr=>?_,?_,?_⟩
   ·unfold qbu;rw [if_neg Oo,if_pos Oo];omega
   ·have e3:q7 n+2*(8*b/256)=qn n+((gL d n).length+2*(8*b/256)):=by omega
    have e4:∀ A B:LB,(A++B).drop (A.length+2*(8*b/256))=B.drop (2*(8*b/256)):=fun A B=>by rw [← List.drop_drop,List.drop_left]
    rw [e3,← List.drop_drop,hW,e4,List.drop_append_of_le_length Oo,List.take_append_of_le_length (by rw [zld];omega),q5r _ _ _ hj,ev];rw [show 256*(8*b/256)=8*b by omega,show 8*b/256/8=8*b/2048 by omega]
   ·have:=qlb d (2048*(8*b/2048)) (8*b-2048*(8*b/2048));rw [show 2048*(8*b/2048)+(8*b-2048*(8*b/2048))=8*b by omega] at this;show v<65536;omega
  ·cases hx
 ·obtain ⟨s,hs,h1,h2,rfl⟩:=qhk.1 hx;obtain ⟨i,ei⟩:∃ i,i=8*b+s:=⟨_,rfl⟩
  rw [← ei] at h1 h2 ⊢;have hin:i<n:=Classical.byContradiction fun g=>hp ⟨i,by omega,by rw [hdl];omega,h1⟩
  have hcl:cnt d i+1≤cnt d n:=by
   have h3:cnt d (i+1)=cnt d i+bitN d i:=rfl;have h4:=qez (d:=d) (a:=i+1) (b:=n) hin;omega
  have e:plD n (512,cnt d i/512,i)=qaq n+4*(cnt d i/512):=rfl;have e2:szD (512,cnt d i/512,i)=4:=rfl;have hj:cnt d i/512<upN (vM l) 512:=by omega
  rw [e,e2];refine ⟨by omega,by omega,fun r hr=>?_,?_,?_⟩
  ·unfold qbu;rw [if_neg Oo,if_neg Oo];omega
  ·have e3:qaq n+4*(cnt d i/512)=qn n+((gL d n).length+((sL d n).length+4*(cnt d i/512))):=by omega
   have e4:∀ (A B:LB) (k:Nat),(A++B).drop (A.length+k)=B.drop k:=fun A B k=>by rw [← List.drop_drop,List.drop_left]
   rw [e3,← List.drop_drop,hW,e4,e4,q6f d h1 h2 n hin]
  ·show i<4294967296;omega
theorem qqk {x:Nat × Nat × Nat} (hx:x∈dirD (vD l) (upN (vN l) 8)):okD l x↔(l.drop (plD (vN l) x)).take (szD x)=((qcj (vD l) (vN l)).drop (plD (vN l) x)).take (szD x):=by
 obtain ⟨h1,h2,_,h4,h5⟩:=qp1 hv hp hc hx;have hlen:l.length=qal (vN l) (vM l):=by
  simp only [vOk,Bool.and_eq_true,decide_eq_true_eq] at hv;exact hv.2
 rw [h4];unfold okD
 constructor
 ·intro h;refine qqc (by rw [q9,List.length_take,zld];omega) ?_;rw [qhd,Nat.mod_eq_of_lt h5];exact h
 ·intro h;rw [h,qhd,Nat.mod_eq_of_lt h5]
omit hp in
theorem qn9 {i:Nat} (h1:qn (vN l)≤i) (h2:i<qal (vN l) (vM l)):∃ x∈dirD (vD l) (upN (vN l) 8),plD (vN l) x=qbu (vN l) i∧plD (vN l) x≤i∧i<plD (vN l) x+szD x:=by
 have hdl:=qta hv;obtain ⟨d,ed⟩:∃ d,d=vD l:=⟨_,rfl⟩
 obtain ⟨n,en⟩:∃ n,n=vN l:=⟨_,rfl⟩
 rw [← ed,← en] at hdl hc;rw [← en] at h1 h2;rw [← ed,← en];have hG:qn n=8+upN n 8:=rfl;have hS:q7 n=qn n+4*upN n 2048:=rfl;have hM:qaq n=q7 n+2*upN n 256:=rfl;have hE:qal n (vM l)=qaq n+4*upN (vM l) 512:=rfl;have u8:upN n 8=(n+7)/8:=rfl;have u2048:upN n 2048=(n+2047)/2048:=rfl;have u256:upN n 256=(n+255)/256:=rfl;have u512:upN (vM l) 512=(vM l+511)/512:=rfl
 by_cases g1:i<q7 n
 ·obtain ⟨j,ej⟩:∃ j,j=(i-qn n)/4:=⟨_,rfl⟩
  have e:8*(256*j)/2048=j:=by omega
  refine ⟨(2048,8*(256*j)/2048,cnt d (8*(256*j))),qd0.2 ⟨256*j,by omega,.inl ?_⟩,?_⟩
  ·unfold grD;rw [if_pos Oo];exact List.mem_singleton.2 rfl
  ·have e1:plD n (2048,8*(256*j)/2048,cnt d (8*(256*j)))=qn n+4*(8*(256*j)/2048):=rfl;have e2:szD (2048,8*(256*j)/2048,cnt d (8*(256*j)))=4:=rfl;rw [e1,e2,e];unfold qbu;rw [if_pos g1];omega
 ·by_cases g2:i<qaq n
  ·obtain ⟨j,ej⟩:∃ j,j=(i-q7 n)/2:=⟨_,rfl⟩
   have e:8*(32*j)/256=j:=by omega
   refine ⟨(256,8*(32*j)/256,cnt d (8*(32*j))-cnt d (2048*(8*(32*j)/2048))),qd0.2 ⟨32*j,by omega,.inr (.inl ?_)⟩,?_⟩
   ·unfold smD;rw [if_pos Oo];exact List.mem_singleton.2 rfl
   ·obtain ⟨v,ev⟩:∃ v,v=cnt d (8*(32*j))-cnt d (2048*(8*(32*j)/2048)):=⟨_,rfl⟩
    rw [← ev];have e1:plD n (256,8*(32*j)/256,v)=q7 n+2*(8*(32*j)/256):=rfl;have e2:szD (256,8*(32*j)/256,v)=2:=rfl;rw [e1,e2,e];unfold qbu;rw [if_neg g1,if_pos g2];omega
  ·obtain ⟨j,ej⟩:∃ j,j=(i-qaq n)/4:=⟨_,rfl⟩
   obtain ⟨i',k1,k2,k3⟩:=qr2 (d:=d) (k:=512*j) (n:=n) Oo;have e0:8*(i' / 8)+i' % 8=i':=by omega
   refine ⟨(512,cnt d i' / 512,i'),qd0.2 ⟨i' / 8,by omega,.inr (.inr (qhk.2 ⟨i' % 8,by omega,?_⟩))⟩,?_⟩
   ·rw [e0];exact ⟨k3,by omega,rfl⟩
   ·have e1:plD n (512,cnt d i' / 512,i')=qaq n+4*(cnt d i' / 512):=rfl;have e2:szD (512,cnt d i' / 512,i')=4:=rfl;rw [e1,e2];unfold qbu;rw [if_neg g1,if_neg g2];omega
theorem SpI.voE {f:Int} (h:SpI l (dirD (vD l) (upN (vN l) 8)) f):(f=-1∧voE l=(0,0))∨(0≤f∧∃ a:Nat,f=a∧voE l=(a,20)):=by
 by_cases hf:f<0
 ·obtain ⟨h1,h2⟩:=h.none hf;refine .inl ⟨h1,qy9 hp hc fun j h3 h4=>?_⟩;obtain ⟨x,hx,_,h5,h6⟩:=qn9 hv hc h3 h4;have:=qpg ((qqk hv hp hc hx).1 (h2 x hx)) (r:=j-plD (vN l) x) Oo
  rwa [show plD (vN l) x+(j-plD (vN l) x)=j by omega] at this
 ·obtain ⟨⟨x,hx,hbad,e⟩,hmin⟩:=h.some Oo;refine .inr ⟨by omega,plD (vN l) x,e,?_⟩;obtain ⟨g1,g2,g3,_,_⟩:=qp1 hv hp hc hx;obtain ⟨r,hr,hne⟩:=q4j (fun q=>hbad ((qqk hv hp hc hx).2 q));obtain ⟨i,⟨k1,k2,k3⟩,k4,k5⟩:=qz5 (p:=fun i=>qn (vN l)≤i∧i<qal (vN l) (vM l)∧l[i]?≠(qcj (vD l) (vN l))[i]?) (n:=plD (vN l) x+r) ⟨by omega,by omega,hne⟩;obtain ⟨y,hy,p1,p2,p3⟩:=qn9 hv hc k1 k2;have hyb:¬ okD l y:=fun q=>k3 (by
   have:=qpg ((qqk hv hp hc hy).1 q) (r:=i-plD (vN l) y) Oo
   rwa [show plD (vN l) y+(i-plD (vN l) y)=i by omega] at this)
  have hle:=hmin y hy hyb;have hst:=g3 (i-plD (vN l) x) Oo;rw [show plD (vN l) x+(i-plD (vN l) x)=i by omega] at hst;rw [← hst];exact q2m hp hc k1 k2 (fun j j1 j2=>Classical.byContradiction fun q=>k5 j j2 ⟨j1,by omega,q⟩) k3
end
theorem qlx:∀ (b:Nat) {a:Nat},a≤b→b<18446744073709551616→qbm a≤qbm b:=by
 intro b
 induction b using Nat.strongRecOn with
 | _ b ih=>
  intro a h hb
  by_cases ha:a=0
  ·subst ha;rw [qdp];exact Nat.zero_le _
  ·rw [qfb a ha Oo,qfb b Oo hb];have:=ih (b/2) Oo (a:=a/2) Oo Oo;omega
theorem qzf {a b:Nat} (ha:a<18446744073709551616) (hb:b<18446744073709551616):qbm (max a b)=max (qbm a) (qbm b):=by
 rcases Nat.le_total a b with h|h
 ·have:=qlx b h hb;rw [Nat.max_eq_right h,Nat.max_eq_right this]
 ·have:=qlx a h ha;rw [Nat.max_eq_left h,Nat.max_eq_left this]
def mxN (f:Nat→Nat):Nat→Nat
 | 0=>0
 | i+1=>max (mxN f i) (f i)
theorem qxk {f:Nat→Nat} {B:Nat} (hB:0<B):∀ {n:Nat},(∀ i,i<n→f i<B)→mxN f n<B
 | 0,_=>hB
 | n+1,h=>by
  have h1:=qxk hB (n:=n) fun i hi=>h i Oo
  have h2:=h n Oo;rw [mxN];omega
theorem qth {f:Nat→Nat} {xs:List Nat}:∀ {n:Nat},(∀ i,i<n→f i<18446744073709551616∧xs.getD i 0=f i)→qbm (mxN f n)=wMx xs n
 | 0,_=>qdp
 | n+1,h=>by
  obtain ⟨h1,h2⟩:=h n Oo;rw [mxN,wMx,qzf (qxk Od fun i hi=>(h i Oo).1) h1,qth fun i hi=>h i Oo,h2]
theorem q1x {l:LB} {k:Nat} (hw:tw l k≤23):qbm (mxN (tX l k) (vNum l k))=wMx (unpN (qj l k) (vNum l k) (tw l k)) (vNum l k):=
 qth fun i hi=>⟨Nat.lt_trans (qhz _ _ _ hw:tX l k i<2 ^ 23) Od,by simp [unpN,tX,List.getD_eq_getElem?_getD,hi]⟩
theorem q3s (p:LB) (n wd:Nat):opE p n wd≠0↔PadB p (n*wd):=by
 unfold opE PadB
 split
 ·rename_i h;exact ⟨fun _=>h,fun _=>by decide⟩
 ·rename_i h;exact ⟨fun g=>absurd rfl g,fun g=>absurd g h⟩
theorem q0v {p:LB} {n wd:Nat} (hp:p.length=(n*wd+7)/8):opE p n wd≠0↔n*wd%8≠0∧(p.getD (p.length-1) 0).toNat/2 ^ (n*wd%8)≠0:=by
 rw [q3s,qm5 (show p.length=upN (n*wd) 8 from hp)]
 constructor
 ·rintro ⟨h1,h2⟩;exact ⟨h1,by rw [show p.length-1=n*wd/8 by omega];exact h2⟩
 ·rintro ⟨h1,h2⟩;exact ⟨h1,by rw [show p.length-1=n*wd/8 by omega] at h2;exact h2⟩
def tz8 (x:Nat):Nat:=if x%2=1 then 0 else if x/2%2=1 then 1 else if x/4%2=1 then 2 else if x/8%2=1 then 3 else if x/16%2=1 then 4 else if x/32%2=1 then 5 else if x/64%2=1 then 6 else if x/128%2=1 then 7 else 8
def hi8 (x t:Nat):Nat:=x/2 ^ t*2 ^ t
theorem q49 {x t:Nat} (h:x<256):hi8 x t<256:=Nat.lt_of_le_of_lt (Nat.div_mul_le_self _ _) h
theorem q0d (x:Nat):hi8 x 0=x:=by simp [hi8]
theorem q4l:∀ x,x<256→∀ t,t<9→hi8 x t≠0→t≤tz8 (hi8 x t)∧tz8 (hi8 x t)<8∧x/2 ^ tz8 (hi8 x t)%2=1∧(hi8 x t) &&&(hi8 x t-1)=hi8 x (tz8 (hi8 x t)+1):=by decide +kernel
theorem q4m:∀ x,x<256→∀ t,t<9→∀ s,s<8→t≤s→s<tz8 (hi8 x t)→x/2 ^ s%2=0:=by decide +kernel
theorem q5z:∀ x,x<256→∀ t,t<9→hi8 x t=0→∀ s,s<8→t≤s→x/2 ^ s%2=0:=by decide +kernel
theorem qpv (d:LB) (b s:Nat) (hs:s<8):bitN d (8*b+s)=(d.getD b 0).toNat/2 ^ s%2:=by
 rw [bitN,show (8*b+s)/8=b by omega,show (8*b+s)%8=s by omega]
theorem qsk {d:LB} {b t:Nat}:∀ {u:Nat},t≤u→(∀ s,t≤s→s<u→bitN d (8*b+s)=0)→mkD d b u=mkD d b t∧cnt d (8*b+u)=cnt d (8*b+t):=by
 intro u hu
 induction hu with
 | refl=>intro _;exact ⟨rfl,rfl⟩
 | step hu ih=>
  rename_i u
  intro h;obtain ⟨h1,h2⟩:=ih fun s a b=>h s a Oo;have h3:=h u hu Oo;rw [mkD,if_neg (by rw [h3];omega)];refine ⟨h1,?_⟩;show cnt d (8*b+u)+bitN d (8*b+u)=_;rw [h3,h2,Nat.add_zero]
theorem qxj {d:LB} {b t:Nat} (ht:t<9) (h:hi8 (d.getD b 0).toNat t≠0) {u:Nat} (hu:u=tz8 (hi8 (d.getD b 0).toNat t)) :
  t≤u∧u<8∧bitN d (8*b+u)=1∧cnt d (8*b+u)=cnt d (8*b+t)∧mkD d b u=mkD d b t∧(hi8 (d.getD b 0).toNat t) &&&(hi8 (d.getD b 0).toNat t-1)=hi8 (d.getD b 0).toNat (u+1):=by
 obtain ⟨h1,h2,h3,h4⟩:=q4l _ (qv _) t ht h;rw [← hu] at h1 h2 h3 h4;obtain ⟨h5,h6⟩:=qsk (d:=d) (b:=b) h1 fun s a b'=>by
  rw [qpv _ _ _ Oo];exact q4m _ (qv _) t ht s Oo a (by rw [← hu];exact b')
 exact ⟨h1,h2,by rw [qpv _ _ _ h2];exact h3,h6,h5,h4⟩
theorem q3h {d:LB} {b t:Nat} (ht:t<9) (h:hi8 (d.getD b 0).toNat t=0):mkD d b 8=mkD d b t∧cnt d (8*(b+1))=cnt d (8*b+t):=by
 rcases Nat.lt_or_ge t 8 with h8|h8
 ·exact qsk (d:=d) (b:=b) (Nat.le_of_lt h8) fun s a b'=>by
   rw [qpv _ _ _ b'];exact q5z _ (qv _) t ht h s b' a
 ·obtain rfl:t=8:=by omega
  exact ⟨rfl,rfl⟩
theorem quf (d:LB) (A:oA) (l c n:Nat) (w:World) (hS:SlAt encB 1 w A d) (hl:d.length=l) (hd:d.length=upN n 8) (hb:n≤67108864) :
  Gv Tryz.prog 140 [.slice A l c,ii n] w fun v w'=>(∃ b,v=.bool b∧(b=true↔¬ PadB d n))∧w'=w:=by
 have hu:upN n 8=(n+7)/8:=rfl;refine ze Tryz.func140 Tryz.ntmps140 ?_;refine zt ?_;refine zC (fun _=>zu ?_) (fun _=>zu ?_)
 ·exact ⟨⟨true,rfl,⟨fun _ h=>((qm5 hd).1 h).1 Oo,fun _=>rfl⟩⟩,rfl⟩
 have hi:n/8<d.length:=by omega
 refine ElemV.bs hS hl (n/8) Oo Oo ?_;intro eb eo hc;refine zu ?_;refine LoadV.of hc (zu ?_);refine V.Wit.shrN (n%8) Oo (by show n%8<8;omega) (zu ?_);have hg:d.getD (n/8) 0=d[n/8]:=by rw [List.getD_eq_getElem?_getD,zge hi];rfl
 refine ⟨⟨_,rfl,?_⟩,rfl⟩;rw [qm5 hd,hg];obtain ⟨X,eX⟩:∃ X,X=d[n/8].toNat/2 ^ (n%8):=⟨_,rfl⟩
 rw [← eX];simp only [decide_eq_true_eq];omega
theorem qv4 (d:LB) (A:oA) (l c:Nat) (w:World) (hS:SlAt encB 1 w A d) (hl:d.length=l) (hb:l≤67108864) :
  Gv Tryz.prog 141 [.slice A l c] w fun v w'=>v=ii (cnt d (8*d.length))∧w'=w:=by
 refine ze Tryz.func141 Tryz.ntmps141 ?_;refine qr (fun i:Nat=>[(3,ii (cnt d (8*i))),(6,.slice A l c),(7,ii l),(8,ii i)]) (fun i w'=>i≤l∧w'=w) (fun i=>l-i) 0 ⟨rfl,rfl,rfl,rfl,trivial⟩ ⟨Nat.zero_le _,rfl⟩ ?_;rintro i w1 ρ' ⟨i1,rfl⟩;have hc8:=qh3 d (8*i);(conv=>whnf);refine zC (fun _=>zw ?_) (fun _=>zw ?_)
 ·have hi:i<d.length:=by omega
  refine ElemV.bs hS hl i rfl Oo ?_;intro eb eo hc;(conv=>whnf);refine LoadV.of hc (zw ?_);refine zcv (qjw d[i].toNat _ (qv _)) ?_;rintro r w2 ⟨rfl,rfl⟩;have h8:qeb d[i].toNat≤8:=by unfold qeb;omega
  have hs:cnt d (8*(i+1))=cnt d (8*i)+qeb d[i].toNat:=by
   have:=qr3 d i 1;rw [this,qaz,qaz,Nat.add_zero,List.getD_eq_getElem?_getD,zge hi,Nat.zero_add];rfl
  refine zu ?_;exact ⟨i+1,⟨by rw [hs];exact congrArg (Value.int .i64) Oo,rfl,rfl,rfl,trivial⟩,⟨by omega,rfl⟩,by omega⟩
 ·obtain rfl:i=l:=by omega
  exact ⟨by rw [hl],rfl⟩
theorem q4k (x:Nat) (w:World) (hx:x<256):Gv Tryz.prog 214 [.int .u8 x] w fun r w'=>r=ii (tz8 x)∧w'=w:=by
 refine ze Tryz.func214 Tryz.ntmps214 ?_;refine IdxV.nat (by show x<256;exact hx) (zw ?_);refine Wit.conv (qad (Nat.lt_of_lt_of_le (qv _) Od)) (zw ?_);refine ⟨congrArg (Value.int .i64) (congrArg Int.ofNat ?_),rfl⟩;clear w
 revert x
 decide +kernel
theorem ah8 (d:LB) (b:Nat):ahN d (8*(b+1))=cnt d (2048*(8*b/2048)):=by
 rw [ahN,if_neg Oo,show (8*(b+1)-1)/2048=8*b/2048 by omega]
theorem ah8' (d:LB) (b:Nat) (h:8*b%2048≠0):ahN d (8*b)=cnt d (2048*(8*b/2048)):=by
 rw [ahN,if_neg Oo,show (8*b-1)/2048=8*b/2048 by omega]
theorem qru (x:Nat) (h:x<256) (h0:x≠0):qeg .and .u8 (x:Int) ((x:Int)-1)=((x &&&(x-1):Nat):Int):=by
 have e:(x:Int)-1=((x-1:Nat):Int):=by omega
 rw [e];exact ql4 (qfy h) (qfy Oo)
theorem qmc (d:LB) (A:oA) (l c n:Nat) (w:World) (hl:d.length=l) (hd:d.length=upN n 8) (hb:n≤67108864) (g:FuncId) (c1 c2:Value) (I:List (Nat × Nat × Nat)→World→Prop)
  (hIx:∀ L w',I L w'→SlAt encB 1 w' A d) (h0:I [] w)
  (ht:∀ L x w',I L w'→x∈dirD d (upN n 8)→Gv Tryz.prog g [ii x.1,ii x.2.1,ii x.2.2,c1,c2] w' fun r w''=>r=.bool true∧I (L++[x]) w'') :
  Gv Tryz.prog 175 [.slice A l c,ii n,.func (.func g) #[] #[c1,c2]] w fun r w'=>r=.bool true∧I (dirD d (upN n 8)) w':=by
 have hu:upN n 8=(n+7)/8:=rfl;refine ze Tryz.func175 Tryz.ntmps175 ?_;refine qr (fun b:Nat=>[(0,.slice A l c),(1,ii n),(2,.func (.func g) #[] #[c1,c2]),(7,ii (cnt d (8*b))),(8,ii (ahN d (8*b))),(9,ii (8*b:Nat))]) (fun b w'=>b≤upN n 8∧I (dirD d b) w') (fun b=>upN n 8-b) 0
  ⟨rfl,rfl,rfl,rfl,rfl,rfl,trivial⟩ ⟨Nat.zero_le _,h0⟩ ?_
 rintro b w1 ρ' ⟨b1,hI⟩;have hcb:=qh3 d (8*b);have hcm:cnt d (2048*(8*b/2048))≤cnt d (8*b):=qez Oo;have hnext:∀ {x},b<upN n 8→x∈grD d b∨x∈smD d b∨x∈mkD d b 8→x∈dirD d (upN n 8):=fun hbn hx=>qd0.2 ⟨b,hbn,hx⟩
 (conv=>whnf)
 (repeat' (first|refine zp ?_|refine zC (fun _=>zw ?_) (fun _=>zw ?_)))
 case' refine_1.refine_1=>
  have hbn:b<upN n 8:=by omega
  have hbl:b<d.length:=by omega
  rw [show ((8*b:Nat):Int)/2048=((8*b/2048:Nat):Int) by omega];have hgr:grD d b=[(2048,8*b/2048,cnt d (8*b))]:=by rw [grD,if_pos Oo]
  have hsm:smD d b=[(256,8*b/256,cnt d (8*b)-cnt d (2048*(8*b/2048)))]:=by rw [smD,if_pos Oo]
  have ha:cnt d (8*b)=cnt d (2048*(8*b/2048)):=by rw [show 2048*(8*b/2048)=8*b by omega]
  refine zcv (ht (dirD d b) (2048,8*b/2048,cnt d (8*b)) w1 hI (hnext hbn (.inl (by rw [hgr];exact List.mem_singleton.2 rfl)))) ?_;rintro r w2 ⟨rfl,hI2⟩;rw [← hgr] at hI2;refine zu ?_;rw [show ((8*b:Nat):Int)/256=((8*b/256:Nat):Int) by omega,show (cnt d (8*b):Int)-(cnt d (8*b):Int)=((cnt d (8*b)-cnt d (2048*(8*b/2048)):Nat):Int) by omega];refine zcv (ht (dirD d b++grD d b) (256,8*b/256,cnt d (8*b)-cnt d (2048*(8*b/2048))) w2 hI2 (hnext hbn (.inr (.inl (by rw [hsm];exact List.mem_singleton.2 rfl))))) ?_;rintro r w3 ⟨rfl,hI3⟩;rw [← hsm,List.append_assoc] at hI3;refine zu ?_
 case' refine_1.refine_2.refine_1=>
  have hbn:b<upN n 8:=by omega
  have hbl:b<d.length:=by omega
  have hgr:grD d b=[]:=by rw [grD,if_neg Oo]
  have hsm:smD d b=[(256,8*b/256,cnt d (8*b)-cnt d (2048*(8*b/2048)))]:=by rw [smD,if_pos Oo]
  have ha:=ah8' d b Oo;refine zv ?_;rw [show ((8*b:Nat):Int)/256=((8*b/256:Nat):Int) by omega,show (cnt d (8*b):Int)-(ahN d (8*b):Int)=((cnt d (8*b)-cnt d (2048*(8*b/2048)):Nat):Int) by omega];refine zcv (ht (dirD d b) (256,8*b/256,cnt d (8*b)-cnt d (2048*(8*b/2048))) w1 hI (hnext hbn (.inr (.inl (by rw [hsm];exact List.mem_singleton.2 rfl))))) ?_;rintro r w3 ⟨rfl,hI3⟩;rw [← hsm,← List.nil_append (smD d b),← hgr] at hI3;refine zu ?_
 case' refine_1.refine_2.refine_2=>
  have hbn:b<upN n 8:=by omega
  have hbl:b<d.length:=by omega
  have hgr:grD d b=[]:=by rw [grD,if_neg Oo]
  have hsm:smD d b=[]:=by rw [smD,if_neg Oo]
  have ha:=ah8' d b Oo;have hI3:I (dirD d b++(grD d b++smD d b)) w1:=by rw [hgr,hsm,List.append_nil,List.append_nil];exact hI
 case' refine_2=>
  obtain rfl:b=upN n 8:=by omega
  exact ⟨rfl,hI⟩
 all_goals
  refine ElemV.bs (hIx _ _ hI3) hl b Oo Oo ?_;intro eb eo hc;(conv=>whnf);refine LoadV.of hc (zw ?_);have hX:d[b]=d.getD b 0:=by rw [List.getD_eq_getElem?_getD,zge hbl];rfl
  refine qr (fun t:Nat=>[(0,.slice A l c),(1,ii n),(2,.func (.func g) #[] #[c1,c2]),(7,ii (cnt d (8*b+t))),(8,ii (cnt d (2048*(8*b/2048)))),(9,ii (8*b:Nat)),(10,.int .u8 (hi8 (d.getD b 0).toNat t))])
   (fun t w'=>t≤8∧I (dirD d b++(grD d b++(smD d b++mkD d b t))) w') (fun t=>9-t) 0
   ⟨rfl,rfl,rfl,rfl,congrArg (fun n:Nat=>ii n) ha,rfl,congrArg (fun n:Nat=>Value.int .u8 n) (by rw [q0d,hX]),trivial⟩ ⟨Nat.zero_le _,by rw [mkD,List.append_nil];exact hI3⟩ ?_
  rintro t w4 ρ2 ⟨t8,hI4⟩;have hlt:=q49 (t:=t) (qv (d.getD b 0));have hct:=qh3 d (8*b+t);conv=>whnf
  (repeat' (first|refine zp ?_|refine zC (fun _=>zw ?_) (fun _=>zw ?_)))
  ·rename_i hz h5
   obtain ⟨m1,m2,m3,m4,m5,m6⟩:=qxj (d:=d) (b:=b) (t:=t) Oo Oo rfl;obtain ⟨u,eu⟩:∃ u,u=tz8 (hi8 (d.getD b 0).toNat t):=⟨_,rfl⟩
   have hq:=q4k (hi8 (d.getD b 0).toNat t);rw [← eu] at m1 m2 m3 m4 m5 m6 hq;have hc1:cnt d (8*b+(u+1))=cnt d (8*b+t)+1:=by rw [show 8*b+(u+1)=8*b+u+1 from rfl,cnt,m3,m4]
   have hmk:mkD d b (u+1)=mkD d b t++[(512,cnt d (8*b+t)/512,8*b+u)]:=by rw [mkD,if_pos ⟨m3,by omega⟩,m5,m4]
   rw [show (cnt d (8*b+t):Int)/512=((cnt d (8*b+t)/512:Nat):Int) by omega];refine zcv (hq w4 hlt) ?_;rintro r w5 ⟨rfl,rfl⟩;refine zu ?_;rw [show ((8*b:Nat):Int)+(u:Int)=((8*b+u:Nat):Int) by omega];refine zcv (ht _ (512,cnt d (8*b+t)/512,8*b+u) w5 hI4 (hnext hbn (.inr (.inr (qhk.2 ⟨u,m2,m3,by omega,by rw [m4]⟩))))) ?_;rintro r w6 ⟨rfl,hI6⟩;rw [List.append_assoc,List.append_assoc,List.append_assoc,← hmk] at hI6;refine zu ?_;refine Wit.eq (qru _ hlt Oo) ?_;rw [m6];(conv=>whnf);exact ⟨u+1,⟨rfl,rfl,rfl,by rw [hc1];rfl,rfl,rfl,rfl,trivial⟩,⟨by omega,hI6⟩,by omega⟩
  ·rename_i hz h5
   obtain ⟨m1,m2,m3,m4,m5,m6⟩:=qxj (d:=d) (b:=b) (t:=t) Oo Oo rfl;obtain ⟨u,eu⟩:∃ u,u=tz8 (hi8 (d.getD b 0).toNat t):=⟨_,rfl⟩
   rw [← eu] at m1 m2 m3 m4 m5 m6;have hc1:cnt d (8*b+(u+1))=cnt d (8*b+t)+1:=by rw [show 8*b+(u+1)=8*b+u+1 from rfl,cnt,m3,m4]
   have hmk:mkD d b (u+1)=mkD d b t:=by rw [mkD,if_neg Oo,m5]
   refine Wit.eq (qru _ hlt Oo) ?_;rw [m6];(conv=>whnf);exact ⟨u+1,⟨rfl,rfl,rfl,by rw [hc1];rfl,rfl,rfl,rfl,trivial⟩,⟨by omega,by rw [hmk];exact hI4⟩,by omega⟩
  ·obtain ⟨m1,m2⟩:=q3h (d:=d) (b:=b) (t:=t) Oo Oo;exact ⟨b+1,⟨rfl,rfl,rfl,by rw [m2];rfl,by rw [ah8];rfl,congrArg (Value.int .i64) Oo,trivial⟩,⟨by omega,by rw [dirD,m1];exact hI4⟩,by omega⟩
theorem qhy {l:LB} (hv:vOk l=true):8≤l.length∧vN l≤67108864∧vM l≤vN l∧l.length=qal (vN l) (vM l)∧qal (vN l) (vM l)≤1000000000:=by
 simp only [vOk,Bool.and_eq_true,decide_eq_true_eq] at hv;obtain ⟨⟨⟨v1,v2⟩,v3⟩,v4⟩:=hv;exact ⟨v1,v2,v3,v4,qkt _ _ v2 v3⟩
theorem qy7 (l:LB) (A:oA) (c b:Nat) (w:World) (hS:SlAt encB 1 w A l) (hc:l.length≤c) (hv:vOk l=true) (hb:w.heap[b]?=some (vecO 237 (.slice A l.length c) (vN l) (vM l))) :
  Gv Tryz.prog 139 [pp b] w fun r w'=>(∃ A' c',r=.slice A' (upN (vN l) 8) c'∧SlAt encB 1 w' A' (vD l))∧Ext w w':=by
 obtain ⟨v1,v2,v3,v4,v5⟩:=qhy hv;have g1:qn (vN l)=8+upN (vN l) 8:=rfl;have g2:q7 (vN l)=qn (vN l)+4*upN (vN l) 2048:=rfl;have g3:qaq (vN l)=q7 (vN l)+2*upN (vN l) 256:=rfl;have g4:qal (vN l) (vM l)=qaq (vN l)+4*upN (vM l) 512:=rfl;have hcut:=SlAt.cut hS (lo:=8) (hi:=qn (vN l)) (m:=c) Oo Oo Oo rfl;rw [show qn (vN l)-8=upN (vN l) 8 by omega] at hcut;refine ze Tryz.func139 Tryz.ntmps139 ?_;refine DrawV.free Jk Jk (zw ?_);(iterate 3 (refine zd ?_));refine zf ?_ (by intro wd hd;(conv=>whnf);refine LoadV.own (Ext.get (Ext.trans (Ext.drew xr) hd) hb) rfl ?_;(conv=>whnf);exact ⟨xr,rfl⟩);(iterate 4 (refine zd ?_));refine zf ?_ (by intro wd hd;(conv=>whnf);refine LoadV.own (Ext.get (Ext.trans (Ext.drew xr) hd) hb) rfl ?_;(conv=>whnf);exact ⟨xr,rfl⟩);(iterate 4 (refine zd ?_));refine zf ?_ (by intro wd hd;(conv=>whnf);refine LoadV.own (Ext.get (Ext.trans (Ext.drew xr) hd) hb) rfl ?_;(conv=>whnf);exact ⟨xr,rfl⟩);apply zsd
 ·intro wd hd;(conv=>whnf);refine SliceV.to 8 (qn (vN l)) c rfl rfl rfl Oo Oo znr (fun h=>by cases h) (zw ?_);exact ⟨xr,rfl⟩
 (conv=>whnf);refine zd ?_;intro w1 he1;(conv=>whnf);have hx:=(Ext.refl w).drew.trans he1;exact ⟨⟨_,_,by rw [show qn (vN l)-8=upN (vN l) 8 by omega];rfl,hcut.ext hx⟩,hx⟩
theorem qtc (l:LB) (A:oA) (c b i:Nat) (w:World) (hS:SlAt encB 1 w A l) (hv:vOk l=true) (hb:w.heap[b]?=some (vecO 237 (.slice A l.length c) (vN l) (vM l))) (hi:i<vN l) :
  Gv Tryz.prog 97 [pp b,ii i] w fun r w'=>r=.bool (decide (bitN (l.drop 8) i=1))∧Ext w w':=by
 obtain ⟨v1,v2,v3,v4,v5⟩:=qhy hv;have g1:qn (vN l)=8+(vN l+7)/8:=rfl;have g4:qn (vN l)≤qal (vN l) (vM l):=by unfold qal qaq q7;omega
 refine ze Tryz.func97 Tryz.ntmps97 ?_;refine zy ?_;refine zv ?_;refine LoadV.own ((Ext.refl w).drew.get hb) rfl (zu ?_);refine LoadV.own ((Ext.refl w).drew.get hb) rfl (zu ?_);refine LoadV.own ((Ext.refl w).drew.get hb) rfl (zu ?_);have hj:8+i/8<l.length:=by omega
 refine ElemV.bs (hS.ext (Ext.refl w).drew) rfl (8+i/8) Oo hj ?_;intro eb eo hcell;have hlt:=qv (l[8+i/8]);have hlt2:l[8+i/8].toNat/2 ^ (i%8)<256:=Nat.lt_of_le_of_lt (Nat.div_le_self _ _) hlt;have hbit:l[8+i/8].toNat/2 ^ (i%8)%2 ^ 1=bitN (l.drop 8) i:=by
  rw [bitN,List.getD_eq_getElem?_getD,List.getElem?_drop,zge hj];rfl
 refine zu ?_;refine LoadV.of hcell (zu ?_);refine V.Wit.shrN (i%8) Oo (by show i%8<8;omega) (zu ?_);refine Wit.eq (qav (k:=.u8) (m:=l[8+i/8].toNat/2 ^ (i%8)) 1 rfl (qfy hlt2) ⟨by omega,by omega⟩) ?_;rw [hbit];refine zu ?_;refine ⟨congrArg Value.bool ?_,(Ext.refl w).drew⟩;rw [Bool.eq_iff_iff];simp only [decide_eq_true_eq];omega
def SpM (l:LB) (w0:World) (b pb pf:Nat) (L:List (Nat × Nat × Nat)) (w:World):Prop:=
 ∃ f:Int,SpI l L f∧Mem w0 w [(pf,.cells #[ii f] 3),(pb,.cells #[pp b] 108)]
theorem qq6 (l:LB) (A:oA) (c b pb pf:Nat) (w0 w:World) (L:List (Nat × Nat × Nat)) (x:Nat × Nat × Nat) (hS:SlAt encB 1 w0 A l) (hc:l.length≤c) (hv:vOk l=true)
  (hb:w0.heap[b]?=some (vecO 237 (.slice A l.length c) (vN l) (vM l))) (hI:SpM l w0 b pb pf L w) (hk:x.1=2048∨x.1=256∨x.1=512) (hx:plD (vN l) x+szD x≤l.length) :
  Gv Tryz.prog 176 [ii x.1,ii x.2.1,ii x.2.2,pp pb,pp pf] w fun r w'=>r=.bool true∧SpM l w0 b pb pf (L++[x]) w':=by
 obtain ⟨v1,v2,v3,v4,v5⟩:=qhy hv;obtain ⟨f,hf,hm⟩:=hI;obtain ⟨k,y,z⟩:=x;have hb1:=hm.ext.get hb;have hS1:=hS.ext hm.ext;obtain ⟨g,off,rfl,_⟩:=hS.at_ (by intro e;rw [e] at v1;simp at v1);dsimp only at hk ⊢;have hy:y≤500000000:=by
  unfold plD at hx;dsimp only at hx
  split at hx
  ·omega
  ·split at hx<;>omega
 have u1:=qak (vN l) 8 Od;have u2:=qak (vN l) 2048 Od;have u3:=qak (vN l) 256 Od;have g1:qn (vN l)=8+upN (vN l) 8:=rfl;have g2:q7 (vN l)=qn (vN l)+4*upN (vN l) 2048:=rfl;have g3:qaq (vN l)=q7 (vN l)+2*upN (vN l) 256:=rfl;refine ze Tryz.func176 Tryz.ntmps176 ?_;refine zr hm 1 ?_;refine LoadV.own hb1 rfl (zw ?_)
 (repeat' (first|refine zp ?_|refine zC (fun _=>zw ?_) (fun _=>zw ?_)))
 case' refine_1=>
  obtain rfl:k=2048:=by omega
  have hP:plD (vN l) (2048,y,z)=qn (vN l)+4*y:=rfl;have hx:qn (vN l)+4*y+4≤l.length:=hx;have hZ:okD l (2048,y,z)↔leN ((l.drop (qn (vN l)+4*y)).take 4)=z:=Iff.rfl;refine zr hm 1 ?_;refine LoadV.own hb1 rfl (zu ?_);refine zr hm 1 ?_;refine LoadV.own hb1 rfl (zw ?_);refine SliceV.rest (qn (vN l)+4*y) (by show (_:Int)=_;omega) hc Oo (zw ?_);refine zcv (qf7 (l.drop (qn (vN l)+4*y)) _ _ _ _ (SlAt.rest hS1 Oo) (by rw [zld]) (by rw [zld];omega)) ?_
 case' refine_2.refine_1=>
  obtain rfl:k=256:=by omega
  have hP:plD (vN l) (256,y,z)=q7 (vN l)+2*y:=rfl;have hx:q7 (vN l)+2*y+2≤l.length:=hx;have hZ:okD l (256,y,z)↔leN ((l.drop (q7 (vN l)+2*y)).take 2)=z:=Iff.rfl;refine zr hm 1 ?_;refine LoadV.own hb1 rfl (zu ?_);refine zr hm 1 ?_;refine LoadV.own hb1 rfl (zw ?_);refine SliceV.rest (q7 (vN l)+2*y) (by show (_:Int)=_;omega) hc Oo (zw ?_);refine zcv (qy0 (l.drop (q7 (vN l)+2*y)) _ _ _ _ (SlAt.rest hS1 Oo) (by rw [zld]) (by rw [zld];omega)) ?_
 case' refine_2.refine_2=>
  obtain rfl:k=512:=by omega
  have hP:plD (vN l) (512,y,z)=qaq (vN l)+4*y:=rfl;have hx:qaq (vN l)+4*y+4≤l.length:=hx;have hZ:okD l (512,y,z)↔leN ((l.drop (qaq (vN l)+4*y)).take 4)=z:=Iff.rfl;refine zr hm 1 ?_;refine LoadV.own hb1 rfl (zw ?_);refine SliceV.rest (qaq (vN l)+4*y) (by show (_:Int)=_;omega) hc Oo (zw ?_);refine zcv (qf7 (l.drop (qaq (vN l)+4*y)) _ _ _ _ (SlAt.rest hS1 Oo) (by rw [zld]) (by rw [zld];omega)) ?_
 all_goals
  rintro r w9 ⟨rfl,he9⟩;have hm9:=hm.call he9;conv=>whnf
  (repeat' (first|refine zp ?_|refine zC (fun _=>zw ?_) (fun _=>zw ?_)))
  ·rename_i hz
   have hbad:=fun g=>hz (congrArg (Nat.cast:Nat→Int) (hZ.1 g))
   refine zr hm9 0 ?_
   (repeat' (first|refine zp ?_|refine zC (fun _=>zw ?_) (fun _=>zw ?_)))
   ·rename_i hf0
    refine StoreV.mem hm9 (i:=0) rfl Nat.zero_lt_one rfl fun w10 hm10=>zw ?_;exact ⟨rfl,_,hf.take hbad (.inl hf0),hm10⟩
   ·rename_i hf0
    refine zr hm9 0 ?_
    (repeat' (first|refine zp ?_|refine zC (fun _=>zw ?_) (fun _=>zw ?_)))
    ·rename_i hf1
     refine StoreV.mem hm9 (i:=0) rfl Nat.zero_lt_one rfl fun w10 hm10=>zw ?_;exact ⟨rfl,_,hf.take hbad (.inr hf1),hm10⟩
    ·rename_i hf1
     exact ⟨rfl,f,hf.keep (.inr ⟨by omega,by rw [hP];omega⟩),hm9⟩
  ·rename_i hz
   exact ⟨rfl,f,hf.keep (.inl (hZ.2 Oo)),hm9⟩
theorem qwe {d:LB} {nb:Nat} {x:Nat × Nat × Nat} (h:x∈dirD d nb):x.1=2048∨x.1=256∨x.1=512:=by
 obtain ⟨b,_,hx|hx|hx⟩:=qd0.1 h
 ·unfold grD at hx
  split at hx
  ·rw [List.mem_singleton.1 hx];exact .inl rfl
  ·cases hx
 ·unfold smD at hx
  split at hx
  ·rw [List.mem_singleton.1 hx];exact .inr (.inl rfl)
  ·cases hx
 ·obtain ⟨s,_,_,_,e⟩:=qhk.1 hx;rw [e];exact .inr (.inr rfl)
theorem qva (l:LB) (A A':oA) (c c' b:Nat) (w:World) (hS:SlAt encB 1 w A l) (hc:l.length≤c) (hv:vOk l=true)
  (hb:w.heap[b]?=some (vecO 237 (.slice A l.length c) (vN l) (vM l))) (hD:SlAt encB 1 w A' (vD l)) (hp:¬ PadB (vD l) (vN l)) (hcn:cnt (vD l) (vN l)=vM l) :
  Gv Tryz.prog 142 [pp b,.slice A' (upN (vN l) 8) c'] w fun r w'=>((r=ii (-1)∧voE l=(0,0))∨∃ a:Nat,r=ii a∧voE l=(a,20))∧Ext w w':=by
 obtain ⟨v1,v2,v3,v4,v5⟩:=qhy hv;have hd:=qta hv;refine ze Tryz.func142 Tryz.ntmps142 ?_;refine znm (Mem.nil w) fun pb w1 hm=>zw ?_;refine znm hm fun pf w2 hm=>zw ?_;refine StoreV.mem hm (i:=0) rfl Nat.zero_lt_one rfl fun w3 hm=>zw ?_;refine zr hm 1 ?_;refine LoadV.own (hm.ext.get hb) rfl (zw ?_);refine zcv (qmc (vD l) A' _ c' (vN l) w3 hd hd v2 _ (pp pb) (pp pf) (SpM l w b pb pf) (fun _ _ h=>let ⟨_,_,g⟩:=h;hD.ext g.ext) ⟨-1,SpI.nil l,hm⟩ (fun L x w' hI hx=>qq6 l A c b pb pf w w' L x hS hc hv hb hI (qwe hx) (by have:=(qp1 hv hp hcn hx).2.1;omega))) ?_;rintro r w4 ⟨rfl,f,hf,hm4⟩;(conv=>whnf);refine zr hm4 0 ?_;refine ⟨?_,hm4.ext⟩
 rcases hf.voE hv hp hcn with ⟨rfl,h⟩|⟨_,a,rfl,h⟩
 ·exact .inl ⟨rfl,h⟩
 ·exact .inr ⟨a,rfl,h⟩
def ROpR (l:LB) (s:Value) (w0:World) (v:Value) (w:World):Prop:=
 (voE l=(0,0)∧∃ b,v=.tuple #[pp b,.nilIface]∧w0.heap.size≤b∧w.heap[b]?=some (vecO 237 s (vN l) (vM l)))∨
 ((voE l).2≠0∧∃ e,v=.tuple #[.pointer none,e]∧ErrAt w e (voE l).1 (voE l).2)
theorem qu2 (l:LB) (A:oA) (c:Nat) (w:World) (hS:SlAt encB 1 w A l) (hc:l.length≤c) (hv:vOk l=true) :
  Gv Tryz.prog 96 [.slice A l.length c] w fun v w'=>ROpR l (.slice A l.length c) w v w'∧Ext w w':=by
 obtain ⟨v1,v2,v3,v4,v5⟩:=qhy hv;have hd:=qta hv;have hu:upN (vN l) 8=(vN l+7)/8:=rfl;have g1:qn (vN l)=8+upN (vN l) 8:=rfl;refine ze Tryz.func96 Tryz.ntmps96 ?_;refine zcv (qpa l A c w hS hc Oo) ?_;rintro v w1 ⟨⟨h,_⟩|⟨_,b,rfl,hbw,hb⟩,he1⟩
 ·rw [hv] at h;cases h
 refine zu ?_;have hS1:=hS.ext he1;refine zcv (qy7 l A c b w1 hS1 hc hv hb) ?_;rintro v w2 ⟨⟨A',c',rfl,hD⟩,he2⟩;(conv=>whnf);refine LoadV.own (he2.get hb) rfl (zw ?_);refine zcv (quf (vD l) A' _ c' (vN l) w2 hD hd hd v2) ?_;rintro v w3 ⟨⟨bb,rfl,hpad⟩,rfl⟩;(conv=>whnf);have hb2:=he2.get hb;have hx2:=he1.trans he2;cases bb
 ·have hP:PadB (vD l) (vN l):=Classical.byContradiction fun g=>by cases hpad.2 g
  refine zv ?_;refine LoadV.own hb2 rfl (zu ?_);rw [show (qn (vN l):Int)-1=((7+upN (vN l) 8:Nat):Int) by omega];refine zcv (qbz (7+upN (vN l) 8) 12 w3) ?_;rintro v w4 ⟨⟨q,rfl,hq⟩,he4⟩;(conv=>whnf);exact ⟨.inr ⟨by rw [qku hP];exact Nat.succ_ne_zero 11,_,rfl,by rw [qku hP];exact ⟨q,rfl,hq⟩⟩,hx2.trans he4⟩
 ·have hP:¬ PadB (vD l) (vN l):=hpad.1 rfl;refine zv ?_;refine DrawV.free Jk Jk (zw ?_);refine zd ?_;apply zsd
  ·intro wd hd';(conv=>whnf);refine zcv (qv4 (vD l) A' _ c' wd (hD.ext ((Ext.refl w3).drew.trans hd')) hd Oo) ?_;rintro v w9 ⟨rfl,rfl⟩;exact ⟨xr,rfl⟩
  (conv=>whnf);(iterate 3 (refine zd ?_));refine zf ?_ (by intro wd hd;(conv=>whnf);refine LoadV.own (Ext.get (Ext.trans (Ext.drew xr) hd) hb2) rfl ?_;(conv=>whnf);exact ⟨xr,rfl⟩);refine zd ?_;refine zd ?_;intro w4 he4;have hcn:cnt (vD l) (8*(vD l).length)=cnt (vD l) (vN l):=q21 hP Oo znr;have hx4:=hx2.trans ((Ext.refl w3).drew.trans he4);rw [hcn];(conv=>whnf);refine zC (fun _=>zw ?_) (fun _=>zw ?_)
  ·rename_i hne
   refine zcv (qbz 4 20 w4) ?_;rintro v w5 ⟨⟨q,rfl,hq⟩,he5⟩;(conv=>whnf);have hE:=qnx hP Oo;exact ⟨.inr ⟨by rw [hE];decide,_,rfl,by rw [hE];exact ⟨q,rfl,hq⟩⟩,hx4.trans he5⟩
  ·rename_i hne
   have hb4:=(Ext.refl w3).drew.trans he4 |>.get hb2;refine zcv (qva l A A' c c' b w4 (hS.ext hx4) hc hv hb4 (hD.ext ((Ext.refl w3).drew.trans he4)) hP Oo) ?_;rintro v w5 ⟨⟨rfl,hE⟩|⟨a,rfl,hE⟩,he5⟩
   ·refine zu ?_;exact ⟨.inl ⟨hE,b,rfl,by have:=he1.size;omega,he5.get hb4⟩,hx4.trans he5⟩
   ·refine zu ?_;refine zcv (qbz a 20 w5) ?_;rintro v w6 ⟨⟨q,rfl,hq⟩,he6⟩;(conv=>whnf);exact ⟨.inr ⟨by rw [hE];exact Nat.succ_ne_zero 19,_,rfl,by rw [hE];exact ⟨q,rfl,hq⟩⟩,hx4.trans (he5.trans he6)⟩
theorem qz6 (n:Nat) (w:World) (h:n≤64):Gv Tryz.prog 130 [ii n] w fun r w'=>r=.bool true∧w'=w:=by
 refine ze Tryz.func130 Tryz.ntmps130 ?_;refine zv ?_;exact ⟨congrArg Value.bool (decide_eq_true Oo),rfl⟩
theorem q07 (n wd:Nat) (w:World) (h:n*wd≤4398046511104):Gv Tryz.prog 131 [ii n,ii wd] w fun r w'=>r=ii ((n*wd+7)/8:Nat)∧w'=w:=by
 have e:(n:Int)*(wd:Int)=((n*wd:Nat):Int):=(Int.natCast_mul n wd).symm;refine ze Tryz.func131 Tryz.ntmps131 ?_;rw [e];obtain ⟨f,ef⟩:∃ f,f=n*wd:=⟨_,rfl⟩
 rw [← ef] at h ⊢;refine zv ?_;exact ⟨congrArg (Value.int .i64) Oo,rfl⟩
theorem qn1 (p:LB) (A:oA) (c n wd:Nat) (w:World) (hS:SlAt encB 1 w A p) (hp:p.length=(n*wd+7)/8) (hn:n≤4194304) (hw:wd≤64) :
  Gv Tryz.prog 77 [.slice A p.length c,ii n,ii wd] w fun v w'=>v=.tuple #[.agg (if opE p n wd=0 then #[.slice A p.length c,ii n,ii wd] else #[.slice none 0 0,ii 0,ii 0]),ii (opE p n wd)]∧Ext w w':=by
 have hb:n*wd≤4194304*64:=Nat.mul_le_mul hn hw;have hE:=q0v hp;have h012:opE p n wd=0∨opE p n wd=12:=by unfold opE;split<;>simp
 have e:(n:Int)*(wd:Int)=((n*wd:Nat):Int):=(Int.natCast_mul n wd).symm;refine ze Tryz.func77 Tryz.ntmps77 ?_;refine znm (Mem.nil w) fun pb w1 hm=>zw ?_;refine zcv (qz6 wd w1 hw) ?_;rintro r w2 ⟨rfl,rfl⟩;refine zu ?_;refine zcv (q07 n wd _ Oo) ?_;rintro r w2 ⟨rfl,rfl⟩;(conv=>whnf);refine zt ?_;refine zC (fun _=>zu ?_) (fun _=>zu ?_);have hS2:=hS.ext hm.ext;rw [e];obtain ⟨f,ef⟩:∃ f,f=n*wd:=⟨_,rfl⟩
 rw [← ef] at hp hb hE e ⊢
 ·rename_i hx
  rw [e] at hx;refine ElemV.bs hS2 rfl (p.length-1) Oo Oo ?_;intro b off hc;refine zu ?_;refine LoadV.of hc (zu ?_);rw [e];refine V.Wit.shrN (f%8) Oo (by show f%8<8;omega) (zw ?_);refine zt ?_;refine zC (fun _=>zw ?_) (fun _=>zw ?_)
  ·rename_i hz
   refine StoreA.all hm (i:=0) rfl rfl (by intro v hv;simp at hv;rcases hv with rfl|rfl<;>rfl) fun w3 hm3=>zw ?_;have hq:(p.getD (p.length-1) 0).toNat=p[p.length-1].toNat:=by rw [List.getD_eq_getElem?_getD,zge Oo];rfl
   rw [hq] at hE;have h0:opE p n wd=12:=h012.resolve_left (hE.2 ⟨by omega,fun g=>hz (by rw [g];rfl)⟩);refine qa (R:=fun v w'=>v=.tuple #[.agg (if opE p n wd=0 then #[.slice A p.length c,ii n,ii wd] else #[.slice none 0 0,ii 0,ii 0]),ii (opE p n wd)]∧Ext w w') (zw ?_);refine zl hm3 0 ?_;rw [h0];exact ⟨rfl,hm3.ext⟩
  ·rename_i hz
   refine StoreA.all hm (i:=0) rfl rfl (by intro v hv;simp at hv;rcases hv with rfl|rfl|rfl<;>rfl) fun w3 hm3=>zw ?_;have hq:(p.getD (p.length-1) 0).toNat=p[p.length-1].toNat:=by rw [List.getD_eq_getElem?_getD,zge Oo];rfl
   rw [hq] at hE;have h0:opE p n wd=0:=Classical.byContradiction fun g=>(hE.1 g).2 Oo
   refine qa (R:=fun v w'=>v=.tuple #[.agg (if opE p n wd=0 then #[.slice A p.length c,ii n,ii wd] else #[.slice none 0 0,ii 0,ii 0]),ii (opE p n wd)]∧Ext w w') (zw ?_);refine zl hm3 0 ?_;rw [h0];exact ⟨rfl,hm3.ext⟩
 ·rename_i hx
  rw [e] at hx;refine StoreA.all hm (i:=0) rfl rfl (by intro v hv;simp at hv;rcases hv with rfl|rfl|rfl<;>rfl) fun w3 hm3=>zw ?_;have h0:opE p n wd=0:=Classical.byContradiction fun g=>by have:=(hE.1 g).1;omega
  refine qa (R:=fun v w'=>v=.tuple #[.agg (if opE p n wd=0 then #[.slice A p.length c,ii n,ii wd] else #[.slice none 0 0,ii 0,ii 0]),ii (opE p n wd)]∧Ext w w') (zw ?_);refine zl hm3 0 ?_;rw [h0];exact ⟨rfl,hm3.ext⟩
namespace V
theorem Fall.assert {P:Program} {ρ:Nat→Value} {o:Oper} {x:Operand} {xT t:TypeId} {c:Bool} {w:World} {K:Value→World→Prop} (ho:o.op=.typeAssert x xT t c) (v:Value) (w':World)
  (hrun:(Instr.typeAssert (ev ρ x) xT t c).run P w=.ok v w') (hk:K v w'):Fall P (execOp (ev ρ) o) w K:=by
 have he:execOp (ev ρ) o=(do pure (.value (← Instr.typeAssert (ev ρ x) xT t c))):=by
  simp only [execOp,ho]
 rw [he];exact ⟨.inl ⟨v,w',by rw [Sem.run_bind,hrun];rfl,hk⟩⟩
end V
theorem q59 (n:Int) (w:World):(Instr.typeAssert (.iface 67 (ii n)) 26 67 true).run Tryz.prog w=.ok (.tuple #[ii n,.bool true]) w:=by kernel_rfl
theorem q2v (v:Value) (w:World):(Instr.typeAssert (.iface 98 v) 26 67 true).run Tryz.prog w=.ok (.tuple #[ii 0,.bool false]) w:=by kernel_rfl
theorem qvs (v:Value) (w:World):(Instr.typeAssert (.iface 98 v) 26 98 true).run Tryz.prog w=.ok (.tuple #[v,.bool true]) w:=by kernel_rfl
theorem qop (n:Int) (w:World):Gv Tryz.prog 36 [.iface 67 (ii n)] w fun v w'=>v=ii n∧Ext w w':=by
 refine ze Tryz.func36 Tryz.ntmps36 ?_;refine Fall.assert rfl _ _ (q59 n w) (zu ?_);exact ⟨rfl,xr⟩
theorem qq4 (w:World):Gv Tryz.prog 8 [.nilIface] w fun v w'=>v=fltV 0 0∧Ext w w':=by
 refine ze Tryz.func8 Tryz.ntmps8 ?_;refine znm (Mem.nil w) fun r w1 hm=>zu ?_;refine zS hm 0 fun w2 hm=>zw ?_;refine qa (R:=fun v w'=>v=fltV 0 0∧Ext w w') (zw ?_);refine zl hm 0 ?_;exact ⟨rfl,hm.ext⟩
theorem qfu (e:Value) (p n:Nat) (w:World) (h:ErrAt w e p n):Gv Tryz.prog 8 [e] w fun v w'=>v=fltV p n∧Ext w w':=by
 obtain ⟨b,rfl,hc⟩:=h;refine ze Tryz.func8 Tryz.ntmps8 ?_;refine znm (Mem.nil w) fun r w1 hm=>zu ?_;refine Fall.assert rfl _ _ (q2v _ w1) (zu ?_);refine Fall.assert rfl _ _ (qvs _ w1) (zu ?_);refine DrawV.inv (fun S w'=>Mem w w' [(r,.cells (bif S 10 then #[ii p,ii n] else #[ii 0,ii 0]) 36)]) rfl Jk hm.drew ?_;clear hm;(conv=>whnf);(iterate 3 (refine zi ?_));refine StepI.of (ii p) (fun S wd hk hp hI=>zw ?_) (zw ?_)
 ·refine LoadV.of (CellsAt.ext hc hI.ext 0 _ rfl) (zw ?_);exact ⟨rfl,hI⟩
 (iterate 3 (refine zi ?_));refine StepI.of (.iface 67 (ii n)) (fun S wd hk hp hI=>zw ?_) (zw ?_)
 ·refine LoadV.of (CellsAt.ext hc hI.ext 1 _ rfl) (zw ?_);exact ⟨rfl,hI⟩
 refine StepI.of (ii n) (fun S wd hk hp hI=>zw ?_) (zw ?_)
 ·refine zcv (qop n wd) ?_;rintro v wx ⟨rfl,hx⟩;exact ⟨rfl,hI.call hx⟩
 refine zi ?_;refine StepI.of undef (fun S wd hk hp hI=>?_) (zw ?_)
 ·dsimp only at hI;rw [hk] at hI;(conv=>whnf);refine zS hI 0 fun wx hmx=>zw ?_;exact ⟨rfl,hmx⟩
 intro wz hm;(conv=>whnf);refine qa (R:=fun v w'=>v=fltV p n∧Ext w w') (zw ?_);refine zl hm 0 ?_;exact ⟨rfl,hm.ext⟩
theorem qye (k n:Nat) (w:World):Gv Tryz.prog 98 [ii k,ii n] w fun r w'=>r=.bool (decide (¬ ((k≠0∧n=0)∨4194304<n)))∧w'=w:=by
 refine ze Tryz.func98 Tryz.ntmps98 ?_;refine V.Fall.min2 rfl rfl rfl fun m hm=>?_;(conv=>whnf);refine zC (fun _=>zu ?_) (fun _=>zu ?_)
 all_goals refine ⟨congrArg Value.bool ?_,rfl⟩
 all_goals first|exact (decide_eq_false Oo).symm|exact decide_eq_decide.2 Oo
structure Nb (w0:World) (t:TypeId) (n:Nat) (s:Bool) (v:Value) (w:World):Prop where
 e:Ext w0 w
 b:s=true→∃ x,v=pp x∧w0.heap.size≤x∧∃ cs:Array Value,cs.size=n∧w.heap[x]?=some (.cells cs t)
section
variable {w0 w w':World} {t:TypeId} {n:Nat} {s:Bool} {v:Value}
theorem Nb.start:Nb w0 t n false v w0:=⟨xr,fun h=>by cases h⟩
theorem Nb.call (h:Nb w0 t n s v w) (he:Ext w w'):Nb w0 t n s v w':=⟨h.e.trans he,fun hs=>let ⟨x,h1,h2,cs,h3,h4⟩:=h.b hs;⟨x,h1,h2,cs,h3,he.get h4⟩⟩
theorem Nb.alloc {cs:Array Value} (h:Nb w0 t n false v w) (hc:cs.size=n):Nb w0 t n true (.pointer (some ⟨w.heap.size,0,none⟩)) (w.alloc (.cells cs t)):=
 ⟨h.e.trans (xr.alloc _),fun _=>⟨_,rfl,h.e.size,cs,hc,heap_alloc_new _ _⟩⟩
theorem Nb.store {P:Program} {vs:List Value} {K:World→Prop} {x:Nat} (h:Nb w0 t n true v w) (hv:v=pp x) (hl:vs.length=n) (h1:∀ v∈vs,v.oneCell'=true) (hk:∀ w',Nb w0 t n true v w'→K w'):StoreA P w x 0 vs K:=by
 obtain ⟨y,hy,hge,cs,hc,hh⟩:=h.b rfl;rw [hv] at hy;cases hy;have hm:Mem w0 w [(x,.cells cs t)]:=(Mem.nil w0).fresh h.e hge hh;refine StoreA.all hm (i:=0) rfl Oo h1 fun w' hm'=>hk w' ⟨hm'.ext,fun _=>⟨x,hv,hge,vs.toArray,by simpa using hl,hm'.get mh⟩⟩
end
theorem q4u (n:Int) (w:World):(Instr.typeAssert (.iface 67 (ii n)) 26 67 false).run Tryz.prog w=.ok (ii n) w:=by kernel_rfl
def LkR (l:LB) (k:Nat) (v:Value) (w:World):Prop:=((lvE l k).2=0∧v=.nilIface)∨((lvE l k).2≠0∧ErrAt w v (lvE l k).1 (lvE l k).2)
theorem LkR.err {l:LB} {k a e:Nat} {v:Value} {w:World} (h:lvE l k=(a,e)) (h0:e≠0) (hv:ErrAt w v a e):LkR l k v w:=.inr ⟨by rw [h];exact h0,by rw [h];exact hv⟩
theorem q0n (l:LB) (b k:Nat) (w:World) (hT:TreeAt w b l) (hE:(tE l).2=0) (hk3:k<4) (hl:l.length≤140737488355328) :
  Gv Tryz.prog 49 [.pointer (some ⟨b,8*k,none⟩),ii k] w fun v w'=>LkR l k v w'∧Ext w w':=by
 obtain ⟨hz,hv⟩:=qpf hE;obtain ⟨z1,z2,z3⟩:=qkp (hv k hk3);have hnk:=qfk (hz k hk3);have t1:tvAt l k+1≤tEnd l k:=by show _≤tvAt l k+1+_;omega
 have t2:tEnd l k≤tvAt l (k+1):=by rw [qa9];omega
 have lenP:(qj l k).length=tEnd l k-(tvAt l k+1):=by rw [qj,List.length_take,zld];omega
 have lenP2:(qj l k).length=(vNum l k*tw l k+7)/8:=by rw [lenP];show tvAt l k+1+(vNum l k*tw l k+7)/8-_=_;omega
 have hw64:tw l k≤64:=by omega
 obtain ⟨P,cp,S,cs,vv,hc,hP,hS,hcs,hV⟩:=(hT.lv k hk3).h;have hnum:∀ (w':World) (i:Nat),Ext w w'→i≤4194304→Gv Tryz.prog 65 [.pointer (some ⟨b,8*k,none⟩),ii i] w' fun r w''=>r=ii (tX l k i)∧Ext w' w'':=fun w' i he hi=>by
  have:=qc1 b (8*k) i (tw l k) cp P (qj l k) w' (hc.ext he 1 _ rfl) (hc.ext he 5 _ rfl) (hP.ext he) z2 hi;rw [qsn _ _ _ Oo] at this;exact this
 have hXlt:∀ i,tX l k i<8388608:=fun i=>qhz _ _ _ z2
 refine ze Tryz.func49 Tryz.ntmps49 ?_;obtain ⟨E,eE⟩:∃ E,E=opE (qj l k) (vNum l k) (tw l k):=⟨_,rfl⟩
 obtain ⟨A1,n1,c1,x1,y1,hagg⟩:∃ A1 n1 c1,∃ x1 y1:Int,(if opE (qj l k) (vNum l k) (tw l k)=0 then #[.slice P (qj l k).length cp,ii (vNum l k),ii (tw l k)] else #[.slice none 0 0,ii 0,ii 0])=#[Value.slice A1 n1 c1,ii x1,ii y1]:=by
  split<;>exact ⟨_,_,_,_,_,rfl⟩
 refine DrawV.gen (fun S vals w'=>Nb w.drew 184 3 (S 16) (vals 16) w') rfl Jk (fun vals=>Nb.start) (zw ?_);(iterate 3 (refine zg ?_));refine StepG.of (.slice P (qj l k).length cp) (fun S vals wd hk hp hI=>zw ?_) (zw ?_)
 ·refine LoadV.of (hc.ext ((Ext.refl w).drew.trans hI.e) 5 _ rfl) (zw ?_);exact ⟨rfl,hI⟩
 (iterate 3 (refine zg ?_));refine StepG.of (ii (vNum l k)) (fun S vals wd hk hp hI=>zw ?_) (zw ?_)
 ·refine LoadV.of (hc.ext ((Ext.refl w).drew.trans hI.e) 0 _ rfl) (zw ?_);exact ⟨rfl,hI⟩
 (iterate 3 (refine zg ?_));refine StepG.of (ii (tw l k)) (fun S vals wd hk hp hI=>zw ?_) (zw ?_)
 ·refine LoadV.of (hc.ext ((Ext.refl w).drew.trans hI.e) 1 _ rfl) (zw ?_);exact ⟨rfl,hI⟩
 refine StepG.of (.tuple #[.agg #[.slice A1 n1 c1,ii x1,ii y1],ii E]) (fun S vals wd hk hp hI=>zw ?_) (zw ?_)
 ·refine zcv (qn1 (qj l k) P cp (vNum l k) (tw l k) wd (hP.ext ((Ext.refl w).drew.trans hI.e)) lenP2 Oo hw64) ?_;rintro v w9 ⟨rfl,h9⟩;exact ⟨by rw [hagg,eE];rfl,hI.call h9⟩
 (iterate 3 (refine zg ?_));refine StepG.any (fun S vals wd hk hp hI=>?_) (zw ?_)
 ·dsimp only at hI;rw [hk] at hI;(conv=>whnf);refine ⟨fun x wx hb hw=>?_⟩;subst hb hw;(conv=>whnf);exact ⟨trivial,hI.alloc rfl⟩
 refine StepG.of undef (fun S vals wd hk hp hI=>?_) (zw ?_)
 ·have h16:S 16=true:=hp 16 Od;dsimp only at hI;rw [h16] at hI;obtain ⟨x,hx,_⟩:=hI.b rfl;rw [qm hx];(conv=>whnf);refine hI.store hx rfl (by intro v hv;simp at hv;rcases hv with rfl|rfl|rfl<;>rfl) ?_;intro wx hIx;(conv=>whnf);exact ⟨rfl,by show Nb _ _ _ (S 16) (pp x) _;rw [h16,← hx];exact hIx⟩
 refine zg ?_;intro vals w1 hI;have he1:Ext w w1:=(Ext.refl w).drew.trans hI.e;clear hI;(conv=>whnf);refine zC (fun _=>zw ?_) (fun _=>zw ?_)
 ·rename_i hne
  have h0:opE (qj l k) (vNum l k) (tw l k)≠0:=by omega
  have h12:E=12:=by rw [eE];unfold opE at h0 ⊢;split at h0<;>simp_all
  refine LoadV.of (hc.ext he1 4 _ rfl) (zu ?_);rw [show ((tEnd l k:Nat):Int)-1=((tEnd l k-1:Nat):Int) by omega];refine zcv (qac (tEnd l k-1) E w1) ?_;rintro v w2 ⟨⟨q,rfl,hq⟩,he2⟩;rw [h12] at hq;(conv=>whnf);exact ⟨LkR.err (qqg h0) Od ⟨q,rfl,hq⟩,he1.trans he2⟩
 rename_i hE0
 have hE0:opE (qj l k) (vNum l k) (tw l k)=0:=by omega
 refine LoadV.of (hc.ext he1 0 _ rfl) (zw ?_);refine qr (fun i:Nat=>[(0,.pointer (some ⟨b,8*k,none⟩)),(1,ii k),(7,ii (mxN (tX l k) i)),(43,ii (vNum l k)),(44,ii i)]) (fun i w'=>i≤vNum l k∧Ext w w') (fun i=>vNum l k-i) 0
  ⟨rfl,rfl,rfl,rfl,rfl,trivial⟩ ⟨Nat.zero_le _,he1⟩ ?_
 rintro i w2 ρ' ⟨i1,he2⟩;(conv=>whnf);refine zC (fun _=>zw ?_) (fun _=>zw ?_)
 ·refine zcv (hnum w2 i he2 Oo) ?_;rintro r w3 ⟨rfl,he3⟩;(conv=>whnf);refine V.Fall.max2 rfl rfl rfl fun m hm=>?_;obtain rfl:m=((mxN (tX l k) (i+1):Nat):Int):=by rw [mxN];omega
  refine zu ?_;exact ⟨i+1,⟨rfl,rfl,rfl,rfl,congrArg (Value.int .i64) Oo,trivial⟩,⟨by omega,he2.trans he3⟩,by omega⟩
 obtain rfl:i=vNum l k:=by omega
 have hmx:mxN (tX l k) (vNum l k)<8388608:=qxk Od fun i _=>hXlt i
 have hwx:=q1x (l:=l) (k:=k) z2;obtain ⟨M,eM⟩:∃ M,M=mxN (tX l k) (vNum l k):=⟨_,rfl⟩
 rw [← eM] at hmx hwx ⊢;(conv=>whnf);refine DrawV.free Jk Jk (zw ?_);refine zd ?_;refine zd ?_;apply zsd
 ·intro wd hd;(conv=>whnf);refine zcv (qpt M wd Oo) ?_;rintro v w9 ⟨rfl,rfl⟩;exact ⟨xr,rfl⟩
 (conv=>whnf);(iterate 3 (refine zd ?_));apply zsd
 ·intro wd hd;(conv=>whnf);refine LoadV.of (hc.ext (he2.trans ((Ext.refl w2).drew.trans hd)) 1 _ rfl) (zw ?_);exact ⟨xr,rfl⟩
 (conv=>whnf);refine zd ?_;intro w3 hd3;have he3:=he2.trans ((Ext.refl w2).drew.trans hd3);rw [hwx];obtain ⟨wm,ewm⟩:∃ wm,wm=wMx (unpN (qj l k) (vNum l k) (tw l k)) (vNum l k):=⟨_,rfl⟩
 rw [← ewm];conv=>whnf
 (repeat' refine zC (fun _=>zw ?_) (fun _=>zw ?_))
 ·rename_i hne
  refine LoadV.of (hc.ext he3 2 _ rfl) (zw ?_);refine zcv (qac (tvAt l k) 14 w3) ?_;rintro v w4 ⟨⟨q,rfl,hq⟩,he4⟩;(conv=>whnf);exact ⟨LkR.err (qjq hE0 Oo) Od ⟨q,rfl,hq⟩,he3.trans he4⟩
 rename_i hwm hk0
 have hwm':wMx (unpN (qj l k) (vNum l k) (tw l k)) (vNum l k)=tw l k:=by omega
 rcases hV with ⟨hx,hvv⟩|⟨_,htv,vb,hvv,hvo⟩
 ·have hx:tVec l k=false:=hx.resolve_left Oo;refine LoadV.of (hc.ext he3 7 _ rfl) ?_;rw [hvv];refine zu ?_;refine LoadV.of (hc.ext he3 4 _ rfl) (zw ?_);refine zcv (qac (tEnd l k) 180 w3) ?_;rintro v w4 ⟨⟨q,rfl,hq⟩,he4⟩;(conv=>whnf);have h1:(vcE l k).2≠0:=by rw [qpo hx];exact Nat.succ_ne_zero 179
  exact ⟨LkR.err ((qjp hE0 hwm' Oo h1).trans (qpo hx)) Od ⟨q,rfl,hq⟩,he3.trans he4⟩
 refine LoadV.of (hc.ext he3 7 _ rfl) ?_;rw [hvv];refine zu ?_;refine LoadV.of (hc.ext he3 6 _ rfl) (zw ?_);have htv2:=htv;simp only [tVec,Bool.and_eq_true,decide_eq_true_eq] at htv2;obtain ⟨⟨hvok,hvn⟩,hvm⟩:=htv2;rw [← hvn,← hvm] at hvo;refine zcv (qu2 (qi l k) S cs w3 (hS.ext he3) hcs hvok) ?_;rintro v w4 ⟨⟨hvo0,vb2,rfl,_,_⟩|⟨hvo0,e,rfl,q,rfl,hq⟩,he4⟩
 rotate_left
 ·have h1:(vcE l k).2≠0:=by rw [qte htv hvo0];exact hvo0
  have h2:=(qjp hE0 hwm' Oo h1).trans (qte htv hvo0);have hb1:(voE (qi l k)).1≤1125899906842624:=by
   have h3:=qy8 (qi l k);have h4:=(qhy hvok).2.2.2.2;omega
  obtain ⟨a,ea⟩:∃ a,a=(voE (qi l k)).1:=⟨_,rfl⟩
  obtain ⟨c,ec⟩:∃ c,c=(voE (qi l k)).2:=⟨_,rfl⟩
  rw [← ea] at hq h2 hb1;rw [← ec] at hq h2 hvo0;refine zu ?_;refine V.Fall.assert rfl _ _ (qvs _ w4) (zw ?_);have he4':=he3.trans he4;refine DrawV.free Jk Jk (zw ?_);(iterate 3 (refine zd ?_));apply zsd
  ·intro wd hd;(conv=>whnf);refine LoadV.of (hc.ext (he4'.trans ((Ext.refl w4).drew.trans hd)) 4 _ rfl) (zw ?_);exact ⟨xr,rfl⟩
  (conv=>whnf);(iterate 3 (refine zd ?_));apply zsd
  ·intro wd hd;(conv=>whnf);refine LoadV.of (hq.ext ((Ext.refl w4).drew.trans hd) 0 _ rfl) (zw ?_);exact ⟨xr,rfl⟩
  (conv=>whnf);(iterate 4 (refine zd ?_));apply zsd
  ·intro wd hd;(conv=>whnf);refine LoadV.of (hq.ext ((Ext.refl w4).drew.trans hd) 1 _ rfl) (zw ?_);exact ⟨xr,rfl⟩
  (conv=>whnf);apply zsd
  ·intro wd hd;(conv=>whnf);refine V.Fall.assert rfl _ _ (q4u _ wd) (zw ?_);exact ⟨xr,rfl⟩
  (conv=>whnf);apply StepD.of (fun v wx=>ErrAt wx v (tEnd l k+a) c) (fun v wx wy h he=>let ⟨q,h1,h2⟩:=h;⟨q,h1,h2.ext he⟩)
  ·intro wd hd;(conv=>whnf);rw [show ((tEnd l k:Nat):Int)+(a:Int)=((tEnd l k+a:Nat):Int) by omega];refine zcv (qac (tEnd l k+a) c wd) ?_;rintro v w9 ⟨he,h9⟩;exact ⟨h9,he⟩
  (conv=>whnf);apply StepD.of (fun v wx=>ErrAt wx v (tEnd l k+a) c) (fun v wx wy h he=>let ⟨q,h1,h2⟩:=h;⟨q,h1,h2.ext he⟩)
  ·intro wd hd;conv=>whnf
   iterate 2 (rintro _ _;(conv=>whnf))
   rintro v ⟨q,rfl,hq⟩;conv=>whnf
   (repeat (rintro _ _;(conv=>whnf)))
   exact ⟨xr,q,rfl,hq⟩
  (conv=>whnf);intro w5 hd5;(conv=>whnf);rintro v ⟨q,rfl,hq⟩;conv=>whnf
  (repeat (rintro _ _;(conv=>whnf)))
  (repeat (rintro _;(conv=>whnf)))
  exact ⟨LkR.err h2 hvo0 ⟨q,rfl,hq⟩,he4'.trans ((Ext.refl w4).drew.trans hd5)⟩
 rotate_left
 have he4':=he3.trans he4;refine zu ?_;refine DrawV.free Jk Jk (zw ?_);(iterate 3 (refine zd ?_));apply zsd
 ·intro wd hd;(conv=>whnf);refine LoadV.of (hc.ext (he4'.trans ((Ext.refl w4).drew.trans hd)) 0 _ rfl) (zw ?_);exact ⟨xr,rfl⟩
 (conv=>whnf)
 by_cases hn0:0<vNum l k
 (iterate 5 (refine zd ?_));apply zsd
 ·intro wd hd;refine zu ?_;refine LoadV.of (hc.ext (he4'.trans ((Ext.refl w4).drew.trans hd)) 7 _ rfl) ?_;rw [hvv];(conv=>whnf);exact ⟨xr,rfl⟩
 (conv=>whnf);(iterate 3 (refine zd ?_));apply zsd
 ·intro wd hd;refine zu ?_;refine LoadV.of (hc.ext (he4'.trans ((Ext.refl w4).drew.trans hd)) 0 _ rfl) (zw ?_);exact ⟨xr,rfl⟩
 (conv=>whnf);refine zd ?_;apply zsd
 ·intro wd hd;refine zu ?_;have hx:=he4'.trans ((Ext.refl w4).drew.trans hd);rw [show ((vNum l k:Nat):Int)-1=((vNum l k-1:Nat):Int) by omega];refine zcv (qtc (qi l k) S cs vb (vNum l k-1) wd (hS.ext hx) hvok (hx.get hvo) Oo) ?_;rintro v w9 ⟨rfl,h9⟩;exact ⟨h9,rfl⟩
 (conv=>whnf);refine zd ?_;refine zd ?_;intro w5 hd5;have hx5:=he4'.trans ((Ext.refl w4).drew.trans hd5);(conv=>whnf);refine zt ?_;refine zC (fun _=>zw ?_) (fun _=>zw ?_)
 rotate_left
 ·refine LoadV.of (hc.ext hx5 4 _ rfl) (zw ?_);refine zcv (qac (tEnd l k) 180 w5) ?_;rintro v w6 ⟨⟨q,rfl,hq⟩,he6⟩;(conv=>whnf);have h2:=qnv htv (by rw [hvo0]) hn0 Oa;have h1:(vcE l k).2≠0:=by rw [h2];exact Nat.succ_ne_zero 179
  exact ⟨LkR.err ((qjp hE0 hwm' Oo h1).trans h2) Od ⟨q,rfl,hq⟩,hx5.trans he6⟩
 (iterate 14 (refine zd ?_));intro w5 hd5;have hx5:=he4'.trans ((Ext.refl w4).drew.trans hd5);refine zu ?_
 all_goals
  have hVec:k=0∨((vcE l k).2=0∧∃ vb,vv=pp vb∧w.heap[vb]?=some (vecO 237 (.slice S (qi l k).length cs) (vN (qi l k)) (vM (qi l k)))∧vOk (qi l k)=true∧vN (qi l k)=vNum l k):=by
   first
   | exact .inl Oo
   | exact .inr ⟨by rw [qtd htv (by rw [hvo0]) (fun _=>by assumption)],vb,hvv,hvo,hvok,hvn⟩
   | exact .inr ⟨by rw [qtd htv (by rw [hvo0]) (fun h=>absurd h hn0)],vb,hvv,hvo,hvok,hvn⟩
  have hwm':wMx (unpN (qj l k) (vNum l k) (tw l k)) (vNum l k)=tw l k:=by omega
  refine LoadV.of (hc.ext (by first|exact hx5|exact he3) 0 _ rfl) (zw ?_);refine qr (fun i:Nat=>[(0,.pointer (some ⟨b,8*k,none⟩)),(1,ii k),(134,ii (vNum l k)),(135,ii i)]) (fun i w'=>i≤vNum l k∧(∀ j,j<i→(nmF l k j).2=0)∧Ext w w') (fun i=>vNum l k-i) 0
   ⟨rfl,rfl,rfl,rfl,trivial⟩ ⟨Nat.zero_le _,fun j h=>absurd h (Nat.not_lt_zero _),(by first|exact hx5|exact he3)⟩ ?_
  rintro i w6 ρ' ⟨i1,i2,he6⟩;conv=>whnf
  (repeat' (first|refine zp ?_|refine zC (fun _=>zw ?_) (fun _=>zw ?_)))
  all_goals try
   obtain rfl:i=vNum l k:=by omega
   exact ⟨.inl ⟨qxi hE0 hwm' (hVec.imp id And.left) i2,rfl⟩,he6⟩
 all_goals
  have hat:=fun {a e:Nat} (h6:nmF l k i=(a,e)) (h7:e≠0)=>qli hE0 hwm' (hVec.imp id And.left) i2 Oo h6 h7
  refine zcv (hnum w6 i he6 Oo) ?_;rintro r w7 ⟨rfl,he7⟩;have hx7:=he6.trans he7;have hXi:=hXlt i;obtain ⟨X,eX⟩:∃ X,X=tX l k i:=⟨_,rfl⟩
  rw [← eX] at hXi ⊢;(conv=>whnf);refine zcv (qye k X w7) ?_;rintro r w8 ⟨rfl,rfl⟩;conv=>whnf
  (repeat' (first|refine zp ?_|refine zC (fun _=>zw ?_) (fun _=>zw ?_)))
 all_goals try
  refine LoadV.of (hc.ext hx7 3 _ rfl) (zw ?_);refine zcv (qac (tvAt l k+1) 180 w8) ?_;rintro v w9 ⟨⟨q,rfl,hq⟩,he9⟩;(conv=>whnf);exact ⟨LkR.err (hat (qm0 (by rw [← eX];omega)) Od) Od ⟨q,rfl,hq⟩,hx7.trans he9⟩
 all_goals try
  exact ⟨i+1,⟨rfl,rfl,rfl,congrArg (Value.int .i64) Oo,trivial⟩,⟨by omega,qc7 i2 (qh9 (by rw [← eX];omega) Oo),hx7⟩,by omega⟩
 rotate_left
 obtain ⟨_,vb2,hvv2,hvo2,hok2,hn2⟩:=hVec.resolve_left Oo;refine LoadV.of (hc.ext hx7 7 _ rfl) ?_;rw [hvv2];refine zu ?_;rw [show (i:Int)-1=((i-1:Nat):Int) by omega];refine zcv (qtc (qi l k) S cs vb2 (i-1) w8 (hS.ext hx7) hok2 (hx7.get hvo2) Oo) ?_;rintro r w9 ⟨rfl,he9⟩;replace hx7:=hx7.trans he9;(conv=>whnf);refine zt ?_;refine zC (fun _=>zu ?_) (fun _=>zu ?_)
 ·exact ⟨i+1,⟨rfl,rfl,rfl,congrArg (Value.int .i64) Oo,trivial⟩,⟨by omega,qc7 i2 (qh9 (by rw [← eX];omega) Oo),hx7⟩,by omega⟩
 all_goals
  rw [show (i:Int)-1=((i-1:Nat):Int) by omega];refine zcv (hnum _ (i-1) hx7 Oo) ?_;rintro r w10 ⟨rfl,he10⟩;replace hx7:=hx7.trans he10;obtain ⟨Y,eY⟩:∃ Y,Y=tX l k (i-1):=⟨_,rfl⟩
  rw [← eY];conv=>whnf
  (repeat' (first|refine zp ?_|refine zC (fun _=>zw ?_) (fun _=>zw ?_)))
  ·refine LoadV.of (hc.ext hx7 3 _ rfl) (zw ?_);refine zcv (qac (tvAt l k+1) 160 w10) ?_;rintro v w11 ⟨⟨q,rfl,hq⟩,he11⟩;(conv=>whnf);exact ⟨LkR.err (hat (qqh (by rw [← eX];omega) (by rw [← eX,← eY];omega)) Od) Od ⟨q,rfl,hq⟩,hx7.trans he11⟩
  ·exact ⟨i+1,⟨rfl,rfl,rfl,congrArg (Value.int .i64) Oo,trivial⟩,⟨by omega,qc7 i2 (qh9 (by rw [← eX];omega) (by rw [← eX,← eY];omega)),hx7⟩,by omega⟩
def TOpR (l:LB) (v:Value) (w0 w:World):Prop:=
 ((toE l).2≠0∧∃ e,v=.tuple #[.pointer none,e]∧ErrAt w e (toE l).1 (toE l).2)∨
 ((toE l).2=0∧∃ b,v=.tuple #[pp b,.nilIface]∧w0.heap.size≤b∧TreeAt w b l)
theorem qve (l:LB) (A:oA) (c:Nat) (w:World) (hS:SlAt encB 1 w A l) (hc:l.length≤c) (hl:l.length≤140737488355328) :
  Gv Tryz.prog 25 [.slice A l.length c] w fun v w'=>TOpR l v w w'∧Ext w w':=by
 refine ze Tryz.func25 Tryz.ntmps25 ?_;refine zcv (qyz l A c w hS hc hl) ?_;rintro v w1 ⟨⟨hE,e,rfl,q,rfl,hq⟩|⟨hE,b,rfl,hb,hT⟩,he1⟩
 ·refine zu ?_;have h1:=q1k hE;exact ⟨.inl ⟨by rw [h1];exact hE,_,rfl,by rw [h1];exact ⟨q,rfl,hq⟩⟩,he1⟩
 refine zu ?_;refine qr (fun k:Nat=>[(4,pp b),(16,ii k)]) (fun k w'=>k≤4∧(∀ j,j<k→(lvE l j).2=0)∧Ext w1 w') (fun k=>4-k) 0
  ⟨rfl,rfl,trivial⟩ ⟨Nat.zero_le _,fun j h=>absurd h (Nat.not_lt_zero _),xr⟩ ?_
 rintro k w2 ρ' ⟨k1,k2,he2⟩;(conv=>whnf);refine zC (fun _=>zu ?_) (fun _=>zu ?_)
 ·have hlook:∀ o,o=8*k→Gv Tryz.prog 49 [.pointer (some ⟨b,o,none⟩),ii k] w2 fun v w'=>LkR l k v w'∧Ext w2 w':=fun o ho=>by rw [ho];exact q0n l b k w2 (hT.ext he2) hE Oo hl
  refine zcv (hlook _ (by rw [lvSz];dsimp only;omega)) ?_;rintro v w3 ⟨⟨h0,rfl⟩|⟨h0,q,rfl,hq⟩,he3⟩
  ·refine zu ?_;exact ⟨k+1,⟨rfl,congrArg (Value.int .i64) Oo,trivial⟩,⟨by omega,fun j hj=>by
    by_cases e:j=k
    ·rw [e];exact h0
    ·exact k2 j Oo,he2.trans he3⟩,by omega⟩
  ·refine zu ?_;have h1:=q5w hE k2 Oo h0;exact ⟨.inl ⟨by rw [h1];exact h0,_,rfl,by rw [h1];exact ⟨q,rfl,hq⟩⟩,he1.trans (he2.trans he3)⟩
 ·obtain rfl:k=4:=by omega
  exact ⟨.inr ⟨q2h hE k2,b,rfl,hb,hT.ext he2⟩,he1.trans he2⟩
theorem qvo (a b:ByteArray) (w:World) (ha:a.size≤4194304) :
  Gv Tryz.prog 83 [.string a,.string b] w fun r w'=>r=ii (comL a.data.toList b.data.toList)∧Ext w w':=by
 have la:a.data.toList.length=a.size:=rfl;have lb:b.data.toList.length=b.size:=rfl;refine ze Tryz.func83 Tryz.ntmps83 ?_;refine qr (fun i:Nat=>[(0,.string a),(1,.string b),(5,ii i)]) (fun i w'=>i≤a.size∧i≤b.size∧(∀ j,j<i→a.data.toList[j]?=b.data.toList[j]?)∧Ext w w') (fun i=>a.size-i) 0 ⟨rfl,rfl,rfl,trivial⟩ ⟨Nat.zero_le _,Nat.zero_le _,fun j h=>by omega,xr⟩ ?_;rintro i w1 ρ' ⟨i1,i2,i3,he⟩;(conv=>whnf);refine zy ?_
 (repeat' (first|refine zp ?_|refine zC (fun _=>zw ?_) (fun _=>zw ?_)))
 all_goals first
  | exact ⟨i+1,⟨rfl,rfl,rfl,trivial⟩,⟨by omega,by omega,fun j hj=>by
    by_cases e:j=i
    ·subst e;rw [qbv Oo,qbv Oo];exact congrArg some (UInt8.toNat_inj.1 Oo)
    ·exact i3 j Oo,he.drew⟩,by omega⟩
  | exact ⟨by rw [qi9 i3 Oo Oo fun g1 g2=>by omega],he.drew⟩
  | (refine ⟨?_,he.drew⟩;rw [qi9 i3 Oo Oo fun g1 g2=>by
    rw [qbv Oo,qbv Oo];intro e;have:=congrArg UInt8.toNat (Option.some.inj e);omega])
theorem qu3 (b:Nat) (m:LB) (p:Nat) (w:World) (h:DictAt w b m) (hp:p≤(qe m).length) (hok:(numL ((qe m).drop p)).2.2=0) (hlt:(numL ((qe m).drop p)).1≤4194304) :
  Gv Tryz.prog 82 [pp b,ii p] w fun r w'=>r=ii (numL ((qe m).drop p)).1∧Ext w w':=by
 obtain ⟨⟨P,cp,E,ce,h1,h2,h3,h4⟩,h5,h6,h7,h8⟩:=h;obtain ⟨D,eD⟩:∃ D,D=qe m:=⟨_,rfl⟩
 rw [← eD] at h1 h3 h4 h8 hp hok hlt ⊢;refine ze Tryz.func82 Tryz.ntmps82 ?_;refine LoadV.own h1 rfl (zw ?_);refine SliceV.bs h3 rfl p D.length ce rfl rfl rfl Oo znr h4 znr (fun h=>by cases h) ?_;intro A' hA';rw [List.take_of_length_le Js] at hA';(conv=>whnf);obtain ⟨B,eB⟩:∃ B,B=D.drop p:=⟨_,rfl⟩
 have hBl:B.length=D.length-p:=by rw [eB,zld]
 rw [← eB] at hA' hok hlt ⊢;have hvB:∀ w',Ext w w'→BS w' (.slice A' (D.length-p) (ce-p)) B:=fun w' he=>⟨A',ce-p,by rw [hBl],by rw [hBl];omega,hA'.ext he⟩
 refine zcv (qc8 _ B w (hvB w xr)) ?_;rintro v w1 ⟨cb,rfl,hcb,hco,he1⟩;have hm:Mem w w1 [(cb,curO 170 (.slice A' (D.length-p) (ce-p)) 0 0)]:=(Mem.nil w).fresh he1 hcb hco;(conv=>whnf);refine zcv (qb9 cb _ 0 0 B w1 (hm.get mh) (hvB w1 hm.ext) (Nat.zero_le _) Oo) ?_;rintro r w2 ⟨rfl,hu⟩;obtain ⟨q1,q2,q3⟩:=qnu (l:=B) (a:=0) hok;rw [q1];have hm:=hm.upd (i:=0) rfl hu;obtain ⟨x,ex⟩:∃ x,x=(numL (B.drop 0)).1:=⟨_,rfl⟩
 have hx:(numL B).1=x:=by rw [ex];rfl
 rw [hx] at hlt ⊢;rw [← ex];refine zu ?_;exact ⟨rfl,hm.ext⟩
def DOpR (m:LB) (v:Value) (w0 w:World):Prop:=
 ((doE m).2≠0∧∃ e,v=.tuple #[.pointer none,e]∧ErrAt w e (doE m).1 (doE m).2)∨
 ((doE m).2=0∧∃ b,v=.tuple #[pp b,.nilIface]∧w0.heap.size≤b∧DictAt w b m)
theorem DOpR.err {m:LB} {a e q:Nat} {w0 w:World} (h:doE m=(a,e)) (h0:e≠0) (hv:CellsAt w q 0 [ii a,.iface 67 (ii e)]):DOpR m (.tuple #[.pointer none,.iface 98 (pp q)]) w0 w:=
 .inl ⟨by rw [h];exact h0,_,rfl,by rw [h];exact ⟨q,rfl,hv⟩⟩
theorem qmf {m ahead:LB} (h:(entG m false ahead).2.2=0):(numL m).2.2=0:=by
 refine Classical.byContradiction fun hn=>?_;unfold entG at h;simp only [Bool.false_eq_true,if_false] at h;rw [if_pos hn] at h;exact hn h
theorem qtr (m:LB) (A:oA) (c:Nat) (w:World) (hS:SlAt encB 1 w A m) (hc:m.length≤c) (hl:m.length≤140737488355328) :
  Gv Tryz.prog 44 [.slice A m.length c] w fun v w'=>DOpR m v w w'∧Ext w w':=by
 refine ze Tryz.func44 Tryz.ntmps44 ?_;refine zcv (qts m A c w hS hc hl) ?_;rintro v w1 ⟨⟨hE,e,rfl,q,rfl,hq⟩|⟨hE,b,rfl,hb,hD⟩,he1⟩
 ·refine zu ?_;exact ⟨.err (qit hE) hE hq,he1⟩
 have hW:=hD.width;obtain ⟨P,cp,F,ce,h1,h2,h3,h4⟩:=hD.h;have hdn:=hD.n;have hds:=hD.size;have hdp:=hD.places;have hde:=hD.entries;have e4:qf m=qax m+(qt m).length:=by rw [hdp];rfl
 have e3:qax m≤m.length:=qb5 m 2;have hdpl:(qt m).length≤4194304*27:=by
  have:=Nat.mul_le_mul (Nat.le_trans (qak _ _ Od) hdn:upN (dN m) 16≤4194304) hW;omega
 have hub:upN (dN m) 16≤4194304:=Nat.le_trans (qak _ _ Od) hdn;refine zu ?_;obtain ⟨E,eE⟩:∃ E,E=opE (qt m) (upN (dN m) 16) (dW m):=⟨_,rfl⟩
 obtain ⟨A1,n1,c1,x1,y1,hagg⟩:∃ A1 n1 c1,∃ x1 y1:Int,(if opE (qt m) (upN (dN m) 16) (dW m)=0 then #[.slice P (qt m).length cp,ii (upN (dN m) 16),ii (dW m)] else #[.slice none 0 0,ii 0,ii 0])=#[Value.slice A1 n1 c1,ii x1,ii y1]:=by
  split<;>exact ⟨_,_,_,_,_,rfl⟩
 refine DrawV.gen (fun S vals w'=>Nb w1.drew 184 3 (S 17) (vals 17) w') rfl Jk (fun vals=>Nb.start) (zw ?_);(iterate 3 (refine zg ?_));refine StepG.of (.slice P (qt m).length cp) (fun S vals wd hk hp hI=>zw ?_) (zw ?_)
 ·refine LoadV.own (((Ext.refl w1).drew.trans hI.e).get h1) rfl (zw ?_);exact ⟨rfl,hI⟩
 (iterate 3 (refine zg ?_));refine StepG.of (ii (dN m)) (fun S vals wd hk hp hI=>zw ?_) (zw ?_)
 ·refine LoadV.own (((Ext.refl w1).drew.trans hI.e).get h1) rfl (zw ?_);exact ⟨rfl,hI⟩
 refine StepG.of (ii (upN (dN m) 16)) (fun S vals wd hk hp hI=>zw ?_) (zw ?_)
 ·refine zcv (qg1 (dN m) wd hdn) ?_;rintro v w9 ⟨rfl,rfl⟩;exact ⟨rfl,hI⟩
 (iterate 3 (refine zg ?_));refine StepG.of (ii (dW m)) (fun S vals wd hk hp hI=>zw ?_) (zw ?_)
 ·refine LoadV.own (((Ext.refl w1).drew.trans hI.e).get h1) rfl (zw ?_);exact ⟨rfl,hI⟩
 refine StepG.of (.tuple #[.agg #[.slice A1 n1 c1,ii x1,ii y1],ii E]) (fun S vals wd hk hp hI=>zw ?_) (zw ?_)
 ·refine zcv (qn1 (qt m) P cp (upN (dN m) 16) (dW m) wd (h2.ext ((Ext.refl w1).drew.trans hI.e)) hdp hub Oo) ?_;rintro v w9 ⟨rfl,h9⟩;exact ⟨by rw [hagg,eE];rfl,hI.call h9⟩
 (iterate 3 (refine zg ?_));refine StepG.any (fun S vals wd hk hp hI=>?_) (zw ?_)
 ·dsimp only at hI;rw [hk] at hI;(conv=>whnf);refine ⟨fun x wx hb hw=>?_⟩;subst hb hw;(conv=>whnf);exact ⟨trivial,hI.alloc rfl⟩
 refine StepG.of undef (fun S vals wd hk hp hI=>?_) (zw ?_)
 ·have h16:S 17=true:=hp 17 Od;dsimp only at hI;rw [h16] at hI;obtain ⟨x,hx,_⟩:=hI.b rfl;rw [qm hx];(conv=>whnf);refine hI.store hx rfl (by intro v hv;simp at hv;rcases hv with rfl|rfl|rfl<;>rfl) ?_;intro wx hIx;(conv=>whnf);exact ⟨rfl,by show Nb _ _ _ (S 17) (pp x) _;rw [h16,← hx];exact hIx⟩
 refine zg ?_;intro vals w2 hI;have he2:Ext w1 w2:=(Ext.refl w1).drew.trans hI.e;clear hI;(conv=>whnf);refine zC (fun _=>zu ?_) (fun _=>zu ?_)
 ·rename_i hne
  have h0:opE (qt m) (upN (dN m) 16) (dW m)≠0:=by omega
  have h12:E=12:=by rw [eE];unfold opE at h0 ⊢;split at h0<;>simp_all
  have hpos:=qxq h0;rw [show ((qf m:Nat):Int)-1=((qf m-1:Nat):Int) by omega];refine zcv (qbb (qf m-1) E w2) ?_;rintro v w3 ⟨⟨q,rfl,hq⟩,he3⟩;rw [h12] at hq;(conv=>whnf);exact ⟨.err (qp2 hE h0) Od hq,he1.trans (he2.trans he3)⟩
 rename_i hE0
 have hE0:opE (qt m) (upN (dN m) 16) (dW m)=0:=by omega
 refine LoadV.own (he2.get h1) rfl (zw ?_);refine qr (fun x:Nat × ByteArray × Nat=>[(4,pp b),(6,ii (qf m)),(10,ii x.2.2),(11,.string x.2.1),(52,ii (dN m)),(53,ii x.1)])
  (fun x w'=>x.1≤dN m∧dSt m x.1=(x.2.1.data.toList,x.2.2)∧DSt m x.1 x.2.1.data.toList x.2.2∧x.2.1.size≤262144∧(∀ j,j<x.1→(dnF m j).2=0)∧Ext w1 w') (fun x=>dN m-x.1) (0,⟨#[]⟩,0)
  ⟨rfl,rfl,rfl,rfl,rfl,rfl,trivial⟩ ⟨Nat.zero_le _,rfl,⟨Nat.zero_le _,fun j h=>by omega⟩,Nat.zero_le _,fun j h=>absurd h (Nat.not_lt_zero _),he2⟩ ?_
 rintro ⟨i,last,p⟩ w3 ρ' ⟨i1,hdst,hst,hlast,hfine,he3⟩;dsimp only at i1 hdst hst hlast hfine he3 ⊢;have hD3:=hD.ext he3;have hple:=hst.le;have hat:=fun {a e:Nat} (h4:i<dN m) (h5:dnF m i=(a,e)) (h6:e≠0)=>qf4 hE hE0 hfine h4 h5 h6
 (conv=>whnf)
 (repeat' (first|refine zp ?_|refine zC (fun _=>zw ?_) (fun _=>zw ?_)))
 rotate_right
 ·obtain rfl:i=dN m:=by omega
  refine LoadV.own (he3.get h1) rfl (zw ?_);refine zC (fun _=>zu ?_) (fun _=>zu ?_)
  ·rename_i hlt
   rw [show ((qf m:Nat):Int)+(p:Int)=((qf m+p:Nat):Int) by omega];refine zcv (qbb (qf m+p) 13 w3) ?_;rintro v w4 ⟨⟨q,rfl,hq⟩,he4⟩;(conv=>whnf);have h13:=qmd hE hE0 hfine (by rw [hdst];dsimp only;omega);rw [hdst] at h13;exact ⟨.err h13 Od hq,he1.trans (he3.trans he4)⟩
  ·rename_i hlt
   have h0:=q14 hE hE0 hfine (by rw [hdst];dsimp only;omega);exact ⟨.inr ⟨by rw [h0],b,rfl,hb,hD3⟩,he1.trans he3⟩
 rw [show (i:Int)/16=((i/16:Nat):Int) by omega];refine zcv (qoq b m (i/16) w3 hD3 (by unfold upN;omega)) ?_;rintro r w4 ⟨rfl,rfl⟩;obtain ⟨pl,epl⟩:∃ pl,pl=qy m (i/16):=⟨_,rfl⟩
 rw [← epl];(conv=>whnf);refine zt ?_;refine zC (fun _=>zu ?_) (fun _=>zu ?_)
 ·rename_i hne
  rw [show ((qf m:Nat):Int)+(p:Int)=((qf m+p:Nat):Int) by omega];refine zcv (qbb (qf m+p) 161 w4) ?_;rintro v w5 ⟨⟨q,rfl,hq⟩,he5⟩;(conv=>whnf);exact ⟨.err (hat Oo (qf3 hdst Oo Oo) Od) Od hq,he1.trans (he3.trans he5)⟩
 all_goals
  have hpp:i%16=0→qy m (i/16)=p:=fun h=>by omega
  obtain ⟨first,hf⟩:∃ f,f=decide (i%16=0):=⟨_,rfl⟩
  have hd:decide ((i:Int)%16=0)=first:=by rw [hf];exact decide_eq_decide.2 Oo
  rw [hd];refine zcv (qoc b m p first last _ hD3 Oo hlast) ?_;rintro r w5 ⟨rfl,he5⟩;have hx5:=he3.trans he5
  by_cases he:(entG ((qe m).drop p) first last.data.toList).2.2=0
  case neg=>
   have hdn:=qld hdst hf hpp he;rw [qce,if_neg Oo,if_pos he];obtain ⟨e,ee⟩:∃ e,e=(entG ((qe m).drop p) first last.data.toList).2.2:=⟨_,rfl⟩
   rw [← ee] at he hdn ⊢;have hev:entV ([],0,e)=.tuple #[.string ⟨#[]⟩,ii 0,ii e]:=rfl;rw [hev];refine zu ?_;rw [show ((qf m:Nat):Int)+(p:Int)=((qf m+p:Nat):Int) by omega];refine zcv (qbb (qf m+p) e w5) ?_;rintro v w6 ⟨⟨q,rfl,hq⟩,he6⟩;(conv=>whnf);exact ⟨.err (hat Oo hdn he) he hq,he1.trans (hx5.trans he6)⟩
  have hst':=hst.step hpp hf he;have hdst':=qdu hdst hf;have hsz:=(qas he).1;have hdo:=qoa hdst hf hpp he;have hok:=q42 hdst hf hpp he;have hdf:=fun h1:i%16≠0=>qr8 hdst hf h1 he
  have hsd:=fun h1:i%16≠0=>(show (entG ((qe m).drop p) false last.data.toList).2.2=0 by rw [show first=false by rw [hf];exact decide_eq_false h1] at he;exact he)
  rw [qce,if_neg Oo,if_neg Oo];obtain ⟨X,eX⟩:∃ X:ByteArray,X=⟨(entG ((qe m).drop p) first last.data.toList).1.toArray⟩:=⟨_,rfl⟩
  have hX1:(entG ((qe m).drop p) first last.data.toList).1=X.data.toList:=by rw [eX]
  obtain ⟨y,ey⟩:∃ y,y=(entG ((qe m).drop p) first last.data.toList).2.1:=⟨_,rfl⟩
  rw [hX1,← ey] at hst' hdst';rw [hX1] at hsz;have hsz:X.size≤262144:=hsz;rw [hX1,qga] at hdo hok;rw [hX1,qga] at hdf;have hev:entV ((entG ((qe m).drop p) first last.data.toList).1,p+(entG ((qe m).drop p) first last.data.toList).2.1,0)=.tuple #[.string X,ii (p+y:Nat),ii 0]:=by rw [eX,ey];rfl
  rw [hev];have hnext:=fun hfin:dnF m i=(0,0)=>(show ∀ j,j<i+1→(dnF m j).2=0 from fun j hj=>by
   by_cases e:j=i
   ·rw [e,hfin]
   ·exact hfine j Oo)
  obtain ⟨z,ez⟩:∃ z,z=(slt X last||seq X last):=⟨_,rfl⟩
  rw [← ez] at hdo hok hdf;conv=>whnf
  (repeat' (first|refine zp ?_|refine zC (fun _=>zw ?_) (fun _=>zw ?_)))
  rw [← ez];cases z
  case true=>
   have hdn:=hdo Oo rfl;refine zv ?_;rw [show ((qf m:Nat):Int)+(p:Int)=((qf m+p:Nat):Int) by omega];refine zcv (qbb (qf m+p) 160 w5) ?_;rintro v w6 ⟨⟨q,rfl,hq⟩,he6⟩;(conv=>whnf);exact ⟨.err (hat Oo hdn Od) Od hq,he1.trans (hx5.trans he6)⟩
  refine zv ?_
 ·exact ⟨(i+1,X,p+y),⟨rfl,rfl,rfl,rfl,rfl,congrArg (Value.int .i64) (by simp only;omega),trivial⟩,⟨by simp only;omega,hdst',hst',hsz,hnext (hok (fun _=>rfl) (fun h=>by omega)),hx5⟩,by simp only;omega⟩
 ·exact ⟨(i+1,X,p+y),⟨rfl,rfl,rfl,rfl,rfl,congrArg (Value.int .i64) (by simp only;omega),trivial⟩,⟨by simp only;omega,hdst',hst',hsz,hnext (hok (fun h=>absurd h Oo) (fun h=>absurd h Oo)),hx5⟩,by simp only;omega⟩
 ·have hff:=hsd Oo;have h1:=qmf hff;have h2:=qf5 hff;have hls:last.data.toList.length=last.size:=rfl;refine zcv (qu3 b m p w5 (hD.ext hx5) hple h1 Oo) ?_;rintro r w6 ⟨rfl,he6⟩;obtain ⟨s,es⟩:∃ s,s=(numL ((qe m).drop p)).1:=⟨_,rfl⟩
  rw [← es] at hok hdf ⊢;refine zu ?_;refine zcv (qvo last X w6 Oo) ?_;rintro r w7 ⟨rfl,he7⟩;have hx7:=hx5.trans (he6.trans he7);rw [qn4];obtain ⟨a,ea⟩:∃ a,a=comL X.data.toList last.data.toList:=⟨_,rfl⟩
  rw [← ea] at hok hdf ⊢;(conv=>whnf);refine zt ?_;refine zC (fun _=>zu ?_) (fun _=>zu ?_)
  ·rename_i hne
   have hdn:=hdf Oo rfl Oo;rw [show ((qf m:Nat):Int)+(p:Int)=((qf m+p:Nat):Int) by omega];refine zcv (qbb (qf m+p) 161 w7) ?_;rintro v w8 ⟨⟨q,rfl,hq⟩,he8⟩;(conv=>whnf);exact ⟨.err (hat Oo hdn Od) Od hq,he1.trans (hx7.trans he8)⟩
  ·exact ⟨(i+1,X,p+y),⟨rfl,rfl,rfl,rfl,rfl,congrArg (Value.int .i64) (by simp only;omega),trivial⟩,⟨by simp only;omega,hdst',hst',hsz,hnext (hok (fun _=>rfl) (fun h=>by omega)),hx7⟩,by simp only;omega⟩
def Alien (w:World) (x:Nat):Prop:=(∀ off k c,w.cell? ⟨x,off,none⟩≠some (.int k c))∧∀ cs t fz,w.heap[x]?=some (.cells cs t fz)→t≠188∧t≠107∧t≠237∧t≠72
theorem Alien.mark {w:World} {x:Nat} {ds:Option (List Deferred)} (h:w.heap[x]?=some (.deferred ds)):Alien w x:=by
 refine ⟨fun off k c e=>?_,fun cs t fz e=>?_⟩
 ·unfold World.cell? at e;simp only [h] at e;cases e
 ·rw [h] at e;cases e
theorem Alien.one {w:World} {x:Nat} {v:Value} {t:TypeId} {fz:Nat × Nat} (h:w.heap[x]?=some (.cells #[v] t fz)) (hv:∀ k c,v≠.int k c) (ht:t≠188∧t≠107∧t≠237∧t≠72):Alien w x:=by
 refine ⟨fun off k c e=>?_,fun cs t' fz' e=>?_⟩
 ·rw [qd h] at e;cases off with
  | zero=>exact hv k c (Option.some.inj e)
  | succ n=>rw [Array.getElem?_eq_none Js] at e;cases e
 ·rw [h] at e
  injection e with e
  injection e with _ e _
  subst e;exact ht
section
variable {w w':World} {x:Nat} (ha:Alien w x) (hw:∀ c,c≠x→w'.heap[c]?=w.heap[c]?)
include ha hw
theorem qrq {b off:Nat} {k:IntKind} {c:Int} {vs:List Value} (h:CellsAt w b off (.int k c::vs)):CellsAt w' b off (.int k c::vs):=by
 refine CellsAt.other h (x:=x) (fun e=>?_) hw;subst e;exact ha.1 _ _ _ (h 0 _ rfl)
theorem qiq {A:oA} {l:LB} (h:SlAt encB 1 w A l):SlAt encB 1 w' A l:=by
 refine ⟨fun hn=>?_⟩;obtain ⟨b,off,h1,h2⟩:=h.at_ hn;exact ⟨b,off,h1,fun j y hy=>qrq ha hw (h2 j y hy)⟩
theorem DictAt.alien {b:Nat} {m:LB} (h:DictAt w b m):DictAt w' b m:=by
 obtain ⟨⟨P,cp,E,ce,h1,h2,h3,h4⟩,h5,h6,h7,h8⟩:=h;have hb:b≠x:=fun e=>by subst e;exact (ha.2 _ _ _ h1).1 rfl
 exact ⟨⟨P,cp,E,ce,by rw [hw b hb];exact h1,qiq ha hw h2,qiq ha hw h3,h4⟩,h5,h6,h7,h8⟩
theorem VocAt.alien {b:Nat} {l:LB} (h:VocAt w b l):VocAt w' b l:=by
 obtain ⟨d,h1,h2⟩:=h;have hb:b≠x:=fun e=>by subst e;exact (ha.2 _ _ _ h1).2.1 rfl
 exact ⟨d,by rw [hw b hb];exact h1,fun k hk=>(h2 k hk).alien ha hw⟩
theorem VecP.alien {V s:Value} {l:LB} {k:Nat} (h:VecP w V s l k):VecP w' V s l k:=by
 rcases h with h|⟨h1,h2,vb,h3,h4⟩
 ·exact .inl h
 ·have hb:vb≠x:=fun e=>by subst e;exact (ha.2 _ _ _ h4).2.2.1 rfl
  exact .inr ⟨h1,h2,vb,h3,by rw [hw vb hb];exact h4⟩
theorem TreeAt.alien {b:Nat} {l:LB} (h:TreeAt w b l):TreeAt w' b l:=by
 refine ⟨fun k hk=>?_,h.n,h.wd⟩;obtain ⟨P,cp,S,cs,V,h1,h2,h3,h4,h5⟩:=h.lv k hk;exact ⟨P,cp,S,cs,V,qrq ha hw h1,qiq ha hw h2,qiq ha hw h3,h4,h5.alien ha hw⟩
theorem PackAt.alien {b:Nat} {l:LB} (h:PackAt w b l):PackAt w' b l:=by
 obtain ⟨vb,tb,h1,h2,h3⟩:=h;have hb:b≠x:=fun e=>by subst e;exact (ha.2 _ _ _ h1).2.2.2 rfl
 exact ⟨vb,tb,by rw [hw b hb];exact h1,h2.alien ha hw,h3.alien ha hw⟩
end
namespace V
theorem qdy {P:Program} {n:Nat} {fn:Func} {R:Value→World→Prop} {ρ:Nat→Value} {w0:World} {L:List (Nat × Obj)} {Φ:World→Prop} (hΦ:∀ w w' x,Alien w x→(∀ c,c≠x→w'.heap[c]?=w.heap[c]?)→Φ w→Φ w')
  (hk:∀ w',Mem w0 w' L→Φ w'→resV fn.results ρ w' fn R P n):∀ (Ds:List Nat) (w:World),Mem w0 w (Ds.map qc3++L)→Φ w→qjm P n fn R ρ (Ds.map qkz) w
 | [],w,h,hp=>hk w h hp
 | D::Ds,w,h,hp=>by
  show LeaveV P n fn R ρ (qkz D::Ds.map qkz) w;have hg:=h.get mh;refine LeaveV.mark hg fun w' hw=>?_;subst hw;exact qdy hΦ hk Ds _ ((h.setO (i:=0) _ rfl rfl).sub (List.sublist_cons_self ..)) (hΦ _ _ D (Alien.mark hg) (fun c hc=>qe8 hc) hp)
end V
theorem qz1 (m:LB) (f:Bool) (a:LB):(entG m f a).2.1≤m.length:=by
 by_cases h:(entG m f a).2.2=0
 ·exact (qas h).2
 ·unfold entG at h ⊢;obtain ⟨s,hs⟩:∃ s:Nat × Nat × Nat,s=if f then (0,0,0) else numL m:=⟨_,rfl⟩
  rw [← hs] at h ⊢;dsimp only at h ⊢
  split
  ·exact Nat.zero_le _
  rename_i g1
  rw [if_neg g1] at h
  split
  ·exact Nat.zero_le _
  rename_i g2
  rw [if_neg g2] at h
  split
  ·exact Nat.zero_le _
  rename_i g3
  rw [if_neg g3] at h
  split
  ·exact Nat.zero_le _
  rename_i g4
  rw [if_neg g4] at h
  split
  ·exact Nat.zero_le _
  rename_i g5
  rw [if_neg g5] at h;exact absurd rfl h
theorem qpz (m:LB):∀ i,(dSt m i).2≤(qe m).length
 | 0=>Nat.zero_le _
 | i+1=>by
  have h1:=qpz m i;have h2:=qz1 ((qe m).drop (dSt m i).2) (decide (i%16=0)) (dSt m i).1;rw [zld] at h2;rw [dSt];show (dSt m i).2+_≤_;omega
theorem q41 (m:LB) (i:Nat):(dnF m i).1≤qf m+(qe m).length:=by
 have h1:=qpz m i;unfold dnF
 split
 ·show qf m+(dSt m i).2≤_;omega
 split
 ·show qf m+(dSt m i).2≤_;omega
 split
 ·show qf m+(dSt m i).2≤_;omega
 split
 ·show qf m+(dSt m i).2≤_;omega
 ·exact Nat.zero_le _
theorem q13 (m:LB):(doE m).1≤m.length:=by
 by_cases h:(dE m).2=0
 ·obtain ⟨_,_,h3⟩:=qv9 h;have e:dEnd m=qf m+qig m:=rfl;have h4:(qe m).length=m.length-qf m:=by rw [qe,zld]
  have h5:=qpz m (dN m);rw [doE,if_neg Oo]
  split
  ·show qf m-1≤_;omega
  split
  ·have:=qmi (fun k=>q41 m k) (dN m);omega
  split
  ·show qf m+_≤_;omega
  ·exact Nat.zero_le _
 ·rw [qit h];exact q40 m
theorem q54 (l:LB):(vwE l).1≤2*l.length+201326592:=by
 unfold vwE
 split
 ·have:=q6i l;omega
 ·rename_i h0
  obtain ⟨_,h3⟩:=qyi (l:=l) Oo;have hv:∀ k,k<3→(veF l k).1≤2*l.length+201326592:=fun k hk=>by
   have h4:=qdm h3 hk;have h5:=q13 (qq l k);have h6:=qnk l k;unfold veF
   split
   ·exact Nat.zero_le _
   ·show qk l k+(doE (qq l k)).1≤_;omega
  split
  ·exact qdw 3 hv
  ·refine qdw 3 fun k hk=>?_;have h4:=qdm h3 hk;unfold vrF
   split
   ·show qk l k≤_;omega
   ·exact Nat.zero_le _
theorem q5i (l:LB) (k:Nat):(lvE l k).1≤tvAt l k+tEnd l k+1000000009:=by
 unfold lvE
 split
 ·show tEnd l k-1≤_;omega
 split
 ·show tvAt l k≤_;omega
 split
 ·unfold vcE
  split
  ·show tEnd l k≤_;omega
  rename_i g
  split
  ·have h1:=qy8 (qi l k);have h2:qal (vN (qi l k)) (vM (qi l k))≤1000000000:=by
    have g1:tVec l k=true:=by simpa using g
    simp only [tVec,vOk,Bool.and_eq_true,decide_eq_true_eq] at g1;exact qkt _ _ g1.1.1.1.1.2 g1.1.1.1.2
   show tEnd l k+(voE (qi l k)).1≤_;omega
  split
  ·show tEnd l k≤_;omega
  ·exact Nat.zero_le _
 ·refine qmi (fun i=>?_) _;unfold nmF
  split
  ·show tvAt l k+1≤_;omega
  split
  ·show tvAt l k+1≤_;omega
  ·exact Nat.zero_le _
theorem q5x (l:LB):(toE l).1≤2*l.length+1000000009:=by
 by_cases h:(tE l).2=0
 ·rw [toE,if_neg Oo];refine qdw 4 fun k hk=>?_;have h1:=q5i l k;obtain ⟨_,h2⟩:=qpf h;obtain ⟨z1,z2,z3⟩:=qkp (h2 k hk);have t2:tEnd l k≤tvAt l (k+1):=by rw [qa9];omega
  omega
 ·rw [q1k h];have:=q6m l;omega
theorem q6c {l:LB} (h:(fE l fun k=>doE (qq l k)).2≠0):vwE l=fE l fun k=>doE (qq l k):=by
 have hf:(fun k=>if (doE (qq l k)).2=0 then (0,0) else (qk l k+(doE (qq l k)).1,(doE (qq l k)).2))=veF l:=by
  funext k;rw [veF]
 unfold fE at h ⊢;rw [hf] at h ⊢;unfold vwE
 split at h
 ·rename_i g;rw [if_pos g,if_pos g]
 ·rename_i g;rw [if_neg g,if_neg g,if_pos h]
theorem q27 {l:LB} (h:(fE l fun k=>doE (qq l k)).2=0):(sE l).2=0∧∀ k,k<3→(doE (qq l k)).2=0:=by
 unfold fE at h
 split at h
 ·rename_i g;exact absurd h g
 ·rename_i g
  refine ⟨by omega,fun k hk=>?_⟩;have:=qay h k hk;dsimp only at this
  split at this
  ·assumption
  ·exact absurd this Oa
def VOpR (l:LB) (v:Value) (w:World):Prop:=
 ((vwE l).2≠0∧∃ e,v=.tuple #[.pointer none,e]∧ErrAt w e (vwE l).1 (vwE l).2)∨((vwE l).2=0∧∃ b,v=.tuple #[pp b,.nilIface]∧VocAt w b l)
theorem q4c (d:Nat→Nat) (l:LB) (i:Nat) (hi:i<3) :
  ((#[Value.pointer (some ⟨d 0,0,none⟩),ii (vTot l 0+1:Nat),.pointer (some ⟨d 1,0,none⟩),ii (vTot l 1+1:Nat),.pointer (some ⟨d 2,0,none⟩),ii (vTot l 2+1:Nat)]:Array Value).toList.drop (i*2)).take 2=[.pointer (some ⟨d i,0,none⟩),ii (vTot l i+1:Nat)]:=by
 rcases (show i=0∨i=1∨i=2 by omega) with rfl|rfl|rfl<;>rfl
theorem qrl (l:LB) (A:oA) (c:Nat) (w:World) (hS:SlAt encB 1 w A l) (hc:l.length≤c) (hl:l.length≤70368744177664) (hG:ErrTyp w)
  (hM:MaxLenAt w) (hT:CellsAt w 6 0 qbr) (hK:qdr w) :
  Gv Tryz.prog 24 [.slice A l.length c] w fun v w'=>VOpR l v w'∧Ext w w':=by
 have hfd:=fun w' (hx:Ext w w')=>qwt l A c w' (hS.ext hx) hc hl (hG.ext hx) 44 (fun k=>doE (qq l k)) (fun k _=>Nat.le_trans (Nat.le_trans (q13 (qq l k)) (qnk l k)) Oo) (fun k _ w' B c' hx hB hc'=>(qtr (qq l k) B c' w' hB hc' (by have:=qnk l k;omega)).mono fun v w'' ⟨h,he⟩=>⟨by
   rcases h with ⟨h0,e,h1,h2⟩|⟨h0,b,h1,_,h2⟩
   ·exact .inl ⟨h0,e,h1,h2⟩
   ·exact .inr ⟨h0,b,h1,h2⟩,he⟩)
 refine gvW Jk Tryz.func24 rfl Tryz.ntmps24 rfl (zw ?_);refine znm (Mem.nil w) fun b2 w1 hm=>zw ?_;refine znm hm fun b3 w2 hm=>zw ?_;refine zcv (hfd w2 hm.ext) ?_;rintro v w3 ⟨⟨h0,G,e,rfl,eb,rfl,hec⟩|⟨h0,vb,G,rfl,hG2,hV⟩,he3⟩
 ·have hvw:=q6c h0;have hm0:=hm.call he3;have hne2:eb≠b2:=by
   intro e1;have h1:=hec 0 _ rfl;rw [e1,qd (hm0.get (zmg (i:=1) rfl))] at h1;cases h1
  have hne3:eb≠b3:=by
   intro e1;have h1:=hec 0 _ rfl;rw [e1,qd (hm0.get (zmg (i:=0) rfl))] at h1;cases h1
  (conv=>whnf);refine znm (Mem.nil w3) fun t5 w4 hm4=>zw ?_;refine StoreA.all hm4 (i:=0) rfl (by simp [qp]) (qbh 3 G) ?_;intro w5 hm5;have hec:=CellsAt.ext hec hm5.ext;have hm5:=hm0.glue2 hm5;refine zu ?_;refine StoreV.row hm5 (i:=1) rfl Js rfl ?_;intro w6 hfr6 _ hm6;have hec:=CellsAt.other hec hne2 hfr6;(conv=>whnf);refine StoreV.row hm6 (i:=0) rfl Js rfl ?_;intro w7 hfr7 _ hm7;have hec:=CellsAt.other hec hne3 hfr7;(conv=>whnf);refine qa (R:=fun v w'=>VOpR l v w'∧Ext w w') (zw ?_);refine zr hm7 1 ?_;refine zr hm7 0 ?_;exact ⟨.inl ⟨by rw [hvw];exact h0,_,rfl,eb,rfl,by rw [hvw];exact hec⟩,hm7.ext⟩
 obtain ⟨hs0,hdz⟩:=q27 h0;obtain ⟨d,hvc,hdD⟩:=id hV;have hm0:=hm.call he3;have hw3:Ext w w3:=hm0.ext;clear hm;(conv=>whnf);refine znm (Mem.nil w3) fun t5 w4 hm=>zw ?_;refine StoreA.all hm (i:=0) rfl (by simp [qp]) (qbh 3 G) fun w5 hm=>zu ?_;have hvl:CellsAt w5 vb 0 [.pointer (some ⟨d 0,0,none⟩),ii (vTot l 0+1:Nat),.pointer (some ⟨d 1,0,none⟩),ii (vTot l 1+1:Nat),.pointer (some ⟨d 2,0,none⟩),ii (vTot l 2+1:Nat)]:=fun k v hv=>by
  have hk:k<6:=(List.getElem?_eq_some_iff.1 hv).1;rw [qd (hm.ext.get hvc),Nat.zero_add]
  rcases (show k=0∨k=1∨k=2∨k=3∨k=4∨k=5 by omega) with rfl|rfl|rfl|rfl|rfl|rfl<;>exact hv
 refine LoadA.cells hvl rfl ?_;clear hvl;(conv=>whnf);obtain ⟨T,eT⟩:∃ T,T=(t5,Obj.cells (fnA 3 (inF G)) 126):=⟨_,rfl⟩
 have hm:Mem w3 w5 [T]:=by rw [eT];exact hm
 refine q2b (fun x:Nat × List Nat=>[(2,pp b2),(3,pp b3),(4,pp vb),(5,pp t5),(25,.agg #[.pointer (some ⟨d 0,0,none⟩),ii (vTot l 0+1:Nat),.pointer (some ⟨d 1,0,none⟩),ii (vTot l 1+1:Nat),.pointer (some ⟨d 2,0,none⟩),ii (vTot l 2+1:Nat)]),(26,ii x.1)]) (fun x=>x.2.map qkz)
  (fun x w'=>x.1≤3∧(∀ k,k<x.1→(vrF l k).2=0)∧Mem w3 w' (x.2.map qc3++[T])) (fun x=>3-x.1) (0,[])
  ⟨rfl,rfl,rfl,rfl,rfl,rfl,trivial⟩ rfl ⟨Nat.zero_le _,fun k h=>absurd h (Nat.not_lt_zero _),hm⟩ ?_
 clear hm;rintro ⟨i,Ds⟩ w6 ρ' ⟨hi,hz,hm⟩;dsimp only at hi hz hm ⊢;(conv=>whnf);refine zC (fun _=>zu ?_) (fun _=>zu ?_)
 ·refine ⟨[.pointer (some ⟨d i,0,none⟩),ii (vTot l i+1:Nat)],?_,?_⟩
  ·rw [show tsz Tryz.prog 104=2 from by kernel_rfl];exact q4c d l i Oo
  (conv=>whnf);refine znm hm fun t7 w7 hm=>zw ?_;refine znm hm fun t8 w8 hm=>zw ?_;refine StoreV.mem hm (i:=1) rfl Js rfl fun w9 hm=>zw ?_;refine zS hm 0 fun w10 hm=>zw ?_;refine zr hm 0 ?_;refine zcv (qwa (d i) w10) ?_;rintro v w11 ⟨c1,c2,rfl,hmE⟩;replace hm:=hm.glue hmE;clear hmE;(conv=>whnf);have hi3:i<3:=by omega
  have hlen:((List.range (dN (qq l i))).map (dRow (qq l i))).length=dN (qq l i):=by simp
  have hdi:=hdz i hi3;obtain ⟨L,hL⟩:∃ L:List (Nat × Obj),L=[(c1,.cells #[ii 0] 3),(c2,.cells #[.pointer (some ⟨d i,0,none⟩)] 102),(t8,.cells #[.pointer (some ⟨d i,0,none⟩),ii (vTot l i+1:Nat)] 104),(t7,.cells #[ii i] 3)]++(Ds.map qc3++[T]):=⟨_,rfl⟩
  have hm:Mem w3 w11 ([]++L):=by rw [hL];exact hm
  have hin1:(c1,Obj.cells #[ii 0] 3)∈L:=by rw [hL];exact zmg (i:=0) rfl
  have hin2:(c2,Obj.cells #[.pointer (some ⟨d i,0,none⟩)] 102)∈L:=by rw [hL];exact zmg (i:=1) rfl
  refine qx6 (Φ:=DicΦ (d i) (qq l i) c1 c2) (lb:=[pp c1,pp c2]) (xs:=(List.range (dN (qq l i))).map (dRow (qq l i))) rfl Jk (qwb (d i) (qq l i) c1 c2 hdi) Od ?_
   (fun j X w'=>∃ _:Unit,(∀ j',j'<j→¬ vrB l i j')∧Mem w3 w' (X++L))
   (fun c j X w'=>∃ eb:Nat,(c=.ret∧vwE l=(qk l i,170))∧Mem w w' (X++([(eb,.cells #[ii (qk l i:Nat),.iface 67 (ii (170:Nat))] 100),(b3,.cells #[.iface 98 (pp eb)] 26),(b2,.cells #[.pointer none] 45)]++Ds.map qc3)))
   (fun j=>Carr.mem _ _) (fun c j=>Carr.mem _ _)
   (fun j X w' ⟨_,_,hm⟩=>⟨(hdD i hi3).ext hm.ext,by rw [qd (hm.get (List.mem_append_right _ hin1))];rfl,by rw [qd (hm.get (List.mem_append_right _ hin2))];rfl⟩) ⟨(),fun j h=>absurd h (Nat.not_lt_zero _),hm⟩ ?_ ?_ ?_
  ·intro x hx;obtain ⟨j,_,rfl⟩:=List.mem_map.1 hx;rfl
  ·clear hm;rintro l2 D ob j x X w12 w13 hx ⟨_,hbj,hmJ⟩;have hjn:j<dN (qq l i):=by
    have:=(List.getElem?_eq_some_iff.1 hx).1
    rwa [hlen] at this
   rw [List.getElem?_map,List.getElem?_range hjn,Option.map_some,Option.some.injEq] at hx;subst hx;have hm:=hmJ.perm (List.perm_append_comm (l₁:=L));rw [hL] at hm;have hgt:=(qwf hdi hjn).2;have hsz:=qis hgt;(conv=>whnf);refine ⟨rfl,rfl,?_⟩;(conv=>whnf);refine zr hm 3 ?_;refine zv ?_;have hkk:((i+1:Nat):Int)=1∨((i+1:Nat):Int)=2∨((i+1:Nat):Int)=3:=by omega
   refine LoadV.of (v:=ii (i+1:Nat)) ?_ ?_
   ·have hKx:=fun j v (hv:([ii 1,ii 2,ii 3]:List Value)[j]?=some v)=>(CellsAt.ext hK (hw3.trans hm.ext)) j v hv
    rw [show tsz Tryz.prog 3=1 from by kernel_rfl]
    rcases (show i=0∨i=1∨i=2 by omega) with rfl|rfl|rfl
    ·exact hKx 0 _ rfl
    ·exact hKx 1 _ rfl
    ·exact hKx 2 _ rfl
   (conv=>whnf);obtain ⟨t,e,hrv,hrc⟩:∃ t e,qcn ((i+1:Nat):Int) (⟨(dTxt (qq l i) j).toArray⟩:ByteArray).data.toList=.tuple #[qa4 t,ii (e:Nat)]∧((e=0∧∃ t,ReadsAs ((i+1:Nat):Int) (dTxt (qq l i) j) t)∨(e≠0∧∀ t,¬ ReadsAs ((i+1:Nat):Int) (dTxt (qq l i) j) t)):=by
    show ∃ t e,qcn ((i+1:Nat):Int) (dTxt (qq l i) j)=_∧_
    by_cases hr:∃ t,ReadsAs ((i+1:Nat):Int) (dTxt (qq l i) j) t
    ·obtain ⟨t,ht⟩:=id hr;exact ⟨t,0,qd6 ht,.inl ⟨rfl,hr⟩⟩
    ·have hr:∀ t,¬ ReadsAs ((i+1:Nat):Int) (dTxt (qq l i) j) t:=fun t ht=>hr ⟨t,ht⟩
     exact ⟨⟨0,⟨#[]⟩,⟨#[]⟩,⟨#[]⟩⟩,170,qbl hr,.inr ⟨by decide,hr⟩⟩
   refine zcv (qpq ((i+1:Nat):Int) hkk ⟨(dTxt (qq l i) j).toArray⟩ hsz w13 (hM.ext (hw3.trans hm.ext)) (hT.ext (hw3.trans hm.ext))) ?_;rintro r w14 ⟨rfl,he14⟩;rw [hrv];replace hm:=hm.call he14;(conv=>whnf);refine znm hm fun t11 w15 hm=>zw ?_;refine zS hm 0 ?_;clear hm;intro w16 hm;replace hm:=hm.sub (List.sublist_cons_self ..);conv=>whnf
   rcases hrc with ⟨rfl,hr⟩|⟨he,hr⟩
   ·refine zv ?_;refine ⟨(),fun j' hj'=>?_,?_⟩
    ·by_cases e:j'=j
     ·subst e;rintro ⟨s,hs,hno⟩;rw [hgt] at hs;cases hs;obtain ⟨t',ht'⟩:=hr;exact hno t' ht'
     ·exact hbj j' Oo
    ·rw [hL];exact hm.perm List.perm_append_comm
   ·refine zv ?_;have hvw:vwE l=(qk l i,170):=q55 hs0 hdz hz hi3 hjn ⟨_,hgt,hr⟩;refine zr hm 3 ?_;refine zv ?_;refine LoadV.fim (x:=((qk l i:Nat):Int)) hm (b:=t5) (F:=G) (n:=3) (t:=126) (by rw [eT];simp) i (by rw [show tsz Tryz.prog 3=1 from by kernel_rfl];omega) hi3 (hG2 i hi3) (zw ?_);refine zcv (qks (qk l i) 170 w16) ?_;rintro v w17 ⟨eb,rfl,heb,hge,he17⟩;have hmF:=(hm0.glue2 hm).fresh he17 (by have:=hm.ext.size;exact heb) hge;unfold errV;(conv=>whnf);refine StoreV.mem hmF (i:=2) rfl Js rfl fun w18 hm=>zw ?_;refine StoreV.mem hm (i:=1) rfl Js rfl fun w19 hm=>zw ?_;refine ⟨eb,⟨rfl,hvw⟩,?_⟩;have hm:Mem w w19 ((eb,.cells #[ii (qk l i:Nat),.iface 67 (ii (170:Nat))] 100)::(b3,.cells #[.iface 98 (pp eb)] 26)::(b2,.cells #[.pointer none] 45)::
     (c1,.cells #[ii 0] 3)::(c2,.cells #[.pointer (some ⟨d i,0,none⟩)] 102)::(t8,.cells #[.pointer (some ⟨d i,0,none⟩),ii (vTot l i+1:Nat)] 104)::(t7,.cells #[ii i] 3)::((Ds.map qc3++[T])++((l2,ob)::(D,.deferred (some []))::X))):=hm
    have hm:=hm.sub (.cons_cons _ (.cons_cons _ (.cons_cons _ (.cons _ (.cons _ (.cons _ (.cons _ (List.Sublist.append (List.sublist_append_left (Ds.map qc3) [T]) (List.Sublist.refl _)))))))));exact hm.perm (List.perm_append_comm (l₁:=(l2,ob)::(D,.deferred (some []))::X))
  ·clear hm;rintro D w12 ⟨_,hbj,hm⟩;rw [hlen] at hbj;refine zu ?_;have hv0:(vrF l i).2=0:=q2n hbj;refine ⟨(i+1,D::Ds),⟨rfl,rfl,rfl,rfl,rfl,rfl,trivial⟩,rfl,⟨by simp only;omega,fun k hk=>?_,?_⟩,by simp only;omega⟩
   ·by_cases e:k=i
    ·rw [e];exact hv0
    ·exact hz k (by simp only at hk;omega)
   ·rw [hL] at hm;exact hm.sub (.cons_cons _ (.cons _ (.cons _ (.cons _ (.cons _ (List.Sublist.refl _))))))
  ·clear hm;rintro D c j w12 hj ⟨eb,⟨rfl,hvw⟩,hm⟩;(conv=>whnf);refine LeaveV.marks (J:=fun X w'=>∃ _:Unit,True∧Mem w w' (X++[(eb,.cells #[ii (qk l i:Nat),.iface 67 (ii (170:Nat))] 100),(b3,.cells #[.iface 98 (pp eb)] 26),(b2,.cells #[.pointer none] 45)])) (Carr.mem _ _) ?_ (D:=D) (Ds:=Ds) ?_
   ·rintro w' ⟨_,_,hm⟩;refine qa (R:=fun v w'=>VOpR l v w'∧Ext w w') (zw ?_);refine zr hm 2 ?_;refine zr hm 1 ?_;exact ⟨.inl ⟨by rw [hvw];show (170:Nat)≠0;decide,_,rfl,eb,rfl,by rw [hvw];exact CellsAt.mem hm mh⟩,hm.ext⟩
   ·exact ⟨(),trivial,hm.perm (by
     refine List.Perm.cons _ ?_;exact List.perm_append_comm)⟩
 ·obtain rfl:i=3:=by omega
  have hvw:=q2q hs0 hdz hz;have hV6:=hV.ext hm.ext;have hm:=hm0.glue2 hm;have ha2:=Alien.one (x:=b2) (hm.get (zmg (i:=1) rfl)) (fun _ _ e=>by cases e) Od;(conv=>whnf);refine StoreV.row hm (i:=1) rfl Js rfl ?_;intro w7 hfr7 _ hm7;have hV7:=hV6.alien ha2 hfr7;have ha3:=Alien.one (x:=b3) (hm7.get (zmg (i:=0) rfl)) (fun _ _ e=>by cases e) Od;(conv=>whnf);refine StoreV.row hm7 (i:=0) rfl Js rfl ?_;intro w8 hfr8 _ hm8;have hV8:=hV7.alien ha3 hfr8;have hm:Mem w w8 ((b3,.cells #[.nilIface] 26)::(b2,.cells #[pp vb] 45)::(Ds.map qc3++[T])):=hm8;have hm:=hm.sub (.cons_cons _ (.cons_cons _ (List.sublist_append_left (Ds.map qc3) [T])));have hm:Mem w w8 (Ds.map qc3++[(b3,.cells #[.nilIface] 26),(b2,.cells #[pp vb] 45)]):=hm.perm (List.perm_append_comm);(conv=>whnf);refine qdy (Φ:=fun w'=>VocAt w' vb l) (fun w w' x ha hw h=>h.alien ha hw) ?_ Ds _ hm hV8;intro w' hm hv;refine qa (R:=fun v w'=>VOpR l v w'∧Ext w w') (zw ?_);refine zr hm 1 ?_;refine zr hm 0 ?_;exact ⟨.inr ⟨hvw,vb,rfl,hv⟩,hm.ext⟩
def inf4 (l:LB):Value:=.agg #[ii (hN l 2),ii (hN l 3),ii (hN l 4),ii (hN l 5)]
def infZ:Value:=.agg #[ii 0,ii 0,ii 0,ii 0]
theorem PackAt.inf {w:World} {b:Nat} {l:LB} (h:PackAt w b l):CellsAt w b 0 [ii (hN l 2:Nat),ii (hN l 3:Nat),ii (hN l 4:Nat),ii (hN l 5:Nat)]:=by
 obtain ⟨vb,tb,h1,_⟩:=h;intro k v hv;have hk:k<4:=(List.getElem?_eq_some_iff.1 hv).1;rw [qd h1]
 rcases (show k=0∨k=1∨k=2∨k=3 by omega) with rfl|rfl|rfl|rfl<;>exact hv
theorem quh (b:Nat) (l:LB) (w:World) (h:PackAt w b l):Gv Tryz.prog 13 [pp b] w fun v w'=>v=inf4 l∧Ext w w':=by
 refine ze Tryz.func13 Tryz.ntmps13 ?_;refine znm (Mem.nil w) fun r2 w1 hm=>zw ?_;refine LoadA.cells (h.ext hm.ext).inf rfl (zw ?_);refine zS hm 0 fun w3 hm=>zw ?_;refine qa (R:=fun v w'=>v=inf4 l∧Ext w w') (zw ?_);refine zl hm 0 ?_;exact ⟨rfl,hm.ext⟩
theorem qj3 (b:Nat) (l:LB) (w:World) (h:PackAt w b l):Gv Tryz.prog 14 [pp b] w fun v w'=>(∃ vb,v=pp vb∧VocAt w vb (ql l))∧w'=w:=by
 obtain ⟨vb,tb,h1,h2,h3⟩:=h;refine ze Tryz.func14 Tryz.ntmps14 ?_;refine LoadV.own h1 rfl (zw ?_);exact ⟨⟨vb,rfl,h2⟩,rfl⟩
theorem qlp (b:Nat) (l:LB) (w:World) (h:PackAt w b l):Gv Tryz.prog 15 [pp b] w fun v w'=>(∃ tb,v=pp tb∧TreeAt w tb (qg l))∧w'=w:=by
 obtain ⟨vb,tb,h1,h2,h3⟩:=h;refine ze Tryz.func15 Tryz.ntmps15 ?_;refine LoadV.own h1 rfl (zw ?_);exact ⟨⟨tb,rfl,h3⟩,rfl⟩
theorem qrc (b:Nat) (w:World):Gv Tryz.prog 37 [pp b,ii (-1)] w fun v w'=>v=.tuple #[.agg zq,.bool false]∧Ext w w':=by
 refine ze Tryz.func37 Tryz.ntmps37 ?_;refine znm (Mem.nil w) fun rb w1 hm=>zu ?_;refine zS hm 0 fun w9 hm=>zw ?_;refine qa (R:=fun v w'=>v=.tuple #[.agg zq,.bool false]∧Ext w w') (zw ?_);refine zl hm 0 ?_;exact ⟨rfl,hm.ext⟩
theorem q1r {l:LB} {id:Nat} {t:TM} (h:qcq l id=some t):TermOk t:=by
 unfold qcq at h
 split at h
 ·cases h;exact ⟨(show InR .i64 0 from ⟨by decide,by decide⟩),(show (0:Nat)≤1048576 by decide),(show (0:Nat)≤1048576 by decide),(show (0:Nat)≤1048576 by decide)⟩
 ·split at h
  ·cases h
  ·split at h
   ·rename_i s hs
    have h3:qcm l id<3:=by unfold qcm;split<;>(try split)<;>omega
    exact q03 h (qis hs) ⟨by omega,by omega⟩
   ·cases h
theorem q6q (l:LB) (q:Nat→Nat) (j:Nat):TermOk (uT l q j):=by
 unfold uT;cases h:qcq l (q j) with
 | none=>exact ⟨(show InR .i64 0 from ⟨by decide,by decide⟩),(show (0:Nat)≤1048576 by decide),(show (0:Nat)≤1048576 by decide),(show (0:Nat)≤1048576 by decide)⟩
 | some t=>exact q1r h
theorem qx0 (l:LB) (q:Nat→Nat):qk7 (q4Of l q):=by
 intro k;unfold q4Of Q4.at
 split<;>exact q6q _ _ _
def qIds (l:LB) (i:Nat):Nat→Nat:=fun k=>tNum (qg l) i k
def PqOk (l:LB) (i:Nat):Prop:=(i<vNum (qg l) 3∧tOk (qg l) i=true)∧(∀ j,j<4→qcq (ql l) (qIds l i j)≠none)∧qck (q4Of (ql l) (qIds l i))=0
open Classical in
noncomputable def qdj (l:LB) (i:Nat):Value:=if PqOk l i then .tuple #[qa0 (q4Of (ql l) (qIds l i)),.bool true] else .tuple #[qa0 zQ,.bool false]
theorem qot (b:Nat) (l:LB) (w:World) (h:PackAt w b l):Gv Tryz.prog 18 [pp b,ii (-1)] w fun v w'=>v=.tuple #[qa0 zQ,.bool false]∧Ext w w':=by
 obtain ⟨vb,tb,h1,h2,h3⟩:=h;refine ze Tryz.func18 Tryz.ntmps18 ?_;refine znm (Mem.nil w) fun r4 w1 hm=>zw ?_;refine LoadV.own (hm.ext.get h1) rfl (zw ?_);refine zcv (qrc tb w1) ?_;rintro v w2 ⟨rfl,he2⟩;have hm:=hm.call he2;unfold zq;(conv=>whnf);refine znm hm fun t6 w3 hm=>zw ?_;refine zS hm 0 fun w4 hm=>zu ?_;refine zS hm 1 fun w5 hm=>zw ?_;refine qa (R:=fun v w'=>v=.tuple #[qa0 zQ,.bool false]∧Ext w w') (zw ?_);refine zl hm 1 ?_;exact ⟨rfl,hm.ext⟩
theorem qos (b:Nat) (l:LB) (i:Nat) (w:World) (h:PackAt w b l) (hi:i≤1048576) (hM:MaxLenAt w) (hT:CellsAt w 6 0 qbr) (hK:qdr w) :
  Gv Tryz.prog 18 [pp b,ii i] w fun v w'=>v=qdj l i∧Ext w w':=by
 obtain ⟨vb,tb,h1,h2,h3⟩:=h;have hwd:=h3.wd;refine ze Tryz.func18 Tryz.ntmps18 ?_;refine znm (Mem.nil w) fun r4 w1 hm=>zw ?_;refine LoadV.own (hm.ext.get h1) rfl (zw ?_);refine zcv (qs4 tb (qg l) i w1 (h3.ext hm.ext) hi) ?_;rintro v w2 ⟨rfl,he2⟩;have hm:=hm.call he2
 by_cases hok:i<vNum (qg l) 3∧tOk (qg l) i=true
 case neg=>
  have hv:qdj l i=.tuple #[qa0 zQ,.bool false]:=by rw [qdj,if_neg (fun hx=>hok hx.1)]
  rw [hv,qew,if_neg hok];unfold zq;(conv=>whnf);refine znm hm fun t6 w3 hm=>zw ?_;refine zS hm 0 fun w4 hm=>zu ?_;refine zS hm 1 fun w5 hm=>zw ?_;refine qa (R:=fun v w'=>v=.tuple #[qa0 zQ,.bool false]∧Ext w w') (zw ?_);refine zl hm 1 ?_;exact ⟨rfl,hm.ext⟩
 rw [qew,if_pos hok];(conv=>whnf);refine znm hm fun t6 w3 hm=>zw ?_;refine zS hm 0 ?_;intro w4 hm;have hqb:∀ j,j<4→qIds l i j≤16777216:=fun j hj=>by
  have h1:=qqj (qj (qg l) j) (tw (qg l) j) (tUp (qg l) i (3-j));have h2:2 ^ tw (qg l) j≤2 ^ 23:=Nat.pow_le_pow_right Od (hwd j hj);have h3:(2:Nat) ^ 23=8388608:=by decide
  show tNum (qg l) i j≤_;unfold tNum;omega
 refine zu ?_;obtain ⟨u,ok,hqv,hcs⟩:∃ u ok,qdo (ql l) (qIds l i)=.tuple #[qa0 u,.bool ok]∧qk7 u∧((ok=true∧u=q4Of (ql l) (qIds l i)∧∀ j,j<4→qcq (ql l) (qIds l i j)≠none)∨(ok=false∧¬ ∀ j,j<4→qcq (ql l) (qIds l i j)≠none)):=by
  by_cases hall:∀ j,j<4→qcq (ql l) (qIds l i j)≠none
  ·exact ⟨_,true,by rw [qdo,if_pos hall],qx0 _ _,.inl ⟨rfl,rfl,hall⟩⟩
  ·refine ⟨zQ,false,by rw [qdo,if_neg hall],?_,.inr ⟨rfl,hall⟩⟩;intro k;unfold zQ Q4.at
   split<;>exact ⟨(show InR .i64 0 from ⟨by decide,by decide⟩),(show (0:Nat)≤1048576 by decide),(show (0:Nat)≤1048576 by decide),(show (0:Nat)≤1048576 by decide)⟩
 obtain ⟨hqo,hcs⟩:=hcs;refine DrawV.gen (fun S vals w'=>Al w [(t6,.cells #[ii (qIds l i 0:Nat),ii (qIds l i 1:Nat),ii (qIds l i 2:Nat),ii (qIds l i 3:Nat)] 82),(r4,.cells (qae zQ).toArray 53)] (.cells (qae zQ).toArray 53) (.cells (qae u).toArray 53) (.cells #[] 0) (.cells #[] 0) (S 9) false (S 10) false (vals 9) undef w') rfl Jk (fun vals=>Al.start hm.drew) ?_;clear hm;(conv=>whnf);(iterate 3 (refine zg ?_));refine StepG.of (pp vb) (fun S vals wd hk hp hI=>zw ?_) (zw ?_)
 ·refine LoadV.own (hI.mem.ext.get h1) rfl (zw ?_);exact ⟨rfl,hI⟩
 refine StepG.of (idsV (qIds l i)) (fun S vals wd hk hp hI=>zw ?_) (zw ?_)
 ·refine zl hI.mem 0 ?_;exact ⟨rfl,hI⟩
 refine StepG.of (.tuple #[qa0 u,.bool ok]) (fun S vals wd hk hp hI=>zw ?_) (zw ?_)
 ·refine zcv (qkv vb (ql l) (qIds l i) wd (h2.ext hI.mem.ext) hqb (hM.ext hI.mem.ext) (hT.ext hI.mem.ext) (CellsAt.ext hK hI.mem.ext)) ?_;rintro v w5 ⟨rfl,he⟩;exact ⟨hqv,hI.call he⟩
 (iterate 3 (refine zg ?_));refine StepG.any (fun S vals wd hk hp hI=>?_) (zw ?_)
 ·dsimp only at hI;rw [hk] at hI;(conv=>whnf);refine ⟨fun x wx hb hw=>?_⟩;subst hb hw;(conv=>whnf);exact ⟨trivial,hI.new1⟩
 refine StepG.of undef (fun S vals wd hk hp hI=>?_) (zw ?_)
 ·dsimp only at hI;have h9:S 9=true:=hp 9 Od;rw [hk,h9] at hI;obtain ⟨nb,hv,M,hmM,hKx⟩:=hI.put1;rw [qm hv];(conv=>whnf);refine zS hmM 0 fun wx hmx=>zw ?_;exact ⟨rfl,by show Al _ _ _ _ _ _ (S 9) false true false _ _ _;rw [h9];exact hKx hmx rfl⟩
 refine zg ?_;intro vals w5 hI;obtain ⟨t8,hv1,hm⟩:=hI.done1;rw [qm hv1];clear hI;conv=>whnf
 rcases hcs with ⟨rfl,rfl,hall⟩|⟨rfl,hall⟩
 ·refine zv ?_;refine zl hm 0 ?_;refine zv ?_;refine zcv (qds (q4Of (ql l) (qIds l i)) hqo w5 (hM.ext hm.ext) (hT.ext hm.ext)) ?_;rintro v w6 ⟨rfl,he6⟩;have hm:=hm.call he6;conv=>whnf
  by_cases hz:qck (q4Of (ql l) (qIds l i))=0
  ·have hv:qdj l i=.tuple #[qa0 (q4Of (ql l) (qIds l i)),.bool true]:=by rw [qdj,if_pos ⟨hok,hall,hz⟩]
   rw [hv];refine zv ?_;refine zl hm 0 ?_;refine zS hm 2 fun w7 hm=>zw ?_;refine qa (R:=fun v w'=>v=.tuple #[qa0 (q4Of (ql l) (qIds l i)),.bool true]∧Ext w w') (zw ?_);refine zl hm 2 ?_;exact ⟨rfl,hm.ext⟩
  ·have hv:qdj l i=.tuple #[qa0 zQ,.bool false]:=by rw [qdj,if_neg (fun hx=>hz hx.2.2)]
   rw [hv];refine zv ?_;refine zS hm 2 fun w7 hm=>zw ?_;refine qa (R:=fun v w'=>v=.tuple #[qa0 zQ,.bool false]∧Ext w w') (zw ?_);refine zl hm 2 ?_;exact ⟨rfl,hm.ext⟩
 ·have hv:qdj l i=.tuple #[qa0 zQ,.bool false]:=by rw [qdj,if_neg (fun hx=>hall hx.2.1)]
  rw [hv];refine zv ?_;refine zS hm 2 fun w7 hm=>zw ?_;refine qa (R:=fun v w'=>v=.tuple #[qa0 zQ,.bool false]∧Ext w w') (zw ?_);refine zl hm 2 ?_;exact ⟨rfl,hm.ext⟩
def us4 (q:Nat→Nat) (id:Nat):Nat→Nat
 | 0=>0
 | k+1=>us4 q id k+if q k=id then 1 else 0
def usN (l:LB) (id:Nat):Nat→Nat
 | 0=>0
 | i+1=>usN l id i+us4 (tNum l i) id 4
theorem qy4 (q:Nat→Nat) (id:Nat):∀ k,us4 q id k≤k
 | 0=>Nat.le_refl _
 | k+1=>by
  have:=qy4 q id k;rw [us4]
  split<;>omega
theorem q2k (l:LB) (id:Nat):∀ n,usN l id n≤4*n
 | 0=>Nat.le_refl _
 | n+1=>by
  have:=q2k l id n;have:=qy4 (tNum l n) id 4;rw [usN];omega
theorem qnq {q:Nat→Nat} {id:Nat}:∀ {k},us4 q id k≠0↔∃ j,j<k∧q j=id
 | 0=>by simp [us4]
 | k+1=>by
  rw [us4]
  constructor
  ·intro h
   by_cases e:q k=id
   ·exact ⟨k,by omega,e⟩
   ·rw [if_neg e] at h;obtain ⟨j,h1,h2⟩:=qnq.1 (show us4 q id k≠0 by omega);exact ⟨j,by omega,h2⟩
  ·rintro ⟨j,h1,h2⟩
   by_cases e:j=k
   ·subst e;rw [if_pos h2];omega
   ·have:=qnq.2 ⟨j,show j<k by omega,h2⟩;omega
theorem qnr {l:LB} {id:Nat}:∀ {n},usN l id n≠0↔∃ i,i<n∧∃ j,j<4∧tNum l i j=id
 | 0=>by simp [usN]
 | n+1=>by
  rw [usN]
  constructor
  ·intro h
   by_cases e:us4 (tNum l n) id 4=0
   ·obtain ⟨i,h1,h2⟩:=qnr.1 (show usN l id n≠0 by omega);exact ⟨i,by omega,h2⟩
   ·exact ⟨n,by omega,qnq.1 e⟩
  ·rintro ⟨i,h1,h2⟩
   by_cases e:i=n
   ·subst e;have:=qnq.2 h2;omega
   ·have:=qnr.2 ⟨i,show i<n by omega,h2⟩;omega
theorem qs9 {l:LB}:qm3 l↔∀ id,1≤id→id≤vTot (ql l) 3→usN (qg l) id (vNum (qg l) 3)≠0:=by
 constructor
 ·intro h id h1 h2;exact qnr.2 (h id h1 h2)
 ·intro h id h1 h2;exact qnr.1 (h id h1 h2)
namespace V
theorem LoadA.own {w:World} {b size:Nat} {cs:Array Value} {t:TypeId} {fr:Nat × Nat} {K:List Value→Prop} (h:w.heap[b]?=some (.cells cs t fr)) (hs:cs.toList.length=size) (hk:K cs.toList):LoadA w b 0 size K:=
 ⟨cs.toList,hs,fun j _=>by rw [qd h,Nat.zero_add];simp,hk⟩
end V
theorem qfr (p c:Nat) (w:World):Gv Tryz.prog 22 [ii p,ii c] w fun v w'=>∃ b,v=errV b∧w.heap.size≤b∧w'.heap[b]?=some (errO p c)∧Ext w w':=by
 refine ze Tryz.func22 Tryz.ntmps22 ?_;refine znm (Mem.nil w) fun b w1 hm=>zw ?_;exact ⟨b,rfl,(hm.own _ mh).1,hm.get mh,hm.ext⟩
theorem qh1 (b:Nat) (l:LB) (w:World) (h:VocAt w b l):Gv Tryz.prog 16 [pp b] w fun r w'=>r=ii (vTot l 3)∧w'=w:=by
 obtain ⟨d,_,hn⟩:=h.cell;refine ze Tryz.func16 Tryz.ntmps16 ?_;refine LoadV.of hn (zw ?_);exact ⟨rfl,rfl⟩
theorem q0j (tb:Nat) (l:LB) (w:World) (h:TreeAt w tb l) {K:Value→World→Prop} (hk:K (ii (vNum l 3)) w):InvV Tryz.prog 47 (pp tb) "Len" [] w K:=by
 refine ⟨17,pp tb,by kernel_rfl,?_⟩;refine zcv (qiy tb l w h) ?_;rintro v w' ⟨rfl,rfl⟩;exact hk
theorem q0k (vb:Nat) (l:LB) (w:World) (h:VocAt w vb l) {K:Value→World→Prop} (hk:K (ii (vTot l 3)) w):InvV Tryz.prog 45 (pp vb) "Len" [] w K:=by
 refine ⟨16,pp vb,by kernel_rfl,?_⟩;refine zcv (qh1 vb l w h) ?_;rintro v w' ⟨rfl,rfl⟩;exact hk
def POpR (l:LB) (v:Value) (w:World):Prop:=
 ((poE l).2≠0∧∃ e,v=.tuple #[.pointer none,e]∧ErrAt w e (poE l).1 (poE l).2)∨((poE l).2=0∧∃ b,v=.tuple #[pp b,.nilIface]∧PackAt w b l)
def usF (l:LB) (i j:Nat) (id:Nat):Value:=ii (usN l id i+us4 (tNum l i) id j:Nat)
theorem q1o (l:LB):usF l 0 0=fun _=>ii 0:=by funext id;simp [usF,usN,us4]
theorem q1m (l:LB) (i:Nat):usF l i 4=usF l (i+1) 0:=by funext id;simp [usF,usN,us4]
theorem q1n (l:LB) (i j:Nat):updF (usF l i j) (tNum l i j) (ii (usN l (tNum l i j) i+us4 (tNum l i) (tNum l i j) j+1:Nat))=usF l i (j+1):=by
 funext id
 unfold updF
 by_cases e:id=tNum l i j
 ·subst e;rw [if_pos rfl];simp only [usF,us4,if_true]
  congr 1
 ·rw [if_neg e];simp only [usF,us4];rw [if_neg (fun h=>e h.symm),Nat.add_zero]
theorem q1y (n:Nat):(qba [ii 0] n).toArray=fnA n (fun _=>ii 0):=by
 rw [qlz];unfold fnA
 congr 1
 apply List.ext_getElem?;intro i
 by_cases h:i<n
 ·simp [h]
 ·simp [h]
theorem qxu {l:LB}:pS1 l↔(((crcL (ql l)).toNat:Nat):Int)=((leN ((l.drop (28+hN l 4)).take 4):Nat):Int):=⟨fun h=>congrArg _ h,fun h=>by unfold pS1;omega⟩
theorem qxv {l:LB}:pS2 l↔(((crcL (qg l)).toNat:Nat):Int)=((leN ((l.drop (32+hN l 4+hN l 5)).take 4):Nat):Int):=⟨fun h=>congrArg _ h,fun h=>by unfold pS2;omega⟩
theorem q45 {l:LB} (h:(qw l).2=0) (h1:pS1 l) (h2:pS2 l) (h0:(fpE l (vwE (ql l)) (toE (qg l))).2≠0):poE l=fpE l (vwE (ql l)) (toE (qg l)):=by
 unfold fpE at h0 ⊢
 split at h0
 ·rename_i g;rw [if_pos g,q3x h h1 h2 g,Nat.add_comm]
 ·rename_i g
  rw [if_neg g]
  split at h0
  ·rename_i g2;rw [if_pos g2,q3w h h1 h2 (Decidable.byContradiction g) g2,Nat.add_comm]
  ·exact absurd rfl h0
theorem q46 {l:LB} {E1 E2:Nat × Nat} (h0:(fpE l E1 E2).2=0):E1.2=0∧E2.2=0:=by
 unfold fpE at h0
 split at h0
 ·rename_i g;exact absurd h0 g
 ·rename_i g
  split at h0
  ·rename_i g2;exact absurd h0 g2
  ·rename_i g2
   exact ⟨Decidable.byContradiction g,Decidable.byContradiction g2⟩
theorem q6d {l:LB} (h0:(fpE l (vwE (ql l)) (toE (qg l))).2=0):(vwE (ql l)).2=0∧(toE (qg l)).2=0:=q46 h0
end Go.Proofs.YtaiiejogocblgaaGreatDoor
