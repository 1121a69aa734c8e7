/- Lemmas and contracts of functions on the way to the law's card (part 6 of 9). -/
import Derived.Test.YtkienlambankeaaGreatDoorPE5
import Derived.OrdersIn
import Derived.Lib.AppendStr
import Derived.Shelf.SlSortCmp.WholeK
import Derived.Test.YtkienlambankeaaGreatDoorProg
import Derived.Shelf.SlSortCmp.NoneTotal
import Derived.Laws.CopyRow
import Derived.Laws.IdiomCopy
namespace Go.Proofs.YtkienlambankeaaGreatDoor
set_option maxHeartbeats 8000000
open Go.RowKit V
theorem qxd {L:List LB} (h:4194304<L.length):dicE L=2:=by rw [dicE,if_pos (.inl h)]
theorem qxf {L:List LB} {i:Nat} (h:262144<(tx L i).length):dicE L=2:=by rw [dicE,if_pos (.inr ⟨i,h⟩)]
theorem qxe {L:List LB} (h:¬ 4194304<L.length) (h2:∀ i,¬ 262144<(tx L i).length) {i:Nat} (hi:i+1<L.length) (hl:leL (tx L (i+1)) (tx L i)=true):dicE L=160:=by
 rw [dicE,if_neg (fun g=>g.elim h fun ⟨i,g⟩=>h2 i g),if_pos ⟨i,hi,hl⟩]
theorem qi4 {L:List LB} (h:dicE L=0):DOk L:=by
 unfold dicE at h
 by_cases h1:4194304<L.length∨∃ i,262144<(tx L i).length
 case pos=>rw [if_pos h1] at h;cases h
 rw [if_neg h1] at h
 by_cases h2:∃ i,i+1<L.length∧leL (tx L (i+1)) (tx L i)=true
 case pos=>rw [if_pos h2] at h;cases h
 rw [if_neg h2] at h
 by_cases h3:67108864<(qv L).length
 case pos=>rw [if_pos h3] at h;cases h
 refine ⟨Nat.not_lt.1 fun g=>h1 (.inl g),fun i=>Nat.not_lt.1 fun g=>h1 (.inr ⟨i,g⟩),fun i hi=>?_,by omega⟩;cases e:leL (tx L (i+1)) (tx L i) with
 | false=>rfl
 | true=>exact absurd ⟨i,hi,e⟩ h2
noncomputable def qcz (T:List TM):Nat:=if dicE (secE T 0)≠0 then dicE (secE T 0) else if dicE (secE T 1)≠0 then dicE (secE T 1) else dicE (secE T 2)
theorem quj {T:List TM} {k:Nat} (hk:k<3) (h:∀ j,j<k→dicE (secE T j)=0) (h0:dicE (secE T k)≠0):qcz T=dicE (secE T k):=by
 match k,hk with
 | 0,_=>rw [qcz,if_pos h0]
 | 1,_=>rw [qcz,if_neg (fun g=>g (h 0 Od)),if_pos h0]
 | 2,_=>rw [qcz,if_neg (fun g=>g (h 0 Od)),if_neg (fun g=>g (h 1 Od))]
theorem quk {T:List TM} (h:∀ k,k<3→dicE (secE T k)=0):qcz T=0:=by
 rw [qcz,if_neg (fun g=>g (h 0 Od)),if_neg (fun g=>g (h 1 Od))];exact h 2 Od
theorem qln {T:List TM} (h:qcz T=0):∀ k,k<3→dicE (secE T k)=0:=by
 unfold qcz at h
 by_cases h0:dicE (secE T 0)≠0
 case pos=>rw [if_pos h0] at h;exact absurd h h0
 rw [if_neg h0] at h
 by_cases h1:dicE (secE T 1)≠0
 case pos=>rw [if_pos h1] at h;exact absurd h h1
 rw [if_neg h1] at h;intro k hk
 match k,hk with
 | 0,_=>exact Classical.not_not.1 h0
 | 1,_=>exact Classical.not_not.1 h1
 | 2,_=>exact h
def pkB (qs:List Q4):LB:=encP (tmsQ qs) qs
theorem qqs (qs:List Q4):(pkB qs).length=(vocB (tmsQ qs)).length+(qgx (noQ (tmsQ qs) qs) qs.length).length+36:=q2i _ _ _ _
noncomputable def encE (qs:List Q4) (most:Int):Nat:=
 if valE qs≠0 then valE qs else if qcz (tmsQ qs)≠0 then qcz (tmsQ qs) else if most<((pkB qs).length:Int)∨67108864<(pkB qs).length then 1 else 0
section
variable {qs:List Q4} {most:Int}
theorem qss (h:valE qs≠0):encE qs most=valE qs:=by rw [encE,if_pos h]
theorem qst (h:valE qs=0) (h2:qcz (tmsQ qs)≠0):encE qs most=qcz (tmsQ qs):=by rw [encE,if_neg (fun g=>g h),if_pos h2]
theorem qik (h:valE qs=0) (h2:qcz (tmsQ qs)=0) (h3:most<((pkB qs).length:Int)∨67108864<(pkB qs).length):encE qs most=1:=by rw [encE,if_neg (fun g=>g h),if_neg (fun g=>g h2),if_pos h3]
theorem qxm (h:valE qs=0) (h2:qcz (tmsQ qs)=0) (h3:¬ (most<((pkB qs).length:Int)∨67108864<(pkB qs).length)):encE qs most=0:=by rw [encE,if_neg (fun g=>g h),if_neg (fun g=>g h2),if_neg h3]
theorem qxn (h:encE qs most=0):valE qs=0∧qcz (tmsQ qs)=0∧((pkB qs).length:Int)≤most∧(pkB qs).length≤67108864:=by
 unfold encE at h
 by_cases h0:valE qs≠0
 case pos=>rw [if_pos h0] at h;exact absurd h h0
 rw [if_neg h0] at h
 by_cases h1:qcz (tmsQ qs)≠0
 case pos=>rw [if_pos h1] at h;exact absurd h h1
 rw [if_neg h1] at h
 by_cases h2:most<((pkB qs).length:Int)∨67108864<(pkB qs).length
 case pos=>rw [if_pos h2] at h;cases h
 exact ⟨Classical.not_not.1 h0,Classical.not_not.1 h1,by omega,by omega⟩
theorem q7p (a b c:LB):a.length+b.length+c.length≤(jo3 a b c).length:=by
 rw [jo3];simp only [zla];omega
end
def hvT (t:TM):Nat:=20+t.text.size+t.type.size+t.lang.size
def hvQ (q:Q4):Nat:=hvT q.s+hvT q.p+hvT q.o+hvT q.g
def hvL (qs:List Q4):Nat:=(qs.map hvQ).sum
theorem q49 (qs:List Q4):80*qs.length≤hvL qs:=by
 induction qs with
 | nil=>exact Nat.le_refl _
 | cons q qs ih=>
  have e:hvL (q::qs)=hvQ q+hvL qs:=by simp [hvL]
  have h1:80≤hvQ q:=by unfold hvQ hvT;omega
  rw [e,List.length_cons];omega
set_option maxRecDepth 100000
theorem qs2 {qs:List Q4} {i:Nat} {q:Q4} (h:qs[i]?=some q):hvL (qs.take (i+1))=hvL (qs.take i)+hvQ q:=by
 rw [List.take_add_one,h];simp [hvL]
def hvK (q:Q4):Nat→Nat
 | 0=>0
 | k+1=>hvK q k+hvT (q.at k)
theorem qs1 (q:Q4):hvK q 4=hvQ q:=by simp [hvK,hvQ,Q4.at]
theorem q3p (q:Q4) {k:Nat} (h:k≤4):hvK q k≤hvQ q:=by
 rw [← qs1];have:∀ d,k+d=4→hvK q k≤hvK q 4:=fun d hd=>by
  rcases (show k=0∨k=1∨k=2∨k=3∨k=4 by omega) with rfl|rfl|rfl|rfl|rfl<;>simp only [hvK]<;>omega
 exact this (4-k) Oo
theorem qx6 (qs:List Q4) (A:oA) (n c:Nat) (w:World) (hS:SlAt qo 16 w A qs) (hn:qs.length=n) (hb:n≤140737488355328) (hq:∀ q∈qs,hvQ q≤1152921504606846976) :
  Gv Tryz.prog 9 [.slice A n c] w fun r w'=>∃ h:Bool,r=.bool h∧(h=false→hvL qs≤67108864)∧Ext w w':=by
 have t16:tsz Tryz.prog 68=16:=by kernel_rfl
 have t4:tsz Tryz.prog 66=4:=by kernel_rfl
 refine ze Tryz.func9 Tryz.ntmps9 ?_;refine qe (fun x:Nat=>[(0,.slice A n c),(3,ii (hvL (qs.take x):Nat)),(4,ii x)]) (fun x w'=>x≤n∧hvL (qs.take x)≤1152921504606846976+67108864∧Ext w w') (fun x=>n-x) 0 ⟨rfl,rfl,rfl,trivial⟩ ⟨Nat.zero_le _,by simp [hvL],xr⟩ ?_;rintro i w1 ρ' ⟨i1,hv,he⟩;conv=>whnf
 (repeat' (first|refine zp ?_|refine zC (fun _=>zw ?_) (fun _=>zw ?_)))
 ·have hil:i<qs.length:=by omega
  have hqi:qs[i]?=some qs[i]:=zge hil;have hqm:=List.getElem_mem hil;obtain ⟨q,eq⟩:∃ q,q=qs[i]:=⟨_,rfl⟩
  rw [← eq] at hqi hqm;have hqb:=hq q hqm;obtain ⟨g,o,rfl,hcs⟩:=(hS.ext he).at_ (by intro e;rw [e] at hil;simp at hil);have hcq:=hcs i q hqi;refine DrawV.gen (fun S vals w'=>Al w1 [] (.cells (qo zQ).toArray 69) (.cells (qo q).toArray 69) (.cells #[] 0) (.cells #[] 0) (S 21) false (S 22) false (vals 21) undef w') rfl Ok (fun vals=>Al.start (Mem.nil w1).drew) (zw ?_);refine zg ?_;refine zg ?_;refine StepG.of (.pointer (some ⟨g,o+i*16,none⟩)) (fun S vals wd hk hp hI=>zw ?_) (zw ?_)
  ·refine ⟨⟨g,o,i,rfl,by omega,by omega,?_⟩⟩;rw [t16];(conv=>whnf);exact ⟨rfl,hI⟩
  refine zg ?_;refine StepG.of (qa7 (q.at 0)) (fun S vals wd hk hp hI=>zw ?_) (zw ?_)
  ·refine LoadA.cells (qg (CellsAt.ext hcq hI.mem.ext) 0 Od) rfl (zw ?_);exact ⟨rfl,hI⟩
  refine zg ?_;refine zg ?_;refine StepG.of (.pointer (some ⟨g,o+i*16,none⟩)) (fun S vals wd hk hp hI=>zw ?_) (zw ?_)
  ·refine ⟨⟨g,o,i,rfl,by omega,by omega,?_⟩⟩;rw [t16];(conv=>whnf);exact ⟨rfl,hI⟩
  refine zg ?_;refine StepG.of (qa7 (q.at 1)) (fun S vals wd hk hp hI=>zw ?_) (zw ?_)
  ·refine LoadA.cells (qg (CellsAt.ext hcq hI.mem.ext) 1 Od) rfl (zw ?_);exact ⟨rfl,hI⟩
  refine zg ?_;refine zg ?_;refine StepG.of (.pointer (some ⟨g,o+i*16,none⟩)) (fun S vals wd hk hp hI=>zw ?_) (zw ?_)
  ·refine ⟨⟨g,o,i,rfl,by omega,by omega,?_⟩⟩;rw [t16];(conv=>whnf);exact ⟨rfl,hI⟩
  refine zg ?_;refine StepG.of (qa7 (q.at 2)) (fun S vals wd hk hp hI=>zw ?_) (zw ?_)
  ·refine LoadA.cells (qg (CellsAt.ext hcq hI.mem.ext) 2 Od) rfl (zw ?_);exact ⟨rfl,hI⟩
  refine zg ?_;refine zg ?_;refine StepG.of (.pointer (some ⟨g,o+i*16,none⟩)) (fun S vals wd hk hp hI=>zw ?_) (zw ?_)
  ·refine ⟨⟨g,o,i,rfl,by omega,by omega,?_⟩⟩;rw [t16];(conv=>whnf);exact ⟨rfl,hI⟩
  refine zg ?_;refine StepG.of (qa7 (q.at 3)) (fun S vals wd hk hp hI=>zw ?_) (zw ?_)
  ·refine LoadA.cells (qg (CellsAt.ext hcq hI.mem.ext) 3 Od) rfl (zw ?_);exact ⟨rfl,hI⟩
  refine zg ?_;refine StepG.any (fun S vals wd hk hp hI=>?_) (zw ?_)
  ·dsimp only at hI;rw [hk] at hI;(conv=>whnf);refine ⟨fun x wx hb hw=>?_⟩;subst hb hw;(conv=>whnf);exact ⟨trivial,hI.new1⟩
  refine StepG.of undef (fun S vals wd hk hp hI=>?_) (zw ?_)
  ·dsimp only at hI;have h9:S 21=true:=hp 21 Od;rw [hk,h9] at hI;obtain ⟨nb,hv,M,hmM,hKx⟩:=hI.put1;rw [qj hv];(conv=>whnf);refine zS hmM 0 fun wx hmx=>zw ?_;exact ⟨rfl,by show Al _ _ _ _ _ _ (S 21) false true false _ _ _;rw [h9];exact hKx hmx rfl⟩
  intro vals w2 hI;obtain ⟨t5,hv1,hm⟩:=hI.done1;rw [qj hv1];clear hI;(conv=>whnf);refine qe (fun k:Nat=>[(0,.slice (some ⟨g,o,none⟩) n c),(3,ii (hvL (qs.take i)+hvK q k:Nat)),(4,ii i),(5,pp t5),(6,ii k)]) (fun k w'=>k≤4∧Mem w1 w' [(t5,.cells (qo q).toArray 69)]) (fun k=>4-k) 0 ⟨rfl,rfl,rfl,rfl,rfl,trivial⟩ ⟨by omega,hm⟩ ?_;clear hm;rintro k w3 ρ2 ⟨k1,hm⟩;have hkl:=q3p q k1;(conv=>whnf);refine zC (fun _=>zu ?_) (fun _=>zu ?_)
  ·have hc3:CellsAt w3 t5 0 (qo q):=CellsAt.mem hm mh;have hcell:=CellsAt.ext (qg hc3 k Oo) (Ext.refl w3).drew;have hnx:hvK q (k+1)=hvK q k+(20+(q.at k).text.size+(q.at k).type.size+(q.at k).lang.size):=rfl;have hkl1:=q3p q (k:=k+1) Oo;refine zy ?_;refine zv ?_;refine LoadV.of (v:=.string (q.at k).text) ?_ ?_
   ·rw [← hcell 1 _ rfl,t4]
   refine zu ?_;refine LoadV.of (v:=.string (q.at k).type) ?_ ?_
   ·rw [← hcell 2 _ rfl,t4]
   refine zu ?_;refine LoadV.of (v:=.string (q.at k).lang) ?_ ?_
   ·rw [← hcell 3 _ rfl,t4]
   refine zu ?_;exact ⟨k+1,⟨rfl,congrArg (Value.int .i64) Oo,rfl,rfl,congrArg (Value.int .i64) Oo,trivial⟩,⟨by omega,hm.drew⟩,by omega⟩
  ·obtain rfl:k=4:=by omega
   rw [qs1,← qs2 hqi];exact ⟨i+1,⟨rfl,rfl,congrArg (Value.int .i64) Oo,trivial⟩,⟨by omega,by rw [qs2 hqi];omega,he.trans hm.ext⟩,by omega⟩
 ·exact ⟨_,rfl,fun h=>by have:=of_decide_eq_false h;omega,he⟩
 ·obtain rfl:i=n:=by omega
  rw [List.take_of_length_le Oo];exact ⟨_,rfl,fun h=>by have:=of_decide_eq_false h;omega,he⟩
def tz8 (x:Nat):Nat:=if x%2=1 then 0 else if x/2%2=1 then 1 else if x/4%2=1 then 2 else if x/8%2=1 then 3 else if x/16%2=1 then 4 else if x/32%2=1 then 5 else if x/64%2=1 then 6 else if x/128%2=1 then 7 else 8
def hi8 (x t:Nat):Nat:=x/2 ^ t*2 ^ t
theorem q7h {x t:Nat} (h:x<256):hi8 x t<256:=Nat.lt_of_le_of_lt (Nat.div_mul_le_self _ _) h
theorem q1v (x:Nat):hi8 x 0=x:=by simp [hi8]
theorem q6q:∀ x,x<256→∀ t,t<9→hi8 x t≠0→t≤tz8 (hi8 x t)∧tz8 (hi8 x t)<8∧x/2 ^ tz8 (hi8 x t)%2=1∧(hi8 x t) &&&(hi8 x t-1)=hi8 x (tz8 (hi8 x t)+1):=by decide +kernel
theorem q6r:∀ x,x<256→∀ t,t<9→∀ s,s<8→t≤s→s<tz8 (hi8 x t)→x/2 ^ s%2=0:=by decide +kernel
theorem q8e:∀ x,x<256→∀ t,t<9→hi8 x t=0→∀ s,s<8→t≤s→x/2 ^ s%2=0:=by decide +kernel
theorem qp4 (d:LB) (b s:Nat) (hs:s<8):bitN d (8*b+s)=(d.getD b 0).toNat/2 ^ s%2:=by
 rw [bitN,show (8*b+s)/8=b by omega,show (8*b+s)%8=s by omega]
theorem qte {d:LB} {b t:Nat}:∀ {u:Nat},t≤u→(∀ s,t≤s→s<u→bitN d (8*b+s)=0)→mkD d b u=mkD d b t∧cnt d (8*b+u)=cnt d (8*b+t):=by
 intro u hu
 induction hu with
 | refl=>intro _;exact ⟨rfl,rfl⟩
 | step hu ih=>
  rename_i u
  intro h;obtain ⟨h1,h2⟩:=ih fun s a b=>h s a Oo;have h3:=h u hu Oo;rw [mkD,if_neg (by rw [h3];omega)];refine ⟨h1,?_⟩;show cnt d (8*b+u)+bitN d (8*b+u)=_;rw [h3,h2,Nat.add_zero]
theorem qyt {d:LB} {b t:Nat} (ht:t<9) (h:hi8 (d.getD b 0).toNat t≠0) {u:Nat} (hu:u=tz8 (hi8 (d.getD b 0).toNat t)) :
  t≤u∧u<8∧bitN d (8*b+u)=1∧cnt d (8*b+u)=cnt d (8*b+t)∧mkD d b u=mkD d b t∧(hi8 (d.getD b 0).toNat t) &&&(hi8 (d.getD b 0).toNat t-1)=hi8 (d.getD b 0).toNat (u+1):=by
 obtain ⟨h1,h2,h3,h4⟩:=q6q _ (qbg _) t ht h;rw [← hu] at h1 h2 h3 h4;obtain ⟨h5,h6⟩:=qte (d:=d) (b:=b) h1 fun s a b'=>by
  rw [qp4 _ _ _ Oo];exact q6r _ (qbg _) t ht s Oo a (by rw [← hu];exact b')
 exact ⟨h1,h2,by rw [qp4 _ _ _ h2];exact h3,h6,h5,h4⟩
theorem q5n {d:LB} {b t:Nat} (ht:t<9) (h:hi8 (d.getD b 0).toNat t=0):mkD d b 8=mkD d b t∧cnt d (8*(b+1))=cnt d (8*b+t):=by
 rcases Nat.lt_or_ge t 8 with h8|h8
 ·exact qte (d:=d) (b:=b) (Nat.le_of_lt h8) fun s a b'=>by
   rw [qp4 _ _ _ b'];exact q8e _ (qbg _) t ht h s b' a
 ·obtain rfl:t=8:=by omega
  exact ⟨rfl,rfl⟩
theorem qvi (d:LB) (A:oA) (l c n:Nat) (w:World) (hS:SlAt encB 1 w A d) (hl:d.length=l) (hd:d.length=upN n 8) (hb:n≤67108864) :
  Gv Tryz.prog 132 [.slice A l c,ii n] w fun v w'=>(∃ b,v=.bool b∧(b=true↔¬ PadB d n))∧w'=w:=by
 have hu:upN n 8=(n+7)/8:=rfl;refine ze Tryz.func132 Tryz.ntmps132 ?_;refine zt ?_;refine zC (fun _=>zu ?_) (fun _=>zu ?_)
 ·exact ⟨⟨true,rfl,⟨fun _ h=>((qto hd).1 h).1 Oo,fun _=>rfl⟩⟩,rfl⟩
 have hi:n/8<d.length:=by omega
 refine ElemV.bs hS hl (n/8) Oo Oo ?_;intro eb eo hc;refine zu ?_;refine LoadV.of hc (zu ?_);refine V.Wit.shrN (n%8) Oo (by show n%8<8;omega) (zu ?_);have hg:d.getD (n/8) 0=d[n/8]:=by rw [List.getD_eq_getElem?_getD,zge hi];rfl
 refine ⟨⟨_,rfl,?_⟩,rfl⟩;rw [qto hd,hg];obtain ⟨X,eX⟩:∃ X,X=d[n/8].toNat/2 ^ (n%8):=⟨_,rfl⟩
 rw [← eX];simp only [decide_eq_true_eq];omega
theorem qxc (d:LB) (A:oA) (l c:Nat) (w:World) (hS:SlAt encB 1 w A d) (hl:d.length=l) (hb:l≤67108864) :
  Gv Tryz.prog 133 [.slice A l c] w fun v w'=>v=ii (cnt d (8*d.length))∧w'=w:=by
 refine ze Tryz.func133 Tryz.ntmps133 ?_;refine qe (fun i:Nat=>[(3,ii (cnt d (8*i))),(6,.slice A l c),(7,ii l),(8,ii i)]) (fun i w'=>i≤l∧w'=w) (fun i=>l-i) 0 ⟨rfl,rfl,rfl,rfl,trivial⟩ ⟨Nat.zero_le _,rfl⟩ ?_;rintro i w1 ρ' ⟨i1,rfl⟩;have hc8:=qed d (8*i);(conv=>whnf);refine zC (fun _=>zw ?_) (fun _=>zw ?_)
 ·have hi:i<d.length:=by omega
  refine ElemV.bs hS hl i rfl Oo ?_;intro eb eo hc;(conv=>whnf);refine LoadV.of hc (zw ?_);refine zcv (qy0 d[i].toNat _ (qbg _)) ?_;rintro r w2 ⟨rfl,rfl⟩;have h8:qmx d[i].toNat≤8:=by unfold qmx;omega
  have hs:cnt d (8*(i+1))=cnt d (8*i)+qmx d[i].toNat:=by
   have:=q1g d i 1;rw [this,qe6,qe6,Nat.add_zero,List.getD_eq_getElem?_getD,zge hi,Nat.zero_add];rfl
  refine zu ?_;exact ⟨i+1,⟨by rw [hs];exact congrArg (Value.int .i64) Oo,rfl,rfl,rfl,trivial⟩,⟨by omega,rfl⟩,by omega⟩
 ·obtain rfl:i=l:=by omega
  exact ⟨by rw [hl],rfl⟩
theorem q6p (x:Nat) (w:World) (hx:x<256):Gv Tryz.prog 189 [.int .u8 x] w fun r w'=>r=ii (tz8 x)∧w'=w:=by
 refine ze Tryz.func189 Tryz.ntmps189 ?_;refine IdxV.nat (by show x<256;exact hx) (zw ?_);refine Wit.conv (qiu (Nat.lt_of_lt_of_le (qbg _) Od)) (zw ?_);refine ⟨congrArg (Value.int .i64) (congrArg Int.ofNat ?_),rfl⟩;clear w
 revert x
 decide +kernel
theorem ah8 (d:LB) (b:Nat):ahN d (8*(b+1))=cnt d (2048*(8*b/2048)):=by
 rw [ahN,if_neg Oo,show (8*(b+1)-1)/2048=8*b/2048 by omega]
theorem ah8' (d:LB) (b:Nat) (h:8*b%2048≠0):ahN d (8*b)=cnt d (2048*(8*b/2048)):=by
 rw [ahN,if_neg Oo,show (8*b-1)/2048=8*b/2048 by omega]
theorem qsd (x:Nat) (h:x<256) (h0:x≠0):qdc .and .u8 (x:Int) ((x:Int)-1)=((x &&&(x-1):Nat):Int):=by
 have e:(x:Int)-1=((x-1:Nat):Int):=by omega
 rw [e];exact ql0 (qd6 h) (qd6 Oo)
theorem qmc (d:LB) (A:oA) (l c n:Nat) (w:World) (hl:d.length=l) (hd:d.length=upN n 8) (hb:n≤67108864) (g:FuncId) (c1 c2:Value) (I:List (Nat × Nat × Nat)→World→Prop)
  (hIx:∀ L w',I L w'→SlAt encB 1 w' A d) (h0:I [] w)
  (ht:∀ L x w',I L w'→x∈dirD d (upN n 8)→Gv Tryz.prog g [ii x.1,ii x.2.1,ii x.2.2,c1,c2] w' fun r w''=>r=.bool true∧I (L++[x]) w'') :
  Gv Tryz.prog 136 [.slice A l c,ii n,.func (.func g) #[] #[c1,c2]] w fun r w'=>r=.bool true∧I (dirD d (upN n 8)) w':=by
 have hu:upN n 8=(n+7)/8:=rfl;refine ze Tryz.func136 Tryz.ntmps136 ?_;refine qe (fun b:Nat=>[(0,.slice A l c),(1,ii n),(2,.func (.func g) #[] #[c1,c2]),(7,ii (cnt d (8*b))),(8,ii (ahN d (8*b))),(9,ii (8*b:Nat))]) (fun b w'=>b≤upN n 8∧I (dirD d b) w') (fun b=>upN n 8-b) 0
  ⟨rfl,rfl,rfl,rfl,rfl,rfl,trivial⟩ ⟨Nat.zero_le _,h0⟩ ?_
 rintro b w1 ρ' ⟨b1,hI⟩;have hcb:=qed d (8*b);have hcm:cnt d (2048*(8*b/2048))≤cnt d (8*b):=qii Oo;have hnext:∀ {x},b<upN n 8→x∈grD d b∨x∈smD d b∨x∈mkD d b 8→x∈dirD d (upN n 8):=fun hbn hx=>qdy.2 ⟨b,hbn,hx⟩
 (conv=>whnf)
 (repeat' (first|refine zp ?_|refine zC (fun _=>zw ?_) (fun _=>zw ?_)))
 case' refine_1.refine_1=>
  have hbn:b<upN n 8:=by omega
  have hbl:b<d.length:=by omega
  rw [show ((8*b:Nat):Int)/2048=((8*b/2048:Nat):Int) by omega];have hgr:grD d b=[(2048,8*b/2048,cnt d (8*b))]:=by rw [grD,if_pos Oo]
  have hsm:smD d b=[(256,8*b/256,cnt d (8*b)-cnt d (2048*(8*b/2048)))]:=by rw [smD,if_pos Oo]
  have ha:cnt d (8*b)=cnt d (2048*(8*b/2048)):=by rw [show 2048*(8*b/2048)=8*b by omega]
  refine zcv (ht (dirD d b) (2048,8*b/2048,cnt d (8*b)) w1 hI (hnext hbn (.inl (by rw [hgr];exact List.mem_singleton.2 rfl)))) ?_;rintro r w2 ⟨rfl,hI2⟩;rw [← hgr] at hI2;refine zu ?_;rw [show ((8*b:Nat):Int)/256=((8*b/256:Nat):Int) by omega,show (cnt d (8*b):Int)-(cnt d (8*b):Int)=((cnt d (8*b)-cnt d (2048*(8*b/2048)):Nat):Int) by omega];refine zcv (ht (dirD d b++grD d b) (256,8*b/256,cnt d (8*b)-cnt d (2048*(8*b/2048))) w2 hI2 (hnext hbn (.inr (.inl (by rw [hsm];exact List.mem_singleton.2 rfl))))) ?_;rintro r w3 ⟨rfl,hI3⟩;rw [← hsm,List.append_assoc] at hI3;refine zu ?_
 case' refine_1.refine_2.refine_1=>
  have hbn:b<upN n 8:=by omega
  have hbl:b<d.length:=by omega
  have hgr:grD d b=[]:=by rw [grD,if_neg Oo]
  have hsm:smD d b=[(256,8*b/256,cnt d (8*b)-cnt d (2048*(8*b/2048)))]:=by rw [smD,if_pos Oo]
  have ha:=ah8' d b Oo;refine zv ?_;rw [show ((8*b:Nat):Int)/256=((8*b/256:Nat):Int) by omega,show (cnt d (8*b):Int)-(ahN d (8*b):Int)=((cnt d (8*b)-cnt d (2048*(8*b/2048)):Nat):Int) by omega];refine zcv (ht (dirD d b) (256,8*b/256,cnt d (8*b)-cnt d (2048*(8*b/2048))) w1 hI (hnext hbn (.inr (.inl (by rw [hsm];exact List.mem_singleton.2 rfl))))) ?_;rintro r w3 ⟨rfl,hI3⟩;rw [← hsm,← List.nil_append (smD d b),← hgr] at hI3;refine zu ?_
 case' refine_1.refine_2.refine_2=>
  have hbn:b<upN n 8:=by omega
  have hbl:b<d.length:=by omega
  have hgr:grD d b=[]:=by rw [grD,if_neg Oo]
  have hsm:smD d b=[]:=by rw [smD,if_neg Oo]
  have ha:=ah8' d b Oo;have hI3:I (dirD d b++(grD d b++smD d b)) w1:=by rw [hgr,hsm,List.append_nil,List.append_nil];exact hI
 case' refine_2=>
  obtain rfl:b=upN n 8:=by omega
  exact ⟨rfl,hI⟩
 all_goals
  refine ElemV.bs (hIx _ _ hI3) hl b Oo Oo ?_;intro eb eo hc;(conv=>whnf);refine LoadV.of hc (zw ?_);have hX:d[b]=d.getD b 0:=by rw [List.getD_eq_getElem?_getD,zge hbl];rfl
  refine qe (fun t:Nat=>[(0,.slice A l c),(1,ii n),(2,.func (.func g) #[] #[c1,c2]),(7,ii (cnt d (8*b+t))),(8,ii (cnt d (2048*(8*b/2048)))),(9,ii (8*b:Nat)),(10,.int .u8 (hi8 (d.getD b 0).toNat t))])
   (fun t w'=>t≤8∧I (dirD d b++(grD d b++(smD d b++mkD d b t))) w') (fun t=>9-t) 0
   ⟨rfl,rfl,rfl,rfl,congrArg (fun n:Nat=>ii n) ha,rfl,congrArg (fun n:Nat=>Value.int .u8 n) (by rw [q1v,hX]),trivial⟩ ⟨Nat.zero_le _,by rw [mkD,List.append_nil];exact hI3⟩ ?_
  rintro t w4 ρ2 ⟨t8,hI4⟩;have hlt:=q7h (t:=t) (qbg (d.getD b 0));have hct:=qed d (8*b+t);conv=>whnf
  (repeat' (first|refine zp ?_|refine zC (fun _=>zw ?_) (fun _=>zw ?_)))
  ·rename_i hz h5
   obtain ⟨m1,m2,m3,m4,m5,m6⟩:=qyt (d:=d) (b:=b) (t:=t) Oo Oo rfl;obtain ⟨u,eu⟩:∃ u,u=tz8 (hi8 (d.getD b 0).toNat t):=⟨_,rfl⟩
   have hq:=q6p (hi8 (d.getD b 0).toNat t);rw [← eu] at m1 m2 m3 m4 m5 m6 hq;have hc1:cnt d (8*b+(u+1))=cnt d (8*b+t)+1:=by rw [show 8*b+(u+1)=8*b+u+1 from rfl,cnt,m3,m4]
   have hmk:mkD d b (u+1)=mkD d b t++[(512,cnt d (8*b+t)/512,8*b+u)]:=by rw [mkD,if_pos ⟨m3,by omega⟩,m5,m4]
   rw [show (cnt d (8*b+t):Int)/512=((cnt d (8*b+t)/512:Nat):Int) by omega];refine zcv (hq w4 hlt) ?_;rintro r w5 ⟨rfl,rfl⟩;refine zu ?_;rw [show ((8*b:Nat):Int)+(u:Int)=((8*b+u:Nat):Int) by omega];refine zcv (ht _ (512,cnt d (8*b+t)/512,8*b+u) w5 hI4 (hnext hbn (.inr (.inr (qhn.2 ⟨u,m2,m3,by omega,by rw [m4]⟩))))) ?_;rintro r w6 ⟨rfl,hI6⟩;rw [List.append_assoc,List.append_assoc,List.append_assoc,← hmk] at hI6;refine zu ?_;refine Wit.eq (qsd _ hlt Oo) ?_;rw [m6];(conv=>whnf);exact ⟨u+1,⟨rfl,rfl,rfl,by rw [hc1];rfl,rfl,rfl,rfl,trivial⟩,⟨by omega,hI6⟩,by omega⟩
  ·rename_i hz h5
   obtain ⟨m1,m2,m3,m4,m5,m6⟩:=qyt (d:=d) (b:=b) (t:=t) Oo Oo rfl;obtain ⟨u,eu⟩:∃ u,u=tz8 (hi8 (d.getD b 0).toNat t):=⟨_,rfl⟩
   rw [← eu] at m1 m2 m3 m4 m5 m6;have hc1:cnt d (8*b+(u+1))=cnt d (8*b+t)+1:=by rw [show 8*b+(u+1)=8*b+u+1 from rfl,cnt,m3,m4]
   have hmk:mkD d b (u+1)=mkD d b t:=by rw [mkD,if_neg Oo,m5]
   refine Wit.eq (qsd _ hlt Oo) ?_;rw [m6];(conv=>whnf);exact ⟨u+1,⟨rfl,rfl,rfl,by rw [hc1];rfl,rfl,rfl,rfl,trivial⟩,⟨by omega,by rw [hmk];exact hI4⟩,by omega⟩
  ·obtain ⟨m1,m2⟩:=q5n (d:=d) (b:=b) (t:=t) Oo Oo;exact ⟨b+1,⟨rfl,rfl,rfl,by rw [m2];rfl,by rw [ah8];rfl,congrArg (Value.int .i64) Oo,trivial⟩,⟨by omega,by rw [dirD,m1];exact hI4⟩,by omega⟩
theorem qxh {d:LB} {nb:Nat} {x:Nat × Nat × Nat} (h:x∈dirD d nb):x.1=2048∨x.1=256∨x.1=512:=by
 obtain ⟨b,_,hx|hx|hx⟩:=qdy.1 h
 ·unfold grD at hx
  split at hx
  ·rw [List.mem_singleton.1 hx];exact .inl rfl
  ·cases hx
 ·unfold smD at hx
  split at hx
  ·rw [List.mem_singleton.1 hx];exact .inr (.inl rfl)
  ·cases hx
 ·obtain ⟨s,_,_,_,e⟩:=qhn.1 hx;rw [e];exact .inr (.inr rfl)
theorem qzt (k n:Nat) (w:World):Gv Tryz.prog 122 [ii k,ii n] w fun r w'=>r=.bool (decide (¬ ((k≠0∧n=0)∨4194304<n)))∧w'=w:=by
 refine ze Tryz.func122 Tryz.ntmps122 ?_;refine V.Fall.min2 rfl rfl rfl fun m hm=>?_;(conv=>whnf);refine zC (fun _=>zu ?_) (fun _=>zu ?_)
 all_goals refine ⟨congrArg Value.bool ?_,rfl⟩
 all_goals first|exact (decide_eq_false Oo).symm|exact decide_eq_decide.2 Oo
section
variable {w0 w w':World} {t:TypeId} {n:Nat} {s:Bool} {v:Value}
end
theorem qwq (a b:ByteArray) (w:World) (ha:a.size≤4194304) :
  Gv Tryz.prog 115 [.string a,.string b] w fun r w'=>r=ii (comL a.data.toList b.data.toList)∧Ext w w':=by
 have la:a.data.toList.length=a.size:=rfl;have lb:b.data.toList.length=b.size:=rfl;refine ze Tryz.func115 Tryz.ntmps115 ?_;refine qe (fun i:Nat=>[(0,.string a),(1,.string b),(5,ii i)]) (fun i w'=>i≤a.size∧i≤b.size∧(∀ j,j<i→a.data.toList[j]?=b.data.toList[j]?)∧Ext w w') (fun i=>a.size-i) 0 ⟨rfl,rfl,rfl,trivial⟩ ⟨Nat.zero_le _,Nat.zero_le _,fun j h=>by omega,xr⟩ ?_;rintro i w1 ρ' ⟨i1,i2,i3,he⟩;(conv=>whnf);refine zy ?_
 (repeat' (first|refine zp ?_|refine zC (fun _=>zw ?_) (fun _=>zw ?_)))
 all_goals first
  | exact ⟨i+1,⟨rfl,rfl,rfl,trivial⟩,⟨by omega,by omega,fun j hj=>by
    by_cases e:j=i
    ·subst e;rw [qee Oo,qee Oo];exact congrArg some (UInt8.toNat_inj.1 Oo)
    ·exact i3 j Oo,he.drew⟩,by omega⟩
  | exact ⟨by rw [qi1 i3 Oo Oo fun g1 g2=>by omega],he.drew⟩
  | (refine ⟨?_,he.drew⟩;rw [qi1 i3 Oo Oo fun g1 g2=>by
    rw [qee Oo,qee Oo];intro e;have:=congrArg UInt8.toNat (Option.some.inj e);omega])
def q8j (w:World) (x:Nat):Prop:=(∀ off k c,w.cell? ⟨x,off,none⟩≠some (.int k c))∧∀ cs t fz,w.heap[x]?=some (.cells cs t fz)→t≠253∧t≠153∧t≠263∧t≠98
section
variable {w w':World} {x:Nat} (ha:q8j w x) (hw:∀ c,c≠x→w'.heap[c]?=w.heap[c]?)
include ha hw
end
namespace V
end V
namespace V
end V
theorem qwc (b:Nat) (l:LB) (w:World) (h:VocAt w b l):Gv Tryz.prog 32 [pp b] w fun r w'=>r=ii (vTot l 3)∧w'=w:=by
 obtain ⟨d,_,hn⟩:=h.cell;refine ze Tryz.func32 Tryz.ntmps32 ?_;refine LoadV.of hn (zw ?_);exact ⟨rfl,rfl⟩
theorem qrg (g:FuncId) (c1 c2:Value) (n:Nat) (p:Nat→Bool) (w:World) (hn:n≤4194304) (hp:∀ i j,i≤j→p i=true→p j=true)
  (hg:∀ i w',i<n→Ext w w'→Gv Tryz.prog g [ii i,c1,c2] w' fun r w''=>r=.bool (p i)∧Ext w' w'') :
  Gv Tryz.prog 223 [ii n,.func (.func g) #[] #[c1,c2]] w fun r w'=>∃ k:Nat,r=ii k∧k≤n∧(∀ i,i<k→p i=false)∧(∀ i,k≤i→i<n→p i=true)∧Ext w w':=by
 refine ze Tryz.func223 Tryz.ntmps223 ?_;refine qe (fun s:Nat × Nat=>[(1,.func (.func g) #[] #[c1,c2]),(5,ii s.1),(6,ii s.2)])
  (fun s w'=>s.1≤s.2∧s.2≤n∧(∀ i,i<s.1→p i=false)∧(∀ i,s.2≤i→i<n→p i=true)∧Ext w w') (fun s=>s.2-s.1) (0,n) ⟨rfl,rfl,rfl,trivial⟩ ⟨Nat.zero_le _,Nat.le_refl _,fun i h=>by omega,fun i h1 h2=>by omega,xr⟩ ?_
 rintro ⟨a,b⟩ w1 ρ' ⟨h1,h2,h3,h4,he⟩;dsimp only at h1 h2 h3 h4 ⊢;(conv=>whnf);refine zC (fun _=>zu ?_) (fun _=>zu ?_)
 ·obtain ⟨h,eh⟩:∃ h,h=(a+b)/2:=⟨_,rfl⟩
  rw [← Int.natCast_add];refine V.Wit.shrN 1 rfl Od ?_;rw [Nat.pow_one,← eh];refine zu ?_;refine zcv (hg h w1 Oo he) ?_;rintro r w2 ⟨rfl,he2⟩;have he:=he.trans he2;cases hph:p h
  ·refine zu ?_;refine ⟨(h+1,b),⟨rfl,rfl,rfl,trivial⟩,⟨by show h+1≤b;omega,h2,fun i hi=>?_,h4,he⟩,by show b-(h+1)<b-a;omega⟩
   by_cases hip:p i=true
   ·have:=hp i h (by show i≤h;have hi:i<h+1:=hi;omega) hip;rw [hph] at this;cases this
   ·simpa using hip
  ·refine zu ?_;refine ⟨(a,h),⟨rfl,rfl,rfl,trivial⟩,⟨by show a≤h;omega,by show h≤n;omega,h3,fun i hi _=>hp h i hi hph,he⟩,by show h-a<b-a;omega⟩
 ·obtain rfl:a=b:=by omega
  exact ⟨a,rfl,h2,h3,h4,he⟩
def ltx (L:List LB) (i:Nat) (s:ByteArray):Bool:=slt ⟨(tx L i).toArray⟩ s
theorem DOk.up {L:List LB} (h:DOk L) {i j:Nat} (hij:i<j) (hj:j<L.length):slt ⟨(tx L i).toArray⟩ ⟨(tx L j).toArray⟩=true:=by
 induction j with
 | zero=>omega
 | succ j ih=>
  have h1:slt ⟨(tx L j).toArray⟩ ⟨(tx L (j+1)).toArray⟩=true:=by
   have h2:=h.rise j hj;simp only [leL,Bool.or_eq_false_iff] at h2
   rcases qnk ⟨(tx L j).toArray⟩ ⟨(tx L (j+1)).toArray⟩ with g|g|g
   ·exact g
   ·rw [g] at h2;have:=h2.2;simp [seq] at this
   ·rw [g] at h2;exact absurd h2.1 Od
  by_cases e:i=j
  ·subst e;exact h1
  ·exact qeu (ih Oo Oo) h1
theorem DOk.ltx_up {L:List LB} (h:DOk L) {i j:Nat} {s:ByteArray} (hij:i≤j) (hj:j<L.length) (hs:ltx L j s=true):ltx L i s=true:=by
 by_cases e:i=j
 ·subst e;exact hs
 ·exact qeu (h.up Oo hj) hs
theorem qof (b:Nat) (t s:ByteArray) (w:World) (hb:w.cell? ⟨b,0,none⟩=some (.string s)) :
  Gv Tryz.prog 185 [.string t,pp b] w fun r w'=>r=.bool (slt t s)∧Ext w w':=by
 refine ze Tryz.func185 Tryz.ntmps185 ?_;refine LoadV.of hb (zw ?_);exact ⟨rfl,xr⟩
theorem quq (L:List LB) (hL:DOk L) (b b2 b3 sb i:Nat) (s:ByteArray) (w:World) (hD:DictAt w b (qh L)) (hi:i<upN L.length 16)
  (h2:w.cell? ⟨b2,0,none⟩=some (pp b)) (h3:w.cell? ⟨b3,0,none⟩=some (.func (.func 185) #[] #[pp sb])) (hs:w.cell? ⟨sb,0,none⟩=some (.string s)) :
  Gv Tryz.prog 224 [ii i,pp b2,pp b3] w fun r w'=>r=.bool (!ltx L (16*i) s)∧Ext w w':=by
 have hi16:16*i<L.length:=by unfold upN at hi;omega
 have hn:=hL.n;have hpl:=qn8 hD i;have hx:qcc (qc (qh L)) (qz (qh L) i) true []=blk (qc (qh L)) (qz (qh L) i) 0:=rfl;have hg:=qp8 (m:=qh L) (by rw [hL.eoE]) (i:=16*i) (by rw [hL.eN];exact hi16);rw [hL.eGet hi16,dTxt,show 16*i/16=i by omega,show 16*i%16=0 by omega] at hg;obtain ⟨q1,q2⟩:=hg;have q2:=Option.some.inj q2;obtain ⟨x,ex⟩:∃ x,x=blk (qc (qh L)) (qz (qh L) i) 0:=⟨_,rfl⟩
 rw [← ex] at q1 q2 hx;obtain ⟨P,cp,E',ce,hd1,_,_,_⟩:=id hD.1;refine ze Tryz.func224 Tryz.ntmps224 ?_;refine DrawV.free Ok Ok (zw ?_);apply zsd
 ·intro wd hd;(conv=>whnf);refine LoadV.of (((Ext.refl w).drew.trans hd).cell h2) (zw ?_);exact ⟨xr,rfl⟩
 (conv=>whnf);apply zsd
 ·intro wd hd;(conv=>whnf);refine LoadV.of (((Ext.refl w).drew.trans hd).cell h2) (zw ?_);exact ⟨xr,rfl⟩
 (conv=>whnf);refine zd ?_;apply zsd
 ·intro wd hd;(conv=>whnf);refine zcv (qo1 b (qh L) i wd (hD.ext ((Ext.refl w).drew.trans hd)) (by rw [hL.eN];exact hi)) ?_;rintro v w' ⟨rfl,rfl⟩;exact ⟨xr,rfl⟩
 (conv=>whnf);apply zsd
 ·intro wd hd;(conv=>whnf);refine zcv (qoc b (qh L) (qz (qh L) i) true ⟨#[]⟩ wd (hD.ext ((Ext.refl w).drew.trans hd)) Oo Od) ?_;rintro v w' ⟨rfl,he⟩;exact ⟨he,rfl⟩
 (conv=>whnf);have hx':qcc (qc (qh L)) (qz (qh L) i) true (⟨#[]⟩:ByteArray).data.toList=x:=hx;rw [hx'];clear hx hx' ex;obtain ⟨x1,x2,x3⟩:=x;dsimp only at q1 q2;subst q1 q2;(iterate 7 (refine zd ?_));intro w2 he2;have he2:=(Ext.refl w).drew.trans he2;(conv=>whnf);refine zC (fun _=>zu ?_) (fun _=>zu ?_)
 ·rename_i hx
  exact absurd rfl hx
 refine LoadV.of (he2.cell h3) (zu ?_);refine zcv (qof sb ⟨(tx L (16*i)).toArray⟩ s w2 (he2.cell hs)) ?_;rintro r w3 ⟨rfl,he3⟩;refine zu ?_;exact ⟨rfl,he2.trans he3⟩
structure AhN (L:List LB) (s:ByteArray) (N:Nat):Prop where
 le:N≤L.length
 lt:∀ i,i<N→ltx L i s=true
 ge:N<L.length→ltx L N s=false
theorem DOk.txt {L:List LB} (h:DOk L) {i:Nat} (hi:i<L.length):dTxt (qh L) i=tx L i:=by
 have hg:=(qp8 (m:=qh L) (by rw [h.eoE]) (i:=i) (by rw [h.eN];exact hi)).2;rw [h.eGet hi] at hg;exact (Option.some.inj hg).symm
theorem qwz (b k:Nat) (w:World):Gv Tryz.prog 168 [pp b,ii k] w fun r w'=>
  ∃ b1 b2,r=.func (.func 207) #[] #[pp b1,pp b2]∧Mem w w' [(b2,.cells #[ii k] 3),(b1,.cells #[pp b] 148)]:=by
 refine ze Tryz.func168 Tryz.ntmps168 ?_;refine znm (Mem.nil w) fun b1 w1 hm=>zw ?_;refine znm hm fun b2 w2 hm=>zw ?_;exact ⟨b1,b2,rfl,hm⟩
theorem qwp (L:List LB) (hL:DOk L) (b sb:Nat) (s:ByteArray) (w:World) (hD:DictAt w b (qh L)) (hs:w.cell? ⟨sb,0,none⟩=some (.string s)) :
  Gv Tryz.prog 184 [pp b,.func (.func 185) #[] #[pp sb]] w fun r w'=>(∃ N:Nat,r=ii N∧AhN L s N)∧Ext w w':=by
 have hn:=hL.n;have hub:upN L.length 16≤4194304:=Nat.le_trans (qa0 _ _ Od) hn;refine gvW Ok Tryz.func184 rfl Tryz.ntmps184 rfl (zw ?_);refine znm (Mem.nil w) fun b2 w1 hm=>zw ?_;refine znm hm fun b3 w2 hm=>zw ?_;obtain ⟨fv,efv⟩:∃ fv:Value,fv=.func (.func 185) #[] #[pp sb]:=⟨_,rfl⟩
 refine zr hm 1 ?_;obtain ⟨P,cp,E,ce,hd1,_,_,_⟩:=(hD.ext hm.ext).1;refine LoadV.own hd1 rfl ?_;rw [hL.eN];(conv=>whnf);refine zcv (qkv L.length w2 hn) ?_;rintro v w' ⟨rfl,rfl⟩;(conv=>whnf);have hss:=qrg 224 (pp b2) (pp b3) (upN L.length 16) (fun i => !(decide (16*i<L.length)&&ltx L (16*i) s)) w' hub (fun i j hij h=>by
  simp only [Bool.not_eq_true',Bool.and_eq_false_iff,decide_eq_false_iff_not] at h ⊢
  by_cases hj:16*j<L.length
  ·right
   have h1:=h.resolve_left (fun g=>g Oo);cases hx:ltx L (16*j) s
   ·rfl
   ·rw [hL.ltx_up Oo hj hx] at h1;cases h1
  ·exact .inl hj) (fun i w2 hi he=>(quq L hL b b2 b3 sb i s w2 (hD.ext (hm.ext.trans he)) hi (by rw [qa (he.get (hm.get (zmc mh)))];rfl) (by rw [qa (he.get (hm.get mh))];rfl) ((hm.ext.trans he).cell hs)).mono fun r w3 ⟨h1,h2⟩=>⟨by
    have hi16:16*i<L.length:=by unfold upN at hi;omega
    rw [h1,decide_eq_true hi16,Bool.true_and],h2⟩)
 refine zcv (hss) ?_;rintro v w3 ⟨k,rfl,hk1,hk2,hk3,he3⟩;have hm:=hm.call he3;clear hss;have hin:∀ i,i<upN L.length 16→16*i<L.length:=fun i h=>by unfold upN at h;omega
 have hk2:∀ i,i<k→ltx L (16*i) s=true:=fun i h=>by
  have h1:=hk2 i h;have h2:=hin i Oo
  simpa [h2] using h1
 have hk3:∀ i,k≤i→16*i<L.length→ltx L (16*i) s=false:=fun i h h2=>by
  have h1:=hk3 i h (by unfold upN;omega)
  simpa [h2] using h1
 clear hd1;(conv=>whnf);refine zC (fun _=>zu ?_) (fun _=>zu ?_)
 ·obtain rfl:k=0:=by omega
  exact ⟨⟨0,rfl,Nat.zero_le _,fun i h=>by omega,fun h=>hk3 0 znr h⟩,hm.ext⟩
 obtain ⟨q,rfl⟩:∃ q,k=q+1:=⟨k-1,by omega⟩
 rw [show (((q+1:Nat):Int)-1)=(q:Int) by omega];refine znm hm fun b6 w4 hm=>zw ?_;refine StoreV.mem hm (i:=0) rfl Js rfl fun w5 hm=>zw ?_;refine zr hm 2 ?_;refine zv ?_;rw [show (((q+1:Nat):Int)-1)=(q:Int) by omega];refine zcv (qwz b q w5) ?_;rintro v w6 ⟨b1,b7,rfl,hm7⟩;have hm:=hm.glue hm7;have hdn:dN (qh L)=L.length:=hL.eN;obtain ⟨n,en⟩:∃ n,n=min 16 (L.length-16*q):=⟨_,rfl⟩
 have hbe:BEnd (qh L) q n:=by
  have:=BEnd.full (m:=qh L) (by rw [hL.eoE]) q;rw [hdn,← en] at this;exact this
 have hq16:=hin q Oo;obtain ⟨R,eR⟩:∃ R:Nat→List (Nat × Obj),R=fun k=>[(b7,.cells #[ii q] 3),(b1,.cells #[pp b] 148),(b6,.cells #[ii (16*q+k:Nat)] 3),(b3,.cells #[fv] 281),(b2,.cells #[pp b] 148)]:=⟨_,rfl⟩
 have hm:Mem w w6 (R 0):=by
  rw [eR,efv];dsimp only;rw [show ((16*q+0:Nat):Int)=(q:Int)*16 by omega];exact hm
 have hin1:∀ k,(b1,Obj.cells #[pp b] 148)∈R k:=fun k=>by rw [eR];exact zmg (i:=1) rfl
 have hin7:∀ k,(b7,Obj.cells #[ii q] 3)∈R k:=fun k=>by rw [eR];exact zmg (i:=0) rfl
 have hlen:((List.range n).map (bRow (qh L) q)).length=n:=by simp
 (conv=>whnf);refine q32 (Φ:=BlkΦ b (qh L) q b1 b7) (lb:=[pp b1,pp b7]) (xs:=(List.range n).map (bRow (qh L) q)) rfl Ok (qnz b (qh L) q n b1 b7 (by rw [hdn];omega) hbe).toC Od ?_
  (fun k X w'=>∃ _:Unit,(k≤n∧∀ j,j<k→ltx L (16*q+j) s=true)∧Mem w w' (X++R k))
  (fun c k X w'=>∃ _:Unit,(c=.exit 0∧k<n∧(∀ j,j<k→ltx L (16*q+j) s=true)∧ltx L (16*q+k) s=false)∧Mem w w' (X++R k))
  (fun k=>Carr.mem _ _) (fun c k=>Carr.mem _ _) (fun k X w' ⟨_,_,hm'⟩=>⟨hD.ext hm'.ext,by rw [qa (hm'.get (List.mem_append_right _ (hin1 _)))];rfl,by rw [qa (hm'.get (List.mem_append_right _ (hin7 _)))];rfl⟩) ⟨(),⟨Nat.zero_le _,fun j h=>by omega⟩,by simpa using hm⟩ ?_ ?_ ?_
 ·intro x hx;obtain ⟨j,_,rfl⟩:=List.mem_map.1 hx;rfl
 ·clear hm hm7;rintro l D ob k x X w7 w8 hx ⟨_,⟨hk,hj⟩,hm⟩;have hkn:k<n:=by
   have:=(List.getElem?_eq_some_iff.1 hx).1
   rwa [hlen] at this
  rw [List.getElem?_map,List.getElem?_range hkn,Option.map_some,Option.some.injEq,q04 _ _ _ Oo,hL.txt Oo] at hx;subst hx;obtain ⟨X',eX'⟩:∃ X',X'=(l,ob)::(D,.deferred (some []))::X:=⟨_,rfl⟩
  rw [← eX'] at hm ⊢;have hm:Mem w w8 (R k++X'):=hm.perm List.perm_append_comm;rw [eR] at hm ⊢;dsimp only at hm ⊢;rw [efv] at hm ⊢;(conv=>whnf);refine ⟨rfl,rfl,?_⟩;(conv=>whnf);refine zr hm 3 ?_;refine zcv (qof sb ⟨(tx L (16*q+k)).toArray⟩ s w8 (hm.ext.cell hs)) ?_;rintro r w9 ⟨rfl,he9⟩;have hm:=hm.call he9;cases hlt:slt ⟨(tx L (16*q+k)).toArray⟩ s
  ·refine zu ?_;exact ⟨(),⟨rfl,hkn,hj,hlt⟩,hm.perm List.perm_append_comm⟩
  ·refine zu ?_;refine StoreV.mem hm (i:=2) rfl Js rfl fun w10 hm=>zw ?_;refine ⟨(),⟨hkn,fun j' hj'=>?_⟩,?_⟩
   ·by_cases e:j'=k
    ·subst e;exact hlt
    ·exact hj j' Oo
   ·rw [show ((16*q+(k+1):Nat):Int)=((16*q+k:Nat):Int)+1 by omega];exact hm.perm List.perm_append_comm
 ·clear hm hm7;rintro D w8 ⟨_,⟨hk,hj⟩,hm⟩;rw [hlen] at hk hj hm;have hm:=hm.perm (List.Perm.cons _ (show (([]:List (Nat × Obj))++R n).Perm (R n) from List.Perm.refl _));rw [eR] at hm;(conv=>whnf);refine zr hm 3 ?_;refine LeaveV.mark (hm.get mh) fun w9 hw=>?_;have hm:=hm.setO (i:=0) _ rfl hw;(conv=>whnf);refine ⟨⟨16*q+n,rfl,by omega,fun i hi=>?_,fun hl=>?_⟩,hm.ext⟩
  ·by_cases g:i<16*q
   ·exact hL.ltx_up (j:=16*q) Oo hq16 (hk2 q Oo)
   ·obtain ⟨j,rfl⟩:∃ j,i=16*q+j:=⟨i-16*q,by omega⟩
    exact hj j Oo
  ·have hN:16*q+n=16*(q+1):=by omega
   rw [hN] at hl ⊢;exact hk3 (q+1) znr hl
 ·clear hm hm7;rintro D c k w8 hkl ⟨_,⟨rfl,hk,hj,hx⟩,hm⟩;rw [eR] at hm;(conv=>whnf);refine zr hm 3 ?_;refine LeaveV.mark (hm.get mh) fun w9 hw=>?_;have hm:=hm.setO (i:=0) _ rfl hw;(conv=>whnf);refine ⟨⟨16*q+k,rfl,by omega,fun i hi=>?_,fun hl=>?_⟩,hm.ext⟩
  ·by_cases g:i<16*q
   ·exact hL.ltx_up (j:=16*q) Oo hq16 (hk2 q Oo)
   ·obtain ⟨j,rfl⟩:∃ j,i=16*q+j:=⟨i-16*q,by omega⟩
    exact hj j Oo
  ·exact hx
theorem q1q (L:List LB) (hL:DOk L) (b:Nat) (s:ByteArray) (w:World) (hD:DictAt w b (qh L)) :
  Gv Tryz.prog 121 [pp b,.string s] w fun r w'=>(∃ N:Nat,AhN L s N∧r=.tuple #[ii N,.bool (decide (N<L.length∧(⟨(tx L N).toArray⟩:ByteArray)=s))])∧Ext w w':=by
 have hn:=hL.n;refine ze Tryz.func121 Tryz.ntmps121 ?_;refine znm (Mem.nil w) fun sb w1 hm=>zw ?_;refine zcv (qwp L hL b sb s w1 (hD.ext hm.ext) (by rw [qa (hm.get mh)];rfl)) ?_;rintro r w2 ⟨⟨N,rfl,hN⟩,he2⟩;have hm:=hm.call he2;have hle:=hN.le;(conv=>whnf);refine zcv (q1l b (qh L) N w2 (hD.ext hm.ext) Oo) ?_;rintro r w3 ⟨rfl,he3⟩;have hm:=hm.call he3
 by_cases hlt:N<L.length
 ·have hg:qi2 (qh L) N=.tuple #[.string ⟨(tx L N).toArray⟩,.bool true]:=by rw [qi2,hL.eGet hlt]
  rw [hg];(conv=>whnf);refine zy ?_;refine zv ?_;refine zr hm.drew 0 ?_;refine zv ?_;refine ⟨⟨N,hN,?_⟩,hm.drew.ext⟩;have e:seq ⟨(tx L N).toArray⟩ s=decide (N<L.length∧(⟨(tx L N).toArray⟩:ByteArray)=s):=by
   cases hq:seq ⟨(tx L N).toArray⟩ s
   ·exact (decide_eq_false fun g=>qpi.1 hq g.2).symm
   ·exact (decide_eq_true ⟨hlt,qai.1 hq⟩).symm
  rw [e]
 ·have hg:qi2 (qh L) N=.tuple #[.string ⟨#[]⟩,.bool false]:=by rw [qi2,dGet,if_neg (by rw [hL.eN];exact hlt)]
  rw [hg];(conv=>whnf);refine zy ?_;refine zv ?_;refine ⟨⟨N,hN,?_⟩,hm.drew.ext⟩;have e:decide (N<L.length∧(⟨(tx L N).toArray⟩:ByteArray)=s)=false:=decide_eq_false fun g=>hlt g.1
  rw [e]
theorem AhN.at {L:List LB} (h:DOk L) {s:ByteArray} {N j:Nat} (hN:AhN L s N) (hj:j<L.length) (he:(⟨(tx L j).toArray⟩:ByteArray)=s):N=j:=by
 rcases Nat.lt_trichotomy N j with g|g|g
 ·have h1:=hN.ge Oo;have h2:=h.up g hj;rw [he] at h2;rw [ltx,h2] at h1;cases h1
 ·exact g
 ·have h1:=hN.lt j g;rw [ltx,he,qdj] at h1;cases h1
section
variable {T:List TM} (h:VOk T) (hr:RiseT T) (hk:∀ t∈T,1≤t.kind∧t.kind≤3)
include h hr hk
theorem VOk.num {k j:Nat} {t:TM} (hk3:k<3) (hj:(ofK T k)[j]?=some t):noT T t=vTot (vocB T) k+1+j:=by
 have e:=qyx hr hk;have t1:=h.tot1;have t2:=h.tot2;have t0:vTot (vocB T) 0=0:=rfl;have hl:=(List.getElem?_eq_some_iff.1 hj).1;have hki:=qmv (zmg hj);obtain ⟨A,eA⟩:∃ A,A=ofK T 0:=⟨_,rfl⟩
 obtain ⟨B,eB⟩:∃ B,B=ofK T 1:=⟨_,rfl⟩
 obtain ⟨C,eC⟩:∃ C,C=ofK T 2:=⟨_,rfl⟩
 have hG:∀ m:Nat,T[m]?=(A++(B++C))[m]?:=fun m=>by rw [eA,eB,eC,← e]
 have hT:T[vTot (vocB T) k+j]?=some t:=by
  rw [hG]
  rcases (show k=0∨k=1∨k=2 by omega) with rfl|rfl|rfl
  ·rw [← eA] at hj hl;rw [t0,Nat.zero_add,List.getElem?_append_left hl];exact hj
  ·rw [← eB] at hj hl;rw [← eA] at t1;rw [t1,List.getElem?_append_right Oo,show A.length+j-A.length=j by omega,List.getElem?_append_left hl];exact hj
  ·rw [← eC] at hj hl;rw [← eA,← eB] at t2;rw [t2,List.getElem?_append_right Oo,List.getElem?_append_right Oo,show A.length+B.length+j-A.length-B.length=j by omega];exact hj
 rw [qth hr hT Oo];omega
theorem VOk.find {k N:Nat} {t:TM} (hk3:k<3) (ht:t∈T) (hkt:t.kind=((k+1:Nat):Int)) (hN:AhN (secE T k) ⟨(qbv t).toArray⟩ N):N<(secE T k).length∧(⟨(tx (secE T k) N).toArray⟩:ByteArray)=⟨(qbv t).toArray⟩∧noT T t=vTot (vocB T) k+1+N:=by
 have hm:t∈ofK T k:=List.mem_filter.2 ⟨ht,by simpa using hkt⟩;obtain ⟨j,hj⟩:=List.mem_iff_getElem?.1 hm;have hl:=(List.getElem?_eq_some_iff.1 hj).1;have hx:tx (secE T k) j=qbv t:=by rw [tx,List.getD_eq_getElem?_getD,qgo,List.getElem?_map,hj];rfl
 have hlen:(secE T k).length=(ofK T k).length:=by rw [qgo,List.length_map]
 obtain rfl:=hN.at (h.d k hk3) (j:=j) Oo (by rw [hx])
 exact ⟨by omega,by rw [hx],h.num hr hk hk3 hj⟩
end
theorem q6y (T:List TM) (h:VOk T) (hr:RiseT T) (hk:∀ t∈T,1≤t.kind∧t.kind≤3) (he:∀ t∈T,qa6 t=0) (b:Nat) (t:TM) (ht:t∈T∨t=zTM) (hto:TermOk t) (w:World) (hV:VocAt w b (vocB T))
  (hM:MaxLenAt w) (hT:CellsAt w 6 0 qbt) :
  Gv Tryz.prog 59 [pp b,qa7 t] w fun r w'=>r=.tuple #[ii (noT T t:Nat),.bool true]∧Ext w w':=by
 have hb3:=hV.tot (k:=3) Od;refine ze Tryz.func59 Tryz.ntmps59 ?_;refine znm (Mem.nil w) ?_;intro tb w1 hm;have hm:Mem w w1 [(tb,.cells #[ii t.kind,.string t.text,.string t.type,.string t.lang] 66)]:=hm;(conv=>whnf);refine zl hm 0 ?_;refine RunV.eqTerm (a:=t) (b:=zTM) (.inl rfl) (zw ?_);cases hz:qao t zTM
 case true=>
  obtain rfl:=qbn.1 hz;refine zu ?_;exact ⟨by rw [qin rfl];rfl,hm.ext⟩
 have ht:t∈T:=ht.resolve_right fun e=>by rw [e,qbn.2 rfl] at hz;cases hz
 refine zu ?_;refine zl hm 0 ?_;have hen:=qlm t hto w1 (hM.ext hm.ext) (hT.ext hm.ext);rw [if_pos (he t ht)] at hen;refine zcv (hen) ?_;rintro r w2 ⟨rfl,he2⟩;have hm:=hm.call he2;refine zu ?_;have hkt:=hk t ht;obtain ⟨k,hk3,ek⟩:∃ k:Nat,k<3∧t.kind=((k+1:Nat):Int):=⟨(t.kind-1).toNat,by omega,by omega⟩
 obtain ⟨d,hd,_⟩:=hV.cell;obtain ⟨hc0,hc1,hDk⟩:=hd k hk3;have hcl:CellsAt w b (2*k) [.pointer (some ⟨d k,0,none⟩),ii (vTot (vocB T) k+1:Nat)]:=fun j v hv=>by
  match j,hv with
  | 0,hv=>rw [← hv];exact hc0
  | 1,hv=>rw [← hv];exact hc1
 refine DrawV.gen (fun S vals w'=>Al w [(tb,.cells #[ii t.kind,.string t.text,.string t.type,.string t.lang] 66)] (.cells #[.pointer none,ii 0] 150) (.cells #[.pointer (some ⟨d k,0,none⟩),ii (vTot (vocB T) k+1:Nat)] 150) (.cells #[] 0) (.cells #[] 0) (S 8) false (S 9) false (vals 8) undef w') rfl Ok (fun vals=>Al.start hm.drew) ?_;clear hm;(conv=>whnf);refine zg ?_;refine zg ?_;refine StepG.of (ii t.kind) (fun S vals wd hk hp hI=>zw ?_) (zw ?_)
 ·refine zr hI.mem 0 ?_;exact ⟨rfl,hI⟩
 rw [ek];(iterate 3 (refine zg ?_));refine StepG.of (.pointer (some ⟨b,2*k,none⟩)) (fun S vals wd hk hp hI=>zw ?_) (zw ?_)
 ·refine IdxV.at_ k Oo Oo (zw ?_);exact ⟨congrArg (fun o=>Value.pointer (some ⟨b,o,none⟩)) (by rw [show tsz Tryz.prog 150=2 from by kernel_rfl];show 0+0+k*2=2*k;omega),hI⟩
 refine StepG.of (.agg #[.pointer (some ⟨d k,0,none⟩),ii (vTot (vocB T) k+1:Nat)]) (fun S vals wd hk hp hI=>zw ?_) (zw ?_)
 ·refine LoadA.cells (CellsAt.ext hcl hI.mem.ext) (by rw [show tsz Tryz.prog 150=2 from by kernel_rfl];rfl) (zw ?_);exact ⟨rfl,hI⟩
 refine StepG.any (fun S vals wd hk hp hI=>?_) (zw ?_)
 ·dsimp only at hI;rw [hk] at hI;(conv=>whnf);refine ⟨fun x wx hb hw=>?_⟩;subst hb hw;(conv=>whnf);exact ⟨trivial,hI.new1⟩
 refine StepG.of undef (fun S vals wd hk hp hI=>?_) (zw ?_)
 ·dsimp only at hI;have h9:S 8=true:=hp 8 Od;rw [hk,h9] at hI;obtain ⟨nb,hv,M,hmM,hKx⟩:=hI.put1;rw [qj hv];(conv=>whnf);refine zS hmM 0 fun wx hmx=>zw ?_;exact ⟨rfl,by show Al _ _ _ _ _ _ (S 8) false true false _ _ _;rw [h9];exact hKx hmx rfl⟩
 intro vals w5 hI;obtain ⟨t8,hv1,hm⟩:=hI.done1;rw [qj hv1];clear hI;have hm:Mem w w5 [(t8,.cells #[.pointer (some ⟨d k,0,none⟩),ii (vTot (vocB T) k+1:Nat)] 150),(tb,.cells #[ii (k+1:Nat),.string t.text,.string t.type,.string t.lang] 66)]:=hm;(conv=>whnf);refine zr hm 0 ?_;have hDk5:DictAt w5 (d k) (qh (secE T k)):=by
  have:=hDk.ext hm.ext
  rwa [h.sDict hk3] at this
 refine zcv (q1q (secE T k) (h.d k hk3) (d k) ⟨(qbv t).toArray⟩ w5 hDk5) ?_;rintro r w6 ⟨⟨N,hN,rfl⟩,he6⟩;obtain ⟨f1,f2,f3⟩:=h.find hr hk hk3 ht ek hN;rw [show decide (N<(secE T k).length∧(⟨(tx (secE T k) N).toArray⟩:ByteArray)=⟨(qbv t).toArray⟩)=true from decide_eq_true ⟨f1,f2⟩];have hm:=hm.call he6;have hn3:=(h.d k hk3).n;have htk:=hV.tot (k:=k) Oo;refine zu ?_;refine zr hm 0 ?_;refine zv ?_;refine zcv (qsq (d k) (qh (secE T k)) w6 (hDk5.ext he6)) ?_;rintro r w7 ⟨rfl,rfl⟩;rw [(h.d k hk3).eN];refine zu ?_;refine zr hm 0 ?_;refine zv ?_;refine ⟨?_,hm.ext⟩;rw [f3];rfl
def idF (T:List TM) (q:Q4) (i j:Nat):Int:=if j<i then (noT T (gat q j):Nat) else 0
def gQ (q:Q4):Q4:=⟨q.g,q.s,q.p,q.o⟩
theorem q46 (q:Q4) {k:Nat} (hk:k<4):(gQ q).at k=gat q k:=by
 rcases (show k=0∨k=1∨k=2∨k=3 by omega) with rfl|rfl|rfl|rfl<;>rfl
theorem qx7 (T:List TM) (q:Q4) {i:Nat} (_hi:i<4):(fnA 4 (inF (idF T q i))).setIfInBounds i (ii (noT T (gat q i):Nat))=fnA 4 (inF (idF T q (i+1))):=by
 rw [qdu];refine qi7 fun j hj=>?_
 by_cases e:j=i
 ·subst e;rw [qb5,inF,idF,if_pos (Nat.lt_succ_self _)]
 ·rw [qbk _ _ _ _ e,inF,inF,idF,idF]
  congr 1
  by_cases h:j<i
  ·rw [if_pos h,if_pos Oo]
  ·rw [if_neg h,if_neg Oo]
theorem q3d (T:List TM) (h:VOk T) (hr:RiseT T) (hk:∀ t∈T,1≤t.kind∧t.kind≤3) (he:∀ t∈T,qa6 t=0) (b:Nat) (q:Q4) (hq:∀ k,k<4→gat q k∈T∨gat q k=zTM) (hqo:qec q) (w:World) (hV:VocAt w b (vocB T))
  (hM:MaxLenAt w) (hT:CellsAt w 6 0 qbt) :
  Gv Tryz.prog 29 [pp b,qbe q] w fun r w'=>r=.tuple #[idsV fun k=>noT T (gat q k),.bool true]∧Ext w w':=by
 refine ze Tryz.func29 Tryz.ntmps29 ?_;refine znm (Mem.nil w) ?_;intro b3 w1 hm;have hm:Mem w w1 [(b3,.cells (qo q).toArray 68)]:=hm;(conv=>whnf);refine znm hm fun b4 w2 hm=>zw ?_;refine znm hm ?_;intro b6 w3 hm;have hm:Mem w w3 [(b6,.cells (fnA 4 (inF (idF T q 0))) 75),(b4,.cells #[ii 0,ii 0,ii 0,ii 0] 75),(b3,.cells (qo q).toArray 68)]:=hm;have hc:CellsAt w3 b3 0 (qo q):=CellsAt.mem hm (zmg (i:=2) rfl);(conv=>whnf);refine LoadA.cells (qg hc 3 Oo) rfl (zw ?_);refine LoadA.cells (qg hc 0 Oo) rfl (zw ?_);refine LoadA.cells (qg hc 1 Oo) rfl (zw ?_);refine LoadA.cells (qg hc 2 Oo) rfl (zw ?_);refine qe (fun k:Nat=>[(0,pp b),(4,pp b4),(6,pp b6),(19,qbe (gQ q)),(20,ii k)])
  (fun k w'=>k≤4∧Mem w w' [(b6,.cells (fnA 4 (inF (idF T q k))) 75),(b4,.cells #[ii 0,ii 0,ii 0,ii 0] 75),(b3,.cells (qo q).toArray 68)]) (fun k=>4-k) 0 ⟨rfl,rfl,rfl,rfl,rfl,trivial⟩ ⟨by omega,hm⟩ ?_
 clear hm hc;rintro k w4 ρ' ⟨k1,hm⟩;(conv=>whnf);refine zC (fun _=>zu ?_) (fun _=>zu ?_)
 ·have hk4:k<4:=by omega
  refine Wit.eq (y:=encT ((gQ q).at k)) (qo4 (gQ q) k hk4) ?_;rw [q46 q hk4];(conv=>whnf);refine znm hm fun b8 w5 hm=>zw ?_;refine StoreA.all (vs:=encT (gat q k)) hm (i:=0) rfl rfl (qu _) ?_;clear hm;intro w6 hm;have hm:Mem w w6 [(b8,.cells (encT (gat q k)).toArray 66),(b6,.cells (fnA 4 (inF (idF T q k))) 75),(b4,.cells #[ii 0,ii 0,ii 0,ii 0] 75),(b3,.cells (qo q).toArray 68)]:=hm;(conv=>whnf);refine zl hm 0 ?_;refine zcv (q6y T h hr hk he b (gat q k) (hq k hk4) (by rw [← q46 q hk4];have:=hqo;rcases (show k=0∨k=1∨k=2∨k=3 by omega) with rfl|rfl|rfl|rfl;exact this 3;exact this 0;exact this 1;exact this 2) w6 (hV.ext hm.ext) (hM.ext hm.ext) (hT.ext hm.ext)) ?_;rintro r w7 ⟨rfl,he7⟩;have hm:=hm.call he7;refine zu ?_;rw [show 0+k*tsz Tryz.prog 3=k by rw [show tsz Tryz.prog 3=1 from by kernel_rfl];omega];refine StoreV.mem hm (i:=1) rfl (by rw [qn];omega) rfl ?_;clear hm;intro w8 hm;have hm:Mem w w8 [(b8,.cells (encT (gat q k)).toArray 66),(b6,.cells ((fnA 4 (inF (idF T q k))).setIfInBounds k (ii (noT T (gat q k):Nat))) 75),(b4,.cells #[ii 0,ii 0,ii 0,ii 0] 75),(b3,.cells (qo q).toArray 68)]:=hm;rw [qx7 T q hk4] at hm;refine zu ?_;exact ⟨k+1,⟨rfl,rfl,rfl,rfl,congrArg (Value.int .i64) Oo,trivial⟩,⟨by omega,hm.sub (List.sublist_cons_self ..)⟩,by omega⟩
 ·refine zl hm 0 ?_;refine zS hm 1 fun w8 hm=>zw ?_;obtain rfl:k=4:=by omega
  refine q7 (R:=fun v w'=>v=.tuple #[idsV fun k=>noT T (gat q k),.bool true]∧Ext w w') (zw ?_);refine zl hm 1 ?_;exact ⟨rfl,hm.ext⟩
open Go.RowKit
namespace V
structure Chn (F:List Nat) (w w':World):Prop where
 os:w'.os=w.os
 tape:w'.tape=w.tape
 output:w'.output=w.output
 size:w.heap.size≤w'.heap.size
 block:∀ k,k<w.heap.size→k∉F→w'.heap[k]?=w.heap[k]?
theorem Chn.refl (F:List Nat) (w:World):Chn F w w:=⟨rfl,rfl,rfl,Nat.le_refl _,fun _ _ _=>rfl⟩
theorem Chn.of {w w':World} (F:List Nat) (h:Ext w w'):Chn F w w':=⟨h.os,h.tape,h.output,h.size,fun k hk _=>h.block k hk⟩
theorem Chn.trans {F:List Nat} {a b c:World} (h:Chn F a b) (g:Chn F b c):Chn F a c:=
 ⟨g.os.trans h.os,g.tape.trans h.tape,g.output.trans h.output,Nat.le_trans h.size g.size,fun k hk hn=>(g.block k (Nat.lt_of_lt_of_le hk h.size) hn).trans (h.block k hk hn)⟩
theorem Chn.trans' {F G:List Nat} {a b c:World} (h:Chn F a b) (g:Chn G b c) (hG:∀ k∈G,k∈F∨a.heap.size≤k):Chn F a c:=
 ⟨g.os.trans h.os,g.tape.trans h.tape,g.output.trans h.output,Nat.le_trans h.size g.size,fun k hk hn=>
  (g.block k (Nat.lt_of_lt_of_le hk h.size) fun hm=>(hG k hm).elim hn fun h'=>by omega).trans (h.block k hk hn)⟩
theorem Chn.mono {F G:List Nat} {w w':World} (h:Chn F w w') (hs:∀ k∈F,k∈G):Chn G w w':=⟨h.os,h.tape,h.output,h.size,fun k hk hn=>h.block k hk fun hf=>hn (hs k hf)⟩
theorem Chn.ext {F:List Nat} {w0 w w':World} (h:Chn F w w') (he:Ext w0 w) (hF:∀ k∈F,w0.heap.size≤k):Ext w0 w':=
 Below.trans he ⟨h.os,h.tape,h.output,h.size,fun k hk=>h.block k (Nat.lt_of_lt_of_le hk he.size) fun hf=>by have:=hF k hf;omega⟩
theorem Chn.grown {w w':World} {r:Option Nat} (h:w.grownBy w' r):Chn r.toList w w':=
 ⟨h.os,h.tape,h.output,h.size,fun k hk hn=>h.block k hk fun e=>hn (by rw [← e];exact List.mem_singleton.2 rfl)⟩
theorem Chn.set {w w':World} {b off:Nat} {cs:Array Value} {t:TypeId} {fr:Nat × Nat} {v:Value} (h:w.heap[b]?=some (.cells cs t fr)) (hw:w'=w.setCell ⟨b,off,none⟩ v) :
  Chn [b] w w'∧w'.heap[b]?=some (.cells (cs.setIfInBounds off v) t fr):=by
 subst hw;exact ⟨⟨rfl,rfl,rfl,by simp [World.setCell],fun k _ hk=>Below.heap_setCell _ _ _ _ (fun e=>hk (by rw [e];exact List.mem_singleton.2 rfl))⟩,heap_setCell h⟩
theorem Chn.upd_ {w w':World} {b:Nat} {o:Obj} (h:Chn [b] w w') (ho:w'.heap[b]?=some o):Upd w w' b o:=⟨h.os,h.tape,h.output,h.size,fun k hk hn=>h.block k hk fun e=>hn (List.mem_singleton.1 e),ho⟩
structure Sep (w0 w:World) (Fs:List (List Nat)):Prop where
 ext:Ext w0 w
 lo:∀ F∈Fs,∀ k∈F,w0.heap.size≤k∧k<w.heap.size
 ap:Fs.Pairwise fun F G=>∀ k∈F,k∉G
section
variable {w0 w w':World} {Fs:List (List Nat)}
theorem Sep.nil (w:World):Sep w w []:=⟨Ext.refl w,(fun _ h=>(by cases h)),List.Pairwise.nil⟩
theorem Sep.of {w0 w:World} (h:Ext w0 w):Sep w0 w []:=⟨h,(fun _ h=>(by cases h)),List.Pairwise.nil⟩
theorem Sep.call (h:Sep w0 w Fs) (he:Ext w w'):Sep w0 w' Fs:=
 ⟨h.ext.trans he,fun F hF k hk=>⟨(h.lo F hF k hk).1,Nat.lt_of_lt_of_le (h.lo F hF k hk).2 he.size⟩,h.ap⟩
theorem Sep.add (h:Sep w0 w Fs) {F:List Nat} (he:Ext w w') (hF:∀ k∈F,w.heap.size≤k∧k<w'.heap.size):Sep w0 w' (F::Fs):=by
 refine ⟨h.ext.trans he,fun G hG k hk=>?_,List.pairwise_cons.2 ⟨fun G hG k hk hg=>?_,h.ap⟩⟩
 ·rcases List.mem_cons.1 hG with rfl|hG
  ·exact ⟨Nat.le_trans h.ext.size (hF k hk).1,(hF k hk).2⟩
  ·exact (h.call he).lo G hG k hk
 ·have:=(hF k hk).1;have:=(h.lo G hG k hg).2;omega
theorem Sep.new (h:Sep w0 w Fs) {b:Nat} {o:Obj} (hb:b=w.heap.size) (hw:w'=w.alloc o):Sep w0 w' ([b]::Fs)∧w'.heap[b]?=some o:=by
 subst hb hw;refine ⟨h.add ((Ext.refl w).alloc o) fun k hk=>?_,heap_alloc_new w _⟩;rw [List.mem_singleton.1 hk];exact ⟨Nat.le_refl _,by have:=(heap_alloc_new w o);rcases Nat.lt_or_ge w.heap.size (w.alloc o).heap.size with g|g;exact g;rw [Array.getElem?_eq_none g] at this;cases this⟩
theorem Sep.drop (h:Sep w0 w Fs) (n:Nat):Sep w0 w (Fs.drop n):=
 ⟨h.ext,fun F hF=>h.lo F (List.mem_of_mem_drop hF),h.ap.sublist (List.drop_sublist n Fs)⟩
theorem Sep.perm {Gs:List (List Nat)} (h:Sep w0 w Fs) (hs:Fs.Perm Gs):Sep w0 w Gs:=
 ⟨h.ext,fun F hF=>h.lo F (hs.mem_iff.2 hF),hs.pairwise h.ap (fun {_ _} hab k hb ha=>hab k ha hb)⟩
theorem Sep.at_ (h:Sep w0 w Fs) {i:Nat} {F:List Nat} (hi:Fs[i]?=some F):∀ k∈F,w0.heap.size≤k∧k<w.heap.size:=h.lo F (zmg hi)
theorem Sep.apart (h:Sep w0 w Fs) {i j:Nat} {F G:List Nat} (hi:Fs[i]?=some F) (hj:Fs[j]?=some G) (hij:i≠j):∀ k∈G,k∉F:=by
 obtain ⟨h1,rfl⟩:=List.getElem?_eq_some_iff.1 hi;obtain ⟨h2,rfl⟩:=List.getElem?_eq_some_iff.1 hj;intro k hk hf
 rcases Nat.lt_or_gt_of_ne hij with g|g
 ·exact (List.pairwise_iff_getElem.1 h.ap) i j h1 h2 g k hf hk
 ·exact (List.pairwise_iff_getElem.1 h.ap) j i h2 h1 g k hk hf
theorem Sep.chg (h:Sep w0 w Fs) {i:Nat} {F F':List Nat} (hi:Fs[i]?=some F) (hc:Chn F w w') (hn:∀ k∈F',(k∈F∨w.heap.size≤k)∧k<w'.heap.size):Sep w0 w' (Fs.set i F'):=by
 have hF:=h.at_ hi;have hx:Ext w0 w':=hc.ext h.ext fun k hk=>(hF k hk).1
 refine ⟨hx,fun G hG k hk=>?_,?_⟩
 ·rcases List.mem_or_eq_of_mem_set hG with hG|rfl
  ·have:=h.lo G hG k hk;have:=hc.size;omega
  ·obtain ⟨h1,h2⟩:=hn k hk;refine ⟨?_,h2⟩
   rcases h1 with h1|h1
   ·exact (hF k h1).1
   ·exact Nat.le_trans h.ext.size h1
 ·have key:∀ j G,Fs[j]?=some G→j≠i→(∀ k∈F',k∉G):=fun j G hj hji k hk hg=>by
   rcases (hn k hk).1 with h1|h1
   ·exact h.apart hi hj (fun e=>hji e.symm) k hg h1
   ·have:=(h.at_ hj k hg).2;omega
  refine List.pairwise_iff_getElem.2 fun a b ha hb hab=>?_;simp only [List.length_set] at ha hb;rw [List.getElem_set,List.getElem_set]
  by_cases e1:i=a
  ·rw [if_pos e1,if_neg Oo];exact key b _ (zge hb) Oo
  ·rw [if_neg e1]
   by_cases e2:i=b
   ·rw [if_pos e2];intro k hk hf;exact key a _ (zge ha) Oo k hf hk
   ·rw [if_neg e2];exact (List.pairwise_iff_getElem.1 h.ap) a b ha hb hab
theorem Sep.keep (h:Sep w0 w Fs) {i j:Nat} {F G:List Nat} (hi:Fs[i]?=some F) (hc:Chn F w w') (hj:Fs[j]?=some G) (hij:i≠j):∀ k∈G,w'.heap[k]?=w.heap[k]?:=
 fun k hk=>hc.block k (h.at_ hj k hk).2 (h.apart hi hj hij k hk)
end
def rowF (v:Value):List Nat:=v.ownBlock.toList
theorem qq {w w':World} {base size n:Nat} {e:TypeId} {v:Value} {xs:List Value} (h:w.ownsRow base e size v n xs) (hk:∀ k∈rowF v,w'.heap[k]?=w.heap[k]?):w'.ownsRow base e size v n xs:=by
 refine ⟨h.1,h.2.imp id ?_⟩;rintro ⟨g,cap,cur,rfl,h1,h2,h3⟩;exact ⟨g,cap,cur,rfl,h1,by rw [hk g (List.mem_singleton.2 rfl)];exact h2,h3⟩
theorem qfi {w:World} {base size n:Nat} {e:TypeId} {v:Value} {xs:List Value} (h:w.ownsRow base e size v n xs):∀ k∈rowF v,base≤k∧k<w.heap.size:=by
 intro k hk;cases hv:v.ownBlock with
 | none=>rw [rowF,hv] at hk;cases hk
 | some g=>
  rw [rowF,hv] at hk;rw [List.mem_singleton.1 hk];exact h.lt g hv
theorem q2g {w:World} {base size n:Nat} {e:TypeId} {v:Value} {xs:List Value} (h:w.ownsRow base e size v n xs):w.ownsRow 0 e size v n xs:=
 ⟨h.1,h.2.imp id fun ⟨g,cap,cur,e1,_,r⟩=>⟨g,cap,cur,e1,Nat.zero_le _,r⟩⟩
theorem AppV.row {P:Program} {e size:Nat} {w:World} {v:Value} {n:Nat} {xs:List Value} {t ty:TypeId} {i:TypeInfo} {z:Value} {A:oA} {m c:Nat} {news:List Value} {K:Value→World→Prop} (ht:P.underlying t=some (.slice e)) (hi:P.info? e=some i) (hz:i.zero=some z)
  (hsize:i.size=size) (hzs:z.cells.size=size) (hsz:0<size) (h:w.ownsRow 0 e size v n xs) (hl:news.length=m*size)
  (hA:news≠[]→∃ b off,A=some ⟨b,off,none⟩∧CellsAt w b off news) (h1:∀ u∈news,u.oneCell'=true) (hb:(n+m)*i.bytes≤140737488355328) (h63:n+m≤140737488355328)
  (hk:∀ A' c' w',w'.ownsRow 0 e size (.slice A' (n+m) c') (n+m) (xs++news)→Chn (rowF v) w w'→(∀ k∈rowF (.slice A' (n+m) c'),(k∈rowF v∨w.heap.size≤k)∧k<w'.heap.size)→K (.slice A' (n+m) c') w'):AppV P #[t,t] ty v (.slice A m c) w K:=by
 refine AppV.own ht hi hz hsize hzs hsz h (Nat.zero_le _) hl hA h1 hb h63 fun v' w' ho hg hor=>?_;obtain ⟨A',c',rfl⟩:=q8 ho;refine hk A' c' w' ho (Chn.grown hg) fun k hk=>⟨?_,(qfi ho k hk).2⟩
 rcases hor with hor|hor
 ·left;rw [rowF,← hor];exact hk
 ·right
  rw [rowF,hor] at hk;rw [List.mem_singleton.1 hk];exact Nat.le_refl _
theorem AppV.bys {P:Program} {e:TypeId} {w:World} {v:Value} {x m:LB} {t ty:TypeId} {i:TypeInfo} {z:Value} {B:oA} {d:Nat} {K:Value→World→Prop} (ht:P.underlying t=some (.slice e)) (hi:P.info? e=some i) (hz:i.zero=some z)
  (hsize:i.size=1) (hzs:z.cells.size=1) (hby:i.bytes≤16) (h:w.ownsRow 0 e 1 v x.length (byV x)) (hS:SlAt encB 1 w B m) (hlen:x.length+m.length≤8000000000000)
  (hk:∀ A' c' w',w'.ownsRow 0 e 1 (.slice A' (x.length+m.length) c') (x++m).length (byV (x++m))→Chn (rowF v) w w'→(∀ k∈rowF (.slice A' (x.length+m.length) c'),(k∈rowF v∨w.heap.size≤k)∧k<w'.heap.size)→K (.slice A' (x.length+m.length) c') w') :
  AppV P #[t,t] ty v (.slice B m.length d) w K:=by
 refine AppV.row (news:=byV m) ht hi hz hsize hzs Od h (by rw [qae,Nat.mul_one]) (qih hS) (fun u hu=>?_) (Nat.le_trans (Nat.mul_le_mul hlen hby) Od) Oo fun A' c' w' ho hc hn=>hk A' c' w' ?_ hc hn
 ·simp only [byV,List.mem_map] at hu;obtain ⟨v,_,rfl⟩:=hu;rfl
 ·rw [byV,List.map_append,zla];exact ho
theorem BS.keep {w w':World} {v:Value} {l:LB} (h:BS w v l) (hk:∀ k∈rowF v,w'.heap[k]?=w.heap[k]?):BS w' v l:=by
 obtain ⟨A,c,rfl,h2,h3⟩:=h;refine ⟨A,c,rfl,h2,⟨fun hn=>?_⟩⟩;obtain ⟨b,off,rfl,h4⟩:=h3.at_ hn;refine ⟨b,off,rfl,fun j x hx k u hu=>?_⟩;have:=h4 j x hx k u hu;rw [← this,World.cell?_of_block];exact hk b (List.mem_singleton.2 rfl)
structure NewS (e:TypeId) (w w':World) (v:Value) (l:LB):Prop where
 ext:Ext w w'
 h:∃ A c,v=.slice A l.length c∧l.length≤c∧(l=[]∨∃ g cur,A=some ⟨g,0,none⟩∧w'.heap[g]?=some (.cells cur e)∧l.length≤cur.size∧cur.toList.take l.length=byV l)
 lo:∀ k∈rowF v,w.heap.size≤k∧k<w'.heap.size
theorem NewS.bs {e:TypeId} {w w':World} {v:Value} {l:LB} (h:NewS e w w' v l):BS w' v l:=by
 obtain ⟨A,c,rfl,h1,h2⟩:=h.h;refine ⟨A,c,rfl,h1,⟨fun hn=>?_⟩⟩;obtain ⟨g,cur,rfl,h3,h4,h5⟩:=h2.resolve_left hn;refine ⟨g,0,rfl,fun j u hu k v hv=>?_⟩;cases k with
 | succ k=>simp [encB] at hv
 | zero=>
  simp only [encB,List.getElem?_cons_zero,Option.some.injEq] at hv;subst hv;have hj:(cur.toList.take l.length)[j]?=some (.int .u8 u.toNat):=by rw [h5,byV,List.getElem?_map,hu];rfl
  rw [List.getElem?_take] at hj
  split at hj
  ·rw [qa h3]
   simpa using hj
  ·cases hj
theorem qcl (A:oA) (n c m d:Nat):rowF (.slice A n c)=rowF (.slice A m d):=by cases A<;>rfl
theorem NewS.of {e:TypeId} {w w':World} {A:oA} {c:Nat} {l:LB} (he:Ext w w') (h:w'.ownsRow w.heap.size e 1 (.slice A l.length c) l.length (byV l)) (d:Nat) (hd:l.length≤d):NewS e w w' (.slice A l.length d) l:=by
 refine ⟨he,⟨A,d,rfl,hd,?_⟩,fun k hk=>qfi h k (by rw [qcl A _ _ l.length d];exact hk)⟩
 rcases h.2 with ⟨e1,h0⟩|⟨g,cap,cur,e1,h1,h2,h3,h4,h5,h6⟩
 ·exact .inl (List.eq_nil_of_length_eq_zero h0)
 ·cases e1;exact .inr ⟨g,cur,rfl,h2,by omega,by rw [Nat.mul_one] at h6;exact h6⟩
theorem NewS.back {e:TypeId} {w0 w w':World} {v:Value} {l:LB} (h:NewS e w w' v l) (he:Ext w0 w):NewS e w0 w' v l:=
 ⟨he.trans h.ext,h.h,fun k hk=>⟨Nat.le_trans he.size (h.lo k hk).1,(h.lo k hk).2⟩⟩
end V
def bufO (v:Value) (m:Nat) (f:Bool):Obj:=.cells #[v,ii m,.bool f] 147
structure BufAt (w:World) (b m:Nat) (l:LB) (F:List Nat):Prop where
 h:∃ A c xs f,w.heap[b]?=some (bufO (.slice A xs.length c) m f)∧w.ownsRow 0 5 1 (.slice A xs.length c) xs.length (byV xs)∧b∉rowF (.slice A xs.length c)∧xs.length≤m∧f=decide (m<l.length)∧(f=false→xs=l)∧F=b::rowF (.slice A xs.length c)
theorem BufAt.lt {w:World} {b m:Nat} {l:LB} {F:List Nat} (h:BufAt w b m l F):∀ k∈F,k<w.heap.size:=by
 obtain ⟨A,c,xs,f,hb,ho,_,_,_,_,rfl⟩:=h.h;intro k hk
 rcases List.mem_cons.1 hk with rfl|hk
 ·exact qa2 hb
 ·exact (qfi ho k hk).2
theorem BufAt.keep {w w':World} {b m:Nat} {l:LB} {F:List Nat} (h:BufAt w b m l F) (hk:∀ k∈F,w'.heap[k]?=w.heap[k]?):BufAt w' b m l F:=by
 obtain ⟨A,c,xs,f,hb,ho,h1,h2,h3,h4,rfl⟩:=h.h;exact ⟨A,c,xs,f,by rw [hk b mh];exact hb,qq ho fun k h=>hk k (zmc h),h1,h2,h3,h4,rfl⟩
theorem BufAt.call {w w':World} {b m:Nat} {l:LB} {F:List Nat} (h:BufAt w b m l F) (he:Ext w w'):BufAt w' b m l F:=
 h.keep fun k hk=>he.block k (h.lt k hk)
structure BufC (w w':World) (b m:Nat) (l:LB) (F:List Nat):Prop where
 chg:Chn F w w'
 h:∃ F',BufAt w' b m l F'∧∀ k∈F',(k∈F∨w.heap.size≤k)∧k<w'.heap.size
theorem BufC.back {w0 w w':World} {b m:Nat} {l:LB} {F:List Nat} (h:BufC w w' b m l F) (he:Ext w0 w):BufC w0 w' b m l F:=by
 obtain ⟨F',h1,h2⟩:=h.h;exact ⟨(Chn.of F he).trans h.chg,F',h1,fun k hk=>⟨(h2 k hk).1.imp id fun g=>Nat.le_trans he.size g,(h2 k hk).2⟩⟩
theorem qex (m:Int) (w:World) :
  Gv Tryz.prog 31 [ii m] w fun r w'=>∃ b,r=pp b∧Ext w w'∧w.heap.size≤b∧BufAt w' b (max m 0).toNat [] [b]:=by
 refine ze Tryz.func31 Tryz.ntmps31 ?_;refine V.Fall.max2 rfl rfl rfl fun k hk=>?_;have hk2:k=((max m 0).toNat:Nat):=by omega
 subst hk2;(conv=>whnf);refine ⟨fun b w' hb hw=>?_⟩;subst hb hw;(conv=>whnf);refine ⟨w.heap.size,rfl,(Ext.refl w).alloc _,Nat.le_refl _,⟨none,0,[],false,heap_alloc_new w _,World.ownsRow_nil _ _ _ _,by simp [rowF,Value.ownBlock],Nat.zero_le _,?_,fun _=>rfl,by simp [rowF,Value.ownBlock]⟩⟩;rw [eq_comm,decide_eq_false_iff_not];simp
theorem qcw (b m:Nat) (l x:LB) (F:List Nat) (B:oA) (n d:Nat) (w:World) (h:BufAt w b m l F) (hS:SlAt encB 1 w B x) (hn:x.length=n) (hm:m≤9223372036854775807) (hl:l.length+x.length≤8000000000000) :
  Gv Tryz.prog 35 [pp b,.slice B n d] w fun r w'=>r=.tuple #[]∧BufC w w' b m (l++x) F:=by
 subst hn;obtain ⟨A,c,xs,f,hb,ho,hnb,hxm,hf,hxl,rfl⟩:=h.h;have he:Ext w w.drew:=(Ext.refl w).drew;have hb1:=he.get hb;have ho1:w.drew.ownsRow 0 5 1 (.slice A xs.length c) xs.length (byV xs):=qq ho fun k hk=>he.block k (qfi ho k hk).2
 have hS1:=hS.ext he;have hlt:=qa2 hb;have hFl:∀ k∈b::rowF (.slice A xs.length c),(k∈b::rowF (.slice A xs.length c)∨w.heap.size≤k)∧k<w.heap.size:=fun k hk=>⟨.inl hk,h.lt k hk⟩
 have hll:(l++x).length=l.length+x.length:=zla;cases f with
 | true=>
  have hf:m<l.length:=of_decide_eq_true hf.symm;refine ze Tryz.func35 Tryz.ntmps35 ?_;refine zy ?_;refine zv ?_;refine LoadV.own hb rfl (zu ?_);refine LoadV.own hb rfl (zw ?_);refine zt ?_;refine zC (fun _=>zw ?_) (fun _=>zw ?_)
  ·refine StoreV.own hb1 (show 2<3 by decide) rfl ?_;intro w2 hw;obtain ⟨hc2,hb2⟩:=Chn.set hb1 hw;(conv=>whnf);refine LoadV.own hb2 rfl (zu ?_);have hs:=(he.size:w.heap.size≤w.drew.heap.size)
   have hk:∀ k∈rowF (.slice A xs.length c),w2.heap[k]?=w.drew.heap[k]?:=fun k hk=>hc2.block k (qfi ho1 k hk).2 fun g=>hnb (by rw [← List.mem_singleton.1 g];exact hk)
   refine ⟨rfl,(Chn.of _ he).trans (hc2.mono fun k hk=>by rw [List.mem_singleton.1 hk];exact List.mem_cons_self ..),_,⟨A,c,xs,true,hb2,qq ho1 hk,hnb,hxm,?_,(fun g=>(by cases g)),rfl⟩,fun k hk=>⟨.inl hk,Nat.lt_of_lt_of_le (hFl k hk).2 (Nat.le_trans hs hc2.size)⟩⟩;rw [eq_comm,decide_eq_true_iff];omega
  ·refine LoadV.own hb1 rfl (zu ?_);refine ⟨rfl,Chn.of _ he,_,⟨A,c,xs,true,hb1,ho1,hnb,hxm,?_,(fun g=>(by cases g)),rfl⟩,fun k hk=>⟨.inl hk,Nat.lt_of_lt_of_le (hFl k hk).2 he.size⟩⟩;rw [eq_comm,decide_eq_true_iff];omega
 | false=>
  have hf:¬ m<l.length:=of_decide_eq_false hf.symm;obtain rfl:=hxl rfl;refine ze Tryz.func35 Tryz.ntmps35 ?_;refine zy ?_;refine zv ?_;refine LoadV.own hb rfl (zu ?_);refine LoadV.own hb rfl (zw ?_);refine zt ?_;refine zC (fun _=>zw ?_) (fun _=>zw ?_)
  ·refine StoreV.own hb1 (show 2<3 by decide) rfl ?_;intro w2 hw;obtain ⟨hc2,hb2⟩:=Chn.set hb1 hw;(conv=>whnf);refine LoadV.own hb2 rfl (zu ?_);have hs:=(he.size:w.heap.size≤w.drew.heap.size)
   have hk:∀ k∈rowF (.slice A xs.length c),w2.heap[k]?=w.drew.heap[k]?:=fun k hk=>hc2.block k (qfi ho1 k hk).2 fun g=>hnb (by rw [← List.mem_singleton.1 g];exact hk)
   refine ⟨rfl,(Chn.of _ he).trans (hc2.mono fun k hk=>by rw [List.mem_singleton.1 hk];exact List.mem_cons_self ..),_,⟨A,c,xs,true,hb2,qq ho1 hk,hnb,hxm,?_,(fun g=>(by cases g)),rfl⟩,fun k hk=>⟨.inl hk,Nat.lt_of_lt_of_le (hFl k hk).2 (Nat.le_trans hs hc2.size)⟩⟩;rw [eq_comm,decide_eq_true_iff];omega
  ·refine LoadV.own hb1 rfl (zu ?_);refine LoadV.own hb1 rfl (zw ?_);refine AppV.bys qbl bytI bytZ Ok rfl (by decide +kernel) ho1 hS1 hl ?_;intro A' c' w2 ho2 hc2 hn2;have hb2:=hc2.block b (Nat.lt_of_lt_of_le hlt he.size) hnb;rw [hb1] at hb2;(conv=>whnf);refine StoreV.own hb2 (show 0<3 by decide) rfl ?_;intro w3 hw;obtain ⟨hc3,hb3⟩:=Chn.set hb2 hw;(conv=>whnf);have hnb':b∉rowF (.slice A' (xs.length+x.length) c'):=fun g=>by
    rcases (hn2 b g).1 with g|g
    ·exact hnb g
    ·have:=he.size;omega
   have ho3:=qq ho2 (w':=w3) fun k hk=>hc3.block k (hn2 k hk).2 fun g=>hnb' (by rw [← List.mem_singleton.1 g];exact hk)
   refine ⟨rfl,((Chn.of _ he).trans (hc2.mono fun k hk=>zmc hk)).trans (hc3.mono fun k hk=>by rw [List.mem_singleton.1 hk];exact List.mem_cons_self ..),b::rowF (.slice A' (xs.length+x.length) c'),⟨A',c',xs++x,false,?_,?_,?_,by rw [hll];omega,?_,fun _=>rfl,?_⟩,fun k hk=>?_⟩
   ·rw [hll];exact hb3
   ·rw [hll] at ho3 ⊢;exact ho3
   ·rw [hll];exact hnb'
   ·rw [eq_comm,decide_eq_false_iff_not];omega
   ·rw [hll]
   ·have hs3:=hc3.size;have hs2:=hc2.size;have hs1:=he.size
    rcases List.mem_cons.1 hk with rfl|hk
    ·exact ⟨.inl mh,by omega⟩
    ·obtain ⟨g1,g2⟩:=hn2 k hk;exact ⟨g1.imp (zmc) fun g=>by omega,by omega⟩
theorem q8a {w:World} {nb:Nat} {x:Nat} {t:TypeId} (hx:x<256) (h:w.heap[nb]?=some (.cells #[.int .u8 x] t)):SlAt encB 1 w (some ⟨nb,0,none⟩) [UInt8.ofNat x]:=by
 refine ⟨fun _=>⟨nb,0,rfl,fun j y hy k v hv=>?_⟩⟩;cases j with
 | succ j=>cases hy
 | zero=>
  cases hy;cases k with
  | succ k=>simp [encB] at hv
  | zero=>
   simp only [encB,List.getElem?_cons_zero,Option.some.injEq] at hv;rw [qa h,← hv,qaj hx];rfl
theorem q1c (b m:Nat) (l:LB) (x:Nat) (F:List Nat) (w:World) (h:BufAt w b m l F) (hx:x<256) (hm:m≤9223372036854775807) (hl:l.length+1≤8000000000000) :
  Gv Tryz.prog 65 [pp b,.int .u8 x] w fun r w'=>r=.tuple #[]∧BufC w w' b m (l++[UInt8.ofNat x]) F:=by
 refine ze Tryz.func65 Tryz.ntmps65 ?_;refine ⟨fun nb w1 hnb hw=>?_⟩;have he:Ext w w1:=by rw [hw];exact (Ext.refl w).alloc _
 have hc:w1.heap[nb]?=some (.cells #[.int .u8 x] 5):=by rw [hw,hnb];exact heap_alloc_new w _
 (conv=>whnf);refine zcv (qcw b m l [UInt8.ofNat x] F (some ⟨nb,0,none⟩) 1 1 w1 (h.call he) (q8a hx hc) rfl hm hl) ?_;rintro r w2 ⟨rfl,hB⟩;(conv=>whnf);exact ⟨rfl,hB.back he⟩
theorem q8u:∀ x,x<256→x |||128=x%128+128:=by decide +kernel
theorem qku (n:Nat):qdc .or .u8 ((n%256:Nat):Int) 128=((n%128+128:Nat):Int):=by
 have e:=q8u (n%256) (Nat.mod_lt _ Od);have e2:n%256%128=n%128:=by omega
 rw [show (128:Int)=((128:Nat):Int) from rfl,qp5 (qd6 (Nat.mod_lt _ Od)) (qd6 Od) (qd6 (by rw [e];omega)),e,e2]
theorem q78 {w0 w:World} {A:oA} {n c:Nat} {e:TypeId} {zs:LB} {L:List (Nat × Obj)} (h:Rw w0 w (.slice A n c) e 1 n (byV zs) L) (hn:zs.length=n):SlAt encB 1 w A zs:=by
 obtain ⟨A',c',e1,_,h2⟩:=Rw.byts h hn;cases e1;exact h2
theorem qbp (b m:Nat) (l:LB) (n:Nat) (F:List Nat) (w:World) (h:BufAt w b m l F) (hn:n<18446744073709551616) (hm:m≤9223372036854775807) (hl:l.length+16≤8000000000000) :
  Gv Tryz.prog 56 [pp b,.int .u64 n] w fun r w'=>r=.tuple #[]∧BufC w w' b m (l++varL n) F:=by
 have hv:=qab 9 n (Nat.lt_of_lt_of_le hn Od);refine ze Tryz.func56 Tryz.ntmps56 ?_;refine qe (fun x:oA × Nat × LB × Nat=>[(0,pp b),(1,.int .u64 x.2.2.2),(4,.slice x.1 x.2.2.1.length x.2.1)])
  (fun x w2=>x.2.2.2<18446744073709551616∧varL n=x.2.2.1++varL x.2.2.2∧Rw w w2 (.slice x.1 x.2.2.1.length x.2.1) 5 1 x.2.2.1.length (byV x.2.2.1) []) (fun x=>x.2.2.2) (none,0,[],n) ⟨rfl,rfl,rfl,trivial⟩ ⟨hn,rfl,Rw.nil (Mem.nil w)⟩ ?_
 rintro ⟨A,c,ys,k⟩ w2 ρ' ⟨h1,h2,hR⟩;dsimp only at h1 h2 hR ⊢;have hp:=qub k;have hyl:ys.length+(varL k).length≤10:=by have:=congrArg List.length h2;rw [zla] at this;omega
 (conv=>whnf);refine zC (fun _=>zu ?_) (fun _=>zu ?_)
 ·refine V.Wit.low8 (zw ?_);refine Wit.eq (qku k) (zw ?_);refine NewV.rw hR fun nb w4 hR4=>zw ?_;refine AppV.one qbl bytI bytZ Ok rfl (by decide +kernel) hR4 rfl Oo ?_;intro B' d' w5 hR5;(conv=>whnf);refine V.Wit.shrN 7 rfl Od (zw ?_);have hk:128≤k:=by omega
  have e:(ys++[UInt8.ofNat (k%128+128)]).length=ys.length+1:=by simp
  refine ⟨(B',d',ys++[UInt8.ofNat (k%128+128)],k/128),⟨rfl,rfl,by show Value.slice _ _ _=_;rw [e],trivial⟩,⟨by simp only;omega,?_,?_⟩,by simp only;omega⟩
  ·rw [h2,qdm hk,List.append_assoc];rfl
  ·show Rw w w5 (.slice B' (ys++[UInt8.ofNat (k%128+128)]).length d') _ 1 _ _ _;rw [e,byV,List.map_append,List.map_cons,List.map_nil,qaj Oo];exact hR5
 ·have hk:k<128:=by omega
  refine NewV.rw hR fun nb w4 hR4=>zw ?_;refine AppV.one qbl bytI bytZ Ok rfl (by decide +kernel) hR4 rfl Oo ?_;intro B' d' w5 hR5;have e:(ys++[UInt8.ofNat k]).length=ys.length+1:=by simp
  have hR6:Rw w w5 (.slice B' (ys.length+1) d') 5 1 (ys.length+1) (byV (ys++[UInt8.ofNat k])) []:=by
   rw [byV,List.map_append,List.map_cons,List.map_nil,qaj Oo];exact hR5
  have e2:varL n=ys++[UInt8.ofNat k]:=by rw [h2,qcq hk]
  (conv=>whnf);refine zcv (qcw b m l (varL n) F B' (ys.length+1) d' w5 (h.call hR6.mem.ext) (by rw [e2];exact q78 hR6 e) (by rw [e2,e]) hm Oo) ?_;rintro r w6 ⟨rfl,hB⟩;(conv=>whnf);exact ⟨rfl,hB.back hR6.mem.ext⟩
theorem qkt (b m:Nat) (l:LB) (n:Nat) (F:List Nat) (w:World) (h:BufAt w b m l F) (_hn:n<18446744073709551616) (hm:m≤9223372036854775807) (hl:l.length+16≤8000000000000) :
  Gv Tryz.prog 33 [pp b,.int .u64 n,ii 4] w fun r w'=>r=.tuple #[]∧BufC w w' b m (l++fixL n 4) F:=by
 refine ze Tryz.func33 Tryz.ntmps33 ?_;refine zcv (qve w) ?_;rintro r w1 ⟨rfl,rfl⟩;(conv=>whnf);refine qe (fun x:Nat × oA × Nat=>[(0,pp b),(1,.int .u64 n),(6,.slice x.2.1 x.1 x.2.2),(9,ii 4),(10,ii x.1)])
  (fun x w2=>x.1≤4∧Rw w1 w2 (.slice x.2.1 x.1 x.2.2) 5 1 x.1 (byV (fixL n x.1)) []) (fun x=>4-x.1) (0,none,0) ⟨rfl,rfl,rfl,rfl,rfl,trivial⟩ ⟨by simp,Rw.nil (Mem.nil w1)⟩ ?_
 rintro ⟨i,A,c⟩ w2 ρ' ⟨h1,hR⟩;dsimp only at h1 hR ⊢;(conv=>whnf);refine zC (fun _=>zu ?_) (fun _=>zu ?_)
 ·refine V.Wit.shrN (8*i) Oo (by show 8*i<64;omega) (zw ?_);refine V.Wit.low8 (zw ?_);refine NewV.rw hR fun nb w4 hR4=>zw ?_;refine AppV.one qbl bytI bytZ Ok rfl (by decide +kernel) hR4 rfl Oo ?_;intro B' d' w5 hR5;refine zu ?_;refine ⟨(i+1,B',d'),⟨rfl,rfl,rfl,rfl,rfl,trivial⟩,⟨by simp only;omega,?_⟩,by simp only;omega⟩;simp only [fixL,byV,List.map_append,List.map_cons,List.map_nil];have e:(UInt8.ofNat (n/2 ^ (8*i)%256)).toNat=n/2 ^ (8*i)%256:=by simp
  rw [e];exact hR5
 ·obtain rfl:i=4:=by omega
  refine zcv (qcw b m l (fixL n 4) F A 4 c w2 (h.call hR.mem.ext) (q78 hR (qf n 4)) (qf n 4) hm (by rw [qf];omega)) ?_;rintro r w6 ⟨rfl,hB⟩;(conv=>whnf);exact ⟨rfl,hB.back hR.mem.ext⟩
theorem q09 (b m:Nat) (l:LB) (F:List Nat) (w:World) (h:BufAt w b m l F) :
  Gv Tryz.prog 114 [pp b] w fun r w'=>(∃ k:Nat,r=ii k∧k≤m∧(l.length≤m→k=l.length))∧w'=w:=by
 obtain ⟨A,c,xs,f,hb,ho,hnb,hxm,hf,hxl,rfl⟩:=h.h;refine ze Tryz.func114 Tryz.ntmps114 ?_;refine LoadV.own hb rfl (zw ?_);refine ⟨⟨xs.length,rfl,hxm,fun g=>?_⟩,rfl⟩;rw [hxl (by rw [hf];exact decide_eq_false Oo)]
theorem qur (l:LB) (A:oA) (n c:Nat) (w:World) (hS:SlAt encB 1 w A l) (hn:l.length=n) (hl:l.length≤8000000000000) :
  Gv Tryz.prog 69 [.slice A n c] w fun r w'=>∃ A' c',r=.slice A' l.length c'∧Ext w w'∧w'.ownsRow w.heap.size 5 1 (.slice A' l.length c') l.length (byV l):=by
 subst hn;cases A with
 | none=>
  have h0:l=[]:=by
   cases l with
   | nil=>rfl
   | cons x r=>obtain ⟨b,off,h0,_⟩:=hS.at_ Js;cases h0
  subst h0;refine ze Tryz.func69 Tryz.ntmps69 ?_;refine zv ?_;exact ⟨none,0,rfl,Ext.refl w,World.ownsRow_nil _ _ _ _⟩
 | some a=>
  refine ze Tryz.func69 Tryz.ntmps69 ?_;refine zv ?_;refine ⟨fun nb w1 hnb hw=>?_⟩;have he:Ext w w1:=by rw [hw];exact (Ext.refl w).alloc _
  have hc:w1.heap[nb]?=some (.cells #[] 5):=by rw [hw,hnb];exact heap_alloc_new w _
  have ho:w1.ownsRow w.heap.size 5 1 (.slice (some ⟨nb,0,none⟩) 0 0) 0 []:=⟨rfl,.inr ⟨nb,0,#[],rfl,by omega,hc,Nat.le_refl _,Nat.zero_le _,rfl,rfl⟩⟩
  (conv=>whnf);refine AppV.own (news:=byV l) qbl bytI bytZ Ok rfl Od ho he.size (by rw [qae];exact (Nat.mul_one _).symm) (qih (hS.ext he)) (fun u hu=>?_) (Nat.le_trans (Nat.mul_le_mul (by rw [Nat.zero_add];exact hl) (show _≤16 by decide +kernel)) Od) Oo ?_
  ·simp only [byV,List.mem_map] at hu;obtain ⟨v,_,rfl⟩:=hu;rfl
  ·intro v' w2 ho2 hg _;have ho2:w2.ownsRow w.heap.size 5 1 v' l.length (byV l):=by rw [Nat.zero_add] at ho2;exact ho2
   obtain ⟨A',c',rfl⟩:=q8 ho2;(conv=>whnf);refine ⟨A',c',rfl,(Chn.grown hg).ext he fun k hk=>?_,ho2⟩;rw [List.mem_singleton.1 hk,hnb];exact Nat.le_refl _
theorem qww (A:oA) (n c:Nat) (hc:n≤c) (hA:A=none∨∃ g o,A=some ⟨g,o,none⟩) (w:World):Gv Tryz.prog 68 [.slice A n c] w fun v w'=>v=.slice A n n∧w'=w:=by
 refine ze Tryz.func68 Tryz.ntmps68 ?_;refine ⟨0,n,n,rfl,rfl,rfl,Nat.zero_le _,Nat.le_refl _,hc,fun _=>rfl,fun A' e=>?_⟩;have e2:A'=A:=by
  rw [e]
  split
  ·rfl
  ·rcases hA with rfl|⟨g,o,rfl⟩
   ·rfl
   ·simp [Addr.add]
 subst e2;(conv=>whnf);exact ⟨rfl,rfl⟩
theorem qcn (b m:Nat) (l:LB) (F:List Nat) (w:World) (h:BufAt w b m l F) (hl:l.length≤8000000000000) :
  Gv Tryz.prog 34 [pp b] w fun r w'=>(m<l.length∧r=.tuple #[.slice none 0 0,ii 1]∧w'=w)∨(l.length≤m∧∃ v,r=.tuple #[v,ii 0]∧NewS 5 w w' v l):=by
 obtain ⟨A,c,xs,f,hb,ho,hnb,hxm,hf,hxl,rfl⟩:=h.h;cases f with
 | true=>
  refine ze Tryz.func34 Tryz.ntmps34 ?_;refine LoadV.own hb rfl (zu ?_);exact .inl ⟨of_decide_eq_true hf.symm,rfl,rfl⟩
 | false=>
  have hf:¬ m<l.length:=of_decide_eq_false hf.symm;obtain rfl:=hxl rfl;have hS:SlAt encB 1 w A xs:=by
   obtain ⟨A',c',e1,_,h2⟩:=qd0 ho;cases e1;exact h2
  refine ze Tryz.func34 Tryz.ntmps34 ?_;refine LoadV.own hb rfl (zu ?_);refine LoadV.own hb rfl (zw ?_);refine zcv (qur xs A _ c w hS rfl hl) ?_;rintro r w1 ⟨A',c',rfl,he,ho1⟩;have hc:xs.length≤c'∧(A'=none∨∃ g o,A'=some ⟨g,o,none⟩):=by
   rcases ho1.2 with ⟨e1,e2⟩|⟨g,cap,cur,e1,_,_,h3,_⟩
   ·injection e1 with a1 a2 a3;exact ⟨by omega,.inl a1⟩
   ·injection e1 with a1 a2 a3;exact ⟨by omega,.inr ⟨g,0,a1⟩⟩
  (conv=>whnf);refine zcv (qww A' xs.length c' hc.1 hc.2 w1) ?_;rintro r w2 ⟨rfl,rfl⟩;(conv=>whnf);exact .inr ⟨by omega,_,rfl,NewS.of he ho1 _ znr⟩
namespace V
theorem AppV.strR {P:Program} {e:TypeId} {w:World} {v:Value} {x:LB} {t u ty:TypeId} {i:TypeInfo} {s:ByteArray} {K:Value→World→Prop} (ht:P.underlying t=some (.slice e)) (hu:P.underlying u=some .string) (hi:P.info? e=some i) (hz:i.zero=some (.int .u8 0))
  (hsize:i.size=1) (hby:i.bytes=1) (h:w.ownsRow 0 e 1 v x.length (byV x)) (hlen:x.length+s.size≤140737488355328)
  (hk:∀ A' c' w',w'.ownsRow 0 e 1 (.slice A' (x.length+s.size) c') (x++s.data.toList).length (byV (x++s.data.toList))→Chn (rowF v) w w'→(∀ k∈rowF (.slice A' (x.length+s.size) c'),(k∈rowF v∨w.heap.size≤k)∧k<w'.heap.size)→K (.slice A' (x.length+s.size) c') w') :
  AppV P #[t,u] ty v (.string s) w K:=by
 have key:∃ v' w',(Builtin.append_ #[t,u] ty #[v,.string s]).run P w=.ok v' w'∧w'.ownsRow 0 e 1 v' (x.length+s.size) (byV x++Lib.strCells s)∧w.grownBy w' v.ownBlock∧∀ k∈rowF v',k∈rowF v∨w.heap.size≤k:=by
  rcases h.2 with ⟨rfl,h0⟩|⟨g,cap,cur,rfl,hbg,hg,hnc,hcm,hcs,htake⟩
  ·have ho:w.ownsRow w.heap.size e 1 (.slice none 0 0) x.length (byV x):=⟨h.1,.inl ⟨rfl,h0⟩⟩
   obtain ⟨v',w',h1,h2,h3,_⟩:=Lib.run_append_own_string (P:=P) w w.heap.size t u ty e i ht hu hi hz hsize hby _ _ _ ho s (by simp only [maxLen];omega) hlen znr;exact ⟨v',w',h1,q2g h2,h3,fun k hk=>.inr (qfi h2 k hk).1⟩
  ·obtain ⟨v',w',h1,h2,h3,_⟩:=Lib.run_append_own_string (P:=P) w 0 t u ty e i ht hu hi hz hsize hby _ _ _ h s (by simp only [maxLen];omega) hlen (Nat.zero_le _);refine ⟨v',w',h1,h2,h3,?_⟩
   by_cases hroom:x.length+s.size≤cap
   ·have hr:=Lib.run_append_room_string (P:=P) w t u ty e i ht hu hi hsize g x.length cap cur hg s hroom Oo;rw [hr] at h1;cases h1;exact fun k hk=>.inl hk
   ·have hr:=Lib.run_append_grow_string (P:=P) w t u ty e i (.int .u8 0) ht hu hi hz ⟨g,0,none⟩ x.length cap (byV x) (by rw [hsize,qae,Nat.mul_one]) (fun j u hu=>h.cells (g:=g) rfl j u hu) s Oo Oo (by rw [hby];exact growslice_fits Oo Oo);rw [hr] at h1;cases h1;exact fun k hk=>.inr (by rw [List.mem_singleton.1 hk];exact Nat.le_refl _)
 obtain ⟨v',w',h1,h2,h3,h4⟩:=key;obtain ⟨A',c',rfl⟩:=q8 h2;refine ⟨_,w',h1,hk A' c' w' ?_ (Chn.grown h3) fun k hk=>⟨h4 k hk,(qfi h2 k hk).2⟩⟩;rw [byV,List.map_append,zla];exact h2
structure RowC (e:TypeId) (w w':World) (v r:Value) (y:LB):Prop where
 own:∃ A c,r=.slice A y.length c
 row:w'.ownsRow 0 e 1 r y.length (byV y)
 chg:Chn (rowF v) w w'
 new:∀ k∈rowF r,(k∈rowF v∨w.heap.size≤k)∧k<w'.heap.size
theorem RowC.trans {e:TypeId} {w w1 w':World} {v u r:Value} {y z:LB} (h:RowC e w w1 v u y) (g:RowC e w1 w' u r z):RowC e w w' v r z:=
 ⟨g.own,g.row,h.chg.trans' g.chg fun k hk=>(h.new k hk).1,fun k hk=>⟨(g.new k hk).1.elim (fun g1=>(h.new k g1).1) fun g1=>.inr (Nat.le_trans h.chg.size g1),(g.new k hk).2⟩⟩
theorem RowC.back {e:TypeId} {w0 w w':World} {v r:Value} {y:LB} (h:RowC e w w' v r y) (he:Ext w0 w):RowC e w0 w' v r y:=
 ⟨h.own,h.row,(Chn.of _ he).trans h.chg,fun k hk=>⟨(h.new k hk).1.imp id fun g=>Nat.le_trans he.size g,(h.new k hk).2⟩⟩
theorem q9 {w w':World} {base size n:Nat} {e:TypeId} {v:Value} {xs:List Value} (h:w.ownsRow base e size v n xs) (he:Ext w w'):w'.ownsRow base e size v n xs:=
 qq h fun k hk=>he.block k (qfi h k hk).2
end V
namespace V
structure SepC (w0 w w':World) (Fs:List (List Nat)) (i:Nat) (F':List Nat):Prop where
 sep:Sep w0 w' (Fs.set i F')
 size:w.heap.size≤w'.heap.size
 keep:∀ (j:Nat) (G:List Nat),Fs[j]?=some G→j≠i→∀ k∈G,w'.heap[k]?=w.heap[k]?
theorem Sep.row {w0 w w':World} {Fs:List (List Nat)} (h:Sep w0 w Fs) {i:Nat} {F F':List Nat} (hi:Fs[i]?=some F) (hc:Chn F w w') (hn:∀ k∈F',(k∈F∨w.heap.size≤k)∧k<w'.heap.size):SepC w0 w w' Fs i F':=
 ⟨h.chg hi hc hn,hc.size,fun _ _ hj hji=>h.keep hi hc hj (fun e=>hji e.symm)⟩
theorem Sep.buf {w0 w w':World} {Fs:List (List Nat)} (h:Sep w0 w Fs) {i b m:Nat} {F:List Nat} {l:LB} (hi:Fs[i]?=some F) (hB:BufC w w' b m l F):∃ F',SepC w0 w w' Fs i F'∧BufAt w' b m l F':=by
 obtain ⟨F',h1,h2⟩:=hB.h;exact ⟨F',h.row hi hB.chg h2,h1⟩
theorem AppV.cell {P:Program} {e nb:Nat} {w:World} {v x:Value} {n:Nat} {xs:List Value} {t ty e2:TypeId} {fr:Nat × Nat} {i:TypeInfo} {z:Value} {K:Value→World→Prop} (ht:P.underlying t=some (.slice e)) (hi:P.info? e=some i) (hz:i.zero=some z)
  (hsize:i.size=1) (hzs:z.cells.size=1) (hby:i.bytes≤16) (h:w.ownsRow 0 e 1 v n xs) (hb:w.heap[nb]?=some (.cells #[x] e2 fr)) (hx:x.oneCell'=true) (hn:n+1≤8000000000000)
  (hk:∀ A' c' w',w'.ownsRow 0 e 1 (.slice A' (n+1) c') (n+1) (xs++[x])→Chn (rowF v) w w'→(∀ k∈rowF (.slice A' (n+1) c'),(k∈rowF v∨w.heap.size≤k)∧k<w'.heap.size)→K (.slice A' (n+1) c') w'):AppV P #[t,t] ty v (.slice (some ⟨nb,0,none⟩) 1 1) w K:=by
 refine AppV.row (news:=[x]) ht hi hz hsize hzs Od h rfl (fun _=>⟨nb,0,rfl,fun k v hv=>?_⟩) (fun u hu=>by simp at hu;rw [hu];exact hx) (Nat.le_trans (Nat.mul_le_mul hn hby) Od) Oo hk;rw [qa hb,Nat.zero_add]
 simpa using hv
theorem NewBytesV.sl {s:ByteArray} {e:TypeId} {w:World} {K:Value→World→Prop}
  (hk:∀ b cap w',s.size≤cap→Ext w w'→SlAt encB 1 w' (some ⟨b,0,none⟩) s.data.toList→K (.slice (some ⟨b,0,none⟩) s.size cap) w'):NewBytesV s e w K:=by
 refine ⟨fun cap cs b w' hc hcs hb hw=>hk b cap w' hc ?_ ⟨fun hn=>⟨b,0,rfl,fun j x hx k v hv=>?_⟩⟩⟩
 ·rw [hw];exact ((Ext.refl w).drew).alloc _
 ·cases k with
  | succ k=>simp [encB] at hv
  | zero=>
   simp only [encB,List.getElem?_cons_zero,Option.some.injEq] at hv;subst hv;have hg:w'.heap[b]?=some (.cells cs e (cs.size,cs.size+1)):=by rw [hw,hb];exact heap_alloc_new w.drew _
   rw [qa hg,hcs];have hj:=(List.getElem?_eq_some_iff.1 hx).1;have:(byteCells s.data.toList)[j]?=some (.int .u8 x.toNat):=by rw [byteCells,List.getElem?_map,hx];rfl
   rw [Nat.zero_add,Nat.mul_one,Nat.add_zero,List.getElem?_toArray,List.getElem?_append_left (by simpa [byteCells] using hj)];exact this
structure BufS (w0 w:World) (b m:Nat) (l:LB):Prop where
 h:∃ F,Sep w0 w [F]∧BufAt w b m l F
theorem BufS.ext {w0 w:World} {b m:Nat} {l:LB} (h:BufS w0 w b m l):Ext w0 w:=h.h.elim fun _ h=>h.1.ext
theorem BufS.new {w0 w w':World} {b m:Nat} (h0:Ext w0 w) (he:Ext w w') (hb:w.heap.size≤b) (h:BufAt w' b m [] [b]):BufS w0 w' b m []:=
 ⟨[b],(Sep.of h0).add he fun k hk=>by rw [List.mem_singleton.1 hk];exact ⟨hb,h.lt b (List.mem_singleton.2 rfl)⟩,h⟩
theorem BufS.step {w0 w:World} {b m:Nat} {l:LB} (h:BufS w0 w b m l) {P:Program} {f:FuncId} {args:List Value} {l':LB} (hc:∀ F,BufAt w b m l F→Gv P f args w fun r w'=>r=.tuple #[]∧BufC w w' b m l' F) :
  Gv P f args w fun r w'=>r=.tuple #[]∧BufS w0 w' b m l':=by
 obtain ⟨F,h1,h2⟩:=h.h;refine (hc F h2).mono ?_;rintro r w' ⟨e,hB⟩;obtain ⟨F',h3,h4⟩:=h1.buf (i:=0) rfl hB;exact ⟨e,F',h3.sep,h4⟩
end V
theorem qw2 {f:Nat→Nat} {b r:Nat} (hr:r≤8) (h:∀ s,r≤s→s<8→f (8*b+s)%2=0):byt f b<2 ^ r:=by
 have k0:r≤0→f (8*b)%2=0:=fun g=>h 0 g Od
 have k1:r≤1→f (8*b+1)%2=0:=fun g=>h 1 g Od
 have k2:r≤2→f (8*b+2)%2=0:=fun g=>h 2 g Od
 have k3:r≤3→f (8*b+3)%2=0:=fun g=>h 3 g Od
 have k4:r≤4→f (8*b+4)%2=0:=fun g=>h 4 g Od
 have k5:r≤5→f (8*b+5)%2=0:=fun g=>h 5 g Od
 have k6:r≤6→f (8*b+6)%2=0:=fun g=>h 6 g Od
 have k7:r≤7→f (8*b+7)%2=0:=fun g=>h 7 g Od
 unfold byt
 rcases (show r=0∨r=1∨r=2∨r=3∨r=4∨r=5∨r=6∨r=7∨r=8 by omega) with rfl|rfl|rfl|rfl|rfl|rfl|rfl|rfl|rfl<;>omega
theorem qsh {f g:Nat→Nat} {b r:Nat} (hr:r<8) (h:∀ s,s<8→s≠r→f (8*b+s)%2=g (8*b+s)%2) (h0:f (8*b+r)%2=0):byt g b=byt f b+g (8*b+r)%2*2 ^ r:=by
 have k0:0≠r→f (8*b)%2=g (8*b)%2:=fun e=>h 0 Od e
 have k1:1≠r→f (8*b+1)%2=g (8*b+1)%2:=fun e=>h 1 Od e
 have k2:2≠r→f (8*b+2)%2=g (8*b+2)%2:=fun e=>h 2 Od e
 have k3:3≠r→f (8*b+3)%2=g (8*b+3)%2:=fun e=>h 3 Od e
 have k4:4≠r→f (8*b+4)%2=g (8*b+4)%2:=fun e=>h 4 Od e
 have k5:5≠r→f (8*b+5)%2=g (8*b+5)%2:=fun e=>h 5 Od e
 have k6:6≠r→f (8*b+6)%2=g (8*b+6)%2:=fun e=>h 6 Od e
 have k7:7≠r→f (8*b+7)%2=g (8*b+7)%2:=fun e=>h 7 Od e
 unfold byt
 rcases (show r=0∨r=1∨r=2∨r=3∨r=4∨r=5∨r=6∨r=7 by omega) with rfl|rfl|rfl|rfl|rfl|rfl|rfl|rfl<;>(try simp only [Nat.add_zero] at h0 ⊢)<;>omega
theorem qp6 {f g:Nat→Nat} {b:Nat} (h:∀ s,s<8→f (8*b+s)%2=g (8*b+s)%2):byt f b=byt g b:=by
 have k0:f (8*b)%2=g (8*b)%2:=h 0 Od;rw [byt,byt,k0,h 1 Od,h 2 Od,h 3 Od,h 4 Od,h 5 Od,h 6 Od,h 7 Od]
theorem qiw {f g:Nat→Nat} {m:Nat} (h:∀ t,t<8*m→f t%2=g t%2):qbo f m=qbo g m:=by
 refine List.map_congr_left fun b hb=>?_;have hb:=List.mem_range.1 hb;rw [qp6 fun s hs=>h _ Oo]
theorem qdq {f:Nat→Nat} {m b:Nat} (h:b<m):(byV (qbo f m))[b]?=some (.int .u8 (byt f b)):=by
 rw [byV,List.getElem?_map,qbo,List.getElem?_map,List.getElem?_range h,Option.map_some,Option.map_some,qaj (qkx f b)]
theorem qny {f g:Nat→Nat} {m e:Nat} (he:e<8*m) (h:∀ t,t<8*m→t≠e→f t%2=g t%2):(byV (qbo f m)).set (e/8) (.int .u8 (byt g (e/8)))=byV (qbo g m):=by
 have hl:∀ f,(byV (qbo f m)).length=m:=fun f=>by rw [qae,qbu]
 apply List.ext_getElem?;intro j;rw [List.getElem?_set]
 by_cases c:e/8=j
 ·subst c;rw [if_pos rfl,if_pos (by rw [hl];omega),qdq Oo]
 ·rw [if_neg c]
  by_cases hj:j<m
  ·rw [qdq hj,qdq hj,qp6 fun s hs=>h _ Oo Oo]
  ·rw [List.getElem?_eq_none (by rw [hl];omega),List.getElem?_eq_none (by rw [hl];omega)]
def upF (F:Nat→Nat) (e t:Nat):Nat:=if t<e then F t else 0
theorem q6s (F:Nat→Nat) (e:Nat):byt (upF F e) (e/8)<2 ^ (e%8):=
 qw2 Oo fun s h1 h2=>by rw [upF,if_neg Oo]
theorem q3b (F:Nat→Nat) (e:Nat):byt (upF F (e+1)) (e/8)=byt (upF F e) (e/8)+F e%2*2 ^ (e%8):=by
 have h:=qsh (f:=upF F e) (g:=upF F (e+1)) (b:=e/8) (r:=e%8) Oo (fun s h1 h2=>by
  unfold upF
  by_cases c:8*(e/8)+s<e
  ·rw [if_pos c,if_pos Oo]
  ·rw [if_neg c,if_neg Oo]) (by rw [upF,if_neg Oo])
 have e1:8*(e/8)+e%8=e:=by omega
 rw [e1] at h;rw [h]
 congr 2
 rw [upF,if_pos Oo]
theorem q0k {F:Nat→Nat} {m e:Nat} (he:e<8*m):(byV (qbo (upF F e) m)).set (e/8) (.int .u8 (byt (upF F e) (e/8)+F e%2*2 ^ (e%8):Nat))=byV (qbo (upF F (e+1)) m):=by
 rw [← q3b];refine qny he fun t _ h2=>?_;unfold upF
 by_cases c:t<e
 ·rw [if_pos c,if_pos Oo]
 ·rw [if_neg c,if_neg Oo]
theorem qt9 (F:Nat→Nat) (m:Nat):byV (qbo (upF F 0) m)=qa5 [Value.int .u8 0] m:=by
 rw [qwj,List.eq_replicate_iff];refine ⟨by rw [qae,qbu],fun v hv=>?_⟩;obtain ⟨j,hj⟩:=List.mem_iff_getElem?.1 hv;have hl:=(List.getElem?_eq_some_iff.1 hj).1;rw [qae,qbu] at hl;rw [qdq hl] at hj;have e:byt (upF F 0) j=0:=by
  have:∀ t,upF F 0 t=0:=fun t=>by rw [upF,if_neg (Nat.not_lt_zero _)]
  unfold byt;simp only [this]
 rw [e] at hj;exact (Option.some.inj hj).symm
theorem qtm {f:Nat→Nat} (e x:Nat):qdc .or .u8 ((byt (upF f e) (e/8):Nat):Int) ((x%2*2 ^ (e%8):Nat):Int)=((byt (upF f e) (e/8)+x%2*2 ^ (e%8):Nat):Int):=by
 have h1:=q6s f e;have h2:2 ^ (e%8)≤2 ^ 7:=Nat.pow_le_pow_right Od Oo;have h3:x%2*2 ^ (e%8)≤1*2 ^ (e%8):=Nat.mul_le_mul_right _ Oo;refine ql1 (k:=.u8) (e%8) (qd6 ?_) h1;show byt (upF f e) (e/8)+_<256;have e7:(2:Nat) ^ 7=128:=by decide
 omega
theorem q2h (l:List Nat) (w:Nat):qbo (upF (fun t=>l.getD (t/w) 0/2 ^ (t%w)) (l.length*w)) ((l.length*w+7)/8)=qcv l w:=by
 refine qiw fun t ht=>?_;unfold upF
 by_cases c:t<l.length*w
 ·rw [if_pos c]
 ·rw [if_neg c];have hw:0<w:=by
   rcases Nat.eq_zero_or_pos w with e|e
   ·subst e;simp at ht
   ·exact e
  have:l.length≤t/w:=(Nat.le_div_iff_mul_le hw).2 Oo;show _=l.getD (t/w) 0/2 ^ (t%w)%2;rw [List.getD_eq_getElem?_getD,List.getElem?_eq_none this];simp
theorem qvh {l:List Nat} {w i k m:Nat} (hk:k≤w) (h:l.getD i 0/2 ^ k=0):qbo (upF (fun t=>l.getD (t/w) 0/2 ^ (t%w)) (i*w+k)) m=qbo (upF (fun t=>l.getD (t/w) 0/2 ^ (t%w)) ((i+1)*w)) m:=by
 refine qiw fun t _=>?_;unfold upF;have e:(i+1)*w=i*w+w:=by rw [Nat.add_mul,Nat.one_mul]
 by_cases c:t<i*w+k
 ·rw [if_pos c,if_pos Oo]
 ·rw [if_neg c]
  by_cases c2:t<(i+1)*w
  ·rw [if_pos c2];have hw:0<w:=by omega
   obtain ⟨s,rfl⟩:∃ s,t=i*w+s:=⟨t-i*w,by omega⟩
   have e1:(i*w+s)/w=i:=by rw [Nat.mul_comm,Nat.mul_add_div hw,Nat.div_eq_of_lt Oo,Nat.add_zero]
   have e2:(i*w+s)%w=s:=by rw [Nat.mul_comm,Nat.mul_add_mod,Nat.mod_eq_of_lt Oo]
   show _=l.getD ((i*w+s)/w) 0/2 ^ ((i*w+s)%w)%2;rw [e1,e2];obtain ⟨d,rfl⟩:∃ d,s=k+d:=⟨s-k,by omega⟩
   rw [Nat.pow_add,← Nat.div_div_eq_div_mul,h];simp
  ·rw [if_neg c2]
theorem qze (n:Nat) (w:World) (h:n≤64):Gv Tryz.prog 127 [ii n] w fun r w'=>r=.bool true∧w'=w:=by
 refine ze Tryz.func127 Tryz.ntmps127 ?_;refine zv ?_;exact ⟨congrArg Value.bool (decide_eq_true Oo),rfl⟩
theorem qzj (n wd:Nat) (w:World) (h:n*wd≤4398046511104):Gv Tryz.prog 130 [ii n,ii wd] w fun r w'=>r=ii ((n*wd+7)/8:Nat)∧w'=w:=by
 obtain ⟨f,ef⟩:∃ f,f=n*wd:=⟨_,rfl⟩
 have efi:(n:Int)*(wd:Int)=(f:Int):=by rw [ef,Int.natCast_mul]
 rw [← ef] at h ⊢;refine ze Tryz.func130 Tryz.ntmps130 ?_;rw [efi];refine zv ?_;exact ⟨congrArg (Value.int .i64) Oo,rfl⟩
theorem qnu {x w:Nat} (hx:x<2 ^ w) (hw:w≤64):qr x≤w:=qcm w x hx hw
theorem qy9 (x wd b:Nat) (w:World) (hx:x<18446744073709551616) (hb:w.heap[b]?=some (.cells #[ii wd] 3)) :
  Gv Tryz.prog 129 [.int .u64 x,pp b] w fun r w'=>r=.bool (decide (wd<qr x))∧Ext w w':=by
 have hW:=qnu (x:=x) (w:=64) (by simpa using hx) Od;refine ze Tryz.func129 Tryz.ntmps129 ?_;refine DrawV.free rfl Ok (zw ?_);refine zd ?_;apply zsd
 ·intro wd2 hd;(conv=>whnf);refine zcv (qg4 x wd2 hx) ?_;rintro v w7 ⟨rfl,rfl⟩;exact ⟨xr,rfl⟩
 (conv=>whnf);refine zf ?_ (by intro wd hd;(conv=>whnf);refine LoadV.own (Ext.get (Ext.trans (Ext.drew xr) hd) hb) rfl ?_;(conv=>whnf);exact ⟨xr,rfl⟩);refine zd ?_;refine zd ?_;intro wd2 hd;(conv=>whnf);exact ⟨congrArg Value.bool (by rw [Bool.eq_iff_iff];simp),(Ext.refl w).drew.trans hd⟩
theorem qvj (ps:List Nat) (wd b:Nat) (A:oA) (n c:Nat) (w:World) (hS:SlAt encU 1 w A ps) (hn:ps.length=n) (hl:n≤4398046511104) (hp:∀ x∈ps,x<2 ^ wd) (hw:wd≤64) (hb:w.heap[b]?=some (.cells #[ii wd] 3)) :
  Gv Tryz.prog 187 [.slice A n c,.func (.func 129) #[] #[pp b]] w fun r w'=>r=ii (-1)∧Ext w w':=by
 refine ze Tryz.func187 Tryz.ntmps187 ?_;refine qe (fun i:Nat=>[(0,.slice A n c),(1,.func (.func 129) #[] #[pp b]),(7,ii n),(8,ii i)]) (fun i w1=>i≤n∧Ext w w1) (fun i=>n-i) 0 ⟨rfl,rfl,rfl,rfl,trivial⟩ ⟨Nat.zero_le _,Ext.refl w⟩ ?_;rintro i w1 ρ' ⟨i1,he1⟩;(conv=>whnf);refine zC (fun _=>zw ?_) (fun _=>zw ?_)
 ·have hi:i<ps.length:=by omega
  have hx:=hp _ (List.getElem_mem hi);have hx64:ps[i]<18446744073709551616:=Nat.lt_of_lt_of_le hx (Nat.pow_le_pow_right Od hw);refine ElemV.sl (hS.ext he1) hn i rfl Oo ?_;intro eb eo hcell;(conv=>whnf);refine LoadV.cell0 hcell (zw ?_);refine zcv (qy9 ps[i] wd b w1 hx64 (he1.get hb)) ?_;rintro r w2 ⟨rfl,he2⟩;have hf:decide (wd<qr ps[i])=false:=decide_eq_false (by have:=qnu hx hw;omega);rw [hf];refine zu ?_;exact ⟨i+1,⟨rfl,rfl,rfl,rfl,trivial⟩,⟨by omega,he1.trans he2⟩,by omega⟩
 ·exact ⟨rfl,he1⟩
theorem qm1 (ps:List Nat) (wd b:Nat) (A:oA) (n c:Nat) (w:World) (hS:SlAt encU 1 w A ps) (hn:ps.length=n) (hl:n≤4398046511104) (hp:∀ x∈ps,x<2 ^ wd) (hw:wd≤64) (hb:w.heap[b]?=some (.cells #[ii wd] 3)) :
  Gv Tryz.prog 128 [.slice A n c,.func (.func 129) #[] #[pp b]] w fun r w'=>r=.bool false∧Ext w w':=by
 refine ze Tryz.func128 Tryz.ntmps128 ?_;refine zcv (qvj ps wd b A n c w hS hn hl hp hw hb) ?_;rintro r w1 ⟨rfl,he⟩;(conv=>whnf);exact ⟨rfl,he⟩
def pkF (ps:List Nat) (wd t:Nat):Nat:=ps.getD (t/wd) 0/2 ^ (t%wd)
def pkC (ps:List Nat) (wd e:Nat):List Value:=byV (qbo (upF (pkF ps wd) e) ((ps.length*wd+7)/8))
theorem qzg (ps:List Nat) (wd e:Nat):(pkC ps wd e).length=(ps.length*wd+7)/8:=by rw [pkC,qae,qbu]
theorem qtp (ps:List Nat) (wd:Nat):pkC ps wd 0=qa5 [Value.int .u8 0] ((ps.length*wd+7)/8):=qt9 _ _
theorem q30 {ps:List Nat} {wd e:Nat} (h:e<ps.length*wd):(pkC ps wd e)[e/8]?=some (.int .u8 (byt (upF (pkF ps wd) e) (e/8))):=qdq Oo
theorem qzh {ps:List Nat} {wd e:Nat} (h:e<ps.length*wd):(pkC ps wd e).set (e/8) (.int .u8 (byt (upF (pkF ps wd) e) (e/8)+pkF ps wd e%2*2 ^ (e%8):Nat))=pkC ps wd (e+1):=q0k Oo
theorem qzf (ps:List Nat) (wd:Nat):pkC ps wd (ps.length*wd)=byV (qcv ps wd):=by rw [pkC];exact congrArg byV (q2h ps wd)
theorem q2m {ps:List Nat} {wd i k:Nat} (hk:k≤wd) (h:ps.getD i 0/2 ^ k=0):pkC ps wd (i*wd+k)=pkC ps wd ((i+1)*wd):=by rw [pkC,pkC];exact congrArg byV (qvh hk h)
theorem q31 {ps:List Nat} {wd i k:Nat} (hk:k<wd):pkF ps wd (i*wd+k)=ps.getD i 0/2 ^ k:=by
 have e1:(i*wd+k)/wd=i:=by rw [Nat.mul_comm,Nat.mul_add_div Oo,Nat.div_eq_of_lt hk,Nat.add_zero]
 have e2:(i*wd+k)%wd=k:=by rw [Nat.mul_comm,Nat.mul_add_mod,Nat.mod_eq_of_lt hk]
 rw [pkF,e1,e2]
theorem NewS.blk {e:TypeId} {w w':World} {b:Nat} {l:LB} {n:Nat} (he:Ext w w') (hb:w.heap.size≤b) (ho:w'.heap[b]?=some (.cells (byV l).toArray e)) (hn:l.length=n):NewS e w w' (.slice (some ⟨b,0,none⟩) n n) l:=by
 subst hn;refine ⟨he,⟨_,_,rfl,Nat.le_refl _,.inr ⟨b,_,rfl,ho,by rw [List.size_toArray,qae];exact Nat.le_refl _,?_⟩⟩,fun k hk=>?_⟩
 ·rw [List.take_of_length_le (by rw [qae];exact Nat.le_refl _)]
 ·rw [List.mem_singleton.1 hk];exact ⟨hb,qa2 ho⟩
theorem qtn (ps:List Nat) (wd:Nat) (A:oA) (n c:Nat) (w:World) (hS:SlAt encU 1 w A ps) (hn:ps.length=n) (hl:n≤4398046511104) (hnw:n*wd≤4398046511104) (hp:∀ x∈ps,x<2 ^ wd) (hw:wd≤64) :
  Gv Tryz.prog 64 [.slice A n c,ii wd] w fun r w'=>∃ v,r=.tuple #[v,ii 0]∧NewS 5 w w' v (qcv ps wd):=by
 have hroom:=fun w=>qzj n wd w hnw
 obtain ⟨f,ef⟩:∃ f,f=n*wd:=⟨_,rfl⟩
 rw [← ef] at hroom;have efp:ps.length*wd=f:=by rw [hn,ef]
 refine ze Tryz.func64 Tryz.ntmps64 ?_;refine znm (Mem.nil w) fun b w1 hm=>zw ?_;refine zr hm 0 ?_;refine zcv (qze wd w1 hw) ?_;rintro r w2 ⟨rfl,rfl⟩;refine zu ?_;refine zcv (qm1 ps wd b A n c w2 (hS.ext hm.ext) hn hl hp hw (hm.get mh)) ?_;rintro r w3 ⟨rfl,he3⟩;have hm:=hm.call he3;(conv=>whnf);refine zt ?_;refine LoadV.mem (i:=0) Oa rfl rfl (zw ?_);refine zcv (hroom w3) ?_;rintro r w4 ⟨rfl,rfl⟩;(conv=>whnf);refine ⟨(f+7)/8,(f+7)/8,rfl,rfl,Nat.le_refl _,by show (f+7)/8*1≤_;omega,by omega,fun ob w5 hb hw5=>?_⟩;have hm:=hm.new hb hw5;have hm:Mem w w5 [(ob,.cells (pkC ps wd 0).toArray 5),(b,.cells #[ii wd] 3)]:=by rw [qtp,efp];exact hm
 clear hb hw5;(conv=>whnf);refine qe (fun i:Nat=>[(0,.slice A n c),(3,pp b),(6,.slice (some ⟨ob,0,none⟩) ((f+7)/8) ((f+7)/8)),(23,.slice A n c),(24,ii n),(25,ii i)])
  (fun i w'=>i≤n∧Mem w w' [(ob,.cells (pkC ps wd (i*wd)).toArray 5),(b,.cells #[ii wd] 3)]) (fun i=>n-i) 0 ⟨rfl,rfl,rfl,rfl,rfl,rfl,trivial⟩ ⟨Nat.zero_le _,by rw [Nat.zero_mul];exact hm⟩ ?_
 clear hm;rintro i w6 ρ' ⟨i1,hm⟩;(conv=>whnf);refine zC (fun _=>zw ?_) (fun _=>zw ?_)
 ·have hi:i<ps.length:=by omega
  have hx:=hp _ (List.getElem_mem hi);have hx64:ps[i]<18446744073709551616:=Nat.lt_of_lt_of_le hx (Nat.pow_le_pow_right Od hw);have hg:ps.getD i 0=ps[i]:=by rw [List.getD_eq_getElem?_getD,zge hi];rfl
  have hm1:i*wd+wd≤f:=by rw [ef,← Nat.succ_mul];exact Nat.mul_le_mul_right _ Oo
  obtain ⟨g,eg⟩:∃ g,g=i*wd:=⟨_,rfl⟩
  have egi:(i:Int)*(wd:Int)=(g:Int):=by rw [eg,Int.natCast_mul]
  rw [← eg] at hm1;refine ElemV.sl (hS.ext hm.ext) hn i rfl Oo ?_;intro eb eo hcell;(conv=>whnf);refine LoadV.cell0 hcell (zw ?_);refine zr hm 1 ?_;rw [egi];refine zv ?_;refine qe (fun k:Nat=>[(0,.slice A n c),(3,pp b),(6,.slice (some ⟨ob,0,none⟩) ((f+7)/8) ((f+7)/8)),(8,.int .u64 (ps[i]/2 ^ k:Nat)),(9,ii (g+k:Nat)),(23,.slice A n c),(24,ii n),(25,ii i)])
   (fun k w'=>k≤wd∧Mem w w' [(ob,.cells (pkC ps wd (g+k)).toArray 5),(b,.cells #[ii wd] 3)]) (fun k=>wd-k) 0 ⟨rfl,rfl,rfl,congrArg (fun n:Nat=>Value.int .u64 n) Js,rfl,rfl,rfl,rfl,trivial⟩ ⟨Nat.zero_le _,by rw [Nat.add_zero,eg];exact hm⟩ ?_
  clear hm;rintro k w7 ρ2 ⟨k1,hm⟩;have hq:ps[i]/2 ^ k<18446744073709551616:=Nat.lt_of_le_of_lt (Nat.div_le_self _ _) hx64;(conv=>whnf);refine zC (fun _=>zu ?_) (fun _=>zu ?_)
  ·have hkw:k<wd:=Nat.lt_of_not_le fun hle=>by
    have:ps[i]/2 ^ k=0:=Nat.div_eq_of_lt (Nat.lt_of_lt_of_le hx (Nat.pow_le_pow_right Od hle));omega
   have he:g+k<ps.length*wd:=by rw [efp];omega
   have hcl:=qzg ps wd (g+k);rw [efp] at hcl;have hld:=q30 he;have hF:pkF ps wd (g+k)=ps[i]/2 ^ k:=by rw [eg,q31 hkw,hg]
   have hby:=qkx (upF (pkF ps wd) (g+k)) ((g+k)/8);have hst:=qzh he;rw [hF] at hst;refine DrawV.own rfl Ok (zw ?_);(iterate 3 (refine zo ?_));apply StepO.still
   ·intro wd hd;(conv=>whnf);refine ElemV.own1 ((g+k)/8) rfl Oo (zw ?_);exact PostO.still xr rfl
   (conv=>whnf);apply StepO.still
   ·intro wd hd;(conv=>whnf);refine LoadV.mem (Mem.call (Mem.drew hm) hd) (i:=0) rfl (by rw [List.getElem?_toArray];exact hld) ?_;(conv=>whnf);exact PostO.still xr rfl
   (conv=>whnf);refine zo ?_;apply StepO.still
   ·intro wd1 hd;(conv=>whnf);refine Wit.eq (qbc (k:=.u64) (m:=ps[i]/2 ^ k) 1 rfl (qlp hq) ⟨by omega,by omega⟩) (zw ?_);exact PostO.still xr rfl
   (conv=>whnf);(iterate 3 (refine zo ?_));apply StepO.still
   ·intro wd1 hd;(conv=>whnf);refine V.Wit.shlN ((g+k)%8) Oo (by show (g+k)%8<8;omega) (qd6 ?_) ?_
    ·have h2:2 ^ ((g+k)%8)≤2 ^ 7:=Nat.pow_le_pow_right Od Oo;have h3:ps[i]/2 ^ k%2 ^ 1*2 ^ ((g+k)%8)≤1*2 ^ ((g+k)%8):=Nat.mul_le_mul_right _ Oo;have e7:(2:Nat) ^ 7=128:=by decide
     show ps[i]/2 ^ k%2 ^ 1*2 ^ ((g+k)%8)<256;omega
    (conv=>whnf);exact PostO.still xr rfl
   (conv=>whnf);apply StepO.still
   ·intro wd1 hd;(conv=>whnf);refine Wit.eq (qtm (f:=pkF ps wd) (g+k) (ps[i]/2 ^ k)) (zw ?_);exact PostO.still xr rfl
   (conv=>whnf);apply StepO.still
   ·intro wd1 hd;(conv=>whnf);refine ElemV.own1 ((g+k)/8) rfl Oo (zw ?_);exact PostO.still xr rfl
   (conv=>whnf);intro w8 hd8
   (repeat (intro _;(conv=>whnf)))
   (conv=>whnf);refine StoreV.mem (hm.drew.call hd8) (i:=0) rfl (by rw [List.size_toArray];omega) rfl ?_;intro w9 hm;have hm:Mem w w9 [(ob,.cells (pkC ps wd (g+k+1)).toArray 5),(b,.cells #[ii wd] 3)]:=by
    rw [← hst];have e:((pkC ps wd (g+k)).toArray.setIfInBounds ((g+k)/8) (.int .u8 (byt (upF (pkF ps wd) (g+k)) ((g+k)/8)+ps[i]/2 ^ k%2*2 ^ ((g+k)%8):Nat)))=((pkC ps wd (g+k)).set ((g+k)/8) (.int .u8 (byt (upF (pkF ps wd) (g+k)) ((g+k)/8)+ps[i]/2 ^ k%2*2 ^ ((g+k)%8):Nat))).toArray:=by simp
    rw [← e];exact hm
   (conv=>whnf);refine V.Wit.shrN 1 rfl Od (zu ?_);refine ⟨k+1,⟨rfl,rfl,rfl,congrArg (fun n:Nat=>Value.int .u64 n) (by rw [Nat.div_div_eq_div_mul,← Nat.pow_succ]),congrArg (Value.int .i64) Oo,rfl,rfl,rfl,trivial⟩,⟨by omega,hm⟩,by omega⟩
  ·have hz:ps.getD i 0/2 ^ k=0:=by rw [hg];omega
   refine ⟨i+1,⟨rfl,rfl,rfl,rfl,rfl,rfl,trivial⟩,⟨by omega,?_⟩,by omega⟩;rw [← q2m k1 hz,← eg];exact hm
 ·obtain rfl:i=n:=by omega
  obtain ⟨o1,o2⟩:=hm.own _ mh;refine ⟨_,rfl,NewS.blk hm.ext o1 ?_ (by rw [qbm,efp])⟩;rw [← qzf,hn];exact o2
def txs (L:List ByteArray):List LB:=L.map fun s=>s.data.toList
theorem qbr (L:List ByteArray):(txs L).length=L.length:=by rw [txs,List.length_map]
theorem qh6 {L:List ByteArray} {i:Nat} (h:i<L.length):tx (txs L) i=L[i].data.toList:=by
 rw [tx,List.getD_eq_getElem?_getD,txs,List.getElem?_map,zge h];rfl
theorem q0h {L:List ByteArray} {i:Nat} (h:L.length≤i):tx (txs L) i=[]:=by
 rw [tx,List.getD_eq_getElem?_getD,txs,List.getElem?_map,List.getElem?_eq_none h];rfl
theorem qd3 {L:List ByteArray} {i:Nat} (h:i<L.length):(tx (txs L) i).length=L[i].size:=by rw [qh6 h];rfl
open Classical in
noncomputable def chkD (L:List LB):Nat:=
 if 4194304<L.length∨∃ i,262144<(tx L i).length then 2 else if ∃ i,i+1<L.length∧leL (tx L (i+1)) (tx L i)=true then 160 else 0
theorem qw6 {L:List LB} (h:4194304<L.length):chkD L=2:=by rw [chkD,if_pos (.inl h)]
theorem qw9 {L:List LB} {i:Nat} (h:262144<(tx L i).length):chkD L=2:=by rw [chkD,if_pos (.inr ⟨i,h⟩)]
theorem qw8 {L:List LB} (h:¬ 4194304<L.length) (h2:∀ i,¬ 262144<(tx L i).length) {i:Nat} (hi:i+1<L.length) (hl:leL (tx L (i+1)) (tx L i)=true):chkD L=160:=by
 rw [chkD,if_neg (fun g=>g.elim h fun ⟨i,g⟩=>h2 i g),if_pos ⟨i,hi,hl⟩]
theorem qw7 {L:List LB} (h:¬ 4194304<L.length) (h2:∀ i,¬ 262144<(tx L i).length) (h3:∀ i,i+1<L.length→leL (tx L (i+1)) (tx L i)=false):chkD L=0:=by
 rw [chkD,if_neg (fun g=>g.elim h fun ⟨i,g⟩=>h2 i g),if_neg (fun ⟨i,hi,g⟩=>by rw [h3 i hi] at g;cases g)]
theorem qiz {L:List LB} (h:chkD L=0):L.length≤4194304∧(∀ i,(tx L i).length≤262144)∧(∀ i,i+1<L.length→leL (tx L (i+1)) (tx L i)=false):=by
 rw [chkD] at h
 split at h
 ·cases h
 ·rename_i g
  split at h
  ·cases h
  ·rename_i g2
   refine ⟨Nat.le_of_not_lt fun e=>g (.inl e),fun i=>Nat.le_of_not_lt fun e=>g (.inr ⟨i,e⟩),fun i hi=>?_⟩;cases e:leL (tx L (i+1)) (tx L i) with
   | false=>rfl
   | true=>exact absurd ⟨i,hi,e⟩ g2
theorem qmb (L:List LB):dicE L=if chkD L=0 then (if 67108864<(qv L).length then 1 else 0) else chkD L:=by
 rw [dicE,chkD]
 split
 ·rfl
 ·split
  ·rfl
  ·rfl
theorem qso {L:List LB} (h:chkD L≠0):dicE L=chkD L:=by rw [qmb,if_neg h]
theorem qsp {L:List LB} (h:chkD L=0) (h2:(qv L).length≤67108864):dicE L=0:=by rw [qmb,if_pos h,if_neg Oo]
theorem qf4 {L:List LB} (h:chkD L=0) (h2:67108864<(qv L).length):dicE L=1:=by rw [qmb,if_pos h,if_pos h2]
def plcN (L:List LB) (i:Nat):List Nat:=(List.range (upN i 16)).map fun k=>(arL L (16*k)).length
theorem qm2 (L:List LB) {i:Nat} (h:i%16=0):plcN L (i+1)=plcN L i++[(arL L i).length]:=by
 have e1:upN (i+1) 16=upN i 16+1:=by unfold upN;omega
 have e2:16*upN i 16=i:=by unfold upN;omega
 rw [plcN,e1,List.range_succ,List.map_append,List.map_singleton,e2];rfl
theorem qjp (L:List LB) {i:Nat} (h:i%16≠0):plcN L (i+1)=plcN L i:=by
 have e1:upN (i+1) 16=upN i 16:=by unfold upN;omega
 rw [plcN,e1];rfl
theorem qig (L:List LB) {i j:Nat} (h:i≤j):(arL L i).length≤(arL L j).length:=by
 obtain ⟨r,hr⟩:=qly L h;rw [hr,zla];omega
theorem qwt (L:List LB) {i:Nat} (h:i%16=0):arL L (i+1)=arL L i++(varL (tx L i).length++tx L i):=by
 rw [arL,entE,if_pos (decide_eq_true h)]
theorem qsa (L:List LB) {i:Nat} (h:i%16≠0):arL L (i+1)=arL L i++(varL (comL (tx L (i-1)) (tx L i))++(varL ((tx L i).length-comL (tx L (i-1)) (tx L i))++(tx L i).drop (comL (tx L (i-1)) (tx L i)))):=by
 rw [arL,entE,if_neg (by rw [decide_eq_false h];decide),if_neg (show ¬ i=0 by omega)]
theorem q42 {first:Bool} {a s:LB} (ha:a.length≤262144) (hs:s.length≤262144):(entE first a s).length≤262164:=by
 have hc:=qg9 a s;have v1:=qab 8 (comL a s) (Nat.lt_of_le_of_lt (Nat.le_trans hc.1 ha) Od);have v2:=qab 8 (s.length-comL a s) (Nat.lt_of_le_of_lt (Nat.le_trans (Nat.sub_le _ _) hs) Od);have v3:=qab 8 s.length (Nat.lt_of_le_of_lt hs Od);cases first with
 | true=>rw [entE,if_pos rfl,zla];omega
 | false=>rw [entE,if_neg Od,zla,zla,zld];omega
theorem q3j {L:List LB} (h:∀ i,(tx L i).length≤262144):∀ i,(arL L i).length≤i*262164
 | 0=>Nat.le_refl _
 | i+1=>by
  have h1:=q3j h i;have h2:(if i=0 then [] else tx L (i-1)).length≤262144:=by
   split
   ·exact Nat.zero_le _
   ·exact h _
  have h3:=q42 (first:=decide (i%16=0)) h2 (h i);rw [arL,zla,Nat.succ_mul];omega
theorem q53 {L:List LB} (ha:(qv L).length≤67108864):∀ x∈plcL L,x<2 ^ qr (qv L).length:=by
 intro x hx;rw [plcL,List.mem_map] at hx;obtain ⟨k,hk,rfl⟩:=hx;have hk:=List.mem_range.1 hk;have h1:16*k≤L.length:=by unfold upN at hk;omega
 have h2:(arL L (16*k)).length≤(qv L).length:=qig L h1;have h3:=qim (n:=(qv L).length) Oo;omega
theorem qul {n:Nat} (h:n≤67108864):qr n≤27:=qcm 27 n (Nat.lt_of_le_of_lt h Od) Od
theorem qn7 {L:List LB} (hn:L.length≤4194304) (ha:(qv L).length≤67108864):(qh L).length≤70000000:=by
 have v1:=qab 8 L.length (Nat.lt_of_le_of_lt hn Od);have v2:=qab 8 (qv L).length (Nat.lt_of_le_of_lt ha Od);have hw:=qul ha;have hp:=qbm (plcL L) (qr (qv L).length);rw [qip] at hp;have hm:upN L.length 16*qr (qv L).length≤262144*27:=Nat.mul_le_mul (by unfold upN;omega) hw;rw [qh,zla,zla,zla,hp];omega
theorem qym {L:List ByteArray} {i j:Nat} (hi:i<L.length) (hj:j<L.length):leL (tx (txs L) i) (tx (txs L) j)=(slt L[i] L[j]||seq L[i] L[j]):=by
 rw [qh6 hi,qh6 hj];rfl
theorem qt2 {a b:ByteArray}:slt a b=false↔(slt b a||seq b a)=true:=by
 rw [← Bool.not_eq_true,qet,Bool.or_eq_true,qet,qai,List.not_lt]
 constructor
 ·intro h
  rcases List.le_iff_lt_or_eq.1 h with h|h
  ·exact .inl h
  ·exact .inr (qkr h)
 ·rintro (h|h)
  ·exact List.le_of_lt h
  ·rw [h];exact List.le_refl _
theorem qu0 (L:List ByteArray) (A:oA) (n c:Nat) (w:World) (hS:SlAt zeS 1 w A L) (hn:L.length=n) (hb:n≤140737488355328) :
  Gv Tryz.prog 113 [.slice A n c] w fun r w'=>r=ii (chkD (txs L))∧Ext w w':=by
 refine ze Tryz.func113 Tryz.ntmps113 ?_;refine zC (fun _=>zw ?_) (fun _=>zw ?_)
 ·exact ⟨by rw [qw6 (by rw [qbr];omega)];rfl,Ext.refl w⟩
 ·have hlong:¬ 4194304<(txs L).length:=by rw [qbr];omega
  refine qe (fun i:Nat=>[(0,.slice A n c),(9,.slice A n c),(10,ii n),(11,ii i)]) (fun i w1=>i≤n∧(∀ j,j<i→¬ 262144<(tx (txs L) j).length)∧w1=w) (fun i=>n-i) 0 ⟨rfl,rfl,rfl,rfl,trivial⟩ ⟨Nat.zero_le _,fun j h=>absurd h (Nat.not_lt_zero _),rfl⟩ ?_;rintro i w1 ρ' ⟨i1,i2,rfl⟩;(conv=>whnf);refine zC (fun _=>zw ?_) (fun _=>zw ?_)
  ·have hi:i<L.length:=by omega
   have hx:=qd3 hi;refine ElemV.sl hS hn i rfl Oo ?_;intro eb eo hcell;(conv=>whnf);refine LoadV.cell0 hcell (zw ?_);refine zC (fun _=>zu ?_) (fun _=>zu ?_)
   ·exact ⟨by rw [qw9 (i:=i) Oo];rfl,xr⟩
   ·refine ⟨i+1,⟨rfl,rfl,rfl,rfl,trivial⟩,⟨by omega,fun j hj=>?_,rfl⟩,by omega⟩
    by_cases e:j=i
    ·subst e;omega
    ·exact i2 j Oo
  ·obtain rfl:i=n:=by omega
   have hsh:∀ j,¬ 262144<(tx (txs L) j).length:=fun j=>by
    by_cases hj:j<i
    ·exact i2 j hj
    ·rw [q0h Oo];decide
   refine qe (fun k:Nat=>[(0,.slice A i c),(5,ii (k+1:Nat))]) (fun k w2=>(∀ j,j<k→j+1<L.length→leL (tx (txs L) (j+1)) (tx (txs L) j)=false)∧Ext w1 w2) (fun k=>i-k) 0 ⟨rfl,rfl,trivial⟩ ⟨fun j h=>by omega,Ext.refl w1⟩ ?_;rintro k w2 ρ2 ⟨k1,he2⟩;(conv=>whnf);refine zC (fun _=>zw ?_) (fun _=>zw ?_)
   ·have hk:k+1<L.length:=by omega
    obtain ⟨b,off,rfl,hat⟩:=(hS.ext he2).at_ (by intro e;rw [e] at hk;cases hk);have hca:=(hat k _ (zge Oo)).ext (Ext.refl w2).drew;have hcb:=(hat (k+1) _ (zge hk)).ext (Ext.refl w2).drew;refine zy ?_;refine zv ?_;refine ⟨⟨b,off,k,rfl,by omega,by omega,?_⟩⟩;refine zu ?_;refine LoadV.cell0 hca (zu ?_);refine ⟨⟨b,off,k+1,rfl,by omega,by omega,?_⟩⟩;refine zu ?_;refine LoadV.cell0 hcb (zu ?_);have he3:=he2.drew;have hle:=qym hk (show k<L.length by omega);refine Tst.both (fun hlt=>?_) fun hlt=>?_
    ·refine zu ?_;refine ⟨k+1,⟨rfl,congrArg (Value.int .i64) Oo,trivial⟩,⟨fun j hj hjl=>?_,he3⟩,by omega⟩
     by_cases e:j=k
     ·subst e;rw [hle,← Bool.not_eq_true];exact fun g=>by rw [qt2.2 g] at hlt;cases hlt
     ·exact k1 j Oo hjl
    ·(conv=>whnf);exact ⟨by rw [qw8 hlong hsh (i:=k) (by rw [qbr];exact hk) (by rw [hle];exact qt2.1 hlt)];rfl,he3⟩
   ·exact ⟨by rw [qw7 hlong hsh (fun j hj=>by rw [qbr] at hj;exact k1 j Oo hj)];rfl,he2⟩
def u64V (l:List Nat):List Value:=l.map fun n=>Value.int .u64 (n:Nat)
theorem qa4 (l:List Nat):(u64V l).length=l.length:=by simp [u64V]
theorem qjk {α:Type} {f:α→Value} {w:World} {base n c:Nat} {e:TypeId} {A:oA} {l:List α} (h:w.ownsRow base e 1 (.slice A n c) n (l.map f)) (hn:l.length=n):SlAt (fun x=>[f x]) 1 w A l:=by
 subst hn;refine ⟨fun hne=>?_⟩
 rcases h.2 with ⟨e1,e2⟩|⟨g,cap,cur,e1,_,h2,_,_,h5,h6⟩
 ·exact absurd (List.eq_nil_of_length_eq_zero e2) hne
 ·cases e1;refine ⟨g,0,rfl,fun j x hx k v hv=>?_⟩;cases k with
  | succ k=>simp at hv
  | zero=>
   simp only [List.getElem?_cons_zero,Option.some.injEq] at hv;subst hv;have hj:=(List.getElem?_eq_some_iff.1 hx).1;have h7:(l.map f)[j]?=some (f x):=by rw [List.getElem?_map,hx];rfl
   rw [← h6,List.getElem?_take,if_pos Oo] at h7;rw [qa h2,Nat.zero_add,Nat.mul_one,Nat.add_zero]
   simpa using h7
theorem qjl {w:World} {base n:Nat} {A:oA} {c:Nat} {l:List Nat} (h:w.ownsRow base 51 1 (.slice A n c) n (u64V l)) (hn:l.length=n):SlAt encU 1 w A l:=qjk (f:=fun x:Nat=>Value.int .u64 (x:Nat)) h hn
structure DicS (L:List LB) (w0 w:World) (b i:Nat) (v:Value):Prop where
 h:∃ F ps,Sep w0 w [F,rowF v]∧BufAt w b 67108864 (arL L i) F∧w.ownsRow 0 51 1 v (upN i 16) (u64V ps)∧ps.length=upN i 16∧((arL L i).length≤67108864→ps=plcN L i)
theorem qpr {L:List ByteArray} (h:chkD (txs L)=0) {i:Nat} (hi:i<L.length):L[i].size≤262144:=by rw [← qd3 hi];exact (qiz h).2.1 i
theorem qiv {L:List LB} (h:chkD L=0) {i:Nat} (hi:i≤L.length):(arL L i).length≤1200000000000:=by
 obtain ⟨h1,h2,_⟩:=qiz h;have h3:=q3j h2 i;have h4:i*262164≤4194304*262164:=Nat.mul_le_mul_right _ Oo;omega
def DBuR (L:List LB) (w w':World) (r:Value):Prop:=
 (dicE L≠0∧r=.tuple #[.slice none 0 0,ii (dicE L)]∧Ext w w')∨(dicE L=0∧∃ v,r=.tuple #[v,ii 0]∧NewS 5 w w' v (qh L))
theorem DicS.step {L:List LB} {w0 w':World} {b i:Nat} {v:Value} {F:List Nat} {ps:List Nat} (hS:Sep w0 w' [F,rowF v]) (hB:BufAt w' b 67108864 (arL L i) F) (hO:w'.ownsRow 0 51 1 v (upN i 16) (u64V ps)) (hl:ps.length=upN i 16)
  (hp:(arL L i).length≤67108864→ps=plcN L i):DicS L w0 w' b i v:=⟨⟨F,ps,hS,hB,hO,hl,hp⟩⟩
theorem quz (L:List ByteArray) (A:oA) (n c:Nat) (w:World) (hS:SlAt zeS 1 w A L) (hn:L.length=n) (hb:n≤140737488355328) :
  Gv Tryz.prog 55 [.slice A n c,ii 4611686018427387904] w fun r w'=>DBuR (txs L) w w' r:=by
 refine ze Tryz.func55 Tryz.ntmps55 ?_;refine zcv (qu0 L A n c w hS hn hb) ?_;rintro r w1 ⟨rfl,he1⟩
 by_cases hE:chkD (txs L)=0
 ·have hLn:=(qiz hE).1;rw [qbr,hn] at hLn;rw [hE];refine zu ?_;refine zcv (qex 67108864 w1) ?_;rintro r w2 ⟨b,rfl,he2,hb2,hB⟩;have hB:BufAt w2 b 67108864 (arL (txs L) 0) [b]:=hB;have hSp:Sep w w2 [[b],rowF (.slice none 0 0)]:=((Sep.of he1).add (F:=rowF (.slice none 0 0)) (Ext.refl w1) (fun k hk=>by cases hk)).add he2 fun k hk=>by rw [List.mem_singleton.1 hk];exact ⟨hb2,hB.lt b (List.mem_singleton.2 rfl)⟩
  (conv=>whnf);refine qe (fun x:Nat × oA × Nat=>[(0,.slice A n c),(1,ii 4611686018427387904),(7,pp b),(8,.slice x.2.1 (upN x.1 16) x.2.2),(23,.slice A n c),(24,ii n),(25,ii x.1)])
   (fun x w'=>x.1≤n∧DicS (txs L) w w' b x.1 (.slice x.2.1 (upN x.1 16) x.2.2)) (fun x=>n-x.1) (0,none,0) ⟨rfl,rfl,rfl,rfl,rfl,rfl,rfl,trivial⟩ ⟨Nat.zero_le _,DicS.step hSp hB (World.ownsRow_nil _ _ _ _) (ps:=[]) rfl fun _=>rfl⟩ ?_
  clear hB hSp;rintro ⟨i,P,cp⟩ w3 ρ' ⟨i1,⟨F,ps,hSp,hB,hO,hpl,hps⟩⟩;dsimp only at i1 hSp hB hO hpl hps ⊢;(conv=>whnf);refine zC (fun _=>zw ?_) (fun _=>zw ?_)
  ·have hi:i<L.length:=by omega
   have hsz:=qpr hE hi;have hx:=qh6 hi;have hal:=qiv (L:=txs L) hE (i:=i) (by rw [qbr];omega);have hup:upN i 16≤262144:=by unfold upN;omega
   refine ElemV.sl (hS.ext hSp.ext) hn i rfl Oo ?_;intro eb eo hcell;(conv=>whnf);refine LoadV.cell0 hcell (zw ?_);refine zt ?_;refine zC (fun _=>zu ?_) (fun _=>zu ?_)
   ·have hi16:i%16=0:=by omega
    have hlx:(tx (txs L) i).length=L[i].size:=qd3 hi;refine zcv (q09 b 67108864 _ F w3 hB) ?_;rintro r w4 ⟨⟨k,rfl,hk1,hk2⟩,rfl⟩;refine zu ?_;refine ⟨fun nb w5 hnb hw=>?_⟩;have he5:Ext w4 w5:=by rw [hw];exact (Ext.refl w4).alloc _
    have hc5:w5.heap[nb]?=some (.cells #[.int .u64 k] 51):=by rw [hw,hnb];exact heap_alloc_new w4 _
    have hSp:=hSp.call he5;have hB:=hB.call he5;have hO:=q9 hO he5;clear hnb hw;(conv=>whnf);refine AppV.cell q0i u64I u64Z Ok rfl (by decide +kernel) hO hc5 rfl Oo ?_;intro A' c' w6 hO hch hnew;obtain ⟨hSp,_,hkp⟩:=hSp.row (i:=1) (F':=rowF (.slice A' (upN i 16+1) c')) rfl hch hnew;have hB:=hB.keep (hkp 0 _ rfl Od);refine zu ?_;refine zcv (qbp b 67108864 _ L[i].size F w6 hB Oo Od Oo) ?_;rintro r w7 ⟨rfl,hC⟩;obtain ⟨F7,⟨hSp,_,hkp⟩,hB⟩:=hSp.buf (i:=0) rfl hC;have hO:=qq hO (hkp 1 _ rfl Od);have hlv:=qab 9 L[i].size Oo;(conv=>whnf);refine NewBytesV.sl ?_;intro sb scap w8 hsc he8 hsS;have hSp:=hSp.call he8;have hB:=hB.call he8;have hO:=q9 hO he8;(conv=>whnf);refine zcv (qcw b 67108864 _ L[i].data.toList F7 (some ⟨sb,0,none⟩) L[i].size scap w8 hB hsS rfl Od (by rw [zla];show _+L[i].size≤_;omega)) ?_;rintro r w9 ⟨rfl,hC⟩;obtain ⟨F9,⟨hSp,_,hkp⟩,hB⟩:=hSp.buf (i:=0) rfl hC;have hO:=qq hO (hkp 1 _ rfl Od);have hup1:upN (i+1) 16=upN i 16+1:=by unfold upN;omega
    have har:arL (txs L) (i+1)=arL (txs L) i++varL L[i].size++L[i].data.toList:=by rw [qwt _ hi16,hlx,hx,List.append_assoc]
    refine zu ?_;refine ⟨(i+1,A',c'),⟨rfl,rfl,rfl,by show Value.slice _ _ _=_;rw [hup1],rfl,rfl,rfl,trivial⟩,⟨by simp only;omega,?_⟩,by simp only;omega⟩;show DicS (txs L) w w9 b (i+1) (.slice A' (upN (i+1) 16) c');rw [hup1];refine ⟨⟨F9,ps++[k],hSp,by rw [har];exact hB,?_,by rw [zla,hpl,hup1];rfl,fun hle=>?_⟩⟩
    ·rw [hup1,u64V,List.map_append];exact hO
    ·have h1:(arL (txs L) i).length≤67108864:=Nat.le_trans (qig _ (Nat.le_succ i)) hle;rw [qm2 _ hi16,hps h1,hk2 h1]
   ·have hi16:i%16≠0:=by omega
    have hi0:i≠0:=fun e=>hi16 (by rw [e])
    have hsz1:=qpr hE (i:=i-1) Oo;have hlx:(tx (txs L) i).length=L[i].size:=qd3 hi;have hx1:=qh6 (L:=L) (i:=i-1) Oo;have hcm:=qg9 (tx (txs L) (i-1)) (tx (txs L) i);rw [hlx] at hcm;refine ElemV.sl (hS.ext hSp.ext) hn (i-1) Oo Oo ?_;intro eb2 eo2 hcell2;(conv=>whnf);refine LoadV.cell0 hcell2 (zw ?_);refine zcv (qwq (L[i-1]' Oo) L[i] w3 Oo) ?_;rintro r w4 ⟨rfl,he4⟩;rw [← hx1,← hx];obtain ⟨cm,ecm⟩:∃ cm,cm=comL (tx (txs L) (i-1)) (tx (txs L) i):=⟨_,rfl⟩
    rw [← ecm] at hcm ⊢;have hSp:=hSp.call he4;have hB:=hB.call he4;have hO:=q9 hO he4;have hlv1:=qab 9 cm Oo;have hlv2:=qab 9 (L[i].size-cm) Oo;refine zu ?_;refine zcv (qbp b 67108864 _ cm F w4 hB Oo Od Oo) ?_;rintro r w5 ⟨rfl,hC⟩;obtain ⟨F5,⟨hSp,_,hkp⟩,hB⟩:=hSp.buf (i:=0) rfl hC;have hO:=qq hO (hkp 1 _ rfl Od);refine zu ?_;have esub:(L[i].size:Int)-(cm:Int)=((L[i].size-cm:Nat):Int):=by omega
    rw [esub];refine zcv (qbp b 67108864 _ (L[i].size-cm) F5 w5 hB Oo Od (by rw [zla];omega)) ?_;rintro r w6 ⟨rfl,hC⟩;obtain ⟨F6,⟨hSp,_,hkp⟩,hB⟩:=hSp.buf (i:=0) rfl hC;have hO:=qq hO (hkp 1 _ rfl Od);(conv=>whnf);refine ⟨cm,L[i].size,rfl,rfl,by omega,Nat.le_refl _,?_⟩;obtain ⟨sx,esx⟩:∃ sx,sx=L[i].extract cm L[i].size:=⟨_,rfl⟩
    have hsx:sx.data.toList=(tx (txs L) i).drop cm:=by rw [esx,qas,hx];exact List.take_of_length_le (by rw [zld];exact Nat.le_refl _)
    have hsl:sx.data.toList.length=L[i].size-cm:=by rw [hsx,zld,hlx]
    rw [← esx];(conv=>whnf);refine NewBytesV.sl ?_;intro sb scap w7 hsc he7 hsS;have hSp:=hSp.call he7;have hB:=hB.call he7;have hO:=q9 hO he7;(conv=>whnf);refine zcv (qcw b 67108864 _ sx.data.toList F6 (some ⟨sb,0,none⟩) sx.size scap w7 hB hsS rfl Od (by rw [zla,zla,hsl];omega)) ?_;rintro r w8 ⟨rfl,hC⟩;obtain ⟨F8,⟨hSp,_,hkp⟩,hB⟩:=hSp.buf (i:=0) rfl hC;have hO:=qq hO (hkp 1 _ rfl Od);have hup1:upN (i+1) 16=upN i 16:=by unfold upN;omega
    have har:arL (txs L) (i+1)=arL (txs L) i++varL cm++varL (L[i].size-cm)++sx.data.toList:=by rw [qsa _ hi16,hlx,← ecm,hsx];simp only [List.append_assoc]
    refine zu ?_;refine ⟨(i+1,P,cp),⟨rfl,rfl,rfl,by show Value.slice _ _ _=_;rw [hup1],rfl,rfl,rfl,trivial⟩,⟨by simp only;omega,?_⟩,by simp only;omega⟩;show DicS (txs L) w w8 b (i+1) (.slice P (upN (i+1) 16) cp);rw [hup1];refine ⟨⟨F8,ps,hSp,by rw [har];exact hB,by rw [hup1];exact hO,by rw [hpl,hup1],fun hle=>?_⟩⟩;have h1:(arL (txs L) i).length≤67108864:=Nat.le_trans (qig _ (Nat.le_succ i)) hle;rw [qjp _ hi16,hps h1]
  ·obtain rfl:i=n:=by omega
   have hal:=qiv (L:=txs L) hE (i:=i) (by rw [qbr];omega);have hLl:(txs L).length=i:=by rw [qbr,hn]
   have hAr:arL (txs L) i=qv (txs L):=by rw [qv,hLl]
   refine zcv (qcn b 67108864 _ F w3 hB Oo) ?_;rintro r w4 hR;rw [hAr] at hR hps
   rcases hR with ⟨hbig,rfl,rfl⟩|⟨hle,v,rfl,hN⟩
   ·refine zu ?_;exact .inl ⟨by rw [qf4 hE hbig];decide,by rw [qf4 hE hbig];rfl,hSp.ext⟩
   ·have hps:=hps hle;have ePlc:plcN (txs L) i=plcL (txs L):=by rw [← hLl];rfl
    rw [ePlc] at hps;subst hps;have hOw:=q9 hO hN.ext;have hup:upN i 16≤262144:=by unfold upN;omega
    have hbs:=hN.bs;have he4:Ext w w4:=hSp.ext.trans hN.ext;obtain ⟨Av,cv,rfl,hcv,hAv⟩:=id hbs;have hwd:=qul hle;refine zu ?_;refine zcv (qg4 (qv (txs L)).length w4 Oo) ?_;rintro r w5 ⟨rfl,rfl⟩;(conv=>whnf);refine zcv (qtn (plcL (txs L)) (qr (qv (txs L)).length) P (upN i 16) cp w5 (qjl hOw hpl) hpl Oo (Nat.le_trans (Nat.mul_le_mul hup hwd) Od) (q53 hle) Oo) ?_;rintro r w6 ⟨vp,rfl,hNp⟩;have hbp:=hNp.bs;have hpkl:=qbm (plcL (txs L)) (qr (qv (txs L)).length);have hpk:(plcL (txs L)).length*qr (qv (txs L)).length≤262144*27:=Nat.mul_le_mul Oo hwd;obtain ⟨Ap,cq,rfl,hcq,hAp⟩:=id hbp;obtain ⟨pk,epk⟩:∃ pk,pk=qcv (plcL (txs L)) (qr (qv (txs L)).length):=⟨_,rfl⟩
    obtain ⟨pr,epr⟩:∃ pr,pr=(plcL (txs L)).length*qr (qv (txs L)).length:=⟨_,rfl⟩
    rw [← epk] at hAp hpkl hcq;rw [← epr] at hpkl hpk;have he6:=he4.trans hNp.ext;(conv=>whnf);refine zcv (qex 4611686018427387904 w6) ?_;rintro r w7 ⟨ob,rfl,he7,hob,hB7⟩;have hU:BufS w6 w7 ob 4611686018427387904 []:=BufS.new (Ext.refl w6) he7 hob hB7;refine zu ?_;have hlv1:=qab 9 i Oo;have hlv2:=qab 9 (qv (txs L)).length Oo;refine zcv (hU.step fun F hF=>qbp ob 4611686018427387904 _ i F w7 hF Oo Od Js) ?_;rintro r w8 ⟨rfl,hU⟩;refine zu ?_;refine zcv (hU.step fun F hF=>qbp ob 4611686018427387904 _ (qv (txs L)).length F w8 hF Oo Od (by rw [List.nil_append];omega)) ?_;rintro r w9 ⟨rfl,hU⟩;(conv=>whnf);rw [← epk];refine zcv (hU.step fun F hF=>qcw ob 4611686018427387904 _ pk F Ap pk.length cq w9 hF (hAp.ext hU.ext) rfl Od (by rw [List.nil_append,zla];omega)) ?_;rintro r w10 ⟨rfl,hU⟩;(conv=>whnf);refine zcv (hU.step fun F hF=>qcw ob 4611686018427387904 _ (qv (txs L)) F Av (qv (txs L)).length cv w10 hF (hAv.ext (hNp.ext.trans hU.ext)) rfl Od (by simp only [List.nil_append,zla];omega)) ?_;rintro r w11 ⟨rfl,hU⟩;have eD:[]++varL i++varL (qv (txs L)).length++pk++qv (txs L)=qh (txs L):=by rw [qh,hLl,← epk];simp only [List.nil_append,List.append_assoc]
    rw [eD] at hU;have hdl:=qn7 (L:=txs L) Oo hle;obtain ⟨F11,hSp11,hB11⟩:=hU.h;(conv=>whnf);refine zcv (qcn ob 4611686018427387904 _ F11 w11 hB11 Oo) ?_;rintro r w12 (⟨hbig,_⟩|⟨_,v2,rfl,hN2⟩)
    ·omega
    ·obtain ⟨A2,c2,ev2,_⟩:=id hN2.h;subst ev2;(conv=>whnf);exact .inr ⟨qsp hE hle,_,rfl,hN2.back (he6.trans hU.ext)⟩
 ·have h0:¬ ((chkD (txs L):Nat):Int)=0:=by omega
  refine zu ?_;exact .inl ⟨by rw [qso hE];exact hE,by rw [qso hE],he1⟩
open Go.RowKit Region
namespace V
structure ExtE (w w':World):Prop where
 ext:Ext w w'
 dr:w.drawn≤w'.drawn
theorem ExtE.refl (w:World):ExtE w w:=⟨Ext.refl w,Nat.le_refl _⟩
theorem ExtE.trans {a b c:World} (h:ExtE a b) (k:ExtE b c):ExtE a c:=⟨h.ext.trans k.ext,Nat.le_trans h.dr k.dr⟩
theorem ExtE.alloc {a w:World} (h:ExtE a w) (o:Obj):ExtE a (w.alloc o):=⟨h.ext.alloc o,h.dr⟩
theorem ExtE.drew (w:World):ExtE w w.drew:=⟨(Ext.refl w).drew,Nat.le_succ _⟩
structure StepE (A:(Value→World→Prop)→Prop) (K:Option Value→(Value→World→Prop)→Prop):Prop where
 h:(∃ v,A (fun u _=>u=v)∧K (some v) (fun u _=>u=v))∨(∃ φ:Value→World→Prop,(∀ v w w',φ v w→ExtE w w'→φ v w')∧A φ∧K none φ)
theorem StepE.still {A:(Value→World→Prop)→Prop} {K:Option Value→(Value→World→Prop)→Prop} (v:Value) (h:A (fun u _=>u=v)) (hk:K (some v) (fun u _=>u=v)):StepE A K:=⟨.inl ⟨v,h,hk⟩⟩
theorem StepE.of {A:(Value→World→Prop)→Prop} {K:Option Value→(Value→World→Prop)→Prop} (φ:Value→World→Prop) (hs:∀ v w w',φ v w→ExtE w w'→φ v w') (h:A φ) (hk:K none φ):StepE A K:=⟨.inr ⟨φ,hs,h,hk⟩⟩
def regE (P:Program) (ops:List Oper) (w0:World) (Q:(Nat→Value)→World→Prop):List Oper→Nat→List (Nat × Nat × (Value→World→Prop))→(Nat→Value)→Prop
 | [],_,es,ρ=>∀ w,ExtE w0 w→allA es (idxs es) ρ w fun ρ'=>Q ρ' w
 | o::l,k,es,ρ=>StepE
   (fun φ=>∀ w,ExtE w0 w→allA es (qt o) ρ w fun ρ'=>qaw P ops o ρ' w fun v w'=>ExtE w w'∧φ v w')
   (fun v φ=>regE P ops w0 Q l (k+1) (qo3 k φ es o.dst v) (updO ρ o.dst v))
structure EntOkE (e:Ent) (o:Oper):Prop where
 d:e.d=o.dst
 st:∀ v w w',e.φ v w→ExtE w w'→e.φ v w'
 v:∀ x,e.v=some x→∀ u w,e.φ u w→u=x
section
variable {P:Program} {n:Nat} {ops:List Oper} {w0:World}
theorem q2u {Q:(Nat→Value)→World→Prop} (l:List Oper):∀ (es:List (Nat × Nat × (Value→World→Prop))) (F:List Ent) (ρ0:Nat→Value),Agree es F→regE P ops w0 Q l F.length es (sfr F ρ0)→
  ∃ E:List Ent,E.length=l.length∧(∀ i o e,l[i]?=some o→E[i]?=some e→EntOkE e o∧
   ∀ w,ExtE w0 w→allv (F++E.take i) (qt o) (sfr (F++E.take i) ρ0) w fun ρ'=>qaw P ops o ρ' w fun v w'=>ExtE w w'∧e.φ v w')∧
   ∃ ks:List Nat,(∀ k d φ,getL (F++E) k=some ⟨some d,none,φ⟩→k∈ks)∧∀ w,ExtE w0 w→allv (F++E) ks (sfr (F++E) ρ0) w fun ρ'=>Q ρ' w:=by
 induction l with
 | nil=>
  intro es F ρ0 hA h;refine ⟨[],rfl,fun i o e hi=>by simp at hi,idxs es,?_,?_⟩
  ·intro k d φ hk;rw [List.append_nil] at hk;have:=hA k;rw [hk] at this;exact qtc this
  ·intro w hw;rw [List.append_nil];exact qlu hA _ _ (h w hw)
 | cons o l ih=>
  intro es F ρ0 hAg h;have key:∀ (v:Option Value) (φ:Value→World→Prop),EntOkE ⟨o.dst,v,φ⟩ o→
    (∀ w,ExtE w0 w→allA es (qt o) (sfr F ρ0) w fun ρ'=>qaw P ops o ρ' w fun v w'=>ExtE w w'∧φ v w')→
    regE P ops w0 Q l (F.length+1) (qo3 F.length φ es o.dst v) (updO (sfr F ρ0) o.dst v)→
    ∃ E:List Ent,E.length=(o::l).length∧(∀ i o' e,(o::l)[i]?=some o'→E[i]?=some e→EntOkE e o'∧
     ∀ w,ExtE w0 w→allv (F++E.take i) (qt o') (sfr (F++E.take i) ρ0) w fun ρ'=>qaw P ops o' ρ' w fun v w'=>ExtE w w'∧e.φ v w')∧
     ∃ ks:List Nat,(∀ k d φ,getL (F++E) k=some ⟨some d,none,φ⟩→k∈ks)∧∀ w,ExtE w0 w→allv (F++E) ks (sfr (F++E) ρ0) w fun ρ'=>Q ρ' w:=fun v φ hok hA hK=>by
   have e1:updO (sfr F ρ0) o.dst v=sfr (F++[⟨o.dst,v,φ⟩]) ρ0:=by rw [qdi];rfl
   have e2:F.length+1=(F++[(⟨o.dst,v,φ⟩:Ent)]).length:=by simp
   rw [e1,e2] at hK;obtain ⟨E,h1,h2,ks,h3,h4⟩:=ih _ _ ρ0 (hAg.push o.dst v φ) hK;refine ⟨⟨o.dst,v,φ⟩::E,by simp [h1],fun i o' e hi he=>?_,ks,by simpa using h3,by simpa using h4⟩;cases i with
   | zero=>
    simp at hi he;subst hi he;refine ⟨hok,fun w hw=>?_⟩;rw [List.take_zero,List.append_nil];exact qlu hAg _ _ (hA w hw)
   | succ i=>
    simp at hi he;obtain ⟨k1,k2⟩:=h2 i o' e hi he;exact ⟨k1,by simpa using k2⟩
  obtain ⟨v,hA,hK⟩|⟨φ,hs,hA,hK⟩:=h.h
  ·exact key (some v) _ ⟨rfl,fun _ _ _ h _=>h,fun x hx u w hu=>by cases hx;exact hu⟩ hA hK
  ·exact key none φ ⟨rfl,hs,fun x hx=>by cases hx⟩ hA hK
end
structure InvE (n:Nat) (E:List Ent) (w0:World) (ρ:Nat→Value) (listed:Array Bool) (vals:Nat→Value) (ρa:Nat→Value) (a:Act) (w:World):Prop where
 ext:ExtE w0 w
 st:St n ρa a
 φ:∀ k,listed.getD k false=true→∀ e,E[k]?=some e→e.φ (vals k) w
 at_:∀ k,listed.getD k false=true→∀ e d,E[k]?=some e→e.d=some d→ρa d=vals k
 miss:∀ t,(∀ k,listed.getD k false=true→∀ e,E[k]?=some e→e.d≠some t)→ρa t=ρ t
section
variable {P:Program} {n:Nat} {ops:Array Oper} {w0:World} {E:List Ent} {ρ:Nat→Value}
theorem qoi (hd:∀ (i:Nat) (o:Oper) (e:Ent),ops[i]?=some o→E[i]?=some e→EntOkE e o) (hl:E.length=ops.size) (hS:ShapeP n ops) {listed:Array Bool} {vals ρa:Nat→Value} {a:Act} {w:World} (I:InvE n E w0 ρ listed vals ρa a w)
  (i:Nat) (ks:List Nat) (t:Nat) (h1:∀ (k:Nat) (e:Ent),E[k]?=some e→e.d=some t→k<i→listed.getD k false=true∧(e.v=none→k∈ks)) (h2:∀ (k:Nat) (e:Ent),E[k]?=some e→e.d=some t→listed.getD k false=true→k<i) :
  fr (E.take i) vals ks (sfr (E.take i) ρ) t=ρa t:=by
 have op_of:∀ (k:Nat) (e:Ent),E[k]?=some e→∃ o,ops[k]?=some o∧EntOkE e o:=fun k e hk=>by
  have hlt:k<ops.size:=by
   rw [← hl]
   rcases Nat.lt_or_ge k E.length with h|h
   ·exact h
   ·rw [List.getElem?_eq_none h] at hk;cases hk
  exact ⟨ops[k],Array.getElem?_eq_getElem hlt,hd k _ e (Array.getElem?_eq_getElem hlt) hk⟩
 have uniq:∀ (k k':Nat) (e e':Ent),E[k]?=some e→E[k']?=some e'→e.d=some t→e'.d=some t→k'=k:=fun k k' e e' hk hk' hd1 hd2=>by
  obtain ⟨o,ho,hok⟩:=op_of k e hk;obtain ⟨o',ho',hok'⟩:=op_of k' e' hk';exact hS.uniq k o k' o' t ho ho' (hok'.d ▸ hd2) (hok.d ▸ hd1)
 have inE:∀ (k:Nat) (e:Ent),getL (E.take i) k=some e→E[k]?=some e∧k<i:=fun k e hk=>by
  rw [qi,List.getElem?_take] at hk
  split at hk
  ·exact ⟨hk,by assumption⟩
  ·cases hk
 by_cases hex:∃ (k:Nat) (e:Ent),E[k]?=some e∧e.d=some t∧k<i
 ·obtain ⟨k,e,hk,hdt,hki⟩:=hex;obtain ⟨hlis,hks⟩:=h1 k e hk hdt hki;obtain ⟨o,ho,hok⟩:=op_of k e hk;have hra:=I.at_ k hlis e t hk hdt;have hmem:e∈E.take i:=zmg (i:=k) (by rw [List.getElem?_take,if_pos hki];exact hk);have huE:∀ e'∈E.take i,e'.d=some t→e'=e:=fun e' he' hd'=>by
   obtain ⟨k',hk'⟩:=List.mem_iff_getElem?.1 he';have hk'':=(inE k' e' (by rw [qi];exact hk')).1;have:=uniq k k' e e' hk hk'' hdt hd';subst this;rw [hk] at hk'';exact (Option.some.inj hk'').symm
  cases hv:e.v with
  | some x=>
   have hx:vals k=x:=hok.v x hv _ _ (I.φ k hlis e hk);rw [qhh,qrf _ _ (fun e' he' hd'=>by rw [huE e' he' hd'];exact hv) (.inr ⟨e,hmem,hdt⟩),hra,hx];intro k' _ φ hk';have:=huE _ (zmg (i:=k') (by rw [qi] at hk';exact hk')) rfl;rw [← this] at hv;cases hv
  | none=>
   obtain ⟨ed,ev,eφ⟩:=e;simp only at hdt hv;subst hdt hv;rw [qxv (k0:=k) rfl (fun k' φ hk'=>?_) _ _ (.inr ⟨hks rfl,eφ,by rw [qi,List.getElem?_take,if_pos hki];exact hk⟩),hra];exact uniq k k' _ _ hk (inE k' _ hk').1 rfl rfl
 ·have hno:∀ k e,E[k]?=some e→k<i→e.d≠some t:=fun k e hk hki hd=>hex ⟨k,e,hk,hd,hki⟩
  rw [qhh,qni]
  ·refine (I.miss t fun k hk e he hd=>?_).symm;exact hno k e he (h2 k e he hd hk) hd
  ·intro e he hd;obtain ⟨k',hk'⟩:=List.mem_iff_getElem?.1 he;obtain ⟨h3,h4⟩:=inE k' e (by rw [qi];exact hk');exact absurd hd (hno k' e h3 h4)
  ·intro k' _ φ hk';obtain ⟨h3,h4⟩:=inE k' _ hk';exact hno k' _ h3 h4 rfl
theorem qr1 {Q:(Nat→Value)→World→Prop} {Q':Exit→Act→World→Prop} (hQ:∀ ρ a w,St n ρ a→Q ρ w→Q' .normal a w) (hS:ShapeP n ops) (hl:E.length=ops.size)
  (hE:∀ (i:Nat) (o:Oper) (e:Ent),ops[i]?=some o→E[i]?=some e→EntOkE e o∧
   ∀ w,ExtE w0 w→allv (E.take i) (qt o) (sfr (E.take i) ρ) w fun ρ'=>qaw P ops.toList o ρ' w fun v w'=>ExtE w w'∧e.φ v w')
  (hF:∃ ks:List Nat,(∀ k d φ,getL E k=some ⟨some d,none,φ⟩→k∈ks)∧∀ w,ExtE w0 w→allv E ks (sfr E ρ) w fun ρ'=>Q ρ' w) :
  ∀ (fuel:Nat) (listed:Array Bool) (vals ρa:Nat→Value) (a:Act) (w:World),listed.size=ops.size→listed.toList.count false≤fuel→InvE n E w0 ρ listed vals ρa a w→wpAny P .any ops Q' fuel listed a w:=by
 obtain ⟨ks,hks,hF⟩:=hF;have hd:∀ (i:Nat) (o:Oper) (e:Ent),ops[i]?=some o→E[i]?=some e→EntOkE e o:=fun i o e h1 h2=>(hE i o e h1 h2).1
 have hlt:∀ (k:Nat) (e:Ent),E[k]?=some e→k<ops.size:=fun k e hk=>by
  rw [← hl]
  rcases Nat.lt_or_ge k E.length with h|h
  ·exact h
  ·rw [List.getElem?_eq_none h] at hk;cases hk
 have final:∀ (listed:Array Bool) (vals ρa:Nat→Value) (a:Act) (w:World),(∀ k,k<ops.size→listed.getD k false=true)→InvE n E w0 ρ listed vals ρa a w→Q' .normal a w:=fun listed vals ρa a w hall I=>by
  have h:=qlv (vals:=vals) _ _ (fun k _ e hk=>by
   rw [qi] at hk;exact I.φ k (hall k (hlt k e hk)) e hk) (hF w I.ext)
  have he:fr E vals ks (sfr E ρ)=ρa:=by
   funext t
   have:=qoi hd hl hS I E.length ks t (fun k e hk hdt hki=>⟨hall k (hlt k e hk),fun hv=>hks k t e.φ (by
    obtain ⟨ed,ev,eφ⟩:=e;simp only at hdt hv;subst hdt hv;rw [qi];exact hk)⟩) (fun k e hk _ _=>by rw [hl];exact hlt k e hk)
   rwa [List.take_length] at this
  rw [he] at h;exact hQ _ _ _ I.st h
 have nodone:∀ (listed:Array Bool),listed.size=ops.size→Region.ready .any ops listed=[]→∀ k,k<ops.size→listed.getD k false=true:=fun listed hsz hr k hk=>by
  induction k using Nat.strongRecOn with
  | _ k ih=>
   cases hv:listed.getD k false with
   | true=>rfl
   | false=>
    exfalso
    have hmem:k∈Region.ready .any ops listed:=by
     refine mem_ready.2 ⟨?_,ops[k],Array.getElem?_eq_getElem hk,fun e he hb=>?_⟩
     ·have:k<listed.size:=by omega
      simp [this] at hv ⊢;exact hv
     ·rw [qb7] at hb;have hp:e.on∈qt ops[k]:=qa1.2 ⟨e,by simpa using he,hb,rfl⟩;have h1:=hS.lt k _ (Array.getElem?_eq_getElem hk) _ hp;exact ih _ h1 Oo
    rw [hr] at hmem;cases hmem
 intro fuel
 induction fuel with
 | zero=>
  intro listed vals ρa a w hsz hc I;have hall:∀ k,k<ops.size→listed.getD k false=true:=fun k hk=>by
   have h0:listed.toList.count false=0:=by omega
   have h1:=List.count_eq_zero.1 h0;have hk':k<listed.size:=by omega
   cases hv:listed[k] with
   | true=>simp [hk',hv]
   | false=>exact absurd (by rw [← hv];exact Array.mem_toList_iff.2 (Array.getElem_mem hk')) h1
  refine ⟨?_,final listed vals ρa a w hall I⟩;rw [List.eq_nil_iff_forall_not_mem];intro j hj;obtain ⟨h1,o,ho,_⟩:=mem_ready.1 hj;have h2:=hall j (Array.getElem?_eq_some_iff.1 ho).1;have hk':j<listed.size:=by have:=(Array.getElem?_eq_some_iff.1 ho).1;omega
  simp [hk'] at h1 h2;rw [h1] at h2;cases h2
 | succ fuel ih=>
  intro listed vals ρa a w hsz hc I;refine ⟨fun hr=>final listed vals ρa a w (nodone listed hsz hr) I,fun i hi=>?_⟩;obtain ⟨hun,o,ho,hall⟩:=mem_ready.1 hi;have hio:i<ops.size:=(Array.getElem?_eq_some_iff.1 ho).1;have hiE:i<E.length:=by omega
  obtain ⟨hok,hspec⟩:=hE i o E[i] ho (zge hiE);have hpl:∀ k∈qt o,listed.getD k false=true:=fun k hk=>by
   obtain ⟨e,he,hb,hon⟩:=qa1.1 hk;rw [← hon];exact hall e (by simpa using he) (by rw [qb7];exact hb)
  have h:=qlv (vals:=vals) _ _ (fun k hk e he=>by
   rw [qi,List.getElem?_take,if_pos (hS.lt i o ho k hk)] at he;exact I.φ k (hpl k hk) e he) (hspec w I.ext)
  have hag:∀ t∈o.looksAt ops,fr (E.take i) vals (qt o) (sfr (E.take i) ρ) t=ρa t:=fun t ht=>by
   have hp:∀ (k:Nat) (e:Ent),E[k]?=some e→e.d=some t→k∈qt o:=fun k e hk hdt=>by
    have hk':=hlt k e hk;exact hS.look i o k ops[k] t ho (Array.getElem?_eq_getElem hk') ((hd k _ e (Array.getElem?_eq_getElem hk') hk).d ▸ hdt) ht
   exact qoi hd hl hS I i (qt o) t (fun k e hk hdt _=>⟨hpl k (hp k e hk hdt),fun _=>hp k e hk hdt⟩) (fun k e hk hdt _=>hS.lt i o ho k (hp k e hk hdt))
  refine qde ho hS I.st hag h fun v w' ⟨hx,hφ⟩=>?_;have hgd:∀ k,(listed.setIfInBounds i true).getD k false=true→k=i∨(k≠i∧listed.getD k false=true):=fun k hk=>by
   by_cases hki:k=i
   ·exact .inl hki
   ·rw [getD_set_ne false (fun e=>hki e.symm)] at hk;exact .inr ⟨hki,hk⟩
  have hnl:listed.getD i false=false:=by
   have:i<listed.size:=by omega
   simp [this] at hun ⊢;exact hun
  refine ih _ (fun k=>if k=i then v else vals k) (match o.dst with|some d=>upd ρa d v|none=>ρa) _ _ (by simp [hsz]) (by have:=qco listed i hun;omega) ⟨I.ext.trans hx,?_,?_,?_,?_⟩
  ·cases hdd:o.dst with
   | none=>exact I.st
   | some d=>exact I.st.put (hS.dn i o ho d hdd) v
  ·intro k hk e he
   rcases hgd k hk with rfl|⟨hki,hk⟩
   ·rw [zge hiE] at he;cases he
    simpa using hφ
   ·simp only [if_neg hki];have hk':=hlt k e he;exact (hd k _ e (Array.getElem?_eq_getElem hk') he).st _ _ _ (I.φ k hk e he) hx
  ·intro k hk e d he hdd
   rcases hgd k hk with rfl|⟨hki,hk⟩
   ·rw [zge hiE] at he;cases he;rw [hok.d] at hdd;simp [hdd,qd5]
   ·simp only [if_neg hki];have hk':=hlt k e he;have hd2:=(hd k _ e (Array.getElem?_eq_getElem hk') he).d;cases ho2:o.dst with
    | none=>exact I.at_ k hk e d he hdd
    | some d2=>
     have hne:d≠d2:=by
      rintro rfl;exact hki (hS.uniq i o k _ d ho (Array.getElem?_eq_getElem hk') (hd2 ▸ hdd) ho2)
     simp only;rw [qam _ _ _ _ hne];exact I.at_ k hk e d he hdd
  ·intro t ht;have h1:ρa t=ρ t:=I.miss t fun k hk e he=>ht k (by
    by_cases hki:k=i
    ·subst hki;rw [hnl] at hk;cases hk
    ·rw [getD_set_ne false (fun e=>hki e.symm)];exact hk) e he
   cases ho2:o.dst with
   | none=>exact h1
   | some d2=>
    have hne:t≠d2:=by
     rintro rfl;refine ht i ?_ E[i] (zge hiE) (by rw [hok.d,ho2]);have:i<listed.size:=by omega
     simp [this]
    simp only;rw [qam _ _ _ _ hne];exact h1
end
theorem DrawV.freeE {P:Program} {n id:Nat} {ops:Array Oper} {Q:Exit→(Nat→Value)→World→Prop} {ρ:Nat→Value} {w:World} (hm:P.follows .mixedOrders=true) (hB:qj1 n ops=true)
  (h:regE P ops.toList w.drew (fun ρ' w'=>Q .normal ρ' w') ops.toList 0 [] ρ):DrawV P n id ops Q ρ w:=by
 refine ⟨fun a ha=>wp_region_any hm ?_⟩;obtain ⟨E,h1,h2,h3⟩:=q2u ops.toList [] [] ρ (fun k=>rfl) h;refine qr1 (Q:=fun ρ' w'=>Q .normal ρ' w') (E:=E) (w0:=w.drew) (ρ:=ρ) (fun ρ a w h1 h2=>⟨ρ,h1,h2⟩) (qes hB) (by simpa using h1) (fun i o e ho he=>?_) (by simpa using h3) _ _ (fun _=>undef) ρ a _ Js Js ⟨ExtE.refl _,ha,?_,?_,fun t _=>rfl⟩
 ·have:=h2 i o e (by simpa using ho) he
  simpa using this
 ·intro k hk;rw [qd] at hk;cases hk
 ·intro k hk;rw [qd] at hk;cases hk
end V
end Go.Proofs.YtkienlambankeaaGreatDoor
namespace Go.Proofs
open YtkienlambankeaaGreatDoor YtkienlambankeaaGreatDoor.V
open Go.Shelf
def Tryz.srt_ren:Go.Shelf.Ren:=⟨fun|6=>175|15=>212|14=>211|28=>257|29=>126|20=>249|21=>250|22=>251|23=>252|24=>253|25=>254|26=>255|27=>256|46=>300|47=>301|48=>302|49=>303|50=>304|57=>319|n=>n,fun|22=>87|24=>66|25=>163|3=>3|39=>102|0=>0|53=>45|55=>51|4=>4|46=>339|45=>338|50=>133|5=>5|9=>9|66=>365|70=>368|76=>384|77=>155|n=>n,fun|n=>n⟩
theorem Tryz.srt:Go.Proofs.SlLaysF0.n6 Tryz.prog Tryz.srt_ren:={
 mixed:=by kernel_rfl
 f6:=⟨Tryz.f175.name,by decide,Tryz.func175.trans (congrArg some Ok)⟩
 f14:=⟨Tryz.f211.name,by decide,Tryz.func211.trans (congrArg some Ok)⟩
 f15:=Tryz.func212.trans (congrArg some Ok)
 f20:=⟨Tryz.f249.name,by decide,Tryz.func249.trans (congrArg some Ok)⟩
 f21:=⟨Tryz.f250.name,by decide,Tryz.func250.trans (congrArg some Ok)⟩
 f22:=⟨Tryz.f251.name,by decide,Tryz.func251.trans (congrArg some Ok)⟩
 f23:=⟨Tryz.f252.name,by decide,Tryz.func252.trans (congrArg some Ok)⟩
 f24:=⟨Tryz.f253.name,by decide,Tryz.func253.trans (congrArg some Ok)⟩
 f25:=⟨Tryz.f254.name,by decide,Tryz.func254.trans (congrArg some Ok)⟩
 f26:=⟨Tryz.f255.name,by decide,Tryz.func255.trans (congrArg some Ok)⟩
 f27:=⟨Tryz.f256.name,by decide,Tryz.func256.trans (congrArg some Ok)⟩
 f28:=Tryz.func257.trans (congrArg some Ok)
 f29:=Tryz.func126.trans (congrArg some Ok)
 f46:=⟨Tryz.f300.name,by decide,Tryz.func300.trans (congrArg some Ok)⟩
 f47:=Tryz.func301.trans (congrArg some Ok)
 f48:=Tryz.func302.trans (congrArg some Ok)
 f49:=⟨Tryz.f303.name,by decide,Tryz.func303.trans (congrArg some Ok)⟩
 f50:=⟨Tryz.f304.name,by decide,Tryz.func304.trans (congrArg some Ok)⟩
 f57:=⟨Tryz.f319.name,by decide,Tryz.func319.trans (congrArg some Ok)⟩
 t0:=Tryz.underlying0
 a0:=Tryz.isAgg0
 z0:=Tryz.sizeOf0
 v0:=Tryz.zeroValue0
 t3:=Tryz.underlying3
 a3:=Tryz.isAgg3
 z3:=Tryz.sizeOf3
 v3:=Tryz.zeroValue3
 t4:=Tryz.underlying4
 a4:=Tryz.isAgg4
 z4:=Tryz.sizeOf4
 v4:=Tryz.zeroValue4
 t5:=Tryz.underlying5
 a5:=Tryz.isAgg5
 z5:=Tryz.sizeOf5
 v5:=Tryz.zeroValue5
 t9:=Tryz.underlying9
 a9:=Tryz.isAgg9
 z9:=Tryz.sizeOf9
 v9:=Tryz.zeroValue9
 t22:=Tryz.underlying87
 a22:=Tryz.isAgg87
 z22:=Tryz.sizeOf87
 v22:=Tryz.zeroValue87
 t25:=Tryz.underlying163
 a25:=Tryz.isAgg163
 z25:=Tryz.sizeOf163
 v25:=Tryz.zeroValue163
 t39:=Tryz.underlying102
 a39:=Tryz.isAgg102
 z39:=Tryz.sizeOf102
 v39:=Tryz.zeroValue102
 t45:=Tryz.underlying338
 a45:=Tryz.isAgg338
 z45:=Tryz.sizeOf338
 v45:=Tryz.zeroValue338
 t46:=Tryz.underlying339
 a46:=Tryz.isAgg339
 z46:=Tryz.sizeOf339
 v46:=Tryz.zeroValue339
 t50:=Tryz.underlying133
 a50:=Tryz.isAgg133
 z50:=Tryz.sizeOf133
 v50:=Tryz.zeroValue133
 t53:=Tryz.underlying45
 a53:=Tryz.isAgg45
 z53:=Tryz.sizeOf45
 v53:=Tryz.zeroValue45
 t55:=Tryz.underlying51
 a55:=Tryz.isAgg51
 z55:=Tryz.sizeOf51
 v55:=Tryz.zeroValue51
 t66:=Tryz.underlying365
 a66:=Tryz.isAgg365
 z66:=Tryz.sizeOf365
 v66:=Tryz.zeroValue365
 t70:=Tryz.underlying368
 a70:=Tryz.isAgg368
 z70:=Tryz.sizeOf368
 v70:=Tryz.zeroValue368
 t76:=Tryz.underlying384
 a76:=Tryz.isAgg384
 z76:=Tryz.sizeOf384
 v76:=Tryz.zeroValue384
 t77:=Tryz.underlying155
 a77:=Tryz.isAgg155
 z77:=Tryz.sizeOf155
 v77:=Tryz.zeroValue155 }
end Go.Proofs
namespace Go.Proofs.YtkienlambankeaaGreatDoor
open Go.RowKit
namespace V
theorem ExtE.grow {w w':World} (h:ExtE w w'):∃ q os,w'=Sort.grow (w.drewN q) os:=by
 refine ⟨w'.drawn-w.drawn,(w'.heap.toList.drop w.heap.size).toArray,?_⟩;have hh:w'.heap=w.heap++(w'.heap.toList.drop w.heap.size).toArray:=by
  rw [← Array.toList_inj,Array.toList_append];conv=>lhs;rw [← List.take_append_drop w.heap.size w'.heap.toList]
  congr 1
  apply List.ext_getElem?;intro k;rw [List.getElem?_take]
  by_cases hk:k<w.heap.size
  ·rw [if_pos hk];have:=h.ext.block k hk
   simpa using this
  ·rw [if_neg hk,List.getElem?_eq_none (by simpa using hk)]
 have hd:=h.dr;obtain ⟨h1,h2,h3,h4,h5⟩:=w';obtain ⟨e1,e2,e3,e4,e5⟩:=h.ext;simp only [Sort.grow,World.drewN] at *;subst e1 e2 e3;rw [← hh]
 congr 1
 omega
section
variable {α:Type} [Inhabited α] {enc:α→List Value} {k:Nat}
theorem qk1 (henc:∀ x,(enc x).length=k) (hk:0<k) (Y:List α):(Sort.flatK enc k Y.toArray).toList=(Y.map enc).flatten:=by
 apply List.ext_getElem?;intro t
 by_cases ht:t<Y.length*k
 ·have hj:t/k<Y.length:=Nat.div_lt_of_lt_mul (by rw [Nat.mul_comm];exact ht);have hm:t%k<k:=Nat.mod_lt _ hk;have e:t/k*k+t%k=t:=Nat.div_add_mod' t k;have h1:=qcp enc k henc Y (t/k) Y[t/k] (t%k) (zge hj) hm;rw [e] at h1;have h2:t<(Sort.flatK enc k Y.toArray).size:=by simpa using ht
  have h3:=Sort.get_flatK enc k Y.toArray t (by simpa using ht);have h4:(enc Y[t/k])[t%k]?=some ((enc Y[t/k])[t%k]!):=by
   rw [zge (by rw [henc];exact hm),getElem!_pos _ _ (by rw [henc];exact hm)]
  rw [getElem!_pos _ t h2,getElem!_pos Y.toArray (t/k) (by simpa using hj)] at h3;rw [h1,h4,Array.getElem?_toList,Array.getElem?_eq_getElem h2,h3];simp only [List.getElem_toArray]
 ·rw [List.getElem?_eq_none (by simpa using ht),List.getElem?_eq_none (by rw [qav enc k henc];omega)]
theorem qzv (henc:∀ x,(enc x).length=k) (hk:0<k) {w:World} {g:Nat} {cur:Array Value} {e:TypeId} {Y:List α} (hg:w.heap[g]?=some (.cells cur e)) (ht:cur.toList.take (Y.length*k)=(Y.map enc).flatten):Sort.HoldsK enc k w g 0 Y.toArray:=by
 intro j hj;refine ⟨?_,by simp [World.frozen?,hg]⟩;rw [qa hg,Nat.zero_add,getElem!_pos _ j hj];have hj':j<Y.length*k:=by simpa using hj
 have h1:(cur.toList.take (Y.length*k))[j]?=(Sort.flatK enc k Y.toArray).toList[j]?:=by rw [ht,qk1 henc hk]
 rw [List.getElem?_take,if_pos hj',Array.getElem?_toList,Array.getElem?_toList,Array.getElem?_eq_getElem hj] at h1;exact h1
theorem qnl (w:World) (g m:Nat) (d:Array α) (os:Array Obj) (_hlt:g<w.heap.size):Chn [g] w (sortWorldK enc k w g 0 m d os):=by
 refine ⟨rfl,rfl,rfl,?_,fun b hb hn=>?_⟩
 ·simp [sortWorldK,Sort.grow,Sort.putRowK,Sort.putRow,Sort.mapBlock,Sort.ahead]
 ·have hne:g≠b:=fun e=>hn (by rw [e];exact List.mem_singleton.2 rfl)
  simp only [sortWorldK,Sort.grow,Sort.putRowK,Sort.putRow,Sort.mapBlock,Sort.ahead];rw [Array.getElem?_append_left (by simpa using hb),Array.getElem?_modify,if_neg hne]
theorem qnm (henc:∀ x,(enc x).length=k) (hk:0<k) {w:World} {g m:Nat} {cur:Array Value} {e:TypeId} {d:Array α} {os:Array Obj} (hg:w.heap[g]?=some (.cells cur e)) (hc:d.size*k≤cur.size) :
  ∃ cur',(sortWorldK enc k w g 0 m d os).heap[g]?=some (.cells cur' e)∧cur'.size=cur.size∧cur'.toList.take (d.size*k)=(d.toList.map enc).flatten:=by
 have hlt:=qa2 hg;refine ⟨Sort.putCells id 0 (Sort.flatK enc k d) cur,?_,by simp [Sort.putCells],?_⟩
 ·simp only [sortWorldK,Sort.grow,Sort.putRowK,Sort.putRow,Sort.mapBlock,Sort.ahead];rw [Array.getElem?_append_left (by simpa using hlt),Array.getElem?_modify,if_pos rfl,hg];rfl
 ·have hf:=qk1 henc hk d.toList;have e1:d.toList.toArray=d:=by simp
  rw [e1] at hf;rw [← hf];apply List.ext_getElem?;intro j;rw [List.getElem?_take]
  by_cases hj:j<d.size*k
  ·have h2:j<(Sort.flatK enc k d).size:=by simpa using hj
   rw [if_pos hj,Array.getElem?_toList,Array.getElem?_toList,Array.getElem?_eq_getElem h2];simp only [Sort.putCells,Array.getElem?_mapIdx,Array.getElem?_eq_getElem (show j<cur.size by omega),Option.map_some];rw [if_pos ⟨Nat.zero_le _,by omega⟩,Nat.sub_zero,getElem!_pos _ j h2];rfl
  ·rw [if_neg hj,List.getElem?_eq_none (by simpa using hj)]
end
end V
open Go.RowKit V
set_option maxRecDepth 100000
def or4 (a b c d:Int):Int:=if a≠0 then a else if b≠0 then b else if c≠0 then c else d
def or4L (l:List Int):Int:=match l with
 | []=>0
 | a::l=>if a≠0 then a else or4L l
theorem q5z (a b c d:Int):or4L [a,b,c,d]=or4 a b c d:=by
 unfold or4;simp only [or4L]
 by_cases h:d≠0
 ·rw [if_pos h]
 ·rw [if_neg h,Classical.not_not.1 h]
theorem qqp (a b c d:Int) (nb:Nat) (w:World) (hb:w.heap[nb]?=some (.cells #[ii a,ii b,ii c,ii d] 3)) :
  Gv Tryz.prog 88 [.slice (some ⟨nb,0,none⟩) 4 4] w fun v w'=>v=ii (or4 a b c d)∧w'=w:=by
 have hat:∀ i (x:Int),[a,b,c,d][i]?=some x→w.cell? ⟨nb,i,none⟩=some (ii x):=fun i x hx=>by
  rw [qa hb]
  match i,hx with
  | 0,hx=>cases hx;rfl
  | 1,hx=>cases hx;rfl
  | 2,hx=>cases hx;rfl
  | 3,hx=>cases hx;rfl
  | _+4,hx=>cases hx
 refine ze Tryz.func88 Tryz.ntmps88 ?_;refine qe (fun i:Nat=>[(3,ii 0),(6,.slice (some ⟨nb,0,none⟩) 4 4),(7,ii 4),(8,ii i)]) (fun i w1=>i≤4∧or4 a b c d=or4L ([a,b,c,d].drop i)∧w1=w) (fun i=>4-i) 0 ⟨rfl,rfl,rfl,rfl,trivial⟩ ⟨by omega,(q5z a b c d).symm,rfl⟩ ?_;rintro i w1 ρ' ⟨h1,h2,rfl⟩;(conv=>whnf);refine zC (fun _=>zw ?_) (fun _=>zw ?_)
 ·have hi:i<[a,b,c,d].length:=by show i<4;omega
  have hd:[a,b,c,d].drop i=[a,b,c,d][i]::[a,b,c,d].drop (i+1):=List.drop_eq_getElem_cons hi;have hx:=hat i _ (zge hi);rw [hd,or4L] at h2;obtain ⟨x,ex⟩:∃ x,x=[a,b,c,d][i]:=⟨_,rfl⟩
  rw [← ex] at h2 hx;refine ElemV.own1 i rfl Oo (zw ?_);refine LoadV.of hx (zw ?_);refine zC (fun _=>zu ?_) (fun _=>zu ?_)
  ·rw [if_pos Oo] at h2;exact ⟨by rw [h2],rfl⟩
  ·rw [if_neg Oo] at h2;exact ⟨i+1,⟨rfl,rfl,rfl,rfl,trivial⟩,⟨by omega,h2,rfl⟩,by omega⟩
 ·obtain rfl:i=4:=by omega
  exact ⟨by rw [h2];rfl,rfl⟩
theorem qol (x:Int) (w:World):Gv Tryz.prog 202 [ii x] w fun v w'=>v=.bool false∧w'=w:=by
 refine ze Tryz.func202 Tryz.ntmps202 ?_;exact ⟨congrArg Value.bool (decide_eq_false (fun h=>h rfl)),rfl⟩
def intC (x y:Int):Int:=if x<y then -1 else if y<x then 1 else 0
theorem qg8 (x y:Int) (w:World):Gv Tryz.prog 153 [ii x,ii y] w fun v w'=>v=ii (intC x y)∧w'=w:=by
 refine ze Tryz.func153 Tryz.ntmps153 ?_;refine zcv (qol x w) ?_;rintro r w1 ⟨rfl,rfl⟩;(conv=>whnf);refine zcv (qol y w1) ?_;rintro r w2 ⟨rfl,rfl⟩;conv=>whnf
 (repeat' (first|refine zp ?_|refine zC (fun _=>zw ?_) (fun _=>zw ?_)))
 ·exact ⟨by rw [intC,if_pos Oo],rfl⟩
 ·exact ⟨by rw [intC,if_neg Oo,if_pos Oo],rfl⟩
 ·exact ⟨by rw [intC,if_neg Oo,if_neg Oo],rfl⟩
theorem q3k:∀ a b:LB,Lib.compareBytes a b=if a<b then -1 else if a=b then 0 else 1
 | [],[]=>rfl
 | [],_::_=>by rw [Lib.compareBytes,if_pos (List.nil_lt_cons _ _)]
 | _::_,[]=>by rw [Lib.compareBytes,if_neg (List.not_lt_nil _),if_neg Js]
 | x::a,y::b=>by
  rw [Lib.compareBytes]
  by_cases h1:x<y
  ·rw [if_pos h1,if_pos (List.cons_lt_cons_iff.2 (.inl h1))]
  ·rw [if_neg h1]
   by_cases h2:y<x
   ·rw [if_pos h2,if_neg (fun g=>(List.cons_lt_cons_iff.1 g).elim h1 fun e=>by rw [e.1] at h2;exact UInt8.lt_irrefl _ h2),if_neg (fun g=>by cases g;exact UInt8.lt_irrefl _ h2)]
   ·have e:x=y:=by
     rw [UInt8.lt_iff_toNat_lt] at h1 h2;exact UInt8.toNat_inj.1 Oo
    subst e;rw [if_neg h2,q3k a b]
    by_cases h3:a<b
    ·rw [if_pos h3,if_pos (List.cons_lt_cons_iff.2 (.inr ⟨rfl,h3⟩))]
    ·rw [if_neg h3,if_neg (fun g=>(List.cons_lt_cons_iff.1 g).elim h1 fun e=>h3 e.2)]
     by_cases h4:a=b
     ·rw [if_pos h4,if_pos (by rw [h4])]
     ·rw [if_neg h4,if_neg (fun g=>h4 (List.cons.inj g).2)]
theorem qe8 (a b:ByteArray) (w:World):Gv Tryz.prog 154 [.string a,.string b] w fun v w'=>v=ii (txtC a b)∧w'=w:=by
 refine qfg Ok ((Tryz.strings_Compare a b w).mono ?_);rintro e w' ⟨rfl,rfl⟩;refine ⟨_,rfl,congrArg (Value.int .i64) ?_,rfl⟩;rw [q3k,txtC]
 by_cases h1:a.data.toList<b.data.toList
 ·rw [if_pos h1,if_pos (qet.2 h1)]
 ·rw [if_neg h1,if_neg (fun g=>h1 (qet.1 g))]
  by_cases h2:a.data.toList=b.data.toList
  ·rw [if_pos h2,if_pos (qai.2 (qkr h2))]
  ·rw [if_neg h2,if_neg (fun g=>h2 (by rw [qai.1 g]))]
theorem qxa (a b:TM):or4 (intC a.kind b.kind) (txtC a.text b.text) (txtC a.type b.type) (txtC a.lang b.lang)=cmpT a b:=by
 by_cases h:a.kind≠b.kind
 ·by_cases h2:a.kind<b.kind
  ·have hI:intC a.kind b.kind=-1:=by rw [intC,if_pos h2]
   rw [hI,cmpT,if_pos h,if_pos h2];rfl
  ·have hI:intC a.kind b.kind=1:=by rw [intC,if_neg h2,if_pos Oo]
   rw [hI,cmpT,if_pos h,if_neg h2];rfl
 ·have hI:intC a.kind b.kind=0:=by rw [intC,if_neg Oo,if_neg Oo]
  rw [hI,cmpT,if_neg h];rfl
theorem qdr (a b:TM) (w:World):Gv Tryz.prog 89 [qa7 a,qa7 b] w fun r w'=>r=ii (cmpT a b)∧Ext w w':=by
 refine ze Tryz.func89 Tryz.ntmps89 ?_;refine znm (Mem.nil w) fun b1 w1 hm=>zw ?_;refine znm hm fun b2 w2 hm=>zw ?_;refine DrawV.free rfl Ok (zw ?_);refine zd ?_;refine zf ?_ (by intro wd hd;(conv=>whnf);refine LoadV.mem (Mem.call (Mem.drew hm) hd) (i:=1) rfl rfl ?_;(conv=>whnf);exact ⟨xr,rfl⟩);refine zd ?_;refine zf ?_ (by intro wd hd;(conv=>whnf);refine LoadV.mem (Mem.call (Mem.drew hm) hd) (i:=0) rfl rfl ?_;(conv=>whnf);exact ⟨xr,rfl⟩);apply zsd
 ·intro wd hd;(conv=>whnf);refine zcv (qg8 a.kind b.kind wd) ?_;rintro v w7 ⟨rfl,rfl⟩;exact ⟨xr,rfl⟩
 (conv=>whnf);refine zd ?_;refine zf ?_ (by intro wd hd;(conv=>whnf);refine LoadV.mem (Mem.call (Mem.drew hm) hd) (i:=1) rfl rfl ?_;(conv=>whnf);exact ⟨xr,rfl⟩);refine zd ?_;refine zf ?_ (by intro wd hd;(conv=>whnf);refine LoadV.mem (Mem.call (Mem.drew hm) hd) (i:=0) rfl rfl ?_;(conv=>whnf);exact ⟨xr,rfl⟩);apply zsd
 ·intro wd hd;(conv=>whnf);refine zcv (qe8 a.text b.text wd) ?_;rintro v w7 ⟨rfl,rfl⟩;exact ⟨xr,rfl⟩
 (conv=>whnf);refine zd ?_;refine zf ?_ (by intro wd hd;(conv=>whnf);refine LoadV.mem (Mem.call (Mem.drew hm) hd) (i:=1) rfl rfl ?_;(conv=>whnf);exact ⟨xr,rfl⟩);refine zd ?_;refine zf ?_ (by intro wd hd;(conv=>whnf);refine LoadV.mem (Mem.call (Mem.drew hm) hd) (i:=0) rfl rfl ?_;(conv=>whnf);exact ⟨xr,rfl⟩);apply zsd
 ·intro wd hd;(conv=>whnf);refine zcv (qe8 a.type b.type wd) ?_;rintro v w7 ⟨rfl,rfl⟩;exact ⟨xr,rfl⟩
 (conv=>whnf);refine zd ?_;refine zf ?_ (by intro wd hd;(conv=>whnf);refine LoadV.mem (Mem.call (Mem.drew hm) hd) (i:=1) rfl rfl ?_;(conv=>whnf);exact ⟨xr,rfl⟩);refine zd ?_;refine zf ?_ (by intro wd hd;(conv=>whnf);refine LoadV.mem (Mem.call (Mem.drew hm) hd) (i:=0) rfl rfl ?_;(conv=>whnf);exact ⟨xr,rfl⟩);apply zsd
 ·intro wd hd;(conv=>whnf);refine zcv (qe8 a.lang b.lang wd) ?_;rintro v w7 ⟨rfl,rfl⟩;exact ⟨xr,rfl⟩
 (conv=>whnf);apply StepD.of (fun v wx=>∃ nb,v=.slice (some ⟨nb,0,none⟩) 4 4∧wx.heap[nb]?=some (.cells #[ii (intC a.kind b.kind),ii (txtC a.text b.text),ii (txtC a.type b.type),ii (txtC a.lang b.lang)] 3)) (fun _ _ _ h he=>let ⟨nb,h1,h2⟩:=h;⟨nb,h1,he.get h2⟩)
 ·intro wd hd;(conv=>whnf);refine ⟨fun nb wx hb hw=>?_⟩;subst hb hw;(conv=>whnf);exact ⟨(Ext.refl wd).alloc _,_,rfl,heap_alloc_new wd _⟩
 (conv=>whnf);apply zsd
 ·intro wd hd;(conv=>whnf);rintro v ⟨nb,rfl,hn⟩;(conv=>whnf);refine zcv (qqp _ _ _ _ nb wd hn) ?_;rintro v w7 ⟨rfl,rfl⟩;rw [qxa];exact ⟨xr,rfl⟩
 (conv=>whnf);refine zd ?_;intro wd hd;conv=>whnf
 (repeat (intro _ _;(conv=>whnf)))
 exact ⟨rfl,(hm.drew.call hd).ext⟩
def tmA (X:List TM) (i:Nat):TM:=X.getD i zTM
theorem qj8 {X:List TM} {i:Nat} (h:i<X.length):tmA X i=X[i]:=by rw [tmA,List.getD_eq_getElem?_getD,zge h];rfl
def unqN (X:List TM):Nat→List TM
 | 0=>[]
 | p+1=>if 0<p∧qao (tmA X p) (tmA X (p-1))=true then unqN X p else unqN X p++[tmA X p]
theorem qpt {X:List TM} {p:Nat} (h0:0<p) (h:qao (tmA X p) (tmA X (p-1))=true):unqN X (p+1)=unqN X p:=by rw [unqN,if_pos ⟨h0,h⟩]
theorem qt8 {X:List TM} {p:Nat} (h:qao (tmA X p) (tmA X (p-1))=false):unqN X (p+1)=unqN X p++[tmA X p]:=by rw [unqN,if_neg (fun g=>by rw [h] at g;cases g.2)]
theorem q29 (X:List TM):unqN X 1=[tmA X 0]:=by rw [unqN,if_neg (fun g=>by omega)];rfl
theorem q28 (X:List TM):∀ p,(unqN X p).length≤p
 | 0=>Nat.le_refl _
 | p+1=>by
  have:=q28 X p;rw [unqN]
  split
  ·omega
  ·rw [zla,List.length_singleton];omega
theorem qg0 {X:List TM}:∀ {p:Nat},p≤X.length→(∀ i,0<i→i<p→qao (tmA X i) (tmA X (i-1))=false)→unqN X p=X.take p
 | 0,_,_=>rfl
 | p+1,hp,h=>by
  have ih:=qg0 (p:=p) Oo fun i h1 h2=>h i h1 Oo
  have e:X.take (p+1)=X.take p++[tmA X p]:=by rw [List.take_succ_eq_append_getElem Oo,qj8 Oo]
  rw [e,← ih]
  rcases Nat.eq_zero_or_pos p with rfl|h0
  ·exact q29 X
  ·exact qt8 (h p h0 Oo)
theorem qnr {X:List TM} {t:TM}:∀ {p:Nat},t∈unqN X p↔∃ i,i<p∧tmA X i=t
 | 0=>by simp [unqN]
 | p+1=>by
  have ih:=qnr (X:=X) (t:=t) (p:=p);rw [unqN]
  split
  ·rename_i h
   rw [ih]
   constructor
   ·rintro ⟨i,h1,h2⟩;exact ⟨i,by omega,h2⟩
   ·rintro ⟨i,h1,h2⟩
    rcases Nat.lt_or_ge i p with g|g
    ·exact ⟨i,g,h2⟩
    ·obtain rfl:i=p:=by omega
     exact ⟨i-1,by omega,by rw [← h2,qbn.1 h.2]⟩
  ·rw [List.mem_append,ih,List.mem_singleton]
   constructor
   ·rintro (⟨i,h1,h2⟩|h)
    ·exact ⟨i,by omega,h2⟩
    ·exact ⟨p,by omega,h.symm⟩
   ·rintro ⟨i,h1,h2⟩
    rcases Nat.lt_or_ge i p with g|g
    ·exact .inl ⟨i,g,h2⟩
    ·obtain rfl:i=p:=by omega
     exact .inr h2.symm
def AscT (X:List TM):Prop:=∀ i j,i<j→j<X.length→¬ LtT (tmA X j) (tmA X i)
theorem qps {X:List TM} (h:AscT X):∀ {p:Nat},p≤X.length→RiseT (unqN X p)
 | 0,_=>List.Pairwise.nil
 | p+1,hp=>by
  have ih:=qps h (p:=p) Oo;rw [unqN]
  split
  ·exact ih
  ·rename_i hs
   refine List.pairwise_append.2 ⟨ih,List.pairwise_singleton _ _,fun u hu v hv=>?_⟩;rw [List.mem_singleton.1 hv];obtain ⟨i,hi,rfl⟩:=qnr.1 hu
   rcases LtT.tri (tmA X i) (tmA X p) with g|g|g
   ·exact g
   ·exfalso
    have hne:¬ qao (tmA X p) (tmA X (p-1))=true:=fun e=>hs ⟨by omega,e⟩
    by_cases hi2:i=p-1
    ·subst hi2;exact hne (qbn.2 g.symm)
    ·have g1:=h i (p-1) Oo Oo;have g2:=h (p-1) p Oo Oo;rw [g] at g1
     rcases LtT.tri (tmA X (p-1)) (tmA X p) with q|q|q
     ·exact g1 q
     ·exact hne (qbn.2 q.symm)
     ·exact g2 q
   ·exact absurd g (h i p hi Oo)
theorem q6m {X:List TM} {t:TM}:(∃ i,i<X.length∧tmA X i=t)↔t∈X:=by
 constructor
 ·rintro ⟨i,h,rfl⟩;rw [qj8 h];exact List.getElem_mem h
 ·intro h;obtain ⟨i,hi,e⟩:=List.mem_iff_getElem.1 h;exact ⟨i,hi,by rw [qj8 hi,e]⟩
theorem q3a {X:List TM} {qs:List Q4} (h:AscT X) (hp:∀ t,t∈X↔t∈trms qs):unqN X X.length=tmsQ qs:=
 RiseT.ext (qps h znr) (qgw qs) fun y=>by
  rw [qnr,q6m,hp,qgc,qtd]
instance:Inhabited TM:=⟨zTM⟩
theorem qn3 (a b:TM) (w:World):Gv Tryz.prog 89 [qa7 a,qa7 b] w fun r w'=>r=ii (cmpT a b)∧ExtE w w':=by
 refine ze Tryz.func89 Tryz.ntmps89 ?_;refine ⟨fun b1 w1 hb1 hw1=>?_⟩;have hm:=(Mem.nil w).new hb1 hw1;have hx:ExtE w w1:=by rw [hw1];exact (ExtE.refl w).alloc _
 clear hb1 hw1;(conv=>whnf);refine ⟨fun b2 w2 hb2 hw2=>?_⟩;have hm:=hm.new hb2 hw2;have hx:ExtE w w2:=by rw [hw2];exact hx.alloc _
 clear hb2 hw2;(conv=>whnf);refine DrawV.freeE rfl Ok (zw ?_);(apply StepE.still;(· intro wd hd;(conv=>whnf);(repeat (intro _ _;(conv=>whnf)));exact ⟨ExtE.refl _,rfl⟩);(conv=>whnf));(apply StepE.still;(· intro wd hd;(conv=>whnf);refine LoadV.mem (Mem.call (Mem.drew hm) hd.ext) (i:=1) rfl rfl ?_;(conv=>whnf);exact ⟨ExtE.refl _,rfl⟩);(conv=>whnf));(apply StepE.still;(· intro wd hd;(conv=>whnf);(repeat (intro _ _;(conv=>whnf)));exact ⟨ExtE.refl _,rfl⟩);(conv=>whnf));(apply StepE.still;(· intro wd hd;(conv=>whnf);refine LoadV.mem (Mem.call (Mem.drew hm) hd.ext) (i:=0) rfl rfl ?_;(conv=>whnf);exact ⟨ExtE.refl _,rfl⟩);(conv=>whnf));apply StepE.still
 ·intro wd hd;(conv=>whnf);refine zcv (qg8 a.kind b.kind wd) ?_;rintro v w7 ⟨rfl,rfl⟩;exact ⟨ExtE.refl _,rfl⟩
 (conv=>whnf);(apply StepE.still;(· intro wd hd;(conv=>whnf);(repeat (intro _ _;(conv=>whnf)));exact ⟨ExtE.refl _,rfl⟩);(conv=>whnf));(apply StepE.still;(· intro wd hd;(conv=>whnf);refine LoadV.mem (Mem.call (Mem.drew hm) hd.ext) (i:=1) rfl rfl ?_;(conv=>whnf);exact ⟨ExtE.refl _,rfl⟩);(conv=>whnf));(apply StepE.still;(· intro wd hd;(conv=>whnf);(repeat (intro _ _;(conv=>whnf)));exact ⟨ExtE.refl _,rfl⟩);(conv=>whnf));(apply StepE.still;(· intro wd hd;(conv=>whnf);refine LoadV.mem (Mem.call (Mem.drew hm) hd.ext) (i:=0) rfl rfl ?_;(conv=>whnf);exact ⟨ExtE.refl _,rfl⟩);(conv=>whnf));apply StepE.still
 ·intro wd hd;(conv=>whnf);refine zcv (qe8 a.text b.text wd) ?_;rintro v w7 ⟨rfl,rfl⟩;exact ⟨ExtE.refl _,rfl⟩
 (conv=>whnf);(apply StepE.still;(· intro wd hd;(conv=>whnf);(repeat (intro _ _;(conv=>whnf)));exact ⟨ExtE.refl _,rfl⟩);(conv=>whnf));(apply StepE.still;(· intro wd hd;(conv=>whnf);refine LoadV.mem (Mem.call (Mem.drew hm) hd.ext) (i:=1) rfl rfl ?_;(conv=>whnf);exact ⟨ExtE.refl _,rfl⟩);(conv=>whnf));(apply StepE.still;(· intro wd hd;(conv=>whnf);(repeat (intro _ _;(conv=>whnf)));exact ⟨ExtE.refl _,rfl⟩);(conv=>whnf));(apply StepE.still;(· intro wd hd;(conv=>whnf);refine LoadV.mem (Mem.call (Mem.drew hm) hd.ext) (i:=0) rfl rfl ?_;(conv=>whnf);exact ⟨ExtE.refl _,rfl⟩);(conv=>whnf));apply StepE.still
 ·intro wd hd;(conv=>whnf);refine zcv (qe8 a.type b.type wd) ?_;rintro v w7 ⟨rfl,rfl⟩;exact ⟨ExtE.refl _,rfl⟩
 (conv=>whnf);(apply StepE.still;(· intro wd hd;(conv=>whnf);(repeat (intro _ _;(conv=>whnf)));exact ⟨ExtE.refl _,rfl⟩);(conv=>whnf));(apply StepE.still;(· intro wd hd;(conv=>whnf);refine LoadV.mem (Mem.call (Mem.drew hm) hd.ext) (i:=1) rfl rfl ?_;(conv=>whnf);exact ⟨ExtE.refl _,rfl⟩);(conv=>whnf));(apply StepE.still;(· intro wd hd;(conv=>whnf);(repeat (intro _ _;(conv=>whnf)));exact ⟨ExtE.refl _,rfl⟩);(conv=>whnf));(apply StepE.still;(· intro wd hd;(conv=>whnf);refine LoadV.mem (Mem.call (Mem.drew hm) hd.ext) (i:=0) rfl rfl ?_;(conv=>whnf);exact ⟨ExtE.refl _,rfl⟩);(conv=>whnf));apply StepE.still
 ·intro wd hd;(conv=>whnf);refine zcv (qe8 a.lang b.lang wd) ?_;rintro v w7 ⟨rfl,rfl⟩;exact ⟨ExtE.refl _,rfl⟩
 (conv=>whnf);apply StepE.of (fun v wx=>∃ nb,v=.slice (some ⟨nb,0,none⟩) 4 4∧wx.heap[nb]?=some (.cells #[ii (intC a.kind b.kind),ii (txtC a.text b.text),ii (txtC a.type b.type),ii (txtC a.lang b.lang)] 3)) (fun _ _ _ h he=>let ⟨nb,h1,h2⟩:=h;⟨nb,h1,he.ext.get h2⟩)
 ·intro wd hd;(conv=>whnf);refine ⟨fun nb wx hb hw=>?_⟩;subst hb hw;(conv=>whnf);exact ⟨(ExtE.refl wd).alloc _,_,rfl,heap_alloc_new wd _⟩
 (conv=>whnf);apply StepE.still
 ·intro wd hd;(conv=>whnf);rintro v ⟨nb,rfl,hn⟩;(conv=>whnf);refine zcv (qqp _ _ _ _ nb wd hn) ?_;rintro v w7 ⟨rfl,rfl⟩;rw [qxa];exact ⟨ExtE.refl _,rfl⟩
 (conv=>whnf);(apply StepE.still;(· intro wd hd;(conv=>whnf);(repeat (intro _ _;(conv=>whnf)));exact ⟨ExtE.refl _,rfl⟩);(conv=>whnf));intro wd hd;conv=>whnf
 (repeat (intro _ _;(conv=>whnf)))
 exact ⟨rfl,(hx.trans (ExtE.drew w2)).trans hd⟩
theorem qxb (a:TM):cmpT a a=0:=qbh.2 rfl
theorem swoT:Sort.SWO (ltOf cmpT) where
 irrefl x:=by rw [ltOf,qxb];rfl
 trans x y z h1 h2:=by
  rw [ltOf,decide_eq_true_iff,qbi] at *;exact h1.trans h2
 ntrans x y z h1 h2:=by
  rw [ltOf,decide_eq_false_iff_not,qbi] at *;intro h3
  rcases LtT.tri x y with h|h|h
  ·exact h1 h
  ·subst h;exact h2 h3
  ·exact h2 (h.trans h3)
theorem q27 (g n:Nat) (w:World):CmpLays Tryz.prog 89 #[] encT 4 cmpT g 0 n w:=by
 intro m os dk _ x y;refine (qn3 x y _).2.mono ?_;rintro e w' ⟨v,rfl,rfl,he⟩;exact ⟨rfl,he.grow⟩
theorem q6l (args:Array Value) (w:World):(callFunc 89 args).run Tryz.prog w=.ok (.enter 89 args) w:=enters_of Tryz.func89 Ok rfl args w
theorem qv8 (T:List TM) (A:oA) (n c:Nat) (w:World) (hS:SlAt encT 4 w A T) (hn:T.length=n) (hl:n≤1000000000000) :
  Gv Tryz.prog 174 [.slice A n c] w fun r w'=>∃ A' c',r=.slice A' n c'∧Ext w w'∧w'.ownsRow w.heap.size 66 4 (.slice A' n c') n (T.map encT).flatten:=by
 subst hn;cases A with
 | none=>
  have h0:T=[]:=by
   cases T with
   | nil=>rfl
   | cons x r=>obtain ⟨b,off,h0,_⟩:=hS.at_ Js;cases h0
  subst h0;refine ze Tryz.func174 Tryz.ntmps174 ?_;refine zv ?_;exact ⟨none,0,rfl,Ext.refl w,World.ownsRow_nil _ _ _ _⟩
 | some a=>
  refine ze Tryz.func174 Tryz.ntmps174 ?_;refine zv ?_;refine ⟨fun nb w1 hnb hw=>?_⟩;have he:Ext w w1:=by rw [hw];exact (Ext.refl w).alloc _
  have hc:w1.heap[nb]?=some (.cells #[] 66):=by rw [hw,hnb];exact heap_alloc_new w _
  have ho:w1.ownsRow w.heap.size 66 4 (.slice (some ⟨nb,0,none⟩) 0 0) 0 []:=⟨rfl,.inr ⟨nb,0,#[],rfl,by omega,hc,Nat.le_refl _,Nat.zero_le _,rfl,rfl⟩⟩
  have hfl:=qav encT 4 q6 T;(conv=>whnf);refine AppV.own (news:=(T.map encT).flatten) qfy trmI trmZ Ok Ok Od ho he.size hfl (fun hne=>?_) (fun u hu=>?_) (by rw [show ((Tryz.prog.info? 66).get Ok).bytes=56 from by kernel_rfl];omega) Oo ?_
  ·obtain ⟨b,off,h1,h2⟩:=(hS.ext he).at_ (by rintro rfl;exact hne rfl);exact ⟨b,off,h1,qck Od q6 h2⟩
  ·obtain ⟨l,hl1,hl2⟩:=List.mem_flatten.1 hu;obtain ⟨t,_,rfl⟩:=List.mem_map.1 hl1;exact qu t u hl2
  ·intro v' w2 ho2 hg _;have ho2:w2.ownsRow w.heap.size 66 4 v' T.length (T.map encT).flatten:=by rw [Nat.zero_add] at ho2;exact ho2
   obtain ⟨A',c',rfl⟩:=q8 ho2;(conv=>whnf);refine ⟨A',c',rfl,(Chn.grown hg).ext he fun k hk=>?_,ho2⟩;rw [List.mem_singleton.1 hk,hnb];exact Nat.le_refl _
theorem qpo (A:oA) (n c:Nat) (hc:n≤c) (hA:A=none∨∃ g o,A=some ⟨g,o,none⟩) (w:World):Gv Tryz.prog 176 [.slice A n c] w fun v w'=>v=.slice A n n∧w'=w:=by
 refine ze Tryz.func176 Tryz.ntmps176 ?_;refine ⟨0,n,n,rfl,rfl,rfl,Nat.zero_le _,Nat.le_refl _,hc,fun _=>rfl,fun A' e=>?_⟩;have e2:A'=A:=by
  rw [e]
  split
  ·rfl
  ·rcases hA with rfl|⟨g,o,rfl⟩
   ·rfl
   ·simp [Addr.add]
 subst e2;(conv=>whnf);exact ⟨rfl,rfl⟩
theorem qxz (d:Array TM) (i:Nat):d[i]! = tmA d.toList i:=by
 rw [tmA,List.getD_eq_getElem?_getD,Array.getElem?_toList]
 by_cases h:i<d.size
 ·rw [getElem!_pos d i h,Array.getElem?_eq_getElem h];rfl
 ·rw [getElem!_neg d i h,Array.getElem?_eq_none Oo];rfl
theorem q0g (Y:List TM) (A:oA) (c base:Nat) (w:World) (h:w.ownsRow base 66 4 (.slice A Y.length c) Y.length (Y.map encT).flatten) (hl:Y.length≤1000000000000) :
  Gv Tryz.prog 175 [.slice A Y.length c,.func (.func 89) #[] #[]] w fun r w'=>r=.tuple #[]∧∃ Y',Y'.Perm Y∧AscT Y'∧w'.ownsRow base 66 4 (.slice A Y.length c) Y.length (Y'.map encT).flatten∧Chn (rowF (.slice A Y.length c)) w w':=by
 rcases h.2 with ⟨e1,e2⟩|⟨g,cap,cur,e1,hb,hg,hn,hcm,hcs,htk⟩
 ·have h0:Y=[]:=List.eq_nil_of_length_eq_zero e2;subst h0;cases e1;refine qfg Ok ((AnyF.slices_SortFunc_none { Tryz.srt with } none 0 (.func (.func 89) #[] #[]) w).mono ?_);rintro e w' ⟨rfl,rfl⟩;exact ⟨_,rfl,rfl,[],List.Perm.refl _,(fun i j _ hj=>by simp at hj),h,Chn.refl _ _⟩
 ·cases e1;have hlt:=qa2 hg;refine qfg Ok ((AnyQ.slices_SortFunc Tryz.srt 4 Tryz.isAgg66 Tryz.sizeOf66 encT q6 (fun x v hv=>qu x v hv) cmpT swoT 89 #[] g 0 c Y.toArray w q6l (q27 g _ w) (qzv q6 Od hg (by rw [htk])) hlt Ys).mono ?_);rintro e w' ⟨rfl,d',n,os,⟨p1,_,p3⟩,hs,rfl⟩;have hz:d'.size=Y.length:=by simpa using p1
  obtain ⟨cur',r1,r2,r3⟩:=qnm (m:=n) (os:=os) (d:=d') q6 Od hg (by rw [hz];omega);have hp:d'.toList.Perm Y:=by
   have e3:(d'.extract 0 Y.toArray.size).toList=d'.toList:=by
    rw [Array.toList_extract];simp [List.extract];exact List.take_of_length_le (by simp [hz])
   have e4:(Y.toArray.extract 0 Y.toArray.size).toList=Y:=by simp
   rw [e3,e4] at p3;exact p3
  refine ⟨_,rfl,rfl,d'.toList,hp,fun i j hij hj=>?_,⟨by rw [qav encT 4 q6];simp [hz],.inr ⟨g,c,cur',rfl,hb,r1,hn,hcm,by rw [r2,hcs],by rw [← hz];exact r3⟩⟩,?_⟩
  ·have h1:=hs i j (Nat.zero_le _) hij (by simpa [hz] using hj);rw [ltOf,decide_eq_false_iff_not,qbi,qxz,qxz] at h1;exact h1
  ·exact qnl w g n d' os hlt
namespace V
theorem Fall.copy {P:Program} {ρ:Nat→Value} {o:Oper} {c:Call} {w:World} {K:Value→World→Prop} {a b:Value} (ho:o.op=.call c) (hc:c.callee=.builtin .copy) (hv:evs ρ c.args.toList=[a,b]) (v:Value) (w':World)
  (hrun:(Builtin.copy_ c.argTypes o.type #[a,b]).run P w=.ok v w') (hk:K v w'):Fall P (execOp (ev ρ) o) w K:=by
 have he:execOp (ev ρ) o=(do pure (.value (← Builtin.copy_ c.argTypes o.type (c.args.map (ev ρ))))):=by
  simp only [execOp,ho,resolve,hc];rfl
 have hv':c.args.map (ev ρ)=#[a,b]:=by
  rw [qc2] at hv;rw [← Array.toList_inj];simpa using hv
 rw [he,hv'];exact ⟨.inl ⟨v,w',by rw [Sem.run_bind,hrun];rfl,hk⟩⟩
end V
theorem qf1 {x:Int} {d n:Nat} (h:x=(n:Int)):bnd (some (ii x)) d n:=by
 subst h;rfl
end Go.Proofs.YtkienlambankeaaGreatDoor
