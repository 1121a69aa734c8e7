/- Lemmas and contracts of functions on the way to the law's card (part 3 of 9). -/
import Derived.Test.YtacnkdagblbgfaaGreatDoorMP2
import Derived.Laws.Small
import Derived.Laws.StructEq
namespace Go.Proofs.YtacnkdagblbgfaaGreatDoor
set_option maxHeartbeats 8000000
open Go.RowKit V
set_option maxRecDepth 100000
def dash:ByteArray:=⟨#[45]⟩
def qay (s:ByteArray):List ByteArray:=Go.Lib.splitB dash 0 (Go.Lib.countB s dash) s
theorem qlb (s:ByteArray):(qay s).length=Go.Lib.countB s dash+1:=Go.Lib.splitB_all dash Od 0 _ s rfl
noncomputable def tagR (l:List ByteArray):Option (List ByteArray):=if seeB qee l=true then some l else (qdx l).bind qhu
def qie (x:ByteArray):Bool:=qy x 1 8 false
def qmg (l:List ByteArray):Prop:=if seeB qee l=true then (l.tail≠[]∧l.tail.all qie=true) else l=[]
def tagP (l:List ByteArray):Prop:=∃ l1,tagR l=some l1∧qmg l1
open Classical in
noncomputable def tagE (l:List ByteArray):Nat:=if tagP l then 0 else 61
theorem qj8 {l:List ByteArray} (h:tagP l):tagE l=0:=by unfold tagE;rw [if_pos h]
theorem qcx {l:List ByteArray} (h:¬ tagP l):tagE l=61:=by unfold tagE;rw [if_neg h]
def MaxLenAt (w:World):Prop:=∃ m:Int,w.cell? ⟨2,0,none⟩=some (ii m)
theorem MaxLenAt.ext {w w':World} (h:MaxLenAt w) (he:Ext w w'):MaxLenAt w':=⟨h.choose,he.cell h.choose_spec⟩
theorem q3h {w w':World} {l:List ByteArray} {t:TypeId} (hw:w'=w.alloc (.cells (l.map Value.string).toArray t)):SlAt V.zeS 1 w' (some ⟨w.heap.size,0,none⟩) l:=by
 subst hw;refine ⟨fun _=>⟨w.heap.size,0,rfl,fun j x hx k v hv=>?_⟩⟩;cases k with
 | succ k=>simp [V.zeS] at hv
 | zero=>
  simp only [V.zeS,List.getElem?_cons_zero,Option.some.injEq] at hv;subst hv;rw [qa (heap_alloc_new w _)];simp [hx]
theorem q0k (s:ByteArray) (hs:s.size≤1000000) (w:World) (hM:MaxLenAt w) :
  Gv Tryz.prog 231 [.string s,.string dash] w fun v w'=>∃ b,v=.slice (some ⟨b,0,none⟩) (qay s).length (qay s).length∧SlAt V.zeS 1 w' (some ⟨b,0,none⟩) (qay s)∧Ext w w':=by
 obtain ⟨m,hm⟩:=hM;refine qfj Ok ((Tryz.strings_Split s dash m w Oo hm Od).mono ?_);rintro e w' ⟨rfl,hw⟩;exact ⟨_,rfl,w.heap.size,by rw [qlb],q3h hw,by rw [hw];exact (Ext.refl w).alloc _⟩
theorem qdq:∀ v∈[Value.string ⟨#[]⟩,.string ⟨#[]⟩,.string ⟨#[]⟩,.string ⟨#[]⟩,.slice none 0 0,.slice none 0 0,.string ⟨#[]⟩],v.oneCell'=true:=by
 intro v hv;simp at hv
 rcases hv with rfl|rfl|rfl<;>rfl
theorem qoc:∀ (k:Nat) (l:List ByteArray),(qec k l).length≤l.length∧∀ x∈qec k l,x∈l
 | 0,l=>⟨Nat.le_refl _,fun x hx=>hx⟩
 | k+1,[]=>⟨Nat.le_refl _,fun x hx=>hx⟩
 | k+1,y::ys=>by
  by_cases hm:qy y 3 3 true=true
  ·rw [qec,if_pos hm];obtain ⟨h1,h2⟩:=qoc k ys;exact ⟨by simp;omega,fun x hx=>zmc (h2 x hx)⟩
  ·rw [qec,if_neg hm];exact ⟨Nat.le_refl _,fun x hx=>hx⟩
theorem qk5 {l r:List ByteArray} (h:qdx l=some r):r.length≤l.length∧∀ x∈r,x∈l:=by
 cases l with
 | nil=>cases h
 | cons y ys=>
  by_cases hm:qy y 2 8 true=true
  ·rw [qdx,if_pos hm] at h;have h:=Option.some.inj h;subst h
   split
   ·exact ⟨by simp,fun x hx=>zmc hx⟩
   ·obtain ⟨h1,h2⟩:=qoc 3 ys;exact ⟨by simp;omega,fun x hx=>zmc (h2 x hx)⟩
  ·rw [qdx,if_neg hm] at h;cases h
theorem qyv {l r:List ByteArray} (h:qdx l=some r):∀ x∈r,x∈l:=(qk5 h).2
theorem qjg {l r:List ByteArray} (h:qdx l=some r):r.length≤l.length:=(qk5 h).1
theorem qt1 {w0 w:World} {L:List (Nat × Obj)} {rb n c off size:Nat} {A:oA} {t:List Value} {K:List Value→Prop} (hm:Mem w0 w L) (hi:(rb,rdC A n c t)∈L) (ho:off=1) (hs:t.length=size) (hk:K t):LoadA w rb off size K:=by
 subst ho;refine ⟨t,hs,fun i hi'=>?_,hk⟩;have:=hm.get hi;rw [rdC] at this;rw [qa this,List.getElem?_toArray,Nat.add_comm 1 i,List.getElem?_cons_succ]
theorem tag7 {V E:Value} (h:(∃ A n c,V=.slice A n c)∧∃ A n c,E=.slice A n c) (a0 a1 a2 a3 a6:ByteArray):∀ v∈tagC a0 a1 a2 a3 V E a6,v.oneCell'=true:=by
 obtain ⟨⟨_,_,_,rfl⟩,⟨_,_,_,rfl⟩⟩:=h;intro v hv;simp [tagC] at hv
 rcases hv with rfl|rfl|rfl|rfl|rfl|rfl|rfl<;>rfl
theorem qjr (s:ByteArray):(qay s).map (·.data.toList)=qa8 s.data.toList:=by
 rw [qay,Go.Lib.splitB_data,← qj5];rfl
theorem qlc (s:ByteArray):(∀ x∈qay s,x.size≤s.size)∧(qay s).length≤s.size+1:=by
 obtain ⟨h1,h2⟩:=qla s.data.toList;rw [← qjr] at h1 h2;refine ⟨fun x hx=>?_,by simpa using h1⟩;have:=h2 _ (List.mem_map.2 ⟨x,hx,rfl⟩)
 simpa using this
def TagV (l:List ByteArray) (v:Value):Prop:=∃ c0 c1 c2 c3 c4 c5 c6,(∀ u∈[c0,c1,c2,c3,c4,c5,c6],u.oneCell'=true)∧v=.tuple #[.agg #[c0,c1,c2,c3,c4,c5,c6],ii (tagE l)]
theorem q6z (s:ByteArray) (hs:s.size≤65536) (w:World) (hM:MaxLenAt w) :
  Gv Tryz.prog 182 [.string s] w fun v w'=>TagV (qay s) v∧Ext w w':=by
 obtain ⟨p1,p2⟩:=qlc s;obtain ⟨l,hl⟩:∃ l,l=qay s:=⟨_,rfl⟩
 rw [← hl] at p1 p2;refine ze Tryz.func182 Tryz.ntmps182 ?_;refine znm (Mem.nil w) fun rt w1 hm1=>zw ?_;refine zcv (q0k s Oo w1 (hM.ext hm1.ext)) ?_;rintro v w2 ⟨pb,rfl,hS,he2⟩;rw [← hl] at hS ⊢;have hm2:=hm1.call he2;(conv=>whnf);refine znm (Mem.nil w2) ?_;intro rb w3 hm3;have h0:RS w2 w3 [rb] rb l (some ⟨pb,0,none⟩) l.length (.slice none 0 0) (.slice none 0 0) [(rb,rdC (some ⟨pb,0,none⟩) l.length l.length (tagC ⟨#[]⟩ ⟨#[]⟩ ⟨#[]⟩ ⟨#[]⟩ (.slice none 0 0) (.slice none 0 0) ⟨#[]⟩))] []:=
  ⟨hm3,⟨_,_,_,_,_,List.mem_cons_self ..⟩,RowsP.none_,hS,Nat.le_refl _,List.mem_cons_self ..,fun g hg=>by obtain rfl:=List.mem_singleton.1 hg;exact ⟨_,List.mem_cons_self ..⟩,fun x hx=>by have:=p1 x hx;omega,⟨⟨_,_,_,rfl⟩,⟨_,_,_,rfl⟩⟩⟩
 (conv=>whnf);refine zcv (qhx qee h0 (fun x w1 _=>by
  refine (qfx x w1).mono ?_;rintro v w' ⟨rfl,rfl⟩;exact ⟨rfl,xr⟩)) ?_
 rintro v w6 ⟨rfl,h4⟩;(conv=>whnf);cases hq:seeB qee l
 case' true=>
  refine zv ?_;obtain ⟨l1,A1,c1,V1,E1,L1,e1,g1,d1⟩:∃ l1 A1 c1 V1 E1 L1,tagR l=some l1∧RS w2 w6 [rb] rb l1 A1 c1 V1 E1 L1 []∧l1.length≤1000000:=⟨l,_,_,_,_,_,by rw [tagR,if_pos hq],h4,by omega⟩
  clear hq h4 h0
 case' false=>
  have eT:tagR l=(qdx l).bind qhu:=by rw [tagR,if_neg (by rw [hq];simp)]
  refine zv ?_;refine zcv (qop rb 0 l _ _ ⟨#[]⟩ ⟨#[]⟩ ⟨#[]⟩ ⟨#[]⟩ _ _ w2 w6 _ h4.mem rfl hS znr h4.small) ?_;rintro v w5 (⟨e2,rfl,hx5⟩|⟨l2,e2,rfl,A2,c2,b0,b1,hS2,hc2,hm5⟩)
  ·rw [e2] at eT;refine zu ?_;refine StoreA.mem (hm2.call hx5) (i:=0) rfl (Nat.le_refl 7) qdq fun w9 hm9=>zw ?_;refine qaa (R:=fun v w'=>TagV l v∧Ext w w') (zw ?_);refine zl hm9 0 ?_;exact ⟨⟨_,_,_,_,_,_,_,qdq,by rw [qcx (fun h=>by obtain ⟨l1,h1,_⟩:=h;rw [eT] at h1;cases h1)];rfl⟩,hm9.ext⟩
  rw [e2] at eT;have h5:RS w2 w5 [rb] rb l2 A2 c2 (.slice none 0 0) (.slice none 0 0) [(rb,rdC A2 l2.length c2 (tagC b0 b1 ⟨#[]⟩ ⟨#[]⟩ (.slice none 0 0) (.slice none 0 0) ⟨#[]⟩))] []:=
   ⟨hm5,⟨_,_,_,_,_,List.mem_cons_self ..⟩,RowsP.none_,hS2,hc2,List.mem_cons_self ..,fun g hg=>by obtain rfl:=List.mem_singleton.1 hg;exact ⟨_,List.mem_cons_self ..⟩,fun x hx=>by have:=p1 x (qyv e2 x hx);omega,⟨⟨_,_,_,rfl⟩,⟨_,_,_,rfl⟩⟩⟩
  refine zu ?_;refine zcv (q3d rb [rb] l2 A2 c2 w2 w5 _ h5 (by have:=qjg e2;omega)) ?_;rintro v w6 (⟨e3,rfl,hx6⟩|⟨l3,e3,rfl,A3,c3,V3,E3,L3,h6,hl3,_⟩)
  ·have eT:tagR l=none:=by rw [eT];exact e3
   refine zu ?_;refine StoreA.mem (hm2.call hx6) (i:=0) rfl (Nat.le_refl 7) qdq fun w9 hm9=>zw ?_;refine qaa (R:=fun v w'=>TagV l v∧Ext w w') (zw ?_);refine zl hm9 0 ?_;exact ⟨⟨_,_,_,_,_,_,_,qdq,by rw [qcx (fun h=>by obtain ⟨l1,h1,_⟩:=h;rw [eT] at h1;cases h1)];rfl⟩,hm9.ext⟩
  obtain ⟨l1,A1,c1,V1,E1,L1,e1,g1,d1⟩:∃ l1 A1 c1 V1 E1 L1,tagR l=some l1∧RS w2 w6 [rb] rb l1 A1 c1 V1 E1 L1 []∧l1.length≤1000000:=⟨l3,_,_,_,_,_,by rw [eT];exact e3,h6,by have:=qjg e2;omega⟩
  clear hq h4 h0 eT e2 h5 e3 h6;refine zu ?_
 all_goals
  refine zcv (qhx qee g1 (fun x w1 _=>by
   refine (qfx x w1).mono ?_;rintro v w' ⟨rfl,rfl⟩;exact ⟨rfl,xr⟩)) ?_
  rintro v w7 ⟨rfl,g2⟩;cases hq2:seeB qee l1
  ·have hend:qmg l1↔l1=[]:=by rw [qmg,if_neg (by rw [hq2];simp)]
   refine zu ?_;obtain ⟨a0,a1,a2,a3,a6,hrd⟩:=id g2.rd;refine LoadV.of (v:=.slice A1 l1.length c1) (by have:=g2.mem.get hrd;rw [rdC] at this;rw [qa this];rfl) (zw ?_)
   (repeat' refine zC (fun _=>zw ?_) (fun _=>zw ?_))
   ·skip
    refine StoreA.mem (hm2.call g2.mem.ext) (i:=0) rfl (Nat.le_refl 7) qdq fun w9 hm9=>zw ?_;refine qaa (R:=fun v w'=>TagV l v∧Ext w w') (zw ?_);refine zl hm9 0 ?_;exact ⟨⟨_,_,_,_,_,_,_,qdq,by rw [qcx (fun h=>by obtain ⟨l2,h1,h2⟩:=h;rw [e1] at h1;cases h1;have e:=hend.1 h2;have:l1.length=0:=(by rw [e];rfl);omega)];rfl⟩,hm9.ext⟩
   ·skip
    obtain ⟨⟨VA,vn,vc,rfl⟩,⟨EA,en,ec,rfl⟩⟩:=id g2.vs;obtain ⟨z0,z1,z2,z3,z6,hrd⟩:=id g2.rd;refine qt1 g2.mem hrd rfl rfl (zw ?_);refine StoreA.mem (hm2.call g2.mem.ext) (i:=0) rfl (Nat.le_refl 7) (tag7 g2.vs _ _ _ _ _) fun w9 hm9=>zw ?_;refine qaa (R:=fun v w'=>TagV l v∧Ext w w') (zw ?_);refine zl hm9 0 ?_;exact ⟨⟨_,_,_,_,_,_,_,tag7 ⟨⟨_,_,_,rfl⟩,⟨_,_,_,rfl⟩⟩ _ _ _ _ _,by rw [qj8 ⟨l1,e1,hend.2 (List.length_eq_zero_iff.1 Oo)⟩];rfl⟩,hm9.ext⟩
  ·obtain ⟨x,xs,rfl⟩:∃ x xs,l1=x::xs:=by
    cases l1 with
    | nil=>cases hq2
    | cons x xs=>exact ⟨x,xs,rfl⟩
   have hend:qmg (x::xs)↔xs≠[]∧xs.all qie=true:=by rw [qmg,if_pos hq2];rfl
   refine zu ?_;refine zcv (qjl g2) ?_;rintro v w8 ⟨rfl,A8,c8,L8,g8,_⟩;(conv=>whnf);obtain ⟨a0,a1,a2,a3,a6,hrd⟩:=id g8.rd;refine zcv (qt3 (least:=1) g8.mem hrd g8.sl g8.hc g8.small (by simp at d1;omega)) ?_;rintro v w9 ⟨pre,rest',sT,hP,hse,rfl,A9,c9,L9,hS9,hc9,hr9⟩;have g9:=g8.step hr9 ⟨_,_,_,_,_,rfl⟩ hS9 hc9 (fun y hy=>by rw [hP.eq];exact List.mem_append_right _ hy) g8.vs;(conv=>whnf);have hall:xs≠[]∧xs.all qie=true↔pre≠[]∧rest'=[]:=by
    have hPa:pre.all qie=true:=hP.all;rw [hP.eq,List.all_append,hPa,Bool.true_and]
    constructor
    ·rintro ⟨n1,n2⟩;have hr:rest'=[]:=by
      cases rest' with
      | nil=>rfl
      | cons y ys=>
       have:qie y=false:=hse;simp [this] at n2
     exact ⟨fun e=>n1 (by rw [e,hr];rfl),hr⟩
    ·rintro ⟨n1,rfl⟩;exact ⟨by simpa using n1,rfl⟩
   rw [hall] at hend;have hxx:=g2.small x mh;have hsT:=hP.size;have hpl:pre.length≤1000000:=by have:=congrArg List.length hP.eq;simp at this d1;omega
   by_cases hp:pre=[]
   ·rw [decide_eq_false (by simp [hp])];refine zu ?_;refine StoreA.mem (hm2.call g9.mem.ext) (i:=0) rfl (Nat.le_refl 7) qdq fun w9 hm9=>zw ?_;refine qaa (R:=fun v w'=>TagV l v∧Ext w w') (zw ?_);refine zl hm9 0 ?_;exact ⟨⟨_,_,_,_,_,_,_,qdq,by rw [qcx (fun h=>by obtain ⟨l2,h1,h2⟩:=h;rw [e1] at h1;cases h1;exact (hend.1 h2).1 hp)];rfl⟩,hm9.ext⟩
   ·rw [decide_eq_true (by simpa using hp)];refine zu ?_;refine ⟨by omega,?_⟩;(conv=>whnf);obtain ⟨a0,a1,a2,a3,a6,hrd⟩:=id g9.rd;refine qes g9.mem hrd 6 rfl (show 6<7 by decide) rfl ?_;intro w10 L10 hr10;have g10:=g9.step hr10 ⟨_,_,_,_,_,rfl⟩ hS9 hc9 (fun y hy=>hy) g9.vs;obtain ⟨a0,a1,a2,a3,a6,hrd⟩:=id g10.rd;(conv=>whnf);refine LoadV.of (v:=.slice A9 rest'.length c9) (by have:=g10.mem.get hrd;rw [rdC] at this;rw [qa this];rfl) (zw ?_)
    (repeat' refine zC (fun _=>zw ?_) (fun _=>zw ?_))
    ·skip
     refine StoreA.mem (hm2.call g10.mem.ext) (i:=0) rfl (Nat.le_refl 7) qdq fun w9 hm9=>zw ?_;refine qaa (R:=fun v w'=>TagV l v∧Ext w w') (zw ?_);refine zl hm9 0 ?_;exact ⟨⟨_,_,_,_,_,_,_,qdq,by rw [qcx (fun h=>by obtain ⟨l2,h1,h2⟩:=h;rw [e1] at h1;cases h1;have e:=(hend.1 h2).2;have:rest'.length=0:=(by rw [e];rfl);omega)];rfl⟩,hm9.ext⟩
    ·skip
     obtain ⟨⟨VA,vn,vc,rfl⟩,⟨EA,en,ec,rfl⟩⟩:=id g10.vs;obtain ⟨z0,z1,z2,z3,z6,hrd⟩:=id g10.rd;refine qt1 g10.mem hrd rfl rfl (zw ?_);refine StoreA.mem (hm2.call g10.mem.ext) (i:=0) rfl (Nat.le_refl 7) (tag7 g10.vs _ _ _ _ _) fun w9 hm9=>zw ?_;refine qaa (R:=fun v w'=>TagV l v∧Ext w w') (zw ?_);refine zl hm9 0 ?_;exact ⟨⟨_,_,_,_,_,_,_,tag7 ⟨⟨_,_,_,rfl⟩,⟨_,_,_,rfl⟩⟩ _ _ _ _ _,by rw [qj8 ⟨_,e1,hend.2 ⟨hp,List.length_eq_zero_iff.1 Oo⟩⟩];rfl⟩,hm9.ext⟩
namespace V
theorem AppV.one {P:Program} {w0 w:World} {A:oA} {c n nb:Nat} {xs:List Value} {L:List (Nat × Obj)} {t ty e:TypeId} {i:TypeInfo} {z x:Value} {K:Value→World→Prop}
  (ht:P.underlying t=some (.slice e)) (hi:P.info? e=some i) (hz:i.zero=some z) (hsize:i.size=1) (hzs:z.cells.size=1) (hby:i.bytes≤16)
  (h:Rw w0 w (.slice A n c) e 1 n xs ((nb,.cells #[x] e)::L)) (hx:x.oneCell'=true) (hn:n+1≤8000000000000)
  (hk:∀ A' c' w',Rw w0 w' (.slice A' (n+1) c') e 1 (n+1) (xs++[x]) L→K (.slice A' (n+1) c') w'):AppV P #[t,t] ty (.slice A n c) (.slice (some ⟨nb,0,none⟩) 1 1) w K:=by
 refine AppV.rw (news:=[x]) ht hi hz hsize hzs Od h rfl (fun _=>⟨nb,0,rfl,fun k v hv=>?_⟩) (fun u hu=>by simp at hu;rw [hu];exact hx) ?_ Oo (fun A' c' w' h'=>hk A' c' w' h'.tail)
 ·rw [qa (h.mem.get mh),Nat.zero_add]
  simpa using hv
 ·have:(n+1)*i.bytes≤8000000000000*16:=Nat.mul_le_mul hn hby;omega
theorem Rw.ints {w0 w:World} {A:oA} {c:Nat} {e:TypeId} {zs:List Int} {L:List (Nat × Obj)} (h:Rw w0 w (.slice A zs.length c) e 1 zs.length (zs.map (Value.int .i64)) L):SlAt zeI 1 w A zs:=by
 refine ⟨fun hne=>?_⟩;obtain ⟨g,rfl,_,_,_,hc⟩:=h.cells (List.length_pos_iff.2 hne);refine ⟨g,0,rfl,fun j x hx k v hv=>?_⟩;cases k with
 | succ k=>simp [zeI] at hv
 | zero=>
  simp only [zeI,List.getElem?_cons_zero,Option.some.injEq] at hv;subst hv;have:=hc j (ii x) (by rw [List.getElem?_map,hx];rfl)
  simpa using this
theorem oneI (l:List Int):∀ v∈l.map (Value.int .i64),v.oneCell'=true:=by
 intro v hv;obtain ⟨x,_,rfl⟩:=List.mem_map.1 hv;rfl
end V
def rP:List (Int × Int):=(65,90)::(97,122)::basesP
def rbI:List Int:=rP.flatMap fun x=>[x.1,x.2]
theorem q9f:∀ i (h:i<rP.length),(rbI.map (Value.int .i64))[i*2]?=some (ii rP[i].1)∧(rbI.map (Value.int .i64))[i*2+1]?=some (ii rP[i].2):=by
 intro i h;have h:i<14:=h;obtain rfl|rfl|rfl|rfl|rfl|rfl|rfl|rfl|rfl|rfl|rfl|rfl|rfl|rfl:i=0∨i=1∨i=2∨i=3∨i=4∨i=5∨i=6∨i=7∨i=8∨i=9∨i=10∨i=11∨i=12∨i=13:=by omega
 all_goals exact ⟨rfl,rfl⟩
theorem qz1 (r:Int):rP.any (inP r)=qid r:=by
 show (inP r (65,90)||(inP r (97,122)||basesP.any (inP r)))=qid r;have:letN r=(inP r (65,90)||inP r (97,122)):=by
  rw [Bool.eq_iff_iff];simp [letN,inP];omega
 rw [qid,this,Bool.or_assoc]
theorem V.buildV_arr {P:Program} {t e:TypeId} {n:Nat} {i:TypeInfo} {z:Value} {parts:List (Nat × Value)} {l:List Value} {K:Value→Prop} (hi:P.info? t=some i) (hz:i.zero=some z) (hu:P.underlying t=some (.array n e)) (hT:hasT P e=true)
  (hf:qoh (fun k=>some (k*tsz P e,tsz P e)) z.cells.toList parts=some l) (hk:K (.agg l.toArray)):qkx P t parts K:=by
 unfold qkx;simp only [hi,hz,hu,hT,hf,cond_true,qag];exact hk
namespace V
section
variable {P:Program} {n:Nat} {ρ:Nat→Value} {w:World}
theorem q4p {a b:Code} {Q:Exit→(Nat→Value)→World→Prop} (h:qfd P n a (seqQ (qfd P n b Q) Q) ρ w):qfd P n (.seq a b) Q ρ w:=h
theorem qp8 {id:Nat} {ops:Array Oper} {Q:Exit→(Nat→Value)→World→Prop} (h:regV P n ops.toList (Q .normal) ops.toList ρ w):qfd P n (.region id ops false) Q ρ w:=h
theorem q8z {ops:List Oper} {Q:(Nat→Value)→World→Prop} (h:Q ρ w):regV P n ops Q [] ρ w:=h
theorem qr8 {ops rest:List Oper} {o:Oper} {Q:(Nat→Value)→World→Prop} (hg:o.guard=none) (h:opV P o ρ w fun v w'=>putV n o.dst ρ v fun ρ'=>regV P n ops Q rest ρ' w'):regV P n ops Q (o::rest) ρ w:=by
 unfold regV;rw [hg];exact h
theorem q07 {K:(Nat→Value)→World→Prop} {Q:Exit→(Nat→Value)→World→Prop} (h:K ρ w):seqQ K Q .normal ρ w:=h
theorem q4o {d:Nat} {v:Value} {K:(Nat→Value)→Prop} (hd:Nat.blt d n=true) (h:K (upd ρ d v)):putV n (some d) ρ v K:=by
 unfold putV;simp only [hd,cond_true];exact h
theorem q3t {o:Oper} {t:TypeId} {K:Value→World→Prop} (ho:o.op=.alloc t) (h:qsk P t w K):opV P o ρ w K:=by
 unfold opV;rw [ho];exact h
theorem q3v {o:Oper} {t:TypeId} {x v:Operand} {K:Value→World→Prop} (ho:o.op=.store t x v) (h:quh P t (ev ρ x) (ev ρ v) w (execOp (ev ρ) o) K):opV P o ρ w K:=by
 unfold opV;rw [ho];exact h
theorem q3u {t:TypeId} {parts:Array (Nat × Operand)} {K:Value→World→Prop} {dst:Option Tmp} {ty:TypeId} {pos:String} {aft:Array Edge} {gd:Option (Nat × Bool)} (h:qkx P t (evp ρ parts.toList) fun v=>K v w) :
  opV P { dst:=dst,op:=.build t parts,type:=ty,pos:=pos,after:=aft,guard:=gd } ρ w K:=h
end
end V
theorem arrI:(Tryz.prog.info? 391).isSome=true:=by kernel_rfl
theorem arrZ:((Tryz.prog.info? 391).get arrI).zero=some (.agg (Array.replicate 28 (ii 0))):=by kernel_rfl
theorem arrF (ρ:Nat→Value):qoh (fun k=>some (k*tsz Tryz.prog 3,tsz Tryz.prog 3)) (Value.cells (.agg (Array.replicate 28 (ii 0)))).toList (evp ρ (rbI.zipIdx.map fun x=>(x.2,Operand.const (ii x.1))))=some (rbI.map (Value.int .i64)):=by kernel_rfl
theorem qpe (w:World):Gv Tryz.prog 298 [] w fun v w'=>v=.agg (rbI.map (Value.int .i64)).toArray∧Ext w w':=by
 refine gv Ok Tryz.func298 rfl Tryz.ntmps298 rfl ?_;refine q4p (qp8 ?_);refine qr8 rfl ?_;refine q3t rfl (zw ?_);refine znm (Mem.nil w) ?_;intro b w1 hm;dsimp only
 with_reducible refine q4o (d:=0) ?_ ?_
 ·exact rfl
 try dsimp only
 with_reducible refine q8z ?_
 with_reducible refine q07 ?_
 with_reducible refine q4p ?_
 with_reducible refine qp8 ?_
 with_reducible refine qr8 ?_ ?_
 ·exact rfl
 with_reducible refine q3u ?_
 with_reducible refine V.buildV_arr (e:=3) (n:=28) (i:=(Tryz.prog.info? 391).get arrI) (z:=.agg (Array.replicate 28 (ii 0))) (l:=rbI.map (Value.int .i64)) ?_ ?_ Tryz.underlying391 ?_ ?_ ?_
 ·exact (Option.some_get _).symm
 ·exact arrZ
 ·kernel_rfl
 ·exact arrF _
 dsimp only
 with_reducible refine q4o (d:=1) ?_ ?_
 ·exact rfl
 try dsimp only
 with_reducible refine qr8 ?_ ?_
 ·exact rfl
 refine q3v (by rfl) (zw ?_);refine StoreA.mem (vs:=rbI.map (Value.int .i64)) hm (i:=0) rfl (Nat.le_refl 28) (oneI _) fun w2 hm2=>zw ?_;refine qaa (R:=fun v w'=>v=.agg (rbI.map (Value.int .i64)).toArray∧Ext w w') (zw ?_);refine zL hm2 0 ?_;rw [qag];exact ⟨rfl,hm2.ext⟩
theorem qi2 {w0 w:World} {b:Nat} {vs:List Value} {t:TypeId} {fr:Nat × Nat} {L:List (Nat × Obj)} (h:Mem w0 w ((b,.cells vs.toArray t fr)::L)):CellsAt w b 0 vs:=by
 intro k v hv;rw [qa (h.get mh),Nat.zero_add]
 simpa using hv
theorem qra (r:Int) (w:World):Gv Tryz.prog 243 [ii r] w fun v w'=>v=.bool (qid r)∧Ext w w':=by
 refine ze Tryz.func243 Tryz.ntmps243 ?_;refine zcv (qpe w) ?_;rintro v w1 ⟨rfl,he⟩;(conv=>whnf);refine znm ((Mem.nil w).call he) fun b w2 hm=>zw ?_;refine StoreA.mem (vs:=rbI.map (Value.int .i64)) hm (i:=0) rfl (Nat.le_refl 28) (oneI _) fun w3 hm=>zw ?_;refine qe (fun i:Nat=>[(0,ii r),(3,pp b),(4,ii (i*2:Nat))]) (fun i w4=>i≤14∧(rP.take i).any (inP r)=false∧Mem w w4 [(b,.cells (rbI.map (Value.int .i64)).toArray 391)]) (fun i=>14-i) 0 ⟨rfl,rfl,rfl,trivial⟩ ⟨by omega,rfl,hm⟩ ?_;rintro i w4 ρ' ⟨h1,h2,hm⟩;(conv=>whnf);refine zC (fun _=>zu ?_) (fun _=>zu ?_)
 ·have hi:i<rP.length:=show i<14 by omega
  obtain ⟨b1,b2⟩:=q9f i hi;have hany:∀ c,inP r rP[i]=c→(rP.take (i+1)).any (inP r)=c:=fun c hc=>by
   rw [List.take_succ_eq_append_getElem hi,List.any_append,h2,List.any_cons,hc];simp
  refine LoadV.of (qxh (qi2 hm _ _ b1)) (zw ?_);refine zC (fun _=>zu ?_) (fun _=>zu ?_)
  ·refine ⟨i*2+1,by omega,by omega,?_⟩;refine zu ?_;refine LoadV.of (qsv (qi2 hm _ _ b2)) (zw ?_);refine zt ?_;refine zC (fun _=>zu ?_) (fun _=>zu ?_)
   ·refine ⟨congrArg Value.bool ?_,hm.ext⟩;rw [← qz1];exact (List.any_eq_true.2 ⟨rP[i],List.getElem_mem hi,by simp [inP];omega⟩).symm
   ·exact ⟨i+1,⟨rfl,rfl,congrArg (Value.int .i64) Oo,trivial⟩,⟨by omega,hany _ (by simp [inP];omega),hm⟩,by omega⟩
  ·exact ⟨i+1,⟨rfl,rfl,congrArg (Value.int .i64) Oo,trivial⟩,⟨by omega,hany _ (by simp [inP];omega),hm⟩,by omega⟩
 ·refine ⟨congrArg Value.bool ?_,hm.ext⟩;rw [← qz1,← h2,List.take_of_length_le (show 14≤i by omega)]
theorem qfm (r:Int) (w:World):Gv Tryz.prog 190 [ii r] w fun v w'=>v=.bool (qfp r)∧Ext w w':=by
 refine ze Tryz.func190 Tryz.ntmps190 ?_;refine zcv (qra r w) ?_;rintro v w1 ⟨rfl,he⟩;(conv=>whnf);unfold qfp;cases qid r
 ·refine zv ?_
  all_goals (refine ⟨congrArg Value.bool ?_,he⟩;rw [Bool.eq_iff_iff];simp;try omega)
 ·refine zv ?_
  all_goals (refine ⟨congrArg Value.bool ?_,he⟩;rw [Bool.eq_iff_iff];simp;try omega)
theorem qgk (r:Int) (w:World):Gv Tryz.prog 191 [ii r] w fun v w'=>v=.bool (digN r)∧w'=w:=by
 refine ze Tryz.func191 Tryz.ntmps191 ?_;refine zC (fun _=>zu ?_) (fun _=>zu ?_)
 all_goals (refine ⟨congrArg Value.bool ?_,rfl⟩;rw [Bool.eq_iff_iff];simp [digN];try omega)
theorem qjv (r:Int) (w:World):Gv Tryz.prog 244 [ii r] w fun v w'=>v=.bool (qc9 r)∧Ext w w':=by
 refine ze Tryz.func244 Tryz.ntmps244 ?_;refine zcv (qfm r w) ?_;rintro v w1 ⟨rfl,he⟩;(conv=>whnf);unfold qc9;cases qfp r
 ·refine zt ?_;refine zC (fun _=>zu ?_) (fun _=>zu ?_)
  all_goals try (
   refine zcv (qgk r w1) ?_;rintro v w2 ⟨rfl,rfl⟩;(conv=>whnf))
  all_goals cases hd:digN r
  all_goals (repeat' (first|refine zp ?_|refine zC (fun _=>zw ?_) (fun _=>zw ?_)))
  all_goals (refine ⟨congrArg Value.bool ?_,he⟩;rw [Bool.eq_iff_iff];simp;try omega)
 ·refine zv ?_
  all_goals (refine ⟨congrArg Value.bool ?_,he⟩;rw [Bool.eq_iff_iff];simp;try omega)
theorem qrl (s:ByteArray) (hs:s.size≤4000000000000) (w:World) :
  Gv Tryz.prog 189 [.string s] w fun v w'=>((scal s.data.toList=none∧v=.tuple #[.slice none 0 0,.bool false])∨
   (∃ l A c,scal s.data.toList=some l∧v=.tuple #[.slice A l.length c,.bool true]∧SlAt zeI 1 w' A (l.map Int.ofNat)∧l.length≤s.size))∧Ext w w':=by
 refine ze Tryz.func189 Tryz.ntmps189 ?_;refine qe (fun x:Nat × List Int × oA × Nat=>[(0,.string s),(4,.slice x.2.2.1 x.2.1.length x.2.2.2),(5,ii x.1)])
  (fun x w2=>x.1≤s.size∧x.2.1.length≤x.1∧Rw w w2 (.slice x.2.2.1 x.2.1.length x.2.2.2) 3 1 x.2.1.length (x.2.1.map (Value.int .i64)) []∧(scal s.data.toList).map (·.map Int.ofNat)=(scal (s.data.toList.drop x.1)).map fun l=>x.2.1++l.map Int.ofNat)
  (fun x=>s.size-x.1) (0,[],none,0) ⟨rfl,rfl,rfl,trivial⟩ ⟨by simp,by simp,Rw.nil (Mem.nil w),by simp⟩ ?_
 rintro ⟨i,zs,B,d⟩ w2 ρ' ⟨h1,h2,hR,h3⟩;simp only at h1 h2 hR h3;dsimp only;(conv=>whnf);refine zC (fun _=>zw ?_) (fun _=>zw ?_)
 ·refine zcv (qjw s i Oo Oo w2) ?_;rintro v w3 ⟨rfl,he⟩;have hle:=qhc (s.data.toList.drop i);rw [qdu] at hle;have hR3:=hR.call he;(conv=>whnf);refine zC (fun _=>zw ?_) (fun _=>zw ?_)
  ·refine ⟨.inl ⟨?_,rfl⟩,hR3.mem.ext⟩;rw [qgo (qhf s i Oo) Oo] at h3;cases hsc:scal s.data.toList with
   | none=>rfl
   | some l=>rw [hsc] at h3;cases h3
  ·refine NewV.rw hR3 fun nb w4 hR4=>zw ?_;refine AppV.one (i:=_) (z:=ii 0) Tryz.underlying38 (Option.some_get Ok).symm Ok Ok rfl (by decide +kernel) hR4 rfl Oo ?_;intro B' d' w5 hR5;refine zu ?_;refine ⟨(i+(decN (s.data.toList.drop i)).2,zs++[((decN (s.data.toList.drop i)).1:Int)],B',d'),⟨rfl,by simp only [zla];rfl,rfl,trivial⟩,⟨by simp only;omega,by simp only [zla,List.length_singleton];omega,?_,?_⟩,by simp only;omega⟩
   ·simp only [zla,List.length_singleton,List.map_append,List.map_cons,List.map_nil];exact hR5
   ·simp only;rw [h3,qev (qhf s i Oo) Oo,List.drop_drop];cases scal (s.data.toList.drop (i+(decN (s.data.toList.drop i)).2)) with
    | none=>rfl
    | some l=>simp
 ·refine ⟨?_,hR.mem.ext⟩;rw [List.drop_eq_nil_of_le Ys,scal] at h3;cases hsc:scal s.data.toList with
  | none=>rw [hsc] at h3;cases h3
  | some l=>
   rw [hsc] at h3;simp at h3;subst h3;refine .inr ⟨l,B,d,rfl,by simp,?_,by simpa using Nat.le_trans h2 h1⟩;exact hR.ints
theorem qcj {q:UInt8→Bool} (s:ByteArray) (p:Nat) (hp:p<s.size):(s.data.toList.take (p+1)).all q=((s.data.toList.take p).all q&&q (gb s p)):=by
 rw [qmm (by simpa using hp),List.all_append];simp [gb]
def digA (s:ByteArray):Bool:=s.data.toList.all fun c=>digN c.toNat
def letA (s:ByteArray):Bool:=s.data.toList.all fun c=>letN c.toNat
theorem qxt {s:ByteArray} {i:Nat} (hi:i<s.size) (h:digN (gb s i).toNat=false):digA s=false:=by
 rw [digA,List.all_eq_false];exact ⟨gb s i,by rw [gb,List.getD_eq_getElem?_getD,zge (by simpa using hi)];exact List.getElem_mem _,by simpa using h⟩
theorem q5y {s:ByteArray} {i:Nat} (hi:i<s.size) (h:letN (gb s i).toNat=false):letA s=false:=by
 rw [letA,List.all_eq_false];exact ⟨gb s i,by rw [gb,List.getD_eq_getElem?_getD,zge (by simpa using hi)];exact List.getElem_mem _,by simpa using h⟩
theorem qeq (s:ByteArray) (hs:s.size≤140737488355328) (w:World):Gv Tryz.prog 300 [.string s] w fun v w'=>v=.bool (digA s)∧w'=w:=by
 refine ze Tryz.func300 Tryz.ntmps300 ?_;refine qe (fun i:Nat=>[(0,.string s),(3,ii i)]) (fun i w1=>i≤s.size∧(s.data.toList.take i).all (fun c=>digN c.toNat)=true∧w1=w) (fun i=>s.size-i) 0 ⟨rfl,rfl,trivial⟩ ⟨by omega,rfl,rfl⟩ ?_;rintro i w1 ρ' ⟨h1,h2,rfl⟩;conv=>whnf
 (repeat' (first|refine zp ?_|refine zC (fun _=>zw ?_) (fun _=>zw ?_)))
 ·exact ⟨by rw [qxt (i:=i) Oo (by simp [digN];omega)],rfl⟩
 ·exact ⟨by rw [qxt (i:=i) Oo (by simp [digN];omega)],rfl⟩
 ·exact ⟨i+1,⟨rfl,rfl,trivial⟩,⟨by omega,by rw [qcj s i Oo,h2];simp [digN];omega,rfl⟩,by omega⟩
 ·rw [List.take_of_length_le Ys] at h2;exact ⟨by rw [digA,h2],rfl⟩
theorem qji (s:ByteArray) (hs:s.size≤140737488355328) (w:World):Gv Tryz.prog 301 [.string s] w fun v w'=>v=.bool (letA s)∧w'=w:=by
 refine ze Tryz.func301 Tryz.ntmps301 ?_;refine qe (fun i:Nat=>[(0,.string s),(3,ii i)]) (fun i w1=>i≤s.size∧(s.data.toList.take i).all (fun c=>letN c.toNat)=true∧w1=w) (fun i=>s.size-i) 0 ⟨rfl,rfl,trivial⟩ ⟨by omega,rfl,rfl⟩ ?_;rintro i w1 ρ' ⟨h1,h2,rfl⟩;conv=>whnf
 (repeat' (first|refine zp ?_|refine zC (fun _=>zw ?_) (fun _=>zw ?_)))
 all_goals first
  | exact ⟨by rw [q5y (i:=i) Oo (by simp [letN];omega)],rfl⟩
  | exact ⟨i+1,⟨rfl,rfl,trivial⟩,⟨by omega,by rw [qcj s i Oo,h2];simp [letN];omega,rfl⟩,by omega⟩
  | (rw [List.take_of_length_le Ys] at h2;exact ⟨by rw [letA,h2],rfl⟩)
theorem qzg {s:ByteArray} {i:Nat} (h:i<s.size):(s.extract i (i+1)).data.toList=[gb s i]:=by
 have:(s.extract i (i+1)).data.toList=(s.data.toList.drop i).take 1:=by
  rw [ByteArray.data_extract,Array.toList_extract,List.extract_eq_take_drop,Nat.add_sub_cancel_left]
 rw [this,qar s i h];rfl
theorem qtu {s:ByteArray} {i:Nat} (h:i<s.size):(s.extract i (i+1)).size=1:=by
 rw [ByteArray.size_extract];omega
theorem q6b {s:ByteArray} {i:Nat} (h:i<s.size):letA (s.extract i (i+1))=letN (gb s i).toNat:=by rw [letA,qzg h];simp
theorem qzf {s:ByteArray} {i:Nat} (h:i<s.size):digA (s.extract i (i+1))=digN (gb s i).toNat:=by rw [digA,qzg h];simp
theorem q2p {s:ByteArray} {lo hi i:Nat} {p:Bool} (hi':i<s.size) (h:alnB p (gb s i)=false):qy s lo hi p=false:=by
 have:s.data.toList.all (alnB p)=false:=by
  rw [List.all_eq_false];exact ⟨gb s i,by rw [gb,List.getD_eq_getElem?_getD,zge (by simpa using hi')];exact List.getElem_mem _,by simpa using h⟩
 rw [qy,this];rfl
theorem qf3 (s:ByteArray) (lo hi:Nat) (hs:s.size≤140737488355328) (w:World):Gv Tryz.prog 251 [.string s,ii lo,ii hi] w fun v w'=>v=.bool (qy s lo hi false)∧w'=w:=by
 refine ze Tryz.func251 Tryz.ntmps251 ?_;refine qe (fun i:Nat=>[(0,.string s),(1,ii lo),(2,ii hi),(7,ii i)]) (fun i w1=>i≤s.size∧(s.data.toList.take i).all (alnB false)=true∧w1=w) (fun i=>s.size-i) 0 ⟨rfl,rfl,rfl,rfl,trivial⟩ ⟨by omega,rfl,rfl⟩ ?_;rintro i w1 ρ' ⟨h1,h2,rfl⟩;conv=>whnf
 (repeat' (first|refine zp ?_|refine zC (fun _=>zw ?_) (fun _=>zw ?_)))
 ·have hi:i<s.size:=by omega
  have hsz:=qtu hi;refine ⟨i,i+1,rfl,rfl,by omega,by omega,?_⟩;(conv=>whnf);refine zcv (qji (s.extract i (i+1)) Oo w1) ?_;rintro v w2 ⟨rfl,rfl⟩;rw [q6b hi];cases hl:letN (gb s i).toNat
  ·refine zu ?_;refine ⟨i,i+1,rfl,rfl,by omega,by omega,?_⟩;refine zu ?_;refine zcv (qeq (s.extract i (i+1)) Oo w2) ?_;rintro v w3 ⟨rfl,rfl⟩;rw [qzf hi];cases hd:digN (gb s i).toNat
   ·refine zu ?_;exact ⟨by rw [q2p hi (by rw [alnB,hl,hd];rfl)],rfl⟩
   ·refine zu ?_;exact ⟨i+1,⟨rfl,rfl,rfl,rfl,trivial⟩,⟨by omega,by rw [qcj s i hi,h2,alnB,hl,hd];rfl,rfl⟩,by omega⟩
  ·refine zu ?_;exact ⟨i+1,⟨rfl,rfl,rfl,rfl,trivial⟩,⟨by omega,by rw [qcj s i hi,h2,alnB,hl];rfl,rfl⟩,by omega⟩
 all_goals
  rw [List.take_of_length_le Ys] at h2;have hM:qy s lo hi false=decide (lo≤s.size∧s.size≤hi):=by rw [qy,h2];rfl
 ·exact ⟨congrArg Value.bool (by rw [hM,Bool.eq_iff_iff];simp;omega),rfl⟩
 ·exact ⟨congrArg Value.bool (by rw [hM,eq_comm,decide_eq_false_iff_not];omega),rfl⟩
theorem qkn (s:ByteArray) (hs:s.size≤140737488355328) (w:World):Gv Tryz.prog 250 [.string s] w fun v w'=>v=.bool (varB s)∧w'=w:=by
 refine ze Tryz.func250 Tryz.ntmps250 ?_;refine zcv (qf3 s 5 8 hs w) ?_;rintro v w1 ⟨rfl,rfl⟩;cases m1:qy s 5 8 false
 ·refine zu ?_;refine zcv (qf3 s 4 4 hs w1) ?_;rintro v w2 ⟨rfl,rfl⟩;cases m2:qy s 4 4 false
  ·refine zu ?_;exact ⟨by rw [varB,m1,m2];rfl,rfl⟩
  ·have hsz:s.size=4:=by
    simp [qy] at m2;omega
   have h1:=qtu (s:=s) (i:=0) Oo;refine zu ?_;refine ⟨0,1,rfl,rfl,by omega,by omega,?_⟩;refine zu ?_;refine zcv (qeq (s.extract 0 1) (by show (s.extract 0 (0+1)).size≤_;omega) w2) ?_;rintro v w3 ⟨rfl,rfl⟩;refine zu ?_;exact ⟨by rw [varB,m1,m2,qzf (s:=s) (i:=0) Oo];rfl,rfl⟩
 ·refine zu ?_;exact ⟨by rw [varB,m1];rfl,rfl⟩
def glue (cur:LB):List LB→List LB
 | []=>[]
 | p::ps=>(cur++p)::ps
theorem qjq:∀ l:LB,∃ p ps,qa8 l=p::ps
 | []=>⟨_,_,rfl⟩
 | c::t=>by
  unfold qa8
  split
  ·exact ⟨_,_,rfl⟩
  ·split<;>exact ⟨_,_,rfl⟩
theorem qye (cur t:LB):glue cur (qa8 (45::t))=[cur]++glue [] (qa8 t):=by
 obtain ⟨p,ps,h⟩:=qjq t;rw [qa8,if_pos rfl,h];simp [glue]
theorem qyf (cur t:LB) {c:UInt8} (hc:c≠45):glue cur (qa8 (c::t))=glue (cur++[c]) (qa8 t):=by
 obtain ⟨p,ps,h⟩:=qjq t;rw [qa8,if_neg hc,h];simp [glue]
theorem qmi (s:ByteArray) (a b:Nat):(s.extract a b).data.toList=(s.data.toList.drop a).take (b-a):=by
 rw [ByteArray.data_extract,Array.toList_extract,List.extract_eq_take_drop]
theorem qmc:∀ {l m:List ByteArray},l.map (·.data.toList)=m.map (·.data.toList)→l=m
 | [],[],_=>rfl
 | [],_::_,h=>by simp at h
 | _::_,[],h=>by simp at h
 | a::l,b::m,h=>by
  simp only [List.map_cons,List.cons.injEq] at h;obtain ⟨h1,h2⟩:=h;obtain ⟨⟨a⟩⟩:=a;obtain ⟨⟨b⟩⟩:=b;simp only at h1;rw [h1,qmc h2]
theorem qrr:Tryz.prog.underlying 140=some (.slice 9):=Tryz.underlying140
theorem qpi (s:ByteArray) (hs:s.size≤1000000) (w:World) :
  Gv Tryz.prog 245 [.string s] w fun v w'=>∃ A c,v=.slice A (qay s).length c∧Rw w w' (.slice A (qay s).length c) 9 1 (qay s).length ((qay s).map Value.string) []:=by
 obtain ⟨L,hL⟩:∃ L,L=s.data.toList:=⟨_,rfl⟩
 have hLl:L.length=s.size:=by rw [hL];simp
 have fin:∀ done:List ByteArray,qa8 L=done.map (·.data.toList)→done=qay s:=fun done h=>qmc (by rw [← h,hL,qjr])
 refine ze Tryz.func245 Tryz.ntmps245 ?_;refine qe (fun x:Nat × Nat × List ByteArray × oA × Nat=>[(0,.string s),(3,.slice x.2.2.2.1 x.2.2.1.length x.2.2.2.2),(4,ii x.2.1),(5,ii x.1)])
  (fun x w2=>x.1≤s.size∧x.2.1≤x.1∧x.2.2.1.length≤x.1∧Rw w w2 (.slice x.2.2.2.1 x.2.2.1.length x.2.2.2.2) 9 1 x.2.2.1.length (x.2.2.1.map Value.string) []∧
   qa8 L=x.2.2.1.map (·.data.toList)++glue ((L.drop x.2.1).take (x.1-x.2.1)) (qa8 (L.drop x.1)))
  (fun x=>s.size-x.1) (0,0,[],none,0) ⟨rfl,rfl,rfl,rfl,trivial⟩ ⟨by simp,by simp,by simp,Rw.nil (Mem.nil w),by
   obtain ⟨p,ps,h⟩:=qjq L;simp [glue,h]⟩ ?_
 rintro ⟨i,fr,done,B,d⟩ w2 ρ' ⟨h1,h2,h3,hR,h4⟩;simp only at h1 h2 h3 hR h4;dsimp only;conv=>whnf
 (repeat' (first|refine zp ?_|refine zC (fun _=>zw ?_) (fun _=>zw ?_)))
 ·have hi:i<s.size:=by omega
  have hdrop:L.drop i=gb s i::L.drop (i+1):=by rw [hL];exact qar s i hi
  rw [hdrop,show gb s i=45 by rw [← UInt8.toNat_inj];show _=45;omega,qye] at h4;refine ⟨fr,i,rfl,rfl,by omega,by omega,?_⟩;(conv=>whnf);refine NewV.rw hR fun nb w4 hR4=>zw ?_;refine AppV.one qrr strI strZ Ok rfl (by decide +kernel) hR4 rfl Oo ?_;intro B' d' w5 hR5;refine zu ?_;refine ⟨(i+1,i+1,done++[s.extract fr i],B',d'),⟨rfl,by simp only [zla];rfl,rfl,rfl,trivial⟩,⟨by simp only;omega,by simp only;omega,by simp;omega,?_,?_⟩,by simp only;omega⟩
  ·simp only [zla,List.length_singleton,List.map_append,List.map_cons,List.map_nil];exact hR5
  ·simp only [List.map_append,List.map_cons,List.map_nil,qmi,Nat.sub_self,List.take_zero];rw [h4,← hL,List.append_assoc]
 ·have hi:i<s.size:=by omega
  have hdrop:L.drop i=gb s i::L.drop (i+1):=by rw [hL];exact qar s i hi
  have hc:gb s i≠45:=fun e=>by
   have:(gb s i).toNat=45:=by rw [e];rfl
   omega
  rw [hdrop,qyf _ _ hc] at h4;refine ⟨(i+1,fr,done,B,d),⟨rfl,rfl,rfl,rfl,trivial⟩,⟨by simp only;omega,by simp only;omega,by simp only;omega,hR,?_⟩,by simp only;omega⟩;simp only;rw [h4]
  congr 2
  have e:i+1-fr=(i-fr)+1:=by omega
  rw [e,List.take_add_one]
  congr 1
  rw [List.getElem?_drop,show fr+(i-fr)=i by omega];have:=congrArg List.head? hdrop;rw [List.head?_drop] at this;rw [this];rfl
 ·rw [List.drop_eq_nil_of_le (show L.length≤i by omega)] at h4;refine ⟨fr,s.size,rfl,rfl,by omega,by omega,?_⟩;(conv=>whnf);refine NewV.rw hR fun nb w4 hR4=>zw ?_;refine AppV.one qrr strI strZ Ok rfl (by decide +kernel) hR4 rfl Oo ?_;intro B' d' w5 hR5;(conv=>whnf);have hd:=fin (done++[s.extract fr s.size]) (by
   rw [h4];simp only [List.map_append,List.map_cons,List.map_nil,qmi,← hL,show i=s.size by omega];simp [glue,qa8])
  rw [← hd];have hR6:Rw w w5 (.slice B' (done++[s.extract fr s.size]).length d') 9 1 (done++[s.extract fr s.size]).length ((done++[s.extract fr s.size]).map Value.string) []:=by
   simp only [zla,List.length_singleton,List.map_append,List.map_cons,List.map_nil];exact hR5
  exact ⟨B',d',by rw [zla];rfl,hR6⟩
def jn:List ByteArray→LB
 | []=>[]
 | x::xs=>x.data.toList++xs.flatMap fun y=>45::y.data.toList
theorem q5q (l:List ByteArray) (x:ByteArray):jn (l++[x])=if l=[] then x.data.toList else jn l++([45]++x.data.toList):=by
 cases l with
 | nil=>simp [jn]
 | cons y ys=>simp [jn]
theorem qsz:∀ (l:List ByteArray),(∀ x∈l,x.size≤1000000)→(l.flatMap fun y=>(45:UInt8)::y.data.toList).length≤l.length*1000001
 | [],_=>by simp
 | x::l,h=>by
  have:=qsz l fun y hy=>h y (zmc hy)
  have hx:=h x mh;have e:x.data.toList.length=x.size:=by simp
  rw [List.flatMap_cons,zla,List.length_cons,List.length_cons,e];omega
theorem q70 (l:List ByteArray) (h:∀ x∈l,x.size≤1000000):(jn l).length≤l.length*1000001:=by
 cases l with
 | nil=>simp [jn]
 | cons x l=>
  have:=qsz l fun y hy=>h y (zmc hy)
  have hx:=h x mh;have e:x.data.toList.length=x.size:=by simp
  rw [jn,zla,List.length_cons,e];omega
theorem qe6 (l:List ByteArray) (A:oA) (c:Nat) (w:World) (hS:SlAt V.zeS 1 w A l) (hx:∀ x∈l,x.size≤1000000) (hn:l.length≤1000000) :
  Gv Tryz.prog 299 [.slice A l.length c] w fun v w'=>v=.string ⟨(jn l).toArray⟩∧Ext w w':=by
 refine ze Tryz.func299 Tryz.ntmps299 ?_;refine qe (fun x:Nat × oA × Nat=>[(0,.slice A l.length c),(3,.slice x.2.1 (jn (l.take x.1)).length x.2.2),(4,ii x.1)])
  (fun x w2=>x.1≤l.length∧Rw w w2 (.slice x.2.1 (jn (l.take x.1)).length x.2.2) 5 1 (jn (l.take x.1)).length (byteCells (jn (l.take x.1))) [])
  (fun x=>l.length-x.1) (0,none,0) ⟨rfl,rfl,rfl,trivial⟩ ⟨by simp,Rw.nil (Mem.nil w)⟩ ?_
 rintro ⟨k,B,d⟩ w2 ρ' ⟨h1,hR⟩;simp only at h1 hR;dsimp only;have hlen:=q70 (l.take k) (fun x hxx=>hx x (List.mem_of_mem_take hxx));rw [List.length_take] at hlen;conv=>whnf
 (repeat' refine zC (fun _=>zw ?_) (fun _=>zw ?_))
 ·have hk:k<l.length:=by omega
  refine NewV.rw hR fun nb w4 hR4=>zw ?_;refine AppV.one (i:=_) (z:=.int .u8 0) Tryz.underlying60 (Option.some_get Ok).symm Ok Ok rfl (by decide +kernel) hR4 rfl Oo ?_;intro B' d' w5 hR5;(conv=>whnf);refine ElemV.sl (hS.ext hR5.mem.ext) rfl k rfl hk ?_;intro b off hc;refine LoadV.cell0 hc (zw ?_);have hxk:=hx _ (List.getElem_mem hk);refine AppV.rwS (i:=_) Tryz.underlying60 Tryz.underlying9 (Option.some_get Ok).symm Ok Ok Ok hR5 (fun x hx c fz=>by simp at hx) Oo fun v' w6 hR6=>?_;obtain ⟨A',c',rfl⟩:=hR6.slice;refine zu ?_;have e:jn (l.take (k+1))=jn (l.take k)++([45]++(l[k]).data.toList):=by
   rw [List.take_succ_eq_append_getElem hk,q5q,if_neg (by intro e;have h9:=congrArg List.length e;rw [List.length_take,List.length_nil] at h9;omega)]
  have el:(jn (l.take (k+1))).length=(jn (l.take k)).length+1+(l[k]).size:=by rw [e];simp;omega
  refine ⟨(k+1,A',c'),⟨rfl,by simp only [el];rfl,rfl,trivial⟩,⟨by simp only;omega,?_⟩,by simp only;omega⟩;simp only;rw [el,e,qbd,qbd,← List.append_assoc];exact hR6
 ·have hk:k<l.length:=by omega
  obtain rfl:k=0:=by omega
  refine ElemV.sl (hS.ext hR.mem.ext) rfl 0 rfl hk ?_;intro b off hc;refine LoadV.cell0 hc (zw ?_);have hxk:=hx _ (List.getElem_mem hk);refine AppV.rwS (i:=_) Tryz.underlying60 Tryz.underlying9 (Option.some_get Ok).symm Ok Ok Ok hR (fun x hx c fz=>by simp at hx) Oo fun v' w6 hR6=>?_;obtain ⟨A',c',rfl⟩:=hR6.slice;refine zu ?_;have e:jn (l.take (0+1))=jn (l.take 0)++(l[0]).data.toList:=by
   rw [List.take_succ_eq_append_getElem hk];simp [jn]
  have el:(jn (l.take (0+1))).length=(jn (l.take 0)).length+(l[0]).size:=by rw [e];simp
  refine ⟨(1,A',c'),⟨rfl,by simp only [el];rfl,rfl,trivial⟩,⟨by simp only;omega,?_⟩,by simp only;omega⟩;simp only;rw [show (1:Nat)=0+1 from rfl,el,e,qbd];exact hR6
 ·obtain rfl:k=l.length:=by omega
  rw [List.take_length] at hR ⊢;refine BytesS.rw hR (zw ?_);exact ⟨rfl,hR.mem.ext⟩
theorem qel {w0 w:World} {L:List (Nat × Obj)} {b off:Nat} {cs:Array Value} {t:TypeId} {v:Value} {K:World→Prop} (hm:Mem w0 w L) (hi:(b,Obj.cells cs t)∈L) (ho:off<cs.size) (h1:qbz v=true)
  (hk:∀ w' L',Mem w0 w' L'→(b,Obj.cells (cs.setIfInBounds off v) t)∈L'→(∀ y∈L,y.1≠b→y∈L')→K w'):StoreV w b off v K:=by
 obtain ⟨i,hi⟩:=List.mem_iff_getElem?.1 hi;exact StoreV.mem hm hi ho h1 fun w' h=>hk w' _ h (qew hi).1 (qew hi).2
theorem V.SliceV.tailA {A:oA} {g off n m c:Nat} {k:IntKind} {K:Value→Prop} (hA:A=some ⟨g,off,none⟩) (hn:n=m+1) (hc:n≤c)
  (hk:∀ A' c',(m≠0→A'=some ⟨g,off+1,none⟩)→m≤c'→K (.slice A' m c')):SliceV 1 A n c (some (.int k 1)) none none K:=by
 subst hn hA;refine ⟨1,m+1,c,rfl,rfl,rfl,by omega,by omega,by omega,fun h=>by simp at h,fun A' hA'=>?_⟩;have hk:=hk A' (c-1) (fun hne=>?_) Oo
 ·simpa using hk
 ·rw [if_neg Oo] at hA';rw [hA'];show some ((⟨g,off,none⟩:Addr).add (1*1))=_;rw [qad]
structure RQ0 (w0 w:World) (O:List Nat) (rb tb:Nat) (rest:List ByteArray) (a0:ByteArray) (vs es:List ByteArray) (A:oA) (c:Nat) (X Y T4 T5:Value) (a1 a2 a3 a6:ByteArray) (L:List (Nat × Obj)) (R2:List (List Value × Value)):Prop where
 mem:Mem w0 w L
 rd:(rb,Obj.cells #[.slice A rest.length c] 346)∈L
 tg:(tb,Obj.cells (tagC a0 a1 a2 a3 T4 T5 a6).toArray 278)∈L
 rows:RowsP 9 O L ((vs.map Value.string,X)::(es.map Value.string,Y)::R2)
 sl:rest≠[]→∃ g cur off,A=some ⟨g,off,none⟩∧g∈O∧g≠rb∧g≠tb∧(g,Obj.cells cur 9)∈L∧∀ (j:Nat) x,rest[j]?=some x→cur[off+j]?=some (Value.string x)
 hc:rest.length≤c
 hrb:rb∈O
 htb:tb∈O
 ne:rb≠tb
 all:∀ g∈O,∃ o,(g,o)∈L
 small:∀ x∈rest,x.size≤1000000
def RQ (w0 w:World) (O:List Nat) (rb tb:Nat) (rest:List ByteArray) (a0:ByteArray) (vs es:List ByteArray) (R2:List (List Value × Value)):Prop:=
 ∃ A c X Y a1 a2 a3 a6 L,RQ0 w0 w O rb tb rest a0 vs es A c X Y X Y a1 a2 a3 a6 L R2
section
variable {w0 w w':World} {O:List Nat} {rb tb:Nat} {rest:List ByteArray} {a0:ByteArray} {vs es:List ByteArray} {R2:List (List Value × Value)}
theorem RQ.call (h:RQ w0 w O rb tb rest a0 vs es R2) (he:Ext w w'):RQ w0 w' O rb tb rest a0 vs es R2:=by
 obtain ⟨A,c,X,Y,a1,a2,a3,a6,L,h⟩:=h;exact ⟨A,c,X,Y,a1,a2,a3,a6,L,{ h with mem:=h.mem.call he }⟩
theorem RQ.drew (h:RQ w0 w O rb tb rest a0 vs es R2):RQ w0 w.drew O rb tb rest a0 vs es R2:=h.call (Ext.refl w).drew
theorem RQ.ext (h:RQ w0 w O rb tb rest a0 vs es R2):Ext w0 w:=by
 obtain ⟨A,c,X,Y,a1,a2,a3,a6,L,h⟩:=h;exact h.mem.ext
theorem RQ.small (h:RQ w0 w O rb tb rest a0 vs es R2):∀ x∈rest,x.size≤1000000:=by
 obtain ⟨A,c,X,Y,a1,a2,a3,a6,L,h⟩:=h;exact h.small
theorem RQ0.slAt {A:oA} {c:Nat} {X Y T4 T5:Value} {a1 a2 a3 a6:ByteArray} {L:List (Nat × Obj)} (h:RQ0 w0 w O rb tb rest a0 vs es A c X Y T4 T5 a1 a2 a3 a6 L R2):SlAt V.zeS 1 w A rest:=by
 refine ⟨fun hne=>?_⟩;obtain ⟨g,cur,off,rfl,_,_,_,hg,hx⟩:=h.sl hne;refine ⟨g,off,rfl,fun j x hj k v hv=>?_⟩;cases k with
 | succ k=>simp [V.zeS] at hv
 | zero=>
  simp only [V.zeS,List.getElem?_cons_zero,Option.some.injEq] at hv;subst hv;rw [qa (h.mem.get hg),Nat.add_zero,Nat.mul_one];exact hx j x hj
theorem RQ.ldr {K:Value→Prop} (h:RQ w0 w O rb tb rest a0 vs es R2) (hk:∀ A c,SlAt V.zeS 1 w A rest→rest.length≤c→K (.slice A rest.length c)):LoadV w rb 0 K:=by
 obtain ⟨A,c,X,Y,a1,a2,a3,a6,L,h⟩:=h;exact LoadV.own (h.mem.get h.rd) rfl (hk A c h.slAt h.hc)
theorem RQ.ld0 {K:Value→Prop} (h:RQ w0 w O rb tb rest a0 vs es R2) (hk:K (.string a0)):LoadV w tb 0 K:=by
 obtain ⟨A,c,X,Y,a1,a2,a3,a6,L,h⟩:=h;exact LoadV.own (h.mem.get h.tg) rfl hk
theorem RQ0.tag {A:oA} {c:Nat} {X Y T4 T5:Value} {a1 a2 a3 a6 b0 b1 b2 b3 b6:ByteArray} {L L':List (Nat × Obj)} (h:RQ0 w0 w O rb tb rest a0 vs es A c X Y T4 T5 a1 a2 a3 a6 L R2) (hm:Mem w0 w' L')
  (ht:(tb,Obj.cells (tagC b0 b1 b2 b3 X Y b6).toArray 278)∈L') (hk:∀ y∈L,y.1≠tb→y∈L'):RQ w0 w' O rb tb rest b0 vs es R2:=by
 refine ⟨A,c,X,Y,b1,b2,b3,b6,L',hm,hk _ h.rd h.ne,ht,h.rows.keep fun y hy hO=>hk y hy fun e=>hO (e ▸ h.htb),fun hne=>?_,h.hc,h.hrb,h.htb,h.ne,fun g hg=>?_,h.small⟩
 ·obtain ⟨g,cur,off,h1,h2,h3,h4,h5,h6⟩:=h.sl hne;exact ⟨g,cur,off,h1,h2,h3,h4,hk _ h5 h4,h6⟩
 ·by_cases e:g=tb
  ·subst e;exact ⟨_,ht⟩
  ·obtain ⟨o,ho⟩:=h.all g hg;exact ⟨o,hk _ ho e⟩
theorem RQ.st {K:World→Prop} (h:RQ w0 w O rb tb rest a0 vs es R2) {k:Nat} (hk:k=1∨k=2∨k=3∨k=6) (s:ByteArray) (hK:∀ w',RQ w0 w' O rb tb rest a0 vs es R2→K w'):StoreV w tb k (.string s) K:=by
 obtain ⟨A,c,X,Y,a1,a2,a3,a6,L,h⟩:=h;have hlt:k<(tagC a0 a1 a2 a3 X Y a6).toArray.size:=by simp [tagC];omega
 refine qel h.mem h.tg hlt rfl fun w' L' hm ht hkp=>hK w' ?_
 rcases hk with rfl|rfl|rfl|rfl
 all_goals exact h.tag hm ht hkp
theorem RQ.st0 {K:World→Prop} (h:RQ w0 w O rb tb rest a0 vs es R2) (s:ByteArray) (hK:∀ w',RQ w0 w' O rb tb rest s vs es R2→K w'):StoreV w tb 0 (.string s) K:=by
 obtain ⟨A,c,X,Y,a1,a2,a3,a6,L,h⟩:=h;exact qel h.mem h.tg (by simp [tagC]) rfl fun w' L' hm ht hkp=>hK w' (h.tag hm ht hkp)
end
section
variable {w0 w w':World} {O:List Nat} {rb tb:Nat} {rest:List ByteArray} {a0:ByteArray} {vs es:List ByteArray} {R2:List (List Value × Value)} {X Y T4 T5:Value} {A:oA} {c:Nat} {a1 a2 a3 a6:ByteArray} {L L':List (Nat × Obj)}
theorem RQ0.call (h:RQ0 w0 w O rb tb rest a0 vs es A c X Y T4 T5 a1 a2 a3 a6 L R2) (he:Ext w w'):RQ0 w0 w' O rb tb rest a0 vs es A c X Y T4 T5 a1 a2 a3 a6 L R2:={ h with mem:=h.mem.call he }
theorem RQ0.grow {X' Y':Value} {vs' es':List ByteArray} {R':List (List Value × Value)} (h:RQ0 w0 w O rb tb rest a0 vs es A c X Y T4 T5 a1 a2 a3 a6 L R2) (hm:Mem w0 w' L') (hR:RowsP 9 O L' ((vs'.map Value.string,X')::(es'.map Value.string,Y')::R')) (hk:∀ y∈L,y.1∈O→y∈L'):RQ0 w0 w' O rb tb rest a0 vs' es' A c X' Y' T4 T5 a1 a2 a3 a6 L' R':=by
 refine ⟨hm,hk _ h.rd h.hrb,hk _ h.tg h.htb,hR,fun hne=>?_,h.hc,h.hrb,h.htb,h.ne,fun g hg=>?_,h.small⟩
 ·obtain ⟨g,cur,off,h1,h2,h3,h4,h5,h6⟩:=h.sl hne;exact ⟨g,cur,off,h1,h2,h3,h4,hk _ h5 h2,h6⟩
 ·obtain ⟨o,ho⟩:=h.all g hg;exact ⟨o,hk _ ho hg⟩
theorem V.RowsP.nilrow {e:TypeId} {R:List (List Value × Value)} (h:RowsP e O L R):RowsP e O L (R++[([],.slice none 0 0)]):=by
 have back:∀ (k:Nat) p,(R++[([],Value.slice none 0 0)])[k]?=some p→R[k]?=some p∨p=([],.slice none 0 0):=fun k p hp=>by
  rw [List.getElem?_append] at hp
  split at hp
  ·exact .inl hp
  ·exact .inr (by have:=zmg hp;simpa using this)
 refine ⟨fun k p hp=>?_,fun k p g hp hg=>?_,fun k k' p p' g hp hp' hne hg=>?_⟩
 ·rcases back k p hp with hp|rfl
  ·exact h.row k p hp
  ·exact RowB.nil e L
 ·rcases back k p hp with hp|rfl
  ·exact h.out k p g hp hg
  ·cases hg
 ·rcases back k p hp with hp|rfl
  ·rcases back k' p' hp' with hp' | rfl
   ·exact h.ap k k' p p' g hp hp' hne hg
   ·intro hg';cases hg'
  ·cases hg
theorem V.RowsP.newrow {e:TypeId} {R:List (List Value × Value)} {x:Value} {b:Nat} (h:RowsP e O L R) (hb:∀ y∈L,y.1≠b) (hO:b∉O):RowsP e O ((b,.cells #[x] e)::L) (R++[([x],.slice (some ⟨b,0,none⟩) 1 1)]):=by
 have back:∀ (k:Nat) p,(R++[([x],Value.slice (some ⟨b,0,none⟩) 1 1)])[k]?=some p→R[k]?=some p∨(k=R.length∧p=([x],.slice (some ⟨b,0,none⟩) 1 1)):=fun k p hp=>by
  rw [List.getElem?_append] at hp
  split at hp
  ·exact .inl hp
  ·obtain ⟨h1,h2⟩:=List.getElem?_eq_some_iff.1 hp;simp at h1;have:k-R.length=0:=by omega
   refine .inr ⟨by omega,?_⟩
   simpa [this] using h2.symm
 have fresh:∀ (k:Nat) p,R[k]?=some p→p.2.ownBlock≠some b:=fun k p hp hg=>by
  obtain ⟨o,hin⟩:=(h.row k p hp).in_ hg;exact hb _ hin rfl
 refine ⟨fun k p hp=>?_,fun k p g hp hg=>?_,fun k k' p p' g hp hp' hne hg=>?_⟩
 ·rcases back k p hp with hp|⟨_,rfl⟩
  ·exact (h.row k p hp).keep fun y hy _=>zmc hy
  ·exact ⟨.inr ⟨b,1,#[x],rfl,List.mem_cons_self ..,Nat.le_refl _,by decide,rfl,rfl⟩⟩
 ·rcases back k p hp with hp|⟨_,rfl⟩
  ·exact h.out k p g hp hg
  ·cases hg;exact hO
 ·rcases back k p hp with hp|⟨e1,rfl⟩<;>rcases back k' p' hp' with hp' | ⟨e2,rfl⟩
  ·exact h.ap k k' p p' g hp hp' hne hg
  ·intro hg';cases hg';exact fresh k p hp hg
  ·cases hg;exact fresh k' p' hp'
  ·exact absurd (e1.trans e2.symm) hne
theorem V.RowsP.cut {e:TypeId} {R R':List (List Value × Value)} (h:RowsP e O L (R++R')):RowsP e O L R:=by
 have up:∀ (k:Nat) p,R[k]?=some p→(R++R')[k]?=some p:=fun k p hp=>by
  rw [List.getElem?_append_left (List.getElem?_eq_some_iff.1 hp).1,hp]
 exact ⟨fun k p hp=>h.row k p (up k p hp),fun k p g hp hg=>h.out k p g (up k p hp) hg,fun k k' p p' g hp hp' hne hg=>h.ap k k' p p' g (up k p hp) (up k' p' hp') hne hg⟩
theorem RQ.nilrow (h:RQ w0 w O rb tb rest a0 vs es []):RQ w0 w O rb tb rest a0 vs es [([],.slice none 0 0)]:=by
 obtain ⟨A,c,X,Y,a1,a2,a3,a6,L,h⟩:=h;exact ⟨A,c,X,Y,a1,a2,a3,a6,L,{ h with rows:=h.rows.nilrow }⟩
theorem RQ.cut (h:RQ w0 w O rb tb rest a0 vs es R2):RQ w0 w O rb tb rest a0 vs es []:=by
 obtain ⟨A,c,X,Y,a1,a2,a3,a6,L,h⟩:=h;exact ⟨A,c,X,Y,a1,a2,a3,a6,L,{ h with rows:=RowsP.cut (R:=[(vs.map Value.string,X),(es.map Value.string,Y)]) (R':=R2) h.rows }⟩
theorem NewV.rq {o:Obj} {K:Nat→World→Prop} (h:RQ w0 w O rb tb rest a0 vs es R2) (hk:∀ b w',RQ w0 w' O rb tb rest a0 vs es R2→w'.heap[b]?=some o→K b w'):NewV w o K:=
 ⟨fun b w' hb hw=>hk b w' (h.call (by subst hw;exact (Ext.refl w).alloc o)) (by subst hb hw;exact heap_alloc_new w o)⟩
theorem NewV.rq0 {o:Obj} {K:Nat→World→Prop} (h:RQ0 w0 w O rb tb rest a0 vs es A c X Y T4 T5 a1 a2 a3 a6 L R2) (hk:∀ b w',RQ0 w0 w' O rb tb rest a0 vs es A c X Y T4 T5 a1 a2 a3 a6 L R2→w'.heap[b]?=some o→K b w'):NewV w o K:=
 ⟨fun b w' hb hw=>hk b w' (h.call (by subst hw;exact (Ext.refl w).alloc o)) (by subst hb hw;exact heap_alloc_new w o)⟩
theorem NewV.rqrow {x:Value} {K:Nat→World→Prop} (h:RQ w0 w O rb tb rest a0 vs es []) (hk:∀ b w',RQ w0 w' O rb tb rest a0 vs es [([x],.slice (some ⟨b,0,none⟩) 1 1)]→K b w'):NewV w (.cells #[x] 9) K:=by
 obtain ⟨A,c,X,Y,a1,a2,a3,a6,L,h⟩:=h;refine ⟨fun b w' hb hw=>hk b w' ?_⟩;have hlt:∀ y∈L,y.1≠b:=fun y hy e=>by have:=h.mem.lt (o:=y.2) (b:=y.1) hy;omega
 have hO:b∉O:=fun hg=>by
  obtain ⟨o,ho⟩:=h.all b hg;exact hlt _ ho rfl
 have hr:=RowsP.newrow (x:=x) h.rows hlt hO;exact ⟨A,c,X,Y,a1,a2,a3,a6,_,h.grow (h.mem.new hb hw) hr fun y hy _=>zmc hy⟩
theorem RQ.appL {l:List ByteArray} {x:ByteArray} {nb:Nat} {B:oA} {d ty:TypeId} {K:Value→World→Prop} (h:RQ w0 w O rb tb rest a0 vs es [(l.map Value.string,.slice B l.length d)]) (hb:w.heap[nb]?=some (.cells #[.string x] 9)) (hl:l.length≤7000000000000)
  (hk:∀ B' d' w',RQ w0 w' O rb tb rest a0 vs es [((l++[x]).map Value.string,.slice B' (l++[x]).length d')]→K (.slice B' (l.length+1) d') w'):AppV Tryz.prog #[140,140] ty (.slice B l.length d) (.slice (some ⟨nb,0,none⟩) 1 1) w K:=by
 obtain ⟨A,c,X,Y,a1,a2,a3,a6,L,h⟩:=h;refine h.rows.app 2 rfl qrr strI strZ Ok rfl (by decide +kernel) h.mem h.all Js rfl (by rw [qa hb];rfl) Oo ?_;intro B' d' w' L' hm hR hkp;refine hk B' d' w' ⟨A,c,X,Y,a1,a2,a3,a6,L',h.grow hm ?_ hkp⟩;rw [List.map_append,zla];exact hR
theorem RQ.rowL {l:List ByteArray} {B:oA} {n d:Nat} (h:RQ w0 w O rb tb rest a0 vs es [(l.map Value.string,.slice B n d)]):SlAt V.zeS 1 w B l:=by
 obtain ⟨A,c,X,Y,a1,a2,a3,a6,L,h⟩:=h;exact RowB.sl (h.rows.row 2 _ rfl) h.mem
theorem RQ0.rowL {l:List ByteArray} {B:oA} {n d:Nat} (h:RQ0 w0 w O rb tb rest a0 vs es A c X Y T4 T5 a1 a2 a3 a6 L [(l.map Value.string,.slice B n d)]):SlAt V.zeS 1 w B l:=RowB.sl (h.rows.row 2 _ rfl) h.mem
theorem RQ0.app4 {x:ByteArray} {nb:Nat} {B:oA} {d ty:TypeId} {K:Value→World→Prop} (h:RQ0 w0 w O rb tb rest a0 vs es A c (.slice B vs.length d) Y T4 T5 a1 a2 a3 a6 L R2) (hb:w.heap[nb]?=some (.cells #[.string x] 9)) (hl:vs.length≤7000000000000)
  (hk:∀ B' d' w' L',RQ0 w0 w' O rb tb rest a0 (vs++[x]) es A c (.slice B' (vs.length+1) d') Y T4 T5 a1 a2 a3 a6 L' R2→K (.slice B' (vs.length+1) d') w'):AppV Tryz.prog #[140,140] ty (.slice B vs.length d) (.slice (some ⟨nb,0,none⟩) 1 1) w K:=by
 refine h.rows.app 0 rfl qrr strI strZ Ok rfl (by decide +kernel) h.mem h.all Js rfl (by rw [qa hb];rfl) Oo ?_;intro B' d' w' L' hm hR hkp;refine hk B' d' w' L' (h.grow hm ?_ hkp);rw [List.map_append];exact hR
theorem RQ0.app5 {x:ByteArray} {nb:Nat} {B:oA} {d ty:TypeId} {K:Value→World→Prop} (h:RQ0 w0 w O rb tb rest a0 vs es A c X (.slice B es.length d) T4 T5 a1 a2 a3 a6 L R2) (hb:w.heap[nb]?=some (.cells #[.string x] 9)) (hl:es.length≤7000000000000)
  (hk:∀ B' d' w' L',RQ0 w0 w' O rb tb rest a0 vs (es++[x]) A c X (.slice B' (es.length+1) d') T4 T5 a1 a2 a3 a6 L' R2→K (.slice B' (es.length+1) d') w'):AppV Tryz.prog #[140,140] ty (.slice B es.length d) (.slice (some ⟨nb,0,none⟩) 1 1) w K:=by
 refine h.rows.app 1 rfl qrr strI strZ Ok rfl (by decide +kernel) h.mem h.all Js rfl (by rw [qa hb];rfl) Oo ?_;intro B' d' w' L' hm hR hkp;refine hk B' d' w' L' (h.grow hm ?_ hkp);rw [List.map_append];exact hR
theorem RQ0.st4 {B:oA} {n d:Nat} {K:World→Prop} (h:RQ0 w0 w O rb tb rest a0 vs es A c (.slice B n d) Y T4 Y a1 a2 a3 a6 L R2) (hK:∀ w',RQ w0 w' O rb tb rest a0 vs es R2→K w'):StoreV w tb 4 (.slice B n d) K:=
 qel h.mem h.tg (by simp [tagC]) rfl fun w' L' hm ht hkp=>hK w' (h.tag hm ht hkp)
theorem RQ0.st5 {B:oA} {n d:Nat} {K:World→Prop} (h:RQ0 w0 w O rb tb rest a0 vs es A c X (.slice B n d) X T5 a1 a2 a3 a6 L R2) (hK:∀ w',RQ w0 w' O rb tb rest a0 vs es R2→K w'):StoreV w tb 5 (.slice B n d) K:=
 qel h.mem h.tg (by simp [tagC]) rfl fun w' L' hm ht hkp=>hK w' (h.tag hm ht hkp)
end
def qen (lo hi:Nat) (dig:Bool):List ByteArray→Bool
 | []=>false
 | x::_=>decide (lo≤x.size∧x.size≤hi)&&(bif dig then digA x else letA x)
theorem qbe {w0 w:World} {O:List Nat} {rb tb:Nat} {x:ByteArray} {xs:List ByteArray} {a0:ByteArray} {vs es:List ByteArray} {R2:List (List Value × Value)} (h:RQ w0 w O rb tb (x::xs) a0 vs es R2) :
  Gv Tryz.prog 249 [pp rb] w fun v w'=>v=.string x∧RQ w0 w' O rb tb xs a0 vs es R2:=by
 refine ze Tryz.func249 Tryz.ntmps249 ?_;refine h.ldr ?_;intro A c hS hc;(conv=>whnf);refine ElemV.sl hS rfl 0 rfl Js ?_;intro b off hcl;(conv=>whnf);refine LoadV.cell0 hcl (zw ?_);obtain ⟨A,c,X,Y,a1,a2,a3,a6,L,h⟩:=h;refine LoadV.own (h.mem.get h.rd) rfl (zw ?_);obtain ⟨g,cur,off,rfl,hg,g1,g2,g3,g4⟩:=h.sl Js;refine V.SliceV.tailA rfl rfl h.hc ?_;intro A' c' hA' hc';(conv=>whnf);refine qel h.mem h.rd (show 0<1 by omega) rfl ?_;intro w2 L2 hm hr hk;(conv=>whnf);refine ⟨rfl,A',c',X,Y,a1,a2,a3,a6,L2,hm,hr,hk _ h.tg (fun e=>h.ne e.symm),h.rows.keep fun y hy hO=>hk y hy fun e=>hO (e ▸ h.hrb),fun hne=>?_,hc',h.hrb,h.htb,h.ne,fun g' hg'=>?_,fun y hy=>h.small y (zmc hy)⟩
 ·refine ⟨g,cur,off+1,hA' (by simpa using hne),hg,g1,g2,hk _ g3 g1,fun j y hj=>?_⟩;have:=g4 (j+1) y (by simpa using hj)
  rwa [show off+1+j=off+(j+1) by omega]
 ·by_cases e:g'=rb
  ·subst e;exact ⟨_,hr⟩
  ·obtain ⟨o,ho⟩:=h.all g' hg';exact ⟨o,hk _ ho e⟩
theorem qhq {w0 w:World} {O:List Nat} {rb tb:Nat} {rest:List ByteArray} {a0:ByteArray} {vs es:List ByteArray} {R2:List (List Value × Value)} (lo hi:Nat) (dig:Bool) (h:RQ w0 w O rb tb rest a0 vs es R2) :
  Gv Tryz.prog 248 [pp rb,ii lo,ii hi,.bool dig] w fun v w'=>v=.bool (qen lo hi dig rest)∧RQ w0 w' O rb tb rest a0 vs es R2:=by
 refine ze Tryz.func248 Tryz.ntmps248 ?_;refine h.ldr ?_;intro A c hS hc;(conv=>whnf);cases rest with
 | nil=>
  refine zC (fun _=>zu ?_) (fun _=>zu ?_)
  ·exact ⟨rfl,h⟩
  ·exact absurd rfl Oa
 | cons x xs=>
  have hx:=h.small x mh;simp only [List.length_cons] at hc ⊢;refine zv ?_;refine h.ldr ?_;intro A c hS hc;refine zu ?_;refine ElemV.sl hS rfl 0 rfl Js ?_;intro b off hcl;refine zu ?_;refine LoadV.cell0 hcl (zw ?_);refine zt ?_;refine zC (fun _=>zu ?_) (fun _=>zu ?_)
  ·have:¬ (lo≤x.size∧x.size≤hi):=fun e=>by simp only [List.getElem_cons_zero] at *;omega
   exact ⟨by rw [qen,decide_eq_false this];rfl,h⟩
  ·refine h.ldr ?_;intro A c hS hc;refine zu ?_;refine ElemV.sl hS rfl 0 rfl Js ?_;intro b off hcl;refine zu ?_;refine LoadV.cell0 hcl (zw ?_);refine zt ?_;refine zC (fun _=>zw ?_) (fun _=>zw ?_)
   ·have:¬ (lo≤x.size∧x.size≤hi):=fun e=>by simp only [List.getElem_cons_zero] at *;omega
    exact ⟨by rw [qen,decide_eq_false this];rfl,h⟩
   ·have hin:lo≤x.size∧x.size≤hi:=by simp only [List.getElem_cons_zero] at *;omega
    have em:qen lo hi dig (x::xs)=bif dig then digA x else letA x:=by rw [qen,decide_eq_true hin,Bool.true_and]
    rw [em];cases dig
    all_goals
     refine zu ?_;refine h.ldr ?_;intro A c hS hc;(conv=>whnf);refine ElemV.sl hS rfl 0 rfl Js ?_;intro b off hcl;(conv=>whnf);refine LoadV.cell0 hcl (zw ?_)
    ·refine zcv (qji x Oo w) ?_;rintro v w' ⟨rfl,rfl⟩;(conv=>whnf);exact ⟨rfl,h⟩
    ·refine zcv (qeq x Oo w) ?_;rintro v w' ⟨rfl,rfl⟩;(conv=>whnf);exact ⟨rfl,h⟩
theorem qcc (lo hi:Nat) (x:ByteArray) (xs:List ByteArray):qen lo hi false (x::xs)=qy x lo hi true:=by
 have:letA x=x.data.toList.all (alnB true):=by
  unfold letA
  congr 1
  funext c
  simp [alnB]
 rw [qen,qy,cond_false,this,Bool.and_comm]
theorem qqu {w0 w:World} {O:List Nat} {rb tb:Nat} {rest:List ByteArray} {a0:ByteArray} {vs es:List ByteArray} (h:RQ w0 w O rb tb rest a0 vs es []) :
  Gv Tryz.prog 247 [pp rb,pp tb] w fun v w'=>(qdx rest=none∧v=.bool false∧Ext w0 w')∨
   ∃ rest' b0,qdx rest=some rest'∧v=.bool true∧2≤b0.size∧RQ w0 w' O rb tb rest' b0 vs es []:=by
 refine ze Tryz.func247 Tryz.ntmps247 ?_;refine zcv (qhq 2 3 false h) ?_;rintro v w1 ⟨rfl,h1⟩;(conv=>whnf);cases q1:qen 2 3 false rest
 ·refine zu ?_;refine zcv (qhq 4 8 false h1) ?_;rintro v w2 ⟨rfl,h2⟩;(conv=>whnf);cases q2:qen 4 8 false rest
  ·refine zu ?_;refine .inl ⟨?_,rfl,h2.ext⟩;cases rest with
   | nil=>rfl
   | cons x xs=>
    rw [qcc] at q1 q2;rw [qdx,if_neg];intro hm;simp [qy] at hm q1 q2;obtain ⟨ha,hb⟩:=hm;have:=q1 ha;have:=q2 ha;omega
  ·obtain ⟨x,xs,rfl⟩:∃ x xs,rest=x::xs:=by
    cases rest with
    | nil=>cases q2
    | cons x xs=>exact ⟨x,xs,rfl⟩
   rw [qcc] at q2;simp [qy] at q2;refine zu ?_;refine zcv (qbe h2) ?_;rintro v w3 ⟨rfl,h3⟩;(conv=>whnf);refine h3.st0 x ?_;intro w4 h4;(conv=>whnf);refine .inr ⟨xs,x,?_,rfl,by omega,h4⟩;rw [qdx,if_pos (by simp [qy];exact ⟨q2.1,by omega,by omega⟩),if_pos Oo]
 ·obtain ⟨x,xs,rfl⟩:∃ x xs,rest=x::xs:=by
   cases rest with
   | nil=>cases q1
   | cons x xs=>exact ⟨x,xs,rfl⟩
  rw [qcc] at q1;simp [qy] at q1;have hL:qdx (x::xs)=some (qec 3 xs):=by rw [qdx,if_pos (by simp [qy];exact ⟨q1.1,by omega,by omega⟩),if_neg Oo]
  rw [hL];refine zu ?_;refine zcv (qbe h1) ?_;rintro v w3 ⟨rfl,h3⟩;(conv=>whnf);refine h3.st0 x ?_;intro w4 h4;(conv=>whnf);refine qe (fun y:List ByteArray × List ByteArray × oA × Nat=>[(0,pp rb),(1,pp tb),(5,.slice y.2.2.1 y.1.length y.2.2.2)])
   (fun y w5=>RQ w0 w5 O rb tb y.2.1 x vs es [(y.1.map Value.string,.slice y.2.2.1 y.1.length y.2.2.2)]∧y.1.length≤3∧(∀ z∈y.1,z.size≤3)∧qec (3-y.1.length) y.2.1=qec 3 xs)
   (fun y=>3-y.1.length) ([],xs,none,0) ⟨rfl,rfl,rfl,trivial⟩ ⟨h4.nilrow,by simp,by simp,rfl⟩ ?_
  rintro ⟨l,r5,B,d⟩ w5 ρ' ⟨h5,hl,hz,e5⟩;simp only at h5 hl hz e5;dsimp only;(conv=>whnf);refine zC (fun _=>zu ?_) (fun _=>zu ?_)
  ·have hl3:l.length<3:=by omega
   obtain ⟨m,hm⟩:∃ m,3-l.length=m+1:=⟨2-l.length,by omega⟩
   rw [hm] at e5;refine zcv (qhq 3 3 false h5) ?_;rintro v w6 ⟨rfl,h6⟩;cases q3:qen 3 3 false r5
   ·have e6:qec 3 xs=r5:=by
     cases r5 with
     | nil=>rw [← e5];rfl
     | cons y ys=>
      rw [qcc] at q3;rw [← e5,qec,if_neg (by rw [q3];simp)]
    rw [e6];refine zu ?_;refine zcv (qe6 l B d w6 h6.rowL (fun z hz'=>by have:=hz z hz';omega) Oo) ?_;rintro v w7 ⟨rfl,he7⟩;have h7:=h6.call he7;(conv=>whnf);refine h7.st Js _ ?_;intro w8 h8;(conv=>whnf);exact .inr ⟨r5,x,rfl,rfl,by omega,h8.cut⟩
   ·obtain ⟨y,ys,rfl⟩:∃ y ys,r5=y::ys:=by
     cases r5 with
     | nil=>cases q3
     | cons y ys=>exact ⟨y,ys,rfl⟩
    rw [qcc] at q3;rw [qec,if_pos q3] at e5;simp [qy] at q3;refine zu ?_;refine zcv (qbe h6) ?_;rintro v w7 ⟨rfl,h7⟩;(conv=>whnf);refine NewV.rq h7 fun nb w8 h8 hnb=>zw ?_;refine h8.appL hnb Oo ?_;intro B' d' w9 h9;(conv=>whnf);refine ⟨(l++[y],ys,B',d'),⟨rfl,rfl,by simp only [zla];rfl,trivial⟩,⟨h9,by simp;omega,?_,?_⟩,by simp;omega⟩
    ·intro z hz'
     rcases List.mem_append.1 hz' with hz' | hz'
     ·exact hz z hz'
     ·obtain rfl:=List.mem_singleton.1 hz';omega
    ·simp only [zla,List.length_singleton];rw [show 3-(l.length+1)=m by omega];exact e5
  ·have hl3:l.length=3:=by omega
   rw [hl3] at e5;have e6:qec 3 xs=r5:=by rw [← e5];rfl
   rw [e6];refine zcv (qe6 l B d w5 h5.rowL (fun z hz'=>by have:=hz z hz';omega) Oo) ?_;rintro v w7 ⟨rfl,he7⟩;have h7:=h5.call he7;(conv=>whnf);refine h7.st Js _ ?_;intro w8 h8;(conv=>whnf);exact .inr ⟨r5,x,rfl,rfl,by omega,h8.cut⟩
theorem qvx {w0 w:World} {O:List Nat} {rb tb:Nat} {rest:List ByteArray} {a0:ByteArray} {vs es:List ByteArray} (h:RQ w0 w O rb tb rest a0 vs es []) (hn:rest.length≤1000000) :
  Gv Tryz.prog 253 [pp rb,pp tb] w fun v w'=>v=.bool (decide (rest.tail≠[])&&rest.tail.all qie)∧RQ w0 w' O rb tb rest a0 vs es []:=by
 refine ze Tryz.func253 Tryz.ntmps253 ?_;refine h.ldr ?_;intro A c hS hc;(conv=>whnf);refine zcv (qe6 rest A c w hS h.small hn) ?_;rintro v w1 ⟨rfl,he1⟩;have h1:=h.call he1;(conv=>whnf);refine h1.st Js _ ?_;intro w2 h2;(conv=>whnf);refine h2.ldr ?_;intro A2 c2 hS2 hc2;(conv=>whnf);refine zC (fun _=>zw ?_) (fun _=>zw ?_)
 ·have:rest.tail=[]:=List.length_eq_zero_iff.1 (by rw [List.length_tail];omega);rw [this];exact ⟨rfl,h2⟩
 ·have ht:rest.tail≠[]:=fun e=>by have:=congrArg List.length e;rw [List.length_tail] at this;simp at this;omega
  rw [decide_eq_true ht,Bool.true_and];refine qe (fun i:Nat=>[(0,pp rb),(1,pp tb),(5,ii (i+1:Nat))])
   (fun i w3=>RQ w0 w3 O rb tb rest a0 vs es []∧i≤rest.tail.length∧(rest.tail.take i).all qie=true)
   (fun i=>rest.tail.length-i) 0 ⟨rfl,rfl,rfl,trivial⟩ ⟨h2,by simp,rfl⟩ ?_
  rintro i w3 ρ' ⟨h3,hi,ha⟩;rw [List.length_tail] at hi ⊢;(conv=>whnf);refine h3.ldr ?_;intro A3 c3 hS3 hc3;(conv=>whnf);refine zC (fun _=>zw ?_) (fun _=>zw ?_)
  ·refine h3.ldr ?_;intro A4 c4 hS4 hc4;(conv=>whnf);have hlt:i+1<rest.length:=by omega
   have htl:i<rest.tail.length:=by rw [List.length_tail];omega
   have hx:=h3.small _ (List.getElem_mem hlt);have eg:rest.tail[i]=rest[i+1]:=by rw [List.getElem_tail]
   refine ElemV.sl hS4 rfl (i+1) rfl hlt ?_;intro b off hcl;(conv=>whnf);refine LoadV.cell0 hcl (zw ?_);refine zcv (qf3 _ 1 8 Oo w3) ?_;rintro v w4 ⟨rfl,rfl⟩;cases q:qy rest[i+1] 1 8 false
   ·refine zu ?_;refine ⟨?_,h3⟩;have:rest.tail.all qie=false:=by
     rw [List.all_eq_false];exact ⟨_,List.getElem_mem htl,by rw [eg,qie,q];simp⟩
    rw [this]
   ·refine zu ?_;refine ⟨i+1,⟨rfl,rfl,rfl,trivial⟩,⟨h3,by first|omega|(rw [List.length_tail];omega),?_⟩,by first|omega|(rw [List.length_tail];omega)⟩;rw [List.take_succ_eq_append_getElem htl,List.all_append,ha,eg];simp [qie,q]
  ·rw [List.take_of_length_le (by rw [List.length_tail];omega)] at ha;rw [ha];exact ⟨rfl,h3⟩
def qfi (e:ByteArray):ByteArray:=lowS (e.extract 0 1)
def jnS (l:List ByteArray):ByteArray:=⟨(jn l).toArray⟩
theorem q2e {x:ByteArray} {l:List ByteArray} (hx:x.size=1):1≤(jnS (x::l)).size∧qfi (jnS (x::l))=lowS x:=by
 obtain ⟨⟨c⟩⟩:=x;have hc:c.length=1:=hx;obtain ⟨b,rfl⟩:=List.length_eq_one_iff.1 hc;refine ⟨by show 1≤(jn _).toArray.size;simp [jn],?_⟩;unfold qfi
 congr 1
 have:(jnS (⟨⟨[b]⟩⟩::l)).extract 0 1=(⟨⟨[b]⟩⟩:ByteArray):=by
  have h:=qmc (l:=[(jnS (⟨⟨[b]⟩⟩::l)).extract 0 1]) (m:=[⟨⟨[b]⟩⟩]) (by rw [List.map_cons,qmi];simp [jnS,jn])
  simpa using h
 exact this
theorem ql {vals:Nat→Value} {k:Nat} {v:Value} (h:vals k=v):vals=upd vals k v:=by
 funext j
 by_cases e:j=k
 ·subst e;rw [qc8,h]
 ·rw [qah _ _ _ _ e]
theorem RQ.cell5 {w0 w:World} {O:List Nat} {rb tb:Nat} {rest:List ByteArray} {a0:ByteArray} {vs es:List ByteArray} {R2:List (List Value × Value)} (h:RQ w0 w O rb tb rest a0 vs es R2) :
  ∃ A c,SlAt V.zeS 1 w A es∧w.cell? ⟨tb,5,none⟩=some (.slice A es.length c):=by
 obtain ⟨A,c,X,Y,a1,a2,a3,a6,L,h⟩:=h;obtain ⟨B,d,e⟩:=(h.rows.row 1 _ rfl).slice;simp only [List.length_map] at e;subst e;exact ⟨B,d,RowB.sl (h.rows.row 1 _ rfl) h.mem,by rw [qa (h.mem.get h.tg)];rfl⟩
theorem qog {w0 w:World} {O:List Nat} {rb tb:Nat} {x:ByteArray} {xs:List ByteArray} {a0:ByteArray} {vs es:List ByteArray} (h:RQ w0 w O rb tb (x::xs) a0 vs es []) (hx1:x.size=1) (hes:∀ e∈es,1≤e.size) (hn:xs.length+es.length+1≤1000000) :
  Gv Tryz.prog 252 [pp rb,pp tb] w fun v w'=>Ext w0 w'∧
   (((xs.takeWhile extQ=[]∨∃ e∈es,qfi e=lowS x)∧v=.bool false)∨
   (¬ (xs.takeWhile extQ=[]∨∃ e∈es,qfi e=lowS x)∧v=.bool true∧RQ w0 w' O rb tb (xs.dropWhile extQ) a0 vs (es++[jnS (x::xs.takeWhile extQ)]) [])):=by
 refine ze Tryz.func252 Tryz.ntmps252 ?_;refine zcv (qbe h) ?_;rintro v w1 ⟨rfl,h1⟩;(conv=>whnf);refine NewV.rqrow h1 fun nb w2 h2=>zw ?_;refine qe (fun y:List ByteArray × List ByteArray × oA × Nat=>[(0,pp rb),(1,pp tb),(5,.slice y.2.2.1 (x::y.1).length y.2.2.2)])
  (fun y w5=>RQ w0 w5 O rb tb y.2.1 a0 vs es [((x::y.1).map Value.string,.slice y.2.2.1 (x::y.1).length y.2.2.2)]∧xs=y.1++y.2.1∧y.1.all extQ=true)
  (fun y=>y.2.1.length) ([],xs,some ⟨nb,0,none⟩,1) ⟨rfl,rfl,rfl,trivial⟩ ⟨h2,rfl,rfl⟩ ?_
 rintro ⟨pre,r5,B,d⟩ w5 ρ' ⟨h5,e5,a5⟩;simp only at h5 e5 a5;dsimp only;have hlen:xs.length=pre.length+r5.length:=by rw [e5];simp
 have tk:∀ ys,r5=ys→(∀ y zs,ys=y::zs→extQ y=false)→xs.takeWhile extQ=pre∧xs.dropWhile extQ=ys:=by
  rintro ys rfl hys;have ha:=List.all_eq_true.1 a5;rw [e5,List.takeWhile_append_of_pos ha,List.dropWhile_append_of_pos ha];cases r5 with
  | nil=>simp
  | cons y zs=>simp [hys y zs rfl]
 (conv=>whnf);refine h5.ldr ?_;intro A c hS hc
 rcases r5 with _|⟨y,ys⟩
 case' cons=>
  simp only [List.length_cons] at hc hlen ⊢;(conv=>whnf);refine Tst.yes (decide_eq_true Oo) (zu ?_);refine h5.ldr ?_;intro A c hS hc;refine zu ?_;refine ElemV.sl hS rfl 0 rfl Js ?_;intro b off hcl;refine zu ?_;refine LoadV.cell0 hcl (zu ?_);have hy:=h5.small y mh;refine zcv (qf3 y 2 8 Oo w5) ?_;rintro v w6 ⟨rfl,rfl⟩;cases q:qy y 2 8 false
  case' true=>
   refine zu ?_;refine zcv (qbe h5) ?_;rintro v w7 ⟨rfl,h7⟩;(conv=>whnf);refine NewV.rq h7 fun nb w8 h8 hnb=>zw ?_;refine h8.appL hnb Ys ?_;intro B' d' w9 h9;(conv=>whnf);exact ⟨(pre++[y],ys,B',d'),⟨rfl,rfl,by simp only [zla,List.length_cons];rfl,trivial⟩,⟨h9,by rw [e5];simp,by rw [List.all_append,a5];simp [extQ,q]⟩,by simp⟩
  case' false=>
   obtain ⟨t1,t2⟩:=tk _ rfl (fun y' zs e=>by cases e;exact q);clear hy;obtain ⟨r6,h5,t2⟩:∃ r6,RQ w0 _ O rb tb r6 a0 vs es [((x::pre).map Value.string,.slice B (x::pre).length d)]∧xs.dropWhile extQ=r6:=⟨_,h5,t2⟩
   rw [t1,t2];clear tk hS hcl q;refine zu ?_
 case' nil=>
  (conv=>whnf);refine Tst.no (decide_eq_false Js) (zu ?_);obtain ⟨t1,t2⟩:=tk _ rfl (fun y' zs e=>by cases e);obtain ⟨r6,h5,t2⟩:∃ r6,RQ w0 _ O rb tb r6 a0 vs es [((x::pre).map Value.string,.slice B (x::pre).length d)]∧xs.dropWhile extQ=r6:=⟨_,h5,t2⟩
  rw [t1,t2];clear tk hS
 all_goals
  have hx0:=h.small x mh;have hpl:pre.length≤xs.length:=by omega
  have hl0:(x::pre).length=pre.length+1:=rfl;refine qe (fun i:Nat=>[(0,pp rb),(1,pp tb),(5,.slice B (x::pre).length d),(7,ii i)])
   (fun i w6=>RQ w0 w6 O rb tb r6 a0 vs es [((x::pre).map Value.string,.slice B (x::pre).length d)]∧i≤es.length∧∀ (j:Nat) (hj:j<es.length),j<i→qfi es[j]≠lowS x)
   (fun i=>es.length-i) 0 ⟨rfl,rfl,rfl,rfl,trivial⟩ ⟨h5,by omega,fun j hj h0=>by omega⟩ ?_
  rintro i w6 ρ' ⟨h6,hi,hd⟩;(conv=>whnf);obtain ⟨EA,ec,hES,hc5⟩:=h6.cell5;refine LoadV.of hc5 (zw ?_)
  (repeat' refine zC (fun _=>zw ?_) (fun _=>zw ?_))
  ·have hil:i<es.length:=by omega
   have hei:=hes _ (List.getElem_mem hil);obtain ⟨eb,eoff,rfl,hec⟩:=hES.at_ (fun e=>by rw [e] at hil;simp at hil);have hec:=hec i _ (zge hil);obtain ⟨lb,loff,e9,hlc⟩:=h6.rowL.at_ Js;subst e9;have hlc:=hlc 0 x rfl;refine DrawV.free rfl Ok (zw ?_);(iterate 3 (refine zd ?_));refine zf ?_ (by intro wd hd;(conv=>whnf);refine LoadV.of (Ext.cell (Ext.trans (Ext.drew xr) hd) hc5) ?_;(conv=>whnf);exact ⟨xr,rfl⟩);refine zd ?_;refine zf ?_ (by intro wd hd;(conv=>whnf);refine ⟨⟨eb,eoff,i,rfl,by omega,by omega,?_⟩⟩;exact ⟨xr,rfl⟩);refine zf ?_ (by intro wd hd;(conv=>whnf);refine LoadV.of (Ext.cell (Ext.trans (Ext.drew xr) hd) (hec 0 _ rfl)) ?_;(conv=>whnf);exact ⟨xr,rfl⟩);refine zsd (.string (es[i].extract 0 1)) (fun wd hd=>zw ?_) (zw ?_)
   ·refine ⟨0,1,rfl,rfl,by omega,by omega,?_⟩;(conv=>whnf);exact ⟨xr,rfl⟩
   refine zsd (.string (qfi es[i])) (fun wd hd=>zw ?_) (zw ?_)
   ·refine zcv (qaw (es[i].extract 0 1) (by rw [ByteArray.size_extract];omega) wd) ?_;rintro v w7 ⟨rfl,he7⟩;exact ⟨he7,rfl⟩
   refine zd ?_;refine zf ?_ (by intro wd hd;(conv=>whnf);refine ⟨⟨lb,loff,0,rfl,by omega,by omega,?_⟩⟩;exact ⟨xr,rfl⟩);refine zf ?_ (by intro wd hd;(conv=>whnf);refine LoadV.of (Ext.cell (Ext.trans (Ext.drew xr) hd) (hlc 0 _ rfl)) ?_;(conv=>whnf);exact ⟨xr,rfl⟩);refine zsd (.string (lowS x)) (fun wd hd=>zw ?_) (zw ?_)
   ·refine zcv (qaw x Oo wd) ?_;rintro v w7 ⟨rfl,he7⟩;exact ⟨he7,rfl⟩
   refine zd ?_;intro wd hwd;have h7:=h6.drew.call hwd;(conv=>whnf);cases q:seq (qfi es[i]) (lowS x)
   ·refine zu ?_;refine ⟨i+1,⟨rfl,rfl,rfl,rfl,trivial⟩,⟨h7,by omega,fun j hj hji=>?_⟩,by omega⟩
    by_cases e:j=i
    ·subst e;intro e';rw [qao.2 e'] at q;cases q
    ·exact hd j hj Oo
   ·refine zu ?_;exact ⟨h7.ext,.inl ⟨.inr ⟨_,List.getElem_mem hil,qao.1 q⟩,rfl⟩⟩
  ·have hno:¬ ∃ e∈es,qfi e=lowS x:=by
    rintro ⟨e,he,h9⟩;obtain ⟨j,hj,rfl⟩:=List.mem_iff_getElem.1 he;exact hd j hj Oo h9
   obtain ⟨A,c,X,Y,a1,a2,a3,a6,L,h6⟩:=h6;obtain ⟨EA,ec,e⟩:=(h6.rows.row 1 _ rfl).slice;simp only [List.length_map] at e;subst e;clear hES hc5;obtain ⟨J,hJ⟩:∃ J,J=jnS (x::pre):=⟨_,rfl⟩
   obtain ⟨rr,hrr⟩:∃ rr:List (List Value × Value),rr=[((x::pre).map Value.string,.slice B (x::pre).length d)]:=⟨_,rfl⟩
   have hsz:∀ z∈x::pre,z.size≤1000000:=fun z hz=>by
    rcases List.mem_cons.1 hz with rfl|hz
    ·exact hx0
    ·exact h.small z (zmc (by rw [e5];exact List.mem_append_left _ hz))
   rw [← hrr] at h6;rw [← hJ];refine DrawV.gen (fun S vals w=>bif S 11 then (S 4=true∧S 6=true∧S 7=true∧S 8=true∧RQ w0 w O rb tb r6 a0 vs (es++[J]) rr)
    else bif S 8 then (S 4=true∧S 6=true∧S 7=true∧∃ B' d' L',vals 8=.slice B' (es.length+1) d'∧RQ0 w0 w O rb tb r6 a0 vs (es++[J]) A c X (.slice B' (es.length+1) d') X (.slice EA es.length ec) a1 a2 a3 a6 L' rr)
    else bif S 7 then (S 6=true∧∃ nb,vals 7=.slice (some ⟨nb,0,none⟩) 1 1∧w.heap[nb]?=some (.cells #[.string J] 9)∧RQ0 w0 w O rb tb r6 a0 vs es A c X (.slice EA es.length ec) X (.slice EA es.length ec) a1 a2 a3 a6 L rr)
    else RQ0 w0 w O rb tb r6 a0 vs es A c X (.slice EA es.length ec) X (.slice EA es.length ec) a1 a2 a3 a6 L rr) rfl Ok (fun vals=>h6.call xr.drew) ?_
   (conv=>whnf);(iterate 4 (refine zg ?_))
   ·
    refine StepG.of (.slice EA es.length ec) (fun S vals wd hk hp hI=>?_) (zw ?_)
    ·dsimp only at hI;cases h11:S 11
     ·rw [h11] at hI;cases h8:S 8
      ·rw [h8] at hI;cases h7:S 7
       ·rw [h7] at hI;(conv=>whnf);refine LoadV.own (hI.mem.get hI.tg) rfl (zw ?_);refine ⟨rfl,?_⟩;show bif S 11 then _ else bif S 8 then _ else bif S 7 then _ else _;rw [h11,h8,h7];exact hI
       ·rw [h7] at hI;obtain ⟨i6,nb,e7,hnb,hQ⟩:=hI;(conv=>whnf);refine LoadV.own (hQ.mem.get hQ.tg) rfl (zw ?_);refine ⟨rfl,?_⟩;show bif S 11 then _ else bif S 8 then _ else bif S 7 then _ else _;rw [h11,h8,h7];exact ⟨i6,nb,e7,hnb,hQ⟩
      ·rw [h8] at hI;have:=hI.1;rw [hk] at this;cases this
     ·rw [h11] at hI;have:=hI.1;rw [hk] at this;cases this
    refine zg ?_;refine StepG.of (.string J) (fun S vals wd hk hp hI=>?_) (zw ?_)
    ·dsimp only at hI;cases h11:S 11
     ·rw [h11] at hI;cases h8:S 8
      ·rw [h8] at hI;cases h7:S 7
       ·rw [h7] at hI;(conv=>whnf);have hlr:=hI;rw [hrr] at hlr;refine zcv (qe6 (x::pre) B d wd hlr.rowL hsz Ys) ?_;rintro v w7 ⟨rfl,he7⟩;refine ⟨by rw [hJ];rfl,?_⟩;show bif S 11 then _ else bif S 8 then _ else bif S 7 then _ else _;rw [h11,h8,h7];exact hI.call he7
       ·rw [h7] at hI;have:=hI.1;rw [hk] at this;cases this
      ·rw [h8] at hI;have:=hI.2.1;rw [hk] at this;cases this
     ·rw [h11] at hI;have:=hI.2.1;rw [hk] at this;cases this
    refine StepG.any (fun S vals wd hk hp hI=>?_) (zw ?_)
    ·dsimp only at hI;have h6t:=hp 6 Od;cases h11:S 11
     ·rw [h11] at hI;cases h8:S 8
      ·rw [h8] at hI;rw [hk] at hI;(conv=>whnf);refine NewV.rq0 hI fun nb w8 h8' hnb=>zw ?_;refine ⟨trivial,?_⟩;show bif S 11 then _ else bif S 8 then _ else bif true then _ else _;rw [h11,h8];exact ⟨h6t,nb,rfl,hnb,h8'⟩
      ·rw [h8] at hI;have:=hI.2.2.1;rw [hk] at this;cases this
     ·rw [h11] at hI;have:=hI.2.2.1;rw [hk] at this;cases this
    refine StepG.any (fun S vals wd hk hp hI=>?_) (zw ?_)
    ·dsimp only at hI;have h4t:=hp 4 Od;have h7t:=hp 7 Od;cases h11:S 11
     ·rw [h11] at hI;rw [hk] at hI;rw [h7t] at hI;obtain ⟨i6,nb,e7,hnb,hQ⟩:=hI;rw [ql e7];(conv=>whnf);refine hQ.app5 hnb Oo ?_;intro B' d' w8 L' hQ';(conv=>whnf);refine ⟨trivial,?_⟩;show bif S 11 then _ else bif true then _ else bif S 7 then _ else _;rw [h11];exact ⟨h4t,i6,h7t,B',d',L',rfl,hQ'⟩
     ·rw [h11] at hI;have:=hI.2.2.2.1;rw [hk] at this;cases this
    refine zg ?_;refine zg ?_;refine StepG.of undef (fun S vals wd hk hp hI=>?_) (zw ?_)
    ·dsimp only at hI;have h8t:=hp 8 Od;rw [hk] at hI;rw [h8t] at hI;obtain ⟨h4t,h6t,h7t,B',d',L',e8,hQ⟩:=hI;rw [ql e8];(conv=>whnf);refine hQ.st5 ?_;intro w8 hQ';(conv=>whnf);exact ⟨rfl,h4t,h6t,h7t,h8t,hQ'⟩
    intro vals wd hI;obtain ⟨_,_,_,_,hQ⟩:=hI;(conv=>whnf);refine ⟨hQ.ext,?_⟩
    by_cases hp0:pre=[]
    ·subst hp0;exact .inl ⟨.inl rfl,rfl⟩
    ·have:0<pre.length:=List.length_pos_iff.2 hp0;exact .inr ⟨fun h9=>h9.elim hp0 hno,by rw [hl0,decide_eq_true Oo],hQ.cut⟩
theorem qti (x:ByteArray):seq (lowS x) ⟨#[120]⟩=qee x:=by
 rw [Bool.eq_iff_iff,qao];obtain ⟨⟨l⟩⟩:=x;unfold qee lowS;simp only [decide_eq_true_eq]
 constructor
 ·intro h;have h:l.map lowB=[120]:=by
   have:=congrArg (fun b:ByteArray=>b.data.toList) h
   simpa using this
  obtain ⟨c,rfl⟩:∃ c,l=[c]:=List.length_eq_one_iff.1 (by have:=congrArg List.length h;simpa using this);simp only [List.map_cons,List.map_nil,List.cons.injEq,and_true] at h;unfold lowB at h
  split at h
  ·rename_i hc
   right
   have:c=88:=by
    have h2:=congrArg UInt8.toNat h;rw [UInt8.toNat_add] at h2;rw [← UInt8.toNat_inj];have:=c.toNat_lt;simp at h2 ⊢;omega
   subst this;rfl
  ·subst h;left;rfl
 ·rintro (h|h)
  ·cases h;rfl
  ·cases h;rfl
theorem qq3 {x:ByteArray} (h:qee x=true):varB x=false∧extS x=false:=by
 have hs:x.size=1:=by
  unfold qee at h;simp at h
  rcases h with rfl|rfl<;>rfl
 refine ⟨?_,by rw [extS,h];simp⟩;simp [varB,qy,hs]
section
variable {w0 w w':World} {O:List Nat} {rb tb:Nat} {rest:List ByteArray} {a0:ByteArray} {vs es:List ByteArray} {R2:List (List Value × Value)}
theorem RQ.cell4 (h:RQ w0 w O rb tb rest a0 vs es R2):∃ A c,SlAt V.zeS 1 w A vs∧w.cell? ⟨tb,4,none⟩=some (.slice A vs.length c):=by
 obtain ⟨A,c,X,Y,a1,a2,a3,a6,L,h⟩:=h;obtain ⟨B,d,e⟩:=(h.rows.row 0 _ rfl).slice;simp only [List.length_map] at e;subst e;exact ⟨B,d,RowB.sl (h.rows.row 0 _ rfl) h.mem,by rw [qa (h.mem.get h.tg)];rfl⟩
theorem RQ.ldA {K:List Value→Prop} (h:RQ w0 w O rb tb rest a0 vs es R2) (hk:∀ s0 s1 s2 s3 A n c A' n' c' s6,(∀ u∈[Value.string s0,.string s1,.string s2,.string s3,.slice A n c,.slice A' n' c',.string s6],u.oneCell'=true)→K [.string s0,.string s1,.string s2,.string s3,.slice A n c,.slice A' n' c',.string s6]):LoadA w tb 0 7 K:=by
 obtain ⟨A,c,X,Y,a1,a2,a3,a6,L,h⟩:=h;obtain ⟨B,d,e⟩:=(h.rows.row 0 _ rfl).slice;obtain ⟨B',d',e'⟩:=(h.rows.row 1 _ rfl).slice;simp only [List.length_map] at e e';subst e e';refine ⟨_,rfl,fun i hi=>?_,hk a0 a1 a2 a3 B vs.length d B' es.length d' a6 (tag7 ⟨⟨_,_,_,rfl⟩,⟨_,_,_,rfl⟩⟩ a0 a1 a2 a3 a6)⟩;rw [qa (h.mem.get h.tg),List.getElem?_toArray,Nat.zero_add];rfl
end
theorem qoy (s:ByteArray):(lowS s).size=s.size:=by
 show (s.data.toList.map lowB).toArray.size=s.size;simp
theorem V.later {A B:Prop} (h:A→B) (p:A):B:=h p
theorem qjx (x:ByteArray) (xs:List ByteArray):regB x=(qen 2 2 false (x::xs)||qen 3 3 true (x::xs)):=by
 rw [qcc,regB]
 congr 1
 by_cases h3:x.size=3
 ·have e:digA x=(digN (gb x 0).toNat&&digN (gb x 1).toNat&&digN (gb x 2).toNat):=by
   unfold digA;have d0:=qar x 0 Oo;have d1:=qar x 1 Oo;have d2:=qar x 2 Oo;have d3:x.data.toList.drop 3=[]:=List.drop_eq_nil_of_le Ys;rw [List.drop_zero] at d0;rw [d0,d1,d2,d3];simp [Bool.and_assoc]
  rw [qen,e,decide_eq_true h3,decide_eq_true Oo];simp [Bool.and_assoc]
 ·rw [qen,decide_eq_false h3,decide_eq_false Oo];simp
theorem qv7 (s:ByteArray) (hs:s.size≤65536) (w:World) :
  Gv Tryz.prog 194 [.string s] w fun v w'=>TagV (qay s) v∧Ext w w':=by
 obtain ⟨p1,p2⟩:=qlc s;have p0:qay s≠[]:=fun e=>by have:=qlb s;rw [e] at this;simp at this
 have parts:=qpi s Oo;obtain ⟨l,hl⟩:∃ l,l=qay s:=⟨_,rfl⟩
 rw [← hl] at p1 p2 p0 parts ⊢;refine ze Tryz.func194 Tryz.ntmps194 ?_;refine znm (Mem.nil w) fun rt w1 hm1=>zw ?_;refine znm (Mem.nil w1) fun tb w2 hm2=>zw ?_;refine zcv (parts w2) ?_;rintro v w3 ⟨A,c,rfl,hR⟩;(conv=>whnf);have hlt:tb<w2.heap.size:=hm2.lt mh
 rcases hR.own.2 with ⟨_,e2⟩|⟨g,cap,cur,e1,hge,hg,hnc,_,hsz,htk⟩
 ·exact absurd (List.length_eq_zero_iff.1 e2) p0
 cases e1;rw [Nat.mul_one] at htk hsz;have hm3:=(hm2.call hR.mem.ext).add hg (Nat.le_trans hm2.ext.size hge) (fun x hx=>by obtain rfl:=List.mem_singleton.1 hx;show tb<g;omega);refine znm hm3 ?_;intro rb w4 hm4;have hrb:rb≠g∧rb≠tb:=by
  have:=hm4.nodup;simp at this;exact ⟨fun e=>this.1.1 e,fun e=>this.1.2 e⟩
 have h4:RQ w1 w4 [rb,g,tb] rb tb l ⟨#[]⟩ [] [] []:=by
  refine ⟨_,_,.slice none 0 0,.slice none 0 0,⟨#[]⟩,⟨#[]⟩,⟨#[]⟩,⟨#[]⟩,_,hm4,List.mem_cons_self ..,zmc (zmc mh),RowsP.nils _ _ _ _ Js,fun _=>⟨g,cur,0,rfl,by simp,fun e=>hrb.1 e.symm,fun e=>?_,zmc mh,fun j x hj=>?_⟩,hnc,by simp,by simp,hrb.2,fun k hk=>?_,fun x hx=>by have:=p1 x hx;omega⟩
  ·omega
  ·have h9:(cur.toList.take l.length)[j]?=some (.string x):=by rw [htk,List.getElem?_map,hj];rfl
   rw [List.getElem?_take] at h9
   split at h9
   ·rw [Nat.zero_add];simpa using h9
   ·cases h9
  ·rcases List.mem_cons.1 hk with rfl|hk
   ·exact ⟨_,List.mem_cons_self ..⟩
   ·rcases List.mem_cons.1 hk with rfl|hk
    ·exact ⟨_,zmc mh⟩
    ·obtain rfl:=List.mem_singleton.1 hk;exact ⟨_,zmc (zmc mh)⟩
 clear hm4 hm3 hR hg;generalize hO:[rb,g,tb]=O at h4;(conv=>whnf);refine h4.ldr ?_;intro A c hS hc;obtain ⟨x,xs,hxl⟩:∃ x xs,l=x::xs:=by
  cases l with
  | nil=>exact absurd rfl p0
  | cons x xs=>exact ⟨x,xs,rfl⟩
 (conv=>whnf);refine ElemV.sl hS rfl 0 rfl (by rw [hxl];simp) ?_;intro b off hcl;(conv=>whnf);refine LoadV.cell0 hcl ?_;have hx0:l[0]'(by rw [hxl];simp)=x:=by subst hxl;rfl
 have hx6:=p1 x (by rw [hxl];simp);rw [hx0];(conv=>whnf);refine zcv (qaw x Oo w4) ?_;rintro v w5 ⟨rfl,he5⟩;have h5:=h4.call he5;clear hcl hS hc h4 he5;(conv=>whnf);rw [qti];obtain ⟨F,hF⟩:∃ F:List ByteArray × List ByteArray × ByteArray→List (Nat × Value),F=fun _=>[(2,pp rt),(4,pp tb),(5,pp rb)]:=⟨_,rfl⟩
 obtain ⟨I,hI⟩:∃ I:List ByteArray × List ByteArray × ByteArray→World→Prop,I=fun y w6=>RQ w1 w6 O rb tb y.2.1 y.2.2 y.1 [] []∧tagR l=(qg3 (y.1.map lowS) y.2.1).bind (fun r=>extN r.2.length r.1 r.2)∧(∀ v∈y.1,4≤v.size∧v.size≤1000000)∧y.1.length+y.2.1.length≤l.length:=⟨_,rfl⟩
 obtain ⟨mm,hmm⟩:∃ mm:List ByteArray × List ByteArray × ByteArray→Nat,mm=fun y=>y.2.1.length:=⟨_,rfl⟩
 apply V.later
 case h=>
  intro body;cases q:qee x
  ·refine zv ?_;refine zcv (qqu h5) ?_;have hT:tagR l=(qdx l).bind qhu:=by
    rw [tagR,if_neg (by rw [hxl];show ¬ qee x=true;rw [q];simp)]
   rintro v w6 (⟨e2,rfl,he6⟩|⟨r1,b0,e2,rfl,hb0,h6⟩)
   ·rw [e2] at hT;have hno:¬ tagP l:=fun h=>by obtain ⟨l1,h1,_⟩:=h;rw [hT] at h1;cases h1
    refine zu ?_;refine StoreA.mem (hm1.call he6) (i:=0) rfl (Nat.le_refl 7) qdq fun w9 hm9=>zw ?_;refine qaa (R:=fun v w'=>TagV l v∧Ext w w') (zw ?_);refine zl hm9 0 ?_;exact ⟨⟨_,_,_,_,_,_,_,qdq,by rw [qcx hno];rfl⟩,hm9.ext⟩
   rw [e2] at hT;have hb:seq b0 ⟨#[]⟩=false:=by rw [qj2];exact decide_eq_false Oo
   refine zu ?_;refine h6.ld0 (zw ?_);rw [hb];refine zv ?_;have hl1:=qjg e2;refine zcv (qhq 4 4 false h6) ?_;rintro v w7 ⟨rfl,h7⟩;(conv=>whnf);cases q1:qen 4 4 false r1
   case' false=>
    obtain ⟨r2,h8,es2,hl2⟩:∃ r2,RQ w1 w7 O rb tb r2 b0 [] [] []∧qdc r1=r2∧r2.length≤r1.length:=by
     refine ⟨r1,h7,?_,Nat.le_refl _⟩;cases r1 with
     | nil=>rfl
     | cons y ys=>
      rw [qcc] at q1;rw [qdc,if_neg (by rw [q1];simp)]
    clear h7 q1 h6;refine zv ?_
   case' true=>
    obtain ⟨y,ys,rfl⟩:∃ y ys,r1=y::ys:=by
     cases r1 with
     | nil=>cases q1
     | cons y ys=>exact ⟨y,ys,rfl⟩
    rw [qcc] at q1;refine zv ?_;refine zcv (qbe h7) ?_;rintro v w8 ⟨rfl,h8⟩;(conv=>whnf);refine h8.st Js _ ?_;intro w7 h9;obtain ⟨r2,h8,es2,hl2⟩:∃ r2,RQ w1 w7 O rb tb r2 b0 [] [] []∧qdc (y::ys)=r2∧r2.length≤(y::ys).length:=⟨ys,h9,by rw [qdc,if_pos q1],by simp⟩
    clear h7 q1 h6 h9;conv=>whnf
   all_goals
    refine h8.ld0 (zw ?_);rw [hb];refine zv ?_;refine zcv (qhq 2 2 false h8) ?_;rintro v w9 ⟨rfl,h9⟩;(conv=>whnf);cases q2:qen 2 2 false r2
    ·refine zv ?_;refine zcv (qhq 3 3 true h9) ?_;rintro v w10 ⟨rfl,h10⟩;cases q3:qen 3 3 true r2
     ·have er:qch r2=r2:=by
       cases r2 with
       | nil=>rfl
       | cons y ys=>rw [qch,if_neg (by rw [qjx,q2,q3];simp)]
      refine zu ?_;refine qe F I mm ([],r2,b0) (by rw [hF];exact ⟨rfl,rfl,rfl,trivial⟩) (by rw [hI];exact ⟨h10,by rw [hT];show qhu _=_;rw [qhu,es2,er];rfl,by simp,by simp only [List.length_nil];omega⟩) body
     ·obtain ⟨y,ys,rfl⟩:∃ y ys,r2=y::ys:=by
       cases r2 with
       | nil=>cases q3
       | cons y ys=>exact ⟨y,ys,rfl⟩
      have er:qch (y::ys)=ys:=by rw [qch,if_pos (by rw [qjx,q3];simp)]
      refine zu ?_;refine zcv (qbe h10) ?_;rintro v w11 ⟨rfl,h11⟩;(conv=>whnf);refine h11.st Js _ ?_;intro w12 h12;(conv=>whnf);refine qe F I mm ([],ys,b0) (by rw [hF];exact ⟨rfl,rfl,rfl,trivial⟩) (by rw [hI];exact ⟨h12,by rw [hT];show qhu _=_;rw [qhu,es2,er];rfl,by simp,by simp only [List.length_nil,List.length_cons] at *;omega⟩) body
    ·obtain ⟨y,ys,rfl⟩:∃ y ys,r2=y::ys:=by
      cases r2 with
      | nil=>cases q2
      | cons y ys=>exact ⟨y,ys,rfl⟩
     have er:qch (y::ys)=ys:=by rw [qch,if_pos (by rw [qjx,q2];simp)]
     refine zu ?_;refine zcv (qbe h9) ?_;rintro v w11 ⟨rfl,h11⟩;(conv=>whnf);refine h11.st Js _ ?_;intro w12 h12;(conv=>whnf);refine qe F I mm ([],ys,b0) (by rw [hF];exact ⟨rfl,rfl,rfl,trivial⟩) (by rw [hI];exact ⟨h12,by rw [hT];show qhu _=_;rw [qhu,es2,er];rfl,by simp,by simp only [List.length_nil,List.length_cons] at *;omega⟩) body
  ·have hT:tagR l=(qg3 [] l).bind fun r=>extN r.2.length r.1 r.2:=by
    rw [tagR,if_pos (by rw [hxl];exact q),hxl,qg3,if_neg (by rw [(qq3 q).1];simp)];show _=extN (xs.length+1) [] (x::xs);rw [extN,if_neg (by rw [(qq3 q).2];simp)]
   have hb:seq ⟨#[]⟩ ⟨#[]⟩=true:=by rw [qj2];rfl
   refine zv ?_;refine h5.ld0 (zw ?_);rw [hb];refine zv ?_;refine h5.ld0 (zw ?_);rw [hb];refine zv ?_;refine qe F I mm ([],l,⟨#[]⟩) (by rw [hF];exact ⟨rfl,rfl,rfl,trivial⟩) (by rw [hI];exact ⟨h5,hT,by simp,by simp⟩) body
 case p=>
  subst hF hI hmm;rintro ⟨vs,r3,b0⟩ w6 ρ' ⟨h6,hT,hv4,hlen⟩;simp only at h6 hT hv4 hlen;dsimp only;obtain ⟨F,hF⟩:∃ F:Nat × List ByteArray × List ByteArray→List (Nat × Value),F=fun _=>[(2,pp rt),(4,pp tb),(5,pp rb)]:=⟨_,rfl⟩
  obtain ⟨I,hI⟩:∃ I:Nat × List ByteArray × List ByteArray→World→Prop,I=fun y w6=>RQ w1 w6 O rb tb y.2.1 b0 vs y.2.2 []∧tagR l=extN y.1 (vs.map lowS++y.2.2.map qfi) y.2.1∧y.2.1.length≤y.1∧(∀ e∈y.2.2,1≤e.size)∧y.2.1.length+y.2.2.length≤l.length:=⟨_,rfl⟩
  obtain ⟨mm,hmm⟩:∃ mm:Nat × List ByteArray × List ByteArray→Nat,mm=fun y=>y.2.1.length:=⟨_,rfl⟩
  apply V.later
  case h=>
   intro body;(conv=>whnf);refine h6.ldr ?_;intro A c hS hc;conv=>whnf
   rcases r3 with _|⟨y,ys⟩
   ·refine Tst.no (decide_eq_false Js) (zu ?_);refine qe F I mm (0,[],[]) (by rw [hF];exact ⟨rfl,rfl,rfl,trivial⟩) (by rw [hI];exact ⟨h6,by rw [hT];rfl,Nat.le_refl _,by simp,by simp⟩) body
   ·simp only [List.length_cons] at hc hlen ⊢;refine Tst.yes (decide_eq_true Oo) (zu ?_);refine h6.ldr ?_;intro A c hS hc;refine zu ?_;refine ElemV.sl hS rfl 0 rfl Js ?_;intro b off hcl;refine zu ?_;refine LoadV.cell0 hcl (zu ?_);have hy:=h6.small y mh;refine zcv (qkn y Oo w6) ?_;rintro v w7 ⟨rfl,rfl⟩;cases q:varB y
    ·rw [qg3,if_neg (by rw [q];simp)] at hT;refine zu ?_;refine qe F I mm ((y::ys).length,y::ys,[]) (by rw [hF];exact ⟨rfl,rfl,rfl,trivial⟩) (by rw [hI];exact ⟨h6,by rw [hT];simp,Nat.le_refl _,by simp,by simp;omega⟩) body
    ·rw [qg3,if_pos q] at hT;have hy4:4≤y.size:=by
      simp [varB,qy] at q;omega
     refine zu ?_;refine zcv (qbe h6) ?_;rintro v w8 ⟨rfl,h8⟩;(conv=>whnf);refine qe (fun i:Nat=>[(2,pp rt),(4,pp tb),(5,pp rb),(7,.string y),(8,ii i)])
      (fun i w9=>RQ w1 w9 O rb tb ys b0 vs [] []∧i≤vs.length∧∀ (j:Nat) (hj:j<vs.length),j<i→lowS vs[j]≠lowS y)
      (fun i=>vs.length-i) 0 ⟨rfl,rfl,rfl,rfl,rfl,trivial⟩ ⟨h8,by omega,fun j hj h0=>by omega⟩ ?_
     rintro i w9 ρ2 ⟨h9,hi,hd⟩;(conv=>whnf);obtain ⟨VA,vc,hVS,hc4⟩:=h9.cell4;refine LoadV.of hc4 (zw ?_);refine zC (fun _=>zw ?_) (fun _=>zw ?_)
     ·have hil:i<vs.length:=by omega
      have hvi:=hv4 _ (List.getElem_mem hil);refine LoadV.of hc4 (zw ?_);refine ElemV.sl hVS rfl i rfl hil ?_;intro b2 off2 hcl2;(conv=>whnf);refine LoadV.cell0 hcl2 (zw ?_);refine zcv (qaw vs[i] Oo w9) ?_;rintro v w10 ⟨rfl,he10⟩;(conv=>whnf);refine zcv (qaw y Oo w10) ?_;rintro v w11 ⟨rfl,he11⟩;have h11:=(h9.call he10).call he11;cases q2:seq (lowS vs[i]) (lowS y)
      ·(conv=>whnf);rw [q2];refine zv ?_;refine ⟨i+1,⟨rfl,rfl,rfl,rfl,rfl,trivial⟩,⟨h11,by omega,fun j hj hji=>?_⟩,by omega⟩
       by_cases e:j=i
       ·subst e;intro e';rw [qao.2 e'] at q2;cases q2
       ·exact hd j hj Oo
      ·have hin:lowS y∈vs.map lowS:=List.mem_map.2 ⟨_,List.getElem_mem hil,qao.1 q2⟩;rw [if_pos hin] at hT;have hno:¬ tagP l:=fun h=>by obtain ⟨l1,h1,_⟩:=h;rw [hT] at h1;cases h1
       (conv=>whnf);rw [q2];refine zv ?_;refine StoreA.mem (hm1.call h11.ext) (i:=0) rfl (Nat.le_refl 7) qdq fun w9 hm9=>zw ?_;refine qaa (R:=fun v w'=>TagV l v∧Ext w w') (zw ?_);refine zl hm9 0 ?_;exact ⟨⟨_,_,_,_,_,_,_,qdq,by rw [qcx hno];rfl⟩,hm9.ext⟩
     ·have hno:lowS y∉vs.map lowS:=by
       intro h0;obtain ⟨z,hz,e⟩:=List.mem_map.1 h0;obtain ⟨j,hj,rfl⟩:=List.mem_iff_getElem.1 hz;exact hd j hj Oo e
      rw [if_neg hno] at hT;clear hVS hc4;obtain ⟨A,c,X,Y,a1,a2,a3,a6,L,h9⟩:=h9;obtain ⟨VA,vc,e⟩:=(h9.rows.row 0 _ rfl).slice;simp only [List.length_map] at e;subst e;refine LoadV.own (h9.mem.get h9.tg) rfl (zw ?_);refine NewV.rq0 h9 fun nb w10 h10 hnb=>zw ?_;refine h10.app4 hnb Oo ?_;intro B' d' w11 L' h11;(conv=>whnf);refine h11.st4 ?_;intro w12 h12;(conv=>whnf);refine ⟨(vs++[y],ys,b0),⟨rfl,rfl,rfl,trivial⟩,⟨h12,by rw [hT,List.map_append];rfl,?_,by simp;omega⟩,by simp⟩;intro v hv
      rcases List.mem_append.1 hv with hv|hv
      ·exact hv4 v hv
      ·obtain rfl:=List.mem_singleton.1 hv;exact ⟨hy4,hy⟩
  case p=>
   subst hF hI hmm;clear hT h6 hlen;rintro ⟨k,r5,es⟩ w7 ρ2 ⟨h7,hT,hk,hes,hlen⟩;simp only at h7 hT hk hes hlen;dsimp only;have stop:∀ z zs,r5=z::zs→extS z=false→tagR l=some r5:=by
    rintro z zs rfl hz;obtain ⟨k,rfl⟩:∃ k',k=k'+1:=⟨k-1,by simp at hk;omega⟩
    rw [hT,extN,if_neg (by rw [hz];simp)]
   (conv=>whnf);refine h7.ldr ?_;intro A c hS hc;conv=>whnf
   rcases r5 with _|⟨y,ys⟩
   ·have hR:tagR l=some []:=by rw [hT];cases k<;>rfl
    refine Tst.no (decide_eq_false Js) (zu ?_);refine h7.ldr ?_;intro A2 c2 hS2 hc2;(conv=>whnf);refine Tst.no (decide_eq_false Js) (zu ?_);refine h7.ldr ?_;intro A3 c3 hS3 hc3;(conv=>whnf);refine zC (fun _=>zw ?_) (fun _=>zw ?_)
    ·rename_i hh;exact absurd hh Js
    refine h7.ldA ?_;intro s0 s1 s2 s3 A4 n4 c4 A5 n5 c5 s6 hone;(conv=>whnf);refine StoreA.mem (hm1.call h7.ext) (i:=0) rfl (Nat.le_refl 7) hone fun w9 hm9=>zw ?_;refine qaa (R:=fun v w'=>TagV l v∧Ext w w') (zw ?_);refine zl hm9 0 ?_;exact ⟨⟨_,_,_,_,_,_,_,hone,by rw [qj8 ⟨[],hR,by rw [qmg,if_neg (by simp [seeB])]⟩];rfl⟩,hm9.ext⟩
   ·simp only [List.length_cons] at hc hlen hk ⊢;have hy:=h7.small y mh;refine Tst.yes (decide_eq_true Oo) (zu ?_);refine h7.ldr ?_;intro A c hS hc;refine zu ?_;refine ElemV.sl hS rfl 0 rfl Js ?_;intro b off hcl;refine zu ?_;refine LoadV.cell0 hcl (zu ?_);refine zcv (qaw y Oo w7) ?_;rintro v w8 ⟨rfl,he8⟩;have h8:=h7.call he8;refine zu ?_;rw [qti];cases q:qee y
    ·refine zv ?_;refine h8.ldr ?_;intro A2 c2 hS2 hc2;refine zu ?_;refine ElemV.sl hS2 rfl 0 rfl Js ?_;intro b2 off2 hcl2;refine zu ?_;refine LoadV.cell0 hcl2 (zu ?_);refine zcv (qf3 y 1 1 Oo w8) ?_;rintro v w9 ⟨rfl,rfl⟩;cases q1:qy y 1 1 false
     ·have hR:=stop y ys rfl (by rw [extS,q1];rfl);have hno:¬ tagP l:=fun h=>by
       obtain ⟨l1,h1,h2⟩:=h;rw [hR] at h1;cases h1;rw [qmg,if_neg (by show ¬ qee y=true;rw [q];simp)] at h2;cases h2
      refine zu ?_;refine h8.ldr ?_;intro A3 c3 hS3 hc3;(conv=>whnf);refine Tst.yes (decide_eq_true (by simp only [List.length_cons];omega)) (zu ?_);refine h8.ldr ?_;intro A4 c4 hS4 hc4;refine zu ?_;refine ElemV.sl hS4 rfl 0 rfl Js ?_;intro b3 off3 hcl3;refine zu ?_;refine LoadV.cell0 hcl3 (zu ?_);refine zcv (qaw y Oo _) ?_;rintro v w9 ⟨rfl,he9⟩;have h9:=h8.call he9;refine zu ?_;rw [qti,q];refine zv ?_;refine h9.ldr ?_;intro A5 c5 hS5 hc5;(conv=>whnf);refine Tst.yes (decide_eq_true (by simp only [List.length_cons];omega)) (zw ?_);refine StoreA.mem (hm1.call h9.ext) (i:=0) rfl (Nat.le_refl 7) qdq fun w9 hm9=>zw ?_;refine qaa (R:=fun v w'=>TagV l v∧Ext w w') (zw ?_);refine zl hm9 0 ?_;exact ⟨⟨_,_,_,_,_,_,_,qdq,by rw [qcx hno];rfl⟩,hm9.ext⟩
     ·refine zu ?_;have hy1:y.size=1:=by simp [qy] at q1;omega
      obtain ⟨k,rfl⟩:∃ k',k=k'+1:=⟨k-1,by omega⟩
      rw [extN,if_pos (by rw [extS,q1,q];rfl)] at hT;refine zcv (qog h8 hy1 hes Oo) ?_;rintro v w10 ⟨he10,(⟨hbad,rfl⟩|⟨hgood,rfl,h10⟩)⟩
      ·have hno:¬ tagP l:=fun h=>by
        obtain ⟨l1,h1,_⟩:=h;rw [hT,if_pos (hbad.imp id fun ⟨e,he,h9⟩=>List.mem_append_right _ (List.mem_map.2 ⟨e,he,h9⟩))] at h1;cases h1
       refine zu ?_;refine StoreA.mem (hm1.call he10) (i:=0) rfl (Nat.le_refl 7) qdq fun w9 hm9=>zw ?_;refine qaa (R:=fun v w'=>TagV l v∧Ext w w') (zw ?_);refine zl hm9 0 ?_;exact ⟨⟨_,_,_,_,_,_,_,qdq,by rw [qcx hno];rfl⟩,hm9.ext⟩
      ·have hnot:¬ (ys.takeWhile extQ=[]∨lowS y∈vs.map lowS++es.map qfi):=by
        rintro (h0|h0)
        ·exact hgood (.inl h0)
        ·rcases List.mem_append.1 h0 with h0|h0
         ·obtain ⟨z,hz,e⟩:=List.mem_map.1 h0;have e:=congrArg ByteArray.size e;rw [qoy,qoy] at e;have:=(hv4 z hz).1;omega
         ·obtain ⟨z,hz,e⟩:=List.mem_map.1 h0;exact hgood (.inr ⟨z,hz,e⟩)
       rw [if_neg hnot] at hT;obtain ⟨f1,f2⟩:=q2e (l:=ys.takeWhile extQ) hy1;have hdl:(ys.dropWhile extQ).length+1≤ys.length+1:=by
        have:=(List.dropWhile_sublist extQ (l:=ys)).length_le;omega
       refine zu ?_;refine ⟨(k,ys.dropWhile extQ,es++[jnS (y::ys.takeWhile extQ)]),⟨rfl,rfl,rfl,trivial⟩,⟨h10,?_,by simp only;omega,?_,by simp only [zla,List.length_singleton];omega⟩,by simp only;omega⟩
       ·simp only [List.map_append,List.map_cons,List.map_nil,f2];rw [hT,List.append_assoc]
       ·intro e he
        rcases List.mem_append.1 he with he|he
        ·exact hes e he
        ·obtain rfl:=List.mem_singleton.1 he;exact f1
    ·have hR:=stop y ys rfl (qq3 q).2;refine zv ?_;refine h8.ldr ?_;intro A3 c3 hS3 hc3;(conv=>whnf);refine Tst.yes (decide_eq_true (by simp only [List.length_cons];omega)) (zu ?_);refine h8.ldr ?_;intro A4 c4 hS4 hc4;refine zu ?_;refine ElemV.sl hS4 rfl 0 rfl Js ?_;intro b3 off3 hcl3;refine zu ?_;refine LoadV.cell0 hcl3 (zu ?_);refine zcv (qaw y Oo w8) ?_;rintro v w9 ⟨rfl,he9⟩;have h9:=h8.call he9;refine zu ?_;rw [qti,q];refine zv ?_;refine zcv (qvx h9 (by simp only [List.length_cons];omega)) ?_;rintro v w10 ⟨rfl,h10⟩;have hend:qmg (y::ys)↔ys≠[]∧ys.all qie=true:=by rw [qmg,if_pos (by exact q)];rfl
     rw [List.tail_cons];cases q2:(decide (ys≠[])&&ys.all qie)
     ·have hno:¬ tagP l:=fun h=>by
       obtain ⟨l1,h1,h2⟩:=h;rw [hR] at h1;cases h1;have:=hend.1 h2;rw [decide_eq_true this.1,this.2] at q2;cases q2
      refine zu ?_;refine StoreA.mem (hm1.call h10.ext) (i:=0) rfl (Nat.le_refl 7) qdq fun w9 hm9=>zw ?_;refine qaa (R:=fun v w'=>TagV l v∧Ext w w') (zw ?_);refine zl hm9 0 ?_;exact ⟨⟨_,_,_,_,_,_,_,qdq,by rw [qcx hno];rfl⟩,hm9.ext⟩
     ·have hok:tagP l:=by
       simp only [Bool.and_eq_true,decide_eq_true_eq] at q2;exact ⟨_,hR,hend.2 q2⟩
      refine zu ?_;refine h10.ldA ?_;intro s0 s1 s2 s3 A4 n4 c4 A5 n5 c5 s6 hone;(conv=>whnf);refine StoreA.mem (hm1.call h10.ext) (i:=0) rfl (Nat.le_refl 7) hone fun w9 hm9=>zw ?_;refine qaa (R:=fun v w'=>TagV l v∧Ext w w') (zw ?_);refine zl hm9 0 ?_;exact ⟨⟨_,_,_,_,_,_,_,hone,by rw [qj8 hok];rfl⟩,hm9.ext⟩
structure TM where
 kind:Int
 text:ByteArray
 type:ByteArray
 lang:ByteArray
def encT (t:TM):List Value:=[ii t.kind,.string t.text,.string t.type,.string t.lang]
def qbq (t:TM):Value:=.agg #[ii t.kind,.string t.text,.string t.type,.string t.lang]
structure TermOk (t:TM):Prop where
 kind:InR .i64 t.kind
 text:t.text.size≤140737488355328
 type:t.type.size≤140737488355328
 lang:t.lang.size≤140737488355328
def qez:ByteArray:=⟨#[104,116,116,112,58,47,47,119,119,119,46,119,51,46,111,114,103,47,49,57,57,57,47,48,50,47,50,50,45,114,100,102,45,115,121,110,116,97,120,45,110,115,35,108,97,110,103,83,116,114,105,110,103]⟩
open Classical in
noncomputable def litE (t:TM):Nat:=
 if 65536<t.text.size then 2 else if scal t.text.data.toList=none then 40 else if iriE t.type≠0 then iriE t.type
 else if seq t.lang ⟨#[]⟩=false∧65536<t.lang.size then 2
 else if seq t.lang ⟨#[]⟩=false∧(tagE (qay t.lang)≠0∨seq (lowS t.lang) t.lang=false) then 61
 else if (!seq t.lang ⟨#[]⟩)≠seq t.type qez then 71 else 0
noncomputable def qas (t:TM):Nat:=
 if t.kind=1∨t.kind=2 then (if seq t.type ⟨#[]⟩=false∨seq t.lang ⟨#[]⟩=false then 70 else if t.kind=1 then iriE t.text else if 65536<t.text.size then 2 else labE t.text)
 else if t.kind=3 then litE t else 70
theorem qlk (l:List ByteArray):tagE l=0∨tagE l=61:=by
 by_cases h:tagP l
 ·exact .inl (qj8 h)
 ·exact .inr (qcx h)
theorem q4d (a:Int) (b:Nat) (w:World) (hb:w.heap[b]?=some (.cells #[ii a,ii 61] 61)) :
  Gv Tryz.prog 184 [.slice (some ⟨b,0,none⟩) 2 2] w fun v w'=>v=ii (if a=0 then 61 else a)∧w'=w:=by
 refine ze Tryz.func184 Tryz.ntmps184 ?_;refine qe (fun i:Nat=>[(3,ii 0),(6,.slice (some ⟨b,0,none⟩) 2 2),(7,ii 2),(8,ii i)]) (fun i w1=>i≤1∧(i=1→a=0)∧w1=w) (fun i=>2-i) 0 ⟨rfl,rfl,rfl,rfl,trivial⟩ ⟨by omega,by omega,rfl⟩ ?_;rintro i w1 ρ' ⟨h1,h2,rfl⟩;obtain rfl|rfl:i=0∨i=1:=by omega
 ·refine zu ?_;refine ElemV.own1 0 rfl Oo (zw ?_);refine LoadV.of (by rw [qa hb];rfl) (zw ?_);refine zC (fun _=>zu ?_) (fun _=>zu ?_)
  ·exact ⟨by rw [if_neg Oo],rfl⟩
  ·exact ⟨1,⟨rfl,rfl,rfl,rfl,trivial⟩,⟨by omega,fun _=>by omega,rfl⟩,by omega⟩
 ·refine zu ?_;refine ElemV.own1 1 rfl Oo (zw ?_);refine LoadV.of (by rw [qa hb];rfl) (zu ?_);exact ⟨by rw [if_pos (h2 rfl)],rfl⟩
theorem qqw (t:TM) (ht:TermOk t) (w:World) (hM:MaxLenAt w):Gv Tryz.prog 116 [qbq t] w fun v w'=>v=ii (litE t)∧Ext w w':=by
 obtain ⟨h1,h2,h3,h4⟩:=ht;refine ze Tryz.func116 Tryz.ntmps116 ?_;refine znm (Mem.nil w) fun b w1 hm=>zw ?_
 (repeat' (first|refine zC (fun _=>zw ?_) (fun _=>zw ?_)|refine LoadV.mem (i:=0) Oa rfl rfl (zw ?_)))
 ·exact ⟨by rw [litE,if_pos (show 65536<t.text.size by omega)];rfl,hm.ext⟩
 ·refine zcv (qn5 t.text Oo w1) ?_;rintro v w2 ⟨⟨i,rfl,hi,hi1,hi2⟩,rfl⟩;have n1:¬ 65536<t.text.size:=by omega
  (conv=>whnf)
  (repeat' (first|refine zC (fun _=>zw ?_) (fun _=>zw ?_)|refine LoadV.mem (i:=0) Oa rfl rfl (zw ?_)))
  ·have hs:scal t.text.data.toList=none:=Classical.byContradiction fun h=>by have:=hi1 h;omega
   exact ⟨by rw [litE,if_neg n1,if_pos hs];rfl,hm.ext⟩
  ·have n2:¬ scal t.text.data.toList=none:=fun h=>by have:=hi2 h;omega
   refine zcv (qh3 t.type Oo w2) ?_;rintro v w3 ⟨rfl,he3⟩;have hm:=hm.call he3;have eL:litE t=if iriE t.type≠0 then iriE t.type else if seq t.lang ⟨#[]⟩=false∧65536<t.lang.size then 2
     else if seq t.lang ⟨#[]⟩=false∧(tagE (qay t.lang)≠0∨seq (lowS t.lang) t.lang=false) then 61 else if (!seq t.lang ⟨#[]⟩)≠seq t.type qez then 71 else 0:=by rw [litE,if_neg n1,if_neg n2]
   rw [eL];conv=>whnf
   (repeat' (first|refine zp ?_|refine zC (fun _=>zw ?_) (fun _=>zw ?_)|refine LoadV.mem (i:=0) Oa rfl rfl (zw ?_)))
   ·exact ⟨by rw [if_pos Oo],hm.ext⟩
   ·rw [if_neg Oo];cases hl:seq t.lang ⟨#[]⟩
    ·(conv=>whnf)
     (repeat' (first|refine zp ?_|refine zC (fun _=>zw ?_) (fun _=>zw ?_)|refine LoadV.mem (i:=0) Oa rfl rfl (zw ?_)))
     ·exact ⟨by rw [if_pos ⟨rfl,by omega⟩];rfl,hm.ext⟩
     ·rw [if_neg (show ¬ (false=false∧65536<t.lang.size) by omega)];refine zcv (q6z t.lang Oo w3 (hM.ext hm.ext)) ?_;rintro v w4 ⟨⟨c0,c1,c2,c3,c4,c5,c6,hc,rfl⟩,he4⟩;have hm4:=hm.call he4;obtain ⟨E,hE⟩:∃ E,E=tagE (qay t.lang):=⟨_,rfl⟩
      have hE2:=qlk (qay t.lang);rw [← hE] at hE2 ⊢;(conv=>whnf);refine znm hm4 fun tb w5 hm5=>zw ?_;refine StoreA.mem hm5 (i:=0) rfl (Nat.le_refl 7) hc fun w6 hm6=>zw ?_;have hlang:w6.cell? ⟨b,3,none⟩=some (.string t.lang):=by rw [qa (hm6.get (zmg (i:=1) rfl))];rfl
      rcases hE2 with rfl|rfl
      ·refine DrawV.free rfl Ok (zw ?_);(iterate 4 (refine zd ?_));refine zf ?_ (by intro wd hd;refine zu ?_;refine LoadV.of (Ext.cell (Ext.trans (Ext.drew xr) hd) hlang) ?_;(conv=>whnf);exact ⟨xr,rfl⟩);apply zsd
       ·intro wd hd;refine zu ?_;refine zcv (qek t.lang Oo wd) ?_;rintro v w7 ⟨rfl,he7⟩;exact ⟨he7,rfl⟩
       (conv=>whnf);refine zd ?_;refine zf ?_ (by intro wd hd;refine zu ?_;refine LoadV.of (Ext.cell (Ext.trans (Ext.drew xr) hd) hlang) ?_;(conv=>whnf);exact ⟨xr,rfl⟩);refine zd ?_;refine zd ?_;intro wd hd;(conv=>whnf);have hm7:=hm6.drew.call hd;have hlang7:wd.cell? ⟨b,3,none⟩=some (.string t.lang):=by rw [qa (hm7.get (zmg (i:=1) rfl))];rfl
       have hty7:wd.cell? ⟨b,2,none⟩=some (.string t.type):=by rw [qa (hm7.get (zmg (i:=1) rfl))];rfl
       cases hlo:seq (lowS t.lang) t.lang
       ·rw [if_pos ⟨rfl,.inr rfl⟩];refine zu ?_;refine znm hm7 fun ab w8 hm8=>zw ?_;refine zcv (q4d 0 ab w8 (hm8.get mh)) ?_;rintro v w9 ⟨rfl,rfl⟩;(conv=>whnf);exact ⟨rfl,hm8.ext⟩
       ·rw [if_neg Js];(conv=>whnf);refine zt ?_;refine LoadV.mem (i:=1) Oa rfl rfl (zw ?_);refine LoadV.mem (i:=1) Oa rfl rfl (zw ?_);refine zt ?_;show Tst ((!seq t.lang ⟨#[]⟩)==seq t.type qez) _ _;rw [hl];cases ht:seq t.type qez
        ·refine zu ?_;exact ⟨rfl,hm7.ext⟩
        ·refine zu ?_;exact ⟨rfl,hm7.ext⟩
      ·rw [if_pos ⟨rfl,.inl Od⟩];refine DrawV.free rfl Ok (zw ?_);(iterate 10 (refine zd ?_));intro wd hd;(conv=>whnf);have hm7:=hm6.drew.call hd;refine zv ?_;refine znm hm7 fun ab w8 hm8=>zw ?_;refine zcv (q4d 61 ab w8 (hm8.get mh)) ?_;rintro v w9 ⟨rfl,rfl⟩;(conv=>whnf);exact ⟨rfl,hm8.ext⟩
    ·rw [if_neg Js,if_neg Js];(conv=>whnf);refine zt ?_;refine LoadV.mem (i:=0) Oa rfl rfl (zw ?_);refine LoadV.mem (i:=0) Oa rfl rfl (zw ?_);refine zt ?_;show Tst ((!seq t.lang ⟨#[]⟩)==seq t.type qez) _ _;rw [hl];cases ht:seq t.type qez
     ·refine zu ?_;exact ⟨rfl,hm.ext⟩
     ·refine zu ?_;exact ⟨rfl,hm.ext⟩
theorem qgt (t:TM) (ht:TermOk t) (w:World) (hM:MaxLenAt w) (hT:CellsAt w 6 0 qbt):Gv Tryz.prog 66 [qbq t] w fun v w'=>v=ii (qas t)∧Ext w w':=by
 have hlit:=fun w1 (he:Ext w w1)=>qqw t ht w1 (hM.ext he)
 obtain ⟨h1,h2,h3,h4⟩:=ht;refine ze Tryz.func66 Tryz.ntmps66 ?_;refine znm (Mem.nil w) fun b w1 hm=>zw ?_;have hA:(t.kind=1∨t.kind=2)→qas t=if seq t.type ⟨#[]⟩=false∨seq t.lang ⟨#[]⟩=false then 70 else if t.kind=1 then iriE t.text else if 65536<t.text.size then 2 else labE t.text:=fun h=>by rw [qas,if_pos h]
 have hB:¬ (t.kind=1∨t.kind=2)→qas t=if t.kind=3 then litE t else 70:=fun h=>by rw [qas,if_neg h]
 (repeat' (first|refine zp ?_|refine zC (fun _=>zw ?_) (fun _=>zw ?_)|refine LoadV.mem (i:=0) Oa rfl rfl (zw ?_)))
 ·rw [hA (.inl Oa)];cases hy:seq t.type ⟨#[]⟩
  ·refine zu ?_;exact ⟨by rw [if_pos (.inl rfl)];rfl,hm.ext⟩
  ·(conv=>whnf);refine zt ?_;refine LoadV.mem (i:=0) Oa rfl rfl (zw ?_);refine zt ?_;cases hl:seq t.lang ⟨#[]⟩
   ·refine zu ?_;exact ⟨by rw [if_pos (.inr rfl)];rfl,hm.ext⟩
   ·rw [if_neg Js,if_pos Oa];(conv=>whnf);refine zt ?_;refine LoadV.mem (i:=0) Oa rfl rfl (zw ?_);refine zt ?_;refine LoadV.mem (i:=0) Oa rfl rfl (zw ?_);refine zcv (qh3 t.text Oo w1) ?_;rintro v w2 ⟨rfl,he⟩;(conv=>whnf);exact ⟨rfl,hm.ext.trans he⟩
 ·rw [hA (.inr Oa)];cases hy:seq t.type ⟨#[]⟩
  ·refine zu ?_;exact ⟨by rw [if_pos (.inl rfl)];rfl,hm.ext⟩
  ·(conv=>whnf);refine zt ?_;refine LoadV.mem (i:=0) Oa rfl rfl (zw ?_);refine zt ?_;cases hl:seq t.lang ⟨#[]⟩
   ·refine zu ?_;exact ⟨by rw [if_pos (.inr rfl)];rfl,hm.ext⟩
   ·rw [if_neg Js,if_neg Oo];conv=>whnf
    (repeat' (first|refine zp ?_|refine zC (fun _=>zw ?_) (fun _=>zw ?_)|refine LoadV.mem (i:=0) Oa rfl rfl (zw ?_)))
    ·exact ⟨by rw [if_pos Oo];rfl,hm.ext⟩
    ·rw [if_neg Oo];refine zcv (qys t.text Oo w1 (hT.ext hm.ext)) ?_;rintro v w2 ⟨rfl,rfl⟩;(conv=>whnf);exact ⟨rfl,hm.ext⟩
 ·rw [hB Oo,if_pos Oa];refine zl hm 0 ?_;refine zcv (hlit w1 hm.ext) ?_;rintro v w2 ⟨rfl,he⟩;(conv=>whnf);exact ⟨rfl,hm.ext.trans he⟩
 ·exact ⟨by rw [hB Oo,if_neg Oo];rfl,hm.ext⟩
theorem q2t (d:Bool) (r:Nat) (l:List Nat):okT d (r::l)=((qc9 r||decide (r=46))&&okT (decide (r=46)) l):=rfl
theorem qlj (r0:Nat) (t:List Nat) (A:oA) (c:Nat) (w:World) (hA:SlAt zeI 1 w A ((r0::t).map Int.ofNat)) (hl:t.length≤4000000000000) :
  Gv Tryz.prog 192 [.slice A (t.length+1) c] w fun v w'=>v=.bool (okT false t)∧Ext w w':=by
 refine ze Tryz.func192 Tryz.ntmps192 ?_;refine qe (fun x:Nat × Bool=>[(0,.slice A (t.length+1) c),(3,ii (x.1+1:Nat))]) (fun x w2=>x.1≤t.length∧okT false t=okT x.2 (t.drop x.1)∧(x.2=true→x.1<t.length)∧Ext w w2) (fun x=>t.length-x.1) (0,false) ⟨rfl,rfl,trivial⟩ ⟨by simp,rfl,by simp,xr⟩ ?_;rintro ⟨i,d⟩ w2 ρ' ⟨h1,h2,h3,he⟩;simp only at h1 h2 h3;dsimp only;(conv=>whnf);refine zC (fun _=>zw ?_) (fun _=>zw ?_)
 ·have hil:i<t.length:=by omega
  have hget:∀ w' (_:Ext w w'),∃ b off,A=some ⟨b,off,none⟩∧w'.cell? ⟨b,off+(i+1)*1,none⟩=some (ii t[i]):=fun w' he'=>by
   obtain ⟨b,off,e1,e2⟩:=(hA.ext he').at_ Js;refine ⟨b,off,e1,?_⟩;have:=e2 (i+1) (Int.ofNat t[i]) (by simp [hil]) 0 (ii t[i]) rfl
   simpa using this
  rw [List.drop_eq_getElem_cons hil,q2t] at h2;obtain ⟨b,off,rfl,hc⟩:=hget w2 he;refine ⟨b,off,i+1,rfl,by omega,by omega,?_⟩;(conv=>whnf);refine LoadV.of hc (zw ?_);refine zcv (qjv _ w2) ?_;rintro v w3 ⟨rfl,he3⟩;have hf46:qc9 46=false:=by decide
  cases hf:qc9 t[i]
  ·rw [hf,Bool.false_or] at h2;refine zu ?_;refine ⟨b,off,i+1,rfl,by omega,by omega,?_⟩;(conv=>whnf);obtain ⟨b',off',e1,hc3⟩:=hget w3 (he.trans he3);cases e1;refine zv ?_;refine LoadV.of hc3 (zw ?_)
   (repeat' (first|refine zp ?_|refine zC (fun _=>zw ?_) (fun _=>zw ?_)))
   ·refine ⟨congrArg Value.bool ?_,he.trans he3⟩;rw [h2,decide_eq_false Oo];rfl
   ·refine ⟨congrArg Value.bool ?_,he.trans he3⟩;rw [h2,decide_eq_true Oo,List.drop_eq_nil_of_le Oo];rfl
   ·refine ⟨(i+1,true),⟨rfl,rfl,trivial⟩,⟨by simp only;omega,?_,by simp only;omega,he.trans he3⟩,by simp only;omega⟩;rw [h2,decide_eq_true Oo,Bool.true_and]
  ·have hne:t[i]≠46:=by intro e;rw [e] at hf;rw [show ((46:Nat):Int)=46 from rfl,hf46] at hf;cases hf
   rw [hf,Bool.true_or,Bool.true_and,decide_eq_false hne] at h2;refine zu ?_;exact ⟨(i+1,false),⟨rfl,rfl,trivial⟩,⟨by simp only;omega,h2,by simp,he.trans he3⟩,by simp only;omega⟩
 ·refine ⟨congrArg Value.bool ?_,he⟩;have hi:i=t.length:=by omega
  rw [h2,List.drop_eq_nil_of_le Oo];cases d with
  | false=>rfl
  | true=>have:=h3 rfl;omega
theorem qph (s:ByteArray) (hs:s.size≤4000000000000) (w:World) :
  Gv Tryz.prog 120 [.string s] w fun v w'=>v=ii (labE s)∧Ext w w':=by
 have hsc:=qrl s hs w;have hno:qbs s=false→labE s=60:=fun h=>by rw [labE,if_neg (by rw [h];simp)]
 have hyes:qbs s=true→labE s=0:=fun h=>by rw [labE,if_pos h]
 refine ze Tryz.func120 Tryz.ntmps120 ?_;refine zcv (hsc) ?_;rintro v w1 ⟨⟨hn,rfl⟩|⟨l,A,c,hl,rfl,hA,hlen⟩,he⟩
 ·have hL:qbs s=false:=by rw [qbs,hn]
  refine zu ?_;exact ⟨by rw [hno hL];rfl,he⟩
 ·have hL:qbs s=labL l:=by rw [qbs,hl]
  cases l with
  | nil=>
   simp only [List.length_nil];refine zu ?_;exact ⟨by rw [hno hL];rfl,he⟩
  | cons r0 t=>
   have hL:qbs s=(labB r0&&okT false t):=hL;have hget:∀ w' (_:Ext w1 w'),∃ b off,A=some ⟨b,off,none⟩∧w'.cell? ⟨b,off+0*1,none⟩=some (ii r0):=fun w' he'=>by
    obtain ⟨b,off,e1,e2⟩:=(hA.ext he').at_ Js;exact ⟨b,off,e1,by simpa using e2 0 (Int.ofNat r0) Js 0 (ii r0) rfl⟩
   obtain ⟨b,off,rfl,hc⟩:=hget w1 xr;simp only [List.length_cons] at hlen ⊢;refine zu ?_;refine ⟨b,off,0,rfl,by omega,by omega,?_⟩;refine zu ?_;refine LoadV.of hc (zu ?_);refine zcv (qfm _ w1) ?_;rintro v w2 ⟨rfl,he2⟩;cases hS:qfp r0
   ·refine zu ?_;refine ⟨b,off,0,rfl,by omega,by omega,?_⟩;refine zu ?_;obtain ⟨b',off',e1,hc2⟩:=hget w2 he2;cases e1;refine LoadV.of hc2 (zu ?_);refine zcv (qgk _ w2) ?_;rintro v w3 ⟨rfl,rfl⟩;cases hD:digN r0
    ·have hb:qbs s=false:=by rw [hL,labB,hS,hD];rfl
     refine zu ?_;exact ⟨by rw [hno hb];rfl,he.trans he2⟩
    ·have hb:labB r0=true:=by rw [labB,hS,hD];rfl
     refine zu ?_;refine zcv (qlj r0 t _ c w3 (hA.ext he2) Oo) ?_;rintro v w4 ⟨rfl,he4⟩;have hx:=he.trans (he2.trans he4);cases hO:okT false t
     ·have hb:qbs s=false:=by rw [hL,hO,Bool.and_false]
      refine zu ?_;exact ⟨by rw [hno hb];rfl,hx⟩
     ·have hb:qbs s=true:=by rw [hL,hb,hO];rfl
      refine zu ?_;exact ⟨by rw [hyes hb];rfl,hx⟩
   ·have hb:labB r0=true:=by rw [labB,hS];rfl
    refine zu ?_;refine zcv (qlj r0 t _ c w2 (hA.ext he2) Oo) ?_;rintro v w4 ⟨rfl,he4⟩;have hx:=he.trans (he2.trans he4);cases hO:okT false t
    ·have hb:qbs s=false:=by rw [hL,hO,Bool.and_false]
     refine zu ?_;exact ⟨by rw [hno hb];rfl,hx⟩
    ·have hb:qbs s=true:=by rw [hL,hb,hO];rfl
     refine zu ?_;exact ⟨by rw [hyes hb];rfl,hx⟩
theorem qox (s:ByteArray):seq (lowS s) s=true↔∀ i,i<s.size→¬ (65≤(gb s i).toNat∧(gb s i).toNat≤90):=by
 rw [qao]
 constructor
 ·intro h i hi hc;have e:=congrArg (fun b:ByteArray=>b.data.toList[i]?) h;have hi':i<s.data.toList.length:=by simpa using hi
  simp only [lowS,List.getElem?_map] at e;rw [zge hi'] at e;have hg:s.data.toList[i]=gb s i:=by rw [gb,List.getD_eq_getElem?_getD,zge hi',Option.getD_some]
  rw [hg] at e;have e:=Option.some.inj e;have:=qmu (gb s i) hc;rw [e] at this;omega
 ·intro h;have e:s.data.toList.map lowB=s.data.toList:=by
   apply List.ext_getElem Js;intro i h1 h2;rw [List.getElem_map];have hg:s.data.toList[i]=gb s i:=by rw [gb,List.getD_eq_getElem?_getD,zge h2,Option.getD_some]
   rw [hg];exact qmv _ (h i (by simpa using h2))
  unfold lowS;rw [e]
theorem qkm (t:TM) (ht:TermOk t) (w:World):Gv Tryz.prog 121 [qbq t] w fun v w'=>v=ii (litE t)∧Ext w w':=by
 obtain ⟨h1,h2,h3,h4⟩:=ht;refine ze Tryz.func121 Tryz.ntmps121 ?_;refine znm (Mem.nil w) fun b w1 hm=>zw ?_
 (repeat' (first|((with_reducible refine zC (fun _=>?_) (fun _=>?_))<;>first|(exfalso;omega)|(conv=>whnf))|(refine LoadV.mem (i:=0) Oa rfl rfl ?_;(conv=>whnf))))
 ·exact ⟨by rw [litE,if_pos (show 65536<t.text.size by omega)];rfl,hm.ext⟩
 ·have n1:¬ 65536<t.text.size:=by omega
  refine zcv (qh7 t.text Oo w1) ?_;rintro v w2 ⟨⟨i,rfl,hi,hi1,hi2⟩,he2⟩;have hm:=hm.call he2;conv=>whnf
  (repeat' (first|((with_reducible refine zC (fun _=>?_) (fun _=>?_))<;>first|(exfalso;omega)|(conv=>whnf))|(refine LoadV.mem (i:=0) Oa rfl rfl ?_;(conv=>whnf))))
  ·have hs:scal t.text.data.toList=none:=Classical.byContradiction fun h=>by have:=hi1 h;omega
   exact ⟨by rw [litE,if_neg n1,if_pos hs];rfl,hm.ext⟩
  ·have n2:¬ scal t.text.data.toList=none:=fun h=>by have:=hi2 h;omega
   refine zcv (qeu t.type Oo w2) ?_;rintro v w3 ⟨rfl,he3⟩;have hm:=hm.call he3;have eL:litE t=if iriE t.type≠0 then iriE t.type else if seq t.lang ⟨#[]⟩=false∧65536<t.lang.size then 2
     else if seq t.lang ⟨#[]⟩=false∧(tagE (qay t.lang)≠0∨seq (lowS t.lang) t.lang=false) then 61 else if (!seq t.lang ⟨#[]⟩)≠seq t.type qez then 71 else 0:=by rw [litE,if_neg n1,if_neg n2]
   rw [eL];conv=>whnf
   (repeat' (first|((with_reducible refine zC (fun _=>?_) (fun _=>?_))<;>first|(exfalso;omega)|(conv=>whnf))|((with_reducible refine zP ?_))|(refine LoadV.mem (i:=0) Oa rfl rfl ?_;(conv=>whnf))))
   ·exact ⟨by rw [if_pos Oo],hm.ext⟩
   ·rw [if_neg Oo];cases hl:seq t.lang ⟨#[]⟩
    ·(conv=>whnf)
     (repeat' (first|((with_reducible refine zU ?_);(conv=>whnf))|((with_reducible refine zC (fun _=>?_) (fun _=>?_))<;>first|(exfalso;omega)|(conv=>whnf))|(refine LoadV.mem (i:=0) Oa rfl rfl ?_;(conv=>whnf))))
     ·exact ⟨by rw [if_pos ⟨rfl,by omega⟩];rfl,hm.ext⟩
     ·rw [if_neg (show ¬ (false=false∧65536<t.lang.size) by omega)];refine zcv (qv7 t.lang Oo w3) ?_;rintro v w4 ⟨⟨c0,c1,c2,c3,c4,c5,c6,hc,rfl⟩,he4⟩;have hm4:=hm.call he4;obtain ⟨E,hE⟩:∃ E,E=tagE (qay t.lang):=⟨_,rfl⟩
      have hE2:=qlk (qay t.lang);rw [← hE] at hE2 ⊢;conv=>whnf
      rcases hE2 with rfl|rfl
      ·refine zN (fun _=>?_);(conv=>whnf);have lg:∀ w5,Ext w4 w5→w5.cell? ⟨b,3,none⟩=some (.string t.lang):=fun w5 he5=>by rw [qa ((hm4.call he5).get (zmg (i:=0) rfl))];rfl
       refine qe (fun i:Nat=>[(1,pp b),(4,ii i)])
        (fun i w5=>Ext w4 w5∧i≤t.lang.size∧∀ j,j<i→¬ (65≤(gb t.lang j).toNat∧(gb t.lang j).toNat≤90))
        (fun i=>t.lang.size-i) 0 ⟨rfl,rfl,trivial⟩ ⟨xr,by omega,fun j h0=>by omega⟩ ?_
       rintro i w5 ρ' ⟨he5,hi,hj⟩;have hm5:=hm4.call he5;(conv=>whnf);refine zr hm5 0 ?_
       (repeat' (first|(refine zA ?_;(conv=>whnf))|((with_reducible refine zT ?_);(conv=>whnf))|((with_reducible refine zU ?_);(conv=>whnf))|((with_reducible refine zC (fun _=>?_) (fun _=>?_))<;>first|(exfalso;omega)|(conv=>whnf))|((with_reducible refine zP ?_))|((with_reducible refine zX ?_);(conv=>whnf))|(refine LoadV.mem (i:=0) Oa rfl rfl ?_;(conv=>whnf))))
       ·have hlow:seq (lowS t.lang) t.lang=false:=Bool.eq_false_iff.2 fun h=>qox t.lang |>.1 h i Oo Oo
        exact ⟨by rw [if_pos ⟨rfl,.inr hlow⟩];rfl,hm5.ext⟩
       ·refine ⟨i+1,⟨rfl,rfl,trivial⟩,⟨he5,by omega,fun j hji=>?_⟩,by omega⟩
        by_cases e:j=i
        ·subst e;omega
        ·exact hj j Oo
       ·refine ⟨i+1,⟨rfl,rfl,trivial⟩,⟨he5,by omega,fun j hji=>?_⟩,by omega⟩
        by_cases e:j=i
        ·subst e;omega
        ·exact hj j Oo
       ·have hlow:seq (lowS t.lang) t.lang=true:=qox t.lang |>.2 fun j hj'=>hj j Oo
        rw [if_neg (by rw [hlow];simp)];show Tst ((!seq t.lang ⟨#[]⟩)==seq t.type qez) _ _;rw [hl];cases ht:seq t.type qez
        ·(conv=>whnf);refine Tst.beqF ?_;refine zP ?_;refine zU ?_;(conv=>whnf);exact ⟨rfl,hm5.ext⟩
        ·(conv=>whnf);refine Tst.beqT ?_;refine zP ?_;refine zU ?_;(conv=>whnf);exact ⟨rfl,hm5.ext⟩
      ·(conv=>whnf);refine zY (fun _=>?_);(conv=>whnf);exact ⟨by rw [if_pos ⟨rfl,.inl Od⟩],hm4.ext⟩
    ·rw [if_neg Js,if_neg Js];(conv=>whnf);refine zT ?_;(conv=>whnf);(iterate 2 (refine LoadV.mem (i:=0) Oa rfl rfl ?_;(conv=>whnf)));refine zP ?_;show Tst ((!seq t.lang ⟨#[]⟩)==seq t.type qez) _ _;rw [hl];cases ht:seq t.type qez
     ·(conv=>whnf);refine Tst.beqF ?_;refine zP ?_;refine zT ?_;(conv=>whnf);exact ⟨rfl,hm.ext⟩
     ·(conv=>whnf);refine Tst.beqT ?_;refine zP ?_;refine zT ?_;(conv=>whnf);exact ⟨rfl,hm.ext⟩
theorem qaz (t:TM) (ht:TermOk t) (w:World):Gv Tryz.prog 69 [qbq t] w fun v w'=>v=ii (qas t)∧Ext w w':=by
 have hlit:=fun w1=>qkm t ht w1
 obtain ⟨h1,h2,h3,h4⟩:=ht;refine ze Tryz.func69 Tryz.ntmps69 ?_;refine znm (Mem.nil w) fun b w1 hm=>zw ?_;have hA:(t.kind=1∨t.kind=2)→qas t=if seq t.type ⟨#[]⟩=false∨seq t.lang ⟨#[]⟩=false then 70 else if t.kind=1 then iriE t.text else if 65536<t.text.size then 2 else labE t.text:=fun h=>by rw [qas,if_pos h]
 have hB:¬ (t.kind=1∨t.kind=2)→qas t=if t.kind=3 then litE t else 70:=fun h=>by rw [qas,if_neg h]
 (repeat' (first|((with_reducible refine zC (fun _=>?_) (fun _=>?_))<;>first|(exfalso;omega)|(conv=>whnf))|((with_reducible refine zP ?_))|(refine LoadV.mem (i:=0) Oa rfl rfl ?_;(conv=>whnf))))
 ·rw [hA (.inl Oa)];cases hy:seq t.type ⟨#[]⟩
  ·(conv=>whnf);refine zU ?_;(conv=>whnf);(iterate 4 (refine zT ?_;(conv=>whnf)));exact ⟨by rw [if_pos (.inl rfl)];rfl,hm.ext⟩
  ·(conv=>whnf);refine zT ?_;(conv=>whnf);refine zU ?_;(conv=>whnf);refine LoadV.mem (i:=0) Oa rfl rfl (zw ?_);(iterate 2 (refine zU ?_;(conv=>whnf)));refine zP ?_;cases hl:seq t.lang ⟨#[]⟩
   ·(conv=>whnf);refine zU ?_;(conv=>whnf);exact ⟨by rw [if_pos (.inr rfl)];rfl,hm.ext⟩
   ·rw [if_neg Js,if_pos Oa];(conv=>whnf);refine zT ?_;(conv=>whnf);refine LoadV.mem (i:=0) Oa rfl rfl (zw ?_);refine zY (fun _=>?_);(conv=>whnf);refine LoadV.mem (i:=0) Oa rfl rfl (zw ?_);refine zcv (qeu t.text Oo w1) ?_;rintro v w2 ⟨rfl,he⟩;(conv=>whnf);exact ⟨rfl,hm.ext.trans he⟩
 ·rw [hA (.inr Oa)];cases hy:seq t.type ⟨#[]⟩
  ·(conv=>whnf);refine zU ?_;(conv=>whnf);(iterate 4 (refine zT ?_;(conv=>whnf)));exact ⟨by rw [if_pos (.inl rfl)];rfl,hm.ext⟩
  ·(conv=>whnf);refine zT ?_;(conv=>whnf);refine zU ?_;(conv=>whnf);refine LoadV.mem (i:=0) Oa rfl rfl (zw ?_);(iterate 2 (refine zU ?_;(conv=>whnf)));refine zP ?_;cases hl:seq t.lang ⟨#[]⟩
   ·(conv=>whnf);refine zU ?_;(conv=>whnf);exact ⟨by rw [if_pos (.inr rfl)];rfl,hm.ext⟩
   ·rw [if_neg Js,if_neg Oo];conv=>whnf
    (repeat' (first|((with_reducible refine zT ?_);(conv=>whnf))|((with_reducible refine zC (fun _=>?_) (fun _=>?_))<;>first|(exfalso;omega)|(conv=>whnf))|(refine LoadV.mem (i:=0) Oa rfl rfl ?_;(conv=>whnf))))
    ·exact ⟨by rw [if_pos Oo];rfl,hm.ext⟩
    ·rw [if_neg Oo];refine zcv (qph t.text Oo w1) ?_;rintro v w2 ⟨rfl,he⟩;(conv=>whnf);exact ⟨rfl,hm.ext.trans he⟩
 ·rw [hB Oo,if_pos Oa];refine zl hm 0 ?_;refine zcv (hlit w1) ?_;rintro v w2 ⟨rfl,he⟩;(conv=>whnf);exact ⟨rfl,hm.ext.trans he⟩
 ·exact ⟨by rw [hB Oo,if_neg Oo];rfl,hm.ext⟩
open Go.RowKit
namespace V
theorem StoreA.all {P:Program} {w0 w:World} {L:List (Nat × Obj)} {i b:Nat} {cur:Array Value} {t:TypeId} {vs:List Value} {K:World→Prop} (h:Mem w0 w L) (hi:L[i]?=some (b,.cells cur t))
  (hl:cur.size=vs.length) (h1:∀ v∈vs,v.oneCell'=true) (hk:∀ w',Mem w0 w' (L.set i (b,.cells vs.toArray t))→K w'):StoreA P w b 0 vs K:=by
 refine StoreA.mem h hi Oo h1 fun w' hw=>hk w' ?_;have e:(cur.toList.take 0++vs++cur.toList.drop (0+vs.length)).toArray=vs.toArray:=by
  rw [List.take_zero,List.nil_append,List.drop_eq_nil_of_le Ys,List.append_nil]
 rwa [e] at hw
end V
open V
theorem qy3:∀ (x y:LB),Op.bytesLess x y=decide (x<y)
 | [],[]=>by simp [Op.bytesLess]
 | _::_,[]=>by simp [Op.bytesLess]
 | [],_::_=>by simp [Op.bytesLess]
 | a::x,b::y=>by
  rw [Op.bytesLess,qy3 x y];simp only [List.cons_lt_cons_iff]
  by_cases h1:a<b<;>by_cases h2:a=b<;>by_cases h3:x<y<;>simp [h1,h2,h3]
theorem qex {a b:ByteArray}:slt a b=true↔a.data.toList<b.data.toList:=by
 unfold slt;rw [qy3,ByteArray.toList_eq,ByteArray.toList_eq,decide_eq_true_iff]
theorem qdk (a:ByteArray):slt a a=false:=by
 rw [← Bool.not_eq_true,qex];exact List.lt_irrefl _
theorem qey {a b c:ByteArray} (h:slt a b=true) (k:slt b c=true):slt a c=true:=by
 rw [qex] at *;exact List.lt_trans h k
theorem qnm (a b:ByteArray):slt a b=true∨a=b∨slt b a=true:=by
 rw [qex,qex]
 by_cases h1:a.data.toList<b.data.toList
 ·exact .inl h1
 ·by_cases h2:b.data.toList<a.data.toList
  ·exact .inr (.inr h2)
  ·refine .inr (.inl ?_);have:=List.le_antisymm (List.not_lt.1 h2) (List.not_lt.1 h1);cases a;cases b;simpa using this
namespace V
def encB (c:UInt8):List Value:=[.int .u8 c.toNat]
structure BS (w:World) (v:Value) (l:LB):Prop where
 h:∃ A c,v=.slice A l.length c∧l.length≤c∧SlAt encB 1 w A l
theorem BS.ext {w w':World} {v:Value} {l:LB} (h:BS w v l) (he:Ext w w'):BS w' v l:=by
 obtain ⟨A,c,h1,h2,h3⟩:=h;exact ⟨A,c,h1,h2,h3.ext he⟩
theorem BS.nil (w:World):BS w (.slice none 0 0) []:=⟨none,0,rfl,by simp,⟨fun h=>absurd rfl h⟩⟩
theorem SlAt.cut {α:Type} {enc:α→List Value} {size:Nat} {w:World} {A A':oA} {l:List α} {lo hi m:Nat} (h:SlAt enc size w A l) (h1:lo≤hi) (h2:hi≤l.length) (h3:hi≤m)
  (e:A'=if m=lo then A else A.map (·.add (lo*size))):SlAt enc size w A' ((l.drop lo).take (hi-lo)):=by
 refine ⟨fun hne=>?_⟩;have hlt:lo<hi:=by
  rcases Nat.lt_or_ge lo hi with h|h
  ·exact h
  ·exact absurd (by rw [show hi-lo=0 by omega,List.take_zero]) hne
 have hn:l≠[]:=by rintro rfl;simp at h2;omega
 obtain ⟨b,off,rfl,hc⟩:=h.at_ hn;rw [if_neg Oo] at e;simp only [Option.map_some,qad] at e;refine ⟨b,off+lo*size,e,fun j x hx=>?_⟩;have hj:j<hi-lo:=by
  have:=(List.getElem?_eq_some_iff.1 hx).1;simp at this;omega
 have hx':l[lo+j]?=some x:=by
  rw [List.getElem?_take,if_pos hj,List.getElem?_drop] at hx;exact hx
 have:=hc (lo+j) x hx'
 rwa [Nat.add_mul,← Nat.add_assoc] at this
theorem SliceV.bs {w:World} {A:oA} {n c:Nat} {lo hi mx:Option Value} {l:LB} {K:Value→Prop} (hA:SlAt encB 1 w A l) (hl:l.length=n) (a b m:Nat) (h1:bnd lo 0 a) (h2:bnd hi n b) (h3:bnd mx c m) (hab:a≤b) (hbn:b≤n) (hbm:b≤m) (hm:m≤c)
  (hs:mx.isSome=true→hi.isSome=true) (hk:∀ A',SlAt encB 1 w A' ((l.drop a).take (b-a))→K (.slice A' (b-a) (m-a))):SliceV 1 A n c lo hi mx K:=
 ⟨a,b,m,h1,h2,h3,hab,hbm,hm,hs,fun A' e=>hk A' (hA.cut hab Oo hbm e)⟩
theorem ElemV.bs {w:World} {A:oA} {n:Nat} {l:LB} {i:Int} {K:Value→Prop} (hA:SlAt encB 1 w A l) (hl:l.length=n) (j:Nat) (e:i=(j:Int)) (hj:j<n)
  (hk:∀ b off,w.cell? ⟨b,off,none⟩=some (.int .u8 (l[j]'(hl ▸ hj)).toNat)→K (.pointer (some ⟨b,off,none⟩))):ElemV A i n 1 K:=
 ElemV.sl hA hl j e hj fun b off hc=>hk b off (by have:=hc 0 _ rfl;rwa [Nat.add_zero] at this)
structure Upd (w w':World) (b:Nat) (o:Obj):Prop where
 os:w'.os=w.os
 tape:w'.tape=w.tape
 output:w'.output=w.output
 size:w.heap.size≤w'.heap.size
 block:∀ k,k<w.heap.size→k≠b→w'.heap[k]?=w.heap[k]?
 at_:w'.heap[b]?=some o
theorem Upd.refl {w:World} {b:Nat} {o:Obj} (h:w.heap[b]?=some o):Upd w w b o:=⟨rfl,rfl,rfl,Nat.le_refl _,fun _ _ _=>rfl,h⟩
theorem Upd.of {w w':World} {b:Nat} {o:Obj} (h:w.heap[b]?=some o) (he:Ext w w'):Upd w w' b o:=⟨he.os,he.tape,he.output,he.size,fun k hk _=>he.block k hk,he.get h⟩
theorem Upd.set {w w':World} {b off:Nat} {cs:Array Value} {t:TypeId} {fr:Nat × Nat} {v:Value} (h:w.heap[b]?=some (.cells cs t fr)) (hw:w'=w.setCell ⟨b,off,none⟩ v):Upd w w' b (.cells (cs.setIfInBounds off v) t fr):=by
 subst hw;exact ⟨rfl,rfl,rfl,by simp [World.setCell],fun k _ hk=>Below.heap_setCell _ _ _ _ hk,heap_setCell h⟩
theorem Upd.trans {a b c:World} {k:Nat} {o o':Obj} (h:Upd a b k o) (h':Upd b c k o'):Upd a c k o':=
 ⟨h'.os.trans h.os,h'.tape.trans h.tape,h'.output.trans h.output,Nat.le_trans h.size h'.size,fun j hj hne=>(h'.block j (Nat.lt_of_lt_of_le hj h.size) hne).trans (h.block j hj hne),h'.at_⟩
theorem Upd.ext {w0 w w':World} {b:Nat} {o:Obj} (h:Upd w w' b o) (he:Ext w0 w) (hb:w0.heap.size≤b):Ext w0 w':=
 Below.trans he ⟨h.os,h.tape,h.output,h.size,fun k hk=>h.block k (Nat.lt_of_lt_of_le hk he.size) Oo⟩
theorem Mem.upd {w0 w w':World} {L:List (Nat × Obj)} {i b:Nat} {o o':Obj} (h:Mem w0 w L) (hi:L[i]?=some (b,o)) (hu:Upd w w' b o'):Mem w0 w' (L.set i (b,o')):=by
 have hm:(b,o)∈L:=zmg hi;have hil:i<L.length:=(List.getElem?_eq_some_iff.1 hi).1;have hib:L[i]=(b,o):=(List.getElem?_eq_some_iff.1 hi).2;have hn:((L.set i (b,o')).map (·.1))=L.map (·.1):=by
  rw [List.map_set];apply List.ext_getElem?;intro j;rw [List.getElem?_set]
  split
  ·rename_i e;subst e
   rw [List.getElem?_map,hi];simp [hil]
  ·rfl
 refine ⟨hu.ext h.ext (h.own _ hm).1,?_,by rw [hn];exact h.nodup⟩;intro x hx
 rcases List.mem_or_eq_of_mem_set hx with hx' | rfl
 ·refine ⟨(h.own x hx').1,?_⟩
  by_cases e:x.1=b
  ·obtain ⟨j,hj,hje⟩:=List.mem_iff_getElem.1 hx
   by_cases hij:j=i
   ·subst hij;rw [List.getElem_set_self] at hje;rw [← hje];exact hu.at_
   ·have h1:(L.map (·.1))[j]'(by simpa using hj)=b:=by
     have:(L.set i (b,o'))[j]=L[j]'(by simpa using hj):=List.getElem_set_ne (fun e=>hij e.symm) _;rw [List.getElem_map,← this,hje,e]
    have h2:(L.map (·.1))[i]'(by simpa using hil)=b:=by rw [List.getElem_map,hib]
    have:=(List.getElem_inj h.nodup).1 (h1.trans h2.symm);exact absurd this hij
  ·rw [hu.block _ (h.lt (b:=x.1) (o:=x.2) hx') e];exact (h.own x hx').2
 ·exact ⟨(h.own (b,o) hm).1,hu.at_⟩
end V
open Go.ChangeShapes Go.WideShapes Go.RowKit V
namespace V
section
variable {H:Type} {enc:TypeId × Value→H} {P:Program} {w:World} {t:TypeId}
theorem Opn.sliceR {α:Type} [Inhabited α] {en:α→List Value} {R:α→Prop} {size e:Nat} {c:Value} (ht:P.underlying t=some (.slice e)) (hc:P.cellsOf e=size) (hs0:0<size)
  (hen:∀ x,(en x).length=size) (each:∀ cs,Opn enc P w e cs→∃ x,cs=en x∧R x) (h:Opn enc P w t [c]) :
  ∃ (A:oA) (cap:Nat) (l:List α),c=.slice A l.length cap∧l.length≤cap∧cap*P.bytesOf e≤140737488351232∧(∀ x∈l,R x)∧SlAt en size w A l:=by
 obtain ⟨n,d,ps,h,hw⟩:=h;have e2:reachBytes=140737488351232:=rfl
 rcases Deep.open_slice ht h with ⟨h1,_⟩|⟨a,len,cap,m,n,D,Pl,h1,_,hlc,hcm,hm,hd,hx⟩
 ·refine ⟨none,0,[],by simpa using h1,by simp,by simp,by simp,⟨fun h=>absurd rfl h⟩⟩
 ·simp only [if_true] at hm;simp only [Prod.mk.injEq] at hd;obtain ⟨rfl,_⟩:=hd;rw [DataW.weights,ht] at hw;simp only [List.length_map,List.length_range] at hw;have hcap:=hw _ mh;rw [show len+(m-len)=cap by omega] at hcap;obtain ⟨X,hX⟩:=Deep.choose_lt (n:=len) (p:=fun i (x:α)=>w.cells? 0 (a.add (i*P.cellsOf e)) (P.cellsOf e)=some (en x)∧R x) (fun i hi=>by
   obtain ⟨cs,h2,h3⟩:=hx i Oo;obtain ⟨x,rfl,hr⟩:=each cs ⟨n,D i,Pl i,h3,fun k hk=>hw k (zmc (List.mem_append_left _ (qfk hk _ (List.mem_map.2 ⟨i,List.mem_range.2 hi,rfl⟩))))⟩;exact ⟨x,h2,hr⟩)
  refine ⟨some a,cap,(List.range len).map X,by simpa using h1,by simp;omega,by omega,fun s hs=>?_,⟨fun hn=>?_⟩⟩
  ·obtain ⟨i,hi,rfl⟩:=List.mem_map.1 hs;exact (hX i (List.mem_range.1 hi)).2
  ·have hpos:0<len:=by
    rcases Nat.eq_zero_or_pos len with h0|h0
    ·exact absurd (by rw [h0];rfl) hn
    ·exact h0
   have hs:a=⟨a.block,a.off,none⟩:=by
    obtain ⟨_,_,h2⟩:=World.cells?_some (hX 0 hpos).1;have h3:=h2 0 Oo;rw [zge (by rw [hen];omega)] at h3;refine q0l (w:=w) (v:=(en (X 0))[0]'(by rw [hen];omega)) ?_
    simpa [Addr.add] using h3
   refine ⟨a.block,a.off,by rw [← hs],fun j s hj k v hv=>?_⟩;have hjl:j<len:=by
    have:=(List.getElem?_eq_some_iff.1 hj).1
    simpa using this
   rw [List.getElem?_map,List.getElem?_range hjl] at hj;simp only [Option.map_some,Option.some.injEq] at hj;subst hj;obtain ⟨_,_,h2⟩:=World.cells?_some (hX j hjl).1;have hk:k<size:=by rw [← hen (X j)];exact (List.getElem?_eq_some_iff.1 hv).1
   have h3:=h2 k Oo;rw [hv,hs,qad,qad,hc] at h3;exact h3
end
end V
def qhs (i n:Nat):LB→Nat × Nat × Nat
 | []=>(0,0,10)
 | c::l=>if (i=9∧1<c.toNat)∨(0<i∧c.toNat=0) then (0,0,11) else if c.toNat<128 then (n+c.toNat%128*2 ^ (7*i),i+1,0) else qhs (i+1) (n+c.toNat%128*2 ^ (7*i)) l
def numL (l:LB):Nat × Nat × Nat:=qhs 0 0 l
theorem qe8 {i n:Nat} {c:UInt8} {l:LB}:qhs i n (c::l)=if (i=9∧1<c.toNat)∨(0<i∧c.toNat=0) then (0,0,11) else if c.toNat<128 then (n+c.toNat%128*2 ^ (7*i),i+1,0) else qhs (i+1) (n+c.toNat%128*2 ^ (7*i)) l:=rfl
theorem ql3 {k:IntKind} {a b:Nat} (i:Nat) (ha:InR k ((a+b*2 ^ i:Nat):Int)) (hb:a<2 ^ i):qdd .or k (a:Int) ((b*2 ^ i:Nat):Int)=((a+b*2 ^ i:Nat):Int):=by
 have e:(a |||b*2 ^ i)=a+b*2 ^ i:=by
  rw [Nat.or_comm,Nat.mul_comm b,Nat.add_comm];exact (Nat.two_pow_add_eq_or_of_lt hb b).symm
 rw [qqe (InR.le ha Oo) (InR.le ha Oo) (by rw [e];exact ha),e]
theorem V.Wit.shlN {k:IntKind} {a:Nat} {b:Int} {K:Int→Prop} (n:Nat) (e:b=(n:Int)) (hn:n<k.bits) (h:InR k ((a*2 ^ n:Nat):Int)) (hk:K ((a*2 ^ n:Nat):Int)) :
  Wit (fun r=>0≤b∧b<k.bits∧k.wrap ((a:Int)*2 ^ b.toNat)=r) K:=by
 subst e;have e2:(a:Int)*2 ^ ((n:Int).toNat)=((a*2 ^ n:Nat):Int):=by
  rw [Int.toNat_natCast];push_cast;rfl
 refine ⟨_,⟨by omega,by omega,?_⟩,hk⟩;rw [e2];exact h.wrap
theorem pow7 (i:Nat) (hi:i≤8):2 ^ (7*i)≤72057594037927936:=by
 have:2 ^ (7*i)≤2 ^ 56:=Nat.pow_le_pow_right Od Oo
 simpa using this
theorem qk0 (i n c:Nat) (hi:i≤9) (hn:n<2 ^ (7*i)) (hc:c<256) (h9:i=9→c≤1):c%128*2 ^ (7*i)≤9223372036854775808∧n+c%128*2 ^ (7*i)<2 ^ 64∧(i<9→n+c%128*2 ^ (7*i)<2 ^ (7*(i+1))):=by
 by_cases e:i=9
 ·subst e;have h1:=h9 rfl;have h2:c%128=c:=Nat.mod_eq_of_lt Oo;rw [h2];have hp:2 ^ (7*9)=9223372036854775808:=by decide
  rw [hp] at hn ⊢;have:c*9223372036854775808≤1*9223372036854775808:=Nat.mul_le_mul_right _ h1;have e64:2 ^ 64=18446744073709551616:=by decide
  exact ⟨by omega,by rw [e64];omega,fun h=>by omega⟩
 ·have hp:2 ^ (7*(i+1))=128*2 ^ (7*i):=by rw [Nat.mul_add,Nat.pow_add];omega
  have hm:c%128*2 ^ (7*i)≤127*2 ^ (7*i):=Nat.mul_le_mul_right _ Oo;have h7:=pow7 i Oo;have e64:2 ^ 64=18446744073709551616:=by decide
  exact ⟨by omega,by rw [e64];omega,fun _=>by rw [hp];omega⟩
def numV (r:Nat × Nat × Nat):Value:=.tuple #[.int .u64 r.1,ii r.2.1,ii r.2.2]
theorem qls {n:Nat} (h:n<2 ^ 64):InR .u64 (n:Int):=by
 have e64:2 ^ 64=18446744073709551616:=by decide
 exact ⟨by omega,by omega⟩
theorem qyc (l:LB) (i:Nat) (h:i<l.length):l.drop i=l[i]::l.drop (i+1):=List.drop_eq_getElem_cons h
def curO (t:TypeId) (v:Value) (at_ e:Nat):Obj:=.cells #[v,ii at_,ii e] t
theorem q20 (b:Nat) (v:Value) (at_ e:Nat) (l:LB) (w:World) (hb:w.heap[b]?=some (curO 288 v at_ e)) (hv:BS w v l) (hat:at_≤l.length) (_hl:l.length≤140737488355328) :
  Gv Tryz.prog 271 [pp b] w fun r w'=>r=numV (numL (l.drop at_))∧Ext w w':=by
 obtain ⟨A,c,rfl,hc,hS⟩:=hv;refine ze Tryz.func271 Tryz.ntmps271 ?_;refine zy ?_;refine zv ?_;refine LoadV.own hb rfl (zu ?_);refine LoadV.own hb rfl (zu ?_);refine SliceV.bs hS rfl at_ l.length c rfl rfl rfl hat znr hc znr (fun h=>by cases h) ?_;intro A' hA';refine zu ?_;have hd0:(l.drop at_).take (l.length-at_)=l.drop at_:=List.take_of_length_le Js;rw [hd0] at hA';obtain ⟨m,hm⟩:∃ m,m=l.drop at_:=⟨_,rfl⟩
 have hml:m.length=l.length-at_:=by rw [hm];simp
 rw [← hm] at hA' ⊢;have hx:=(Ext.refl w).drew;have hA:=hA'.ext hx;refine qe (fun x:Nat × Nat=>[(16,.slice A' (l.length-at_) (c-at_)),(17,ii (l.length-at_:Nat)),(18,ii x.1),(5,.int .u64 x.2)]) (fun x w1=>x.1≤m.length∧x.1≤9∧x.2<2 ^ (7*x.1)∧numL m=qhs x.1 x.2 (m.drop x.1)∧Ext w.drew w1) (fun x=>m.length-x.1) (0,0)
  ⟨rfl,rfl,rfl,rfl,trivial⟩ ⟨by simp,by simp,by simp,by rw [List.drop_zero];rfl,xr⟩ ?_
 rintro ⟨i,n⟩ w1 ρ' ⟨h1,h9,hn,hd,he1⟩;dsimp only at h1 h9 hn hd ⊢;(conv=>whnf);refine zC (fun _=>zw ?_) (fun _=>zw ?_)
 ·have hi:i<m.length:=by omega
  rw [qyc m i hi,qe8] at hd;obtain ⟨c0,hc0⟩:∃ c0,c0=m[i]:=⟨_,rfl⟩
  have hlt:c0.toNat<256:=c0.toBitVec.isLt;rw [← hc0] at hd;refine ElemV.bs (hA.ext he1) hml i rfl Oo ?_;intro eb eo hcell;rw [← hc0] at hcell;(conv=>whnf);refine LoadV.of hcell (zw ?_)
  (repeat' (first|refine zp ?_|refine zC (fun _=>zw ?_) (fun _=>zw ?_)))
  all_goals first
   | exact ⟨by rw [hd,if_pos Oo];rfl,hx.trans he1⟩
   | skip
  all_goals
   rw [if_neg Oo] at hd;obtain ⟨g1,g2,g3⟩:=qk0 i n c0.toNat h9 hn hlt Oo;refine Wit.eq (qbc (k:=.u8) (m:=c0.toNat) 7 rfl ⟨by omega,by omega⟩ ⟨by omega,by omega⟩) (zu ?_);refine V.Wit.shlN (7*i) Oo (by show 7*i<64;omega) (qls (by show c0.toNat%2 ^ 7*2 ^ (7*i)<_;rw [show 2 ^ 7=128 from rfl];omega)) (zw ?_);refine Wit.eq (ql3 (7*i) (qls g2) hn) (zw ?_)
   (repeat' (first|refine zp ?_|refine zC (fun _=>zw ?_) (fun _=>zw ?_)))
   all_goals first
    | (rw [if_pos Oo] at hd;exact ⟨by rw [hd];rfl,hx.trans he1⟩)
    | (rw [if_neg Oo] at hd;exact ⟨(i+1,n+c0.toNat%128*2 ^ (7*i)),⟨rfl,rfl,rfl,rfl,trivial⟩,⟨by simp only;omega,by simp only;omega,g3 Oo,hd,he1⟩,by simp only;omega⟩)
 ·rw [List.drop_eq_nil_of_le Oo,qhs] at hd;exact ⟨by rw [hd];rfl,hx.trans he1⟩
theorem qh5:∀ (l:LB) (i n:Nat),i≤9→n<2 ^ (7*i)→(qhs i n l).1<2 ^ 64∧(qhs i n l).2.1≤i+l.length∧((qhs i n l).2.2=0∨(qhs i n l).2.2=10∨(qhs i n l).2.2=11)
 | [],i,n,_,_=>⟨show 0<2 ^ 64 by decide,by simp [qhs],.inr (.inl rfl)⟩
 | c::l,i,n,hi,hn=>by
  rw [qe8]
  by_cases h1:(i=9∧1<c.toNat)∨(0<i∧c.toNat=0)
  ·rw [if_pos h1];exact ⟨by decide,Nat.zero_le _,.inr (.inr rfl)⟩
  ·rw [if_neg h1];have hlt:c.toNat<256:=c.toBitVec.isLt;obtain ⟨g1,g2,g3⟩:=qk0 i n c.toNat hi hn hlt Oo
   by_cases h2:c.toNat<128
   ·rw [if_pos h2];exact ⟨g2,by simp only [List.length_cons];omega,.inl rfl⟩
   ·rw [if_neg h2];have:=qh5 l (i+1) _ Oo (g3 Oo);refine ⟨this.1,?_,this.2.2⟩;have:=this.2.1;simp only [List.length_cons];omega
theorem qa7 (l:LB):(numL l).1<2 ^ 64∧(numL l).2.1≤l.length∧((numL l).2.2=0∨(numL l).2.2=10∨(numL l).2.2=11):=by
 have:=qh5 l 0 0 Oo Od
 rwa [Nat.zero_add] at this
def varS (l:LB) (at_ e:Nat):Nat × Nat × Nat:=if e≠0 then (0,at_,e) else if (numL (l.drop at_)).2.2≠0 then (0,at_,(numL (l.drop at_)).2.2) else ((numL (l.drop at_)).1,at_+(numL (l.drop at_)).2.1,0)
theorem q3q (b:Nat) (v:Value) (at_ e:Nat) (l:LB) (w:World) (hb:w.heap[b]?=some (curO 288 v at_ e)) (hv:BS w v l) (hat:at_≤l.length) (hl:l.length≤140737488355328) :
  Gv Tryz.prog 212 [pp b,.int .u64 18446744073709551615] w fun r w'=>r=.int .u64 (varS l at_ e).1∧Upd w w' b (curO 288 v (varS l at_ e).2.1 (varS l at_ e).2.2):=by
 have hpk:=q20 b v at_ e l w hb hv hat hl;obtain ⟨g1,g2,g3⟩:=qa7 (l.drop at_);rw [zld] at g2;have e64:2 ^ 64=18446744073709551616:=by decide
 refine ze Tryz.func212 Tryz.ntmps212 ?_;refine LoadV.own hb rfl (zw ?_);refine zC (fun _=>zw ?_) (fun _=>zw ?_)
 ·have hS:varS l at_ e=(0,at_,e):=by rw [varS,if_pos Oo]
  rw [hS];exact ⟨rfl,Upd.refl hb⟩
 ·have he0:e=0:=by omega
  subst he0;refine zcv (hpk) ?_;rintro r w1 ⟨rfl,he⟩;have hb1:=he.get hb;have hS:varS l at_ 0=if (numL (l.drop at_)).2.2≠0 then (0,at_,(numL (l.drop at_)).2.2) else ((numL (l.drop at_)).1,at_+(numL (l.drop at_)).2.1,0):=by rw [varS,if_neg Oo]
  (conv=>whnf);refine zC (fun _=>zu ?_) (fun _=>zu ?_)
  ·refine LoadV.own hb1 rfl (zu ?_);refine StoreV.own hb1 (show 1<3 by decide) rfl ?_;intro w2 hw;have hu:=(Upd.of hb he).trans (Upd.set hb1 hw);rw [hS,if_neg Oo];(conv=>whnf);exact ⟨rfl,hu⟩
  ·refine StoreV.own hb1 (show 2<3 by decide) rfl ?_;intro w2 hw;have hu:=(Upd.of hb he).trans (Upd.set hb1 hw);rw [hS,if_pos Oo];(conv=>whnf);exact ⟨rfl,hu⟩
theorem qdo (b:Nat) (v:Value) (at_ e:Nat) (l:LB) (w:World) (hb:w.heap[b]?=some (curO 288 v at_ e)) (hv:BS w v l) (hat:at_≤l.length) (hl:l.length≤140737488355328) :
  Gv Tryz.prog 154 [pp b] w fun r w'=>r=.int .u64 (varS l at_ e).1∧Upd w w' b (curO 288 v (varS l at_ e).2.1 (varS l at_ e).2.2):=by
 refine ze Tryz.func154 Tryz.ntmps154 ?_;refine zcv (q3q b v at_ e l w hb hv hat hl) ?_;rintro r w1 ⟨rfl,hu⟩;(conv=>whnf);exact ⟨rfl,hu⟩
def leN:LB→Nat
 | []=>0
 | c::l=>c.toNat+256*leN l
theorem q5w (l m:LB):leN (l++m)=leN l+256 ^ l.length*leN m:=by
 induction l with
 | nil=>simp [leN]
 | cons c l ih=>
  rw [List.cons_append,leN,leN,ih,List.length_cons,Nat.pow_succ,Nat.mul_add,← Nat.mul_assoc,Nat.mul_comm 256 (256 ^ l.length)];omega
theorem qiz {n:Nat} (h:n<9223372036854775808):InR .i64 (n:Int):=⟨by omega,by omega⟩
theorem qbg (c:UInt8):c.toNat<256:=c.toBitVec.isLt
namespace V
theorem Mem.fresh {w0 w w':World} {L:List (Nat × Obj)} {b:Nat} {o:Obj} (h:Mem w0 w L) (he:Ext w w') (hb:w.heap.size≤b) (ho:w'.heap[b]?=some o):Mem w0 w' ((b,o)::L):=by
 have h':=h.call he;refine ⟨h'.ext,fun x hx=>?_,?_⟩
 ·rcases List.mem_cons.1 hx with rfl|hx
  ·exact ⟨Nat.le_trans h.ext.size hb,ho⟩
  ·exact h'.own x hx
 ·simp only [List.map_cons,List.nodup_cons];refine ⟨fun hm=>?_,h.nodup⟩;obtain ⟨x,hx,e⟩:=List.mem_map.1 hm;have:=h.lt (b:=x.1) (o:=x.2) hx;omega
theorem Fall.max2 {P:Program} {ρ:Nat→Value} {o:Oper} {c:Call} {k:IntKind} {x y:Int} {w:World} {K:Value→World→Prop} (ho:o.op=.call c) (hc:c.callee=.builtin .max) (ha0:evs ρ c.args.toList=[.int k x,.int k y])
  (h:∀ m,m=max x y→K (.int k m) w):Fall P (execOp (ev ρ) o) w K:=by
 have e:execOp (ev ρ) o=(do pure (.value (← Builtin.max_ c.argTypes o.type (c.args.map (ev ρ))))):=by
  simp only [execOp,ho,resolve,hc];rfl
 have ha:c.args.map (ev ρ)=#[.int k x,.int k y]:=by
  rw [qc0] at ha0;rw [← Array.toList_inj];simpa using ha0
 refine ⟨.inl ⟨_,w,?_,h _ rfl⟩⟩;rw [e,ha];simp only [Sem.run_bind,run_max_int2,Result.andThen_ok,Sem.run_pure]
 congr 3
 rw [Int.max_def]
 split<;>(try split)<;>omega
theorem Fall.min2 {P:Program} {ρ:Nat→Value} {o:Oper} {c:Call} {k:IntKind} {x y:Int} {w:World} {K:Value→World→Prop} (ho:o.op=.call c) (hc:c.callee=.builtin .min) (ha0:evs ρ c.args.toList=[.int k x,.int k y])
  (h:∀ m,m=min x y→K (.int k m) w):Fall P (execOp (ev ρ) o) w K:=by
 have e:execOp (ev ρ) o=(do pure (.value (← Builtin.min_ c.argTypes o.type (c.args.map (ev ρ))))):=by
  simp only [execOp,ho,resolve,hc];rfl
 have ha:c.args.map (ev ρ)=#[.int k x,.int k y]:=by
  rw [qc0] at ha0;rw [← Array.toList_inj];simpa using ha0
 refine ⟨.inl ⟨_,w,?_,h _ rfl⟩⟩;rw [e,ha];simp only [Sem.run_bind,run_min_int2,Result.andThen_ok,Sem.run_pure]
 congr 3
 rw [Int.min_def]
 split<;>(try split)<;>omega
end V
theorem qnb (v:Value) (l:LB) (w:World) (hv:BS w v l) :
  Gv Tryz.prog 132 [v] w fun r w'=>∃ b,r=pp b∧w.heap.size≤b∧w'.heap[b]?=some (curO 288 v 0 0)∧Ext w w':=by
 obtain ⟨A,c,rfl,hc,hS⟩:=hv;refine ze Tryz.func132 Tryz.ntmps132 ?_;refine ⟨fun b w' hb hw=>?_⟩;subst hb hw;(conv=>whnf);exact ⟨w.heap.size,rfl,Nat.le_refl _,heap_alloc_new w _,(Ext.refl w).alloc _⟩
theorem qkr (b:Nat) (v:Value) (a e:Nat) (w:World) (hb:w.heap[b]?=some (curO 288 v a e)):Gv Tryz.prog 137 [pp b] w fun r w'=>r=ii a∧w'=w:=by
 refine ze Tryz.func137 Tryz.ntmps137 ?_;refine LoadV.own hb rfl (zw ?_);exact ⟨rfl,rfl⟩
theorem qcg (b:Nat) (v:Value) (a e:Nat) (w:World) (hb:w.heap[b]?=some (curO 288 v a e)):Gv Tryz.prog 155 [pp b] w fun r w'=>r=ii e∧w'=w:=by
 refine ze Tryz.func155 Tryz.ntmps155 ?_;refine LoadV.own hb rfl (zw ?_);exact ⟨rfl,rfl⟩
theorem qth (b:Nat) (v:Value) (a e:Nat) (l:LB) (w:World) (hb:w.heap[b]?=some (curO 288 v a e)) (hv:BS w v l) (ha:a≤l.length) (hl:l.length≤140737488355328) :
  Gv Tryz.prog 255 [pp b] w fun r w'=>r=ii (l.length-a:Nat)∧Ext w w':=by
 obtain ⟨A,c,rfl,hc,hS⟩:=hv;refine ze Tryz.func255 Tryz.ntmps255 ?_;refine zy ?_;refine zv ?_;refine LoadV.own hb rfl (zu ?_);refine LoadV.own hb rfl (zu ?_);exact ⟨congrArg (Value.int .i64) Oo,(Ext.refl w).drew⟩
theorem qvq (w:World):Gv Tryz.prog 110 [ii 4] w fun r w'=>r=ii 4∧w'=w:=by
 refine ze Tryz.func110 Tryz.ntmps110 ?_;refine V.Fall.max2 rfl rfl rfl fun m hm=>?_;obtain rfl:m=4:=by omega
 (conv=>whnf);refine V.Fall.min2 rfl rfl rfl fun m hm=>?_;obtain rfl:m=4:=by omega
 (conv=>whnf);exact ⟨rfl,rfl⟩
def qck (a b:TM):Bool:=decide (a.kind=b.kind)&&(seq a.text b.text&&(seq a.type b.type&&seq a.lang b.lang))
theorem qb0 {a b:TM}:qck a b=true↔a=b:=by
 obtain ⟨a0,a1,a2,a3⟩:=a;obtain ⟨b0,b1,b2,b3⟩:=b;simp [qck,qao]
theorem qvf:Tryz.prog.underlying 24=some (.struct (Tryz.prog.fieldsOf 24)):=by kernel_rfl
theorem q0p:Tryz.prog.stoodInHeld 24=false:=by kernel_rfl
theorem qyg:Tryz.prog.eqGuardType Tryz.prog.depth 24=false:=by kernel_rfl
theorem qij (d:Nat) (a b:TM) (w:World):(Op.equalIn (d+2) 24 (qbq a) (qbq b)).run Tryz.prog w=.ok (qck a b) w:=by
 have u3:=Tryz.underlying3;have a3:=Tryz.isAgg3;have z3:=Tryz.sizeOf3;have u9:=Tryz.underlying9;have a9:=Tryz.isAgg9;have z9:=Tryz.sizeOf9;simp only [qbq];rw [run_equalIn_agg w (d+1) _ _ _ qvf q0p];simp only [Program.fieldsOf,Tryz.underlying24]
 go_simp
 have e:∀ x y:ByteArray,(x.toList=y.toList)=(seq x y=true):=fun x y=>by rw [← qn0,beq_iff_eq]
 simp only [e]
 by_cases h1:a.kind=b.kind<;>cases h2:seq a.text b.text<;>cases h3:seq a.type b.type<;>cases h4:seq a.lang b.lang<;>simp [qck,h1,h2,h3,h4]
namespace V
theorem RunV.eqTerm {op:BinOp} {xo yo:Operand} {a b:TM} {w:World} {K:Value→World→Prop} (ho:op=.eql∨op=.neq) (h:K (.bool (bif eqOp op then qck a b else !qck a b)) w) :
  RunV Tryz.prog (do eqGuard op 24 xo yo (qbq a) (qbq b);binOp op 24 (qbq a) (qbq b)) w K:=by
 refine ⟨_,w,?_,h⟩;rw [Sem.run_bind,qbq,qbq,run_eqGuard_agg w op _ xo yo _ _ qyg,Result.andThen_ok];have e:=qij 9998 a b w;simp only [qbq] at e
 rcases ho with rfl|rfl
 ·rw [run_eql_struct,e];rfl
 ·rw [run_neq_struct,e];rfl
end V
def qsd (t:TM):Bool:=decide (t.kind=0)&&(seq t.text ⟨#[]⟩&&(seq t.type ⟨#[]⟩&&seq t.lang ⟨#[]⟩))
def canB (k:Nat) (t:TM):Bool:=
 if k=0 then decide (t.kind=1)||decide (t.kind=2) else if k=1 then decide (t.kind=1) else if k=2 then decide (1≤t.kind)&&decide (t.kind≤3) else qsd t||decide (t.kind=1)||decide (t.kind=2)
def qc2:List Nat→Nat
 | []=>0
 | e::l=>if e≠0 then e else qc2 l
theorem qdv {l:List Nat} (h:∀ j (hj:j<l.length),l[j]=0):qc2 l=0:=by
 induction l with
 | nil=>rfl
 | cons x l ih=>
  have h0:=h 0 Js;simp only [List.getElem_cons_zero] at h0;rw [qc2,if_neg Oo];exact ih fun j hj=>by have:=h (j+1) Ys;rwa [List.getElem_cons_succ] at this
theorem qjb {l:List Nat} {k:Nat} (hk:k<l.length) (h:∀ j (hj:j<l.length),j<k→l[j]=0) (hne:l[k]≠0):qc2 l=l[k]:=by
 induction l generalizing k with
 | nil=>simp at hk
 | cons x l ih=>
  cases k with
  | zero=>simp only [List.getElem_cons_zero] at hne ⊢;rw [qc2,if_pos hne]
  | succ k=>
   have h0:=h 0 Js Oo;simp only [List.getElem_cons_zero] at h0;rw [qc2,if_neg Oo];simp only [List.getElem_cons_succ] at hne ⊢;exact ih (by simpa using hk) (fun j hj hjk=>by have:=h (j+1) Ys Oo;rwa [List.getElem_cons_succ] at this) hne
theorem CellsAt.mem {w0 w:World} {L:List (Nat × Obj)} {b:Nat} {cs:Array Value} {t:TypeId} {fr:Nat × Nat} (h:Mem w0 w L) (hi:(b,Obj.cells cs t fr)∈L):CellsAt w b 0 cs.toList:=fun k v hv=>by
 rw [qa (h.get hi),Nat.zero_add]
 simpa using hv
namespace V
theorem StoreA.rwAll {P:Program} {w0 w:World} {v:Value} {e:TypeId} {size n:Nat} {xs:List Value} {L:List (Nat × Obj)} {b:Nat} {cur:Array Value} {t:TypeId} {vs:List Value} {K:World→Prop} (h:Rw w0 w v e size n xs ((b,.cells cur t)::L))
  (hl:cur.size=vs.length) (h1:∀ v∈vs,v.oneCell'=true) (hk:∀ w',Rw w0 w' v e size n xs ((b,.cells vs.toArray t)::L)→K w'):StoreA P w b 0 vs K:=by
 have hg:=h.mem.get mh;have hb:v.ownBlock≠some b:=h.apart _ mh;have hr:=run_storeCells_at P b 0 t vs 0 cur w hg Ys h1;have ec:(cur.toList.take (0+0)++vs++cur.toList.drop (0+0+vs.length)).toArray=vs.toArray:=by
  rw [List.take_zero,List.nil_append,List.drop_eq_nil_of_le Ys,List.append_nil]
 rw [ec] at hr;refine ⟨_,hr,hk _ ⟨?_,?_,fun y hy=>?_⟩⟩
 ·have:=h.mem.set (i:=0) (b:=b) (o:=.cells cur t) (o':=.cells vs.toArray t) rfl (w':=w.setRow b vs.toArray) ?_ (qcq hg) (fun c hc=>qu hc)
  ·exact this
  ·exact Below.trans h.mem.ext ⟨rfl,rfl,rfl,by simp [World.setRow],fun k hk=>qu (by have:=(h.mem.own _ mh).1;simp only at this;omega)⟩
 ·refine h.own.kept (row:=some b) ⟨rfl,rfl,rfl,by simp [World.setRow],fun k _ hk=>qu (fun e=>hk (by simp [e]))⟩ (Or.inr hb)
 ·rcases List.mem_cons.1 hy with rfl|hy
  ·exact hb
  ·exact h.apart y (zmc hy)
end V
theorem qwi (k:Nat) (t:TM) (w:World):Gv Tryz.prog 65 [ii k,qbq t] w fun v w'=>v=.bool (canB k t)∧Ext w w':=by
 refine ze Tryz.func65 Tryz.ntmps65 ?_;refine znm (Mem.nil w) fun b w1 hm=>zw ?_
 (repeat' (first|refine zp ?_|refine zC (fun _=>zw ?_) (fun _=>zw ?_)|refine LoadV.mem (i:=0) Oa rfl rfl (zw ?_)))
 ·exact ⟨congrArg Value.bool (by rw [canB,if_pos Oo];simp [*]),hm.ext⟩
 ·exact ⟨congrArg Value.bool (by rw [canB,if_pos Oo];simp [*]),hm.ext⟩
 ·exact ⟨congrArg Value.bool (by rw [canB,if_neg Oo,if_pos Oo]),hm.ext⟩
 ·exact ⟨congrArg Value.bool (by rw [canB,if_neg Oo,if_neg Oo,if_pos Oo,Bool.eq_iff_iff];simp;omega),hm.ext⟩
 ·exact ⟨congrArg Value.bool (by rw [canB,if_neg Oo,if_neg Oo,if_pos Oo,Bool.eq_iff_iff];simp;omega),hm.ext⟩
 ·exact ⟨congrArg Value.bool (by rw [canB,if_neg Oo,if_neg Oo,if_pos Oo,Bool.eq_iff_iff];simp;omega),hm.ext⟩
 ·exact ⟨congrArg Value.bool (by rw [canB,if_neg Oo,if_neg Oo,if_neg Oo];simp [*]),hm.ext⟩
 ·exact ⟨congrArg Value.bool (by rw [canB,if_neg Oo,if_neg Oo,if_neg Oo];simp [*]),hm.ext⟩
 ·refine zl hm 0 ?_;refine zv ?_;refine RunV.eqTerm (a:=t) (b:=⟨0,⟨#[]⟩,⟨#[]⟩,⟨#[]⟩⟩) (.inl rfl) ?_;have hc:canB k t=(qsd t||decide (t.kind=1)||decide (t.kind=2)):=by rw [canB,if_neg Oo,if_neg Oo,if_neg Oo]
  have hz:qck t ⟨0,⟨#[]⟩,⟨#[]⟩,⟨#[]⟩⟩=qsd t:=rfl;rw [hz];refine zu ?_;exact ⟨congrArg Value.bool (by rw [hc];simp [*,eqOp]),hm.ext⟩
structure Q4 where
 s:TM
 p:TM
 o:TM
 g:TM
def Q4.at (q:Q4):Nat→TM
 | 0=>q.s
 | 1=>q.p
 | 2=>q.o
 | _=>q.g
def q7 (q:Q4):List Value:=encT q.s++(encT q.p++(encT q.o++encT q.g))
def qef (q:Q4):Value:=.agg #[ii q.s.kind,.string q.s.text,.string q.s.type,.string q.s.lang,ii q.p.kind,.string q.p.text,.string q.p.type,.string q.p.lang,
 ii q.o.kind,.string q.o.text,.string q.o.type,.string q.o.lang,ii q.g.kind,.string q.g.text,.string q.g.type,.string q.g.lang]
noncomputable def qE (k:Nat) (t:TM):Nat:=if canB k t=false then 70 else if k=3∧t.kind=0 then 0 else qas t
noncomputable def qa9 (q:Q4):Nat:=qc2 ((List.range 4).map fun k=>qE k (q.at k))
theorem qi {q:Q4} {w:World} {b off:Nat} (h:CellsAt w b off (q7 q)) (k:Nat) (hk:k<4):CellsAt w b (off+k*4) (encT (q.at k)):=by
 intro j v hv;have hj:j<4:=(List.getElem?_eq_some_iff.1 hv).1;have:=h (k*4+j) v (by
  obtain rfl|rfl|rfl|rfl:k=0∨k=1∨k=2∨k=3:=by omega
  all_goals
   obtain rfl|rfl|rfl|rfl:j=0∨j=1∨j=2∨j=3:=by omega
   all_goals exact hv)
 rwa [← Nat.add_assoc] at this
theorem qq (t:TM):∀ v∈encT t,v.oneCell'=true:=by
 intro v hv;simp only [encT,List.mem_cons,List.not_mem_nil,or_false] at hv
 rcases hv with rfl|rfl|rfl|rfl<;>rfl
def qci (q:Q4):Prop:=∀ k,TermOk (q.at k)
theorem qo8 (q:Q4) (k:Nat) (hk:k<4):((qef q).cells.toList.drop (k*4)).take 4=encT (q.at k):=by
 obtain rfl|rfl|rfl|rfl:k=0∨k=1∨k=2∨k=3:=by omega
 all_goals rfl
theorem qf4 (q:Q4) (hq:qci q) (w:World) (hM:MaxLenAt w) (hT:CellsAt w 6 0 qbt):Gv Tryz.prog 42 [qef q] w fun v w'=>v=ii (qa9 q)∧Ext w w':=by
 refine ze Tryz.func42 Tryz.ntmps42 ?_;refine znm (Mem.nil w) ?_;intro b w1 hm;have hc:CellsAt w1 b 0 (q7 q):=CellsAt.mem hm mh;(conv=>whnf);refine LoadA.cells (qi hc 0 Oo) rfl (zw ?_);refine LoadA.cells (qi hc 1 Oo) rfl (zw ?_);refine LoadA.cells (qi hc 2 Oo) rfl (zw ?_);refine LoadA.cells (qi hc 3 Oo) rfl (zw ?_);have hlen:((List.range 4).map fun k=>qE k (q.at k)).length=4:=by simp
 have hget:∀ j (hj:j<((List.range 4).map fun k=>qE k (q.at k)).length),((List.range 4).map fun k=>qE k (q.at k))[j]=qE j (q.at j):=fun j hj=>by simp
 refine qe (fun k:Nat=>[(1,pp b),(2,ii 0),(14,qef q),(15,ii k)])
  (fun k w'=>k≤4∧(∀ j,j<k→qE j (q.at j)=0)∧Mem w w' [(b,.cells (q7 q).toArray 26)]) (fun k=>4-k) 0 ⟨rfl,rfl,rfl,rfl,trivial⟩ ⟨by omega,fun j h0=>by omega,hm⟩ ?_
 rintro k w2 ρ' ⟨k1,k2,hm2⟩;(conv=>whnf);refine zC (fun _=>zu ?_) (fun _=>zu ?_)
 ·have hk:k<4:=by omega
  have hbad:∀ e,qE k (q.at k)=e→e≠0→qa9 q=e:=fun e he hne=>by
   rw [qa9,qjb (k:=k) (by rw [hlen];exact hk) (fun j hj hjk=>by rw [hget];exact k2 j hjk) (by rw [hget,he];exact hne),hget,he]
  have hgood:qE k (q.at k)=0→∀ j,j<k+1→qE j (q.at j)=0:=fun he j hj=>by
   by_cases e:j=k
   ·subst e;exact he
   ·exact k2 j Oo
  refine Wit.eq (y:=encT (q.at k)) (qo8 q k hk) (zw ?_);refine znm hm2 fun r w3 hm3=>zw ?_;refine StoreA.all (vs:=encT (q.at k)) hm3 (i:=0) rfl rfl (qq _) ?_;intro w4 hm4;have hm4:Mem w w4 [(r,.cells (encT (q.at k)).toArray 24),_]:=hm4;(conv=>whnf);refine zl hm4 0 ?_;refine zcv (qwi k (q.at k) w4) ?_;rintro v w5 ⟨rfl,he5⟩;have hm5:=hm4.call he5;cases hcan:canB k (q.at k)
  ·refine zu ?_;exact ⟨by rw [hbad 70 (by rw [qE,if_pos hcan]) Od];rfl,hm5.ext⟩
  ·(conv=>whnf)
   (repeat' (first|refine zp ?_|refine zC (fun _=>zw ?_) (fun _=>zw ?_)|refine LoadV.mem (i:=0) Oa rfl rfl (zw ?_)))
   ·refine ⟨?_,hm5.ext⟩;have e0:qE k (q.at k)=0:=by rw [qE,if_neg (by rw [hcan];simp),if_pos ⟨by omega,by omega⟩]
    have h4:=hgood e0;rw [qa9,qdv fun j hj=>by rw [hget];exact h4 j (by rw [hlen] at hj;omega)];rfl
   all_goals
    have hE:qE k (q.at k)=qas (q.at k):=by rw [qE,if_neg (by rw [hcan];simp),if_neg Oo]
    refine zl hm5 0 ?_;refine zcv (qgt (q.at k) (hq k) w5 (hM.ext hm5.ext) (hT.ext hm5.ext)) ?_;rintro v w6 ⟨rfl,he6⟩;rw [← hE];conv=>whnf
    (repeat' (first|refine zp ?_|refine zC (fun _=>zw ?_) (fun _=>zw ?_)))
    ·exact ⟨by rw [hbad _ rfl Oo],hm5.ext.trans he6⟩
    ·exact ⟨k+1,⟨rfl,rfl,rfl,rfl,trivial⟩,⟨by omega,hgood Oo,(hm5.call he6).sub (List.sublist_cons_self ..)⟩,by omega⟩
 ·refine ⟨?_,hm2.ext⟩;rw [qa9,qdv fun j hj=>by rw [hget];exact k2 j (by rw [hlen] at hj;omega)];rfl
structure ErrAt (w:World) (v:Value) (place code:Nat):Prop where
 h:∃ b,v=.iface 255 (pp b)∧CellsAt w b 0 [ii place,.iface 61 (ii code)]
theorem ErrAt.ext {w w':World} {v:Value} {p c:Nat} (h:ErrAt w v p c) (he:Ext w w'):ErrAt w' v p c:=by
 obtain ⟨b,h1,h2⟩:=h;exact ⟨b,h1,h2.ext he⟩
def poly:BitVec 32:=0xedb88320#32
def nibs:List Nat:=[0x00000000,0x1db71064,0x3b6e20c8,0x26d930ac,0x76dc4190,0x6b6b51f4,0x4db26158,0x5005713c,0xedb88320,0xf00f9344,0xd6d6a3e8,0xcb61b38c,0x9b64c2b0,0x86d3d2d4,0xa00ae278,0xbdbdf21c]
def nib (i:Nat):BitVec 32:=BitVec.ofNat 32 (nibs.getD i 0)
def ql5 (r:BitVec 32) (d:Bool):BitVec 32:=(r >>> 1) ^^^ (if (r.getLsbD 0 ^^ d)=true then poly else 0#32)
def qdb (r:BitVec 32):BitVec 32:=ql5 r false
def half (r:BitVec 32):BitVec 32:=nib (r.toNat%16) ^^^ (r >>> 4)
theorem xlc (a b c:BitVec 32):a ^^^ (b ^^^ c)=b ^^^ (a ^^^ c):=by rw [← BitVec.xor_assoc,BitVec.xor_comm a b,BitVec.xor_assoc]
theorem xss (a b:BitVec 32):a ^^^ (a ^^^ b)=b:=by rw [← BitVec.xor_assoc,BitVec.xor_self,BitVec.zero_xor]
theorem qgg (a b:BitVec 32):qdb (a ^^^ b)=qdb a ^^^ qdb b:=by
 unfold qdb ql5;rw [BitVec.ushiftRight_xor_distrib,BitVec.getLsbD_xor];cases a.getLsbD 0<;>cases b.getLsbD 0<;>simp [BitVec.xor_assoc,BitVec.xor_comm,xlc,xss]
theorem qu7 (r d:BitVec 32):qdb (r ^^^ d)=ql5 r (d.getLsbD 0) ^^^ (d >>> 1):=by
 unfold qdb ql5;rw [BitVec.ushiftRight_xor_distrib,BitVec.getLsbD_xor,Bool.xor_false,BitVec.xor_assoc,BitVec.xor_assoc,BitVec.xor_comm (d >>> 1)]
theorem qe7 {h:BitVec 32} (h0:h.getLsbD 0=false):qdb h=h >>> 1:=by
 unfold qdb ql5;rw [h0];simp
theorem qqx (h:BitVec 32) (h0:h.getLsbD 0=false) (h1:h.getLsbD 1=false) (h2:h.getLsbD 2=false) (h3:h.getLsbD 3=false):qdb (qdb (qdb (qdb h)))=h >>> 4:=by
 rw [qe7 h0,qe7 (h:=h >>> 1) (by simpa using h1),qe7 (h:=h >>> 1 >>> 1) (by simpa using h2),qe7 (h:=h >>> 1 >>> 1 >>> 1) (by simpa using h3)];rw [← BitVec.shiftRight_add,← BitVec.shiftRight_add,← BitVec.shiftRight_add]
theorem qvn:∀ i,i<16→qdb (qdb (qdb (qdb (BitVec.ofNat 32 i))))=nib i:=by decide
theorem q4a (r:BitVec 32):qdb (qdb (qdb (qdb r)))=half r:=by
 have hlow:r &&&15#32=BitVec.ofNat 32 (r.toNat%16):=by
  apply BitVec.eq_of_toNat_eq;rw [BitVec.toNat_and,BitVec.toNat_ofNat];have:r.toNat &&&15=r.toNat%2 ^ 4:=Nat.and_two_pow_sub_one_eq_mod r.toNat 4;show r.toNat &&&15=_;rw [this];have:=r.isLt;exact (Nat.mod_eq_of_lt Oo).symm
 have hsplit:r=(r &&&15#32) ^^^ (r &&&0xfffffff0#32):=by
  ext i hi
  simp only [BitVec.getElem_xor,BitVec.getElem_and];have:((15#32)[i] ^^ (0xfffffff0#32)[i])=true:=by
   have:∀ i (hi:i<32),((15#32)[i] ^^ (0xfffffff0#32)[i])=true:=by decide
   exact this i hi
  cases r[i]<;>simp_all
 have hh:(r &&&0xfffffff0#32) >>> 4=r >>> 4:=by
  ext i hi
  simp only [BitVec.getElem_ushiftRight,BitVec.getLsbD_and]
  by_cases h:4+i<32
  ·have:∀ j,j<28→(0xfffffff0#32).getLsbD (4+j)=true:=by decide
   rw [this i Oo,Bool.and_true]
  ·rw [BitVec.getLsbD_of_ge _ _ Oo];simp
 have hz:∀ j,j<4→(r &&&0xfffffff0#32).getLsbD j=false:=fun j hj=>by
  rw [BitVec.getLsbD_and];have:∀ j,j<4→(0xfffffff0#32).getLsbD j=false:=by decide
  rw [this j hj,Bool.and_false]
 conv=>lhs;rw [hsplit]
 rw [qgg,qgg,qgg,qgg,qqx _ (hz 0 Od) (hz 1 Od) (hz 2 Od) (hz 3 Od),hh,hlow,qvn _ (Nat.mod_lt _ Od)];rfl
def qv4 (r:BitVec 32) (b:UInt8):Nat→BitVec 32
 | 0=>r
 | k+1=>ql5 (qv4 r b k) (b.toNat.testBit k)
def thr (r:BitVec 32) (b:UInt8):BitVec 32:=half (half (r ^^^ BitVec.ofNat 32 b.toNat))
theorem q6j (r:BitVec 32) (b:UInt8) (k:Nat):(Nat.repeat qdb k (r ^^^ BitVec.ofNat 32 b.toNat))=qv4 r b k ^^^ (BitVec.ofNat 32 b.toNat >>> k):=by
 induction k with
 | zero=>simp [Nat.repeat,qv4]
 | succ k ih=>
  rw [Nat.repeat,ih,qu7,qv4]
  congr 1
  ·congr 1
   rw [BitVec.getLsbD_ushiftRight,BitVec.getLsbD_ofNat,Nat.add_zero]
   by_cases h:k<32
   ·simp [h]
   ·have hb:b.toNat<256:=b.toBitVec.isLt;have:=Nat.testBit_lt_two_pow (Nat.lt_of_lt_of_le hb (Nat.le_trans (by decide:(256:Nat)≤2 ^ 32) (Nat.pow_le_pow_right Od (by omega:32≤k))));simp [h,this]
theorem qz5 (r:BitVec 32) (b:UInt8):qv4 r b 8=thr r b:=by
 have h:=q6j r b 8;have hz:BitVec.ofNat 32 b.toNat >>> 8=0#32:=by
  apply BitVec.eq_of_toNat_eq;have hb:b.toNat<256:=b.toBitVec.isLt;rw [BitVec.toNat_ushiftRight,BitVec.toNat_ofNat,Nat.shiftRight_eq_div_pow,Nat.mod_eq_of_lt Oo];show b.toNat/256=0;omega
 rw [hz,BitVec.xor_zero] at h;rw [← h,thr,← q4a,← q4a];rfl
def updL (r:BitVec 32) (l:LB):BitVec 32:=l.foldl thr r
def crcL (l:LB):BitVec 32 := ~~~ (updL (~~~ 0#32) l)
theorem qp4 (r:BitVec 32) (l:LB) (i:Nat) (h:i<l.length):updL r (l.take (i+1))=thr (updL r (l.take i)) l[i]:=by
 unfold updL;rw [List.take_succ_eq_append_getElem h,List.foldl_append];rfl
def qo1:List Value:=nibs.map fun n:Nat=>Value.int .u32 (n:Int)
theorem bx (x y:BitVec 32):qdd .xor .u32 (x.toNat:Int) (y.toNat:Int)=((x ^^^ y).toNat:Int):=by
 have h1:BitVec.ofInt 32 (x.toNat:Int)=x:=by apply BitVec.eq_of_toNat_eq;rw [BitVec.toNat_ofInt];have:=x.isLt;omega
 have h2:BitVec.ofInt 32 (y.toNat:Int)=y:=by apply BitVec.eq_of_toNat_eq;rw [BitVec.toNat_ofInt];have:=y.isLt;omega
 show IntKind.u32.wrap ((BitVec.ofInt 32 (x.toNat:Int) ^^^ BitVec.ofInt 32 (y.toNat:Int)).toNat:Int)=_;rw [h1,h2];have:=(x ^^^ y).isLt;exact InR.wrap (k:=.u32) ⟨by omega,by omega⟩
theorem bnot (x:BitVec 32):qdd .xor .u32 (if IntKind.u32.signed then -1 else IntKind.u32.max) (x.toNat:Int)=((~~~x).toNat:Int):=by
 have h:(if IntKind.u32.signed then -1 else IntKind.u32.max)=((BitVec.allOnes 32).toNat:Int):=by decide
 rw [h,bx,BitVec.allOnes_xor]
theorem q59 (b:UInt8):(BitVec.ofNat 32 b.toNat).toNat=b.toNat:=by
 have:=qbg b;rw [BitVec.toNat_ofNat,Nat.mod_eq_of_lt Oo]
theorem q56 (i:Nat) (hi:i<16):(nib i).toNat=nibs.getD i 0:=by
 have:∀ i,i<16→(nib i).toNat=nibs.getD i 0:=by decide
 exact this i hi
theorem qtc (x:BitVec 32):qdd .xor .u32 ((nibs.getD (x.toNat%16) 0:Nat):Int) ((x.toNat/16:Nat):Int)=((half x).toNat:Int):=by
 have h2:(x >>> 4).toNat=x.toNat/16:=by rw [BitVec.toNat_ushiftRight,Nat.shiftRight_eq_div_pow]
 rw [← q56 _ (Nat.mod_lt _ Od),← h2,bx];rfl
theorem qtp {w:World} (hT:CellsAt w 1 0 qo1) (i:Nat) (hi:i<16):w.cell? ⟨1,0+i*1,none⟩=some (.int .u32 ((nibs.getD i 0:Nat):Int)):=by
 have h:i<nibs.length:=hi;have:=hT i (.int .u32 ((nibs.getD i 0:Nat):Int)) (by rw [qo1,List.getElem?_map,zge h,List.getD_eq_getElem?_getD,zge h];rfl)
 rwa [Nat.mul_one]
theorem quk (x:BitVec 32):x.toNat<4294967296:=x.isLt
theorem qrt (r:BitVec 32) (b:UInt8) (w:World) (hT:CellsAt w 1 0 qo1) :
  Gv Tryz.prog 177 [.int .u32 r.toNat,.int .u8 b.toNat] w fun v w'=>v=.int .u32 (thr r b).toNat∧w'=w:=by
 have hb:=qbg b;obtain ⟨x,hx⟩:∃ x,x=r ^^^ BitVec.ofNat 32 b.toNat:=⟨_,rfl⟩
 have h0:=quk x;have h1:=quk (half x);have ht:thr r b=half (half x):=by rw [hx];rfl
 rw [ht];refine ze Tryz.func177 Tryz.ntmps177 ?_;refine zv ?_;refine Wit.eq (y:=(x.toNat:Int)) (by rw [hx,← bx,q59]) (zw ?_);refine Wit.eq (qbc (k:=.u32) (m:=x.toNat) 4 rfl ⟨by omega,by omega⟩ ⟨by omega,by omega⟩) (zw ?_);refine IdxV.nat (Nat.mod_lt _ Od) (zw ?_);refine LoadV.of (qtp hT _ (Nat.mod_lt _ Od)) (zw ?_);refine Wit.shr (m:=16) (r:=((x.toNat/16:Nat):Int)) ⟨by decide,by decide⟩ Od Oo (zw ?_);refine Wit.eq (qtc x) (zw ?_);refine Wit.eq (qbc (k:=.u32) (m:=(half x).toNat) 4 rfl ⟨by omega,by omega⟩ ⟨by omega,by omega⟩) (zw ?_);refine IdxV.nat (Nat.mod_lt _ Od) (zw ?_);refine LoadV.of (qtp hT _ (Nat.mod_lt _ Od)) (zw ?_);refine Wit.shr (m:=16) (r:=(((half x).toNat/16:Nat):Int)) ⟨by decide,by decide⟩ Od Oo (zw ?_);refine Wit.eq (qtc (half x)) (zw ?_);exact ⟨rfl,rfl⟩
theorem qwn (l:LB) (A:oA) (n c:Nat) (w:World) (hS:SlAt encB 1 w A l) (hn:l.length=n) (hl:l.length≤140737488355328) (hT:CellsAt w 1 0 qo1) :
  Gv Tryz.prog 113 [.int .u32 0,.slice A n c] w fun v w'=>v=.int .u32 (crcL l).toNat∧w'=w:=by
 subst hn;refine ze Tryz.func113 Tryz.ntmps113 ?_;refine Wit.eq (bnot 0#32) (zw ?_);refine qe (fun i:Nat=>[(10,.slice A l.length c),(11,ii l.length),(12,ii i),(5,.int .u32 (updL (~~~ 0#32) (l.take i)).toNat)]) (fun i w1=>i≤l.length∧w1=w) (fun i=>l.length-i) 0 ⟨rfl,rfl,rfl,rfl,trivial⟩ ⟨by omega,rfl⟩ ?_;rintro i w1 ρ' ⟨h1,rfl⟩;(conv=>whnf);refine zC (fun _=>zw ?_) (fun _=>zw ?_)
 ·have hi:i<l.length:=by omega
  refine ElemV.bs hS rfl i rfl hi ?_;intro eb eo hc;(conv=>whnf);refine LoadV.of hc (zw ?_);refine zcv (qrt _ l[i] w1 hT) ?_;rintro v w1 ⟨rfl,rfl⟩;refine zu ?_;exact ⟨i+1,⟨rfl,rfl,rfl,by rw [qp4 _ _ _ hi];rfl,trivial⟩,⟨by omega,rfl⟩,by omega⟩
 ·refine Wit.eq (bnot _) (zw ?_);rw [List.take_of_length_le Oo];exact ⟨rfl,rfl⟩
theorem q6y (l:LB) (A:oA) (n c:Nat) (w:World) (hS:SlAt encB 1 w A l) (hn:l.length=n) (hl:l.length≤140737488355328) (hT:CellsAt w 1 0 qo1) :
  Gv Tryz.prog 64 [.slice A n c] w fun v w'=>v=.int .u32 (crcL l).toNat∧w'=w:=by
 refine ze Tryz.func64 Tryz.ntmps64 ?_;refine zcv (qwn l A n c w hS hn hl hT) ?_;rintro v w1 ⟨rfl,rfl⟩;(conv=>whnf);exact ⟨rfl,rfl⟩
theorem q5z (r:BitVec 32):r.toNat%2=if r.getLsbD 0=true then 1 else 0:=by
 rw [BitVec.getLsbD,Nat.testBit_zero]
 rcases Nat.mod_two_eq_zero_or_one r.toNat with h|h<;>rw [h]<;>simp
theorem q8r (r:BitVec 32) (d:Bool):qdd .xor .u32 ((r.toNat%2:Nat):Int) ((bif d then 1 else 0:Nat):Int)=((bif (r.getLsbD 0 ^^ d) then 1 else 0:Nat):Int):=by
 rw [q5z];cases r.getLsbD 0<;>cases d<;>decide
theorem qrb (r:BitVec 32) (d:Bool) (w:World):Gv Tryz.prog 254 [.int .u32 r.toNat,.int .u8 (bif d then 1 else 0:Nat)] w fun v w'=>v=.int .u32 (ql5 r d).toNat∧w'=w:=by
 have h0:=quk r;have hd:(bif d then 1 else 0:Nat)≤1:=by cases d<;>decide
 have hs:(r >>> 1).toNat=r.toNat/2:=by rw [BitVec.toNat_ushiftRight,Nat.shiftRight_eq_div_pow]
 refine ze Tryz.func254 Tryz.ntmps254 ?_;refine Wit.eq (qbc (k:=.u32) (m:=r.toNat) 1 rfl ⟨by omega,by omega⟩ ⟨by omega,by omega⟩) (zu ?_);refine Wit.eq (q8r r d) (zw ?_);refine Wit.shr (m:=2) (r:=((r.toNat/2:Nat):Int)) ⟨by decide,by decide⟩ Od Oo (zw ?_);cases hx:(r.getLsbD 0 ^^ d)
 ·refine Tst.no Od (zw ?_);refine ⟨?_,rfl⟩;rw [ql5,hx,if_neg Js,BitVec.xor_zero,hs]
 ·refine Tst.yes Od (zw ?_);refine Wit.eq (y:=(((r >>> 1) ^^^ poly).toNat:Int)) (by rw [← bx,hs];rfl) (zw ?_);refine ⟨?_,rfl⟩;rw [ql5,hx,if_pos rfl]
theorem qng (l:LB) (A:oA) (n c:Nat) (w:World) (hS:SlAt encB 1 w A l) (hn:l.length=n) (hl:l.length≤140737488355328) :
  Gv Tryz.prog 196 [.int .u32 0,.slice A n c] w fun v w'=>v=.int .u32 (crcL l).toNat∧w'=w:=by
 subst hn;refine ze Tryz.func196 Tryz.ntmps196 ?_;refine Wit.eq (bnot 0#32) (zw ?_);refine qe (fun i:Nat=>[(1,.slice A l.length c),(6,ii i),(5,.int .u32 (updL (~~~ 0#32) (l.take i)).toNat)]) (fun i w1=>i≤l.length∧w1=w) (fun i=>l.length-i) 0 ⟨rfl,rfl,rfl,trivial⟩ ⟨by omega,rfl⟩ ?_;rintro i w1 ρ' ⟨h1,rfl⟩;(conv=>whnf);refine zC (fun _=>zw ?_) (fun _=>zw ?_)
 ·have hi:i<l.length:=by omega
  have hb:=qbg l[i];refine qe (fun k:Nat=>[(1,.slice A l.length c),(6,ii i),(7,ii k),(5,.int .u32 (qv4 (updL (~~~ 0#32) (l.take i)) l[i] k).toNat)]) (fun k w2=>k≤8∧w2=w1) (fun k=>8-k) 0 ⟨rfl,rfl,rfl,rfl,trivial⟩ ⟨by omega,rfl⟩ ?_;rintro k w2 ρ' ⟨k1,rfl⟩;(conv=>whnf);refine zC (fun _=>zu ?_) (fun _=>zu ?_)
  ·refine ElemV.bs hS rfl i rfl hi ?_;intro eb eo hc;(conv=>whnf);refine LoadV.of hc (zw ?_);have hk:2 ^ k≤128:=Nat.le_trans (Nat.pow_le_pow_right Od (show k≤7 by omega)) Od;obtain ⟨q,hq⟩:∃ q,q=l[i].toNat/2 ^ k:=⟨_,rfl⟩
   have hdiv:q≤l[i].toNat:=by rw [hq];exact Nat.div_le_self ..
   refine Wit.shr (m:=((2 ^ k:Nat):Int)) (r:=(q:Int)) ⟨by omega,by show (k:Int)<8;omega⟩ (by rw [Int.toNat_natCast];push_cast;rfl) (by rw [hq,Int.natCast_ediv]) (zw ?_);refine Wit.eq (qbc (k:=.u8) (m:=q) 1 rfl ⟨by omega,by omega⟩ ⟨by omega,by omega⟩) (zw ?_);have hbit:q%2 ^ 1=bif l[i].toNat.testBit k then 1 else 0:=by
    rw [Nat.testBit_eq_decide_div_mod_eq,← hq,Nat.pow_one]
    rcases Nat.mod_two_eq_zero_or_one q with h|h<;>rw [h]<;>decide
   rw [hbit];refine zcv (qrb _ (l[i].toNat.testBit k) w2) ?_;rintro v w2 ⟨rfl,rfl⟩;refine zu ?_;exact ⟨k+1,⟨rfl,rfl,rfl,rfl,trivial⟩,⟨by omega,rfl⟩,by omega⟩
  ·have hk:k=8:=by omega
   subst hk;exact ⟨i+1,⟨rfl,rfl,by rw [qp4 _ _ _ hi,← qz5];rfl,trivial⟩,⟨by omega,rfl⟩,by omega⟩
 ·refine Wit.eq (bnot _) (zw ?_);rw [List.take_of_length_le Oo];exact ⟨rfl,rfl⟩
theorem qv6 (l:LB) (A:oA) (n c:Nat) (w:World) (hS:SlAt encB 1 w A l) (hn:l.length=n) (hl:l.length≤140737488355328) :
  Gv Tryz.prog 130 [.slice A n c] w fun v w'=>v=.int .u32 (crcL l).toNat∧w'=w:=by
 refine ze Tryz.func130 Tryz.ntmps130 ?_;refine zcv (qng l A n c w hS hn hl) ?_;rintro v w1 ⟨rfl,rfl⟩;(conv=>whnf);exact ⟨rfl,rfl⟩
namespace V
section
variable {wd w w':World} {o1 o2:Obj} {F:World→Prop} {s2 s5 s6 s12 s13 s17:Bool} {v5 v12 v:Value}
end
end V
def hN (l:LB) (k:Nat):Nat:=leN ((l.drop (4*k)).take 4)
def q7w (l:LB):Nat × Nat:=
 if l.length<28 then (l.length,10) else if hN l 0≠1095914324 then (0,190) else if hN l 6≠(crcL (l.take 24)).toNat then (24,30) else if hN l 1≠1 then (4,191)
 else if 67108864<hN l 4+hN l 5+36 then (0,2) else if l.length<hN l 4+hN l 5+36 then (l.length,10) else if hN l 4+hN l 5+36<l.length then (hN l 4+hN l 5+36,13) else (0,0)
theorem qbf:Tryz.prog.underlying 60=some (.slice 5):=Tryz.underlying60
theorem bytI:Tryz.prog.info? 5=some ((Tryz.prog.info? 5).get Ok):=(Option.some_get _).symm
theorem bytZ:((Tryz.prog.info? 5).get Ok).zero=some (.int .u8 0):=by kernel_rfl
def fixL (n:Nat):Nat→LB
 | 0=>[]
 | k+1=>fixL n k++[UInt8.ofNat (n/2 ^ (8*k)%256)]
theorem qf (n k:Nat):(fixL n k).length=k:=by
 induction k with
 | zero=>rfl
 | succ k ih=>simp [fixL,ih]
theorem qyz (n k:Nat):leN (fixL n k)=n%256 ^ k:=by
 induction k with
 | zero=>simp [fixL,leN,Nat.mod_one]
 | succ k ih=>
  rw [fixL,q5w,ih,qf];have e:(2:Nat) ^ (8*k)=256 ^ k:=by rw [Nat.pow_mul]
  have e2:(UInt8.ofNat (n/2 ^ (8*k)%256)).toNat=n/256 ^ k%256:=by
   rw [e];simp
  simp only [leN,e2,Nat.mul_zero,Nat.add_zero];rw [Nat.pow_succ,Nat.mod_mul]
namespace V
theorem Rw.byts {w0 w:World} {A:oA} {n c:Nat} {e:TypeId} {zs:LB} {L:List (Nat × Obj)} (h:Rw w0 w (.slice A n c) e 1 n (zs.map fun c=>Value.int .u8 c.toNat) L) (hn:zs.length=n):BS w (.slice A n c) zs:=by
 subst hn;refine ⟨A,c,rfl,?_,⟨fun hne=>?_⟩⟩
 ·rcases h.own.2 with ⟨e1,e2⟩|⟨g,cap,cur,e1,_,_,hnc,_⟩
  ·omega
  ·cases e1;exact hnc
 ·obtain ⟨g,rfl,_,_,_,hc⟩:=h.cells (List.length_pos_iff.2 hne);refine ⟨g,0,rfl,fun j x hx k v hv=>?_⟩;cases k with
  | succ k=>simp [encB] at hv
  | zero=>
   simp only [encB,List.getElem?_cons_zero,Option.some.injEq] at hv;subst hv;have:=hc j (.int .u8 x.toNat) (by rw [List.getElem?_map,hx];rfl)
   simpa using this
theorem Wit.shrN {k:IntKind} {a:Nat} {b:Int} {K:Int→Prop} (n:Nat) (e:b=(n:Int)) (hn:n<k.bits) (hk:K ((a/2 ^ n:Nat):Int)) :
  Wit (fun r=>0≤b∧b<k.bits∧(a:Int)/2 ^ b.toNat=r) K:=by
 subst e;refine ⟨_,⟨by omega,by omega,?_⟩,hk⟩;rw [Int.toNat_natCast];simp
theorem BytesS.sl {w:World} {A:oA} {n:Nat} {l:LB} {K:Value→Prop} (h:SlAt encB 1 w A l) (hn:l.length=n) (hk:K (.string ⟨l.toArray⟩)):BytesS w A n K:=
 ⟨l,hn,fun hne=>by
  obtain ⟨b,off,h1,h2⟩:=h.at_ hne;refine ⟨b,off,h1,fun k v hv=>?_⟩;rw [byteCells,List.getElem?_map] at hv;obtain ⟨x,hx,rfl⟩:=Option.map_eq_some_iff.1 hv;have:=h2 k x hx 0 (.int .u8 x.toNat) rfl
  simpa using this,hk⟩
theorem Wit.low8 {a:Nat} {K:Int→Prop} (hk:K ((a%256:Nat):Int)):Wit (fun r=>IntKind.u8.wrap (a:Int)=r) K:=by
 refine ⟨_,?_,hk⟩;simp [IntKind.wrap,IntKind.bits,IntKind.signed]
end V
theorem q3g (w:World):Gv Tryz.prog 195 [ii 4] w fun r w'=>r=ii 4∧w'=w:=by
 refine ze Tryz.func195 Tryz.ntmps195 ?_;refine V.Fall.min2 rfl rfl rfl fun m hm=>?_;obtain rfl:m=4:=by omega
 (conv=>whnf);refine V.Fall.max2 rfl rfl rfl fun m hm=>?_;obtain rfl:m=4:=by omega
 (conv=>whnf);exact ⟨rfl,rfl⟩
theorem qli (n:Nat) (w:World) (_hn:n<4294967296) :
  Gv Tryz.prog 129 [.int .u64 n,ii 4] w fun r w'=>BS w' r (fixL n 4)∧Ext w w':=by
 refine ze Tryz.func129 Tryz.ntmps129 ?_;refine qe (fun x:Nat × oA × Nat=>[(0,.int .u64 n),(1,ii 4),(5,.slice x.2.1 x.1 x.2.2),(6,ii x.1)])
  (fun x w2=>x.1≤4∧Rw w w2 (.slice x.2.1 x.1 x.2.2) 5 1 x.1 ((fixL n x.1).map fun c=>Value.int .u8 c.toNat) []) (fun x=>4-x.1) (0,none,0) ⟨rfl,rfl,rfl,rfl,trivial⟩ ⟨by simp,Rw.nil (Mem.nil w)⟩ ?_
 rintro ⟨i,A,c⟩ w2 ρ' ⟨h1,hR⟩;dsimp only at h1 hR ⊢;(conv=>whnf);refine zcv (q3g w2) ?_;rintro r w3 ⟨rfl,rfl⟩;(conv=>whnf);refine zC (fun _=>zu ?_) (fun _=>zu ?_)
 ·refine V.Wit.shrN (8*i) Oo (by show 8*i<64;omega) (zw ?_);refine V.Wit.low8 (zw ?_);refine NewV.rw hR fun nb w4 hR4=>zw ?_;refine AppV.one qbf bytI bytZ Ok rfl (by decide +kernel) hR4 rfl Oo ?_;intro B' d' w5 hR5;refine zu ?_;refine ⟨(i+1,B',d'),⟨rfl,rfl,rfl,rfl,trivial⟩,⟨by simp only;omega,?_⟩,by simp only;omega⟩;simp only [fixL,List.map_append,List.map_cons,List.map_nil];have e:(UInt8.ofNat (n/2 ^ (8*i)%256)).toNat=n/2 ^ (8*i)%256:=by simp
  rw [e];exact hR5
 ·obtain rfl:i=4:=by omega
  exact ⟨hR.byts (qf n 4),hR.mem.ext⟩
theorem qj7 (l:LB) (A:oA) (n c:Nat) (w:World) (hS:SlAt encB 1 w A l) (hn:l.length=n) (hl:l.length≤140737488355328) :
  Gv Tryz.prog 85 [.slice A n c] w fun r w'=>BS w' r (fixL (crcL l).toNat 4)∧Ext w w':=by
 have hs:=qv6 l A n c w hS hn hl;have hlt:=quk (crcL l);refine ze Tryz.func85 Tryz.ntmps85 ?_;refine zcv (hs) ?_;rintro r w1 ⟨rfl,rfl⟩;refine zu ?_;refine zcv (qli _ w1 hlt) ?_;rintro r w2 ⟨⟨A',c',rfl,h1,h2⟩,he2⟩;(conv=>whnf);exact ⟨⟨A',c',rfl,h1,h2⟩,he2⟩
section
variable {wd w w':World} {o:Obj} {F:Value→World→Prop} {s2 s5 s8 s11 s12 s13:Bool} {v12:Value}
end
def upN (n b:Nat):Nat:=(n+b-1)/b
def qx (n:Nat):Nat:=8+upN n 8
def qal (n:Nat):Nat:=qx n+4*upN n 2048
def qap (n:Nat):Nat:=qal n+2*upN n 256
def qce (n m:Nat):Nat:=qap n+4*upN m 512
def cutV (n m:Nat):List Value:=[ii 8,ii (qx n),ii (qal n),ii (qap n),ii (qce n m)]
theorem qa0 (n b:Nat) (hb:0<b):upN n b≤n:=by
 unfold upN
 rcases Nat.eq_zero_or_pos n with rfl|hn
 ·rw [Nat.zero_add,Nat.div_eq_of_lt Oo];exact Nat.le_refl _
 ·have:(n+b-1)/b<n+1:=by
   rw [Nat.div_lt_iff_lt_mul hb];have h:n+b≤n*b+1*b:=by rw [Nat.one_mul];exact Nat.add_le_add_right (Nat.le_mul_of_pos_right n hb) b
   rw [Nat.add_mul];omega
  omega
theorem q8x (n b:Nat) (hb:0<b):((n:Int)+(b:Int)-1)/(b:Int)=((upN n b:Nat):Int):=by
 have:(n:Int)+(b:Int)-1=((n+b-1:Nat):Int):=by omega
 rw [this,upN,Int.natCast_ediv]
theorem qp3 (n b:Nat) (w:World) (hn:n≤8796093022208) (hb:0<b) (hb2:b≤1048576):Gv Tryz.prog 170 [ii n,ii b] w fun r w'=>r=ii (upN n b)∧w'=w:=by
 refine ze Tryz.func170 Tryz.ntmps170 ?_;refine zv ?_;have hq:=q8x n b hb;have hle:=qa0 n b hb;rw [hq];refine Obl.mk ⟨by omega,by omega,⟨by omega,by omega⟩⟩ (zw ?_);exact ⟨rfl,rfl⟩
theorem q5e (n m:Nat) (w:World) (hn:n≤67108864) (hm:m≤67108864):Gv Tryz.prog 173 [ii n,ii m] w fun r w'=>r=.agg (cutV n m).toArray∧Ext w w':=by
 have u1:=qa0 n 8 Od;have u2:=qa0 n 2048 Od;have u3:=qa0 n 256 Od;have u4:=qa0 m 512 Od;have g1:qx n=8+upN n 8:=rfl;have g2:qal n=qx n+4*upN n 2048:=rfl;have g3:qap n=qal n+2*upN n 256:=rfl;refine ze Tryz.func173 Tryz.ntmps173 ?_;refine znm (Mem.nil w) fun r w1 hm=>zw ?_;refine znm hm fun p w2 hm=>zw ?_;refine StoreA.all hm (i:=0) rfl rfl Od fun w3 hm=>zw ?_;refine DrawV.own rfl Ok (zw ?_);refine zo ?_;refine zO ?_ (by intro wd hd;(conv=>whnf);refine LoadV.mem (Mem.call (Mem.drew hm) hd) (i:=0) rfl rfl ?_;(conv=>whnf);exact PostO.still xr rfl);(conv=>whnf);refine zo ?_;apply StepO.still
 ·intro wd hd;(conv=>whnf);refine zcv (qp3 n 8 wd Oo Od Od) ?_;rintro v w9 ⟨rfl,rfl⟩;exact PostO.still xr rfl
 (conv=>whnf);refine zo ?_;refine zo ?_;intro w4 hd
 (repeat (intro _;(conv=>whnf)))
 (conv=>whnf);refine StoreV.mem (hm.drew.call hd) (i:=0) rfl (show 1<5 by decide) rfl fun w5 hm=>zw ?_;refine DrawV.own rfl Ok (zw ?_);refine zo ?_;refine zO ?_ (by intro wd hd;(conv=>whnf);refine LoadV.mem (Mem.call (Mem.drew hm) hd) (i:=0) rfl rfl ?_;(conv=>whnf);exact PostO.still xr rfl);(conv=>whnf);refine zo ?_;apply StepO.still
 ·intro wd hd;(conv=>whnf);refine zcv (qp3 n 2048 wd Oo Od Od) ?_;rintro v w9 ⟨rfl,rfl⟩;exact PostO.still xr rfl
 (conv=>whnf);(iterate 3 (refine zo ?_));intro w10 hd
 (repeat (intro _;(conv=>whnf)))
 (conv=>whnf);refine StoreV.mem (hm.drew.call hd) (i:=0) rfl (show 2<5 by decide) rfl fun w11 hm=>zw ?_;refine DrawV.own rfl Ok (zw ?_);refine zo ?_;refine zO ?_ (by intro wd hd;(conv=>whnf);refine LoadV.mem (Mem.call (Mem.drew hm) hd) (i:=0) rfl rfl ?_;(conv=>whnf);exact PostO.still xr rfl);(conv=>whnf);refine zo ?_;apply StepO.still
 ·intro wd hd;(conv=>whnf);refine zcv (qp3 n 256 wd Oo Od Od) ?_;rintro v w9 ⟨rfl,rfl⟩;exact PostO.still xr rfl
 (conv=>whnf);(iterate 3 (refine zo ?_));intro w12 hd
 (repeat (intro _;(conv=>whnf)))
 (conv=>whnf);refine StoreV.mem (hm.drew.call hd) (i:=0) rfl (show 3<5 by decide) rfl fun w13 hm=>zw ?_;refine DrawV.own rfl Ok (zw ?_);refine zo ?_;refine zO ?_ (by intro wd hd;(conv=>whnf);refine LoadV.mem (Mem.call (Mem.drew hm) hd) (i:=0) rfl rfl ?_;(conv=>whnf);exact PostO.still xr rfl);(conv=>whnf);refine zo ?_;apply StepO.still
 ·intro wd hd;(conv=>whnf);refine zcv (qp3 m 512 wd Oo Od Od) ?_;rintro v w9 ⟨rfl,rfl⟩;exact PostO.still xr rfl
 (conv=>whnf);(iterate 3 (refine zo ?_));intro w14 hd
 (repeat (intro _;(conv=>whnf)))
 (conv=>whnf);refine StoreV.mem (hm.drew.call hd) (i:=0) rfl (show 4<5 by decide) rfl fun w15 hm=>zw ?_;refine zl hm 0 ?_;refine StoreA.all hm (i:=1) rfl rfl (by intro v hv;simp at hv;rcases hv with rfl|rfl|rfl|rfl|rfl<;>rfl) fun w20 hm=>zw ?_;refine qaa (R:=fun r w'=>r=.agg (cutV n m).toArray∧Ext w w') (zw ?_);refine zl hm 1 ?_;exact ⟨rfl,hm.ext⟩
theorem qr5 (n m:Nat) (hn:n≤67108864) (hm:m≤n):qce n m≤1000000000:=by
 have u1:=qa0 n 8 Od;have u2:=qa0 n 2048 Od;have u3:=qa0 n 256 Od;have u4:=qa0 m 512 Od;unfold qce qap qal qx;omega
theorem qe4 (p c:Nat) (w:World):Gv Tryz.prog 217 [ii p,ii c] w fun v w'=>ErrAt w' v p c∧Ext w w':=by
 refine ze Tryz.func217 Tryz.ntmps217 ?_;refine znm (Mem.nil w) fun b w1 hm=>zw ?_;exact ⟨⟨b,rfl,CellsAt.mem hm mh⟩,hm.ext⟩
def vN (l:LB):Nat:=leN (l.take 4)
def vM (l:LB):Nat:=leN ((l.drop 4).take 4)
def vOk (l:LB):Bool:=decide (8≤l.length)&&decide (vN l≤67108864)&&decide (vM l≤vN l)&&decide (l.length=qce (vN l) (vM l))
section
variable {wd w w':World} {F:World→Prop} {s4 s8 s9 s12:Bool}
end
theorem qd8 {n:Nat} (h:n<256):InR .u8 (n:Int):=⟨by omega,by omega⟩
def qm0 (n:Nat):Nat:=n%2+n/2%2+n/4%2+n/8%2+n/16%2+n/32%2+n/64%2+n/128%2
def qe9 (l:LB):Nat→Nat→Nat
 | _,0=>0
 | a,k+1=>qe9 l a k+qm0 (l.getD (a+k) 0).toNat
def q9e (l:LB) (i:Nat):Nat:=
 if i=0∨vN l=0 then 0 else if vN l≤i then vM l else
  min (leN ((l.drop (qx (vN l)+4*(i/2048))).take 4)+leN ((l.drop (qal (vN l)+2*(i/256))).take 2)+qe9 l (8+i/256*32) (i%256/8)+qm0 ((l.getD (8+i/8) 0).toNat%2 ^ (i%8))) i
def bitN (d:LB) (i:Nat):Nat:=(d.getD (i/8) 0).toNat/2 ^ (i%8)%2
def cnt (d:LB):Nat→Nat
 | 0=>0
 | n+1=>cnt d n+bitN d n
theorem qfq (d:LB) (i:Nat):bitN d i≤1:=by unfold bitN;omega
theorem qeh (d:LB) (n:Nat):cnt d n≤n:=by
 induction n with
 | zero=>exact Nat.le_refl _
 | succ n ih=>have:=qfq d n;simp only [cnt];omega
theorem qio {d:LB} {a b:Nat} (h:a≤b):cnt d a≤cnt d b:=by
 induction h with
 | refl=>exact Nat.le_refl _
 | step _ ih=>simp only [cnt];omega
theorem qvr:∀ x,x<256→∀ r,r<8→qm0 (x%2 ^ (r+1))=qm0 (x%2 ^ r)+x/2 ^ r%2:=by decide +kernel
theorem q7p (d:LB) (a r:Nat) (hr:r≤8):cnt d (8*a+r)=cnt d (8*a)+qm0 ((d.getD a 0).toNat%2 ^ r):=by
 induction r with
 | zero=>rw [Nat.pow_zero,Nat.mod_one,Nat.add_zero];rfl
 | succ r ih=>
  rw [← Nat.add_assoc,cnt,ih Oo,qvr _ (qbg _) r Oo,bitN];have e1:(8*a+r)/8=a:=by omega
  have e2:(8*a+r)%8=r:=by omega
  rw [e1,e2];omega
theorem q1v (d:LB) (a k:Nat):cnt d (8*(a+k))=cnt d (8*a)+qe9 d a k:=by
 induction k with
 | zero=>rfl
 | succ k ih=>
  have e:8*(a+(k+1))=8*(a+k)+8:=by omega
  rw [e,q7p d (a+k) 8 Oo,ih,qe9];have h:=qbg (d.getD (a+k) 0);rw [show (2:Nat) ^ 8=256 by decide,Nat.mod_eq_of_lt h];omega
structure VecOk (l:LB):Prop where
 ok:vOk l=true
 great:∀ j,j<upN (vN l) 2048→leN ((l.drop (qx (vN l)+4*j)).take 4)=cnt (l.drop 8) (2048*j)
 small:∀ j,j<upN (vN l) 256→leN ((l.drop (qal (vN l)+2*j)).take 2)=cnt (l.drop 8) (256*j)-cnt (l.drop 8) (2048*(j/8))
 ones:cnt (l.drop 8) (vN l)=vM l
def valB (p:LB) (f:Nat):Nat→Nat
 | 0=>0
 | k+1=>valB p f k+bitN p (f+k)*2 ^ k
theorem qry (p:LB) (f k:Nat):valB p f k<2 ^ k:=by
 induction k with
 | zero=>simp [valB]
 | succ k ih=>
  have:=qfq p (f+k);have h2:bitN p (f+k)*2 ^ k≤1*2 ^ k:=Nat.mul_le_mul_right _ this;rw [valB,Nat.pow_succ];omega
theorem qrx (p:LB) (f k:Nat) {m:Nat} (h:k≤m):valB p f k<2 ^ m:=Nat.lt_of_lt_of_le (qry p f k) (Nat.pow_le_pow_right Od h)
def numP (p:LB) (w i:Nat):Nat:=leN ((p.drop (i*w/8)).take 4)/2 ^ (i*w%8)%2 ^ w
end Go.Proofs.YtacnkdagblbgfaaGreatDoor
