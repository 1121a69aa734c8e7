/- Lemmas and contracts of functions on the way to the law's card (part 9 of 13). -/
import Derived.Test.YtajgbepghniciaaGreatDoorPV8
namespace Go.Proofs.YtajgbepghniciaaGreatDoor
open Go.RowKit V
set_option maxRecDepth 100000
theorem qh4 (a b:List UInt8):escL (a++b)=escL a++escL b:=by
 induction a with
 | nil=>rfl
 | cons c r ih=>
  by_cases h:c=0
  ·subst h;rw [List.cons_append,qc0,qc0,ih];rfl
  ·rw [List.cons_append,qcg _ h,qcg _ h,ih];rfl
theorem AppV.byt {w0 w:World} {A:Option Addr} {cc nb:Nat} {x:List UInt8} {c:UInt8} {L:List (Nat × Obj)} {ty:TypeId} {K:Value→World→Prop}
  (h:Rw w0 w (.slice A x.length cc) 5 1 x.length (byV x) ((nb,.cells #[.int .u8 c.toNat] 5 (0,0))::L)) (hn:x.length+1≤8000000000000)
  (hk:∀ A' c' w',Rw w0 w' (.slice A' (x++[c]).length c') 5 1 (x++[c]).length (byV (x++[c])) L→K (.slice A' (x++[c]).length c') w'):AppV Tryz.prog #[45,45] ty (.slice A x.length cc) (.slice (some ⟨nb,0,none⟩) 1 1) w K:=by
 have el:(x++[c]).length=x.length+1:=by simp
 have ev:byV (x++[c])=byV x++[.int .u8 c.toNat]:=by simp [byV]
 refine AppV.one qdv bytI bytZ (by kernel_rfl) rfl (by decide +kernel) h rfl hn fun A' c' w' hR=>?_;have:=hk A' c' w';rw [el,ev] at this;exact this hR
theorem AppV.byt2 {w0 w:World} {A:Option Addr} {cc nb:Nat} {x:List UInt8} {L:List (Nat × Obj)} {ty:TypeId} {K:Value→World→Prop}
  (h:Rw w0 w (.slice A x.length cc) 5 1 x.length (byV x) ((nb,.cells #[.int .u8 0,.int .u8 0] 5 (0,0))::L)) (hn:x.length+2≤8000000000000)
  (hk:∀ A' c' w',Rw w0 w' (.slice A' (x++[0,0]).length c') 5 1 (x++[0,0]).length (byV (x++[0,0])) L→K (.slice A' (x++[0,0]).length c') w'):AppV Tryz.prog #[45,45] ty (.slice A x.length cc) (.slice (some ⟨nb,0,none⟩) 2 2) w K:=by
 refine AppV.rwB (m:=[0,0]) qdv bytI bytZ (by kernel_rfl) rfl (by decide +kernel) h ⟨fun _=>⟨nb,0,rfl,fun j y hj k u hu=>?_⟩⟩ (by simp;omega) (fun A' c' w' hR=>hk A' c' w' hR.tail);cases k with
 | succ k=>simp [encB] at hu
 | zero=>
  simp only [encB,List.getElem?_cons_zero,Option.some.injEq] at hu;subst hu;rw [qd (h.mem.get (List.mem_cons_self ..))]
  match j with
  | 0=>cases hj;rfl
  | 1=>cases hj;rfl
  | j+2=>simp at hj
theorem AppV.str {w0 w:World} {A:Option Addr} {cc:Nat} {x:List UInt8} {s:ByteArray} {L:List (Nat × Obj)} {ty:TypeId} {K:Value→World→Prop}
  (h:Rw w0 w (.slice A x.length cc) 5 1 x.length (byV x) L) (hL:qjh 5 L) (hn:x.length+s.size≤8000000000000)
  (hk:∀ A' c' w',Rw w0 w' (.slice A' (x++s.data.toList).length c') 5 1 (x++s.data.toList).length (byV (x++s.data.toList)) L→K (.slice A' (x++s.data.toList).length c') w'):AppV Tryz.prog #[45,9] ty (.slice A x.length cc) (.string s) w K:=by
 have el:(x++s.data.toList).length=x.length+s.size:=by rw [List.length_append];rfl
 have ev:byV (x++s.data.toList)=byV x++byteCells s.data.toList:=by simp [byV,byteCells]
 refine AppV.rwS qdv Tryz.underlying9 bytI bytZ (by kernel_rfl) (by kernel_rfl) h hL (by omega) fun v' w' hR=>?_;obtain ⟨A',c',rfl⟩:=hR.slice;have:=hk A' c' w';rw [el,ev] at this;exact this hR
theorem qsm (s:ByteArray) (w:World) (hs:s.size≤4194304) :
  Gv Tryz.prog 180 [.string s] w fun r w'=>(∃ (a b:ByteArray) (z:Bool),r=.tuple #[.string a,.string b,.bool z]∧a.size≤s.size∧b.size≤s.size)∧Ext w w':=by
 refine zE Tryz.func180 Tryz.ntmps180 ?_;(conv=>whnf);refine qm (fun i:Nat=>[(0,.string s),(5,.int .i64 i)]) (fun i w'=>i≤s.size∧w'=w) (fun i=>s.size-i) 0 ⟨rfl,rfl,trivial⟩ ⟨Nat.zero_le _,rfl⟩ ?_;rintro i w1 ρ' ⟨i1,rfl⟩;conv=>whnf
 (repeat' (first|(refine zA ?_;(conv=>whnf))|((with_reducible refine zC (fun _=>?_) (fun _=>?_))<;>first|(exfalso;omega)|(conv=>whnf))|((with_reducible refine zX ?_);(conv=>whnf))))
 ·refine DrawV.quiet (by kernel_rfl) (by kernel_rfl) ?_;(conv=>whnf);(iterate 2 (refine zW ?_;(conv=>whnf)));refine SliceS.at_ 0 i rfl rfl (by omega) (by omega) ?_;(conv=>whnf);(iterate 3 (refine zW ?_;(conv=>whnf)));refine zA ?_;(conv=>whnf);refine zW ?_;(conv=>whnf);refine SliceS.at_ (i+1) s.size (by show (_:Int)=_;omega) rfl (by omega) (by omega) ?_;(conv=>whnf);(iterate 4 (refine zW ?_;(conv=>whnf)));exact ⟨⟨_,_,true,rfl,by rw [ByteArray.size_extract];omega,by rw [ByteArray.size_extract];omega⟩,(Ext.refl _).drew⟩
 ·exact ⟨i+1,⟨rfl,rfl,trivial⟩,⟨by omega,rfl⟩,by omega⟩
 ·exact ⟨⟨⟨#[]⟩,⟨#[]⟩,false,rfl,Nat.zero_le _,Nat.zero_le _⟩,Ext.refl _⟩
theorem qez (t:TM) (ht:TermOk t) (w:World):Gv Tryz.prog 181 [qa2 t] w fun r w'=>r=(if qa7 t=0 then .tuple #[.string ⟨(qbh t).toArray⟩,.int .i64 0] else .tuple #[.string ⟨#[]⟩,.int .i64 (qa7 t)])∧Ext w w':=by
 refine zE Tryz.func181 Tryz.ntmps181 ?_;(conv=>whnf);refine NewV.mem (Mem.nil w) ?_;intro tb w1 hm;have hm:Mem w w1 [(tb,.cells #[.int .i64 t.kind,.string t.text,.string t.type,.string t.lang] 73 (0,0))]:=hm;(conv=>whnf);refine zL hm 0 ?_;(conv=>whnf);refine CallV.of (qa0 t ht w1) ?_;rintro r w2 ⟨rfl,he2⟩;have hm:=hm.call he2;obtain ⟨e,ee⟩:∃ e,e=qa7 t:=⟨_,rfl⟩
 rw [← ee];conv=>whnf
 (repeat' (first|((with_reducible refine zC (fun _=>?_) (fun _=>?_))<;>first|(exfalso;omega)|(conv=>whnf))|(refine LoadV.mem (i:=0) (by assumption) rfl rfl ?_;(conv=>whnf))))
 ·rw [if_neg (by omega)];exact ⟨rfl,hm.ext⟩
 rw [if_pos (by omega)]
 ·have h1:qbh t=t.text.data.toList:=by rw [qbh,if_neg (by assumption)]
  rw [h1];exact ⟨rfl,hm.ext⟩
 have hk3:t.kind=3:=by omega
 have hbl:t.text.data.toList.length=t.text.size:=rfl;have htx:=ht.text;have hty:=ht.type;have htl:=ht.lang;refine qm (fun x:Nat × List UInt8 × Option Addr × Nat=>[(1,.pointer (some ⟨tb,0,none⟩)),(5,.slice x.2.2.1 x.2.1.length x.2.2.2),(6,.int .i64 x.1)])
  (fun x w'=>x.1≤t.text.size∧x.2.1=escL (t.text.data.toList.take x.1)∧Rw w w' (.slice x.2.2.1 x.2.1.length x.2.2.2) 5 1 x.2.1.length (byV x.2.1) [(tb,.cells #[.int .i64 t.kind,.string t.text,.string t.type,.string t.lang] 73 (0,0))]) (fun x=>t.text.size-x.1) (0,[],none,0)
  ⟨rfl,rfl,rfl,trivial⟩ ⟨Nat.zero_le _,rfl,Rw.nil hm⟩ ?_
 clear hm;rintro ⟨i,x,A,c⟩ w3 ρ' ⟨i1,hx,hR⟩;dsimp only at i1 hx hR ⊢;have hxl:=qpa (t.text.data.toList.take i);rw [← hx,List.length_take] at hxl;have hm:=hR.mem;conv=>whnf
 (repeat' (first|((with_reducible refine zC (fun _=>?_) (fun _=>?_))<;>first|(exfalso;omega)|(conv=>whnf))|((with_reducible refine zX ?_);(conv=>whnf))|(refine LoadV.mem (i:=0) (by assumption) rfl rfl ?_;(conv=>whnf))))
 ·have hgb:t.text.data.toList.take (i+1)=t.text.data.toList.take i++[gb t.text i]:=by
   rw [List.take_add_one,List.getElem?_eq_getElem (by omega),gb,List.getD_eq_getElem?_getD,List.getElem?_eq_getElem (by omega)];rfl
  refine NewV.rw hR ?_;intro nb w4 hR;(conv=>whnf);refine AppV.byt (c:=gb t.text i) hR (by omega) ?_;clear hR;intro B d w5 hR;have hm:=hR.mem;conv=>whnf
  (repeat' (first|(refine zA ?_;(conv=>whnf))|((with_reducible refine zC (fun _=>?_) (fun _=>?_))<;>first|(exfalso;omega)|(conv=>whnf))|((with_reducible refine zX ?_);(conv=>whnf))|(refine LoadV.mem (i:=0) (by assumption) rfl rfl ?_;(conv=>whnf))))
  ·refine NewV.rw hR ?_;intro nb w6 hR;(conv=>whnf);refine AppV.byt (c:=1) hR (by rw [List.length_append];simp;omega) ?_;clear hR;intro B2 d2 w7 hR;(conv=>whnf);refine zA ?_;(conv=>whnf);refine ⟨(i+1,x++[gb t.text i]++[1],B2,d2),⟨rfl,rfl,rfl,trivial⟩,⟨by simp only;omega,?_,hR⟩,by simp only;omega⟩;have h0:gb t.text i=0:=UInt8.toNat.inj (by rw [show (0:UInt8).toNat=0 from rfl];omega);simp only;rw [hgb,qh4,hx,h0,qc0];simp [escL]
  ·refine ⟨(i+1,x++[gb t.text i],B,d),⟨rfl,rfl,rfl,trivial⟩,⟨by simp only;omega,?_,hR⟩,by simp only;omega⟩;have h0:gb t.text i≠0:=fun h=>by
    have:(gb t.text i).toNat=0:=by rw [h];rfl
    omega
   simp only;rw [hgb,qh4,hx,qcg _ h0];simp [escL]
 obtain rfl:i=t.text.size:=by omega
 rw [List.take_of_length_le (by omega)] at hx;have hN:qjh 5 [(tb,Obj.cells #[.int .i64 t.kind,.string t.text,.string t.type,.string t.lang] 73 (0,0))]:=by
  intro y hy c fz h;simp at hy;subst hy;simp at h
 refine NewV.rw hR ?_;clear hR;intro nb w4 hR;(conv=>whnf);refine AppV.byt2 hR (by omega) ?_;clear hR;intro B d w5 hR;have hm:=hR.mem;(conv=>whnf);refine LoadV.mem (i:=0) (by assumption) rfl rfl ?_;(conv=>whnf);refine AppV.str hR hN (by rw [List.length_append];simp;omega) ?_;clear hR;intro B d w6 hR;(conv=>whnf);refine NewV.rw hR ?_;clear hR;intro nb w7 hR;(conv=>whnf);refine AppV.byt (c:=0) hR (by rw [List.length_append,List.length_append,show t.type.data.toList.length=t.type.size from rfl];simp;omega) ?_;clear hR;intro B d w8 hR;have hm:=hR.mem;(conv=>whnf);refine LoadV.mem (i:=0) (by assumption) rfl rfl ?_;(conv=>whnf);refine AppV.str hR hN (by simp only [List.length_append];rw [show t.type.data.toList.length=t.type.size from rfl];simp;omega) ?_;clear hR;intro B d w9 hR;(conv=>whnf);have hB:SlAt encB 1 w9 B (x++[0,0]++t.type.data.toList++[0]++t.lang.data.toList):=V.Rw.slAt (f:=fun c:UInt8=>Value.int .u8 c.toNat) (fun _=>rfl) hR rfl;refine BytesS.sl hB rfl ?_;(conv=>whnf);have hent:qbh t=x++[0,0]++t.type.data.toList++[0]++t.lang.data.toList:=by
  rw [qbh,if_pos hk3,hx];simp
 rw [hent,if_pos (by omega)];exact ⟨rfl,hR.mem.ext⟩
open Go.RowKit V
set_option maxRecDepth 100000
def RdR (kind:Int) (s:ByteArray) (r:Value):Prop:=
 (∃ e:Int,e≠0∧r=.tuple #[.agg #[.int .i64 0,.string ⟨#[]⟩,.string ⟨#[]⟩,.string ⟨#[]⟩],.int .i64 e])∨(∃ t,ReadsAs kind s.data.toList t∧TermOk t∧r=.tuple #[qa2 t,.int .i64 0])
set_option maxHeartbeats 2000000 in
theorem qrh (kind:Int) (hk:kind=1∨kind=2∨kind=3) (s:ByteArray) (hs:s.size≤262144) (w:World):Gv Tryz.prog 115 [.int .i64 kind,.string s] w fun r w'=>RdR kind s r∧Ext w w':=by
 rcases hk with rfl|rfl|rfl
 all_goals
  refine zE Tryz.func115 Tryz.ntmps115 ?_;(conv=>whnf);refine NewV.mem (Mem.nil w) ?_;intro r4 w1 hm;(conv=>whnf);refine NewV.mem hm ?_;intro tb w2 hm;(conv=>whnf);refine zS hm 0 ?_;intro w3 hm
 ·obtain ⟨t,et⟩:∃ t:TM,t=⟨1,s,⟨#[]⟩,⟨#[]⟩⟩:=⟨_,rfl⟩
  have hkind:t.kind=1:=by rw [et]
  have ht:TermOk t:=by rw [et];exact ⟨(show InR .i64 1 from ⟨by decide,by decide⟩),by show s.size≤_;omega,(show (0:Nat)≤1048576 by decide),(show (0:Nat)≤1048576 by decide)⟩
  have hm:Mem w w3 [(tb,.cells #[.int .i64 t.kind,.string t.text,.string t.type,.string t.lang] 73 (0,0)),(r4,.cells #[.int .i64 0,.string ⟨#[]⟩,.string ⟨#[]⟩,.string ⟨#[]⟩] 73 (0,0))]:=by rw [et];exact hm
  clear et;(conv=>whnf);(iterate 2 (refine zY (fun _=>?_);(conv=>whnf)));refine zL hm 0 ?_;(conv=>whnf);refine CallV.of (qez t ht w3) ?_;rintro r wt ⟨rfl,het⟩;have hm:=hm.call het
  by_cases e0:qa7 t=0
  case neg=>
   rw [if_neg e0];obtain ⟨e,ee⟩:∃ e,e=qa7 t:=⟨_,rfl⟩
   rw [← ee] at e0 ⊢;(conv=>whnf);refine zY (fun _=>?_);(conv=>whnf);(iterate 4 (refine zT ?_;(conv=>whnf)));refine zS hm 1 ?_;clear hm;intro wa hm;(conv=>whnf);refine qa (R:=fun r w'=>RdR 1 s r∧Ext w w') ?_;(conv=>whnf);refine zL hm 1 ?_;(conv=>whnf);exact ⟨.inl ⟨170,by decide,rfl⟩,hm.ext⟩
  rw [if_pos e0];(conv=>whnf);refine zN (fun _=>?_);(conv=>whnf);(iterate 3 (refine zU ?_;(conv=>whnf)));refine zP ?_;cases hq:seq ⟨(qbh t).toArray⟩ s
  case false=>
   (conv=>whnf);refine zU ?_;(conv=>whnf);refine zS hm 1 ?_;clear hm;intro wa hm;(conv=>whnf);refine qa (R:=fun r w'=>RdR 1 s r∧Ext w w') ?_;(conv=>whnf);refine zL hm 1 ?_;(conv=>whnf);exact ⟨.inl ⟨170,by decide,rfl⟩,hm.ext⟩
  (conv=>whnf);refine zT ?_;(conv=>whnf);refine zL hm 0 ?_;(conv=>whnf);refine zS hm 1 ?_;clear hm;intro wa hm;(conv=>whnf);refine qa (R:=fun r w'=>RdR 1 s r∧Ext w w') ?_;(conv=>whnf);refine zL hm 1 ?_;(conv=>whnf);have hse:=q7.1 hq;exact ⟨.inr ⟨t,⟨hkind,e0,by rw [← hse]⟩,ht,rfl⟩,hm.ext⟩
 ·obtain ⟨t,et⟩:∃ t:TM,t=⟨2,s,⟨#[]⟩,⟨#[]⟩⟩:=⟨_,rfl⟩
  have hkind:t.kind=2:=by rw [et]
  have ht:TermOk t:=by rw [et];exact ⟨(show InR .i64 2 from ⟨by decide,by decide⟩),by show s.size≤_;omega,(show (0:Nat)≤1048576 by decide),(show (0:Nat)≤1048576 by decide)⟩
  have hm:Mem w w3 [(tb,.cells #[.int .i64 t.kind,.string t.text,.string t.type,.string t.lang] 73 (0,0)),(r4,.cells #[.int .i64 0,.string ⟨#[]⟩,.string ⟨#[]⟩,.string ⟨#[]⟩] 73 (0,0))]:=by rw [et];exact hm
  clear et;(conv=>whnf);refine zN (fun _=>?_);(conv=>whnf);refine zY (fun _=>?_);(conv=>whnf);refine zL hm 0 ?_;(conv=>whnf);refine CallV.of (qez t ht w3) ?_;rintro r wt ⟨rfl,het⟩;have hm:=hm.call het
  by_cases e0:qa7 t=0
  case neg=>
   rw [if_neg e0];obtain ⟨e,ee⟩:∃ e,e=qa7 t:=⟨_,rfl⟩
   rw [← ee] at e0 ⊢;(conv=>whnf);refine zY (fun _=>?_);(conv=>whnf);(iterate 4 (refine zT ?_;(conv=>whnf)));refine zS hm 1 ?_;clear hm;intro wa hm;(conv=>whnf);refine qa (R:=fun r w'=>RdR 2 s r∧Ext w w') ?_;(conv=>whnf);refine zL hm 1 ?_;(conv=>whnf);exact ⟨.inl ⟨170,by decide,rfl⟩,hm.ext⟩
  rw [if_pos e0];(conv=>whnf);refine zN (fun _=>?_);(conv=>whnf);(iterate 3 (refine zU ?_;(conv=>whnf)));refine zP ?_;cases hq:seq ⟨(qbh t).toArray⟩ s
  case false=>
   (conv=>whnf);refine zU ?_;(conv=>whnf);refine zS hm 1 ?_;clear hm;intro wa hm;(conv=>whnf);refine qa (R:=fun r w'=>RdR 2 s r∧Ext w w') ?_;(conv=>whnf);refine zL hm 1 ?_;(conv=>whnf);exact ⟨.inl ⟨170,by decide,rfl⟩,hm.ext⟩
  (conv=>whnf);refine zT ?_;(conv=>whnf);refine zL hm 0 ?_;(conv=>whnf);refine zS hm 1 ?_;clear hm;intro wa hm;(conv=>whnf);refine qa (R:=fun r w'=>RdR 2 s r∧Ext w w') ?_;(conv=>whnf);refine zL hm 1 ?_;(conv=>whnf);have hse:=q7.1 hq;exact ⟨.inr ⟨t,⟨hkind,e0,by rw [← hse]⟩,ht,rfl⟩,hm.ext⟩
 ·have hm:Mem w w3 [(tb,.cells #[.int .i64 3,.string s,.string ⟨#[]⟩,.string ⟨#[]⟩] 73 (0,0)),(r4,.cells #[.int .i64 0,.string ⟨#[]⟩,.string ⟨#[]⟩,.string ⟨#[]⟩] 73 (0,0))]:=hm;(conv=>whnf);(iterate 2 (refine zN (fun _=>?_);(conv=>whnf)));refine zY (fun _=>?_);(conv=>whnf);refine qm (fun x:Nat × List UInt8 × Option Addr × Nat=>[(0,.int .i64 3),(1,.string s),(4,.pointer (some ⟨r4,0,none⟩)),(6,.pointer (some ⟨tb,0,none⟩)),(7,.slice x.2.2.1 x.2.1.length x.2.2.2),(8,.int .i64 x.1)])
   (fun x w'=>x.1≤s.size∧x.2.1.length≤x.1∧Rw w w' (.slice x.2.2.1 x.2.1.length x.2.2.2) 5 1 x.2.1.length (byV x.2.1) [(tb,.cells #[.int .i64 3,.string s,.string ⟨#[]⟩,.string ⟨#[]⟩] 73 (0,0)),(r4,.cells #[.int .i64 0,.string ⟨#[]⟩,.string ⟨#[]⟩,.string ⟨#[]⟩] 73 (0,0))]) (fun x=>s.size-x.1) (0,[],none,0)
   ⟨rfl,rfl,rfl,rfl,rfl,rfl,trivial⟩ ⟨Nat.zero_le _,Nat.le_refl _,Rw.nil hm⟩ ?_
  clear hm;rintro ⟨i,x,A,c⟩ w4 ρ' ⟨i1,hx,hR⟩;dsimp only at i1 hx hR ⊢;have hm:=hR.mem;conv=>whnf
  (repeat' (first|(refine zA ?_;(conv=>whnf))|((with_reducible refine zT ?_);(conv=>whnf))|((with_reducible refine zU ?_);(conv=>whnf))|((with_reducible refine zC (fun _=>?_) (fun _=>?_))<;>first|(exfalso;omega)|(conv=>whnf))|((with_reducible refine zX ?_);(conv=>whnf))))
  ·refine NewV.rw hR ?_;intro nb w5 hR;(conv=>whnf);refine AppV.byt (c:=gb s i) hR (by omega) ?_;clear hR;intro B d w6 hR;(conv=>whnf);refine zX ?_;(conv=>whnf);refine zN (fun _=>?_);(conv=>whnf);refine zA ?_;(conv=>whnf);exact ⟨(i+1,x++[gb s i],B,d),⟨rfl,rfl,rfl,rfl,rfl,rfl,trivial⟩,⟨by simp only;omega,by simp only [List.length_append,List.length_cons,List.length_nil];omega,hR⟩,by simp only;omega⟩
  ·refine IdxV.at_ (i+1) (by omega) (by omega) ?_;conv=>whnf
   (repeat' (first|(refine zA ?_;(conv=>whnf))|((with_reducible refine zT ?_);(conv=>whnf))|((with_reducible refine zU ?_);(conv=>whnf))|((with_reducible refine zC (fun _=>?_) (fun _=>?_))<;>first|(exfalso;omega)|(conv=>whnf))|((with_reducible refine zX ?_);(conv=>whnf))))
   ·refine NewV.rw hR ?_;intro nb w5 hR;(conv=>whnf);refine AppV.byt (c:=gb s i) hR (by omega) ?_;clear hR;intro B d w6 hR;(conv=>whnf);refine zX ?_;(conv=>whnf);refine zY (fun _=>?_);(conv=>whnf);(iterate 2 (refine zA ?_;(conv=>whnf)));exact ⟨(i+2,x++[gb s i],B,d),⟨rfl,rfl,rfl,rfl,rfl,rfl,trivial⟩,⟨by simp only;omega,by simp only [List.length_append,List.length_cons,List.length_nil];omega,hR⟩,by simp only;omega⟩
   refine SliceS.at_ (i+2) s.size (by show (_:Int)=_;omega) rfl (by omega) (by omega) ?_;(conv=>whnf);have hsz:(s.extract (i+2) s.size).size≤s.size:=by rw [ByteArray.size_extract];omega
   refine CallV.of (qsm (s.extract (i+2) s.size) w4 (by omega)) ?_;rintro r w5 ⟨⟨a,b,z,rfl,ha,hb⟩,he5⟩;have hR:=hR.call he5;(conv=>whnf);have hB:SlAt encB 1 w5 A x:=V.Rw.slAt (f:=fun c:UInt8=>Value.int .u8 c.toNat) (fun _=>rfl) hR rfl;refine BytesS.sl hB rfl ?_;(conv=>whnf);obtain ⟨t,et⟩:∃ t:TM,t=⟨3,⟨x.toArray⟩,a,b⟩:=⟨_,rfl⟩
   have hkind:t.kind=3:=by rw [et]
   have hxs:(⟨x.toArray⟩:ByteArray).size=x.length:=by show (List.toArray x).size=_;simp
   have ht:TermOk t:=by rw [et];exact ⟨(show InR .i64 3 from ⟨by decide,by decide⟩),by show (⟨x.toArray⟩:ByteArray).size≤_;omega,by show a.size≤_;omega,by show b.size≤_;omega⟩
   refine zS hR.mem 0 ?_;intro w6 hm;have hm:Mem w w6 [(tb,.cells #[.int .i64 t.kind,.string t.text,.string t.type,.string t.lang] 73 (0,0)),(r4,.cells #[.int .i64 0,.string ⟨#[]⟩,.string ⟨#[]⟩,.string ⟨#[]⟩] 73 (0,0))]:=by rw [et];exact hm
   clear et hR;(conv=>whnf);refine zL hm 0 ?_;(conv=>whnf);refine CallV.of (qez t ht w6) ?_;rintro r wt ⟨rfl,het⟩;have hm:=hm.call het
   by_cases e0:qa7 t=0
   case neg=>
    rw [if_neg e0];obtain ⟨e,ee⟩:∃ e,e=qa7 t:=⟨_,rfl⟩
    rw [← ee] at e0 ⊢;(conv=>whnf);refine zY (fun _=>?_);(conv=>whnf);(iterate 4 (refine zT ?_;(conv=>whnf)));refine zS hm 1 ?_;clear hm;intro wa hm;(conv=>whnf);refine qa (R:=fun r w'=>RdR 3 s r∧Ext w w') ?_;(conv=>whnf);refine zL hm 1 ?_;(conv=>whnf);exact ⟨.inl ⟨170,by decide,rfl⟩,hm.ext⟩
   rw [if_pos e0];(conv=>whnf);refine zN (fun _=>?_);(conv=>whnf);(iterate 3 (refine zU ?_;(conv=>whnf)));refine zP ?_;cases hq:seq ⟨(qbh t).toArray⟩ s
   case false=>
    (conv=>whnf);refine zU ?_;(conv=>whnf);refine zS hm 1 ?_;clear hm;intro wa hm;(conv=>whnf);refine qa (R:=fun r w'=>RdR 3 s r∧Ext w w') ?_;(conv=>whnf);refine zL hm 1 ?_;(conv=>whnf);exact ⟨.inl ⟨170,by decide,rfl⟩,hm.ext⟩
   (conv=>whnf);refine zT ?_;(conv=>whnf);refine zL hm 0 ?_;(conv=>whnf);refine zS hm 1 ?_;clear hm;intro wa hm;(conv=>whnf);refine qa (R:=fun r w'=>RdR 3 s r∧Ext w w') ?_;(conv=>whnf);refine zL hm 1 ?_;(conv=>whnf);have hse:=q7.1 hq;exact ⟨.inr ⟨t,⟨hkind,e0,by rw [← hse]⟩,ht,rfl⟩,hm.ext⟩
  ·refine zS hm 1 ?_;clear hm;intro wa hm;(conv=>whnf);refine qa (R:=fun r w'=>RdR 3 s r∧Ext w w') ?_;(conv=>whnf);refine zL hm 1 ?_;(conv=>whnf);exact ⟨.inl ⟨170,by decide,rfl⟩,hm.ext⟩
open Go.RowKit V
set_option maxRecDepth 100000
def SpR (l:List UInt8) (r:Value):Prop:=
 ((sE l).2≠0∧∃ G:Nat→Int,r=.tuple #[.agg (fnA 4 (inF G)),fltV (sE l).1 (sE l).2])∨
 ((sE l).2=0∧∃ G:Nat→Int,(∀ k,k≤3→G k=((qi l k:Nat):Int))∧r=.tuple #[.agg (fnA 4 (inF G)),fltV 0 0])
theorem qnm (w:World):Gv Tryz.prog 114 [] w fun r w'=>r=.agg #[.int .i64 1,.int .i64 2,.int .i64 3]∧Ext w w':=by
 refine zE Tryz.func114 Tryz.ntmps114 ?_;(conv=>whnf);refine NewV.mem (Mem.nil w) ?_;intro r0 w1 hm;(conv=>whnf);refine zS hm 0 ?_;intro w2 hm;(conv=>whnf);refine qa (R:=fun r w'=>r=.agg #[.int .i64 1,.int .i64 2,.int .i64 3]∧Ext w w') ?_;(conv=>whnf);refine zL hm 0 ?_;(conv=>whnf);exact ⟨rfl,hm.ext⟩
theorem qpv {l:List UInt8} {k:Nat} (h:∀ j,j<k→(vsF l j).2=0) (hk:k<3) (he:(vsF l k).2≠0):sE l=vsF l k:=by
 have:=qan (f:=vsF l) h hk he;rw [sE,this,if_pos he]
set_option maxHeartbeats 4000000 in
theorem qiz (l:List UInt8) (A:Option Addr) (c:Nat) (w:World) (hS:SlAt encB 1 w A l) (hc:l.length≤c) (hl:l.length≤70368744177664) :
  Gv Tryz.prog 107 [.slice A l.length c] w fun r w'=>SpR l r∧Ext w w':=by
 refine zE Tryz.func107 Tryz.ntmps107 ?_;(conv=>whnf);refine NewV.mem (Mem.nil w) ?_;intro r2 w1 hm;(conv=>whnf);refine NewV.mem hm ?_;intro r3 w2 hm;(conv=>whnf);refine NewV.mem hm ?_;intro sb w3 hm;(conv=>whnf);refine NewV.mem hm ?_;intro cb w4 hm;(conv=>whnf);refine NewV.mem hm ?_;intro pb w5 hm;have hm:Mem w w5 [(pb,.cells (fnA 3 (inF (fun _:Nat=>(0:Int)))) 124 (0,0)),(cb,curO 279 (.slice A l.length c) (vAt l 0) 0),(sb,.cells (fnA 4 (inF (fun _:Nat=>(0:Int)))) 128 (0,0)),(r3,.cells #[.int .i64 0,.int .i64 0] 57 (0,0)),(r2,.cells (fnA 4 (inF (fun _=>0))) 128 (0,0))]:=hm;(conv=>whnf);refine qm (fun x:Nat × (Nat→Int)=>[(0,.slice A l.length c),(2,.pointer (some ⟨r2,0,none⟩)),(3,.pointer (some ⟨r3,0,none⟩)),(4,.pointer (some ⟨sb,0,none⟩)),(5,.pointer (some ⟨cb,0,none⟩)),(6,.pointer (some ⟨pb,0,none⟩)),(7,.int .i64 x.1)])
  (fun x w'=>x.1≤3∧(∀ j,j<x.1→(vsF l j).2=0)∧(∀ j,j<x.1→x.2 j=((vNum l j:Nat):Int))∧Mem w w' [(pb,.cells (fnA 3 (inF (x.2))) 124 (0,0)),(cb,curO 279 (.slice A l.length c) (vAt l x.1) 0),(sb,.cells (fnA 4 (inF (fun _:Nat=>(0:Int)))) 128 (0,0)),(r3,.cells #[.int .i64 0,.int .i64 0] 57 (0,0)),(r2,.cells (fnA 4 (inF (fun _=>0))) 128 (0,0))]) (fun x=>3-x.1) (0,fun _:Nat=>(0:Int))
  ⟨rfl,rfl,rfl,rfl,rfl,rfl,rfl,trivial⟩ ⟨by simp,fun j h=>by simp at h,fun j h=>by simp at h,hm⟩ ?_
 clear hm;rintro ⟨k,Q⟩ w6 ρ' ⟨k1,hz,hQ,hm⟩;dsimp only at k1 hz hQ hm ⊢;have hle:=qbs l k;have hlt:=qe7 l k;(conv=>whnf);refine zC (fun _=>?_) (fun _=>?_)<;>(conv=>whnf)
 ·refine zR hm 1 ?_;(conv=>whnf);refine CallV.of (qlg cb _ (vAt l k) 0 l w6 (hm.get (by simp)) ⟨A,c,rfl,hc,hS.ext hm.ext⟩ hle (by omega)) ?_;rintro r w7 ⟨rfl,hu⟩
  by_cases he:(numL (l.drop (vAt l k))).2.2=0
  case neg=>
   rw [qhw he,qhx he] at hu;rw [qhv he];obtain ⟨q,eq⟩:∃ q,q=(numL (l.drop (vAt l k))).2.2:=⟨_,rfl⟩
   have hf:vsF l k=(vAt l k,q):=by rw [vsF,qde he,eq]
   rw [← eq] at hu he;have hE:sE l=(vAt l k,q):=by rw [qpv hz (by omega) (by rw [hf];exact he),hf]
   have hm:Mem w w7 [(pb,.cells (fnA 3 (inF (Q))) 124 (0,0)),(cb,curO 279 (.slice A l.length c) (vAt l k) q),(sb,.cells (fnA 4 (inF (fun _:Nat=>(0:Int)))) 128 (0,0)),(r3,.cells #[.int .i64 0,.int .i64 0] 57 (0,0)),(r2,.cells (fnA 4 (inF (fun _=>0))) 128 (0,0))]:=hm.upd (i:=1) rfl hu;(conv=>whnf);refine zR hm 1 ?_;(conv=>whnf);refine zY (fun _=>?_);(conv=>whnf);refine DrawV.inv (fun S w'=>Mem w w' [(pb,.cells (fnA 3 (inF (Q))) 124 (0,0)),(cb,curO 279 (.slice A l.length c) (vAt l k) q),(sb,.cells (fnA 4 (inF (fun _:Nat=>(0:Int)))) 128 (0,0)),(r3,.cells (bif S 8 then #[.int .i64 (vAt l k:Nat),.int .i64 (q:Nat)] else #[.int .i64 0,.int .i64 0]) 57 (0,0)),(r2,.cells (fnA 4 (inF (fun _=>0))) 128 (0,0))]) rfl (by kernel_rfl) hm.drew ?_;clear hm;(conv=>whnf);refine StepI.of (.agg (fnA 4 (inF fun _=>0))) (fun S wd hk hp hI=>?_) ?_
   ·(conv=>whnf);refine LoadA.mem hI (i:=2) rfl (by simp [qg];rfl) ?_;(conv=>whnf);exact ⟨rfl,hI⟩
   (conv=>whnf);refine zI ?_;(conv=>whnf);refine zI ?_;(conv=>whnf);refine zI ?_;(conv=>whnf);refine zI ?_;(conv=>whnf);refine StepI.of (.int .i64 (q:Nat)) (fun S wd hk hp hI=>?_) ?_
   ·(conv=>whnf);refine zR hI 1 ?_;(conv=>whnf);exact ⟨rfl,hI⟩
   (conv=>whnf);refine zI ?_;(conv=>whnf);refine StepI.of undef (fun S wd hk hp hI=>?_) ?_
   ·(conv=>whnf);refine StoreA.all hI (i:=4) rfl (by simp [qg]) (qar 4 _) ?_;intro wx hmx;(conv=>whnf);exact ⟨rfl,hmx⟩
   (conv=>whnf);refine StepI.of undef (fun S wd hk hp hI=>?_) ?_
   ·dsimp only at hI;rw [hk] at hI;(conv=>whnf);refine zS hI 3 ?_;intro wx hmx;(conv=>whnf);exact ⟨rfl,hmx⟩
   (conv=>whnf);intro wz hm;have hm:Mem w wz [(pb,.cells (fnA 3 (inF (Q))) 124 (0,0)),(cb,curO 279 (.slice A l.length c) (vAt l k) q),(sb,.cells (fnA 4 (inF (fun _:Nat=>(0:Int)))) 128 (0,0)),(r3,.cells #[.int .i64 (vAt l k:Nat),.int .i64 (q:Nat)] 57 (0,0)),(r2,.cells (fnA 4 (inF (fun _=>0))) 128 (0,0))]:=hm;(conv=>whnf);refine qa (R:=fun r w'=>SpR l r∧Ext w w') ?_;(conv=>whnf);refine LoadA.mem hm (i:=4) rfl (by simp [qg];rfl) ?_;(conv=>whnf);refine zL hm 3 ?_;(conv=>whnf);exact ⟨.inl ⟨by rw [hE];exact he,fun _=>0,by rw [hE];rfl⟩,hm.ext⟩
  rw [qhz he,qh0 he] at hu;rw [qhy he];have hm:Mem w w7 [(pb,.cells (fnA 3 (inF (Q))) 124 (0,0)),(cb,curO 279 (.slice A l.length c) (vAt l (k+1)) 0),(sb,.cells (fnA 4 (inF (fun _:Nat=>(0:Int)))) 128 (0,0)),(r3,.cells #[.int .i64 0,.int .i64 0] 57 (0,0)),(r2,.cells (fnA 4 (inF (fun _=>0))) 128 (0,0))]:=hm.upd (i:=1) rfl hu;(conv=>whnf);refine zR hm 1 ?_;conv=>whnf
  (repeat' (first|((with_reducible refine zC (fun _=>?_) (fun _=>?_))<;>first|(exfalso;omega)|(conv=>whnf))|(refine Wit.conv ⟨by omega,by omega⟩ ?_;(conv=>whnf))|((with_reducible refine zX ?_);(conv=>whnf))))
  ·have hf:vsF l k=(vAt l k,2):=by rw [vsF,qcj he (by omega)]
   have hE:sE l=(vAt l k,2):=by rw [qpv hz (by omega) (by rw [hf];simp),hf]
   refine LoadA.mem hm (i:=2) rfl (by simp [qg];rfl) ?_;(conv=>whnf);refine StoreA.all hm (i:=4) rfl (by simp [qg]) (qar 4 fun _=>0) ?_;intro wa hm;(conv=>whnf);refine zS hm 3 ?_;intro wb hm;have hm:Mem w wb [(pb,.cells (fnA 3 (inF (Q))) 124 (0,0)),(cb,curO 279 (.slice A l.length c) (vAt l (k+1)) 0),(sb,.cells (fnA 4 (inF (fun _:Nat=>(0:Int)))) 128 (0,0)),(r3,.cells #[.int .i64 (vAt l k:Nat),.int .i64 2] 57 (0,0)),(r2,.cells (fnA 4 (inF (fun _=>0))) 128 (0,0))]:=hm;(conv=>whnf);refine qa (R:=fun r w'=>SpR l r∧Ext w w') ?_;(conv=>whnf);refine LoadA.mem hm (i:=4) rfl (by simp [qg];rfl) ?_;(conv=>whnf);refine zL hm 3 ?_;(conv=>whnf);exact ⟨.inl ⟨by rw [hE];simp,fun _=>0,by rw [hE];rfl⟩,hm.ext⟩
  have hf:(vsF l k).2=0:=by rw [vsF,qbu he (by omega)]
  refine StoreV.fi (x:=((vNum l k:Nat):Int)) hm (i:=0) rfl k (by rw [show tsz Tryz.prog 3=1 from by kernel_rfl];omega) (by omega) ?_;intro w8 hm;have hm:Mem w w8 [(pb,.cells (fnA 3 (inF (updI Q k (vNum l k:Nat)))) 124 (0,0)),(cb,curO 279 (.slice A l.length c) (vAt l (k+1)) 0),(sb,.cells (fnA 4 (inF (fun _:Nat=>(0:Int)))) 128 (0,0)),(r3,.cells #[.int .i64 0,.int .i64 0] 57 (0,0)),(r2,.cells (fnA 4 (inF (fun _=>0))) 128 (0,0))]:=hm;(conv=>whnf);refine zA ?_;(conv=>whnf);refine ⟨(k+1,updI Q k (vNum l k:Nat)),⟨rfl,rfl,rfl,rfl,rfl,rfl,rfl,trivial⟩,⟨by simp only;omega,fun j hj=>?_,fun j hj=>?_,hm⟩,by simp only;omega⟩
  ·by_cases e:j=k
   ·subst e;exact hf
   ·exact hz j (by simp only at hj;omega)
  ·simp only at hj ⊢
   by_cases e:j=k
   ·subst e;exact qbk _ _ _
   ·rw [qae _ _ _ _ e];exact hQ j (by omega)
 obtain rfl:k=3:=by omega
 have hno:¬ (errF (vsF l) 3).2≠0:=by
  have:=qap hz;omega
 have hvb:∀ j,j<3→vNum l j≤67108864:=fun j hj=>qb4 (hz j hj)
 refine zR hm 1 ?_;(conv=>whnf);refine zJ 0 ?_;(conv=>whnf);refine StoreV.fi (x:=((vAt l 3:Nat):Int)) hm (i:=2) rfl 0 (by rw [show tsz Tryz.prog 3=1 from by kernel_rfl]) (by omega) ?_;intro w7 hm;have hm:Mem w w7 [(pb,.cells (fnA 3 (inF (Q))) 124 (0,0)),(cb,curO 279 (.slice A l.length c) (vAt l 3) 0),(sb,.cells (fnA 4 (inF (updI (fun _=>0) 0 (vAt l 3:Nat)))) 128 (0,0)),(r3,.cells #[.int .i64 0,.int .i64 0] 57 (0,0)),(r2,.cells (fnA 4 (inF (fun _=>0))) 128 (0,0))]:=hm;(conv=>whnf);refine qm (fun x:Nat × (Nat→Int)=>[(0,.slice A l.length c),(2,.pointer (some ⟨r2,0,none⟩)),(3,.pointer (some ⟨r3,0,none⟩)),(4,.pointer (some ⟨sb,0,none⟩)),(6,.pointer (some ⟨pb,0,none⟩)),(10,.int .i64 x.1)])
  (fun x w'=>x.1≤3∧(∀ j,j≤x.1→x.2 j=((qi l j:Nat):Int))∧qi l x.1≤l.length+67108864*x.1∧Mem w w' [(pb,.cells (fnA 3 (inF (Q))) 124 (0,0)),(cb,curO 279 (.slice A l.length c) (vAt l 3) 0),(sb,.cells (fnA 4 (inF (x.2))) 128 (0,0)),(r3,.cells #[.int .i64 0,.int .i64 0] 57 (0,0)),(r2,.cells (fnA 4 (inF (fun _=>0))) 128 (0,0))]) (fun x=>3-x.1) (0,updI (fun _=>0) 0 (vAt l 3:Nat))
  ⟨rfl,rfl,rfl,rfl,rfl,rfl,trivial⟩ ⟨by simp,fun j h=>by obtain rfl:j=0:=(by simpa using h);exact (qbk (fun _=>0) 0 ((vAt l 3:Nat):Int)),(by have hq:qi l 0≤l.length:=hle;simpa using hq),hm⟩ ?_
 clear hm;rintro ⟨k,P⟩ w8 ρ2 ⟨k2,hP,hpl,hm⟩;dsimp only at k2 hP hpl hm ⊢;conv=>whnf
 (repeat' (first|((with_reducible refine zC (fun _=>?_) (fun _=>?_))<;>first|(exfalso;omega)|(conv=>whnf))|(refine zJ 3 ?_;(conv=>whnf))))
 ·have hpk:=hP k (Nat.le_refl _);have hqk:=hQ k (by omega);have hvk:=hvb k (by omega);have hsp:qi l (k+1)=qi l k+vNum l k:=rfl;obtain ⟨y,ey⟩:∃ y,y=qi l k:=⟨_,rfl⟩
  obtain ⟨z,ez⟩:∃ z,z=vNum l k:=⟨_,rfl⟩
  rw [← ey] at hpk hpl hsp;rw [← ez] at hqk hvk hsp;refine DrawV.own rfl (by kernel_rfl) ?_;(conv=>whnf);refine zO ?_;(conv=>whnf);refine zO ?_ (by intro wd hd;(conv=>whnf);(refine zA ?_;(conv=>whnf));exact PostO.still (Ext.refl _) rfl);(conv=>whnf);refine zO ?_;(conv=>whnf);apply StepO.still
  ·intro wd hd;(conv=>whnf);refine IdxV.at_ (k) (by omega) (by omega) ?_;(conv=>whnf);exact PostO.still (Ext.refl _) rfl
  (conv=>whnf);apply StepO.still
  ·intro wd hd;(conv=>whnf);refine LoadV.fi (x:=((y:Nat):Int)) (Mem.call (Mem.drew hm) hd) (i:=2) rfl (k) (by rw [show tsz Tryz.prog 3=1 from by kernel_rfl];omega) (by omega) hpk ?_;(conv=>whnf);exact PostO.still (Ext.refl _) rfl
  (conv=>whnf);refine zO ?_;(conv=>whnf);apply StepO.still
  ·intro wd hd;(conv=>whnf);refine IdxV.at_ (k) (by omega) (by omega) ?_;(conv=>whnf);exact PostO.still (Ext.refl _) rfl
  (conv=>whnf);apply StepO.still
  ·intro wd hd;(conv=>whnf);refine LoadV.fi (x:=((z:Nat):Int)) (Mem.call (Mem.drew hm) hd) (i:=0) rfl (k) (by rw [show tsz Tryz.prog 3=1 from by kernel_rfl];omega) (by omega) hqk ?_;(conv=>whnf);exact PostO.still (Ext.refl _) rfl
  (conv=>whnf);refine zO ?_ (by intro wd hd;(conv=>whnf);(refine zA ?_;(conv=>whnf));exact PostO.still (Ext.refl _) rfl);(conv=>whnf);apply StepO.still
  ·intro wd hd;(conv=>whnf);refine IdxV.at_ (k+1) (by omega) (by omega) ?_;(conv=>whnf);exact PostO.still (Ext.refl _) rfl
  (conv=>whnf);intro w9 hd9
  (repeat (intro _;(conv=>whnf)))
  (conv=>whnf);refine StoreV.fi (x:=((y:Nat):Int)+((z:Nat):Int)) (hm.drew.call hd9) (i:=2) rfl (k+1) (by rw [show tsz Tryz.prog 3=1 from by kernel_rfl];omega) (by omega) ?_;clear hm;intro w10 hm;have hm:Mem w w10 [(pb,.cells (fnA 3 (inF (Q))) 124 (0,0)),(cb,curO 279 (.slice A l.length c) (vAt l 3) 0),(sb,.cells (fnA 4 (inF (updI P (k+1) (((y:Nat):Int)+((z:Nat):Int))))) 128 (0,0)),(r3,.cells #[.int .i64 0,.int .i64 0] 57 (0,0)),(r2,.cells (fnA 4 (inF (fun _=>0))) 128 (0,0))]:=hm;(conv=>whnf);refine zA ?_;(conv=>whnf);refine ⟨(k+1,updI P (k+1) (((y:Nat):Int)+((z:Nat):Int))),⟨rfl,rfl,rfl,rfl,rfl,rfl,trivial⟩,⟨by simp only;omega,fun j hj=>?_,by simp only;omega,hm⟩,by simp only;omega⟩;simp only at hj ⊢
  by_cases e:j=k+1
  ·subst e;rw [qbk,hsp];omega
  ·rw [qae _ _ _ _ e];exact hP j (by omega)
 obtain rfl:k=3:=by omega
 refine LoadV.fi (x:=((qi l 3:Nat):Int)) hm (i:=2) rfl 3 (by rw [show tsz Tryz.prog 3=1 from by kernel_rfl]) (by omega) (hP 3 (by omega)) ?_;conv=>whnf
 (repeat' (first|((with_reducible refine zC (fun _=>?_) (fun _=>?_))<;>first|(exfalso;omega)|(conv=>whnf))|(refine zJ 3 ?_;(conv=>whnf))))
 ·have hE:sE l=(l.length,10):=by rw [sE,if_neg hno,if_pos (by omega)]
  refine LoadA.mem hm (i:=2) rfl (by simp [qg];rfl) ?_;(conv=>whnf);refine StoreA.all hm (i:=4) rfl (by simp [qg]) (qar 4 P) ?_;intro wa hm;(conv=>whnf);refine zS hm 3 ?_;intro wb hm;have hm:Mem w wb [(pb,.cells (fnA 3 (inF (Q))) 124 (0,0)),(cb,curO 279 (.slice A l.length c) (vAt l 3) 0),(sb,.cells (fnA 4 (inF (P))) 128 (0,0)),(r3,.cells #[.int .i64 (l.length:Nat),.int .i64 10] 57 (0,0)),(r2,.cells (fnA 4 (inF (P))) 128 (0,0))]:=hm;(conv=>whnf);refine qa (R:=fun r w'=>SpR l r∧Ext w w') ?_;(conv=>whnf);refine LoadA.mem hm (i:=4) rfl (by simp [qg];rfl) ?_;(conv=>whnf);refine zL hm 3 ?_;(conv=>whnf);exact ⟨.inl ⟨by rw [hE];simp,P,by rw [hE];rfl⟩,hm.ext⟩
 refine LoadV.fi (x:=((qi l 3:Nat):Int)) hm (i:=2) rfl 3 (by rw [show tsz Tryz.prog 3=1 from by kernel_rfl]) (by omega) (hP 3 (by omega)) ?_;(conv=>whnf);refine zC (fun _=>?_) (fun _=>?_)<;>(conv=>whnf)
 ·have hE:sE l=(qi l 3,13):=by rw [sE,if_neg hno,if_neg (by omega),if_pos (by omega)]
  refine DrawV.inv (fun S w'=>Mem w w' [(pb,.cells (fnA 3 (inF (Q))) 124 (0,0)),(cb,curO 279 (.slice A l.length c) (vAt l 3) 0),(sb,.cells (fnA 4 (inF (P))) 128 (0,0)),(r3,.cells (bif S 5 then #[.int .i64 (qi l 3:Nat),.int .i64 13] else #[.int .i64 0,.int .i64 0]) 57 (0,0)),(r2,.cells (bif S 4 then fnA 4 (inF P) else fnA 4 (inF fun _=>0)) 128 (0,0))]) rfl (by kernel_rfl) hm.drew ?_;clear hm;(conv=>whnf);refine StepI.of (.agg (fnA 4 (inF P))) (fun S wd hk hp hI=>?_) ?_
  ·(conv=>whnf);refine LoadA.mem hI (i:=2) rfl (by simp [qg];rfl) ?_;(conv=>whnf);exact ⟨rfl,hI⟩
  (conv=>whnf);refine zI ?_ (by intro S wd hk hp hI;(conv=>whnf);(refine zJ 3 ?_;(conv=>whnf));exact ⟨rfl,hI⟩);(conv=>whnf);refine StepI.of (.int .i64 (qi l 3:Nat)) (fun S wd hk hp hI=>?_) ?_
  ·(conv=>whnf);refine LoadV.fi (x:=((qi l 3:Nat):Int)) hI (i:=2) rfl 3 (by rw [show tsz Tryz.prog 3=1 from by kernel_rfl]) (by omega) (hP 3 (by omega)) ?_;(conv=>whnf);exact ⟨rfl,hI⟩
  (conv=>whnf);refine zI ?_;(conv=>whnf);refine StepI.of undef (fun S wd hk hp hI=>?_) ?_
  ·dsimp only at hI;rw [hk] at hI;(conv=>whnf);refine StoreA.all hI (i:=4) rfl (by simp [qg]) (qar 4 P) ?_;intro wx hmx;(conv=>whnf);exact ⟨rfl,hmx⟩
  (conv=>whnf);refine StepI.of undef (fun S wd hk hp hI=>?_) ?_
  ·dsimp only at hI;rw [hk] at hI;(conv=>whnf);refine zS hI 3 ?_;intro wx hmx;(conv=>whnf);exact ⟨rfl,hmx⟩
  (conv=>whnf);intro wz hm;have hm:Mem w wz [(pb,.cells (fnA 3 (inF (Q))) 124 (0,0)),(cb,curO 279 (.slice A l.length c) (vAt l 3) 0),(sb,.cells (fnA 4 (inF (P))) 128 (0,0)),(r3,.cells #[.int .i64 (qi l 3:Nat),.int .i64 13] 57 (0,0)),(r2,.cells (fnA 4 (inF (P))) 128 (0,0))]:=hm;(conv=>whnf);refine qa (R:=fun r w'=>SpR l r∧Ext w w') ?_;(conv=>whnf);refine LoadA.mem hm (i:=4) rfl (by simp [qg];rfl) ?_;(conv=>whnf);refine zL hm 3 ?_;(conv=>whnf);exact ⟨.inl ⟨by rw [hE];simp,P,by rw [hE];rfl⟩,hm.ext⟩
 have hE:sE l=(0,0):=by rw [sE,if_neg hno,if_neg (by omega),if_neg (by omega)]
 refine LoadA.mem hm (i:=2) rfl (by simp [qg];rfl) ?_;(conv=>whnf);refine StoreA.all hm (i:=4) rfl (by simp [qg]) (qar 4 P) ?_;intro wa hm;(conv=>whnf);refine zS hm 3 ?_;intro wb hm;have hm:Mem w wb [(pb,.cells (fnA 3 (inF (Q))) 124 (0,0)),(cb,curO 279 (.slice A l.length c) (vAt l 3) 0),(sb,.cells (fnA 4 (inF (P))) 128 (0,0)),(r3,.cells #[.int .i64 0,.int .i64 0] 57 (0,0)),(r2,.cells (fnA 4 (inF (P))) 128 (0,0))]:=hm;(conv=>whnf);refine qa (R:=fun r w'=>SpR l r∧Ext w w') ?_;(conv=>whnf);refine LoadA.mem hm (i:=4) rfl (by simp [qg];rfl) ?_;(conv=>whnf);refine zL hm 3 ?_;(conv=>whnf);exact ⟨.inr ⟨by rw [hE],P,fun k hk=>hP k hk,rfl⟩,hm.ext⟩
open Go.RowKit V
set_option maxRecDepth 100000
structure Al (w0:World) (L:List (Nat × Obj)) (o1 o1' o2 o2':Obj) (s1 s2 t1 t2:Bool) (v1 v2:Value) (w:World):Prop where
 h:∃ b1 b2:Nat,(s1=true→v1=.pointer (some ⟨b1,0,none⟩))∧(s2=true→v2=.pointer (some ⟨b2,0,none⟩))∧(s1=false→t1=false)∧(s2=false→t2=false)∧
  Mem w0 w ((bif s1 then [(b1,bif t1 then o1' else o1)] else [])++((bif s2 then [(b2,bif t2 then o2' else o2)] else [])++L))
section
variable {w0 w w':World} {L:List (Nat × Obj)} {o1 o1' o2 o2':Obj} {s1 s2 t1 t2:Bool} {v1 v2:Value}
theorem Al.start (h:Mem w0 w L):Al w0 L o1 o1' o2 o2' false false false false v1 v2 w:=⟨0,0,fun h=>(by cases h),fun h=>(by cases h),fun _=>rfl,fun _=>rfl,h⟩
theorem Al.call (h:Al w0 L o1 o1' o2 o2' s1 s2 t1 t2 v1 v2 w) (he:Ext w w'):Al w0 L o1 o1' o2 o2' s1 s2 t1 t2 v1 v2 w':=by
 obtain ⟨b1,b2,h1,h2,h3,h4,h5⟩:=h;exact ⟨b1,b2,h1,h2,h3,h4,h5.call he⟩
theorem Al.mem (h:Al w0 L o1 o1' o2 o2' s1 s2 t1 t2 v1 v2 w):Mem w0 w L:=by
 obtain ⟨b1,b2,h1,h2,h3,h4,h5⟩:=h;exact h5.sub ((List.sublist_append_right _ _).trans (List.sublist_append_right _ _))
theorem Al.new1 (h:Al w0 L o1 o1' o2 o2' false s2 t1 t2 v1 v2 w):Al w0 L o1 o1' o2 o2' true s2 t1 t2 (.pointer (some ⟨w.heap.size,0,none⟩)) v2 (w.alloc o1):=by
 obtain ⟨b1,b2,h1,h2,h3,h4,h5⟩:=h;refine ⟨w.heap.size,b2,fun _=>rfl,h2,fun h=>(by cases h),h4,?_⟩;rw [h3 rfl];exact h5.new rfl rfl
theorem Al.new2 (h:Al w0 L o1 o1' o2 o2' s1 false t1 t2 v1 v2 w):Al w0 L o1 o1' o2 o2' s1 true t1 t2 v1 (.pointer (some ⟨w.heap.size,0,none⟩)) (w.alloc o2):=by
 obtain ⟨b1,b2,h1,h2,h3,h4,h5⟩:=h;refine ⟨b1,w.heap.size,h1,fun _=>rfl,h3,fun h=>(by cases h),?_⟩;rw [h4 rfl];have hn:Mem w0 (w.alloc o2) ((w.heap.size,o2)::((bif s1 then [(b1,bif t1 then o1' else o1)] else [])++L)):=h5.new rfl rfl;exact hn.perm (List.perm_append_comm.trans (List.Perm.cons _ List.perm_append_comm))
theorem Al.put1 (h:Al w0 L o1 o1' o2 o2' true s2 false t2 v1 v2 w):∃ b,v1=.pointer (some ⟨b,0,none⟩)∧∃ M,Mem w0 w ((b,o1)::M)∧∀ {w' u1},Mem w0 w' ((b,o1')::M)→u1=.pointer (some ⟨b,0,none⟩)→Al w0 L o1 o1' o2 o2' true s2 true t2 u1 v2 w':=by
 obtain ⟨b1,b2,h1,h2,h3,h4,h5⟩:=h;exact ⟨b1,h1 rfl,_,h5,fun hm hu=>⟨b1,b2,fun _=>hu,h2,fun h=>(by cases h),h4,hm⟩⟩
theorem Al.put2 (h:Al w0 L o1 o1' o2 o2' s1 true t1 false v1 v2 w):∃ b,v2=.pointer (some ⟨b,0,none⟩)∧∃ M,Mem w0 w ((b,o2)::M)∧∀ {w' u2},Mem w0 w' ((b,o2')::M)→u2=.pointer (some ⟨b,0,none⟩)→Al w0 L o1 o1' o2 o2' s1 true t1 true v1 u2 w':=by
 obtain ⟨b1,b2,h1,h2,h3,h4,h5⟩:=h;refine ⟨b2,h2 rfl,(bif s1 then [(b1,bif t1 then o1' else o1)] else [])++L,h5.perm List.perm_middle.symm,fun hm hu=>⟨b1,b2,h1,fun _=>hu,h3,fun h=>(by cases h),hm.perm List.perm_middle⟩⟩
theorem Al.done2 (h:Al w0 L o1 o1' o2 o2' true true true true v1 v2 w):∃ b1 b2,v1=.pointer (some ⟨b1,0,none⟩)∧v2=.pointer (some ⟨b2,0,none⟩)∧Mem w0 w ((b1,o1')::(b2,o2')::L):=by
 obtain ⟨b1,b2,h1,h2,h3,h4,h5⟩:=h;exact ⟨b1,b2,h1 rfl,h2 rfl,h5⟩
theorem Al.done1 (h:Al w0 L o1 o1' o2 o2' true false true t2 v1 v2 w):∃ b1,v1=.pointer (some ⟨b1,0,none⟩)∧Mem w0 w ((b1,o1')::L):=by
 obtain ⟨b1,b2,h1,h2,h3,h4,h5⟩:=h;exact ⟨b1,h1 rfl,h5⟩
end
theorem LoadV.fim {w0 w:World} {L:List (Nat × Obj)} {b off n:Nat} {F:Nat→Int} {t:TypeId} {x:Int} {K:Value→Prop} (h:Mem w0 w L) (hi:(b,Obj.cells (fnA n (inF F)) t (0,0))∈L) (j:Nat) (e:off=j) (hj:j<n) (hv:F j=x) (hk:K (.int .i64 x)):LoadV w b off K:=by
 obtain ⟨i,hi⟩:=List.getElem?_of_mem hi;exact LoadV.fi h hi j e hj hv hk
open Go.RowKit V
set_option maxRecDepth 100000
def VwR (l:List UInt8) (r:Value):Prop:=
 ((wE l).2≠0∧∃ G:Nat→Int,r=.tuple #[.agg (fnA 3 (inF G)),fltV (wE l).1 (wE l).2])∨
 ((wE l).2=0∧∃ G:Nat→Int,(∀ k,k<3→G k=((dN (qn l k):Nat):Int))∧r=.tuple #[.agg (fnA 3 (inF G)),fltV 0 0])
theorem qpu {l:List UInt8} (h:(sE l).2=0):(∀ k,k<3→vNum l k≤67108864)∧qi l 3=l.length:=by
 unfold sE at h
 split at h
 ·rename_i h0;exact absurd h h0
 rename_i h0
 split at h
 ·cases h
 rename_i g1
 split at h
 ·cases h
 rename_i g2
 exact ⟨fun k hk=>qb4 (qcd (f:=vsF l) (n:=3) (by omega) k hk),by omega⟩
theorem qc6 {l:List UInt8} (h:qi l 3=l.length) {k:Nat} (hk:k<3):qi l k+vNum l k≤l.length:=by
 have e1:qi l 1=qi l 0+vNum l 0:=rfl;have e2:qi l 2=qi l 1+vNum l 1:=rfl;have e3:qi l 3=qi l 2+vNum l 2:=rfl
 rcases (show k=0∨k=1∨k=2 by omega) with rfl|rfl|rfl<;>omega
theorem qiu {l:List UInt8} (h:qi l 3=l.length) {k:Nat} (hk:k<3):(qn l k).length=vNum l k:=by
 have:=qc6 h hk;rw [qn,List.length_take,List.length_drop];omega
set_option maxHeartbeats 4000000 in
theorem qoq (l:List UInt8) (A:Option Addr) (c:Nat) (w:World) (hS:SlAt encB 1 w A l) (hc:l.length≤c) (hl:l.length≤70368744177664) :
  Gv Tryz.prog 57 [.slice A l.length c] w fun r w'=>VwR l r∧Ext w w':=by
 refine zE Tryz.func57 Tryz.ntmps57 ?_;(conv=>whnf);refine NewV.mem (Mem.nil w) ?_;intro r2 w1 hm;(conv=>whnf);refine NewV.mem hm ?_;intro r3 w2 hm;(conv=>whnf);refine NewV.mem hm ?_;intro nb w3 hm;(conv=>whnf);refine CallV.of (qiz l A c w3 (hS.ext hm.ext) hc hl) ?_;rintro r w4 ⟨⟨hE,P,rfl⟩|⟨hE,P,hP,rfl⟩,he4⟩
 all_goals
  have hm:=hm.call he4;(conv=>whnf);refine NewV.mem hm ?_;intro sb w5 hm;(conv=>whnf);refine NewV.mem hm ?_;intro fb w6 hm;(conv=>whnf);refine StoreA.all hm (i:=1) rfl (by simp [qg]) (qar 4 P) ?_;intro w7 hm;(conv=>whnf);refine zS hm 0 ?_;intro w8 hm;(conv=>whnf);refine zR hm 0 ?_;conv=>whnf
  (repeat' ((with_reducible refine zC (fun _=>?_) (fun _=>?_))<;>first|(exfalso;omega)|(conv=>whnf)))
 ·have hW:wE l=sE l:=by rw [wE,if_pos hE]
  refine DrawV.inv (fun S w'=>Mem w w' [(fb,.cells #[.int .i64 (sE l).1,.int .i64 (sE l).2] 57 (0,0)),(sb,.cells (fnA 4 (inF P)) 128 (0,0)),(nb,.cells (fnA 3 (inF (fun _:Nat=>(0:Int)))) 124 (0,0)),(r3,.cells (bif S 3 then #[.int .i64 (sE l).1,.int .i64 (sE l).2] else #[.int .i64 0,.int .i64 0]) 57 (0,0)),(r2,.cells (fnA 3 (inF (fun _:Nat=>(0:Int)))) 124 (0,0))]) rfl (by kernel_rfl) hm.drew ?_;clear hm;(conv=>whnf);refine StepI.of (.agg (fnA 3 (inF fun _=>0))) (fun S wd hk hp hI=>?_) ?_
  ·(conv=>whnf);refine LoadA.mem hI (i:=2) rfl (by simp [qg];rfl) ?_;(conv=>whnf);exact ⟨rfl,hI⟩
  (conv=>whnf);refine StepI.of (.agg #[.int .i64 (sE l).1,.int .i64 (sE l).2]) (fun S wd hk hp hI=>?_) ?_
  ·(conv=>whnf);refine zL hI 0 ?_;(conv=>whnf);exact ⟨rfl,hI⟩
  (conv=>whnf);refine StepI.of undef (fun S wd hk hp hI=>?_) ?_
  ·(conv=>whnf);refine StoreA.all hI (i:=4) rfl (by simp [qg]) (qar 3 fun _=>0) ?_;intro wx hmx;(conv=>whnf);exact ⟨rfl,hmx⟩
  (conv=>whnf);refine StepI.of undef (fun S wd hk hp hI=>?_) ?_
  ·dsimp only at hI;rw [hk] at hI;(conv=>whnf);refine zS hI 3 ?_;intro wx hmx;(conv=>whnf);exact ⟨rfl,hmx⟩
  (conv=>whnf);intro wz hm;have hm:Mem w wz [(fb,.cells #[.int .i64 (sE l).1,.int .i64 (sE l).2] 57 (0,0)),(sb,.cells (fnA 4 (inF P)) 128 (0,0)),(nb,.cells (fnA 3 (inF (fun _:Nat=>(0:Int)))) 124 (0,0)),(r3,.cells #[.int .i64 (sE l).1,.int .i64 (sE l).2] 57 (0,0)),(r2,.cells (fnA 3 (inF (fun _:Nat=>(0:Int)))) 124 (0,0))]:=hm;(conv=>whnf);refine qa (R:=fun r w'=>VwR l r∧Ext w w') ?_;(conv=>whnf);refine LoadA.mem hm (i:=4) rfl (by simp [qg];rfl) ?_;(conv=>whnf);refine zL hm 3 ?_;(conv=>whnf);exact ⟨.inl ⟨by rw [hW];exact hE,fun _=>0,by rw [hW];rfl⟩,hm.ext⟩
 have hm:Mem w w8 [(fb,.cells #[.int .i64 0,.int .i64 0] 57 (0,0)),(sb,.cells (fnA 4 (inF P)) 128 (0,0)),(nb,.cells (fnA 3 (inF (fun _:Nat=>(0:Int)))) 124 (0,0)),(r3,.cells #[.int .i64 0,.int .i64 0] 57 (0,0)),(r2,.cells (fnA 3 (inF (fun _:Nat=>(0:Int)))) 124 (0,0))]:=hm;obtain ⟨hvb,hpl⟩:=qpu hE;have hW:wE l=errF (sdF l) 3:=by rw [wE,if_neg (by omega)]
 refine qm (fun x:Nat × (Nat→Int)=>[(0,.slice A l.length c),(2,.pointer (some ⟨r2,0,none⟩)),(3,.pointer (some ⟨r3,0,none⟩)),(4,.pointer (some ⟨nb,0,none⟩)),(5,.pointer (some ⟨sb,0,none⟩)),(6,.pointer (some ⟨fb,0,none⟩)),(7,.int .i64 x.1)])
  (fun x w'=>x.1≤3∧(∀ j,j<x.1→(sdF l j).2=0)∧(∀ j,j<x.1→x.2 j=((dN (qn l j):Nat):Int))∧Mem w w' [(fb,.cells #[.int .i64 0,.int .i64 0] 57 (0,0)),(sb,.cells (fnA 4 (inF P)) 128 (0,0)),(nb,.cells (fnA 3 (inF (x.2))) 124 (0,0)),(r3,.cells #[.int .i64 0,.int .i64 0] 57 (0,0)),(r2,.cells (fnA 3 (inF (fun _:Nat=>(0:Int)))) 124 (0,0))]) (fun x=>3-x.1) (0,fun _=>0)
  ⟨rfl,rfl,rfl,rfl,rfl,rfl,rfl,trivial⟩ ⟨by simp,fun j h=>by simp at h,fun j h=>by simp at h,hm⟩ ?_
 clear hm;rintro ⟨k,N⟩ w9 ρ' ⟨k1,hz,hN,hm⟩;dsimp only at k1 hz hN hm ⊢;(conv=>whnf);refine zC (fun _=>?_) (fun _=>?_)<;>(conv=>whnf)
 ·have hPk:=hP k (by omega);have hPk1:=hP (k+1) (by omega);have hsp:qi l (k+1)=qi l k+vNum l k:=rfl;have hple:=qc6 hpl (k:=k) (by omega);have hdl:=qiu hpl (k:=k) (by omega);have hvk:=hvb k (by omega);obtain ⟨y,ey⟩:∃ y,y=qi l k:=⟨_,rfl⟩
  obtain ⟨z,ez⟩:∃ z,z=vNum l k:=⟨_,rfl⟩
  obtain ⟨B,eB⟩:∃ B,B=(if c=y then A else A.map (·.add (y*1))):=⟨_,rfl⟩
  have hB:SlAt encB 1 w B (qn l k):=by
   rw [eB,qn,← ey];have:=hS.cut (lo:=y) (hi:=y+z) (m:=c) (by omega) (by omega) (by omega) rfl
   rwa [show y+z-y=vNum l k by omega] at this
  rw [hsp,← ey,← ez] at hPk1;rw [← ey] at hPk hple;rw [← ez] at hple hvk;have hvw:=fun w' (hB':SlAt encB 1 w' B (qn l k))=>qnf (qn l k) B (c-y) w' hB' (by omega) (by omega)
  rw [hdl] at hvw
  by_cases hD:(dE (qn l k)).2=0
  ·have hvw:∀ w',SlAt encB 1 w' B (qn l k)→Gv Tryz.prog 108 [.slice B (vNum l k) (c-y)] w' fun r w''=>r=.tuple #[.agg #[.int .i64 (dN (qn l k):Nat),.int .i64 (qdw (qn l k):Nat),.int .i64 (qaj (qn l k):Nat),.int .i64 (qf (qn l k):Nat)],fltV 0 0]∧Ext w' w'':=fun w' hB'=>(hvw w' hB').mono fun r w'' ⟨h1,h2⟩=>⟨h1.elim (fun h=>absurd hD h.1) (fun h=>h.2),h2⟩
   refine DrawV.gen (fun S vals w'=>Al w [(fb,.cells #[.int .i64 0,.int .i64 0] 57 (0,0)),(sb,.cells (fnA 4 (inF P)) 128 (0,0)),(nb,.cells (fnA 3 (inF (N))) 124 (0,0)),(r3,.cells #[.int .i64 0,.int .i64 0] 57 (0,0)),(r2,.cells (fnA 3 (inF (fun _:Nat=>(0:Int)))) 124 (0,0))] (.cells #[.int .i64 0,.int .i64 0,.int .i64 0,.int .i64 0] 197 (0,0)) (.cells #[.int .i64 (dN (qn l k):Nat),.int .i64 (qdw (qn l k):Nat),.int .i64 (qaj (qn l k):Nat),.int .i64 (qf (qn l k):Nat)] 197 (0,0)) (.cells #[.int .i64 0,.int .i64 0] 198 (0,0)) (.cells #[.int .i64 0,.int .i64 0] 198 (0,0)) (S 13) (S 14) (S 15) (S 16) (vals 13) (vals 14) w') rfl (by kernel_rfl) (fun vals=>Al.start hm.drew) ?_;clear hm;(conv=>whnf);refine zG ?_;(conv=>whnf);refine zG ?_;(conv=>whnf);refine StepG.of (.pointer (some ⟨sb,0+(k)*tsz Tryz.prog 3,none⟩)) (fun S vals wd hk hp hI=>?_) ?_
   ·(conv=>whnf);refine IdxV.at_ (k) (by omega) (by omega) ?_;(conv=>whnf);exact ⟨rfl,hI⟩
   (conv=>whnf);refine StepG.of (.int .i64 (y:Nat)) (fun S vals wd hk hp hI=>?_) ?_
   ·(conv=>whnf);refine LoadV.fim (x:=((y:Nat):Int)) hI.mem (b:=sb) (F:=P) (n:=4) (t:=128) (by simp) (k) (by rw [show tsz Tryz.prog 3=1 from by kernel_rfl];omega) (by omega) hPk ?_;(conv=>whnf);exact ⟨rfl,hI⟩
   (conv=>whnf);refine zG ?_;(conv=>whnf);refine zG ?_ (by intro S vals wd hk hp hI;(conv=>whnf);(refine zA ?_;(conv=>whnf));exact ⟨rfl,hI⟩);(conv=>whnf);refine StepG.of (.pointer (some ⟨sb,0+(k+1)*tsz Tryz.prog 3,none⟩)) (fun S vals wd hk hp hI=>?_) ?_
   ·(conv=>whnf);refine IdxV.at_ (k+1) (by omega) (by omega) ?_;(conv=>whnf);exact ⟨rfl,hI⟩
   (conv=>whnf);refine StepG.of (.int .i64 (y+z:Nat)) (fun S vals wd hk hp hI=>?_) ?_
   ·(conv=>whnf);refine LoadV.fim (x:=((y+z:Nat):Int)) hI.mem (b:=sb) (F:=P) (n:=4) (t:=128) (by simp) (k+1) (by rw [show tsz Tryz.prog 3=1 from by kernel_rfl];omega) (by omega) hPk1 ?_;(conv=>whnf);exact ⟨rfl,hI⟩
   (conv=>whnf);refine StepG.of (.slice B (vNum l k) (c-y)) (fun S vals wd hk hp hI=>?_) ?_
   ·(conv=>whnf);refine SliceV.to y (y+z) c rfl rfl rfl (by omega) (by omega) (Nat.le_refl _) (fun h=>by cases h) ?_;rw [show tsz Tryz.prog 5=1 from by kernel_rfl,← eB,show y+z-y=vNum l k by omega];(conv=>whnf);exact ⟨rfl,hI⟩
   (conv=>whnf);refine StepG.of (.tuple #[.agg #[.int .i64 (dN (qn l k):Nat),.int .i64 (qdw (qn l k):Nat),.int .i64 (qaj (qn l k):Nat),.int .i64 (qf (qn l k):Nat)],fltV 0 0]) (fun S vals wd hk hp hI=>?_) ?_
   ·(conv=>whnf);refine CallV.of (hvw wd (hB.ext hI.mem.ext)) ?_;rintro v w9 ⟨rfl,h9⟩;exact ⟨rfl,hI.call h9⟩
   (conv=>whnf);refine zG ?_;(conv=>whnf);refine zG ?_;(conv=>whnf);refine zG ?_;(conv=>whnf);refine StepG.any (fun S vals wd hk hp hI=>?_) ?_
   ·dsimp only at hI;rw [hk] at hI;(conv=>whnf);refine ⟨fun x wx hb hw=>?_⟩;subst hb hw;(conv=>whnf);exact ⟨trivial,hI.new1⟩
   (conv=>whnf);refine StepG.any (fun S vals wd hk hp hI=>?_) ?_
   ·dsimp only at hI;rw [hk] at hI;(conv=>whnf);refine ⟨fun x wx hb hw=>?_⟩;subst hb hw;(conv=>whnf);exact ⟨trivial,hI.new2⟩
   (conv=>whnf);refine StepG.of undef (fun S vals wd hk hp hI=>?_) ?_
   ·dsimp only at hI;have h13:S 13=true:=hp 13 (by decide);rw [hk,h13] at hI;obtain ⟨b,hv,M,hmM,hK⟩:=hI.put1;rw [qh hv];(conv=>whnf);refine zS hmM 0 ?_;intro wx hmx;(conv=>whnf);exact ⟨rfl,by show Al _ _ _ _ _ _ (S 13) (S 14) true (S 16) _ _ _;rw [h13];exact hK hmx rfl⟩
   (conv=>whnf);refine StepG.of undef (fun S vals wd hk hp hI=>?_) ?_
   ·dsimp only at hI;have h14:S 14=true:=hp 14 (by decide);rw [hk,h14] at hI;obtain ⟨b,hv,M,hmM,hK⟩:=hI.put2;rw [qh hv];(conv=>whnf);refine zS hmM 0 ?_;intro wx hmx;(conv=>whnf);exact ⟨rfl,by show Al _ _ _ _ _ _ (S 13) (S 14) (S 15) true _ _ _;rw [h14];exact hK hmx rfl⟩
   (conv=>whnf);intro vals w12 hI;obtain ⟨t8,t9,hv1,hv2,hm⟩:=hI.done2;rw [qh hv1,qh hv2];have hm:Mem w w12 [(t8,.cells #[.int .i64 (dN (qn l k):Nat),.int .i64 (qdw (qn l k):Nat),.int .i64 (qaj (qn l k):Nat),.int .i64 (qf (qn l k):Nat)] 197 (0,0)),(t9,.cells #[.int .i64 0,.int .i64 0] 198 (0,0)),(fb,.cells #[.int .i64 0,.int .i64 0] 57 (0,0)),(sb,.cells (fnA 4 (inF P)) 128 (0,0)),(nb,.cells (fnA 3 (inF (N))) 124 (0,0)),(r3,.cells #[.int .i64 0,.int .i64 0] 57 (0,0)),(r2,.cells (fnA 3 (inF (fun _:Nat=>(0:Int)))) 124 (0,0))]:=hm;(conv=>whnf);refine zR hm 1 ?_;(conv=>whnf);refine zN (fun _=>?_);(conv=>whnf);refine zR hm 0 ?_;(conv=>whnf);refine zX ?_;(conv=>whnf);refine StoreV.fi (x:=((dN (qn l k):Nat):Int)) hm (i:=4) rfl k (by rw [show tsz Tryz.prog 3=1 from by kernel_rfl];omega) (by omega) ?_;intro w13 hm;have hm:=(hm.sub (List.sublist_cons_self ..)).sub (List.sublist_cons_self ..);have hm:Mem w w13 [(fb,.cells #[.int .i64 0,.int .i64 0] 57 (0,0)),(sb,.cells (fnA 4 (inF P)) 128 (0,0)),(nb,.cells (fnA 3 (inF (updI N k (dN (qn l k):Nat)))) 124 (0,0)),(r3,.cells #[.int .i64 0,.int .i64 0] 57 (0,0)),(r2,.cells (fnA 3 (inF (fun _:Nat=>(0:Int)))) 124 (0,0))]:=hm;(conv=>whnf);refine zA ?_;(conv=>whnf);refine ⟨(k+1,updI N k (dN (qn l k):Nat)),⟨rfl,rfl,rfl,rfl,rfl,rfl,rfl,trivial⟩,⟨by simp only;omega,fun j hj=>?_,fun j hj=>?_,hm⟩,by simp only;omega⟩
   ·by_cases e:j=k
    ·subst e;rw [sdF,if_pos hD]
    ·exact hz j (by simp only at hj;omega)
   ·simp only at hj ⊢
    by_cases e:j=k
    ·subst e;exact qbk _ _ _
    ·rw [qae _ _ _ _ e];exact hN j (by omega)
  ·have hvw:∀ w',SlAt encB 1 w' B (qn l k)→Gv Tryz.prog 108 [.slice B (vNum l k) (c-y)] w' fun r w''=>r=.tuple #[.agg #[.int .i64 0,.int .i64 0,.int .i64 0,.int .i64 0],fltV (dE (qn l k)).1 (dE (qn l k)).2]∧Ext w' w'':=fun w' hB'=>(hvw w' hB').mono fun r w'' ⟨h1,h2⟩=>⟨h1.elim (fun h=>h.2) (fun h=>absurd h.1 hD),h2⟩
   obtain ⟨d1,ed1⟩:∃ d1,d1=(dE (qn l k)).1:=⟨_,rfl⟩
   obtain ⟨d2,ed2⟩:∃ d2,d2=(dE (qn l k)).2:=⟨_,rfl⟩
   have hf:sdF l k=(y+d1,d2):=by rw [sdF,if_neg hD,ey,ed1,ed2]
   rw [← ed1,← ed2] at hvw;rw [← ed2] at hD;have hE3:wE l=(y+d1,d2):=by rw [hW,qan (f:=sdF l) hz (by omega) (by rw [hf];exact hD),hf]
   refine DrawV.gen (fun S vals w'=>Al w [(fb,.cells #[.int .i64 0,.int .i64 0] 57 (0,0)),(sb,.cells (fnA 4 (inF P)) 128 (0,0)),(nb,.cells (fnA 3 (inF (N))) 124 (0,0)),(r3,.cells #[.int .i64 0,.int .i64 0] 57 (0,0)),(r2,.cells (fnA 3 (inF (fun _:Nat=>(0:Int)))) 124 (0,0))] (.cells #[.int .i64 0,.int .i64 0,.int .i64 0,.int .i64 0] 197 (0,0)) (.cells #[.int .i64 0,.int .i64 0,.int .i64 0,.int .i64 0] 197 (0,0)) (.cells #[.int .i64 0,.int .i64 0] 198 (0,0)) (.cells #[.int .i64 (d1:Nat),.int .i64 (d2:Nat)] 198 (0,0)) (S 13) (S 14) (S 15) (S 16) (vals 13) (vals 14) w') rfl (by kernel_rfl) (fun vals=>Al.start hm.drew) ?_;clear hm;(conv=>whnf);refine zG ?_;(conv=>whnf);refine zG ?_;(conv=>whnf);refine StepG.of (.pointer (some ⟨sb,0+(k)*tsz Tryz.prog 3,none⟩)) (fun S vals wd hk hp hI=>?_) ?_
   ·(conv=>whnf);refine IdxV.at_ (k) (by omega) (by omega) ?_;(conv=>whnf);exact ⟨rfl,hI⟩
   (conv=>whnf);refine StepG.of (.int .i64 (y:Nat)) (fun S vals wd hk hp hI=>?_) ?_
   ·(conv=>whnf);refine LoadV.fim (x:=((y:Nat):Int)) hI.mem (b:=sb) (F:=P) (n:=4) (t:=128) (by simp) (k) (by rw [show tsz Tryz.prog 3=1 from by kernel_rfl];omega) (by omega) hPk ?_;(conv=>whnf);exact ⟨rfl,hI⟩
   (conv=>whnf);refine zG ?_;(conv=>whnf);refine zG ?_ (by intro S vals wd hk hp hI;(conv=>whnf);(refine zA ?_;(conv=>whnf));exact ⟨rfl,hI⟩);(conv=>whnf);refine StepG.of (.pointer (some ⟨sb,0+(k+1)*tsz Tryz.prog 3,none⟩)) (fun S vals wd hk hp hI=>?_) ?_
   ·(conv=>whnf);refine IdxV.at_ (k+1) (by omega) (by omega) ?_;(conv=>whnf);exact ⟨rfl,hI⟩
   (conv=>whnf);refine StepG.of (.int .i64 (y+z:Nat)) (fun S vals wd hk hp hI=>?_) ?_
   ·(conv=>whnf);refine LoadV.fim (x:=((y+z:Nat):Int)) hI.mem (b:=sb) (F:=P) (n:=4) (t:=128) (by simp) (k+1) (by rw [show tsz Tryz.prog 3=1 from by kernel_rfl];omega) (by omega) hPk1 ?_;(conv=>whnf);exact ⟨rfl,hI⟩
   (conv=>whnf);refine StepG.of (.slice B (vNum l k) (c-y)) (fun S vals wd hk hp hI=>?_) ?_
   ·(conv=>whnf);refine SliceV.to y (y+z) c rfl rfl rfl (by omega) (by omega) (Nat.le_refl _) (fun h=>by cases h) ?_;rw [show tsz Tryz.prog 5=1 from by kernel_rfl,← eB,show y+z-y=vNum l k by omega];(conv=>whnf);exact ⟨rfl,hI⟩
   (conv=>whnf);refine StepG.of (.tuple #[.agg #[.int .i64 0,.int .i64 0,.int .i64 0,.int .i64 0],fltV (d1:Nat) (d2:Nat)]) (fun S vals wd hk hp hI=>?_) ?_
   ·(conv=>whnf);refine CallV.of (hvw wd (hB.ext hI.mem.ext)) ?_;rintro v w9 ⟨rfl,h9⟩;exact ⟨rfl,hI.call h9⟩
   (conv=>whnf);refine zG ?_;(conv=>whnf);refine zG ?_;(conv=>whnf);refine zG ?_;(conv=>whnf);refine StepG.any (fun S vals wd hk hp hI=>?_) ?_
   ·dsimp only at hI;rw [hk] at hI;(conv=>whnf);refine ⟨fun x wx hb hw=>?_⟩;subst hb hw;(conv=>whnf);exact ⟨trivial,hI.new1⟩
   (conv=>whnf);refine StepG.any (fun S vals wd hk hp hI=>?_) ?_
   ·dsimp only at hI;rw [hk] at hI;(conv=>whnf);refine ⟨fun x wx hb hw=>?_⟩;subst hb hw;(conv=>whnf);exact ⟨trivial,hI.new2⟩
   (conv=>whnf);refine StepG.of undef (fun S vals wd hk hp hI=>?_) ?_
   ·dsimp only at hI;have h13:S 13=true:=hp 13 (by decide);rw [hk,h13] at hI;obtain ⟨b,hv,M,hmM,hK⟩:=hI.put1;rw [qh hv];(conv=>whnf);refine zS hmM 0 ?_;intro wx hmx;(conv=>whnf);exact ⟨rfl,by show Al _ _ _ _ _ _ (S 13) (S 14) true (S 16) _ _ _;rw [h13];exact hK hmx rfl⟩
   (conv=>whnf);refine StepG.of undef (fun S vals wd hk hp hI=>?_) ?_
   ·dsimp only at hI;have h14:S 14=true:=hp 14 (by decide);rw [hk,h14] at hI;obtain ⟨b,hv,M,hmM,hK⟩:=hI.put2;rw [qh hv];(conv=>whnf);refine zS hmM 0 ?_;intro wx hmx;(conv=>whnf);exact ⟨rfl,by show Al _ _ _ _ _ _ (S 13) (S 14) (S 15) true _ _ _;rw [h14];exact hK hmx rfl⟩
   (conv=>whnf);intro vals w12 hI;obtain ⟨t8,t9,hv1,hv2,hm⟩:=hI.done2;rw [qh hv1,qh hv2];have hm:Mem w w12 [(t8,.cells #[.int .i64 0,.int .i64 0,.int .i64 0,.int .i64 0] 197 (0,0)),(t9,.cells #[.int .i64 (d1:Nat),.int .i64 (d2:Nat)] 198 (0,0)),(fb,.cells #[.int .i64 0,.int .i64 0] 57 (0,0)),(sb,.cells (fnA 4 (inF P)) 128 (0,0)),(nb,.cells (fnA 3 (inF (N))) 124 (0,0)),(r3,.cells #[.int .i64 0,.int .i64 0] 57 (0,0)),(r2,.cells (fnA 3 (inF (fun _:Nat=>(0:Int)))) 124 (0,0))]:=hm;(conv=>whnf);refine zR hm 1 ?_;(conv=>whnf);refine zY (fun _=>?_);(conv=>whnf);have hb:d1≤z:=by
    have:=qvr (qn l k);omega
   refine DrawV.inv (fun S w'=>Mem w w' [(t8,.cells #[.int .i64 0,.int .i64 0,.int .i64 0,.int .i64 0] 197 (0,0)),(t9,.cells #[.int .i64 (d1:Nat),.int .i64 (d2:Nat)] 198 (0,0)),(fb,.cells #[.int .i64 0,.int .i64 0] 57 (0,0)),(sb,.cells (fnA 4 (inF P)) 128 (0,0)),(nb,.cells (fnA 3 (inF (N))) 124 (0,0)),(r3,.cells (bif S 11 then #[.int .i64 (y+d1:Nat),.int .i64 (d2:Nat)] else #[.int .i64 0,.int .i64 0]) 57 (0,0)),(r2,.cells (bif S 10 then fnA 3 (inF N) else fnA 3 (inF fun _=>0)) 124 (0,0))]) rfl (by kernel_rfl) hm.drew ?_;clear hm;(conv=>whnf);refine StepI.of (.agg (fnA 3 (inF N))) (fun S wd hk hp hI=>?_) ?_
   ·(conv=>whnf);refine LoadA.mem hI (i:=4) rfl (by simp [qg];rfl) ?_;(conv=>whnf);exact ⟨rfl,hI⟩
   (conv=>whnf);refine zI ?_;(conv=>whnf);refine StepI.of (.pointer (some ⟨sb,0+k*tsz Tryz.prog 3,none⟩)) (fun S wd hk hp hI=>?_) ?_
   ·(conv=>whnf);refine IdxV.at_ k (by omega) (by omega) ?_;(conv=>whnf);exact ⟨rfl,hI⟩
   (conv=>whnf);refine StepI.of (.int .i64 (y:Nat)) (fun S wd hk hp hI=>?_) ?_
   ·(conv=>whnf);refine LoadV.fim (x:=((y:Nat):Int)) hI (b:=sb) (F:=P) (n:=4) (t:=128) (by simp) k (by rw [show tsz Tryz.prog 3=1 from by kernel_rfl];omega) (by omega) hPk ?_;(conv=>whnf);exact ⟨rfl,hI⟩
   (conv=>whnf);refine zI ?_;(conv=>whnf);refine StepI.of (.int .i64 (d1:Nat)) (fun S wd hk hp hI=>?_) ?_
   ·(conv=>whnf);refine zR hI 1 ?_;(conv=>whnf);exact ⟨rfl,hI⟩
   (conv=>whnf);refine zI ?_ (by intro S wd hk hp hI;(conv=>whnf);(refine zA ?_;(conv=>whnf));exact ⟨rfl,hI⟩);(conv=>whnf);refine zI ?_;(conv=>whnf);refine StepI.of (.int .i64 (d2:Nat)) (fun S wd hk hp hI=>?_) ?_
   ·(conv=>whnf);refine zR hI 1 ?_;(conv=>whnf);exact ⟨rfl,hI⟩
   (conv=>whnf);refine zI ?_;(conv=>whnf);refine StepI.of undef (fun S wd hk hp hI=>?_) ?_
   ·dsimp only at hI;rw [hk] at hI;(conv=>whnf);refine StoreA.all hI (i:=6) rfl (by simp [qg]) (qar 3 N) ?_;intro wx hmx;(conv=>whnf);exact ⟨rfl,hmx⟩
   (conv=>whnf);refine StepI.of undef (fun S wd hk hp hI=>?_) ?_
   ·dsimp only at hI;rw [hk] at hI;(conv=>whnf);have e5:((y:Nat):Int)+((d1:Nat):Int)=((y+d1:Nat):Int):=by omega
    refine zS hI 5 ?_;intro wx hmx;(conv=>whnf);exact ⟨rfl,hmx⟩
   (conv=>whnf);intro wz hm;have hm:Mem w wz [(t8,.cells #[.int .i64 0,.int .i64 0,.int .i64 0,.int .i64 0] 197 (0,0)),(t9,.cells #[.int .i64 (d1:Nat),.int .i64 (d2:Nat)] 198 (0,0)),(fb,.cells #[.int .i64 0,.int .i64 0] 57 (0,0)),(sb,.cells (fnA 4 (inF P)) 128 (0,0)),(nb,.cells (fnA 3 (inF (N))) 124 (0,0)),(r3,.cells #[.int .i64 (y+d1:Nat),.int .i64 (d2:Nat)] 57 (0,0)),(r2,.cells (fnA 3 (inF (N))) 124 (0,0))]:=hm;(conv=>whnf);refine qa (R:=fun r w'=>VwR l r∧Ext w w') ?_;(conv=>whnf);refine LoadA.mem hm (i:=6) rfl (by simp [qg];rfl) ?_;(conv=>whnf);refine zL hm 5 ?_;(conv=>whnf);exact ⟨.inl ⟨by rw [hE3];exact hD,N,by rw [hE3];rfl⟩,hm.ext⟩
 obtain rfl:k=3:=by omega
 have hW0:(wE l).2=0:=by rw [hW];exact qap hz
 refine LoadA.mem hm (i:=2) rfl (by simp [qg];rfl) ?_;(conv=>whnf);refine StoreA.all hm (i:=4) rfl (by simp [qg]) (qar 3 N) ?_;intro wa hm;(conv=>whnf);refine zS hm 3 ?_;intro wb hm;have hm:Mem w wb [(fb,.cells #[.int .i64 0,.int .i64 0] 57 (0,0)),(sb,.cells (fnA 4 (inF P)) 128 (0,0)),(nb,.cells (fnA 3 (inF (N))) 124 (0,0)),(r3,.cells #[.int .i64 0,.int .i64 0] 57 (0,0)),(r2,.cells (fnA 3 (inF (N))) 124 (0,0))]:=hm;(conv=>whnf);refine qa (R:=fun r w'=>VwR l r∧Ext w w') ?_;(conv=>whnf);refine LoadA.mem hm (i:=4) rfl (by simp [qg];rfl) ?_;(conv=>whnf);refine zL hm 3 ?_;(conv=>whnf);exact ⟨.inr ⟨hW0,N,fun k hk=>hN k hk,rfl⟩,hm.ext⟩
open Go.RowKit V
set_option maxRecDepth 100000
structure Ca (w0:World) (L:List (Nat × Obj)) (Φ:Value→Value→List (Nat × Obj)→Prop) (o:Obj) (mk:Value→Value→Obj) (sel:Value→Value→Value) (s t c m p q a:Bool) (vs vc vm vp vq va:Value) (w:World):Prop where
 h:(c=false∧m=false∧p=false∧q=false∧a=false∧t=false∧∃ b:Nat,(s=true→vs=.pointer (some ⟨b,0,none⟩))∧Mem w0 w ((bif s then [(b,o)] else [])++L))∨
  (c=true∧∃ (b:Nat) (x y:Value) (R:List (Nat × Obj)),vc=.tuple #[x,y]∧(m=true→vm=.tuple #[x,y])∧(p=true→vp=x)∧(q=true→vq=y)∧(a=true→va=sel x y)∧(s=true→vs=.pointer (some ⟨b,0,none⟩))∧(s=false→t=false)∧Φ x y R∧
   Mem w0 w ((bif s then [(b,bif t then mk x y else o)] else [])++(L++R)))
section
variable {w0 w w':World} {L:List (Nat × Obj)} {Φ:Value→Value→List (Nat × Obj)→Prop} {o:Obj} {mk:Value→Value→Obj} {sel:Value→Value→Value} {s t c m p q a:Bool} {vs vc vm vp vq va:Value}
theorem Ca.start (h:Mem w0 w L):Ca w0 L Φ o mk sel false false false false false false false vs vc vm vp vq va w:=⟨.inl ⟨rfl,rfl,rfl,rfl,rfl,rfl,0,fun h=>(by cases h),h⟩⟩
theorem Ca.mem (h:Ca w0 L Φ o mk sel s t c m p q a vs vc vm vp vq va w):Mem w0 w L:=by
 rcases h.h with ⟨_,_,_,_,_,_,b,_,hm⟩|⟨_,b,x,y,R,_,_,_,_,_,_,_,_,hm⟩
 ·exact hm.sub (List.sublist_append_right _ _)
 ·exact hm.sub ((List.sublist_append_left _ _).trans (List.sublist_append_right _ _))
theorem Ca.called (h:Ca w0 L Φ o mk sel s t false m p q a vs vc vm vp vq va w) {x y:Value} {R:List (Nat × Obj)} (hm:Mem w w' R) (hx:Φ x y R):Ca w0 L Φ o mk sel s t true m p q a vs (.tuple #[x,y]) vm vp vq va w':=by
 rcases h.h with ⟨_,h1,h2,h3,h4,h5,b,h6,h7⟩|⟨h,_⟩
 ·subst h1 h2 h3 h4 h5;refine ⟨.inr ⟨rfl,b,x,y,R,rfl,fun h=>(by cases h),fun h=>(by cases h),fun h=>(by cases h),fun h=>(by cases h),h6,fun _=>rfl,hx,?_⟩⟩;have:=qph h7 hm
  rwa [List.append_assoc] at this
 ·cases h
theorem Ca.made (h:Ca w0 L Φ o mk sel false t c m p q a vs vc vm vp vq va w):Ca w0 L Φ o mk sel true t c m p q a (.pointer (some ⟨w.heap.size,0,none⟩)) vc vm vp vq va (w.alloc o):=by
 rcases h.h with ⟨h0,h1,h2,h3,h4,h5,b,h6,h7⟩|⟨h0,b,x,y,R,h1,h2,h3,h4,h5,h6,h7,h8,h9⟩
 ·exact ⟨.inl ⟨h0,h1,h2,h3,h4,h5,w.heap.size,fun _=>rfl,h7.new rfl rfl⟩⟩
 ·refine ⟨.inr ⟨h0,w.heap.size,x,y,R,h1,h2,h3,h4,h5,fun _=>rfl,fun h=>(by cases h),h8,?_⟩⟩;rw [h7 rfl];exact h9.new rfl rfl
theorem Ca.moved (h:Ca w0 L Φ o mk sel s t true false p q a vs vc vm vp vq va w):∃ x y,vc=.tuple #[x,y]∧Ca w0 L Φ o mk sel s t true true p q a vs (.tuple #[x,y]) (.tuple #[x,y]) vp vq va w:=by
 rcases h.h with ⟨h,_⟩|⟨h0,b,x,y,R,h1,h2,h3,h4,h5,h6,h7,h8,h9⟩
 ·cases h
 ·exact ⟨x,y,h1,⟨.inr ⟨rfl,b,x,y,R,rfl,fun _=>rfl,h3,h4,h5,h6,h7,h8,h9⟩⟩⟩
theorem Ca.fst (h:Ca w0 L Φ o mk sel s t c true false q a vs vc vm vp vq va w):∃ x y R,vm=.tuple #[x,y]∧Φ x y R∧Ca w0 L Φ o mk sel s t c true true q a vs vc (.tuple #[x,y]) x vq va w:=by
 rcases h.h with ⟨_,h,_⟩|⟨h0,b,x,y,R,h1,h2,h3,h4,h5,h6,h7,h8,h9⟩
 ·cases h
 ·exact ⟨x,y,R,h2 rfl,h8,⟨.inr ⟨h0,b,x,y,R,h1,fun _=>rfl,fun _=>rfl,h4,h5,h6,h7,h8,h9⟩⟩⟩
theorem Ca.snd (h:Ca w0 L Φ o mk sel s t c true p false a vs vc vm vp vq va w):∃ x y R,vm=.tuple #[x,y]∧Φ x y R∧Ca w0 L Φ o mk sel s t c true p true a vs vc (.tuple #[x,y]) vp y va w:=by
 rcases h.h with ⟨_,h,_⟩|⟨h0,b,x,y,R,h1,h2,h3,h4,h5,h6,h7,h8,h9⟩
 ·cases h
 ·exact ⟨x,y,R,h2 rfl,h8,⟨.inr ⟨h0,b,x,y,R,h1,fun _=>rfl,h3,fun _=>rfl,h5,h6,h7,h8,h9⟩⟩⟩
theorem Ca.see (h:Ca w0 L Φ o mk sel s t c m true q a vs vc vm vp vq va w):∃ x y R,vp=x∧Φ x y R:=by
 rcases h.h with ⟨_,_,h,_⟩|⟨h0,b,x,y,R,h1,h2,h3,h4,h5,h6,h7,h8,h9⟩
 ·cases h
 ·exact ⟨x,y,R,h3 rfl,h8⟩
theorem Ca.see2 (h:Ca w0 L Φ o mk sel s t c m p true a vs vc vm vp vq va w):∃ x y R,vq=y∧Φ x y R:=by
 rcases h.h with ⟨_,_,_,h,_⟩|⟨h0,b,x,y,R,h1,h2,h3,h4,h5,h6,h7,h8,h9⟩
 ·cases h
 ·exact ⟨x,y,R,h4 rfl,h8⟩
theorem Ca.keepF (hs:∀ x y,sel x y=x) (h:Ca w0 L Φ o mk sel s t c m true q false vs vc vm vp vq va w):Ca w0 L Φ o mk sel s t c m true q true vs vc vm vp vq vp w:=by
 rcases h.h with ⟨_,_,h,_⟩|⟨h0,b,x,y,R,h1,h2,h3,h4,h5,h6,h7,h8,h9⟩
 ·cases h
 ·exact ⟨.inr ⟨h0,b,x,y,R,h1,h2,h3,h4,fun _=>by rw [hs];exact h3 rfl,h6,h7,h8,h9⟩⟩
theorem Ca.keepS (hs:∀ x y,sel x y=y) (h:Ca w0 L Φ o mk sel s t c m p true false vs vc vm vp vq va w):Ca w0 L Φ o mk sel s t c m p true true vs vc vm vp vq vq w:=by
 rcases h.h with ⟨_,_,_,h,_⟩|⟨h0,b,x,y,R,h1,h2,h3,h4,h5,h6,h7,h8,h9⟩
 ·cases h
 ·exact ⟨.inr ⟨h0,b,x,y,R,h1,h2,h3,h4,fun _=>by rw [hs];exact h4 rfl,h6,h7,h8,h9⟩⟩
theorem Ca.put' (h:Ca w0 L Φ o mk sel true false c m p true a vs vc vm vp vq va w):∃ (b:Nat) (x y:Value) (R:List (Nat × Obj)),vs=.pointer (some ⟨b,0,none⟩)∧(p=true→vp=x)∧(true=true→vq=y)∧Φ x y R∧∃ M,Mem w0 w ((b,o)::M)∧
  ∀ {w' us},Mem w0 w' ((b,mk x y)::M)→us=.pointer (some ⟨b,0,none⟩)→Ca w0 L Φ o mk sel true true c m p true a us vc vm vp vq va w':=by
 rcases h.h with ⟨_,_,_,h,_⟩|⟨h0,b,x,y,R,h1,h2,h3,h4,h5,h6,h7,h8,h9⟩
 ·cases h
 ·exact ⟨b,x,y,R,h6 rfl,h3,h4,h8,_,h9,fun hm hu=>⟨.inr ⟨h0,b,x,y,R,h1,h2,h3,h4,h5,fun _=>hu,fun h=>(by cases h),h8,hm⟩⟩⟩
theorem Ca.put1 (h:Ca w0 L Φ o mk sel true false c m true q a vs vc vm vp vq va w):∃ (b:Nat) (x y:Value) (R:List (Nat × Obj)),vs=.pointer (some ⟨b,0,none⟩)∧vp=x∧Φ x y R∧∃ M,Mem w0 w ((b,o)::M)∧
  ∀ {w' us},Mem w0 w' ((b,mk x y)::M)→us=.pointer (some ⟨b,0,none⟩)→Ca w0 L Φ o mk sel true true c m true q a us vc vm vp vq va w':=by
 rcases h.h with ⟨_,_,h,_⟩|⟨h0,b,x,y,R,h1,h2,h3,h4,h5,h6,h7,h8,h9⟩
 ·cases h
 ·exact ⟨b,x,y,R,h6 rfl,h3 rfl,h8,_,h9,fun hm hu=>⟨.inr ⟨h0,b,x,y,R,h1,h2,h3,h4,h5,fun _=>hu,fun h=>(by cases h),h8,hm⟩⟩⟩
theorem Ca.done (h:Ca w0 L Φ o mk sel true true true true true true true vs vc vm vp vq va w):∃ (b:Nat) (x y:Value) (R:List (Nat × Obj)),vs=.pointer (some ⟨b,0,none⟩)∧va=sel x y∧vp=x∧vq=y∧Φ x y R∧Mem w0 w ((b,mk x y)::(L++R)):=by
 rcases h.h with ⟨h,_⟩|⟨h0,b,x,y,R,h1,h2,h3,h4,h5,h6,h7,h8,h9⟩
 ·cases h
 ·exact ⟨b,x,y,R,h6 rfl,h5 rfl,h3 rfl,h4 rfl,h8,h9⟩
end
open Go.RowKit V
set_option maxRecDepth 100000
def mkO (t:TypeId):Value→Obj
 | .agg a=>.cells a t (0,0)
 | _=>.cells #[] t (0,0)
def DRow (m:List UInt8) (x:Value) (R:List (Nat × Obj)):Prop:=
 ∃ ts:List ByteArray,(∀ i t,ts[i]?=some t→dGet m i=some t.data.toList)∧ts.length=dN m∧∃ B c,x=.slice B (dN m) c∧RowB 9 (ts.map Value.string) R x
theorem DRow.keep {m:List UInt8} {x:Value} {R R':List (Nat × Obj)} (h:DRow m x R) (hk:∀ y∈R,y∈R'):DRow m x R':=by
 obtain ⟨ts,h1,h2,B,c,h3,h4⟩:=h;exact ⟨ts,h1,h2,B,c,h3,h4.keep fun y hy _=>hk y hy⟩
def PhiD (m:List UInt8) (x y:Value) (R:List (Nat × Obj)):Prop:=
 (∃ a e:Int,e≠0∧-1≤a∧a≤m.length∧x=.slice none 0 0∧y=.agg #[.int .i64 a,.int .i64 e])∨((dE m).2=0∧y=.agg #[.int .i64 0,.int .i64 0]∧DRow m x R)
theorem PhiD.slice {m:List UInt8} {x y:Value} {R:List (Nat × Obj)} (h:PhiD m x y R):∃ A n c,x=.slice A n c:=by
 rcases h with ⟨a,e,_,_,_,rfl,_⟩|⟨_,_,ts,_,_,B,c,rfl,_⟩
 ·exact ⟨_,_,_,rfl⟩
 ·exact ⟨_,_,_,rfl⟩
theorem PhiD.agg {m:List UInt8} {x y:Value} {R:List (Nat × Obj)} (h:PhiD m x y R):∃ a e:Int,y=.agg #[.int .i64 a,.int .i64 e]:=by
 rcases h with ⟨a,e,_,_,_,_,rfl⟩|⟨_,rfl,_⟩
 ·exact ⟨_,_,rfl⟩
 ·exact ⟨_,_,rfl⟩
theorem DvR.phi {m:List UInt8} {w w':World} {v:Value} (h:DvR m w.heap.size v w') (he:Ext w w'):∃ x y R,v=.tuple #[x,y]∧Mem w w' R∧PhiD m x y R:=by
 rcases h with ⟨a,e,h1,h2,h3,rfl⟩|⟨h0,ts,h1,h2,B,c,rfl,ho⟩
 ·exact ⟨_,_,[],rfl,(Mem.nil w).call he,.inl ⟨a,e,h1,h2,h3,rfl,rfl⟩⟩
 ·obtain ⟨R,hm,hB⟩:=V.Mem.row (Mem.nil w) he ho (Nat.le_refl _);exact ⟨_,_,R,rfl,hm,.inr ⟨h0,rfl,ts,h1,h2,B,c,rfl,hB⟩⟩
def PhiR (kind:Int) (s:ByteArray) (x y:Value) (R:List (Nat × Obj)):Prop:=
 R=[]∧((∃ e:Int,e≠0∧x=.agg #[.int .i64 0,.string ⟨#[]⟩,.string ⟨#[]⟩,.string ⟨#[]⟩]∧y=.int .i64 e)∨∃ t,ReadsAs kind s.data.toList t∧TermOk t∧x=qa2 t∧y=.int .i64 0)
theorem RdR.phi {kind:Int} {s:ByteArray} {v:Value} (h:RdR kind s v):∃ x y,v=.tuple #[x,y]∧PhiR kind s x y []:=by
 rcases h with ⟨e,he,rfl⟩|⟨t,h1,h2,rfl⟩
 ·exact ⟨_,_,rfl,rfl,.inl ⟨e,he,rfl,rfl⟩⟩
 ·exact ⟨_,_,rfl,rfl,.inr ⟨t,h1,h2,rfl,rfl⟩⟩
theorem PhiR.agg {kind:Int} {s:ByteArray} {x y:Value} {R:List (Nat × Obj)} (h:PhiR kind s x y R):∃ (k:Int) (a b c:ByteArray),x=.agg #[.int .i64 k,.string a,.string b,.string c]:=by
 rcases h.2 with ⟨e,_,rfl,_⟩|⟨t,_,_,rfl,_⟩
 ·exact ⟨_,_,_,_,rfl⟩
 ·exact ⟨_,_,_,_,rfl⟩
theorem PhiR.int {kind:Int} {s:ByteArray} {x y:Value} {R:List (Nat × Obj)} (h:PhiR kind s x y R):∃ e:Int,y=.int .i64 e:=by
 rcases h.2 with ⟨e,_,_,rfl⟩|⟨t,_,_,_,rfl⟩
 ·exact ⟨_,rfl⟩
 ·exact ⟨_,rfl⟩
structure VTm (l:List UInt8) (k j:Nat) (ts:List TM):Prop where
 len:ts.length=vTot l k+j
 ok:∀ t∈ts,TermOk t
 at_:∀ k' j',(k'<k∧j'<dN (qn l k'))∨(k'=k∧j'<j)→∃ s t,dGet (qn l k') j'=some s∧s.length≤262144∧ReadsAs ((k'+1:Nat):Int) s t∧ts[vTot l k'+j']?=some t
theorem VTm.one {l:List UInt8} {k j:Nat} {ts:List TM} (h:VTm l k j ts) {s:List UInt8} {t:TM} (ht:TermOk t) (hd:dGet (qn l k) j=some s) (hs:s.length≤262144) (hr:ReadsAs ((k+1:Nat):Int) s t):VTm l k (j+1) (ts++[t]):=by
 refine ⟨by rw [List.length_append,h.len];rfl,fun u hu=>?_,fun k' j' hk=>?_⟩
 ·rcases List.mem_append.1 hu with hu|hu
  ·exact h.ok u hu
  ·rw [List.mem_singleton.1 hu];exact ht
 ·by_cases e:k'=k∧j'=j
  ·obtain ⟨rfl,rfl⟩:=e;exact ⟨s,t,hd,hs,hr,by rw [List.getElem?_append_right (by rw [h.len];omega),h.len,Nat.sub_self];rfl⟩
  ·obtain ⟨s',t',h1,h2,h3,h4⟩:=h.at_ k' j' (by omega);refine ⟨s',t',h1,h2,h3,?_⟩;rw [List.getElem?_append_left (List.getElem?_eq_some_iff.1 h4).1];exact h4
theorem VTm.next {l:List UInt8} {k:Nat} {ts:List TM} (h:VTm l k (dN (qn l k)) ts):VTm l (k+1) 0 ts:=
 ⟨h.len,h.ok,fun k' j' hk=>h.at_ k' j' (by
  rcases hk with ⟨h1,h2⟩|⟨_,h2⟩
  ·by_cases e:k'=k
   ·subst e;exact .inr ⟨rfl,h2⟩
   ·exact .inl ⟨by omega,h2⟩
  ·omega)⟩
theorem qhm:Tryz.prog.underlying 67=some (.slice 73):=Tryz.underlying67
theorem trmI:Tryz.prog.info? 73=some ((Tryz.prog.info? 73).get (by kernel_rfl)):=(Option.some_get _).symm
theorem trmZ:((Tryz.prog.info? 73).get (by kernel_rfl)).zero=some ((((Tryz.prog.info? 73).get (by kernel_rfl)).zero).get (by kernel_rfl)):=(Option.some_get _).symm
theorem qo9 {f:Nat→Nat × Nat} {B:Nat}:∀ n,(∀ k,k<n→(f k).1≤B)→(errF f n).1≤B
 | 0,_=>Nat.zero_le _
 | n+1,h=>by
  rw [errF]
  split
  ·exact qo9 n fun k hk=>h k (by omega)
  ·exact h n (by omega)
theorem q02 (l:List UInt8):(sE l).1≤l.length+201326592:=by
 unfold sE
 split
 ·exact Nat.le_trans (qo9 3 fun k _=>qeh l k _) (Nat.le_add_right _ _)
 ·rename_i h0
  have hn:∀ k,k<3→vNum l k≤67108864:=fun k hk=>qb4 (qcd (f:=vsF l) (n:=3) (by omega) k hk)
  have e0:qi l 0=vAt l 3:=rfl;have e1:qi l 1=qi l 0+vNum l 0:=rfl;have e2:qi l 2=qi l 1+vNum l 1:=rfl;have e3:qi l 3=qi l 2+vNum l 2:=rfl;have h1:=hn 0 (by omega);have h2:=hn 1 (by omega);have h3:=hn 2 (by omega);have h4:=qbs l 3
  split
  ·show l.length≤_;omega
  ·split
   ·show qi l 3≤_;omega
   ·exact Nat.zero_le _
def VoW (l:List UInt8) (base:Nat) (v:Value) (w:World):Prop:=
 (∃ a e:Int,e≠0∧(-1≤a∧a≤1125899906842624)∧v=.tuple #[.slice none 0 0,fltV a e])∨
 ((wE l).2=0∧∃ ts,VTm l 3 0 ts∧∃ B c,v=.tuple #[.slice B (vTot l 3) c,fltV 0 0]∧w.ownsRow base 73 4 (.slice B (vTot l 3) c) (vTot l 3) (ts.map encT).flatten)
set_option maxHeartbeats 4000000 in
theorem qoo (l:List UInt8) (A:Option Addr) (c:Nat) (w:World) (hS:SlAt encB 1 w A l) (hc:l.length≤c) (hl:l.length≤70368744177664) :
  Gv Tryz.prog 62 [.slice A l.length c] w fun v w'=>VoW l w.heap.size v w'∧Ext w w':=by
 refine zE Tryz.func62 Tryz.ntmps62 ?_;(conv=>whnf);refine NewV.mem (Mem.nil w) ?_;intro r3 w1 hm;(conv=>whnf);refine CallV.of (qiz l A c w1 (hS.ext hm.ext) hc hl) ?_;rintro r w4 ⟨⟨hE,P,rfl⟩|⟨hE,P,hP,rfl⟩,he4⟩
 all_goals
  have hm:=hm.call he4;(conv=>whnf);refine NewV.mem hm ?_;intro sb w5 hm;(conv=>whnf);refine NewV.mem hm ?_;intro fb w6 hm;(conv=>whnf);refine StoreA.all hm (i:=1) rfl (by simp [qg]) (qar 4 P) ?_;intro w7 hm;(conv=>whnf);refine zS hm 0 ?_;intro w8 hm;(conv=>whnf);refine zR hm 0 ?_;conv=>whnf
  (repeat' ((with_reducible refine zC (fun _=>?_) (fun _=>?_))<;>first|(exfalso;omega)|(conv=>whnf)))
 ·have hm:Mem w w8 [(fb,.cells #[.int .i64 (sE l).1,.int .i64 (sE l).2] 57 (0,0)),(sb,.cells (fnA 4 (inF P)) 128 (0,0)),(r3,.cells #[.int .i64 0,.int .i64 0] 57 (0,0))]:=hm;refine DrawV.inv (fun S w'=>Mem w w' [(fb,.cells #[.int .i64 (sE l).1,.int .i64 (sE l).2] 57 (0,0)),(sb,.cells (fnA 4 (inF P)) 128 (0,0)),(r3,.cells (bif S 2 then #[.int .i64 (sE l).1,.int .i64 (sE l).2] else #[.int .i64 0,.int .i64 0]) 57 (0,0))]) rfl (by kernel_rfl) hm.drew ?_;clear hm;(conv=>whnf);refine StepI.of (.agg #[.int .i64 (sE l).1,.int .i64 (sE l).2]) (fun S wd hk hp hI=>?_) ?_
  ·(conv=>whnf);refine zL hI 0 ?_;(conv=>whnf);exact ⟨rfl,hI⟩
  (conv=>whnf);refine zI ?_;(conv=>whnf);refine StepI.of undef (fun S wd hk hp hI=>?_) ?_
  ·dsimp only at hI;rw [hk] at hI;(conv=>whnf);refine zS hI 2 ?_;intro wx hmx;(conv=>whnf);exact ⟨rfl,hmx⟩
  (conv=>whnf);intro wz hm;have hm:Mem w wz [(fb,.cells #[.int .i64 (sE l).1,.int .i64 (sE l).2] 57 (0,0)),(sb,.cells (fnA 4 (inF P)) 128 (0,0)),(r3,.cells #[.int .i64 (sE l).1,.int .i64 (sE l).2] 57 (0,0))]:=hm;(conv=>whnf);refine qa (R:=fun v w'=>VoW l w.heap.size v w'∧Ext w w') ?_;(conv=>whnf);refine zL hm 2 ?_;(conv=>whnf);exact ⟨.inl ⟨_,_,by omega,⟨by omega,by have:=q02 l;omega⟩,rfl⟩,hm.ext⟩
 refine NewV.mem hm ?_;intro dv w9 hm;have hm:Mem w w9 ((dv,.cells (fnA 3 (fun _=>.slice none 0 0)) 205 (0,0))::(fb,.cells #[.int .i64 0,.int .i64 0] 57 (0,0))::(sb,.cells (fnA 4 (inF P)) 128 (0,0))::(r3,.cells #[.int .i64 0,.int .i64 0] 57 (0,0))::[]):=hm;obtain ⟨hvb,hpl⟩:=qpu hE;(conv=>whnf);refine qm (fun k:Nat=>[(0,.slice A l.length c),(3,.pointer (some ⟨r3,0,none⟩)),(4,.pointer (some ⟨sb,0,none⟩)),(6,.pointer (some ⟨dv,0,none⟩)),(7,.int .i64 k)])
  (fun k w'=>k≤3∧∃ G R,Mem w w' ((dv,.cells (fnA 3 (G)) 205 (0,0))::(fb,.cells #[.int .i64 0,.int .i64 0] 57 (0,0))::(sb,.cells (fnA 4 (inF P)) 128 (0,0))::(r3,.cells #[.int .i64 0,.int .i64 0] 57 (0,0))::R)∧∀ m,m<k→(dE (qn l m)).2=0∧DRow (qn l m) (G m) R) (fun k=>3-k) 0
  ⟨rfl,rfl,rfl,rfl,rfl,trivial⟩ ⟨by omega,_,[],hm,fun m h=>by omega⟩ ?_
 clear hm;rintro k w10 ρ' ⟨k1,G,R,hm,hG⟩;(conv=>whnf);refine zC (fun _=>?_) (fun _=>?_)<;>(conv=>whnf)
 ·have hPk:=hP k (by omega);have hPk1:=hP (k+1) (by omega);have hsp:qi l (k+1)=qi l k+vNum l k:=rfl;have hple:=qc6 hpl (k:=k) (by omega);have hdl:=qiu hpl (k:=k) (by omega);have hvk:=hvb k (by omega);obtain ⟨y,ey⟩:∃ y,y=qi l k:=⟨_,rfl⟩
  obtain ⟨z,ez⟩:∃ z,z=vNum l k:=⟨_,rfl⟩
  obtain ⟨B,eB⟩:∃ B,B=(if c=y then A else A.map (·.add (y*1))):=⟨_,rfl⟩
  have hB:SlAt encB 1 w B (qn l k):=by
   rw [eB,qn,← ey];have:=hS.cut (lo:=y) (hi:=y+z) (m:=c) (by omega) (by omega) (by omega) rfl
   rwa [show y+z-y=vNum l k by omega] at this
  rw [hsp,← ey,← ez] at hPk1;rw [← ey] at hPk hple;rw [← ez] at hple hvk;have hdo:=fun w' (hB':SlAt encB 1 w' B (qn l k))=>(qsr (qn l k) B (c-y) w' hB' (by omega) (by omega)).mono fun r w'' ⟨h1,h2⟩=>h1.phi h2
  rw [hdl] at hdo;refine DrawV.gen (fun S vals w'=>Ca w ((dv,.cells (fnA 3 (G)) 205 (0,0))::(fb,.cells #[.int .i64 0,.int .i64 0] 57 (0,0))::(sb,.cells (fnA 4 (inF P)) 128 (0,0))::(r3,.cells #[.int .i64 0,.int .i64 0] 57 (0,0))::R) (PhiD (qn l k)) (.cells #[.int .i64 0,.int .i64 0] 198 (0,0)) (fun _ y=>mkO 198 y) (fun x _=>x) (S 13) (S 15) (S 9) (S 10) (S 11) (S 12) (S 14) (vals 13) (vals 9) (vals 10) (vals 11) (vals 12) (vals 14) w') rfl (by kernel_rfl) (fun vals=>Ca.start hm.drew) ?_;clear hm;(conv=>whnf);refine zG ?_;(conv=>whnf);refine zG ?_;(conv=>whnf);refine StepG.of (.pointer (some ⟨sb,0+(k)*tsz Tryz.prog 3,none⟩)) (fun S vals wd hk hp hI=>?_) ?_
  ·(conv=>whnf);refine IdxV.at_ (k) (by omega) (by omega) ?_;(conv=>whnf);exact ⟨rfl,hI⟩
  (conv=>whnf);refine StepG.of (.int .i64 (y:Nat)) (fun S vals wd hk hp hI=>?_) ?_
  ·(conv=>whnf);refine LoadV.fim (x:=((y:Nat):Int)) hI.mem (b:=sb) (F:=P) (n:=4) (t:=128) (by simp) (k) (by rw [show tsz Tryz.prog 3=1 from by kernel_rfl];omega) (by omega) hPk ?_;(conv=>whnf);exact ⟨rfl,hI⟩
  (conv=>whnf);refine zG ?_;(conv=>whnf);refine zG ?_ (by intro S vals wd hk hp hI;(conv=>whnf);(refine zA ?_;(conv=>whnf));exact ⟨rfl,hI⟩);(conv=>whnf);refine StepG.of (.pointer (some ⟨sb,0+(k+1)*tsz Tryz.prog 3,none⟩)) (fun S vals wd hk hp hI=>?_) ?_
  ·(conv=>whnf);refine IdxV.at_ (k+1) (by omega) (by omega) ?_;(conv=>whnf);exact ⟨rfl,hI⟩
  (conv=>whnf);refine StepG.of (.int .i64 (y+z:Nat)) (fun S vals wd hk hp hI=>?_) ?_
  ·(conv=>whnf);refine LoadV.fim (x:=((y+z:Nat):Int)) hI.mem (b:=sb) (F:=P) (n:=4) (t:=128) (by simp) (k+1) (by rw [show tsz Tryz.prog 3=1 from by kernel_rfl];omega) (by omega) hPk1 ?_;(conv=>whnf);exact ⟨rfl,hI⟩
  (conv=>whnf);refine StepG.of (.slice B (vNum l k) (c-y)) (fun S vals wd hk hp hI=>?_) ?_
  ·(conv=>whnf);refine SliceV.to y (y+z) c rfl rfl rfl (by omega) (by omega) (Nat.le_refl _) (fun h=>by cases h) ?_;rw [show tsz Tryz.prog 5=1 from by kernel_rfl,← eB,show y+z-y=vNum l k by omega];(conv=>whnf);exact ⟨rfl,hI⟩
  (conv=>whnf);refine StepG.any (fun S vals wd hk hp hI=>?_) ?_
  ·dsimp only at hI;rw [hk] at hI;(conv=>whnf);refine CallV.of (hdo wd (hB.ext hI.mem.ext)) ?_;rintro v w9 ⟨x,u,R',rfl,hmR,hΦ⟩;exact ⟨trivial,hI.called hmR hΦ⟩
  (conv=>whnf);refine StepG.any (fun S vals wd hk hp hI=>?_) ?_
  ·dsimp only at hI;have h9:S 9=true:=hp 9 (by decide);rw [hk,h9] at hI;obtain ⟨x,u,hv,hK⟩:=hI.moved;rw [qh hv];(conv=>whnf);exact ⟨trivial,by show Ca _ _ _ _ _ _ (S 13) (S 15) (S 9) true (S 11) (S 12) (S 14) _ _ _ _ _ _ _;rw [h9];exact hK⟩
  (conv=>whnf);refine StepG.any (fun S vals wd hk hp hI=>?_) ?_
  ·dsimp only at hI;have h10:S 10=true:=hp 10 (by decide);rw [hk,h10] at hI;obtain ⟨x,u,R',hv,hΦ,hK⟩:=hI.fst;obtain ⟨A1,n1,c1,rfl⟩:=hΦ.slice;rw [qh hv];(conv=>whnf);exact ⟨trivial,by show Ca _ _ _ _ _ _ (S 13) (S 15) (S 9) (S 10) true (S 12) (S 14) _ _ _ _ _ _ _;rw [h10];exact hK⟩
  (conv=>whnf);refine StepG.any (fun S vals wd hk hp hI=>?_) ?_
  ·dsimp only at hI;have h10:S 10=true:=hp 10 (by decide);rw [hk,h10] at hI;obtain ⟨x,u,R',hv,hΦ,hK⟩:=hI.snd;obtain ⟨a,e,rfl⟩:=hΦ.agg;rw [qh hv];(conv=>whnf);exact ⟨trivial,by show Ca _ _ _ _ _ _ (S 13) (S 15) (S 9) (S 10) (S 11) true (S 14) _ _ _ _ _ _ _;rw [h10];exact hK⟩
  (conv=>whnf);refine StepG.any (fun S vals wd hk hp hI=>?_) ?_
  ·dsimp only at hI;rw [hk] at hI;(conv=>whnf);refine ⟨fun x wx hb hw=>?_⟩;subst hb hw;(conv=>whnf);exact ⟨trivial,hI.made⟩
  (conv=>whnf);refine StepG.any (fun S vals wd hk hp hI=>?_) ?_
  ·dsimp only at hI;have h11:S 11=true:=hp 11 (by decide);rw [hk,h11] at hI;obtain ⟨x,u,R',hx,hΦ⟩:=hI.see;obtain ⟨A1,n1,c1,rfl⟩:=hΦ.slice;rw [hx] at hI;rw [qh hx];(conv=>whnf);exact ⟨trivial,by show Ca _ _ _ _ _ _ (S 13) (S 15) (S 9) (S 10) (S 11) (S 12) true _ _ _ _ _ _ _;rw [h11];exact hI.keepF (fun _ _=>rfl)⟩
  (conv=>whnf);refine StepG.of undef (fun S vals wd hk hp hI=>?_) ?_
  ·dsimp only at hI;have h12:S 12=true:=hp 12 (by decide);have h13:S 13=true:=hp 13 (by decide);rw [hk,h12,h13] at hI;obtain ⟨x,u,R',hu,hΦ⟩:=hI.see2;obtain ⟨a,e,rfl⟩:=hΦ.agg;rw [hu] at hI;obtain ⟨b,x2,u2,R2,hv,h0,h1,hΦ2,M,hmM,hK⟩:=hI.put';obtain rfl:=h1 rfl;rw [qh hv,qh hu];(conv=>whnf);refine zS hmM 0 ?_;intro wx hmx;(conv=>whnf);exact ⟨rfl,by show Ca _ _ _ _ _ _ (S 13) true (S 9) (S 10) (S 11) (S 12) (S 14) _ _ _ _ _ _ _;rw [h12,h13];exact hK hmx rfl⟩
  (conv=>whnf);intro vals w12 hI;obtain ⟨t9,x,u,R',hv1,hv2,hv3,hv4,hΦ,hm⟩:=hI.done;replace hv2:vals 14=x:=hv2;obtain ⟨A1,n1,c1,ex⟩:=hΦ.slice;rw [ex] at hv2;rw [qh hv1,qh hv2];clear hI hv1 hv2 hv3 hv4
  rcases hΦ with ⟨a,e,he0,ha1,ha2,_,rfl⟩|⟨hD0,rfl,hDR⟩
  ·have hm:Mem w w12 ((t9,.cells #[.int .i64 a,.int .i64 e] 198 (0,0))::(dv,.cells (fnA 3 (G)) 205 (0,0))::(fb,.cells #[.int .i64 0,.int .i64 0] 57 (0,0))::(sb,.cells (fnA 4 (inF P)) 128 (0,0))::(r3,.cells #[.int .i64 0,.int .i64 0] 57 (0,0))::(R++R')):=by rw [← List.cons_append,← List.cons_append,← List.cons_append,← List.cons_append];exact hm
   (conv=>whnf);refine zR hm 0 ?_;(conv=>whnf);refine zY (fun _=>?_);(conv=>whnf);refine DrawV.inv (fun S w'=>Mem w w' ((t9,.cells #[.int .i64 a,.int .i64 e] 198 (0,0))::(dv,.cells (fnA 3 (G)) 205 (0,0))::(fb,.cells #[.int .i64 0,.int .i64 0] 57 (0,0))::(sb,.cells (fnA 4 (inF P)) 128 (0,0))::(r3,.cells (bif S 10 then #[.int .i64 ((y:Int)+a),.int .i64 e] else #[.int .i64 0,.int .i64 0]) 57 (0,0))::(R++R'))) rfl (by kernel_rfl) hm.drew ?_;clear hm;(conv=>whnf);refine zI ?_;(conv=>whnf);refine StepI.of (.pointer (some ⟨sb,0+k*tsz Tryz.prog 3,none⟩)) (fun S wd hk hp hI=>?_) ?_
   ·(conv=>whnf);refine IdxV.at_ k (by omega) (by omega) ?_;(conv=>whnf);exact ⟨rfl,hI⟩
   (conv=>whnf);refine StepI.of (.int .i64 (y:Nat)) (fun S wd hk hp hI=>?_) ?_
   ·(conv=>whnf);refine LoadV.fim (x:=((y:Nat):Int)) hI (b:=sb) (F:=P) (n:=4) (t:=128) (by simp) k (by rw [show tsz Tryz.prog 3=1 from by kernel_rfl];omega) (by omega) hPk ?_;(conv=>whnf);exact ⟨rfl,hI⟩
   (conv=>whnf);refine zI ?_;(conv=>whnf);refine StepI.of (.int .i64 a) (fun S wd hk hp hI=>?_) ?_
   ·(conv=>whnf);refine zR hI 0 ?_;(conv=>whnf);exact ⟨rfl,hI⟩
   (conv=>whnf);refine zI ?_ (by intro S wd hk hp hI;(conv=>whnf);(refine zA ?_;(conv=>whnf));exact ⟨rfl,hI⟩);(conv=>whnf);refine zI ?_;(conv=>whnf);refine StepI.of (.int .i64 e) (fun S wd hk hp hI=>?_) ?_
   ·(conv=>whnf);refine zR hI 0 ?_;(conv=>whnf);exact ⟨rfl,hI⟩
   (conv=>whnf);refine zI ?_;(conv=>whnf);refine zI ?_;(conv=>whnf);refine StepI.of undef (fun S wd hk hp hI=>?_) ?_
   ·dsimp only at hI;rw [hk] at hI;(conv=>whnf);refine zS hI 4 ?_;intro wx hmx;(conv=>whnf);exact ⟨rfl,hmx⟩
   (conv=>whnf);intro wz hm;have hm:Mem w wz ((t9,.cells #[.int .i64 a,.int .i64 e] 198 (0,0))::(dv,.cells (fnA 3 (G)) 205 (0,0))::(fb,.cells #[.int .i64 0,.int .i64 0] 57 (0,0))::(sb,.cells (fnA 4 (inF P)) 128 (0,0))::(r3,.cells #[.int .i64 ((y:Int)+a),.int .i64 e] 57 (0,0))::(R++R')):=hm;(conv=>whnf);refine qa (R:=fun v w'=>VoW l w.heap.size v w'∧Ext w w') ?_;(conv=>whnf);refine zL hm 4 ?_;(conv=>whnf);exact ⟨.inl ⟨_,_,he0,⟨by omega,by omega⟩,rfl⟩,hm.ext⟩
  ·have hm:Mem w w12 ((t9,.cells #[.int .i64 0,.int .i64 0] 198 (0,0))::(dv,.cells (fnA 3 (G)) 205 (0,0))::(fb,.cells #[.int .i64 0,.int .i64 0] 57 (0,0))::(sb,.cells (fnA 4 (inF P)) 128 (0,0))::(r3,.cells #[.int .i64 0,.int .i64 0] 57 (0,0))::(R++R')):=by rw [← List.cons_append,← List.cons_append,← List.cons_append,← List.cons_append];exact hm
   (conv=>whnf);refine zR hm 0 ?_;(conv=>whnf);refine zN (fun _=>?_);(conv=>whnf);refine zX ?_;(conv=>whnf);refine StoreV.fn (v:=.slice A1 n1 c1) hm (i:=1) rfl k (by rw [show tsz Tryz.prog 37=1 from by kernel_rfl];omega) (by omega) rfl ?_;intro w13 hm;have hm:=hm.sub (List.sublist_cons_self ..);(conv=>whnf);refine zA ?_;(conv=>whnf);refine ⟨k+1,⟨rfl,rfl,rfl,rfl,rfl,trivial⟩,⟨by omega,_,_,hm,fun m h=>?_⟩,by omega⟩
   by_cases e:m=k
   ·subst e;rw [qgz,← ex];exact ⟨hD0,hDR.keep fun y hy=>List.mem_append_right _ hy⟩
   ·rw [q9 _ _ _ _ e];exact ⟨(hG m (by omega)).1,(hG m (by omega)).2.keep fun y hy=>List.mem_append_left _ hy⟩
 obtain rfl:k=3:=by omega
 refine CallV.of (qnm w10) ?_;rintro r w11 ⟨rfl,he11⟩;have hm:=hm.call he11;(conv=>whnf);refine NewV.mem hm ?_;intro kb w12 hm;(conv=>whnf);refine zS hm 0 ?_;intro w13 hm;have hm:Mem w w13 ((kb,.cells (fnA 3 (inF fun i:Nat=>((i+1:Nat):Int))) 124 (0,0))::(dv,.cells (fnA 3 (G)) 205 (0,0))::(fb,.cells #[.int .i64 0,.int .i64 0] 57 (0,0))::(sb,.cells (fnA 4 (inF P)) 128 (0,0))::(r3,.cells #[.int .i64 0,.int .i64 0] 57 (0,0))::R):=hm;(conv=>whnf);refine qm (fun x:Nat × List TM × Option Addr × Nat=>[(3,.pointer (some ⟨r3,0,none⟩)),(4,.pointer (some ⟨sb,0,none⟩)),(6,.pointer (some ⟨dv,0,none⟩)),(10,.slice x.2.2.1 x.2.1.length x.2.2.2),(11,.pointer (some ⟨kb,0,none⟩)),(12,.int .i64 x.1)])
  (fun x w'=>x.1≤3∧VTm l x.1 0 x.2.1∧Rw w w' (.slice x.2.2.1 x.2.1.length x.2.2.2) 73 4 x.2.1.length (x.2.1.map encT).flatten ((kb,.cells (fnA 3 (inF fun i:Nat=>((i+1:Nat):Int))) 124 (0,0))::(dv,.cells (fnA 3 (G)) 205 (0,0))::(fb,.cells #[.int .i64 0,.int .i64 0] 57 (0,0))::(sb,.cells (fnA 4 (inF P)) 128 (0,0))::(r3,.cells #[.int .i64 0,.int .i64 0] 57 (0,0))::R)) (fun x=>3-x.1) (0,[],none,0)
  ⟨rfl,rfl,rfl,rfl,rfl,rfl,trivial⟩ ⟨by simp,⟨rfl,fun t h=>(by cases h),fun k j h=>(by omega)⟩,Rw.nil hm⟩ ?_
 clear hm;rintro ⟨k,ts,B,cc⟩ w14 ρ2 ⟨k2,hV,hR⟩;dsimp only at k2 hV hR ⊢;(conv=>whnf);refine zC (fun _=>?_) (fun _=>?_)<;>(conv=>whnf)
 ·refine qm (fun x:Nat × List TM × Option Addr × Nat=>[(3,.pointer (some ⟨r3,0,none⟩)),(4,.pointer (some ⟨sb,0,none⟩)),(6,.pointer (some ⟨dv,0,none⟩)),(10,.slice x.2.2.1 x.2.1.length x.2.2.2),(11,.pointer (some ⟨kb,0,none⟩)),(12,.int .i64 k),(13,.int .i64 x.1)])
   (fun x w'=>x.1≤dN (qn l k)∧VTm l k x.1 x.2.1∧Rw w w' (.slice x.2.2.1 x.2.1.length x.2.2.2) 73 4 x.2.1.length (x.2.1.map encT).flatten ((kb,.cells (fnA 3 (inF fun i:Nat=>((i+1:Nat):Int))) 124 (0,0))::(dv,.cells (fnA 3 (G)) 205 (0,0))::(fb,.cells #[.int .i64 0,.int .i64 0] 57 (0,0))::(sb,.cells (fnA 4 (inF P)) 128 (0,0))::(r3,.cells #[.int .i64 0,.int .i64 0] 57 (0,0))::R)) (fun x=>dN (qn l k)-x.1) (0,ts,B,cc)
   ⟨rfl,rfl,rfl,rfl,rfl,rfl,rfl,trivial⟩ ⟨by simp,hV,hR⟩ ?_
  clear hV hR;rintro ⟨j,ts,B,cc⟩ w15 ρ3 ⟨j1,hV,hR⟩;dsimp only at j1 hV hR ⊢;obtain ⟨hD0,es,hes,hel,EB,ec,eG,hEB⟩:=hG k (by omega);obtain ⟨hd1,hd2,_⟩:=qvs hD0;(conv=>whnf);refine zX ?_;(conv=>whnf);refine LoadV.fn (v:=.slice EB (dN (qn l k)) ec) hR.mem (i:=1) rfl k (by rw [show tsz Tryz.prog 37=1 from by kernel_rfl];omega) (by omega) eG ?_;conv=>whnf
  (repeat' (first|(refine zA ?_;(conv=>whnf))|((with_reducible refine zC (fun _=>?_) (fun _=>?_))<;>first|(exfalso;omega)|(conv=>whnf))))
  ·have hjl:j<es.length:=by omega
   have hsz:es[j].size≤262144:=qki (hes j _ (List.getElem?_eq_getElem hjl));have hT:SlAt V.encS 1 w15 EB es:=V.RowB.slf (f:=Value.string) (fun _=>rfl) (by rw [eG] at hEB;exact hEB) hR.mem (fun x hx=>by simp [hx]);obtain ⟨gb,go,hEa,hcl⟩:=hT.at_ (by intro e;rw [e] at hjl;simp at hjl);have hcell:w15.cell? ⟨gb,go+j*1,none⟩=some (.string es[j]):=by
    have:=hcl j _ (List.getElem?_eq_getElem hjl) 0 _ rfl
    rwa [Nat.add_zero] at this
   subst hEa;refine DrawV.gen (fun S vals w'=>Ca w15.drew [] (PhiR ((k+1:Nat):Int) es[j]) (.cells #[.int .i64 0,.string ⟨#[]⟩,.string ⟨#[]⟩,.string ⟨#[]⟩] 73 (0,0)) (fun x _=>mkO 73 x) (fun _ y=>y) (S 13) (S 14) (S 9) (S 10) (S 11) (S 12) (S 15) (vals 13) (vals 9) (vals 10) (vals 11) (vals 12) (vals 15) w') rfl (by kernel_rfl) (fun vals=>Ca.start (Mem.nil _)) ?_;(conv=>whnf);refine zG ?_;(conv=>whnf);refine StepG.of (.pointer (some ⟨kb,0+k*tsz Tryz.prog 3,none⟩)) (fun S vals wd hk hp hI=>?_) ?_
   ·(conv=>whnf);refine IdxV.at_ k (by omega) (by omega) ?_;(conv=>whnf);exact ⟨rfl,hI⟩
   (conv=>whnf);refine StepG.of (.int .i64 (k+1:Nat)) (fun S vals wd hk hp hI=>?_) ?_
   ·(conv=>whnf);refine LoadV.fim (x:=((k+1:Nat):Int)) (hR.mem.drew.call hI.mem.ext) (b:=kb) (F:=fun i:Nat=>((i+1:Nat):Int)) (n:=3) (t:=124) (by simp) k (by rw [show tsz Tryz.prog 3=1 from by kernel_rfl];omega) (by omega) rfl ?_;(conv=>whnf);exact ⟨rfl,hI⟩
   (conv=>whnf);refine zG ?_;(conv=>whnf);refine StepG.of (.pointer (some ⟨dv,0+k*tsz Tryz.prog 37,none⟩)) (fun S vals wd hk hp hI=>?_) ?_
   ·(conv=>whnf);refine IdxV.at_ k (by omega) (by omega) ?_;(conv=>whnf);exact ⟨rfl,hI⟩
   (conv=>whnf);refine StepG.of (.slice (some ⟨gb,go,none⟩) (dN (qn l k)) ec) (fun S vals wd hk hp hI=>?_) ?_
   ·(conv=>whnf);refine LoadV.fn (v:=.slice (some ⟨gb,go,none⟩) (dN (qn l k)) ec) (hR.mem.drew.call hI.mem.ext) (i:=1) rfl k (by rw [show tsz Tryz.prog 37=1 from by kernel_rfl];omega) (by omega) eG ?_;(conv=>whnf);exact ⟨rfl,hI⟩
   (conv=>whnf);refine zG ?_;(conv=>whnf);refine StepG.of (.pointer (some ⟨gb,go+j*tsz Tryz.prog 9,none⟩)) (fun S vals wd hk hp hI=>?_) ?_
   ·(conv=>whnf);refine ⟨⟨gb,go,j,rfl,by omega,by omega,?_⟩⟩;(conv=>whnf);exact ⟨rfl,hI⟩
   (conv=>whnf);refine StepG.of (.string es[j]) (fun S vals wd hk hp hI=>?_) ?_
   ·(conv=>whnf);refine LoadV.of (Ext.cell (Ext.trans (Ext.refl _).drew hI.mem.ext) hcell) ?_;(conv=>whnf);exact ⟨rfl,hI⟩
   (conv=>whnf);refine StepG.any (fun S vals wd hk hp hI=>?_) ?_
   ·dsimp only at hI;rw [hk] at hI;(conv=>whnf);refine CallV.of (qrh ((k+1:Nat):Int) (by omega) es[j] hsz wd) ?_;rintro v w9 ⟨hrd,h9⟩;obtain ⟨x,u,rfl,hΦ⟩:=hrd.phi;exact ⟨trivial,hI.called ((Mem.nil wd).call h9) hΦ⟩
   (conv=>whnf);refine StepG.any (fun S vals wd hk hp hI=>?_) ?_
   ·dsimp only at hI;have h9:S 9=true:=hp 9 (by decide);rw [hk,h9] at hI;obtain ⟨x,u,hv,hK⟩:=hI.moved;rw [qh hv];(conv=>whnf);exact ⟨trivial,by show Ca _ _ _ _ _ _ (S 13) (S 14) (S 9) true (S 11) (S 12) (S 15) _ _ _ _ _ _ _;rw [h9];exact hK⟩
   (conv=>whnf);refine StepG.any (fun S vals wd hk hp hI=>?_) ?_
   ·dsimp only at hI;have h10:S 10=true:=hp 10 (by decide);rw [hk,h10] at hI;obtain ⟨x,u,R',hv,hΦ,hK⟩:=hI.fst;obtain ⟨tk,ta,tb,tc,rfl⟩:=hΦ.agg;rw [qh hv];(conv=>whnf);exact ⟨trivial,by show Ca _ _ _ _ _ _ (S 13) (S 14) (S 9) (S 10) true (S 12) (S 15) _ _ _ _ _ _ _;rw [h10];exact hK⟩
   (conv=>whnf);refine StepG.any (fun S vals wd hk hp hI=>?_) ?_
   ·dsimp only at hI;have h10:S 10=true:=hp 10 (by decide);rw [hk,h10] at hI;obtain ⟨x,u,R',hv,hΦ,hK⟩:=hI.snd;obtain ⟨e,rfl⟩:=hΦ.int;rw [qh hv];(conv=>whnf);exact ⟨trivial,by show Ca _ _ _ _ _ _ (S 13) (S 14) (S 9) (S 10) (S 11) true (S 15) _ _ _ _ _ _ _;rw [h10];exact hK⟩
   (conv=>whnf);refine StepG.any (fun S vals wd hk hp hI=>?_) ?_
   ·dsimp only at hI;rw [hk] at hI;(conv=>whnf);refine ⟨fun x wx hb hw=>?_⟩;subst hb hw;(conv=>whnf);exact ⟨trivial,hI.made⟩
   (conv=>whnf);refine StepG.of undef (fun S vals wd hk hp hI=>?_) ?_
   ·dsimp only at hI;have h11:S 11=true:=hp 11 (by decide);have h13:S 13=true:=hp 13 (by decide);rw [hk,h11,h13] at hI;obtain ⟨x,u,R',hx,hΦ⟩:=hI.see;obtain ⟨tk,ta,tb,tc,rfl⟩:=hΦ.agg;rw [hx] at hI;obtain ⟨b,x2,u2,R2,hv,h0,hΦ2,M,hmM,hK⟩:=hI.put1;subst h0;rw [qh hv,qh hx];(conv=>whnf);refine zS hmM 0 ?_;intro wx hmx;(conv=>whnf);exact ⟨rfl,by show Ca _ _ _ _ _ _ (S 13) true (S 9) (S 10) (S 11) (S 12) (S 15) _ _ _ _ _ _ _;rw [h11,h13];exact hK hmx rfl⟩
   (conv=>whnf);refine StepG.any (fun S vals wd hk hp hI=>?_) ?_
   ·dsimp only at hI;have h12:S 12=true:=hp 12 (by decide);rw [hk,h12] at hI;obtain ⟨x,u,R',hx,hΦ⟩:=hI.see2;obtain ⟨e,rfl⟩:=hΦ.int;rw [hx] at hI;rw [qh hx];(conv=>whnf);exact ⟨trivial,by show Ca _ _ _ _ _ _ (S 13) (S 14) (S 9) (S 10) (S 11) (S 12) true _ _ _ _ _ _ _;rw [h12];exact hI.keepS (fun _ _=>rfl)⟩
   (conv=>whnf);intro vals w16 hI;obtain ⟨tb,x,u,R',hv1,hv2,hv3,hv4,hΦ,hm⟩:=hI.done;replace hv2:vals 15=u:=hv2;obtain ⟨e,eu⟩:=hΦ.int;rw [eu] at hv2;rw [qh hv1,qh hv2];clear hI hv1 hv2 hv3 hv4;obtain ⟨hR0,hΦ2⟩:=hΦ;subst hR0;have hR:=Rw.join (V.Rw.drew hR) hm
   rcases hΦ2 with ⟨e',he0,rfl,rfl⟩|⟨t,hrt,htok,rfl,rfl⟩
   ·cases eu;obtain ⟨y,ey⟩:∃ y,y=qi l k:=⟨_,rfl⟩
    have hPk:=hP k (by omega);rw [← ey] at hPk;have hm:Mem w w16 ((tb,.cells #[.int .i64 0,.string ⟨#[]⟩,.string ⟨#[]⟩,.string ⟨#[]⟩] 73 (0,0))::(kb,.cells (fnA 3 (inF fun i:Nat=>((i+1:Nat):Int))) 124 (0,0))::(dv,.cells (fnA 3 (G)) 205 (0,0))::(fb,.cells #[.int .i64 0,.int .i64 0] 57 (0,0))::(sb,.cells (fnA 4 (inF P)) 128 (0,0))::(r3,.cells #[.int .i64 0,.int .i64 0] 57 (0,0))::R):=hR.mem;(conv=>whnf);refine zY (fun _=>?_);(conv=>whnf);refine DrawV.inv (fun S w'=>Mem w w' ((tb,.cells #[.int .i64 0,.string ⟨#[]⟩,.string ⟨#[]⟩,.string ⟨#[]⟩] 73 (0,0))::(kb,.cells (fnA 3 (inF fun i:Nat=>((i+1:Nat):Int))) 124 (0,0))::(dv,.cells (fnA 3 (G)) 205 (0,0))::(fb,.cells #[.int .i64 0,.int .i64 0] 57 (0,0))::(sb,.cells (fnA 4 (inF P)) 128 (0,0))::(r3,.cells (bif S 5 then #[.int .i64 (y:Nat),.int .i64 170] else #[.int .i64 0,.int .i64 0]) 57 (0,0))::R)) rfl (by kernel_rfl) hm.drew ?_;clear hm;(conv=>whnf);refine zI ?_;(conv=>whnf);refine StepI.of (.pointer (some ⟨sb,0+k*tsz Tryz.prog 3,none⟩)) (fun S wd hk hp hI=>?_) ?_
    ·(conv=>whnf);refine IdxV.at_ k (by omega) (by omega) ?_;(conv=>whnf);exact ⟨rfl,hI⟩
    (conv=>whnf);refine StepI.of (.int .i64 (y:Nat)) (fun S wd hk hp hI=>?_) ?_
    ·(conv=>whnf);refine LoadV.fim (x:=((y:Nat):Int)) hI (b:=sb) (F:=P) (n:=4) (t:=128) (by simp) k (by rw [show tsz Tryz.prog 3=1 from by kernel_rfl];omega) (by omega) hPk ?_;(conv=>whnf);exact ⟨rfl,hI⟩
    (conv=>whnf);refine zI ?_;(conv=>whnf);refine zI ?_;(conv=>whnf);refine StepI.of undef (fun S wd hk hp hI=>?_) ?_
    ·dsimp only at hI;rw [hk] at hI;(conv=>whnf);refine zS hI 5 ?_;intro wx hmx;(conv=>whnf);exact ⟨rfl,hmx⟩
    (conv=>whnf);intro wz hm;have hm:Mem w wz ((tb,.cells #[.int .i64 0,.string ⟨#[]⟩,.string ⟨#[]⟩,.string ⟨#[]⟩] 73 (0,0))::(kb,.cells (fnA 3 (inF fun i:Nat=>((i+1:Nat):Int))) 124 (0,0))::(dv,.cells (fnA 3 (G)) 205 (0,0))::(fb,.cells #[.int .i64 0,.int .i64 0] 57 (0,0))::(sb,.cells (fnA 4 (inF P)) 128 (0,0))::(r3,.cells #[.int .i64 (y:Nat),.int .i64 170] 57 (0,0))::R):=hm;(conv=>whnf);refine qa (R:=fun v w'=>VoW l w.heap.size v w'∧Ext w w') ?_;(conv=>whnf);refine zL hm 5 ?_;(conv=>whnf);exact ⟨.inl ⟨_,_,by decide,⟨by omega,by have:=qc6 (qpu hE).2 (k:=k) (by omega);omega⟩,rfl⟩,hm.ext⟩
   ·cases eu;have hR:Rw w w16 (.slice B ts.length cc) 73 4 ts.length (ts.map encT).flatten ((tb,.cells #[.int .i64 t.kind,.string t.text,.string t.type,.string t.lang] 73 (0,0))::(kb,.cells (fnA 3 (inF fun i:Nat=>((i+1:Nat):Int))) 124 (0,0))::(dv,.cells (fnA 3 (G)) 205 (0,0))::(fb,.cells #[.int .i64 0,.int .i64 0] 57 (0,0))::(sb,.cells (fnA 4 (inF P)) 128 (0,0))::(r3,.cells #[.int .i64 0,.int .i64 0] 57 (0,0))::R):=hR;have hm:=hR.mem;have hlen:=hV.len;have hbd:vTot l k≤8388608:=by
     have hdn:∀ m,m<3→dN (qn l m)≤4194304:=fun m hm=>(qvs (hG m hm).1).1
     have h0:=hdn 0 (by omega);have h1:=hdn 1 (by omega)
     rcases (show k=0∨k=1∨k=2 by omega) with rfl|rfl|rfl<;>simp only [vTot]<;>omega
    (conv=>whnf);refine zN (fun _=>?_);(conv=>whnf);refine zL hm 0 ?_;(conv=>whnf);refine NewV.rw hR ?_;clear hR hm;intro nb w17 hR;(conv=>whnf);refine AppV.rw (m:=1) (news:=encT t) qhm trmI trmZ (by kernel_rfl) (by kernel_rfl) (by decide) hR rfl (fun _=>⟨nb,0,rfl,fun k v hv=>?_⟩) (qy t) (by rw [show ((Tryz.prog.info? 73).get (by kernel_rfl)).bytes=56 from by kernel_rfl];omega) (by omega) ?_
    ·rw [qd (hR.mem.get (List.mem_cons_self ..)),Nat.zero_add];rw [List.getElem?_toArray];exact hv
    clear hR;intro B2 c2 w18 hR;have hR:Rw w w18 (.slice B2 (ts++[t]).length c2) 73 4 (ts++[t]).length ((ts++[t]).map encT).flatten ((kb,.cells (fnA 3 (inF fun i:Nat=>((i+1:Nat):Int))) 124 (0,0))::(dv,.cells (fnA 3 (G)) 205 (0,0))::(fb,.cells #[.int .i64 0,.int .i64 0] 57 (0,0))::(sb,.cells (fnA 4 (inF P)) 128 (0,0))::(r3,.cells #[.int .i64 0,.int .i64 0] 57 (0,0))::R):=by
     have e:((ts++[t]).map encT).flatten=(ts.map encT).flatten++encT t:=by simp
     rw [e,List.length_append];exact hR.tail.tail
    (conv=>whnf);refine zA ?_;(conv=>whnf);refine ⟨(j+1,ts++[t],B2,c2),⟨rfl,rfl,rfl,?_,rfl,rfl,rfl,trivial⟩,⟨by simp only;omega,hV.one htok (hes j _ (List.getElem?_eq_getElem hjl)) hsz hrt,hR⟩,by simp only;omega⟩;show Value.slice B2 (ts.length+1) c2=Value.slice B2 (ts++[t]).length c2;rw [List.length_append];rfl
  ·obtain rfl:j=dN (qn l k):=by omega
   exact ⟨(k+1,ts,B,cc),⟨rfl,rfl,rfl,rfl,rfl,rfl,trivial⟩,⟨by simp only;omega,hV.next,hR⟩,by simp only;omega⟩
 ·obtain rfl:k=3:=by omega
  have hW:(wE l).2=0:=by
   rw [wE,if_neg (by omega)];exact qap fun m hm=>by rw [sdF,if_pos (hG m hm).1]
  have hlen:ts.length=vTot l 3:=hV.len;refine StoreA.same (hR.mem.get (L:=_) (by simp):w14.heap[r3]?=some (.cells #[.int .i64 0,.int .i64 0] 57 (0,0))) rfl (by decide) ?_;intro w15 he15;(conv=>whnf);refine qa (R:=fun v w'=>VoW l w.heap.size v w'∧Ext w w') ?_;(conv=>whnf);refine LoadA.mem (hR.mem.call he15) (i:=4) rfl rfl ?_;(conv=>whnf);rw [hlen] at hR ⊢;exact ⟨.inr ⟨hW,ts,hV,B,cc,rfl,qbz hR.own he15⟩,hR.mem.ext.trans he15⟩
open Go.RowKit V
set_option maxRecDepth 100000
def txtC (a b:ByteArray):Int:=if slt a b=true then -1 else if seq a b=true then 0 else 1
def cmpT (a b:TM):Int:=
 if a.kind≠b.kind then (if a.kind<b.kind then -1 else 1) else if txtC a.text b.text≠0 then txtC a.text b.text else if txtC a.type b.type≠0 then txtC a.type b.type else txtC a.lang b.lang
theorem qgy (a b:ByteArray) (w:World):Gv Tryz.prog 238 [.string a,.string b] w fun r w'=>r=.int .i64 (txtC a b)∧w'=w:=by
 cases h1:slt a b
 ·cases h2:seq a b
  ·refine zE Tryz.func238 Tryz.ntmps238 ?_;(conv=>whnf);rw [h1];refine zU ?_;(conv=>whnf);refine zP ?_;rw [h1,h2];refine Tst.no rfl ?_;(conv=>whnf);exact ⟨by simp [txtC,h1,h2],rfl⟩
  ·refine zE Tryz.func238 Tryz.ntmps238 ?_;(conv=>whnf);rw [h1];refine zU ?_;(conv=>whnf);refine zP ?_;rw [h1,h2];refine Tst.yes rfl ?_;(conv=>whnf);exact ⟨by simp [txtC,h1,h2],rfl⟩
 ·refine zE Tryz.func238 Tryz.ntmps238 ?_;(conv=>whnf);rw [h1];refine zT ?_;(conv=>whnf);exact ⟨by simp [txtC,h1],rfl⟩
theorem qfc (a b:TM) (w:World):Gv Tryz.prog 184 [qa2 a,qa2 b] w fun r w'=>r=.int .i64 (cmpT a b)∧Ext w w':=by
 refine zE Tryz.func184 Tryz.ntmps184 ?_;(conv=>whnf);refine NewV.mem (Mem.nil w) ?_;intro b1 w1 hm;(conv=>whnf);refine NewV.mem hm ?_;intro b2 w2 hm;conv=>whnf
 by_cases hk:a.kind=b.kind
 ·refine LoadV.mem (i:=1) (by assumption) rfl rfl ?_;(conv=>whnf);refine LoadV.mem (i:=0) (by assumption) rfl rfl ?_;(conv=>whnf);refine zN (fun _=>?_);(conv=>whnf);refine LoadV.mem (i:=1) (by assumption) rfl rfl ?_;(conv=>whnf);refine LoadV.mem (i:=0) (by assumption) rfl rfl ?_;(conv=>whnf);refine CallV.of (qgy a.text b.text w2) ?_;rintro v w3 ⟨rfl,hw⟩;subst hw;conv=>whnf
  by_cases h1:txtC a.text b.text=0
  ·refine zY (fun _=>?_);(conv=>whnf);refine LoadV.mem (i:=1) (by assumption) rfl rfl ?_;(conv=>whnf);refine LoadV.mem (i:=0) (by assumption) rfl rfl ?_;(conv=>whnf);refine CallV.of (qgy a.type b.type w3) ?_;rintro v w4 ⟨rfl,hw⟩;subst hw;conv=>whnf
   by_cases h2:txtC a.type b.type=0
   ·refine zY (fun _=>?_);(conv=>whnf);refine LoadV.mem (i:=1) (by assumption) rfl rfl ?_;(conv=>whnf);refine LoadV.mem (i:=0) (by assumption) rfl rfl ?_;(conv=>whnf);refine CallV.of (qgy a.lang b.lang w4) ?_;rintro v w5 ⟨rfl,hw⟩;subst hw;(conv=>whnf);exact ⟨by rw [cmpT,if_neg (by simpa using hk),if_neg (by simpa using h1),if_neg (by simpa using h2)],hm.ext⟩
   ·refine zN (fun _=>?_);(conv=>whnf);exact ⟨by rw [cmpT,if_neg (by simpa using hk),if_neg (by simpa using h1),if_pos h2],hm.ext⟩
  ·(iterate 2 (refine zN (fun _=>?_);(conv=>whnf)));exact ⟨by rw [cmpT,if_neg (by simpa using hk),if_pos h1],hm.ext⟩
 ·refine LoadV.mem (i:=1) (by assumption) rfl rfl ?_;(conv=>whnf);refine LoadV.mem (i:=0) (by assumption) rfl rfl ?_;(conv=>whnf);refine zY (fun _=>?_);(conv=>whnf);refine LoadV.mem (i:=1) (by assumption) rfl rfl ?_;(conv=>whnf);refine LoadV.mem (i:=0) (by assumption) rfl rfl ?_;(conv=>whnf);refine zC (fun _=>?_) (fun _=>?_)<;>(conv=>whnf)
  ·exact ⟨by rw [cmpT,if_pos hk,if_pos (by assumption)],hm.ext⟩
  ·exact ⟨by rw [cmpT,if_pos hk,if_neg (by assumption)],hm.ext⟩
theorem qwn (q:Q4):qc3 q=if qE 0 q.s≠0 then qE 0 q.s else if qE 1 q.p≠0 then qE 1 q.p else if qE 2 q.o≠0 then qE 2 q.o else qE 3 q.g:=by
 have hlen:((List.range 4).map fun k=>qE k (q.at k)).length=4:=by simp
 have hget:∀ j (hj:j<((List.range 4).map fun k=>qE k (q.at k)).length),((List.range 4).map fun k=>qE k (q.at k))[j]=qE j (q.at j):=fun j hj=>by simp
 have hbad:∀ k,k<4→(∀ j,j<k→qE j (q.at j)=0)→qE k (q.at k)≠0→qc3 q=qE k (q.at k):=fun k hk h hne=>by
  rw [qc3,ql1 (k:=k) (by rw [hlen];exact hk) (fun j hj hjk=>by rw [hget];exact h j hjk) (by rw [hget];exact hne),hget]
 by_cases h0:qE 0 q.s≠0
 ·rw [if_pos h0];exact hbad 0 (by omega) (fun j h=>by omega) h0
 rw [if_neg h0]
 by_cases h1:qE 1 q.p≠0
 ·rw [if_pos h1];exact hbad 1 (by omega) (fun j h=>by (obtain rfl:j=0:=by omega);exact Decidable.not_not.1 h0) h1
 rw [if_neg h1]
 by_cases h2:qE 2 q.o≠0
 ·rw [if_pos h2];exact hbad 2 (by omega) (fun j h=>by
   rcases (show j=0∨j=1 by omega) with rfl|rfl
   ·exact Decidable.not_not.1 h0
   ·exact Decidable.not_not.1 h1) h2
 rw [if_neg h2]
 by_cases h3:qE 3 q.g≠0
 ·exact hbad 3 (by omega) (fun j h=>by
   rcases (show j=0∨j=1∨j=2 by omega) with rfl|rfl|rfl
   ·exact Decidable.not_not.1 h0
   ·exact Decidable.not_not.1 h1
   ·exact Decidable.not_not.1 h2) h3
 ·rw [Decidable.not_not.1 h3,qc3,qe0 fun j hj=>by
   rw [hget];rw [hlen] at hj
   rcases (show j=0∨j=1∨j=2∨j=3 by omega) with rfl|rfl|rfl|rfl
   ·exact Decidable.not_not.1 h0
   ·exact Decidable.not_not.1 h1
   ·exact Decidable.not_not.1 h2
   ·exact Decidable.not_not.1 h3]
theorem q0h {k:Nat} {t:TM} (hk:k=0∨k=1) (h:canB k t=true):qE k t=qa7 t:=by rw [qE,if_neg (by rw [h];simp),if_neg (by omega)]
theorem qE_2 (t:TM):qE 2 t=qa7 t:=by
 rw [qE]
 by_cases h:canB 2 t=false
 ·rw [if_pos h];rw [canB,if_neg (by omega),if_neg (by omega),if_pos (by omega),Bool.and_eq_false_iff,decide_eq_false_iff_not,decide_eq_false_iff_not] at h;rw [qa7,if_neg (by omega),if_neg (by omega)]
 ·rw [if_neg h,if_neg (by omega)]
set_option maxHeartbeats 1000000 in
theorem qhj (q:Q4) (hq:qji q) (w:World):Gv Tryz.prog 117 [qat q] w fun v w'=>v=.int .i64 (qc3 q)∧Ext w w':=by
 refine zE Tryz.func117 Tryz.ntmps117 ?_;(conv=>whnf);refine NewV.mem (Mem.nil w) ?_;intro b w1 hm;have hc:CellsAt w1 b 0 (qaw q):=CellsAt.mem hm (List.mem_cons_self ..);have e0:canB 0 q.s=(decide (q.s.kind=1)||decide (q.s.kind=2)):=by rw [canB,if_pos (by omega)]
 have e1:canB 1 q.p=decide (q.p.kind=1):=by rw [canB,if_neg (by omega),if_pos (by omega)]
 have e3:canB 3 q.g=(qr3 q.g||decide (q.g.kind=1)||decide (q.g.kind=2)):=by rw [canB,if_neg (by omega),if_neg (by omega),if_neg (by omega)]
 have hz:∀ t:TM,qbb t ⟨0,⟨#[]⟩,⟨#[]⟩,⟨#[]⟩⟩=qr3 t:=fun _=>rfl
 rw [qwn];conv=>whnf
 (repeat' (first|((with_reducible refine zT ?_);(conv=>whnf))|((with_reducible refine zU ?_);(conv=>whnf))|((with_reducible refine zC (fun _=>?_) (fun _=>?_))<;>first|(exfalso;omega)|(conv=>whnf))|(refine LoadV.mem (i:=0) (by assumption) rfl rfl ?_;(conv=>whnf))))
 ·exact ⟨by rw [if_pos (by rw [qE,if_pos (by rw [e0];simp;omega)];decide),qE,if_pos (by rw [e0];simp;omega)];rfl,hm.ext⟩
 all_goals
  have c0:canB 0 q.s=true:=by rw [e0];simp;omega
  rw [q0h (.inl rfl) c0];refine LoadA.cells (qaa hc 0 (by omega)) rfl ?_;(conv=>whnf);refine CallV.of (qa0 q.s (hq 0) w1) ?_;rintro v w2 ⟨rfl,he2⟩;have hm:=hm.call he2;have hc:=hc.ext he2;conv=>whnf
  by_cases hs:qa7 q.s=0
  ·rw [if_neg (by omega)]
   (repeat' (first|((with_reducible refine zC (fun _=>?_) (fun _=>?_))<;>first|(exfalso;omega)|(conv=>whnf))|(refine LoadV.mem (i:=0) (by assumption) rfl rfl ?_;(conv=>whnf))))
   ·exact ⟨by rw [if_pos (by rw [qE,if_pos (by rw [e1];simp;omega)];decide),qE,if_pos (by rw [e1];simp;omega)];rfl,hm.ext⟩
   have c1:canB 1 q.p=true:=by rw [e1];simp;omega
   rw [q0h (.inr rfl) c1];refine LoadA.cells (qaa hc 1 (by omega)) rfl ?_;(conv=>whnf);refine CallV.of (qa0 q.p (hq 1) w2) ?_;rintro v w3 ⟨rfl,he3⟩;have hm:=hm.call he3;have hc:=hc.ext he3;conv=>whnf
   by_cases hp:qa7 q.p=0
   ·rw [if_neg (by omega)]
    (repeat' ((with_reducible refine zC (fun _=>?_) (fun _=>?_))<;>first|(exfalso;omega)|(conv=>whnf)))
    rw [qE_2];refine LoadA.cells (qaa hc 2 (by omega)) rfl ?_;(conv=>whnf);refine CallV.of (qa0 q.o (hq 2) w3) ?_;rintro v w4 ⟨rfl,he4⟩;have hm:=hm.call he4;have hc:=hc.ext he4;conv=>whnf
    by_cases ho:qa7 q.o=0
    ·rw [if_neg (by omega)]
     (repeat' ((with_reducible refine zC (fun _=>?_) (fun _=>?_))<;>first|(exfalso;omega)|(conv=>whnf)))
     refine LoadA.cells (qaa hc 3 (by omega)) rfl ?_;(conv=>whnf);refine RunV.eqTerm (a:=q.g) (b:=⟨0,⟨#[]⟩,⟨#[]⟩,⟨#[]⟩⟩) (.inl rfl) ?_;rw [hz];cases hg:qr3 q.g
     ·rw [hg] at e3;conv=>whnf
      (repeat' (refine Tst.no rfl ?_;(conv=>whnf)))
      (repeat' (first|((with_reducible refine zT ?_);(conv=>whnf))|((with_reducible refine zU ?_);(conv=>whnf))|((with_reducible refine zC (fun _=>?_) (fun _=>?_))<;>first|(exfalso;omega)|(conv=>whnf))|(refine LoadV.mem (i:=0) (by assumption) rfl rfl ?_;(conv=>whnf))))
      ·exact ⟨by rw [qE,if_pos (by rw [e3];simp;omega)];rfl,hm.ext⟩
      all_goals
       have c3:canB 3 q.g=true:=by rw [e3];simp;omega
       refine LoadA.cells (qaa hc 3 (by omega)) rfl ?_;(conv=>whnf);refine CallV.of (qa0 q.g (hq 3) w4) ?_;rintro v w5 ⟨rfl,he5⟩;(conv=>whnf);exact ⟨by rw [qE,if_neg (by rw [c3];simp),if_neg (by omega)],hm.ext.trans he5⟩
     ·have c3:canB 3 q.g=true:=by rw [e3,hg];rfl
      have hk0:q.g.kind=0:=by
       have:=qm0.1 ((hz q.g).trans hg);rw [this]
      (conv=>whnf)
      (repeat' (refine Tst.yes rfl ?_;(conv=>whnf)))
      exact ⟨by rw [qE,if_neg (by rw [c3];simp),if_pos ⟨rfl,hk0⟩];rfl,hm.ext⟩
    ·rw [if_pos ho]
     (repeat' ((with_reducible refine zC (fun _=>?_) (fun _=>?_))<;>first|(exfalso;omega)|(conv=>whnf)))
     exact ⟨rfl,hm.ext⟩
   ·rw [if_pos hp]
    (repeat' ((with_reducible refine zC (fun _=>?_) (fun _=>?_))<;>first|(exfalso;omega)|(conv=>whnf)))
    exact ⟨rfl,hm.ext⟩
  ·rw [if_pos hs]
   (repeat' ((with_reducible refine zC (fun _=>?_) (fun _=>?_))<;>first|(exfalso;omega)|(conv=>whnf)))
   exact ⟨rfl,hm.ext⟩
end Go.Proofs.YtajgbepghniciaaGreatDoor
