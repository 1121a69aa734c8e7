/- Lemmas and contracts of functions on the way to the law's card (part 5 of 13). -/
import Derived.Test.YtajgbepghniciaaGreatDoorPV4
import Derived.Laws.Small
import Derived.Laws.StructEq
namespace Go.Proofs.YtajgbepghniciaaGreatDoor
open Go.RowKit V
set_option maxRecDepth 100000
structure TM where
 kind:Int
 text:ByteArray
 type:ByteArray
 lang:ByteArray
def encT (t:TM):List Value:=[.int .i64 t.kind,.string t.text,.string t.type,.string t.lang]
def qa2 (t:TM):Value:=.agg #[.int .i64 t.kind,.string t.text,.string t.type,.string t.lang]
structure TermOk (t:TM):Prop where
 kind:InR .i64 t.kind
 text:t.text.size≤1048576
 type:t.type.size≤1048576
 lang:t.lang.size≤1048576
def qea:ByteArray:=⟨#[104,116,116,112,58,47,47,119,119,119,46,119,51,46,111,114,103,47,49,57,57,57,47,48,50,47,50,50,45,114,100,102,45,115,121,110,116,97,120,45,110,115,35,108,97,110,103,83,116,114,105,110,103]⟩
open Classical in
noncomputable def litE (t:TM):Nat:=
 if 65536<t.text.size then 2 else if scal t.text.data.toList=none then 40 else if iriE t.type≠0 then iriE t.type
 else if seq t.lang ⟨#[]⟩=false∧65536<t.lang.size then 2
 else if seq t.lang ⟨#[]⟩=false∧(tagE (qaz t.lang)≠0∨seq (lowS t.lang) t.lang=false) then 61
 else if (!seq t.lang ⟨#[]⟩)≠seq t.type qea then 71 else 0
noncomputable def qa7 (t:TM):Nat:=
 if t.kind=1∨t.kind=2 then (if seq t.type ⟨#[]⟩=false∨seq t.lang ⟨#[]⟩=false then 70 else if t.kind=1 then iriE t.text else if 65536<t.text.size then 2 else labE t.text)
 else if t.kind=3 then litE t else 70
theorem qj3 (l:List ByteArray):tagE l=0∨tagE l=61:=by
 by_cases h:tagP l
 ·exact .inl (qi4 h)
 ·exact .inr (qcm h)
theorem qxr (a:Int) (b:Nat) (w:World) (hb:w.heap[b]?=some (.cells #[.int .i64 a,.int .i64 61] 26 (0,0))) :
  Gv Tryz.prog 150 [.slice (some ⟨b,0,none⟩) 2 2] w fun v w'=>v=.int .i64 (if a=0 then 61 else a)∧w'=w:=by
 refine zE Tryz.func150 Tryz.ntmps150 ?_;(conv=>whnf);refine qm (fun i:Nat=>[(3,.int .i64 0),(6,.slice (some ⟨b,0,none⟩) 2 2),(7,.int .i64 2),(8,.int .i64 i)]) (fun i w1=>i≤1∧(i=1→a=0)∧w1=w) (fun i=>2-i) 0 ⟨rfl,rfl,rfl,rfl,trivial⟩ ⟨by omega,by omega,rfl⟩ ?_;rintro i w1 ρ' ⟨h1,h2,rfl⟩;obtain rfl|rfl:i=0∨i=1:=by omega
 ·(conv=>whnf);refine zY (fun _=>?_);(conv=>whnf);refine ElemV.own1 0 rfl (by omega) ?_;(conv=>whnf);refine LoadV.of (by rw [qd hb];rfl) ?_;conv=>whnf
  (repeat' (first|(refine zA ?_;(conv=>whnf))|((with_reducible refine zC (fun _=>?_) (fun _=>?_))<;>first|(exfalso;omega)|(conv=>whnf))))
  ·exact ⟨by rw [if_neg (by omega)],rfl⟩
  ·exact ⟨1,⟨rfl,rfl,rfl,rfl,trivial⟩,⟨by omega,fun _=>by omega,rfl⟩,by omega⟩
 ·(conv=>whnf);refine zY (fun _=>?_);(conv=>whnf);refine ElemV.own1 1 rfl (by omega) ?_;(conv=>whnf);refine LoadV.of (by rw [qd hb];rfl) ?_;(conv=>whnf);refine zY (fun _=>?_);(conv=>whnf);exact ⟨by rw [if_pos (h2 rfl)],rfl⟩
theorem qnq (t:TM) (ht:TermOk t) (w:World) (hM:MaxLenAt w):Gv Tryz.prog 87 [qa2 t] w fun v w'=>v=.int .i64 (litE t)∧Ext w w':=by
 obtain ⟨h1,h2,h3,h4⟩:=ht;refine zE Tryz.func87 Tryz.ntmps87 ?_;(conv=>whnf);refine NewV.mem (Mem.nil w) ?_;intro b w1 hm;conv=>whnf
 (repeat' (first|((with_reducible refine zC (fun _=>?_) (fun _=>?_))<;>first|(exfalso;omega)|(conv=>whnf))|(refine LoadV.mem (i:=0) (by assumption) rfl rfl ?_;(conv=>whnf))))
 ·exact ⟨by rw [litE,if_pos (show 65536<t.text.size by omega)];rfl,hm.ext⟩
 ·refine CallV.of (qlt t.text (by omega) w1) ?_;rintro v w2 ⟨⟨i,rfl,hi,hi1,hi2⟩,rfl⟩;have n1:¬ 65536<t.text.size:=by omega
  (conv=>whnf)
  (repeat' (first|((with_reducible refine zC (fun _=>?_) (fun _=>?_))<;>first|(exfalso;omega)|(conv=>whnf))|(refine LoadV.mem (i:=0) (by assumption) rfl rfl ?_;(conv=>whnf))))
  ·have hs:scal t.text.data.toList=none:=Classical.byContradiction fun h=>by have:=hi1 h;omega
   exact ⟨by rw [litE,if_neg n1,if_pos hs];rfl,hm.ext⟩
  ·have n2:¬ scal t.text.data.toList=none:=fun h=>by have:=hi2 h;omega
   refine CallV.of (qg5 t.type (by omega) w2) ?_;rintro v w3 ⟨rfl,he3⟩;have hm:=hm.call he3;have eL:litE t=if iriE t.type≠0 then iriE t.type else if seq t.lang ⟨#[]⟩=false∧65536<t.lang.size then 2
     else if seq t.lang ⟨#[]⟩=false∧(tagE (qaz t.lang)≠0∨seq (lowS t.lang) t.lang=false) then 61 else if (!seq t.lang ⟨#[]⟩)≠seq t.type qea then 71 else 0:=by rw [litE,if_neg n1,if_neg n2]
   rw [eL];conv=>whnf
   (repeat' (first|((with_reducible refine zC (fun _=>?_) (fun _=>?_))<;>first|(exfalso;omega)|(conv=>whnf))|((with_reducible refine zP ?_))|(refine LoadV.mem (i:=0) (by assumption) rfl rfl ?_;(conv=>whnf))))
   ·exact ⟨by rw [if_pos (by omega)],hm.ext⟩
   ·rw [if_neg (by omega)];cases hl:seq t.lang ⟨#[]⟩
    ·(conv=>whnf)
     (repeat' (first|((with_reducible refine zU ?_);(conv=>whnf))|((with_reducible refine zC (fun _=>?_) (fun _=>?_))<;>first|(exfalso;omega)|(conv=>whnf))|(refine LoadV.mem (i:=0) (by assumption) rfl rfl ?_;(conv=>whnf))))
     ·exact ⟨by rw [if_pos ⟨rfl,by omega⟩];rfl,hm.ext⟩
     ·rw [if_neg (show ¬ (false=false∧65536<t.lang.size) by omega)];refine CallV.of (qzm t.lang (by omega) w3 (hM.ext hm.ext)) ?_;rintro v w4 ⟨⟨c0,c1,c2,c3,c4,c5,c6,hc,rfl⟩,he4⟩;have hm4:=hm.call he4;obtain ⟨E,hE⟩:∃ E,E=tagE (qaz t.lang):=⟨_,rfl⟩
      have hE2:=qj3 (qaz t.lang);rw [← hE] at hE2 ⊢;(conv=>whnf);refine NewV.mem hm4 ?_;intro tb w5 hm5;(conv=>whnf);refine StoreA.mem hm5 (i:=0) rfl (Nat.le_refl 7) hc ?_;intro w6 hm6;(conv=>whnf);have hlang:w6.cell? ⟨b,3,none⟩=some (.string t.lang):=by rw [qd (hm6.get (List.mem_of_getElem? (i:=1) rfl))];rfl
      rcases hE2 with rfl|rfl
      ·refine DrawV.free rfl (by kernel_rfl) ?_;(conv=>whnf);refine zD ?_;(conv=>whnf);refine zD ?_;(conv=>whnf);refine zD ?_;(conv=>whnf);refine zD ?_ (by intro wd hd;(conv=>whnf);(refine zN (fun _=>?_);(conv=>whnf));exact ⟨Ext.refl _,rfl⟩);(conv=>whnf);refine zD ?_ (by intro wd hd;(conv=>whnf);(refine zN (fun _=>?_);(conv=>whnf));refine LoadV.of (Ext.cell (Ext.trans (Ext.drew (Ext.refl _)) hd) hlang) ?_;(conv=>whnf);exact ⟨Ext.refl _,rfl⟩);(conv=>whnf);apply StepD.still
       ·intro wd hd;(conv=>whnf);refine zN (fun _=>?_);(conv=>whnf);refine CallV.of (qdz t.lang (by omega) wd) ?_;rintro v w7 ⟨rfl,he7⟩;exact ⟨he7,rfl⟩
       (conv=>whnf);refine zD ?_ (by intro wd hd;(conv=>whnf);(refine zN (fun _=>?_);(conv=>whnf));exact ⟨Ext.refl _,rfl⟩);(conv=>whnf);refine zD ?_ (by intro wd hd;(conv=>whnf);(refine zN (fun _=>?_);(conv=>whnf));refine LoadV.of (Ext.cell (Ext.trans (Ext.drew (Ext.refl _)) hd) hlang) ?_;(conv=>whnf);exact ⟨Ext.refl _,rfl⟩);(conv=>whnf);refine zD ?_ (by intro wd hd;(conv=>whnf);(refine zN (fun _=>?_);(conv=>whnf));exact ⟨Ext.refl _,rfl⟩);(conv=>whnf);refine zD ?_ (by intro wd hd;(conv=>whnf);(refine zN (fun _=>?_);(conv=>whnf));exact ⟨Ext.refl _,rfl⟩);(conv=>whnf);intro wd hd;(conv=>whnf);have hm7:=hm6.drew.call hd;have hlang7:wd.cell? ⟨b,3,none⟩=some (.string t.lang):=by rw [qd (hm7.get (List.mem_of_getElem? (i:=1) rfl))];rfl
       have hty7:wd.cell? ⟨b,2,none⟩=some (.string t.type):=by rw [qd (hm7.get (List.mem_of_getElem? (i:=1) rfl))];rfl
       cases hlo:seq (lowS t.lang) t.lang
       ·rw [if_pos ⟨rfl,.inr rfl⟩];(conv=>whnf);refine zP ?_;refine zU ?_;(conv=>whnf);refine NewV.mem hm7 ?_;intro ab w8 hm8;(conv=>whnf);refine CallV.of (qxr 0 ab w8 (hm8.get (List.mem_cons_self ..))) ?_;rintro v w9 ⟨rfl,rfl⟩;(conv=>whnf);exact ⟨rfl,hm8.ext⟩
       ·rw [if_neg (by simp)];(conv=>whnf);refine zP ?_;refine zT ?_;(conv=>whnf);(iterate 2 (refine LoadV.mem (i:=1) (by assumption) rfl rfl ?_;(conv=>whnf)));refine zP ?_;show Tst ((!seq t.lang ⟨#[]⟩)==seq t.type qea) _ _;rw [hl];cases ht:seq t.type qea
        ·(conv=>whnf);refine Tst.beqF ?_;refine zP ?_;refine zU ?_;(conv=>whnf);exact ⟨rfl,hm7.ext⟩
        ·(conv=>whnf);refine Tst.beqT ?_;refine zP ?_;refine zU ?_;(conv=>whnf);exact ⟨rfl,hm7.ext⟩
      ·rw [if_pos ⟨rfl,.inl (by decide)⟩];refine DrawV.free rfl (by kernel_rfl) ?_;(conv=>whnf);refine zD ?_;(conv=>whnf);refine zD ?_;(conv=>whnf);refine zD ?_;(conv=>whnf);refine zD ?_ (by intro wd hd;(conv=>whnf);(refine zY (fun _=>?_);(conv=>whnf));exact ⟨Ext.refl _,rfl⟩);(conv=>whnf);refine zD ?_ (by intro wd hd;(conv=>whnf);(refine zY (fun _=>?_);(conv=>whnf));exact ⟨Ext.refl _,rfl⟩);(conv=>whnf);refine zD ?_ (by intro wd hd;(conv=>whnf);(refine zY (fun _=>?_);(conv=>whnf));exact ⟨Ext.refl _,rfl⟩);(conv=>whnf);refine zD ?_ (by intro wd hd;(conv=>whnf);(refine zY (fun _=>?_);(conv=>whnf));exact ⟨Ext.refl _,rfl⟩);(conv=>whnf);refine zD ?_ (by intro wd hd;(conv=>whnf);(refine zY (fun _=>?_);(conv=>whnf));exact ⟨Ext.refl _,rfl⟩);(conv=>whnf);refine zD ?_ (by intro wd hd;(conv=>whnf);(refine zY (fun _=>?_);(conv=>whnf));exact ⟨Ext.refl _,rfl⟩);(conv=>whnf);refine zD ?_ (by intro wd hd;(conv=>whnf);(refine zY (fun _=>?_);(conv=>whnf));exact ⟨Ext.refl _,rfl⟩);(conv=>whnf);intro wd hd;(conv=>whnf);have hm7:=hm6.drew.call hd;refine zT ?_;(conv=>whnf);refine NewV.mem hm7 ?_;intro ab w8 hm8;(conv=>whnf);refine CallV.of (qxr 61 ab w8 (hm8.get (List.mem_cons_self ..))) ?_;rintro v w9 ⟨rfl,rfl⟩;(conv=>whnf);exact ⟨rfl,hm8.ext⟩
    ·rw [if_neg (by simp),if_neg (by simp)];(conv=>whnf);refine zT ?_;(conv=>whnf);(iterate 2 (refine LoadV.mem (i:=0) (by assumption) rfl rfl ?_;(conv=>whnf)));refine zP ?_;show Tst ((!seq t.lang ⟨#[]⟩)==seq t.type qea) _ _;rw [hl];cases ht:seq t.type qea
     ·(conv=>whnf);refine Tst.beqF ?_;refine zP ?_;refine zT ?_;(conv=>whnf);exact ⟨rfl,hm.ext⟩
     ·(conv=>whnf);refine Tst.beqT ?_;refine zP ?_;refine zT ?_;(conv=>whnf);exact ⟨rfl,hm.ext⟩
theorem qf2 (t:TM) (ht:TermOk t) (w:World) (hM:MaxLenAt w) (hT:CellsAt w 3 0 qbo):Gv Tryz.prog 47 [qa2 t] w fun v w'=>v=.int .i64 (qa7 t)∧Ext w w':=by
 have hlit:=fun w1 (he:Ext w w1)=>qnq t ht w1 (hM.ext he)
 obtain ⟨h1,h2,h3,h4⟩:=ht;refine zE Tryz.func47 Tryz.ntmps47 ?_;(conv=>whnf);refine NewV.mem (Mem.nil w) ?_;intro b w1 hm;(conv=>whnf);have hA:(t.kind=1∨t.kind=2)→qa7 t=if seq t.type ⟨#[]⟩=false∨seq t.lang ⟨#[]⟩=false then 70 else if t.kind=1 then iriE t.text else if 65536<t.text.size then 2 else labE t.text:=fun h=>by rw [qa7,if_pos h]
 have hB:¬ (t.kind=1∨t.kind=2)→qa7 t=if t.kind=3 then litE t else 70:=fun h=>by rw [qa7,if_neg h]
 (repeat' (first|((with_reducible refine zC (fun _=>?_) (fun _=>?_))<;>first|(exfalso;omega)|(conv=>whnf))|((with_reducible refine zP ?_))|(refine LoadV.mem (i:=0) (by assumption) rfl rfl ?_;(conv=>whnf))))
 ·rw [hA (.inl (by assumption))];cases hy:seq t.type ⟨#[]⟩
  ·(conv=>whnf);refine zU ?_;(conv=>whnf);(iterate 4 (refine zT ?_;(conv=>whnf)));exact ⟨by rw [if_pos (.inl rfl)];rfl,hm.ext⟩
  ·(conv=>whnf);refine zT ?_;(conv=>whnf);refine zU ?_;(conv=>whnf);refine LoadV.mem (i:=0) (by assumption) rfl rfl ?_;(conv=>whnf);(iterate 2 (refine zU ?_;(conv=>whnf)));refine zP ?_;cases hl:seq t.lang ⟨#[]⟩
   ·(conv=>whnf);refine zU ?_;(conv=>whnf);exact ⟨by rw [if_pos (.inr rfl)];rfl,hm.ext⟩
   ·rw [if_neg (by simp),if_pos (by assumption)];(conv=>whnf);refine zT ?_;(conv=>whnf);refine LoadV.mem (i:=0) (by assumption) rfl rfl ?_;(conv=>whnf);refine zY (fun _=>?_);(conv=>whnf);refine LoadV.mem (i:=0) (by assumption) rfl rfl ?_;(conv=>whnf);refine CallV.of (qg5 t.text (by omega) w1) ?_;rintro v w2 ⟨rfl,he⟩;(conv=>whnf);exact ⟨rfl,hm.ext.trans he⟩
 ·rw [hA (.inr (by assumption))];cases hy:seq t.type ⟨#[]⟩
  ·(conv=>whnf);refine zU ?_;(conv=>whnf);(iterate 4 (refine zT ?_;(conv=>whnf)));exact ⟨by rw [if_pos (.inl rfl)];rfl,hm.ext⟩
  ·(conv=>whnf);refine zT ?_;(conv=>whnf);refine zU ?_;(conv=>whnf);refine LoadV.mem (i:=0) (by assumption) rfl rfl ?_;(conv=>whnf);(iterate 2 (refine zU ?_;(conv=>whnf)));refine zP ?_;cases hl:seq t.lang ⟨#[]⟩
   ·(conv=>whnf);refine zU ?_;(conv=>whnf);exact ⟨by rw [if_pos (.inr rfl)];rfl,hm.ext⟩
   ·rw [if_neg (by simp),if_neg (by omega)];conv=>whnf
    (repeat' (first|((with_reducible refine zT ?_);(conv=>whnf))|((with_reducible refine zC (fun _=>?_) (fun _=>?_))<;>first|(exfalso;omega)|(conv=>whnf))|(refine LoadV.mem (i:=0) (by assumption) rfl rfl ?_;(conv=>whnf))))
    ·exact ⟨by rw [if_pos (by omega)];rfl,hm.ext⟩
    ·rw [if_neg (by omega)];refine CallV.of (qtj t.text (by omega) w1 (hT.ext hm.ext)) ?_;rintro v w2 ⟨rfl,rfl⟩;(conv=>whnf);exact ⟨rfl,hm.ext⟩
 ·rw [hB (by omega),if_pos (by assumption)];refine zL hm 0 ?_;(conv=>whnf);refine CallV.of (hlit w1 hm.ext) ?_;rintro v w2 ⟨rfl,he⟩;(conv=>whnf);exact ⟨rfl,hm.ext.trans he⟩
 ·exact ⟨by rw [hB (by omega),if_neg (by omega)];rfl,hm.ext⟩
open Go.RowKit V
set_option maxRecDepth 100000
theorem qwj (d:Bool) (r:Nat) (l:List Nat):okT d (r::l)=((qcw r||decide (r=46))&&okT (decide (r=46)) l):=rfl
theorem qj2 (r0:Nat) (t:List Nat) (A:Option Addr) (c:Nat) (w:World) (hA:SlAt Go.Proofs.YtajgbepghniciaaGreatDoor.V.encI 1 w A ((r0::t).map Int.ofNat)) (hl:t.length≤4000000000000) :
  Gv Tryz.prog 154 [.slice A (t.length+1) c] w fun v w'=>v=.bool (okT false t)∧Ext w w':=by
 refine zE Tryz.func154 Tryz.ntmps154 ?_;(conv=>whnf);refine qm (fun x:Nat × Bool=>[(0,.slice A (t.length+1) c),(3,.int .i64 (x.1+1:Nat))]) (fun x w2=>x.1≤t.length∧okT false t=okT x.2 (t.drop x.1)∧(x.2=true→x.1<t.length)∧Ext w w2) (fun x=>t.length-x.1) (0,false) ⟨rfl,rfl,trivial⟩ ⟨by simp,rfl,by simp,Ext.refl _⟩ ?_;rintro ⟨i,d⟩ w2 ρ' ⟨h1,h2,h3,he⟩;simp only at h1 h2 h3;dsimp only;(conv=>whnf);refine zC (fun _=>?_) (fun _=>?_)<;>(conv=>whnf)
 ·have hil:i<t.length:=by omega
  have hget:∀ w' (_:Ext w w'),∃ b off,A=some ⟨b,off,none⟩∧w'.cell? ⟨b,off+(i+1)*1,none⟩=some (.int .i64 t[i]):=fun w' he'=>by
   obtain ⟨b,off,e1,e2⟩:=(hA.ext he').at_ (by simp);refine ⟨b,off,e1,?_⟩;have:=e2 (i+1) (Int.ofNat t[i]) (by simp [hil]) 0 (.int .i64 t[i]) rfl
   simpa using this
  rw [List.drop_eq_getElem_cons hil,qwj] at h2;obtain ⟨b,off,rfl,hc⟩:=hget w2 he;refine ⟨b,off,i+1,rfl,by omega,by omega,?_⟩;(conv=>whnf);refine LoadV.of hc ?_;(conv=>whnf);refine CallV.of (qil _ w2) ?_;rintro v w3 ⟨rfl,he3⟩;have hf46:qcw 46=false:=by decide
  cases hf:qcw t[i]
  ·rw [hf,Bool.false_or] at h2;(conv=>whnf);refine zP ?_;refine zU ?_;(conv=>whnf);(iterate 2 (refine zT ?_;(conv=>whnf)));refine ⟨b,off,i+1,rfl,by omega,by omega,?_⟩;(conv=>whnf);obtain ⟨b',off',e1,hc3⟩:=hget w3 (he.trans he3);cases e1;refine zT ?_;(conv=>whnf);refine LoadV.of hc3 ?_;conv=>whnf
   (repeat' (first|(refine zA ?_;(conv=>whnf))|((with_reducible refine zT ?_);(conv=>whnf))|((with_reducible refine zU ?_);(conv=>whnf))|((with_reducible refine zC (fun _=>?_) (fun _=>?_))<;>first|(exfalso;omega)|(conv=>whnf))))
   ·refine ⟨congrArg Value.bool ?_,he.trans he3⟩;rw [h2,decide_eq_false (by omega)];rfl
   ·refine ⟨congrArg Value.bool ?_,he.trans he3⟩;rw [h2,decide_eq_true (by omega),List.drop_eq_nil_of_le (by omega)];rfl
   ·refine ⟨(i+1,true),⟨rfl,rfl,trivial⟩,⟨by simp only;omega,?_,by simp only;omega,he.trans he3⟩,by simp only;omega⟩;rw [h2,decide_eq_true (by omega),Bool.true_and]
  ·have hne:t[i]≠46:=by intro e;rw [e] at hf;rw [show ((46:Nat):Int)=46 from rfl,hf46] at hf;cases hf
   rw [hf,Bool.true_or,Bool.true_and,decide_eq_false hne] at h2;(conv=>whnf);refine zP ?_;refine zT ?_;(conv=>whnf);(iterate 8 (refine zU ?_;(conv=>whnf)));refine zA ?_;(conv=>whnf);exact ⟨(i+1,false),⟨rfl,rfl,trivial⟩,⟨by simp only;omega,h2,by simp,he.trans he3⟩,by simp only;omega⟩
 ·refine ⟨congrArg Value.bool ?_,he⟩;have hi:i=t.length:=by omega
  rw [h2,List.drop_eq_nil_of_le (by omega)];cases d with
  | false=>rfl
  | true=>have:=h3 rfl;omega
theorem qmu (s:ByteArray) (hs:s.size≤4000000000000) (w:World) :
  Gv Tryz.prog 88 [.string s] w fun v w'=>v=.int .i64 (labE s)∧Ext w w':=by
 have hsc:=qn9 s hs w;have hno:qbn s=false→labE s=60:=fun h=>by rw [labE,if_neg (by rw [h];simp)]
 have hyes:qbn s=true→labE s=0:=fun h=>by rw [labE,if_pos h]
 refine zE Tryz.func88 Tryz.ntmps88 ?_;(conv=>whnf);refine CallV.of (hsc) ?_;rintro v w1 ⟨⟨hn,rfl⟩|⟨l,A,c,hl,rfl,hA,hlen⟩,he⟩
 ·have hL:qbn s=false:=by rw [qbn,hn]
  (conv=>whnf);refine zP ?_;refine zU ?_;(conv=>whnf);(iterate 16 (refine zT ?_;(conv=>whnf)));exact ⟨by rw [hno hL];rfl,he⟩
 ·have hL:qbn s=labL l:=by rw [qbn,hl]
  cases l with
  | nil=>
   simp only [List.length_nil];(conv=>whnf);refine zP ?_;refine zT ?_;(conv=>whnf);(iterate 3 (refine zU ?_;(conv=>whnf)));refine zY (fun _=>?_);(conv=>whnf);(iterate 12 (refine zT ?_;(conv=>whnf)));exact ⟨by rw [hno hL];rfl,he⟩
  | cons r0 t=>
   have hL:qbn s=(labB r0&&okT false t):=hL;have hget:∀ w' (_:Ext w1 w'),∃ b off,A=some ⟨b,off,none⟩∧w'.cell? ⟨b,off+0*1,none⟩=some (.int .i64 r0):=fun w' he'=>by
    obtain ⟨b,off,e1,e2⟩:=(hA.ext he').at_ (by simp);exact ⟨b,off,e1,by simpa using e2 0 (Int.ofNat r0) (by simp) 0 (.int .i64 r0) rfl⟩
   obtain ⟨b,off,rfl,hc⟩:=hget w1 (Ext.refl _);simp only [List.length_cons] at hlen ⊢;(conv=>whnf);refine zP ?_;refine zT ?_;(conv=>whnf);(iterate 3 (refine zU ?_;(conv=>whnf)));refine zN (fun _=>?_);(conv=>whnf);refine zU ?_;(conv=>whnf);refine ⟨b,off,0,rfl,by omega,by omega,?_⟩;(conv=>whnf);refine zU ?_;(conv=>whnf);refine LoadV.of hc ?_;(conv=>whnf);refine zU ?_;(conv=>whnf);refine CallV.of (qes _ w1) ?_;rintro v w2 ⟨rfl,he2⟩;cases hS:qev r0
   ·(conv=>whnf);(iterate 2 (refine zU ?_;(conv=>whnf)));refine zP ?_;refine zU ?_;(conv=>whnf);refine zT ?_;(conv=>whnf);refine ⟨b,off,0,rfl,by omega,by omega,?_⟩;(conv=>whnf);refine zT ?_;(conv=>whnf);obtain ⟨b',off',e1,hc2⟩:=hget w2 he2;cases e1;refine LoadV.of hc2 ?_;(conv=>whnf);refine zT ?_;(conv=>whnf);refine CallV.of (qft _ w2) ?_;rintro v w3 ⟨rfl,rfl⟩;cases hD:digN r0
    ·have hb:qbn s=false:=by rw [hL,labB,hS,hD];rfl
     (conv=>whnf);(iterate 2 (refine zT ?_;(conv=>whnf);refine zU ?_;(conv=>whnf)));refine zP ?_;refine zU ?_;(conv=>whnf);(iterate 4 (refine zT ?_;(conv=>whnf)));exact ⟨by rw [hno hb];rfl,he.trans he2⟩
    ·have hb:labB r0=true:=by rw [labB,hS,hD];rfl
     (conv=>whnf);(iterate 2 (refine zT ?_;(conv=>whnf);refine zU ?_;(conv=>whnf)));refine zP ?_;refine zT ?_;(conv=>whnf);refine zU ?_;(conv=>whnf);refine CallV.of (qj2 r0 t _ c w3 (hA.ext he2) (by omega)) ?_;rintro v w4 ⟨rfl,he4⟩;have hx:=he.trans (he2.trans he4);cases hO:okT false t
     ·have hb:qbn s=false:=by rw [hL,hO,Bool.and_false]
      (conv=>whnf);(iterate 2 (refine zU ?_;(conv=>whnf)));refine zP ?_;refine zU ?_;(conv=>whnf);exact ⟨by rw [hno hb];rfl,hx⟩
     ·have hb:qbn s=true:=by rw [hL,hb,hO];rfl
      (conv=>whnf);(iterate 2 (refine zU ?_;(conv=>whnf)));refine zP ?_;refine zT ?_;(conv=>whnf);exact ⟨by rw [hyes hb];rfl,hx⟩
   ·have hb:labB r0=true:=by rw [labB,hS];rfl
    (conv=>whnf);(iterate 2 (refine zU ?_;(conv=>whnf)));refine zP ?_;refine zT ?_;(conv=>whnf);(iterate 9 (refine zU ?_;(conv=>whnf)));refine CallV.of (qj2 r0 t _ c w2 (hA.ext he2) (by omega)) ?_;rintro v w4 ⟨rfl,he4⟩;have hx:=he.trans (he2.trans he4);cases hO:okT false t
    ·have hb:qbn s=false:=by rw [hL,hO,Bool.and_false]
     (conv=>whnf);(iterate 2 (refine zU ?_;(conv=>whnf)));refine zP ?_;refine zU ?_;(conv=>whnf);exact ⟨by rw [hno hb];rfl,hx⟩
    ·have hb:qbn s=true:=by rw [hL,hb,hO];rfl
     (conv=>whnf);(iterate 2 (refine zU ?_;(conv=>whnf)));refine zP ?_;refine zT ?_;(conv=>whnf);exact ⟨by rw [hyes hb];rfl,hx⟩
open Go.RowKit V
set_option maxRecDepth 100000
theorem qma (s:ByteArray):seq (lowS s) s=true↔∀ i,i<s.size→¬ (65≤(gb s i).toNat∧(gb s i).toNat≤90):=by
 rw [q7]
 constructor
 ·intro h i hi hc;have e:=congrArg (fun b:ByteArray=>b.data.toList[i]?) h;have hi':i<s.data.toList.length:=by simpa using hi
  simp only [lowS,List.getElem?_map] at e;rw [List.getElem?_eq_getElem hi'] at e;have hg:s.data.toList[i]=gb s i:=by rw [gb,List.getD_eq_getElem?_getD,List.getElem?_eq_getElem hi',Option.getD_some]
  rw [hg] at e;have e:=Option.some.inj e;have:=qk1 (gb s i) hc;rw [e] at this;omega
 ·intro h;have e:s.data.toList.map lowB=s.data.toList:=by
   apply List.ext_getElem (by simp);intro i h1 h2;rw [List.getElem_map];have hg:s.data.toList[i]=gb s i:=by rw [gb,List.getD_eq_getElem?_getD,List.getElem?_eq_getElem h2,Option.getD_some]
   rw [hg];exact qk2 _ (h i (by simpa using h2))
  unfold lowS;rw [e]
theorem qjc (t:TM) (ht:TermOk t) (w:World):Gv Tryz.prog 155 [qa2 t] w fun v w'=>v=.int .i64 (litE t)∧Ext w w':=by
 obtain ⟨h1,h2,h3,h4⟩:=ht;refine zE Tryz.func155 Tryz.ntmps155 ?_;(conv=>whnf);refine NewV.mem (Mem.nil w) ?_;intro b w1 hm;conv=>whnf
 (repeat' (first|((with_reducible refine zC (fun _=>?_) (fun _=>?_))<;>first|(exfalso;omega)|(conv=>whnf))|(refine LoadV.mem (i:=0) (by assumption) rfl rfl ?_;(conv=>whnf))))
 ·exact ⟨by rw [litE,if_pos (show 65536<t.text.size by omega)];rfl,hm.ext⟩
 ·have n1:¬ 65536<t.text.size:=by omega
  refine CallV.of (qha t.text (by omega) w1) ?_;rintro v w2 ⟨⟨i,rfl,hi,hi1,hi2⟩,he2⟩;have hm:=hm.call he2;conv=>whnf
  (repeat' (first|((with_reducible refine zC (fun _=>?_) (fun _=>?_))<;>first|(exfalso;omega)|(conv=>whnf))|(refine LoadV.mem (i:=0) (by assumption) rfl rfl ?_;(conv=>whnf))))
  ·have hs:scal t.text.data.toList=none:=Classical.byContradiction fun h=>by have:=hi1 h;omega
   exact ⟨by rw [litE,if_neg n1,if_pos hs];rfl,hm.ext⟩
  ·have n2:¬ scal t.text.data.toList=none:=fun h=>by have:=hi2 h;omega
   refine CallV.of (qd7 t.type (by omega) w2) ?_;rintro v w3 ⟨rfl,he3⟩;have hm:=hm.call he3;have eL:litE t=if iriE t.type≠0 then iriE t.type else if seq t.lang ⟨#[]⟩=false∧65536<t.lang.size then 2
     else if seq t.lang ⟨#[]⟩=false∧(tagE (qaz t.lang)≠0∨seq (lowS t.lang) t.lang=false) then 61 else if (!seq t.lang ⟨#[]⟩)≠seq t.type qea then 71 else 0:=by rw [litE,if_neg n1,if_neg n2]
   rw [eL];conv=>whnf
   (repeat' (first|((with_reducible refine zC (fun _=>?_) (fun _=>?_))<;>first|(exfalso;omega)|(conv=>whnf))|((with_reducible refine zP ?_))|(refine LoadV.mem (i:=0) (by assumption) rfl rfl ?_;(conv=>whnf))))
   ·exact ⟨by rw [if_pos (by omega)],hm.ext⟩
   ·rw [if_neg (by omega)];cases hl:seq t.lang ⟨#[]⟩
    ·(conv=>whnf)
     (repeat' (first|((with_reducible refine zU ?_);(conv=>whnf))|((with_reducible refine zC (fun _=>?_) (fun _=>?_))<;>first|(exfalso;omega)|(conv=>whnf))|(refine LoadV.mem (i:=0) (by assumption) rfl rfl ?_;(conv=>whnf))))
     ·exact ⟨by rw [if_pos ⟨rfl,by omega⟩];rfl,hm.ext⟩
     ·rw [if_neg (show ¬ (false=false∧65536<t.lang.size) by omega)];refine CallV.of (qrk t.lang (by omega) w3) ?_;rintro v w4 ⟨⟨c0,c1,c2,c3,c4,c5,c6,hc,rfl⟩,he4⟩;have hm4:=hm.call he4;obtain ⟨E,hE⟩:∃ E,E=tagE (qaz t.lang):=⟨_,rfl⟩
      have hE2:=qj3 (qaz t.lang);rw [← hE] at hE2 ⊢;conv=>whnf
      rcases hE2 with rfl|rfl
      ·refine zN (fun _=>?_);(conv=>whnf);have lg:∀ w5,Ext w4 w5→w5.cell? ⟨b,3,none⟩=some (.string t.lang):=fun w5 he5=>by rw [qd ((hm4.call he5).get (List.mem_of_getElem? (i:=0) rfl))];rfl
       refine qm (fun i:Nat=>[(1,.pointer (some ⟨b,0,none⟩)),(4,.int .i64 i)])
        (fun i w5=>Ext w4 w5∧i≤t.lang.size∧∀ j,j<i→¬ (65≤(gb t.lang j).toNat∧(gb t.lang j).toNat≤90))
        (fun i=>t.lang.size-i) 0 ⟨rfl,rfl,trivial⟩ ⟨Ext.refl _,by omega,fun j h0=>by omega⟩ ?_
       rintro i w5 ρ' ⟨he5,hi,hj⟩;have hm5:=hm4.call he5;(conv=>whnf);refine zR hm5 0 ?_;conv=>whnf
       (repeat' (first|(refine zA ?_;(conv=>whnf))|((with_reducible refine zT ?_);(conv=>whnf))|((with_reducible refine zU ?_);(conv=>whnf))|((with_reducible refine zC (fun _=>?_) (fun _=>?_))<;>first|(exfalso;omega)|(conv=>whnf))|((with_reducible refine zP ?_))|((with_reducible refine zX ?_);(conv=>whnf))|(refine LoadV.mem (i:=0) (by assumption) rfl rfl ?_;(conv=>whnf))))
       ·have hlow:seq (lowS t.lang) t.lang=false:=Bool.eq_false_iff.2 fun h=>qma t.lang |>.1 h i (by omega) (by omega)
        exact ⟨by rw [if_pos ⟨rfl,.inr hlow⟩];rfl,hm5.ext⟩
       ·refine ⟨i+1,⟨rfl,rfl,trivial⟩,⟨he5,by omega,fun j hji=>?_⟩,by omega⟩
        by_cases e:j=i
        ·subst e;omega
        ·exact hj j (by omega)
       ·refine ⟨i+1,⟨rfl,rfl,trivial⟩,⟨he5,by omega,fun j hji=>?_⟩,by omega⟩
        by_cases e:j=i
        ·subst e;omega
        ·exact hj j (by omega)
       ·have hlow:seq (lowS t.lang) t.lang=true:=qma t.lang |>.2 fun j hj'=>hj j (by omega)
        rw [if_neg (by rw [hlow];simp)];show Tst ((!seq t.lang ⟨#[]⟩)==seq t.type qea) _ _;rw [hl];cases ht:seq t.type qea
        ·(conv=>whnf);refine Tst.beqF ?_;refine zP ?_;refine zU ?_;(conv=>whnf);exact ⟨rfl,hm5.ext⟩
        ·(conv=>whnf);refine Tst.beqT ?_;refine zP ?_;refine zU ?_;(conv=>whnf);exact ⟨rfl,hm5.ext⟩
      ·(conv=>whnf);refine zY (fun _=>?_);(conv=>whnf);exact ⟨by rw [if_pos ⟨rfl,.inl (by decide)⟩],hm4.ext⟩
    ·rw [if_neg (by simp),if_neg (by simp)];(conv=>whnf);refine zT ?_;(conv=>whnf);(iterate 2 (refine LoadV.mem (i:=0) (by assumption) rfl rfl ?_;(conv=>whnf)));refine zP ?_;show Tst ((!seq t.lang ⟨#[]⟩)==seq t.type qea) _ _;rw [hl];cases ht:seq t.type qea
     ·(conv=>whnf);refine Tst.beqF ?_;refine zP ?_;refine zT ?_;(conv=>whnf);exact ⟨rfl,hm.ext⟩
     ·(conv=>whnf);refine Tst.beqT ?_;refine zP ?_;refine zT ?_;(conv=>whnf);exact ⟨rfl,hm.ext⟩
theorem qa0 (t:TM) (ht:TermOk t) (w:World):Gv Tryz.prog 90 [qa2 t] w fun v w'=>v=.int .i64 (qa7 t)∧Ext w w':=by
 have hlit:=fun w1=>qjc t ht w1
 obtain ⟨h1,h2,h3,h4⟩:=ht;refine zE Tryz.func90 Tryz.ntmps90 ?_;(conv=>whnf);refine NewV.mem (Mem.nil w) ?_;intro b w1 hm;(conv=>whnf);have hA:(t.kind=1∨t.kind=2)→qa7 t=if seq t.type ⟨#[]⟩=false∨seq t.lang ⟨#[]⟩=false then 70 else if t.kind=1 then iriE t.text else if 65536<t.text.size then 2 else labE t.text:=fun h=>by rw [qa7,if_pos h]
 have hB:¬ (t.kind=1∨t.kind=2)→qa7 t=if t.kind=3 then litE t else 70:=fun h=>by rw [qa7,if_neg h]
 (repeat' (first|((with_reducible refine zC (fun _=>?_) (fun _=>?_))<;>first|(exfalso;omega)|(conv=>whnf))|((with_reducible refine zP ?_))|(refine LoadV.mem (i:=0) (by assumption) rfl rfl ?_;(conv=>whnf))))
 ·rw [hA (.inl (by assumption))];cases hy:seq t.type ⟨#[]⟩
  ·(conv=>whnf);refine zU ?_;(conv=>whnf);(iterate 4 (refine zT ?_;(conv=>whnf)));exact ⟨by rw [if_pos (.inl rfl)];rfl,hm.ext⟩
  ·(conv=>whnf);refine zT ?_;(conv=>whnf);refine zU ?_;(conv=>whnf);refine LoadV.mem (i:=0) (by assumption) rfl rfl ?_;(conv=>whnf);(iterate 2 (refine zU ?_;(conv=>whnf)));refine zP ?_;cases hl:seq t.lang ⟨#[]⟩
   ·(conv=>whnf);refine zU ?_;(conv=>whnf);exact ⟨by rw [if_pos (.inr rfl)];rfl,hm.ext⟩
   ·rw [if_neg (by simp),if_pos (by assumption)];(conv=>whnf);refine zT ?_;(conv=>whnf);refine LoadV.mem (i:=0) (by assumption) rfl rfl ?_;(conv=>whnf);refine zY (fun _=>?_);(conv=>whnf);refine LoadV.mem (i:=0) (by assumption) rfl rfl ?_;(conv=>whnf);refine CallV.of (qd7 t.text (by omega) w1) ?_;rintro v w2 ⟨rfl,he⟩;(conv=>whnf);exact ⟨rfl,hm.ext.trans he⟩
 ·rw [hA (.inr (by assumption))];cases hy:seq t.type ⟨#[]⟩
  ·(conv=>whnf);refine zU ?_;(conv=>whnf);(iterate 4 (refine zT ?_;(conv=>whnf)));exact ⟨by rw [if_pos (.inl rfl)];rfl,hm.ext⟩
  ·(conv=>whnf);refine zT ?_;(conv=>whnf);refine zU ?_;(conv=>whnf);refine LoadV.mem (i:=0) (by assumption) rfl rfl ?_;(conv=>whnf);(iterate 2 (refine zU ?_;(conv=>whnf)));refine zP ?_;cases hl:seq t.lang ⟨#[]⟩
   ·(conv=>whnf);refine zU ?_;(conv=>whnf);exact ⟨by rw [if_pos (.inr rfl)];rfl,hm.ext⟩
   ·rw [if_neg (by simp),if_neg (by omega)];conv=>whnf
    (repeat' (first|((with_reducible refine zT ?_);(conv=>whnf))|((with_reducible refine zC (fun _=>?_) (fun _=>?_))<;>first|(exfalso;omega)|(conv=>whnf))|(refine LoadV.mem (i:=0) (by assumption) rfl rfl ?_;(conv=>whnf))))
    ·exact ⟨by rw [if_pos (by omega)];rfl,hm.ext⟩
    ·rw [if_neg (by omega)];refine CallV.of (qmu t.text (by omega) w1) ?_;rintro v w2 ⟨rfl,he⟩;(conv=>whnf);exact ⟨rfl,hm.ext.trans he⟩
 ·rw [hB (by omega),if_pos (by assumption)];refine zL hm 0 ?_;(conv=>whnf);refine CallV.of (hlit w1) ?_;rintro v w2 ⟨rfl,he⟩;(conv=>whnf);exact ⟨rfl,hm.ext.trans he⟩
 ·exact ⟨by rw [hB (by omega),if_neg (by omega)];rfl,hm.ext⟩
end Go.Proofs.YtajgbepghniciaaGreatDoor
namespace Go.Proofs.YtajgbepghniciaaGreatDoor
open Go.RowKit
namespace V
theorem StoreA.all {P:Program} {w0 w:World} {L:List (Nat × Obj)} {i b:Nat} {cur:Array Value} {t:TypeId} {vs:List Value} {K:World→Prop} (h:Mem w0 w L) (hi:L[i]?=some (b,.cells cur t (0,0)))
  (hl:cur.size=vs.length) (h1:∀ v∈vs,v.oneCell'=true) (hk:∀ w',Mem w0 w' (L.set i (b,.cells vs.toArray t (0,0)))→K w'):StoreA P w b 0 vs K:=by
 refine StoreA.mem h hi (by omega) h1 fun w' hw=>hk w' ?_;have e:(cur.toList.take 0++vs++cur.toList.drop (0+vs.length)).toArray=vs.toArray:=by
  rw [List.take_zero,List.nil_append,List.drop_eq_nil_of_le (by simp;omega),List.append_nil]
 rwa [e] at hw
end V
open V
end Go.Proofs.YtajgbepghniciaaGreatDoor
namespace Go.Proofs.YtajgbepghniciaaGreatDoor
open Go.RowKit
namespace V
def encB (c:UInt8):List Value:=[.int .u8 c.toNat]
structure BS (w:World) (v:Value) (l:List UInt8):Prop where
 h:∃ A c,v=.slice A l.length c∧l.length≤c∧SlAt encB 1 w A l
theorem BS.ext {w w':World} {v:Value} {l:List UInt8} (h:BS w v l) (he:Ext w w'):BS w' v l:=by
 obtain ⟨A,c,h1,h2,h3⟩:=h;exact ⟨A,c,h1,h2,h3.ext he⟩
theorem BS.nil (w:World):BS w (.slice none 0 0) []:=⟨none,0,rfl,by simp,⟨fun h=>absurd rfl h⟩⟩
theorem SlAt.cut {α:Type} {enc:α→List Value} {size:Nat} {w:World} {A A':Option Addr} {l:List α} {lo hi m:Nat} (h:SlAt enc size w A l) (h1:lo≤hi) (h2:hi≤l.length) (h3:hi≤m)
  (e:A'=if m=lo then A else A.map (·.add (lo*size))):SlAt enc size w A' ((l.drop lo).take (hi-lo)):=by
 refine ⟨fun hne=>?_⟩;have hlt:lo<hi:=by
  rcases Nat.lt_or_ge lo hi with h|h
  ·exact h
  ·exact absurd (by rw [show hi-lo=0 by omega,List.take_zero]) hne
 have hn:l≠[]:=by rintro rfl;simp at h2;omega
 obtain ⟨b,off,rfl,hc⟩:=h.at_ hn;rw [if_neg (by omega)] at e;simp only [Option.map_some,qai] at e;refine ⟨b,off+lo*size,e,fun j x hx=>?_⟩;have hj:j<hi-lo:=by
  have:=(List.getElem?_eq_some_iff.1 hx).1;simp at this;omega
 have hx':l[lo+j]?=some x:=by
  rw [List.getElem?_take,if_pos hj,List.getElem?_drop] at hx;exact hx
 have:=hc (lo+j) x hx'
 rwa [Nat.add_mul,← Nat.add_assoc] at this
theorem SliceV.bs {w:World} {A:Option Addr} {n c:Nat} {lo hi mx:Option Value} {l:List UInt8} {K:Value→Prop} (hA:SlAt encB 1 w A l) (hl:l.length=n) (a b m:Nat) (h1:bnd lo 0 a) (h2:bnd hi n b) (h3:bnd mx c m) (hab:a≤b) (hbn:b≤n) (hbm:b≤m) (hm:m≤c)
  (hs:mx.isSome=true→hi.isSome=true) (hk:∀ A',SlAt encB 1 w A' ((l.drop a).take (b-a))→K (.slice A' (b-a) (m-a))):SliceV 1 A n c lo hi mx K:=
 ⟨a,b,m,h1,h2,h3,hab,hbm,hm,hs,fun A' e=>hk A' (hA.cut hab (by omega) hbm e)⟩
theorem ElemV.bs {w:World} {A:Option Addr} {n:Nat} {l:List UInt8} {i:Int} {K:Value→Prop} (hA:SlAt encB 1 w A l) (hl:l.length=n) (j:Nat) (e:i=(j:Int)) (hj:j<n)
  (hk:∀ b off,w.cell? ⟨b,off,none⟩=some (.int .u8 (l[j]'(hl ▸ hj)).toNat)→K (.pointer (some ⟨b,off,none⟩))):ElemV A i n 1 K:=
 ElemV.sl hA hl j e hj fun b off hc=>hk b off (by have:=hc 0 _ rfl;rwa [Nat.add_zero] at this)
structure Upd (w w':World) (b:Nat) (o:Obj):Prop where
 os:w'.os=w.os
 tape:w'.tape=w.tape
 output:w'.output=w.output
 size:w.heap.size≤w'.heap.size
 block:∀ k,k<w.heap.size→k≠b→w'.heap[k]?=w.heap[k]?
 at_:w'.heap[b]?=some o
theorem Upd.refl {w:World} {b:Nat} {o:Obj} (h:w.heap[b]?=some o):Upd w w b o:=⟨rfl,rfl,rfl,Nat.le_refl _,fun _ _ _=>rfl,h⟩
theorem Upd.of {w w':World} {b:Nat} {o:Obj} (h:w.heap[b]?=some o) (he:Ext w w'):Upd w w' b o:=⟨he.os,he.tape,he.output,he.size,fun k hk _=>he.block k hk,he.get h⟩
theorem Upd.set {w w':World} {b off:Nat} {cs:Array Value} {t:TypeId} {fr:Nat × Nat} {v:Value} (h:w.heap[b]?=some (.cells cs t fr)) (hw:w'=w.setCell ⟨b,off,none⟩ v):Upd w w' b (.cells (cs.setIfInBounds off v) t fr):=by
 subst hw;exact ⟨rfl,rfl,rfl,by simp [World.setCell],fun k _ hk=>Below.heap_setCell _ _ _ _ hk,heap_setCell h⟩
theorem Upd.trans {a b c:World} {k:Nat} {o o':Obj} (h:Upd a b k o) (h':Upd b c k o'):Upd a c k o':=
 ⟨h'.os.trans h.os,h'.tape.trans h.tape,h'.output.trans h.output,Nat.le_trans h.size h'.size,fun j hj hne=>(h'.block j (Nat.lt_of_lt_of_le hj h.size) hne).trans (h.block j hj hne),h'.at_⟩
theorem Upd.ext {w0 w w':World} {b:Nat} {o:Obj} (h:Upd w w' b o) (he:Ext w0 w) (hb:w0.heap.size≤b):Ext w0 w':=
 Below.trans he ⟨h.os,h.tape,h.output,h.size,fun k hk=>h.block k (Nat.lt_of_lt_of_le hk he.size) (by omega)⟩
theorem Mem.upd {w0 w w':World} {L:List (Nat × Obj)} {i b:Nat} {o o':Obj} (h:Mem w0 w L) (hi:L[i]?=some (b,o)) (hu:Upd w w' b o'):Mem w0 w' (L.set i (b,o')):=by
 have hm:(b,o)∈L:=List.mem_of_getElem? hi;have hil:i<L.length:=(List.getElem?_eq_some_iff.1 hi).1;have hib:L[i]=(b,o):=(List.getElem?_eq_some_iff.1 hi).2;have hn:((L.set i (b,o')).map (·.1))=L.map (·.1):=by
  rw [List.map_set];apply List.ext_getElem?;intro j;rw [List.getElem?_set]
  split
  ·rename_i e;subst e
   rw [List.getElem?_map,hi];simp [hil]
  ·rfl
 refine ⟨hu.ext h.ext (h.own _ hm).1,?_,by rw [hn];exact h.nodup⟩;intro x hx
 rcases List.mem_or_eq_of_mem_set hx with hx' | rfl
 ·refine ⟨(h.own x hx').1,?_⟩
  by_cases e:x.1=b
  ·obtain ⟨j,hj,hje⟩:=List.mem_iff_getElem.1 hx
   by_cases hij:j=i
   ·subst hij;rw [List.getElem_set_self] at hje;rw [← hje];exact hu.at_
   ·have h1:(L.map (·.1))[j]'(by simpa using hj)=b:=by
     have:(L.set i (b,o'))[j]=L[j]'(by simpa using hj):=List.getElem_set_ne (fun e=>hij e.symm) _;rw [List.getElem_map,← this,hje,e]
    have h2:(L.map (·.1))[i]'(by simpa using hil)=b:=by rw [List.getElem_map,hib]
    have:=(List.getElem_inj h.nodup).1 (h1.trans h2.symm);exact absurd this hij
  ·rw [hu.block _ (h.lt (b:=x.1) (o:=x.2) hx') e];exact (h.own x hx').2
 ·exact ⟨(h.own (b,o) hm).1,hu.at_⟩
end V
end Go.Proofs.YtajgbepghniciaaGreatDoor
namespace Go.Proofs.YtajgbepghniciaaGreatDoor
open Go.ChangeShapes Go.WideShapes Go.RowKit V
set_option maxRecDepth 100000
namespace V
section
variable {H:Type} {enc:TypeId × Value→H} {P:Program} {w:World} {t:TypeId}
theorem Opn.sliceR {α:Type} [Inhabited α] {en:α→List Value} {R:α→Prop} {size e:Nat} {c:Value} (ht:P.underlying t=some (.slice e)) (hc:P.cellsOf e=size) (hs0:0<size)
  (hen:∀ x,(en x).length=size) (each:∀ cs,Opn enc P w e cs→∃ x,cs=en x∧R x) (h:Opn enc P w t [c]) :
  ∃ (A:Option Addr) (cap:Nat) (l:List α),c=.slice A l.length cap∧l.length≤cap∧cap*P.bytesOf e≤140737488351232∧(∀ x∈l,R x)∧SlAt en size w A l:=by
 obtain ⟨n,d,ps,h,hw⟩:=h;have e2:reachBytes=140737488351232:=rfl
 rcases Deep.open_slice ht h with ⟨h1,_⟩|⟨a,len,cap,m,n,D,Pl,h1,_,hlc,hcm,hm,hd,hx⟩
 ·refine ⟨none,0,[],by simpa using h1,by simp,by simp,by simp,⟨fun h=>absurd rfl h⟩⟩
 ·simp only [if_true] at hm;simp only [Prod.mk.injEq] at hd;obtain ⟨rfl,_⟩:=hd;rw [DataW.weights,ht] at hw;simp only [List.length_map,List.length_range] at hw;have hcap:=hw _ (List.mem_cons_self ..);rw [show len+(m-len)=cap by omega] at hcap;obtain ⟨X,hX⟩:=Deep.choose_lt (n:=len) (p:=fun i (x:α)=>w.cells? 0 (a.add (i*P.cellsOf e)) (P.cellsOf e)=some (en x)∧R x) (fun i hi=>by
   obtain ⟨cs,h2,h3⟩:=hx i (by omega);obtain ⟨x,rfl,hr⟩:=each cs ⟨n,D i,Pl i,h3,fun k hk=>hw k (List.mem_cons_of_mem _ (List.mem_append_left _ (qer hk _ (List.mem_map.2 ⟨i,List.mem_range.2 hi,rfl⟩))))⟩;exact ⟨x,h2,hr⟩)
  refine ⟨some a,cap,(List.range len).map X,by simpa using h1,by simp;omega,by omega,fun s hs=>?_,⟨fun hn=>?_⟩⟩
  ·obtain ⟨i,hi,rfl⟩:=List.mem_map.1 hs;exact (hX i (List.mem_range.1 hi)).2
  ·have hpos:0<len:=by
    rcases Nat.eq_zero_or_pos len with h0|h0
    ·exact absurd (by rw [h0];rfl) hn
    ·exact h0
   have hs:a=⟨a.block,a.off,none⟩:=by
    obtain ⟨_,_,h2⟩:=World.cells?_some (hX 0 hpos).1;have h3:=h2 0 (by omega);rw [List.getElem?_eq_getElem (by rw [hen];omega)] at h3;refine qus (w:=w) (v:=(en (X 0))[0]'(by rw [hen];omega)) ?_
    simpa [Addr.add] using h3
   refine ⟨a.block,a.off,by rw [← hs],fun j s hj k v hv=>?_⟩;have hjl:j<len:=by
    have:=(List.getElem?_eq_some_iff.1 hj).1
    simpa using this
   rw [List.getElem?_map,List.getElem?_range hjl] at hj;simp only [Option.map_some,Option.some.injEq] at hj;subst hj;obtain ⟨_,_,h2⟩:=World.cells?_some (hX j hjl).1;have hk:k<size:=by rw [← hen (X j)];exact (List.getElem?_eq_some_iff.1 hv).1
   have h3:=h2 k (by omega);rw [hv,hs,qai,qai,hc] at h3;exact h3
end
end V
theorem qya:Tryz.prog.cellsOf 5=1:=by kernel_rfl
theorem qx7:Tryz.prog.bytesOf 5=1:=by kernel_rfl
theorem qq2 {H:Type} {enc:TypeId × Value→H} {W:World} {c:Value} (h:Opn enc Tryz.prog W 45 [c]) :
  ∃ (A:Option Addr) (cap:Nat) (l:List UInt8),c=.slice A l.length cap∧l.length≤cap∧l.length≤140737488351232∧SlAt encB 1 W A l:=by
 obtain ⟨A,cap,l,h1,h2,h3,_,h5⟩:=h.sliceR (en:=encB) (R:=fun _=>True) (size:=1) Tryz.underlying45 qya (by decide) (fun _=>rfl) (fun cs hc=>by
  obtain ⟨n,d,ps,h1,_⟩:=hc.h;obtain ⟨s,rfl,_,h2⟩:=DataW.trod_int Tryz.underlying5 h1;obtain ⟨h3,h4⟩:0≤s∧s≤255:=qz4 h2;refine ⟨UInt8.ofNat s.toNat,?_,trivial⟩;have e:((UInt8.ofNat s.toNat).toNat:Int)=s:=by
   rw [UInt8.toNat_ofNat'];omega
  show [Value.int .u8 s]=[Value.int .u8 ((UInt8.ofNat s.toNat).toNat:Int)];rw [e])
 rw [qx7] at h3;exact ⟨A,cap,l,h1,h2,by omega,h5⟩
open Go.RowKit V
set_option maxRecDepth 100000
def qfm (i n:Nat):List UInt8→Nat × Nat × Nat
 | []=>(0,0,10)
 | c::l=>if (i=9∧1<c.toNat)∨(0<i∧c.toNat=0) then (0,0,11) else if c.toNat<128 then (n+c.toNat%128*2 ^ (7*i),i+1,0) else qfm (i+1) (n+c.toNat%128*2 ^ (7*i)) l
def numL (l:List UInt8):Nat × Nat × Nat:=qfm 0 0 l
theorem qgq {i n:Nat} {c:UInt8} {l:List UInt8}:qfm i n (c::l)=if (i=9∧1<c.toNat)∨(0<i∧c.toNat=0) then (0,0,11) else if c.toNat<128 then (n+c.toNat%128*2 ^ (7*i),i+1,0) else qfm (i+1) (n+c.toNat%128*2 ^ (7*i)) l:=rfl
theorem qbc {k:IntKind} {a b:Nat} (i:Nat) (ha:InR k ((a+b*2 ^ i:Nat):Int)) (hb:a<2 ^ i):qel .or k (a:Int) ((b*2 ^ i:Nat):Int)=((a+b*2 ^ i:Nat):Int):=by
 have e:(a |||b*2 ^ i)=a+b*2 ^ i:=by
  rw [Nat.or_comm,Nat.mul_comm b,Nat.add_comm];exact (Nat.two_pow_add_eq_or_of_lt hb b).symm
 rw [qsc (InR.le ha (by omega)) (InR.le ha (by omega)) (by rw [e];exact ha),e]
theorem V.Wit.shlN {k:IntKind} {a:Nat} {b:Int} {K:Int→Prop} (n:Nat) (e:b=(n:Int)) (hn:n<k.bits) (h:InR k ((a*2 ^ n:Nat):Int)) (hk:K ((a*2 ^ n:Nat):Int)) :
  Wit (fun r=>0≤b∧b<k.bits∧k.wrap ((a:Int)*2 ^ b.toNat)=r) K:=by
 subst e;have e2:(a:Int)*2 ^ ((n:Int).toNat)=((a*2 ^ n:Nat):Int):=by
  rw [Int.toNat_natCast];push_cast;rfl
 refine ⟨_,⟨by omega,by omega,?_⟩,hk⟩;rw [e2];exact h.wrap
theorem pow7 (i:Nat) (hi:i≤8):2 ^ (7*i)≤72057594037927936:=by
 have:2 ^ (7*i)≤2 ^ 56:=Nat.pow_le_pow_right (by decide) (by omega)
 simpa using this
theorem qgd (i n c:Nat) (hi:i≤9) (hn:n<2 ^ (7*i)) (hc:c<256) (h9:i=9→c≤1):c%128*2 ^ (7*i)≤9223372036854775808∧n+c%128*2 ^ (7*i)<2 ^ 64∧(i<9→n+c%128*2 ^ (7*i)<2 ^ (7*(i+1))):=by
 by_cases e:i=9
 ·subst e;have h1:=h9 rfl;have h2:c%128=c:=Nat.mod_eq_of_lt (by omega);rw [h2];have hp:2 ^ (7*9)=9223372036854775808:=by decide
  rw [hp] at hn ⊢;have:c*9223372036854775808≤1*9223372036854775808:=Nat.mul_le_mul_right _ h1;have e64:2 ^ 64=18446744073709551616:=by decide
  exact ⟨by omega,by rw [e64];omega,fun h=>by omega⟩
 ·have hp:2 ^ (7*(i+1))=128*2 ^ (7*i):=by rw [Nat.mul_add,Nat.pow_add];omega
  have hm:c%128*2 ^ (7*i)≤127*2 ^ (7*i):=Nat.mul_le_mul_right _ (by omega);have h7:=pow7 i (by omega);have e64:2 ^ 64=18446744073709551616:=by decide
  exact ⟨by omega,by rw [e64];omega,fun _=>by rw [hp];omega⟩
def numV (r:Nat × Nat × Nat):Value:=.tuple #[.int .u64 r.1,.int .i64 r.2.1,.int .i64 r.2.2]
theorem qdu {n:Nat} (h:n<2 ^ 64):InR .u64 (n:Int):=by
 have e64:2 ^ 64=18446744073709551616:=by decide
 exact ⟨by omega,by omega⟩
theorem ql4 (l:List UInt8) (i:Nat) (h:i<l.length):l.drop i=l[i]::l.drop (i+1):=List.drop_eq_getElem_cons h
theorem qqx (l:List UInt8) (A:Option Addr) (c:Nat) (w:World) (hS:SlAt encB 1 w A l) (hl:l.length≤140737488355328) :
  Gv Tryz.prog 171 [.slice A l.length c] w fun v w'=>v=numV (numL l)∧w'=w:=by
 refine zE Tryz.func171 Tryz.ntmps171 ?_;(conv=>whnf);refine qm (fun x:Nat × Nat=>[(0,.slice A l.length c),(5,.int .u64 x.2),(6,.int .i64 x.1)]) (fun x w1=>x.1≤l.length∧x.1≤9∧x.2<2 ^ (7*x.1)∧numL l=qfm x.1 x.2 (l.drop x.1)∧w1=w) (fun x=>l.length-x.1) (0,0)
  ⟨rfl,rfl,rfl,trivial⟩ ⟨by simp,by simp,by simp,by rw [List.drop_zero];rfl,rfl⟩ ?_
 rintro ⟨i,n⟩ w1 ρ' ⟨h1,h9,hn,hd,rfl⟩;dsimp only at h1 h9 hn hd ⊢;(conv=>whnf);refine zC (fun _=>?_) (fun _=>?_)<;>(conv=>whnf)
 ·have hi:i<l.length:=by omega
  rw [ql4 l i hi,qgq] at hd;obtain ⟨c0,hc0⟩:∃ c0,c0=l[i]:=⟨_,rfl⟩
  have hlt:c0.toNat<256:=c0.toBitVec.isLt;rw [← hc0] at hd;refine ElemV.bs hS rfl i rfl hi ?_;intro eb eo hcell;rw [← hc0] at hcell;(conv=>whnf);refine LoadV.of hcell ?_;conv=>whnf
  (repeat' (first|((with_reducible refine zT ?_);(conv=>whnf))|((with_reducible refine zU ?_);(conv=>whnf))|((with_reducible refine zC (fun _=>?_) (fun _=>?_))<;>first|(exfalso;omega)|(conv=>whnf))))
  all_goals first
   | exact ⟨by rw [hd,if_pos (by omega)];rfl,rfl⟩
   | skip
  all_goals
   rw [if_neg (by omega)] at hd;obtain ⟨g1,g2,g3⟩:=qgd i n c0.toNat h9 hn hlt (by omega);refine Wit.eq (qao (k:=.u8) (m:=c0.toNat) 7 rfl ⟨by omega,by omega⟩ ⟨by omega,by omega⟩) ?_;conv=>whnf
   (repeat' (first|(refine zA ?_;(conv=>whnf))|(refine Wit.conv ⟨by omega,by omega⟩ ?_;(conv=>whnf))))
   refine V.Wit.shlN (7*i) (by omega) (by show 7*i<64;omega) (qdu (by show c0.toNat%2 ^ 7*2 ^ (7*i)<_;rw [show 2 ^ 7=128 from rfl];omega)) ?_;(conv=>whnf);refine Wit.eq (qbc (7*i) (qdu g2) hn) ?_;conv=>whnf
   (repeat' (first|(refine zA ?_;(conv=>whnf))|((with_reducible refine zC (fun _=>?_) (fun _=>?_))<;>first|(exfalso;omega)|(conv=>whnf))))
   all_goals first
    | (rw [if_pos (by omega)] at hd;exact ⟨by rw [hd];rfl,rfl⟩)
    | (rw [if_neg (by omega)] at hd;exact ⟨(i+1,n+c0.toNat%128*2 ^ (7*i)),⟨rfl,rfl,rfl,trivial⟩,⟨by simp only;omega,by simp only;omega,g3 (by omega),hd,rfl⟩,by simp only;omega⟩)
 ·rw [List.drop_eq_nil_of_le (by omega),qfm] at hd;exact ⟨by rw [hd];rfl,rfl⟩
open Go.RowKit V
set_option maxRecDepth 100000
def curO (t:TypeId) (v:Value) (at_ e:Nat):Obj:=.cells #[v,.int .i64 at_,.int .i64 e] t (0,0)
theorem qwk (b:Nat) (v:Value) (at_ e:Nat) (l:List UInt8) (w:World) (hb:w.heap[b]?=some (curO 251 v at_ e)) (hv:BS w v l) (hat:at_≤l.length) (_hl:l.length≤140737488355328) :
  Gv Tryz.prog 276 [.pointer (some ⟨b,0,none⟩)] w fun r w'=>r=numV (numL (l.drop at_))∧Ext w w':=by
 obtain ⟨A,c,rfl,hc,hS⟩:=hv;refine zE Tryz.func276 Tryz.ntmps276 ?_;(conv=>whnf);refine DrawV.quiet (by kernel_rfl) (by kernel_rfl) ?_;(conv=>whnf);(iterate 3 (refine zW ?_;(conv=>whnf)));refine LoadV.own hb rfl ?_;(conv=>whnf);(iterate 4 (refine zW ?_;(conv=>whnf)));refine LoadV.own hb rfl ?_;(conv=>whnf);refine zW ?_;(conv=>whnf);refine SliceV.bs hS rfl at_ l.length c rfl rfl rfl hat (Nat.le_refl _) hc (Nat.le_refl _) (fun h=>by cases h) ?_;intro A' hA';(conv=>whnf);(iterate 3 (refine zW ?_;(conv=>whnf)));have hd0:(l.drop at_).take (l.length-at_)=l.drop at_:=List.take_of_length_le (by simp);rw [hd0] at hA';obtain ⟨m,hm⟩:∃ m,m=l.drop at_:=⟨_,rfl⟩
 have hml:m.length=l.length-at_:=by rw [hm];simp
 rw [← hm] at hA' ⊢;have hx:=(Ext.refl w).drew;have hA:=hA'.ext hx;refine qm (fun x:Nat × Nat=>[(16,.slice A' (l.length-at_) (c-at_)),(17,.int .i64 (l.length-at_:Nat)),(18,.int .i64 x.1),(5,.int .u64 x.2)]) (fun x w1=>x.1≤m.length∧x.1≤9∧x.2<2 ^ (7*x.1)∧numL m=qfm x.1 x.2 (m.drop x.1)∧Ext w.drew w1) (fun x=>m.length-x.1) (0,0)
  ⟨rfl,rfl,rfl,rfl,trivial⟩ ⟨by simp,by simp,by simp,by rw [List.drop_zero];rfl,Ext.refl _⟩ ?_
 rintro ⟨i,n⟩ w1 ρ' ⟨h1,h9,hn,hd,he1⟩;dsimp only at h1 h9 hn hd ⊢;(conv=>whnf);refine zC (fun _=>?_) (fun _=>?_)<;>(conv=>whnf)
 ·have hi:i<m.length:=by omega
  rw [ql4 m i hi,qgq] at hd;obtain ⟨c0,hc0⟩:∃ c0,c0=m[i]:=⟨_,rfl⟩
  have hlt:c0.toNat<256:=c0.toBitVec.isLt;rw [← hc0] at hd;refine ElemV.bs (hA.ext he1) hml i rfl (by omega) ?_;intro eb eo hcell;rw [← hc0] at hcell;(conv=>whnf);refine LoadV.of hcell ?_;conv=>whnf
  (repeat' (first|((with_reducible refine zT ?_);(conv=>whnf))|((with_reducible refine zU ?_);(conv=>whnf))|((with_reducible refine zC (fun _=>?_) (fun _=>?_))<;>first|(exfalso;omega)|(conv=>whnf))))
  all_goals first
   | exact ⟨by rw [hd,if_pos (by omega)];rfl,hx.trans he1⟩
   | skip
  all_goals
   rw [if_neg (by omega)] at hd;obtain ⟨g1,g2,g3⟩:=qgd i n c0.toNat h9 hn hlt (by omega);refine Wit.eq (qao (k:=.u8) (m:=c0.toNat) 7 rfl ⟨by omega,by omega⟩ ⟨by omega,by omega⟩) ?_;conv=>whnf
   (repeat' (first|(refine zA ?_;(conv=>whnf))|(refine Wit.conv ⟨by omega,by omega⟩ ?_;(conv=>whnf))))
   refine V.Wit.shlN (7*i) (by omega) (by show 7*i<64;omega) (qdu (by show c0.toNat%2 ^ 7*2 ^ (7*i)<_;rw [show 2 ^ 7=128 from rfl];omega)) ?_;(conv=>whnf);refine Wit.eq (qbc (7*i) (qdu g2) hn) ?_;conv=>whnf
   (repeat' (first|(refine zA ?_;(conv=>whnf))|((with_reducible refine zC (fun _=>?_) (fun _=>?_))<;>first|(exfalso;omega)|(conv=>whnf))))
   all_goals first
    | (rw [if_pos (by omega)] at hd;exact ⟨by rw [hd];rfl,hx.trans he1⟩)
    | (rw [if_neg (by omega)] at hd;exact ⟨(i+1,n+c0.toNat%128*2 ^ (7*i)),⟨rfl,rfl,rfl,rfl,trivial⟩,⟨by simp only;omega,by simp only;omega,g3 (by omega),hd,he1⟩,by simp only;omega⟩)
 ·rw [List.drop_eq_nil_of_le (by omega),qfm] at hd;exact ⟨by rw [hd];rfl,hx.trans he1⟩
theorem qg8:∀ (l:List UInt8) (i n:Nat),i≤9→n<2 ^ (7*i)→(qfm i n l).1<2 ^ 64∧(qfm i n l).2.1≤i+l.length∧((qfm i n l).2.2=0∨(qfm i n l).2.2=10∨(qfm i n l).2.2=11)
 | [],i,n,_,_=>⟨show 0<2 ^ 64 by decide,by simp [qfm],.inr (.inl rfl)⟩
 | c::l,i,n,hi,hn=>by
  rw [qgq]
  by_cases h1:(i=9∧1<c.toNat)∨(0<i∧c.toNat=0)
  ·rw [if_pos h1];exact ⟨by decide,Nat.zero_le _,.inr (.inr rfl)⟩
  ·rw [if_neg h1];have hlt:c.toNat<256:=c.toBitVec.isLt;obtain ⟨g1,g2,g3⟩:=qgd i n c.toNat hi hn hlt (by omega)
   by_cases h2:c.toNat<128
   ·rw [if_pos h2];exact ⟨g2,by simp only [List.length_cons];omega,.inl rfl⟩
   ·rw [if_neg h2];have:=qg8 l (i+1) _ (by omega) (g3 (by omega));refine ⟨this.1,?_,this.2.2⟩;have:=this.2.1;simp only [List.length_cons];omega
theorem qah (l:List UInt8):(numL l).1<2 ^ 64∧(numL l).2.1≤l.length∧((numL l).2.2=0∨(numL l).2.2=10∨(numL l).2.2=11):=by
 have:=qg8 l 0 0 (by omega) (by decide)
 rwa [Nat.zero_add] at this
def varS (l:List UInt8) (at_ e:Nat):Nat × Nat × Nat:=if e≠0 then (0,at_,e) else if (numL (l.drop at_)).2.2≠0 then (0,at_,(numL (l.drop at_)).2.2) else ((numL (l.drop at_)).1,at_+(numL (l.drop at_)).2.1,0)
theorem qw9 (b:Nat) (v:Value) (at_ e:Nat) (l:List UInt8) (w:World) (hb:w.heap[b]?=some (curO 251 v at_ e)) (hv:BS w v l) (hat:at_≤l.length) (hl:l.length≤140737488355328) :
  Gv Tryz.prog 222 [.pointer (some ⟨b,0,none⟩),.int .u64 18446744073709551615] w fun r w'=>r=.int .u64 (varS l at_ e).1∧Upd w w' b (curO 251 v (varS l at_ e).2.1 (varS l at_ e).2.2):=by
 have hpk:=qwk b v at_ e l w hb hv hat hl;obtain ⟨g1,g2,g3⟩:=qah (l.drop at_);rw [List.length_drop] at g2;have e64:2 ^ 64=18446744073709551616:=by decide
 refine zE Tryz.func222 Tryz.ntmps222 ?_;(conv=>whnf);refine LoadV.own hb rfl ?_;(conv=>whnf);refine zC (fun _=>?_) (fun _=>?_)<;>(conv=>whnf)
 ·have hS:varS l at_ e=(0,at_,e):=by rw [varS,if_pos (by omega)]
  rw [hS];exact ⟨rfl,Upd.refl hb⟩
 ·have he0:e=0:=by omega
  subst he0;refine CallV.of (hpk) ?_;rintro r w1 ⟨rfl,he⟩;have hb1:=he.get hb;have hS:varS l at_ 0=if (numL (l.drop at_)).2.2≠0 then (0,at_,(numL (l.drop at_)).2.2) else ((numL (l.drop at_)).1,at_+(numL (l.drop at_)).2.1,0):=by rw [varS,if_neg (by omega)]
  (conv=>whnf)
  (repeat' (first|((with_reducible refine zT ?_);(conv=>whnf))|((with_reducible refine zU ?_);(conv=>whnf))|((with_reducible refine zC (fun _=>?_) (fun _=>?_))<;>first|(exfalso;omega)|(conv=>whnf))))
  ·refine LoadV.own hb1 rfl ?_;(conv=>whnf);refine zA ?_;(conv=>whnf);refine StoreV.own hb1 (show 1<3 by decide) rfl ?_;intro w2 hw;have hu:=(Upd.of hb he).trans (Upd.set hb1 hw);rw [hS,if_neg (by omega)];(conv=>whnf);exact ⟨rfl,hu⟩
  ·refine StoreV.own hb1 (show 2<3 by decide) rfl ?_;intro w2 hw;have hu:=(Upd.of hb he).trans (Upd.set hb1 hw);rw [hS,if_pos (by omega)];(conv=>whnf);exact ⟨rfl,hu⟩
theorem qch (b:Nat) (v:Value) (at_ e:Nat) (l:List UInt8) (w:World) (hb:w.heap[b]?=some (curO 251 v at_ e)) (hv:BS w v l) (hat:at_≤l.length) (hl:l.length≤140737488355328) :
  Gv Tryz.prog 160 [.pointer (some ⟨b,0,none⟩)] w fun r w'=>r=.int .u64 (varS l at_ e).1∧Upd w w' b (curO 251 v (varS l at_ e).2.1 (varS l at_ e).2.2):=by
 refine zE Tryz.func160 Tryz.ntmps160 ?_;(conv=>whnf);refine CallV.of (qw9 b v at_ e l w hb hv hat hl) ?_;rintro r w1 ⟨rfl,hu⟩;(conv=>whnf);exact ⟨rfl,hu⟩
theorem qa9 (l:List UInt8) (A:Option Addr) (n c:Nat) (w:World) (hS:SlAt encB 1 w A l) (hn:l.length=n) (hl:l.length≤140737488355328) :
  Gv Tryz.prog 171 [.slice A n c] w fun v w'=>v=numV (numL l)∧w'=w:=by
 subst hn;exact qqx l A c w hS hl
theorem qvz (b:Nat) (v:Value) (at_ e x:Nat) (w:World) (hb:w.heap[b]?=some (curO 279 v at_ e)) (he:e=0) :
  Gv Tryz.prog 280 [.pointer (some ⟨b,0,none⟩),.int .i64 x] w fun r w'=>r=.tuple #[]∧Upd w w' b (curO 279 v at_ x):=by
 subst he;refine zE Tryz.func280 Tryz.ntmps280 ?_;(conv=>whnf);refine LoadV.own hb rfl ?_;(conv=>whnf);refine zY (fun _=>?_);(conv=>whnf);refine StoreV.own hb (show 2<3 by decide) rfl ?_;intro w2 hw;(conv=>whnf);exact ⟨rfl,Upd.set hb hw⟩
theorem qn4 (b:Nat) (v:Value) (at_ e:Nat) (l:List UInt8) (w:World) (hb:w.heap[b]?=some (curO 279 v at_ e)) (hv:BS w v l) (hat:at_≤l.length) (hl:l.length≤140737488355328) :
  Gv Tryz.prog 231 [.pointer (some ⟨b,0,none⟩),.int .u64 18446744073709551615] w fun r w'=>r=.int .u64 (varS l at_ e).1∧Upd w w' b (curO 279 v (varS l at_ e).2.1 (varS l at_ e).2.2):=by
 obtain ⟨A,c,rfl,hc,hS⟩:=hv;obtain ⟨g1,g2,g3⟩:=qah (l.drop at_);rw [List.length_drop] at g2;have e64:2 ^ 64=18446744073709551616:=by decide
 have hd0:(l.drop at_).take (l.length-at_)=l.drop at_:=List.take_of_length_le (by simp);refine zE Tryz.func231 Tryz.ntmps231 ?_;(conv=>whnf);refine LoadV.own hb rfl ?_;(conv=>whnf);refine zC (fun _=>?_) (fun _=>?_)<;>(conv=>whnf)
 ·have hS:varS l at_ e=(0,at_,e):=by rw [varS,if_pos (by omega)]
  rw [hS];exact ⟨rfl,Upd.refl hb⟩
 ·have he0:e=0:=by omega
  subst he0;have hE:varS l at_ 0=if (numL (l.drop at_)).2.2≠0 then (0,at_,(numL (l.drop at_)).2.2) else ((numL (l.drop at_)).1,at_+(numL (l.drop at_)).2.1,0):=by rw [varS,if_neg (by omega)]
  refine DrawV.quiet (by kernel_rfl) (by kernel_rfl) ?_;(conv=>whnf);(iterate 3 (refine zW ?_;(conv=>whnf)));refine LoadV.own hb rfl ?_;(conv=>whnf);(iterate 4 (refine zW ?_;(conv=>whnf)));refine LoadV.own hb rfl ?_;(conv=>whnf);refine zW ?_;(conv=>whnf);refine SliceV.bs hS rfl at_ l.length c rfl rfl rfl hat (Nat.le_refl _) hc (Nat.le_refl _) (fun h=>by cases h) ?_;intro A' hA';rw [hd0] at hA';(conv=>whnf);refine zW ?_;(conv=>whnf);refine ⟨numV (numL (l.drop at_)),qa9 (l.drop at_) A' _ _ _ (hA'.ext (Ext.refl w).drew) (by simp) (by simp;omega),?_⟩;conv=>whnf
  (repeat' (first|((with_reducible refine zT ?_);(conv=>whnf))|((with_reducible refine zU ?_);(conv=>whnf))|((with_reducible refine zC (fun _=>?_) (fun _=>?_))<;>first|(exfalso;omega)|(conv=>whnf))|((with_reducible refine zW ?_);(conv=>whnf))))
  have he:Ext w w.drew:=(Ext.refl w).drew;have hb1:=he.get hb
  ·refine LoadV.own hb1 rfl ?_;(conv=>whnf);refine zA ?_;(conv=>whnf);refine StoreV.own hb1 (show 1<3 by decide) rfl ?_;intro w2 hw;have hu:=(Upd.of hb he).trans (Upd.set hb1 hw);rw [hE,if_neg (by omega)];(conv=>whnf);exact ⟨rfl,hu⟩
  ·have he:Ext w w.drew:=(Ext.refl w).drew;have hb1:=he.get hb;refine CallV.of (qvz b _ at_ 0 (numL (l.drop at_)).2.2 _ hb1 rfl) ?_;rintro r w2 ⟨rfl,hu⟩;have hu:=(Upd.of hb he).trans hu;rw [hE,if_pos (by omega)];(conv=>whnf);exact ⟨rfl,hu⟩
theorem qlg (b:Nat) (v:Value) (at_ e:Nat) (l:List UInt8) (w:World) (hb:w.heap[b]?=some (curO 279 v at_ e)) (hv:BS w v l) (hat:at_≤l.length) (hl:l.length≤140737488355328) :
  Gv Tryz.prog 169 [.pointer (some ⟨b,0,none⟩)] w fun r w'=>r=.int .u64 (varS l at_ e).1∧Upd w w' b (curO 279 v (varS l at_ e).2.1 (varS l at_ e).2.2):=by
 refine zE Tryz.func169 Tryz.ntmps169 ?_;(conv=>whnf);refine CallV.of (qn4 b v at_ e l w hb hv hat hl) ?_;rintro r w1 ⟨rfl,hu⟩;(conv=>whnf);exact ⟨rfl,hu⟩
open Go.RowKit V
set_option maxRecDepth 100000
def leN:List UInt8→Nat
 | []=>0
 | c::l=>c.toNat+256*leN l
theorem qtr (l:List UInt8):leN l<256 ^ l.length:=by
 induction l with
 | nil=>decide
 | cons c l ih=>
  have hlt:c.toNat<256:=c.toBitVec.isLt;rw [leN,List.length_cons,Nat.pow_succ];omega
theorem qto (l m:List UInt8):leN (l++m)=leN l+256 ^ l.length*leN m:=by
 induction l with
 | nil=>simp [leN]
 | cons c l ih=>
  rw [List.cons_append,leN,leN,ih,List.length_cons,Nat.pow_succ,Nat.mul_add,← Nat.mul_assoc,Nat.mul_comm 256 (256 ^ l.length)];omega
theorem qtn {l:List UInt8} (h:4≤l.length):leN (l.take 4)=l[0].toNat+l[1].toNat*2 ^ 8+l[2].toNat*2 ^ 16+l[3].toNat*2 ^ 24:=by
 match l,h with
 | a::b::c::d::r,_=>simp only [List.take_succ_cons,List.take_zero,leN,List.getElem_cons_zero,List.getElem_cons_succ];omega
theorem qz9 {l:List UInt8} (h:2≤l.length):leN (l.take 2)=l[0].toNat+l[1].toNat*2 ^ 8:=by
 match l,h with
 | a::b::r,_=>simp only [List.take_succ_cons,List.take_zero,leN,List.getElem_cons_zero,List.getElem_cons_succ];omega
theorem qab {n:Nat} (h:n<9223372036854775808):InR .i64 (n:Int):=⟨by omega,by omega⟩
theorem qt (c:UInt8):c.toNat<256:=c.toBitVec.isLt
theorem qd3 (l:List UInt8) (A:Option Addr) (n c:Nat) (w:World) (hS:SlAt encB 1 w A l) (hn:l.length=n) (h4:4≤l.length) :
  Gv Tryz.prog 106 [.slice A n c] w fun v w'=>v=.int .i64 (leN (l.take 4))∧Ext w w':=by
 have hA:=hS.ext (Ext.refl w).drew;have b0:=qt l[0];have b1:=qt l[1];have b2:=qt l[2];have b3:=qt l[3];rw [qtn h4];refine zE Tryz.func106 Tryz.ntmps106 ?_;(conv=>whnf);refine DrawV.quiet (by kernel_rfl) (by kernel_rfl) ?_;(conv=>whnf);refine zW ?_;(conv=>whnf);refine ElemV.bs hA hn 0 rfl (by omega) ?_;intro eb eo hc;(conv=>whnf);refine zW ?_;(conv=>whnf);refine LoadV.of hc ?_;(conv=>whnf);refine zW ?_;(conv=>whnf);refine Wit.conv ⟨by omega,by omega⟩ ?_;(conv=>whnf);(iterate 2 (refine zW ?_;(conv=>whnf)));refine ElemV.bs hA hn 1 rfl (by omega) ?_;intro eb eo hc;(conv=>whnf);refine zW ?_;(conv=>whnf);refine LoadV.of hc ?_;(conv=>whnf);refine zW ?_;(conv=>whnf);refine Wit.conv ⟨by omega,by omega⟩ ?_;(conv=>whnf);refine zW ?_;(conv=>whnf);refine V.Wit.shlN 8 rfl (by decide) (qab (by omega)) ?_;(conv=>whnf);refine zW ?_;(conv=>whnf);refine Wit.eq (qbc 8 (qab (by omega)) b0) ?_;(conv=>whnf);(iterate 2 (refine zW ?_;(conv=>whnf)));refine ElemV.bs hA hn 2 rfl (by omega) ?_;intro eb eo hc;(conv=>whnf);refine zW ?_;(conv=>whnf);refine LoadV.of hc ?_;(conv=>whnf);refine zW ?_;(conv=>whnf);refine Wit.conv ⟨by omega,by omega⟩ ?_;(conv=>whnf);refine zW ?_;(conv=>whnf);refine V.Wit.shlN 16 rfl (by decide) (qab (by omega)) ?_;(conv=>whnf);refine zW ?_;(conv=>whnf);refine Wit.eq (qbc 16 (qab (by omega)) (by omega)) ?_;(conv=>whnf);(iterate 2 (refine zW ?_;(conv=>whnf)));refine ElemV.bs hA hn 3 rfl (by omega) ?_;intro eb eo hc;(conv=>whnf);refine zW ?_;(conv=>whnf);refine LoadV.of hc ?_;(conv=>whnf);refine zW ?_;(conv=>whnf);refine Wit.conv ⟨by omega,by omega⟩ ?_;(conv=>whnf);refine zW ?_;(conv=>whnf);refine V.Wit.shlN 24 rfl (by decide) (qab (by omega)) ?_;(conv=>whnf);refine zW ?_;(conv=>whnf);refine Wit.eq (qbc 24 (qab (by omega)) (by omega)) ?_;(conv=>whnf);(iterate 2 (refine zW ?_;(conv=>whnf)));exact ⟨rfl,(Ext.refl w).drew⟩
theorem qkq (l:List UInt8) (A:Option Addr) (n c:Nat) (w:World) (hS:SlAt encB 1 w A l) (hn:l.length=n) (h4:4≤l.length) :
  Gv Tryz.prog 185 [.slice A n c] w fun v w'=>v=.int .i64 (leN (l.take 4))∧Ext w w':=by
 have hA:=hS.ext (Ext.refl w).drew;have b0:=qt l[0];have b1:=qt l[1];have b2:=qt l[2];have b3:=qt l[3];rw [qtn h4];refine zE Tryz.func185 Tryz.ntmps185 ?_;(conv=>whnf);refine DrawV.quiet (by kernel_rfl) (by kernel_rfl) ?_;(conv=>whnf);refine zW ?_;(conv=>whnf);refine ElemV.bs hA hn 0 rfl (by omega) ?_;intro eb eo hc;(conv=>whnf);refine zW ?_;(conv=>whnf);refine LoadV.of hc ?_;(conv=>whnf);refine zW ?_;(conv=>whnf);refine Wit.conv ⟨by omega,by omega⟩ ?_;(conv=>whnf);(iterate 2 (refine zW ?_;(conv=>whnf)));refine ElemV.bs hA hn 1 rfl (by omega) ?_;intro eb eo hc;(conv=>whnf);refine zW ?_;(conv=>whnf);refine LoadV.of hc ?_;(conv=>whnf);refine zW ?_;(conv=>whnf);refine Wit.conv ⟨by omega,by omega⟩ ?_;(conv=>whnf);refine zW ?_;(conv=>whnf);refine V.Wit.shlN 8 rfl (by decide) (qab (by omega)) ?_;(conv=>whnf);refine zW ?_;(conv=>whnf);refine Wit.eq (qbc 8 (qab (by omega)) b0) ?_;(conv=>whnf);(iterate 2 (refine zW ?_;(conv=>whnf)));refine ElemV.bs hA hn 2 rfl (by omega) ?_;intro eb eo hc;(conv=>whnf);refine zW ?_;(conv=>whnf);refine LoadV.of hc ?_;(conv=>whnf);refine zW ?_;(conv=>whnf);refine Wit.conv ⟨by omega,by omega⟩ ?_;(conv=>whnf);refine zW ?_;(conv=>whnf);refine V.Wit.shlN 16 rfl (by decide) (qab (by omega)) ?_;(conv=>whnf);refine zW ?_;(conv=>whnf);refine Wit.eq (qbc 16 (qab (by omega)) (by omega)) ?_;(conv=>whnf);(iterate 2 (refine zW ?_;(conv=>whnf)));refine ElemV.bs hA hn 3 rfl (by omega) ?_;intro eb eo hc;(conv=>whnf);refine zW ?_;(conv=>whnf);refine LoadV.of hc ?_;(conv=>whnf);refine zW ?_;(conv=>whnf);refine Wit.conv ⟨by omega,by omega⟩ ?_;(conv=>whnf);refine zW ?_;(conv=>whnf);refine V.Wit.shlN 24 rfl (by decide) (qab (by omega)) ?_;(conv=>whnf);refine zW ?_;(conv=>whnf);refine Wit.eq (qbc 24 (qab (by omega)) (by omega)) ?_;(conv=>whnf);(iterate 2 (refine zW ?_;(conv=>whnf)));exact ⟨rfl,(Ext.refl w).drew⟩
theorem qzn (l:List UInt8) (A:Option Addr) (n c:Nat) (w:World) (hS:SlAt encB 1 w A l) (hn:l.length=n) (h4:2≤l.length) :
  Gv Tryz.prog 186 [.slice A n c] w fun v w'=>v=.int .i64 (leN (l.take 2))∧Ext w w':=by
 have hA:=hS.ext (Ext.refl w).drew;have b0:=qt l[0];have b1:=qt l[1];rw [qz9 h4];refine zE Tryz.func186 Tryz.ntmps186 ?_;(conv=>whnf);refine DrawV.quiet (by kernel_rfl) (by kernel_rfl) ?_;(conv=>whnf);refine zW ?_;(conv=>whnf);refine ElemV.bs hA hn 0 rfl (by omega) ?_;intro eb eo hc;(conv=>whnf);refine zW ?_;(conv=>whnf);refine LoadV.of hc ?_;(conv=>whnf);refine zW ?_;(conv=>whnf);refine Wit.conv ⟨by omega,by omega⟩ ?_;(conv=>whnf);(iterate 2 (refine zW ?_;(conv=>whnf)));refine ElemV.bs hA hn 1 rfl (by omega) ?_;intro eb eo hc;(conv=>whnf);refine zW ?_;(conv=>whnf);refine LoadV.of hc ?_;(conv=>whnf);refine zW ?_;(conv=>whnf);refine Wit.conv ⟨by omega,by omega⟩ ?_;(conv=>whnf);refine zW ?_;(conv=>whnf);refine V.Wit.shlN 8 rfl (by decide) (qab (by omega)) ?_;(conv=>whnf);refine zW ?_;(conv=>whnf);refine Wit.eq (qbc 8 (qab (by omega)) b0) ?_;(conv=>whnf);(iterate 2 (refine zW ?_;(conv=>whnf)));exact ⟨rfl,(Ext.refl w).drew⟩
theorem q0a {l:List UInt8} {a:Nat} (h:a+4≤l.length):leN ((l.drop a).take 4)=l[a].toNat+l[a+1].toNat*2 ^ 8+l[a+2].toNat*2 ^ 16+l[a+3].toNat*2 ^ 24:=by
 rw [qtn (by simp;omega)];simp only [List.getElem_drop,Nat.add_zero]
theorem qp4 (l:List UInt8) (A:Option Addr) (n c a:Nat) (w:World) (hS:SlAt encB 1 w A l) (hn:l.length=n) (h4:a+4≤l.length) (hl:l.length≤140737488355328) :
  Gv Tryz.prog 281 [.slice A n c,.int .i64 a] w fun v w'=>v=.int .i64 (leN ((l.drop a).take 4))∧Ext w w':=by
 have hA:=hS.ext (Ext.refl w).drew;have b0:=qt l[a];have b1:=qt l[a+1];have b2:=qt l[a+2];have b3:=qt l[a+3];rw [q0a h4];refine zE Tryz.func281 Tryz.ntmps281 ?_;(conv=>whnf);refine DrawV.quiet (by kernel_rfl) (by kernel_rfl) ?_;(conv=>whnf);(iterate 2 (refine zW ?_;(conv=>whnf)));refine ElemV.bs hA hn a rfl (by omega) ?_;intro eb eo hc;(conv=>whnf);refine zW ?_;(conv=>whnf);refine LoadV.of hc ?_;(conv=>whnf);refine zW ?_;(conv=>whnf);refine Wit.conv ⟨by omega,by omega⟩ ?_;(conv=>whnf);(iterate 3 (refine zW ?_;(conv=>whnf)));refine zA ?_;(conv=>whnf);refine zW ?_;(conv=>whnf);refine ElemV.bs hA hn (a+1) (by omega) (by omega) ?_;intro eb eo hc;(conv=>whnf);refine zW ?_;(conv=>whnf);refine LoadV.of hc ?_;(conv=>whnf);refine zW ?_;(conv=>whnf);refine Wit.conv ⟨by omega,by omega⟩ ?_;(conv=>whnf);refine zW ?_;(conv=>whnf);refine V.Wit.shlN 8 rfl (by decide) (qab (by omega)) ?_;(conv=>whnf);refine zW ?_;(conv=>whnf);refine zA ?_;(conv=>whnf);(iterate 3 (refine zW ?_;(conv=>whnf)));refine zA ?_;(conv=>whnf);refine zW ?_;(conv=>whnf);refine ElemV.bs hA hn (a+2) (by omega) (by omega) ?_;intro eb eo hc;(conv=>whnf);refine zW ?_;(conv=>whnf);refine LoadV.of hc ?_;(conv=>whnf);refine zW ?_;(conv=>whnf);refine Wit.conv ⟨by omega,by omega⟩ ?_;(conv=>whnf);refine zW ?_;(conv=>whnf);refine V.Wit.shlN 16 rfl (by decide) (qab (by omega)) ?_;(conv=>whnf);refine zW ?_;(conv=>whnf);refine zA ?_;(conv=>whnf);(iterate 3 (refine zW ?_;(conv=>whnf)));refine zA ?_;(conv=>whnf);refine zW ?_;(conv=>whnf);refine ElemV.bs hA hn (a+3) (by omega) (by omega) ?_;intro eb eo hc;(conv=>whnf);refine zW ?_;(conv=>whnf);refine LoadV.of hc ?_;(conv=>whnf);refine zW ?_;(conv=>whnf);refine Wit.conv ⟨by omega,by omega⟩ ?_;(conv=>whnf);refine zW ?_;(conv=>whnf);refine V.Wit.shlN 24 rfl (by decide) (qab (by omega)) ?_;(conv=>whnf);refine zW ?_;(conv=>whnf);refine zA ?_;(conv=>whnf);(iterate 2 (refine zW ?_;(conv=>whnf)));exact ⟨congrArg (Value.int .i64) (by omega),(Ext.refl w).drew⟩
open Go.RowKit V
set_option maxRecDepth 100000
namespace V
theorem Mem.fresh {w0 w w':World} {L:List (Nat × Obj)} {b:Nat} {o:Obj} (h:Mem w0 w L) (he:Ext w w') (hb:w.heap.size≤b) (ho:w'.heap[b]?=some o):Mem w0 w' ((b,o)::L):=by
 have h':=h.call he;refine ⟨h'.ext,fun x hx=>?_,?_⟩
 ·rcases List.mem_cons.1 hx with rfl|hx
  ·exact ⟨Nat.le_trans h.ext.size hb,ho⟩
  ·exact h'.own x hx
 ·simp only [List.map_cons,List.nodup_cons];refine ⟨fun hm=>?_,h.nodup⟩;obtain ⟨x,hx,e⟩:=List.mem_map.1 hm;have:=h.lt (b:=x.1) (o:=x.2) hx;omega
theorem Fall.max2 {P:Program} {ρ:Nat→Value} {o:Oper} {c:Call} {k:IntKind} {x y:Int} {w:World} {K:Value→World→Prop} (ho:o.op=.call c) (hc:c.callee=.builtin .max) (ha0:evs ρ c.args.toList=[.int k x,.int k y])
  (h:∀ m,m=max x y→K (.int k m) w):Fall P (execOp (ev ρ) o) w K:=by
 have e:execOp (ev ρ) o=(do pure (.value (← Builtin.max_ c.argTypes o.type (c.args.map (ev ρ))))):=by
  simp only [execOp,ho,resolve,hc];rfl
 have ha:c.args.map (ev ρ)=#[.int k x,.int k y]:=by
  rw [qdm] at ha0;rw [← Array.toList_inj];simpa using ha0
 refine ⟨.inl ⟨_,w,?_,h _ rfl⟩⟩;rw [e,ha];simp only [Sem.run_bind,run_max_int2,Result.andThen_ok,Sem.run_pure]
 congr 3
 rw [Int.max_def]
 split<;>(try split)<;>omega
theorem Fall.min2 {P:Program} {ρ:Nat→Value} {o:Oper} {c:Call} {k:IntKind} {x y:Int} {w:World} {K:Value→World→Prop} (ho:o.op=.call c) (hc:c.callee=.builtin .min) (ha0:evs ρ c.args.toList=[.int k x,.int k y])
  (h:∀ m,m=min x y→K (.int k m) w):Fall P (execOp (ev ρ) o) w K:=by
 have e:execOp (ev ρ) o=(do pure (.value (← Builtin.min_ c.argTypes o.type (c.args.map (ev ρ))))):=by
  simp only [execOp,ho,resolve,hc];rfl
 have ha:c.args.map (ev ρ)=#[.int k x,.int k y]:=by
  rw [qdm] at ha0;rw [← Array.toList_inj];simpa using ha0
 refine ⟨.inl ⟨_,w,?_,h _ rfl⟩⟩;rw [e,ha];simp only [Sem.run_bind,run_min_int2,Result.andThen_ok,Sem.run_pure]
 congr 3
 rw [Int.min_def]
 split<;>(try split)<;>omega
end V
theorem qdg (v:Value) (l:List UInt8) (w:World) (hv:BS w v l) :
  Gv Tryz.prog 92 [v] w fun r w'=>∃ b,r=.pointer (some ⟨b,0,none⟩)∧w.heap.size≤b∧w'.heap[b]?=some (curO 251 v 0 0)∧Ext w w':=by
 obtain ⟨A,c,rfl,hc,hS⟩:=hv;refine zE Tryz.func92 Tryz.ntmps92 ?_;(conv=>whnf);refine ⟨fun b w' hb hw=>?_⟩;subst hb hw;(conv=>whnf);exact ⟨w.heap.size,rfl,Nat.le_refl _,heap_alloc_new w _,(Ext.refl w).alloc _⟩
theorem qg2 (b:Nat) (v:Value) (a e:Nat) (w:World) (hb:w.heap[b]?=some (curO 251 v a e)):Gv Tryz.prog 100 [.pointer (some ⟨b,0,none⟩)] w fun r w'=>r=.int .i64 a∧w'=w:=by
 refine zE Tryz.func100 Tryz.ntmps100 ?_;(conv=>whnf);refine LoadV.own hb rfl ?_;(conv=>whnf);exact ⟨rfl,rfl⟩
theorem qbp (b:Nat) (v:Value) (a e:Nat) (w:World) (hb:w.heap[b]?=some (curO 251 v a e)):Gv Tryz.prog 161 [.pointer (some ⟨b,0,none⟩)] w fun r w'=>r=.int .i64 e∧w'=w:=by
 refine zE Tryz.func161 Tryz.ntmps161 ?_;(conv=>whnf);refine LoadV.own hb rfl ?_;(conv=>whnf);exact ⟨rfl,rfl⟩
theorem qk0 (b:Nat) (v:Value) (a e:Nat) (l:List UInt8) (w:World) (hb:w.heap[b]?=some (curO 251 v a e)) (hv:BS w v l) (ha:a≤l.length) (hl:l.length≤140737488355328) :
  Gv Tryz.prog 220 [.pointer (some ⟨b,0,none⟩)] w fun r w'=>r=.int .i64 (l.length-a:Nat)∧Ext w w':=by
 obtain ⟨A,c,rfl,hc,hS⟩:=hv;refine zE Tryz.func220 Tryz.ntmps220 ?_;(conv=>whnf);refine DrawV.quiet (by kernel_rfl) (by kernel_rfl) ?_;(conv=>whnf);(iterate 3 (refine zW ?_;(conv=>whnf)));refine LoadV.own hb rfl ?_;(conv=>whnf);(iterate 5 (refine zW ?_;(conv=>whnf)));refine LoadV.own hb rfl ?_;(conv=>whnf);refine zW ?_;(conv=>whnf);refine zA ?_;(conv=>whnf);(iterate 2 (refine zW ?_;(conv=>whnf)));exact ⟨congrArg (Value.int .i64) (by omega),(Ext.refl w).drew⟩
theorem qqy (w:World):Gv Tryz.prog 157 [.int .i64 4] w fun r w'=>r=.int .i64 4∧w'=w:=by
 refine zE Tryz.func157 Tryz.ntmps157 ?_;(conv=>whnf);refine V.Fall.max2 rfl rfl rfl fun m hm=>?_;obtain rfl:m=4:=by omega
 (conv=>whnf);refine V.Fall.min2 rfl rfl rfl fun m hm=>?_;obtain rfl:m=4:=by omega
 (conv=>whnf);exact ⟨rfl,rfl⟩
theorem qw6 (b:Nat) (v:Value) (a n:Nat) (l:List UInt8) (w:World) (hb:w.heap[b]?=some (curO 251 v a 0)) (hv:BS w v l) (ha:a+n≤l.length) (hl:l.length≤140737488355328) (hlow:∀ A c,v=.slice A l.length c→True) :
  Gv Tryz.prog 156 [.pointer (some ⟨b,0,none⟩),.int .i64 n] w fun r w'=>(∃ A' c',r=.slice A' n c'∧SlAt encB 1 w A' ((l.drop a).take n))∧Upd w w' b (curO 251 v (a+n) 0):=by
 have hleft:=qk0 b v a 0 l w hb hv (by omega) hl;obtain ⟨A,c,rfl,hc,hS⟩:=hv;refine zE Tryz.func156 Tryz.ntmps156 ?_;(conv=>whnf);refine LoadV.own hb rfl ?_;(conv=>whnf);(iterate 2 (refine zN (fun _=>?_);(conv=>whnf)));(iterate 2 (refine zU ?_;(conv=>whnf)));refine CallV.of (hleft) ?_;rintro r w1 ⟨rfl,he⟩;have hb1:=he.get hb;(conv=>whnf);(iterate 2 (refine zU ?_;(conv=>whnf)));refine zN (fun _=>?_);(conv=>whnf);refine LoadV.own hb1 rfl ?_;(conv=>whnf);refine zA ?_;(conv=>whnf);refine StoreV.own hb1 (show 1<3 by decide) rfl ?_;intro w2 hw;have hu:=(Upd.of hb he).trans (Upd.set hb1 hw);have hb2:w2.heap[b]?=some (curO 251 (.slice A l.length c) (a+n) 0):=hu.at_;(conv=>whnf);refine DrawV.quiet (by kernel_rfl) (by kernel_rfl) ?_;(conv=>whnf);(iterate 3 (refine zW ?_;(conv=>whnf)));refine LoadV.own hb2 rfl ?_;(conv=>whnf);(iterate 4 (refine zW ?_;(conv=>whnf)));refine LoadV.own hb2 rfl ?_;(conv=>whnf);(iterate 2 (refine zW ?_;(conv=>whnf)));refine zA ?_;(conv=>whnf);(iterate 4 (refine zW ?_;(conv=>whnf)));refine LoadV.own hb2 rfl ?_;(conv=>whnf);refine zW ?_;(conv=>whnf);refine SliceV.bs hS rfl a (a+n) c (by show (((a+n:Nat):Int)-(n:Int))=(a:Int);omega) rfl rfl (by omega) ha (by omega) (Nat.le_refl _) (fun h=>by cases h) ?_;intro A' hA';(conv=>whnf);(iterate 2 (refine zW ?_;(conv=>whnf)));have e:a+n-a=n:=by omega
 rw [e] at hA' ⊢;exact ⟨⟨A',_,rfl,hA'⟩,hu.trans (Upd.of hb2 (Ext.refl w2).drew)⟩
open Go.RowKit V
set_option maxRecDepth 100000
def qbb (a b:TM):Bool:=decide (a.kind=b.kind)&&(seq a.text b.text&&(seq a.type b.type&&seq a.lang b.lang))
theorem qm0 {a b:TM}:qbb a b=true↔a=b:=by
 obtain ⟨a0,a1,a2,a3⟩:=a;obtain ⟨b0,b1,b2,b3⟩:=b;simp [qbb,q7]
theorem qql:Tryz.prog.underlying 73=some (.struct (Tryz.prog.fieldsOf 73)):=by kernel_rfl
theorem qut:Tryz.prog.stoodInHeld 73=false:=by kernel_rfl
theorem qtd:Tryz.prog.eqGuardType Tryz.prog.depth 73=false:=by kernel_rfl
theorem qa1 (d:Nat) (a b:TM) (w:World):(Op.equalIn (d+2) 73 (qa2 a) (qa2 b)).run Tryz.prog w=.ok (qbb a b) w:=by
 have u3:=Tryz.underlying3;have a3:=Tryz.isAgg3;have z3:=Tryz.sizeOf3;have u9:=Tryz.underlying9;have a9:=Tryz.isAgg9;have z9:=Tryz.sizeOf9;simp only [qa2];rw [run_equalIn_agg w (d+1) _ _ _ qql qut];simp only [Program.fieldsOf,Tryz.underlying73]
 go_simp
 have e:∀ x y:ByteArray,(x.toList=y.toList)=(seq x y=true):=fun x y=>by rw [← qjj,beq_iff_eq]
 simp only [e]
 by_cases h1:a.kind=b.kind<;>cases h2:seq a.text b.text<;>cases h3:seq a.type b.type<;>cases h4:seq a.lang b.lang<;>simp [qbb,h1,h2,h3,h4]
namespace V
theorem RunV.eqTerm {op:BinOp} {xo yo:Operand} {a b:TM} {w:World} {K:Value→World→Prop} (ho:op=.eql∨op=.neq) (h:K (.bool (bif eqOp op then qbb a b else !qbb a b)) w) :
  RunV Tryz.prog (do eqGuard op 73 xo yo (qa2 a) (qa2 b);binOp op 73 (qa2 a) (qa2 b)) w K:=by
 refine ⟨_,w,?_,h⟩;rw [Sem.run_bind,qa2,qa2,run_eqGuard_agg w op _ xo yo _ _ qtd,Result.andThen_ok];have e:=qa1 9998 a b w;simp only [qa2] at e
 rcases ho with rfl|rfl
 ·rw [run_eql_struct,e];rfl
 ·rw [run_neq_struct,e];rfl
end V
open Go.RowKit V
set_option maxRecDepth 100000
def qr3 (t:TM):Bool:=decide (t.kind=0)&&(seq t.text ⟨#[]⟩&&(seq t.type ⟨#[]⟩&&seq t.lang ⟨#[]⟩))
def canB (k:Nat) (t:TM):Bool:=
 if k=0 then decide (t.kind=1)||decide (t.kind=2) else if k=1 then decide (t.kind=1) else if k=2 then decide (1≤t.kind)&&decide (t.kind≤3) else qr3 t||decide (t.kind=1)||decide (t.kind=2)
def qg3:List Nat→Nat
 | []=>0
 | e::l=>if e≠0 then e else qg3 l
theorem qe0 {l:List Nat} (h:∀ j (hj:j<l.length),l[j]=0):qg3 l=0:=by
 induction l with
 | nil=>rfl
 | cons x l ih=>
  have h0:=h 0 (by simp);simp only [List.getElem_cons_zero] at h0;rw [qg3,if_neg (by omega)];exact ih fun j hj=>by have:=h (j+1) (by simp;omega);rwa [List.getElem_cons_succ] at this
theorem ql1 {l:List Nat} {k:Nat} (hk:k<l.length) (h:∀ j (hj:j<l.length),j<k→l[j]=0) (hne:l[k]≠0):qg3 l=l[k]:=by
 induction l generalizing k with
 | nil=>simp at hk
 | cons x l ih=>
  cases k with
  | zero=>simp only [List.getElem_cons_zero] at hne ⊢;rw [qg3,if_pos hne]
  | succ k=>
   have h0:=h 0 (by simp) (by omega);simp only [List.getElem_cons_zero] at h0;rw [qg3,if_neg (by omega)];simp only [List.getElem_cons_succ] at hne ⊢;exact ih (by simpa using hk) (fun j hj hjk=>by have:=h (j+1) (by simp;omega) (by omega);rwa [List.getElem_cons_succ] at this) hne
theorem CellsAt.mem {w0 w:World} {L:List (Nat × Obj)} {b:Nat} {cs:Array Value} {t:TypeId} {fr:Nat × Nat} (h:Mem w0 w L) (hi:(b,Obj.cells cs t fr)∈L):CellsAt w b 0 cs.toList:=fun k v hv=>by
 rw [qd (h.get hi),Nat.zero_add]
 simpa using hv
open Go.RowKit V
set_option maxRecDepth 100000
namespace V
theorem StoreA.rwAll {P:Program} {w0 w:World} {v:Value} {e:TypeId} {size n:Nat} {xs:List Value} {L:List (Nat × Obj)} {b:Nat} {cur:Array Value} {t:TypeId} {vs:List Value} {K:World→Prop} (h:Rw w0 w v e size n xs ((b,.cells cur t (0,0))::L))
  (hl:cur.size=vs.length) (h1:∀ v∈vs,v.oneCell'=true) (hk:∀ w',Rw w0 w' v e size n xs ((b,.cells vs.toArray t (0,0))::L)→K w'):StoreA P w b 0 vs K:=by
 have hg:=h.mem.get (List.mem_cons_self ..);have hb:v.ownBlock≠some b:=h.apart _ (List.mem_cons_self ..);have hr:=run_storeCells_at P b 0 t vs 0 cur w hg (by simp;omega) h1;have ec:(cur.toList.take (0+0)++vs++cur.toList.drop (0+0+vs.length)).toArray=vs.toArray:=by
  rw [List.take_zero,List.nil_append,List.drop_eq_nil_of_le (by simp;omega),List.append_nil]
 rw [ec] at hr;refine ⟨_,hr,hk _ ⟨?_,?_,fun y hy=>?_⟩⟩
 ·have:=h.mem.set (i:=0) (b:=b) (o:=.cells cur t (0,0)) (o':=.cells vs.toArray t (0,0)) rfl (w':=w.setRow b vs.toArray) ?_ (qbt hg) (fun c hc=>ql hc)
  ·exact this
  ·exact Below.trans h.mem.ext ⟨rfl,rfl,rfl,by simp [World.setRow],fun k hk=>ql (by have:=(h.mem.own _ (List.mem_cons_self ..)).1;simp only at this;omega)⟩
 ·refine h.own.kept (row:=some b) ⟨rfl,rfl,rfl,by simp [World.setRow],fun k _ hk=>ql (fun e=>hk (by simp [e]))⟩ (Or.inr hb)
 ·rcases List.mem_cons.1 hy with rfl|hy
  ·exact hb
  ·exact h.apart y (List.mem_cons_of_mem _ hy)
end V
open Go.RowKit V
set_option maxRecDepth 100000
theorem qru (k:Nat) (t:TM) (w:World):Gv Tryz.prog 68 [.int .i64 k,qa2 t] w fun v w'=>v=.bool (canB k t)∧Ext w w':=by
 refine zE Tryz.func68 Tryz.ntmps68 ?_;(conv=>whnf);refine NewV.mem (Mem.nil w) ?_;intro b w1 hm;conv=>whnf
 (repeat' (first|((with_reducible refine zT ?_);(conv=>whnf))|((with_reducible refine zU ?_);(conv=>whnf))|((with_reducible refine zC (fun _=>?_) (fun _=>?_))<;>first|(exfalso;omega)|(conv=>whnf))|(refine LoadV.mem (i:=0) (by assumption) rfl rfl ?_;(conv=>whnf))))
 ·exact ⟨congrArg Value.bool (by rw [canB,if_pos (by omega)];simp [*]),hm.ext⟩
 ·exact ⟨congrArg Value.bool (by rw [canB,if_pos (by omega)];simp [*]),hm.ext⟩
 ·exact ⟨congrArg Value.bool (by rw [canB,if_neg (by omega),if_pos (by omega)]),hm.ext⟩
 ·exact ⟨congrArg Value.bool (by rw [canB,if_neg (by omega),if_neg (by omega),if_pos (by omega),Bool.eq_iff_iff];simp;omega),hm.ext⟩
 ·exact ⟨congrArg Value.bool (by rw [canB,if_neg (by omega),if_neg (by omega),if_pos (by omega),Bool.eq_iff_iff];simp;omega),hm.ext⟩
 ·exact ⟨congrArg Value.bool (by rw [canB,if_neg (by omega),if_neg (by omega),if_pos (by omega),Bool.eq_iff_iff];simp;omega),hm.ext⟩
 ·exact ⟨congrArg Value.bool (by rw [canB,if_neg (by omega),if_neg (by omega),if_neg (by omega)];simp [*]),hm.ext⟩
 ·exact ⟨congrArg Value.bool (by rw [canB,if_neg (by omega),if_neg (by omega),if_neg (by omega)];simp [*]),hm.ext⟩
 ·refine zL hm 0 ?_;(conv=>whnf);(iterate 2 (refine zU ?_;(conv=>whnf)));refine RunV.eqTerm (a:=t) (b:=⟨0,⟨#[]⟩,⟨#[]⟩,⟨#[]⟩⟩) (.inl rfl) ?_;have hc:canB k t=(qr3 t||decide (t.kind=1)||decide (t.kind=2)):=by rw [canB,if_neg (by omega),if_neg (by omega),if_neg (by omega)]
  have hz:qbb t ⟨0,⟨#[]⟩,⟨#[]⟩,⟨#[]⟩⟩=qr3 t:=rfl;rw [hz];(conv=>whnf);refine zU ?_;(conv=>whnf);exact ⟨congrArg Value.bool (by rw [hc];simp [*,eqOp]),hm.ext⟩
structure Q4 where
 s:TM
 p:TM
 o:TM
 g:TM
def Q4.at (q:Q4):Nat→TM
 | 0=>q.s
 | 1=>q.p
 | 2=>q.o
 | _=>q.g
def qaw (q:Q4):List Value:=encT q.s++(encT q.p++(encT q.o++encT q.g))
def qat (q:Q4):Value:=.agg #[.int .i64 q.s.kind,.string q.s.text,.string q.s.type,.string q.s.lang,.int .i64 q.p.kind,.string q.p.text,.string q.p.type,.string q.p.lang,
 .int .i64 q.o.kind,.string q.o.text,.string q.o.type,.string q.o.lang,.int .i64 q.g.kind,.string q.g.text,.string q.g.type,.string q.g.lang]
noncomputable def qE (k:Nat) (t:TM):Nat:=if canB k t=false then 70 else if k=3∧t.kind=0 then 0 else qa7 t
noncomputable def qc3 (q:Q4):Nat:=qg3 ((List.range 4).map fun k=>qE k (q.at k))
theorem qaa {q:Q4} {w:World} {b off:Nat} (h:CellsAt w b off (qaw q)) (k:Nat) (hk:k<4):CellsAt w b (off+k*4) (encT (q.at k)):=by
 intro j v hv;have hj:j<4:=(List.getElem?_eq_some_iff.1 hv).1;have:=h (k*4+j) v (by
  obtain rfl|rfl|rfl|rfl:k=0∨k=1∨k=2∨k=3:=by omega
  all_goals
   obtain rfl|rfl|rfl|rfl:j=0∨j=1∨j=2∨j=3:=by omega
   all_goals exact hv)
 rwa [← Nat.add_assoc] at this
theorem qy (t:TM):∀ v∈encT t,v.oneCell'=true:=by
 intro v hv;simp only [encT,List.mem_cons,List.not_mem_nil,or_false] at hv
 rcases hv with rfl|rfl|rfl|rfl<;>rfl
def qji (q:Q4):Prop:=∀ k,TermOk (q.at k)
theorem qt5 (q:Q4) (k:Nat) (hk:k<4):((qat q).cells.toList.drop (k*4)).take 4=encT (q.at k):=by
 obtain rfl|rfl|rfl|rfl:k=0∨k=1∨k=2∨k=3:=by omega
 all_goals rfl
set_option maxHeartbeats 400000 in
theorem qfb (q:Q4) (hq:qji q) (w:World) (hM:MaxLenAt w) (hT:CellsAt w 3 0 qbo):Gv Tryz.prog 30 [qat q] w fun v w'=>v=.int .i64 (qc3 q)∧Ext w w':=by
 refine zE Tryz.func30 Tryz.ntmps30 ?_;(conv=>whnf);refine NewV.mem (Mem.nil w) ?_;intro b w1 hm;have hc:CellsAt w1 b 0 (qaw q):=CellsAt.mem hm (List.mem_cons_self ..);(conv=>whnf);refine LoadA.cells (qaa hc 0 (by omega)) rfl ?_;(conv=>whnf);refine LoadA.cells (qaa hc 1 (by omega)) rfl ?_;(conv=>whnf);refine LoadA.cells (qaa hc 2 (by omega)) rfl ?_;(conv=>whnf);refine LoadA.cells (qaa hc 3 (by omega)) rfl ?_;(conv=>whnf);have hlen:((List.range 4).map fun k=>qE k (q.at k)).length=4:=by simp
 have hget:∀ j (hj:j<((List.range 4).map fun k=>qE k (q.at k)).length),((List.range 4).map fun k=>qE k (q.at k))[j]=qE j (q.at j):=fun j hj=>by simp
 refine qm (fun k:Nat=>[(1,.pointer (some ⟨b,0,none⟩)),(2,.int .i64 0),(14,qat q),(15,.int .i64 k)])
  (fun k w'=>k≤4∧(∀ j,j<k→qE j (q.at j)=0)∧Mem w w' [(b,.cells (qaw q).toArray 75 (0,0))]) (fun k=>4-k) 0 ⟨rfl,rfl,rfl,rfl,trivial⟩ ⟨by omega,fun j h0=>by omega,hm⟩ ?_
 rintro k w2 ρ' ⟨k1,k2,hm2⟩;conv=>whnf
 (repeat' (first|((with_reducible refine zC (fun _=>?_) (fun _=>?_))<;>first|(exfalso;omega)|(conv=>whnf))|((with_reducible refine zX ?_);(conv=>whnf))))
 ·have hk:k<4:=by omega
  have hbad:∀ e,qE k (q.at k)=e→e≠0→qc3 q=e:=fun e he hne=>by
   rw [qc3,ql1 (k:=k) (by rw [hlen];exact hk) (fun j hj hjk=>by rw [hget];exact k2 j hjk) (by rw [hget,he];exact hne),hget,he]
  have hgood:qE k (q.at k)=0→∀ j,j<k+1→qE j (q.at j)=0:=fun he j hj=>by
   by_cases e:j=k
   ·subst e;exact he
   ·exact k2 j (by omega)
  refine Wit.eq (y:=encT (q.at k)) (qt5 q k hk) ?_;(conv=>whnf);refine NewV.mem hm2 ?_;intro r w3 hm3;(conv=>whnf);refine StoreA.all (vs:=encT (q.at k)) hm3 (i:=0) rfl rfl (qy _) ?_;intro w4 hm4;have hm4:Mem w w4 [(r,.cells (encT (q.at k)).toArray 73 (0,0)),_]:=hm4;(conv=>whnf);refine zL hm4 0 ?_;(conv=>whnf);refine CallV.of (qru k (q.at k) w4) ?_;rintro v w5 ⟨rfl,he5⟩;have hm5:=hm4.call he5;cases hcan:canB k (q.at k)
  ·(conv=>whnf);refine zP ?_;refine zU ?_;(conv=>whnf);exact ⟨by rw [hbad 70 (by rw [qE,if_pos hcan]) (by decide)];rfl,hm5.ext⟩
  ·(conv=>whnf)
   (repeat' (first|((with_reducible refine zT ?_);(conv=>whnf))|((with_reducible refine zU ?_);(conv=>whnf))|((with_reducible refine zC (fun _=>?_) (fun _=>?_))<;>first|(exfalso;omega)|(conv=>whnf))|((with_reducible refine zP ?_))|(refine LoadV.mem (i:=0) (by assumption) rfl rfl ?_;(conv=>whnf))))
   ·refine ⟨?_,hm5.ext⟩;have e0:qE k (q.at k)=0:=by rw [qE,if_neg (by rw [hcan];simp),if_pos ⟨by omega,by omega⟩]
    have h4:=hgood e0;rw [qc3,qe0 fun j hj=>by rw [hget];exact h4 j (by rw [hlen] at hj;omega)];rfl
   all_goals
    have hE:qE k (q.at k)=qa7 (q.at k):=by rw [qE,if_neg (by rw [hcan];simp),if_neg (by omega)]
    refine zL hm5 0 ?_;(conv=>whnf);refine CallV.of (qf2 (q.at k) (hq k) w5 (hM.ext hm5.ext) (hT.ext hm5.ext)) ?_;rintro v w6 ⟨rfl,he6⟩;rw [← hE];conv=>whnf
    (repeat' (first|(refine zA ?_;(conv=>whnf))|((with_reducible refine zC (fun _=>?_) (fun _=>?_))<;>first|(exfalso;omega)|(conv=>whnf))))
    ·exact ⟨by rw [hbad _ rfl (by omega)],hm5.ext.trans he6⟩
    ·exact ⟨k+1,⟨rfl,rfl,rfl,rfl,trivial⟩,⟨by omega,hgood (by omega),(hm5.call he6).sub (List.sublist_cons_self ..)⟩,by omega⟩
 ·refine ⟨?_,hm2.ext⟩;rw [qc3,qe0 fun j hj=>by rw [hget];exact k2 j (by rw [hlen] at hj;omega)];rfl
open Go.RowKit V
set_option maxRecDepth 100000
theorem qhr (l:List UInt8) (i:Nat) (h:i<l.length):leN (l.take (i+1))=leN (l.take i)+l[i].toNat*2 ^ (8*i):=by
 rw [List.take_succ_eq_append_getElem h,qto,List.length_take,Nat.min_eq_left (by omega)];have:(256:Nat) ^ i=2 ^ (8*i):=by rw [Nat.pow_mul]
 rw [this,leN,leN,Nat.mul_zero,Nat.add_zero,Nat.mul_comm]
theorem qag (l:List UInt8) (i:Nat) (h:i≤l.length):leN (l.take i)<2 ^ (8*i):=by
 have:=qtr (l.take i);rw [List.length_take,Nat.min_eq_left h] at this;have e:(256:Nat) ^ i=2 ^ (8*i):=by rw [Nat.pow_mul]
 rwa [e] at this
theorem pow8 (i:Nat) (hi:i≤4):2 ^ (8*i)≤4294967296:=by
 have:2 ^ (8*i)≤2 ^ 32:=Nat.pow_le_pow_right (by decide) (by omega)
 simpa using this
theorem V.SlAt.upd {w w':World} {b:Nat} {cs:Array Value} {t:TypeId} {fr:Nat × Nat} {o:Obj} {A:Option Addr} {l:List UInt8} (h:SlAt encB 1 w A l) (hb:w.heap[b]?=some (.cells cs t fr)) (hno:∀ v∈cs.toList,∀ n,v≠.int .u8 n) (hu:Upd w w' b o):SlAt encB 1 w' A l:=by
 refine ⟨fun hne=>?_⟩;obtain ⟨g,off,e,hc⟩:=h.at_ hne;refine ⟨g,off,e,fun j x hx k v hv=>?_⟩;have h1:=hc j x hx k v hv;have hv8:v=.int .u8 x.toNat:=by
  cases k with
  | zero=>simpa [encB] using hv.symm
  | succ k=>simp [encB] at hv
 have hlt:g<w.heap.size:=by
  rcases Nat.lt_or_ge g w.heap.size with h|h
  ·exact h
  ·unfold World.cell? at h1;rw [Array.getElem?_eq_none h] at h1;cases h1
 have hgb:g≠b:=by
  rintro rfl;rw [qd hb] at h1;exact hno v (by rw [← Array.getElem?_toList] at h1;exact List.mem_of_getElem? h1) _ hv8
 unfold World.cell? at h1 ⊢;rw [hu.block g hlt hgb];exact h1
theorem qyc {v:Value} {a e:Nat} (hv:∃ A n c,v=.slice A n c):∀ u∈(#[v,.int .i64 a,.int .i64 e]:Array Value).toList,∀ n,u≠.int .u8 n:=by
 obtain ⟨A,m,c,rfl⟩:=hv;intro u hu n;simp at hu
 rcases hu with rfl|rfl|rfl<;>simp
theorem qgg (b:Nat) (v:Value) (a:Nat) (l:List UInt8) (w:World) (hb:w.heap[b]?=some (curO 251 v a 0)) (hv:BS w v l) (ha:a+4≤l.length) (hl:l.length≤140737488355328) :
  Gv Tryz.prog 93 [.pointer (some ⟨b,0,none⟩),.int .i64 4] w fun r w'=>r=.int .u64 (leN ((l.drop a).take 4))∧Upd w w' b (curO 251 v (a+4) 0):=by
 have htk:=fun w=>qw6 b v a 4 l w
 refine zE Tryz.func93 Tryz.ntmps93 ?_;(conv=>whnf);refine CallV.of (qqy w) ?_;rintro r w1 ⟨rfl,rfl⟩;(conv=>whnf);refine CallV.of (htk w1 hb hv ha hl (fun _ _ _=>trivial)) ?_;rintro r w2 ⟨⟨A',c',rfl,hS⟩,hu⟩;(conv=>whnf);have hv':=hv;obtain ⟨A,c,hvv,_,_⟩:=hv';have hS2:SlAt encB 1 w2 A' ((l.drop a).take 4):=V.SlAt.upd hS hb (qyc ⟨_,_,_,hvv⟩) hu;obtain ⟨m,hm⟩:∃ m,m=(l.drop a).take 4:=⟨_,rfl⟩
 have hml:m.length=4:=by rw [hm];simp;omega
 rw [← hm] at hS2 ⊢;refine qm (fun i:Nat=>[(11,.slice A' 4 c'),(12,.int .i64 4),(13,.int .i64 i),(5,.int .u64 (leN (m.take i)))]) (fun i w3=>i≤4∧w3=w2) (fun i=>4-i) 0 ⟨rfl,rfl,rfl,rfl,trivial⟩ ⟨by omega,rfl⟩ ?_;rintro i w3 ρ' ⟨i1,rfl⟩;(conv=>whnf);refine zC (fun _=>?_) (fun _=>?_)<;>(conv=>whnf)
 ·have hi:i<m.length:=by omega
  have hb4:=qt m[i];have hp:=pow8 (i+1) (by omega);have hlt:=qag m (i+1) (by omega);rw [qhr m i hi] at hlt;refine ElemV.bs hS2 hml i rfl (by omega) ?_;intro eb eo hc;(conv=>whnf);refine LoadV.of hc ?_;(conv=>whnf);refine Wit.conv ⟨by omega,by omega⟩ ?_;(conv=>whnf);refine zA ?_;(conv=>whnf);have e64:2 ^ 64=18446744073709551616:=by decide
  refine V.Wit.shlN (8*i) (by omega) (by show 8*i<64;omega) (qdu (by omega)) ?_;(conv=>whnf);refine Wit.eq (qbc (8*i) (qdu (by omega)) (qag m i (by omega))) ?_;(conv=>whnf);refine zA ?_;(conv=>whnf);exact ⟨i+1,⟨rfl,rfl,rfl,by rw [qhr m i hi];rfl,trivial⟩,⟨by omega,rfl⟩,by omega⟩
 ·rw [List.take_of_length_le (by omega)];exact ⟨rfl,hu⟩
structure ErrAt (w:World) (v:Value) (place code:Nat):Prop where
 h:∃ b,v=.iface 135 (.pointer (some ⟨b,0,none⟩))∧CellsAt w b 0 [.int .i64 place,.iface 26 (.int .i64 code)]
theorem ErrAt.ext {w w':World} {v:Value} {p c:Nat} (h:ErrAt w v p c) (he:Ext w w'):ErrAt w' v p c:=by
 obtain ⟨b,h1,h2⟩:=h;exact ⟨b,h1,h2.ext he⟩
theorem qe3 (p c:Nat) (w:World):Gv Tryz.prog 91 [.int .i64 p,.int .i64 c] w fun v w'=>ErrAt w' v p c∧Ext w w':=by
 refine zE Tryz.func91 Tryz.ntmps91 ?_;(conv=>whnf);refine NewV.mem (Mem.nil w) ?_;intro b w1 hm;(conv=>whnf);exact ⟨⟨b,rfl,CellsAt.mem hm (List.mem_cons_self ..)⟩,hm.ext⟩
end Go.Proofs.YtajgbepghniciaaGreatDoor
namespace Go.Proofs.YtajgbepghniciaaGreatDoor
open Go.RowKit
set_option maxRecDepth 100000
def poly:BitVec 32:=0xedb88320#32
def nibs:List Nat:=[0x00000000,0x1db71064,0x3b6e20c8,0x26d930ac,0x76dc4190,0x6b6b51f4,0x4db26158,0x5005713c,0xedb88320,0xf00f9344,0xd6d6a3e8,0xcb61b38c,0x9b64c2b0,0x86d3d2d4,0xa00ae278,0xbdbdf21c]
def nib (i:Nat):BitVec 32:=BitVec.ofNat 32 (nibs.getD i 0)
def qkb (r:BitVec 32) (d:Bool):BitVec 32:=(r >>> 1) ^^^ (if (r.getLsbD 0 ^^ d)=true then poly else 0#32)
def qcx (r:BitVec 32):BitVec 32:=qkb r false
def half (r:BitVec 32):BitVec 32:=nib (r.toNat%16) ^^^ (r >>> 4)
theorem xlc (a b c:BitVec 32):a ^^^ (b ^^^ c)=b ^^^ (a ^^^ c):=by rw [← BitVec.xor_assoc,BitVec.xor_comm a b,BitVec.xor_assoc]
theorem xss (a b:BitVec 32):a ^^^ (a ^^^ b)=b:=by rw [← BitVec.xor_assoc,BitVec.xor_self,BitVec.zero_xor]
theorem qfl (a b:BitVec 32):qcx (a ^^^ b)=qcx a ^^^ qcx b:=by
 unfold qcx qkb;rw [BitVec.ushiftRight_xor_distrib,BitVec.getLsbD_xor];cases a.getLsbD 0<;>cases b.getLsbD 0<;>simp [BitVec.xor_assoc,BitVec.xor_comm,xlc,xss]
theorem qqe (r d:BitVec 32):qcx (r ^^^ d)=qkb r (d.getLsbD 0) ^^^ (d >>> 1):=by
 unfold qcx qkb;rw [BitVec.ushiftRight_xor_distrib,BitVec.getLsbD_xor,Bool.xor_false,BitVec.xor_assoc,BitVec.xor_assoc,BitVec.xor_comm (d >>> 1)]
theorem qeg {h:BitVec 32} (h0:h.getLsbD 0=false):qcx h=h >>> 1:=by
 unfold qcx qkb;rw [h0];simp
theorem qnr (h:BitVec 32) (h0:h.getLsbD 0=false) (h1:h.getLsbD 1=false) (h2:h.getLsbD 2=false) (h3:h.getLsbD 3=false):qcx (qcx (qcx (qcx h)))=h >>> 4:=by
 rw [qeg h0,qeg (h:=h >>> 1) (by simpa using h1),qeg (h:=h >>> 1 >>> 1) (by simpa using h2),qeg (h:=h >>> 1 >>> 1 >>> 1) (by simpa using h3)];rw [← BitVec.shiftRight_add,← BitVec.shiftRight_add,← BitVec.shiftRight_add]
theorem qqv:∀ i,i<16→qcx (qcx (qcx (qcx (BitVec.ofNat 32 i))))=nib i:=by decide
theorem qxq (r:BitVec 32):qcx (qcx (qcx (qcx r)))=half r:=by
 have hlow:r &&&15#32=BitVec.ofNat 32 (r.toNat%16):=by
  apply BitVec.eq_of_toNat_eq;rw [BitVec.toNat_and,BitVec.toNat_ofNat];have:r.toNat &&&15=r.toNat%2 ^ 4:=Nat.and_two_pow_sub_one_eq_mod r.toNat 4;show r.toNat &&&15=_;rw [this];have:=r.isLt;exact (Nat.mod_eq_of_lt (by omega)).symm
 have hsplit:r=(r &&&15#32) ^^^ (r &&&0xfffffff0#32):=by
  ext i hi
  simp only [BitVec.getElem_xor,BitVec.getElem_and];have:((15#32)[i] ^^ (0xfffffff0#32)[i])=true:=by
   have:∀ i (hi:i<32),((15#32)[i] ^^ (0xfffffff0#32)[i])=true:=by decide
   exact this i hi
  cases r[i]<;>simp_all
 have hh:(r &&&0xfffffff0#32) >>> 4=r >>> 4:=by
  ext i hi
  simp only [BitVec.getElem_ushiftRight,BitVec.getLsbD_and]
  by_cases h:4+i<32
  ·have:∀ j,j<28→(0xfffffff0#32).getLsbD (4+j)=true:=by decide
   rw [this i (by omega),Bool.and_true]
  ·rw [BitVec.getLsbD_of_ge _ _ (by omega)];simp
 have hz:∀ j,j<4→(r &&&0xfffffff0#32).getLsbD j=false:=fun j hj=>by
  rw [BitVec.getLsbD_and];have:∀ j,j<4→(0xfffffff0#32).getLsbD j=false:=by decide
  rw [this j hj,Bool.and_false]
 conv=>lhs;rw [hsplit]
 rw [qfl,qfl,qfl,qfl,qnr _ (hz 0 (by decide)) (hz 1 (by decide)) (hz 2 (by decide)) (hz 3 (by decide)),hh,hlow,qqv _ (Nat.mod_lt _ (by decide))];rfl
def qrf (r:BitVec 32) (b:UInt8):Nat→BitVec 32
 | 0=>r
 | k+1=>qkb (qrf r b k) (b.toNat.testBit k)
def thr (r:BitVec 32) (b:UInt8):BitVec 32:=half (half (r ^^^ BitVec.ofNat 32 b.toNat))
theorem qy2 (r:BitVec 32) (b:UInt8) (k:Nat):(Nat.repeat qcx k (r ^^^ BitVec.ofNat 32 b.toNat))=qrf r b k ^^^ (BitVec.ofNat 32 b.toNat >>> k):=by
 induction k with
 | zero=>simp [Nat.repeat,qrf]
 | succ k ih=>
  rw [Nat.repeat,ih,qqe,qrf]
  congr 1
  ·congr 1
   rw [BitVec.getLsbD_ushiftRight,BitVec.getLsbD_ofNat,Nat.add_zero]
   by_cases h:k<32
   ·simp [h]
   ·have hb:b.toNat<256:=b.toBitVec.isLt;have:=Nat.testBit_lt_two_pow (Nat.lt_of_lt_of_le hb (Nat.le_trans (by decide:(256:Nat)≤2 ^ 32) (Nat.pow_le_pow_right (by decide) (by omega:32≤k))));simp [h,this]
theorem qua (r:BitVec 32) (b:UInt8):qrf r b 8=thr r b:=by
 have h:=qy2 r b 8;have hz:BitVec.ofNat 32 b.toNat >>> 8=0#32:=by
  apply BitVec.eq_of_toNat_eq;have hb:b.toNat<256:=b.toBitVec.isLt;rw [BitVec.toNat_ushiftRight,BitVec.toNat_ofNat,Nat.shiftRight_eq_div_pow,Nat.mod_eq_of_lt (by omega)];show b.toNat/256=0;omega
 rw [hz,BitVec.xor_zero] at h;rw [← h,thr,← qxq,← qxq];rfl
def updL (r:BitVec 32) (l:List UInt8):BitVec 32:=l.foldl thr r
def crcL (l:List UInt8):BitVec 32 := ~~~ (updL (~~~ 0#32) l)
theorem qnb (r:BitVec 32) (l:List UInt8) (i:Nat) (h:i<l.length):updL r (l.take (i+1))=thr (updL r (l.take i)) l[i]:=by
 unfold updL;rw [List.take_succ_eq_append_getElem h,List.foldl_append];rfl
open Go.RowKit V
set_option maxRecDepth 100000
def qi9:List Value:=nibs.map fun n:Nat=>Value.int .u32 (n:Int)
theorem bx (x y:BitVec 32):qel .xor .u32 (x.toNat:Int) (y.toNat:Int)=((x ^^^ y).toNat:Int):=by
 have h1:BitVec.ofInt 32 (x.toNat:Int)=x:=by apply BitVec.eq_of_toNat_eq;rw [BitVec.toNat_ofInt];have:=x.isLt;omega
 have h2:BitVec.ofInt 32 (y.toNat:Int)=y:=by apply BitVec.eq_of_toNat_eq;rw [BitVec.toNat_ofInt];have:=y.isLt;omega
 show IntKind.u32.wrap ((BitVec.ofInt 32 (x.toNat:Int) ^^^ BitVec.ofInt 32 (y.toNat:Int)).toNat:Int)=_;rw [h1,h2];have:=(x ^^^ y).isLt;exact InR.wrap (k:=.u32) ⟨by omega,by omega⟩
theorem bnot (x:BitVec 32):qel .xor .u32 (if IntKind.u32.signed then -1 else IntKind.u32.max) (x.toNat:Int)=((~~~x).toNat:Int):=by
 have h:(if IntKind.u32.signed then -1 else IntKind.u32.max)=((BitVec.allOnes 32).toNat:Int):=by decide
 rw [h,bx,BitVec.allOnes_xor]
theorem qyy (b:UInt8):(BitVec.ofNat 32 b.toNat).toNat=b.toNat:=by
 have:=qt b;rw [BitVec.toNat_ofNat,Nat.mod_eq_of_lt (by omega)]
theorem qyt (i:Nat) (hi:i<16):(nib i).toNat=nibs.getD i 0:=by
 have:∀ i,i<16→(nib i).toNat=nibs.getD i 0:=by decide
 exact this i hi
theorem qpd (x:BitVec 32):qel .xor .u32 ((nibs.getD (x.toNat%16) 0:Nat):Int) ((x.toNat/16:Nat):Int)=((half x).toNat:Int):=by
 have h2:(x >>> 4).toNat=x.toNat/16:=by rw [BitVec.toNat_ushiftRight,Nat.shiftRight_eq_div_pow]
 rw [← qyt _ (Nat.mod_lt _ (by decide)),← h2,bx];rfl
theorem qpj {w:World} (hT:CellsAt w 2 0 qi9) (i:Nat) (hi:i<16):w.cell? ⟨2,0+i*1,none⟩=some (.int .u32 ((nibs.getD i 0:Nat):Int)):=by
 have h:i<nibs.length:=hi;have:=hT i (.int .u32 ((nibs.getD i 0:Nat):Int)) (by rw [qi9,List.getElem?_map,List.getElem?_eq_getElem h,List.getD_eq_getElem?_getD,List.getElem?_eq_getElem h];rfl)
 rwa [Nat.mul_one]
theorem qna (x:BitVec 32):x.toNat<4294967296:=x.isLt
theorem qof (r:BitVec 32) (b:UInt8) (w:World) (hT:CellsAt w 2 0 qi9) :
  Gv Tryz.prog 221 [.int .u32 r.toNat,.int .u8 b.toNat] w fun v w'=>v=.int .u32 (thr r b).toNat∧w'=w:=by
 have hb:=qt b;obtain ⟨x,hx⟩:∃ x,x=r ^^^ BitVec.ofNat 32 b.toNat:=⟨_,rfl⟩
 have h0:=qna x;have h1:=qna (half x);have ht:thr r b=half (half x):=by rw [hx];rfl
 rw [ht];refine zE Tryz.func221 Tryz.ntmps221 ?_;(conv=>whnf);refine Wit.conv ⟨by omega,by omega⟩ ?_;(conv=>whnf);refine Wit.eq (y:=(x.toNat:Int)) (by rw [hx,← bx,qyy]) ?_;(conv=>whnf);refine Wit.eq (qao (k:=.u32) (m:=x.toNat) 4 rfl ⟨by omega,by omega⟩ ⟨by omega,by omega⟩) ?_;(conv=>whnf);refine IdxV.nat (Nat.mod_lt _ (by decide)) ?_;(conv=>whnf);refine LoadV.of (qpj hT _ (Nat.mod_lt _ (by decide))) ?_;(conv=>whnf);refine Wit.shr (m:=16) (r:=((x.toNat/16:Nat):Int)) ⟨by decide,by decide⟩ (by decide) (by omega) ?_;(conv=>whnf);refine Wit.eq (qpd x) ?_;(conv=>whnf);refine Wit.eq (qao (k:=.u32) (m:=(half x).toNat) 4 rfl ⟨by omega,by omega⟩ ⟨by omega,by omega⟩) ?_;(conv=>whnf);refine IdxV.nat (Nat.mod_lt _ (by decide)) ?_;(conv=>whnf);refine LoadV.of (qpj hT _ (Nat.mod_lt _ (by decide))) ?_;(conv=>whnf);refine Wit.shr (m:=16) (r:=(((half x).toNat/16:Nat):Int)) ⟨by decide,by decide⟩ (by decide) (by omega) ?_;(conv=>whnf);refine Wit.eq (qpd (half x)) ?_;(conv=>whnf);exact ⟨rfl,rfl⟩
theorem qrw (l:List UInt8) (A:Option Addr) (n c:Nat) (w:World) (hS:SlAt encB 1 w A l) (hn:l.length=n) (hl:l.length≤140737488355328) (hT:CellsAt w 2 0 qi9) :
  Gv Tryz.prog 158 [.int .u32 0,.slice A n c] w fun v w'=>v=.int .u32 (crcL l).toNat∧w'=w:=by
 subst hn;refine zE Tryz.func158 Tryz.ntmps158 ?_;(conv=>whnf);refine Wit.eq (bnot 0#32) ?_;(conv=>whnf);refine qm (fun i:Nat=>[(10,.slice A l.length c),(11,.int .i64 l.length),(12,.int .i64 i),(5,.int .u32 (updL (~~~ 0#32) (l.take i)).toNat)]) (fun i w1=>i≤l.length∧w1=w) (fun i=>l.length-i) 0 ⟨rfl,rfl,rfl,rfl,trivial⟩ ⟨by omega,rfl⟩ ?_;rintro i w1 ρ' ⟨h1,rfl⟩;(conv=>whnf);refine zC (fun _=>?_) (fun _=>?_)<;>(conv=>whnf)
 ·have hi:i<l.length:=by omega
  refine ElemV.bs hS rfl i rfl hi ?_;intro eb eo hc;(conv=>whnf);refine LoadV.of hc ?_;(conv=>whnf);refine CallV.of (qof _ l[i] w1 hT) ?_;rintro v w1 ⟨rfl,rfl⟩;(conv=>whnf);refine zA ?_;(conv=>whnf);exact ⟨i+1,⟨rfl,rfl,rfl,by rw [qnb _ _ _ hi];rfl,trivial⟩,⟨by omega,rfl⟩,by omega⟩
 ·refine Wit.eq (bnot _) ?_;(conv=>whnf);rw [List.take_of_length_le (by omega)];exact ⟨rfl,rfl⟩
theorem qzi (l:List UInt8) (A:Option Addr) (n c:Nat) (w:World) (hS:SlAt encB 1 w A l) (hn:l.length=n) (hl:l.length≤140737488355328) (hT:CellsAt w 2 0 qi9) :
  Gv Tryz.prog 94 [.slice A n c] w fun v w'=>v=.int .u32 (crcL l).toNat∧w'=w:=by
 refine zE Tryz.func94 Tryz.ntmps94 ?_;(conv=>whnf);refine CallV.of (qrw l A n c w hS hn hl hT) ?_;rintro v w1 ⟨rfl,rfl⟩;(conv=>whnf);exact ⟨rfl,rfl⟩
theorem qyp (r:BitVec 32):r.toNat%2=if r.getLsbD 0=true then 1 else 0:=by
 rw [BitVec.getLsbD,Nat.testBit_zero]
 rcases Nat.mod_two_eq_zero_or_one r.toNat with h|h<;>rw [h]<;>simp
theorem q0m (r:BitVec 32) (d:Bool):qel .xor .u32 ((r.toNat%2:Nat):Int) ((bif d then 1 else 0:Nat):Int)=((bif (r.getLsbD 0 ^^ d) then 1 else 0:Nat):Int):=by
 rw [qyp];cases r.getLsbD 0<;>cases d<;>decide
theorem qn3 (r:BitVec 32) (d:Bool) (w:World):Gv Tryz.prog 232 [.int .u32 r.toNat,.int .u8 (bif d then 1 else 0:Nat)] w fun v w'=>v=.int .u32 (qkb r d).toNat∧w'=w:=by
 have h0:=qna r;have hd:(bif d then 1 else 0:Nat)≤1:=by cases d<;>decide
 have hs:(r >>> 1).toNat=r.toNat/2:=by rw [BitVec.toNat_ushiftRight,Nat.shiftRight_eq_div_pow]
 refine zE Tryz.func232 Tryz.ntmps232 ?_;(conv=>whnf);refine Wit.eq (qao (k:=.u32) (m:=r.toNat) 1 rfl ⟨by omega,by omega⟩ ⟨by omega,by omega⟩) ?_;(conv=>whnf);refine Wit.conv ⟨by omega,by omega⟩ ?_;(conv=>whnf);refine Wit.eq (q0m r d) ?_;(conv=>whnf);refine Wit.shr (m:=2) (r:=((r.toNat/2:Nat):Int)) ⟨by decide,by decide⟩ (by decide) (by omega) ?_;(conv=>whnf);cases hx:(r.getLsbD 0 ^^ d)
 ·refine Tst.no (by decide) ?_;(conv=>whnf);refine ⟨?_,rfl⟩;rw [qkb,hx,if_neg (by simp),BitVec.xor_zero,hs]
 ·refine Tst.yes (by decide) ?_;(conv=>whnf);refine Wit.eq (y:=(((r >>> 1) ^^^ poly).toNat:Int)) (by rw [← bx,hs];rfl) ?_;(conv=>whnf);refine ⟨?_,rfl⟩;rw [qkb,hx,if_pos rfl]
theorem qlf (l:List UInt8) (A:Option Addr) (n c:Nat) (w:World) (hS:SlAt encB 1 w A l) (hn:l.length=n) (hl:l.length≤140737488355328) :
  Gv Tryz.prog 174 [.int .u32 0,.slice A n c] w fun v w'=>v=.int .u32 (crcL l).toNat∧w'=w:=by
 subst hn;refine zE Tryz.func174 Tryz.ntmps174 ?_;(conv=>whnf);refine Wit.eq (bnot 0#32) ?_;(conv=>whnf);refine qm (fun i:Nat=>[(1,.slice A l.length c),(6,.int .i64 i),(5,.int .u32 (updL (~~~ 0#32) (l.take i)).toNat)]) (fun i w1=>i≤l.length∧w1=w) (fun i=>l.length-i) 0 ⟨rfl,rfl,rfl,trivial⟩ ⟨by omega,rfl⟩ ?_;rintro i w1 ρ' ⟨h1,rfl⟩;(conv=>whnf);refine zC (fun _=>?_) (fun _=>?_)<;>(conv=>whnf)
 ·have hi:i<l.length:=by omega
  have hb:=qt l[i];refine qm (fun k:Nat=>[(1,.slice A l.length c),(6,.int .i64 i),(7,.int .i64 k),(5,.int .u32 (qrf (updL (~~~ 0#32) (l.take i)) l[i] k).toNat)]) (fun k w2=>k≤8∧w2=w1) (fun k=>8-k) 0 ⟨rfl,rfl,rfl,rfl,trivial⟩ ⟨by omega,rfl⟩ ?_;rintro k w2 ρ' ⟨k1,rfl⟩;conv=>whnf
  (repeat' (first|(refine zA ?_;(conv=>whnf))|((with_reducible refine zC (fun _=>?_) (fun _=>?_))<;>first|(exfalso;omega)|(conv=>whnf))))
  ·refine ElemV.bs hS rfl i rfl hi ?_;intro eb eo hc;(conv=>whnf);refine LoadV.of hc ?_;(conv=>whnf);have hk:2 ^ k≤128:=Nat.le_trans (Nat.pow_le_pow_right (by decide) (show k≤7 by omega)) (by decide);obtain ⟨q,hq⟩:∃ q,q=l[i].toNat/2 ^ k:=⟨_,rfl⟩
   have hdiv:q≤l[i].toNat:=by rw [hq];exact Nat.div_le_self ..
   refine Wit.shr (m:=((2 ^ k:Nat):Int)) (r:=(q:Int)) ⟨by omega,by show (k:Int)<8;omega⟩ (by rw [Int.toNat_natCast];push_cast;rfl) (by rw [hq,Int.natCast_ediv]) ?_;(conv=>whnf);refine Wit.eq (qao (k:=.u8) (m:=q) 1 rfl ⟨by omega,by omega⟩ ⟨by omega,by omega⟩) ?_;(conv=>whnf);have hbit:q%2 ^ 1=bif l[i].toNat.testBit k then 1 else 0:=by
    rw [Nat.testBit_eq_decide_div_mod_eq,← hq,Nat.pow_one]
    rcases Nat.mod_two_eq_zero_or_one q with h|h<;>rw [h]<;>decide
   rw [hbit];refine CallV.of (qn3 _ (l[i].toNat.testBit k) w2) ?_;rintro v w2 ⟨rfl,rfl⟩;(conv=>whnf);refine zA ?_;(conv=>whnf);exact ⟨k+1,⟨rfl,rfl,rfl,rfl,trivial⟩,⟨by omega,rfl⟩,by omega⟩
  ·have hk:k=8:=by omega
   subst hk;exact ⟨i+1,⟨rfl,rfl,by rw [qnb _ _ _ hi,← qua];rfl,trivial⟩,⟨by omega,rfl⟩,by omega⟩
 ·refine Wit.eq (bnot _) ?_;(conv=>whnf);rw [List.take_of_length_le (by omega)];exact ⟨rfl,rfl⟩
theorem qrj (l:List UInt8) (A:Option Addr) (n c:Nat) (w:World) (hS:SlAt encB 1 w A l) (hn:l.length=n) (hl:l.length≤140737488355328) :
  Gv Tryz.prog 112 [.slice A n c] w fun v w'=>v=.int .u32 (crcL l).toNat∧w'=w:=by
 refine zE Tryz.func112 Tryz.ntmps112 ?_;(conv=>whnf);refine CallV.of (qlf l A n c w hS hn hl) ?_;rintro v w1 ⟨rfl,rfl⟩;(conv=>whnf);exact ⟨rfl,rfl⟩
open Go.RowKit V
set_option maxRecDepth 100000
namespace V
theorem StoreA.same {P:Program} {w:World} {b:Nat} {cur:Array Value} {t:TypeId} {vs:List Value} {K:World→Prop} (hg:w.heap[b]?=some (.cells cur t (0,0))) (hv:vs=cur.toList) (h1:∀ v∈vs,v.oneCell'=true)
  (hk:∀ w',Ext w w'→K w'):StoreA P w b 0 vs K:=by
 subst hv;have hr:=run_storeCells_at P b 0 t cur.toList 0 cur w hg (by simp) h1;have ec:(cur.toList.take (0+0)++cur.toList++cur.toList.drop (0+0+cur.toList.length)).toArray=cur:=by
  rw [List.take_zero,List.nil_append,List.drop_eq_nil_of_le (by simp),List.append_nil]
 rw [ec] at hr;refine ⟨_,hr,hk _ ⟨rfl,rfl,rfl,by simp [World.setRow],fun k _=>?_⟩⟩
 by_cases e:k=b
 ·subst e;rw [qbt hg,hg]
 ·exact ql e
theorem BS.rest {w:World} {g off c a:Nat} {l:List UInt8} (hA:SlAt encB 1 w (some ⟨g,off,none⟩) l) (hc:l.length≤c) (ha:a<l.length):BS w (.slice (some ⟨g,off+a,none⟩) (l.length-a) (c-a)) (l.drop a):=by
 refine ⟨_,c-a,by rw [List.length_drop],by rw [List.length_drop];omega,?_⟩;have:=hA.cut (A':=some ⟨g,off+a,none⟩) (lo:=a) (hi:=l.length) (m:=c) (by omega) (Nat.le_refl _) hc (by rw [if_neg (by omega),Nat.mul_one,Option.map_some,qai])
 rwa [List.take_of_length_le (by simp)] at this
theorem SliceV.rest {g off n c:Nat} {lo:Option Value} {K:Value→Prop} (a:Nat) (h1:bnd lo 0 a) (hn:n≤c) (ha:a<n) (hk:K (.slice (some ⟨g,off+a,none⟩) (n-a) (c-a))):SliceV 1 (some ⟨g,off,none⟩) n c lo none none K:=by
 refine ⟨a,n,c,h1,rfl,rfl,by omega,hn,Nat.le_refl _,fun h=>by simp at h,fun A' e=>?_⟩;rw [if_neg (by omega),Nat.mul_one,Option.map_some,qai] at e;subst e;exact hk
structure CurAt (wd w:World) (v:Value) (o:Obj):Prop where
 h:∃ b,v=.pointer (some ⟨b,0,none⟩)∧wd.heap.size≤b∧w.heap[b]?=some o
structure Two (wd:World) (o1 o2:Obj) (F:World→Prop) (s2 s5 s6 s12 s13 s17:Bool) (v5 v12:Value) (w:World):Prop where
 a:s17=false→Ext wd w∧(s5=true→s6=false→CurAt wd w v5 o1)∧(s12=true→s13=false→CurAt wd w v12 o2)
 d:s6=true→s5=true
 e:s12=true→s6=true
 f:s17=true→F w∧s2=true∧s5=true∧s6=true∧s12=true∧s13=true
section
variable {wd w w':World} {o1 o2:Obj} {F:World→Prop} {s2 s5 s6 s12 s13 s17:Bool} {v5 v12 v:Value}
theorem Two.start:Two wd o1 o2 F false false false false false false v5 v12 wd:=⟨fun _=>⟨Ext.refl _,fun h=>(by cases h),fun h=>(by cases h)⟩,fun h=>(by cases h),fun h=>(by cases h),fun h=>(by cases h)⟩
theorem Two.read1 (h:Two wd o1 o2 F s2 false s6 s12 s13 s17 v5 v12 w) (he:Ext w w') (hv:∃ b,v=.pointer (some ⟨b,0,none⟩)∧w.heap.size≤b∧w'.heap[b]?=some o1):Two wd o1 o2 F s2 true s6 s12 s13 s17 v v12 w':=by
 have h6:s6=false:=by
  cases h':s6
  ·rfl
  ·have:=h.d h';cases this
 have h17:s17=false:=by
  cases h':s17
  ·rfl
  ·have:=(h.f h').2.2.1;cases this
 obtain ⟨a1,a2,a3⟩:=h.a h17;obtain ⟨b,rfl,hb,hc⟩:=hv;have h12:s12=false:=by
  cases h':s12
  ·rfl
  ·have:=h.e h';rw [h6] at this;cases this
 exact ⟨fun _=>⟨a1.trans he,fun _ _=>⟨b,rfl,Nat.le_trans a1.size hb,hc⟩,fun h=>(by rw [h12] at h;cases h)⟩,fun _=>rfl,h.e,fun h=>by rw [h17] at h;cases h⟩
theorem Two.cur1 (h:Two wd o1 o2 F s2 s5 false s12 s13 s17 v5 v12 w) (h5:s5=true):Ext wd w∧CurAt wd w v5 o1:=by
 have h17:s17=false:=by
  cases h':s17
  ·rfl
  ·have:=(h.f h').2.2.2.1;cases this
 obtain ⟨a1,a2,a3⟩:=h.a h17;exact ⟨a1,a2 h5 rfl⟩
theorem Two.fix1 {u5 u12:Value} (h:Two wd o1 o2 F s2 s5 false s12 s13 s17 v5 v12 w) (h5:s5=true) (he:Ext wd w'):Two wd o1 o2 F s2 s5 true s12 s13 s17 u5 u12 w':=by
 have h17:s17=false:=by
  cases h':s17
  ·rfl
  ·have:=(h.f h').2.2.2.1;cases this
 have h12:s12=false:=by
  cases h':s12
  ·rfl
  ·have:=h.e h';cases this
 exact ⟨fun _=>⟨he,fun _ h=>(by cases h),fun h=>(by rw [h12] at h;cases h)⟩,fun _=>h5,fun _=>rfl,fun h=>(by rw [h17] at h;cases h)⟩
theorem Two.ext2 (h:Two wd o1 o2 F s2 s5 s6 false s13 s17 v5 v12 w):Ext wd w:=by
 have h17:s17=false:=by
  cases h':s17
  ·rfl
  ·have:=(h.f h').2.2.2.2.1;cases this
 exact (h.a h17).1
theorem Two.ext1 (h:Two wd o1 o2 F s2 false s6 s12 s13 s17 v5 v12 w):Ext wd w:=by
 have h17:s17=false:=by
  cases h':s17
  ·rfl
  ·have:=(h.f h').2.2.1;cases this
 exact (h.a h17).1
theorem Two.ext0 (h:Two wd o1 o2 F false s5 s6 s12 s13 s17 v5 v12 w):Ext wd w:=by
 have h17:s17=false:=by
  cases h':s17
  ·rfl
  ·have:=(h.f h').2.1;cases this
 exact (h.a h17).1
theorem Two.load (h:Two wd o1 o2 F false s5 s6 s12 s13 s17 v5 v12 w):Two wd o1 o2 F true s5 s6 s12 s13 s17 v5 v12 w:=by
 have h17:s17=false:=by
  cases h':s17
  ·rfl
  ·have:=(h.f h').2.1;cases this
 exact ⟨h.a,h.d,h.e,fun h=>by rw [h17] at h;cases h⟩
theorem Two.read2 (h:Two wd o1 o2 F s2 s5 s6 false s13 s17 v5 v12 w) (h6:s6=true) (he:Ext w w') (hv:∃ b,v=.pointer (some ⟨b,0,none⟩)∧w.heap.size≤b∧w'.heap[b]?=some o2):Two wd o1 o2 F s2 s5 s6 true s13 s17 v5 v w':=by
 have h17:s17=false:=by
  cases h':s17
  ·rfl
  ·have:=(h.f h').2.2.2.2.1;cases this
 obtain ⟨a1,a2,a3⟩:=h.a h17;obtain ⟨b,rfl,hb,hc⟩:=hv;exact ⟨fun _=>⟨a1.trans he,fun _ h=>(by rw [h6] at h;cases h),fun _ _=>⟨b,rfl,Nat.le_trans a1.size hb,hc⟩⟩,h.d,fun _=>h6,fun h=>by rw [h17] at h;cases h⟩
theorem Two.cur2 (h:Two wd o1 o2 F s2 s5 s6 s12 false s17 v5 v12 w) (h12:s12=true):Ext wd w∧CurAt wd w v12 o2:=by
 have h17:s17=false:=by
  cases h':s17
  ·rfl
  ·have:=(h.f h').2.2.2.2.2;cases this
 obtain ⟨a1,a2,a3⟩:=h.a h17;exact ⟨a1,a3 h12 rfl⟩
theorem Two.fix2 (h:Two wd o1 o2 F s2 s5 s6 s12 false s17 v5 v12 w) (h12:s12=true) (he:Ext wd w') {u5 u12:Value}:Two wd o1 o2 F s2 s5 s6 s12 true s17 u5 u12 w':=by
 have h17:s17=false:=by
  cases h':s17
  ·rfl
  ·have:=(h.f h').2.2.2.2.2;cases this
 exact ⟨fun _=>⟨he,fun _ h6=>(by rw [h.e h12] at h6;cases h6),fun _ h=>(by cases h)⟩,h.d,h.e,fun h=>by rw [h17] at h;cases h⟩
end
end V
def hN (l:List UInt8) (k:Nat):Nat:=leN ((l.drop (4*k)).take 4)
def qp (l:List UInt8):Nat × Nat:=
 if l.length<28 then (l.length,10) else if hN l 0≠1095914324 then (0,190) else if hN l 6≠(crcL (l.take 24)).toNat then (24,30) else if hN l 1≠1 then (4,191)
 else if 67108864<hN l 4+hN l 5+36 then (0,2) else if l.length<hN l 4+hN l 5+36 then (l.length,10) else if hN l 4+hN l 5+36<l.length then (hN l 4+hN l 5+36,13) else (0,0)
def zF:List Value:=[.int .i64 0,.int .i64 0,.int .i64 0,.int .i64 0,.slice none 0 0,.slice none 0 0,.int .i64 0,.int .i64 0,.int .u32 0,.int .u32 0]
def okF (l:List UInt8) (A B:Option Addr):List Value:=[.int .i64 (hN l 2),.int .i64 (hN l 3),.int .i64 (hN l 4),.int .i64 (hN l 5),.slice A (hN l 4) (hN l 4),.slice B (hN l 5) (hN l 5),.int .i64 28,.int .i64 (32+hN l 4:Nat),
 .int .u32 (leN ((l.drop (28+hN l 4)).take 4)),.int .u32 (leN ((l.drop (32+hN l 4+hN l 5)).take 4))]
def FrR (l:List UInt8) (v:Value) (w:World):Prop:=
 ((qp l).2≠0∧∃ ev,v=.tuple #[.agg zF.toArray,ev]∧ErrAt w ev (qp l).1 (qp l).2)∨
 ((qp l).2=0∧∃ A B,v=.tuple #[.agg (okF l A B).toArray,.nilIface]∧SlAt encB 1 w A ((l.drop 28).take (hN l 4))∧SlAt encB 1 w B ((l.drop (32+hN l 4)).take (hN l 5)))
theorem qv5 (l:List UInt8) (k:Nat):hN l k<4294967296:=by
 have:=qtr ((l.drop (4*k)).take 4);have h2:((l.drop (4*k)).take 4).length≤4:=by simp;omega
 have h3:256 ^ ((l.drop (4*k)).take 4).length≤256 ^ 4:=Nat.pow_le_pow_right (by decide) h2;have h4:(256:Nat) ^ 4=4294967296:=by decide
 unfold hN;omega
def nsL (l:List UInt8) (i:Nat):List Value:=(List.range 7).map fun k=>Value.int .u64 ((if k<i then hN l k else 0:Nat):Int)
theorem qyv (l:List UInt8) (i:Nat) (hi:i<7):(nsL l i).toArray.setIfInBounds i (.int .u64 (hN l i))=(nsL l (i+1)).toArray:=by
 rw [← Array.toList_inj];simp only [Array.toList_setIfInBounds];apply List.ext_getElem?;intro j;rw [List.getElem?_set];simp only [nsL,List.length_map,List.length_range,List.getElem?_map]
 by_cases e:i=j
 ·subst e;rw [if_pos rfl,if_pos hi,List.getElem?_range hi];simp
 ·rw [if_neg e]
  by_cases hj:j<7
  ·rw [List.getElem?_range hj];simp only [Option.map_some];have:(j<i+1)↔(j<i):=by omega
   simp only [this]
  ·rw [List.getElem?_eq_none (by simp;omega)];rfl
theorem qqm (l:List UInt8) (A:Option Addr) (c:Nat) (w:World) (hS:SlAt encB 1 w A l) (hc:l.length≤c) (hl:l.length≤140737488355328) (hT:CellsAt w 2 0 qi9) :
  Gv Tryz.prog 52 [.slice A l.length c] w fun v w'=>FrR l v w'∧Ext w w':=by
 refine zE Tryz.func52 Tryz.ntmps52 ?_;(conv=>whnf);refine NewV.mem (Mem.nil w) ?_;intro r w1 hm;have hm:Mem w w1 [(r,.cells zF.toArray 116 (0,0))]:=hm;(conv=>whnf);refine zC (fun _=>?_) (fun _=>?_)<;>(conv=>whnf)
 ·refine DrawV.free (by kernel_rfl) (by kernel_rfl) ?_;(conv=>whnf);apply StepD.still
  ·intro wd hd;(conv=>whnf);refine LoadA.mem (Mem.call (Mem.drew hm) hd) (i:=0) rfl rfl ?_;(conv=>whnf);exact ⟨Ext.refl _,rfl⟩
  (conv=>whnf);refine zD ?_;(conv=>whnf);refine zD ?_;(conv=>whnf);apply StepD.of (fun v w=>ErrAt w v (l.length) 10) (fun _ _ _ h he=>h.ext he)
  ·intro wd hd;(conv=>whnf);refine CallV.of (qe3 (l.length) 10 wd) ?_;rintro v w9 ⟨h9,he9⟩;exact ⟨he9,h9⟩
  (conv=>whnf);apply StepD.still
  ·intro wd hd;(conv=>whnf);rintro ev hev;(conv=>whnf);refine StoreA.same ((Mem.call (Mem.drew hm) hd).get (List.mem_cons_self ..)) rfl (by decide) ?_;intro w9 he9;exact ⟨he9,rfl⟩
  (conv=>whnf);apply StepD.of (fun v w=>ErrAt w v (l.length) 10) (fun _ _ _ h he=>h.ext he)
  ·intro wd hd;(conv=>whnf);rintro ev hev;(conv=>whnf);rintro ev2 hev2;(conv=>whnf);obtain ⟨eb,rfl,hec⟩:=hev2;(conv=>whnf);exact ⟨Ext.refl _,eb,rfl,hec⟩
  (conv=>whnf);intro w9 he9;(conv=>whnf);rintro ev ⟨eb,rfl,hec⟩;(conv=>whnf);rintro ev2 hev2;(conv=>whnf);have hm9:=(hm.drew.call he9)
  refine qa (R:=fun v w'=>FrR l v w'∧Ext w w') ?_;(conv=>whnf);refine zL hm9 0 ?_;(conv=>whnf);have hR:qp l=(l.length,10):=by rw [qp,if_pos (by omega)]
  refine ⟨.inl ⟨by rw [hR];simp,_,rfl,?_⟩,hm9.ext⟩;rw [hR];exact ⟨eb,rfl,hec⟩
 have h28:28≤l.length:=by omega
 have hlt:∀ k,hN l k<4294967296:=fun k=>qv5 l k
 refine NewV.mem hm ?_;intro nb w2 hm;(conv=>whnf);have hv:BS w2 (.slice A l.length c) l:=⟨A,c,rfl,hc,hS.ext hm.ext⟩
 refine CallV.of (qdg _ l w2 hv) ?_;rintro v w3 ⟨cb,rfl,hcb,hco,he3⟩;have hm:=hm.fresh he3 hcb hco;(conv=>whnf);refine qm (fun i:Nat=>[(0,.slice A l.length c),(2,.pointer (some ⟨r,0,none⟩)),(3,.nilIface),(4,.pointer (some ⟨nb,0,none⟩)),(5,.pointer (some ⟨cb,0,none⟩)),(17,.int .i64 i)])
  (fun i w4=>i≤7∧Mem w w4 [(cb,curO 251 (.slice A l.length c) (4*i) 0),(nb,.cells (nsL l i).toArray 176 (0,0)),(r,.cells zF.toArray 116 (0,0))]) (fun i=>7-i) 0 ⟨rfl,rfl,rfl,rfl,rfl,rfl,trivial⟩ ⟨by omega,hm⟩ ?_
 clear hm;rintro i w4 ρ' ⟨i1,hm⟩;(conv=>whnf);refine zC (fun _=>?_) (fun _=>?_)<;>(conv=>whnf)
 ·have hv:BS w4 (.slice A l.length c) l:=⟨A,c,rfl,hc,hS.ext hm.ext⟩
  refine CallV.of (qgg cb _ (4*i) l w4 (hm.get (List.mem_cons_self ..)) hv (by omega) hl) ?_;rintro v w5 ⟨rfl,hu⟩;have hm:Mem w w5 [(cb,curO 251 (.slice A l.length c) (4*(i+1)) 0),(nb,.cells (nsL l i).toArray 176 (0,0)),(r,.cells zF.toArray 116 (0,0))]:=hm.upd (i:=0) rfl hu;(conv=>whnf);refine IdxV.nat (by omega) ?_;(conv=>whnf);refine StoreV.mem hm (i:=1) rfl (by rw [show tsz Tryz.prog 175=1 from by kernel_rfl];simp [nsL];omega) rfl ?_;intro w6 hm;(conv=>whnf);refine zA ?_;(conv=>whnf);refine ⟨i+1,⟨rfl,rfl,rfl,rfl,rfl,rfl,trivial⟩,⟨by omega,?_⟩,by omega⟩;have e:=qyv l i (by omega);rw [← e];have e2:0+i*tsz Tryz.prog 175=i:=by rw [show tsz Tryz.prog 175=1 from by kernel_rfl];omega
  rw [e2] at hm;exact hm
 have hi7:i=7:=by omega
 subst hi7;have hm:Mem w w4 [(cb,curO 251 (.slice A l.length c) 28 0),(nb,.cells #[.int .u64 (hN l 0),.int .u64 (hN l 1),.int .u64 (hN l 2),.int .u64 (hN l 3),.int .u64 (hN l 4),.int .u64 (hN l 5),.int .u64 (hN l 6)] 176 (0,0)),(r,.cells zF.toArray 116 (0,0))]:=hm;have g0:=hlt 0;have g1:=hlt 1;have g2:=hlt 2;have g3:=hlt 3;have g4:=hlt 4;have g5:=hlt 5;have g6:=hlt 6;refine IdxV.at_ 4 rfl (by decide) ?_;(conv=>whnf);refine zR hm 1 ?_;(conv=>whnf);refine IdxV.at_ 5 rfl (by decide) ?_;(conv=>whnf);refine zR hm 1 ?_;(conv=>whnf);refine zA ?_;(conv=>whnf);refine Wit.conv ⟨by omega,by omega⟩ ?_;(conv=>whnf);(iterate 2 (refine zA ?_;(conv=>whnf)));have hsz:(hN l 4:Int)+(hN l 5:Int)+28+8=((hN l 4+hN l 5+36:Nat):Int):=by omega
 rw [hsz];refine IdxV.at_ 0 rfl (by decide) ?_;(conv=>whnf);refine zR hm 1 ?_;(conv=>whnf);refine zC (fun _=>?_) (fun _=>?_)<;>(conv=>whnf)
 ·have hm:Mem w _ [(r,.cells zF.toArray 116 (0,0))]:=hm.sub ((List.sublist_cons_self ..).trans (List.sublist_cons_self ..));refine DrawV.free (by kernel_rfl) (by kernel_rfl) ?_;(conv=>whnf);apply StepD.still
  ·intro wd hd;(conv=>whnf);refine LoadA.mem (Mem.call (Mem.drew hm) hd) (i:=0) rfl rfl ?_;(conv=>whnf);exact ⟨Ext.refl _,rfl⟩
  (conv=>whnf);apply StepD.of (fun v w=>ErrAt w v (0) 190) (fun _ _ _ h he=>h.ext he)
  ·intro wd hd;(conv=>whnf);refine CallV.of (qe3 (0) 190 wd) ?_;rintro v w9 ⟨h9,he9⟩;exact ⟨he9,h9⟩
  (conv=>whnf);apply StepD.still
  ·intro wd hd;(conv=>whnf);rintro ev hev;(conv=>whnf);refine StoreA.same ((Mem.call (Mem.drew hm) hd).get (List.mem_cons_self ..)) rfl (by decide) ?_;intro w9 he9;exact ⟨he9,rfl⟩
  (conv=>whnf);apply StepD.of (fun v w=>ErrAt w v (0) 190) (fun _ _ _ h he=>h.ext he)
  ·intro wd hd;(conv=>whnf);rintro ev hev;(conv=>whnf);rintro ev2 hev2;(conv=>whnf);obtain ⟨eb,rfl,hec⟩:=hev2;(conv=>whnf);exact ⟨Ext.refl _,eb,rfl,hec⟩
  (conv=>whnf);intro w9 he9;(conv=>whnf);rintro ev ⟨eb,rfl,hec⟩;(conv=>whnf);rintro ev2 hev2;(conv=>whnf);have hm9:=(hm.drew.call he9)
  refine qa (R:=fun v w'=>FrR l v w'∧Ext w w') ?_;(conv=>whnf);refine zL hm9 0 ?_;(conv=>whnf);have hR:qp l=(0,190):=by rw [qp,if_neg (by omega),if_pos (by omega)]
  refine ⟨.inl ⟨by rw [hR];simp,_,rfl,?_⟩,hm9.ext⟩;rw [hR];exact ⟨eb,rfl,hec⟩
 have hm:=hm.drew;refine DrawV.quiet (by kernel_rfl) (by kernel_rfl) ?_;(conv=>whnf);refine IdxV.at_ 6 rfl (by decide) ?_;(conv=>whnf);refine zW ?_;(conv=>whnf);refine LoadV.mem (i:=1) (by assumption) rfl rfl ?_;(conv=>whnf);refine zW ?_;(conv=>whnf);refine Wit.conv ⟨by omega,by omega⟩ ?_;(conv=>whnf);(iterate 2 (refine zW ?_;(conv=>whnf)));refine SliceV.bs (hS.ext hm.ext) rfl 0 24 c rfl rfl rfl (by omega) (by omega) (by omega) (Nat.le_refl _) (fun _=>rfl) ?_;intro A1 hA1;rw [List.drop_zero] at hA1;(conv=>whnf);refine zW ?_;(conv=>whnf);refine ⟨.int .u32 (crcL (l.take 24)).toNat,qzi (l.take 24) A1 _ _ _ hA1 (by simp;omega) (by simp;omega) (hT.ext hm.ext),?_⟩;(conv=>whnf);(iterate 2 (refine zW ?_;(conv=>whnf)));refine zC (fun _=>?_) (fun _=>?_)<;>(conv=>whnf)
 ·have hm:Mem w _ [(r,.cells zF.toArray 116 (0,0))]:=hm.sub ((List.sublist_cons_self ..).trans (List.sublist_cons_self ..));refine DrawV.free (by kernel_rfl) (by kernel_rfl) ?_;(conv=>whnf);apply StepD.still
  ·intro wd hd;(conv=>whnf);refine LoadA.mem (Mem.call (Mem.drew hm) hd) (i:=0) rfl rfl ?_;(conv=>whnf);exact ⟨Ext.refl _,rfl⟩
  (conv=>whnf);apply StepD.of (fun v w=>ErrAt w v (24) 30) (fun _ _ _ h he=>h.ext he)
  ·intro wd hd;(conv=>whnf);refine CallV.of (qe3 (24) 30 wd) ?_;rintro v w9 ⟨h9,he9⟩;exact ⟨he9,h9⟩
  (conv=>whnf);apply StepD.still
  ·intro wd hd;(conv=>whnf);rintro ev hev;(conv=>whnf);refine StoreA.same ((Mem.call (Mem.drew hm) hd).get (List.mem_cons_self ..)) rfl (by decide) ?_;intro w9 he9;exact ⟨he9,rfl⟩
  (conv=>whnf);apply StepD.of (fun v w=>ErrAt w v (24) 30) (fun _ _ _ h he=>h.ext he)
  ·intro wd hd;(conv=>whnf);rintro ev hev;(conv=>whnf);rintro ev2 hev2;(conv=>whnf);obtain ⟨eb,rfl,hec⟩:=hev2;(conv=>whnf);exact ⟨Ext.refl _,eb,rfl,hec⟩
  (conv=>whnf);intro w9 he9;(conv=>whnf);rintro ev ⟨eb,rfl,hec⟩;(conv=>whnf);rintro ev2 hev2;(conv=>whnf);have hm9:=(hm.drew.call he9)
  refine qa (R:=fun v w'=>FrR l v w'∧Ext w w') ?_;(conv=>whnf);refine zL hm9 0 ?_;(conv=>whnf);have hR:qp l=(24,30):=by rw [qp,if_neg (by omega),if_neg (by omega),if_pos (by omega)]
  refine ⟨.inl ⟨by rw [hR];simp,_,rfl,?_⟩,hm9.ext⟩;rw [hR];exact ⟨eb,rfl,hec⟩
 refine IdxV.at_ 1 rfl (by decide) ?_;(conv=>whnf);refine zR hm 1 ?_;conv=>whnf
 (repeat' ((with_reducible refine zC (fun _=>?_) (fun _=>?_))<;>first|(exfalso;omega)|(conv=>whnf)))
 ·have hm:Mem w _ [(r,.cells zF.toArray 116 (0,0))]:=hm.sub ((List.sublist_cons_self ..).trans (List.sublist_cons_self ..));refine DrawV.free (by kernel_rfl) (by kernel_rfl) ?_;(conv=>whnf);apply StepD.still
  ·intro wd hd;(conv=>whnf);refine LoadA.mem (Mem.call (Mem.drew hm) hd) (i:=0) rfl rfl ?_;(conv=>whnf);exact ⟨Ext.refl _,rfl⟩
  (conv=>whnf);apply StepD.of (fun v w=>ErrAt w v (4) 191) (fun _ _ _ h he=>h.ext he)
  ·intro wd hd;(conv=>whnf);refine CallV.of (qe3 (4) 191 wd) ?_;rintro v w9 ⟨h9,he9⟩;exact ⟨he9,h9⟩
  (conv=>whnf);apply StepD.still
  ·intro wd hd;(conv=>whnf);rintro ev hev;(conv=>whnf);refine StoreA.same ((Mem.call (Mem.drew hm) hd).get (List.mem_cons_self ..)) rfl (by decide) ?_;intro w9 he9;exact ⟨he9,rfl⟩
  (conv=>whnf);apply StepD.of (fun v w=>ErrAt w v (4) 191) (fun _ _ _ h he=>h.ext he)
  ·intro wd hd;(conv=>whnf);rintro ev hev;(conv=>whnf);rintro ev2 hev2;(conv=>whnf);obtain ⟨eb,rfl,hec⟩:=hev2;(conv=>whnf);exact ⟨Ext.refl _,eb,rfl,hec⟩
  (conv=>whnf);intro w9 he9;(conv=>whnf);rintro ev ⟨eb,rfl,hec⟩;(conv=>whnf);rintro ev2 hev2;(conv=>whnf);have hm9:=(hm.drew.call he9)
  refine qa (R:=fun v w'=>FrR l v w'∧Ext w w') ?_;(conv=>whnf);refine zL hm9 0 ?_;(conv=>whnf);have hR:qp l=(4,191):=by rw [qp,if_neg (by omega),if_neg (by omega),if_neg (by omega),if_pos (by omega)]
  refine ⟨.inl ⟨by rw [hR];simp,_,rfl,?_⟩,hm9.ext⟩;rw [hR];exact ⟨eb,rfl,hec⟩
 ·have hm:Mem w _ [(r,.cells zF.toArray 116 (0,0))]:=hm.sub ((List.sublist_cons_self ..).trans (List.sublist_cons_self ..));refine DrawV.free (by kernel_rfl) (by kernel_rfl) ?_;(conv=>whnf);apply StepD.still
  ·intro wd hd;(conv=>whnf);refine LoadA.mem (Mem.call (Mem.drew hm) hd) (i:=0) rfl rfl ?_;(conv=>whnf);exact ⟨Ext.refl _,rfl⟩
  (conv=>whnf);apply StepD.of (fun v w=>ErrAt w v (0) 2) (fun _ _ _ h he=>h.ext he)
  ·intro wd hd;(conv=>whnf);refine CallV.of (qe3 (0) 2 wd) ?_;rintro v w9 ⟨h9,he9⟩;exact ⟨he9,h9⟩
  (conv=>whnf);apply StepD.still
  ·intro wd hd;(conv=>whnf);rintro ev hev;(conv=>whnf);refine StoreA.same ((Mem.call (Mem.drew hm) hd).get (List.mem_cons_self ..)) rfl (by decide) ?_;intro w9 he9;exact ⟨he9,rfl⟩
  (conv=>whnf);apply StepD.of (fun v w=>ErrAt w v (0) 2) (fun _ _ _ h he=>h.ext he)
  ·intro wd hd;(conv=>whnf);rintro ev hev;(conv=>whnf);rintro ev2 hev2;(conv=>whnf);obtain ⟨eb,rfl,hec⟩:=hev2;(conv=>whnf);exact ⟨Ext.refl _,eb,rfl,hec⟩
  (conv=>whnf);intro w9 he9;(conv=>whnf);rintro ev ⟨eb,rfl,hec⟩;(conv=>whnf);rintro ev2 hev2;(conv=>whnf);have hm9:=(hm.drew.call he9)
  refine qa (R:=fun v w'=>FrR l v w'∧Ext w w') ?_;(conv=>whnf);refine zL hm9 0 ?_;(conv=>whnf);have hR:qp l=(0,2):=by rw [qp,if_neg (by omega),if_neg (by omega),if_neg (by omega),if_neg (by omega),if_pos (by omega)]
  refine ⟨.inl ⟨by rw [hR];simp,_,rfl,?_⟩,hm9.ext⟩;rw [hR];exact ⟨eb,rfl,hec⟩
 ·have hm:Mem w _ [(r,.cells zF.toArray 116 (0,0))]:=hm.sub ((List.sublist_cons_self ..).trans (List.sublist_cons_self ..));refine DrawV.free (by kernel_rfl) (by kernel_rfl) ?_;(conv=>whnf);apply StepD.still
  ·intro wd hd;(conv=>whnf);refine LoadA.mem (Mem.call (Mem.drew hm) hd) (i:=0) rfl rfl ?_;(conv=>whnf);exact ⟨Ext.refl _,rfl⟩
  (conv=>whnf);refine zD ?_;(conv=>whnf);refine zD ?_;(conv=>whnf);apply StepD.of (fun v w=>ErrAt w v (l.length) 10) (fun _ _ _ h he=>h.ext he)
  ·intro wd hd;(conv=>whnf);refine CallV.of (qe3 (l.length) 10 wd) ?_;rintro v w9 ⟨h9,he9⟩;exact ⟨he9,h9⟩
  (conv=>whnf);apply StepD.still
  ·intro wd hd;(conv=>whnf);rintro ev hev;(conv=>whnf);refine StoreA.same ((Mem.call (Mem.drew hm) hd).get (List.mem_cons_self ..)) rfl (by decide) ?_;intro w9 he9;exact ⟨he9,rfl⟩
  (conv=>whnf);apply StepD.of (fun v w=>ErrAt w v (l.length) 10) (fun _ _ _ h he=>h.ext he)
  ·intro wd hd;(conv=>whnf);rintro ev hev;(conv=>whnf);rintro ev2 hev2;(conv=>whnf);obtain ⟨eb,rfl,hec⟩:=hev2;(conv=>whnf);exact ⟨Ext.refl _,eb,rfl,hec⟩
  (conv=>whnf);intro w9 he9;(conv=>whnf);rintro ev ⟨eb,rfl,hec⟩;(conv=>whnf);rintro ev2 hev2;(conv=>whnf);have hm9:=(hm.drew.call he9)
  refine qa (R:=fun v w'=>FrR l v w'∧Ext w w') ?_;(conv=>whnf);refine zL hm9 0 ?_;(conv=>whnf);have hR:qp l=(l.length,10):=by rw [qp,if_neg (by omega),if_neg (by omega),if_neg (by omega),if_neg (by omega),if_neg (by omega),if_pos (by omega)]
  refine ⟨.inl ⟨by rw [hR];simp,_,rfl,?_⟩,hm9.ext⟩;rw [hR];exact ⟨eb,rfl,hec⟩
 ·have hm:Mem w _ [(r,.cells zF.toArray 116 (0,0))]:=hm.sub ((List.sublist_cons_self ..).trans (List.sublist_cons_self ..));refine DrawV.free (by kernel_rfl) (by kernel_rfl) ?_;(conv=>whnf);apply StepD.still
  ·intro wd hd;(conv=>whnf);refine LoadA.mem (Mem.call (Mem.drew hm) hd) (i:=0) rfl rfl ?_;(conv=>whnf);exact ⟨Ext.refl _,rfl⟩
  (conv=>whnf);refine zD ?_;(conv=>whnf);apply StepD.of (fun v w=>ErrAt w v (hN l 4+hN l 5+36) 13) (fun _ _ _ h he=>h.ext he)
  ·intro wd hd;(conv=>whnf);refine CallV.of (qe3 (hN l 4+hN l 5+36) 13 wd) ?_;rintro v w9 ⟨h9,he9⟩;exact ⟨he9,h9⟩
  (conv=>whnf);apply StepD.still
  ·intro wd hd;(conv=>whnf);rintro ev hev;(conv=>whnf);refine StoreA.same ((Mem.call (Mem.drew hm) hd).get (List.mem_cons_self ..)) rfl (by decide) ?_;intro w9 he9;exact ⟨he9,rfl⟩
  (conv=>whnf);apply StepD.of (fun v w=>ErrAt w v (hN l 4+hN l 5+36) 13) (fun _ _ _ h he=>h.ext he)
  ·intro wd hd;(conv=>whnf);rintro ev hev;(conv=>whnf);rintro ev2 hev2;(conv=>whnf);obtain ⟨eb,rfl,hec⟩:=hev2;(conv=>whnf);exact ⟨Ext.refl _,eb,rfl,hec⟩
  (conv=>whnf);intro w9 he9;(conv=>whnf);rintro ev ⟨eb,rfl,hec⟩;(conv=>whnf);rintro ev2 hev2;(conv=>whnf);have hm9:=(hm.drew.call he9)
  refine qa (R:=fun v w'=>FrR l v w'∧Ext w w') ?_;(conv=>whnf);refine zL hm9 0 ?_;(conv=>whnf);have hR:qp l=(hN l 4+hN l 5+36,13):=by rw [qp,if_neg (by omega),if_neg (by omega),if_neg (by omega),if_neg (by omega),if_neg (by omega),if_neg (by omega),if_pos (by omega)]
  refine ⟨.inl ⟨by rw [hR];simp,_,rfl,?_⟩,hm9.ext⟩;rw [hR];exact ⟨eb,rfl,hec⟩
 have hR:qp l=(0,0):=by rw [qp,if_neg (by omega),if_neg (by omega),if_neg (by omega),if_neg (by omega),if_neg (by omega),if_neg (by omega),if_neg (by omega)]
 refine IdxV.at_ 2 rfl (by decide) ?_;(conv=>whnf);refine zR hm 1 ?_;(conv=>whnf);refine Wit.conv ⟨by omega,by omega⟩ ?_;(conv=>whnf);refine IdxV.at_ 3 rfl (by decide) ?_;(conv=>whnf);refine zR hm 1 ?_;(conv=>whnf);refine Wit.conv ⟨by omega,by omega⟩ ?_;(conv=>whnf);refine IdxV.at_ 4 rfl (by decide) ?_;(conv=>whnf);refine zR hm 1 ?_;(conv=>whnf);refine Wit.conv ⟨by omega,by omega⟩ ?_;(conv=>whnf);refine IdxV.at_ 5 rfl (by decide) ?_;(conv=>whnf);refine zR hm 1 ?_;(conv=>whnf);refine Wit.conv ⟨by omega,by omega⟩ ?_;(conv=>whnf);refine StoreA.mem hm (i:=2) rfl (show 0+4≤10 by decide) (by intro v hv;simp at hv;rcases hv with rfl|rfl|rfl|rfl<;>rfl) ?_;intro w5 hm;have hm:Mem w w5 [_,_,(r,.cells #[.int .i64 (hN l 2),.int .i64 (hN l 3),.int .i64 (hN l 4),.int .i64 (hN l 5),.slice none 0 0,.slice none 0 0,.int .i64 0,.int .i64 0,.int .u32 0,.int .u32 0] 116 (0,0))]:=hm;(conv=>whnf);refine StoreV.mem hm (i:=2) rfl (show 6<10 by decide) rfl ?_;intro w6 hm;have hm:Mem w w6 [_,_,(r,.cells #[.int .i64 (hN l 2),.int .i64 (hN l 3),.int .i64 (hN l 4),.int .i64 (hN l 5),.slice none 0 0,.slice none 0 0,.int .i64 28,.int .i64 0,.int .u32 0,.int .u32 0] 116 (0,0))]:=hm;(conv=>whnf);refine IdxV.at_ 4 rfl (by decide) ?_;(conv=>whnf);refine zR hm 1 ?_;(conv=>whnf);refine Wit.conv ⟨by omega,by omega⟩ ?_;(conv=>whnf);(iterate 2 (refine zA ?_;(conv=>whnf)));refine StoreV.mem hm (i:=2) rfl (show 7<10 by decide) rfl ?_;intro w7 hm;have hm:Mem w w7 [_,_,(r,.cells #[.int .i64 (hN l 2),.int .i64 (hN l 3),.int .i64 (hN l 4),.int .i64 (hN l 5),.slice none 0 0,.slice none 0 0,.int .i64 28,.int .i64 (28+(hN l 4:Int)+4),.int .u32 0,.int .u32 0] 116 (0,0))]:=hm;have e32:28+(hN l 4:Int)+4=((32+hN l 4:Nat):Int):=by omega
 rw [e32] at hm;(conv=>whnf);refine zR hm 2 ?_;(conv=>whnf);refine zR hm 2 ?_;(conv=>whnf);refine zA ?_;(conv=>whnf);refine LoadV.mem (i:=2) (by assumption) rfl rfl ?_;(conv=>whnf);refine zA ?_;(conv=>whnf);refine SliceV.bs hS rfl 28 (28+hN l 4) (28+hN l 4) rfl (by show ((32+hN l 4:Nat):Int)-4=((28+hN l 4:Nat):Int);omega) (by show ((32+hN l 4:Nat):Int)-4=((28+hN l 4:Nat):Int);omega) (by omega) (by omega) (Nat.le_refl _) (by omega) (fun _=>rfl) ?_;intro A1 hA1;have e28:28+hN l 4-28=hN l 4:=by omega
 rw [e28] at hA1 ⊢;(conv=>whnf);refine StoreV.mem hm (i:=2) rfl (show 4<10 by decide) rfl ?_;intro w8 hm;have hm:Mem w w8 [_,_,(r,.cells #[.int .i64 (hN l 2),.int .i64 (hN l 3),.int .i64 (hN l 4),.int .i64 (hN l 5),.slice A1 (hN l 4) (hN l 4),.slice none 0 0,.int .i64 28,.int .i64 ((32+hN l 4:Nat):Int),.int .u32 0,.int .u32 0] 116 (0,0))]:=hm;(conv=>whnf);refine zR hm 2 ?_;(conv=>whnf);(iterate 2 (refine zA ?_;(conv=>whnf)));refine SliceV.bs hS rfl (32+hN l 4) (32+hN l 4+hN l 5) (32+hN l 4+hN l 5) rfl (by show ((hN l 4:Int)+(hN l 5:Int))+28+8-4=((32+hN l 4+hN l 5:Nat):Int);omega) (by show ((hN l 4:Int)+(hN l 5:Int))+28+8-4=((32+hN l 4+hN l 5:Nat):Int);omega) (by omega) (by omega) (Nat.le_refl _) (by omega) (fun _=>rfl) ?_;intro A2 hA2;have e29:32+hN l 4+hN l 5-(32+hN l 4)=hN l 5:=by omega
 rw [e29] at hA2 ⊢;(conv=>whnf);refine StoreV.mem hm (i:=2) rfl (show 5<10 by decide) rfl ?_;intro w9 hm;have hm:Mem w w9 [_,_,(r,.cells #[.int .i64 (hN l 2),.int .i64 (hN l 3),.int .i64 (hN l 4),.int .i64 (hN l 5),.slice A1 (hN l 4) (hN l 4),.slice A2 (hN l 5) (hN l 5),.int .i64 28,.int .i64 ((32+hN l 4:Nat):Int),.int .u32 0,.int .u32 0] 116 (0,0))]:=hm;(conv=>whnf);obtain ⟨g,off,hA,_⟩:=hS.at_ (by intro e;rw [e] at h28;simp at h28);subst hA;obtain ⟨n1,hn1⟩:∃ n,n=leN ((l.drop (28+hN l 4)).take 4):=⟨_,rfl⟩
 obtain ⟨n2,hn2⟩:∃ n,n=leN ((l.drop (32+hN l 4+hN l 5)).take 4):=⟨_,rfl⟩
 have b1:n1<4294967296:=by
  have:=qag (l.drop (28+hN l 4)) 4 (by rw [List.length_drop];omega);rw [hn1];simpa using this
 have b2:n2<4294967296:=by
  have:=qag (l.drop (32+hN l 4+hN l 5)) 4 (by rw [List.length_drop];omega);rw [hn2];simpa using this
 have hBA:∀ wx,Ext w wx→BS wx (.slice (some ⟨g,off+(28+hN l 4),none⟩) (l.length-(28+hN l 4)) (c-(28+hN l 4))) (l.drop (28+hN l 4)):=fun wx he=>BS.rest (hS.ext he) hc (by omega)
 have hBB:∀ wx,Ext w wx→BS wx (.slice (some ⟨g,off+(32+hN l 4+hN l 5),none⟩) (l.length-(32+hN l 4+hN l 5)) (c-(32+hN l 4+hN l 5))) (l.drop (32+hN l 4+hN l 5)):=fun wx he=>BS.rest (hS.ext he) hc (by omega)
 obtain ⟨F,hF⟩:∃ F:World→Prop,F=fun w'=>Mem w w' [(cb,curO 251 (.slice (some ⟨g,off,none⟩) l.length c) 28 0),(nb,.cells (nsL l 7).toArray 176 (0,0)),(r,.cells #[.int .i64 (hN l 2),.int .i64 (hN l 3),.int .i64 (hN l 4),.int .i64 (hN l 5),.slice A1 (hN l 4) (hN l 4),.slice A2 (hN l 5) (hN l 5),.int .i64 28,.int .i64 ((32+hN l 4:Nat):Int),.int .u32 n1,.int .u32 n2] 116 (0,0))]:=⟨_,rfl⟩
 refine DrawV.gen (fun S vals w'=>Two w9.drew (curO 251 (.slice (some ⟨g,off+(28+hN l 4),none⟩) (l.length-(28+hN l 4)) (c-(28+hN l 4))) 0 0) (curO 251 (.slice (some ⟨g,off+(32+hN l 4+hN l 5),none⟩) (l.length-(32+hN l 4+hN l 5)) (c-(32+hN l 4+hN l 5))) 0 0) F (S 2) (S 5) (S 6) (S 12) (S 13) (S 17) (vals 5) (vals 12) w') rfl (by kernel_rfl) (fun vals=>Two.start) ?_;(conv=>whnf);refine zG ?_;(conv=>whnf);refine zG ?_;conv=>whnf
 ·refine StepG.of (.int .i64 ((32+hN l 4:Nat):Int)) (fun S vals wd hk hp hI=>?_) ?_
  ·dsimp only at hI;rw [hk] at hI;(conv=>whnf);refine LoadV.mem (hm.drew.call hI.ext0) (i:=2) rfl rfl ?_;(conv=>whnf);exact ⟨rfl,hI.load⟩
  (conv=>whnf);refine zG ?_ (by intro S vals wd hk hp hI;(conv=>whnf);(refine zA ?_;(conv=>whnf));exact ⟨rfl,hI⟩);conv=>whnf
  ·refine StepG.of (.slice (some ⟨g,off+(28+hN l 4),none⟩) (l.length-(28+hN l 4)) (c-(28+hN l 4))) (fun S vals wd hk hp hI=>?_) ?_
   ·(conv=>whnf);refine SliceV.rest (28+hN l 4) (by show ((32+hN l 4:Nat):Int)-4=((28+hN l 4:Nat):Int);omega) hc (by omega) ?_;(conv=>whnf);exact ⟨rfl,hI⟩
   (conv=>whnf)
   ·refine StepG.any (fun S vals wd hk hp hI=>?_) ?_
    ·dsimp only at hI;rw [hk] at hI;(conv=>whnf);refine CallV.of (qdg _ _ wd (hBA wd (hm.drew.ext.trans hI.ext1))) ?_;rintro v wx ⟨b,rfl,hb,hb2,he⟩;(conv=>whnf);exact ⟨trivial,Two.read1 hI he ⟨b,rfl,hb,hb2⟩⟩
    (conv=>whnf);refine StepG.of (.int .u64 n1) (fun S vals wd hk hp hI=>?_) ?_
    ·dsimp only at hI;have h5:S 5=true:=hp 5 (by decide);rw [hk] at hI;obtain ⟨he0,b,hv5,hb,hb2⟩:=hI.cur1 h5;rw [qh hv5];(conv=>whnf);refine CallV.of (qgg b _ 0 (l.drop (28+hN l 4)) wd hb2 (hBA wd (hm.drew.ext.trans he0)) (by rw [List.length_drop];omega) (by rw [List.length_drop];omega)) ?_;rintro v wx ⟨rfl,hu⟩;(conv=>whnf);exact ⟨by rw [hn1,List.drop_zero];rfl,hI.fix1 h5 (hu.ext he0 hb)⟩
    (conv=>whnf);refine zG ?_ (by intro S vals wd hk hp hI;(conv=>whnf);(refine Wit.conv ⟨by omega,by omega⟩ ?_;(conv=>whnf));exact ⟨rfl,hI⟩);(conv=>whnf);refine zG ?_;(conv=>whnf);refine zG ?_;(conv=>whnf);refine zG ?_ (by intro S vals wd hk hp hI;(conv=>whnf);(refine zA ?_;(conv=>whnf));exact ⟨rfl,hI⟩);conv=>whnf
    ·refine StepG.of (.slice (some ⟨g,off+(32+hN l 4+hN l 5),none⟩) (l.length-(32+hN l 4+hN l 5)) (c-(32+hN l 4+hN l 5))) (fun S vals wd hk hp hI=>?_) ?_
     ·(conv=>whnf);refine SliceV.rest (32+hN l 4+hN l 5) (by show ((hN l 4+hN l 5+36:Nat):Int)-4=((32+hN l 4+hN l 5:Nat):Int);omega) hc (by omega) ?_;(conv=>whnf);exact ⟨rfl,hI⟩
     (conv=>whnf);refine StepG.any (fun S vals wd hk hp hI=>?_) ?_
     ·dsimp only at hI;have h6:S 6=true:=hp 6 (by decide);rw [hk] at hI;(conv=>whnf);refine CallV.of (qdg _ _ wd (hBB wd (hm.drew.ext.trans hI.ext2))) ?_;rintro v wx ⟨b,rfl,hb,hb2,he⟩;(conv=>whnf);exact ⟨trivial,Two.read2 hI h6 he ⟨b,rfl,hb,hb2⟩⟩
     (conv=>whnf);refine StepG.of (.int .u64 n2) (fun S vals wd hk hp hI=>?_) ?_
     ·dsimp only at hI;have h12:S 12=true:=hp 12 (by decide);rw [hk] at hI;obtain ⟨he0,b,hv5,hb,hb2⟩:=hI.cur2 h12;rw [qh hv5];(conv=>whnf);refine CallV.of (qgg b _ 0 (l.drop (32+hN l 4+hN l 5)) wd hb2 (hBB wd (hm.drew.ext.trans he0)) (by rw [List.length_drop];omega) (by rw [List.length_drop];omega)) ?_;rintro v wx ⟨rfl,hu⟩;(conv=>whnf);exact ⟨by rw [hn2,List.drop_zero];rfl,hI.fix2 h12 (hu.ext he0 hb)⟩
     (conv=>whnf);refine zG ?_ (by intro S vals wd hk hp hI;(conv=>whnf);(refine Wit.conv ⟨by omega,by omega⟩ ?_;(conv=>whnf));exact ⟨rfl,hI⟩);(conv=>whnf);refine zG ?_;(conv=>whnf);refine zG ?_;(conv=>whnf);refine StepG.of undef (fun S vals wd hk hp hI=>?_) ?_
     ·dsimp only at hI;have h2:S 2=true:=hp 2 (by decide);have h5:S 5=true:=hp 5 (by decide);have h6:S 6=true:=hp 6 (by decide);have h12:S 12=true:=hp 12 (by decide);have h13:S 13=true:=hp 13 (by decide);rw [hk] at hI;have he0:=(hI.a rfl).1;(conv=>whnf);refine StoreA.mem (hm.drew.call he0) (i:=2) rfl (show 8+2≤10 by decide) (by intro v hv;simp at hv;rcases hv with rfl|rfl<;>rfl) ?_;intro wx hmx;(conv=>whnf);refine ⟨rfl,?_⟩;refine ⟨fun h=>(by cases h),hI.d,hI.e,fun _=>⟨by rw [hF];exact hmx,h2,h5,h6,h12,h13⟩⟩
     (conv=>whnf);intro vals w10 hI;have hm10:=(hI.f rfl).1;rw [hF] at hm10;(conv=>whnf);refine zL hm10 2 ?_;(conv=>whnf);refine StoreA.same (hm10.get (List.mem_cons_of_mem _ (List.mem_cons_of_mem _ (List.mem_cons_self ..)))) rfl (by intro v hv;simp at hv;rcases hv with rfl|rfl|rfl|rfl|rfl|rfl|rfl|rfl|rfl|rfl<;>rfl) ?_;intro w11 he11;(conv=>whnf);refine qa (R:=fun v w'=>FrR l v w'∧Ext w w') ?_;(conv=>whnf);have hm11:=hm10.call he11;refine zL hm11 2 ?_;(conv=>whnf);refine ⟨.inr ⟨by rw [hR],A1,A2,?_,?_,?_⟩,hm11.ext⟩
     ·rw [okF,← hn1,← hn2];rfl
     ·exact hA1.ext hm11.ext
     ·exact hA2.ext hm11.ext
end Go.Proofs.YtajgbepghniciaaGreatDoor
