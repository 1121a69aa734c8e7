/- Lemmas and contracts of functions on the way to the law's card (part 4 of 16). -/
import Derived.Test.YtccmcfpmknpccaaGreatDoorSH3
import Derived.Lib.SplitLaws
import Derived.Laws.Small
import Derived.Laws.StructEq
namespace Go.Proofs.YtccmcfpmknpccaaGreatDoor
set_option maxHeartbeats 8000000
open Go.RowKit V
set_option maxRecDepth 100000
structure RS (w0 w:World) (O:List Nat) (rb:Nat) (rest:List ByteArray) (A:oA) (c:Nat) (V E:Value) (L:List (Nat × Obj)) (R:List (List Value × Value)):Prop where
 mem:Mem w0 w L
 rd:∃ a0 a1 a2 a3 a6,(rb,rdC A rest.length c (tagC a0 a1 a2 a3 V E a6))∈L
 rows:RowsP 9 O L R
 sl:SlAt zeS 1 w0 A rest
 hc:rest.length≤c
 hO:rb∈O
 all:∀ g∈O,∃ o,(g,o)∈L
 small:∀ x∈rest,x.size≤1000000
 vs:(∃ A n c,V=.slice A n c)∧∃ A n c,E=.slice A n c
section
variable {w0 w w':World} {O:List Nat} {rb:Nat} {rest xs:List ByteArray} {x:ByteArray} {A A':oA} {c c':Nat} {V E V' E':Value} {L L':List (Nat × Obj)} {R:List (List Value × Value)} {o':Obj}
theorem RS.call (h:RS w0 w O rb rest A c V E L R) (he:Ext w w'):RS w0 w' O rb rest A c V E L R:={ h with mem:=h.mem.call he }
theorem RS.step (h:RS w0 w O rb rest A c V E L R) (hr:RdM w0 w' L rb o' L') (ho:∃ a0 a1 a2 a3 a6,o'=rdC A' xs.length c' (tagC a0 a1 a2 a3 V' E' a6)) (hS:SlAt zeS 1 w0 A' xs) (hc:xs.length≤c') (hsub:∀ y∈xs,y∈rest) (hvs:(∃ A n c,V'=.slice A n c)∧∃ A n c,E'=.slice A n c):RS w0 w' O rb xs A' c' V' E' L' R:=by
 obtain ⟨a0,a1,a2,a3,a6,rfl⟩:=ho;refine ⟨hr.mem,⟨a0,a1,a2,a3,a6,hr.rd⟩,h.rows.keep fun y hy hO=>hr.keep y hy fun e=>hO (e ▸ h.hO),hS,hc,h.hO,fun g hg=>?_,fun y hy=>h.small y (hsub y hy),hvs⟩
 by_cases e:g=rb
 ·subst e;exact ⟨_,hr.rd⟩
 ·obtain ⟨o,ho⟩:=h.all g hg;exact ⟨o,hr.keep _ ho e⟩
theorem RS.grow {R':List (List Value × Value)} (h:RS w0 w O rb rest A c V E L R) (hm:Mem w0 w' L') (hR:RowsP 9 O L' R') (hk:∀ y∈L,y.1∈O→y∈L'):RS w0 w' O rb rest A c V E L' R':=by
 obtain ⟨a0,a1,a2,a3,a6,hrd⟩:=h.rd;refine ⟨hm,⟨a0,a1,a2,a3,a6,hk _ hrd h.hO⟩,hR,h.sl,h.hc,h.hO,fun g hg=>?_,h.small,h.vs⟩;obtain ⟨o,ho⟩:=h.all g hg;exact ⟨o,hk _ ho hg⟩
theorem RS.new {nb:Nat} {o:Obj} (h:RS w0 w O rb rest A c V E L R) (hb:nb=w.heap.size) (hw:w'=w.alloc o):RS w0 w' O rb rest A c V E L R∧w'.heap[nb]?=some o:=by
 subst hb hw;exact ⟨h.call ((Ext.refl w).alloc o),heap_alloc_new w o⟩
end
theorem NewV.rs {w0 w:World} {O:List Nat} {rb:Nat} {rest:List ByteArray} {A:oA} {c:Nat} {V E:Value} {L:List (Nat × Obj)} {R:List (List Value × Value)} {o:Obj} {K:Nat→World→Prop} (h:RS w0 w O rb rest A c V E L R) (hk:∀ b w',RS w0 w' O rb rest A c V E L R→w'.heap[b]?=some o→K b w'):NewV w o K:=
 ⟨fun b w' hb hw=>hk b w' (h.new hb hw).1 (h.new hb hw).2⟩
theorem qhe {w0 w:World} {O:List Nat} {rb g:Nat} {rest:List ByteArray} {A:oA} {c:Nat} {V E:Value} {L:List (Nat × Obj)} {R:List (List Value × Value)} (p:ByteArray→Bool) (h:RS w0 w O rb rest A c V E L R)
  (hp:∀ x w1,x.size≤140737488355328→Gv Tryz.prog g [.string x] w1 fun v w2=>v=.bool (p x)∧Ext w1 w2) :
  Gv Tryz.prog 218 [pp rb,.func (.func g) #[] #[]] w fun v w'=>v=.bool (seeB p rest)∧RS w0 w' O rb rest A c V E L R:=by
 obtain ⟨a0,a1,a2,a3,a6,hrd⟩:=h.rd;refine (qil rb g [] p rest A c _ w (h.mem.get hrd) (h.sl.ext h.mem.ext) (fun x ys w3 e _=>hp x w3 (by have:=h.small x (by rw [e];exact List.mem_cons_self ..);omega))).mono ?_;rintro v w' ⟨rfl,he⟩;exact ⟨rfl,h.call he⟩
theorem qjc {w0 w:World} {O:List Nat} {rb:Nat} {x:ByteArray} {xs:List ByteArray} {A:oA} {c:Nat} {V E:Value} {L:List (Nat × Obj)} {R:List (List Value × Value)} (h:RS w0 w O rb (x::xs) A c V E L R) :
  Gv Tryz.prog 222 [pp rb] w fun v w'=>v=.string x∧∃ A' c' L',RS w0 w' O rb xs A' c' V E L' R∧(∀ y∈L,y.1≠rb→y∈L'):=by
 obtain ⟨a0,a1,a2,a3,a6,hrd⟩:=h.rd;refine (q4f h.mem hrd h.sl h.hc).mono ?_;rintro v w' ⟨rfl,A',c',L',h1,h2,h3⟩;exact ⟨rfl,A',c',L',h.step h3 ⟨_,_,_,_,_,rfl⟩ h1 h2 (fun y hy=>zmc hy) h.vs,h3.keep⟩
theorem strI:Tryz.prog.info? 9=some ((Tryz.prog.info? 9).get Jk):=(Option.some_get _).symm
theorem strZ:((Tryz.prog.info? 9).get Jk).zero=some (.string ⟨#[]⟩):=by kernel_rfl
theorem RowsP.nils (e:TypeId) (O:List Nat) (L:List (Nat × Obj)) (R:List (List Value × Value)) (h:∀ p∈R,p=([],.slice none 0 0)):RowsP e O L R:=by
 refine ⟨fun k p hp=>?_,fun k p g hp hg=>?_,fun k k' p p' g hp hp' _ hg=>?_⟩
 ·rw [h p (zmg hp)];exact RowB.nil e L
 ·rw [h p (zmg hp)] at hg;cases hg
 ·rw [h p (zmg hp)] at hg;cases hg
theorem RowsP.none_ {e:TypeId} {O:List Nat} {L:List (Nat × Obj)}:RowsP e O L []:=RowsP.nils e O L [] Js
theorem qvt {rest r1 r2:List ByteArray} (e1:qhd rest=r1) (e2:qhb r1=r2):qvs rest=(qm7 [] r2).bind fun r=>extN r.2.length r.1 r.2:=by rw [qvs,e1,e2]
theorem q4h (rb:Nat) (O:List Nat) (rest:List ByteArray) (A:oA) (c:Nat) (w0 w:World) (L:List (Nat × Obj)) (h:RS w0 w O rb rest A c (.slice none 0 0) (.slice none 0 0) L []) (hn:rest.length≤1000000) :
  Gv Tryz.prog 221 [pp rb] w fun v w'=>(qvs rest=none∧v=.bool false∧Ext w0 w')∨
   (∃ rest',qvs rest=some rest'∧v=.bool true∧∃ A' c' V E L',RS w0 w' O rb rest' A' c' V E L' []∧rest'.length≤rest.length∧∀ y∈L,y.1∈O→y.1≠rb→y∈L'):=by
 refine ze Tryz.func221 Tryz.ntmps221 ?_;refine zcv (qhe (fun x=>qar x 4 4 true) h (fun x w1 hx=>q0j x hx w1)) ?_;rintro v w1 ⟨rfl,h1⟩;(conv=>whnf);cases hq:seeB (fun x=>qar x 4 4 true) rest
 case' false=>
  refine zv ?_;obtain ⟨r1,A1,c1,L1,e1,g1,k1,l1⟩:∃ r1 A1 c1 L1,qhd rest=r1∧RS w0 w1 O rb r1 A1 c1 (.slice none 0 0) (.slice none 0 0) L1 []∧(∀ y∈L,y.1∈O→y.1≠rb→y∈L1)∧r1.length≤rest.length:=by
   refine ⟨rest,A,c,L,?_,h1,fun y hy _ _=>hy,Nat.le_refl _⟩;cases rest with
   | nil=>rfl
   | cons x xs=>rw [qhd,if_neg (by have:qar x 4 4 true=false:=hq;rw [this];simp)]
  clear hq h1
 case' true=>
  obtain ⟨x,xs,rfl⟩:∃ x xs,rest=x::xs:=by
   cases rest with
   | nil=>cases hq
   | cons x xs=>exact ⟨x,xs,rfl⟩
  have hq:qar x 4 4 true=true:=hq;refine zv ?_;refine zcv (qjc h1) ?_;rintro v w2 ⟨rfl,A2,c2,L2,h2,k2⟩;(conv=>whnf);obtain ⟨a0,a1,a2,a3,a6,hrd⟩:=id h2.rd;refine qea h2.mem hrd 2 rfl (show 2<7 by decide) rfl ?_;intro w1 L3 hr3;obtain ⟨r1,A1,c1,L1,e1,g1,k1,l1⟩:∃ r1 A1 c1 L1,qhd (x::xs)=r1∧RS w0 w1 O rb r1 A1 c1 (.slice none 0 0) (.slice none 0 0) L1 []∧(∀ y∈L,y.1∈O→y.1≠rb→y∈L1)∧r1.length≤(x::xs).length:=
   ⟨xs,A2,c2,L3,by rw [qhd,if_pos hq],h2.step hr3 ⟨_,_,_,_,_,rfl⟩ h2.sl h2.hc (fun y hy=>hy) h2.vs,fun y hy _ hne=>hr3.keep y (k2 y hy hne) hne,by simp⟩
  clear hq h1 h2 hr3 hrd k2;conv=>whnf
 all_goals
  refine zcv (qhe regB g1 (fun x w1 hx=>qvr x hx w1)) ?_;rintro v w1 ⟨rfl,g1⟩;(conv=>whnf);cases hq:seeB regB r1
  case' false=>
   refine zv ?_;obtain ⟨r2,A2,c2,L2,e2,g2,k2,l2⟩:∃ r2 A2 c2 L2,qhb r1=r2∧RS w0 w1 O rb r2 A2 c2 (.slice none 0 0) (.slice none 0 0) L2 []∧(∀ y∈L1,y.1∈O→y.1≠rb→y∈L2)∧r2.length≤r1.length:=by
    refine ⟨r1,A1,c1,L1,?_,g1,fun y hy _ _=>hy,Nat.le_refl _⟩;cases r1 with
    | nil=>rfl
    | cons x xs=>rw [qhb,if_neg (by have:regB x=false:=hq;rw [this];simp)]
   clear hq g1
  case' true=>
   obtain ⟨x,xs,rfl⟩:∃ x xs,r1=x::xs:=by
    cases r1 with
    | nil=>cases hq
    | cons x xs=>exact ⟨x,xs,rfl⟩
   have hq:regB x=true:=hq;refine zv ?_;refine zcv (qjc g1) ?_;rintro v w2 ⟨rfl,A3,c3,L3,h3,k3⟩;(conv=>whnf);obtain ⟨a0,a1,a2,a3,a6,hrd⟩:=id h3.rd;refine qea h3.mem hrd 3 rfl (show 3<7 by decide) rfl ?_;intro w1 L4 hr3;obtain ⟨r2,A2,c2,L2,e2,g2,k2,l2⟩:∃ r2 A2 c2 L2,qhb (x::xs)=r2∧RS w0 w1 O rb r2 A2 c2 (.slice none 0 0) (.slice none 0 0) L2 []∧(∀ y∈L1,y.1∈O→y.1≠rb→y∈L2)∧r2.length≤(x::xs).length:=
    ⟨xs,A3,c3,L4,by rw [qhb,if_pos hq],h3.step hr3 ⟨_,_,_,_,_,rfl⟩ h3.sl h3.hc (fun y hy=>hy) h3.vs,fun y hy _ hne=>hr3.keep y (k3 y hy hne) hne,by simp⟩
   clear hq g1 h3 hr3 hrd k3;conv=>whnf
 all_goals
  have eR:=qvt e1 e2;rw [eR];refine qm (fun x:List ByteArray × List ByteArray × oA × Nat=>[(0,pp rb),(3,.slice x.2.2.1 x.1.length x.2.2.2)])
   (fun x w3=>∃ A c V E L3 vs,RS w0 w3 O rb x.2.1 A c V E L3 [(x.1.map Value.string,.slice x.2.2.1 x.1.length x.2.2.2),(vs,V),([],E)]∧vs.length≤x.1.length∧(∀ y∈L2,y.1∈O→y.1≠rb→y∈L3)∧qm7 [] r2=qm7 x.1 x.2.1∧x.1.length+x.2.1.length≤r2.length)
   (fun x=>x.2.1.length) ([],r2,none,0) ⟨rfl,rfl,trivial⟩ ⟨A2,c2,_,_,L2,[],{ g2 with rows:=RowsP.nils _ _ _ _ Js },by simp,fun y hy _ _=>hy,rfl,by simp⟩ ?_
  rintro ⟨seen,r3,sA,sc⟩ w3 ρ' ⟨A3,c3,V3,E3,L3,vs,h3,hvs,k3,e3,l3⟩;simp only at h3 hvs e3 l3;dsimp only;(conv=>whnf);refine zcv (qhe varB h3 (fun x w1 hx=>qro x hx w1)) ?_;rintro v w4 ⟨rfl,h4⟩;(conv=>whnf);cases hq:seeB varB r3
  case' true=>
   obtain ⟨x,xs,rfl⟩:∃ x xs,r3=x::xs:=by
    cases r3 with
    | nil=>cases hq
    | cons x xs=>exact ⟨x,xs,rfl⟩
   have hq:varB x=true:=hq;have hx:=h4.small x mh;simp only [List.length_cons] at l3;rw [qm7,if_pos hq] at e3;refine zv ?_;refine zcv (qjc h4) ?_;rintro v w5 ⟨rfl,A5,c5,L5,h5,k5⟩;(conv=>whnf);refine zcv (qd3 x Oo w5) ?_;rintro v w6 ⟨rfl,he6⟩;have h6:=h5.call he6;(conv=>whnf);refine zcv (qfr seen sA sc (lowS x) w6 ((h6.rows.row 0 _ rfl).sl h6.mem) Oo) ?_;rintro v w7 ⟨⟨b,rfl,hb⟩,rfl⟩;(conv=>whnf);cases b
   ·rw [if_neg (by intro h;have:=hb.2 h;cases this)] at e3;refine zv ?_;refine zcv (qd3 x Oo w7) ?_;rintro v w8 ⟨rfl,he8⟩;have h8:=h6.call he8;(conv=>whnf);refine NewV.rs h8 fun nb w9 h9 hnb=>zw ?_;refine h9.rows.app 0 rfl Tryz.underlying159 strI strZ Jk rfl (by decide +kernel) h9.mem h9.all Js rfl (by rw [qa hnb];rfl) Oo ?_;intro sA2 sc2 w10 L10 m10 R10 k10;have h10:=h9.grow m10 R10 k10;(conv=>whnf);obtain ⟨VA,vc,rfl⟩:∃ VA vc,V3=.slice VA vs.length vc:=(h10.rows.row 1 _ rfl).slice;obtain ⟨a0,a1,a2,a3,a6,hrd⟩:=id h10.rd;refine qto h10.mem hrd 4 rfl rfl (zw ?_);refine NewV.rs h10 fun nb2 w11 h11 hnb2=>zw ?_;refine h11.rows.app 1 rfl Tryz.underlying159 strI strZ Jk rfl (by decide +kernel) h11.mem h11.all rfl rfl (by rw [qa hnb2];rfl) Oo ?_;intro VA2 vc2 w12 L12 m12 R12 k12;have h12:=h11.grow m12 R12 k12;obtain ⟨a0,a1,a2,a3,a6,hrd⟩:=id h12.rd;(conv=>whnf);refine qea h12.mem hrd 4 rfl (show 4<7 by decide) rfl ?_;intro w13 L13 hr13;have h13:=h12.step (V':=.slice VA2 (vs.length+1) vc2) (E':=E3) hr13 ⟨_,_,_,_,_,rfl⟩ h12.sl h12.hc (fun y hy=>hy) ⟨⟨_,_,_,rfl⟩,h12.vs.2⟩;(conv=>whnf);refine ⟨(seen++[lowS x],xs,sA2,sc2),⟨rfl,by simp only [zla];rfl,trivial⟩,⟨A5,c5,.slice VA2 (vs.length+1) vc2,E3,L13,vs++[.string x],?_,by simp;omega,fun y hy hO hne=>hr13.keep y (k12 y (k10 y (k5 y (k3 y hy hO hne) hne) hO) hO) hne,e3,by simp;omega⟩,by simp⟩;simp only [List.map_append,zla,List.map_cons,List.map_nil,List.length_singleton];exact h13
   ·rw [if_pos (hb.1 rfl)] at e3;refine zv ?_;exact .inl ⟨by rw [e3];rfl,rfl,h6.mem.ext⟩
 all_goals
  have eV:qm7 seen r3=some (seen,r3):=by
   cases r3 with
   | nil=>rfl
   | cons x xs=>rw [qm7,if_neg (by have:varB x=false:=hq;rw [this];simp)]
  have eB:(qm7 [] r2).bind (fun r=>extN r.2.length r.1 r.2)=extN r3.length seen r3:=by rw [e3,eV];rfl
  rw [eB];clear hq h3 eV eB;refine zv ?_;refine qm (fun x:Nat × List ByteArray × List ByteArray × oA × Nat=>[(0,pp rb),(3,.slice x.2.2.2.1 x.2.1.length x.2.2.2.2)])
   (fun x w5=>∃ A c V E L5 vs es,RS w0 w5 O rb x.2.2.1 A c V E L5 [(x.2.1.map Value.string,.slice x.2.2.2.1 x.2.1.length x.2.2.2.2),(vs,V),(es,E)]∧es.length≤x.2.1.length∧(∀ y∈L3,y.1∈O→y.1≠rb→y∈L5)∧extN r3.length seen r3=extN x.1 x.2.1 x.2.2.1∧x.2.2.1.length≤x.1∧x.2.1.length+x.2.2.1.length≤r2.length)
   (fun x=>x.2.2.1.length) (r3.length,seen,r3,sA,sc) ⟨rfl,rfl,trivial⟩ ⟨A3,c3,V3,E3,L3,vs,[],h4,by simp,fun y hy _ _=>hy,rfl,Nat.le_refl _,l3⟩ ?_
  rintro ⟨k,sn,r5,sB,sd⟩ w5 ρ'' ⟨A5,c5,V5,E5,L5,vs5,es,h5,hes,k5,e5,lk,l5⟩;simp only at h5 hes e5 lk l5;dsimp only;(conv=>whnf);refine zcv (qhe extS h5 (fun x w1 hx=>q0k x hx w1)) ?_;rintro v w6 ⟨rfl,h6⟩;(conv=>whnf);cases hq:seeB extS r5
  ·have eX:extN k sn r5=some r5:=by
    cases r5 with
    | nil=>cases k<;>rfl
    | cons x xs=>
     cases k with
     | zero=>simp at lk
     | succ k=>rw [extN,if_neg (by have:extS x=false:=hq;rw [this];simp)]
   refine zv ?_;refine .inr ⟨r5,by rw [e5,eX],rfl,A5,c5,V5,E5,L5,{ h6 with rows:=RowsP.none_ },by omega,fun y hy hO hne=>k5 y (k3 y (k2 y (k1 y hy hO hne) hO hne) hO hne) hO hne⟩
  ·obtain ⟨x,xs,rfl⟩:∃ x xs,r5=x::xs:=by
    cases r5 with
    | nil=>cases hq
    | cons x xs=>exact ⟨x,xs,rfl⟩
   have hq:extS x=true:=hq;have hx1:x.size=1:=by simp [extS,qar] at hq;omega
   obtain ⟨k,rfl⟩:∃ k',k=k'+1:=⟨k-1,by simp at lk;omega⟩
   have hx:=h6.small x mh;simp only [List.length_cons] at l5 lk;rw [extN,if_pos hq] at e5;refine zv ?_;refine zcv (qjc h6) ?_;rintro v w7 ⟨rfl,A7,c7,L7,h7,k7⟩;(conv=>whnf);obtain ⟨a0,a1,a2,a3,a6,hrd⟩:=id h7.rd;refine zcv (qtp (least:=2) h7.mem hrd h7.sl h7.hc h7.small Oo) ?_;rintro v w8 ⟨pre,rest',sT,hP,hse,rfl,A8,c8,L8,hS8,hc8,hr8⟩;obtain ⟨t1,t2⟩:=hP.take hse;have t1:xs.takeWhile extQ=pre:=t1;have t2:xs.dropWhile extQ=rest':=t2;have hlen:xs.length=pre.length+rest'.length:=by rw [hP.eq];simp
   have h8:=h7.step hr8 ⟨_,_,_,_,_,rfl⟩ hS8 hc8 (fun y hy=>by rw [hP.eq];exact List.mem_append_right _ hy) h7.vs;rw [t1,t2] at e5;have hsT:=hP.size;conv=>whnf
   by_cases hp:pre=[]
   ·rw [if_pos (.inl hp)] at e5;rw [decide_eq_false (by simp [hp])];refine zv ?_;exact .inl ⟨e5,rfl,h8.mem.ext⟩
   ·rw [decide_eq_true (by simpa using hp)];refine zv ?_;refine zcv (qd3 x Oo w8) ?_;rintro v w9 ⟨rfl,he9⟩;have h9:=h8.call he9;refine zu ?_;refine zcv (qfr sn sB sd (lowS x) w9 ((h9.rows.row 0 _ rfl).sl h9.mem) Oo) ?_;rintro v w10 ⟨⟨b,rfl,hb⟩,rfl⟩;cases b
    ·rw [if_neg (by rintro (h|h);exact hp h;have:=hb.2 h;cases this)] at e5;refine zu ?_;refine zcv (qd3 x Oo w10) ?_;rintro v w11 ⟨rfl,he11⟩;have h11:=h9.call he11;(conv=>whnf);refine NewV.rs h11 fun nb w12 h12 hnb=>zw ?_;refine h12.rows.app 0 rfl Tryz.underlying159 strI strZ Jk rfl (by decide +kernel) h12.mem h12.all Js rfl (by rw [qa hnb];rfl) Oo ?_;intro sA2 sc2 w13 L13 m13 R13 k13;have h13:=h12.grow m13 R13 k13;(conv=>whnf);obtain ⟨EA,ec,rfl⟩:∃ EA ec,E5=.slice EA es.length ec:=(h13.rows.row 2 _ rfl).slice;obtain ⟨a0,a1,a2,a3,a6,hrd⟩:=id h13.rd;refine qto h13.mem hrd 5 rfl rfl (zw ?_);refine ⟨by show x.size+sT.size≤_;omega,?_⟩;(conv=>whnf);refine NewV.rs h13 fun nb2 w14 h14 hnb2=>zw ?_;refine h14.rows.app 2 rfl Tryz.underlying159 strI strZ Jk rfl (by decide +kernel) h14.mem h14.all rfl rfl (by rw [qa hnb2];rfl) Oo ?_;intro EA2 ec2 w15 L15 m15 R15 k15;have h15:=h14.grow m15 R15 k15;obtain ⟨a0,a1,a2,a3,a6,hrd⟩:=id h15.rd;(conv=>whnf);refine qea h15.mem hrd 5 rfl (show 5<7 by decide) rfl ?_;intro w16 L16 hr16;have h16:=h15.step (V':=V5) (E':=.slice EA2 (es.length+1) ec2) hr16 ⟨_,_,_,_,_,rfl⟩ h15.sl h15.hc (fun y hy=>hy) ⟨h15.vs.1,⟨_,_,_,rfl⟩⟩;(conv=>whnf);refine ⟨(k,sn++[lowS x],rest',sA2,sc2),⟨rfl,by simp only [zla];rfl,trivial⟩,⟨A8,c8,V5,.slice EA2 (es.length+1) ec2,L16,vs5,es++[.string (x++sT)],?_,by simp;omega,fun y hy hO hne=>hr16.keep y (k15 y (k13 y (hr8.keep y (k7 y (k5 y hy hO hne) hne) hne) hO) hO) hne,e5,by simp only;omega,by simp;omega⟩,by simp only [List.length_cons];omega⟩;simp only [List.map_append,zla,List.map_cons,List.map_nil,List.length_singleton];exact h16
    ·rw [if_pos (.inr (hb.1 rfl))] at e5;refine zu ?_;exact .inl ⟨e5,rfl,h9.mem.ext⟩
open Go.RowKit
def qd9:LB→List LB
 | []=>[[]]
 | c::t=>if c=45 then []::qd9 t else match qd9 t with
  | []=>[[c]]
  | p::ps=>(c::p)::ps
theorem qju:∀ l:LB,Go.Lib.splitK [45] 0 (Go.Lib.count l [45]) l=qd9 l
 | []=>by
  rfl
 | c::t=>by
  have ih:=qju t
  by_cases h:c=45
  ·subst h;rw [Go.Lib.count_cons_eq,Nat.add_comm 1,qd9,if_pos rfl,← ih,Go.Lib.splitK];rfl
  ·rw [Go.Lib.count_cons_ne c 45 t h,qd9,if_neg h,← ih];have hi:Go.Lib.index (c::t) [45]=if Go.Lib.index t [45]==-1 then -1 else Go.Lib.index t [45]+1:=by
    grind [Go.Lib.index]
   cases Go.Lib.count t [45] with
   | zero=>rfl
   | succ k=>
    rw [Go.Lib.splitK,Go.Lib.splitK,hi]
    by_cases hx:Go.Lib.index t [45]=-1
    ·simp [hx]
    ·have hge:=Go.Lib.index_ge t [45];have e1:(Go.Lib.index t [45]==-1)=false:=by simpa using hx
     have e2:((Go.Lib.index t [45]+1)==-1)=false:=by
      grind
     have e3:(Go.Lib.index t [45]+1).toNat=(Go.Lib.index t [45]).toNat+1:=by omega
     simp_all
theorem qky:∀ l:LB,(qd9 l).length≤l.length+1∧∀ x∈qd9 l,x.length≤l.length
 | []=>by simp [qd9]
 | c::t=>by
  obtain ⟨h1,h2⟩:=qky t;unfold qd9
  split
  ·refine ⟨by simp;omega,fun x hx=>?_⟩
   rcases List.mem_cons.1 hx with rfl|hx
   ·simp
   ·have:=h2 x hx;simp;omega
  ·cases hp:qd9 t with
   | nil=>simp
   | cons p ps=>
    rw [hp] at h1 h2;refine ⟨by simpa using Nat.le_trans h1 (Nat.le_succ _),fun x hx=>?_⟩
    rcases List.mem_cons.1 hx with rfl|hx
    ·have:=h2 p mh;simp;omega
    ·have:=h2 x (zmc hx);simp;omega
def dash:ByteArray:=⟨#[45]⟩
def qcq (s:ByteArray):List ByteArray:=Go.Lib.splitB dash 0 (Go.Lib.countB s dash) s
theorem qve (s:ByteArray):(qcq s).length=Go.Lib.countB s dash+1:=Go.Lib.splitB_all dash Od 0 _ s rfl
noncomputable def tagR (l:List ByteArray):Option (List ByteArray):=if seeB qmm l=true then some l else (qh2 l).bind qvs
def q0a (x:ByteArray):Bool:=qar x 1 8 false
def qxu (l:List ByteArray):Prop:=if seeB qmm l=true then (l.tail≠[]∧l.tail.all q0a=true) else l=[]
def tagP (l:List ByteArray):Prop:=∃ l1,tagR l=some l1∧qxu l1
open Classical in
noncomputable def tagE (l:List ByteArray):Nat:=if tagP l then 0 else 61
theorem qrd {l:List ByteArray} (h:tagP l):tagE l=0:=by unfold tagE;rw [if_pos h]
theorem qhm {l:List ByteArray} (h:¬ tagP l):tagE l=61:=by unfold tagE;rw [if_neg h]
def MaxLenAt (w:World):Prop:=∃ m:Int,w.cell? ⟨1,0,none⟩=some (ii m)
theorem MaxLenAt.ext {w w':World} (h:MaxLenAt w) (he:Ext w w'):MaxLenAt w':=⟨h.choose,he.cell h.choose_spec⟩
theorem q4p {w w':World} {l:List ByteArray} {t:TypeId} (hw:w'=w.alloc (.cells (l.map Value.string).toArray t)):SlAt V.zeS 1 w' (some ⟨w.heap.size,0,none⟩) l:=by
 subst hw;refine ⟨fun _=>⟨w.heap.size,0,rfl,fun j x hx k v hv=>?_⟩⟩;cases k with
 | succ k=>simp [V.zeS] at hv
 | zero=>
  simp only [V.zeS,List.getElem?_cons_zero,Option.some.injEq] at hv;subst hv;rw [qa (heap_alloc_new w _)];simp [hx]
theorem q03 (s:ByteArray) (hs:s.size≤1000000) (w:World) (hM:MaxLenAt w) :
  Gv Tryz.prog 217 [.string s,.string dash] w fun v w'=>∃ b,v=.slice (some ⟨b,0,none⟩) (qcq s).length (qcq s).length∧SlAt V.zeS 1 w' (some ⟨b,0,none⟩) (qcq s)∧Ext w w':=by
 obtain ⟨m,hm⟩:=hM;refine qez Jk ((Tryz.strings_Split s dash m w Oo hm Od).mono ?_);rintro e w' ⟨rfl,hw⟩;exact ⟨_,rfl,w.heap.size,by rw [qve],q4p hw,by rw [hw];exact (Ext.refl w).alloc _⟩
theorem qkd:∀ v∈[Value.string ⟨#[]⟩,.string ⟨#[]⟩,.string ⟨#[]⟩,.string ⟨#[]⟩,.slice none 0 0,.slice none 0 0,.string ⟨#[]⟩],v.oneCell'=true:=by
 intro v hv;simp at hv
 rcases hv with rfl|rfl|rfl<;>rfl
theorem qnr:∀ (k:Nat) (l:List ByteArray),(qiz k l).length≤l.length∧∀ x∈qiz k l,x∈l
 | 0,l=>⟨Nat.le_refl _,fun x hx=>hx⟩
 | k+1,[]=>⟨Nat.le_refl _,fun x hx=>hx⟩
 | k+1,y::ys=>by
  by_cases hm:qar y 3 3 true=true
  ·rw [qiz,if_pos hm];obtain ⟨h1,h2⟩:=qnr k ys;exact ⟨by simp;omega,fun x hx=>zmc (h2 x hx)⟩
  ·rw [qiz,if_neg hm];exact ⟨Nat.le_refl _,fun x hx=>hx⟩
theorem qkr {l r:List ByteArray} (h:qh2 l=some r):r.length≤l.length∧∀ x∈r,x∈l:=by
 cases l with
 | nil=>cases h
 | cons y ys=>
  by_cases hm:qar y 2 8 true=true
  ·rw [qh2,if_pos hm] at h;have h:=Option.some.inj h;subst h
   split
   ·exact ⟨by simp,fun x hx=>zmc hx⟩
   ·obtain ⟨h1,h2⟩:=qnr 3 ys;exact ⟨by simp;omega,fun x hx=>zmc (h2 x hx)⟩
  ·rw [qh2,if_neg hm] at h;cases h
theorem qyz {l r:List ByteArray} (h:qh2 l=some r):∀ x∈r,x∈l:=(qkr h).2
theorem qn4 {l r:List ByteArray} (h:qh2 l=some r):r.length≤l.length:=(qkr h).1
theorem qtn {w0 w:World} {L:List (Nat × Obj)} {rb n c off size:Nat} {A:oA} {t:List Value} {K:List Value→Prop} (hm:Mem w0 w L) (hi:(rb,rdC A n c t)∈L) (ho:off=1) (hs:t.length=size) (hk:K t):LoadA w rb off size K:=by
 subst ho;refine ⟨t,hs,fun i hi'=>?_,hk⟩;have:=hm.get hi;rw [rdC] at this;rw [qa this,List.getElem?_toArray,Nat.add_comm 1 i,List.getElem?_cons_succ]
theorem tag7 {V E:Value} (h:(∃ A n c,V=.slice A n c)∧∃ A n c,E=.slice A n c) (a0 a1 a2 a3 a6:ByteArray):∀ v∈tagC a0 a1 a2 a3 V E a6,v.oneCell'=true:=by
 obtain ⟨⟨_,_,_,rfl⟩,⟨_,_,_,rfl⟩⟩:=h;intro v hv;simp [tagC] at hv
 rcases hv with rfl|rfl|rfl|rfl|rfl|rfl|rfl<;>rfl
theorem qqn (s:ByteArray):(qcq s).map (·.data.toList)=qd9 s.data.toList:=by
 rw [qcq,Go.Lib.splitB_data,← qju];rfl
theorem qvf (s:ByteArray):(∀ x∈qcq s,x.size≤s.size)∧(qcq s).length≤s.size+1:=by
 obtain ⟨h1,h2⟩:=qky s.data.toList;rw [← qqn] at h1 h2;refine ⟨fun x hx=>?_,by simpa using h1⟩;have:=h2 _ (List.mem_map.2 ⟨x,hx,rfl⟩)
 simpa using this
def TagV (l:List ByteArray) (v:Value):Prop:=∃ c0 c1 c2 c3 c4 c5 c6,(∀ u∈[c0,c1,c2,c3,c4,c5,c6],u.oneCell'=true)∧v=.tuple #[.agg #[c0,c1,c2,c3,c4,c5,c6],ii (tagE l)]
theorem qaaa (s:ByteArray) (hs:s.size≤65536) (w:World) (hM:MaxLenAt w) :
  Gv Tryz.prog 141 [.string s] w fun v w'=>TagV (qcq s) v∧Ext w w':=by
 obtain ⟨p1,p2⟩:=qvf s;obtain ⟨l,hl⟩:∃ l,l=qcq s:=⟨_,rfl⟩
 rw [← hl] at p1 p2;refine ze Tryz.func141 Tryz.ntmps141 ?_;refine znm (Mem.nil w) fun rt w1 hm1=>zw ?_;refine zcv (q03 s Oo w1 (hM.ext hm1.ext)) ?_;rintro v w2 ⟨pb,rfl,hS,he2⟩;rw [← hl] at hS ⊢;have hm2:=hm1.call he2;(conv=>whnf);refine znm (Mem.nil w2) ?_;intro rb w3 hm3;have h0:RS w2 w3 [rb] rb l (some ⟨pb,0,none⟩) l.length (.slice none 0 0) (.slice none 0 0) [(rb,rdC (some ⟨pb,0,none⟩) l.length l.length (tagC ⟨#[]⟩ ⟨#[]⟩ ⟨#[]⟩ ⟨#[]⟩ (.slice none 0 0) (.slice none 0 0) ⟨#[]⟩))] []:=
  ⟨hm3,⟨_,_,_,_,_,List.mem_cons_self ..⟩,RowsP.none_,hS,Nat.le_refl _,List.mem_cons_self ..,fun g hg=>by obtain rfl:=List.mem_singleton.1 hg;exact ⟨_,List.mem_cons_self ..⟩,fun x hx=>by have:=p1 x hx;omega,⟨⟨_,_,_,rfl⟩,⟨_,_,_,rfl⟩⟩⟩
 (conv=>whnf);refine zcv (qhe qmm h0 (fun x w1 _=>by
  refine (qfe x w1).mono ?_;rintro v w' ⟨rfl,rfl⟩;exact ⟨rfl,xr⟩)) ?_
 rintro v w6 ⟨rfl,h4⟩;(conv=>whnf);cases hq:seeB qmm l
 case' true=>
  refine zv ?_;obtain ⟨l1,A1,c1,V1,E1,L1,e1,g1,d1⟩:∃ l1 A1 c1 V1 E1 L1,tagR l=some l1∧RS w2 w6 [rb] rb l1 A1 c1 V1 E1 L1 []∧l1.length≤1000000:=⟨l,_,_,_,_,_,by rw [tagR,if_pos hq],h4,by omega⟩
  clear hq h4 h0
 case' false=>
  have eT:tagR l=(qh2 l).bind qvs:=by rw [tagR,if_neg (by rw [hq];simp)]
  refine zv ?_;refine zcv (qn5 rb 0 l _ _ ⟨#[]⟩ ⟨#[]⟩ ⟨#[]⟩ ⟨#[]⟩ _ _ w2 w6 _ h4.mem rfl hS znr h4.small) ?_;rintro v w5 (⟨e2,rfl,hx5⟩|⟨l2,e2,rfl,A2,c2,b0,b1,hS2,hc2,hm5⟩)
  ·rw [e2] at eT;refine zu ?_;refine StoreA.mem (hm2.call hx5) (i:=0) rfl (Nat.le_refl 7) qkd fun w9 hm9=>zw ?_;refine qj (R:=fun v w'=>TagV l v∧Ext w w') (zw ?_);refine zl hm9 0 ?_;exact ⟨⟨_,_,_,_,_,_,_,qkd,by rw [qhm (fun h=>by obtain ⟨l1,h1,_⟩:=h;rw [eT] at h1;cases h1)];rfl⟩,hm9.ext⟩
  rw [e2] at eT;have h5:RS w2 w5 [rb] rb l2 A2 c2 (.slice none 0 0) (.slice none 0 0) [(rb,rdC A2 l2.length c2 (tagC b0 b1 ⟨#[]⟩ ⟨#[]⟩ (.slice none 0 0) (.slice none 0 0) ⟨#[]⟩))] []:=
   ⟨hm5,⟨_,_,_,_,_,List.mem_cons_self ..⟩,RowsP.none_,hS2,hc2,List.mem_cons_self ..,fun g hg=>by obtain rfl:=List.mem_singleton.1 hg;exact ⟨_,List.mem_cons_self ..⟩,fun x hx=>by have:=p1 x (qyz e2 x hx);omega,⟨⟨_,_,_,rfl⟩,⟨_,_,_,rfl⟩⟩⟩
  refine zu ?_;refine zcv (q4h rb [rb] l2 A2 c2 w2 w5 _ h5 (by have:=qn4 e2;omega)) ?_;rintro v w6 (⟨e3,rfl,hx6⟩|⟨l3,e3,rfl,A3,c3,V3,E3,L3,h6,hl3,_⟩)
  ·have eT:tagR l=none:=by rw [eT];exact e3
   refine zu ?_;refine StoreA.mem (hm2.call hx6) (i:=0) rfl (Nat.le_refl 7) qkd fun w9 hm9=>zw ?_;refine qj (R:=fun v w'=>TagV l v∧Ext w w') (zw ?_);refine zl hm9 0 ?_;exact ⟨⟨_,_,_,_,_,_,_,qkd,by rw [qhm (fun h=>by obtain ⟨l1,h1,_⟩:=h;rw [eT] at h1;cases h1)];rfl⟩,hm9.ext⟩
  obtain ⟨l1,A1,c1,V1,E1,L1,e1,g1,d1⟩:∃ l1 A1 c1 V1 E1 L1,tagR l=some l1∧RS w2 w6 [rb] rb l1 A1 c1 V1 E1 L1 []∧l1.length≤1000000:=⟨l3,_,_,_,_,_,by rw [eT];exact e3,h6,by have:=qn4 e2;omega⟩
  clear hq h4 h0 eT e2 h5 e3 h6;refine zu ?_
 all_goals
  refine zcv (qhe qmm g1 (fun x w1 _=>by
   refine (qfe x w1).mono ?_;rintro v w' ⟨rfl,rfl⟩;exact ⟨rfl,xr⟩)) ?_
  rintro v w7 ⟨rfl,g2⟩;cases hq2:seeB qmm l1
  ·have hend:qxu l1↔l1=[]:=by rw [qxu,if_neg (by rw [hq2];simp)]
   refine zu ?_;obtain ⟨a0,a1,a2,a3,a6,hrd⟩:=id g2.rd;refine LoadV.of (v:=.slice A1 l1.length c1) (by have:=g2.mem.get hrd;rw [rdC] at this;rw [qa this];rfl) (zw ?_)
   (repeat' refine zC (fun _=>zw ?_) (fun _=>zw ?_))
   ·skip
    refine StoreA.mem (hm2.call g2.mem.ext) (i:=0) rfl (Nat.le_refl 7) qkd fun w9 hm9=>zw ?_;refine qj (R:=fun v w'=>TagV l v∧Ext w w') (zw ?_);refine zl hm9 0 ?_;exact ⟨⟨_,_,_,_,_,_,_,qkd,by rw [qhm (fun h=>by obtain ⟨l2,h1,h2⟩:=h;rw [e1] at h1;cases h1;have e:=hend.1 h2;have:l1.length=0:=(by rw [e];rfl);omega)];rfl⟩,hm9.ext⟩
   ·skip
    obtain ⟨⟨VA,vn,vc,rfl⟩,⟨EA,en,ec,rfl⟩⟩:=id g2.vs;obtain ⟨z0,z1,z2,z3,z6,hrd⟩:=id g2.rd;refine qtn g2.mem hrd rfl rfl (zw ?_);refine StoreA.mem (hm2.call g2.mem.ext) (i:=0) rfl (Nat.le_refl 7) (tag7 g2.vs _ _ _ _ _) fun w9 hm9=>zw ?_;refine qj (R:=fun v w'=>TagV l v∧Ext w w') (zw ?_);refine zl hm9 0 ?_;exact ⟨⟨_,_,_,_,_,_,_,tag7 ⟨⟨_,_,_,rfl⟩,⟨_,_,_,rfl⟩⟩ _ _ _ _ _,by rw [qrd ⟨l1,e1,hend.2 (List.length_eq_zero_iff.1 Oo)⟩];rfl⟩,hm9.ext⟩
  ·obtain ⟨x,xs,rfl⟩:∃ x xs,l1=x::xs:=by
    cases l1 with
    | nil=>cases hq2
    | cons x xs=>exact ⟨x,xs,rfl⟩
   have hend:qxu (x::xs)↔xs≠[]∧xs.all q0a=true:=by rw [qxu,if_pos hq2];rfl
   refine zu ?_;refine zcv (qjc g2) ?_;rintro v w8 ⟨rfl,A8,c8,L8,g8,_⟩;(conv=>whnf);obtain ⟨a0,a1,a2,a3,a6,hrd⟩:=id g8.rd;refine zcv (qtp (least:=1) g8.mem hrd g8.sl g8.hc g8.small (by simp at d1;omega)) ?_;rintro v w9 ⟨pre,rest',sT,hP,hse,rfl,A9,c9,L9,hS9,hc9,hr9⟩;have g9:=g8.step hr9 ⟨_,_,_,_,_,rfl⟩ hS9 hc9 (fun y hy=>by rw [hP.eq];exact List.mem_append_right _ hy) g8.vs;(conv=>whnf);have hall:xs≠[]∧xs.all q0a=true↔pre≠[]∧rest'=[]:=by
    have hPa:pre.all q0a=true:=hP.all;rw [hP.eq,List.all_append,hPa,Bool.true_and]
    constructor
    ·rintro ⟨n1,n2⟩;have hr:rest'=[]:=by
      cases rest' with
      | nil=>rfl
      | cons y ys=>
       have:q0a y=false:=hse;simp [this] at n2
     exact ⟨fun e=>n1 (by rw [e,hr];rfl),hr⟩
    ·rintro ⟨n1,rfl⟩;exact ⟨by simpa using n1,rfl⟩
   rw [hall] at hend;have hxx:=g2.small x mh;have hsT:=hP.size;have hpl:pre.length≤1000000:=by have:=congrArg List.length hP.eq;simp at this d1;omega
   by_cases hp:pre=[]
   ·rw [decide_eq_false (by simp [hp])];refine zu ?_;refine StoreA.mem (hm2.call g9.mem.ext) (i:=0) rfl (Nat.le_refl 7) qkd fun w9 hm9=>zw ?_;refine qj (R:=fun v w'=>TagV l v∧Ext w w') (zw ?_);refine zl hm9 0 ?_;exact ⟨⟨_,_,_,_,_,_,_,qkd,by rw [qhm (fun h=>by obtain ⟨l2,h1,h2⟩:=h;rw [e1] at h1;cases h1;exact (hend.1 h2).1 hp)];rfl⟩,hm9.ext⟩
   ·rw [decide_eq_true (by simpa using hp)];refine zu ?_;refine ⟨by omega,?_⟩;(conv=>whnf);obtain ⟨a0,a1,a2,a3,a6,hrd⟩:=id g9.rd;refine qea g9.mem hrd 6 rfl (show 6<7 by decide) rfl ?_;intro w10 L10 hr10;have g10:=g9.step hr10 ⟨_,_,_,_,_,rfl⟩ hS9 hc9 (fun y hy=>hy) g9.vs;obtain ⟨a0,a1,a2,a3,a6,hrd⟩:=id g10.rd;(conv=>whnf);refine LoadV.of (v:=.slice A9 rest'.length c9) (by have:=g10.mem.get hrd;rw [rdC] at this;rw [qa this];rfl) (zw ?_)
    (repeat' refine zC (fun _=>zw ?_) (fun _=>zw ?_))
    ·skip
     refine StoreA.mem (hm2.call g10.mem.ext) (i:=0) rfl (Nat.le_refl 7) qkd fun w9 hm9=>zw ?_;refine qj (R:=fun v w'=>TagV l v∧Ext w w') (zw ?_);refine zl hm9 0 ?_;exact ⟨⟨_,_,_,_,_,_,_,qkd,by rw [qhm (fun h=>by obtain ⟨l2,h1,h2⟩:=h;rw [e1] at h1;cases h1;have e:=(hend.1 h2).2;have:rest'.length=0:=(by rw [e];rfl);omega)];rfl⟩,hm9.ext⟩
    ·skip
     obtain ⟨⟨VA,vn,vc,rfl⟩,⟨EA,en,ec,rfl⟩⟩:=id g10.vs;obtain ⟨z0,z1,z2,z3,z6,hrd⟩:=id g10.rd;refine qtn g10.mem hrd rfl rfl (zw ?_);refine StoreA.mem (hm2.call g10.mem.ext) (i:=0) rfl (Nat.le_refl 7) (tag7 g10.vs _ _ _ _ _) fun w9 hm9=>zw ?_;refine qj (R:=fun v w'=>TagV l v∧Ext w w') (zw ?_);refine zl hm9 0 ?_;exact ⟨⟨_,_,_,_,_,_,_,tag7 ⟨⟨_,_,_,rfl⟩,⟨_,_,_,rfl⟩⟩ _ _ _ _ _,by rw [qrd ⟨_,e1,hend.2 ⟨hp,List.length_eq_zero_iff.1 Oo⟩⟩];rfl⟩,hm9.ext⟩
namespace V
theorem AppV.one {P:Program} {w0 w:World} {A:oA} {c n nb:Nat} {xs:List Value} {L:List (Nat × Obj)} {t ty e:TypeId} {i:TypeInfo} {z x:Value} {K:Value→World→Prop}
  (ht:P.underlying t=some (.slice e)) (hi:P.info? e=some i) (hz:i.zero=some z) (hsize:i.size=1) (hzs:z.cells.size=1) (hby:i.bytes≤16)
  (h:Rw w0 w (.slice A n c) e 1 n xs ((nb,.cells #[x] e)::L)) (hx:x.oneCell'=true) (hn:n+1≤8000000000000)
  (hk:∀ A' c' w',Rw w0 w' (.slice A' (n+1) c') e 1 (n+1) (xs++[x]) L→K (.slice A' (n+1) c') w'):AppV P #[t,t] ty (.slice A n c) (.slice (some ⟨nb,0,none⟩) 1 1) w K:=by
 refine AppV.rw (news:=[x]) ht hi hz hsize hzs Od h rfl (fun _=>⟨nb,0,rfl,fun k v hv=>?_⟩) (fun u hu=>by simp at hu;rw [hu];exact hx) ?_ Oo (fun A' c' w' h'=>hk A' c' w' h'.tail)
 ·rw [qa (h.mem.get mh),Nat.zero_add]
  simpa using hv
 ·have:(n+1)*i.bytes≤8000000000000*16:=Nat.mul_le_mul hn hby;omega
end V
namespace V
section
variable {P:Program} {n:Nat} {ρ:Nat→Value} {w:World}
end
end V
theorem qadt:Tryz.prog.underlying 159=some (.slice 9):=Tryz.underlying159
theorem qbk {vals:Nat→Value} {k:Nat} {v:Value} (h:vals k=v):vals=upd vals k v:=by
 funext j
 by_cases e:j=k
 ·subst e;rw [qca,h]
 ·rw [qaw _ _ _ _ e]
section
variable {w0 w w':World} {O:List Nat} {rb tb:Nat} {rest:List ByteArray} {a0:ByteArray} {vs es:List ByteArray} {R2:List (List Value × Value)}
end
theorem V.later {A B:Prop} (h:A→B) (p:A):B:=h p
structure TM where
 kind:Int
 text:ByteArray
 type:ByteArray
 lang:ByteArray
def encT (t:TM):List Value:=[ii t.kind,.string t.text,.string t.type,.string t.lang]
def qt (t:TM):Value:=.agg #[ii t.kind,.string t.text,.string t.type,.string t.lang]
structure TermOk (t:TM):Prop where
 kind:InR .i64 t.kind
 text:t.text.size≤140737488355328
 type:t.type.size≤140737488355328
 lang:t.lang.size≤140737488355328
def qhz:ByteArray:=⟨#[104,116,116,112,58,47,47,119,119,119,46,119,51,46,111,114,103,47,49,57,57,57,47,48,50,47,50,50,45,114,100,102,45,115,121,110,116,97,120,45,110,115,35,108,97,110,103,83,116,114,105,110,103]⟩
open Classical in
noncomputable def litE (t:TM):Nat:=
 if 65536<t.text.size then 2 else if scal t.text.data.toList=none then 40 else if iriE t.type≠0 then iriE t.type
 else if seq t.lang ⟨#[]⟩=false∧65536<t.lang.size then 2
 else if seq t.lang ⟨#[]⟩=false∧(tagE (qcq t.lang)≠0∨seq (lowS t.lang) t.lang=false) then 61
 else if (!seq t.lang ⟨#[]⟩)≠seq t.type qhz then 71 else 0
noncomputable def qa5 (t:TM):Nat:=
 if t.kind=1∨t.kind=2 then (if seq t.type ⟨#[]⟩=false∨seq t.lang ⟨#[]⟩=false then 70 else if t.kind=1 then iriE t.text else if 65536<t.text.size then 2 else labE t.text)
 else if t.kind=3 then litE t else 70
theorem qv9 (l:List ByteArray):tagE l=0∨tagE l=61:=by
 grind [qrd,qhm]
theorem q6h (a:Int) (b:Nat) (w:World) (hb:w.heap[b]?=some (.cells #[ii a,ii 61] 83)) :
  Gv Tryz.prog 143 [.slice (some ⟨b,0,none⟩) 2 2] w fun v w'=>v=ii (if a=0 then 61 else a)∧w'=w:=by
 refine ze Tryz.func143 Tryz.ntmps143 ?_;refine qm (fun i:Nat=>[(3,ii 0),(6,.slice (some ⟨b,0,none⟩) 2 2),(7,ii 2),(8,ii i)]) (fun i w1=>i≤1∧(i=1→a=0)∧w1=w) (fun i=>2-i) 0 ⟨rfl,rfl,rfl,rfl,trivial⟩ Js ?_;rintro i w1 ρ' ⟨h1,h2,rfl⟩;obtain rfl|rfl:i=0∨i=1:=by omega
 ·refine zu ?_;refine ElemV.own1 0 rfl Oo (zw ?_);refine LoadV.of (by rw [qa hb];rfl) (zw ?_);refine zC (fun _=>zu ?_) (fun _=>zu ?_)
  ·simp_all
  ·exact ⟨1,⟨rfl,rfl,rfl,rfl,trivial⟩,(by grind),by omega⟩
 ·refine zu ?_;refine ElemV.own1 1 rfl Oo (zw ?_);refine LoadV.of (by rw [qa hb];rfl) (zu ?_)
  simp_all
theorem qqd (t:TM) (ht:TermOk t) (w:World) (hM:MaxLenAt w):Gv Tryz.prog 70 [qt t] w fun v w'=>v=ii (litE t)∧Ext w w':=by
 obtain ⟨h1,h2,h3,h4⟩:=ht;refine ze Tryz.func70 Tryz.ntmps70 ?_;refine znm (Mem.nil w) fun b w1 hm=>zw ?_
 (repeat' (first|refine zC (fun _=>zw ?_) (fun _=>zw ?_)|refine LoadV.mem (i:=0) Oa rfl rfl (zw ?_)))
 ·exact ⟨by grind [litE],hm.ext⟩
 ·refine zcv (qnj t.text Oo w1) ?_;rintro v w2 ⟨⟨i,rfl,hi,hi1,hi2⟩,rfl⟩;have n1:¬ 65536<t.text.size:=by omega
  (conv=>whnf)
  (repeat' (first|refine zC (fun _=>zw ?_) (fun _=>zw ?_)|refine LoadV.mem (i:=0) Oa rfl rfl (zw ?_)))
  ·have hs:scal t.text.data.toList=none:=(by grind)
   exact ⟨by grind [litE],hm.ext⟩
  ·have n2:¬ scal t.text.data.toList=none:=(by grind)
   refine zcv (qhn t.type Oo w2) ?_;rintro v w3 ⟨rfl,he3⟩;have hm:=hm.call he3;have eL:litE t=if iriE t.type≠0 then iriE t.type else if seq t.lang ⟨#[]⟩=false∧65536<t.lang.size then 2
     else if seq t.lang ⟨#[]⟩=false∧(tagE (qcq t.lang)≠0∨seq (lowS t.lang) t.lang=false) then 61 else if (!seq t.lang ⟨#[]⟩)≠seq t.type qhz then 71 else 0:=by grind [litE]
   rw [eL];conv=>whnf
   (repeat' (first|refine zp ?_|refine zC (fun _=>zw ?_) (fun _=>zw ?_)|refine LoadV.mem (i:=0) Oa rfl rfl (zw ?_)))
   ·exact ⟨by simp_all,hm.ext⟩
   ·rw [if_neg Oo];cases hl:seq t.lang ⟨#[]⟩
    ·(conv=>whnf)
     (repeat' (first|refine zp ?_|refine zC (fun _=>zw ?_) (fun _=>zw ?_)|refine LoadV.mem (i:=0) Oa rfl rfl (zw ?_)))
     ·exact ⟨by grind,hm.ext⟩
     ·rw [if_neg (show ¬ (false=false∧65536<t.lang.size) by omega)];refine zcv (qaaa t.lang Oo w3 (hM.ext hm.ext)) ?_;rintro v w4 ⟨⟨c0,c1,c2,c3,c4,c5,c6,hc,rfl⟩,he4⟩;have hm4:=hm.call he4;obtain ⟨E,hE⟩:∃ E,E=tagE (qcq t.lang):=⟨_,rfl⟩
      have hE2:=qv9 (qcq t.lang);rw [← hE] at hE2 ⊢;(conv=>whnf);refine znm hm4 fun tb w5 hm5=>zw ?_;refine StoreA.mem hm5 (i:=0) rfl (Nat.le_refl 7) hc fun w6 hm6=>zw ?_;have hlang:w6.cell? ⟨b,3,none⟩=some (.string t.lang):=by rw [qa (hm6.get (zmg (i:=1) rfl))];rfl
      rcases hE2 with rfl|rfl
      ·refine DrawV.free rfl Jk (zw ?_);(iterate 4 (refine zd ?_));refine zf ?_ (by intro wd hd;refine zu ?_;refine LoadV.of (Ext.cell (Ext.trans (Ext.drew xr) hd) hlang) ?_;(conv=>whnf);exact ⟨xr,rfl⟩);apply zsd
       ·intro wd hd;refine zu ?_;refine zcv (qd3 t.lang Oo wd) ?_;rintro v w7 ⟨rfl,he7⟩;exact ⟨he7,rfl⟩
       (conv=>whnf);refine zd ?_;refine zf ?_ (by intro wd hd;refine zu ?_;refine LoadV.of (Ext.cell (Ext.trans (Ext.drew xr) hd) hlang) ?_;(conv=>whnf);exact ⟨xr,rfl⟩);refine zd ?_;refine zd ?_;intro wd hd;(conv=>whnf);have hm7:=hm6.drew.call hd;have hlang7:wd.cell? ⟨b,3,none⟩=some (.string t.lang):=by rw [qa (hm7.get (zmg (i:=1) rfl))];rfl
       have hty7:wd.cell? ⟨b,2,none⟩=some (.string t.type):=by rw [qa (hm7.get (zmg (i:=1) rfl))];rfl
       cases hlo:seq (lowS t.lang) t.lang
       ·rw [if_pos ⟨rfl,.inr rfl⟩];refine zu ?_;refine znm hm7 fun ab w8 hm8=>zw ?_;refine zcv (q6h 0 ab w8 (hm8.get mh)) ?_;rintro v w9 ⟨rfl,rfl⟩;(conv=>whnf);exact ⟨rfl,hm8.ext⟩
       ·rw [if_neg Js];(conv=>whnf);refine zt ?_;refine LoadV.mem (i:=1) Oa rfl rfl (zw ?_);refine LoadV.mem (i:=1) Oa rfl rfl (zw ?_);refine zt ?_;show Tst ((!seq t.lang ⟨#[]⟩)==seq t.type qhz) _ _;rw [hl];cases ht:seq t.type qhz
        ·refine zu ?_;exact ⟨rfl,hm7.ext⟩
        ·refine zu ?_;exact ⟨rfl,hm7.ext⟩
      ·rw [if_pos ⟨rfl,.inl Od⟩];refine DrawV.free rfl Jk (zw ?_);(iterate 10 (refine zd ?_));intro wd hd;(conv=>whnf);have hm7:=hm6.drew.call hd;refine zv ?_;refine znm hm7 fun ab w8 hm8=>zw ?_;refine zcv (q6h 61 ab w8 (hm8.get mh)) ?_;rintro v w9 ⟨rfl,rfl⟩;(conv=>whnf);exact ⟨rfl,hm8.ext⟩
    ·rw [if_neg Js,if_neg Js];(conv=>whnf);refine zt ?_;refine LoadV.mem (i:=0) Oa rfl rfl (zw ?_);refine LoadV.mem (i:=0) Oa rfl rfl (zw ?_);refine zt ?_;show Tst ((!seq t.lang ⟨#[]⟩)==seq t.type qhz) _ _;rw [hl];cases ht:seq t.type qhz
     ·refine zu ?_;exact ⟨rfl,hm.ext⟩
     ·refine zu ?_;exact ⟨rfl,hm.ext⟩
theorem qgd (t:TM) (ht:TermOk t) (w:World) (hM:MaxLenAt w) (hT:CellsAt w 4 0 qa6):Gv Tryz.prog 28 [qt t] w fun v w'=>v=ii (qa5 t)∧Ext w w':=by
 have hlit:=fun w1 (he:Ext w w1)=>qqd t ht w1 (hM.ext he)
 obtain ⟨h1,h2,h3,h4⟩:=ht;refine ze Tryz.func28 Tryz.ntmps28 ?_;refine znm (Mem.nil w) fun b w1 hm=>zw ?_;have hA:(t.kind=1∨t.kind=2)→qa5 t=if seq t.type ⟨#[]⟩=false∨seq t.lang ⟨#[]⟩=false then 70 else if t.kind=1 then iriE t.text else if 65536<t.text.size then 2 else labE t.text:=(by grind [qa5])
 have hB:¬ (t.kind=1∨t.kind=2)→qa5 t=if t.kind=3 then litE t else 70:=(by grind [qa5])
 (repeat' (first|refine zp ?_|refine zC (fun _=>zw ?_) (fun _=>zw ?_)|refine LoadV.mem (i:=0) Oa rfl rfl (zw ?_)))
 ·rw [hA (.inl Oa)];cases hy:seq t.type ⟨#[]⟩
  ·refine zu ?_;exact ⟨by rfl,hm.ext⟩
  ·(conv=>whnf);refine zt ?_;refine LoadV.mem (i:=0) Oa rfl rfl (zw ?_);refine zt ?_;cases hl:seq t.lang ⟨#[]⟩
   ·refine zu ?_;exact ⟨by rfl,hm.ext⟩
   ·rw [if_neg Js,if_pos Oa];(conv=>whnf);refine zt ?_;refine LoadV.mem (i:=0) Oa rfl rfl (zw ?_);refine zt ?_;refine LoadV.mem (i:=0) Oa rfl rfl (zw ?_);refine zcv (qhn t.text Oo w1) ?_;rintro v w2 ⟨rfl,he⟩;(conv=>whnf);exact ⟨rfl,hm.ext.trans he⟩
 ·rw [hA (.inr Oa)];cases hy:seq t.type ⟨#[]⟩
  ·refine zu ?_;exact ⟨by rfl,hm.ext⟩
  ·(conv=>whnf);refine zt ?_;refine LoadV.mem (i:=0) Oa rfl rfl (zw ?_);refine zt ?_;cases hl:seq t.lang ⟨#[]⟩
   ·refine zu ?_;exact ⟨by rfl,hm.ext⟩
   ·rw [if_neg Js,if_neg Oo];conv=>whnf
    (repeat' (first|refine zp ?_|refine zC (fun _=>zw ?_) (fun _=>zw ?_)|refine LoadV.mem (i:=0) Oa rfl rfl (zw ?_)))
    ·exact ⟨by grind,hm.ext⟩
    ·rw [if_neg Oo];refine zcv (qyw t.text Oo w1 (hT.ext hm.ext)) ?_;rintro v w2 ⟨rfl,rfl⟩;(conv=>whnf);exact ⟨rfl,hm.ext⟩
 ·rw [hB Oo,if_pos Oa];refine zl hm 0 ?_;refine zcv (hlit w1 hm.ext) ?_;rintro v w2 ⟨rfl,he⟩;(conv=>whnf);exact ⟨rfl,hm.ext.trans he⟩
 ·exact ⟨by simp_all,hm.ext⟩
namespace V
theorem StoreA.all {P:Program} {w0 w:World} {L:List (Nat × Obj)} {i b:Nat} {cur:Array Value} {t:TypeId} {vs:List Value} {K:World→Prop} (h:Mem w0 w L) (hi:L[i]?=some (b,.cells cur t))
  (hl:cur.size=vs.length) (h1:∀ v∈vs,v.oneCell'=true) (hk:∀ w',Mem w0 w' (L.set i (b,.cells vs.toArray t))→K w'):StoreA P w b 0 vs K:=by
 refine StoreA.mem h hi Oo h1 fun w' hw=>hk w' ?_
 grind [List.drop_eq_nil_of_le]
end V
open V
theorem qy7:∀ (x y:LB),Op.bytesLess x y=decide (x<y)
 | [],[]=>by rfl
 | _::_,[]=>by rfl
 | [],_::_=>by rfl
 | a::x,b::y=>by
  rw [Op.bytesLess,qy7 x y];simp only [List.cons_lt_cons_iff]
  by_cases h1:a<b<;>by_cases h2:a=b<;>by_cases h3:x<y<;>simp [h1,h2,h3]
theorem qc6 {a b:ByteArray}:slt a b=true↔a.data.toList<b.data.toList:=by
 grind [slt,qy7,ByteArray.toList_eq]
theorem qhh (a:ByteArray):slt a a=false:=by
 grind [qc6]
theorem qjt {a b c:ByteArray} (h:slt a b=true) (k:slt b c=true):slt a c=true:=by
 grind [qc6]
theorem qmv (a b:ByteArray):slt a b=true∨a=b∨slt b a=true:=by
 rw [qc6,qc6]
 by_cases h1:a.data.toList<b.data.toList
 ·exact .inl h1
 ·by_cases h2:b.data.toList<a.data.toList
  ·simp_all
  ·refine .inr (.inl ?_);have:=List.le_antisymm (List.not_lt.1 h2) (List.not_lt.1 h1);cases a;simp_all
namespace V
def encB (c:UInt8):List Value:=[.int .u8 c.toNat]
structure BS (w:World) (v:Value) (l:LB):Prop where
 h:∃ A c,v=.slice A l.length c∧l.length≤c∧SlAt encB 1 w A l
theorem BS.ext {w w':World} {v:Value} {l:LB} (h:BS w v l) (he:Ext w w'):BS w' v l:=by
 obtain ⟨A,c,h1,h2,h3⟩:=h;exact ⟨A,c,h1,h2,h3.ext he⟩
theorem BS.nil (w:World):BS w (.slice none 0 0) []:=⟨none,0,rfl,by simp,⟨fun h=>absurd rfl h⟩⟩
theorem SlAt.cut {α:Type} {enc:α→List Value} {size:Nat} {w:World} {A A':oA} {l:List α} {lo hi m:Nat} (h:SlAt enc size w A l) (h1:lo≤hi) (h2:hi≤l.length) (h3:hi≤m)
  (e:A'=if m=lo then A else A.map (·.add (lo*size))):SlAt enc size w A' ((l.drop lo).take (hi-lo)):=by
 refine ⟨fun hne=>?_⟩;have hlt:lo<hi:=by
  rcases Nat.lt_or_ge lo hi with h|h
  ·exact h
  ·exact absurd (by rw [show hi-lo=0 by omega,List.take_zero]) hne
 have hn:l≠[]:=by rintro rfl;simp at h2;omega
 obtain ⟨b,off,rfl,hc⟩:=h.at_ hn;rw [if_neg Oo] at e;simp only [Option.map_some,q7] at e;refine ⟨b,off+lo*size,e,fun j x hx=>?_⟩;have hj:j<hi-lo:=by
  have:=(List.getElem?_eq_some_iff.1 hx).1;simp at this;omega
 have hx':l[lo+j]?=some x:=by
  rw [List.getElem?_take,if_pos hj,List.getElem?_drop] at hx;exact hx
 have:=hc (lo+j) x hx'
 rwa [Nat.add_mul,← Nat.add_assoc] at this
theorem SliceV.bs {w:World} {A:oA} {n c:Nat} {lo hi mx:Option Value} {l:LB} {K:Value→Prop} (hA:SlAt encB 1 w A l) (hl:l.length=n) (a b m:Nat) (h1:bnd lo 0 a) (h2:bnd hi n b) (h3:bnd mx c m) (hab:a≤b) (hbn:b≤n) (hbm:b≤m) (hm:m≤c)
  (hs:mx.isSome=true→hi.isSome=true) (hk:∀ A',SlAt encB 1 w A' ((l.drop a).take (b-a))→K (.slice A' (b-a) (m-a))):SliceV 1 A n c lo hi mx K:=
 ⟨a,b,m,h1,h2,h3,hab,hbm,hm,hs,fun A' e=>hk A' (hA.cut hab Oo hbm e)⟩
theorem ElemV.bs {w:World} {A:oA} {n:Nat} {l:LB} {i:Int} {K:Value→Prop} (hA:SlAt encB 1 w A l) (hl:l.length=n) (j:Nat) (e:i=(j:Int)) (hj:j<n)
  (hk:∀ b off,w.cell? ⟨b,off,none⟩=some (.int .u8 (l[j]'(hl ▸ hj)).toNat)→K (.pointer (some ⟨b,off,none⟩))):ElemV A i n 1 K:=
 ElemV.sl hA hl j e hj fun b off hc=>hk b off (by have:=hc 0 _ rfl;rwa [Nat.add_zero] at this)
structure Upd (w w':World) (b:Nat) (o:Obj):Prop where
 os:w'.os=w.os
 tape:w'.tape=w.tape
 output:w'.output=w.output
 size:w.heap.size≤w'.heap.size
 block:∀ k,k<w.heap.size→k≠b→w'.heap[k]?=w.heap[k]?
 at_:w'.heap[b]?=some o
theorem Upd.refl {w:World} {b:Nat} {o:Obj} (h:w.heap[b]?=some o):Upd w w b o:=⟨rfl,rfl,rfl,Nat.le_refl _,fun _ _ _=>rfl,h⟩
theorem Upd.of {w w':World} {b:Nat} {o:Obj} (h:w.heap[b]?=some o) (he:Ext w w'):Upd w w' b o:=⟨he.os,he.tape,he.output,he.size,fun k hk _=>he.block k hk,he.get h⟩
theorem Upd.set {w w':World} {b off:Nat} {cs:Array Value} {t:TypeId} {fr:Nat × Nat} {v:Value} (h:w.heap[b]?=some (.cells cs t fr)) (hw:w'=w.setCell ⟨b,off,none⟩ v):Upd w w' b (.cells (cs.setIfInBounds off v) t fr):=by
 subst hw;exact ⟨rfl,rfl,rfl,by simp [World.setCell],fun k _ hk=>Below.heap_setCell _ _ _ _ hk,heap_setCell h⟩
theorem Upd.trans {a b c:World} {k:Nat} {o o':Obj} (h:Upd a b k o) (h':Upd b c k o'):Upd a c k o':=
 ⟨h'.os.trans h.os,h'.tape.trans h.tape,h'.output.trans h.output,Nat.le_trans h.size h'.size,fun j hj hne=>(h'.block j (Nat.lt_of_lt_of_le hj h.size) hne).trans (h.block j hj hne),h'.at_⟩
theorem Upd.ext {w0 w w':World} {b:Nat} {o:Obj} (h:Upd w w' b o) (he:Ext w0 w) (hb:w0.heap.size≤b):Ext w0 w':=
 Below.trans he ⟨h.os,h.tape,h.output,h.size,fun k hk=>h.block k (Nat.lt_of_lt_of_le hk he.size) Oo⟩
theorem Mem.upd {w0 w w':World} {L:List (Nat × Obj)} {i b:Nat} {o o':Obj} (h:Mem w0 w L) (hi:L[i]?=some (b,o)) (hu:Upd w w' b o'):Mem w0 w' (L.set i (b,o')):=by
 have hm:(b,o)∈L:=zmg hi;have hil:i<L.length:=(List.getElem?_eq_some_iff.1 hi).1;have hib:L[i]=(b,o):=(List.getElem?_eq_some_iff.1 hi).2;have hn:((L.set i (b,o')).map (·.1))=L.map (·.1):=by
  rw [List.map_set];apply List.ext_getElem?;intro j;rw [List.getElem?_set]
  split
  ·rename_i e;subst e
   rw [List.getElem?_map,hi];simp [hil]
  ·rfl
 refine ⟨hu.ext h.ext (h.own _ hm).1,?_,by rw [hn];exact h.nodup⟩;intro x hx
 rcases List.mem_or_eq_of_mem_set hx with hx' | rfl
 ·refine ⟨(h.own x hx').1,?_⟩
  by_cases e:x.1=b
  ·obtain ⟨j,hj,hje⟩:=List.mem_iff_getElem.1 hx
   by_cases hij:j=i
   ·subst hij;rw [List.getElem_set_self] at hje;rw [← hje];exact hu.at_
   ·have h1:(L.map (·.1))[j]'(by simpa using hj)=b:=by
     have:(L.set i (b,o'))[j]=L[j]'(by simpa using hj):=List.getElem_set_ne (fun e=>hij e.symm) _;rw [List.getElem_map,← this,hje,e]
    have h2:(L.map (·.1))[i]'(by simpa using hil)=b:=by rw [List.getElem_map,hib]
    have:=(List.getElem_inj h.nodup).1 (h1.trans h2.symm);exact absurd this hij
  ·rw [hu.block _ (h.lt (b:=x.1) (o:=x.2) hx') e];exact (h.own x hx').2
 ·exact ⟨(h.own (b,o) hm).1,hu.at_⟩
end V
open Go.ChangeShapes Go.WideShapes Go.RowKit V
namespace V
section
variable {H:Type} {enc:TypeId × Value→H} {P:Program} {w:World} {t:TypeId}
theorem Opn.sliceR {α:Type} [Inhabited α] {en:α→List Value} {R:α→Prop} {size e:Nat} {c:Value} (ht:P.underlying t=some (.slice e)) (hc:P.cellsOf e=size) (hs0:0<size)
  (hen:∀ x,(en x).length=size) (each:∀ cs,Opn enc P w e cs→∃ x,cs=en x∧R x) (h:Opn enc P w t [c]) :
  ∃ (A:oA) (cap:Nat) (l:List α),c=.slice A l.length cap∧l.length≤cap∧cap*P.bytesOf e≤140737488351232∧(∀ x∈l,R x)∧SlAt en size w A l:=by
 obtain ⟨n,d,ps,h,hw⟩:=h;have e2:reachBytes=140737488351232:=rfl
 rcases Deep.open_slice ht h with ⟨h1,_⟩|⟨a,len,cap,m,n,D,Pl,h1,_,hlc,hcm,hm,hd,hx⟩
 ·refine ⟨none,0,[],by simpa using h1,by simp,by simp,by simp,⟨fun h=>absurd rfl h⟩⟩
 ·simp only [if_true] at hm;simp only [Prod.mk.injEq] at hd;obtain ⟨rfl,_⟩:=hd;rw [DataW.weights,ht] at hw;simp only [List.length_map,List.length_range] at hw;have hcap:=hw _ mh;rw [show len+(m-len)=cap by omega] at hcap;obtain ⟨X,hX⟩:=Deep.choose_lt (n:=len) (p:=fun i (x:α)=>w.cells? 0 (a.add (i*P.cellsOf e)) (P.cellsOf e)=some (en x)∧R x) (fun i hi=>by
   obtain ⟨cs,h2,h3⟩:=hx i Oo;obtain ⟨x,rfl,hr⟩:=each cs ⟨n,D i,Pl i,h3,fun k hk=>hw k (zmc (List.mem_append_left _ (qe1 hk _ (List.mem_map.2 ⟨i,List.mem_range.2 hi,rfl⟩))))⟩;exact ⟨x,h2,hr⟩)
  refine ⟨some a,cap,(List.range len).map X,by simpa using h1,by simp;omega,by omega,fun s hs=>?_,⟨fun hn=>?_⟩⟩
  ·obtain ⟨i,hi,rfl⟩:=List.mem_map.1 hs;exact (hX i (List.mem_range.1 hi)).2
  ·have hpos:0<len:=by
    rcases Nat.eq_zero_or_pos len with h0|h0
    ·exact absurd (by rw [h0];rfl) hn
    ·exact h0
   have hs:a=⟨a.block,a.off,none⟩:=by
    obtain ⟨_,_,h2⟩:=World.cells?_some (hX 0 hpos).1;have h3:=h2 0 Oo;rw [zge (by rw [hen];omega)] at h3;refine q04 (w:=w) (v:=(en (X 0))[0]'(by rw [hen];omega)) ?_
    simpa [Addr.add] using h3
   refine ⟨a.block,a.off,by rw [← hs],fun j s hj k v hv=>?_⟩;have hjl:j<len:=by
    have:=(List.getElem?_eq_some_iff.1 hj).1
    simpa using this
   rw [List.getElem?_map,List.getElem?_range hjl] at hj;simp only [Option.map_some,Option.some.injEq] at hj;subst hj;obtain ⟨_,_,h2⟩:=World.cells?_some (hX j hjl).1;have hk:k<size:=by rw [← hen (X j)];exact (List.getElem?_eq_some_iff.1 hv).1
   have h3:=h2 k Oo;rw [hv,hs,q7,q7,hc] at h3;exact h3
end
end V
def qha (i n:Nat):LB→Nat × Nat × Nat
 | []=>(0,0,10)
 | c::l=>if (i=9∧1<c.toNat)∨(0<i∧c.toNat=0) then (0,0,11) else if c.toNat<128 then (n+c.toNat%128*2 ^ (7*i),i+1,0) else qha (i+1) (n+c.toNat%128*2 ^ (7*i)) l
def numL (l:LB):Nat × Nat × Nat:=qha 0 0 l
theorem qek {i n:Nat} {c:UInt8} {l:LB}:qha i n (c::l)=if (i=9∧1<c.toNat)∨(0<i∧c.toNat=0) then (0,0,11) else if c.toNat<128 then (n+c.toNat%128*2 ^ (7*i),i+1,0) else qha (i+1) (n+c.toNat%128*2 ^ (7*i)) l:=rfl
theorem qbq {k:IntKind} {a b:Nat} (i:Nat) (ha:InR k ((a+b*2 ^ i:Nat):Int)) (hb:a<2 ^ i):qc2 .or k (a:Int) ((b*2 ^ i:Nat):Int)=((a+b*2 ^ i:Nat):Int):=by
 have e:(a |||b*2 ^ i)=a+b*2 ^ i:=by
  rw [Nat.or_comm,Nat.mul_comm b,Nat.add_comm];exact (Nat.two_pow_add_eq_or_of_lt hb b).symm
 rw [qpp (InR.le ha Oo) (InR.le ha Oo) (by rw [e];exact ha),e]
theorem V.Wit.shlN {k:IntKind} {a:Nat} {b:Int} {K:Int→Prop} (n:Nat) (e:b=(n:Int)) (hn:n<k.bits) (h:InR k ((a*2 ^ n:Nat):Int)) (hk:K ((a*2 ^ n:Nat):Int)) :
  Wit (fun r=>0≤b∧b<k.bits∧k.wrap ((a:Int)*2 ^ b.toNat)=r) K:=by
 subst e;have e2:(a:Int)*2 ^ ((n:Int).toNat)=((a*2 ^ n:Nat):Int):=by
  rw [Int.toNat_natCast];push_cast;rfl
 refine ⟨_,⟨by omega,by omega,?_⟩,hk⟩;rw [e2];exact h.wrap
theorem pow7 (i:Nat) (hi:i≤8):2 ^ (7*i)≤72057594037927936:=by
 have:2 ^ (7*i)≤2 ^ 56:=Nat.pow_le_pow_right Od Oo
 simpa using this
theorem qkl (i n c:Nat) (hi:i≤9) (hn:n<2 ^ (7*i)) (hc:c<256) (h9:i=9→c≤1):c%128*2 ^ (7*i)≤9223372036854775808∧n+c%128*2 ^ (7*i)<2 ^ 64∧(i<9→n+c%128*2 ^ (7*i)<2 ^ (7*(i+1))):=by
 by_cases e:i=9
 ·subst e;have h1:=h9 rfl;have h2:c%128=c:=Nat.mod_eq_of_lt Oo;rw [h2];have hp:2 ^ (7*9)=9223372036854775808:=by decide
  rw [hp] at hn ⊢;have:c*9223372036854775808≤1*9223372036854775808:=Nat.mul_le_mul_right _ h1;have e64:2 ^ 64=18446744073709551616:=by decide
  exact ⟨by omega,by rw [e64];omega,fun h=>by omega⟩
 ·have hp:2 ^ (7*(i+1))=128*2 ^ (7*i):=by rw [Nat.mul_add,Nat.pow_add];omega
  have hm:c%128*2 ^ (7*i)≤127*2 ^ (7*i):=Nat.mul_le_mul_right _ Oo;have h7:=pow7 i Oo;have e64:2 ^ 64=18446744073709551616:=by decide
  exact ⟨by omega,by rw [e64];omega,fun _=>by rw [hp];omega⟩
def numV (r:Nat × Nat × Nat):Value:=.tuple #[.int .u64 r.1,ii r.2.1,ii r.2.2]
theorem qio {n:Nat} (h:n<2 ^ 64):InR .u64 (n:Int):=by
 have e64:2 ^ 64=18446744073709551616:=by decide
 exact ⟨by omega,by omega⟩
theorem qya (l:LB) (i:Nat) (h:i<l.length):l.drop i=l[i]::l.drop (i+1):=List.drop_eq_getElem_cons h
def curO (t:TypeId) (v:Value) (at_ e:Nat):Obj:=.cells #[v,ii at_,ii e] t
theorem q33 (b:Nat) (v:Value) (at_ e:Nat) (l:LB) (w:World) (hb:w.heap[b]?=some (curO 367 v at_ e)) (hv:BS w v l) (hat:at_≤l.length) (_hl:l.length≤140737488355328) :
  Gv Tryz.prog 360 [pp b] w fun r w'=>r=numV (numL (l.drop at_))∧Ext w w':=by
 obtain ⟨A,c,rfl,hc,hS⟩:=hv;refine ze Tryz.func360 Tryz.ntmps360 ?_;refine zy ?_;refine zv ?_;refine LoadV.own hb rfl (zu ?_);refine LoadV.own hb rfl (zu ?_);refine SliceV.bs hS rfl at_ l.length c rfl rfl rfl hat znr hc znr (fun h=>by cases h) ?_;intro A' hA';refine zu ?_;have hd0:(l.drop at_).take (l.length-at_)=l.drop at_:=List.take_of_length_le Js;rw [hd0] at hA';obtain ⟨m,hm⟩:∃ m,m=l.drop at_:=⟨_,rfl⟩
 have hml:m.length=l.length-at_:=by rw [hm];simp
 rw [← hm] at hA' ⊢;have hx:=(Ext.refl w).drew;have hA:=hA'.ext hx;refine qm (fun x:Nat × Nat=>[(16,.slice A' (l.length-at_) (c-at_)),(17,ii (l.length-at_:Nat)),(18,ii x.1),(5,.int .u64 x.2)]) (fun x w1=>x.1≤m.length∧x.1≤9∧x.2<2 ^ (7*x.1)∧numL m=qha x.1 x.2 (m.drop x.1)∧Ext w.drew w1) (fun x=>m.length-x.1) (0,0)
  ⟨rfl,rfl,rfl,rfl,trivial⟩ ⟨by simp,by simp,by simp,by rw [List.drop_zero];rfl,xr⟩ ?_
 rintro ⟨i,n⟩ w1 ρ' ⟨h1,h9,hn,hd,he1⟩;dsimp only at h1 h9 hn hd ⊢;(conv=>whnf);refine zC (fun _=>zw ?_) (fun _=>zw ?_)
 ·have hi:i<m.length:=by omega
  rw [qya m i hi,qek] at hd;obtain ⟨c0,hc0⟩:∃ c0,c0=m[i]:=⟨_,rfl⟩
  have hlt:c0.toNat<256:=c0.toBitVec.isLt;rw [← hc0] at hd;refine ElemV.bs (hA.ext he1) hml i rfl Oo ?_;intro eb eo hcell;rw [← hc0] at hcell;(conv=>whnf);refine LoadV.of hcell (zw ?_)
  (repeat' (first|refine zp ?_|refine zC (fun _=>zw ?_) (fun _=>zw ?_)))
  all_goals first
   | exact ⟨by rw [hd,if_pos Oo];rfl,hx.trans he1⟩
   | skip
  all_goals
   rw [if_neg Oo] at hd;obtain ⟨g1,g2,g3⟩:=qkl i n c0.toNat h9 hn hlt Oo;refine Wit.eq (qbb (k:=.u8) (m:=c0.toNat) 7 rfl ⟨by omega,by omega⟩ ⟨by omega,by omega⟩) (zu ?_);refine V.Wit.shlN (7*i) Oo (by show 7*i<64;omega) (qio (by show c0.toNat%2 ^ 7*2 ^ (7*i)<_;rw [show 2 ^ 7=128 from rfl];omega)) (zw ?_);refine Wit.eq (qbq (7*i) (qio g2) hn) (zw ?_)
   (repeat' (first|refine zp ?_|refine zC (fun _=>zw ?_) (fun _=>zw ?_)))
   all_goals first
    | (rw [if_pos Oo] at hd;exact ⟨by rw [hd];rfl,hx.trans he1⟩)
    | (rw [if_neg Oo] at hd;exact ⟨(i+1,n+c0.toNat%128*2 ^ (7*i)),⟨rfl,rfl,rfl,rfl,trivial⟩,⟨by simp only;omega,by simp only;omega,g3 Oo,hd,he1⟩,by simp only;omega⟩)
 ·rw [List.drop_eq_nil_of_le Oo,qha] at hd;exact ⟨by rw [hd];rfl,hx.trans he1⟩
theorem qht:∀ (l:LB) (i n:Nat),i≤9→n<2 ^ (7*i)→(qha i n l).1<2 ^ 64∧(qha i n l).2.1≤i+l.length∧((qha i n l).2.2=0∨(qha i n l).2.2=10∨(qha i n l).2.2=11)
 | [],i,n,_,_=>⟨show 0<2 ^ 64 by decide,by simp [qha],.inr (.inl rfl)⟩
 | c::l,i,n,hi,hn=>by
  rw [qek]
  by_cases h1:(i=9∧1<c.toNat)∨(0<i∧c.toNat=0)
  ·rw [if_pos h1];exact ⟨by decide,Nat.zero_le _,.inr (.inr rfl)⟩
  ·rw [if_neg h1];have hlt:c.toNat<256:=c.toBitVec.isLt;obtain ⟨g1,g2,g3⟩:=qkl i n c.toNat hi hn hlt Oo
   by_cases h2:c.toNat<128
   ·rw [if_pos h2];exact ⟨g2,by simp only [List.length_cons];omega,.inl rfl⟩
   ·rw [if_neg h2];have:=qht l (i+1) _ Oo (g3 Oo);refine ⟨this.1,?_,this.2.2⟩;have:=this.2.1;simp only [List.length_cons];omega
theorem qb5 (l:LB):(numL l).1<2 ^ 64∧(numL l).2.1≤l.length∧((numL l).2.2=0∨(numL l).2.2=10∨(numL l).2.2=11):=by
 have:=qht l 0 0 Oo Od
 rwa [Nat.zero_add] at this
def varS (l:LB) (at_ e:Nat):Nat × Nat × Nat:=if e≠0 then (0,at_,e) else if (numL (l.drop at_)).2.2≠0 then (0,at_,(numL (l.drop at_)).2.2) else ((numL (l.drop at_)).1,at_+(numL (l.drop at_)).2.1,0)
theorem q5c (b:Nat) (v:Value) (at_ e:Nat) (l:LB) (w:World) (hb:w.heap[b]?=some (curO 367 v at_ e)) (hv:BS w v l) (hat:at_≤l.length) (hl:l.length≤140737488355328) :
  Gv Tryz.prog 314 [pp b,.int .u64 18446744073709551615] w fun r w'=>r=.int .u64 (varS l at_ e).1∧Upd w w' b (curO 367 v (varS l at_ e).2.1 (varS l at_ e).2.2):=by
 have hpk:=q33 b v at_ e l w hb hv hat hl;obtain ⟨g1,g2,g3⟩:=qb5 (l.drop at_);rw [zld] at g2;have e64:2 ^ 64=18446744073709551616:=by decide
 refine ze Tryz.func314 Tryz.ntmps314 ?_;refine LoadV.own hb rfl (zw ?_);refine zC (fun _=>zw ?_) (fun _=>zw ?_)
 ·have hS:varS l at_ e=(0,at_,e):=by rw [varS,if_pos Oo]
  rw [hS];exact ⟨rfl,Upd.refl hb⟩
 ·have he0:e=0:=by omega
  subst he0;refine zcv (hpk) ?_;rintro r w1 ⟨rfl,he⟩;have hb1:=he.get hb;have hS:varS l at_ 0=if (numL (l.drop at_)).2.2≠0 then (0,at_,(numL (l.drop at_)).2.2) else ((numL (l.drop at_)).1,at_+(numL (l.drop at_)).2.1,0):=by rw [varS,if_neg Oo]
  (conv=>whnf);refine zC (fun _=>zu ?_) (fun _=>zu ?_)
  ·refine LoadV.own hb1 rfl (zu ?_);refine StoreV.own hb1 (show 1<3 by decide) rfl ?_;intro w2 hw;have hu:=(Upd.of hb he).trans (Upd.set hb1 hw);rw [hS,if_neg Oo];(conv=>whnf);exact ⟨rfl,hu⟩
  ·refine StoreV.own hb1 (show 2<3 by decide) rfl ?_;intro w2 hw;have hu:=(Upd.of hb he).trans (Upd.set hb1 hw);rw [hS,if_pos Oo];(conv=>whnf);exact ⟨rfl,hu⟩
theorem qde (b:Nat) (v:Value) (at_ e:Nat) (l:LB) (w:World) (hb:w.heap[b]?=some (curO 367 v at_ e)) (hv:BS w v l) (hat:at_≤l.length) (hl:l.length≤140737488355328) :
  Gv Tryz.prog 233 [pp b] w fun r w'=>r=.int .u64 (varS l at_ e).1∧Upd w w' b (curO 367 v (varS l at_ e).2.1 (varS l at_ e).2.2):=by
 refine ze Tryz.func233 Tryz.ntmps233 ?_;refine zcv (q5c b v at_ e l w hb hv hat hl) ?_;rintro r w1 ⟨rfl,hu⟩;(conv=>whnf);exact ⟨rfl,hu⟩
def leN:LB→Nat
 | []=>0
 | c::l=>c.toNat+256*leN l
theorem qy3 (l:LB):leN l<256 ^ l.length:=by
 induction l with
 | nil=>decide
 | cons c l ih=>
  have hlt:c.toNat<256:=c.toBitVec.isLt
  grind [leN]
theorem qy1 (l m:LB):leN (l++m)=leN l+256 ^ l.length*leN m:=by
 induction l<;>grind [leN]
theorem q6d {l:LB} (h:4≤l.length):leN (l.take 4)=l[0].toNat+l[1].toNat*2 ^ 8+l[2].toNat*2 ^ 16+l[3].toNat*2 ^ 24:=by
 match l,h with
 | a::b::c::d::r,_=>grind [leN]
theorem qab3 {l:LB} (h:2≤l.length):leN (l.take 2)=l[0].toNat+l[1].toNat*2 ^ 8:=by
 match l,h with
 | a::b::r,_=>grind [leN]
theorem qah {n:Nat} (h:n<9223372036854775808):InR .i64 (n:Int):=⟨by omega,by omega⟩
theorem q9 (c:UInt8):c.toNat<256:=c.toBitVec.isLt
theorem qacd (l:LB) (A:oA) (n c:Nat) (w:World) (hS:SlAt encB 1 w A l) (hn:l.length=n) (h4:4≤l.length) :
  Gv Tryz.prog 103 [.slice A n c] w fun v w'=>v=ii (leN (l.take 4))∧Ext w w':=by
 have hA:=hS.ext (Ext.refl w).drew;have b0:=q9 l[0];have b1:=q9 l[1];have b2:=q9 l[2];have b3:=q9 l[3];rw [q6d h4];refine ze Tryz.func103 Tryz.ntmps103 ?_;refine zy ?_;refine zv ?_;refine ElemV.bs hA hn 0 rfl Oo ?_;intro eb eo hc;refine zu ?_;refine LoadV.of hc (zu ?_);refine ElemV.bs hA hn 1 rfl Oo ?_;intro eb eo hc;refine zu ?_;refine LoadV.of hc (zu ?_);refine V.Wit.shlN 8 rfl Od (qah Oo) (zu ?_);refine Wit.eq (qbq 8 (qah Oo) b0) (zu ?_);refine ElemV.bs hA hn 2 rfl Oo ?_;intro eb eo hc;refine zu ?_;refine LoadV.of hc (zu ?_);refine V.Wit.shlN 16 rfl Od (qah Oo) (zu ?_);refine Wit.eq (qbq 16 (qah Oo) Oo) (zu ?_);refine ElemV.bs hA hn 3 rfl Oo ?_;intro eb eo hc;refine zu ?_;refine LoadV.of hc (zu ?_);refine V.Wit.shlN 24 rfl Od (qah Oo) (zu ?_);refine Wit.eq (qbq 24 (qah Oo) Oo) (zu ?_);exact ⟨rfl,(Ext.refl w).drew⟩
theorem qlz (l:LB) (A:oA) (n c:Nat) (w:World) (hS:SlAt encB 1 w A l) (hn:l.length=n) (h4:4≤l.length) :
  Gv Tryz.prog 299 [.slice A n c] w fun v w'=>v=ii (leN (l.take 4))∧Ext w w':=by
 have hA:=hS.ext (Ext.refl w).drew;have b0:=q9 l[0];have b1:=q9 l[1];have b2:=q9 l[2];have b3:=q9 l[3];rw [q6d h4];refine ze Tryz.func299 Tryz.ntmps299 ?_;refine zy ?_;refine zv ?_;refine ElemV.bs hA hn 0 rfl Oo ?_;intro eb eo hc;refine zu ?_;refine LoadV.of hc (zu ?_);refine ElemV.bs hA hn 1 rfl Oo ?_;intro eb eo hc;refine zu ?_;refine LoadV.of hc (zu ?_);refine V.Wit.shlN 8 rfl Od (qah Oo) (zu ?_);refine Wit.eq (qbq 8 (qah Oo) b0) (zu ?_);refine ElemV.bs hA hn 2 rfl Oo ?_;intro eb eo hc;refine zu ?_;refine LoadV.of hc (zu ?_);refine V.Wit.shlN 16 rfl Od (qah Oo) (zu ?_);refine Wit.eq (qbq 16 (qah Oo) Oo) (zu ?_);refine ElemV.bs hA hn 3 rfl Oo ?_;intro eb eo hc;refine zu ?_;refine LoadV.of hc (zu ?_);refine V.Wit.shlN 24 rfl Od (qah Oo) (zu ?_);refine Wit.eq (qbq 24 (qah Oo) Oo) (zu ?_);exact ⟨rfl,(Ext.refl w).drew⟩
theorem qaai (l:LB) (A:oA) (n c:Nat) (w:World) (hS:SlAt encB 1 w A l) (hn:l.length=n) (h4:2≤l.length) :
  Gv Tryz.prog 300 [.slice A n c] w fun v w'=>v=ii (leN (l.take 2))∧Ext w w':=by
 have hA:=hS.ext (Ext.refl w).drew;have b0:=q9 l[0];have b1:=q9 l[1];rw [qab3 h4];refine ze Tryz.func300 Tryz.ntmps300 ?_;refine zy ?_;refine zv ?_;refine ElemV.bs hA hn 0 rfl Oo ?_;intro eb eo hc;refine zu ?_;refine LoadV.of hc (zu ?_);refine ElemV.bs hA hn 1 rfl Oo ?_;intro eb eo hc;refine zu ?_;refine LoadV.of hc (zu ?_);refine V.Wit.shlN 8 rfl Od (qah Oo) (zu ?_);refine Wit.eq (qbq 8 (qah Oo) b0) (zu ?_);exact ⟨rfl,(Ext.refl w).drew⟩
namespace V
theorem Mem.fresh {w0 w w':World} {L:List (Nat × Obj)} {b:Nat} {o:Obj} (h:Mem w0 w L) (he:Ext w w') (hb:w.heap.size≤b) (ho:w'.heap[b]?=some o):Mem w0 w' ((b,o)::L):=by
 have h':=h.call he;refine ⟨h'.ext,fun x hx=>?_,?_⟩
 ·rcases List.mem_cons.1 hx with rfl|hx
  ·exact ⟨Nat.le_trans h.ext.size hb,ho⟩
  ·exact h'.own x hx
 ·simp only [List.map_cons,List.nodup_cons];refine ⟨fun hm=>?_,h.nodup⟩;obtain ⟨x,hx,e⟩:=List.mem_map.1 hm;have:=h.lt (b:=x.1) (o:=x.2) hx;omega
theorem Fall.max2 {P:Program} {ρ:Nat→Value} {o:Oper} {c:Call} {k:IntKind} {x y:Int} {w:World} {K:Value→World→Prop} (ho:o.op=.call c) (hc:c.callee=.builtin .max) (ha0:evs ρ c.args.toList=[.int k x,.int k y])
  (h:∀ m,m=max x y→K (.int k m) w):Fall P (execOp (ev ρ) o) w K:=by
 have e:execOp (ev ρ) o=(do pure (.value (← Builtin.max_ c.argTypes o.type (c.args.map (ev ρ))))):=by
  simp only [execOp,ho,resolve,hc];rfl
 have ha:c.args.map (ev ρ)=#[.int k x,.int k y]:=by
  rw [qcz] at ha0;rw [← Array.toList_inj];simpa using ha0
 refine ⟨.inl ⟨_,w,?_,h _ rfl⟩⟩;rw [e,ha];simp only [Sem.run_bind,run_max_int2,Result.andThen_ok,Sem.run_pure]
 congr 3
 rw [Int.max_def]
 split<;>(try split)<;>omega
theorem Fall.min2 {P:Program} {ρ:Nat→Value} {o:Oper} {c:Call} {k:IntKind} {x y:Int} {w:World} {K:Value→World→Prop} (ho:o.op=.call c) (hc:c.callee=.builtin .min) (ha0:evs ρ c.args.toList=[.int k x,.int k y])
  (h:∀ m,m=min x y→K (.int k m) w):Fall P (execOp (ev ρ) o) w K:=by
 have e:execOp (ev ρ) o=(do pure (.value (← Builtin.min_ c.argTypes o.type (c.args.map (ev ρ))))):=by
  simp only [execOp,ho,resolve,hc];rfl
 have ha:c.args.map (ev ρ)=#[.int k x,.int k y]:=by
  rw [qcz] at ha0;rw [← Array.toList_inj];simpa using ha0
 refine ⟨.inl ⟨_,w,?_,h _ rfl⟩⟩;rw [e,ha];simp only [Sem.run_bind,run_min_int2,Result.andThen_ok,Sem.run_pure]
 congr 3
 rw [Int.min_def]
 split<;>(try split)<;>omega
end V
theorem qdr (v:Value) (l:LB) (w:World) (hv:BS w v l) :
  Gv Tryz.prog 159 [v] w fun r w'=>∃ b,r=pp b∧w.heap.size≤b∧w'.heap[b]?=some (curO 367 v 0 0)∧Ext w w':=by
 obtain ⟨A,c,rfl,hc,hS⟩:=hv;refine ze Tryz.func159 Tryz.ntmps159 ?_;refine ⟨fun b w' hb hw=>?_⟩;subst hb hw;(conv=>whnf);exact ⟨w.heap.size,rfl,Nat.le_refl _,heap_alloc_new w _,(Ext.refl w).alloc _⟩
theorem qis (b:Nat) (v:Value) (a e:Nat) (w:World) (hb:w.heap[b]?=some (curO 367 v a e)):Gv Tryz.prog 166 [pp b] w fun r w'=>r=ii a∧w'=w:=by
 refine ze Tryz.func166 Tryz.ntmps166 ?_;refine LoadV.own hb rfl (zw ?_);exact ⟨rfl,rfl⟩
theorem qe9 (b:Nat) (v:Value) (a e:Nat) (w:World) (hb:w.heap[b]?=some (curO 367 v a e)):Gv Tryz.prog 234 [pp b] w fun r w'=>r=ii e∧w'=w:=by
 refine ze Tryz.func234 Tryz.ntmps234 ?_;refine LoadV.own hb rfl (zw ?_);exact ⟨rfl,rfl⟩
theorem qs2 (b:Nat) (v:Value) (a e:Nat) (l:LB) (w:World) (hb:w.heap[b]?=some (curO 367 v a e)) (hv:BS w v l) (ha:a≤l.length) (hl:l.length≤140737488355328) :
  Gv Tryz.prog 313 [pp b] w fun r w'=>r=ii (l.length-a:Nat)∧Ext w w':=by
 obtain ⟨A,c,rfl,hc,hS⟩:=hv;refine ze Tryz.func313 Tryz.ntmps313 ?_;refine zy ?_;refine zv ?_;refine LoadV.own hb rfl (zu ?_);refine LoadV.own hb rfl (zu ?_);exact ⟨congrArg (Value.int .i64) Oo,(Ext.refl w).drew⟩
theorem qkw (w:World):Gv Tryz.prog 195 [ii 4] w fun r w'=>r=ii 4∧w'=w:=by
 refine ze Tryz.func195 Tryz.ntmps195 ?_;refine V.Fall.max2 rfl rfl rfl fun m hm=>?_;obtain rfl:m=4:=by omega
 refine V.Fall.min2 rfl rfl rfl fun m hm=>?_;obtain rfl:m=4:=by omega
 (conv=>whnf);exact ⟨rfl,rfl⟩
theorem q4z (b:Nat) (v:Value) (a n:Nat) (l:LB) (w:World) (hb:w.heap[b]?=some (curO 367 v a 0)) (hv:BS w v l) (ha:a+n≤l.length) (hl:l.length≤140737488355328) (hlow:∀ A c,v=.slice A l.length c→True) :
  Gv Tryz.prog 231 [pp b,ii n] w fun r w'=>(∃ A' c',r=.slice A' n c'∧SlAt encB 1 w A' ((l.drop a).take n))∧Upd w w' b (curO 367 v (a+n) 0):=by
 have hleft:=qs2 b v a 0 l w hb hv Oo hl;obtain ⟨A,c,rfl,hc,hS⟩:=hv;refine ze Tryz.func231 Tryz.ntmps231 ?_;refine LoadV.own hb rfl (zu ?_);refine zcv (hleft) ?_;rintro r w1 ⟨rfl,he⟩;have hb1:=he.get hb;refine zu ?_;refine LoadV.own hb1 rfl (zu ?_);refine StoreV.own hb1 (show 1<3 by decide) rfl ?_;intro w2 hw;have hu:=(Upd.of hb he).trans (Upd.set hb1 hw);have hb2:w2.heap[b]?=some (curO 367 (.slice A l.length c) (a+n) 0):=hu.at_;(conv=>whnf);refine zy ?_;refine zv ?_;refine LoadV.own hb2 rfl (zu ?_);refine LoadV.own hb2 rfl (zu ?_);refine LoadV.own hb2 rfl (zu ?_);refine SliceV.bs hS rfl a (a+n) c (by show (((a+n:Nat):Int)-(n:Int))=(a:Int);omega) rfl rfl Oo ha Oo znr (fun h=>by cases h) ?_;intro A' hA';refine zu ?_;have e:a+n-a=n:=by omega
 rw [e] at hA' ⊢;exact ⟨⟨A',_,rfl,hA'⟩,hu.trans (Upd.of hb2 (Ext.refl w2).drew)⟩
def qaj (a b:TM):Bool:=decide (a.kind=b.kind)&&(seq a.text b.text&&(seq a.type b.type&&seq a.lang b.lang))
theorem qu {a b:TM}:qaj a b=true↔a=b:=by
 obtain ⟨a0,a1,a2,a3⟩:=a;obtain ⟨b0,b1,b2,b3⟩:=b;simp [qaj,qa9]
theorem qus:Tryz.prog.underlying 45=some (.struct (Tryz.prog.fieldsOf 45)):=by kernel_rfl
theorem q06:Tryz.prog.stoodInHeld 45=false:=by kernel_rfl
theorem qye:Tryz.prog.eqGuardType Tryz.prog.depth 45=false:=by kernel_rfl
theorem qau (d:Nat) (a b:TM) (w:World):(Op.equalIn (d+2) 45 (qt a) (qt b)).run Tryz.prog w=.ok (qaj a b) w:=by
 have u3:=Tryz.underlying3;have a3:=Tryz.isAgg3;have z3:=Tryz.sizeOf3;have u9:=Tryz.underlying9;have a9:=Tryz.isAgg9;have z9:=Tryz.sizeOf9;simp only [qt];rw [run_equalIn_agg w (d+1) _ _ _ qus q06];simp only [Program.fieldsOf,Tryz.underlying45]
 go_simp
 have e:∀ x y:ByteArray,(x.toList=y.toList)=(seq x y=true):=fun x y=>by rw [← qke,beq_iff_eq]
 simp only [e]
 by_cases h1:a.kind=b.kind<;>cases h2:seq a.text b.text<;>cases h3:seq a.type b.type<;>cases h4:seq a.lang b.lang<;>simp [qaj,h1,h2,h3,h4]
namespace V
theorem RunV.eqTerm {op:BinOp} {xo yo:Operand} {a b:TM} {w:World} {K:Value→World→Prop} (ho:op=.eql∨op=.neq) (h:K (.bool (bif eqOp op then qaj a b else !qaj a b)) w) :
  RunV Tryz.prog (do eqGuard op 45 xo yo (qt a) (qt b);binOp op 45 (qt a) (qt b)) w K:=by
 refine ⟨_,w,?_,h⟩;rw [Sem.run_bind,qt,qt,run_eqGuard_agg w op _ xo yo _ _ qye,Result.andThen_ok];have e:=qau 9998 a b w;simp only [qt] at e
 rcases ho with rfl|rfl
 ·rw [run_eql_struct,e];rfl
 ·rw [run_neq_struct,e];rfl
end V
def qwm (t:TM):Bool:=decide (t.kind=0)&&(seq t.text ⟨#[]⟩&&(seq t.type ⟨#[]⟩&&seq t.lang ⟨#[]⟩))
def canB (k:Nat) (t:TM):Bool:=
 if k=0 then decide (t.kind=1)||decide (t.kind=2) else if k=1 then decide (t.kind=1) else if k=2 then decide (1≤t.kind)&&decide (t.kind≤3) else qwm t||decide (t.kind=1)||decide (t.kind=2)
def qcf:List Nat→Nat
 | []=>0
 | e::l=>if e≠0 then e else qcf l
theorem qdk {l:List Nat} (h:∀ j (hj:j<l.length),l[j]=0):qcf l=0:=by
 induction l with
 | nil=>rfl
 | cons x l ih=>
  have h0:=h 0 Js;simp only [List.getElem_cons_zero] at h0;rw [qcf,if_neg Oo];exact ih fun j hj=>by have:=h (j+1) Ys;rwa [List.getElem_cons_succ] at this
theorem qi1 {l:List Nat} {k:Nat} (hk:k<l.length) (h:∀ j (hj:j<l.length),j<k→l[j]=0) (hne:l[k]≠0):qcf l=l[k]:=by
 induction l generalizing k with
 | nil=>simp at hk
 | cons x l ih=>
  cases k with
  | zero=>simp only [List.getElem_cons_zero] at hne ⊢;rw [qcf,if_pos hne]
  | succ k=>
   have h0:=h 0 Js Oo;simp only [List.getElem_cons_zero] at h0;rw [qcf,if_neg Oo];simp only [List.getElem_cons_succ] at hne ⊢;exact ih (by simpa using hk) (fun j hj hjk=>by have:=h (j+1) Ys Oo;rwa [List.getElem_cons_succ] at this) hne
theorem CellsAt.mem {w0 w:World} {L:List (Nat × Obj)} {b:Nat} {cs:Array Value} {t:TypeId} {fr:Nat × Nat} (h:Mem w0 w L) (hi:(b,Obj.cells cs t fr)∈L):CellsAt w b 0 cs.toList:=fun k v hv=>by
 rw [qa (h.get hi),Nat.zero_add]
 simpa using hv
namespace V
theorem StoreA.rwAll {P:Program} {w0 w:World} {v:Value} {e:TypeId} {size n:Nat} {xs:List Value} {L:List (Nat × Obj)} {b:Nat} {cur:Array Value} {t:TypeId} {vs:List Value} {K:World→Prop} (h:Rw w0 w v e size n xs ((b,.cells cur t)::L))
  (hl:cur.size=vs.length) (h1:∀ v∈vs,v.oneCell'=true) (hk:∀ w',Rw w0 w' v e size n xs ((b,.cells vs.toArray t)::L)→K w'):StoreA P w b 0 vs K:=by
 have hg:=h.mem.get mh;have hb:v.ownBlock≠some b:=h.apart _ mh;have hr:=run_storeCells_at P b 0 t vs 0 cur w hg Ys h1;have ec:(cur.toList.take (0+0)++vs++cur.toList.drop (0+0+vs.length)).toArray=vs.toArray:=by
  rw [List.take_zero,List.nil_append,List.drop_eq_nil_of_le Ys,List.append_nil]
 rw [ec] at hr;refine ⟨_,hr,hk _ ⟨?_,?_,fun y hy=>?_⟩⟩
 ·have:=h.mem.set (i:=0) (b:=b) (o:=.cells cur t) (o':=.cells vs.toArray t) rfl (w':=w.setRow b vs.toArray) ?_ (qb3 hg) (fun c hc=>qp hc)
  ·exact this
  ·exact Below.trans h.mem.ext ⟨rfl,rfl,rfl,by simp [World.setRow],fun k hk=>qp (by have:=(h.mem.own _ mh).1;simp only at this;omega)⟩
 ·refine h.own.kept (row:=some b) ⟨rfl,rfl,rfl,by simp [World.setRow],fun k _ hk=>qp (fun e=>hk (by simp [e]))⟩ (Or.inr hb)
 ·rcases List.mem_cons.1 hy with rfl|hy
  ·exact hb
  ·exact h.apart y (zmc hy)
end V
theorem qv6 (k:Nat) (t:TM) (w:World):Gv Tryz.prog 135 [ii k,qt t] w fun v w'=>v=.bool (canB k t)∧Ext w w':=by
 refine ze Tryz.func135 Tryz.ntmps135 ?_;refine znm (Mem.nil w) fun b w1 hm=>zw ?_
 (repeat' (first|refine zp ?_|refine zC (fun _=>zw ?_) (fun _=>zw ?_)|refine LoadV.mem (i:=0) Oa rfl rfl (zw ?_)))
 ·exact ⟨congrArg Value.bool (by rw [canB,if_pos Oo];simp [*]),hm.ext⟩
 ·exact ⟨congrArg Value.bool (by rw [canB,if_pos Oo];simp [*]),hm.ext⟩
 ·exact ⟨congrArg Value.bool (by rw [canB,if_neg Oo,if_pos Oo]),hm.ext⟩
 ·exact ⟨congrArg Value.bool (by rw [canB,if_neg Oo,if_neg Oo,if_pos Oo,Bool.eq_iff_iff];simp;omega),hm.ext⟩
 ·exact ⟨congrArg Value.bool (by rw [canB,if_neg Oo,if_neg Oo,if_pos Oo,Bool.eq_iff_iff];simp;omega),hm.ext⟩
 ·exact ⟨congrArg Value.bool (by rw [canB,if_neg Oo,if_neg Oo,if_pos Oo,Bool.eq_iff_iff];simp;omega),hm.ext⟩
 ·exact ⟨congrArg Value.bool (by rw [canB,if_neg Oo,if_neg Oo,if_neg Oo];simp [*]),hm.ext⟩
 ·exact ⟨congrArg Value.bool (by rw [canB,if_neg Oo,if_neg Oo,if_neg Oo];simp [*]),hm.ext⟩
 ·refine zl hm 0 ?_;refine zv ?_;refine RunV.eqTerm (a:=t) (b:=⟨0,⟨#[]⟩,⟨#[]⟩,⟨#[]⟩⟩) (.inl rfl) ?_;have hc:canB k t=(qwm t||decide (t.kind=1)||decide (t.kind=2)):=by rw [canB,if_neg Oo,if_neg Oo,if_neg Oo]
  have hz:qaj t ⟨0,⟨#[]⟩,⟨#[]⟩,⟨#[]⟩⟩=qwm t:=rfl;rw [hz];refine zu ?_;exact ⟨congrArg Value.bool (by rw [hc];simp [*,eqOp]),hm.ext⟩
structure Q4 where
 s:TM
 p:TM
 o:TM
 g:TM
def Q4.at (q:Q4):Nat→TM
 | 0=>q.s
 | 1=>q.p
 | 2=>q.o
 | _=>q.g
def qd (q:Q4):List Value:=encT q.s++(encT q.p++(encT q.o++encT q.g))
def qq (q:Q4):Value:=.agg #[ii q.s.kind,.string q.s.text,.string q.s.type,.string q.s.lang,ii q.p.kind,.string q.p.text,.string q.p.type,.string q.p.lang,
 ii q.o.kind,.string q.o.text,.string q.o.type,.string q.o.lang,ii q.g.kind,.string q.g.text,.string q.g.type,.string q.g.lang]
noncomputable def qE (k:Nat) (t:TM):Nat:=if canB k t=false then 70 else if k=3∧t.kind=0 then 0 else qa5 t
noncomputable def qbx (q:Q4):Nat:=qcf ((List.range 4).map fun k=>qE k (q.at k))
theorem qv {q:Q4} {w:World} {b off:Nat} (h:CellsAt w b off (qd q)) (k:Nat) (hk:k<4):CellsAt w b (off+k*4) (encT (q.at k)):=by
 intro j v hv;have hj:j<4:=(List.getElem?_eq_some_iff.1 hv).1;have:=h (k*4+j) v (by
  obtain rfl|rfl|rfl|rfl:k=0∨k=1∨k=2∨k=3:=by omega
  all_goals
   obtain rfl|rfl|rfl|rfl:j=0∨j=1∨j=2∨j=3:=by omega
   all_goals exact hv)
 rwa [← Nat.add_assoc] at this
theorem qab (t:TM):∀ v∈encT t,v.oneCell'=true:=by
 intro v hv;simp only [encT,List.mem_cons,List.not_mem_nil,or_false] at hv
 rcases hv with rfl|rfl|rfl|rfl<;>rfl
def qak (q:Q4):Prop:=∀ k,TermOk (q.at k)
theorem qjj (q:Q4) (k:Nat) (hk:k<4):((qq q).cells.toList.drop (k*4)).take 4=encT (q.at k):=by
 obtain rfl|rfl|rfl|rfl:k=0∨k=1∨k=2∨k=3:=by omega
 all_goals rfl
theorem qfq (q:Q4) (hq:qak q) (w:World) (hM:MaxLenAt w) (hT:CellsAt w 4 0 qa6):Gv Tryz.prog 66 [qq q] w fun v w'=>v=ii (qbx q)∧Ext w w':=by
 refine ze Tryz.func66 Tryz.ntmps66 ?_;refine znm (Mem.nil w) ?_;intro b w1 hm;have hc:CellsAt w1 b 0 (qd q):=CellsAt.mem hm mh;refine LoadA.cells (qv hc 0 Oo) rfl ?_;refine LoadA.cells (qv hc 1 Oo) rfl ?_;refine LoadA.cells (qv hc 2 Oo) rfl ?_;refine LoadA.cells (qv hc 3 Oo) rfl (zw ?_);have hlen:((List.range 4).map fun k=>qE k (q.at k)).length=4:=by simp
 have hget:∀ j (hj:j<((List.range 4).map fun k=>qE k (q.at k)).length),((List.range 4).map fun k=>qE k (q.at k))[j]=qE j (q.at j):=fun j hj=>by simp
 refine qm (fun k:Nat=>[(1,pp b),(2,ii 0),(14,qq q),(15,ii k)])
  (fun k w'=>k≤4∧(∀ j,j<k→qE j (q.at j)=0)∧Mem w w' [(b,.cells (qd q).toArray 47)]) (fun k=>4-k) 0 ⟨rfl,rfl,rfl,rfl,trivial⟩ ⟨by omega,fun j h0=>by omega,hm⟩ ?_
 rintro k w2 ρ' ⟨k1,k2,hm2⟩;(conv=>whnf);refine zC (fun _=>zu ?_) (fun _=>zu ?_)
 ·have hk:k<4:=by omega
  have hbad:∀ e,qE k (q.at k)=e→e≠0→qbx q=e:=fun e he hne=>by
   rw [qbx,qi1 (k:=k) (by rw [hlen];exact hk) (fun j hj hjk=>by rw [hget];exact k2 j hjk) (by rw [hget,he];exact hne),hget,he]
  have hgood:qE k (q.at k)=0→∀ j,j<k+1→qE j (q.at j)=0:=fun he j hj=>by
   by_cases e:j=k
   ·subst e;exact he
   ·exact k2 j Oo
  refine Wit.eq (y:=encT (q.at k)) (qjj q k hk) ?_;refine znm hm2 ?_;intro r w3 hm3;refine StoreA.all (vs:=encT (q.at k)) hm3 (i:=0) rfl rfl (qab _) ?_;intro w4 hm4;have hm4:Mem w w4 [(r,.cells (encT (q.at k)).toArray 45),_]:=hm4;refine zl hm4 0 ?_;refine zcv (qv6 k (q.at k) w4) ?_;rintro v w5 ⟨rfl,he5⟩;have hm5:=hm4.call he5;cases hcan:canB k (q.at k)
  ·refine zu ?_;exact ⟨by rw [hbad 70 (by rw [qE,if_pos hcan]) Od];rfl,hm5.ext⟩
  ·(conv=>whnf)
   (repeat' (first|refine zp ?_|refine zC (fun _=>zw ?_) (fun _=>zw ?_)|refine LoadV.mem (i:=0) Oa rfl rfl (zw ?_)))
   ·refine ⟨?_,hm5.ext⟩;have e0:qE k (q.at k)=0:=by rw [qE,if_neg (by rw [hcan];simp),if_pos ⟨by omega,by omega⟩]
    have h4:=hgood e0;rw [qbx,qdk fun j hj=>by rw [hget];exact h4 j (by rw [hlen] at hj;omega)];rfl
   all_goals
    have hE:qE k (q.at k)=qa5 (q.at k):=by rw [qE,if_neg (by rw [hcan];simp),if_neg Oo]
    refine zl hm5 0 ?_;refine zcv (qgd (q.at k) (hq k) w5 (hM.ext hm5.ext) (hT.ext hm5.ext)) ?_;rintro v w6 ⟨rfl,he6⟩;rw [← hE];conv=>whnf
    (repeat' (first|refine zp ?_|refine zC (fun _=>zw ?_) (fun _=>zw ?_)))
    ·exact ⟨by rw [hbad _ rfl Oo],hm5.ext.trans he6⟩
    ·exact ⟨k+1,⟨rfl,rfl,rfl,rfl,trivial⟩,⟨by omega,hgood Oo,(hm5.call he6).sub (List.sublist_cons_self ..)⟩,by omega⟩
 ·refine ⟨?_,hm2.ext⟩;rw [qbx,qdk fun j hj=>by rw [hget];exact k2 j (by rw [hlen] at hj;omega)];rfl
theorem qie (l:LB) (i:Nat) (h:i<l.length):leN (l.take (i+1))=leN (l.take i)+l[i].toNat*2 ^ (8*i):=by
 rw [List.take_succ_eq_append_getElem h,qy1,List.length_take,Nat.min_eq_left Oo];have:(256:Nat) ^ i=2 ^ (8*i):=by rw [Nat.pow_mul]
 rw [this,leN,leN,Nat.mul_zero,Nat.add_zero,Nat.mul_comm]
theorem qbh (l:LB) (i:Nat) (h:i≤l.length):leN (l.take i)<2 ^ (8*i):=by
 have:=qy3 (l.take i);rw [List.length_take,Nat.min_eq_left h] at this;have e:(256:Nat) ^ i=2 ^ (8*i):=by rw [Nat.pow_mul]
 rwa [e] at this
theorem pow8 (i:Nat) (hi:i≤4):2 ^ (8*i)≤4294967296:=by
 have:2 ^ (8*i)≤2 ^ 32:=Nat.pow_le_pow_right Od Oo
 simpa using this
theorem V.SlAt.upd {w w':World} {b:Nat} {cs:Array Value} {t:TypeId} {fr:Nat × Nat} {o:Obj} {A:oA} {l:LB} (h:SlAt encB 1 w A l) (hb:w.heap[b]?=some (.cells cs t fr)) (hno:∀ v∈cs.toList,∀ n,v≠.int .u8 n) (hu:Upd w w' b o):SlAt encB 1 w' A l:=by
 refine ⟨fun hne=>?_⟩;obtain ⟨g,off,e,hc⟩:=h.at_ hne;refine ⟨g,off,e,fun j x hx k v hv=>?_⟩;have h1:=hc j x hx k v hv;have hv8:v=.int .u8 x.toNat:=by
  cases k with
  | zero=>simpa [encB] using hv.symm
  | succ k=>simp [encB] at hv
 have hlt:g<w.heap.size:=by
  rcases Nat.lt_or_ge g w.heap.size with h|h
  ·exact h
  ·unfold World.cell? at h1;rw [Array.getElem?_eq_none h] at h1;cases h1
 have hgb:g≠b:=by
  rintro rfl;rw [qa hb] at h1;exact hno v (by rw [← Array.getElem?_toList] at h1;exact zmg h1) _ hv8
 unfold World.cell? at h1 ⊢;rw [hu.block g hlt hgb];exact h1
theorem q7p {v:Value} {a e:Nat} (hv:∃ A n c,v=.slice A n c):∀ u∈(#[v,ii a,ii e]:Array Value).toList,∀ n,u≠.int .u8 n:=by
 obtain ⟨A,m,c,rfl⟩:=hv;intro u hu n;simp at hu
 rcases hu with rfl|rfl|rfl<;>simp
theorem qgx (b:Nat) (v:Value) (a:Nat) (l:LB) (w:World) (hb:w.heap[b]?=some (curO 367 v a 0)) (hv:BS w v l) (ha:a+4≤l.length) (hl:l.length≤140737488355328) :
  Gv Tryz.prog 160 [pp b,ii 4] w fun r w'=>r=.int .u64 (leN ((l.drop a).take 4))∧Upd w w' b (curO 367 v (a+4) 0):=by
 have htk:=fun w=>q4z b v a 4 l w
 refine ze Tryz.func160 Tryz.ntmps160 ?_;refine zcv (qkw w) ?_;rintro r w1 ⟨rfl,rfl⟩;(conv=>whnf);refine zcv (htk w1 hb hv ha hl (fun _ _ _=>trivial)) ?_;rintro r w2 ⟨⟨A',c',rfl,hS⟩,hu⟩;have hv':=hv;obtain ⟨A,c,hvv,_,_⟩:=hv';have hS2:SlAt encB 1 w2 A' ((l.drop a).take 4):=V.SlAt.upd hS hb (q7p ⟨_,_,_,hvv⟩) hu;obtain ⟨m,hm⟩:∃ m,m=(l.drop a).take 4:=⟨_,rfl⟩
 have hml:m.length=4:=by rw [hm];simp;omega
 rw [← hm] at hS2 ⊢;refine qm (fun i:Nat=>[(11,.slice A' 4 c'),(12,ii 4),(13,ii i),(5,.int .u64 (leN (m.take i)))]) (fun i w3=>i≤4∧w3=w2) (fun i=>4-i) 0 ⟨rfl,rfl,rfl,rfl,trivial⟩ ⟨by omega,rfl⟩ ?_;rintro i w3 ρ' ⟨i1,rfl⟩;(conv=>whnf);refine zC (fun _=>zw ?_) (fun _=>zw ?_)
 ·have hi:i<m.length:=by omega
  have hb4:=q9 m[i];have hp:=pow8 (i+1) Oo;have hlt:=qbh m (i+1) Oo;rw [qie m i hi] at hlt;refine ElemV.bs hS2 hml i rfl Oo ?_;intro eb eo hc;refine LoadV.of hc (zu ?_);have e64:2 ^ 64=18446744073709551616:=by decide
  refine V.Wit.shlN (8*i) Oo (by show 8*i<64;omega) (qio Oo) ?_;refine Wit.eq (qbq (8*i) (qio Oo) (qbh m i Oo)) (zu ?_);exact ⟨i+1,⟨rfl,rfl,rfl,by rw [qie m i hi];rfl,trivial⟩,⟨by omega,rfl⟩,by omega⟩
 ·rw [List.take_of_length_le Oo];exact ⟨rfl,hu⟩
def nibs:List Nat:=[0x00000000,0x1db71064,0x3b6e20c8,0x26d930ac,0x76dc4190,0x6b6b51f4,0x4db26158,0x5005713c,0xedb88320,0xf00f9344,0xd6d6a3e8,0xcb61b38c,0x9b64c2b0,0x86d3d2d4,0xa00ae278,0xbdbdf21c]
def nib (i:Nat):BitVec 32:=BitVec.ofNat 32 (nibs.getD i 0)
def half (r:BitVec 32):BitVec 32:=nib (r.toNat%16) ^^^ (r >>> 4)
def thr (r:BitVec 32) (b:UInt8):BitVec 32:=half (half (r ^^^ BitVec.ofNat 32 b.toNat))
def updL (r:BitVec 32) (l:LB):BitVec 32:=l.foldl thr r
def crcL (l:LB):BitVec 32 := ~~~ (updL (~~~ 0#32) l)
theorem q1m (r:BitVec 32) (l:LB) (i:Nat) (h:i<l.length):updL r (l.take (i+1))=thr (updL r (l.take i)) l[i]:=by
 unfold updL;rw [List.take_succ_eq_append_getElem h,List.foldl_append];rfl
def qg7:List Value:=nibs.map fun n:Nat=>Value.int .u32 (n:Int)
theorem bx (x y:BitVec 32):qc2 .xor .u32 (x.toNat:Int) (y.toNat:Int)=((x ^^^ y).toNat:Int):=by
 have h1:BitVec.ofInt 32 (x.toNat:Int)=x:=by apply BitVec.eq_of_toNat_eq;rw [BitVec.toNat_ofInt];have:=x.isLt;omega
 have h2:BitVec.ofInt 32 (y.toNat:Int)=y:=by apply BitVec.eq_of_toNat_eq;rw [BitVec.toNat_ofInt];have:=y.isLt;omega
 show IntKind.u32.wrap ((BitVec.ofInt 32 (x.toNat:Int) ^^^ BitVec.ofInt 32 (y.toNat:Int)).toNat:Int)=_;rw [h1,h2];have:=(x ^^^ y).isLt;exact InR.wrap (k:=.u32) ⟨by omega,by omega⟩
theorem bnot (x:BitVec 32):qc2 .xor .u32 (if IntKind.u32.signed then -1 else IntKind.u32.max) (x.toNat:Int)=((~~~x).toNat:Int):=by
 have h:(if IntKind.u32.signed then -1 else IntKind.u32.max)=((BitVec.allOnes 32).toNat:Int):=by decide
 rw [h,bx,BitVec.allOnes_xor]
theorem q8r (b:UInt8):(BitVec.ofNat 32 b.toNat).toNat=b.toNat:=by
 have:=q9 b;rw [BitVec.toNat_ofNat,Nat.mod_eq_of_lt Oo]
theorem q8k (i:Nat) (hi:i<16):(nib i).toNat=nibs.getD i 0:=by
 have:∀ i,i<16→(nib i).toNat=nibs.getD i 0:=by decide
 exact this i hi
theorem qsu (x:BitVec 32):qc2 .xor .u32 ((nibs.getD (x.toNat%16) 0:Nat):Int) ((x.toNat/16:Nat):Int)=((half x).toNat:Int):=by
 have h2:(x >>> 4).toNat=x.toNat/16:=by rw [BitVec.toNat_ushiftRight,Nat.shiftRight_eq_div_pow]
 rw [← q8k _ (Nat.mod_lt _ Od),← h2,bx];rfl
theorem qtb {w:World} (hT:CellsAt w 3 0 qg7) (i:Nat) (hi:i<16):w.cell? ⟨3,0+i*1,none⟩=some (.int .u32 ((nibs.getD i 0:Nat):Int)):=by
 have h:i<nibs.length:=hi;have:=hT i (.int .u32 ((nibs.getD i 0:Nat):Int)) (by rw [qg7,List.getElem?_map,zge h,List.getD_eq_getElem?_getD,zge h];rfl)
 rwa [Nat.mul_one]
theorem q6v (x:BitVec 32):x.toNat<4294967296:=x.isLt
theorem qre (r:BitVec 32) (b:UInt8) (w:World) (hT:CellsAt w 3 0 qg7) :
  Gv Tryz.prog 270 [.int .u32 r.toNat,.int .u8 b.toNat] w fun v w'=>v=.int .u32 (thr r b).toNat∧w'=w:=by
 have hb:=q9 b;obtain ⟨x,hx⟩:∃ x,x=r ^^^ BitVec.ofNat 32 b.toNat:=⟨_,rfl⟩
 have h0:=q6v x;have h1:=q6v (half x);have ht:thr r b=half (half x):=by rw [hx];rfl
 rw [ht];refine ze Tryz.func270 Tryz.ntmps270 ?_;refine zv ?_;refine Wit.eq (y:=(x.toNat:Int)) (by rw [hx,← bx,q8r]) ?_;refine Wit.eq (qbb (k:=.u32) (m:=x.toNat) 4 rfl ⟨by omega,by omega⟩ ⟨by omega,by omega⟩) ?_;refine IdxV.nat (Nat.mod_lt _ Od) ?_;refine LoadV.of (qtb hT _ (Nat.mod_lt _ Od)) ?_;refine Wit.shr (m:=16) (r:=((x.toNat/16:Nat):Int)) ⟨by decide,by decide⟩ Od Oo ?_;refine Wit.eq (qsu x) ?_;refine Wit.eq (qbb (k:=.u32) (m:=(half x).toNat) 4 rfl ⟨by omega,by omega⟩ ⟨by omega,by omega⟩) ?_;refine IdxV.nat (Nat.mod_lt _ Od) ?_;refine LoadV.of (qtb hT _ (Nat.mod_lt _ Od)) ?_;refine Wit.shr (m:=16) (r:=(((half x).toNat/16:Nat):Int)) ⟨by decide,by decide⟩ Od Oo ?_;refine Wit.eq (qsu (half x)) (zw ?_);exact ⟨rfl,rfl⟩
theorem qwi (l:LB) (A:oA) (n c:Nat) (w:World) (hS:SlAt encB 1 w A l) (hn:l.length=n) (hl:l.length≤140737488355328) (hT:CellsAt w 3 0 qg7) :
  Gv Tryz.prog 198 [.int .u32 0,.slice A n c] w fun v w'=>v=.int .u32 (crcL l).toNat∧w'=w:=by
 subst hn;refine ze Tryz.func198 Tryz.ntmps198 ?_;refine Wit.eq (bnot 0#32) ?_;refine qm (fun i:Nat=>[(10,.slice A l.length c),(11,ii l.length),(12,ii i),(5,.int .u32 (updL (~~~ 0#32) (l.take i)).toNat)]) (fun i w1=>i≤l.length∧w1=w) (fun i=>l.length-i) 0 ⟨rfl,rfl,rfl,rfl,trivial⟩ ⟨by omega,rfl⟩ ?_;rintro i w1 ρ' ⟨h1,rfl⟩;(conv=>whnf);refine zC (fun _=>zw ?_) (fun _=>zw ?_)
 ·have hi:i<l.length:=by omega
  refine ElemV.bs hS rfl i rfl hi ?_;intro eb eo hc;refine LoadV.of hc (zw ?_);refine zcv (qre _ l[i] w1 hT) ?_;rintro v w1 ⟨rfl,rfl⟩;refine zu ?_;exact ⟨i+1,⟨rfl,rfl,rfl,by rw [q1m _ _ _ hi];rfl,trivial⟩,⟨by omega,rfl⟩,by omega⟩
 ·refine Wit.eq (bnot _) ?_;rw [List.take_of_length_le Oo];exact ⟨rfl,rfl⟩
theorem q09 (l:LB) (A:oA) (n c:Nat) (w:World) (hS:SlAt encB 1 w A l) (hn:l.length=n) (hl:l.length≤140737488355328) (hT:CellsAt w 3 0 qg7) :
  Gv Tryz.prog 119 [.slice A n c] w fun v w'=>v=.int .u32 (crcL l).toNat∧w'=w:=by
 refine ze Tryz.func119 Tryz.ntmps119 ?_;refine zcv (qwi l A n c w hS hn hl hT) ?_;rintro v w1 ⟨rfl,rfl⟩;(conv=>whnf);exact ⟨rfl,rfl⟩
end Go.Proofs.YtccmcfpmknpccaaGreatDoor
