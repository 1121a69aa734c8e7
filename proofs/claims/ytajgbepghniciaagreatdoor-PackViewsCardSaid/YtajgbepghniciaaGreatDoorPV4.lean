/- Lemmas and contracts of functions on the way to the law's card (part 4 of 13). -/
import Derived.Test.YtajgbepghniciaaGreatDoorPV3
import Derived.Shelf.Strings.Builder1
import Derived.Shelf.Strings.Builder2
import Derived.Shelf.Strings.OnBuilder
import Derived.Shelf.Small.Utf8
import Derived.Shelf.Small.Strs
import Derived.Shelf.Strings.BuilderF
import Derived.Shelf.Strings.BuilderK
import Derived.Shelf.Strconv.Itoa0
import Derived.Shelf.Strings.Search1
import Derived.Shelf.Strings.Search2
import Derived.Shelf.Strings.Search3
import Derived.Shelf.Strings.Cut
import Derived.Shelf.Strings.Count
import Derived.Shelf.LaysM
import Derived.Shelf.Strings.Shaped
import Derived.Shelf.Sort.Plain
import Derived.Shelf.Strings.Split
import Derived.Shelf.Strings.Runes
import Derived.Shelf.Unicode.DecodeSlow
import Derived.Shelf.Slices.Turned
import Derived.Ground.Names2Prog
import Derived.Shelf.Slices.Clone
import Derived.Shelf.Slices.CompactS
import Derived.Shelf.Slices.Cells
import Derived.Shelf.Slices.In.SortNone
import Derived.Lib.SplitLaws
namespace Go.Proofs.YtajgbepghniciaaGreatDoor
open Go.RowKit V
set_option maxRecDepth 100000
structure RS (w0 w:World) (O:List Nat) (rb:Nat) (rest:List ByteArray) (A:Option Addr) (c:Nat) (V E:Value) (L:List (Nat × Obj)) (R:List (List Value × Value)):Prop where
 mem:Mem w0 w L
 rd:∃ a0 a1 a2 a3 a6,(rb,rdC A rest.length c (tagC a0 a1 a2 a3 V E a6))∈L
 rows:RowsP 9 O L R
 sl:SlAt Go.Proofs.YtajgbepghniciaaGreatDoor.V.encS 1 w0 A rest
 hc:rest.length≤c
 hO:rb∈O
 all:∀ g∈O,∃ o,(g,o)∈L
 small:∀ x∈rest,x.size≤1000000
 vs:(∃ A n c,V=.slice A n c)∧∃ A n c,E=.slice A n c
section
variable {w0 w w':World} {O:List Nat} {rb:Nat} {rest xs:List ByteArray} {x:ByteArray} {A A':Option Addr} {c c':Nat} {V E V' E':Value} {L L':List (Nat × Obj)} {R:List (List Value × Value)} {o':Obj}
theorem RS.call (h:RS w0 w O rb rest A c V E L R) (he:Ext w w'):RS w0 w' O rb rest A c V E L R:={ h with mem:=h.mem.call he }
theorem RS.step (h:RS w0 w O rb rest A c V E L R) (hr:RdM w0 w' L rb o' L') (ho:∃ a0 a1 a2 a3 a6,o'=rdC A' xs.length c' (tagC a0 a1 a2 a3 V' E' a6)) (hS:SlAt Go.Proofs.YtajgbepghniciaaGreatDoor.V.encS 1 w0 A' xs) (hc:xs.length≤c') (hsub:∀ y∈xs,y∈rest) (hvs:(∃ A n c,V'=.slice A n c)∧∃ A n c,E'=.slice A n c):RS w0 w' O rb xs A' c' V' E' L' R:=by
 obtain ⟨a0,a1,a2,a3,a6,rfl⟩:=ho;refine ⟨hr.mem,⟨a0,a1,a2,a3,a6,hr.rd⟩,h.rows.keep fun y hy hO=>hr.keep y hy fun e=>hO (e ▸ h.hO),hS,hc,h.hO,fun g hg=>?_,fun y hy=>h.small y (hsub y hy),hvs⟩
 by_cases e:g=rb
 ·subst e;exact ⟨_,hr.rd⟩
 ·obtain ⟨o,ho⟩:=h.all g hg;exact ⟨o,hr.keep _ ho e⟩
theorem RS.grow {R':List (List Value × Value)} (h:RS w0 w O rb rest A c V E L R) (hm:Mem w0 w' L') (hR:RowsP 9 O L' R') (hk:∀ y∈L,y.1∈O→y∈L'):RS w0 w' O rb rest A c V E L' R':=by
 obtain ⟨a0,a1,a2,a3,a6,hrd⟩:=h.rd;refine ⟨hm,⟨a0,a1,a2,a3,a6,hk _ hrd h.hO⟩,hR,h.sl,h.hc,h.hO,fun g hg=>?_,h.small,h.vs⟩;obtain ⟨o,ho⟩:=h.all g hg;exact ⟨o,hk _ ho hg⟩
theorem RS.new {nb:Nat} {o:Obj} (h:RS w0 w O rb rest A c V E L R) (hb:nb=w.heap.size) (hw:w'=w.alloc o):RS w0 w' O rb rest A c V E L R∧w'.heap[nb]?=some o:=by
 subst hb hw;exact ⟨h.call ((Ext.refl w).alloc o),heap_alloc_new w o⟩
end
theorem NewV.rs {w0 w:World} {O:List Nat} {rb:Nat} {rest:List ByteArray} {A:Option Addr} {c:Nat} {V E:Value} {L:List (Nat × Obj)} {R:List (List Value × Value)} {o:Obj} {K:Nat→World→Prop} (h:RS w0 w O rb rest A c V E L R) (hk:∀ b w',RS w0 w' O rb rest A c V E L R→w'.heap[b]?=some o→K b w'):NewV w o K:=
 ⟨fun b w' hb hw=>hk b w' (h.new hb hw).1 (h.new hb hw).2⟩
theorem qgx {w0 w:World} {O:List Nat} {rb g:Nat} {rest:List ByteArray} {A:Option Addr} {c:Nat} {V E:Value} {L:List (Nat × Obj)} {R:List (List Value × Value)} (p:ByteArray→Bool) (h:RS w0 w O rb rest A c V E L R)
  (hp:∀ x w1,x.size≤140737488355328→Gv Tryz.prog g [.string x] w1 fun v w2=>v=.bool (p x)∧Ext w1 w2) :
  Gv Tryz.prog 211 [.pointer (some ⟨rb,0,none⟩),.func (.func g) #[] #[]] w fun v w'=>v=.bool (seeB p rest)∧RS w0 w' O rb rest A c V E L R:=by
 obtain ⟨a0,a1,a2,a3,a6,hrd⟩:=h.rd;refine (qht rb g [] p rest A c _ w (h.mem.get hrd) (h.sl.ext h.mem.ext) (fun x ys w3 e _=>hp x w3 (by have:=h.small x (by rw [e];exact List.mem_cons_self ..);omega))).mono ?_;rintro v w' ⟨rfl,he⟩;exact ⟨rfl,h.call he⟩
theorem qif {w0 w:World} {O:List Nat} {rb:Nat} {x:ByteArray} {xs:List ByteArray} {A:Option Addr} {c:Nat} {V E:Value} {L:List (Nat × Obj)} {R:List (List Value × Value)} (h:RS w0 w O rb (x::xs) A c V E L R) :
  Gv Tryz.prog 215 [.pointer (some ⟨rb,0,none⟩)] w fun v w'=>v=.string x∧∃ A' c' L',RS w0 w' O rb xs A' c' V E L' R∧(∀ y∈L,y.1≠rb→y∈L'):=by
 obtain ⟨a0,a1,a2,a3,a6,hrd⟩:=h.rd;refine (qwp h.mem hrd h.sl h.hc).mono ?_;rintro v w' ⟨rfl,A',c',L',h1,h2,h3⟩;exact ⟨rfl,A',c',L',h.step h3 ⟨_,_,_,_,_,rfl⟩ h1 h2 (fun y hy=>List.mem_cons_of_mem _ hy) h.vs,h3.keep⟩
theorem strI:Tryz.prog.info? 9=some ((Tryz.prog.info? 9).get (by kernel_rfl)):=(Option.some_get _).symm
theorem strZ:((Tryz.prog.info? 9).get (by kernel_rfl)).zero=some (.string ⟨#[]⟩):=by kernel_rfl
theorem RowsP.nils (e:TypeId) (O:List Nat) (L:List (Nat × Obj)) (R:List (List Value × Value)) (h:∀ p∈R,p=([],.slice none 0 0)):RowsP e O L R:=by
 refine ⟨fun k p hp=>?_,fun k p g hp hg=>?_,fun k k' p p' g hp hp' _ hg=>?_⟩
 ·rw [h p (List.mem_of_getElem? hp)];exact RowB.nil e L
 ·rw [h p (List.mem_of_getElem? hp)] at hg;cases hg
 ·rw [h p (List.mem_of_getElem? hp)] at hg;cases hg
theorem RowsP.none_ {e:TypeId} {O:List Nat} {L:List (Nat × Obj)}:RowsP e O L []:=RowsP.nils e O L [] (by simp)
theorem qrm {rest r1 r2:List ByteArray} (e1:qcy rest=r1) (e2:qb8 r1=r2):qgt rest=(qf6 [] r2).bind fun r=>extN r.2.length r.1 r.2:=by rw [qgt,e1,e2]
theorem qwt (rb:Nat) (O:List Nat) (rest:List ByteArray) (A:Option Addr) (c:Nat) (w0 w:World) (L:List (Nat × Obj)) (h:RS w0 w O rb rest A c (.slice none 0 0) (.slice none 0 0) L []) (hn:rest.length≤1000000) :
  Gv Tryz.prog 214 [.pointer (some ⟨rb,0,none⟩)] w fun v w'=>(qgt rest=none∧v=.bool false∧Ext w0 w')∨
   (∃ rest',qgt rest=some rest'∧v=.bool true∧∃ A' c' V E L',RS w0 w' O rb rest' A' c' V E L' []∧rest'.length≤rest.length∧∀ y∈L,y.1∈O→y.1≠rb→y∈L'):=by
 refine zE Tryz.func214 Tryz.ntmps214 ?_;(conv=>whnf);refine CallV.of (qgx (fun x=>qv x 4 4 true) h (fun x w1 hx=>qud x hx w1)) ?_;rintro v w1 ⟨rfl,h1⟩;(conv=>whnf);cases hq:seeB (fun x=>qv x 4 4 true) rest
 case' false=>
  refine zU ?_;(conv=>whnf);obtain ⟨r1,A1,c1,L1,e1,g1,k1,l1⟩:∃ r1 A1 c1 L1,qcy rest=r1∧RS w0 w1 O rb r1 A1 c1 (.slice none 0 0) (.slice none 0 0) L1 []∧(∀ y∈L,y.1∈O→y.1≠rb→y∈L1)∧r1.length≤rest.length:=by
   refine ⟨rest,A,c,L,?_,h1,fun y hy _ _=>hy,Nat.le_refl _⟩;cases rest with
   | nil=>rfl
   | cons x xs=>rw [qcy,if_neg (by have:qv x 4 4 true=false:=hq;rw [this];simp)]
  clear hq h1
 case' true=>
  obtain ⟨x,xs,rfl⟩:∃ x xs,rest=x::xs:=by
   cases rest with
   | nil=>cases hq
   | cons x xs=>exact ⟨x,xs,rfl⟩
  have hq:qv x 4 4 true=true:=hq;refine zT ?_;(conv=>whnf);refine CallV.of (qif h1) ?_;rintro v w2 ⟨rfl,A2,c2,L2,h2,k2⟩;(conv=>whnf);obtain ⟨a0,a1,a2,a3,a6,hrd⟩:=id h2.rd;refine qd6 h2.mem hrd 2 rfl (show 2<7 by decide) rfl ?_;intro w1 L3 hr3;obtain ⟨r1,A1,c1,L1,e1,g1,k1,l1⟩:∃ r1 A1 c1 L1,qcy (x::xs)=r1∧RS w0 w1 O rb r1 A1 c1 (.slice none 0 0) (.slice none 0 0) L1 []∧(∀ y∈L,y.1∈O→y.1≠rb→y∈L1)∧r1.length≤(x::xs).length:=
   ⟨xs,A2,c2,L3,by rw [qcy,if_pos hq],h2.step hr3 ⟨_,_,_,_,_,rfl⟩ h2.sl h2.hc (fun y hy=>hy) h2.vs,fun y hy _ hne=>hr3.keep y (k2 y hy hne) hne,by simp⟩
  clear hq h1 h2 hr3 hrd k2;conv=>whnf
 all_goals
  refine CallV.of (qgx regB g1 (fun x w1 hx=>qrl x hx w1)) ?_;rintro v w1 ⟨rfl,g1⟩;(conv=>whnf);cases hq:seeB regB r1
  case' false=>
   (repeat' ((with_reducible refine zU ?_);(conv=>whnf)))
   obtain ⟨r2,A2,c2,L2,e2,g2,k2,l2⟩:∃ r2 A2 c2 L2,qb8 r1=r2∧RS w0 w1 O rb r2 A2 c2 (.slice none 0 0) (.slice none 0 0) L2 []∧(∀ y∈L1,y.1∈O→y.1≠rb→y∈L2)∧r2.length≤r1.length:=by
    refine ⟨r1,A1,c1,L1,?_,g1,fun y hy _ _=>hy,Nat.le_refl _⟩;cases r1 with
    | nil=>rfl
    | cons x xs=>rw [qb8,if_neg (by have:regB x=false:=hq;rw [this];simp)]
   clear hq g1
  case' true=>
   obtain ⟨x,xs,rfl⟩:∃ x xs,r1=x::xs:=by
    cases r1 with
    | nil=>cases hq
    | cons x xs=>exact ⟨x,xs,rfl⟩
   have hq:regB x=true:=hq
   (repeat' ((with_reducible refine zT ?_);(conv=>whnf)))
   refine CallV.of (qif g1) ?_;rintro v w2 ⟨rfl,A3,c3,L3,h3,k3⟩;(conv=>whnf);obtain ⟨a0,a1,a2,a3,a6,hrd⟩:=id h3.rd;refine qd6 h3.mem hrd 3 rfl (show 3<7 by decide) rfl ?_;intro w1 L4 hr3;obtain ⟨r2,A2,c2,L2,e2,g2,k2,l2⟩:∃ r2 A2 c2 L2,qb8 (x::xs)=r2∧RS w0 w1 O rb r2 A2 c2 (.slice none 0 0) (.slice none 0 0) L2 []∧(∀ y∈L1,y.1∈O→y.1≠rb→y∈L2)∧r2.length≤(x::xs).length:=
    ⟨xs,A3,c3,L4,by rw [qb8,if_pos hq],h3.step hr3 ⟨_,_,_,_,_,rfl⟩ h3.sl h3.hc (fun y hy=>hy) h3.vs,fun y hy _ hne=>hr3.keep y (k3 y hy hne) hne,by simp⟩
   clear hq g1 h3 hr3 hrd k3;conv=>whnf
 all_goals
  have eR:=qrm e1 e2;rw [eR];refine qm (fun x:List ByteArray × List ByteArray × Option Addr × Nat=>[(0,.pointer (some ⟨rb,0,none⟩)),(3,.slice x.2.2.1 x.1.length x.2.2.2)])
   (fun x w3=>∃ A c V E L3 vs,RS w0 w3 O rb x.2.1 A c V E L3 [(x.1.map Value.string,.slice x.2.2.1 x.1.length x.2.2.2),(vs,V),([],E)]∧vs.length≤x.1.length∧(∀ y∈L2,y.1∈O→y.1≠rb→y∈L3)∧qf6 [] r2=qf6 x.1 x.2.1∧x.1.length+x.2.1.length≤r2.length)
   (fun x=>x.2.1.length) ([],r2,none,0) ⟨rfl,rfl,trivial⟩ ⟨A2,c2,_,_,L2,[],{ g2 with rows:=RowsP.nils _ _ _ _ (by simp) },by simp,fun y hy _ _=>hy,rfl,by simp⟩ ?_
  rintro ⟨seen,r3,sA,sc⟩ w3 ρ' ⟨A3,c3,V3,E3,L3,vs,h3,hvs,k3,e3,l3⟩;simp only at h3 hvs e3 l3;dsimp only;(conv=>whnf);refine CallV.of (qgx varB h3 (fun x w1 hx=>qol x hx w1)) ?_;rintro v w4 ⟨rfl,h4⟩;(conv=>whnf);cases hq:seeB varB r3
  case' true=>
   obtain ⟨x,xs,rfl⟩:∃ x xs,r3=x::xs:=by
    cases r3 with
    | nil=>cases hq
    | cons x xs=>exact ⟨x,xs,rfl⟩
   have hq:varB x=true:=hq;have hx:=h4.small x (List.mem_cons_self ..);simp only [List.length_cons] at l3;rw [qf6,if_pos hq] at e3
   (repeat' ((with_reducible refine zT ?_);(conv=>whnf)))
   refine CallV.of (qif h4) ?_;rintro v w5 ⟨rfl,A5,c5,L5,h5,k5⟩;(conv=>whnf);refine CallV.of (qdz x (by omega) w5) ?_;rintro v w6 ⟨rfl,he6⟩;have h6:=h5.call he6;(conv=>whnf);refine CallV.of (qfd seen sA sc (lowS x) w6 ((h6.rows.row 0 _ rfl).sl h6.mem) (by omega)) ?_;rintro v w7 ⟨⟨b,rfl,hb⟩,rfl⟩;(conv=>whnf);cases b
   ·rw [if_neg (by intro h;have:=hb.2 h;cases this)] at e3
    (repeat' ((with_reducible refine zU ?_);(conv=>whnf)))
    refine CallV.of (qdz x (by omega) w7) ?_;rintro v w8 ⟨rfl,he8⟩;have h8:=h6.call he8;(conv=>whnf);refine NewV.rs h8 ?_;intro nb w9 h9 hnb;(conv=>whnf);refine h9.rows.app 0 rfl Tryz.underlying37 strI strZ (by kernel_rfl) rfl (by decide +kernel) h9.mem h9.all (by simp) rfl (by rw [qd hnb];rfl) (by omega) ?_;intro sA2 sc2 w10 L10 m10 R10 k10;have h10:=h9.grow m10 R10 k10;(conv=>whnf);obtain ⟨VA,vc,rfl⟩:∃ VA vc,V3=.slice VA vs.length vc:=(h10.rows.row 1 _ rfl).slice;obtain ⟨a0,a1,a2,a3,a6,hrd⟩:=id h10.rd;refine qpo h10.mem hrd 4 rfl rfl ?_;(conv=>whnf);refine NewV.rs h10 ?_;intro nb2 w11 h11 hnb2;(conv=>whnf);refine h11.rows.app 1 rfl Tryz.underlying37 strI strZ (by kernel_rfl) rfl (by decide +kernel) h11.mem h11.all rfl rfl (by rw [qd hnb2];rfl) (by omega) ?_;intro VA2 vc2 w12 L12 m12 R12 k12;have h12:=h11.grow m12 R12 k12;obtain ⟨a0,a1,a2,a3,a6,hrd⟩:=id h12.rd;(conv=>whnf);refine qd6 h12.mem hrd 4 rfl (show 4<7 by decide) rfl ?_;intro w13 L13 hr13;have h13:=h12.step (V':=.slice VA2 (vs.length+1) vc2) (E':=E3) hr13 ⟨_,_,_,_,_,rfl⟩ h12.sl h12.hc (fun y hy=>hy) ⟨⟨_,_,_,rfl⟩,h12.vs.2⟩;(conv=>whnf);refine ⟨(seen++[lowS x],xs,sA2,sc2),⟨rfl,by simp only [List.length_append];rfl,trivial⟩,⟨A5,c5,.slice VA2 (vs.length+1) vc2,E3,L13,vs++[.string x],?_,by simp;omega,fun y hy hO hne=>hr13.keep y (k12 y (k10 y (k5 y (k3 y hy hO hne) hne) hO) hO) hne,e3,by simp;omega⟩,by simp⟩;simp only [List.map_append,List.length_append,List.map_cons,List.map_nil,List.length_singleton];exact h13
   ·rw [if_pos (hb.1 rfl)] at e3
    (repeat' ((with_reducible refine zT ?_);(conv=>whnf)))
    exact .inl ⟨by rw [e3];rfl,rfl,h6.mem.ext⟩
 all_goals
  have eV:qf6 seen r3=some (seen,r3):=by
   cases r3 with
   | nil=>rfl
   | cons x xs=>rw [qf6,if_neg (by have:varB x=false:=hq;rw [this];simp)]
  have eB:(qf6 [] r2).bind (fun r=>extN r.2.length r.1 r.2)=extN r3.length seen r3:=by rw [e3,eV];rfl
  rw [eB];clear hq h3 eV eB
  (repeat' ((with_reducible refine zU ?_);(conv=>whnf)))
  refine qm (fun x:Nat × List ByteArray × List ByteArray × Option Addr × Nat=>[(0,.pointer (some ⟨rb,0,none⟩)),(3,.slice x.2.2.2.1 x.2.1.length x.2.2.2.2)])
   (fun x w5=>∃ A c V E L5 vs es,RS w0 w5 O rb x.2.2.1 A c V E L5 [(x.2.1.map Value.string,.slice x.2.2.2.1 x.2.1.length x.2.2.2.2),(vs,V),(es,E)]∧es.length≤x.2.1.length∧(∀ y∈L3,y.1∈O→y.1≠rb→y∈L5)∧extN r3.length seen r3=extN x.1 x.2.1 x.2.2.1∧x.2.2.1.length≤x.1∧x.2.1.length+x.2.2.1.length≤r2.length)
   (fun x=>x.2.2.1.length) (r3.length,seen,r3,sA,sc) ⟨rfl,rfl,trivial⟩ ⟨A3,c3,V3,E3,L3,vs,[],h4,by simp,fun y hy _ _=>hy,rfl,Nat.le_refl _,l3⟩ ?_
  rintro ⟨k,sn,r5,sB,sd⟩ w5 ρ'' ⟨A5,c5,V5,E5,L5,vs5,es,h5,hes,k5,e5,lk,l5⟩;simp only at h5 hes e5 lk l5;dsimp only;(conv=>whnf);refine CallV.of (qgx extS h5 (fun x w1 hx=>que x hx w1)) ?_;rintro v w6 ⟨rfl,h6⟩;(conv=>whnf);cases hq:seeB extS r5
  ·have eX:extN k sn r5=some r5:=by
    cases r5 with
    | nil=>cases k<;>rfl
    | cons x xs=>
     cases k with
     | zero=>simp at lk
     | succ k=>rw [extN,if_neg (by have:extS x=false:=hq;rw [this];simp)]
   (repeat' ((with_reducible refine zU ?_);(conv=>whnf)))
   refine .inr ⟨r5,by rw [e5,eX],rfl,A5,c5,V5,E5,L5,{ h6 with rows:=RowsP.none_ },by omega,fun y hy hO hne=>k5 y (k3 y (k2 y (k1 y hy hO hne) hO hne) hO hne) hO hne⟩
  ·obtain ⟨x,xs,rfl⟩:∃ x xs,r5=x::xs:=by
    cases r5 with
    | nil=>cases hq
    | cons x xs=>exact ⟨x,xs,rfl⟩
   have hq:extS x=true:=hq;have hx1:x.size=1:=by simp [extS,qv] at hq;omega
   obtain ⟨k,rfl⟩:∃ k',k=k'+1:=⟨k-1,by simp at lk;omega⟩
   have hx:=h6.small x (List.mem_cons_self ..);simp only [List.length_cons] at l5 lk;rw [extN,if_pos hq] at e5
   (repeat' ((with_reducible refine zT ?_);(conv=>whnf)))
   refine CallV.of (qif h6) ?_;rintro v w7 ⟨rfl,A7,c7,L7,h7,k7⟩;(conv=>whnf);obtain ⟨a0,a1,a2,a3,a6,hrd⟩:=id h7.rd;refine CallV.of (qpp (least:=2) h7.mem hrd h7.sl h7.hc h7.small (by omega)) ?_;rintro v w8 ⟨pre,rest',sT,hP,hse,rfl,A8,c8,L8,hS8,hc8,hr8⟩;obtain ⟨t1,t2⟩:=hP.take hse;have t1:xs.takeWhile extQ=pre:=t1;have t2:xs.dropWhile extQ=rest':=t2;have hlen:xs.length=pre.length+rest'.length:=by rw [hP.eq];simp
   have h8:=h7.step hr8 ⟨_,_,_,_,_,rfl⟩ hS8 hc8 (fun y hy=>by rw [hP.eq];exact List.mem_append_right _ hy) h7.vs;rw [t1,t2] at e5;have hsT:=hP.size;conv=>whnf
   by_cases hp:pre=[]
   ·rw [if_pos (.inl hp)] at e5;rw [decide_eq_false (by simp [hp])]
    (repeat' (first|((with_reducible refine zT ?_);(conv=>whnf))|((with_reducible refine zU ?_);(conv=>whnf))|((with_reducible refine zP ?_))))
    exact .inl ⟨e5,rfl,h8.mem.ext⟩
   ·rw [decide_eq_true (by simpa using hp)]
    (repeat' (first|((with_reducible refine zT ?_);(conv=>whnf))|((with_reducible refine zU ?_);(conv=>whnf))|((with_reducible refine zP ?_))))
    refine CallV.of (qdz x (by omega) w8) ?_;rintro v w9 ⟨rfl,he9⟩;have h9:=h8.call he9;conv=>whnf
    (repeat' ((with_reducible refine zU ?_);(conv=>whnf)))
    refine CallV.of (qfd sn sB sd (lowS x) w9 ((h9.rows.row 0 _ rfl).sl h9.mem) (by omega)) ?_;rintro v w10 ⟨⟨b,rfl,hb⟩,rfl⟩;cases b
    ·rw [if_neg (by rintro (h|h);exact hp h;have:=hb.2 h;cases this)] at e5;conv=>whnf
     (repeat' ((with_reducible refine zU ?_);(conv=>whnf)))
     refine CallV.of (qdz x (by omega) w10) ?_;rintro v w11 ⟨rfl,he11⟩;have h11:=h9.call he11;(conv=>whnf);refine NewV.rs h11 ?_;intro nb w12 h12 hnb;(conv=>whnf);refine h12.rows.app 0 rfl Tryz.underlying37 strI strZ (by kernel_rfl) rfl (by decide +kernel) h12.mem h12.all (by simp) rfl (by rw [qd hnb];rfl) (by omega) ?_;intro sA2 sc2 w13 L13 m13 R13 k13;have h13:=h12.grow m13 R13 k13;(conv=>whnf);obtain ⟨EA,ec,rfl⟩:∃ EA ec,E5=.slice EA es.length ec:=(h13.rows.row 2 _ rfl).slice;obtain ⟨a0,a1,a2,a3,a6,hrd⟩:=id h13.rd;refine qpo h13.mem hrd 5 rfl rfl ?_;(conv=>whnf);refine ⟨by show x.size+sT.size≤_;omega,?_⟩;(conv=>whnf);refine NewV.rs h13 ?_;intro nb2 w14 h14 hnb2;(conv=>whnf);refine h14.rows.app 2 rfl Tryz.underlying37 strI strZ (by kernel_rfl) rfl (by decide +kernel) h14.mem h14.all rfl rfl (by rw [qd hnb2];rfl) (by omega) ?_;intro EA2 ec2 w15 L15 m15 R15 k15;have h15:=h14.grow m15 R15 k15;obtain ⟨a0,a1,a2,a3,a6,hrd⟩:=id h15.rd;(conv=>whnf);refine qd6 h15.mem hrd 5 rfl (show 5<7 by decide) rfl ?_;intro w16 L16 hr16;have h16:=h15.step (V':=V5) (E':=.slice EA2 (es.length+1) ec2) hr16 ⟨_,_,_,_,_,rfl⟩ h15.sl h15.hc (fun y hy=>hy) ⟨h15.vs.1,⟨_,_,_,rfl⟩⟩;(conv=>whnf);refine ⟨(k,sn++[lowS x],rest',sA2,sc2),⟨rfl,by simp only [List.length_append];rfl,trivial⟩,⟨A8,c8,V5,.slice EA2 (es.length+1) ec2,L16,vs5,es++[.string (x++sT)],?_,by simp;omega,fun y hy hO hne=>hr16.keep y (k15 y (k13 y (hr8.keep y (k7 y (k5 y hy hO hne) hne) hne) hO) hO) hne,e5,by simp only;omega,by simp;omega⟩,by simp only [List.length_cons];omega⟩;simp only [List.map_append,List.length_append,List.map_cons,List.map_nil,List.length_singleton];exact h16
    ·rw [if_pos (.inr (hb.1 rfl))] at e5;conv=>whnf
     (repeat' (first|((with_reducible refine zT ?_);(conv=>whnf))|((with_reducible refine zU ?_);(conv=>whnf))))
     exact .inl ⟨e5,rfl,h9.mem.ext⟩
end Go.Proofs.YtajgbepghniciaaGreatDoor
namespace Go.Proofs
open Go.Shelf
def Tryz.lays129_ren:Go.Shelf.Ren:=⟨fun|129=>141|n=>n,fun|53=>175|3=>3|4=>4|46=>168|5=>5|9=>9|n=>n,fun|n=>n⟩
theorem Tryz.lays129:Go.Proofs.Lays.n129 Tryz.prog Tryz.lays129_ren:={
 mixed:=by kernel_rfl
 f129:=Tryz.func141.trans (congrArg some (by kernel_rfl))
 t3:=Tryz.underlying3
 a3:=Tryz.isAgg3
 z3:=Tryz.sizeOf3
 v3:=Tryz.zeroValue3
 t4:=Tryz.underlying4
 a4:=Tryz.isAgg4
 z4:=Tryz.sizeOf4
 v4:=Tryz.zeroValue4
 t5:=Tryz.underlying5
 a5:=Tryz.isAgg5
 z5:=Tryz.sizeOf5
 v5:=Tryz.zeroValue5
 t9:=Tryz.underlying9
 a9:=Tryz.isAgg9
 z9:=Tryz.sizeOf9
 v9:=Tryz.zeroValue9
 t46:=Tryz.underlying168
 a46:=Tryz.isAgg168
 z46:=Tryz.sizeOf168
 v46:=Tryz.zeroValue168
 t53:=Tryz.underlying175
 a53:=Tryz.isAgg175
 z53:=Tryz.sizeOf175
 v53:=Tryz.zeroValue175 }
theorem Tryz.bits_Len64 (x:Int) (w:World) (h0:0≤x) (h1:x≤18446744073709551615) :
  Calls Tryz.prog 141 #[.int .u64 x] w fun e w'=>e=.returned (.int .i64 (Lib.bitLen x.toNat))∧w'=w:=Any.bits_Len64 Tryz.lays129 x w h0 h1
open Go.RowKit Go.Lib in
theorem Tryz.strings_Count_any (s sep:ByteArray) (m:Int) (w:World) (hs:s.size<4294967281) (hm:w.cell? ⟨4,0,none⟩=some (.int .i64 m)) (h1:1≤sep.size) :
  Calls Tryz.prog 304 #[.string s,.string sep] w fun e w'=>e=.returned (.int .i64 (Lib.countB s sep))∧w'=w:=Any.strings_Count_any Tryz.lays138 s sep m w hs hm h1
def Tryz.lays221_ren:Go.Shelf.Ren:=⟨fun|221=>256|268=>303|138=>304|143=>305|195=>317|197=>312|218=>318|219=>311|260=>320|217=>313|225=>316|224=>315|267=>319|266=>321|314=>322|n=>n,fun|9=>9|3=>3|31=>37|4=>4|0=>0|105=>318|21=>21|5=>5|46=>168|119=>419|139=>422|138=>421|146=>417|51=>113|n=>n,fun|1=>4|3=>5|4=>6|n=>n⟩
def Tryz.lays146_ren:Go.Shelf.Ren:=⟨fun|146=>210|221=>256|268=>303|138=>304|143=>305|195=>317|197=>312|218=>318|219=>311|260=>320|217=>313|225=>316|224=>315|267=>319|266=>321|314=>322|n=>n,fun|9=>9|31=>37|3=>3|4=>4|0=>0|105=>318|21=>21|5=>5|46=>168|119=>419|139=>422|138=>421|146=>417|51=>113|n=>n,fun|1=>4|3=>5|4=>6|n=>n⟩
theorem Tryz.lays146:Go.Proofs.Lays.n146 Tryz.prog Tryz.lays146_ren:={
 mixed:=by kernel_rfl
 f138:=Tryz.func304.trans (congrArg some (by kernel_rfl))
 f143:=Tryz.func305.trans (congrArg some (by kernel_rfl))
 f146:=Tryz.func210.trans (congrArg some (by kernel_rfl))
 f195:=Tryz.func317.trans (congrArg some (by kernel_rfl))
 f197:=Tryz.func312.trans (congrArg some (by kernel_rfl))
 f217:=Tryz.func313.trans (congrArg some (by kernel_rfl))
 f218:=Tryz.func318.trans (congrArg some (by kernel_rfl))
 f219:=Tryz.func311.trans (congrArg some (by kernel_rfl))
 f221:=Tryz.func256.trans (congrArg some (by kernel_rfl))
 f224:=Tryz.func315.trans (congrArg some (by kernel_rfl))
 f225:=Tryz.func316.trans (congrArg some (by kernel_rfl))
 f260:=Tryz.func320.trans (congrArg some (by kernel_rfl))
 f266:=Tryz.func321.trans (congrArg some (by kernel_rfl))
 f267:=Tryz.func319.trans (congrArg some (by kernel_rfl))
 f268:=Tryz.func303.trans (congrArg some (by kernel_rfl))
 f314:=Tryz.func322.trans (congrArg some (by kernel_rfl))
 t0:=Tryz.underlying0
 a0:=Tryz.isAgg0
 z0:=Tryz.sizeOf0
 v0:=Tryz.zeroValue0
 t3:=Tryz.underlying3
 a3:=Tryz.isAgg3
 z3:=Tryz.sizeOf3
 v3:=Tryz.zeroValue3
 t4:=Tryz.underlying4
 a4:=Tryz.isAgg4
 z4:=Tryz.sizeOf4
 v4:=Tryz.zeroValue4
 t5:=Tryz.underlying5
 a5:=Tryz.isAgg5
 z5:=Tryz.sizeOf5
 v5:=Tryz.zeroValue5
 t9:=Tryz.underlying9
 a9:=Tryz.isAgg9
 z9:=Tryz.sizeOf9
 v9:=Tryz.zeroValue9
 t21:=Tryz.underlying21
 a21:=Tryz.isAgg21
 z21:=Tryz.sizeOf21
 v21:=Tryz.zeroValue21
 t31:=Tryz.underlying37
 a31:=Tryz.isAgg37
 z31:=Tryz.sizeOf37
 v31:=Tryz.zeroValue37
 t46:=Tryz.underlying168
 a46:=Tryz.isAgg168
 z46:=Tryz.sizeOf168
 v46:=Tryz.zeroValue168
 t51:=Tryz.underlying113
 a51:=Tryz.isAgg113
 z51:=Tryz.sizeOf113
 v51:=Tryz.zeroValue113
 t105:=Tryz.underlying318
 a105:=Tryz.isAgg318
 z105:=Tryz.sizeOf318
 v105:=Tryz.zeroValue318
 t119:=Tryz.underlying419
 a119:=Tryz.isAgg419
 z119:=Tryz.sizeOf419
 t138:=Tryz.underlying421
 a138:=Tryz.isAgg421
 z138:=Tryz.sizeOf421
 v138:=Tryz.zeroValue421
 t139:=Tryz.underlying422
 a139:=Tryz.isAgg422
 z139:=Tryz.sizeOf422
 v139:=Tryz.zeroValue422
 t146:=Tryz.underlying417
 a146:=Tryz.isAgg417
 z146:=Tryz.sizeOf417
 v146:=Tryz.zeroValue417
 g1:=by kernel_rfl
 g3:=by kernel_rfl
 g4:=by kernel_rfl }
open Go.RowKit Go.Lib in
theorem Tryz.strings_Split (s sep:ByteArray) (m:Int) (w:World) (hs:s.size<4294967281) (hm:w.cell? ⟨4,0,none⟩=some (.int .i64 m)) (h1:1≤sep.size) :
  Calls Tryz.prog 210 #[.string s,.string sep] w fun e w'=>
   e=.returned (.slice (some ⟨w.heap.size,0,none⟩) (Lib.countB s sep+1) (Lib.countB s sep+1))∧w'=w.alloc (.cells ((Lib.splitB sep 0 (Lib.countB s sep) s).map Value.string).toArray 9):=Any.strings_Split Tryz.lays146 (by kernel_rfl) s sep m w hs hm h1
end Go.Proofs
namespace Go.Proofs.YtajgbepghniciaaGreatDoor
open Go.RowKit
def qba:List UInt8→List (List UInt8)
 | []=>[[]]
 | c::t=>if c=45 then []::qba t else match qba t with
  | []=>[[c]]
  | p::ps=>(c::p)::ps
theorem qi0:∀ l:List UInt8,Go.Lib.splitK [45] 0 (Go.Lib.count l [45]) l=qba l
 | []=>by
  have:Go.Lib.count [] [45]=0:=by decide
  rw [this];rfl
 | c::t=>by
  have ih:=qi0 t
  by_cases h:c=45
  ·subst h;rw [Go.Lib.count_cons_eq,Nat.add_comm 1,qba,if_pos rfl,← ih,Go.Lib.splitK];have hi:Go.Lib.index (45::t) [45]=0:=by
    rw [Go.Lib.index,if_pos (by simp [List.isPrefixOf])]
   rw [hi];rfl
  ·rw [Go.Lib.count_cons_ne c 45 t h,qba,if_neg h,← ih];have hi:Go.Lib.index (c::t) [45]=if Go.Lib.index t [45]==-1 then -1 else Go.Lib.index t [45]+1:=by
    rw [Go.Lib.index,if_neg (by simp [List.isPrefixOf];exact fun e=>h e.symm)]
   cases Go.Lib.count t [45] with
   | zero=>rfl
   | succ k=>
    rw [Go.Lib.splitK,Go.Lib.splitK,hi]
    by_cases hx:Go.Lib.index t [45]=-1
    ·simp [hx]
    ·have hge:=Go.Lib.index_ge t [45];have e1:(Go.Lib.index t [45]==-1)=false:=by simpa using hx
     have e2:((Go.Lib.index t [45]+1)==-1)=false:=by
      rw [beq_eq_false_iff_ne];omega
     have e3:(Go.Lib.index t [45]+1).toNat=(Go.Lib.index t [45]).toNat+1:=by omega
     simp only [e1,e2,e3,Bool.false_eq_true,if_false,Nat.add_zero,List.length_singleton,List.take_succ_cons,List.drop_succ_cons]
theorem qjt:∀ l:List UInt8,(qba l).length≤l.length+1∧∀ x∈qba l,x.length≤l.length
 | []=>by simp [qba]
 | c::t=>by
  obtain ⟨h1,h2⟩:=qjt t;unfold qba
  split
  ·refine ⟨by simp;omega,fun x hx=>?_⟩
   rcases List.mem_cons.1 hx with rfl|hx
   ·simp
   ·have:=h2 x hx;simp;omega
  ·cases hp:qba t with
   | nil=>simp
   | cons p ps=>
    rw [hp] at h1 h2;refine ⟨by simpa using Nat.le_trans h1 (Nat.le_succ _),fun x hx=>?_⟩
    rcases List.mem_cons.1 hx with rfl|hx
    ·have:=h2 p (List.mem_cons_self ..);simp;omega
    ·have:=h2 x (List.mem_cons_of_mem _ hx);simp;omega
open Go.RowKit V
set_option maxRecDepth 100000
def dash:ByteArray:=⟨#[45]⟩
def qaz (s:ByteArray):List ByteArray:=Go.Lib.splitB dash 0 (Go.Lib.countB s dash) s
theorem qju (s:ByteArray):(qaz s).length=Go.Lib.countB s dash+1:=Go.Lib.splitB_all dash (by decide) 0 _ s rfl
noncomputable def tagR (l:List ByteArray):Option (List ByteArray):=if seeB qdr l=true then some l else (qdb l).bind qgt
def qhf (x:ByteArray):Bool:=qv x 1 8 false
def qkk (l:List ByteArray):Prop:=if seeB qdr l=true then (l.tail≠[]∧l.tail.all qhf=true) else l=[]
def tagP (l:List ByteArray):Prop:=∃ l1,tagR l=some l1∧qkk l1
open Classical in
noncomputable def tagE (l:List ByteArray):Nat:=if tagP l then 0 else 61
theorem qi4 {l:List ByteArray} (h:tagP l):tagE l=0:=by unfold tagE;rw [if_pos h]
theorem qcm {l:List ByteArray} (h:¬ tagP l):tagE l=61:=by unfold tagE;rw [if_neg h]
def MaxLenAt (w:World):Prop:=∃ m:Int,w.cell? ⟨4,0,none⟩=some (.int .i64 m)
theorem MaxLenAt.ext {w w':World} (h:MaxLenAt w) (he:Ext w w'):MaxLenAt w':=⟨h.choose,he.cell h.choose_spec⟩
theorem qw0 {w w':World} {l:List ByteArray} {t:TypeId} (hw:w'=w.alloc (.cells (l.map Value.string).toArray t)):SlAt V.encS 1 w' (some ⟨w.heap.size,0,none⟩) l:=by
 subst hw;refine ⟨fun _=>⟨w.heap.size,0,rfl,fun j x hx k v hv=>?_⟩⟩;cases k with
 | succ k=>simp [V.encS] at hv
 | zero=>
  simp only [V.encS,List.getElem?_cons_zero,Option.some.injEq] at hv;subst hv;rw [qd (heap_alloc_new w _)];simp [hx]
theorem qur (s:ByteArray) (hs:s.size≤1000000) (w:World) (hM:MaxLenAt w) :
  Gv Tryz.prog 210 [.string s,.string dash] w fun v w'=>∃ b,v=.slice (some ⟨b,0,none⟩) (qaz s).length (qaz s).length∧SlAt V.encS 1 w' (some ⟨b,0,none⟩) (qaz s)∧Ext w w':=by
 obtain ⟨m,hm⟩:=hM;refine qg4 (by kernel_rfl) ((Tryz.strings_Split s dash m w (by omega) hm (by decide)).mono ?_);rintro e w' ⟨rfl,hw⟩;exact ⟨_,rfl,w.heap.size,by rw [qju],qw0 hw,by rw [hw];exact (Ext.refl w).alloc _⟩
theorem qc7:∀ v∈[Value.string ⟨#[]⟩,.string ⟨#[]⟩,.string ⟨#[]⟩,.string ⟨#[]⟩,.slice none 0 0,.slice none 0 0,.string ⟨#[]⟩],v.oneCell'=true:=by
 intro v hv;simp at hv
 rcases hv with rfl|rfl|rfl<;>rfl
theorem qly:∀ (k:Nat) (l:List ByteArray),(qdq k l).length≤l.length∧∀ x∈qdq k l,x∈l
 | 0,l=>⟨Nat.le_refl _,fun x hx=>hx⟩
 | k+1,[]=>⟨Nat.le_refl _,fun x hx=>hx⟩
 | k+1,y::ys=>by
  by_cases hm:qv y 3 3 true=true
  ·rw [qdq,if_pos hm];obtain ⟨h1,h2⟩:=qly k ys;exact ⟨by simp;omega,fun x hx=>List.mem_cons_of_mem _ (h2 x hx)⟩
  ·rw [qdq,if_neg hm];exact ⟨Nat.le_refl _,fun x hx=>hx⟩
theorem qjq {l r:List ByteArray} (h:qdb l=some r):r.length≤l.length∧∀ x∈r,x∈l:=by
 cases l with
 | nil=>cases h
 | cons y ys=>
  by_cases hm:qv y 2 8 true=true
  ·rw [qdb,if_pos hm] at h;have h:=Option.some.inj h;subst h
   split
   ·exact ⟨by simp,fun x hx=>List.mem_cons_of_mem _ hx⟩
   ·obtain ⟨h1,h2⟩:=qly 3 ys;exact ⟨by simp;omega,fun x hx=>List.mem_cons_of_mem _ (h2 x hx)⟩
  ·rw [qdb,if_neg hm] at h;cases h
theorem qtm {l r:List ByteArray} (h:qdb l=some r):∀ x∈r,x∈l:=(qjq h).2
theorem qia {l r:List ByteArray} (h:qdb l=some r):r.length≤l.length:=(qjq h).1
theorem qpn {w0 w:World} {L:List (Nat × Obj)} {rb n c off size:Nat} {A:Option Addr} {t:List Value} {K:List Value→Prop} (hm:Mem w0 w L) (hi:(rb,rdC A n c t)∈L) (ho:off=1) (hs:t.length=size) (hk:K t):LoadA w rb off size K:=by
 subst ho;refine ⟨t,hs,fun i hi'=>?_,hk⟩;have:=hm.get hi;rw [rdC] at this;rw [qd this,List.getElem?_toArray,Nat.add_comm 1 i,List.getElem?_cons_succ]
theorem tag7 {V E:Value} (h:(∃ A n c,V=.slice A n c)∧∃ A n c,E=.slice A n c) (a0 a1 a2 a3 a6:ByteArray):∀ v∈tagC a0 a1 a2 a3 V E a6,v.oneCell'=true:=by
 obtain ⟨⟨_,_,_,rfl⟩,⟨_,_,_,rfl⟩⟩:=h;intro v hv;simp [tagC] at hv
 rcases hv with rfl|rfl|rfl|rfl|rfl|rfl|rfl<;>rfl
theorem qij (s:ByteArray):(qaz s).map (·.data.toList)=qba s.data.toList:=by
 rw [qaz,Go.Lib.splitB_data,← qi0];rfl
theorem qjv (s:ByteArray):(∀ x∈qaz s,x.size≤s.size)∧(qaz s).length≤s.size+1:=by
 obtain ⟨h1,h2⟩:=qjt s.data.toList;rw [← qij] at h1 h2;refine ⟨fun x hx=>?_,by simpa using h1⟩;have:=h2 _ (List.mem_map.2 ⟨x,hx,rfl⟩)
 simpa using this
def TagV (l:List ByteArray) (v:Value):Prop:=∃ c0 c1 c2 c3 c4 c5 c6,(∀ u∈[c0,c1,c2,c3,c4,c5,c6],u.oneCell'=true)∧v=.tuple #[.agg #[c0,c1,c2,c3,c4,c5,c6],.int .i64 (tagE l)]
theorem qzm (s:ByteArray) (hs:s.size≤65536) (w:World) (hM:MaxLenAt w) :
  Gv Tryz.prog 148 [.string s] w fun v w'=>TagV (qaz s) v∧Ext w w':=by
 obtain ⟨p1,p2⟩:=qjv s;obtain ⟨l,hl⟩:∃ l,l=qaz s:=⟨_,rfl⟩
 rw [← hl] at p1 p2;refine zE Tryz.func148 Tryz.ntmps148 ?_;(conv=>whnf);refine NewV.mem (Mem.nil w) ?_;intro rt w1 hm1;(conv=>whnf);refine CallV.of (qur s (by omega) w1 (hM.ext hm1.ext)) ?_;rintro v w2 ⟨pb,rfl,hS,he2⟩;rw [← hl] at hS ⊢;have hm2:=hm1.call he2;(conv=>whnf);refine NewV.mem (Mem.nil w2) ?_;intro rb w3 hm3;have h0:RS w2 w3 [rb] rb l (some ⟨pb,0,none⟩) l.length (.slice none 0 0) (.slice none 0 0) [(rb,rdC (some ⟨pb,0,none⟩) l.length l.length (tagC ⟨#[]⟩ ⟨#[]⟩ ⟨#[]⟩ ⟨#[]⟩ (.slice none 0 0) (.slice none 0 0) ⟨#[]⟩))] []:=
  ⟨hm3,⟨_,_,_,_,_,List.mem_cons_self ..⟩,RowsP.none_,hS,Nat.le_refl _,List.mem_cons_self ..,fun g hg=>by obtain rfl:=List.mem_singleton.1 hg;exact ⟨_,List.mem_cons_self ..⟩,fun x hx=>by have:=p1 x hx;omega,⟨⟨_,_,_,rfl⟩,⟨_,_,_,rfl⟩⟩⟩
 (conv=>whnf);refine CallV.of (qgx qdr h0 (fun x w1 _=>by
  refine (qe4 x w1).mono ?_;rintro v w' ⟨rfl,rfl⟩;exact ⟨rfl,Ext.refl _⟩)) ?_
 rintro v w6 ⟨rfl,h4⟩;(conv=>whnf);cases hq:seeB qdr l
 case' true=>
  refine zP ?_;refine zT ?_;(conv=>whnf);(iterate 6 (refine zU ?_;(conv=>whnf)));obtain ⟨l1,A1,c1,V1,E1,L1,e1,g1,d1⟩:∃ l1 A1 c1 V1 E1 L1,tagR l=some l1∧RS w2 w6 [rb] rb l1 A1 c1 V1 E1 L1 []∧l1.length≤1000000:=⟨l,_,_,_,_,_,by rw [tagR,if_pos hq],h4,by omega⟩
  clear hq h4 h0
 case' false=>
  have eT:tagR l=(qdb l).bind qgt:=by rw [tagR,if_neg (by rw [hq];simp)]
  refine zP ?_;refine zU ?_;(conv=>whnf);refine zT ?_;(conv=>whnf);refine CallV.of (ql6 rb 0 l _ _ ⟨#[]⟩ ⟨#[]⟩ ⟨#[]⟩ ⟨#[]⟩ _ _ w2 w6 _ h4.mem rfl hS (Nat.le_refl _) h4.small) ?_;rintro v w5 (⟨e2,rfl,hx5⟩|⟨l2,e2,rfl,A2,c2,b0,b1,hS2,hc2,hm5⟩)
  ·rw [e2] at eT;(conv=>whnf);(iterate 2 (refine zT ?_;(conv=>whnf)));refine zP ?_;refine zU ?_;(conv=>whnf);(iterate 6 (refine zT ?_;(conv=>whnf)));refine StoreA.mem (hm2.call hx5) (i:=0) rfl (Nat.le_refl 7) qc7 ?_;intro w9 hm9;(conv=>whnf);refine qa (R:=fun v w'=>TagV l v∧Ext w w') ?_;(conv=>whnf);refine zL hm9 0 ?_;(conv=>whnf);exact ⟨⟨_,_,_,_,_,_,_,qc7,by rw [qcm (fun h=>by obtain ⟨l1,h1,_⟩:=h;rw [eT] at h1;cases h1)];rfl⟩,hm9.ext⟩
  rw [e2] at eT;have h5:RS w2 w5 [rb] rb l2 A2 c2 (.slice none 0 0) (.slice none 0 0) [(rb,rdC A2 l2.length c2 (tagC b0 b1 ⟨#[]⟩ ⟨#[]⟩ (.slice none 0 0) (.slice none 0 0) ⟨#[]⟩))] []:=
   ⟨hm5,⟨_,_,_,_,_,List.mem_cons_self ..⟩,RowsP.none_,hS2,hc2,List.mem_cons_self ..,fun g hg=>by obtain rfl:=List.mem_singleton.1 hg;exact ⟨_,List.mem_cons_self ..⟩,fun x hx=>by have:=p1 x (qtm e2 x hx);omega,⟨⟨_,_,_,rfl⟩,⟨_,_,_,rfl⟩⟩⟩
  (conv=>whnf);(iterate 2 (refine zT ?_;(conv=>whnf)));refine zP ?_;refine zT ?_;(conv=>whnf);refine zU ?_;(conv=>whnf);refine CallV.of (qwt rb [rb] l2 A2 c2 w2 w5 _ h5 (by have:=qia e2;omega)) ?_;rintro v w6 (⟨e3,rfl,hx6⟩|⟨l3,e3,rfl,A3,c3,V3,E3,L3,h6,hl3,_⟩)
  ·have eT:tagR l=none:=by rw [eT];exact e3
   (conv=>whnf);(iterate 2 (refine zU ?_;(conv=>whnf);refine zT ?_;(conv=>whnf)));refine zP ?_;refine zU ?_;(conv=>whnf);refine StoreA.mem (hm2.call hx6) (i:=0) rfl (Nat.le_refl 7) qc7 ?_;intro w9 hm9;(conv=>whnf);refine qa (R:=fun v w'=>TagV l v∧Ext w w') ?_;(conv=>whnf);refine zL hm9 0 ?_;(conv=>whnf);exact ⟨⟨_,_,_,_,_,_,_,qc7,by rw [qcm (fun h=>by obtain ⟨l1,h1,_⟩:=h;rw [eT] at h1;cases h1)];rfl⟩,hm9.ext⟩
  obtain ⟨l1,A1,c1,V1,E1,L1,e1,g1,d1⟩:∃ l1 A1 c1 V1 E1 L1,tagR l=some l1∧RS w2 w6 [rb] rb l1 A1 c1 V1 E1 L1 []∧l1.length≤1000000:=⟨l3,_,_,_,_,_,by rw [eT];exact e3,h6,by have:=qia e2;omega⟩
  clear hq h4 h0 eT e2 h5 e3 h6;(conv=>whnf);(iterate 2 (refine zU ?_;(conv=>whnf);refine zT ?_;(conv=>whnf)));refine zP ?_;refine zT ?_;conv=>whnf
 all_goals
  refine CallV.of (qgx qdr g1 (fun x w1 _=>by
   refine (qe4 x w1).mono ?_;rintro v w' ⟨rfl,rfl⟩;exact ⟨rfl,Ext.refl _⟩)) ?_
  rintro v w7 ⟨rfl,g2⟩;cases hq2:seeB qdr l1
  ·have hend:qkk l1↔l1=[]:=by rw [qkk,if_neg (by rw [hq2];simp)]
   (conv=>whnf)
   (repeat' ((with_reducible refine zU ?_);(conv=>whnf)))
   obtain ⟨a0,a1,a2,a3,a6,hrd⟩:=id g2.rd;refine LoadV.of (v:=.slice A1 l1.length c1) (by have:=g2.mem.get hrd;rw [rdC] at this;rw [qd this];rfl) ?_;conv=>whnf
   (repeat' ((with_reducible refine zC (fun _=>?_) (fun _=>?_))<;>first|(exfalso;omega)|(conv=>whnf)))
   ·skip
    refine StoreA.mem (hm2.call g2.mem.ext) (i:=0) rfl (Nat.le_refl 7) qc7 ?_;intro w9 hm9;(conv=>whnf);refine qa (R:=fun v w'=>TagV l v∧Ext w w') ?_;(conv=>whnf);refine zL hm9 0 ?_;(conv=>whnf);exact ⟨⟨_,_,_,_,_,_,_,qc7,by rw [qcm (fun h=>by obtain ⟨l2,h1,h2⟩:=h;rw [e1] at h1;cases h1;have e:=hend.1 h2;have:l1.length=0:=(by rw [e];rfl);omega)];rfl⟩,hm9.ext⟩
   ·skip
    obtain ⟨⟨VA,vn,vc,rfl⟩,⟨EA,en,ec,rfl⟩⟩:=id g2.vs;obtain ⟨z0,z1,z2,z3,z6,hrd⟩:=id g2.rd;refine qpn g2.mem hrd rfl rfl ?_;(conv=>whnf);refine StoreA.mem (hm2.call g2.mem.ext) (i:=0) rfl (Nat.le_refl 7) (tag7 g2.vs _ _ _ _ _) ?_;intro w9 hm9;(conv=>whnf);refine qa (R:=fun v w'=>TagV l v∧Ext w w') ?_;(conv=>whnf);refine zL hm9 0 ?_;(conv=>whnf);exact ⟨⟨_,_,_,_,_,_,_,tag7 ⟨⟨_,_,_,rfl⟩,⟨_,_,_,rfl⟩⟩ _ _ _ _ _,by rw [qi4 ⟨l1,e1,hend.2 (List.length_eq_zero_iff.1 (by omega))⟩];rfl⟩,hm9.ext⟩
  ·obtain ⟨x,xs,rfl⟩:∃ x xs,l1=x::xs:=by
    cases l1 with
    | nil=>cases hq2
    | cons x xs=>exact ⟨x,xs,rfl⟩
   have hend:qkk (x::xs)↔xs≠[]∧xs.all qhf=true:=by rw [qkk,if_pos hq2];rfl
   (conv=>whnf)
   (repeat' ((with_reducible refine zT ?_);(conv=>whnf)))
   refine CallV.of (qif g2) ?_;rintro v w8 ⟨rfl,A8,c8,L8,g8,_⟩;(conv=>whnf);obtain ⟨a0,a1,a2,a3,a6,hrd⟩:=id g8.rd;refine CallV.of (qpp (least:=1) g8.mem hrd g8.sl g8.hc g8.small (by simp at d1;omega)) ?_;rintro v w9 ⟨pre,rest',sT,hP,hse,rfl,A9,c9,L9,hS9,hc9,hr9⟩;have g9:=g8.step hr9 ⟨_,_,_,_,_,rfl⟩ hS9 hc9 (fun y hy=>by rw [hP.eq];exact List.mem_append_right _ hy) g8.vs;(conv=>whnf);have hall:xs≠[]∧xs.all qhf=true↔pre≠[]∧rest'=[]:=by
    have hPa:pre.all qhf=true:=hP.all;rw [hP.eq,List.all_append,hPa,Bool.true_and]
    constructor
    ·rintro ⟨n1,n2⟩;have hr:rest'=[]:=by
      cases rest' with
      | nil=>rfl
      | cons y ys=>
       have:qhf y=false:=hse;simp [this] at n2
     exact ⟨fun e=>n1 (by rw [e,hr];rfl),hr⟩
    ·rintro ⟨n1,rfl⟩;exact ⟨by simpa using n1,rfl⟩
   rw [hall] at hend;have hxx:=g2.small x (List.mem_cons_self ..);have hsT:=hP.size;have hpl:pre.length≤1000000:=by have:=congrArg List.length hP.eq;simp at this d1;omega
   by_cases hp:pre=[]
   ·rw [decide_eq_false (by simp [hp])];conv=>whnf
    (repeat' (first|((with_reducible refine zU ?_);(conv=>whnf))|((with_reducible refine zP ?_))))
    refine StoreA.mem (hm2.call g9.mem.ext) (i:=0) rfl (Nat.le_refl 7) qc7 ?_;intro w9 hm9;(conv=>whnf);refine qa (R:=fun v w'=>TagV l v∧Ext w w') ?_;(conv=>whnf);refine zL hm9 0 ?_;(conv=>whnf);exact ⟨⟨_,_,_,_,_,_,_,qc7,by rw [qcm (fun h=>by obtain ⟨l2,h1,h2⟩:=h;rw [e1] at h1;cases h1;exact (hend.1 h2).1 hp)];rfl⟩,hm9.ext⟩
   ·rw [decide_eq_true (by simpa using hp)];conv=>whnf
    (repeat' (first|((with_reducible refine zT ?_);(conv=>whnf))|((with_reducible refine zP ?_))))
    refine ⟨by omega,?_⟩;(conv=>whnf);obtain ⟨a0,a1,a2,a3,a6,hrd⟩:=id g9.rd;refine qd6 g9.mem hrd 6 rfl (show 6<7 by decide) rfl ?_;intro w10 L10 hr10;have g10:=g9.step hr10 ⟨_,_,_,_,_,rfl⟩ hS9 hc9 (fun y hy=>hy) g9.vs;obtain ⟨a0,a1,a2,a3,a6,hrd⟩:=id g10.rd;(conv=>whnf);refine LoadV.of (v:=.slice A9 rest'.length c9) (by have:=g10.mem.get hrd;rw [rdC] at this;rw [qd this];rfl) ?_;conv=>whnf
    (repeat' ((with_reducible refine zC (fun _=>?_) (fun _=>?_))<;>first|(exfalso;omega)|(conv=>whnf)))
    ·skip
     refine StoreA.mem (hm2.call g10.mem.ext) (i:=0) rfl (Nat.le_refl 7) qc7 ?_;intro w9 hm9;(conv=>whnf);refine qa (R:=fun v w'=>TagV l v∧Ext w w') ?_;(conv=>whnf);refine zL hm9 0 ?_;(conv=>whnf);exact ⟨⟨_,_,_,_,_,_,_,qc7,by rw [qcm (fun h=>by obtain ⟨l2,h1,h2⟩:=h;rw [e1] at h1;cases h1;have e:=(hend.1 h2).2;have:rest'.length=0:=(by rw [e];rfl);omega)];rfl⟩,hm9.ext⟩
    ·skip
     obtain ⟨⟨VA,vn,vc,rfl⟩,⟨EA,en,ec,rfl⟩⟩:=id g10.vs;obtain ⟨z0,z1,z2,z3,z6,hrd⟩:=id g10.rd;refine qpn g10.mem hrd rfl rfl ?_;(conv=>whnf);refine StoreA.mem (hm2.call g10.mem.ext) (i:=0) rfl (Nat.le_refl 7) (tag7 g10.vs _ _ _ _ _) ?_;intro w9 hm9;(conv=>whnf);refine qa (R:=fun v w'=>TagV l v∧Ext w w') ?_;(conv=>whnf);refine zL hm9 0 ?_;(conv=>whnf);exact ⟨⟨_,_,_,_,_,_,_,tag7 ⟨⟨_,_,_,rfl⟩,⟨_,_,_,rfl⟩⟩ _ _ _ _ _,by rw [qi4 ⟨_,e1,hend.2 ⟨hp,List.length_eq_zero_iff.1 (by omega)⟩⟩];rfl⟩,hm9.ext⟩
open Go.RowKit V
set_option maxRecDepth 100000
namespace V
theorem AppV.one {P:Program} {w0 w:World} {A:Option Addr} {c n nb:Nat} {xs:List Value} {L:List (Nat × Obj)} {t ty e:TypeId} {i:TypeInfo} {z x:Value} {K:Value→World→Prop}
  (ht:P.underlying t=some (.slice e)) (hi:P.info? e=some i) (hz:i.zero=some z) (hsize:i.size=1) (hzs:z.cells.size=1) (hby:i.bytes≤16)
  (h:Rw w0 w (.slice A n c) e 1 n xs ((nb,.cells #[x] e (0,0))::L)) (hx:x.oneCell'=true) (hn:n+1≤8000000000000)
  (hk:∀ A' c' w',Rw w0 w' (.slice A' (n+1) c') e 1 (n+1) (xs++[x]) L→K (.slice A' (n+1) c') w'):AppV P #[t,t] ty (.slice A n c) (.slice (some ⟨nb,0,none⟩) 1 1) w K:=by
 refine AppV.rw (news:=[x]) ht hi hz hsize hzs (by decide) h rfl (fun _=>⟨nb,0,rfl,fun k v hv=>?_⟩) (fun u hu=>by simp at hu;rw [hu];exact hx) ?_ (by omega) (fun A' c' w' h'=>hk A' c' w' h'.tail)
 ·rw [qd (h.mem.get (List.mem_cons_self ..)),Nat.zero_add]
  simpa using hv
 ·have:(n+1)*i.bytes≤8000000000000*16:=Nat.mul_le_mul hn hby;omega
theorem Rw.ints {w0 w:World} {A:Option Addr} {c:Nat} {e:TypeId} {zs:List Int} {L:List (Nat × Obj)} (h:Rw w0 w (.slice A zs.length c) e 1 zs.length (zs.map (Value.int .i64)) L):SlAt Go.Proofs.YtajgbepghniciaaGreatDoor.V.encI 1 w A zs:=by
 refine ⟨fun hne=>?_⟩;obtain ⟨g,rfl,_,_,_,hc⟩:=h.cells (List.length_pos_iff.2 hne);refine ⟨g,0,rfl,fun j x hx k v hv=>?_⟩;cases k with
 | succ k=>simp [Go.Proofs.YtajgbepghniciaaGreatDoor.V.encI] at hv
 | zero=>
  simp only [Go.Proofs.YtajgbepghniciaaGreatDoor.V.encI,List.getElem?_cons_zero,Option.some.injEq] at hv;subst hv;have:=hc j (.int .i64 x) (by rw [List.getElem?_map,hx];rfl)
  simpa using this
theorem oneI (l:List Int):∀ v∈l.map (Value.int .i64),v.oneCell'=true:=by
 intro v hv;obtain ⟨x,_,rfl⟩:=List.mem_map.1 hv;rfl
end V
def rP:List (Int × Int):=(65,90)::(97,122)::basesP
def rbI:List Int:=rP.flatMap fun x=>[x.1,x.2]
theorem q01:∀ i (h:i<rP.length),(rbI.map (Value.int .i64))[i*2]?=some (.int .i64 rP[i].1)∧(rbI.map (Value.int .i64))[i*2+1]?=some (.int .i64 rP[i].2):=by
 intro i h;have h:i<14:=h;obtain rfl|rfl|rfl|rfl|rfl|rfl|rfl|rfl|rfl|rfl|rfl|rfl|rfl|rfl:i=0∨i=1∨i=2∨i=3∨i=4∨i=5∨i=6∨i=7∨i=8∨i=9∨i=10∨i=11∨i=12∨i=13:=by omega
 all_goals exact ⟨rfl,rfl⟩
theorem qt6 (r:Int):rP.any (inP r)=qhe r:=by
 show (inP r (65,90)||(inP r (97,122)||basesP.any (inP r)))=qhe r;have:letN r=(inP r (65,90)||inP r (97,122)):=by
  rw [Bool.eq_iff_iff];simp [letN,inP];omega
 rw [qhe,this,Bool.or_assoc]
theorem V.buildV_arr {P:Program} {t e:TypeId} {n:Nat} {i:TypeInfo} {z:Value} {parts:List (Nat × Value)} {l:List Value} {K:Value→Prop} (hi:P.info? t=some i) (hz:i.zero=some z) (hu:P.underlying t=some (.array n e)) (hT:hasT P e=true)
  (hf:ql0 (fun k=>some (k*tsz P e,tsz P e)) z.cells.toList parts=some l) (hk:K (.agg l.toArray)):qjl P t parts K:=by
 unfold qjl;simp only [hi,hz,hu,hT,hf,cond_true,qak];exact hk
namespace V
section
variable {P:Program} {n:Nat} {ρ:Nat→Value} {w:World}
theorem qxx {a b:Code} {Q:Exit→(Nat→Value)→World→Prop} (h:qem P n a (seqQ (qem P n b Q) Q) ρ w):qem P n (.seq a b) Q ρ w:=h
theorem qnd {id:Nat} {ops:Array Oper} {Q:Exit→(Nat→Value)→World→Prop} (h:regV P n ops.toList (Q .normal) ops.toList ρ w):qem P n (.region id ops false) Q ρ w:=h
theorem q0r {ops:List Oper} {Q:(Nat→Value)→World→Prop} (h:Q ρ w):regV P n ops Q [] ρ w:=h
theorem qop {ops rest:List Oper} {o:Oper} {Q:(Nat→Value)→World→Prop} (hg:o.guard=none) (h:opV P o ρ w fun v w'=>putV n o.dst ρ v fun ρ'=>regV P n ops Q rest ρ' w'):regV P n ops Q (o::rest) ρ w:=by
 unfold regV;rw [hg];exact h
theorem qu8 {K:(Nat→Value)→World→Prop} {Q:Exit→(Nat→Value)→World→Prop} (h:K ρ w):seqQ K Q .normal ρ w:=h
theorem qxw {d:Nat} {v:Value} {K:(Nat→Value)→Prop} (hd:Nat.blt d n=true) (h:K (upd ρ d v)):putV n (some d) ρ v K:=by
 unfold putV;simp only [hd,cond_true];exact h
theorem qxd {o:Oper} {t:TypeId} {K:Value→World→Prop} (ho:o.op=.alloc t) (h:qot P t w K):opV P o ρ w K:=by
 unfold opV;rw [ho];exact h
theorem qxf {o:Oper} {t:TypeId} {x v:Operand} {K:Value→World→Prop} (ho:o.op=.store t x v) (h:qp1 P t (ev ρ x) (ev ρ v) w (execOp (ev ρ) o) K):opV P o ρ w K:=by
 unfold opV;rw [ho];exact h
theorem qxe {t:TypeId} {parts:Array (Nat × Operand)} {K:Value→World→Prop} {dst:Option Tmp} {ty:TypeId} {pos:String} {aft:Array Edge} {gd:Option (Nat × Bool)} (h:qjl P t (evp ρ parts.toList) fun v=>K v w) :
  opV P { dst:=dst,op:=.build t parts,type:=ty,pos:=pos,after:=aft,guard:=gd } ρ w K:=h
end
end V
theorem arrI:(Tryz.prog.info? 371).isSome=true:=by kernel_rfl
theorem arrZ:((Tryz.prog.info? 371).get arrI).zero=some (.agg (Array.replicate 28 (.int .i64 0))):=by kernel_rfl
theorem arrF (ρ:Nat→Value):ql0 (fun k=>some (k*tsz Tryz.prog 3,tsz Tryz.prog 3)) (Value.cells (.agg (Array.replicate 28 (.int .i64 0)))).toList (evp ρ (rbI.zipIdx.map fun x=>(x.2,Operand.const (.int .i64 x.1))))=some (rbI.map (Value.int .i64)):=by kernel_rfl
theorem qmr (w:World):Gv Tryz.prog 266 [] w fun v w'=>v=.agg (rbI.map (Value.int .i64)).toArray∧Ext w w':=by
 refine gv (by kernel_rfl) Tryz.func266 rfl Tryz.ntmps266 rfl ?_;refine qxx (qnd ?_);refine qop rfl ?_;refine qxd rfl ?_;(conv=>whnf);refine NewV.mem (Mem.nil w) ?_;intro b w1 hm;dsimp only
 with_reducible refine qxw (d:=0) ?_ ?_
 ·exact rfl
 try dsimp only
 with_reducible refine q0r ?_
 with_reducible refine qu8 ?_
 with_reducible refine qxx ?_
 with_reducible refine qnd ?_
 with_reducible refine qop ?_ ?_
 ·exact rfl
 with_reducible refine qxe ?_
 with_reducible refine V.buildV_arr (e:=3) (n:=28) (i:=(Tryz.prog.info? 371).get arrI) (z:=.agg (Array.replicate 28 (.int .i64 0))) (l:=rbI.map (Value.int .i64)) ?_ ?_ Tryz.underlying371 ?_ ?_ ?_
 ·exact (Option.some_get _).symm
 ·exact arrZ
 ·kernel_rfl
 ·exact arrF _
 dsimp only
 with_reducible refine qxw (d:=1) ?_ ?_
 ·exact rfl
 try dsimp only
 with_reducible refine qop ?_ ?_
 ·exact rfl
 refine qxf (by rfl) ?_;(conv=>whnf);refine StoreA.mem (vs:=rbI.map (Value.int .i64)) hm (i:=0) rfl (Nat.le_refl 28) (oneI _) ?_;intro w2 hm2;replace hm2:Mem w w2 [(b,.cells (rbI.map (Value.int .i64)).toArray 371 (0,0))]:=hm2;(conv=>whnf);refine qa (R:=fun v w'=>v=.agg (rbI.map (Value.int .i64)).toArray∧Ext w w') ?_;(conv=>whnf);refine zL hm2 0 ?_;rw [qak];exact ⟨rfl,hm2.ext⟩
theorem qh1 {w0 w:World} {b:Nat} {vs:List Value} {t:TypeId} {fr:Nat × Nat} {L:List (Nat × Obj)} (h:Mem w0 w ((b,.cells vs.toArray t fr)::L)):CellsAt w b 0 vs:=by
 intro k v hv;rw [qd (h.get (List.mem_cons_self ..)),Nat.zero_add]
 simpa using hv
theorem qn2 (r:Int) (w:World):Gv Tryz.prog 217 [.int .i64 r] w fun v w'=>v=.bool (qhe r)∧Ext w w':=by
 refine zE Tryz.func217 Tryz.ntmps217 ?_;(conv=>whnf);refine CallV.of (qmr w) ?_;rintro v w1 ⟨rfl,he⟩;(conv=>whnf);refine NewV.mem ((Mem.nil w).call he) ?_;intro b w2 hm;(conv=>whnf);refine StoreA.mem (vs:=rbI.map (Value.int .i64)) hm (i:=0) rfl (Nat.le_refl 28) (oneI _) ?_;intro w3 hm;replace hm:Mem w w3 [(b,.cells (rbI.map (Value.int .i64)).toArray 371 (0,0))]:=hm;(conv=>whnf);refine qm (fun i:Nat=>[(0,.int .i64 r),(3,.pointer (some ⟨b,0,none⟩)),(4,.int .i64 (i*2:Nat))]) (fun i w4=>i≤14∧(rP.take i).any (inP r)=false∧Mem w w4 [(b,.cells (rbI.map (Value.int .i64)).toArray 371 (0,0))]) (fun i=>14-i) 0 ⟨rfl,rfl,rfl,trivial⟩ ⟨by omega,rfl,hm⟩ ?_;rintro i w4 ρ' ⟨h1,h2,hm⟩;conv=>whnf
 (repeat' (first|((with_reducible refine zC (fun _=>?_) (fun _=>?_))<;>first|(exfalso;omega)|(conv=>whnf))|((with_reducible refine zX ?_);(conv=>whnf))))
 ·have hi:i<rP.length:=show i<14 by omega
  obtain ⟨b1,b2⟩:=q01 i hi;have hany:∀ c,inP r rP[i]=c→(rP.take (i+1)).any (inP r)=c:=fun c hc=>by
   rw [List.take_succ_eq_append_getElem hi,List.any_append,h2,List.any_cons,hc];simp
  refine LoadV.of (qsl (qh1 hm _ _ b1)) ?_;conv=>whnf
  (repeat' (first|(refine zA ?_;(conv=>whnf))|((with_reducible refine zT ?_);(conv=>whnf))|((with_reducible refine zU ?_);(conv=>whnf))|((with_reducible refine zC (fun _=>?_) (fun _=>?_))<;>first|(exfalso;omega)|(conv=>whnf))))
  ·refine ⟨i*2+1,by omega,by omega,?_⟩;(conv=>whnf);refine zT ?_;(conv=>whnf);refine LoadV.of (qo2 (qh1 hm _ _ b2)) ?_;conv=>whnf
   (repeat' (first|(refine zA ?_;(conv=>whnf))|((with_reducible refine zT ?_);(conv=>whnf))|((with_reducible refine zC (fun _=>?_) (fun _=>?_))<;>first|(exfalso;omega)|(conv=>whnf))))
   ·refine ⟨congrArg Value.bool ?_,hm.ext⟩;rw [← qt6];exact (List.any_eq_true.2 ⟨rP[i],List.getElem_mem hi,by simp [inP];omega⟩).symm
   ·exact ⟨i+1,⟨rfl,rfl,congrArg (Value.int .i64) (by omega),trivial⟩,⟨by omega,hany _ (by simp [inP];omega),hm⟩,by omega⟩
  ·exact ⟨i+1,⟨rfl,rfl,congrArg (Value.int .i64) (by omega),trivial⟩,⟨by omega,hany _ (by simp [inP];omega),hm⟩,by omega⟩
 ·refine ⟨congrArg Value.bool ?_,hm.ext⟩;rw [← qt6,← h2,List.take_of_length_le (show 14≤i by omega)]
theorem qes (r:Int) (w:World):Gv Tryz.prog 152 [.int .i64 r] w fun v w'=>v=.bool (qev r)∧Ext w w':=by
 refine zE Tryz.func152 Tryz.ntmps152 ?_;(conv=>whnf);refine CallV.of (qn2 r w) ?_;rintro v w1 ⟨rfl,he⟩;(conv=>whnf);unfold qev;cases qhe r
 ·(iterate 3 (refine zU ?_;(conv=>whnf)))
  all_goals (refine ⟨congrArg Value.bool ?_,he⟩;rw [Bool.eq_iff_iff];simp;try omega)
 ·(iterate 3 (refine zT ?_;(conv=>whnf)))
  all_goals (refine ⟨congrArg Value.bool ?_,he⟩;rw [Bool.eq_iff_iff];simp;try omega)
theorem qft (r:Int) (w:World):Gv Tryz.prog 153 [.int .i64 r] w fun v w'=>v=.bool (digN r)∧w'=w:=by
 refine zE Tryz.func153 Tryz.ntmps153 ?_;conv=>whnf
 (repeat' (first|((with_reducible refine zT ?_);(conv=>whnf))|((with_reducible refine zU ?_);(conv=>whnf))|((with_reducible refine zC (fun _=>?_) (fun _=>?_))<;>first|(exfalso;omega)|(conv=>whnf))))
 all_goals (refine ⟨congrArg Value.bool ?_,rfl⟩;rw [Bool.eq_iff_iff];simp [digN];try omega)
theorem qil (r:Int) (w:World):Gv Tryz.prog 218 [.int .i64 r] w fun v w'=>v=.bool (qcw r)∧Ext w w':=by
 refine zE Tryz.func218 Tryz.ntmps218 ?_;(conv=>whnf);refine CallV.of (qes r w) ?_;rintro v w1 ⟨rfl,he⟩;(conv=>whnf);unfold qcw;cases qev r
 ·(repeat' (first|((with_reducible refine zT ?_);(conv=>whnf))|((with_reducible refine zU ?_);(conv=>whnf))|((with_reducible refine zC (fun _=>?_) (fun _=>?_))<;>first|(exfalso;omega)|(conv=>whnf))))
  all_goals try (
   refine CallV.of (qft r w1) ?_;rintro v w2 ⟨rfl,rfl⟩;(conv=>whnf))
  all_goals cases hd:digN r
  all_goals (repeat' (first|((with_reducible refine zT ?_);(conv=>whnf))|((with_reducible refine zU ?_);(conv=>whnf))|((with_reducible refine zC (fun _=>?_) (fun _=>?_))<;>first|(exfalso;omega)|(conv=>whnf))))
  all_goals (refine ⟨congrArg Value.bool ?_,he⟩;rw [Bool.eq_iff_iff];simp;try omega)
 ·(iterate 20 (refine zT ?_;(conv=>whnf)))
  all_goals (refine ⟨congrArg Value.bool ?_,he⟩;rw [Bool.eq_iff_iff];simp;try omega)
theorem qn9 (s:ByteArray) (hs:s.size≤4000000000000) (w:World) :
  Gv Tryz.prog 151 [.string s] w fun v w'=>((scal s.data.toList=none∧v=.tuple #[.slice none 0 0,.bool false])∨
   (∃ l A c,scal s.data.toList=some l∧v=.tuple #[.slice A l.length c,.bool true]∧SlAt Go.Proofs.YtajgbepghniciaaGreatDoor.V.encI 1 w' A (l.map Int.ofNat)∧l.length≤s.size))∧Ext w w':=by
 refine zE Tryz.func151 Tryz.ntmps151 ?_;(conv=>whnf);refine qm (fun x:Nat × List Int × Option Addr × Nat=>[(0,.string s),(4,.slice x.2.2.1 x.2.1.length x.2.2.2),(5,.int .i64 x.1)])
  (fun x w2=>x.1≤s.size∧x.2.1.length≤x.1∧Rw w w2 (.slice x.2.2.1 x.2.1.length x.2.2.2) 3 1 x.2.1.length (x.2.1.map (Value.int .i64)) []∧(scal s.data.toList).map (·.map Int.ofNat)=(scal (s.data.toList.drop x.1)).map fun l=>x.2.1++l.map Int.ofNat)
  (fun x=>s.size-x.1) (0,[],none,0) ⟨rfl,rfl,rfl,trivial⟩ ⟨by simp,by simp,Rw.nil (Mem.nil w),by simp⟩ ?_
 rintro ⟨i,zs,B,d⟩ w2 ρ' ⟨h1,h2,hR,h3⟩;simp only at h1 h2 hR h3;dsimp only;(conv=>whnf);refine zC (fun _=>?_) (fun _=>?_)<;>(conv=>whnf)
 ·refine CallV.of (qim s i (by omega) (by omega) w2) ?_;rintro v w3 ⟨rfl,he⟩;have hle:=qgb (s.data.toList.drop i);rw [qc9] at hle;have hR3:=hR.call he;(conv=>whnf);refine zC (fun _=>?_) (fun _=>?_)<;>(conv=>whnf)
  ·refine ⟨.inl ⟨?_,rfl⟩,hR3.mem.ext⟩;rw [qfw (qge s i (by omega)) (by omega)] at h3;cases hsc:scal s.data.toList with
   | none=>rfl
   | some l=>rw [hsc] at h3;cases h3
  ·refine NewV.rw hR3 ?_;intro nb w4 hR4;(conv=>whnf);refine AppV.one (i:=_) (z:=.int .i64 0) Tryz.underlying83 (Option.some_get (by kernel_rfl)).symm (by kernel_rfl) (by kernel_rfl) rfl (by decide +kernel) hR4 rfl (by omega) ?_;intro B' d' w5 hR5;(conv=>whnf);refine zA ?_;(conv=>whnf);refine ⟨(i+(decN (s.data.toList.drop i)).2,zs++[((decN (s.data.toList.drop i)).1:Int)],B',d'),⟨rfl,by simp only [List.length_append];rfl,rfl,trivial⟩,⟨by simp only;omega,by simp only [List.length_append,List.length_singleton];omega,?_,?_⟩,by simp only;omega⟩
   ·simp only [List.length_append,List.length_singleton,List.map_append,List.map_cons,List.map_nil];exact hR5
   ·simp only;rw [h3,qd8 (qge s i (by omega)) (by omega),List.drop_drop];cases scal (s.data.toList.drop (i+(decN (s.data.toList.drop i)).2)) with
    | none=>rfl
    | some l=>simp
 ·refine ⟨?_,hR.mem.ext⟩;rw [List.drop_eq_nil_of_le (by simp;omega),scal] at h3;cases hsc:scal s.data.toList with
  | none=>rw [hsc] at h3;cases h3
  | some l=>
   rw [hsc] at h3;simp at h3;subst h3;refine .inr ⟨l,B,d,rfl,by simp,?_,by simpa using Nat.le_trans h2 h1⟩;exact hR.ints
open Go.RowKit V
set_option maxRecDepth 100000
theorem qcb {q:UInt8→Bool} (s:ByteArray) (p:Nat) (hp:p<s.size):(s.data.toList.take (p+1)).all q=((s.data.toList.take p).all q&&q (gb s p)):=by
 rw [qks (by simpa using hp),List.all_append];simp [gb]
def digA (s:ByteArray):Bool:=s.data.toList.all fun c=>digN c.toNat
def letA (s:ByteArray):Bool:=s.data.toList.all fun c=>letN c.toNat
theorem qsq {s:ByteArray} {i:Nat} (hi:i<s.size) (h:digN (gb s i).toNat=false):digA s=false:=by
 rw [digA,List.all_eq_false];exact ⟨gb s i,by rw [gb,List.getD_eq_getElem?_getD,List.getElem?_eq_getElem (by simpa using hi)];exact List.getElem_mem _,by simpa using h⟩
theorem qyo {s:ByteArray} {i:Nat} (hi:i<s.size) (h:letN (gb s i).toNat=false):letA s=false:=by
 rw [letA,List.all_eq_false];exact ⟨gb s i,by rw [gb,List.getD_eq_getElem?_getD,List.getElem?_eq_getElem (by simpa using hi)];exact List.getElem_mem _,by simpa using h⟩
theorem qd4 (s:ByteArray) (hs:s.size≤140737488355328) (w:World):Gv Tryz.prog 308 [.string s] w fun v w'=>v=.bool (digA s)∧w'=w:=by
 refine zE Tryz.func308 Tryz.ntmps308 ?_;(conv=>whnf);refine qm (fun i:Nat=>[(0,.string s),(3,.int .i64 i)]) (fun i w1=>i≤s.size∧(s.data.toList.take i).all (fun c=>digN c.toNat)=true∧w1=w) (fun i=>s.size-i) 0 ⟨rfl,rfl,trivial⟩ ⟨by omega,rfl,rfl⟩ ?_;rintro i w1 ρ' ⟨h1,h2,rfl⟩;conv=>whnf
 (repeat' (first|(refine zA ?_;(conv=>whnf))|((with_reducible refine zT ?_);(conv=>whnf))|((with_reducible refine zU ?_);(conv=>whnf))|((with_reducible refine zC (fun _=>?_) (fun _=>?_))<;>first|(exfalso;omega)|(conv=>whnf))|((with_reducible refine zX ?_);(conv=>whnf))))
 ·exact ⟨by rw [qsq (i:=i) (by omega) (by simp [digN];omega)],rfl⟩
 ·exact ⟨by rw [qsq (i:=i) (by omega) (by simp [digN];omega)],rfl⟩
 ·exact ⟨i+1,⟨rfl,rfl,trivial⟩,⟨by omega,by rw [qcb s i (by omega),h2];simp [digN];omega,rfl⟩,by omega⟩
 ·rw [List.take_of_length_le (by simp;omega)] at h2;exact ⟨by rw [digA,h2],rfl⟩
theorem qib (s:ByteArray) (hs:s.size≤140737488355328) (w:World):Gv Tryz.prog 309 [.string s] w fun v w'=>v=.bool (letA s)∧w'=w:=by
 refine zE Tryz.func309 Tryz.ntmps309 ?_;(conv=>whnf);refine qm (fun i:Nat=>[(0,.string s),(3,.int .i64 i)]) (fun i w1=>i≤s.size∧(s.data.toList.take i).all (fun c=>letN c.toNat)=true∧w1=w) (fun i=>s.size-i) 0 ⟨rfl,rfl,trivial⟩ ⟨by omega,rfl,rfl⟩ ?_;rintro i w1 ρ' ⟨h1,h2,rfl⟩;conv=>whnf
 (repeat' (first|(refine zA ?_;(conv=>whnf))|((with_reducible refine zT ?_);(conv=>whnf))|((with_reducible refine zU ?_);(conv=>whnf))|((with_reducible refine zC (fun _=>?_) (fun _=>?_))<;>first|(exfalso;omega)|(conv=>whnf))|((with_reducible refine zP ?_))|((with_reducible refine zX ?_);(conv=>whnf))))
 all_goals first
  | exact ⟨by rw [qyo (i:=i) (by omega) (by simp [letN];omega)],rfl⟩
  | exact ⟨i+1,⟨rfl,rfl,trivial⟩,⟨by omega,by rw [qcb s i (by omega),h2];simp [letN];omega,rfl⟩,by omega⟩
  | (rw [List.take_of_length_le (by simp;omega)] at h2;exact ⟨by rw [letA,h2],rfl⟩)
theorem qtz {s:ByteArray} {i:Nat} (h:i<s.size):(s.extract i (i+1)).data.toList=[gb s i]:=by
 have:(s.extract i (i+1)).data.toList=(s.data.toList.drop i).take 1:=by
  rw [ByteArray.data_extract,Array.toList_extract,List.extract_eq_take_drop,Nat.add_sub_cancel_left]
 rw [this,qau s i h];rfl
theorem qpk {s:ByteArray} {i:Nat} (h:i<s.size):(s.extract i (i+1)).size=1:=by
 rw [ByteArray.size_extract];omega
theorem qyz {s:ByteArray} {i:Nat} (h:i<s.size):letA (s.extract i (i+1))=letN (gb s i).toNat:=by rw [letA,qtz h];simp
theorem qty {s:ByteArray} {i:Nat} (h:i<s.size):digA (s.extract i (i+1))=digN (gb s i).toNat:=by rw [digA,qtz h];simp
theorem qwe {s:ByteArray} {lo hi i:Nat} {p:Bool} (hi':i<s.size) (h:alnB p (gb s i)=false):qv s lo hi p=false:=by
 have:s.data.toList.all (alnB p)=false:=by
  rw [List.all_eq_false];exact ⟨gb s i,by rw [gb,List.getD_eq_getElem?_getD,List.getElem?_eq_getElem (by simpa using hi')];exact List.getElem_mem _,by simpa using h⟩
 rw [qv,this];rfl
theorem qfa (s:ByteArray) (lo hi:Nat) (hs:s.size≤140737488355328) (w:World):Gv Tryz.prog 273 [.string s,.int .i64 lo,.int .i64 hi] w fun v w'=>v=.bool (qv s lo hi false)∧w'=w:=by
 refine zE Tryz.func273 Tryz.ntmps273 ?_;(conv=>whnf);refine qm (fun i:Nat=>[(0,.string s),(1,.int .i64 lo),(2,.int .i64 hi),(7,.int .i64 i)]) (fun i w1=>i≤s.size∧(s.data.toList.take i).all (alnB false)=true∧w1=w) (fun i=>s.size-i) 0 ⟨rfl,rfl,rfl,rfl,trivial⟩ ⟨by omega,rfl,rfl⟩ ?_;rintro i w1 ρ' ⟨h1,h2,rfl⟩;conv=>whnf
 (repeat' (first|(refine zA ?_;(conv=>whnf))|((with_reducible refine zT ?_);(conv=>whnf))|((with_reducible refine zU ?_);(conv=>whnf))|((with_reducible refine zC (fun _=>?_) (fun _=>?_))<;>first|(exfalso;omega)|(conv=>whnf))))
 ·have hi:i<s.size:=by omega
  have hsz:=qpk hi;refine ⟨i,i+1,rfl,rfl,by omega,by omega,?_⟩;(conv=>whnf);refine CallV.of (qib (s.extract i (i+1)) (by omega) w1) ?_;rintro v w2 ⟨rfl,rfl⟩;rw [qyz hi];cases hl:letN (gb s i).toNat
  ·(conv=>whnf);refine zP ?_;refine zU ?_;(conv=>whnf);(iterate 3 (refine zT ?_;(conv=>whnf)));refine zA ?_;(conv=>whnf);refine zT ?_;(conv=>whnf);refine ⟨i,i+1,rfl,rfl,by omega,by omega,?_⟩;(conv=>whnf);refine zT ?_;(conv=>whnf);refine CallV.of (qd4 (s.extract i (i+1)) (by omega) w2) ?_;rintro v w3 ⟨rfl,rfl⟩;rw [qty hi];cases hd:digN (gb s i).toNat
   ·(conv=>whnf);(iterate 2 (refine zT ?_;(conv=>whnf)));refine zP ?_;refine zU ?_;(conv=>whnf);exact ⟨by rw [qwe hi (by rw [alnB,hl,hd];rfl)],rfl⟩
   ·(conv=>whnf);(iterate 2 (refine zT ?_;(conv=>whnf)));refine zP ?_;refine zT ?_;(conv=>whnf);refine zA ?_;(conv=>whnf);exact ⟨i+1,⟨rfl,rfl,rfl,rfl,trivial⟩,⟨by omega,by rw [qcb s i hi,h2,alnB,hl,hd];rfl,rfl⟩,by omega⟩
  ·(conv=>whnf);refine zP ?_;refine zT ?_;(conv=>whnf);(iterate 8 (refine zU ?_;(conv=>whnf)));refine zA ?_;(conv=>whnf);exact ⟨i+1,⟨rfl,rfl,rfl,rfl,trivial⟩,⟨by omega,by rw [qcb s i hi,h2,alnB,hl];rfl,rfl⟩,by omega⟩
 all_goals
  rw [List.take_of_length_le (by simp;omega)] at h2;have hM:qv s lo hi false=decide (lo≤s.size∧s.size≤hi):=by rw [qv,h2];rfl
 ·exact ⟨congrArg Value.bool (by rw [hM,Bool.eq_iff_iff];simp;omega),rfl⟩
 ·exact ⟨congrArg Value.bool (by rw [hM,eq_comm,decide_eq_false_iff_not];omega),rfl⟩
theorem qjd (s:ByteArray) (hs:s.size≤140737488355328) (w:World):Gv Tryz.prog 272 [.string s] w fun v w'=>v=.bool (varB s)∧w'=w:=by
 refine zE Tryz.func272 Tryz.ntmps272 ?_;(conv=>whnf);refine CallV.of (qfa s 5 8 hs w) ?_;rintro v w1 ⟨rfl,rfl⟩;cases m1:qv s 5 8 false
 ·(conv=>whnf);(iterate 2 (refine zU ?_;(conv=>whnf)));refine CallV.of (qfa s 4 4 hs w1) ?_;rintro v w2 ⟨rfl,rfl⟩;cases m2:qv s 4 4 false
  ·(conv=>whnf);(iterate 7 (refine zU ?_;(conv=>whnf)));exact ⟨by rw [varB,m1,m2];rfl,rfl⟩
  ·have hsz:s.size=4:=by
    simp [qv] at m2;omega
   have h1:=qpk (s:=s) (i:=0) (by omega);(conv=>whnf);refine zU ?_;(conv=>whnf);(iterate 2 (refine zT ?_;(conv=>whnf)));refine ⟨0,1,rfl,rfl,by omega,by omega,?_⟩;(conv=>whnf);refine zT ?_;(conv=>whnf);refine CallV.of (qd4 (s.extract 0 1) (by show (s.extract 0 (0+1)).size≤_;omega) w2) ?_;rintro v w3 ⟨rfl,rfl⟩;(conv=>whnf);refine zU ?_;(conv=>whnf);refine zT ?_;(conv=>whnf);refine zU ?_;(conv=>whnf);exact ⟨by rw [varB,m1,m2,qty (s:=s) (i:=0) (by omega)];rfl,rfl⟩
 ·(conv=>whnf);(iterate 5 (refine zT ?_;(conv=>whnf)));exact ⟨by rw [varB,m1];rfl,rfl⟩
open Go.RowKit V
set_option maxRecDepth 100000
def glue (cur:List UInt8):List (List UInt8)→List (List UInt8)
 | []=>[]
 | p::ps=>(cur++p)::ps
theorem qii:∀ l:List UInt8,∃ p ps,qba l=p::ps
 | []=>⟨_,_,rfl⟩
 | c::t=>by
  unfold qba
  split
  ·exact ⟨_,_,rfl⟩
  ·split<;>exact ⟨_,_,rfl⟩
theorem qtb (cur t:List UInt8):glue cur (qba (45::t))=[cur]++glue [] (qba t):=by
 obtain ⟨p,ps,h⟩:=qii t;rw [qba,if_pos rfl,h];simp [glue]
theorem qtc (cur t:List UInt8) {c:UInt8} (hc:c≠45):glue cur (qba (c::t))=glue (cur++[c]) (qba t):=by
 obtain ⟨p,ps,h⟩:=qii t;rw [qba,if_neg hc,h];simp [glue]
theorem qkn (s:ByteArray) (a b:Nat):(s.extract a b).data.toList=(s.data.toList.drop a).take (b-a):=by
 rw [ByteArray.data_extract,Array.toList_extract,List.extract_eq_take_drop]
theorem qkj:∀ {l m:List ByteArray},l.map (·.data.toList)=m.map (·.data.toList)→l=m
 | [],[],_=>rfl
 | [],_::_,h=>by simp at h
 | _::_,[],h=>by simp at h
 | a::l,b::m,h=>by
  simp only [List.map_cons,List.cons.injEq] at h;obtain ⟨h1,h2⟩:=h;obtain ⟨⟨a⟩⟩:=a;obtain ⟨⟨b⟩⟩:=b;simp only at h1;rw [h1,qkj h2]
theorem qm6:Tryz.prog.underlying 37=some (.slice 9):=Tryz.underlying37
theorem qmv (s:ByteArray) (hs:s.size≤1000000) (w:World) :
  Gv Tryz.prog 267 [.string s] w fun v w'=>∃ A c,v=.slice A (qaz s).length c∧Rw w w' (.slice A (qaz s).length c) 9 1 (qaz s).length ((qaz s).map Value.string) []:=by
 obtain ⟨L,hL⟩:∃ L,L=s.data.toList:=⟨_,rfl⟩
 have hLl:L.length=s.size:=by rw [hL];simp
 have fin:∀ done:List ByteArray,qba L=done.map (·.data.toList)→done=qaz s:=fun done h=>qkj (by rw [← h,hL,qij])
 refine zE Tryz.func267 Tryz.ntmps267 ?_;(conv=>whnf);refine qm (fun x:Nat × Nat × List ByteArray × Option Addr × Nat=>[(0,.string s),(3,.slice x.2.2.2.1 x.2.2.1.length x.2.2.2.2),(4,.int .i64 x.2.1),(5,.int .i64 x.1)])
  (fun x w2=>x.1≤s.size∧x.2.1≤x.1∧x.2.2.1.length≤x.1∧Rw w w2 (.slice x.2.2.2.1 x.2.2.1.length x.2.2.2.2) 9 1 x.2.2.1.length (x.2.2.1.map Value.string) []∧
   qba L=x.2.2.1.map (·.data.toList)++glue ((L.drop x.2.1).take (x.1-x.2.1)) (qba (L.drop x.1)))
  (fun x=>s.size-x.1) (0,0,[],none,0) ⟨rfl,rfl,rfl,rfl,trivial⟩ ⟨by simp,by simp,by simp,Rw.nil (Mem.nil w),by
   obtain ⟨p,ps,h⟩:=qii L;simp [glue,h]⟩ ?_
 rintro ⟨i,fr,done,B,d⟩ w2 ρ' ⟨h1,h2,h3,hR,h4⟩;simp only at h1 h2 h3 hR h4;dsimp only;conv=>whnf
 (repeat' (first|(refine zA ?_;(conv=>whnf))|((with_reducible refine zC (fun _=>?_) (fun _=>?_))<;>first|(exfalso;omega)|(conv=>whnf))|((with_reducible refine zX ?_);(conv=>whnf))))
 ·have hi:i<s.size:=by omega
  have hdrop:L.drop i=gb s i::L.drop (i+1):=by rw [hL];exact qau s i hi
  rw [hdrop,show gb s i=45 by rw [← UInt8.toNat_inj];show _=45;omega,qtb] at h4;refine ⟨fr,i,rfl,rfl,by omega,by omega,?_⟩;(conv=>whnf);refine NewV.rw hR ?_;intro nb w4 hR4;(conv=>whnf);refine AppV.one qm6 strI strZ (by kernel_rfl) rfl (by decide +kernel) hR4 rfl (by omega) ?_;intro B' d' w5 hR5;(conv=>whnf);(iterate 2 (refine zA ?_;(conv=>whnf)));refine ⟨(i+1,i+1,done++[s.extract fr i],B',d'),⟨rfl,by simp only [List.length_append];rfl,rfl,rfl,trivial⟩,⟨by simp only;omega,by simp only;omega,by simp;omega,?_,?_⟩,by simp only;omega⟩
  ·simp only [List.length_append,List.length_singleton,List.map_append,List.map_cons,List.map_nil];exact hR5
  ·simp only [List.map_append,List.map_cons,List.map_nil,qkn,Nat.sub_self,List.take_zero];rw [h4,← hL,List.append_assoc]
 ·have hi:i<s.size:=by omega
  have hdrop:L.drop i=gb s i::L.drop (i+1):=by rw [hL];exact qau s i hi
  have hc:gb s i≠45:=fun e=>by
   have:(gb s i).toNat=45:=by rw [e];rfl
   omega
  rw [hdrop,qtc _ _ hc] at h4;refine ⟨(i+1,fr,done,B,d),⟨rfl,rfl,rfl,rfl,trivial⟩,⟨by simp only;omega,by simp only;omega,by simp only;omega,hR,?_⟩,by simp only;omega⟩;simp only;rw [h4]
  congr 2
  have e:i+1-fr=(i-fr)+1:=by omega
  rw [e,List.take_add_one]
  congr 1
  rw [List.getElem?_drop,show fr+(i-fr)=i by omega];have:=congrArg List.head? hdrop;rw [List.head?_drop] at this;rw [this];rfl
 ·rw [List.drop_eq_nil_of_le (show L.length≤i by omega)] at h4;refine ⟨fr,s.size,rfl,rfl,by omega,by omega,?_⟩;(conv=>whnf);refine NewV.rw hR ?_;intro nb w4 hR4;(conv=>whnf);refine AppV.one qm6 strI strZ (by kernel_rfl) rfl (by decide +kernel) hR4 rfl (by omega) ?_;intro B' d' w5 hR5;(conv=>whnf);have hd:=fin (done++[s.extract fr s.size]) (by
   rw [h4];simp only [List.map_append,List.map_cons,List.map_nil,qkn,← hL,show i=s.size by omega];simp [glue,qba])
  rw [← hd];have hR6:Rw w w5 (.slice B' (done++[s.extract fr s.size]).length d') 9 1 (done++[s.extract fr s.size]).length ((done++[s.extract fr s.size]).map Value.string) []:=by
   simp only [List.length_append,List.length_singleton,List.map_append,List.map_cons,List.map_nil];exact hR5
  exact ⟨B',d',by rw [List.length_append];rfl,hR6⟩
open Go.RowKit V
set_option maxRecDepth 100000
def jn:List ByteArray→List UInt8
 | []=>[]
 | x::xs=>x.data.toList++xs.flatMap fun y=>45::y.data.toList
theorem qym (l:List ByteArray) (x:ByteArray):jn (l++[x])=if l=[] then x.data.toList else jn l++([45]++x.data.toList):=by
 cases l with
 | nil=>simp [jn]
 | cons y ys=>simp [jn]
theorem qo7:∀ (l:List ByteArray),(∀ x∈l,x.size≤1000000)→(l.flatMap fun y=>(45:UInt8)::y.data.toList).length≤l.length*1000001
 | [],_=>by simp
 | x::l,h=>by
  have:=qo7 l fun y hy=>h y (List.mem_cons_of_mem _ hy)
  have hx:=h x (List.mem_cons_self ..);have e:x.data.toList.length=x.size:=by simp
  rw [List.flatMap_cons,List.length_append,List.length_cons,List.length_cons,e];omega
theorem qz5 (l:List ByteArray) (h:∀ x∈l,x.size≤1000000):(jn l).length≤l.length*1000001:=by
 cases l with
 | nil=>simp [jn]
 | cons x l=>
  have:=qo7 l fun y hy=>h y (List.mem_cons_of_mem _ hy)
  have hx:=h x (List.mem_cons_self ..);have e:x.data.toList.length=x.size:=by simp
  rw [jn,List.length_append,List.length_cons,e];omega
theorem qef (l:List ByteArray) (A:Option Addr) (c:Nat) (w:World) (hS:SlAt V.encS 1 w A l) (hx:∀ x∈l,x.size≤1000000) (hn:l.length≤1000000) :
  Gv Tryz.prog 307 [.slice A l.length c] w fun v w'=>v=.string ⟨(jn l).toArray⟩∧Ext w w':=by
 refine zE Tryz.func307 Tryz.ntmps307 ?_;(conv=>whnf);refine qm (fun x:Nat × Option Addr × Nat=>[(0,.slice A l.length c),(3,.slice x.2.1 (jn (l.take x.1)).length x.2.2),(4,.int .i64 x.1)])
  (fun x w2=>x.1≤l.length∧Rw w w2 (.slice x.2.1 (jn (l.take x.1)).length x.2.2) 5 1 (jn (l.take x.1)).length (byteCells (jn (l.take x.1))) [])
  (fun x=>l.length-x.1) (0,none,0) ⟨rfl,rfl,rfl,trivial⟩ ⟨by simp,Rw.nil (Mem.nil w)⟩ ?_
 rintro ⟨k,B,d⟩ w2 ρ' ⟨h1,hR⟩;simp only at h1 hR;dsimp only;have hlen:=qz5 (l.take k) (fun x hxx=>hx x (List.mem_of_mem_take hxx));rw [List.length_take] at hlen;conv=>whnf
 (repeat' ((with_reducible refine zC (fun _=>?_) (fun _=>?_))<;>first|(exfalso;omega)|(conv=>whnf)))
 ·have hk:k<l.length:=by omega
  refine NewV.rw hR ?_;intro nb w4 hR4;(conv=>whnf);refine AppV.one (i:=_) (z:=.int .u8 0) Tryz.underlying45 (Option.some_get (by kernel_rfl)).symm (by kernel_rfl) (by kernel_rfl) rfl (by decide +kernel) hR4 rfl (by omega) ?_;intro B' d' w5 hR5;(conv=>whnf);refine ElemV.sl (hS.ext hR5.mem.ext) rfl k rfl hk ?_;intro b off hc;refine LoadV.cell0 hc ?_;(conv=>whnf);have hxk:=hx _ (List.getElem_mem hk);refine AppV.rwS (i:=_) Tryz.underlying45 Tryz.underlying9 (Option.some_get (by kernel_rfl)).symm (by kernel_rfl) (by kernel_rfl) (by kernel_rfl) hR5 (fun x hx c fz=>by simp at hx) (by omega) fun v' w6 hR6=>?_;obtain ⟨A',c',rfl⟩:=hR6.slice;(conv=>whnf);refine zA ?_;(conv=>whnf);have e:jn (l.take (k+1))=jn (l.take k)++([45]++(l[k]).data.toList):=by
   rw [List.take_succ_eq_append_getElem hk,qym,if_neg (by intro e;have h9:=congrArg List.length e;rw [List.length_take,List.length_nil] at h9;omega)]
  have el:(jn (l.take (k+1))).length=(jn (l.take k)).length+1+(l[k]).size:=by rw [e];simp;omega
  refine ⟨(k+1,A',c'),⟨rfl,by simp only [el];rfl,rfl,trivial⟩,⟨by simp only;omega,?_⟩,by simp only;omega⟩;simp only;rw [el,e,qbd,qbd,← List.append_assoc];exact hR6
 ·have hk:k<l.length:=by omega
  obtain rfl:k=0:=by omega
  refine ElemV.sl (hS.ext hR.mem.ext) rfl 0 rfl hk ?_;intro b off hc;refine LoadV.cell0 hc ?_;(conv=>whnf);have hxk:=hx _ (List.getElem_mem hk);refine AppV.rwS (i:=_) Tryz.underlying45 Tryz.underlying9 (Option.some_get (by kernel_rfl)).symm (by kernel_rfl) (by kernel_rfl) (by kernel_rfl) hR (fun x hx c fz=>by simp at hx) (by omega) fun v' w6 hR6=>?_;obtain ⟨A',c',rfl⟩:=hR6.slice;(conv=>whnf);refine zA ?_;(conv=>whnf);have e:jn (l.take (0+1))=jn (l.take 0)++(l[0]).data.toList:=by
   rw [List.take_succ_eq_append_getElem hk];simp [jn]
  have el:(jn (l.take (0+1))).length=(jn (l.take 0)).length+(l[0]).size:=by rw [e];simp
  refine ⟨(1,A',c'),⟨rfl,by simp only [el];rfl,rfl,trivial⟩,⟨by simp only;omega,?_⟩,by simp only;omega⟩;simp only;rw [show (1:Nat)=0+1 from rfl,el,e,qbd];exact hR6
 ·obtain rfl:k=l.length:=by omega
  rw [List.take_length] at hR ⊢;refine BytesS.rw hR ?_;(conv=>whnf);exact ⟨rfl,hR.mem.ext⟩
open Go.RowKit V
set_option maxRecDepth 100000
theorem qd0 {w0 w:World} {L:List (Nat × Obj)} {b off:Nat} {cs:Array Value} {t:TypeId} {v:Value} {K:World→Prop} (hm:Mem w0 w L) (hi:(b,Obj.cells cs t (0,0))∈L) (ho:off<cs.size) (h1:qdf v=true)
  (hk:∀ w' L',Mem w0 w' L'→(b,Obj.cells (cs.setIfInBounds off v) t (0,0))∈L'→(∀ y∈L,y.1≠b→y∈L')→K w'):StoreV w b off v K:=by
 obtain ⟨i,hi⟩:=List.mem_iff_getElem?.1 hi;exact StoreV.mem hm hi ho h1 fun w' h=>hk w' _ h (qd9 hi).1 (qd9 hi).2
theorem V.SliceV.tailA {A:Option Addr} {g off n m c:Nat} {k:IntKind} {K:Value→Prop} (hA:A=some ⟨g,off,none⟩) (hn:n=m+1) (hc:n≤c)
  (hk:∀ A' c',(m≠0→A'=some ⟨g,off+1,none⟩)→m≤c'→K (.slice A' m c')):SliceV 1 A n c (some (.int k 1)) none none K:=by
 subst hn hA;refine ⟨1,m+1,c,rfl,rfl,rfl,by omega,by omega,by omega,fun h=>by simp at h,fun A' hA'=>?_⟩;have hk:=hk A' (c-1) (fun hne=>?_) (by omega)
 ·simpa using hk
 ·rw [if_neg (by omega)] at hA';rw [hA'];show some ((⟨g,off,none⟩:Addr).add (1*1))=_;rw [qai]
structure RQ0 (w0 w:World) (O:List Nat) (rb tb:Nat) (rest:List ByteArray) (a0:ByteArray) (vs es:List ByteArray) (A:Option Addr) (c:Nat) (X Y T4 T5:Value) (a1 a2 a3 a6:ByteArray) (L:List (Nat × Obj)) (R2:List (List Value × Value)):Prop where
 mem:Mem w0 w L
 rd:(rb,Obj.cells #[.slice A rest.length c] 376 (0,0))∈L
 tg:(tb,Obj.cells (tagC a0 a1 a2 a3 T4 T5 a6).toArray 242 (0,0))∈L
 rows:RowsP 9 O L ((vs.map Value.string,X)::(es.map Value.string,Y)::R2)
 sl:rest≠[]→∃ g cur off,A=some ⟨g,off,none⟩∧g∈O∧g≠rb∧g≠tb∧(g,Obj.cells cur 9 (0,0))∈L∧∀ (j:Nat) x,rest[j]?=some x→cur[off+j]?=some (Value.string x)
 hc:rest.length≤c
 hrb:rb∈O
 htb:tb∈O
 ne:rb≠tb
 all:∀ g∈O,∃ o,(g,o)∈L
 small:∀ x∈rest,x.size≤1000000
def RQ (w0 w:World) (O:List Nat) (rb tb:Nat) (rest:List ByteArray) (a0:ByteArray) (vs es:List ByteArray) (R2:List (List Value × Value)):Prop:=
 ∃ A c X Y a1 a2 a3 a6 L,RQ0 w0 w O rb tb rest a0 vs es A c X Y X Y a1 a2 a3 a6 L R2
section
variable {w0 w w':World} {O:List Nat} {rb tb:Nat} {rest:List ByteArray} {a0:ByteArray} {vs es:List ByteArray} {R2:List (List Value × Value)}
theorem RQ.call (h:RQ w0 w O rb tb rest a0 vs es R2) (he:Ext w w'):RQ w0 w' O rb tb rest a0 vs es R2:=by
 obtain ⟨A,c,X,Y,a1,a2,a3,a6,L,h⟩:=h;exact ⟨A,c,X,Y,a1,a2,a3,a6,L,{ h with mem:=h.mem.call he }⟩
theorem RQ.drew (h:RQ w0 w O rb tb rest a0 vs es R2):RQ w0 w.drew O rb tb rest a0 vs es R2:=h.call (Ext.refl w).drew
theorem RQ.ext (h:RQ w0 w O rb tb rest a0 vs es R2):Ext w0 w:=by
 obtain ⟨A,c,X,Y,a1,a2,a3,a6,L,h⟩:=h;exact h.mem.ext
theorem RQ.small (h:RQ w0 w O rb tb rest a0 vs es R2):∀ x∈rest,x.size≤1000000:=by
 obtain ⟨A,c,X,Y,a1,a2,a3,a6,L,h⟩:=h;exact h.small
theorem RQ0.slAt {A:Option Addr} {c:Nat} {X Y T4 T5:Value} {a1 a2 a3 a6:ByteArray} {L:List (Nat × Obj)} (h:RQ0 w0 w O rb tb rest a0 vs es A c X Y T4 T5 a1 a2 a3 a6 L R2):SlAt V.encS 1 w A rest:=by
 refine ⟨fun hne=>?_⟩;obtain ⟨g,cur,off,rfl,_,_,_,hg,hx⟩:=h.sl hne;refine ⟨g,off,rfl,fun j x hj k v hv=>?_⟩;cases k with
 | succ k=>simp [V.encS] at hv
 | zero=>
  simp only [V.encS,List.getElem?_cons_zero,Option.some.injEq] at hv;subst hv;rw [qd (h.mem.get hg),Nat.add_zero,Nat.mul_one];exact hx j x hj
theorem RQ.ldr {K:Value→Prop} (h:RQ w0 w O rb tb rest a0 vs es R2) (hk:∀ A c,SlAt V.encS 1 w A rest→rest.length≤c→K (.slice A rest.length c)):LoadV w rb 0 K:=by
 obtain ⟨A,c,X,Y,a1,a2,a3,a6,L,h⟩:=h;exact LoadV.own (h.mem.get h.rd) rfl (hk A c h.slAt h.hc)
theorem RQ.ld0 {K:Value→Prop} (h:RQ w0 w O rb tb rest a0 vs es R2) (hk:K (.string a0)):LoadV w tb 0 K:=by
 obtain ⟨A,c,X,Y,a1,a2,a3,a6,L,h⟩:=h;exact LoadV.own (h.mem.get h.tg) rfl hk
theorem RQ0.tag {A:Option Addr} {c:Nat} {X Y T4 T5:Value} {a1 a2 a3 a6 b0 b1 b2 b3 b6:ByteArray} {L L':List (Nat × Obj)} (h:RQ0 w0 w O rb tb rest a0 vs es A c X Y T4 T5 a1 a2 a3 a6 L R2) (hm:Mem w0 w' L')
  (ht:(tb,Obj.cells (tagC b0 b1 b2 b3 X Y b6).toArray 242 (0,0))∈L') (hk:∀ y∈L,y.1≠tb→y∈L'):RQ w0 w' O rb tb rest b0 vs es R2:=by
 refine ⟨A,c,X,Y,b1,b2,b3,b6,L',hm,hk _ h.rd h.ne,ht,h.rows.keep fun y hy hO=>hk y hy fun e=>hO (e ▸ h.htb),fun hne=>?_,h.hc,h.hrb,h.htb,h.ne,fun g hg=>?_,h.small⟩
 ·obtain ⟨g,cur,off,h1,h2,h3,h4,h5,h6⟩:=h.sl hne;exact ⟨g,cur,off,h1,h2,h3,h4,hk _ h5 h4,h6⟩
 ·by_cases e:g=tb
  ·subst e;exact ⟨_,ht⟩
  ·obtain ⟨o,ho⟩:=h.all g hg;exact ⟨o,hk _ ho e⟩
theorem RQ.st {K:World→Prop} (h:RQ w0 w O rb tb rest a0 vs es R2) {k:Nat} (hk:k=1∨k=2∨k=3∨k=6) (s:ByteArray) (hK:∀ w',RQ w0 w' O rb tb rest a0 vs es R2→K w'):StoreV w tb k (.string s) K:=by
 obtain ⟨A,c,X,Y,a1,a2,a3,a6,L,h⟩:=h;have hlt:k<(tagC a0 a1 a2 a3 X Y a6).toArray.size:=by simp [tagC];omega
 refine qd0 h.mem h.tg hlt rfl fun w' L' hm ht hkp=>hK w' ?_
 rcases hk with rfl|rfl|rfl|rfl
 all_goals exact h.tag hm ht hkp
theorem RQ.st0 {K:World→Prop} (h:RQ w0 w O rb tb rest a0 vs es R2) (s:ByteArray) (hK:∀ w',RQ w0 w' O rb tb rest s vs es R2→K w'):StoreV w tb 0 (.string s) K:=by
 obtain ⟨A,c,X,Y,a1,a2,a3,a6,L,h⟩:=h;exact qd0 h.mem h.tg (by simp [tagC]) rfl fun w' L' hm ht hkp=>hK w' (h.tag hm ht hkp)
end
section
variable {w0 w w':World} {O:List Nat} {rb tb:Nat} {rest:List ByteArray} {a0:ByteArray} {vs es:List ByteArray} {R2:List (List Value × Value)} {X Y T4 T5:Value} {A:Option Addr} {c:Nat} {a1 a2 a3 a6:ByteArray} {L L':List (Nat × Obj)}
theorem RQ0.call (h:RQ0 w0 w O rb tb rest a0 vs es A c X Y T4 T5 a1 a2 a3 a6 L R2) (he:Ext w w'):RQ0 w0 w' O rb tb rest a0 vs es A c X Y T4 T5 a1 a2 a3 a6 L R2:={ h with mem:=h.mem.call he }
theorem RQ0.grow {X' Y':Value} {vs' es':List ByteArray} {R':List (List Value × Value)} (h:RQ0 w0 w O rb tb rest a0 vs es A c X Y T4 T5 a1 a2 a3 a6 L R2) (hm:Mem w0 w' L') (hR:RowsP 9 O L' ((vs'.map Value.string,X')::(es'.map Value.string,Y')::R')) (hk:∀ y∈L,y.1∈O→y∈L'):RQ0 w0 w' O rb tb rest a0 vs' es' A c X' Y' T4 T5 a1 a2 a3 a6 L' R':=by
 refine ⟨hm,hk _ h.rd h.hrb,hk _ h.tg h.htb,hR,fun hne=>?_,h.hc,h.hrb,h.htb,h.ne,fun g hg=>?_,h.small⟩
 ·obtain ⟨g,cur,off,h1,h2,h3,h4,h5,h6⟩:=h.sl hne;exact ⟨g,cur,off,h1,h2,h3,h4,hk _ h5 h2,h6⟩
 ·obtain ⟨o,ho⟩:=h.all g hg;exact ⟨o,hk _ ho hg⟩
theorem V.RowsP.nilrow {e:TypeId} {R:List (List Value × Value)} (h:RowsP e O L R):RowsP e O L (R++[([],.slice none 0 0)]):=by
 have back:∀ (k:Nat) p,(R++[([],Value.slice none 0 0)])[k]?=some p→R[k]?=some p∨p=([],.slice none 0 0):=fun k p hp=>by
  rw [List.getElem?_append] at hp
  split at hp
  ·exact .inl hp
  ·exact .inr (by have:=List.mem_of_getElem? hp;simpa using this)
 refine ⟨fun k p hp=>?_,fun k p g hp hg=>?_,fun k k' p p' g hp hp' hne hg=>?_⟩
 ·rcases back k p hp with hp|rfl
  ·exact h.row k p hp
  ·exact RowB.nil e L
 ·rcases back k p hp with hp|rfl
  ·exact h.out k p g hp hg
  ·cases hg
 ·rcases back k p hp with hp|rfl
  ·rcases back k' p' hp' with hp' | rfl
   ·exact h.ap k k' p p' g hp hp' hne hg
   ·intro hg';cases hg'
  ·cases hg
theorem V.RowsP.newrow {e:TypeId} {R:List (List Value × Value)} {x:Value} {b:Nat} (h:RowsP e O L R) (hb:∀ y∈L,y.1≠b) (hO:b∉O):RowsP e O ((b,.cells #[x] e (0,0))::L) (R++[([x],.slice (some ⟨b,0,none⟩) 1 1)]):=by
 have back:∀ (k:Nat) p,(R++[([x],Value.slice (some ⟨b,0,none⟩) 1 1)])[k]?=some p→R[k]?=some p∨(k=R.length∧p=([x],.slice (some ⟨b,0,none⟩) 1 1)):=fun k p hp=>by
  rw [List.getElem?_append] at hp
  split at hp
  ·exact .inl hp
  ·obtain ⟨h1,h2⟩:=List.getElem?_eq_some_iff.1 hp;simp at h1;have:k-R.length=0:=by omega
   refine .inr ⟨by omega,?_⟩
   simpa [this] using h2.symm
 have fresh:∀ (k:Nat) p,R[k]?=some p→p.2.ownBlock≠some b:=fun k p hp hg=>by
  obtain ⟨o,hin⟩:=(h.row k p hp).in_ hg;exact hb _ hin rfl
 refine ⟨fun k p hp=>?_,fun k p g hp hg=>?_,fun k k' p p' g hp hp' hne hg=>?_⟩
 ·rcases back k p hp with hp|⟨_,rfl⟩
  ·exact (h.row k p hp).keep fun y hy _=>List.mem_cons_of_mem _ hy
  ·exact ⟨.inr ⟨b,1,#[x],rfl,List.mem_cons_self ..,Nat.le_refl _,by decide,rfl,rfl⟩⟩
 ·rcases back k p hp with hp|⟨_,rfl⟩
  ·exact h.out k p g hp hg
  ·cases hg;exact hO
 ·rcases back k p hp with hp|⟨e1,rfl⟩<;>rcases back k' p' hp' with hp' | ⟨e2,rfl⟩
  ·exact h.ap k k' p p' g hp hp' hne hg
  ·intro hg';cases hg';exact fresh k p hp hg
  ·cases hg;exact fresh k' p' hp'
  ·exact absurd (e1.trans e2.symm) hne
theorem V.RowsP.cut {e:TypeId} {R R':List (List Value × Value)} (h:RowsP e O L (R++R')):RowsP e O L R:=by
 have up:∀ (k:Nat) p,R[k]?=some p→(R++R')[k]?=some p:=fun k p hp=>by
  rw [List.getElem?_append_left (List.getElem?_eq_some_iff.1 hp).1,hp]
 exact ⟨fun k p hp=>h.row k p (up k p hp),fun k p g hp hg=>h.out k p g (up k p hp) hg,fun k k' p p' g hp hp' hne hg=>h.ap k k' p p' g (up k p hp) (up k' p' hp') hne hg⟩
theorem RQ.nilrow (h:RQ w0 w O rb tb rest a0 vs es []):RQ w0 w O rb tb rest a0 vs es [([],.slice none 0 0)]:=by
 obtain ⟨A,c,X,Y,a1,a2,a3,a6,L,h⟩:=h;exact ⟨A,c,X,Y,a1,a2,a3,a6,L,{ h with rows:=h.rows.nilrow }⟩
theorem RQ.cut (h:RQ w0 w O rb tb rest a0 vs es R2):RQ w0 w O rb tb rest a0 vs es []:=by
 obtain ⟨A,c,X,Y,a1,a2,a3,a6,L,h⟩:=h;exact ⟨A,c,X,Y,a1,a2,a3,a6,L,{ h with rows:=RowsP.cut (R:=[(vs.map Value.string,X),(es.map Value.string,Y)]) (R':=R2) h.rows }⟩
theorem NewV.rq {o:Obj} {K:Nat→World→Prop} (h:RQ w0 w O rb tb rest a0 vs es R2) (hk:∀ b w',RQ w0 w' O rb tb rest a0 vs es R2→w'.heap[b]?=some o→K b w'):NewV w o K:=
 ⟨fun b w' hb hw=>hk b w' (h.call (by subst hw;exact (Ext.refl w).alloc o)) (by subst hb hw;exact heap_alloc_new w o)⟩
theorem NewV.rq0 {o:Obj} {K:Nat→World→Prop} (h:RQ0 w0 w O rb tb rest a0 vs es A c X Y T4 T5 a1 a2 a3 a6 L R2) (hk:∀ b w',RQ0 w0 w' O rb tb rest a0 vs es A c X Y T4 T5 a1 a2 a3 a6 L R2→w'.heap[b]?=some o→K b w'):NewV w o K:=
 ⟨fun b w' hb hw=>hk b w' (h.call (by subst hw;exact (Ext.refl w).alloc o)) (by subst hb hw;exact heap_alloc_new w o)⟩
theorem NewV.rqrow {x:Value} {K:Nat→World→Prop} (h:RQ w0 w O rb tb rest a0 vs es []) (hk:∀ b w',RQ w0 w' O rb tb rest a0 vs es [([x],.slice (some ⟨b,0,none⟩) 1 1)]→K b w'):NewV w (.cells #[x] 9 (0,0)) K:=by
 obtain ⟨A,c,X,Y,a1,a2,a3,a6,L,h⟩:=h;refine ⟨fun b w' hb hw=>hk b w' ?_⟩;have hlt:∀ y∈L,y.1≠b:=fun y hy e=>by have:=h.mem.lt (o:=y.2) (b:=y.1) hy;omega
 have hO:b∉O:=fun hg=>by
  obtain ⟨o,ho⟩:=h.all b hg;exact hlt _ ho rfl
 have hr:=RowsP.newrow (x:=x) h.rows hlt hO;exact ⟨A,c,X,Y,a1,a2,a3,a6,_,h.grow (h.mem.new hb hw) hr fun y hy _=>List.mem_cons_of_mem _ hy⟩
theorem RQ.appL {l:List ByteArray} {x:ByteArray} {nb:Nat} {B:Option Addr} {d ty:TypeId} {K:Value→World→Prop} (h:RQ w0 w O rb tb rest a0 vs es [(l.map Value.string,.slice B l.length d)]) (hb:w.heap[nb]?=some (.cells #[.string x] 9 (0,0))) (hl:l.length≤7000000000000)
  (hk:∀ B' d' w',RQ w0 w' O rb tb rest a0 vs es [((l++[x]).map Value.string,.slice B' (l++[x]).length d')]→K (.slice B' (l.length+1) d') w'):AppV Tryz.prog #[37,37] ty (.slice B l.length d) (.slice (some ⟨nb,0,none⟩) 1 1) w K:=by
 obtain ⟨A,c,X,Y,a1,a2,a3,a6,L,h⟩:=h;refine h.rows.app 2 rfl qm6 strI strZ (by kernel_rfl) rfl (by decide +kernel) h.mem h.all (by simp) rfl (by rw [qd hb];rfl) (by omega) ?_;intro B' d' w' L' hm hR hkp;refine hk B' d' w' ⟨A,c,X,Y,a1,a2,a3,a6,L',h.grow hm ?_ hkp⟩;rw [List.map_append,List.length_append];exact hR
theorem RQ.rowL {l:List ByteArray} {B:Option Addr} {n d:Nat} (h:RQ w0 w O rb tb rest a0 vs es [(l.map Value.string,.slice B n d)]):SlAt V.encS 1 w B l:=by
 obtain ⟨A,c,X,Y,a1,a2,a3,a6,L,h⟩:=h;exact RowB.sl (h.rows.row 2 _ rfl) h.mem
theorem RQ0.rowL {l:List ByteArray} {B:Option Addr} {n d:Nat} (h:RQ0 w0 w O rb tb rest a0 vs es A c X Y T4 T5 a1 a2 a3 a6 L [(l.map Value.string,.slice B n d)]):SlAt V.encS 1 w B l:=RowB.sl (h.rows.row 2 _ rfl) h.mem
theorem RQ0.app4 {x:ByteArray} {nb:Nat} {B:Option Addr} {d ty:TypeId} {K:Value→World→Prop} (h:RQ0 w0 w O rb tb rest a0 vs es A c (.slice B vs.length d) Y T4 T5 a1 a2 a3 a6 L R2) (hb:w.heap[nb]?=some (.cells #[.string x] 9 (0,0))) (hl:vs.length≤7000000000000)
  (hk:∀ B' d' w' L',RQ0 w0 w' O rb tb rest a0 (vs++[x]) es A c (.slice B' (vs.length+1) d') Y T4 T5 a1 a2 a3 a6 L' R2→K (.slice B' (vs.length+1) d') w'):AppV Tryz.prog #[37,37] ty (.slice B vs.length d) (.slice (some ⟨nb,0,none⟩) 1 1) w K:=by
 refine h.rows.app 0 rfl qm6 strI strZ (by kernel_rfl) rfl (by decide +kernel) h.mem h.all (by simp) rfl (by rw [qd hb];rfl) (by omega) ?_;intro B' d' w' L' hm hR hkp;refine hk B' d' w' L' (h.grow hm ?_ hkp);rw [List.map_append];exact hR
theorem RQ0.app5 {x:ByteArray} {nb:Nat} {B:Option Addr} {d ty:TypeId} {K:Value→World→Prop} (h:RQ0 w0 w O rb tb rest a0 vs es A c X (.slice B es.length d) T4 T5 a1 a2 a3 a6 L R2) (hb:w.heap[nb]?=some (.cells #[.string x] 9 (0,0))) (hl:es.length≤7000000000000)
  (hk:∀ B' d' w' L',RQ0 w0 w' O rb tb rest a0 vs (es++[x]) A c X (.slice B' (es.length+1) d') T4 T5 a1 a2 a3 a6 L' R2→K (.slice B' (es.length+1) d') w'):AppV Tryz.prog #[37,37] ty (.slice B es.length d) (.slice (some ⟨nb,0,none⟩) 1 1) w K:=by
 refine h.rows.app 1 rfl qm6 strI strZ (by kernel_rfl) rfl (by decide +kernel) h.mem h.all (by simp) rfl (by rw [qd hb];rfl) (by omega) ?_;intro B' d' w' L' hm hR hkp;refine hk B' d' w' L' (h.grow hm ?_ hkp);rw [List.map_append];exact hR
theorem RQ0.st4 {B:Option Addr} {n d:Nat} {K:World→Prop} (h:RQ0 w0 w O rb tb rest a0 vs es A c (.slice B n d) Y T4 Y a1 a2 a3 a6 L R2) (hK:∀ w',RQ w0 w' O rb tb rest a0 vs es R2→K w'):StoreV w tb 4 (.slice B n d) K:=
 qd0 h.mem h.tg (by simp [tagC]) rfl fun w' L' hm ht hkp=>hK w' (h.tag hm ht hkp)
theorem RQ0.st5 {B:Option Addr} {n d:Nat} {K:World→Prop} (h:RQ0 w0 w O rb tb rest a0 vs es A c X (.slice B n d) X T5 a1 a2 a3 a6 L R2) (hK:∀ w',RQ w0 w' O rb tb rest a0 vs es R2→K w'):StoreV w tb 5 (.slice B n d) K:=
 qd0 h.mem h.tg (by simp [tagC]) rfl fun w' L' hm ht hkp=>hK w' (h.tag hm ht hkp)
end
def qd1 (lo hi:Nat) (dig:Bool):List ByteArray→Bool
 | []=>false
 | x::_=>decide (lo≤x.size∧x.size≤hi)&&(bif dig then digA x else letA x)
theorem qbe {w0 w:World} {O:List Nat} {rb tb:Nat} {x:ByteArray} {xs:List ByteArray} {a0:ByteArray} {vs es:List ByteArray} {R2:List (List Value × Value)} (h:RQ w0 w O rb tb (x::xs) a0 vs es R2) :
  Gv Tryz.prog 271 [.pointer (some ⟨rb,0,none⟩)] w fun v w'=>v=.string x∧RQ w0 w' O rb tb xs a0 vs es R2:=by
 refine zE Tryz.func271 Tryz.ntmps271 ?_;(conv=>whnf);refine h.ldr ?_;intro A c hS hc;(conv=>whnf);refine ElemV.sl hS rfl 0 rfl (by simp) ?_;intro b off hcl;(conv=>whnf);refine LoadV.cell0 hcl ?_;(conv=>whnf);obtain ⟨A,c,X,Y,a1,a2,a3,a6,L,h⟩:=h;refine LoadV.own (h.mem.get h.rd) rfl ?_;(conv=>whnf);obtain ⟨g,cur,off,rfl,hg,g1,g2,g3,g4⟩:=h.sl (by simp);refine V.SliceV.tailA rfl rfl h.hc ?_;intro A' c' hA' hc';(conv=>whnf);refine qd0 h.mem h.rd (show 0<1 by omega) rfl ?_;intro w2 L2 hm hr hk;(conv=>whnf);refine ⟨rfl,A',c',X,Y,a1,a2,a3,a6,L2,hm,hr,hk _ h.tg (fun e=>h.ne e.symm),h.rows.keep fun y hy hO=>hk y hy fun e=>hO (e ▸ h.hrb),fun hne=>?_,hc',h.hrb,h.htb,h.ne,fun g' hg'=>?_,fun y hy=>h.small y (List.mem_cons_of_mem _ hy)⟩
 ·refine ⟨g,cur,off+1,hA' (by simpa using hne),hg,g1,g2,hk _ g3 g1,fun j y hj=>?_⟩;have:=g4 (j+1) y (by simpa using hj)
  rwa [show off+1+j=off+(j+1) by omega]
 ·by_cases e:g'=rb
  ·subst e;exact ⟨_,hr⟩
  ·obtain ⟨o,ho⟩:=h.all g' hg';exact ⟨o,hk _ ho e⟩
theorem qgp {w0 w:World} {O:List Nat} {rb tb:Nat} {rest:List ByteArray} {a0:ByteArray} {vs es:List ByteArray} {R2:List (List Value × Value)} (lo hi:Nat) (dig:Bool) (h:RQ w0 w O rb tb rest a0 vs es R2) :
  Gv Tryz.prog 270 [.pointer (some ⟨rb,0,none⟩),.int .i64 lo,.int .i64 hi,.bool dig] w fun v w'=>v=.bool (qd1 lo hi dig rest)∧RQ w0 w' O rb tb rest a0 vs es R2:=by
 refine zE Tryz.func270 Tryz.ntmps270 ?_;(conv=>whnf);refine h.ldr ?_;intro A c hS hc;(conv=>whnf);cases rest with
 | nil=>
  (repeat' (first|((with_reducible refine zT ?_);(conv=>whnf))|((with_reducible refine zU ?_);(conv=>whnf))|((with_reducible refine zC (fun _=>?_) (fun _=>?_))<;>first|(exfalso;omega)|(conv=>whnf))))
  ·exact ⟨rfl,h⟩
  ·exact absurd rfl (by assumption)
 | cons x xs=>
  have hx:=h.small x (List.mem_cons_self ..);simp only [List.length_cons] at hc ⊢;refine Tst.no rfl ?_;(conv=>whnf);(iterate 3 (refine zU ?_;(conv=>whnf)));refine h.ldr ?_;intro A c hS hc;(conv=>whnf);refine zU ?_;(conv=>whnf);refine ElemV.sl hS rfl 0 rfl (by simp) ?_;intro b off hcl;(conv=>whnf);refine zU ?_;(conv=>whnf);refine LoadV.cell0 hcl ?_;conv=>whnf
  (repeat' (first|((with_reducible refine zT ?_);(conv=>whnf))|((with_reducible refine zU ?_);(conv=>whnf))|((with_reducible refine zC (fun _=>?_) (fun _=>?_))<;>first|(exfalso;omega)|(conv=>whnf))))
  ·have:¬ (lo≤x.size∧x.size≤hi):=fun e=>by simp only [List.getElem_cons_zero] at *;omega
   exact ⟨by rw [qd1,decide_eq_false this];rfl,h⟩
  ·refine h.ldr ?_;intro A c hS hc;(conv=>whnf);refine zU ?_;(conv=>whnf);refine ElemV.sl hS rfl 0 rfl (by simp) ?_;intro b off hcl;(conv=>whnf);refine zU ?_;(conv=>whnf);refine LoadV.cell0 hcl ?_;(conv=>whnf);(iterate 4 (refine zU ?_;(conv=>whnf)));refine zC (fun _=>?_) (fun _=>?_)<;>(conv=>whnf)
   ·have:¬ (lo≤x.size∧x.size≤hi):=fun e=>by simp only [List.getElem_cons_zero] at *;omega
    exact ⟨by rw [qd1,decide_eq_false this];rfl,h⟩
   ·have hin:lo≤x.size∧x.size≤hi:=by simp only [List.getElem_cons_zero] at *;omega
    have em:qd1 lo hi dig (x::xs)=bif dig then digA x else letA x:=by rw [qd1,decide_eq_true hin,Bool.true_and]
    rw [em];cases dig
    all_goals
     (conv=>whnf)
     (repeat' (first|((with_reducible refine zT ?_);(conv=>whnf))|((with_reducible refine zU ?_);(conv=>whnf))))
     refine h.ldr ?_;intro A c hS hc;(conv=>whnf);refine ElemV.sl hS rfl 0 rfl (by simp) ?_;intro b off hcl;(conv=>whnf);refine LoadV.cell0 hcl ?_;conv=>whnf
    ·refine CallV.of (qib x (by omega) w) ?_;rintro v w' ⟨rfl,rfl⟩;(conv=>whnf);exact ⟨rfl,h⟩
    ·refine CallV.of (qd4 x (by omega) w) ?_;rintro v w' ⟨rfl,rfl⟩;(conv=>whnf);exact ⟨rfl,h⟩
open Go.RowKit V
set_option maxRecDepth 100000
theorem qb3 (lo hi:Nat) (x:ByteArray) (xs:List ByteArray):qd1 lo hi false (x::xs)=qv x lo hi true:=by
 have:letA x=x.data.toList.all (alnB true):=by
  unfold letA
  congr 1
  funext c
  simp [alnB]
 rw [qd1,qv,cond_false,this,Bool.and_comm]
theorem qno {w0 w:World} {O:List Nat} {rb tb:Nat} {rest:List ByteArray} {a0:ByteArray} {vs es:List ByteArray} (h:RQ w0 w O rb tb rest a0 vs es []) :
  Gv Tryz.prog 269 [.pointer (some ⟨rb,0,none⟩),.pointer (some ⟨tb,0,none⟩)] w fun v w'=>(qdb rest=none∧v=.bool false∧Ext w0 w')∨
   ∃ rest' b0,qdb rest=some rest'∧v=.bool true∧2≤b0.size∧RQ w0 w' O rb tb rest' b0 vs es []:=by
 refine zE Tryz.func269 Tryz.ntmps269 ?_;(conv=>whnf);refine CallV.of (qgp 2 3 false h) ?_;rintro v w1 ⟨rfl,h1⟩;(conv=>whnf);cases q1:qd1 2 3 false rest
 ·(conv=>whnf);refine zU ?_;(conv=>whnf);refine CallV.of (qgp 4 8 false h1) ?_;rintro v w2 ⟨rfl,h2⟩;(conv=>whnf);cases q2:qd1 4 8 false rest
  ·(conv=>whnf);refine zU ?_;(conv=>whnf);refine .inl ⟨?_,rfl,h2.ext⟩;cases rest with
   | nil=>rfl
   | cons x xs=>
    rw [qb3] at q1 q2;rw [qdb,if_neg];intro hm;simp [qv] at hm q1 q2;obtain ⟨ha,hb⟩:=hm;have:=q1 ha;have:=q2 ha;omega
  ·obtain ⟨x,xs,rfl⟩:∃ x xs,rest=x::xs:=by
    cases rest with
    | nil=>cases q2
    | cons x xs=>exact ⟨x,xs,rfl⟩
   rw [qb3] at q2;simp [qv] at q2;(conv=>whnf);refine zT ?_;(conv=>whnf);refine CallV.of (qbe h2) ?_;rintro v w3 ⟨rfl,h3⟩;(conv=>whnf);refine h3.st0 x ?_;intro w4 h4;(conv=>whnf);refine .inr ⟨xs,x,?_,rfl,by omega,h4⟩;rw [qdb,if_pos (by simp [qv];exact ⟨q2.1,by omega,by omega⟩),if_pos (by omega)]
 ·obtain ⟨x,xs,rfl⟩:∃ x xs,rest=x::xs:=by
   cases rest with
   | nil=>cases q1
   | cons x xs=>exact ⟨x,xs,rfl⟩
  rw [qb3] at q1;simp [qv] at q1;have hL:qdb (x::xs)=some (qdq 3 xs):=by rw [qdb,if_pos (by simp [qv];exact ⟨q1.1,by omega,by omega⟩),if_neg (by omega)]
  rw [hL];(conv=>whnf);refine zT ?_;(conv=>whnf);refine CallV.of (qbe h1) ?_;rintro v w3 ⟨rfl,h3⟩;(conv=>whnf);refine h3.st0 x ?_;intro w4 h4;(conv=>whnf);refine qm (fun y:List ByteArray × List ByteArray × Option Addr × Nat=>[(0,.pointer (some ⟨rb,0,none⟩)),(1,.pointer (some ⟨tb,0,none⟩)),(5,.slice y.2.2.1 y.1.length y.2.2.2)])
   (fun y w5=>RQ w0 w5 O rb tb y.2.1 x vs es [(y.1.map Value.string,.slice y.2.2.1 y.1.length y.2.2.2)]∧y.1.length≤3∧(∀ z∈y.1,z.size≤3)∧qdq (3-y.1.length) y.2.1=qdq 3 xs)
   (fun y=>3-y.1.length) ([],xs,none,0) ⟨rfl,rfl,rfl,trivial⟩ ⟨h4.nilrow,by simp,by simp,rfl⟩ ?_
  rintro ⟨l,r5,B,d⟩ w5 ρ' ⟨h5,hl,hz,e5⟩;simp only at h5 hl hz e5;dsimp only;conv=>whnf
  (repeat' (first|((with_reducible refine zT ?_);(conv=>whnf))|((with_reducible refine zU ?_);(conv=>whnf))|((with_reducible refine zC (fun _=>?_) (fun _=>?_))<;>first|(exfalso;omega)|(conv=>whnf))))
  ·have hl3:l.length<3:=by omega
   obtain ⟨m,hm⟩:∃ m,3-l.length=m+1:=⟨2-l.length,by omega⟩
   rw [hm] at e5;refine CallV.of (qgp 3 3 false h5) ?_;rintro v w6 ⟨rfl,h6⟩;cases q3:qd1 3 3 false r5
   ·have e6:qdq 3 xs=r5:=by
     cases r5 with
     | nil=>rw [← e5];rfl
     | cons y ys=>
      rw [qb3] at q3;rw [← e5,qdq,if_neg (by rw [q3];simp)]
    rw [e6];(conv=>whnf);refine zT ?_;(conv=>whnf);refine zU ?_;(conv=>whnf);refine CallV.of (qef l B d w6 h6.rowL (fun z hz'=>by have:=hz z hz';omega) (by omega)) ?_;rintro v w7 ⟨rfl,he7⟩;have h7:=h6.call he7;(conv=>whnf);refine h7.st (by simp) _ ?_;intro w8 h8;(conv=>whnf);exact .inr ⟨r5,x,rfl,rfl,by omega,h8.cut⟩
   ·obtain ⟨y,ys,rfl⟩:∃ y ys,r5=y::ys:=by
     cases r5 with
     | nil=>cases q3
     | cons y ys=>exact ⟨y,ys,rfl⟩
    rw [qb3] at q3;rw [qdq,if_pos q3] at e5;simp [qv] at q3;(conv=>whnf);(iterate 2 (refine zT ?_;(conv=>whnf)));refine CallV.of (qbe h6) ?_;rintro v w7 ⟨rfl,h7⟩;(conv=>whnf);refine NewV.rq h7 ?_;intro nb w8 h8 hnb;(conv=>whnf);refine h8.appL hnb (by omega) ?_;intro B' d' w9 h9;(conv=>whnf);refine ⟨(l++[y],ys,B',d'),⟨rfl,rfl,by simp only [List.length_append];rfl,trivial⟩,⟨h9,by simp;omega,?_,?_⟩,by simp;omega⟩
    ·intro z hz'
     rcases List.mem_append.1 hz' with hz' | hz'
     ·exact hz z hz'
     ·obtain rfl:=List.mem_singleton.1 hz';omega
    ·simp only [List.length_append,List.length_singleton];rw [show 3-(l.length+1)=m by omega];exact e5
  ·have hl3:l.length=3:=by omega
   rw [hl3] at e5;have e6:qdq 3 xs=r5:=by rw [← e5];rfl
   rw [e6];refine CallV.of (qef l B d w5 h5.rowL (fun z hz'=>by have:=hz z hz';omega) (by omega)) ?_;rintro v w7 ⟨rfl,he7⟩;have h7:=h5.call he7;(conv=>whnf);refine h7.st (by simp) _ ?_;intro w8 h8;(conv=>whnf);exact .inr ⟨r5,x,rfl,rfl,by omega,h8.cut⟩
theorem qq8 {w0 w:World} {O:List Nat} {rb tb:Nat} {rest:List ByteArray} {a0:ByteArray} {vs es:List ByteArray} (h:RQ w0 w O rb tb rest a0 vs es []) (hn:rest.length≤1000000) :
  Gv Tryz.prog 275 [.pointer (some ⟨rb,0,none⟩),.pointer (some ⟨tb,0,none⟩)] w fun v w'=>v=.bool (decide (rest.tail≠[])&&rest.tail.all qhf)∧RQ w0 w' O rb tb rest a0 vs es []:=by
 refine zE Tryz.func275 Tryz.ntmps275 ?_;(conv=>whnf);refine h.ldr ?_;intro A c hS hc;(conv=>whnf);refine CallV.of (qef rest A c w hS h.small hn) ?_;rintro v w1 ⟨rfl,he1⟩;have h1:=h.call he1;(conv=>whnf);refine h1.st (by simp) _ ?_;intro w2 h2;(conv=>whnf);refine h2.ldr ?_;intro A2 c2 hS2 hc2;(conv=>whnf);refine zC (fun _=>?_) (fun _=>?_)<;>(conv=>whnf)
 ·have:rest.tail=[]:=List.length_eq_zero_iff.1 (by rw [List.length_tail];omega);rw [this];exact ⟨rfl,h2⟩
 ·have ht:rest.tail≠[]:=fun e=>by have:=congrArg List.length e;rw [List.length_tail] at this;simp at this;omega
  rw [decide_eq_true ht,Bool.true_and];refine qm (fun i:Nat=>[(0,.pointer (some ⟨rb,0,none⟩)),(1,.pointer (some ⟨tb,0,none⟩)),(5,.int .i64 (i+1:Nat))])
   (fun i w3=>RQ w0 w3 O rb tb rest a0 vs es []∧i≤rest.tail.length∧(rest.tail.take i).all qhf=true)
   (fun i=>rest.tail.length-i) 0 ⟨rfl,rfl,rfl,trivial⟩ ⟨h2,by simp,rfl⟩ ?_
  rintro i w3 ρ' ⟨h3,hi,ha⟩;rw [List.length_tail] at hi ⊢;(conv=>whnf);refine h3.ldr ?_;intro A3 c3 hS3 hc3;(conv=>whnf);refine zC (fun _=>?_) (fun _=>?_)<;>(conv=>whnf)
  ·refine h3.ldr ?_;intro A4 c4 hS4 hc4;(conv=>whnf);have hlt:i+1<rest.length:=by omega
   have htl:i<rest.tail.length:=by rw [List.length_tail];omega
   have hx:=h3.small _ (List.getElem_mem hlt);have eg:rest.tail[i]=rest[i+1]:=by rw [List.getElem_tail]
   refine ElemV.sl hS4 rfl (i+1) rfl hlt ?_;intro b off hcl;(conv=>whnf);refine LoadV.cell0 hcl ?_;(conv=>whnf);refine CallV.of (qfa _ 1 8 (by omega) w3) ?_;rintro v w4 ⟨rfl,rfl⟩;cases q:qv rest[i+1] 1 8 false
   ·(conv=>whnf);refine zP ?_;refine zU ?_;(conv=>whnf);refine ⟨?_,h3⟩;have:rest.tail.all qhf=false:=by
     rw [List.all_eq_false];exact ⟨_,List.getElem_mem htl,by rw [eg,qhf,q];simp⟩
    rw [this]
   ·(conv=>whnf);refine zP ?_;refine zT ?_;(conv=>whnf);refine zA ?_;(conv=>whnf);refine ⟨i+1,⟨rfl,rfl,rfl,trivial⟩,⟨h3,by first|omega|(rw [List.length_tail];omega),?_⟩,by first|omega|(rw [List.length_tail];omega)⟩;rw [List.take_succ_eq_append_getElem htl,List.all_append,ha,eg];simp [qhf,q]
  ·rw [List.take_of_length_le (by rw [List.length_tail];omega)] at ha;rw [ha];exact ⟨rfl,h3⟩
open Go.RowKit V
set_option maxRecDepth 100000
def qeq (e:ByteArray):ByteArray:=lowS (e.extract 0 1)
def jnS (l:List ByteArray):ByteArray:=⟨(jn l).toArray⟩
theorem qv8 {x:ByteArray} {l:List ByteArray} (hx:x.size=1):1≤(jnS (x::l)).size∧qeq (jnS (x::l))=lowS x:=by
 obtain ⟨⟨c⟩⟩:=x;have hc:c.length=1:=hx;obtain ⟨b,rfl⟩:=List.length_eq_one_iff.1 hc;refine ⟨by show 1≤(jn _).toArray.size;simp [jn],?_⟩;unfold qeq
 congr 1
 have:(jnS (⟨⟨[b]⟩⟩::l)).extract 0 1=(⟨⟨[b]⟩⟩:ByteArray):=by
  have h:=qkj (l:=[(jnS (⟨⟨[b]⟩⟩::l)).extract 0 1]) (m:=[⟨⟨[b]⟩⟩]) (by rw [List.map_cons,qkn];simp [jnS,jn])
  simpa using h
 exact this
theorem qh {vals:Nat→Value} {k:Nat} {v:Value} (h:vals k=v):vals=upd vals k v:=by
 funext j
 by_cases e:j=k
 ·subst e;rw [qdk,h]
 ·rw [qam _ _ _ _ e]
theorem RQ.cell5 {w0 w:World} {O:List Nat} {rb tb:Nat} {rest:List ByteArray} {a0:ByteArray} {vs es:List ByteArray} {R2:List (List Value × Value)} (h:RQ w0 w O rb tb rest a0 vs es R2) :
  ∃ A c,SlAt V.encS 1 w A es∧w.cell? ⟨tb,5,none⟩=some (.slice A es.length c):=by
 obtain ⟨A,c,X,Y,a1,a2,a3,a6,L,h⟩:=h;obtain ⟨B,d,e⟩:=(h.rows.row 1 _ rfl).slice;simp only [List.length_map] at e;subst e;exact ⟨B,d,RowB.sl (h.rows.row 1 _ rfl) h.mem,by rw [qd (h.mem.get h.tg)];rfl⟩
theorem qlz {w0 w:World} {O:List Nat} {rb tb:Nat} {x:ByteArray} {xs:List ByteArray} {a0:ByteArray} {vs es:List ByteArray} (h:RQ w0 w O rb tb (x::xs) a0 vs es []) (hx1:x.size=1) (hes:∀ e∈es,1≤e.size) (hn:xs.length+es.length+1≤1000000) :
  Gv Tryz.prog 274 [.pointer (some ⟨rb,0,none⟩),.pointer (some ⟨tb,0,none⟩)] w fun v w'=>Ext w0 w'∧
   (((xs.takeWhile extQ=[]∨∃ e∈es,qeq e=lowS x)∧v=.bool false)∨
   (¬ (xs.takeWhile extQ=[]∨∃ e∈es,qeq e=lowS x)∧v=.bool true∧RQ w0 w' O rb tb (xs.dropWhile extQ) a0 vs (es++[jnS (x::xs.takeWhile extQ)]) [])):=by
 refine zE Tryz.func274 Tryz.ntmps274 ?_;(conv=>whnf);refine CallV.of (qbe h) ?_;rintro v w1 ⟨rfl,h1⟩;(conv=>whnf);refine NewV.rqrow h1 ?_;intro nb w2 h2;(conv=>whnf);refine qm (fun y:List ByteArray × List ByteArray × Option Addr × Nat=>[(0,.pointer (some ⟨rb,0,none⟩)),(1,.pointer (some ⟨tb,0,none⟩)),(5,.slice y.2.2.1 (x::y.1).length y.2.2.2)])
  (fun y w5=>RQ w0 w5 O rb tb y.2.1 a0 vs es [((x::y.1).map Value.string,.slice y.2.2.1 (x::y.1).length y.2.2.2)]∧xs=y.1++y.2.1∧y.1.all extQ=true)
  (fun y=>y.2.1.length) ([],xs,some ⟨nb,0,none⟩,1) ⟨rfl,rfl,rfl,trivial⟩ ⟨h2,rfl,rfl⟩ ?_
 rintro ⟨pre,r5,B,d⟩ w5 ρ' ⟨h5,e5,a5⟩;simp only at h5 e5 a5;dsimp only;have hlen:xs.length=pre.length+r5.length:=by rw [e5];simp
 have tk:∀ ys,r5=ys→(∀ y zs,ys=y::zs→extQ y=false)→xs.takeWhile extQ=pre∧xs.dropWhile extQ=ys:=by
  rintro ys rfl hys;have ha:=List.all_eq_true.1 a5;rw [e5,List.takeWhile_append_of_pos ha,List.dropWhile_append_of_pos ha];cases r5 with
  | nil=>simp
  | cons y zs=>simp [hys y zs rfl]
 (conv=>whnf);refine h5.ldr ?_;intro A c hS hc
 rcases r5 with _|⟨y,ys⟩
 case' cons=>
  simp only [List.length_cons] at hc hlen ⊢;(conv=>whnf);refine Tst.yes (decide_eq_true (by omega)) ?_;(conv=>whnf);(iterate 3 (refine zT ?_;(conv=>whnf)));refine h5.ldr ?_;intro A c hS hc;(conv=>whnf);refine zT ?_;(conv=>whnf);refine ElemV.sl hS rfl 0 rfl (by simp) ?_;intro b off hcl;(conv=>whnf);refine zT ?_;(conv=>whnf);refine LoadV.cell0 hcl ?_;(conv=>whnf);refine zT ?_;(conv=>whnf);have hy:=h5.small y (List.mem_cons_self ..);refine CallV.of (qfa y 2 8 (by omega) w5) ?_;rintro v w6 ⟨rfl,rfl⟩;cases q:qv y 2 8 false
  case' true=>
   (conv=>whnf);(iterate 2 (refine zT ?_;(conv=>whnf)));refine CallV.of (qbe h5) ?_;rintro v w7 ⟨rfl,h7⟩;(conv=>whnf);refine NewV.rq h7 ?_;intro nb w8 h8 hnb;(conv=>whnf);refine h8.appL hnb (by simp;omega) ?_;intro B' d' w9 h9;(conv=>whnf);exact ⟨(pre++[y],ys,B',d'),⟨rfl,rfl,by simp only [List.length_append,List.length_cons];rfl,trivial⟩,⟨h9,by rw [e5];simp,by rw [List.all_append,a5];simp [extQ,q]⟩,by simp⟩
  case' false=>
   obtain ⟨t1,t2⟩:=tk _ rfl (fun y' zs e=>by cases e;exact q);clear hy;obtain ⟨r6,h5,t2⟩:∃ r6,RQ w0 _ O rb tb r6 a0 vs es [((x::pre).map Value.string,.slice B (x::pre).length d)]∧xs.dropWhile extQ=r6:=⟨_,h5,t2⟩
   rw [t1,t2];clear tk hS hcl q;(conv=>whnf);refine zT ?_;(conv=>whnf);refine zU ?_;conv=>whnf
 case' nil=>
  (conv=>whnf);refine Tst.no (decide_eq_false (by simp)) ?_;(conv=>whnf);(iterate 8 (refine zU ?_;(conv=>whnf)));obtain ⟨t1,t2⟩:=tk _ rfl (fun y' zs e=>by cases e);obtain ⟨r6,h5,t2⟩:∃ r6,RQ w0 _ O rb tb r6 a0 vs es [((x::pre).map Value.string,.slice B (x::pre).length d)]∧xs.dropWhile extQ=r6:=⟨_,h5,t2⟩
  rw [t1,t2];clear tk hS
 all_goals
  have hx0:=h.small x (List.mem_cons_self ..);have hpl:pre.length≤xs.length:=by omega
  have hl0:(x::pre).length=pre.length+1:=rfl;refine qm (fun i:Nat=>[(0,.pointer (some ⟨rb,0,none⟩)),(1,.pointer (some ⟨tb,0,none⟩)),(5,.slice B (x::pre).length d),(7,.int .i64 i)])
   (fun i w6=>RQ w0 w6 O rb tb r6 a0 vs es [((x::pre).map Value.string,.slice B (x::pre).length d)]∧i≤es.length∧∀ (j:Nat) (hj:j<es.length),j<i→qeq es[j]≠lowS x)
   (fun i=>es.length-i) 0 ⟨rfl,rfl,rfl,rfl,trivial⟩ ⟨h5,by omega,fun j hj h0=>by omega⟩ ?_
  rintro i w6 ρ' ⟨h6,hi,hd⟩;(conv=>whnf);obtain ⟨EA,ec,hES,hc5⟩:=h6.cell5;refine LoadV.of hc5 ?_;conv=>whnf
  (repeat' ((with_reducible refine zC (fun _=>?_) (fun _=>?_))<;>first|(exfalso;omega)|(conv=>whnf)))
  ·have hil:i<es.length:=by omega
   have hei:=hes _ (List.getElem_mem hil);obtain ⟨eb,eoff,rfl,hec⟩:=hES.at_ (fun e=>by rw [e] at hil;simp at hil);have hec:=hec i _ (List.getElem?_eq_getElem hil);obtain ⟨lb,loff,e9,hlc⟩:=h6.rowL.at_ (by simp);subst e9;have hlc:=hlc 0 x rfl;refine DrawV.free rfl (by kernel_rfl) ?_;(conv=>whnf);refine zD ?_;(conv=>whnf);refine zD ?_;(conv=>whnf);refine zD ?_;(conv=>whnf);refine zD ?_ (by intro wd hd;(conv=>whnf);refine LoadV.of (Ext.cell (Ext.trans (Ext.drew (Ext.refl _)) hd) hc5) ?_;(conv=>whnf);exact ⟨Ext.refl _,rfl⟩);(conv=>whnf);refine zD ?_;(conv=>whnf);refine zD ?_ (by intro wd hd;(conv=>whnf);refine ⟨⟨eb,eoff,i,rfl,by omega,by omega,?_⟩⟩;exact ⟨Ext.refl _,rfl⟩);(conv=>whnf);refine zD ?_ (by intro wd hd;(conv=>whnf);refine LoadV.of (Ext.cell (Ext.trans (Ext.drew (Ext.refl _)) hd) (hec 0 _ rfl)) ?_;(conv=>whnf);exact ⟨Ext.refl _,rfl⟩);(conv=>whnf);apply StepD.still (.string (es[i].extract 0 1))
   ·intro wd hd;(conv=>whnf);refine ⟨0,1,rfl,rfl,by omega,by omega,?_⟩;(conv=>whnf);exact ⟨Ext.refl _,rfl⟩
   (conv=>whnf);apply StepD.still (.string (qeq es[i]))
   ·intro wd hd;(conv=>whnf);refine CallV.of (qax (es[i].extract 0 1) (by rw [ByteArray.size_extract];omega) wd) ?_;rintro v w7 ⟨rfl,he7⟩;exact ⟨he7,rfl⟩
   (conv=>whnf);refine zD ?_;(conv=>whnf);refine zD ?_ (by intro wd hd;(conv=>whnf);refine ⟨⟨lb,loff,0,rfl,by omega,by omega,?_⟩⟩;exact ⟨Ext.refl _,rfl⟩);(conv=>whnf);refine zD ?_ (by intro wd hd;(conv=>whnf);refine LoadV.of (Ext.cell (Ext.trans (Ext.drew (Ext.refl _)) hd) (hlc 0 _ rfl)) ?_;(conv=>whnf);exact ⟨Ext.refl _,rfl⟩);(conv=>whnf);apply StepD.still (.string (lowS x))
   ·intro wd hd;(conv=>whnf);refine CallV.of (qax x (by omega) wd) ?_;rintro v w7 ⟨rfl,he7⟩;exact ⟨he7,rfl⟩
   (conv=>whnf);refine zD ?_;(conv=>whnf);intro wd hwd;have h7:=h6.drew.call hwd;(conv=>whnf);cases q:seq (qeq es[i]) (lowS x)
   ·(conv=>whnf)
    (repeat' (first|(refine zA ?_;(conv=>whnf))|((with_reducible refine zU ?_);(conv=>whnf))))
    refine ⟨i+1,⟨rfl,rfl,rfl,rfl,trivial⟩,⟨h7,by omega,fun j hj hji=>?_⟩,by omega⟩
    by_cases e:j=i
    ·subst e;intro e';rw [q7.2 e'] at q;cases q
    ·exact hd j hj (by omega)
   ·(conv=>whnf)
    (repeat' ((with_reducible refine zT ?_);(conv=>whnf)))
    exact ⟨h7.ext,.inl ⟨.inr ⟨_,List.getElem_mem hil,q7.1 q⟩,rfl⟩⟩
  ·have hno:¬ ∃ e∈es,qeq e=lowS x:=by
    rintro ⟨e,he,h9⟩;obtain ⟨j,hj,rfl⟩:=List.mem_iff_getElem.1 he;exact hd j hj (by omega) h9
   obtain ⟨A,c,X,Y,a1,a2,a3,a6,L,h6⟩:=h6;obtain ⟨EA,ec,e⟩:=(h6.rows.row 1 _ rfl).slice;simp only [List.length_map] at e;subst e;clear hES hc5;obtain ⟨J,hJ⟩:∃ J,J=jnS (x::pre):=⟨_,rfl⟩
   obtain ⟨rr,hrr⟩:∃ rr:List (List Value × Value),rr=[((x::pre).map Value.string,.slice B (x::pre).length d)]:=⟨_,rfl⟩
   have hsz:∀ z∈x::pre,z.size≤1000000:=fun z hz=>by
    rcases List.mem_cons.1 hz with rfl|hz
    ·exact hx0
    ·exact h.small z (List.mem_cons_of_mem _ (by rw [e5];exact List.mem_append_left _ hz))
   rw [← hrr] at h6;rw [← hJ];refine DrawV.gen (fun S vals w=>bif S 11 then (S 4=true∧S 6=true∧S 7=true∧S 8=true∧RQ w0 w O rb tb r6 a0 vs (es++[J]) rr)
    else bif S 8 then (S 4=true∧S 6=true∧S 7=true∧∃ B' d' L',vals 8=.slice B' (es.length+1) d'∧RQ0 w0 w O rb tb r6 a0 vs (es++[J]) A c X (.slice B' (es.length+1) d') X (.slice EA es.length ec) a1 a2 a3 a6 L' rr)
    else bif S 7 then (S 6=true∧∃ nb,vals 7=.slice (some ⟨nb,0,none⟩) 1 1∧w.heap[nb]?=some (.cells #[.string J] 9 (0,0))∧RQ0 w0 w O rb tb r6 a0 vs es A c X (.slice EA es.length ec) X (.slice EA es.length ec) a1 a2 a3 a6 L rr)
    else RQ0 w0 w O rb tb r6 a0 vs es A c X (.slice EA es.length ec) X (.slice EA es.length ec) a1 a2 a3 a6 L rr) rfl (by kernel_rfl) (fun vals=>h6.call (Ext.refl _).drew) ?_
   (conv=>whnf);refine zG ?_;(conv=>whnf);refine zG ?_;(conv=>whnf);refine zG ?_;(conv=>whnf);refine zG ?_;conv=>whnf
   ·
    refine StepG.of (.slice EA es.length ec) (fun S vals wd hk hp hI=>?_) ?_
    ·dsimp only at hI;cases h11:S 11
     ·rw [h11] at hI;cases h8:S 8
      ·rw [h8] at hI;cases h7:S 7
       ·rw [h7] at hI;(conv=>whnf);refine LoadV.own (hI.mem.get hI.tg) rfl ?_;(conv=>whnf);refine ⟨rfl,?_⟩;show bif S 11 then _ else bif S 8 then _ else bif S 7 then _ else _;rw [h11,h8,h7];exact hI
       ·rw [h7] at hI;obtain ⟨i6,nb,e7,hnb,hQ⟩:=hI;(conv=>whnf);refine LoadV.own (hQ.mem.get hQ.tg) rfl ?_;(conv=>whnf);refine ⟨rfl,?_⟩;show bif S 11 then _ else bif S 8 then _ else bif S 7 then _ else _;rw [h11,h8,h7];exact ⟨i6,nb,e7,hnb,hQ⟩
      ·rw [h8] at hI;have:=hI.1;rw [hk] at this;cases this
     ·rw [h11] at hI;have:=hI.1;rw [hk] at this;cases this
    (conv=>whnf);refine zG ?_;(conv=>whnf);refine StepG.of (.string J) (fun S vals wd hk hp hI=>?_) ?_
    ·dsimp only at hI;cases h11:S 11
     ·rw [h11] at hI;cases h8:S 8
      ·rw [h8] at hI;cases h7:S 7
       ·rw [h7] at hI;(conv=>whnf);have hlr:=hI;rw [hrr] at hlr;refine CallV.of (qef (x::pre) B d wd hlr.rowL hsz (by simp;omega)) ?_;rintro v w7 ⟨rfl,he7⟩;refine ⟨by rw [hJ];rfl,?_⟩;show bif S 11 then _ else bif S 8 then _ else bif S 7 then _ else _;rw [h11,h8,h7];exact hI.call he7
       ·rw [h7] at hI;have:=hI.1;rw [hk] at this;cases this
      ·rw [h8] at hI;have:=hI.2.1;rw [hk] at this;cases this
     ·rw [h11] at hI;have:=hI.2.1;rw [hk] at this;cases this
    (conv=>whnf);refine StepG.any (fun S vals wd hk hp hI=>?_) ?_
    ·dsimp only at hI;have h6t:=hp 6 (by decide);cases h11:S 11
     ·rw [h11] at hI;cases h8:S 8
      ·rw [h8] at hI;rw [hk] at hI;(conv=>whnf);refine NewV.rq0 hI ?_;intro nb w8 h8' hnb;(conv=>whnf);refine ⟨trivial,?_⟩;show bif S 11 then _ else bif S 8 then _ else bif true then _ else _;rw [h11,h8];exact ⟨h6t,nb,rfl,hnb,h8'⟩
      ·rw [h8] at hI;have:=hI.2.2.1;rw [hk] at this;cases this
     ·rw [h11] at hI;have:=hI.2.2.1;rw [hk] at this;cases this
    (conv=>whnf);refine StepG.any (fun S vals wd hk hp hI=>?_) ?_
    ·dsimp only at hI;have h4t:=hp 4 (by decide);have h7t:=hp 7 (by decide);cases h11:S 11
     ·rw [h11] at hI;rw [hk] at hI;rw [h7t] at hI;obtain ⟨i6,nb,e7,hnb,hQ⟩:=hI;rw [qh e7];(conv=>whnf);refine hQ.app5 hnb (by omega) ?_;intro B' d' w8 L' hQ';(conv=>whnf);refine ⟨trivial,?_⟩;show bif S 11 then _ else bif true then _ else bif S 7 then _ else _;rw [h11];exact ⟨h4t,i6,h7t,B',d',L',rfl,hQ'⟩
     ·rw [h11] at hI;have:=hI.2.2.2.1;rw [hk] at this;cases this
    (conv=>whnf);refine zG ?_;(conv=>whnf);refine zG ?_;(conv=>whnf);refine StepG.of undef (fun S vals wd hk hp hI=>?_) ?_
    ·dsimp only at hI;have h8t:=hp 8 (by decide);rw [hk] at hI;rw [h8t] at hI;obtain ⟨h4t,h6t,h7t,B',d',L',e8,hQ⟩:=hI;rw [qh e8];(conv=>whnf);refine hQ.st5 ?_;intro w8 hQ';(conv=>whnf);exact ⟨rfl,h4t,h6t,h7t,h8t,hQ'⟩
    (conv=>whnf);intro vals wd hI;obtain ⟨_,_,_,_,hQ⟩:=hI;(conv=>whnf);refine ⟨hQ.ext,?_⟩
    by_cases hp0:pre=[]
    ·subst hp0;exact .inl ⟨.inl rfl,rfl⟩
    ·have:0<pre.length:=List.length_pos_iff.2 hp0;exact .inr ⟨fun h9=>h9.elim hp0 hno,by rw [hl0,decide_eq_true (by omega)],hQ.cut⟩
open Go.RowKit V
set_option maxRecDepth 100000
theorem qpg (x:ByteArray):seq (lowS x) ⟨#[120]⟩=qdr x:=by
 rw [Bool.eq_iff_iff,q7];obtain ⟨⟨l⟩⟩:=x;unfold qdr lowS;simp only [decide_eq_true_eq]
 constructor
 ·intro h;have h:l.map lowB=[120]:=by
   have:=congrArg (fun b:ByteArray=>b.data.toList) h
   simpa using this
  obtain ⟨c,rfl⟩:∃ c,l=[c]:=List.length_eq_one_iff.1 (by have:=congrArg List.length h;simpa using this);simp only [List.map_cons,List.map_nil,List.cons.injEq,and_true] at h;unfold lowB at h
  split at h
  ·rename_i hc
   right
   have:c=88:=by
    have h2:=congrArg UInt8.toNat h;rw [UInt8.toNat_add] at h2;rw [← UInt8.toNat_inj];have:=c.toNat_lt;simp at h2 ⊢;omega
   subst this;rfl
  ·subst h;left;rfl
 ·rintro (h|h)
  ·cases h;rfl
  ·cases h;rfl
theorem qnv {x:ByteArray} (h:qdr x=true):varB x=false∧extS x=false:=by
 have hs:x.size=1:=by
  unfold qdr at h;simp at h
  rcases h with rfl|rfl<;>rfl
 refine ⟨?_,by rw [extS,h];simp⟩;simp [varB,qv,hs]
section
variable {w0 w w':World} {O:List Nat} {rb tb:Nat} {rest:List ByteArray} {a0:ByteArray} {vs es:List ByteArray} {R2:List (List Value × Value)}
theorem RQ.cell4 (h:RQ w0 w O rb tb rest a0 vs es R2):∃ A c,SlAt V.encS 1 w A vs∧w.cell? ⟨tb,4,none⟩=some (.slice A vs.length c):=by
 obtain ⟨A,c,X,Y,a1,a2,a3,a6,L,h⟩:=h;obtain ⟨B,d,e⟩:=(h.rows.row 0 _ rfl).slice;simp only [List.length_map] at e;subst e;exact ⟨B,d,RowB.sl (h.rows.row 0 _ rfl) h.mem,by rw [qd (h.mem.get h.tg)];rfl⟩
theorem RQ.ldA {K:List Value→Prop} (h:RQ w0 w O rb tb rest a0 vs es R2) (hk:∀ s0 s1 s2 s3 A n c A' n' c' s6,(∀ u∈[Value.string s0,.string s1,.string s2,.string s3,.slice A n c,.slice A' n' c',.string s6],u.oneCell'=true)→K [.string s0,.string s1,.string s2,.string s3,.slice A n c,.slice A' n' c',.string s6]):LoadA w tb 0 7 K:=by
 obtain ⟨A,c,X,Y,a1,a2,a3,a6,L,h⟩:=h;obtain ⟨B,d,e⟩:=(h.rows.row 0 _ rfl).slice;obtain ⟨B',d',e'⟩:=(h.rows.row 1 _ rfl).slice;simp only [List.length_map] at e e';subst e e';refine ⟨_,rfl,fun i hi=>?_,hk a0 a1 a2 a3 B vs.length d B' es.length d' a6 (tag7 ⟨⟨_,_,_,rfl⟩,⟨_,_,_,rfl⟩⟩ a0 a1 a2 a3 a6)⟩;rw [qd (h.mem.get h.tg),List.getElem?_toArray,Nat.zero_add];rfl
end
theorem qmb (s:ByteArray):(lowS s).size=s.size:=by
 show (s.data.toList.map lowB).toArray.size=s.size;simp
theorem V.later {A B:Prop} (h:A→B) (p:A):B:=h p
theorem qin (x:ByteArray) (xs:List ByteArray):regB x=(qd1 2 2 false (x::xs)||qd1 3 3 true (x::xs)):=by
 rw [qb3,regB]
 congr 1
 by_cases h3:x.size=3
 ·have e:digA x=(digN (gb x 0).toNat&&digN (gb x 1).toNat&&digN (gb x 2).toNat):=by
   unfold digA;have d0:=qau x 0 (by omega);have d1:=qau x 1 (by omega);have d2:=qau x 2 (by omega);have d3:x.data.toList.drop 3=[]:=List.drop_eq_nil_of_le (by simp;omega);rw [List.drop_zero] at d0;rw [d0,d1,d2,d3];simp [Bool.and_assoc]
  rw [qd1,e,decide_eq_true h3,decide_eq_true (by omega)];simp [Bool.and_assoc]
 ·rw [qd1,decide_eq_false h3,decide_eq_false (by omega)];simp
theorem qrk (s:ByteArray) (hs:s.size≤65536) (w:World) :
  Gv Tryz.prog 219 [.string s] w fun v w'=>TagV (qaz s) v∧Ext w w':=by
 obtain ⟨p1,p2⟩:=qjv s;have p0:qaz s≠[]:=fun e=>by have:=qju s;rw [e] at this;simp at this
 have parts:=qmv s (by omega);obtain ⟨l,hl⟩:∃ l,l=qaz s:=⟨_,rfl⟩
 rw [← hl] at p1 p2 p0 parts ⊢;refine zE Tryz.func219 Tryz.ntmps219 ?_;(conv=>whnf);refine NewV.mem (Mem.nil w) ?_;intro rt w1 hm1;(conv=>whnf);refine NewV.mem (Mem.nil w1) ?_;intro tb w2 hm2;(conv=>whnf);refine CallV.of (parts w2) ?_;rintro v w3 ⟨A,c,rfl,hR⟩;(conv=>whnf);have hlt:tb<w2.heap.size:=hm2.lt (List.mem_cons_self ..)
 rcases hR.own.2 with ⟨_,e2⟩|⟨g,cap,cur,e1,hge,hg,hnc,_,hsz,htk⟩
 ·exact absurd (List.length_eq_zero_iff.1 e2) p0
 cases e1;rw [Nat.mul_one] at htk hsz;have hm3:=(hm2.call hR.mem.ext).add hg (Nat.le_trans hm2.ext.size hge) (fun x hx=>by obtain rfl:=List.mem_singleton.1 hx;show tb<g;omega);refine NewV.mem hm3 ?_;intro rb w4 hm4;have hrb:rb≠g∧rb≠tb:=by
  have:=hm4.nodup;simp at this;exact ⟨fun e=>this.1.1 e,fun e=>this.1.2 e⟩
 have h4:RQ w1 w4 [rb,g,tb] rb tb l ⟨#[]⟩ [] [] []:=by
  refine ⟨_,_,.slice none 0 0,.slice none 0 0,⟨#[]⟩,⟨#[]⟩,⟨#[]⟩,⟨#[]⟩,_,hm4,List.mem_cons_self ..,List.mem_cons_of_mem _ (List.mem_cons_of_mem _ (List.mem_cons_self ..)),RowsP.nils _ _ _ _ (by simp),fun _=>⟨g,cur,0,rfl,by simp,fun e=>hrb.1 e.symm,fun e=>?_,List.mem_cons_of_mem _ (List.mem_cons_self ..),fun j x hj=>?_⟩,hnc,by simp,by simp,hrb.2,fun k hk=>?_,fun x hx=>by have:=p1 x hx;omega⟩
  ·omega
  ·have h9:(cur.toList.take l.length)[j]?=some (.string x):=by rw [htk,List.getElem?_map,hj];rfl
   rw [List.getElem?_take] at h9
   split at h9
   ·rw [Nat.zero_add];simpa using h9
   ·cases h9
  ·rcases List.mem_cons.1 hk with rfl|hk
   ·exact ⟨_,List.mem_cons_self ..⟩
   ·rcases List.mem_cons.1 hk with rfl|hk
    ·exact ⟨_,List.mem_cons_of_mem _ (List.mem_cons_self ..)⟩
    ·obtain rfl:=List.mem_singleton.1 hk;exact ⟨_,List.mem_cons_of_mem _ (List.mem_cons_of_mem _ (List.mem_cons_self ..))⟩
 clear hm4 hm3 hR hg;generalize hO:[rb,g,tb]=O at h4;(conv=>whnf);refine h4.ldr ?_;intro A c hS hc;obtain ⟨x,xs,hxl⟩:∃ x xs,l=x::xs:=by
  cases l with
  | nil=>exact absurd rfl p0
  | cons x xs=>exact ⟨x,xs,rfl⟩
 (conv=>whnf);refine ElemV.sl hS rfl 0 rfl (by rw [hxl];simp) ?_;intro b off hcl;(conv=>whnf);refine LoadV.cell0 hcl ?_;have hx0:l[0]'(by rw [hxl];simp)=x:=by subst hxl;rfl
 have hx6:=p1 x (by rw [hxl];simp);rw [hx0];(conv=>whnf);refine CallV.of (qax x (by omega) w4) ?_;rintro v w5 ⟨rfl,he5⟩;have h5:=h4.call he5;clear hcl hS hc h4 he5;(conv=>whnf);rw [qpg];obtain ⟨F,hF⟩:∃ F:List ByteArray × List ByteArray × ByteArray→List (Nat × Value),F=fun _=>[(2,.pointer (some ⟨rt,0,none⟩)),(4,.pointer (some ⟨tb,0,none⟩)),(5,.pointer (some ⟨rb,0,none⟩))]:=⟨_,rfl⟩
 obtain ⟨I,hI⟩:∃ I:List ByteArray × List ByteArray × ByteArray→World→Prop,I=fun y w6=>RQ w1 w6 O rb tb y.2.1 y.2.2 y.1 [] []∧tagR l=(qf6 (y.1.map lowS) y.2.1).bind (fun r=>extN r.2.length r.1 r.2)∧(∀ v∈y.1,4≤v.size∧v.size≤1000000)∧y.1.length+y.2.1.length≤l.length:=⟨_,rfl⟩
 obtain ⟨mm,hmm⟩:∃ mm:List ByteArray × List ByteArray × ByteArray→Nat,mm=fun y=>y.2.1.length:=⟨_,rfl⟩
 apply V.later
 case h=>
  intro body;cases q:qdr x
  ·refine zP ?_;refine zU ?_;(conv=>whnf);refine CallV.of (qno h5) ?_;have hT:tagR l=(qdb l).bind qgt:=by
    rw [tagR,if_neg (by rw [hxl];show ¬ qdr x=true;rw [q];simp)]
   rintro v w6 (⟨e2,rfl,he6⟩|⟨r1,b0,e2,rfl,hb0,h6⟩)
   ·rw [e2] at hT;have hno:¬ tagP l:=fun h=>by obtain ⟨l1,h1,_⟩:=h;rw [hT] at h1;cases h1
    (conv=>whnf);refine zP ?_;refine zU ?_;(conv=>whnf);refine StoreA.mem (hm1.call he6) (i:=0) rfl (Nat.le_refl 7) qc7 ?_;intro w9 hm9;(conv=>whnf);refine qa (R:=fun v w'=>TagV l v∧Ext w w') ?_;(conv=>whnf);refine zL hm9 0 ?_;(conv=>whnf);exact ⟨⟨_,_,_,_,_,_,_,qc7,by rw [qcm hno];rfl⟩,hm9.ext⟩
   rw [e2] at hT;have hb:seq b0 ⟨#[]⟩=false:=by rw [qiy];exact decide_eq_false (by omega)
   (conv=>whnf);refine zP ?_;refine zT ?_;(conv=>whnf);refine h6.ld0 ?_;(conv=>whnf);rw [hb];refine zP ?_;refine zU ?_;(conv=>whnf);refine zT ?_;(conv=>whnf);have hl1:=qia e2;refine CallV.of (qgp 4 4 false h6) ?_;rintro v w7 ⟨rfl,h7⟩;(conv=>whnf);cases q1:qd1 4 4 false r1
   case' false=>
    obtain ⟨r2,h8,es2,hl2⟩:∃ r2,RQ w1 w7 O rb tb r2 b0 [] [] []∧qcy r1=r2∧r2.length≤r1.length:=by
     refine ⟨r1,h7,?_,Nat.le_refl _⟩;cases r1 with
     | nil=>rfl
     | cons y ys=>
      rw [qb3] at q1;rw [qcy,if_neg (by rw [q1];simp)]
    clear h7 q1 h6;refine zT ?_;(conv=>whnf);refine zU ?_;conv=>whnf
   case' true=>
    obtain ⟨y,ys,rfl⟩:∃ y ys,r1=y::ys:=by
     cases r1 with
     | nil=>cases q1
     | cons y ys=>exact ⟨y,ys,rfl⟩
    rw [qb3] at q1;(iterate 2 (refine zT ?_;(conv=>whnf)));refine CallV.of (qbe h7) ?_;rintro v w8 ⟨rfl,h8⟩;(conv=>whnf);refine h8.st (by simp) _ ?_;intro w7 h9;obtain ⟨r2,h8,es2,hl2⟩:∃ r2,RQ w1 w7 O rb tb r2 b0 [] [] []∧qcy (y::ys)=r2∧r2.length≤(y::ys).length:=⟨ys,h9,by rw [qcy,if_pos q1],by simp⟩
    clear h7 q1 h6 h9;conv=>whnf
   all_goals
    refine h8.ld0 ?_;(conv=>whnf);rw [hb]
    (repeat' (first|((with_reducible refine zT ?_);(conv=>whnf))|((with_reducible refine zU ?_);(conv=>whnf))|((with_reducible refine zP ?_))))
    refine CallV.of (qgp 2 2 false h8) ?_;rintro v w9 ⟨rfl,h9⟩;(conv=>whnf);cases q2:qd1 2 2 false r2
    ·(repeat' (first|((with_reducible refine zT ?_);(conv=>whnf))|((with_reducible refine zU ?_);(conv=>whnf))))
     refine CallV.of (qgp 3 3 true h9) ?_;rintro v w10 ⟨rfl,h10⟩;cases q3:qd1 3 3 true r2
     ·have er:qb8 r2=r2:=by
       cases r2 with
       | nil=>rfl
       | cons y ys=>rw [qb8,if_neg (by rw [qin,q2,q3];simp)]
      (conv=>whnf)
      (repeat' (first|((with_reducible refine zT ?_);(conv=>whnf))|((with_reducible refine zU ?_);(conv=>whnf))))
      refine qm F I mm ([],r2,b0) (by rw [hF];exact ⟨rfl,rfl,rfl,trivial⟩) (by rw [hI];exact ⟨h10,by rw [hT];show qgt _=_;rw [qgt,es2,er];rfl,by simp,by simp only [List.length_nil];omega⟩) body
     ·obtain ⟨y,ys,rfl⟩:∃ y ys,r2=y::ys:=by
       cases r2 with
       | nil=>cases q3
       | cons y ys=>exact ⟨y,ys,rfl⟩
      have er:qb8 (y::ys)=ys:=by rw [qb8,if_pos (by rw [qin,q3];simp)]
      (conv=>whnf)
      (repeat' (first|((with_reducible refine zT ?_);(conv=>whnf))|((with_reducible refine zU ?_);(conv=>whnf))))
      refine CallV.of (qbe h10) ?_;rintro v w11 ⟨rfl,h11⟩;(conv=>whnf);refine h11.st (by simp) _ ?_;intro w12 h12;(conv=>whnf);refine qm F I mm ([],ys,b0) (by rw [hF];exact ⟨rfl,rfl,rfl,trivial⟩) (by rw [hI];exact ⟨h12,by rw [hT];show qgt _=_;rw [qgt,es2,er];rfl,by simp,by simp only [List.length_nil,List.length_cons] at *;omega⟩) body
    ·obtain ⟨y,ys,rfl⟩:∃ y ys,r2=y::ys:=by
      cases r2 with
      | nil=>cases q2
      | cons y ys=>exact ⟨y,ys,rfl⟩
     have er:qb8 (y::ys)=ys:=by rw [qb8,if_pos (by rw [qin,q2];simp)]
     (conv=>whnf)
     (repeat' ((with_reducible refine zT ?_);(conv=>whnf)))
     refine CallV.of (qbe h9) ?_;rintro v w11 ⟨rfl,h11⟩;(conv=>whnf);refine h11.st (by simp) _ ?_;intro w12 h12;(conv=>whnf);refine qm F I mm ([],ys,b0) (by rw [hF];exact ⟨rfl,rfl,rfl,trivial⟩) (by rw [hI];exact ⟨h12,by rw [hT];show qgt _=_;rw [qgt,es2,er];rfl,by simp,by simp only [List.length_nil,List.length_cons] at *;omega⟩) body
  ·have hT:tagR l=(qf6 [] l).bind fun r=>extN r.2.length r.1 r.2:=by
    rw [tagR,if_pos (by rw [hxl];exact q),hxl,qf6,if_neg (by rw [(qnv q).1];simp)];show _=extN (xs.length+1) [] (x::xs);rw [extN,if_neg (by rw [(qnv q).2];simp)]
   have hb:seq ⟨#[]⟩ ⟨#[]⟩=true:=by rw [qiy];rfl
   refine zP ?_;refine zT ?_;(conv=>whnf);refine h5.ld0 ?_;(conv=>whnf);rw [hb];refine zP ?_;refine zT ?_;(conv=>whnf);(iterate 3 (refine zU ?_;(conv=>whnf)));refine h5.ld0 ?_;(conv=>whnf);rw [hb];refine zP ?_;refine zT ?_;(conv=>whnf);(iterate 5 (refine zU ?_;(conv=>whnf)));refine qm F I mm ([],l,⟨#[]⟩) (by rw [hF];exact ⟨rfl,rfl,rfl,trivial⟩) (by rw [hI];exact ⟨h5,hT,by simp,by simp⟩) body
 case p=>
  subst hF hI hmm;rintro ⟨vs,r3,b0⟩ w6 ρ' ⟨h6,hT,hv4,hlen⟩;simp only at h6 hT hv4 hlen;dsimp only;obtain ⟨F,hF⟩:∃ F:Nat × List ByteArray × List ByteArray→List (Nat × Value),F=fun _=>[(2,.pointer (some ⟨rt,0,none⟩)),(4,.pointer (some ⟨tb,0,none⟩)),(5,.pointer (some ⟨rb,0,none⟩))]:=⟨_,rfl⟩
  obtain ⟨I,hI⟩:∃ I:Nat × List ByteArray × List ByteArray→World→Prop,I=fun y w6=>RQ w1 w6 O rb tb y.2.1 b0 vs y.2.2 []∧tagR l=extN y.1 (vs.map lowS++y.2.2.map qeq) y.2.1∧y.2.1.length≤y.1∧(∀ e∈y.2.2,1≤e.size)∧y.2.1.length+y.2.2.length≤l.length:=⟨_,rfl⟩
  obtain ⟨mm,hmm⟩:∃ mm:Nat × List ByteArray × List ByteArray→Nat,mm=fun y=>y.2.1.length:=⟨_,rfl⟩
  apply V.later
  case h=>
   intro body;(conv=>whnf);refine h6.ldr ?_;intro A c hS hc;conv=>whnf
   rcases r3 with _|⟨y,ys⟩
   ·refine Tst.no (decide_eq_false (by simp)) ?_;(conv=>whnf);(iterate 8 (refine zU ?_;(conv=>whnf)));refine qm F I mm (0,[],[]) (by rw [hF];exact ⟨rfl,rfl,rfl,trivial⟩) (by rw [hI];exact ⟨h6,by rw [hT];rfl,Nat.le_refl _,by simp,by simp⟩) body
   ·simp only [List.length_cons] at hc hlen ⊢;refine Tst.yes (decide_eq_true (by omega)) ?_;(conv=>whnf);(iterate 3 (refine zT ?_;(conv=>whnf)));refine h6.ldr ?_;intro A c hS hc;(conv=>whnf);refine zT ?_;(conv=>whnf);refine ElemV.sl hS rfl 0 rfl (by simp) ?_;intro b off hcl;(conv=>whnf);refine zT ?_;(conv=>whnf);refine LoadV.cell0 hcl ?_;(conv=>whnf);refine zT ?_;(conv=>whnf);have hy:=h6.small y (List.mem_cons_self ..);refine CallV.of (qjd y (by omega) w6) ?_;rintro v w7 ⟨rfl,rfl⟩;cases q:varB y
    ·rw [qf6,if_neg (by rw [q];simp)] at hT;(conv=>whnf);refine zT ?_;(conv=>whnf);refine zU ?_;(conv=>whnf);refine qm F I mm ((y::ys).length,y::ys,[]) (by rw [hF];exact ⟨rfl,rfl,rfl,trivial⟩) (by rw [hI];exact ⟨h6,by rw [hT];simp,Nat.le_refl _,by simp,by simp;omega⟩) body
    ·rw [qf6,if_pos q] at hT;have hy4:4≤y.size:=by
      simp [varB,qv] at q;omega
     (conv=>whnf);(iterate 2 (refine zT ?_;(conv=>whnf)));refine CallV.of (qbe h6) ?_;rintro v w8 ⟨rfl,h8⟩;(conv=>whnf);refine qm (fun i:Nat=>[(2,.pointer (some ⟨rt,0,none⟩)),(4,.pointer (some ⟨tb,0,none⟩)),(5,.pointer (some ⟨rb,0,none⟩)),(7,.string y),(8,.int .i64 i)])
      (fun i w9=>RQ w1 w9 O rb tb ys b0 vs [] []∧i≤vs.length∧∀ (j:Nat) (hj:j<vs.length),j<i→lowS vs[j]≠lowS y)
      (fun i=>vs.length-i) 0 ⟨rfl,rfl,rfl,rfl,rfl,trivial⟩ ⟨h8,by omega,fun j hj h0=>by omega⟩ ?_
     rintro i w9 ρ2 ⟨h9,hi,hd⟩;(conv=>whnf);obtain ⟨VA,vc,hVS,hc4⟩:=h9.cell4;refine LoadV.of hc4 ?_;(conv=>whnf);refine zC (fun _=>?_) (fun _=>?_)<;>(conv=>whnf)
     ·have hil:i<vs.length:=by omega
      have hvi:=hv4 _ (List.getElem_mem hil);refine LoadV.of hc4 ?_;(conv=>whnf);refine ElemV.sl hVS rfl i rfl hil ?_;intro b2 off2 hcl2;(conv=>whnf);refine LoadV.cell0 hcl2 ?_;(conv=>whnf);refine CallV.of (qax vs[i] (by omega) w9) ?_;rintro v w10 ⟨rfl,he10⟩;(conv=>whnf);refine CallV.of (qax y (by omega) w10) ?_;rintro v w11 ⟨rfl,he11⟩;have h11:=(h9.call he10).call he11;cases q2:seq (lowS vs[i]) (lowS y)
      ·(conv=>whnf);rw [q2];refine zU ?_;(conv=>whnf);refine zA ?_;(conv=>whnf);refine ⟨i+1,⟨rfl,rfl,rfl,rfl,rfl,trivial⟩,⟨h11,by omega,fun j hj hji=>?_⟩,by omega⟩
       by_cases e:j=i
       ·subst e;intro e';rw [q7.2 e'] at q2;cases q2
       ·exact hd j hj (by omega)
      ·have hin:lowS y∈vs.map lowS:=List.mem_map.2 ⟨_,List.getElem_mem hil,q7.1 q2⟩;rw [if_pos hin] at hT;have hno:¬ tagP l:=fun h=>by obtain ⟨l1,h1,_⟩:=h;rw [hT] at h1;cases h1
       (conv=>whnf);rw [q2];refine zT ?_;(conv=>whnf);refine StoreA.mem (hm1.call h11.ext) (i:=0) rfl (Nat.le_refl 7) qc7 ?_;intro w9 hm9;(conv=>whnf);refine qa (R:=fun v w'=>TagV l v∧Ext w w') ?_;(conv=>whnf);refine zL hm9 0 ?_;(conv=>whnf);exact ⟨⟨_,_,_,_,_,_,_,qc7,by rw [qcm hno];rfl⟩,hm9.ext⟩
     ·have hno:lowS y∉vs.map lowS:=by
       intro h0;obtain ⟨z,hz,e⟩:=List.mem_map.1 h0;obtain ⟨j,hj,rfl⟩:=List.mem_iff_getElem.1 hz;exact hd j hj (by omega) e
      rw [if_neg hno] at hT;clear hVS hc4;obtain ⟨A,c,X,Y,a1,a2,a3,a6,L,h9⟩:=h9;obtain ⟨VA,vc,e⟩:=(h9.rows.row 0 _ rfl).slice;simp only [List.length_map] at e;subst e;refine LoadV.own (h9.mem.get h9.tg) rfl ?_;(conv=>whnf);refine NewV.rq0 h9 ?_;intro nb w10 h10 hnb;(conv=>whnf);refine h10.app4 hnb (by omega) ?_;intro B' d' w11 L' h11;(conv=>whnf);refine h11.st4 ?_;intro w12 h12;(conv=>whnf);refine ⟨(vs++[y],ys,b0),⟨rfl,rfl,rfl,trivial⟩,⟨h12,by rw [hT,List.map_append];rfl,?_,by simp;omega⟩,by simp⟩;intro v hv
      rcases List.mem_append.1 hv with hv|hv
      ·exact hv4 v hv
      ·obtain rfl:=List.mem_singleton.1 hv;exact ⟨hy4,hy⟩
  case p=>
   subst hF hI hmm;clear hT h6 hlen;rintro ⟨k,r5,es⟩ w7 ρ2 ⟨h7,hT,hk,hes,hlen⟩;simp only at h7 hT hk hes hlen;dsimp only;have stop:∀ z zs,r5=z::zs→extS z=false→tagR l=some r5:=by
    rintro z zs rfl hz;obtain ⟨k,rfl⟩:∃ k',k=k'+1:=⟨k-1,by simp at hk;omega⟩
    rw [hT,extN,if_neg (by rw [hz];simp)]
   (conv=>whnf);refine h7.ldr ?_;intro A c hS hc;conv=>whnf
   rcases r5 with _|⟨y,ys⟩
   ·have hR:tagR l=some []:=by rw [hT];cases k<;>rfl
    refine Tst.no (decide_eq_false (by simp)) ?_;(conv=>whnf);(iterate 17 (refine zU ?_;(conv=>whnf)));refine h7.ldr ?_;intro A2 c2 hS2 hc2;(conv=>whnf);refine Tst.no (decide_eq_false (by simp)) ?_;(conv=>whnf);(iterate 9 (refine zU ?_;(conv=>whnf)));refine h7.ldr ?_;intro A3 c3 hS3 hc3;(conv=>whnf);refine zC (fun _=>?_) (fun _=>?_)<;>(conv=>whnf)
    ·rename_i hh;exact absurd hh (by simp)
    refine h7.ldA ?_;intro s0 s1 s2 s3 A4 n4 c4 A5 n5 c5 s6 hone;(conv=>whnf);refine StoreA.mem (hm1.call h7.ext) (i:=0) rfl (Nat.le_refl 7) hone ?_;intro w9 hm9;(conv=>whnf);refine qa (R:=fun v w'=>TagV l v∧Ext w w') ?_;(conv=>whnf);refine zL hm9 0 ?_;(conv=>whnf);exact ⟨⟨_,_,_,_,_,_,_,hone,by rw [qi4 ⟨[],hR,by rw [qkk,if_neg (by simp [seeB])]⟩];rfl⟩,hm9.ext⟩
   ·simp only [List.length_cons] at hc hlen hk ⊢;have hy:=h7.small y (List.mem_cons_self ..);refine Tst.yes (decide_eq_true (by omega)) ?_;(conv=>whnf);(iterate 3 (refine zT ?_;(conv=>whnf)));refine h7.ldr ?_;intro A c hS hc;(conv=>whnf);refine zT ?_;(conv=>whnf);refine ElemV.sl hS rfl 0 rfl (by simp) ?_;intro b off hcl;(conv=>whnf);refine zT ?_;(conv=>whnf);refine LoadV.cell0 hcl ?_;(conv=>whnf);refine zT ?_;(conv=>whnf);refine CallV.of (qax y (by omega) w7) ?_;rintro v w8 ⟨rfl,he8⟩;have h8:=h7.call he8;(conv=>whnf);(iterate 2 (refine zT ?_;(conv=>whnf)));refine zP ?_;rw [qpg];cases q:qdr y
    ·refine zU ?_;(conv=>whnf);(iterate 3 (refine zT ?_;(conv=>whnf)));refine h8.ldr ?_;intro A2 c2 hS2 hc2;(conv=>whnf);refine zT ?_;(conv=>whnf);refine ElemV.sl hS2 rfl 0 rfl (by simp) ?_;intro b2 off2 hcl2;(conv=>whnf);refine zT ?_;(conv=>whnf);refine LoadV.cell0 hcl2 ?_;(conv=>whnf);refine zT ?_;(conv=>whnf);refine CallV.of (qfa y 1 1 (by omega) w8) ?_;rintro v w9 ⟨rfl,rfl⟩;cases q1:qv y 1 1 false
     ·have hR:=stop y ys rfl (by rw [extS,q1];rfl);have hno:¬ tagP l:=fun h=>by
       obtain ⟨l1,h1,h2⟩:=h;rw [hR] at h1;cases h1;rw [qkk,if_neg (by show ¬ qdr y=true;rw [q];simp)] at h2;cases h2
      (conv=>whnf);refine zT ?_;(conv=>whnf);refine zU ?_;(conv=>whnf);refine h8.ldr ?_;intro A3 c3 hS3 hc3;(conv=>whnf);refine Tst.yes (decide_eq_true (by simp only [List.length_cons];omega)) ?_;(conv=>whnf);(iterate 3 (refine zT ?_;(conv=>whnf)));refine h8.ldr ?_;intro A4 c4 hS4 hc4;(conv=>whnf);refine zT ?_;(conv=>whnf);refine ElemV.sl hS4 rfl 0 rfl (by simp) ?_;intro b3 off3 hcl3;(conv=>whnf);refine zT ?_;(conv=>whnf);refine LoadV.cell0 hcl3 ?_;(conv=>whnf);refine zT ?_;(conv=>whnf);refine CallV.of (qax y (by omega) _) ?_;rintro v w9 ⟨rfl,he9⟩;have h9:=h8.call he9;(conv=>whnf);(iterate 2 (refine zT ?_;(conv=>whnf)));rw [qpg,q];refine zU ?_;(conv=>whnf);refine h9.ldr ?_;intro A5 c5 hS5 hc5;(conv=>whnf);refine Tst.yes (decide_eq_true (by simp only [List.length_cons];omega)) ?_;(conv=>whnf);refine StoreA.mem (hm1.call h9.ext) (i:=0) rfl (Nat.le_refl 7) qc7 ?_;intro w9 hm9;(conv=>whnf);refine qa (R:=fun v w'=>TagV l v∧Ext w w') ?_;(conv=>whnf);refine zL hm9 0 ?_;(conv=>whnf);exact ⟨⟨_,_,_,_,_,_,_,qc7,by rw [qcm hno];rfl⟩,hm9.ext⟩
     ·(conv=>whnf);(iterate 2 (refine zT ?_;(conv=>whnf)));have hy1:y.size=1:=by simp [qv] at q1;omega
      obtain ⟨k,rfl⟩:∃ k',k=k'+1:=⟨k-1,by omega⟩
      rw [extN,if_pos (by rw [extS,q1,q];rfl)] at hT;refine CallV.of (qlz h8 hy1 hes (by omega)) ?_;rintro v w10 ⟨he10,(⟨hbad,rfl⟩|⟨hgood,rfl,h10⟩)⟩
      ·have hno:¬ tagP l:=fun h=>by
        obtain ⟨l1,h1,_⟩:=h;rw [hT,if_pos (hbad.imp id fun ⟨e,he,h9⟩=>List.mem_append_right _ (List.mem_map.2 ⟨e,he,h9⟩))] at h1;cases h1
       (conv=>whnf);refine zP ?_;refine zU ?_;(conv=>whnf);refine StoreA.mem (hm1.call he10) (i:=0) rfl (Nat.le_refl 7) qc7 ?_;intro w9 hm9;(conv=>whnf);refine qa (R:=fun v w'=>TagV l v∧Ext w w') ?_;(conv=>whnf);refine zL hm9 0 ?_;(conv=>whnf);exact ⟨⟨_,_,_,_,_,_,_,qc7,by rw [qcm hno];rfl⟩,hm9.ext⟩
      ·have hnot:¬ (ys.takeWhile extQ=[]∨lowS y∈vs.map lowS++es.map qeq):=by
        rintro (h0|h0)
        ·exact hgood (.inl h0)
        ·rcases List.mem_append.1 h0 with h0|h0
         ·obtain ⟨z,hz,e⟩:=List.mem_map.1 h0;have e:=congrArg ByteArray.size e;rw [qmb,qmb] at e;have:=(hv4 z hz).1;omega
         ·obtain ⟨z,hz,e⟩:=List.mem_map.1 h0;exact hgood (.inr ⟨z,hz,e⟩)
       rw [if_neg hnot] at hT;obtain ⟨f1,f2⟩:=qv8 (l:=ys.takeWhile extQ) hy1;have hdl:(ys.dropWhile extQ).length+1≤ys.length+1:=by
        have:=(List.dropWhile_sublist extQ (l:=ys)).length_le;omega
       (conv=>whnf);refine zP ?_;refine zT ?_;(conv=>whnf);refine ⟨(k,ys.dropWhile extQ,es++[jnS (y::ys.takeWhile extQ)]),⟨rfl,rfl,rfl,trivial⟩,⟨h10,?_,by simp only;omega,?_,by simp only [List.length_append,List.length_singleton];omega⟩,by simp only;omega⟩
       ·simp only [List.map_append,List.map_cons,List.map_nil,f2];rw [hT,List.append_assoc]
       ·intro e he
        rcases List.mem_append.1 he with he|he
        ·exact hes e he
        ·obtain rfl:=List.mem_singleton.1 he;exact f1
    ·have hR:=stop y ys rfl (qnv q).2;refine zT ?_;(conv=>whnf);(iterate 8 (refine zU ?_;(conv=>whnf)));refine h8.ldr ?_;intro A3 c3 hS3 hc3;(conv=>whnf);refine Tst.yes (decide_eq_true (by simp only [List.length_cons];omega)) ?_;(conv=>whnf);(iterate 3 (refine zT ?_;(conv=>whnf)));refine h8.ldr ?_;intro A4 c4 hS4 hc4;(conv=>whnf);refine zT ?_;(conv=>whnf);refine ElemV.sl hS4 rfl 0 rfl (by simp) ?_;intro b3 off3 hcl3;(conv=>whnf);refine zT ?_;(conv=>whnf);refine LoadV.cell0 hcl3 ?_;(conv=>whnf);refine zT ?_;(conv=>whnf);refine CallV.of (qax y (by omega) w8) ?_;rintro v w9 ⟨rfl,he9⟩;have h9:=h8.call he9;(conv=>whnf);(iterate 2 (refine zT ?_;(conv=>whnf)));rw [qpg,q];refine zT ?_;(conv=>whnf);refine CallV.of (qq8 h9 (by simp only [List.length_cons];omega)) ?_;rintro v w10 ⟨rfl,h10⟩;have hend:qkk (y::ys)↔ys≠[]∧ys.all qhf=true:=by rw [qkk,if_pos (by exact q)];rfl
     rw [List.tail_cons];cases q2:(decide (ys≠[])&&ys.all qhf)
     ·have hno:¬ tagP l:=fun h=>by
       obtain ⟨l1,h1,h2⟩:=h;rw [hR] at h1;cases h1;have:=hend.1 h2;rw [decide_eq_true this.1,this.2] at q2;cases q2
      (conv=>whnf);refine zP ?_;refine zU ?_;(conv=>whnf);refine StoreA.mem (hm1.call h10.ext) (i:=0) rfl (Nat.le_refl 7) qc7 ?_;intro w9 hm9;(conv=>whnf);refine qa (R:=fun v w'=>TagV l v∧Ext w w') ?_;(conv=>whnf);refine zL hm9 0 ?_;(conv=>whnf);exact ⟨⟨_,_,_,_,_,_,_,qc7,by rw [qcm hno];rfl⟩,hm9.ext⟩
     ·have hok:tagP l:=by
       simp only [Bool.and_eq_true,decide_eq_true_eq] at q2;exact ⟨_,hR,hend.2 q2⟩
      (conv=>whnf);refine zP ?_;refine zT ?_;(conv=>whnf);refine h10.ldA ?_;intro s0 s1 s2 s3 A4 n4 c4 A5 n5 c5 s6 hone;(conv=>whnf);refine StoreA.mem (hm1.call h10.ext) (i:=0) rfl (Nat.le_refl 7) hone ?_;intro w9 hm9;(conv=>whnf);refine qa (R:=fun v w'=>TagV l v∧Ext w w') ?_;(conv=>whnf);refine zL hm9 0 ?_;(conv=>whnf);exact ⟨⟨_,_,_,_,_,_,_,hone,by rw [qi4 hok];rfl⟩,hm9.ext⟩
end Go.Proofs.YtajgbepghniciaaGreatDoor
