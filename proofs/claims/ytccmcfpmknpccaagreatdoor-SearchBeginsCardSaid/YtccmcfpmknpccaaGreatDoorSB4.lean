/- Lemmas and contracts of functions on the way to the law's card (part 4 of 16). -/
import Derived.Test.YtccmcfpmknpccaaGreatDoorSB3
import Derived.Lib.SplitLaws
import Derived.Laws.Small
import Derived.Laws.StructEq
namespace Go.Proofs.YtccmcfpmknpccaaGreatDoor
set_option maxHeartbeats 8000000
open Go.RowKit V
set_option maxHeartbeats 8000000
set_option maxRecDepth 100000
variable {a b c g hi i k lo m nb off rb:Nat} {w w' w0:Dc} {O:Dn} {A:oA} {L:Dl} {e ty:Df} {P:De} {vs xs:Dm} {x z:Dh} {K:Di} {vals ρ:Dj} {cs cur:Dp} {l:LB} {mx:Option Dh} {fr:Nat×Nat} {o':Obj} {o:Oper} {xo yo:Operand}
structure RS(w0 w:Dc)(O:Dn)(rb:Nat)(rest:List Dd)(A:oA)(c:Nat)(V E:Dh)(L:Dl)(R:List (Dm×Dh)):Prop where
 mem:Mem w0 w L
 rd:∃a0 a1 a2 a3 a6,(rb,rdC A rest.length c (tagC a0 a1 a2 a3 V E a6))∈L
 rows:RowsP 9 O L R
 sl:SlAt zeS 1 w0 A rest
 hc:rest.length<=c
 hO:rb∈O
 all:∀g∈O,∃o,(g,o)∈L
 small:∀x∈rest,x.size<=1000000
 vs:(∃A n c,V=.slice A n c)/\∃A n c,E=.slice A n c
section
variable {w0 w w':Dc} {O:Dn} {rb:Nat} {rest xs:List Dd} {x:Dd} {A A':oA} {c c':Nat} {V E V' E':Dh} {L L':Dl} {R:List (Dm×Dh)} {o':Obj}
theorem RS.call(h:RS w0 w O rb rest A c V E L R)(U:Ext w w'):RS w0 w' O rb rest A c V E L R:={ h with mem:=h.mem.call U }
theorem RS.step(h:RS w0 w O rb rest A c V E L R)(U:RdM w0 w' L rb o' L')(Z:∃a0 a1 a2 a3 a6,o'=rdC A' xs.length c' (tagC a0 a1 a2 a3 V' E' a6))(hS:SlAt zeS 1 w0 A' xs)(hc:xs.length<=c')(W:∀y∈xs,y∈rest)(aa:(∃A n c,V'=.slice A n c)/\∃A n c,E'=.slice A n c):RS w0 w' O rb xs A' c' V' E' L' R:=by
 obtain⟨a0,a1,a2,a3,a6,rfl⟩:=Z;refine⟨U.mem,⟨a0,a1,a2,a3,a6,U.rd⟩,h.rows.keep λy hy hO=>U.keep y hy λe=>hO (e ▸ h.hO),hS,hc,h.hO,λg hg=>?_,λy hy=>h.small y (W y hy),aa⟩
 by_cases e:g=rb
 ·subst e;exact⟨_,U.rd⟩
 ·obtain⟨o,Z⟩:=h.all g hg;exact⟨o,U.keep _ Z e⟩
theorem RS.grow{W:List (Dm×Dh)}(h:RS w0 w O rb rest A c V E L R)(hm:Mem w0 w' L')(hR:RowsP 9 O L' W)(Z:∀y∈L,y.1∈O->y∈L'):RS w0 w' O rb rest A c V E L' W:=by
 obtain⟨a0,a1,a2,a3,a6,U⟩:=h.rd;refine⟨hm,⟨a0,a1,a2,a3,a6,Z _ U h.hO⟩,hR,h.sl,h.hc,h.hO,λg hg=>?_,h.small,h.vs⟩;obtain⟨o,ho⟩:=h.all g hg;exact⟨o,Z _ ho hg⟩
theorem RS.new{o:Obj}(h:RS w0 w O rb rest A c V E L R)(U:nb=w.heap.size)(W:w'=w.alloc o):RS w0 w' O rb rest A c V E L R/\w'.heap[nb]?=some o:=by
 subst U W;exact⟨h.call ((Ext.refl w).alloc o),heap_alloc_new w o⟩
end
theorem NewV.rs{rest:List Dd}{V E:Dh}{R:List (Dm×Dh)}{o:Obj}{K:Nat->Dk}(h:RS w0 w O rb rest A c V E L R)(Z:∀b w',RS w0 w' O rb rest A c V E L R->w'.heap[b]?=some o->K b w'):NewV w o K:=
 ⟨λb w' U W=>Z b w' (h.new U W).1 (h.new U W).2⟩
theorem qhe{rest:List Dd}{V E:Dh}{R:List (Dm×Dh)}(p:Dd->Bool)(h:RS w0 w O rb rest A c V E L R)(Z:∀x W,x.size<=140737488355328->Gv Do g [.string x] W λv w2=>v=.bool (p x)/\Ext W w2):
  Gv Do 218 [pp rb,.func (.func g) #[] #[]] w λv w'=>v=.bool (seeB p rest)/\RS w0 w' O rb rest A c V E L R:=by
 obtain⟨a0,a1,a2,a3,a6,U⟩:=h.rd;refine(qim rb g [] p rest A c _ w (h.mem.get U) (h.sl.ext h.mem.ext) (λx ys w3 e _=>Z x w3 (by have:=h.small x (by rw[e];exact AD ..);omega))).mono ?_;rintro v w' ⟨rfl,he⟩;exact⟨rfl,h.call he⟩
theorem qja{x:Dd}{xs:List Dd}{V E:Dh}{R:List (Dm×Dh)}(h:RS w0 w O rb (x::xs) A c V E L R):
  Gv Do 222 [pp rb] w λv w'=>v=.string x/\∃A' c' L',RS w0 w' O rb xs A' c' V E L' R/\(∀y∈L,y.1≠rb->y∈L'):=by
 obtain⟨a0,a1,a2,a3,a6,U⟩:=h.rd;refine(q4f h.mem U h.sl h.hc).mono ?_;rintro v w' ⟨rfl,A',c',L',Z,h2,W⟩;exact⟨rfl,A',c',L',h.step W ⟨_,_,_,_,_,rfl⟩ Z h2 (λy hy=>zmc hy) h.vs,W.keep⟩
theorem strI:Do.info? 9=some ((Do.info? 9).get Jk):=(B9 _).symm
theorem strZ:((Do.info? 9).get Jk).zero=some (.string ⟨#[]⟩):=by kernel_rfl
theorem RowsP.nils(e:Df)(O:Dn)(L:Dl)(R:List (Dm×Dh))(h:∀p∈R,p=([],.slice none 0 0)):RowsP e O L R:=by
 refine⟨λk p U=>?_,λk p g U W=>?_,λk k' p p' g U Z _ W=>?_⟩
 ·rw[h p (zmg U)];exact RowB.nil e L
 ·rw[h p (zmg U)]at W;cases W
 ·rw[h p (zmg U)]at W;cases W
theorem RowsP.none_:RowsP e O L []:=RowsP.nils e O L [] Js
theorem qvl{rest r1 r2:List Dd}(U:qhd rest=r1)(W:qhb r1=r2):qvk rest=(qm2 [] r2).bind λr=>extN r.2.length r.1 r.2:=by rw[qvk,U,W]
theorem q4h(rb:Nat)(O:Dn)(rest:List Dd)(A:oA)(c:Nat)(w0 w:Dc)(L:Dl)(h:RS w0 w O rb rest A c (.slice none 0 0) (.slice none 0 0) L [])(hn:rest.length<=1000000):
  Gv Do 221 [pp rb] w λv w'=>(qvk rest=none/\v=.bool false/\Ext w0 w')\/
   (∃W,qvk rest=some W/\v=.bool true/\∃A' c' V E L',RS w0 w' O rb W A' c' V E L' []/\W.length<=rest.length/\∀y∈L,y.1∈O->y.1≠rb->y∈L'):=by
 refine ze Tryz.func221 Tryz.ntmps221 ?_;refine zcv (qhe (λx=>qan x 4 4 true) h (λx w1 hx=>q0g x hx w1)) ?_;rintro v w1 ⟨rfl,h1⟩;(conv=>whnf);cases hq:seeB (λx=>qan x 4 4 true) rest
 case' false=>
  refine zv ?_;obtain⟨r1,A1,c1,L1,e1,g1,k1,l1⟩:∃r1 A1 c1 L1,qhd rest=r1/\RS w0 w1 O rb r1 A1 c1 (.slice none 0 0) (.slice none 0 0) L1 []/\(∀y∈L,y.1∈O->y.1≠rb->y∈L1)/\r1.length<=rest.length:=by
   refine⟨rest,A,c,L,?_,h1,λy hy _ _=>hy,Ao _⟩;cases rest with
   | nil=>rfl
   | cons x xs=>rw[qhd,Ab (by have:qan x 4 4 true=false:=hq;rw[this];simp)]
  clear hq h1
 case' true=>
  obtain⟨x,xs,rfl⟩:∃x xs,rest=x::xs:=by
   cases rest with
   | nil=>cases hq
   | cons x xs=>exact⟨x,xs,rfl⟩
  have hq:qan x 4 4 true=true:=hq;refine zv ?_;refine zcv (qja h1) ?_;rintro v w2 ⟨rfl,A2,c2,L2,h2,k2⟩;(conv=>whnf);obtain⟨a0,a1,a2,a3,a6,Z⟩:=id h2.rd;refine qd7 h2.mem Z 2 rfl (show 2<7 by decide) rfl ?_;intro w1 L3 ab;obtain⟨r1,A1,c1,L1,e1,g1,k1,l1⟩:∃r1 A1 c1 L1,qhd (x::xs)=r1/\RS w0 w1 O rb r1 A1 c1 (.slice none 0 0) (.slice none 0 0) L1 []/\(∀y∈L,y.1∈O->y.1≠rb->y∈L1)/\r1.length<=(x::xs).length:=
   ⟨xs,A2,c2,L3,by rw[qhd,Af hq],h2.step ab ⟨_,_,_,_,_,rfl⟩ h2.sl h2.hc (λy hy=>hy) h2.vs,λy hy _ U=>ab.keep y (k2 y hy U) U,by simp⟩
  clear hq h1 h2 ab Z k2;conv=>whnf
 all_goals
  refine zcv (qhe regB g1 (λx w1 hx=>qvj x hx w1)) ?_;rintro v w1 ⟨rfl,g1⟩;(conv=>whnf);cases hq:seeB regB r1
  case' false=>
   refine zv ?_;obtain⟨r2,A2,c2,L2,e2,g2,k2,l2⟩:∃r2 A2 c2 L2,qhb r1=r2/\RS w0 w1 O rb r2 A2 c2 (.slice none 0 0) (.slice none 0 0) L2 []/\(∀y∈L1,y.1∈O->y.1≠rb->y∈L2)/\r2.length<=r1.length:=by
    refine⟨r1,A1,c1,L1,?_,g1,λy hy _ _=>hy,Ao _⟩;cases r1 with
    | nil=>rfl
    | cons x xs=>rw[qhb,Ab (by have:regB x=false:=hq;rw[this];simp)]
   clear hq g1
  case' true=>
   obtain⟨x,xs,rfl⟩:∃x xs,r1=x::xs:=by
    cases r1 with
    | nil=>cases hq
    | cons x xs=>exact⟨x,xs,rfl⟩
   have hq:regB x=true:=hq;refine zv ?_;refine zcv (qja g1) ?_;rintro v w2 ⟨rfl,A3,c3,L3,h3,k3⟩;(conv=>whnf);obtain⟨a0,a1,a2,a3,a6,Z⟩:=id h3.rd;refine qd7 h3.mem Z 3 rfl (show 3<7 by decide) rfl ?_;intro w1 L4 ab;obtain⟨r2,A2,c2,L2,e2,g2,k2,l2⟩:∃r2 A2 c2 L2,qhb (x::xs)=r2/\RS w0 w1 O rb r2 A2 c2 (.slice none 0 0) (.slice none 0 0) L2 []/\(∀y∈L1,y.1∈O->y.1≠rb->y∈L2)/\r2.length<=(x::xs).length:=
    ⟨xs,A3,c3,L4,by rw[qhb,Af hq],h3.step ab ⟨_,_,_,_,_,rfl⟩ h3.sl h3.hc (λy hy=>hy) h3.vs,λy hy _ U=>ab.keep y (k3 y hy U) U,by simp⟩
   clear hq g1 h3 ab Z k3;conv=>whnf
 all_goals
  have eR:=qvl e1 e2;rw[eR];refine qm (λx:List Dd×List Dd×oA×Nat=>[(0,pp rb),(3,.slice x.2.2.1 x.1.length x.2.2.2)])
   (λx w3=>∃A c V E L3 vs,RS w0 w3 O rb x.2.1 A c V E L3 [(x.1.map Value.string,.slice x.2.2.1 x.1.length x.2.2.2),(vs,V),([],E)]/\vs.length<=x.1.length/\(∀y∈L2,y.1∈O->y.1≠rb->y∈L3)/\qm2 [] r2=qm2 x.1 x.2.1/\x.1.length+x.2.1.length<=r2.length)
   (λx=>x.2.1.length) ([],r2,none,0) fq ⟨A2,c2,_,_,L2,[],{ g2 with rows:=RowsP.nils _ _ _ _ Js },by simp,λy hy _ _=>hy,rfl,by simp⟩ ?_
  rintro⟨seen,r3,sA,sc⟩ w3 b0 ⟨A3,c3,V3,E3,L3,vs,h3,a7,k3,e3,l3⟩;simp only at h3 a7 e3 l3;dsimp only;(conv=>whnf);refine zcv (qhe varB h3 (λx w1 hx=>qrg x hx w1)) ?_;rintro v w4 ⟨rfl,h4⟩;(conv=>whnf);cases hq:seeB varB r3
  case' true=>
   obtain⟨x,xs,rfl⟩:∃x xs,r3=x::xs:=by
    cases r3 with
    | nil=>cases hq
    | cons x xs=>exact⟨x,xs,rfl⟩
   have hq:varB x=true:=hq;have hx:=h4.small x mh;simp only[AM]at l3;rw[qm2,Af hq]at e3;refine zv ?_;refine zcv (qja h4) ?_;rintro v w5 ⟨rfl,A5,c5,L5,h5,k5⟩;(conv=>whnf);refine zcv (qd0 x Oo w5) ?_;rintro v w6 ⟨rfl,a8⟩;have h6:=h5.call a8;(conv=>whnf);refine zcv (qfn seen sA sc (lowS x) w6 ((h6.rows.row 0 _ rfl).sl h6.mem) Oo) ?_;rintro v w7 ⟨⟨b,rfl,hb⟩,rfl⟩;(conv=>whnf);cases b
   ·rw[Ab (by intro h;have:=hb.2 h;cases this)]at e3;refine zv ?_;refine zcv (qd0 x Oo w7) ?_;rintro v w8 ⟨rfl,a9⟩;have h8:=h6.call a9;(conv=>whnf);refine NewV.rs h8 λnb w9 h9 ak=>zw ?_;refine h9.rows.app 0 rfl Tryz.underlying159 strI strZ Jk rfl (by decide +kernel) h9.mem h9.all Js rfl (by rw[qa ak];rfl) Oo ?_;intro al am an b1 ba bb ao;have ag:=h9.grow ba bb ao;(conv=>whnf);obtain⟨VA,vc,rfl⟩:∃VA vc,V3=.slice VA vs.length vc:=(ag.rows.row 1 _ rfl).slice;obtain⟨a0,a1,a2,a3,a6,Z⟩:=id ag.rd;refine qth ag.mem Z 4 rfl rfl (zw ?_);refine NewV.rs ag λbc bd ac af=>zw ?_;refine ac.rows.app 1 rfl Tryz.underlying159 strI strZ Jk rfl (by decide +kernel) ac.mem ac.all rfl rfl (by rw[qa af];rfl) Oo ?_;intro aq ar be b2 bf bg au;have aa:=ac.grow bf bg au;obtain⟨a0,a1,a2,a3,a6,Z⟩:=id aa.rd;(conv=>whnf);refine qd7 aa.mem Z 4 rfl (show 4<7 by decide) rfl ?_;intro bh av ai;have ad:=aa.step (V':=.slice aq (vs.length+1) ar) (E':=E3) ai ⟨_,_,_,_,_,rfl⟩ aa.sl aa.hc (λy hy=>hy) ⟨⟨_,_,_,rfl⟩,aa.vs.2⟩;(conv=>whnf);refine⟨(seen++[lowS x],xs,al,am),⟨rfl,by simp only[zla];rfl,trivial⟩,⟨A5,c5,.slice aq (vs.length+1) ar,E3,av,vs++[.string x],?_,by simp;omega,λy hy hO U=>ai.keep y (au y (ao y (k5 y (k3 y hy hO U) U) hO) hO) U,e3,by simp;omega⟩,by simp⟩;simp only[AY,zla,AG,Co,Bv];exact ad
   ·rw[Af (hb.1 rfl)]at e3;refine zv ?_;exact .inl ⟨by rw[e3];rfl,rfl,h6.mem.ext⟩
 all_goals
  have eV:qm2 seen r3=some (seen,r3):=by
   cases r3 with
   | nil=>rfl
   | cons x xs=>rw[qm2,Ab (by have:varB x=false:=hq;rw[this];simp)]
  have eB:(qm2 [] r2).bind (λr=>extN r.2.length r.1 r.2)=extN r3.length seen r3:=by rw[e3,eV];rfl
  rw[eB];clear hq h3 eV eB;refine zv ?_;refine qm (λx:Nat×List Dd×List Dd×oA×Nat=>[(0,pp rb),(3,.slice x.2.2.2.1 x.2.1.length x.2.2.2.2)])
   (λx w5=>∃A c V E L5 vs es,RS w0 w5 O rb x.2.2.1 A c V E L5 [(x.2.1.map Value.string,.slice x.2.2.2.1 x.2.1.length x.2.2.2.2),(vs,V),(es,E)]/\es.length<=x.2.1.length/\(∀y∈L3,y.1∈O->y.1≠rb->y∈L5)/\extN r3.length seen r3=extN x.1 x.2.1 x.2.2.1/\x.2.2.1.length<=x.1/\x.2.1.length+x.2.2.1.length<=r2.length)
   (λx=>x.2.2.1.length) (r3.length,seen,r3,sA,sc) fq ⟨A3,c3,V3,E3,L3,vs,[],h4,by simp,λy hy _ _=>hy,rfl,Ao _,l3⟩ ?_
  rintro⟨k,sn,r5,sB,sd⟩ w5 bw ⟨A5,c5,V5,E5,L5,bi,es,h5,bj,k5,e5,lk,l5⟩;simp only at h5 bj e5 lk l5;dsimp only;(conv=>whnf);refine zcv (qhe extS h5 (λx w1 hx=>q0h x hx w1)) ?_;rintro v w6 ⟨rfl,h6⟩;(conv=>whnf);cases hq:seeB extS r5
  ·have eX:extN k sn r5=some r5:=by
    cases r5 with
    | nil=>cases k<;>rfl
    | cons x xs=>
     cases k with
     | zero=>simp at lk
     | succ k=>rw[extN,Ab (by have:extS x=false:=hq;rw[this];simp)]
   refine zv ?_;refine .inr ⟨r5,by rw[e5,eX],rfl,A5,c5,V5,E5,L5,{ h6 with rows:=RowsP.none_ },by omega,λy hy hO U=>k5 y (k3 y (k2 y (k1 y hy hO U) hO U) hO U) hO U⟩
  ·obtain⟨x,xs,rfl⟩:∃x xs,r5=x::xs:=by
    cases r5 with
    | nil=>cases hq
    | cons x xs=>exact⟨x,xs,rfl⟩
   have hq:extS x=true:=hq;have b3:x.size=1:=by simp[extS,qan]at hq;omega
   obtain⟨k,rfl⟩:∃k',k=k'+1:=⟨k-1,by simp at lk;omega⟩
   have hx:=h6.small x mh;simp only[AM]at l5 lk;rw[extN,Af hq]at e5;refine zv ?_;refine zcv (qja h6) ?_;rintro v w7 ⟨rfl,A7,c7,L7,h7,k7⟩;(conv=>whnf);obtain⟨a0,a1,a2,a3,a6,Z⟩:=id h7.rd;refine zcv (qti (least:=2) h7.mem Z h7.sl h7.hc h7.small Oo) ?_;rintro v w8 ⟨pre,W,sT,hP,bl,rfl,A8,c8,L8,bm,bn,aw⟩;obtain⟨t1,t2⟩:=hP.take bl;have t1:xs.takeWhile extQ=pre:=t1;have t2:xs.dropWhile extQ=W:=t2;have bz:xs.length=pre.length+W.length:=by rw[hP.eq];simp
   have h8:=h7.step aw ⟨_,_,_,_,_,rfl⟩ bm bn (λy hy=>by rw[hP.eq];exact Aa _ hy) h7.vs;rw[t1,t2]at e5;have b4:=hP.size;conv=>whnf
   by_cases hp:pre=[]
   ·rw[Af (.inl hp)]at e5;rw[Be (by simp[hp])];refine zv ?_;exact .inl ⟨e5,rfl,h8.mem.ext⟩
   ·rw[AF (by simpa using hp)];refine zv ?_;refine zcv (qd0 x Oo w8) ?_;rintro v w9 ⟨rfl,bo⟩;have h9:=h8.call bo;refine zu ?_;refine zcv (qfn sn sB sd (lowS x) w9 ((h9.rows.row 0 _ rfl).sl h9.mem) Oo) ?_;rintro v an ⟨⟨b,rfl,hb⟩,rfl⟩;cases b
    ·rw[Ab (by rintro(h|h);exact hp h;have:=hb.2 h;cases this)]at e5;refine zu ?_;refine zcv (qd0 x Oo an) ?_;rintro v bd ⟨rfl,ax⟩;have ac:=h9.call ax;(conv=>whnf);refine NewV.rs ac λnb be aa ak=>zw ?_;refine aa.rows.app 0 rfl Tryz.underlying159 strI strZ Jk rfl (by decide +kernel) aa.mem aa.all Js rfl (by rw[qa ak];rfl) Oo ?_;intro al am bh av bp bq ay;have ad:=aa.grow bp bq ay;(conv=>whnf);obtain⟨EA,ec,rfl⟩:∃EA ec,E5=.slice EA es.length ec:=(ad.rows.row 2 _ rfl).slice;obtain⟨a0,a1,a2,a3,a6,Z⟩:=id ad.rd;refine qth ad.mem Z 5 rfl rfl (zw ?_);refine⟨by show x.size+sT.size<=_;omega,?_⟩;(conv=>whnf);refine NewV.rs ad λbc b5 ah af=>zw ?_;refine ah.rows.app 2 rfl Tryz.underlying159 strI strZ Jk rfl (by decide +kernel) ah.mem ah.all rfl rfl (by rw[qa af];rfl) Oo ?_;intro az a4 b6 b7 br bt a5;have ae:=ah.grow br bt a5;obtain⟨a0,a1,a2,a3,a6,Z⟩:=id ae.rd;(conv=>whnf);refine qd7 ae.mem Z 5 rfl (show 5<7 by decide) rfl ?_;intro b8 bu aj;have bv:=ae.step (V':=V5) (E':=.slice az (es.length+1) a4) aj ⟨_,_,_,_,_,rfl⟩ ae.sl ae.hc (λy hy=>hy) ⟨ae.vs.1,⟨_,_,_,rfl⟩⟩;(conv=>whnf);refine⟨(k,sn++[lowS x],W,al,am),⟨rfl,by simp only[zla];rfl,trivial⟩,⟨A8,c8,V5,.slice az (es.length+1) a4,bu,bi,es++[.string (x++sT)],?_,by simp;omega,λy hy hO U=>aj.keep y (a5 y (ay y (aw.keep y (k7 y (k5 y hy hO U) U) U) hO) hO) U,e5,by simp only;omega,by simp;omega⟩,by simp only[AM];omega⟩;simp only[AY,zla,AG,Co,Bv];exact bv
    ·rw[Af (.inr (hb.1 rfl))]at e5;refine zu ?_;exact .inl ⟨e5,rfl,h9.mem.ext⟩
open Go.RowKit
def qd6:LB->List LB
 | []=>[[]]
 | c::t=>if c=45 then[]::qd6 t else match qd6 t with
  | []=>[[c]]
  | p::U=>(c::p)::U
theorem qjp:∀l:LB,Go.Lib.splitK [45] 0 (Go.Lib.count l [45]) l=qd6 l
 | []=>by
  rfl
 | c::t=>by
  have U:=qjp t
  by_cases h:c=45
  ·subst h;rw[Go.Lib.count_cons_eq,Da 1,qd6,Af rfl,<-U,Go.Lib.splitK];rfl
  ·rw[Go.Lib.count_cons_ne c 45 t h,qd6,Ab h,<-U];have hi:Go.Lib.index (c::t) [45]=if Go.Lib.index t [45]==-1 then -1 else Go.Lib.index t [45]+1:=by
    grind [Go.Lib.index]
   cases Go.Lib.count t [45]with
   | zero=>rfl
   | succ k=>
    rw[Go.Lib.splitK,Go.Lib.splitK,hi]
    by_cases W:Go.Lib.index t [45]=-1
    ·simp[W]
    ·have Z:=Go.Lib.index_ge t [45];have e1:(Go.Lib.index t [45]==-1)=false:=by simpa using W
     have e2:((Go.Lib.index t [45]+1)==-1)=false:=by
      grind
     have e3:(Go.Lib.index t [45]+1).toNat=(Go.Lib.index t [45]).toNat+1:=by omega
     simp_all
theorem qku:∀l:LB,(qd6 l).length<=l.length+1/\∀x∈qd6 l,x.length<=l.length
 | []=>by simp[qd6]
 | c::t=>by
  obtain⟨Z,W⟩:=qku t;unfold qd6
  split
  ·refine⟨by simp;omega,λx U=>?_⟩
   rcases Aw.1 U with rfl|U
   ·simp
   ·have:=W x U;simp;omega
  ·cases hp:qd6 t with
   | nil=>simp
   | cons p ps=>
    rw[hp]at Z W;refine⟨by simpa using A4 Z (BY _),λx U=>?_⟩
    rcases Aw.1 U with rfl|U
    ·have:=W p mh;simp;omega
    ·have:=W x (zmc U);simp;omega
def dash:Dd:=⟨#[45]⟩
def qcp(s:Dd):List Dd:=Go.Lib.splitB dash 0 (Go.Lib.countB s dash) s
theorem qu6(s:Dd):(qcp s).length=Go.Lib.countB s dash+1:=Go.Lib.splitB_all dash Od 0 _ s rfl
noncomputable def tagR(l:List Dd):Option (List Dd):=if seeB qmh l=true then some l else(qh3 l).bind qvk
def qz7(x:Dd):Bool:=qan x 1 8 false
def qxo(l:List Dd):Prop:=if seeB qmh l=true then(l.tail≠[]/\l.tail.all qz7=true)else l=[]
def tagP(l:List Dd):Prop:=∃U,tagR l=some U/\qxo U
open Classical in
noncomputable def tagE(l:List Dd):Nat:=if tagP l then 0 else 61
theorem qq5{l:List Dd}(h:tagP l):tagE l=0:=by unfold tagE;rw[Af h]
theorem qhm{l:List Dd}(h:¬tagP l):tagE l=61:=by unfold tagE;rw[Ab h]
def MaxLenAt(w:Dc):Prop:=∃m:Int,w.cell? ⟨1,0,none⟩=some (ii m)
theorem MaxLenAt.ext(h:MaxLenAt w)(U:Ext w w'):MaxLenAt w':=⟨h.choose,U.cell h.choose_spec⟩
theorem q4q{l:List Dd}{t:Df}(W:w'=w.alloc (.cells (l.map Value.string).toArray t)):SlAt V.zeS 1 w' (some ⟨w.heap.size,0,none⟩) l:=by
 subst W;refine⟨λ_=>⟨w.heap.size,0,rfl,λj x Z k v U=>?_⟩⟩;cases k with
 | succ k=>simp[V.zeS]at U
 | zero=>
  simp only[V.zeS,Bb,AN]at U;subst U;rw[qa (heap_alloc_new w _)];simp[Z]
theorem q0y(s:Dd)(hs:s.size<=1000000)(w:Dc)(W:MaxLenAt w):
  Gv Do 217 [.string s,.string dash] w λv w'=>∃b,v=.slice (some ⟨b,0,none⟩) (qcp s).length (qcp s).length/\SlAt V.zeS 1 w' (some ⟨b,0,none⟩) (qcp s)/\Ext w w':=by
 obtain⟨m,Z⟩:=W;refine qew Jk ((Tryz.strings_Split s dash m w Oo Z Od).mono ?_);rintro e w' ⟨rfl,U⟩;exact⟨_,rfl,w.heap.size,by rw[qu6],q4q U,by rw[U];exact(Ext.refl w).alloc _⟩
theorem qj8:∀v∈[Value.string ⟨#[]⟩,.string ⟨#[]⟩,.string ⟨#[]⟩,.string ⟨#[]⟩,.slice none 0 0,.slice none 0 0,.string ⟨#[]⟩],v.oneCell'=true:=by
 intro v U;simp at U
 rcases U with rfl|rfl|rfl<;>rfl
theorem qnn:∀(k:Nat) (l:List Dd),(qiz k l).length<=l.length/\∀x∈qiz k l,x∈l
 | 0,l=>⟨Ao _,λx U=>U⟩
 | k+1,[]=>⟨Ao _,λx U=>U⟩
 | k+1,y::Z=>by
  by_cases W:qan y 3 3 true=true
  ·rw[qiz,Af W];obtain⟨h1,h2⟩:=qnn k Z;exact⟨by simp;omega,λx U=>zmc (h2 x U)⟩
  ·rw[qiz,Ab W];exact⟨Ao _,λx U=>U⟩
theorem qkm{l r:List Dd}(h:qh3 l=some r):r.length<=l.length/\∀x∈r,x∈l:=by
 cases l with
 | nil=>cases h
 | cons y Z=>
  by_cases W:qan y 2 8 true=true
  ·rw[qh3,Af W]at h;have h:=Bh h;subst h
   split
   ·exact⟨by simp,λx U=>zmc U⟩
   ·obtain⟨h1,h2⟩:=qnn 3 Z;exact⟨by simp;omega,λx U=>zmc (h2 x U)⟩
  ·rw[qh3,Ab W]at h;cases h
theorem qyv{l r:List Dd}(h:qh3 l=some r):∀x∈r,x∈l:=(qkm h).2
theorem qn0{l r:List Dd}(h:qh3 l=some r):r.length<=l.length:=(qkm h).1
theorem qtg{n U:Nat}{t:Dm}{K:Dm->Prop}(W:Mem w0 w L)(hi:(rb,rdC A n c t)∈L)(Z:off=1)(hs:t.length=U)(hk:K t):LoadA w rb off U K:=by
 subst Z;refine⟨t,hs,λi aa=>?_,hk⟩;have:=W.get hi;rw[rdC]at this;rw[qa this,Az,Da 1 i,Cm]
theorem tag7{V E:Dh}(h:(∃A n c,V=.slice A n c)/\∃A n c,E=.slice A n c)(a0 W Z a3 a6:Dd):∀v∈tagC a0 W Z a3 V E a6,v.oneCell'=true:=by
 obtain⟨⟨_,_,_,rfl⟩,⟨_,_,_,rfl⟩⟩:=h;intro v U;simp[tagC]at U
 rcases U with rfl|rfl|rfl|rfl|rfl|rfl|rfl<;>rfl
theorem qqf(s:Dd):(qcp s).map (·.data.toList)=qd6 s.data.toList:=by
 rw[qcp,Go.Lib.splitB_data,<-qjp];rfl
theorem qu7(s:Dd):(∀x∈qcp s,x.size<=s.size)/\(qcp s).length<=s.size+1:=by
 obtain⟨U,W⟩:=qku s.data.toList;rw[<-qqf]at U W;refine⟨λx Z=>?_,by simpa using U⟩;have:=W _ (AI.2 ⟨x,Z,rfl⟩)
 simpa using this
def TagV(l:List Dd)(v:Dh):Prop:=∃U W Z c3 c4 c5 c6,(∀u∈[U,W,Z,c3,c4,c5,c6],u.oneCell'=true)/\v=.tuple #[.agg #[U,W,Z,c3,c4,c5,c6],ii (tagE l)]
theorem q92(s:Dd)(hs:s.size<=65536)(w:Dc)(hM:MaxLenAt w):
  Gv Do 141 [.string s] w λv w'=>TagV (qcp s) v/\Ext w w':=by
 obtain⟨p1,p2⟩:=qu7 s;obtain⟨l,hl⟩:∃l,l=qcp s:=⟨_,rfl⟩
 rw[<-hl]at p1 p2;refine ze Tryz.func141 Tryz.ntmps141 ?_;refine znm (Mem.nil w) λrt w1 ae=>zw ?_;refine zcv (q0y s Oo w1 (hM.ext ae.ext)) ?_;rintro v w2 ⟨pb,rfl,hS,aj⟩;rw[<-hl]at hS|-;have ac:=ae.call aj;(conv=>whnf);refine znm (Mem.nil w2) ?_;intro rb w3 ak;have h0:RS w2 w3 [rb] rb l (some ⟨pb,0,none⟩) l.length (.slice none 0 0) (.slice none 0 0) [(rb,rdC (some ⟨pb,0,none⟩) l.length l.length (tagC ⟨#[]⟩ ⟨#[]⟩ ⟨#[]⟩ ⟨#[]⟩ (.slice none 0 0) (.slice none 0 0) ⟨#[]⟩))] []:=
  ⟨ak,⟨_,_,_,_,_,AD ..⟩,RowsP.none_,hS,Ao _,AD ..,λg hg=>by obtain rfl:=Ac.1 hg;exact⟨_,AD ..⟩,λx hx=>by have:=p1 x hx;omega,⟨⟨_,_,_,rfl⟩,⟨_,_,_,rfl⟩⟩⟩
 (conv=>whnf);refine zcv (qhe qmh h0 (λx w1 _=>by
  refine(qe9 x w1).mono ?_;rintro v w' ⟨rfl,rfl⟩;exact⟨rfl,xr⟩)) ?_
 rintro v w6 ⟨rfl,h4⟩;(conv=>whnf);cases hq:seeB qmh l
 case' true=>
  refine zv ?_;obtain⟨l1,A1,c1,V1,E1,L1,e1,g1,d1⟩:∃l1 A1 c1 V1 E1 L1,tagR l=some l1/\RS w2 w6 [rb] rb l1 A1 c1 V1 E1 L1 []/\l1.length<=1000000:=⟨l,_,_,_,_,_,by rw[tagR,Af hq],h4,by omega⟩
  clear hq h4 h0
 case' false=>
  have eT:tagR l=(qh3 l).bind qvk:=by rw[tagR,Ab (by rw[hq];simp)]
  refine zv ?_;refine zcv (qn1 rb 0 l _ _ ⟨#[]⟩ ⟨#[]⟩ ⟨#[]⟩ ⟨#[]⟩ _ _ w2 w6 _ h4.mem rfl hS znr h4.small) ?_;rintro v w5 (⟨e2,rfl,al⟩|⟨l2,e2,rfl,A2,c2,b0,b1,am,an,ao⟩)
  ·rw[e2]at eT;refine zu ?_;refine StoreA.mem (ac.call al) (i:=0) rfl (Ao 7) qj8 λw9 U=>zw ?_;refine qj (R:=λv w'=>TagV l v/\Ext w w') (zw ?_);refine zl U 0 ?_;exact⟨⟨_,_,_,_,_,_,_,qj8,by rw[qhm (λh=>by obtain⟨l1,h1,_⟩:=h;rw[eT]at h1;cases h1)];rfl⟩,U.ext⟩
  rw[e2]at eT;have h5:RS w2 w5 [rb] rb l2 A2 c2 (.slice none 0 0) (.slice none 0 0) [(rb,rdC A2 l2.length c2 (tagC b0 b1 ⟨#[]⟩ ⟨#[]⟩ (.slice none 0 0) (.slice none 0 0) ⟨#[]⟩))] []:=
   ⟨ao,⟨_,_,_,_,_,AD ..⟩,RowsP.none_,am,an,AD ..,λg hg=>by obtain rfl:=Ac.1 hg;exact⟨_,AD ..⟩,λx hx=>by have:=p1 x (qyv e2 x hx);omega,⟨⟨_,_,_,rfl⟩,⟨_,_,_,rfl⟩⟩⟩
  refine zu ?_;refine zcv (q4h rb [rb] l2 A2 c2 w2 w5 _ h5 (by have:=qn0 e2;omega)) ?_;rintro v w6 (⟨e3,rfl,aq⟩|⟨l3,e3,rfl,A3,c3,V3,E3,L3,h6,ax,_⟩)
  ·have eT:tagR l=none:=by rw[eT];exact e3
   refine zu ?_;refine StoreA.mem (ac.call aq) (i:=0) rfl (Ao 7) qj8 λw9 U=>zw ?_;refine qj (R:=λv w'=>TagV l v/\Ext w w') (zw ?_);refine zl U 0 ?_;exact⟨⟨_,_,_,_,_,_,_,qj8,by rw[qhm (λh=>by obtain⟨l1,h1,_⟩:=h;rw[eT]at h1;cases h1)];rfl⟩,U.ext⟩
  obtain⟨l1,A1,c1,V1,E1,L1,e1,g1,d1⟩:∃l1 A1 c1 V1 E1 L1,tagR l=some l1/\RS w2 w6 [rb] rb l1 A1 c1 V1 E1 L1 []/\l1.length<=1000000:=⟨l3,_,_,_,_,_,by rw[eT];exact e3,h6,by have:=qn0 e2;omega⟩
  clear hq h4 h0 eT e2 h5 e3 h6;refine zu ?_
 all_goals
  refine zcv (qhe qmh g1 (λx w1 _=>by
   refine(qe9 x w1).mono ?_;rintro v w' ⟨rfl,rfl⟩;exact⟨rfl,xr⟩)) ?_
  rintro v w7 ⟨rfl,g2⟩;cases ad:seeB qmh l1
  ·have W:qxo l1↔l1=[]:=by rw[qxo,Ab (by rw[ad];simp)]
   refine zu ?_;obtain⟨a0,a1,a2,a3,a6,Z⟩:=id g2.rd;refine LoadV.of (v:=.slice A1 l1.length c1) (by have:=g2.mem.get Z;rw[rdC]at this;rw[qa this];rfl) (zw ?_)
   (repeat' refine zC (λ_=>zw ?_) (λ_=>zw ?_))
   ·skip
    refine StoreA.mem (ac.call g2.mem.ext) (i:=0) rfl (Ao 7) qj8 λw9 U=>zw ?_;refine qj (R:=λv w'=>TagV l v/\Ext w w') (zw ?_);refine zl U 0 ?_;exact⟨⟨_,_,_,_,_,_,_,qj8,by rw[qhm (λh=>by obtain⟨l2,h1,h2⟩:=h;rw[e1]at h1;cases h1;have e:=W.1 h2;have:l1.length=0:=(by rw[e];rfl);omega)];rfl⟩,U.ext⟩
   ·skip
    obtain⟨⟨VA,vn,vc,rfl⟩,⟨EA,en,ec,rfl⟩⟩:=id g2.vs;obtain⟨z0,z1,z2,z3,z6,Z⟩:=id g2.rd;refine qtg g2.mem Z rfl rfl (zw ?_);refine StoreA.mem (ac.call g2.mem.ext) (i:=0) rfl (Ao 7) (tag7 g2.vs _ _ _ _ _) λw9 U=>zw ?_;refine qj (R:=λv w'=>TagV l v/\Ext w w') (zw ?_);refine zl U 0 ?_;exact⟨⟨_,_,_,_,_,_,_,tag7 ⟨⟨_,_,_,rfl⟩,⟨_,_,_,rfl⟩⟩ _ _ _ _ _,by rw[qq5 ⟨l1,e1,W.2 (List.length_eq_zero_iff.1 Oo)⟩];rfl⟩,U.ext⟩
  ·obtain⟨x,xs,rfl⟩:∃x xs,l1=x::xs:=by
    cases l1 with
    | nil=>cases ad
    | cons x xs=>exact⟨x,xs,rfl⟩
   have W:qxo (x::xs)↔xs≠[]/\xs.all qz7=true:=by rw[qxo,Af ad];rfl
   refine zu ?_;refine zcv (qja g2) ?_;rintro v w8 ⟨rfl,A8,c8,L8,g8,_⟩;(conv=>whnf);obtain⟨a0,a1,a2,a3,a6,Z⟩:=id g8.rd;refine zcv (qti (least:=1) g8.mem Z g8.sl g8.hc g8.small (by simp at d1;omega)) ?_;rintro v w9 ⟨pre,aa,sT,hP,au,rfl,A9,c9,L9,af,ag,av⟩;have g9:=g8.step av ⟨_,_,_,_,_,rfl⟩ af ag (λy hy=>by rw[hP.eq];exact Aa _ hy) g8.vs;(conv=>whnf);have ah:xs≠[]/\xs.all qz7=true↔pre≠[]/\aa=[]:=by
    have aw:pre.all qz7=true:=hP.all;rw[hP.eq,List.all_append,aw,CT]
    constructor
    ·rintro⟨n1,n2⟩;have hr:aa=[]:=by
      cases aa with
      | nil=>rfl
      | cons y ys=>
       have:qz7 y=false:=au;simp[this]at n2
     exact⟨λe=>n1 (by rw[e,hr];rfl),hr⟩
    ·rintro⟨n1,rfl⟩;exact⟨by simpa using n1,rfl⟩
   rw[ah]at W;have ay:=g2.small x mh;have az:=hP.size;have a4:pre.length<=1000000:=by have:=Ad List.length hP.eq;simp at this d1;omega
   by_cases hp:pre=[]
   ·rw[Be (by simp[hp])];refine zu ?_;refine StoreA.mem (ac.call g9.mem.ext) (i:=0) rfl (Ao 7) qj8 λw9 U=>zw ?_;refine qj (R:=λv w'=>TagV l v/\Ext w w') (zw ?_);refine zl U 0 ?_;exact⟨⟨_,_,_,_,_,_,_,qj8,by rw[qhm (λh=>by obtain⟨l2,h1,h2⟩:=h;rw[e1]at h1;cases h1;exact(W.1 h2).1 hp)];rfl⟩,U.ext⟩
   ·rw[AF (by simpa using hp)];refine zu ?_;refine⟨by omega,?_⟩;(conv=>whnf);obtain⟨a0,a1,a2,a3,a6,Z⟩:=id g9.rd;refine qd7 g9.mem Z 6 rfl (show 6<7 by decide) rfl ?_;intro a5 a7 ai;have ab:=g9.step ai ⟨_,_,_,_,_,rfl⟩ af ag (λy hy=>hy) g9.vs;obtain⟨a0,a1,a2,a3,a6,Z⟩:=id ab.rd;(conv=>whnf);refine LoadV.of (v:=.slice A9 aa.length c9) (by have:=ab.mem.get Z;rw[rdC]at this;rw[qa this];rfl) (zw ?_)
    (repeat' refine zC (λ_=>zw ?_) (λ_=>zw ?_))
    ·skip
     refine StoreA.mem (ac.call ab.mem.ext) (i:=0) rfl (Ao 7) qj8 λw9 U=>zw ?_;refine qj (R:=λv w'=>TagV l v/\Ext w w') (zw ?_);refine zl U 0 ?_;exact⟨⟨_,_,_,_,_,_,_,qj8,by rw[qhm (λh=>by obtain⟨l2,h1,h2⟩:=h;rw[e1]at h1;cases h1;have e:=(W.1 h2).2;have:aa.length=0:=(by rw[e];rfl);omega)];rfl⟩,U.ext⟩
    ·skip
     obtain⟨⟨VA,vn,vc,rfl⟩,⟨EA,en,ec,rfl⟩⟩:=id ab.vs;obtain⟨z0,z1,z2,z3,z6,Z⟩:=id ab.rd;refine qtg ab.mem Z rfl rfl (zw ?_);refine StoreA.mem (ac.call ab.mem.ext) (i:=0) rfl (Ao 7) (tag7 ab.vs _ _ _ _ _) λw9 U=>zw ?_;refine qj (R:=λv w'=>TagV l v/\Ext w w') (zw ?_);refine zl U 0 ?_;exact⟨⟨_,_,_,_,_,_,_,tag7 ⟨⟨_,_,_,rfl⟩,⟨_,_,_,rfl⟩⟩ _ _ _ _ _,by rw[qq5 ⟨_,e1,W.2 ⟨hp,List.length_eq_zero_iff.1 Oo⟩⟩];rfl⟩,U.ext⟩
namespace V
theorem AppV.one{n:Nat}{t:Df}{i:TypeInfo}(ht:P.underlying t=some (.slice e))(hi:P.info? e=some i)(hz:i.zero=some z)(U:i.size=1)(W:z.cells.size=1)(Z:i.bytes<=16)(h:Rw w0 w (.slice A n c) e 1 n xs ((nb,.cells #[x] e)::L))(hx:x.oneCell'=true)(hn:n+1<=8000000000000)(hk:∀A' c' w',Rw w0 w' (.slice A' (n+1) c') e 1 (n+1) (xs++[x]) L->K (.slice A' (n+1) c') w'):AppV P #[t,t] ty (.slice A n c) (.slice (some ⟨nb,0,none⟩) 1 1) w K:=by
 refine AppV.rw (news:=[x]) ht hi hz U W Od h rfl (λ_=>⟨nb,0,rfl,λk v hv=>?_⟩) (λu hu=>by simp at hu;rw[hu];exact hx) ?_ Oo (λA' c' w' h'=>hk A' c' w' h'.tail)
 ·rw[qa (h.mem.get mh),Aq]
  simpa using hv
 ·have:(n+1)*i.bytes<=8000000000000*16:=Bz hn Z;omega
end V
namespace V
section
variable {P:De} {n:Nat} {ρ:Dj} {w:Dc}
end
end V
theorem qadb:Do.underlying 159=some (.slice 9):=Tryz.underlying159
theorem qbj{v:Dh}(h:vals k=v):vals=upd vals k v:=by
 funext j
 by_cases e:j=k
 ·subst e;rw[qca,h]
 ·rw[qas _ _ _ _ e]
section
variable {w0 w w':Dc} {O:Dn} {rb tb:Nat} {rest:List Dd} {a0:Dd} {vs es:List Dd} {R2:List (Dm×Dh)}
end
theorem V.later{A B:Prop}(h:A->B)(p:A):B:=h p
structure TM where
 kind:Int
 text:Dd
 type:Dd
 lang:Dd
def encT(t:TM):Dm:=[ii t.kind,.string t.text,.string t.type,.string t.lang]
def qq(t:TM):Dh:=.agg #[ii t.kind,.string t.text,.string t.type,.string t.lang]
structure TermOk(t:TM):Prop where
 kind:InR .i64 t.kind
 text:t.text.size<=140737488355328
 type:t.type.size<=140737488355328
 lang:t.lang.size<=140737488355328
def qhz:Dd:=⟨#[104,116,116,112,58,47,47,119,119,119,46,119,51,46,111,114,103,47,49,57,57,57,47,48,50,47,50,50,45,114,100,102,45,115,121,110,116,97,120,45,110,115,35,108,97,110,103,83,116,114,105,110,103]⟩
open Classical in
noncomputable def litE(t:TM):Nat:=
 if 65536<t.text.size then 2 else if scal t.text.data.toList=none then 40 else if iriE t.type≠0 then iriE t.type
 else if seq t.lang ⟨#[]⟩=false/\65536<t.lang.size then 2
 else if seq t.lang ⟨#[]⟩=false/\(tagE (qcp t.lang)≠0\/seq (lowS t.lang) t.lang=false)then 61
 else if(!seq t.lang ⟨#[]⟩)≠seq t.type qhz then 71 else 0
noncomputable def qa2(t:TM):Nat:=
 if t.kind=1\/t.kind=2 then(if seq t.type ⟨#[]⟩=false\/seq t.lang ⟨#[]⟩=false then 70 else if t.kind=1 then iriE t.text else if 65536<t.text.size then 2 else labE t.text)
 else if t.kind=3 then litE t else 70
theorem qv1(l:List Dd):tagE l=0\/tagE l=61:=by
 grind [qq5,qhm]
theorem q6h(a:Int)(b:Nat)(w:Dc)(U:w.heap[b]?=some (.cells #[ii a,ii 61] 83)):
  Gv Do 143 [.slice (some ⟨b,0,none⟩) 2 2] w λv w'=>v=ii (if a=0 then 61 else a)/\w'=w:=by
 refine ze Tryz.func143 Tryz.ntmps143 ?_;refine qm (λi:Nat=>[(3,ii 0),(6,.slice (some ⟨b,0,none⟩) 2 2),(7,ii 2),(8,ii i)]) (λi W=>i<=1/\(i=1->a=0)/\W=w) (λi=>2-i) 0 fq Js ?_;rintro i W Z ⟨h1,h2,rfl⟩;obtain rfl|rfl:i=0\/i=1:=by omega
 ·refine zu ?_;refine ElemV.own1 0 rfl Oo (zw ?_);refine LoadV.of (by rw[qa U];rfl) (zw ?_);refine zC (λ_=>zu ?_) (λ_=>zu ?_)
  ·simp_all
  ·exact⟨1,fq,(by grind),by omega⟩
 ·refine zu ?_;refine ElemV.own1 1 rfl Oo (zw ?_);refine LoadV.of (by rw[qa U];rfl) (zu ?_)
  simp_all
theorem qp6(t:TM)(ht:TermOk t)(w:Dc)(hM:MaxLenAt w):Gv Do 70 [qq t] w λv w'=>v=ii (litE t)/\Ext w w':=by
 obtain⟨h1,h2,h3,h4⟩:=ht;refine ze Tryz.func70 Tryz.ntmps70 ?_;refine znm (Mem.nil w) λb w1 hm=>zw ?_
 (repeat'(first|refine zC (λ_=>zw ?_) (λ_=>zw ?_)|refine LoadV.mem (i:=0) Oa rfl rfl (zw ?_)))
 ·exact⟨by grind [litE],hm.ext⟩
 ·refine zcv (qnf t.text Oo w1) ?_;rintro v w2 ⟨⟨i,rfl,hi,ak,al⟩,rfl⟩;have n1:¬65536<t.text.size:=by omega
  (conv=>whnf)
  (repeat'(first|refine zC (λ_=>zw ?_) (λ_=>zw ?_)|refine LoadV.mem (i:=0) Oa rfl rfl (zw ?_)))
  ·have hs:scal t.text.data.toList=none:=(by grind)
   exact⟨by grind [litE],hm.ext⟩
  ·have n2:¬scal t.text.data.toList=none:=(by grind)
   refine zcv (qhn t.type Oo w2) ?_;rintro v w3 ⟨rfl,ae⟩;have hm:=hm.call ae;have eL:litE t=if iriE t.type≠0 then iriE t.type else if seq t.lang ⟨#[]⟩=false/\65536<t.lang.size then 2
     else if seq t.lang ⟨#[]⟩=false/\(tagE (qcp t.lang)≠0\/seq (lowS t.lang) t.lang=false)then 61 else if(!seq t.lang ⟨#[]⟩)≠seq t.type qhz then 71 else 0:=by grind [litE]
   rw[eL];conv=>whnf
   (repeat'(first|refine zp ?_|refine zC (λ_=>zw ?_) (λ_=>zw ?_)|refine LoadV.mem (i:=0) Oa rfl rfl (zw ?_)))
   ·exact⟨by simp_all,hm.ext⟩
   ·rw[Ab Oo];cases hl:seq t.lang ⟨#[]⟩
    ·(conv=>whnf)
     (repeat'(first|refine zp ?_|refine zC (λ_=>zw ?_) (λ_=>zw ?_)|refine LoadV.mem (i:=0) Oa rfl rfl (zw ?_)))
     ·exact⟨by grind,hm.ext⟩
     ·rw[Ab (show ¬(false=false/\65536<t.lang.size)by omega)];refine zcv (q92 t.lang Oo w3 (hM.ext hm.ext)) ?_;rintro v w4 ⟨⟨c0,c1,c2,c3,c4,c5,c6,hc,rfl⟩,af⟩;have ag:=hm.call af;obtain⟨E,hE⟩:∃E,E=tagE (qcp t.lang):=⟨_,rfl⟩
      have ac:=qv1 (qcp t.lang);rw[<-hE]at ac|-;(conv=>whnf);refine znm ag λtb w5 ah=>zw ?_;refine StoreA.mem ah (i:=0) rfl (Ao 7) hc λw6 aa=>zw ?_;have W:w6.cell? ⟨b,3,none⟩=some (.string t.lang):=by rw[qa (aa.get (zmg (i:=1) rfl))];rfl
      rcases ac with rfl|rfl
      ·refine DrawV.free rfl Jk (zw ?_);(iterate 4 (refine zd ?_));refine zf ?_ (by intro wd hd;refine zu ?_;refine LoadV.of (Ext.cell (Ext.trans (Ext.drew xr) hd) W) ?_;(conv=>whnf);exact xq);apply zsd
       ·intro wd hd;refine zu ?_;refine zcv (qd0 t.lang Oo wd) ?_;rintro v w7 ⟨rfl,ai⟩;exact⟨ai,rfl⟩
       (conv=>whnf);refine zd ?_;refine zf ?_ (by intro wd hd;refine zu ?_;refine LoadV.of (Ext.cell (Ext.trans (Ext.drew xr) hd) W) ?_;(conv=>whnf);exact xq);refine zd ?_;refine zd ?_;intro wd hd;(conv=>whnf);have U:=aa.drew.call hd;have ad:wd.cell? ⟨b,3,none⟩=some (.string t.lang):=by rw[qa (U.get (zmg (i:=1) rfl))];rfl
       have aj:wd.cell? ⟨b,2,none⟩=some (.string t.type):=by rw[qa (U.get (zmg (i:=1) rfl))];rfl
       cases am:seq (lowS t.lang) t.lang
       ·rw[Af ⟨rfl,.inr rfl⟩];refine zu ?_;refine znm U λab w8 Z=>zw ?_;refine zcv (q6h 0 ab w8 (Z.get mh)) ?_;rintro v w9 ⟨rfl,rfl⟩;(conv=>whnf);exact⟨rfl,Z.ext⟩
       ·rw[Ab Js];(conv=>whnf);refine zt ?_;refine LoadV.mem (i:=1) Oa rfl rfl (zw ?_);refine LoadV.mem (i:=1) Oa rfl rfl (zw ?_);refine zt ?_;show Tst ((!seq t.lang ⟨#[]⟩)==seq t.type qhz) _ _;rw[hl];cases ht:seq t.type qhz
        ·refine zu ?_;exact⟨rfl,U.ext⟩
        ·refine zu ?_;exact⟨rfl,U.ext⟩
      ·rw[Af ⟨rfl,.inl Od⟩];refine DrawV.free rfl Jk (zw ?_);(iterate 10 (refine zd ?_));intro wd hd;(conv=>whnf);have U:=aa.drew.call hd;refine zv ?_;refine znm U λab w8 Z=>zw ?_;refine zcv (q6h 61 ab w8 (Z.get mh)) ?_;rintro v w9 ⟨rfl,rfl⟩;(conv=>whnf);exact⟨rfl,Z.ext⟩
    ·rw[Ab Js,Ab Js];(conv=>whnf);refine zt ?_;refine LoadV.mem (i:=0) Oa rfl rfl (zw ?_);refine LoadV.mem (i:=0) Oa rfl rfl (zw ?_);refine zt ?_;show Tst ((!seq t.lang ⟨#[]⟩)==seq t.type qhz) _ _;rw[hl];cases ht:seq t.type qhz
     ·refine zu ?_;exact⟨rfl,hm.ext⟩
     ·refine zu ?_;exact⟨rfl,hm.ext⟩
theorem qgc(t:TM)(ht:TermOk t)(w:Dc)(hM:MaxLenAt w)(hT:CellsAt w 4 0 qa3):Gv Do 28 [qq t] w λv w'=>v=ii (qa2 t)/\Ext w w':=by
 have Z:=λW (he:Ext w W)=>qp6 t ht W (hM.ext he)
 obtain⟨h1,h2,h3,h4⟩:=ht;refine ze Tryz.func28 Tryz.ntmps28 ?_;refine znm (Mem.nil w) λb W U=>zw ?_;have hA:(t.kind=1\/t.kind=2)->qa2 t=if seq t.type ⟨#[]⟩=false\/seq t.lang ⟨#[]⟩=false then 70 else if t.kind=1 then iriE t.text else if 65536<t.text.size then 2 else labE t.text:=(by grind [qa2])
 have hB:¬(t.kind=1\/t.kind=2)->qa2 t=if t.kind=3 then litE t else 70:=(by grind [qa2])
 (repeat'(first|refine zp ?_|refine zC (λ_=>zw ?_) (λ_=>zw ?_)|refine LoadV.mem (i:=0) Oa rfl rfl (zw ?_)))
 ·rw[hA (.inl Oa)];cases hy:seq t.type ⟨#[]⟩
  ·refine zu ?_;exact⟨by rfl,U.ext⟩
  ·(conv=>whnf);refine zt ?_;refine LoadV.mem (i:=0) Oa rfl rfl (zw ?_);refine zt ?_;cases hl:seq t.lang ⟨#[]⟩
   ·refine zu ?_;exact⟨by rfl,U.ext⟩
   ·rw[Ab Js,Af Oa];(conv=>whnf);refine zt ?_;refine LoadV.mem (i:=0) Oa rfl rfl (zw ?_);refine zt ?_;refine LoadV.mem (i:=0) Oa rfl rfl (zw ?_);refine zcv (qhn t.text Oo W) ?_;rintro v w2 ⟨rfl,he⟩;(conv=>whnf);exact⟨rfl,U.ext.trans he⟩
 ·rw[hA (.inr Oa)];cases hy:seq t.type ⟨#[]⟩
  ·refine zu ?_;exact⟨by rfl,U.ext⟩
  ·(conv=>whnf);refine zt ?_;refine LoadV.mem (i:=0) Oa rfl rfl (zw ?_);refine zt ?_;cases hl:seq t.lang ⟨#[]⟩
   ·refine zu ?_;exact⟨by rfl,U.ext⟩
   ·rw[Ab Js,Ab Oo];conv=>whnf
    (repeat'(first|refine zp ?_|refine zC (λ_=>zw ?_) (λ_=>zw ?_)|refine LoadV.mem (i:=0) Oa rfl rfl (zw ?_)))
    ·exact⟨by grind,U.ext⟩
    ·rw[Ab Oo];refine zcv (qys t.text Oo W (hT.ext U.ext)) ?_;rintro v w2 ⟨rfl,rfl⟩;(conv=>whnf);exact⟨rfl,U.ext⟩
 ·rw[hB Oo,Af Oa];refine zl U 0 ?_;refine zcv (Z W U.ext) ?_;rintro v w2 ⟨rfl,he⟩;(conv=>whnf);exact⟨rfl,U.ext.trans he⟩
 ·exact⟨by simp_all,U.ext⟩
namespace V
theorem StoreA.all{t:Df}{K:Dk}(h:Mem w0 w L)(hi:L[i]?=some (b,.cells cur t))(Z:cur.size=vs.length)(U:∀v∈vs,v.oneCell'=true)(W:∀w',Mem w0 w' (L.set i (b,.cells vs.toArray t))->K w'):StoreA P w b 0 vs K:=by
 refine StoreA.mem h hi Oo U λw' hw=>W w' ?_
 grind [List.drop_eq_nil_of_le]
end V
open V
theorem qy3:∀(x y:LB),Op.bytesLess x y=decide (x<y)
 | [],[]=>by rfl
 | _::_,[]=>by rfl
 | [],_::_=>by rfl
 | a::x,b::y=>by
  rw[Op.bytesLess,qy3 x y];simp only[AX]
  by_cases U:a<b<;>by_cases W:a=b<;>by_cases Z:x<y<;>simp[U,W,Z]
theorem qc4{a b:Dd}:slt a b=true↔a.data.toList<b.data.toList:=by
 grind [slt,qy3,ByteArray.toList_eq]
theorem qhh(a:Dd):slt a a=false:=by
 grind [qc4]
theorem qjo{a b c:Dd}(h:slt a b=true)(k:slt b c=true):slt a c=true:=by
 grind [qc4]
theorem qmq(a b:Dd):slt a b=true\/a=b\/slt b a=true:=by
 rw[qc4,qc4]
 by_cases U:a.data.toList<b.data.toList
 ·exact .inl U
 ·by_cases W:b.data.toList<a.data.toList
  ·simp_all
  ·refine .inr (.inl ?_);have:=List.le_antisymm (List.not_lt.1 W) (List.not_lt.1 U);cases a;simp_all
namespace V
def encB(c:Dg):Dm:=[.int .u8 c.toNat]
structure BS(w:Dc)(v:Dh)(l:LB):Prop where
 h:∃A c,v=.slice A l.length c/\l.length<=c/\SlAt encB 1 w A l
theorem BS.ext{v:Dh}(h:BS w v l)(U:Ext w w'):BS w' v l:=by
 obtain⟨A,c,W,Z,h3⟩:=h;exact⟨A,c,W,Z,h3.ext U⟩
theorem BS.nil(w:Dc):BS w (.slice none 0 0) []:=⟨none,0,rfl,by simp,⟨λh=>absurd rfl h⟩⟩
theorem SlAt.cut{α:Type}{enc:α->Dm}{U:Nat}{A':oA}{l:List α}(h:SlAt enc U w A l)(h1:lo<=hi)(h2:hi<=l.length)(h3:hi<=m)(e:A'=if m=lo then A else A.map (·.add (lo*U))):SlAt enc U w A' ((l.drop lo).take (hi-lo)):=by
 refine⟨λW=>?_⟩;have ab:lo<hi:=by
  rcases AH lo hi with h|h
  ·exact h
  ·exact absurd (by rw[show hi-lo=0 by omega,CB]) W
 have hn:l≠[]:=by rintro rfl;simp at h2;omega
 obtain⟨b,off,rfl,hc⟩:=h.at_ hn;rw[Ab Oo]at e;simp only[AU,q7]at e;refine⟨b,off+lo*U,e,λj x Z=>?_⟩;have hj:j<hi-lo:=by
  have:=(Ae.1 Z).1;simp at this;omega
 have aa:l[lo+j]?=some x:=by
  rw[Bn,Af hj,Cc]at Z;exact Z
 have:=hc (lo+j) x aa
 rwa[Nat.add_mul,<-C2]at this
theorem SliceV.bs{n:Nat}{lo hi:Option Dh}{K:Dh->Prop}(Z:SlAt encB 1 w A l)(hl:l.length=n)(a b m:Nat)(h1:bnd lo 0 a)(h2:bnd hi n b)(h3:bnd mx c m)(U:a<=b)(aa:b<=n)(W:b<=m)(hm:m<=c)(hs:mx.isSome=true->hi.isSome=true)(hk:∀A',SlAt encB 1 w A' ((l.drop a).take (b-a))->K (.slice A' (b-a) (m-a))):SliceV 1 A n c lo hi mx K:=
 ⟨a,b,m,h1,h2,h3,U,W,hm,hs,λA' e=>hk A' (Z.cut U Oo W e)⟩
theorem ElemV.bs{n:Nat}{i:Int}{K:Dh->Prop}(Z:SlAt encB 1 w A l)(U:l.length=n)(j:Nat)(e:i=(j:Int))(W:j<n)(hk:∀b off,w.cell? ⟨b,off,none⟩=some (.int .u8 (l[j]'(U ▸ W)).toNat)->K (.pointer (some ⟨b,off,none⟩))):ElemV A i n 1 K:=
 ElemV.sl Z U j e W λb off hc=>hk b off (by have:=hc 0 _ rfl;rwa[Bq]at this)
structure Upd(w w':Dc)(b:Nat)(o:Obj):Prop where
 os:w'.os=w.os
 tape:w'.tape=w.tape
 output:w'.output=w.output
 size:w.heap.size<=w'.heap.size
 block:∀k,k<w.heap.size->k≠b->w'.heap[k]?=w.heap[k]?
 at_:w'.heap[b]?=some o
theorem Upd.refl{o:Obj}(h:w.heap[b]?=some o):Upd w w b o:=⟨rfl,rfl,rfl,Ao _,λ_ _ _=>rfl,h⟩
theorem Upd.of{o:Obj}(h:w.heap[b]?=some o)(U:Ext w w'):Upd w w' b o:=⟨U.os,U.tape,U.output,U.size,λk W _=>U.block k W,U.get h⟩
theorem Upd.set{t:Df}{v:Dh}(h:w.heap[b]?=some (.cells cs t fr))(U:w'=w.setCell ⟨b,off,none⟩ v):Upd w w' b (.cells (cs.setIfInBounds off v) t fr):=by
 subst U;exact⟨rfl,rfl,rfl,by simp[World.setCell],λk _ W=>Below.heap_setCell _ _ _ _ W,heap_setCell h⟩
theorem Upd.trans{a b c:Dc}{o:Obj}(h:Upd a b k o)(U:Upd b c k o'):Upd a c k o':=
 ⟨U.os.trans h.os,U.tape.trans h.tape,U.output.trans h.output,A4 h.size U.size,λj Z W=>(U.block j (AE Z h.size) W).trans (h.block j Z W),U.at_⟩
theorem Upd.ext{o:Obj}(h:Upd w w' b o)(U:Ext w0 w)(Z:w0.heap.size<=b):Ext w0 w':=
 Below.trans U ⟨h.os,h.tape,h.output,h.size,λk W=>h.block k (AE W U.size) Oo⟩
theorem Mem.upd{o:Obj}(h:Mem w0 w L)(hi:L[i]?=some (b,o))(hu:Upd w w' b o'):Mem w0 w' (L.set i (b,o')):=by
 have hm:(b,o)∈L:=zmg hi;have aa:i<L.length:=(Ae.1 hi).1;have ab:L[i]=(b,o):=(Ae.1 hi).2;have hn:((L.set i (b,o')).map (·.1))=L.map (·.1):=by
  rw[List.map_set];apply Bi;intro j;rw[BP]
  split
  ·rename_i e;subst e
   rw[Ar,hi];simp[aa]
  ·rfl
 refine⟨hu.ext h.ext (h.own _ hm).1,?_,by rw[hn];exact h.nodup⟩;intro x hx
 rcases Ce hx with U | rfl
 ·refine⟨(h.own x U).1,?_⟩
  by_cases e:x.1=b
  ·obtain⟨j,hj,W⟩:=BJ.1 hx
   by_cases Z:j=i
   ·subst Z;rw[List.getElem_set_self]at W;rw[<-W];exact hu.at_
   ·have h1:(L.map (·.1))[j]'(by simpa using hj)=b:=by
     have:(L.set i (b,o'))[j]=L[j]'(by simpa using hj):=List.getElem_set_ne (λe=>Z e.symm) _;rw[CX,<-this,W,e]
    have h2:(L.map (·.1))[i]'(by simpa using aa)=b:=by rw[CX,ab]
    have:=(List.getElem_inj h.nodup).1 (h1.trans h2.symm);exact absurd this Z
  ·rw[hu.block _ (h.lt (b:=x.1) (o:=x.2) U) e];exact(h.own x U).2
 ·exact⟨(h.own (b,o) hm).1,hu.at_⟩
end V
open Go.ChangeShapes Go.WideShapes Go.RowKit V
namespace V
section
variable {H:Type} {enc:Df×Dh->H} {P:De} {w:Dc} {t:Df}
theorem Opn.sliceR{α:Type}[Inhabited α]{en:α->Dm}{R:α->Prop}{size e:Nat}{c:Dh}(ht:P.underlying t=some (.slice e))(hc:P.cellsOf e=size)(ae:0<size)(Z:∀x,(en x).length=size)(aa:∀cs,Opn enc P w e cs->∃x,cs=en x/\R x)(h:Opn enc P w t [c]):
  ∃(A:oA) (W:Nat) (l:List α),c=.slice A l.length W/\l.length<=W/\W*P.bytesOf e<=140737488351232/\(∀x∈l,R x)/\SlAt en size w A l:=by
 obtain⟨n,d,ps,h,hw⟩:=h;have e2:reachBytes=140737488351232:=rfl
 rcases Deep.open_slice ht h with⟨h1,_⟩|⟨a,U,W,m,n,D,Pl,h1,_,af,ag,hm,hd,hx⟩
 ·refine⟨none,0,[],by simpa using h1,by simp,by simp,by simp,⟨λh=>absurd rfl h⟩⟩
 ·simp only[if_true]at hm;simp only[Prod.mk.injEq]at hd;obtain⟨rfl,_⟩:=hd;rw[DataW.weights,ht]at hw;simp only[AC,List.length_range]at hw;have ab:=hw _ mh;rw[show U+(m-U)=W by omega]at ab;obtain⟨X,hX⟩:=Deep.choose_lt (n:=U) (p:=λi (x:α)=>w.cells? 0 (a.add (i*P.cellsOf e)) (P.cellsOf e)=some (en x)/\R x) (λi hi=>by
   obtain⟨cs,h2,h3⟩:=hx i Oo;obtain⟨x,rfl,hr⟩:=aa cs ⟨n,D i,Pl i,h3,λk hk=>hw k (zmc (Ag _ (qey hk _ (AI.2 ⟨i,B6.2 hi,rfl⟩))))⟩;exact⟨x,h2,hr⟩)
  refine⟨some a,W,(List.range U).map X,by simpa using h1,by simp;omega,by omega,λs hs=>?_,⟨λhn=>?_⟩⟩
  ·obtain⟨i,hi,rfl⟩:=AI.1 hs;exact(hX i (B6.1 hi)).2
  ·have ac:0<U:=by
    rcases B0 U with h0|h0
    ·exact absurd (by rw[h0];rfl) hn
    ·exact h0
   have hs:a=⟨a.block,a.off,none⟩:=by
    obtain⟨_,_,h2⟩:=World.cells?_some (hX 0 ac).1;have h3:=h2 0 Oo;rw[zge (by rw[Z];omega)]at h3;refine q0z (w:=w) (v:=(en (X 0))[0]'(by rw[Z];omega)) ?_
    simpa[Addr.add]using h3
   refine⟨a.block,a.off,by rw[<-hs],λj s hj k v hv=>?_⟩;have ad:j<U:=by
    have:=(Ae.1 hj).1
    simpa using this
   rw[Ar,B4 ad]at hj;simp only[AU,AN]at hj;subst hj;obtain⟨_,_,h2⟩:=World.cells?_some (hX j ad).1;have hk:k<size:=by rw[<-Z (X j)];exact(Ae.1 hv).1
   have h3:=h2 k Oo;rw[hv,hs,q7,q7,hc]at h3;exact h3
end
end V
def qg9(i n:Nat):LB->Nat×Nat×Nat
 | []=>(0,0,10)
 | c::l=>if(i=9/\1<c.toNat)\/(0<i/\c.toNat=0)then(0,0,11)else if c.toNat<128 then(n+c.toNat%128*2 ^ (7*i),i+1,0)else qg9 (i+1) (n+c.toNat%128*2 ^ (7*i)) l
def numL(l:LB):Nat×Nat×Nat:=qg9 0 0 l
theorem qeh{n:Nat}{c:Dg}:qg9 i n (c::l)=if(i=9/\1<c.toNat)\/(0<i/\c.toNat=0)then(0,0,11)else if c.toNat<128 then(n+c.toNat%128*2 ^ (7*i),i+1,0)else qg9 (i+1) (n+c.toNat%128*2 ^ (7*i)) l:=rfl
theorem qbp{k:IntKind}(i:Nat)(U:InR k ((a+b*2 ^ i:Nat):Int))(W:a<2 ^ i):qdo .or k (a:Int) ((b*2 ^ i:Nat):Int)=((a+b*2 ^ i:Nat):Int):=by
 have e:(a |||b*2 ^ i)=a+b*2 ^ i:=by
  rw[Nat.or_comm,BN b,Da];exact(Nat.two_pow_add_eq_or_of_lt W b).symm
 rw[qpi (InR.le U Oo) (InR.le U Oo) (by rw[e];exact U),e]
theorem V.Wit.shlN{k:IntKind}{b:Int}{K:Int->Prop}(n:Nat)(e:b=(n:Int))(Z:n<k.bits)(h:InR k ((a*2 ^ n:Nat):Int))(U:K ((a*2 ^ n:Nat):Int)):
  Wit (λr=>0<=b/\b<k.bits/\k.wrap ((a:Int)*2 ^ b.toNat)=r) K:=by
 subst e;have W:(a:Int)*2 ^ ((n:Int).toNat)=((a*2 ^ n:Nat):Int):=by
  rw[Int.toNat_natCast];push_cast;rfl
 refine⟨_,⟨by omega,by omega,?_⟩,U⟩;rw[W];exact h.wrap
theorem pow7(i:Nat)(hi:i<=8):2 ^ (7*i)<=72057594037927936:=by
 have:2 ^ (7*i)<=2 ^ 56:=AQ Od Oo
 simpa using this
theorem qkg(i n c:Nat)(hi:i<=9)(Z:n<2 ^ (7*i))(hc:c<256)(h9:i=9->c<=1):c%128*2 ^ (7*i)<=9223372036854775808/\n+c%128*2 ^ (7*i)<2 ^ 64/\(i<9->n+c%128*2 ^ (7*i)<2 ^ (7*(i+1))):=by
 by_cases e:i=9
 ·subst e;have h1:=h9 rfl;have h2:c%128=c:=BZ Oo;rw[h2];have W:2 ^ (7*9)=9223372036854775808:=by decide
  rw[W]at Z|-;have:c*9223372036854775808<=1*9223372036854775808:=Bc _ h1;have U:2 ^ 64=18446744073709551616:=by decide
  exact⟨by omega,by rw[U];omega,λh=>by omega⟩
 ·have W:2 ^ (7*(i+1))=128*2 ^ (7*i):=by rw[Nat.mul_add,Nat.pow_add];omega
  have hm:c%128*2 ^ (7*i)<=127*2 ^ (7*i):=Bc _ Oo;have h7:=pow7 i Oo;have U:2 ^ 64=18446744073709551616:=by decide
  exact⟨by omega,by rw[U];omega,λ_=>by rw[W];omega⟩
def numV(r:Nat×Nat×Nat):Dh:=.tuple #[.int .u64 r.1,ii r.2.1,ii r.2.2]
theorem qio{n:Nat}(h:n<2 ^ 64):InR .u64 (n:Int):=by
 have U:2 ^ 64=18446744073709551616:=by decide
 exact⟨by omega,by omega⟩
theorem qx5(l:LB)(i:Nat)(h:i<l.length):l.drop i=l[i]::l.drop (i+1):=Bo h
def curO(t:Df)(v:Dh)(U e:Nat):Obj:=.cells #[v,ii U,ii e] t
theorem q33(b:Nat)(v:Dh)(U e:Nat)(l:LB)(w:Dc)(hb:w.heap[b]?=some (curO 367 v U e))(hv:BS w v l)(ad:U<=l.length)(_:l.length<=140737488355328):
  Gv Do 360 [pp b] w λr w'=>r=numV (numL (l.drop U))/\Ext w w':=by
 obtain⟨A,c,rfl,hc,hS⟩:=hv;refine ze Tryz.func360 Tryz.ntmps360 ?_;refine zy ?_;refine zv ?_;refine LoadV.own hb rfl (zu ?_);refine LoadV.own hb rfl (zu ?_);refine SliceV.bs hS rfl U l.length c rfl rfl rfl ad znr hc znr (λh=>by cases h) ?_;intro A' ab;refine zu ?_;have ae:(l.drop U).take (l.length-U)=l.drop U:=Ay Js;rw[ae]at ab;obtain⟨m,hm⟩:∃m,m=l.drop U:=⟨_,rfl⟩
 have af:m.length=l.length-U:=by rw[hm];simp
 rw[<-hm]at ab|-;have hx:=(Ext.refl w).drew;have hA:=ab.ext hx;refine qm (λx:Nat×Nat=>[(16,.slice A' (l.length-U) (c-U)),(17,ii (l.length-U:Nat)),(18,ii x.1),(5,.int .u64 x.2)]) (λx w1=>x.1<=m.length/\x.1<=9/\x.2<2 ^ (7*x.1)/\numL m=qg9 x.1 x.2 (m.drop x.1)/\Ext w.drew w1) (λx=>m.length-x.1) (0,0)
  fq ⟨by simp,by simp,by simp,by rw[B7];rfl,xr⟩ ?_
 rintro⟨i,n⟩ w1 ai ⟨h1,h9,hn,W,Z⟩;dsimp only at h1 h9 hn W|-;(conv=>whnf);refine zC (λ_=>zw ?_) (λ_=>zw ?_)
 ·have hi:i<m.length:=by omega
  rw[qx5 m i hi,qeh]at W;obtain⟨c0,ac⟩:∃c0,c0=m[i]:=⟨_,rfl⟩
  have ag:c0.toNat<256:=c0.toBitVec.isLt;rw[<-ac]at W;refine ElemV.bs (hA.ext Z) af i rfl Oo ?_;intro eb eo aa;rw[<-ac]at aa;(conv=>whnf);refine LoadV.of aa (zw ?_)
  (repeat'(first|refine zp ?_|refine zC (λ_=>zw ?_) (λ_=>zw ?_)))
  all_goals first
   | exact⟨by rw[W,Af Oo];rfl,hx.trans Z⟩
   | skip
  all_goals
   rw[Ab Oo]at W;obtain⟨g1,g2,g3⟩:=qkg i n c0.toNat h9 hn ag Oo;refine Wit.eq (qbo (k:=.u8) (m:=c0.toNat) 7 rfl ⟨by omega,by omega⟩ ⟨by omega,by omega⟩) (zu ?_);refine V.Wit.shlN (7*i) Oo (by show 7*i<64;omega) (qio (by show c0.toNat%2 ^ 7*2 ^ (7*i)<_;rw[show 2 ^ 7=128 from rfl];omega)) (zw ?_);refine Wit.eq (qbp (7*i) (qio g2) hn) (zw ?_)
   (repeat'(first|refine zp ?_|refine zC (λ_=>zw ?_) (λ_=>zw ?_)))
   all_goals first
    | (rw[Af Oo]at W;exact⟨by rw[W];rfl,hx.trans Z⟩)
    | (rw[Ab Oo]at W;exact⟨(i+1,n+c0.toNat%128*2 ^ (7*i)),fq,⟨by simp only;omega,by simp only;omega,g3 Oo,W,Z⟩,by simp only;omega⟩)
 ·rw[AZ Oo,qg9]at W;exact⟨by rw[W];rfl,hx.trans Z⟩
theorem qht:∀(l:LB) (i n:Nat),i<=9->n<2 ^ (7*i)->(qg9 i n l).1<2 ^ 64/\(qg9 i n l).2.1<=i+l.length/\((qg9 i n l).2.2=0\/(qg9 i n l).2.2=10\/(qg9 i n l).2.2=11)
 | [],i,n,_,_=>⟨show 0<2 ^ 64 by decide,by simp[qg9],.inr (.inl rfl)⟩
 | c::l,i,n,hi,hn=>by
  rw[qeh]
  by_cases W:(i=9/\1<c.toNat)\/(0<i/\c.toNat=0)
  ·rw[Af W];exact⟨by decide,An _,.inr (.inr rfl)⟩
  ·rw[Ab W];have U:c.toNat<256:=c.toBitVec.isLt;obtain⟨g1,g2,g3⟩:=qkg i n c.toNat hi hn U Oo
   by_cases Z:c.toNat<128
   ·rw[Af Z];exact⟨g2,by simp only[AM];omega,.inl rfl⟩
   ·rw[Ab Z];have:=qht l (i+1) _ Oo (g3 Oo);refine⟨this.1,?_,this.2.2⟩;have:=this.2.1;simp only[AM];omega
theorem qb4(l:LB):(numL l).1<2 ^ 64/\(numL l).2.1<=l.length/\((numL l).2.2=0\/(numL l).2.2=10\/(numL l).2.2=11):=by
 have:=qht l 0 0 Oo Od
 rwa[Aq]at this
def varS(l:LB)(U e:Nat):Nat×Nat×Nat:=if e≠0 then(0,U,e)else if(numL (l.drop U)).2.2≠0 then(0,U,(numL (l.drop U)).2.2)else((numL (l.drop U)).1,U+(numL (l.drop U)).2.1,0)
theorem q5d(b:Nat)(v:Dh)(U e:Nat)(l:LB)(w:Dc)(Z:w.heap[b]?=some (curO 367 v U e))(hv:BS w v l)(aa:U<=l.length)(hl:l.length<=140737488355328):
  Gv Do 314 [pp b,.int .u64 18446744073709551615] w λr w'=>r=.int .u64 (varS l U e).1/\Upd w w' b (curO 367 v (varS l U e).2.1 (varS l U e).2.2):=by
 have ab:=q33 b v U e l w Z hv aa hl;obtain⟨g1,g2,g3⟩:=qb4 (l.drop U);rw[zld]at g2;have ad:2 ^ 64=18446744073709551616:=by decide
 refine ze Tryz.func314 Tryz.ntmps314 ?_;refine LoadV.own Z rfl (zw ?_);refine zC (λ_=>zw ?_) (λ_=>zw ?_)
 ·have hS:varS l U e=(0,U,e):=by rw[varS,Af Oo]
  rw[hS];exact⟨rfl,Upd.refl Z⟩
 ·have ac:e=0:=by omega
  subst ac;refine zcv (ab) ?_;rintro r w1 ⟨rfl,he⟩;have W:=he.get Z;have hS:varS l U 0=if(numL (l.drop U)).2.2≠0 then(0,U,(numL (l.drop U)).2.2)else((numL (l.drop U)).1,U+(numL (l.drop U)).2.1,0):=by rw[varS,Ab Oo]
  (conv=>whnf);refine zC (λ_=>zu ?_) (λ_=>zu ?_)
  ·refine LoadV.own W rfl (zu ?_);refine StoreV.own W (show 1<3 by decide) rfl ?_;intro w2 hw;have hu:=(Upd.of Z he).trans (Upd.set W hw);rw[hS,Ab Oo];(conv=>whnf);exact⟨rfl,hu⟩
  ·refine StoreV.own W (show 2<3 by decide) rfl ?_;intro w2 hw;have hu:=(Upd.of Z he).trans (Upd.set W hw);rw[hS,Af Oo];(conv=>whnf);exact⟨rfl,hu⟩
theorem qda(b:Nat)(v:Dh)(U e:Nat)(l:LB)(w:Dc)(Z:w.heap[b]?=some (curO 367 v U e))(hv:BS w v l)(W:U<=l.length)(hl:l.length<=140737488355328):
  Gv Do 233 [pp b] w λr w'=>r=.int .u64 (varS l U e).1/\Upd w w' b (curO 367 v (varS l U e).2.1 (varS l U e).2.2):=by
 refine ze Tryz.func233 Tryz.ntmps233 ?_;refine zcv (q5d b v U e l w Z hv W hl) ?_;rintro r w1 ⟨rfl,hu⟩;(conv=>whnf);exact⟨rfl,hu⟩
def leN:LB->Nat
 | []=>0
 | c::l=>c.toNat+256*leN l
theorem qyz(l:LB):leN l<256 ^ l.length:=by
 induction l with
 | nil=>decide
 | cons c l W=>
  have U:c.toNat<256:=c.toBitVec.isLt
  grind [leN]
theorem qyx(l m:LB):leN (l++m)=leN l+256 ^ l.length*leN m:=by
 induction l<;>grind [leN]
theorem q6f(h:4<=l.length):leN (l.take 4)=l[0].toNat+l[1].toNat*2 ^ 8+l[2].toNat*2 ^ 16+l[3].toNat*2 ^ 24:=by
 match l,h with
 | a::b::c::d::r,_=>grind [leN]
theorem qabr(h:2<=l.length):leN (l.take 2)=l[0].toNat+l[1].toNat*2 ^ 8:=by
 match l,h with
 | a::b::r,_=>grind [leN]
theorem qag{n:Nat}(h:n<9223372036854775808):InR .i64 (n:Int):=⟨by omega,by omega⟩
theorem q9(c:Dg):c.toNat<256:=c.toBitVec.isLt
theorem qab0(l:LB)(A:oA)(n c:Nat)(w:Dc)(hS:SlAt encB 1 w A l)(W:l.length=n)(h4:4<=l.length):
  Gv Do 103 [.slice A n c] w λv w'=>v=ii (leN (l.take 4))/\Ext w w':=by
 have Z:=hS.ext (Ext.refl w).drew;have b0:=q9 l[0];have b1:=q9 l[1];have b2:=q9 l[2];have b3:=q9 l[3];rw[q6f h4];refine ze Tryz.func103 Tryz.ntmps103 ?_;refine zy ?_;refine zv ?_;refine ElemV.bs Z W 0 rfl Oo ?_;intro eb eo U;refine zu ?_;refine LoadV.of U (zu ?_);refine ElemV.bs Z W 1 rfl Oo ?_;intro eb eo U;refine zu ?_;refine LoadV.of U (zu ?_);refine V.Wit.shlN 8 rfl Od (qag Oo) (zu ?_);refine Wit.eq (qbp 8 (qag Oo) b0) (zu ?_);refine ElemV.bs Z W 2 rfl Oo ?_;intro eb eo U;refine zu ?_;refine LoadV.of U (zu ?_);refine V.Wit.shlN 16 rfl Od (qag Oo) (zu ?_);refine Wit.eq (qbp 16 (qag Oo) Oo) (zu ?_);refine ElemV.bs Z W 3 rfl Oo ?_;intro eb eo U;refine zu ?_;refine LoadV.of U (zu ?_);refine V.Wit.shlN 24 rfl Od (qag Oo) (zu ?_);refine Wit.eq (qbp 24 (qag Oo) Oo) (zu ?_);exact⟨rfl,(Ext.refl w).drew⟩
theorem qlv(l:LB)(A:oA)(n c:Nat)(w:Dc)(hS:SlAt encB 1 w A l)(W:l.length=n)(h4:4<=l.length):
  Gv Do 299 [.slice A n c] w λv w'=>v=ii (leN (l.take 4))/\Ext w w':=by
 have Z:=hS.ext (Ext.refl w).drew;have b0:=q9 l[0];have b1:=q9 l[1];have b2:=q9 l[2];have b3:=q9 l[3];rw[q6f h4];refine ze Tryz.func299 Tryz.ntmps299 ?_;refine zy ?_;refine zv ?_;refine ElemV.bs Z W 0 rfl Oo ?_;intro eb eo U;refine zu ?_;refine LoadV.of U (zu ?_);refine ElemV.bs Z W 1 rfl Oo ?_;intro eb eo U;refine zu ?_;refine LoadV.of U (zu ?_);refine V.Wit.shlN 8 rfl Od (qag Oo) (zu ?_);refine Wit.eq (qbp 8 (qag Oo) b0) (zu ?_);refine ElemV.bs Z W 2 rfl Oo ?_;intro eb eo U;refine zu ?_;refine LoadV.of U (zu ?_);refine V.Wit.shlN 16 rfl Od (qag Oo) (zu ?_);refine Wit.eq (qbp 16 (qag Oo) Oo) (zu ?_);refine ElemV.bs Z W 3 rfl Oo ?_;intro eb eo U;refine zu ?_;refine LoadV.of U (zu ?_);refine V.Wit.shlN 24 rfl Od (qag Oo) (zu ?_);refine Wit.eq (qbp 24 (qag Oo) Oo) (zu ?_);exact⟨rfl,(Ext.refl w).drew⟩
theorem q98(l:LB)(A:oA)(n c:Nat)(w:Dc)(hS:SlAt encB 1 w A l)(W:l.length=n)(h4:2<=l.length):
  Gv Do 300 [.slice A n c] w λv w'=>v=ii (leN (l.take 2))/\Ext w w':=by
 have Z:=hS.ext (Ext.refl w).drew;have b0:=q9 l[0];have b1:=q9 l[1];rw[qabr h4];refine ze Tryz.func300 Tryz.ntmps300 ?_;refine zy ?_;refine zv ?_;refine ElemV.bs Z W 0 rfl Oo ?_;intro eb eo U;refine zu ?_;refine LoadV.of U (zu ?_);refine ElemV.bs Z W 1 rfl Oo ?_;intro eb eo U;refine zu ?_;refine LoadV.of U (zu ?_);refine V.Wit.shlN 8 rfl Od (qag Oo) (zu ?_);refine Wit.eq (qbp 8 (qag Oo) b0) (zu ?_);exact⟨rfl,(Ext.refl w).drew⟩
namespace V
theorem Mem.fresh{o:Obj}(h:Mem w0 w L)(Z:Ext w w')(hb:w.heap.size<=b)(ho:w'.heap[b]?=some o):Mem w0 w' ((b,o)::L):=by
 have W:=h.call Z;refine⟨W.ext,λx U=>?_,?_⟩
 ·rcases Aw.1 U with rfl|U
  ·exact⟨A4 h.ext.size hb,ho⟩
  ·exact W.own x U
 ·simp only[AG,CO];refine⟨λhm=>?_,h.nodup⟩;obtain⟨x,U,e⟩:=AI.1 hm;have:=h.lt (b:=x.1) (o:=x.2) U;omega
theorem Fall.max2{c:Call}{k:IntKind}{x y:Int}(W:o.op=.call c)(Z:c.callee=.builtin .max)(U:evs ρ c.args.toList=[.int k x,.int k y])(h:∀m,m=max x y->K (.int k m) w):Fall P (execOp (ev ρ) o) w K:=by
 have e:execOp (ev ρ) o=(do pure (.value (<-Builtin.max_ c.argTypes o.type (c.args.map (ev ρ))))):=by
  simp only[execOp,W,resolve,Z];rfl
 have ha:c.args.map (ev ρ)=#[.int k x,.int k y]:=by
  rw[qcy]at U;rw[<-Br];simpa using U
 refine⟨.inl ⟨_,w,?_,h _ rfl⟩⟩;rw[e,ha];simp only[Sem.run_bind,run_max_int2,Result.andThen_ok,Sem.run_pure]
 congr 3
 rw[Int.max_def]
 split<;>(try split)<;>omega
theorem Fall.min2{c:Call}{k:IntKind}{x y:Int}(W:o.op=.call c)(Z:c.callee=.builtin .min)(U:evs ρ c.args.toList=[.int k x,.int k y])(h:∀m,m=min x y->K (.int k m) w):Fall P (execOp (ev ρ) o) w K:=by
 have e:execOp (ev ρ) o=(do pure (.value (<-Builtin.min_ c.argTypes o.type (c.args.map (ev ρ))))):=by
  simp only[execOp,W,resolve,Z];rfl
 have ha:c.args.map (ev ρ)=#[.int k x,.int k y]:=by
  rw[qcy]at U;rw[<-Br];simpa using U
 refine⟨.inl ⟨_,w,?_,h _ rfl⟩⟩;rw[e,ha];simp only[Sem.run_bind,run_min_int2,Result.andThen_ok,Sem.run_pure]
 congr 3
 rw[Int.min_def]
 split<;>(try split)<;>omega
end V
theorem qdj(v:Dh)(l:LB)(w:Dc)(U:BS w v l):
  Gv Do 159 [v] w λr w'=>∃b,r=pp b/\w.heap.size<=b/\w'.heap[b]?=some (curO 367 v 0 0)/\Ext w w':=by
 obtain⟨A,c,rfl,hc,hS⟩:=U;refine ze Tryz.func159 Tryz.ntmps159 ?_;refine⟨λb w' W Z=>?_⟩;subst W Z;(conv=>whnf);exact⟨w.heap.size,rfl,Ao _,heap_alloc_new w _,(Ext.refl w).alloc _⟩
theorem qir(b:Nat)(v:Dh)(a e:Nat)(w:Dc)(U:w.heap[b]?=some (curO 367 v a e)):Gv Do 166 [pp b] w λr w'=>r=ii a/\w'=w:=by
 refine ze Tryz.func166 Tryz.ntmps166 ?_;refine LoadV.own U rfl (zw ?_);exact⟨rfl,rfl⟩
theorem qe5(b:Nat)(v:Dh)(a e:Nat)(w:Dc)(U:w.heap[b]?=some (curO 367 v a e)):Gv Do 234 [pp b] w λr w'=>r=ii e/\w'=w:=by
 refine ze Tryz.func234 Tryz.ntmps234 ?_;refine LoadV.own U rfl (zw ?_);exact⟨rfl,rfl⟩
theorem qsu(b:Nat)(v:Dh)(a e:Nat)(l:LB)(w:Dc)(U:w.heap[b]?=some (curO 367 v a e))(W:BS w v l)(Z:a<=l.length)(hl:l.length<=140737488355328):
  Gv Do 313 [pp b] w λr w'=>r=ii (l.length-a:Nat)/\Ext w w':=by
 obtain⟨A,c,rfl,hc,hS⟩:=W;refine ze Tryz.func313 Tryz.ntmps313 ?_;refine zy ?_;refine zv ?_;refine LoadV.own U rfl (zu ?_);refine LoadV.own U rfl (zu ?_);exact⟨Ad (Value.int .i64) Oo,(Ext.refl w).drew⟩
theorem qkr(w:Dc):Gv Do 195 [ii 4] w λr w'=>r=ii 4/\w'=w:=by
 refine ze Tryz.func195 Tryz.ntmps195 ?_;refine V.Fall.max2 rfl rfl rfl λm U=>?_;obtain rfl:m=4:=by omega
 refine V.Fall.min2 rfl rfl rfl λm U=>?_;obtain rfl:m=4:=by omega
 (conv=>whnf);exact⟨rfl,rfl⟩
theorem q40(b:Nat)(v:Dh)(a n:Nat)(l:LB)(w:Dc)(hb:w.heap[b]?=some (curO 367 v a 0))(hv:BS w v l)(ha:a+n<=l.length)(hl:l.length<=140737488355328)(ab:∀A c,v=.slice A l.length c->True):
  Gv Do 231 [pp b,ii n] w λr w'=>(∃A' c',r=.slice A' n c'/\SlAt encB 1 w A' ((l.drop a).take n))/\Upd w w' b (curO 367 v (a+n) 0):=by
 have W:=qsu b v a 0 l w hb hv Oo hl;obtain⟨A,c,rfl,hc,hS⟩:=hv;refine ze Tryz.func231 Tryz.ntmps231 ?_;refine LoadV.own hb rfl (zu ?_);refine zcv (W) ?_;rintro r w1 ⟨rfl,he⟩;have Z:=he.get hb;refine zu ?_;refine LoadV.own Z rfl (zu ?_);refine StoreV.own Z (show 1<3 by decide) rfl ?_;intro w2 hw;have hu:=(Upd.of hb he).trans (Upd.set Z hw);have U:w2.heap[b]?=some (curO 367 (.slice A l.length c) (a+n) 0):=hu.at_;(conv=>whnf);refine zy ?_;refine zv ?_;refine LoadV.own U rfl (zu ?_);refine LoadV.own U rfl (zu ?_);refine LoadV.own U rfl (zu ?_);refine SliceV.bs hS rfl a (a+n) c (by show(((a+n:Nat):Int)-(n:Int))=(a:Int);omega) rfl rfl Oo ha Oo znr (λh=>by cases h) ?_;intro A' aa;refine zu ?_;have e:a+n-a=n:=by omega
 rw[e]at aa|-;exact⟨⟨A',_,rfl,aa⟩,hu.trans (Upd.of U (Ext.refl w2).drew)⟩
def qai(a b:TM):Bool:=decide (a.kind=b.kind)&&(seq a.text b.text&&(seq a.type b.type&&seq a.lang b.lang))
theorem qu{a b:TM}:qai a b=true↔a=b:=by
 obtain⟨a0,U,W,Z⟩:=a;obtain⟨b0,b1,b2,b3⟩:=b;simp[qai,qa1]
theorem quj:Do.underlying 45=some (.struct (Do.fieldsOf 45)):=by kernel_rfl
theorem q01:Do.stoodInHeld 45=false:=by kernel_rfl
theorem qx9:Do.eqGuardType Do.depth 45=false:=by kernel_rfl
theorem qaq(d:Nat)(a b:TM)(w:Dc):(Op.equalIn (d+2) 45 (qq a) (qq b)).run Do w=.ok (qai a b) w:=by
 have u3:=Tryz.underlying3;have a3:=Tryz.isAgg3;have z3:=Tryz.sizeOf3;have u9:=Tryz.underlying9;have a9:=Tryz.isAgg9;have z9:=Tryz.sizeOf9;simp only[qq];rw[run_equalIn_agg w (d+1) _ _ _ quj q01];simp only[Program.fieldsOf,Tryz.underlying45]
 go_simp
 have e:∀x y:Dd,(x.toList=y.toList)=(seq x y=true):=λx y=>by rw[<-qj9,C7]
 simp only[e]
 by_cases U:a.kind=b.kind<;>cases W:seq a.text b.text<;>cases Z:seq a.type b.type<;>cases h4:seq a.lang b.lang<;>simp[qai,U,W,Z,h4]
namespace V
theorem RunV.eqTerm{U:BinOp}{a b:TM}(W:U=.eql\/U=.neq)(h:K (.bool (bif eqOp U then qai a b else !qai a b)) w):
  RunV Do (do eqGuard U 45 xo yo (qq a) (qq b);binOp U 45 (qq a) (qq b)) w K:=by
 refine⟨_,w,?_,h⟩;rw[Sem.run_bind,qq,qq,run_eqGuard_agg w U _ xo yo _ _ qx9,Result.andThen_ok];have e:=qaq 9998 a b w;simp only[qq]at e
 rcases W with rfl|rfl
 ·rw[run_eql_struct,e];rfl
 ·rw[run_neq_struct,e];rfl
end V
def qwe(t:TM):Bool:=decide (t.kind=0)&&(seq t.text ⟨#[]⟩&&(seq t.type ⟨#[]⟩&&seq t.lang ⟨#[]⟩))
def canB(k:Nat)(t:TM):Bool:=
 if k=0 then decide (t.kind=1)||decide (t.kind=2)else if k=1 then decide (t.kind=1)else if k=2 then decide (1<=t.kind)&&decide (t.kind<=3)else qwe t||decide (t.kind=1)||decide (t.kind=2)
def qcf:Dn->Nat
 | []=>0
 | e::l=>if e≠0 then e else qcf l
theorem qde{l:Dn}(h:∀j (U:j<l.length),l[j]=0):qcf l=0:=by
 induction l with
 | nil=>rfl
 | cons x l W=>
  have Z:=h 0 Js;simp only[CE]at Z;rw[qcf,Ab Oo];exact W λj U=>by have:=h (j+1) Ys;rwa[CF]at this
theorem qi1{l:Dn}(W:k<l.length)(h:∀j (Z:j<l.length),j<k->l[j]=0)(U:l[k]≠0):qcf l=l[k]:=by
 induction l generalizing k with
 | nil=>simp at W
 | cons x l ih=>
  cases k with
  | zero=>simp only[CE]at U|-;rw[qcf,Af U]
  | succ k=>
   have h0:=h 0 Js Oo;simp only[CE]at h0;rw[qcf,Ab Oo];simp only[CF]at U|-;exact ih (by simpa using W) (λj Z aa=>by have:=h (j+1) Ys Oo;rwa[CF]at this) U
theorem CellsAt.mem{t:Df}(h:Mem w0 w L)(hi:(b,Obj.cells cs t fr)∈L):CellsAt w b 0 cs.toList:=λk v U=>by
 rw[qa (h.get hi),Aq]
 simpa using U
namespace V
theorem StoreA.rwAll{v:Dh}{U n:Nat}{t:Df}{K:Dk}(h:Rw w0 w v e U n xs ((b,.cells cur t)::L))(hl:cur.size=vs.length)(h1:∀v∈vs,v.oneCell'=true)(W:∀w',Rw w0 w' v e U n xs ((b,.cells vs.toArray t)::L)->K w'):StoreA P w b 0 vs K:=by
 have hg:=h.mem.get mh;have hb:v.ownBlock≠some b:=h.apart _ mh;have hr:=run_storeCells_at P b 0 t vs 0 cur w hg Ys h1;have ec:(cur.toList.take (0+0)++vs++cur.toList.drop (0+0+vs.length)).toArray=vs.toArray:=by
  rw[CB,Bs,AZ Ys,By]
 rw[ec]at hr;refine⟨_,hr,W _ ⟨?_,?_,λy Z=>?_⟩⟩
 ·have:=h.mem.set (i:=0) (b:=b) (o:=.cells cur t) (o':=.cells vs.toArray t) rfl (w':=w.setRow b vs.toArray) ?_ (qb2 hg) (λc hc=>qp hc)
  ·exact this
  ·exact Below.trans h.mem.ext ⟨rfl,rfl,rfl,by simp[World.setRow],λk W=>qp (by have:=(h.mem.own _ mh).1;simp only at this;omega)⟩
 ·refine h.own.kept (row:=some b) ⟨rfl,rfl,rfl,by simp[World.setRow],λk _ W=>qp (λe=>W (by simp[e]))⟩ (Or.inr hb)
 ·rcases Aw.1 Z with rfl|Z
  ·exact hb
  ·exact h.apart y (zmc Z)
end V
theorem qvy(k:Nat)(t:TM)(w:Dc):Gv Do 135 [ii k,qq t] w λv w'=>v=.bool (canB k t)/\Ext w w':=by
 refine ze Tryz.func135 Tryz.ntmps135 ?_;refine znm (Mem.nil w) λb w1 U=>zw ?_
 (repeat'(first|refine zp ?_|refine zC (λ_=>zw ?_) (λ_=>zw ?_)|refine LoadV.mem (i:=0) Oa rfl rfl (zw ?_)))
 ·exact⟨Ad Value.bool (by rw[canB,Af Oo];simp[*]),U.ext⟩
 ·exact⟨Ad Value.bool (by rw[canB,Af Oo];simp[*]),U.ext⟩
 ·exact⟨Ad Value.bool (by rw[canB,Ab Oo,Af Oo]),U.ext⟩
 ·exact⟨Ad Value.bool (by rw[canB,Ab Oo,Ab Oo,Af Oo,Bl];simp;omega),U.ext⟩
 ·exact⟨Ad Value.bool (by rw[canB,Ab Oo,Ab Oo,Af Oo,Bl];simp;omega),U.ext⟩
 ·exact⟨Ad Value.bool (by rw[canB,Ab Oo,Ab Oo,Af Oo,Bl];simp;omega),U.ext⟩
 ·exact⟨Ad Value.bool (by rw[canB,Ab Oo,Ab Oo,Ab Oo];simp[*]),U.ext⟩
 ·exact⟨Ad Value.bool (by rw[canB,Ab Oo,Ab Oo,Ab Oo];simp[*]),U.ext⟩
 ·refine zl U 0 ?_;refine zv ?_;refine RunV.eqTerm (a:=t) (b:=⟨0,⟨#[]⟩,⟨#[]⟩,⟨#[]⟩⟩) (.inl rfl) ?_;have W:canB k t=(qwe t||decide (t.kind=1)||decide (t.kind=2)):=by rw[canB,Ab Oo,Ab Oo,Ab Oo]
  have Z:qai t ⟨0,⟨#[]⟩,⟨#[]⟩,⟨#[]⟩⟩=qwe t:=rfl;rw[Z];refine zu ?_;exact⟨Ad Value.bool (by rw[W];simp[*,eqOp]),U.ext⟩
structure Q4 where
 s:TM
 p:TM
 o:TM
 g:TM
def Q4.at(q:Q4):Nat->TM
 | 0=>q.s
 | 1=>q.p
 | 2=>q.o
 | _=>q.g
def qe(q:Q4):Dm:=encT q.s++(encT q.p++(encT q.o++encT q.g))
def qv(q:Q4):Dh:=.agg #[ii q.s.kind,.string q.s.text,.string q.s.type,.string q.s.lang,ii q.p.kind,.string q.p.text,.string q.p.type,.string q.p.lang,
 ii q.o.kind,.string q.o.text,.string q.o.type,.string q.o.lang,ii q.g.kind,.string q.g.text,.string q.g.type,.string q.g.lang]
noncomputable def qE(k:Nat)(t:TM):Nat:=if canB k t=false then 70 else if k=3/\t.kind=0 then 0 else qa2 t
noncomputable def qbw(q:Q4):Nat:=qcf ((List.range 4).map λk=>qE k (q.at k))
theorem qt{q:Q4}(h:CellsAt w b off (qe q))(k:Nat)(W:k<4):CellsAt w b (off+k*4) (encT (q.at k)):=by
 intro j v U;have Z:j<4:=(Ae.1 U).1;have:=h (k*4+j) v (by
  obtain rfl|rfl|rfl|rfl:k=0\/k=1\/k=2\/k=3:=by omega
  all_goals
   obtain rfl|rfl|rfl|rfl:j=0\/j=1\/j=2\/j=3:=by omega
   all_goals exact U)
 rwa[<-C2]at this
theorem qaa(t:TM):∀v∈encT t,v.oneCell'=true:=by
 intro v U;simp only[encT,Aw,BG,or_false]at U
 rcases U with rfl|rfl|rfl|rfl<;>rfl
def qay(q:Q4):Prop:=∀k,TermOk (q.at k)
theorem qjf(q:Q4)(k:Nat)(U:k<4):((qv q).cells.toList.drop (k*4)).take 4=encT (q.at k):=by
 obtain rfl|rfl|rfl|rfl:k=0\/k=1\/k=2\/k=3:=by omega
 all_goals rfl
theorem qfm(q:Q4)(hq:qay q)(w:Dc)(hM:MaxLenAt w)(hT:CellsAt w 4 0 qa3):Gv Do 66 [qv q] w λv w'=>v=ii (qbw q)/\Ext w w':=by
 refine ze Tryz.func66 Tryz.ntmps66 ?_;refine znm (Mem.nil w) ?_;intro b w1 hm;have hc:CellsAt w1 b 0 (qe q):=CellsAt.mem hm mh;refine LoadA.cells (qt hc 0 Oo) rfl ?_;refine LoadA.cells (qt hc 1 Oo) rfl ?_;refine LoadA.cells (qt hc 2 Oo) rfl ?_;refine LoadA.cells (qt hc 3 Oo) rfl (zw ?_);have Z:((List.range 4).map λk=>qE k (q.at k)).length=4:=by simp
 have U:∀j (hj:j<((List.range 4).map λk=>qE k (q.at k)).length),((List.range 4).map λk=>qE k (q.at k))[j]=qE j (q.at j):=λj hj=>by simp
 refine qm (λk:Nat=>[(1,pp b),(2,ii 0),(14,qv q),(15,ii k)])
  (λk w'=>k<=4/\(∀j,j<k->qE j (q.at j)=0)/\Mem w w' [(b,.cells (qe q).toArray 47)]) (λk=>4-k) 0 fq ⟨by omega,λj h0=>by omega,hm⟩ ?_
 rintro k w2 ak ⟨k1,k2,ae⟩;(conv=>whnf);refine zC (λ_=>zu ?_) (λ_=>zu ?_)
 ·have hk:k<4:=by omega
  have ad:∀e,qE k (q.at k)=e->e≠0->qbw q=e:=λe he ag=>by
   rw[qbw,qi1 (k:=k) (by rw[Z];exact hk) (λj hj ah=>by rw[U];exact k2 j ah) (by rw[U,he];exact ag),U,he]
  have aa:qE k (q.at k)=0->∀j,j<k+1->qE j (q.at j)=0:=λhe j hj=>by
   by_cases e:j=k
   ·subst e;exact he
   ·exact k2 j Oo
  refine Wit.eq (y:=encT (q.at k)) (qjf q k hk) ?_;refine znm ae ?_;intro r w3 ai;refine StoreA.all (vs:=encT (q.at k)) ai (i:=0) rfl rfl (qaa _) ?_;intro w4 ac;have ac:Mem w w4 [(r,.cells (encT (q.at k)).toArray 45),_]:=ac;refine zl ac 0 ?_;refine zcv (qvy k (q.at k) w4) ?_;rintro v w5 ⟨rfl,aj⟩;have W:=ac.call aj;cases ab:canB k (q.at k)
  ·refine zu ?_;exact⟨by rw[ad 70 (by rw[qE,Af ab]) Od];rfl,W.ext⟩
  ·(conv=>whnf)
   (repeat'(first|refine zp ?_|refine zC (λ_=>zw ?_) (λ_=>zw ?_)|refine LoadV.mem (i:=0) Oa rfl rfl (zw ?_)))
   ·refine⟨?_,W.ext⟩;have e0:qE k (q.at k)=0:=by rw[qE,Ab (by rw[ab];simp),Af ⟨by omega,by omega⟩]
    have h4:=aa e0;rw[qbw,qde λj hj=>by rw[U];exact h4 j (by rw[Z]at hj;omega)];rfl
   all_goals
    have hE:qE k (q.at k)=qa2 (q.at k):=by rw[qE,Ab (by rw[ab];simp),Ab Oo]
    refine zl W 0 ?_;refine zcv (qgc (q.at k) (hq k) w5 (hM.ext W.ext) (hT.ext W.ext)) ?_;rintro v w6 ⟨rfl,af⟩;rw[<-hE];conv=>whnf
    (repeat'(first|refine zp ?_|refine zC (λ_=>zw ?_) (λ_=>zw ?_)))
    ·exact⟨by rw[ad _ rfl Oo],W.ext.trans af⟩
    ·exact⟨k+1,fq,⟨by omega,aa Oo,(W.call af).sub (Bm ..)⟩,by omega⟩
 ·refine⟨?_,ae.ext⟩;rw[qbw,qde λj hj=>by rw[U];exact k2 j (by rw[Z]at hj;omega)];rfl
theorem qif(l:LB)(i:Nat)(h:i<l.length):leN (l.take (i+1))=leN (l.take i)+l[i].toNat*2 ^ (8*i):=by
 rw[Bg h,qyx,A6,Bd Oo];have:(256:Nat) ^ i=2 ^ (8*i):=by rw[Nat.pow_mul]
 rw[this,leN,leN,Nat.mul_zero,Bq,BN]
theorem qbf(l:LB)(i:Nat)(h:i<=l.length):leN (l.take i)<2 ^ (8*i):=by
 have:=qyz (l.take i);rw[A6,Bd h]at this;have e:(256:Nat) ^ i=2 ^ (8*i):=by rw[Nat.pow_mul]
 rwa[e]at this
theorem pow8(i:Nat)(hi:i<=4):2 ^ (8*i)<=4294967296:=by
 have:2 ^ (8*i)<=2 ^ 32:=AQ Od Oo
 simpa using this
theorem V.SlAt.upd{t:Df}{o:Obj}(h:SlAt encB 1 w A l)(hb:w.heap[b]?=some (.cells cs t fr))(W:∀v∈cs.toList,∀n,v≠.int .u8 n)(hu:Upd w w' b o):SlAt encB 1 w' A l:=by
 refine⟨λZ=>?_⟩;obtain⟨g,off,e,hc⟩:=h.at_ Z;refine⟨g,off,e,λj x hx k v hv=>?_⟩;have U:=hc j x hx k v hv;have aa:v=.int .u8 x.toNat:=by
  cases k with
  | zero=>simpa[encB]using hv.symm
  | succ k=>simp[encB]at hv
 have ab:g<w.heap.size:=by
  rcases AH g w.heap.size with h|h
  ·exact h
  ·unfold World.cell? at U;rw[Cp h]at U;cases U
 have ac:g≠b:=by
  rintro rfl;rw[qa hb]at U;exact W v (by rw[<-Cr]at U;exact zmg U) _ aa
 unfold World.cell? at U|-;rw[hu.block g ab ac];exact U
theorem q7m{v:Dh}{e:Nat}(W:∃A n c,v=.slice A n c):∀u∈(#[v,ii a,ii e]:Dp).toList,∀n,u≠.int .u8 n:=by
 obtain⟨A,m,c,rfl⟩:=W;intro u U n;simp at U
 rcases U with rfl|rfl|rfl<;>simp
theorem qgw(b:Nat)(v:Dh)(a:Nat)(l:LB)(w:Dc)(hb:w.heap[b]?=some (curO 367 v a 0))(hv:BS w v l)(ha:a+4<=l.length)(hl:l.length<=140737488355328):
  Gv Do 160 [pp b,ii 4] w λr w'=>r=.int .u64 (leN ((l.drop a).take 4))/\Upd w w' b (curO 367 v (a+4) 0):=by
 have W:=λw=>q40 b v a 4 l w
 refine ze Tryz.func160 Tryz.ntmps160 ?_;refine zcv (qkr w) ?_;rintro r w1 ⟨rfl,rfl⟩;(conv=>whnf);refine zcv (W w1 hb hv ha hl (λ_ _ _=>trivial)) ?_;rintro r w2 ⟨⟨A',c',rfl,hS⟩,hu⟩;have Z:=hv;obtain⟨A,c,aa,_,_⟩:=Z;have U:SlAt encB 1 w2 A' ((l.drop a).take 4):=V.SlAt.upd hS hb (q7m ⟨_,_,_,aa⟩) hu;obtain⟨m,hm⟩:∃m,m=(l.drop a).take 4:=⟨_,rfl⟩
 have ab:m.length=4:=by rw[hm];simp;omega
 rw[<-hm]at U|-;refine qm (λi:Nat=>[(11,.slice A' 4 c'),(12,ii 4),(13,ii i),(5,.int .u64 (leN (m.take i)))]) (λi w3=>i<=4/\w3=w2) (λi=>4-i) 0 fq ⟨by omega,rfl⟩ ?_;rintro i w3 ad ⟨i1,rfl⟩;(conv=>whnf);refine zC (λ_=>zw ?_) (λ_=>zw ?_)
 ·have hi:i<m.length:=by omega
  have ae:=q9 m[i];have hp:=pow8 (i+1) Oo;have ac:=qbf m (i+1) Oo;rw[qif m i hi]at ac;refine ElemV.bs U ab i rfl Oo ?_;intro eb eo hc;refine LoadV.of hc (zu ?_);have af:2 ^ 64=18446744073709551616:=by decide
  refine V.Wit.shlN (8*i) Oo (by show 8*i<64;omega) (qio Oo) ?_;refine Wit.eq (qbp (8*i) (qio Oo) (qbf m i Oo)) (zu ?_);exact⟨i+1,⟨rfl,rfl,rfl,by rw[qif m i hi];rfl,trivial⟩,⟨by omega,rfl⟩,by omega⟩
 ·rw[Ay Oo];exact⟨rfl,hu⟩
def nibs:Dn:=[0x00000000,0x1db71064,0x3b6e20c8,0x26d930ac,0x76dc4190,0x6b6b51f4,0x4db26158,0x5005713c,0xedb88320,0xf00f9344,0xd6d6a3e8,0xcb61b38c,0x9b64c2b0,0x86d3d2d4,0xa00ae278,0xbdbdf21c]
def nib(i:Nat):BitVec 32:=BitVec.ofNat 32 (nibs.getD i 0)
def half(r:BitVec 32):BitVec 32:=nib (r.toNat%16) ^^^ (r >>> 4)
def thr(r:BitVec 32)(b:Dg):BitVec 32:=half (half (r ^^^ BitVec.ofNat 32 b.toNat))
def updL(r:BitVec 32)(l:LB):BitVec 32:=l.foldl thr r
def crcL(l:LB):BitVec 32 := ~~~ (updL (~~~ 0#32) l)
theorem q1i(r:BitVec 32)(l:LB)(i:Nat)(h:i<l.length):updL r (l.take (i+1))=thr (updL r (l.take i)) l[i]:=by
 unfold updL;rw[Bg h,List.foldl_append];rfl
def qg6:Dm:=nibs.map λn:Nat=>Value.int .u32 (n:Int)
theorem bx(x y:BitVec 32):qdo .xor .u32 (x.toNat:Int) (y.toNat:Int)=((x ^^^ y).toNat:Int):=by
 have U:BitVec.ofInt 32 (x.toNat:Int)=x:=by apply BitVec.eq_of_toNat_eq;rw[BitVec.toNat_ofInt];have:=x.isLt;omega
 have W:BitVec.ofInt 32 (y.toNat:Int)=y:=by apply BitVec.eq_of_toNat_eq;rw[BitVec.toNat_ofInt];have:=y.isLt;omega
 show IntKind.u32.wrap ((BitVec.ofInt 32 (x.toNat:Int) ^^^ BitVec.ofInt 32 (y.toNat:Int)).toNat:Int)=_;rw[U,W];have:=(x ^^^ y).isLt;exact InR.wrap (k:=.u32) ⟨by omega,by omega⟩
theorem bnot(x:BitVec 32):qdo .xor .u32 (if IntKind.u32.signed then -1 else IntKind.u32.max) (x.toNat:Int)=((~~~x).toNat:Int):=by
 have h:(if IntKind.u32.signed then -1 else IntKind.u32.max)=((BitVec.allOnes 32).toNat:Int):=by decide
 rw[h,bx,BitVec.allOnes_xor]
theorem q8q(b:Dg):(BitVec.ofNat 32 b.toNat).toNat=b.toNat:=by
 have:=q9 b;rw[BitVec.toNat_ofNat,BZ Oo]
theorem q8j(i:Nat)(hi:i<16):(nib i).toNat=nibs.getD i 0:=by
 have:∀i,i<16->(nib i).toNat=nibs.getD i 0:=by decide
 exact this i hi
theorem qsn(x:BitVec 32):qdo .xor .u32 ((nibs.getD (x.toNat%16) 0:Nat):Int) ((x.toNat/16:Nat):Int)=((half x).toNat:Int):=by
 have U:(x >>> 4).toNat=x.toNat/16:=by rw[BitVec.toNat_ushiftRight,Nat.shiftRight_eq_div_pow]
 rw[<-q8j _ (Cb _ Od),<-U,bx];rfl
theorem qs4(U:CellsAt w 3 0 qg6)(i:Nat)(hi:i<16):w.cell? ⟨3,0+i*1,none⟩=some (.int .u32 ((nibs.getD i 0:Nat):Int)):=by
 have h:i<nibs.length:=hi;have:=U i (.int .u32 ((nibs.getD i 0:Nat):Int)) (by rw[qg6,Ar,zge h,Am,zge h];rfl)
 rwa[Bw]
theorem q6u(x:BitVec 32):x.toNat<4294967296:=x.isLt
theorem qq6(r:BitVec 32)(b:Dg)(w:Dc)(U:CellsAt w 3 0 qg6):
  Gv Do 270 [.int .u32 r.toNat,.int .u8 b.toNat] w λv w'=>v=.int .u32 (thr r b).toNat/\w'=w:=by
 have hb:=q9 b;obtain⟨x,W⟩:∃x,x=r ^^^ BitVec.ofNat 32 b.toNat:=⟨_,rfl⟩
 have h0:=q6u x;have h1:=q6u (half x);have Z:thr r b=half (half x):=by rw[W];rfl
 rw[Z];refine ze Tryz.func270 Tryz.ntmps270 ?_;refine zv ?_;refine Wit.eq (y:=(x.toNat:Int)) (by rw[W,<-bx,q8q]) ?_;refine Wit.eq (qbo (k:=.u32) (m:=x.toNat) 4 rfl ⟨by omega,by omega⟩ ⟨by omega,by omega⟩) ?_;refine IdxV.nat (Cb _ Od) ?_;refine LoadV.of (qs4 U _ (Cb _ Od)) ?_;refine Wit.shr (m:=16) (r:=((x.toNat/16:Nat):Int)) ⟨by decide,by decide⟩ Od Oo ?_;refine Wit.eq (qsn x) ?_;refine Wit.eq (qbo (k:=.u32) (m:=(half x).toNat) 4 rfl ⟨by omega,by omega⟩ ⟨by omega,by omega⟩) ?_;refine IdxV.nat (Cb _ Od) ?_;refine LoadV.of (qs4 U _ (Cb _ Od)) ?_;refine Wit.shr (m:=16) (r:=(((half x).toNat/16:Nat):Int)) ⟨by decide,by decide⟩ Od Oo ?_;refine Wit.eq (qsn (half x)) (zw ?_);exact⟨rfl,rfl⟩
theorem qwa(l:LB)(A:oA)(n c:Nat)(w:Dc)(W:SlAt encB 1 w A l)(Z:l.length=n)(hl:l.length<=140737488355328)(hT:CellsAt w 3 0 qg6):
  Gv Do 198 [.int .u32 0,.slice A n c] w λv w'=>v=.int .u32 (crcL l).toNat/\w'=w:=by
 subst Z;refine ze Tryz.func198 Tryz.ntmps198 ?_;refine Wit.eq (bnot 0#32) ?_;refine qm (λi:Nat=>[(10,.slice A l.length c),(11,ii l.length),(12,ii i),(5,.int .u32 (updL (~~~ 0#32) (l.take i)).toNat)]) (λi U=>i<=l.length/\U=w) (λi=>l.length-i) 0 fq ⟨by omega,rfl⟩ ?_;rintro i U aa ⟨h1,rfl⟩;(conv=>whnf);refine zC (λ_=>zw ?_) (λ_=>zw ?_)
 ·have hi:i<l.length:=by omega
  refine ElemV.bs W rfl i rfl hi ?_;intro eb eo hc;refine LoadV.of hc (zw ?_);refine zcv (qq6 _ l[i] U hT) ?_;rintro v U ⟨rfl,rfl⟩;refine zu ?_;exact⟨i+1,⟨rfl,rfl,rfl,by rw[q1i _ _ _ hi];rfl,trivial⟩,⟨by omega,rfl⟩,by omega⟩
 ·refine Wit.eq (bnot _) ?_;rw[Ay Oo];exact⟨rfl,rfl⟩
theorem q04(l:LB)(A:oA)(n c:Nat)(w:Dc)(U:SlAt encB 1 w A l)(W:l.length=n)(Z:l.length<=140737488355328)(hT:CellsAt w 3 0 qg6):
  Gv Do 119 [.slice A n c] w λv w'=>v=.int .u32 (crcL l).toNat/\w'=w:=by
 refine ze Tryz.func119 Tryz.ntmps119 ?_;refine zcv (qwa l A n c w U W Z hT) ?_;rintro v w1 ⟨rfl,rfl⟩;(conv=>whnf);exact⟨rfl,rfl⟩
end Go.Proofs.YtccmcfpmknpccaaGreatDoor
