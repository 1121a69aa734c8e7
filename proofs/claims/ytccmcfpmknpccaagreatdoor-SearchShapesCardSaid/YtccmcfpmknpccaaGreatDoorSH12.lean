/- Lemmas and contracts of functions on the way to the law's card (part 12 of 16). -/
import Derived.Test.YtccmcfpmknpccaaGreatDoorSH11
namespace Go.Proofs.YtccmcfpmknpccaaGreatDoor
set_option maxHeartbeats 8000000
open Go.RowKit V
set_option maxRecDepth 100000
instance:Inhabited TM:=⟨zTM⟩
theorem qnl (a b:TM) (w:World):Gv Tryz.prog 20 [qt a,qt b] w fun r w'=>r=ii (cmpT a b)∧ExtE w w':=by
 refine gv Jk Tryz.func20 rfl Tryz.ntmps20 rfl (zw ?_);refine ⟨fun b1 w1 hb1 hw1=>?_⟩;have hm:=(Mem.nil w).new hb1 hw1;have hx:ExtE w w1:=by rw [hw1];exact (ExtE.refl w).alloc _
 clear hb1 hw1;(conv=>whnf);refine ⟨fun b2 w2 hb2 hw2=>?_⟩;have hm:=hm.new hb2 hw2;have hx:ExtE w w2:=by rw [hw2];exact hx.alloc _
 clear hb2 hw2;(conv=>whnf);refine DrawV.gen (fun S vals w'=>ExtE w w'∧Mem w w' [(b2,.cells (encT b).toArray 45),(b1,.cells (encT a).toArray 45)]∧(S 20=true→∃ nb,vals 20=.slice (some ⟨nb,0,none⟩) 4 4∧w'.heap[nb]?=some (.cells #[ii (intC a.kind b.kind),ii (txtC a.text b.text),ii (txtC a.type b.type),ii (txtC a.lang b.lang)] 3))) rfl Jk (fun vals=>⟨hx.trans (ExtE.drew _),hm.drew,fun h=>by cases h⟩) (zw ?_);(apply StepG.of;(· intro S vals wd hk hp hI;(conv=>whnf);(first|exact ⟨rfl,hI⟩|((repeat' (first|(refine Obl.mk ⟨by omega,by omega⟩ ?_;conv=>whnf)|(refine Obl.mk ⟨by omega,by omega,⟨by omega,by omega⟩⟩ ?_;conv=>whnf)|((with_reducible refine Tst.tt ?_);conv=>whnf)|((with_reducible refine Tst.ff ?_);conv=>whnf)|((with_reducible refine Tst.dec (fun _=>?_) (fun _=>?_))<;>first|(exfalso;omega)|(conv=>whnf))|((with_reducible refine Tst.not ?_))|(refine Wit.conv ⟨by omega,by omega⟩ ?_;conv=>whnf)|((with_reducible refine IdxV.nat Oo ?_);conv=>whnf)|((with_reducible refine IdxV.at_ 0 ?_ Od ?_);rfl;(conv=>whnf))|((with_reducible refine IdxV.at_ 1 ?_ Od ?_);rfl;(conv=>whnf))|((with_reducible refine IdxV.at_ 2 ?_ Od ?_);rfl;(conv=>whnf))|((with_reducible refine IdxV.at_ 3 ?_ Od ?_);rfl;(conv=>whnf))|((with_reducible refine SameW.mk rfl ?_);conv=>whnf)|((with_reducible refine Tst.beqT ?_))|((with_reducible refine Tst.beqF ?_))|(refine Tst.yes rfl ?_;conv=>whnf)|(refine Tst.no rfl ?_;conv=>whnf)));exact ⟨rfl,hI⟩)));(conv=>whnf));apply StepG.of
 ·intro S vals wd hk hp hI;refine LoadV.mem hI.2.1 (i:=1) rfl rfl (zw ?_);exact ⟨rfl,hI⟩
 (conv=>whnf);(apply StepG.of;(· intro S vals wd hk hp hI;(conv=>whnf);(first|exact ⟨rfl,hI⟩|((repeat' (first|(refine Obl.mk ⟨by omega,by omega⟩ ?_;conv=>whnf)|(refine Obl.mk ⟨by omega,by omega,⟨by omega,by omega⟩⟩ ?_;conv=>whnf)|((with_reducible refine Tst.tt ?_);conv=>whnf)|((with_reducible refine Tst.ff ?_);conv=>whnf)|((with_reducible refine Tst.dec (fun _=>?_) (fun _=>?_))<;>first|(exfalso;omega)|(conv=>whnf))|((with_reducible refine Tst.not ?_))|(refine Wit.conv ⟨by omega,by omega⟩ ?_;conv=>whnf)|((with_reducible refine IdxV.nat Oo ?_);conv=>whnf)|((with_reducible refine IdxV.at_ 0 ?_ Od ?_);rfl;(conv=>whnf))|((with_reducible refine IdxV.at_ 1 ?_ Od ?_);rfl;(conv=>whnf))|((with_reducible refine IdxV.at_ 2 ?_ Od ?_);rfl;(conv=>whnf))|((with_reducible refine IdxV.at_ 3 ?_ Od ?_);rfl;(conv=>whnf))|((with_reducible refine SameW.mk rfl ?_);conv=>whnf)|((with_reducible refine Tst.beqT ?_))|((with_reducible refine Tst.beqF ?_))|(refine Tst.yes rfl ?_;conv=>whnf)|(refine Tst.no rfl ?_;conv=>whnf)));exact ⟨rfl,hI⟩)));(conv=>whnf));apply StepG.of
 ·intro S vals wd hk hp hI;refine LoadV.mem hI.2.1 (i:=0) rfl rfl (zw ?_);exact ⟨rfl,hI⟩
 apply StepG.of
 ·intro S vals wd hk hp hI;(conv=>whnf);refine zcv (qgq a.kind b.kind wd) ?_;rintro v w7 ⟨rfl,rfl⟩;exact ⟨rfl,hI⟩
 (conv=>whnf);(apply StepG.of;(· intro S vals wd hk hp hI;(conv=>whnf);(first|exact ⟨rfl,hI⟩|((repeat' (first|(refine Obl.mk ⟨by omega,by omega⟩ ?_;conv=>whnf)|(refine Obl.mk ⟨by omega,by omega,⟨by omega,by omega⟩⟩ ?_;conv=>whnf)|((with_reducible refine Tst.tt ?_);conv=>whnf)|((with_reducible refine Tst.ff ?_);conv=>whnf)|((with_reducible refine Tst.dec (fun _=>?_) (fun _=>?_))<;>first|(exfalso;omega)|(conv=>whnf))|((with_reducible refine Tst.not ?_))|(refine Wit.conv ⟨by omega,by omega⟩ ?_;conv=>whnf)|((with_reducible refine IdxV.nat Oo ?_);conv=>whnf)|((with_reducible refine IdxV.at_ 0 ?_ Od ?_);rfl;(conv=>whnf))|((with_reducible refine IdxV.at_ 1 ?_ Od ?_);rfl;(conv=>whnf))|((with_reducible refine IdxV.at_ 2 ?_ Od ?_);rfl;(conv=>whnf))|((with_reducible refine IdxV.at_ 3 ?_ Od ?_);rfl;(conv=>whnf))|((with_reducible refine SameW.mk rfl ?_);conv=>whnf)|((with_reducible refine Tst.beqT ?_))|((with_reducible refine Tst.beqF ?_))|(refine Tst.yes rfl ?_;conv=>whnf)|(refine Tst.no rfl ?_;conv=>whnf)));exact ⟨rfl,hI⟩)));(conv=>whnf));apply StepG.of
 ·intro S vals wd hk hp hI;refine LoadV.mem hI.2.1 (i:=1) rfl rfl (zw ?_);exact ⟨rfl,hI⟩
 (conv=>whnf);(apply StepG.of;(· intro S vals wd hk hp hI;(conv=>whnf);(first|exact ⟨rfl,hI⟩|((repeat' (first|(refine Obl.mk ⟨by omega,by omega⟩ ?_;conv=>whnf)|(refine Obl.mk ⟨by omega,by omega,⟨by omega,by omega⟩⟩ ?_;conv=>whnf)|((with_reducible refine Tst.tt ?_);conv=>whnf)|((with_reducible refine Tst.ff ?_);conv=>whnf)|((with_reducible refine Tst.dec (fun _=>?_) (fun _=>?_))<;>first|(exfalso;omega)|(conv=>whnf))|((with_reducible refine Tst.not ?_))|(refine Wit.conv ⟨by omega,by omega⟩ ?_;conv=>whnf)|((with_reducible refine IdxV.nat Oo ?_);conv=>whnf)|((with_reducible refine IdxV.at_ 0 ?_ Od ?_);rfl;(conv=>whnf))|((with_reducible refine IdxV.at_ 1 ?_ Od ?_);rfl;(conv=>whnf))|((with_reducible refine IdxV.at_ 2 ?_ Od ?_);rfl;(conv=>whnf))|((with_reducible refine IdxV.at_ 3 ?_ Od ?_);rfl;(conv=>whnf))|((with_reducible refine SameW.mk rfl ?_);conv=>whnf)|((with_reducible refine Tst.beqT ?_))|((with_reducible refine Tst.beqF ?_))|(refine Tst.yes rfl ?_;conv=>whnf)|(refine Tst.no rfl ?_;conv=>whnf)));exact ⟨rfl,hI⟩)));(conv=>whnf));apply StepG.of
 ·intro S vals wd hk hp hI;refine LoadV.mem hI.2.1 (i:=0) rfl rfl (zw ?_);exact ⟨rfl,hI⟩
 apply StepG.of
 ·intro S vals wd hk hp hI;(conv=>whnf);refine zcv (qeo a.text b.text wd) ?_;rintro v w7 ⟨rfl,rfl⟩;exact ⟨rfl,hI⟩
 (conv=>whnf);(apply StepG.of;(· intro S vals wd hk hp hI;(conv=>whnf);(first|exact ⟨rfl,hI⟩|((repeat' (first|(refine Obl.mk ⟨by omega,by omega⟩ ?_;conv=>whnf)|(refine Obl.mk ⟨by omega,by omega,⟨by omega,by omega⟩⟩ ?_;conv=>whnf)|((with_reducible refine Tst.tt ?_);conv=>whnf)|((with_reducible refine Tst.ff ?_);conv=>whnf)|((with_reducible refine Tst.dec (fun _=>?_) (fun _=>?_))<;>first|(exfalso;omega)|(conv=>whnf))|((with_reducible refine Tst.not ?_))|(refine Wit.conv ⟨by omega,by omega⟩ ?_;conv=>whnf)|((with_reducible refine IdxV.nat Oo ?_);conv=>whnf)|((with_reducible refine IdxV.at_ 0 ?_ Od ?_);rfl;(conv=>whnf))|((with_reducible refine IdxV.at_ 1 ?_ Od ?_);rfl;(conv=>whnf))|((with_reducible refine IdxV.at_ 2 ?_ Od ?_);rfl;(conv=>whnf))|((with_reducible refine IdxV.at_ 3 ?_ Od ?_);rfl;(conv=>whnf))|((with_reducible refine SameW.mk rfl ?_);conv=>whnf)|((with_reducible refine Tst.beqT ?_))|((with_reducible refine Tst.beqF ?_))|(refine Tst.yes rfl ?_;conv=>whnf)|(refine Tst.no rfl ?_;conv=>whnf)));exact ⟨rfl,hI⟩)));(conv=>whnf));apply StepG.of
 ·intro S vals wd hk hp hI;refine LoadV.mem hI.2.1 (i:=1) rfl rfl (zw ?_);exact ⟨rfl,hI⟩
 (conv=>whnf);(apply StepG.of;(· intro S vals wd hk hp hI;(conv=>whnf);(first|exact ⟨rfl,hI⟩|((repeat' (first|(refine Obl.mk ⟨by omega,by omega⟩ ?_;conv=>whnf)|(refine Obl.mk ⟨by omega,by omega,⟨by omega,by omega⟩⟩ ?_;conv=>whnf)|((with_reducible refine Tst.tt ?_);conv=>whnf)|((with_reducible refine Tst.ff ?_);conv=>whnf)|((with_reducible refine Tst.dec (fun _=>?_) (fun _=>?_))<;>first|(exfalso;omega)|(conv=>whnf))|((with_reducible refine Tst.not ?_))|(refine Wit.conv ⟨by omega,by omega⟩ ?_;conv=>whnf)|((with_reducible refine IdxV.nat Oo ?_);conv=>whnf)|((with_reducible refine IdxV.at_ 0 ?_ Od ?_);rfl;(conv=>whnf))|((with_reducible refine IdxV.at_ 1 ?_ Od ?_);rfl;(conv=>whnf))|((with_reducible refine IdxV.at_ 2 ?_ Od ?_);rfl;(conv=>whnf))|((with_reducible refine IdxV.at_ 3 ?_ Od ?_);rfl;(conv=>whnf))|((with_reducible refine SameW.mk rfl ?_);conv=>whnf)|((with_reducible refine Tst.beqT ?_))|((with_reducible refine Tst.beqF ?_))|(refine Tst.yes rfl ?_;conv=>whnf)|(refine Tst.no rfl ?_;conv=>whnf)));exact ⟨rfl,hI⟩)));(conv=>whnf));apply StepG.of
 ·intro S vals wd hk hp hI;refine LoadV.mem hI.2.1 (i:=0) rfl rfl (zw ?_);exact ⟨rfl,hI⟩
 apply StepG.of
 ·intro S vals wd hk hp hI;(conv=>whnf);refine zcv (qeo a.type b.type wd) ?_;rintro v w7 ⟨rfl,rfl⟩;exact ⟨rfl,hI⟩
 (conv=>whnf);(apply StepG.of;(· intro S vals wd hk hp hI;(conv=>whnf);(first|exact ⟨rfl,hI⟩|((repeat' (first|(refine Obl.mk ⟨by omega,by omega⟩ ?_;conv=>whnf)|(refine Obl.mk ⟨by omega,by omega,⟨by omega,by omega⟩⟩ ?_;conv=>whnf)|((with_reducible refine Tst.tt ?_);conv=>whnf)|((with_reducible refine Tst.ff ?_);conv=>whnf)|((with_reducible refine Tst.dec (fun _=>?_) (fun _=>?_))<;>first|(exfalso;omega)|(conv=>whnf))|((with_reducible refine Tst.not ?_))|(refine Wit.conv ⟨by omega,by omega⟩ ?_;conv=>whnf)|((with_reducible refine IdxV.nat Oo ?_);conv=>whnf)|((with_reducible refine IdxV.at_ 0 ?_ Od ?_);rfl;(conv=>whnf))|((with_reducible refine IdxV.at_ 1 ?_ Od ?_);rfl;(conv=>whnf))|((with_reducible refine IdxV.at_ 2 ?_ Od ?_);rfl;(conv=>whnf))|((with_reducible refine IdxV.at_ 3 ?_ Od ?_);rfl;(conv=>whnf))|((with_reducible refine SameW.mk rfl ?_);conv=>whnf)|((with_reducible refine Tst.beqT ?_))|((with_reducible refine Tst.beqF ?_))|(refine Tst.yes rfl ?_;conv=>whnf)|(refine Tst.no rfl ?_;conv=>whnf)));exact ⟨rfl,hI⟩)));(conv=>whnf));apply StepG.of
 ·intro S vals wd hk hp hI;refine LoadV.mem hI.2.1 (i:=1) rfl rfl (zw ?_);exact ⟨rfl,hI⟩
 (conv=>whnf);(apply StepG.of;(· intro S vals wd hk hp hI;(conv=>whnf);(first|exact ⟨rfl,hI⟩|((repeat' (first|(refine Obl.mk ⟨by omega,by omega⟩ ?_;conv=>whnf)|(refine Obl.mk ⟨by omega,by omega,⟨by omega,by omega⟩⟩ ?_;conv=>whnf)|((with_reducible refine Tst.tt ?_);conv=>whnf)|((with_reducible refine Tst.ff ?_);conv=>whnf)|((with_reducible refine Tst.dec (fun _=>?_) (fun _=>?_))<;>first|(exfalso;omega)|(conv=>whnf))|((with_reducible refine Tst.not ?_))|(refine Wit.conv ⟨by omega,by omega⟩ ?_;conv=>whnf)|((with_reducible refine IdxV.nat Oo ?_);conv=>whnf)|((with_reducible refine IdxV.at_ 0 ?_ Od ?_);rfl;(conv=>whnf))|((with_reducible refine IdxV.at_ 1 ?_ Od ?_);rfl;(conv=>whnf))|((with_reducible refine IdxV.at_ 2 ?_ Od ?_);rfl;(conv=>whnf))|((with_reducible refine IdxV.at_ 3 ?_ Od ?_);rfl;(conv=>whnf))|((with_reducible refine SameW.mk rfl ?_);conv=>whnf)|((with_reducible refine Tst.beqT ?_))|((with_reducible refine Tst.beqF ?_))|(refine Tst.yes rfl ?_;conv=>whnf)|(refine Tst.no rfl ?_;conv=>whnf)));exact ⟨rfl,hI⟩)));(conv=>whnf));apply StepG.of
 ·intro S vals wd hk hp hI;refine LoadV.mem hI.2.1 (i:=0) rfl rfl (zw ?_);exact ⟨rfl,hI⟩
 apply StepG.of
 ·intro S vals wd hk hp hI;(conv=>whnf);refine zcv (qeo a.lang b.lang wd) ?_;rintro v w7 ⟨rfl,rfl⟩;exact ⟨rfl,hI⟩
 refine StepG.any (fun S vals wd hk hp hI=>zw ?_) ?_
 ·refine ⟨fun nb wx hb hw=>?_⟩;have hm:=hI.2.1.new hb hw;subst hb hw;(conv=>whnf);exact ⟨trivial,hI.1.trans ((ExtE.refl wd).alloc _),hm.sub (List.sublist_cons_self ..),fun _=>⟨_,rfl,heap_alloc_new wd _⟩⟩
 apply StepG.of
 ·intro S vals wd hk hp hI;obtain ⟨nb,e,hn⟩:=hI.2.2 (hp 20 Od);rw [qbk e];(conv=>whnf);refine zcv (qqj _ _ _ _ nb wd hn) ?_;rintro v w7 ⟨rfl,rfl⟩;rw [qxc];exact ⟨rfl,hI.1,hI.2.1,fun _=>⟨nb,rfl,hn⟩⟩
 (conv=>whnf);(apply StepG.of;(· intro S vals wd hk hp hI;(conv=>whnf);(first|exact ⟨rfl,hI⟩|((repeat' (first|(refine Obl.mk ⟨by omega,by omega⟩ ?_;conv=>whnf)|(refine Obl.mk ⟨by omega,by omega,⟨by omega,by omega⟩⟩ ?_;conv=>whnf)|((with_reducible refine Tst.tt ?_);conv=>whnf)|((with_reducible refine Tst.ff ?_);conv=>whnf)|((with_reducible refine Tst.dec (fun _=>?_) (fun _=>?_))<;>first|(exfalso;omega)|(conv=>whnf))|((with_reducible refine Tst.not ?_))|(refine Wit.conv ⟨by omega,by omega⟩ ?_;conv=>whnf)|((with_reducible refine IdxV.nat Oo ?_);conv=>whnf)|((with_reducible refine IdxV.at_ 0 ?_ Od ?_);rfl;(conv=>whnf))|((with_reducible refine IdxV.at_ 1 ?_ Od ?_);rfl;(conv=>whnf))|((with_reducible refine IdxV.at_ 2 ?_ Od ?_);rfl;(conv=>whnf))|((with_reducible refine IdxV.at_ 3 ?_ Od ?_);rfl;(conv=>whnf))|((with_reducible refine SameW.mk rfl ?_);conv=>whnf)|((with_reducible refine Tst.beqT ?_))|((with_reducible refine Tst.beqF ?_))|(refine Tst.yes rfl ?_;conv=>whnf)|(refine Tst.no rfl ?_;conv=>whnf)));exact ⟨rfl,hI⟩)));(conv=>whnf));intro vals wd hI;(conv=>whnf);exact ⟨rfl,hI.1⟩
theorem qxd (a:TM):cmpT a a=0:=qan.2 rfl
theorem swoT:Sort.SWO (ltOf cmpT) where
 irrefl x:=by rw [ltOf,qxd];rfl
 trans x y z h1 h2:=by
  rw [ltOf,decide_eq_true_iff,qat] at *;exact h1.trans h2
 ntrans x y z h1 h2:=by
  rw [ltOf,decide_eq_false_iff_not,qat] at *;intro h3
  rcases LtT.tri x y with h|h|h
  ·exact h1 h
  ·subst h;exact h2 h3
  ·exact h2 (h.trans h3)
theorem q42 (g n:Nat) (w:World):CmpLays Tryz.prog 20 #[] encT 4 cmpT g 0 n w:=by
 intro m os dk _ x y;refine (qnl x y _).2.mono ?_;rintro e w' ⟨v,rfl,rfl,he⟩;exact ⟨rfl,he.grow⟩
theorem qaad (args:Array Value) (w:World):(callFunc 20 args).run Tryz.prog w=.ok (.enter 20 args) w:=enters_of Tryz.func20 Jk rfl args w
theorem qwc (T:List TM) (A:oA) (n c:Nat) (w:World) (hS:SlAt encT 4 w A T) (hn:T.length=n) (hl:n≤1000000000000) :
  Gv Tryz.prog 326 [.slice A n c] w fun r w'=>∃ A' c',r=.slice A' n c'∧Ext w w'∧w'.ownsRow w.heap.size 45 4 (.slice A' n c') n (T.map encT).flatten:=by
 subst hn;cases A with
 | none=>
  have h0:T=[]:=by
   cases T with
   | nil=>rfl
   | cons x r=>obtain ⟨b,off,h0,_⟩:=hS.at_ Js;cases h0
  subst h0;refine gv Jk Tryz.func326 rfl Tryz.ntmps326 rfl (zw ?_)
  (repeat' (first
   | (refine Obl.mk ⟨by omega,by omega⟩ ?_;conv=>whnf)
   | (refine Obl.mk ⟨by omega,by omega,⟨by omega,by omega⟩⟩ ?_;conv=>whnf)
   | ((with_reducible refine Tst.tt ?_);conv=>whnf)
   | ((with_reducible refine Tst.ff ?_);conv=>whnf)
   | ((with_reducible refine Tst.dec (fun _=>?_) (fun _=>?_))<;>first|(exfalso;omega)|(conv=>whnf))
   | ((with_reducible refine Tst.not ?_))
   | (refine Wit.conv ⟨by omega,by omega⟩ ?_;conv=>whnf)
   | ((with_reducible refine IdxV.nat Oo ?_);conv=>whnf)|((with_reducible refine IdxV.at_ 0 ?_ Od ?_);rfl;(conv=>whnf))|((with_reducible refine IdxV.at_ 1 ?_ Od ?_);rfl;(conv=>whnf))|((with_reducible refine IdxV.at_ 2 ?_ Od ?_);rfl;(conv=>whnf))|((with_reducible refine IdxV.at_ 3 ?_ Od ?_);rfl;(conv=>whnf))
   | ((with_reducible refine SameW.mk rfl ?_);conv=>whnf)
   | (refine LoadV.mem (i:=0) Oa rfl rfl ?_;conv=>whnf)
   | (refine LoadV.mem (i:=1) Oa rfl rfl ?_;conv=>whnf)
   | (refine LoadV.mem (i:=2) Oa rfl rfl ?_;conv=>whnf)
   | ((with_reducible refine Tst.beqT ?_))
   | ((with_reducible refine Tst.beqF ?_))
   | (refine Tst.yes rfl ?_;conv=>whnf)
   | (refine Tst.no rfl ?_;conv=>whnf)))
  exact ⟨none,0,rfl,Ext.refl w,World.ownsRow_nil _ _ _ _⟩
 | some a=>
  refine gv Jk Tryz.func326 rfl Tryz.ntmps326 rfl (zw ?_)
  (repeat' (first
   | (refine Obl.mk ⟨by omega,by omega⟩ ?_;conv=>whnf)
   | (refine Obl.mk ⟨by omega,by omega,⟨by omega,by omega⟩⟩ ?_;conv=>whnf)
   | ((with_reducible refine Tst.tt ?_);conv=>whnf)
   | ((with_reducible refine Tst.ff ?_);conv=>whnf)
   | ((with_reducible refine Tst.dec (fun _=>?_) (fun _=>?_))<;>first|(exfalso;omega)|(conv=>whnf))
   | ((with_reducible refine Tst.not ?_))
   | (refine Wit.conv ⟨by omega,by omega⟩ ?_;conv=>whnf)
   | ((with_reducible refine IdxV.nat Oo ?_);conv=>whnf)|((with_reducible refine IdxV.at_ 0 ?_ Od ?_);rfl;(conv=>whnf))|((with_reducible refine IdxV.at_ 1 ?_ Od ?_);rfl;(conv=>whnf))|((with_reducible refine IdxV.at_ 2 ?_ Od ?_);rfl;(conv=>whnf))|((with_reducible refine IdxV.at_ 3 ?_ Od ?_);rfl;(conv=>whnf))
   | ((with_reducible refine SameW.mk rfl ?_);conv=>whnf)
   | (refine LoadV.mem (i:=0) Oa rfl rfl ?_;conv=>whnf)
   | (refine LoadV.mem (i:=1) Oa rfl rfl ?_;conv=>whnf)
   | (refine LoadV.mem (i:=2) Oa rfl rfl ?_;conv=>whnf)
   | ((with_reducible refine Tst.beqT ?_))
   | ((with_reducible refine Tst.beqF ?_))
   | (refine Tst.yes rfl ?_;conv=>whnf)
   | (refine Tst.no rfl ?_;conv=>whnf)))
  refine ⟨fun nb w1 hnb hw=>?_⟩;have he:Ext w w1:=by rw [hw];exact (Ext.refl w).alloc _
  have hc:w1.heap[nb]?=some (.cells #[] 45):=by rw [hw,hnb];exact heap_alloc_new w _
  have ho:w1.ownsRow w.heap.size 45 4 (.slice (some ⟨nb,0,none⟩) 0 0) 0 []:=⟨rfl,.inr ⟨nb,0,#[],rfl,by omega,hc,Nat.le_refl _,Nat.zero_le _,rfl,rfl⟩⟩
  have hfl:=qbt encT 4 qag T;(conv=>whnf);refine AppV.own (news:=(T.map encT).flatten) qwh trmI trmZ Jk Jk Od ho he.size hfl (fun hne=>?_) (fun u hu=>?_) (by rw [show ((Tryz.prog.info? 45).get Jk).bytes=56 from by kernel_rfl];omega) Oo ?_
  ·obtain ⟨b,off,h1,h2⟩:=(hS.ext he).at_ (by rintro rfl;exact hne rfl);exact ⟨b,off,h1,qfp Od qag h2⟩
  ·obtain ⟨l,hl1,hl2⟩:=List.mem_flatten.1 hu;obtain ⟨t,_,rfl⟩:=List.mem_map.1 hl1;exact qab t u hl2
  ·intro v' w2 ho2 hg _;have ho2:w2.ownsRow w.heap.size 45 4 v' T.length (T.map encT).flatten:=by rw [Nat.zero_add] at ho2;exact ho2
   obtain ⟨A',c',rfl⟩:=qbp ho2;(conv=>whnf);refine ⟨A',c',rfl,(Chn.grown hg).ext he fun k hk=>?_,ho2⟩;rw [List.mem_singleton.1 hk,hnb];exact Nat.le_refl _
theorem qo5 (A:oA) (n c:Nat) (hc:n≤c) (hA:A=none∨∃ g o,A=some ⟨g,o,none⟩) (w:World):Gv Tryz.prog 327 [.slice A n c] w fun v w'=>v=.slice A n n∧w'=w:=by
 refine gv Jk Tryz.func327 rfl Tryz.ntmps327 rfl (zw ?_)
 (repeat' (first
   | (refine Obl.mk ⟨by omega,by omega⟩ ?_;conv=>whnf)
   | (refine Obl.mk ⟨by omega,by omega,⟨by omega,by omega⟩⟩ ?_;conv=>whnf)
   | ((with_reducible refine Tst.tt ?_);conv=>whnf)
   | ((with_reducible refine Tst.ff ?_);conv=>whnf)
   | ((with_reducible refine Tst.dec (fun _=>?_) (fun _=>?_))<;>first|(exfalso;omega)|(conv=>whnf))
   | ((with_reducible refine Tst.not ?_))
   | (refine Wit.conv ⟨by omega,by omega⟩ ?_;conv=>whnf)
   | ((with_reducible refine IdxV.nat Oo ?_);conv=>whnf)|((with_reducible refine IdxV.at_ 0 ?_ Od ?_);rfl;(conv=>whnf))|((with_reducible refine IdxV.at_ 1 ?_ Od ?_);rfl;(conv=>whnf))|((with_reducible refine IdxV.at_ 2 ?_ Od ?_);rfl;(conv=>whnf))|((with_reducible refine IdxV.at_ 3 ?_ Od ?_);rfl;(conv=>whnf))
   | ((with_reducible refine SameW.mk rfl ?_);conv=>whnf)
   | (refine LoadV.mem (i:=0) Oa rfl rfl ?_;conv=>whnf)
   | (refine LoadV.mem (i:=1) Oa rfl rfl ?_;conv=>whnf)
   | (refine LoadV.mem (i:=2) Oa rfl rfl ?_;conv=>whnf)
   | ((with_reducible refine Tst.beqT ?_))
   | ((with_reducible refine Tst.beqF ?_))
   | (refine Tst.yes rfl ?_;conv=>whnf)
   | (refine Tst.no rfl ?_;conv=>whnf)))
 refine ⟨0,n,n,rfl,rfl,rfl,Nat.zero_le _,Nat.le_refl _,hc,fun _=>rfl,fun A' e=>?_⟩;have e2:A'=A:=by
  rw [e]
  split
  ·rfl
  ·rcases hA with rfl|⟨g,o,rfl⟩
   ·rfl
   ·simp [Addr.add]
 subst e2;(conv=>whnf);exact ⟨rfl,rfl⟩
theorem qyb (d:Array TM) (i:Nat):d[i]! = tmA d.toList i:=by
 rw [tmA,List.getD_eq_getElem?_getD,Array.getElem?_toList]
 by_cases h:i<d.size
 ·rw [getElem!_pos d i h,Array.getElem?_eq_getElem h];rfl
 ·rw [getElem!_neg d i h,Array.getElem?_eq_none Oo];rfl
theorem qpb (Y:List TM) (A:oA) (c base:Nat) (w:World) (h:w.ownsRow base 45 4 (.slice A Y.length c) Y.length (Y.map encT).flatten) (hl:Y.length≤1000000000000) :
  Gv Tryz.prog 123 [.slice A Y.length c,.func (.func 20) #[] #[]] w fun r w'=>r=.tuple #[]∧∃ Y',Y'.Perm Y∧AscT Y'∧w'.ownsRow base 45 4 (.slice A Y.length c) Y.length (Y'.map encT).flatten∧Chn (rowF (.slice A Y.length c)) w w':=by
 rcases h.2 with ⟨e1,e2⟩|⟨g,cap,cur,e1,hb,hg,hn,hcm,hcs,htk⟩
 ·have h0:Y=[]:=List.eq_nil_of_length_eq_zero e2;subst h0;cases e1;refine qez Jk ((AnyF.slices_SortFunc_none { Tryz.srt with } none 0 (.func (.func 20) #[] #[]) w).mono ?_);rintro e w' ⟨rfl,rfl⟩;exact ⟨_,rfl,rfl,[],List.Perm.refl _,(fun i j _ hj=>by simp at hj),h,Chn.refl _ _⟩
 ·cases e1;have hlt:=qb2 hg;refine qez Jk ((AnyQ.slices_SortFunc Tryz.srt 4 Tryz.isAgg45 Tryz.sizeOf45 encT qag (fun x v hv=>qab x v hv) cmpT swoT 20 #[] g 0 c Y.toArray w qaad (q42 g _ w) (q0n qag Od hg (by rw [htk])) hlt Ys).mono ?_);rintro e w' ⟨rfl,d',n,os,⟨p1,_,p3⟩,hs,rfl⟩;have hz:d'.size=Y.length:=by simpa using p1
  obtain ⟨cur',r1,r2,r3⟩:=qmy (m:=n) (os:=os) (d:=d') qag Od hg (by rw [hz];omega);have hp:d'.toList.Perm Y:=by
   have e3:(d'.extract 0 Y.toArray.size).toList=d'.toList:=by
    rw [Array.toList_extract];simp [List.extract];exact List.take_of_length_le (by simp [hz])
   have e4:(Y.toArray.extract 0 Y.toArray.size).toList=Y:=by simp
   rw [e3,e4] at p3;exact p3
  refine ⟨_,rfl,rfl,d'.toList,hp,fun i j hij hj=>?_,⟨by rw [qbt encT 4 qag];simp [hz],.inr ⟨g,c,cur',rfl,hb,r1,hn,hcm,by rw [r2,hcs],by rw [← hz];exact r3⟩⟩,?_⟩
  ·have h1:=hs i j (Nat.zero_le _) hij (by simpa [hz] using hj);rw [ltOf,decide_eq_false_iff_not,qat,qyb,qyb] at h1;exact h1
  ·exact qmx w g n d' os hlt
namespace V
theorem qhf {w:World} {b:Nat} {cur cs:Array Value} {t:TypeId} (hg:w.heap[b]?=some (.cells cur t)):Chn [b] w (w.setRow b cs)∧(w.setRow b cs).heap[b]?=some (.cells cs t):=
 ⟨⟨rfl,rfl,rfl,by simp [World.setRow],fun k _ hn=>qp fun e=>hn (by rw [e];exact List.mem_singleton.2 rfl)⟩,qb3 hg⟩
theorem StoreA.blk {P:Program} {w:World} {b off:Nat} {cur:Array Value} {t:TypeId} {vs:List Value} {K:World→Prop} (hg:w.heap[b]?=some (.cells cur t)) (hl:off+vs.length≤cur.size) (h1:∀ v∈vs,v.oneCell'=true)
  (hk:∀ w',Chn [b] w w'→w'.heap[b]?=some (.cells (cur.toList.take off++vs++cur.toList.drop (off+vs.length)).toArray t)→K w'):StoreA P w b off vs K:=by
 have hr:=run_storeCells_at P b off t vs 0 cur w hg (by simpa using hl) h1;simp only [Nat.add_zero] at hr;obtain ⟨h2,h3⟩:=qhf (cs:=(cur.toList.take off++vs++cur.toList.drop (off+vs.length)).toArray) hg;exact ⟨_,hr,hk _ h2 h3⟩
theorem Fall.clear {P:Program} {ρ:Nat→Value} {o:Oper} {c:Call} {w:World} {K:Value→World→Prop} {a:Value} (ho:o.op=.call c) (hc:c.callee=.builtin .clear) (hv:evs ρ c.args.toList=[a]) (v:Value) (w':World)
  (hrun:(Builtin.clear_ c.argTypes o.type #[a]).run P w=.ok v w') (hk:K v w'):Fall P (execOp (ev ρ) o) w K:=by
 have he:execOp (ev ρ) o=(do pure (.value (← Builtin.clear_ c.argTypes o.type (c.args.map (ev ρ))))):=by
  simp only [execOp,ho,resolve,hc];rfl
 have hv':c.args.map (ev ρ)=#[a]:=by
  rw [qcz] at hv;rw [← Array.toList_inj];simpa using hv
 rw [he,hv'];exact ⟨.inl ⟨v,w',by rw [Sem.run_bind,hrun];rfl,hk⟩⟩
theorem qvv {P:Program} {w:World} {b off n c:Nat} {cur:Array Value} {t e et ty:TypeId} {i:TypeInfo} {z:Value} {k:Nat} (ht:P.underlying t=some (.slice e)) (hi:P.info? e=some i) (hz:i.zero=some z) (hzs:z.cells.size=k) (h1:∀ v∈z.cells.toList,v.oneCell'=true) (hk:0<k)
  (hg:w.heap[b]?=some (.cells cur et)) (hn:0<n) (hl:off+n*k≤cur.size) :
  ∃ zs:List Value,zs.length=n*k∧(Builtin.clear_ #[t] ty #[.slice (some ⟨b,off,none⟩) n c]).run P w=.ok (.tuple #[]) (w.setRow b (cur.toList.take off++zs++cur.toList.drop (off+zs.length)).toArray):=by
 refine ⟨(Builtin.zeroCells z.cells n).toList,by simp [Builtin.zeroCells,hzs],?_⟩;have hone:∀ v∈(Builtin.zeroCells z.cells n).toList,v.oneCell'=true:=by
  intro v hv;simp only [Builtin.zeroCells,Array.toList_map,List.mem_map] at hv;obtain ⟨j,hj,rfl⟩:=hv;have hj2:j%z.cells.size<z.cells.size:=Nat.mod_lt _ Oo;rw [getElem!_pos z.cells _ hj2];exact h1 _ Js
 have hst:=run_storeCells_at P b off et (Builtin.zeroCells z.cells n).toList 0 cur w hg (by simp [Builtin.zeroCells,hzs];omega) hone;simp only [Nat.add_zero] at hst;have hze:(zeroValue e).run P w=.ok z w:=by simp [zeroValue,typeInfo,hi,hz]
 obtain ⟨m,rfl⟩:∃ m,n=m+1:=⟨n-1,by omega⟩
 simp [Builtin.clear_,run_underlying ht,hze,hst]
end V
theorem qq5 (Y:List TM) (k:Nat) (t:TM) (hk:k<Y.length):((Y.set k t).map encT).flatten=(Y.map encT).flatten.take (k*4)++encT t++(Y.map encT).flatten.drop (k*4+4):=by
 have h1:∀ (Z:List TM),((Z.map encT).flatten).length=Z.length*4:=qbt encT 4 qag;have e1:Y=Y.take k++(Y[k]::Y.drop (k+1)):=by rw [← List.drop_eq_getElem_cons hk,List.take_append_drop]
 have l1:((Y.take k).map encT).flatten.length=k*4:=by rw [h1,List.length_take];congr 1;omega
 have e2:=congrArg (fun Z=>(List.map encT Z).flatten) e1;have e3:Y.set k t=Y.take k++(t::Y.drop (k+1)):=by rw [List.set_eq_take_append_cons_drop,if_pos hk]
 simp only [List.map_append,List.map_cons,List.flatten_append,List.flatten_cons] at e2;rw [e3];simp only [List.map_append,List.map_cons,List.flatten_append,List.flatten_cons];obtain ⟨P,eP⟩:∃ P,P=((Y.take k).map encT).flatten:=⟨_,rfl⟩
 obtain ⟨R,eR⟩:∃ R,R=((Y.drop (k+1)).map encT).flatten:=⟨_,rfl⟩
 rw [← eP] at l1;rw [← eP,← eR] at e2 ⊢;have hd:(P++(encT Y[k]++R)).drop (k*4+4)=R:=by
  rw [← List.append_assoc];exact List.drop_left' (by rw [zla,l1];rfl)
 rw [e2,List.take_left' l1,hd,List.append_assoc]
structure TRow (w:World) (g c:Nat) (Y:List TM):Prop where
 h:∃ cur,w.heap[g]?=some (.cells cur 45)∧Y.length≤c∧cur.size=c*4∧cur.toList.take (Y.length*4)=(Y.map encT).flatten
theorem TRow.at {w:World} {g c:Nat} {Y:List TM} (h:TRow w g c Y) {j:Nat} (hj:j<Y.length):CellsAt w g (j*4) (encT Y[j]):=by
 obtain ⟨cur,h1,h2,h3,h4⟩:=h.h;intro k v hv;have hk:k<4:=(List.getElem?_eq_some_iff.1 hv).1;rw [qa h1,← hv,← qbw encT 4 qag Y j Y[j] k (zge hj) hk,← h4,List.getElem?_take,if_pos Oo];simp
theorem TRow.set {w:World} {P:Program} {g c:Nat} {Y:List TM} (h:TRow w g c Y) {j:Nat} (hj:j<Y.length) (t:TM) {K:World→Prop} (hk:∀ w',Chn [g] w w'→TRow w' g c (Y.set j t)→K w'):StoreA P w g (j*4) (encT t) K:=by
 obtain ⟨cur,h1,h2,h3,h4⟩:=h.h;have hf:=qbt encT 4 qag Y;refine StoreA.blk h1 (by rw [qag];omega) (qab t) fun w' hc hg=>hk w' hc ⟨⟨_,hg,by rw [List.length_set];exact h2,?_,?_⟩⟩
 ·simp [qag];omega
 ·rw [List.length_set,qq5 Y j t hj,qag,← h4];have hcl:cur.toList.length=c*4:=by simpa using h3
  rw [List.take_take,Nat.min_eq_left Oo,List.drop_take];rw [List.take_append,List.take_of_length_le (by rw [zla,List.length_take,qag];omega)]
  congr 2
  rw [zla,List.length_take,qag,Nat.min_eq_left Oo]
theorem TRow.cut {w:World} {g c:Nat} {Y:List TM} (h:TRow w g c Y) (m:Nat):TRow w g c (Y.take m):=by
 obtain ⟨cur,h1,h2,h3,h4⟩:=h.h;refine ⟨⟨cur,h1,by rw [List.length_take];omega,h3,?_⟩⟩;have hf:=qbt encT 4 qag (Y.take m);have e:=congrArg (fun Z=>(List.map encT Z).flatten) (List.take_append_drop m Y).symm;simp only [List.map_append,List.flatten_append] at e;have h5:=congrArg (List.take ((Y.take m).length*4)) h4;rw [List.take_take,Nat.min_eq_left (Nat.mul_le_mul_right _ (by rw [List.length_take];omega)),e,List.take_left' hf] at h5;exact h5
theorem TRow.sl {w:World} {g c:Nat} {Y:List TM} (h:TRow w g c Y):SlAt encT 4 w (some ⟨g,0,none⟩) Y:=
 ⟨fun _=>⟨g,0,rfl,fun j x hx=>by
  obtain ⟨h1,rfl⟩:=List.getElem?_eq_some_iff.1 hx;rw [Nat.zero_add];exact h.at h1⟩⟩
theorem TRow.ext {w w':World} {g c:Nat} {Y:List TM} (h:TRow w g c Y) (he:Ext w w'):TRow w' g c Y:=by
 obtain ⟨cur,h1,h2⟩:=h.h;exact ⟨⟨cur,he.get h1,h2⟩⟩
def CmpR (X:List TM) (g:Nat) (w w':World) (r:Value):Prop:=∃ c,r=.slice (some ⟨g,0,none⟩) (unqN X X.length).length c∧(unqN X X.length).length≤c∧SlAt encT 4 w' (some ⟨g,0,none⟩) (unqN X X.length)∧Chn [g] w w'
theorem qadz:∀ v∈((((Tryz.prog.info? 45).get Jk).zero).get Jk).cells.toList,v.oneCell'=true:=List.all_eq_true.1 Jk
theorem qo6 (X:List TM) (g n c:Nat) (w:World) (h:TRow w g c X) (hn:X.length=n) (hl:n≤1000000000000) :
  Gv Tryz.prog 328 [.slice (some ⟨g,0,none⟩) n c] w fun r w'=>CmpR X g w w' r:=by
 have hnc:n≤c:=by obtain ⟨cur,_,h2,_⟩:=h.h;omega
 refine ze Tryz.func328 Tryz.ntmps328 ?_;refine zC (fun _=>zw ?_) (fun _=>zw ?_)
 ·have hu:unqN X X.length=X:=by
   rw [qgj znr (fun i h0 hi=>by omega),List.take_length]
  exact ⟨c,by rw [hu,hn],by rw [hu];omega,by rw [hu];exact h.sl,Chn.refl _ _⟩
 ·refine qm (fun i:Nat=>[(0,.slice (some ⟨g,0,none⟩) n c),(3,ii (i+1:Nat))]) (fun i w'=>i+1≤n∧(∀ j,0<j→j<i+1→qaj (tmA X j) (tmA X (j-1))=false)∧Ext w w') (fun i=>n-i) 0 ⟨rfl,rfl,trivial⟩ ⟨by omega,fun j h0 hj=>by omega,Ext.refl w⟩ ?_;rintro i w1 ρ' ⟨i1,i2,he⟩;have hr:=h.ext he;(conv=>whnf);refine zC (fun _=>zw ?_) (fun _=>zw ?_)
  ·have hi:i+1<X.length:=by omega
   have c1:=(hr.at hi).ext (Ext.refl w1).drew;have c0:=(hr.at (show i<X.length by omega)).ext (Ext.refl w1).drew;refine zy ?_;refine zv ?_;refine ⟨⟨g,0,i+1,rfl,by omega,by omega,?_⟩⟩;rw [show tsz Tryz.prog 45=4 from by kernel_rfl,Nat.zero_add];refine zu ?_;refine LoadA.cells c1 rfl (zu ?_);refine ⟨⟨g,0,i,rfl,by omega,by omega,?_⟩⟩;rw [show tsz Tryz.prog 45=4 from by kernel_rfl,Nat.zero_add];refine zu ?_;refine LoadA.cells c0 rfl (zu ?_);refine RunV.eqTerm (a:=X[i+1]) (b:=X[i]) (.inl rfl) ?_;have ht1:tmA X (i+1)=X[i+1]:=qj0 hi;have ht0:tmA X (i+1-1)=X[i]:=qj0 (i:=i) Oo;have he:=he.drew;have hr:=h.ext he;cases hs:qaj X[i+1] X[i]
   ·refine zu ?_;refine ⟨i+1,⟨rfl,congrArg (Value.int .i64) Oo,trivial⟩,⟨by omega,fun j h0 hj=>?_,he⟩,by omega⟩
    by_cases e:j=i+1
    ·subst e;rw [ht1,ht0];exact hs
    ·exact i2 j h0 Oo
   ·have hu:unqN X (i+1)=X.take (i+1):=qgj Oo i2;have hu2:unqN X (i+2)=unqN X (i+1):=qpe Oo (by rw [ht1,ht0];exact hs);have hul:(unqN X (i+1)).length=i+1:=by rw [hu,List.length_take];omega
    refine zu ?_;refine ⟨i+1,n,c,by show ((i+1:Nat):Int)=_;rfl,rfl,rfl,by omega,hnc,Nat.le_refl _,(fun h=>(by cases h)),fun A' hA=>?_⟩;rw [if_neg Oo] at hA;have hA:A'=some ⟨g,(i+1)*4,none⟩:=by
     rw [hA,show tsz Tryz.prog 45=4 from by kernel_rfl];show some (Addr.add _ _)=_;rw [q7,Nat.zero_add]
    subst hA;refine qm (fun q:Nat=>[(0,.slice (some ⟨g,0,none⟩) n c),(3,ii (unqN X (i+2+q)).length),(4,.slice (some ⟨g,(i+1)*4,none⟩) (n-(i+1)) (c-(i+1))),(5,ii (q+1:Nat))])
     (fun q w'=>i+2+q≤n∧(unqN X (i+2+q)).length≤i+1+q∧Chn [g] w w'∧∃ Y:List TM,TRow w' g c Y∧Y.length=n∧Y.take (unqN X (i+2+q)).length=unqN X (i+2+q)∧∀ j,i+1+q≤j→tmA Y j=tmA X j) (fun q=>n-q) 0
     ⟨rfl,congrArg (fun n:Nat=>ii n) (show i+1=(unqN X (i+2+0)).length by rw [Nat.add_zero,hu2,hul]),rfl,rfl,trivial⟩ ⟨by omega,by rw [Nat.add_zero,hu2,hul];omega,Chn.of _ he,X,hr,hn,by rw [Nat.add_zero,hu2,hul,hu],fun j _=>rfl⟩ ?_
    rintro q w2 ρ2 ⟨q1,q2,hch,Y,hY,hYn,hYt,hYj⟩;obtain ⟨k,ek⟩:∃ k,k=(unqN X (i+2+q)).length:=⟨_,rfl⟩
    rw [← ek] at q2 hYt ⊢;(conv=>whnf);refine zC (fun _=>zw ?_) (fun _=>zw ?_)
    ·have hp:i+2+q<Y.length:=by omega
     have d1:=(hY.at hp).ext (Ext.refl w2).drew;have d0:=(hY.at (show i+1+q<Y.length by omega)).ext (Ext.refl w2).drew;have hy1:Y[i+2+q]=tmA X (i+2+q):=by rw [← hYj _ Oo,qj0 hp]
     have hy0:Y[i+1+q]=tmA X (i+2+q-1):=by rw [show i+2+q-1=i+1+q by omega,← hYj _ Oo,qj0 Oo]
     refine zy ?_;refine zv ?_;refine ⟨⟨g,(i+1)*4,q+1,rfl,by omega,by omega,?_⟩⟩;rw [show tsz Tryz.prog 45=4 from by kernel_rfl,show (i+1)*4+(q+1)*4=(i+2+q)*4 by omega];refine zu ?_;refine LoadA.cells d1 rfl (zu ?_);refine ⟨⟨g,(i+1)*4,q,rfl,by omega,by omega,?_⟩⟩;rw [show tsz Tryz.prog 45=4 from by kernel_rfl,show (i+1)*4+q*4=(i+1+q)*4 by omega];refine zu ?_;refine LoadA.cells d0 rfl (zu ?_);refine RunV.eqTerm (a:=Y[i+2+q]) (b:=Y[i+1+q]) (.inr rfl) ?_;have hch:=hch.trans (Chn.of _ (Ext.refl w2).drew);have hY:=hY.ext (Ext.refl w2).drew;have e3:i+2+(q+1)=i+2+q+1:=by omega
     cases hs2:qaj Y[i+2+q] Y[i+1+q]
     ·have hq2:unqN X (i+2+q+1)=unqN X (i+2+q)++[tmA X (i+2+q)]:=qt8 (by rw [← hy1,← hy0];exact hs2);have hq3:(unqN X (i+2+q+1)).length=k+1:=by rw [hq2,zla,← ek];rfl
      refine zu ?_;refine ⟨⟨g,(i+1)*4,q+1,rfl,by omega,by omega,?_⟩⟩;rw [show tsz Tryz.prog 45=4 from by kernel_rfl,show (i+1)*4+(q+1)*4=(i+2+q)*4 by omega];refine LoadA.cells d1 rfl (zw ?_);refine ⟨⟨g,0,k,rfl,rfl,by omega,?_⟩⟩;rw [show tsz Tryz.prog 45=4 from by kernel_rfl,Nat.zero_add];refine hY.set Oo Y[i+2+q] ?_;intro w3 hc3 hY3;refine zu ?_;refine ⟨q+1,⟨rfl,by rw [e3,hq3];exact congrArg (Value.int .i64) Oo,rfl,congrArg (Value.int .i64) Oo,trivial⟩,⟨by omega,by rw [e3,hq3];omega,hch.trans hc3,_,hY3,by rw [List.length_set];exact hYn,?_,fun j hj=>?_⟩,by omega⟩
      ·rw [e3,hq3,hq2,← hYt,← hy1];rw [List.take_add_one,List.take_set_of_le znr,List.getElem?_set_self Oo];rfl
      ·rw [tmA,List.getD_eq_getElem?_getD,List.getElem?_set_ne Oo,← List.getD_eq_getElem?_getD];exact hYj j Oo
     ·have hq2:unqN X (i+2+q+1)=unqN X (i+2+q):=qpe Oo (by rw [← hy1,← hy0];exact hs2);refine zu ?_;refine ⟨q+1,⟨rfl,congrArg (fun n:Nat=>ii n) (show k=(unqN X (i+2+(q+1))).length by rw [e3,hq2,← ek]),rfl,congrArg (Value.int .i64) Oo,trivial⟩,⟨by omega,by rw [e3,hq2,← ek];omega,hch,Y,hY,hYn,by rw [e3,hq2,← ek];exact hYt,fun j hj=>hYj j Oo⟩,by omega⟩
    ·have hp:i+2+q=n:=by omega
     have hkn:k<n:=by omega
     refine ⟨k,n,c,rfl,rfl,rfl,by omega,hnc,Nat.le_refl _,(fun h=>(by cases h)),fun A' hA=>?_⟩;rw [if_neg Oo] at hA;have hA:A'=some ⟨g,k*4,none⟩:=by
      rw [hA,show tsz Tryz.prog 45=4 from by kernel_rfl];show some (Addr.add _ _)=_;rw [q7,Nat.zero_add]
     subst hA;obtain ⟨cur,r1,r2,r3,r4⟩:=(hY.cut k).h;obtain ⟨zs,hzl,hrun⟩:=qvv (P:=Tryz.prog) (w:=w2) (off:=k*4) (n:=n-k) (c:=c-k) (ty:=0) qwh trmI trmZ Jk qadz (show 0<4 by decide) r1 Oo Oo;obtain ⟨hc3,hg3⟩:=qhf (cs:=(cur.toList.take (k*4)++zs++cur.toList.drop (k*4+zs.length)).toArray) r1;refine Fall.clear rfl rfl rfl _ _ hrun ?_;generalize w2.setRow g (cur.toList.take (k*4)++zs++cur.toList.drop (k*4+zs.length)).toArray=w3 at *;have hYl:(Y.take k).length=k:=by rw [List.length_take];omega
     have hcl:cur.toList.length=c*4:=by simpa using r3
     have hY3:TRow w3 g c (Y.take k):=⟨⟨_,hg3,r2,by simp;omega,by
      rw [hYl] at r4 ⊢;rw [List.toList_toArray,List.append_assoc,List.take_append_of_le_length (by rw [List.length_take];omega),List.take_of_length_le (by rw [List.length_take];omega)];exact r4⟩⟩
     rw [hYt] at hY3;have hun:unqN X X.length=unqN X (i+2+q):=by rw [hn,hp]
     (conv=>whnf);refine ⟨0,k,c,rfl,rfl,rfl,Nat.zero_le _,by omega,Nat.le_refl _,(fun h=>(by cases h)),fun A' hA=>?_⟩;have hA:A'=some ⟨g,0,none⟩:=by
      rw [hA]
      split
      ·rfl
      ·rw [show tsz Tryz.prog 45=4 from by kernel_rfl];show some (Addr.add _ _)=_;rw [q7]
     subst hA;(conv=>whnf);exact ⟨c,by rw [hun,← ek];rfl,by rw [hun,← ek];omega,by rw [hun];exact hY3.sl,hch.trans hc3⟩
  ·obtain rfl:i+1=n:=by omega
   have hu:unqN X X.length=X:=by rw [hn,qgj Oo i2,← hn,List.take_length]
   exact ⟨c,by rw [hu,hn],by rw [hu];omega,by rw [hu];exact hr.sl,Chn.of _ he⟩
theorem qjz (w:World):Gv Tryz.prog 328 [.slice none 0 0] w fun r w'=>r=.slice none 0 0∧w'=w:=by
 refine ze Tryz.func328 Tryz.ntmps328 ?_;refine zv ?_
 all_goals exact ⟨rfl,rfl⟩
theorem qri (X:List TM) (A:oA) (n c:Nat) (w:World) (hS:SlAt encT 4 w A X) (hn:X.length=n) (hl:n≤1000000000000) :
  Gv Tryz.prog 251 [.slice A n c,.func (.func 20) #[] #[]] w fun r w'=>∃ Y:List TM,Y.Perm X∧AscT Y∧(∃ B,r=.slice B (unqN Y n).length (unqN Y n).length∧SlAt encT 4 w' B (unqN Y n)∧∀ k∈rowF (.slice B 0 0),w.heap.size≤k∧k<w'.heap.size)∧Ext w w':=by
 subst hn;refine ze Tryz.func251 Tryz.ntmps251 ?_;refine zcv (qwc X A _ c w hS rfl hl) ?_;rintro r w1 ⟨A1,c1,rfl,he1,ho1⟩;(conv=>whnf);refine zcv (qpb X A1 c1 w.heap.size w1 ho1 hl) ?_;rintro r w2 ⟨rfl,Y,hp,ha,ho2,hc2⟩;have hYl:=hp.length_eq;have he2:Ext w w2:=hc2.ext he1 fun k hk=>(qhu ho1 k hk).1
 (conv=>whnf)
 rcases ho2.2 with ⟨e1,e2⟩|⟨g,cap,cur,e1,hb,hg,hnc,hcm,hcs,htk⟩
 ·have h0:Y=[]:=List.eq_nil_of_length_eq_zero Oo;obtain rfl:X=[]:=List.eq_nil_of_length_eq_zero e2;subst h0;cases e1;refine zcv (qjz w2) ?_;rintro r w3 ⟨rfl,rfl⟩;(conv=>whnf);refine zcv (qo5 none 0 0 znr (.inl rfl) w3) ?_;rintro r w4 ⟨rfl,rfl⟩;(conv=>whnf);exact ⟨[],hp,ha,⟨none,rfl,⟨fun h=>absurd rfl h⟩,fun k hk=>by cases hk⟩,he2⟩
 ·cases e1;have hr:TRow w2 g c1 Y:=⟨⟨cur,hg,by omega,hcs,by rw [hYl];exact htk⟩⟩
  refine zcv (qo6 Y g X.length c1 w2 hr hYl hl) ?_;rintro r w3 ⟨c3,rfl,hc3,hS3,hch⟩;rw [hYl] at hc3 hS3 ⊢;have he3:Ext w w3:=hch.ext he2 fun k hk=>by rw [List.mem_singleton.1 hk];exact hb
  (conv=>whnf);refine zcv (qo5 (some ⟨g,0,none⟩) (unqN Y X.length).length c3 hc3 (.inr ⟨g,0,rfl⟩) w3) ?_;rintro r w4 ⟨rfl,rfl⟩;(conv=>whnf);exact ⟨Y,hp,ha,⟨some ⟨g,0,none⟩,rfl,hS3,fun k hk=>by rw [List.mem_singleton.1 hk];exact ⟨hb,Nat.lt_of_lt_of_le (qb2 hg) hch.size⟩⟩,he3⟩
theorem q1b (qs:List Q4) (A:oA) (n c:Nat) (w:World) (hS:SlAt qd 16 w A qs) (hn:qs.length=n) (hl:n≤4194304) :
  Gv Tryz.prog 185 [.slice A n c] w fun r w'=>∃ B,r=.slice B (tmsQ qs).length (tmsQ qs).length∧SlAt encT 4 w' B (tmsQ qs)∧(∀ k∈rowF (.slice B 0 0),w.heap.size≤k∧k<w'.heap.size)∧Ext w w':=by
 subst hn;refine ze Tryz.func185 Tryz.ntmps185 ?_;refine qm (fun x:Nat × List TM × oA × Nat=>[(0,.slice A qs.length c),(3,.slice x.2.2.1 x.2.1.length x.2.2.2),(6,.slice A qs.length c),(7,ii qs.length),(8,ii x.1)])
  (fun x w'=>x.1≤qs.length∧x.2.1=trms (qs.take x.1)∧Rw w w' (.slice x.2.2.1 x.2.1.length x.2.2.2) 45 4 x.2.1.length (x.2.1.map encT).flatten []) (fun x=>qs.length-x.1) (0,[],none,0)
  ⟨rfl,rfl,rfl,rfl,rfl,trivial⟩ ⟨by simp,rfl,Rw.nil (Mem.nil w)⟩ ?_
 rintro ⟨i,out,B,cb⟩ w1 ρ' ⟨h1,h2,hR⟩;dsimp only at h1 h2 hR ⊢;(conv=>whnf);refine zC (fun _=>zw ?_) (fun _=>zw ?_)
 ·have hil:i<qs.length:=by omega
  have hq:qs[i]?=some qs[i]:=zge hil;have hto:=qrh (qs.take i);rw [← h2,List.length_take,Nat.min_eq_left h1] at hto;refine ElemV.sl (hS.ext hR.mem.ext) rfl i rfl Oo ?_;intro eb eo hcell;refine LoadA.cells hcell rfl ?_;refine NewV.rw hR ?_;clear hR;intro nb w2 hR;refine StoreA.rwAll (vs:=qd qs[i]) hR rfl (qaq _) ?_;clear hR;intro w3 hR;have hR:Rw w w3 (.slice B out.length cb) 45 4 out.length (out.map encT).flatten [(nb,.cells (qd qs[i]).toArray 47)]:=hR;obtain ⟨q,eq⟩:∃ q,q=qs[i]:=⟨_,rfl⟩
  rw [← eq] at hR hq;have hqc:CellsAt w3 nb 0 (qd q):=CellsAt.mem hR.mem mh;refine LoadA.cells (qv hqc 0 Od) rfl ?_;refine LoadA.cells (qv hqc 1 Od) rfl ?_;refine LoadA.cells (qv hqc 2 Od) rfl ?_;refine NewV.rw hR fun nb2 w4 hR=>zw ?_;refine AppV.rw (m:=3) (news:=encT q.s++encT q.p++encT q.o) qwh trmI trmZ Jk Jk Od hR rfl (fun _=>⟨nb2,0,rfl,fun k v hv=>?_⟩) (qxt q) (by rw [show ((Tryz.prog.info? 45).get Jk).bytes=56 from by kernel_rfl];omega) Oo ?_
  ·rw [qa (hR.mem.get mh),Nat.zero_add];rw [List.getElem?_toArray];exact hv
  clear hR;intro B2 c2 w5 hR;obtain ⟨out3,eout⟩:∃ out3,out3=out++[q.s,q.p,q.o]:=⟨_,rfl⟩
  have el3:out3.length=out.length+3:=by rw [eout];simp
  have hR:Rw w w5 (.slice B2 out3.length c2) 45 4 out3.length (out3.map encT).flatten [(nb,.cells (qd q).toArray 47)]:=by
   have e:(out3.map encT).flatten=(out.map encT).flatten++(encT q.s++encT q.p++encT q.o):=by rw [eout];simp
   rw [e,el3];exact hR.tail
  rw [← el3];have hqc:CellsAt w5 nb 0 (qd q):=CellsAt.mem hR.mem mh;refine LoadV.cell0 (qv hqc 3 Od) (zw ?_);refine zC (fun _=>zu ?_) (fun _=>zu ?_)
  ·have etr:out3++[q.g]=out++trQ q:=by rw [eout,trQ,if_neg (by show ¬ (q.at 3).kind=0;omega)];simp
   refine LoadA.cells (qv hqc 3 Od) rfl ?_;refine NewV.rw hR fun nb3 w6 hR=>zw ?_;refine AppV.rw (m:=1) (news:=encT q.g) qwh trmI trmZ Jk Jk Od hR rfl (fun _=>⟨nb3,0,rfl,fun k v hv=>?_⟩) (qab q.g) (by rw [show ((Tryz.prog.info? 45).get Jk).bytes=56 from by kernel_rfl];omega) Oo ?_
   ·rw [qa (hR.mem.get mh),Nat.zero_add];rw [List.getElem?_toArray];exact hv
   clear hR;intro B3 c3 w7 hR;have hR:Rw w w7 (.slice B3 (out++trQ q).length c3) 45 4 (out++trQ q).length ((out++trQ q).map encT).flatten []:=by
    have e:((out++trQ q).map encT).flatten=(out3.map encT).flatten++encT q.g:=by rw [← etr];simp
    rw [e,← etr,zla];exact hR.tail.tail
   refine zu ?_;refine ⟨(i+1,out++trQ q,B3,c3),⟨rfl,?_,rfl,rfl,rfl,trivial⟩,⟨by simp only;omega,?_,hR⟩,by simp only;omega⟩
   ·show Value.slice B3 (out3.length+1) c3=Value.slice B3 (out++trQ q).length c3;rw [← etr,zla];rfl
   ·show out++trQ q=trms (qs.take (i+1));rw [qo9 qs i q hq,← h2]
  ·have etr:out3=out++trQ q:=by rw [eout,trQ,if_pos (by show (q.at 3).kind=0;omega)];simp
   refine ⟨(i+1,out3,B2,c2),⟨rfl,rfl,rfl,rfl,rfl,trivial⟩,⟨by simp only;omega,?_,hR.tail⟩,by simp only;omega⟩;show out3=trms (qs.take (i+1));rw [qo9 qs i q hq,← h2,etr]
 ·obtain rfl:i=qs.length:=by omega
  rw [List.take_length] at h2;subst h2;have hle:=qrh qs;obtain ⟨o1,o2⟩:=q81 qag hR.own rfl;refine zcv (qri (trms qs) B _ cb w1 o1 rfl Oo) ?_;rintro r w5 ⟨Y,hp,ha,⟨B5,rfl,hS5,hlo⟩,he5⟩;have hu:unqN Y (trms qs).length=tmsQ qs:=by rw [← hp.length_eq];exact q49 ha fun t=>hp.mem_iff
  rw [hu] at hS5 ⊢;(conv=>whnf);exact ⟨B5,rfl,hS5,fun k hk=>⟨Nat.le_trans hR.mem.ext.size (hlo k hk).1,(hlo k hk).2⟩,hR.mem.ext.trans he5⟩
theorem q7k (a b:Q4):or4 (cmpT a.g b.g) (cmpT a.s b.s) (cmpT a.p b.p) (cmpT a.o b.o)=cmpQ a b:=rfl
theorem qnm (a b:Q4) (w:World):Gv Tryz.prog 120 [qq a,qq b] w fun r w'=>r=ii (cmpQ a b)∧Ext w w':=by
 refine ze Tryz.func120 Tryz.ntmps120 ?_;refine znm (Mem.nil w) fun b1 w1 hm=>zw ?_;refine znm hm ?_;intro b2 w2 hm;have hc1:CellsAt w2 b1 0 (qd a):=CellsAt.mem hm (zmc mh);have hc2:CellsAt w2 b2 0 (qd b):=CellsAt.mem hm mh;have hd:Ext w2 w2.drew:=(Ext.refl w2).drew;have c1:∀ k,k<4→CellsAt w2.drew b1 (0+k*4) (encT (a.at k)):=fun k hk=>(qv hc1 k hk).ext hd
 have c2:∀ k,k<4→CellsAt w2.drew b2 (0+k*4) (encT (b.at k)):=fun k hk=>(qv hc2 k hk).ext hd
 clear hd;(conv=>whnf);refine DrawV.free rfl Jk (zw ?_);refine zd ?_;apply zsd
 ·intro wd hd;(conv=>whnf);refine LoadA.cells ((c1 3 Od).ext hd) rfl (zw ?_);exact ⟨xr,rfl⟩
 (conv=>whnf);refine zd ?_;apply zsd
 ·intro wd hd;(conv=>whnf);refine LoadA.cells ((c2 3 Od).ext hd) rfl (zw ?_);exact ⟨xr,rfl⟩
 (conv=>whnf);apply zsd
 ·intro wd hd;(conv=>whnf);refine zcv (qdj a.g b.g wd) ?_;rintro v w7 ⟨rfl,he⟩;exact ⟨he,rfl⟩
 (conv=>whnf);refine zd ?_;apply zsd
 ·intro wd hd;(conv=>whnf);refine LoadA.cells ((c1 0 Od).ext hd) rfl (zw ?_);exact ⟨xr,rfl⟩
 (conv=>whnf);refine zd ?_;apply zsd
 ·intro wd hd;(conv=>whnf);refine LoadA.cells ((c2 0 Od).ext hd) rfl (zw ?_);exact ⟨xr,rfl⟩
 (conv=>whnf);apply zsd
 ·intro wd hd;(conv=>whnf);refine zcv (qdj a.s b.s wd) ?_;rintro v w7 ⟨rfl,he⟩;exact ⟨he,rfl⟩
 (conv=>whnf);refine zd ?_;apply zsd
 ·intro wd hd;(conv=>whnf);refine LoadA.cells ((c1 1 Od).ext hd) rfl (zw ?_);exact ⟨xr,rfl⟩
 (conv=>whnf);refine zd ?_;apply zsd
 ·intro wd hd;(conv=>whnf);refine LoadA.cells ((c2 1 Od).ext hd) rfl (zw ?_);exact ⟨xr,rfl⟩
 (conv=>whnf);apply zsd
 ·intro wd hd;(conv=>whnf);refine zcv (qdj a.p b.p wd) ?_;rintro v w7 ⟨rfl,he⟩;exact ⟨he,rfl⟩
 (conv=>whnf);refine zd ?_;apply zsd
 ·intro wd hd;(conv=>whnf);refine LoadA.cells ((c1 2 Od).ext hd) rfl (zw ?_);exact ⟨xr,rfl⟩
 (conv=>whnf);refine zd ?_;apply zsd
 ·intro wd hd;(conv=>whnf);refine LoadA.cells ((c2 2 Od).ext hd) rfl (zw ?_);exact ⟨xr,rfl⟩
 (conv=>whnf);apply zsd
 ·intro wd hd;(conv=>whnf);refine zcv (qdj a.o b.o wd) ?_;rintro v w7 ⟨rfl,he⟩;exact ⟨he,rfl⟩
 (conv=>whnf);apply StepD.of (fun v wx=>∃ nb,v=.slice (some ⟨nb,0,none⟩) 4 4∧wx.heap[nb]?=some (.cells #[ii (cmpT a.g b.g),ii (cmpT a.s b.s),ii (cmpT a.p b.p),ii (cmpT a.o b.o)] 3)) (fun _ _ _ h he=>let ⟨nb,h1,h2⟩:=h;⟨nb,h1,he.get h2⟩)
 ·intro wd hd;(conv=>whnf);refine ⟨fun nb wx hb hw=>?_⟩;subst hb hw;(conv=>whnf);exact ⟨(Ext.refl wd).alloc _,_,rfl,heap_alloc_new wd _⟩
 (conv=>whnf);apply zsd
 ·intro wd hd;(conv=>whnf);rintro v ⟨nb,rfl,hn⟩;(conv=>whnf);refine zcv (qqj _ _ _ _ nb wd hn) ?_;rintro v w7 ⟨rfl,rfl⟩;rw [q7k];exact ⟨xr,rfl⟩
 (conv=>whnf);refine zd ?_;intro wd hd;conv=>whnf
 (repeat (intro _ _;(conv=>whnf)))
 exact ⟨rfl,(hm.drew.call hd).ext⟩
section
variable (qs:List Q4) (A:oA) (n c:Nat) (w:World)
theorem qpi (hS:SlAt qd 16 w A qs) (hn:qs.length=n) (hb:n≤140737488355328) (hq:∀ q∈qs,qak q) (hM:MaxLenAt w) (hT:CellsAt w 4 0 qa6) :
  Gv Tryz.prog 56 [.slice A n c] w fun r w'=>(∃ i:Int,r=.tuple #[ii i,ii (valE qs)])∧Ext w w':=by
 refine ze Tryz.func56 Tryz.ntmps56 ?_;refine zC (fun _=>zw ?_) (fun _=>zw ?_)
 ·exact ⟨⟨0,by rw [q1n Oo];rfl⟩,Ext.refl w⟩
 ·have hlong:¬ 1048576<qs.length:=by omega
  refine qm (fun i:Nat=>[(0,.slice A n c),(11,.slice A n c),(12,ii n),(13,ii i)]) (fun i w1=>i≤n∧(∀ j r,j<i→qs[j]?=some r→qbx r=0)∧Ext w w1) (fun i=>n-i) 0 ⟨rfl,rfl,rfl,rfl,trivial⟩ ⟨Nat.zero_le _,fun j r h=>absurd h (Nat.not_lt_zero _),Ext.refl w⟩ ?_;rintro i w1 ρ' ⟨i1,i2,he1⟩;(conv=>whnf);refine zC (fun _=>zw ?_) (fun _=>zw ?_)
  ·have hi:i<qs.length:=by omega
   have hqi:qs[i]?=some qs[i]:=zge hi;refine ElemV.sl (hS.ext he1) hn i rfl Oo ?_;intro eb eo hcell;(conv=>whnf);refine LoadA.cells hcell rfl (zw ?_);refine znm (Mem.nil w1) fun nb w2 hm=>zw ?_;refine StoreA.all (vs:=qd qs[i]) hm (i:=0) rfl rfl (qaq _) ?_;intro w3 hm;have hm:Mem w1 w3 [(nb,.cells (qd qs[i]).toArray 47)]:=hm;(conv=>whnf);refine zl hm 0 ?_;have he3:=he1.trans hm.ext;refine zcv (qfq qs[i] (hq _ (List.getElem_mem hi)) w3 (hM.ext he3) (hT.ext he3)) ?_;rintro r w4 ⟨rfl,he4⟩;have he4:=he3.trans he4;(conv=>whnf);refine zC (fun _=>zu ?_) (fun _=>zu ?_)
   ·exact ⟨⟨i,by rw [q1o hlong hqi i2 rfl Oo]⟩,he4⟩
   ·refine ⟨i+1,⟨rfl,rfl,rfl,rfl,trivial⟩,⟨by omega,fun j r hj hr=>?_,he4⟩,by omega⟩
    by_cases e:j=i
    ·subst e;rw [hqi] at hr;cases hr;omega
    ·exact i2 j r Oo hr
  ·obtain rfl:i=n:=by omega
   have hz:∀ q∈qs,qbx q=0:=fun q hq=>by
    obtain ⟨j,hj⟩:=List.mem_iff_getElem?.1 hq;exact i2 j q (by have:=(List.getElem?_eq_some_iff.1 hj).1;omega) hj
   refine qm (fun k:Nat=>[(0,.slice A i c),(7,ii (k+1:Nat))]) (fun k w1=>q13 qs (k+1)∧Ext w w1) (fun k=>i-k) 0 ⟨rfl,rfl,trivial⟩ ⟨fun j h=>by omega,he1⟩ ?_;rintro k w2 ρ2 ⟨k1,he2⟩;(conv=>whnf);refine zC (fun _=>zw ?_) (fun _=>zw ?_)
   ·have hk:k+1<qs.length:=by omega
    obtain ⟨b,off,rfl,hat⟩:=(hS.ext he2).at_ (by intro e;rw [e] at hk;cases hk);have hqa:qs[k]?=some qs[k]:=zge Oo;have hqb:qs[k+1]?=some qs[k+1]:=zge hk;have hca:=(hat k _ hqa).ext (Ext.refl w2).drew;have hcb:=(hat (k+1) _ hqb).ext (Ext.refl w2).drew;refine DrawV.free rfl Jk (zw ?_);(iterate 3 (refine zd ?_));refine zf ?_ (by intro wd hd;(conv=>whnf);refine ⟨⟨b,off,k,rfl,by omega,by omega,?_⟩⟩;exact ⟨xr,rfl⟩);apply zsd
    ·intro wd hd;(conv=>whnf);refine LoadA.cells (hca.ext hd) rfl (zw ?_);exact ⟨xr,rfl⟩
    (conv=>whnf);refine zd ?_;refine zd ?_;refine zf ?_ (by intro wd hd;(conv=>whnf);refine ⟨⟨b,off,(k+1),rfl,by omega,by omega,?_⟩⟩;exact ⟨xr,rfl⟩);apply zsd
    ·intro wd hd;(conv=>whnf);refine LoadA.cells (hcb.ext hd) rfl (zw ?_);exact ⟨xr,rfl⟩
    (conv=>whnf);apply zsd
    ·intro wd hd;(conv=>whnf);refine zcv (qnm qs[k] qs[k+1] wd) ?_;rintro v w7 ⟨rfl,he⟩;exact ⟨he,rfl⟩
    (conv=>whnf);refine zd ?_;intro wd hd;have he3:=(he2.drew).trans hd;(conv=>whnf);refine zC (fun _=>zu ?_) (fun _=>zu ?_)
    ·refine ⟨⟨(k+1:Nat),?_⟩,he3⟩;rw [q5f hlong hz hqa hqb (fun g=>by have:=qcl.2 g;omega)];rfl
    ·refine ⟨k+1,⟨rfl,congrArg (Value.int .i64) Oo,trivial⟩,⟨fun j hj x y hx hy=>?_,he3⟩,by omega⟩
     by_cases e:j=k
     ·subst e;rw [hqa] at hx;rw [hqb] at hy;cases hx;cases hy;exact qcl.1 Oo
     ·exact k1 j Oo x y hx hy
   ·exact ⟨⟨0,by rw [qaav hlong hz (fun j hj=>k1 j Oo)];rfl⟩,he2⟩
end
def entA (t:TM):ByteArray:=⟨(qae t).toArray⟩
def secA (T:List TM) (k:Nat):List ByteArray:=(T.filter fun t=>decide (t.kind=((k+1:Nat):Int))).map entA
theorem q4n (T:List TM) (k:Nat):txs (secA T k)=secE T k:=by
 rw [txs,secA,secE,List.map_map];rfl
theorem q4m {T:List TM} {t:TM} {k:Nat} (h:t.kind=((k+1:Nat):Int)):secA (T++[t]) k=secA T k++[entA t]:=by
 grind [secA]
theorem q0s {T:List TM} {t:TM} {k:Nat} (h:t.kind≠((k+1:Nat):Int)):secA (T++[t]) k=secA T k:=by
 grind [secA]
theorem qty (T:List TM) (k:Nat):(secA T k).length≤T.length:=by
 grind [secA]
def vocW (T:List TM):Nat→LB
 | 0=>[]
 | k+1=>vocW T k++varL (qk (secE T k)).length
theorem qaa1 (T:List TM):vocB T=((vocW T 3++qk (secE T 0))++qk (secE T 1))++qk (secE T 2):=by
 grind [vocB,jo3,vocW]
theorem V.SlAt.keep {α:Type} {enc:α→List Value} {size:Nat} {w w':World} {A:oA} {l:List α} (h:SlAt enc size w A l) (hk:∀ k∈rowF (.slice A 0 0),w'.heap[k]?=w.heap[k]?):SlAt enc size w' A l:=by
 refine ⟨fun hn=>?_⟩;obtain ⟨b,off,rfl,h4⟩:=h.at_ hn;refine ⟨b,off,rfl,fun j x hx k u hu=>?_⟩;have:=h4 j x hx k u hu;rw [← this,World.cell?_of_block];exact hk b (List.mem_singleton.2 rfl)
def vbF (xb tb:Nat) (V:Nat→Value) (B:oA):List (List Nat):=[[xb],[tb],rowF (V 0),rowF (V 1),rowF (V 2),rowF (.slice B 0 0)]
theorem qaaw (xb tb:Nat) (V:Nat→Value) (B:oA) {k:Nat} (hk:k<3) (v:Value):(vbF xb tb V B).set (k+2) (rowF v)=vbF xb tb (updF V k v) B:=by
 rcases (show k=0∨k=1∨k=2 by omega) with rfl|rfl|rfl<;>rfl
theorem qt9 (xb tb:Nat) (V:Nat→Value) (B:oA) {k:Nat} (hk:k<3):(vbF xb tb V B)[k+2]?=some (rowF (V k)):=by
 rcases (show k=0∨k=1∨k=2 by omega) with rfl|rfl|rfl<;>rfl
def strV (L:List ByteArray):List Value:=L.map Value.string
def addL (L:Nat→List ByteArray) (k:Nat) (s:ByteArray):Nat→List ByteArray:=fun j=>if j=k then L k++[s] else L j
structure VbS (w w':World) (B:oA) (T:List TM) (xb tb:Nat) (t:TM) (U V:Nat→Value) (L:Nat→List ByteArray):Prop where
 sep:Sep w w' (vbF xb tb V B)
 tm:w'.heap[xb]?=some (.cells (encT t).toArray 45)
 tab:w'.heap[tb]?=some (.cells (fnA 3 U) 291)
 row:∀ j,j<3→w'.ownsRow 0 9 1 (V j) (L j).length (strV (L j))
 src:SlAt encT 4 w' B T
section
variable {w w1 w2:World} {B:oA} {T:List TM} {xb tb:Nat} {t:TM} {U V:Nat→Value} {L:Nat→List ByteArray}
theorem VbS.call (h:VbS w w1 B T xb tb t U V L) (he:Ext w1 w2):VbS w w2 B T xb tb t U V L:=
 ⟨h.sep.call he,he.get h.tm,he.get h.tab,fun j hj=>qcg (h.row j hj) he,h.src.ext he⟩
theorem VbS.app (h:VbS w w1 B T xb tb t U V L) {k:Nat} (hk:k<3) {s:ByteArray} {A:oA} {c:Nat} (ho:w2.ownsRow 0 9 1 (.slice A ((L k).length+1) c) ((L k).length+1) (strV (L k)++[.string s])) (hc:Chn (rowF (V k)) w1 w2)
  (hn:∀ j∈rowF (.slice A ((L k).length+1) c),(j∈rowF (V k)∨w1.heap.size≤j)∧j<w2.heap.size):VbS w w2 B T xb tb t U (updF V k (.slice A ((L k).length+1) c)) (addL L k s):=by
 have hs:=h.sep.row (i:=k+2) (qt9 xb tb V B hk) hc hn;refine ⟨by rw [← qaaw xb tb V B hk];exact hs.sep,?_,?_,fun j hj=>?_,h.src.keep (hs.keep 5 _ rfl Oo)⟩
 ·rw [hs.keep 0 [xb] rfl Oo xb (List.mem_singleton.2 rfl)];exact h.tm
 ·rw [hs.keep 1 [tb] rfl Oo tb (List.mem_singleton.2 rfl)];exact h.tab
 ·by_cases e:j=k
  ·subst e;rw [qaz,addL,if_pos rfl,zla,strV,List.map_append];exact ho
  ·rw [q6 _ _ _ _ e,addL,if_neg e];exact qao (h.row j hj) fun i hi=>hs.keep (j+2) _ (qt9 xb tb V B hj) Oo i hi
theorem VbS.store (h:VbS w w1 B T xb tb t U V L) {k:Nat} (hk:k<3) {K:World→Prop} (h1:qb6 (V k)=true) (hK:∀ w2,VbS w w2 B T xb tb t (updF U k (V k)) V L→K w2):StoreV w1 tb k (V k) K:=by
 refine StoreV.own h.tab (by rw [qa1];exact hk) h1 fun w2 hw=>hK w2 ?_;obtain ⟨hc,hg⟩:=Chn.set h.tab hw;have hs:=h.sep.row (i:=1) (F':=[tb]) rfl hc fun j hj=>⟨.inl hj,by rw [List.mem_singleton.1 hj];exact qb2 hg⟩
 refine ⟨hs.sep,?_,by rw [hg,qdl],fun j hj=>qao (h.row j hj) fun i hi=>hs.keep (j+2) _ (qt9 xb tb V B hj) Oo i hi,h.src.keep (hs.keep 5 _ rfl Oo)⟩;rw [hs.keep 0 [xb] rfl Od xb (List.mem_singleton.2 rfl)];exact h.tm
end
def VbI (w w1:World) (B:oA) (T:List TM) (xb tb:Nat) (t:TM) (V:Nat→Value) (L:Nat→List ByteArray) (k:Nat) (s:ByteArray) (s7 s9 s10 s12:Bool) (v9 v10:Value) (w':World):Prop:=
 (s10=false∧s12=false∧Ext w1 w'∧VbS w w' B T xb tb t V V L∧(s9=true→∃ nb,v9=.slice (some ⟨nb,0,none⟩) 1 1∧w'.heap[nb]?=some (.cells #[.string s] 9)))∨
 (s9=true∧s10=true∧s12=false∧∃ A c,v10=.slice A ((L k).length+1) c∧VbS w w' B T xb tb t V (updF V k (.slice A ((L k).length+1) c)) (addL L k s))∨
 (s7=true∧s9=true∧s10=true∧s12=true∧∃ A c,VbS w w' B T xb tb t (updF V k (.slice A ((L k).length+1) c)) (updF V k (.slice A ((L k).length+1) c)) (addL L k s))
section
variable {w w1 w':World} {B:oA} {T:List TM} {xb tb:Nat} {t:TM} {V:Nat→Value} {L:Nat→List ByteArray} {k:Nat} {s:ByteArray} {s7 s9 s10 s12:Bool} {v9 v10:Value}
theorem VbI.tm (h:VbI w w1 B T xb tb t V L k s s7 s9 s10 s12 v9 v10 w'):w'.heap[xb]?=some (.cells (encT t).toArray 45):=by
 rcases h with ⟨_,_,_,h,_⟩|⟨_,_,_,_,_,_,h⟩|⟨_,_,_,_,_,_,h⟩
 all_goals exact h.tm
theorem VbI.tab (h:VbI w w1 B T xb tb t V L k s false s9 s10 s12 v9 v10 w'):w'.heap[tb]?=some (.cells (fnA 3 V) 291):=by
 rcases h with ⟨_,_,_,h,_⟩|⟨_,_,_,_,_,_,h⟩|⟨h,_⟩
 ·exact h.tab
 ·exact h.tab
 ·cases h
theorem VbI.seven (h:VbI w w1 B T xb tb t V L k s false s9 s10 s12 v9 v10 w'):VbI w w1 B T xb tb t V L k s true s9 s10 s12 v9 v10 w':=by
 rcases h with h|h|⟨h,_⟩
 ·exact .inl h
 ·exact .inr (.inl h)
 ·cases h
theorem VbI.nine (h:VbI w w1 B T xb tb t V L k s s7 false s10 s12 v9 v10 w') {w2:World} {b:Nat} (hb:b=w'.heap.size) (hw:w2=w'.alloc (.cells #[.string s] 9)):VbI w w1 B T xb tb t V L k s s7 true s10 s12 (.slice (some ⟨b,0,none⟩) 1 1) v10 w2:=by
 rcases h with ⟨h1,h2,h3,h4,_⟩|⟨h,_⟩|⟨_,h,_⟩
 ·have he:Ext w' w2:=by rw [hw];exact (Ext.refl w').alloc _
  exact .inl ⟨h1,h2,h3.trans he,h4.call he,fun _=>⟨b,rfl,by rw [hw,hb];exact heap_alloc_new w' _⟩⟩
 ·cases h
 ·cases h
theorem VbI.ten (h:VbI w w1 B T xb tb t V L k s s7 true false s12 v9 v10 w'):s12=false∧VbS w w' B T xb tb t V V L∧∃ nb,v9=.slice (some ⟨nb,0,none⟩) 1 1∧w'.heap[nb]?=some (.cells #[.string s] 9):=by
 rcases h with ⟨_,h2,_,h4,h5⟩|⟨_,h,_⟩|⟨_,_,h,_⟩
 ·exact ⟨h2,h4,h5 rfl⟩
 ·cases h
 ·cases h
theorem VbI.twelve (h:VbI w w1 B T xb tb t V L k s s7 s9 true false v9 v10 w'):s9=true∧∃ A c,v10=.slice A ((L k).length+1) c∧VbS w w' B T xb tb t V (updF V k (.slice A ((L k).length+1) c)) (addL L k s):=by
 rcases h with ⟨h,_⟩|⟨h1,_,_,h2⟩|⟨_,_,_,h,_⟩
 ·cases h
 ·exact ⟨h1,h2⟩
 ·cases h
theorem VbI.end_ (h:VbI w w1 B T xb tb t V L k s s7 s9 s10 true v9 v10 w'):∃ A c,VbS w w' B T xb tb t (updF V k (.slice A ((L k).length+1) c)) (updF V k (.slice A ((L k).length+1) c)) (addL L k s):=by
 rcases h with ⟨_,h,_⟩|⟨_,_,h,_⟩|⟨_,_,_,_,h⟩
 ·cases h
 ·cases h
 ·exact h
end
def VBuR (qs:List Q4) (w w':World) (r:Value):Prop:=
 (∃ e:Nat,e≠0∧e=(if valE qs≠0 then valE qs else if qc7 (tmsQ qs)≠0 then qc7 (tmsQ qs) else if 67108864<(vocB (tmsQ qs)).length then 1 else 0)∧r=.tuple #[.slice none 0 0,ii e]∧Ext w w')∨
 (valE qs=0∧qc7 (tmsQ qs)=0∧(vocB (tmsQ qs)).length≤67108864∧∃ v,r=.tuple #[v,ii 0]∧NewS 5 w w' v (vocB (tmsQ qs)))
def vdF (F:List Nat) (ab:Nat) (U:Nat→Value) (i:Nat):List (List Nat):=F::[ab]::(List.range i).map fun j=>rowF (U j)
theorem qaax {w0 w w':World} {F:List Nat} {ab i:Nat} {U:Nat→Value} {v:Value} (h:Sep w0 w (vdF F ab U i)) (he:Ext w w') (hv:∀ k∈rowF v,w.heap.size≤k∧k<w'.heap.size):Sep w0 w' (vdF F ab (updF U i v) (i+1)):=by
 have h1:=(h.add he hv).perm (List.perm_append_singleton (rowF v) (vdF F ab U i)).symm;have e:vdF F ab U i++[rowF v]=vdF F ab (updF U i v) (i+1):=by
  simp only [vdF,List.range_succ,List.map_append,List.map_cons,List.map_nil,List.cons_append,qaz]
  congr 3
  exact List.map_congr_left fun j hj=>by rw [q6 _ _ _ _ (by have:=List.mem_range.1 hj;omega)]
 rw [← e];exact h1
theorem qpj (F:List Nat) (ab:Nat) (U:Nat→Value) {i j:Nat} (h:j<i):(vdF F ab U i)[j+2]?=some (rowF (U j)):=by
 show ((List.range i).map fun j=>rowF (U j))[j]?=_;rw [List.getElem?_map,List.getElem?_range h];rfl
structure VdS (T:List TM) (w w':World) (b ab i:Nat) (U:Nat→Value):Prop where
 h:∃ F,Sep w w' (vdF F ab U i)∧BufAt w' b 67108864 (vocW T i) F∧w'.heap[ab]?=some (.cells (fnA 3 U) 226)∧∀ j,j<i→BS w' (U j) (qk (secE T j))
def vocX (T:List TM):Nat→LB
 | 0=>vocW T 3
 | k+1=>vocX T k++qk (secE T k)
theorem q5o (T:List TM):vocX T 3=vocB T:=(qaa1 T).symm
theorem qm1 {qs:List Q4} (h:valE qs=0):(tmsQ qs).length≤4194304:=by
 have h1:=qrh qs;have h2:=qrf (trms qs).length (trms qs);have h3:=(qef h).1;have h4:(tmsQ qs).length=(tmsN (trms qs).length (trms qs)).length:=rfl;omega
theorem qvj {q:Q4} (h:qak q) {t:TM} (ht:t∈trQ q):TermOk t:=by
 unfold trQ at ht
 rcases List.mem_append.1 ht with ht|ht
 ·simp only [List.mem_cons,List.not_mem_nil,or_false] at ht
  rcases ht with rfl|rfl|rfl
  ·exact h 0
  ·exact h 1
  ·exact h 2
 ·split at ht
  ·cases ht
  ·simp only [List.mem_cons,List.not_mem_nil,or_false] at ht;subst ht;exact h 3
theorem CellsAt.heap {w:World} {b:Nat} {vs:List Value} {e:TypeId} (h:w.heap[b]?=some (.cells vs.toArray e)):CellsAt w b 0 vs:=by
 intro k v hv;rw [qa h,Nat.zero_add,List.getElem?_toArray];exact hv
theorem qia {L:List LB} (h:dicE L=0):(qk L).length≤70000000:=qnp (qfs h).n (qfs h).area
theorem qm8 {T:List TM}:∀ {i:Nat},i≤3→(∀ j,j<i→dicE (secE T j)=0)→(vocW T i).length≤10*i
 | 0,_,_=>Nat.le_refl _
 | i+1,h,hd=>by
  have h1:=qm8 (T:=T) (i:=i) Oo fun j hj=>hd j Oo
  have h2:=qia (hd i Oo);have h3:=qbe 9 (qk (secE T i)).length Oo;rw [vocW,zla];omega
theorem q1t {T:List TM}:∀ {i:Nat},i≤3→(∀ j,j<3→dicE (secE T j)=0)→(vocX T i).length≤30+70000000*i
 | 0,_,hd=>by have:=qm8 (T:=T) (i:=3) Oo hd;rw [vocX];omega
 | i+1,h,hd=>by
  have h1:=q1t (T:=T) (i:=i) Oo hd;have h2:=qia (hd i Oo);rw [vocX,zla];omega
theorem qwj (qs:List Q4) (A:oA) (n c:Nat) (w:World) (hS:SlAt qd 16 w A qs) (hn:qs.length=n) (hb:n≤140737488355328) (hq:∀ q∈qs,qak q) (hM:MaxLenAt w) (hT:CellsAt w 4 0 qa6) :
  Gv Tryz.prog 112 [.slice A n c,ii 67108864] w fun r w'=>VBuR qs w w' r:=by
 refine ze Tryz.func112 Tryz.ntmps112 ?_;refine zcv (qpi qs A n c w hS hn hb hq hM hT) ?_;rintro r w1 ⟨⟨i0,rfl⟩,he1⟩
 by_cases hE:valE qs=0
 ·have hlq:=(qef hE).1;have hNT:=qm1 hE;have hTE:=fun t (ht:t∈tmsQ qs)=>qdd hE ht
  have hTO:∀ t∈tmsQ qs,TermOk t:=fun t ht=>by
   obtain ⟨q,h1,h2⟩:=qdo.1 ht;exact qvj (hq q h1) h2
  unfold VBuR;rw [if_neg (fun g=>g hE)];rw [hE];refine zu ?_;refine ⟨fun tb w2 htb hw2=>?_⟩;have h0:Sep w w1 [rowF (.slice none 0 0),rowF (.slice none 0 0),rowF (.slice none 0 0)]:=(((Sep.of he1).add (F:=rowF (.slice none 0 0)) (Ext.refl w1) (fun k hk=>by cases hk)).add (F:=rowF (.slice none 0 0)) (Ext.refl w1) (fun k hk=>by cases hk)).add (F:=rowF (.slice none 0 0)) (Ext.refl w1) (fun k hk=>by cases hk);obtain ⟨h0,htab⟩:=h0.new htb hw2;have he2:Ext w w2:=h0.ext;clear htb hw2;(conv=>whnf);refine zcv (q1b qs A n c w2 (hS.ext he2) hn Oo) ?_;rintro r w3 ⟨B,rfl,hTS,hlo,he3⟩;have h0:Sep w w3 [[tb],rowF (.slice none 0 0),rowF (.slice none 0 0),rowF (.slice none 0 0),rowF (.slice B 0 0)]:=(h0.add he3 hlo).perm (List.perm_append_singleton (rowF (.slice B 0 0)) _).symm;have htab:=he3.get htab;generalize tmsQ qs=T at *;refine qm (fun i:Nat=>[(1,ii 67108864),(8,pp tb),(29,.slice B T.length T.length),(30,ii T.length),(31,ii i)])
   (fun i w'=>i≤T.length∧∃ V L,Sep w w' [[tb],rowF (V 0),rowF (V 1),rowF (V 2),rowF (.slice B 0 0)]∧w'.heap[tb]?=some (.cells (fnA 3 V) 291)∧(∀ j,j<3→w'.ownsRow 0 9 1 (V j) (L j).length (strV (L j)))∧(∀ j,j<3→L j=secA (T.take i) j)∧SlAt encT 4 w' B T) (fun i=>T.length-i) 0
   ⟨rfl,rfl,rfl,rfl,rfl,trivial⟩ ⟨Nat.zero_le _,fun _=>.slice none 0 0,fun _=>[],h0,htab,fun j _=>World.ownsRow_nil _ _ _ _,fun j _=>rfl,hTS⟩ ?_
  clear h0 htab hTS hlo;rintro i w4 ρ' ⟨i1,V,L,hSp,htab,hrow,hL,hTS⟩;(conv=>whnf);refine zC (fun _=>zw ?_) (fun _=>zw ?_)
  ·have hi:i<T.length:=by omega
   obtain ⟨t,et⟩:∃ t,t=T[i]:=⟨_,rfl⟩
   have htm:t∈T:=by rw [et];exact List.getElem_mem hi
   obtain ⟨tE,k1,k3⟩:=hTE t htm;obtain ⟨k,hk⟩:∃ k:Nat,t.kind=((k+1:Nat):Int):=⟨(t.kind-1).toNat,by omega⟩
   have hk3:k<3:=by omega
   refine ElemV.sl hTS rfl i rfl Oo ?_;intro eb eo hcell;rw [← et] at hcell;refine LoadA.cells hcell rfl (zw ?_);refine ⟨fun xb w5 hxb hw5=>?_⟩;have he5:Ext w4 w5:=by rw [hw5];exact (Ext.refl w4).alloc _
   obtain ⟨hSp,hxc⟩:=hSp.new hxb hw5;have htab:=he5.get htab;have hrow:=fun j hj=>qcg (hrow j hj) he5
   have hTS:=hTS.ext he5;clear hxb hw5;refine StoreA.blk hxc (by show 0+4≤4;decide) (qab t) ?_;intro w6 hc6 hx6;have hs6:=hSp.row (i:=0) (F':=[xb]) rfl hc6 fun j hj=>⟨.inl hj,by rw [List.mem_singleton.1 hj];exact qb2 hx6⟩
   have hVS:VbS w w6 B T xb tb t V V L:=⟨hs6.sep,hx6,by rw [hs6.keep 1 [tb] rfl Od tb (List.mem_singleton.2 rfl)];exact htab,fun j hj=>qao (hrow j hj) fun m hm=>hs6.keep (j+2) _ (qt9 xb tb V B hj) Oo m hm,hTS.keep (hs6.keep 5 _ rfl Oo)⟩
   clear hs6 hSp hc6 hx6 hxc htab hrow hTS;refine LoadA.cells (vs:=encT t) (CellsAt.heap hVS.tm) rfl (zw ?_);refine zcv (qes t (hTO t htm) w6 (hM.ext hVS.sep.ext) (hT.ext hVS.sep.ext)) ?_;rintro r w7 ⟨rfl,he7⟩;rw [if_pos tE];have hVS:=hVS.call he7;obtain ⟨Ak,ck,eV⟩:=qbp (hVS.row k hk3);refine DrawV.gen (fun S vals w'=>VbI w w7.drew B T xb tb t V L k (entA t) (S 7) (S 9) (S 10) (S 12) (vals 9) (vals 10) w') rfl Jk (fun vals=>.inl ⟨rfl,rfl,xr,hVS.call (Ext.refl w7).drew,fun h=>(by cases h)⟩) ?_;clear hVS;(conv=>whnf);refine zg ?_;refine StepG.of (ii t.kind) (fun S vals wd hk hp hI=>zw ?_) (zw ?_)
   ·refine LoadV.own hI.tm rfl (zw ?_);exact ⟨rfl,hI⟩
   refine zg ?_;refine zg ?_;refine StepG.of (ii t.kind) (fun S vals wd hk hp hI=>zw ?_) (zw ?_)
   ·refine LoadV.own hI.tm rfl (zw ?_);exact ⟨rfl,hI⟩
   refine zg ?_;refine StepG.of (.pointer (some ⟨tb,k,none⟩)) (fun S vals wd hk hp hI=>zw ?_) ?_
   ·refine ⟨k,by omega,hk3,?_⟩;(conv=>whnf);exact ⟨by simp [show tsz Tryz.prog 159=1 from by kernel_rfl];rfl,hI⟩
   refine StepG.of (.slice Ak (L k).length ck) (fun S vals wd hk hp hI=>?_) (zw ?_)
   ·dsimp only at hI;rw [hk] at hI;refine LoadV.own hI.tab (by rw [qa7 3 V k hk3,eV]) (zw ?_);exact ⟨rfl,hI.seven⟩
   refine zg ?_;refine StepG.any (fun S vals wd hk hp hI=>?_) ?_
   ·dsimp only at hI;rw [hk] at hI;(conv=>whnf);refine ⟨fun b w' hb hw=>?_⟩;(conv=>whnf);exact ⟨trivial,hI.nine hb hw⟩
   refine StepG.any (fun S vals wd hk hp hI=>?_) ?_
   ·dsimp only at hI;have h9:S 9=true:=hp 9 Od;rw [hk,h9] at hI;obtain ⟨h12,hVS,nb,hv,hnb⟩:=hI.ten;have hr:=hVS.row k hk3;rw [eV] at hr;have hlk:(L k).length≤4194304:=by rw [hL k hk3];exact Nat.le_trans (qty _ _) (by rw [List.length_take];omega)
    rw [qbk hv];refine AppV.cell qadt strI strZ Jk rfl (by decide +kernel) hr hnb rfl Oo ?_;intro A' c' w8 ho hch hnew;rw [← eV] at hch hnew;exact ⟨trivial,.inr (.inl ⟨h9,rfl,h12,A',c',rfl,hVS.app hk3 ho hch hnew⟩)⟩
   refine StepG.of (.pointer (some ⟨tb,k,none⟩)) (fun S vals wd hk hp hI=>zw ?_) ?_
   ·refine ⟨k,by omega,hk3,?_⟩;(conv=>whnf);exact ⟨by simp [show tsz Tryz.prog 159=1 from by kernel_rfl];rfl,hI⟩
   refine StepG.any (fun S vals wd hk hp hI=>?_) ?_
   ·dsimp only at hI;have h10:S 10=true:=hp 10 Od;have h7:S 7=true:=hp 7 Od;rw [hk,h10] at hI;obtain ⟨h9,A',c',hv,hVS⟩:=hI.twelve;rw [qbk hv];have e1:updF V k (.slice A' ((L k).length+1) c') k=.slice A' ((L k).length+1) c':=qaz _ _ _;have hst:=fun (K:World→Prop) h1 hK=>hVS.store (K:=K) hk3 h1 hK
    rw [e1] at hst;refine hst _ rfl ?_;intro w8 hVS;exact ⟨trivial,.inr (.inr ⟨h7,h9,h10,rfl,A',c',hVS⟩)⟩
   intro vals w8 hI;obtain ⟨A',c',hVS⟩:=hI.end_;clear hI;refine zu ?_;have etk:T.take (i+1)=T.take i++[t]:=by rw [List.take_add_one,zge hi,← et];rfl
   refine ⟨i+1,⟨rfl,rfl,rfl,rfl,rfl,trivial⟩,⟨by omega,_,_,hVS.sep.drop 1,hVS.tab,hVS.row,fun j hj=>?_,hVS.src⟩,by omega⟩
   by_cases e:j=k
   ·subst e;rw [addL,if_pos rfl,hL j hj,etk,q4m hk]
   ·rw [addL,if_neg e,hL j hj,etk,q0s Oo]
  ·obtain rfl:i=T.length:=by omega
   rw [List.take_length] at hL;have he4:=hSp.ext;refine zcv (qeh 67108864 w4) ?_;rintro r w5 ⟨b,rfl,he5,hb5,hB⟩;have hB:BufAt w5 b 67108864 (vocW T 0) [b]:=hB;(conv=>whnf);refine ⟨fun ab w6 hab hw6=>?_⟩;have he6:Ext w5 w6:=by rw [hw6];exact (Ext.refl w5).alloc _
   have hSb:Sep w4 w5 [[b]]:=(Sep.of (Ext.refl w4)).add he5 fun k hk=>by rw [List.mem_singleton.1 hk];exact ⟨hb5,hB.lt b (List.mem_singleton.2 rfl)⟩
   obtain ⟨hSb,hac⟩:=hSb.new hab hw6;have hB:=hB.call he6;have hSv:Sep w4 w6 (vdF [b] ab (fun _=>.slice none 0 0) 0):=hSb.perm (List.Perm.swap _ _ _);have hac:w6.heap[ab]?=some (.cells (fnA 3 fun _=>.slice none 0 0) 226):=hac;clear hSb hab hw6;refine qm (fun i:Nat=>[(8,pp tb),(13,pp b),(14,pp ab),(55,ii i)])
    (fun i w'=>i≤3∧(∀ j,j<i→dicE (secE T j)=0)∧∃ U,VdS T w4 w' b ab i U) (fun i=>3-i) 0 ⟨rfl,rfl,rfl,rfl,trivial⟩ ⟨by omega,fun j h=>by omega,_,⟨⟨[b],hSv,hB,hac,fun j h=>by omega⟩⟩⟩ ?_
   clear hSv hB hac;rintro i w7 ρ2 ⟨j1,hD,U,⟨F,hSv,hB,hac,hbs⟩⟩;have he7:=hSv.ext;(conv=>whnf);refine zC (fun _=>zu ?_) (fun _=>zu ?_)
   ·have hi3:i<3:=by omega
    obtain ⟨Ai,ci,eV⟩:=qbp (hrow i hi3);have hro:=hrow i hi3;rw [eV] at hro;have hss:SlAt zeS 1 w7 Ai (L i):=SlAt.ext (qzz hro rfl) he7;have hli:(L i).length≤4194304:=by rw [hL i hi3];exact Nat.le_trans (qty _ _) hNT
    refine LoadV.own (he7.get htab) (v:=.slice Ai (L i).length ci) (by
     rw [show (0+i*tsz Tryz.prog 159)=i by rw [show tsz Tryz.prog 159=1 from by kernel_rfl];omega];rw [qa7 3 V i hi3,eV]) ?_
    (conv=>whnf);refine zcv (qup (L i) Ai (L i).length ci w7 hss rfl Oo) ?_;rintro r w8 hR;rw [hL i hi3,q4n] at hR
    rcases hR with ⟨h0,rfl,he8⟩|⟨h0,v,rfl,hN⟩
    ·have hve:=q5n hi3 hD h0;refine zu ?_;exact .inl ⟨_,h0,by rw [if_pos (by rw [hve];exact h0),hve],rfl,(he4.trans he7).trans he8⟩
    ·obtain ⟨Av,cv,ev,hcv,_⟩:=hN.bs;have hlen:=qia h0;subst ev;refine zu ?_;have hB:=hB.call hN.ext;have hSv:=qaax hSv hN.ext hN.lo;have hac:=hN.ext.get hac;refine StoreV.own hac (by rw [qa1,show tsz Tryz.prog 32=1 from by kernel_rfl];omega) rfl ?_;intro w9 hw9;obtain ⟨hc9,hg9⟩:=Chn.set hac hw9;have hs9:=hSv.row (i:=1) (F':=[ab]) rfl hc9 fun j hj=>⟨.inl hj,by rw [List.mem_singleton.1 hj];exact qb2 hg9⟩
     have hB:=hB.keep (hs9.keep 0 F rfl Od);have hbs9:∀ j,j<i+1→BS w9 (updF U i (.slice Av (qk (secE T i)).length cv) j) (qk (secE T j)):=fun j hj=>by
      by_cases e:j=i
      ·subst e;rw [qaz];refine BS.keep hN.bs fun k hk=>?_;have:=hs9.keep (j+2) _ (qpj F ab (updF U j (.slice Av (qk (secE T j)).length cv)) (Nat.lt_succ_self j)) Oo k;rw [qaz] at this;exact this hk
      ·rw [q6 _ _ _ _ e];refine BS.keep (BS.ext (hbs j Oo) hN.ext) fun k hk=>?_;have:=hs9.keep (j+2) _ (qpj F ab (updF U i (.slice Av (qk (secE T i)).length cv)) hj) Oo k;rw [q6 _ _ _ _ e] at this;exact this hk
     rw [qdl,show (0+i*tsz Tryz.prog 32)=i by rw [show tsz Tryz.prog 32=1 from by kernel_rfl];omega] at hg9;clear hw9 hc9;refine zu ?_;have hvl:=qbe 9 (qk (secE T i)).length Oo;have hvw:=qm8 (T:=T) (i:=i) Oo hD;refine zcv (qbs b 67108864 _ (qk (secE T i)).length F w9 hB Oo Od Oo) ?_;rintro r w10 ⟨rfl,hC⟩;obtain ⟨F10,hs10,hB⟩:=hs9.sep.buf (i:=0) rfl hC;have hg10:w10.heap[ab]?=some (.cells (fnA 3 (updF U i (.slice Av (qk (secE T i)).length cv))) 226):=by rw [hs10.keep 1 [ab] rfl Od ab (List.mem_singleton.2 rfl)];exact hg9
     refine zu ?_;refine ⟨i+1,⟨rfl,rfl,rfl,rfl,trivial⟩,⟨by omega,fun j hj=>?_,_,⟨⟨F10,hs10.sep,hB,hg10,fun j hj=>BS.keep (hbs9 j hj) fun k hk=>hs10.keep (j+2) _ (qpj F ab _ hj) Oo k hk⟩⟩⟩,by omega⟩
     by_cases e:j=i
     ·subst e;exact h0
     ·exact hD j Oo
   ·obtain rfl:i=3:=by omega
    have hve:qc7 T=0:=qub fun k hk=>hD k hk
    rw [if_neg (fun g=>g hve)];have hdl:=fun k (hk:k<3)=>qia (hD k hk)
    have hvw:=qm8 (T:=T) (i:=3) Oo hD;obtain ⟨A0,c0,e0,hc0,hs0⟩:=hbs 0 Od;obtain ⟨A1,c1,e1,hc1,hs1⟩:=hbs 1 Od;obtain ⟨A2,c2,e2,hc2,hs2⟩:=hbs 2 Od;have hcs:CellsAt w7 ab 0 [.slice A0 (qk (secE T 0)).length c0,.slice A1 (qk (secE T 1)).length c1,.slice A2 (qk (secE T 2)).length c2]:=by
     intro k v hv;rw [qa hac,Nat.zero_add]
     match k,hv with
     | 0,hv=>cases hv;rw [qa7 3 U 0 Od,e0]
     | 1,hv=>cases hv;rw [qa7 3 U 1 Od,e1]
     | 2,hv=>cases hv;rw [qa7 3 U 2 Od,e2]
     | k+3,hv=>cases hv
    refine LoadA.cells hcs rfl ?_;have hSk:∀ j,j<3→(vdF F ab U 3)[j+2]?=some (rowF (U j)):=fun j hj=>qpj F ab U hj
    refine qm (fun i:Nat=>[(13,pp b),(77,.agg #[.slice A0 (qk (secE T 0)).length c0,.slice A1 (qk (secE T 1)).length c1,.slice A2 (qk (secE T 2)).length c2]),(78,ii i)])
     (fun i w'=>i≤3∧∃ F',Sep w4 w' (vdF F' ab U 3)∧BufAt w' b 67108864 (vocX T i) F'∧∀ j,j<3→BS w' (U j) (qk (secE T j))) (fun i=>3-i) 0 ⟨rfl,rfl,rfl,trivial⟩ ⟨by omega,F,hSv,hB,hbs⟩ ?_
    clear hcs hs0 hs1 hs2 hac hB hSv hbs;rintro i w8 ρ3 ⟨k1,F8,hSv,hB,hbs⟩;have hvx:=q1t (T:=T) (i:=i) Oo hD;(conv=>whnf);refine zC (fun _=>zu ?_) (fun _=>zu ?_)
    ·have hi3:i<3:=by omega
     obtain ⟨Ai,ci,ei,hci,hsi⟩:=hbs i hi3;have hget:[Value.slice A0 (qk (secE T 0)).length c0,.slice A1 (qk (secE T 1)).length c1,.slice A2 (qk (secE T 2)).length c2][i]?=some (.slice Ai (qk (secE T i)).length ci):=by
      rw [← ei]
      rcases (show i=0∨i=1∨i=2 by omega) with rfl|rfl|rfl
      ·rw [e0];rfl
      ·rw [e1];rfl
      ·rw [e2];rfl
     have hdi:=hdl i hi3;refine ⟨.slice Ai (qk (secE T i)).length ci,by rw [show i*tsz Tryz.prog 32=i by rw [show tsz Tryz.prog 32=1 from by kernel_rfl];omega];exact hget,?_⟩;(conv=>whnf);refine zcv (qcr b 67108864 _ (qk (secE T i)) F8 Ai (qk (secE T i)).length ci w8 hB hsi rfl Od Oo) ?_;rintro r w9 ⟨rfl,hC⟩;obtain ⟨F9,hs9,hB⟩:=hSv.buf (i:=0) rfl hC;refine zu ?_;exact ⟨i+1,⟨rfl,rfl,rfl,trivial⟩,⟨by omega,F9,hs9.sep,hB,fun j hj=>BS.keep (hbs j hj) fun k hk=>hs9.keep (j+2) _ (qpj F8 ab U hj) Oo k hk⟩,by omega⟩
    ·obtain rfl:i=3:=by omega
     rw [q5o] at hB hvx;refine zcv (qcj b 67108864 _ F8 w8 hB Oo) ?_;rintro r w9 (⟨hbig,rfl,rfl⟩|⟨hle,v,rfl,hN⟩)
     ·(conv=>whnf);exact .inl ⟨1,by decide,by rw [if_pos hbig],rfl,he4.trans hSv.ext⟩
     ·obtain ⟨A9,c9,ev9,_⟩:=id hN.h;subst ev9;(conv=>whnf);exact .inr ⟨rfl,hve,hle,_,rfl,hN.back (he4.trans hSv.ext)⟩
 ·have h0:¬ ((valE qs:Nat):Int)=0:=by omega
  refine zu ?_;exact .inl ⟨valE qs,hE,by rw [if_pos hE],rfl,he1⟩
def ovr (x:LB) (p:Nat) (y:LB):LB:=x.take p++(y++x.drop (p+y.length))
theorem qdp {x y:LB} {p:Nat} (h:p+y.length≤x.length):(ovr x p y).length=x.length:=by
 grind [ovr]
theorem qjg {x y:LB} {p j:Nat} (h:p≤x.length) (hj:j<y.length):(ovr x p y)[p+j]?=y[j]?:=by
 grind [ovr]
theorem qfd {x y:LB} {p j:Nat} (h:p+y.length≤x.length) (hj:j<p∨p+y.length≤j):(ovr x p y)[j]?=x[j]?:=by
 have e:(x.take p).length=p:=by grind
 rcases hj with hj|hj
 ·grind [ovr]
 ·rw [ovr,List.getElem?_append_right Oo,e,List.getElem?_append_right Oo,List.getElem?_drop]
  grind
theorem qqk (x:LB) (p:Nat):ovr x p []=x:=by grind [ovr,List.take_append_drop]
theorem q8y {x y:LB} {p i:Nat} (h:p+y.length≤x.length) (hi:i<y.length):(ovr x p (y.take i)).set (p+i) (y.getD i 0)=ovr x p (y.take (i+1)):=by
 have l1:(y.take i).length=i:=by grind
 have l2:(y.take (i+1)).length=i+1:=by grind
 refine List.ext_getElem? fun j=>?_;rw [List.getElem?_set]
 split
 ·grind [qdp,qjg]
 ·rename_i e
  rcases Nat.lt_or_ge j p with g|g
  ·grind [qfd]
  ·obtain ⟨k,rfl⟩:∃ k,j=p+k:=⟨j-p,by omega⟩
   rcases Nat.lt_or_ge k i with z|z
   ·rw [qjg Oo Oo,qjg Oo Oo,List.getElem?_take_of_lt z,List.getElem?_take_of_lt Oo]
   ·rw [qfd Oo (.inr Oo),qfd Oo (.inr Oo)]
theorem q7d (l:LB) (j:Nat) (b:UInt8):(byV l).set j (.int .u8 b.toNat)=byV (l.set j b):=by
 rw [byV,byV,List.map_set]
section
variable {d:LB} {n:Nat} (hn:n≤67108864) (hd:d.length=upN n 8) (hp:¬ PadB d n)
include hn hd hp
theorem qpk {x:Nat × Nat × Nat} (hx:x∈dirD d (upN n 8)):qi n≤plD n x∧plD n x+szD x≤qba n (cnt d n)∧((qac d n).drop (plD n x)).take (szD x)=fixL x.2.2 (szD x)∧x.2.2<256 ^ szD x:=by
 grind [q7s,qj4,qgk,qci,qet]
omit hp in
theorem qrq {i:Nat} (h1:qi n≤i) (h2:i<qba n (cnt d n)):∃ x∈dirD d (upN n 8),plD n x≤i∧i<plD n x+szD x:=by
 have h:=qxn (l:=qac d n) (qj4 hn hd) (by grind [qgk,qci,qet]) (i:=i) (by grind [qci]) (by grind [qci,qet])
 grind [qgk,qci]
omit hn hp in
theorem qct:(qac d n).length=qba n (cnt d n):=by
 grind [qeg,qba,qam,qz,qi]
end
structure Par (d:LB) (n:Nat) (L:List (Nat × Nat × Nat)) (x:LB):Prop where
 len:x.length=(qac d n).length
 eq:∀ j,j<x.length→(j<qi n∨∃ y∈L,plD n y≤j∧j<plD n y+szD y)→x[j]?=(qac d n)[j]?
section
variable {d:LB} {n:Nat} (hn:n≤67108864) (hd:d.length=upN n 8) (hp:¬ PadB d n)
include hn hd
theorem Par.put {L:List (Nat × Nat × Nat)} {x:LB} (h:Par d n L x) {y:Nat × Nat × Nat} (hp:¬ PadB d n) (hy:y∈dirD d (upN n 8)):Par d n (L++[y]) (ovr x (plD n y) (fixL y.2.2 (szD y))):=by
 obtain ⟨h1,h2,h3,h4⟩:=qpk hn hd hp hy;have hl:=h.len;rw [qct hd] at hl;have hf:(fixL y.2.2 (szD y)).length=szD y:=qh _ _;have hfit:plD n y+(fixL y.2.2 (szD y)).length≤x.length:=by omega
 refine ⟨by rw [qdp hfit];exact h.len,fun j hj ho=>?_⟩;rw [qdp hfit] at hj
 by_cases g:plD n y≤j∧j<plD n y+szD y
 ·obtain ⟨k,rfl⟩:∃ k,j=plD n y+k:=⟨j-plD n y,by omega⟩
  rw [qjg Oo Oo,← h3,List.getElem?_take_of_lt Oo,List.getElem?_drop]
 ·rw [qfd hfit Oo];refine h.eq j hj (ho.imp id ?_)
  grind
theorem Par.all {x:LB} (h:Par d n (dirD d (upN n 8)) x):x=qac d n:=by
 refine List.ext_getElem? fun j=>?_
 rcases Nat.lt_or_ge j x.length with g|g
 ·refine h.eq j g ?_;have hl:=h.len
  grind [qct,qrq]
 ·rw [List.getElem?_eq_none g,List.getElem?_eq_none (by rw [← h.len];exact g)]
omit hn in
theorem Par.start {z:LB} (hz:z.length=(qac d n).length):Par d n [] (ovr (ovr (ovr z 0 (fixL n 4)) 4 (fixL (cnt d n) 4)) 8 d):=by
 have hw:=qct hd (n:=n);have hw2:qba n (cnt d n)=qi n+4*upN n 2048+2*upN n 256+4*upN (cnt d n) 512:=rfl;have hg:qi n=8+upN n 8:=rfl;have f1:(fixL n 4).length=4:=qh _ _;have f2:(fixL (cnt d n) 4).length=4:=qh _ _;have l1:(ovr z 0 (fixL n 4)).length=z.length:=qdp Oo;have l2:(ovr (ovr z 0 (fixL n 4)) 4 (fixL (cnt d n) 4)).length=z.length:=by grind [qdp]
 have l3:(ovr (ovr (ovr z 0 (fixL n 4)) 4 (fixL (cnt d n) 4)) 8 d).length=z.length:=by grind [qdp]
 have hW:qac d n=fixL n 4++(fixL (cnt d n) 4++(d++(gL d n++(sL d n++mL d n)))):=by grind [qac]
 refine ⟨by rw [l3,hz],fun j hj ho=>?_⟩
 rcases ho with ho|⟨y,hy,_⟩
 ·rw [hW]
  rcases Nat.lt_or_ge j 4 with g|g
  ·rw [qfd Oo (.inl Oo),qfd Oo (.inl Oo),List.getElem?_append_left Oo];have:=qjg (x:=z) (y:=fixL n 4) (p:=0) (j:=j) (Nat.zero_le _) Oo
   simp_all
  rw [List.getElem?_append_right Oo,f1]
  rcases Nat.lt_or_ge j 8 with g2|g2
  ·rw [qfd Oo (.inl Oo),List.getElem?_append_left Oo];obtain ⟨k,rfl⟩:∃ k,j=4+k:=⟨j-4,by omega⟩
   rw [qjg Oo Oo,Nat.add_sub_cancel_left]
  ·rw [List.getElem?_append_right Oo,f2];obtain ⟨k,rfl⟩:∃ k,j=8+k:=⟨j-8,by omega⟩
   rw [qjg Oo Oo,show 8+k-4-4=k by omega,List.getElem?_append_left Oo]
 ·cases hy
end
theorem addM (b o n:Nat):Option.map (fun x:Addr=>x.add n) (some ⟨b,o,none⟩)=some ⟨b,o+n,none⟩:=by rw [Option.map_some,q7]
theorem qnv (v:Nat):∀ {m i:Nat},i≤m→(fixL v m).take i=fixL v i
 | 0,i,h=>by
  obtain rfl:i=0:=by omega
  rfl
 | m+1,i,h=>by
  rcases Nat.lt_or_ge i (m+1) with g|g
  ·rw [fixL,List.take_append_of_le_length (by rw [qh];omega),qnv v Oo]
  ·obtain rfl:i=m+1:=by omega
   exact List.take_of_length_le (by rw [qh];exact Nat.le_refl _)
theorem qx3 (v:Nat) {m i:Nat} (h:i<m):(fixL v m).getD i 0=UInt8.ofNat (v/2 ^ (8*i)%256):=by
 have h1:=qnv v (m:=m) (i:=i+1) h;have h2:(fixL v (i+1))[i]?=some (UInt8.ofNat (v/2 ^ (8*i)%256)):=by
  rw [fixL,List.getElem?_append_right (by rw [qh];exact Nat.le_refl _),qh,Nat.sub_self];rfl
 rw [← h1,List.getElem?_take_of_lt (Nat.lt_succ_self i)] at h2;rw [List.getD_eq_getElem?_getD,h2];rfl
theorem qf8 (x:LB) (b p len cap v m:Nat) (w:World) (hb:w.heap[b]?=some (.cells (byV x).toArray 5)) (hfit:p+m≤x.length) (hlen:m≤len) (_:v<4611686018427387904) (hm:m≤4) :
  Gv Tryz.prog 267 [.slice (some ⟨b,p,none⟩) len cap,ii v,ii m] w fun r w'=>r=.tuple #[]∧Chn [b] w w'∧w'.heap[b]?=some (.cells (byV (ovr x p (fixL v m))).toArray 5):=by
 refine ze Tryz.func267 Tryz.ntmps267 ?_;refine qm (fun i:Nat=>[(0,.slice (some ⟨b,p,none⟩) len cap),(1,ii v),(7,ii m),(8,ii i)])
  (fun i w'=>i≤m∧Chn [b] w w'∧w'.heap[b]?=some (.cells (byV (ovr x p ((fixL v m).take i))).toArray 5)) (fun i=>m-i) 0 ⟨rfl,rfl,rfl,rfl,trivial⟩ ⟨Nat.zero_le _,Chn.refl _ _,by rw [List.take_zero,qqk];exact hb⟩ ?_
 rintro i w1 ρ' ⟨i1,hc,hb1⟩;(conv=>whnf);refine zC (fun _=>zu ?_) (fun _=>zu ?_)
 ·have hi:i<m:=by omega
  have hl:(fixL v m).length=m:=qh _ _;have hol:(ovr x p ((fixL v m).take i)).length=x.length:=qdp (by rw [List.length_take];omega);refine V.Wit.shrN (8*i) Oo (by show 8*i<64;omega) (zw ?_);refine V.Wit.low8 (zw ?_);refine ⟨⟨b,p,i,rfl,rfl,by omega,?_⟩⟩;rw [show tsz Tryz.prog 5=1 from by kernel_rfl,Nat.mul_one];(conv=>whnf);refine StoreV.own hb1 (by rw [List.size_toArray,qas,hol];omega) rfl ?_;intro w2 hw;obtain ⟨hc2,hb2⟩:=Chn.set hb1 hw;have e:((byV (ovr x p ((fixL v m).take i))).toArray.setIfInBounds (p+i) (.int .u8 (v/2 ^ (8*i)%256:Nat)))=(byV (ovr x p ((fixL v m).take (i+1)))).toArray:=by
   rw [← q8y Oo Oo,qx3 v hi,← q7d];have e8:(UInt8.ofNat (v/2 ^ (8*i)%256)).toNat=v/2 ^ (8*i)%256:=by simp
   rw [e8];simp
  have hb2:w2.heap[b]?=some (.cells ((byV (ovr x p ((fixL v m).take i))).toArray.setIfInBounds (p+i) (.int .u8 (v/2 ^ (8*i)%256:Nat))) 5):=hb2;rw [e] at hb2;refine zu ?_;exact ⟨i+1,⟨rfl,rfl,rfl,rfl,trivial⟩,⟨by omega,hc.trans hc2,hb2⟩,by omega⟩
 ·obtain rfl:i=m:=by omega
  rw [List.take_of_length_le (by rw [qh];exact Nat.le_refl _)] at hb1;exact ⟨rfl,hc,hb1⟩
def q32 (n m:Nat):Obj:=.cells (cutV n m).toArray 376
def RbI (d:LB) (n:Nat) (w0:World) (vb ob pb:Nat) (L:List (Nat × Nat × Nat)) (w:World):Prop:=
 ∃ x,Par d n L x∧Mem w0 w [(ob,.cells (byV x).toArray 5),(vb,.cells #[.slice (some ⟨ob,0,none⟩) (qac d n).length (qac d n).length] 32),(pb,q32 n (cnt d n))]
theorem qqr (d:LB) (n:Nat) (w0:World) (vb ob pb:Nat) (L:List (Nat × Nat × Nat)) (x:Nat × Nat × Nat) (w:World) (hn:n≤67108864) (hd:d.length=upN n 8) (hp:¬ PadB d n) (hI:RbI d n w0 vb ob pb L w) (hx:x∈dirD d (upN n 8)) :
  Gv Tryz.prog 269 [ii x.1,ii x.2.1,ii x.2.2,pp vb,pp pb] w fun r w'=>r=.bool true∧RbI d n w0 vb ob pb (L++[x]) w':=by
 obtain ⟨y,hy,hm⟩:=hI;have hk:=qxm hx;obtain ⟨q1,q2,_,q4⟩:=qpk hn hd hp hx;have hyp:=Par.put hn hd hy hp hx;have hyl:=hy.len;rw [qct hd] at hyl;have u1:=qbi n 8 Od;have u2:=qbi n 2048 Od;have u3:=qbi n 256 Od;have u4:=qbi (cnt d n) 512 Od;have u5:=qd0 d n;have g1:qi n=8+upN n 8:=rfl;have g2:qz n=qi n+4*upN n 2048:=rfl;have g3:qam n=qz n+2*upN n 256:=rfl;have g4:qba n (cnt d n)=qam n+4*upN (cnt d n) 512:=rfl;have hwl:(qac d n).length=qba n (cnt d n):=qct hd;have t1:tsz Tryz.prog 5=1:=by kernel_rfl
 obtain ⟨k,j,v⟩:=x;dsimp only at hk q1 q2 q4 hyp ⊢;have hbo:=hm.get mh;rw [hwl] at hm;obtain ⟨W,eW⟩:∃ W,W=qba n (cnt d n):=⟨_,rfl⟩
 rw [← eW] at hm q2 hyl;have fin:∀ w1,Chn [ob] w w1→w1.heap[ob]?=some (.cells (byV (ovr y (plD n (k,j,v)) (fixL v (szD (k,j,v))))).toArray 5)→RbI d n w0 vb ob pb (L++[(k,j,v)]) w1:=fun w1 hc hb=>⟨_,hyp,by
  have:=hm.upd (i:=0) rfl (hc.upd_ hb);rw [hwl,← eW];exact this⟩
 refine ze Tryz.func269 Tryz.ntmps269 ?_
 (repeat' refine zC (fun _=>zw ?_) (fun _=>zw ?_))
 ·obtain rfl:k=2048:=by omega
  have hP:plD n (2048,j,v)=qi n+4*j:=rfl;have hZ:szD (2048,j,v)=4:=rfl;rw [hP,hZ] at fin q2;rw [hZ] at q4;refine zr hm 1 ?_;refine zr hm 2 ?_;refine zv ?_;refine SliceV.to (qi n+4*j) W W (qll Oo) rfl rfl Oo znr znr (fun h=>(by cases h)) ?_;rw [if_neg Oo];(conv=>whnf);rw [t1,Nat.mul_one,addM,Nat.zero_add];refine zcv (qf8 y ob (qi n+4*j) (W-(qi n+4*j)) (W-(qi n+4*j)) v 4 w hbo Oo Oo Oo Od) ?_;rintro r w1 ⟨rfl,hc,hb1⟩;(conv=>whnf);exact ⟨rfl,fin w1 hc hb1⟩
 ·obtain rfl:k=256:=by omega
  have hP:plD n (256,j,v)=qz n+2*j:=rfl;have hZ:szD (256,j,v)=2:=rfl;rw [hP,hZ] at fin q2;rw [hZ] at q4;refine zr hm 1 ?_;refine zr hm 2 ?_;refine zv ?_;refine SliceV.to (qz n+2*j) W W (qll Oo) rfl rfl Oo znr znr (fun h=>(by cases h)) ?_;rw [if_neg Oo];(conv=>whnf);rw [t1,Nat.mul_one,addM,Nat.zero_add];refine zcv (qf8 y ob (qz n+2*j) (W-(qz n+2*j)) (W-(qz n+2*j)) v 2 w hbo Oo Oo Oo Od) ?_;rintro r w1 ⟨rfl,hc,hb1⟩;(conv=>whnf);exact ⟨rfl,fin w1 hc hb1⟩
 ·obtain rfl:k=512:=by omega
  have hP:plD n (512,j,v)=qam n+4*j:=rfl;have hZ:szD (512,j,v)=4:=rfl;rw [hP,hZ] at fin q2;rw [hZ] at q4;refine zr hm 1 ?_;refine zr hm 2 ?_;refine zv ?_;refine SliceV.to (qam n+4*j) W W (qll Oo) rfl rfl Oo znr znr (fun h=>(by cases h)) ?_;rw [if_neg Oo];(conv=>whnf);rw [t1,Nat.mul_one,addM,Nat.zero_add];refine zcv (qf8 y ob (qam n+4*j) (W-(qam n+4*j)) (W-(qam n+4*j)) v 4 w hbo Oo Oo Oo Od) ?_;rintro r w1 ⟨rfl,hc,hb1⟩;(conv=>whnf);exact ⟨rfl,fin w1 hc hb1⟩
theorem qw4 (n:Nat):qcv [Value.int .u8 0] n=byV (List.replicate n 0):=by
 induction n with
 | zero=>rfl
 | succ n ih=>rw [qcv,ih,List.replicate_succ];rfl
theorem qsg {w:World} {ob p len cap l c:Nat} {A:oA} {x d:LB} (hb:w.heap[ob]?=some (.cells (byV x).toArray 5)) (hS:SlAt encB 1 w A d) (hl:d.length=l) (hfit:p+d.length≤x.length) (hlen:d.length≤len) :
  ∃ w',(Builtin.copy_ #[32,32] 3 #[.slice (some ⟨ob,p,none⟩) len cap,.slice A l c]).run Tryz.prog w=.ok (goInt l) w'∧Chn [ob] w w'∧w'.heap[ob]?=some (.cells (byV (ovr x p d)).toArray 5):=by
 have hu:Tryz.prog.underlying 32=some (.slice 5):=Tryz.underlying32;have hsz:(Tryz.prog.info? 5).map (·.size)=some 1:=by kernel_rfl
 rcases Nat.eq_zero_or_pos l with h0|h0
 ·have e0:d=[]:=List.eq_nil_of_length_eq_zero Oo;subst h0 e0;refine ⟨w,run_copy_none (P:=Tryz.prog) w 32 32 3 5 (some ⟨ob,p,none⟩) A len cap 0 c hu hsz (Nat.zero_min len),Chn.refl _ _,by rw [qqk];exact hb⟩
 ·obtain ⟨gb,go,eA,hca⟩:=hS.at_ (by intro e;rw [e] at hl;simp at hl;omega);subst eA;have hcp:=run_copy_row (P:=Tryz.prog) w 32 32 3 5 ob p len cap ⟨gb,go,none⟩ l c _ 5 (byV d) hu hsz hb (by rw [qas,hl];exact (Nat.min_eq_left Oo).symm) (fun j v hv=>by
   rw [byV,List.getElem?_map] at hv;obtain ⟨x,hx,rfl⟩:=Option.map_eq_some_iff.1 hv;have h1:=hca j x hx 0 _ rfl;rw [Nat.mul_one,Nat.add_zero] at h1;have ea:(⟨gb,go,none⟩:Addr).add j=⟨gb,go+j,none⟩:=by unfold Addr.add;split<;>simp_all
   rw [ea];exact h1) (by rw [qas,List.size_toArray,qas];omega) (fun v hv=>by
   obtain ⟨x,_,rfl⟩:=List.mem_map.1 hv;rfl)
  obtain ⟨h2,h3⟩:=qhf (cs:=((byV x).toArray.toList.take p++byV d++(byV x).toArray.toList.drop (p+(byV d).length)).toArray) hb;have e:goInt (((byV d).length:Nat):Int)=goInt ((l:Nat):Int):=by rw [qas,hl]
  rw [e] at hcp;refine ⟨_,hcp,h2,?_⟩;rw [h3]
  congr 3
  rw [qas,ovr];simp [byV,List.map_take,List.map_drop]
theorem qvk (d:LB) (A:oA) (l c n:Nat) (w:World) (hS:SlAt encB 1 w A d) (hl:d.length=l) (hd:d.length=upN n 8) (hn:n≤67108864) (hp:¬ PadB d n) :
  Gv Tryz.prog 194 [.slice A l c,ii n] w fun r w'=>∃ v,r=.tuple #[v,ii 0]∧NewS 5 w w' v (qac d n):=by
 have hu:upN n 8=(n+7)/8:=rfl;have u1:=qbi n 8 Od;have u2:=qbi n 2048 Od;have u3:=qbi n 256 Od;have u4:=qbi (cnt d n) 512 Od;have u5:=qd0 d n;have g1:qi n=8+upN n 8:=rfl;have g2:qz n=qi n+4*upN n 2048:=rfl;have g3:qam n=qz n+2*upN n 256:=rfl;have g4:qba n (cnt d n)=qam n+4*upN (cnt d n) 512:=rfl;have hwl:(qac d n).length=qba n (cnt d n):=qct hd;have hup:=fun w=>qpf n 8 w
 have t1:tsz Tryz.prog 5=1:=by kernel_rfl
 refine ze Tryz.func194 Tryz.ntmps194 ?_;refine zv ?_;refine zcv (hup w Oo Od Od) ?_;rintro r w1 ⟨rfl,rfl⟩;refine zu ?_;refine zcv (hup w1 Oo Od Od) ?_;rintro r w2 ⟨rfl,rfl⟩;refine zu ?_;refine zcv (qvd d A l c n w2 hS hl hd hn) ?_;rintro r w3 ⟨⟨bb,rfl,hbb⟩,rfl⟩;obtain rfl:bb=true:=hbb.2 hp;refine zu ?_;refine zcv (qxh d A l c w3 hS hl Oo) ?_;rintro r w4 ⟨rfl,rfl⟩;have hcn:cnt d (8*d.length)=cnt d n:=q7n hp Oo znr;rw [hcn];(conv=>whnf);refine zcv (qpt n (cnt d n) w4 hn Oo) ?_;rintro r w5 ⟨rfl,he5⟩;(conv=>whnf);refine znm ((Mem.nil w4).call he5) fun pb w6 hm=>zw ?_;refine StoreA.all (vs:=cutV n (cnt d n)) hm (i:=0) rfl rfl (by simp [cutV,Value.oneCell']) ?_;intro w7 hm;have hm:Mem w4 w7 [(pb,q32 n (cnt d n))]:=hm;(conv=>whnf);refine zr hm 0 ?_;obtain ⟨W,eW⟩:∃ W,W=qba n (cnt d n):=⟨_,rfl⟩
 rw [← eW] at hwl g4 ⊢;refine ⟨W,W,rfl,rfl,Nat.le_refl _,show W*1≤140737488355328 by omega,by omega,?_⟩;intro ob w8 hob hw8;have hm:=hm.new hob hw8;clear hob hw8;have hm:Mem w4 w8 [(ob,.cells (qcv [Value.int .u8 0] W).toArray 5),(pb,q32 n (cnt d n))]:=hm;rw [qw4] at hm;(conv=>whnf);refine znm hm fun vb w9 hm=>zw ?_;refine StoreV.mem hm (i:=0) rfl Nat.zero_lt_one rfl ?_;intro w10 hm;have hm:Mem w4 w10 [(vb,.cells #[.slice (some ⟨ob,0,none⟩) W W] 32),(ob,.cells (byV (List.replicate W 0)).toArray 5),(pb,q32 n (cnt d n))]:=hm;(conv=>whnf);refine zr hm 0 ?_;have hz:(List.replicate W (0:UInt8)).length=W:=List.length_replicate;have f1:(fixL n 4).length=4:=qh _ _;have f2:(fixL (cnt d n) 4).length=4:=qh _ _;have l1:(ovr (List.replicate W (0:UInt8)) 0 (fixL n 4)).length=W:=by rw [qdp Oo,hz]
 have l2:(ovr (ovr (List.replicate W (0:UInt8)) 0 (fixL n 4)) 4 (fixL (cnt d n) 4)).length=W:=by rw [qdp Oo,l1]
 refine zcv (qf8 (List.replicate W 0) ob 0 W W n 4 w10 (hm.get (zmc mh)) Oo Oo Oo Od) ?_;rintro r w11 ⟨rfl,hc,hb⟩;have hm:=hm.upd (i:=1) rfl (hc.upd_ hb);(conv=>whnf);refine zr hm 0 ?_;refine SliceV.to 4 W W rfl rfl rfl Oo znr znr (fun h=>(by cases h)) ?_;rw [if_neg Oo];(conv=>whnf);rw [t1,Nat.mul_one,addM,Nat.zero_add];refine zcv (qf8 _ ob 4 (W-4) (W-4) (cnt d n) 4 w11 hb Oo Oo Oo Od) ?_;rintro r w12 ⟨rfl,hc,hb⟩;have hm:=hm.upd (i:=1) rfl (hc.upd_ hb);(conv=>whnf);refine zr hm 0 ?_;refine zr hm 2 ?_;have hb:w12.heap[ob]?=some (.cells (byV (ovr (ovr (List.replicate W (0:UInt8)) 0 (fixL n 4)) 4 (fixL (cnt d n) 4))).toArray 5):=hb;have hSd:=hS.ext hm.ext;have key:∀ Q:oA,(W=8→Q=some ⟨ob,0,none⟩)→(W≠8→Q=some ⟨ob,8,none⟩)→∃ w',(Builtin.copy_ #[32,32] 3 #[.slice Q (W-8) (W-8),.slice A l c]).run Tryz.prog w12=.ok (goInt l) w'∧Chn [ob] w12 w'∧
   w'.heap[ob]?=some (.cells (byV (ovr (ovr (ovr (List.replicate W (0:UInt8)) 0 (fixL n 4)) 4 (fixL (cnt d n) 4)) 8 d)).toArray 5):=by
  intro Q q1 q2
  by_cases hW:W=8
  ·have hd0:d=[]:=List.eq_nil_of_length_eq_zero Oo;have:=qsg (p:=0) (len:=W-8) (cap:=W-8) (c:=c) hb hSd hl Oo Oo;rw [q1 hW];subst hd0;rw [qqk] at this ⊢;exact this
  ·rw [q2 hW];exact qsg (p:=8) (len:=W-8) (cap:=W-8) (c:=c) hb hSd hl Oo Oo
 refine SliceV.to 8 W W rfl rfl rfl Oo znr znr (fun h=>(by cases h)) ?_;obtain ⟨w13,hrun,hc,hb⟩:=key (if W=8 then some ⟨ob,0,none⟩ else Option.map (fun x:Addr=>x.add (8*tsz Tryz.prog 5)) (some ⟨ob,0,none⟩)) (fun h=>if_pos h) (fun h=>by rw [if_neg h,t1,Nat.mul_one,addM]);(conv=>whnf);refine Fall.copy rfl rfl rfl _ _ hrun ?_;have hm:=hm.upd (i:=1) rfl (hc.upd_ hb);unfold goInt;(conv=>whnf);have hI:RbI d n w4 vb ob pb [] w13:=⟨_,Par.start hd (by rw [hz,hwl]),by
  rw [hwl];exact hm.perm (List.Perm.swap _ _ _)⟩
 refine zcv (qlr d A l c n w13 hl hd hn _ (pp vb) (pp pb) (RbI d n w4 vb ob pb) (fun _ _ h=>let ⟨_,_,g⟩:=h;hS.ext g.ext) hI (fun L x w' hI hx=>qqr d n w4 vb ob pb L x w' hn hd hp hI hx)) ?_;rintro r w14 ⟨rfl,x,hx,hm⟩;obtain rfl:=Par.all hn hd hx;rw [hwl] at hm;(conv=>whnf);refine zr hm 1 ?_;obtain ⟨o1,o2⟩:=hm.own _ mh;exact ⟨_,rfl,NewS.blk hm.ext o1 o2 hwl⟩
def opT (S:List Bool) (t:Nat):Nat:=if S.getD (t+1) false=true then 1 else 0
def opB (S:List Bool):LB:=qb0 (opT S) (upN S.length 8)
theorem qmi (S:List Bool):(opB S).length=upN S.length 8:=qc8 _ _
theorem qih {S:List Bool} {t:Nat} (h:S.length≤t+1):opT S t=0:=by
 grind [opT]
theorem qqa {S:List Bool} {t:Nat} (h:t+1≠S.length):laT S t=opT S t:=by rw [laT,if_neg h,opT]
theorem q3y (S:List Bool) (t:Nat):opT (S++[true]) t=laT S t:=by
 rw [opT,laT,List.getD_eq_getElem?_getD]
 grind
theorem qzw (S:List Bool) (t:Nat):opT (S++[false]) t=opT S t:=by
 grind [opT]
theorem quk (f:Nat→Nat) (m:Nat) (h:∀ s,s<8→f (8*m+s)%2=0):qb0 f (m+1)=qb0 f m++[0]:=by
 have hb:byt f m=0:=by
  have:=qw5 (f:=f) (b:=m) (r:=0) Od fun s _ hs=>h s hs
  omega
 simp_all [qb0,List.range_succ]
def gro (n:Nat) (l:LB):LB:=if n%8=0 then l++[0] else l
theorem qne {f g:Nat→Nat} {n:Nat} (h:∀ t,f t%2=g t%2) (h0:∀ t,n≤t→g t%2=0):qb0 f (upN (n+1) 8)=gro n (qb0 g (upN n 8)):=by
 rw [qiu fun t _=>h t,gro]
 split
 ·rename_i hn
  rw [show upN (n+1) 8=upN n 8+1 by unfold upN;omega,quk]
  grind [upN]
 grind [upN]
theorem q3i {S:List Bool} {t:Nat} (h:S.length≤t):laT S t=0:=by grind [qqa,qih]
theorem q3x (S:List Bool):opB (S++[true])=gro S.length (qa0 S):=by
 rw [opB,zla,List.length_singleton];exact qne (fun t=>by rw [q3y]) fun t ht=>by rw [q3i ht]
theorem qzu (S:List Bool):opB (S++[false])=gro S.length (opB S):=by
 rw [opB,zla,List.length_singleton];exact qne (fun t=>by rw [qzw]) fun t ht=>by grind [qih]
theorem q8v:opB []=qa0 []:=rfl
theorem qzt {S:List Bool} {e:Nat} (h:S.length=e+1):(byV (opB S)).set (e/8) (.int .u8 (byt (opT S) (e/8)+2 ^ (e%8):Nat))=byV (qa0 S):=by
 have hm:e<8*upN S.length 8:=by unfold upN;omega
 have h1:=qnf (f:=opT S) (g:=laT S) hm fun t _ ht=>by grind [qqa]
 have h2:=qr8 (f:=opT S) (g:=laT S) (b:=e/8) (r:=e%8) Oo (fun s _ hs=>by grind [qqa]) (by grind [qih])
 grind [laT,opB,qa0]
theorem qacg {S:List Bool} {e:Nat} (h:S.length=e+1):qc2 .or .u8 ((byt (opT S) (e/8):Nat):Int) ((2 ^ (e%8):Nat):Int)=((byt (opT S) (e/8)+2 ^ (e%8):Nat):Int):=by
 have h1:=q6i (f:=opT S) e 1
 grind [upF,qpq,qih]
end Go.Proofs.YtccmcfpmknpccaaGreatDoor
