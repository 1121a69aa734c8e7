/- The law PackForged: its card of the second form: the law returns true,and what it was handed reads as it did. The row lists the package-level variables that the road reaches (laid);the card ties them to the program's text. (Printed by gen2/mkcards.py.) -/
import Derived.Test.YtkienlambankeaaGreatDoorPG9
import Derived.Test.YtkienlambankeaaGreatDoorCards
import Derived.Test.YtkienlambankeaaGreatDoorTie
namespace Go.Proofs.YtkienlambankeaaGreatDoor.packForged
open Go.ChangeShapes Go.WideShapes Go.ChangeAt Go.RowKit V
set_option maxRecDepth 100000
theorem qqn {H:Type} {enc:TypeId × Value→H} {W:World} {A:oA} {n c:Nat} (h:OpB enc Tryz.prog W 25 [.slice A n c]):n≤1048576:=by
 obtain ⟨A',cap,l,h1,_,h2,_⟩:=h.slice (en:=fun v:Value=>[v]) (R:=fun _=>True) (size:=1) (α:=Value) Tryz.underlying25 qyy Od (fun _=>rfl) (fun cs hc=>by
  obtain ⟨n,d,ps,h1,_⟩:=id hc.h;obtain ⟨s,rfl,_,_⟩:=DataW.trod_int Tryz.underlying5 h1;exact ⟨_,rfl,trivial⟩)
 injection h1 with e1 e2 e3
 omega
theorem q80:Tryz.prog.cellsOf 42=4:=by kernel_rfl
theorem qm2:Tryz.prog.cellsOf 25=1:=by kernel_rfl
theorem qsm {H:Type} {enc:TypeId × Value→H} {W:World} {cs:List Value} (h:Opn enc Tryz.prog W 42 cs) (hB:OpB enc Tryz.prog W 42 cs) :
  ∃ (q t:Int) (A B:oA) (c d:Nat) (X Y:LB),Value.agg cs.toArray=.agg #[ii q,ii t,.slice A X.length c,.slice B Y.length d]∧InR .i64 q∧InR .i64 t∧SlAt encB 1 W A X∧SlAt encB 1 W B Y∧X.length≤1048576∧Y.length≤1048576:=by
 obtain ⟨hl,hf⟩:=Opn.fields Tryz.underlying42 h;obtain ⟨_,hg⟩:=OpB.fields Tryz.underlying42 hB;rw [q80] at hl
 match cs,hl with
 | [c0,c1,c2,c3],_=>
  have g0:Opn enc Tryz.prog W 3 (([c0,c1,c2,c3].drop 0).take (Tryz.prog.cellsOf 3)):=hf 0 _ rfl;rw [qm3] at g0;have g1:Opn enc Tryz.prog W 3 (([c0,c1,c2,c3].drop 1).take (Tryz.prog.cellsOf 3)):=hf 1 _ rfl;rw [qm3] at g1;have g2:Opn enc Tryz.prog W 25 (([c0,c1,c2,c3].drop 2).take (Tryz.prog.cellsOf 25)):=hf 2 _ rfl;rw [qm2] at g2;have g3:Opn enc Tryz.prog W 25 (([c0,c1,c2,c3].drop 3).take (Tryz.prog.cellsOf 25)):=hf 3 _ rfl;rw [qm2] at g3;have k2:OpB enc Tryz.prog W 25 (([c0,c1,c2,c3].drop 2).take (Tryz.prog.cellsOf 25)):=hg 2 _ rfl;rw [qm2] at k2;have k3:OpB enc Tryz.prog W 25 (([c0,c1,c2,c3].drop 3).take (Tryz.prog.cellsOf 25)):=hg 3 _ rfl;rw [qm2] at k3;obtain ⟨n0,rfl,i0⟩:=Opn.int (c:=c0) Tryz.underlying3 g0;obtain ⟨n1,rfl,i1⟩:=Opn.int (c:=c1) Tryz.underlying3 g1;obtain ⟨A,ca,X,rfl,_,_,hX⟩:=qmb (c:=c2) g2;obtain ⟨B,cb,Y,rfl,_,_,hY⟩:=qmb (c:=c3) g3;exact ⟨n0,n1,A,B,ca,cb,X,Y,rfl,qqe i0,qqe i1,hX,hY,qqn k2,qqn k3⟩
theorem resT:Tryz.f5.resultTypes=#[4]:=by kernel_rfl
theorem parT:Tryz.f5.params=#[42]:=by kernel_rfl
theorem readable:∀ t∈Tryz.f5.params.toList,Tryz.prog.readableRec t=true∧t<Tryz.prog.types.size:=by
 rw [parT];intro t ht;have ht:t=42:=by simpa using ht
 rcases ht with rfl
 exact ⟨by kernel_rfl,of_decide_eq_true Jk⟩
theorem contract (H:Type) (enc:TypeId × Value→H) (W:World) (base:Nat) (args:Array Value) (ds gs:List (DataW H)) (before:List MemPlace)
  (hval:∀ (j:Nat) t v,Tryz.f5.params[j]?=some t→args[j]?=some v→Value.okWide Tryz.prog W .any base t v)
  (hW:DataW.Whole enc Tryz.prog Tryz.f5.params.toList Rows.packForgedSpec.vars false W args.toList ds gs before)
  (hk:Rows.uptoSmall H (ds++gs)=true)
  (hsz:(DataW.weightsEach Tryz.prog (Tryz.f5.params.toList++[]) (ds++gs)).all (·≤reachBytes)=true) (hL:laidMetH Tryz.prog q9l W) (hsh:W.ShapedOpen Tryz.prog) :
  Calls Tryz.prog 5 args W fun e W'=>∃ v,e=.returned v∧Rows.packForgedSpec.post enc Tryz.prog Tryz.f5 false true false false W args v W':=by
 have hW':=hW;obtain ⟨p,q,hA0,hV,hpq,hfz,hnd⟩:=hW;obtain ⟨rfl,rfl⟩:=trodVars_none hV;have hA:DataW.TrodAll enc Tryz.prog W 0 (fun _=>true) true Tryz.f5.params.toList args.toList ds p:=hA0;rw [parT] at hA hval;rw [List.append_nil,List.append_nil,parT] at hsz;have hop:=Opn.of hA hsz;rw [List.append_nil] at hk;have hob:=OpB.of hA (of_decide_eq_true hk);obtain ⟨v0,vs0,d0,ds0,p0,q0,hargs0,rfl,rfl,h00,r0⟩:=trodAll_cons hA;obtain ⟨rfl,rfl,rfl⟩:=trodAll_nil r0;obtain rfl:args=#[v0]:=by cases args;simp_all
 obtain ⟨cs,rfl,_⟩:=okWide_struct Tryz.underlying42 (hval 0 42 v0 rfl rfl);obtain ⟨q,t,A1,A2,d1,d2,X,Y,hp0,hi1,hi2,hX,hY,hXl,hYl⟩:=qsm (hop 0 42 _ rfl rfl) (hob 0 42 _ rfl rfl);have hp0:Value.agg cs=.agg #[ii q,ii t,.slice A1 X.length d1,.slice A2 Y.length d2]:=hp0;rw [hp0];refine (qln q t A1 A2 X Y d1 d2 W hi1 hi2 hX hY Oo Oo (qaeh hL hsh)).2.mono fun e W' ⟨v,he,hv,hx⟩=>?_;subst hv;rw [hp0] at hW';refine ⟨_,he,q5f q4p readable hW' rfl (fun _ _ _=>?_) rfl rfl hx (ok_one resT rfl (okWide_bool_mk Tryz.underlying4 _))⟩;rw [resT];exact trodAll_cons_mk (shut_bool Tryz.underlying4 _) trodAll_mk0
theorem met (os:Os):laidMetH Tryz.prog Rows.packForgedUptoRow.laid ((witP os).forCall (fun _ _=>0) ⟨#[],#[.agg #[ii 0,ii 0,.slice none 0 0,.slice none 0 0]],[]⟩).memory:=
 laidMetH_of_parts (laidMet_of_run' 8 Jk Jk) Jk
theorem reads (os:Os) {H:Type} (enc:TypeId × Value→H):∃ places,DataW.whole enc Tryz.prog ((witP os).forCall (fun _ _=>0) ⟨#[],#[.agg #[ii 0,ii 0,.slice none 0 0,.slice none 0 0]],[]⟩).memory Tryz.f5.params.toList Rows.packForgedSpec.vars false (#[.agg #[ii 0,ii 0,.slice none 0 0,.slice none 0 0]]:Array Value).toList 8=some ([.agg [.lit (.int .i64 0),.lit (.int .i64 0),.nil,.nil]],[],places):=
 ⟨[],by kernel_rfl⟩
theorem lifted (os:Os) (started:os.Started) (H:Type) (enc:TypeId × Value→H) (F:Stop.Interp) :
  ReturnsInHanded {} Tryz.checked os 5 .any ((Rows.OpenSpec.upto Rows.packForgedSpec).preRow enc Tryz.prog Tryz.f5 Rows.packForgedUptoRow.domain false Rows.packForgedUptoRow.laid) (((Rows.OpenSpec.upto Rows.packForgedSpec).at F).post enc Tryz.prog Tryz.f5 false true false false):=by
 obtain ⟨places,hx⟩:=reads os enc;refine returnsInHanded_of_row (C:=Tryz.checked) (s:=(Rows.OpenSpec.upto Rows.packForgedSpec)) own started Jk Tryz.func5
  (witness_row_at (enc:=enc) (C:=Tryz.checked) false (witP os) #[.agg #[ii 0,ii 0,.slice none 0 0,.slice none 0 0]] rfl Jk Jk Jk
   (OpenSpec.preRow_of_cond 8 hx Jk (fun k hk=>by cases hk;kernel_rfl) Jk (met os))) ?_
 intro W base args ds gs before hval hW _ hcond hsz hL hsh _;exact contract H enc W base args ds gs before hval hW (hcond _ rfl) hsz hL hsh
set_option maxHeartbeats 4000000 in
theorem closed:joinedFacts Tryz.prog 5 Tryz.f5 Rows.packForgedSpec Rows.packForgedUptoRow=true:=by
 unfold joinedFacts
 repeat' with_reducible refine andT ?_ ?_
 all_goals as_aux_lemma=>kernel_rfl
theorem named:Tryz.prog.funcNamed Rows.packForgedUptoRow.func=some 5:=by kernel_rfl
theorem inst:Tryz.f5.isInstance Tryz.prog Rows.packForgedUptoRow.origin Rows.packForgedUptoRow.targs:=of_decide_eq_true Jk
theorem wrap:Tryz.f5.isWrapper Tryz.prog Rows.packForgedUptoRow.wrapper Rows.packForgedUptoRow.mainSum:=by unfold Func.isWrapper;first|(rw [if_pos (by decide +kernel)];kernel_rfl)|(rw [if_neg (by decide +kernel)];exact ⟨rfl,rfl⟩)
theorem said:Rows.PackForgedUptoSaid:=
 OpenClaim.holds_of_cond 5 Tryz.f5 rfl rfl rfl rfl rfl rfl rfl ⟨rfl,rfl,rfl,rfl,rfl⟩ rfl rfl rfl rfl rfl named Tryz.func5 closed inst wrap
  (fun os started H enc _ F=>by rw [OpenClaim.pre_eq_preRow];exact lifted os started H enc F)
theorem plain (f:FuncId) (fn:Func) (hf:Tryz.pinned.checked.prog.funcNamed "tessera/tesseralaw19.PackForged" = some f) (hfn:Tryz.pinned.checked.prog.funcs[f]?=some fn) :
  true=Tryz.pinned.checked.prog.looks []∧∀ (j:Nat) t,fn.params[j]?=some t→Tryz.pinned.checked.prog.wantsStandIn t=false:=by
 obtain rfl:f=5:=Option.some.inj ((show Tryz.prog.funcNamed "tessera/tesseralaw19.PackForged" = some 5 by kernel_rfl).symm.trans hf) |>.symm;obtain rfl:fn=Tryz.f5:=(Option.some.inj (Tryz.func5.symm.trans hfn)).symm;refine ⟨by kernel_rfl,fun j t ht=>?_⟩;rw [parT] at ht;have ht:t=42:=by simpa using Array.mem_of_getElem? ht
 rcases ht with rfl
 ·exact (show Tryz.prog.wantsStandIn 42=false by kernel_rfl)
theorem card:Rows.PackForgedUptoCardSaid:=
 Claim7.holds_tied_plain_at .later [] _ _ _ _ said (fun _ h=>by cases h) Jk (fun _ h=>by cases h) packForgedUpto_row_tie rfl ⟨rfl,rfl⟩ Jk rfl plain Jk
end Go.Proofs.YtkienlambankeaaGreatDoor.packForged
#print axioms Go.Proofs.YtkienlambankeaaGreatDoor.packForged.card
