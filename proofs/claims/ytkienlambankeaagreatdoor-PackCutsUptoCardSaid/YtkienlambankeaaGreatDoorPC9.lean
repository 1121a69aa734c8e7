/- The law PackCuts: its card of the second form: the law returns true,and what it was handed reads as it did. The row lists the package-level variables that the road reaches (laid);the card ties them to the program's text. (Printed by gen2/mkcards.py.) -/
import Derived.Test.YtkienlambankeaaGreatDoorPC8
import Derived.Test.YtkienlambankeaaGreatDoorCards
import Derived.Test.YtkienlambankeaaGreatDoorTie
namespace Go.Proofs.YtkienlambankeaaGreatDoor.packCuts
open Go.ChangeShapes Go.WideShapes Go.ChangeAt Go.RowKit V
set_option maxRecDepth 100000
theorem qyr {H:Type} {enc:TypeId × Value→H} {W:World} {A:oA} {n c:Nat} (h:OpB enc Tryz.prog W 25 [.slice A n c]):n≤1048576:=by
 obtain ⟨A',cap,l,h1,_,h2,_⟩:=h.slice (en:=fun v:Value=>[v]) (R:=fun _=>True) (size:=1) (α:=Value) Tryz.underlying25 qwv Od (fun _=>rfl) (fun cs hc=>by
  obtain ⟨n,d,ps,h1,_⟩:=id hc.h;obtain ⟨s,rfl,_,_⟩:=DataW.trod_int Tryz.underlying5 h1;exact ⟨_,rfl,trivial⟩)
 injection h1 with e1 e2 e3
 omega
theorem resT:Tryz.f7.resultTypes=#[4]:=by kernel_rfl
theorem parT:Tryz.f7.params=#[22,3,25]:=by kernel_rfl
theorem readable:∀ t∈Tryz.f7.params.toList,Tryz.prog.readableRec t=true∧t<Tryz.prog.types.size:=by
 rw [parT];intro t ht;have ht:t=22∨t=3∨t=25:=by simpa using ht
 rcases ht with rfl|rfl|rfl
 all_goals exact ⟨by kernel_rfl,of_decide_eq_true Jk⟩
theorem contract (H:Type) (enc:TypeId × Value→H) (W:World) (base:Nat) (args:Array Value) (ds gs:List (DataW H)) (before:List MemPlace)
  (hval:∀ (j:Nat) t v,Tryz.f7.params[j]?=some t→args[j]?=some v→Value.okWide Tryz.prog W .any base t v)
  (hW:DataW.Whole enc Tryz.prog Tryz.f7.params.toList Rows.packCutsSpec.vars false W args.toList ds gs before)
  (hk:Rows.uptoSmall H (ds++gs)=true)
  (hsz:(DataW.weightsEach Tryz.prog (Tryz.f7.params.toList++[]) (ds++gs)).all (·≤reachBytes)=true) (hL:laidMetH Tryz.prog q6r W) (hsh:W.ShapedOpen Tryz.prog) :
  Calls Tryz.prog 7 args W fun e W'=>∃ v,e=.returned v∧Rows.packCutsSpec.post enc Tryz.prog Tryz.f7 false true false false W args v W':=by
 have hW':=hW;obtain ⟨p,q,hA0,hV,hpq,hfz,hnd⟩:=hW;obtain ⟨rfl,rfl⟩:=trodVars_none hV;have hA:DataW.TrodAll enc Tryz.prog W 0 (fun _=>true) true Tryz.f7.params.toList args.toList ds p:=hA0;rw [parT] at hA hval;rw [List.append_nil,List.append_nil,parT] at hsz;have hop:=Opn.of hA hsz;rw [List.append_nil] at hk;have hob:=OpB.of hA (of_decide_eq_true hk);obtain ⟨v0,vs0,d0,ds0,p0,q0,hargs0,rfl,rfl,h00,r0⟩:=trodAll_cons hA;obtain ⟨v1,vs1,d1,ds1,p1,q1,hargs1,rfl,rfl,h01,r1⟩:=trodAll_cons r0;obtain ⟨v2,vs2,d2,ds2,p2,q2,hargs2,rfl,rfl,h02,r2⟩:=trodAll_cons r1;obtain ⟨rfl,rfl,rfl⟩:=trodAll_nil r2;subst hargs2;subst hargs1;obtain rfl:args=#[v0,v1,v2]:=by cases args;simp_all
 obtain ⟨a0,l0,c0,rfl⟩:=okWide_slice Tryz.underlying22 (hval 0 22 v0 rfl rfl);obtain ⟨A0,cap0,qs,hp0,hq1,hq2,hq3⟩:=qu5 (hop 0 22 _ rfl rfl);obtain ⟨n1,rfl⟩:=okWide_int Tryz.underlying3 (hval 1 3 v1 rfl rfl);have hi1:InR .i64 n1:=by
  obtain ⟨m,e,h⟩:=Opn.int (c:=ii n1) Tryz.underlying3 (hop 1 3 _ rfl rfl);cases e;exact qs1 h
 obtain ⟨a2,l2,c2,rfl⟩:=okWide_slice Tryz.underlying25 (hval 2 25 v2 rfl rfl);obtain ⟨B2,cap2,b2,hp2,hb1,hb2,hb3⟩:=qu4 (hop 2 25 _ rfl rfl);have hsm:b2.length≤1048576:=by
  have hx:=hob 2 25 _ rfl rfl;rw [hp2] at hx;exact qyr hx
 rw [hp0,hp2];refine (qo0 qs A0 B2 qs.length cap0 b2.length cap2 n1 b2 W hq3 rfl hq1 hi1 hb3 rfl Oo (fun q hq=>(hq2 q hq).1) (fun q hq=>(hq2 q hq).2) (qabd hL hsh)).2.mono fun e W' ⟨v,he,hv,hx⟩=>?_;subst hv;rw [hp0,hp2] at hW';refine ⟨_,he,q2w q16 readable hW' rfl (fun _ _ _=>?_) rfl rfl hx (ok_one resT rfl (okWide_bool_mk Tryz.underlying4 _))⟩;rw [resT];exact trodAll_cons_mk (shut_bool Tryz.underlying4 _) trodAll_mk0
theorem met (os:Os):laidMetH Tryz.prog Rows.packCutsUptoRow.laid ((witP os).forCall (fun _ _=>0) ⟨#[],#[.slice none 0 0,ii 0,.slice none 0 0],[]⟩).memory:=
 laidMetH_of_parts (laidMet_of_run' 8 Jk Jk) Jk
theorem reads (os:Os) {H:Type} (enc:TypeId × Value→H):∃ places,DataW.whole enc Tryz.prog ((witP os).forCall (fun _ _=>0) ⟨#[],#[.slice none 0 0,ii 0,.slice none 0 0],[]⟩).memory Tryz.f7.params.toList Rows.packCutsSpec.vars false (#[.slice none 0 0,ii 0,.slice none 0 0]:Array Value).toList 8=some ([.nil,.lit (.int .i64 0),.nil],[],places):=
 ⟨[],by kernel_rfl⟩
theorem lifted (os:Os) (started:os.Started) (H:Type) (enc:TypeId × Value→H) (F:Stop.Interp) :
  ReturnsInHanded {} Tryz.checked os 7 .any ((Rows.OpenSpec.upto Rows.packCutsSpec).preRow enc Tryz.prog Tryz.f7 Rows.packCutsUptoRow.domain false Rows.packCutsUptoRow.laid) (((Rows.OpenSpec.upto Rows.packCutsSpec).at F).post enc Tryz.prog Tryz.f7 false true false false):=by
 obtain ⟨places,hx⟩:=reads os enc;refine returnsInHanded_of_row (C:=Tryz.checked) (s:=(Rows.OpenSpec.upto Rows.packCutsSpec)) own started Jk Tryz.func7
  (witness_row_at (enc:=enc) (C:=Tryz.checked) false (witP os) #[.slice none 0 0,ii 0,.slice none 0 0] rfl Jk Jk Jk
   (OpenSpec.preRow_of_cond 8 hx Jk (fun k hk=>by cases hk;kernel_rfl) Jk (met os))) ?_
 intro W base args ds gs before hval hW _ hcond hsz hL hsh _;exact contract H enc W base args ds gs before hval hW (hcond _ rfl) hsz hL hsh
set_option maxHeartbeats 4000000 in
theorem closed:joinedFacts Tryz.prog 7 Tryz.f7 Rows.packCutsSpec Rows.packCutsUptoRow=true:=by
 unfold joinedFacts
 repeat' with_reducible refine andT ?_ ?_
 all_goals as_aux_lemma=>kernel_rfl
theorem named:Tryz.prog.funcNamed Rows.packCutsUptoRow.func=some 7:=by kernel_rfl
theorem inst:Tryz.f7.isInstance Tryz.prog Rows.packCutsUptoRow.origin Rows.packCutsUptoRow.targs:=of_decide_eq_true Jk
theorem wrap:Tryz.f7.isWrapper Tryz.prog Rows.packCutsUptoRow.wrapper Rows.packCutsUptoRow.mainSum:=by unfold Func.isWrapper;first|(rw [if_pos (by decide +kernel)];kernel_rfl)|(rw [if_neg (by decide +kernel)];exact ⟨rfl,rfl⟩)
theorem said:Rows.PackCutsUptoSaid:=
 OpenClaim.holds_of_cond 7 Tryz.f7 rfl rfl rfl rfl rfl rfl rfl ⟨rfl,rfl,rfl,rfl,rfl⟩ rfl rfl rfl rfl rfl named Tryz.func7 closed inst wrap
  (fun os started H enc _ F=>by rw [OpenClaim.pre_eq_preRow];exact lifted os started H enc F)
theorem plain (f:FuncId) (fn:Func) (hf:Tryz.pinned.checked.prog.funcNamed "tessera/tesseralaw19.PackCuts" = some f) (hfn:Tryz.pinned.checked.prog.funcs[f]?=some fn) :
  true=Tryz.pinned.checked.prog.looks []∧∀ (j:Nat) t,fn.params[j]?=some t→Tryz.pinned.checked.prog.wantsStandIn t=false:=by
 obtain rfl:f=7:=Option.some.inj ((show Tryz.prog.funcNamed "tessera/tesseralaw19.PackCuts" = some 7 by kernel_rfl).symm.trans hf) |>.symm;obtain rfl:fn=Tryz.f7:=(Option.some.inj (Tryz.func7.symm.trans hfn)).symm;refine ⟨by kernel_rfl,fun j t ht=>?_⟩;rw [parT] at ht;have ht:t=22∨t=3∨t=25:=by simpa using Array.mem_of_getElem? ht
 rcases ht with rfl|rfl|rfl
 ·exact (show Tryz.prog.wantsStandIn 22=false by kernel_rfl)
 ·exact (show Tryz.prog.wantsStandIn 3=false by kernel_rfl)
 ·exact (show Tryz.prog.wantsStandIn 25=false by kernel_rfl)
theorem card:Rows.PackCutsUptoCardSaid:=
 Claim7.holds_tied_plain_at .later [] _ _ _ _ said (fun _ h=>by cases h) Jk (fun _ h=>by cases h) packCutsUpto_row_tie rfl ⟨rfl,rfl⟩ Jk rfl plain Jk
end Go.Proofs.YtkienlambankeaaGreatDoor.packCuts
#print axioms Go.Proofs.YtkienlambankeaaGreatDoor.packCuts.card
