/- The law SearchShapes: its card: the law returns true,and what it was handed reads as it did. The row lists the package-level variables that the road reaches (laid);the card ties them to the program's text. (Printed by gen5/mkscards.py.) -/
import Derived.Test.YtccmcfpmknpccaaGreatDoorSH15
import Derived.Test.YtccmcfpmknpccaaGreatDoorCards
import Derived.Test.YtccmcfpmknpccaaGreatDoorTie
namespace Go.Proofs.YtccmcfpmknpccaaGreatDoor.searchShapes
open Go.ChangeShapes Go.WideShapes Go.ChangeAt Go.RowKit V
set_option maxRecDepth 100000
theorem resT:Tryz.f8.resultTypes=#[4]:=by kernel_rfl
theorem parT:Tryz.f8.params=#[22,47]:=by kernel_rfl
theorem readable:∀ t∈Tryz.f8.params.toList,Tryz.prog.readableRec t=true∧t<Tryz.prog.types.size:=by
 rw [parT];intro t ht;have ht:t=22∨t=47:=by simpa using ht
 rcases ht with rfl|rfl
 all_goals exact ⟨by kernel_rfl,of_decide_eq_true Jk⟩
theorem contract (H:Type) (enc:TypeId × Value→H) (W:World) (base:Nat) (args:Array Value) (ds gs:List (DataW H)) (before:List MemPlace)
  (hval:∀ (j:Nat) t v,Tryz.f8.params[j]?=some t→args[j]?=some v→Value.okWide Tryz.prog W .any base t v)
  (hW:DataW.Whole enc Tryz.prog Tryz.f8.params.toList Rows.searchShapesSpec.vars false W args.toList ds gs before)
  (hsz:(DataW.weightsEach Tryz.prog (Tryz.f8.params.toList++[]) (ds++gs)).all (·≤reachBytes)=true) (hL:laidMetH Tryz.prog q78 W) (hsh:W.ShapedOpen Tryz.prog) :
  Calls Tryz.prog 8 args W fun e W'=>∃ v,e=.returned v∧Rows.searchShapesSpec.post enc Tryz.prog Tryz.f8 false true false false W args v W':=by
 have hW':=hW;obtain ⟨p,q,hA0,hV,hpq,hfz,hnd⟩:=hW;obtain ⟨rfl,rfl⟩:=trodVars_none hV;have hA:DataW.TrodAll enc Tryz.prog W 0 (fun _=>true) true Tryz.f8.params.toList args.toList ds p:=hA0;rw [parT] at hA hval;rw [List.append_nil,List.append_nil,parT] at hsz;have hop:=Opn.of hA hsz;obtain ⟨v0,vs0,d0,ds0,p0,q0,hargs0,rfl,rfl,h00,r0⟩:=trodAll_cons hA;obtain ⟨v1,vs1,d1,ds1,p1,q1,hargs1,rfl,rfl,h01,r1⟩:=trodAll_cons r0;obtain ⟨rfl,rfl,rfl⟩:=trodAll_nil r1;subst hargs1;obtain rfl:args=#[v0,v1]:=by cases args;simp_all
 obtain ⟨a0,l0,c0,rfl⟩:=okWide_slice Tryz.underlying22 (hval 0 22 v0 rfl rfl);obtain ⟨A0,cap0,qs0,hp0,ha0,hb0,hc0⟩:=qu9 (hop 0 22 _ rfl rfl);obtain ⟨cs,rfl,_⟩:=okWide_struct Tryz.underlying47 (hval 1 47 v1 rfl rfl);obtain ⟨pq,hp1,hpq1⟩:=qoc (hop 1 47 _ rfl rfl);replace hp1:Value.agg cs=qq pq:=by
  have e:cs=(qd pq).toArray:=by rw [← hp1];exact (Array.toArray_toList (xs:=cs)).symm
  rw [e];rfl
 rw [hp0,hp1];refine (qh4 qs0 A0 qs0.length cap0 pq W hc0 rfl ha0 hb0 hpq1 ⟨(q72 hL hsh).S,(q72 hL hsh).N,(q72 hL hsh).G⟩).2.mono fun e W' ⟨v,he,hv,hx⟩=>?_;subst hv;rw [hp0,hp1] at hW';refine ⟨_,he,q39 q3j readable hW' rfl (fun _ _ _=>?_) rfl rfl hx (ok_one resT rfl (okWide_bool_mk Tryz.underlying4 _))⟩;rw [resT];exact trodAll_cons_mk (shut_bool Tryz.underlying4 _) trodAll_mk0
theorem met (os:Os):laidMetH Tryz.prog Rows.searchShapesRow.laid ((witP os).forCall (fun _ _=>0) ⟨#[],#[.slice none 0 0,.agg #[ii 0,.string ⟨#[]⟩,.string ⟨#[]⟩,.string ⟨#[]⟩,ii 0,.string ⟨#[]⟩,.string ⟨#[]⟩,.string ⟨#[]⟩,ii 0,.string ⟨#[]⟩,.string ⟨#[]⟩,.string ⟨#[]⟩,ii 0,.string ⟨#[]⟩,.string ⟨#[]⟩,.string ⟨#[]⟩]],[]⟩).memory:=
 laidMetH_of_parts (laidMet_of_run' 8 Jk Jk) Jk
theorem reads (os:Os) {H:Type} (enc:TypeId × Value→H):∃ qe2,DataW.whole enc Tryz.prog ((witP os).forCall (fun _ _=>0) ⟨#[],#[.slice none 0 0,.agg #[ii 0,.string ⟨#[]⟩,.string ⟨#[]⟩,.string ⟨#[]⟩,ii 0,.string ⟨#[]⟩,.string ⟨#[]⟩,.string ⟨#[]⟩,ii 0,.string ⟨#[]⟩,.string ⟨#[]⟩,.string ⟨#[]⟩,ii 0,.string ⟨#[]⟩,.string ⟨#[]⟩,.string ⟨#[]⟩]],[]⟩).memory Tryz.f8.params.toList Rows.searchShapesSpec.vars false (#[.slice none 0 0,.agg #[ii 0,.string ⟨#[]⟩,.string ⟨#[]⟩,.string ⟨#[]⟩,ii 0,.string ⟨#[]⟩,.string ⟨#[]⟩,.string ⟨#[]⟩,ii 0,.string ⟨#[]⟩,.string ⟨#[]⟩,.string ⟨#[]⟩,ii 0,.string ⟨#[]⟩,.string ⟨#[]⟩,.string ⟨#[]⟩]]:Array Value).toList 8=some ([.nil,.agg [.agg [.lit (.int .i64 0),.lit (.string []),.lit (.string []),.lit (.string [])],.agg [.lit (.int .i64 0),.lit (.string []),.lit (.string []),.lit (.string [])],.agg [.lit (.int .i64 0),.lit (.string []),.lit (.string []),.lit (.string [])],.agg [.lit (.int .i64 0),.lit (.string []),.lit (.string []),.lit (.string [])]]],[],qe2):=
 ⟨[],by kernel_rfl⟩
theorem lifted (os:Os) (started:os.Started) (H:Type) (enc:TypeId × Value→H) (F:Stop.Interp) :
  ReturnsInHanded {} Tryz.checked os 8 .any ((OpenSpec.ofChange Rows.searchShapesSpec).preRow enc Tryz.prog Tryz.f8 Rows.searchShapesRow.domain false Rows.searchShapesRow.laid) (((OpenSpec.ofChange Rows.searchShapesSpec).at F).post enc Tryz.prog Tryz.f8 false true false false):=by
 obtain ⟨qe2,hx⟩:=reads os enc;refine returnsInHanded_of_row (C:=Tryz.checked) (s:=(OpenSpec.ofChange Rows.searchShapesSpec)) own started Jk Tryz.func8
  (witness_row_at (enc:=enc) (C:=Tryz.checked) false (witP os) #[.slice none 0 0,.agg #[ii 0,.string ⟨#[]⟩,.string ⟨#[]⟩,.string ⟨#[]⟩,ii 0,.string ⟨#[]⟩,.string ⟨#[]⟩,.string ⟨#[]⟩,ii 0,.string ⟨#[]⟩,.string ⟨#[]⟩,.string ⟨#[]⟩,ii 0,.string ⟨#[]⟩,.string ⟨#[]⟩,.string ⟨#[]⟩]] rfl Jk Jk Jk
   (OpenSpec.preRow_of_cond 8 hx Jk (fun k hk=>by cases hk) Jk (met os))) ?_
 intro W base args ds gs before hval hW _ _ hsz hL hsh _;exact contract H enc W base args ds gs before hval hW hsz hL hsh
set_option maxHeartbeats 4000000 in
theorem closed:joinedFacts Tryz.prog 8 Tryz.f8 Rows.searchShapesSpec Rows.searchShapesRow=true:=by
 unfold joinedFacts
 repeat' with_reducible refine andT ?_ ?_
 all_goals as_aux_lemma=>kernel_rfl
theorem named:Tryz.prog.funcNamed Rows.searchShapesRow.func=some 8:=by kernel_rfl
theorem inst:Tryz.f8.isInstance Tryz.prog Rows.searchShapesRow.origin Rows.searchShapesRow.targs:=of_decide_eq_true Jk
theorem wrap:Tryz.f8.isWrapper Tryz.prog Rows.searchShapesRow.wrapper Rows.searchShapesRow.mainSum:=by unfold Func.isWrapper;first|(rw [if_pos (by decide +kernel)];kernel_rfl)|(rw [if_neg (by decide +kernel)];exact ⟨rfl,rfl⟩)
theorem said:Rows.SearchShapesSaid:=
 OpenClaim.holds_of_cond 8 Tryz.f8 rfl rfl rfl rfl rfl rfl rfl ⟨rfl,rfl,rfl,rfl,rfl⟩ rfl rfl rfl rfl rfl named Tryz.func8 closed inst wrap
  (fun os started H enc _ F=>by rw [OpenClaim.pre_eq_preRow];exact lifted os started H enc F)
theorem plain (f:FuncId) (fn:Func) (hf:Tryz.pinned.checked.prog.funcNamed "tessera/tesseralaw20.SearchShapes" = some f) (hfn:Tryz.pinned.checked.prog.funcs[f]?=some fn) :
  true=Tryz.pinned.checked.prog.looks []∧∀ (j:Nat) t,fn.params[j]?=some t→Tryz.pinned.checked.prog.wantsStandIn t=false:=by
 obtain rfl:f=8:=Option.some.inj ((show Tryz.prog.funcNamed "tessera/tesseralaw20.SearchShapes" = some 8 by kernel_rfl).symm.trans hf) |>.symm;obtain rfl:fn=Tryz.f8:=(Option.some.inj (Tryz.func8.symm.trans hfn)).symm;refine ⟨by kernel_rfl,fun j t ht=>?_⟩;rw [parT] at ht;have ht:t=22∨t=47:=by simpa using Array.mem_of_getElem? ht
 rcases ht with rfl|rfl
 ·exact (show Tryz.prog.wantsStandIn 22=false by kernel_rfl)
 ·exact (show Tryz.prog.wantsStandIn 47=false by kernel_rfl)
theorem card:Rows.SearchShapesCardSaid:=
 Claim7.holds_tied_plain_at .later [] _ _ _ _ said (fun _ h=>by cases h) Jk (fun _ h=>by cases h) searchShapes_row_tie rfl ⟨rfl,rfl⟩ Jk rfl plain (qp5 rfl qab9)
end Go.Proofs.YtccmcfpmknpccaaGreatDoor.searchShapes
#print axioms Go.Proofs.YtccmcfpmknpccaaGreatDoor.searchShapes.card
