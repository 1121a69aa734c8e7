/- The law SearchOpens: its card: the law returns true,and what it was handed reads as it did. The row lists the package-level variables that the road reaches (laid);the card ties them to the program's text. (Printed by gen5/mkscards.py.) -/
import Derived.Test.YtccmcfpmknpccaaGreatDoorSO10
import Derived.Test.YtccmcfpmknpccaaGreatDoorCards
import Derived.Test.YtccmcfpmknpccaaGreatDoorTie
namespace Go.Proofs.YtccmcfpmknpccaaGreatDoor.searchOpens
open Go.ChangeShapes Go.WideShapes Go.ChangeAt Go.RowKit V
set_option maxHeartbeats 8000000
set_option maxRecDepth 100000
theorem resT:Tryz.f4.resultTypes=#[4]:=by kernel_rfl
theorem parT:Tryz.f4.params=#[32,23]:=by kernel_rfl
theorem readable:∀t∈Tryz.f4.params.toList,Tryz.prog.readableRec t=true∧t<Tryz.prog.types.size:=by
 rw[parT];intro t H;have H:t=32∨t=23:=by simpa using H
 rcases H with rfl|rfl
 all_goals exact⟨by kernel_rfl,of_decide_eq_true Jk⟩
theorem contract(H:Type)(Z:TypeId×Value→H)(W:World)(base:Nat)(args:Array Value)(ds gs:List (DataW H))(before:List MemPlace)(U:∀(j:Nat) t v,Tryz.f4.params[j]?=some t→args[j]?=some v→Value.okWide Tryz.prog W .any base t v)(hW:DataW.Whole Z Tryz.prog Tryz.f4.params.toList Rows.searchOpensSpec.vars false W args.toList ds gs before)(ad:(DataW.weightsEach Tryz.prog (Tryz.f4.params.toList++[]) (ds++gs)).all (·≤reachBytes)=true)(hL:laidMetH Tryz.prog qadg W)(aa:W.ShapedOpen Tryz.prog):
  Calls Tryz.prog 4 args W λe W'=>∃v,e=.returned v∧Rows.searchOpensSpec.post Z Tryz.prog Tryz.f4 false true false false W args v W':=by
 have ae:=hW;obtain⟨p,q,al,hV,ax,ay,az⟩:=hW;obtain⟨rfl,rfl⟩:=trodVars_none hV;have hA:DataW.TrodAll Z Tryz.prog W 0 (λ_=>true) true Tryz.f4.params.toList args.toList ds p:=al;rw[parT]at hA U;rw[List.append_nil,List.append_nil,parT]at ad;have af:=Opn.of hA ad;obtain⟨v0,a2,d0,a3,p0,q0,ak,rfl,rfl,a4,r0⟩:=trodAll_cons hA;obtain⟨v1,a5,d1,a6,p1,q1,V,rfl,rfl,a7,r1⟩:=trodAll_cons r0;obtain⟨rfl,rfl,rfl⟩:=trodAll_nil r1;subst V;obtain rfl:args=#[v0,v1]:=by cases args;simp_all
 obtain⟨a0,l0,c0,rfl⟩:=okWide_slice Tryz.underlying32 (U 0 32 v0 rfl rfl);obtain⟨A0,ag,am,ah,an,ao,aq⟩:=q0e (af 0 32 _ rfl rfl);obtain⟨a1,l1,c1,rfl⟩:=okWide_slice Tryz.underlying23 (U 1 23 v1 rfl rfl);obtain⟨A1,ai,ar,aj,au,av,aw⟩:=q5a (af 1 23 _ rfl rfl);rw[ah,aj];refine(qmk am A0 ag ar A1 ai W aq an ao aw au av (qac6 hL aa).S (qac6 hL aa).N (qac6 hL aa).G).2.mono λe W' ⟨v,he,hv,hx⟩=>?_;subst hv;rw[ah,aj]at ae;refine⟨_,he,q9k q80 readable ae rfl (λ_ _ _=>?_) rfl rfl hx (ok_one resT rfl (okWide_bool_mk Tryz.underlying4 _))⟩;rw[resT];exact trodAll_cons_mk (shut_bool Tryz.underlying4 _) trodAll_mk0
theorem met(H:Os):laidMetH Tryz.prog Rows.searchOpensRow.laid ((witP H).forCall (λ_ _=>0) ⟨#[],#[.slice none 0 0,.slice none 0 0],[]⟩).memory:=
 laidMetH_of_parts (laidMet_of_run' 8 Jk Jk) Jk
theorem reads(V:Os){H:Type}(U:TypeId×Value→H):∃qgm,DataW.whole U Tryz.prog ((witP V).forCall (λ_ _=>0) ⟨#[],#[.slice none 0 0,.slice none 0 0],[]⟩).memory Tryz.f4.params.toList Rows.searchOpensSpec.vars false (#[.slice none 0 0,.slice none 0 0]:Array Value).toList 8=some ([.nil,.nil],[],qgm):=
 ⟨[],by kernel_rfl⟩
theorem lifted(Z:Os)(V:Z.Started)(H:Type)(U:TypeId×Value→H)(F:Stop.Interp):
  ReturnsInHanded {} Tryz.checked Z 4 .any ((OpenSpec.ofChange Rows.searchOpensSpec).preRow U Tryz.prog Tryz.f4 Rows.searchOpensRow.domain false Rows.searchOpensRow.laid) (((OpenSpec.ofChange Rows.searchOpensSpec).at F).post U Tryz.prog Tryz.f4 false true false false):=by
 obtain⟨qgm,hx⟩:=reads Z U;refine returnsInHanded_of_row (C:=Tryz.checked) (s:=(OpenSpec.ofChange Rows.searchOpensSpec)) own V Jk Tryz.func4
  (witness_row_at (enc:=U) (C:=Tryz.checked) false (witP Z) #[.slice none 0 0,.slice none 0 0] rfl Jk Jk Jk
   (OpenSpec.preRow_of_cond 8 hx Jk (λk hk=>by cases hk) Jk (met Z))) ?_
 intro W base args ds gs before aa hW _ _ ad hL ae _;exact contract H U W base args ds gs before aa hW ad hL ae
theorem closed:joinedFacts Tryz.prog 4 Tryz.f4 Rows.searchOpensSpec Rows.searchOpensRow=true:=by
 unfold joinedFacts
 repeat' with_reducible refine andT ?_ ?_
 all_goals as_aux_lemma=>kernel_rfl
theorem named:Tryz.prog.funcNamed Rows.searchOpensRow.func=some 4:=by kernel_rfl
theorem inst:Tryz.f4.isInstance Tryz.prog Rows.searchOpensRow.origin Rows.searchOpensRow.targs:=of_decide_eq_true Jk
theorem wrap:Tryz.f4.isWrapper Tryz.prog Rows.searchOpensRow.wrapper Rows.searchOpensRow.mainSum:=by unfold Func.isWrapper;first|(rw[if_pos (by decide +kernel)];kernel_rfl)|(rw[if_neg (by decide +kernel)];exact⟨rfl,rfl⟩)
theorem said:Rows.SearchOpensSaid:=
 OpenClaim.holds_of_cond 4 Tryz.f4 rfl rfl rfl rfl rfl rfl rfl ⟨rfl,rfl,rfl,rfl,rfl⟩ rfl rfl rfl rfl rfl named Tryz.func4 closed inst wrap
  (λW U H V _ F=>by rw[OpenClaim.pre_eq_preRow];exact lifted W U H V F)
theorem plain(f:FuncId)(W:Func)(hf:Tryz.pinned.checked.prog.funcNamed "tessera/tesseralaw20.SearchOpens" = some f)(Z:Tryz.pinned.checked.prog.funcs[f]?=some W):
  true=Tryz.pinned.checked.prog.looks []∧∀(j:Nat) t,W.params[j]?=some t→Tryz.pinned.checked.prog.wantsStandIn t=false:=by
 obtain rfl:f=4:=Option.some.inj ((show Tryz.prog.funcNamed "tessera/tesseralaw20.SearchOpens" = some 4 by kernel_rfl).symm.trans hf) |>.symm;obtain rfl:W=Tryz.f4:=(Option.some.inj (Tryz.func4.symm.trans Z)).symm;refine⟨by kernel_rfl,λj t V=>?_⟩;rw[parT]at V;have V:t=32∨t=23:=by simpa using Array.mem_of_getElem? V
 rcases V with rfl|rfl
 ·exact(show Tryz.prog.wantsStandIn 32=false by kernel_rfl)
 ·exact(show Tryz.prog.wantsStandIn 23=false by kernel_rfl)
theorem card:Rows.SearchOpensCardSaid:=
 Claim7.holds_tied_plain_at .later [] _ _ _ _ said (λ_ h=>by cases h) Jk (λ_ h=>by cases h) searchOpens_row_tie rfl ⟨rfl,rfl⟩ Jk rfl plain (quj rfl qagp)
end Go.Proofs.YtccmcfpmknpccaaGreatDoor.searchOpens
#print axioms Go.Proofs.YtccmcfpmknpccaaGreatDoor.searchOpens.card
