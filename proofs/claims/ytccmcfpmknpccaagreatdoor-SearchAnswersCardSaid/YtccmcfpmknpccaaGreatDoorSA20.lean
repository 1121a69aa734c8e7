/- The law SearchAnswers: its card: the law returns true,and what it was handed reads as it did. The row lists the package-level variables that the road reaches (laid);the card ties them to the program's text. (Printed by gen5/mkscards.py.) -/
import Derived.Test.YtccmcfpmknpccaaGreatDoorSA19
import Derived.Test.YtccmcfpmknpccaaGreatDoorCards
import Derived.Test.YtccmcfpmknpccaaGreatDoorTie
namespace Go.Proofs.YtccmcfpmknpccaaGreatDoor.searchAnswers
open Go.ChangeShapes Go.WideShapes Go.ChangeAt Go.RowKit V
set_option maxHeartbeats 8000000
set_option maxRecDepth 100000
theorem resT:Tryz.f3.resultTypes=#[4]:=by kernel_rfl
theorem parT:Tryz.f3.params=#[22,22,23,24]:=by kernel_rfl
theorem readable:∀t∈Tryz.f3.params.toList,Tryz.prog.readableRec t=true∧t<Tryz.prog.types.size:=by
 rw[parT];intro t H;have H:t=22∨t=22∨t=23∨t=24:=by simpa using H
 rcases H with rfl|rfl|rfl|rfl
 all_goals exact⟨by kernel_rfl,of_decide_eq_true Jk⟩
theorem contract(H:Type)(ae:TypeId×Value→H)(W:World)(base:Nat)(args:Array Value)(ds gs:List (DataW H))(before:List MemPlace)(U:∀(j:Nat) t v,Tryz.f3.params[j]?=some t→args[j]?=some v→Value.okWide Tryz.prog W .any base t v)(hW:DataW.Whole ae Tryz.prog Tryz.f3.params.toList Rows.searchAnswersSpec.vars false W args.toList ds gs before)(ag:(DataW.weightsEach Tryz.prog (Tryz.f3.params.toList++[]) (ds++gs)).all (·≤reachBytes)=true)(hL:laidMetH Tryz.prog qafn W)(af:W.ShapedOpen Tryz.prog):
  Calls Tryz.prog 3 args W λe W'=>∃v,e=.returned v∧Rows.searchAnswersSpec.post ae Tryz.prog Tryz.f3 false true false false W args v W':=by
 have ah:=hW;obtain⟨p,q,au,hV,bg,bh,bi⟩:=hW;obtain⟨rfl,rfl⟩:=trodVars_none hV;have hA:DataW.TrodAll ae Tryz.prog W 0 (λ_=>true) true Tryz.f3.params.toList args.toList ds p:=au;rw[parT]at hA U;rw[List.append_nil,List.append_nil,parT]at ag;have V:=Opn.of hA ag;obtain⟨v0,bj,d0,bk,p0,q0,ar,rfl,rfl,bl,r0⟩:=trodAll_cons hA;obtain⟨v1,bm,d1,bn,p1,q1,Z,rfl,rfl,bo,r1⟩:=trodAll_cons r0;obtain⟨v2,bp,d2,bq,p2,q2,aa,rfl,rfl,br,r2⟩:=trodAll_cons r1;obtain⟨v3,bt,d3,bu,p3,q3,ad,rfl,rfl,bv,r3⟩:=trodAll_cons r2;obtain⟨rfl,rfl,rfl⟩:=trodAll_nil r3;subst ad;subst aa;subst Z;obtain rfl:args=#[v0,v1,v2,v3]:=by cases args;simp_all
 obtain⟨a0,l0,c0,rfl⟩:=okWide_slice Tryz.underlying22 (U 0 22 v0 rfl rfl);obtain⟨A0,ai,av,aj,aw,ax,ay⟩:=qoh (V 0 22 _ rfl rfl);obtain⟨a1,l1,c1,rfl⟩:=okWide_slice Tryz.underlying22 (U 1 22 v1 rfl rfl);obtain⟨A1,ak,az,al,a4,a5,a6⟩:=qoh (V 1 22 _ rfl rfl);obtain⟨a2,l2,c2,rfl⟩:=okWide_slice Tryz.underlying23 (U 2 23 v2 rfl rfl);obtain⟨A2,am,a7,an,a8,a9,ba⟩:=q5n (V 2 23 _ rfl rfl);obtain⟨a3,l3,c3,rfl⟩:=okWide_slice Tryz.underlying24 (U 3 24 v3 rfl rfl);obtain⟨A3,ao,bb,aq,be,bf⟩:=q0m (V 3 24 _ rfl rfl);rw[aj,al,an,aq];refine(qjv av A0 ai az A1 ak a7 A2 am bb A3 ao W ay aw ax a6 a4 a5 ba a8 a9 bf be (qafc hL af).S (qafc hL af).N (qafc hL af).G).2.mono λe W' ⟨v,he,hv,hx⟩=>?_;subst hv;rw[aj,al,an,aq]at ah;refine⟨_,he,qaat q91 readable ah rfl (λ_ _ _=>?_) rfl rfl hx (ok_one resT rfl (okWide_bool_mk Tryz.underlying4 _))⟩;rw[resT];exact trodAll_cons_mk (shut_bool Tryz.underlying4 _) trodAll_mk0
theorem met(H:Os):laidMetH Tryz.prog Rows.searchAnswersRow.laid ((witP H).forCall (λ_ _=>0) ⟨#[],#[.slice none 0 0,.slice none 0 0,.slice none 0 0,.slice none 0 0],[]⟩).memory:=
 laidMetH_of_parts (laidMet_of_run' 8 Jk Jk) Jk
theorem reads(V:Os){H:Type}(U:TypeId×Value→H):∃qg2,DataW.whole U Tryz.prog ((witP V).forCall (λ_ _=>0) ⟨#[],#[.slice none 0 0,.slice none 0 0,.slice none 0 0,.slice none 0 0],[]⟩).memory Tryz.f3.params.toList Rows.searchAnswersSpec.vars false (#[.slice none 0 0,.slice none 0 0,.slice none 0 0,.slice none 0 0]:Array Value).toList 8=some ([.nil,.nil,.nil,.nil],[],qg2):=
 ⟨[],by kernel_rfl⟩
theorem lifted(Z:Os)(V:Z.Started)(H:Type)(U:TypeId×Value→H)(F:Stop.Interp):
  ReturnsInHanded {} Tryz.checked Z 3 .any ((OpenSpec.ofChange Rows.searchAnswersSpec).preRow U Tryz.prog Tryz.f3 Rows.searchAnswersRow.domain false Rows.searchAnswersRow.laid) (((OpenSpec.ofChange Rows.searchAnswersSpec).at F).post U Tryz.prog Tryz.f3 false true false false):=by
 obtain⟨qg2,hx⟩:=reads Z U;refine returnsInHanded_of_row (C:=Tryz.checked) (s:=(OpenSpec.ofChange Rows.searchAnswersSpec)) own V Jk Tryz.func3
  (witness_row_at (enc:=U) (C:=Tryz.checked) false (witP Z) #[.slice none 0 0,.slice none 0 0,.slice none 0 0,.slice none 0 0] rfl Jk Jk Jk
   (OpenSpec.preRow_of_cond 8 hx Jk (λk hk=>by cases hk) Jk (met Z))) ?_
 intro W base args ds gs before aa hW _ _ ad hL ae _;exact contract H U W base args ds gs before aa hW ad hL ae
theorem closed:joinedFacts Tryz.prog 3 Tryz.f3 Rows.searchAnswersSpec Rows.searchAnswersRow=true:=by
 unfold joinedFacts
 repeat' with_reducible refine andT ?_ ?_
 all_goals as_aux_lemma=>kernel_rfl
theorem named:Tryz.prog.funcNamed Rows.searchAnswersRow.func=some 3:=by kernel_rfl
theorem inst:Tryz.f3.isInstance Tryz.prog Rows.searchAnswersRow.origin Rows.searchAnswersRow.targs:=of_decide_eq_true Jk
theorem wrap:Tryz.f3.isWrapper Tryz.prog Rows.searchAnswersRow.wrapper Rows.searchAnswersRow.mainSum:=by unfold Func.isWrapper;first|(rw[if_pos (by decide +kernel)];kernel_rfl)|(rw[if_neg (by decide +kernel)];exact⟨rfl,rfl⟩)
theorem said:Rows.SearchAnswersSaid:=
 OpenClaim.holds_of_cond 3 Tryz.f3 rfl rfl rfl rfl rfl rfl rfl ⟨rfl,rfl,rfl,rfl,rfl⟩ rfl rfl rfl rfl rfl named Tryz.func3 closed inst wrap
  (λW U H V _ F=>by rw[OpenClaim.pre_eq_preRow];exact lifted W U H V F)
theorem plain(f:FuncId)(W:Func)(hf:Tryz.pinned.checked.prog.funcNamed "tessera/tesseralaw20.SearchAnswers" = some f)(Z:Tryz.pinned.checked.prog.funcs[f]?=some W):
  true=Tryz.pinned.checked.prog.looks []∧∀(j:Nat) t,W.params[j]?=some t→Tryz.pinned.checked.prog.wantsStandIn t=false:=by
 obtain rfl:f=3:=Option.some.inj ((show Tryz.prog.funcNamed "tessera/tesseralaw20.SearchAnswers" = some 3 by kernel_rfl).symm.trans hf) |>.symm;obtain rfl:W=Tryz.f3:=(Option.some.inj (Tryz.func3.symm.trans Z)).symm;refine⟨by kernel_rfl,λj t V=>?_⟩;rw[parT]at V;have V:t=22∨t=22∨t=23∨t=24:=by simpa using Array.mem_of_getElem? V
 rcases V with rfl|rfl|rfl|rfl
 ·exact(show Tryz.prog.wantsStandIn 22=false by kernel_rfl)
 ·exact(show Tryz.prog.wantsStandIn 22=false by kernel_rfl)
 ·exact(show Tryz.prog.wantsStandIn 23=false by kernel_rfl)
 ·exact(show Tryz.prog.wantsStandIn 24=false by kernel_rfl)
theorem card:Rows.SearchAnswersCardSaid:=
 Claim7.holds_tied_plain_at .later [] _ _ _ _ said (λ_ h=>by cases h) Jk (λ_ h=>by cases h) searchAnswers_row_tie rfl ⟨rfl,rfl⟩ Jk rfl plain (quw rfl qajt)
end Go.Proofs.YtccmcfpmknpccaaGreatDoor.searchAnswers
#print axioms Go.Proofs.YtccmcfpmknpccaaGreatDoor.searchAnswers.card
