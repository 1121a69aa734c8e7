/- The law SearchTerms: its card: the law returns true,and what it was handed reads as it did. The row lists the package-level variables that the road reaches (laid);the card ties them to the program's text. (Printed by gen5/mkscards.py.) -/
import Derived.Test.YtccmcfpmknpccaaGreatDoorST15
import Derived.Test.YtccmcfpmknpccaaGreatDoorCards
import Derived.Test.YtccmcfpmknpccaaGreatDoorTie
namespace Go.Proofs.YtccmcfpmknpccaaGreatDoor.searchTerms
open Go.ChangeShapes Go.WideShapes Go.ChangeAt Go.RowKit V
set_option maxHeartbeats 8000000
set_option maxRecDepth 100000
theorem resT:Tryz.f5.resultTypes=#[4]:=by kernel_rfl
theorem parT:Tryz.f5.params=#[22,47,3]:=by kernel_rfl
theorem readable:∀t∈Tryz.f5.params.toList,Tryz.prog.readableRec t=true∧t<Tryz.prog.types.size:=by
 rw[parT];intro t H;have H:t=22∨t=47∨t=3:=by simpa using H
 rcases H with rfl|rfl|rfl
 all_goals exact⟨by kernel_rfl,of_decide_eq_true Jk⟩
theorem contract(H:Type)(ab:TypeId×Value→H)(W:World)(base:Nat)(args:Array Value)(ds gs:List (DataW H))(before:List MemPlace)(O:∀(j:Nat) t v,Tryz.f5.params[j]?=some t→args[j]?=some v→Value.okWide Tryz.prog W .any base t v)(hW:DataW.Whole ab Tryz.prog Tryz.f5.params.toList Rows.searchTermsSpec.vars false W args.toList ds gs before)(ae:(DataW.weightsEach Tryz.prog (Tryz.f5.params.toList++[]) (ds++gs)).all (·≤reachBytes)=true)(hL:laidMetH Tryz.prog q76 W)(ac:W.ShapedOpen Tryz.prog):
  Calls Tryz.prog 5 args W λe W'=>∃v,e=.returned v∧Rows.searchTermsSpec.post ab Tryz.prog Tryz.f5 false true false false W args v W':=by
 have af:=hW;obtain⟨p,q,al,hV,aq,ar,au⟩:=hW;obtain⟨rfl,rfl⟩:=trodVars_none hV;have hA:DataW.TrodAll ab Tryz.prog W 0 (λ_=>true) true Tryz.f5.params.toList args.toList ds p:=al;rw[parT]at hA O;rw[List.append_nil,List.append_nil,parT]at ae;have ad:=Opn.of hA ae;obtain⟨v0,av,d0,aw,p0,q0,ak,rfl,rfl,ax,r0⟩:=trodAll_cons hA;obtain⟨v1,ay,d1,az,p1,q1,U,rfl,rfl,a1,r1⟩:=trodAll_cons r0;obtain⟨v2,a2,d2,a3,p2,q2,Z,rfl,rfl,a4,r2⟩:=trodAll_cons r1;obtain⟨rfl,rfl,rfl⟩:=trodAll_nil r2;subst Z;subst U;obtain rfl:args=#[v0,v1,v2]:=by cases args;simp_all
 obtain⟨a0,l0,c0,rfl⟩:=okWide_slice Tryz.underlying22 (O 0 22 v0 rfl rfl);obtain⟨A0,ag,ah,ai,am,an,ao⟩:=qu1 (ad 0 22 _ rfl rfl);obtain⟨cs,rfl,_⟩:=okWide_struct Tryz.underlying47 (O 1 47 v1 rfl rfl);obtain⟨pq,aa,aj⟩:=qn7 (ad 1 47 _ rfl rfl);replace aa:Value.agg cs=qw pq:=by
  have e:cs=(qe pq).toArray:=by rw[← aa];exact(Array.toArray_toList (xs:=cs)).symm
  rw[e];rfl
 obtain⟨n2,rfl⟩:=okWide_int Tryz.underlying3 (O 2 3 v2 rfl rfl);have a5:InR .i64 n2:=by
  obtain⟨m,e,h⟩:=Opn.int (c:=ii n2) Tryz.underlying3 (ad 2 3 _ rfl rfl);cases e;exact q55 h
 rw[ai,aa];refine(qji ah A0 ah.length ag pq n2 W ao rfl am an aj ⟨(q70 hL ac).S,(q70 hL ac).N,(q70 hL ac).G⟩).2.mono λe W' ⟨v,he,hv,hx⟩=>?_;subst hv;rw[ai,aa]at af;refine⟨_,he,q37 q3h readable af rfl (λ_ _ _=>?_) rfl rfl hx (ok_one resT rfl (okWide_bool_mk Tryz.underlying4 _))⟩;rw[resT];exact trodAll_cons_mk (shut_bool Tryz.underlying4 _) trodAll_mk0
theorem met(H:Os):laidMetH Tryz.prog Rows.searchTermsRow.laid ((witP H).forCall (λ_ _=>0) ⟨#[],#[.slice none 0 0,.agg #[ii 0,.string ⟨#[]⟩,.string ⟨#[]⟩,.string ⟨#[]⟩,ii 0,.string ⟨#[]⟩,.string ⟨#[]⟩,.string ⟨#[]⟩,ii 0,.string ⟨#[]⟩,.string ⟨#[]⟩,.string ⟨#[]⟩,ii 0,.string ⟨#[]⟩,.string ⟨#[]⟩,.string ⟨#[]⟩],ii 0],[]⟩).memory:=
 laidMetH_of_parts (laidMet_of_run' 8 Jk Jk) Jk
theorem reads(U:Os){H:Type}(O:TypeId×Value→H):∃qe0,DataW.whole O Tryz.prog ((witP U).forCall (λ_ _=>0) ⟨#[],#[.slice none 0 0,.agg #[ii 0,.string ⟨#[]⟩,.string ⟨#[]⟩,.string ⟨#[]⟩,ii 0,.string ⟨#[]⟩,.string ⟨#[]⟩,.string ⟨#[]⟩,ii 0,.string ⟨#[]⟩,.string ⟨#[]⟩,.string ⟨#[]⟩,ii 0,.string ⟨#[]⟩,.string ⟨#[]⟩,.string ⟨#[]⟩],ii 0],[]⟩).memory Tryz.f5.params.toList Rows.searchTermsSpec.vars false (#[.slice none 0 0,.agg #[ii 0,.string ⟨#[]⟩,.string ⟨#[]⟩,.string ⟨#[]⟩,ii 0,.string ⟨#[]⟩,.string ⟨#[]⟩,.string ⟨#[]⟩,ii 0,.string ⟨#[]⟩,.string ⟨#[]⟩,.string ⟨#[]⟩,ii 0,.string ⟨#[]⟩,.string ⟨#[]⟩,.string ⟨#[]⟩],ii 0]:Array Value).toList 8=some ([.nil,.agg [.agg [.lit (.int .i64 0),.lit (.string []),.lit (.string []),.lit (.string [])],.agg [.lit (.int .i64 0),.lit (.string []),.lit (.string []),.lit (.string [])],.agg [.lit (.int .i64 0),.lit (.string []),.lit (.string []),.lit (.string [])],.agg [.lit (.int .i64 0),.lit (.string []),.lit (.string []),.lit (.string [])]],.lit (.int .i64 0)],[],qe0):=
 ⟨[],by kernel_rfl⟩
theorem lifted(Z:Os)(U:Z.Started)(H:Type)(O:TypeId×Value→H)(F:Stop.Interp):
  ReturnsInHanded {} Tryz.checked Z 5 .any ((OpenSpec.ofChange Rows.searchTermsSpec).preRow O Tryz.prog Tryz.f5 Rows.searchTermsRow.domain false Rows.searchTermsRow.laid) (((OpenSpec.ofChange Rows.searchTermsSpec).at F).post O Tryz.prog Tryz.f5 false true false false):=by
 obtain⟨qe0,hx⟩:=reads Z O;refine returnsInHanded_of_row (C:=Tryz.checked) (s:=(OpenSpec.ofChange Rows.searchTermsSpec)) own U Jk Tryz.func5
  (witness_row_at (enc:=O) (C:=Tryz.checked) false (witP Z) #[.slice none 0 0,.agg #[ii 0,.string ⟨#[]⟩,.string ⟨#[]⟩,.string ⟨#[]⟩,ii 0,.string ⟨#[]⟩,.string ⟨#[]⟩,.string ⟨#[]⟩,ii 0,.string ⟨#[]⟩,.string ⟨#[]⟩,.string ⟨#[]⟩,ii 0,.string ⟨#[]⟩,.string ⟨#[]⟩,.string ⟨#[]⟩],ii 0] rfl Jk Jk Jk
   (OpenSpec.preRow_of_cond 8 hx Jk (λk hk=>by cases hk) Jk (met Z))) ?_
 intro W base args ds gs before aa hW _ _ ab hL ac _;exact contract H O W base args ds gs before aa hW ab hL ac
theorem closed:joinedFacts Tryz.prog 5 Tryz.f5 Rows.searchTermsSpec Rows.searchTermsRow=true:=by
 unfold joinedFacts
 repeat' with_reducible refine andT ?_ ?_
 all_goals as_aux_lemma=>kernel_rfl
theorem named:Tryz.prog.funcNamed Rows.searchTermsRow.func=some 5:=by kernel_rfl
theorem inst:Tryz.f5.isInstance Tryz.prog Rows.searchTermsRow.origin Rows.searchTermsRow.targs:=of_decide_eq_true Jk
theorem wrap:Tryz.f5.isWrapper Tryz.prog Rows.searchTermsRow.wrapper Rows.searchTermsRow.mainSum:=by unfold Func.isWrapper;first|(rw[if_pos (by decide +kernel)];kernel_rfl)|(rw[if_neg (by decide +kernel)];exact⟨rfl,rfl⟩)
theorem said:Rows.SearchTermsSaid:=
 OpenClaim.holds_of_cond 5 Tryz.f5 rfl rfl rfl rfl rfl rfl rfl ⟨rfl,rfl,rfl,rfl,rfl⟩ rfl rfl rfl rfl rfl named Tryz.func5 closed inst wrap
  (λW O H U _ F=>by rw[OpenClaim.pre_eq_preRow];exact lifted W O H U F)
theorem plain(f:FuncId)(W:Func)(hf:Tryz.pinned.checked.prog.funcNamed "tessera/tesseralaw20.SearchTerms" = some f)(Z:Tryz.pinned.checked.prog.funcs[f]?=some W):
  true=Tryz.pinned.checked.prog.looks []∧∀(j:Nat) t,W.params[j]?=some t→Tryz.pinned.checked.prog.wantsStandIn t=false:=by
 obtain rfl:f=5:=Option.some.inj ((show Tryz.prog.funcNamed "tessera/tesseralaw20.SearchTerms" = some 5 by kernel_rfl).symm.trans hf) |>.symm;obtain rfl:W=Tryz.f5:=(Option.some.inj (Tryz.func5.symm.trans Z)).symm;refine⟨by kernel_rfl,λj t U=>?_⟩;rw[parT]at U;have U:t=22∨t=47∨t=3:=by simpa using Array.mem_of_getElem? U
 rcases U with rfl|rfl|rfl
 ·exact(show Tryz.prog.wantsStandIn 22=false by kernel_rfl)
 ·exact(show Tryz.prog.wantsStandIn 47=false by kernel_rfl)
 ·exact(show Tryz.prog.wantsStandIn 3=false by kernel_rfl)
theorem card:Rows.SearchTermsCardSaid:=
 Claim7.holds_tied_plain_at .later [] _ _ _ _ said (λ_ h=>by cases h) Jk (λ_ h=>by cases h) searchTerms_row_tie rfl ⟨rfl,rfl⟩ Jk rfl plain (qpy rfl qabw)
end Go.Proofs.YtccmcfpmknpccaaGreatDoor.searchTerms
#print axioms Go.Proofs.YtccmcfpmknpccaaGreatDoor.searchTerms.card
