/- The law SearchBegins: its card: the law returns true,and what it was handed reads as it did. The row lists the package-level variables that the road reaches (laid);the card ties them to the program's text. (Printed by gen5/mkscards.py.) -/
import Derived.Test.YtccmcfpmknpccaaGreatDoorSB15
import Derived.Test.YtccmcfpmknpccaaGreatDoorCards
import Derived.Test.YtccmcfpmknpccaaGreatDoorTie
namespace Go.Proofs.YtccmcfpmknpccaaGreatDoor.searchBegins
open Go.ChangeShapes Go.WideShapes Go.ChangeAt Go.RowKit V
set_option maxHeartbeats 8000000
set_option maxRecDepth 100000
theorem resT:Tryz.f6.resultTypes=#[4]:=by kernel_rfl
theorem parT:Tryz.f6.params=#[22,47,3,9,9]:=by kernel_rfl
theorem readable:∀t∈Tryz.f6.params.toList,Tryz.prog.readableRec t=true∧t<Tryz.prog.types.size:=by
 rw[parT];intro t H;have H:t=22∨t=47∨t=3∨t=9∨t=9:=by simpa using H
 rcases H with rfl|rfl|rfl|rfl|rfl
 all_goals exact⟨by kernel_rfl,of_decide_eq_true Jk⟩
theorem contract(H:Type)(ae:TypeId×Value→H)(W:World)(base:Nat)(args:Array Value)(ds gs:List (DataW H))(before:List MemPlace)(O:∀(j:Nat) t v,Tryz.f6.params[j]?=some t→args[j]?=some v→Value.okWide Tryz.prog W .any base t v)(hW:DataW.Whole ae Tryz.prog Tryz.f6.params.toList Rows.searchBeginsSpec.vars false W args.toList ds gs before)(ag:(DataW.weightsEach Tryz.prog (Tryz.f6.params.toList++[]) (ds++gs)).all (·≤reachBytes)=true)(hL:laidMetH Tryz.prog q77 W)(af:W.ShapedOpen Tryz.prog):
  Calls Tryz.prog 6 args W λe W'=>∃v,e=.returned v∧Rows.searchBeginsSpec.post ae Tryz.prog Tryz.f6 false true false false W args v W':=by
 have ah:=hW;obtain⟨p,q,an,hV,aw,ax,ay⟩:=hW;obtain⟨rfl,rfl⟩:=trodVars_none hV;have hA:DataW.TrodAll ae Tryz.prog W 0 (λ_=>true) true Tryz.f6.params.toList args.toList ds p:=an;rw[parT]at hA O;rw[List.append_nil,List.append_nil,parT]at ag;have U:=Opn.of hA ag;obtain⟨v0,az,d0,a1,p0,q0,am,rfl,rfl,a2,r0⟩:=trodAll_cons hA;obtain⟨v1,a3,d1,a4,p1,q1,Z,rfl,rfl,a5,r1⟩:=trodAll_cons r0;obtain⟨v2,a6,d2,a7,p2,q2,aa,rfl,rfl,a8,r2⟩:=trodAll_cons r1;obtain⟨v3,a9,d3,ba,p3,q3,ab,rfl,rfl,bb,r3⟩:=trodAll_cons r2;obtain⟨v4,bc,d4,bd,p4,q4,ac,rfl,rfl,be,r4⟩:=trodAll_cons r3;obtain⟨rfl,rfl,rfl⟩:=trodAll_nil r4;subst ac;subst ab;subst aa;subst Z;obtain rfl:args=#[v0,v1,v2,v3,v4]:=by cases args;simp_all
 obtain⟨a0,l0,c0,rfl⟩:=okWide_slice Tryz.underlying22 (O 0 22 v0 rfl rfl);obtain⟨A0,ai,aj,ak,ao,aq,ar⟩:=qu1 (U 0 22 _ rfl rfl);obtain⟨cs,rfl,_⟩:=okWide_struct Tryz.underlying47 (O 1 47 v1 rfl rfl);obtain⟨pq,ad,al⟩:=qn6 (U 1 47 _ rfl rfl);replace ad:Value.agg cs=qv pq:=by
  have e:cs=(qe pq).toArray:=by rw[← ad];exact(Array.toArray_toList (xs:=cs)).symm
  rw[e];rfl
 obtain⟨n2,rfl⟩:=okWide_int Tryz.underlying3 (O 2 3 v2 rfl rfl);have bf:InR .i64 n2:=by
  obtain⟨m,e,h⟩:=Opn.int (c:=ii n2) Tryz.underlying3 (U 2 3 _ rfl rfl);cases e;exact q56 h
 obtain⟨s3,rfl⟩:=okWide_string Tryz.underlying9 (O 3 9 v3 rfl rfl);have au:s3.size≤140737488355328:=by
  obtain⟨s,e,h⟩:=qf1 (c:=.string s3) (U 3 9 _ rfl rfl);cases e;exact h
 obtain⟨s4,rfl⟩:=okWide_string Tryz.underlying9 (O 4 9 v4 rfl rfl);have av:s4.size≤140737488355328:=by
  obtain⟨s,e,h⟩:=qf1 (c:=.string s4) (U 4 9 _ rfl rfl);cases e;exact h
 rw[ak,ad];refine(qh5 aj A0 aj.length ai pq n2 s3 s4 W ar rfl ao aq al au av ⟨(q71 hL af).S,(q71 hL af).N,(q71 hL af).G⟩).2.mono λe W' ⟨v,he,hv,hx⟩=>?_;subst hv;rw[ak,ad]at ah;refine⟨_,he,q39 q3i readable ah rfl (λ_ _ _=>?_) rfl rfl hx (ok_one resT rfl (okWide_bool_mk Tryz.underlying4 _))⟩;rw[resT];exact trodAll_cons_mk (shut_bool Tryz.underlying4 _) trodAll_mk0
theorem met(H:Os):laidMetH Tryz.prog Rows.searchBeginsRow.laid ((witP H).forCall (λ_ _=>0) ⟨#[],#[.slice none 0 0,.agg #[ii 0,.string ⟨#[]⟩,.string ⟨#[]⟩,.string ⟨#[]⟩,ii 0,.string ⟨#[]⟩,.string ⟨#[]⟩,.string ⟨#[]⟩,ii 0,.string ⟨#[]⟩,.string ⟨#[]⟩,.string ⟨#[]⟩,ii 0,.string ⟨#[]⟩,.string ⟨#[]⟩,.string ⟨#[]⟩],ii 0,.string ⟨#[]⟩,.string ⟨#[]⟩],[]⟩).memory:=
 laidMetH_of_parts (laidMet_of_run' 8 Jk Jk) Jk
theorem reads(U:Os){H:Type}(O:TypeId×Value→H):∃qez,DataW.whole O Tryz.prog ((witP U).forCall (λ_ _=>0) ⟨#[],#[.slice none 0 0,.agg #[ii 0,.string ⟨#[]⟩,.string ⟨#[]⟩,.string ⟨#[]⟩,ii 0,.string ⟨#[]⟩,.string ⟨#[]⟩,.string ⟨#[]⟩,ii 0,.string ⟨#[]⟩,.string ⟨#[]⟩,.string ⟨#[]⟩,ii 0,.string ⟨#[]⟩,.string ⟨#[]⟩,.string ⟨#[]⟩],ii 0,.string ⟨#[]⟩,.string ⟨#[]⟩],[]⟩).memory Tryz.f6.params.toList Rows.searchBeginsSpec.vars false (#[.slice none 0 0,.agg #[ii 0,.string ⟨#[]⟩,.string ⟨#[]⟩,.string ⟨#[]⟩,ii 0,.string ⟨#[]⟩,.string ⟨#[]⟩,.string ⟨#[]⟩,ii 0,.string ⟨#[]⟩,.string ⟨#[]⟩,.string ⟨#[]⟩,ii 0,.string ⟨#[]⟩,.string ⟨#[]⟩,.string ⟨#[]⟩],ii 0,.string ⟨#[]⟩,.string ⟨#[]⟩]:Array Value).toList 8=some ([.nil,.agg [.agg [.lit (.int .i64 0),.lit (.string []),.lit (.string []),.lit (.string [])],.agg [.lit (.int .i64 0),.lit (.string []),.lit (.string []),.lit (.string [])],.agg [.lit (.int .i64 0),.lit (.string []),.lit (.string []),.lit (.string [])],.agg [.lit (.int .i64 0),.lit (.string []),.lit (.string []),.lit (.string [])]],.lit (.int .i64 0),.lit (.string []),.lit (.string [])],[],qez):=
 ⟨[],by kernel_rfl⟩
theorem lifted(Z:Os)(U:Z.Started)(H:Type)(O:TypeId×Value→H)(F:Stop.Interp):
  ReturnsInHanded {} Tryz.checked Z 6 .any ((OpenSpec.ofChange Rows.searchBeginsSpec).preRow O Tryz.prog Tryz.f6 Rows.searchBeginsRow.domain false Rows.searchBeginsRow.laid) (((OpenSpec.ofChange Rows.searchBeginsSpec).at F).post O Tryz.prog Tryz.f6 false true false false):=by
 obtain⟨qez,hx⟩:=reads Z O;refine returnsInHanded_of_row (C:=Tryz.checked) (s:=(OpenSpec.ofChange Rows.searchBeginsSpec)) own U Jk Tryz.func6
  (witness_row_at (enc:=O) (C:=Tryz.checked) false (witP Z) #[.slice none 0 0,.agg #[ii 0,.string ⟨#[]⟩,.string ⟨#[]⟩,.string ⟨#[]⟩,ii 0,.string ⟨#[]⟩,.string ⟨#[]⟩,.string ⟨#[]⟩,ii 0,.string ⟨#[]⟩,.string ⟨#[]⟩,.string ⟨#[]⟩,ii 0,.string ⟨#[]⟩,.string ⟨#[]⟩,.string ⟨#[]⟩],ii 0,.string ⟨#[]⟩,.string ⟨#[]⟩] rfl Jk Jk Jk
   (OpenSpec.preRow_of_cond 8 hx Jk (λk hk=>by cases hk) Jk (met Z))) ?_
 intro W base args ds gs before aa hW _ _ ab hL ac _;exact contract H O W base args ds gs before aa hW ab hL ac
theorem closed:joinedFacts Tryz.prog 6 Tryz.f6 Rows.searchBeginsSpec Rows.searchBeginsRow=true:=by
 unfold joinedFacts
 repeat' with_reducible refine andT ?_ ?_
 all_goals as_aux_lemma=>kernel_rfl
theorem named:Tryz.prog.funcNamed Rows.searchBeginsRow.func=some 6:=by kernel_rfl
theorem inst:Tryz.f6.isInstance Tryz.prog Rows.searchBeginsRow.origin Rows.searchBeginsRow.targs:=of_decide_eq_true Jk
theorem wrap:Tryz.f6.isWrapper Tryz.prog Rows.searchBeginsRow.wrapper Rows.searchBeginsRow.mainSum:=by unfold Func.isWrapper;first|(rw[if_pos (by decide +kernel)];kernel_rfl)|(rw[if_neg (by decide +kernel)];exact⟨rfl,rfl⟩)
theorem said:Rows.SearchBeginsSaid:=
 OpenClaim.holds_of_cond 6 Tryz.f6 rfl rfl rfl rfl rfl rfl rfl ⟨rfl,rfl,rfl,rfl,rfl⟩ rfl rfl rfl rfl rfl named Tryz.func6 closed inst wrap
  (λW O H U _ F=>by rw[OpenClaim.pre_eq_preRow];exact lifted W O H U F)
theorem plain(f:FuncId)(W:Func)(hf:Tryz.pinned.checked.prog.funcNamed "tessera/tesseralaw20.SearchBegins" = some f)(Z:Tryz.pinned.checked.prog.funcs[f]?=some W):
  true=Tryz.pinned.checked.prog.looks []∧∀(j:Nat) t,W.params[j]?=some t→Tryz.pinned.checked.prog.wantsStandIn t=false:=by
 obtain rfl:f=6:=Option.some.inj ((show Tryz.prog.funcNamed "tessera/tesseralaw20.SearchBegins" = some 6 by kernel_rfl).symm.trans hf) |>.symm;obtain rfl:W=Tryz.f6:=(Option.some.inj (Tryz.func6.symm.trans Z)).symm;refine⟨by kernel_rfl,λj t U=>?_⟩;rw[parT]at U;have U:t=22∨t=47∨t=3∨t=9∨t=9:=by simpa using Array.mem_of_getElem? U
 rcases U with rfl|rfl|rfl|rfl|rfl
 ·exact(show Tryz.prog.wantsStandIn 22=false by kernel_rfl)
 ·exact(show Tryz.prog.wantsStandIn 47=false by kernel_rfl)
 ·exact(show Tryz.prog.wantsStandIn 3=false by kernel_rfl)
 ·exact(show Tryz.prog.wantsStandIn 9=false by kernel_rfl)
 ·exact(show Tryz.prog.wantsStandIn 9=false by kernel_rfl)
theorem card:Rows.SearchBeginsCardSaid:=
 Claim7.holds_tied_plain_at .later [] _ _ _ _ said (λ_ h=>by cases h) Jk (λ_ h=>by cases h) searchBegins_row_tie rfl ⟨rfl,rfl⟩ Jk rfl plain (qpy rfl qabw)
end Go.Proofs.YtccmcfpmknpccaaGreatDoor.searchBegins
#print axioms Go.Proofs.YtccmcfpmknpccaaGreatDoor.searchBegins.card
