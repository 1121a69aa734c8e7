/- Part 11 of 11. -/
import Derived.Test.YtacnkdagblbgfaaGreatDoorMS10
import Derived.Test.YtacnkdagblbgfaaGreatDoorCards
import Derived.Test.YtacnkdagblbgfaaGreatDoorTie
namespace Go.Proofs.YtacnkdagblbgfaaGreatDoor.mergeSets
open Go.ChangeShapes Go.WideShapes Go.ChangeAt Go.RowKit V
set_option maxHeartbeats 8000000
set_option maxRecDepth 100000
theorem resT:Tryz.f4.resultTypes=#[4]:=by kernel_rfl
theorem parT:Tryz.f4.params=#[22,26,3,3]:=by kernel_rfl
theorem readable:∀t∈Tryz.f4.params.toList,Tryz.prog.readableRec t=true∧t<Tryz.prog.types.size:=by
 rw[parT];intro t ht;have ht:t=22∨t=26∨t=3∨t=3:=by simpa using ht
 rcases ht with rfl|rfl|rfl|rfl
 all_goals exact⟨by kernel_rfl,of_decide_eq_true Jk⟩
theorem contract(H:Type)(enc:TypeId×Value→H)(W:World)(base:Nat)(args:Array Value)(ds gs:List (DataW H))(before:List MemPlace)(hval:∀(j:Nat) t v,Tryz.f4.params[j]?=some t→args[j]?=some v→Value.okWide Tryz.prog W .any base t v)(hW:DataW.Whole enc Tryz.prog Tryz.f4.params.toList Rows.mergeSetsSpec.vars false W args.toList ds gs before)(hsz:(DataW.weightsEach Tryz.prog (Tryz.f4.params.toList++[]) (ds++gs)).all (·≤reachBytes)=true)(hL:laidMetH Tryz.prog qaac W)(hsh:W.ShapedOpen Tryz.prog):
  Calls Tryz.prog 4 args W fun e W'=>∃v,e=.returned v∧Rows.mergeSetsSpec.post enc Tryz.prog Tryz.f4 false true false false W args v W':=by
 have hW':=hW;obtain⟨p,q,hA0,hV,hpq,hfz,hnd⟩:=hW;obtain⟨rfl,rfl⟩:=trodVars_none hV;have hA:DataW.TrodAll enc Tryz.prog W 0 (fun _=>true) true Tryz.f4.params.toList args.toList ds p:=hA0;rw[parT]at hA hval;rw[List.append_nil,List.append_nil,parT]at hsz;have hop:=Opn.of hA hsz;obtain⟨v0,vs0,d0,ds0,p0,q0,hargs0,rfl,rfl,h00,r0⟩:=trodAll_cons hA;obtain⟨v1,vs1,d1,ds1,p1,q1,hargs1,rfl,rfl,h01,r1⟩:=trodAll_cons r0;obtain⟨v2,vs2,d2,ds2,p2,q2,hargs2,rfl,rfl,h02,r2⟩:=trodAll_cons r1;obtain⟨v3,vs3,d3,ds3,p3,q3,hargs3,rfl,rfl,h03,r3⟩:=trodAll_cons r2;obtain⟨rfl,rfl,rfl⟩:=trodAll_nil r3;subst hargs3;subst hargs2;subst hargs1;obtain rfl:args=#[v0,v1,v2,v3]:=by cases args;simp_all
 obtain⟨a0,l0,c0,rfl⟩:=okWide_slice Tryz.underlying22 (hval 0 22 v0 rfl rfl);obtain⟨A0,cap0,ps,hp0,hq1,hq2,hq3⟩:=qx9 (hop 0 22 _ rfl rfl);obtain⟨cs,rfl,_⟩:=okWide_struct Tryz.underlying26 (hval 1 26 v1 rfl rfl);obtain⟨pq,hp1,hpq1⟩:=qri (hop 1 26 _ rfl rfl);have hp1:Value.agg cs=qk pq:=by
  have h:cs.toList=qd pq:=hp1;have h2:cs=(qd pq).toArray:=by rw[← h]
  rw[h2];rfl
 obtain⟨n2,rfl⟩:=okWide_int Tryz.underlying3 (hval 2 3 v2 rfl rfl);have hi2:InR .i64 n2:=by
  obtain⟨m,e,h⟩:=Opn.int (c:=ii n2) Tryz.underlying3 (hop 2 3 _ rfl rfl);cases e;exact q03 h
 obtain⟨n3,rfl⟩:=okWide_int Tryz.underlying3 (hval 3 3 v3 rfl rfl);have hi3:InR .i64 n3:=by
  obtain⟨m,e,h⟩:=Opn.int (c:=ii n3) Tryz.underlying3 (hop 3 3 _ rfl rfl);cases e;exact q03 h
 rw[hp0,hp1];refine(qo6 ps A0 ps.length cap0 pq n2 n3 W hq3 rfl hq1 (fun d hd=>(hq2 d hd).1) (fun d hd=>(hq2 d hd).2.1) (fun d hd=>(hq2 d hd).2.2) hpq1 hi2 hi3 (q92 hL hsh).S (q92 hL hsh).N (q92 hL hsh).G).2.mono fun e W' ⟨v,he,hv,hx⟩=>?_;subst hv;rw[hp0,hp1]at hW';refine⟨_,he,q6f q5r readable hW' rfl (fun _ _ _=>?_) rfl rfl hx (ok_one resT rfl (okWide_bool_mk Tryz.underlying4 _))⟩;rw[resT];exact trodAll_cons_mk (shut_bool Tryz.underlying4 _) trodAll_mk0
theorem met(os:Os):laidMetH Tryz.prog Rows.mergeSetsRow.laid ((witP os).forCall (fun _ _=>0) ⟨#[],#[.slice none 0 0,.agg #[ii 0,.string ⟨#[]⟩,.string ⟨#[]⟩,.string ⟨#[]⟩,ii 0,.string ⟨#[]⟩,.string ⟨#[]⟩,.string ⟨#[]⟩,ii 0,.string ⟨#[]⟩,.string ⟨#[]⟩,.string ⟨#[]⟩,ii 0,.string ⟨#[]⟩,.string ⟨#[]⟩,.string ⟨#[]⟩],ii 0,ii 0],[]⟩).memory:=
 laidMetH_of_parts (laidMet_of_run' 8 Jk Jk) Jk
theorem reads(os:Os){H:Type}(enc:TypeId×Value→H):∃qd0,DataW.whole enc Tryz.prog ((witP os).forCall (fun _ _=>0) ⟨#[],#[.slice none 0 0,.agg #[ii 0,.string ⟨#[]⟩,.string ⟨#[]⟩,.string ⟨#[]⟩,ii 0,.string ⟨#[]⟩,.string ⟨#[]⟩,.string ⟨#[]⟩,ii 0,.string ⟨#[]⟩,.string ⟨#[]⟩,.string ⟨#[]⟩,ii 0,.string ⟨#[]⟩,.string ⟨#[]⟩,.string ⟨#[]⟩],ii 0,ii 0],[]⟩).memory Tryz.f4.params.toList Rows.mergeSetsSpec.vars false (#[.slice none 0 0,.agg #[ii 0,.string ⟨#[]⟩,.string ⟨#[]⟩,.string ⟨#[]⟩,ii 0,.string ⟨#[]⟩,.string ⟨#[]⟩,.string ⟨#[]⟩,ii 0,.string ⟨#[]⟩,.string ⟨#[]⟩,.string ⟨#[]⟩,ii 0,.string ⟨#[]⟩,.string ⟨#[]⟩,.string ⟨#[]⟩],ii 0,ii 0]:Array Value).toList 8=some ([.nil,.agg [.agg [.lit (.int .i64 0),.lit (.string []),.lit (.string []),.lit (.string [])],.agg [.lit (.int .i64 0),.lit (.string []),.lit (.string []),.lit (.string [])],.agg [.lit (.int .i64 0),.lit (.string []),.lit (.string []),.lit (.string [])],.agg [.lit (.int .i64 0),.lit (.string []),.lit (.string []),.lit (.string [])]],.lit (.int .i64 0),.lit (.int .i64 0)],[],qd0):=
 ⟨[],by kernel_rfl⟩
theorem lifted(os:Os)(started:os.Started)(H:Type)(enc:TypeId×Value→H)(F:Stop.Interp):
  ReturnsInHanded {} Tryz.checked os 4 .any ((OpenSpec.ofChange Rows.mergeSetsSpec).preRow enc Tryz.prog Tryz.f4 Rows.mergeSetsRow.domain false Rows.mergeSetsRow.laid) (((OpenSpec.ofChange Rows.mergeSetsSpec).at F).post enc Tryz.prog Tryz.f4 false true false false):=by
 obtain⟨qd0,hx⟩:=reads os enc;refine returnsInHanded_of_row (C:=Tryz.checked) (s:=(OpenSpec.ofChange Rows.mergeSetsSpec)) own started Jk Tryz.func4
  (witness_row_at (enc:=enc) (C:=Tryz.checked) false (witP os) #[.slice none 0 0,.agg #[ii 0,.string ⟨#[]⟩,.string ⟨#[]⟩,.string ⟨#[]⟩,ii 0,.string ⟨#[]⟩,.string ⟨#[]⟩,.string ⟨#[]⟩,ii 0,.string ⟨#[]⟩,.string ⟨#[]⟩,.string ⟨#[]⟩,ii 0,.string ⟨#[]⟩,.string ⟨#[]⟩,.string ⟨#[]⟩],ii 0,ii 0] rfl Jk Jk Jk
   (OpenSpec.preRow_of_cond 8 hx Jk (fun k hk=>by cases hk) Jk (met os))) ?_
 intro W base args ds gs before hval hW _ _ hsz hL hsh _;exact contract H enc W base args ds gs before hval hW hsz hL hsh
theorem closed:joinedFacts Tryz.prog 4 Tryz.f4 Rows.mergeSetsSpec Rows.mergeSetsRow=true:=by
 unfold joinedFacts
 repeat' with_reducible refine andT ?_ ?_
 all_goals as_aux_lemma=>kernel_rfl
theorem named:Tryz.prog.funcNamed Rows.mergeSetsRow.func=some 4:=by kernel_rfl
theorem inst:Tryz.f4.isInstance Tryz.prog Rows.mergeSetsRow.origin Rows.mergeSetsRow.targs:=of_decide_eq_true Jk
theorem wrap:Tryz.f4.isWrapper Tryz.prog Rows.mergeSetsRow.wrapper Rows.mergeSetsRow.mainSum:=by unfold Func.isWrapper;first|(rw[if_pos (by decide +kernel)];kernel_rfl)|(rw[if_neg (by decide +kernel)];exact⟨rfl,rfl⟩)
theorem said:Rows.MergeSetsSaid:=
 OpenClaim.holds_of_cond 4 Tryz.f4 rfl rfl rfl rfl rfl rfl rfl ⟨rfl,rfl,rfl,rfl,rfl⟩ rfl rfl rfl rfl rfl named Tryz.func4 closed inst wrap
  (fun os started H enc _ F=>by rw[OpenClaim.pre_eq_preRow];exact lifted os started H enc F)
theorem plain(f:FuncId)(fn:Func)(hf:Tryz.pinned.checked.prog.funcNamed "tessera/tesseralaw24.MergeSets" = some f)(hfn:Tryz.pinned.checked.prog.funcs[f]?=some fn):
  true=Tryz.pinned.checked.prog.looks []∧∀(j:Nat) t,fn.params[j]?=some t→Tryz.pinned.checked.prog.wantsStandIn t=false:=by
 obtain rfl:f=4:=Option.some.inj ((show Tryz.prog.funcNamed "tessera/tesseralaw24.MergeSets" = some 4 by kernel_rfl).symm.trans hf) |>.symm;obtain rfl:fn=Tryz.f4:=(Option.some.inj (Tryz.func4.symm.trans hfn)).symm;refine⟨by kernel_rfl,fun j t ht=>?_⟩;rw[parT]at ht;have ht:t=22∨t=26∨t=3∨t=3:=by simpa using Array.mem_of_getElem? ht
 rcases ht with rfl|rfl|rfl|rfl
 ·exact(show Tryz.prog.wantsStandIn 22=false by kernel_rfl)
 ·exact(show Tryz.prog.wantsStandIn 26=false by kernel_rfl)
 ·exact(show Tryz.prog.wantsStandIn 3=false by kernel_rfl)
 ·exact(show Tryz.prog.wantsStandIn 3=false by kernel_rfl)
theorem card:Rows.MergeSetsCardSaid:=
 Claim7.holds_tied_plain_at .later [] _ _ _ _ said (fun _ h=>by cases h) Jk (fun _ h=>by cases h) mergeSets_row_tie rfl ⟨rfl,rfl⟩ Jk rfl plain Jk
end Go.Proofs.YtacnkdagblbgfaaGreatDoor.mergeSets
