/- The law MergePacks: its card: the law returns true,and what it was handed reads as it did. The row lists the package-level variables that the road reaches (laid);the card ties them to the program's text. (Printed by gen3/mkmcards.py.) -/
import Derived.Test.YtacnkdagblbgfaaGreatDoorMP8
import Derived.Test.YtacnkdagblbgfaaGreatDoorCards
import Derived.Test.YtacnkdagblbgfaaGreatDoorTie
namespace Go.Proofs.YtacnkdagblbgfaaGreatDoor.mergePacks
open Go.ChangeShapes Go.WideShapes Go.ChangeAt Go.RowKit V
set_option maxRecDepth 100000
def q0r:List (String × DataW Unit):=[("unicode/utf8.acceptRanges",Rows.laid_unicode_utf8_acceptRanges),("tessera/sums.nibbles",Rows.laid_tessera_sums_nibbles),("tessera/names.basesTable",Rows.laid_tessera_names_basesTable),("unicode/utf8.first",Rows.laid_unicode_utf8_first)]
def q5u:List (String × DataW Unit):=[("unicode/utf8.acceptRanges",Rows.laid_unicode_utf8_acceptRanges),("errors.errorType",Rows.laid_errors_errorType),("tessera/sums.nibbles",Rows.laid_tessera_sums_nibbles),("tessera/names.basesTable",Rows.laid_tessera_names_basesTable),("unicode/utf8.first",Rows.laid_unicode_utf8_first)]
theorem q5v {W:World} (h:laidMetH Tryz.prog q5u W):laidMet Tryz.prog q0r W∧handlesMet Tryz.prog [("errors.errorType",Rows.laid_errors_errorType)] W:=h
theorem q8t {W:World} (h:laidMet Tryz.prog q0r W):CellsAt W 6 0 qbt:=
 qtf (name:= "tessera/names.basesTable") (k:=.i32) (zs:=[192,214,216,246,248,767,880,893,895,8191,8204,8205,8304,8591,11264,12271,12289,55295,63744,64975,65008,65533,65536,983039]) (l:=q0r) (g:=6) (t:=422) (e:=21) (n:=24)
  Ok Ok Tryz.underlying422 Tryz.underlying21 Ok Ok h (zmc (zmc mh))
theorem q2s {W:World} (h:laidMet Tryz.prog q0r W):CellsAt W 1 0 qo1:=
 qtf (name:= "tessera/sums.nibbles") (k:=.u32) (zs:=nibs.map fun n:Nat=>(n:Int)) (l:=q0r) (g:=1) (t:=328) (e:=129) (n:=16)
  Ok Ok Tryz.underlying328 Tryz.underlying129 Ok Ok h (zmc mh)
theorem q87 {W:World} (h:laidMetH Tryz.prog q5u W) (hsh:W.ShapedOpen Tryz.prog):GlobE W:=
 have hp:=q5v h
 ⟨q51 hsh,q8t hp.1,q2s hp.1,q5j hp.2⟩
noncomputable def witE (os:Os):World:=
 let w0:=q79 os [(5,Rows.laid_unicode_utf8_acceptRanges),(1,Rows.laid_tessera_sums_nibbles),(6,Rows.laid_tessera_names_basesTable),(4,Rows.laid_unicode_utf8_first)]
 { w0 with heap:=w0.heap.modify 0 fun
   | .cells _ t frozen=>.cells #[.iface 365 (.agg #[.pointer (some ⟨7,74,none⟩)])] t frozen
   | o=>o }
theorem resT:Tryz.f5.resultTypes=#[4]:=by kernel_rfl
theorem parT:Tryz.f5.params=#[46,3]:=by kernel_rfl
theorem readable:∀ t∈Tryz.f5.params.toList,Tryz.prog.readableRec t=true∧t<Tryz.prog.types.size:=by
 rw [parT];intro t ht;have ht:t=46∨t=3:=by simpa using ht
 rcases ht with rfl|rfl
 all_goals exact ⟨by kernel_rfl,of_decide_eq_true Ok⟩
theorem contract (H:Type) (enc:TypeId × Value→H) (W:World) (base:Nat) (args:Array Value) (ds gs:List (DataW H)) (before:List MemPlace)
  (hval:∀ (j:Nat) t v,Tryz.f5.params[j]?=some t→args[j]?=some v→Value.okWide Tryz.prog W .any base t v)
  (hW:DataW.Whole enc Tryz.prog Tryz.f5.params.toList Rows.mergePacksSpec.vars false W args.toList ds gs before)
  (hsz:(DataW.weightsEach Tryz.prog (Tryz.f5.params.toList++[]) (ds++gs)).all (·≤reachBytes)=true) (hL:laidMetH Tryz.prog q5u W) (hsh:W.ShapedOpen Tryz.prog) :
  Calls Tryz.prog 5 args W fun e W'=>∃ v,e=.returned v∧Rows.mergePacksSpec.post enc Tryz.prog Tryz.f5 false true false false W args v W':=by
 have hW':=hW;obtain ⟨p,q,hA0,hV,hpq,hfz,hnd⟩:=hW;obtain ⟨rfl,rfl⟩:=trodVars_none hV;have hA:DataW.TrodAll enc Tryz.prog W 0 (fun _=>true) true Tryz.f5.params.toList args.toList ds p:=hA0;rw [parT] at hA hval;rw [List.append_nil,List.append_nil,parT] at hsz;have hop:=Opn.of hA hsz;obtain ⟨v0,vs0,d0,ds0,p0,q0,hargs0,rfl,rfl,h00,r0⟩:=trodAll_cons hA;obtain ⟨v1,vs1,d1,ds1,p1,q1,hargs1,rfl,rfl,h01,r1⟩:=trodAll_cons r0;obtain ⟨rfl,rfl,rfl⟩:=trodAll_nil r1;subst hargs1;obtain rfl:args=#[v0,v1]:=by cases args;simp_all
 obtain ⟨a0,l0,c0,rfl⟩:=okWide_slice Tryz.underlying46 (hval 0 46 v0 rfl rfl);obtain ⟨A0,cap0,qs,hp0,hq1,hq2,hq3⟩:=qvs (hop 0 46 _ rfl rfl);obtain ⟨n1,rfl⟩:=okWide_int Tryz.underlying3 (hval 1 3 v1 rfl rfl);have hi1:InR .i64 n1:=by
  obtain ⟨m,e,h⟩:=Opn.int (c:=ii n1) Tryz.underlying3 (hop 1 3 _ rfl rfl);cases e;exact q33 h
 rw [hp0];refine (qki qs A0 qs.length cap0 n1 W hq3 rfl hq1 hi1 hq2 (q87 hL hsh)).2.mono fun e W' ⟨v,he,hv,hx⟩=>?_;subst hv;rw [hp0] at hW';refine ⟨_,he,q23 q2j readable hW' rfl (fun _ _ _=>?_) rfl rfl hx (ok_one resT rfl (okWide_bool_mk Tryz.underlying4 _))⟩;rw [resT];exact trodAll_cons_mk (shut_bool Tryz.underlying4 _) trodAll_mk0
theorem met (os:Os):laidMetH Tryz.prog Rows.mergePacksRow.laid ((witE os).forCall (fun _ _=>0) ⟨#[],#[.slice none 0 0,ii 0],[]⟩).memory:=
 laidMetH_of_parts (laidMet_of_run' 8 Ok Ok) Ok
theorem reads (os:Os) {H:Type} (enc:TypeId × Value→H):∃ qdh,DataW.whole enc Tryz.prog ((witE os).forCall (fun _ _=>0) ⟨#[],#[.slice none 0 0,ii 0],[]⟩).memory Tryz.f5.params.toList Rows.mergePacksSpec.vars false (#[.slice none 0 0,ii 0]:Array Value).toList 8=some ([.nil,.lit (.int .i64 0)],[],qdh):=
 ⟨[],by kernel_rfl⟩
theorem lifted (os:Os) (started:os.Started) (H:Type) (enc:TypeId × Value→H) (F:Stop.Interp) :
  ReturnsInHanded {} Tryz.checked os 5 .any ((OpenSpec.ofChange Rows.mergePacksSpec).preRow enc Tryz.prog Tryz.f5 Rows.mergePacksRow.domain false Rows.mergePacksRow.laid) (((OpenSpec.ofChange Rows.mergePacksSpec).at F).post enc Tryz.prog Tryz.f5 false true false false):=by
 obtain ⟨qdh,hx⟩:=reads os enc;refine returnsInHanded_of_row (C:=Tryz.checked) (s:=(OpenSpec.ofChange Rows.mergePacksSpec)) own started Ok Tryz.func5
  (witness_row_at (enc:=enc) (C:=Tryz.checked) false (witE os) #[.slice none 0 0,ii 0] rfl Ok Ok Ok
   (OpenSpec.preRow_of_cond 8 hx Ok (fun k hk=>by cases hk) Ok (met os))) ?_
 intro W base args ds gs before hval hW _ _ hsz hL hsh _;exact contract H enc W base args ds gs before hval hW hsz hL hsh
set_option maxHeartbeats 4000000 in
theorem closed:joinedFacts Tryz.prog 5 Tryz.f5 Rows.mergePacksSpec Rows.mergePacksRow=true:=by
 unfold joinedFacts
 repeat' with_reducible refine andT ?_ ?_
 all_goals as_aux_lemma=>kernel_rfl
theorem named:Tryz.prog.funcNamed Rows.mergePacksRow.func=some 5:=by kernel_rfl
theorem inst:Tryz.f5.isInstance Tryz.prog Rows.mergePacksRow.origin Rows.mergePacksRow.targs:=of_decide_eq_true Ok
theorem wrap:Tryz.f5.isWrapper Tryz.prog Rows.mergePacksRow.wrapper Rows.mergePacksRow.mainSum:=by unfold Func.isWrapper;first|(rw [if_pos (by decide +kernel)];kernel_rfl)|(rw [if_neg (by decide +kernel)];exact ⟨rfl,rfl⟩)
theorem said:Rows.MergePacksSaid:=
 OpenClaim.holds_of_cond 5 Tryz.f5 rfl rfl rfl rfl rfl rfl rfl ⟨rfl,rfl,rfl,rfl,rfl⟩ rfl rfl rfl rfl rfl named Tryz.func5 closed inst wrap
  (fun os started H enc _ F=>by rw [OpenClaim.pre_eq_preRow];exact lifted os started H enc F)
theorem plain (f:FuncId) (fn:Func) (hf:Tryz.pinned.checked.prog.funcNamed "tessera/tesseralaw24.MergePacks" = some f) (hfn:Tryz.pinned.checked.prog.funcs[f]?=some fn) :
  true=Tryz.pinned.checked.prog.looks []∧∀ (j:Nat) t,fn.params[j]?=some t→Tryz.pinned.checked.prog.wantsStandIn t=false:=by
 obtain rfl:f=5:=Option.some.inj ((show Tryz.prog.funcNamed "tessera/tesseralaw24.MergePacks" = some 5 by kernel_rfl).symm.trans hf) |>.symm;obtain rfl:fn=Tryz.f5:=(Option.some.inj (Tryz.func5.symm.trans hfn)).symm;refine ⟨by kernel_rfl,fun j t ht=>?_⟩;rw [parT] at ht;have ht:t=46∨t=3:=by simpa using Array.mem_of_getElem? ht
 rcases ht with rfl|rfl
 ·exact (show Tryz.prog.wantsStandIn 46=false by kernel_rfl)
 ·exact (show Tryz.prog.wantsStandIn 3=false by kernel_rfl)
theorem card:Rows.MergePacksCardSaid:=
 Claim7.holds_tied_plain_at .later [] _ _ _ _ said (fun _ h=>by cases h) Ok (fun _ h=>by cases h) mergePacks_row_tie rfl ⟨rfl,rfl⟩ Ok rfl plain Ok
end Go.Proofs.YtacnkdagblbgfaaGreatDoor.mergePacks
#print axioms Go.Proofs.YtacnkdagblbgfaaGreatDoor.mergePacks.card
