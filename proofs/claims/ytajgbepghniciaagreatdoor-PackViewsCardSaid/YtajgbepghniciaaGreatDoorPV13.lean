/- The law PackViews: its card: for every row of bytes the law returns true,and the row reads as it did. The row lists the package-level variables that the road reaches (laid);the card ties them to the program's text. -/
import Derived.Test.YtajgbepghniciaaGreatDoorPV12
import Derived.LaidHandle
import Derived.Shelf.Vars
import Derived.Test.YtajgbepghniciaaGreatDoorCards
import Derived.Test.YtajgbepghniciaaGreatDoorTie
namespace Go.Proofs.YtajgbepghniciaaGreatDoor.packViews
open Go.ChangeShapes Go.WideShapes Go.ChangeAt Go.RowKit V
set_option maxRecDepth 100000
theorem resT:Tryz.f5.resultTypes=#[4]:=by kernel_rfl
theorem parT:Tryz.f5.params=#[45]:=by kernel_rfl
theorem readable:∀ t∈Tryz.f5.params.toList,Tryz.prog.readableRec t=true∧t<Tryz.prog.types.size:=by
 rw [parT];intro t ht;obtain rfl:t=45:=by simpa using ht
 exact ⟨by kernel_rfl,of_decide_eq_true (by kernel_rfl)⟩
theorem maxLen {W:World} (h:W.ShapedOpen Tryz.prog):MaxLenAt W:=
 cell_of_shapedOpen_int (zero:=#[.int .i64 0]) (t:=3) (k:=.i64) h (of_decide_eq_true (by kernel_rfl)) (by kernel_rfl) rfl (by kernel_rfl) (by kernel_rfl) Tryz.underlying3
def tabs:List (String × DataW Unit):=[("unicode/utf8.acceptRanges",Rows.laid_unicode_utf8_acceptRanges),("tessera/sums.nibbles",Rows.laid_tessera_sums_nibbles),("tessera/names.basesTable",Rows.laid_tessera_names_basesTable),("tessera/vocab.kinds",Rows.laid_tessera_vocab_kinds),("unicode/utf8.first",Rows.laid_unicode_utf8_first)]
theorem parts {W:World} (h:laidMetH Tryz.prog Rows.packViewsRow.laid W):laidMet Tryz.prog tabs W∧handlesMet Tryz.prog [("errors.errorType",Rows.laid_errors_errorType)] W:=h
theorem q08 {W:World} (h:laidMet Tryz.prog tabs W):CellsAt W 3 0 qbo:=
 qkx (name:= "tessera/names.basesTable") (k:=.i32) (zs:=[192,214,216,246,248,767,880,893,895,8191,8204,8205,8304,8591,11264,12271,12289,55295,63744,64975,65008,65533,65536,983039]) (l:=tabs) (g:=3) (t:=411) (e:=21) (n:=24)
  (by kernel_rfl) (by kernel_rfl) Tryz.underlying411 Tryz.underlying21 (by kernel_rfl) (by kernel_rfl) h (List.mem_cons_of_mem _ (List.mem_cons_of_mem _ (List.mem_cons_self ..)))
theorem qtw {W:World} (h:laidMet Tryz.prog tabs W):CellsAt W 2 0 qi9:=
 qkx (name:= "tessera/sums.nibbles") (k:=.u32) (zs:=nibs.map fun n:Nat=>(n:Int)) (l:=tabs) (g:=2) (t:=381) (e:=113) (n:=16)
  (by kernel_rfl) (by kernel_rfl) Tryz.underlying381 Tryz.underlying113 (by kernel_rfl) (by kernel_rfl) h (List.mem_cons_of_mem _ (List.mem_cons_self ..))
theorem qyn {W:World} (h:laidMet Tryz.prog tabs W):qf8 W:=
 qkx (name:= "tessera/vocab.kinds") (k:=.i64) (zs:=[1,2,3]) (l:=tabs) (g:=0) (t:=124) (e:=3) (n:=3)
  (by kernel_rfl) (by kernel_rfl) Tryz.underlying124 Tryz.underlying3 (by kernel_rfl) (by kernel_rfl) h (List.mem_cons_of_mem _ (List.mem_cons_of_mem _ (List.mem_cons_of_mem _ (List.mem_cons_self ..))))
theorem et:Tryz.prog.globalNamed "errors.errorType" = some 1:=by kernel_rfl
theorem rt:(Tryz.prog.cutTypes.find? (·.1== "internal/reflectlite.rtype")).map (·.2)=some 385:=by kernel_rfl
theorem q0b:((List.range Tryz.prog.types.size).filter fun t=>Tryz.prog.rowNamed t [101,114,114,111,114])=[49]:=by kernel_rfl
theorem qz0 {W:World} (h:handlesMet Tryz.prog [("errors.errorType",Rows.laid_errors_errorType)] W):ErrTyp W:=by
 obtain ⟨name,u,ty,e1,e2,e3,e4,e5⟩:=h _ (List.mem_singleton.2 rfl);have en:name=[101,114,114,111,114]:=(Option.some.inj e1).symm;subst en;obtain rfl:=Option.some.inj (rt.symm.trans e2);have hm:ty∈(List.range Tryz.prog.types.size).filter fun t=>Tryz.prog.rowNamed t [101,114,114,111,114]:=List.mem_filter.2 ⟨List.mem_range.2 e3,e4⟩
 rw [q0b] at hm;obtain rfl:=List.mem_singleton.1 hm;have hh:typeHandle Tryz.prog 49=.pointer (some ⟨7,49,none⟩):=by kernel_rfl
 rw [hh] at e5;have hc:=World.var?_cell et e5 0;unfold ErrTyp
 simpa using hc
theorem contract (H:Type) (enc:TypeId × Value→H) (W:World) (base:Nat) (args:Array Value) (ds gs:List (DataW H)) (before:List MemPlace)
  (hval:∀ (j:Nat) t v,Tryz.f5.params[j]?=some t→args[j]?=some v→Value.okWide Tryz.prog W .any base t v)
  (hW:DataW.Whole enc Tryz.prog Tryz.f5.params.toList Rows.packViewsSpec.vars false W args.toList ds gs before)
  (hsz:(DataW.weightsEach Tryz.prog (Tryz.f5.params.toList++[]) (ds++gs)).all (·≤reachBytes)=true) (hL:laidMetH Tryz.prog Rows.packViewsRow.laid W) (hsh:W.ShapedOpen Tryz.prog) :
  Calls Tryz.prog 5 args W fun e W'=>∃ v,e=.returned v∧Rows.packViewsSpec.post enc Tryz.prog Tryz.f5 false true false false W args v W':=by
 have hW':=hW;obtain ⟨p,q,hA0,hV,hpq,hfz,hnd⟩:=hW;obtain ⟨rfl,rfl⟩:=trodVars_none hV;have hA:DataW.TrodAll enc Tryz.prog W 0 (fun _=>true) true Tryz.f5.params.toList args.toList ds p:=hA0;rw [parT] at hA hval;rw [List.append_nil,List.append_nil,parT] at hsz;have hop:=Opn.of hA hsz 0;obtain ⟨v0,vs0,d0,ds0,p0,q0,hargs,rfl,rfl,h0,r0⟩:=trodAll_cons hA;obtain ⟨rfl,rfl,rfl⟩:=trodAll_nil r0;obtain rfl:args=#[v0]:=by cases args;simp_all
 obtain ⟨a,l,c,rfl⟩:=okWide_slice Tryz.underlying45 (hval 0 45 v0 rfl rfl);obtain ⟨A,cap,l,hp,h1,h2,h3⟩:=qq2 (hop 45 _ rfl rfl);rw [hp];obtain ⟨hL1,hL2⟩:=parts hL;refine (qk7 l A cap W h3 h1 h2 (qtw hL1) (qz0 hL2) (maxLen hsh) (q08 hL1) (qyn hL1)).2.mono fun e W' ⟨v,he,hv,hx⟩=>?_;subst hv;rw [hp] at hW';refine ⟨_,he,qwm qwa readable hW' rfl (fun _ _ _=>?_) rfl rfl hx (ok_one resT rfl (okWide_bool_mk Tryz.underlying4 _))⟩;rw [resT];exact trodAll_cons_mk (shut_bool Tryz.underlying4 _) trodAll_mk0
noncomputable def witP (os:Os):World:=
 let w0:=qz7 os [(6,Rows.laid_unicode_utf8_acceptRanges),(2,Rows.laid_tessera_sums_nibbles),(3,Rows.laid_tessera_names_basesTable),(0,Rows.laid_tessera_vocab_kinds),(5,Rows.laid_unicode_utf8_first)]
 { w0 with heap:=w0.heap.modify 1 fun
   | .cells _ t frozen=>.cells #[.iface 385 (.agg #[.pointer (some ⟨7,49,none⟩)])] t frozen
   | o=>o }
theorem met (os:Os):laidMetH Tryz.prog Rows.packViewsRow.laid ((witP os).forCall (fun _ _=>0) ⟨#[],#[.slice none 0 0],[]⟩).memory:=
 laidMetH_of_parts (laidMet_of_run' 8 (by kernel_rfl) (by kernel_rfl)) (by kernel_rfl)
theorem reads (os:Os) {H:Type} (enc:TypeId × Value→H):∃ qc2,DataW.whole enc Tryz.prog ((witP os).forCall (fun _ _=>0) ⟨#[],#[.slice none 0 0],[]⟩).memory Tryz.f5.params.toList Rows.packViewsSpec.vars false (#[Value.slice none 0 0]:Array Value).toList 8=some ([.nil],[],qc2):=
 ⟨[],by kernel_rfl⟩
theorem lifted (os:Os) (started:os.Started) (H:Type) (enc:TypeId × Value→H) (F:Stop.Interp) :
  ReturnsInHanded {} Tryz.checked os 5 .any ((OpenSpec.ofChange Rows.packViewsSpec).preRow enc Tryz.prog Tryz.f5 Rows.packViewsRow.domain false Rows.packViewsRow.laid) (((OpenSpec.ofChange Rows.packViewsSpec).at F).post enc Tryz.prog Tryz.f5 false true false false):=by
 obtain ⟨qc2,hx⟩:=reads os enc;refine returnsInHanded_of_row (C:=Tryz.checked) (s:=OpenSpec.ofChange Rows.packViewsSpec) own started (by kernel_rfl) Tryz.func5
  (witness_row_at (enc:=enc) (C:=Tryz.checked) false (witP os) #[.slice none 0 0] rfl (by kernel_rfl) (by kernel_rfl) (by kernel_rfl)
   (OpenSpec.preRow_of_cond 8 hx (by kernel_rfl) (fun k hk=>by cases hk) (by kernel_rfl) (met os))) ?_
 intro W base args ds gs before hval hW _ _ hsz hL hsh _;exact contract H enc W base args ds gs before hval hW hsz hL hsh
theorem andT {a b:Bool} (h:a=true) (k:b=true):(a&&b)=true:=by rw [h,k];rfl
set_option maxHeartbeats 4000000 in
theorem closed:joinedFacts Tryz.prog 5 Tryz.f5 Rows.packViewsSpec Rows.packViewsRow=true:=by
 unfold joinedFacts
 repeat' with_reducible refine andT ?_ ?_
 all_goals as_aux_lemma=>kernel_rfl
theorem named:Tryz.prog.funcNamed Rows.packViewsRow.func=some 5:=by kernel_rfl
theorem inst:Tryz.f5.isInstance Tryz.prog Rows.packViewsRow.origin Rows.packViewsRow.targs:=of_decide_eq_true (by kernel_rfl)
theorem wrap:Tryz.f5.isWrapper Tryz.prog Rows.packViewsRow.wrapper Rows.packViewsRow.mainSum:=by unfold Func.isWrapper;first|(rw [if_pos (by decide +kernel)];kernel_rfl)|(rw [if_neg (by decide +kernel)];exact ⟨rfl,rfl⟩)
theorem said:Rows.PackViewsSaid:=
 OpenClaim.holds_of_cond 5 Tryz.f5 rfl rfl rfl rfl rfl rfl rfl ⟨rfl,rfl,rfl,rfl,rfl⟩ rfl rfl rfl rfl rfl named Tryz.func5 closed inst wrap
  (fun os started H enc _ F=>by rw [OpenClaim.pre_eq_preRow];exact lifted os started H enc F)
theorem plain (f:FuncId) (fn:Func) (hf:Tryz.pinned.checked.prog.funcNamed "tessera/tesseralaw19.PackViews" = some f) (hfn:Tryz.pinned.checked.prog.funcs[f]?=some fn) :
  true=Tryz.pinned.checked.prog.looks []∧∀ (j:Nat) t,fn.params[j]?=some t→Tryz.pinned.checked.prog.wantsStandIn t=false:=by
 obtain rfl:f=5:=Option.some.inj ((show Tryz.prog.funcNamed "tessera/tesseralaw19.PackViews" = some 5 by kernel_rfl).symm.trans hf) |>.symm;obtain rfl:fn=Tryz.f5:=(Option.some.inj (Tryz.func5.symm.trans hfn)).symm;refine ⟨by kernel_rfl,fun j t ht=>?_⟩;rw [parT] at ht;obtain rfl:t=45:=by simpa using Array.mem_of_getElem? ht
 exact (show Tryz.prog.wantsStandIn 45=false by kernel_rfl)
theorem card:Rows.PackViewsCardSaid:=
 Claim7.holds_tied_plain_at .later [] _ _ _ _ said (fun _ h=>by cases h) (by kernel_rfl) (fun _ h=>by cases h) packViews_row_tie rfl ⟨rfl,rfl⟩ (by kernel_rfl) rfl plain (by kernel_rfl)
end Go.Proofs.YtajgbepghniciaaGreatDoor.packViews
#print axioms Go.Proofs.YtajgbepghniciaaGreatDoor.packViews.card
