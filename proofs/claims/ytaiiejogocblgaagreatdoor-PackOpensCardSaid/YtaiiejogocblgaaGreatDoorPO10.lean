/- The law PackOpens: its card: for every row of bytes the law returns true,and the row reads as it did. The row lists the package-level variables that the road reaches (laid);the card ties them to the program's text. -/
import Derived.Test.YtaiiejogocblgaaGreatDoorPO9
import Derived.LaidHandle
import Derived.Shelf.Vars
import Derived.Test.YtaiiejogocblgaaGreatDoorCards
import Derived.Test.YtaiiejogocblgaaGreatDoorTie
namespace Go.Proofs.YtaiiejogocblgaaGreatDoor.packOpens
open Go.ChangeShapes Go.WideShapes Go.ChangeAt Go.RowKit V
set_option maxRecDepth 100000
set_option maxHeartbeats 4000000
theorem resT:Tryz.f3.resultTypes=#[4]:=by kernel_rfl
theorem parT:Tryz.f3.params=#[22]:=by kernel_rfl
theorem readable:∀ t∈Tryz.f3.params.toList,Tryz.prog.readableRec t=true∧t<Tryz.prog.types.size:=by
 rw [parT];intro t ht;obtain rfl:t=22:=by simpa using ht
 exact ⟨by kernel_rfl,of_decide_eq_true Jk⟩
theorem maxLen {W:World} (h:W.ShapedOpen Tryz.prog):MaxLenAt W:=
 cell_of_shapedOpen_int (zero:=#[ii 0]) (t:=3) (k:=.i64) h (of_decide_eq_true Jk) Jk rfl Jk Jk Tryz.underlying3
def tabs:List (String × DataW Unit):=[("unicode/utf8.acceptRanges",Rows.laid_unicode_utf8_acceptRanges),("tessera/sums.nibbles",Rows.laid_tessera_sums_nibbles),("tessera/names.basesTable",Rows.laid_tessera_names_basesTable),("tessera/vocab.kinds",Rows.laid_tessera_vocab_kinds),("unicode/utf8.first",Rows.laid_unicode_utf8_first)]
theorem parts {W:World} (h:laidMetH Tryz.prog Rows.packOpensRow.laid W):laidMet Tryz.prog tabs W∧handlesMet Tryz.prog [("errors.errorType",Rows.laid_errors_errorType)] W:=h
theorem q6n {W:World} (h:laidMet Tryz.prog tabs W):CellsAt W 6 0 qbr:=
 qmt (name:= "tessera/names.basesTable") (k:=.i32) (zs:=[192,214,216,246,248,767,880,893,895,8191,8204,8205,8304,8591,11264,12271,12289,55295,63744,64975,65008,65533,65536,983039]) (l:=tabs) (g:=6) (t:=356) (e:=21) (n:=24)
  Jk Jk Tryz.underlying356 Tryz.underlying21 Jk Jk h (zmc (zmc mh))
theorem qxl {W:World} (h:laidMet Tryz.prog tabs W):CellsAt W 1 0 qju:=
 qmt (name:= "tessera/sums.nibbles") (k:=.u32) (zs:=nibs.map fun n:Nat=>(n:Int)) (l:=tabs) (g:=1) (t:=239) (e:=57) (n:=16)
  Jk Jk Tryz.underlying239 Tryz.underlying57 Jk Jk h (zmc mh)
theorem q3e {W:World} (h:laidMet Tryz.prog tabs W):qdr W:=
 qmt (name:= "tessera/vocab.kinds") (k:=.i64) (zs:=[1,2,3]) (l:=tabs) (g:=0) (t:=126) (e:=3) (n:=3)
  Jk Jk Tryz.underlying126 Tryz.underlying3 Jk Jk h (zmc (zmc (zmc mh)))
theorem et:Tryz.prog.globalNamed "errors.errorType" = some 2:=by kernel_rfl
theorem rt:(Tryz.prog.cutTypes.find? (·.1== "internal/reflectlite.rtype")).map (·.2)=some 279:=by kernel_rfl
theorem q5k:((List.range Tryz.prog.types.size).filter fun t=>Tryz.prog.rowNamed t [101,114,114,111,114])=[26]:=by kernel_rfl
theorem q44 {W:World} (h:handlesMet Tryz.prog [("errors.errorType",Rows.laid_errors_errorType)] W):ErrTyp W:=by
 obtain ⟨name,u,ty,e1,e2,e3,e4,e5⟩:=h _ (List.mem_singleton.2 rfl);have en:name=[101,114,114,111,114]:=(Option.some.inj e1).symm;subst en;obtain rfl:=Option.some.inj (rt.symm.trans e2);have hm:ty∈(List.range Tryz.prog.types.size).filter fun t=>Tryz.prog.rowNamed t [101,114,114,111,114]:=List.mem_filter.2 ⟨List.mem_range.2 e3,e4⟩
 rw [q5k] at hm;obtain rfl:=List.mem_singleton.1 hm;have hh:typeHandle Tryz.prog 26=.pointer (some ⟨7,26,none⟩):=by kernel_rfl
 rw [hh] at e5;have hc:=World.var?_cell et e5 0;unfold ErrTyp
 simpa using hc
theorem contract (H:Type) (enc:TypeId × Value→H) (W:World) (base:Nat) (args:Array Value) (ds gs:List (DataW H)) (before:List MemPlace)
  (hval:∀ (j:Nat) t v,Tryz.f3.params[j]?=some t→args[j]?=some v→Value.okWide Tryz.prog W .any base t v)
  (hW:DataW.Whole enc Tryz.prog Tryz.f3.params.toList Rows.packOpensSpec.vars false W args.toList ds gs before)
  (hsz:(DataW.weightsEach Tryz.prog (Tryz.f3.params.toList++[]) (ds++gs)).all (·≤reachBytes)=true) (hL:laidMetH Tryz.prog Rows.packOpensRow.laid W) (hsh:W.ShapedOpen Tryz.prog) :
  Calls Tryz.prog 3 args W fun e W'=>∃ v,e=.returned v∧Rows.packOpensSpec.post enc Tryz.prog Tryz.f3 false true false false W args v W':=by
 have hW':=hW;obtain ⟨p,q,hA0,hV,hpq,hfz,hnd⟩:=hW;obtain ⟨rfl,rfl⟩:=trodVars_none hV;have hA:DataW.TrodAll enc Tryz.prog W 0 (fun _=>true) true Tryz.f3.params.toList args.toList ds p:=hA0;rw [parT] at hA hval;rw [List.append_nil,List.append_nil,parT] at hsz;have hop:=Opn.of hA hsz 0;obtain ⟨v0,vs0,d0,ds0,p0,q0,hargs,rfl,rfl,h0,r0⟩:=trodAll_cons hA;obtain ⟨rfl,rfl,rfl⟩:=trodAll_nil r0;obtain rfl:args=#[v0]:=by cases args;simp_all
 obtain ⟨a,l,c,rfl⟩:=okWide_slice Tryz.underlying22 (hval 0 22 v0 rfl rfl);obtain ⟨A,cap,l,hp,h1,h2,h3⟩:=qud (hop 22 _ rfl rfl);rw [hp];obtain ⟨hL1,hL2⟩:=parts hL;refine (qm4 l A cap W h3 h1 h2 (qxl hL1) (q44 hL2) (maxLen hsh) (q6n hL1) (q3e hL1)).2.mono fun e W' ⟨v,he,hv,hx⟩=>?_;subst hv;rw [hp] at hW';refine ⟨_,he,q0z q0h readable hW' rfl (fun _ _ _=>?_) rfl rfl hx (ok_one resT rfl (okWide_bool_mk Tryz.underlying4 _))⟩;rw [resT];exact trodAll_cons_mk (shut_bool Tryz.underlying4 _) trodAll_mk0
noncomputable def witP (os:Os):World:=
 let w0:=q5e os [(5,Rows.laid_unicode_utf8_acceptRanges),(1,Rows.laid_tessera_sums_nibbles),(6,Rows.laid_tessera_names_basesTable),(0,Rows.laid_tessera_vocab_kinds),(4,Rows.laid_unicode_utf8_first)]
 { w0 with heap:=w0.heap.modify 2 fun
   | .cells _ t frozen=>.cells #[.iface 279 (.agg #[.pointer (some ⟨7,26,none⟩)])] t frozen
   | o=>o }
theorem met (os:Os):laidMetH Tryz.prog Rows.packOpensRow.laid ((witP os).forCall (fun _ _=>0) ⟨#[],#[.slice none 0 0],[]⟩).memory:=
 laidMetH_of_parts (laidMet_of_run' 8 Jk Jk) Jk
theorem reads (os:Os) {H:Type} (enc:TypeId × Value→H):∃ places,DataW.whole enc Tryz.prog ((witP os).forCall (fun _ _=>0) ⟨#[],#[.slice none 0 0],[]⟩).memory Tryz.f3.params.toList Rows.packOpensSpec.vars false (#[Value.slice none 0 0]:Array Value).toList 8=some ([.nil],[],places):=
 ⟨[],by kernel_rfl⟩
theorem lifted (os:Os) (started:os.Started) (H:Type) (enc:TypeId × Value→H) (F:Stop.Interp) :
  ReturnsInHanded {} Tryz.checked os 3 .any ((OpenSpec.ofChange Rows.packOpensSpec).preRow enc Tryz.prog Tryz.f3 Rows.packOpensRow.domain false Rows.packOpensRow.laid) (((OpenSpec.ofChange Rows.packOpensSpec).at F).post enc Tryz.prog Tryz.f3 false true false false):=by
 obtain ⟨places,hx⟩:=reads os enc;refine returnsInHanded_of_row (C:=Tryz.checked) (s:=OpenSpec.ofChange Rows.packOpensSpec) own started Jk Tryz.func3
  (witness_row_at (enc:=enc) (C:=Tryz.checked) false (witP os) #[.slice none 0 0] rfl Jk Jk Jk
   (OpenSpec.preRow_of_cond 8 hx Jk (fun k hk=>by cases hk) Jk (met os))) ?_
 intro W base args ds gs before hval hW _ _ hsz hL hsh _;exact contract H enc W base args ds gs before hval hW hsz hL hsh
theorem andT {a b:Bool} (h:a=true) (k:b=true):(a&&b)=true:=by rw [h,k];rfl
theorem closed:joinedFacts Tryz.prog 3 Tryz.f3 Rows.packOpensSpec Rows.packOpensRow=true:=by
 unfold joinedFacts
 repeat' with_reducible refine andT ?_ ?_
 all_goals as_aux_lemma=>kernel_rfl
theorem named:Tryz.prog.funcNamed Rows.packOpensRow.func=some 3:=by kernel_rfl
theorem inst:Tryz.f3.isInstance Tryz.prog Rows.packOpensRow.origin Rows.packOpensRow.targs:=of_decide_eq_true Jk
theorem wrap:Tryz.f3.isWrapper Tryz.prog Rows.packOpensRow.wrapper Rows.packOpensRow.mainSum:=by unfold Func.isWrapper;first|(rw [if_pos (by decide +kernel)];kernel_rfl)|(rw [if_neg (by decide +kernel)];exact ⟨rfl,rfl⟩)
theorem said:Rows.PackOpensSaid:=
 OpenClaim.holds_of_cond 3 Tryz.f3 rfl rfl rfl rfl rfl rfl rfl ⟨rfl,rfl,rfl,rfl,rfl⟩ rfl rfl rfl rfl rfl named Tryz.func3 closed inst wrap
  (fun os started H enc _ F=>by rw [OpenClaim.pre_eq_preRow];exact lifted os started H enc F)
theorem plain (f:FuncId) (fn:Func) (hf:Tryz.pinned.checked.prog.funcNamed "tessera/tesseralaw19.PackOpens" = some f) (hfn:Tryz.pinned.checked.prog.funcs[f]?=some fn) :
  true=Tryz.pinned.checked.prog.looks []∧∀ (j:Nat) t,fn.params[j]?=some t→Tryz.pinned.checked.prog.wantsStandIn t=false:=by
 obtain rfl:f=3:=Option.some.inj ((show Tryz.prog.funcNamed "tessera/tesseralaw19.PackOpens" = some 3 by kernel_rfl).symm.trans hf) |>.symm;obtain rfl:fn=Tryz.f3:=(Option.some.inj (Tryz.func3.symm.trans hfn)).symm;refine ⟨by kernel_rfl,fun j t ht=>?_⟩;rw [parT] at ht;obtain rfl:t=22:=by simpa using Array.mem_of_getElem? ht
 exact (show Tryz.prog.wantsStandIn 22=false by kernel_rfl)
theorem card:Rows.PackOpensCardSaid:=
 Claim7.holds_tied_plain_at .later [] _ _ _ _ said (fun _ h=>by cases h) Jk (fun _ h=>by cases h) packOpens_row_tie rfl ⟨rfl,rfl⟩ Jk rfl plain Jk
end Go.Proofs.YtaiiejogocblgaaGreatDoor.packOpens
#print axioms Go.Proofs.YtaiiejogocblgaaGreatDoor.packOpens.card
