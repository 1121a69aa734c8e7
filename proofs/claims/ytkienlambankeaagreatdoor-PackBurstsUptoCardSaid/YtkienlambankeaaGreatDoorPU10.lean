/- The law PackBursts: its card of the second form: the law returns true,and what it was handed reads as it did. The row lists the package-level variables that the road reaches (laid);the card ties them to the program's text. (Printed by gen2/mkcards.py.) -/
import Derived.Test.YtkienlambankeaaGreatDoorPU9
import Derived.Test.YtkienlambankeaaGreatDoorCards
import Derived.Test.YtkienlambankeaaGreatDoorTie
namespace Go.Proofs.YtkienlambankeaaGreatDoor.packBursts
open Go.ChangeShapes Go.WideShapes Go.ChangeAt Go.RowKit V
set_option maxRecDepth 100000
theorem q18:Tryz.prog.cellsOf 45=1:=by kernel_rfl
theorem q60:Tryz.prog.cellsOf 59=3:=by kernel_rfl
theorem qvo {H:Type} {enc:TypeId × Value→H} {W:World} {cs:List Value} (h:Opn enc Tryz.prog W 59 cs):∃ (p a:Int) (b:Nat),Value.agg cs.toArray=.agg #[ii p,ii a,.int .u32 b]∧InR .i64 p∧InR .i64 a∧b<4294967296:=by
 obtain ⟨hl,hf⟩:=Opn.fields Tryz.underlying59 h;rw [q60] at hl
 match cs,hl with
 | [c0,c1,c2],_=>
  have g0:Opn enc Tryz.prog W 3 (([c0,c1,c2].drop 0).take (Tryz.prog.cellsOf 3)):=hf 0 _ rfl;rw [ql2] at g0;have g1:Opn enc Tryz.prog W 3 (([c0,c1,c2].drop 1).take (Tryz.prog.cellsOf 3)):=hf 1 _ rfl;rw [ql2] at g1;have g2:Opn enc Tryz.prog W 45 (([c0,c1,c2].drop 2).take (Tryz.prog.cellsOf 45)):=hf 2 _ rfl;rw [q18] at g2;obtain ⟨n0,rfl,k0⟩:=Opn.int (c:=c0) Tryz.underlying3 g0;obtain ⟨n1,rfl,k1⟩:=Opn.int (c:=c1) Tryz.underlying3 g1;obtain ⟨n2,rfl,k2⟩:=Opn.int (c:=c2) Tryz.underlying45 g2;obtain ⟨h3,h4⟩:0≤n2∧n2≤4294967295:=qtf k2;refine ⟨n0,n1,n2.toNat,?_,qtf k0,qtf k1,by omega⟩;have e:(n2.toNat:Int)=n2:=by omega
  rw [e]
theorem resT:Tryz.f8.resultTypes=#[4]:=by kernel_rfl
theorem parT:Tryz.f8.params=#[22,59]:=by kernel_rfl
theorem readable:∀ t∈Tryz.f8.params.toList,Tryz.prog.readableRec t=true∧t<Tryz.prog.types.size:=by
 rw [parT];intro t ht;have ht:t=22∨t=59:=by simpa using ht
 rcases ht with rfl|rfl
 all_goals exact ⟨by kernel_rfl,of_decide_eq_true Jk⟩
theorem contract (H:Type) (enc:TypeId × Value→H) (W:World) (base:Nat) (args:Array Value) (ds gs:List (DataW H)) (before:List MemPlace)
  (hval:∀ (j:Nat) t v,Tryz.f8.params[j]?=some t→args[j]?=some v→Value.okWide Tryz.prog W .any base t v)
  (hW:DataW.Whole enc Tryz.prog Tryz.f8.params.toList Rows.packBurstsSpec.vars false W args.toList ds gs before)
  (hsz:(DataW.weightsEach Tryz.prog (Tryz.f8.params.toList++[]) (ds++gs)).all (·≤reachBytes)=true) (hL:laidMetH Tryz.prog q7j W) (hsh:W.ShapedOpen Tryz.prog) :
  Calls Tryz.prog 8 args W fun e W'=>∃ v,e=.returned v∧Rows.packBurstsSpec.post enc Tryz.prog Tryz.f8 false true false false W args v W':=by
 have hW':=hW;obtain ⟨p,q,hA0,hV,hpq,hfz,hnd⟩:=hW;obtain ⟨rfl,rfl⟩:=trodVars_none hV;have hA:DataW.TrodAll enc Tryz.prog W 0 (fun _=>true) true Tryz.f8.params.toList args.toList ds p:=hA0;rw [parT] at hA hval;rw [List.append_nil,List.append_nil,parT] at hsz;have hop:=Opn.of hA hsz;obtain ⟨v0,vs0,d0,ds0,p0,q0,hargs0,rfl,rfl,h00,r0⟩:=trodAll_cons hA;obtain ⟨v1,vs1,d1,ds1,p1,q1,hargs1,rfl,rfl,h01,r1⟩:=trodAll_cons r0;obtain ⟨rfl,rfl,rfl⟩:=trodAll_nil r1;subst hargs1;obtain rfl:args=#[v0,v1]:=by cases args;simp_all
 obtain ⟨a0,l0,c0,rfl⟩:=okWide_slice Tryz.underlying22 (hval 0 22 v0 rfl rfl);obtain ⟨A0,cap0,qs,hp0,hq1,hq2,hq3⟩:=qvp (hop 0 22 _ rfl rfl);obtain ⟨cs,rfl,_⟩:=okWide_struct Tryz.underlying59 (hval 1 59 v1 rfl rfl);obtain ⟨pt,at_,bi,hp1,hi1,hi2,hi3⟩:=qvo (hop 1 59 _ rfl rfl);have hp1:Value.agg cs=.agg #[ii pt,ii at_,.int .u32 bi]:=hp1;rw [hp0,hp1];refine (qko qs A0 qs.length cap0 pt at_ bi W hq3 rfl hq1 hi1 hi2 hi3 (fun q hq=>(hq2 q hq).1) (fun q hq=>(hq2 q hq).2) (qab8 hL hsh)).2.mono fun e W' ⟨v,he,hv,hx⟩=>?_;subst hv;rw [hp0,hp1] at hW';refine ⟨_,he,q3n q2w readable hW' rfl (fun _ _ _=>?_) rfl rfl hx (ok_one resT rfl (okWide_bool_mk Tryz.underlying4 _))⟩;rw [resT];exact trodAll_cons_mk (shut_bool Tryz.underlying4 _) trodAll_mk0
theorem met (os:Os):laidMetH Tryz.prog Rows.packBurstsUptoRow.laid ((witP os).forCall (fun _ _=>0) ⟨#[],#[.slice none 0 0,.agg #[ii 0,ii 0,.int .u32 0]],[]⟩).memory:=
 laidMetH_of_parts (laidMet_of_run' 8 Jk Jk) Jk
theorem reads (os:Os) {H:Type} (enc:TypeId × Value→H):∃ places,DataW.whole enc Tryz.prog ((witP os).forCall (fun _ _=>0) ⟨#[],#[.slice none 0 0,.agg #[ii 0,ii 0,.int .u32 0]],[]⟩).memory Tryz.f8.params.toList Rows.packBurstsSpec.vars false (#[.slice none 0 0,.agg #[ii 0,ii 0,.int .u32 0]]:Array Value).toList 8=some ([.nil,.agg [.lit (.int .i64 0),.lit (.int .i64 0),.lit (.int .u32 0)]],[],places):=
 ⟨[],by kernel_rfl⟩
theorem lifted (os:Os) (started:os.Started) (H:Type) (enc:TypeId × Value→H) (F:Stop.Interp) :
  ReturnsInHanded {} Tryz.checked os 8 .any ((Rows.OpenSpec.upto Rows.packBurstsSpec).preRow enc Tryz.prog Tryz.f8 Rows.packBurstsUptoRow.domain false Rows.packBurstsUptoRow.laid) (((Rows.OpenSpec.upto Rows.packBurstsSpec).at F).post enc Tryz.prog Tryz.f8 false true false false):=by
 obtain ⟨places,hx⟩:=reads os enc;refine returnsInHanded_of_row (C:=Tryz.checked) (s:=(Rows.OpenSpec.upto Rows.packBurstsSpec)) own started Jk Tryz.func8
  (witness_row_at (enc:=enc) (C:=Tryz.checked) false (witP os) #[.slice none 0 0,.agg #[ii 0,ii 0,.int .u32 0]] rfl Jk Jk Jk
   (OpenSpec.preRow_of_cond 8 hx Jk (fun k hk=>by cases hk;kernel_rfl) Jk (met os))) ?_
 intro W base args ds gs before hval hW _ _ hsz hL hsh _;exact contract H enc W base args ds gs before hval hW hsz hL hsh
set_option maxHeartbeats 4000000 in
theorem closed:joinedFacts Tryz.prog 8 Tryz.f8 Rows.packBurstsSpec Rows.packBurstsUptoRow=true:=by
 unfold joinedFacts
 repeat' with_reducible refine andT ?_ ?_
 all_goals as_aux_lemma=>kernel_rfl
theorem named:Tryz.prog.funcNamed Rows.packBurstsUptoRow.func=some 8:=by kernel_rfl
theorem inst:Tryz.f8.isInstance Tryz.prog Rows.packBurstsUptoRow.origin Rows.packBurstsUptoRow.targs:=of_decide_eq_true Jk
theorem wrap:Tryz.f8.isWrapper Tryz.prog Rows.packBurstsUptoRow.wrapper Rows.packBurstsUptoRow.mainSum:=by unfold Func.isWrapper;first|(rw [if_pos (by decide +kernel)];kernel_rfl)|(rw [if_neg (by decide +kernel)];exact ⟨rfl,rfl⟩)
theorem said:Rows.PackBurstsUptoSaid:=
 OpenClaim.holds_of_cond 8 Tryz.f8 rfl rfl rfl rfl rfl rfl rfl ⟨rfl,rfl,rfl,rfl,rfl⟩ rfl rfl rfl rfl rfl named Tryz.func8 closed inst wrap
  (fun os started H enc _ F=>by rw [OpenClaim.pre_eq_preRow];exact lifted os started H enc F)
theorem plain (f:FuncId) (fn:Func) (hf:Tryz.pinned.checked.prog.funcNamed "tessera/tesseralaw19.PackBursts" = some f) (hfn:Tryz.pinned.checked.prog.funcs[f]?=some fn) :
  true=Tryz.pinned.checked.prog.looks []∧∀ (j:Nat) t,fn.params[j]?=some t→Tryz.pinned.checked.prog.wantsStandIn t=false:=by
 obtain rfl:f=8:=Option.some.inj ((show Tryz.prog.funcNamed "tessera/tesseralaw19.PackBursts" = some 8 by kernel_rfl).symm.trans hf) |>.symm;obtain rfl:fn=Tryz.f8:=(Option.some.inj (Tryz.func8.symm.trans hfn)).symm;refine ⟨by kernel_rfl,fun j t ht=>?_⟩;rw [parT] at ht;have ht:t=22∨t=59:=by simpa using Array.mem_of_getElem? ht
 rcases ht with rfl|rfl
 ·exact (show Tryz.prog.wantsStandIn 22=false by kernel_rfl)
 ·exact (show Tryz.prog.wantsStandIn 59=false by kernel_rfl)
theorem card:Rows.PackBurstsUptoCardSaid:=
 Claim7.holds_tied_plain_at .later [] _ _ _ _ said (fun _ h=>by cases h) Jk (fun _ h=>by cases h) packBurstsUpto_row_tie rfl ⟨rfl,rfl⟩ Jk rfl plain Jk
end Go.Proofs.YtkienlambankeaaGreatDoor.packBursts
#print axioms Go.Proofs.YtkienlambankeaaGreatDoor.packBursts.card
