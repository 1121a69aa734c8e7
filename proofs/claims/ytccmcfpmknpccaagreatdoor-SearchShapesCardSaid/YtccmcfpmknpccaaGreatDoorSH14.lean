/- Lemmas and contracts of functions on the way to the law's card (part 14 of 16). -/
import Derived.Test.YtccmcfpmknpccaaGreatDoorSH13
import Derived.ChangeKeysEq
import Derived.Lib.LaidTab
import Derived.Test.YtccmcfpmknpccaaGreatDoorRows
import Derived.Deep.DeepHandedRow
import Derived.ProofKit
import Derived.OpenShut
import Derived.LaidHandle
import Derived.Shelf.Vars
import Derived.Test.YtccmcfpmknpccaaGreatDoorCards
namespace Go.Proofs.YtccmcfpmknpccaaGreatDoor
set_option maxHeartbeats 8000000
open Go.RowKit V
set_option maxRecDepth 100000
theorem ql2 (s p:ByteArray) (w:World):Gv Tryz.prog 134 [.string s,.string p] w fun r w'=>r=.bool (hasP s p)∧w'=w:=by
 have key:Gv Tryz.prog 211 [.string s,.string p] w fun r w'=>r=.bool (hasP s p)∧w'=w:=by
  rcases Nat.lt_or_ge s.size p.size with h|h
  ·have e:hasP s p=false:=by rw [hasP,decide_eq_false (Nat.not_le_of_lt h)];rfl
   rw [e];refine ze Tryz.func211 Tryz.ntmps211 ?_;refine zv ?_;exact ⟨rfl,rfl⟩
  ·have e:hasP s p=seq (s.extract 0 p.size) p:=by rw [hasP,decide_eq_true h];rfl
   rw [e];refine ze Tryz.func211 Tryz.ntmps211 ?_;refine zv ?_;refine SliceS.at_ 0 p.size rfl rfl (Nat.zero_le _) h (zu ?_);exact ⟨rfl,rfl⟩
 refine ze Tryz.func134 Tryz.ntmps134 ?_;refine zcv (key) ?_;rintro r w1 ⟨rfl,rfl⟩;(conv=>whnf);exact ⟨rfl,rfl⟩
theorem qvl (q:Q4) (w:World):Gv Tryz.prog 199 [qq q] w fun r w'=>r=qt q.s∧Ext w w':=by
 refine ze Tryz.func199 Tryz.ntmps199 ?_;refine znm (Mem.nil w) ?_;intro qb w1 hm;have hc:CellsAt w1 qb 0 (qd q):=CellsAt.mem hm (List.mem_singleton.2 rfl);(conv=>whnf);refine znm hm ?_;clear hm;intro rb w2 hm;have hc:CellsAt w2 qb 0 (qd q):=CellsAt.mem hm (zmc (List.mem_singleton.2 rfl));(conv=>whnf);refine LoadA.cells (qv hc 0 Oo) rfl (zw ?_);refine zS hm 0 fun w3 hm=>zw ?_;refine qj (R:=fun r w'=>r=qt q.s∧Ext w w') (zw ?_);refine zl hm 0 ?_;exact ⟨rfl,hm.ext⟩
theorem qvm (q:Q4) (w:World):Gv Tryz.prog 200 [qq q] w fun r w'=>r=qt q.p∧Ext w w':=by
 refine ze Tryz.func200 Tryz.ntmps200 ?_;refine znm (Mem.nil w) ?_;intro qb w1 hm;have hc:CellsAt w1 qb 0 (qd q):=CellsAt.mem hm (List.mem_singleton.2 rfl);(conv=>whnf);refine znm hm ?_;clear hm;intro rb w2 hm;have hc:CellsAt w2 qb 0 (qd q):=CellsAt.mem hm (zmc (List.mem_singleton.2 rfl));(conv=>whnf);refine LoadA.cells (qv hc 1 Oo) rfl (zw ?_);refine zS hm 0 fun w3 hm=>zw ?_;refine qj (R:=fun r w'=>r=qt q.p∧Ext w w') (zw ?_);refine zl hm 0 ?_;exact ⟨rfl,hm.ext⟩
theorem qvn (q:Q4) (w:World):Gv Tryz.prog 201 [qq q] w fun r w'=>r=qt q.o∧Ext w w':=by
 refine ze Tryz.func201 Tryz.ntmps201 ?_;refine znm (Mem.nil w) ?_;intro qb w1 hm;have hc:CellsAt w1 qb 0 (qd q):=CellsAt.mem hm (List.mem_singleton.2 rfl);(conv=>whnf);refine znm hm ?_;clear hm;intro rb w2 hm;have hc:CellsAt w2 qb 0 (qd q):=CellsAt.mem hm (zmc (List.mem_singleton.2 rfl));(conv=>whnf);refine LoadA.cells (qv hc 2 Oo) rfl (zw ?_);refine zS hm 0 fun w3 hm=>zw ?_;refine qj (R:=fun r w'=>r=qt q.o∧Ext w w') (zw ?_);refine zl hm 0 ?_;exact ⟨rfl,hm.ext⟩
theorem qvo (q:Q4) (w:World):Gv Tryz.prog 202 [qq q] w fun r w'=>r=qt q.g∧Ext w w':=by
 refine ze Tryz.func202 Tryz.ntmps202 ?_;refine znm (Mem.nil w) ?_;intro qb w1 hm;have hc:CellsAt w1 qb 0 (qd q):=CellsAt.mem hm (List.mem_singleton.2 rfl);(conv=>whnf);refine znm hm ?_;clear hm;intro rb w2 hm;have hc:CellsAt w2 qb 0 (qd q):=CellsAt.mem hm (zmc (List.mem_singleton.2 rfl));(conv=>whnf);refine LoadA.cells (qv hc 3 Oo) rfl (zw ?_);refine zS hm 0 fun w3 hm=>zw ?_;refine qj (R:=fun r w'=>r=qt q.g∧Ext w w') (zw ?_);refine zl hm 0 ?_;exact ⟨rfl,hm.ext⟩
def PlF (pl:Int) (g:FuncId):Prop:=∀ q w,Gv Tryz.prog g [qq q] w fun r w'=>r=qt (plT pl q)∧Ext w w'
def RchR (pl:Int) (v:Value):Prop:=
 (plOk pl=false∧v=.tuple #[.agg #[.nilFunc],.bool false])∨(plOk pl=true∧∃ g,v=.tuple #[.agg #[.func (.func g) #[] #[]],.bool true]∧PlF pl g)
theorem qok (pl:Int) (w:World):Gv Tryz.prog 122 [ii pl] w fun r w'=>RchR pl r∧Ext w w':=by
 refine ze Tryz.func122 Tryz.ntmps122 ?_;refine znm (Mem.nil w) fun rb w1 hm=>zw ?_;refine znm hm ?_;clear hm;intro ab w2 hm
 rcases Classical.em (plOk pl=true) with hp|hp
 case inr=>
  replace hp:plOk pl=false:=by simpa using hp
  have hn:=q9d.1 hp
  rcases Int.lt_or_le pl 0 with h0|h0
  all_goals
   refine zu ?_;refine zS hm 1 fun w3 hm=>zw ?_;refine qj (R:=fun r w'=>RchR pl r∧Ext w w') (zw ?_);refine zl hm 1 ?_;exact ⟨.inl ⟨hp,rfl⟩,hm.ext⟩
 have hp4:=qtj.1 hp;obtain ⟨k,rfl⟩:∃ k:Nat,pl=(k:Int):=⟨pl.toNat,by omega⟩
 have hk:k<4:=by omega
 have hfin:∀ g,(∀ q w,Gv Tryz.prog g [qq q] w fun r w'=>r=qt (q.at k)∧Ext w w')→PlF (k:Int) g:=fun g hg q w=>hg q w
 refine zu ?_;refine ElemV.own1 k rfl Oo ?_
 match k,hk with
 | 0,_=>
  (conv=>whnf);refine LoadA.part (vs:=[.func (.func 199) #[] #[]]) (hm.get mh) rfl (fun i hi=>by have hi2:i<1:=hi;obtain rfl:i=0:=(by omega);rfl) (zw ?_);refine zS hm 1 fun w3 hm=>zw ?_;refine qj (R:=fun r w'=>RchR ((0:Nat):Int) r∧Ext w w') (zw ?_);refine zl hm 1 ?_;exact ⟨.inr ⟨rfl,_,rfl,hfin _ qvl⟩,hm.ext⟩
 | 1,_=>
  (conv=>whnf);refine LoadA.part (vs:=[.func (.func 200) #[] #[]]) (hm.get mh) rfl (fun i hi=>by have hi2:i<1:=hi;obtain rfl:i=0:=(by omega);rfl) (zw ?_);refine zS hm 1 fun w3 hm=>zw ?_;refine qj (R:=fun r w'=>RchR ((1:Nat):Int) r∧Ext w w') (zw ?_);refine zl hm 1 ?_;exact ⟨.inr ⟨rfl,_,rfl,hfin _ qvm⟩,hm.ext⟩
 | 2,_=>
  (conv=>whnf);refine LoadA.part (vs:=[.func (.func 201) #[] #[]]) (hm.get mh) rfl (fun i hi=>by have hi2:i<1:=hi;obtain rfl:i=0:=(by omega);rfl) (zw ?_);refine zS hm 1 fun w3 hm=>zw ?_;refine qj (R:=fun r w'=>RchR ((2:Nat):Int) r∧Ext w w') (zw ?_);refine zl hm 1 ?_;exact ⟨.inr ⟨rfl,_,rfl,hfin _ qvn⟩,hm.ext⟩
 | 3,_=>
  (conv=>whnf);refine LoadA.part (vs:=[.func (.func 202) #[] #[]]) (hm.get mh) rfl (fun i hi=>by have hi2:i<1:=hi;obtain rfl:i=0:=(by omega);rfl) (zw ?_);refine zS hm 1 fun w3 hm=>zw ?_;refine qj (R:=fun r w'=>RchR ((3:Nat):Int) r∧Ext w w') (zw ?_);refine zl hm 1 ?_;exact ⟨.inr ⟨rfl,_,rfl,hfin _ qvo⟩,hm.ext⟩
structure SbeΦ (x pb vb tb:Nat) (T:List TM) (qs:List Q4) (p:Q4) (pl:Int) (pre:ByteArray) (b1 b2 b3 b4:Nat) (w:World):Prop where
 X:IdxE w x pb vb tb (encP T qs)
 G:GlobS w
 c1:w.cell? ⟨b1,0,none⟩=some (pp x)
 c2:CellsAt w b2 0 (qd p)
 c3:w.cell? ⟨b3,0,none⟩=some (ii pl)
 c4:w.cell? ⟨b4,0,none⟩=some (.string pre)
theorem qqz (x:Nat) (p:Q4) (pl:Int) (pre:ByteArray) (w:World):Gv Tryz.prog 64 [pp x,qq p,ii pl,.string pre] w fun r w'=>
  ∃ b1 b2 b3 b4,r=.func (.func 133) #[] #[pp b3,pp b1,pp b2,pp b4]∧
   Mem w w' [(b4,.cells #[.string pre] 9),(b3,.cells #[ii pl] 3),(b2,.cells (qd p).toArray 47),(b1,.cells #[pp x] 26)]:=by
 refine ze Tryz.func64 Tryz.ntmps64 ?_;refine znm (Mem.nil w) fun b1 w1 hm=>zw ?_;refine znm hm fun b2 w2 hm=>zw ?_;refine znm hm fun b3 w3 hm=>zw ?_;refine znm hm fun b4 w4 hm=>zw ?_;exact ⟨b1,b2,b3,b4,rfl,hm⟩
theorem qq0 (T:List TM) (qs:List Q4) (h:EncOk T qs) (x pb vb tb:Nat) (p:Q4) (hp:qak p) (pl:Int) (pre:ByteArray) (b1 b2 b3 b4:Nat) :
  SeqC Tryz.prog 133 [pp b3,pp b1,pp b2,pp b4] ((begL pl pre p qs).map (sRow qs)) (SbeΦ x pb vb tb T qs p pl pre b1 b2 b3 b4):=by
 intro y I Ix w cI cIx hI h0 hy;have hxs:((begL pl pre p qs).map (sRow qs)).length=(begL pl pre p qs).length:=List.length_map ..;refine gvW Jk Tryz.func133 rfl Tryz.ntmps133 rfl (zw ?_);refine NewV.carr (cI 0) h0 fun yb w1 h0=>zw ?_;refine LoadV.of (hI _ _ _ h0).c3 (zw ?_);refine zcv (qok pl w1) ?_;rintro r w2 ⟨hr,he2⟩;replace h0:=(cI 0).ext h0 he2
 rcases hr with ⟨hpl,rfl⟩|⟨hpl,g,rfl,hg⟩
 case inl=>
  (conv=>whnf);refine NewV.carr (cI 0) h0 fun ab w3 h0=>zw ?_;refine StoreA.carr (cI 0) (A:=[]) h0 rfl (by simp [Value.oneCell']) fun w4 h0=>zu ?_;refine .inl ?_;rw [hxs,q7a pre p qs hpl];exact (cI 0).drop ((cI 0).drop h0)
 (conv=>whnf);refine NewV.carr (cI 0) h0 fun ab w3 h0=>zw ?_;refine StoreA.carr (cI 0) (A:=[]) h0 rfl (by simp [Value.oneCell']) fun w4 h0=>zu ?_;refine LoadV.of (hI _ _ _ h0).c1 (zw ?_);refine LoadA.cells (hI _ _ _ h0).c2 rfl (zw ?_);refine zcv (qhi x p w4) ?_;rintro r w5 ⟨c1,c2,rfl,hm5⟩;replace h0:=(cI 0).call h0 hm5;obtain ⟨f,ef⟩:∃ f:Nat→Bool,f=fun i=>plOk pl&&begQ pl pre (qs.getD i zQ):=⟨_,rfl⟩
 obtain ⟨M,eM⟩:∃ M,M=qaa p qs:=⟨_,rfl⟩
 have eB:begL pl pre p qs=M.filter f:=by rw [begL,eM,ef]
 rw [eB] at hxs hy ⊢;obtain ⟨L,hL⟩:∃ L:List (Nat × Obj),L=[(c2,.cells (qd p).toArray 47),(c1,.cells #[pp x] 26),(ab,.cells #[.func (.func g) #[] #[]] 233),(yb,.cells #[.func (.yield y) #[] #[]] 150)]:=⟨_,rfl⟩
 have hJ:I 0 ([]++L) w5:=by rw [hL];exact h0
 clear h0;have hin1:(c1,Obj.cells #[pp x] 26)∈L:=by rw [hL];simp
 have hin2:(c2,Obj.cells (qd p).toArray 47)∈L:=by rw [hL];simp
 have hin3:(ab,Obj.cells #[.func (.func g) #[] #[]] 233)∈L:=by rw [hL];simp
 have hin4:(yb,Obj.cells #[.func (.yield y) #[] #[]] 150)∈L:=by rw [hL];simp
 have hml:(M.map (sRow qs)).length=M.length:=List.length_map ..;have hga:∀ {k:Nat} {X:List (Nat × Obj)} {w':World},I k (X++L) w'→w'.heap[ab]?=some (.cells #[.func (.func g) #[] #[]] 233):=fun hh=>(cI _).get hh (List.mem_append_right _ hin3)
 have hgy:∀ {k:Nat} {X:List (Nat × Obj)} {w':World},I k (X++L) w'→w'.heap[yb]?=some (.cells #[.func (.yield y) #[] #[]] 150):=fun hh=>(cI _).get hh (List.mem_append_right _ hin4)
 have hJ:I (cntB f M 0) ([]++L) w5:=hJ;(conv=>whnf);refine q0c (Φ:=SmaΦ x pb vb tb T qs p c1 c2) (lb:=[pp c1,pp c2]) (xs:=M.map (sRow qs)) rfl Jk (by rw [eM];exact qhj T qs h x pb vb tb p hp (h.idX p) c1 c2) Od ?_
  (fun k X w'=>I (cntB f M k) (X++L) w') (fun c k X w'=>(c=.ret∧cntB f M k<(M.filter f).length)∧Ix (cntB f M k) (X++L) w')
  (fun k=>(cI _).tail _) (fun c k=>Carr.and ((cIx _).tail _))
  (fun k X w' hh=>⟨(hI _ _ _ hh).X,(hI _ _ _ hh).G,by rw [qa ((cI _).get hh (List.mem_append_right _ hin1))];rfl,fun j v hv=>by rw [qa ((cI _).get hh (List.mem_append_right _ hin2)),Nat.zero_add,List.getElem?_toArray];exact hv⟩) hJ ?_ ?_ ?_
 ·intro r hr;obtain ⟨j,_,rfl⟩:=List.mem_map.1 hr;rfl
 ·rintro l2 D oa od k r X w6 hr hJ;rw [List.getElem?_map] at hr;cases hrow:M[k]? with
  | none=>rw [hrow] at hr;cases hr
  | some i=>
  rw [hrow,Option.map_some,Option.some.injEq] at hr;subst hr;obtain ⟨q,eq⟩:∃ q,qs.getD i zQ=q:=⟨_,rfl⟩
  have hfi:f i=begQ pl pre q:=by rw [ef];dsimp only;rw [hpl,eq];rfl
  rw [show sRow qs i=[ii i,qq q] by rw [sRow,eq]];(conv=>whnf);refine NewV.carr (cI _) hJ fun nb w8 hJ=>zw ?_;refine StoreA.carr (vs:=qd q) (cI _) (A:=[]) hJ rfl (qaq q) fun w9 hJ=>zw ?_;refine ⟨rfl,(nb,.cells (qd q).toArray 47)::(D,.deferred (some []))::X,(cI _).perm hJ (List.Perm.swap _ _ _),?_⟩;clear hJ;intro w9 hJ;have hgq:=(cI _).get hJ (zmc mh);(conv=>whnf);refine LoadV.own (hga hJ) rfl (zw ?_);refine LoadA.own hgq rfl (zw ?_);refine zcv (hg q w9) ?_;rintro r w10 ⟨rfl,he10⟩;replace hJ:=(cI _).ext hJ he10;obtain ⟨t,et⟩:∃ t,t=plT pl q:=⟨_,rfl⟩
  rw [← et];(conv=>whnf);refine NewV.carr (cI _) hJ fun tb2 w11 hJ=>zw ?_;refine StoreA.carr (vs:=encT t) (cI _) (A:=[]) hJ rfl (qab t) ?_;clear hJ;intro w12 hJ;have hgt:=(cI _).get hJ mh;(conv=>whnf);refine LoadV.own hgt rfl ?_
  rcases Classical.em (t.kind=1) with hk|hk
  case inr=>
   have e:=qxg hrow (show f i=false by rw [hfi];rw [begQ,← et,decide_eq_false hk];rfl);refine zu ?_;show I (cntB f M (k+1)) _ _;rw [e];exact (cI _).dropM (A:=[(l2,od)]) ((cI _).drop hJ)
  refine zu ?_;refine LoadV.own hgt rfl (zu ?_);refine LoadV.of (hI _ _ _ hJ).c4 (zu ?_);refine zcv (ql2 t.text pre w12) ?_;rintro r w13 ⟨rfl,rfl⟩;cases hs:hasP t.text pre
  case false=>
   have e:=qxg hrow (show f i=false by rw [hfi];rw [begQ,← et,hs,Bool.and_false]);refine zu ?_;show I (cntB f M (k+1)) _ _;rw [e];exact (cI _).dropM (A:=[(l2,od)]) ((cI _).drop hJ)
  have hft:f i=true:=by rw [hfi];rw [begQ,← et,hs,decide_eq_true hk];rfl
  have e:=q2p hrow hft;have hget:=qsb hrow hft;have hlt:=q7l hrow hft;refine zu ?_;refine LoadV.own (hgy ((cI _).drop hJ)) rfl (zu ?_);refine LoadA.own ((cI _).get hJ (zmc (zmc mh))) rfl (zu ?_);have hrw:((M.filter f).map (sRow qs))[cntB f M k]?=some [ii i,qq q]:=by
   rw [List.getElem?_map,hget,Option.map_some,sRow,eq]
  refine YieldV.mono (hy _ _ _ w13 hrw hJ) ?_;clear hJ;rintro v w14 (⟨rfl,hJ⟩|⟨rfl,hX⟩)
  ·refine zu ?_;show I (cntB f M (k+1)) _ _;rw [e];exact (cI _).dropM (A:=[(l2,od)]) ((cI _).drop hJ)
  ·refine zu ?_;exact ⟨⟨rfl,hlt⟩,(cIx _).dropM (A:=[(l2,od)]) ((cIx _).drop hX)⟩
 ·rintro D w6 hJ;rw [hml,q2o] at hJ;(conv=>whnf);refine LeaveV.marks (J:=fun X w'=>I (M.filter f).length X w') (cI _) ?_ (D:=D) (Ds:=[]) ((cI _).dropL ((cI _).perm hJ List.perm_append_comm));intro w' h';(conv=>whnf);exact .inl (by rw [hxs];exact h')
 ·rintro D c k w6 hk ⟨⟨rfl,hlt⟩,hX⟩;(conv=>whnf);refine LeaveV.marks (J:=fun X w'=>Ix (cntB f M k) X w') (cIx _) ?_ (D:=D) (Ds:=[]) ((cIx _).dropL ((cIx _).perm hX List.perm_append_comm));intro w' h';(conv=>whnf);exact .inr ⟨cntB f M k,by rw [hxs];exact hlt,h'⟩
abbrev TN:=TM × Nat
def meT (i:Nat) (e:TN):MapEntry:=⟨qt e.1,ii e.2,i⟩
def mpO (l:List TN):Obj:=.map (l.mapIdx meT).toArray l.length
def ixL (t:TM):List TN→Nat
 | []=>0
 | e::l=>if qaj t e.1=true then 0 else ixL t l+1
def cnL (t:TM):List TN→Nat
 | []=>0
 | e::l=>if qaj t e.1=true then e.2 else cnL t l
def adL (t:TM):List TN→List TN
 | []=>[(t,0)]
 | e::l=>if qaj t e.1=true then e::l else e::adL t l
def icT (t:TM):List TN→List TN
 | []=>[(t,1)]
 | e::l=>if qaj t e.1=true then (e.1,e.2+1)::l else e::icT t l
theorem qyn (t:TM):∀ l:List TN,ixL t l≤l.length
 | []=>Nat.le_refl _
 | e::l=>by
  have:=qyn t l;rw [ixL]
  split<;>simp<;>omega
theorem qrw {t:TM}:∀ {l:List TN},ixL t l<l.length→adL t l=l
 | [],h=>(by grind)
 | e::l,h=>by
  rw [ixL] at h;rw [adL]
  split
  ·rfl
  ·rename_i hs
   rw [if_neg hs] at h;rw [qrw (by simpa using h)]
theorem qlf {t:TM}:∀ {l:List TN},¬ ixL t l<l.length→adL t l=l++[(t,0)]
 | [],_=>rfl
 | e::l,h=>by
  rw [ixL] at h;rw [adL]
  split
  ·rename_i hs
   rw [if_pos hs] at h;exact absurd (Nat.zero_lt_succ _) h
  ·rename_i hs
   rw [if_neg hs] at h;rw [qlf (by simpa using h)];rfl
theorem qp9 {t:TM} {l:List TN} (h:¬ ixL t l<l.length):ixL t l=l.length:=by grind [qyn]
theorem qln {t:TM}:∀ {l:List TN},¬ ixL t l<l.length→cnL t l=0
 | [],_=>rfl
 | e::l,h=>by
  rw [ixL] at h;rw [cnL]
  split
  ·rename_i hs
   rw [if_pos hs] at h;exact absurd (Nat.zero_lt_succ _) h
  ·rename_i hs
   rw [if_neg hs] at h;exact qln (by simpa using h)
theorem qym {t:TM}:∀ {l:List TN},ixL t l<l.length→l[ixL t l]?=some (t,cnL t l)
 | [],h=>(by grind)
 | e::l,h=>by
  rw [ixL] at h;rw [ixL,cnL]
  split
  ·rename_i hs
   rw [qu.1 hs];rfl
  ·rename_i hs
   rw [if_neg hs] at h;rw [List.getElem?_cons_succ];exact qym (by simpa using h)
theorem qaa9 (t:TM) (l:List TN):ixL t l<(adL t l).length:=by
 grind [qrw,qlf,qp9]
theorem q53 (t:TM):∀ l:List TN,icT t l=(adL t l).set (ixL t l) (t,cnL t l+1)
 | []=>rfl
 | e::l=>by
  rw [icT,adL,ixL,cnL]
  split
  ·rename_i hs
   rw [qu.1 hs];rfl
  ·rw [q53 t l];rfl
theorem q5s (t:TM):∀ l:List TN,cnL t (adL t l)=cnL t l
 | []=>by rw [adL];simp [cnL]
 | e::l=>by
  rw [adL]
  split
  ·rfl
  ·rename_i hs
   rw [cnL,cnL,if_neg hs,if_neg hs,q5s t l]
theorem q54 (t:TM):∀ l:List TN,cnL t (icT t l)=cnL t l+1
 | []=>by
  grind [qu,icT,cnL]
 | e::l=>by
  rw [icT]
  split
  ·rename_i hs
   rw [cnL,cnL,if_pos hs,if_pos hs]
  ·rename_i hs
   rw [cnL,cnL,if_neg hs,if_neg hs,q54 t l]
theorem qxf {t:TM}:∀ {l:List TN},(∀ e∈l,1≤e.2)→(cnL t l=0↔t∉l.map (·.1))
 | [],_=>by simp [cnL]
 | e::l,h=>by
  rw [cnL]
  split
  ·rename_i hs
   have:=h e mh;rw [qu.1 hs];simp only [List.map_cons,List.mem_cons,true_or,not_true,iff_false];omega
  ·rename_i hs
   rw [qxf (fun x hx=>h x (zmc hx))];simp only [List.map_cons,List.mem_cons,not_or];exact ⟨fun g=>⟨fun e2=>hs (qu.2 e2),g⟩,fun g=>g.2⟩
theorem qyf {t:TM}:∀ {l:List TN},(∀ e∈l,1≤e.2)→∀ e∈icT t l,1≤e.2
 | [],_=>by simp [icT]
 | e::l,h=>by
  rw [icT]
  split
  ·grind
  ·intro x hx
   rcases List.mem_cons.1 hx with rfl|hx
   ·exact h _ mh
   ·exact qyf (fun y hy=>h y (zmc hy)) x hx
open Classical in
theorem qsv (t:TM):∀ l:List TN,(icT t l).map (·.1)=if t∈l.map (·.1) then l.map (·.1) else l.map (·.1)++[t]
 | []=>by simp [icT]
 | e::l=>by
  rw [icT]
  split
  ·rename_i hs
   rw [qu.1 hs];simp
  ·rename_i hs
   have hne:t≠e.1:=fun e2=>hs (qu.2 e2)
   rw [List.map_cons,qsv t l]
   by_cases hm:t∈l.map (·.1)
   ·rw [if_pos hm,List.map_cons,if_pos (zmc hm)]
   ·rw [if_neg hm,if_neg (by rw [List.map_cons,List.mem_cons,not_or];exact ⟨hne,hm⟩)];rfl
theorem qyg (t:TM):∀ l:List TN,((icT t l).map (·.2)).sum=(l.map (·.2)).sum+1
 | []=>rfl
 | e::l=>by
  rw [icT]
  split
  ·simp only [List.map_cons,List.sum_cons];omega
  ·rw [List.map_cons,List.sum_cons,qyg t l];simp only [List.map_cons,List.sum_cons];omega
theorem q5y (t:TM):∀ l:List TN,cnL t l≤(l.map (·.2)).sum
 | []=>Nat.le_refl _
 | e::l=>by
  have:=q5y t l;rw [cnL,List.map_cons,List.sum_cons]
  split<;>omega
theorem mapK:Tryz.prog.underlying 236=some (.map 45 3):=by kernel_rfl
theorem qtv (t:TM) (b:Bool) (d:Nat) (w:World):(Instr.checkKey b (d+2) 45 (qt t)).run Tryz.prog w=.ok () w:=by
 have u3:=Tryz.underlying3;have a3:=Tryz.isAgg3;have z3:=Tryz.sizeOf3;have u9:=Tryz.underlying9;have a9:=Tryz.isAgg9;have z9:=Tryz.sizeOf9;simp only [qt,Instr.checkKey];simp only [Sem.run_bind,run_underlying Tryz.underlying45,Result.andThen_ok];rw [← Array.forIn_toList];simp only [List.forIn_cons,List.forIn_nil]
 go_simp
theorem q9t (a b:TM) (w:World):(Op.equal 45 (qt a) (qt b)).run Tryz.prog w=.ok (qaj a b) w:=qau 9998 a b w
theorem qtu (t:TM) (w:World):∀ (l:List TN) (es:List MapEntry) (i:Nat),(∀ (j:Nat) e,l[j]?=some e→∃ b,es[j]?=some ⟨qt e.1,ii e.2,b⟩)→es.length=l.length→
  (Instr.findAsking 45 (qt t) es i).run Tryz.prog w=.ok (if ixL t l<l.length then some (i+ixL t l,ii (cnL t l)) else none) w
 | [],es,i,_,hl=>by
  simp_all [Instr.findAsking]
 | e::l,[],i,_,hl=>by simp at hl
 | e::l,x::es,i,h,hl=>by
  obtain ⟨b,hb⟩:=h 0 e rfl;rw [List.getElem?_cons_zero,Option.some.injEq] at hb;subst hb;have ih:=qtu t w l es (i+1) (fun j y hj=>h (j+1) y hj) (by simpa using hl);rw [Instr.findAsking,Sem.run_bind,q9t,Result.andThen_ok,ixL,cnL];cases hs:qaj t e.1
  ·grind
  ·simp
theorem qf1 (l:List TN) (j:Nat):(l.mapIdx meT)[j]?=(l[j]?).map (meT j):=List.getElem?_mapIdx
theorem qoo (t:TM) (l:List TN) (w:World):(Instr.findKey 45 (qt t) (l.mapIdx meT)).run Tryz.prog w=.ok (if ixL t l<l.length then some (ixL t l,ii (cnL t l)) else none) w:=by
 have ha:=qtu t w l (l.mapIdx meT) 0 (fun j e hj=>⟨j,by rw [qf1,hj];rfl⟩) Js;rw [Nat.zero_add] at ha;rw [Instr.findKey,Sem.run_bind,run_underlying Tryz.underlying45,Result.andThen_ok];cases hl:l with
 | nil=>rfl
 | cons e l2=>
  rw [hl] at ha;have hn:∀ d:Array Field,Instr.findNow (.struct d) (qt t) ((e::l2).mapIdx meT) 0=none:=fun d=>by
   rw [List.mapIdx_cons,Instr.findNow];rfl
  simp_all
theorem qi5 {w:World} {r:Nat} {l:List TN} (h:w.heap[r]?=some (mpO l)):(getObj r).run Tryz.prog w=.ok (.map (l.mapIdx meT).toArray l.length) w:=by
 simp [getObj,Sem.run,h,mpO]
theorem qjs {w:World} {r:Nat} {l:List TN} (o:Obj) (h:w.heap[r]?=some (mpO l)):(setObj r o).run Tryz.prog w=.ok () (setO w r o):=by
 simp [setObj,Sem.run,h,setO,mpO]
theorem qaa5 (w:World):(zeroValue 3).run Tryz.prog w=.ok (ii 0) w:=by kernel_rfl
theorem qop (t:TM) (l:List TN) (r:Nat) (w:World) (h:w.heap[r]?=some (mpO l)):(Instr.lookup 236 (.map (some r)) (qt t) false).run Tryz.prog w=.ok (ii (cnL t l)) w:=by
 rw [Instr.lookup,Sem.run_bind,run_underlying mapK,Result.andThen_ok];simp only [Sem.run_bind,qi5 h,Result.andThen_ok,Sem.run_pure];rw [show (10000:Nat)=9998+2 from rfl,qtv,Result.andThen_ok,qoo,Result.andThen_ok]
 by_cases hi:ixL t l<l.length
 ·simp_all
 ·rw [if_neg hi,qln hi];simp
theorem q0q (t:TM) (n:Nat):Instr.sameBits (n+1) (qt t) (qt t)=true:=by
 simp [beq_toListBytes,qt,Instr.sameBits]
theorem qvx (t:TM) (w:World):(Instr.keyThatStays (qt t) (qt t)).run Tryz.prog w=.ok (qt t) w:=by
 simp [Instr.keyThatStays,q0q]
theorem qqh (l:List TN) (i:Nat) (t:TM) (n:Nat) (h:l[i]?=some (t,n)):(l.mapIdx meT).toArray.modify i (fun e=>{ e with key:=qt t })=(l.mapIdx meT).toArray:=by
 apply Array.ext_getElem?;intro j;rw [Array.getElem?_modify]
 split
 ·rename_i e
  subst e;rw [List.getElem?_toArray,qf1,h];rfl
 ·rfl
theorem q4c (l:List TN) (t:TM) (n:Nat):(l.mapIdx meT).toArray.push ⟨qt t,ii n,l.length⟩=((l++[(t,n)]).mapIdx meT).toArray:=by
 grind [meT]
theorem q4j (t:TM) (l:List TN) (r:Nat) (w:World) (h:w.heap[r]?=some (mpO l)):(Instr.mapEntry 236 (.map (some r)) (qt t)).run Tryz.prog w=.ok (.tuple #[ii (cnL t l),ii (ixL t l)]) (setO w r (mpO (adL t l))):=by
 rw [Instr.mapEntry,Sem.run_bind,run_underlying mapK,Result.andThen_ok];simp only [Sem.run_bind,qi5 h,Result.andThen_ok];rw [show (10000:Nat)=9998+2 from rfl,qtv,Result.andThen_ok,qoo,Result.andThen_ok]
 by_cases hi:ixL t l<l.length
 ·have ha:=qym hi;have hm:(l.mapIdx meT).toArray[ixL t l]?=some (meT (ixL t l) (t,cnL t l)):=by simp_all
  rw [if_pos hi];simp only [hm,Option.map_some,Option.getD_some];rw [show (meT (ixL t l) (t,cnL t l)).key=qt t from rfl,Sem.run_bind,qvx,Result.andThen_ok,Sem.run_bind,qqh l _ t _ ha,qjs _ h,Result.andThen_ok,qrw hi];rfl
 ·rw [if_neg hi];simp only [Sem.run_bind,qaa5,Result.andThen_ok];rw [qjs _ h,Result.andThen_ok,qlf hi,qln hi,qp9 hi];have:=q4c l t 0
  simp_all [mpO,goInt]
theorem qx0 (l:List TN) (i:Nat) (h:i<l.length):(l.mapIdx meT).toArray.findIdx? (fun e=>(e.born:Int)==(i:Int))=some i:=by
 grind [Array.findIdx?_eq_some_iff_getElem,meT]
theorem qu4 (l:List TN) (i:Nat) (t:TM) (n m:Nat) (h:l[i]?=some (t,n)):(l.mapIdx meT).toArray.modify i (fun e=>{ e with val:=ii m })=((l.set i (t,m)).mapIdx meT).toArray:=by
 have hi:=(List.getElem?_eq_some_iff.1 h).1;apply Array.ext_getElem?;intro j;rw [Array.getElem?_modify,List.getElem?_toArray,List.getElem?_toArray,qf1,qf1,List.getElem?_set]
 split
 ·rename_i e
  subst e;rw [h];rfl
 ·rfl
theorem qaa8 (t:TM) (l:List TN):(adL t l)[ixL t l]?=some (t,cnL t l):=by
 grind [qrw,qym,qlf,qp9,qln]
theorem q4k (t:TM) (l:List TN) (r:Nat) (w:World) (h:w.heap[r]?=some (mpO (adL t l))):(Instr.entryStore 236 (.map (some r)) (ii (ixL t l)) (ii ((cnL t l:Int)+1))).run Tryz.prog w=.ok () (setO w r (mpO (icT t l))):=by
 have hix:=qaa9 t l;rw [Instr.entryStore];simp only [Sem.run_bind,qi5 h,Result.andThen_ok];have hw:(asInt (ii (ixL t l:Nat))).run Tryz.prog w=.ok ((ixL t l:Nat):Int) w:=by
  rfl
 rw [hw,Result.andThen_ok,qx0 _ _ hix]
 grind [qu4,qaa8,qjs,q53,mpO]
namespace V
theorem Fall.make {P:Program} {ρ:Nat→Value} {o:Oper} {w:World} {K:Value→World→Prop} {t:TypeId} (ho:o.op=.makeMap t none) (h:NewV w (.map #[] 0) fun b w'=>K (.map (some b)) w'):Fall P (execOp (ev ρ) o) w K:=by
 refine ⟨.inl ⟨.map (some w.heap.size),w.alloc (.map #[] 0),?_,h.h _ _ rfl rfl⟩⟩
 simp_all [execOp,Instr.makeMap]
theorem Fall.look {P:Program} {ρ:Nat→Value} {o:Oper} {w:World} {K:Value→World→Prop} {t:TypeId} {m k:Operand} (ho:o.op=.lookup t m k false) {a b v:Value} (ha:ev ρ m=a) (hb:ev ρ k=b) (hr:(Instr.lookup t a b false).run P w=.ok v w) (hk:K v w):Fall P (execOp (ev ρ) o) w K:=by
 refine ⟨.inl ⟨v,w,?_,hk⟩⟩
 simp_all [execOp]
theorem Fall.entry {P:Program} {ρ:Nat→Value} {o:Oper} {w w':World} {K:Value→World→Prop} {t:TypeId} {m k:Operand} (ho:o.op=.mapEntry t m k) {a b v:Value} (ha:ev ρ m=a) (hb:ev ρ k=b) (hr:(Instr.mapEntry t a b).run P w=.ok v w') (hk:K v w'):Fall P (execOp (ev ρ) o) w K:=by
 refine ⟨.inl ⟨v,w',?_,hk⟩⟩
 simp_all [execOp]
theorem Fall.put {P:Program} {ρ:Nat→Value} {o:Oper} {w w':World} {K:Value→World→Prop} {t:TypeId} {m s x:Operand} (ho:o.op=.entryStore t m s x) {a b c:Value} (ha:ev ρ m=a) (hb:ev ρ s=b) (hc:ev ρ x=c) (hr:(Instr.entryStore t a b c).run P w=.ok () w') (hk:K undef w'):Fall P (execOp (ev ρ) o) w K:=by
 refine ⟨.inr ⟨w',?_,hk⟩⟩
 simp_all [execOp]
end V
theorem V.Carr.chn {J:List (Nat × Obj)→World→Prop} (hJ:Carr J) {g:Nat} {o:Obj} {X:List (Nat × Obj)} {w w':World} (h:J ((g,o)::X) w) (hc:Chn [g] w w') {o':Obj} (ho:w'.heap[g]?=some o'):J ((g,o')::X) w':=by
 have hg:=hJ.get h mh;have h2:=hJ.set o' h;refine hJ.ext h2 ⟨hc.os,hc.tape,hc.output,by simpa [setO] using hc.size,fun k hk=>?_⟩;have hk':k<w.heap.size:=by grind [setO]
 by_cases e:k=g
 ·grind [qjr]
 ·rw [qen e];exact hc.block k hk' (by simpa using e)
structure SteΦ (x pb vb tb:Nat) (T:List TM) (qs:List Q4) (p:Q4) (pl:Int) (b1 b2 b3:Nat) (w:World):Prop where
 X:IdxE w x pb vb tb (encP T qs)
 G:GlobS w
 c1:w.cell? ⟨b1,0,none⟩=some (pp x)
 c2:CellsAt w b2 0 (qd p)
 c3:w.cell? ⟨b3,0,none⟩=some (ii pl)
theorem qv7 (x:Nat) (p:Q4) (pl:Int) (w:World):Gv Tryz.prog 57 [pp x,qq p,ii pl] w fun r w'=>
  ∃ b1 b2 b3,r=.func (.func 121) #[] #[pp b3,pp b1,pp b2]∧
   Mem w w' [(b3,.cells #[ii pl] 3),(b2,.cells (qd p).toArray 47),(b1,.cells #[pp x] 26)]:=by
 refine ze Tryz.func57 Tryz.ntmps57 ?_;refine znm (Mem.nil w) fun b1 w1 hm=>zw ?_;refine znm hm fun b2 w2 hm=>zw ?_;refine znm hm fun b3 w3 hm=>zw ?_;exact ⟨b1,b2,b3,rfl,hm⟩
open Classical in
noncomputable def uTs (Ts:List TM) (k:Nat):List TM:=uniA [] (Ts.take k)
open Classical in
theorem q6x {Ts:List TM} {k:Nat} {t:TM} (h:Ts[k]?=some t) (hm:t∈uTs Ts k):uTs Ts (k+1)=uTs Ts k:=by
 rw [uTs,List.take_add_one,h,Option.toList_some,qgi];exact if_pos hm
open Classical in
theorem q1h {Ts:List TM} {k:Nat} {t:TM} (h:Ts[k]?=some t) (hm:t∉uTs Ts k):uTs Ts (k+1)=uTs Ts k++[t]:=by
 rw [uTs,List.take_add_one,h,Option.toList_some,qgi];exact if_neg hm
theorem q1g {Ts:List TM}:∀ {k:Nat},k≤Ts.length→(uTs Ts k).length≤k
 | 0,_=>Nat.le_refl _
 | k+1,h=>by
  have ih:=q1g (Ts:=Ts) (k:=k) Oo;have hk:Ts[k]?=some Ts[k]:=zge Oo
  by_cases hm:Ts[k]∈uTs Ts k
  ·rw [q6x hk hm];omega
  ·rw [q1h hk hm,zla];simp;omega
def TeJ (J:List (Nat × Obj)→World→Prop) (mo lb:Nat) (Ts:List TM) (L:List (Nat × Obj)) (k:Nat) (X:List (Nat × Obj)) (w:World):Prop:=
 ∃ s:List TN × Value × List (Nat × Obj),(s.1.map (·.1)=uTs Ts k∧(∀ e∈s.1,1≤e.2)∧(s.1.map (·.2)).sum≤k∧RowX 45 4 s.2.1 (uTs Ts k).length ((uTs Ts k).map encT).flatten s.2.2)∧
  J (X++(s.2.2++(mo,mpO s.1)::(lb,.cells #[s.2.1] 28)::L)) w
theorem TeJ.carr {J:List (Nat × Obj)→World→Prop} (hJ:Carr J) (mo lb:Nat) (Ts:List TM) (L:List (Nat × Obj)) (k:Nat):Carr (TeJ J mo lb Ts L k):=Carr.ex fun _=>hJ.tail _
theorem q18 {Y:List TM} (h:AscT Y):Y.Pairwise fun a b=>cmpT a b≤0:=by
 rw [List.pairwise_iff_getElem];intro i j hi hj hij;have:=h i j hij hj;have e1:tmA Y i=Y[i]:=by rw [tmA,List.getD_eq_getElem?_getD,zge hi];rfl
 have e2:tmA Y j=Y[j]:=by rw [tmA,List.getD_eq_getElem?_getD,zge hj];rfl
 rw [e1,e2,← qat] at this
 rcases Int.lt_or_le 0 (cmpT Y[i] Y[j]) with g|g
 ·exact absurd (ordT.sym.2 g) this
 ·exact g
theorem q02 {J:List (Nat × Obj)→World→Prop} (hJ:Carr J) {v:Value} {U:List TM} {Y X:List (Nat × Obj)} {w:World} (hR:RowX 45 4 v U.length (U.map encT).flatten Y) (h:J (Y++X) w) (hl:U.length≤1048576) :
  Gv Tryz.prog 123 [v,.func (.func 20) #[] #[]] w fun r w'=>r=.tuple #[]∧∃ U' Y',U'.Perm U∧AscT U'∧RowX 45 4 v U.length (U'.map encT).flatten Y'∧J (Y'++X) w':=by
 obtain ⟨A,c,rfl⟩:=hR.slice;refine (qpb U A c 0 w (hR.own fun x hx=>hJ.get h (List.mem_append_left _ hx)) Oo).mono ?_;rintro r w' ⟨rfl,U',hp,ha,ho,hc⟩;refine ⟨rfl,U',?_⟩;obtain ⟨_,⟨e1,e2,rfl⟩|⟨g,cap,cur,e1,rfl,_⟩⟩:=hR
 ·injection e1 with e1 _ _
  subst e1;have hx:Ext w w':=⟨hc.os,hc.tape,hc.output,hc.size,fun k hk=>hc.block k hk (fun hh=>by cases hh)⟩
  obtain ⟨ho1,ho2⟩:=ho
  rcases ho2 with ⟨e3,e4⟩|⟨g,cap,cur,e3,_⟩
  ·exact ⟨[],hp,ha,⟨ho1,.inl ⟨e3,e2,rfl⟩⟩,hJ.ext h hx⟩
  ·injection e3 with e3 _ _;cases e3
 ·injection e1 with e1 _ e3
  subst e1 e3;obtain ⟨ho1,⟨e3,_⟩|⟨g',cap',cur',e3,_,hg,r⟩⟩:=ho
  ·injection e3 with e3 _ _;cases e3
  ·injection e3 with e3 _ e5
   injection e3 with e3
   injection e3 with e3
   subst e3 e5;exact ⟨[(g,.cells cur' 45)],hp,ha,⟨ho1,.inr ⟨g,c,cur',rfl,rfl,r⟩⟩,hJ.chn h hc hg⟩
open Classical in
theorem qaaq {Ts U:List TM} (hp:U.Perm (uTs Ts Ts.length)) (ha:AscT U):U=qe0 cmpT Ts:=by
 rw [uTs,List.take_length] at hp;exact qv5 ordT hp (q18 ha)
theorem qv8 (T:List TM) (qs:List Q4) (h:EncOk T qs) (x pb vb tb:Nat) (p:Q4) (hp:qak p) (pl:Int) (b1 b2 b3:Nat) :
  SeqC Tryz.prog 121 [pp b3,pp b1,pp b2] ((tasL pl p qs).map fun t=>[qt t]) (SteΦ x pb vb tb T qs p pl b1 b2 b3):=by
 intro y I Ix w cI cIx hI h0 hy;have hxs:((tasL pl p qs).map fun t=>[qt t]).length=(tasL pl p qs).length:=List.length_map ..;have b56:((Tryz.prog.info? 45).get Jk).bytes=56:=by kernel_rfl
 have t4:tsz Tryz.prog 45=4:=by kernel_rfl
 refine gvW Jk Tryz.func121 rfl Tryz.ntmps121 rfl (zw ?_);refine LoadV.of (hI _ _ _ h0).c3 (zw ?_);refine zcv (qok pl w) ?_;rintro r w2 ⟨hr,he2⟩;replace h0:=(cI 0).ext h0 he2
 rcases hr with ⟨hpl,rfl⟩|⟨hpl,g,rfl,hg⟩
 case inl=>
  (conv=>whnf);refine NewV.carr (cI 0) h0 fun ab w3 h0=>zw ?_;refine StoreA.carr (cI 0) (A:=[]) h0 rfl (by simp [Value.oneCell']) fun w4 h0=>zu ?_;refine .inl ?_;rw [hxs,tasL,if_neg (by rw [hpl];decide)];exact (cI 0).drop h0
 (conv=>whnf);refine NewV.carr (cI 0) h0 fun ab w3 h0=>zw ?_;refine StoreA.carr (cI 0) (A:=[]) h0 rfl (by simp [Value.oneCell']) fun w4 h0=>zu ?_;refine Fall.make rfl ?_;refine NewV.carr (cI 0) h0 fun mo w5 h0=>zw ?_;refine NewV.carr (cI 0) h0 fun mb w6 h0=>zw ?_;refine StoreV.carr (cI 0) (A:=[]) h0 (by show 0<1;omega) rfl ?_;clear h0;intro w7 h0;replace h0:I 0 [(mb,.cells #[.map (some mo)] 236),(mo,mpO []),(ab,.cells #[.func (.func g) #[] #[]] 233)] w7:=h0;(conv=>whnf);refine NewV.carr (cI 0) h0 fun lb w8 h0=>zw ?_;refine LoadV.of (hI _ _ _ h0).c1 (zw ?_);refine LoadA.cells (hI _ _ _ h0).c2 rfl (zw ?_);refine zcv (qhi x p w8) ?_;rintro r w9 ⟨c1,c2,rfl,hm9⟩;replace h0:=(cI 0).call h0 hm9;obtain ⟨M,eM⟩:∃ M,M=qaa p qs:=⟨_,rfl⟩
 have hMl:=qkt p qs;rw [← eM] at hMl;have hq20:=h.set.len;obtain ⟨Ts,eTs⟩:∃ Ts:List TM,Ts=tatL pl p qs:=⟨_,rfl⟩
 have hTl:Ts.length=M.length:=by rw [eTs,tatL,List.length_map,eM]
 have eR:tasL pl p qs=qe0 cmpT Ts:=by rw [tasL,if_pos hpl,eTs]
 rw [eR] at hxs hy ⊢;obtain ⟨L,hL⟩:∃ L:List (Nat × Obj),L=[(ab,.cells #[.func (.func g) #[] #[]] 233),(c2,.cells (qd p).toArray 47),(c1,.cells #[pp x] 26),(mb,.cells #[.map (some mo)] 236)]:=⟨_,rfl⟩
 have hin1:(c1,Obj.cells #[pp x] 26)∈L:=by rw [hL];simp
 have hin2:(c2,Obj.cells (qd p).toArray 47)∈L:=by rw [hL];simp
 have hin3:(ab,Obj.cells #[.func (.func g) #[] #[]] 233)∈L:=by rw [hL];simp
 have hin4:(mb,Obj.cells #[.map (some mo)] 236)∈L:=by rw [hL];simp
 have hJ0:I 0 ((mo,mpO [])::(lb,.cells #[.slice none 0 0] 28)::L) w9:=by
  rw [hL];exact (cI 0).perm h0 ((List.perm_append_comm (l₁:=[_,_,_,_]) (l₂:=[_,_])).trans (List.Perm.cons _ (List.perm_middle (l₁:=[_,_,_]))))
 clear h0;have hga:∀ {X:List (Nat × Obj)} {w':World},I 0 (X++L) w'→w'.heap[ab]?=some (.cells #[.func (.func g) #[] #[]] 233):=fun hh=>(cI _).get hh (List.mem_append_right _ hin3)
 have hgm:∀ {X:List (Nat × Obj)} {w':World},I 0 (X++L) w'→w'.heap[mb]?=some (.cells #[.map (some mo)] 236):=fun hh=>(cI _).get hh (List.mem_append_right _ hin4)
 have hml:(M.map (sRow qs)).length=M.length:=List.length_map ..;have cT:=fun k=>TeJ.carr (cI 0) mo lb Ts L k
 (conv=>whnf);refine q0c (Φ:=SmaΦ x pb vb tb T qs p c1 c2) (lb:=[pp c1,pp c2]) (xs:=M.map (sRow qs)) rfl Jk (by rw [eM];exact qhj T qs h x pb vb tb p hp (h.idX p) c1 c2) Od ?_
  (TeJ (I 0) mo lb Ts L) (fun c k X w'=>False∧TeJ (I 0) mo lb Ts L k X w')
  cT (fun c k=>Carr.and (cT k))
  (fun k X w' ⟨s,_,hh⟩=>⟨(hI _ _ _ hh).X,(hI _ _ _ hh).G,by rw [qa ((cI _).get hh (List.mem_append_right _ (List.mem_append_right _ (zmc (zmc hin1)))))];rfl,fun j v hv=>by rw [qa ((cI _).get hh (List.mem_append_right _ (List.mem_append_right _ (zmc (zmc hin2))))),Nat.zero_add,List.getElem?_toArray];exact hv⟩)
  ⟨([],.slice none 0 0,[]),⟨rfl,fun e he=>(by cases he),Nat.le_refl _,RowX.nil _ _⟩,hJ0⟩ ?_ ?_ ?_
 ·intro r hr;obtain ⟨j,_,rfl⟩:=List.mem_map.1 hr;rfl
 ·clear hJ0;rintro l2 D oa od k r X w10 hr hJ;rw [List.getElem?_map] at hr;cases hrow:M[k]? with
  | none=>rw [hrow] at hr;cases hr
  | some i=>
  rw [hrow,Option.map_some,Option.some.injEq] at hr;subst hr;have hkM:=(List.getElem?_eq_some_iff.1 hrow).1;obtain ⟨q,eq⟩:∃ q,qs.getD i zQ=q:=⟨_,rfl⟩
  have hTk:Ts[k]?=some (plT pl q):=by rw [eTs,tatL,List.getElem?_map,← eM,hrow,Option.map_some,eq]
  rw [show sRow qs i=[ii i,qq q] by rw [sRow,eq]];(conv=>whnf);refine NewV.carr (cT k) hJ fun nb w11 hJ=>zw ?_;refine StoreA.carr (vs:=qd q) (cT k) (A:=[]) hJ rfl (qaq q) fun w12 hJ=>zw ?_;refine ⟨rfl,(nb,.cells (qd q).toArray 47)::(D,.deferred (some []))::X,(cT k).perm hJ (List.Perm.swap _ _ _),?_⟩;clear hJ;rintro w13 ⟨⟨l,v,Y⟩,⟨hk1,hk2,hk3,hR⟩,hJ⟩;dsimp only at hk1 hk2 hk3 hR hJ;have hUl:=q1g (Ts:=Ts) (k:=k) Oo;obtain ⟨Z,eZ⟩:∃ Z:List (Nat × Obj),Z=(l2,od)::(nb,.cells (qd q).toArray 47)::(D,.deferred (some []))::X:=⟨_,rfl⟩
  rw [← eZ] at hJ;have hq:(nb,Obj.cells (qd q).toArray 47)∈Z:=by rw [eZ];simp
  replace hJ:I 0 ((Z++Y++[(mo,mpO l),(lb,.cells #[v] 28)])++L) w13:=by simpa using hJ
  (conv=>whnf);refine LoadV.own (hga hJ) rfl (zw ?_);refine LoadA.own ((cI 0).get hJ (List.mem_append_left _ (List.mem_append_left _ (List.mem_append_left _ hq)))) rfl (zw ?_);refine zcv (hg q w13) ?_;rintro r w14 ⟨rfl,he14⟩;replace hJ:=(cI 0).ext hJ he14;obtain ⟨t,et⟩:∃ t,t=plT pl q:=⟨_,rfl⟩
  rw [← et] at hTk ⊢;(conv=>whnf);refine NewV.carr (cI 0) hJ fun tb2 w15 hJ=>zw ?_;refine StoreA.carr (vs:=encT t) (cI 0) (A:=[]) hJ rfl (qab t) ?_;clear hJ;intro w16 hJ;obtain ⟨A,eA⟩:∃ A:List (Nat × Obj),A=(tb2,.cells (encT t).toArray 45)::(Z++Y):=⟨_,rfl⟩
  have htA:(tb2,Obj.cells (encT t).toArray 45)∈A:=by rw [eA];exact List.mem_cons_self ..
  obtain ⟨B,eB⟩:∃ B:List (Nat × Obj),B=(lb,.cells #[v] 28)::L:=⟨_,rfl⟩
  have hB4:(mb,Obj.cells #[.map (some mo)] 236)∈B:=by rw [eB];exact zmc hin4
  replace hJ:I 0 (A++(mo,mpO l)::B) w16:=by rw [eA,eB];simpa using hJ
  have hcn:=q5y t l;have hix:=qyn t l;(conv=>whnf);refine DrawW.any Jk (.inr Jk) (AnyV.gen (fun S _ w'=>(S 6=true→S 2=true∧S 4=true)∧I 0 (A++(mo,mpO (bif S 6 then icT t l else bif S 4 then adL t l else l))::B) w') Jk (fun vals=>⟨fun h=>(by cases h),(cI 0).ext hJ xr.drew⟩) ?_);clear hJ;(conv=>whnf);refine StepG.of (.map (some mo)) (fun S vals wd hk hp hI2=>?_) ?_
  ·have hgb:=(cI 0).get hI2.2 (List.mem_append_right _ (zmc hB4));(conv=>whnf);refine LoadV.own hgb rfl (zw ?_);exact ⟨rfl,fun h=>⟨(hI2.1 h).1,(hI2.1 h).2⟩,hI2.2⟩
  (conv=>whnf);refine StepG.of (qt t) (fun S vals wd hk hp hI2=>?_) ?_
  ·have hgb:=(cI 0).get hI2.2 (List.mem_append_left _ htA);(conv=>whnf);refine LoadA.own hgb rfl (zw ?_);exact ⟨rfl,fun h=>⟨(hI2.1 h).1,(hI2.1 h).2⟩,hI2.2⟩
  (conv=>whnf);refine StepG.of (ii (cnL t l:Nat)) (fun S vals wd hk hp hI2=>?_) ?_
  ·have hk2:S 2=false:=hk;have h6:S 6=false:=by
    cases h6:S 6
    ·rfl
    ·have:=(hI2.1 h6).1;rw [hk2] at this;cases this
   obtain ⟨l',el⟩:∃ l',l'=(bif S 4 then adL t l else l):=⟨_,rfl⟩
   have hcl:cnL t l'=cnL t l:=by
    rw [el];cases S 4
    ·rfl
    ·exact q5s t l
   have hgb:=(cI 0).get hI2.2 (List.mem_append_right _ mh);rw [h6] at hgb;have hgb:wd.heap[mo]?=some (mpO l'):=by rw [el];exact hgb
   (conv=>whnf);refine Fall.look rfl rfl rfl (qop t l' mo wd hgb) (zw ?_);exact ⟨by rw [hcl];rfl,fun h=>(by have h:S 6=true:=h;rw [h6] at h;cases h),hI2.2⟩
  (conv=>whnf);refine zg ?_;refine StepG.of (.tuple #[ii (cnL t l:Nat),ii (ixL t l:Nat)]) (fun S vals wd hk hp hI2=>?_) ?_
  ·have hk4:S 4=false:=hk;have h6:S 6=false:=by
    cases h6:S 6
    ·rfl
    ·have:=(hI2.1 h6).2;rw [hk4] at this;cases this
   have hJ:=hI2.2;rw [h6,hk4] at hJ;replace hJ:I 0 (A++(mo,mpO l)::B) wd:=hJ;have hgb:=(cI 0).get hJ (List.mem_append_right _ mh);(conv=>whnf);refine Fall.entry rfl rfl rfl (q4j t l mo wd hgb) (zw ?_);exact ⟨rfl,fun h=>(by have h:S 6=true:=h;rw [h6] at h;cases h),by show I 0 (A++(mo,mpO (bif S 6 then icT t l else bif true then adL t l else l))::B) _;rw [h6];exact (cI 0).setM _ hJ⟩
  (conv=>whnf);refine zg ?_;refine StepG.of undef (fun S vals wd hk hp hI2=>?_) ?_
  ·have hk6:S 6=false:=hk;have h4:S 4=true:=hp 4 Od;have h2:S 2=true:=hp 2 Od;have hJ:=hI2.2;rw [hk6,h4] at hJ;replace hJ:I 0 (A++(mo,mpO (adL t l))::B) wd:=hJ;have hgb:=(cI 0).get hJ (List.mem_append_right _ mh);(conv=>whnf);refine Fall.put rfl rfl rfl rfl (q4k t l mo wd hgb) (zw ?_);exact ⟨rfl,fun _=>⟨h2,h4⟩,(cI 0).setM _ hJ⟩
  (conv=>whnf);intro vals w17 hI2;have hJ:I 0 (A++(mo,mpO (icT t l))::B) w17:=hI2.2;clear hI2;have hcn1:=q54 t l;have hgmp:=(cI 0).get hJ (List.mem_append_right _ mh);have hkeys:=qsv t l;rw [hk1] at hkeys;have hmem:=qxf (t:=t) hk2;rw [hk1] at hmem;have hsum:=qyg t l;have hpos:=qyf (t:=t) hk2;(conv=>whnf);refine LoadV.own ((cI 0).get hJ (List.mem_append_right _ (zmc hB4))) rfl (zw ?_);refine LoadA.own ((cI 0).get hJ (List.mem_append_left _ htA)) rfl (zw ?_);refine Fall.look rfl rfl rfl (qop t (icT t l) mo w17 hgmp) ?_;rw [hcn1]
  rcases Nat.eq_zero_or_pos (cnL t l) with hc0|hc0
  case inr=>
   have hin:t∈uTs Ts k:=Classical.byContradiction fun h=>by have:=hmem.2 h;omega
   rw [if_pos hin] at hkeys;have eU:=q6x hTk hin;refine zu ?_;refine ⟨(icT t l,v,Y),⟨by rw [eU];exact hkeys,hpos,by dsimp only;omega,by rw [eU];exact hR⟩,?_⟩;rw [eA,eB] at hJ;have hJ2:I 0 (Z++(Y++(mo,mpO (icT t l))::(lb,.cells #[v] 28)::L)) w17:=by simpa using (cI 0).drop hJ
   rw [eZ] at hJ2;exact (cI 0).dropM (A:=[(l2,od)]) hJ2
  have hin:t∉uTs Ts k:=hmem.1 hc0;rw [if_neg hin] at hkeys;have eU:=q1h hTk hin;rw [hc0];obtain ⟨Av,cv,ev⟩:=hR.slice;have hJ9:=hJ;subst ev;have hJ:=hJ9;rw [eB] at hJ;refine zu ?_;refine LoadV.own ((cI 0).get hJ (List.mem_append_right _ (zmc mh))) rfl (zw ?_);refine LoadA.own ((cI 0).get hJ (List.mem_append_left _ htA)) rfl (zw ?_);refine NewV.carr (cI 0) hJ fun ub w18 hJ=>zw ?_;rw [eA] at hJ;replace hJ:I 0 (Y++((ub,.cells (encT t).toArray 45)::(tb2,.cells (encT t).toArray 45)::(Z++(mo,mpO (icT t l))::(lb,.cells #[.slice Av (uTs Ts k).length cv] 28)::L))) w18:=by
   refine (cI 0).perm hJ ?_;simp only [List.cons_append,List.append_assoc];refine List.Perm.trans ?_ (List.perm_middle).symm;refine List.Perm.cons _ ?_;refine List.Perm.trans ?_ (List.perm_middle).symm;refine List.Perm.cons _ ?_;rw [← List.append_assoc,← List.append_assoc];exact List.perm_append_comm.append_right _
  refine AppV.carr (m:=1) (news:=encT t) (cI 0) hJ hR qwh trmI trmZ Jk Jk Od rfl (fun _=>⟨ub,0,rfl,fun j u hu=>by rw [qa ((cI 0).get hJ (List.mem_append_right _ mh)),Nat.zero_add,List.getElem?_toArray];exact hu⟩) (qab t) (by rw [b56];omega) Oo ?_;clear hJ;intro A5 c5 Y5 w19 hR5 hJ;replace hJ:=(cI 0).dropM ((cI 0).dropM hJ);replace hJ:I 0 ((Y5++(Z++[(mo,mpO (icT t l))]))++(lb,.cells #[.slice Av (uTs Ts k).length cv] 28)::L) w19:=by simpa using hJ
  (conv=>whnf);refine StoreV.carr (cI 0) hJ (by show 0<1;omega) rfl ?_;clear hJ;intro w20 hJ;replace hJ:I 0 ((Y5++(Z++[(mo,mpO (icT t l))]))++(lb,.cells #[.slice A5 ((uTs Ts k).length+1) c5] 28)::L) w20:=hJ;(conv=>whnf);have eUl:(uTs Ts (k+1)).length=(uTs Ts k).length+1:=by rw [eU,zla];rfl
  have eUf:((uTs Ts (k+1)).map encT).flatten=((uTs Ts k).map encT).flatten++encT t:=by rw [eU];simp
  refine ⟨(icT t l,.slice A5 ((uTs Ts k).length+1) c5,Y5),⟨by rw [eU];exact hkeys,hpos,by dsimp only;omega,by rw [eUl,eUf];exact hR5⟩,?_⟩;replace hJ:I 0 (Z++(Y5++((mo,mpO (icT t l))::(lb,.cells #[.slice A5 ((uTs Ts k).length+1) c5] 28)::L))) w20:=by
   refine (cI 0).perm hJ ?_;rw [List.append_assoc,List.append_assoc,← List.append_assoc,← List.append_assoc Z];exact (List.perm_append_comm).append Js
  rw [eZ] at hJ;exact (cI 0).dropM (A:=[(l2,od)]) hJ
 ·clear hJ0;rintro D w10 hJ;rw [hml,← hTl] at hJ;obtain ⟨⟨l,v,Y⟩,⟨_,_,_,hR⟩,hJ⟩:=hJ;dsimp only at hR hJ;have hUl:=q1g (Ts:=Ts) (k:=Ts.length) znr;obtain ⟨Av,cv,ev⟩:=hR.slice;subst ev;obtain ⟨E,eE⟩:∃ E:List (Nat × Obj),E=(mo,mpO l)::(lb,.cells #[.slice Av (uTs Ts Ts.length).length cv] 28)::L:=⟨_,rfl⟩
  have hElb:(lb,Obj.cells #[.slice Av (uTs Ts Ts.length).length cv] 28)∈E:=by rw [eE];simp
  rw [← eE] at hJ;replace hJ:I 0 ((D,.deferred (some []))::(Y++E)) w10:=hJ;replace hJ:I 0 (Y++(D,.deferred (some []))::E) w10:=(cI 0).perm hJ List.perm_middle.symm;(conv=>whnf);refine LoadV.own ((cI 0).get hJ (List.mem_append_right _ (zmc hElb))) rfl (zw ?_);refine zcv (q02 (cI 0) hR hJ Oo) ?_;clear hR hJ;rintro r w11 ⟨rfl,U,Y2,hp,ha,hR,hJ⟩;have eU:=qaaq hp ha;have hUn:=hp.length_eq;rw [← eU] at hxs hy ⊢;rw [← hUn] at hR hElb ⊢;obtain ⟨n,en⟩:∃ n,n=U.length:=⟨_,rfl⟩
  (conv=>whnf);refine LoadV.own ((cI 0).get hJ (List.mem_append_right _ (zmc hElb))) rfl (zw ?_);have hleave:∀ {J:List (Nat × Obj)→World→Prop} {w':World},Carr J→J (Y2++(D,.deferred (some []))::E) w'→J ([D].map q8g) w':=fun cJ h=>cJ.dropL (cJ.perm (cJ.dropL h) (List.perm_append_comm (l₁:=[_])))
  refine qza (fun i:Nat=>[(0,.func (.yield y) #[] #[]),(47,.slice Av U.length cv),(48,ii U.length),(49,ii i)])
   (fun i w'=>i≤U.length∧I i (Y2++(D,.deferred (some []))::E) w') (fun i=>U.length-i) 0 ⟨rfl,rfl,rfl,rfl,trivial⟩ ⟨Nat.zero_le _,hJ⟩ ?_
  clear hJ;rintro i w12 ρ' ⟨hi,hJ⟩;(conv=>whnf);refine zC (fun _=>zw ?_) (fun _=>zw ?_)
  case' refine_2=>
   obtain rfl:i=U.length:=by omega
   refine LeaveV.marks (J:=fun X w'=>I U.length X w') (cI _) ?_ (D:=D) (Ds:=[]) (hleave (cI _) hJ);intro w' h';(conv=>whnf);exact .inl (by rw [hxs];exact h')
  have hlt:i<U.length:=by omega
  obtain ⟨t,hti⟩:∃ t,U[i]?=some t:=⟨_,zge hlt⟩
  obtain ⟨_,_,ev,_,hS⟩:=V.RowX.sl qag hR rfl (fun x hx=>(cI _).get hJ (List.mem_append_left _ hx))
  injection ev with ev1 _ ev2
  subst ev1 ev2;obtain ⟨g1,o1,rfl,hat⟩:=hS.at_ (by intro e;rw [e] at hlt;simp at hlt);refine ⟨⟨g1,o1,i,rfl,by omega,by omega,?_⟩⟩;rw [t4];(conv=>whnf);refine LoadA.cells (hat i t hti) rfl (zw ?_);refine NewV.carr (cI _) hJ fun ub w13 hJ=>zw ?_;refine StoreA.carr (vs:=encT t) (cI _) (A:=[]) hJ rfl (qab t) fun w14 hJ=>zw ?_;refine LoadA.own ((cI _).get hJ mh) rfl (zw ?_);have hrw:(U.map fun t=>[qt t])[i]?=some [qt t]:=by rw [List.getElem?_map,hti];rfl
  refine YieldV.mono (hy i _ _ w14 hrw hJ) ?_;clear hJ;rintro v w15 (⟨rfl,hJ⟩|⟨rfl,hX⟩)
  ·refine zu ?_;exact ⟨rfl,i+1,⟨rfl,rfl,rfl,congrArg (Value.int .i64) Oo,trivial⟩,⟨by omega,(cI _).drop hJ⟩,by omega⟩
  ·refine zu ?_;refine LeaveV.marks (J:=fun X w'=>Ix i X w') (cIx _) ?_ (D:=D) (Ds:=[]) (hleave (cIx _) ((cIx _).drop hX));intro w' h';(conv=>whnf);exact .inr ⟨i,by rw [hxs];exact hlt,h'⟩
 ·rintro D c k w10 hk ⟨hf,_⟩;exact hf.elim
def snQ (e:Int × Q4):List Value:=ii e.1::qd e.2
theorem qfi (e:Int × Q4):(snQ e).length=17:=rfl
theorem qq8 (e:Int × Q4):∀ v∈snQ e,v.oneCell'=true:=fun v hv=>by
 rcases List.mem_cons.1 hv with rfl|hv
 ·rfl
 ·exact qaq e.2 v hv
def snL (qs:List Q4) (l:List Nat):List (Int × Q4):=l.map fun i:Nat=>((i:Int),qs.getD i zQ)
theorem qmw (qs:List Q4) (l:List Nat):(snL qs l).length=l.length:=List.length_map ..
def SnR (E:List (Int × Q4)) (v:Value) (w:World):Prop:=∃ B d,v=.slice B E.length d∧E.length≤d∧SlAt snQ 17 w B E
theorem q9w:Tryz.prog.underlying 71=some (.slice 77):=Tryz.underlying71
theorem s20I:Tryz.prog.info? 77=some ((Tryz.prog.info? 77).get Jk):=(Option.some_get _).symm
theorem s20Z:((Tryz.prog.info? 77).get Jk).zero=some ((((Tryz.prog.info? 77).get Jk).zero).get Jk):=(Option.some_get _).symm
theorem s20B:((Tryz.prog.info? 77).get Jk).bytes=232:=by kernel_rfl
def mtI (p:Q4) (qs:List Q4) (i:Nat):List Nat:=(List.range i).filter fun i=>match qs[i]? with
 | some q=>fitQ p q
 | none=>false
theorem qzl (p:Q4) (qs:List Q4):mtI p qs qs.length=qaa p qs:=rfl
theorem qzm {p:Q4} {qs:List Q4} {i:Nat} {q:Q4} (hi:qs[i]?=some q) (hf:fitQ p q=true):mtI p qs (i+1)=mtI p qs i++[i]:=by
 rw [mtI,mtI,List.range_succ,List.filter_append];simp [hi,hf]
theorem qab7 {p:Q4} {qs:List Q4} {i:Nat} {q:Q4} (hi:qs[i]?=some q) (hf:fitQ p q=false):mtI p qs (i+1)=mtI p qs i:=by
 rw [mtI,mtI,List.range_succ,List.filter_append];simp [hi,hf]
theorem qq7 {qs:List Q4} {l:List Nat} {j i:Nat} (h:l[j]?=some i):(snL qs l)[j]?=some ((i:Int),qs.getD i zQ):=by rw [snL,List.getElem?_map,h];rfl
theorem qads {w:World} {g o:Nat} {e:Int × Q4} (h:CellsAt w g o (snQ e)):CellsAt w g (o+1) (qd e.2):=fun k v hv=>by
 have:=h (1+k) v (by rw [snQ,Nat.add_comm,List.getElem?_cons_succ];exact hv)
 rwa [← Nat.add_assoc] at this
def qjq (e:Int × Q4):Value:=.agg (snQ e).toArray
theorem q25:Tryz.prog.underlying 77=some (.struct (Tryz.prog.fieldsOf 77)):=by kernel_rfl
theorem q97:Tryz.prog.stoodInHeld 77=false:=by kernel_rfl
theorem q75:Tryz.prog.eqGuardType Tryz.prog.depth 77=false:=by kernel_rfl
theorem qkb (d:Nat) (e:Int × Q4) (w:World):(Op.equalIn (d+4) 77 (qjq e) (qjq e)).run Tryz.prog w=.ok true w:=by
 have u3:=Tryz.underlying3;have a3:=Tryz.isAgg3;have z3:=Tryz.sizeOf3;have a4:=Tryz.isAgg47;have z4:=Tryz.sizeOf47;simp only [qjq,snQ,qd,encT];rw [run_equalIn_agg w (d+3) _ _ _ q25 q97];simp only [Program.fieldsOf,Tryz.underlying77];have e1:=qe5 d e.2 e.2 w;rw [qos.2 rfl] at e1;simp only [qq] at e1
 go_simp
theorem V.RunV.neqSn {xo yo:Operand} {e:Int × Q4} {w:World} {K:Value→World→Prop} (h:K (.bool false) w) :
  RunV Tryz.prog (do eqGuard .neq 77 xo yo (qjq e) (qjq e);binOp .neq 77 (qjq e) (qjq e)) w K:=by
 refine ⟨_,w,?_,h⟩;have e1:=qkb 9996 e w;rw [Sem.run_bind,qjq,run_eqGuard_agg w .neq _ xo yo _ _ q75,Result.andThen_ok];simp only [qjq] at e1;rw [run_neq_struct,e1];rfl
theorem qc5 (E:List (Int × Q4)) (A B:oA) (cA cB:Nat) (w:World) (hA:SlAt snQ 17 w A E) (hB:SlAt snQ 17 w B E) (hl:E.length≤1152921504606846976) :
  Gv Tryz.prog 25 [.slice A E.length cA,.slice B E.length cB] w fun r w'=>r=.bool true∧Ext w w':=by
 have t17:tsz Tryz.prog 77=17:=by kernel_rfl
 refine ze Tryz.func25 Tryz.ntmps25 ?_;refine zv ?_;refine qm (fun i:Nat=>[(0,.slice A E.length cA),(1,.slice B E.length cB),(5,ii i)]) (fun i w'=>i≤E.length∧Ext w w') (fun i=>E.length-i) 0 ⟨rfl,rfl,rfl,trivial⟩ ⟨Nat.zero_le _,xr⟩ ?_;rintro i w1 ρ' ⟨hi,he⟩;(conv=>whnf);refine zC (fun _=>zw ?_) (fun _=>zw ?_)
 case' refine_2=>exact ⟨rfl,he⟩
 have hlt:i<E.length:=by omega
 have hne:E≠[]:=by intro e;rw [e] at hlt;simp at hlt
 obtain ⟨g1,o1,rfl,h1⟩:=hA.at_ hne;obtain ⟨g2,o2,rfl,h2⟩:=hB.at_ hne;obtain ⟨e,hei⟩:∃ e,E[i]?=some e:=⟨_,zge hlt⟩
 have hx:=fun wd (hd:Ext w1.drew wd)=>he.trans ((Ext.refl w1).drew.trans hd)
 refine DrawV.free Jk Jk (zw ?_);refine zd ?_;refine zd ?_;refine zsd (.pointer (some ⟨g1,o1+i*17,none⟩)) (fun wd hd=>zw ?_) ?_
 ·refine ⟨⟨g1,o1,i,rfl,by omega,by omega,?_⟩⟩;rw [t17];(conv=>whnf);exact ⟨xr,rfl⟩
 apply zsd (qjq e)
 ·intro wd hd;refine LoadA.cells (CellsAt.ext (h1 i e hei) (hx wd hd)) rfl (zw ?_);exact ⟨xr,rfl⟩
 (conv=>whnf);refine zd ?_;refine zd ?_;refine zsd (.pointer (some ⟨g2,o2+i*17,none⟩)) (fun wd hd=>zw ?_) ?_
 ·refine ⟨⟨g2,o2,i,rfl,by omega,by omega,?_⟩⟩;rw [t17];(conv=>whnf);exact ⟨xr,rfl⟩
 apply zsd (qjq e)
 ·intro wd hd;refine LoadA.cells (CellsAt.ext (h2 i e hei) (hx wd hd)) rfl (zw ?_);exact ⟨xr,rfl⟩
 apply zsd (.bool false)
 ·intro wd hd;refine RunV.neqSn (e:=e) (zw ?_);exact ⟨xr,rfl⟩
 intro w2 he2;refine zu ?_;exact ⟨i+1,⟨rfl,rfl,congrArg (Value.int .i64) Oo,trivial⟩,⟨by omega,hx w2 he2⟩,by omega⟩
theorem qjo (E:List TM) (A B:oA) (cA cB:Nat) (w:World) (hA:SlAt encT 4 w A E) (hB:SlAt encT 4 w B E) (hl:E.length≤1152921504606846976) :
  Gv Tryz.prog 45 [.slice A E.length cA,.slice B E.length cB] w fun r w'=>r=.bool true∧Ext w w':=by
 have t4:tsz Tryz.prog 45=4:=by kernel_rfl
 refine ze Tryz.func45 Tryz.ntmps45 ?_;refine zv ?_;refine qm (fun i:Nat=>[(0,.slice A E.length cA),(1,.slice B E.length cB),(5,ii i)]) (fun i w'=>i≤E.length∧Ext w w') (fun i=>E.length-i) 0 ⟨rfl,rfl,rfl,trivial⟩ ⟨Nat.zero_le _,xr⟩ ?_;rintro i w1 ρ' ⟨hi,he⟩;(conv=>whnf);refine zC (fun _=>zw ?_) (fun _=>zw ?_)
 case' refine_2=>exact ⟨rfl,he⟩
 have hlt:i<E.length:=by omega
 have hne:E≠[]:=by intro e;rw [e] at hlt;simp at hlt
 obtain ⟨g1,o1,rfl,h1⟩:=hA.at_ hne;obtain ⟨g2,o2,rfl,h2⟩:=hB.at_ hne;obtain ⟨e,hei⟩:∃ e,E[i]?=some e:=⟨_,zge hlt⟩
 have hx:=fun wd (hd:Ext w1.drew wd)=>he.trans ((Ext.refl w1).drew.trans hd)
 refine DrawV.free Jk Jk (zw ?_);refine zd ?_;refine zd ?_;refine zsd (.pointer (some ⟨g1,o1+i*4,none⟩)) (fun wd hd=>zw ?_) ?_
 ·refine ⟨⟨g1,o1,i,rfl,by omega,by omega,?_⟩⟩;rw [t4];(conv=>whnf);exact ⟨xr,rfl⟩
 apply zsd (qt e)
 ·intro wd hd;refine LoadA.cells (CellsAt.ext (h1 i e hei) (hx wd hd)) rfl (zw ?_);exact ⟨xr,rfl⟩
 (conv=>whnf);refine zd ?_;refine zd ?_;refine zsd (.pointer (some ⟨g2,o2+i*4,none⟩)) (fun wd hd=>zw ?_) ?_
 ·refine ⟨⟨g2,o2,i,rfl,by omega,by omega,?_⟩⟩;rw [t4];(conv=>whnf);exact ⟨xr,rfl⟩
 apply zsd (qt e)
 ·intro wd hd;refine LoadA.cells (CellsAt.ext (h2 i e hei) (hx wd hd)) rfl (zw ?_);exact ⟨xr,rfl⟩
 apply zsd (.bool false)
 ·intro wd hd;refine RunV.eqTerm (a:=e) (b:=e) (.inr rfl) ?_;rw [qu.2 rfl];(conv=>whnf);exact ⟨xr,rfl⟩
 intro w2 he2;refine zu ?_;exact ⟨i+1,⟨rfl,rfl,congrArg (Value.int .i64) Oo,trivial⟩,⟨by omega,hx w2 he2⟩,by omega⟩
open Go.RowKit
namespace V
variable {P:Program} {n:Nat}
theorem qacp {f:Operand} {ps:Array Tmp} {assign body:Code} {Q:QW} {ρ:Nat→Value} {ds:List Deferred} {w:World} {Φ:World→Prop} {gf:FuncId} {lb:List Value} {xs:List (List Value)}
  (hf:ev ρ f=.func (.func gf) #[] lb.toArray) (he:qcm P gf=true) (hseq:SeqC P gf lb xs Φ) (hpn:ps.toList.all (Nat.blt · n)=true) (hps:∀ x∈xs,x.length=ps.size) (e:Nat)
  (J Jx:Nat→List (Nat × Obj)→World→Prop) (F:List (Nat × Obj)→World→Prop) (hJ:∀ k,Carr (J k)) (hJx:∀ k,Carr (Jx k)) (hw:∀ k X w,J k X w→Φ w) (h0:J 0 [] w)
  (hF1:∀ X w,J xs.length X w→F X w) (hF2:∀ k X w,k<xs.length→Jx k X w→F X w) (hQ:∀ ds w,Q .normal ρ ds w→Q (.exit e) ρ ds w)
  (hend:∀ D w',F [(D,.deferred (some []))] w'→Q .normal ρ ({ target:=.collected D,args:=#[] }::ds) w')
  (hbody:∀ l D ob ob' k x X w1,xs[k]?=some x→J k ((l,ob)::(D,.deferred (some []))::X) w1→
   qdw P n (some l) assign (q3v fun ρ1 ds1 w1'=>BeginA (J k) l ob ob' w1' ds1
    (fun w2=>qdw P n (some l) body (qtt (J (k+1) ((l,ob')::(D,.deferred (some []))::X)) (fun c=>fun w=>c=.exit e∧Jx k ((l,ob')::(D,.deferred (some []))::X) w)) ρ1 [] w2)) (qox ps.toList x ρ) [] w1):RangeW P n none f ps assign body Q ρ ds w:=by
 refine q0c (Jx:=fun c k X w=>c=.exit e∧Jx k X w) hf he hseq hpn hps J hJ (fun c k=>Carr.and (hJx k)) hw h0 hbody (by grind) ?_;rintro D c k w' hk ⟨rfl,h⟩;exact hQ _ _ (hend D w' (hF2 k _ _ hk h))
end V
def TkJ (J:List (Nat × Obj)→World→Prop) (lb:Nat) (ty e sz:TypeId) (rows:List (List Value)) (m:Nat) (k:Nat) (X:List (Nat × Obj)) (w:World):Prop:=
 ∃ s:Value × List (Nat × Obj),(RowX e sz s.1 k (rows.take k).flatten s.2∧k≤m)∧J (X++(s.2++[(lb,.cells #[s.1] ty)])) w
theorem TkJ.carr {J:List (Nat × Obj)→World→Prop} (hJ:Carr J) (lb:Nat) (ty e sz:TypeId) (rows:List (List Value)) (m k:Nat):Carr (TkJ J lb ty e sz rows m k):=Carr.ex fun _=>hJ.tail _
def TkF (J:List (Nat × Obj)→World→Prop) (lb:Nat) (ty e sz:TypeId) (rows:List (List Value)) (X:List (Nat × Obj)) (w:World):Prop:=
 ∃ s:Value × List (Nat × Obj),RowX e sz s.1 rows.length rows.flatten s.2∧J (X++(s.2++[(lb,.cells #[s.1] ty)])) w
section
variable {J:List (Nat × Obj)→World→Prop} {lb:Nat} {ty e sz:TypeId} {rows:List (List Value)} {m:Nat} {X:List (Nat × Obj)} {w:World}
theorem TkJ.all {n:Nat} (hn:n=rows.length) (h:TkJ J lb ty e sz rows m n X w):TkF J lb ty e sz (rows.take m) X w:=by
 subst hn;obtain ⟨s,⟨h1,h2⟩,h3⟩:=h;rw [List.take_length] at h1;rw [List.take_of_length_le h2];exact ⟨s,h1,h3⟩
theorem TkJ.cut {k n:Nat} (hn:n=rows.length) (hk:k<n) (h:k=m∧TkJ J lb ty e sz rows m k X w):TkF J lb ty e sz (rows.take m) X w:=by
 obtain ⟨rfl,s,⟨h1,_⟩,h3⟩:=h;refine ⟨s,?_,h3⟩;rw [List.length_take,Nat.min_eq_left Oo];exact h1
end
theorem qim {rows:List (List Value)} {k:Nat} {r:List Value} (h:rows[k]?=some r):(rows.take (k+1)).flatten=(rows.take k).flatten++r:=by
 rw [List.take_add_one,h];simp
theorem qe4 {α:Type} {enc:α→List Value} {e sz:Nat} {v:Value} (henc:∀ x,(enc x).length=sz) {l:List α} {Y:List (Nat × Obj)} {w:World} (h:RowX e sz v (l.map enc).length (l.map enc).flatten Y) (hY:∀ x∈Y,w.heap[x.1]?=some x.2) :
  ∃ A c,v=.slice A l.length c∧l.length≤c∧SlAt enc sz w A l:=by
 rw [List.length_map] at h;exact V.RowX.sl henc h rfl hY
theorem qti {α:Type} (u:α) (Y Z B:List α):(Y++u::(Z++B)).Perm (u::(Z++(Y++B))):=
 List.perm_middle.trans (.cons _ (by rw [← List.append_assoc,← List.append_assoc];exact List.perm_append_comm.append_right _))
theorem V.AppV.box {J:List (Nat × Obj)→World→Prop} {P:Program} {e te tb size:Nat} {w:World} {v x:Value} {n ub lb c:Nat} {xs:List Value} {t ty:TypeId} {i:TypeInfo} {z:Value} {news:List Value} {Z Y:List (Nat × Obj)} {K:Value→World→Prop} (hJ:Carr J) (h:J ((ub,.cells news.toArray te)::(Z++(Y++[(lb,.cells #[x] tb)]))) w) (hR:RowX e size v n xs Y)
  (ht:P.underlying t=some (.slice e)) (hi:P.info? e=some i) (hz:i.zero=some z) (hsize:i.size=size) (hzs:z.cells.size=size) (hsz:0<size) (hl:news.length=1*size) (h1:∀ u∈news,u.oneCell'=true) (hb:(n+1)*i.bytes≤140737488355328)
  (hk:∀ A' c' Y' w',RowX e size (.slice A' (n+1) c') (n+1) (xs++news) Y'→J (Z++(Y'++[(lb,.cells #[x] tb)])) w'→K (.slice A' (n+1) c') w') (h63:n+1≤140737488355328:=by omega):AppV P #[t,t] ty v (.slice (some ⟨ub,0,none⟩) 1 c) w K:=
 AppV.carr hJ (hJ.perm h (qti _ Y Z _).symm) hR ht hi hz hsize hzs hsz hl (fun _=>⟨ub,0,rfl,fun j u hu=>by rw [qa (hJ.get h mh),Nat.zero_add,List.getElem?_toArray];exact hu⟩) h1 hb h63 fun A' c' Y' w' hR' h'=>hk A' c' Y' w' hR' (hJ.drop (hJ.perm h' (qti _ Y' Z _)))
theorem V.StoreV.box {J:List (Nat × Obj)→World→Prop} (hJ:Carr J) {Z Y:List (Nat × Obj)} {b:Nat} {x v:Value} {t:TypeId} {w:World} {K:World→Prop} (h:J (Z++(Y++[(b,.cells #[x] t)])) w) (hk:∀ w',J (Z++(Y++[(b,.cells #[v] t)])) w'→K w') (h1:qb6 v=true:=by rfl):StoreV w b 0 v K:=by
 rw [← List.append_assoc] at h;refine StoreV.carr hJ h (by show 0<1;omega) h1 fun w' h'=>hk w' ?_;rw [← List.append_assoc];exact h'
theorem qjk {P:Program} {n:Nat} {f:Operand} {ps:Array Tmp} {assign body:Code} {Q:QW} {ρ:Nat→Value} {ds:List Deferred} {w w0:World} {Φ:World→Prop} {gf:FuncId} {ls:List Value} {xs:List (List Value)} (e sz:Nat) {b ty:Nat} {el:TypeId} {m:Nat} {N L:List (Nat × Obj)} {rows:List (List Value)}
  (hseq:SeqC P gf ls xs Φ) (hps:∀ x∈xs,x.length=ps.size) (hΦ:∀ N X w',Mem w0 w' (X++(N++L))→Φ w') (hx:xs.length=rows.length) (h0:Mem w0 w ([]++([]++[(b,.cells #[.slice none 0 0] ty)])++(N++L)))
  (hend:∀ D w',TkF (fun X w'=>Mem w0 w' (X++(N++L))) b ty el sz (rows.take m) [(D,.deferred (some []))] w'→Q .normal ρ ({ target:=.collected D,args:=#[] }::ds) w')
  (hbody:∀ l D ob ob' k x X w1,xs[k]?=some x→TkJ (fun X w'=>Mem w0 w' (X++(N++L))) b ty el sz rows m k ((l,ob)::(D,.deferred (some []))::X) w1→
   qdw P n (some l) assign (q3v fun ρ1 ds1 w1'=>BeginA (TkJ (fun X w'=>Mem w0 w' (X++(N++L))) b ty el sz rows m k) l ob ob' w1' ds1
    (fun w2=>qdw P n (some l) body (qtt (TkJ (fun X w'=>Mem w0 w' (X++(N++L))) b ty el sz rows m (k+1) ((l,ob')::(D,.deferred (some []))::X)) (fun c=>fun w=>c=.exit e∧k=m∧TkJ (fun X w'=>Mem w0 w' (X++(N++L))) b ty el sz rows m k ((l,ob')::(D,.deferred (some []))::X) w)) ρ1 [] w2)) (qox ps.toList x ρ) [] w1)
  (hf:ev ρ f=.func (.func gf) #[] ls.toArray:=by rfl) (he:qcm P gf=true:=by kernel_rfl) (hpn:ps.toList.all (Nat.blt · n)=true:=by decide) (hQ:∀ ds w,Q .normal ρ ds w→Q (.exit e) ρ ds w:=by exact fun _ _ h=>h):RangeW P n none f ps assign body Q ρ ds w:=
 qacp (Jx:=fun k X w'=>k=m∧TkJ (fun X w'=>Mem w0 w' (X++(N++L))) b ty el sz rows m k X w') hf he hseq hpn hps e (TkJ _ b ty el sz rows m) (TkF (fun X w'=>Mem w0 w' (X++(N++L))) b ty el sz (rows.take m)) (fun k=>TkJ.carr ((qc9 w0).tail _) _ _ _ _ _ _ k) (fun k=>Carr.and (TkJ.carr ((qc9 w0).tail _) _ _ _ _ _ _ k)) (fun _ _ _ ⟨_,_,hh⟩=>hΦ _ _ _ hh)
  ⟨(.slice none 0 0,[]),⟨RowX.nil _ _,Nat.zero_le _⟩,h0⟩ (fun _ _ h=>TkJ.all hx h) (fun _ _ _ hk h=>TkJ.cut hx hk h) hQ hend hbody
theorem qi8 (T:List TM) (qs:List Q4) (h:EncOk T qs) (x pb vb tb:Nat) (p:Q4) (hp:qak p) (m:Nat) (hm9:m≤9223372036854775807) (w:World) (hX:IdxE w x pb vb tb (encP T qs)) (hG:GlobS w) :
  Gv Tryz.prog 22 [pp x,qq p,ii m] w fun r w'=>(∃ v,r=.tuple #[v,.bool true]∧SnR (snL qs ((qaa p qs).take m)) v w')∧Ext w w':=by
 have hq20:=h.set.len;have t17:((Tryz.prog.info? 77).get Jk).bytes=232:=s20B;have b56:((Tryz.prog.info? 45).get Jk).bytes=56:=by kernel_rfl
 obtain ⟨M,eM⟩:∃ M,M=qaa p qs:=⟨_,rfl⟩
 have hMl:M.length≤qs.length:=by rw [eM];exact qkt p qs
 rw [← eM];obtain ⟨rows,erows⟩:∃ rows:List (List Value),rows=(snL qs M).map snQ:=⟨_,rfl⟩
 have hrl:rows.length=M.length:=by rw [erows,List.length_map,qmw]
 have hxl:(M.map (sRow qs)).length=rows.length:=by rw [List.length_map,hrl]
 refine gvW Jk Tryz.func22 rfl Tryz.ntmps22 rfl (zw ?_);refine znm (Mem.nil w) fun b4 w1 h0=>zw ?_;refine znm h0 fun bm w2 h0=>zw ?_;refine znm h0 fun b8 w3 h0=>zw ?_;refine znm h0 fun b9 w4 h0=>zw ?_;refine LoadA.mem (cs:=(qd p).toArray) h0 (i:=3) rfl rfl (zw ?_);refine zcv (qhi x p w4) ?_;rintro r w5 ⟨c1,c2,rfl,hm5⟩;replace h0:=h0.glue hm5;obtain ⟨L,hL⟩:∃ L:List (Nat × Obj),L=[(bm,.cells #[ii m] 3),(b4,.cells (qd p).toArray 47),(c2,.cells (qd p).toArray 47),(c1,.cells #[pp x] 26)]:=⟨_,rfl⟩
 have hin1:(c1,Obj.cells #[pp x] 26)∈L:=by rw [hL];simp
 have hin2:(c2,Obj.cells (qd p).toArray 47)∈L:=by rw [hL];simp
 have hin0:(bm,Obj.cells #[ii m] 3)∈L:=by rw [hL];simp
 have hg5:∀ (N:List (Nat × Obj)) (X:List (Nat × Obj)) (w':World),Mem w w' (X++(N++L))→w'.heap[bm]?=some (.cells #[ii m] 3):=fun N X w' hh=>hh.get (List.mem_append_right _ (List.mem_append_right _ hin0))
 have hΦ:∀ (N:List (Nat × Obj)) (X:List (Nat × Obj)) (w':World),Mem w w' (X++(N++L))→SmaΦ x pb vb tb T qs p c1 c2 w':=fun N X w' hh=>⟨hX.ext hh.ext,hG.ext hh.ext,by rw [qa (hh.get (List.mem_append_right _ (List.mem_append_right _ hin1)))];rfl,fun j v hv=>by rw [qa (hh.get (List.mem_append_right _ (List.mem_append_right _ hin2))),Nat.zero_add,List.getElem?_toArray];exact hv⟩
 have hseq:=qhj T qs h x pb vb tb p hp (h.idX p) c1 c2;rw [← eM] at hseq;have hrw:∀ r∈(M.map (sRow qs)),r.length=2:=fun r hr=>by
  obtain ⟨j,_,rfl⟩:=List.mem_map.1 hr;rfl
 replace h0:Mem w w5 ([]++([]++[(b8,.cells #[.slice none 0 0] 71)])++([(b9,.cells #[.slice none 0 0] 71)]++L)):=by
  rw [hL];exact (qc9 w).perm h0 ((List.perm_append_comm (l₁:=[(c2,Obj.cells (qd p).toArray 47),(c1,Obj.cells #[pp x] 26),(b9,Obj.cells #[.slice none 0 0] 71)]) (l₂:=[_,_,_])).trans (List.Perm.cons _ (List.perm_append_comm (l₁:=[_,_,_,_]) (l₂:=[_]))))
 clear hm5;(conv=>whnf);refine qjk (b:=b8) (el:=77) (m:=m) (N:=[(b9,.cells #[.slice none 0 0] 71)]) 0 17 hseq hrw hΦ hxl h0 ?r1 ?b1
 case' b1=>
  obtain ⟨lb,rfl⟩:∃ lb,lb=b8:=⟨_,rfl⟩
  generalize [(b9,Obj.cells #[.slice none 0 0] 71)]=N
 case' r1=>
  rintro D1 w6 ⟨⟨v1,Y1⟩,hR1,hJ⟩;dsimp only at hR1 hJ;obtain ⟨N,eN⟩:∃ N:List (Nat × Obj),N=(D1,.deferred (some []))::(Y1++[(b8,.cells #[v1] 71)]):=⟨_,rfl⟩
  replace h0:Mem w w6 ([]++([]++[(b9,.cells #[.slice none 0 0] 71)])++(N++L)):=(qc9 w).perm (show Mem w w6 (N++(b9,.cells #[.slice none 0 0] 71)::L) by rw [eN];exact hJ) List.perm_middle;clear hJ;(conv=>whnf);refine qjk (b:=b9) (el:=77) (m:=m) (N:=N) 2 17 hseq hrw hΦ hxl h0 ?r2 ?b2
 case' b2=>obtain ⟨lb,rfl⟩:∃ lb,lb=b9:=⟨_,rfl⟩
 case' b1|b2=>
  clear h0;rintro l2 D oa od k r X w6 hr hJ;rw [List.getElem?_map] at hr;cases hrow:M[k]? with
  | none=>rw [hrow] at hr;cases hr
  | some i=>
  rw [hrow,Option.map_some,Option.some.injEq] at hr;subst hr;have hkM:=(List.getElem?_eq_some_iff.1 hrow).1;have cJ:Carr (fun X w'=>Mem w w' (X++(N++L))):=(qc9 w).tail _;have cS:=TkJ.carr cJ lb 71 77 17 rows m k;obtain ⟨q,eq⟩:∃ q,qs.getD i zQ=q:=⟨_,rfl⟩
  have hrk:rows[k]?=some (snQ ((i:Int),q)):=by rw [erows,List.getElem?_map,qq7 hrow,Option.map_some,eq]
  rw [show sRow qs i=[ii i,qq q] by rw [sRow,eq]];(conv=>whnf);refine NewV.carr cS hJ fun nb w7 hJ=>zw ?_;refine StoreA.carr (vs:=qd q) cS (A:=[]) hJ rfl (qaq q) fun w8 hJ=>zw ?_;refine ⟨rfl,(nb,.cells (qd q).toArray 47)::(D,.deferred (some []))::X,cS.perm hJ (List.Perm.swap _ _ _),?_⟩;clear hJ;rintro w9 ⟨⟨v,Y⟩,⟨hR,hkm⟩,hJ⟩;dsimp only at hR hJ;obtain ⟨Av,cv,ev⟩:=hR.slice;subst ev;have hg:=hJ.get (b:=lb) (o:=.cells #[.slice Av k cv] 71) Js;(conv=>whnf);refine LoadV.own hg rfl (zw ?_);refine LoadV.own (hg5 _ _ _ hJ) rfl (zw ?_)
  (repeat' refine zC (fun _=>zw ?_) (fun _=>zw ?_))
  case' refine_1=>exact ⟨rfl,by omega,(.slice Av k cv,Y),⟨hR,hkm⟩,cJ.dropM (A:=[(l2,od)]) hJ⟩
  refine LoadV.own hg rfl (zw ?_);refine LoadA.own (hJ.get (b:=nb) (o:=.cells (qd q).toArray 47) Js) rfl (zw ?_);refine NewV.carr cJ hJ fun ub w10 hJ=>zw ?_;refine AppV.box (news:=snQ ((i:Int),q)) cJ hJ hR q9w s20I s20Z Jk Jk Od rfl (qq8 _) (by rw [t17];omega) ?_;clear hJ;intro A5 c5 Y5 w11 hR5 hJ;(conv=>whnf);refine StoreV.box cJ hJ fun w12 hJ=>zw ?_;exact ⟨(.slice A5 (k+1) c5,Y5),⟨by rw [qim hrk];exact hR5,by omega⟩,cJ.dropM (A:=[(l2,od)]) hJ⟩
 rintro D2 w7 ⟨⟨v2,Y2⟩,hR2,hJ⟩;dsimp only at hR2 hJ;clear h0;obtain ⟨E,eE⟩:∃ E,E=snL qs (M.take m):=⟨_,rfl⟩
 have erE:rows.take m=E.map snQ:=by rw [erows,eE,← List.map_take,snL,snL,← List.map_take]
 rw [erE] at hR1 hR2;have hEl:E.length≤1048576:=by
  have:=congrArg List.length erE;rw [List.length_take,List.length_map] at this;omega
 have hY1:∀ y∈Y1,w7.heap[y.1]?=some y.2:=fun y hy=>hJ.get (List.mem_append_right _ (List.mem_append_left _ (by rw [eN];exact zmc (List.mem_append_left _ hy))))
 have hY2:∀ y∈Y2,w7.heap[y.1]?=some y.2:=fun y hy=>hJ.get (List.mem_append_left _ (List.mem_append_right _ (List.mem_append_left _ hy)))
 obtain ⟨A1,d1,rfl,hd1,hS1⟩:=qe4 qfi hR1 hY1;obtain ⟨A2,d2,rfl,hd2,hS2⟩:=qe4 qfi hR2 hY2;have hg8:w7.heap[b8]?=some (.cells #[.slice A1 E.length d1] 71):=hJ.get (List.mem_append_right _ (List.mem_append_left _ (by rw [eN];simp)));have hg9:w7.heap[b9]?=some (.cells #[.slice A2 E.length d2] 71):=hJ.get (List.mem_append_left _ Js);have hx7:∀ wd,Ext w7.drew wd→Ext w7 wd:=fun wd hd=>(Ext.refl w7).drew.trans hd
 (conv=>whnf);refine DrawW.any Jk (.inl rfl) (AnyV.free Jk ?_);(conv=>whnf);refine zsd (.slice A1 E.length d1) (fun wd hd=>zw ?_) (zw ?_)
 ·refine LoadV.own ((hx7 wd hd).get hg8) rfl (zw ?_);exact ⟨xr,rfl⟩
 refine zsd (.slice A1 E.length d1) (fun wd hd=>zw ?_) (zw ?_)
 ·refine LoadV.own ((hx7 wd hd).get hg8) rfl (zw ?_);exact ⟨xr,rfl⟩
 refine zsd (.slice A2 E.length d2) (fun wd hd=>zw ?_) (zw ?_)
 ·refine LoadV.own ((hx7 wd hd).get hg9) rfl (zw ?_);exact ⟨xr,rfl⟩
 refine zsd (.bool true) (fun wd hd=>zw ?_) (zw ?_)
 ·refine zcv (qc5 E A1 A2 d1 d2 wd (hS1.ext (hx7 wd hd)) (hS2.ext (hx7 wd hd)) Oo) ?_;rintro r wx ⟨rfl,hex⟩;exact ⟨hex,rfl⟩
 refine zd ?_;refine zd ?_;intro w8 he8;replace hJ:=hJ.call (hx7 w8 he8);rw [eN] at hJ;(conv=>whnf);obtain ⟨R,eR⟩:∃ R:List (Nat × Obj),R=(Y2++[(b9,.cells #[.slice A2 E.length d2] 71)])++((Y1++[(b8,.cells #[.slice A1 E.length d1] 71)])++L):=⟨_,rfl⟩
 have hYR:∀ y∈Y1,y∈R:=fun y hy=>by rw [eR];exact List.mem_append_right _ (List.mem_append_left _ (List.mem_append_left _ hy))
 replace hJ:Mem w w8 ((D2,.deferred (some []))::((Y2++[(b9,.cells #[.slice A2 E.length d2] 71)])++(D1,.deferred (some []))::((Y1++[(b8,.cells #[.slice A1 E.length d1] 71)])++L))):=hJ;replace hJ:Mem w w8 ((D2,.deferred (some []))::(D1,.deferred (some []))::R):=by rw [eR];exact (qc9 w).perm hJ (List.Perm.cons _ List.perm_middle)
 refine LeaveV.marks (J:=fun X w'=>Mem w w' (X++R)) ((qc9 w).tail R) ?_ (D:=D2) (Ds:=[D1]) hJ;intro w' h';(conv=>whnf);obtain ⟨A3,d3,e3,hd3,hS3⟩:=qe4 qfi hR1 (w:=w') (fun y hy=>h'.get (List.mem_append_right [] (hYR y hy)))
 injection e3 with e31 _ e32
 subst e31 e32;exact ⟨⟨_,rfl,A1,d1,by rw [eE],by rw [← eE];exact hd1,by rw [← eE];exact hS3⟩,h'.ext⟩
theorem qwx (T:List TM) (qs:List Q4) (h:EncOk T qs) (x pb vb tb:Nat) (p:Q4) (hp:qak p) (pl:Int) (pre:ByteArray) (m:Nat) (hm9:m≤9223372036854775807) (w:World) (hX:IdxE w x pb vb tb (encP T qs)) (hG:GlobS w) :
  Gv Tryz.prog 24 [pp x,qq p,ii pl,.string pre,ii m] w fun r w'=>(∃ v,r=.tuple #[v,.bool true]∧SnR (snL qs ((begL pl pre p qs).take m)) v w')∧Ext w w':=by
 have hq20:=h.set.len;have t17:((Tryz.prog.info? 77).get Jk).bytes=232:=s20B;have b56:((Tryz.prog.info? 45).get Jk).bytes=56:=by kernel_rfl
 obtain ⟨M,eM⟩:∃ M,M=begL pl pre p qs:=⟨_,rfl⟩
 have hMl:M.length≤qs.length:=by rw [eM];exact q69 pl pre p qs
 rw [← eM];obtain ⟨rows,erows⟩:∃ rows:List (List Value),rows=(snL qs M).map snQ:=⟨_,rfl⟩
 have hrl:rows.length=M.length:=by rw [erows,List.length_map,qmw]
 have hxl:(M.map (sRow qs)).length=rows.length:=by rw [List.length_map,hrl]
 refine gvW Jk Tryz.func24 rfl Tryz.ntmps24 rfl (zw ?_);refine znm (Mem.nil w) fun b4 w1 h0=>zw ?_;refine znm h0 fun bm w2 h0=>zw ?_;refine znm h0 fun b8 w3 h0=>zw ?_;refine znm h0 fun b9 w4 h0=>zw ?_;refine LoadA.mem (cs:=(qd p).toArray) h0 (i:=3) rfl rfl (zw ?_);refine zcv (qqz x p pl pre w4) ?_;rintro r w5 ⟨c1,c2,c3,c4,rfl,hm5⟩;replace h0:=h0.glue hm5;obtain ⟨L,hL⟩:∃ L:List (Nat × Obj),L=[(bm,.cells #[ii m] 3),(b4,.cells (qd p).toArray 47),(c4,.cells #[.string pre] 9),(c3,.cells #[ii pl] 3),(c2,.cells (qd p).toArray 47),(c1,.cells #[pp x] 26)]:=⟨_,rfl⟩
 have hin1:(c1,Obj.cells #[pp x] 26)∈L:=by rw [hL];simp
 have hin2:(c2,Obj.cells (qd p).toArray 47)∈L:=by rw [hL];simp
 have hin3:(c3,Obj.cells #[ii pl] 3)∈L:=by rw [hL];simp
 have hin4:(c4,Obj.cells #[.string pre] 9)∈L:=by rw [hL];simp
 have hin0:(bm,Obj.cells #[ii m] 3)∈L:=by rw [hL];simp
 have hg5:∀ (N:List (Nat × Obj)) (X:List (Nat × Obj)) (w':World),Mem w w' (X++(N++L))→w'.heap[bm]?=some (.cells #[ii m] 3):=fun N X w' hh=>hh.get (List.mem_append_right _ (List.mem_append_right _ hin0))
 have hΦ:∀ (N:List (Nat × Obj)) (X:List (Nat × Obj)) (w':World),Mem w w' (X++(N++L))→SbeΦ x pb vb tb T qs p pl pre c1 c2 c3 c4 w':=fun N X w' hh=>⟨hX.ext hh.ext,hG.ext hh.ext,by rw [qa (hh.get (List.mem_append_right _ (List.mem_append_right _ hin1)))];rfl,fun j v hv=>by rw [qa (hh.get (List.mem_append_right _ (List.mem_append_right _ hin2))),Nat.zero_add,List.getElem?_toArray];exact hv,by rw [qa (hh.get (List.mem_append_right _ (List.mem_append_right _ hin3)))];rfl,by rw [qa (hh.get (List.mem_append_right _ (List.mem_append_right _ hin4)))];rfl⟩
 have hseq:=qq0 T qs h x pb vb tb p hp pl pre c1 c2 c3 c4;rw [← eM] at hseq;have hrw:∀ r∈(M.map (sRow qs)),r.length=2:=fun r hr=>by
  obtain ⟨j,_,rfl⟩:=List.mem_map.1 hr;rfl
 replace h0:Mem w w5 ([]++([]++[(b8,.cells #[.slice none 0 0] 71)])++([(b9,.cells #[.slice none 0 0] 71)]++L)):=by
  rw [hL];exact (qc9 w).perm h0 ((List.perm_append_comm (l₁:=[(c4,Obj.cells #[.string pre] 9),(c3,Obj.cells #[ii pl] 3),(c2,Obj.cells (qd p).toArray 47),(c1,Obj.cells #[pp x] 26),(b9,Obj.cells #[.slice none 0 0] 71)]) (l₂:=[_,_,_])).trans (List.Perm.cons _ (List.perm_append_comm (l₁:=[_,_,_,_,_,_]) (l₂:=[_]))))
 clear hm5;(conv=>whnf);refine qjk (b:=b8) (el:=77) (m:=m) (N:=[(b9,.cells #[.slice none 0 0] 71)]) 0 17 hseq hrw hΦ hxl h0 ?r1 ?b1
 case' b1=>
  obtain ⟨lb,rfl⟩:∃ lb,lb=b8:=⟨_,rfl⟩
  generalize [(b9,Obj.cells #[.slice none 0 0] 71)]=N
 case' r1=>
  rintro D1 w6 ⟨⟨v1,Y1⟩,hR1,hJ⟩;dsimp only at hR1 hJ;obtain ⟨N,eN⟩:∃ N:List (Nat × Obj),N=(D1,.deferred (some []))::(Y1++[(b8,.cells #[v1] 71)]):=⟨_,rfl⟩
  replace h0:Mem w w6 ([]++([]++[(b9,.cells #[.slice none 0 0] 71)])++(N++L)):=(qc9 w).perm (show Mem w w6 (N++(b9,.cells #[.slice none 0 0] 71)::L) by rw [eN];exact hJ) List.perm_middle;clear hJ;(conv=>whnf);refine qjk (b:=b9) (el:=77) (m:=m) (N:=N) 2 17 hseq hrw hΦ hxl h0 ?r2 ?b2
 case' b2=>obtain ⟨lb,rfl⟩:∃ lb,lb=b9:=⟨_,rfl⟩
 case' b1|b2=>
  clear h0;rintro l2 D oa od k r X w6 hr hJ;rw [List.getElem?_map] at hr;cases hrow:M[k]? with
  | none=>rw [hrow] at hr;cases hr
  | some i=>
  rw [hrow,Option.map_some,Option.some.injEq] at hr;subst hr;have hkM:=(List.getElem?_eq_some_iff.1 hrow).1;have cJ:Carr (fun X w'=>Mem w w' (X++(N++L))):=(qc9 w).tail _;have cS:=TkJ.carr cJ lb 71 77 17 rows m k;obtain ⟨q,eq⟩:∃ q,qs.getD i zQ=q:=⟨_,rfl⟩
  have hrk:rows[k]?=some (snQ ((i:Int),q)):=by rw [erows,List.getElem?_map,qq7 hrow,Option.map_some,eq]
  rw [show sRow qs i=[ii i,qq q] by rw [sRow,eq]];(conv=>whnf);refine NewV.carr cS hJ fun nb w7 hJ=>zw ?_;refine StoreA.carr (vs:=qd q) cS (A:=[]) hJ rfl (qaq q) fun w8 hJ=>zw ?_;refine ⟨rfl,(nb,.cells (qd q).toArray 47)::(D,.deferred (some []))::X,cS.perm hJ (List.Perm.swap _ _ _),?_⟩;clear hJ;rintro w9 ⟨⟨v,Y⟩,⟨hR,hkm⟩,hJ⟩;dsimp only at hR hJ;obtain ⟨Av,cv,ev⟩:=hR.slice;subst ev;have hg:=hJ.get (b:=lb) (o:=.cells #[.slice Av k cv] 71) Js;(conv=>whnf);refine LoadV.own hg rfl (zw ?_);refine LoadV.own (hg5 _ _ _ hJ) rfl (zw ?_)
  (repeat' refine zC (fun _=>zw ?_) (fun _=>zw ?_))
  case' refine_1=>exact ⟨rfl,by omega,(.slice Av k cv,Y),⟨hR,hkm⟩,cJ.dropM (A:=[(l2,od)]) hJ⟩
  refine LoadV.own hg rfl (zw ?_);refine LoadA.own (hJ.get (b:=nb) (o:=.cells (qd q).toArray 47) Js) rfl (zw ?_);refine NewV.carr cJ hJ fun ub w10 hJ=>zw ?_;refine AppV.box (news:=snQ ((i:Int),q)) cJ hJ hR q9w s20I s20Z Jk Jk Od rfl (qq8 _) (by rw [t17];omega) ?_;clear hJ;intro A5 c5 Y5 w11 hR5 hJ;(conv=>whnf);refine StoreV.box cJ hJ fun w12 hJ=>zw ?_;exact ⟨(.slice A5 (k+1) c5,Y5),⟨by rw [qim hrk];exact hR5,by omega⟩,cJ.dropM (A:=[(l2,od)]) hJ⟩
 rintro D2 w7 ⟨⟨v2,Y2⟩,hR2,hJ⟩;dsimp only at hR2 hJ;clear h0;obtain ⟨E,eE⟩:∃ E,E=snL qs (M.take m):=⟨_,rfl⟩
 have erE:rows.take m=E.map snQ:=by rw [erows,eE,← List.map_take,snL,snL,← List.map_take]
 rw [erE] at hR1 hR2;have hEl:E.length≤1048576:=by
  have:=congrArg List.length erE;rw [List.length_take,List.length_map] at this;omega
 have hY1:∀ y∈Y1,w7.heap[y.1]?=some y.2:=fun y hy=>hJ.get (List.mem_append_right _ (List.mem_append_left _ (by rw [eN];exact zmc (List.mem_append_left _ hy))))
 have hY2:∀ y∈Y2,w7.heap[y.1]?=some y.2:=fun y hy=>hJ.get (List.mem_append_left _ (List.mem_append_right _ (List.mem_append_left _ hy)))
 obtain ⟨A1,d1,rfl,hd1,hS1⟩:=qe4 qfi hR1 hY1;obtain ⟨A2,d2,rfl,hd2,hS2⟩:=qe4 qfi hR2 hY2;have hg8:w7.heap[b8]?=some (.cells #[.slice A1 E.length d1] 71):=hJ.get (List.mem_append_right _ (List.mem_append_left _ (by rw [eN];simp)));have hg9:w7.heap[b9]?=some (.cells #[.slice A2 E.length d2] 71):=hJ.get (List.mem_append_left _ Js);have hx7:∀ wd,Ext w7.drew wd→Ext w7 wd:=fun wd hd=>(Ext.refl w7).drew.trans hd
 (conv=>whnf);refine DrawW.any Jk (.inl rfl) (AnyV.free Jk ?_);(conv=>whnf);refine zsd (.slice A1 E.length d1) (fun wd hd=>zw ?_) (zw ?_)
 ·refine LoadV.own ((hx7 wd hd).get hg8) rfl (zw ?_);exact ⟨xr,rfl⟩
 refine zsd (.slice A1 E.length d1) (fun wd hd=>zw ?_) (zw ?_)
 ·refine LoadV.own ((hx7 wd hd).get hg8) rfl (zw ?_);exact ⟨xr,rfl⟩
 refine zsd (.slice A2 E.length d2) (fun wd hd=>zw ?_) (zw ?_)
 ·refine LoadV.own ((hx7 wd hd).get hg9) rfl (zw ?_);exact ⟨xr,rfl⟩
 refine zsd (.bool true) (fun wd hd=>zw ?_) (zw ?_)
 ·refine zcv (qc5 E A1 A2 d1 d2 wd (hS1.ext (hx7 wd hd)) (hS2.ext (hx7 wd hd)) Oo) ?_;rintro r wx ⟨rfl,hex⟩;exact ⟨hex,rfl⟩
 refine zd ?_;refine zd ?_;intro w8 he8;replace hJ:=hJ.call (hx7 w8 he8);rw [eN] at hJ;(conv=>whnf);obtain ⟨R,eR⟩:∃ R:List (Nat × Obj),R=(Y2++[(b9,.cells #[.slice A2 E.length d2] 71)])++((Y1++[(b8,.cells #[.slice A1 E.length d1] 71)])++L):=⟨_,rfl⟩
 have hYR:∀ y∈Y1,y∈R:=fun y hy=>by rw [eR];exact List.mem_append_right _ (List.mem_append_left _ (List.mem_append_left _ hy))
 replace hJ:Mem w w8 ((D2,.deferred (some []))::((Y2++[(b9,.cells #[.slice A2 E.length d2] 71)])++(D1,.deferred (some []))::((Y1++[(b8,.cells #[.slice A1 E.length d1] 71)])++L))):=hJ;replace hJ:Mem w w8 ((D2,.deferred (some []))::(D1,.deferred (some []))::R):=by rw [eR];exact (qc9 w).perm hJ (List.Perm.cons _ List.perm_middle)
 refine LeaveV.marks (J:=fun X w'=>Mem w w' (X++R)) ((qc9 w).tail R) ?_ (D:=D2) (Ds:=[D1]) hJ;intro w' h';(conv=>whnf);obtain ⟨A3,d3,e3,hd3,hS3⟩:=qe4 qfi hR1 (w:=w') (fun y hy=>h'.get (List.mem_append_right [] (hYR y hy)))
 injection e3 with e31 _ e32
 subst e31 e32;exact ⟨⟨_,rfl,A1,d1,by rw [eE],by rw [← eE];exact hd1,by rw [← eE];exact hS3⟩,h'.ext⟩
theorem qaac (pl:Int) (p:Q4) (qs:List Q4):(tasL pl p qs).length≤qs.length:=by
 rw [tasL]
 split
 ·refine Nat.le_trans (qyj ordT _) ?_;rw [tatL,List.length_map];exact qkt p qs
 ·exact Nat.zero_le _
theorem qwg (T:List TM) (qs:List Q4) (h:EncOk T qs) (x pb vb tb:Nat) (p:Q4) (hp:qak p) (pl:Int) (m:Nat) (hm9:m≤9223372036854775807) (w:World) (hX:IdxE w x pb vb tb (encP T qs)) (hG:GlobS w) :
  Gv Tryz.prog 19 [pp x,qq p,ii pl,ii m] w fun r w'=>(∃ v,r=.tuple #[v,.bool true]∧TmR ((tasL pl p qs).take m) v w')∧Ext w w':=by
 have hq20:=h.set.len;have t17:((Tryz.prog.info? 77).get Jk).bytes=232:=s20B;have b56:((Tryz.prog.info? 45).get Jk).bytes=56:=by kernel_rfl
 obtain ⟨M,eM⟩:∃ M,M=tasL pl p qs:=⟨_,rfl⟩
 have hMl:M.length≤qs.length:=by rw [eM];exact qaac pl p qs
 rw [← eM];obtain ⟨rows,erows⟩:∃ rows:List (List Value),rows=M.map encT:=⟨_,rfl⟩
 have hrl:rows.length=M.length:=by rw [erows,List.length_map]
 have hxl:(M.map fun t=>[qt t]).length=rows.length:=by rw [List.length_map,hrl]
 refine gvW Jk Tryz.func19 rfl Tryz.ntmps19 rfl (zw ?_);refine znm (Mem.nil w) fun b4 w1 h0=>zw ?_;refine znm h0 fun bm w2 h0=>zw ?_;refine znm h0 fun b8 w3 h0=>zw ?_;refine znm h0 fun b9 w4 h0=>zw ?_;refine LoadA.mem (cs:=(qd p).toArray) h0 (i:=3) rfl rfl (zw ?_);refine zcv (qv7 x p pl w4) ?_;rintro r w5 ⟨c1,c2,c3,rfl,hm5⟩;replace h0:=h0.glue hm5;obtain ⟨L,hL⟩:∃ L:List (Nat × Obj),L=[(bm,.cells #[ii m] 3),(b4,.cells (qd p).toArray 47),(c3,.cells #[ii pl] 3),(c2,.cells (qd p).toArray 47),(c1,.cells #[pp x] 26)]:=⟨_,rfl⟩
 have hin1:(c1,Obj.cells #[pp x] 26)∈L:=by rw [hL];simp
 have hin2:(c2,Obj.cells (qd p).toArray 47)∈L:=by rw [hL];simp
 have hin3:(c3,Obj.cells #[ii pl] 3)∈L:=by rw [hL];simp
 have hin0:(bm,Obj.cells #[ii m] 3)∈L:=by rw [hL];simp
 have hg5:∀ (N:List (Nat × Obj)) (X:List (Nat × Obj)) (w':World),Mem w w' (X++(N++L))→w'.heap[bm]?=some (.cells #[ii m] 3):=fun N X w' hh=>hh.get (List.mem_append_right _ (List.mem_append_right _ hin0))
 have hΦ:∀ (N:List (Nat × Obj)) (X:List (Nat × Obj)) (w':World),Mem w w' (X++(N++L))→SteΦ x pb vb tb T qs p pl c1 c2 c3 w':=fun N X w' hh=>⟨hX.ext hh.ext,hG.ext hh.ext,by rw [qa (hh.get (List.mem_append_right _ (List.mem_append_right _ hin1)))];rfl,fun j v hv=>by rw [qa (hh.get (List.mem_append_right _ (List.mem_append_right _ hin2))),Nat.zero_add,List.getElem?_toArray];exact hv,by rw [qa (hh.get (List.mem_append_right _ (List.mem_append_right _ hin3)))];rfl⟩
 have hseq:=qv8 T qs h x pb vb tb p hp pl c1 c2 c3;rw [← eM] at hseq;have hrw:∀ r∈(M.map fun t=>[qt t]),r.length=1:=fun r hr=>by
  obtain ⟨j,_,rfl⟩:=List.mem_map.1 hr;rfl
 replace h0:Mem w w5 ([]++([]++[(b8,.cells #[.slice none 0 0] 28)])++([(b9,.cells #[.slice none 0 0] 28)]++L)):=by
  rw [hL];exact (qc9 w).perm h0 ((List.perm_append_comm (l₁:=[(c3,Obj.cells #[ii pl] 3),(c2,Obj.cells (qd p).toArray 47),(c1,Obj.cells #[pp x] 26),(b9,Obj.cells #[.slice none 0 0] 28)]) (l₂:=[_,_,_])).trans (List.Perm.cons _ (List.perm_append_comm (l₁:=[_,_,_,_,_]) (l₂:=[_]))))
 clear hm5;(conv=>whnf);refine qjk (b:=b8) (el:=45) (m:=m) (N:=[(b9,.cells #[.slice none 0 0] 28)]) 0 4 hseq hrw hΦ hxl h0 ?r1 ?b1
 case' b1=>
  obtain ⟨lb,rfl⟩:∃ lb,lb=b8:=⟨_,rfl⟩
  generalize [(b9,Obj.cells #[.slice none 0 0] 28)]=N
 case' r1=>
  rintro D1 w6 ⟨⟨v1,Y1⟩,hR1,hJ⟩;dsimp only at hR1 hJ;obtain ⟨N,eN⟩:∃ N:List (Nat × Obj),N=(D1,.deferred (some []))::(Y1++[(b8,.cells #[v1] 28)]):=⟨_,rfl⟩
  replace h0:Mem w w6 ([]++([]++[(b9,.cells #[.slice none 0 0] 28)])++(N++L)):=(qc9 w).perm (show Mem w w6 (N++(b9,.cells #[.slice none 0 0] 28)::L) by rw [eN];exact hJ) List.perm_middle;clear hJ;(conv=>whnf);refine qjk (b:=b9) (el:=45) (m:=m) (N:=N) 2 4 hseq hrw hΦ hxl h0 ?r2 ?b2
 case' b2=>obtain ⟨lb,rfl⟩:∃ lb,lb=b9:=⟨_,rfl⟩
 case' b1|b2=>
  clear h0;rintro l2 D oa od k r X w6 hr hJ;rw [List.getElem?_map] at hr;cases hrow:M[k]? with
  | none=>rw [hrow] at hr;cases hr
  | some i=>
  rw [hrow,Option.map_some,Option.some.injEq] at hr;subst hr;have hkM:=(List.getElem?_eq_some_iff.1 hrow).1;have cJ:Carr (fun X w'=>Mem w w' (X++(N++L))):=(qc9 w).tail _;have cS:=TkJ.carr cJ lb 28 45 4 rows m k;have hrk:rows[k]?=some (encT i):=by rw [erows,List.getElem?_map,hrow];rfl
  (conv=>whnf);refine NewV.carr cS hJ fun nb w7 hJ=>zw ?_;refine StoreA.carr (vs:=encT i) cS (A:=[]) hJ rfl (qab i) fun w8 hJ=>zw ?_;refine ⟨rfl,(nb,.cells (encT i).toArray 45)::(D,.deferred (some []))::X,cS.perm hJ (List.Perm.swap _ _ _),?_⟩;clear hJ;rintro w9 ⟨⟨v,Y⟩,⟨hR,hkm⟩,hJ⟩;dsimp only at hR hJ;obtain ⟨Av,cv,ev⟩:=hR.slice;subst ev;have hg:=hJ.get (b:=lb) (o:=.cells #[.slice Av k cv] 28) Js;(conv=>whnf);refine LoadV.own hg rfl (zw ?_);refine LoadV.own (hg5 _ _ _ hJ) rfl (zw ?_)
  (repeat' refine zC (fun _=>zw ?_) (fun _=>zw ?_))
  case' refine_1=>exact ⟨rfl,by omega,(.slice Av k cv,Y),⟨hR,hkm⟩,cJ.dropM (A:=[(l2,od)]) hJ⟩
  refine LoadV.own hg rfl (zw ?_);refine LoadA.own (hJ.get (b:=nb) (o:=.cells (encT i).toArray 45) Js) rfl (zw ?_);refine NewV.carr cJ hJ fun ub w10 hJ=>zw ?_;refine AppV.box (news:=encT i) cJ hJ hR qwh trmI trmZ Jk Jk Od rfl (qab i) (by rw [b56];omega) ?_;clear hJ;intro A5 c5 Y5 w11 hR5 hJ;(conv=>whnf);refine StoreV.box cJ hJ fun w12 hJ=>zw ?_;exact ⟨(.slice A5 (k+1) c5,Y5),⟨by rw [qim hrk];exact hR5,by omega⟩,cJ.dropM (A:=[(l2,od)]) hJ⟩
 rintro D2 w7 ⟨⟨v2,Y2⟩,hR2,hJ⟩;dsimp only at hR2 hJ;clear h0;obtain ⟨E,eE⟩:∃ E,E=M.take m:=⟨_,rfl⟩
 have erE:rows.take m=E.map encT:=by rw [erows,eE,← List.map_take]
 rw [erE] at hR1 hR2;have hEl:E.length≤1048576:=by
  have:=congrArg List.length erE;rw [List.length_take,List.length_map] at this;omega
 have hY1:∀ y∈Y1,w7.heap[y.1]?=some y.2:=fun y hy=>hJ.get (List.mem_append_right _ (List.mem_append_left _ (by rw [eN];exact zmc (List.mem_append_left _ hy))))
 have hY2:∀ y∈Y2,w7.heap[y.1]?=some y.2:=fun y hy=>hJ.get (List.mem_append_left _ (List.mem_append_right _ (List.mem_append_left _ hy)))
 obtain ⟨A1,d1,rfl,hd1,hS1⟩:=qe4 qag hR1 hY1;obtain ⟨A2,d2,rfl,hd2,hS2⟩:=qe4 qag hR2 hY2;have hg8:w7.heap[b8]?=some (.cells #[.slice A1 E.length d1] 28):=hJ.get (List.mem_append_right _ (List.mem_append_left _ (by rw [eN];simp)));have hg9:w7.heap[b9]?=some (.cells #[.slice A2 E.length d2] 28):=hJ.get (List.mem_append_left _ Js);have hx7:∀ wd,Ext w7.drew wd→Ext w7 wd:=fun wd hd=>(Ext.refl w7).drew.trans hd
 (conv=>whnf);refine DrawW.any Jk (.inl rfl) (AnyV.free Jk ?_);(conv=>whnf);refine zsd (.slice A1 E.length d1) (fun wd hd=>zw ?_) (zw ?_)
 ·refine LoadV.own ((hx7 wd hd).get hg8) rfl (zw ?_);exact ⟨xr,rfl⟩
 refine zsd (.slice A1 E.length d1) (fun wd hd=>zw ?_) (zw ?_)
 ·refine LoadV.own ((hx7 wd hd).get hg8) rfl (zw ?_);exact ⟨xr,rfl⟩
 refine zsd (.slice A2 E.length d2) (fun wd hd=>zw ?_) (zw ?_)
 ·refine LoadV.own ((hx7 wd hd).get hg9) rfl (zw ?_);exact ⟨xr,rfl⟩
 refine zsd (.bool true) (fun wd hd=>zw ?_) (zw ?_)
 ·refine zcv (qjo E A1 A2 d1 d2 wd (hS1.ext (hx7 wd hd)) (hS2.ext (hx7 wd hd)) Oo) ?_;rintro r wx ⟨rfl,hex⟩;exact ⟨hex,rfl⟩
 refine zd ?_;refine zd ?_;intro w8 he8;replace hJ:=hJ.call (hx7 w8 he8);rw [eN] at hJ;(conv=>whnf);obtain ⟨R,eR⟩:∃ R:List (Nat × Obj),R=(Y2++[(b9,.cells #[.slice A2 E.length d2] 28)])++((Y1++[(b8,.cells #[.slice A1 E.length d1] 28)])++L):=⟨_,rfl⟩
 have hYR:∀ y∈Y1,y∈R:=fun y hy=>by rw [eR];exact List.mem_append_right _ (List.mem_append_left _ (List.mem_append_left _ hy))
 replace hJ:Mem w w8 ((D2,.deferred (some []))::((Y2++[(b9,.cells #[.slice A2 E.length d2] 28)])++(D1,.deferred (some []))::((Y1++[(b8,.cells #[.slice A1 E.length d1] 28)])++L))):=hJ;replace hJ:Mem w w8 ((D2,.deferred (some []))::(D1,.deferred (some []))::R):=by rw [eR];exact (qc9 w).perm hJ (List.Perm.cons _ List.perm_middle)
 refine LeaveV.marks (J:=fun X w'=>Mem w w' (X++R)) ((qc9 w).tail R) ?_ (D:=D2) (Ds:=[D1]) hJ;intro w' h';(conv=>whnf);obtain ⟨A3,d3,e3,hd3,hS3⟩:=qe4 qag hR1 (w:=w') (fun y hy=>h'.get (List.mem_append_right [] (hYR y hy)))
 injection e3 with e31 _ e32
 subst e31 e32;exact ⟨⟨_,rfl,A1,d1,by rw [eE],by rw [← eE];exact hd1,by rw [← eE];exact hS3⟩,h'.ext⟩
structure AskE where
 kind:Int
 q:Q4
 pl:Int
 pre:ByteArray
 most:Int
namespace V
theorem qsx {P:Program} {w:World}:∀ {l:List (String × DataW Unit)} {ps:List MemPlace},DataW.LaidVars P w l ps→∀ {n:String} {d:DataW Unit},(n,d)∈l→
  ∃ g t cs fuel p,P.globalNamed n=some g∧(P.globals[g]?).map (·.type)=some t∧w.var? P n=some cs∧DataW.trod (fun _=>()) P w 0 (fun _=>true) false fuel t cs.toList=some (d,p)
 | [],_,_,_,_,h=>by cases h
 | (n0,d0)::r,ps,h,n,d,hm=>by
  obtain ⟨g,t,cs,fuel,p,q,h1,h2,h3,h4,h5,_⟩:=h
  rcases List.mem_cons.1 hm with e|hm
  ·cases e;exact ⟨g,t,cs,fuel,p,h1,h2,h3,h4⟩
  ·exact qsx h5 hm
theorem ql9 {P:Program} {W:World} {name:String} {k:IntKind} {zs:List Int} {l:List (String × DataW Unit)} {g:Nat} {t e:TypeId} {n:Nat}
  (hg:P.globalNamed name=some g) (hty:(P.globals[g]?).map (·.type)=some t) (ht:P.underlying t=some (.array n e)) (he:P.underlying e=some (.int k)) (hce:P.cellsOf e=1) (hct:P.cellsOf t=n)
  (h:laidMet P l W) (hm:(name,Lib.tabData k zs)∈l):CellsAt W g 0 (zs.map fun z=>Value.int k z):=by
 obtain ⟨ps,h,_⟩:=h;obtain ⟨g',t',cs,fuel,p,hg',ht',hvar,hd⟩:=qsx h hm;obtain rfl:=Option.some.inj (hg.symm.trans hg');obtain rfl:=Option.some.inj (hty.symm.trans ht');have hT:Lib.TabIs P W name k zs:=by
  unfold Lib.TabIs;rw [hvar,← Lib.cells_of_tab ht he hce hct hd]
 intro i v hv;have hi:i<zs.length:=by simpa using (List.getElem?_eq_some_iff.1 hv).1
 have:=hT.cell hg i hi;rw [Nat.zero_add,this];rw [List.getElem?_map,zge hi] at hv;rw [List.getD_eq_getElem?_getD,zge hi]
 simpa using hv
end V
open Go.ChangeShapes Go.WideShapes Go.ChangeAt Go.RowKit
theorem own:ownKnob Tryz.prog.godebug=none:=by kernel_rfl
theorem q3j:laidOutB Tryz.prog=true:=by kernel_rfl
mutual
def q5w:DataW Unit→List Value
 | .lit (.int k n)=>[.int k n]
 | .agg l=>cellsDs l
 | _=>[]
def cellsDs:List (DataW Unit)→List Value
 | []=>[]
 | d::l=>q5w d++cellsDs l
end
def qab2 (w:World) (x:Nat × DataW Unit):World:=
 { w with heap:=w.heap.modify x.1 fun
   | .cells _ t frozen=>.cells (q5w x.2).toArray t frozen
   | o=>o }
noncomputable def qab1 (os:Os) (l:List (Nat × DataW Unit)):World:=l.foldl qab2 (World.holding Tryz.prog os ⟨#[],#[],[]⟩)
open Go.ChangeShapes Go.WideShapes Go.ChangeAt Go.RowKit V
theorem qiv:Tryz.prog.cellsOf 45=4:=by kernel_rfl
theorem qw7:Tryz.prog.cellsOf 47=16:=by kernel_rfl
theorem q7f:Tryz.prog.bytesOf 47=224:=by kernel_rfl
section
variable {H:Type} {enc:TypeId × Value→H} {W:World}
theorem qmj {c:Value} (h:Opn enc Tryz.prog W 9 [c]):∃ s:ByteArray,c=.string s∧s.size≤140737488355328:=h.string Tryz.underlying9
theorem qf4 {cs:List Value} (h:Opn enc Tryz.prog W 45 cs):∃ t:TM,cs=encT t∧TermOk t:=by
 obtain ⟨hl,hf⟩:=Opn.fields Tryz.underlying45 h;rw [qiv] at hl
 match cs,hl with
 | [c0,c1,c2,c3],_=>
  have g0:Opn enc Tryz.prog W 3 (([c0,c1,c2,c3].drop 0).take (Tryz.prog.cellsOf 3)):=hf 0 _ rfl;rw [q2l] at g0;have g1:Opn enc Tryz.prog W 9 (([c0,c1,c2,c3].drop 1).take (Tryz.prog.cellsOf 9)):=hf 1 _ rfl;rw [qlm] at g1;have g2:Opn enc Tryz.prog W 9 (([c0,c1,c2,c3].drop 2).take (Tryz.prog.cellsOf 9)):=hf 2 _ rfl;rw [qlm] at g2;have g3:Opn enc Tryz.prog W 9 (([c0,c1,c2,c3].drop 3).take (Tryz.prog.cellsOf 9)):=hf 3 _ rfl;rw [qlm] at g3;obtain ⟨n0,rfl,k0⟩:=Opn.int (c:=c0) Tryz.underlying3 g0;obtain ⟨n1,rfl,k1⟩:=qmj (c:=c1) g1;obtain ⟨n2,rfl,k2⟩:=qmj (c:=c2) g2;obtain ⟨n3,rfl,k3⟩:=qmj (c:=c3) g3;exact ⟨⟨n0,n1,n2,n3⟩,rfl,⟨qabr k0,k1,k2,k3⟩⟩
theorem qoc {cs:List Value} (h:Opn enc Tryz.prog W 47 cs):∃ q:Q4,cs=qd q∧qak q:=by
 obtain ⟨hl,hf⟩:=Opn.fields Tryz.underlying47 h;rw [qw7] at hl
 match cs,hl with
 | [a0,a1,a2,a3,b0,b1,b2,b3,c0,c1,c2,c3,d0,d1,d2,d3],_=>
  have g0:Opn enc Tryz.prog W 45 (([a0,a1,a2,a3,b0,b1,b2,b3,c0,c1,c2,c3,d0,d1,d2,d3].drop 0).take (Tryz.prog.cellsOf 45)):=hf 0 _ rfl;rw [qiv] at g0;have g1:Opn enc Tryz.prog W 45 (([a0,a1,a2,a3,b0,b1,b2,b3,c0,c1,c2,c3,d0,d1,d2,d3].drop 4).take (Tryz.prog.cellsOf 45)):=hf 1 _ rfl;rw [qiv] at g1;have g2:Opn enc Tryz.prog W 45 (([a0,a1,a2,a3,b0,b1,b2,b3,c0,c1,c2,c3,d0,d1,d2,d3].drop 8).take (Tryz.prog.cellsOf 45)):=hf 2 _ rfl;rw [qiv] at g2;have g3:Opn enc Tryz.prog W 45 (([a0,a1,a2,a3,b0,b1,b2,b3,c0,c1,c2,c3,d0,d1,d2,d3].drop 12).take (Tryz.prog.cellsOf 45)):=hf 3 _ rfl;rw [qiv] at g3;obtain ⟨t0,e0,k0⟩:=qf4 (cs:=[a0,a1,a2,a3]) g0;obtain ⟨t1,e1,k1⟩:=qf4 (cs:=[b0,b1,b2,b3]) g1;obtain ⟨t2,e2,k2⟩:=qf4 (cs:=[c0,c1,c2,c3]) g2;obtain ⟨t3,e3,k3⟩:=qf4 (cs:=[d0,d1,d2,d3]) g3;simp only [encT,List.cons.injEq] at e0 e1 e2 e3;obtain ⟨rfl,rfl,rfl,rfl,_⟩:=e0;obtain ⟨rfl,rfl,rfl,rfl,_⟩:=e1;obtain ⟨rfl,rfl,rfl,rfl,_⟩:=e2;obtain ⟨rfl,rfl,rfl,rfl,_⟩:=e3;refine ⟨⟨t0,t1,t2,t3⟩,rfl,fun k=>?_⟩
  match k with
  | 0=>exact k0
  | 1=>exact k1
  | 2=>exact k2
  | k+3=>exact k3
noncomputable instance:Inhabited Q4:=⟨zQ⟩
theorem qu9 {c:Value} (h:Opn enc Tryz.prog W 22 [c]) :
  ∃ (A:oA) (cap:Nat) (l:List Q4),c=.slice A l.length cap∧l.length≤140737488355328∧(∀ q∈l,qak q)∧SlAt qd 16 W A l:=by
 obtain ⟨A,cap,l,h1,h2,h3,h4,h5⟩:=h.sliceR (en:=qd) (R:=qak) (size:=16) Tryz.underlying22 qw7 Od qoi (fun cs hc=>qoc hc);rw [q7f] at h3;exact ⟨A,cap,l,h1,by omega,h4,h5⟩
noncomputable instance:Inhabited AskE:=⟨⟨0,zQ,0,⟨#[]⟩,0⟩⟩
end
theorem q8h {W:World} (h:W.ShapedOpen Tryz.prog):MaxLenAt W:=
 cell_of_shapedOpen_int (zero:=#[ii 0]) (t:=3) (k:=.i64) h (of_decide_eq_true Jk) Jk rfl Jk Jk Tryz.underlying3
def tabs:List (String × DataW Unit):=[("unicode/utf8.acceptRanges",Rows.laid_unicode_utf8_acceptRanges),("tessera/sums.nibbles",Rows.laid_tessera_sums_nibbles),("tessera/names.basesTable",Rows.laid_tessera_names_basesTable),("tessera/vocab.kinds",Rows.laid_tessera_vocab_kinds),("unicode/utf8.first",Rows.laid_unicode_utf8_first)]
def q78:List (String × DataW Unit):=[("unicode/utf8.acceptRanges",Rows.laid_unicode_utf8_acceptRanges),("errors.errorType",Rows.laid_errors_errorType),("tessera/sums.nibbles",Rows.laid_tessera_sums_nibbles),("tessera/names.basesTable",Rows.laid_tessera_names_basesTable),("tessera/vocab.kinds",Rows.laid_tessera_vocab_kinds),("unicode/utf8.first",Rows.laid_unicode_utf8_first)]
theorem qab0 {W:World} (h:laidMetH Tryz.prog q78 W):laidMet Tryz.prog tabs W∧handlesMet Tryz.prog [("errors.errorType",Rows.laid_errors_errorType)] W:=h
theorem qac1 {W:World} (h:laidMet Tryz.prog tabs W):CellsAt W 4 0 qa6:=
 ql9 (name:= "tessera/names.basesTable") (k:=.i32) (zs:=[192,214,216,246,248,767,880,893,895,8191,8204,8205,8304,8591,11264,12271,12289,55295,63744,64975,65008,65533,65536,983039]) (l:=tabs) (g:=4) (t:=480) (e:=21) (n:=24)
  Jk Jk Tryz.underlying480 Tryz.underlying21 Jk Jk h (zmc (zmc mh))
theorem q3u {W:World} (h:laidMet Tryz.prog tabs W):CellsAt W 3 0 qg7:=
 ql9 (name:= "tessera/sums.nibbles") (k:=.u32) (zs:=nibs.map fun n:Nat=>(n:Int)) (l:=tabs) (g:=3) (t:=446) (e:=179) (n:=16)
  Jk Jk Tryz.underlying446 Tryz.underlying179 Jk Jk h (zmc mh)
theorem qabx {W:World} (h:laidMet Tryz.prog tabs W):qip W:=
 ql9 (name:= "tessera/vocab.kinds") (k:=.i64) (zs:=[1,2,3]) (l:=tabs) (g:=2) (t:=113) (e:=3) (n:=3)
  Jk Jk Tryz.underlying113 Tryz.underlying3 Jk Jk h (zmc (zmc (zmc mh)))
theorem etL:Tryz.prog.globalNamed "errors.errorType" = some 0:=by kernel_rfl
theorem rtL:(Tryz.prog.cutTypes.find? (·.1== "internal/reflectlite.rtype")).map (·.2)=some 314:=by kernel_rfl
theorem q8u:((List.range Tryz.prog.types.size).filter fun t=>Tryz.prog.rowNamed t [101,114,114,111,114])=[38]:=by kernel_rfl
theorem q7w {W:World} (h:handlesMet Tryz.prog [("errors.errorType",Rows.laid_errors_errorType)] W):ErrTyp W:=by
 obtain ⟨name,u,ty,e1,e2,e3,e4,e5⟩:=h _ (List.mem_singleton.2 rfl);have en:name=[101,114,114,111,114]:=(Option.some.inj e1).symm;subst en;obtain rfl:=Option.some.inj (rtL.symm.trans e2);have hm:ty∈(List.range Tryz.prog.types.size).filter fun t=>Tryz.prog.rowNamed t [101,114,114,111,114]:=List.mem_filter.2 ⟨List.mem_range.2 e3,e4⟩
 rw [q8u] at hm;obtain rfl:=List.mem_singleton.1 hm;have hh:typeHandle Tryz.prog 38=.pointer (some ⟨7,38,none⟩):=by kernel_rfl
 rw [hh] at e5;have hc:=World.var?_cell etL e5 0;unfold ErrTyp
 simpa using hc
structure GlobM (w:World):Prop where
 S:GlobS w
 N:CellsAt w 3 0 qg7
 G:ErrTyp w
theorem q72 {W:World} (h:laidMetH Tryz.prog q78 W) (hsh:W.ShapedOpen Tryz.prog):GlobM W:=
 have hp:=qab0 h
 ⟨⟨q8h hsh,qac1 hp.1,qabx hp.1⟩,q3u hp.1,q7w hp.2⟩
noncomputable def witP (os:Os):World:=
 let w0:=qab1 os [(6,Rows.laid_unicode_utf8_acceptRanges),(3,Rows.laid_tessera_sums_nibbles),(4,Rows.laid_tessera_names_basesTable),(2,Rows.laid_tessera_vocab_kinds),(5,Rows.laid_unicode_utf8_first)]
 { w0 with heap:=w0.heap.modify 0 fun
   | .cells _ t frozen=>.cells #[.iface 314 (.agg #[.pointer (some ⟨7,38,none⟩)])] t frozen
   | o=>o }
theorem qp5 {P:Program} {c:OpenClaim} (hs:c.start=.entering) (h:P.funcs.any Func.goes=false):false=c.goesBy P:=by
 have hg:∀ g:FuncId,(P.funcs[g]?).any Func.goes=false:=fun g=>by
  cases e:P.funcs[g]? with
  | none=>rfl
  | some fn=>
   rw [Array.any_eq_false] at h;obtain ⟨hg,rfl⟩:=Array.getElem?_eq_some_iff.1 e
   simpa using h g hg
 have hf:∀ f,P.goes f=false:=fun f=>by
  rw [Program.goes,h,Bool.and_false,Bool.or_false,List.any_eq_false];intro g _;rw [hg g];exact Bool.false_ne_true
 rw [OpenClaim.goesBy,hs,Program.goesAt,Program.goesFrom,Bool.or_false];cases P.funcNamed c.func with
 | none=>rfl
 | some f=>exact (hf f).symm
theorem qab9:Tryz.prog.funcs.any Func.goes=false:=by kernel_rfl
theorem andT {a b:Bool} (h:a=true) (k:b=true):(a&&b)=true:=by rw [h,k];rfl
structure Turn (l l':LB) (f B:Nat):Prop where
 len:l'.length=l.length
 bit:∀ t,t<8*l.length→bitN l' t=(bitN l t+(if f≤t∧t<f+32 then B/2 ^ (t-f)%2 else 0))%2
section
variable {l l':LB} {f B:Nat} (h:Turn l l' f B)
include h
end
theorem EncOk.packE {T:List TM} {qs:List Q4} (h:EncOk T qs):(packE (encP T qs)).2=0:=by
 have hp:=h.poE;obtain ⟨h1,_,_,_,h5,_⟩:=qtk (l:=encP T qs) (by rw [hp]);rw [Go.Proofs.YtccmcfpmknpccaaGreatDoor.packE,if_neg (fun g=>g h1),h.v,if_neg (fun g=>g h.voc.wE),if_neg (fun g=>g (qt6 h5).1)]
end Go.Proofs.YtccmcfpmknpccaaGreatDoor
