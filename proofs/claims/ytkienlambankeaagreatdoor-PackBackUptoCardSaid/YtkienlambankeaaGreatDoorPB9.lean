/- Lemmas and contracts of functions on the way to the law's card (part 9 of 10). -/
import Derived.Test.YtkienlambankeaaGreatDoorPB8
import Derived.Lib.LaidTab
import Derived.Test.YtkienlambankeaaGreatDoorRows
import Derived.Deep.DeepHandedRow
import Derived.ProofKit
import Derived.OpenShut
import Derived.LaidHandle
import Derived.Shelf.Vars
namespace Go.Proofs.YtkienlambankeaaGreatDoor
set_option maxHeartbeats 8000000
open Go.RowKit
namespace V
theorem qum {P:Program} {w:World}:∀ {l:List (String × DataW Unit)} {ps:List MemPlace},DataW.LaidVars P w l ps→∀ {n:String} {d:DataW Unit},(n,d)∈l→
  ∃ g t cs fuel p,P.globalNamed n=some g∧(P.globals[g]?).map (·.type)=some t∧w.var? P n=some cs∧DataW.trod (fun _=>()) P w 0 (fun _=>true) false fuel t cs.toList=some (d,p)
 | [],_,_,_,_,h=>by cases h
 | (n0,d0)::r,ps,h,n,d,hm=>by
  obtain ⟨g,t,cs,fuel,p,q,h1,h2,h3,h4,h5,_⟩:=h
  rcases List.mem_cons.1 hm with e|hm
  ·cases e;exact ⟨g,t,cs,fuel,p,h1,h2,h3,h4⟩
  ·exact qum h5 hm
theorem qnk {P:Program} {W:World} {name:String} {k:IntKind} {zs:List Int} {l:List (String × DataW Unit)} {g:Nat} {t e:TypeId} {n:Nat}
  (hg:P.globalNamed name=some g) (hty:(P.globals[g]?).map (·.type)=some t) (ht:P.underlying t=some (.array n e)) (he:P.underlying e=some (.int k)) (hce:P.cellsOf e=1) (hct:P.cellsOf t=n)
  (h:laidMet P l W) (hm:(name,Lib.tabData k zs)∈l):CellsAt W g 0 (zs.map fun z=>Value.int k z):=by
 obtain ⟨ps,h,_⟩:=h;obtain ⟨g',t',cs,fuel,p,hg',ht',hvar,hd⟩:=qum h hm;obtain rfl:=Option.some.inj (hg.symm.trans hg');obtain rfl:=Option.some.inj (hty.symm.trans ht');have hT:Lib.TabIs P W name k zs:=by
  unfold Lib.TabIs;rw [hvar,← Lib.cells_of_tab ht he hce hct hd]
 intro i v hv;have hi:i<zs.length:=by simpa using (List.getElem?_eq_some_iff.1 hv).1
 have:=hT.cell hg i hi;rw [Nat.zero_add,this];rw [List.getElem?_map,zge hi] at hv;rw [List.getD_eq_getElem?_getD,zge hi]
 simpa using hv
end V
open Go.ChangeShapes Go.WideShapes Go.ChangeAt Go.RowKit
theorem own:ownKnob Tryz.prog.godebug=none:=by kernel_rfl
theorem q4b:laidOutB Tryz.prog=true:=by kernel_rfl
mutual
def q6k:DataW Unit→List Value
 | .lit (.int k n)=>[.int k n]
 | .agg l=>cellsDs l
 | _=>[]
def cellsDs:List (DataW Unit)→List Value
 | []=>[]
 | d::l=>q6k d++cellsDs l
end
def qaca (w:World) (x:Nat × DataW Unit):World:=
 { w with heap:=w.heap.modify x.1 fun
   | .cells _ t frozen=>.cells (q6k x.2).toArray t frozen
   | o=>o }
noncomputable def qab9 (os:Os) (l:List (Nat × DataW Unit)):World:=l.foldl qaca (World.holding Tryz.prog os ⟨#[],#[],[]⟩)
open Go.ChangeShapes Go.WideShapes Go.ChangeAt Go.RowKit V
set_option maxRecDepth 100000
theorem qj3:Tryz.prog.cellsOf 66=4:=by kernel_rfl
theorem qyp:Tryz.prog.cellsOf 68=16:=by kernel_rfl
theorem q8b:Tryz.prog.bytesOf 68=224:=by kernel_rfl
section
variable {H:Type} {enc:TypeId × Value→H} {W:World}
theorem qnx {c:Value} (h:Opn enc Tryz.prog W 9 [c]):∃ s:ByteArray,c=.string s∧s.size≤140737488355328:=h.string Tryz.underlying9
theorem qhe {cs:List Value} (h:Opn enc Tryz.prog W 66 cs):∃ t:TM,cs=encT t∧InR .i64 t.kind∧hvT t≤20+3*140737488355328:=by
 obtain ⟨hl,hf⟩:=Opn.fields Tryz.underlying66 h;rw [qj3] at hl
 match cs,hl with
 | [c0,c1,c2,c3],_=>
  have g0:Opn enc Tryz.prog W 3 (([c0,c1,c2,c3].drop 0).take (Tryz.prog.cellsOf 3)):=hf 0 _ rfl;rw [q3o] at g0;have g1:Opn enc Tryz.prog W 9 (([c0,c1,c2,c3].drop 1).take (Tryz.prog.cellsOf 9)):=hf 1 _ rfl;rw [qmy] at g1;have g2:Opn enc Tryz.prog W 9 (([c0,c1,c2,c3].drop 2).take (Tryz.prog.cellsOf 9)):=hf 2 _ rfl;rw [qmy] at g2;have g3:Opn enc Tryz.prog W 9 (([c0,c1,c2,c3].drop 3).take (Tryz.prog.cellsOf 9)):=hf 3 _ rfl;rw [qmy] at g3;obtain ⟨n0,rfl,k0⟩:=Opn.int (c:=c0) Tryz.underlying3 g0;obtain ⟨n1,rfl,k1⟩:=qnx (c:=c1) g1;obtain ⟨n2,rfl,k2⟩:=qnx (c:=c2) g2;obtain ⟨n3,rfl,k3⟩:=qnx (c:=c3) g3;exact ⟨⟨n0,n1,n2,n3⟩,rfl,qzs k0,by show 20+n1.size+n2.size+n3.size≤_;omega⟩
def QdOk (q:Q4):Prop:=(∀ k,InR .i64 (q.at k).kind)∧hvQ q≤1152921504606846976
theorem q0v {cs:List Value} (h:Opn enc Tryz.prog W 68 cs):∃ q:Q4,cs=qah q∧QdOk q:=by
 obtain ⟨hl,hf⟩:=Opn.fields Tryz.underlying68 h;rw [qyp] at hl
 match cs,hl with
 | [a0,a1,a2,a3,b0,b1,b2,b3,c0,c1,c2,c3,d0,d1,d2,d3],_=>
  have g0:Opn enc Tryz.prog W 66 (([a0,a1,a2,a3,b0,b1,b2,b3,c0,c1,c2,c3,d0,d1,d2,d3].drop 0).take (Tryz.prog.cellsOf 66)):=hf 0 _ rfl;rw [qj3] at g0;have g1:Opn enc Tryz.prog W 66 (([a0,a1,a2,a3,b0,b1,b2,b3,c0,c1,c2,c3,d0,d1,d2,d3].drop 4).take (Tryz.prog.cellsOf 66)):=hf 1 _ rfl;rw [qj3] at g1;have g2:Opn enc Tryz.prog W 66 (([a0,a1,a2,a3,b0,b1,b2,b3,c0,c1,c2,c3,d0,d1,d2,d3].drop 8).take (Tryz.prog.cellsOf 66)):=hf 2 _ rfl;rw [qj3] at g2;have g3:Opn enc Tryz.prog W 66 (([a0,a1,a2,a3,b0,b1,b2,b3,c0,c1,c2,c3,d0,d1,d2,d3].drop 12).take (Tryz.prog.cellsOf 66)):=hf 3 _ rfl;rw [qj3] at g3;obtain ⟨t0,e0,k0,m0⟩:=qhe (cs:=[a0,a1,a2,a3]) g0;obtain ⟨t1,e1,k1,m1⟩:=qhe (cs:=[b0,b1,b2,b3]) g1;obtain ⟨t2,e2,k2,m2⟩:=qhe (cs:=[c0,c1,c2,c3]) g2;obtain ⟨t3,e3,k3,m3⟩:=qhe (cs:=[d0,d1,d2,d3]) g3;simp only [encT,List.cons.injEq] at e0 e1 e2 e3;obtain ⟨rfl,rfl,rfl,rfl,_⟩:=e0;obtain ⟨rfl,rfl,rfl,rfl,_⟩:=e1;obtain ⟨rfl,rfl,rfl,rfl,_⟩:=e2;obtain ⟨rfl,rfl,rfl,rfl,_⟩:=e3;refine ⟨⟨t0,t1,t2,t3⟩,rfl,fun k=>?_,by show hvT t0+hvT t1+hvT t2+hvT t3≤_;omega⟩
  match k with
  | 0=>exact k0
  | 1=>exact k1
  | 2=>exact k2
  | k+3=>exact k3
noncomputable instance:Inhabited Q4:=⟨awQ⟩
theorem qws {c:Value} (h:Opn enc Tryz.prog W 22 [c]) :
  ∃ (A:oA) (cap:Nat) (l:List Q4),c=.slice A l.length cap∧l.length≤140737488355328∧(∀ q∈l,QdOk q)∧SlAt qah 16 W A l:=by
 obtain ⟨A,cap,l,h1,h2,h3,h4,h5⟩:=h.sliceR (en:=qah) (R:=QdOk) (size:=16) Tryz.underlying22 qyp Od qqe (fun cs hc=>q0v hc);rw [q8b] at h3;exact ⟨A,cap,l,h1,by omega,h4,h5⟩
end
theorem q85 {W:World} (h:W.ShapedOpen Tryz.prog):MaxLenAt W:=
 cell_of_shapedOpen_int (zero:=#[ii 0]) (t:=3) (k:=.i64) h (of_decide_eq_true Jk) Jk rfl Jk Jk Tryz.underlying3
def tabs:List (String × DataW Unit):=[("unicode/utf8.acceptRanges",Rows.laid_unicode_utf8_acceptRanges),("tessera/sums.nibbles",Rows.laid_tessera_sums_nibbles),("tessera/names.basesTable",Rows.laid_tessera_names_basesTable),("tessera/vocab.kinds",Rows.laid_tessera_vocab_kinds),("unicode/utf8.first",Rows.laid_unicode_utf8_first)]
def q82:List (String × DataW Unit):=[("unicode/utf8.acceptRanges",Rows.laid_unicode_utf8_acceptRanges),("errors.errorType",Rows.laid_errors_errorType),("tessera/sums.nibbles",Rows.laid_tessera_sums_nibbles),("tessera/names.basesTable",Rows.laid_tessera_names_basesTable),("tessera/vocab.kinds",Rows.laid_tessera_vocab_kinds),("unicode/utf8.first",Rows.laid_unicode_utf8_first)]
theorem qab8 {W:World} (h:laidMetH Tryz.prog q82 W):laidMet Tryz.prog tabs W∧handlesMet Tryz.prog [("errors.errorType",Rows.laid_errors_errorType)] W:=h
theorem qac5 {W:World} (h:laidMet Tryz.prog tabs W):CellsAt W 6 0 qa4:=
 qnk (name:= "tessera/names.basesTable") (k:=.i32) (zs:=[192,214,216,246,248,767,880,893,895,8191,8204,8205,8304,8591,11264,12271,12289,55295,63744,64975,65008,65533,65536,983039]) (l:=tabs) (g:=6) (t:=387) (e:=21) (n:=24)
  Jk Jk Tryz.underlying387 Tryz.underlying21 Jk Jk h (zmc (zmc mh))
theorem q4l {W:World} (h:laidMet Tryz.prog tabs W):CellsAt W 1 0 qjb:=
 qnk (name:= "tessera/sums.nibbles") (k:=.u32) (zs:=nibs.map fun n:Nat=>(n:Int)) (l:=tabs) (g:=1) (t:=242) (e:=45) (n:=16)
  Jk Jk Tryz.underlying242 Tryz.underlying45 Jk Jk h (zmc mh)
theorem qab6 {W:World} (h:laidMet Tryz.prog tabs W):qe6 W:=
 qnk (name:= "tessera/vocab.kinds") (k:=.i64) (zs:=[1,2,3]) (l:=tabs) (g:=0) (t:=129) (e:=3) (n:=3)
  Jk Jk Tryz.underlying129 Tryz.underlying3 Jk Jk h (zmc (zmc (zmc mh)))
theorem etL:Tryz.prog.globalNamed "errors.errorType" = some 2:=by kernel_rfl
theorem rtL:(Tryz.prog.cutTypes.find? (·.1== "internal/reflectlite.rtype")).map (·.2)=some 308:=by kernel_rfl
theorem q9g:((List.range Tryz.prog.types.size).filter fun t=>Tryz.prog.rowNamed t [101,114,114,111,114])=[37]:=by kernel_rfl
theorem q8q {W:World} (h:handlesMet Tryz.prog [("errors.errorType",Rows.laid_errors_errorType)] W):ErrTyp W:=by
 obtain ⟨name,u,ty,e1,e2,e3,e4,e5⟩:=h _ (List.mem_singleton.2 rfl);have en:name=[101,114,114,111,114]:=(Option.some.inj e1).symm;subst en;obtain rfl:=Option.some.inj (rtL.symm.trans e2);have hm:ty∈(List.range Tryz.prog.types.size).filter fun t=>Tryz.prog.rowNamed t [101,114,114,111,114]:=List.mem_filter.2 ⟨List.mem_range.2 e3,e4⟩
 rw [q9g] at hm;obtain rfl:=List.mem_singleton.1 hm;have hh:typeHandle Tryz.prog 37=.pointer (some ⟨7,37,none⟩):=by kernel_rfl
 rw [hh] at e5;have hc:=World.var?_cell etL e5 0;unfold ErrTyp
 simpa using hc
theorem qadk {W:World} (h:laidMetH Tryz.prog q82 W) (hsh:W.ShapedOpen Tryz.prog):Glob W:=
 have hp:=qab8 h
 ⟨q85 hsh,qac5 hp.1,q4l hp.1,q8q hp.2,qab6 hp.1⟩
noncomputable def witP (os:Os):World:=
 let w0:=qab9 os [(5,Rows.laid_unicode_utf8_acceptRanges),(1,Rows.laid_tessera_sums_nibbles),(6,Rows.laid_tessera_names_basesTable),(0,Rows.laid_tessera_vocab_kinds),(4,Rows.laid_unicode_utf8_first)]
 { w0 with heap:=w0.heap.modify 2 fun
   | .cells _ t frozen=>.cells #[.iface 308 (.agg #[.pointer (some ⟨7,37,none⟩)])] t frozen
   | o=>o }
theorem andT {a b:Bool} (h:a=true) (k:b=true):(a&&b)=true:=by rw [h,k];rfl
open Go.RowKit V
theorem qul {s:ByteArray} (h:iriE s=0):s.size≤65536:=by
 unfold iriE at h
 by_cases h0:refE s≠0
 ·rw [if_pos h0] at h;exact absurd h h0
 ·have h1:refE s=0:=by omega
  unfold refE at h1
  by_cases h2:65536<s.size
  ·rw [if_pos h2] at h1;cases h1
  ·omega
theorem qze {t:TM} (h:qba t=0):(qab t).length≤262144:=by
 have hd:∀ s:ByteArray,s.data.toList.length=s.size:=fun s=>rfl
 unfold qba at h
 by_cases h12:t.kind=1∨t.kind=2
 ·rw [if_pos h12] at h;have he:qab t=t.text.data.toList:=by rw [qab,if_neg Oo]
  rw [he,hd]
  by_cases h0:seq t.type ⟨#[]⟩=false∨seq t.lang ⟨#[]⟩=false
  ·rw [if_pos h0] at h;cases h
  rw [if_neg h0] at h
  by_cases h1:t.kind=1
  ·rw [if_pos h1] at h;have:=qul h;omega
  ·rw [if_neg h1] at h
   by_cases h2:65536<t.text.size
   ·rw [if_pos h2] at h;cases h
   ·omega
 ·rw [if_neg h12] at h
  by_cases h3:t.kind=3
  case neg=>rw [if_neg h3] at h;cases h
  rw [if_pos h3] at h;have he:(qab t).length=(escL t.text.data.toList).length+(2+(t.type.size+(1+t.lang.size))):=by
   rw [qab,if_pos h3];simp only [zla,List.length_cons,List.length_nil,hd]
  have hes:=quf t.text.data.toList;rw [hd] at hes;unfold litE at h
  by_cases c1:65536<t.text.size
  ·rw [if_pos c1] at h;cases h
  rw [if_neg c1] at h
  by_cases c2:scal t.text.data.toList=none
  ·rw [if_pos c2] at h;cases h
  rw [if_neg c2] at h
  by_cases c3:iriE t.type≠0
  ·rw [if_pos c3] at h;exact absurd h c3
  rw [if_neg c3] at h;have hty:=qul (s:=t.type) Oo
  by_cases c4:seq t.lang ⟨#[]⟩=false∧65536<t.lang.size
  ·rw [if_pos c4] at h;cases h
  rw [if_neg c4] at h
  by_cases c5:seq t.lang ⟨#[]⟩=false∧(tagE (qdd t.lang)≠0∨seq (lowS t.lang) t.lang=false)
  ·rw [if_pos c5] at h;cases h
  rw [if_neg c5] at h
  by_cases c6:(!seq t.lang ⟨#[]⟩)≠seq t.type qi9
  ·rw [if_pos c6] at h;cases h
  have c6:(!seq t.lang ⟨#[]⟩)=seq t.type qi9:=Classical.not_not.1 c6;cases hl:seq t.lang ⟨#[]⟩
  ·rw [hl] at c6;have e:=qae.1 c6.symm;have:t.type.size=53:=by rw [e];rfl
   have:¬ 65536<t.lang.size:=fun g=>c4 ⟨hl,g⟩
   omega
  ·have e:=qae.1 hl;have:t.lang.size=0:=by rw [e];rfl
   omega
section
variable {T:List TM} (hr:RiseT T) (hn:T.length≤4194304) (ht:∀ t∈T,qba t=0)
include hr hn ht
theorem qm2 (k:Nat):dicE (secE T k)=0∨dicE (secE T k)=1:=by
 have hm:∀ i,i<(secE T k).length→∃ t,(ofK T k)[i]?=some t∧tx (secE T k) i=qab t∧t∈T∧t.kind=((k+1:Nat):Int):=fun i hi=>by
  rw [qb6,List.length_map] at hi;have h1:(ofK T k)[i]?=some (ofK T k)[i]:=zge hi;refine ⟨_,h1,?_,(List.mem_filter.1 (List.getElem_mem hi)).1,qhd (List.getElem_mem hi)⟩;rw [tx,List.getD_eq_getElem?_getD,qb6,List.getElem?_map,h1];rfl
 have hl:(secE T k).length≤4194304:=by
  rw [qb6,List.length_map];exact Nat.le_trans (List.length_filter_le _ _) hn
 have h2:∀ i,¬ 262144<(tx (secE T k) i).length:=fun i=>by
  by_cases hi:i<(secE T k).length
  ·obtain ⟨t,_,e,h1,_⟩:=hm i hi;rw [e];have:=qze (ht t h1);omega
  ·rw [tx,List.getD_eq_getElem?_getD,List.getElem?_eq_none Oo];show ¬ 262144<([]:LB).length
   decide
 have h3:∀ i,i+1<(secE T k).length→leL (tx (secE T k) (i+1)) (tx (secE T k) i)=false:=fun i hi=>by
  obtain ⟨a,a1,a2,a3,a4⟩:=hm i Oo;obtain ⟨b,b1,b2,b3,b4⟩:=hm (i+1) hi;have hlt:=que (ht a a3) (ht b b3) (by rw [a4,b4]) ((qjs hr k).at (Nat.lt_succ_self i) a1 b1);rw [a2,b2,leL,Bool.or_eq_false_iff]
  constructor
  ·cases hs:slt ⟨(qab b).toArray⟩ ⟨(qab a).toArray⟩
   ·rfl
   ·exact absurd (List.lt_trans hlt (qcy.1 hs)) (List.lt_irrefl _)
  ·cases hs:seq ⟨(qab b).toArray⟩ ⟨(qab a).toArray⟩
   ·rfl
   ·have:=qae.1 hs;have e:qab b=qab a:=by
     have:=congrArg (fun x:ByteArray=>x.data.toList) this
     simpa using this
    rw [e] at hlt;exact absurd hlt (List.lt_irrefl _)
 by_cases h4:67108864<(qal (secE T k)).length
 ·exact .inr (qy1 Oo h2 h3 h4)
 ·exact .inl (qj7 ⟨hl,fun i=>by have:=h2 i;omega,h3,by omega⟩)
theorem q2w:qcv T=0∨qcv T=1:=by
 rcases qm2 hr hn ht 0 with h0|h0
 ·rcases qm2 hr hn ht 1 with h1|h1
  ·rcases qm2 hr hn ht 2 with h2|h2
   ·exact .inl (qjy fun k hk=>by
     rcases (show k=0∨k=1∨k=2 by omega) with rfl|rfl|rfl
     ·exact h0
     ·exact h1
     ·exact h2)
   ·rw [qcv,if_neg (fun g=>g h0),if_neg (fun g=>g h1)];exact .inr h2
  ·rw [qcv,if_neg (fun g=>g h0),if_pos (by rw [h1];decide)];exact .inr h1
 ·rw [qcv,if_pos (by rw [h0];decide)];exact .inr h0
end
theorem q3u {qs:List Q4} {most:Int} (h:valE qs=0) (hn:(tmsQ qs).length≤4194304):encE qs most=0∨encE qs most=1:=by
 rcases q2w (qfn qs) hn (fun t ht=>(qd8 h ht).1) with h1|h1
 ·by_cases h2:most<((pkB qs).length:Int)∨67108864<(pkB qs).length
  ·exact .inr (qg1 h h1 h2)
  ·exact .inl (qkb h h1 h2)
 ·exact .inr (by rw [quc h Oo,h1])
theorem qy9 {qs:List Q4} {m1 m2:Int} (h:encE qs m1=0):(((pkB qs).length:Int)≤m2→encE qs m2=0)∧(m2<((pkB qs).length:Int)→encE qs m2=1):=by
 obtain ⟨h1,h2,_,h4⟩:=qe7 h;exact ⟨fun g=>qkb h1 h2 Oo,fun g=>qg1 h1 h2 (.inl g)⟩
theorem qyb {b:LB} (h:(poE b).2=0):pkB (qsP b)=b∧valE (qsP b)=0∧encE (qsP b) (b.length:Nat)=0:=by
 have he:=q8g h;have e1:pkB (qsP b)=b:=by rw [← he.pk];exact (qyo h).symm
 exact ⟨e1,he.val,he.encE (by rw [e1];exact Int.le_refl _)⟩
theorem qp8 (qs:List Q4) (A B:oA) (n c c2:Nat) (most:Int) (b:LB) (w:World) (hS:SlAt qah 16 w A qs) (hn:qs.length=n) (hb:n≤140737488355328) (hmo:InR .i64 most)
  (hB:SlAt encB 1 w B b) (hb2:b.length≤140737488355328) (hc2:b.length≤c2)
  (hk:∀ q∈qs,∀ k,InR .i64 (q.at k).kind) (hz:∀ q∈qs,hvQ q≤1152921504606846976) (hG:Glob w) :
  Gv Tryz.prog 4 [.slice A n c,ii most,.slice B b.length c2] w fun r w'=>r=.bool true∧Ext w w':=by
 refine ze Tryz.func4 Tryz.ntmps4 ?_;refine zcv (qya w hG.M hG.T hG.N hG.G hG.K) ?_;rintro r w1 ⟨rfl,he1⟩;refine zu ?_;refine zcv (qzr qs A n c w1 (hS.ext he1) hn hb hz) ?_;rintro r w2 ⟨h,rfl,hh,he2⟩;have he2:=he1.trans he2;cases h with
 | true=>
  refine zu ?_;exact ⟨rfl,he2⟩
 | false=>
 have hh:=hh rfl;have hqo:=qadl hk hh;have hqn:=hv_n hh;refine zu ?_;have hG2:=hG.ext he2;refine zcv (qhw qs A n c w2 (hS.ext he2) hn hb hqo hG2.M hG2.T) ?_;rintro r w3 ⟨⟨vi,rfl⟩,he3⟩;have he3:=he2.trans he3;have hG3:=hG.ext he3;(conv=>whnf);refine zcv (qd0 qs A n c 1073741824 w3 (hS.ext he3) hn hb ⟨by decide,by decide⟩ hqo hG3.M hG3.T hG3.N hG3.G) ?_;rintro r w4 hE
 by_cases hv:valE qs=0
 case neg=>
  rcases hE with ⟨h0,rfl,he4⟩|⟨h0,_⟩
  ·have e1:=qub (most:=1073741824) hv;rw [e1];refine zu ?_;exact ⟨rfl,he3.trans he4⟩
  ·exact absurd (qe7 h0).1 hv
 have hnt:=qok hv;rw [hv]
 rcases hE with ⟨h0,rfl,he4⟩|⟨h0,v,rfl,hN4⟩
 ·have e1:encE qs 1073741824=1:=(q3u hv hnt).resolve_left h0;rw [e1];refine zu ?_;exact ⟨rfl,he3.trans he4⟩
 obtain ⟨Ab,cb,ev,hcb,hSb⟩:=hN4.bs;subst ev;have he4:=he3.trans hN4.ext;have hG4:=hG.ext he4;obtain ⟨hm1,hm2⟩:=qy9 (m2:=most) h0;obtain ⟨_,_,_,hpl⟩:=qe7 h0;refine zu ?_;refine zcv (qfv (pkB qs) Ab cb w4 hSb hcb Oo hG4.N hG4.G hG4.M hG4.T hG4.K) ?_;rintro r w5 (⟨h1,_⟩|⟨_,A5,c5,rfl,hR5⟩)
 ·rw [q69 h0] at h1;exact absurd rfl h1
 have hS5:=qt6 hR5;rw [qacr h0] at hS5;have en:=pk_n h0;rw [hn] at en;rw [en];have he5:=he4.trans hR5.mem.ext;have hG5:=hG.ext he5;have hSb5:=hSb.ext hR5.mem.ext;(conv=>whnf);refine zcv (qd0 qs A n c most w5 (hS.ext he5) hn hb hmo hqo hG5.M hG5.T hG5.N hG5.G) ?_;rintro r w6 (⟨h1,rfl,he6'⟩|⟨h1,v,rfl,hN6⟩)
 ·have hlm:most<((pkB qs).length:Int):=by
   refine Classical.byContradiction fun g=>?_;exact h1 (hm1 Oo)
  rw [hm2 hlm];have he6:=he5.trans he6';have hsame:=qeq qs A A5 c c5 w6 (hS.ext he6) (hS5.ext he6') Oo;rw [hn] at hsame;refine zu ?_;refine zcv (hsame) ?_;rintro r w7 ⟨rfl,he7'⟩;have he7:=he6.trans he7';refine zu ?_;have hG7:=hG.ext he7;refine zcv (qfv b B c2 w7 (hB.ext he7) hc2 hb2 hG7.N hG7.G hG7.M hG7.T hG7.K) ?_;rintro r w8 (⟨hb0,he8,ev8,rfl,be8,rfl,hbe8⟩|⟨hb0,A8,c8,rfl,hR8⟩)
  ·refine zu ?_;exact ⟨rfl,he7.trans he8⟩
  obtain ⟨k1,k2,k3⟩:=qyb hb0;have hS8:=qt6 hR8;have hq8:∀ q∈qsP b,qe0 q:=fun q hq=>by
   obtain ⟨i,_,rfl⟩:=qu7 hq;exact qsd _ _
  obtain ⟨n8,en8⟩:∃ n8,n8=vNum (qe b) 3:=⟨_,rfl⟩
  have hn8:(qsP b).length=n8:=by rw [en8];exact qfj b
  have hb8:n8≤140737488355328:=by have:=(qdh k2).1;omega
  rw [← en8];have he8:=he7.trans hR8.mem.ext;have hG8:=hG.ext he8;refine zu ?_;refine zcv (qhw (qsP b) A8 n8 c8 w8 hS8 hn8 hb8 hq8 hG8.M hG8.T) ?_;rintro r w9 ⟨⟨vi2,rfl⟩,he9⟩;rw [k2];have hS9:=hS8.ext he9;have he9:=he8.trans he9;have hG9:=hG.ext he9;(conv=>whnf);refine zcv (qd0 (qsP b) A8 n8 c8 (b.length:Nat) w9 hS9 hn8 hb8 ⟨by show (-9223372036854775808:Int)≤_;omega,by show _≤(9223372036854775807:Int);omega⟩ hq8 hG9.M hG9.T hG9.N hG9.G) ?_;rintro r w10 (⟨h10,_⟩|⟨_,v10,rfl,hN10⟩)
  ·exact absurd k3 h10
  obtain ⟨A10,c10,e10,hc10,hS10⟩:=hN10.bs;subst e10;rw [k1] at hS10 ⊢;have he10:=he9.trans hN10.ext;refine zu ?_;refine BytesS.sl hS10 rfl (zu ?_);refine BytesS.sl (hB.ext he10) rfl (zu ?_);exact ⟨congrArg Value.bool (qae.2 rfl),he10⟩
 ·obtain ⟨A6,c6,e6,hc6,hS6⟩:=hN6.bs;subst e6;have hlm:((pkB qs).length:Int)≤most:=by
   refine Classical.byContradiction fun g=>?_;rw [hm2 Oo] at h1;cases h1
  have he6:=he5.trans hN6.ext;have hsame:=qeq qs A A5 c c5 w6 (hS.ext he6) (hS5.ext hN6.ext) Oo;rw [hn] at hsame;refine zu ?_;refine zcv (hsame) ?_;rintro r w7 ⟨rfl,he7'⟩;have he7:=he6.trans he7';refine zu ?_;refine BytesS.sl (hS6.ext he7') rfl (zu ?_);refine BytesS.sl (hSb5.ext (hN6.ext.trans he7')) rfl (zu ?_);refine Tst.yes (qae.2 rfl) (zu ?_);have hG7:=hG.ext he7;refine zcv (qfv b B c2 w7 (hB.ext he7) hc2 hb2 hG7.N hG7.G hG7.M hG7.T hG7.K) ?_;rintro r w8 (⟨hb0,he8,ev8,rfl,be8,rfl,hbe8⟩|⟨hb0,A8,c8,rfl,hR8⟩)
  ·refine zu ?_;exact ⟨rfl,he7.trans he8⟩
  obtain ⟨k1,k2,k3⟩:=qyb hb0;have hS8:=qt6 hR8;have hq8:∀ q∈qsP b,qe0 q:=fun q hq=>by
   obtain ⟨i,_,rfl⟩:=qu7 hq;exact qsd _ _
  obtain ⟨n8,en8⟩:∃ n8,n8=vNum (qe b) 3:=⟨_,rfl⟩
  have hn8:(qsP b).length=n8:=by rw [en8];exact qfj b
  have hb8:n8≤140737488355328:=by have:=(qdh k2).1;omega
  rw [← en8];have he8:=he7.trans hR8.mem.ext;have hG8:=hG.ext he8;refine zu ?_;refine zcv (qhw (qsP b) A8 n8 c8 w8 hS8 hn8 hb8 hq8 hG8.M hG8.T) ?_;rintro r w9 ⟨⟨vi2,rfl⟩,he9⟩;rw [k2];have hS9:=hS8.ext he9;have he9:=he8.trans he9;have hG9:=hG.ext he9;(conv=>whnf);refine zcv (qd0 (qsP b) A8 n8 c8 (b.length:Nat) w9 hS9 hn8 hb8 ⟨by show (-9223372036854775808:Int)≤_;omega,by show _≤(9223372036854775807:Int);omega⟩ hq8 hG9.M hG9.T hG9.N hG9.G) ?_;rintro r w10 (⟨h10,_⟩|⟨_,v10,rfl,hN10⟩)
  ·exact absurd k3 h10
  obtain ⟨A10,c10,e10,hc10,hS10⟩:=hN10.bs;subst e10;rw [k1] at hS10 ⊢;have he10:=he9.trans hN10.ext;refine zu ?_;refine BytesS.sl hS10 rfl (zu ?_);refine BytesS.sl (hB.ext he10) rfl (zu ?_);exact ⟨congrArg Value.bool (qae.2 rfl),he10⟩
end Go.Proofs.YtkienlambankeaaGreatDoor
