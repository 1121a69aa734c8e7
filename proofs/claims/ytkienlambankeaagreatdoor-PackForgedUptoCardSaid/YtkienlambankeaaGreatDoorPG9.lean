/- Lemmas and contracts of functions on the way to the law's card (part 9 of 10). -/
import Derived.Test.YtkienlambankeaaGreatDoorPG8
import Derived.Lib.LaidTab
import Derived.Test.YtkienlambankeaaGreatDoorRows
import Derived.Deep.DeepHandedRow
import Derived.ProofKit
import Derived.OpenShut
import Derived.LaidHandle
import Derived.Shelf.Vars
namespace Go.Proofs.YtkienlambankeaaGreatDoor
set_option maxHeartbeats 8000000
open Go.RowKit
namespace V
theorem qu0 {P:Program} {w:World}:∀ {l:List (String × DataW Unit)} {ps:List MemPlace},DataW.LaidVars P w l ps→∀ {n:String} {d:DataW Unit},(n,d)∈l→
  ∃ g t cs fuel p,P.globalNamed n=some g∧(P.globals[g]?).map (·.type)=some t∧w.var? P n=some cs∧DataW.trod (fun _=>()) P w 0 (fun _=>true) false fuel t cs.toList=some (d,p)
 | [],_,_,_,_,h=>by cases h
 | (n0,d0)::r,ps,h,n,d,hm=>by
  obtain ⟨g,t,cs,fuel,p,q,h1,h2,h3,h4,h5,_⟩:=h
  rcases List.mem_cons.1 hm with e|hm
  ·cases e;exact ⟨g,t,cs,fuel,p,h1,h2,h3,h4⟩
  ·exact qu0 h5 hm
theorem qnr {P:Program} {W:World} {name:String} {k:IntKind} {zs:List Int} {l:List (String × DataW Unit)} {g:Nat} {t e:TypeId} {n:Nat}
  (hg:P.globalNamed name=some g) (hty:(P.globals[g]?).map (·.type)=some t) (ht:P.underlying t=some (.array n e)) (he:P.underlying e=some (.int k)) (hce:P.cellsOf e=1) (hct:P.cellsOf t=n)
  (h:laidMet P l W) (hm:(name,Lib.tabData k zs)∈l):CellsAt W g 0 (zs.map fun z=>Value.int k z):=by
 obtain ⟨ps,h,_⟩:=h;obtain ⟨g',t',cs,fuel,p,hg',ht',hvar,hd⟩:=qu0 h hm;obtain rfl:=Option.some.inj (hg.symm.trans hg');obtain rfl:=Option.some.inj (hty.symm.trans ht');have hT:Lib.TabIs P W name k zs:=by
  unfold Lib.TabIs;rw [hvar,← Lib.cells_of_tab ht he hce hct hd]
 intro i v hv;have hi:i<zs.length:=by simpa using (List.getElem?_eq_some_iff.1 hv).1
 have:=hT.cell hg i hi;rw [Nat.zero_add,this];rw [List.getElem?_map,zge hi] at hv;rw [List.getD_eq_getElem?_getD,zge hi]
 simpa using hv
end V
open Go.ChangeShapes Go.WideShapes Go.ChangeAt Go.RowKit
theorem own:ownKnob Tryz.prog.godebug=none:=by kernel_rfl
theorem q4p:laidOutB Tryz.prog=true:=by kernel_rfl
mutual
def q60:DataW Unit→List Value
 | .lit (.int k n)=>[.int k n]
 | .agg l=>cellsDs l
 | _=>[]
def cellsDs:List (DataW Unit)→List Value
 | []=>[]
 | d::l=>q60 d++cellsDs l
end
def qac8 (w:World) (x:Nat × DataW Unit):World:=
 { w with heap:=w.heap.modify x.1 fun
   | .cells _ t frozen=>.cells (q60 x.2).toArray t frozen
   | o=>o }
noncomputable def qac7 (os:Os) (l:List (Nat × DataW Unit)):World:=l.foldl qac8 (World.holding Tryz.prog os ⟨#[],#[],[]⟩)
open Go.ChangeShapes Go.WideShapes Go.ChangeAt Go.RowKit V
set_option maxRecDepth 100000
theorem qj3:Tryz.prog.cellsOf 66=4:=by kernel_rfl
theorem qyx:Tryz.prog.cellsOf 68=16:=by kernel_rfl
theorem q8r:Tryz.prog.bytesOf 68=224:=by kernel_rfl
section
variable {H:Type} {enc:TypeId × Value→H} {W:World}
theorem qn6 {c:Value} (h:Opn enc Tryz.prog W 9 [c]):∃ s:ByteArray,c=.string s∧s.size≤140737488355328:=h.string Tryz.underlying9
theorem qhb {cs:List Value} (h:Opn enc Tryz.prog W 66 cs):∃ t:TM,cs=encT t∧InR .i64 t.kind∧hvT t≤20+3*140737488355328:=by
 obtain ⟨hl,hf⟩:=Opn.fields Tryz.underlying66 h;rw [qj3] at hl
 match cs,hl with
 | [c0,c1,c2,c3],_=>
  have g0:Opn enc Tryz.prog W 3 (([c0,c1,c2,c3].drop 0).take (Tryz.prog.cellsOf 3)):=hf 0 _ rfl;rw [qm3] at g0;have g1:Opn enc Tryz.prog W 9 (([c0,c1,c2,c3].drop 1).take (Tryz.prog.cellsOf 9)):=hf 1 _ rfl;rw [qm4] at g1;have g2:Opn enc Tryz.prog W 9 (([c0,c1,c2,c3].drop 2).take (Tryz.prog.cellsOf 9)):=hf 2 _ rfl;rw [qm4] at g2;have g3:Opn enc Tryz.prog W 9 (([c0,c1,c2,c3].drop 3).take (Tryz.prog.cellsOf 9)):=hf 3 _ rfl;rw [qm4] at g3;obtain ⟨n0,rfl,k0⟩:=Opn.int (c:=c0) Tryz.underlying3 g0;obtain ⟨n1,rfl,k1⟩:=qn6 (c:=c1) g1;obtain ⟨n2,rfl,k2⟩:=qn6 (c:=c2) g2;obtain ⟨n3,rfl,k3⟩:=qn6 (c:=c3) g3;exact ⟨⟨n0,n1,n2,n3⟩,rfl,qqe k0,by show 20+n1.size+n2.size+n3.size≤_;omega⟩
def QdOk (q:Q4):Prop:=(∀ k,InR .i64 (q.at k).kind)∧hvQ q≤1152921504606846976
theorem q02 {cs:List Value} (h:Opn enc Tryz.prog W 68 cs):∃ q:Q4,cs=qak q∧QdOk q:=by
 obtain ⟨hl,hf⟩:=Opn.fields Tryz.underlying68 h;rw [qyx] at hl
 match cs,hl with
 | [a0,a1,a2,a3,b0,b1,b2,b3,c0,c1,c2,c3,d0,d1,d2,d3],_=>
  have g0:Opn enc Tryz.prog W 66 (([a0,a1,a2,a3,b0,b1,b2,b3,c0,c1,c2,c3,d0,d1,d2,d3].drop 0).take (Tryz.prog.cellsOf 66)):=hf 0 _ rfl;rw [qj3] at g0;have g1:Opn enc Tryz.prog W 66 (([a0,a1,a2,a3,b0,b1,b2,b3,c0,c1,c2,c3,d0,d1,d2,d3].drop 4).take (Tryz.prog.cellsOf 66)):=hf 1 _ rfl;rw [qj3] at g1;have g2:Opn enc Tryz.prog W 66 (([a0,a1,a2,a3,b0,b1,b2,b3,c0,c1,c2,c3,d0,d1,d2,d3].drop 8).take (Tryz.prog.cellsOf 66)):=hf 2 _ rfl;rw [qj3] at g2;have g3:Opn enc Tryz.prog W 66 (([a0,a1,a2,a3,b0,b1,b2,b3,c0,c1,c2,c3,d0,d1,d2,d3].drop 12).take (Tryz.prog.cellsOf 66)):=hf 3 _ rfl;rw [qj3] at g3;obtain ⟨t0,e0,k0,m0⟩:=qhb (cs:=[a0,a1,a2,a3]) g0;obtain ⟨t1,e1,k1,m1⟩:=qhb (cs:=[b0,b1,b2,b3]) g1;obtain ⟨t2,e2,k2,m2⟩:=qhb (cs:=[c0,c1,c2,c3]) g2;obtain ⟨t3,e3,k3,m3⟩:=qhb (cs:=[d0,d1,d2,d3]) g3;simp only [encT,List.cons.injEq] at e0 e1 e2 e3;obtain ⟨rfl,rfl,rfl,rfl,_⟩:=e0;obtain ⟨rfl,rfl,rfl,rfl,_⟩:=e1;obtain ⟨rfl,rfl,rfl,rfl,_⟩:=e2;obtain ⟨rfl,rfl,rfl,rfl,_⟩:=e3;refine ⟨⟨t0,t1,t2,t3⟩,rfl,fun k=>?_,by show hvT t0+hvT t1+hvT t2+hvT t3≤_;omega⟩
  match k with
  | 0=>exact k0
  | 1=>exact k1
  | 2=>exact k2
  | k+3=>exact k3
noncomputable instance:Inhabited Q4:=⟨awQ⟩
theorem qabu {c:Value} (h:Opn enc Tryz.prog W 22 [c]) :
  ∃ (A:oA) (cap:Nat) (l:List Q4),c=.slice A l.length cap∧l.length≤140737488355328∧(∀ q∈l,QdOk q)∧SlAt qak 16 W A l:=by
 obtain ⟨A,cap,l,h1,h2,h3,h4,h5⟩:=h.sliceR (en:=qak) (R:=QdOk) (size:=16) Tryz.underlying22 qyx Od qqv (fun cs hc=>q02 hc);rw [q8r] at h3;exact ⟨A,cap,l,h1,by omega,h4,h5⟩
end
theorem q9o {W:World} (h:W.ShapedOpen Tryz.prog):MaxLenAt W:=
 cell_of_shapedOpen_int (zero:=#[ii 0]) (t:=3) (k:=.i64) h (of_decide_eq_true Jk) Jk rfl Jk Jk Tryz.underlying3
def tabs:List (String × DataW Unit):=[("unicode/utf8.acceptRanges",Rows.laid_unicode_utf8_acceptRanges),("tessera/sums.nibbles",Rows.laid_tessera_sums_nibbles),("tessera/names.basesTable",Rows.laid_tessera_names_basesTable),("tessera/vocab.kinds",Rows.laid_tessera_vocab_kinds),("unicode/utf8.first",Rows.laid_unicode_utf8_first)]
def q9l:List (String × DataW Unit):=[("unicode/utf8.acceptRanges",Rows.laid_unicode_utf8_acceptRanges),("errors.errorType",Rows.laid_errors_errorType),("tessera/sums.nibbles",Rows.laid_tessera_sums_nibbles),("tessera/names.basesTable",Rows.laid_tessera_names_basesTable),("tessera/vocab.kinds",Rows.laid_tessera_vocab_kinds),("unicode/utf8.first",Rows.laid_unicode_utf8_first)]
theorem qac6 {W:World} (h:laidMetH Tryz.prog q9l W):laidMet Tryz.prog tabs W∧handlesMet Tryz.prog [("errors.errorType",Rows.laid_errors_errorType)] W:=h
theorem qad1 {W:World} (h:laidMet Tryz.prog tabs W):CellsAt W 6 0 qa5:=
 qnr (name:= "tessera/names.basesTable") (k:=.i32) (zs:=[192,214,216,246,248,767,880,893,895,8191,8204,8205,8304,8591,11264,12271,12289,55295,63744,64975,65008,65533,65536,983039]) (l:=tabs) (g:=6) (t:=387) (e:=21) (n:=24)
  Jk Jk Tryz.underlying387 Tryz.underlying21 Jk Jk h (zmc (zmc mh))
theorem q4z {W:World} (h:laidMet Tryz.prog tabs W):CellsAt W 1 0 qjb:=
 qnr (name:= "tessera/sums.nibbles") (k:=.u32) (zs:=nibs.map fun n:Nat=>(n:Int)) (l:=tabs) (g:=1) (t:=242) (e:=45) (n:=16)
  Jk Jk Tryz.underlying242 Tryz.underlying45 Jk Jk h (zmc mh)
theorem qac4 {W:World} (h:laidMet Tryz.prog tabs W):qe5 W:=
 qnr (name:= "tessera/vocab.kinds") (k:=.i64) (zs:=[1,2,3]) (l:=tabs) (g:=0) (t:=129) (e:=3) (n:=3)
  Jk Jk Tryz.underlying129 Tryz.underlying3 Jk Jk h (zmc (zmc (zmc mh)))
theorem etL:Tryz.prog.globalNamed "errors.errorType" = some 2:=by kernel_rfl
theorem rtL:(Tryz.prog.cutTypes.find? (·.1== "internal/reflectlite.rtype")).map (·.2)=some 308:=by kernel_rfl
theorem q9z:((List.range Tryz.prog.types.size).filter fun t=>Tryz.prog.rowNamed t [101,114,114,111,114])=[37]:=by kernel_rfl
theorem q88 {W:World} (h:handlesMet Tryz.prog [("errors.errorType",Rows.laid_errors_errorType)] W):ErrTyp W:=by
 obtain ⟨name,u,ty,e1,e2,e3,e4,e5⟩:=h _ (List.mem_singleton.2 rfl);have en:name=[101,114,114,111,114]:=(Option.some.inj e1).symm;subst en;obtain rfl:=Option.some.inj (rtL.symm.trans e2);have hm:ty∈(List.range Tryz.prog.types.size).filter fun t=>Tryz.prog.rowNamed t [101,114,114,111,114]:=List.mem_filter.2 ⟨List.mem_range.2 e3,e4⟩
 rw [q9z] at hm;obtain rfl:=List.mem_singleton.1 hm;have hh:typeHandle Tryz.prog 37=.pointer (some ⟨7,37,none⟩):=by kernel_rfl
 rw [hh] at e5;have hc:=World.var?_cell etL e5 0;unfold ErrTyp
 simpa using hc
theorem qaeh {W:World} (h:laidMetH Tryz.prog q9l W) (hsh:W.ShapedOpen Tryz.prog):Glob W:=
 have hp:=qac6 h
 ⟨q9o hsh,qad1 hp.1,q4z hp.1,q88 hp.2,qac4 hp.1⟩
noncomputable def witP (os:Os):World:=
 let w0:=qac7 os [(5,Rows.laid_unicode_utf8_acceptRanges),(1,Rows.laid_tessera_sums_nibbles),(6,Rows.laid_tessera_names_basesTable),(0,Rows.laid_tessera_vocab_kinds),(4,Rows.laid_unicode_utf8_first)]
 { w0 with heap:=w0.heap.modify 2 fun
   | .cells _ t frozen=>.cells #[.iface 308 (.agg #[.pointer (some ⟨7,37,none⟩)])] t frozen
   | o=>o }
theorem andT {a b:Bool} (h:a=true) (k:b=true):(a&&b)=true:=by rw [h,k];rfl
open Go.ChangeShapes Go.WideShapes Go.RowKit
namespace V
section
variable {H:Type} {enc:TypeId × Value→H} {P:Program}
structure OpB (enc:TypeId × Value→H) (P:Program) (w:World) (t:TypeId) (cs:List Value):Prop where
 h:∃ n d ps,DataW.trod enc P w 0 (fun _=>true) true n t cs=some (d,ps)∧Rows.uptoBulk d≤1048576
theorem q3t (d:DataW H):1≤Rows.uptoBulk d:=by
 cases d with
 | lit l=>cases l<;>simp [Rows.uptoBulk]
 | nil=>simp [Rows.uptoBulk]
 | ptr d=>simp [Rows.uptoBulk]
 | slice elems spare=>simp [Rows.uptoBulk]
 | agg parts=>simp [Rows.uptoBulk]
 | iface t d=>simp [Rows.uptoBulk]
 | map entries=>simp [Rows.uptoBulk]
 | held h=>simp [Rows.uptoBulk]
theorem qmz {d:DataW H} {l:List (DataW H)} (h:d∈l):Rows.uptoBulk d≤Rows.uptoBulkAll l:=by
 induction l with
 | nil=>cases h
 | cons x r ih=>
  simp only [Rows.uptoBulkAll]
  rcases List.mem_cons.1 h with e|e
  ·subst e;omega
  ·have:=ih e;omega
theorem q3s (l:List (DataW H)):l.length≤Rows.uptoBulkAll l:=by
 induction l with
 | nil=>simp [Rows.uptoBulkAll]
 | cons x r ih=>have:=q3t x;simp only [Rows.uptoBulkAll,List.length_cons];omega
section
variable {w:World} {t:TypeId}
theorem OpB.of {ts:List TypeId} {vs:List Value} {ds:List (DataW H)} {ps:List MemPlace} (h:DataW.TrodAll enc P w 0 (fun _=>true) true ts vs ds ps) (hw:Rows.uptoBulkAll ds≤1048576) :
  ∀ (i:Nat) u v,ts[i]?=some u→vs[i]?=some v→OpB enc P w u v.cells.toList:=by
 have key:∀ (ts:List TypeId) (vs:List Value) (ds:List (DataW H)) (ps:List MemPlace),DataW.TrodAll enc P w 0 (fun _=>true) true ts vs ds ps→(∀ d∈ds,Rows.uptoBulk d≤1048576)→
   ∀ (i:Nat) u v,ts[i]?=some u→vs[i]?=some v→OpB enc P w u v.cells.toList:=by
  intro ts
  induction ts with
  | nil=>intro vs ds ps _ _ i u v hu;simp at hu
  | cons t ts ih=>
   intro vs ds ps h hw i u v hu hv;obtain ⟨x,vs',d,ds',p,q,rfl,rfl,rfl,⟨n,ha⟩,hb⟩:=trodAll_cons h;cases i with
   | zero=>
    simp at hu hv;subst hu hv;exact ⟨n,d,p,ha,hw d mh⟩
   | succ i=>exact ih vs' ds' q hb (fun m hm=>hw m (zmc hm)) i u v (by simpa using hu) (by simpa using hv)
 exact key ts vs ds ps h (fun d hd=>Nat.le_trans (qmz hd) hw)
theorem OpB.fields {fs:Array Field} {cs:List Value} (ht:P.underlying t=some (.struct fs)) (h:OpB enc P w t cs) :
  cs.length=P.cellsOf t∧∀ (i:Nat) (f:Field),fs[i]?=some f→OpB enc P w f.type ((cs.drop f.offset).take (P.cellsOf f.type)):=by
 obtain ⟨n,d,ps,h,hw⟩:=h;obtain ⟨xs,n,_,hd,hl,hlen,hf⟩:=DataW.trod_struct ht h;simp only [Prod.mk.injEq] at hd;obtain ⟨rfl,rfl⟩:=hd;refine ⟨hl,fun i f hi=>?_⟩;have hil:i<xs.length:=by
  rw [hlen];exact (Array.getElem?_eq_some_iff.1 hi).1
 refine ⟨n,xs[i].1,xs[i].2,by rw [hf i f hi,zge hil],?_⟩;rw [Rows.uptoBulk] at hw;have:=qmz (d:=xs[i].1) (l:=xs.map (·.1)) (List.mem_map.2 ⟨xs[i],List.getElem_mem hil,rfl⟩);omega
theorem OpB.string {c:Value} (ht:P.underlying t=some .string) (h:OpB enc P w t [c]):∃ s:ByteArray,c=.string s∧s.size≤1048576:=by
 obtain ⟨n,d,ps,h,hw⟩:=h;obtain ⟨s,h1,h2,_⟩:=DataW.trod_string ht h;simp only [Prod.mk.injEq] at h2;obtain ⟨rfl,rfl⟩:=h2;refine ⟨s,by simpa using h1,?_⟩;rw [Rows.uptoBulk] at hw;have e:s.data.toList.length=s.size:=Array.length_toList;omega
theorem OpB.int {k:IntKind} {c:Value} (ht:P.underlying t=some (.int k)) (h:OpB enc P w t [c]):∃ n:Int,c=.int k n∧InR k n:=by
 obtain ⟨n,d,ps,h,hw⟩:=h;obtain ⟨s,h1,_,h2⟩:=DataW.trod_int ht h;exact ⟨s,by simpa using h1,qqe h2⟩
theorem OpB.slice {α:Type} [Inhabited α] {en:α→List Value} {R:α→Prop} {size e:Nat} {c:Value} (ht:P.underlying t=some (.slice e)) (hc:P.cellsOf e=size) (hs0:0<size)
  (hen:∀ x,(en x).length=size) (each:∀ cs,OpB enc P w e cs→∃ x,cs=en x∧R x) (h:OpB enc P w t [c]) :
  ∃ (A:oA) (cap:Nat) (l:List α),c=.slice A l.length cap∧l.length≤cap∧l.length≤1048576∧(∀ x∈l,R x)∧SlAt en size w A l:=by
 obtain ⟨n,d,ps,h,hw⟩:=h
 rcases Deep.open_slice ht h with ⟨h1,_⟩|⟨a,len,cap,m,n,D,Pl,h1,_,hlc,hcm,hm,hd,hx⟩
 ·refine ⟨none,0,[],by simpa using h1,by simp,by simp,by simp,⟨fun h=>absurd rfl h⟩⟩
 ·simp only [if_true] at hm;simp only [Prod.mk.injEq] at hd;obtain ⟨rfl,_⟩:=hd;rw [Rows.uptoBulk] at hw;have hlen:=q3s ((List.range len).map D);rw [List.length_map,List.length_range] at hlen;obtain ⟨X,hX⟩:=Deep.choose_lt (n:=len) (p:=fun i (x:α)=>w.cells? 0 (a.add (i*P.cellsOf e)) (P.cellsOf e)=some (en x)∧R x) (fun i hi=>by
   obtain ⟨cs,h2,h3⟩:=hx i Oo;obtain ⟨x,rfl,hr⟩:=each cs ⟨n,D i,Pl i,h3,by
    have:=qmz (d:=D i) (l:=(List.range len).map D) (List.mem_map.2 ⟨i,List.mem_range.2 hi,rfl⟩);omega⟩
   exact ⟨x,h2,hr⟩)
  refine ⟨some a,cap,(List.range len).map X,by simpa using h1,by simp;omega,by simp;omega,fun s hs=>?_,⟨fun hn=>?_⟩⟩
  ·obtain ⟨i,hi,rfl⟩:=List.mem_map.1 hs;exact (hX i (List.mem_range.1 hi)).2
  ·have hpos:0<len:=by
    rcases Nat.eq_zero_or_pos len with h0|h0
    ·exact absurd (by rw [h0];rfl) hn
    ·exact h0
   have hs:a=⟨a.block,a.off,none⟩:=by
    obtain ⟨_,_,h2⟩:=World.cells?_some (hX 0 hpos).1;have h3:=h2 0 Oo;rw [zge (by rw [hen];omega)] at h3;refine qk6 (w:=w) (v:=(en (X 0))[0]'(by rw [hen];omega)) ?_
    simpa [Addr.add] using h3
   refine ⟨a.block,a.off,by rw [← hs],fun j s hj k v hv=>?_⟩;have hjl:j<len:=by
    have:=(List.getElem?_eq_some_iff.1 hj).1
    simpa using this
   rw [List.getElem?_map,List.getElem?_range hjl] at hj;simp only [Option.map_some,Option.some.injEq] at hj;subst hj;obtain ⟨_,_,h2⟩:=World.cells?_some (hX j hjl).1;have hk:k<size:=by rw [← hen (X j)];exact (List.getElem?_eq_some_iff.1 hv).1
   have h3:=h2 k Oo;rw [hv,hs,q7,q7,hc] at h3;exact h3
end
end
end V
open Go.RowKit V
section
variable {T:List TM} (hr:RiseT T) (hn:T.length≤4194304) (ht:∀ t∈T,qbi t=0)
include hr hn ht
end
theorem q8n {b:LB} (h:(poE b).2=0):pkB (qsP b)=b∧valE (qsP b)=0∧encE (qsP b) (b.length:Nat)=0:=by
 have he:=q8w h;have e1:pkB (qsP b)=b:=by rw [← he.pk];exact (qyw h).symm
 exact ⟨e1,he.val,he.encE (by rw [e1];exact Int.le_refl _)⟩
def cod (n:Nat):Prop:=n≠30∧n≠190∧n≠191
theorem qy6 {n:Nat} (h:n<30):cod n:=⟨by omega,by omega,by omega⟩
theorem qb3 {f:Nat→Nat × Nat} (h:∀ k,cod (f k).2):∀ n,cod (errF f n).2
 | 0=>by rw [errF];exact ⟨by simp,by simp,by simp⟩
 | n+1=>by
  rw [errF]
  split
  ·exact qb3 h n
  ·exact h n
theorem qql:∀ (l:LB) (i n:Nat),(qff i n l).2.2<30
 | [],i,n=>by simp [qff]
 | c::l,i,n=>by
  rw [qc9]
  split
  ·show (11:Nat)<30;decide
  ·split
   ·show (0:Nat)<30;decide
   ·exact qql l _ _
theorem qjs (l:LB):cod (numL l).2.2:=qy6 (qql l 0 0)
theorem qn0 (l:LB) (k m:Nat):cod (numE l k m).2:=by
 unfold numE
 split
 ·exact qjs _
 ·split<;>exact ⟨by simp,by simp,by simp⟩
theorem q36 (m:LB) (f:Bool) (a:LB):cod (entG m f a).2.2:=by
 unfold entG;dsimp only;cases f
 ·simp only [Bool.false_eq_true,if_false]
  split
  ·exact qjs _
  ·split
   ·exact qjs _
   ·split
    ·exact ⟨by simp,by simp,by simp⟩
    ·split
     ·exact ⟨by simp,by simp,by simp⟩
     ·split<;>exact ⟨by simp,by simp,by simp⟩
 ·simp only [if_true]
  split
  ·exact ⟨by simp,by simp,by simp⟩
  ·split
   ·exact qjs _
   ·split
    ·exact ⟨by simp,by simp,by simp⟩
    ·split
     ·exact ⟨by simp,by simp,by simp⟩
     ·split<;>exact ⟨by simp,by simp,by simp⟩
theorem qacg (m:LB):cod (dE m).2:=by
 unfold dE
 split
 ·exact qb3 (fun k=>qn0 _ _ _) 2
 ·split
  ·exact ⟨by simp,by simp,by simp⟩
  ·split<;>exact ⟨by simp,by simp,by simp⟩
theorem q85 (m:LB) (i:Nat):cod (dnF m i).2:=by
 unfold dnF
 split
 ·exact ⟨by simp,by simp,by simp⟩
 ·split
  ·exact q36 _ _ _
  ·split
   ·exact ⟨by simp,by simp,by simp⟩
   ·split<;>exact ⟨by simp,by simp,by simp⟩
theorem q86 (m:LB):cod (doE m).2:=by
 unfold doE
 split
 ·exact qacg m
 ·split
  ·exact ⟨by simp,by simp,by simp⟩
  ·split
   ·exact qb3 (q85 m) _
   ·split<;>exact ⟨by simp,by simp,by simp⟩
theorem qadu (l:LB):cod (sE l).2:=by
 unfold sE
 split
 ·exact qb3 (fun k=>qn0 _ _ _) 3
 ·split
  ·exact ⟨by simp,by simp,by simp⟩
  ·split<;>exact ⟨by simp,by simp,by simp⟩
theorem qabs (l:LB):cod (vwE l).2:=by
 unfold vwE
 split
 ·exact qadu l
 ·split
  ·refine qb3 (fun k=>?_) 3;unfold veF
   split
   ·exact ⟨by simp,by simp,by simp⟩
   ·exact q86 _
  ·refine qb3 (fun k=>?_) 3;unfold vrF
   split<;>exact ⟨by simp,by simp,by simp⟩
theorem qad0 (l:LB):cod (tE l).2:=by
 unfold tE
 split
 ·refine qb3 (fun k=>?_) 4;unfold tcF
  split
  ·exact qn0 _ _ _
  ·split<;>exact ⟨by simp,by simp,by simp⟩
 ·split
  ·refine qb3 (fun k=>?_) 4;unfold tvF
   split
   ·exact ⟨by simp,by simp,by simp⟩
   ·split
    ·exact ⟨by simp,by simp,by simp⟩
    ·split<;>exact ⟨by simp,by simp,by simp⟩
  ·split<;>exact ⟨by simp,by simp,by simp⟩
theorem qabp (l:LB):cod (voE l).2:=by
 unfold voE
 split
 ·exact ⟨by simp,by simp,by simp⟩
 ·split
  ·exact ⟨by simp,by simp,by simp⟩
  ·refine qb3 (fun k=>?_) _;unfold spF
   split<;>exact ⟨by simp,by simp,by simp⟩
theorem qabm (l:LB) (k:Nat):cod (vcE l k).2:=by
 unfold vcE
 split
 ·exact ⟨by simp,by simp,by simp⟩
 ·split
  ·exact qabp _
  ·split<;>exact ⟨by simp,by simp,by simp⟩
theorem qaa8 (l:LB):cod (toE l).2:=by
 unfold toE
 split
 ·exact qad0 l
 ·refine qb3 (fun k=>?_) 4;unfold lvE
  split
  ·exact ⟨by simp,by simp,by simp⟩
  ·split
   ·exact ⟨by simp,by simp,by simp⟩
   ·split
    ·exact qabm _ _
    ·refine qb3 (fun i=>?_) _;unfold nmF
     split
     ·exact ⟨by simp,by simp,by simp⟩
     ·split<;>exact ⟨by simp,by simp,by simp⟩
theorem qaag {l:LB} (h0:(qar l).2=0) (h1:pS1 l) (h2:pS2 l):cod (poE l).2:=by
 by_cases h3:(vwE (qk l)).2=0
 case neg=>
  rw [qaak h0 h1 h2 h3];dsimp only;exact qabs _
 by_cases h4:(toE (qe l)).2=0
 case neg=>
  rw [qaaj h0 h1 h2 h3 h4];dsimp only;exact qaa8 _
 by_cases h5:vNum (qe l) 3=hN l 2
 case neg=>rw [qaai h0 h1 h2 h3 h4 h5];exact ⟨by simp,by simp,by simp⟩
 by_cases h6:vTot (qk l) 3=hN l 3
 case neg=>rw [qaah h0 h1 h2 h3 h4 h5 h6];exact ⟨by simp,by simp,by simp⟩
 by_cases h7:qqo l
 case neg=>rw [qst h0 h1 h2 h3 h4 h5 h6 h7];exact ⟨by simp,by simp,by simp⟩
 by_cases h8:qqp l
 case neg=>rw [qim h0 h1 h2 h3 h4 h5 h6 h7 h8];exact ⟨by simp,by simp,by simp⟩
 rw [q1h h0 h1 h2 h3 h4 h5 h6 h7 h8];exact ⟨by simp,by simp,by simp⟩
def fgB (a b c d:Nat) (V T:LB):LB:=h24 a b c d++(sumL (h24 a b c d)++(V++(sumL V++(T++sumL T))))
theorem q9d (a b c d:Nat) (V T:LB):(fgB a b c d V T).length=V.length+T.length+36:=by
 simp only [fgB,zla,qdz,qcs];omega
section
variable {a b c d:Nat} {V T:LB} (ha:a<4294967296) (hb:b<4294967296) (hc:c=V.length%4294967296) (hd:d=T.length%4294967296)
theorem qacn:hN (fgB a b c d V T) 0=1095914324:=by
 rw [hN,Nat.mul_zero,List.drop_zero,fgB,h24,List.append_assoc];exact qco _ _ Od
theorem qaco:hN (fgB a b c d V T) 1=1:=by
 rw [hN,fgB,h24,List.append_assoc,qt (by rw [qh]),List.append_assoc];exact qco _ _ Od
theorem qacr:hN (fgB a b c d V T) 6=(crcL ((fgB a b c d V T).take 24)).toNat:=by
 rw [hN,fgB,qt (by rw [qdz]),qck (qcs _),qor,qck (qdz _ _ _ _)]
theorem qacp (hc2:c<4294967296):hN (fgB a b c d V T) 4=c:=by
 rw [hN,fgB,h24];have e:fixL 1095914324 4++(fixL 1 4++(fixL a 4++(fixL b 4++(fixL c 4++fixL d 4))))=(fixL 1095914324 4++(fixL 1 4++(fixL a 4++fixL b 4)))++(fixL c 4++fixL d 4):=by simp only [List.append_assoc]
 rw [e,List.append_assoc,qt (by simp only [zla,qh]),List.append_assoc];exact qco _ _ hc2
theorem qacq (hd2:d<4294967296):hN (fgB a b c d V T) 5=d:=by
 rw [hN,fgB,h24];have e:fixL 1095914324 4++(fixL 1 4++(fixL a 4++(fixL b 4++(fixL c 4++fixL d 4))))=(fixL 1095914324 4++(fixL 1 4++(fixL a 4++(fixL b 4++fixL c 4))))++fixL d 4:=by simp only [List.append_assoc]
 rw [e,List.append_assoc,qt (by simp only [zla,qh])];exact qco _ _ hd2
include hc hd
theorem q9c:cod (poE (fgB a b c d V T)).2:=by
 have hl:=q9d a b c d V T
 by_cases h0:(qar (fgB a b c d V T)).2=0
 ·obtain ⟨_,_,_,_,g5,g6⟩:=qic h0;have h4:=qacp (a:=a) (b:=b) (c:=c) (d:=d) (V:=V) (T:=T) Oo;have h5:=qacq (a:=a) (b:=b) (c:=c) (d:=d) (V:=V) (T:=T) Oo;have hcv:c=V.length:=by omega
  have hdt:d=T.length:=by omega
  have e:fgB a b c d V T=qch a b V T:=by rw [hcv,hdt];rfl
  rw [e];rw [e] at h0;have hs:V.length+T.length+36≤67108864:=by omega
  have h1:=q1b (nq:=a) (nt:=b) hs;have h2:=q1c (nq:=a) (nt:=b) hs;exact qaag h0 h1 h2
 ·have e0:=qacn (a:=a) (b:=b) (c:=c) (d:=d) (V:=V) (T:=T);have e1:=qaco (a:=a) (b:=b) (c:=c) (d:=d) (V:=V) (T:=T);have e6:=qacr (a:=a) (b:=b) (c:=c) (d:=d) (V:=V) (T:=T);rw [qoa h0];generalize fgB a b c d V T=l at *;rw [qar,if_neg Oo,if_neg (fun g=>g e0),if_neg (fun g=>g e6),if_neg (fun g=>g e1)]
  split
  ·exact ⟨by simp,by simp,by simp⟩
  ·split
   ·exact ⟨by simp,by simp,by simp⟩
   ·split<;>exact ⟨by simp,by simp,by simp⟩
end
theorem qabt (n:Int):IntKind.u32.wrap n=((n%4294967296).toNat:Nat)∧(n%4294967296).toNat<4294967296:=by
 have e:IntKind.u32.wrap n=n%4294967296:=by simp [IntKind.wrap,IntKind.bits,IntKind.signed]
 exact ⟨by rw [e];omega,by omega⟩
theorem qgz (n:Nat) (w:World) (_hn:n<4294967296) :
  Gv Tryz.prog 18 [.int .u32 n] w fun r w'=>∃ b,r=.slice (some ⟨b,0,none⟩) 4 4∧w.heap.size≤b∧w'.heap[b]?=some (.cells (byV (fixL n 4)).toArray 5)∧Ext w w':=by
 refine ze Tryz.func18 Tryz.ntmps18 ?_;refine V.Wit.low8 (zw ?_);refine V.Wit.shrN 8 rfl Od (zw ?_);refine V.Wit.low8 (zw ?_);refine V.Wit.shrN 16 rfl Od (zw ?_);refine V.Wit.low8 (zw ?_);refine V.Wit.shrN 24 rfl Od (zw ?_);refine V.Wit.low8 (zw ?_);refine ⟨fun b w' hb hw=>?_⟩;have he:Ext w w':=by rw [hw];exact (Ext.refl w).alloc _
 have hc:w'.heap[b]?=some (.cells #[.int .u8 (n%256:Nat),.int .u8 (n/2 ^ 8%256:Nat),.int .u8 (n/2 ^ 16%256:Nat),.int .u8 (n/2 ^ 24%256:Nat)] 5):=by rw [hw,hb];exact heap_alloc_new w _
 (conv=>whnf);refine ⟨b,rfl,by omega,?_,he⟩;rw [hc];have h8:∀ m,(UInt8.ofNat (m%256)).toNat=m%256:=fun m=>by simp
 have e:(byV (fixL n 4)).toArray=#[.int .u8 (n%256:Nat),.int .u8 (n/2 ^ 8%256:Nat),.int .u8 (n/2 ^ 16%256:Nat),.int .u8 (n/2 ^ 24%256:Nat)]:=by
  simp [byV,fixL,h8]
 rw [e]
theorem quu {w:World} {b n:Nat} (h:w.heap[b]?=some (.cells (byV (fixL n 4)).toArray 5)):SlAt encB 1 w (some ⟨b,0,none⟩) (fixL n 4):=
 q6x h (List.take_of_length_le (by rw [qam];exact Nat.le_refl _))
theorem q7u (b n:Nat):Value.slice (some ⟨b,0,none⟩) 4 4=.slice (some ⟨b,0,none⟩) (fixL n 4).length 4:=by rw [qh]
structure FgI (w0:World) (L:List (Nat × Obj)) (x V s:LB) (A0:oA) (c0:Nat) (s3 s7 s8:Bool) (v3 v7 v8:Value) (w:World):Prop where
 h:∃ L',((s7=false∧L'=L)∨(s7=true∧∃ fb,v7=.slice (some ⟨fb,0,none⟩) 4 4∧L'=(fb,.cells (byV s).toArray 5)::L))∧
  ((s3=false∧s8=false∧Rw w0 w (.slice A0 x.length c0) 5 1 x.length (byV x) L')∨
  (s3=true∧s8=false∧∃ A c,v3=.slice A (x++V).length c∧Rw w0 w (.slice A (x++V).length c) 5 1 (x++V).length (byV (x++V)) L')∨
  (s8=true∧s3=true∧∃ A c,v8=.slice A ((x++V)++s).length c∧Rw w0 w (.slice A ((x++V)++s).length c) 5 1 ((x++V)++s).length (byV ((x++V)++s)) L'))
section
variable {w0 w w':World} {L:List (Nat × Obj)} {x V s:LB} {A0:oA} {c0:Nat} {s3 s7 s8:Bool} {v3 v7 v8:Value}
theorem FgI.start (h:Rw w0 w (.slice A0 x.length c0) 5 1 x.length (byV x) L):FgI w0 L x V s A0 c0 false false false v3 v7 v8 w:=⟨L,.inl ⟨rfl,rfl⟩,.inl ⟨rfl,rfl,h⟩⟩
theorem FgI.mem (h:FgI w0 L x V s A0 c0 s3 s7 s8 v3 v7 v8 w):Mem w0 w L:=by
 obtain ⟨L',h1,h2⟩:=h.h;have hs:L.Sublist L':=by
  rcases h1 with ⟨_,rfl⟩|⟨_,fb,_,rfl⟩
  ·exact List.Sublist.refl _
  ·exact List.sublist_cons_self ..
 rcases h2 with ⟨_,_,h2⟩|⟨_,_,A,c,_,h2⟩|⟨_,_,A,c,_,h2⟩
 all_goals exact h2.mem.sub hs
theorem FgI.three (h:FgI w0 L x V s A0 c0 false s7 s8 v3 v7 v8 w):∃ L',Rw w0 w (.slice A0 x.length c0) 5 1 x.length (byV x) L'∧∀ {A c w'},Rw w0 w' (.slice A (x++V).length c) 5 1 (x++V).length (byV (x++V)) L'→FgI w0 L x V s A0 c0 true s7 s8 (.slice A (x++V).length c) v7 v8 w':=by
 obtain ⟨L',h1,⟨_,h8,h2⟩|⟨e,_⟩|⟨_,e,_⟩⟩:=h.h
 ·exact ⟨L',h2,fun hR=>⟨L',h1,.inr (.inl ⟨rfl,h8,_,_,rfl,hR⟩)⟩⟩
 ·cases e
 ·cases e
theorem FgI.seven (h:FgI w0 L x V s A0 c0 s3 false s8 v3 v7 v8 w) {fb:Nat} (he:Ext w w') (hb:w.heap.size≤fb) (ho:w'.heap[fb]?=some (.cells (byV s).toArray 5)):FgI w0 L x V s A0 c0 s3 true s8 v3 (.slice (some ⟨fb,0,none⟩) 4 4) v8 w':=by
 have hm:Mem w w' [(fb,.cells (byV s).toArray 5)]:=(Mem.nil w).fresh he hb ho;obtain ⟨L',h1,h2⟩:=h.h;obtain rfl:L'=L:=by
  rcases h1 with ⟨_,rfl⟩|⟨e,_⟩
  ·rfl
  ·cases e
 refine ⟨_,.inr ⟨rfl,fb,rfl,rfl⟩,?_⟩
 rcases h2 with ⟨e1,e2,h2⟩|⟨e1,e2,A,c,e,h2⟩|⟨e1,e2,A,c,e,h2⟩
 ·exact .inl ⟨e1,e2,h2.join hm⟩
 ·exact .inr (.inl ⟨e1,e2,A,c,e,h2.join hm⟩)
 ·exact .inr (.inr ⟨e1,e2,A,c,e,h2.join hm⟩)
theorem FgI.eight (h:FgI w0 L x V s A0 c0 s3 true false v3 v7 v8 w) (h3:s3=true) (_hs:s.length=4):∃ A c fb L',v3=.slice A (x++V).length c∧v7=.slice (some ⟨fb,0,none⟩) 4 4∧SlAt encB 1 w (some ⟨fb,0,none⟩) s∧Rw w0 w (.slice A (x++V).length c) 5 1 (x++V).length (byV (x++V)) L'∧
  ∀ {B d w'},Rw w0 w' (.slice B ((x++V)++s).length d) 5 1 ((x++V)++s).length (byV ((x++V)++s)) L'→FgI w0 L x V s A0 c0 s3 true true v3 v7 (.slice B ((x++V)++s).length d) w':=by
 obtain ⟨L',h1,h2⟩:=h.h
 rcases h2 with ⟨e1,_⟩|⟨e1,e2,A,c,e,h2⟩|⟨e1,_⟩
 ·rw [h3] at e1;cases e1
 ·rcases h1 with ⟨e3,_⟩|⟨e3,fb,e4,rfl⟩
  ·cases e3
  ·refine ⟨A,c,fb,_,e,e4,q6x (h2.mem.get mh) ?_,h2,fun hR=>⟨_,.inr ⟨rfl,fb,e4,rfl⟩,.inr (.inr ⟨rfl,h3,_,_,rfl,hR⟩)⟩⟩;rw [List.take_of_length_le (by rw [qam];exact Nat.le_refl _)]
 ·cases e1
theorem FgI.done (h:FgI w0 L x V s A0 c0 s3 s7 true v3 v7 v8 w):∃ A c,v8=.slice A ((x++V)++s).length c∧Rw w0 w (.slice A ((x++V)++s).length c) 5 1 ((x++V)++s).length (byV ((x++V)++s)) L:=by
 obtain ⟨L',h1,h2⟩:=h.h;have hs:L.Sublist L':=by
  rcases h1 with ⟨_,rfl⟩|⟨_,fb,_,rfl⟩
  ·exact List.Sublist.refl _
  ·exact List.sublist_cons_self ..
 rcases h2 with ⟨_,e,_⟩|⟨_,e,_⟩|⟨_,_,A,c,e,h2⟩
 ·cases e
 ·cases e
 ·exact ⟨A,c,e,h2.subL hs⟩
end
def fgN (q t:Int) (a b:Nat) (k:Nat):Int:=if k=0 then q else if k=1 then t else if k=2 then (a:Int) else (b:Int)
def fgM (q t:Int) (a b:Nat) (k:Nat):Nat:=(fgN q t a b k%4294967296).toNat
def fgL (q t:Int) (a b:Nat):List Nat:=[fgM q t a b 0,fgM q t a b 1,fgM q t a b 2,fgM q t a b 3]
def fgH (q t:Int) (a b:Nat) (k:Nat):LB:=(fixL 1095914324 4++fixL 1 4)++fxL ((fgL q t a b).take k)
theorem q4b (q t:Int) (a b:Nat) {k:Nat} (hk:k<4):fgH q t a b (k+1)=fgH q t a b k++fixL (fgM q t a b k) 4:=by
 have hl:(fgL q t a b).length=4:=rfl;have e:(fgL q t a b)[k]'(by rw [hl];exact hk)=fgM q t a b k:=by
  rcases (show k=0∨k=1∨k=2∨k=3 by omega) with rfl|rfl|rfl|rfl<;>rfl
 rw [fgH,fgH,quy _ (by rw [hl];exact hk),e,List.append_assoc,List.append_assoc,List.append_assoc]
theorem qzn (q t:Int) (a b:Nat) {k:Nat} (hk:k≤4):(fgH q t a b k).length=8+4*k:=by
 rw [fgH,zla,zla,qh,qh,qzu,List.length_take];show 4+4+4*min k 4=_;omega
theorem q9e (q t:Int) (a b:Nat):fgH q t a b 4=h24 (fgM q t a b 0) (fgM q t a b 1) (fgM q t a b 2) (fgM q t a b 3):=by
 rw [fgH,List.take_of_length_le (Nat.le_refl 4)];simp [fxL,fgL,h24]
theorem qln (q t:Int) (A B:oA) (X Y:LB) (c1 c2:Nat) (w:World) (_hq:InR .i64 q) (_ht:InR .i64 t) (hV:SlAt encB 1 w A X) (hT:SlAt encB 1 w B Y) (hVl:X.length≤3000000000000) (hTl:Y.length≤3000000000000) (hG:Glob w) :
  Gv Tryz.prog 5 [.agg #[ii q,ii t,.slice A X.length c1,.slice B Y.length c2]] w fun r w'=>r=.bool true∧Ext w w':=by
 have t1:tsz Tryz.prog 3=1:=by kernel_rfl
 refine ze Tryz.func5 Tryz.ntmps5 ?_;refine znm (Mem.nil w) fun tb w1 hm=>zw ?_;have hm:Mem w w1 [(tb,.cells #[ii q,ii t,.slice A X.length c1,.slice B Y.length c2] 42)]:=hm;have hG1:=hG.ext hm.ext;refine zcv (qyj w1 hG1.M hG1.T hG1.N hG1.G hG1.K) ?_;rintro r w2 ⟨rfl,he2⟩;have hm:=hm.call he2;refine zu ?_;refine ⟨fun nb w3 hnb hw3=>?_⟩;have he3:Ext w2 w3:=by rw [hw3];exact (Ext.refl w2).alloc _
 have hc3:w3.heap[nb]?=some (.cells #[.int .u8 84,.int .u8 83,.int .u8 82,.int .u8 65,.int .u8 1,.int .u8 0,.int .u8 0,.int .u8 0] 5):=by rw [hw3,hnb];exact heap_alloc_new w2 _
 have ho3:w3.ownsRow w2.heap.size 5 1 (.slice (some ⟨nb,0,none⟩) 8 8) 8 [.int .u8 84,.int .u8 83,.int .u8 82,.int .u8 65,.int .u8 1,.int .u8 0,.int .u8 0,.int .u8 0]:=⟨rfl,.inr ⟨nb,8,_,rfl,by omega,hc3,Nat.le_refl _,by decide,rfl,rfl⟩⟩
 have hR:=q5s hm he3 ho3;clear hnb hw3 he3 hc3 ho3 hm;(conv=>whnf);refine zr hR.mem 0 ?_;refine zr hR.mem 0 ?_;refine zr hR.mem 0 ?_;refine zr hR.mem 0 ?_;refine NewV.rw hR fun t4 w4 hR=>zw ?_;refine StoreA.rwAll hR rfl (by simp [Value.oneCell']) ?_;clear hR;intro w5 hR;have h0l:(fgH q t X.length Y.length 0).length=8:=qzn _ _ _ _ Od;have hR:Rw w w5 (.slice (some ⟨nb,0,none⟩) (fgH q t X.length Y.length 0).length 8) 5 1 (fgH q t X.length Y.length 0).length (byV (fgH q t X.length Y.length 0)) [(t4,.cells (fnA 4 (inF (fgN q t X.length Y.length))) 43),(tb,.cells #[ii q,ii t,.slice A X.length c1,.slice B Y.length c2] 42)]:=by
  rw [h0l];exact hR
 (conv=>whnf);refine qy (fun x:Nat × oA × Nat=>[(1,pp tb),(3,.slice x.2.1 (fgH q t X.length Y.length x.1).length x.2.2),(4,pp t4),(5,ii x.1)])
  (fun x w'=>x.1≤4∧Rw w w' (.slice x.2.1 (fgH q t X.length Y.length x.1).length x.2.2) 5 1 (fgH q t X.length Y.length x.1).length (byV (fgH q t X.length Y.length x.1)) [(t4,.cells (fnA 4 (inF (fgN q t X.length Y.length))) 43),(tb,.cells #[ii q,ii t,.slice A X.length c1,.slice B Y.length c2] 42)]) (fun x=>4-x.1) (0,some ⟨nb,0,none⟩,8) ⟨rfl,by rw [h0l];rfl,rfl,rfl,trivial⟩ ⟨Nat.zero_le _,hR⟩ ?_
 clear hR;rintro ⟨k,A5,c5⟩ w6 ρ' ⟨k1,hR⟩;dsimp only at k1 hR ⊢;have hkl:=qzn q t X.length Y.length k1;(conv=>whnf);refine zC (fun _=>zu ?_) (fun _=>zu ?_)
 ·have hk4:k<4:=by omega
  refine LoadV.fi hR.mem (i:=0) rfl k (by rw [t1];omega) Oo rfl (zw ?_);obtain ⟨hw1,hw2⟩:=qabt (fgN q t X.length Y.length k);refine Wit.eq hw1 (zw ?_);rw [show (fgN q t X.length Y.length k%4294967296).toNat=fgM q t X.length Y.length k from rfl] at hw2 ⊢;refine zcv (qgz (fgM q t X.length Y.length k) w6 hw2) ?_;rintro r w7 ⟨fb,rfl,hfb,hfo,he7⟩;have hR:=hR.join ((Mem.nil w6).fresh he7 hfb hfo);rw [q7u fb (fgM q t X.length Y.length k)];(conv=>whnf);refine AppV.rwB (x:=fgH q t X.length Y.length k) qi9 bytI bytZ Jk rfl (by decide +kernel) hR (quu hfo) (by rw [qh];omega) ?_;rw [← q4b q t X.length Y.length hk4];clear hR;intro A7 c7 w8 hR;refine zu ?_;exact ⟨(k+1,A7,c7),⟨rfl,rfl,rfl,congrArg (Value.int .i64) Oo,trivial⟩,⟨by show k+1≤4;omega,hR.tail⟩,by show 4-(k+1)<4-k;omega⟩
 obtain rfl:k=4:=by omega
 rw [q9e] at hR hkl ⊢;obtain ⟨H,eH⟩:∃ H,H=h24 (fgM q t X.length Y.length 0) (fgM q t X.length Y.length 1) (fgM q t X.length Y.length 2) (fgM q t X.length Y.length 3):=⟨_,rfl⟩
 rw [← eH] at hR hkl ⊢;obtain ⟨_,_,eB,hcB,hSB⟩:=hR.byts rfl
 injection eB with eB1 eB2 eB3
 subst eB1 eB3;have hG6:=hG.ext hR.mem.ext;refine zcv (qgl H A5 H.length c5 w6 hSB rfl Oo hG6.N) ?_;rintro r w7 ⟨rfl,rfl⟩;have hcr0:(crcL H).toNat<4294967296:=(crcL H).isLt;(conv=>whnf);refine zcv (qgz (crcL H).toNat w7 hcr0) ?_;rintro r w8 ⟨fb,rfl,hfb,hfo,he8⟩;have hR:=hR.join ((Mem.nil w7).fresh he8 hfb hfo);rw [q7u fb (crcL H).toNat];(conv=>whnf);refine AppV.rwB (x:=H) qi9 bytI bytZ Jk rfl (by decide +kernel) hR (quu hfo) (by rw [qh];omega) ?_;clear hR;intro A9 c9 w9 hR;have hR:=hR.tail.tail;have hHs:(H++fixL (crcL H).toNat 4).length=28:=by rw [zla,qh];omega
 obtain ⟨H2,eH2⟩:∃ H2,H2=H++fixL (crcL H).toNat 4:=⟨_,rfl⟩
 rw [← eH2] at hR hHs ⊢;(conv=>whnf);obtain ⟨s_1,es_1⟩:∃ s,s=fixL (crcL X).toNat 4:=⟨_,rfl⟩
 have hs4_1:s_1.length=4:=by rw [es_1,qh]
 have hcr_1:(crcL X).toNat<4294967296:=(crcL X).isLt;refine DrawV.genW (fun S vals w'=>FgI w [(tb,.cells #[ii q,ii t,.slice A X.length c1,.slice B Y.length c2] 42)] H2 X s_1 A9 c9 (S 3) (S 7) (S 8) (vals 3) (vals 7) (vals 8) w'∧(S 9=true→S 8=true∧vals 9=vals 8)) rfl Jk (fun vals=>⟨FgI.start hR.drew,fun h=>(by cases h)⟩) ?_;clear hR;(conv=>whnf);refine zg ?_;refine zg ?_;refine StepG.of (.slice A X.length c1) (fun S vals wd hk hp hI=>zw ?_) (zw ?_)
 ·refine zr hI.1.mem 0 ?_;exact ⟨rfl,hI⟩
 refine StepG.any (fun S vals wd hk hp hI=>?_) (zw ?_)
 ·dsimp only at hI;rw [hk] at hI;obtain ⟨L',hRx,hKx⟩:=hI.1.three;(conv=>whnf);refine AppV.rwB (x:=H2) qi9 bytI bytZ Jk rfl (by decide +kernel) hRx (hV.ext hI.1.mem.ext) Oo ?_;intro A' c' w' hR';exact ⟨trivial,hKx hR',hI.2⟩
 refine zg ?_;refine StepG.of (.slice A X.length c1) (fun S vals wd hk hp hI=>zw ?_) (zw ?_)
 ·refine zr hI.1.mem 0 ?_;exact ⟨rfl,hI⟩
 refine StepG.of (.int .u32 (crcL X).toNat) (fun S vals wd hk hp hI=>zw ?_) (zw ?_)
 ·refine zcv (qgl X _ _ _ wd (hV.ext hI.1.mem.ext) rfl Oo (CellsAt.ext hG.N hI.1.mem.ext)) ?_;rintro r wx ⟨rfl,rfl⟩;exact ⟨rfl,hI⟩
 refine StepG.any (fun S vals wd hk hp hI=>?_) (zw ?_)
 ·dsimp only at hI;rw [hk] at hI;(conv=>whnf);refine zcv (qgz (crcL X).toNat wd hcr_1) ?_;rintro r wx ⟨fb,rfl,hfb,hfo,hfe⟩;exact ⟨trivial,hI.1.seven hfe hfb (by rw [es_1];exact hfo),hI.2⟩
 refine StepG.any (fun S vals wd hk hp hI=>?_) (zw ?_)
 ·dsimp only at hI;have h3:S 3=true:=hp 3 Od;have h7:S 7=true:=hp 7 Od;have hI1:=hI.1;rw [hk,h7] at hI1;obtain ⟨Ax,cx,fb,L',hv3,hv7,hSf,hRx,hKx⟩:=hI1.eight h3 hs4_1;rw [hv3,hv7] at hKx;rw [← hs4_1] at hv7 hKx;rw [qq hv3,qq hv7];(conv=>whnf);refine AppV.rwB (x:=H2++X) (m:=s_1) qi9 bytI bytZ Jk rfl (by decide +kernel) hRx hSf (by rw [zla];omega) ?_;intro A' c' w' hR';refine ⟨trivial,?_,fun h9=>absurd (hI.2 h9).1 (by rw [hk];decide)⟩;show FgI _ _ _ _ _ _ _ (S 3) (S 7) true _ _ _ _;rw [h7];exact hKx hR'
 refine StepG.any (fun S vals wd hk hp hI=>?_) (zw ?_)
 ·dsimp only at hI;have h8:S 8=true:=hp 8 Od;have hI1:=hI.1;rw [h8] at hI1;obtain ⟨Ax,cx,hv,_⟩:=hI1.done;rw [hv] at hI1;rw [qq hv];(conv=>whnf);refine ⟨trivial,?_,fun _=>⟨h8,rfl⟩⟩;show FgI _ _ _ _ _ _ _ (S 3) (S 7) (S 8) _ _ _ _;rw [h8];exact hI1
 intro vals w10 hI;obtain ⟨A10,c10,hv,hR⟩:=hI.1.done;rw [qq ((hI.2 rfl).2.trans hv)];clear hI;(conv=>whnf);obtain ⟨Z,eZ⟩:∃ Z,Z=H2++X++s_1:=⟨_,rfl⟩
 have hZl:Z.length=32+X.length:=by rw [eZ,zla,zla];omega
 rw [← eZ] at hR ⊢;obtain ⟨s_2,es_2⟩:∃ s,s=fixL (crcL Y).toNat 4:=⟨_,rfl⟩
 have hs4_2:s_2.length=4:=by rw [es_2,qh]
 have hcr_2:(crcL Y).toNat<4294967296:=(crcL Y).isLt;refine DrawV.genW (fun S vals w'=>FgI w [(tb,.cells #[ii q,ii t,.slice A X.length c1,.slice B Y.length c2] 42)] Z Y s_2 A10 c10 (S 3) (S 7) (S 8) (vals 3) (vals 7) (vals 8) w'∧(S 9=true→S 8=true∧vals 9=vals 8)) rfl Jk (fun vals=>⟨FgI.start hR.drew,fun h=>(by cases h)⟩) ?_;clear hR;(conv=>whnf);refine zg ?_;refine zg ?_;refine StepG.of (.slice B Y.length c2) (fun S vals wd hk hp hI=>zw ?_) (zw ?_)
 ·refine zr hI.1.mem 0 ?_;exact ⟨rfl,hI⟩
 refine StepG.any (fun S vals wd hk hp hI=>?_) (zw ?_)
 ·dsimp only at hI;rw [hk] at hI;obtain ⟨L',hRx,hKx⟩:=hI.1.three;(conv=>whnf);refine AppV.rwB (x:=Z) qi9 bytI bytZ Jk rfl (by decide +kernel) hRx (hT.ext hI.1.mem.ext) Oo ?_;intro A' c' w' hR';exact ⟨trivial,hKx hR',hI.2⟩
 refine zg ?_;refine StepG.of (.slice B Y.length c2) (fun S vals wd hk hp hI=>zw ?_) (zw ?_)
 ·refine zr hI.1.mem 0 ?_;exact ⟨rfl,hI⟩
 refine StepG.of (.int .u32 (crcL Y).toNat) (fun S vals wd hk hp hI=>zw ?_) (zw ?_)
 ·refine zcv (qgl Y _ _ _ wd (hT.ext hI.1.mem.ext) rfl Oo (CellsAt.ext hG.N hI.1.mem.ext)) ?_;rintro r wx ⟨rfl,rfl⟩;exact ⟨rfl,hI⟩
 refine StepG.any (fun S vals wd hk hp hI=>?_) (zw ?_)
 ·dsimp only at hI;rw [hk] at hI;(conv=>whnf);refine zcv (qgz (crcL Y).toNat wd hcr_2) ?_;rintro r wx ⟨fb,rfl,hfb,hfo,hfe⟩;exact ⟨trivial,hI.1.seven hfe hfb (by rw [es_2];exact hfo),hI.2⟩
 refine StepG.any (fun S vals wd hk hp hI=>?_) (zw ?_)
 ·dsimp only at hI;have h3:S 3=true:=hp 3 Od;have h7:S 7=true:=hp 7 Od;have hI1:=hI.1;rw [hk,h7] at hI1;obtain ⟨Ax,cx,fb,L',hv3,hv7,hSf,hRx,hKx⟩:=hI1.eight h3 hs4_2;rw [hv3,hv7] at hKx;rw [← hs4_2] at hv7 hKx;rw [qq hv3,qq hv7];(conv=>whnf);refine AppV.rwB (x:=Z++Y) (m:=s_2) qi9 bytI bytZ Jk rfl (by decide +kernel) hRx hSf (by rw [zla];omega) ?_;intro A' c' w' hR';refine ⟨trivial,?_,fun h9=>absurd (hI.2 h9).1 (by rw [hk];decide)⟩;show FgI _ _ _ _ _ _ _ (S 3) (S 7) true _ _ _ _;rw [h7];exact hKx hR'
 refine StepG.any (fun S vals wd hk hp hI=>?_) (zw ?_)
 ·dsimp only at hI;have h8:S 8=true:=hp 8 Od;have hI1:=hI.1;rw [h8] at hI1;obtain ⟨Ax,cx,hv,_⟩:=hI1.done;rw [hv] at hI1;rw [qq hv];(conv=>whnf);refine ⟨trivial,?_,fun _=>⟨h8,rfl⟩⟩;show FgI _ _ _ _ _ _ _ (S 3) (S 7) (S 8) _ _ _ _;rw [h8];exact hI1
 intro vals w11 hI;obtain ⟨A11,c11,hv,hR⟩:=hI.1.done;rw [qq ((hI.2 rfl).2.trans hv)];clear hI;(conv=>whnf);obtain ⟨l,el⟩:∃ l,l=Z++Y++s_2:=⟨_,rfl⟩
 have hll:l.length=X.length+Y.length+36:=by rw [el,zla,zla];omega
 have hlf:l=fgB (fgM q t X.length Y.length 0) (fgM q t X.length Y.length 1) (fgM q t X.length Y.length 2) (fgM q t X.length Y.length 3) X Y:=by
  rw [el,eZ,eH2,es_1,es_2,fgB,← eH];simp only [List.append_assoc,sumL]
 have hcod:cod (poE l).2:=by
  rw [hlf];exact q9c (by show ((X.length:Int)%4294967296).toNat=_;omega) (by show ((Y.length:Int)%4294967296).toNat=_;omega)
 rw [← el] at hR ⊢;obtain ⟨_,_,eb,hcb,hSl⟩:=hR.byts rfl
 injection eb with eb1 eb2 eb3
 subst eb1 eb3;have he11:=hR.mem.ext;have hG11:=hG.ext he11;refine zcv (qlz l A11 c11 w11 hSl hcb Oo hG11.N hG11.G hG11.M hG11.T hG11.K) ?_;rintro r w12 (⟨hb0,he12,ev12,rfl,hE12⟩|⟨hb0,A12,c12,rfl,hR12⟩)
 ·have hse:=qs8 ev12 (poE l).1 (poE l).2;obtain ⟨be12,rfl,hbe12⟩:=id hE12;refine zu ?_;refine zcv (hse w12 hE12) ?_;rintro r w13 ⟨rfl,he13⟩;(conv=>whnf);refine znm (Mem.nil w13) fun b8 w14 hm=>zw ?_;refine StoreA.all (vs:=[ii (poE l).1,ii (poE l).2]) hm (i:=0) rfl rfl (by simp [Value.oneCell']) ?_;intro w15 hm;obtain ⟨d1,d2,d3⟩:=hcod;obtain ⟨cd,ecd⟩:∃ cd,cd=(poE l).2:=⟨_,rfl⟩
  rw [← ecd] at hm d1 d2 d3;have hm:Mem w13 w15 [(b8,.cells #[ii (poE l).1,ii cd] 48)]:=hm;refine zu ?_;refine zr hm 0 ?_;refine zv ?_;refine zr hm 0 ?_;refine zv ?_;refine zr hm 0 ?_;refine zv ?_;exact ⟨congrArg Value.bool (decide_eq_true Oo),he11.trans (he12.trans (he13.trans hm.ext))⟩
 obtain ⟨k1,k2,k3⟩:=q8n hb0;have hS12:=q63 hR12;have hq12:∀ q∈qsP l,qf5 q:=fun q hq=>by
  obtain ⟨i,_,rfl⟩:=q1o hq;exact q1l _ _
 obtain ⟨n8,en8⟩:∃ n8,n8=vNum (qe l) 3:=⟨_,rfl⟩
 have hn8:(qsP l).length=n8:=by rw [en8];exact qgh l
 have hb8:n8≤140737488355328:=by have:=(qea k2).1;omega
 rw [← en8];have he12:=he11.trans hR12.mem.ext;have hG12:=hG.ext he12;refine zu ?_;refine zcv (ql4 (qsP l) A12 n8 c12 (l.length:Nat) w12 hS12 hn8 hb8 ⟨by show (-9223372036854775808:Int)≤_;omega,by show _≤(9223372036854775807:Int);omega⟩ hq12 hG12.M hG12.T hG12.N hG12.G) ?_;rintro r w13 (⟨h10,_⟩|⟨_,v10,rfl,hN13⟩)
 ·exact absurd k3 h10
 obtain ⟨A13,c13,e13,hc13,hS13⟩:=hN13.bs;subst e13;rw [k1] at hS13 ⊢;have he13:=he12.trans hN13.ext;refine zu ?_;refine BytesS.sl hS13 rfl (zu ?_);refine BytesS.sl (hSl.ext (hR12.mem.ext.trans hN13.ext)) rfl (zu ?_);exact ⟨congrArg Value.bool (qan.2 rfl),he13⟩
end Go.Proofs.YtkienlambankeaaGreatDoor
