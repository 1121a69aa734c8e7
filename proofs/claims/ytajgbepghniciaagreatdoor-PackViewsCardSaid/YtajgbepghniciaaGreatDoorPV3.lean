/- Lemmas and contracts of functions on the way to the law's card (part 3 of 13). -/
import Derived.Test.YtajgbepghniciaaGreatDoorPV2
import Derived.WideKeyArgs
import Derived.ChangeSame
import Derived.ChangeVars
import Derived.RowKit
import Derived.OpenShut
import Derived.Deep.Strs
import Derived.Lib.Builder
namespace Go.Proofs.YtajgbepghniciaaGreatDoor
open Go.ChangeShapes Go.WideShapes Go.RowKit
namespace V
section
variable {H:Type} {enc:TypeId × Value→H} {P:Program}
theorem qf5 (hl:laidOutB P=true) {base:Nat} {W W':World} {sp':Nat→Bool}:∀ {ts:List TypeId} {vs:List Value} {ds:List (DataW H)} {ps:List MemPlace},
  (∀ t∈ts,P.readableRec t=true∧t<P.types.size)→DataW.TrodAll enc P W base (fun _=>true) true ts vs ds ps→(∀ p∈ps,W.sameAt W' p)→(∀ p∈ps,sp' p.block=true)→
  DataW.TrodAll enc P W' base sp' true ts vs ds ps
 | [],_,_,_,_,h,_,_=>by
  obtain ⟨rfl,rfl,rfl⟩:=trodAll_nil h;exact trodAll_mk0
 | t::ts,_,_,_,hr,h,h1,h2=>by
  obtain ⟨v,vs,d,ds,p,q,rfl,rfl,rfl,ha,hb⟩:=trodAll_cons h;obtain ⟨r1,r2⟩:=hr t (List.mem_cons_self ..);exact ⟨p,q,WideElems.Trod_stays hl r1 r2 ha (fun x hx=>h1 x (List.mem_append_left _ hx)) (fun x hx=>h2 x (List.mem_append_left _ hx)),
   qf5 hl (fun t ht=>hr t (List.mem_cons_of_mem _ ht)) hb (fun x hx=>h1 x (List.mem_append_right _ hx)) (fun x hx=>h2 x (List.mem_append_right _ hx)),rfl⟩
theorem qnt {f:Func} {s:ChangeSpec} {apart fresh handsOn again:Bool} {W W':World} {args:Array Value} {v:Value} {ds gs:List (DataW H)} {before pa pv:List MemPlace}
  (hW:DataW.Whole enc P f.params.toList s.vars apart W args.toList ds gs before)
  (hres:∀ (b:Nat) (sp:Nat→Bool) (hd:Bool),DataW.TrodAll enc P W' b sp hd f.resultTypes.toList (v.resultList f.resultTypes.size) (s.fn H (ds++gs)).results [])
  (hargs:∀ sp:Nat→Bool,(∀ p∈before,sp p.block=true)→DataW.TrodAll enc P W' 0 sp true f.params.toList args.toList (s.fn H (ds++gs)).args pa)
  (hvars:∀ sp:Nat→Bool,(∀ p∈before,sp p.block=true)→DataW.TrodVars enc P W' sp s.vars (s.fn H (ds++gs)).vars pv)
  (hps:before=pa++pv) (he:Ext W W')
  (hok:∀ (j:Nat) (t:TypeId) (r:Value),f.resultTypes[j]?=some t→(v.resultList f.resultTypes.size)[j]?=some r→Value.okWide P W' .any 0 t r) :
  s.post enc P f apart fresh handsOn again W args v W':=by
 have hlt:=hW.lt;have hold:∀ p∈before,(fun b=>decide (b<W.heap.size)) p.block=true:=fun p hp=>by simpa using hlt p hp
 refine ⟨ds,gs,before,[],pa,pv,hW,hres _ _ _,hargs _ hold,hvars _ hold,Below.frame he _,fun _=>?_⟩;obtain ⟨_,_,_,_,_,hz,hn⟩:=hW;refine ⟨hok,_,_,([]++pa)++pv,⟨[]++pa,pv,trodAll_append (hargs _ (fun _ _=>rfl)) (hres _ _ _),hvars _ (fun _ _=>rfl),rfl,?_,?_⟩,?_⟩
 ·intro b off hp;have hp':MemPlace.cell b off∈before:=by rw [hps];simpa using hp
  rw [Below.frozen he (show (⟨b,off,none⟩:Addr).block<W.heap.size from hlt _ hp')];exact hz b off hp'
 ·intro ha;have:=hn ha;rw [hps] at this
  simpa using this
 ·intro p hp _;rw [hps]
  simpa using hp
theorem qwm {f:Func} {s:ChangeSpec} {apart fresh handsOn again:Bool} {W W':World} {args:Array Value} {v:Value} {ds gs:List (DataW H)} {before:List MemPlace} (hl:laidOutB P=true) (hr:∀ t∈f.params.toList,P.readableRec t=true∧t<P.types.size)
  (hW:DataW.Whole enc P f.params.toList s.vars apart W args.toList ds gs before) (hv:s.vars=[])
  (hres:∀ (b:Nat) (sp:Nat→Bool) (hd:Bool),DataW.TrodAll enc P W' b sp hd f.resultTypes.toList (v.resultList f.resultTypes.size) (s.fn H ds).results [])
  (hargs:(s.fn H ds).args=ds) (hvars:(s.fn H ds).vars=[]) (he:Ext W W')
  (hok:∀ (j:Nat) (t:TypeId) (r:Value),f.resultTypes[j]?=some t→(v.resultList f.resultTypes.size)[j]?=some r→Value.okWide P W' .any 0 t r) :
  s.post enc P f apart fresh handsOn again W args v W':=by
 have hlt:=hW.lt;have hW0:=hW;obtain ⟨p,q,hA,hV,hpq,_,_⟩:=hW;rw [hv] at hV;obtain ⟨rfl,rfl⟩:=trodVars_none hV;rw [List.append_nil] at hpq;subst hpq;refine qnt (pa:=before) (pv:=[]) hW0 ?_ ?_ ?_ (by simp) he hok
 ·rw [List.append_nil];exact hres
 ·rw [List.append_nil,hargs];exact fun sp hsp=>qf5 hl hr hA (fun x hx=>Below.same he (hlt x hx)) hsp
 ·rw [List.append_nil,hvars,hv];exact fun _ _=>rfl
structure Opn (enc:TypeId × Value→H) (P:Program) (w:World) (t:TypeId) (cs:List Value):Prop where
 h:∃ n d ps,DataW.trod enc P w 0 (fun _=>true) true n t cs=some (d,ps)∧∀ m∈DataW.weights P t d,m≤reachBytes
theorem qer {t:TypeId} {d:DataW H} {m:Nat} (hm:m∈DataW.weights P t d):∀ (ds:List (DataW H)),d∈ds→m∈DataW.weightsAll P t ds
 | [],h=>by simp at h
 | x::ds,h=>by
  rw [DataW.weightsAll]
  rcases List.mem_cons.1 h with rfl|h
  ·exact List.mem_append_left _ hm
  ·exact List.mem_append_right _ (qer hm ds h)
section
variable {w:World} {t:TypeId}
theorem Opn.of {ts:List TypeId} {vs:List Value} {ds:List (DataW H)} {ps:List MemPlace} (h:DataW.TrodAll enc P w 0 (fun _=>true) true ts vs ds ps) (hw:(DataW.weightsEach P ts ds).all (·≤reachBytes)=true) :
  ∀ (i:Nat) u v,ts[i]?=some u→vs[i]?=some v→Opn enc P w u v.cells.toList:=by
 have key:∀ (ts:List TypeId) (vs:List Value) (ds:List (DataW H)) (ps:List MemPlace),DataW.TrodAll enc P w 0 (fun _=>true) true ts vs ds ps→(∀ m∈DataW.weightsEach P ts ds,m≤reachBytes)→
   ∀ (i:Nat) u v,ts[i]?=some u→vs[i]?=some v→Opn enc P w u v.cells.toList:=by
  intro ts
  induction ts with
  | nil=>intro vs ds ps _ _ i u v hu;simp at hu
  | cons t ts ih=>
   intro vs ds ps h hw i u v hu hv;obtain ⟨x,vs',d,ds',p,q,rfl,rfl,rfl,⟨n,ha⟩,hb⟩:=trodAll_cons h;rw [DataW.weightsEach] at hw;cases i with
   | zero=>
    simp at hu hv;subst hu hv;exact ⟨n,d,p,ha,fun m hm=>hw m (List.mem_append_left _ hm)⟩
   | succ i=>exact ih vs' ds' q hb (fun m hm=>hw m (List.mem_append_right _ hm)) i u v (by simpa using hu) (by simpa using hv)
 exact key ts vs ds ps h (fun m hm=>of_decide_eq_true (List.all_eq_true.1 hw m hm))
theorem qus {w:World} {a:Addr} {v:Value} (h:w.cell? a=some v):a=⟨a.block,a.off,none⟩:=by
 obtain ⟨b,o,s⟩:=a;cases s with
 | none=>rfl
 | some s=>
  exfalso
  unfold World.cell? at h;simp at h
  split at h<;>simp_all
end
end
end V
end Go.Proofs.YtajgbepghniciaaGreatDoor
namespace Go.Proofs.YtajgbepghniciaaGreatDoor
open Go.ChangeShapes Go.WideShapes Go.RowKit V
set_option maxRecDepth 100000
theorem qz4 {k:IntKind} {n:Int} (h:(Lit.int k n).wf=true):InR k n:=by
 simp only [Lit.wf,Bool.and_eq_true,decide_eq_true_eq] at h;cases k<;>exact h
section
variable {H:Type} {enc:TypeId × Value→H} {W:World}
instance:Inhabited PN:=⟨⟨0,⟨#[]⟩,0,0,none,0,[],none,0,[]⟩⟩
end
open Go.RowKit V
set_option maxRecDepth 100000
def basesP:List (Int × Int):=[(192,214),(216,246),(248,767),(880,893),(895,8191),(8204,8205),(8304,8591),(11264,12271),(12289,55295),(63744,64975),(65008,65533),(65536,983039)]
def qbo:List Value:=basesP.flatMap fun x=>[.int .i32 x.1,.int .i32 x.2]
def inP (r:Int) (x:Int × Int):Bool:=decide (x.1≤r∧r≤x.2)
def letN (r:Int):Bool:=decide (97≤r∧r≤122∨65≤r∧r≤90)
def digN (r:Int):Bool:=decide (48≤r∧r≤57)
def qhe (r:Int):Bool:=letN r||basesP.any (inP r)
def qev (r:Int):Bool:=qhe r||decide (r=95)
def qcw (r:Int):Bool:=qev r||digN r||decide (r=45∨r=183∨(768≤r∧r≤879)∨(8255≤r∧r≤8256))
def labB (r:Int):Bool:=qev r||digN r
theorem qvi:∀ x∈basesP,128≤x.1:=by decide
theorem qou:∀ i (h:i<basesP.length),qbo[i*2]?=some (.int .i32 basesP[i].1)∧qbo[i*2+1]?=some (.int .i32 basesP[i].2)∧128≤basesP[i].1:=by
 intro i h;refine ⟨?_,?_,qvi _ (List.getElem_mem h)⟩
 all_goals
 have h:i<12:=h;obtain rfl|rfl|rfl|rfl|rfl|rfl|rfl|rfl|rfl|rfl|rfl|rfl:i=0∨i=1∨i=2∨i=3∨i=4∨i=5∨i=6∨i=7∨i=8∨i=9∨i=10∨i=11:=by omega
 all_goals rfl
theorem qmc (s:ByteArray) (p:Nat) (hp:p≤s.size) (hs:s.size≤140737488355328) (w:World) :
  Gv Tryz.prog 204 [.string s,.int .i64 p] w fun v w'=>v=.tuple #[.int .i32 (decN (s.data.toList.drop p)).1,.int .i64 (decN (s.data.toList.drop p)).2]∧w'=w:=by
 by_cases h:p<s.size
 ·exact qpi s p h hs w
 ·have e:s.data.toList.drop p=[]:=List.drop_eq_nil_of_le (by simp;omega);rw [e];refine zE Tryz.func204 Tryz.ntmps204 ?_;(conv=>whnf);refine zN (fun _=>?_);(conv=>whnf);(iterate 4 (refine zU ?_;(conv=>whnf)));refine zY (fun _=>?_);(conv=>whnf);exact ⟨rfl,rfl⟩
theorem qgk (r:Int) (w:World):Gv Tryz.prog 301 [.int .i32 r] w fun v w'=>v=.bool (letN r)∧w'=w:=by
 refine zE Tryz.func301 Tryz.ntmps301 ?_;conv=>whnf
 (repeat' (first|((with_reducible refine zT ?_);(conv=>whnf))|((with_reducible refine zU ?_);(conv=>whnf))|((with_reducible refine zC (fun _=>?_) (fun _=>?_))<;>first|(exfalso;omega)|(conv=>whnf))))
 all_goals (refine ⟨congrArg Value.bool ?_,rfl⟩;rw [Bool.eq_iff_iff];simp [letN];try omega)
theorem qb1 (r:Int) (w:World):Gv Tryz.prog 207 [.int .i32 r] w fun v w'=>v=.bool (digN r)∧w'=w:=by
 refine zE Tryz.func207 Tryz.ntmps207 ?_;conv=>whnf
 (repeat' (first|((with_reducible refine zT ?_);(conv=>whnf))|((with_reducible refine zU ?_);(conv=>whnf))|((with_reducible refine zC (fun _=>?_) (fun _=>?_))<;>first|(exfalso;omega)|(conv=>whnf))))
 all_goals (refine ⟨congrArg Value.bool ?_,rfl⟩;rw [Bool.eq_iff_iff];simp [digN];try omega)
theorem qsl {w:World} {g k:Nat} {v:Value} (h:w.cell? ⟨g,0+k,none⟩=some v):w.cell? ⟨g,0+k*1,none⟩=some v:=by rwa [Nat.mul_one]
theorem qo2 {w:World} {g k:Nat} {v:Value} (h:w.cell? ⟨g,0+(k+1),none⟩=some v):w.cell? ⟨g,0+(k+1)*1,none⟩=some v:=by rwa [Nat.mul_one]
theorem qvh (r:Int) (w:World) (hT:CellsAt w 3 0 qbo):Gv Tryz.prog 253 [.int .i32 r] w fun v w'=>v=.bool (qhe r)∧w'=w:=by
 have hlow:r<128→qhe r=letN r:=fun h=>by
  have:basesP.any (inP r)=false:=by
   rw [List.any_eq_false];intro x hx;obtain ⟨i,hi,rfl⟩:=List.mem_iff_getElem.1 hx;have:=(qou i hi).2.2;simp [inP];omega
  simp [qhe,this]
 have hhi:128≤r→qhe r=basesP.any (inP r):=fun h=>by
  have:letN r=false:=by simp [letN];omega
  simp [qhe,this]
 refine zE Tryz.func253 Tryz.ntmps253 ?_;(conv=>whnf);refine zC (fun _=>?_) (fun _=>?_)<;>(conv=>whnf)
 ·refine CallV.of (qgk r w) ?_;rintro v w1 ⟨rfl,rfl⟩;(conv=>whnf);exact ⟨by rw [hlow (by omega)],rfl⟩
 ·refine qm (fun i:Nat=>[(0,.int .i32 r),(3,.int .i64 (i*2:Nat))]) (fun i w1=>i≤12∧(basesP.take i).any (inP r)=false∧w1=w) (fun i=>12-i) 0 ⟨rfl,rfl,trivial⟩ ⟨by omega,rfl,rfl⟩ ?_;rintro i w1 ρ' ⟨h1,h2,rfl⟩;conv=>whnf
  (repeat' (first|((with_reducible refine zC (fun _=>?_) (fun _=>?_))<;>first|(exfalso;omega)|(conv=>whnf))|((with_reducible refine zX ?_);(conv=>whnf))))
  ·have hi:i<basesP.length:=show i<12 by omega
   obtain ⟨b1,b2,_⟩:=qou i hi;have hany:∀ c,inP r basesP[i]=c→(basesP.take (i+1)).any (inP r)=c:=fun c hc=>by
    rw [List.take_succ_eq_append_getElem hi,List.any_append,h2,List.any_cons,hc];simp
   refine LoadV.of (qsl (hT _ _ b1)) ?_;conv=>whnf
   (repeat' (first|(refine zA ?_;(conv=>whnf))|((with_reducible refine zT ?_);(conv=>whnf))|((with_reducible refine zU ?_);(conv=>whnf))|((with_reducible refine zC (fun _=>?_) (fun _=>?_))<;>first|(exfalso;omega)|(conv=>whnf))))
   ·refine ⟨i*2+1,by omega,by omega,?_⟩;(conv=>whnf);refine zT ?_;(conv=>whnf);refine LoadV.of (qo2 (hT _ _ b2)) ?_;conv=>whnf
    (repeat' (first|(refine zA ?_;(conv=>whnf))|((with_reducible refine zT ?_);(conv=>whnf))|((with_reducible refine zC (fun _=>?_) (fun _=>?_))<;>first|(exfalso;omega)|(conv=>whnf))))
    ·refine ⟨congrArg Value.bool ?_,rfl⟩;rw [hhi (by omega)];exact (List.any_eq_true.2 ⟨basesP[i],List.getElem_mem hi,by simp [inP];omega⟩).symm
    ·exact ⟨i+1,⟨rfl,congrArg (Value.int .i64) (by omega),trivial⟩,⟨by omega,hany _ (by simp [inP];omega),rfl⟩,by omega⟩
   ·exact ⟨i+1,⟨rfl,congrArg (Value.int .i64) (by omega),trivial⟩,⟨by omega,hany _ (by simp [inP];omega),rfl⟩,by omega⟩
  ·refine ⟨congrArg Value.bool ?_,rfl⟩;rw [hhi (by omega),← h2,List.take_of_length_le (show 12≤i by omega)]
theorem qi1 (r:Int) (w:World) (hT:CellsAt w 3 0 qbo):Gv Tryz.prog 206 [.int .i32 r] w fun v w'=>v=.bool (qev r)∧w'=w:=by
 refine zE Tryz.func206 Tryz.ntmps206 ?_;(conv=>whnf);refine CallV.of (qvh r w hT) ?_;rintro v w1 ⟨rfl,rfl⟩;(conv=>whnf);unfold qev;cases qhe r
 ·(iterate 3 (refine zU ?_;(conv=>whnf)))
  all_goals (refine ⟨congrArg Value.bool ?_,rfl⟩;rw [Bool.eq_iff_iff];simp;try omega)
 ·(iterate 3 (refine zT ?_;(conv=>whnf)))
  all_goals (refine ⟨congrArg Value.bool ?_,rfl⟩;rw [Bool.eq_iff_iff];simp;try omega)
theorem ql2 (r:Int) (w:World) (hT:CellsAt w 3 0 qbo):Gv Tryz.prog 205 [.int .i32 r] w fun v w'=>v=.bool (qcw r)∧w'=w:=by
 refine zE Tryz.func205 Tryz.ntmps205 ?_;(conv=>whnf);refine CallV.of (qi1 r w hT) ?_;rintro v w1 ⟨rfl,rfl⟩;(conv=>whnf);unfold qcw;cases qev r
 ·(iterate 2 (refine zU ?_;(conv=>whnf)));refine CallV.of (qb1 r w1) ?_;rintro v w1 ⟨rfl,rfl⟩;(conv=>whnf);cases digN r
  ·(repeat' (first|((with_reducible refine zT ?_);(conv=>whnf))|((with_reducible refine zU ?_);(conv=>whnf))|((with_reducible refine zC (fun _=>?_) (fun _=>?_))<;>first|(exfalso;omega)|(conv=>whnf))))
   all_goals (refine ⟨congrArg Value.bool ?_,rfl⟩;rw [Bool.eq_iff_iff];simp;try omega)
  ·refine zU ?_;(conv=>whnf);(iterate 16 (refine zT ?_;(conv=>whnf)))
   all_goals (refine ⟨congrArg Value.bool ?_,rfl⟩;rw [Bool.eq_iff_iff];simp;try omega)
 ·(iterate 19 (refine zT ?_;(conv=>whnf)))
  all_goals (refine ⟨congrArg Value.bool ?_,rfl⟩;rw [Bool.eq_iff_iff];simp;try omega)
theorem qqq (r:Int) (w:World) (hT:CellsAt w 3 0 qbo):Gv Tryz.prog 143 [.int .i32 r] w fun v w'=>v=.bool (labB r)∧w'=w:=by
 refine zE Tryz.func143 Tryz.ntmps143 ?_;(conv=>whnf);refine CallV.of (qi1 r w hT) ?_;rintro v w1 ⟨rfl,rfl⟩;(conv=>whnf);unfold labB;cases qev r
 ·(iterate 2 (refine zU ?_;(conv=>whnf)));refine CallV.of (qb1 r w1) ?_;rintro v w1 ⟨rfl,rfl⟩;(conv=>whnf);cases digN r
  ·refine zU ?_;conv=>whnf
   all_goals (refine ⟨congrArg Value.bool ?_,rfl⟩;rw [Bool.eq_iff_iff];simp;try omega)
  ·refine zU ?_;conv=>whnf
   all_goals (refine ⟨congrArg Value.bool ?_,rfl⟩;rw [Bool.eq_iff_iff];simp;try omega)
 ·(iterate 3 (refine zT ?_;(conv=>whnf)))
  all_goals (refine ⟨congrArg Value.bool ?_,rfl⟩;rw [Bool.eq_iff_iff];simp;try omega)
open Go.RowKit V
set_option maxRecDepth 100000
def okT:Bool→List Nat→Bool
 | d,[] => !d
 | _,r::l=>(qcw r||decide (r=46))&&okT (decide (r=46)) l
def labL:List Nat→Bool
 | []=>false
 | r::l=>labB r&&okT false l
noncomputable def qbn (s:ByteArray):Bool:=match scal s.data.toList with
 | some l=>labL l
 | none=>false
theorem qpy {l:List UInt8} (h:(decN l).2=0):scal l=none∨l=[]:=by
 cases l with
 | nil=>exact .inr rfl
 | cons a t=>exact .inl (qfw (by simp) h)
noncomputable def qje (d:Bool) (l:List UInt8):Bool:=match scal l with
 | some l=>okT d l
 | none=>false
theorem quf {d:Bool} {s:ByteArray} {i:Nat} (hi:i≤s.size) (h:(decN (s.data.toList.drop i)).2=0):qje d (s.data.toList.drop i)=decide (i=s.size∧d=false):=by
 rcases qpy h with h1|h1
 ·have hne:i≠s.size:=by
   intro e;rw [List.drop_eq_nil_of_le (by simp;omega)] at h1;rw [scal] at h1;cases h1
  rw [qje,h1];simp [hne]
 ·have e:i=s.size:=by
   have:=congrArg List.length h1;rw [qc9] at this;simp at this;omega
  rw [qje,h1,scal];cases d<;>simp [okT,e]
theorem qjz {d:Bool} {l:List UInt8} (h:(decN l).2≠0):qje d l=((qcw (decN l).1||decide ((decN l).1=46))&&qje (decide ((decN l).1=46)) (l.drop (decN l).2)):=by
 have hne:l≠[]:=by rintro rfl;exact h rfl
 rw [qje,qd8 hne h,qje];cases scal (l.drop (decN l).2) with
 | none=>simp
 | some t=>rfl
theorem qti (s:ByteArray):qbn s=if (decN s.data.toList).2=0 then false else labB (decN s.data.toList).1&&qje false (s.data.toList.drop (decN s.data.toList).2):=by
 split
 ·rename_i h
  rcases qpy h with h1|h1
  ·rw [qbn,h1]
  ·rw [qbn,h1,scal];rfl
 ·rename_i h
  have hne:s.data.toList≠[]:=by intro e;rw [e] at h;exact h rfl
  rw [qbn,qd8 hne h,qje];cases scal (s.data.toList.drop (decN s.data.toList).2) with
  | none=>simp
  | some t=>rfl
theorem qy9 (s:ByteArray) (hs:s.size≤140737488355328) (w:World) (hT:CellsAt w 3 0 qbo) :
  Gv Tryz.prog 142 [.string s,.int .i64 0,.func (.func 143) #[] #[]] w fun v w'=>(∃ n:Nat,v=.int .i64 n∧qbn s=decide (n≠0∧n=s.size))∧w'=w:=by
 refine zE Tryz.func142 Tryz.ntmps142 ?_;(conv=>whnf);refine CallV.of (qmc s 0 (Nat.zero_le _) hs w) ?_;rw [List.drop_zero];rintro v w1 ⟨rfl,rfl⟩;have hle:=qgb s.data.toList;have hsz:s.data.toList.length=s.size:=by simp
 have hL:=qti s;conv=>whnf
 (repeat' (first|((with_reducible refine zT ?_);(conv=>whnf))|((with_reducible refine zU ?_);(conv=>whnf))|((with_reducible refine zC (fun _=>?_) (fun _=>?_))<;>first|(exfalso;omega)|(conv=>whnf))))
 ·refine ⟨⟨0,rfl,?_⟩,rfl⟩;rw [hL,if_pos (by omega)];rfl
 ·rw [if_neg (by omega)] at hL;refine CallV.of (qqq _ w1 hT) ?_;rintro v w1 ⟨rfl,rfl⟩;cases hb:labB (decN s.data.toList).1
  ·rw [hb] at hL;(conv=>whnf);(iterate 2 (refine zU ?_;(conv=>whnf)));refine zP ?_;refine zU ?_;(conv=>whnf);refine ⟨⟨0,rfl,?_⟩,rfl⟩;rw [hL];rfl
  ·rw [hb] at hL;(conv=>whnf);(iterate 2 (refine zU ?_;(conv=>whnf)));refine zP ?_;refine zT ?_;(conv=>whnf);refine zA ?_;(conv=>whnf);refine qm (fun x:Nat × Nat=>[(0,.string s),(1,.int .i64 0),(9,.int .i64 x.2),(10,.int .i64 x.1)])
    (fun x w2=>x.1≤s.size∧x.2≤x.1∧0<x.2∧qbn s=qje (decide (x.2≠x.1)) (s.data.toList.drop x.1)∧w2=w1) (fun x=>s.size-x.1) ((decN s.data.toList).2,(decN s.data.toList).2) ⟨rfl,rfl,by exact congrArg (Value.int .i64) (Int.zero_add _),by exact congrArg (Value.int .i64) (Int.zero_add _),trivial⟩ ⟨by simp only;omega,by simp,by simp only;omega,by simpa using hL,rfl⟩ ?_
   rintro ⟨i,e⟩ w2 ρ' ⟨h1,h2,h3,h4,rfl⟩;simp only at h1 h2 h3 h4;(conv=>whnf);refine CallV.of (qmc s i h1 hs w2) ?_;rintro v w2 ⟨rfl,rfl⟩;have hle:=qgb (s.data.toList.drop i);rw [qc9] at hle;conv=>whnf
   (repeat' (first|(refine zA ?_;(conv=>whnf))|((with_reducible refine zT ?_);(conv=>whnf))|((with_reducible refine zU ?_);(conv=>whnf))|((with_reducible refine zC (fun _=>?_) (fun _=>?_))<;>first|(exfalso;omega)|(conv=>whnf))))
   ·refine ⟨⟨e,congrArg (Value.int .i64) (Int.sub_zero _),?_⟩,rfl⟩;rw [h4,quf h1 (by omega)]
    by_cases he:e=i
    ·subst he;simp;omega
    ·simp [he];omega
   ·have h5:=qjz (d:=decide (e≠i)) (l:=s.data.toList.drop i) (by omega);rw [h5,decide_eq_false (show ¬ (decN (s.data.toList.drop i)).1=46 by omega),Bool.or_false,List.drop_drop] at h4;refine CallV.of (ql2 _ w2 hT) ?_;rintro v w2 ⟨rfl,rfl⟩;cases hf:qcw (decN (s.data.toList.drop i)).1
    ·rw [hf] at h4;(conv=>whnf);(iterate 2 (refine zT ?_;(conv=>whnf);refine zU ?_;(conv=>whnf)));refine zP ?_;refine zU ?_;(conv=>whnf);refine zA ?_;(conv=>whnf);refine ⟨⟨e,congrArg (Value.int .i64) (Int.sub_zero _),?_⟩,rfl⟩;rw [h4];simp;omega
    ·rw [hf] at h4;(conv=>whnf);(iterate 2 (refine zT ?_;(conv=>whnf);refine zU ?_;(conv=>whnf)));refine zP ?_;refine zT ?_;(conv=>whnf);refine zA ?_;(conv=>whnf);refine zY (fun _=>?_);conv=>whnf
     ·exact ⟨(i+(decN (s.data.toList.drop i)).2,i+(decN (s.data.toList.drop i)).2),⟨rfl,rfl,rfl,rfl,trivial⟩,⟨by simp only;omega,Nat.le_refl _,by simp only;omega,by simpa using h4,rfl⟩,by simp only;omega⟩
   ·have h5:=qjz (d:=decide (e≠i)) (l:=s.data.toList.drop i) (by omega);rw [h5,decide_eq_true (show (decN (s.data.toList.drop i)).1=46 by omega),Bool.or_true,Bool.true_and,List.drop_drop] at h4;refine ⟨(i+(decN (s.data.toList.drop i)).2,e),⟨rfl,rfl,rfl,rfl,trivial⟩,⟨by simp only;omega,by simp only;omega,h3,?_,rfl⟩,by simp only;omega⟩;rw [h4]
    congr 1
    exact (decide_eq_true (by simp only;omega)).symm
theorem qnn (s:ByteArray) (hs:s.size≤140737488355328) (w:World) (hT:CellsAt w 3 0 qbo) :
  Gv Tryz.prog 83 [.string s,.int .i64 0] w fun v w'=>(∃ n:Nat,v=.int .i64 n∧qbn s=decide (n≠0∧n=s.size))∧w'=w:=by
 refine zE Tryz.func83 Tryz.ntmps83 ?_;(conv=>whnf);refine CallV.of (qy9 s hs w hT) ?_;rintro v w' ⟨⟨n,rfl,h⟩,rfl⟩;(conv=>whnf);exact ⟨⟨n,rfl,h⟩,rfl⟩
noncomputable def labE (s:ByteArray):Nat:=if qbn s=true then 0 else 60
theorem qtj (s:ByteArray) (hs:s.size≤140737488355328) (w:World) (hT:CellsAt w 3 0 qbo) :
  Gv Tryz.prog 44 [.string s] w fun v w'=>v=.int .i64 (labE s)∧w'=w:=by
 refine zE Tryz.func44 Tryz.ntmps44 ?_;(conv=>whnf);refine CallV.of (qnn s hs w hT) ?_;rintro v w' ⟨⟨n,rfl,h⟩,rfl⟩;(conv=>whnf);unfold labE;rw [h]
 (repeat' (first|((with_reducible refine zT ?_);(conv=>whnf))|((with_reducible refine zU ?_);(conv=>whnf))|((with_reducible refine zC (fun _=>?_) (fun _=>?_))<;>first|(exfalso;omega)|(conv=>whnf))))
 ·rw [if_neg (by simp;omega)];exact ⟨rfl,rfl⟩
 ·rw [if_neg (by simp;omega)];exact ⟨rfl,rfl⟩
 ·rw [if_pos (by simp;omega)];exact ⟨rfl,rfl⟩
open Go.RowKit V
set_option maxRecDepth 100000
def encL (r:Nat):List UInt8:=
 if r<0x80 then [UInt8.ofNat r]
 else if r<0x800 then [UInt8.ofNat (0xC0+r/64),UInt8.ofNat (0x80+r%64)]
 else if r<0x10000 then [UInt8.ofNat (0xE0+r/4096),UInt8.ofNat (0x80+r/64%64),UInt8.ofNat (0x80+r%64)]
 else [UInt8.ofNat (0xF0+r/262144),UInt8.ofNat (0x80+r/4096%64),UInt8.ofNat (0x80+r/64%64),UInt8.ofNat (0x80+r%64)]
theorem qxt (n:Nat) (h:n<256):((UInt8.ofNat n).toNat:Int)=n:=by rw [UInt8.toNat_ofNat'];omega
open Go.RowKit V
set_option maxRecDepth 100000
namespace V
theorem Rw.setCell {w0 w w':World} {v:Value} {e:TypeId} {size n:Nat} {xs:List Value} {L:List (Nat × Obj)} (h:Rw w0 w v e size n xs L) {i b off:Nat} {x:Value} {cs:Array Value} {t:TypeId} {fr:Nat × Nat}
  (hi:L[i]?=some (b,.cells cs t fr)) (hw:w'=w.setCell ⟨b,off,none⟩ x):Rw w0 w' v e size n xs (L.set i (b,.cells (cs.setIfInBounds off x) t fr)):=by
 have hm:=h.mem.setCell hi hw;have hb:v.ownBlock≠some b:=h.apart _ (List.mem_of_getElem? hi);refine ⟨hm,?_,fun y hy=>?_⟩
 ·subst hw;refine h.own.kept (row:=some b) ⟨rfl,rfl,rfl,by simp [World.setCell],fun k _ hk=>Below.heap_setCell _ _ _ _ (fun e=>hk (by simp [e]))⟩ ?_;exact Or.inr hb
 ·rcases List.mem_or_eq_of_mem_set hy with hy|rfl
  ·exact h.apart y hy
  ·exact hb
def qjh (e:TypeId) (L:List (Nat × Obj)):Prop:=∀ x∈L,∀ c fz,x.2≠.cells c e fz
theorem AppV.rwS {P:Program} {w0 w:World} {v:Value} {e:TypeId} {n:Nat} {xs:List Value} {L:List (Nat × Obj)} {t u ty:TypeId} {i:TypeInfo} {s:ByteArray} {K:Value→World→Prop}
  (ht:P.underlying t=some (.slice e)) (hu:P.underlying u=some .string) (hi:P.info? e=some i) (hz:i.zero=some (.int .u8 0)) (hsize:i.size=1) (hby:i.bytes=1)
  (h:Rw w0 w v e 1 n xs L) (hL:qjh e L) (hb:n+s.size≤140737488355328)
  (hk:∀ v' w',Rw w0 w' v' e 1 (n+s.size) (xs++byteCells s.data.toList) L→K v' w'):AppV P #[t,u] ty v (.string s) w K:=by
 obtain ⟨v',w',hrun,h2,h3,_⟩:=Lib.run_append_own_string (P:=P) w w0.heap.size t u ty e i ht hu hi hz hsize hby v n xs h.own s (by simp only [maxLen];omega) hb h.mem.ext.size;have hm:=h.grown h3 (fun k hk=>⟨(h.own.lt k hk).1,fun x hx e=>h.apart x hx (by rw [hk,e])⟩);refine ⟨v',w',hrun,hk _ _ ⟨hm,h2,fun x hx he=>?_⟩⟩;have hx':=hm.get hx
 rcases h2.2 with ⟨rfl,_⟩|⟨g,cap,cur,rfl,_,hg,_⟩
 ·cases he
 ·cases he;rw [hx'] at hg;exact hL x hx _ _ (Option.some.inj hg)
theorem Fall.conv {P:Program} {ρ:Nat→Value} {o:Oper} {src dst:TypeId} {x:Operand} {u:Value} {w:World} {K:Value→World→Prop} (ho:o.op=.convert src dst x)
  (hr:(convert src dst (ev ρ x)).run P w=.ok u w) (hk:K u w):Fall P (execOp (ev ρ) o) w K:=by
 refine ⟨.inl ⟨u,w,?_,hk⟩⟩;simp [execOp,ho,hr]
theorem RunV.neqSame {P:Program} {t te:TypeId} {xo yo:Operand} {j:TypeInfo} {w:World} {K:Value→World→Prop} (a:Addr) (hp:P.underlying t=some (.pointer te)) (hte:P.info? te=some j) (hk:K (.bool false) w) :
  RunV P (do eqGuard .neq t xo yo (.pointer (some a)) (.pointer (some a));binOp .neq t (.pointer (some a)) (.pointer (some a))) w K:=by
 refine ⟨.bool false,w,?_,hk⟩;simp [eqGuard,Lib.run_neq_ptr_same w a hp hte]
def BldB (b:Nat) (p v:Value):Nat × Obj:=(b,.cells #[p,v] 303 (0,0))
structure Bld (w0 w:World) (b:Nat) (l:List UInt8) (L:List (Nat × Obj)):Prop where
 h:∃ p v,(p=.pointer none∨p=.pointer (some ⟨b,0,none⟩))∧Rw w0 w v 5 1 l.length (byteCells l) (BldB b p v::L)
end V
theorem qkf (b:Nat) (p v:Value) (w0 w:World) (L:List (Nat × Obj)) (hp:p=.pointer none∨p=.pointer (some ⟨b,0,none⟩)) (h:Mem w0 w (BldB b p v::L)) :
  Gv Tryz.prog 245 [.pointer (some ⟨b,0,none⟩)] w fun r w'=>r=.tuple #[]∧((p=.pointer (some ⟨b,0,none⟩)∧w'=w)∨w'=w.setCell ⟨b,0,none⟩ (.pointer (some ⟨b,0,none⟩))):=by
 have hc:w.cell? ⟨b,0,none⟩=some p:=by rw [qd (h.get (List.mem_cons_self ..))];rfl
 have hsh:w.shape? b=some (303,2):=by simp [World.shape?,h.get (List.mem_cons_self ..)]
 rcases hp with rfl|rfl
 ·refine zE Tryz.func245 Tryz.ntmps245 ?_;(conv=>whnf);refine LoadV.of hc ?_;(conv=>whnf);refine Tst.yes rfl ?_;(conv=>whnf);refine Fall.conv rfl (Lib.run_to_unsafe (t:=303) (e:=303) (cells:=2) _ _ Tryz.underlying301 Tryz.underlying332 (j:=_) (Option.some_get (by kernel_rfl)).symm (by decide +kernel) hsh (Nat.zero_lt_succ 1)) ?_;(conv=>whnf);refine ⟨.inr ⟨.pointer (some ⟨b,0,none⟩),w,by rw [run_callFunc_extern Tryz.func296 (by kernel_rfl) (by kernel_rfl) (by kernel_rfl) (e:=Extern.AbiNoEscape.same) (by kernel_rfl)];rfl,?_⟩⟩;(conv=>whnf);refine Fall.conv rfl (Lib.run_from_unsafe (u:=303) (e:=303) (cells:=2) _ _ Tryz.underlying332 Tryz.underlying301 (j:=_) (Option.some_get (by kernel_rfl)).symm hsh (by kernel_rfl)) ?_;(conv=>whnf);refine StoreV.own (h.get (List.mem_cons_self ..)) (Nat.zero_lt_succ 1) rfl fun w' hw=>?_;(conv=>whnf);exact ⟨rfl,.inr hw⟩
 ·refine zE Tryz.func245 Tryz.ntmps245 ?_;(conv=>whnf);refine LoadV.of hc ?_;(conv=>whnf);refine Tst.no rfl ?_;(conv=>whnf);refine LoadV.mem (i:=0) (by assumption) rfl rfl ?_;(conv=>whnf);refine RunV.neqSame _ Tryz.underlying301 (j:=_) rfl ?_;(conv=>whnf);refine zU ?_;(conv=>whnf);exact ⟨rfl,.inl ⟨rfl,rfl⟩⟩
theorem qbd (a b:List UInt8):byteCells (a++b)=byteCells a++byteCells b:=by simp [byteCells]
theorem qga (a:List UInt8):(byteCells a).length=a.length:=by simp [byteCells]
theorem qg4 {P:Program} {f:FuncId} {vs:List Value} {w:World} {R:Value→World→Prop} (he:qdx P f=true) (h:Calls P f vs.toArray w fun e w'=>∃ v,e=.returned v∧R v w'):Gv P f vs w R:=⟨he,h⟩
theorem qqu {b:Nat} {p v:Value} {L:List (Nat × Obj)} (hL:qjh 5 L):qjh 5 (BldB b p v::L):=by
 intro x hx c fz
 rcases List.mem_cons.1 hx with rfl|hx
 ·intro e;cases e
 ·exact hL x hx c fz
theorem qco (b:Nat) (l:List UInt8) (s:ByteArray) (w0 w:World) (L:List (Nat × Obj)) (h:Bld w0 w b l L) (hL:qjh 5 L) (hs:l.length+s.size≤140737488355328) :
  Gv Tryz.prog 194 [.pointer (some ⟨b,0,none⟩),.string s] w fun r w'=>r=.tuple #[.int .i64 s.size,.nilIface]∧Bld w0 w' b (l++s.data.toList) L:=by
 obtain ⟨p,v,hp,hR⟩:=h;have hcc:=qkf b p v w0 w L hp hR.mem;obtain ⟨A,c,rfl⟩:=hR.slice;refine zE Tryz.func194 Tryz.ntmps194 ?_;(conv=>whnf);refine CallV.of (hcc) ?_;rintro r w1 ⟨rfl,hw⟩;have hR1:Rw w0 w1 (.slice A l.length c) 5 1 l.length (byteCells l) (BldB b (.pointer (some ⟨b,0,none⟩)) (.slice A l.length c)::L):=by
  rcases hw with ⟨rfl,rfl⟩|hw
  ·exact hR
  ·exact hR.setCell (i:=0) rfl hw
 (conv=>whnf);refine LoadV.own (hR1.mem.get (List.mem_cons_self ..)) rfl ?_;(conv=>whnf);refine AppV.rwS (i:=_) Tryz.underlying45 Tryz.underlying9 (Option.some_get (by kernel_rfl)).symm (by kernel_rfl) (by kernel_rfl) (by kernel_rfl) hR1 (qqu hL) hs fun v' w2 hR2=>?_;obtain ⟨A',c',rfl⟩:=hR2.slice;(conv=>whnf);refine StoreV.own (hR2.mem.get (List.mem_cons_self ..)) (Nat.lt_succ_self 1) rfl fun w3 hw=>?_;have hR3:=hR2.setCell (i:=0) rfl hw;(conv=>whnf);refine ⟨rfl,⟨⟨.pointer (some ⟨b,0,none⟩),.slice A' (l.length+s.size) c',.inr rfl,?_⟩⟩⟩;have e:(l++s.data.toList).length=l.length+s.size:=by simp
 rw [e,qbd];exact hR3
theorem qf9 (b:Nat) (l:List UInt8) (w0 w:World) (L:List (Nat × Obj)) (h:Bld w0 w b l L) :
  Gv Tryz.prog 195 [.pointer (some ⟨b,0,none⟩)] w fun r w'=>r=.string ⟨l.toArray⟩∧Ext w0 w':=by
 obtain ⟨p,v,hp,hR⟩:=h;have hb:=hR.mem.own _ (List.mem_cons_self ..);have key:Lib.BuilderAt 303 5 w0.heap.size b p (Lib.byteCells l) w:=by
  refine ⟨hb.1,v,hb.2,?_,hR.apart _ (List.mem_cons_self ..)⟩;have:=hR.own;rw [← qga l] at this;exact this
 refine qg4 (by kernel_rfl) ((Tryz.Builder_String_any w0.heap.size b l w ?_ hR.mem.ext.size).mono ?_)
 ·rcases hp with rfl|rfl
  ·exact .inl key
  ·exact .inr key
 ·rintro e w' ⟨rfl,hB⟩;exact ⟨_,rfl,rfl,Below.trans hR.mem.ext hB⟩
open Go.RowKit V
set_option maxRecDepth 100000
theorem qjm (l:List UInt8) (h:(decN l).2≠0) :
  (∃ a t,l=a::t∧decN l=(a.toNat,1)∧a.toNat<128)∨
  (∃ a b t,l=a::b::t∧decN l=(a.toNat%32*64+b.toNat%64,2)∧192≤a.toNat∧a.toNat<224∧b.toNat/64=2∧128≤a.toNat%32*64+b.toNat%64)∨
  (∃ a b c t,l=a::b::c::t∧decN l=((a.toNat%16*64+b.toNat%64)*64+c.toNat%64,3)∧224≤a.toNat∧a.toNat<240∧b.toNat/64=2∧c.toNat/64=2∧
   2048≤(a.toNat%16*64+b.toNat%64)*64+c.toNat%64∧qal (((a.toNat%16*64+b.toNat%64)*64+c.toNat%64:Nat):Int)=true)∨
  (∃ a b c d t,l=a::b::c::d::t∧decN l=(((a.toNat%8*64+b.toNat%64)*64+c.toNat%64)*64+d.toNat%64,4)∧240≤a.toNat∧a.toNat<248∧b.toNat/64=2∧c.toNat/64=2∧d.toNat/64=2∧
   65536≤((a.toNat%8*64+b.toNat%64)*64+c.toNat%64)*64+d.toNat%64∧qal ((((a.toNat%8*64+b.toNat%64)*64+c.toNat%64)*64+d.toNat%64:Nat):Int)=true):=by
 match l with
 | []=>exact absurd rfl h
 | a::t=>
  have ha:=a.toNat_lt;generalize hd:decN (a::t)=d at h ⊢;unfold decN at hd
  by_cases h1:a.toNat<128
  ·have e:qa8 a.toNat=(1,a.toNat):=by rw [qa8,if_pos h1]
   simp only [e,Nat.sub_self,List.take_zero,List.all_nil,if_true,accR,List.foldl_nil,qdo] at hd;rw [if_neg (by simp)] at hd
   left
   refine ⟨a,t,rfl,?_,h1⟩;have hs:qal (a.toNat:Int)=true:=by simp [qal];omega
   rw [hs] at hd
   simpa using hd.symm
  by_cases h2:a.toNat<192
  ·have e:qa8 a.toNat=(0,0):=by rw [qa8,if_neg h1,if_pos h2]
   simp [e] at hd;rw [← hd] at h;exact absurd rfl h
  by_cases h3:a.toNat<224
  ·have e:qa8 a.toNat=(2,a.toNat%32):=by rw [qa8,if_neg h1,if_neg h2,if_pos h3]
   match t with
   | []=>simp [e] at hd;rw [← hd] at h;exact absurd rfl h
   | b::t=>
    simp only [e,List.take_succ_cons,List.take_zero,List.all_cons,List.all_nil,Bool.and_true,accR,List.foldl_cons,List.foldl_nil,List.length_cons,Nat.reduceSub] at hd;rw [if_neg (by omega)] at hd;cases hc:cont b<;>simp only [hc] at hd
    ·simp at hd;rw [← hd] at h;exact absurd rfl h
    ·rw [if_pos True.intro] at hd
     split at hd
     ·rw [← hd] at h;exact absurd rfl h
     ·rename_i hn
      right;left
      simp [cont] at hc;refine ⟨a,b,t,rfl,hd.symm,by omega,h3,hc,?_⟩;have h2k:qdo 2=128:=rfl;rw [h2k] at hn;omega
  by_cases h4:a.toNat<240
  ·have e:qa8 a.toNat=(3,a.toNat%16):=by rw [qa8,if_neg h1,if_neg h2,if_neg h3,if_pos h4]
   match t with
   | []=>simp [e] at hd;rw [← hd] at h;exact absurd rfl h
   | [b]=>simp [e] at hd;rw [← hd] at h;exact absurd rfl h
   | b::c::t=>
    simp only [e,List.take_succ_cons,List.take_zero,List.all_cons,List.all_nil,Bool.and_true,accR,List.foldl_cons,List.foldl_nil,List.length_cons,Nat.reduceSub] at hd;rw [if_neg (by omega)] at hd;cases hc:cont b&&cont c<;>simp only [hc] at hd
    ·simp at hd;rw [← hd] at h;exact absurd rfl h
    ·rw [if_pos True.intro] at hd
     split at hd
     ·rw [← hd] at h;exact absurd rfl h
     ·rename_i hn
      right;right;left
      simp [cont] at hc;simp only [not_or,Bool.not_eq_false] at hn;refine ⟨a,b,c,t,rfl,hd.symm,by omega,h4,hc.1,hc.2,?_,hn.2⟩;have:=hn.1;have h2k:qdo 3=2048:=rfl;omega
  by_cases h5:a.toNat<248
  ·have e:qa8 a.toNat=(4,a.toNat%8):=by rw [qa8,if_neg h1,if_neg h2,if_neg h3,if_neg h4,if_pos h5]
   match t with
   | []=>simp [e] at hd;rw [← hd] at h;exact absurd rfl h
   | [b]=>simp [e] at hd;rw [← hd] at h;exact absurd rfl h
   | [b,c]=>simp [e] at hd;rw [← hd] at h;exact absurd rfl h
   | b::c::d::t=>
    simp only [e,List.take_succ_cons,List.take_zero,List.all_cons,List.all_nil,Bool.and_true,accR,List.foldl_cons,List.foldl_nil,List.length_cons,Nat.reduceSub] at hd;rw [if_neg (by omega)] at hd;cases hc:cont b&&(cont c&&cont d)<;>simp only [hc] at hd
    ·simp at hd;rw [← hd] at h;exact absurd rfl h
    ·rw [if_pos True.intro] at hd
     split at hd
     ·rw [← hd] at h;exact absurd rfl h
     ·rename_i hn
      right;right;right
      simp [cont] at hc;simp only [not_or,Bool.not_eq_false] at hn;refine ⟨a,b,c,d,t,rfl,hd.symm,by omega,h5,hc.1,hc.2.1,hc.2.2,?_,hn.2⟩;have:=hn.1;have h2k:qdo 4=65536:=rfl;omega
  ·have e:qa8 a.toNat=(0,0):=by rw [qa8,if_neg h1,if_neg h2,if_neg h3,if_neg h4,if_neg h5]
   simp [e] at hd;rw [← hd] at h;exact absurd rfl h
theorem qlm (n:Nat) (a:UInt8) (h:n=a.toNat):UInt8.ofNat n=a:=by subst h;simp
theorem qvt {l:List UInt8} (h:(decN l).2≠0):qal (decN l).1=true∧encL (decN l).1=l.take (decN l).2∧(encL (decN l).1).length=(decN l).2:=by
 rcases qjm l h with ⟨a,t,rfl,e,h1⟩|⟨a,b,t,rfl,e,h1,h2,h3,h4⟩|⟨a,b,c,t,rfl,e,h1,h2,h3,h4,h5,h6⟩|⟨a,b,c,d,t,rfl,e,h1,h2,h3,h4,h5,h6,h7⟩
 ·rw [e];simp only;have hs:qal (a.toNat:Int)=true:=by simp [qal];omega
  refine ⟨hs,?_⟩;unfold encL;rw [if_pos h1];simp
 ·rw [e];simp only;have ha:=a.toNat_lt;have hb:=b.toNat_lt;refine ⟨by simp [qal];omega,?_⟩;unfold encL;rw [if_neg (by omega),if_pos (by omega)];rw [qlm _ a (by omega),qlm _ b (by omega)];simp
 ·rw [e];simp only;have ha:=a.toNat_lt;have hb:=b.toNat_lt;have hc:=c.toNat_lt;refine ⟨h6,?_⟩;unfold encL;rw [if_neg (by omega),if_neg (by omega),if_pos (by omega)];rw [qlm _ a (by omega),qlm _ b (by omega),qlm _ c (by omega)];simp
 ·rw [e];simp only;have ha:=a.toNat_lt;have hb:=b.toNat_lt;have hc:=c.toNat_lt;have hd:=d.toNat_lt;refine ⟨h7,?_⟩;unfold encL;rw [if_neg (by omega),if_neg (by omega),if_neg (by omega)];rw [qlm _ a (by omega),qlm _ b (by omega),qlm _ c (by omega),qlm _ d (by omega)];simp
namespace V
theorem NewV.rw {w0 w:World} {v:Value} {e:TypeId} {size n:Nat} {xs:List Value} {L:List (Nat × Obj)} {o:Obj} {K:Nat→World→Prop} (h:Rw w0 w v e size n xs L) (hk:∀ b w',Rw w0 w' v e size n xs ((b,o)::L)→K b w'):NewV w o K:=
 ⟨fun b w' hb hw=>hk b w' (h.newBlk hb hw)⟩
theorem Bld.ext {w0 w:World} {b:Nat} {l:List UInt8} {L:List (Nat × Obj)} (h:Bld w0 w b l L):Ext w0 w:=by
 obtain ⟨⟨p,v,hp,hR⟩⟩:=h;exact hR.mem.ext
end V
theorem BytesS.all {w:World} {b n:Nat} {l:List UInt8} {K:Value→Prop} (h:CellsAt w b 0 (byteCells l)) (hn:l.length=n) (hk:K (.string ⟨l.toArray⟩)):BytesS w (some ⟨b,0,none⟩) n K:=
 ⟨l,hn,fun _=>⟨b,0,rfl,h⟩,hk⟩
open Go.RowKit V
set_option maxRecDepth 100000
def alnB (pure:Bool) (c:UInt8):Bool:=letN c.toNat||(!pure&&digN c.toNat)
def qv (s:ByteArray) (lo hi:Nat) (pure:Bool):Bool:=s.data.toList.all (alnB pure)&&decide (lo≤s.size∧s.size≤hi)
theorem qcr (s:ByteArray) (lo hi:Nat) (pure:Bool) (hs:s.size≤140737488355328) (w:World) :
  Gv Tryz.prog 258 [.string s,.int .i64 lo,.int .i64 hi,.bool pure] w fun v w'=>v=.bool (qv s lo hi pure)∧Ext w w':=by
 refine zE Tryz.func258 Tryz.ntmps258 ?_;(conv=>whnf);refine NewV.mem (Mem.nil w) ?_;intro b w1 hm;(conv=>whnf);refine qm (fun pos:Nat=>[(0,.string s),(1,.int .i64 lo),(2,.int .i64 hi),(3,.bool pure),(12,.pointer (some ⟨b,0,none⟩))])
  (fun pos w2=>pos≤s.size∧Mem w w2 [(b,.stringIter s pos)]∧s.data.toList.all (alnB pure)=(s.data.toList.drop pos).all (alnB pure)) (fun pos=>s.size-pos) 0 ⟨rfl,rfl,rfl,rfl,rfl,trivial⟩ ⟨by omega,hm,rfl⟩ ?_
 rintro pos w2 ρ' ⟨hp,hm,ha⟩;(conv=>whnf);refine NextS.mem hm (i:=0) rfl ?_ ?_
 ·intro hlt w3 hm3;have hno:alnB pure (gb s pos)=false→qv s lo hi pure=false:=fun h=>by
   rw [qv,ha,qau s pos hlt,List.all_cons,h];rfl
  have hyes:alnB pure (gb s pos)=true→s.data.toList.all (alnB pure)=(s.data.toList.drop (pos+1)).all (alnB pure):=fun h=>by
   rw [ha,qau s pos hlt,List.all_cons,h];rfl
  by_cases hb:(gb s pos).toNat<128
  ·have hd:=qgc s pos hb;rw [hd] at hm3 ⊢;simp only at hm3 ⊢;(conv=>whnf);refine zT ?_;(conv=>whnf);refine CallV.of (qgk _ w3) ?_;rintro v w4 ⟨rfl,rfl⟩;cases hl:letN (gb s pos).toNat
   ·cases pure
    ·(conv=>whnf);refine zP ?_;refine zU ?_;(conv=>whnf);refine zT ?_;(conv=>whnf);(iterate 2 (refine zU ?_;(conv=>whnf)));refine CallV.of (qb1 _ w4) ?_;rintro v w5 ⟨rfl,rfl⟩;cases hg:digN (gb s pos).toNat
     ·have hx:alnB false (gb s pos)=false:=by rw [alnB,hl,hg];rfl
      (conv=>whnf);(iterate 2 (refine zU ?_;(conv=>whnf);refine zT ?_;(conv=>whnf)));refine zP ?_;refine zU ?_;(conv=>whnf);exact ⟨by rw [hno hx],hm3.ext⟩
     ·have hx:alnB false (gb s pos)=true:=by rw [alnB,hl,hg];rfl
      (conv=>whnf);(iterate 2 (refine zU ?_;(conv=>whnf);refine zT ?_;(conv=>whnf)));refine zP ?_;refine zT ?_;(conv=>whnf);exact ⟨pos+1,⟨rfl,rfl,rfl,rfl,rfl,trivial⟩,⟨by omega,hm3,hyes hx⟩,by omega⟩
    ·have hx:alnB true (gb s pos)=false:=by rw [alnB,hl];rfl
     (conv=>whnf);refine zP ?_;refine zU ?_;(conv=>whnf);(iterate 8 (refine zT ?_;(conv=>whnf)));exact ⟨by rw [hno hx],hm3.ext⟩
   ·have hx:alnB pure (gb s pos)=true:=by rw [alnB,hl];rfl
    (conv=>whnf);refine zP ?_;refine zT ?_;(conv=>whnf);(iterate 4 (refine zU ?_;(conv=>whnf)));exact ⟨pos+1,⟨rfl,rfl,rfl,rfl,rfl,trivial⟩,⟨by omega,hm3,hyes hx⟩,by omega⟩
  ·have hd:=qh3 s pos hlt (by omega);obtain ⟨d1,d2,d3,d4,d5⟩:=hd;have hl:letN (Utf8.decode s pos).1=false:=by simp [letN];omega
   have hg:digN (Utf8.decode s pos).1=false:=by simp [digN];omega
   have hx:alnB pure (gb s pos)=false:=by
    simp [alnB,letN,digN];omega
   (conv=>whnf);refine zT ?_;(conv=>whnf);refine CallV.of (qgk _ w3) ?_;rintro v w4 ⟨rfl,rfl⟩;rw [hl];cases pure
   ·(conv=>whnf);refine zP ?_;refine zU ?_;(conv=>whnf);refine zT ?_;(conv=>whnf);(iterate 2 (refine zU ?_;(conv=>whnf)));refine CallV.of (qb1 _ w4) ?_;rintro v w5 ⟨rfl,rfl⟩;rw [hg];(conv=>whnf);(iterate 2 (refine zU ?_;(conv=>whnf);refine zT ?_;(conv=>whnf)));refine zP ?_;refine zU ?_;(conv=>whnf);exact ⟨by rw [hno hx],hm3.ext⟩
   ·(conv=>whnf);refine zP ?_;refine zU ?_;(conv=>whnf);(iterate 8 (refine zT ?_;(conv=>whnf)));exact ⟨by rw [hno hx],hm3.ext⟩
 ·intro hge;rw [List.drop_eq_nil_of_le (by simp;omega)] at ha;have hM:qv s lo hi pure=decide (lo≤s.size∧s.size≤hi):=by rw [qv,ha];rfl
  (conv=>whnf)
  (repeat' (first|((with_reducible refine zT ?_);(conv=>whnf))|((with_reducible refine zU ?_);(conv=>whnf))|((with_reducible refine zC (fun _=>?_) (fun _=>?_))<;>first|(exfalso;omega)|(conv=>whnf))))
  ·exact ⟨congrArg Value.bool (by rw [hM,Bool.eq_iff_iff];simp;omega),hm.ext⟩
  ·exact ⟨congrArg Value.bool (by rw [hM,eq_comm,decide_eq_false_iff_not];omega),hm.ext⟩
def qdr (s:ByteArray):Bool:=decide (s=⟨#[120]⟩∨s=⟨#[88]⟩)
theorem qxs {a b:ByteArray} (h:a≠b):seq a b=false:=Bool.eq_false_iff.2 fun e=>h (q7.1 e)
theorem qe4 (s:ByteArray) (w:World):Gv Tryz.prog 212 [.string s] w fun v w'=>v=.bool (qdr s)∧w'=w:=by
 refine zE Tryz.func212 Tryz.ntmps212 ?_;conv=>whnf
 by_cases h:s=⟨#[120]⟩
 ·refine Tst.yes (q7.2 h) ?_;(conv=>whnf);(iterate 2 (refine zT ?_;(conv=>whnf)));exact ⟨congrArg Value.bool (decide_eq_true (.inl h)).symm,rfl⟩
 ·refine Tst.no (qxs h) ?_;(conv=>whnf);(iterate 2 (refine zU ?_;(conv=>whnf)))
  by_cases h2:s=⟨#[88]⟩
  ·refine ⟨congrArg Value.bool ?_,rfl⟩;rw [q7.2 h2,qdr,decide_eq_true (.inr h2)]
  ·refine ⟨congrArg Value.bool ?_,rfl⟩;rw [qxs h2,qdr,decide_eq_false (by simp [h,h2])]
theorem qp9 (c:UInt8):IntKind.i32.wrap (c.toNat:Int)=(c.toNat:Int):=by
 have:=c.toNat_lt;simp [IntKind.wrap,IntKind.signed,IntKind.bits];omega
def varB (s:ByteArray):Bool:=qv s 5 8 false||(qv s 4 4 false&&digN (gb s 0).toNat)
def regB (s:ByteArray):Bool:=qv s 2 2 true||(decide (s.size=3)&&digN (gb s 0).toNat&&digN (gb s 1).toNat&&digN (gb s 2).toNat)
theorem qol (s:ByteArray) (hs:s.size≤140737488355328) (w:World):Gv Tryz.prog 262 [.string s] w fun v w'=>v=.bool (varB s)∧Ext w w':=by
 have h1:=fun w=>qcr s 5 8 false hs w
 have h2:=fun w=>qcr s 4 4 false hs w
 refine zE Tryz.func262 Tryz.ntmps262 ?_;(conv=>whnf);refine CallV.of (h1 w) ?_;rintro v w1 ⟨rfl,he1⟩;cases m1:qv s 5 8 false
 ·(conv=>whnf);(iterate 2 (refine zU ?_;(conv=>whnf)));refine CallV.of (h2 w1) ?_;rintro v w2 ⟨rfl,he2⟩;cases m2:qv s 4 4 false
  ·(conv=>whnf);(iterate 8 (refine zU ?_;(conv=>whnf)));exact ⟨by rw [varB,m1,m2];rfl,he1.trans he2⟩
  ·have hsz:s.size=4:=by
    simp [qv] at m2;omega
   (conv=>whnf);refine zU ?_;(conv=>whnf);(iterate 2 (refine zT ?_;(conv=>whnf)));refine ⟨0,rfl,by omega,?_⟩;(conv=>whnf);refine zT ?_;(conv=>whnf);refine ⟨((gb s 0).toNat:Int),qp9 _,?_⟩;(conv=>whnf);refine zT ?_;(conv=>whnf);refine CallV.of (qb1 _ w2) ?_;rintro v w3 ⟨rfl,rfl⟩;(conv=>whnf);refine zU ?_;(conv=>whnf);refine zT ?_;(conv=>whnf);refine zU ?_;(conv=>whnf);exact ⟨by rw [varB,m1,m2];rfl,he1.trans he2⟩
 ·(conv=>whnf);(iterate 5 (refine zT ?_;(conv=>whnf)));exact ⟨by rw [varB,m1];rfl,he1⟩
theorem qrl (s:ByteArray) (hs:s.size≤140737488355328) (w:World):Gv Tryz.prog 261 [.string s] w fun v w'=>v=.bool (regB s)∧Ext w w':=by
 have h1:=fun w=>qcr s 2 2 true hs w
 refine zE Tryz.func261 Tryz.ntmps261 ?_;(conv=>whnf);refine CallV.of (h1 w) ?_;rintro v w1 ⟨rfl,he1⟩;cases m1:qv s 2 2 true
 ·(conv=>whnf)
  (repeat' (first|((with_reducible refine zT ?_);(conv=>whnf))|((with_reducible refine zU ?_);(conv=>whnf))|((with_reducible refine zC (fun _=>?_) (fun _=>?_))<;>first|(exfalso;omega)|(conv=>whnf))))
  ·refine ⟨0,rfl,by omega,?_⟩;(conv=>whnf);refine zT ?_;(conv=>whnf);refine ⟨((gb s 0).toNat:Int),qp9 _,?_⟩;(conv=>whnf);refine zT ?_;(conv=>whnf);refine CallV.of (qb1 _ w1) ?_;rintro v w2 ⟨rfl,rfl⟩;have h3:decide (s.size=3)=true:=decide_eq_true (by omega);cases d0:digN (gb s 0).toNat
   ·(conv=>whnf);refine zU ?_;(conv=>whnf);refine zT ?_;(conv=>whnf);(iterate 15 (refine zU ?_;(conv=>whnf)));exact ⟨by rw [regB,m1,d0,Bool.and_false];rfl,he1⟩
   ·(conv=>whnf);(iterate 2 (refine zU ?_;(conv=>whnf);refine zT ?_;(conv=>whnf)));refine zT ?_;(conv=>whnf);refine ⟨1,rfl,by omega,?_⟩;(conv=>whnf);refine zT ?_;(conv=>whnf);refine ⟨((gb s 1).toNat:Int),qp9 _,?_⟩;(conv=>whnf);refine zT ?_;(conv=>whnf);refine CallV.of (qb1 _ w2) ?_;rintro v w3 ⟨rfl,rfl⟩;cases d1:digN (gb s 1).toNat
    ·(conv=>whnf);refine zU ?_;(conv=>whnf);refine zT ?_;(conv=>whnf);(iterate 8 (refine zU ?_;(conv=>whnf)));exact ⟨by rw [regB,m1,d1,Bool.and_false];rfl,he1⟩
    ·(conv=>whnf);(iterate 2 (refine zU ?_;(conv=>whnf);refine zT ?_;(conv=>whnf)));refine zT ?_;(conv=>whnf);refine ⟨2,rfl,by omega,?_⟩;(conv=>whnf);refine zT ?_;(conv=>whnf);refine ⟨((gb s 2).toNat:Int),qp9 _,?_⟩;(conv=>whnf);refine zT ?_;(conv=>whnf);refine CallV.of (qb1 _ w3) ?_;rintro v w4 ⟨rfl,rfl⟩;(conv=>whnf);refine zU ?_;(conv=>whnf);refine zT ?_;(conv=>whnf);refine zU ?_;(conv=>whnf);exact ⟨by rw [regB,m1,d0,d1,h3];rfl,he1⟩
  ·have h3:decide (s.size=3)=false:=decide_eq_false (by omega);exact ⟨by rw [regB,m1,h3];rfl,he1⟩
 ·(conv=>whnf);(iterate 10 (refine zT ?_;(conv=>whnf)));exact ⟨by rw [regB,m1];rfl,he1⟩
open Go.RowKit V
set_option maxRecDepth 100000
def lowB (c:UInt8):UInt8:=if 65≤c.toNat∧c.toNat≤90 then c+32 else c
def lowS (s:ByteArray):ByteArray:=⟨(s.data.toList.map lowB).toArray⟩
def qci (l:List UInt8) (i:Nat) (z:List Value):Array Value:=(byteCells ((l.take i).map lowB++l.drop i)++z).toArray
theorem qfk {l:List UInt8} {i:Nat} {z:List Value} (h:i<l.length):(qci l i z)[i]?=some (.int .u8 l[i].toNat):=by
 unfold qci byteCells;rw [List.getElem?_toArray,List.getElem?_append_left (by simp;omega),List.getElem?_map,List.getElem?_append_right (by simp;omega)];simp [Nat.min_eq_left (Nat.le_of_lt h),h]
theorem qjr (l:List UInt8) (i:Nat) (z:List Value) (h:i≤l.length):(qci l i z).size=l.length+z.length:=by
 simp [qci,byteCells];omega
theorem ql9 {l:List UInt8} {i:Nat} {z:List Value} (h:i<l.length):(qci l i z).setIfInBounds i (.int .u8 (lowB l[i]).toNat)=qci l (i+1) z:=by
 have e:byteCells ((l.take (i+1)).map lowB++l.drop (i+1))++z=byteCells ((l.take i).map lowB)++(.int .u8 (lowB l[i]).toNat::(byteCells (l.drop (i+1))++z)):=by
  rw [List.take_succ_eq_append_getElem h];simp only [byteCells,List.map_append,List.map_cons,List.map_nil,List.append_assoc,List.cons_append,List.nil_append]
 have e2:byteCells ((l.take i).map lowB++l.drop i)++z=byteCells ((l.take i).map lowB)++(.int .u8 l[i].toNat::(byteCells (l.drop (i+1))++z)):=by
  rw [List.drop_eq_getElem_cons h];simp only [byteCells,List.map_append,List.map_cons,List.append_assoc,List.cons_append]
 unfold qci;rw [e,e2,List.setIfInBounds_toArray]
 congr 1
 have hl:(byteCells ((l.take i).map lowB)).length=i:=by simp [byteCells];omega
 rw [List.set_append_right _ _ (by omega),hl,Nat.sub_self];rfl
theorem qgl {l:List UInt8} {i:Nat} {z:List Value} (h:i<l.length) (hs:lowB l[i]=l[i]):qci l i z=qci l (i+1) z:=by
 unfold qci;rw [List.take_succ_eq_append_getElem h,List.drop_eq_getElem_cons h];simp only [byteCells,List.map_append,List.map_cons,List.map_nil,List.append_assoc,List.cons_append,List.nil_append,hs]
theorem qk1 (c:UInt8) (h:65≤c.toNat∧c.toNat≤90):((lowB c).toNat:Int)=(c.toNat:Int)+32:=by
 rw [lowB,if_pos h,UInt8.toNat_add];have:(32:UInt8).toNat=32:=rfl;omega
theorem qk2 (c:UInt8) (h:¬ (65≤c.toNat∧c.toNat≤90)):lowB c=c:=by rw [lowB,if_neg h]
theorem V.StoreV.memF {w0 w:World} {L:List (Nat × Obj)} {i b off m:Nat} {cs:Array Value} {t:TypeId} {v:Value} {K:World→Prop} (h:Mem w0 w L) (hi:L[i]?=some (b,.cells cs t (m,m+1)))
  (ho:off<cs.size) (hom:off<m) (h1:qdf v=true) (hk:∀ w',Mem w0 w' (L.set i (b,.cells (cs.setIfInBounds off v) t (m,m+1)))→K w'):StoreV w b off v K:=by
 have hg:=h.get (List.mem_of_getElem? hi);refine ⟨⟨cs[off],?_⟩,?_,h1,hk _ (h.setCell hi rfl)⟩
 ·rw [qd hg];exact Array.getElem?_eq_getElem ho
 ·simp [World.frozen?,hg];omega
theorem ql8 (w:World) {w0:World} {s:ByteArray} {b m:Nat} {z:List Value} {t:TypeId} {L:List (Nat × Obj)} {K:Value→Prop} (hm:Mem w0 w ((b,.cells (qci s.data.toList s.size z) t (m,m+1))::L)) (hk:K (.string (lowS s))):BytesS w (some ⟨b,0,none⟩) s.size K:=by
 refine ⟨s.data.toList.map lowB,by simp,fun _=>⟨b,0,rfl,fun k v hv=>?_⟩,hk⟩;rw [qd (hm.get (List.mem_cons_self ..)),Nat.zero_add];have e:(qci s.data.toList s.size z)=(byteCells (s.data.toList.map lowB)++z).toArray:=by
  unfold qci;rw [List.take_of_length_le (by simp),List.drop_eq_nil_of_le (by simp),List.append_nil]
 rw [e,List.getElem?_toArray,List.getElem?_append_left (List.getElem?_eq_some_iff.1 hv).1];exact hv
theorem qdz (s:ByteArray) (hs:s.size≤140737488355328) (w:World):Gv Tryz.prog 149 [.string s] w fun v w'=>v=.string (lowS s)∧Ext w w':=by
 have hsz:s.data.toList.length=s.size:=by simp
 refine zE Tryz.func149 Tryz.ntmps149 ?_;(conv=>whnf);refine ⟨fun cap cs b w1 hcap hcs hb hw1=>?_⟩;obtain ⟨z,hz⟩:∃ z,z=List.replicate (cap-s.size) (Value.int .u8 0):=⟨_,rfl⟩
 obtain ⟨m,hmm⟩:∃ m,m=cs.size:=⟨_,rfl⟩
 have hms:s.size≤m:=by rw [hmm,hcs];simp [byteCells]
 have hm:Mem w w1 [(b,.cells (qci s.data.toList 0 z) 5 (m,m+1))]:=by
  rw [hmm];have e:qci s.data.toList 0 z=cs:=by rw [hcs,hz];simp [qci]
  rw [e];exact (Mem.nil w).drew.new hb hw1
 clear hcs hb hw1 hmm hz;(conv=>whnf);refine qm (fun i:Nat=>[(3,.slice (some ⟨b,0,none⟩) s.size cap),(8,.slice (some ⟨b,0,none⟩) s.size cap),(9,.int .i64 s.size),(10,.int .i64 i)]) (fun i w2=>i≤s.size∧Mem w w2 [(b,.cells (qci s.data.toList i z) 5 (m,m+1))]) (fun i=>s.size-i) 0 ⟨rfl,rfl,rfl,rfl,trivial⟩ ⟨by omega,hm⟩ ?_;rintro i w2 ρ' ⟨h1,hm⟩;(conv=>whnf);refine zC (fun _=>?_) (fun _=>?_)<;>(conv=>whnf)
 ·have hi:i<s.data.toList.length:=by omega
  refine ElemV.own1 i rfl (by omega) ?_;(conv=>whnf);refine LoadV.mem hm (i:=0) rfl (qfk hi) ?_;conv=>whnf
  (repeat' (first|(refine zA ?_;(conv=>whnf))|((with_reducible refine zT ?_);(conv=>whnf))|((with_reducible refine zU ?_);(conv=>whnf))|((with_reducible refine zC (fun _=>?_) (fun _=>?_))<;>first|(exfalso;omega)|(conv=>whnf))))
  ·refine ElemV.own1 i rfl (by omega) ?_;(conv=>whnf);refine StoreV.memF (v:=.int .u8 ((s.data.toList[i].toNat:Int)+32)) hm (i:=0) rfl (by rw [qjr _ _ _ (by omega)];omega) (by omega) rfl ?_;intro w3 hm3;replace hm3:Mem w w3 [(b,.cells ((qci s.data.toList i z).setIfInBounds i (.int .u8 ((s.data.toList[i].toNat:Int)+32))) 5 (m,m+1))]:=hm3;rw [← qk1 _ ⟨by omega,by omega⟩,ql9 hi] at hm3;(conv=>whnf);refine zA ?_;(conv=>whnf);exact ⟨i+1,⟨rfl,rfl,rfl,rfl,trivial⟩,⟨by omega,hm3⟩,by omega⟩
  all_goals
   rw [qgl hi (qk2 _ (by omega))] at hm;exact ⟨i+1,⟨rfl,rfl,rfl,rfl,trivial⟩,⟨by omega,hm⟩,by omega⟩
 ·refine ql8 w2 (by rw [show i=s.size by omega] at hm;exact hm) ?_;(conv=>whnf);exact ⟨rfl,hm.ext⟩
theorem qax (s:ByteArray) (hs:s.size≤140737488355328) (w:World):Gv Tryz.prog 268 [.string s] w fun v w'=>v=.string (lowS s)∧Ext w w':=by
 have hsz:s.data.toList.length=s.size:=by simp
 refine zE Tryz.func268 Tryz.ntmps268 ?_;(conv=>whnf);refine ⟨fun cap cs b w1 hcap hcs hb hw1=>?_⟩;obtain ⟨z,hz⟩:∃ z,z=List.replicate (cap-s.size) (Value.int .u8 0):=⟨_,rfl⟩
 obtain ⟨m,hmm⟩:∃ m,m=cs.size:=⟨_,rfl⟩
 have hms:s.size≤m:=by rw [hmm,hcs];simp [byteCells]
 have hm:Mem w w1 [(b,.cells (qci s.data.toList 0 z) 5 (m,m+1))]:=by
  rw [hmm];have e:qci s.data.toList 0 z=cs:=by rw [hcs,hz];simp [qci]
  rw [e];exact (Mem.nil w).drew.new hb hw1
 clear hcs hb hw1 hmm hz;(conv=>whnf);refine qm (fun i:Nat=>[(3,.slice (some ⟨b,0,none⟩) s.size cap),(4,.int .i64 i)]) (fun i w2=>i≤s.size∧Mem w w2 [(b,.cells (qci s.data.toList i z) 5 (m,m+1))]) (fun i=>s.size-i) 0 ⟨rfl,rfl,trivial⟩ ⟨by omega,hm⟩ ?_;rintro i w2 ρ' ⟨h1,hm⟩;(conv=>whnf);refine zC (fun _=>?_) (fun _=>?_)<;>(conv=>whnf)
 ·have hi:i<s.data.toList.length:=by omega
  refine ElemV.own1 i rfl (by omega) ?_;(conv=>whnf);refine LoadV.mem hm (i:=0) rfl (qfk hi) ?_;conv=>whnf
  (repeat' (first|(refine zA ?_;(conv=>whnf))|((with_reducible refine zT ?_);(conv=>whnf))|((with_reducible refine zU ?_);(conv=>whnf))|((with_reducible refine zC (fun _=>?_) (fun _=>?_))<;>first|(exfalso;omega)|(conv=>whnf))))
  ·refine ElemV.own1 i rfl (by omega) ?_;(conv=>whnf);refine zT ?_;(conv=>whnf);refine LoadV.mem hm (i:=0) rfl (qfk hi) ?_;conv=>whnf
   (repeat' (first|(refine zA ?_;(conv=>whnf))|((with_reducible refine zT ?_);(conv=>whnf))|((with_reducible refine zC (fun _=>?_) (fun _=>?_))<;>first|(exfalso;omega)|(conv=>whnf))))
   ·refine ElemV.own1 i rfl (by omega) ?_;(conv=>whnf);refine LoadV.mem hm (i:=0) rfl (qfk hi) ?_;(conv=>whnf);refine zA ?_;(conv=>whnf);refine ElemV.own1 i rfl (by omega) ?_;(conv=>whnf);refine StoreV.memF (v:=.int .u8 ((s.data.toList[i].toNat:Int)+32)) hm (i:=0) rfl (by rw [qjr _ _ _ (by omega)];omega) (by omega) rfl ?_;intro w3 hm3;replace hm3:Mem w w3 [(b,.cells ((qci s.data.toList i z).setIfInBounds i (.int .u8 ((s.data.toList[i].toNat:Int)+32))) 5 (m,m+1))]:=hm3;rw [← qk1 _ ⟨by omega,by omega⟩,ql9 hi] at hm3;(conv=>whnf);refine zA ?_;(conv=>whnf);exact ⟨i+1,⟨rfl,rfl,trivial⟩,⟨by omega,hm3⟩,by omega⟩
   all_goals
    rw [qgl hi (qk2 _ (by omega))] at hm;exact ⟨i+1,⟨rfl,rfl,trivial⟩,⟨by omega,hm⟩,by omega⟩
  all_goals
   rw [qgl hi (qk2 _ (by omega))] at hm;exact ⟨i+1,⟨rfl,rfl,trivial⟩,⟨by omega,hm⟩,by omega⟩
 ·refine ql8 w2 (by rw [show i=s.size by omega] at hm;exact hm) ?_;(conv=>whnf);exact ⟨rfl,hm.ext⟩
open Go.RowKit V
set_option maxRecDepth 100000
def bs (l:List UInt8):ByteArray:=⟨l.toArray⟩
namespace V
theorem Rw.tail {w0 w:World} {v:Value} {e:TypeId} {size n:Nat} {xs:List Value} {x:Nat × Obj} {L:List (Nat × Obj)} (h:Rw w0 w v e size n xs (x::L)):Rw w0 w v e size n xs L:=
 ⟨h.mem.sub (List.sublist_cons_self ..),h.own,fun y hy=>h.apart y (List.mem_cons_of_mem _ hy)⟩
end V
theorem V.Rw.cells {w0 w:World} {A:Option Addr} {c n:Nat} {e:TypeId} {xs:List Value} {L:List (Nat × Obj)} (h:Rw w0 w (.slice A n c) e 1 n xs L) (hn:0<n) :
  ∃ g,A=some ⟨g,0,none⟩∧w0.heap.size≤g∧g<w.heap.size∧n≤c∧CellsAt w g 0 xs:=by
 rcases h.own.2 with ⟨e1,e2⟩|⟨g,cap,cur,e1,hg0,hg,hnc,_,hcs,htk⟩
 ·omega
 ·cases e1;refine ⟨g,rfl,hg0,?_,hnc,fun k v hv=>?_⟩
  ·rcases Nat.lt_or_ge g w.heap.size with h' | h'
   ·exact h'
   ·rw [Array.getElem?_eq_none h'] at hg;cases hg
  ·rw [qd hg,Nat.zero_add];rw [← htk,List.getElem?_take] at hv
   split at hv
   ·simpa using hv
   ·cases hv
open Go.RowKit V
set_option maxRecDepth 100000
theorem bsz (a b:ByteArray):(a++b).size=a.size+b.size:=ByteArray.size_append
open Go.RowKit V
set_option maxRecDepth 100000
theorem qld (r:Int) (w:World) :
  Gv Tryz.prog 300 [.int .i64 r] w fun v w'=>v=.bool (qal r)∧w'=w:=by
 refine zE Tryz.func300 Tryz.ntmps300 ?_;conv=>whnf
 (repeat' (first|((with_reducible refine zT ?_);(conv=>whnf))|((with_reducible refine zU ?_);(conv=>whnf))|((with_reducible refine zC (fun _=>?_) (fun _=>?_))<;>first|(exfalso;omega)|(conv=>whnf))))
 all_goals (refine ⟨congrArg Value.bool ((qiv r _).2 ?_),rfl⟩;simp;try omega)
theorem qke {α:Type} {a b:α} {l m:List α} (h:a=b) (k:l=m):a::l=b::m:=by subst h k;rfl
theorem qms (r:Nat) (h:r≤1114111) (w:World) :
  Gv Tryz.prog 299 [.int .i64 r] w fun v w'=>∃ b,v=.slice (some ⟨b,0,none⟩) (encL r).length (encL r).length∧CellsAt w' b 0 (byteCells (encL r))∧Ext w w':=by
 have fin:∀ (l:List UInt8) (vs:List Value) (n b:Nat) (w1:World),Mem w w1 [(b,.cells vs.toArray 5 (0,0))]→encL r=l→vs=byteCells l→n=l.length→
   ∃ b',Value.slice (some ⟨b,0,none⟩) n n=.slice (some ⟨b',0,none⟩) (encL r).length (encL r).length∧CellsAt w1 b' 0 (byteCells (encL r))∧Ext w w1:=by
  rintro l vs n b w1 hm rfl rfl rfl;refine ⟨b,rfl,fun k v hv=>?_,hm.ext⟩;rw [qd (hm.get (List.mem_cons_self ..)),Nat.zero_add]
  simpa using hv
 have cv:∀ (x:Int) (n:Nat),n<256→x=n→Value.int .u8 x=.int .u8 ((UInt8.ofNat n).toNat:Int):=fun x n hn hx=>by rw [qxt n hn,hx]
 refine zE Tryz.func299 Tryz.ntmps299 ?_;conv=>whnf
 (repeat' (first|(refine zA ?_;(conv=>whnf))|(refine zB ?_;(conv=>whnf))|((with_reducible refine zC (fun _=>?_) (fun _=>?_))<;>first|(exfalso;omega)|(conv=>whnf))|(refine Wit.conv ⟨by omega,by omega⟩ ?_;(conv=>whnf))))
 ·refine NewV.mem (Mem.nil w) ?_;intro b w1 hm;(conv=>whnf);refine fin [UInt8.ofNat r] _ _ _ _ hm (by unfold encL;rw [if_pos (by omega)]) ?_ rfl;simp only [byteCells,List.map_cons,List.map_nil,qxt r (by omega)]
 ·refine NewV.mem (Mem.nil w) ?_;intro b w1 hm;(conv=>whnf);refine fin [UInt8.ofNat (0xC0+r/64),UInt8.ofNat (0x80+r%64)] _ _ _ _ hm (by unfold encL;rw [if_neg (by omega),if_pos (by omega)]) ?_ rfl;simp only [byteCells,List.map_cons,List.map_nil];exact qke (cv _ _ (by omega) (by omega)) (qke (cv _ _ (by omega) (by omega)) rfl)
 ·refine NewV.mem (Mem.nil w) ?_;intro b w1 hm;(conv=>whnf);refine fin [UInt8.ofNat (0xE0+r/4096),UInt8.ofNat (0x80+r/64%64),UInt8.ofNat (0x80+r%64)] _ _ _ _ hm (by unfold encL;rw [if_neg (by omega),if_neg (by omega),if_pos (by omega)]) ?_ rfl;simp only [byteCells,List.map_cons,List.map_nil];exact qke (cv _ _ (by omega) (by omega)) (qke (cv _ _ (by omega) (by omega)) (qke (cv _ _ (by omega) (by omega)) rfl))
 ·refine NewV.mem (Mem.nil w) ?_;intro b w1 hm;(conv=>whnf);refine fin [UInt8.ofNat (0xF0+r/262144),UInt8.ofNat (0x80+r/4096%64),UInt8.ofNat (0x80+r/64%64),UInt8.ofNat (0x80+r%64)] _ _ _ _ hm (by unfold encL;rw [if_neg (by omega),if_neg (by omega),if_neg (by omega)]) ?_ rfl;simp only [byteCells,List.map_cons,List.map_nil];exact qke (cv _ _ (by omega) (by omega)) (qke (cv _ _ (by omega) (by omega)) (qke (cv _ _ (by omega) (by omega)) (qke (cv _ _ (by omega) (by omega)) rfl)))
def gacc (r:Int) (l:List UInt8):Int:=l.foldl (fun r c=>r*64+c.toNat-128) r
def qh8 (n:Nat):Int:=if n=2 then 192 else if n=3 then 224 else if n=4 then 240 else 0
def qc1 (l:List UInt8):Int:=gacc (((l.headD 0).toNat:Int)-qh8 l.length) l.tail
def qdn (l:List UInt8):Int:=if qal (qc1 l)=true∧encL (qc1 l).toNat=l then qc1 l else -1
theorem qs9 (r:Int) (l:List UInt8) (k:Nat) (h:k<l.length):gacc r (l.take (k+1))=gacc r (l.take k)*64+l[k].toNat-128:=by
 rw [List.take_succ_eq_append_getElem h,gacc,List.foldl_append];rfl
theorem qyh (r:Int) (l:List UInt8) (h:-256≤r∧r≤256):-256*128 ^ l.length≤gacc r l∧gacc r l≤256*128 ^ l.length:=by
 have key:∀ (l:List UInt8) (r M:Int),256≤M→-M≤r∧r≤M→-(M*128 ^ l.length)≤gacc r l∧gacc r l≤M*128 ^ l.length:=by
  intro l
  induction l with
  | nil=>intro r M _ h;simpa [gacc] using h
  | cons c l ih=>
   intro r M hM h;have hc:=c.toNat_lt;have:=ih (r*64+c.toNat-128) (M*128) (by omega) (by omega);rw [List.length_cons,Int.pow_succ,Int.mul_comm (128 ^ l.length) 128,← Int.mul_assoc];exact this
 have:=key l r 256 (by omega) h;rw [Int.neg_mul];exact this
theorem qte (l:List UInt8) (b c:Nat) (w:World) (hb:CellsAt w b 0 (byteCells l)) (h1:1≤l.length) (h4:l.length≤4) :
  Gv Tryz.prog 248 [.slice (some ⟨b,0,none⟩) l.length c] w fun v w'=>v=.int .i64 (qdn l)∧Ext w w':=by
 have hcell:∀ k (hk:k<l.length),(byteCells l)[k]?=some (.int .u8 l[k].toNat):=fun k hk=>by simp [byteCells,hk]
 have hbyte:∀ k (hk:k<l.length),l[k].toNat<256:=fun k hk=>l[k].toNat_lt
 refine zE Tryz.func248 Tryz.ntmps248 ?_;(conv=>whnf);refine NewV.mem (Mem.nil w) ?_;intro tb w1 hm;(conv=>whnf);refine StoreA.mem hm (i:=0) rfl (Nat.le_refl 5) (fun v hv=>by simp at hv;rcases hv with rfl|rfl|rfl|rfl<;>rfl) ?_;intro w2 hm;replace hm:Mem w w2 [(tb,.cells #[.int .i64 0,.int .i64 0,.int .i64 192,.int .i64 224,.int .i64 240] 409 (0,0))]:=hm;(conv=>whnf);have hg:(#[Value.int .i64 0,Value.int .i64 0,Value.int .i64 192,Value.int .i64 224,Value.int .i64 240]:Array Value)[0+l.length*1]?=some (.int .i64 (qh8 l.length)):=by
  obtain h|h|h|h:l.length=1∨l.length=2∨l.length=3∨l.length=4:=by omega
  all_goals (rw [h];rfl)
 have hgl:0≤qh8 l.length∧qh8 l.length≤240:=by unfold qh8;(repeat' split)<;>omega
 have hb0:=hbyte 0 (by omega);refine DrawV.quiet (by kernel_rfl) (by kernel_rfl) ?_;(conv=>whnf);refine zW ?_;(conv=>whnf);refine ElemV.own1 0 rfl (by omega) ?_;(conv=>whnf);refine zW ?_;(conv=>whnf);refine LoadV.cells (hb.ext hm.drew.ext) 0 (hcell 0 (by omega)) ?_;(conv=>whnf);refine zW ?_;(conv=>whnf);refine Wit.conv ⟨by omega,by omega⟩ ?_;(conv=>whnf);(iterate 3 (refine zW ?_;(conv=>whnf)));refine zX ?_;(conv=>whnf);refine zW ?_;(conv=>whnf);refine LoadV.mem hm.drew (i:=0) rfl hg ?_;(conv=>whnf);refine zW ?_;(conv=>whnf);refine zA ?_;(conv=>whnf);(iterate 2 (refine zW ?_;(conv=>whnf)));have htl:l.tail.length=l.length-1:=by simp
 have hhd:l.headD 0=l[0]:=by cases l with|nil=>simp at h1|cons a t=>rfl
 refine qm (fun k:Nat=>[(0,.slice (some ⟨b,0,none⟩) l.length c),(4,.int .i64 (gacc ((l[0].toNat:Int)-qh8 l.length) (l.tail.take (k-1)))),(5,.int .i64 k)])
  (fun k w3=>1≤k∧k≤l.length∧w3=w2.drew) (fun k=>l.length-k) 1 ⟨rfl,rfl,rfl,trivial⟩ ⟨by omega,by omega,rfl⟩ ?_
 rintro k w3 ρ' ⟨hk1,hk2,rfl⟩;have hgb:=qyh ((l[0].toNat:Int)-qh8 l.length) (l.tail.take (k-1)) (by omega);have hpow:(128:Int) ^ (l.tail.take (k-1)).length≤2097152:=by
  have:(l.tail.take (k-1)).length≤3:=by rw [List.length_take];omega
  obtain h|h|h|h:(l.tail.take (k-1)).length=0∨(l.tail.take (k-1)).length=1∨(l.tail.take (k-1)).length=2∨(l.tail.take (k-1)).length=3:=by omega
  all_goals (rw [h];decide)
 (conv=>whnf)
 (repeat' (first|(refine zA ?_;(conv=>whnf))|((with_reducible refine zC (fun _=>?_) (fun _=>?_))<;>first|(exfalso;omega)|(conv=>whnf))))
 ·have hlt:k<l.length:=by omega
  have hbk:=hbyte k hlt;refine ElemV.own1 k rfl (by omega) ?_;(conv=>whnf);refine LoadV.of (by have:=hb.ext hm.drew.ext k _ (hcell k hlt);rwa [Nat.zero_add] at this) ?_;(conv=>whnf);refine Wit.conv ⟨by omega,by omega⟩ ?_;(conv=>whnf);(iterate 3 (refine zA ?_;(conv=>whnf)));have hkt:k-1<l.tail.length:=by omega
  have hstep:gacc ((l[0].toNat:Int)-qh8 l.length) (l.tail.take k)=gacc ((l[0].toNat:Int)-qh8 l.length) (l.tail.take (k-1))*64+l[k].toNat-128:=by
   have:=qs9 ((l[0].toNat:Int)-qh8 l.length) l.tail (k-1) hkt;have e:l.tail[k-1]=l[k]:=by simp;congr 1;omega
   rw [e,show k-1+1=k by omega] at this;exact this
  refine ⟨k+1,⟨rfl,?_,rfl,trivial⟩,⟨by omega,by omega,rfl⟩,by omega⟩;rw [show k+1-1=k by omega,hstep];rfl
 ·obtain rfl:k=l.length:=by omega
  have hG:gacc ((l[0].toNat:Int)-qh8 l.length) (l.tail.take (l.length-1))=qc1 l:=by
   rw [List.take_of_length_le (by omega),qc1,hhd]
  rw [hG];refine CallV.of (qld (qc1 l) _) ?_;rintro v w4 ⟨rfl,rfl⟩;(conv=>whnf);have hbs:CellsAt w2.drew.drew b 0 (byteCells l):=hb.ext hm.drew.drew.ext;have hE0:Ext w w2.drew.drew:=hm.drew.drew.ext;cases hsc:qal (qc1 l)
  ·refine DrawV.free rfl (by kernel_rfl) ?_;(conv=>whnf);refine zD ?_;(conv=>whnf);refine zD ?_;(conv=>whnf);refine zD ?_;(conv=>whnf);refine zD ?_ (by intro wd hd;(conv=>whnf);(refine zP ?_;refine zU ?_;(conv=>whnf));exact ⟨Ext.refl _,rfl⟩);(conv=>whnf);refine zD ?_ (by intro wd hd;(conv=>whnf);(refine zP ?_;refine zU ?_;(conv=>whnf));exact ⟨Ext.refl _,rfl⟩);(conv=>whnf);refine zD ?_ (by intro wd hd;(conv=>whnf);(refine zP ?_;refine zU ?_;(conv=>whnf));exact ⟨Ext.refl _,rfl⟩);(conv=>whnf);refine zD ?_ (by intro wd hd;(conv=>whnf);(refine zP ?_;refine zU ?_;(conv=>whnf));exact ⟨Ext.refl _,rfl⟩);(conv=>whnf);refine zD ?_ (by intro wd hd;(conv=>whnf);(refine zP ?_;refine zU ?_;(conv=>whnf));exact ⟨Ext.refl _,rfl⟩);(conv=>whnf);refine zD ?_ (by intro wd hd;(conv=>whnf);(refine zP ?_;refine zU ?_;(conv=>whnf));exact ⟨Ext.refl _,rfl⟩);(conv=>whnf);refine zD ?_ (by intro wd hd;(conv=>whnf);(refine zP ?_;refine zU ?_;(conv=>whnf));exact ⟨Ext.refl _,rfl⟩);(conv=>whnf);intro wd hd;(conv=>whnf);refine Tst.yes rfl ?_;(conv=>whnf);exact ⟨by rw [qdn,if_neg (by rw [hsc];simp)],hE0.trans hd⟩
  ·obtain ⟨r,hr⟩:∃ r:Nat,qc1 l=r:=⟨(qc1 l).toNat,by simp [qal] at hsc;omega⟩
   have hr1:r≤1114111:=by rw [hr] at hsc;simp [qal] at hsc;omega
   refine DrawV.free rfl (by kernel_rfl) ?_;(conv=>whnf);refine zD ?_;(conv=>whnf);refine zD ?_;(conv=>whnf);refine zD ?_;(conv=>whnf);refine zD ?_ (by intro wd hd;(conv=>whnf);(refine zP ?_;refine zT ?_;(conv=>whnf));exact ⟨Ext.refl _,rfl⟩);(conv=>whnf);apply StepD.of (fun v w=>∃ b',v=.slice (some ⟨b',0,none⟩) (encL r).length (encL r).length∧CellsAt w b' 0 (byteCells (encL r)))
   ·rintro v w w' ⟨b',rfl,h⟩ he;exact ⟨b',rfl,h.ext he⟩
   ·intro wd hd;(conv=>whnf);refine Tst.no rfl ?_;(conv=>whnf);rw [hr];refine CallV.of (qms r hr1 wd) ?_;rintro v w4 ⟨b',rfl,h,he⟩;exact ⟨he,b',rfl,h⟩
   (conv=>whnf);apply StepD.still
   ·intro wd hd;(conv=>whnf);rintro _ ⟨b',rfl,h⟩;(conv=>whnf);refine Tst.no rfl ?_;(conv=>whnf);refine BytesS.all h rfl ?_;exact ⟨Ext.refl _,rfl⟩
   (conv=>whnf);refine zD ?_ (by intro wd hd;(conv=>whnf);(refine zP ?_;refine zT ?_;(conv=>whnf));exact ⟨Ext.refl _,rfl⟩);(conv=>whnf);apply StepD.still
   ·intro wd hd;(conv=>whnf);refine Tst.no rfl ?_;(conv=>whnf);refine BytesS.all (hbs.ext hd) rfl ?_;exact ⟨Ext.refl _,rfl⟩
   (conv=>whnf);refine zD ?_ (by intro wd hd;(conv=>whnf);(refine zP ?_;refine zT ?_;(conv=>whnf));exact ⟨Ext.refl _,rfl⟩);(conv=>whnf);refine zD ?_ (by intro wd hd;(conv=>whnf);(refine zP ?_;refine zT ?_;(conv=>whnf));exact ⟨Ext.refl _,rfl⟩);(conv=>whnf);intro wd hd;(conv=>whnf);intro v _;(conv=>whnf);have hseq:seq ⟨(encL r).toArray⟩ ⟨l.toArray⟩=decide (encL r=l):=by
    rw [Bool.eq_iff_iff,q7,decide_eq_true_iff]
    constructor
    ·intro h;have:(⟨(encL r).toArray⟩:ByteArray).data.toList=(⟨l.toArray⟩:ByteArray).data.toList:=by rw [h]
     simpa using this
    ·intro h;rw [h]
   by_cases hel:encL r=l
   ·refine Tst.no (by rw [hseq,decide_eq_true hel];rfl) ?_;(conv=>whnf);exact ⟨by rw [qdn,if_pos ⟨hsc,by rw [hr,Int.toNat_natCast];exact hel⟩],hE0.trans hd⟩
   ·refine Tst.yes (by rw [hseq,decide_eq_false hel];rfl) ?_;(conv=>whnf);exact ⟨by rw [qdn,if_neg (fun h=>hel (by have:=h.2;rwa [hr,Int.toNat_natCast] at this))],hE0.trans hd⟩
open Go.RowKit V
set_option maxRecDepth 100000
theorem qlw {l:List UInt8} (h:(decN l).2=0):decN l=(0,0):=by
 unfold decN at h ⊢
 match l with
 | []=>rfl
 | a::t=>
  simp only at h ⊢
  split
  ·rfl
  ·rename_i hn
   rw [if_neg hn] at h
   split
   ·rename_i hc
    rw [if_pos hc] at h
    split
    ·rfl
    ·rename_i hs
     rw [if_neg hs] at h;simp only at h;omega
   ·rfl
theorem qyd (r:Nat) (h:qal r=true) (t:List UInt8):decN (encL r++t)=(r,(encL r).length):=by
 have hr:r≤1114111∧(r<55296∨57343<r):=by simp [qal] at h;omega
 have tn:∀ n:Nat,n<256→(UInt8.ofNat n).toNat=n:=fun n hn=>by rw [UInt8.toNat_ofNat'];omega
 unfold encL
 by_cases h1:r<128
 ·rw [if_pos h1];have e:qa8 r=(1,r):=by rw [qa8,if_pos h1]
  simp only [List.cons_append,List.nil_append,decN,tn r (by omega),e,Nat.sub_self,List.take_zero,List.all_nil,if_true,accR,List.foldl_nil,qdo];rw [if_neg (by simp),h];simp
 rw [if_neg h1]
 by_cases h2:r<2048
 ·rw [if_pos h2];have e:qa8 (192+r/64)=(2,r/64):=by rw [qa8,if_neg (by omega),if_neg (by omega),if_pos (by omega)];congr 1;omega
  have c:cont (UInt8.ofNat (128+r%64))=true:=by rw [cont,tn _ (by omega)];simp;omega
  have hacc:r/64*64+(128+r%64)%64=r:=by omega
  simp only [List.cons_append,List.nil_append,decN,tn (192+r/64) (by omega),e,List.length_cons,Nat.reduceSub,List.take_succ_cons,List.take_zero,List.all_cons,List.all_nil,Bool.and_true,c,if_true,accR,List.foldl_cons,List.foldl_nil,tn (128+r%64) (by omega),hacc];rw [if_neg (by omega),if_neg (by rw [h,show qdo 2=128 from rfl];simp;omega)];rfl
 rw [if_neg h2]
 by_cases h3:r<65536
 ·rw [if_pos h3];have e:qa8 (224+r/4096)=(3,r/4096):=by rw [qa8,if_neg (by omega),if_neg (by omega),if_neg (by omega),if_pos (by omega)];congr 1;omega
  have c:cont (UInt8.ofNat (128+r%64))=true:=by rw [cont,tn _ (by omega)];simp;omega
  have c2:cont (UInt8.ofNat (128+r/64%64))=true:=by rw [cont,tn _ (by omega)];simp;omega
  have hacc:(r/4096*64+(128+r/64%64)%64)*64+(128+r%64)%64=r:=by omega
  simp only [List.cons_append,List.nil_append,decN,tn (224+r/4096) (by omega),e,List.length_cons,Nat.reduceSub,List.take_succ_cons,List.take_zero,List.all_cons,List.all_nil,Bool.and_true,c,c2,if_true,accR,List.foldl_cons,List.foldl_nil,tn (128+r%64) (by omega),tn (128+r/64%64) (by omega),hacc];rw [if_neg (by omega),if_neg (by rw [h,show qdo 3=2048 from rfl];simp;omega)];rfl
 rw [if_neg h3];have e:qa8 (240+r/262144)=(4,r/262144):=by rw [qa8,if_neg (by omega),if_neg (by omega),if_neg (by omega),if_neg (by omega),if_pos (by omega)];congr 1;omega
 have c:cont (UInt8.ofNat (128+r%64))=true:=by rw [cont,tn _ (by omega)];simp;omega
 have c2:cont (UInt8.ofNat (128+r/64%64))=true:=by rw [cont,tn _ (by omega)];simp;omega
 have c3:cont (UInt8.ofNat (128+r/4096%64))=true:=by rw [cont,tn _ (by omega)];simp;omega
 have hacc:((r/262144*64+(128+r/4096%64)%64)*64+(128+r/64%64)%64)*64+(128+r%64)%64=r:=by omega
 simp only [List.cons_append,List.nil_append,decN,tn (240+r/262144) (by omega),e,List.length_cons,Nat.reduceSub,List.take_succ_cons,List.take_zero,List.all_cons,List.all_nil,Bool.and_true,c,c2,c3,if_true,accR,List.foldl_cons,List.foldl_nil,tn (128+r%64) (by omega),tn (128+r/64%64) (by omega),tn (128+r/4096%64) (by omega),hacc];rw [if_neg (by omega),if_neg (by rw [h,show qdo 4=65536 from rfl];simp;omega)];rfl
theorem qtf (L:List UInt8) (n:Nat) (h:0≤qdn (L.take n)) (hn:n≤L.length):decN L=((qdn (L.take n)).toNat,n):=by
 unfold qdn at h ⊢
 split at h
 ·rename_i hg
  rw [if_pos hg];obtain ⟨h1,h2⟩:=hg;have hr:qc1 (L.take n)=((qc1 (L.take n)).toNat:Int):=by simp [qal] at h1;omega
  rw [hr] at h1;have hd:=qyd _ h1 (L.drop n);rw [h2,List.take_append_drop] at hd;rw [hd];simp;omega
 ·omega
theorem qv4 (L:List UInt8) (h:(decN L).2≠0):qdn (L.take (decN L).2)=(decN L).1:=by
 obtain ⟨h1,h2,h3⟩:=qvt h;have hg:qc1 (L.take (decN L).2)=(decN L).1:=by
  rcases qjm L h with ⟨a,t,rfl,e,h1⟩|⟨a,b,t,rfl,e,h1,h2,h3,h4⟩|⟨a,b,c,t,rfl,e,h1,h2,h3,h4,h5,h6⟩|⟨a,b,c,d,t,rfl,e,h1,h2,h3,h4,h5,h6,h7⟩
  all_goals
   rw [e];simp only [List.take_succ_cons,List.take_zero,qc1,List.headD_cons,List.tail_cons,List.length_cons,List.length_nil,gacc,List.foldl_cons,List.foldl_nil]
  ·show (a.toNat:Int)-0=_;omega
  ·show ((a.toNat:Int)-192)*64+b.toNat-128=_;omega
  ·show (((a.toNat:Int)-224)*64+b.toNat-128)*64+c.toNat-128=_;omega
  ·show ((((a.toNat:Int)-240)*64+b.toNat-128)*64+c.toNat-128)*64+d.toNat-128=_;omega
 unfold qdn;rw [hg,if_pos ⟨h1,by rw [Int.toNat_natCast];exact h2⟩]
theorem qim (s:ByteArray) (p:Nat) (hp:p<s.size) (hs:s.size≤140737488355328) (w:World) :
  Gv Tryz.prog 198 [.string s,.int .i64 p] w fun v w'=>v=.tuple #[.int .i64 (decN (s.data.toList.drop p)).1,.int .i64 (decN (s.data.toList.drop p)).2]∧Ext w w':=by
 obtain ⟨L,hL⟩:∃ L,L=s.data.toList.drop p:=⟨_,rfl⟩
 have hll:L.length=s.size-p:=by rw [hL,qc9]
 have hle:=qgb L;have hle4:=qvu L;rw [← hL];refine zE Tryz.func198 Tryz.ntmps198 ?_;(conv=>whnf);refine zN (fun _=>?_);(conv=>whnf);(iterate 4 (refine zU ?_;(conv=>whnf)));refine zN (fun _=>?_);(conv=>whnf);refine qm (fun n:Nat=>[(0,.string s),(1,.int .i64 p),(6,.int .i64 n)]) (fun n w1=>1≤n∧n≤5∧n≤L.length+1∧(∀ m,m<n→m=0∨(decN L).2≠m)∧Ext w w1) (fun n=>5-n) 1 ⟨rfl,rfl,rfl,trivial⟩ ⟨by omega,by omega,by omega,fun m hm=>.inl (by omega),Ext.refl _⟩ ?_;rintro n w1 ρ' ⟨h1,h2,h3,h4,he⟩;conv=>whnf
 (repeat' (first|(refine zA ?_;(conv=>whnf))|((with_reducible refine zT ?_);(conv=>whnf))|((with_reducible refine zU ?_);(conv=>whnf))|((with_reducible refine zC (fun _=>?_) (fun _=>?_))<;>first|(exfalso;omega)|(conv=>whnf))))
 ·refine SliceS.at_ p (p+n) rfl (show (p:Int)+(n:Int)=((p+n:Nat):Int) by omega) (by omega) (by omega) ?_;have hx:(s.extract p (p+n)).data.toList=L.take n:=by
   rw [Lib.extract_data,hL];congr 1;omega
  have hxs:(s.extract p (p+n)).size=n:=by
   rw [ByteArray.size_extract];omega
  (conv=>whnf);refine ⟨fun cap cs b w2 hcap hcs hb hw=>?_⟩;have he2:Ext w w2:=by rw [hw];exact he.drew.alloc _
  have hcell:CellsAt w2 b 0 (byteCells (L.take n)):=fun k v hv=>by
   have hget:w2.heap[b]?=some (.cells cs 5 (cs.size,cs.size+1)):=by
    subst hw hb;exact heap_alloc_new _ _
   rw [qd hget,Nat.zero_add,hcs,hx];have:k<(byteCells (L.take n)).length:=(List.getElem?_eq_some_iff.1 hv).1;rw [List.getElem?_toArray,List.getElem?_append_left this];exact hv
  have hg:=qte (L.take n) b cap w2 hcell (by rw [List.length_take];omega) (by rw [List.length_take];omega);rw [show (L.take n).length=(s.extract p (p+n)).size by rw [hxs,List.length_take];omega] at hg;(conv=>whnf);refine CallV.of (hg) ?_;rintro v w3 ⟨rfl,he3⟩;have hlt:-1≤qdn (L.take n):=by
   unfold qdn;split
   ·rename_i h;have:=h.1;simp [qal] at this;omega
   ·omega
  (conv=>whnf)
  (repeat' (first|(refine zA ?_;(conv=>whnf))|((with_reducible refine zC (fun _=>?_) (fun _=>?_))<;>first|(exfalso;omega)|(conv=>whnf))))
  ·have hhit:=qtf L n (by omega) (by omega);refine ⟨?_,he2.trans he3⟩;rw [hhit];show Value.tuple #[.int .i64 _,.int .i64 _]=.tuple #[.int .i64 ((qdn (L.take n)).toNat:Int),.int .i64 (n:Int)];rw [Int.toNat_of_nonneg (by omega)]
  ·refine ⟨n+1,⟨rfl,rfl,rfl,trivial⟩,⟨by omega,by omega,by omega,fun m hm=>?_,he2.trans he3⟩,by omega⟩
   rcases Nat.lt_or_ge m n with h|h
   ·exact h4 m h
   ·obtain rfl:m=n:=by omega
    refine .inr fun hd=>?_;have:=qv4 L (by omega);rw [hd] at this;omega
 ·have hz:(decN L).2=0:=by
   rcases Nat.eq_zero_or_pos (decN L).2 with h|h
   ·exact h
   ·rcases h4 (decN L).2 (by omega) with h' | h'
    ·omega
    ·exact absurd rfl h'
  rw [qlw hz];exact ⟨rfl,he⟩
 ·have hz:(decN L).2=0:=by
   rcases Nat.eq_zero_or_pos (decN L).2 with h|h
   ·exact h
   ·rcases h4 (decN L).2 (by omega) with h' | h'
    ·omega
    ·exact absurd rfl h'
  rw [qlw hz];exact ⟨rfl,he⟩
theorem qha (s:ByteArray) (hs:s.size≤140737488355328) (w:World) :
  Gv Tryz.prog 127 [.string s] w fun v w'=>(∃ i:Int,v=.int .i64 i∧i<4611686018427387904∧(scal s.data.toList≠none→i=-1)∧(scal s.data.toList=none→0≤i))∧Ext w w':=by
 refine zE Tryz.func127 Tryz.ntmps127 ?_;(conv=>whnf);refine qm (fun p:Nat=>[(0,.string s),(3,.int .i64 p)]) (fun p w1=>p≤s.size∧(scal s.data.toList=none↔scal (s.data.toList.drop p)=none)∧Ext w w1) (fun p=>s.size-p) 0 ⟨rfl,rfl,trivial⟩ ⟨by omega,by simp,Ext.refl _⟩ ?_;rintro p w1 ρ' ⟨h1,h2,he⟩;(conv=>whnf);refine zC (fun _=>?_) (fun _=>?_)<;>(conv=>whnf)
 ·refine CallV.of (qim s p (by omega) hs _) ?_;rintro v w' ⟨rfl,he'⟩;have hle:=qgb (s.data.toList.drop p);rw [qc9] at hle;conv=>whnf
  (repeat' (first|(refine zA ?_;(conv=>whnf))|((with_reducible refine zC (fun _=>?_) (fun _=>?_))<;>first|(exfalso;omega)|(conv=>whnf))))
  ·refine ⟨⟨p,rfl,by omega,fun h=>?_,fun _=>by omega⟩,he.trans he'⟩;exact absurd (h2.2 (qfw (qge s p (by omega)) (by omega))) h
  ·refine ⟨p+(decN (s.data.toList.drop p)).2,⟨rfl,rfl,trivial⟩,⟨by omega,?_,he.trans he'⟩,by omega⟩;rw [h2,qd8 (qge s p (by omega)) (by omega),List.drop_drop];simp
 ·refine ⟨⟨-1,rfl,by omega,fun _=>rfl,fun h=>?_⟩,he⟩;rw [h2,List.drop_eq_nil_of_le (by simp;omega)] at h;rw [scal] at h;cases h
open Go.RowKit V
set_option maxRecDepth 100000
theorem qlb (c:UInt8) (w:World) :
  Gv Tryz.prog 128 [.int .u8 c.toNat] w fun v w'=>v=.bool (barB c)∧w'=w:=by
 have hc:=c.toNat_lt;have hm:barB c=true↔(c.toNat≤32∨c.toNat=60∨c.toNat=62∨c.toNat=34∨c.toNat=123∨c.toNat=125∨c.toNat=124∨c.toNat=94∨c.toNat=96∨c.toNat=92):=by
  have e:∀ n:Nat,n<256→(c=UInt8.ofNat n↔c.toNat=n):=fun n hn=>by
   rw [← UInt8.toNat_inj,UInt8.toNat_ofNat'];constructor<;>intro h<;>omega
  simp only [barB,decide_eq_true_iff,signs,List.mem_cons,List.not_mem_nil,or_false];rw [show (60:UInt8)=UInt8.ofNat 60 from rfl,show (62:UInt8)=UInt8.ofNat 62 from rfl,show (34:UInt8)=UInt8.ofNat 34 from rfl,show (123:UInt8)=UInt8.ofNat 123 from rfl,show (125:UInt8)=UInt8.ofNat 125 from rfl,
   show (124:UInt8)=UInt8.ofNat 124 from rfl,show (94:UInt8)=UInt8.ofNat 94 from rfl,show (96:UInt8)=UInt8.ofNat 96 from rfl,show (92:UInt8)=UInt8.ofNat 92 from rfl]
  rw [e _ (by omega),e _ (by omega),e _ (by omega),e _ (by omega),e _ (by omega),e _ (by omega),e _ (by omega),e _ (by omega),e _ (by omega)]
 refine zE Tryz.func128 Tryz.ntmps128 ?_;conv=>whnf
 (repeat' ((with_reducible refine zC (fun _=>?_) (fun _=>?_))<;>first|(exfalso;omega)|(conv=>whnf)))
 all_goals (refine ⟨congrArg Value.bool ?_,rfl⟩;rw [Bool.eq_iff_iff,hm];simp;try omega)
theorem qlc (c:UInt8) (w:World) :
  Gv Tryz.prog 129 [.int .u8 c.toNat] w fun v w'=>v=.bool (qdc c)∧w'=w:=by
 have hc:=c.toNat_lt;refine zE Tryz.func129 Tryz.ntmps129 ?_;conv=>whnf
 (repeat' (first|((with_reducible refine zT ?_);(conv=>whnf))|((with_reducible refine zU ?_);(conv=>whnf))|((with_reducible refine zC (fun _=>?_) (fun _=>?_))<;>first|(exfalso;omega)|(conv=>whnf))))
 all_goals (refine ⟨congrArg Value.bool ?_,rfl⟩;rw [Bool.eq_iff_iff];simp [qdc];try omega)
theorem qmt (c:UInt8) (w:World) :
  Gv Tryz.prog 130 [.int .u8 c.toNat] w fun v w'=>v=.bool (decide (48≤c.toNat∧c.toNat≤57))∧w'=w:=by
 have hc:=c.toNat_lt;refine zE Tryz.func130 Tryz.ntmps130 ?_;conv=>whnf
 (repeat' (first|((with_reducible refine zT ?_);(conv=>whnf))|((with_reducible refine zU ?_);(conv=>whnf))|((with_reducible refine zC (fun _=>?_) (fun _=>?_))<;>first|(exfalso;omega)|(conv=>whnf))))
 all_goals (refine ⟨congrArg Value.bool ?_,rfl⟩;rw [Bool.eq_iff_iff];simp;try omega)
theorem qka (s:ByteArray) (p:Nat) (hp:p<s.size) (h:(s.data.toList.take p).any barB=false):(s.data.toList.take (p+1)).any barB=barB (gb s p):=by
 rw [qks (by simpa using hp),List.any_append,h,Bool.false_or];simp [gb]
theorem qhk (s:ByteArray) (hs:s.size≤140737488355328) (w:World) :
  Gv Tryz.prog 78 [.string s] w fun v w'=>v=.int .i64 (refE s)∧Ext w w':=by
 refine zE Tryz.func78 Tryz.ntmps78 ?_;(conv=>whnf);refine zC (fun _=>?_) (fun _=>?_)<;>(conv=>whnf)
 ·exact ⟨by rw [refE,if_pos (by omega)];rfl,Ext.refl _⟩
 ·refine CallV.of (qha s hs _) ?_;rintro v w1 ⟨⟨i,rfl,h1,h2,h3⟩,he⟩;(conv=>whnf);refine zC (fun _=>?_) (fun _=>?_)<;>(conv=>whnf)
  ·refine ⟨?_,he⟩;rw [refE,if_neg (by omega),if_pos (by by_cases hh:scal s.data.toList=none;exact hh;exact absurd (h2 hh) (by omega))];rfl
  ·have hsc:scal s.data.toList≠none:=fun hh=>by have:=h3 hh;omega
   refine qm (fun p:Nat=>[(0,.string s),(3,.int .i64 p)]) (fun p w2=>p≤s.size∧w2=w1∧(s.data.toList.take p).any barB=false) (fun p=>s.size-p) 0 ⟨rfl,rfl,trivial⟩ ⟨by omega,rfl,by simp⟩ ?_;rintro p w2 ρ' ⟨hp,rfl,ha⟩;conv=>whnf
   (repeat' (first|((with_reducible refine zC (fun _=>?_) (fun _=>?_))<;>first|(exfalso;omega)|(conv=>whnf))|((with_reducible refine zX ?_);(conv=>whnf))))
   ·refine CallV.of (qlb (gb s p) _) ?_;rintro v w3 ⟨rfl,rfl⟩;(conv=>whnf);have hat:=qka s p (by omega) ha;cases hb:barB (gb s p)
    ·rw [hb] at hat;refine zU ?_;(conv=>whnf);refine zA ?_;(conv=>whnf);exact ⟨p+1,⟨rfl,rfl,trivial⟩,⟨by omega,rfl,hat⟩,by omega⟩
    ·rw [hb] at hat;refine zT ?_;(conv=>whnf);refine ⟨?_,he⟩;have:s.data.toList.any barB=true:=by
      rw [← List.take_append_drop (p+1) s.data.toList,List.any_append,hat];rfl
     rw [refE,if_neg (by omega),if_neg hsc,if_pos this];rfl
   ·refine ⟨?_,he⟩;rw [List.take_of_length_le (by simp;omega)] at ha;rw [refE,if_neg (by omega),if_neg hsc,if_neg (by rw [ha];simp)];rfl
theorem qle (s:ByteArray) (hs:s.size≤140737488355328) (w:World) :
  Gv Tryz.prog 79 [.string s] w fun v w'=>v=.int .i64 (qas s.data.toList 0)∧w'=w:=by
 refine zE Tryz.func79 Tryz.ntmps79 ?_;(conv=>whnf);refine qm (fun p:Nat=>[(0,.string s),(3,.int .i64 p)]) (fun p w2=>p≤s.size∧w2=w∧qas s.data.toList 0=qas (s.data.toList.drop p) p) (fun p=>s.size-p) 0 ⟨rfl,rfl,trivial⟩ ⟨by omega,rfl,rfl⟩ ?_;rintro p w2 ρ' ⟨hp,rfl,ha⟩;conv=>whnf
 (repeat' (first|((with_reducible refine zC (fun _=>?_) (fun _=>?_))<;>first|(exfalso;omega)|(conv=>whnf))|((with_reducible refine zX ?_);(conv=>whnf))))
 ·exact ⟨by rw [ha,qau s p (by omega),qiw _ _ _ (by omega)],rfl⟩
 ·rw [qau s p (by omega)] at ha
  ·refine CallV.of (qlc (gb s p) _) ?_;rintro v w3 ⟨rfl,rfl⟩;(conv=>whnf);cases hlb:qdc (gb s p)
   ·have hl2:¬ (97≤(gb s p).toNat∧(gb s p).toNat≤122∨65≤(gb s p).toNat∧(gb s p).toNat≤90):=by simpa [qdc] using hlb
    (repeat' (first|((with_reducible refine zT ?_);(conv=>whnf))|((with_reducible refine zU ?_);(conv=>whnf))|((with_reducible refine zC (fun _=>?_) (fun _=>?_))<;>first|(exfalso;omega)|(conv=>whnf))|((with_reducible refine zP ?_))))
    ·exact ⟨by rw [ha,qct _ _ _ (by omega) (by omega)];rfl,rfl⟩
    ·refine CallV.of (qmt (gb s p) _) ?_;rintro v w3 ⟨rfl,rfl⟩;conv=>whnf
     (repeat' (first|(refine zA ?_;(conv=>whnf))|((with_reducible refine zT ?_);(conv=>whnf))|((with_reducible refine zU ?_);(conv=>whnf))|((with_reducible refine zC (fun _=>?_) (fun _=>?_))<;>first|(exfalso;omega)|(conv=>whnf))|((with_reducible refine zP ?_))))
     all_goals first
      | exact ⟨by rw [ha,qct _ _ _ (by omega) (by omega)];rfl,rfl⟩
      | (refine ⟨p+1,⟨rfl,rfl,trivial⟩,⟨by omega,rfl,?_⟩,by omega⟩;rw [ha];exact qgw _ _ _ (by omega) (by omega))
   ·have hl2:(97≤(gb s p).toNat∧(gb s p).toNat≤122∨65≤(gb s p).toNat∧(gb s p).toNat≤90):=by simpa [qdc] using hlb
    refine zP ?_;refine zT ?_;(conv=>whnf);(iterate 5 (refine zU ?_;(conv=>whnf)));refine zA ?_;conv=>whnf
    all_goals (refine ⟨p+1,⟨rfl,rfl,trivial⟩,⟨by omega,rfl,?_⟩,by omega⟩;rw [ha];exact qgw _ _ _ (by omega) (by omega))
 ·exact ⟨by rw [ha,List.drop_eq_nil_of_le (by simp;omega),qas];rfl,rfl⟩
theorem qd7 (s:ByteArray) (hs:s.size≤140737488355328) (w:World) :
  Gv Tryz.prog 34 [.string s] w fun v w'=>v=.int .i64 (iriE s)∧Ext w w':=by
 refine zE Tryz.func34 Tryz.ntmps34 ?_;(conv=>whnf);refine CallV.of (qhk s hs _) ?_;rintro v w1 ⟨rfl,he⟩;conv=>whnf
 (repeat' (first|((with_reducible refine zT ?_);(conv=>whnf))|((with_reducible refine zU ?_);(conv=>whnf))|((with_reducible refine zC (fun _=>?_) (fun _=>?_))<;>first|(exfalso;omega)|(conv=>whnf))))
 ·refine CallV.of (qle s hs _) ?_;rintro v w2 ⟨rfl,rfl⟩;(conv=>whnf);(iterate 2 (refine zT ?_;(conv=>whnf)));refine zC (fun _=>?_) (fun _=>?_)<;>(conv=>whnf)
  ·exact ⟨by rw [iriE,if_neg (by omega),if_pos (by omega)];rfl,he⟩
  ·exact ⟨by rw [iriE,if_neg (by omega),if_neg (by omega),show refE s=0 by omega],he⟩
 ·exact ⟨by rw [iriE,if_pos (by omega)],he⟩
open Go.RowKit V
set_option maxRecDepth 100000
namespace V
theorem BytesS.rw {w0 w:World} {A:Option Addr} {c n:Nat} {e:TypeId} {l:List UInt8} {L:List (Nat × Obj)} {K:Value→Prop} (h:Rw w0 w (.slice A n c) e 1 n (byteCells l) L) (hk:K (.string ⟨l.toArray⟩)):BytesS w A n K:=by
 have hn:l.length=n:=by have:=h.len;simpa [byteCells] using this
 refine ⟨l,hn,fun hne=>?_,hk⟩;have:0<l.length:=List.length_pos_iff.2 hne;obtain ⟨g,e1,_,_,_,hc⟩:=h.cells (by omega);exact ⟨g,0,e1,hc⟩
end V
open Go.RowKit V
set_option maxRecDepth 100000
namespace V
theorem Rw.join {w0 w w':World} {v:Value} {e:TypeId} {size n:Nat} {xs:List Value} {L L2:List (Nat × Obj)} (h:Rw w0 w v e size n xs L) (hm:Mem w w' L2):Rw w0 w' v e size n xs (L2++L):=by
 have hc:=h.call hm.ext;refine ⟨⟨hc.mem.ext,fun x hx=>?_,?_⟩,hc.own,fun x hx=>?_⟩
 ·rcases List.mem_append.1 hx with hx|hx
  ·exact ⟨Nat.le_trans h.mem.ext.size (hm.own x hx).1,(hm.own x hx).2⟩
  ·exact hc.mem.own x hx
 ·rw [List.map_append,List.nodup_append];refine ⟨hm.nodup,h.mem.nodup,fun a ha b hb hab=>?_⟩;obtain ⟨x,hx,rfl⟩:=List.mem_map.1 ha;obtain ⟨y,hy,rfl⟩:=List.mem_map.1 hb;have h1:=(hm.own x hx).1;have h2:=h.mem.lt (b:=y.1) (o:=y.2) hy;omega
 ·rcases List.mem_append.1 hx with hx|hx
  ·intro e;have h1:=(hm.own x hx).1;have h2:=h.own.lt _ e;omega
  ·exact h.apart x hx
theorem Rw.drew {w0 w:World} {v:Value} {e:TypeId} {size n:Nat} {xs:List Value} {L:List (Nat × Obj)} (h:Rw w0 w v e size n xs L):Rw w0 w.drew v e size n xs L:=h.call (Ext.refl w).drew
end V
open Go.RowKit V
set_option maxRecDepth 100000
namespace V
theorem qyk {w:World} {g:Nat} {o:Obj} (h:w.heap[g]?=some o):g<w.heap.size:=by
 rcases Nat.lt_or_ge g w.heap.size with h' | h'
 ·exact h'
 ·rw [Array.getElem?_eq_none h'] at h;cases h
theorem PostO.still {w w':World} {B:List (Option Nat)} {v c:Value} (he:Ext w w') (h:v=c):PostO w B true (fun u _=>u=c) v w':=⟨Chg.ext he,h,fun h=>by cases h⟩
theorem AppV.own {P:Program} {base e size:Nat} {w:World} {v:Value} {n:Nat} {xs:List Value} {t ty:TypeId} {i:TypeInfo} {z:Value} {A:Option Addr} {m c:Nat} {news:List Value} {K:Value→World→Prop} (ht:P.underlying t=some (.slice e)) (hi:P.info? e=some i) (hz:i.zero=some z)
  (hsize:i.size=size) (hzs:z.cells.size=size) (hsz:0<size) (h:w.ownsRow base e size v n xs) (hbw:base≤w.heap.size) (hl:news.length=m*size)
  (hA:news≠[]→∃ b off,A=some ⟨b,off,none⟩∧CellsAt w b off news) (h1:∀ u∈news,u.oneCell'=true) (hb:(n+m)*i.bytes≤140737488355328) (h63:n+m≤140737488355328)
  (hk:∀ v' w',w'.ownsRow base e size v' (n+m) (xs++news)→w.grownBy w' v.ownBlock→(v'.ownBlock=v.ownBlock∨v'.ownBlock=some w.heap.size)→K v' w'):AppV P #[t,t] ty v (.slice A m c) w K:=by
 cases A with
 | none=>
  have hn:news=[]:=by
   cases hnn:news with
   | nil=>rfl
   | cons x r=>obtain ⟨b,off,h0,_⟩:=hA (by rw [hnn];simp);cases h0
  subst hn;have hm:m=0:=by
   rcases Nat.mul_eq_zero.1 (show m*size=0 by simpa using hl.symm) with h|h
   ·exact h
   ·omega
  subst hm;refine ⟨v,w,?_,hk v w (by simpa using h) ⟨rfl,rfl,rfl,Nat.le_refl _,fun _ _ _=>rfl⟩ (.inl rfl)⟩
  rcases h.2 with ⟨e1,e2⟩|⟨g,cap,cur,e1,_,_,hnc,_⟩
  ·subst e1;simp [Builtin.append_,run_underlying ht,sizeOf,typeInfo,hi,Builtin.lenOf,Builtin.firstCells]
  ·subst e1;simp [Builtin.append_,run_underlying ht,sizeOf,typeInfo,hi,Builtin.lenOf,Builtin.firstCells,hnc,storeCells]
 | some a=>
  have hcells:∀ j u,news[j]?=some u→w.cell? (a.add j)=some u:=by
   intro j u hu;obtain ⟨b,off,h0,h1⟩:=hA (by intro e;rw [e] at hu;simp at hu);cases h0;rw [qai];exact h1 j u hu
  obtain ⟨v',w',hrun,h2,h3,_,h5⟩:=run_append_own_at (P:=P) w base t ty e i z size i.bytes ht hi hz hsize rfl hzs hsz v n xs h a m c news hl hcells h1 (by simp only [maxLen];omega) hb hbw;exact ⟨v',w',hrun,hk v' w' h2 h3 h5⟩
theorem Mem.add {w0 w:World} {L:List (Nat × Obj)} {g:Nat} {o:Obj} (h:Mem w0 w L) (hg:w.heap[g]?=some o) (h0:w0.heap.size≤g) (hlt:∀ x∈L,x.1<g):Mem w0 w ((g,o)::L):=by
 refine ⟨h.ext,fun x hx=>?_,?_⟩
 ·rcases List.mem_cons.1 hx with rfl|hx
  ·exact ⟨h0,hg⟩
  ·exact h.own x hx
 ·simp only [List.map_cons,List.nodup_cons];refine ⟨fun hm=>?_,h.nodup⟩;obtain ⟨x,hx,e⟩:=List.mem_map.1 hm;have:=hlt x hx;omega
end V
open Go.RowKit V
set_option maxRecDepth 100000
def rdC (A:Option Addr) (n c:Nat) (t:List Value):Obj:=.cells (Value.slice A n c::t).toArray 324 (0,0)
def seeB (p:ByteArray→Bool):List ByteArray→Bool
 | []=>false
 | x::_=>p x
theorem qht (rb g:Nat) (cap:List Value) (p:ByteArray→Bool) (rest:List ByteArray) (A:Option Addr) (c:Nat) (t:List Value) (w:World) (hb:w.heap[rb]?=some (rdC A rest.length c t)) (hS:SlAt Go.Proofs.YtajgbepghniciaaGreatDoor.V.encS 1 w A rest)
  (hp:∀ x xs w1,rest=x::xs→Ext w w1→Gv Tryz.prog g (.string x::cap) w1 fun v w2=>v=.bool (p x)∧Ext w1 w2) :
  Gv Tryz.prog 211 [.pointer (some ⟨rb,0,none⟩),.func (.func g) #[] cap.toArray] w fun v w'=>v=.bool (seeB p rest)∧Ext w w':=by
 have h0:∀ w',Ext w w'→w'.cell? ⟨rb,0,none⟩=some (.slice A rest.length c):=fun w' he=>he.cell (by rw [qd hb];rfl)
 refine zE Tryz.func211 Tryz.ntmps211 ?_;(conv=>whnf);refine LoadV.of (h0 w (Ext.refl w)) ?_;cases rest with
 | nil=>
  simp only [List.length_nil];(conv=>whnf);refine zN (fun _=>?_);(conv=>whnf);(iterate 8 (refine zU ?_;(conv=>whnf)));exact ⟨rfl,Ext.refl w⟩
 | cons x xs=>
  simp only [List.length_cons] at h0 ⊢;(conv=>whnf);refine zY (fun _=>?_);(conv=>whnf);(iterate 4 (refine zT ?_;(conv=>whnf)));refine LoadV.of (h0 w (Ext.refl w)) ?_;(conv=>whnf);refine zT ?_;(conv=>whnf);refine ElemV.sl hS rfl 0 rfl (by simp) ?_;intro b off hc;(conv=>whnf);refine zT ?_;(conv=>whnf);refine LoadV.cell0 hc ?_;(conv=>whnf);refine zT ?_;(conv=>whnf);have hp':=hp x xs w rfl (Ext.refl w);cases cap with
  | nil=>
   (conv=>whnf);refine CallV.of (hp') ?_;rintro v w2 ⟨rfl,he⟩;(conv=>whnf);refine zT ?_;(conv=>whnf);exact ⟨rfl,he⟩
  | cons y ys=>
   (conv=>whnf);refine CallV.of (hp') ?_;rintro v w2 ⟨rfl,he⟩;(conv=>whnf);refine zT ?_;(conv=>whnf);exact ⟨rfl,he⟩
theorem V.SliceV.tail {w:World} {A:Option Addr} {x:ByteArray} {xs:List ByteArray} {n c:Nat} {k:IntKind} {K:Value→Prop} (hS:SlAt Go.Proofs.YtajgbepghniciaaGreatDoor.V.encS 1 w A (x::xs)) (hn:n=xs.length+1) (hc:n≤c)
  (hk:∀ A' c',SlAt Go.Proofs.YtajgbepghniciaaGreatDoor.V.encS 1 w A' xs→xs.length≤c'→K (.slice A' xs.length c')):SliceV 1 A n c (some (.int k 1)) none none K:=by
 subst hn;refine ⟨1,xs.length+1,c,rfl,rfl,rfl,by omega,by omega,by omega,fun h=>by simp at h,fun A' hA'=>?_⟩;obtain ⟨b,off,rfl,h2⟩:=hS.at_ (by simp);have hk:=hk A' (c-1) ⟨fun hne=>?_⟩ (by omega)
 ·simpa using hk
 ·have hpos:0<xs.length:=List.length_pos_iff.2 hne;rw [if_neg (by omega)] at hA';refine ⟨b,off+1,?_,fun j y hy=>?_⟩
  ·rw [hA'];show some ((⟨b,off,none⟩:Addr).add (1*1))=_;rw [qai]
  ·have:=h2 (j+1) y (by simpa using hy);rw [show off+1+j*1=off+(j+1)*1 by omega];exact this
theorem qd2 (rb i:Nat) (x:ByteArray) (xs:List ByteArray) (A:Option Addr) (c:Nat) (t:List Value) (w0 w:World) (L:List (Nat × Obj)) (hm:Mem w0 w L) (hi:L[i]?=some (rb,rdC A (xs.length+1) c t)) (hS:SlAt Go.Proofs.YtajgbepghniciaaGreatDoor.V.encS 1 w0 A (x::xs)) (hc:xs.length+1≤c) :
  Gv Tryz.prog 215 [.pointer (some ⟨rb,0,none⟩)] w fun v w'=>v=.string x∧∃ A' c',SlAt Go.Proofs.YtajgbepghniciaaGreatDoor.V.encS 1 w0 A' xs∧xs.length≤c'∧Mem w0 w' (L.set i (rb,rdC A' xs.length c' t)):=by
 have hb:=hm.get (List.mem_of_getElem? hi);refine zE Tryz.func215 Tryz.ntmps215 ?_;(conv=>whnf);refine LoadV.of (v:=.slice A (xs.length+1) c) (by rw [rdC] at hb;rw [qd hb];rfl) ?_;(conv=>whnf);refine ElemV.sl (hS.ext hm.ext) rfl 0 rfl (by simp) ?_;intro b off hcl;(conv=>whnf);refine LoadV.cell0 hcl ?_;(conv=>whnf);refine LoadV.of (v:=.slice A (xs.length+1) c) (by rw [rdC] at hb;rw [qd hb];rfl) ?_;(conv=>whnf);refine V.SliceV.tail hS rfl hc ?_;intro A' c' hS' hc';(conv=>whnf);refine StoreV.mem hm hi (show 0<t.length+1 by omega) rfl ?_;intro w2 hm2;(conv=>whnf);exact ⟨rfl,A',c',hS',hc',hm2⟩
open Go.RowKit V
set_option maxRecDepth 100000
theorem quw (x:ByteArray) (lb least:Nat) (hs:x.size≤140737488355328) (w:World) (hl:w.cell? ⟨lb,0,none⟩=some (.int .i64 least)) :
  Gv Tryz.prog 265 [.string x,.pointer (some ⟨lb,0,none⟩)] w fun v w'=>v=.bool (qv x least 8 false)∧Ext w w':=by
 have h1:=qcr x least 8 false hs w;refine zE Tryz.func265 Tryz.ntmps265 ?_;(conv=>whnf);refine LoadV.of hl ?_;(conv=>whnf);refine CallV.of (h1) ?_;rintro v w' ⟨rfl,he⟩;(conv=>whnf);exact ⟨rfl,he⟩
theorem qzg {α:Type} {L:List α} {i:Nat} {a:α} (h:L[i]?=some a):L.set i a=L:=by
 apply List.ext_getElem?;intro j;rw [List.getElem?_set]
 split
 ·rename_i e;subst e
  split
  ·exact h.symm
  ·rename_i hl;rw [List.getElem?_eq_none (by omega)] at h;cases h
 ·rfl
theorem qiy (s:ByteArray):seq s ⟨#[]⟩=decide (s.size=0):=by
 rw [Bool.eq_iff_iff,q7,decide_eq_true_iff]
 constructor
 ·rintro rfl;rfl
 ·intro h;obtain ⟨a⟩:=s;have:a=#[]:=Array.eq_empty_of_size_eq_zero h;rw [this]
structure TailP (q:ByteArray→Bool) (rest pre rest':List ByteArray) (s:ByteArray):Prop where
 eq:rest=pre++rest'
 all:pre.all q=true
 size:s.size≤9*pre.length
 none:s.size=0↔pre=[]
theorem TailP.step {q:ByteArray→Bool} {rest pre xs:List ByteArray} {x s s':ByteArray} (h:TailP q rest pre (x::xs) s) (hq:q x=true) (hs:s'.size=s.size+1+x.size) (hx:x.size≤8):TailP q rest (pre++[x]) xs s':=by
 obtain ⟨h1,h2,h3,h4⟩:=h;refine ⟨by rw [h1];simp,by simp [h2,hq],by simp;omega,?_⟩
 constructor
 ·intro h;omega
 ·intro h;simp at h
theorem qw5 (rb i least:Nat) (rest:List ByteArray) (A:Option Addr) (c:Nat) (t:List Value) (w0 w:World) (L:List (Nat × Obj)) (hm:Mem w0 w L) (hi:L[i]?=some (rb,rdC A rest.length c t)) (hS:SlAt Go.Proofs.YtajgbepghniciaaGreatDoor.V.encS 1 w0 A rest) (hc:rest.length≤c)
  (hx:∀ x∈rest,x.size≤1000000) (hn:rest.length≤1000000) :
  Gv Tryz.prog 216 [.pointer (some ⟨rb,0,none⟩),.int .i64 least] w fun v w'=>∃ pre rest' s,TailP (fun x=>qv x least 8 false) rest pre rest' s∧seeB (fun x=>qv x least 8 false) rest'=false∧
   v=.tuple #[.string s,.bool (decide (pre≠[]))]∧∃ A' c',SlAt Go.Proofs.YtajgbepghniciaaGreatDoor.V.encS 1 w0 A' rest'∧rest'.length≤c'∧Mem w0 w' (L.set i (rb,rdC A' rest'.length c' t)):=by
 refine zE Tryz.func216 Tryz.ntmps216 ?_;(conv=>whnf);refine NewV.mem hm ?_;intro lb w1 hm1;(conv=>whnf);refine qm (fun x:List ByteArray × Option Addr × Nat × ByteArray=>[(0,.pointer (some ⟨rb,0,none⟩)),(3,.pointer (some ⟨lb,0,none⟩)),(6,.string x.2.2.2)])
  (fun x w2=>∃ pre,TailP (fun x=>qv x least 8 false) rest pre x.1 x.2.2.2∧SlAt Go.Proofs.YtajgbepghniciaaGreatDoor.V.encS 1 w0 x.2.1 x.1∧x.1.length≤x.2.2.1∧Mem w0 w2 ((lb,.cells #[.int .i64 least] 3 (0,0))::L.set i (rb,rdC x.2.1 x.1.length x.2.2.1 t)))
  (fun x=>x.1.length) (rest,A,c,⟨#[]⟩) ⟨rfl,rfl,rfl,trivial⟩ ⟨[],⟨rfl,rfl,by simp;rfl,by simp;rfl⟩,hS,hc,by simp only;rw [qzg hi];exact hm1⟩ ?_
 rintro ⟨xs,B,d,s⟩ w2 ρ' ⟨pre,hP,hS2,hd,hm2⟩;simp only at hP hS2 hd hm2;dsimp only;(conv=>whnf);have hil:i<L.length:=(List.getElem?_eq_some_iff.1 hi).1;have hlb:=hm2.get (List.mem_cons_self ..);have hsz:∀ x∈xs,x.size≤1000000:=fun x hxx=>hx x (by rw [hP.eq];exact List.mem_append_right _ hxx)
 have hpl:pre.length≤1000000:=by have:=congrArg List.length hP.eq;simp at this;omega
 have hps:=hP.size;refine CallV.of (qht rb 265 [.pointer (some ⟨lb,0,none⟩)] (fun x=>qv x least 8 false) xs B d t w2 (hm2.get (List.mem_of_getElem? (i:=i+1) (by simp [hil]))) (hS2.ext hm2.ext) (fun x ys w3 e he=>quw x lb least (by have:=hsz x (by rw [e];exact List.mem_cons_self ..);omega) w3 (he.cell (by rw [qd hlb];rfl)))) ?_;rintro v w3 ⟨rfl,he⟩;have hm3:=hm2.call he;cases hq:seeB (fun x=>qv x least 8 false) xs
 ·(conv=>whnf);refine zU ?_;(conv=>whnf);refine ⟨pre,xs,s,hP,hq,?_,B,d,hS2,hd,hm3.sub (List.sublist_cons_self ..)⟩;have e:seq s ⟨#[]⟩=decide (pre=[]):=by
   rw [qiy,Bool.eq_iff_iff,decide_eq_true_iff,decide_eq_true_iff];exact hP.none
  rw [e]
  congr 3
  by_cases h:pre=[]<;>simp [h]
 ·obtain ⟨x,ys,rfl⟩:∃ x ys,xs=x::ys:=by
   cases xs with
   | nil=>cases hq
   | cons x ys=>exact ⟨x,ys,rfl⟩
  have hq:qv x least 8 false=true:=hq;have hx8:x.size≤8:=by simp [qv] at hq;omega
  simp only [List.length_cons] at hd hm3 ⊢;(conv=>whnf);refine zT ?_;(conv=>whnf);refine CallV.of (qd2 rb (i+1) x ys B d t w0 w3 _ hm3 (by simp [hil]) hS2 hd) ?_;rintro v w4 ⟨rfl,A',c',hS4,hc4,hm4⟩;have hm4':Mem w0 w4 ((lb,.cells #[.int .i64 least] 3 (0,0))::L.set i (rb,rdC A' ys.length c' t)):=by
   rw [List.set_cons_succ,List.set_set] at hm4;exact hm4
  (conv=>whnf);refine ⟨by show 1+x.size≤_;omega,?_⟩;(conv=>whnf);refine ⟨by show s.size+(_:ByteArray).size≤_;rw [bsz];show s.size+(1+x.size)≤_;omega,?_⟩;(conv=>whnf);exact ⟨(ys,A',c',s++((⟨#[45]⟩:ByteArray)++x)),⟨rfl,rfl,rfl,trivial⟩,⟨pre++[x],hP.step hq (by rw [bsz,bsz];show s.size+(1+x.size)=_;omega) hx8,hS4,hc4,hm4'⟩,by simp⟩
open Go.RowKit V
set_option maxRecDepth 100000
def qdq:Nat→List ByteArray→List ByteArray
 | 0,l=>l
 | _,[]=>[]
 | k+1,x::xs=>if qv x 3 3 true=true then qdq k xs else x::xs
def qdb:List ByteArray→Option (List ByteArray)
 | []=>none
 | x::xs=>if qv x 2 8 true=true then some (if 3<x.size then xs else qdq 3 xs) else none
def tagC (a0 a1 a2 a3:ByteArray) (V E:Value) (a6:ByteArray):List Value:=[.string a0,.string a1,.string a2,.string a3,V,E,.string a6]
section
variable {w0 w:World} {L:List (Nat × Obj)} {i rb n c off:Nat} {A:Option Addr} {t:List Value} {v:Value}
theorem qfr {K:World→Prop} (hm:Mem w0 w L) (hi:L[i]?=some (rb,rdC A n c t)) (k:Nat) (ho:off=1+k) (hk:k<t.length) (h1:qdf v=true) (hw:∀ w',Mem w0 w' (L.set i (rb,rdC A n c (t.set k v)))→K w'):StoreV w rb off v K:=by
 subst ho;refine StoreV.mem hm hi (by simp;omega) h1 fun w' h=>hw w' ?_;have e:(Value.slice A n c::t).toArray.setIfInBounds (1+k) v=(Value.slice A n c::t.set k v).toArray:=by
  rw [List.setIfInBounds_toArray,Nat.add_comm 1 k,List.set_cons_succ]
 rw [e] at h;exact h
theorem qe5 {K:Value→Prop} (hm:Mem w0 w L) (hi:L[i]?=some (rb,rdC A n c t)) (k:Nat) (ho:off=1+k) (hv:t[k]?=some v) (hk:K v):LoadV w rb off K:=by
 subst ho;exact LoadV.mem hm hi (by rw [List.getElem?_toArray,Nat.add_comm 1 k,List.getElem?_cons_succ];exact hv) hk
end
theorem qtk (x:ByteArray) (hs:x.size≤140737488355328) (w:World):Gv Tryz.prog 257 [.string x] w fun v w'=>v=.bool (qv x 2 8 true)∧Ext w w':=by
 have h1:=qcr x 2 8 true hs w;refine zE Tryz.func257 Tryz.ntmps257 ?_;(conv=>whnf);refine CallV.of (h1) ?_;rintro v w' ⟨rfl,he⟩;(conv=>whnf);exact ⟨rfl,he⟩
theorem qtl (x:ByteArray) (hs:x.size≤140737488355328) (w:World):Gv Tryz.prog 259 [.string x] w fun v w'=>v=.bool (qv x 3 3 true)∧Ext w w':=by
 have h1:=qcr x 3 3 true hs w;refine zE Tryz.func259 Tryz.ntmps259 ?_;(conv=>whnf);refine CallV.of (h1) ?_;rintro v w' ⟨rfl,he⟩;(conv=>whnf);exact ⟨rfl,he⟩
theorem ql6 (rb i:Nat) (rest:List ByteArray) (A:Option Addr) (c:Nat) (a0 a2 a3 a6:ByteArray) (V E:Value) (w0 w:World) (L:List (Nat × Obj)) (hm:Mem w0 w L) (hi:L[i]?=some (rb,rdC A rest.length c (tagC a0 ⟨#[]⟩ a2 a3 V E a6)))
  (hS:SlAt Go.Proofs.YtajgbepghniciaaGreatDoor.V.encS 1 w0 A rest) (hc:rest.length≤c) (hx:∀ x∈rest,x.size≤1000000) :
  Gv Tryz.prog 213 [.pointer (some ⟨rb,0,none⟩)] w fun v w'=>(qdb rest=none∧v=.bool false∧Ext w0 w')∨
   (∃ rest',qdb rest=some rest'∧v=.bool true∧∃ A' c' b0 b1,SlAt Go.Proofs.YtajgbepghniciaaGreatDoor.V.encS 1 w0 A' rest'∧rest'.length≤c'∧Mem w0 w' (L.set i (rb,rdC A' rest'.length c' (tagC b0 b1 a2 a3 V E a6)))):=by
 have hil:i<L.length:=(List.getElem?_eq_some_iff.1 hi).1;refine zE Tryz.func213 Tryz.ntmps213 ?_;(conv=>whnf);refine CallV.of (qht rb 257 [] (fun x=>qv x 2 8 true) rest A c _ w (hm.get (List.mem_of_getElem? hi)) (hS.ext hm.ext) (fun x ys w3 e he=>qtk x (by have:=hx x (by rw [e];exact List.mem_cons_self ..);omega) w3)) ?_;rintro v w1 ⟨rfl,he⟩;have hm1:=hm.call he;cases rest with
 | nil=>
  (conv=>whnf);refine zP ?_;refine Tst.no rfl ?_;(conv=>whnf);exact .inl ⟨rfl,rfl,hm1.ext⟩
 | cons x xs=>
  show putV _ _ _ (Value.bool (qv x 2 8 true)) _;cases hq:qv x 2 8 true
  ·(conv=>whnf);refine zP ?_;refine zU ?_;(conv=>whnf);exact .inl ⟨by rw [qdb,if_neg (by rw [hq];simp)],rfl,hm1.ext⟩
  ·have hR:qdb (x::xs)=some (if 3<x.size then xs else qdq 3 xs):=by rw [qdb,if_pos hq]
   rw [hR];have hx1:=hx x (List.mem_cons_self ..);simp only [List.length_cons] at hi hm1 hc ⊢;(conv=>whnf);refine zP ?_;refine zT ?_;(conv=>whnf);refine CallV.of (qd2 rb i x xs A c _ w0 w1 L hm1 hi hS hc) ?_;rintro v w2 ⟨rfl,A2,c2,hS2,hc2,hm2⟩;(conv=>whnf);refine qfr hm2 (List.getElem?_set_self hil) 0 rfl (show 0<7 by decide) rfl ?_;intro w3 hm3;rw [List.set_set] at hm3;replace hm3:Mem w0 w3 (L.set i (rb,rdC A2 xs.length c2 (tagC x ⟨#[]⟩ a2 a3 V E a6))):=hm3;(conv=>whnf);refine qe5 hm3 (List.getElem?_set_self hil) 0 rfl rfl ?_;(conv=>whnf);refine zC (fun _=>?_) (fun _=>?_)<;>(conv=>whnf)
   ·rw [if_pos (by omega)];exact .inr ⟨xs,rfl,rfl,A2,c2,x,⟨#[]⟩,hS2,hc2,hm3⟩
   ·rw [if_neg (by omega)];refine qm (fun x:Nat × List ByteArray × Option Addr × Nat × ByteArray=>[(0,.pointer (some ⟨rb,0,none⟩)),(3,.int .i64 x.1)])
     (fun y w2=>y.1≤3∧qdq 3 xs=qdq (3-y.1) y.2.1∧y.2.2.2.2.size≤y.1*1000001∧(∀ x∈y.2.1,x.size≤1000000)∧SlAt Go.Proofs.YtajgbepghniciaaGreatDoor.V.encS 1 w0 y.2.2.1 y.2.1∧y.2.1.length≤y.2.2.2.1∧Mem w0 w2 (L.set i (rb,rdC y.2.2.1 y.2.1.length y.2.2.2.1 (tagC x y.2.2.2.2 a2 a3 V E a6))))
     (fun y=>3-y.1) (0,xs,A2,c2,⟨#[]⟩) ⟨rfl,rfl,trivial⟩ ⟨by simp,rfl,by simp;rfl,fun y hy=>hx y (List.mem_cons_of_mem _ hy),hS2,hc2,hm3⟩ ?_
    rintro ⟨k,ys,B,d,s⟩ w4 ρ' ⟨h1,h2,h3,h4,hS4,hc4,hm4⟩;simp only at h1 h2 h3 h4 hS4 hc4 hm4;dsimp only;conv=>whnf
    (repeat' (first|((with_reducible refine zT ?_);(conv=>whnf))|((with_reducible refine zU ?_);(conv=>whnf))|((with_reducible refine zC (fun _=>?_) (fun _=>?_))<;>first|(exfalso;omega)|(conv=>whnf))))
    ·have hk:3-k=(2-k)+1:=by omega
     refine CallV.of (qht rb 259 [] (fun x=>qv x 3 3 true) ys B d _ w4 (hm4.get (List.mem_of_getElem? (List.getElem?_set_self hil))) (hS4.ext hm4.ext) (fun x zs w3 e he=>qtl x (by have:=h4 x (by rw [e];exact List.mem_cons_self ..);omega) w3)) ?_;rintro v w5 ⟨rfl,he5⟩;have hm5:=hm4.call he5;cases ys with
     | nil=>
      (conv=>whnf);refine zT ?_;(conv=>whnf);refine Tst.no rfl ?_;(conv=>whnf);refine .inr ⟨[],?_,rfl,B,d,x,s,hS4,hc4,hm5⟩;rw [h2,hk];rfl
     | cons y zs=>
      show putV _ _ _ (Value.bool (qv y 3 3 true)) _;have hd3:qdq (2-k+1) (y::zs)=if qv y 3 3 true=true then qdq (2-k) zs else y::zs:=rfl;rw [hk,hd3] at h2;cases hq:qv y 3 3 true
      ·rw [if_neg (by rw [hq];simp)] at h2;(conv=>whnf);refine zT ?_;(conv=>whnf);refine zU ?_;(conv=>whnf);exact .inr ⟨y::zs,by rw [h2],rfl,B,d,x,s,hS4,hc4,hm5⟩
      ·rw [if_pos hq] at h2;simp only [List.length_cons] at hm5 hc4 ⊢;have hy:=h4 y (List.mem_cons_self ..);(conv=>whnf);(iterate 2 (refine zT ?_;(conv=>whnf)));refine zC (fun _=>?_) (fun _=>?_)<;>(conv=>whnf)
       ·
        refine qe5 hm5 (List.getElem?_set_self hil) 1 rfl rfl ?_;(conv=>whnf);refine ⟨by show s.size+1≤_;omega,?_⟩;(conv=>whnf);refine qfr hm5 (List.getElem?_set_self hil) 1 rfl (show 1<7 by decide) rfl ?_;intro w7 hm7;rw [List.set_set] at hm7;replace hm7:Mem w0 w7 (L.set i (rb,rdC B (zs.length+1) d (tagC x (s++(⟨#[45]⟩:ByteArray)) a2 a3 V E a6))):=hm7;(conv=>whnf);refine DrawV.inv (fun S w=>(S 11=false∧(bif S 6 then (∃ A' c',SlAt Go.Proofs.YtajgbepghniciaaGreatDoor.V.encS 1 w0 A' zs∧zs.length≤c'∧Mem w0 w (L.set i (rb,rdC A' zs.length c' (tagC x (s++(⟨#[45]⟩:ByteArray)) a2 a3 V E a6)))) else Mem w0 w (L.set i (rb,rdC B (zs.length+1) d (tagC x (s++(⟨#[45]⟩:ByteArray)) a2 a3 V E a6)))))∨
          (S 11=true∧S 4=true∧S 6=true∧∃ A' c',SlAt Go.Proofs.YtajgbepghniciaaGreatDoor.V.encS 1 w0 A' zs∧zs.length≤c'∧Mem w0 w (L.set i (rb,rdC A' zs.length c' (tagC x ((s++(⟨#[45]⟩:ByteArray))++y) a2 a3 V E a6))))) rfl (by kernel_rfl) (.inl ⟨rfl,hm7.drew⟩) ?_
        (conv=>whnf);refine zI ?_;(conv=>whnf);refine zI ?_;(conv=>whnf);refine zI ?_;(conv=>whnf);refine zI ?_;(conv=>whnf);refine StepI.of (.string (s++(⟨#[45]⟩:ByteArray))) (fun S wd hk hp hI=>?_) ?_
        ·obtain ⟨h11,hI⟩:=hI.resolve_right (fun h=>by have:=h.2.1;rw [hk] at this;cases this);(conv=>whnf);cases h6:S 6
         ·rw [h6] at hI;refine qe5 hI (List.getElem?_set_self hil) 1 rfl rfl ?_;(conv=>whnf);exact ⟨rfl,.inl ⟨h11,by show bif S 6 then _ else _;rw [h6];exact hI⟩⟩
         ·rw [h6] at hI;obtain ⟨A',c',hS',hc',hM⟩:=hI;refine qe5 hM (List.getElem?_set_self hil) 1 rfl rfl ?_;(conv=>whnf);exact ⟨rfl,.inl ⟨h11,by show bif S 6 then _ else _;rw [h6];exact ⟨A',c',hS',hc',hM⟩⟩⟩
        (conv=>whnf);refine zI ?_;(conv=>whnf);refine StepI.of (.string y) (fun S wd hk hp hI=>?_) ?_
        ·obtain ⟨h11,hI⟩:=hI.resolve_right (fun h=>by have:=h.2.2.1;rw [hk] at this;cases this);have h6:S 6=false:=hk;rw [h6] at hI;(conv=>whnf);refine CallV.of (qd2 rb i y zs B d _ w0 wd _ hI (List.getElem?_set_self hil) hS4 hc4) ?_;rintro v w6 ⟨rfl,A',c',hS',hc',hM'⟩;rw [List.set_set] at hM';(conv=>whnf);exact ⟨rfl,.inl ⟨h11,A',c',hS',hc',hM'⟩⟩
        (conv=>whnf);refine StepI.of (.string ((s++(⟨#[45]⟩:ByteArray))++y)) (fun S wd hk hp hI=>?_) ?_
        ·(conv=>whnf);refine ⟨by rw [bsz];show s.size+1+y.size≤_;omega,?_⟩;(conv=>whnf);exact ⟨rfl,hI⟩
        (conv=>whnf);refine zI ?_;(conv=>whnf);refine zI ?_;(conv=>whnf);refine zI ?_;(conv=>whnf);refine StepI.of undef (fun S wd hk hp hI=>?_) ?_
        ·obtain ⟨h11,hI⟩:=hI.resolve_right (fun h=>by have:=h.1;rw [hk] at this;cases this);have h4:=hp 4 (by decide);have h6:=hp 6 (by decide);rw [h6] at hI;obtain ⟨A',c',hS',hc',hM⟩:=hI;(conv=>whnf);refine qfr hM (List.getElem?_set_self hil) 1 rfl (show 1<7 by decide) rfl ?_;intro w6 hM';rw [List.set_set] at hM';(conv=>whnf);exact ⟨rfl,.inr ⟨rfl,h4,h6,A',c',hS',hc',hM'⟩⟩
        (conv=>whnf);intro w6 hI;obtain ⟨_,_,_,A',c',hS',hc',hM⟩:=hI.resolve_left (fun h=>by have:=h.1;cases this);(conv=>whnf);refine zA ?_;(conv=>whnf);refine ⟨(k+1,zs,A',c',(s++(⟨#[45]⟩:ByteArray))++y),⟨rfl,rfl,trivial⟩,⟨by simp only;omega,?_,?_,fun x hx=>h4 x (List.mem_cons_of_mem _ hx),hS',hc',hM⟩,by simp only;omega⟩
        ·rw [h2];simp only;rw [show 3-(k+1)=2-k by omega]
        ·simp only [bsz,show (⟨#[45]⟩:ByteArray).size=1 from rfl];omega
       ·skip
        refine DrawV.inv (fun S w=>(S 11=false∧(bif S 6 then (∃ A' c',SlAt Go.Proofs.YtajgbepghniciaaGreatDoor.V.encS 1 w0 A' zs∧zs.length≤c'∧Mem w0 w (L.set i (rb,rdC A' zs.length c' (tagC x s a2 a3 V E a6)))) else Mem w0 w (L.set i (rb,rdC B (zs.length+1) d (tagC x s a2 a3 V E a6)))))∨
          (S 11=true∧S 4=true∧S 6=true∧∃ A' c',SlAt Go.Proofs.YtajgbepghniciaaGreatDoor.V.encS 1 w0 A' zs∧zs.length≤c'∧Mem w0 w (L.set i (rb,rdC A' zs.length c' (tagC x (s++y) a2 a3 V E a6))))) rfl (by kernel_rfl) (.inl ⟨rfl,hm5.drew⟩) ?_
        (conv=>whnf);refine zI ?_;(conv=>whnf);refine zI ?_;(conv=>whnf);refine zI ?_;(conv=>whnf);refine zI ?_;(conv=>whnf);refine StepI.of (.string s) (fun S wd hk hp hI=>?_) ?_
        ·obtain ⟨h11,hI⟩:=hI.resolve_right (fun h=>by have:=h.2.1;rw [hk] at this;cases this);(conv=>whnf);cases h6:S 6
         ·rw [h6] at hI;refine qe5 hI (List.getElem?_set_self hil) 1 rfl rfl ?_;(conv=>whnf);exact ⟨rfl,.inl ⟨h11,by show bif S 6 then _ else _;rw [h6];exact hI⟩⟩
         ·rw [h6] at hI;obtain ⟨A',c',hS',hc',hM⟩:=hI;refine qe5 hM (List.getElem?_set_self hil) 1 rfl rfl ?_;(conv=>whnf);exact ⟨rfl,.inl ⟨h11,by show bif S 6 then _ else _;rw [h6];exact ⟨A',c',hS',hc',hM⟩⟩⟩
        (conv=>whnf);refine zI ?_;(conv=>whnf);refine StepI.of (.string y) (fun S wd hk hp hI=>?_) ?_
        ·obtain ⟨h11,hI⟩:=hI.resolve_right (fun h=>by have:=h.2.2.1;rw [hk] at this;cases this);have h6:S 6=false:=hk;rw [h6] at hI;(conv=>whnf);refine CallV.of (qd2 rb i y zs B d _ w0 wd _ hI (List.getElem?_set_self hil) hS4 hc4) ?_;rintro v w6 ⟨rfl,A',c',hS',hc',hM'⟩;rw [List.set_set] at hM';(conv=>whnf);exact ⟨rfl,.inl ⟨h11,A',c',hS',hc',hM'⟩⟩
        (conv=>whnf);refine StepI.of (.string (s++y)) (fun S wd hk hp hI=>?_) ?_
        ·(conv=>whnf);refine ⟨by show s.size+y.size≤_;omega,?_⟩;(conv=>whnf);exact ⟨rfl,hI⟩
        (conv=>whnf);refine zI ?_;(conv=>whnf);refine zI ?_;(conv=>whnf);refine zI ?_;(conv=>whnf);refine StepI.of undef (fun S wd hk hp hI=>?_) ?_
        ·obtain ⟨h11,hI⟩:=hI.resolve_right (fun h=>by have:=h.1;rw [hk] at this;cases this);have h4:=hp 4 (by decide);have h6:=hp 6 (by decide);rw [h6] at hI;obtain ⟨A',c',hS',hc',hM⟩:=hI;(conv=>whnf);refine qfr hM (List.getElem?_set_self hil) 1 rfl (show 1<7 by decide) rfl ?_;intro w6 hM';rw [List.set_set] at hM';(conv=>whnf);exact ⟨rfl,.inr ⟨rfl,h4,h6,A',c',hS',hc',hM'⟩⟩
        (conv=>whnf);intro w6 hI;obtain ⟨_,_,_,A',c',hS',hc',hM⟩:=hI.resolve_left (fun h=>by have:=h.1;cases this);(conv=>whnf);refine zA ?_;(conv=>whnf);refine ⟨(k+1,zs,A',c',s++y),⟨rfl,rfl,trivial⟩,⟨by simp only;omega,?_,?_,fun x hx=>h4 x (List.mem_cons_of_mem _ hx),hS',hc',hM⟩,by simp only;omega⟩
        ·rw [h2];simp only;rw [show 3-(k+1)=2-k by omega]
        ·simp only [bsz];omega
    ·refine .inr ⟨ys,?_,rfl,B,d,x,s,hS4,hc4,hm4⟩;rw [h2,show 3-k=0 by omega];rfl
end Go.Proofs.YtajgbepghniciaaGreatDoor
namespace Go.Proofs.YtajgbepghniciaaGreatDoor
open Go.RowKit
namespace V
structure RowB (e:TypeId) (xs:List Value) (L:List (Nat × Obj)) (v:Value):Prop where
 h:(v=.slice none 0 0∧xs=[])∨∃ g cap cur,v=.slice (some ⟨g,0,none⟩) xs.length cap∧(g,Obj.cells cur e (0,0))∈L∧xs.length≤cap∧cap≤maxLen∧cur.size=cap∧cur.toList.take xs.length=xs
section
variable {w0 w:World} {L L':List (Nat × Obj)} {e:TypeId} {xs:List Value} {v:Value}
theorem RowB.nil (e:TypeId) (L:List (Nat × Obj)):RowB e [] L (.slice none 0 0):=⟨.inl ⟨rfl,rfl⟩⟩
theorem RowB.owns (h:RowB e xs L v) (hm:Mem w0 w L):w.ownsRow w0.heap.size e 1 v xs.length xs:=by
 refine ⟨(Nat.mul_one _).symm,?_⟩
 rcases h.h with ⟨rfl,rfl⟩|⟨g,cap,cur,rfl,hg,h1,h2,h3,h4⟩
 ·exact .inl ⟨rfl,rfl⟩
 ·exact .inr ⟨g,cap,cur,rfl,(hm.own _ hg).1,hm.get hg,h1,h2,by rw [h3,Nat.mul_one],by rw [Nat.mul_one];exact h4⟩
theorem RowB.keep (h:RowB e xs L v) (hk:∀ y∈L,v.ownBlock=some y.1→y∈L'):RowB e xs L' v:=by
 refine ⟨?_⟩
 rcases h.h with h|⟨g,cap,cur,rfl,hg,h1⟩
 ·exact .inl h
 ·exact .inr ⟨g,cap,cur,rfl,hk _ hg rfl,h1⟩
theorem RowB.in_ (h:RowB e xs L v) {g:Nat} (hg:v.ownBlock=some g):∃ o,(g,o)∈L:=by
 rcases h.h with ⟨rfl,_⟩|⟨g',cap,cur,rfl,h',_⟩
 ·cases hg
 ·cases hg;exact ⟨_,h'⟩
theorem RowB.slice (h:RowB e xs L v):∃ A c,v=.slice A xs.length c:=by
 rcases h.h with ⟨rfl,rfl⟩|⟨g,cap,cur,rfl,_⟩
 ·exact ⟨_,_,rfl⟩
 ·exact ⟨_,_,rfl⟩
theorem RowB.sl {l:List ByteArray} {A:Option Addr} {n c:Nat} (h:RowB e (l.map Value.string) L (.slice A n c)) (hm:Mem w0 w L):SlAt Go.Proofs.YtajgbepghniciaaGreatDoor.V.encS 1 w A l:=by
 refine ⟨fun hne=>?_⟩
 rcases h.h with ⟨_,h0⟩|⟨g,cap,cur,hv,hg,h1,_,_,h4⟩
 ·simp at h0;exact absurd h0 hne
 ·cases hv;refine ⟨g,0,rfl,fun j x hx k u hu=>?_⟩;cases k with
  | succ k=>simp [Go.Proofs.YtajgbepghniciaaGreatDoor.V.encS] at hu
  | zero=>
   simp only [Go.Proofs.YtajgbepghniciaaGreatDoor.V.encS,List.getElem?_cons_zero,Option.some.injEq] at hu;subst hu;have hj:(cur.toList.take (l.map Value.string).length)[j]?=some (.string x):=by rw [h4,List.getElem?_map,hx];rfl
   rw [List.getElem?_take] at hj
   split at hj
   ·rw [qd (hm.get hg)]
    simpa using hj
   ·cases hj
end
theorem AppV.blk {P:Program} {w0 w:World} {L:List (Nat × Obj)} {e t ty:TypeId} {i:TypeInfo} {z x:Value} {A:Option Addr} {n c nb:Nat} {xs:List Value} {K:Value→World→Prop} (ht:P.underlying t=some (.slice e)) (hi:P.info? e=some i) (hz:i.zero=some z)
  (hsize:i.size=1) (hzs:z.cells.size=1) (hby:i.bytes≤16) (hm:Mem w0 w L) (hr:RowB e xs L (.slice A n c)) (hn:n=xs.length) (hx:x.oneCell'=true) (hb:w.cell? ⟨nb,0,none⟩=some x) (hlen:n+1≤8000000000000)
  (hk:∀ A' c' w' L',Mem w0 w' L'→RowB e (xs++[x]) L' (.slice A' (n+1) c')→(∀ y∈L,Value.ownBlock (.slice A n c)≠some y.1→y∈L')→
   (∀ g,Value.ownBlock (.slice A' (n+1) c')=some g→Value.ownBlock (.slice A n c)=some g∨∀ y∈L,y.1≠g)→K (.slice A' (n+1) c') w'):AppV P #[t,t] ty (.slice A n c) (.slice (some ⟨nb,0,none⟩) 1 1) w K:=by
 subst hn;refine AppV.own (news:=[x]) ht hi hz hsize hzs (by decide) (hr.owns hm) hm.ext.size rfl (fun _=>⟨nb,0,rfl,fun k u hu=>?_⟩) (fun u hu=>by simp at hu;rw [hu];exact hx) ?_ (by omega) ?_
 ·cases k with
  | zero=>simp at hu;subst hu;exact hb
  | succ k=>simp at hu
 ·exact Nat.le_trans (Nat.mul_le_mul hlen hby) (by decide)
 ·intro v' w' ho hg hor
  rcases ho.2 with ⟨_,h0⟩|⟨g,cap,cur,rfl,hg0,hgw,h1,h2,h3,h4⟩
  ·omega
  ·have hltL:∀ y∈L,y.1<w.heap.size:=fun y hy=>hm.lt (b:=y.1) (o:=y.2) hy
   have hne:∀ y∈L,Value.ownBlock (.slice A xs.length c)≠some y.1→y.1≠g:=fun y hy hv e=>by
    rcases hor with hor|hor
    ·exact hv (by rw [← hor,e];rfl)
    ·have:=hltL y hy;simp only [Value.ownBlock,Option.some.injEq] at hor;omega
   refine hk _ cap w' ((g,.cells cur e (0,0))::L.filter fun y=>decide (Value.ownBlock (.slice A xs.length c)≠some y.1)) ⟨?_,?_,?_⟩ ⟨.inr ⟨g,cap,cur,by simp,List.mem_cons_self ..,by simpa using h1,h2,by rw [h3,Nat.mul_one],by rw [Nat.mul_one] at h4;simpa using h4⟩⟩ ?_ ?_
   ·exact Below.grown hm.ext hg hm.ext.size (fun k hk=>((hr.owns hm).lt k hk).1)
   ·intro y hy
    rcases List.mem_cons.1 hy with rfl|hy
    ·exact ⟨hg0,hgw⟩
    ·obtain ⟨hy,hv⟩:=List.mem_filter.1 hy;have hv:=of_decide_eq_true hv;refine ⟨(hm.own y hy).1,?_⟩;rw [hg.block y.1 (hltL y hy) (fun e=>hv e.symm)];exact (hm.own y hy).2
   ·simp only [List.map_cons,List.nodup_cons];refine ⟨fun hmem=>?_,(List.filter_sublist.map _).nodup hm.nodup⟩;obtain ⟨y,hy,e⟩:=List.mem_map.1 hmem;obtain ⟨hy,hv⟩:=List.mem_filter.1 hy;exact hne y hy (of_decide_eq_true hv) e
   ·intro y hy hv;exact List.mem_cons_of_mem _ (List.mem_filter.2 ⟨hy,decide_eq_true hv⟩)
   ·intro g' hg';cases hg'
    rcases hor with hor|hor
    ·exact .inl hor.symm
    ·right
     intro y hy e;have:=hltL y hy;have hor:g=w.heap.size:=Option.some.inj hor;have e:y.1=g:=e;omega
structure RowsP (e:TypeId) (O:List Nat) (L:List (Nat × Obj)) (R:List (List Value × Value)):Prop where
 row:∀ (k:Nat) p,R[k]?=some p→RowB e p.1 L p.2
 out:∀ (k:Nat) p g,R[k]?=some p→p.2.ownBlock=some g→g∉O
 ap:∀ (k k':Nat) p p' g,R[k]?=some p→R[k']?=some p'→k≠k'→p.2.ownBlock=some g→p'.2.ownBlock≠some g
theorem RowsP.keep {e:TypeId} {O:List Nat} {L L':List (Nat × Obj)} {R:List (List Value × Value)} (h:RowsP e O L R) (hk:∀ y∈L,y.1∉O→y∈L'):RowsP e O L' R:=
 ⟨fun k p hp=>(h.row k p hp).keep fun y hy hv=>hk y hy (h.out k p y.1 hp hv),h.out,h.ap⟩
theorem RowsP.app {P:Program} {w0 w:World} {O:List Nat} {L:List (Nat × Obj)} {R:List (List Value × Value)} {e t ty:TypeId} {i:TypeInfo} {z x:Value} {A:Option Addr} {n c nb:Nat} {xs:List Value} {K:Value→World→Prop} (h:RowsP e O L R) (k:Nat) (hk:R[k]?=some (xs,.slice A n c)) (ht:P.underlying t=some (.slice e)) (hi:P.info? e=some i) (hz:i.zero=some z)
  (hsize:i.size=1) (hzs:z.cells.size=1) (hby:i.bytes≤16) (hm:Mem w0 w L) (hO:∀ g∈O,∃ o,(g,o)∈L) (hn:n=xs.length) (hx:x.oneCell'=true) (hb:w.cell? ⟨nb,0,none⟩=some x) (hlen:n+1≤8000000000000)
  (hK:∀ A' c' w' L',Mem w0 w' L'→RowsP e O L' (R.set k (xs++[x],.slice A' (n+1) c'))→(∀ y∈L,y.1∈O→y∈L')→K (.slice A' (n+1) c') w'):AppV P #[t,t] ty (.slice A n c) (.slice (some ⟨nb,0,none⟩) 1 1) w K:=by
 refine AppV.blk ht hi hz hsize hzs hby hm (h.row k _ hk) hn hx hb hlen fun A' c' w' L' hm' hr' hkeep hown=>hK A' c' w' L' hm' ?_ ?_
 ·have hkl:k<R.length:=(List.getElem?_eq_some_iff.1 hk).1;have other:∀ (j:Nat) p,(R.set k (xs++[x],.slice A' (n+1) c'))[j]?=some p→(j=k∧p=(xs++[x],.slice A' (n+1) c'))∨(j≠k∧R[j]?=some p):=fun j p hp=>by
   rw [List.getElem?_set] at hp
   split at hp
   ·rename_i ejk
    exact .inl ⟨ejk.symm,by simpa [hkl] using hp.symm⟩
   ·rename_i hne
    exact .inr ⟨fun ejk=>hne ejk.symm,hp⟩
  have fresh:∀ (j:Nat) p g,j≠k→R[j]?=some p→p.2.ownBlock=some g→Value.ownBlock (.slice A' (n+1) c')≠some g:=fun j p g hj hp hg hg'=>by
   rcases hown g hg' with ho|ho
   ·exact h.ap j k p _ g hp hk hj hg ho
   ·obtain ⟨o,hin⟩:=(h.row j p hp).in_ hg;exact ho _ hin rfl
  refine ⟨fun j p hp=>?_,fun j p g hp hg=>?_,fun j j' p p' g hp hp' hne hg=>?_⟩
  ·rcases other j p hp with ⟨_,rfl⟩|⟨hj,hp⟩
   ·exact hr'
   ·exact (h.row j p hp).keep fun y hy hv=>hkeep y hy (h.ap j k p _ y.1 hp hk hj hv)
  ·rcases other j p hp with ⟨_,rfl⟩|⟨hj,hp⟩
   ·rcases hown g hg with ho|ho
    ·exact h.out k _ g hk ho
    ·intro hgO;obtain ⟨o,hin⟩:=hO g hgO;exact ho _ hin rfl
   ·exact h.out j p g hp hg
  ·rcases other j p hp with ⟨ej,rfl⟩|⟨hj,hp⟩<;>rcases other j' p' hp' with ⟨ej',rfl⟩|⟨hj',hp'⟩
   ·exact absurd (ej.trans ej'.symm) hne
   ·intro hg';exact fresh j' p' g hj' hp' hg' hg
   ·exact fresh j p g hj hp hg
   ·exact h.ap j j' p p' g hp hp' hne hg
 ·intro y hy hyO;exact hkeep y hy fun hv=>h.out k _ y.1 hk hv hyO
end V
open Go.RowKit V
set_option maxRecDepth 100000
theorem qd9 {L:List (Nat × Obj)} {i rb:Nat} {o o':Obj} (hi:L[i]?=some (rb,o)):(rb,o')∈L.set i (rb,o')∧∀ y∈L,y.1≠rb→y∈L.set i (rb,o'):=by
 have hil:i<L.length:=(List.getElem?_eq_some_iff.1 hi).1;refine ⟨List.mem_of_getElem? (List.getElem?_set_self hil),fun y hy hne=>?_⟩;obtain ⟨j,hj⟩:=List.mem_iff_getElem?.1 hy;refine List.mem_of_getElem? (i:=j) ?_;rw [List.getElem?_set_ne (fun e=>hne ?_),hj];subst e;rw [hi] at hj;cases hj;rfl
section
variable {w0 w:World} {L:List (Nat × Obj)} {rb n c off:Nat} {A:Option Addr} {t:List Value} {v:Value}
structure RdM (w0 w':World) (L:List (Nat × Obj)) (rb:Nat) (o':Obj) (L':List (Nat × Obj)):Prop where
 mem:Mem w0 w' L'
 rd:(rb,o')∈L'
 keep:∀ y∈L,y.1≠rb→y∈L'
theorem qd6 {K:World→Prop} (hm:Mem w0 w L) (hi:(rb,rdC A n c t)∈L) (k:Nat) (ho:off=1+k) (hk:k<t.length) (h1:qdf v=true) (hw:∀ w' L',RdM w0 w' L rb (rdC A n c (t.set k v)) L'→K w'):StoreV w rb off v K:=by
 obtain ⟨i,hi⟩:=List.mem_iff_getElem?.1 hi;exact qfr hm hi k ho hk h1 fun w' h=>hw w' _ ⟨h,(qd9 hi).1,(qd9 hi).2⟩
theorem qpo {K:Value→Prop} (hm:Mem w0 w L) (hi:(rb,rdC A n c t)∈L) (k:Nat) (ho:off=1+k) (hv:t[k]?=some v) (hk:K v):LoadV w rb off K:=by
 obtain ⟨i,hi⟩:=List.mem_iff_getElem?.1 hi;exact qe5 hm hi k ho hv hk
theorem qwp {x:ByteArray} {xs:List ByteArray} (hm:Mem w0 w L) (hi:(rb,rdC A (xs.length+1) c t)∈L) (hS:SlAt Go.Proofs.YtajgbepghniciaaGreatDoor.V.encS 1 w0 A (x::xs)) (hc:xs.length+1≤c) :
  Gv Tryz.prog 215 [.pointer (some ⟨rb,0,none⟩)] w fun v w'=>v=.string x∧∃ A' c' L',SlAt Go.Proofs.YtajgbepghniciaaGreatDoor.V.encS 1 w0 A' xs∧xs.length≤c'∧RdM w0 w' L rb (rdC A' xs.length c' t) L':=by
 obtain ⟨i,hi⟩:=List.mem_iff_getElem?.1 hi;refine (qd2 rb i x xs A c t w0 w L hm hi hS hc).mono ?_;rintro v w' ⟨rfl,A',c',h1,h2,h3⟩;exact ⟨rfl,A',c',_,h1,h2,⟨h3,(qd9 hi).1,(qd9 hi).2⟩⟩
theorem qpp {rest:List ByteArray} {least:Nat} (hm:Mem w0 w L) (hi:(rb,rdC A rest.length c t)∈L) (hS:SlAt Go.Proofs.YtajgbepghniciaaGreatDoor.V.encS 1 w0 A rest) (hc:rest.length≤c) (hx:∀ x∈rest,x.size≤1000000) (hn:rest.length≤1000000) :
  Gv Tryz.prog 216 [.pointer (some ⟨rb,0,none⟩),.int .i64 least] w fun v w'=>∃ pre rest' s,TailP (fun x=>qv x least 8 false) rest pre rest' s∧seeB (fun x=>qv x least 8 false) rest'=false∧
   v=.tuple #[.string s,.bool (decide (pre≠[]))]∧∃ A' c' L',SlAt Go.Proofs.YtajgbepghniciaaGreatDoor.V.encS 1 w0 A' rest'∧rest'.length≤c'∧RdM w0 w' L rb (rdC A' rest'.length c' t) L':=by
 obtain ⟨i,hi⟩:=List.mem_iff_getElem?.1 hi;refine (qw5 rb i least rest A c t w0 w L hm hi hS hc hx hn).mono ?_;rintro v w' ⟨pre,rest',s,h1,h2,rfl,A',c',h3,h4,h5⟩;exact ⟨pre,rest',s,h1,h2,rfl,A',c',_,h3,h4,⟨h5,(qd9 hi).1,(qd9 hi).2⟩⟩
end
def qcy:List ByteArray→List ByteArray
 | []=>[]
 | x::xs=>if qv x 4 4 true=true then xs else x::xs
def qb8:List ByteArray→List ByteArray
 | []=>[]
 | x::xs=>if regB x=true then xs else x::xs
open Classical in
noncomputable def qf6:List ByteArray→List ByteArray→Option (List ByteArray × List ByteArray)
 | seen,[]=>some (seen,[])
 | seen,x::xs=>if varB x=true then (if lowS x∈seen then none else qf6 (seen++[lowS x]) xs) else some (seen,x::xs)
def extQ (x:ByteArray):Bool:=qv x 2 8 false
def extS (x:ByteArray):Bool:=qv x 1 1 false && !qdr x
open Classical in
noncomputable def extN:Nat→List ByteArray→List ByteArray→Option (List ByteArray)
 | _,_,[]=>some []
 | 0,_,rest=>some rest
 | k+1,seen,x::xs=>if extS x=true then (if xs.takeWhile extQ=[]∨lowS x∈seen then none else extN k (seen++[lowS x]) (xs.dropWhile extQ)) else some (x::xs)
noncomputable def qgt (rest:List ByteArray):Option (List ByteArray):=(qf6 [] (qb8 (qcy rest))).bind fun r=>extN r.2.length r.1 r.2
theorem TailP.take {q:ByteArray→Bool} {rest pre rest':List ByteArray} {s:ByteArray} (h:TailP q rest pre rest' s) (h2:seeB q rest'=false):rest.takeWhile q=pre∧rest.dropWhile q=rest':=by
 have ha:=List.all_eq_true.1 h.all;rw [h.eq,List.takeWhile_append_of_pos ha,List.dropWhile_append_of_pos ha];cases rest' with
 | nil=>simp
 | cons y ys=>
  have:q y=false:=h2;simp [this]
theorem qud (x:ByteArray) (hs:x.size≤140737488355328) (w:World):Gv Tryz.prog 260 [.string x] w fun v w'=>v=.bool (qv x 4 4 true)∧Ext w w':=by
 have h1:=qcr x 4 4 true hs w;refine zE Tryz.func260 Tryz.ntmps260 ?_;(conv=>whnf);refine CallV.of (h1) ?_;rintro v w' ⟨rfl,he⟩;(conv=>whnf);exact ⟨rfl,he⟩
theorem que (x:ByteArray) (hs:x.size≤140737488355328) (w:World):Gv Tryz.prog 264 [.string x] w fun v w'=>v=.bool (extS x)∧Ext w w':=by
 have h1:=qcr x 1 1 false hs w;refine zE Tryz.func264 Tryz.ntmps264 ?_;(conv=>whnf);refine CallV.of (h1) ?_;rintro v w1 ⟨rfl,he⟩;cases hm:qv x 1 1 false
 ·(conv=>whnf);(iterate 4 (refine zU ?_;(conv=>whnf)));exact ⟨by rw [extS,hm];rfl,he⟩
 ·(conv=>whnf);(iterate 2 (refine zT ?_;(conv=>whnf)));refine CallV.of (qe4 x w1) ?_;rintro v w2 ⟨rfl,rfl⟩;(conv=>whnf);(iterate 2 (refine zT ?_;(conv=>whnf)));exact ⟨by rw [extS,hm];rfl,he⟩
theorem qfd (l:List ByteArray) (A:Option Addr) (c:Nat) (x:ByteArray) (w:World) (hS:SlAt Go.Proofs.YtajgbepghniciaaGreatDoor.V.encS 1 w A l) (hl:l.length≤9223372036854775807) :
  Gv Tryz.prog 263 [.slice A l.length c,.string x] w fun v w'=>(∃ b,v=.bool b∧(b=true↔x∈l))∧w'=w:=by
 cases l with
 | nil=>
  refine (qqp (by kernel_rfl) (Tryz.slices_Contains_string_empty A c x w)).mono ?_;rintro v w' ⟨rfl,rfl⟩;exact ⟨⟨false,rfl,by simp⟩,rfl⟩
 | cons y ys=>
  obtain ⟨b,off,rfl,h⟩:=hS.at_ (by simp);refine (qqp (by kernel_rfl) (Tryz.slices_Contains_string b off (y::ys).length c (y::ys) x w (Nat.le_refl _) hl (fun j hj=>?_))).mono ?_
  ·have:=h j _ (List.getElem?_eq_getElem hj) 0 (.string (y::ys)[j]) rfl;rw [List.getD_eq_getElem?_getD,List.getElem?_eq_getElem hj,Option.getD_some]
   simpa using this
  ·rintro v w' ⟨rfl,rfl⟩;exact ⟨⟨_,rfl,by rw [Go.Lib.containsS_iff,List.take_length]⟩,rfl⟩
end Go.Proofs.YtajgbepghniciaaGreatDoor
