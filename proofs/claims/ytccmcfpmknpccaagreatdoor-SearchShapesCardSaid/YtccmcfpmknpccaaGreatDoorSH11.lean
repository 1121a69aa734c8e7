/- Lemmas and contracts of functions on the way to the law's card (part 11 of 16). -/
import Derived.Test.YtccmcfpmknpccaaGreatDoorSH10
import Derived.Laws.CopyRow
import Derived.Laws.IdiomCopy
import Derived.Lib.AppendStr
import Derived.Shelf.SlSortCmp.WholeK
import Derived.Test.YtccmcfpmknpccaaGreatDoorProg
import Derived.Shelf.SlSortCmp.NoneTotal
namespace Go.Proofs.YtccmcfpmknpccaaGreatDoor
set_option maxHeartbeats 8000000
open Go.RowKit V
section
variable {α:Type} {c:α→α→Int}
def ledC (c:α→α→Int) (t:α):List α→Nat
 | []=>0
 | x::L=>if c x t<0 then ledC c t L+1 else 0
def insC (c:α→α→Int) (t:α):List α→List α
 | []=>[t]
 | x::L=>if c x t<0 then x::insC c t L else if c x t=0 then x::L else t::x::L
def qe0 (c:α→α→Int) (ts:List α):List α:=ts.foldl (fun out t=>insC c t out) []
section
variable (O:OrdC c)
include O
theorem qn2 {t:α}:∀ {L:List α},RiseC c L→RiseC c (insC c t L)∧∀ y,y∈insC c t L↔y=t∨y∈L
 | [],_=>⟨List.pairwise_singleton _ _,fun y=>by simp [insC]⟩
 | x::L,h=>by
  obtain ⟨h1,h2⟩:=List.pairwise_cons.1 h;obtain ⟨r1,r2⟩:=qn2 (t:=t) (L:=L) h2;rw [insC]
  rcases O.tri x t with g|rfl|g
  ·rw [if_pos g];refine ⟨List.pairwise_cons.2 ⟨fun y hy=>?_,r1⟩,fun y=>?_⟩
   ·rcases (r2 y).1 hy with rfl|hy
    ·exact g
    ·exact h1 y hy
   ·rw [List.mem_cons,r2,List.mem_cons]
    constructor
    ·rintro (h|h|h)
     ·exact .inr (.inl h)
     ·exact .inl h
     ·exact .inr (.inr h)
    ·rintro (h|h|h)
     ·exact .inr (.inl h)
     ·exact .inl h
     ·exact .inr (.inr h)
  ·rw [if_neg (O.irr x),if_pos (O.eq.2 rfl)];refine ⟨h,fun y=>⟨.inr,fun hy=>?_⟩⟩
   rcases hy with rfl|hy
   ·exact List.mem_cons_self ..
   ·exact hy
  ·have g1:0<c x t:=O.sym.1 g;rw [if_neg Oo,if_neg Oo];refine ⟨List.pairwise_cons.2 ⟨fun y hy=>?_,h⟩,fun y=>List.mem_cons⟩
   rcases List.mem_cons.1 hy with rfl|hy
   ·exact g
   ·exact O.trans g (h1 y hy)
theorem qn1:∀ (ts out:List α),RiseC c out→RiseC c (ts.foldl (fun out t=>insC c t out) out)∧∀ y,y∈ts.foldl (fun out t=>insC c t out) out↔y∈out∨y∈ts
 | [],out,h=>(by grind)
 | t::ts,out,h=>by
  obtain ⟨h1,h2⟩:=qn2 O (t:=t) h;obtain ⟨r1,r2⟩:=qn1 ts (insC c t out) h1;refine ⟨r1,fun y=>?_⟩;rw [List.foldl_cons,r2,h2,List.mem_cons]
  constructor
  ·rintro ((h|h)|h)
   ·exact .inr (.inl h)
   ·exact .inl h
   ·exact .inr (.inr h)
  ·rintro (h|h|h)
   ·exact .inl (.inr h)
   ·exact .inl (.inl h)
   ·exact .inr h
theorem qp8 (ts:List α):RiseC c (qe0 c ts)∧∀ y,y∈qe0 c ts↔y∈ts:=by
 obtain ⟨h1,h2⟩:=qn1 O ts [] List.Pairwise.nil
 grind [qe0]
theorem qqu {l:List α} (h:l.Pairwise fun a b=>c a b≤0) (hn:l.Nodup):RiseC c l:=by
 refine (List.pairwise_and_iff.2 ⟨h,hn⟩).imp fun {a b} ⟨h1,h2⟩=>?_
 rcases O.tri a b with g|e|g
 ·exact g
 ·simp_all
 ·have:=O.sym.1 g;omega
end
noncomputable def uniA [DecidableEq α] (acc:List α):List α→List α
 | []=>acc
 | t::ts=>if t∈acc then uniA acc ts else uniA (acc++[t]) ts
theorem qj2 [DecidableEq α]:∀ (ts acc:List α),acc.Nodup→(uniA acc ts).Nodup∧∀ y,y∈uniA acc ts↔y∈acc∨y∈ts
 | [],acc,h=>(by grind [uniA])
 | t::ts,acc,h=>by
  rw [uniA]
  split
  ·rename_i ht
   obtain ⟨r1,r2⟩:=qj2 ts acc h;refine ⟨r1,fun y=>?_⟩;rw [r2,List.mem_cons]
   constructor
   ·rintro (g|g)
    ·exact .inl g
    ·exact .inr (.inr g)
   ·rintro (g|rfl|g)
    ·exact .inl g
    ·exact .inl ht
    ·exact .inr g
  ·rename_i ht
   obtain ⟨r1,r2⟩:=qj2 ts (acc++[t]) (by
    refine List.nodup_append.2 ⟨h,List.pairwise_singleton _ _,fun a ha b hb e=>?_⟩;rw [List.mem_singleton.1 hb] at e;exact ht (e ▸ ha))
   refine ⟨r1,fun y=>?_⟩;rw [r2,List.mem_cons,List.mem_append,List.mem_singleton,or_assoc]
end
section
variable {α:Type} {c:α→α→Int} (O:OrdC c)
include O
theorem qv5 [DecidableEq α] {ts s:List α} (hp:s.Perm (uniA [] ts)) (hs:s.Pairwise fun a b=>c a b≤0):s=qe0 c ts:=by
 obtain ⟨u1,u2⟩:=qj2 ts [] List.Pairwise.nil;obtain ⟨i1,i2⟩:=qp8 O ts;refine RiseC.same O (by grind [qqu]) i1 fun y=>?_
 grind
end
theorem ordT:OrdC cmpT where
 eq:=qan
 sym {a b}:=by
  constructor
  ·intro h;have h1:=qat.1 h;have h2:¬ cmpT b a<0:=fun g=>LtT.irrefl a (h1.trans (qat.1 g))
   grind [qan]
  ·intro h
   rcases LtT.tri a b with g|g|g
   ·exact qat.2 g
   ·grind [qan]
   ·have:=qat.2 g;omega
 trans h g:=qat.2 ((qat.1 h).trans (qat.1 g))
theorem qgi {α:Type} [DecidableEq α] (t:α):∀ (ts acc:List α),uniA acc (ts++[t])=if t∈uniA acc ts then uniA acc ts else uniA acc ts++[t]
 | [],acc=>by
  rfl
 | x::ts,acc=>by
  rw [List.cons_append,uniA,uniA]
  split
  ·exact qgi t ts acc
  ·exact qgi t ts (acc++[x])
def hasP (s p:ByteArray):Bool:=decide (p.size≤s.size)&&seq (s.extract 0 p.size) p
def plOk (pl:Int):Bool:=decide (0≤pl)&&decide (pl≤3)
def plT (pl:Int) (q:Q4):TM:=q.at pl.toNat
theorem qtj {pl:Int}:plOk pl=true↔0≤pl∧pl≤3:=by grind [plOk]
theorem q9d {pl:Int}:plOk pl=false↔pl<0∨3<pl:=by
 grind [qtj]
def begQ (pl:Int) (pre:ByteArray) (q:Q4):Bool:=decide ((plT pl q).kind=1)&&hasP (plT pl q).text pre
def begL (pl:Int) (pre:ByteArray) (p:Q4) (qs:List Q4):List Nat:=(qaa p qs).filter fun i=>plOk pl&&begQ pl pre (qs.getD i zQ)
def tatL (pl:Int) (p:Q4) (qs:List Q4):List TM:=(qaa p qs).map fun i=>plT pl (qs.getD i zQ)
def tasL (pl:Int) (p:Q4) (qs:List Q4):List TM:=if plOk pl=true then qe0 cmpT (tatL pl p qs) else []
theorem qkt (p:Q4) (qs:List Q4):(qaa p qs).length≤qs.length:=by
 grind [q3r]
theorem q69 (pl:Int) (pre:ByteArray) (p:Q4) (qs:List Q4):(begL pl pre p qs).length≤qs.length:=Nat.le_trans (List.length_filter_le ..) (qkt p qs)
theorem q7a {pl:Int} (pre:ByteArray) (p:Q4) (qs:List Q4) (h:plOk pl=false):begL pl pre p qs=[]:=by
 rw [begL,h];simp
def fltI (f:Nat→Bool) (l:List Nat) (k:Nat):List Nat:=(l.take k).filter f
theorem qadf {f:Nat→Bool} {l:List Nat} {k i:Nat} (hi:l[k]?=some i) (hf:f i=true):fltI f l (k+1)=fltI f l k++[i]:=by
 grind [fltI,List.take_add_one]
theorem qyk {α:Type} {c:α→α→Int} (t:α):∀ L:List α,(insC c t L).length≤L.length+1
 | []=>Nat.le_refl _
 | x::L=>by
  have:=qyk (c:=c) t L;rw [insC]
  split
  ·simpa using this
  ·split<;>simp
theorem qyj {α:Type} {c:α→α→Int} (_:OrdC c) (ts:List α):(qe0 c ts).length≤ts.length:=by
 suffices h:∀ (n:Nat) (ts:List α),ts.length=n→(qe0 c ts).length≤n from h _ ts rfl
 intro n
 induction n with
 | zero=>intro ts h;obtain rfl:=List.eq_nil_of_length_eq_zero h;exact Nat.le_refl _
 | succ n ih=>
  intro ts h;obtain ⟨us,u,rfl⟩:∃ us u,ts=us++[u]:=⟨ts.dropLast,ts.getLast (by grind),(List.dropLast_concat_getLast _).symm⟩
  grind [qyk,qe0]
def cntB (f:Nat→Bool) (l:List Nat) (k:Nat):Nat:=((l.take k).filter f).length
theorem q2o (f:Nat→Bool) (l:List Nat):cntB f l l.length=(l.filter f).length:=by grind [cntB]
theorem q2p {f:Nat→Bool} {l:List Nat} {k i:Nat} (hi:l[k]?=some i) (hf:f i=true):cntB f l (k+1)=cntB f l k+1:=by
 grind [cntB,List.take_add_one]
theorem qxg {f:Nat→Bool} {l:List Nat} {k i:Nat} (hi:l[k]?=some i) (hf:f i=false):cntB f l (k+1)=cntB f l k:=by
 grind [cntB,List.take_add_one]
theorem qsb {f:Nat→Bool} {l:List Nat} {k i:Nat} (hi:l[k]?=some i) (hf:f i=true):(l.filter f)[cntB f l k]?=some i:=by
 grind [List.drop_eq_getElem_cons,List.take_append_drop,cntB]
theorem q7l {f:Nat→Bool} {l:List Nat} {k i:Nat} (hi:l[k]?=some i) (hf:f i=true):cntB f l k<(l.filter f).length:=by
 grind [qsb]
set_option maxRecDepth 100000
theorem q24:Tryz.prog.underlying 47=some (.struct (Tryz.prog.fieldsOf 47)):=by kernel_rfl
theorem q96:Tryz.prog.stoodInHeld 47=false:=by kernel_rfl
theorem q74:Tryz.prog.eqGuardType Tryz.prog.depth 47=false:=by kernel_rfl
def qcs (a b:Q4):Bool:=qaj a.s b.s&&(qaj a.p b.p&&(qaj a.o b.o&&qaj a.g b.g))
theorem qos {a b:Q4}:qcs a b=true↔a=b:=by
 obtain ⟨a0,a1,a2,a3⟩:=a;obtain ⟨b0,b1,b2,b3⟩:=b;simp [qcs,qu]
theorem qe5 (d:Nat) (a b:Q4) (w:World):(Op.equalIn (d+3) 47 (qq a) (qq b)).run Tryz.prog w=.ok (qcs a b) w:=by
 have a3:=Tryz.isAgg45;have z3:=Tryz.sizeOf45;simp only [qq];rw [run_equalIn_agg w (d+2) _ _ _ q24 q96];simp only [Program.fieldsOf,Tryz.underlying47];have e1:=qau d a.s b.s w;have e2:=qau d a.p b.p w;have e3:=qau d a.o b.o w;have e4:=qau d a.g b.g w;simp only [qt] at e1 e2 e3 e4;clear e1 e2 e3 e4
 go_simp
 have e:∀ x y:ByteArray,(x.toList=y.toList)=(seq x y=true):=fun x y=>by rw [← qke,beq_iff_eq]
 simp only [e]
 by_cases h1:a.s.kind=b.s.kind
 rotate_left
 ·simp [qcs,qaj,h1]
 by_cases h2:seq a.s.text b.s.text=true
 rotate_left
 ·simp [qcs,qaj,h1,h2]
 by_cases h3:seq a.s.type b.s.type=true
 rotate_left
 ·simp [qcs,qaj,h1,h2,h3]
 by_cases h4:seq a.s.lang b.s.lang=true
 rotate_left
 ·simp [qcs,qaj,h1,h2,h3,h4]
 by_cases h5:a.p.kind=b.p.kind
 rotate_left
 ·simp [qcs,qaj,h1,h2,h3,h4,h5]
 by_cases h6:seq a.p.text b.p.text=true
 rotate_left
 ·simp [qcs,qaj,h1,h2,h3,h4,h5,h6]
 by_cases h7:seq a.p.type b.p.type=true
 rotate_left
 ·simp [qcs,qaj,h1,h2,h3,h4,h5,h6,h7]
 by_cases h8:seq a.p.lang b.p.lang=true
 rotate_left
 ·simp [qcs,qaj,h1,h2,h3,h4,h5,h6,h7,h8]
 by_cases h9:a.o.kind=b.o.kind
 rotate_left
 ·simp [qcs,qaj,h1,h2,h3,h4,h5,h6,h7,h8,h9]
 by_cases h10:seq a.o.text b.o.text=true
 rotate_left
 ·simp [qcs,qaj,h1,h2,h3,h4,h5,h6,h7,h8,h9,h10]
 by_cases h11:seq a.o.type b.o.type=true
 rotate_left
 ·simp [qcs,qaj,h1,h2,h3,h4,h5,h6,h7,h8,h9,h10,h11]
 by_cases h12:seq a.o.lang b.o.lang=true
 rotate_left
 ·simp [qcs,qaj,h1,h2,h3,h4,h5,h6,h7,h8,h9,h10,h11,h12]
 by_cases h13:a.g.kind=b.g.kind
 rotate_left
 ·simp [qcs,qaj,h1,h2,h3,h4,h5,h6,h7,h8,h9,h10,h11,h12,h13]
 by_cases h14:seq a.g.text b.g.text=true
 rotate_left
 ·simp [qcs,qaj,h1,h2,h3,h4,h5,h6,h7,h8,h9,h10,h11,h12,h13,h14]
 by_cases h15:seq a.g.type b.g.type=true
 rotate_left
 ·simp [qcs,qaj,h1,h2,h3,h4,h5,h6,h7,h8,h9,h10,h11,h12,h13,h14,h15]
 by_cases h16:seq a.g.lang b.g.lang=true
 rotate_left
 ·simp [qcs,qaj,h1,h2,h3,h4,h5,h6,h7,h8,h9,h10,h11,h12,h13,h14,h15,h16]
 simp [qcs,qaj,h1,h2,h3,h4,h5,h6,h7,h8,h9,h10,h11,h12,h13,h14,h15,h16]
namespace V
end V
namespace V
theorem Fall.copy {P:Program} {ρ:Nat→Value} {o:Oper} {c:Call} {w:World} {K:Value→World→Prop} {a b:Value} (ho:o.op=.call c) (hc:c.callee=.builtin .copy) (hv:evs ρ c.args.toList=[a,b]) (v:Value) (w':World)
  (hrun:(Builtin.copy_ c.argTypes o.type #[a,b]).run P w=.ok v w') (hk:K v w'):Fall P (execOp (ev ρ) o) w K:=by
 have he:execOp (ev ρ) o=(do pure (.value (← Builtin.copy_ c.argTypes o.type (c.args.map (ev ρ))))):=by
  simp only [execOp,ho,resolve,hc];rfl
 have hv':c.args.map (ev ρ)=#[a,b]:=by
  rw [qcz] at hv;rw [← Array.toList_inj];simpa using hv
 rw [he,hv'];exact ⟨.inl ⟨v,w',by rw [Sem.run_bind,hrun];rfl,hk⟩⟩
end V
theorem qll {x:Int} {d n:Nat} (h:x=(n:Int)):bnd (some (ii x)) d n:=by
 subst h;rfl
def bufO (v:Value) (m:Nat) (f:Bool):Obj:=.cells #[v,ii m,.bool f] 339
structure BufAt (w:World) (b m:Nat) (l:LB) (F:List Nat):Prop where
 h:∃ A c xs f,w.heap[b]?=some (bufO (.slice A xs.length c) m f)∧w.ownsRow 0 5 1 (.slice A xs.length c) xs.length (byV xs)∧b∉rowF (.slice A xs.length c)∧xs.length≤m∧f=decide (m<l.length)∧(f=false→xs=l)∧F=b::rowF (.slice A xs.length c)
theorem BufAt.lt {w:World} {b m:Nat} {l:LB} {F:List Nat} (h:BufAt w b m l F):∀ k∈F,k<w.heap.size:=by
 obtain ⟨A,c,xs,f,hb,ho,_,_,_,_,rfl⟩:=h.h;intro k hk
 rcases List.mem_cons.1 hk with rfl|hk
 ·exact qb2 hb
 ·exact (qhu ho k hk).2
theorem BufAt.keep {w w':World} {b m:Nat} {l:LB} {F:List Nat} (h:BufAt w b m l F) (hk:∀ k∈F,w'.heap[k]?=w.heap[k]?):BufAt w' b m l F:=by
 obtain ⟨A,c,xs,f,hb,ho,h1,h2,h3,h4,rfl⟩:=h.h;exact ⟨A,c,xs,f,by rw [hk b mh];exact hb,qao ho fun k h=>hk k (zmc h),h1,h2,h3,h4,rfl⟩
theorem BufAt.call {w w':World} {b m:Nat} {l:LB} {F:List Nat} (h:BufAt w b m l F) (he:Ext w w'):BufAt w' b m l F:=
 h.keep fun k hk=>he.block k (h.lt k hk)
structure BufC (w w':World) (b m:Nat) (l:LB) (F:List Nat):Prop where
 chg:Chn F w w'
 h:∃ F',BufAt w' b m l F'∧∀ k∈F',(k∈F∨w.heap.size≤k)∧k<w'.heap.size
theorem BufC.back {w0 w w':World} {b m:Nat} {l:LB} {F:List Nat} (h:BufC w w' b m l F) (he:Ext w0 w):BufC w0 w' b m l F:=by
 obtain ⟨F',h1,h2⟩:=h.h;exact ⟨(Chn.of F he).trans h.chg,F',h1,fun k hk=>⟨(h2 k hk).1.imp id fun g=>Nat.le_trans he.size g,(h2 k hk).2⟩⟩
theorem qeh (m:Int) (w:World) :
  Gv Tryz.prog 114 [ii m] w fun r w'=>∃ b,r=pp b∧Ext w w'∧w.heap.size≤b∧BufAt w' b (max m 0).toNat [] [b]:=by
 refine ze Tryz.func114 Tryz.ntmps114 ?_;refine V.Fall.max2 rfl rfl rfl fun k hk=>?_;have hk2:k=((max m 0).toNat:Nat):=by omega
 subst hk2;(conv=>whnf);refine ⟨fun b w' hb hw=>?_⟩;subst hb hw;(conv=>whnf);refine ⟨w.heap.size,rfl,(Ext.refl w).alloc _,Nat.le_refl _,⟨none,0,[],false,heap_alloc_new w _,World.ownsRow_nil _ _ _ _,by simp [rowF,Value.ownBlock],Nat.zero_le _,?_,fun _=>rfl,by simp [rowF,Value.ownBlock]⟩⟩;rw [eq_comm,decide_eq_false_iff_not];simp
theorem qcr (b m:Nat) (l x:LB) (F:List Nat) (B:oA) (n d:Nat) (w:World) (h:BufAt w b m l F) (hS:SlAt encB 1 w B x) (hn:x.length=n) (hm:m≤9223372036854775807) (hl:l.length+x.length≤8000000000000) :
  Gv Tryz.prog 118 [pp b,.slice B n d] w fun r w'=>r=.tuple #[]∧BufC w w' b m (l++x) F:=by
 subst hn;obtain ⟨A,c,xs,f,hb,ho,hnb,hxm,hf,hxl,rfl⟩:=h.h;have he:Ext w w.drew:=(Ext.refl w).drew;have hb1:=he.get hb;have ho1:w.drew.ownsRow 0 5 1 (.slice A xs.length c) xs.length (byV xs):=qao ho fun k hk=>he.block k (qhu ho k hk).2
 have hS1:=hS.ext he;have hlt:=qb2 hb;have hFl:∀ k∈b::rowF (.slice A xs.length c),(k∈b::rowF (.slice A xs.length c)∨w.heap.size≤k)∧k<w.heap.size:=fun k hk=>⟨.inl hk,h.lt k hk⟩
 have hll:(l++x).length=l.length+x.length:=zla;cases f with
 | true=>
  have hf:m<l.length:=of_decide_eq_true hf.symm;refine ze Tryz.func118 Tryz.ntmps118 ?_;refine zy ?_;refine zv ?_;refine LoadV.own hb rfl (zu ?_);refine LoadV.own hb rfl (zw ?_);refine zt ?_;refine zC (fun _=>zw ?_) (fun _=>zw ?_)
  ·refine StoreV.own hb1 (show 2<3 by decide) rfl ?_;intro w2 hw;obtain ⟨hc2,hb2⟩:=Chn.set hb1 hw;refine LoadV.own hb2 rfl (zu ?_);have hs:=(he.size:w.heap.size≤w.drew.heap.size)
   have hk:∀ k∈rowF (.slice A xs.length c),w2.heap[k]?=w.drew.heap[k]?:=fun k hk=>hc2.block k (qhu ho1 k hk).2 fun g=>hnb (by rw [← List.mem_singleton.1 g];exact hk)
   refine ⟨rfl,(Chn.of _ he).trans (hc2.mono fun k hk=>by rw [List.mem_singleton.1 hk];exact List.mem_cons_self ..),_,⟨A,c,xs,true,hb2,qao ho1 hk,hnb,hxm,?_,(fun g=>(by cases g)),rfl⟩,fun k hk=>⟨.inl hk,Nat.lt_of_lt_of_le (hFl k hk).2 (Nat.le_trans hs hc2.size)⟩⟩;rw [eq_comm,decide_eq_true_iff];omega
  ·refine LoadV.own hb1 rfl (zu ?_);refine ⟨rfl,Chn.of _ he,_,⟨A,c,xs,true,hb1,ho1,hnb,hxm,?_,(fun g=>(by cases g)),rfl⟩,fun k hk=>⟨.inl hk,Nat.lt_of_lt_of_le (hFl k hk).2 he.size⟩⟩;rw [eq_comm,decide_eq_true_iff];omega
 | false=>
  have hf:¬ m<l.length:=of_decide_eq_false hf.symm;obtain rfl:=hxl rfl;refine ze Tryz.func118 Tryz.ntmps118 ?_;refine zy ?_;refine zv ?_;refine LoadV.own hb rfl (zu ?_);refine LoadV.own hb rfl (zw ?_);refine zt ?_;refine zC (fun _=>zw ?_) (fun _=>zw ?_)
  ·refine StoreV.own hb1 (show 2<3 by decide) rfl ?_;intro w2 hw;obtain ⟨hc2,hb2⟩:=Chn.set hb1 hw;refine LoadV.own hb2 rfl (zu ?_);have hs:=(he.size:w.heap.size≤w.drew.heap.size)
   have hk:∀ k∈rowF (.slice A xs.length c),w2.heap[k]?=w.drew.heap[k]?:=fun k hk=>hc2.block k (qhu ho1 k hk).2 fun g=>hnb (by rw [← List.mem_singleton.1 g];exact hk)
   refine ⟨rfl,(Chn.of _ he).trans (hc2.mono fun k hk=>by rw [List.mem_singleton.1 hk];exact List.mem_cons_self ..),_,⟨A,c,xs,true,hb2,qao ho1 hk,hnb,hxm,?_,(fun g=>(by cases g)),rfl⟩,fun k hk=>⟨.inl hk,Nat.lt_of_lt_of_le (hFl k hk).2 (Nat.le_trans hs hc2.size)⟩⟩;rw [eq_comm,decide_eq_true_iff];omega
  ·refine LoadV.own hb1 rfl (zu ?_);refine LoadV.own hb1 rfl ?_;refine AppV.bys qum bytI bytZ Jk rfl (by decide +kernel) ho1 hS1 hl ?_;intro A' c' w2 ho2 hc2 hn2;have hb2:=hc2.block b (Nat.lt_of_lt_of_le hlt he.size) hnb;rw [hb1] at hb2;refine StoreV.own hb2 (show 0<3 by decide) rfl ?_;intro w3 hw;obtain ⟨hc3,hb3⟩:=Chn.set hb2 hw;have hnb':b∉rowF (.slice A' (xs.length+x.length) c'):=fun g=>by
    rcases (hn2 b g).1 with g|g
    ·exact hnb g
    ·have:=he.size;omega
   have ho3:=qao ho2 (w':=w3) fun k hk=>hc3.block k (hn2 k hk).2 fun g=>hnb' (by rw [← List.mem_singleton.1 g];exact hk)
   refine ⟨rfl,((Chn.of _ he).trans (hc2.mono fun k hk=>zmc hk)).trans (hc3.mono fun k hk=>by rw [List.mem_singleton.1 hk];exact List.mem_cons_self ..),b::rowF (.slice A' (xs.length+x.length) c'),⟨A',c',xs++x,false,?_,?_,?_,by rw [hll];omega,?_,fun _=>rfl,?_⟩,fun k hk=>?_⟩
   ·rw [hll];exact hb3
   ·rw [hll] at ho3 ⊢;exact ho3
   ·rw [hll];exact hnb'
   ·rw [eq_comm,decide_eq_false_iff_not];omega
   ·rw [hll]
   ·have hs3:=hc3.size;have hs2:=hc2.size;have hs1:=he.size
    rcases List.mem_cons.1 hk with rfl|hk
    ·exact ⟨.inl mh,by omega⟩
    ·obtain ⟨g1,g2⟩:=hn2 k hk;exact ⟨g1.imp (zmc) fun g=>by omega,by omega⟩
theorem qacx {w:World} {nb:Nat} {x:Nat} {t:TypeId} (hx:x<256) (h:w.heap[nb]?=some (.cells #[.int .u8 x] t)):SlAt encB 1 w (some ⟨nb,0,none⟩) [UInt8.ofNat x]:=by
 refine ⟨fun _=>⟨nb,0,rfl,fun j y hy k v hv=>?_⟩⟩;cases j with
 | succ j=>cases hy
 | zero=>
  cases hy;cases k with
  | succ k=>simp [encB] at hv
  | zero=>
   simp only [encB,List.getElem?_cons_zero,Option.some.injEq] at hv;rw [qa h,← hv,qav hx];rfl
theorem q2h (b m:Nat) (l:LB) (x:Nat) (F:List Nat) (w:World) (h:BufAt w b m l F) (hx:x<256) (hm:m≤9223372036854775807) (hl:l.length+1≤8000000000000) :
  Gv Tryz.prog 193 [pp b,.int .u8 x] w fun r w'=>r=.tuple #[]∧BufC w w' b m (l++[UInt8.ofNat x]) F:=by
 refine ze Tryz.func193 Tryz.ntmps193 ?_;refine ⟨fun nb w1 hnb hw=>?_⟩;have he:Ext w w1:=by rw [hw];exact (Ext.refl w).alloc _
 have hc:w1.heap[nb]?=some (.cells #[.int .u8 x] 5):=by rw [hw,hnb];exact heap_alloc_new w _
 (conv=>whnf);refine zcv (qcr b m l [UInt8.ofNat x] F (some ⟨nb,0,none⟩) 1 1 w1 (h.call he) (qacx hx hc) rfl hm hl) ?_;rintro r w2 ⟨rfl,hB⟩;(conv=>whnf);exact ⟨rfl,hB.back he⟩
theorem qadl:∀ x,x<256→x |||128=x%128+128:=by decide +kernel
theorem qul (n:Nat):qc2 .or .u8 ((n%256:Nat):Int) 128=((n%128+128:Nat):Int):=by
 have e:=qadl (n%256) (Nat.mod_lt _ Od);have e2:n%256%128=n%128:=by omega
 rw [show (128:Int)=((128:Nat):Int) from rfl,qpp (qdz (Nat.mod_lt _ Od)) (qdz Od) (qdz (by rw [e];omega)),e,e2]
theorem qacq {w0 w:World} {A:oA} {n c:Nat} {e:TypeId} {zs:LB} {L:List (Nat × Obj)} (h:Rw w0 w (.slice A n c) e 1 n (byV zs) L) (hn:zs.length=n):SlAt encB 1 w A zs:=by
 obtain ⟨A',c',e1,_,h2⟩:=Rw.byts h hn;cases e1;exact h2
theorem qbs (b m:Nat) (l:LB) (n:Nat) (F:List Nat) (w:World) (h:BufAt w b m l F) (hn:n<18446744073709551616) (hm:m≤9223372036854775807) (hl:l.length+16≤8000000000000) :
  Gv Tryz.prog 187 [pp b,.int .u64 n] w fun r w'=>r=.tuple #[]∧BufC w w' b m (l++varL n) F:=by
 have hv:=qbe 9 n (Nat.lt_of_lt_of_le hn Od);refine ze Tryz.func187 Tryz.ntmps187 ?_;refine qm (fun x:oA × Nat × LB × Nat=>[(0,pp b),(1,.int .u64 x.2.2.2),(4,.slice x.1 x.2.2.1.length x.2.1)])
  (fun x w2=>x.2.2.2<18446744073709551616∧varL n=x.2.2.1++varL x.2.2.2∧Rw w w2 (.slice x.1 x.2.2.1.length x.2.1) 5 1 x.2.2.1.length (byV x.2.2.1) []) (fun x=>x.2.2.2) (none,0,[],n) ⟨rfl,rfl,rfl,trivial⟩ ⟨hn,rfl,Rw.nil (Mem.nil w)⟩ ?_
 rintro ⟨A,c,ys,k⟩ w2 ρ' ⟨h1,h2,hR⟩;dsimp only at h1 h2 hR ⊢;have hp:=q5g k;have hyl:ys.length+(varL k).length≤10:=by have:=congrArg List.length h2;rw [zla] at this;omega
 (conv=>whnf);refine zC (fun _=>zu ?_) (fun _=>zu ?_)
 ·refine V.Wit.low8 ?_;refine Wit.eq (qul k) ?_;refine NewV.rw hR ?_;intro nb w4 hR4;refine AppV.one qum bytI bytZ Jk rfl (by decide +kernel) hR4 rfl Oo ?_;intro B' d' w5 hR5;(conv=>whnf);refine V.Wit.shrN 7 rfl Od ?_;have hk:128≤k:=by omega
  have e:(ys++[UInt8.ofNat (k%128+128)]).length=ys.length+1:=by simp
  refine ⟨(B',d',ys++[UInt8.ofNat (k%128+128)],k/128),⟨rfl,rfl,by show Value.slice _ _ _=_;rw [e],trivial⟩,⟨by simp only;omega,?_,?_⟩,by simp only;omega⟩
  ·rw [h2,qeq hk,List.append_assoc];rfl
  ·show Rw w w5 (.slice B' (ys++[UInt8.ofNat (k%128+128)]).length d') _ 1 _ _ _;rw [e,byV,List.map_append,List.map_cons,List.map_nil,qav Oo];exact hR5
 ·have hk:k<128:=by omega
  refine NewV.rw hR ?_;intro nb w4 hR4;refine AppV.one qum bytI bytZ Jk rfl (by decide +kernel) hR4 rfl Oo ?_;intro B' d' w5 hR5;have e:(ys++[UInt8.ofNat k]).length=ys.length+1:=by simp
  have hR6:Rw w w5 (.slice B' (ys.length+1) d') 5 1 (ys.length+1) (byV (ys++[UInt8.ofNat k])) []:=by
   rw [byV,List.map_append,List.map_cons,List.map_nil,qav Oo];exact hR5
  have e2:varL n=ys++[UInt8.ofNat k]:=by rw [h2,qer hk]
  (conv=>whnf);refine zcv (qcr b m l (varL n) F B' (ys.length+1) d' w5 (h.call hR6.mem.ext) (by rw [e2];exact qacq hR6 e) (by rw [e2,e]) hm Oo) ?_;rintro r w6 ⟨rfl,hB⟩;(conv=>whnf);exact ⟨rfl,hB.back hR6.mem.ext⟩
theorem qkg (b m:Nat) (l:LB) (n:Nat) (F:List Nat) (w:World) (h:BufAt w b m l F) (_:n<18446744073709551616) (hm:m≤9223372036854775807) (hl:l.length+16≤8000000000000) :
  Gv Tryz.prog 116 [pp b,.int .u64 n,ii 4] w fun r w'=>r=.tuple #[]∧BufC w w' b m (l++fixL n 4) F:=by
 refine ze Tryz.func116 Tryz.ntmps116 ?_;refine zcv (qkw w) ?_;rintro r w1 ⟨rfl,rfl⟩;refine qm (fun x:Nat × oA × Nat=>[(0,pp b),(1,.int .u64 n),(6,.slice x.2.1 x.1 x.2.2),(9,ii 4),(10,ii x.1)])
  (fun x w2=>x.1≤4∧Rw w1 w2 (.slice x.2.1 x.1 x.2.2) 5 1 x.1 (byV (fixL n x.1)) []) (fun x=>4-x.1) (0,none,0) ⟨rfl,rfl,rfl,rfl,rfl,trivial⟩ ⟨by simp,Rw.nil (Mem.nil w1)⟩ ?_
 rintro ⟨i,A,c⟩ w2 ρ' ⟨h1,hR⟩;dsimp only at h1 hR ⊢;(conv=>whnf);refine zC (fun _=>zu ?_) (fun _=>zu ?_)
 ·refine V.Wit.shrN (8*i) Oo (by show 8*i<64;omega) ?_;refine V.Wit.low8 ?_;refine NewV.rw hR ?_;intro nb w4 hR4;refine AppV.one qum bytI bytZ Jk rfl (by decide +kernel) hR4 rfl Oo ?_;intro B' d' w5 hR5;refine zu ?_;refine ⟨(i+1,B',d'),⟨rfl,rfl,rfl,rfl,rfl,trivial⟩,⟨by simp only;omega,?_⟩,by simp only;omega⟩;simp only [fixL,byV,List.map_append,List.map_cons,List.map_nil];have e:(UInt8.ofNat (n/2 ^ (8*i)%256)).toNat=n/2 ^ (8*i)%256:=by simp
  rw [e];exact hR5
 ·obtain rfl:i=4:=by omega
  refine zcv (qcr b m l (fixL n 4) F A 4 c w2 (h.call hR.mem.ext) (qacq hR (qh n 4)) (qh n 4) hm (by rw [qh];omega)) ?_;rintro r w6 ⟨rfl,hB⟩;(conv=>whnf);exact ⟨rfl,hB.back hR.mem.ext⟩
theorem q2e (b m:Nat) (l:LB) (F:List Nat) (w:World) (h:BufAt w b m l F) :
  Gv Tryz.prog 253 [pp b] w fun r w'=>(∃ k:Nat,r=ii k∧k≤m∧(l.length≤m→k=l.length))∧w'=w:=by
 obtain ⟨A,c,xs,f,hb,ho,hnb,hxm,hf,hxl,rfl⟩:=h.h;refine ze Tryz.func253 Tryz.ntmps253 ?_;refine LoadV.own hb rfl (zw ?_);refine ⟨⟨xs.length,rfl,hxm,fun g=>?_⟩,rfl⟩;rw [hxl (by rw [hf];exact decide_eq_false Oo)]
theorem qui (l:LB) (A:oA) (n c:Nat) (w:World) (hS:SlAt encB 1 w A l) (hn:l.length=n) (hl:l.length≤8000000000000) :
  Gv Tryz.prog 197 [.slice A n c] w fun r w'=>∃ A' c',r=.slice A' l.length c'∧Ext w w'∧w'.ownsRow w.heap.size 5 1 (.slice A' l.length c') l.length (byV l):=by
 subst hn;cases A with
 | none=>
  have h0:l=[]:=by
   cases l with
   | nil=>rfl
   | cons x r=>obtain ⟨b,off,h0,_⟩:=hS.at_ Js;cases h0
  subst h0;refine ze Tryz.func197 Tryz.ntmps197 ?_;refine zv ?_;exact ⟨none,0,rfl,Ext.refl w,World.ownsRow_nil _ _ _ _⟩
 | some a=>
  refine ze Tryz.func197 Tryz.ntmps197 ?_;refine zv ?_;refine ⟨fun nb w1 hnb hw=>?_⟩;have he:Ext w w1:=by rw [hw];exact (Ext.refl w).alloc _
  have hc:w1.heap[nb]?=some (.cells #[] 5):=by rw [hw,hnb];exact heap_alloc_new w _
  have ho:w1.ownsRow w.heap.size 5 1 (.slice (some ⟨nb,0,none⟩) 0 0) 0 []:=⟨rfl,.inr ⟨nb,0,#[],rfl,by omega,hc,Nat.le_refl _,Nat.zero_le _,rfl,rfl⟩⟩
  refine AppV.own (news:=byV l) qum bytI bytZ Jk rfl Od ho he.size (by rw [qas];exact (Nat.mul_one _).symm) (qr6 (hS.ext he)) (fun u hu=>?_) (Nat.le_trans (Nat.mul_le_mul (by rw [Nat.zero_add];exact hl) (show _≤16 by decide +kernel)) Od) Oo ?_
  ·simp only [byV,List.mem_map] at hu;obtain ⟨v,_,rfl⟩:=hu;rfl
  ·intro v' w2 ho2 hg _;have ho2:w2.ownsRow w.heap.size 5 1 v' l.length (byV l):=by rw [Nat.zero_add] at ho2;exact ho2
   obtain ⟨A',c',rfl⟩:=qbp ho2;(conv=>whnf);refine ⟨A',c',rfl,(Chn.grown hg).ext he fun k hk=>?_,ho2⟩;rw [List.mem_singleton.1 hk,hnb];exact Nat.le_refl _
theorem qww (A:oA) (n c:Nat) (hc:n≤c) (hA:A=none∨∃ g o,A=some ⟨g,o,none⟩) (w:World):Gv Tryz.prog 196 [.slice A n c] w fun v w'=>v=.slice A n n∧w'=w:=by
 refine ze Tryz.func196 Tryz.ntmps196 ?_;refine ⟨0,n,n,rfl,rfl,rfl,Nat.zero_le _,Nat.le_refl _,hc,fun _=>rfl,fun A' e=>?_⟩;have e2:A'=A:=by
  rw [e]
  split
  ·rfl
  ·rcases hA with rfl|⟨g,o,rfl⟩
   ·rfl
   ·simp [Addr.add]
 subst e2;(conv=>whnf);exact ⟨rfl,rfl⟩
theorem qcj (b m:Nat) (l:LB) (F:List Nat) (w:World) (h:BufAt w b m l F) (hl:l.length≤8000000000000) :
  Gv Tryz.prog 117 [pp b] w fun r w'=>(m<l.length∧r=.tuple #[.slice none 0 0,ii 1]∧w'=w)∨(l.length≤m∧∃ v,r=.tuple #[v,ii 0]∧NewS 5 w w' v l):=by
 obtain ⟨A,c,xs,f,hb,ho,hnb,hxm,hf,hxl,rfl⟩:=h.h;cases f with
 | true=>
  refine ze Tryz.func117 Tryz.ntmps117 ?_;refine LoadV.own hb rfl (zu ?_);exact .inl ⟨of_decide_eq_true hf.symm,rfl,rfl⟩
 | false=>
  have hf:¬ m<l.length:=of_decide_eq_false hf.symm;obtain rfl:=hxl rfl;have hS:SlAt encB 1 w A xs:=by
   obtain ⟨A',c',e1,_,h2⟩:=qte ho;cases e1;exact h2
  refine ze Tryz.func117 Tryz.ntmps117 ?_;refine LoadV.own hb rfl (zu ?_);refine LoadV.own hb rfl (zw ?_);refine zcv (qui xs A _ c w hS rfl hl) ?_;rintro r w1 ⟨A',c',rfl,he,ho1⟩;have hc:xs.length≤c'∧(A'=none∨∃ g o,A'=some ⟨g,o,none⟩):=by
   rcases ho1.2 with ⟨e1,e2⟩|⟨g,cap,cur,e1,_,_,h3,_⟩
   ·injection e1 with a1 a2 a3;exact ⟨by omega,.inl a1⟩
   ·injection e1 with a1 a2 a3;exact ⟨by omega,.inr ⟨g,0,a1⟩⟩
  (conv=>whnf);refine zcv (qww A' xs.length c' hc.1 hc.2 w1) ?_;rintro r w2 ⟨rfl,rfl⟩;(conv=>whnf);exact .inr ⟨by omega,_,rfl,NewS.of he ho1 _ znr hc.1⟩
open Go.RowKit
namespace V
theorem qcg {w w':World} {base size n:Nat} {e:TypeId} {v:Value} {xs:List Value} (h:w.ownsRow base e size v n xs) (he:Ext w w'):w'.ownsRow base e size v n xs:=
 qao h fun k hk=>he.block k (qhu h k hk).2
end V
namespace V
structure SepC (w0 w w':World) (Fs:List (List Nat)) (i:Nat) (F':List Nat):Prop where
 sep:Sep w0 w' (Fs.set i F')
 size:w.heap.size≤w'.heap.size
 keep:∀ (j:Nat) (G:List Nat),Fs[j]?=some G→j≠i→∀ k∈G,w'.heap[k]?=w.heap[k]?
theorem Sep.row {w0 w w':World} {Fs:List (List Nat)} (h:Sep w0 w Fs) {i:Nat} {F F':List Nat} (hi:Fs[i]?=some F) (hc:Chn F w w') (hn:∀ k∈F',(k∈F∨w.heap.size≤k)∧k<w'.heap.size):SepC w0 w w' Fs i F':=
 ⟨h.chg hi hc hn,hc.size,fun j G hj hji=>h.keep hi hc hj Oo⟩
theorem Sep.buf {w0 w w':World} {Fs:List (List Nat)} (h:Sep w0 w Fs) {i b m:Nat} {F:List Nat} {l:LB} (hi:Fs[i]?=some F) (hB:BufC w w' b m l F):∃ F',SepC w0 w w' Fs i F'∧BufAt w' b m l F':=by
 obtain ⟨F',h1,h2⟩:=hB.h;exact ⟨F',h.row hi hB.chg h2,h1⟩
theorem AppV.cell {P:Program} {e nb:Nat} {w:World} {v x:Value} {n:Nat} {xs:List Value} {t ty e2:TypeId} {fr:Nat × Nat} {i:TypeInfo} {z:Value} {K:Value→World→Prop} (ht:P.underlying t=some (.slice e)) (hi:P.info? e=some i) (hz:i.zero=some z)
  (hsize:i.size=1) (hzs:z.cells.size=1) (hby:i.bytes≤16) (h:w.ownsRow 0 e 1 v n xs) (hb:w.heap[nb]?=some (.cells #[x] e2 fr)) (hx:x.oneCell'=true) (hn:n+1≤8000000000000)
  (hk:∀ A' c' w',w'.ownsRow 0 e 1 (.slice A' (n+1) c') (n+1) (xs++[x])→Chn (rowF v) w w'→(∀ k∈rowF (.slice A' (n+1) c'),(k∈rowF v∨w.heap.size≤k)∧k<w'.heap.size)→K (.slice A' (n+1) c') w'):AppV P #[t,t] ty v (.slice (some ⟨nb,0,none⟩) 1 1) w K:=by
 refine AppV.row (news:=[x]) ht hi hz hsize hzs Od h rfl (fun _=>⟨nb,0,rfl,fun k v hv=>?_⟩) (by grind) (Nat.le_trans (Nat.mul_le_mul hn hby) Od) Oo hk;rw [qa hb,Nat.zero_add]
 simpa using hv
theorem NewBytesV.sl {s:ByteArray} {e:TypeId} {w:World} {K:Value→World→Prop}
  (hk:∀ b cap w',s.size≤cap→Ext w w'→SlAt encB 1 w' (some ⟨b,0,none⟩) s.data.toList→K (.slice (some ⟨b,0,none⟩) s.size cap) w'):NewBytesV s e w K:=by
 refine ⟨fun cap cs b w' hc hcs hb hw=>hk b cap w' hc ?_ ⟨fun hn=>⟨b,0,rfl,fun j x hx k v hv=>?_⟩⟩⟩
 ·rw [hw];exact ((Ext.refl w).drew).alloc _
 ·cases k with
  | succ k=>simp [encB] at hv
  | zero=>
   simp only [encB,List.getElem?_cons_zero,Option.some.injEq] at hv;subst hv;have hg:w'.heap[b]?=some (.cells cs e (cs.size,cs.size+1)):=by rw [hw,hb];exact heap_alloc_new w.drew _
   rw [qa hg,hcs]
   grind [byteCells]
structure BufS (w0 w:World) (b m:Nat) (l:LB):Prop where
 h:∃ F,Sep w0 w [F]∧BufAt w b m l F
theorem BufS.ext {w0 w:World} {b m:Nat} {l:LB} (h:BufS w0 w b m l):Ext w0 w:=h.h.elim fun _ h=>h.1.ext
theorem BufS.new {w0 w w':World} {b m:Nat} (h0:Ext w0 w) (he:Ext w w') (hb:w.heap.size≤b) (h:BufAt w' b m [] [b]):BufS w0 w' b m []:=
 ⟨[b],(Sep.of h0).add he fun k hk=>by rw [List.mem_singleton.1 hk];exact ⟨hb,h.lt b Js⟩,h⟩
theorem BufS.step {w0 w:World} {b m:Nat} {l:LB} (h:BufS w0 w b m l) {P:Program} {f:FuncId} {args:List Value} {l':LB} (hc:∀ F,BufAt w b m l F→Gv P f args w fun r w'=>r=.tuple #[]∧BufC w w' b m l' F) :
  Gv P f args w fun r w'=>r=.tuple #[]∧BufS w0 w' b m l':=by
 obtain ⟨F,h1,h2⟩:=h.h;refine (hc F h2).mono ?_;rintro r w' ⟨e,hB⟩;obtain ⟨F',h3,h4⟩:=h1.buf (i:=0) rfl hB;exact ⟨e,F',h3.sep,h4⟩
end V
theorem qw5 {f:Nat→Nat} {b r:Nat} (hr:r≤8) (h:∀ s,r≤s→s<8→f (8*b+s)%2=0):byt f b<2 ^ r:=by
 have k0:r≤0→f (8*b)%2=0:=fun g=>h 0 g Od
 grind [byt]
theorem qr8 {f g:Nat→Nat} {b r:Nat} (hr:r<8) (h:∀ s,s<8→s≠r→f (8*b+s)%2=g (8*b+s)%2) (h0:f (8*b+r)%2=0):byt g b=byt f b+g (8*b+r)%2*2 ^ r:=by
 have k0:0≠r→f (8*b)%2=g (8*b)%2:=fun e=>h 0 Od e
 have k1:1≠r→f (8*b+1)%2=g (8*b+1)%2:=fun e=>h 1 Od e
 have k2:2≠r→f (8*b+2)%2=g (8*b+2)%2:=fun e=>h 2 Od e
 have k3:3≠r→f (8*b+3)%2=g (8*b+3)%2:=fun e=>h 3 Od e
 have k4:4≠r→f (8*b+4)%2=g (8*b+4)%2:=fun e=>h 4 Od e
 have k5:5≠r→f (8*b+5)%2=g (8*b+5)%2:=fun e=>h 5 Od e
 have k6:6≠r→f (8*b+6)%2=g (8*b+6)%2:=fun e=>h 6 Od e
 have k7:7≠r→f (8*b+7)%2=g (8*b+7)%2:=fun e=>h 7 Od e
 grind [byt]
theorem qpq {f g:Nat→Nat} {b:Nat} (h:∀ s,s<8→f (8*b+s)%2=g (8*b+s)%2):byt f b=byt g b:=by
 have k0:f (8*b)%2=g (8*b)%2:=h 0 Od
 grind [byt]
theorem qiu {f g:Nat→Nat} {m:Nat} (h:∀ t,t<8*m→f t%2=g t%2):qb0 f m=qb0 g m:=by
 refine List.map_congr_left fun b hb=>?_
 grind [qpq]
theorem qh7 {f:Nat→Nat} {m b:Nat} (h:b<m):(byV (qb0 f m))[b]?=some (.int .u8 (byt f b)):=by
 grind [byV,qb0,qav,qr7]
theorem qnf {f g:Nat→Nat} {m e:Nat} (_:e<8*m) (h:∀ t,t<8*m→t≠e→f t%2=g t%2):(byV (qb0 f m)).set (e/8) (.int .u8 (byt g (e/8)))=byV (qb0 g m):=by
 have hl:∀ f,(byV (qb0 f m)).length=m:=fun f=>by rw [qas,qc8]
 apply List.ext_getElem?
 grind [qh7,qpq]
def upF (F:Nat→Nat) (e t:Nat):Nat:=if t<e then F t else 0
theorem qaar (F:Nat→Nat) (e:Nat):byt (upF F e) (e/8)<2 ^ (e%8):=
 qw5 Oo fun s h1 h2=>by grind [upF]
theorem q5a (F:Nat→Nat) (e:Nat):byt (upF F (e+1)) (e/8)=byt (upF F e) (e/8)+F e%2*2 ^ (e%8):=by
 grind [qr8,upF]
theorem qaas {F:Nat→Nat} {m e:Nat} (he:e<8*m):(byV (qb0 (upF F e) m)).set (e/8) (.int .u8 (byt (upF F e) (e/8)+F e%2*2 ^ (e%8):Nat))=byV (qb0 (upF F (e+1)) m):=by
 rw [← q5a]
 grind [qnf,upF]
theorem q5b (F:Nat→Nat) (m:Nat):byV (qb0 (upF F 0) m)=qcv [Value.int .u8 0] m:=by
 grind [qwo,List.eq_replicate_iff,qas,qc8,List.mem_iff_getElem?,qh7,byt,upF]
theorem q6i {f:Nat→Nat} (e x:Nat):qc2 .or .u8 ((byt (upF f e) (e/8):Nat):Int) ((x%2*2 ^ (e%8):Nat):Int)=((byt (upF f e) (e/8)+x%2*2 ^ (e%8):Nat):Int):=by
 have h1:=qaar f e;have h2:2 ^ (e%8)≤2 ^ 7:=Nat.pow_le_pow_right Od Oo;have h3:x%2*2 ^ (e%8)≤1*2 ^ (e%8):=Nat.mul_le_mul_right _ Oo;refine qbq (k:=.u8) (e%8) (qdz ?_) h1;omega
theorem q31 (l:List Nat) (w:Nat):qb0 (upF (fun t=>l.getD (t/w) 0/2 ^ (t%w)) (l.length*w)) ((l.length*w+7)/8)=qc4 l w:=by
 refine qiu fun t ht=>?_;unfold upF
 by_cases c:t<l.length*w
 ·rw [if_pos c]
 ·rw [if_neg c];have hw:0<w:=by
   grind
  simp_all [Nat.le_div_iff_mul_le]
theorem qvc {l:List Nat} {w i k m:Nat} (hk:k≤w) (h:l.getD i 0/2 ^ k=0):qb0 (upF (fun t=>l.getD (t/w) 0/2 ^ (t%w)) (i*w+k)) m=qb0 (upF (fun t=>l.getD (t/w) 0/2 ^ (t%w)) ((i+1)*w)) m:=by
 refine qiu fun t _=>?_;unfold upF;have e:(i+1)*w=i*w+w:=by grind
 by_cases c:t<i*w+k
 ·grind
 ·rw [if_neg c]
  by_cases c2:t<(i+1)*w
  ·rw [if_pos c2];have hw:0<w:=by omega
   obtain ⟨s,rfl⟩:∃ s,t=i*w+s:=⟨t-i*w,by omega⟩
   have e1:(i*w+s)/w=i:=by rw [Nat.mul_comm,Nat.mul_add_div hw,Nat.div_eq_of_lt Oo,Nat.add_zero]
   have e2:(i*w+s)%w=s:=by simp_all [Nat.mod_eq_of_lt]
   show _=l.getD ((i*w+s)/w) 0/2 ^ ((i*w+s)%w)%2;rw [e1,e2];obtain ⟨d,rfl⟩:∃ d,s=k+d:=⟨s-k,by omega⟩
   rw [Nat.pow_add,← Nat.div_div_eq_div_mul,h];simp
  grind
theorem qz6 (n:Nat) (w:World) (h:n≤64):Gv Tryz.prog 260 [ii n] w fun r w'=>r=.bool true∧w'=w:=by
 refine ze Tryz.func260 Tryz.ntmps260 ?_;refine zv ?_;exact ⟨congrArg Value.bool (decide_eq_true Oo),rfl⟩
theorem q0b (n wd:Nat) (w:World) (h:n*wd≤4398046511104):Gv Tryz.prog 263 [ii n,ii wd] w fun r w'=>r=ii ((n*wd+7)/8:Nat)∧w'=w:=by
 obtain ⟨f,ef⟩:∃ f,f=n*wd:=⟨_,rfl⟩
 have efi:(n:Int)*(wd:Int)=(f:Int):=by rw [ef,Int.natCast_mul]
 rw [← ef] at h ⊢;refine ze Tryz.func263 Tryz.ntmps263 ?_;rw [efi];refine zv ?_;exact ⟨congrArg (Value.int .i64) Oo,rfl⟩
theorem qud {x w:Nat} (hx:x<2 ^ w) (hw:w≤64):qaf x≤w:=qev w x hx hw
theorem qz2 (x wd b:Nat) (w:World) (hx:x<18446744073709551616) (hb:w.heap[b]?=some (.cells #[ii wd] 3)) :
  Gv Tryz.prog 262 [.int .u64 x,pp b] w fun r w'=>r=.bool (decide (wd<qaf x))∧Ext w w':=by
 have hW:=qud (x:=x) (w:=64) (by simpa using hx) Od;refine ze Tryz.func262 Tryz.ntmps262 ?_;refine DrawV.free rfl Jk (zw ?_);refine zd ?_;apply zsd
 ·intro wd2 hd;(conv=>whnf);refine zcv (qgl x wd2 hx) ?_;rintro v w7 ⟨rfl,rfl⟩;exact ⟨xr,rfl⟩
 (conv=>whnf);refine zf ?_ (by intro wd hd;(conv=>whnf);refine LoadV.own (Ext.get (Ext.trans (Ext.drew xr) hd) hb) rfl ?_;(conv=>whnf);exact ⟨xr,rfl⟩);refine zd ?_;refine zd ?_;intro wd2 hd;(conv=>whnf);exact ⟨congrArg Value.bool (by rw [Bool.eq_iff_iff];simp),(Ext.refl w).drew.trans hd⟩
theorem qvg (ps:List Nat) (wd b:Nat) (A:oA) (n c:Nat) (w:World) (hS:SlAt encU 1 w A ps) (hn:ps.length=n) (hl:n≤4398046511104) (hp:∀ x∈ps,x<2 ^ wd) (hw:wd≤64) (hb:w.heap[b]?=some (.cells #[ii wd] 3)) :
  Gv Tryz.prog 330 [.slice A n c,.func (.func 262) #[] #[pp b]] w fun r w'=>r=ii (-1)∧Ext w w':=by
 refine ze Tryz.func330 Tryz.ntmps330 ?_;refine qm (fun i:Nat=>[(0,.slice A n c),(1,.func (.func 262) #[] #[pp b]),(7,ii n),(8,ii i)]) (fun i w1=>i≤n∧Ext w w1) (fun i=>n-i) 0 ⟨rfl,rfl,rfl,rfl,trivial⟩ ⟨Nat.zero_le _,Ext.refl w⟩ ?_;rintro i w1 ρ' ⟨i1,he1⟩;(conv=>whnf);refine zC (fun _=>zw ?_) (fun _=>zw ?_)
 ·have hi:i<ps.length:=by omega
  have hx:=hp _ (List.getElem_mem hi);have hx64:ps[i]<18446744073709551616:=Nat.lt_of_lt_of_le hx (Nat.pow_le_pow_right Od hw);refine ElemV.sl (hS.ext he1) hn i rfl Oo ?_;intro eb eo hcell;refine LoadV.cell0 hcell (zw ?_);refine zcv (qz2 ps[i] wd b w1 hx64 (he1.get hb)) ?_;rintro r w2 ⟨rfl,he2⟩;have hf:decide (wd<qaf ps[i])=false:=decide_eq_false (by have:=qud hx hw;omega);rw [hf];refine zu ?_;exact ⟨i+1,⟨rfl,rfl,rfl,rfl,trivial⟩,⟨by omega,he1.trans he2⟩,by omega⟩
 ·exact ⟨rfl,he1⟩
theorem qml (ps:List Nat) (wd b:Nat) (A:oA) (n c:Nat) (w:World) (hS:SlAt encU 1 w A ps) (hn:ps.length=n) (hl:n≤4398046511104) (hp:∀ x∈ps,x<2 ^ wd) (hw:wd≤64) (hb:w.heap[b]?=some (.cells #[ii wd] 3)) :
  Gv Tryz.prog 261 [.slice A n c,.func (.func 262) #[] #[pp b]] w fun r w'=>r=.bool false∧Ext w w':=by
 refine ze Tryz.func261 Tryz.ntmps261 ?_;refine zcv (qvg ps wd b A n c w hS hn hl hp hw hb) ?_;rintro r w1 ⟨rfl,he⟩;(conv=>whnf);exact ⟨rfl,he⟩
def pkF (ps:List Nat) (wd t:Nat):Nat:=ps.getD (t/wd) 0/2 ^ (t%wd)
def pkC (ps:List Nat) (wd e:Nat):List Value:=byV (qb0 (upF (pkF ps wd) e) ((ps.length*wd+7)/8))
theorem q9b (ps:List Nat) (wd e:Nat):(pkC ps wd e).length=(ps.length*wd+7)/8:=by rw [pkC,qas,qc8]
theorem q36 (ps:List Nat) (wd:Nat):pkC ps wd 0=qcv [Value.int .u8 0] ((ps.length*wd+7)/8):=q5b _ _
theorem qaci {ps:List Nat} {wd e:Nat} (h:e<ps.length*wd):(pkC ps wd e)[e/8]?=some (.int .u8 (byt (upF (pkF ps wd) e) (e/8))):=qh7 Oo
theorem q9c {ps:List Nat} {wd e:Nat} (h:e<ps.length*wd):(pkC ps wd e).set (e/8) (.int .u8 (byt (upF (pkF ps wd) e) (e/8)+pkF ps wd e%2*2 ^ (e%8):Nat))=pkC ps wd (e+1):=qaas Oo
theorem q9a (ps:List Nat) (wd:Nat):pkC ps wd (ps.length*wd)=byV (qc4 ps wd):=by rw [pkC];exact congrArg byV (q31 ps wd)
theorem q35 {ps:List Nat} {wd i k:Nat} (hk:k≤wd) (h:ps.getD i 0/2 ^ k=0):pkC ps wd (i*wd+k)=pkC ps wd ((i+1)*wd):=by rw [pkC,pkC];exact congrArg byV (qvc hk h)
theorem qacj {ps:List Nat} {wd i k:Nat} (hk:k<wd):pkF ps wd (i*wd+k)=ps.getD i 0/2 ^ k:=by
 have e1:(i*wd+k)/wd=i:=by rw [Nat.mul_comm,Nat.mul_add_div Oo,Nat.div_eq_of_lt hk,Nat.add_zero]
 have e2:(i*wd+k)%wd=k:=by rw [Nat.mul_comm,Nat.mul_add_mod,Nat.mod_eq_of_lt hk]
 rw [pkF,e1,e2]
theorem NewS.blk {e:TypeId} {w w':World} {b:Nat} {l:LB} {n:Nat} (he:Ext w w') (hb:w.heap.size≤b) (ho:w'.heap[b]?=some (.cells (byV l).toArray e)) (hn:l.length=n):NewS e w w' (.slice (some ⟨b,0,none⟩) n n) l:=by
 subst hn;refine ⟨he,⟨_,_,rfl,Nat.le_refl _,.inr ⟨b,_,rfl,ho,by rw [List.size_toArray,qas];exact Nat.le_refl _,?_,by rw [List.size_toArray,qas];exact Nat.le_refl _⟩⟩,fun k hk=>?_⟩
 ·rw [List.take_of_length_le (by rw [qas];exact Nat.le_refl _)]
 ·rw [List.mem_singleton.1 hk];exact ⟨hb,qb2 ho⟩
theorem qtf (ps:List Nat) (wd:Nat) (A:oA) (n c:Nat) (w:World) (hS:SlAt encU 1 w A ps) (hn:ps.length=n) (hl:n≤4398046511104) (hnw:n*wd≤4398046511104) (hp:∀ x∈ps,x<2 ^ wd) (hw:wd≤64) :
  Gv Tryz.prog 192 [.slice A n c,ii wd] w fun r w'=>∃ v,r=.tuple #[v,ii 0]∧NewS 5 w w' v (qc4 ps wd):=by
 have hroom:=fun w=>q0b n wd w hnw
 obtain ⟨f,ef⟩:∃ f,f=n*wd:=⟨_,rfl⟩
 rw [← ef] at hroom;have efp:ps.length*wd=f:=by rw [hn,ef]
 refine ze Tryz.func192 Tryz.ntmps192 ?_;refine znm (Mem.nil w) ?_;intro b w1 hm;refine zr hm 0 ?_;refine zcv (qz6 wd w1 hw) ?_;rintro r w2 ⟨rfl,rfl⟩;refine zu ?_;refine zcv (qml ps wd b A n c w2 (hS.ext hm.ext) hn hl hp hw (hm.get mh)) ?_;rintro r w3 ⟨rfl,he3⟩;have hm:=hm.call he3;(conv=>whnf);refine zt ?_;refine LoadV.mem (i:=0) Oa rfl rfl (zw ?_);refine zcv (hroom w3) ?_;rintro r w4 ⟨rfl,rfl⟩;(conv=>whnf);refine ⟨(f+7)/8,(f+7)/8,rfl,rfl,Nat.le_refl _,by show (f+7)/8*1≤_;omega,by omega,fun ob w5 hb hw5=>?_⟩;have hm:=hm.new hb hw5;have hm:Mem w w5 [(ob,.cells (pkC ps wd 0).toArray 5),(b,.cells #[ii wd] 3)]:=by rw [q36,efp];exact hm
 clear hb hw5;refine qm (fun i:Nat=>[(0,.slice A n c),(3,pp b),(6,.slice (some ⟨ob,0,none⟩) ((f+7)/8) ((f+7)/8)),(23,.slice A n c),(24,ii n),(25,ii i)])
  (fun i w'=>i≤n∧Mem w w' [(ob,.cells (pkC ps wd (i*wd)).toArray 5),(b,.cells #[ii wd] 3)]) (fun i=>n-i) 0 ⟨rfl,rfl,rfl,rfl,rfl,rfl,trivial⟩ ⟨Nat.zero_le _,by rw [Nat.zero_mul];exact hm⟩ ?_
 clear hm;rintro i w6 ρ' ⟨i1,hm⟩;(conv=>whnf);refine zC (fun _=>zw ?_) (fun _=>zw ?_)
 ·have hi:i<ps.length:=by omega
  have hx:=hp _ (List.getElem_mem hi);have hx64:ps[i]<18446744073709551616:=Nat.lt_of_lt_of_le hx (Nat.pow_le_pow_right Od hw);have hg:ps.getD i 0=ps[i]:=by rw [List.getD_eq_getElem?_getD,zge hi];rfl
  have hm1:i*wd+wd≤f:=by rw [ef,← Nat.succ_mul];exact Nat.mul_le_mul_right _ Oo
  obtain ⟨g,eg⟩:∃ g,g=i*wd:=⟨_,rfl⟩
  have egi:(i:Int)*(wd:Int)=(g:Int):=by rw [eg,Int.natCast_mul]
  rw [← eg] at hm1;refine ElemV.sl (hS.ext hm.ext) hn i rfl Oo ?_;intro eb eo hcell;refine LoadV.cell0 hcell ?_;refine zr hm 1 ?_;rw [egi];refine zv ?_;refine qm (fun k:Nat=>[(0,.slice A n c),(3,pp b),(6,.slice (some ⟨ob,0,none⟩) ((f+7)/8) ((f+7)/8)),(8,.int .u64 (ps[i]/2 ^ k:Nat)),(9,ii (g+k:Nat)),(23,.slice A n c),(24,ii n),(25,ii i)])
   (fun k w'=>k≤wd∧Mem w w' [(ob,.cells (pkC ps wd (g+k)).toArray 5),(b,.cells #[ii wd] 3)]) (fun k=>wd-k) 0 ⟨rfl,rfl,rfl,congrArg (fun n:Nat=>Value.int .u64 n) Js,rfl,rfl,rfl,rfl,trivial⟩ ⟨Nat.zero_le _,by rw [Nat.add_zero,eg];exact hm⟩ ?_
  clear hm;rintro k w7 ρ2 ⟨k1,hm⟩;have hq:ps[i]/2 ^ k<18446744073709551616:=Nat.lt_of_le_of_lt (Nat.div_le_self _ _) hx64;(conv=>whnf);refine zC (fun _=>zu ?_) (fun _=>zu ?_)
  ·have hkw:k<wd:=Nat.lt_of_not_le fun hle=>by
    have:ps[i]/2 ^ k=0:=Nat.div_eq_of_lt (Nat.lt_of_lt_of_le hx (Nat.pow_le_pow_right Od hle));omega
   have he:g+k<ps.length*wd:=by rw [efp];omega
   have hcl:=q9b ps wd (g+k);rw [efp] at hcl;have hld:=qaci he;have hF:pkF ps wd (g+k)=ps[i]/2 ^ k:=by rw [eg,qacj hkw,hg]
   have hby:=qr7 (upF (pkF ps wd) (g+k)) ((g+k)/8);have hst:=q9c he;rw [hF] at hst;refine DrawV.own rfl Jk (zw ?_);(iterate 3 (refine zo ?_));apply StepO.still
   ·intro wd hd;refine ElemV.own1 ((g+k)/8) rfl Oo (zw ?_);exact PostO.still xr rfl
   apply StepO.still
   ·intro wd hd;refine LoadV.mem (Mem.call (Mem.drew hm) hd) (i:=0) rfl (by rw [List.getElem?_toArray];exact hld) ?_;(conv=>whnf);exact PostO.still xr rfl
   (conv=>whnf);refine zo ?_;apply StepO.still
   ·intro wd1 hd;refine Wit.eq (qbb (k:=.u64) (m:=ps[i]/2 ^ k) 1 rfl (qio hq) ⟨by omega,by omega⟩) (zw ?_);exact PostO.still xr rfl
   (conv=>whnf);(iterate 3 (refine zo ?_));apply StepO.still
   ·intro wd1 hd;refine V.Wit.shlN ((g+k)%8) Oo (by show (g+k)%8<8;omega) (qdz ?_) ?_
    ·have h2:2 ^ ((g+k)%8)≤2 ^ 7:=Nat.pow_le_pow_right Od Oo;have h3:ps[i]/2 ^ k%2 ^ 1*2 ^ ((g+k)%8)≤1*2 ^ ((g+k)%8):=Nat.mul_le_mul_right _ Oo;have e7:(2:Nat) ^ 7=128:=by decide
     show ps[i]/2 ^ k%2 ^ 1*2 ^ ((g+k)%8)<256;omega
    (conv=>whnf);exact PostO.still xr rfl
   apply StepO.still
   ·intro wd1 hd;refine Wit.eq (q6i (f:=pkF ps wd) (g+k) (ps[i]/2 ^ k)) (zw ?_);exact PostO.still xr rfl
   apply StepO.still
   ·intro wd1 hd;refine ElemV.own1 ((g+k)/8) rfl Oo (zw ?_);exact PostO.still xr rfl
   intro w8 hd8
   (repeat (intro _;(conv=>whnf)))
   refine StoreV.mem (hm.drew.call hd8) (i:=0) rfl (by rw [List.size_toArray];omega) rfl ?_;intro w9 hm;have hm:Mem w w9 [(ob,.cells (pkC ps wd (g+k+1)).toArray 5),(b,.cells #[ii wd] 3)]:=by
    rw [← hst];have e:((pkC ps wd (g+k)).toArray.setIfInBounds ((g+k)/8) (.int .u8 (byt (upF (pkF ps wd) (g+k)) ((g+k)/8)+ps[i]/2 ^ k%2*2 ^ ((g+k)%8):Nat)))=((pkC ps wd (g+k)).set ((g+k)/8) (.int .u8 (byt (upF (pkF ps wd) (g+k)) ((g+k)/8)+ps[i]/2 ^ k%2*2 ^ ((g+k)%8):Nat))).toArray:=by simp
    rw [← e];exact hm
   (conv=>whnf);refine V.Wit.shrN 1 rfl Od (zu ?_);refine ⟨k+1,⟨rfl,rfl,rfl,congrArg (fun n:Nat=>Value.int .u64 n) (by rw [Nat.div_div_eq_div_mul,← Nat.pow_succ]),congrArg (Value.int .i64) Oo,rfl,rfl,rfl,trivial⟩,⟨by omega,hm⟩,by omega⟩
  ·have hz:ps.getD i 0/2 ^ k=0:=by rw [hg];omega
   refine ⟨i+1,⟨rfl,rfl,rfl,rfl,rfl,rfl,trivial⟩,⟨by omega,?_⟩,by omega⟩;rw [← q35 k1 hz,← eg];exact hm
 ·obtain rfl:i=n:=by omega
  obtain ⟨o1,o2⟩:=hm.own _ mh;refine ⟨_,rfl,NewS.blk hm.ext o1 ?_ (by rw [qbz,efp])⟩;rw [← q9a,hn];exact o2
def txs (L:List ByteArray):List LB:=L.map fun s=>s.data.toList
theorem qec (L:List ByteArray):(txs L).length=L.length:=by grind [txs]
theorem qpc {L:List ByteArray} {i:Nat} (h:i<L.length):tx (txs L) i=L[i].data.toList:=by
 grind [tx,txs]
theorem qaaj {L:List ByteArray} {i:Nat} (h:L.length≤i):tx (txs L) i=[]:=by
 grind [tx,txs]
theorem qin {L:List ByteArray} {i:Nat} (h:i<L.length):(tx (txs L) i).length=L[i].size:=by rw [qpc h];rfl
open Classical in
noncomputable def chkD (L:List LB):Nat:=
 if 4194304<L.length∨∃ i,262144<(tx L i).length then 2 else if ∃ i,i+1<L.length∧leL (tx L (i+1)) (tx L i)=true then 160 else 0
theorem qw9 {L:List LB} (h:4194304<L.length):chkD L=2:=by grind [chkD]
theorem qxb {L:List LB} {i:Nat} (h:262144<(tx L i).length):chkD L=2:=by grind [chkD]
theorem qxa {L:List LB} (h:¬ 4194304<L.length) (h2:∀ i,¬ 262144<(tx L i).length) {i:Nat} (hi:i+1<L.length) (hl:leL (tx L (i+1)) (tx L i)=true):chkD L=160:=by
 rw [chkD,if_neg (fun g=>g.elim h fun ⟨i,g⟩=>h2 i g),if_pos ⟨i,hi,hl⟩]
theorem q7j {L:List LB} (h:¬ 4194304<L.length) (h2:∀ i,¬ 262144<(tx L i).length) (h3:∀ i,i+1<L.length→leL (tx L (i+1)) (tx L i)=false):chkD L=0:=by
 grind [chkD]
theorem qiw {L:List LB} (h:chkD L=0):L.length≤4194304∧(∀ i,(tx L i).length≤262144)∧(∀ i,i+1<L.length→leL (tx L (i+1)) (tx L i)=false):=by
 rw [chkD] at h
 split at h
 all_goals simp_all
theorem qlq (L:List LB):dicE L=if chkD L=0 then (if 67108864<(qal L).length then 1 else 0) else chkD L:=by
 rw [dicE,chkD]
 split
 ·rfl
 ·split
  ·rfl
  ·rfl
theorem qsk {L:List LB} (h:chkD L≠0):dicE L=chkD L:=by rw [qlq,if_neg h]
theorem q2u {L:List LB} (h:chkD L=0) (h2:(qal L).length≤67108864):dicE L=0:=by grind [qlq]
theorem qno {L:List LB} (h:chkD L=0) (h2:67108864<(qal L).length):dicE L=1:=by grind [qlq]
def plcN (L:List LB) (i:Nat):List Nat:=(List.range (upN i 16)).map fun k=>(arL L (16*k)).length
theorem q37 (L:List LB) {i:Nat} (h:i%16=0):plcN L (i+1)=plcN L i++[(arL L i).length]:=by
 have e1:upN (i+1) 16=upN i 16+1:=by unfold upN;omega
 grind [upN,plcN,List.range_succ]
theorem qz9 (L:List LB) {i:Nat} (h:i%16≠0):plcN L (i+1)=plcN L i:=by
 grind [upN,plcN]
theorem qlh (L:List LB) {i j:Nat} (h:i≤j):(arL L i).length≤(arL L j).length:=by
 obtain ⟨r,hr⟩:=qli L h
 simp_all
theorem q68 (L:List LB) {i:Nat} (h:i%16=0):arL L (i+1)=arL L i++(varL (tx L i).length++tx L i):=by
 grind [arL,entE]
theorem q16 (L:List LB) {i:Nat} (h:i%16≠0):arL L (i+1)=arL L i++(varL (comL (tx L (i-1)) (tx L i))++(varL ((tx L i).length-comL (tx L (i-1)) (tx L i))++(tx L i).drop (comL (tx L (i-1)) (tx L i)))):=by
 grind [arL,entE]
theorem q7u {first:Bool} {a s:LB} (ha:a.length≤262144) (hs:s.length≤262144):(entE first a s).length≤262164:=by
 have hc:=qix a s;have v1:=qbe 8 (comL a s) (Nat.lt_of_le_of_lt (Nat.le_trans hc.1 ha) Od);have v2:=qbe 8 (s.length-comL a s) (Nat.lt_of_le_of_lt (Nat.le_trans (Nat.sub_le _ _) hs) Od);have v3:=qbe 8 s.length (Nat.lt_of_le_of_lt hs Od)
 grind [entE]
theorem q5t {L:List LB} (h:∀ i,(tx L i).length≤262144):∀ i,(arL L i).length≤i*262164
 | 0=>Nat.le_refl _
 | i+1=>by
  have h1:=q5t h i;have h2:(if i=0 then [] else tx L (i-1)).length≤262144:=by
   split
   ·exact Nat.zero_le _
   ·exact h _
  have h3:=q7u (first:=decide (i%16=0)) h2 (h i);rw [arL,zla,Nat.succ_mul];omega
theorem q9e {L:List LB} (ha:(qal L).length≤67108864):∀ x∈plcL L,x<2 ^ qaf (qal L).length:=by
 intro x hx;rw [plcL,List.mem_map] at hx;obtain ⟨k,hk,rfl⟩:=hx;have hk:=List.mem_range.1 hk;have h1:16*k≤L.length:=by grind [upN]
 have h2:(arL L (16*k)).length≤(qal L).length:=qlh L h1
 grind [qmc]
theorem quc {n:Nat} (h:n≤67108864):qaf n≤27:=qev 27 n (Nat.lt_of_le_of_lt h Od) Od
theorem qnp {L:List LB} (hn:L.length≤4194304) (ha:(qal L).length≤67108864):(qk L).length≤70000000:=by
 have v1:=qbe 8 L.length (Nat.lt_of_le_of_lt hn Od);have v2:=qbe 8 (qal L).length (Nat.lt_of_le_of_lt ha Od);have hw:=quc ha;have hp:=qbz (plcL L) (qaf (qal L).length);rw [qii] at hp;have hm:upN L.length 16*qaf (qal L).length≤262144*27:=Nat.mul_le_mul (by unfold upN;omega) hw
 grind [qk]
theorem q79 {L:List ByteArray} {i j:Nat} (hi:i<L.length) (hj:j<L.length):leL (tx (txs L) i) (tx (txs L) j)=(slt L[i] L[j]||seq L[i] L[j]):=by
 rw [qpc hi,qpc hj];rfl
theorem q6o {a b:ByteArray}:slt a b=false↔(slt b a||seq b a)=true:=by
 rw [← Bool.not_eq_true,qc6,Bool.or_eq_true,qc6,qa9,List.not_lt]
 constructor
 ·intro h
  rcases List.le_iff_lt_or_eq.1 h with h|h
  ·exact .inl h
  ·exact .inr (qex h)
 ·rintro (h|h)
  ·exact List.le_of_lt h
  ·rw [h];exact List.le_refl _
theorem quq (L:List ByteArray) (A:oA) (n c:Nat) (w:World) (hS:SlAt zeS 1 w A L) (hn:L.length=n) (hb:n≤140737488355328) :
  Gv Tryz.prog 252 [.slice A n c] w fun r w'=>r=ii (chkD (txs L))∧Ext w w':=by
 refine ze Tryz.func252 Tryz.ntmps252 ?_;refine zC (fun _=>zw ?_) (fun _=>zw ?_)
 ·exact ⟨by rw [qw9 (by rw [qec];omega)];rfl,Ext.refl w⟩
 ·have hlong:¬ 4194304<(txs L).length:=by rw [qec];omega
  refine qm (fun i:Nat=>[(0,.slice A n c),(9,.slice A n c),(10,ii n),(11,ii i)]) (fun i w1=>i≤n∧(∀ j,j<i→¬ 262144<(tx (txs L) j).length)∧w1=w) (fun i=>n-i) 0 ⟨rfl,rfl,rfl,rfl,trivial⟩ ⟨Nat.zero_le _,fun j h=>absurd h (Nat.not_lt_zero _),rfl⟩ ?_;rintro i w1 ρ' ⟨i1,i2,rfl⟩;(conv=>whnf);refine zC (fun _=>zw ?_) (fun _=>zw ?_)
  ·have hi:i<L.length:=by omega
   have hx:=qin hi;refine ElemV.sl hS hn i rfl Oo ?_;intro eb eo hcell;refine LoadV.cell0 hcell (zw ?_);refine zC (fun _=>zu ?_) (fun _=>zu ?_)
   ·exact ⟨by rw [qxb (i:=i) Oo];rfl,xr⟩
   ·refine ⟨i+1,⟨rfl,rfl,rfl,rfl,trivial⟩,⟨by omega,fun j hj=>?_,rfl⟩,by omega⟩
    by_cases e:j=i
    ·subst e;omega
    ·exact i2 j Oo
  ·obtain rfl:i=n:=by omega
   have hsh:∀ j,¬ 262144<(tx (txs L) j).length:=fun j=>by
    by_cases hj:j<i
    ·exact i2 j hj
    ·rw [qaaj Oo];decide
   refine qm (fun k:Nat=>[(0,.slice A i c),(5,ii (k+1:Nat))]) (fun k w2=>(∀ j,j<k→j+1<L.length→leL (tx (txs L) (j+1)) (tx (txs L) j)=false)∧Ext w1 w2) (fun k=>i-k) 0 ⟨rfl,rfl,trivial⟩ ⟨fun j h=>by omega,Ext.refl w1⟩ ?_;rintro k w2 ρ2 ⟨k1,he2⟩;(conv=>whnf);refine zC (fun _=>zw ?_) (fun _=>zw ?_)
   ·have hk:k+1<L.length:=by omega
    obtain ⟨b,off,rfl,hat⟩:=(hS.ext he2).at_ (by intro e;rw [e] at hk;cases hk);have hca:=(hat k _ (zge Oo)).ext (Ext.refl w2).drew;have hcb:=(hat (k+1) _ (zge hk)).ext (Ext.refl w2).drew;refine zy ?_;refine zv ?_;refine ⟨⟨b,off,k,rfl,by omega,by omega,?_⟩⟩;refine zu ?_;refine LoadV.cell0 hca (zu ?_);refine ⟨⟨b,off,k+1,rfl,by omega,by omega,?_⟩⟩;refine zu ?_;refine LoadV.cell0 hcb (zu ?_);have he3:=he2.drew;have hle:=q79 hk (show k<L.length by omega);refine Tst.both (fun hlt=>?_) fun hlt=>?_
    ·refine zu ?_;refine ⟨k+1,⟨rfl,congrArg (Value.int .i64) Oo,trivial⟩,⟨fun j hj hjl=>?_,he3⟩,by omega⟩
     by_cases e:j=k
     ·subst e;rw [hle,← Bool.not_eq_true];exact fun g=>by rw [q6o.2 g] at hlt;cases hlt
     ·exact k1 j Oo hjl
    ·(conv=>whnf);exact ⟨by rw [qxa hlong hsh (i:=k) (by rw [qec];exact hk) (by rw [hle];exact q6o.1 hlt)];rfl,he3⟩
   ·exact ⟨by rw [q7j hlong hsh (fun j hj=>by rw [qec] at hj;exact k1 j Oo hj)];rfl,he2⟩
def u64V (l:List Nat):List Value:=l.map fun n=>Value.int .u64 (n:Nat)
theorem qdt (l:List Nat):(u64V l).length=l.length:=by simp [u64V]
theorem qzz {α:Type} {f:α→Value} {w:World} {base n c:Nat} {e:TypeId} {A:oA} {l:List α} (h:w.ownsRow base e 1 (.slice A n c) n (l.map f)) (hn:l.length=n):SlAt (fun x=>[f x]) 1 w A l:=by
 subst hn;refine ⟨fun hne=>?_⟩
 rcases h.2 with ⟨e1,e2⟩|⟨g,cap,cur,e1,_,h2,_,_,h5,h6⟩
 ·exact absurd (List.eq_nil_of_length_eq_zero e2) hne
 ·cases e1;refine ⟨g,0,rfl,fun j x hx k v hv=>?_⟩;cases k with
  | succ k=>simp at hv
  | zero=>
   simp only [List.getElem?_cons_zero,Option.some.injEq] at hv;subst hv;have hj:=(List.getElem?_eq_some_iff.1 hx).1;have h7:(l.map f)[j]?=some (f x):=by rw [List.getElem?_map,hx];rfl
   rw [← h6,List.getElem?_take,if_pos Oo] at h7;rw [qa h2,Nat.zero_add,Nat.mul_one,Nat.add_zero]
   simpa using h7
theorem qql {w:World} {base n:Nat} {A:oA} {c:Nat} {l:List Nat} (h:w.ownsRow base 164 1 (.slice A n c) n (u64V l)) (hn:l.length=n):SlAt encU 1 w A l:=qzz (f:=fun x:Nat=>Value.int .u64 (x:Nat)) h hn
structure DicS (L:List LB) (w0 w:World) (b i:Nat) (v:Value):Prop where
 h:∃ F ps,Sep w0 w [F,rowF v]∧BufAt w b 67108864 (arL L i) F∧w.ownsRow 0 164 1 v (upN i 16) (u64V ps)∧ps.length=upN i 16∧((arL L i).length≤67108864→ps=plcN L i)
theorem q6t {L:List ByteArray} (h:chkD (txs L)=0) {i:Nat} (hi:i<L.length):L[i].size≤262144:=by rw [← qin hi];exact (qiw h).2.1 i
theorem qnc {L:List LB} (h:chkD L=0) {i:Nat} (hi:i≤L.length):(arL L i).length≤1200000000000:=by
 obtain ⟨h1,h2,_⟩:=qiw h;have h3:=q5t h2 i;have h4:i*262164≤4194304*262164:=Nat.mul_le_mul_right _ Oo;omega
def DBuR (L:List LB) (w w':World) (r:Value):Prop:=
 (dicE L≠0∧r=.tuple #[.slice none 0 0,ii (dicE L)]∧Ext w w')∨(dicE L=0∧∃ v,r=.tuple #[v,ii 0]∧NewS 5 w w' v (qk L))
theorem DicS.step {L:List LB} {w0 w':World} {b i:Nat} {v:Value} {F:List Nat} {ps:List Nat} (hS:Sep w0 w' [F,rowF v]) (hB:BufAt w' b 67108864 (arL L i) F) (hO:w'.ownsRow 0 164 1 v (upN i 16) (u64V ps)) (hl:ps.length=upN i 16)
  (hp:(arL L i).length≤67108864→ps=plcN L i):DicS L w0 w' b i v:=⟨⟨F,ps,hS,hB,hO,hl,hp⟩⟩
theorem qup (L:List ByteArray) (A:oA) (n c:Nat) (w:World) (hS:SlAt zeS 1 w A L) (hn:L.length=n) (hb:n≤140737488355328) :
  Gv Tryz.prog 186 [.slice A n c,ii 4611686018427387904] w fun r w'=>DBuR (txs L) w w' r:=by
 refine ze Tryz.func186 Tryz.ntmps186 ?_;refine zcv (quq L A n c w hS hn hb) ?_;rintro r w1 ⟨rfl,he1⟩
 by_cases hE:chkD (txs L)=0
 ·have hLn:=(qiw hE).1;rw [qec,hn] at hLn;rw [hE];refine zu ?_;refine zcv (qeh 67108864 w1) ?_;rintro r w2 ⟨b,rfl,he2,hb2,hB⟩;have hB:BufAt w2 b 67108864 (arL (txs L) 0) [b]:=hB;have hSp:Sep w w2 [[b],rowF (.slice none 0 0)]:=((Sep.of he1).add (F:=rowF (.slice none 0 0)) (Ext.refl w1) (fun k hk=>by cases hk)).add he2 fun k hk=>by rw [List.mem_singleton.1 hk];exact ⟨hb2,hB.lt b (List.mem_singleton.2 rfl)⟩
  refine qm (fun x:Nat × oA × Nat=>[(0,.slice A n c),(1,ii 4611686018427387904),(7,pp b),(8,.slice x.2.1 (upN x.1 16) x.2.2),(23,.slice A n c),(24,ii n),(25,ii x.1)])
   (fun x w'=>x.1≤n∧DicS (txs L) w w' b x.1 (.slice x.2.1 (upN x.1 16) x.2.2)) (fun x=>n-x.1) (0,none,0) ⟨rfl,rfl,rfl,rfl,rfl,rfl,rfl,trivial⟩ ⟨Nat.zero_le _,DicS.step hSp hB (World.ownsRow_nil _ _ _ _) (ps:=[]) rfl fun _=>rfl⟩ ?_
  clear hB hSp;rintro ⟨i,P,cp⟩ w3 ρ' ⟨i1,⟨F,ps,hSp,hB,hO,hpl,hps⟩⟩;dsimp only at i1 hSp hB hO hpl hps ⊢;(conv=>whnf);refine zC (fun _=>zw ?_) (fun _=>zw ?_)
  ·have hi:i<L.length:=by omega
   have hsz:=q6t hE hi;have hx:=qpc hi;have hal:=qnc (L:=txs L) hE (i:=i) (by rw [qec];omega);have hup:upN i 16≤262144:=by unfold upN;omega
   refine ElemV.sl (hS.ext hSp.ext) hn i rfl Oo ?_;intro eb eo hcell;refine LoadV.cell0 hcell (zw ?_);refine zt ?_;refine zC (fun _=>zu ?_) (fun _=>zu ?_)
   ·have hi16:i%16=0:=by omega
    have hlx:(tx (txs L) i).length=L[i].size:=qin hi;refine zcv (q2e b 67108864 _ F w3 hB) ?_;rintro r w4 ⟨⟨k,rfl,hk1,hk2⟩,rfl⟩;refine zu ?_;refine ⟨fun nb w5 hnb hw=>?_⟩;have he5:Ext w4 w5:=by rw [hw];exact (Ext.refl w4).alloc _
    have hc5:w5.heap[nb]?=some (.cells #[.int .u64 k] 164):=by rw [hw,hnb];exact heap_alloc_new w4 _
    have hSp:=hSp.call he5;have hB:=hB.call he5;have hO:=qcg hO he5;clear hnb hw;refine AppV.cell qaao u64I u64Z Jk rfl (by decide +kernel) hO hc5 rfl Oo ?_;intro A' c' w6 hO hch hnew;obtain ⟨hSp,_,hkp⟩:=hSp.row (i:=1) (F':=rowF (.slice A' (upN i 16+1) c')) rfl hch hnew;have hB:=hB.keep (hkp 0 _ rfl Od);refine zu ?_;refine zcv (qbs b 67108864 _ L[i].size F w6 hB Oo Od Oo) ?_;rintro r w7 ⟨rfl,hC⟩;obtain ⟨F7,⟨hSp,_,hkp⟩,hB⟩:=hSp.buf (i:=0) rfl hC;have hO:=qao hO (hkp 1 _ rfl Od);have hlv:=qbe 9 L[i].size Oo;refine NewBytesV.sl ?_;intro sb scap w8 hsc he8 hsS;have hSp:=hSp.call he8;have hB:=hB.call he8;have hO:=qcg hO he8;(conv=>whnf);refine zcv (qcr b 67108864 _ L[i].data.toList F7 (some ⟨sb,0,none⟩) L[i].size scap w8 hB hsS rfl Od (by rw [zla];show _+L[i].size≤_;omega)) ?_;rintro r w9 ⟨rfl,hC⟩;obtain ⟨F9,⟨hSp,_,hkp⟩,hB⟩:=hSp.buf (i:=0) rfl hC;have hO:=qao hO (hkp 1 _ rfl Od);have hup1:upN (i+1) 16=upN i 16+1:=by unfold upN;omega
    have har:arL (txs L) (i+1)=arL (txs L) i++varL L[i].size++L[i].data.toList:=by rw [q68 _ hi16,hlx,hx,List.append_assoc]
    refine zu ?_;refine ⟨(i+1,A',c'),⟨rfl,rfl,rfl,by show Value.slice _ _ _=_;rw [hup1],rfl,rfl,rfl,trivial⟩,⟨by simp only;omega,?_⟩,by simp only;omega⟩;show DicS (txs L) w w9 b (i+1) (.slice A' (upN (i+1) 16) c');rw [hup1];refine ⟨⟨F9,ps++[k],hSp,by rw [har];exact hB,?_,by rw [zla,hpl,hup1];rfl,fun hle=>?_⟩⟩
    ·rw [hup1,u64V,List.map_append];exact hO
    ·have h1:(arL (txs L) i).length≤67108864:=Nat.le_trans (qlh _ (Nat.le_succ i)) hle;rw [q37 _ hi16,hps h1,hk2 h1]
   ·have hi16:i%16≠0:=by omega
    have hi0:i≠0:=fun e=>hi16 (by rw [e])
    have hsz1:=q6t hE (i:=i-1) Oo;have hlx:(tx (txs L) i).length=L[i].size:=qin hi;have hx1:=qpc (L:=L) (i:=i-1) Oo;have hcm:=qix (tx (txs L) (i-1)) (tx (txs L) i);rw [hlx] at hcm;refine ElemV.sl (hS.ext hSp.ext) hn (i-1) Oo Oo ?_;intro eb2 eo2 hcell2;refine LoadV.cell0 hcell2 (zw ?_);refine zcv (qwt (L[i-1]' Oo) L[i] w3 Oo) ?_;rintro r w4 ⟨rfl,he4⟩;rw [← hx1,← hx];obtain ⟨cm,ecm⟩:∃ cm,cm=comL (tx (txs L) (i-1)) (tx (txs L) i):=⟨_,rfl⟩
    rw [← ecm] at hcm ⊢;have hSp:=hSp.call he4;have hB:=hB.call he4;have hO:=qcg hO he4;have hlv1:=qbe 9 cm Oo;have hlv2:=qbe 9 (L[i].size-cm) Oo;refine zu ?_;refine zcv (qbs b 67108864 _ cm F w4 hB Oo Od Oo) ?_;rintro r w5 ⟨rfl,hC⟩;obtain ⟨F5,⟨hSp,_,hkp⟩,hB⟩:=hSp.buf (i:=0) rfl hC;have hO:=qao hO (hkp 1 _ rfl Od);refine zu ?_;have esub:(L[i].size:Int)-(cm:Int)=((L[i].size-cm:Nat):Int):=by omega
    rw [esub];refine zcv (qbs b 67108864 _ (L[i].size-cm) F5 w5 hB Oo Od (by rw [zla];omega)) ?_;rintro r w6 ⟨rfl,hC⟩;obtain ⟨F6,⟨hSp,_,hkp⟩,hB⟩:=hSp.buf (i:=0) rfl hC;have hO:=qao hO (hkp 1 _ rfl Od);(conv=>whnf);refine ⟨cm,L[i].size,rfl,rfl,by omega,Nat.le_refl _,?_⟩;obtain ⟨sx,esx⟩:∃ sx,sx=L[i].extract cm L[i].size:=⟨_,rfl⟩
    have hsx:sx.data.toList=(tx (txs L) i).drop cm:=by rw [esx,qbg,hx];exact List.take_of_length_le (by rw [zld];exact Nat.le_refl _)
    have hsl:sx.data.toList.length=L[i].size-cm:=by rw [hsx,zld,hlx]
    rw [← esx];refine NewBytesV.sl ?_;intro sb scap w7 hsc he7 hsS;have hSp:=hSp.call he7;have hB:=hB.call he7;have hO:=qcg hO he7;(conv=>whnf);refine zcv (qcr b 67108864 _ sx.data.toList F6 (some ⟨sb,0,none⟩) sx.size scap w7 hB hsS rfl Od (by rw [zla,zla,hsl];omega)) ?_;rintro r w8 ⟨rfl,hC⟩;obtain ⟨F8,⟨hSp,_,hkp⟩,hB⟩:=hSp.buf (i:=0) rfl hC;have hO:=qao hO (hkp 1 _ rfl Od);have hup1:upN (i+1) 16=upN i 16:=by unfold upN;omega
    have har:arL (txs L) (i+1)=arL (txs L) i++varL cm++varL (L[i].size-cm)++sx.data.toList:=by rw [q16 _ hi16,hlx,← ecm,hsx];simp only [List.append_assoc]
    refine zu ?_;refine ⟨(i+1,P,cp),⟨rfl,rfl,rfl,by show Value.slice _ _ _=_;rw [hup1],rfl,rfl,rfl,trivial⟩,⟨by simp only;omega,?_⟩,by simp only;omega⟩;show DicS (txs L) w w8 b (i+1) (.slice P (upN (i+1) 16) cp);rw [hup1];refine ⟨⟨F8,ps,hSp,by rw [har];exact hB,by rw [hup1];exact hO,by rw [hpl,hup1],fun hle=>?_⟩⟩;have h1:(arL (txs L) i).length≤67108864:=Nat.le_trans (qlh _ (Nat.le_succ i)) hle;rw [qz9 _ hi16,hps h1]
  ·obtain rfl:i=n:=by omega
   have hal:=qnc (L:=txs L) hE (i:=i) (by rw [qec];omega);have hLl:(txs L).length=i:=by rw [qec,hn]
   have hAr:arL (txs L) i=qal (txs L):=by rw [qal,hLl]
   refine zcv (qcj b 67108864 _ F w3 hB Oo) ?_;rintro r w4 hR;rw [hAr] at hR hps
   rcases hR with ⟨hbig,rfl,rfl⟩|⟨hle,v,rfl,hN⟩
   ·refine zu ?_;exact .inl ⟨by rw [qno hE hbig];decide,by rw [qno hE hbig];rfl,hSp.ext⟩
   ·have hps:=hps hle;have ePlc:plcN (txs L) i=plcL (txs L):=by rw [← hLl];rfl
    rw [ePlc] at hps;subst hps;have hOw:=qcg hO hN.ext;have hup:upN i 16≤262144:=by unfold upN;omega
    have hbs:=hN.bs;have he4:Ext w w4:=hSp.ext.trans hN.ext;obtain ⟨Av,cv,rfl,hcv,hAv⟩:=id hbs;have hwd:=quc hle;refine zu ?_;refine zcv (qgl (qal (txs L)).length w4 Oo) ?_;rintro r w5 ⟨rfl,rfl⟩;(conv=>whnf);refine zcv (qtf (plcL (txs L)) (qaf (qal (txs L)).length) P (upN i 16) cp w5 (qql hOw hpl) hpl Oo (Nat.le_trans (Nat.mul_le_mul hup hwd) Od) (q9e hle) Oo) ?_;rintro r w6 ⟨vp,rfl,hNp⟩;have hbp:=hNp.bs;have hpkl:=qbz (plcL (txs L)) (qaf (qal (txs L)).length);have hpk:(plcL (txs L)).length*qaf (qal (txs L)).length≤262144*27:=Nat.mul_le_mul Oo hwd;obtain ⟨Ap,cq,rfl,hcq,hAp⟩:=id hbp;obtain ⟨pk,epk⟩:∃ pk,pk=qc4 (plcL (txs L)) (qaf (qal (txs L)).length):=⟨_,rfl⟩
    obtain ⟨pr,epr⟩:∃ pr,pr=(plcL (txs L)).length*qaf (qal (txs L)).length:=⟨_,rfl⟩
    rw [← epk] at hAp hpkl hcq;rw [← epr] at hpkl hpk;have he6:=he4.trans hNp.ext;(conv=>whnf);refine zcv (qeh 4611686018427387904 w6) ?_;rintro r w7 ⟨ob,rfl,he7,hob,hB7⟩;have hU:BufS w6 w7 ob 4611686018427387904 []:=BufS.new (Ext.refl w6) he7 hob hB7;refine zu ?_;have hlv1:=qbe 9 i Oo;have hlv2:=qbe 9 (qal (txs L)).length Oo;refine zcv (hU.step fun F hF=>qbs ob 4611686018427387904 _ i F w7 hF Oo Od Js) ?_;rintro r w8 ⟨rfl,hU⟩;refine zu ?_;refine zcv (hU.step fun F hF=>qbs ob 4611686018427387904 _ (qal (txs L)).length F w8 hF Oo Od (by rw [List.nil_append];omega)) ?_;rintro r w9 ⟨rfl,hU⟩;rw [← epk];refine zcv (hU.step fun F hF=>qcr ob 4611686018427387904 _ pk F Ap pk.length cq w9 hF (hAp.ext hU.ext) rfl Od (by rw [List.nil_append,zla];omega)) ?_;rintro r w10 ⟨rfl,hU⟩;(conv=>whnf);refine zcv (hU.step fun F hF=>qcr ob 4611686018427387904 _ (qal (txs L)) F Av (qal (txs L)).length cv w10 hF (hAv.ext (hNp.ext.trans hU.ext)) rfl Od (by simp only [List.nil_append,zla];omega)) ?_;rintro r w11 ⟨rfl,hU⟩;have eD:[]++varL i++varL (qal (txs L)).length++pk++qal (txs L)=qk (txs L):=by rw [qk,hLl,← epk];simp only [List.nil_append,List.append_assoc]
    rw [eD] at hU;have hdl:=qnp (L:=txs L) Oo hle;obtain ⟨F11,hSp11,hB11⟩:=hU.h;(conv=>whnf);refine zcv (qcj ob 4611686018427387904 _ F11 w11 hB11 Oo) ?_;rintro r w12 (⟨hbig,_⟩|⟨_,v2,rfl,hN2⟩)
    ·omega
    ·obtain ⟨A2,c2,ev2,_⟩:=id hN2.h;subst ev2;(conv=>whnf);exact .inr ⟨q2u hE hle,_,rfl,hN2.back (he6.trans hU.ext)⟩
 ·have h0:¬ ((chkD (txs L):Nat):Int)=0:=by omega
  refine zu ?_;exact .inl ⟨by rw [qsk hE];exact hE,by rw [qsk hE],he1⟩
open Go.RowKit Region
namespace V
structure ExtE (w w':World):Prop where
 ext:Ext w w'
 dr:w.drawn≤w'.drawn
theorem ExtE.refl (w:World):ExtE w w:=⟨Ext.refl w,Nat.le_refl _⟩
theorem ExtE.trans {a b c:World} (h:ExtE a b) (k:ExtE b c):ExtE a c:=⟨h.ext.trans k.ext,Nat.le_trans h.dr k.dr⟩
theorem ExtE.alloc {a w:World} (h:ExtE a w) (o:Obj):ExtE a (w.alloc o):=⟨h.ext.alloc o,h.dr⟩
theorem ExtE.drew (w:World):ExtE w w.drew:=⟨(Ext.refl w).drew,Nat.le_succ _⟩
end V
end Go.Proofs.YtccmcfpmknpccaaGreatDoor
namespace Go.Proofs
open YtccmcfpmknpccaaGreatDoor YtccmcfpmknpccaaGreatDoor.V
open Go.Shelf
def Tryz.srt_ren:Go.Shelf.Ren:=⟨fun|6=>123|15=>204|14=>203|28=>279|29=>259|20=>271|21=>272|22=>273|23=>274|24=>275|25=>276|26=>277|27=>278|46=>332|47=>333|48=>334|49=>335|50=>336|57=>371|n=>n,fun|22=>28|24=>45|25=>66|3=>3|39=>272|0=>0|53=>179|55=>164|4=>4|46=>408|45=>407|50=>153|5=>5|9=>9|66=>447|70=>450|76=>477|77=>58|n=>n,fun|n=>n⟩
theorem Tryz.srt:Go.Proofs.SlLaysF0.n6 Tryz.prog Tryz.srt_ren:={
 mixed:=by kernel_rfl
 f6:=⟨Tryz.f123.name,by decide,Tryz.func123.trans (congrArg some Jk)⟩
 f14:=⟨Tryz.f203.name,by decide,Tryz.func203.trans (congrArg some Jk)⟩
 f15:=Tryz.func204.trans (congrArg some Jk)
 f20:=⟨Tryz.f271.name,by decide,Tryz.func271.trans (congrArg some Jk)⟩
 f21:=⟨Tryz.f272.name,by decide,Tryz.func272.trans (congrArg some Jk)⟩
 f22:=⟨Tryz.f273.name,by decide,Tryz.func273.trans (congrArg some Jk)⟩
 f23:=⟨Tryz.f274.name,by decide,Tryz.func274.trans (congrArg some Jk)⟩
 f24:=⟨Tryz.f275.name,by decide,Tryz.func275.trans (congrArg some Jk)⟩
 f25:=⟨Tryz.f276.name,by decide,Tryz.func276.trans (congrArg some Jk)⟩
 f26:=⟨Tryz.f277.name,by decide,Tryz.func277.trans (congrArg some Jk)⟩
 f27:=⟨Tryz.f278.name,by decide,Tryz.func278.trans (congrArg some Jk)⟩
 f28:=Tryz.func279.trans (congrArg some Jk)
 f29:=Tryz.func259.trans (congrArg some Jk)
 f46:=⟨Tryz.f332.name,by decide,Tryz.func332.trans (congrArg some Jk)⟩
 f47:=Tryz.func333.trans (congrArg some Jk)
 f48:=Tryz.func334.trans (congrArg some Jk)
 f49:=⟨Tryz.f335.name,by decide,Tryz.func335.trans (congrArg some Jk)⟩
 f50:=⟨Tryz.f336.name,by decide,Tryz.func336.trans (congrArg some Jk)⟩
 f57:=⟨Tryz.f371.name,by decide,Tryz.func371.trans (congrArg some Jk)⟩
 t0:=Tryz.underlying0
 a0:=Tryz.isAgg0
 z0:=Tryz.sizeOf0
 v0:=Tryz.zeroValue0
 t3:=Tryz.underlying3
 a3:=Tryz.isAgg3
 z3:=Tryz.sizeOf3
 v3:=Tryz.zeroValue3
 t4:=Tryz.underlying4
 a4:=Tryz.isAgg4
 z4:=Tryz.sizeOf4
 v4:=Tryz.zeroValue4
 t5:=Tryz.underlying5
 a5:=Tryz.isAgg5
 z5:=Tryz.sizeOf5
 v5:=Tryz.zeroValue5
 t9:=Tryz.underlying9
 a9:=Tryz.isAgg9
 z9:=Tryz.sizeOf9
 v9:=Tryz.zeroValue9
 t22:=Tryz.underlying28
 a22:=Tryz.isAgg28
 z22:=Tryz.sizeOf28
 v22:=Tryz.zeroValue28
 t25:=Tryz.underlying66
 a25:=Tryz.isAgg66
 z25:=Tryz.sizeOf66
 v25:=Tryz.zeroValue66
 t39:=Tryz.underlying272
 a39:=Tryz.isAgg272
 z39:=Tryz.sizeOf272
 v39:=Tryz.zeroValue272
 t45:=Tryz.underlying407
 a45:=Tryz.isAgg407
 z45:=Tryz.sizeOf407
 v45:=Tryz.zeroValue407
 t46:=Tryz.underlying408
 a46:=Tryz.isAgg408
 z46:=Tryz.sizeOf408
 v46:=Tryz.zeroValue408
 t50:=Tryz.underlying153
 a50:=Tryz.isAgg153
 z50:=Tryz.sizeOf153
 v50:=Tryz.zeroValue153
 t53:=Tryz.underlying179
 a53:=Tryz.isAgg179
 z53:=Tryz.sizeOf179
 v53:=Tryz.zeroValue179
 t55:=Tryz.underlying164
 a55:=Tryz.isAgg164
 z55:=Tryz.sizeOf164
 v55:=Tryz.zeroValue164
 t66:=Tryz.underlying447
 a66:=Tryz.isAgg447
 z66:=Tryz.sizeOf447
 v66:=Tryz.zeroValue447
 t70:=Tryz.underlying450
 a70:=Tryz.isAgg450
 z70:=Tryz.sizeOf450
 v70:=Tryz.zeroValue450
 t76:=Tryz.underlying477
 a76:=Tryz.isAgg477
 z76:=Tryz.sizeOf477
 v76:=Tryz.zeroValue477
 t77:=Tryz.underlying58
 a77:=Tryz.isAgg58
 z77:=Tryz.sizeOf58
 v77:=Tryz.zeroValue58 }
end Go.Proofs
namespace Go.Proofs.YtccmcfpmknpccaaGreatDoor
open Go.RowKit
namespace V
theorem ExtE.grow {w w':World} (h:ExtE w w'):∃ q os,w'=Sort.grow (w.drewN q) os:=by
 refine ⟨w'.drawn-w.drawn,(w'.heap.toList.drop w.heap.size).toArray,?_⟩;have hh:w'.heap=w.heap++(w'.heap.toList.drop w.heap.size).toArray:=by
  rw [← Array.toList_inj,Array.toList_append];conv=>lhs;rw [← List.take_append_drop w.heap.size w'.heap.toList]
  congr 1
  apply List.ext_getElem?;intro k;rw [List.getElem?_take]
  by_cases hk:k<w.heap.size
  ·rw [if_pos hk];have:=h.ext.block k hk
   simp_all
  grind
 have hd:=h.dr;obtain ⟨h1,h2,h3,h4,h5⟩:=w';obtain ⟨e1,e2,e3,e4,e5⟩:=h.ext
 grind [Sort.grow,World.drewN]
section
variable {α:Type} [Inhabited α] {enc:α→List Value} {k:Nat}
theorem qko (henc:∀ x,(enc x).length=k) (hk:0<k) (Y:List α):(Sort.flatK enc k Y.toArray).toList=(Y.map enc).flatten:=by
 apply List.ext_getElem?;intro t
 by_cases ht:t<Y.length*k
 ·have hj:t/k<Y.length:=Nat.div_lt_of_lt_mul (by grind);have hm:t%k<k:=Nat.mod_lt _ hk;have e:t/k*k+t%k=t:=Nat.div_add_mod' t k;have h1:=qbw enc k henc Y (t/k) Y[t/k] (t%k) Js hm
  grind [Sort.flatK]
 ·rw [List.getElem?_eq_none (by simpa using ht),List.getElem?_eq_none (by rw [qbt enc k henc];omega)]
theorem q0n (henc:∀ x,(enc x).length=k) (hk:0<k) {w:World} {g:Nat} {cur:Array Value} {e:TypeId} {Y:List α} (hg:w.heap[g]?=some (.cells cur e)) (ht:cur.toList.take (Y.length*k)=(Y.map enc).flatten):Sort.HoldsK enc k w g 0 Y.toArray:=by
 intro j hj;refine ⟨?_,by simp [World.frozen?,hg]⟩;rw [qa hg,Nat.zero_add,getElem!_pos _ j hj];have hj':j<Y.length*k:=by simpa using hj
 have h1:(cur.toList.take (Y.length*k))[j]?=(Sort.flatK enc k Y.toArray).toList[j]?:=by grind [qko]
 grind
theorem qmx (w:World) (g m:Nat) (d:Array α) (os:Array Obj) (_:g<w.heap.size):Chn [g] w (sortWorldK enc k w g 0 m d os):=by
 refine ⟨rfl,rfl,rfl,?_,fun b hb hn=>?_⟩
 all_goals grind [sortWorldK,Sort.grow,Sort.putRowK,Sort.putRow,Sort.mapBlock,Sort.ahead]
theorem qmy (henc:∀ x,(enc x).length=k) (hk:0<k) {w:World} {g m:Nat} {cur:Array Value} {e:TypeId} {d:Array α} {os:Array Obj} (hg:w.heap[g]?=some (.cells cur e)) (hc:d.size*k≤cur.size) :
  ∃ cur',(sortWorldK enc k w g 0 m d os).heap[g]?=some (.cells cur' e)∧cur'.size=cur.size∧cur'.toList.take (d.size*k)=(d.toList.map enc).flatten:=by
 have hlt:=qb2 hg;refine ⟨Sort.putCells id 0 (Sort.flatK enc k d) cur,?_,by simp [Sort.putCells],?_⟩
 ·simp only [sortWorldK,Sort.grow,Sort.putRowK,Sort.putRow,Sort.mapBlock,Sort.ahead];rw [Array.getElem?_append_left (by simpa using hlt),Array.getElem?_modify,if_pos rfl,hg];rfl
 ·have hf:=qko henc hk d.toList;have e1:d.toList.toArray=d:=by simp
  rw [e1] at hf;rw [← hf];apply List.ext_getElem?;intro j;rw [List.getElem?_take]
  grind [Sort.flatK,Sort.putCells]
end
end V
open Go.RowKit V
set_option maxRecDepth 100000
def or4 (a b c d:Int):Int:=if a≠0 then a else if b≠0 then b else if c≠0 then c else d
def or4L (l:List Int):Int:=match l with
 | []=>0
 | a::l=>if a≠0 then a else or4L l
theorem q8x (a b c d:Int):or4L [a,b,c,d]=or4 a b c d:=by
 unfold or4;simp only [or4L]
 by_cases h:d≠0
 ·rw [if_pos h]
 ·rw [if_neg h,Classical.not_not.1 h]
theorem qqj (a b c d:Int) (nb:Nat) (w:World) (hb:w.heap[nb]?=some (.cells #[ii a,ii b,ii c,ii d] 3)) :
  Gv Tryz.prog 58 [.slice (some ⟨nb,0,none⟩) 4 4] w fun v w'=>v=ii (or4 a b c d)∧w'=w:=by
 have hat:∀ i (x:Int),[a,b,c,d][i]?=some x→w.cell? ⟨nb,i,none⟩=some (ii x):=fun i x hx=>by
  rw [qa hb]
  match i,hx with
  | 0,hx=>cases hx;rfl
  | 1,hx=>cases hx;rfl
  | 2,hx=>cases hx;rfl
  | 3,hx=>cases hx;rfl
  | _+4,hx=>cases hx
 refine ze Tryz.func58 Tryz.ntmps58 ?_;refine qm (fun i:Nat=>[(3,ii 0),(6,.slice (some ⟨nb,0,none⟩) 4 4),(7,ii 4),(8,ii i)]) (fun i w1=>i≤4∧or4 a b c d=or4L ([a,b,c,d].drop i)∧w1=w) (fun i=>4-i) 0 ⟨rfl,rfl,rfl,rfl,trivial⟩ ⟨by omega,(q8x a b c d).symm,rfl⟩ ?_;rintro i w1 ρ' ⟨h1,h2,rfl⟩;(conv=>whnf);refine zC (fun _=>zw ?_) (fun _=>zw ?_)
 ·have hi:i<[a,b,c,d].length:=by show i<4;omega
  have hd:[a,b,c,d].drop i=[a,b,c,d][i]::[a,b,c,d].drop (i+1):=List.drop_eq_getElem_cons hi;have hx:=hat i _ (zge hi);rw [hd,or4L] at h2;obtain ⟨x,ex⟩:∃ x,x=[a,b,c,d][i]:=⟨_,rfl⟩
  rw [← ex] at h2 hx;refine ElemV.own1 i rfl Oo ?_;refine LoadV.of hx (zw ?_);refine zC (fun _=>zu ?_) (fun _=>zu ?_)
  ·rw [if_pos Oo] at h2;exact ⟨by rw [h2],rfl⟩
  ·rw [if_neg Oo] at h2;exact ⟨i+1,⟨rfl,rfl,rfl,rfl,trivial⟩,⟨by omega,h2,rfl⟩,by omega⟩
 ·obtain rfl:i=4:=by omega
  exact ⟨by rw [h2];rfl,rfl⟩
theorem qn3 (x:Int) (w:World):Gv Tryz.prog 124 [ii x] w fun v w'=>v=.bool false∧w'=w:=by
 refine ze Tryz.func124 Tryz.ntmps124 ?_;exact ⟨congrArg Value.bool (decide_eq_false (fun h=>h rfl)),rfl⟩
def intC (x y:Int):Int:=if x<y then -1 else if y<x then 1 else 0
theorem qgq (x y:Int) (w:World):Gv Tryz.prog 59 [ii x,ii y] w fun v w'=>v=ii (intC x y)∧w'=w:=by
 refine ze Tryz.func59 Tryz.ntmps59 ?_;refine zcv (qn3 x w) ?_;rintro r w1 ⟨rfl,rfl⟩;(conv=>whnf);refine zcv (qn3 y w1) ?_;rintro r w2 ⟨rfl,rfl⟩;conv=>whnf
 (repeat' (first|refine zp ?_|refine zC (fun _=>zw ?_) (fun _=>zw ?_)))
 ·exact ⟨by rw [intC,if_pos Oo],rfl⟩
 ·exact ⟨by rw [intC,if_neg Oo,if_pos Oo],rfl⟩
 ·exact ⟨by rw [intC,if_neg Oo,if_neg Oo],rfl⟩
theorem q5v:∀ a b:LB,Lib.compareBytes a b=if a<b then -1 else if a=b then 0 else 1
 | [],[]=>rfl
 | [],_::_=>by rw [Lib.compareBytes,if_pos (List.nil_lt_cons _ _)]
 | _::_,[]=>by rw [Lib.compareBytes,if_neg (List.not_lt_nil _),if_neg Js]
 | x::a,y::b=>by
  rw [Lib.compareBytes]
  by_cases h1:x<y
  ·rw [if_pos h1,if_pos (List.cons_lt_cons_iff.2 (.inl h1))]
  ·rw [if_neg h1]
   by_cases h2:y<x
   ·rw [if_pos h2,if_neg (fun g=>(List.cons_lt_cons_iff.1 g).elim h1 fun e=>by rw [e.1] at h2;exact UInt8.lt_irrefl _ h2),if_neg (fun g=>by cases g;exact UInt8.lt_irrefl _ h2)]
   ·have e:x=y:=by
     rw [UInt8.lt_iff_toNat_lt] at h1 h2;exact UInt8.toNat_inj.1 Oo
    subst e;rw [if_neg h2,q5v a b]
    by_cases h3:a<b
    ·rw [if_pos h3,if_pos (List.cons_lt_cons_iff.2 (.inr ⟨rfl,h3⟩))]
    ·rw [if_neg h3,if_neg (fun g=>(List.cons_lt_cons_iff.1 g).elim h1 fun e=>h3 e.2)]
     by_cases h4:a=b
     ·rw [if_pos h4,if_pos (by rw [h4])]
     ·rw [if_neg h4,if_neg (fun g=>h4 (List.cons.inj g).2)]
theorem qeo (a b:ByteArray) (w:World):Gv Tryz.prog 60 [.string a,.string b] w fun v w'=>v=ii (txtC a b)∧w'=w:=by
 refine qez Jk ((Tryz.strings_Compare a b w).mono ?_);rintro e w' ⟨rfl,rfl⟩;refine ⟨_,rfl,congrArg (Value.int .i64) ?_,rfl⟩;rw [q5v,txtC]
 by_cases h1:a.data.toList<b.data.toList
 ·rw [if_pos h1,if_pos (qc6.2 h1)]
 ·rw [if_neg h1,if_neg (fun g=>h1 (qc6.1 g))]
  by_cases h2:a.data.toList=b.data.toList
  ·rw [if_pos h2,if_pos (qa9.2 (qex h2))]
  ·rw [if_neg h2,if_neg (fun g=>h2 (by rw [qa9.1 g]))]
theorem qxc (a b:TM):or4 (intC a.kind b.kind) (txtC a.text b.text) (txtC a.type b.type) (txtC a.lang b.lang)=cmpT a b:=by
 by_cases h:a.kind≠b.kind
 ·by_cases h2:a.kind<b.kind
  ·have hI:intC a.kind b.kind=-1:=by rw [intC,if_pos h2]
   rw [hI,cmpT,if_pos h,if_pos h2];rfl
  ·have hI:intC a.kind b.kind=1:=by rw [intC,if_neg h2,if_pos Oo]
   rw [hI,cmpT,if_pos h,if_neg h2];rfl
 ·have hI:intC a.kind b.kind=0:=by rw [intC,if_neg Oo,if_neg Oo]
  rw [hI,cmpT,if_neg h];rfl
theorem qdj (a b:TM) (w:World):Gv Tryz.prog 20 [qt a,qt b] w fun r w'=>r=ii (cmpT a b)∧Ext w w':=by
 refine ze Tryz.func20 Tryz.ntmps20 ?_;refine znm (Mem.nil w) ?_;intro b1 w1 hm;refine znm hm ?_;intro b2 w2 hm;refine DrawV.free rfl Jk (zw ?_);refine zd ?_;refine zLd ?_;refine zd ?_;refine zLd ?_;apply zsd
 ·intro wd hd;(conv=>whnf);refine zcv (qgq a.kind b.kind wd) ?_;rintro v w7 ⟨rfl,rfl⟩;exact ⟨xr,rfl⟩
 (conv=>whnf);refine zd ?_;refine zLd ?_;refine zd ?_;refine zLd ?_;apply zsd
 ·intro wd hd;(conv=>whnf);refine zcv (qeo a.text b.text wd) ?_;rintro v w7 ⟨rfl,rfl⟩;exact ⟨xr,rfl⟩
 (conv=>whnf);refine zd ?_;refine zLd ?_;refine zd ?_;refine zLd ?_;apply zsd
 ·intro wd hd;(conv=>whnf);refine zcv (qeo a.type b.type wd) ?_;rintro v w7 ⟨rfl,rfl⟩;exact ⟨xr,rfl⟩
 (conv=>whnf);refine zd ?_;refine zLd ?_;refine zd ?_;refine zLd ?_;apply zsd
 ·intro wd hd;(conv=>whnf);refine zcv (qeo a.lang b.lang wd) ?_;rintro v w7 ⟨rfl,rfl⟩;exact ⟨xr,rfl⟩
 (conv=>whnf);apply StepD.of (fun v wx=>∃ nb,v=.slice (some ⟨nb,0,none⟩) 4 4∧wx.heap[nb]?=some (.cells #[ii (intC a.kind b.kind),ii (txtC a.text b.text),ii (txtC a.type b.type),ii (txtC a.lang b.lang)] 3)) (fun _ _ _ h he=>let ⟨nb,h1,h2⟩:=h;⟨nb,h1,he.get h2⟩)
 ·intro wd hd;(conv=>whnf);refine ⟨fun nb wx hb hw=>?_⟩;subst hb hw;(conv=>whnf);exact ⟨(Ext.refl wd).alloc _,_,rfl,heap_alloc_new wd _⟩
 apply zsd
 ·intro wd hd;rintro v ⟨nb,rfl,hn⟩;(conv=>whnf);refine zcv (qqj _ _ _ _ nb wd hn) ?_;rintro v w7 ⟨rfl,rfl⟩;rw [qxc];exact ⟨xr,rfl⟩
 (conv=>whnf);refine zd ?_;intro wd hd;conv=>whnf
 (repeat (intro _ _;(conv=>whnf)))
 exact ⟨rfl,(hm.drew.call hd).ext⟩
def tmA (X:List TM) (i:Nat):TM:=X.getD i zTM
theorem qj0 {X:List TM} {i:Nat} (h:i<X.length):tmA X i=X[i]:=by grind [tmA]
def unqN (X:List TM):Nat→List TM
 | 0=>[]
 | p+1=>if 0<p∧qaj (tmA X p) (tmA X (p-1))=true then unqN X p else unqN X p++[tmA X p]
theorem qpe {X:List TM} {p:Nat} (h0:0<p) (h:qaj (tmA X p) (tmA X (p-1))=true):unqN X (p+1)=unqN X p:=by grind [unqN]
theorem qt8 {X:List TM} {p:Nat} (h:qaj (tmA X p) (tmA X (p-1))=false):unqN X (p+1)=unqN X p++[tmA X p]:=by grind [unqN]
theorem q48 (X:List TM):unqN X 1=[tmA X 0]:=by rfl
theorem q47 (X:List TM):∀ p,(unqN X p).length≤p
 | 0=>Nat.le_refl _
 | p+1=>by
  have:=q47 X p;rw [unqN]
  split
  ·omega
  ·rw [zla,List.length_singleton];omega
theorem qgj {X:List TM}:∀ {p:Nat},p≤X.length→(∀ i,0<i→i<p→qaj (tmA X i) (tmA X (i-1))=false)→unqN X p=X.take p
 | 0,_,_=>rfl
 | p+1,hp,h=>by
  have ih:=qgj (p:=p) Oo fun i h1 h2=>h i h1 Oo
  have e:X.take (p+1)=X.take p++[tmA X p]:=by rw [List.take_succ_eq_append_getElem Oo,qj0 Oo]
  rw [e,← ih]
  rcases Nat.eq_zero_or_pos p with rfl|h0
  ·exact q48 X
  ·exact qt8 (h p h0 Oo)
theorem qm2 {X:List TM} {t:TM}:∀ {p:Nat},t∈unqN X p↔∃ i,i<p∧tmA X i=t
 | 0=>by simp [unqN]
 | p+1=>by
  have ih:=qm2 (X:=X) (t:=t) (p:=p);rw [unqN]
  split
  ·rename_i h
   rw [ih]
   constructor
   ·rintro ⟨i,h1,h2⟩;exact ⟨i,by omega,h2⟩
   ·rintro ⟨i,h1,h2⟩
    rcases Nat.lt_or_ge i p with g|g
    ·exact ⟨i,g,h2⟩
    ·obtain rfl:i=p:=by omega
     exact ⟨i-1,by omega,by rw [← h2,qu.1 h.2]⟩
  ·rw [List.mem_append,ih,List.mem_singleton]
   constructor
   ·rintro (⟨i,h1,h2⟩|h)
    ·exact ⟨i,by omega,h2⟩
    ·exact ⟨p,by omega,h.symm⟩
   ·rintro ⟨i,h1,h2⟩
    rcases Nat.lt_or_ge i p with g|g
    ·exact .inl ⟨i,g,h2⟩
    ·obtain rfl:i=p:=by omega
     exact .inr h2.symm
def AscT (X:List TM):Prop:=∀ i j,i<j→j<X.length→¬ LtT (tmA X j) (tmA X i)
theorem qpd {X:List TM} (h:AscT X):∀ {p:Nat},p≤X.length→RiseT (unqN X p)
 | 0,_=>List.Pairwise.nil
 | p+1,hp=>by
  have ih:=qpd h (p:=p) Oo;rw [unqN]
  split
  ·exact ih
  ·rename_i hs
   refine List.pairwise_append.2 ⟨ih,List.pairwise_singleton _ _,fun u hu v hv=>?_⟩;rw [List.mem_singleton.1 hv];obtain ⟨i,hi,rfl⟩:=qm2.1 hu
   rcases LtT.tri (tmA X i) (tmA X p) with g|g|g
   ·exact g
   ·exfalso
    have hne:¬ qaj (tmA X p) (tmA X (p-1))=true:=fun e=>hs ⟨by omega,e⟩
    by_cases hi2:i=p-1
    ·subst hi2;exact hne (qu.2 g.symm)
    ·have g1:=h i (p-1) Oo Oo;have g2:=h (p-1) p Oo Oo;rw [g] at g1
     rcases LtT.tri (tmA X (p-1)) (tmA X p) with q|q|q
     ·exact g1 q
     ·exact hne (qu.2 q.symm)
     ·exact g2 q
   ·exact absurd g (h i p hi Oo)
theorem qaae {X:List TM} {t:TM}:(∃ i,i<X.length∧tmA X i=t)↔t∈X:=by
 constructor
 ·grind [qj0]
 ·intro h;obtain ⟨i,hi,e⟩:=List.mem_iff_getElem.1 h;exact ⟨i,hi,by rw [qj0 hi,e]⟩
theorem q49 {X:List TM} {qs:List Q4} (h:AscT X) (hp:∀ t,t∈X↔t∈trms qs):unqN X X.length=tmsQ qs:=
 RiseT.ext (qpd h znr) (qeb qs) fun y=>by
  rw [qm2,qaae,hp,qdo,qs8]
end Go.Proofs.YtccmcfpmknpccaaGreatDoor
