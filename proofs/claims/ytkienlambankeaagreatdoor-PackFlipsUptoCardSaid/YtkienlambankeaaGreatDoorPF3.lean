/- Lemmas and contracts of functions on the way to the law's card (part 3 of 9). -/
import Derived.Test.YtkienlambankeaaGreatDoorPF2
import Derived.Lib.Replace
import Derived.Lib.CutLaws
import Derived.Lib.ReplaceLaws
import Derived.Laws.StructEq
import Derived.Laws.Small
import Derived.LaidEql
import Derived.Stop.Asserts
import Derived.RowKitTokens
import Derived.Lib.BitFns
namespace Go.Proofs.YtkienlambankeaaGreatDoor
set_option maxHeartbeats 8000000
open Go.RowKit
namespace V
def encB (c:UInt8):List Value:=[.int .u8 c.toNat]
structure BS (w:World) (v:Value) (l:LB):Prop where
 h:∃ A c,v=.slice A l.length c∧l.length≤c∧SlAt encB 1 w A l
theorem BS.ext {w w':World} {v:Value} {l:LB} (h:BS w v l) (he:Ext w w'):BS w' v l:=by
 obtain ⟨A,c,h1,h2,h3⟩:=h;exact ⟨A,c,h1,h2,h3.ext he⟩
theorem BS.nil (w:World):BS w (.slice none 0 0) []:=⟨none,0,rfl,by simp,⟨fun h=>absurd rfl h⟩⟩
theorem SlAt.cut {α:Type} {enc:α→List Value} {size:Nat} {w:World} {A A':oA} {l:List α} {lo hi m:Nat} (h:SlAt enc size w A l) (h1:lo≤hi) (h2:hi≤l.length) (h3:hi≤m)
  (e:A'=if m=lo then A else A.map (·.add (lo*size))):SlAt enc size w A' ((l.drop lo).take (hi-lo)):=by
 refine ⟨fun hne=>?_⟩;have hlt:lo<hi:=by
  rcases Nat.lt_or_ge lo hi with h|h
  ·exact h
  ·exact absurd (by rw [show hi-lo=0 by omega,List.take_zero]) hne
 have hn:l≠[]:=by rintro rfl;simp at h2;omega
 obtain ⟨b,off,rfl,hc⟩:=h.at_ hn;rw [if_neg Oo] at e;simp only [Option.map_some,q8] at e;refine ⟨b,off+lo*size,e,fun j x hx=>?_⟩;have hj:j<hi-lo:=by
  have:=(List.getElem?_eq_some_iff.1 hx).1;simp at this;omega
 have hx':l[lo+j]?=some x:=by
  rw [List.getElem?_take,if_pos hj,List.getElem?_drop] at hx;exact hx
 have:=hc (lo+j) x hx'
 rwa [Nat.add_mul,← Nat.add_assoc] at this
theorem SliceV.bs {w:World} {A:oA} {n c:Nat} {lo hi mx:Option Value} {l:LB} {K:Value→Prop} (hA:SlAt encB 1 w A l) (hl:l.length=n) (a b m:Nat) (h1:bnd lo 0 a) (h2:bnd hi n b) (h3:bnd mx c m) (hab:a≤b) (hbn:b≤n) (hbm:b≤m) (hm:m≤c)
  (hs:mx.isSome=true→hi.isSome=true) (hk:∀ A',SlAt encB 1 w A' ((l.drop a).take (b-a))→K (.slice A' (b-a) (m-a))):SliceV 1 A n c lo hi mx K:=
 ⟨a,b,m,h1,h2,h3,hab,hbm,hm,hs,fun A' e=>hk A' (hA.cut hab Oo hbm e)⟩
theorem ElemV.bs {w:World} {A:oA} {n:Nat} {l:LB} {i:Int} {K:Value→Prop} (hA:SlAt encB 1 w A l) (hl:l.length=n) (j:Nat) (e:i=(j:Int)) (hj:j<n)
  (hk:∀ b off,w.cell? ⟨b,off,none⟩=some (.int .u8 (l[j]'(hl ▸ hj)).toNat)→K (.pointer (some ⟨b,off,none⟩))):ElemV A i n 1 K:=
 ElemV.sl hA hl j e hj fun b off hc=>hk b off (by have:=hc 0 _ rfl;rwa [Nat.add_zero] at this)
structure Upd (w w':World) (b:Nat) (o:Obj):Prop where
 os:w'.os=w.os
 tape:w'.tape=w.tape
 output:w'.output=w.output
 size:w.heap.size≤w'.heap.size
 block:∀ k,k<w.heap.size→k≠b→w'.heap[k]?=w.heap[k]?
 at_:w'.heap[b]?=some o
theorem Upd.refl {w:World} {b:Nat} {o:Obj} (h:w.heap[b]?=some o):Upd w w b o:=⟨rfl,rfl,rfl,Nat.le_refl _,fun _ _ _=>rfl,h⟩
theorem Upd.of {w w':World} {b:Nat} {o:Obj} (h:w.heap[b]?=some o) (he:Ext w w'):Upd w w' b o:=⟨he.os,he.tape,he.output,he.size,fun k hk _=>he.block k hk,he.get h⟩
theorem Upd.set {w w':World} {b off:Nat} {cs:Array Value} {t:TypeId} {fr:Nat × Nat} {v:Value} (h:w.heap[b]?=some (.cells cs t fr)) (hw:w'=w.setCell ⟨b,off,none⟩ v):Upd w w' b (.cells (cs.setIfInBounds off v) t fr):=by
 subst hw;exact ⟨rfl,rfl,rfl,by simp [World.setCell],fun k _ hk=>Below.heap_setCell _ _ _ _ hk,heap_setCell h⟩
theorem Upd.trans {a b c:World} {k:Nat} {o o':Obj} (h:Upd a b k o) (h':Upd b c k o'):Upd a c k o':=
 ⟨h'.os.trans h.os,h'.tape.trans h.tape,h'.output.trans h.output,Nat.le_trans h.size h'.size,fun j hj hne=>(h'.block j (Nat.lt_of_lt_of_le hj h.size) hne).trans (h.block j hj hne),h'.at_⟩
theorem Upd.ext {w0 w w':World} {b:Nat} {o:Obj} (h:Upd w w' b o) (he:Ext w0 w) (hb:w0.heap.size≤b):Ext w0 w':=
 Below.trans he ⟨h.os,h.tape,h.output,h.size,fun k hk=>h.block k (Nat.lt_of_lt_of_le hk he.size) Oo⟩
theorem Mem.upd {w0 w w':World} {L:List (Nat × Obj)} {i b:Nat} {o o':Obj} (h:Mem w0 w L) (hi:L[i]?=some (b,o)) (hu:Upd w w' b o'):Mem w0 w' (L.set i (b,o')):=by
 have hm:(b,o)∈L:=zmg hi;have hil:i<L.length:=(List.getElem?_eq_some_iff.1 hi).1;have hib:L[i]=(b,o):=(List.getElem?_eq_some_iff.1 hi).2;have hn:((L.set i (b,o')).map (·.1))=L.map (·.1):=by
  rw [List.map_set];apply List.ext_getElem?;intro j;rw [List.getElem?_set]
  split
  ·rename_i e;subst e
   rw [List.getElem?_map,hi];simp [hil]
  ·rfl
 refine ⟨hu.ext h.ext (h.own _ hm).1,?_,by rw [hn];exact h.nodup⟩;intro x hx
 rcases List.mem_or_eq_of_mem_set hx with hx' | rfl
 ·refine ⟨(h.own x hx').1,?_⟩
  by_cases e:x.1=b
  ·obtain ⟨j,hj,hje⟩:=List.mem_iff_getElem.1 hx
   by_cases hij:j=i
   ·subst hij;rw [List.getElem_set_self] at hje;rw [← hje];exact hu.at_
   ·have h1:(L.map (·.1))[j]'(by simpa using hj)=b:=by
     have:(L.set i (b,o'))[j]=L[j]'(by simpa using hj):=List.getElem_set_ne (fun e=>hij e.symm) _;rw [List.getElem_map,← this,hje,e]
    have h2:(L.map (·.1))[i]'(by simpa using hil)=b:=by rw [List.getElem_map,hib]
    have:=(List.getElem_inj h.nodup).1 (h1.trans h2.symm);exact absurd this hij
  ·rw [hu.block _ (h.lt (b:=x.1) (o:=x.2) hx') e];exact (h.own x hx').2
 ·exact ⟨(h.own (b,o) hm).1,hu.at_⟩
end V
open Go.ChangeShapes Go.WideShapes Go.RowKit V
set_option maxRecDepth 100000
namespace V
section
variable {H:Type} {enc:TypeId × Value→H} {P:Program} {w:World} {t:TypeId}
theorem Opn.sliceR {α:Type} [Inhabited α] {en:α→List Value} {R:α→Prop} {size e:Nat} {c:Value} (ht:P.underlying t=some (.slice e)) (hc:P.cellsOf e=size) (hs0:0<size)
  (hen:∀ x,(en x).length=size) (each:∀ cs,Opn enc P w e cs→∃ x,cs=en x∧R x) (h:Opn enc P w t [c]) :
  ∃ (A:oA) (cap:Nat) (l:List α),c=.slice A l.length cap∧l.length≤cap∧cap*P.bytesOf e≤140737488351232∧(∀ x∈l,R x)∧SlAt en size w A l:=by
 obtain ⟨n,d,ps,h,hw⟩:=h;have e2:reachBytes=140737488351232:=rfl
 rcases Deep.open_slice ht h with ⟨h1,_⟩|⟨a,len,cap,m,n,D,Pl,h1,_,hlc,hcm,hm,hd,hx⟩
 ·refine ⟨none,0,[],by simpa using h1,by simp,by simp,by simp,⟨fun h=>absurd rfl h⟩⟩
 ·simp only [if_true] at hm;simp only [Prod.mk.injEq] at hd;obtain ⟨rfl,_⟩:=hd;rw [DataW.weights,ht] at hw;simp only [List.length_map,List.length_range] at hw;have hcap:=hw _ mh;rw [show len+(m-len)=cap by omega] at hcap;obtain ⟨X,hX⟩:=Deep.choose_lt (n:=len) (p:=fun i (x:α)=>w.cells? 0 (a.add (i*P.cellsOf e)) (P.cellsOf e)=some (en x)∧R x) (fun i hi=>by
   obtain ⟨cs,h2,h3⟩:=hx i Oo;obtain ⟨x,rfl,hr⟩:=each cs ⟨n,D i,Pl i,h3,fun k hk=>hw k (zmc (List.mem_append_left _ (qde hk _ (List.mem_map.2 ⟨i,List.mem_range.2 hi,rfl⟩))))⟩;exact ⟨x,h2,hr⟩)
  refine ⟨some a,cap,(List.range len).map X,by simpa using h1,by simp;omega,by omega,fun s hs=>?_,⟨fun hn=>?_⟩⟩
  ·obtain ⟨i,hi,rfl⟩:=List.mem_map.1 hs;exact (hX i (List.mem_range.1 hi)).2
  ·have hpos:0<len:=by
    rcases Nat.eq_zero_or_pos len with h0|h0
    ·exact absurd (by rw [h0];rfl) hn
    ·exact h0
   have hs:a=⟨a.block,a.off,none⟩:=by
    obtain ⟨_,_,h2⟩:=World.cells?_some (hX 0 hpos).1;have h3:=h2 0 Oo;rw [zge (by rw [hen];omega)] at h3;refine qpo (w:=w) (v:=(en (X 0))[0]'(by rw [hen];omega)) ?_
    simpa [Addr.add] using h3
   refine ⟨a.block,a.off,by rw [← hs],fun j s hj k v hv=>?_⟩;have hjl:j<len:=by
    have:=(List.getElem?_eq_some_iff.1 hj).1
    simpa using this
   rw [List.getElem?_map,List.getElem?_range hjl] at hj;simp only [Option.map_some,Option.some.injEq] at hj;subst hj;obtain ⟨_,_,h2⟩:=World.cells?_some (hX j hjl).1;have hk:k<size:=by rw [← hen (X j)];exact (List.getElem?_eq_some_iff.1 hv).1
   have h3:=h2 k Oo;rw [hv,hs,q8,q8,hc] at h3;exact h3
end
end V
open Go.RowKit V
def escL:LB→LB
 | []=>[]
 | c::r=>if c=0 then 0::1::escL r else c::escL r
theorem qje (r:LB):escL (0::r)=0::1::escL r:=by rw [escL,if_pos rfl]
theorem qha {c:UInt8} (r:LB) (h:c≠0):escL (c::r)=c::escL r:=by rw [escL,if_neg h]
theorem q2f (l:LB):(escL l).length≤2*l.length:=by
 induction l with
 | nil=>exact Nat.le_refl _
 | cons c r ih=>
  rw [escL]
  split<;>simp only [List.length_cons]<;>omega
theorem q62 (l:LB):l.length≤(escL l).length:=by
 induction l with
 | nil=>exact Nat.le_refl _
 | cons c r ih=>
  rw [escL]
  split<;>simp only [List.length_cons]<;>omega
section
variable {old new:LB}
theorem qfd {s:LB} (ho:(old==new)=false) (h:Lib.index s old=-1):Lib.replaceAll s old new=s:=by
 unfold Lib.replaceAll Lib.replace;rw [ho];simp only [Bool.false_eq_true,if_false,Lib.replaceNum,Int.reduceNeg,Int.reduceLT,true_or,if_true,Lib.count_miss h,Lib.replaceK]
theorem qgo {s:LB} {i:Nat} (ho:(old==new)=false) (hn:old≠[]) (h:Lib.index s old=i):Lib.replaceAll s old new=s.take i++new++Lib.replaceAll (s.drop (i+old.length)) old new:=by
 have hc:=Lib.count_hit hn h;unfold Lib.replaceAll Lib.replace;rw [ho];simp only [Bool.false_eq_true,if_false,Lib.replaceNum,Int.reduceNeg,Int.reduceLT,true_or,if_true];rw [hc,Nat.add_comm 1,Lib.replaceK_hit _ _ _ _ i h]
theorem qz2 {s:LB} (ho:(old==new)=false) (hn:old≠[]) (h:old.isPrefixOf s=true):Lib.replaceAll s old new=new++Lib.replaceAll (s.drop old.length) old new:=by
 have hi:Lib.index s old=((0:Nat):Int):=Lib.index_first (Nat.zero_le _) (by simpa [Lib.occAt] using h) (fun j hj=>by omega);rw [qgo ho hn hi];simp
theorem qz3 (ho:(old==new)=false) (hn:old≠[]):Lib.replaceAll [] old new=[]:=qfd ho (by cases old with|nil=>exact absurd rfl hn|cons _ _=>rfl)
theorem qty {c:UInt8} {r:LB} (ho:(old==new)=false) (hn:old≠[]) (h:old.isPrefixOf (c::r)=false):Lib.replaceAll (c::r) old new=c::Lib.replaceAll r old new:=by
 have hix:Lib.index (c::r) old=if Lib.index r old==-1 then -1 else Lib.index r old+1:=by rw [Lib.index,h];simp
 by_cases hm:Lib.index r old=-1
 ·rw [qfd ho hm,qfd ho (by rw [hix,hm];rfl)]
 ·obtain ⟨i,hi⟩:∃ i:Nat,Lib.index r old=i:=⟨(Lib.index r old).toNat,by have:=Lib.index_ge r old;omega⟩
  have hi':Lib.index (c::r) old=((i+1:Nat):Int):=by
   rw [hix,hi];have:((i:Int)==-1)=false:=by rw [beq_eq_false_iff_ne];omega
   rw [this];simp
  rw [qgo ho hn hi,qgo ho hn hi'];have e:i+1+old.length=i+old.length+1:=by omega
  rw [e];simp
end
theorem q8j (l:LB):Lib.replaceAll l [0] [0,1]=escL l:=by
 induction l with
 | nil=>exact qz3 Od Js
 | cons c r ih=>
  by_cases h:c=0
  ·subst h;rw [qz2 Od Js (by rfl),qje];simp [ih]
  ·rw [qty Od Js (by simp [List.isPrefixOf,Ne.symm h]),qha _ h,ih]
theorem qj1 (l:LB):Lib.replaceAll (escL l) [0,1] [0]=l:=by
 induction l with
 | nil=>exact qz3 Od Js
 | cons c r ih=>
  by_cases h:c=0
  ·subst h;rw [qje,qz2 Od Js (by rfl)];simp [ih]
  ·rw [qha _ h,qty Od Js (by simp [List.isPrefixOf,Ne.symm h]),ih]
theorem qxk {s sep:LB} {i:Nat} (hi:i≤s.length) (h:Lib.occAt s sep i=true) (hn:∀ j,j<i→Lib.occAt s sep j=false):Lib.cut s sep=(s.take i,s.drop (i+sep.length),true):=by
 rw [Lib.cut,Lib.index_first hi h hn,if_pos Oo];simp
theorem qy8 {a b:LB} {sep:LB}:Lib.occAt (a++(sep++b)) sep a.length=true:=by
 unfold Lib.occAt;rw [List.drop_left];exact List.isPrefixOf_iff_prefix.2 (List.prefix_append _ _)
theorem q63 (l b:LB):∀ j,j<(escL l).length→Lib.occAt (escL l++([0,0]++b)) [0,0] j=false:=by
 induction l with
 | nil=>intro j hj;simp [escL] at hj
 | cons c r ih=>
  intro j hj
  by_cases h:c=0
  ·subst h;rw [qje] at hj ⊢
   match j with
   | 0=>rfl
   | 1=>rfl
   | j+2=>exact ih j (by simpa using hj)
  ·rw [qha _ h] at hj ⊢
   match j with
   | 0=>simp [Lib.occAt,List.isPrefixOf,Ne.symm h]
   | j+1=>exact ih j (by simpa using hj)
theorem qqb (l b:LB):Lib.cut (escL l++([0,0]++b)) [0,0]=(escL l,b,true):=by
 rw [qxk (i:=(escL l).length) Js qy8 (q63 l b)];have e:escL l++([0,0]++b)=(escL l++[0,0])++b:=by rw [List.append_assoc]
 rw [List.take_left,e];have e2:(escL l).length+([0,0]:LB).length=(escL l++[0,0]).length:=by simp
 rw [e2,List.drop_left]
theorem qlz (a b:LB) (h:∀ c∈a,c≠0):Lib.cut (a++([0]++b)) [0]=(a,b,true):=by
 rw [qxk (i:=a.length) Js qy8 (fun j hj=>by
  unfold Lib.occAt;rw [List.drop_append_of_le_length Oo,List.drop_eq_getElem_cons hj,List.cons_append,List.isPrefixOf,beq_eq_false_iff_ne.2 (Ne.symm (h _ (List.getElem_mem hj)))];rfl)]
 have e:a++([0]++b)=(a++[0])++b:=by rw [List.append_assoc]
 rw [List.take_left,e];have e2:a.length+([0]:LB).length=(a++[0]).length:=by simp
 rw [e2,List.drop_left]
def qba (t:TM):LB:=if t.kind=3 then escL t.text.data.toList++([0,0]++(t.type.data.toList++([0]++t.lang.data.toList))) else t.text.data.toList
structure ReadsAs (kind:Int) (s:LB) (t:TM):Prop where
 kind:t.kind=kind
 ok:qbr t=0
 entry:qba t=s
theorem qye {s:ByteArray} (h:iriE s=0):∀ c∈s.data.toList,c≠0:=by
 rintro c hc rfl;have hr:refE s=0:=by
  by_cases h1:refE s=0
  ·exact h1
  ·rw [iriE,if_pos h1] at h;exact h
 unfold refE at hr
 split at hr
 ·cases hr
 split at hr
 ·cases hr
 split at hr
 ·cases hr
 rename_i h3
 exact h3 (List.any_eq_true.2 ⟨0,hc,by simp [barB]⟩)
theorem ReadsAs.plain {kind:Int} {s:LB} {t:TM} (h:ReadsAs kind s t) (hk:kind≠3):t.text.data.toList=s∧t.type=⟨#[]⟩∧t.lang=⟨#[]⟩:=by
 have hk':t.kind≠3:=by rw [h.kind];exact hk
 have h1:=h.ok;have h2:=h.entry;rw [qba,if_neg hk'] at h2;rw [qbr] at h1
 split at h1
 ·split at h1
  ·cases h1
  ·rename_i h3
   refine ⟨h2,?_,?_⟩
   ·have:¬ seq t.type ⟨#[]⟩=false:=fun e=>h3 (.inl e)
    exact qar.1 (by simpa using this)
   ·have:¬ seq t.lang ⟨#[]⟩=false:=fun e=>h3 (.inr e)
    exact qar.1 (by simpa using this)
 ·cases h1
theorem ReadsAs.lit {s:LB} {t:TM} (h:ReadsAs 3 s t):s=escL t.text.data.toList++([0,0]++(t.type.data.toList++([0]++t.lang.data.toList)))∧∀ c∈t.type.data.toList,c≠0:=by
 have h1:=h.ok;have h2:=h.entry;rw [qba,if_pos h.kind] at h2;refine ⟨h2.symm,qye ?_⟩;rw [qbr,if_neg (by rw [h.kind];decide),if_pos h.kind,litE] at h1
 split at h1
 ·cases h1
 split at h1
 ·cases h1
 split at h1
 ·rename_i h3;exact absurd h1 h3
 ·rename_i h3;omega
theorem q2e {a b:LB} (h:escL a=escL b):a=b:=by
 rw [← qj1 a,← qj1 b,h]
theorem qct {a b:ByteArray} (h:a.data.toList=b.data.toList):a=b:=by
 cases a;cases b;simp only [ByteArray.mk.injEq];exact Array.toList_inj.1 h
theorem ReadsAs.unique {kind:Int} {s:LB} {t u:TM} (h:ReadsAs kind s t) (g:ReadsAs kind s u):t=u:=by
 obtain ⟨tk,tt,ty,tl⟩:=t;obtain ⟨uk,ut,uy,ul⟩:=u;have e1:tk=uk:=h.kind.trans g.kind.symm;subst e1
 by_cases hk:kind=3
 ·subst hk;obtain ⟨h1,h2⟩:=h.lit;obtain ⟨g1,g2⟩:=g.lit;dsimp only at h1 h2 g1 g2;have hc:=qqb tt.data.toList (ty.data.toList++([0]++tl.data.toList));have gc:=qqb ut.data.toList (uy.data.toList++([0]++ul.data.toList));rw [← h1,g1,gc] at hc;simp only [Prod.mk.injEq,and_true] at hc;obtain ⟨q1,q2⟩:=hc;have hz:=qlz ty.data.toList tl.data.toList h2;rw [← q2,qlz uy.data.toList ul.data.toList g2] at hz;simp only [Prod.mk.injEq,and_true] at hz;rw [qct (q2e q1.symm),qct hz.1.symm,qct hz.2.symm]
 ·obtain ⟨h1,h2,h3⟩:=h.plain hk;obtain ⟨g1,g2,g3⟩:=g.plain hk;dsimp only at h1 h2 h3 g1 g2 g3;rw [qct (h1.trans g1.symm),h2,h3,g2,g3]
open Classical in
noncomputable def qgn (kind:Int) (s:LB):Option TM:=if h:∃ t,ReadsAs kind s t then some h.choose else none
theorem qld {kind:Int} {s:LB} {t:TM} (h:ReadsAs kind s t):qgn kind s=some t:=by
 have hx:∃ t,ReadsAs kind s t:=⟨t,h⟩
 rw [qgn,dif_pos hx,ReadsAs.unique hx.choose_spec h]
theorem qvu {kind:Int} {s:LB} (h:∀ t,¬ ReadsAs kind s t):qgn kind s=none:=by
 rw [qgn,dif_neg (fun ⟨t,ht⟩=>h t ht)]
theorem qrc {kind:Int} {s:LB} {t:TM} (h:qgn kind s=some t):ReadsAs kind s t:=by
 unfold qgn at h
 split at h
 ·rename_i hx
  cases h;exact hx.choose_spec
 ·cases h
theorem ReadsAs.size {kind:Int} {s:LB} {t:TM} (h:ReadsAs kind s t):t.text.size≤s.length∧t.type.size≤s.length∧t.lang.size≤s.length:=by
 by_cases hk:kind=3
 ·subst hk;obtain ⟨h1,_⟩:=h.lit;have:=q62 t.text.data.toList;have e1:t.text.data.toList.length=t.text.size:=rfl;have e2:t.type.data.toList.length=t.type.size:=rfl;have e3:t.lang.data.toList.length=t.lang.size:=rfl;rw [h1];simp only [zla,List.length_cons,List.length_nil];omega
 ·obtain ⟨h1,h2,h3⟩:=h.plain hk;rw [← h1,h2,h3];exact ⟨Nat.le_refl _,Nat.zero_le _,Nat.zero_le _⟩
theorem q3p {kind:Int} {s:LB} {t:TM} (h:qgn kind s=some t) (hs:s.length≤262144) (hk:InR .i64 kind):TermOk t:=by
 have hr:=qrc h;obtain ⟨h1,h2,h3⟩:=hr.size;exact ⟨by rw [hr.kind];exact hk,by omega,by omega,by omega⟩
theorem qbf (s:ByteArray) (a b:Nat):(s.extract a b).data.toList=(s.data.toList.drop a).take (b-a):=by
 simp [ByteArray.data_extract]
theorem q17 (s sep:ByteArray) (w:World) (hM:MaxLenAt w) (hs:s.size≤67108864) (h1:1≤sep.size):Gv Tryz.prog 213 [.string s,.string sep] w fun r w'=>r=ii (Lib.countB s sep)∧w'=w:=by
 obtain ⟨m,hm⟩:=hM;exact qel Jk ((Tryz.strings_Count_any s sep m w Oo hm h1).mono fun e w' ⟨he,hw⟩=>⟨_,he,rfl,hw⟩)
theorem q2q (s sep:ByteArray) (w:World) (hM:MaxLenAt w) (hs:s.size≤67108864):Gv Tryz.prog 215 [.string s,.string sep] w fun r w'=>r=ii (Lib.indexB s sep)∧w'=w:=by
 obtain ⟨m,hm⟩:=hM;exact qel Jk ((Tryz.strings_Index s sep m w Oo hm).mono fun e w' ⟨he,hw⟩=>⟨_,he,rfl,hw⟩)
theorem q44 (s sep:ByteArray) (w:World) (hM:MaxLenAt w) (hs:s.size≤67108864):Gv Tryz.prog 169 [.string s,.string sep] w fun r w'=>
  r=.tuple #[.string ⟨(Lib.cut s.data.toList sep.data.toList).1.toArray⟩,.string ⟨(Lib.cut s.data.toList sep.data.toList).2.1.toArray⟩,.bool (Lib.cut s.data.toList sep.data.toList).2.2]∧Ext w w':=by
 obtain ⟨m,hm⟩:=hM;refine qel Jk ((Tryz.strings_Cut s sep m w Oo hm).mono fun e w' ⟨he,n,hw⟩=>⟨_,he,rfl,?_⟩);subst hw;exact ⟨rfl,rfl,rfl,Nat.le_refl _,fun _ _=>rfl⟩
theorem q67 (b n:Nat) (w0 w:World) (h:Mem w0 w [(b,.cells #[.pointer none,.slice none 0 0] 299)]) (hn:n≤281474976710656) :
  Gv Tryz.prog 214 [pp b,ii n] w fun r w'=>r=.tuple #[]∧Bld w0 w' b [] []:=by
 have ho:=h.own _ mh;refine qel Jk ((Tryz.Builder_Grow_fresh w0.heap.size b n w ho.1 ho.2 h.ext.size hn).mono fun e w' ⟨he,⟨h1,v,h2,h3,h4⟩,h5⟩=>⟨_,he,rfl,⟨_,v,.inr rfl,⟨⟨Below.trans h.ext h5,?_,by simp⟩,h3,?_⟩⟩⟩)
 ·intro x hx;simp only [List.mem_cons,List.not_mem_nil,or_false] at hx;subst hx;exact ⟨h1,h2⟩
 ·intro x hx;simp only [List.mem_cons,List.not_mem_nil,or_false] at hx;subst hx;exact h4
theorem qqk (s:ByteArray):s.extract 0 s.size=s:=qct (by rw [qbf];simp;exact List.take_of_length_le znr)
theorem qrd (s old new:ByteArray) (w:World) (hM:MaxLenAt w) (hne:seq old new=false) (hs:s.size≤67108864) (ho:(old.size=1∧new.size=2)∨(old.size=2∧new.size=1)) :
  Gv Tryz.prog 178 [.string s,.string old,.string new,ii (-1)] w fun r w'=>r=.string ⟨(Lib.replaceAll s.data.toList old.data.toList new.data.toList).toArray⟩∧Ext w w':=by
 have h1:1≤old.size:=by omega
 have hoe:(old.data.toList==new.data.toList)=false:=by
  rw [beq_eq_false_iff_ne];intro e;have:old=new:=qct e;rw [qar.2 this] at hne;cases hne
 have hon:old.data.toList≠[]:=by
  intro e;have:old.data.toList.length=0:=by rw [e];rfl
  have h2:old.data.toList.length=old.size:=rfl;omega
 refine ze Tryz.func178 Tryz.ntmps178 ?_;rw [hne];refine zv ?_;refine zcv (q17 s old w hM hs h1) ?_;rintro v w' ⟨rfl,rfl⟩;(conv=>whnf);have hKo:=Lib.countB_mul_le old h1 s.size s znr;obtain ⟨K,eK⟩:∃ K,K=Lib.countB s old:=⟨_,rfl⟩
 rw [← eK] at hKo ⊢
 by_cases hK:K=0
 ·have hr:Lib.replaceAll s.data.toList old.data.toList new.data.toList=s.data.toList:=by
   rcases Lib.indexB_cases s old with hix|⟨i,hix,_⟩
   ·exact qfd hoe hix
   ·have:=Lib.countB_hit s old i h1 hix;omega
  refine zv ?_;exact ⟨by rw [hr],xr⟩
 refine zv ?_;refine znm (Mem.nil w') fun b w1 hm=>zw ?_;have hK1:K≤s.size:=Nat.le_trans (Nat.le_mul_of_pos_right K h1) hKo;obtain ⟨d,hd,hd1,hd2⟩:∃ d:Int,(K:Int)*((new.size:Int)-(old.size:Int))=d∧-(K:Int)≤d∧d≤K:=by
  rcases ho with ⟨h1,h2⟩|⟨h1,h2⟩
  ·exact ⟨K,by rw [h1,h2];omega,by omega,by omega⟩
  ·exact ⟨-K,by rw [h1,h2];omega,by omega,by omega⟩
 refine Obl.mk ⟨by omega,by omega⟩ (zw ?_);rw [hd];refine Obl.mk ⟨by omega,by omega⟩ (zw ?_);refine Obl.mk ⟨by omega,by omega⟩ (zw ?_);obtain ⟨M,eM⟩:∃ M:Nat,(s.size:Int)+d=M:=⟨((s.size:Int)+d).toNat,by omega⟩
 rw [eM];refine zcv (q67 b M w' w1 hm Oo) ?_;rintro r w2 ⟨rfl,hB⟩;refine zu ?_;refine qu (fun x:Nat × Nat × LB=>[(0,.string s),(1,.string old),(2,.string new),(10,pp b),(11,ii x.2.1),(52,ii K),(53,ii x.1)])
  (fun x w''=>x.1≤K∧x.2.1≤s.size∧x.1+Lib.countB (s.extract x.2.1 s.size) old=K∧x.2.2++Lib.replaceAll (s.data.toList.drop x.2.1) old.data.toList new.data.toList=Lib.replaceAll s.data.toList old.data.toList new.data.toList∧x.2.2.length≤2*x.2.1∧Bld w' w'' b x.2.2 []) (fun x=>K-x.1) (0,0,[])
  ⟨rfl,rfl,rfl,rfl,rfl,rfl,rfl,trivial⟩ ⟨by simp,by simp,by rw [qqk,← eK];omega,by simp,by simp,hB⟩ ?_
 clear hB;rintro ⟨j,p,l⟩ w3 ρ' ⟨hj,hp,hc,hr,hl,hB⟩;dsimp only at hj hp hc hr hl hB ⊢;have hrl:(s.extract p s.size).data.toList=s.data.toList.drop p:=by
  rw [qbf,List.take_of_length_le];have:s.data.toList.length=s.size:=rfl;simp only [zld];omega
 obtain ⟨r,er⟩:∃ r,r=s.extract p s.size:=⟨_,rfl⟩
 have hrs:r.size=s.size-p:=by
  have e1:r.size=r.data.toList.length:=rfl;have e2:s.data.toList.length=s.size:=rfl;rw [e1,er,hrl,zld,e2]
 rw [← er] at hc hrl;(conv=>whnf);refine zC (fun _=>zw ?_) (fun _=>zw ?_)
 ·refine SliceS.at_ p s.size rfl rfl hp znr ?_;rw [← er];(conv=>whnf);refine zcv (q2q r old w3 (hM.ext hB.ext) Oo) ?_;rintro v w4 ⟨rfl,rfl⟩
  rcases Lib.indexB_cases r old with hix|⟨i,hix,hio⟩
  ·have:=Lib.countB_miss r old hix;omega
  rw [hix];have hhit:=Lib.countB_hit r old i h1 hix;have hrx:r.extract (i+old.size) r.size=s.extract (p+i+old.size) s.size:=by
   refine qct ?_;rw [qbf,qbf,hrl,List.drop_drop,show p+(i+old.size)=p+i+old.size by omega,show r.size-(i+old.size)=s.size-(p+i+old.size) by omega]
  rw [hrx] at hhit;have hrep:=qgo hoe hon (s:=s.data.toList.drop p) (i:=i) (by rw [← hrl];exact hix);refine zu ?_;refine SliceS.at_ p (p+i) rfl (by show _=_;omega) Oo Oo (zw ?_);refine zcv (qc1 b l (s.extract p (p+i)) w' w4 [] hB (fun x hx=>by cases hx) (by simp [ByteArray.size_extract];omega)) ?_;rintro v w5 ⟨rfl,hB⟩;have hwl:(s.extract p (p+i)).data.toList.length=i:=by
   have:s.data.toList.length=s.size:=rfl;rw [qbf,List.length_take,zld];omega
  (conv=>whnf);refine zcv (qc1 b (l++(s.extract p (p+i)).data.toList) new w' w5 [] hB (fun x hx=>by cases hx) (by rw [zla];omega)) ?_;rintro v w6 ⟨rfl,hB⟩;refine zu ?_;have hnl:new.data.toList.length=new.size:=rfl;refine ⟨(j+1,p+i+old.size,l++(s.extract p (p+i)).data.toList++new.data.toList),⟨rfl,rfl,rfl,rfl,by show ii _=ii _;congr 1,rfl,rfl,trivial⟩,⟨by simp only;omega,by simp only;omega,by simp only;omega,?_,by simp only [zla];omega,hB⟩,by simp only;omega⟩;rw [← hr,hrep,qbf,show p+i-p=i by omega,List.drop_drop,show p+(i+old.data.toList.length)=p+i+old.size from by show p+(i+old.size)=_;omega];simp [List.append_assoc]
 ·obtain rfl:j=K:=by omega
  have hix:Lib.indexB r old=-1:=by
   rcases Lib.indexB_cases r old with hix|⟨i,hix,hio⟩
   ·exact hix
   ·have:=Lib.countB_hit r old i h1 hix;omega
  have hrep:=qfd hoe (s:=s.data.toList.drop p) (by rw [← hrl];exact hix);refine SliceS.at_ p s.size rfl rfl hp znr ?_;rw [← er];(conv=>whnf);refine zcv (qc1 b l r w' w3 [] hB (fun x hx=>by cases hx) Oo) ?_;rintro v w4 ⟨rfl,hB⟩;(conv=>whnf);refine zcv (qg3 b (l++r.data.toList) w' w4 [] hB) ?_;rintro v w5 ⟨rfl,he⟩;(conv=>whnf);exact ⟨by rw [← hr,hrep,hrl],he⟩
theorem qfo (s old new:ByteArray) (w:World) (hM:MaxLenAt w) (hne:seq old new=false) (hs:s.size≤67108864) (ho:(old.size=1∧new.size=2)∨(old.size=2∧new.size=1)) :
  Gv Tryz.prog 112 [.string s,.string old,.string new] w fun r w'=>r=.string ⟨(Lib.replaceAll s.data.toList old.data.toList new.data.toList).toArray⟩∧Ext w w':=by
 refine ze Tryz.func112 Tryz.ntmps112 ?_;refine zcv (qrd s old new w hM hne hs ho) ?_;rintro v w' ⟨rfl,he⟩;(conv=>whnf);exact ⟨rfl,he⟩
def qa1 (a b:TM):Bool:=decide (a.kind=b.kind)&&(seq a.text b.text&&(seq a.type b.type&&seq a.lang b.lang))
theorem qb0 {a b:TM}:qa1 a b=true↔a=b:=by
 obtain ⟨a0,a1,a2,a3⟩:=a;obtain ⟨b0,b1,b2,b3⟩:=b;simp [qa1,qar]
theorem qux:Tryz.prog.underlying 66=some (.struct (Tryz.prog.fieldsOf 66)):=by kernel_rfl
theorem q0n:Tryz.prog.stoodInHeld 66=false:=by kernel_rfl
theorem qya:Tryz.prog.eqGuardType Tryz.prog.depth 66=false:=by kernel_rfl
theorem qa5 (d:Nat) (a b:TM) (w:World):(Op.equalIn (d+2) 66 (qbk a) (qbk b)).run Tryz.prog w=.ok (qa1 a b) w:=by
 have u3:=Tryz.underlying3;have a3:=Tryz.isAgg3;have z3:=Tryz.sizeOf3;have u9:=Tryz.underlying9;have a9:=Tryz.isAgg9;have z9:=Tryz.sizeOf9;simp only [qbk];rw [run_equalIn_agg w (d+1) _ _ _ qux q0n];simp only [Program.fieldsOf,Tryz.underlying66]
 go_simp
 have e:∀ x y:ByteArray,(x.toList=y.toList)=(seq x y=true):=fun x y=>by rw [← qkt,beq_iff_eq]
 simp only [e]
 by_cases h1:a.kind=b.kind<;>cases h2:seq a.text b.text<;>cases h3:seq a.type b.type<;>cases h4:seq a.lang b.lang<;>simp [qa1,h1,h2,h3,h4]
namespace V
theorem RunV.eqTerm {op:BinOp} {xo yo:Operand} {a b:TM} {w:World} {K:Value→World→Prop} (ho:op=.eql∨op=.neq) (h:K (.bool (bif eqOp op then qa1 a b else !qa1 a b)) w) :
  RunV Tryz.prog (do eqGuard op 66 xo yo (qbk a) (qbk b);binOp op 66 (qbk a) (qbk b)) w K:=by
 refine ⟨_,w,?_,h⟩;rw [Sem.run_bind,qbk,qbk,run_eqGuard_agg w op _ xo yo _ _ qya,Result.andThen_ok];have e:=qa5 9998 a b w;simp only [qbk] at e
 rcases ho with rfl|rfl
 ·rw [run_eql_struct,e];rfl
 ·rw [run_neq_struct,e];rfl
end V
def q4u (t:TM):Bool:=decide (t.kind=0)&&(seq t.text ⟨#[]⟩&&(seq t.type ⟨#[]⟩&&seq t.lang ⟨#[]⟩))
def canB (k:Nat) (t:TM):Bool:=
 if k=0 then decide (t.kind=1)||decide (t.kind=2) else if k=1 then decide (t.kind=1) else if k=2 then decide (1≤t.kind)&&decide (t.kind≤3) else q4u t||decide (t.kind=1)||decide (t.kind=2)
def qc6:List Nat→Nat
 | []=>0
 | e::l=>if e≠0 then e else qc6 l
theorem qd1 {l:List Nat} (h:∀ j (hj:j<l.length),l[j]=0):qc6 l=0:=by
 induction l with
 | nil=>rfl
 | cons x l ih=>
  have h0:=h 0 Js;simp only [List.getElem_cons_zero] at h0;rw [qc6,if_neg Oo];exact ih fun j hj=>by have:=h (j+1) Ys;rwa [List.getElem_cons_succ] at this
theorem qon {l:List Nat} {k:Nat} (hk:k<l.length) (h:∀ j (hj:j<l.length),j<k→l[j]=0) (hne:l[k]≠0):qc6 l=l[k]:=by
 induction l generalizing k with
 | nil=>simp at hk
 | cons x l ih=>
  cases k with
  | zero=>simp only [List.getElem_cons_zero] at hne ⊢;rw [qc6,if_pos hne]
  | succ k=>
   have h0:=h 0 Js Oo;simp only [List.getElem_cons_zero] at h0;rw [qc6,if_neg Oo];simp only [List.getElem_cons_succ] at hne ⊢;exact ih (by simpa using hk) (fun j hj hjk=>by have:=h (j+1) Ys Oo;rwa [List.getElem_cons_succ] at this) hne
theorem CellsAt.mem {w0 w:World} {L:List (Nat × Obj)} {b:Nat} {cs:Array Value} {t:TypeId} {fr:Nat × Nat} (h:Mem w0 w L) (hi:(b,Obj.cells cs t fr)∈L):CellsAt w b 0 cs.toList:=fun k v hv=>by
 rw [qa (h.get hi),Nat.zero_add]
 simpa using hv
namespace V
theorem StoreA.rwAll {P:Program} {w0 w:World} {v:Value} {e:TypeId} {size n:Nat} {xs:List Value} {L:List (Nat × Obj)} {b:Nat} {cur:Array Value} {t:TypeId} {vs:List Value} {K:World→Prop} (h:Rw w0 w v e size n xs ((b,.cells cur t)::L))
  (hl:cur.size=vs.length) (h1:∀ v∈vs,v.oneCell'=true) (hk:∀ w',Rw w0 w' v e size n xs ((b,.cells vs.toArray t)::L)→K w'):StoreA P w b 0 vs K:=by
 have hg:=h.mem.get mh;have hb:v.ownBlock≠some b:=h.apart _ mh;have hr:=run_storeCells_at P b 0 t vs 0 cur w hg Ys h1;have ec:(cur.toList.take (0+0)++vs++cur.toList.drop (0+0+vs.length)).toArray=vs.toArray:=by
  rw [List.take_zero,List.nil_append,List.drop_eq_nil_of_le Ys,List.append_nil]
 rw [ec] at hr;refine ⟨_,hr,hk _ ⟨?_,?_,fun y hy=>?_⟩⟩
 ·have:=h.mem.set (i:=0) (b:=b) (o:=.cells cur t) (o':=.cells vs.toArray t) rfl (w':=w.setRow b vs.toArray) ?_ (qcv hg) (fun c hc=>qv hc)
  ·exact this
  ·exact Below.trans h.mem.ext ⟨rfl,rfl,rfl,by simp [World.setRow],fun k hk=>qv (by have:=(h.mem.own _ mh).1;simp only at this;omega)⟩
 ·refine h.own.kept (row:=some b) ⟨rfl,rfl,rfl,by simp [World.setRow],fun k _ hk=>qv (fun e=>hk (by simp [e]))⟩ (Or.inr hb)
 ·rcases List.mem_cons.1 hy with rfl|hy
  ·exact hb
  ·exact h.apart y (zmc hy)
end V
theorem qwb (k:Nat) (t:TM) (w:World):Gv Tryz.prog 86 [ii k,qbk t] w fun v w'=>v=.bool (canB k t)∧Ext w w':=by
 refine ze Tryz.func86 Tryz.ntmps86 ?_;refine znm (Mem.nil w) fun b w1 hm=>zw ?_
 (repeat' (first|refine zp ?_|refine zC (fun _=>zw ?_) (fun _=>zw ?_)|refine LoadV.mem (i:=0) Oa rfl rfl (zw ?_)))
 ·exact ⟨congrArg Value.bool (by rw [canB,if_pos Oo];simp [*]),hm.ext⟩
 ·exact ⟨congrArg Value.bool (by rw [canB,if_pos Oo];simp [*]),hm.ext⟩
 ·exact ⟨congrArg Value.bool (by rw [canB,if_neg Oo,if_pos Oo]),hm.ext⟩
 ·exact ⟨congrArg Value.bool (by rw [canB,if_neg Oo,if_neg Oo,if_pos Oo,Bool.eq_iff_iff];simp;omega),hm.ext⟩
 ·exact ⟨congrArg Value.bool (by rw [canB,if_neg Oo,if_neg Oo,if_pos Oo,Bool.eq_iff_iff];simp;omega),hm.ext⟩
 ·exact ⟨congrArg Value.bool (by rw [canB,if_neg Oo,if_neg Oo,if_pos Oo,Bool.eq_iff_iff];simp;omega),hm.ext⟩
 ·exact ⟨congrArg Value.bool (by rw [canB,if_neg Oo,if_neg Oo,if_neg Oo];simp [*]),hm.ext⟩
 ·exact ⟨congrArg Value.bool (by rw [canB,if_neg Oo,if_neg Oo,if_neg Oo];simp [*]),hm.ext⟩
 ·refine zl hm 0 ?_;refine zv ?_;refine RunV.eqTerm (a:=t) (b:=⟨0,⟨#[]⟩,⟨#[]⟩,⟨#[]⟩⟩) (.inl rfl) ?_;have hc:canB k t=(q4u t||decide (t.kind=1)||decide (t.kind=2)):=by rw [canB,if_neg Oo,if_neg Oo,if_neg Oo]
  have hz:qa1 t ⟨0,⟨#[]⟩,⟨#[]⟩,⟨#[]⟩⟩=q4u t:=rfl;rw [hz];refine zu ?_;exact ⟨congrArg Value.bool (by rw [hc];simp [*,eqOp]),hm.ext⟩
structure Q4 where
 s:TM
 p:TM
 o:TM
 g:TM
def Q4.at (q:Q4):Nat→TM
 | 0=>q.s
 | 1=>q.p
 | 2=>q.o
 | _=>q.g
def qaf (q:Q4):List Value:=encT q.s++(encT q.p++(encT q.o++encT q.g))
def qb6 (q:Q4):Value:=.agg #[ii q.s.kind,.string q.s.text,.string q.s.type,.string q.s.lang,ii q.p.kind,.string q.p.text,.string q.p.type,.string q.p.lang,
 ii q.o.kind,.string q.o.text,.string q.o.type,.string q.o.lang,ii q.g.kind,.string q.g.text,.string q.g.type,.string q.g.lang]
noncomputable def qE (k:Nat) (t:TM):Nat:=if canB k t=false then 70 else if k=3∧t.kind=0 then 0 else qbr t
noncomputable def qcg (q:Q4):Nat:=qc6 ((List.range 4).map fun k=>qE k (q.at k))
theorem qac {q:Q4} {w:World} {b off:Nat} (h:CellsAt w b off (qaf q)) (k:Nat) (hk:k<4):CellsAt w b (off+k*4) (encT (q.at k)):=by
 intro j v hv;have hj:j<4:=(List.getElem?_eq_some_iff.1 hv).1;have:=h (k*4+j) v (by
  obtain rfl|rfl|rfl|rfl:k=0∨k=1∨k=2∨k=3:=by omega
  all_goals
   obtain rfl|rfl|rfl|rfl:j=0∨j=1∨j=2∨j=3:=by omega
   all_goals exact hv)
 rwa [← Nat.add_assoc] at this
theorem qa9 (t:TM):∀ v∈encT t,v.oneCell'=true:=by
 intro v hv;simp only [encT,List.mem_cons,List.not_mem_nil,or_false] at hv
 rcases hv with rfl|rfl|rfl|rfl<;>rfl
def qfn (q:Q4):Prop:=∀ k,TermOk (q.at k)
theorem qo9 (q:Q4) (k:Nat) (hk:k<4):((qb6 q).cells.toList.drop (k*4)).take 4=encT (q.at k):=by
 obtain rfl|rfl|rfl|rfl:k=0∨k=1∨k=2∨k=3:=by omega
 all_goals rfl
theorem qdx (q:Q4) (hq:qfn q) (w:World) (hM:MaxLenAt w) (hT:CellsAt w 6 0 qay):Gv Tryz.prog 41 [qb6 q] w fun v w'=>v=ii (qcg q)∧Ext w w':=by
 refine ze Tryz.func41 Tryz.ntmps41 ?_;refine znm (Mem.nil w) ?_;intro b w1 hm;have hc:CellsAt w1 b 0 (qaf q):=CellsAt.mem hm mh;(conv=>whnf);refine LoadA.cells (qac hc 0 Oo) rfl (zw ?_);refine LoadA.cells (qac hc 1 Oo) rfl (zw ?_);refine LoadA.cells (qac hc 2 Oo) rfl (zw ?_);refine LoadA.cells (qac hc 3 Oo) rfl (zw ?_);have hlen:((List.range 4).map fun k=>qE k (q.at k)).length=4:=by simp
 have hget:∀ j (hj:j<((List.range 4).map fun k=>qE k (q.at k)).length),((List.range 4).map fun k=>qE k (q.at k))[j]=qE j (q.at j):=fun j hj=>by simp
 refine qu (fun k:Nat=>[(1,pp b),(2,ii 0),(14,qb6 q),(15,ii k)])
  (fun k w'=>k≤4∧(∀ j,j<k→qE j (q.at j)=0)∧Mem w w' [(b,.cells (qaf q).toArray 68)]) (fun k=>4-k) 0 ⟨rfl,rfl,rfl,rfl,trivial⟩ ⟨by omega,fun j h0=>by omega,hm⟩ ?_
 rintro k w2 ρ' ⟨k1,k2,hm2⟩;(conv=>whnf);refine zC (fun _=>zu ?_) (fun _=>zu ?_)
 ·have hk:k<4:=by omega
  have hbad:∀ e,qE k (q.at k)=e→e≠0→qcg q=e:=fun e he hne=>by
   rw [qcg,qon (k:=k) (by rw [hlen];exact hk) (fun j hj hjk=>by rw [hget];exact k2 j hjk) (by rw [hget,he];exact hne),hget,he]
  have hgood:qE k (q.at k)=0→∀ j,j<k+1→qE j (q.at j)=0:=fun he j hj=>by
   by_cases e:j=k
   ·subst e;exact he
   ·exact k2 j Oo
  refine Wit.eq (y:=encT (q.at k)) (qo9 q k hk) (zw ?_);refine znm hm2 fun r w3 hm3=>zw ?_;refine StoreA.all (vs:=encT (q.at k)) hm3 (i:=0) rfl rfl (qa9 _) ?_;intro w4 hm4;have hm4:Mem w w4 [(r,.cells (encT (q.at k)).toArray 66),_]:=hm4;(conv=>whnf);refine zl hm4 0 ?_;refine zcv (qwb k (q.at k) w4) ?_;rintro v w5 ⟨rfl,he5⟩;have hm5:=hm4.call he5;cases hcan:canB k (q.at k)
  ·refine zu ?_;exact ⟨by rw [hbad 70 (by rw [qE,if_pos hcan]) Od];rfl,hm5.ext⟩
  ·(conv=>whnf)
   (repeat' (first|refine zp ?_|refine zC (fun _=>zw ?_) (fun _=>zw ?_)|refine LoadV.mem (i:=0) Oa rfl rfl (zw ?_)))
   ·refine ⟨?_,hm5.ext⟩;have e0:qE k (q.at k)=0:=by rw [qE,if_neg (by rw [hcan];simp),if_pos ⟨by omega,by omega⟩]
    have h4:=hgood e0;rw [qcg,qd1 fun j hj=>by rw [hget];exact h4 j (by rw [hlen] at hj;omega)];rfl
   all_goals
    have hE:qE k (q.at k)=qbr (q.at k):=by rw [qE,if_neg (by rw [hcan];simp),if_neg Oo]
    refine zl hm5 0 ?_;refine zcv (qgx (q.at k) (hq k) w5 (hM.ext hm5.ext) (hT.ext hm5.ext)) ?_;rintro v w6 ⟨rfl,he6⟩;rw [← hE];conv=>whnf
    (repeat' (first|refine zp ?_|refine zC (fun _=>zw ?_) (fun _=>zw ?_)))
    ·exact ⟨by rw [hbad _ rfl Oo],hm5.ext.trans he6⟩
    ·exact ⟨k+1,⟨rfl,rfl,rfl,rfl,trivial⟩,⟨by omega,hgood Oo,(hm5.call he6).sub (List.sublist_cons_self ..)⟩,by omega⟩
 ·refine ⟨?_,hm2.ext⟩;rw [qcg,qd1 fun j hj=>by rw [hget];exact k2 j (by rw [hlen] at hj;omega)];rfl
def qhs (i n:Nat):LB→Nat × Nat × Nat
 | []=>(0,0,10)
 | c::l=>if (i=9∧1<c.toNat)∨(0<i∧c.toNat=0) then (0,0,11) else if c.toNat<128 then (n+c.toNat%128*2 ^ (7*i),i+1,0) else qhs (i+1) (n+c.toNat%128*2 ^ (7*i)) l
def numL (l:LB):Nat × Nat × Nat:=qhs 0 0 l
theorem qfa {i n:Nat} {c:UInt8} {l:LB}:qhs i n (c::l)=if (i=9∧1<c.toNat)∨(0<i∧c.toNat=0) then (0,0,11) else if c.toNat<128 then (n+c.toNat%128*2 ^ (7*i),i+1,0) else qhs (i+1) (n+c.toNat%128*2 ^ (7*i)) l:=rfl
theorem qcm {k:IntKind} {a b:Nat} (i:Nat) (ha:InR k ((a+b*2 ^ i:Nat):Int)) (hb:a<2 ^ i):qdk .or k (a:Int) ((b*2 ^ i:Nat):Int)=((a+b*2 ^ i:Nat):Int):=by
 have e:(a |||b*2 ^ i)=a+b*2 ^ i:=by
  rw [Nat.or_comm,Nat.mul_comm b,Nat.add_comm];exact (Nat.two_pow_add_eq_or_of_lt hb b).symm
 rw [qp7 (InR.le ha Oo) (InR.le ha Oo) (by rw [e];exact ha),e]
theorem V.Wit.shlN {k:IntKind} {a:Nat} {b:Int} {K:Int→Prop} (n:Nat) (e:b=(n:Int)) (hn:n<k.bits) (h:InR k ((a*2 ^ n:Nat):Int)) (hk:K ((a*2 ^ n:Nat):Int)) :
  Wit (fun r=>0≤b∧b<k.bits∧k.wrap ((a:Int)*2 ^ b.toNat)=r) K:=by
 subst e;have e2:(a:Int)*2 ^ ((n:Int).toNat)=((a*2 ^ n:Nat):Int):=by
  rw [Int.toNat_natCast];push_cast;rfl
 refine ⟨_,⟨by omega,by omega,?_⟩,hk⟩;rw [e2];exact h.wrap
theorem pow7 (i:Nat) (hi:i≤8):2 ^ (7*i)≤72057594037927936:=by
 have:2 ^ (7*i)≤2 ^ 56:=Nat.pow_le_pow_right Od Oo
 simpa using this
theorem qkz (i n c:Nat) (hi:i≤9) (hn:n<2 ^ (7*i)) (hc:c<256) (h9:i=9→c≤1):c%128*2 ^ (7*i)≤9223372036854775808∧n+c%128*2 ^ (7*i)<2 ^ 64∧(i<9→n+c%128*2 ^ (7*i)<2 ^ (7*(i+1))):=by
 by_cases e:i=9
 ·subst e;have h1:=h9 rfl;have h2:c%128=c:=Nat.mod_eq_of_lt Oo;rw [h2];have hp:2 ^ (7*9)=9223372036854775808:=by decide
  rw [hp] at hn ⊢;have:c*9223372036854775808≤1*9223372036854775808:=Nat.mul_le_mul_right _ h1;have e64:2 ^ 64=18446744073709551616:=by decide
  exact ⟨by omega,by rw [e64];omega,fun h=>by omega⟩
 ·have hp:2 ^ (7*(i+1))=128*2 ^ (7*i):=by rw [Nat.mul_add,Nat.pow_add];omega
  have hm:c%128*2 ^ (7*i)≤127*2 ^ (7*i):=Nat.mul_le_mul_right _ Oo;have h7:=pow7 i Oo;have e64:2 ^ 64=18446744073709551616:=by decide
  exact ⟨by omega,by rw [e64];omega,fun _=>by rw [hp];omega⟩
def numV (r:Nat × Nat × Nat):Value:=.tuple #[.int .u64 r.1,ii r.2.1,ii r.2.2]
theorem qi1 {n:Nat} (h:n<2 ^ 64):InR .u64 (n:Int):=by
 have e64:2 ^ 64=18446744073709551616:=by decide
 exact ⟨by omega,by omega⟩
theorem qx8 (l:LB) (i:Nat) (h:i<l.length):l.drop i=l[i]::l.drop (i+1):=List.drop_eq_getElem_cons h
def curO (t:TypeId) (v:Value) (at_ e:Nat):Obj:=.cells #[v,ii at_,ii e] t
theorem q3e (b:Nat) (v:Value) (at_ e:Nat) (l:LB) (w:World) (hb:w.heap[b]?=some (curO 244 v at_ e)) (hv:BS w v l) (hat:at_≤l.length) (_hl:l.length≤140737488355328) :
  Gv Tryz.prog 219 [pp b] w fun r w'=>r=numV (numL (l.drop at_))∧Ext w w':=by
 obtain ⟨A,c,rfl,hc,hS⟩:=hv;refine ze Tryz.func219 Tryz.ntmps219 ?_;refine zy ?_;refine zv ?_;refine LoadV.own hb rfl (zu ?_);refine LoadV.own hb rfl (zu ?_);refine SliceV.bs hS rfl at_ l.length c rfl rfl rfl hat znr hc znr (fun h=>by cases h) ?_;intro A' hA';refine zu ?_;have hd0:(l.drop at_).take (l.length-at_)=l.drop at_:=List.take_of_length_le Js;rw [hd0] at hA';obtain ⟨m,hm⟩:∃ m,m=l.drop at_:=⟨_,rfl⟩
 have hml:m.length=l.length-at_:=by rw [hm];simp
 rw [← hm] at hA' ⊢;have hx:=(Ext.refl w).drew;have hA:=hA'.ext hx;refine qu (fun x:Nat × Nat=>[(16,.slice A' (l.length-at_) (c-at_)),(17,ii (l.length-at_:Nat)),(18,ii x.1),(5,.int .u64 x.2)]) (fun x w1=>x.1≤m.length∧x.1≤9∧x.2<2 ^ (7*x.1)∧numL m=qhs x.1 x.2 (m.drop x.1)∧Ext w.drew w1) (fun x=>m.length-x.1) (0,0)
  ⟨rfl,rfl,rfl,rfl,trivial⟩ ⟨by simp,by simp,by simp,by rw [List.drop_zero];rfl,xr⟩ ?_
 rintro ⟨i,n⟩ w1 ρ' ⟨h1,h9,hn,hd,he1⟩;dsimp only at h1 h9 hn hd ⊢;(conv=>whnf);refine zC (fun _=>zw ?_) (fun _=>zw ?_)
 ·have hi:i<m.length:=by omega
  rw [qx8 m i hi,qfa] at hd;obtain ⟨c0,hc0⟩:∃ c0,c0=m[i]:=⟨_,rfl⟩
  have hlt:c0.toNat<256:=c0.toBitVec.isLt;rw [← hc0] at hd;refine ElemV.bs (hA.ext he1) hml i rfl Oo ?_;intro eb eo hcell;rw [← hc0] at hcell;(conv=>whnf);refine LoadV.of hcell (zw ?_)
  (repeat' (first|refine zp ?_|refine zC (fun _=>zw ?_) (fun _=>zw ?_)))
  all_goals first
   | exact ⟨by rw [hd,if_pos Oo];rfl,hx.trans he1⟩
   | skip
  all_goals
   rw [if_neg Oo] at hd;obtain ⟨g1,g2,g3⟩:=qkz i n c0.toNat h9 hn hlt Oo;refine Wit.eq (qbj (k:=.u8) (m:=c0.toNat) 7 rfl ⟨by omega,by omega⟩ ⟨by omega,by omega⟩) (zu ?_);refine V.Wit.shlN (7*i) Oo (by show 7*i<64;omega) (qi1 (by show c0.toNat%2 ^ 7*2 ^ (7*i)<_;rw [show 2 ^ 7=128 from rfl];omega)) (zw ?_);refine Wit.eq (qcm (7*i) (qi1 g2) hn) (zw ?_)
   (repeat' (first|refine zp ?_|refine zC (fun _=>zw ?_) (fun _=>zw ?_)))
   all_goals first
    | (rw [if_pos Oo] at hd;exact ⟨by rw [hd];rfl,hx.trans he1⟩)
    | (rw [if_neg Oo] at hd;exact ⟨(i+1,n+c0.toNat%128*2 ^ (7*i)),⟨rfl,rfl,rfl,rfl,trivial⟩,⟨by simp only;omega,by simp only;omega,g3 Oo,hd,he1⟩,by simp only;omega⟩)
 ·rw [List.drop_eq_nil_of_le Oo,qhs] at hd;exact ⟨by rw [hd];rfl,hx.trans he1⟩
theorem qib:∀ (l:LB) (i n:Nat),i≤9→n<2 ^ (7*i)→(qhs i n l).1<2 ^ 64∧(qhs i n l).2.1≤i+l.length∧((qhs i n l).2.2=0∨(qhs i n l).2.2=10∨(qhs i n l).2.2=11)
 | [],i,n,_,_=>⟨show 0<2 ^ 64 by decide,by simp [qhs],.inr (.inl rfl)⟩
 | c::l,i,n,hi,hn=>by
  rw [qfa]
  by_cases h1:(i=9∧1<c.toNat)∨(0<i∧c.toNat=0)
  ·rw [if_pos h1];exact ⟨by decide,Nat.zero_le _,.inr (.inr rfl)⟩
  ·rw [if_neg h1];have hlt:c.toNat<256:=c.toBitVec.isLt;obtain ⟨g1,g2,g3⟩:=qkz i n c.toNat hi hn hlt Oo
   by_cases h2:c.toNat<128
   ·rw [if_pos h2];exact ⟨g2,by simp only [List.length_cons];omega,.inl rfl⟩
   ·rw [if_neg h2];have:=qib l (i+1) _ Oo (g3 Oo);refine ⟨this.1,?_,this.2.2⟩;have:=this.2.1;simp only [List.length_cons];omega
theorem qbg (l:LB):(numL l).1<2 ^ 64∧(numL l).2.1≤l.length∧((numL l).2.2=0∨(numL l).2.2=10∨(numL l).2.2=11):=by
 have:=qib l 0 0 Oo Od
 rwa [Nat.zero_add] at this
def varS (l:LB) (at_ e:Nat):Nat × Nat × Nat:=if e≠0 then (0,at_,e) else if (numL (l.drop at_)).2.2≠0 then (0,at_,(numL (l.drop at_)).2.2) else ((numL (l.drop at_)).1,at_+(numL (l.drop at_)).2.1,0)
theorem q4e (b:Nat) (v:Value) (at_ e:Nat) (l:LB) (w:World) (hb:w.heap[b]?=some (curO 244 v at_ e)) (hv:BS w v l) (hat:at_≤l.length) (hl:l.length≤140737488355328) :
  Gv Tryz.prog 179 [pp b,.int .u64 18446744073709551615] w fun r w'=>r=.int .u64 (varS l at_ e).1∧Upd w w' b (curO 244 v (varS l at_ e).2.1 (varS l at_ e).2.2):=by
 have hpk:=q3e b v at_ e l w hb hv hat hl;obtain ⟨g1,g2,g3⟩:=qbg (l.drop at_);rw [zld] at g2;have e64:2 ^ 64=18446744073709551616:=by decide
 refine ze Tryz.func179 Tryz.ntmps179 ?_;refine LoadV.own hb rfl (zw ?_);refine zC (fun _=>zw ?_) (fun _=>zw ?_)
 ·have hS:varS l at_ e=(0,at_,e):=by rw [varS,if_pos Oo]
  rw [hS];exact ⟨rfl,Upd.refl hb⟩
 ·have he0:e=0:=by omega
  subst he0;refine zcv (hpk) ?_;rintro r w1 ⟨rfl,he⟩;have hb1:=he.get hb;have hS:varS l at_ 0=if (numL (l.drop at_)).2.2≠0 then (0,at_,(numL (l.drop at_)).2.2) else ((numL (l.drop at_)).1,at_+(numL (l.drop at_)).2.1,0):=by rw [varS,if_neg Oo]
  (conv=>whnf);refine zC (fun _=>zu ?_) (fun _=>zu ?_)
  ·refine LoadV.own hb1 rfl (zu ?_);refine StoreV.own hb1 (show 1<3 by decide) rfl ?_;intro w2 hw;have hu:=(Upd.of hb he).trans (Upd.set hb1 hw);rw [hS,if_neg Oo];(conv=>whnf);exact ⟨rfl,hu⟩
  ·refine StoreV.own hb1 (show 2<3 by decide) rfl ?_;intro w2 hw;have hu:=(Upd.of hb he).trans (Upd.set hb1 hw);rw [hS,if_pos Oo];(conv=>whnf);exact ⟨rfl,hu⟩
theorem qb8 (b:Nat) (v:Value) (at_ e:Nat) (l:LB) (w:World) (hb:w.heap[b]?=some (curO 244 v at_ e)) (hv:BS w v l) (hat:at_≤l.length) (hl:l.length≤140737488355328) :
  Gv Tryz.prog 116 [pp b] w fun r w'=>r=.int .u64 (varS l at_ e).1∧Upd w w' b (curO 244 v (varS l at_ e).2.1 (varS l at_ e).2.2):=by
 refine ze Tryz.func116 Tryz.ntmps116 ?_;refine zcv (q4e b v at_ e l w hb hv hat hl) ?_;rintro r w1 ⟨rfl,hu⟩;(conv=>whnf);exact ⟨rfl,hu⟩
def leN:LB→Nat
 | []=>0
 | c::l=>c.toNat+256*leN l
theorem qyt (l:LB):leN l<256 ^ l.length:=by
 induction l with
 | nil=>decide
 | cons c l ih=>
  have hlt:c.toNat<256:=c.toBitVec.isLt;rw [leN,List.length_cons,Nat.pow_succ];omega
theorem qyr (l m:LB):leN (l++m)=leN l+256 ^ l.length*leN m:=by
 induction l with
 | nil=>simp [leN]
 | cons c l ih=>
  rw [List.cons_append,leN,leN,ih,List.length_cons,Nat.pow_succ,Nat.mul_add,← Nat.mul_assoc,Nat.mul_comm 256 (256 ^ l.length)];omega
theorem qaau {l:LB} (h:4≤l.length):leN (l.take 4)=l[0].toNat+l[1].toNat*2 ^ 8+l[2].toNat*2 ^ 16+l[3].toNat*2 ^ 24:=by
 match l,h with
 | a::b::c::d::r,_=>simp only [List.take_succ_cons,List.take_zero,leN,List.getElem_cons_zero,List.getElem_cons_succ];omega
theorem qaat {l:LB} (h:2≤l.length):leN (l.take 2)=l[0].toNat+l[1].toNat*2 ^ 8:=by
 match l,h with
 | a::b::r,_=>simp only [List.take_succ_cons,List.take_zero,leN,List.getElem_cons_zero,List.getElem_cons_succ];omega
theorem qa3 {n:Nat} (h:n<9223372036854775808):InR .i64 (n:Int):=⟨by omega,by omega⟩
theorem qad (c:UInt8):c.toNat<256:=c.toBitVec.isLt
theorem qgb (l:LB) (A:oA) (n c:Nat) (w:World) (hS:SlAt encB 1 w A l) (hn:l.length=n) (h4:4≤l.length) :
  Gv Tryz.prog 204 [.slice A n c] w fun v w'=>v=ii (leN (l.take 4))∧Ext w w':=by
 have hA:=hS.ext (Ext.refl w).drew;have b0:=qad l[0];have b1:=qad l[1];have b2:=qad l[2];have b3:=qad l[3];rw [qaau h4];refine ze Tryz.func204 Tryz.ntmps204 ?_;refine zy ?_;refine zv ?_;refine ElemV.bs hA hn 0 rfl Oo ?_;intro eb eo hc;refine zu ?_;refine LoadV.of hc (zu ?_);refine ElemV.bs hA hn 1 rfl Oo ?_;intro eb eo hc;refine zu ?_;refine LoadV.of hc (zu ?_);refine V.Wit.shlN 8 rfl Od (qa3 Oo) (zu ?_);refine Wit.eq (qcm 8 (qa3 Oo) b0) (zu ?_);refine ElemV.bs hA hn 2 rfl Oo ?_;intro eb eo hc;refine zu ?_;refine LoadV.of hc (zu ?_);refine V.Wit.shlN 16 rfl Od (qa3 Oo) (zu ?_);refine Wit.eq (qcm 16 (qa3 Oo) Oo) (zu ?_);refine ElemV.bs hA hn 3 rfl Oo ?_;intro eb eo hc;refine zu ?_;refine LoadV.of hc (zu ?_);refine V.Wit.shlN 24 rfl Od (qa3 Oo) (zu ?_);refine Wit.eq (qcm 24 (qa3 Oo) Oo) (zu ?_);exact ⟨rfl,(Ext.refl w).drew⟩
theorem q0y (l:LB) (A:oA) (n c:Nat) (w:World) (hS:SlAt encB 1 w A l) (hn:l.length=n) (h4:2≤l.length) :
  Gv Tryz.prog 205 [.slice A n c] w fun v w'=>v=ii (leN (l.take 2))∧Ext w w':=by
 have hA:=hS.ext (Ext.refl w).drew;have b0:=qad l[0];have b1:=qad l[1];rw [qaat h4];refine ze Tryz.func205 Tryz.ntmps205 ?_;refine zy ?_;refine zv ?_;refine ElemV.bs hA hn 0 rfl Oo ?_;intro eb eo hc;refine zu ?_;refine LoadV.of hc (zu ?_);refine ElemV.bs hA hn 1 rfl Oo ?_;intro eb eo hc;refine zu ?_;refine LoadV.of hc (zu ?_);refine V.Wit.shlN 8 rfl Od (qa3 Oo) (zu ?_);refine Wit.eq (qcm 8 (qa3 Oo) b0) (zu ?_);exact ⟨rfl,(Ext.refl w).drew⟩
namespace V
theorem Mem.fresh {w0 w w':World} {L:List (Nat × Obj)} {b:Nat} {o:Obj} (h:Mem w0 w L) (he:Ext w w') (hb:w.heap.size≤b) (ho:w'.heap[b]?=some o):Mem w0 w' ((b,o)::L):=by
 have h':=h.call he;refine ⟨h'.ext,fun x hx=>?_,?_⟩
 ·rcases List.mem_cons.1 hx with rfl|hx
  ·exact ⟨Nat.le_trans h.ext.size hb,ho⟩
  ·exact h'.own x hx
 ·simp only [List.map_cons,List.nodup_cons];refine ⟨fun hm=>?_,h.nodup⟩;obtain ⟨x,hx,e⟩:=List.mem_map.1 hm;have:=h.lt (b:=x.1) (o:=x.2) hx;omega
theorem Fall.max2 {P:Program} {ρ:Nat→Value} {o:Oper} {c:Call} {k:IntKind} {x y:Int} {w:World} {K:Value→World→Prop} (ho:o.op=.call c) (hc:c.callee=.builtin .max) (ha0:evs ρ c.args.toList=[.int k x,.int k y])
  (h:∀ m,m=max x y→K (.int k m) w):Fall P (execOp (ev ρ) o) w K:=by
 have e:execOp (ev ρ) o=(do pure (.value (← Builtin.max_ c.argTypes o.type (c.args.map (ev ρ))))):=by
  simp only [execOp,ho,resolve,hc];rfl
 have ha:c.args.map (ev ρ)=#[.int k x,.int k y]:=by
  rw [qc4] at ha0;rw [← Array.toList_inj];simpa using ha0
 refine ⟨.inl ⟨_,w,?_,h _ rfl⟩⟩;rw [e,ha];simp only [Sem.run_bind,run_max_int2,Result.andThen_ok,Sem.run_pure]
 congr 3
 rw [Int.max_def]
 split<;>(try split)<;>omega
theorem Fall.min2 {P:Program} {ρ:Nat→Value} {o:Oper} {c:Call} {k:IntKind} {x y:Int} {w:World} {K:Value→World→Prop} (ho:o.op=.call c) (hc:c.callee=.builtin .min) (ha0:evs ρ c.args.toList=[.int k x,.int k y])
  (h:∀ m,m=min x y→K (.int k m) w):Fall P (execOp (ev ρ) o) w K:=by
 have e:execOp (ev ρ) o=(do pure (.value (← Builtin.min_ c.argTypes o.type (c.args.map (ev ρ))))):=by
  simp only [execOp,ho,resolve,hc];rfl
 have ha:c.args.map (ev ρ)=#[.int k x,.int k y]:=by
  rw [qc4] at ha0;rw [← Array.toList_inj];simpa using ha0
 refine ⟨.inl ⟨_,w,?_,h _ rfl⟩⟩;rw [e,ha];simp only [Sem.run_bind,run_min_int2,Result.andThen_ok,Sem.run_pure]
 congr 3
 rw [Int.min_def]
 split<;>(try split)<;>omega
end V
theorem qda (v:Value) (l:LB) (w:World) (hv:BS w v l) :
  Gv Tryz.prog 95 [v] w fun r w'=>∃ b,r=pp b∧w.heap.size≤b∧w'.heap[b]?=some (curO 244 v 0 0)∧Ext w w':=by
 obtain ⟨A,c,rfl,hc,hS⟩:=hv;refine ze Tryz.func95 Tryz.ntmps95 ?_;refine ⟨fun b w' hb hw=>?_⟩;subst hb hw;(conv=>whnf);exact ⟨w.heap.size,rfl,Nat.le_refl _,heap_alloc_new w _,(Ext.refl w).alloc _⟩
theorem qh5 (b:Nat) (v:Value) (a e:Nat) (w:World) (hb:w.heap[b]?=some (curO 244 v a e)):Gv Tryz.prog 105 [pp b] w fun r w'=>r=ii a∧w'=w:=by
 refine ze Tryz.func105 Tryz.ntmps105 ?_;refine LoadV.own hb rfl (zw ?_);exact ⟨rfl,rfl⟩
theorem qbw (b:Nat) (v:Value) (a e:Nat) (w:World) (hb:w.heap[b]?=some (curO 244 v a e)):Gv Tryz.prog 117 [pp b] w fun r w'=>r=ii e∧w'=w:=by
 refine ze Tryz.func117 Tryz.ntmps117 ?_;refine LoadV.own hb rfl (zw ?_);exact ⟨rfl,rfl⟩
theorem qmj (b:Nat) (v:Value) (a e:Nat) (l:LB) (w:World) (hb:w.heap[b]?=some (curO 244 v a e)) (hv:BS w v l) (ha:a≤l.length) (hl:l.length≤140737488355328) :
  Gv Tryz.prog 206 [pp b] w fun r w'=>r=ii (l.length-a:Nat)∧Ext w w':=by
 obtain ⟨A,c,rfl,hc,hS⟩:=hv;refine ze Tryz.func206 Tryz.ntmps206 ?_;refine zy ?_;refine zv ?_;refine LoadV.own hb rfl (zu ?_);refine LoadV.own hb rfl (zu ?_);exact ⟨congrArg (Value.int .i64) Oo,(Ext.refl w).drew⟩
theorem qk5 (w:World):Gv Tryz.prog 67 [ii 4] w fun r w'=>r=ii 4∧w'=w:=by
 refine ze Tryz.func67 Tryz.ntmps67 ?_;refine V.Fall.max2 rfl rfl rfl fun m hm=>?_;obtain rfl:m=4:=by omega
 (conv=>whnf);refine V.Fall.min2 rfl rfl rfl fun m hm=>?_;obtain rfl:m=4:=by omega
 (conv=>whnf);exact ⟨rfl,rfl⟩
theorem q31 (b:Nat) (v:Value) (a n:Nat) (l:LB) (w:World) (hb:w.heap[b]?=some (curO 244 v a 0)) (hv:BS w v l) (ha:a+n≤l.length) (hl:l.length≤140737488355328) (hlow:∀ A c,v=.slice A l.length c→True) :
  Gv Tryz.prog 159 [pp b,ii n] w fun r w'=>(∃ A' c',r=.slice A' n c'∧SlAt encB 1 w A' ((l.drop a).take n))∧Upd w w' b (curO 244 v (a+n) 0):=by
 have hleft:=qmj b v a 0 l w hb hv Oo hl;obtain ⟨A,c,rfl,hc,hS⟩:=hv;refine ze Tryz.func159 Tryz.ntmps159 ?_;refine LoadV.own hb rfl (zu ?_);refine zcv (hleft) ?_;rintro r w1 ⟨rfl,he⟩;have hb1:=he.get hb;refine zu ?_;refine LoadV.own hb1 rfl (zu ?_);refine StoreV.own hb1 (show 1<3 by decide) rfl ?_;intro w2 hw;have hu:=(Upd.of hb he).trans (Upd.set hb1 hw);have hb2:w2.heap[b]?=some (curO 244 (.slice A l.length c) (a+n) 0):=hu.at_;(conv=>whnf);refine zy ?_;refine zv ?_;refine LoadV.own hb2 rfl (zu ?_);refine LoadV.own hb2 rfl (zu ?_);refine LoadV.own hb2 rfl (zu ?_);refine SliceV.bs hS rfl a (a+n) c (by show (((a+n:Nat):Int)-(n:Int))=(a:Int);omega) rfl rfl Oo ha Oo znr (fun h=>by cases h) ?_;intro A' hA';refine zu ?_;have e:a+n-a=n:=by omega
 rw [e] at hA' ⊢;exact ⟨⟨A',_,rfl,hA'⟩,hu.trans (Upd.of hb2 (Ext.refl w2).drew)⟩
theorem qit (l:LB) (i:Nat) (h:i<l.length):leN (l.take (i+1))=leN (l.take i)+l[i].toNat*2 ^ (8*i):=by
 rw [List.take_succ_eq_append_getElem h,qyr,List.length_take,Nat.min_eq_left Oo];have:(256:Nat) ^ i=2 ^ (8*i):=by rw [Nat.pow_mul]
 rw [this,leN,leN,Nat.mul_zero,Nat.add_zero,Nat.mul_comm]
theorem qaw (l:LB) (i:Nat) (h:i≤l.length):leN (l.take i)<2 ^ (8*i):=by
 have:=qyt (l.take i);rw [List.length_take,Nat.min_eq_left h] at this;have e:(256:Nat) ^ i=2 ^ (8*i):=by rw [Nat.pow_mul]
 rwa [e] at this
theorem pow8 (i:Nat) (hi:i≤4):2 ^ (8*i)≤4294967296:=by
 have:2 ^ (8*i)≤2 ^ 32:=Nat.pow_le_pow_right Od Oo
 simpa using this
theorem V.SlAt.upd {w w':World} {b:Nat} {cs:Array Value} {t:TypeId} {fr:Nat × Nat} {o:Obj} {A:oA} {l:LB} (h:SlAt encB 1 w A l) (hb:w.heap[b]?=some (.cells cs t fr)) (hno:∀ v∈cs.toList,∀ n,v≠.int .u8 n) (hu:Upd w w' b o):SlAt encB 1 w' A l:=by
 refine ⟨fun hne=>?_⟩;obtain ⟨g,off,e,hc⟩:=h.at_ hne;refine ⟨g,off,e,fun j x hx k v hv=>?_⟩;have h1:=hc j x hx k v hv;have hv8:v=.int .u8 x.toNat:=by
  cases k with
  | zero=>simpa [encB] using hv.symm
  | succ k=>simp [encB] at hv
 have hlt:g<w.heap.size:=by
  rcases Nat.lt_or_ge g w.heap.size with h|h
  ·exact h
  ·unfold World.cell? at h1;rw [Array.getElem?_eq_none h] at h1;cases h1
 have hgb:g≠b:=by
  rintro rfl;rw [qa hb] at h1;exact hno v (by rw [← Array.getElem?_toList] at h1;exact zmg h1) _ hv8
 unfold World.cell? at h1 ⊢;rw [hu.block g hlt hgb];exact h1
theorem q6z {v:Value} {a e:Nat} (hv:∃ A n c,v=.slice A n c):∀ u∈(#[v,ii a,ii e]:Array Value).toList,∀ n,u≠.int .u8 n:=by
 obtain ⟨A,m,c,rfl⟩:=hv;intro u hu n;simp at hu
 rcases hu with rfl|rfl|rfl<;>simp
theorem qhd (b:Nat) (v:Value) (a:Nat) (l:LB) (w:World) (hb:w.heap[b]?=some (curO 244 v a 0)) (hv:BS w v l) (ha:a+4≤l.length) (hl:l.length≤140737488355328) :
  Gv Tryz.prog 96 [pp b,ii 4] w fun r w'=>r=.int .u64 (leN ((l.drop a).take 4))∧Upd w w' b (curO 244 v (a+4) 0):=by
 have htk:=fun w=>q31 b v a 4 l w
 refine ze Tryz.func96 Tryz.ntmps96 ?_;refine zcv (qk5 w) ?_;rintro r w1 ⟨rfl,rfl⟩;(conv=>whnf);refine zcv (htk w1 hb hv ha hl (fun _ _ _=>trivial)) ?_;rintro r w2 ⟨⟨A',c',rfl,hS⟩,hu⟩;(conv=>whnf);have hv':=hv;obtain ⟨A,c,hvv,_,_⟩:=hv';have hS2:SlAt encB 1 w2 A' ((l.drop a).take 4):=V.SlAt.upd hS hb (q6z ⟨_,_,_,hvv⟩) hu;obtain ⟨m,hm⟩:∃ m,m=(l.drop a).take 4:=⟨_,rfl⟩
 have hml:m.length=4:=by rw [hm];simp;omega
 rw [← hm] at hS2 ⊢;refine qu (fun i:Nat=>[(11,.slice A' 4 c'),(12,ii 4),(13,ii i),(5,.int .u64 (leN (m.take i)))]) (fun i w3=>i≤4∧w3=w2) (fun i=>4-i) 0 ⟨rfl,rfl,rfl,rfl,trivial⟩ ⟨by omega,rfl⟩ ?_;rintro i w3 ρ' ⟨i1,rfl⟩;(conv=>whnf);refine zC (fun _=>zw ?_) (fun _=>zw ?_)
 ·have hi:i<m.length:=by omega
  have hb4:=qad m[i];have hp:=pow8 (i+1) Oo;have hlt:=qaw m (i+1) Oo;rw [qit m i hi] at hlt;refine ElemV.bs hS2 hml i rfl Oo ?_;intro eb eo hc;(conv=>whnf);refine LoadV.of hc (zu ?_);have e64:2 ^ 64=18446744073709551616:=by decide
  refine V.Wit.shlN (8*i) Oo (by show 8*i<64;omega) (qi1 Oo) (zw ?_);refine Wit.eq (qcm (8*i) (qi1 Oo) (qaw m i Oo)) (zu ?_);exact ⟨i+1,⟨rfl,rfl,rfl,by rw [qit m i hi];rfl,trivial⟩,⟨by omega,rfl⟩,by omega⟩
 ·rw [List.take_of_length_le Oo];exact ⟨rfl,hu⟩
structure ErrAt (w:World) (v:Value) (place code:Nat):Prop where
 h:∃ b,v=.iface 104 (pp b)∧CellsAt w b 0 [ii place,.iface 26 (ii code)]
theorem ErrAt.ext {w w':World} {v:Value} {p c:Nat} (h:ErrAt w v p c) (he:Ext w w'):ErrAt w' v p c:=by
 obtain ⟨b,h1,h2⟩:=h;exact ⟨b,h1,h2.ext he⟩
theorem qfv (p c:Nat) (w:World):Gv Tryz.prog 48 [ii p,ii c] w fun v w'=>ErrAt w' v p c∧Ext w w':=by
 refine ze Tryz.func48 Tryz.ntmps48 ?_;refine znm (Mem.nil w) fun b w1 hm=>zw ?_;exact ⟨⟨b,rfl,CellsAt.mem hm mh⟩,hm.ext⟩
def poly:BitVec 32:=0xedb88320#32
def nibs:List Nat:=[0x00000000,0x1db71064,0x3b6e20c8,0x26d930ac,0x76dc4190,0x6b6b51f4,0x4db26158,0x5005713c,0xedb88320,0xf00f9344,0xd6d6a3e8,0xcb61b38c,0x9b64c2b0,0x86d3d2d4,0xa00ae278,0xbdbdf21c]
def nib (i:Nat):BitVec 32:=BitVec.ofNat 32 (nibs.getD i 0)
def qf3 (r:BitVec 32) (d:Bool):BitVec 32:=(r >>> 1) ^^^ (if (r.getLsbD 0 ^^ d)=true then poly else 0#32)
def qb3 (r:BitVec 32):BitVec 32:=qf3 r false
def half (r:BitVec 32):BitVec 32:=nib (r.toNat%16) ^^^ (r >>> 4)
theorem xlc (a b c:BitVec 32):a ^^^ (b ^^^ c)=b ^^^ (a ^^^ c):=by rw [← BitVec.xor_assoc,BitVec.xor_comm a b,BitVec.xor_assoc]
theorem xss (a b:BitVec 32):a ^^^ (a ^^^ b)=b:=by rw [← BitVec.xor_assoc,BitVec.xor_self,BitVec.zero_xor]
theorem qgi (a b:BitVec 32):qb3 (a ^^^ b)=qb3 a ^^^ qb3 b:=by
 unfold qb3 qf3;rw [BitVec.ushiftRight_xor_distrib,BitVec.getLsbD_xor];cases a.getLsbD 0<;>cases b.getLsbD 0<;>simp [BitVec.xor_assoc,BitVec.xor_comm,xlc,xss]
theorem qkw (r d:BitVec 32):qb3 (r ^^^ d)=qf3 r (d.getLsbD 0) ^^^ (d >>> 1):=by
 unfold qb3 qf3;rw [BitVec.ushiftRight_xor_distrib,BitVec.getLsbD_xor,Bool.xor_false,BitVec.xor_assoc,BitVec.xor_assoc,BitVec.xor_comm (d >>> 1)]
theorem qe9 {h:BitVec 32} (h0:h.getLsbD 0=false):qb3 h=h >>> 1:=by
 unfold qb3 qf3;rw [h0];simp
theorem qqu (h:BitVec 32) (h0:h.getLsbD 0=false) (h1:h.getLsbD 1=false) (h2:h.getLsbD 2=false) (h3:h.getLsbD 3=false):qb3 (qb3 (qb3 (qb3 h)))=h >>> 4:=by
 rw [qe9 h0,qe9 (h:=h >>> 1) (by simpa using h1),qe9 (h:=h >>> 1 >>> 1) (by simpa using h2),qe9 (h:=h >>> 1 >>> 1 >>> 1) (by simpa using h3)];rw [← BitVec.shiftRight_add,← BitVec.shiftRight_add,← BitVec.shiftRight_add]
theorem qvc:∀ i,i<16→qb3 (qb3 (qb3 (qb3 (BitVec.ofNat 32 i))))=nib i:=by decide
theorem q5m (r:BitVec 32):qb3 (qb3 (qb3 (qb3 r)))=half r:=by
 have hlow:r &&&15#32=BitVec.ofNat 32 (r.toNat%16):=by
  apply BitVec.eq_of_toNat_eq;rw [BitVec.toNat_and,BitVec.toNat_ofNat];have:r.toNat &&&15=r.toNat%2 ^ 4:=Nat.and_two_pow_sub_one_eq_mod r.toNat 4;show r.toNat &&&15=_;rw [this];have:=r.isLt;exact (Nat.mod_eq_of_lt Oo).symm
 have hsplit:r=(r &&&15#32) ^^^ (r &&&0xfffffff0#32):=by
  ext i hi
  simp only [BitVec.getElem_xor,BitVec.getElem_and];have:((15#32)[i] ^^ (0xfffffff0#32)[i])=true:=by
   have:∀ i (hi:i<32),((15#32)[i] ^^ (0xfffffff0#32)[i])=true:=by decide
   exact this i hi
  cases r[i]<;>simp_all
 have hh:(r &&&0xfffffff0#32) >>> 4=r >>> 4:=by
  ext i hi
  simp only [BitVec.getElem_ushiftRight,BitVec.getLsbD_and]
  by_cases h:4+i<32
  ·have:∀ j,j<28→(0xfffffff0#32).getLsbD (4+j)=true:=by decide
   rw [this i Oo,Bool.and_true]
  ·rw [BitVec.getLsbD_of_ge _ _ Oo];simp
 have hz:∀ j,j<4→(r &&&0xfffffff0#32).getLsbD j=false:=fun j hj=>by
  rw [BitVec.getLsbD_and];have:∀ j,j<4→(0xfffffff0#32).getLsbD j=false:=by decide
  rw [this j hj,Bool.and_false]
 conv=>lhs;rw [hsplit]
 rw [qgi,qgi,qgi,qgi,qqu _ (hz 0 Od) (hz 1 Od) (hz 2 Od) (hz 3 Od),hh,hlow,qvc _ (Nat.mod_lt _ Od)];rfl
def qrb (r:BitVec 32) (b:UInt8):Nat→BitVec 32
 | 0=>r
 | k+1=>qf3 (qrb r b k) (b.toNat.testBit k)
def thr (r:BitVec 32) (b:UInt8):BitVec 32:=half (half (r ^^^ BitVec.ofNat 32 b.toNat))
theorem q8f (r:BitVec 32) (b:UInt8) (k:Nat):(Nat.repeat qb3 k (r ^^^ BitVec.ofNat 32 b.toNat))=qrb r b k ^^^ (BitVec.ofNat 32 b.toNat >>> k):=by
 induction k with
 | zero=>simp [Nat.repeat,qrb]
 | succ k ih=>
  rw [Nat.repeat,ih,qkw,qrb]
  congr 1
  ·congr 1
   rw [BitVec.getLsbD_ushiftRight,BitVec.getLsbD_ofNat,Nat.add_zero]
   by_cases h:k<32
   ·simp [h]
   ·have hb:b.toNat<256:=b.toBitVec.isLt;have:=Nat.testBit_lt_two_pow (Nat.lt_of_lt_of_le hb (Nat.le_trans (by decide:(256:Nat)≤2 ^ 32) (Nat.pow_le_pow_right Od (by omega:32≤k))));simp [h,this]
theorem qz1 (r:BitVec 32) (b:UInt8):qrb r b 8=thr r b:=by
 have h:=q8f r b 8;have hz:BitVec.ofNat 32 b.toNat >>> 8=0#32:=by
  apply BitVec.eq_of_toNat_eq;have hb:b.toNat<256:=b.toBitVec.isLt;rw [BitVec.toNat_ushiftRight,BitVec.toNat_ofNat,Nat.shiftRight_eq_div_pow,Nat.mod_eq_of_lt Oo];show b.toNat/256=0;omega
 rw [hz,BitVec.xor_zero] at h;rw [← h,thr,← q5m,← q5m];rfl
def updL (r:BitVec 32) (l:LB):BitVec 32:=l.foldl thr r
def crcL (l:LB):BitVec 32 := ~~~ (updL (~~~ 0#32) l)
theorem q03 (r:BitVec 32) (l:LB) (i:Nat) (h:i<l.length):updL r (l.take (i+1))=thr (updL r (l.take i)) l[i]:=by
 unfold updL;rw [List.take_succ_eq_append_getElem h,List.foldl_append];rfl
def qhp:List Value:=nibs.map fun n:Nat=>Value.int .u32 (n:Int)
theorem bx (x y:BitVec 32):qdk .xor .u32 (x.toNat:Int) (y.toNat:Int)=((x ^^^ y).toNat:Int):=by
 have h1:BitVec.ofInt 32 (x.toNat:Int)=x:=by apply BitVec.eq_of_toNat_eq;rw [BitVec.toNat_ofInt];have:=x.isLt;omega
 have h2:BitVec.ofInt 32 (y.toNat:Int)=y:=by apply BitVec.eq_of_toNat_eq;rw [BitVec.toNat_ofInt];have:=y.isLt;omega
 show IntKind.u32.wrap ((BitVec.ofInt 32 (x.toNat:Int) ^^^ BitVec.ofInt 32 (y.toNat:Int)).toNat:Int)=_;rw [h1,h2];have:=(x ^^^ y).isLt;exact InR.wrap (k:=.u32) ⟨by omega,by omega⟩
theorem bnot (x:BitVec 32):qdk .xor .u32 (if IntKind.u32.signed then -1 else IntKind.u32.max) (x.toNat:Int)=((~~~x).toNat:Int):=by
 have h:(if IntKind.u32.signed then -1 else IntKind.u32.max)=((BitVec.allOnes 32).toNat:Int):=by decide
 rw [h,bx,BitVec.allOnes_xor]
theorem q7t (b:UInt8):(BitVec.ofNat 32 b.toNat).toNat=b.toNat:=by
 have:=qad b;rw [BitVec.toNat_ofNat,Nat.mod_eq_of_lt Oo]
theorem q7k (i:Nat) (hi:i<16):(nib i).toNat=nibs.getD i 0:=by
 have:∀ i,i<16→(nib i).toNat=nibs.getD i 0:=by decide
 exact this i hi
theorem qs5 (x:BitVec 32):qdk .xor .u32 ((nibs.getD (x.toNat%16) 0:Nat):Int) ((x.toNat/16:Nat):Int)=((half x).toNat:Int):=by
 have h2:(x >>> 4).toNat=x.toNat/16:=by rw [BitVec.toNat_ushiftRight,Nat.shiftRight_eq_div_pow]
 rw [← q7k _ (Nat.mod_lt _ Od),← h2,bx];rfl
theorem qti {w:World} (hT:CellsAt w 1 0 qhp) (i:Nat) (hi:i<16):w.cell? ⟨1,0+i*1,none⟩=some (.int .u32 ((nibs.getD i 0:Nat):Int)):=by
 have h:i<nibs.length:=hi;have:=hT i (.int .u32 ((nibs.getD i 0:Nat):Int)) (by rw [qhp,List.getElem?_map,zge h,List.getD_eq_getElem?_getD,zge h];rfl)
 rwa [Nat.mul_one]
theorem q55 (x:BitVec 32):x.toNat<4294967296:=x.isLt
theorem qrr (r:BitVec 32) (b:UInt8) (w:World) (hT:CellsAt w 1 0 qhp) :
  Gv Tryz.prog 94 [.int .u32 r.toNat,.int .u8 b.toNat] w fun v w'=>v=.int .u32 (thr r b).toNat∧w'=w:=by
 have hb:=qad b;obtain ⟨x,hx⟩:∃ x,x=r ^^^ BitVec.ofNat 32 b.toNat:=⟨_,rfl⟩
 have h0:=q55 x;have h1:=q55 (half x);have ht:thr r b=half (half x):=by rw [hx];rfl
 rw [ht];refine ze Tryz.func94 Tryz.ntmps94 ?_;refine zv ?_;refine Wit.eq (y:=(x.toNat:Int)) (by rw [hx,← bx,q7t]) (zw ?_);refine Wit.eq (qbj (k:=.u32) (m:=x.toNat) 4 rfl ⟨by omega,by omega⟩ ⟨by omega,by omega⟩) (zw ?_);refine IdxV.nat (Nat.mod_lt _ Od) (zw ?_);refine LoadV.of (qti hT _ (Nat.mod_lt _ Od)) (zw ?_);refine Wit.shr (m:=16) (r:=((x.toNat/16:Nat):Int)) ⟨by decide,by decide⟩ Od Oo (zw ?_);refine Wit.eq (qs5 x) (zw ?_);refine Wit.eq (qbj (k:=.u32) (m:=(half x).toNat) 4 rfl ⟨by omega,by omega⟩ ⟨by omega,by omega⟩) (zw ?_);refine IdxV.nat (Nat.mod_lt _ Od) (zw ?_);refine LoadV.of (qti hT _ (Nat.mod_lt _ Od)) (zw ?_);refine Wit.shr (m:=16) (r:=(((half x).toNat/16:Nat):Int)) ⟨by decide,by decide⟩ Od Oo (zw ?_);refine Wit.eq (qs5 (half x)) (zw ?_);exact ⟨rfl,rfl⟩
theorem qwj (l:LB) (A:oA) (n c:Nat) (w:World) (hS:SlAt encB 1 w A l) (hn:l.length=n) (hl:l.length≤140737488355328) (hT:CellsAt w 1 0 qhp) :
  Gv Tryz.prog 45 [.int .u32 0,.slice A n c] w fun v w'=>v=.int .u32 (crcL l).toNat∧w'=w:=by
 subst hn;refine ze Tryz.func45 Tryz.ntmps45 ?_;refine Wit.eq (bnot 0#32) (zw ?_);refine qu (fun i:Nat=>[(10,.slice A l.length c),(11,ii l.length),(12,ii i),(5,.int .u32 (updL (~~~ 0#32) (l.take i)).toNat)]) (fun i w1=>i≤l.length∧w1=w) (fun i=>l.length-i) 0 ⟨rfl,rfl,rfl,rfl,trivial⟩ ⟨by omega,rfl⟩ ?_;rintro i w1 ρ' ⟨h1,rfl⟩;(conv=>whnf);refine zC (fun _=>zw ?_) (fun _=>zw ?_)
 ·have hi:i<l.length:=by omega
  refine ElemV.bs hS rfl i rfl hi ?_;intro eb eo hc;(conv=>whnf);refine LoadV.of hc (zw ?_);refine zcv (qrr _ l[i] w1 hT) ?_;rintro v w1 ⟨rfl,rfl⟩;refine zu ?_;exact ⟨i+1,⟨rfl,rfl,rfl,by rw [q03 _ _ _ hi];rfl,trivial⟩,⟨by omega,rfl⟩,by omega⟩
 ·refine Wit.eq (bnot _) (zw ?_);rw [List.take_of_length_le Oo];exact ⟨rfl,rfl⟩
theorem qnd (l:LB) (A:oA) (n c:Nat) (w:World) (hS:SlAt encB 1 w A l) (hn:l.length=n) (hl:l.length≤140737488355328) (hT:CellsAt w 1 0 qhp) :
  Gv Tryz.prog 19 [.slice A n c] w fun v w'=>v=.int .u32 (crcL l).toNat∧w'=w:=by
 refine ze Tryz.func19 Tryz.ntmps19 ?_;refine zcv (qwj l A n c w hS hn hl hT) ?_;rintro v w1 ⟨rfl,rfl⟩;(conv=>whnf);exact ⟨rfl,rfl⟩
namespace V
theorem StoreA.same {P:Program} {w:World} {b:Nat} {cur:Array Value} {t:TypeId} {vs:List Value} {K:World→Prop} (hg:w.heap[b]?=some (.cells cur t)) (hv:vs=cur.toList) (h1:∀ v∈vs,v.oneCell'=true)
  (hk:∀ w',Ext w w'→K w'):StoreA P w b 0 vs K:=by
 subst hv;have hr:=run_storeCells_at P b 0 t cur.toList 0 cur w hg Js h1;have ec:(cur.toList.take (0+0)++cur.toList++cur.toList.drop (0+0+cur.toList.length)).toArray=cur:=by
  rw [List.take_zero,List.nil_append,List.drop_eq_nil_of_le Js,List.append_nil]
 rw [ec] at hr;refine ⟨_,hr,hk _ ⟨rfl,rfl,rfl,by simp [World.setRow],fun k _=>?_⟩⟩
 by_cases e:k=b
 ·subst e;rw [qcv hg,hg]
 ·exact qv e
theorem BS.rest {w:World} {g off c a:Nat} {l:LB} (hA:SlAt encB 1 w (some ⟨g,off,none⟩) l) (hc:l.length≤c) (ha:a<l.length):BS w (.slice (some ⟨g,off+a,none⟩) (l.length-a) (c-a)) (l.drop a):=by
 refine ⟨_,c-a,by rw [zld],by rw [zld];omega,?_⟩;have:=hA.cut (A':=some ⟨g,off+a,none⟩) (lo:=a) (hi:=l.length) (m:=c) Oo znr hc (by rw [if_neg Oo,Nat.mul_one,Option.map_some,q8])
 rwa [List.take_of_length_le Js] at this
theorem SliceV.rest {g off n c:Nat} {lo:Option Value} {K:Value→Prop} (a:Nat) (h1:bnd lo 0 a) (hn:n≤c) (ha:a<n) (hk:K (.slice (some ⟨g,off+a,none⟩) (n-a) (c-a))):SliceV 1 (some ⟨g,off,none⟩) n c lo none none K:=by
 refine ⟨a,n,c,h1,rfl,rfl,by omega,hn,Nat.le_refl _,fun h=>by simp at h,fun A' e=>?_⟩;rw [if_neg Oo,Nat.mul_one,Option.map_some,q8] at e;subst e;exact hk
structure CurAt (wd w:World) (v:Value) (o:Obj):Prop where
 h:∃ b,v=pp b∧wd.heap.size≤b∧w.heap[b]?=some o
structure Two (wd:World) (o1 o2:Obj) (F:World→Prop) (s2 s5 s6 s12 s13 s17:Bool) (v5 v12:Value) (w:World):Prop where
 a:s17=false→Ext wd w∧(s5=true→s6=false→CurAt wd w v5 o1)∧(s12=true→s13=false→CurAt wd w v12 o2)
 d:s6=true→s5=true
 e:s12=true→s6=true
 f:s17=true→F w∧s2=true∧s5=true∧s6=true∧s12=true∧s13=true
section
variable {wd w w':World} {o1 o2:Obj} {F:World→Prop} {s2 s5 s6 s12 s13 s17:Bool} {v5 v12 v:Value}
theorem Two.start:Two wd o1 o2 F false false false false false false v5 v12 wd:=⟨fun _=>⟨xr,fun h=>(by cases h),fun h=>(by cases h)⟩,fun h=>(by cases h),fun h=>(by cases h),fun h=>(by cases h)⟩
theorem Two.read1 (h:Two wd o1 o2 F s2 false s6 s12 s13 s17 v5 v12 w) (he:Ext w w') (hv:∃ b,v=pp b∧w.heap.size≤b∧w'.heap[b]?=some o1):Two wd o1 o2 F s2 true s6 s12 s13 s17 v v12 w':=by
 have h6:s6=false:=by
  cases h':s6
  ·rfl
  ·have:=h.d h';cases this
 have h17:s17=false:=by
  cases h':s17
  ·rfl
  ·have:=(h.f h').2.2.1;cases this
 obtain ⟨a1,a2,a3⟩:=h.a h17;obtain ⟨b,rfl,hb,hc⟩:=hv;have h12:s12=false:=by
  cases h':s12
  ·rfl
  ·have:=h.e h';rw [h6] at this;cases this
 exact ⟨fun _=>⟨a1.trans he,fun _ _=>⟨b,rfl,Nat.le_trans a1.size hb,hc⟩,fun h=>(by rw [h12] at h;cases h)⟩,fun _=>rfl,h.e,fun h=>by rw [h17] at h;cases h⟩
theorem Two.cur1 (h:Two wd o1 o2 F s2 s5 false s12 s13 s17 v5 v12 w) (h5:s5=true):Ext wd w∧CurAt wd w v5 o1:=by
 have h17:s17=false:=by
  cases h':s17
  ·rfl
  ·have:=(h.f h').2.2.2.1;cases this
 obtain ⟨a1,a2,a3⟩:=h.a h17;exact ⟨a1,a2 h5 rfl⟩
theorem Two.fix1 {u5 u12:Value} (h:Two wd o1 o2 F s2 s5 false s12 s13 s17 v5 v12 w) (h5:s5=true) (he:Ext wd w'):Two wd o1 o2 F s2 s5 true s12 s13 s17 u5 u12 w':=by
 have h17:s17=false:=by
  cases h':s17
  ·rfl
  ·have:=(h.f h').2.2.2.1;cases this
 have h12:s12=false:=by
  cases h':s12
  ·rfl
  ·have:=h.e h';cases this
 exact ⟨fun _=>⟨he,fun _ h=>(by cases h),fun h=>(by rw [h12] at h;cases h)⟩,fun _=>h5,fun _=>rfl,fun h=>(by rw [h17] at h;cases h)⟩
theorem Two.ext2 (h:Two wd o1 o2 F s2 s5 s6 false s13 s17 v5 v12 w):Ext wd w:=by
 have h17:s17=false:=by
  cases h':s17
  ·rfl
  ·have:=(h.f h').2.2.2.2.1;cases this
 exact (h.a h17).1
theorem Two.ext1 (h:Two wd o1 o2 F s2 false s6 s12 s13 s17 v5 v12 w):Ext wd w:=by
 have h17:s17=false:=by
  cases h':s17
  ·rfl
  ·have:=(h.f h').2.2.1;cases this
 exact (h.a h17).1
theorem Two.ext0 (h:Two wd o1 o2 F false s5 s6 s12 s13 s17 v5 v12 w):Ext wd w:=by
 have h17:s17=false:=by
  cases h':s17
  ·rfl
  ·have:=(h.f h').2.1;cases this
 exact (h.a h17).1
theorem Two.load (h:Two wd o1 o2 F false s5 s6 s12 s13 s17 v5 v12 w):Two wd o1 o2 F true s5 s6 s12 s13 s17 v5 v12 w:=by
 have h17:s17=false:=by
  cases h':s17
  ·rfl
  ·have:=(h.f h').2.1;cases this
 exact ⟨h.a,h.d,h.e,fun h=>by rw [h17] at h;cases h⟩
theorem Two.read2 (h:Two wd o1 o2 F s2 s5 s6 false s13 s17 v5 v12 w) (h6:s6=true) (he:Ext w w') (hv:∃ b,v=pp b∧w.heap.size≤b∧w'.heap[b]?=some o2):Two wd o1 o2 F s2 s5 s6 true s13 s17 v5 v w':=by
 have h17:s17=false:=by
  cases h':s17
  ·rfl
  ·have:=(h.f h').2.2.2.2.1;cases this
 obtain ⟨a1,a2,a3⟩:=h.a h17;obtain ⟨b,rfl,hb,hc⟩:=hv;exact ⟨fun _=>⟨a1.trans he,fun _ h=>(by rw [h6] at h;cases h),fun _ _=>⟨b,rfl,Nat.le_trans a1.size hb,hc⟩⟩,h.d,fun _=>h6,fun h=>by rw [h17] at h;cases h⟩
theorem Two.cur2 (h:Two wd o1 o2 F s2 s5 s6 s12 false s17 v5 v12 w) (h12:s12=true):Ext wd w∧CurAt wd w v12 o2:=by
 have h17:s17=false:=by
  cases h':s17
  ·rfl
  ·have:=(h.f h').2.2.2.2.2;cases this
 obtain ⟨a1,a2,a3⟩:=h.a h17;exact ⟨a1,a3 h12 rfl⟩
theorem Two.fix2 (h:Two wd o1 o2 F s2 s5 s6 s12 false s17 v5 v12 w) (h12:s12=true) (he:Ext wd w') {u5 u12:Value}:Two wd o1 o2 F s2 s5 s6 s12 true s17 u5 u12 w':=by
 have h17:s17=false:=by
  cases h':s17
  ·rfl
  ·have:=(h.f h').2.2.2.2.2;cases this
 exact ⟨fun _=>⟨he,fun _ h6=>(by rw [h.e h12] at h6;cases h6),fun _ h=>(by cases h)⟩,h.d,h.e,fun h=>by rw [h17] at h;cases h⟩
end
end V
def hN (l:LB) (k:Nat):Nat:=leN ((l.drop (4*k)).take 4)
def qas (l:LB):Nat × Nat:=
 if l.length<28 then (l.length,10) else if hN l 0≠1095914324 then (0,190) else if hN l 6≠(crcL (l.take 24)).toNat then (24,30) else if hN l 1≠1 then (4,191)
 else if 67108864<hN l 4+hN l 5+36 then (0,2) else if l.length<hN l 4+hN l 5+36 then (l.length,10) else if hN l 4+hN l 5+36<l.length then (hN l 4+hN l 5+36,13) else (0,0)
def zF:List Value:=[ii 0,ii 0,ii 0,ii 0,.slice none 0 0,.slice none 0 0,ii 0,ii 0,.int .u32 0,.int .u32 0]
def okF (l:LB) (A B:oA):List Value:=[ii (hN l 2),ii (hN l 3),ii (hN l 4),ii (hN l 5),.slice A (hN l 4) (hN l 4),.slice B (hN l 5) (hN l 5),ii 28,ii (32+hN l 4:Nat),
 .int .u32 (leN ((l.drop (28+hN l 4)).take 4)),.int .u32 (leN ((l.drop (32+hN l 4+hN l 5)).take 4))]
def FrR (l:LB) (v:Value) (w:World):Prop:=
 ((qas l).2≠0∧∃ ev,v=.tuple #[.agg zF.toArray,ev]∧ErrAt w ev (qas l).1 (qas l).2)∨
 ((qas l).2=0∧∃ A B,v=.tuple #[.agg (okF l A B).toArray,.nilIface]∧SlAt encB 1 w A ((l.drop 28).take (hN l 4))∧SlAt encB 1 w B ((l.drop (32+hN l 4)).take (hN l 5)))
theorem qaag (l:LB) (k:Nat):hN l k<4294967296:=by
 have:=qyt ((l.drop (4*k)).take 4);have h2:((l.drop (4*k)).take 4).length≤4:=by simp;omega
 have h3:256 ^ ((l.drop (4*k)).take 4).length≤256 ^ 4:=Nat.pow_le_pow_right Od h2;have h4:(256:Nat) ^ 4=4294967296:=by decide
 unfold hN;omega
def nsL (l:LB) (i:Nat):List Value:=(List.range 7).map fun k=>Value.int .u64 ((if k<i then hN l k else 0:Nat):Int)
theorem q7q (l:LB) (i:Nat) (hi:i<7):(nsL l i).toArray.setIfInBounds i (.int .u64 (hN l i))=(nsL l (i+1)).toArray:=by
 rw [← Array.toList_inj];simp only [Array.toList_setIfInBounds];apply List.ext_getElem?;intro j;rw [List.getElem?_set];simp only [nsL,List.length_map,List.length_range,List.getElem?_map]
 by_cases e:i=j
 ·subst e;rw [if_pos rfl,if_pos hi,List.getElem?_range hi];simp
 ·rw [if_neg e]
  by_cases hj:j<7
  ·rw [List.getElem?_range hj];simp only [Option.map_some];have:(j<i+1)↔(j<i):=by omega
   simp only [this]
  ·rw [List.getElem?_eq_none Ys];rfl
theorem quz (l:LB) (A:oA) (c:Nat) (w:World) (hS:SlAt encB 1 w A l) (hc:l.length≤c) (hl:l.length≤140737488355328) (hT:CellsAt w 1 0 qhp) :
  Gv Tryz.prog 47 [.slice A l.length c] w fun v w'=>FrR l v w'∧Ext w w':=by
 refine ze Tryz.func47 Tryz.ntmps47 ?_;refine znm (Mem.nil w) ?_;intro r w1 hm;have hm:Mem w w1 [(r,.cells zF.toArray 110)]:=hm;(conv=>whnf);refine zC (fun _=>zw ?_) (fun _=>zw ?_)
 ·refine DrawV.free Jk Jk (zw ?_);apply zsd
  ·intro wd hd;(conv=>whnf);refine LoadA.mem (Mem.call (Mem.drew hm) hd) (i:=0) rfl rfl (zw ?_);exact ⟨xr,rfl⟩
  (conv=>whnf);refine zd ?_;refine zd ?_;apply StepD.of (fun v w=>ErrAt w v (l.length) 10) (fun _ _ _ h he=>h.ext he)
  ·intro wd hd;(conv=>whnf);refine zcv (qfv (l.length) 10 wd) ?_;rintro v w9 ⟨h9,he9⟩;exact ⟨he9,h9⟩
  (conv=>whnf);apply zsd
  ·intro wd hd;(conv=>whnf);rintro ev hev;(conv=>whnf);refine StoreA.same ((Mem.call (Mem.drew hm) hd).get mh) rfl Od ?_;intro w9 he9;exact ⟨he9,rfl⟩
  (conv=>whnf);apply StepD.of (fun v w=>ErrAt w v (l.length) 10) (fun _ _ _ h he=>h.ext he)
  ·intro wd hd;(conv=>whnf);rintro ev hev;(conv=>whnf);rintro ev2 hev2;(conv=>whnf);obtain ⟨eb,rfl,hec⟩:=hev2;(conv=>whnf);exact ⟨xr,eb,rfl,hec⟩
  (conv=>whnf);intro w9 he9;(conv=>whnf);rintro ev ⟨eb,rfl,hec⟩;(conv=>whnf);rintro ev2 hev2;(conv=>whnf);have hm9:=(hm.drew.call he9)
  refine qh (R:=fun v w'=>FrR l v w'∧Ext w w') (zw ?_);refine zl hm9 0 ?_;have hR:qas l=(l.length,10):=by rw [qas,if_pos Oo]
  refine ⟨.inl ⟨by rw [hR];simp,_,rfl,?_⟩,hm9.ext⟩;rw [hR];exact ⟨eb,rfl,hec⟩
 have h28:28≤l.length:=by omega
 have hlt:∀ k,hN l k<4294967296:=fun k=>qaag l k
 refine znm hm fun nb w2 hm=>zw ?_;have hv:BS w2 (.slice A l.length c) l:=⟨A,c,rfl,hc,hS.ext hm.ext⟩
 refine zcv (qda _ l w2 hv) ?_;rintro v w3 ⟨cb,rfl,hcb,hco,he3⟩;have hm:=hm.fresh he3 hcb hco;(conv=>whnf);refine qu (fun i:Nat=>[(0,.slice A l.length c),(2,pp r),(3,.nilIface),(4,pp nb),(5,pp cb),(17,ii i)])
  (fun i w4=>i≤7∧Mem w w4 [(cb,curO 244 (.slice A l.length c) (4*i) 0),(nb,.cells (nsL l i).toArray 184),(r,.cells zF.toArray 110)]) (fun i=>7-i) 0 ⟨rfl,rfl,rfl,rfl,rfl,rfl,trivial⟩ ⟨by omega,hm⟩ ?_
 clear hm;rintro i w4 ρ' ⟨i1,hm⟩;(conv=>whnf);refine zC (fun _=>zw ?_) (fun _=>zw ?_)
 ·have hv:BS w4 (.slice A l.length c) l:=⟨A,c,rfl,hc,hS.ext hm.ext⟩
  refine zcv (qhd cb _ (4*i) l w4 (hm.get mh) hv Oo hl) ?_;rintro v w5 ⟨rfl,hu⟩;have hm:Mem w w5 [(cb,curO 244 (.slice A l.length c) (4*(i+1)) 0),(nb,.cells (nsL l i).toArray 184),(r,.cells zF.toArray 110)]:=hm.upd (i:=0) rfl hu;(conv=>whnf);refine IdxV.nat Oo (zw ?_);refine StoreV.mem hm (i:=1) rfl (by rw [show tsz Tryz.prog 51=1 from by kernel_rfl];simp [nsL];omega) rfl fun w6 hm=>zu ?_;refine ⟨i+1,⟨rfl,rfl,rfl,rfl,rfl,rfl,trivial⟩,⟨by omega,?_⟩,by omega⟩;have e:=q7q l i Oo;rw [← e];have e2:0+i*tsz Tryz.prog 51=i:=by rw [show tsz Tryz.prog 51=1 from by kernel_rfl];omega
  rw [e2] at hm;exact hm
 have hi7:i=7:=by omega
 subst hi7;have hm:Mem w w4 [(cb,curO 244 (.slice A l.length c) 28 0),(nb,.cells #[.int .u64 (hN l 0),.int .u64 (hN l 1),.int .u64 (hN l 2),.int .u64 (hN l 3),.int .u64 (hN l 4),.int .u64 (hN l 5),.int .u64 (hN l 6)] 184),(r,.cells zF.toArray 110)]:=hm;have g0:=hlt 0;have g1:=hlt 1;have g2:=hlt 2;have g3:=hlt 3;have g4:=hlt 4;have g5:=hlt 5;have g6:=hlt 6;refine IdxV.at_ 4 rfl Od (zw ?_);refine zr hm 1 ?_;refine IdxV.at_ 5 rfl Od (zw ?_);refine zr hm 1 ?_;refine zv ?_;have hsz:(hN l 4:Int)+(hN l 5:Int)+28+8=((hN l 4+hN l 5+36:Nat):Int):=by omega
 rw [hsz];refine IdxV.at_ 0 rfl Od (zw ?_);refine zr hm 1 ?_;refine zC (fun _=>zw ?_) (fun _=>zw ?_)
 ·have hm:Mem w _ [(r,.cells zF.toArray 110)]:=hm.sub ((List.sublist_cons_self ..).trans (List.sublist_cons_self ..));refine DrawV.free Jk Jk (zw ?_);apply zsd
  ·intro wd hd;(conv=>whnf);refine LoadA.mem (Mem.call (Mem.drew hm) hd) (i:=0) rfl rfl (zw ?_);exact ⟨xr,rfl⟩
  (conv=>whnf);apply StepD.of (fun v w=>ErrAt w v (0) 190) (fun _ _ _ h he=>h.ext he)
  ·intro wd hd;(conv=>whnf);refine zcv (qfv (0) 190 wd) ?_;rintro v w9 ⟨h9,he9⟩;exact ⟨he9,h9⟩
  (conv=>whnf);apply zsd
  ·intro wd hd;(conv=>whnf);rintro ev hev;(conv=>whnf);refine StoreA.same ((Mem.call (Mem.drew hm) hd).get mh) rfl Od ?_;intro w9 he9;exact ⟨he9,rfl⟩
  (conv=>whnf);apply StepD.of (fun v w=>ErrAt w v (0) 190) (fun _ _ _ h he=>h.ext he)
  ·intro wd hd;(conv=>whnf);rintro ev hev;(conv=>whnf);rintro ev2 hev2;(conv=>whnf);obtain ⟨eb,rfl,hec⟩:=hev2;(conv=>whnf);exact ⟨xr,eb,rfl,hec⟩
  (conv=>whnf);intro w9 he9;(conv=>whnf);rintro ev ⟨eb,rfl,hec⟩;(conv=>whnf);rintro ev2 hev2;(conv=>whnf);have hm9:=(hm.drew.call he9)
  refine qh (R:=fun v w'=>FrR l v w'∧Ext w w') (zw ?_);refine zl hm9 0 ?_;have hR:qas l=(0,190):=by rw [qas,if_neg Oo,if_pos Oo]
  refine ⟨.inl ⟨by rw [hR];simp,_,rfl,?_⟩,hm9.ext⟩;rw [hR];exact ⟨eb,rfl,hec⟩
 have hm:=hm.drew;refine zy ?_;refine IdxV.at_ 6 rfl Od (zw ?_);refine zt ?_;refine LoadV.mem (i:=1) Oa rfl rfl (zw ?_);refine zt ?_;refine SliceV.bs (hS.ext hm.ext) rfl 0 24 c rfl rfl rfl Oo Oo Oo znr (fun _=>rfl) ?_;intro A1 hA1;rw [List.drop_zero] at hA1;refine zu ?_;refine ⟨.int .u32 (crcL (l.take 24)).toNat,qnd (l.take 24) A1 _ _ _ hA1 Ys Ys (hT.ext hm.ext),?_⟩;(conv=>whnf);refine zt ?_;refine zC (fun _=>zw ?_) (fun _=>zw ?_)
 ·have hm:Mem w _ [(r,.cells zF.toArray 110)]:=hm.sub ((List.sublist_cons_self ..).trans (List.sublist_cons_self ..));refine DrawV.free Jk Jk (zw ?_);apply zsd
  ·intro wd hd;(conv=>whnf);refine LoadA.mem (Mem.call (Mem.drew hm) hd) (i:=0) rfl rfl (zw ?_);exact ⟨xr,rfl⟩
  (conv=>whnf);apply StepD.of (fun v w=>ErrAt w v (24) 30) (fun _ _ _ h he=>h.ext he)
  ·intro wd hd;(conv=>whnf);refine zcv (qfv (24) 30 wd) ?_;rintro v w9 ⟨h9,he9⟩;exact ⟨he9,h9⟩
  (conv=>whnf);apply zsd
  ·intro wd hd;(conv=>whnf);rintro ev hev;(conv=>whnf);refine StoreA.same ((Mem.call (Mem.drew hm) hd).get mh) rfl Od ?_;intro w9 he9;exact ⟨he9,rfl⟩
  (conv=>whnf);apply StepD.of (fun v w=>ErrAt w v (24) 30) (fun _ _ _ h he=>h.ext he)
  ·intro wd hd;(conv=>whnf);rintro ev hev;(conv=>whnf);rintro ev2 hev2;(conv=>whnf);obtain ⟨eb,rfl,hec⟩:=hev2;(conv=>whnf);exact ⟨xr,eb,rfl,hec⟩
  (conv=>whnf);intro w9 he9;(conv=>whnf);rintro ev ⟨eb,rfl,hec⟩;(conv=>whnf);rintro ev2 hev2;(conv=>whnf);have hm9:=(hm.drew.call he9)
  refine qh (R:=fun v w'=>FrR l v w'∧Ext w w') (zw ?_);refine zl hm9 0 ?_;have hR:qas l=(24,30):=by rw [qas,if_neg Oo,if_neg Oo,if_pos Oo]
  refine ⟨.inl ⟨by rw [hR];simp,_,rfl,?_⟩,hm9.ext⟩;rw [hR];exact ⟨eb,rfl,hec⟩
 refine IdxV.at_ 1 rfl Od (zw ?_);refine zr hm 1 ?_
 (repeat' refine zC (fun _=>zw ?_) (fun _=>zw ?_))
 ·have hm:Mem w _ [(r,.cells zF.toArray 110)]:=hm.sub ((List.sublist_cons_self ..).trans (List.sublist_cons_self ..));refine DrawV.free Jk Jk (zw ?_);apply zsd
  ·intro wd hd;(conv=>whnf);refine LoadA.mem (Mem.call (Mem.drew hm) hd) (i:=0) rfl rfl (zw ?_);exact ⟨xr,rfl⟩
  (conv=>whnf);apply StepD.of (fun v w=>ErrAt w v (4) 191) (fun _ _ _ h he=>h.ext he)
  ·intro wd hd;(conv=>whnf);refine zcv (qfv (4) 191 wd) ?_;rintro v w9 ⟨h9,he9⟩;exact ⟨he9,h9⟩
  (conv=>whnf);apply zsd
  ·intro wd hd;(conv=>whnf);rintro ev hev;(conv=>whnf);refine StoreA.same ((Mem.call (Mem.drew hm) hd).get mh) rfl Od ?_;intro w9 he9;exact ⟨he9,rfl⟩
  (conv=>whnf);apply StepD.of (fun v w=>ErrAt w v (4) 191) (fun _ _ _ h he=>h.ext he)
  ·intro wd hd;(conv=>whnf);rintro ev hev;(conv=>whnf);rintro ev2 hev2;(conv=>whnf);obtain ⟨eb,rfl,hec⟩:=hev2;(conv=>whnf);exact ⟨xr,eb,rfl,hec⟩
  (conv=>whnf);intro w9 he9;(conv=>whnf);rintro ev ⟨eb,rfl,hec⟩;(conv=>whnf);rintro ev2 hev2;(conv=>whnf);have hm9:=(hm.drew.call he9)
  refine qh (R:=fun v w'=>FrR l v w'∧Ext w w') (zw ?_);refine zl hm9 0 ?_;have hR:qas l=(4,191):=by rw [qas,if_neg Oo,if_neg Oo,if_neg Oo,if_pos Oo]
  refine ⟨.inl ⟨by rw [hR];simp,_,rfl,?_⟩,hm9.ext⟩;rw [hR];exact ⟨eb,rfl,hec⟩
 ·have hm:Mem w _ [(r,.cells zF.toArray 110)]:=hm.sub ((List.sublist_cons_self ..).trans (List.sublist_cons_self ..));refine DrawV.free Jk Jk (zw ?_);apply zsd
  ·intro wd hd;(conv=>whnf);refine LoadA.mem (Mem.call (Mem.drew hm) hd) (i:=0) rfl rfl (zw ?_);exact ⟨xr,rfl⟩
  (conv=>whnf);apply StepD.of (fun v w=>ErrAt w v (0) 2) (fun _ _ _ h he=>h.ext he)
  ·intro wd hd;(conv=>whnf);refine zcv (qfv (0) 2 wd) ?_;rintro v w9 ⟨h9,he9⟩;exact ⟨he9,h9⟩
  (conv=>whnf);apply zsd
  ·intro wd hd;(conv=>whnf);rintro ev hev;(conv=>whnf);refine StoreA.same ((Mem.call (Mem.drew hm) hd).get mh) rfl Od ?_;intro w9 he9;exact ⟨he9,rfl⟩
  (conv=>whnf);apply StepD.of (fun v w=>ErrAt w v (0) 2) (fun _ _ _ h he=>h.ext he)
  ·intro wd hd;(conv=>whnf);rintro ev hev;(conv=>whnf);rintro ev2 hev2;(conv=>whnf);obtain ⟨eb,rfl,hec⟩:=hev2;(conv=>whnf);exact ⟨xr,eb,rfl,hec⟩
  (conv=>whnf);intro w9 he9;(conv=>whnf);rintro ev ⟨eb,rfl,hec⟩;(conv=>whnf);rintro ev2 hev2;(conv=>whnf);have hm9:=(hm.drew.call he9)
  refine qh (R:=fun v w'=>FrR l v w'∧Ext w w') (zw ?_);refine zl hm9 0 ?_;have hR:qas l=(0,2):=by rw [qas,if_neg Oo,if_neg Oo,if_neg Oo,if_neg Oo,if_pos Oo]
  refine ⟨.inl ⟨by rw [hR];simp,_,rfl,?_⟩,hm9.ext⟩;rw [hR];exact ⟨eb,rfl,hec⟩
 ·have hm:Mem w _ [(r,.cells zF.toArray 110)]:=hm.sub ((List.sublist_cons_self ..).trans (List.sublist_cons_self ..));refine DrawV.free Jk Jk (zw ?_);apply zsd
  ·intro wd hd;(conv=>whnf);refine LoadA.mem (Mem.call (Mem.drew hm) hd) (i:=0) rfl rfl (zw ?_);exact ⟨xr,rfl⟩
  (conv=>whnf);refine zd ?_;refine zd ?_;apply StepD.of (fun v w=>ErrAt w v (l.length) 10) (fun _ _ _ h he=>h.ext he)
  ·intro wd hd;(conv=>whnf);refine zcv (qfv (l.length) 10 wd) ?_;rintro v w9 ⟨h9,he9⟩;exact ⟨he9,h9⟩
  (conv=>whnf);apply zsd
  ·intro wd hd;(conv=>whnf);rintro ev hev;(conv=>whnf);refine StoreA.same ((Mem.call (Mem.drew hm) hd).get mh) rfl Od ?_;intro w9 he9;exact ⟨he9,rfl⟩
  (conv=>whnf);apply StepD.of (fun v w=>ErrAt w v (l.length) 10) (fun _ _ _ h he=>h.ext he)
  ·intro wd hd;(conv=>whnf);rintro ev hev;(conv=>whnf);rintro ev2 hev2;(conv=>whnf);obtain ⟨eb,rfl,hec⟩:=hev2;(conv=>whnf);exact ⟨xr,eb,rfl,hec⟩
  (conv=>whnf);intro w9 he9;(conv=>whnf);rintro ev ⟨eb,rfl,hec⟩;(conv=>whnf);rintro ev2 hev2;(conv=>whnf);have hm9:=(hm.drew.call he9)
  refine qh (R:=fun v w'=>FrR l v w'∧Ext w w') (zw ?_);refine zl hm9 0 ?_;have hR:qas l=(l.length,10):=by rw [qas,if_neg Oo,if_neg Oo,if_neg Oo,if_neg Oo,if_neg Oo,if_pos Oo]
  refine ⟨.inl ⟨by rw [hR];simp,_,rfl,?_⟩,hm9.ext⟩;rw [hR];exact ⟨eb,rfl,hec⟩
 ·have hm:Mem w _ [(r,.cells zF.toArray 110)]:=hm.sub ((List.sublist_cons_self ..).trans (List.sublist_cons_self ..));refine DrawV.free Jk Jk (zw ?_);apply zsd
  ·intro wd hd;(conv=>whnf);refine LoadA.mem (Mem.call (Mem.drew hm) hd) (i:=0) rfl rfl (zw ?_);exact ⟨xr,rfl⟩
  (conv=>whnf);refine zd ?_;apply StepD.of (fun v w=>ErrAt w v (hN l 4+hN l 5+36) 13) (fun _ _ _ h he=>h.ext he)
  ·intro wd hd;(conv=>whnf);refine zcv (qfv (hN l 4+hN l 5+36) 13 wd) ?_;rintro v w9 ⟨h9,he9⟩;exact ⟨he9,h9⟩
  (conv=>whnf);apply zsd
  ·intro wd hd;(conv=>whnf);rintro ev hev;(conv=>whnf);refine StoreA.same ((Mem.call (Mem.drew hm) hd).get mh) rfl Od ?_;intro w9 he9;exact ⟨he9,rfl⟩
  (conv=>whnf);apply StepD.of (fun v w=>ErrAt w v (hN l 4+hN l 5+36) 13) (fun _ _ _ h he=>h.ext he)
  ·intro wd hd;(conv=>whnf);rintro ev hev;(conv=>whnf);rintro ev2 hev2;(conv=>whnf);obtain ⟨eb,rfl,hec⟩:=hev2;(conv=>whnf);exact ⟨xr,eb,rfl,hec⟩
  (conv=>whnf);intro w9 he9;(conv=>whnf);rintro ev ⟨eb,rfl,hec⟩;(conv=>whnf);rintro ev2 hev2;(conv=>whnf);have hm9:=(hm.drew.call he9)
  refine qh (R:=fun v w'=>FrR l v w'∧Ext w w') (zw ?_);refine zl hm9 0 ?_;have hR:qas l=(hN l 4+hN l 5+36,13):=by rw [qas,if_neg Oo,if_neg Oo,if_neg Oo,if_neg Oo,if_neg Oo,if_neg Oo,if_pos Oo]
  refine ⟨.inl ⟨by rw [hR];simp,_,rfl,?_⟩,hm9.ext⟩;rw [hR];exact ⟨eb,rfl,hec⟩
 have hR:qas l=(0,0):=by rw [qas,if_neg Oo,if_neg Oo,if_neg Oo,if_neg Oo,if_neg Oo,if_neg Oo,if_neg Oo]
 refine IdxV.at_ 2 rfl Od (zw ?_);refine zr hm 1 ?_;refine zv ?_;refine IdxV.at_ 3 rfl Od (zw ?_);refine zr hm 1 ?_;refine zv ?_;refine IdxV.at_ 4 rfl Od (zw ?_);refine zr hm 1 ?_;refine zv ?_;refine IdxV.at_ 5 rfl Od (zw ?_);refine zr hm 1 ?_;refine zv ?_;refine StoreA.mem hm (i:=2) rfl (show 0+4≤10 by decide) (by intro v hv;simp at hv;rcases hv with rfl|rfl|rfl|rfl<;>rfl) ?_;intro w5 hm;have hm:Mem w w5 [_,_,(r,.cells #[ii (hN l 2),ii (hN l 3),ii (hN l 4),ii (hN l 5),.slice none 0 0,.slice none 0 0,ii 0,ii 0,.int .u32 0,.int .u32 0] 110)]:=hm;(conv=>whnf);refine StoreV.mem hm (i:=2) rfl (show 6<10 by decide) rfl ?_;intro w6 hm;have hm:Mem w w6 [_,_,(r,.cells #[ii (hN l 2),ii (hN l 3),ii (hN l 4),ii (hN l 5),.slice none 0 0,.slice none 0 0,ii 28,ii 0,.int .u32 0,.int .u32 0] 110)]:=hm;(conv=>whnf);refine IdxV.at_ 4 rfl Od (zw ?_);refine zr hm 1 ?_;refine zv ?_;refine StoreV.mem hm (i:=2) rfl (show 7<10 by decide) rfl ?_;intro w7 hm;have hm:Mem w w7 [_,_,(r,.cells #[ii (hN l 2),ii (hN l 3),ii (hN l 4),ii (hN l 5),.slice none 0 0,.slice none 0 0,ii 28,ii (28+(hN l 4:Int)+4),.int .u32 0,.int .u32 0] 110)]:=hm;have e32:28+(hN l 4:Int)+4=((32+hN l 4:Nat):Int):=by omega
 rw [e32] at hm;(conv=>whnf);refine zr hm 2 ?_;refine zr hm 2 ?_;refine zt ?_;refine LoadV.mem (i:=2) Oa rfl rfl (zw ?_);refine zt ?_;refine SliceV.bs hS rfl 28 (28+hN l 4) (28+hN l 4) rfl (by show ((32+hN l 4:Nat):Int)-4=((28+hN l 4:Nat):Int);omega) (by show ((32+hN l 4:Nat):Int)-4=((28+hN l 4:Nat):Int);omega) Oo Oo znr Oo (fun _=>rfl) ?_;intro A1 hA1;have e28:28+hN l 4-28=hN l 4:=by omega
 rw [e28] at hA1 ⊢;(conv=>whnf);refine StoreV.mem hm (i:=2) rfl (show 4<10 by decide) rfl ?_;intro w8 hm;have hm:Mem w w8 [_,_,(r,.cells #[ii (hN l 2),ii (hN l 3),ii (hN l 4),ii (hN l 5),.slice A1 (hN l 4) (hN l 4),.slice none 0 0,ii 28,ii ((32+hN l 4:Nat):Int),.int .u32 0,.int .u32 0] 110)]:=hm;(conv=>whnf);refine zr hm 2 ?_;refine zv ?_;refine SliceV.bs hS rfl (32+hN l 4) (32+hN l 4+hN l 5) (32+hN l 4+hN l 5) rfl (by show ((hN l 4:Int)+(hN l 5:Int))+28+8-4=((32+hN l 4+hN l 5:Nat):Int);omega) (by show ((hN l 4:Int)+(hN l 5:Int))+28+8-4=((32+hN l 4+hN l 5:Nat):Int);omega) Oo Oo znr Oo (fun _=>rfl) ?_;intro A2 hA2;have e29:32+hN l 4+hN l 5-(32+hN l 4)=hN l 5:=by omega
 rw [e29] at hA2 ⊢;(conv=>whnf);refine StoreV.mem hm (i:=2) rfl (show 5<10 by decide) rfl ?_;intro w9 hm;have hm:Mem w w9 [_,_,(r,.cells #[ii (hN l 2),ii (hN l 3),ii (hN l 4),ii (hN l 5),.slice A1 (hN l 4) (hN l 4),.slice A2 (hN l 5) (hN l 5),ii 28,ii ((32+hN l 4:Nat):Int),.int .u32 0,.int .u32 0] 110)]:=hm;(conv=>whnf);obtain ⟨g,off,hA,_⟩:=hS.at_ (by intro e;rw [e] at h28;simp at h28);subst hA;obtain ⟨n1,hn1⟩:∃ n,n=leN ((l.drop (28+hN l 4)).take 4):=⟨_,rfl⟩
 obtain ⟨n2,hn2⟩:∃ n,n=leN ((l.drop (32+hN l 4+hN l 5)).take 4):=⟨_,rfl⟩
 have b1:n1<4294967296:=by
  have:=qaw (l.drop (28+hN l 4)) 4 (by rw [zld];omega);rw [hn1];simpa using this
 have b2:n2<4294967296:=by
  have:=qaw (l.drop (32+hN l 4+hN l 5)) 4 (by rw [zld];omega);rw [hn2];simpa using this
 have hBA:∀ wx,Ext w wx→BS wx (.slice (some ⟨g,off+(28+hN l 4),none⟩) (l.length-(28+hN l 4)) (c-(28+hN l 4))) (l.drop (28+hN l 4)):=fun wx he=>BS.rest (hS.ext he) hc Oo
 have hBB:∀ wx,Ext w wx→BS wx (.slice (some ⟨g,off+(32+hN l 4+hN l 5),none⟩) (l.length-(32+hN l 4+hN l 5)) (c-(32+hN l 4+hN l 5))) (l.drop (32+hN l 4+hN l 5)):=fun wx he=>BS.rest (hS.ext he) hc Oo
 obtain ⟨F,hF⟩:∃ F:World→Prop,F=fun w'=>Mem w w' [(cb,curO 244 (.slice (some ⟨g,off,none⟩) l.length c) 28 0),(nb,.cells (nsL l 7).toArray 184),(r,.cells #[ii (hN l 2),ii (hN l 3),ii (hN l 4),ii (hN l 5),.slice A1 (hN l 4) (hN l 4),.slice A2 (hN l 5) (hN l 5),ii 28,ii ((32+hN l 4:Nat):Int),.int .u32 n1,.int .u32 n2] 110)]:=⟨_,rfl⟩
 refine DrawV.gen (fun S vals w'=>Two w9.drew (curO 244 (.slice (some ⟨g,off+(28+hN l 4),none⟩) (l.length-(28+hN l 4)) (c-(28+hN l 4))) 0 0) (curO 244 (.slice (some ⟨g,off+(32+hN l 4+hN l 5),none⟩) (l.length-(32+hN l 4+hN l 5)) (c-(32+hN l 4+hN l 5))) 0 0) F (S 2) (S 5) (S 6) (S 12) (S 13) (S 17) (vals 5) (vals 12) w') rfl Jk (fun vals=>Two.start) (zw ?_);refine zg ?_;refine zg ?_
 ·refine StepG.of (ii ((32+hN l 4:Nat):Int)) (fun S vals wd hk hp hI=>?_) (zw ?_)
  ·dsimp only at hI;rw [hk] at hI;(conv=>whnf);refine LoadV.mem (hm.drew.call hI.ext0) (i:=2) rfl rfl (zw ?_);exact ⟨rfl,hI.load⟩
  refine zg ?_
  ·refine StepG.of (.slice (some ⟨g,off+(28+hN l 4),none⟩) (l.length-(28+hN l 4)) (c-(28+hN l 4))) (fun S vals wd hk hp hI=>zw ?_) (zw ?_)
   ·refine SliceV.rest (28+hN l 4) (by show ((32+hN l 4:Nat):Int)-4=((28+hN l 4:Nat):Int);omega) hc Oo (zw ?_);exact ⟨rfl,hI⟩
   ·refine StepG.any (fun S vals wd hk hp hI=>?_) (zw ?_)
    ·dsimp only at hI;rw [hk] at hI;(conv=>whnf);refine zcv (qda _ _ wd (hBA wd (hm.drew.ext.trans hI.ext1))) ?_;rintro v wx ⟨b,rfl,hb,hb2,he⟩;(conv=>whnf);exact ⟨trivial,Two.read1 hI he ⟨b,rfl,hb,hb2⟩⟩
    refine StepG.of (.int .u64 n1) (fun S vals wd hk hp hI=>?_) (zw ?_)
    ·dsimp only at hI;have h5:S 5=true:=hp 5 Od;rw [hk] at hI;obtain ⟨he0,b,hv5,hb,hb2⟩:=hI.cur1 h5;rw [qr hv5];(conv=>whnf);refine zcv (qhd b _ 0 (l.drop (28+hN l 4)) wd hb2 (hBA wd (hm.drew.ext.trans he0)) (by rw [zld];omega) (by rw [zld];omega)) ?_;rintro v wx ⟨rfl,hu⟩;(conv=>whnf);exact ⟨by rw [hn1,List.drop_zero];rfl,hI.fix1 h5 (hu.ext he0 hb)⟩
    (iterate 4 (refine zg ?_))
    ·refine StepG.of (.slice (some ⟨g,off+(32+hN l 4+hN l 5),none⟩) (l.length-(32+hN l 4+hN l 5)) (c-(32+hN l 4+hN l 5))) (fun S vals wd hk hp hI=>zw ?_) (zw ?_)
     ·refine SliceV.rest (32+hN l 4+hN l 5) (by show ((hN l 4+hN l 5+36:Nat):Int)-4=((32+hN l 4+hN l 5:Nat):Int);omega) hc Oo (zw ?_);exact ⟨rfl,hI⟩
     refine StepG.any (fun S vals wd hk hp hI=>?_) (zw ?_)
     ·dsimp only at hI;have h6:S 6=true:=hp 6 Od;rw [hk] at hI;(conv=>whnf);refine zcv (qda _ _ wd (hBB wd (hm.drew.ext.trans hI.ext2))) ?_;rintro v wx ⟨b,rfl,hb,hb2,he⟩;(conv=>whnf);exact ⟨trivial,Two.read2 hI h6 he ⟨b,rfl,hb,hb2⟩⟩
     refine StepG.of (.int .u64 n2) (fun S vals wd hk hp hI=>?_) (zw ?_)
     ·dsimp only at hI;have h12:S 12=true:=hp 12 Od;rw [hk] at hI;obtain ⟨he0,b,hv5,hb,hb2⟩:=hI.cur2 h12;rw [qr hv5];(conv=>whnf);refine zcv (qhd b _ 0 (l.drop (32+hN l 4+hN l 5)) wd hb2 (hBB wd (hm.drew.ext.trans he0)) (by rw [zld];omega) (by rw [zld];omega)) ?_;rintro v wx ⟨rfl,hu⟩;(conv=>whnf);exact ⟨by rw [hn2,List.drop_zero];rfl,hI.fix2 h12 (hu.ext he0 hb)⟩
     (iterate 3 (refine zg ?_));refine StepG.of undef (fun S vals wd hk hp hI=>?_) (zw ?_)
     ·dsimp only at hI;have h2:S 2=true:=hp 2 Od;have h5:S 5=true:=hp 5 Od;have h6:S 6=true:=hp 6 Od;have h12:S 12=true:=hp 12 Od;have h13:S 13=true:=hp 13 Od;rw [hk] at hI;have he0:=(hI.a rfl).1;(conv=>whnf);refine StoreA.mem (hm.drew.call he0) (i:=2) rfl (show 8+2≤10 by decide) (by intro v hv;simp at hv;rcases hv with rfl|rfl<;>rfl) fun wx hmx=>zw ?_;refine ⟨rfl,?_⟩;refine ⟨fun h=>(by cases h),hI.d,hI.e,fun _=>⟨by rw [hF];exact hmx,h2,h5,h6,h12,h13⟩⟩
     intro vals w10 hI;have hm10:=(hI.f rfl).1;rw [hF] at hm10;(conv=>whnf);refine zl hm10 2 ?_;refine StoreA.same (hm10.get (zmc (zmc mh))) rfl (by intro v hv;simp at hv;rcases hv with rfl|rfl|rfl|rfl|rfl|rfl|rfl|rfl|rfl|rfl<;>rfl) fun w11 he11=>zw ?_;refine qh (R:=fun v w'=>FrR l v w'∧Ext w w') (zw ?_);have hm11:=hm10.call he11;refine zl hm11 2 ?_;refine ⟨.inr ⟨by rw [hR],A1,A2,?_,?_,?_⟩,hm11.ext⟩
     ·rw [okF,← hn1,← hn2];rfl
     ·exact hA1.ext hm11.ext
     ·exact hA2.ext hm11.ext
theorem qds (t:TM) (ht:TermOk t) (w:World) (hM:MaxLenAt w) (hT:CellsAt w 6 0 qay) :
  Gv Tryz.prog 54 [qbk t] w fun r w'=>r=(if qbr t=0 then .tuple #[.string ⟨(qba t).toArray⟩,ii 0] else .tuple #[.string ⟨#[]⟩,ii (qbr t)])∧Ext w w':=by
 refine ze Tryz.func54 Tryz.ntmps54 ?_;refine znm (Mem.nil w) ?_;intro tb w1 hm;have hm:Mem w w1 [(tb,.cells #[ii t.kind,.string t.text,.string t.type,.string t.lang] 66)]:=hm;(conv=>whnf);refine zl hm 0 ?_;refine zcv (qgx t ht w1 (hM.ext hm.ext) (hT.ext hm.ext)) ?_;rintro r w2 ⟨rfl,he2⟩;have hm:=hm.call he2;obtain ⟨e,ee⟩:∃ e,e=qbr t:=⟨_,rfl⟩
 rw [← ee];conv=>whnf
 (repeat' (first|refine zC (fun _=>zw ?_) (fun _=>zw ?_)|refine LoadV.mem (i:=0) Oa rfl rfl (zw ?_)))
 ·rw [if_neg Oo];exact ⟨rfl,hm.ext⟩
 ·have h1:qba t=t.text.data.toList:=by rw [qba,if_neg Oa]
  rw [if_pos Oo,h1];exact ⟨rfl,hm.ext⟩
 rw [if_pos Oo];have hk3:t.kind=3:=by omega
 have htx:=ht.text;have hty:=ht.type;have htl:=ht.lang;obtain ⟨R,eR,hRl⟩:∃ R:ByteArray,R=⟨(Lib.replaceAll t.text.data.toList [0] [0,1]).toArray⟩∧R.data.toList=escL t.text.data.toList:=⟨_,rfl,q8j _⟩
 have hRs:R.size≤2*t.text.size:=by
  have h1:R.size=R.data.toList.length:=rfl;have h2:=q2f t.text.data.toList;rw [h1,hRl];exact h2
 have hz2:(⟨#[0,0]⟩:ByteArray).size=2:=rfl;have hz1:(⟨#[0]⟩:ByteArray).size=1:=rfl;refine DrawV.free Jk Jk (zw ?_);refine zd ?_;refine zf ?_ (by intro wd hd;(conv=>whnf);refine LoadV.mem (Mem.call (Mem.drew hm) hd) (i:=0) rfl rfl ?_;(conv=>whnf);exact ⟨xr,rfl⟩);refine zsd (.string R) (fun wd hd=>zw ?_) (zw ?_)
 ·refine zcv (qfo t.text ⟨#[0]⟩ ⟨#[0,1]⟩ wd (hM.ext (hm.drew.call hd).ext) rfl Oo (.inl ⟨rfl,rfl⟩)) ?_;rintro r w5 ⟨rfl,he⟩;exact ⟨he,by rw [eR]⟩
 apply zsd
 ·intro wd hd;(conv=>whnf);refine Obl.mk (by rw [hz2];omega) (zw ?_);exact ⟨xr,rfl⟩
 (conv=>whnf);refine zd ?_;refine zf ?_ (by intro wd hd;(conv=>whnf);refine LoadV.mem (Mem.call (Mem.drew hm) hd) (i:=0) rfl rfl ?_;(conv=>whnf);exact ⟨xr,rfl⟩);apply zsd
 ·intro wd hd;(conv=>whnf);refine Obl.mk (by simp only [ByteArray.size_append];rw [hz2];omega) (zw ?_);exact ⟨xr,rfl⟩
 (conv=>whnf);apply zsd
 ·intro wd hd;(conv=>whnf);refine Obl.mk (by simp only [ByteArray.size_append];rw [hz2,hz1];omega) (zw ?_);exact ⟨xr,rfl⟩
 (conv=>whnf);refine zd ?_;refine zf ?_ (by intro wd hd;(conv=>whnf);refine LoadV.mem (Mem.call (Mem.drew hm) hd) (i:=0) rfl rfl ?_;(conv=>whnf);exact ⟨xr,rfl⟩);apply zsd
 ·intro wd hd;(conv=>whnf);refine Obl.mk (by simp only [ByteArray.size_append];rw [hz2,hz1];omega) (zw ?_);exact ⟨xr,rfl⟩
 (conv=>whnf);refine zd ?_;refine zd ?_;intro w3 he3;(conv=>whnf);refine ⟨?_,(hm.drew.call he3).ext⟩;have:R++⟨#[0,0]⟩++t.type++⟨#[0]⟩++t.lang=⟨(qba t).toArray⟩:=qct (by simp [qba,hk3,hRl,ByteArray.data_append]);rw [this]
noncomputable def qcl (kind:Int) (s:LB):Value:=
 match qgn kind s with
 | some t=>.tuple #[qbk t,.int .i64 0]
 | none=>.tuple #[.agg #[.int .i64 0,.string ⟨#[]⟩,.string ⟨#[]⟩,.string ⟨#[]⟩],.int .i64 170]
theorem qed {kind:Int} {s:LB} {t:TM} (h:ReadsAs kind s t):qcl kind s=.tuple #[qbk t,ii 0]:=by rw [qcl,qld h]
theorem qbi {kind:Int} {s:LB} (h:∀ t,¬ ReadsAs kind s t):qcl kind s=.tuple #[.agg #[ii 0,.string ⟨#[]⟩,.string ⟨#[]⟩,.string ⟨#[]⟩],ii 170]:=by rw [qcl,qvu h]
theorem qxl (s sep:LB):(Lib.cut s sep).1.length≤s.length∧(Lib.cut s sep).2.1.length≤s.length:=by
 unfold Lib.cut
 split<;>simp<;>exact Nat.min_le_right _ _
theorem q8k:∀ (l:LB),(Lib.replaceAll l [0,1] [0]).length≤l.length:=by
 intro l
 induction h:l.length using Nat.strongRecOn generalizing l with
 | _ n ih=>
  by_cases hm:Lib.index l [0,1]=-1
  ·rw [qfd Od hm];omega
  ·obtain ⟨i,hi⟩:∃ i:Nat,Lib.index l [0,1]=i:=⟨(Lib.index l [0,1]).toNat,by have:=Lib.index_ge l [0,1];omega⟩
   have hroom:i+2≤l.length:=by
    rcases Lib.indexB_cases ⟨l.toArray⟩ ⟨#[0,1]⟩ with h1|⟨j,h1,h2⟩
    ·exact absurd h1 hm
    ·have h3:(Lib.index l [0,1])=j:=h1;have h4:j+2≤l.length:=h2;omega
   rw [qgo Od Js hi,show i+([0,1]:LB).length=i+2 from rfl];have:=ih (l.drop (i+2)).length (by rw [zld];omega) (l.drop (i+2)) rfl;simp only [zla,List.length_take,List.length_cons,List.length_nil,zld] at this ⊢;omega
theorem qp2 (kind:Int) (hk:kind=1∨kind=2∨kind=3) (s:ByteArray) (hs:s.size≤262144) (w:World) (hM:MaxLenAt w) (hT:CellsAt w 6 0 qay) :
  Gv Tryz.prog 101 [ii kind,.string s] w fun r w'=>r=qcl kind s.data.toList∧Ext w w':=by
 rcases hk with rfl|rfl|rfl
 all_goals
  refine ze Tryz.func101 Tryz.ntmps101 ?_;refine znm (Mem.nil w) fun r4 w1 hm=>zw ?_;refine znm hm fun tb w2 hm=>zw ?_;refine zS hm 0 fun w3 hm=>zu ?_
 ·obtain ⟨t,et⟩:∃ t:TM,t=⟨1,s,⟨#[]⟩,⟨#[]⟩⟩:=⟨_,rfl⟩
  have hkind:t.kind=1:=by rw [et]
  have ht:TermOk t:=by rw [et];exact ⟨(show InR .i64 1 from ⟨by decide,by decide⟩),by show s.size≤_;omega,Nat.zero_le _,Nat.zero_le _⟩
  have hm:Mem w w3 [(tb,.cells #[ii t.kind,.string t.text,.string t.type,.string t.lang] 66),(r4,.cells #[ii 0,.string ⟨#[]⟩,.string ⟨#[]⟩,.string ⟨#[]⟩] 66)]:=by rw [et];exact hm
  have huniq:∀ u,ReadsAs 1 s.data.toList u→u=t:=fun u hu=>by
   obtain ⟨h1,h2,h3⟩:=hu.plain Od;have h4:=hu.kind;rw [et];obtain ⟨uk,ux,uy,ul⟩:=u;dsimp only at h1 h2 h3 h4;rw [h2,h3,h4,qct h1]
  clear et;refine zl hm 0 ?_;refine zcv (qds t ht _ (hM.ext hm.ext) (hT.ext hm.ext)) ?_;rintro r w5 ⟨rfl,he⟩;have hm:=hm.call he
  by_cases hE:qbr t=0
  ·rw [if_pos hE];cases hq:seq ⟨(qba t).toArray⟩ s
   ·have hv:qcl 1 s.data.toList=.tuple #[.agg #[ii 0,.string ⟨#[]⟩,.string ⟨#[]⟩,.string ⟨#[]⟩],ii 170]:=qbi fun u hu=>by
     have e:=huniq u hu;subst e;have:(⟨(qba u).toArray⟩:ByteArray)=s:=qct hu.entry;rw [qar.2 this] at hq;cases hq
    rw [hv];refine zu ?_;rw [hq];refine zu ?_;refine zS hm 1 fun w6 hm=>zw ?_;refine qh (R:=fun v w'=>v=.tuple #[.agg #[ii 0,.string ⟨#[]⟩,.string ⟨#[]⟩,.string ⟨#[]⟩],ii 170]∧Ext w w') (zw ?_);refine zl hm 1 ?_;exact ⟨rfl,hm.ext⟩
   ·have hr:ReadsAs 1 s.data.toList t:=⟨hkind,hE,congrArg (fun b:ByteArray=>b.data.toList) (qar.1 hq)⟩
    rw [qed hr];refine zu ?_;rw [hq];refine zu ?_;refine zl hm 0 ?_;refine zS hm 1 fun w6 hm=>zw ?_;refine qh (R:=fun v w'=>v=.tuple #[qbk t,ii 0]∧Ext w w') (zw ?_);refine zl hm 1 ?_;exact ⟨rfl,hm.ext⟩
  ·rw [if_neg hE];have hv:qcl 1 s.data.toList=.tuple #[.agg #[ii 0,.string ⟨#[]⟩,.string ⟨#[]⟩,.string ⟨#[]⟩],ii 170]:=qbi fun u hu=>hE (huniq u hu ▸ hu.ok)
   rw [hv];refine zu ?_;refine zS hm 1 fun w6 hm=>zw ?_;refine qh (R:=fun v w'=>v=.tuple #[.agg #[ii 0,.string ⟨#[]⟩,.string ⟨#[]⟩,.string ⟨#[]⟩],ii 170]∧Ext w w') (zw ?_);refine zl hm 1 ?_;exact ⟨rfl,hm.ext⟩
 ·obtain ⟨t,et⟩:∃ t:TM,t=⟨2,s,⟨#[]⟩,⟨#[]⟩⟩:=⟨_,rfl⟩
  have hkind:t.kind=2:=by rw [et]
  have ht:TermOk t:=by rw [et];exact ⟨(show InR .i64 2 from ⟨by decide,by decide⟩),by show s.size≤_;omega,Nat.zero_le _,Nat.zero_le _⟩
  have hm:Mem w w3 [(tb,.cells #[ii t.kind,.string t.text,.string t.type,.string t.lang] 66),(r4,.cells #[ii 0,.string ⟨#[]⟩,.string ⟨#[]⟩,.string ⟨#[]⟩] 66)]:=by rw [et];exact hm
  have huniq:∀ u,ReadsAs 2 s.data.toList u→u=t:=fun u hu=>by
   obtain ⟨h1,h2,h3⟩:=hu.plain Od;have h4:=hu.kind;rw [et];obtain ⟨uk,ux,uy,ul⟩:=u;dsimp only at h1 h2 h3 h4;rw [h2,h3,h4,qct h1]
  clear et;refine zl hm 0 ?_;refine zcv (qds t ht _ (hM.ext hm.ext) (hT.ext hm.ext)) ?_;rintro r w5 ⟨rfl,he⟩;have hm:=hm.call he
  by_cases hE:qbr t=0
  ·rw [if_pos hE];cases hq:seq ⟨(qba t).toArray⟩ s
   ·have hv:qcl 2 s.data.toList=.tuple #[.agg #[ii 0,.string ⟨#[]⟩,.string ⟨#[]⟩,.string ⟨#[]⟩],ii 170]:=qbi fun u hu=>by
     have e:=huniq u hu;subst e;have:(⟨(qba u).toArray⟩:ByteArray)=s:=qct hu.entry;rw [qar.2 this] at hq;cases hq
    rw [hv];refine zu ?_;rw [hq];refine zu ?_;refine zS hm 1 fun w6 hm=>zw ?_;refine qh (R:=fun v w'=>v=.tuple #[.agg #[ii 0,.string ⟨#[]⟩,.string ⟨#[]⟩,.string ⟨#[]⟩],ii 170]∧Ext w w') (zw ?_);refine zl hm 1 ?_;exact ⟨rfl,hm.ext⟩
   ·have hr:ReadsAs 2 s.data.toList t:=⟨hkind,hE,congrArg (fun b:ByteArray=>b.data.toList) (qar.1 hq)⟩
    rw [qed hr];refine zu ?_;rw [hq];refine zu ?_;refine zl hm 0 ?_;refine zS hm 1 fun w6 hm=>zw ?_;refine qh (R:=fun v w'=>v=.tuple #[qbk t,ii 0]∧Ext w w') (zw ?_);refine zl hm 1 ?_;exact ⟨rfl,hm.ext⟩
  ·rw [if_neg hE];have hv:qcl 2 s.data.toList=.tuple #[.agg #[ii 0,.string ⟨#[]⟩,.string ⟨#[]⟩,.string ⟨#[]⟩],ii 170]:=qbi fun u hu=>hE (huniq u hu ▸ hu.ok)
   rw [hv];refine zu ?_;refine zS hm 1 fun w6 hm=>zw ?_;refine qh (R:=fun v w'=>v=.tuple #[.agg #[ii 0,.string ⟨#[]⟩,.string ⟨#[]⟩,.string ⟨#[]⟩],ii 170]∧Ext w w') (zw ?_);refine zl hm 1 ?_;exact ⟨rfl,hm.ext⟩
 ·have hcs:=fun w' hM'=>q44 s ⟨#[0,0]⟩ w' hM' Oo
  obtain ⟨tx,rs,ok,ec⟩:∃ tx rs ok,Lib.cut s.data.toList [0,0]=(tx,rs,ok):=⟨_,_,_,rfl⟩
  obtain ⟨ty,la,fi,ed⟩:∃ ty la fi,Lib.cut rs [0]=(ty,la,fi):=⟨_,_,_,rfl⟩
  have hls:s.data.toList.length=s.size:=rfl;have hl1:=qxl s.data.toList [0,0];rw [ec] at hl1;dsimp only at hl1;have hl2:=qxl rs [0];rw [ed] at hl2;dsimp only at hl2;refine zcv (hcs w3 (hM.ext hm.ext)) ?_;rintro r w4 ⟨rfl,he4⟩;have hm:=hm.call he4;have ec':Lib.cut s.data.toList (⟨#[0,0]⟩:ByteArray).data.toList=(tx,rs,ok):=ec;rw [ec'];(conv=>whnf);refine zcv (q44 ⟨rs.toArray⟩ ⟨#[0]⟩ w4 (hM.ext hm.ext) (by show rs.length≤_;omega)) ?_;rintro r w5 ⟨rfl,he5⟩;have hm:=hm.call he5;have ed':Lib.cut (⟨rs.toArray⟩:ByteArray).data.toList (⟨#[0]⟩:ByteArray).data.toList=(ty,la,fi):=ed;rw [ed'];have hgood:∀ u,ReadsAs 3 s.data.toList u→tx=escL u.text.data.toList∧ty=u.type.data.toList∧la=u.lang.data.toList∧ok=true∧fi=true:=fun u hu=>by
   obtain ⟨h1,h2⟩:=hu.lit;have h3:=qqb u.text.data.toList (u.type.data.toList++([0]++u.lang.data.toList));rw [← h1,ec] at h3;cases h3;have h4:=qlz u.type.data.toList u.lang.data.toList h2;rw [ed] at h4;cases h4;exact ⟨rfl,rfl,rfl,rfl,rfl⟩
  by_cases hok:ok=true∧fi=true
  ·obtain ⟨rfl,rfl⟩:=hok;obtain ⟨t,et⟩:∃ t:TM,t=⟨3,⟨(Lib.replaceAll tx [0,1] [0]).toArray⟩,⟨ty.toArray⟩,⟨la.toArray⟩⟩:=⟨_,rfl⟩
   have hkind:t.kind=3:=by rw [et]
   have hrl:=q8k tx;have ht:TermOk t:=by
    rw [et];refine ⟨(show InR .i64 3 from ⟨by decide,by decide⟩),?_,?_,?_⟩
    ·show (Lib.replaceAll tx [0,1] [0]).length≤_;omega
    ·show ty.length≤_;omega
    ·show la.length≤_;omega
   have huniq:∀ u,ReadsAs 3 s.data.toList u→u=t:=fun u hu=>by
    obtain ⟨h1,h2,h3,_,_⟩:=hgood u hu;have h4:=hu.kind;rw [et];obtain ⟨uk,ux,uy,ul⟩:=u;dsimp only at h1 h2 h3 h4;rw [h4,h1,qj1,h2,h3]
   refine zu ?_;refine zcv (qfo ⟨tx.toArray⟩ ⟨#[0,1]⟩ ⟨#[0]⟩ w5 (hM.ext hm.ext) rfl (by show tx.length≤_;omega) (.inr ⟨rfl,rfl⟩)) ?_;rintro r w6 ⟨rfl,he6⟩;have hm:=hm.call he6;(conv=>whnf);refine StoreV.mem hm (i:=0) rfl (by first|(show 1<4;decide)|simp) rfl fun w7 hm=>zw ?_;refine StoreV.mem hm (i:=0) rfl (by first|(show 2<4;decide)|simp) rfl fun w8 hm=>zw ?_;refine StoreV.mem hm (i:=0) rfl (by first|(show 3<4;decide)|simp) rfl ?_;intro w9 hm;have hm:Mem w w9 [(tb,.cells #[ii t.kind,.string t.text,.string t.type,.string t.lang] 66),(r4,.cells #[ii 0,.string ⟨#[]⟩,.string ⟨#[]⟩,.string ⟨#[]⟩] 66)]:=by rw [et];exact hm
   clear et;(conv=>whnf);refine zl hm 0 ?_;refine zcv (qds t ht _ (hM.ext hm.ext) (hT.ext hm.ext)) ?_;rintro r w5 ⟨rfl,he⟩;have hm:=hm.call he
   by_cases hE:qbr t=0
   ·rw [if_pos hE];cases hq:seq ⟨(qba t).toArray⟩ s
    ·have hv:qcl 3 s.data.toList=.tuple #[.agg #[ii 0,.string ⟨#[]⟩,.string ⟨#[]⟩,.string ⟨#[]⟩],ii 170]:=qbi fun u hu=>by
      have e:=huniq u hu;subst e;have:(⟨(qba u).toArray⟩:ByteArray)=s:=qct hu.entry;rw [qar.2 this] at hq;cases hq
     rw [hv];refine zu ?_;rw [hq];refine zu ?_;refine zS hm 1 fun w6 hm=>zw ?_;refine qh (R:=fun v w'=>v=.tuple #[.agg #[ii 0,.string ⟨#[]⟩,.string ⟨#[]⟩,.string ⟨#[]⟩],ii 170]∧Ext w w') (zw ?_);refine zl hm 1 ?_;exact ⟨rfl,hm.ext⟩
    ·have hr:ReadsAs 3 s.data.toList t:=⟨hkind,hE,congrArg (fun b:ByteArray=>b.data.toList) (qar.1 hq)⟩
     rw [qed hr];refine zu ?_;rw [hq];refine zu ?_;refine zl hm 0 ?_;refine zS hm 1 fun w6 hm=>zw ?_;refine qh (R:=fun v w'=>v=.tuple #[qbk t,ii 0]∧Ext w w') (zw ?_);refine zl hm 1 ?_;exact ⟨rfl,hm.ext⟩
   ·rw [if_neg hE];have hv:qcl 3 s.data.toList=.tuple #[.agg #[ii 0,.string ⟨#[]⟩,.string ⟨#[]⟩,.string ⟨#[]⟩],ii 170]:=qbi fun u hu=>hE (huniq u hu ▸ hu.ok)
    rw [hv];refine zu ?_;refine zS hm 1 fun w6 hm=>zw ?_;refine qh (R:=fun v w'=>v=.tuple #[.agg #[ii 0,.string ⟨#[]⟩,.string ⟨#[]⟩,.string ⟨#[]⟩],ii 170]∧Ext w w') (zw ?_);refine zl hm 1 ?_;exact ⟨rfl,hm.ext⟩
  ·have hv:qcl 3 s.data.toList=.tuple #[.agg #[ii 0,.string ⟨#[]⟩,.string ⟨#[]⟩,.string ⟨#[]⟩],ii 170]:=qbi fun u hu=>hok ⟨(hgood u hu).2.2.2.1,(hgood u hu).2.2.2.2⟩
   rw [hv];have hcase:ok=false∨(ok=true∧fi=false):=by
    cases ok
    ·exact .inl rfl
    ·cases fi
     ·exact .inr ⟨rfl,rfl⟩
     ·exact absurd ⟨rfl,rfl⟩ hok
   rcases hcase with rfl|⟨rfl,rfl⟩
   all_goals
    refine zu ?_;refine zS hm 1 fun w6 hm=>zw ?_;refine qh (R:=fun v w'=>v=.tuple #[.agg #[ii 0,.string ⟨#[]⟩,.string ⟨#[]⟩,.string ⟨#[]⟩],ii 170]∧Ext w w') (zw ?_);refine zl hm 1 ?_;exact ⟨rfl,hm.ext⟩
open Go.RowKit Go.Extern.Stop Go.Stop Go.Extern
theorem q9p (t:Value) (w:World) :
  Calls Tryz.prog 118 #[.nilIface,t] w fun e w'=>e=.returned (.bool false)∧w'=w:=by
 go_enter Tryz.func118,Tryz.ntmps118
 go_wp2
 go_ret
 exact ⟨rfl,rfl⟩
theorem qm3 (t:Addr) (w:World):(ReflectliteValue.unpack (.iface 216 (.pointer (some t)))).run Tryz.prog w
  = .ok (.agg #[.pointer (some ⟨7,216,none⟩),.pointer (some ⟨w.heap.size,0,none⟩),.int .u64 150]) (w.alloc (.cells #[.pointer (some t)] 216)):=by kernel_rfl
theorem qvs (a:Addr) (w:World):(ReflectliteValue.methodAny (ReflectliteValue.valueError "reflectlite.Value.Type" 0) (fun t _ _ _=>ReflectliteType.toType t) #[.agg #[.pointer (some ⟨7,216,none⟩),.pointer (some a),.int .u64 150]]).run Tryz.prog w
  = .ok (.iface 308 (.agg #[.pointer (some ⟨7,216,none⟩)])) w:=by kernel_rfl
theorem qko (h:Value) (w:World):(Go.method 514 308 (.agg #[h]) "Kind").run Tryz.prog w=.ok (338,h) w:=by kernel_rfl
theorem qvr (w:World):((ReflectliteType.abiMethod fun t=>(fun a:Nat=>Value.int IntKind.u8 (a:Int)) <$> Rtype.kind t) #[.pointer (some ⟨7,216,none⟩)]).run Tryz.prog w=.ok (.int .u8 22) w:=by kernel_rfl
theorem qvq (w:World):((ReflectliteType.abiMethod fun t=>(fun a:Nat=>Value.int IntKind.u8 (a:Int)) <$> Rtype.kind t) #[.pointer (some ⟨7,104,none⟩)]).run Tryz.prog w=.ok (.int .u8 22) w:=by kernel_rfl
theorem rlm (z:Sem Value) (f:TypeId→Addr→Nat→Nat→Sem Value) (v:Value) :
  ReflectliteValue.method z f #[v]=(do match ← ReflectliteValue.parts v with|none=>z|some (t,a,fl)=>f t a fl (fl%32)):=rfl
theorem qjz (a:Addr) (w:World):(ReflectliteValue.parts (.agg #[.pointer (some ⟨7,216,none⟩),.pointer (some a),.int .u64 150])).run Tryz.prog w=.ok (some (216,a,150)) w:=by kernel_rfl
theorem qq8 (a p:Addr) (W:World) (ha:W.cell? a=some (.pointer (some p))) :
  (ReflectliteValue.method (ReflectliteValue.valueError "reflectlite.Value.IsNil" 0) ReflectliteValue.isNil #[.agg #[.pointer (some ⟨7,216,none⟩),.pointer (some a),.int .u64 150]]).run Tryz.prog W=.ok (.bool false) W:=by
 rw [rlm];simp only [Sem.run_bind,qjz,Result.andThen];simp [ReflectliteValue.isNil,loadVar,isAgg,underlying,Tryz.underlying216,ha,Result.andThen]
theorem qkn (h:Value) (w:World):(Go.method 514 308 (.agg #[h]) "Elem").run Tryz.prog w=.ok (357,.agg #[h]) w:=by kernel_rfl
theorem qfm (h:Value) (w:World):(Go.method 514 308 (.agg #[h]) "Implements").run Tryz.prog w=.ok (358,.agg #[h]) w:=by kernel_rfl
theorem qei (h:Value) (w:World):(Go.method 514 308 (.agg #[h]) "AssignableTo").run Tryz.prog w=.ok (355,.agg #[h]) w:=by kernel_rfl
theorem qvp (w:World):(ReflectliteType.method ReflectliteType.elem #[.agg #[.pointer (some ⟨7,216,none⟩)]]).run Tryz.prog w=.ok (.iface 308 (.agg #[.pointer (some ⟨7,104,none⟩)])) w:=by kernel_rfl
theorem qii (w:World):(ReflectliteType.relation "Implements" ReflectliteType.implements_ #[.agg #[.pointer (some ⟨7,104,none⟩)],.iface 308 (.agg #[.pointer (some ⟨7,37,none⟩)])]).run Tryz.prog w=.ok (.bool true) w:=by kernel_rfl
theorem qpd (v:Value) (w:World):(ReflectliteType.typeOf #[.iface 104 v]).run Tryz.prog w=.ok (.iface 308 (.agg #[.pointer (some ⟨7,104,none⟩)])) w:=by kernel_rfl
theorem qih (w:World):(ReflectliteType.relation "AssignableTo" ReflectliteType.assignableTo #[.agg #[.pointer (some ⟨7,104,none⟩)],.iface 308 (.agg #[.pointer (some ⟨7,104,none⟩)])]).run Tryz.prog w=.ok (.bool true) w:=by kernel_rfl
theorem qm2 (e:Addr) (w:World):(ReflectliteValue.unpack (.iface 104 (.pointer (some e)))).run Tryz.prog w
  = .ok (.agg #[.pointer (some ⟨7,104,none⟩),.pointer (some ⟨w.heap.size,0,none⟩),.int .u64 150]) (w.alloc (.cells #[.pointer (some e)] 104)):=by kernel_rfl
theorem qpb (w:World):(Rtype.elem? 216).run Tryz.prog w=.ok (some 104) w:=by kernel_rfl
theorem q3n (p:Addr) (w:World):(ReflectliteValue.mk 104 p ReflectliteValue.flagAddr).run Tryz.prog w=.ok (.agg #[.pointer (some ⟨7,104,none⟩),.pointer (some p),.int .u64 406]) w:=by kernel_rfl
theorem qq7 (a p:Addr) (W:World) (ha:W.cell? a=some (.pointer (some p))) :
  (ReflectliteValue.method (ReflectliteValue.valueError "reflectlite.Value.Elem" 0) ReflectliteValue.elem #[.agg #[.pointer (some ⟨7,216,none⟩),.pointer (some a),.int .u64 150]]).run Tryz.prog W
   = .ok (.agg #[.pointer (some ⟨7,104,none⟩),.pointer (some p),.int .u64 406]) W:=by
 rw [rlm];simp only [Sem.run_bind,qjz,Result.andThen];simp [ReflectliteValue.elem,loadVar,isAgg,underlying,Tryz.underlying216,ha,Result.andThen,qpb,q3n]
theorem rls (v x:Value):ReflectliteValue.set #[v,x]=(do
  let (some (dst,a,fl),some (src,b,_)):=(← ReflectliteValue.parts v,← ReflectliteValue.parts x)
   | unsupported (.noEntry "extern/(internal/reflectlite.Value).Set.zeroValue")
  if fl/ReflectliteValue.flagAddr%2==0 then unsupported (.noEntry "extern/(internal/reflectlite.Value).Set.unaddressable")
  let val ← loadVar src b
  if ← Rtype.directlyAssignable dst src then storeVar dst a val
  else if ← Rtype.implements dst src then
   if (← Rtype.kind src)==20 then
    match val with
    | .nilIface=>unsupported (.noEntry "extern/reflectlite: a nil value of one interface type handed on as a value of another")
    | _=>storeVar dst a val
   else storeVar dst a (.iface src val)
  else panicString ("reflectlite.Set: value of type "++(← Rtype.spelt src)++ " is not assignable to type "++(← Rtype.spelt dst))
  pure (.tuple #[])):=rfl
theorem qpc (a:Addr) (w:World):(ReflectliteValue.parts (.agg #[.pointer (some ⟨7,104,none⟩),.pointer (some a),.int .u64 406])).run Tryz.prog w=.ok (some (104,a,406)) w:=by kernel_rfl
theorem qq9 (a:Addr) (w:World):(ReflectliteValue.parts (.agg #[.pointer (some ⟨7,104,none⟩),.pointer (some a),.int .u64 150])).run Tryz.prog w=.ok (some (104,a,150)) w:=by kernel_rfl
theorem qpa (w:World):(Rtype.directlyAssignable 104 104).run Tryz.prog w=.ok true w:=by kernel_rfl
theorem qz0 (ta b e:Addr) (old:Value) (W:World) (hb:W.cell? b=some (.pointer (some e))) (ht:W.cell? ta=some old) (hf:W.frozen? ta=false) :
  (ReflectliteValue.set #[.agg #[.pointer (some ⟨7,104,none⟩),.pointer (some ta),.int .u64 406],.agg #[.pointer (some ⟨7,104,none⟩),.pointer (some b),.int .u64 150]]).run Tryz.prog W
   = .ok (.tuple #[]) (W.setCell ta (.pointer (some e))):=by
 rw [rls];simp only [Sem.run_bind,qpc,qq9,Result.andThen];simp [ReflectliteValue.flagAddr,loadVar,isAgg,underlying,Tryz.underlying104,hb,Result.andThen,qpa,storeVar,Value.cells,storeCells,Addr.add];rw [run_store Tryz.prog W ta _ _ (by rfl)];simp [ht,hf]
theorem q9o (e t:Addr) (old:Value) (w:World) (hg:w.cell? ⟨2,0,none⟩=some (.iface 308 (.agg #[.pointer (some ⟨7,37,none⟩)]))) (ht0:w.cell? t=some old) (hf0:w.frozen? t=false) :
  Calls Tryz.prog 118 #[.iface 104 (.pointer (some e)),.iface 216 (.pointer (some t))] w fun ev w'=>ev=.returned (.bool true)∧w'=((((w.alloc (.cells #[.pointer (some t)] 216)).alloc (.cells #[.pointer (some ⟨7,216,none⟩),.pointer (some ⟨w.heap.size,0,none⟩),.int .u64 150] 270)).alloc (.cells #[.pointer (some ⟨7,216,none⟩),.pointer (some ⟨w.heap.size,0,none⟩),.int .u64 150] 270)).alloc (.cells #[.pointer (some e)] 104)).setCell t (.pointer (some e)):=by
 have h6:=@run_callFunc_extern Tryz.prog 180 _ (fun args=>ReflectliteValue.unpack (args.getD 0 (.tuple #[]))) Tryz.func180 Jk Jk Jk Jk;have h7:=@run_callFunc_extern Tryz.prog 181 _ (ReflectliteValue.methodAny (ReflectliteValue.valueError "reflectlite.Value.Type" 0) (fun t _ _ _=>ReflectliteType.toType t)) Tryz.func181 Jk Jk Jk Jk;have h8:=@run_callFunc_extern Tryz.prog 182 _ (ReflectliteValue.method (ReflectliteValue.valueError "reflectlite.Value.IsNil" 0) ReflectliteValue.isNil) Tryz.func182 Jk Jk Jk Jk;have h27:=@run_callFunc_extern Tryz.prog 338 _ (ReflectliteType.abiMethod fun t=>do pure (.int .u8 (← Rtype.kind t))) Tryz.func338 Jk Jk Jk Jk;have h37:=@run_callFunc_extern Tryz.prog 357 _ (ReflectliteType.method ReflectliteType.elem) Tryz.func357 Jk Jk Jk Jk;have h38:=@run_callFunc_extern Tryz.prog 358 _ (ReflectliteType.relation "Implements" ReflectliteType.implements_) Tryz.func358 Jk Jk Jk Jk;have h10:=@run_callFunc_extern Tryz.prog 220 _ ReflectliteType.typeOf Tryz.func220 Jk Jk Jk Jk;have h35:=@run_callFunc_extern Tryz.prog 355 _ (ReflectliteType.relation "AssignableTo" ReflectliteType.assignableTo) Tryz.func355 Jk Jk Jk Jk;have h11:=@run_callFunc_extern Tryz.prog 221 _ (ReflectliteValue.method (ReflectliteValue.valueError "reflectlite.Value.Elem" 0) ReflectliteValue.elem) Tryz.func221 Jk Jk Jk Jk;have h12:=@run_callFunc_extern Tryz.prog 222 _ ReflectliteValue.set Tryz.func222 Jk Jk Jk Jk;have tO:=qpd;have mA:=qei;have a25:=qih;have v25:=qm2;have f6:=qm3;have f7:=qvs;have mK:=qko;have mE:=qkn;have mI:=qfm;have k27:=qvr;have k25:=qvq;have e27:=qvp;have i25:=qii;have n8:=qq8 ⟨w.heap.size,0,none⟩ t ((w.alloc (.cells #[.pointer (some t)] 216)).alloc (.cells #[.pointer (some ⟨7,216,none⟩),.pointer (some ⟨w.heap.size,0,none⟩),.int .u64 150] 270)) Js;have hlt:2<w.heap.size:=by
  rcases Nat.lt_or_ge 2 w.heap.size with h|h
  ·exact h
  ·simp [World.cell?,Array.getElem?_eq_none h] at hg
 have hg2:((w.alloc (.cells #[.pointer (some t)] 216)).alloc (.cells #[.pointer (some ⟨7,216,none⟩),.pointer (some ⟨w.heap.size,0,none⟩),.int .u64 150] 270)).cell? ⟨2,0,none⟩=some (.iface 308 (.agg #[.pointer (some ⟨7,37,none⟩)])):=by
  rw [World.cell?_alloc_lt _ _ ⟨2,0,none⟩ Ys,World.cell?_alloc_lt _ _ ⟨2,0,none⟩ hlt];exact hg
 have htl:t.block<w.heap.size:=by
  rcases Nat.lt_or_ge t.block w.heap.size with h|h
  ·exact h
  ·simp [World.cell?,Array.getElem?_eq_none h] at ht0
 have el:=qq7 ⟨w.heap.size,0,none⟩ t (((w.alloc (.cells #[.pointer (some t)] 216)).alloc (.cells #[.pointer (some ⟨7,216,none⟩),.pointer (some ⟨w.heap.size,0,none⟩),.int .u64 150] 270)).alloc (.cells #[.pointer (some ⟨7,216,none⟩),.pointer (some ⟨w.heap.size,0,none⟩),.int .u64 150] 270)) (by rw [World.cell?_alloc_lt _ _ ⟨w.heap.size,0,none⟩ Ys];simp);have st:=qz0 t ⟨w.heap.size+1+1+1,0,none⟩ e old ((((w.alloc (.cells #[.pointer (some t)] 216)).alloc (.cells #[.pointer (some ⟨7,216,none⟩),.pointer (some ⟨w.heap.size,0,none⟩),.int .u64 150] 270)).alloc (.cells #[.pointer (some ⟨7,216,none⟩),.pointer (some ⟨w.heap.size,0,none⟩),.int .u64 150] 270)).alloc (.cells #[.pointer (some e)] 104))
  (by rw [World.cell?_alloc_at _ _ _ _ Js];rfl)
  (by rw [World.cell?_alloc_lt _ _ t Ys,World.cell?_alloc_lt _ _ t Ys,World.cell?_alloc_lt _ _ t Ys,World.cell?_alloc_lt _ _ t htl];exact ht0)
  (by rw [World.frozen?_alloc_old _ _ t Ys,World.frozen?_alloc_old _ _ t Ys,World.frozen?_alloc_old _ _ t Ys,World.frozen?_alloc_old _ _ t (Nat.ne_of_lt htl)];exact hf0)
 go_enter Tryz.func118,Tryz.ntmps118
 go_wp2
 refine wp_loop_rounds 1 ?_;rw [rounds_succ]
 go_wp2
 go_ret
 exact ⟨rfl,rfl⟩
theorem qut:Tryz.prog.underlying 25=some (.slice 5):=Tryz.underlying25
theorem bytI:Tryz.prog.info? 5=some ((Tryz.prog.info? 5).get Jk):=(Option.some_get _).symm
theorem bytZ:((Tryz.prog.info? 5).get Jk).zero=some (.int .u8 0):=by kernel_rfl
def fixL (n:Nat):Nat→LB
 | 0=>[]
 | k+1=>fixL n k++[UInt8.ofNat (n/2 ^ (8*k)%256)]
theorem qi (n k:Nat):(fixL n k).length=k:=by
 induction k with
 | zero=>rfl
 | succ k ih=>simp [fixL,ih]
theorem qem (n k:Nat):leN (fixL n k)=n%256 ^ k:=by
 induction k with
 | zero=>simp [fixL,leN,Nat.mod_one]
 | succ k ih=>
  rw [fixL,qyr,ih,qi];have e:(2:Nat) ^ (8*k)=256 ^ k:=by rw [Nat.pow_mul]
  have e2:(UInt8.ofNat (n/2 ^ (8*k)%256)).toNat=n/256 ^ k%256:=by
   rw [e];simp
  simp only [leN,e2,Nat.mul_zero,Nat.add_zero];rw [Nat.pow_succ,Nat.mod_mul]
theorem q7f:∀ {l m:LB},l.length=m.length→leN l=leN m→l=m:=by
 intro l
 induction l with
 | nil=>intro m h _;exact (List.eq_nil_of_length_eq_zero h.symm).symm
 | cons x l ih=>
  intro m h e;cases m with
  | nil=>simp at h
  | cons y m=>
   simp only [leN] at e;have hx:=qad x;have hy:=qad y;have h1:x.toNat=y.toNat:=by omega
   have h2:leN l=leN m:=by omega
   rw [ih (by simpa using h) h2,UInt8.toNat_inj.1 h1]
namespace V
theorem SlAt.rest {w:World} {g off a:Nat} {l:LB} (hA:SlAt encB 1 w (some ⟨g,off,none⟩) l) (ha:a<l.length):SlAt encB 1 w (some ⟨g,off+a,none⟩) (l.drop a):=by
 have:=hA.cut (A':=some ⟨g,off+a,none⟩) (lo:=a) (hi:=l.length) (m:=l.length) Oo znr znr (by rw [if_neg Oo,Nat.mul_one,Option.map_some,q8])
 rwa [List.take_of_length_le Js] at this
theorem Rw.byts {w0 w:World} {A:oA} {n c:Nat} {e:TypeId} {zs:LB} {L:List (Nat × Obj)} (h:Rw w0 w (.slice A n c) e 1 n (zs.map fun c=>Value.int .u8 c.toNat) L) (hn:zs.length=n):BS w (.slice A n c) zs:=by
 subst hn;refine ⟨A,c,rfl,?_,⟨fun hne=>?_⟩⟩
 ·rcases h.own.2 with ⟨e1,e2⟩|⟨g,cap,cur,e1,_,_,hnc,_⟩
  ·omega
  ·cases e1;exact hnc
 ·obtain ⟨g,rfl,_,_,_,hc⟩:=h.cells (List.length_pos_iff.2 hne);refine ⟨g,0,rfl,fun j x hx k v hv=>?_⟩;cases k with
  | succ k=>simp [encB] at hv
  | zero=>
   simp only [encB,List.getElem?_cons_zero,Option.some.injEq] at hv;subst hv;have:=hc j (.int .u8 x.toNat) (by rw [List.getElem?_map,hx];rfl)
   simpa using this
theorem Wit.shrN {k:IntKind} {a:Nat} {b:Int} {K:Int→Prop} (n:Nat) (e:b=(n:Int)) (hn:n<k.bits) (hk:K ((a/2 ^ n:Nat):Int)) :
  Wit (fun r=>0≤b∧b<k.bits∧(a:Int)/2 ^ b.toNat=r) K:=by
 subst e;refine ⟨_,⟨by omega,by omega,?_⟩,hk⟩;rw [Int.toNat_natCast];simp
theorem BytesS.sl {w:World} {A:oA} {n:Nat} {l:LB} {K:Value→Prop} (h:SlAt encB 1 w A l) (hn:l.length=n) (hk:K (.string ⟨l.toArray⟩)):BytesS w A n K:=
 ⟨l,hn,fun hne=>by
  obtain ⟨b,off,h1,h2⟩:=h.at_ hne;refine ⟨b,off,h1,fun k v hv=>?_⟩;rw [byteCells,List.getElem?_map] at hv;obtain ⟨x,hx,rfl⟩:=Option.map_eq_some_iff.1 hv;have:=h2 k x hx 0 (.int .u8 x.toNat) rfl
  simpa using this,hk⟩
theorem Wit.low8 {a:Nat} {K:Int→Prop} (hk:K ((a%256:Nat):Int)):Wit (fun r=>IntKind.u8.wrap (a:Int)=r) K:=by
 refine ⟨_,?_,hk⟩;simp [IntKind.wrap,IntKind.bits,IntKind.signed]
end V
section
variable {wd w w':World} {o:Obj} {F:Value→World→Prop} {s2 s5 s8 s11 s12 s13:Bool} {v12:Value}
end
def upN (n b:Nat):Nat:=(n+b-1)/b
def qg (n:Nat):Nat:=8+upN n 8
def qq (n:Nat):Nat:=qg n+4*upN n 2048
def qaa (n:Nat):Nat:=qq n+2*upN n 256
def qaj (n m:Nat):Nat:=qaa n+4*upN m 512
def cutV (n m:Nat):List Value:=[ii 8,ii (qg n),ii (qq n),ii (qaa n),ii (qaj n m)]
theorem qam (n b:Nat) (hb:0<b):upN n b≤n:=by
 unfold upN
 rcases Nat.eq_zero_or_pos n with rfl|hn
 ·rw [Nat.zero_add,Nat.div_eq_of_lt Oo];exact Nat.le_refl _
 ·have:(n+b-1)/b<n+1:=by
   rw [Nat.div_lt_iff_lt_mul hb];have h:n+b≤n*b+1*b:=by rw [Nat.one_mul];exact Nat.add_le_add_right (Nat.le_mul_of_pos_right n hb) b
   rw [Nat.add_mul];omega
  omega
theorem qabs (n b:Nat) (hb:0<b):((n:Int)+(b:Int)-1)/(b:Int)=((upN n b:Nat):Int):=by
 have:(n:Int)+(b:Int)-1=((n+b-1:Nat):Int):=by omega
 rw [this,upN,Int.natCast_ediv]
theorem qpz (n b:Nat) (w:World) (hn:n≤8796093022208) (hb:0<b) (hb2:b≤1048576):Gv Tryz.prog 131 [ii n,ii b] w fun r w'=>r=ii (upN n b)∧w'=w:=by
 refine ze Tryz.func131 Tryz.ntmps131 ?_;refine zv ?_;have hq:=qabs n b hb;have hle:=qam n b hb;rw [hq];refine Obl.mk ⟨by omega,by omega,⟨by omega,by omega⟩⟩ (zw ?_);exact ⟨rfl,rfl⟩
theorem qqa (n m:Nat) (w:World) (hn:n≤67108864) (hm:m≤67108864):Gv Tryz.prog 134 [ii n,ii m] w fun r w'=>r=.agg (cutV n m).toArray∧Ext w w':=by
 have u1:=qam n 8 Od;have u2:=qam n 2048 Od;have u3:=qam n 256 Od;have u4:=qam m 512 Od;have g1:qg n=8+upN n 8:=rfl;have g2:qq n=qg n+4*upN n 2048:=rfl;have g3:qaa n=qq n+2*upN n 256:=rfl;refine ze Tryz.func134 Tryz.ntmps134 ?_;refine znm (Mem.nil w) ?_;intro r w1 hm;have hm:Mem w w1 [(r,.cells #[ii 0,ii 0,ii 0,ii 0,ii 0] 228)]:=hm;(conv=>whnf);refine znm hm fun p w2 hm=>zw ?_;refine StoreA.all hm (i:=0) rfl rfl Od ?_;intro w3 hm;have hm:Mem w w3 [(p,.cells #[ii 8,ii 0,ii 0,ii 0,ii 0] 228),(r,.cells #[ii 0,ii 0,ii 0,ii 0,ii 0] 228)]:=hm;(conv=>whnf);refine DrawV.own rfl Jk (zw ?_);refine zo ?_;refine zO ?_ (by intro wd hd;(conv=>whnf);refine LoadV.mem (Mem.call (Mem.drew hm) hd) (i:=0) rfl rfl ?_;(conv=>whnf);exact PostO.still xr rfl);(conv=>whnf);refine zo ?_;apply StepO.still
 ·intro wd hd;(conv=>whnf);refine zcv (qpz n 8 wd Oo Od Od) ?_;rintro v w9 ⟨rfl,rfl⟩;exact PostO.still xr rfl
 (conv=>whnf);refine zo ?_;refine zo ?_;intro w4 hd
 (repeat (intro _;(conv=>whnf)))
 (conv=>whnf);refine StoreV.mem (hm.drew.call hd) (i:=0) rfl (show 1<5 by decide) rfl ?_;intro w5 hm;have hm:Mem w w5 [(p,.cells #[ii 8,ii (qg n),ii 0,ii 0,ii 0] 228),(r,.cells #[ii 0,ii 0,ii 0,ii 0,ii 0] 228)]:=hm;(conv=>whnf);refine DrawV.own rfl Jk (zw ?_);refine zo ?_;refine zO ?_ (by intro wd hd;(conv=>whnf);refine LoadV.mem (Mem.call (Mem.drew hm) hd) (i:=0) rfl rfl ?_;(conv=>whnf);exact PostO.still xr rfl);(conv=>whnf);refine zo ?_;apply StepO.still
 ·intro wd hd;(conv=>whnf);refine zcv (qpz n 2048 wd Oo Od Od) ?_;rintro v w9 ⟨rfl,rfl⟩;exact PostO.still xr rfl
 (conv=>whnf);(iterate 3 (refine zo ?_));intro w10 hd
 (repeat (intro _;(conv=>whnf)))
 (conv=>whnf);refine StoreV.mem (hm.drew.call hd) (i:=0) rfl (show 2<5 by decide) rfl ?_;intro w11 hm;have hm:Mem w w11 [(p,.cells #[ii 8,ii (qg n),ii (qq n),ii 0,ii 0] 228),(r,.cells #[ii 0,ii 0,ii 0,ii 0,ii 0] 228)]:=hm;(conv=>whnf);refine DrawV.own rfl Jk (zw ?_);refine zo ?_;refine zO ?_ (by intro wd hd;(conv=>whnf);refine LoadV.mem (Mem.call (Mem.drew hm) hd) (i:=0) rfl rfl ?_;(conv=>whnf);exact PostO.still xr rfl);(conv=>whnf);refine zo ?_;apply StepO.still
 ·intro wd hd;(conv=>whnf);refine zcv (qpz n 256 wd Oo Od Od) ?_;rintro v w9 ⟨rfl,rfl⟩;exact PostO.still xr rfl
 (conv=>whnf);(iterate 3 (refine zo ?_));intro w12 hd
 (repeat (intro _;(conv=>whnf)))
 (conv=>whnf);refine StoreV.mem (hm.drew.call hd) (i:=0) rfl (show 3<5 by decide) rfl ?_;intro w13 hm;have hm:Mem w w13 [(p,.cells #[ii 8,ii (qg n),ii (qq n),ii (qaa n),ii 0] 228),(r,.cells #[ii 0,ii 0,ii 0,ii 0,ii 0] 228)]:=hm;(conv=>whnf);refine DrawV.own rfl Jk (zw ?_);refine zo ?_;refine zO ?_ (by intro wd hd;(conv=>whnf);refine LoadV.mem (Mem.call (Mem.drew hm) hd) (i:=0) rfl rfl ?_;(conv=>whnf);exact PostO.still xr rfl);(conv=>whnf);refine zo ?_;apply StepO.still
 ·intro wd hd;(conv=>whnf);refine zcv (qpz m 512 wd Oo Od Od) ?_;rintro v w9 ⟨rfl,rfl⟩;exact PostO.still xr rfl
 (conv=>whnf);(iterate 3 (refine zo ?_));intro w14 hd
 (repeat (intro _;(conv=>whnf)))
 (conv=>whnf);refine StoreV.mem (hm.drew.call hd) (i:=0) rfl (show 4<5 by decide) rfl ?_;intro w15 hm;have hm:Mem w w15 [(p,.cells #[ii 8,ii (qg n),ii (qq n),ii (qaa n),ii (qaj n m)] 228),(r,.cells #[ii 0,ii 0,ii 0,ii 0,ii 0] 228)]:=hm;(conv=>whnf);refine zl hm 0 ?_;refine StoreA.all hm (i:=1) rfl rfl (by intro v hv;simp at hv;rcases hv with rfl|rfl|rfl|rfl|rfl<;>rfl) fun w20 hm=>zw ?_;refine qh (R:=fun r w'=>r=.agg (cutV n m).toArray∧Ext w w') (zw ?_);refine zl hm 1 ?_;exact ⟨rfl,hm.ext⟩
theorem qkf (n m:Nat) (hn:n≤67108864) (hm:m≤n):qaj n m≤1000000000:=by
 have u1:=qam n 8 Od;have u2:=qam n 2048 Od;have u3:=qam n 256 Od;have u4:=qam m 512 Od;unfold qaj qaa qq qg;omega
theorem qz8 (n m:Nat) (w:World) (hn:n≤67108864) (hm:m≤n):Gv Tryz.prog 107 [ii n,ii m] w fun r w'=>r=ii (qaj n m)∧Ext w w':=by
 refine ze Tryz.func107 Tryz.ntmps107 ?_;refine zv ?_;refine zcv (qqa n m w hn Oo) ?_;rintro v w9 ⟨rfl,he⟩;(conv=>whnf);exact ⟨rfl,he⟩
theorem qbs (p c:Nat) (w:World):Gv Tryz.prog 173 [ii p,ii c] w fun v w'=>ErrAt w' v p c∧Ext w w':=by
 refine ze Tryz.func173 Tryz.ntmps173 ?_;refine znm (Mem.nil w) fun b w1 hm=>zw ?_;exact ⟨⟨b,rfl,CellsAt.mem hm mh⟩,hm.ext⟩
theorem qag (p c:Nat) (w:World):Gv Tryz.prog 106 [ii p,ii c] w fun v w'=>ErrAt w' v p c∧Ext w w':=by
 refine ze Tryz.func106 Tryz.ntmps106 ?_;refine znm (Mem.nil w) fun b w1 hm=>zw ?_;exact ⟨⟨b,rfl,CellsAt.mem hm mh⟩,hm.ext⟩
theorem qa6 (p c:Nat) (w:World):Gv Tryz.prog 163 [ii p,ii c] w fun v w'=>ErrAt w' v p c∧Ext w w':=by
 refine ze Tryz.func163 Tryz.ntmps163 ?_;refine znm (Mem.nil w) fun b w1 hm=>zw ?_;exact ⟨⟨b,rfl,CellsAt.mem hm mh⟩,hm.ext⟩
def vN (l:LB):Nat:=leN (l.take 4)
def vM (l:LB):Nat:=leN ((l.drop 4).take 4)
def vOk (l:LB):Bool:=decide (8≤l.length)&&decide (vN l≤67108864)&&decide (vM l≤vN l)&&decide (l.length=qaj (vN l) (vM l))
def vecC (s:Value) (n m:Nat):Array Value:=#[s,ii n,ii m,ii 8,ii (qg n),ii (qq n),ii (qaa n),ii (qaj n m)]
def vecO (t:TypeId) (s:Value) (n m:Nat):Obj:=.cells (vecC s n m) t
structure Sto (wd:World) (F:World→Prop) (s4 s8 s9 s12:Bool) (w:World):Prop where
 a:s12=false→Ext wd w
 f:s12=true→F w∧s4=true∧s8=true∧s9=true
section
variable {wd w w':World} {F:World→Prop} {s4 s8 s9 s12:Bool}
theorem Sto.start:Sto wd F false false false false wd:=⟨fun _=>xr,fun h=>(by cases h)⟩
theorem Sto.of {u4 u8 u9:Bool} (h:Sto wd F s4 s8 s9 s12 w) (h12:s12=false) (he:Ext w w'):Sto wd F u4 u8 u9 s12 w':=⟨fun h'=>(h.a h').trans he,fun h'=>(by rw [h12] at h';cases h')⟩
theorem Sto.z4 (h:Sto wd F false s8 s9 s12 w):s12=false:=by
 cases h':s12
 ·rfl
 ·have:=(h.f h').2.1;cases this
theorem Sto.z8 (h:Sto wd F s4 false s9 s12 w):s12=false:=by
 cases h':s12
 ·rfl
 ·have:=(h.f h').2.2.1;cases this
theorem Sto.z9 (h:Sto wd F s4 s8 false s12 w):s12=false:=by
 cases h':s12
 ·rfl
 ·have:=(h.f h').2.2.2;cases this
end
def q9j (l:LB) (s:Value) (v:Value) (w0 w:World):Prop:=
 (vOk l=false∧(∃ e p c,v=.tuple #[.pointer none,.bool false,e]∧ErrAt w e p c∨∃ b,v=.tuple #[pp b,.bool false,.nilIface]∧w0.heap.size≤b∧w.heap[b]?=some (vecO 263 s (vN l) (vM l))∧vN l≤67108864∧vM l≤vN l))∨
 (vOk l=true∧∃ b,v=.tuple #[pp b,.bool true,.nilIface]∧w0.heap.size≤b∧w.heap[b]?=some (vecO 263 s (vN l) (vM l)))
theorem qpk (l:LB) (A:oA) (c:Nat) (w:World) (hS:SlAt encB 1 w A l) (hc:l.length≤c) (hl:l.length≤140737488355328) :
  Gv Tryz.prog 172 [.slice A l.length c] w fun v w'=>q9j l (.slice A l.length c) v w w'∧Ext w w':=by
 refine ze Tryz.func172 Tryz.ntmps172 ?_;refine zC (fun _=>zw ?_) (fun _=>zw ?_)
 ·refine zcv (qbs l.length 10 w) ?_;rintro v w9 ⟨⟨b,rfl,h9⟩,he9⟩;(conv=>whnf);refine ⟨.inl ⟨?_,_,_,_,.inl ⟨rfl,b,rfl,h9⟩⟩,he9⟩;rw [vOk,decide_eq_false Oo];rfl
 have h8:8≤l.length:=by omega
 obtain ⟨g,off,hA,_⟩:=hS.at_ (by intro e;rw [e] at h8;simp at h8);subst hA;have hN:vN l<4294967296:=by
  have:=qaw l 4 Oo
  simpa [vN] using this
 have hM:vM l<4294967296:=by
  have:=qaw (l.drop 4) 4 (by rw [zld];omega)
  simpa [vM] using this
 refine DrawV.free Jk Jk (zw ?_);refine zd ?_;refine zd ?_;apply zsd
 ·intro wd hd;(conv=>whnf);refine zcv (qgb l (some ⟨g,off,none⟩) _ c wd (hS.ext ((Ext.refl w).drew.trans hd)) rfl Oo) ?_;rintro v w9 ⟨rfl,h9⟩;exact ⟨h9,rfl⟩
 (conv=>whnf);refine zd ?_;apply zsd
 ·intro wd hd;(conv=>whnf);refine SliceV.rest 4 rfl hc Oo (zw ?_);exact ⟨xr,rfl⟩
 (conv=>whnf);apply zsd
 ·intro wd hd;(conv=>whnf);refine zcv (qgb (l.drop 4) _ _ _ wd (SlAt.rest (hS.ext ((Ext.refl w).drew.trans hd)) Oo) (by rw [zld]) (by rw [zld];omega)) ?_;rintro v w9 ⟨rfl,h9⟩;exact ⟨h9,rfl⟩
 (conv=>whnf);refine zd ?_;apply StepD.of (fun v wx=>∃ b,v=pp b∧w.drew.heap.size≤b∧wx.heap[b]?=some (.cells #[.slice (some ⟨g,off,none⟩) l.length c,ii (vN l),ii (vM l),ii 0,ii 0,ii 0,ii 0,ii 0] 263))
  (fun _ _ _ h he=>let ⟨b,h1,h2,h3⟩:=h;⟨b,h1,h2,he.get h3⟩)
 ·intro wd hd;(conv=>whnf);refine ⟨fun x wx hb hw=>?_⟩;subst hb hw;(conv=>whnf);exact ⟨xr.alloc _,_,rfl,hd.size,heap_alloc_new _ _⟩
 (conv=>whnf);apply StepD.of (fun v wx=>∃ b,v=pp b∧w.drew.heap.size≤b∧wx.heap[b]?=some (.cells #[.slice (some ⟨g,off,none⟩) l.length c,ii (vN l),ii (vM l),ii 0,ii 0,ii 0,ii 0,ii 0] 263))
  (fun _ _ _ h he=>let ⟨b,h1,h2,h3⟩:=h;⟨b,h1,h2,he.get h3⟩)
 ·intro wd hd;(conv=>whnf);rintro _ _;(conv=>whnf);rintro v ⟨b,rfl,h1,h2⟩;(conv=>whnf);exact ⟨xr,b,rfl,h1,h2⟩
 (conv=>whnf);intro w9 he9;(conv=>whnf);rintro v ⟨b,rfl,hb,ho⟩;(conv=>whnf);intro _ _;(conv=>whnf);have hm:=(Mem.nil w).drew.fresh he9 hb ho;refine LoadV.mem (i:=0) Oa rfl rfl (zw ?_);refine zC (fun _=>zw ?_) (fun _=>zw ?_)
 ·refine zcv (qbs 0 2 w9) ?_;rintro v w10 ⟨⟨b1,rfl,h9⟩,he10⟩;(conv=>whnf);refine ⟨.inl ⟨?_,_,_,_,.inl ⟨rfl,b1,rfl,h9⟩⟩,hm.ext.trans he10⟩;rw [vOk,decide_eq_true Oo,decide_eq_false Oo];rfl
 refine zy ?_;have hm:=hm.drew;refine zt ?_;refine LoadV.mem (i:=0) Oa rfl rfl (zw ?_);refine zt ?_;refine LoadV.mem (i:=0) Oa rfl rfl (zw ?_);refine zt ?_;refine zC (fun _=>zw ?_) (fun _=>zw ?_)
 ·refine zcv (qbs 4 20 w9.drew) ?_;rintro v w10 ⟨⟨b1,rfl,h9⟩,he10⟩;(conv=>whnf);refine ⟨.inl ⟨?_,_,_,_,.inl ⟨rfl,b1,rfl,h9⟩⟩,hm.ext.trans he10⟩;rw [vOk,decide_eq_true Oo,decide_eq_true Oo,decide_eq_false Oo];rfl
 have g1:vN l≤67108864:=by omega
 have g2:vM l≤vN l:=by omega
 obtain ⟨F,hF⟩:∃ F:World→Prop,F=fun w'=>Mem w w' [(b,vecO 263 (.slice (some ⟨g,off,none⟩) l.length c) (vN l) (vM l))]:=⟨_,rfl⟩
 obtain ⟨w3,hw3⟩:∃ w3:World,w3=w9.drew:=⟨_,rfl⟩
 rw [← hw3] at hm ⊢;refine DrawV.inv (fun S w'=>Sto w3.drew F (S 4) (S 8) (S 9) (S 12) w') rfl Jk Sto.start (zw ?_);(iterate 4 (refine zi ?_));refine StepI.of (ii (vN l)) (fun S wd hk hp hI=>?_) (zw ?_)
 ·dsimp only at hI;rw [hk] at hI;(conv=>whnf);refine LoadV.mem (hm.drew.call (hI.a hI.z4)) (i:=0) rfl rfl (zw ?_);exact ⟨rfl,hI.of hI.z4 xr⟩
 (iterate 3 (refine zi ?_));refine StepI.of (ii (vM l)) (fun S wd hk hp hI=>?_) (zw ?_)
 ·dsimp only at hI;rw [hk] at hI;(conv=>whnf);refine LoadV.mem (hm.drew.call (hI.a hI.z8)) (i:=0) rfl rfl (zw ?_);exact ⟨rfl,hI.of hI.z8 xr⟩
 refine StepI.of (.agg (cutV (vN l) (vM l)).toArray) (fun S wd hk hp hI=>?_) (zw ?_)
 ·dsimp only at hI;rw [hk] at hI;(conv=>whnf);refine zcv (qqa (vN l) (vM l) wd Oo Oo) ?_;rintro v w9 ⟨rfl,h9⟩;exact ⟨rfl,hI.of hI.z9 h9⟩
 refine zi ?_;refine zi ?_;refine StepI.of undef (fun S wd hk hp hI=>?_) (zw ?_)
 ·dsimp only at hI;have h4:S 4=true:=hp 4 Od;have h8':S 8=true:=hp 8 Od;have h9:S 9=true:=hp 9 Od;rw [hk] at hI;(conv=>whnf);refine StoreA.mem (hm.drew.call (hI.a rfl)) (i:=0) rfl (show 3+5≤8 by decide) (by intro v hv;simp [cutV] at hv;rcases hv with rfl|rfl|rfl|rfl|rfl<;>rfl) fun wx hmx=>zw ?_;exact ⟨rfl,fun h=>(by cases h),fun _=>⟨by rw [hF];exact hmx,h4,h8',h9⟩⟩
 intro w11 hI;have hm:=(hI.f rfl).1;rw [hF] at hm;(conv=>whnf);refine zr hm 0 ?_;refine zC (fun _=>zw ?_) (fun _=>zw ?_)
 ·refine zcv (qbs l.length 10 w11) ?_;rintro v w10 ⟨⟨b1,rfl,h9⟩,he10⟩;(conv=>whnf);refine ⟨.inl ⟨?_,_,_,_,.inl ⟨rfl,b1,rfl,h9⟩⟩,hm.ext.trans he10⟩;rw [vOk,decide_eq_true Oo,decide_eq_true Oo,decide_eq_true Oo,decide_eq_false Oo];rfl
 refine zy ?_;have hm:=hm.drew;refine zt ?_;refine LoadV.mem (i:=0) Oa rfl rfl (zw ?_);refine zt ?_;refine ⟨?_,hm.ext⟩;have hb':w.heap.size≤b:=(hm.own _ mh).1;have hv:vOk l=decide (l.length=qaj (vN l) (vM l)):=by
  rw [vOk,decide_eq_true Oo,decide_eq_true Oo,decide_eq_true Oo];rfl
 by_cases e:l.length=qaj (vN l) (vM l)
 ·refine .inr ⟨by rw [hv,decide_eq_true e],b,?_,hb',hm.get mh⟩;rw [decide_eq_true Oo]
 ·refine .inl ⟨by rw [hv,decide_eq_false e],.pointer none,0,0,.inr ⟨b,?_,hb',hm.get mh,g1,g2⟩⟩;rw [decide_eq_false Oo]
def VecR (l:LB) (s:Value) (v:Value) (w0 w:World):Prop:=
 (vOk l=false∧∃ e p c,v=.tuple #[.pointer none,e]∧ErrAt w e p c)∨
 (vOk l=true∧∃ b,v=.tuple #[pp b,.nilIface]∧w0.heap.size≤b∧w.heap[b]?=some (vecO 263 s (vN l) (vM l)))
theorem q1j (l:LB) (A:oA) (c:Nat) (w:World) (hS:SlAt encB 1 w A l) (hc:l.length≤c) (hl:l.length≤140737488355328) :
  Gv Tryz.prog 108 [.slice A l.length c] w fun v w'=>VecR l (.slice A l.length c) v w w'∧Ext w w':=by
 have hsh:=qpk l A c w hS hc hl;refine ze Tryz.func108 Tryz.ntmps108 ?_;refine zcv (hsh) ?_;rintro v w1 ⟨h,he⟩
 rcases h with ⟨h0,e,p,q,⟨rfl,b,rfl,hE⟩|⟨b,rfl,hb,ho,g1,g2⟩⟩|⟨h1,b,rfl,hb,ho⟩
 ·refine zu ?_;refine ⟨.inl ⟨h0,_,_,_,rfl,b,rfl,hE⟩,he⟩
 ·refine zu ?_;refine LoadV.own ho rfl (zw ?_);refine zcv (qbs _ 13 w1) ?_;rintro v w10 ⟨⟨b1,rfl,h9⟩,he10⟩;(conv=>whnf);exact ⟨.inl ⟨h0,_,_,_,rfl,b1,rfl,h9⟩,he.trans he10⟩
 ·refine zu ?_;exact ⟨.inr ⟨h1,b,rfl,hb,ho⟩,he⟩
theorem qdj {n:Nat} (h:n<256):InR .u8 (n:Int):=⟨by omega,by omega⟩
def qeh (n:Nat):Nat:=n%2+n/2%2+n/4%2+n/8%2+n/16%2+n/32%2+n/64%2+n/128%2
def qau (l:LB):Nat→Nat→Nat
 | _,0=>0
 | a,k+1=>qau l a k+qeh (l.getD (a+k) 0).toNat
def qjy (l:LB) (i:Nat):Nat:=
 if i=0∨vN l=0 then 0 else if vN l≤i then vM l else
  min (leN ((l.drop (qg (vN l)+4*(i/2048))).take 4)+leN ((l.drop (qq (vN l)+2*(i/256))).take 2)+qau l (8+i/256*32) (i%256/8)+qeh ((l.getD (8+i/8) 0).toNat%2 ^ (i%8))) i
def bitN (d:LB) (i:Nat):Nat:=(d.getD (i/8) 0).toNat/2 ^ (i%8)%2
def cnt (d:LB):Nat→Nat
 | 0=>0
 | n+1=>cnt d n+bitN d n
theorem qdw (d:LB) (i:Nat):bitN d i≤1:=by unfold bitN;omega
theorem qef (d:LB) (n:Nat):cnt d n≤n:=by
 induction n with
 | zero=>exact Nat.le_refl _
 | succ n ih=>have:=qdw d n;simp only [cnt];omega
theorem qf5 {d:LB} {a b:Nat} (h:a≤b):cnt d a≤cnt d b:=by
 induction h with
 | refl=>exact Nat.le_refl _
 | step _ ih=>simp only [cnt];omega
theorem qve:∀ x,x<256→∀ r,r<8→qeh (x%2 ^ (r+1))=qeh (x%2 ^ r)+x/2 ^ r%2:=by decide +kernel
theorem q43 (d:LB) (a r:Nat) (hr:r≤8):cnt d (8*a+r)=cnt d (8*a)+qeh ((d.getD a 0).toNat%2 ^ r):=by
 induction r with
 | zero=>rw [Nat.pow_zero,Nat.mod_one,Nat.add_zero];rfl
 | succ r ih=>
  rw [← Nat.add_assoc,cnt,ih Oo,qve _ (qad _) r Oo,bitN];have e1:(8*a+r)/8=a:=by omega
  have e2:(8*a+r)%8=r:=by omega
  rw [e1,e2];omega
theorem qst (d:LB) (a k:Nat):cnt d (8*(a+k))=cnt d (8*a)+qau d a k:=by
 induction k with
 | zero=>rfl
 | succ k ih=>
  have e:8*(a+(k+1))=8*(a+k)+8:=by omega
  rw [e,q43 d (a+k) 8 Oo,ih,qau];have h:=qad (d.getD (a+k) 0);rw [show (2:Nat) ^ 8=256 by decide,Nat.mod_eq_of_lt h];omega
theorem qdm {α:Type} (l:List α) (a i:Nat) (x:α):(l.drop a).getD i x=l.getD (a+i) x:=by
 rw [List.getD_eq_getElem?_getD,List.getD_eq_getElem?_getD,List.getElem?_drop]
theorem qx7 {α:Type} (l:List α) (a i:Nat) (x:α) (h:i<a):(l.take a).getD i x=l.getD i x:=by
 rw [List.getD_eq_getElem?_getD,List.getD_eq_getElem?_getD,List.getElem?_take,if_pos h]
theorem qms (l:LB) (b a k:Nat):qau (l.drop b) a k=qau l (b+a) k:=by
 induction k with
 | zero=>rfl
 | succ k ih=>rw [qau,qau,ih,qdm,Nat.add_assoc]
theorem qw0 (l:LB) (a t:Nat):bitN (l.drop a) t=bitN l (8*a+t):=by
 rw [bitN,bitN,qdm];have e1:(8*a+t)/8=a+t/8:=by omega
 have e2:(8*a+t)%8=t%8:=by omega
 rw [e1,e2]
theorem qf1 (l:LB) (a t:Nat) (h:t<8*a):bitN (l.take a) t=bitN l t:=by
 rw [bitN,bitN,qx7 _ _ _ _ Oo]
theorem qsu (l:LB) (a:Nat):∀ n,n≤8*a→cnt (l.take a) n=cnt l n
 | 0,_=>rfl
 | n+1,h=>by rw [cnt,cnt,qsu l a n Oo,qf1 _ _ _ Oo]
structure VecOk (l:LB):Prop where
 ok:vOk l=true
 great:∀ j,j<upN (vN l) 2048→leN ((l.drop (qg (vN l)+4*j)).take 4)=cnt (l.drop 8) (2048*j)
 small:∀ j,j<upN (vN l) 256→leN ((l.drop (qq (vN l)+2*j)).take 2)=cnt (l.drop 8) (256*j)-cnt (l.drop 8) (2048*(j/8))
 ones:cnt (l.drop 8) (vN l)=vM l
theorem VecOk.rank {l:LB} (h:VecOk l) (i:Nat) (hi:i≤vN l):qjy l i=cnt (l.drop 8) i:=by
 rw [qjy]
 by_cases h0:i=0∨vN l=0
 ·rw [if_pos h0];obtain rfl:i=0:=by omega
  rfl
 rw [if_neg h0]
 by_cases h1:vN l≤i
 ·rw [if_pos h1];obtain rfl:i=vN l:=by omega
  exact h.ones.symm
 rw [if_neg h1];have k1:i/2048<upN (vN l) 2048:=by unfold upN;omega
 have k2:i/256<upN (vN l) 256:=by unfold upN;omega
 rw [h.great _ k1,h.small _ k2,← qms,← qdm];have e8:i/256/8=i/2048:=by omega
 rw [e8];have m1:cnt (l.drop 8) (2048*(i/2048))≤cnt (l.drop 8) (256*(i/256)):=qf5 Oo;have f1:=qst (l.drop 8) (i/256*32) (i%256/8);have f2:=q43 (l.drop 8) (i/8) (i%8) Oo;have q1:8*(i/256*32+i%256/8)=8*(i/8):=by omega
 have q2:8*(i/256*32)=256*(i/256):=by omega
 have q3:8*(i/8)+i%8=i:=by omega
 rw [q1,q2] at f1;rw [q3] at f2;have hle:=qef (l.drop 8) i;omega
theorem qys:∀ (l:LB) (t:Nat),leN l/2 ^ t%2=bitN l t
 | [],t=>by simp [leN,bitN]
 | x::l,t=>by
  have hx:=qad x
  rcases Nat.lt_or_ge t 8 with ht|ht
  ·have e1:t/8=0:=by omega
   have e2:t%8=t:=by omega
   rw [bitN,e1,e2,leN];simp only [List.getD_cons_zero];obtain rfl|rfl|rfl|rfl|rfl|rfl|rfl|rfl:t=0∨t=1∨t=2∨t=3∨t=4∨t=5∨t=6∨t=7:=by omega
   all_goals (simp only [Nat.reducePow];omega)
  ·obtain ⟨u,rfl⟩:∃ u,t=8+u:=⟨t-8,by omega⟩
   rw [leN,Nat.pow_add,← Nat.div_div_eq_div_mul];have e:(x.toNat+256*leN l)/2 ^ 8=leN l:=by simp only [Nat.reducePow];omega
   rw [e,qys l u,bitN,bitN];have e1:(8+u)/8=u/8+1:=by omega
   have e2:(8+u)%8=u%8:=by omega
   rw [e1,e2,List.getD_cons_succ]
def valB (p:LB) (f:Nat):Nat→Nat
 | 0=>0
 | k+1=>valB p f k+bitN p (f+k)*2 ^ k
theorem qr0 (p:LB) (f k:Nat):valB p f k<2 ^ k:=by
 induction k with
 | zero=>simp [valB]
 | succ k ih=>
  have:=qdw p (f+k);have h2:bitN p (f+k)*2 ^ k≤1*2 ^ k:=Nat.mul_le_mul_right _ this;rw [valB,Nat.pow_succ];omega
theorem qkd (p:LB) (f k:Nat) {m:Nat} (h:k≤m):valB p f k<2 ^ m:=Nat.lt_of_lt_of_le (qr0 p f k) (Nat.pow_le_pow_right Od h)
def numP (p:LB) (w i:Nat):Nat:=leN ((p.drop (i*w/8)).take 4)/2 ^ (i*w%8)%2 ^ w
theorem qy7 (p:LB) (w i:Nat):numP p w i<2 ^ w:=Nat.mod_lt _ (Nat.two_pow_pos w)
theorem qtk (p:LB) (w i:Nat) (hw:w≤24):numP p w i=valB p (i*w) w:=by
 have key:∀ k,k≤w→leN ((p.drop (i*w/8)).take 4)/2 ^ (i*w%8)%2 ^ k=valB p (i*w) k:=by
  intro k
  induction k with
  | zero=>intro _;simp [valB,Nat.mod_one]
  | succ k ih=>
   intro hk;rw [Nat.mod_pow_succ,ih Oo,valB,Nat.div_div_eq_div_mul,← Nat.pow_add,qys,qf1 _ _ _ Oo,qw0];have e:8*(i*w/8)+(i*w%8+k)=i*w+k:=by omega
   rw [e,Nat.mul_comm (2 ^ k)]
 exact key w znr
def errF (f:Nat→Nat × Nat):Nat→Nat × Nat
 | 0=>(0,0)
 | k+1=>if (errF f k).2≠0 then errF f k else f k
theorem qae {f:Nat→Nat × Nat} {n:Nat} (h:∀ k,k<n→(f k).2=0):(errF f n).2=0:=by
 induction n with
 | zero=>rfl
 | succ n ih=>
  have:=ih fun k hk=>h k Oo
  rw [errF,if_neg Oo];exact h n Oo
theorem qbo {f:Nat→Nat × Nat} {n k:Nat} (h:∀ j,j<k→(f j).2=0) (hk:k<n) (he:(f k).2≠0):errF f n=f k:=by
 induction n with
 | zero=>omega
 | succ n ih=>
  by_cases hn:k=n
  ·subst hn;rw [errF,if_neg (by rw [qae h];simp)]
  ·rw [errF,ih Oo,if_pos he]
theorem qbv {f:Nat→Nat × Nat} {n:Nat} (h:(errF f n).2=0):∀ k,k<n→(f k).2=0:=by
 induction n with
 | zero=>intro k hk;omega
 | succ n ih=>
  rw [errF] at h
  split at h
  ·rename_i h0;exact absurd h h0
  ·rename_i h0
   intro k hk
   by_cases hn:k=n
   ·subst hn;exact h
   ·exact ih Oo k Oo
def vAt (l:LB):Nat→Nat
 | 0=>0
 | k+1=>vAt l k+(numL (l.drop (vAt l k))).2.1
def vNum (l:LB) (k:Nat):Nat:=(numL (l.drop (vAt l k))).1
def numE (l:LB) (k most:Nat):Nat × Nat:=
 if (numL (l.drop (vAt l k))).2.2≠0 then (vAt l k,(numL (l.drop (vAt l k))).2.2) else if most<vNum l k then (vAt l k,2) else (0,0)
theorem qfq (l:LB) (k:Nat):vAt l k≤l.length:=by
 induction k with
 | zero=>exact Nat.zero_le _
 | succ k ih=>
  have:=(qbg (l.drop (vAt l k))).2.1;rw [zld] at this;rw [vAt];omega
theorem qrz (l:LB) (k:Nat):vNum l k<18446744073709551616:=(qbg (l.drop (vAt l k))).1
theorem qr3 {l:LB} {k:Nat} (h:(numL (l.drop (vAt l k))).2.2=0):varS l (vAt l k) 0=(vNum l k,vAt l (k+1),0):=by
 rw [varS,if_neg Js,if_neg Oo];rfl
theorem qr2 {l:LB} {k:Nat} (h:(numL (l.drop (vAt l k))).2.2≠0):varS l (vAt l k) 0=(0,vAt l k,(numL (l.drop (vAt l k))).2.2):=by
 rw [varS,if_neg Js,if_pos h]
section
variable {l:LB} {k:Nat}
theorem qno (h:(numL (l.drop (vAt l k))).2.2=0):(varS l (vAt l k) 0).1=vNum l k:=by rw [qr3 h]
theorem qnp (h:(numL (l.drop (vAt l k))).2.2=0):(varS l (vAt l k) 0).2.1=vAt l (k+1):=by rw [qr3 h]
theorem qnq (h:(numL (l.drop (vAt l k))).2.2=0):(varS l (vAt l k) 0).2.2=0:=by rw [qr3 h]
theorem qnl (h:(numL (l.drop (vAt l k))).2.2≠0):(varS l (vAt l k) 0).1=0:=by rw [qr2 h]
theorem qnm (h:(numL (l.drop (vAt l k))).2.2≠0):(varS l (vAt l k) 0).2.1=vAt l k:=by rw [qr2 h]
theorem qnn (h:(numL (l.drop (vAt l k))).2.2≠0):(varS l (vAt l k) 0).2.2=(numL (l.drop (vAt l k))).2.2:=by rw [qr2 h]
theorem qnk {a:Nat} (h:(numL (l.drop a)).2.2=0):(varS l a 0).1=(numL (l.drop a)).1∧(varS l a 0).2.1=a+(numL (l.drop a)).2.1∧(varS l a 0).2.2=0:=by
 rw [varS,if_neg Js,if_neg Oo];exact ⟨rfl,rfl,rfl⟩
theorem qr1 {a:Nat} (h:(numL (l.drop a)).2.2≠0):(varS l a 0).1=0∧(varS l a 0).2.1=a∧(varS l a 0).2.2=(numL (l.drop a)).2.2:=by
 rw [varS,if_neg Js,if_pos h];exact ⟨rfl,rfl,rfl⟩
theorem qcj {most:Nat} (h1:(numL (l.drop (vAt l k))).2.2=0) (h2:vNum l k≤most):numE l k most=(0,0):=by rw [numE,if_neg Oo,if_neg Oo]
theorem q7s {most:Nat} (h1:(numL (l.drop (vAt l k))).2.2=0) (h:(numE l k most).2=0):vNum l k≤most:=by
 rw [numE,if_neg Oo] at h
 split at h
 ·cases h
 ·omega
theorem qmq {most:Nat} (h1:(numL (l.drop (vAt l k))).2.2≠0):numE l k most=(vAt l k,(numL (l.drop (vAt l k))).2.2):=by rw [numE,if_pos h1]
theorem qjo {most:Nat} (h1:(numL (l.drop (vAt l k))).2.2=0) (h2:most<vNum l k):numE l k most=(vAt l k,2):=by rw [numE,if_neg Oo,if_pos h2]
end
def qah (n:Nat):Nat:=Go.Lib.bitLen n
def dhF (m:LB) (k:Nat):Nat × Nat:=numE m k (if k=0 then 4194304 else 67108864)
def dN (m:LB):Nat:=vNum m 0
def qod (m:LB):Nat:=vNum m 1
def dW (m:LB):Nat:=qah (qod m)
def qbu (m:LB):Nat:=vAt m 2
def qj (m:LB):Nat:=qbu m+(upN (dN m) 16*dW m+7)/8
def dEnd (m:LB):Nat:=qj m+qod m
def dE (m:LB):Nat × Nat:=
 if (errF (dhF m) 2).2≠0 then errF (dhF m) 2 else if m.length<dEnd m then (m.length,10) else if dEnd m<m.length then (dEnd m,13) else (0,0)
def qw (m:LB):LB:=(m.drop (qbu m)).take (qj m-qbu m)
def qc (m:LB):LB:=m.drop (qj m)
def entG (m:LB) (first:Bool) (ahead:LB):LB × Nat × Nat:=
 let s:Nat × Nat × Nat:=if first then (0,0,0) else numL m
 if s.2.2≠0 then ([],0,s.2.2) else
  let t:=numL (m.drop s.2.1)
  if t.2.2≠0 then ([],0,t.2.2) else if ahead.length<s.1 then ([],0,161) else if 262144<t.1∨262144<s.1+t.1 then ([],0,2)
  else if m.length-s.2.1-t.2.1<t.1 then ([],0,10) else (ahead.take s.1++(m.drop (s.2.1+t.2.1)).take t.1,s.2.1+t.2.1+t.1,0)
def qb2 (E:LB) (p:Nat) (first:Bool) (ahead:LB):LB × Nat × Nat:=
 if E.length<p then ([],0,10) else if (entG (E.drop p) first ahead).2.2≠0 then ([],0,(entG (E.drop p) first ahead).2.2) else
  ((entG (E.drop p) first ahead).1,p+(entG (E.drop p) first ahead).2.1,0)
def blk (E:LB) (p:Nat):Nat→LB × Nat × Nat
 | 0=>qb2 E p true []
 | j+1=>if (blk E p j).2.2≠0 then blk E p j else qb2 E (blk E p j).2.1 false (blk E p j).1
def qz (m:LB) (k:Nat):Nat:=valB (qw m) (k*dW m) (dW m)
def dGet (m:LB) (i:Nat):Option LB:=
 if i<dN m then (if (blk (qc m) (qz m (i/16)) (i%16)).2.2=0 then some (blk (qc m) (qz m (i/16)) (i%16)).1 else none) else none
theorem qca {m:LB} {first:Bool} {ahead:LB} (h:(entG m first ahead).2.2=0):(entG m first ahead).1.length≤262144∧(entG m first ahead).2.1≤m.length:=by
 unfold entG at h ⊢;have hb1:=qbg m;obtain ⟨s,hs⟩:∃ s:Nat × Nat × Nat,s=if first then (0,0,0) else numL m:=⟨_,rfl⟩
 rw [← hs] at h ⊢;have hs2:s.2.1≤m.length:=by rw [hs];split;exact Nat.zero_le _;exact hb1.2.1
 have hb2:=qbg (m.drop s.2.1);rw [zld] at hb2;dsimp only at h ⊢
 split at h
 ·rename_i h0;exact absurd h h0
 rename_i g0
 rw [if_neg g0]
 split at h
 ·rename_i h0;exact absurd h h0
 rename_i g1
 rw [if_neg g1]
 split at h
 ·cases h
 rename_i g2
 rw [if_neg g2]
 split at h
 ·cases h
 rename_i g3
 rw [if_neg g3]
 split at h
 ·cases h
 rename_i g4
 rw [if_neg g4];refine ⟨?_,?_⟩
 ·simp only [zla,List.length_take,zld];omega
 ·simp only;omega
theorem qs2 {E:LB} {p:Nat} {first:Bool} {ahead:LB} (h:(qb2 E p first ahead).2.2=0):(qb2 E p first ahead).1.length≤262144∧(qb2 E p first ahead).2.1≤E.length:=by
 unfold qb2 at h ⊢
 split at h
 ·cases h
 rename_i g0
 rw [if_neg g0]
 split at h
 ·rename_i g1;exact absurd h g1
 rename_i g1
 rw [if_neg g1];have:=qca (show (entG (E.drop p) first ahead).2.2=0 by omega);rw [zld] at this;exact ⟨this.1,by simp only;omega⟩
theorem q40 {E:LB} {p:Nat}:∀ {j:Nat},(blk E p j).2.2=0→(blk E p j).1.length≤262144∧(blk E p j).2.1≤E.length
 | 0,h=>qs2 h
 | j+1,h=>by
  unfold blk at h ⊢
  split at h
  ·rename_i g;exact absurd h g
  rename_i g
  rw [if_neg g];exact qs2 h
theorem q1y {E:LB} {p j:Nat} (h:(blk E p j).2.2≠0):∀ {i:Nat},j≤i→blk E p i=blk E p j:=by
 intro i hi
 induction hi with
 | refl=>rfl
 | step _ ih=>rw [blk,ih,if_pos h]
theorem ql0 {m:LB} {i:Nat} {s:LB} (h:dGet m i=some s):s.length≤262144:=by
 unfold dGet at h
 split at h
 ·split at h
  ·rename_i h0
   cases h;exact (q40 h0).1
  ·cases h
 ·cases h
def vsF (l:LB) (k:Nat):Nat × Nat:=numE l k 67108864
def ql (l:LB):Nat→Nat
 | 0=>vAt l 3
 | k+1=>ql l k+vNum l k
def sE (l:LB):Nat × Nat:=
 if (errF (vsF l) 3).2≠0 then errF (vsF l) 3 else if l.length<ql l 3 then (l.length,10) else if ql l 3<l.length then (ql l 3,13) else (0,0)
def sDict (l:LB) (k:Nat):LB:=(l.drop (ql l k)).take (vNum l k)
def sdF (l:LB) (k:Nat):Nat × Nat:=if (dE (sDict l k)).2=0 then (0,0) else (ql l k+(dE (sDict l k)).1,(dE (sDict l k)).2)
def wE (l:LB):Nat × Nat:=if (sE l).2≠0 then sE l else errF (sdF l) 3
def vTot (l:LB):Nat→Nat
 | 0=>0
 | k+1=>vTot l k+dN (sDict l k)
def qdh (l:LB) (id:Nat):Nat:=if vTot l 2<id then 2 else if vTot l 1<id then 1 else 0
def tcF (l:LB) (k:Nat):Nat × Nat:=
 if (numE l k 1048576).2≠0 then numE l k 1048576 else if 0<k∧(vNum l k<vNum l (k-1)∨¬ (vNum l (k-1)=0↔vNum l k=0)) then (vAt l k,180) else (0,0)
def tvAt (l:LB):Nat→Nat
 | 0=>vAt l 4
 | k+1=>tvAt l k+1+(vNum l k*(l.getD (tvAt l k) 0).toNat+7)/8+(if k=0 then 0 else qaj (vNum l k) (vNum l (k-1)))
def tw (l:LB) (k:Nat):Nat:=(l.getD (tvAt l k) 0).toNat
def tEnd (l:LB) (k:Nat):Nat:=tvAt l k+1+(vNum l k*tw l k+7)/8
def tvF (l:LB) (k:Nat):Nat × Nat:=if l.length≤tvAt l k then (l.length,10) else if 23<tw l k then (tvAt l k,14) else if l.length<tvAt l (k+1) then (l.length,10) else (0,0)
def tE (l:LB):Nat × Nat:=
 if (errF (tcF l) 4).2≠0 then errF (tcF l) 4 else if (errF (tvF l) 4).2≠0 then errF (tvF l) 4 else if tvAt l 4<l.length then (tvAt l 4,13) else (0,0)
def qp (l:LB) (k:Nat):LB:=(l.drop (tvAt l k+1)).take (tEnd l k-(tvAt l k+1))
def qk (l:LB) (k:Nat):LB:=(l.drop (tEnd l k)).take (tvAt l (k+1)-tEnd l k)
def tVec (l:LB) (k:Nat):Bool:=vOk (qk l k)&&decide (vN (qk l k)=vNum l k)&&decide (vM (qk l k)=vNum l (k-1))
def tUp (l:LB) (i:Nat):Nat→Nat
 | 0=>i
 | j+1=>qjy (qk l (3-j)) (tUp l i j)
def qej (l:LB) (i j:Nat):Bool:=decide (tUp l i j<vNum l (3-j))&&(decide (j=3)||tVec l (3-j))
def tNum (l:LB) (i k:Nat):Nat:=numP (qp l k) (tw l k) (tUp l i (3-k))
def tOk (l:LB) (i:Nat):Bool:=qej l i 0&&qej l i 1&&qej l i 2&&qej l i 3
theorem qci (l:LB) (k:Nat):tvAt l (k+1)=tEnd l k+(if k=0 then 0 else qaj (vNum l k) (vNum l (k-1))):=rfl
def qo (l:LB):LB:=(l.drop 28).take (hN l 4)
def qf (l:LB):LB:=(l.drop (32+hN l 4)).take (hN l 5)
theorem qyv (x:Nat) (w:World) (hx:x<18446744073709551616):Gv Tryz.prog 126 [.int .u64 x] w fun r w'=>r=ii (qah x)∧w'=w:=
 qu3 Jk (Tryz.bits_Len64 x w Oo Oo)
theorem qe2 (x:Nat) (w:World) (hx:x<18446744073709551616):Gv Tryz.prog 62 [.int .u64 x] w fun r w'=>r=ii (qah x)∧w'=w:=by
 refine ze Tryz.func62 Tryz.ntmps62 ?_;refine zcv (qyv x w hx) ?_;rintro r w1 ⟨rfl,rfl⟩;(conv=>whnf);exact ⟨rfl,rfl⟩
theorem qfj (x:Nat) (h0:x≠0) (h:x<18446744073709551616):qah x=1+qah (x/2):=Go.Lib.bitLen_half x h0 (by simpa using h)
theorem qdu:qah 0=0:=by decide
theorem qfk:∀ (k x:Nat),x<2 ^ k→k≤64→qah x≤k
 | 0,x,h,_=>by
  obtain rfl:x=0:=by simpa using h
  rw [qdu];exact Nat.le_refl _
 | k+1,x,h,hk=>by
  by_cases h0:x=0
  ·subst h0;rw [qdu];exact Nat.zero_le _
  ·have hp:(2:Nat) ^ (k+1)≤2 ^ 64:=Nat.pow_le_pow_right Od hk;rw [qfj x h0 (Nat.lt_of_lt_of_le h hp)];have:=qfk k (x/2) (by rw [Nat.pow_succ] at h;omega) Oo;omega
theorem qe3 (n:Nat) (w:World) (hn:n≤4194304):Gv Tryz.prog 162 [ii n] w fun r w'=>r=ii (upN n 16)∧w'=w:=by
 refine ze Tryz.func162 Tryz.ntmps162 ?_;refine zv ?_;exact ⟨congrArg (Value.int .i64) (by unfold upN;omega),rfl⟩
structure DictAt (w:World) (b:Nat) (m:LB):Prop where
 h:∃ P cp E ce,w.heap[b]?=some (.cells #[ii (dN m),ii (dW m),.slice P (qw m).length cp,.slice E (qc m).length ce] 253)∧SlAt encB 1 w P (qw m)∧SlAt encB 1 w E (qc m)∧(qc m).length≤ce
 n:dN m≤4194304
 size:qod m≤67108864
 places:(qw m).length=(upN (dN m) 16*dW m+7)/8
 entries:(qc m).length=qod m
theorem DictAt.ext {w w':World} {b:Nat} {m:LB} (h:DictAt w b m) (he:Ext w w'):DictAt w' b m:=by
 obtain ⟨⟨P,cp,E,ce,h1,h2,h3,h4⟩,h5,h6,h7,h8⟩:=h;exact ⟨⟨P,cp,E,ce,he.get h1,h2.ext he,h3.ext he,h4⟩,h5,h6,h7,h8⟩
theorem DictAt.width {w:World} {b:Nat} {m:LB} (h:DictAt w b m):dW m≤27:=qfk 27 _ (by have:=h.size;simp only [Nat.reducePow];omega) Od
theorem qsy (b:Nat) (m:LB) (w:World) (h:DictAt w b m):Gv Tryz.prog 119 [pp b] w fun r w'=>r=ii (dN m)∧w'=w:=by
 obtain ⟨⟨P,cp,E,ce,h1,h2,h3,h4⟩,h5,h6,h7,h8⟩:=h;refine ze Tryz.func119 Tryz.ntmps119 ?_;refine LoadV.own h1 rfl (zw ?_);exact ⟨rfl,rfl⟩
theorem qjw (b:Nat) (m:LB) (k:Nat) (w:World) (h:DictAt w b m) (hk:k<upN (dN m) 16):Gv Tryz.prog 164 [pp b,ii k] w fun r w'=>r=ii (qz m k)∧w'=w:=by
 have hW:=h.width;obtain ⟨⟨P,cp,E,ce,h1,h2,h3,h4⟩,h5,h6,h7,h8⟩:=h;have hub:upN (dN m) 16≤4194304:=Nat.le_trans (qam _ _ Od) h5;obtain ⟨W,eW⟩:∃ W,W=dW m:=⟨_,rfl⟩
 rw [qz];rw [← eW] at h1 h7 hW ⊢;have hm1:k*W+W≤upN (dN m) 16*W:=by rw [← Nat.succ_mul];exact Nat.mul_le_mul_right _ hk
 have hm2:upN (dN m) 16*W≤4194304*27:=Nat.mul_le_mul hub hW;obtain ⟨f,ef⟩:∃ f,f=k*W:=⟨_,rfl⟩
 have efi:(k:Int)*(W:Int)=(f:Int):=by rw [ef,Int.natCast_mul]
 rw [← ef] at hm1 ⊢;refine ze Tryz.func164 Tryz.ntmps164 ?_;refine LoadV.own h1 rfl (zw ?_);refine qu (fun i:Nat=>[(0,pp b),(1,ii k),(5,ii (valB (qw m) f i)),(11,ii W),(12,ii i)]) (fun i w'=>i≤W∧w'=w) (fun i=>W-i) 0 ⟨rfl,rfl,rfl,rfl,rfl,trivial⟩ ⟨Nat.zero_le _,rfl⟩ ?_;rintro i w1 ρ' ⟨i1,rfl⟩;have hv:=qr0 (qw m) f i;have hv2:valB (qw m) f i<2 ^ 27:=qkd _ _ _ Oo;simp only [Nat.reducePow] at hv2;(conv=>whnf);refine zC (fun _=>zw ?_) (fun _=>zw ?_)
 ·refine LoadV.own h1 rfl (zw ?_);rw [efi];refine zv ?_;refine LoadV.own h1 rfl (zu ?_);have hj:(f+i)/8<(qw m).length:=by omega
  refine ElemV.bs h2 rfl ((f+i)/8) Oo hj ?_;intro eb eo hc;(conv=>whnf);refine LoadV.of hc (zu ?_);refine V.Wit.shrN ((f+i)%8) Oo (by show (f+i)%8<8;omega) (zw ?_);have hlt:=qad (qw m)[(f+i)/8];have hlt2:(qw m)[(f+i)/8].toNat/2 ^ ((f+i)%8)<256:=Nat.lt_of_le_of_lt (Nat.div_le_self _ _) hlt;refine Wit.eq (qbj (k:=.u8) (m:=(qw m)[(f+i)/8].toNat/2 ^ ((f+i)%8)) 1 rfl (qdj hlt2) ⟨by omega,by omega⟩) (zu ?_);have hb:(qw m)[(f+i)/8].toNat/2 ^ ((f+i)%8)%2 ^ 1=bitN (qw m) (f+i):=by
   rw [bitN,List.getD_eq_getElem?_getD,zge hj];rfl
  rw [hb];have hvs:=qr0 (qw m) f (i+1);have hvs2:valB (qw m) f (i+1)<2 ^ 27:=qkd _ _ _ Oo;simp only [Nat.reducePow] at hvs2;rw [valB] at hvs2;refine V.Wit.shlN i Oo (by show i<64;omega) (qa3 Oo) (zw ?_);refine Wit.eq (qcm i (qa3 Oo) hv) (zu ?_);exact ⟨i+1,⟨rfl,rfl,rfl,rfl,rfl,trivial⟩,⟨by omega,rfl⟩,by omega⟩
 ·obtain rfl:i=W:=by omega
  exact ⟨rfl,rfl⟩
def entV (x:LB × Nat × Nat):Value:=.tuple #[.string ⟨x.1.toArray⟩,ii x.2.1,ii x.2.2]
theorem qxw {m ahead:LB} {first:Bool} {s y:Nat × Nat × Nat} (es:s=if first then (0,0,0) else numL m) (ey:y=numL (m.drop s.2.1)) (e2:s.2.2=0) (he2:y.2.2=0) :
  entG m first ahead=if ahead.length<s.1 then ([],0,161) else if 262144<y.1∨262144<s.1+y.1 then ([],0,2) else if m.length-s.2.1-y.2.1<y.1 then ([],0,10) else (ahead.take s.1++(m.drop (s.2.1+y.2.1)).take y.1,s.2.1+y.2.1+y.1,0):=by
 unfold entG;rw [← es];dsimp only;rw [if_neg Oo,← ey,if_neg Oo]
theorem qjd (b:Nat) (m:LB) (p:Nat) (first:Bool) (last:ByteArray) (w:World) (h:DictAt w b m) (hp:p≤4294967296) (hlast:last.size≤262144) :
  Gv Tryz.prog 165 [pp b,ii p,.bool first,.string last] w fun r w'=>r=entV (qb2 (qc m) p first last.data.toList)∧Ext w w':=by
 obtain ⟨⟨P,cp,E,ce,h1,h2,h3,h4⟩,h5,h6,h7,h8⟩:=h;obtain ⟨D,eD⟩:∃ D,D=qc m:=⟨_,rfl⟩
 rw [← eD] at h1 h3 h4 h8 ⊢;refine ze Tryz.func165 Tryz.ntmps165 ?_;refine zv ?_;refine LoadV.own h1 rfl (zw ?_);refine zt ?_;refine zC (fun _=>zw ?_) (fun _=>zw ?_)
 ·rw [qb2,if_pos Oo];exact ⟨rfl,xr⟩
 refine LoadV.own h1 rfl (zw ?_);refine SliceV.bs h3 rfl p D.length ce rfl rfl rfl Oo znr h4 znr (fun h=>by cases h) ?_;intro A' hA';rw [List.take_of_length_le Js] at hA';(conv=>whnf);obtain ⟨B,eB⟩:∃ B,B=D.drop p:=⟨_,rfl⟩
 have hBl:B.length=D.length-p:=by rw [eB,zld]
 rw [← eB] at hA';have hvB:∀ w',Ext w w'→BS w' (.slice A' (D.length-p) (ce-p)) B:=fun w' he=>⟨A',ce-p,by rw [hBl],by rw [hBl];omega,hA'.ext he⟩
 refine zcv (qda _ B w (hvB w xr)) ?_;rintro v w1 ⟨cb,rfl,hcb,hco,he1⟩;have hm:Mem w w1 [(cb,curO 244 (.slice A' (D.length-p) (ce-p)) 0 0)]:=(Mem.nil w).fresh he1 hcb hco;(conv=>whnf);obtain ⟨s,es⟩:∃ s:Nat × Nat × Nat,s=if first then (0,0,0) else numL B:=⟨_,rfl⟩
 have hsb:s.1<18446744073709551616∧s.2.1≤B.length:=by
  have:=qbg B;rw [es];split
  ·exact ⟨by decide,Nat.zero_le _⟩
  ·exact ⟨this.1,this.2.1⟩
 cases first
 ·refine zv ?_;refine zcv (qb8 cb _ 0 0 B w1 (hm.get mh) (hvB w1 hm.ext) (Nat.zero_le _) Oo) ?_;rintro r w2 ⟨rfl,hu⟩
  by_cases he:(numL (B.drop 0)).2.2=0
  ·obtain ⟨q1,q2,q3⟩:=qnk he;rw [q2,q3,Nat.zero_add] at hu;rw [q1];have es:s=numL B:=es;have hm:Mem w w2 [(cb,curO 244 (.slice A' (D.length-p) (ce-p)) s.2.1 0)]:=by rw [es];exact hm.upd (i:=0) rfl hu
   have e1:(numL (B.drop 0)).1=s.1:=by rw [es];rfl
   have e2:s.2.2=0:=by rw [es];exact he
   rw [e1];clear q1 q2 q3 hu e1;(conv=>whnf);refine zcv (qbw cb _ _ 0 w2 (hm.get mh)) ?_;rintro r w3 ⟨rfl,rfl⟩;refine zu ?_;refine zcv (qb8 cb _ s.2.1 0 B _ (hm.get mh) (hvB _ hm.ext) hsb.2 Oo) ?_;rintro r w4 ⟨rfl,hu⟩;have hx1:=qbg (B.drop s.2.1);rw [zld] at hx1
   by_cases he2:(numL (B.drop s.2.1)).2.2=0
   ·obtain ⟨q1,q2,q3⟩:=qnk he2;rw [q2,q3] at hu;rw [q1];clear q1 q2 q3;obtain ⟨y,ey⟩:∃ y,y=numL (B.drop s.2.1):=⟨_,rfl⟩
    rw [← ey] at he2 hu hx1 ⊢;have hE:=qxw (ahead:=last.data.toList) (first:=false) es ey e2 he2;have hll:last.data.toList.length=last.size:=rfl;have hm:Mem w w4 [(cb,curO 244 (.slice A' (D.length-p) (ce-p)) (s.2.1+y.2.1) 0)]:=hm.upd (i:=0) rfl hu;(conv=>whnf);refine zcv (qbw cb _ _ 0 w4 (hm.get mh)) ?_;rintro r w5 ⟨rfl,rfl⟩;conv=>whnf
    (repeat' (first|refine zp ?_|refine zC (fun _=>zw ?_) (fun _=>zw ?_)))
    ·have hent:entG B false last.data.toList=([],0,161):=by rw [hE,if_pos Oo]
     rw [qb2,if_neg Oo,← eB,hent];exact ⟨rfl,hm.ext⟩
    ·have hent:entG B false last.data.toList=([],0,2):=by rw [hE,if_neg Oo,if_pos Oo]
     rw [qb2,if_neg Oo,← eB,hent];exact ⟨rfl,hm.ext⟩
    ·have hent:entG B false last.data.toList=([],0,2):=by rw [hE,if_neg Oo,if_pos Oo]
     rw [qb2,if_neg Oo,← eB,hent];exact ⟨rfl,hm.ext⟩
    refine zcv (qmj cb _ (s.2.1+y.2.1) 0 B w5 (hm.get mh) (hvB w5 hm.ext) Oo Oo) ?_;rintro r w6 ⟨rfl,he6⟩;have hm:=hm.call he6;(conv=>whnf);refine zt ?_;refine zC (fun _=>zw ?_) (fun _=>zw ?_)
    ·have hent:entG B false last.data.toList=([],0,10):=by rw [hE,if_neg Oo,if_neg Oo,if_pos Oo]
     rw [qb2,if_neg Oo,← eB,hent];exact ⟨rfl,hm.ext⟩
    have hent:entG B false last.data.toList=(last.data.toList.take s.1++(B.drop (s.2.1+y.2.1)).take y.1,s.2.1+y.2.1+y.1,0):=by rw [hE,if_neg Oo,if_neg Oo,if_neg Oo]
    rw [qb2,if_neg Oo,← eB,hent];refine zcv (qh5 cb _ (s.2.1+y.2.1) 0 w6 (hm.get mh)) ?_;rintro r w7 ⟨rfl,rfl⟩;refine zu ?_;refine zy ?_;have hm:=hm.drew;refine zv ?_;refine SliceS.at_ 0 s.1 rfl (by show (_:Int)=_;omega) Oo Oo (zu ?_);refine LoadV.own (hm.ext.get h1) rfl (zu ?_);refine SliceV.bs (h3.ext hm.ext) rfl (p+(s.2.1+y.2.1)) (p+(s.2.1+y.2.1)+y.1) ce (by show (_:Int)=_;omega) (by show (_:Int)=_;omega) rfl Oo Oo Oo znr (fun h=>by cases h) ?_;intro A2 hA2;refine zu ?_;have ecut:((D.drop (p+(s.2.1+y.2.1))).take (p+(s.2.1+y.2.1)+y.1-(p+(s.2.1+y.2.1))))=(B.drop (s.2.1+y.2.1)).take y.1:=by
     rw [eB,List.drop_drop];congr 1;omega
    rw [ecut] at hA2;refine BytesS.sl hA2 (by rw [List.length_take,zld];omega) (zu ?_);have z1:(last.extract 0 s.1).size=s.1:=by rw [ByteArray.size_extract];omega
    have z2:(⟨((B.drop (s.2.1+y.2.1)).take y.1).toArray⟩:ByteArray).size=y.1:=by
     show (List.toArray _).size=_;rw [List.size_toArray,List.length_take,zld];omega
    refine Obl.mk (by rw [z1,z2];omega) (zw ?_);have hcat:last.extract 0 s.1++⟨((B.drop (s.2.1+y.2.1)).take y.1).toArray⟩=(⟨(last.data.toList.take s.1++(B.drop (s.2.1+y.2.1)).take y.1).toArray⟩:ByteArray):=by
     apply ByteArray.ext;rw [← Array.toList_inj,ByteArray.data_append,ByteArray.data_extract];simp
    rw [hcat,if_neg Js];refine zv ?_;refine ⟨?_,hm.ext⟩;have e8:((p:Int)+((s.2.1+y.2.1:Nat):Int)+((y.1:Nat):Int))=((p+(s.2.1+y.2.1+y.1):Nat):Int):=by omega
    rw [e8];rfl
   ·obtain ⟨q1,q2,q3⟩:=qr1 he2;rw [q2,q3] at hu;rw [q1];have hm:Mem w w4 [(cb,curO 244 (.slice A' (D.length-p) (ce-p)) s.2.1 (numL (B.drop s.2.1)).2.2)]:=hm.upd (i:=0) rfl hu;(conv=>whnf);refine zcv (qbw cb _ _ _ w4 (hm.get mh)) ?_;rintro r w5 ⟨rfl,rfl⟩;refine zu ?_;have hent:(entG B false last.data.toList)=([],0,(numL (B.drop s.2.1)).2.2):=by
     simp only [entG,Bool.false_eq_true,if_false,← es];rw [if_neg Oo,if_pos he2]
    rw [qb2,if_neg Oo,← eB,hent,if_pos he2];exact ⟨rfl,hm.ext⟩
  ·obtain ⟨q1,q2,q3⟩:=qr1 he;rw [q2,q3] at hu;rw [q1];have hm:Mem w w2 [(cb,curO 244 (.slice A' (D.length-p) (ce-p)) 0 (numL B).2.2)]:=hm.upd (i:=0) rfl hu;have he':(numL B).2.2≠0:=he;(conv=>whnf);refine zcv (qbw cb _ _ _ w2 (hm.get mh)) ?_;rintro r w3 ⟨rfl,rfl⟩;refine zu ?_;have hent:qb2 D p false last.data.toList=([],0,(numL B).2.2):=by
    have:(entG B false last.data.toList).2.2=(numL B).2.2:=by
     simp only [entG,Bool.false_eq_true,if_false];rw [if_pos he']
    rw [qb2,if_neg Oo,← eB,this,if_pos he']
   rw [hent];exact ⟨rfl,hm.ext⟩
 ·refine zv ?_;have es:s=(0,0,0):=es;have hm:Mem w w1 [(cb,curO 244 (.slice A' (D.length-p) (ce-p)) s.2.1 0)]:=by rw [es];exact hm
  have e2:s.2.2=0:=by rw [es]
  refine zcv (qbw cb _ _ 0 w1 (hm.get mh)) ?_;rintro r w3 ⟨rfl,rfl⟩;refine zu ?_;refine zcv (qb8 cb _ s.2.1 0 B _ (hm.get mh) (hvB _ hm.ext) hsb.2 Oo) ?_;rintro r w4 ⟨rfl,hu⟩;have hx1:=qbg (B.drop s.2.1);rw [zld] at hx1
  by_cases he2:(numL (B.drop s.2.1)).2.2=0
  ·obtain ⟨q1,q2,q3⟩:=qnk he2;rw [q2,q3] at hu;rw [q1];clear q1 q2 q3;obtain ⟨y,ey⟩:∃ y,y=numL (B.drop s.2.1):=⟨_,rfl⟩
   rw [← ey] at he2 hu hx1 ⊢;have hE:=qxw (ahead:=last.data.toList) (first:=true) es ey e2 he2;have hll:last.data.toList.length=last.size:=rfl;have hs1:s.1=0:=by rw [es]
   have hm:Mem w w4 [(cb,curO 244 (.slice A' (D.length-p) (ce-p)) (s.2.1+y.2.1) 0)]:=hm.upd (i:=0) rfl hu;(conv=>whnf);refine zcv (qbw cb _ _ 0 w4 (hm.get mh)) ?_;rintro r w5 ⟨rfl,rfl⟩;(conv=>whnf);refine zt ?_;refine zC (fun _=>zu ?_) (fun _=>zu ?_)
   ·have hent:entG B true last.data.toList=([],0,2):=by rw [hE,if_neg Oo,if_pos Oo]
    rw [qb2,if_neg Oo,← eB,hent];exact ⟨rfl,hm.ext⟩
   refine zcv (qmj cb _ (s.2.1+y.2.1) 0 B w5 (hm.get mh) (hvB w5 hm.ext) Oo Oo) ?_;rintro r w6 ⟨rfl,he6⟩;have hm:=hm.call he6;(conv=>whnf);refine zt ?_;refine zC (fun _=>zw ?_) (fun _=>zw ?_)
   ·have hent:entG B true last.data.toList=([],0,10):=by rw [hE,if_neg Oo,if_neg Oo,if_pos Oo]
    rw [qb2,if_neg Oo,← eB,hent];exact ⟨rfl,hm.ext⟩
   have hent:entG B true last.data.toList=(last.data.toList.take s.1++(B.drop (s.2.1+y.2.1)).take y.1,s.2.1+y.2.1+y.1,0):=by rw [hE,if_neg Oo,if_neg Oo,if_neg Oo]
   rw [qb2,if_neg Oo,← eB,hent];refine zcv (qh5 cb _ (s.2.1+y.2.1) 0 w6 (hm.get mh)) ?_;rintro r w7 ⟨rfl,rfl⟩;refine zu ?_;refine zy ?_;have hm:=hm.drew;refine zv ?_;refine SliceS.at_ 0 s.1 rfl (by show (_:Int)=_;omega) Oo Oo (zu ?_);refine LoadV.own (hm.ext.get h1) rfl (zu ?_);refine SliceV.bs (h3.ext hm.ext) rfl (p+(s.2.1+y.2.1)) (p+(s.2.1+y.2.1)+y.1) ce (by show (_:Int)=_;omega) (by show (_:Int)=_;omega) rfl Oo Oo Oo znr (fun h=>by cases h) ?_;intro A2 hA2;refine zu ?_;have ecut:((D.drop (p+(s.2.1+y.2.1))).take (p+(s.2.1+y.2.1)+y.1-(p+(s.2.1+y.2.1))))=(B.drop (s.2.1+y.2.1)).take y.1:=by
    rw [eB,List.drop_drop];congr 1;omega
   rw [ecut] at hA2;refine BytesS.sl hA2 (by rw [List.length_take,zld];omega) (zu ?_);have z1:(last.extract 0 s.1).size=s.1:=by rw [ByteArray.size_extract];omega
   have z2:(⟨((B.drop (s.2.1+y.2.1)).take y.1).toArray⟩:ByteArray).size=y.1:=by
    show (List.toArray _).size=_;rw [List.size_toArray,List.length_take,zld];omega
   refine Obl.mk (by rw [z1,z2];omega) (zw ?_);have hcat:last.extract 0 s.1++⟨((B.drop (s.2.1+y.2.1)).take y.1).toArray⟩=(⟨(last.data.toList.take s.1++(B.drop (s.2.1+y.2.1)).take y.1).toArray⟩:ByteArray):=by
    apply ByteArray.ext;rw [← Array.toList_inj,ByteArray.data_append,ByteArray.data_extract];simp
   rw [hcat,if_neg Js];refine zv ?_;refine ⟨?_,hm.ext⟩;have e8:((p:Int)+((s.2.1+y.2.1:Nat):Int)+((y.1:Nat):Int))=((p+(s.2.1+y.2.1+y.1):Nat):Int):=by omega
   rw [e8];rfl
  ·obtain ⟨q1,q2,q3⟩:=qr1 he2;rw [q2,q3] at hu;rw [q1];have hm:Mem w w4 [(cb,curO 244 (.slice A' (D.length-p) (ce-p)) s.2.1 (numL (B.drop s.2.1)).2.2)]:=hm.upd (i:=0) rfl hu;(conv=>whnf);refine zcv (qbw cb _ _ _ w4 (hm.get mh)) ?_;rintro r w5 ⟨rfl,rfl⟩;refine zu ?_;have hent:(entG B true last.data.toList)=([],0,(numL (B.drop s.2.1)).2.2):=by
    simp only [entG,if_true,← es];rw [if_neg Oo,if_pos he2]
   rw [qb2,if_neg Oo,← eB,hent,if_pos he2];exact ⟨rfl,hm.ext⟩
end Go.Proofs.YtkienlambankeaaGreatDoor
