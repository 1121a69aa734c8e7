/- Lemmas and contracts of functions on the way to the law's card (part 7 of 16). -/
import Derived.Test.YtccmcfpmknpccaaGreatDoorSH6
namespace Go.Proofs.YtccmcfpmknpccaaGreatDoor
set_option maxHeartbeats 8000000
open Go.RowKit V
set_option maxRecDepth 100000
def bSt (E:LB) (p:Nat):Nat→LB × Nat
 | 0=>([],p)
 | j+1=>((blk E p j).1,(blk E p j).2.1)
theorem qabe {E:LB} {p:Nat}:∀ {j:Nat},(∀ i,i<j→(blk E p i).2.2=0)→blk E p j=qew E (bSt E p j).2 (decide (j=0)) (bSt E p j).1
 | 0,_=>rfl
 | j+1,h=>by
  rw [blk,if_neg (by rw [h j Oo];simp)];rfl
def bRow (m:LB) (k j:Nat):List Value:=[ii (16*k+j:Nat),.string ⟨(blk (qc m) (qy m k) j).1.toArray⟩]
structure BEnd (m:LB) (k n:Nat):Prop where
 ok:∀ j,j<n→16*k+j<dN m∧(blk (qc m) (qy m k) j).2.2=0
 le:n≤16
 stop:n<16→16*k+n<dN m→(blk (qc m) (qy m k) n).2.2≠0
theorem BEnd.ex (m:LB) (k:Nat):∃ n,BEnd m k n:=by
 have:∀ d j,j+d=16→(∀ i,i<j→16*k+i<dN m∧(blk (qc m) (qy m k) i).2.2=0)→∃ n,BEnd m k n:=by
  intro d
  induction d with
  | zero=>intro j hj h;exact ⟨j,h,by omega,fun h=>by omega⟩
  | succ d ih=>
   intro j hj h
   by_cases hg:16*k+j<dN m∧(blk (qc m) (qy m k) j).2.2=0
   ·refine ih (j+1) Oo fun i hi=>?_
    by_cases e:i=j
    ·subst e;exact hg
    ·exact h i Oo
   ·exact ⟨j,h,by omega,fun _ h1 h2=>hg ⟨h1,h2⟩⟩
 exact this 16 0 rfl fun i h=>by omega
theorem qnq {w:World} {b:Nat} {m:LB} (h:DictAt w b m) (k:Nat):qy m k≤134217728:=by
 have:=qrl (qai m) (k*dW m) (dW m) h.width;unfold qy;omega
theorem qabd {m:LB} {k n j:Nat} (h:BEnd m k n) (hj:j≤n) (hE:(qc m).length≤67108864) (hp:qy m k≤134217728) :
  (bSt (qc m) (qy m k) j).1.length≤262144∧(bSt (qc m) (qy m k) j).2≤134217728:=by
 cases j with
 | zero=>exact ⟨by simp [bSt],hp⟩
 | succ j=>
  have:=q5u (h.ok j Oo).2;exact ⟨this.1,by have:=this.2;simp only [bSt];omega⟩
def BlkΦ (b:Nat) (m:LB) (k b1 b2:Nat) (w:World):Prop:=DictAt w b m∧w.cell? ⟨b1,0,none⟩=some (pp b)∧w.cell? ⟨b2,0,none⟩=some (ii k)
theorem qng (b:Nat) (m:LB) (k n b1 b2:Nat) (hk:k<upN (dN m) 16) (hn:BEnd m k n) :
  SeqV Tryz.prog 370 [pp b1,pp b2] ((List.range n).map (bRow m k)) (BlkΦ b m k b1 b2):=by
 intro l I Ix w hI sI sIx h0 hy;obtain ⟨h,h1,h2⟩:=hI 0 w h0;have hub:upN (dN m) 16≤4194304:=Nat.le_trans (qbi _ _ Od) h.n;have hEl:(qc m).length≤67108864:=by rw [h.entries];exact h.size
 have hpl:=qnq h k;refine gvW Jk Tryz.func370 rfl Tryz.ntmps370 rfl (zw ?_);refine LoadV.of h1 (zw ?_);refine LoadV.of h2 (zw ?_);refine zcv (qof b m k w h hk) ?_;rintro v w' ⟨rfl,rfl⟩;(conv=>whnf);refine LoadV.of h2 (zu ?_);refine qza (fun j:Nat=>[(0,.func (.yield l) #[] #[]),(1,pp b1),(2,pp b2),(4,ii (bSt (qc m) (qy m k) j).2),(5,.string ⟨(bSt (qc m) (qy m k) j).1.toArray⟩),(6,ii ((k:Int)*16+j))])
  (fun j w'=>j≤n∧I j w') (fun j=>n-j) 0 ⟨rfl,rfl,rfl,rfl,rfl,by show ii _=ii _;congr 1,trivial⟩ ⟨by omega,h0⟩ ?_
 rintro j w1 ρ' ⟨hj,hIj⟩;obtain ⟨hD1,hc1,hc2⟩:=hI j w1 hIj;obtain ⟨hs1,hs2⟩:=qabd hn hj hEl hpl;have hb:=fun hg:∀ i,i<j→(blk (qc m) (qy m k) i).2.2=0=>qabe hg
 have hb:=hb fun i hi=>(hn.ok i Oo).2
 have hle:=hn.le;(conv=>whnf);refine LoadV.of hc1 (zw ?_);obtain ⟨⟨P,cp,E,ce,hd1,_,_,_⟩,_⟩:=id hD1;refine LoadV.own hd1 rfl ?_;have hxs:((List.range n).map (bRow m k)).length=n:=by simp
 have hend:j=n→I ((List.range n).map (bRow m k)).length w1:=fun e=>by rw [hxs,← e];exact hIj
 (conv=>whnf);refine zC (fun _=>zu ?_) (fun _=>zu ?_)
 ·refine LoadV.of hc2 (zw ?_);refine zt ?_;refine zC (fun _=>zw ?_) (fun _=>zw ?_)
  ·refine LoadV.of hc1 (zw ?_);have e16:decide (((k:Int)*16+(j:Int))%16=0)=decide (j=0):=decide_eq_decide.2 Oo;refine Obl.mk ⟨by omega,by omega⟩ (zw ?_);rw [e16];refine zcv (qnt b m (bSt (qc m) (qy m k) j).2 (decide (j=0)) ⟨(bSt (qc m) (qy m k) j).1.toArray⟩ w1 hD1 Oo (by show (bSt (qc m) (qy m k) j).1.length≤_;omega)) ?_;rintro v w2 ⟨rfl,he2⟩;have hb':qew (qc m) (bSt (qc m) (qy m k) j).2 (decide (j=0)) (⟨(bSt (qc m) (qy m k) j).1.toArray⟩:ByteArray).data.toList=blk (qc m) (qy m k) j:=hb.symm;rw [hb'];obtain ⟨x,ex⟩:∃ x,x=blk (qc m) (qy m k) j:=⟨_,rfl⟩
   have hok:=hn.ok j;have hst:=hn.stop;rw [← ex] at hok ⊢;conv=>whnf
   by_cases hx0:x.2.2=0
   ·have hjn:j<n:=by
     refine Decidable.byContradiction fun hc=>?_;obtain rfl:j=n:=by omega
     exact hst Oo Oo (by rw [← ex];exact hx0)
    refine zv ?_;refine YieldV.mono (hy j [ii ((k:Int)*16+j),.string ⟨x.1.toArray⟩] w2 ?_ (sI _ _ _ hIj he2)) ?_
    ·rw [List.getElem?_map,List.getElem?_range hjn,Option.map_some,bRow,← ex]
     congr 3
     omega
    rintro v w3 (⟨rfl,hI3⟩|⟨rfl,hX⟩)
    ·refine zu ?_;refine ⟨rfl,j+1,⟨rfl,rfl,rfl,?_,?_,?_,trivial⟩,⟨by omega,hI3⟩,by omega⟩
     ·simp only [bSt,← ex];rfl
     ·simp only [bSt,← ex];rfl
     ·show ii _=ii _
      congr 1
    ·refine zu ?_;exact .inr ⟨j,by rw [hxs];exact hjn,hX⟩
   ·have hjn:j=n:=by
     refine Decidable.byContradiction fun hc=>?_;exact hx0 (hok Oo).2
    refine zv ?_;exact .inl (sI _ _ _ (hend hjn) he2)
  ·have hjn:j=n:=by omega
   exact .inl (hend hjn)
 ·have hjn:j=n:=by
   refine Decidable.byContradiction fun hc=>?_;have:=(hn.ok j Oo).1;omega
  exact .inl (hend hjn)
theorem qw0 (b k:Nat) (w:World):Gv Tryz.prog 324 [pp b,ii k] w fun r w'=>
  (∃ b1 b2,r=.func (.func 370) #[] #[pp b1,pp b2]∧w'.cell? ⟨b1,0,none⟩=some (pp b)∧w'.cell? ⟨b2,0,none⟩=some (ii k))∧Ext w w':=by
 refine ze Tryz.func324 Tryz.ntmps324 ?_;refine znm (Mem.nil w) fun b1 w1 hm=>zw ?_;refine znm hm fun b2 w2 hm=>zw ?_;refine ⟨⟨b1,b2,rfl,?_,?_⟩,hm.ext⟩
 ·rw [qa (hm.get (zmc mh))];rfl
 ·rw [qa (hm.get mh)];rfl
def qgs (m:LB) (i:Nat):Value:=
 match dGet m i with
 | some s=>.tuple #[.string ⟨s.toArray⟩,.bool true]
 | none=>.tuple #[.string ⟨#[]⟩,.bool false]
theorem qsj (b:Nat) (m:LB) (i:Nat) (w:World) (h:DictAt w b m) (hi:i≤16777216) :
  Gv Tryz.prog 249 [pp b,ii i] w fun r w'=>r=qgs m i∧Ext w w':=by
 refine gvW Jk Tryz.func249 rfl Tryz.ntmps249 rfl (zw ?_);refine znm (Mem.nil w) fun bi w1 hm=>zw ?_;refine znm hm fun bs w2 hm=>zw ?_;refine znm hm fun bb w3 hm=>zw ?_;refine DrawW.of ?_;obtain ⟨⟨P,cp,E,ce,hd1,_,_,_⟩,_⟩:=h.ext hm.ext;refine zy ?_;refine LoadV.mem (hm.drew) (i:=2) rfl rfl (zu ?_);refine LoadV.mem (hm.drew) (i:=2) rfl rfl (zu ?_);refine LoadV.own hd1 rfl (zw ?_);refine zt ?_;refine zC (fun _=>zw ?_) (fun _=>zw ?_)
 ·have hg:qgs m i=.tuple #[.string ⟨#[]⟩,.bool false]:=by rw [qgs,dGet,if_neg Oo]
  rw [hg];refine StoreV.mem hm.drew (i:=1) rfl Js rfl fun w4 hm=>zw ?_;refine StoreV.mem hm (i:=0) rfl Js rfl fun w5 hm=>zw ?_;refine qj (R:=fun v w'=>v=.tuple #[.string ⟨#[]⟩,.bool false]∧Ext w w') (zw ?_);refine zr hm 1 ?_;refine zr hm 0 ?_;exact ⟨rfl,hm.ext⟩
 have hm:=hm.drew;refine zr hm 2 ?_;refine zv ?_;refine zcv (qw0 b (i/16) w3.drew) ?_;rintro v w4 ⟨⟨b1,b2,rfl,hb1,hb2⟩,he4⟩;have hm:=hm.call he4;have hD4:=h.ext hm.ext;(conv=>whnf);obtain ⟨n,hn⟩:=BEnd.ex m (i/16);have hn16:=hn.le;have hki:i/16<upN (dN m) 16:=by unfold upN;omega
 have hlen:((List.range n).map (bRow m (i/16))).length=n:=by simp
 refine qtl (Φ:=BlkΦ b m (i/16) b1 b2) (lb:=[pp b1,pp b2]) (xs:=(List.range n).map (bRow m (i/16))) rfl Jk (qng b m (i/16) n b1 b2 hki hn).toC Od ?_
  (fun k X w'=>∃ _:Unit,k≤i%16∧Mem w4 w' (X++[]))
  (fun c k X w'=>∃ _:Unit,(c=.ret∧k=i%16)∧Mem w w' (X++[(bb,.cells #[.bool true] 4),(bs,.cells #[.string ⟨(blk (qc m) (qy m (i/16)) (i%16)).1.toArray⟩] 9),(bi,.cells #[ii i] 3)]))
  (fun k=>Carr.mem _ _) (fun c k=>Carr.mem _ _) (fun k X w' ⟨_,_,hm⟩=>⟨hD4.ext hm.ext,hm.ext.cell hb1,hm.ext.cell hb2⟩) ⟨(),Nat.zero_le _,by simpa using Mem.nil w4⟩ ?_ ?_ ?_
 ·intro x hx;obtain ⟨j,_,rfl⟩:=List.mem_map.1 hx;rfl
 ·rintro l D ob k x X w5 w6 hx ⟨_,hk,hmJ⟩;have hkn:k<n:=by
   have:=(List.getElem?_eq_some_iff.1 hx).1
   rwa [hlen] at this
  rw [List.getElem?_map,List.getElem?_range hkn,Option.map_some,Option.some.injEq] at hx;subst hx;have hm:=hm.glue2 hmJ;(conv=>whnf);refine ⟨rfl,rfl,?_⟩;(conv=>whnf);refine zr hm 2 ?_;refine zC (fun _=>zw ?_) (fun _=>zw ?_)
  ·obtain rfl:k=i%16:=by omega
   refine StoreV.mem hm (i:=1) rfl Js rfl fun w7 hm=>zw ?_;refine StoreV.mem hm (i:=0) rfl Js rfl ?_;intro w8 hm;rw [List.append_nil] at hm;(conv=>whnf);exact ⟨(),⟨rfl,rfl⟩,hm.perm List.perm_append_comm⟩
  ·exact ⟨(),by omega,hmJ⟩
 ·rintro D w5 ⟨_,hk,hmJ⟩;rw [hlen] at hk;have hm:=hm.glue hmJ;have hg:qgs m i=.tuple #[.string ⟨#[]⟩,.bool false]:=by
   have hst:=hn.stop;have hne:(blk (qc m) (qy m (i/16)) (i%16)).2.2≠0:=by
    have h1:=hst Oo Oo;rw [q2f h1 (i:=i%16) Oo];exact h1
   rw [qgs,dGet,if_pos Oo,if_neg hne]
  rw [hg];(conv=>whnf);refine StoreV.mem hm (i:=2) rfl Js rfl fun w6 hm=>zw ?_;refine StoreV.mem hm (i:=1) rfl Js rfl fun w7 hm=>zw ?_;refine LeaveV.mark (hm.get mh) fun w8 hw=>?_;have hm:=hm.setO (i:=0) _ rfl hw;(conv=>whnf);refine qj (R:=fun v w'=>v=.tuple #[.string ⟨#[]⟩,.bool false]∧Ext w w') (zw ?_);refine zr hm 2 ?_;refine zr hm 1 ?_;exact ⟨rfl,hm.ext⟩
 ·rintro D c k w5 hkl ⟨_,⟨rfl,rfl⟩,hm⟩;rw [hlen] at hkl;have hg:qgs m i=.tuple #[.string ⟨(blk (qc m) (qy m (i/16)) (i%16)).1.toArray⟩,.bool true]:=by
   rw [qgs,dGet,if_pos Oo,if_pos (hn.ok _ hkl).2]
  rw [hg];(conv=>whnf);refine LeaveV.mark (hm.get mh) fun w8 hw=>?_;have hm:=hm.setO (i:=0) _ rfl hw;(conv=>whnf);refine qj (R:=fun v w'=>v=.tuple #[.string ⟨(blk (qc m) (qy m (i/16)) (i%16)).1.toArray⟩,.bool true]∧Ext w w') (zw ?_);refine zr hm 2 ?_;refine zr hm 1 ?_;exact ⟨rfl,hm.ext⟩
theorem qzr {l:LB} {k most:Nat} (h:(numE l k most).2=0):vNum l k≤most:=by
 grind [numE]
theorem q8p {l:LB} {k most:Nat} (h:(numE l k most).2=0):(numL (l.drop (vAt l k))).2.2=0:=by grind [numE]
theorem qaao:Tryz.prog.underlying 169=some (.slice 164):=Tryz.underlying169
theorem u64I:Tryz.prog.info? 164=some ((Tryz.prog.info? 164).get Jk):=(Option.some_get _).symm
theorem u64Z:((Tryz.prog.info? 164).get Jk).zero=some (.int .u64 0):=by kernel_rfl
theorem q9x {l:LB} (h:(sE l).2=0):(∀ k,k<3→(vsF l k).2=0)∧q8 l 3=l.length:=by
 have h1:(errF (vsF l) 3).2=0:=by grind [sE]
 exact ⟨qb8 h1,by grind [sE]⟩
theorem qadj:Tryz.prog.underlying 93=some (.slice 95):=Tryz.underlying93
theorem idsI:Tryz.prog.info? 95=some ((Tryz.prog.info? 95).get Jk):=(Option.some_get _).symm
theorem idsZ:((Tryz.prog.info? 95).get Jk).zero=some ((((Tryz.prog.info? 95).get Jk).zero).get Jk):=(Option.some_get _).symm
structure Al (w0:World) (L:List (Nat × Obj)) (o1 o1' o2 o2':Obj) (s1 s2 t1 t2:Bool) (v1 v2:Value) (w:World):Prop where
 h:∃ b1 b2:Nat,(s1=true→v1=pp b1)∧(s2=true→v2=pp b2)∧(s1=false→t1=false)∧(s2=false→t2=false)∧
  Mem w0 w ((bif s1 then [(b1,bif t1 then o1' else o1)] else [])++((bif s2 then [(b2,bif t2 then o2' else o2)] else [])++L))
section
variable {w0 w w':World} {L:List (Nat × Obj)} {o1 o1' o2 o2':Obj} {s1 s2 t1 t2:Bool} {v1 v2:Value}
theorem Al.start (h:Mem w0 w L):Al w0 L o1 o1' o2 o2' false false false false v1 v2 w:=⟨0,0,Js,Js,fun _=>rfl,fun _=>rfl,h⟩
theorem Al.call (h:Al w0 L o1 o1' o2 o2' s1 s2 t1 t2 v1 v2 w) (he:Ext w w'):Al w0 L o1 o1' o2 o2' s1 s2 t1 t2 v1 v2 w':=by
 obtain ⟨b1,b2,h1,h2,h3,h4,h5⟩:=h;exact ⟨b1,b2,h1,h2,h3,h4,h5.call he⟩
theorem Al.mem (h:Al w0 L o1 o1' o2 o2' s1 s2 t1 t2 v1 v2 w):Mem w0 w L:=by
 obtain ⟨b1,b2,h1,h2,h3,h4,h5⟩:=h;exact h5.sub Js
theorem Al.new1 (h:Al w0 L o1 o1' o2 o2' false s2 t1 t2 v1 v2 w):Al w0 L o1 o1' o2 o2' true s2 t1 t2 (.pointer (some ⟨w.heap.size,0,none⟩)) v2 (w.alloc o1):=by
 obtain ⟨b1,b2,h1,h2,h3,h4,h5⟩:=h;refine ⟨w.heap.size,b2,fun _=>rfl,h2,Js,h4,?_⟩;rw [h3 rfl];exact h5.new rfl rfl
theorem Al.put1 (h:Al w0 L o1 o1' o2 o2' true s2 false t2 v1 v2 w):∃ b,v1=pp b∧∃ M,Mem w0 w ((b,o1)::M)∧∀ {w' u1},Mem w0 w' ((b,o1')::M)→u1=pp b→Al w0 L o1 o1' o2 o2' true s2 true t2 u1 v2 w':=by
 obtain ⟨b1,b2,h1,h2,h3,h4,h5⟩:=h;exact ⟨b1,h1 rfl,_,h5,fun hm hu=>⟨b1,b2,fun _=>hu,h2,Js,h4,hm⟩⟩
theorem Al.done1 (h:Al w0 L o1 o1' o2 o2' true false true t2 v1 v2 w):∃ b1,v1=pp b1∧Mem w0 w ((b1,o1')::L):=by
 grind [h]
end
theorem LoadV.fim {w0 w:World} {L:List (Nat × Obj)} {b off n:Nat} {F:Nat→Int} {t:TypeId} {x:Int} {K:Value→Prop} (h:Mem w0 w L) (hi:(b,Obj.cells (fnA n (inF F)) t)∈L) (j:Nat) (e:off=j) (hj:j<n) (hv:F j=x) (hk:K (ii x)):LoadV w b off K:=by
 obtain ⟨i,hi⟩:=List.getElem?_of_mem hi;exact LoadV.fi h hi j e hj hv hk
theorem qacr {l:LB} (h:(sE l).2=0):(∀ k,k<3→vNum l k≤67108864)∧q8 l 3=l.length:=by
 unfold sE at h
 split at h
 ·omega
 rename_i h0
 split at h
 ·cases h
 rename_i g1
 split at h
 ·cases h
 rename_i g2
 exact ⟨fun k hk=>qzr (qb8 (f:=vsF l) (n:=3) Oo k hk),by omega⟩
theorem qor {l:LB} (h:q8 l 3=l.length) {k:Nat} (hk:k<3):q8 l k+vNum l k≤l.length:=by
 grind [q8]
theorem q0p {l:LB} (h:q8 l 3=l.length) {k:Nat} (hk:k<3):(sDict l k).length=vNum l k:=by
 have:=qor h hk
 grind [sDict]
open Go.RowKit
namespace V
theorem StoreA.row {P:Program} {w0 w:World} {L:List (Nat × Obj)} {i b off:Nat} {cur:Array Value} {t:TypeId} {vs:List Value} {K:World→Prop} (h:Mem w0 w L)
  (hi:L[i]?=some (b,.cells cur t)) (hl:off+vs.length≤cur.size) (h1:∀ v∈vs,v.oneCell'=true)
  (hk:∀ w',(∀ c,c≠b→w'.heap[c]?=w.heap[c]?)→w.heap.size≤w'.heap.size→Mem w0 w' (L.set i (b,.cells (cur.toList.take off++vs++cur.toList.drop (off+vs.length)).toArray t))→K w'):StoreA P w b off vs K:=by
 have hm:(b,Obj.cells cur t)∈L:=(by grind)
 have hg:=h.get hm;have hr:=run_storeCells_at P b off t vs 0 cur w hg (by simpa using hl) h1;simp only [Nat.add_zero] at hr;refine ⟨_,hr,hk _ (fun c hc=>qp hc) Js ?_⟩;refine h.set hi ?_ (qb3 hg) (fun c hc=>qp hc);exact Below.trans h.ext ⟨rfl,rfl,rfl,by simp,fun k hk=>qp (by have:=(h.own _ hm).1;omega)⟩
section
variable {w0 w w':World} {L L':List (Nat × Obj)} {o:Obj} {m1 m2 m3:Nat→Value} {c1 c2 c3:Bool} {v1 v2 v3:Value}
end
theorem StoreV.row {w0 w:World} {L:List (Nat × Obj)} {i b off:Nat} {cs:Array Value} {t:TypeId} {v:Value} {K:World→Prop} (h:Mem w0 w L) (hi:L[i]?=some (b,.cells cs t))
  (ho:off<cs.size) (h1:qb6 v=true) (hk:∀ w',(∀ c,c≠b→w'.heap[c]?=w.heap[c]?)→w.heap.size≤w'.heap.size→Mem w0 w' (L.set i (b,.cells (cs.setIfInBounds off v) t))→K w'):StoreV w b off v K:=
 StoreV.own (h.get (zmg hi)) ho h1 fun w' hw=>hk w' (by grind [Below.heap_setCell]) (by simp_all) (h.setCell hi hw)
theorem CellsAt.other {w w':World} {x b off:Nat} {vs:List Value} (h:CellsAt w b off vs) (hb:b≠x) (hw:∀ c,c≠x→w'.heap[c]?=w.heap[c]?):CellsAt w' b off vs:=by
 intro k v hv;have:=h k v hv
 grind [World.cell?]
theorem SlAt.other {α:Type} {enc:α→List Value} {size:Nat} {w w':World} {A:oA} {l:List α} {x:Nat} {cs:Array Value} {t:TypeId} {fz:Nat × Nat} (h:SlAt enc size w A l) (hx:w.heap[x]?=some (.cells cs t fz))
  (hne:∀ y∈l,∀ v∈cs.toList,(enc y)[0]?≠some v) (hen:∀ y∈l,enc y≠[]) (hw:∀ c,c≠x→w'.heap[c]?=w.heap[c]?):SlAt enc size w' A l:=by
 refine ⟨fun hn=>?_⟩;obtain ⟨b,off,h1,h2⟩:=h.at_ hn;refine ⟨b,off,h1,fun j y hy=>(h2 j y hy).other ?_ hw⟩;intro hbx;subst hbx;have hy':y∈l:=zmg hy;obtain ⟨v,hv⟩:∃ v,(enc y)[0]?=some v:=by
  cases he:enc y with
  | nil=>exact absurd he (hen y hy')
  | cons v r=>exact ⟨v,rfl⟩
 have h3:=h2 j y hy 0 v hv;rw [qa hx] at h3;exact hne y hy' v (Array.mem_toList_iff.2 (Array.mem_of_getElem? h3)) hv
end V
def ErrTyp (w:World):Prop:=w.cell? ⟨0,0,none⟩=some (.iface 314 (.agg #[.pointer (some ⟨7,38,none⟩)]))
theorem ErrTyp.ext {w w':World} (h:ErrTyp w) (he:Ext w w'):ErrTyp w':=he.cell h
theorem qnd (t:Value) (w:World):Gv Tryz.prog 52 [.nilIface,t] w fun r w'=>r=.bool false∧w'=w:=
 qez Jk ((qabc t w).mono fun e w' ⟨he,hw⟩=>⟨_,he,rfl,hw⟩)
def vF (d:Nat→Nat) (l:LB) (k:Nat):Nat→Value:=fun j=>
 if j=6 then ii (vTot l k:Nat) else if j/2<k then (if j%2=0 then .pointer (some ⟨d (j/2),0,none⟩) else ii (vTot l (j/2)+1:Nat)) else (if j%2=0 then .pointer none else ii 0)
structure VocAt (w:World) (b:Nat) (l:LB):Prop where
 h:∃ d,w.heap[b]?=some (.cells (fnA 7 (vF d l 3)) 305)∧∀ k,k<3→DictAt w (d k) (sDict l k)
theorem VocAt.ext {w w':World} {b:Nat} {l:LB} (h:VocAt w b l) (he:Ext w w'):VocAt w' b l:=by
 obtain ⟨d,h1,h2⟩:=h;exact ⟨d,he.get h1,fun k hk=>(h2 k hk).ext he⟩
theorem qly (n:Nat) (F:Nat→Value) (j:Nat) (h:j<n):(fnA n F).toList[j]?=some (F j):=by
 have:=qa7 n F j h
 simpa using this
theorem q26 (n:Nat) (F:Nat→Value) (i:Nat) (a b:Value) (h:i+2≤n):((fnA n F).toList.take i++[a,b]++(fnA n F).toList.drop (i+[a,b].length)).toArray=fnA n (updF (updF F i a) (i+1) b):=by
 rw [← qdl,← qdl,← Array.toList_inj];simp only [Array.toList_setIfInBounds,List.length_cons,List.length_nil];have hl:(fnA n F).toList.length=n:=by simp [qa1]
 generalize (fnA n F).toList=xs at hl;apply List.ext_getElem?;intro j;rw [List.getElem?_set,List.getElem?_set,List.append_assoc,List.getElem?_append];simp only [List.length_take,List.length_set,hl]
 by_cases h1:j<i
 ·rw [if_pos Oo,if_neg Oo,if_neg Oo,List.getElem?_take,if_pos h1]
 ·rw [if_neg Oo,List.getElem?_append];simp only [List.length_cons,List.length_nil]
  by_cases h2:j=i
  ·subst h2;rw [if_pos Oo,if_neg Oo,if_pos rfl,if_pos Oo,show j-min j n=0 by omega];rfl
  ·by_cases h3:j=i+1
   ·subst h3;rw [if_pos Oo,if_pos rfl,if_pos Oo,show i+1-min i n=1 by omega];rfl
   ·rw [if_neg Oo,if_neg Oo,if_neg Oo,List.getElem?_drop]
    congr 1
    omega
theorem DictAt.other {w w':World} {b x:Nat} {m:LB} {cs:Array Value} {t:TypeId} {fz:Nat × Nat} (h:DictAt w b m) (hx:w.heap[x]?=some (.cells cs t fz)) (ht:t≠395) (hc:∀ v∈cs.toList,∀ c:Nat,v≠.int .u8 c)
  (hw:∀ c,c≠x→w'.heap[c]?=w.heap[c]?):DictAt w' b m:=by
 obtain ⟨⟨P,cp,E,ce,h1,h2,h3,h4⟩,h5,h6,h7,h8⟩:=h;have hbx:b≠x:=by
  intro e;subst e;rw [hx] at h1
  injection h1 with h1
  injection h1 with _ h1 _
  exact ht h1
 have hne:∀ (z:LB),∀ y∈z,∀ v∈cs.toList,(encB y)[0]?≠some v:=fun z y _ v hv e=>by
  cases e;exact hc _ hv _ rfl
 exact ⟨⟨P,cp,E,ce,by rw [hw b hbx];exact h1,h2.other hx (hne _) (fun _ _ e=>by cases e) hw,h3.other hx (hne _) (fun _ _ e=>by cases e) hw,h4⟩,h5,h6,h7,h8⟩
theorem q6z (d:Nat→Nat) (l:LB) (k j:Nat):∀ c:Nat,vF d l k j≠.int .u8 c:=by
 intro c;unfold vF
 split
 ·intro e;cases e
 ·split
  ·split<;>(intro e;cases e)
  ·split<;>(intro e;cases e)
theorem qaau (d:Nat→Nat) (l:LB) (k b:Nat) (hk:k<3):fnA 7 (updF (updF (updF (vF d l k) (2*k) (pp b)) (2*k+1) (ii (vTot l k+1:Nat))) 6 (ii (vTot l (k+1):Nat))) =
  fnA 7 (vF (fun j=>if j=k then b else d j) l (k+1)):=qda fun j hj=>by
 rcases (show k=0∨k=1∨k=2 by omega) with rfl|rfl|rfl<;>
 rcases (show j=0∨j=1∨j=2∨j=3∨j=4∨j=5∨j=6 by omega) with rfl|rfl|rfl|rfl|rfl|rfl|rfl<;>rfl
theorem q27 (l:LB) (A:oA) (c:Nat) (w:World) (hS:SlAt encB 1 w A l) (hc:l.length≤c) (hl:l.length≤70368744177664) (hE:(sE l).2=0) (f:FuncId)
  (hf:∀ k,k<3→∀ w' B c',Ext w w'→SlAt encB 1 w' B (sDict l k)→(sDict l k).length≤c'→Gv Tryz.prog f [.slice B (sDict l k).length c'] w' fun v w''=>(∃ b,v=.tuple #[pp b,.nilIface]∧DictAt w'' b (sDict l k))∧Ext w' w'') :
  Gv Tryz.prog 163 [.slice A l.length c,.func (.func f) #[] #[]] w fun v w'=>(∃ b G,v=.tuple #[pp b,.agg (fnA 3 (inF G)),.nilIface]∧(∀ k,k<3→G k=((q8 l k:Nat):Int))∧VocAt w' b l)∧Ext w w':=by
 have hvs:=(q9x hE).1;obtain ⟨hnb,hpl⟩:=qacr hE;refine ze Tryz.func163 Tryz.ntmps163 ?_;refine znm (Mem.nil w) fun r5 w1 hm=>zw ?_;refine zcv (qdr _ l w1 ⟨A,c,rfl,hc,hS.ext hm.ext⟩) ?_;rintro v w2 ⟨cb,rfl,hcb,hco,he1⟩;have hm:=hm.fresh he1 hcb hco;(conv=>whnf);refine znm hm fun sz w3 hm=>zw ?_;refine znm hm ?_;intro pl w4 hm;have hm:Mem w w4 [(pl,.cells (fnA 3 (inF (fun _:Nat=>(0:Int)))) 113),(sz,.cells (fnA 3 (inF (fun _:Nat=>(0:Int)))) 113),(cb,curO 367 (.slice A l.length c) (vAt l 0) 0),(r5,.cells (fnA 3 (inF (fun _:Nat=>(0:Int)))) 113)]:=hm;(conv=>whnf);refine qm (fun x:Nat × (Nat→Int)=>[(0,.slice A l.length c),(1,.func (.func f) #[] #[]),(4,.pointer none),(5,pp r5),(6,.nilIface),(7,pp cb),(8,pp sz),(9,pp pl),(24,ii x.1)])
  (fun x w'=>x.1≤3∧(∀ j,j<x.1→x.2 j=((vNum l j:Nat):Int))∧Mem w w' [(pl,.cells (fnA 3 (inF (fun _:Nat=>(0:Int)))) 113),(sz,.cells (fnA 3 (inF (x.2))) 113),(cb,curO 367 (.slice A l.length c) (vAt l x.1) 0),(r5,.cells (fnA 3 (inF (fun _:Nat=>(0:Int)))) 113)]) (fun x=>3-x.1) (0,fun _:Nat=>(0:Int))
  ⟨rfl,rfl,rfl,rfl,rfl,rfl,rfl,rfl,rfl,trivial⟩ ⟨by simp,fun j h=>by simp at h,hm⟩ ?_
 clear hm hco he1 hcb;rintro ⟨k,Q⟩ w6 ρ' ⟨k1,hQ,hm⟩;dsimp only at k1 hQ hm ⊢;have hle:=qph l k;have hlt:=qrj l k;(conv=>whnf);refine zC (fun _=>zw ?_) (fun _=>zw ?_)
 ·refine zcv (qis cb (.slice A l.length c) (vAt l k) 0 w6 (hm.get Js)) ?_;rintro r w7 ⟨rfl,rfl⟩;(conv=>whnf);refine zcv (qde cb (.slice A l.length c) (vAt l k) 0 l _ (hm.get Js) ⟨A,c,rfl,hc,hS.ext hm.ext⟩ hle Oo) ?_;rintro r w8 ⟨rfl,hu⟩;have he:=q8p (hvs k Oo);have hnk:=hnb k Oo;rw [qm5 he,qm6 he] at hu;rw [qm4 he];have hm:Mem w w8 [(pl,.cells (fnA 3 (inF (fun _:Nat=>(0:Int)))) 113),(sz,.cells (fnA 3 (inF (Q))) 113),(cb,curO 367 (.slice A l.length c) (vAt l (k+1)) 0),(r5,.cells (fnA 3 (inF (fun _:Nat=>(0:Int)))) 113)]:=hm.upd (i:=2) rfl hu;(conv=>whnf);refine zcv (qe9 cb (.slice A l.length c) (vAt l (k+1)) 0 w8 (hm.get Js)) ?_;rintro r w9 ⟨rfl,rfl⟩;refine zu ?_;refine StoreV.fi (x:=((vNum l k:Nat):Int)) hm (i:=1) rfl k (by rw [show tsz Tryz.prog 3=1 from by kernel_rfl];omega) Oo ?_;intro w10 hm;have hm:Mem w w10 [(pl,.cells (fnA 3 (inF (fun _:Nat=>(0:Int)))) 113),(sz,.cells (fnA 3 (inF (updI Q k (vNum l k:Nat)))) 113),(cb,curO 367 (.slice A l.length c) (vAt l (k+1)) 0),(r5,.cells (fnA 3 (inF (fun _:Nat=>(0:Int)))) 113)]:=hm;refine zu ?_;refine ⟨(k+1,updI Q k (vNum l k:Nat)),⟨rfl,rfl,rfl,rfl,rfl,rfl,rfl,rfl,rfl,trivial⟩,⟨by simp only;omega,fun j hj=>?_,hm⟩,by simp only;omega⟩
  ·simp only at hj ⊢
   by_cases e:j=k
   ·subst e;exact q1k _ _ _
   ·rw [q1l _ _ _ _ e];exact hQ j Oo
 obtain rfl:k=3:=by omega
 refine zcv (qis cb (.slice A l.length c) (vAt l 3) 0 w6 (hm.get Js)) ?_;rintro r w7 ⟨rfl,rfl⟩;(conv=>whnf);refine LoadA.mem hm (i:=1) rfl (by simp [qa1];rfl) (zw ?_);refine qm (fun x:Nat × (Nat→Int)=>[(0,.slice A l.length c),(1,.func (.func f) #[] #[]),(4,.pointer none),(5,pp r5),(6,.nilIface),(8,pp sz),(9,pp pl),(13,ii (q8 l x.1:Nat)),(53,.agg (fnA 3 (inF Q))),(54,ii x.1)])
  (fun x w'=>x.1≤3∧(∀ j,j<x.1→x.2 j=((q8 l j:Nat):Int))∧Mem w w' [(pl,.cells (fnA 3 (inF (x.2))) 113),(sz,.cells (fnA 3 (inF (Q))) 113),(cb,curO 367 (.slice A l.length c) (vAt l 3) 0),(r5,.cells (fnA 3 (inF (fun _:Nat=>(0:Int)))) 113)]) (fun x=>3-x.1) (0,fun _:Nat=>(0:Int))
  ⟨rfl,rfl,rfl,rfl,rfl,rfl,rfl,rfl,rfl,rfl,trivial⟩ ⟨by simp,fun j h=>by simp at h,hm⟩ ?_
 clear hm;rintro ⟨k,P⟩ w8 ρ2 ⟨k2,hP,hm⟩;dsimp only at k2 hP hm ⊢;have hs1:q8 l (k+1)=q8 l k+vNum l k:=rfl;have hsb:∀ j,j≤3→q8 l j≤l.length+201326592:=by
  have e0:q8 l 0=vAt l 3:=rfl;have e1:q8 l 1=q8 l 0+vNum l 0:=rfl;have e2:q8 l 2=q8 l 1+vNum l 1:=rfl;have e3:q8 l 3=q8 l 2+vNum l 2:=rfl;have h0:=hnb 0 Oo;have h1:=hnb 1 Oo;have h2:=hnb 2 Oo;have h3:=qph l 3;intro j hj
  rcases (show j=0∨j=1∨j=2∨j=3 by omega) with rfl|rfl|rfl|rfl<;>omega
 have hsk:=hsb k Oo;have hp3:3≤k→q8 l k=l.length:=fun h=>by rw [show k=3 by omega,hpl]
 (conv=>whnf);refine zC (fun _=>zu ?_) (fun _=>zu ?_)
 ·have hn:=hnb k Oo;refine ⟨ii (vNum l k:Nat),?_,?_⟩
  ·rw [show k*tsz Tryz.prog 3=k from by rw [show tsz Tryz.prog 3=1 from by kernel_rfl];omega];have:=qly 3 (inF Q) k Oo;rw [inF,hQ k Oo] at this;exact this
  (conv=>whnf);refine IdxV.at_ k Oo Oo (zw ?_);refine StoreV.fi (x:=((q8 l k:Nat):Int)) hm (i:=0) rfl k (by rw [show tsz Tryz.prog 3=1 from by kernel_rfl];omega) Oo ?_;intro w10 hm;have hm:Mem w w10 [(pl,.cells (fnA 3 (inF (updI P k (q8 l k:Nat)))) 113),(sz,.cells (fnA 3 (inF (Q))) 113),(cb,curO 367 (.slice A l.length c) (vAt l 3) 0),(r5,.cells (fnA 3 (inF (fun _:Nat=>(0:Int)))) 113)]:=hm;refine zu ?_;refine ⟨(k+1,updI P k (q8 l k:Nat)),⟨rfl,rfl,rfl,rfl,rfl,rfl,rfl,?_,rfl,rfl,trivial⟩,⟨by simp only;omega,fun j hj=>?_,hm⟩,by simp only;omega⟩
  ·show ii _=ii _
   congr 1
  ·simp only at hj ⊢
   by_cases e:j=k
   ·subst e;exact q1k _ _ _
   ·rw [q1l _ _ _ _ e];exact hP j Oo
 obtain rfl:k=3:=by omega
 refine znm hm ?_;intro vb w9 hm;have hm:Mem w w9 [(vb,.cells (fnA 7 (vF (fun _=>0) l (0))) 305),(pl,.cells (fnA 3 (inF (P))) 113),(sz,.cells (fnA 3 (inF (Q))) 113),(cb,curO 367 (.slice A l.length c) (vAt l 3) 0),(r5,.cells (fnA 3 (inF (fun _:Nat=>(0:Int)))) 113)]:=hm;(conv=>whnf);refine LoadA.mem hm (i:=2) rfl (by simp [qa1];rfl) (zw ?_);refine qm (fun x:Nat × (Nat→Nat)=>[(0,.slice A l.length c),(1,.func (.func f) #[] #[]),(4,.pointer none),(5,pp r5),(6,.nilIface),(9,pp pl),(16,pp vb),(84,.agg (fnA 3 (inF Q))),(85,ii x.1)])
  (fun x w'=>x.1≤3∧(∀ j,j<x.1→DictAt w' (x.2 j) (sDict l j))∧Mem w w' [(vb,.cells (fnA 7 (vF (x.2) l (x.1))) 305),(pl,.cells (fnA 3 (inF (P))) 113),(sz,.cells (fnA 3 (inF (Q))) 113),(cb,curO 367 (.slice A l.length c) (vAt l 3) 0),(r5,.cells (fnA 3 (inF (fun _:Nat=>(0:Int)))) 113)]) (fun x=>3-x.1) (0,fun _=>0)
  ⟨rfl,rfl,rfl,rfl,rfl,rfl,rfl,rfl,rfl,trivial⟩ ⟨by simp,fun j h=>by simp at h,hm⟩ ?_
 clear hm;rintro ⟨k,d⟩ w10 ρ3 ⟨k3,hD,hm⟩;dsimp only at k3 hD hm ⊢;(conv=>whnf);refine zC (fun _=>zu ?_) (fun _=>zu ?_)
 ·have hn:=hnb k Oo;have hPk:=hP k Oo;have hple:=qor hpl (k:=k) Oo;have hdl:=q0p hpl (k:=k) Oo;obtain ⟨y,ey⟩:∃ y,y=q8 l k:=⟨_,rfl⟩
  obtain ⟨z,ez⟩:∃ z,z=vNum l k:=⟨_,rfl⟩
  obtain ⟨B,eB⟩:∃ B,B=(if y+z=y then A else A.map (·.add (y*1))):=⟨_,rfl⟩
  have hB:SlAt encB 1 w B (sDict l k):=by
   rw [eB,sDict,← ey];have:=hS.cut (lo:=y) (hi:=y+z) (m:=y+z) Oo Oo Oo rfl
   rwa [show y+z-y=vNum l k by omega] at this
  have hfk:=fun w' h1 h2=>hf k Oo w' B z h1 h2 Oo
  rw [hdl] at hfk;refine ⟨ii (vNum l k:Nat),?_,?_⟩
  ·rw [show k*tsz Tryz.prog 3=k from by rw [show tsz Tryz.prog 3=1 from by kernel_rfl];omega];have:=qly 3 (inF Q) k Oo;rw [inF,hQ k Oo] at this;exact this
  rw [← ey] at hPk hple;rw [← ez] at hn hple hfk ⊢;(conv=>whnf);refine DrawV.free Jk Jk (zw ?_);(iterate 4 (refine zd ?_));refine zsd (ii (y:Nat)) (fun wd hd=>zw ?_) (zw ?_)
  ·refine LoadV.fim (x:=((y:Nat):Int)) (hm.drew.call hd) (b:=pl) (F:=P) (n:=3) (t:=113) Js k (by rw [show tsz Tryz.prog 3=1 from by kernel_rfl];omega) Oo hPk (zw ?_);exact ⟨xr,rfl⟩
  refine zd ?_;refine zd ?_;refine zsd (ii (y:Nat)) (fun wd hd=>zw ?_) (zw ?_)
  ·refine LoadV.fim (x:=((y:Nat):Int)) (hm.drew.call hd) (b:=pl) (F:=P) (n:=3) (t:=113) Js k (by rw [show tsz Tryz.prog 3=1 from by kernel_rfl];omega) Oo hPk (zw ?_);exact ⟨xr,rfl⟩
  (iterate 4 (refine zd ?_));refine zsd (ii (y:Nat)) (fun wd hd=>zw ?_) (zw ?_)
  ·refine LoadV.fim (x:=((y:Nat):Int)) (hm.drew.call hd) (b:=pl) (F:=P) (n:=3) (t:=113) Js k (by rw [show tsz Tryz.prog 3=1 from by kernel_rfl];omega) Oo hPk (zw ?_);exact ⟨xr,rfl⟩
  refine zd ?_;refine zd ?_;refine zsd (.slice B z z) (fun wd hd=>zw ?_) (zw ?_)
  ·refine SliceV.to y (y+z) (y+z) rfl (by show (_:Int)=_;omega) (by show (_:Int)=_;omega) Oo znr Oo (fun _=>rfl) ?_;rw [show tsz Tryz.prog 5=1 from by kernel_rfl,← eB,show y+z-y=z by omega];(conv=>whnf);exact ⟨xr,rfl⟩
  apply StepD.of (fun v wx=>∃ b,v=.tuple #[pp b,.nilIface]∧DictAt wx b (sDict l k)) (fun _ _ _ ⟨b,h1,h2⟩ he=>⟨b,h1,h2.ext he⟩)
  ·intro wd hd;(conv=>whnf);refine zcv (hfk wd (hm.drew.call hd).ext (hB.ext (hm.drew.call hd).ext)) ?_;rintro v w11 ⟨⟨b,rfl,hD⟩,he11⟩;exact ⟨he11,b,rfl,hD⟩
  (conv=>whnf);apply StepD.of (fun v wx=>∃ b,v=.tuple #[pp b,.nilIface]∧DictAt wx b (sDict l k)) (fun _ _ _ ⟨b,h1,h2⟩ he=>⟨b,h1,h2.ext he⟩)
  ·intro wd hd;(conv=>whnf);rintro v ⟨b,rfl,hD⟩;(conv=>whnf);exact ⟨xr,b,rfl,hD⟩
  (conv=>whnf);apply StepD.of (fun v wx=>∃ b,v=pp b∧DictAt wx b (sDict l k)) (fun _ _ _ ⟨b,h1,h2⟩ he=>⟨b,h1,h2.ext he⟩)
  ·intro wd hd;(conv=>whnf);rintro v ⟨b,rfl,hD⟩;(conv=>whnf);exact ⟨xr,b,rfl,hD⟩
  (conv=>whnf);apply zsd .nilIface
  ·intro wd hd;conv=>whnf
   repeat (rintro v ⟨b,rfl,hD⟩;(conv=>whnf))
   exact ⟨xr,rfl⟩
  (conv=>whnf);apply StepD.of (fun v wx=>∃ b,v=pp b∧DictAt wx b (sDict l k)) (fun _ _ _ ⟨b,h1,h2⟩ he=>⟨b,h1,h2.ext he⟩)
  ·intro wd hd;conv=>whnf
   repeat (rintro v ⟨b,rfl,hD⟩;(conv=>whnf))
   exact ⟨xr,_,rfl,by assumption⟩
  (conv=>whnf);apply zsd .nilIface
  ·intro wd hd;conv=>whnf
   repeat (rintro v ⟨b,rfl,hD⟩;(conv=>whnf))
   exact ⟨xr,rfl⟩
  (conv=>whnf);intro w11 he11;have hm:=hm.drew.call he11;have hD:=fun j hj=>(hD j hj).ext ((Ext.refl w10).drew.trans he11)
  clear he11;(conv=>whnf);rintro v ⟨b,rfl,hDb⟩;conv=>whnf
  repeat (rintro v ⟨_,rfl,_⟩;(conv=>whnf))
  refine ⟨fun pb w12 hpb hw12=>?_⟩;have he12:Ext w11 w12:=by rw [hw12];exact xr.alloc _
  have hm:=hm.new hpb hw12;have hD:=fun j hj=>(hD j hj).ext he12
  have hDb:=hDb.ext he12;clear he12 hw12 hpb;(conv=>whnf);refine zcv (qnd _ w12) ?_;rintro r w13 ⟨rfl,rfl⟩;refine zu ?_;refine DrawV.inv (fun S w'=>Mem w w' [(pb,.cells #[.pointer none] 123),(vb,.cells (bif S 12 then fnA 7 (updF (updF (vF d l k) (2*k) (pp b)) (2*k+1) (ii (vTot l k+1:Nat))) else fnA 7 (vF d l k)) 305),(pl,.cells (fnA 3 (inF (P))) 113),(sz,.cells (fnA 3 (inF (Q))) 113),(cb,curO 367 (.slice A l.length c) (vAt l 3) 0),(r5,.cells (fnA 3 (inF (fun _:Nat=>(0:Int)))) 113)]∧(∀ j,j<k→DictAt w' (d j) (sDict l j))∧DictAt w' b (sDict l k)) rfl Jk ⟨hm.drew,fun j hj=>(hD j hj).ext xr.drew,hDb.ext xr.drew⟩ ?_;have hdk:=hDb.n;have hvt:vTot l k≤8388608:=by
   rcases (show k=0∨k=1∨k=2 by omega) with rfl|rfl|rfl
   ·exact Nat.zero_le _
   ·have h0:=(hD 0 Oo).n;simp only [vTot];omega
   ·have h0:=(hD 0 Oo).n;have h1:=(hD 1 Oo).n;simp only [vTot];omega
  clear hm hD hDb;(conv=>whnf);(iterate 6 (refine zi ?_));refine StepI.of (ii (vTot l k:Nat)) (fun S wd hk hp hI=>zw ?_) (zw ?_)
  ·dsimp only at hI;cases h12:S 12
   ·rw [h12] at hI;refine LoadV.fn (v:=ii (vTot l k:Nat)) hI.1 (i:=1) rfl 6 rfl Oo rfl (zw ?_);exact ⟨rfl,by show Mem _ _ [_,(vb,.cells (bif S 12 then _ else _) _ _),_,_,_,_]∧_;rw [h12];exact hI⟩
   ·rw [h12] at hI;refine LoadV.fn (v:=ii (vTot l k:Nat)) hI.1 (i:=1) rfl 6 rfl Oo (by rw [q6 _ _ _ _ Oo,q6 _ _ _ _ Oo];rfl) (zw ?_);exact ⟨rfl,by show Mem _ _ [_,(vb,.cells (bif S 12 then _ else _) _ _),_,_,_,_]∧_;rw [h12];exact hI⟩
  (iterate 5 (refine zi ?_));refine StepI.of undef (fun S wd hk hp hI=>?_) (zw ?_)
  ·dsimp only at hI;rw [hk] at hI;(conv=>whnf);have hx:=hI.1.get (zmc mh);refine StoreA.row hI.1 (i:=1) rfl (by rw [show tsz Tryz.prog 302=2 from by kernel_rfl];simp [qa1];omega) (by simp [Value.oneCell']) ?_;intro wx hfr _ hmx;have hmx:Mem w wx [(pb,.cells #[.pointer none] 123),(vb,.cells (fnA 7 (updF (updF (vF d l k) (2*k) (pp b)) (2*k+1) (ii (vTot l k+1:Nat)))) 305),(pl,.cells (fnA 3 (inF (P))) 113),(sz,.cells (fnA 3 (inF (Q))) 113),(cb,curO 367 (.slice A l.length c) (vAt l 3) 0),(r5,.cells (fnA 3 (inF (fun _:Nat=>(0:Int)))) 113)]:=by
    have e:=q26 7 (vF d l k) (2*k) (pp b) (ii (vTot l k+1:Nat)) Oo;rw [← e];have e2:0+0+k*tsz Tryz.prog 302=2*k:=by rw [show tsz Tryz.prog 302=2 from by kernel_rfl];omega
    rw [← e2];exact hmx
   (conv=>whnf);refine ⟨rfl,hmx,fun j hj=>(hI.2.1 j hj).other hx Od ?_ hfr,hI.2.2.other hx Od ?_ hfr⟩
   all_goals
    intro v hv c;obtain ⟨m,hm',rfl⟩:=List.mem_map.1 (show v∈(List.range 7).map (vF d l k) from hv);exact q6z d l k m c
  intro w14 hI;obtain ⟨hm,hD,hDb⟩:=hI;have hm:Mem w w14 [(pb,.cells #[.pointer none] 123),(vb,.cells (fnA 7 (updF (updF (vF d l k) (2*k) (pp b)) (2*k+1) (ii (vTot l k+1:Nat)))) 305),(pl,.cells (fnA 3 (inF (P))) 113),(sz,.cells (fnA 3 (inF (Q))) 113),(cb,curO 367 (.slice A l.length c) (vAt l 3) 0),(r5,.cells (fnA 3 (inF (fun _:Nat=>(0:Int)))) 113)]:=hm;(conv=>whnf);refine DrawV.inv (fun S w'=>((S 6=true→S 3=true)∧(S 9=true→S 3=true))∧Mem w w' [(pb,.cells #[.pointer none] 123),(vb,.cells (bif S 9 then fnA 7 (updF (updF (updF (vF d l k) (2*k) (pp b)) (2*k+1) (ii (vTot l k+1:Nat))) 6 (ii (vTot l (k+1):Nat))) else fnA 7 (updF (updF (vF d l k) (2*k) (pp b)) (2*k+1) (ii (vTot l k+1:Nat)))) 305),(pl,.cells (fnA 3 (inF (P))) 113),(sz,.cells (fnA 3 (inF (Q))) 113),(cb,curO 367 (.slice A l.length c) (vAt l 3) 0),(r5,.cells (fnA 3 (inF (fun _:Nat=>(0:Int)))) 113)]∧(∀ j,j<k→DictAt w' (d j) (sDict l j))∧DictAt w' b (sDict l k)) rfl Jk ⟨⟨fun h=>(by cases h),fun h=>(by cases h)⟩,hm.drew,fun j hj=>(hD j hj).ext xr.drew,hDb.ext xr.drew⟩ ?_;clear hm hD hDb;have hvs:vTot l (k+1)=vTot l k+dN (sDict l k):=rfl;(conv=>whnf);(iterate 3 (refine zi ?_));refine StepI.of (ii (vTot l k:Nat)) (fun S wd hk hp hI=>zw ?_) (zw ?_)
  ·have h9:S 9=false:=by
    cases h:S 9
    ·rfl
    ·have:=hI.1.2 h;rw [hk] at this;cases this
   have hI2:=hI.2.1;rw [h9] at hI2;refine LoadV.fn (v:=ii (vTot l k:Nat)) hI2 (i:=1) rfl 6 rfl Oo (by rw [q6 _ _ _ _ Oo,q6 _ _ _ _ Oo];rfl) (zw ?_);exact ⟨rfl,⟨fun _=>rfl,fun _=>rfl⟩,hI.2⟩
  refine zi ?_;refine StepI.of (ii (dN (sDict l k):Nat)) (fun S wd hk hp hI=>zw ?_) (zw ?_)
  ·refine zcv (qls b (sDict l k) wd hI.2.2.2) ?_;rintro r w15 ⟨rfl,rfl⟩;exact ⟨rfl,hI⟩
  refine StepI.of (ii (vTot l (k+1):Nat)) (fun S wd hk hp hI=>zw ?_) (zw ?_)
  ·refine Obl.mk ⟨by omega,by omega⟩ (zw ?_);exact ⟨rfl,⟨fun _=>hp 3 Od,hI.1.2⟩,hI.2⟩
  refine zi ?_;refine zi ?_;refine StepI.of undef (fun S wd hk hp hI=>?_) (zw ?_)
  ·have h6:=hp 6 Od;obtain ⟨hI1,hI2,hI3,hI4⟩:=hI;rw [hk] at hI2;(conv=>whnf);have hx:=hI2.get (zmc mh);refine StoreV.row hI2 (i:=1) rfl (by simp [qa1]) rfl ?_;intro wx hfr _ hmx;have hmx:Mem w wx [(pb,.cells #[.pointer none] 123),(vb,.cells (fnA 7 (updF (updF (updF (vF d l k) (2*k) (pp b)) (2*k+1) (ii (vTot l k+1:Nat))) 6 (ii (vTot l (k+1):Nat)))) 305),(pl,.cells (fnA 3 (inF (P))) 113),(sz,.cells (fnA 3 (inF (Q))) 113),(cb,curO 367 (.slice A l.length c) (vAt l 3) 0),(r5,.cells (fnA 3 (inF (fun _:Nat=>(0:Int)))) 113)]:=by
    rw [← qdl];exact hmx
   (conv=>whnf);refine ⟨rfl,⟨hI1.1,fun _=>hI1.1 h6⟩,hmx,fun j hj=>(hI3 j hj).other hx Od ?_ hfr,hI4.other hx Od ?_ hfr⟩
   all_goals
    intro v hv c;obtain ⟨m,hm',rfl⟩:=List.mem_map.1 (show v∈(List.range 7).map (updF (updF (vF d l k) (2*k) (pp b)) (2*k+1) (ii (vTot l k+1:Nat))) from hv);unfold updF
    split
    ·intro e;cases e
    split
    ·intro e;cases e
    exact q6z d l k m c
  intro w15 hI;obtain ⟨_,hm,hD,hDb⟩:=hI;have hm:Mem w w15 [(pb,.cells #[.pointer none] 123),(vb,.cells (fnA 7 (updF (updF (updF (vF d l k) (2*k) (pp b)) (2*k+1) (ii (vTot l k+1:Nat))) 6 (ii (vTot l (k+1):Nat)))) 305),(pl,.cells (fnA 3 (inF (P))) 113),(sz,.cells (fnA 3 (inF (Q))) 113),(cb,curO 367 (.slice A l.length c) (vAt l 3) 0),(r5,.cells (fnA 3 (inF (fun _:Nat=>(0:Int)))) 113)]:=hm;rw [qaau d l k b Oo] at hm;have hm:=hm.sub (List.sublist_cons_self ..);refine zu ?_;refine ⟨(k+1,fun j=>if j=k then b else d j),⟨rfl,rfl,rfl,rfl,rfl,rfl,rfl,rfl,rfl,trivial⟩,⟨by simp only;omega,fun j hj=>?_,hm⟩,by simp only;omega⟩;simp only at hj ⊢
  by_cases e:j=k
  ·subst e;rw [if_pos rfl];exact hDb
  ·rw [if_neg e];exact hD j Oo
 obtain rfl:k=3:=by omega
 refine DrawV.inv (fun S w'=>Mem w w' [(vb,.cells (fnA 7 (vF (d) l (3))) 305),(pl,.cells (fnA 3 (inF (P))) 113),(sz,.cells (fnA 3 (inF (Q))) 113),(cb,curO 367 (.slice A l.length c) (vAt l 3) 0),(r5,.cells (bif S 3 then fnA 3 (inF P) else fnA 3 (inF fun _:Nat=>(0:Int))) 113)]∧∀ j,j<3→DictAt w' (d j) (sDict l j)) rfl Jk ⟨hm.drew,fun j hj=>(hD j hj).ext xr.drew⟩ ?_;clear hm hD;(conv=>whnf);refine zi ?_;refine StepI.of (.agg (fnA 3 (inF P))) (fun S wd hk hp hI=>zw ?_) (zw ?_)
 ·refine LoadA.mem hI.1 (i:=1) rfl (by simp [qa1];rfl) (zw ?_);exact ⟨rfl,hI⟩
 refine zi ?_;refine StepI.of undef (fun S wd hk hp hI=>?_) (zw ?_)
 ·dsimp only at hI;rw [hk] at hI;(conv=>whnf);have hx:wd.heap[r5]?=some (.cells (fnA 3 (inF fun _:Nat=>(0:Int))) 113):=hI.1.get Js;refine StoreA.row hI.1 (i:=4) rfl (by simp [qa1]) (qx4 3 P) fun wx hfr _ hmx=>zw ?_;refine ⟨rfl,hmx,fun j hj=>(hI.2 j hj).other hx Od ?_ hfr⟩;intro v hv c;obtain ⟨m,hm',rfl⟩:=List.mem_map.1 (show v∈(List.range 3).map (inF fun _:Nat=>(0:Int)) from hv);intro e;cases e
 refine zi ?_;intro w12 hI;obtain ⟨hm,hD⟩:=hI;have hm:Mem w w12 [(vb,.cells (fnA 7 (vF (d) l (3))) 305),(pl,.cells (fnA 3 (inF (P))) 113),(sz,.cells (fnA 3 (inF (Q))) 113),(cb,curO 367 (.slice A l.length c) (vAt l 3) 0),(r5,.cells (fnA 3 (inF (P))) 113)]:=hm;(conv=>whnf);refine qj (R:=fun v w'=>(∃ b G,v=.tuple #[pp b,.agg (fnA 3 (inF G)),.nilIface]∧(∀ k,k<3→G k=((q8 l k:Nat):Int))∧VocAt w' b l)∧Ext w w') (zw ?_);refine LoadA.mem hm (i:=4) rfl (by simp [qa1];rfl) (zw ?_);exact ⟨⟨vb,P,rfl,fun k hk=>hP k hk,d,hm.get mh,hD⟩,hm.ext⟩
theorem q4l (l:LB) (k:Nat):(sDict l k).length≤l.length:=by
 grind [sDict]
theorem wE_d {l:LB} (h:(wE l).2=0):(sE l).2=0∧∀ k,k<3→(dE (sDict l k)).2=0:=by
 have h1:(sE l).2=0:=by grind [wE]
 have h2:(errF (sdF l) 3).2=0:=by grind [wE]
 exact ⟨h1,fun k hk=>by have:=qb8 h2 k hk;grind [sdF]⟩
theorem qlb (l:LB) (A:oA) (c:Nat) (w:World) (hS:SlAt encB 1 w A l) (hc:l.length≤c) (hl:l.length≤70368744177664) (hE:(wE l).2=0) :
  Gv Tryz.prog 95 [.slice A l.length c] w fun v w'=>(∃ b,v=.tuple #[pp b,.nilIface]∧VocAt w' b l)∧Ext w w':=by
 obtain ⟨h0,hd⟩:=wE_d hE;have hfd:=q27 l A c w hS hc hl h0 164 fun k hk w' B c' hx hB hc'=>(q2z (sDict l k) B c' w' hB hc' (by have:=q4l l k;omega) (hd k hk)).mono fun v w'' ⟨⟨b,h1,_,h2⟩,he⟩=>⟨⟨b,h1,h2⟩,he⟩
 refine ze Tryz.func95 Tryz.ntmps95 ?_;refine zcv (hfd) ?_;rintro v w1 ⟨⟨b,G,rfl,hG2,hV⟩,he⟩;(conv=>whnf);refine znm (Mem.nil w1) fun t5 w2 hm=>zw ?_;refine StoreA.all hm (i:=0) rfl (by rfl) (qx4 3 G) fun w3 hm=>zu ?_;exact ⟨⟨b,rfl,VocAt.ext hV hm.ext⟩,he.trans hm.ext⟩
theorem VocAt.cell {w:World} {b:Nat} {l:LB} (h:VocAt w b l):∃ d:Nat→Nat,(∀ k,k<3→w.cell? ⟨b,2*k,none⟩=some (.pointer (some ⟨d k,0,none⟩))∧w.cell? ⟨b,2*k+1,none⟩=some (ii (vTot l k+1:Nat))∧DictAt w (d k) (sDict l k))∧
  w.cell? ⟨b,6,none⟩=some (ii (vTot l 3:Nat)):=by
 obtain ⟨d,h1,h2⟩:=h;refine ⟨d,fun k hk=>⟨?_,?_,h2 k hk⟩,?_⟩
 ·rw [qa h1,qa7 7 _ _ Oo,vF,if_neg Oo,if_pos Oo,if_pos Oo,show 2*k/2=k by omega]
 ·rw [qa h1,qa7 7 _ _ Oo,vF,if_neg Oo,if_pos Oo,if_neg Oo,show (2*k+1)/2=k by omega]
 ·rw [qa h1,qa7 7 _ _ Oo,vF,if_pos rfl]
theorem VocAt.tot {w:World} {b:Nat} {l:LB} (h:VocAt w b l) {k:Nat} (hk:k≤3):vTot l k≤12582912:=by
 obtain ⟨d,_,h2⟩:=h;have h0:=(h2 0 Oo).n;have h1:=(h2 1 Oo).n;have h3:=(h2 2 Oo).n
 rcases (show k=0∨k=1∨k=2∨k=3 by omega) with rfl|rfl|rfl|rfl<;>simp only [vTot]<;>omega
theorem q1v (b:Nat) (l:LB) (id:Nat) (w:World) (h:VocAt w b l) (hid:id≤16777216) :
  Gv Tryz.prog 302 [pp b,ii id] w fun r w'=>r=ii (if id=0∨vTot l 3<id then -1 else (qdy l id:Int))∧Ext w w':=by
 obtain ⟨d,hd,hn⟩:=h.cell;have ht:=fun k (hk:k≤3)=>h.tot hk
 refine ze Tryz.func302 Tryz.ntmps302 ?_;refine zC (fun _=>zu ?_) (fun _=>zu ?_)
 ·grind [Ext.refl]
 refine LoadV.of hn (zw ?_);refine zt ?_;refine zC (fun _=>zw ?_) (fun _=>zw ?_)
 ·grind [Ext.refl]
 rw [if_neg Oo];refine qm (fun i:Nat=>[(0,pp b),(1,ii id),(5,ii i)])
  (fun i w'=>i≤2∧(∀ j,i<j→j≤2→id≤vTot l j)∧w'=w) (fun i=>i) 2 ⟨rfl,rfl,rfl,trivial⟩ (by grind) ?_
 rintro i w1 ρ' ⟨i1,hj,rfl⟩;obtain ⟨_,hf,_⟩:=hd i Oo;have hti:=ht i Oo;refine zu ?_;refine LoadV.of (v:=ii (vTot l i+1:Nat)) ?_ ?_
 ·rw [← hf]
  congr 2
  rw [show tsz Tryz.prog 302=2 from by kernel_rfl]
  grind
 (conv=>whnf);refine zC (fun _=>zu ?_) (fun _=>zu ?_)
 ·have hi0:i≠0:=by
   grind [vTot]
  refine ⟨i-1,⟨rfl,rfl,?_,trivial⟩,⟨by omega,fun j h1 h2=>?_,rfl⟩,by omega⟩
  ·show ii _=ii _
   grind
  grind
 ·refine ⟨congrArg (Value.int .i64) ?_,xr⟩
  grind [qdy]
def qip (w:World):Prop:=CellsAt w 2 0 [ii 1,ii 2,ii 3]
noncomputable def qdv (l:LB) (id:Nat):Option TM:=
 if id=0 then some ⟨0,⟨#[]⟩,⟨#[]⟩,⟨#[]⟩⟩ else if vTot l 3<id then none else
  match dGet (sDict l (qdy l id)) (id-(vTot l (qdy l id)+1)) with
  | some s=>qf6 ((qdy l id+1:Nat):Int) s
  | none=>none
def qwf:Value:=.agg #[ii 0,.string ⟨#[]⟩,.string ⟨#[]⟩,.string ⟨#[]⟩]
noncomputable def qk9 (l:LB) (id:Nat):Value:=
 match qdv l id with
 | some t=>.tuple #[qt t,.bool true]
 | none=>.tuple #[qwf,.bool false]
theorem q5d {l:LB} {id:Nat} (h0:id≠0) (h:id≤vTot l 3):qdy l id<3∧vTot l (qdy l id)<id∧id≤vTot l (qdy l id+1):=by
 grind [vTot,qdy]
theorem q1y (b:Nat) (l:LB) (id:Nat) (w:World) (h:VocAt w b l) (hid:id≤16777216) (hM:MaxLenAt w) (hT:CellsAt w 4 0 qa6) (hK:qip w) :
  Gv Tryz.prog 225 [pp b,ii id] w fun r w'=>r=qk9 l id∧Ext w w':=by
 refine ze Tryz.func225 Tryz.ntmps225 ?_;refine znm (Mem.nil w) fun r4 w1 hm=>zw ?_;refine zcv (q1v b l id w1 (h.ext hm.ext) hid) ?_;rintro r w2 ⟨rfl,he2⟩;have hm:=hm.call he2;conv=>whnf
 by_cases h0:id=0∨vTot l 3<id
 ·rw [if_pos h0];refine zv ?_;refine zS hm 0 fun w3 hm=>zw ?_;refine qj (R:=fun v w'=>v=qk9 l id∧Ext w w') (zw ?_);refine zl hm 0 ?_;refine ⟨?_,hm.ext⟩;rw [qk9,qdv]
  by_cases hi:id=0
  ·rw [if_pos hi];subst hi;rfl
  ·rw [if_neg hi,if_pos Oo];show Value.tuple #[_,.bool (decide ((id:Int)=0))]=_;rw [decide_eq_false Oo];rfl
 ·rw [if_neg h0];obtain ⟨hp3,hp1,hp2⟩:=q5d (l:=l) (id:=id) Oo Oo;have hvt:qk9 l id=match dGet (sDict l (qdy l id)) (id-(vTot l (qdy l id)+1)) with
   | some s=>(match qf6 ((qdy l id+1:Nat):Int) s with|some t=>.tuple #[qt t,.bool true]|none=>.tuple #[qwf,.bool false])
   | none=>.tuple #[qwf,.bool false]:=by
   grind [qk9,qdv]
  rw [hvt];obtain ⟨k,ek⟩:∃ k,k=qdy l id:=⟨_,rfl⟩
  rw [← ek] at hp3 hp1 hp2 ⊢;obtain ⟨d,hd,hn⟩:=(h.ext hm.ext).cell;obtain ⟨hd1,hd2,hdD⟩:=hd k hp3;have htk:=(h.tot (k:=k) Oo)
  obtain ⟨i,ei⟩:∃ i,i=id-(vTot l k+1):=⟨_,rfl⟩
  rw [← ei];refine zv ?_;have hG:∃ s ok,qgs (sDict l k) i=.tuple #[.string s,.bool ok]∧s.size≤262144∧((ok=true∧dGet (sDict l k) i=some s.data.toList)∨(ok=false∧dGet (sDict l k) i=none)):=by
   unfold qgs;cases hg:dGet (sDict l k) i with
   | none=>exact ⟨_,_,rfl,by decide,Js⟩
   | some s=>exact ⟨⟨s.toArray⟩,_,rfl,qsi hg,Js⟩
  obtain ⟨s,ok,hgv,hss,hcase⟩:=hG;refine DrawV.free Jk Jk (zw ?_);(iterate 6 (refine zd ?_));apply zsd (.pointer (some ⟨d k,0,none⟩))
  ·intro wd hd';(conv=>whnf);refine LoadV.of (v:=.pointer (some ⟨d k,0,none⟩)) ?_ ?_
   ·have:=((Ext.refl w2).drew.trans hd').cell hd1;rw [← this]
    congr 2
    rw [show tsz Tryz.prog 302=2 from by kernel_rfl]
    grind
   (conv=>whnf);exact ⟨xr,rfl⟩
  (conv=>whnf);(iterate 7 (refine zd ?_));apply zsd (ii (vTot l k+1:Nat))
  ·intro wd hd';(conv=>whnf);refine LoadV.of (v:=ii (vTot l k+1:Nat)) ?_ ?_
   ·have:=((Ext.refl w2).drew.trans hd').cell hd2;rw [← this]
    congr 2
    rw [show tsz Tryz.prog 302=2 from by kernel_rfl]
    grind
   (conv=>whnf);exact ⟨xr,rfl⟩
  (conv=>whnf);apply zsd (ii (i:Nat))
  ·intro wd hd';(conv=>whnf);refine Obl.mk ⟨by omega,by omega⟩ (zw ?_)
   grind [Ext.refl]
  (conv=>whnf);apply zsd (.tuple #[.string s,.bool ok])
  ·intro wd hd';(conv=>whnf);refine zcv (qsj (d k) (sDict l k) i wd (hdD.ext ((Ext.refl w2).drew.trans hd')) Oo) ?_
   simp_all
  (conv=>whnf);(iterate 5 (refine zd ?_));intro w3 he3;have hm:=hm.drew.call he3;clear he3;refine zu ?_;have hkk:((k+1:Nat):Int)=1∨((k+1:Nat):Int)=2∨((k+1:Nat):Int)=3:=by omega
  refine LoadV.of (v:=ii (k+1:Nat)) ?_ ?_
  ·have hKx:=fun j v (hv:([ii 1,ii 2,ii 3]:List Value)[j]?=some v)=>(CellsAt.ext hK hm.ext) j v hv
   rw [show tsz Tryz.prog 3=1 from by kernel_rfl]
   grind
  (conv=>whnf);obtain ⟨t,e,hrv,hrc⟩:∃ t e,qe7 ((k+1:Nat):Int) s.data.toList=.tuple #[qt t,ii (e:Nat)]∧((e=0∧qf6 ((k+1:Nat):Int) s.data.toList=some t)∨(e≠0∧qf6 ((k+1:Nat):Int) s.data.toList=none)):=by
   unfold qe7;cases hg:qf6 ((k+1:Nat):Int) s.data.toList with
   | none=>exact ⟨⟨0,⟨#[]⟩,⟨#[]⟩,⟨#[]⟩⟩,170,rfl,Js⟩
   | some t=>grind
  refine zcv (q1x ((k+1:Nat):Int) hkk s hss w3 (hM.ext hm.ext) (hT.ext hm.ext)) ?_;rintro r w4 ⟨rfl,he4⟩;have hm:=hm.call he4;rw [hrv];(conv=>whnf);refine znm hm fun t9 w5 hm=>zw ?_;refine zS hm 0 fun w6 hm=>zw ?_
  rcases hcase with ⟨rfl,hg⟩|⟨rfl,hg⟩
  ·rw [hg];dsimp only
   rcases hrc with ⟨rfl,hr⟩|⟨he,hr⟩
   ·rw [hr];refine zv ?_;refine zl hm 0 ?_;refine zS hm 1 fun w7 hm=>zw ?_;refine qj (R:=fun v w'=>v=.tuple #[qt t,.bool true]∧Ext w w') (zw ?_);refine zl hm 1 ?_;exact ⟨rfl,hm.ext⟩
   ·rw [hr];refine zv ?_;refine zS hm 1 fun w7 hm=>zw ?_;refine qj (R:=fun v w'=>v=.tuple #[qwf,.bool false]∧Ext w w') (zw ?_);refine zl hm 1 ?_;exact ⟨rfl,hm.ext⟩
  ·rw [hg];dsimp only;refine zv ?_;refine zS hm 1 fun w7 hm=>zw ?_;refine qj (R:=fun v w'=>v=.tuple #[qwf,.bool false]∧Ext w w') (zw ?_);refine zl hm 1 ?_;exact ⟨rfl,hm.ext⟩
def zTM:TM:=⟨0,⟨#[]⟩,⟨#[]⟩,⟨#[]⟩⟩
noncomputable def uT (l:LB) (q:Nat→Nat) (j:Nat):TM:=(qdv l (q j)).getD zTM
noncomputable def q4Of (l:LB) (q:Nat→Nat):Q4:=⟨uT l q 1,uT l q 2,uT l q 3,uT l q 0⟩
def zQ:Q4:=⟨zTM,zTM,zTM,zTM⟩
def idsV (q:Nat→Nat):Value:=.agg #[ii (q 0:Nat),ii (q 1:Nat),ii (q 2:Nat),ii (q 3:Nat)]
open Classical in
noncomputable def qh1 (l:LB) (q:Nat→Nat):Value:=
 if ∀ j,j<4→qdv l (q j)≠none then .tuple #[qq (q4Of l q),.bool true] else .tuple #[qq zQ,.bool false]
noncomputable def aT (l:LB) (q:Nat→Nat) (k j:Nat):TM:=if j<k then uT l q j else zTM
noncomputable def arrT (l:LB) (q:Nat→Nat) (k:Nat):Q4:=⟨aT l q k 0,aT l q k 1,aT l q k 2,aT l q k 3⟩
theorem q17 (l:LB) (q:Nat→Nat) (k:Nat) (hk:k<4):((qd (arrT l q k)).take (k*4)++encT (uT l q k)++(qd (arrT l q k)).drop (k*4+4))=qd (arrT l q (k+1)):=by
 rcases (show k=0∨k=1∨k=2∨k=3 by omega) with rfl|rfl|rfl|rfl<;>rfl
theorem q1w (b:Nat) (l:LB) (q:Nat→Nat) (w:World) (h:VocAt w b l) (hq:∀ j,j<4→q j≤16777216) (hM:MaxLenAt w) (hT:CellsAt w 4 0 qa6) (hK:qip w) :
  Gv Tryz.prog 145 [pp b,idsV q] w fun r w'=>r=qh1 l q∧Ext w w':=by
 unfold idsV;refine ze Tryz.func145 Tryz.ntmps145 ?_;refine znm (Mem.nil w) ?_;intro t3 w1 hm;refine znm hm ?_;intro r4 w2 hm;refine znm hm ?_;intro t6 w3 hm;refine zl hm 2 ?_;obtain ⟨TB,eTB⟩:∃ TB,TB=(t3,Obj.cells #[ii (q 0:Nat),ii (q 1:Nat),ii (q 2:Nat),ii (q 3:Nat)] 95):=⟨_,rfl⟩
 have hm:Mem w w3 [(t6,.cells (qd (arrT l q 0)).toArray 166),(r4,.cells (qd zQ).toArray 47),TB]:=by rw [eTB];exact hm
 clear eTB;refine qm (fun k:Nat=>[(0,pp b),(4,pp r4),(5,.bool false),(6,pp t6),(11,.agg #[ii (q 0:Nat),ii (q 1:Nat),ii (q 2:Nat),ii (q 3:Nat)]),(12,ii k)])
  (fun k w'=>k≤4∧(∀ j,j<k→qdv l (q j)≠none)∧Mem w w' [(t6,.cells (qd (arrT l q k)).toArray 166),(r4,.cells (qd zQ).toArray 47),TB]) (fun k=>4-k) 0
  ⟨rfl,rfl,rfl,rfl,rfl,rfl,trivial⟩ ⟨by omega,fun j h=>by omega,hm⟩ ?_
 clear hm;rintro k w4 ρ' ⟨k1,hj,hm⟩;conv=>whnf
 (repeat' (first|refine zp ?_|refine zC (fun _=>zw ?_) (fun _=>zw ?_)|(refine zJ 0 ?_;(conv=>whnf))))
 ·have hqk:=hq k Oo;refine ⟨ii (q k:Nat),?_,?_⟩
  ·rw [show k*tsz Tryz.prog 3=k from by rw [show tsz Tryz.prog 3=1 from by kernel_rfl];omega]
   rcases (show k=0∨k=1∨k=2∨k=3 by omega) with rfl|rfl|rfl|rfl<;>rfl
  (conv=>whnf);refine zcv (q1y b l (q k) w4 (h.ext hm.ext) hqk (hM.ext hm.ext) (hT.ext hm.ext) (CellsAt.ext hK hm.ext)) ?_;rintro r w5 ⟨rfl,he5⟩;have hm:=hm.call he5;unfold qk9;cases hv:qdv l (q k) with
  | none=>
   dsimp only;have hV:qh1 l q=.tuple #[qq zQ,.bool false]:=by rw [qh1,if_neg (fun h=>h k Oo hv)]
   rw [hV];unfold qwf;refine znm hm ?_;intro t9 w6 hm;refine zS hm 0 fun w7 hm=>zu ?_;refine zS hm 2 ?_;intro w8 hm;refine qj (R:=fun v w'=>v=.tuple #[qq zQ,.bool false]∧Ext w w') ?_;refine zl hm 2 ?_;exact ⟨rfl,hm.ext⟩
  | some t=>
   dsimp only;have hut:uT l q k=t:=by rw [uT,hv];rfl
   refine znm hm ?_;intro t9 w6 hm;refine zS hm 0 fun w7 hm=>zu ?_;refine zl hm 0 ?_;refine zv ?_;refine StoreA.mem hm (i:=1) rfl ?_ (by simp [Value.oneCell']) ?_
   ·rw [show tsz Tryz.prog 45=4 from by kernel_rfl];show 0+k*4+4≤16;omega
   intro w8 hm;refine zu ?_;refine ⟨k+1,⟨rfl,rfl,rfl,rfl,rfl,rfl,trivial⟩,⟨by omega,fun j hj'=>?_,?_⟩,by omega⟩
   ·by_cases e:j=k
    ·subst e;rw [hv];simp
    ·exact hj j Oo
   ·have hm:=hm.sub (List.sublist_cons_self ..);have e:=q17 l q k Oo;rw [hut] at e;rw [← e];rw [show tsz Tryz.prog 45=4 from by kernel_rfl,Nat.zero_add] at hm;exact hm
 obtain rfl:k=4:=by omega
 have hV:qh1 l q=.tuple #[qq (q4Of l q),.bool true]:=by rw [qh1,if_pos hj]
 rw [hV];have hc:CellsAt w4 t6 0 (qd (arrT l q 4)):=CellsAt.mem hm mh;refine LoadA.cells (qv hc 0 Oo) rfl (zw ?_);refine zJ 1 ?_;(conv=>whnf);refine LoadA.cells (qv hc 1 Oo) rfl (zw ?_);refine zJ 2 ?_;(conv=>whnf);refine LoadA.cells (qv hc 2 Oo) rfl (zw ?_);refine zJ 3 ?_;(conv=>whnf);refine LoadA.cells (qv hc 3 Oo) rfl ?_;refine zS hm 1 ?_;intro w8 hm;refine qj (R:=fun v w'=>v=.tuple #[qq (q4Of l q),.bool true]∧Ext w w') ?_;refine zl hm 1 ?_;exact ⟨rfl,hm.ext⟩
theorem VocAt.other {w w':World} {b x:Nat} {l:LB} {cs:Array Value} {t:TypeId} {fz:Nat × Nat} (h:VocAt w b l) (hx:w.heap[x]?=some (.cells cs t fz)) (ht:t≠395) (ht2:t≠305) (hc:∀ v∈cs.toList,∀ c:Nat,v≠.int .u8 c)
  (hw:∀ c,c≠x→w'.heap[c]?=w.heap[c]?):VocAt w' b l:=by
 obtain ⟨d,h1,h2⟩:=h;have hbx:b≠x:=by
  intro e;subst e;rw [hx] at h1
  injection h1 with h1
  injection h1 with _ h1 _
  exact ht2 h1
 exact ⟨d,by rw [hw b hbx];exact h1,fun k hk=>(h2 k hk).other hx ht hc hw⟩
theorem TreeAt.other {w w':World} {b x:Nat} {l:LB} {fz:Nat × Nat} {v:Value} (h:TreeAt w b l) (hx:w.heap[x]?=some (.cells #[v] 38 fz)) (hv:∀ (k:IntKind) (c:Int),v≠.int k c)
  (hw:∀ c,c≠x→w'.heap[c]?=w.heap[c]?):TreeAt w' b l:=by
 have hne:∀ (z:LB),∀ y∈z,∀ u∈(#[v]:Array Value).toList,(encB y)[0]?≠some u:=fun z y _ u hu e=>by
  simp only [List.mem_cons,List.not_mem_nil,or_false] at hu;subst hu;cases e;exact hv _ _ rfl
 refine ⟨fun k hk=>?_,h.n,h.wd⟩;obtain ⟨P,cp,S,cs,V,h1,h2,h3,h4,h5⟩:=h.lv k hk;refine ⟨P,cp,S,cs,V,h1.other ?_ hw,h2.other hx (hne _) (fun _ _ e=>by cases e) hw,h3.other hx (hne _) (fun _ _ e=>by cases e) hw,h4,?_⟩
 ·intro e;have h6:=h1 0 _ rfl;rw [e,qa hx] at h6;have h7:(#[v]:Array Value)[8*k+0]?=some (ii (vNum l k)):=h6
  rcases Nat.eq_zero_or_pos k with rfl|hk0
  ·exact hv _ _ (Option.some.inj h7)
  ·rw [Array.getElem?_eq_none Ys] at h7;cases h7
 ·rcases h5 with h5|⟨h5,h6,vb,h7,h8⟩
  ·exact .inl h5
  ·refine .inr ⟨h5,h6,vb,h7,?_⟩;rw [hw vb ?_]
   ·exact h8
   ·intro e;subst e;rw [hx] at h8
    injection h8 with h8
    injection h8 with _ h8 _
    exact absurd h8 Od
theorem qhr (c5 place:Nat) {w0 w:World} {M:List (Nat × Obj)} (hm:Mem w0 w ((c5,.cells #[.nilIface] 38)::M)) :
  GvD Tryz.prog 232 [pp c5,ii place] w fun w'=>Ext w w':=by
 refine gvD Jk Tryz.func232 rfl Tryz.ntmps232 rfl (zw ?_);refine znm (Mem.nil w) ?_;intro t4 w1 hm1;refine LoadV.mem (hm.call hm1.ext) (i:=0) rfl rfl (zw ?_);refine zcv (qnd _ w1) ?_;rintro r w2 ⟨rfl,rfl⟩;refine zu ?_;exact hm1.ext
theorem quv (fb n cc place:Nat) (W:oA) (w:World) (h1:w.cell? ⟨fb,4,none⟩=some (.slice W n cc)) (h2:w.cell? ⟨fb,6,none⟩=some (ii place)) (_:place≤1152921504606846976) (f:FuncId) (Ok:Nat→World→Prop)
  (hOk:∀ b w w',Ok b w→Ext w w'→Ok b w') (hOx:∀ (b:Nat) (w w':World) (x:Nat) (fz:Nat × Nat),Ok b w→w.heap[x]?=some (.cells #[.nilIface] 38 fz)→(∀ c,c≠x→w'.heap[c]?=w.heap[c]?)→Ok b w')
  (hf:∀ w',Ext w w'→Gv Tryz.prog f [.slice W n cc] w' fun v w''=>(∃ b,v=.tuple #[pp b,.nilIface]∧Ok b w'')∧Ext w' w'') :
  Gv Tryz.prog 161 [pp fb,.func (.func f) #[] #[]] w fun v w'=>(∃ b,v=.tuple #[pp b,.nilIface]∧Ok b w')∧Ext w w':=by
 refine gvW Jk Tryz.func161 rfl Tryz.ntmps161 rfl (zw ?_);refine znm (Mem.nil w) ?_;intro c5 w1 hm;refine LoadV.of (v:=ii place) (hm.ext.cell h2) ?_;refine LoadV.of (v:=.slice W n cc) (hm.ext.cell h1) (zw ?_);refine zcv (hf w1 hm.ext) ?_;rintro v w2 ⟨⟨b,rfl,hb⟩,he2⟩;have hm:=hm.call he2;refine StoreV.row hm (i:=0) rfl Js rfl ?_;intro w3 hfr _ hm3;have hb:=hOx b w2 w3 c5 (0,0) hb (hm.get mh) hfr;have hm3:Mem w w3 ((c5,.cells #[.nilIface] 38)::[]):=hm3;refine LeaveV.call ((qhr c5 place hm3).mono fun w4 he4=>?_);have hm4:=hm3.call he4;refine qj (R:=fun v w'=>(∃ b,v=.tuple #[pp b,.nilIface]∧Ok b w')∧Ext w w') ?_;refine zr hm4 0 ?_;exact ⟨⟨b,rfl,hOk _ _ _ hb he4⟩,hm4.ext⟩
theorem qx8 (fb n cc place:Nat) (W:oA) (w:World) (h1:w.cell? ⟨fb,5,none⟩=some (.slice W n cc)) (h2:w.cell? ⟨fb,7,none⟩=some (ii place)) (_:place≤1152921504606846976) (f:FuncId) (Ok:Nat→World→Prop)
  (hOk:∀ b w w',Ok b w→Ext w w'→Ok b w') (hOx:∀ (b:Nat) (w w':World) (x:Nat) (fz:Nat × Nat),Ok b w→w.heap[x]?=some (.cells #[.nilIface] 38 fz)→(∀ c,c≠x→w'.heap[c]?=w.heap[c]?)→Ok b w')
  (hf:∀ w',Ext w w'→Gv Tryz.prog f [.slice W n cc] w' fun v w''=>(∃ b,v=.tuple #[pp b,.nilIface]∧Ok b w'')∧Ext w' w'') :
  Gv Tryz.prog 162 [pp fb,.func (.func f) #[] #[]] w fun v w'=>(∃ b,v=.tuple #[pp b,.nilIface]∧Ok b w')∧Ext w w':=by
 refine gvW Jk Tryz.func162 rfl Tryz.ntmps162 rfl (zw ?_);refine znm (Mem.nil w) ?_;intro c5 w1 hm;refine LoadV.of (v:=ii place) (hm.ext.cell h2) ?_;refine LoadV.of (v:=.slice W n cc) (hm.ext.cell h1) (zw ?_);refine zcv (hf w1 hm.ext) ?_;rintro v w2 ⟨⟨b,rfl,hb⟩,he2⟩;have hm:=hm.call he2;refine StoreV.row hm (i:=0) rfl Js rfl ?_;intro w3 hfr _ hm3;have hb:=hOx b w2 w3 c5 (0,0) hb (hm.get mh) hfr;have hm3:Mem w w3 ((c5,.cells #[.nilIface] 38)::[]):=hm3;refine LeaveV.call ((qhr c5 place hm3).mono fun w4 he4=>?_);have hm4:=hm3.call he4;refine qj (R:=fun v w'=>(∃ b,v=.tuple #[pp b,.nilIface]∧Ok b w')∧Ext w w') ?_;refine zr hm4 0 ?_;exact ⟨⟨b,rfl,hOk _ _ _ hb he4⟩,hm4.ext⟩
theorem qz7 (l:LB) (A B:oA) (w:World) (f1 f2:FuncId) (Ok1 Ok2:Nat→World→Prop)
  (hOk1:∀ b w w',Ok1 b w→Ext w w'→Ok1 b w') (hOx1:∀ (b:Nat) (w w':World) (x:Nat) (fz:Nat × Nat),Ok1 b w→w.heap[x]?=some (.cells #[.nilIface] 38 fz)→(∀ c,c≠x→w'.heap[c]?=w.heap[c]?)→Ok1 b w')
  (hOk2:∀ b w w',Ok2 b w→Ext w w'→Ok2 b w') (hOx2:∀ (b:Nat) (w w':World) (x:Nat) (fz:Nat × Nat),Ok2 b w→w.heap[x]?=some (.cells #[.nilIface] 38 fz)→(∀ c,c≠x→w'.heap[c]?=w.heap[c]?)→Ok2 b w')
  (hf1:∀ w',Ext w w'→Gv Tryz.prog f1 [.slice A (hN l 4) (hN l 4)] w' fun v w''=>(∃ b,v=.tuple #[pp b,.nilIface]∧Ok1 b w'')∧Ext w' w'')
  (hf2:∀ w',Ext w w'→Gv Tryz.prog f2 [.slice B (hN l 5) (hN l 5)] w' fun v w''=>(∃ b,v=.tuple #[pp b,.nilIface]∧Ok2 b w'')∧Ext w' w'') :
  Gv Tryz.prog 94 [.agg (okF l A B).toArray,.func (.func f1) #[] #[],.func (.func f2) #[] #[]] w fun v w'=>(∃ b vb tb,v=.tuple #[pp b,.nilIface]∧
   w'.heap[b]?=some (.cells #[ii (hN l 2),ii (hN l 3),ii (hN l 4),ii (hN l 5),pp vb,pp tb] 241)∧Ok1 vb w'∧Ok2 tb w')∧Ext w w':=by
 have h4:=qabp l 4;refine ze Tryz.func94 Tryz.ntmps94 ?_;refine znm (Mem.nil w) ?_;intro fb w1 hm;have hg:=hm.get mh;(conv=>whnf);refine zcv (quv fb (hN l 4) (hN l 4) 28 A w1 (by rw [qa hg];rfl) (by rw [qa hg];rfl) Oo f1 Ok1 hOk1 hOx1 (fun w' he=>hf1 w' (hm.ext.trans he))) ?_;rintro v w2 ⟨⟨vb,rfl,hv⟩,he2⟩;replace hm:=hm.call he2;have hg:=hm.get mh;refine zu ?_;refine zcv (qx8 fb (hN l 5) (hN l 5) (32+hN l 4) B w2 (by rw [qa hg];rfl) (by rw [qa hg];rfl) Oo f2 Ok2 hOk2 hOx2 (fun w' he=>hf2 w' (hm.ext.trans he))) ?_;rintro v w3 ⟨⟨tb,rfl,ht⟩,he3⟩;replace hm:=hm.call he3;have hv:=hOk1 _ _ _ hv he3;refine zu ?_;have hcs:CellsAt w3 fb 0 [ii (hN l 2:Nat),ii (hN l 3:Nat),ii (hN l 4:Nat),ii (hN l 5:Nat)]:=fun k v hv=>by
  have hk:k<4:=(List.getElem?_eq_some_iff.1 hv).1;refine CellsAt.mem hm mh k v ?_
  rcases (show k=0∨k=1∨k=2∨k=3 by omega) with rfl|rfl|rfl|rfl<;>exact hv
 refine LoadA.cells hcs rfl (zw ?_);refine ⟨fun b w4 hb hw=>?_⟩;have he4:Ext w3 w4:=by rw [hw];exact xr.alloc _
 have hm4:=hm.new hb hw;(conv=>whnf);exact ⟨⟨b,vb,tb,rfl,hm4.get mh,hOk1 _ _ _ hv he4,hOk2 _ _ _ ht he4⟩,hm4.ext⟩
structure PackAt (w:World) (b:Nat) (l:LB):Prop where
 h:∃ vb tb,w.heap[b]?=some (.cells #[ii (hN l 2),ii (hN l 3),ii (hN l 4),ii (hN l 5),pp vb,pp tb] 241)∧VocAt w vb (qn l)∧TreeAt w tb (qr l)
theorem PackAt.ext {w w':World} {b:Nat} {l:LB} (h:PackAt w b l) (he:Ext w w'):PackAt w' b l:=by
 obtain ⟨vb,tb,h1,h2,h3⟩:=h;exact ⟨vb,tb,he.get h1,h2.ext he,h3.ext he⟩
theorem ql3 {l:LB} (h:(qb1 l).2=0):l.length=hN l 4+hN l 5+36∧l.length≤67108864:=by
 unfold qb1 at h
 split at h
 ·cases h
 split at h
 ·cases h
 split at h
 ·cases h
 split at h
 ·cases h
 split at h
 ·cases h
 split at h
 ·cases h
 split at h
 ·cases h
 omega
theorem qvb {l:LB} (h:(qb1 l).2=0):(qn l).length=hN l 4:=by
 have:=ql3 h;rw [qn,List.length_take,zld];omega
theorem qz0 {l:LB} (h:(qb1 l).2=0):(qr l).length=hN l 5:=by
 have:=ql3 h;rw [qr,List.length_take,zld];omega
theorem q30 {l:LB} (h:(packE l).2=0):(qb1 l).2=0∧(wE (qn l)).2=0∧(tE (qr l)).2=0:=by
 unfold packE at h
 grind
theorem q4d (l:LB) (A:oA) (c:Nat) (w:World) (hS:SlAt encB 1 w A l) (hc:l.length≤c) (hl:l.length≤140737488355328) (hT:CellsAt w 3 0 qg7) (hE:(packE l).2=0) (hV:∀ k,0<k→k<4→tVec (qr l) k=true) :
  Gv Tryz.prog 37 [.slice A l.length c] w fun v w'=>(∃ b,v=.tuple #[pp b,.nilIface]∧PackAt w' b l)∧Ext w w':=by
 obtain ⟨h0,hv,ht⟩:=q30 hE;refine ze Tryz.func37 Tryz.ntmps37 ?_;refine zcv (qx7 l A c w hS hc hl hT h0) ?_;rintro v w1 ⟨⟨A',B',rfl,hA,hB⟩,he1⟩;have hv4:=qvb h0;have ht5:=qz0 h0;have hho:=ql3 h0;refine znm (Mem.nil w1) ?_;intro t4 w2 hm;refine StoreA.all hm (i:=0) rfl rfl (by simp [okF,Value.oneCell']) fun w3 hm=>zu ?_;refine zL hm 0 ?_;have hA3:=hA.ext hm.ext;have hB3:=hB.ext hm.ext;refine zcv (qz7 l A' B' w3 95 96 (fun b w=>VocAt w b (qn l)) (fun b w=>TreeAt w b (qr l)) (fun b w w' h he=>h.ext he) (fun b w w' x fz h hx hw=>h.other hx Od Od (fun v hv c=>by simp only [List.mem_cons,List.not_mem_nil,or_false] at hv;subst hv;intro e;cases e) hw) (fun b w w' h he=>h.ext he) (fun b w w' x fz h hx hw=>h.other hx (fun k c e=>by cases e) hw) (fun w' hx=>?_) (fun w' hx=>?_)) ?_
 ·have:=qlb (qn l) A' (hN l 4) w' (hA3.ext hx) Oo Oo hv;rw [hv4] at this;exact this
 ·have:=q46 (qr l) B' (hN l 5) w' (hB3.ext hx) Oo Oo ht hV;rw [ht5] at this;exact this.mono fun v w'' ⟨⟨b,h1,_,h2⟩,he⟩=>⟨⟨b,h1,h2⟩,he⟩
 rintro v w4 ⟨⟨b,vb,tb,rfl,hb,hv,ht⟩,he4⟩;(conv=>whnf);exact ⟨⟨b,rfl,vb,tb,hb,hv,ht⟩,(he1.trans hm.ext).trans he4⟩
def pS1 (l:LB):Prop:=(crcL (qn l)).toNat=leN ((l.drop (28+hN l 4)).take 4)
def pS2 (l:LB):Prop:=(crcL (qr l)).toNat=leN ((l.drop (32+hN l 4+hN l 5)).take 4)
def qadq (l:LB) (i:Nat):Prop:=(∀ j,j<4→qdv (qn l) (tNum (qr l) i j)≠none)∧qbx (q4Of (qn l) (tNum (qr l) i))=0
def qva (l:LB):Prop:=∀ i,i<vNum (qr l) 3→qadq l i
def q3z (l:LB):Prop:=∀ id,1≤id→id≤vTot (qn l) 3→∃ i,i<vNum (qr l) 3∧∃ j,j<4∧tNum (qr l) i j=id
open Classical in
noncomputable def poE (l:LB):Nat × Nat:=
 if (qb1 l).2≠0 then qb1 l else if ¬ pS1 l then (28+hN l 4,30) else if ¬ pS2 l then (32+hN l 4+hN l 5,30)
 else if (vwE (qn l)).2≠0 then (28+(vwE (qn l)).1,(vwE (qn l)).2) else if (toE (qr l)).2≠0 then (32+hN l 4+(toE (qr l)).1,(toE (qr l)).2)
 else if vNum (qr l) 3≠hN l 2 then (8,180) else if vTot (qn l) 3≠hN l 3 then (12,170)
 else if ¬ qva l then (32+hN l 4,180) else if ¬ q3z l then (28,170) else (0,0)
section
variable {l:LB}
theorem q38 (h:(qb1 l).2≠0):poE l=qb1 l:=by rw [poE,if_pos h]
theorem qacl (h:(qb1 l).2=0) (h1:¬ pS1 l):poE l=(28+hN l 4,30):=by grind [poE]
theorem qacm (h:(qb1 l).2=0) (h1:pS1 l) (h2:¬ pS2 l):poE l=(32+hN l 4+hN l 5,30):=by grind [poE]
theorem qadp (h:(qb1 l).2=0) (h1:pS1 l) (h2:pS2 l) (h3:(vwE (qn l)).2≠0):poE l=(28+(vwE (qn l)).1,(vwE (qn l)).2):=by
 grind [poE]
theorem qado (h:(qb1 l).2=0) (h1:pS1 l) (h2:pS2 l) (h3:(vwE (qn l)).2=0) (h4:(toE (qr l)).2≠0):poE l=(32+hN l 4+(toE (qr l)).1,(toE (qr l)).2):=by
 grind [poE]
theorem qadn (h:(qb1 l).2=0) (h1:pS1 l) (h2:pS2 l) (h3:(vwE (qn l)).2=0) (h4:(toE (qr l)).2=0) (h5:vNum (qr l) 3≠hN l 2):poE l=(8,180):=by
 grind [poE]
theorem qadm (h:(qb1 l).2=0) (h1:pS1 l) (h2:pS2 l) (h3:(vwE (qn l)).2=0) (h4:(toE (qr l)).2=0) (h5:vNum (qr l) 3=hN l 2) (h6:vTot (qn l) 3≠hN l 3):poE l=(12,170):=by
 grind [poE]
theorem q9f (h:(qb1 l).2=0) (h1:pS1 l) (h2:pS2 l) (h3:(vwE (qn l)).2=0) (h4:(toE (qr l)).2=0) (h5:vNum (qr l) 3=hN l 2) (h6:vTot (qn l) 3=hN l 3) (h7:¬ qva l):poE l=(32+hN l 4,180):=by
 grind [poE]
theorem qvh (h:(qb1 l).2=0) (h1:pS1 l) (h2:pS2 l) (h3:(vwE (qn l)).2=0) (h4:(toE (qr l)).2=0) (h5:vNum (qr l) 3=hN l 2) (h6:vTot (qn l) 3=hN l 3) (h7:qva l) (h8:¬ q3z l):poE l=(28,170):=by
 grind [poE]
theorem qack (h:(qb1 l).2=0) (h1:pS1 l) (h2:pS2 l) (h3:(vwE (qn l)).2=0) (h4:(toE (qr l)).2=0) (h5:vNum (qr l) 3=hN l 2) (h6:vTot (qn l) 3=hN l 3) (h7:qva l) (h8:q3z l):poE l=(0,0):=by
 grind [poE]
theorem qtk (h:(poE l).2=0):(qb1 l).2=0∧pS1 l∧pS2 l∧(vwE (qn l)).2=0∧(toE (qr l)).2=0∧vNum (qr l) 3=hN l 2∧vTot (qn l) 3=hN l 3∧qva l∧q3z l:=by
 by_cases h0:(qb1 l).2=0
 case neg=>grind [q38]
 by_cases h1:pS1 l
 case neg=>grind [qacl]
 by_cases h2:pS2 l
 case neg=>grind [qacm]
 by_cases h3:(vwE (qn l)).2=0
 case neg=>grind [qadp]
 by_cases h4:(toE (qr l)).2=0
 case neg=>grind [qado]
 grind [qadn,qadm,qva,q9f,qvh]
end
structure VTm (l:LB) (k j:Nat) (ts:List TM):Prop where
 len:ts.length=vTot l k+j
 ok:∀ t∈ts,TermOk t
 at_:∀ k' j',(k'<k∧j'<dN (sDict l k'))∨(k'=k∧j'<j)→∃ s t,dGet (sDict l k') j'=some s∧s.length≤262144∧ReadsAs ((k'+1:Nat):Int) s t∧ts[vTot l k'+j']?=some t
theorem qwh:Tryz.prog.underlying 28=some (.slice 45):=Tryz.underlying28
theorem trmI:Tryz.prog.info? 45=some ((Tryz.prog.info? 45).get Jk):=(Option.some_get _).symm
theorem trmZ:((Tryz.prog.info? 45).get Jk).zero=some ((((Tryz.prog.info? 45).get Jk).zero).get Jk):=(Option.some_get _).symm
def txtC (a b:ByteArray):Int:=if slt a b=true then -1 else if seq a b=true then 0 else 1
def cmpT (a b:TM):Int:=
 if a.kind≠b.kind then (if a.kind<b.kind then -1 else 1) else if txtC a.text b.text≠0 then txtC a.text b.text else if txtC a.type b.type≠0 then txtC a.type b.type else txtC a.lang b.lang
theorem q4e (q:Q4):qbx q=if qE 0 q.s≠0 then qE 0 q.s else if qE 1 q.p≠0 then qE 1 q.p else if qE 2 q.o≠0 then qE 2 q.o else qE 3 q.g:=by
 have hlen:((List.range 4).map fun k=>qE k (q.at k)).length=4:=by simp
 have hget:∀ j (hj:j<((List.range 4).map fun k=>qE k (q.at k)).length),((List.range 4).map fun k=>qE k (q.at k))[j]=qE j (q.at j):=fun j hj=>by simp
 have hbad:∀ k,k<4→(∀ j,j<k→qE j (q.at j)=0)→qE k (q.at k)≠0→qbx q=qE k (q.at k):=fun k hk h hne=>by
  rw [qbx,qi1 (k:=k) (by rw [hlen];exact hk) (fun j hj hjk=>by rw [hget];exact h j hjk) (by rw [hget];exact hne),hget]
 by_cases h0:qE 0 q.s≠0
 ·rw [if_pos h0];exact hbad 0 Oo (fun j h=>by omega) h0
 rw [if_neg h0]
 by_cases h1:qE 1 q.p≠0
 ·rw [if_pos h1];exact hbad 1 Oo (fun j h=>by (obtain rfl:j=0:=by omega);exact Decidable.not_not.1 h0) h1
 rw [if_neg h1]
 by_cases h2:qE 2 q.o≠0
 ·rw [if_pos h2];exact hbad 2 Oo (fun j h=>by
   rcases (show j=0∨j=1 by omega) with rfl|rfl
   ·exact Decidable.not_not.1 h0
   ·exact Decidable.not_not.1 h1) h2
 rw [if_neg h2]
 by_cases h3:qE 3 q.g≠0
 ·exact hbad 3 Oo (fun j h=>by
   rcases (show j=0∨j=1∨j=2 by omega) with rfl|rfl|rfl
   ·exact Decidable.not_not.1 h0
   ·exact Decidable.not_not.1 h1
   ·exact Decidable.not_not.1 h2) h3
 ·rw [Decidable.not_not.1 h3,qbx,qdk fun j hj=>by
   rw [hget];rw [hlen] at hj
   rcases (show j=0∨j=1∨j=2∨j=3 by omega) with rfl|rfl|rfl|rfl
   ·exact Decidable.not_not.1 h0
   ·exact Decidable.not_not.1 h1
   ·exact Decidable.not_not.1 h2
   ·exact Decidable.not_not.1 h3]
theorem qbw {α:Type} (enc:α→List Value) (size:Nat) (henc:∀ x,(enc x).length=size):∀ (l:List α) (j:Nat) (x:α) (k:Nat),l[j]?=some x→k<size→((l.map enc).flatten)[j*size+k]?=(enc x)[k]?
 | [],j,x,k,h,_=>by simp at h
 | y::l,0,x,k,h,hk=>by
  simp only [List.getElem?_cons_zero,Option.some.injEq] at h;subst h;simp only [List.map_cons,List.flatten_cons,Nat.zero_mul,Nat.zero_add];rw [List.getElem?_append_left (by rw [henc];exact hk)]
 | y::l,j+1,x,k,h,hk=>by
  simp only [List.getElem?_cons_succ] at h;simp only [List.map_cons,List.flatten_cons];rw [List.getElem?_append_right (by rw [henc,Nat.succ_mul];omega),henc,show (j+1)*size+k-size=j*size+k by rw [Nat.succ_mul];omega];exact qbw enc size henc l j x k h hk
theorem q81 {α:Type} {enc:α→List Value} {size n c base:Nat} {e:TypeId} {A:oA} {w:World} {l:List α} (henc:∀ x,(enc x).length=size) (h:w.ownsRow base e size (.slice A n c) n (l.map enc).flatten) (hn:l.length=n) :
  SlAt enc size w A l∧n≤c:=by
 obtain ⟨h1,⟨h2,h3⟩|⟨g,cap,cur,h2,_,h3,h4,_,h5,h6⟩⟩:=h
 ·subst h3;refine ⟨⟨fun hne=>absurd (List.eq_nil_of_length_eq_zero hn) hne⟩,Nat.zero_le _⟩
 ·cases h2;refine ⟨⟨fun _=>⟨g,0,rfl,fun j x hx k v hv=>?_⟩⟩,h4⟩;have hk:k<size:=by
   have:=(List.getElem?_eq_some_iff.1 hv).1
   rwa [henc] at this
  have hj:j<n:=by rw [← hn];exact (List.getElem?_eq_some_iff.1 hx).1
  have hjk:j*size+k<n*size:=by
   have:(j+1)*size≤n*size:=Nat.mul_le_mul_right _ hj;rw [Nat.succ_mul] at this;omega
  rw [qa h3,Nat.zero_add,← hv,← qbw enc size henc l j x k hx hk,← h6,List.getElem?_take,if_pos hjk];simp
theorem qag (t:TM):(encT t).length=4:=rfl
def qcx (out:List TM) (x:TM):List TM:=
 match out.getLast? with
 | some z=>bif qaj z x then out else out++[x]
 | none=>out++[x]
def mrgN:Nat→List TM→List TM→List TM→List TM
 | 0,_,_,out=>out
 | f+1,a,b,out=>
  match a,b with
  | [],[]=>out
  | x::a,[]=>mrgN f a [] (qcx out x)
  | [],y::b=>mrgN f [] b (qcx out y)
  | x::a,y::b=>if cmpT x y≤0 then mrgN f a (y::b) (qcx out x) else mrgN f (x::a) b (qcx out y)
def tmsN:Nat→List TM→List TM
 | 0,l=>l
 | f+1,l=>if l.length<2 then l else mrgN ((tmsN f (l.take (l.length/2))).length+(tmsN f (l.drop (l.length/2))).length) (tmsN f (l.take (l.length/2))) (tmsN f (l.drop (l.length/2))) []
theorem qij (out:List TM) (x:TM):(qcx out x).length≤out.length+1:=by
 unfold qcx
 split
 ·cases qaj _ x<;>simp
 ·simp
theorem qi9:∀ (f:Nat) (a b out:List TM),(mrgN f a b out).length≤a.length+b.length+out.length
 | 0,a,b,out=>by rw [mrgN];omega
 | f+1,a,b,out=>by
  unfold mrgN
  split
  ·omega
  ·rename_i x a
   have:=qi9 f a [] (qcx out x);have:=qij out x;simp only [List.length_cons] at *;omega
  ·rename_i y b
   have:=qi9 f [] b (qcx out y);have:=qij out y;simp only [List.length_cons] at *;omega
  ·rename_i x a y b
   split
   ·have:=qi9 f a (y::b) (qcx out x);have:=qij out x;simp only [List.length_cons] at *;omega
   ·have:=qi9 f (x::a) b (qcx out y);have:=qij out y;simp only [List.length_cons] at *;omega
theorem qrf:∀ (f:Nat) (l:List TM),(tmsN f l).length≤l.length
 | 0,l=>Nat.le_refl _
 | f+1,l=>by
  rw [tmsN]
  split
  ·exact Nat.le_refl _
  ·have h1:=qrf f (l.take (l.length/2));have h2:=qrf f (l.drop (l.length/2));refine Nat.le_trans (qi9 _ _ _ _) ?_;rw [List.length_take] at h1;rw [zld] at h2;simp only [List.length_nil];omega
def TmR (l:List TM) (v:Value) (w:World):Prop:=∃ B d,v=.slice B l.length d∧l.length≤d∧SlAt encT 4 w B l
theorem qbt {α:Type} (enc:α→List Value) (size:Nat) (henc:∀ x,(enc x).length=size) (l:List α):((l.map enc).flatten).length=l.length*size:=by
 induction l with
 | nil=>simp
 | cons x l ih=>simp only [List.map_cons,List.flatten_cons,zla,henc,ih,List.length_cons,Nat.succ_mul];omega
theorem qfp {α:Type} {enc:α→List Value} {size:Nat} (hsz:0<size) (henc:∀ x,(enc x).length=size) {w:World} {b off:Nat} {l:List α} (h:∀ (j:Nat) x,l[j]?=some x→CellsAt w b (off+j*size) (enc x)):CellsAt w b off (l.map enc).flatten:=by
 intro k v hv;have hk:=(List.getElem?_eq_some_iff.1 hv).1;rw [qbt enc size henc] at hk;have hj:k/size<l.length:=(Nat.div_lt_iff_lt_mul hsz).2 hk;have hx:=zge hj;have hm:=Nat.mod_lt k hsz;have he:=qbw enc size henc l (k/size) _ (k%size) hx hm;rw [show k/size*size+k%size=k from by rw [Nat.mul_comm];exact Nat.div_add_mod k size] at he;rw [he] at hv;have:=h (k/size) _ hx (k%size) v hv
 rwa [show off+k/size*size+k%size=off+k from by rw [Nat.add_assoc,show k/size*size+k%size=k from by rw [Nat.mul_comm];exact Nat.div_add_mod k size]] at this
def trQ (q:Q4):List TM:=[q.s,q.p,q.o]++if q.g.kind=0 then [] else [q.g]
def trms (qs:List Q4):List TM:=(qs.map trQ).flatten
theorem qac3 (q:Q4):(trQ q).length≤4:=by unfold trQ;split<;>simp
theorem qrh (qs:List Q4):(trms qs).length≤4*qs.length:=by
 induction qs with
 | nil=>exact Nat.le_refl _
 | cons q qs ih=>
  have:=qac3 q;simp only [trms,List.map_cons,List.flatten_cons,zla,List.length_cons] at ih ⊢;omega
theorem qo9 (qs:List Q4) (i:Nat) (q:Q4) (h:qs[i]?=some q):trms (qs.take (i+1))=trms (qs.take i)++trQ q:=by
 rw [List.take_add_one,h];simp [trms]
theorem qxt (q:Q4):∀ v∈encT q.s++encT q.p++encT q.o,v.oneCell'=true:=by
 intro v hv
 rcases List.mem_append.1 hv with hv|hv
 ·rcases List.mem_append.1 hv with hv|hv
  ·exact qab _ v hv
  ·exact qab _ v hv
 ·exact qab _ v hv
def sT (ts:List TM) (j:Nat):TM:=if j=0 then zTM else ts.getD (j-1) zTM
def sA (ts:List TM) (q:Nat→Nat) (k j:Nat):TM:=if j<k then sT ts (q j) else zTM
theorem qoi (q:Q4):(qd q).length=16:=rfl
theorem qaq (q:Q4):∀ v∈qd q,v.oneCell'=true:=by
 intro v hv;unfold qd at hv
 rcases List.mem_append.1 hv with hv|hv
 ·exact qab _ v hv
 ·rcases List.mem_append.1 hv with hv|hv
  ·exact qab _ v hv
  ·rcases List.mem_append.1 hv with hv|hv
   ·exact qab _ v hv
   ·exact qab _ v hv
namespace V
end V
def LtT (a b:TM):Prop:=a.kind<b.kind∨(a.kind=b.kind∧(slt a.text b.text=true∨(a.text=b.text∧(slt a.type b.type=true∨(a.type=b.type∧slt a.lang b.lang=true)))))
theorem qaak {a b:ByteArray}:txtC a b<0↔slt a b=true:=by
 grind [txtC]
theorem q1e {a b:ByteArray}:txtC a b=0↔a=b:=by
 grind [txtC,qhh,qa9]
theorem qat {a b:TM}:cmpT a b<0↔LtT a b:=by
 grind [cmpT,LtT,qaak,q1e,qhh]
theorem qan {a b:TM}:cmpT a b=0↔a=b:=by
 obtain ⟨ak,at_,ay,al⟩:=a;obtain ⟨bk,bt,by_,bl⟩:=b
 grind [cmpT,q1e]
theorem LtT.irrefl (a:TM):¬ LtT a a:=fun h=>by
 have h1:=qat.2 h
 grind [qan]
theorem LtT.ne {a b:TM} (h:LtT a b):a≠b:=by
 grind [LtT.irrefl]
theorem LtT.trans {a b c:TM} (h:LtT a b) (g:LtT b c):LtT a c:=by
 grind [LtT,qjt]
theorem LtT.tri (a b:TM):LtT a b∨a=b∨LtT b a:=by
 unfold LtT
 rcases Int.lt_trichotomy a.kind b.kind with h|h|h
 ·omega
 ·rcases qmv a.text b.text with h1|h1|h1
  ·simp_all
  ·rcases qmv a.type b.type with h2|h2|h2
   ·simp_all
   ·rcases qmv a.lang b.lang with h3|h3|h3
    ·simp_all
    ·refine .inr (.inl ?_);cases a;simp_all
    simp_all
   simp_all
  simp_all
 omega
def RiseT (l:List TM):Prop:=l.Pairwise LtT
def AheadT (out l:List TM):Prop:=∀ z,out.getLast?=some z→∀ x∈l,z=x∨LtT z x
theorem RiseT.lt_last {out:List TM} (h:RiseT out) {z:TM} (hz:out.getLast?=some z):∀ x∈out,x=z∨LtT x z:=by
 obtain ⟨ys,rfl⟩:=List.getLast?_eq_some_iff.1 hz;intro x hx
 rcases List.mem_append.1 hx with hx|hx
 ·exact .inr ((List.pairwise_append.1 h).2.2 x hx z Js)
 simp_all
theorem qel {out:List TM} {x:TM} (h:RiseT out) (ha:AheadT out [x]):RiseT (qcx out x)∧(∀ y,y∈qcx out x↔y∈out∨y=x)∧(qcx out x).getLast?=some x:=by
 unfold qcx
 split
 ·rename_i z hz
  rcases ha z hz x Js with rfl|hlt
  ·grind [qu]
  ·have:qaj z x=false:=Bool.eq_false_iff.2 fun e=>hlt.ne (qu.1 e)
   rw [this];refine ⟨?_,fun y=>by simp,by simp⟩;refine List.pairwise_append.2 ⟨h,Js,fun a hA b hB=>?_⟩;rw [List.mem_singleton.1 hB]
   rcases h.lt_last hz a hA with rfl|g
   ·exact hlt
   ·exact g.trans hlt
 ·rename_i hz
  have:out=[]:=List.getLast?_eq_none_iff.1 hz;subst this;exact ⟨List.pairwise_singleton _ _,fun y=>by simp,rfl⟩
theorem AheadT.next {out a:List TM} {x:TM} (hr:RiseT (x::a)) (hl:(qcx out x).getLast?=some x):AheadT (qcx out x) a:=fun z hz y hy=>by
 rw [hl] at hz;cases hz;exact .inr ((List.pairwise_cons.1 hr).1 y hy)
theorem qd5:∀ (f:Nat) (a b out:List TM),a.length+b.length≤f→RiseT a→RiseT b→RiseT out→AheadT out a→AheadT out b→RiseT (mrgN f a b out)∧∀ y,y∈mrgN f a b out↔y∈out∨y∈a∨y∈b
 | 0,a,b,out,hf,_,_,ho,_,_=>by
  grind [mrgN]
 | f+1,[],[],out,_,_,_,ho,_,_=>(by grind [mrgN])
 | f+1,x::a,[],out,hf,ha,hb,ho,h1,h2=>by
  obtain ⟨p1,p2,p3⟩:=qel ho (x:=x) fun z hz y hy=>h1 z hz y (by rw [List.mem_singleton.1 hy];exact List.mem_cons_self ..);obtain ⟨r1,r2⟩:=qd5 f a [] (qcx out x) (by simpa using hf) (List.pairwise_cons.1 ha).2 hb p1 (.next ha p3) (fun z _ y hy=>by cases hy);refine ⟨r1,fun y=>?_⟩;rw [mrgN,r2,p2];simp [or_assoc]
 | f+1,[],x::b,out,hf,ha,hb,ho,h1,h2=>by
  obtain ⟨p1,p2,p3⟩:=qel ho (x:=x) fun z hz y hy=>h2 z hz y (by rw [List.mem_singleton.1 hy];exact List.mem_cons_self ..);obtain ⟨r1,r2⟩:=qd5 f [] b (qcx out x) (by simpa using hf) ha (List.pairwise_cons.1 hb).2 p1 (fun z _ y hy=>by cases hy) (.next hb p3);refine ⟨r1,fun y=>?_⟩;rw [mrgN,r2,p2];simp [or_assoc]
 | f+1,x::a,u::b,out,hf,ha,hb,ho,h1,h2=>by
  have hx:AheadT out [x]:=fun z hz y hy=>h1 z hz y (by simp_all)
  have hu:AheadT out [u]:=fun z hz y hy=>h2 z hz y (by simp_all)
  rw [mrgN]
  split
  ·rename_i hle
   obtain ⟨p1,p2,p3⟩:=qel ho hx;have hxu:x=u∨LtT x u:=by
    rcases Int.lt_or_eq_of_le hle with h|h
    all_goals grind [qat,qan]
   have hah:AheadT (qcx out x) (u::b):=fun z hz y hy=>by
    rw [p3] at hz;cases hz
    rcases List.mem_cons.1 hy with rfl|hy
    ·exact hxu
    ·have:=(List.pairwise_cons.1 hb).1 y hy
     rcases hxu with rfl|h
     ·exact .inr this
     ·exact .inr (h.trans this)
   obtain ⟨r1,r2⟩:=qd5 f a (u::b) (qcx out x) (by grind) (List.pairwise_cons.1 ha).2 hb p1 (.next ha p3) hah
   grind
  ·rename_i hle
   obtain ⟨p1,p2,p3⟩:=qel ho hu;have hux:LtT u x:=by
    rcases LtT.tri x u with h|h|h
    all_goals simp_all [Int.le_of_lt,qat,Int.le_of_eq,qan]
   have hah:AheadT (qcx out u) (x::a):=fun z hz y hy=>by
    rw [p3] at hz;cases hz
    rcases List.mem_cons.1 hy with rfl|hy
    ·exact .inr hux
    ·exact .inr (hux.trans ((List.pairwise_cons.1 ha).1 y hy))
   obtain ⟨r1,r2⟩:=qd5 f (x::a) b (qcx out u) (by grind) ha (List.pairwise_cons.1 hb).2 p1 hah (.next hb p3)
   grind
theorem qgf:∀ (f:Nat) (l:List TM),l.length≤f→RiseT (tmsN f l)∧∀ y,y∈tmsN f l↔y∈l
 | 0,l,h=>by
  have:l=[]:=(by grind)
  subst this;exact ⟨List.Pairwise.nil,fun y=>Iff.rfl⟩
 | f+1,l,h=>by
  rw [tmsN]
  split
  ·rename_i h2
   refine ⟨?_,fun y=>Iff.rfl⟩
   match l,h2 with
   | [],_=>exact List.Pairwise.nil
   | [x],_=>exact List.pairwise_singleton _ _
  ·obtain ⟨a1,a2⟩:=qgf f (l.take (l.length/2)) (by rw [List.length_take];omega);obtain ⟨b1,b2⟩:=qgf f (l.drop (l.length/2)) (by rw [zld];omega);obtain ⟨r1,r2⟩:=qd5 _ _ _ [] znr a1 b1 List.Pairwise.nil (fun z hz=>by cases hz) (fun z hz=>by cases hz);refine ⟨r1,fun y=>?_⟩;rw [r2,a2,b2,← List.mem_append,List.take_append_drop];simp
theorem qpu {m:LB}:∀ {i:Nat},(∀ j,j<i→(dnF m j).2=0)→DSt m i (dSt m i).1 (dSt m i).2∧(0<i→i≤dN m→dGet m (i-1)=some (dSt m i).1)
 | 0,_=>⟨⟨Nat.zero_le _,Oo⟩,Oo⟩
 | i+1,h=>by
  obtain ⟨ih,_⟩:=qpu (m:=m) (i:=i) fun j hj=>h j Oo;have hi:=h i Oo;have hd:dSt m i=((dSt m i).1,(dSt m i).2):=rfl;have hp:i%16=0→qy m (i/16)=(dSt m i).2:=fun h1=>Classical.byContradiction fun h2=>by
   rw [q2v hd h1 h2] at hi;cases hi
  have he:(entG ((qc m).drop (dSt m i).2) (decide (i%16=0)) (dSt m i).1).2.2=0:=Classical.byContradiction fun h2=>by
   rw [qabj hd rfl hp h2] at hi;exact h2 hi
  have hs:=ih.step hp rfl he;exact ⟨hs,fun _ h3=>hs.get Oo⟩
section
variable {l:LB} {ts:List TM} (hV:VTm l 3 0 ts) (hd:∀ k,k<3→(doE (sDict l k)).2=0)
include hV hd
end
theorem q5i {l:LB} {k:Nat} (h:(vcE l k).2=0):tVec l k=true∧(voE (qe l k)).2=0∧(0<vNum l k→bitN ((qe l k).drop 8) (vNum l k-1)=1):=by
 grind [tVec,q5h,qada,qac8]
theorem LvlV.of {l:LB} {k:Nat} (h:(vcE l k).2=0):LvlV l k:=by
 obtain ⟨h1,h2,h3⟩:=q5i h;simp only [tVec,Bool.and_eq_true,decide_eq_true_eq] at h1;exact ⟨VecOk.voE h1.1.1 h2,h1.1.2,h1.2,h3⟩
theorem qj1 {l:LB} (h:(toE l).2=0):∀ k,1≤k→k≤3→LvlV l k:=fun k h1 h3=>by
 obtain ⟨_,h4⟩:=qt6 h;obtain ⟨_,_,h5,_⟩:=q3o (h4 k Oo)
 grind [LvlV.of]
def dTxt (m:LB) (i:Nat):LB:=(blk (qc m) (qy m (i/16)) (i%16)).1
theorem qpx {m:LB} (h:(doE m).2=0) {i:Nat} (hi:i<dN m):(blk (qc m) (qy m (i/16)) (i%16)).2.2=0∧dGet m i=some (dTxt m i):=by
 obtain ⟨_,_,hf,_⟩:=qsl h;have h1:=(qpu (m:=m) (i:=i+1) fun k hk=>hf k Oo).2 Oo Oo
 grind [dGet,dTxt]
theorem BEnd.full {m:LB} (h:(doE m).2=0) (k:Nat):BEnd m k (min 16 (dN m-16*k)):=by
 refine ⟨fun j hj=>⟨by omega,?_⟩,by omega,fun h1 h2=>by omega⟩;have:=(qpx h (i:=16*k+j) Oo).1
 grind
theorem q19 (m:LB) (k j:Nat) (hj:j<16):bRow m k j=[ii (16*k+j:Nat),.string ⟨(dTxt m (16*k+j)).toArray⟩]:=by
 grind [bRow,dTxt]
theorem qni:∀ x,x<256→∀ r,r<8→(x/2 ^ r≠0↔∃ s,s<8∧r≤s∧x/2 ^ s%2=1):=by decide +kernel
theorem qth {d:LB} {n:Nat} (hd:d.length=upN n 8):PadB d n↔n%8≠0∧(d.getD (n/8) 0).toNat/2 ^ (n%8)≠0:=by
 have hu:upN n 8=(n+7)/8:=rfl
 constructor
 ·rintro ⟨t,h1,h2,h3⟩;have h4:n%8≠0:=by omega
  have h5:t/8=n/8:=by omega
  grind [bitN,qni,q9]
 ·rintro ⟨h1,h2⟩;obtain ⟨s,h3,h4,h5⟩:=(qni _ (q9 _) _ Oo).1 h2;refine ⟨8*(n/8)+s,by omega,by omega,?_⟩
  grind [bitN]
theorem q7n {d:LB} {n:Nat} (h:¬ PadB d n):∀ {m:Nat},n≤m→m≤8*d.length→cnt d m=cnt d n:=by
 intro m hm
 induction hm with
 | refl=>intro _;rfl
 | step hm ih=>
  rename_i m
  intro hle;rw [cnt,ih Oo];have h1:=qgm d m;have h2:bitN d m≠1:=fun e=>h ⟨m,hm,by omega,e⟩
  omega
def mkD (d:LB) (b:Nat):Nat→List (Nat × Nat × Nat)
 | 0=>[]
 | t+1=>if bitN d (8*b+t)=1∧cnt d (8*b+t)%512=0 then mkD d b t++[(512,cnt d (8*b+t)/512,8*b+t)] else mkD d b t
def grD (d:LB) (b:Nat):List (Nat × Nat × Nat):=if 8*b%2048=0 then [(2048,8*b/2048,cnt d (8*b))] else []
def smD (d:LB) (b:Nat):List (Nat × Nat × Nat):=if 8*b%256=0 then [(256,8*b/256,cnt d (8*b)-cnt d (2048*(8*b/2048)))] else []
def dirD (d:LB):Nat→List (Nat × Nat × Nat)
 | 0=>[]
 | b+1=>dirD d b++(grD d b++(smD d b++mkD d b 8))
def plD (n:Nat) (x:Nat × Nat × Nat):Nat:=if x.1=2048 then qi n+4*x.2.1 else if x.1=256 then qz n+2*x.2.1 else qam n+4*x.2.1
def szD (x:Nat × Nat × Nat):Nat:=if x.1=256 then 2 else 4
theorem qg6 {d:LB} {b:Nat}:∀ {t:Nat} {x:Nat × Nat × Nat},x∈mkD d b t↔∃ s,s<t∧bitN d (8*b+s)=1∧cnt d (8*b+s)%512=0∧x=(512,cnt d (8*b+s)/512,8*b+s)
 | 0,x=>by simp [mkD]
 | t+1,x=>by
  rw [mkD]
  split
  ·rename_i h
   rw [List.mem_append,qg6,List.mem_singleton]
   constructor
   ·rintro (⟨s,h1,h2⟩|rfl)
    ·exact ⟨s,by omega,h2⟩
    ·exact ⟨t,by omega,h.1,h.2,rfl⟩
   ·rintro ⟨s,h1,h2,h3,h4⟩
    by_cases e:s=t
    ·subst e;exact .inr h4
    ·exact .inl ⟨s,by omega,h2,h3,h4⟩
  ·rename_i h
   rw [qg6]
   constructor
   ·rintro ⟨s,h1,h2⟩;exact ⟨s,by omega,h2⟩
   ·rintro ⟨s,h1,h2,h3,h4⟩
    by_cases e:s=t
    ·subst e;exact absurd ⟨h2,h3⟩ h
    ·exact ⟨s,by omega,h2,h3,h4⟩
theorem qdn {d:LB}:∀ {nb:Nat} {x:Nat × Nat × Nat},x∈dirD d nb↔∃ b,b<nb∧(x∈grD d b∨x∈smD d b∨x∈mkD d b 8)
 | 0,x=>by simp [dirD]
 | nb+1,x=>by
  rw [dirD,List.mem_append,qdn,List.mem_append,List.mem_append]
  constructor
  ·rintro (⟨b,h1,h2⟩|h)
   ·exact ⟨b,by omega,h2⟩
   ·exact ⟨nb,by omega,h⟩
  ·rintro ⟨b,h1,h2⟩
   by_cases e:b=nb
   ·subst e;exact .inr h2
   ·exact .inl ⟨b,by omega,h2⟩
theorem qsc {d:LB} {k:Nat}:∀ {n:Nat},k<cnt d n→∃ i,i<n∧cnt d i=k∧bitN d i=1
 | 0,h=>by simp [cnt] at h
 | n+1,h=>by
  by_cases h1:k<cnt d n
  ·obtain ⟨i,a,b⟩:=qsc h1;exact ⟨i,by omega,b⟩
  ·have h2:=qgm d n;rw [cnt] at h;exact ⟨n,by omega,by omega,by omega⟩
theorem qadk (d:LB) {i:Nat} (hb:bitN d i=1) (hm:cnt d i%512=0):∀ n,i<n→((mL d n).drop (4*(cnt d i/512))).take 4=fixL i 4:=by
 intro n hn
 induction hn with
 | refl=>
  grind [qzj,mL,upN,qh]
 | step hn ih=>
  rename_i n
  have hl:=qzj d n;have hc:cnt d i+1≤cnt d n:=by
   have h1:cnt d (i+1)=cnt d i+bitN d i:=rfl;have h2:=qei (d:=d) (a:=i+1) (b:=n) hn;omega
  grind [mL,upN]
section
variable {l:LB} (hv:vOk l=true) (hp:¬ PadB (vD l) (vN l)) (hc:cnt (vD l) (vN l)=vM l)
include hv
theorem q6y:(vD l).length=upN (vN l) 8:=by
 simp only [vOk,Bool.and_eq_true,decide_eq_true_eq] at hv;have h1:qba (vN l) (vM l)=qi (vN l)+4*upN (vN l) 2048+2*upN (vN l) 256+4*upN (vM l) 512:=rfl
 grind [qi,vD]
include hp hc
theorem q7s {x:Nat × Nat × Nat} (hx:x∈dirD (vD l) (upN (vN l) 8)):qi (vN l)≤plD (vN l) x∧plD (vN l) x+szD x≤qba (vN l) (vM l)∧
  (∀ r,r<szD x→qee (vN l) (plD (vN l) x+r)=plD (vN l) x)∧((qac (vD l) (vN l)).drop (plD (vN l) x)).take (szD x)=fixL x.2.2 (szD x)∧x.2.2<256 ^ szD x:=by
 have hdl:=q6y hv;have hN:vN l≤67108864:=by
  grind [vOk]
 obtain ⟨d,ed⟩:∃ d,d=vD l:=⟨_,rfl⟩
 obtain ⟨n,en⟩:∃ n,n=vN l:=⟨_,rfl⟩
 rw [← ed,← en] at hdl hp hc hx;rw [← en] at hN;rw [← ed,← en];have hW:=qlc d n;rw [hdl] at hW;have hG:qi n=8+upN n 8:=rfl;have hS:qz n=qi n+4*upN n 2048:=rfl;have hM:qam n=qz n+2*upN n 256:=rfl;have hE:qba n (vM l)=qam n+4*upN (vM l) 512:=rfl;rw [← hG] at hW;have hgl:=qnz d n;have hsl:=qtw d n;have u8:upN n 8=(n+7)/8:=rfl;have u2048:upN n 2048=(n+2047)/2048:=rfl;have u256:upN n 256=(n+255)/256:=rfl;have u512:upN (vM l) 512=(vM l+511)/512:=rfl;have hcn:∀ i,i≤n→cnt d i≤n:=fun i hi=>Nat.le_trans (qd0 d i) hi
 obtain ⟨b,hb,hx|hx|hx⟩:=qdn.1 hx
 ·unfold grD at hx
  split at hx
  ·rename_i h8
   rw [List.mem_singleton.1 hx];have e:plD n (2048,8*b/2048,cnt d (8*b))=qi n+4*(8*b/2048):=rfl;have e2:szD (2048,8*b/2048,cnt d (8*b))=4:=rfl;have hj:8*b/2048<upN n 2048:=by omega
   rw [e,e2];refine ⟨by omega,by omega,fun r hr=>?_,?_,?_⟩
   ·grind [qee]
   ·rw [← List.drop_drop,hW,List.drop_append_of_le_length Oo,List.take_append_of_le_length (by grind),qabn _ _ _ hj]
    grind
   grind
  ·cases hx
 ·unfold smD at hx
  split at hx
  ·rename_i h8
   rw [List.mem_singleton.1 hx];obtain ⟨v,ev⟩:∃ v,v=cnt d (8*b)-cnt d (2048*(8*b/2048)):=⟨_,rfl⟩
   rw [← ev];have e:plD n (256,8*b/256,v)=qz n+2*(8*b/256):=rfl;have e2:szD (256,8*b/256,v)=2:=rfl;have hj:8*b/256<upN n 256:=by omega
   rw [e,e2];refine ⟨by omega,by omega,fun r hr=>?_,?_,?_⟩
   ·grind [qee]
   ·have e3:qz n+2*(8*b/256)=qi n+((gL d n).length+2*(8*b/256)):=by omega
    have e4:∀ A B:LB,(A++B).drop (A.length+2*(8*b/256))=B.drop (2*(8*b/256)):=fun A B=>by simp
    rw [e3,← List.drop_drop,hW,e4,List.drop_append_of_le_length Oo,List.take_append_of_le_length (by grind),qacs _ _ _ hj,ev];rw [show 256*(8*b/256)=8*b by omega,show 8*b/256/8=8*b/2048 by omega]
   ·have:=qkk d (2048*(8*b/2048)) (8*b-2048*(8*b/2048))
    grind
  ·cases hx
 ·obtain ⟨s,hs,h1,h2,rfl⟩:=qg6.1 hx;obtain ⟨i,ei⟩:∃ i,i=8*b+s:=⟨_,rfl⟩
  rw [← ei] at h1 h2 ⊢;have hin:i<n:=Classical.byContradiction fun g=>hp ⟨i,by omega,by omega,h1⟩
  have hcl:cnt d i+1≤cnt d n:=by
   have h3:cnt d (i+1)=cnt d i+bitN d i:=rfl;have h4:=qei (d:=d) (a:=i+1) (b:=n) hin;omega
  have e:plD n (512,cnt d i/512,i)=qam n+4*(cnt d i/512):=rfl;have e2:szD (512,cnt d i/512,i)=4:=rfl;have hj:cnt d i/512<upN (vM l) 512:=by omega
  rw [e,e2];refine ⟨by omega,by omega,fun r hr=>?_,?_,?_⟩
  ·grind [qee]
  ·have e3:qam n+4*(cnt d i/512)=qi n+((gL d n).length+((sL d n).length+4*(cnt d i/512))):=by omega
   have e4:∀ (A B:LB) (k:Nat),(A++B).drop (A.length+k)=B.drop k:=fun A B k=>by simp
   rw [e3,← List.drop_drop,hW,e4,e4,qadk d h1 h2 n hin]
  grind
omit hp in
theorem qxn {i:Nat} (h1:qi (vN l)≤i) (h2:i<qba (vN l) (vM l)):∃ x∈dirD (vD l) (upN (vN l) 8),plD (vN l) x=qee (vN l) i∧plD (vN l) x≤i∧i<plD (vN l) x+szD x:=by
 have hdl:=q6y hv;obtain ⟨d,ed⟩:∃ d,d=vD l:=⟨_,rfl⟩
 obtain ⟨n,en⟩:∃ n,n=vN l:=⟨_,rfl⟩
 rw [← ed,← en] at hdl hc;rw [← en] at h1 h2;rw [← ed,← en];have hG:qi n=8+upN n 8:=rfl;have hS:qz n=qi n+4*upN n 2048:=rfl;have hM:qam n=qz n+2*upN n 256:=rfl;have hE:qba n (vM l)=qam n+4*upN (vM l) 512:=rfl;have u8:upN n 8=(n+7)/8:=rfl;have u2048:upN n 2048=(n+2047)/2048:=rfl;have u256:upN n 256=(n+255)/256:=rfl;have u512:upN (vM l) 512=(vM l+511)/512:=rfl
 by_cases g1:i<qz n
 ·obtain ⟨j,ej⟩:∃ j,j=(i-qi n)/4:=⟨_,rfl⟩
  have e:8*(256*j)/2048=j:=by omega
  refine ⟨(2048,8*(256*j)/2048,cnt d (8*(256*j))),qdn.2 ⟨256*j,by omega,.inl ?_⟩,?_⟩
  all_goals grind [grD,plD,szD,qee]
 ·by_cases g2:i<qam n
  ·obtain ⟨j,ej⟩:∃ j,j=(i-qz n)/2:=⟨_,rfl⟩
   have e:8*(32*j)/256=j:=by omega
   refine ⟨(256,8*(32*j)/256,cnt d (8*(32*j))-cnt d (2048*(8*(32*j)/2048))),qdn.2 ⟨32*j,by omega,.inr (.inl ?_)⟩,?_⟩
   all_goals grind [smD,plD,szD,qee]
  ·obtain ⟨j,ej⟩:∃ j,j=(i-qam n)/4:=⟨_,rfl⟩
   obtain ⟨i',k1,k2,k3⟩:=qsc (d:=d) (k:=512*j) (n:=n) Oo;have e0:8*(i' / 8)+i' % 8=i':=by omega
   refine ⟨(512,cnt d i' / 512,i'),qdn.2 ⟨i' / 8,by omega,.inr (.inr (qg6.2 ⟨i' % 8,by omega,?_⟩))⟩,?_⟩
   all_goals grind [plD,szD,qee]
end
theorem qwl:∀ (b:Nat) {a:Nat},a≤b→b<18446744073709551616→qaf a≤qaf b:=by
 intro b
 induction b using Nat.strongRecOn with
 | _ b ih=>
  intro a h hb
  by_cases ha:a=0
  ·grind [qdf]
  ·rw [qeu a ha Oo,qeu b Oo hb];have:=ih (b/2) Oo (a:=a/2) Oo Oo;omega
theorem q1z {a b:Nat} (ha:a<18446744073709551616) (hb:b<18446744073709551616):qaf (max a b)=max (qaf a) (qaf b):=by
 grind [qwl,Nat.max_eq_left]
def mxN (f:Nat→Nat):Nat→Nat
 | 0=>0
 | i+1=>max (mxN f i) (f i)
theorem qzo {f:Nat→Nat} {B:Nat} (hB:0<B):∀ {n:Nat},(∀ i,i<n→f i<B)→mxN f n<B
 | 0,_=>hB
 | n+1,h=>by
  have h1:=qzo hB (n:=n) fun i hi=>h i Oo
  grind [mxN]
theorem que {f:Nat→Nat} {xs:List Nat}:∀ {n:Nat},(∀ i,i<n→f i<18446744073709551616∧xs.getD i 0=f i)→qaf (mxN f n)=wMx xs n
 | 0,_=>qdf
 | n+1,h=>by
  obtain ⟨h1,h2⟩:=h n Oo;rw [mxN,wMx,q1z (qzo Od fun i hi=>(h i Oo).1) h1,que fun i hi=>h i Oo,h2]
theorem qzv (p:LB) (n wd:Nat):opE p n wd≠0↔PadB p (n*wd):=by
 simp [opE,PadB]
def varL (n:Nat):LB:=if n<128 then [UInt8.ofNat n] else UInt8.ofNat (n%128+128)::varL (n/128)
termination_by n
decreasing_by omega
theorem qer {n:Nat} (h:n<128):varL n=[UInt8.ofNat n]:=by rw [varL,if_pos h]
theorem qeq {n:Nat} (h:128≤n):varL n=UInt8.ofNat (n%128+128)::varL (n/128):=by grind [varL]
theorem qav {n:Nat} (h:n<256):(UInt8.ofNat n).toNat=n:=by
 simp_all
theorem q5g (n:Nat):1≤(varL n).length:=by
 grind [qer,qeq]
theorem qbe (k:Nat):∀ n,n<2 ^ (7*(k+1))→(varL n).length≤k+1:=by
 induction k<;>grind [qer,qeq]
theorem qu7:∀ (n i a:Nat) (r:LB),n*2 ^ (7*i)<2 ^ 64→i≤9→(0<i→0<n)→qha i a (varL n++r)=(a+n*2 ^ (7*i),i+(varL n).length,0):=by
 intro n
 induction n using Nat.strongRecOn with
 | _ n ih=>
  intro i a r hn hi h0;have h9:i=9→n<2:=by grind
  by_cases h:n<128
  ·grind [qer,qek,qav]
  ·have e:n%128*2 ^ (7*i)+n/128*2 ^ (7*(i+1))=n*2 ^ (7*i):=by
    grind [Nat.mod_add_div]
   rw [qeq Oo,List.cons_append,qek,qav Oo,if_neg Oo,if_neg Oo]
   grind
theorem qa4 {n:Nat} (h:n<2 ^ 64) (r:LB):numL (varL n++r)=(n,(varL n).length,0):=by
 grind [numL,qu7]
end Go.Proofs.YtccmcfpmknpccaaGreatDoor
