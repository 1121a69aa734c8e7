/- Lemmas and contracts of functions on the way to the law's card (part 6 of 10). -/
import Derived.Test.YtaiiejogocblgaaGreatDoorPO5
namespace Go.Proofs.YtaiiejogocblgaaGreatDoor
set_option maxHeartbeats 8000000
open Go.RowKit V
set_option maxRecDepth 100000
def bSt (E:LB) (p:Nat):Nat→LB × Nat
 | 0=>([],p)
 | j+1=>((blk E p j).1,(blk E p j).2.1)
theorem q4y {E:LB} {p:Nat}:∀ {j:Nat},(∀ i,i<j→(blk E p i).2.2=0)→blk E p j=qce E (bSt E p j).2 (decide (j=0)) (bSt E p j).1
 | 0,_=>rfl
 | j+1,h=>by
  rw [blk,if_neg (by rw [h j Oo];simp)];rfl
def bRow (m:LB) (k j:Nat):List Value:=[ii (16*k+j:Nat),.string ⟨(blk (qe m) (qy m k) j).1.toArray⟩]
structure BEnd (m:LB) (k n:Nat):Prop where
 ok:∀ j,j<n→16*k+j<dN m∧(blk (qe m) (qy m k) j).2.2=0
 le:n≤16
 stop:n<16→16*k+n<dN m→(blk (qe m) (qy m k) n).2.2≠0
theorem BEnd.ex (m:LB) (k:Nat):∃ n,BEnd m k n:=by
 have:∀ d j,j+d=16→(∀ i,i<j→16*k+i<dN m∧(blk (qe m) (qy m k) i).2.2=0)→∃ n,BEnd m k n:=by
  intro d
  induction d with
  | zero=>intro j hj h;exact ⟨j,h,by omega,fun h=>by omega⟩
  | succ d ih=>
   intro j hj h
   by_cases hg:16*k+j<dN m∧(blk (qe m) (qy m k) j).2.2=0
   ·refine ih (j+1) Oo fun i hi=>?_
    by_cases e:i=j
    ·subst e;exact hg
    ·exact h i Oo
   ·exact ⟨j,h,by omega,fun _ h1 h2=>hg ⟨h1,h2⟩⟩
 exact this 16 0 rfl fun i h=>by omega
theorem qwh {w:World} {b:Nat} {m:LB} (h:DictAt w b m) (k:Nat):qy m k≤134217728:=by
 have:=qhz (qt m) (k*dW m) (dW m) h.width;unfold qy;omega
theorem q4x {m:LB} {k n j:Nat} (h:BEnd m k n) (hj:j≤n) (hE:(qe m).length≤67108864) (hp:qy m k≤134217728) :
  (bSt (qe m) (qy m k) j).1.length≤262144∧(bSt (qe m) (qy m k) j).2≤134217728:=by
 cases j with
 | zero=>exact ⟨by simp [bSt],hp⟩
 | succ j=>
  have:=q1z (h.ok j Oo).2;exact ⟨this.1,by have:=this.2;simp only [bSt];omega⟩
def BlkΦ (b:Nat) (m:LB) (k b1 b2:Nat) (w:World):Prop:=DictAt w b m∧w.cell? ⟨b1,0,none⟩=some (pp b)∧w.cell? ⟨b2,0,none⟩=some (ii k)
theorem qn0 (b:Nat) (m:LB) (k n b1 b2:Nat) (hk:k<upN (dN m) 16) (hn:BEnd m k n) :
  SeqV Tryz.prog 132 [pp b1,pp b2] ((List.range n).map (bRow m k)) (BlkΦ b m k b1 b2):=by
 intro l I Ix w hI sI sIx h0 hy;obtain ⟨h,h1,h2⟩:=hI 0 w h0;have hub:upN (dN m) 16≤4194304:=Nat.le_trans (qak _ _ Od) h.n;have hEl:(qe m).length≤67108864:=by rw [h.entries];exact h.size
 have hpl:=qwh h k;refine gvW Jk Tryz.func132 rfl Tryz.ntmps132 rfl (zw ?_);refine LoadV.of h1 (zw ?_);refine LoadV.of h2 (zw ?_);refine zcv (qoq b m k w h hk) ?_;rintro v w' ⟨rfl,rfl⟩;(conv=>whnf);refine LoadV.of h2 (zu ?_);refine qt5 (fun j:Nat=>[(0,.func (.yield l) #[] #[]),(1,pp b1),(2,pp b2),(4,ii (bSt (qe m) (qy m k) j).2),(5,.string ⟨(bSt (qe m) (qy m k) j).1.toArray⟩),(6,ii ((k:Int)*16+j))])
  (fun j w'=>j≤n∧I j w') (fun j=>n-j) 0 ⟨rfl,rfl,rfl,rfl,rfl,by show ii _=ii _;congr 1,trivial⟩ ⟨by omega,h0⟩ ?_
 rintro j w1 ρ' ⟨hj,hIj⟩;obtain ⟨hD1,hc1,hc2⟩:=hI j w1 hIj;obtain ⟨hs1,hs2⟩:=q4x hn hj hEl hpl;have hb:=fun hg:∀ i,i<j→(blk (qe m) (qy m k) i).2.2=0=>q4y hg
 have hb:=hb fun i hi=>(hn.ok i Oo).2
 have hle:=hn.le;(conv=>whnf);refine LoadV.of hc1 (zw ?_);obtain ⟨⟨P,cp,E,ce,hd1,_,_,_⟩,_⟩:=id hD1;refine LoadV.own hd1 rfl ?_;have hxs:((List.range n).map (bRow m k)).length=n:=by simp
 have hend:j=n→I ((List.range n).map (bRow m k)).length w1:=fun e=>by rw [hxs,← e];exact hIj
 (conv=>whnf);refine zC (fun _=>zu ?_) (fun _=>zu ?_)
 ·refine LoadV.of hc2 (zw ?_);refine zt ?_;refine zC (fun _=>zw ?_) (fun _=>zw ?_)
  ·refine LoadV.of hc1 (zw ?_);have e16:decide (((k:Int)*16+(j:Int))%16=0)=decide (j=0):=decide_eq_decide.2 Oo;refine Obl.mk ⟨by omega,by omega⟩ (zw ?_);rw [e16];refine zcv (qoc b m (bSt (qe m) (qy m k) j).2 (decide (j=0)) ⟨(bSt (qe m) (qy m k) j).1.toArray⟩ w1 hD1 Oo (by show (bSt (qe m) (qy m k) j).1.length≤_;omega)) ?_;rintro v w2 ⟨rfl,he2⟩;have hb':qce (qe m) (bSt (qe m) (qy m k) j).2 (decide (j=0)) (⟨(bSt (qe m) (qy m k) j).1.toArray⟩:ByteArray).data.toList=blk (qe m) (qy m k) j:=hb.symm;rw [hb'];obtain ⟨x,ex⟩:∃ x,x=blk (qe m) (qy m k) j:=⟨_,rfl⟩
   have hok:=hn.ok j;have hst:=hn.stop;rw [← ex] at hok ⊢;conv=>whnf
   by_cases hx0:x.2.2=0
   ·have hjn:j<n:=by
     refine Decidable.byContradiction fun hc=>?_;obtain rfl:j=n:=by omega
     exact hst Oo Oo (by rw [← ex];exact hx0)
    refine zv ?_;refine YieldV.mono (hy j [ii ((k:Int)*16+j),.string ⟨x.1.toArray⟩] w2 ?_ (sI _ _ _ hIj he2)) ?_
    ·rw [List.getElem?_map,List.getElem?_range hjn,Option.map_some,bRow,← ex]
     congr 3
     omega
    rintro v w3 (⟨rfl,hI3⟩|⟨rfl,hX⟩)
    ·refine zu ?_;refine ⟨rfl,j+1,⟨rfl,rfl,rfl,?_,?_,?_,trivial⟩,⟨by omega,hI3⟩,by omega⟩
     ·simp only [bSt,← ex];rfl
     ·simp only [bSt,← ex];rfl
     ·show ii _=ii _
      congr 1
    ·refine zu ?_;exact .inr ⟨j,by rw [hxs];exact hjn,hX⟩
   ·have hjn:j=n:=by
     refine Decidable.byContradiction fun hc=>?_;exact hx0 (hok Oo).2
    refine zv ?_;exact .inl (sI _ _ _ (hend hjn) he2)
  ·have hjn:j=n:=by omega
   exact .inl (hend hjn)
 ·have hjn:j=n:=by
   refine Decidable.byContradiction fun hc=>?_;have:=(hn.ok j Oo).1;omega
  exact .inl (hend hjn)
theorem qvw (b k:Nat) (w:World):Gv Tryz.prog 85 [pp b,ii k] w fun r w'=>
  (∃ b1 b2,r=.func (.func 132) #[] #[pp b1,pp b2]∧w'.cell? ⟨b1,0,none⟩=some (pp b)∧w'.cell? ⟨b2,0,none⟩=some (ii k))∧Ext w w':=by
 refine ze Tryz.func85 Tryz.ntmps85 ?_;refine znm (Mem.nil w) fun b1 w1 hm=>zw ?_;refine znm hm fun b2 w2 hm=>zw ?_;refine ⟨⟨b1,b2,rfl,?_,?_⟩,hm.ext⟩
 ·rw [qd (hm.get (zmc mh))];rfl
 ·rw [qd (hm.get mh)];rfl
def qma (m:LB) (i:Nat):Value:=
 match dGet m i with
 | some s=>.tuple #[.string ⟨s.toArray⟩,.bool true]
 | none=>.tuple #[.string ⟨#[]⟩,.bool false]
theorem qzx (b:Nat) (m:LB) (i:Nat) (w:World) (h:DictAt w b m) (hi:i≤16777216) :
  Gv Tryz.prog 100 [pp b,ii i] w fun r w'=>r=qma m i∧Ext w w':=by
 refine gvW Jk Tryz.func100 rfl Tryz.ntmps100 rfl (zw ?_);refine znm (Mem.nil w) fun bi w1 hm=>zw ?_;refine znm hm fun bs w2 hm=>zw ?_;refine znm hm fun bb w3 hm=>zw ?_;refine DrawW.of ?_;obtain ⟨⟨P,cp,E,ce,hd1,_,_,_⟩,_⟩:=h.ext hm.ext;refine zy ?_;refine LoadV.mem (hm.drew) (i:=2) rfl rfl (zu ?_);refine LoadV.mem (hm.drew) (i:=2) rfl rfl (zu ?_);refine LoadV.own hd1 rfl (zw ?_);refine zt ?_;refine zC (fun _=>zw ?_) (fun _=>zw ?_)
 ·have hg:qma m i=.tuple #[.string ⟨#[]⟩,.bool false]:=by rw [qma,dGet,if_neg Oo]
  rw [hg];refine StoreV.mem hm.drew (i:=1) rfl Js rfl fun w4 hm=>zw ?_;refine StoreV.mem hm (i:=0) rfl Js rfl fun w5 hm=>zw ?_;refine qa (R:=fun v w'=>v=.tuple #[.string ⟨#[]⟩,.bool false]∧Ext w w') (zw ?_);refine zr hm 1 ?_;refine zr hm 0 ?_;exact ⟨rfl,hm.ext⟩
 have hm:=hm.drew;refine zr hm 2 ?_;refine zv ?_;refine zcv (qvw b (i/16) w3.drew) ?_;rintro v w4 ⟨⟨b1,b2,rfl,hb1,hb2⟩,he4⟩;have hm:=hm.call he4;have hD4:=h.ext hm.ext;(conv=>whnf);obtain ⟨n,hn⟩:=BEnd.ex m (i/16);have hn16:=hn.le;have hki:i/16<upN (dN m) 16:=by unfold upN;omega
 have hlen:((List.range n).map (bRow m (i/16))).length=n:=by simp
 refine qx6 (Φ:=BlkΦ b m (i/16) b1 b2) (lb:=[pp b1,pp b2]) (xs:=(List.range n).map (bRow m (i/16))) rfl Jk (qn0 b m (i/16) n b1 b2 hki hn).toC Od ?_
  (fun k X w'=>∃ _:Unit,k≤i%16∧Mem w4 w' (X++[]))
  (fun c k X w'=>∃ _:Unit,(c=.ret∧k=i%16)∧Mem w w' (X++[(bb,.cells #[.bool true] 4),(bs,.cells #[.string ⟨(blk (qe m) (qy m (i/16)) (i%16)).1.toArray⟩] 9),(bi,.cells #[ii i] 3)]))
  (fun k=>Carr.mem _ _) (fun c k=>Carr.mem _ _) (fun k X w' ⟨_,_,hm⟩=>⟨hD4.ext hm.ext,hm.ext.cell hb1,hm.ext.cell hb2⟩) ⟨(),Nat.zero_le _,by simpa using Mem.nil w4⟩ ?_ ?_ ?_
 ·intro x hx;obtain ⟨j,_,rfl⟩:=List.mem_map.1 hx;rfl
 ·rintro l D ob k x X w5 w6 hx ⟨_,hk,hmJ⟩;have hkn:k<n:=by
   have:=(List.getElem?_eq_some_iff.1 hx).1
   rwa [hlen] at this
  rw [List.getElem?_map,List.getElem?_range hkn,Option.map_some,Option.some.injEq] at hx;subst hx;have hm:=hm.glue2 hmJ;(conv=>whnf);refine ⟨rfl,rfl,?_⟩;(conv=>whnf);refine zr hm 2 ?_;refine zC (fun _=>zw ?_) (fun _=>zw ?_)
  ·obtain rfl:k=i%16:=by omega
   refine StoreV.mem hm (i:=1) rfl Js rfl fun w7 hm=>zw ?_;refine StoreV.mem hm (i:=0) rfl Js rfl ?_;intro w8 hm;rw [List.append_nil] at hm;(conv=>whnf);exact ⟨(),⟨rfl,rfl⟩,hm.perm List.perm_append_comm⟩
  ·exact ⟨(),by omega,hmJ⟩
 ·rintro D w5 ⟨_,hk,hmJ⟩;rw [hlen] at hk;have hm:=hm.glue hmJ;have hg:qma m i=.tuple #[.string ⟨#[]⟩,.bool false]:=by
   have hst:=hn.stop;have hne:(blk (qe m) (qy m (i/16)) (i%16)).2.2≠0:=by
    have h1:=hst Oo Oo;rw [qzn h1 (i:=i%16) Oo];exact h1
   rw [qma,dGet,if_pos Oo,if_neg hne]
  rw [hg];(conv=>whnf);refine StoreV.mem hm (i:=2) rfl Js rfl fun w6 hm=>zw ?_;refine StoreV.mem hm (i:=1) rfl Js rfl fun w7 hm=>zw ?_;refine LeaveV.mark (hm.get mh) fun w8 hw=>?_;have hm:=hm.setO (i:=0) _ rfl hw;(conv=>whnf);refine qa (R:=fun v w'=>v=.tuple #[.string ⟨#[]⟩,.bool false]∧Ext w w') (zw ?_);refine zr hm 2 ?_;refine zr hm 1 ?_;exact ⟨rfl,hm.ext⟩
 ·rintro D c k w5 hkl ⟨_,⟨rfl,rfl⟩,hm⟩;rw [hlen] at hkl;have hg:qma m i=.tuple #[.string ⟨(blk (qe m) (qy m (i/16)) (i%16)).1.toArray⟩,.bool true]:=by
   rw [qma,dGet,if_pos Oo,if_pos (hn.ok _ hkl).2]
  rw [hg];(conv=>whnf);refine LeaveV.mark (hm.get mh) fun w8 hw=>?_;have hm:=hm.setO (i:=0) _ rfl hw;(conv=>whnf);refine qa (R:=fun v w'=>v=.tuple #[.string ⟨(blk (qe m) (qy m (i/16)) (i%16)).1.toArray⟩,.bool true]∧Ext w w') (zw ?_);refine zr hm 2 ?_;refine zr hm 1 ?_;exact ⟨rfl,hm.ext⟩
theorem qr6 {l:LB} {k:Nat} (h:∀ j,j<k→(dhF l j).2=0) (hk:k<2) (he:(dhF l k).2≠0):dE l=dhF l k:=by
 have:=qar (f:=dhF l) h hk he;rw [dE,this,if_pos he]
theorem qcg {l:LB} {k most:Nat} (h:(numE l k most).2=0):vNum l k≤most:=by
 unfold numE at h
 split at h
 ·rename_i g;exact absurd h g
 ·split at h
  ·cases h
  ·omega
theorem qv9 {l:LB} (h:(dE l).2=0):dN l≤4194304∧qig l≤67108864∧dEnd l=l.length:=by
 unfold dE at h
 split at h
 ·rename_i h0;exact absurd h h0
 rename_i h0
 have hh:=qay (f:=dhF l) (n:=2) Oo;have h1:=hh 0 Oo;have h2:=hh 1 Oo
 split at h
 ·cases h
 rename_i g1
 split at h
 ·cases h
 rename_i g2
 refine ⟨?_,?_,by omega⟩
 ·exact qcg h1
 ·exact qcg h2
def HdDR (l:LB) (r:Value):Prop:=
 ((dE l).2≠0∧r=.tuple #[.agg #[ii 0,ii 0,ii 0,ii 0],fltV (dE l).1 (dE l).2])∨
 ((dE l).2=0∧r=.tuple #[.agg #[ii (dN l:Nat),ii (qig l:Nat),ii (qax l:Nat),ii (qf l:Nat)],fltV 0 0])
theorem qwc (l:LB) (A:oA) (c:Nat) (w:World) (hS:SlAt encB 1 w A l) (hc:l.length≤c) (hl:l.length≤140737488355328) :
  Gv Tryz.prog 107 [.slice A l.length c] w fun r w'=>HdDR l r∧Ext w w':=by
 have hle1:=qb5 l 1;have hle2:=qb5 l 2;have hlt0:=qfx l 0;have hlt1:=qfx l 1;refine ze Tryz.func107 Tryz.ntmps107 ?_;refine znm (Mem.nil w) fun r2 w1 hm=>zw ?_;refine znm hm fun r3 w2 hm=>zw ?_;refine zcv (qbj l A _ _ w2 (hS.ext hm.ext) rfl hl) ?_;rintro r w3 ⟨rfl,rfl⟩;obtain ⟨q,eq⟩:∃ q,q=(numL l).2.2:=⟨_,rfl⟩
 obtain ⟨s,es⟩:∃ s,s=(numL l).2.1:=⟨_,rfl⟩
 have eva:vAt l 1=s:=by rw [es,vAt,vAt,Nat.zero_add];rfl
 have evn:(numL l).1=vNum l 0:=rfl;have eq0:(numL (l.drop (vAt l 0))).2.2=q:=by rw [eq];rfl
 rw [numV,evn,← eq,← es];conv=>whnf
 (repeat' refine zC (fun _=>zw ?_) (fun _=>zw ?_))
 ·have hf:dhF l 0=(0,q):=by rw [dhF,qd1 Oo,eq0];rfl
  have hE:dE l=(0,q):=by rw [qr6 (k:=0) (fun j h=>by omega) Oo (by rw [hf];show q≠0;omega),hf]
  refine zS hm 1 fun wa hm=>zw ?_;refine zS hm 0 fun wb hm=>zw ?_;refine qa (R:=fun r w'=>HdDR l r∧Ext w w') (zw ?_);refine zl hm 1 ?_;refine zl hm 0 ?_;exact ⟨.inl ⟨by rw [hE];show q≠0;omega,by rw [hE];rfl⟩,hm.ext⟩
 ·have hf:dhF l 0=(0,2):=by rw [dhF,qcv Oo (by rw [if_pos rfl];omega)];rfl
  have hE:dE l=(0,2):=by rw [qr6 (k:=0) (fun j h=>by omega) Oo (by rw [hf];simp),hf]
  refine zS hm 1 fun wa hm=>zw ?_;refine zS hm 0 fun wb hm=>zw ?_;refine qa (R:=fun r w'=>HdDR l r∧Ext w w') (zw ?_);refine zl hm 1 ?_;refine zl hm 0 ?_;exact ⟨.inl ⟨by rw [hE];simp,by rw [hE];rfl⟩,hm.ext⟩
 have hf0:(dhF l 0).2=0:=by rw [dhF,qb7 Oo (by rw [if_pos rfl];omega)]
 refine SliceV.bs (hS.ext hm.ext) rfl s l.length c rfl rfl rfl Oo znr hc znr (fun h=>by cases h) ?_;intro A' hA';rw [List.take_of_length_le (by rw [zld];exact Nat.le_refl _)] at hA';(conv=>whnf);refine zcv (qbj (l.drop s) A' _ _ _ hA' (by rw [zld]) (by rw [zld];omega)) ?_;rintro r w4 ⟨rfl,rfl⟩;obtain ⟨q2,eq2⟩:∃ q2,q2=(numL (l.drop s)).2.2:=⟨_,rfl⟩
 obtain ⟨s2,es2⟩:∃ s2,s2=(numL (l.drop s)).2.1:=⟨_,rfl⟩
 have evn2:(numL (l.drop s)).1=vNum l 1:=by rw [vNum,eva]
 have eva2:vAt l 2=s+s2:=by rw [es2,vAt,eva]
 have eq20:(numL (l.drop (vAt l 1))).2.2=q2:=by rw [eq2,eva]
 rw [numV,evn2,← eq2,← es2];conv=>whnf
 (repeat' (first|refine zp ?_|refine zC (fun _=>zw ?_) (fun _=>zw ?_)))
 ·have hf:dhF l 1=(s,q2):=by rw [dhF,qd1 Oo,eq20,eva]
  have hE:dE l=(s,q2):=by rw [qr6 (k:=1) (fun j h=>by obtain rfl:j=0:=(by omega);exact hf0) Oo (by rw [hf];show q2≠0;omega),hf]
  refine zS hm 1 fun wa hm=>zw ?_;refine zS hm 0 fun wb hm=>zw ?_;refine qa (R:=fun r w'=>HdDR l r∧Ext w w') (zw ?_);refine zl hm 1 ?_;refine zl hm 0 ?_;exact ⟨.inl ⟨by rw [hE];show q2≠0;omega,by rw [hE];rfl⟩,hm.ext⟩
 ·have hf:dhF l 1=(s,2):=by rw [dhF,qcv Oo (by rw [if_neg Oo];omega),eva]
  have hE:dE l=(s,2):=by rw [qr6 (k:=1) (fun j h=>by obtain rfl:j=0:=(by omega);exact hf0) Oo (by rw [hf];simp),hf]
  refine zS hm 1 fun wa hm=>zw ?_;refine zS hm 0 fun wb hm=>zw ?_;refine qa (R:=fun r w'=>HdDR l r∧Ext w w') (zw ?_);refine zl hm 1 ?_;refine zl hm 0 ?_;exact ⟨.inl ⟨by rw [hE];simp,by rw [hE];rfl⟩,hm.ext⟩
 have hf1:(dhF l 1).2=0:=by rw [dhF,qb7 Oo (by rw [if_neg Oo];omega)]
 have hno:¬ (errF (dhF l) 2).2≠0:=by
  have:=qaa (f:=dhF l) (n:=2) (fun k hk=>by rcases (show k=0∨k=1 by omega) with rfl|rfl;exact hf0;exact hf1);omega
 have edN:dN l=vNum l 0:=rfl;have edS:qig l=vNum l 1:=rfl;have ed3:qax l=s+s2:=eva2;obtain ⟨U,eU⟩:∃ U,U=upN (dN l) 16:=⟨_,rfl⟩
 have eU2:U=(vNum l 0+15)/16:=by rw [eU,upN,edN];rfl
 have hW:qbm (vNum l 1)≤64:=qd7 64 _ (by simpa using hlt1) Od;obtain ⟨f,ef⟩:∃ f,f=U*qbm (vNum l 1):=⟨_,rfl⟩
 have efi:(U:Int)*(qbm (vNum l 1):Int)=(f:Int):=by rw [ef,Int.natCast_mul]
 have hfb:f≤262144*64:=by rw [ef];exact Nat.mul_le_mul Oo hW
 have ed4:qf l=s+s2+(f+7)/8:=by rw [qf,ed3,← eU,ef];rfl
 refine znm hm fun t9 w5 hm=>zw ?_;refine zS hm 0 ?_;intro w6 hm;have hm:Mem w w6 [(t9,.cells #[ii (vNum l 0:Nat),ii (vNum l 1:Nat),ii (s+s2:Nat),ii 0] 214),(r3,.cells #[ii 0,ii 0] 148),(r2,.cells #[ii 0,ii 0,ii 0,ii 0] 214)]:=hm;(conv=>whnf);refine LoadV.mem (i:=0) Oa rfl rfl (zw ?_);refine zt ?_;have eUi:((vNum l 0:Nat)+16-1:Int)/16=(U:Int):=by omega
 rw [eUi];refine DrawV.own rfl Jk (zw ?_);refine zo ?_;apply StepO.still
 ·intro wd hd;(conv=>whnf);refine LoadV.mem (Mem.call (Mem.drew hm) hd) (i:=0) rfl rfl (zw ?_);exact PostO.still xr rfl
 (conv=>whnf);refine zo ?_;refine zo ?_;apply StepO.still
 ·intro wd hd;(conv=>whnf);refine zcv (qht (vNum l 1) wd hlt1) ?_;rintro v w9 ⟨rfl,rfl⟩;exact PostO.still xr rfl
 (conv=>whnf);apply StepO.still
 ·intro wd hd;(conv=>whnf);rw [efi];refine zv ?_;exact PostO.still xr rfl
 (conv=>whnf);(iterate 4 (refine zo ?_));intro w7 hd7
 (repeat (intro _;(conv=>whnf)))
 (conv=>whnf);refine StoreV.mem (hm.drew.call hd7) (i:=0) rfl (show 3<4 by decide) rfl ?_;intro w8 hm;have e4:(((s+s2:Nat):Int)+((f:Int)+7)/8)=((qf l:Nat):Int):=by omega
 rw [e4] at hm;have edE:dEnd l=qf l+vNum l 1:=rfl;obtain ⟨d4,ed⟩:∃ d4,d4=qf l:=⟨_,rfl⟩
 rw [← ed] at hm edE ed4;conv=>whnf
 (repeat' (first|refine zp ?_|refine zC (fun _=>zw ?_) (fun _=>zw ?_)|refine LoadV.mem (i:=0) Oa rfl rfl (zw ?_)))
 ·have hE:dE l=(l.length,10):=by rw [dE,if_neg hno,if_pos Oo]
  refine zS hm 2 fun wa hm=>zw ?_;refine zS hm 1 fun wb hm=>zw ?_;refine qa (R:=fun r w'=>HdDR l r∧Ext w w') (zw ?_);refine zl hm 2 ?_;refine zl hm 1 ?_;exact ⟨.inl ⟨by rw [hE];simp,by rw [hE];rfl⟩,hm.ext⟩
 ·have hE:dE l=(dEnd l,13):=by rw [dE,if_neg hno,if_neg Oo,if_pos Oo]
  refine DrawV.inv (fun S w'=>Mem w w' [(t9,.cells #[ii (vNum l 0:Nat),ii (vNum l 1:Nat),ii (s+s2:Nat),ii (d4:Nat)] 214),(r3,.cells (bif S 8 then #[ii (dEnd l:Nat),ii 13] else #[ii 0,ii 0]) 148),(r2,.cells #[ii 0,ii 0,ii 0,ii 0] 214)]) rfl Jk hm.drew ?_;clear hm;(conv=>whnf);refine zi ?_;refine zi ?_;refine StepI.of (ii (d4:Nat)) (fun S wd hk hp hI=>zw ?_) (zw ?_)
  ·refine zr hI 0 ?_;exact ⟨rfl,hI⟩
  refine zi ?_;refine StepI.of (ii (vNum l 1:Nat)) (fun S wd hk hp hI=>zw ?_) (zw ?_)
  ·refine zr hI 0 ?_;exact ⟨rfl,hI⟩
  refine zi ?_;refine zi ?_;refine StepI.of undef (fun S wd hk hp hI=>zw ?_) (zw ?_)
  ·refine zS hI 2 fun wx hmx=>zw ?_;exact ⟨rfl,hmx⟩
  refine StepI.of undef (fun S wd hk hp hI=>?_) (zw ?_)
  ·dsimp only at hI;rw [hk] at hI;(conv=>whnf);have e5:((d4:Nat):Int)+((vNum l 1:Nat):Int)=((dEnd l:Nat):Int):=by omega
   rw [e5];refine zS hI 1 fun wx hmx=>zw ?_;exact ⟨rfl,hmx⟩
  intro wz hm;(conv=>whnf);refine qa (R:=fun r w'=>HdDR l r∧Ext w w') (zw ?_);refine zl hm 2 ?_;refine zl hm 1 ?_;exact ⟨.inl ⟨by rw [hE];simp,by rw [hE];rfl⟩,hm.ext⟩
 have hE:dE l=(0,0):=by rw [dE,if_neg hno,if_neg Oo,if_neg Oo]
 refine zl hm 0 ?_;refine zS hm 2 fun wa hm=>zw ?_;refine zS hm 1 fun wb hm=>zw ?_;refine qa (R:=fun r w'=>HdDR l r∧Ext w w') (zw ?_);refine zl hm 2 ?_;refine zl hm 1 ?_;exact ⟨.inr ⟨by rw [hE],by rw [ed3,← ed];rfl⟩,hm.ext⟩
theorem qib (xs:List Nat) (A:oA) (n c i:Nat) (w:World) (hS:SlAt encU 1 w A xs) (hn:xs.length=n) :
  Gv Tryz.prog 110 [.slice A n c,ii i] w fun r w'=>r=.int .u64 (xs.getD i 0)∧w'=w:=by
 refine ze Tryz.func110 Tryz.ntmps110 ?_;refine zC (fun _=>zw ?_) (fun _=>zw ?_)
 ·rw [List.getD_eq_getElem?_getD,List.getElem?_eq_none Oo];exact ⟨rfl,rfl⟩
 ·refine ElemV.sl hS hn i rfl Oo ?_;intro b off hc;(conv=>whnf);refine LoadV.cell0 hc (zw ?_);rw [List.getD_eq_getElem?_getD,zge Oo];exact ⟨rfl,rfl⟩
theorem qto (a b:ByteArray) (w:World) (ha:a.size≤4194304) :
  Gv Tryz.prog 154 [.string a,.string b] w fun r w'=>r=ii (comL a.data.toList b.data.toList)∧Ext w w':=by
 have la:a.data.toList.length=a.size:=rfl;have lb:b.data.toList.length=b.size:=rfl;refine ze Tryz.func154 Tryz.ntmps154 ?_;refine qr (fun i:Nat=>[(0,.string a),(1,.string b),(5,ii i)]) (fun i w'=>i≤a.size∧i≤b.size∧(∀ j,j<i→a.data.toList[j]?=b.data.toList[j]?)∧Ext w w') (fun i=>a.size-i) 0 ⟨rfl,rfl,rfl,trivial⟩ ⟨Nat.zero_le _,Nat.zero_le _,fun j h=>by omega,xr⟩ ?_;rintro i w1 ρ' ⟨i1,i2,i3,he⟩;(conv=>whnf);refine zy ?_
 (repeat' (first|refine zp ?_|refine zC (fun _=>zw ?_) (fun _=>zw ?_)))
 all_goals first
  | exact ⟨i+1,⟨rfl,rfl,rfl,trivial⟩,⟨by omega,by omega,fun j hj=>by
    by_cases e:j=i
    ·subst e;rw [qbv Oo,qbv Oo];exact congrArg some (UInt8.toNat_inj.1 Oo)
    ·exact i3 j Oo,he.drew⟩,by omega⟩
  | exact ⟨by rw [qi9 i3 Oo Oo fun g1 g2=>by omega],he.drew⟩
  | (refine ⟨?_,he.drew⟩;rw [qi9 i3 Oo Oo fun g1 g2=>by
    rw [qbv Oo,qbv Oo];intro e;have:=congrArg UInt8.toNat (Option.some.inj e);omega])
theorem qwn (l:LB) (A:oA) (c p:Nat) (a b:ByteArray) (w:World) (hS:SlAt encB 1 w A l) (hc:l.length≤c) (hl:l.length≤140737488355328) (hp:p≤l.length) (hx:(numL (l.drop p)).1≤4194304) (ha:a.size≤4194304) :
  Gv Tryz.prog 112 [.slice A l.length c,ii p,.string a,.string b] w fun r w'=>r=.bool (decide ((numL (l.drop p)).1=comL a.data.toList b.data.toList))∧Ext w w':=by
 refine ze Tryz.func112 Tryz.ntmps112 ?_;refine SliceV.bs hS rfl p l.length c rfl rfl rfl Oo znr hc znr (fun h=>by cases h) ?_;intro A' hA';rw [List.take_of_length_le (by rw [zld];exact Nat.le_refl _)] at hA';(conv=>whnf);refine zcv (qbj (l.drop p) A' _ _ _ hA' (by rw [zld]) (by rw [zld];omega)) ?_;rintro r w1 ⟨rfl,rfl⟩;obtain ⟨x,ex⟩:∃ x,x=(numL (l.drop p)).1:=⟨_,rfl⟩
 rw [numV,← ex];rw [← ex] at hx;refine zu ?_;refine zcv (qto a b w1 ha) ?_;rintro r w2 ⟨rfl,he⟩;obtain ⟨k,ek⟩:∃ k,k=comL a.data.toList b.data.toList:=⟨_,rfl⟩
 rw [← ek];(conv=>whnf);refine ⟨congrArg Value.bool ?_,he⟩;rw [Bool.eq_iff_iff];simp only [decide_eq_true_eq];omega
def entR (l:LB) (p:Nat) (first:Bool) (last:LB):Value:=
 if (entG (l.drop p) first last).2.2=0 then .tuple #[.string ⟨(entG (l.drop p) first last).1.toArray⟩,ii (p+(entG (l.drop p) first last).2.1:Nat),ii 0]
 else .tuple #[.string ⟨#[]⟩,ii 0,ii (entG (l.drop p) first last).2.2]
theorem qwm {m ahead:LB} {first:Bool} {s:Nat × Nat × Nat} (es:s=if first then (0,0,0) else numL m) (e2:s.2.2=0) :
  entG m first ahead=if (numL (m.drop s.2.1)).2.2≠0 then ([],0,(numL (m.drop s.2.1)).2.2) else if ahead.length<s.1 then ([],0,161) else if 262144<(numL (m.drop s.2.1)).1∨262144<s.1+(numL (m.drop s.2.1)).1 then ([],0,2) else if m.length-s.2.1-(numL (m.drop s.2.1)).2.1<(numL (m.drop s.2.1)).1 then ([],0,10) else (ahead.take s.1++(m.drop (s.2.1+(numL (m.drop s.2.1)).2.1)).take (numL (m.drop s.2.1)).1,s.2.1+(numL (m.drop s.2.1)).2.1+(numL (m.drop s.2.1)).1,0):=by
 unfold entG;rw [← es];dsimp only;rw [if_neg Oo]
theorem qz0 {m ahead:LB} (h:(numL m).2.2≠0):entG m false ahead=([],0,(numL m).2.2):=by
 unfold entG;simp only [Bool.false_eq_true,if_false];rw [if_pos h]
theorem qfm (l:LB) (A:oA) (c p:Nat) (first:Bool) (last:ByteArray) (w:World) (hS:SlAt encB 1 w A l) (hc:l.length≤c) (hl:l.length≤140737488355328) (hp:p≤l.length) (hlast:last.size≤262144) :
  Gv Tryz.prog 111 [.slice A l.length c,ii p,.bool first,.string last] w fun r w'=>r=entR l p first last.data.toList∧Ext w w':=by
 obtain ⟨B,eB⟩:∃ B,B=l.drop p:=⟨_,rfl⟩
 have hBl:B.length=l.length-p:=by rw [eB,zld]
 refine ze Tryz.func111 Tryz.ntmps111 ?_;cases first
 ·refine zv ?_;refine SliceV.bs hS rfl p l.length c rfl rfl rfl Oo znr hc znr (fun h=>by cases h) ?_;intro A' hA';rw [List.take_of_length_le (by rw [zld];exact Nat.le_refl _),← eB] at hA';(conv=>whnf);refine zcv (qbj B A' _ _ _ hA' hBl Oo) ?_;rintro r w3 ⟨rfl,rfl⟩;obtain ⟨q1,eq1⟩:∃ q1,q1=(numL B).2.2:=⟨_,rfl⟩
  obtain ⟨s1,es1⟩:∃ s1,s1=(numL B).2.1:=⟨_,rfl⟩
  obtain ⟨x1,ex1⟩:∃ x1,x1=(numL B).1:=⟨_,rfl⟩
  have hb1:=qao B;rw [← es1,← ex1,hBl] at hb1;rw [numV,← ex1,← es1,← eq1];(conv=>whnf);refine zC (fun _=>zu ?_) (fun _=>zu ?_)
  ·have hent:entG B false last.data.toList=([],0,q1):=by
    rw [qz0 Oo,eq1]
   exact ⟨by rw [entR,← eB,hent,if_neg (by show ¬ q1=0;omega)],xr⟩
  refine SliceV.bs hS rfl (p+s1) l.length c (by first|rfl|(show (_:Int)=_;omega)) rfl rfl Oo znr hc znr (fun h=>by cases h) ?_;intro A2 hA2;rw [List.take_of_length_le (by rw [zld];exact Nat.le_refl _),show l.drop (p+s1)=B.drop s1 from by rw [eB,List.drop_drop]] at hA2;(conv=>whnf);refine zcv (qbj (B.drop s1) A2 _ _ _ hA2 (by rw [zld,hBl];omega) (by rw [zld,hBl];omega)) ?_;rintro r w4 ⟨rfl,rfl⟩;obtain ⟨q2,eq2⟩:∃ q2,q2=(numL (B.drop s1)).2.2:=⟨_,rfl⟩
  obtain ⟨s2,es2⟩:∃ s2,s2=(numL (B.drop s1)).2.1:=⟨_,rfl⟩
  obtain ⟨x2,ex2⟩:∃ x2,x2=(numL (B.drop s1)).1:=⟨_,rfl⟩
  have hb2:=qao (B.drop s1);rw [← es2,← ex2,zld,hBl] at hb2;rw [numV,← ex2,← es2,← eq2];have hE0:=qwm (m:=B) (ahead:=last.data.toList) (first:=false) (s:=(x1,s1,q1)) (by rw [ex1,es1,eq1];rfl) (by show q1=0;omega);dsimp only at hE0;rw [← ex2,← es2,← eq2,hBl] at hE0;have hll:last.data.toList.length=last.size:=rfl;conv=>whnf
  (repeat' (first|refine zp ?_|refine zC (fun _=>zw ?_) (fun _=>zw ?_)))
  ·have hent:entG B false last.data.toList=([],0,q2):=by rw [hE0,if_pos Oo]
   exact ⟨by rw [entR,← eB,hent,if_neg (by show ¬ q2=0;omega)],xr⟩
  ·have hent:entG B false last.data.toList=([],0,161):=by rw [hE0,if_neg Oo,if_pos Oo]
   exact ⟨by rw [entR,← eB,hent,if_neg Js];rfl,xr⟩
  ·have hent:entG B false last.data.toList=([],0,2):=by rw [hE0,if_neg Oo,if_neg Oo,if_pos Oo]
   exact ⟨by rw [entR,← eB,hent,if_neg Js];rfl,xr⟩
  ·have hent:entG B false last.data.toList=([],0,2):=by rw [hE0,if_neg Oo,if_neg Oo,if_pos Oo]
   exact ⟨by rw [entR,← eB,hent,if_neg Js];rfl,xr⟩
  ·have hent:entG B false last.data.toList=([],0,10):=by rw [hE0,if_neg Oo,if_neg Oo,if_neg Oo,if_pos Oo]
   exact ⟨by rw [entR,← eB,hent,if_neg Js];rfl,xr⟩
  have hent:entG B false last.data.toList=(last.data.toList.take x1++(B.drop (s1+s2)).take x2,s1+s2+x2,0):=by rw [hE0,if_neg Oo,if_neg Oo,if_neg Oo,if_neg Oo]
  have hS:=hS.ext (Ext.refl w4).drew;refine zy ?_;refine zv ?_;refine SliceS.at_ 0 x1 rfl (by show (_:Int)=_;omega) Oo Oo (zu ?_);refine SliceV.bs hS rfl (p+s1+s2) (p+s1+s2+x2) c (by show (_:Int)=_;omega) (by show (_:Int)=_;omega) rfl Oo Oo Oo znr (fun h=>by cases h) ?_;intro A3 hA3;refine zu ?_;have ecut:((l.drop (p+s1+s2)).take (p+s1+s2+x2-(p+s1+s2)))=(B.drop (s1+s2)).take x2:=by
   rw [eB,List.drop_drop];congr 1
   ·omega
   ·congr 1;omega
  rw [ecut] at hA3;refine BytesS.sl hA3 (by rw [List.length_take,zld];omega) (zu ?_);have z1:(last.extract 0 x1).size=x1:=by rw [ByteArray.size_extract];omega
  have z2:(⟨((B.drop (s1+s2)).take x2).toArray⟩:ByteArray).size=x2:=by
   show (List.toArray _).size=_;rw [List.size_toArray,List.length_take,zld];omega
  refine Obl.mk (by rw [z1,z2];omega) (zw ?_);have hcat:last.extract 0 x1++⟨((B.drop (s1+s2)).take x2).toArray⟩=(⟨(last.data.toList.take x1++(B.drop (s1+s2)).take x2).toArray⟩:ByteArray):=by
   apply ByteArray.ext;rw [← Array.toList_inj,ByteArray.data_append,ByteArray.data_extract];simp
  rw [hcat];refine zv ?_;refine ⟨?_,xr.drew⟩;have e8:((p:Int)+(s1:Int)+(s2:Int)+(x2:Int))=((p+(s1+s2+x2):Nat):Int):=by omega
  rw [e8,entR,← eB,hent,if_pos rfl]
 ·refine zv ?_;refine SliceV.bs hS rfl (p) l.length c (by first|rfl|(show (_:Int)=_;omega)) rfl rfl Oo znr hc znr (fun h=>by cases h) ?_;intro A2 hA2;rw [List.take_of_length_le (by rw [zld];exact Nat.le_refl _),show l.drop (p)=B.drop 0 from by rw [eB];rfl] at hA2;(conv=>whnf);refine zcv (qbj (B.drop 0) A2 _ _ _ hA2 (by rw [zld,hBl];omega) (by rw [zld,hBl];omega)) ?_;rintro r w4 ⟨rfl,rfl⟩;obtain ⟨q2,eq2⟩:∃ q2,q2=(numL (B.drop 0)).2.2:=⟨_,rfl⟩
  obtain ⟨s2,es2⟩:∃ s2,s2=(numL (B.drop 0)).2.1:=⟨_,rfl⟩
  obtain ⟨x2,ex2⟩:∃ x2,x2=(numL (B.drop 0)).1:=⟨_,rfl⟩
  have hb2:=qao (B.drop 0);rw [← es2,← ex2,zld,hBl] at hb2;rw [numV,← ex2,← es2,← eq2];have hE0:=qwm (m:=B) (ahead:=last.data.toList) (first:=true) (s:=(0,0,0)) rfl rfl;dsimp only at hE0;rw [← ex2,← es2,← eq2,hBl] at hE0;have hll:last.data.toList.length=last.size:=rfl;conv=>whnf
  (repeat' (first|refine zp ?_|refine zC (fun _=>zw ?_) (fun _=>zw ?_)))
  ·have hent:entG B true last.data.toList=([],0,q2):=by rw [hE0,if_pos Oo]
   exact ⟨by rw [entR,← eB,hent,if_neg (by show ¬ q2=0;omega)],xr⟩
  ·have hent:entG B true last.data.toList=([],0,2):=by rw [hE0,if_neg Oo,if_neg Oo,if_pos Oo]
   exact ⟨by rw [entR,← eB,hent,if_neg Js];rfl,xr⟩
  ·have hent:entG B true last.data.toList=([],0,10):=by rw [hE0,if_neg Oo,if_neg Oo,if_neg Oo,if_pos Oo]
   exact ⟨by rw [entR,← eB,hent,if_neg Js];rfl,xr⟩
  have hent:entG B true last.data.toList=(last.data.toList.take 0++(B.drop (0+s2)).take x2,0+s2+x2,0):=by rw [hE0,if_neg Oo,if_neg Oo,if_neg Oo,if_neg Oo]
  have hS:=hS.ext (Ext.refl w4).drew;refine zy ?_;refine zv ?_;refine SliceS.at_ 0 0 rfl (by show (_:Int)=_;omega) Oo Oo (zu ?_);refine SliceV.bs hS rfl (p+s2) (p+s2+x2) c (by show (_:Int)=_;omega) (by show (_:Int)=_;omega) rfl Oo Oo Oo znr (fun h=>by cases h) ?_;intro A3 hA3;refine zu ?_;have ecut:((l.drop (p+s2)).take (p+s2+x2-(p+s2)))=(B.drop (0+s2)).take x2:=by
   rw [eB,List.drop_drop];congr 1
   ·omega
   ·congr 1;omega
  rw [ecut] at hA3;refine BytesS.sl hA3 (by rw [List.length_take,zld];omega) (zu ?_);have z1:(last.extract 0 0).size=0:=by rw [ByteArray.size_extract];omega
  have z2:(⟨((B.drop (0+s2)).take x2).toArray⟩:ByteArray).size=x2:=by
   show (List.toArray _).size=_;rw [List.size_toArray,List.length_take,zld];omega
  refine Obl.mk (by rw [z1,z2];omega) (zw ?_);have hcat:last.extract 0 0++⟨((B.drop (0+s2)).take x2).toArray⟩=(⟨(last.data.toList.take 0++(B.drop (0+s2)).take x2).toArray⟩:ByteArray):=by
   apply ByteArray.ext;rw [← Array.toList_inj,ByteArray.data_append,ByteArray.data_extract];simp
  rw [hcat];refine zv ?_;refine ⟨?_,xr.drew⟩;have e8:((p:Int)+(s2:Int)+(x2:Int))=((p+(0+s2+x2):Nat):Int):=by omega
  rw [e8,entR,← eB,hent,if_pos rfl]
theorem V.Rw.slAt {α:Type} {f:α→Value} {enc:α→List Value} {w0 w:World} {A:oA} {n c:Nat} {e:TypeId} {l:List α} {L:List (Nat × Obj)} (he:∀ x,enc x=[f x]) (h:Rw w0 w (.slice A n c) e 1 n (l.map f) L) (hn:l.length=n):SlAt enc 1 w A l:=by
 refine ⟨fun hne=>?_⟩;obtain ⟨g,rfl,_,_,_,hc⟩:=h.cells (by rw [← hn];exact List.length_pos_iff.2 hne);refine ⟨g,0,rfl,fun j x hx k v hv=>?_⟩;rw [he] at hv;cases k with
 | succ k=>simp at hv
 | zero=>
  simp only [List.getElem?_cons_zero,Option.some.injEq] at hv;subst hv;have:=hc j (f x) (by rw [List.getElem?_map,hx];rfl)
  simpa using this
theorem q5n {α:Type} {f:α→Value} {enc:α→List Value} {w:World} {base e n c:Nat} {A:oA} {l:List α} (he:∀ x,enc x=[f x]) (h:w.ownsRow base e 1 (.slice A n c) n (l.map f)):SlAt enc 1 w A l:=by
 refine ⟨fun hne=>?_⟩
 rcases h.2 with ⟨h1,h2⟩|⟨g,cap,cur,h1,_,h3,_,_,_,h7⟩
 ·have:=h.1;simp [h2] at this;exact absurd this hne
 ·cases h1;refine ⟨g,0,rfl,fun j x hx k v hv=>?_⟩;rw [he] at hv;cases k with
  | succ k=>simp at hv
  | zero=>
   simp only [List.getElem?_cons_zero,Option.some.injEq] at hv;subst hv;have hj:(cur.toList.take (n*1))[j]?=some (f x):=by rw [h7,List.getElem?_map,hx];rfl
   rw [List.getElem?_take] at hj
   split at hj
   ·rw [qd h3]
    simpa using hj
   ·cases hj
theorem qgi {w:World} {b b' e size n:Nat} {v:Value} {xs:List Value} (h:w.ownsRow b' e size v n xs) (hb:b≤b'):w.ownsRow b e size v n xs:=by
 refine ⟨h.1,?_⟩
 rcases h.2 with h|⟨g,cap,cur,h1,h2,h3⟩
 ·exact .inl h
 ·exact .inr ⟨g,cap,cur,h1,Nat.le_trans hb h2,h3⟩
theorem V.Mem.row {w w1 w2:World} {L:List (Nat × Obj)} {base e n:Nat} {v:Value} {xs:List Value} (hm:Mem w w1 L) (he:Ext w1 w2) (ho:w2.ownsRow base e 1 v n xs) (hb:w1.heap.size≤base):∃ R,Mem w w2 (L++R)∧RowB e xs R v:=by
 have hl:=ho.1;rw [Nat.mul_one] at hl
 rcases ho.2 with ⟨h1,h2⟩|⟨g,cap,cur,rfl,h2,h3,h4,h5,h6,h7⟩
 ·refine ⟨[],by rw [List.append_nil];exact hm.call he,⟨.inl ⟨h1,?_⟩⟩⟩;exact List.eq_nil_of_length_eq_zero Oo
 ·refine ⟨[(g,.cells cur e)],?_,⟨.inr ⟨g,cap,cur,by rw [hl],List.mem_cons_self ..,by omega,h5,by rw [Nat.mul_one] at h6;exact h6,by rw [hl];rw [Nat.mul_one] at h7;exact h7⟩⟩⟩;have:=hm.fresh he (Nat.le_trans hb h2) h3;exact this.perm (List.perm_append_comm (l₁:=L) (l₂:=[(g,Obj.cells cur e)]))
theorem V.RowB.slf {α:Type} {f:α→Value} {enc:α→List Value} {w0 w:World} {L R:List (Nat × Obj)} {e:TypeId} {A:oA} {n c:Nat} {l:List α} (hen:∀ x,enc x=[f x]) (h:RowB e (l.map f) R (.slice A n c)) (hm:Mem w0 w L) (hR:∀ x∈R,x∈L):SlAt enc 1 w A l:=by
 refine ⟨fun hne=>?_⟩
 rcases h.h with ⟨_,h0⟩|⟨g,cap,cur,hv,hg,h1,_,_,h4⟩
 ·simp at h0;exact absurd h0 hne
 ·cases hv;refine ⟨g,0,rfl,fun j x hx k u hu=>?_⟩;rw [hen] at hu;cases k with
  | succ k=>simp at hu
  | zero=>
   simp only [List.getElem?_cons_zero,Option.some.injEq] at hu;subst hu;have hj:(cur.toList.take (l.map f).length)[j]?=some (f x):=by rw [h4,List.getElem?_map,hx];rfl
   rw [List.getElem?_take] at hj
   split at hj
   ·rw [qd (hm.get (hR _ hg))]
    simpa using hj
   ·cases hj
theorem qro (xs:List Nat) (A:oA) (n c:Nat) (w:World) (hS:SlAt encU 1 w A xs) (hn:xs.length=n) (hx:∀ x∈xs,x<18446744073709551616) (hb:n≤4194304) :
  Gv Tryz.prog 117 [.slice A n c] w fun r w'=>r=ii (wMx xs n)∧w'=w:=by
 refine ze Tryz.func117 Tryz.ntmps117 ?_;refine qr (fun x:Nat × Nat=>[(0,.slice A n c),(3,ii x.2),(4,ii x.1)]) (fun x w'=>x.1≤n∧x.2≤64∧x.2=wMx xs x.1∧w'=w) (fun x=>n-x.1) (0,0) ⟨rfl,rfl,rfl,trivial⟩ ⟨Nat.zero_le _,by simp,rfl,rfl⟩ ?_;rintro ⟨i,m⟩ w1 ρ' ⟨i1,m1,m2,rfl⟩;dsimp only at i1 m1 m2 ⊢;(conv=>whnf);refine zC (fun _=>zw ?_) (fun _=>zw ?_)
 ·refine ElemV.sl hS hn i rfl Oo ?_;intro b off hc;(conv=>whnf);refine LoadV.cell0 hc (zw ?_);have hxi:=hx _ (List.getElem_mem (l:=xs) (n:=i) Oo);refine zcv (qht xs[i] _ hxi) ?_;rintro r w2 ⟨rfl,rfl⟩;have hw:=qd7 64 xs[i] (by simpa using hxi) Od;(conv=>whnf);refine V.Fall.max2 rfl rfl rfl fun q hq=>?_;obtain ⟨q',rfl⟩:∃ q':Nat,q=(q':Int):=⟨q.toNat,by omega⟩
  refine zu ?_;have hq2:q'=wMx xs (i+1):=by
   rw [wMx,List.getD_eq_getElem?_getD,zge Oo,Option.getD_some,← m2];omega
  exact ⟨(i+1,q'),⟨rfl,rfl,rfl,trivial⟩,⟨by simp only;omega,by simp only;omega,hq2,rfl⟩,by simp only;omega⟩
 ·obtain rfl:i=n:=by omega
  exact ⟨by rw [m2],rfl⟩
def encO (b:Bool):List Value:=[.bool b]
def bitL (l:LB) (n:Nat):List Bool:=(List.range n).map fun i=>decide (bitN (vD l) i=1)
theorem q6b:Tryz.prog.underlying 159=some (.slice 4):=Tryz.underlying159
theorem booI:Tryz.prog.info? 4=some ((Tryz.prog.info? 4).get Jk):=(Option.some_get _).symm
theorem booZ:((Tryz.prog.info? 4).get Jk).zero=some (.bool false):=by kernel_rfl
theorem qtl (l:LB) (A:oA) (n c:Nat) (w:World) (hS:SlAt encB 1 w A l) (hn:l.length=n) (hc:n≤c) (h8:8≤l.length) (hv:vN l≤67108864) (hg:qn (vN l)≤l.length) (hl:l.length≤67108864) :
  Gv Tryz.prog 158 [.slice A n c] w fun v w'=>w'.ownsRow w.heap.size 4 1 v (vN l) ((bitL l (vN l)).map Value.bool)∧Ext w w':=by
 have hgg:qn (vN l)=8+upN (vN l) 8:=rfl;have hdl:(vD l).length=upN (vN l) 8:=by rw [vD,List.length_take,zld];omega
 have hun:vN l≤8*(vD l).length:=by rw [hdl];unfold upN;omega
 refine ze Tryz.func158 Tryz.ntmps158 ?_;refine zcv (qch l A n c w hS hn h8 Oo) ?_;rintro r w1 ⟨rfl,he1⟩;(conv=>whnf);refine zcv (qn6 l A n c w1 (hS.ext he1) hn hc h8 hv hg Oo) ?_;rintro r w2 ⟨⟨B,d,rfl,hD⟩,he2⟩;(conv=>whnf);refine qr (fun x:Nat × oA × Nat=>[(3,ii (vN l)),(5,.slice B (upN (vN l) 8) d),(6,.slice x.2.1 x.1 x.2.2),(7,ii x.1)])
  (fun x w'=>x.1≤vN l∧Rw w2 w' (.slice x.2.1 x.1 x.2.2) 4 1 x.1 ((bitL l x.1).map Value.bool) []) (fun x=>vN l-x.1) (0,none,0) ⟨rfl,rfl,rfl,rfl,trivial⟩ ⟨Nat.zero_le _,Rw.nil (Mem.nil w2)⟩ ?_
 rintro ⟨i,C,cc⟩ w3 ρ' ⟨i1,hR⟩;dsimp only at i1 hR ⊢;(conv=>whnf);refine zC (fun _=>zw ?_) (fun _=>zw ?_)
 ·refine zcv (qey (vD l) B _ d i _ (hD.ext hR.mem.ext) hdl Oo Oo) ?_;rintro r w4 ⟨rfl,rfl⟩;(conv=>whnf);refine NewV.rw hR fun nb w5 hR5=>zw ?_;refine AppV.one q6b booI booZ Jk rfl (by decide +kernel) hR5 rfl Oo ?_;intro B' d' w6 hR6;refine zu ?_;refine ⟨(i+1,B',d'),⟨rfl,rfl,rfl,rfl,trivial⟩,⟨by simp only;omega,?_⟩,by simp only;omega⟩;have e:(bitL l (i+1)).map Value.bool=(bitL l i).map Value.bool++[.bool (decide (bitN (vD l) i=1))]:=by
   simp only [bitL,List.range_succ,List.map_append,List.map_cons,List.map_nil]
  simp only;rw [e];exact hR6
 ·obtain rfl:i=vN l:=by omega
  exact ⟨qgi hR.own (he1.trans he2).size,he1.trans (he2.trans hR.mem.ext)⟩
def VcR (l:LB) (k base:Nat) (v:Value) (w:World):Prop:=
 ((vcE l k).2≠0∧(vcE l k).1≤1125899906842624∧v=.tuple #[.slice none 0 0,fltV (vcE l k).1 (vcE l k).2])∨
 ((vcE l k).2=0∧LvlV l k∧∃ B cb,v=.tuple #[.slice B (vNum l k) cb,fltV 0 0]∧w.ownsRow base 4 1 (.slice B (vNum l k) cb) (vNum l k) ((bitL (qi l k) (vNum l k)).map Value.bool))
theorem VcR.err {l:LB} {k base:Nat} {w:World} {a e:Nat} {x y:Int} (h:vcE l k=(a,e)) (h0:e≠0) (hb:a≤1125899906842624) (h1:x=a) (h2:y=e):VcR l k base (.tuple #[.slice none 0 0,.agg #[ii x,ii y]]) w:=by
 subst h1 h2;refine .inl ?_;rw [h];exact ⟨h0,hb,rfl⟩
theorem qpp (l:LB) (A:oA) (c k:Nat) (F:Nat→Int) (w:World) (hS:SlAt encB 1 w A l) (hc:l.length≤c) (hl:l.length≤67108864) (hF:HdF l F) (hT:(tE l).2=0) (hk:1≤k) (hk3:k≤3) :
  Gv Tryz.prog 118 [.slice A l.length c,hdV F,ii k] w fun v w'=>VcR l k w.heap.size v w'∧Ext w w':=by
 have ht0:(errF (tcF l) 4).2=0∧(errF (tvF l) 4).2=0:=by
  rw [tE] at hT
  split at hT
  ·rename_i h;exact absurd hT h
  ·split at hT
   ·rename_i h;exact absurd hT h
   ·constructor<;>omega
 have hz:=qay ht0.1;have hv:=qay ht0.2;obtain ⟨z1,z2,z3⟩:=qkp (hv k Oo);have hnk:=qfk (hz k Oo);have hnk1:=qfk (hz (k-1) Oo);have hmo:=qnm (hz k Oo) Oo;have hvl:=qkt (vNum l k) (vNum l (k-1)) Oo hmo;have t2:tEnd l k≤tvAt l (k+1):=by rw [qa9];omega
 have lenB:(qi l k).length=tvAt l (k+1)-tEnd l k:=by rw [qi,List.length_take,zld];omega
 have hnx:tvAt l (k+1)=tEnd l k+qal (vNum l k) (vNum l (k-1)):=by rw [qa9,if_neg Oo]
 refine ze Tryz.func118 Tryz.ntmps118 ?_;refine znm (Mem.nil w) fun hb w1 hm=>zw ?_;refine znm hm ?_;intro rb w2 hm;have hm:Mem w w2 [(rb,.cells #[ii 0,ii 0] 92),(hb,.cells (fnA 13 (inF F)) 155)]:=hm;refine zu ?_;refine LoadV.fi (x:=((tEnd l k:Nat):Int)) hm (i:=1) rfl (8+k) (by rw [show tsz Tryz.prog 3=1 from by kernel_rfl];dsimp only;omega) Oo (hF.v k Oo) (zw ?_);refine DrawV.free Jk Jk (zw ?_);(iterate 4 (refine zd ?_));apply zsd
 ·intro wd hd;(conv=>whnf);refine LoadV.fi (x:=((vNum l k:Nat):Int)) (Mem.call (Mem.drew hm) hd) (i:=1) rfl k (by rw [show tsz Tryz.prog 3=1 from by kernel_rfl];dsimp only;omega) Oo (hF.c k Oo) (zw ?_);exact ⟨xr,rfl⟩
 (conv=>whnf);(iterate 3 (refine zd ?_));apply zsd
 ·intro wd hd;(conv=>whnf);refine IdxV.at_ (k-1) Oo Oo (zw ?_);exact ⟨xr,rfl⟩
 (conv=>whnf);apply zsd
 ·intro wd hd;(conv=>whnf);refine LoadV.fi (x:=((vNum l (k-1):Nat):Int)) (Mem.call (Mem.drew hm) hd) (i:=1) rfl (k-1) (by rw [show tsz Tryz.prog 3=1 from by kernel_rfl];dsimp only;omega) Oo (hF.c (k-1) Oo) (zw ?_);exact ⟨xr,rfl⟩
 (conv=>whnf);apply zsd
 ·intro wd hd;(conv=>whnf);refine zcv (qhs (vNum l k) (vNum l (k-1)) wd Oo hmo) ?_;rintro v w9 ⟨rfl,h9⟩;exact ⟨h9,rfl⟩
 (conv=>whnf);refine zd ?_;refine zd ?_;intro w3 he3
 (repeat (intro _ _;(conv=>whnf)))
 (conv=>whnf);have hm:=hm.drew.call he3;refine SliceV.to (tEnd l k) (tvAt l (k+1)) c rfl (by show (_:Int)=_;omega) rfl Oo Oo znr (fun h=>by cases h) ?_;obtain ⟨B,eB⟩:∃ B,B=(if c=tEnd l k then A else A.map (·.add (tEnd l k*1))):=⟨_,rfl⟩
 have hB0:SlAt encB 1 w B (qi l k):=by rw [eB];exact hS.cut (m:=c) Oo Oo Oo rfl
 rw [show tsz Tryz.prog 5=1 from by kernel_rfl,← eB];have hB:=hB0.ext hm.ext;have hv8:8≤qal (vNum l k) (vNum l (k-1)):=by unfold qal qaq q7 qn;omega
 (conv=>whnf);refine zcv (qch (qi l k) B _ _ w3 hB lenB Oo Oo) ?_;rintro r w4 ⟨rfl,he4⟩;have hm:=hm.call he4;have hB:=hB.ext he4;refine zu ?_;refine LoadV.fi (x:=((vNum l k:Nat):Int)) hm (i:=1) rfl k (by rw [show tsz Tryz.prog 3=1 from by kernel_rfl];dsimp only;omega) Oo (hF.c k Oo) (zw ?_);refine zC (fun _=>zu ?_) (fun _=>zu ?_)
 ·refine zS hm 0 fun w9 hm=>zw ?_;refine qa (R:=fun v w'=>VcR l k w.heap.size v w'∧Ext w w') (zw ?_);refine zl hm 0 ?_;exact ⟨.err (qpo (qyv Oo)) Od Oo Oo rfl,hm.ext⟩
 refine IdxV.at_ (k-1) Oo Oo (zu ?_);refine LoadV.fi (x:=((vNum l (k-1):Nat):Int)) hm (i:=1) rfl (k-1) (by rw [show tsz Tryz.prog 3=1 from by kernel_rfl];dsimp only;omega) Oo (hF.c (k-1) Oo) (zw ?_);refine zt ?_;refine zC (fun _=>zw ?_) (fun _=>zw ?_)
 ·refine zS hm 0 fun w9 hm=>zw ?_;refine qa (R:=fun v w'=>VcR l k w.heap.size v w'∧Ext w w') (zw ?_);refine zl hm 0 ?_;exact ⟨.err (qpo (qyv Oo)) Od Oo Oo rfl,hm.ext⟩
 have e1:vN (qi l k)=vNum l k:=by omega
 have e2:vM (qi l k)=vNum l (k-1):=by omega
 have hvk:vOk (qi l k)=true:=by
  simp only [vOk,Bool.and_eq_true,decide_eq_true_eq];rw [e1,e2,lenB,hnx];exact ⟨⟨⟨by omega,by omega⟩,by omega⟩,by omega⟩
 have hvt:tVec l k=true:=by
  simp only [tVec,Bool.and_eq_true,decide_eq_true_eq];exact ⟨⟨hvk,e1⟩,e2⟩
 have hvbd:=qy8 (qi l k);rw [e1,e2] at hvbd;refine zcv (qvg (qi l k) B _ _ w4 hB lenB Oo Oo hvk) ?_;rintro r w5 ⟨hvr,he5⟩
 by_cases hvz:(voE (qi l k)).2=0
 case neg=>
  have hvc:=qte hvt hvz;obtain ⟨a,ea⟩:∃ a:Nat,a=(voE (qi l k)).1:=⟨_,rfl⟩
  obtain ⟨e,ee⟩:∃ e:Nat,e=(voE (qi l k)).2:=⟨_,rfl⟩
  have hvr:r=.agg #[ii a,ii e]:=by rw [ea,ee];exact hvr
  subst hvr;rw [← ea,← ee] at hvc;rw [← ee] at hvz;rw [← ea] at hvbd;have he0:(e:Int)≠0:=by omega
  have hm:=hm.call he5;(conv=>whnf);refine znm hm fun fb w6 hm=>zw ?_;refine zS hm 0 fun w7 hm=>zw ?_;refine zr hm 0 ?_;refine zv ?_;have hte:tEnd l k≤l.length:=by omega
  refine DrawV.inv (fun S w'=>Mem w w' [(fb,.cells #[ii a,ii e] 273),(rb,.cells (bif S 8 then #[ii (((tEnd l k:Nat):Int)+a),ii e] else #[ii 0,ii 0]) 92),(hb,.cells (fnA 13 (inF F)) 155)]) rfl Jk hm.drew ?_;clear hm;(conv=>whnf);refine zi ?_;refine zi ?_;refine StepI.of (ii a) (fun S wd hk hp hI=>zw ?_) (zw ?_)
  ·refine zr hI 0 ?_;exact ⟨rfl,hI⟩
  refine zi ?_;refine zi ?_;refine StepI.of (ii e) (fun S wd hk hp hI=>zw ?_) (zw ?_)
  ·refine zr hI 0 ?_;exact ⟨rfl,hI⟩
  refine zi ?_;refine zi ?_;refine StepI.of undef (fun S wd hk hp hI=>?_) (zw ?_)
  ·dsimp only at hI;rw [hk] at hI;(conv=>whnf);refine zS hI 1 fun wx hmx=>zw ?_;exact ⟨rfl,hmx⟩
  intro w12 hm;(conv=>whnf);refine qa (R:=fun v w'=>VcR l k w.heap.size v w'∧Ext w w') (zw ?_);refine zl hm 1 ?_;exact ⟨.err hvc hvz Oo Oo rfl,hm.ext⟩
 have hvo:=VecOk.voE hvk hvz;have hvr:r=fltV 0 0:=by rw [hvr,q52 hvz];rfl
 subst hvr;have hm:=hm.call he5;have hB:=hB.ext he5;(conv=>whnf);refine znm hm fun fb w6 hm=>zw ?_;refine zS hm 0 fun w7 hm=>zw ?_;refine zr hm 0 ?_;refine zv ?_;have hm:=hm.sub (List.sublist_cons_self ..);have hgl:qn (vN (qi l k))≤(qi l k).length:=by rw [e1,lenB,hnx];unfold qal qaq q7;omega
 refine zcv (qtl (qi l k) B _ _ w7 (hB0.ext hm.ext) lenB Oo Oo Oo hgl Oo) ?_;rintro r w8 ⟨hO,he8⟩;obtain ⟨C,cb,rfl⟩:=qjy hO;have hO1:=qgi hO hm.ext.size;have hm:=hm.call he8;rw [e1] at hO1;rw [e1];have hC:SlAt encO 1 w8 C (bitL (qi l k) (vNum l k)):=q5n (fun _=>rfl) hO1;have hCl:(bitL (qi l k) (vNum l k)).length=vNum l k:=by simp [bitL]
 (conv=>whnf);refine zC (fun _=>zu ?_) (fun _=>zu ?_)
 ·refine ElemV.sl hC hCl (vNum l k-1) Oo Oo ?_;intro eb eo hcell;have hbv:(bitL (qi l k) (vNum l k))[vNum l k-1]' Oo=decide (bitN (vD (qi l k)) (vNum l k-1)=1):=by simp [bitL]
  rw [hbv] at hcell;refine zu ?_;refine LoadV.cell0 hcell (zw ?_);refine zt ?_;refine zC (fun _=>zw ?_) (fun _=>zw ?_)
  ·have hlast:bitN ((qi l k).drop 8) (vNum l k-1)=1:=by
    have hq:bitN (vD (qi l k)) (vNum l k-1)=1:=by assumption
    rw [vD,qdf _ _ _ (by rw [e1];unfold upN;omega)] at hq;exact hq
   refine StoreA.same (hm.get mh) rfl Od ?_;intro w9 he9;have hm:=hm.call he9;(conv=>whnf);refine qa (R:=fun v w'=>VcR l k w.heap.size v w'∧Ext w w') (zw ?_);refine zl hm 0 ?_;exact ⟨.inr ⟨by rw [qtd hvt hvz fun _=>hlast],⟨hvo,e1,e2,fun _=>hlast⟩,C,cb,rfl,qb3 hO1 he9⟩,hm.ext⟩
  ·have hlast:bitN ((qi l k).drop 8) (vNum l k-1)≠1:=by
    have hq:¬ bitN (vD (qi l k)) (vNum l k-1)=1:=by assumption
    rw [vD,qdf _ _ _ (by rw [e1];unfold upN;omega)] at hq;exact hq
   refine zS hm 0 fun w9 hm=>zw ?_;refine qa (R:=fun v w'=>VcR l k w.heap.size v w'∧Ext w w') (zw ?_);refine zl hm 0 ?_;exact ⟨.err (qnv hvt hvz Oo hlast) Od Oo Oo rfl,hm.ext⟩
 ·refine StoreA.same (hm.get mh) rfl Od ?_;intro w9 he9;have hm:=hm.call he9;(conv=>whnf);refine qa (R:=fun v w'=>VcR l k w.heap.size v w'∧Ext w w') (zw ?_);refine zl hm 0 ?_;exact ⟨.inr ⟨by rw [qtd hvt hvz fun h=>by omega],⟨hvo,e1,e2,fun h=>by omega⟩,C,cb,rfl,qb3 hO1 he9⟩,hm.ext⟩
theorem OpR.ext {p:LB} {n wd base:Nat} {v:Value} {w w':World} (h:OpR p n wd base v w) (he:Ext w w'):OpR p n wd base v w':=by
 rcases h with h|h|⟨h1,h2,b,h3,h4,h5⟩
 ·exact .inl h
 ·exact .inr (.inl h)
 ·exact .inr (.inr ⟨h1,h2,b,h3,h4,he.get h5⟩)
theorem OpR.base {p:LB} {n wd base b':Nat} {v:Value} {w:World} (h:OpR p n wd b' v w) (hb:base≤b'):OpR p n wd base v w:=by
 rcases h with h|h|⟨h1,h2,b,h3,h4,h5⟩
 ·exact .inl h
 ·exact .inr (.inl h)
 ·exact .inr (.inr ⟨h1,h2,b,h3,Nat.le_trans hb h4,h5⟩)
def OpS (p:LB) (n wd base:Nat) (v:Value) (w:World):Prop:=
 (opE p n wd≠0∧v=.slice none 0 0)∨(opE p n wd=0∧wd=0∧v=.slice none 0 0)∨
 (opE p n wd=0∧wd≠0∧∃ b,v=.slice (some ⟨b,0,none⟩) n n∧base≤b∧w.heap[b]?=some (.cells (unpV p n wd).toArray 116))
theorem OpS.ext {p:LB} {n wd base:Nat} {v:Value} {w w':World} (h:OpS p n wd base v w) (he:Ext w w'):OpS p n wd base v w':=by
 rcases h with h|h|⟨h1,h2,b,h3,h4,h5⟩
 ·exact .inl h
 ·exact .inr (.inl h)
 ·exact .inr (.inr ⟨h1,h2,b,h3,h4,he.get h5⟩)
theorem OpR.split {p:LB} {n wd base:Nat} {v:Value} {w:World} (h:OpR p n wd base v w):∃ A k c,v=.tuple #[.slice A k c,ii (opE p n wd)]∧OpS p n wd base (.slice A k c) w:=by
 rcases h with ⟨h1,h2⟩|⟨h1,h2,h3⟩|⟨h1,h2,b,h3,h4⟩
 ·exact ⟨none,0,0,h2,.inl ⟨h1,rfl⟩⟩
 ·exact ⟨none,0,0,by rw [h1];exact h3,.inr (.inl ⟨h1,h2,rfl⟩)⟩
 ·exact ⟨some ⟨b,0,none⟩,n,n,by rw [h1];exact h3,.inr (.inr ⟨h1,h2,b,rfl,h4⟩)⟩
theorem OpS.slice {p:LB} {n wd base:Nat} {v:Value} {w:World} (h:OpS p n wd base v w):∃ A k c,v=.slice A k c:=by
 rcases h with ⟨_,rfl⟩|⟨_,_,rfl⟩|⟨_,_,b,rfl,_⟩
 ·exact ⟨_,_,_,rfl⟩
 ·exact ⟨_,_,_,rfl⟩
 ·exact ⟨_,_,_,rfl⟩
theorem qiz (p:LB) (n wd:Nat):(unpV p n wd).length=n:=by simp [unpV,unpN]
theorem qbq (p:LB) (n wd:Nat):(unpN p n wd).length=n:=by simp [unpN]
theorem qy1 {p:LB} {n wd x:Nat} (h:x∈unpN p n wd):x<2 ^ wd:=by
 obtain ⟨i,_,rfl⟩:=List.mem_map.1 h;exact qkr _ _ _
theorem q08 {w0 w w':World} {v:Value} {e:TypeId} {n:Nat} {xs:List Value} {L:List (Nat × Obj)} (hm:Mem w0 w L) (he:Ext w w') (h:w'.ownsRow w.heap.size e 1 v n xs):Rw w0 w' v e 1 n xs L:=by
 refine ⟨hm.call he,⟨h.1,h.2.imp id fun ⟨g,cap,cur,e1,hb,r⟩=>⟨g,cap,cur,e1,Nat.le_trans hm.ext.size hb,r⟩⟩,fun x hx e=>?_⟩;have h1:=(h.lt x.1 e).1;have h2:=hm.lt (b:=x.1) (o:=x.2) hx;omega
theorem qy2 (p:LB) {i n:Nat} (h:i<n):(unpV p n 0).take (i+1)=(unpV p n 0).take i++[.int .u64 0]:=by
 rw [List.take_add_one,unpV,unpN,List.getElem?_map,List.getElem?_map,List.getElem?_range h];rfl
theorem q6p:Tryz.prog.underlying 158=some (.slice 116):=Tryz.underlying158
theorem u64I:Tryz.prog.info? 116=some ((Tryz.prog.info? 116).get Jk):=(Option.some_get _).symm
theorem u64Z:((Tryz.prog.info? 116).get Jk).zero=some (.int .u64 0):=by kernel_rfl
theorem OpS.rw {p:LB} {n wd k c:Nat} {A:oA} {w0 w1 w2:World} {L:List (Nat × Obj)} (h:OpS p n wd w1.heap.size (.slice A k c) w2) (hE:opE p n wd=0) (hn:n≤4194304) (hm:Mem w0 w1 L) (he:Ext w1 w2) :
  Rw w0 w2 (.slice A k c) 116 1 k ((unpV p n wd).take k) L∧k≤n∧(wd≠0→k=n):=by
 rcases h with ⟨h1,h2⟩|⟨h1,h2,h3⟩|⟨h1,h2,b,h3,h4,h5⟩
 ·exact absurd hE h1
 ·cases h3;exact ⟨by rw [List.take_zero];exact Rw.nil (hm.call he),by omega,fun h=>absurd h2 h⟩
 ·cases h3;refine ⟨q08 hm he ⟨by simp [qiz],.inr ⟨b,n,_,rfl,h4,h5,Nat.le_refl _,by simp only [maxLen];omega,by simp [qiz],?_⟩⟩,Nat.le_refl _,fun _=>rfl⟩;simp [List.take_of_length_le,qiz]
theorem V.Rw.rowB {w0 w:World} {v:Value} {e:TypeId} {n:Nat} {xs:List Value} {L:List (Nat × Obj)} (h:Rw w0 w v e 1 n xs L):∃ R,Mem w0 w (L++R)∧RowB e xs R v:=by
 have hl:=h.own.1;rw [Nat.mul_one] at hl
 rcases h.own.2 with ⟨h1,h2⟩|⟨g,cap,cur,rfl,h2,h3,h4,h5,h6,h7⟩
 ·refine ⟨[],by rw [List.append_nil];exact h.mem,⟨.inl ⟨h1,?_⟩⟩⟩;exact List.eq_nil_of_length_eq_zero Oo
 ·refine ⟨[(g,.cells cur e)],?_,⟨.inr ⟨g,cap,cur,by rw [hl],List.mem_cons_self ..,by omega,h5,by rw [Nat.mul_one] at h6;exact h6,by rw [hl];rw [Nat.mul_one] at h7;exact h7⟩⟩⟩;have:Mem w0 w ((g,.cells cur e)::L):=by
   refine ⟨h.mem.ext,fun x hx=>?_,?_⟩
   ·rcases List.mem_cons.1 hx with rfl|hx
    ·exact ⟨h2,h3⟩
    ·exact h.mem.own x hx
   ·simp only [List.map_cons,List.nodup_cons];refine ⟨fun hm=>?_,h.mem.nodup⟩;obtain ⟨x,hx,e⟩:=List.mem_map.1 hm;exact h.apart x hx (by rw [e];rfl)
  exact this.perm (List.perm_append_comm (l₁:=L) (l₂:=[(g,Obj.cells cur e)]))
theorem V.RowB.left {e:TypeId} {xs:List Value} {L R:List (Nat × Obj)} {v:Value} (h:RowB e xs R v):RowB e xs (L++R) v:=h.keep fun _ hy _=>List.mem_append_right _ hy
theorem V.RowB.right {e:TypeId} {xs:List Value} {L R:List (Nat × Obj)} {v:Value} (h:RowB e xs L v):RowB e xs (L++R) v:=h.keep fun _ hy _=>List.mem_append_left _ hy
theorem V.RowB.more {e:TypeId} {xs:List Value} {R:List (Nat × Obj)} {x:Nat × Obj} {v:Value} (h:RowB e xs R v):RowB e xs (x::R) v:=h.keep fun _ hy _=>zmc hy
def LvR (l:LB) (k:Nat) (w0:World) (v:Value) (w:World):Prop:=
 (Ext w0 w∧(lvE l k).2≠0∧(lvE l k).1≤1125899906842624∧∃ (A1:oA) (n1 c1:Nat) (A2:oA) (n2 c2:Nat),v=.tuple #[.agg #[.slice A1 n1 c1,.slice A2 n2 c2],fltV (lvE l k).1 (lvE l k).2])∨
 ((lvE l k).2=0∧(0<k→LvlV l k)∧∃ A ca B nb cb R bs,v=.tuple #[.agg #[.slice A (vNum l k) ca,.slice B nb cb],fltV 0 0]∧Mem w0 w R∧RowB 116 (unpV (qj l k) (vNum l k) (tw l k)) R (.slice A (vNum l k) ca)∧RowB 4 (bs.map Value.bool) R (.slice B nb cb)∧(0<k→nb=vNum l k∧bs=bitL (qi l k) (vNum l k)))
theorem LvR.err {l:LB} {k:Nat} {w0 w:World} {A1 A2:oA} {n1 c1 n2 c2:Nat} {a e:Nat} {x y:Int} (hx:Ext w0 w) (h:lvE l k=(a,e)) (h0:e≠0) (hb:a≤1125899906842624) (h1:x=a) (h2:y=e) :
  LvR l k w0 (.tuple #[.agg #[.slice A1 n1 c1,.slice A2 n2 c2],.agg #[ii x,ii y]]) w:=by
 subst h1 h2;refine .inl ⟨hx,?_⟩;rw [h];exact ⟨h0,hb,A1,n1,c1,A2,n2,c2,rfl⟩
theorem qfv {l:LB} {k i:Nat} (h:i<(unpN (qj l k) (vNum l k) (tw l k)).length):(unpN (qj l k) (vNum l k) (tw l k))[i]=tX l k i:=by simp [unpN,tX]
theorem qpf {l:LB} (hT:(tE l).2=0):(∀ k,k<4→(tcF l k).2=0)∧∀ k,k<4→(tvF l k).2=0:=by
 have ht0:(errF (tcF l) 4).2=0∧(errF (tvF l) 4).2=0:=by
  rw [tE] at hT
  split at hT
  ·rename_i h;exact absurd hT h
  ·split at hT
   ·rename_i h;exact absurd hT h
   ·constructor<;>omega
 exact ⟨qay ht0.1,qay ht0.2⟩
theorem quc (l:LB) (A:oA) (c k:Nat) (F:Nat→Int) (w:World) (hS:SlAt encB 1 w A l) (hc:l.length≤c) (hl:l.length≤67108864) (hF:HdF l F) (hT:(tE l).2=0) (hk3:k<4) :
  Gv Tryz.prog 62 [.slice A l.length c,hdV F,ii k] w fun v w'=>LvR l k w v w':=by
 obtain ⟨hz,hv⟩:=qpf hT;obtain ⟨z1,z2,z3⟩:=qkp (hv k hk3);have hnk:=qfk (hz k hk3);have t1:tvAt l k+1≤tEnd l k:=by show _≤tvAt l k+1+_;omega
 have t2:tEnd l k≤tvAt l (k+1):=by rw [qa9];omega
 have lenP:(qj l k).length=tEnd l k-(tvAt l k+1):=by rw [qj,List.length_take,zld];omega
 have lenP2:(qj l k).length=(vNum l k*tw l k+7)/8:=by rw [lenP];show tvAt l k+1+(vNum l k*tw l k+7)/8-_=_;omega
 have hvec:=fun w' (hS':SlAt encB 1 w' A l) (h1:1≤k)=>qpp l A c k F w' hS' hc hl hF hT h1 Oo
 refine ze Tryz.func62 Tryz.ntmps62 ?_;refine znm (Mem.nil w) ?_;intro hb w1 hm;have hm:Mem w w1 [(hb,.cells (fnA 13 (inF F)) 155)]:=hm;(conv=>whnf);refine znm hm fun r6 w2 hm=>zw ?_;refine znm hm fun r7 w3 hm=>zu ?_;refine LoadV.fi (x:=((tvAt l k:Nat):Int)) hm (i:=2) rfl (4+k) (by rw [show tsz Tryz.prog 3=1 from by kernel_rfl];dsimp only;omega) Oo (hF.w k Oo) (zw ?_);refine ElemV.bs (hS.ext hm.ext) rfl (tvAt l k) rfl Oo ?_;intro eb eo hc1;have hw:l[tvAt l k].toNat=tw l k:=by rw [tw,List.getD_eq_getElem?_getD,zge z1];rfl
 have hwb:tw l k<256:=by rw [← hw];exact qv _
 rw [hw] at hc1;(conv=>whnf);refine LoadV.of hc1 (zu ?_);refine znm hm fun lb w4 hm=>zw ?_;refine zS hm 0 fun w5 hm=>zw ?_;obtain ⟨P,eP⟩:∃ P,P=(if c=tvAt l k+1 then A else A.map (·.add ((tvAt l k+1)*1))):=⟨_,rfl⟩
 have hP:SlAt encB 1 w P (qj l k):=by rw [eP];exact hS.cut (m:=c) Oo Oo Oo rfl
 obtain ⟨E,eE⟩:∃ E:Nat,E=opE (qj l k) (vNum l k) (tw l k):=⟨_,rfl⟩
 refine DrawV.free Jk Jk (zw ?_);(iterate 6 (refine zd ?_));apply zsd
 ·intro wd hd;(conv=>whnf);refine LoadV.fi (x:=((tEnd l k:Nat):Int)) (Mem.call (Mem.drew hm) hd) (i:=3) rfl (8+k) (by rw [show tsz Tryz.prog 3=1 from by kernel_rfl];dsimp only;omega) Oo (hF.v k Oo) (zw ?_);exact ⟨xr,rfl⟩
 (conv=>whnf);refine zsd (.slice P (tEnd l k-(tvAt l k+1)) (c-(tvAt l k+1))) (fun wd hd=>zw ?_) (zw ?_)
 ·refine SliceV.to (tvAt l k+1) (tEnd l k) c (by show (_:Int)=_;omega) rfl rfl Oo Oo znr (fun h=>by cases h) ?_;rw [show tsz Tryz.prog 5=1 from by kernel_rfl,← eP];(conv=>whnf);exact ⟨xr,rfl⟩
 (iterate 3 (refine zd ?_));apply zsd
 ·intro wd hd;(conv=>whnf);refine LoadV.fi (x:=((vNum l k:Nat):Int)) (Mem.call (Mem.drew hm) hd) (i:=3) rfl k (by rw [show tsz Tryz.prog 3=1 from by kernel_rfl];dsimp only;omega) Oo (hF.c k Oo) (zw ?_);exact ⟨xr,rfl⟩
 (conv=>whnf);refine zd ?_;apply StepD.of (fun v wx=>OpR (qj l k) (vNum l k) (tw l k) w5.heap.size v wx) (fun _ _ _ h he=>h.ext he)
 ·intro wd hd;(conv=>whnf);have:=qo3 (qj l k) P (c-(tvAt l k+1)) (vNum l k) (tw l k) wd (hP.ext (hm.drew.ext.trans hd)) lenP2 Oo Oo;rw [lenP] at this;refine zcv (this) ?_;rintro v w9 ⟨h1,h2⟩;exact ⟨h2,h1.base hd.size⟩
 (conv=>whnf);apply StepD.of (fun v wx=>OpR (qj l k) (vNum l k) (tw l k) w5.heap.size v wx) (fun _ _ _ h he=>h.ext he)
 ·intro wd hd;(conv=>whnf);rintro v hv;obtain ⟨A1,k1,c1,rfl,hs⟩:=OpR.split hv;(conv=>whnf);exact ⟨xr,hv⟩
 (conv=>whnf);apply StepD.of (fun v wx=>OpS (qj l k) (vNum l k) (tw l k) w5.heap.size v wx) (fun _ _ _ h he=>h.ext he)
 ·intro wd hd;(conv=>whnf);rintro v hv;obtain ⟨A1,k1,c1,rfl,hs⟩:=OpR.split hv;conv=>whnf
  (try (rintro v2 hv2;(conv=>whnf)))
  exact ⟨xr,hs⟩
 (conv=>whnf);apply zsd (ii E)
 ·intro wd hd;conv=>whnf
  (repeat (rintro v hv;(try obtain ⟨A1,k1,c1,rfl,hs⟩:=OpR.split hv);(conv=>whnf)))
  exact ⟨xr,by rw [eE]⟩
 (conv=>whnf);apply StepD.of (fun v wx=>OpS (qj l k) (vNum l k) (tw l k) w5.heap.size v wx) (fun _ _ _ h he=>h.ext he)
 ·intro wd hd;(conv=>whnf);rintro v hv;obtain ⟨A1,k1,c1,rfl⟩:=OpS.slice hv;conv=>whnf
  (repeat (rintro v2 hv2;(first|obtain ⟨A2,k2,c2,rfl,hs⟩:=OpR.split hv2|obtain ⟨A2,k2,c2,rfl⟩:=OpS.slice hv2);(conv=>whnf)))
  exact ⟨xr,by assumption⟩
 (conv=>whnf);apply zsd (ii E)
 ·intro wd hd;conv=>whnf
  (repeat (rintro v hv;(try obtain ⟨A1,k1,c1,rfl⟩:=OpS.slice hv);(conv=>whnf)))
  exact ⟨xr,rfl⟩
 (conv=>whnf);intro w6 he6;(conv=>whnf);rintro v hv;conv=>whnf
 (repeat (rintro _ _;(conv=>whnf)))
 obtain ⟨A1,k1,c1,rfl⟩:=OpS.slice hv;have hP:=hP.ext hm.ext
 by_cases hE:opE (qj l k) (vNum l k) (tw l k)=0
 case neg=>
  have hm:=hm.drew.call he6;have hE0:E≠0:=by rw [eE];exact hE
  refine zv ?_;refine DrawV.inv (fun S w'=>Mem w w' [(lb,.cells #[.slice none 0 0,.slice none 0 0] 161),(r7,.cells (bif S 8 then #[ii (((tEnd l k:Nat):Int)-1),ii 12] else #[ii 0,ii 0]) 92),(r6,.cells #[.slice none 0 0,.slice none 0 0] 161),(hb,.cells (fnA 13 (inF F)) 155)]) rfl Jk hm.drew ?_;clear hm;(conv=>whnf);refine StepI.of (.agg #[.slice none 0 0,.slice none 0 0]) (fun S wd hk hp hI=>zw ?_) (zw ?_)
  ·refine zl hI 0 ?_;exact ⟨rfl,hI⟩
  (iterate 3 (refine zi ?_));refine StepI.of (ii (tEnd l k:Nat)) (fun S wd hk hp hI=>zw ?_) (zw ?_)
  ·refine LoadV.fi (x:=((tEnd l k:Nat):Int)) hI (i:=3) rfl (8+k) (by rw [show tsz Tryz.prog 3=1 from by kernel_rfl];dsimp only;omega) Oo (hF.v k Oo) (zw ?_);exact ⟨rfl,hI⟩
  refine zi ?_;refine zi ?_;refine StepI.of undef (fun S wd hk hp hI=>zw ?_) (zw ?_)
  ·refine zS hI 2 fun wx hmx=>zw ?_;exact ⟨rfl,hmx⟩
  refine StepI.of undef (fun S wd hk hp hI=>?_) (zw ?_)
  ·dsimp only at hI;rw [hk] at hI;(conv=>whnf);refine zS hI 1 fun wx hmx=>zw ?_;exact ⟨rfl,hmx⟩
  intro w7 hm;(conv=>whnf);refine qa (R:=fun v w'=>LvR l k w v w') (zw ?_);refine zl hm 2 ?_;refine zl hm 1 ?_;exact LvR.err hm.ext (qqg hE) Od Oo Oo rfl
 have hE0:E=0:=by rw [eE];exact hE
 subst hE0;obtain ⟨hR,k1n,k1w⟩:=OpS.rw hv hE Oo hm (xr.drew.trans he6);clear hm hv;refine zv ?_;refine qr (fun x:Nat × oA × Nat=>[(0,.slice A l.length c),(2,ii k),(4,pp hb),(6,pp r6),(7,pp r7),(8,ii (tvAt l k)),(9,ii (tw l k)),(10,pp lb),(11,.slice x.2.1 x.1 x.2.2)])
  (fun x w'=>x.1≤vNum l k∧(tw l k≠0→x.1=vNum l k)∧Rw w w' (.slice x.2.1 x.1 x.2.2) 116 1 x.1 ((unpV (qj l k) (vNum l k) (tw l k)).take x.1) [(lb,.cells #[.slice none 0 0,.slice none 0 0] 161),(r7,.cells #[ii 0,ii 0] 92),(r6,.cells #[.slice none 0 0,.slice none 0 0] 161),(hb,.cells (fnA 13 (inF F)) 155)]) (fun x=>vNum l k-x.1) (k1,A1,c1) ⟨rfl,rfl,rfl,rfl,rfl,rfl,rfl,rfl,rfl,trivial⟩ ⟨k1n,k1w,hR⟩ ?_
 clear hR k1n k1w;rintro ⟨i,C,cc⟩ w7 ρ' ⟨i1,i2,hR⟩;dsimp only at i1 i2 hR ⊢;have hm:=hR.mem;refine zu ?_;refine LoadV.fi (x:=((vNum l k:Nat):Int)) hm (i:=3) rfl k (by rw [show tsz Tryz.prog 3=1 from by kernel_rfl];dsimp only;omega) Oo (hF.c k Oo) (zw ?_);refine zC (fun _=>zw ?_) (fun _=>zw ?_)
 ·refine NewV.rw hR fun nb w8 hR8=>zw ?_;refine AppV.one q6p u64I u64Z Jk rfl (by decide +kernel) hR8 rfl Oo ?_;intro B' d' w9 hR9;(conv=>whnf);refine ⟨(i+1,B',d'),⟨rfl,rfl,rfl,rfl,rfl,rfl,rfl,rfl,rfl,trivial⟩,⟨by simp only;omega,fun h=>by simp only;have:=i2 h;omega,?_⟩,by simp only;omega⟩;have h0:tw l k=0:=by
   rcases Nat.eq_zero_or_pos (tw l k) with h|h
   ·exact h
   ·have:=i2 Oo;omega
  have e:(unpV (qj l k) (vNum l k) (tw l k)).take (i+1)=(unpV (qj l k) (vNum l k) (tw l k)).take i++[.int .u64 0]:=by
   rw [h0];exact qy2 _ Oo
  simp only;rw [e];exact hR9
 obtain rfl:i=vNum l k:=by omega
 rw [List.take_of_length_le (by rw [qiz];exact Nat.le_refl _)] at hR;have hC:SlAt encU 1 w7 C (unpN (qj l k) (vNum l k) (tw l k)):=V.Rw.slAt (f:=fun x:Nat=>Value.int .u64 (x:Int)) (fun _=>rfl) hR (qbq ..);have hux:∀ x∈unpN (qj l k) (vNum l k) (tw l k),x<8388608:=fun x hx=>Nat.lt_of_lt_of_le (qy1 hx) (Nat.pow_le_pow_right Od z2:2 ^ tw l k≤2 ^ 23)
 obtain ⟨R,hm,hB⟩:=V.Rw.rowB hR;clear hR;refine zcv (qro _ C (vNum l k) cc w7 hC (qbq ..) (fun x hx=>by have:=hux x hx;omega) Oo) ?_;rintro r w8 ⟨rfl,rfl⟩;obtain ⟨kk,ekk⟩:∃ kk,kk=wMx (unpN (qj l k) (vNum l k) (tw l k)) (vNum l k):=⟨_,rfl⟩
 rw [← ekk];(conv=>whnf);refine zC (fun _=>zw ?_) (fun _=>zw ?_)
 ·refine zl hm 0 ?_;refine zS hm 2 fun w9 hm=>zw ?_;refine zS hm 1 fun w10 hm=>zw ?_;refine qa (R:=fun v w'=>LvR l k w v w') (zw ?_);refine zl hm 2 ?_;refine zl hm 1 ?_;exact LvR.err hm.ext (qjq hE (by rw [← ekk];omega)) Od Oo rfl rfl
 have hwk:wMx (unpN (qj l k) (vNum l k) (tw l k)) (vNum l k)=tw l k:=by omega
 clear ekk;refine StoreV.mem hm (i:=0) rfl Od rfl fun w9 hm=>zw ?_;refine zC (fun _=>zw ?_) (fun _=>zw ?_)
 ·refine zl hm 3 ?_;refine zcv (hvec w9 (hS.ext hm.ext) Oo) ?_;rintro r w10 ⟨⟨he0,hab,rfl⟩|⟨hz0,hLv,B,cb,rfl,hO⟩,he10⟩
  ·have hm:=hm.call he10;have hlv:=qjp hE hwk Oo he0;obtain ⟨a,ea⟩:∃ a:Nat,a=(vcE l k).1:=⟨_,rfl⟩
   obtain ⟨e,ee⟩:∃ e:Nat,e=(vcE l k).2:=⟨_,rfl⟩
   have hlv:lvE l k=(a,e):=by rw [hlv,ea,ee]
   rw [← ea] at hab;rw [← ea,← ee];rw [← ee] at he0;have he0i:(e:Int)≠0:=by omega
   unfold fltV;(conv=>whnf);refine znm hm fun fb w11 hm=>zw ?_;refine zS hm 0 fun w12 hm=>zw ?_;refine zr hm 0 ?_;refine zv ?_;refine DrawV.inv (fun S w'=>Mem w w' ((fb,.cells #[ii a,ii e] 92)::(lb,.cells #[.slice C (vNum l k) cc,.slice none 0 0] 161)::(r7,.cells (bif S 3 then #[ii a,ii e] else #[ii 0,ii 0]) 92)::(r6,.cells (bif S 2 then #[.slice C (vNum l k) cc,.slice none 0 0] else #[.slice none 0 0,.slice none 0 0]) 161)::(hb,.cells (fnA 13 (inF F)) 155)::R)) rfl Jk hm.drew ?_;clear hm;(conv=>whnf);refine StepI.of (.agg #[.slice C (vNum l k) cc,.slice none 0 0]) (fun S wd hk hp hI=>zw ?_) (zw ?_)
   ·refine zl hI 1 ?_;exact ⟨rfl,hI⟩
   refine StepI.of (.agg #[ii a,ii e]) (fun S wd hk hp hI=>zw ?_) (zw ?_)
   ·refine zl hI 0 ?_;exact ⟨rfl,hI⟩
   refine StepI.of undef (fun S wd hk hp hI=>?_) (zw ?_)
   ·dsimp only at hI;rw [hk] at hI;(conv=>whnf);refine zS hI 3 fun wx hmx=>zw ?_;exact ⟨rfl,hmx⟩
   refine StepI.of undef (fun S wd hk hp hI=>?_) (zw ?_)
   ·dsimp only at hI;rw [hk] at hI;(conv=>whnf);refine zS hI 2 fun wx hmx=>zw ?_;exact ⟨rfl,hmx⟩
   intro w13 hm;(conv=>whnf);refine qa (R:=fun v w'=>LvR l k w v w') (zw ?_);refine zl hm 3 ?_;refine zl hm 2 ?_;exact LvR.err hm.ext hlv he0 hab rfl rfl
  ·obtain ⟨R2,hm,hB2⟩:=V.Mem.row hm he10 hO znr;have hm:Mem w w10 ((lb,.cells #[.slice C (vNum l k) cc,.slice none 0 0] 161)::(r7,.cells #[ii 0,ii 0] 92)::(r6,.cells #[.slice none 0 0,.slice none 0 0] 161)::(hb,.cells (fnA 13 (inF F)) 155)::(R++R2)):=hm;have hB1:RowB 116 (unpV (qj l k) (vNum l k) (tw l k)) (R++R2) (.slice C (vNum l k) cc):=V.RowB.right hB;have hB2:RowB 4 ((bitL (qi l k) (vNum l k)).map Value.bool) (R++R2) (.slice B (vNum l k) cb):=V.RowB.left hB2;generalize R++R2=R3 at hm hB1 hB2;clear hO hB;(conv=>whnf);refine znm hm fun fb w11 hm=>zw ?_;refine zS hm 0 fun w12 hm=>zw ?_;refine zr hm 0 ?_;refine zv ?_;have hm:=hm.sub (List.sublist_cons_self ..);refine StoreV.mem hm (i:=0) rfl (show 1<2 by decide) rfl fun w13 hm=>zw ?_;refine qr (fun i:Nat=>[(2,ii k),(6,pp r6),(7,pp r7),(8,ii (tvAt l k)),(10,pp lb),(11,.slice C (vNum l k) cc),(15,ii i)])
    (fun i w'=>i≤vNum l k∧(∀ j,j<i→(nmF l k j).2=0)∧Mem w w' ((lb,.cells #[.slice C (vNum l k) cc,.slice B (vNum l k) cb] 161)::(r7,.cells #[ii 0,ii 0] 92)::(r6,.cells #[.slice none 0 0,.slice none 0 0] 161)::(hb,.cells (fnA 13 (inF F)) 155)::R3)) (fun i=>vNum l k-i) 0 ⟨rfl,rfl,rfl,rfl,rfl,rfl,rfl,trivial⟩ ⟨Nat.zero_le _,fun j h=>by omega,hm⟩ ?_
   clear hm;rintro i w14 ρ2 ⟨i1,hnm,hm⟩;have hCc:SlAt encU 1 w14 C (unpN (qj l k) (vNum l k) (tw l k)):=V.RowB.slf (f:=fun x:Nat=>Value.int .u64 (x:Int)) (fun _=>rfl) hB1 hm (fun x hx=>by simp [hx]);have hBc:SlAt encO 1 w14 B (bitL (qi l k) (vNum l k)):=V.RowB.slf (f:=Value.bool) (fun _=>rfl) hB2 hm (fun x hx=>by simp [hx]);have hBl:(bitL (qi l k) (vNum l k)).length=vNum l k:=by simp [bitL]
   (conv=>whnf);refine zC (fun _=>zu ?_) (fun _=>zu ?_)
   ·refine ElemV.sl hCc (qbq ..) i Oo Oo ?_;intro eb eo hcell;rw [qfv] at hcell;refine zu ?_;refine LoadV.cell0 hcell (zw ?_);refine zt ?_;refine zC (fun _=>zu ?_) (fun _=>zu ?_)
    ·refine zl hm 0 ?_;refine zv ?_;refine zS hm 2 fun wa hm=>zw ?_;refine zS hm 1 fun wb hm=>zw ?_;refine qa (R:=fun v w'=>LvR l k w v w') (zw ?_);refine zl hm 2 ?_;refine zl hm 1 ?_;exact LvR.err hm.ext (qli hE hwk (.inr hz0) hnm Oo (qm0 Oo) Od) Od Oo Oo rfl
    refine ElemV.sl hCc (qbq ..) i Oo Oo ?_;intro eb eo hcell;rw [qfv] at hcell;refine zu ?_;refine LoadV.cell0 hcell (zw ?_);refine zt ?_;refine zC (fun _=>zw ?_) (fun _=>zw ?_)
    ·refine zl hm 0 ?_;refine zv ?_;refine zS hm 2 fun wa hm=>zw ?_;refine zS hm 1 fun wb hm=>zw ?_;refine qa (R:=fun v w'=>LvR l k w v w') (zw ?_);refine zl hm 2 ?_;refine zl hm 1 ?_;exact LvR.err hm.ext (qli hE hwk (.inr hz0) hnm Oo (qm0 Oo) Od) Od Oo Oo rfl
    have hm:=hm.drew;have hCc:=hCc.ext (Ext.refl w14).drew;have hBc:=hBc.ext (Ext.refl w14).drew;refine zy ?_;refine zt ?_;refine zC (fun _=>zu ?_) (fun _=>zu ?_)
    ·refine zr hm 0 ?_;refine zv ?_;refine ElemV.sl hBc hBl (i-1) Oo Oo ?_;intro eb eo hcell;refine zu ?_;refine LoadV.cell0 hcell (zu ?_);obtain ⟨b,hb⟩:∃ b,b=(bitL (qi l k) (vNum l k))[i-1]:=⟨_,rfl⟩
     have hbv:b=decide (bitN ((qi l k).drop 8) (i-1)=1):=by
      rw [hb];simp only [bitL,List.getElem_map,List.getElem_range];rw [vD,qdf];rw [hLv.n];unfold upN;omega
     rw [← hb];clear hb;cases b
     ·have hbn:bitN ((qi l k).drop 8) (i-1)≠1:=of_decide_eq_false hbv.symm;clear hbv;refine zu ?_;refine ElemV.sl hCc (qbq ..) i Oo Oo ?_;intro eb eo hcell;rw [qfv] at hcell;refine zu ?_;refine LoadV.cell0 hcell (zu ?_);refine ElemV.sl hCc (qbq ..) (i-1) Oo Oo ?_;intro eb eo hcell;rw [qfv] at hcell;refine zu ?_;refine LoadV.cell0 hcell (zw ?_);refine zt ?_;refine zC (fun _=>zu ?_) (fun _=>zu ?_)
      ·refine zl hm 0 ?_;refine zv ?_;refine zS hm 2 fun wa hm=>zw ?_;refine zS hm 1 fun wb hm=>zw ?_;refine qa (R:=fun v w'=>LvR l k w v w') (zw ?_);refine zl hm 2 ?_;refine zl hm 1 ?_;exact LvR.err hm.ext (qli hE hwk (.inr hz0) hnm Oo (qqh Oo ⟨by omega,.inr hbn,by omega⟩) Od) Od Oo Oo rfl
      ·exact ⟨i+1,⟨rfl,rfl,rfl,rfl,rfl,rfl,rfl,trivial⟩,⟨by omega,qc7 hnm (qh9 Oo Oo),hm⟩,by omega⟩
     ·have hbn:bitN ((qi l k).drop 8) (i-1)=1:=of_decide_eq_true hbv.symm;clear hbv;refine zu ?_;exact ⟨i+1,⟨rfl,rfl,rfl,rfl,rfl,rfl,rfl,trivial⟩,⟨by omega,qc7 hnm (qh9 Oo Oo),hm⟩,by omega⟩
    ·exact ⟨i+1,⟨rfl,rfl,rfl,rfl,rfl,rfl,rfl,trivial⟩,⟨by omega,qc7 hnm (qh9 Oo Oo),hm⟩,by omega⟩
   ·obtain rfl:i=vNum l k:=by omega
    refine zl hm 0 ?_;refine zS hm 2 fun wa hm=>zw ?_;refine zS hm 1 fun wb hm=>zw ?_;refine qa (R:=fun v w'=>LvR l k w v w') (zw ?_);refine zl hm 2 ?_;refine zl hm 1 ?_;exact .inr ⟨qxi hE hwk (.inr hz0) hnm,fun _=>hLv,C,cc,B,vNum l k,cb,_,_,rfl,hm,V.RowB.more (V.RowB.more (V.RowB.more (V.RowB.more hB1))),V.RowB.more (V.RowB.more (V.RowB.more (V.RowB.more hB2))),fun _=>⟨rfl,rfl⟩⟩
 ·have hk0:k=0:=by omega
  refine qr (fun i:Nat=>[(2,ii k),(6,pp r6),(7,pp r7),(8,ii (tvAt l k)),(10,pp lb),(11,.slice C (vNum l k) cc),(15,ii i)])
   (fun i w'=>i≤vNum l k∧(∀ j,j<i→(nmF l k j).2=0)∧Mem w w' ((lb,.cells #[.slice C (vNum l k) cc,.slice none 0 0] 161)::(r7,.cells #[ii 0,ii 0] 92)::(r6,.cells #[.slice none 0 0,.slice none 0 0] 161)::(hb,.cells (fnA 13 (inF F)) 155)::R)) (fun i=>vNum l k-i) 0 ⟨rfl,rfl,rfl,rfl,rfl,rfl,rfl,trivial⟩ ⟨Nat.zero_le _,fun j h=>by omega,hm⟩ ?_
  clear hm;rintro i w14 ρ2 ⟨i1,hnm,hm⟩;have hCc:SlAt encU 1 w14 C (unpN (qj l k) (vNum l k) (tw l k)):=V.RowB.slf (f:=fun x:Nat=>Value.int .u64 (x:Int)) (fun _=>rfl) hB hm (fun x hx=>by simp [hx]);(conv=>whnf);refine zC (fun _=>zu ?_) (fun _=>zu ?_)
  ·refine ElemV.sl hCc (qbq ..) i Oo Oo ?_;intro eb eo hcell;rw [qfv] at hcell;refine zu ?_;refine LoadV.cell0 hcell (zw ?_);refine zt ?_;refine zC (fun _=>zw ?_) (fun _=>zw ?_)
   ·refine zl hm 0 ?_;refine zv ?_;refine zS hm 2 fun wa hm=>zw ?_;refine zS hm 1 fun wb hm=>zw ?_;refine qa (R:=fun v w'=>LvR l k w v w') (zw ?_);refine zl hm 2 ?_;refine zl hm 1 ?_;exact LvR.err hm.ext (qli hE hwk (.inl hk0) hnm Oo (qm0 Oo) Od) Od Oo Oo rfl
   have hm:=hm.drew;have hCc:=hCc.ext (Ext.refl w14).drew;refine zy ?_;refine zt ?_;refine zC (fun _=>zu ?_) (fun _=>zu ?_)
   ·refine ElemV.sl hCc (qbq ..) i Oo Oo ?_;intro eb eo hcell;rw [qfv] at hcell;refine zu ?_;refine LoadV.cell0 hcell (zu ?_);refine ElemV.sl hCc (qbq ..) (i-1) Oo Oo ?_;intro eb eo hcell;rw [qfv] at hcell;refine zu ?_;refine LoadV.cell0 hcell (zw ?_);refine zt ?_;refine zC (fun _=>zu ?_) (fun _=>zu ?_)
    ·refine zl hm 0 ?_;refine zv ?_;refine zS hm 2 fun wa hm=>zw ?_;refine zS hm 1 fun wb hm=>zw ?_;refine qa (R:=fun v w'=>LvR l k w v w') (zw ?_);refine zl hm 2 ?_;refine zl hm 1 ?_;exact LvR.err hm.ext (qli hE hwk (.inl hk0) hnm Oo (qqh Oo ⟨by omega,.inl hk0,by omega⟩) Od) Od Oo Oo rfl
    ·exact ⟨i+1,⟨rfl,rfl,rfl,rfl,rfl,rfl,rfl,trivial⟩,⟨by omega,qc7 hnm (qh9 Oo Oo),hm⟩,by omega⟩
   ·exact ⟨i+1,⟨rfl,rfl,rfl,rfl,rfl,rfl,rfl,trivial⟩,⟨by omega,qc7 hnm (qh9 Oo Oo),hm⟩,by omega⟩
  ·obtain rfl:i=vNum l k:=by omega
   refine zl hm 0 ?_;refine zS hm 2 fun wa hm=>zw ?_;refine zS hm 1 fun wb hm=>zw ?_;refine qa (R:=fun v w'=>LvR l k w v w') (zw ?_);refine zl hm 2 ?_;refine zl hm 1 ?_;exact .inr ⟨qxi hE hwk (.inl hk0) hnm,fun h=>by omega,C,cc,none,0,0,_,[],rfl,hm,V.RowB.more (V.RowB.more (V.RowB.more (V.RowB.more hB))),RowB.nil _ _,fun h=>by omega⟩
theorem OpS.read {p:LB} {n wd k c base:Nat} {A:oA} {w:World} (h:OpS p n wd base (.slice A k c) w) (hE:opE p n wd=0):∃ xs:List Nat,SlAt encU 1 w A xs∧xs.length=k∧∀ j,j<n→xs.getD j 0=valB p (j*wd) wd:=by
 rcases h with ⟨h1,h2⟩|⟨h1,h2,h3⟩|⟨h1,h2,b,h3,h4,h5⟩
 ·exact absurd hE h1
 ·cases h3;exact ⟨[],⟨fun h=>absurd rfl h⟩,rfl,fun j _=>by rw [h2];rfl⟩
 ·cases h3;refine ⟨unpN p n wd,⟨fun hne=>⟨b,0,rfl,fun j x hx k u hu=>?_⟩⟩,qbq ..,fun j hj=>by simp [unpN,List.getD_eq_getElem?_getD,hj]⟩;cases k with
  | succ k=>simp [encU] at hu
  | zero=>
   simp only [encU,List.getElem?_cons_zero,Option.some.injEq] at hu;subst hu;rw [qd h5];simp only [Nat.mul_one,Nat.add_zero,Nat.zero_add,List.getElem?_toArray,unpV,List.getElem?_map,hx];rfl
theorem qmi {f:Nat→Nat × Nat} {b:Nat} (h:∀ k,(f k).1≤b):∀ n,(errF f n).1≤b
 | 0=>Nat.zero_le _
 | n+1=>by
  rw [errF]
  split
  ·exact qmi h n
  ·exact h n
theorem qe5 (l:LB) (k most:Nat):(numE l k most).1≤l.length:=by
 unfold numE
 split
 ·exact qb5 l k
 ·split
  ·exact qb5 l k
  ·exact Nat.zero_le _
theorem q40 (m:LB):(dE m).1≤m.length:=by
 unfold dE
 split
 ·exact qmi (fun k=>qe5 m k _) 2
 ·split
  ·exact Nat.le_refl _
  ·split
   ·simp only;omega
   ·exact Nat.zero_le _
theorem qf5 {m a:LB} (h:(entG m false a).2.2=0):(numL m).1≤a.length:=by
 unfold entG at h;simp only [Bool.false_eq_true,if_false] at h
 split at h
 ·rename_i g;exact absurd h g
 split at h
 ·rename_i g;exact absurd h g
 split at h
 ·cases h
 ·omega
def DvR (l:LB) (base:Nat) (v:Value) (w:World):Prop:=
 ((doE l).2≠0∧(doE l).1≤l.length∧v=.tuple #[.slice none 0 0,fltV (doE l).1 (doE l).2])∨
 ((doE l).2=0∧∃ ts:List ByteArray,(∀ i t,ts[i]?=some t→dGet l i=some t.data.toList)∧ts.length=dN l∧∃ B c,v=.tuple #[.slice B (dN l) c,fltV 0 0]∧w.ownsRow base 9 1 (.slice B (dN l) c) (dN l) (ts.map Value.string))
theorem DvR.err {l:LB} {base:Nat} {w:World} {a e:Nat} {x y:Int} (h:doE l=(a,e)) (h0:e≠0) (hb:a≤l.length) (h1:x=a) (h2:y=e):DvR l base (.tuple #[.slice none 0 0,.agg #[ii x,ii y]]) w:=by
 subst h1 h2;refine .inl ?_;rw [h];exact ⟨h0,hb,rfl⟩
theorem qga (a b:ByteArray):leL a.data.toList b.data.toList=(slt a b||seq a b):=rfl
structure OSt (l:LB) (i:Nat) (ts:List ByteArray) (last:ByteArray) (p:Nat):Prop where
 st:DSt l i last.data.toList p
 len:ts.length=i
 get:∀ j t,ts[j]?=some t→dGet l j=some t.data.toList
 zero:i=0→last=⟨#[]⟩
 lst:∀ j,i=j+1→ts[j]?=some last
 size:last.size≤262144
 dst:dSt l i=(last.data.toList,p)
 fine:∀ j,j<i→(dnF l j).2=0
theorem OSt.step {l:LB} {i p:Nat} {ts:List ByteArray} {last:ByteArray} (h:OSt l i ts last p) (hi:i<dN l) {first:Bool} (hf:first=decide (i%16=0)) (hp:i%16=0→qy l (i/16)=p)
  (he:(entG (l.drop (qf l+p)) first last.data.toList).2.2=0) (h4:0<i→leL (entG (l.drop (qf l+p)) first last.data.toList).1 last.data.toList=false)
  (h5:i%16≠0→(numL (l.drop (qf l+p))).1=comL (entG (l.drop (qf l+p)) first last.data.toList).1 last.data.toList):OSt l (i+1) (ts++[⟨(entG (l.drop (qf l+p)) first last.data.toList).1.toArray⟩]) ⟨(entG (l.drop (qf l+p)) first last.data.toList).1.toArray⟩ (p+(entG (l.drop (qf l+p)) first last.data.toList).2.1):=by
 have e:l.drop (qf l+p)=(qe l).drop p:=by rw [qe,List.drop_drop]
 rw [e] at he h4 h5 ⊢;have hs:=h.st.step hp hf he;have hok:=q42 h.dst hf hp he h4 h5;have hl:=h.len;refine ⟨hs,by simp [hl],fun j t hj=>?_,fun h=>by omega,fun j hj=>?_,?_,?_,fun j hj=>?_⟩
 ·rw [List.getElem?_append] at hj
  split at hj
  ·exact h.get j t hj
  ·rename_i hge
   obtain rfl:j=i:=by
    rcases Nat.lt_or_ge (j-ts.length) 1 with h1|h1
    ·omega
    ·rw [List.getElem?_eq_none (by simpa using h1)] at hj;cases hj
   rw [hl,Nat.sub_self] at hj;cases hj;exact hs.get hi
 ·obtain rfl:j=i:=by omega
  rw [List.getElem?_append_right Oo,hl,Nat.sub_self];rfl
 ·have:=(qas he).1;show (List.toArray _).size≤_;rw [List.size_toArray];exact this
 ·exact qdu h.dst hf
 ·by_cases ej:j=i
  ·subst ej;rw [hok]
  ·exact h.fine j Oo
theorem qwg (l:LB) (A:oA) (c:Nat) (w:World) (hS:SlAt encB 1 w A l) (hc:l.length≤c) (hl:l.length≤140737488355328) :
  Gv Tryz.prog 58 [.slice A l.length c] w fun v w'=>DvR l w.heap.size v w'∧Ext w w':=by
 have hdle:=q40 l;refine ze Tryz.func58 Tryz.ntmps58 ?_;refine znm (Mem.nil w) fun r3 w1 hm=>zw ?_;refine zcv (qwc l A c w1 (hS.ext hm.ext) hc hl) ?_;rintro r w2 ⟨⟨hE,rfl⟩|⟨hE,rfl⟩,he2⟩
 ·have hm:=hm.call he2;(conv=>whnf);refine znm hm fun hb w3 hm=>zw ?_;refine znm hm fun fb w4 hm=>zw ?_;refine zS hm 1 fun w5 hm=>zw ?_;refine zS hm 0 fun w6 hm=>zw ?_;refine LoadV.mem (i:=0) Oa rfl rfl (zw ?_);refine zt ?_;refine DrawV.inv (fun S w'=>Mem w w' [(fb,.cells #[ii (dE l).1,ii (dE l).2] 148),(hb,.cells #[ii 0,ii 0,ii 0,ii 0] 214),(r3,.cells (bif S 2 then #[ii (dE l).1,ii (dE l).2] else #[ii 0,ii 0]) 148)]) rfl Jk hm.drew ?_;clear hm;(conv=>whnf);refine StepI.of (.agg #[ii (dE l).1,ii (dE l).2]) (fun S wd hk hp hI=>zw ?_) (zw ?_)
  ·refine zl hI 0 ?_;exact ⟨rfl,hI⟩
  refine zi ?_;refine StepI.of undef (fun S wd hk hp hI=>?_) (zw ?_)
  ·dsimp only at hI;rw [hk] at hI;(conv=>whnf);refine zS hI 2 fun wx hmx=>zw ?_;exact ⟨rfl,hmx⟩
  intro wz hm;(conv=>whnf);refine qa (R:=fun v w'=>DvR l w.heap.size v w'∧Ext w w') (zw ?_);refine zl hm 2 ?_;exact ⟨.err (a:=(dE l).1) (e:=(dE l).2) (qit hE) hE Oo rfl rfl,hm.ext⟩
 have hm:=hm.call he2;obtain ⟨d1,d2,d3⟩:=qv9 hE;have d34:qax l≤qf l:=by unfold qf;omega
 have d4l:qf l≤l.length:=by rw [← d3];unfold dEnd;omega
 have hW:qbm (qig l)≤64:=qd7 64 _ (by show qig l<2 ^ 64;omega) Od;have hU:upN (dN l) 16≤262144:=by unfold upN;omega
 (conv=>whnf);refine znm hm fun hb w3 hm=>zw ?_;refine znm hm fun fb w4 hm=>zw ?_;refine zS hm 1 fun w5 hm=>zw ?_;refine zS hm 0 fun w6 hm=>zw ?_;refine LoadV.mem (i:=0) Oa rfl rfl (zw ?_);refine zt ?_;refine LoadV.mem (i:=1) Oa rfl rfl (zw ?_);refine zt ?_;obtain ⟨U,eU⟩:∃ U,U=upN (dN l) 16:=⟨_,rfl⟩
 have eU2:U=(dN l+15)/16:=by rw [eU,upN];rfl
 have eUi:((dN l:Nat)+16-1:Int)/16=(U:Int):=by omega
 rw [eUi];obtain ⟨P,eP⟩:∃ P,P=(if c=qax l then A else A.map (·.add (qax l*1))):=⟨_,rfl⟩
 have hP:SlAt encB 1 w P (qt l):=by rw [eP];exact hS.cut (m:=c) Oo Oo Oo rfl
 have lenP:(qt l).length=qf l-qax l:=by rw [qt,List.length_take,zld];omega
 have lenP2:(qt l).length=(U*dW l+7)/8:=by rw [lenP,eU];show qax l+(upN (dN l) 16*dW l+7)/8-_=_;omega
 obtain ⟨E,eE⟩:∃ E:Nat,E=opE (qt l) U (dW l):=⟨_,rfl⟩
 refine DrawV.free Jk Jk (zw ?_);refine zd ?_;refine zd ?_;apply zsd
 ·intro wd hd;(conv=>whnf);refine LoadV.mem (Mem.call (Mem.drew hm) hd) (i:=1) rfl rfl (zw ?_);exact ⟨xr,rfl⟩
 (conv=>whnf);refine zd ?_;apply zsd
 ·intro wd hd;(conv=>whnf);refine LoadV.mem (Mem.call (Mem.drew hm) hd) (i:=1) rfl rfl (zw ?_);exact ⟨xr,rfl⟩
 (conv=>whnf);refine zsd (.slice P (qf l-qax l) (c-qax l)) (fun wd hd=>zw ?_) (zw ?_)
 ·refine SliceV.to (qax l) (qf l) c rfl rfl rfl Oo Oo znr (fun h=>by cases h) ?_;rw [show tsz Tryz.prog 5=1 from by kernel_rfl,← eP];(conv=>whnf);exact ⟨xr,rfl⟩
 refine zd ?_;refine zd ?_;apply zsd
 ·intro wd hd;(conv=>whnf);refine LoadV.mem (Mem.call (Mem.drew hm) hd) (i:=1) rfl rfl (zw ?_);exact ⟨xr,rfl⟩
 (conv=>whnf);refine zd ?_;refine zsd (ii (dW l:Nat)) (fun wd hd=>zw ?_) (zw ?_)
 ·refine zcv (qht (qig l) wd Oo) ?_;rintro v w9 ⟨rfl,rfl⟩;exact ⟨xr,rfl⟩
 apply StepD.of (fun v wx=>OpR (qt l) U (dW l) w6.heap.size v wx) (fun _ _ _ h he=>h.ext he)
 ·intro wd hd;(conv=>whnf);have:=qo3 (qt l) P (c-qax l) U (dW l) wd (hP.ext (hm.drew.ext.trans hd)) lenP2 Oo hW;rw [lenP] at this;refine zcv (this) ?_;rintro v w9 ⟨h1,h2⟩;exact ⟨h2,h1.base hd.size⟩
 (conv=>whnf);apply StepD.of (fun v wx=>OpR (qt l) U (dW l) w6.heap.size v wx) (fun _ _ _ h he=>h.ext he)
 ·intro wd hd;(conv=>whnf);rintro v hv;obtain ⟨A1,k1,c1,rfl,hs⟩:=OpR.split hv;(conv=>whnf);exact ⟨xr,hv⟩
 (conv=>whnf);apply StepD.of (fun v wx=>OpS (qt l) U (dW l) w6.heap.size v wx) (fun _ _ _ h he=>h.ext he)
 ·intro wd hd;(conv=>whnf);rintro v hv;obtain ⟨A1,k1,c1,rfl,hs⟩:=OpR.split hv;conv=>whnf
  (try (rintro v2 hv2;(conv=>whnf)))
  exact ⟨xr,hs⟩
 (conv=>whnf);apply zsd (ii E)
 ·intro wd hd;conv=>whnf
  (repeat (rintro v hv;(try obtain ⟨A1,k1,c1,rfl,hs⟩:=OpR.split hv);(conv=>whnf)))
  exact ⟨xr,by rw [eE]⟩
 (conv=>whnf);apply StepD.of (fun v wx=>OpS (qt l) U (dW l) w6.heap.size v wx) (fun _ _ _ h he=>h.ext he)
 ·intro wd hd;(conv=>whnf);rintro v hv;obtain ⟨A1,k1,c1,rfl⟩:=OpS.slice hv;conv=>whnf
  (repeat (rintro v2 hv2;(first|obtain ⟨A2,k2,c2,rfl,hs⟩:=OpR.split hv2|obtain ⟨A2,k2,c2,rfl⟩:=OpS.slice hv2);(conv=>whnf)))
  exact ⟨xr,by assumption⟩
 (conv=>whnf);apply zsd (ii E)
 ·intro wd hd;conv=>whnf
  (repeat (rintro v hv;(try obtain ⟨A1,k1,c1,rfl⟩:=OpS.slice hv);(conv=>whnf)))
  exact ⟨xr,rfl⟩
 (conv=>whnf);intro w7 he7;(conv=>whnf);rintro v hv;conv=>whnf
 (repeat (rintro _ _;(conv=>whnf)))
 obtain ⟨Q,k1,c1,rfl⟩:=OpS.slice hv;have hm:=hm.drew.call he7
 by_cases hE1:opE (qt l) U (dW l)=0
 case neg=>
  have hE0:E≠0:=by rw [eE];exact hE1
  refine zv ?_;refine DrawV.inv (fun S w'=>Mem w w' [(fb,.cells #[ii 0,ii 0] 148),(hb,.cells #[ii (dN l:Nat),ii (qig l:Nat),ii (qax l:Nat),ii (qf l:Nat)] 214),(r3,.cells (bif S 5 then #[ii ((qf l:Nat)-1:Int),ii 12] else #[ii 0,ii 0]) 148)]) rfl Jk hm.drew ?_;clear hm;(conv=>whnf);refine zi ?_;refine StepI.of (ii (qf l:Nat)) (fun S wd hk hp hI=>zw ?_) (zw ?_)
  ·refine zr hI 1 ?_;exact ⟨rfl,hI⟩
  (iterate 3 (refine zi ?_));refine StepI.of undef (fun S wd hk hp hI=>?_) (zw ?_)
  ·dsimp only at hI;rw [hk] at hI;(conv=>whnf);refine zS hI 2 fun wx hmx=>zw ?_;exact ⟨rfl,hmx⟩
  intro wz hm;(conv=>whnf);refine qa (R:=fun v w'=>DvR l w.heap.size v w'∧Ext w w') (zw ?_);refine zl hm 2 ?_;have hpos:=qxq hE1;exact ⟨.err (qp2 hE (by rw [← eU];exact hE1)) Od Oo Oo rfl,hm.ext⟩
 have hE0:E=0:=by rw [eE];exact hE1
 subst hE0;have hoz:opE (qt l) (upN (dN l) 16) (dW l)=0:=by rw [← eU];exact hE1
 obtain ⟨xs,hX,hXl,hXv⟩:=OpS.read hv hE1;clear hv;refine zt ?_;refine LoadV.mem (i:=1) Oa rfl rfl (zw ?_);refine qr (fun x:Nat × List ByteArray × ByteArray × Nat × oA × Nat=>[(0,.slice A l.length c),(3,pp r3),(4,pp hb),(7,.slice Q k1 c1),(9,.slice x.2.2.2.2.1 x.1 x.2.2.2.2.2),(10,ii (qf l+x.2.2.2.1:Nat)),(11,ii x.1)])
  (fun x w'=>x.1≤dN l∧OSt l x.1 x.2.1 x.2.2.1 x.2.2.2.1∧Rw w7 w' (.slice x.2.2.2.2.1 x.1 x.2.2.2.2.2) 9 1 x.1 (x.2.1.map Value.string) []) (fun x=>dN l-x.1) (0,[],⟨#[]⟩,0,none,0)
  ⟨rfl,rfl,rfl,rfl,rfl,rfl,rfl,trivial⟩ ⟨Nat.zero_le _,⟨⟨Nat.zero_le _,fun j h=>(by cases h)⟩,rfl,fun j t h=>(by cases h),fun _=>rfl,fun j h=>(by cases h),by decide,rfl,fun j h=>by omega⟩,Rw.nil (Mem.nil w7)⟩ ?_
 have hmz:=hm.ext.size;rintro ⟨i,ts,last,p,B,cc⟩ w8 ρ' ⟨i1,hO,hR⟩;dsimp only at i1 hO hR ⊢;have hm:=hm.call hR.mem.ext;have hple:=hO.st.le;have edr:(qe l).drop p=l.drop (qf l+p):=by rw [qe,List.drop_drop]
 have elen:(qe l).length=l.length-qf l:=by rw [qe,zld]
 have hlast:=hO.size;have hSw:=hS.ext hm.ext;have hXw:=hX.ext hR.mem.ext;conv=>whnf
 (repeat' (first|refine zp ?_|refine zC (fun _=>zw ?_) (fun _=>zw ?_)|refine LoadV.mem (i:=1) Oa rfl rfl (zw ?_)))
 ·rcases Nat.eq_zero_or_pos i with hi0|hi0
  ·obtain rfl:last=⟨#[]⟩:=hO.zero hi0;have ed:decide (((i:Nat):Int)%16=0)=true:=decide_eq_true Oo;rw [ed];clear ed;have hm:=hm.drew;have hR:=V.Rw.drew hR;have hSw:=hSw.ext (Ext.refl w8).drew;have hXw:=hXw.ext (Ext.refl w8).drew;refine zy ?_;refine zv ?_;rw [show ((i:Nat):Int)/16=((i/16:Nat):Int) by omega];obtain ⟨pl,epl⟩:∃ pl,pl=xs.getD (i/16) 0:=⟨_,rfl⟩
   have hpl:qy l (i/16)=pl:=by rw [epl,hXv _ Oo];rfl
   refine ⟨.int .u64 (pl:Nat),by rw [epl];exact qib xs Q k1 c1 (i/16) _ hXw hXl,?_⟩;(conv=>whnf);refine zt ?_;refine LoadV.mem (i:=1) Oa rfl rfl (zw ?_);refine zt ?_;refine zC (fun _=>zu ?_) (fun _=>zu ?_)
   ·refine zS hm 2 fun wa hm=>zw ?_;refine qa (R:=fun v w'=>DvR l w.heap.size v w'∧Ext w w') (zw ?_);refine zl hm 2 ?_;exact ⟨.err (qf4 hE hoz hO.fine Oo (qf3 hO.dst Oo Oo) Od) Od Oo Oo rfl,hm.ext⟩
   have hpp:i%16=0→qy l (i/16)=p:=fun _=>Oo
   refine zcv (qfm l A c (qf l+p) true ⟨#[]⟩ w8.drew hSw hc hl Oo hlast) ?_;rintro r w9 ⟨rfl,he9⟩;have hm:=hm.call he9;have hR:=hR.call he9;have hSw:=hSw.ext he9
   by_cases he:(entG (l.drop (qf l+p)) true (⟨#[]⟩:ByteArray).data.toList).2.2=0
   case neg=>
    rw [entR,if_neg he];have hdn:=qld (first:=true) hO.dst (decide_eq_true Oo).symm hpp (by rw [edr];exact he);rw [edr] at hdn;obtain ⟨e,ee⟩:∃ e,e=(entG (l.drop (qf l+p)) true (⟨#[]⟩:ByteArray).data.toList).2.2:=⟨_,rfl⟩
    rw [← ee] at he hdn ⊢;refine zu ?_;refine zS hm 2 fun wa hm=>zw ?_;refine qa (R:=fun v w'=>DvR l w.heap.size v w'∧Ext w w') (zw ?_);refine zl hm 2 ?_;exact ⟨.err (qf4 hE hoz hO.fine Oo hdn he) he Oo Oo rfl,hm.ext⟩
   have hst0:=hO.st.step (first:=true) hpp (decide_eq_true Oo).symm (by rw [edr];exact he);rw [edr] at hst0;have hle2:=hst0.le;clear hst0;have hsz:=(qas he).1;have hst:=hO.step (first:=true) Oo (decide_eq_true Oo).symm hpp he;have hdo:=qoa (first:=true) hO.dst (decide_eq_true Oo).symm hpp (by rw [edr];exact he);rw [edr] at hdo;rw [entR,if_pos he];obtain ⟨X,eX⟩:∃ X:ByteArray,X=⟨(entG (l.drop (qf l+p)) true (⟨#[]⟩:ByteArray).data.toList).1.toArray⟩:=⟨_,rfl⟩
   have hX1:(entG (l.drop (qf l+p)) true (⟨#[]⟩:ByteArray).data.toList).1=X.data.toList:=by rw [eX]
   obtain ⟨y,ey⟩:∃ y,y=(entG (l.drop (qf l+p)) true (⟨#[]⟩:ByteArray).data.toList).2.1:=⟨_,rfl⟩
   rw [← eX,← ey,hX1,qga] at hst;rw [← ey] at hle2;rw [hX1] at hsz;have hsz:X.size≤262144:=hsz;rw [hX1,qga] at hdo;rw [← eX,← ey];clear hX1;clear he eX ey;refine zu ?_;refine NewV.rw hR fun nb wn hRn=>zw ?_;refine AppV.one qpe strI strZ Jk rfl (by decide +kernel) hRn rfl Oo ?_;intro B' d' wo hRo;refine zu ?_;refine ⟨(i+1,ts++[X],X,p+y,B',d'),⟨rfl,rfl,rfl,rfl,rfl,(by show ii ((qf l+p+y:Nat):Int)=ii ((qf l+(p+y):Nat):Int);rw [Nat.add_assoc]),rfl,trivial⟩,⟨by simp only;omega,hst (fun h=>by omega) (fun h=>by omega),by simp only [List.map_append,List.map_cons,List.map_nil];exact hRo⟩,by simp only;omega⟩
  ·by_cases hi16:i%16=0
   ·have ed:decide (((i:Nat):Int)%16=0)=true:=decide_eq_true Oo;rw [ed];clear ed;have hm:=hm.drew;have hR:=V.Rw.drew hR;have hSw:=hSw.ext (Ext.refl w8).drew;have hXw:=hXw.ext (Ext.refl w8).drew;refine zy ?_;refine zv ?_;rw [show ((i:Nat):Int)/16=((i/16:Nat):Int) by omega];obtain ⟨pl,epl⟩:∃ pl,pl=xs.getD (i/16) 0:=⟨_,rfl⟩
    have hpl:qy l (i/16)=pl:=by rw [epl,hXv _ Oo];rfl
    refine ⟨.int .u64 (pl:Nat),by rw [epl];exact qib xs Q k1 c1 (i/16) _ hXw hXl,?_⟩;(conv=>whnf);refine zt ?_;refine LoadV.mem (i:=1) Oa rfl rfl (zw ?_);refine zt ?_;refine zC (fun _=>zu ?_) (fun _=>zu ?_)
    ·refine zS hm 2 fun wa hm=>zw ?_;refine qa (R:=fun v w'=>DvR l w.heap.size v w'∧Ext w w') (zw ?_);refine zl hm 2 ?_;exact ⟨.err (qf4 hE hoz hO.fine Oo (qf3 hO.dst Oo Oo) Od) Od Oo Oo rfl,hm.ext⟩
    have hpp:i%16=0→qy l (i/16)=p:=fun _=>Oo
    have hT:SlAt V.zeS 1 w8.drew B ts:=V.Rw.slAt (f:=Value.string) (fun _=>rfl) hR hO.len;have hlst:ts[i-1]'(by have:=hO.len;omega)=last:=by
     have h1:=hO.lst (i-1) Oo;rw [zge (by have:=hO.len;omega)] at h1;exact Option.some.inj h1
    refine ElemV.sl hT hO.len (i-1) Oo Oo ?_;intro eb eo hcell;rw [hlst] at hcell;(conv=>whnf);refine LoadV.cell0 hcell (zw ?_);refine zcv (qfm l A c (qf l+p) true last w8.drew hSw hc hl Oo hlast) ?_;rintro r w9 ⟨rfl,he9⟩;have hm:=hm.call he9;have hR:=hR.call he9;have hSw:=hSw.ext he9
    by_cases he:(entG (l.drop (qf l+p)) true (last:ByteArray).data.toList).2.2=0
    case neg=>
     rw [entR,if_neg he];have hdn:=qld (first:=true) hO.dst (decide_eq_true Oo).symm hpp (by rw [edr];exact he);rw [edr] at hdn;obtain ⟨e,ee⟩:∃ e,e=(entG (l.drop (qf l+p)) true (last:ByteArray).data.toList).2.2:=⟨_,rfl⟩
     rw [← ee] at he hdn ⊢;refine zu ?_;refine zS hm 2 fun wa hm=>zw ?_;refine qa (R:=fun v w'=>DvR l w.heap.size v w'∧Ext w w') (zw ?_);refine zl hm 2 ?_;exact ⟨.err (qf4 hE hoz hO.fine Oo hdn he) he Oo Oo rfl,hm.ext⟩
    have hst0:=hO.st.step (first:=true) hpp (decide_eq_true Oo).symm (by rw [edr];exact he);rw [edr] at hst0;have hle2:=hst0.le;clear hst0;have hsz:=(qas he).1;have hst:=hO.step (first:=true) Oo (decide_eq_true Oo).symm hpp he;have hdo:=qoa (first:=true) hO.dst (decide_eq_true Oo).symm hpp (by rw [edr];exact he);rw [edr] at hdo;rw [entR,if_pos he];obtain ⟨X,eX⟩:∃ X:ByteArray,X=⟨(entG (l.drop (qf l+p)) true (last:ByteArray).data.toList).1.toArray⟩:=⟨_,rfl⟩
    have hX1:(entG (l.drop (qf l+p)) true (last:ByteArray).data.toList).1=X.data.toList:=by rw [eX]
    obtain ⟨y,ey⟩:∃ y,y=(entG (l.drop (qf l+p)) true (last:ByteArray).data.toList).2.1:=⟨_,rfl⟩
    rw [← eX,← ey,hX1,qga] at hst;rw [← ey] at hle2;rw [hX1] at hsz;have hsz:X.size≤262144:=hsz;rw [hX1,qga] at hdo;rw [← eX,← ey];clear hX1;clear he eX ey;refine zu ?_;obtain ⟨z,ez⟩:∃ z,z=(slt X last||seq X last):=⟨_,rfl⟩
    rw [← ez] at hst hdo ⊢;clear ez;cases z
    case true=>
     have hdn:=hdo Oo rfl;refine zu ?_;refine zS hm 2 fun wa hm=>zw ?_;refine qa (R:=fun v w'=>DvR l w.heap.size v w'∧Ext w w') (zw ?_);refine zl hm 2 ?_;exact ⟨.err (qf4 hE hoz hO.fine Oo hdn Od) Od Oo Oo rfl,hm.ext⟩
    refine zu ?_;refine NewV.rw hR fun nb wn hRn=>zw ?_;refine AppV.one qpe strI strZ Jk rfl (by decide +kernel) hRn rfl Oo ?_;intro B' d' wo hRo;refine zu ?_;refine ⟨(i+1,ts++[X],X,p+y,B',d'),⟨rfl,rfl,rfl,rfl,rfl,(by show ii ((qf l+p+y:Nat):Int)=ii ((qf l+(p+y):Nat):Int);rw [Nat.add_assoc]),rfl,trivial⟩,⟨by simp only;omega,hst (fun _=>rfl) (fun h=>by omega),by simp only [List.map_append,List.map_cons,List.map_nil];exact hRo⟩,by simp only;omega⟩
   ·have ed:decide (((i:Nat):Int)%16=0)=false:=decide_eq_false Oo;rw [ed];clear ed;have hm:=hm.drew;have hR:=V.Rw.drew hR;have hSw:=hSw.ext (Ext.refl w8).drew;have hXw:=hXw.ext (Ext.refl w8).drew;refine zy ?_;refine zv ?_;have hpp:i%16=0→qy l (i/16)=p:=fun h=>absurd h Oo
    have hT:SlAt V.zeS 1 w8.drew B ts:=V.Rw.slAt (f:=Value.string) (fun _=>rfl) hR hO.len;have hlst:ts[i-1]'(by have:=hO.len;omega)=last:=by
     have h1:=hO.lst (i-1) Oo;rw [zge (by have:=hO.len;omega)] at h1;exact Option.some.inj h1
    refine ElemV.sl hT hO.len (i-1) Oo Oo ?_;intro eb eo hcell;rw [hlst] at hcell;(conv=>whnf);refine LoadV.cell0 hcell (zw ?_);refine zcv (qfm l A c (qf l+p) false last w8.drew hSw hc hl Oo hlast) ?_;rintro r w9 ⟨rfl,he9⟩;have hm:=hm.call he9;have hR:=hR.call he9;have hSw:=hSw.ext he9
    by_cases he:(entG (l.drop (qf l+p)) false (last:ByteArray).data.toList).2.2=0
    case neg=>
     rw [entR,if_neg he];have hdn:=qld (first:=false) hO.dst (decide_eq_false Oo).symm hpp (by rw [edr];exact he);rw [edr] at hdn;obtain ⟨e,ee⟩:∃ e,e=(entG (l.drop (qf l+p)) false (last:ByteArray).data.toList).2.2:=⟨_,rfl⟩
     rw [← ee] at he hdn ⊢;refine zu ?_;refine zS hm 2 fun wa hm=>zw ?_;refine qa (R:=fun v w'=>DvR l w.heap.size v w'∧Ext w w') (zw ?_);refine zl hm 2 ?_;exact ⟨.err (qf4 hE hoz hO.fine Oo hdn he) he Oo Oo rfl,hm.ext⟩
    have hst0:=hO.st.step (first:=false) hpp (decide_eq_false Oo).symm (by rw [edr];exact he);rw [edr] at hst0;have hle2:=hst0.le;clear hst0;have hsz:=(qas he).1;have hst:=hO.step (first:=false) Oo (decide_eq_false Oo).symm hpp he;have hdo:=qoa (first:=false) hO.dst (decide_eq_false Oo).symm hpp (by rw [edr];exact he);have hdf:=qr8 (first:=false) hO.dst (decide_eq_false Oo).symm Oo (by rw [edr];exact he);have hfl:=qf5 he;rw [edr] at hdo hdf;rw [entR,if_pos he];obtain ⟨X,eX⟩:∃ X:ByteArray,X=⟨(entG (l.drop (qf l+p)) false (last:ByteArray).data.toList).1.toArray⟩:=⟨_,rfl⟩
    have hX1:(entG (l.drop (qf l+p)) false (last:ByteArray).data.toList).1=X.data.toList:=by rw [eX]
    obtain ⟨y,ey⟩:∃ y,y=(entG (l.drop (qf l+p)) false (last:ByteArray).data.toList).2.1:=⟨_,rfl⟩
    rw [← eX,← ey,hX1,qga] at hst;rw [← ey] at hle2;rw [hX1] at hsz;have hsz:X.size≤262144:=hsz;rw [hX1,qga] at hdo;rw [hX1,qga] at hdf;rw [← eX,← ey];clear hX1;clear he eX ey;refine zu ?_;obtain ⟨z,ez⟩:∃ z,z=(slt X last||seq X last):=⟨_,rfl⟩
    rw [← ez] at hst hdo hdf ⊢;clear ez;cases z
    case true=>
     have hdn:=hdo Oo rfl;refine zu ?_;refine zS hm 2 fun wa hm=>zw ?_;refine qa (R:=fun v w'=>DvR l w.heap.size v w'∧Ext w w') (zw ?_);refine zl hm 2 ?_;exact ⟨.err (qf4 hE hoz hO.fine Oo hdn Od) Od Oo Oo rfl,hm.ext⟩
    refine zu ?_;have hx:(numL (l.drop (qf l+p))).1≤4194304:=by
     have hq:(last:ByteArray).data.toList.length=(last:ByteArray).size:=rfl;omega
    refine zcv (qwn l A c (qf l+p) X last w9 hSw hc hl Oo hx Oo) ?_;rintro r wq ⟨rfl,heq⟩;have hm:=hm.call heq;have hR:=hR.call heq
    by_cases hz:(numL (l.drop (qf l+p))).1=comL X.data.toList last.data.toList
    case neg=>
     have hdn:=hdf rfl hz;rw [decide_eq_false hz];refine zu ?_;refine zS hm 2 fun wa hm=>zw ?_;refine qa (R:=fun v w'=>DvR l w.heap.size v w'∧Ext w w') (zw ?_);refine zl hm 2 ?_;exact ⟨.err (qf4 hE hoz hO.fine Oo hdn Od) Od Oo Oo rfl,hm.ext⟩
    rw [decide_eq_true hz];refine zu ?_;refine NewV.rw hR fun nb wn hRn=>zw ?_;refine AppV.one qpe strI strZ Jk rfl (by decide +kernel) hRn rfl Oo ?_;intro B' d' wo hRo;refine zu ?_;refine ⟨(i+1,ts++[X],X,p+y,B',d'),⟨rfl,rfl,rfl,rfl,rfl,(by show ii ((qf l+p+y:Nat):Int)=ii ((qf l+(p+y):Nat):Int);rw [Nat.add_assoc]),rfl,trivial⟩,⟨by simp only;omega,hst (fun _=>rfl) (fun _=>hz),by simp only [List.map_append,List.map_cons,List.map_nil];exact hRo⟩,by simp only;omega⟩
 ·obtain rfl:i=dN l:=by omega
  refine zS hm 2 fun wa hm=>zw ?_;refine qa (R:=fun v w'=>DvR l w.heap.size v w'∧Ext w w') (zw ?_);refine zl hm 2 ?_;exact ⟨.err (qmd hE hoz hO.fine (by rw [hO.dst];omega)) Od (by rw [hO.dst];omega) (by rw [hO.dst]) rfl,hm.ext⟩
 obtain rfl:i=dN l:=by omega
 refine StoreA.same (hm.get (L:=_) Js:w8.heap[r3]?=some (.cells #[ii 0,ii 0] 148)) rfl Od fun w11 he11=>zw ?_;refine qa (R:=fun v w'=>DvR l w.heap.size v w'∧Ext w w') (zw ?_);refine LoadA.mem (hm.call he11) (i:=2) rfl rfl (zw ?_);exact ⟨.inr ⟨by rw [q14 hE hoz hO.fine (by rw [hO.dst];omega)],ts,hO.get,hO.len,B,cc,rfl,qb3 (qgi hR.own hmz) he11⟩,hm.ext.trans he11⟩
theorem qjd (a b:LB):escL (a++b)=escL a++escL b:=by
 induction a with
 | nil=>rfl
 | cons c r ih=>
  by_cases h:c=0
  ·subst h;rw [List.cons_append,qbg,qbg,ih];rfl
  ·rw [List.cons_append,qaw _ h,qaw _ h,ih];rfl
theorem AppV.byt {w0 w:World} {A:oA} {cc nb:Nat} {x:LB} {c:UInt8} {L:List (Nat × Obj)} {ty:TypeId} {K:Value→World→Prop}
  (h:Rw w0 w (.slice A x.length cc) 5 1 x.length (byV x) ((nb,.cells #[.int .u8 c.toNat] 5)::L)) (hn:x.length+1≤8000000000000)
  (hk:∀ A' c' w',Rw w0 w' (.slice A' (x++[c]).length c') 5 1 (x++[c]).length (byV (x++[c])) L→K (.slice A' (x++[c]).length c') w'):AppV Tryz.prog #[22,22] ty (.slice A x.length cc) (.slice (some ⟨nb,0,none⟩) 1 1) w K:=by
 have el:(x++[c]).length=x.length+1:=by simp
 have ev:byV (x++[c])=byV x++[.int .u8 c.toNat]:=by simp [byV]
 refine AppV.one qeh bytI bytZ Jk rfl (by decide +kernel) h rfl hn fun A' c' w' hR=>?_;have:=hk A' c' w';rw [el,ev] at this;exact this hR
theorem AppV.byt2 {w0 w:World} {A:oA} {cc nb:Nat} {x:LB} {L:List (Nat × Obj)} {ty:TypeId} {K:Value→World→Prop}
  (h:Rw w0 w (.slice A x.length cc) 5 1 x.length (byV x) ((nb,.cells #[.int .u8 0,.int .u8 0] 5)::L)) (hn:x.length+2≤8000000000000)
  (hk:∀ A' c' w',Rw w0 w' (.slice A' (x++[0,0]).length c') 5 1 (x++[0,0]).length (byV (x++[0,0])) L→K (.slice A' (x++[0,0]).length c') w'):AppV Tryz.prog #[22,22] ty (.slice A x.length cc) (.slice (some ⟨nb,0,none⟩) 2 2) w K:=by
 refine AppV.rwB (m:=[0,0]) qeh bytI bytZ Jk rfl (by decide +kernel) h ⟨fun _=>⟨nb,0,rfl,fun j y hj k u hu=>?_⟩⟩ Ys (fun A' c' w' hR=>hk A' c' w' hR.tail);cases k with
 | succ k=>simp [encB] at hu
 | zero=>
  simp only [encB,List.getElem?_cons_zero,Option.some.injEq] at hu;subst hu;rw [qd (h.mem.get mh)]
  match j with
  | 0=>cases hj;rfl
  | 1=>cases hj;rfl
  | j+2=>simp at hj
theorem AppV.str {w0 w:World} {A:oA} {cc:Nat} {x:LB} {s:ByteArray} {L:List (Nat × Obj)} {ty:TypeId} {K:Value→World→Prop}
  (h:Rw w0 w (.slice A x.length cc) 5 1 x.length (byV x) L) (hL:qk6 5 L) (hn:x.length+s.size≤8000000000000)
  (hk:∀ A' c' w',Rw w0 w' (.slice A' (x++s.data.toList).length c') 5 1 (x++s.data.toList).length (byV (x++s.data.toList)) L→K (.slice A' (x++s.data.toList).length c') w'):AppV Tryz.prog #[22,9] ty (.slice A x.length cc) (.string s) w K:=by
 have el:(x++s.data.toList).length=x.length+s.size:=by rw [zla];rfl
 have ev:byV (x++s.data.toList)=byV x++byteCells s.data.toList:=by simp [byV,byteCells]
 refine AppV.rwS qeh Tryz.underlying9 bytI bytZ Jk Jk h hL Oo fun v' w' hR=>?_;obtain ⟨A',c',rfl⟩:=hR.slice;have:=hk A' c' w';rw [el,ev] at this;exact this hR
theorem qtu {p q:LB} {i:Nat} {s:LB} (hs:s=p++([0]++q)) (hp:∀ c∈p,c≠0) (hi:s[i]?=some 0) (hn:∀ j,j<i→s[j]?≠some 0):s.take i=p∧s.drop (i+1)=q:=by
 have h1:s[p.length]?=some 0:=by rw [hs,List.getElem?_append_right znr,Nat.sub_self];rfl
 have h2:i=p.length:=by
  rcases Nat.lt_trichotomy i p.length with h|h|h
  ·rw [hs,List.getElem?_append_left h,zge h] at hi;exact absurd (Option.some.inj hi) (hp _ (List.getElem_mem h))
  ·exact h
  ·exact absurd h1 (hn _ h)
 subst h2;refine ⟨by rw [hs,List.take_left],?_⟩;rw [← List.drop_drop,hs,List.drop_left];rfl
theorem qv5 (s:ByteArray) (w:World) (hs:s.size≤4194304) :
  Gv Tryz.prog 113 [.string s] w fun r w'=>(∃ (a b:ByteArray) (z:Bool),r=.tuple #[.string a,.string b,.bool z]∧a.size≤s.size∧b.size≤s.size∧∀ p q,s.data.toList=p++([0]++q)→(∀ c∈p,c≠0)→a.data.toList=p∧b.data.toList=q)∧Ext w w':=by
 refine ze Tryz.func113 Tryz.ntmps113 ?_;refine qr (fun i:Nat=>[(0,.string s),(5,ii i)]) (fun i w'=>i≤s.size∧(∀ j,j<i→s.data.toList[j]?≠some 0)∧w'=w) (fun i=>s.size-i) 0 ⟨rfl,rfl,trivial⟩ ⟨Nat.zero_le _,fun j h=>by omega,rfl⟩ ?_;rintro i w1 ρ' ⟨i1,i2,rfl⟩;conv=>whnf
 (repeat' (first|refine zp ?_|refine zC (fun _=>zw ?_) (fun _=>zw ?_)))
 ·have hz:s.data.toList[i]?=some 0:=by
   rw [qbv Oo];exact congrArg some (UInt8.toNat_inj.1 (by show (gb s i).toNat=0;omega))
  refine zy ?_;refine zv ?_;refine SliceS.at_ 0 i rfl rfl Oo Oo (zu ?_);refine SliceS.at_ (i+1) s.size (by show (_:Int)=_;omega) rfl Oo Oo (zu ?_);refine ⟨⟨_,_,true,rfl,by rw [ByteArray.size_extract];omega,by rw [ByteArray.size_extract];omega,fun p q h1 h2=>?_⟩,xr.drew⟩;obtain ⟨g1,g2⟩:=qtu h1 h2 hz i2;refine ⟨?_,?_⟩
  ·rw [← g1];simp
  ·rw [← g2];simp [List.take_of_length_le]
 ·refine ⟨i+1,⟨rfl,rfl,trivial⟩,⟨by omega,fun j hj=>?_,rfl⟩,by omega⟩
  by_cases e:j=i
  ·subst e;rw [qbv Oo];intro h;have:=congrArg UInt8.toNat (Option.some.inj h);have h0:(0:UInt8).toNat=0:=rfl;omega
  ·exact i2 j Oo
 ·refine ⟨⟨⟨#[]⟩,⟨#[]⟩,false,rfl,Nat.zero_le _,Nat.zero_le _,fun p q h1 h2=>?_⟩,xr⟩;have hlen:p.length<s.size:=by
   have:=congrArg List.length h1;simp only [zla,List.length_cons] at this;have e:s.data.toList.length=s.size:=rfl;omega
  refine absurd ?_ (i2 p.length Oo);rw [h1,List.getElem?_append_right znr,Nat.sub_self];rfl
theorem qfn (t:TM) (ht:TermOk t) (w:World):Gv Tryz.prog 114 [qa4 t] w fun r w'=>r=(if qbf t=0 then .tuple #[.string ⟨(qa5 t).toArray⟩,ii 0] else .tuple #[.string ⟨#[]⟩,ii (qbf t)])∧Ext w w':=by
 refine ze Tryz.func114 Tryz.ntmps114 ?_;refine znm (Mem.nil w) fun tb w1 hm=>zw ?_;refine zl hm 0 ?_;refine zcv (qa7 t ht w1) ?_;rintro r w2 ⟨rfl,he2⟩;have hm:=hm.call he2;obtain ⟨e,ee⟩:∃ e,e=qbf t:=⟨_,rfl⟩
 rw [← ee];conv=>whnf
 (repeat' (first|refine zC (fun _=>zw ?_) (fun _=>zw ?_)|refine LoadV.mem (i:=0) Oa rfl rfl (zw ?_)))
 ·rw [if_neg Oo];exact ⟨rfl,hm.ext⟩
 rw [if_pos Oo]
 ·have h1:qa5 t=t.text.data.toList:=by rw [qa5,if_neg Oa]
  rw [h1];exact ⟨rfl,hm.ext⟩
 have hk3:t.kind=3:=by omega
 have hbl:t.text.data.toList.length=t.text.size:=rfl;have htx:=ht.text;have hty:=ht.type;have htl:=ht.lang;refine qr (fun x:Nat × LB × oA × Nat=>[(1,pp tb),(5,.slice x.2.2.1 x.2.1.length x.2.2.2),(6,ii x.1)])
  (fun x w'=>x.1≤t.text.size∧x.2.1=escL (t.text.data.toList.take x.1)∧Rw w w' (.slice x.2.2.1 x.2.1.length x.2.2.2) 5 1 x.2.1.length (byV x.2.1) [(tb,.cells #[ii t.kind,.string t.text,.string t.type,.string t.lang] 51)]) (fun x=>t.text.size-x.1) (0,[],none,0)
  ⟨rfl,rfl,rfl,trivial⟩ ⟨Nat.zero_le _,rfl,Rw.nil hm⟩ ?_
 clear hm;rintro ⟨i,x,A,c⟩ w3 ρ' ⟨i1,hx,hR⟩;dsimp only at i1 hx hR ⊢;have hxl:=qsb (t.text.data.toList.take i);rw [← hx,List.length_take] at hxl;have hm:=hR.mem;conv=>whnf
 (repeat' (first|refine zp ?_|refine zC (fun _=>zw ?_) (fun _=>zw ?_)|refine LoadV.mem (i:=0) Oa rfl rfl (zw ?_)))
 ·have hgb:t.text.data.toList.take (i+1)=t.text.data.toList.take i++[gb t.text i]:=by
   rw [List.take_add_one,zge Oo,gb,List.getD_eq_getElem?_getD,zge Oo];rfl
  refine NewV.rw hR fun nb w4 hR=>zw ?_;refine AppV.byt (c:=gb t.text i) hR Oo ?_;clear hR;intro B d w5 hR;have hm:=hR.mem;(conv=>whnf);refine LoadV.mem (i:=0) Oa rfl rfl (zw ?_);refine zt ?_;refine zC (fun _=>zu ?_) (fun _=>zu ?_)
  ·refine NewV.rw hR fun nb w6 hR=>zw ?_;refine AppV.byt (c:=1) hR (by rw [zla];simp;omega) ?_;clear hR;intro B2 d2 w7 hR;refine zu ?_;refine ⟨(i+1,x++[gb t.text i]++[1],B2,d2),⟨rfl,rfl,rfl,trivial⟩,⟨by simp only;omega,?_,hR⟩,by simp only;omega⟩;have h0:gb t.text i=0:=UInt8.toNat.inj (by rw [show (0:UInt8).toNat=0 from rfl];omega);simp only;rw [hgb,qjd,hx,h0,qbg];simp [escL]
  ·refine ⟨(i+1,x++[gb t.text i],B,d),⟨rfl,rfl,rfl,trivial⟩,⟨by simp only;omega,?_,hR⟩,by simp only;omega⟩;have h0:gb t.text i≠0:=fun h=>by
    have:(gb t.text i).toNat=0:=by rw [h];rfl
    omega
   simp only;rw [hgb,qjd,hx,qaw _ h0];simp [escL]
 obtain rfl:i=t.text.size:=by omega
 rw [List.take_of_length_le Oo] at hx;have hN:qk6 5 [(tb,Obj.cells #[ii t.kind,.string t.text,.string t.type,.string t.lang] 51)]:=by
  intro y hy c fz h;simp at hy;subst hy;simp at h
 refine NewV.rw hR fun nb w4 hR=>zw ?_;refine AppV.byt2 hR Oo ?_;clear hR;intro B d w5 hR;have hm:=hR.mem;(conv=>whnf);refine LoadV.mem (i:=0) Oa rfl rfl (zw ?_);refine AppV.str hR hN (by rw [zla];simp;omega) ?_;clear hR;intro B d w6 hR;(conv=>whnf);refine NewV.rw hR fun nb w7 hR=>zw ?_;refine AppV.byt (c:=0) hR (by rw [zla,zla,show t.type.data.toList.length=t.type.size from rfl];simp;omega) ?_;clear hR;intro B d w8 hR;have hm:=hR.mem;(conv=>whnf);refine LoadV.mem (i:=0) Oa rfl rfl (zw ?_);refine AppV.str hR hN (by simp only [zla];rw [show t.type.data.toList.length=t.type.size from rfl];simp;omega) ?_;clear hR;intro B d w9 hR;(conv=>whnf);have hB:SlAt encB 1 w9 B (x++[0,0]++t.type.data.toList++[0]++t.lang.data.toList):=V.Rw.slAt (f:=fun c:UInt8=>Value.int .u8 c.toNat) (fun _=>rfl) hR rfl;refine BytesS.sl hB rfl (zw ?_);have hent:qa5 t=x++[0,0]++t.type.data.toList++[0]++t.lang.data.toList:=by
  rw [qa5,if_pos hk3,hx];simp
 rw [hent,if_pos Oo];exact ⟨rfl,hR.mem.ext⟩
def RdR (kind:Int) (s:ByteArray) (r:Value):Prop:=
 (∃ e:Int,e≠0∧(∀ t,¬ ReadsAs kind s.data.toList t)∧r=.tuple #[.agg #[ii 0,.string ⟨#[]⟩,.string ⟨#[]⟩,.string ⟨#[]⟩],ii e])∨(∃ t,ReadsAs kind s.data.toList t∧TermOk t∧r=.tuple #[qa4 t,ii 0])
theorem quu (kind:Int) (hk:kind=1∨kind=2∨kind=3) (s:ByteArray) (hs:s.size≤262144) (w:World):Gv Tryz.prog 60 [ii kind,.string s] w fun r w'=>RdR kind s r∧Ext w w':=by
 rcases hk with rfl|rfl|rfl
 all_goals
  refine ze Tryz.func60 Tryz.ntmps60 ?_;refine znm (Mem.nil w) fun r4 w1 hm=>zw ?_;refine znm hm fun tb w2 hm=>zw ?_;refine zS hm 0 ?_;intro w3 hm
 ·obtain ⟨t,et⟩:∃ t:TM,t=⟨1,s,⟨#[]⟩,⟨#[]⟩⟩:=⟨_,rfl⟩
  have hkind:t.kind=1:=by rw [et]
  have hno:∀ t',ReadsAs 1 s.data.toList t'→t'=t:=fun t' h=>by
   obtain ⟨h1,h2,h3⟩:=h.plain Od;obtain ⟨tk,tt,ty,tl⟩:=t';have h4:=h.kind;dsimp only at h1 h2 h3 h4;rw [et,h4,qb6 h1,h2,h3]
  have ht:TermOk t:=by rw [et];exact ⟨(show InR .i64 1 from ⟨by decide,by decide⟩),by show s.size≤_;omega,(show (0:Nat)≤1048576 by decide),(show (0:Nat)≤1048576 by decide)⟩
  have hm:Mem w w3 [(tb,.cells #[ii t.kind,.string t.text,.string t.type,.string t.lang] 51),(r4,.cells #[ii 0,.string ⟨#[]⟩,.string ⟨#[]⟩,.string ⟨#[]⟩] 51)]:=by rw [et];exact hm
  clear et;refine zu ?_;refine zl hm 0 ?_;refine zcv (qfn t ht w3) ?_;rintro r wt ⟨rfl,het⟩;have hm:=hm.call het
  by_cases e0:qbf t=0
  case neg=>
   have hnr:∀ t',¬ ReadsAs 1 s.data.toList t':=fun t' h=>e0 (by rw [← hno t' h];exact h.ok)
   rw [if_neg e0];obtain ⟨e,ee⟩:∃ e,e=qbf t:=⟨_,rfl⟩
   rw [← ee] at e0 ⊢;refine zu ?_;refine zS hm 1 fun wa hm=>zw ?_;refine qa (R:=fun r w'=>RdR 1 s r∧Ext w w') (zw ?_);refine zl hm 1 ?_;exact ⟨.inl ⟨170,by decide,hnr,rfl⟩,hm.ext⟩
  rw [if_pos e0];refine zu ?_;cases hq:seq ⟨(qa5 t).toArray⟩ s
  case false=>
   have hnr:∀ t',¬ ReadsAs 1 s.data.toList t':=fun t' h=>by
    have h1:(⟨(qa5 t).toArray⟩:ByteArray)=s:=by rw [← hno t' h,h.entry]
    rw [qx.2 h1] at hq;cases hq
   refine zu ?_;refine zS hm 1 fun wa hm=>zw ?_;refine qa (R:=fun r w'=>RdR 1 s r∧Ext w w') (zw ?_);refine zl hm 1 ?_;exact ⟨.inl ⟨170,by decide,hnr,rfl⟩,hm.ext⟩
  refine zu ?_;refine zl hm 0 ?_;refine zS hm 1 fun wa hm=>zw ?_;refine qa (R:=fun r w'=>RdR 1 s r∧Ext w w') (zw ?_);refine zl hm 1 ?_;have hse:=qx.1 hq;exact ⟨.inr ⟨t,⟨hkind,e0,by rw [← hse]⟩,ht,rfl⟩,hm.ext⟩
 ·obtain ⟨t,et⟩:∃ t:TM,t=⟨2,s,⟨#[]⟩,⟨#[]⟩⟩:=⟨_,rfl⟩
  have hkind:t.kind=2:=by rw [et]
  have hno:∀ t',ReadsAs 2 s.data.toList t'→t'=t:=fun t' h=>by
   obtain ⟨h1,h2,h3⟩:=h.plain Od;obtain ⟨tk,tt,ty,tl⟩:=t';have h4:=h.kind;dsimp only at h1 h2 h3 h4;rw [et,h4,qb6 h1,h2,h3]
  have ht:TermOk t:=by rw [et];exact ⟨(show InR .i64 2 from ⟨by decide,by decide⟩),by show s.size≤_;omega,(show (0:Nat)≤1048576 by decide),(show (0:Nat)≤1048576 by decide)⟩
  have hm:Mem w w3 [(tb,.cells #[ii t.kind,.string t.text,.string t.type,.string t.lang] 51),(r4,.cells #[ii 0,.string ⟨#[]⟩,.string ⟨#[]⟩,.string ⟨#[]⟩] 51)]:=by rw [et];exact hm
  clear et;refine zu ?_;refine zl hm 0 ?_;refine zcv (qfn t ht w3) ?_;rintro r wt ⟨rfl,het⟩;have hm:=hm.call het
  by_cases e0:qbf t=0
  case neg=>
   have hnr:∀ t',¬ ReadsAs 2 s.data.toList t':=fun t' h=>e0 (by rw [← hno t' h];exact h.ok)
   rw [if_neg e0];obtain ⟨e,ee⟩:∃ e,e=qbf t:=⟨_,rfl⟩
   rw [← ee] at e0 ⊢;refine zu ?_;refine zS hm 1 fun wa hm=>zw ?_;refine qa (R:=fun r w'=>RdR 2 s r∧Ext w w') (zw ?_);refine zl hm 1 ?_;exact ⟨.inl ⟨170,by decide,hnr,rfl⟩,hm.ext⟩
  rw [if_pos e0];refine zu ?_;cases hq:seq ⟨(qa5 t).toArray⟩ s
  case false=>
   have hnr:∀ t',¬ ReadsAs 2 s.data.toList t':=fun t' h=>by
    have h1:(⟨(qa5 t).toArray⟩:ByteArray)=s:=by rw [← hno t' h,h.entry]
    rw [qx.2 h1] at hq;cases hq
   refine zu ?_;refine zS hm 1 fun wa hm=>zw ?_;refine qa (R:=fun r w'=>RdR 2 s r∧Ext w w') (zw ?_);refine zl hm 1 ?_;exact ⟨.inl ⟨170,by decide,hnr,rfl⟩,hm.ext⟩
  refine zu ?_;refine zl hm 0 ?_;refine zS hm 1 fun wa hm=>zw ?_;refine qa (R:=fun r w'=>RdR 2 s r∧Ext w w') (zw ?_);refine zl hm 1 ?_;have hse:=qx.1 hq;exact ⟨.inr ⟨t,⟨hkind,e0,by rw [← hse]⟩,ht,rfl⟩,hm.ext⟩
 ·have hm:Mem w w3 [(tb,.cells #[ii 3,.string s,.string ⟨#[]⟩,.string ⟨#[]⟩] 51),(r4,.cells #[ii 0,.string ⟨#[]⟩,.string ⟨#[]⟩,.string ⟨#[]⟩] 51)]:=hm;refine zu ?_;refine qr (fun x:Nat × LB × oA × Nat=>[(0,ii 3),(1,.string s),(4,pp r4),(6,pp tb),(7,.slice x.2.2.1 x.2.1.length x.2.2.2),(8,ii x.1)])
   (fun x w'=>x.1≤s.size∧x.2.1.length≤x.1∧ScanI s.data.toList x.1 x.2.1∧Rw w w' (.slice x.2.2.1 x.2.1.length x.2.2.2) 5 1 x.2.1.length (byV x.2.1) [(tb,.cells #[ii 3,.string s,.string ⟨#[]⟩,.string ⟨#[]⟩] 51),(r4,.cells #[ii 0,.string ⟨#[]⟩,.string ⟨#[]⟩,.string ⟨#[]⟩] 51)]) (fun x=>s.size-x.1) (0,[],none,0)
   ⟨rfl,rfl,rfl,rfl,rfl,rfl,trivial⟩ ⟨Nat.zero_le _,Nat.le_refl _,.start _,Rw.nil hm⟩ ?_
  clear hm;rintro ⟨i,x,A,c⟩ w4 ρ' ⟨i1,hx,hsc,hR⟩;dsimp only at i1 hx hsc hR ⊢;have lS:s.data.toList.length=s.size:=rfl;have hu0:(0:UInt8).toNat=0:=rfl;have hm:=hR.mem;conv=>whnf
  (repeat' (first|refine zp ?_|refine zC (fun _=>zw ?_) (fun _=>zw ?_)))
  ·refine NewV.rw hR fun nb w5 hR=>zw ?_;refine AppV.byt (c:=gb s i) hR Oo ?_;clear hR;intro B d w6 hR;refine zu ?_;exact ⟨(i+1,x++[gb s i],B,d),⟨rfl,rfl,rfl,rfl,rfl,rfl,trivial⟩,⟨by simp only;omega,by simp only [zla,List.length_cons,List.length_nil];omega,hsc.one (qbv Oo) (fun h=>by have:=congrArg UInt8.toNat h;omega),hR⟩,by simp only;omega⟩
  ·refine IdxV.at_ (i+1) Oo Oo (zw ?_);refine zt ?_;refine zC (fun _=>zu ?_) (fun _=>zu ?_)
   ·refine NewV.rw hR fun nb w5 hR=>zw ?_;refine AppV.byt (c:=gb s i) hR Oo ?_;clear hR;intro B d w6 hR;refine zu ?_;have hz:gb s i=0:=UInt8.toNat_inj.1 (by show _=0;omega);exact ⟨(i+2,x++[gb s i],B,d),⟨rfl,rfl,rfl,rfl,rfl,rfl,trivial⟩,⟨by simp only;omega,by simp only [zla,List.length_cons,List.length_nil];omega,by rw [hz];exact hsc.two (by rw [qbv Oo,hz]) (qbv Oo) (fun h=>by have:=congrArg UInt8.toNat h;omega),hR⟩,by simp only;omega⟩
   refine SliceS.at_ (i+2) s.size (by show (_:Int)=_;omega) rfl Oo Oo (zw ?_);have hsz:(s.extract (i+2) s.size).size≤s.size:=by rw [ByteArray.size_extract];omega
   refine zcv (qv5 (s.extract (i+2) s.size) w4 Oo) ?_;rintro r w5 ⟨⟨a,b,z,rfl,ha,hb,hab⟩,he5⟩;have hR:=hR.call he5;(conv=>whnf);have hB:SlAt encB 1 w5 A x:=V.Rw.slAt (f:=fun c:UInt8=>Value.int .u8 c.toNat) (fun _=>rfl) hR rfl;refine BytesS.sl hB rfl (zw ?_);obtain ⟨t,et⟩:∃ t:TM,t=⟨3,⟨x.toArray⟩,a,b⟩:=⟨_,rfl⟩
   have hkind:t.kind=3:=by rw [et]
   have hno:∀ t',ReadsAs 3 s.data.toList t'→t'=t:=fun t' h=>by
    obtain ⟨h1,h2⟩:=h.lit;obtain ⟨h3,h4⟩:=hsc.stop h1 (by rw [qbv Oo];exact congrArg some (UInt8.toNat_inj.1 Oo)) (by rw [qbv Oo];exact congrArg some (UInt8.toNat_inj.1 Oo));have h5:(s.extract (i+2) s.size).data.toList=s.data.toList.drop (i+2):=by simp [List.take_of_length_le]
    obtain ⟨h6,h7⟩:=hab _ _ (h5.trans h4) h2;obtain ⟨tk,tt,ty,tl⟩:=t';have h8:=h.kind;dsimp only at h3 h6 h7 h8;rw [et,h8,qb6 h6,qb6 h7,← h3]
   have hxs:(⟨x.toArray⟩:ByteArray).size=x.length:=by show (List.toArray x).size=_;simp
   have ht:TermOk t:=by rw [et];exact ⟨(show InR .i64 3 from ⟨by decide,by decide⟩),by show (⟨x.toArray⟩:ByteArray).size≤_;omega,by show a.size≤_;omega,by show b.size≤_;omega⟩
   refine zS hR.mem 0 ?_;intro w6 hm;have hm:Mem w w6 [(tb,.cells #[ii t.kind,.string t.text,.string t.type,.string t.lang] 51),(r4,.cells #[ii 0,.string ⟨#[]⟩,.string ⟨#[]⟩,.string ⟨#[]⟩] 51)]:=by rw [et];exact hm
   clear et hR;(conv=>whnf);refine zl hm 0 ?_;refine zcv (qfn t ht w6) ?_;rintro r wt ⟨rfl,het⟩;have hm:=hm.call het
   by_cases e0:qbf t=0
   case neg=>
    have hnr:∀ t',¬ ReadsAs 3 s.data.toList t':=fun t' h=>e0 (by rw [← hno t' h];exact h.ok)
    rw [if_neg e0];obtain ⟨e,ee⟩:∃ e,e=qbf t:=⟨_,rfl⟩
    rw [← ee] at e0 ⊢;refine zu ?_;refine zS hm 1 fun wa hm=>zw ?_;refine qa (R:=fun r w'=>RdR 3 s r∧Ext w w') (zw ?_);refine zl hm 1 ?_;exact ⟨.inl ⟨170,by decide,hnr,rfl⟩,hm.ext⟩
   rw [if_pos e0];refine zu ?_;cases hq:seq ⟨(qa5 t).toArray⟩ s
   case false=>
    have hnr:∀ t',¬ ReadsAs 3 s.data.toList t':=fun t' h=>by
     have h1:(⟨(qa5 t).toArray⟩:ByteArray)=s:=by rw [← hno t' h,h.entry]
     rw [qx.2 h1] at hq;cases hq
    refine zu ?_;refine zS hm 1 fun wa hm=>zw ?_;refine qa (R:=fun r w'=>RdR 3 s r∧Ext w w') (zw ?_);refine zl hm 1 ?_;exact ⟨.inl ⟨170,by decide,hnr,rfl⟩,hm.ext⟩
   refine zu ?_;refine zl hm 0 ?_;refine zS hm 1 fun wa hm=>zw ?_;refine qa (R:=fun r w'=>RdR 3 s r∧Ext w w') (zw ?_);refine zl hm 1 ?_;have hse:=qx.1 hq;exact ⟨.inr ⟨t,⟨hkind,e0,by rw [← hse]⟩,ht,rfl⟩,hm.ext⟩
  ·have hnr:∀ t',¬ ReadsAs 3 s.data.toList t':=fun t' h=>by
    have:=hsc.end_ h.lit.1;omega
   refine zS hm 1 fun wa hm=>zw ?_;refine qa (R:=fun r w'=>RdR 3 s r∧Ext w w') (zw ?_);refine zl hm 1 ?_;exact ⟨.inl ⟨170,by decide,hnr,rfl⟩,hm.ext⟩
def SpR (l:LB) (r:Value):Prop:=
 ((sE l).2≠0∧∃ G:Nat→Int,r=.tuple #[.agg (fnA 4 (inF G)),fltV (sE l).1 (sE l).2])∨
 ((sE l).2=0∧∃ G:Nat→Int,(∀ k,k≤3→G k=((qk l k:Nat):Int))∧r=.tuple #[.agg (fnA 4 (inF G)),fltV 0 0])
theorem qp9 (w:World):Gv Tryz.prog 59 [] w fun r w'=>r=.agg #[ii 1,ii 2,ii 3]∧Ext w w':=by
 refine ze Tryz.func59 Tryz.ntmps59 ?_;refine znm (Mem.nil w) fun r0 w1 hm=>zw ?_;refine zS hm 0 fun w2 hm=>zw ?_;refine qa (R:=fun r w'=>r=.agg #[ii 1,ii 2,ii 3]∧Ext w w') (zw ?_);refine zl hm 0 ?_;exact ⟨rfl,hm.ext⟩
theorem qsw {l:LB} {k:Nat} (h:∀ j,j<k→(vsF l j).2=0) (hk:k<3) (he:(vsF l k).2≠0):sE l=vsF l k:=by
 have:=qar (f:=vsF l) h hk he;rw [sE,this,if_pos he]
theorem qq5 (l:LB) (A:oA) (c:Nat) (w:World) (hS:SlAt encB 1 w A l) (hc:l.length≤c) (hl:l.length≤70368744177664) :
  Gv Tryz.prog 57 [.slice A l.length c] w fun r w'=>SpR l r∧Ext w w':=by
 refine ze Tryz.func57 Tryz.ntmps57 ?_;refine znm (Mem.nil w) fun r2 w1 hm=>zw ?_;refine znm hm fun r3 w2 hm=>zw ?_;refine znm hm fun sb w3 hm=>zw ?_;refine znm hm fun cb w4 hm=>zw ?_;refine znm hm fun pb w5 hm=>zw ?_;refine qr (fun x:Nat × (Nat→Int)=>[(0,.slice A l.length c),(2,pp r2),(3,pp r3),(4,pp sb),(5,pp cb),(6,pp pb),(7,ii x.1)])
  (fun x w'=>x.1≤3∧(∀ j,j<x.1→(vsF l j).2=0)∧(∀ j,j<x.1→x.2 j=((vNum l j:Nat):Int))∧Mem w w' [(pb,.cells (fnA 3 (inF (x.2))) 126),(cb,curO 212 (.slice A l.length c) (vAt l x.1) 0),(sb,.cells (fnA 4 (inF (fun _:Nat=>(0:Int)))) 81),(r3,.cells #[ii 0,ii 0] 36),(r2,.cells (fnA 4 (inF (fun _=>0))) 81)]) (fun x=>3-x.1) (0,fun _:Nat=>(0:Int))
  ⟨rfl,rfl,rfl,rfl,rfl,rfl,rfl,trivial⟩ ⟨by simp,fun j h=>by simp at h,fun j h=>by simp at h,hm⟩ ?_
 clear hm;rintro ⟨k,Q⟩ w6 ρ' ⟨k1,hz,hQ,hm⟩;dsimp only at k1 hz hQ hm ⊢;have hle:=qb5 l k;have hlt:=qfx l k;(conv=>whnf);refine zC (fun _=>zw ?_) (fun _=>zw ?_)
 ·refine zr hm 1 ?_;refine zcv (qng cb _ (vAt l k) 0 l w6 (hm.get Js) ⟨A,c,rfl,hc,hS.ext hm.ext⟩ hle Oo) ?_;rintro r w7 ⟨rfl,hu⟩
  by_cases he:(numL (l.drop (vAt l k))).2.2=0
  case neg=>
   rw [qi1 he,qi2 he] at hu;rw [qi0 he];obtain ⟨q,eq⟩:∃ q,q=(numL (l.drop (vAt l k))).2.2:=⟨_,rfl⟩
   have hf:vsF l k=(vAt l k,q):=by rw [vsF,qd1 he,eq]
   rw [← eq] at hu he;have hE:sE l=(vAt l k,q):=by rw [qsw hz Oo (by rw [hf];exact he),hf]
   have hm:Mem w w7 [(pb,.cells (fnA 3 (inF (Q))) 126),(cb,curO 212 (.slice A l.length c) (vAt l k) q),(sb,.cells (fnA 4 (inF (fun _:Nat=>(0:Int)))) 81),(r3,.cells #[ii 0,ii 0] 36),(r2,.cells (fnA 4 (inF (fun _=>0))) 81)]:=hm.upd (i:=1) rfl hu;(conv=>whnf);refine zr hm 1 ?_;refine zv ?_;refine DrawV.inv (fun S w'=>Mem w w' [(pb,.cells (fnA 3 (inF (Q))) 126),(cb,curO 212 (.slice A l.length c) (vAt l k) q),(sb,.cells (fnA 4 (inF (fun _:Nat=>(0:Int)))) 81),(r3,.cells (bif S 8 then #[ii (vAt l k:Nat),ii (q:Nat)] else #[ii 0,ii 0]) 36),(r2,.cells (fnA 4 (inF (fun _=>0))) 81)]) rfl Jk hm.drew ?_;clear hm;(conv=>whnf);refine StepI.of (.agg (fnA 4 (inF fun _=>0))) (fun S wd hk hp hI=>zw ?_) (zw ?_)
   ·refine LoadA.mem hI (i:=2) rfl (by simp [qp];rfl) (zw ?_);exact ⟨rfl,hI⟩
   (iterate 4 (refine zi ?_));refine StepI.of (ii (q:Nat)) (fun S wd hk hp hI=>zw ?_) (zw ?_)
   ·refine zr hI 1 ?_;exact ⟨rfl,hI⟩
   refine zi ?_;refine StepI.of undef (fun S wd hk hp hI=>zw ?_) (zw ?_)
   ·refine StoreA.all hI (i:=4) rfl (by simp [qp]) (qbh 4 _) fun wx hmx=>zw ?_;exact ⟨rfl,hmx⟩
   refine StepI.of undef (fun S wd hk hp hI=>?_) (zw ?_)
   ·dsimp only at hI;rw [hk] at hI;(conv=>whnf);refine zS hI 3 fun wx hmx=>zw ?_;exact ⟨rfl,hmx⟩
   intro wz hm;(conv=>whnf);refine qa (R:=fun r w'=>SpR l r∧Ext w w') (zw ?_);refine LoadA.mem hm (i:=4) rfl (by simp [qp];rfl) (zw ?_);refine zl hm 3 ?_;exact ⟨.inl ⟨by rw [hE];exact he,fun _=>0,by rw [hE];rfl⟩,hm.ext⟩
  rw [qi4 he,qi5 he] at hu;rw [qi3 he];have hm:Mem w w7 [(pb,.cells (fnA 3 (inF (Q))) 126),(cb,curO 212 (.slice A l.length c) (vAt l (k+1)) 0),(sb,.cells (fnA 4 (inF (fun _:Nat=>(0:Int)))) 81),(r3,.cells #[ii 0,ii 0] 36),(r2,.cells (fnA 4 (inF (fun _=>0))) 81)]:=hm.upd (i:=1) rfl hu;(conv=>whnf);refine zr hm 1 ?_;refine zt ?_;refine zC (fun _=>zu ?_) (fun _=>zu ?_)
  ·have hf:vsF l k=(vAt l k,2):=by rw [vsF,qcv he Oo]
   have hE:sE l=(vAt l k,2):=by rw [qsw hz Oo (by rw [hf];simp),hf]
   refine LoadA.mem hm (i:=2) rfl (by simp [qp];rfl) (zw ?_);refine StoreA.all hm (i:=4) rfl (by simp [qp]) (qbh 4 fun _=>0) fun wa hm=>zw ?_;refine zS hm 3 fun wb hm=>zw ?_;refine qa (R:=fun r w'=>SpR l r∧Ext w w') (zw ?_);refine LoadA.mem hm (i:=4) rfl (by simp;rfl) (zw ?_);refine zl hm 3 ?_;exact ⟨.inl ⟨by rw [hE];simp,fun _=>0,by rw [hE];rfl⟩,hm.ext⟩
  have hf:(vsF l k).2=0:=by rw [vsF,qb7 he Oo]
  refine StoreV.fi (x:=((vNum l k:Nat):Int)) hm (i:=0) rfl k (by rw [show tsz Tryz.prog 3=1 from by kernel_rfl];omega) Oo fun w8 hm=>zu ?_;refine ⟨(k+1,updI Q k (vNum l k:Nat)),⟨rfl,rfl,rfl,rfl,rfl,rfl,rfl,trivial⟩,⟨by simp only;omega,fun j hj=>?_,fun j hj=>?_,hm⟩,by simp only;omega⟩
  ·by_cases e:j=k
   ·subst e;exact hf
   ·exact hz j (by simp only at hj;omega)
  ·simp only at hj ⊢
   by_cases e:j=k
   ·subst e;exact qb4 _ _ _
   ·rw [qap _ _ _ _ e];exact hQ j Oo
 obtain rfl:k=3:=by omega
 have hno:¬ (errF (vsF l) 3).2≠0:=by
  have:=qaa hz;omega
 have hvb:∀ j,j<3→vNum l j≤67108864:=fun j hj=>qcg (hz j hj)
 refine zr hm 1 ?_;refine zJ 0 ?_;(conv=>whnf);refine StoreV.fi (x:=((vAt l 3:Nat):Int)) hm (i:=2) rfl 0 (by rw [show tsz Tryz.prog 3=1 from by kernel_rfl]) Oo fun w7 hm=>zw ?_;refine qr (fun x:Nat × (Nat→Int)=>[(0,.slice A l.length c),(2,pp r2),(3,pp r3),(4,pp sb),(6,pp pb),(10,ii x.1)])
  (fun x w'=>x.1≤3∧(∀ j,j≤x.1→x.2 j=((qk l j:Nat):Int))∧qk l x.1≤l.length+67108864*x.1∧Mem w w' [(pb,.cells (fnA 3 (inF (Q))) 126),(cb,curO 212 (.slice A l.length c) (vAt l 3) 0),(sb,.cells (fnA 4 (inF (x.2))) 81),(r3,.cells #[ii 0,ii 0] 36),(r2,.cells (fnA 4 (inF (fun _=>0))) 81)]) (fun x=>3-x.1) (0,updI (fun _=>0) 0 (vAt l 3:Nat))
  ⟨rfl,rfl,rfl,rfl,rfl,rfl,trivial⟩ ⟨by simp,fun j h=>by obtain rfl:j=0:=(by simpa using h);exact (qb4 (fun _=>0) 0 ((vAt l 3:Nat):Int)),(by have hq:qk l 0≤l.length:=hle;simpa using hq),hm⟩ ?_
 clear hm;rintro ⟨k,P⟩ w8 ρ2 ⟨k2,hP,hpl,hm⟩;dsimp only at k2 hP hpl hm ⊢;conv=>whnf
 (repeat' (first|refine zC (fun _=>zw ?_) (fun _=>zw ?_)|(refine zJ 3 ?_;(conv=>whnf))))
 ·have hpk:=hP k znr;have hqk:=hQ k Oo;have hvk:=hvb k Oo;have hsp:qk l (k+1)=qk l k+vNum l k:=rfl;obtain ⟨y,ey⟩:∃ y,y=qk l k:=⟨_,rfl⟩
  obtain ⟨z,ez⟩:∃ z,z=vNum l k:=⟨_,rfl⟩
  rw [← ey] at hpk hpl hsp;rw [← ez] at hqk hvk hsp;refine DrawV.own rfl Jk (zw ?_);(iterate 3 (refine zo ?_));apply StepO.still
  ·intro wd hd;(conv=>whnf);refine IdxV.at_ (k) Oo Oo (zw ?_);exact PostO.still xr rfl
  (conv=>whnf);apply StepO.still
  ·intro wd hd;(conv=>whnf);refine LoadV.fi (x:=((y:Nat):Int)) (Mem.call (Mem.drew hm) hd) (i:=2) rfl (k) (by rw [show tsz Tryz.prog 3=1 from by kernel_rfl];omega) Oo hpk (zw ?_);exact PostO.still xr rfl
  (conv=>whnf);refine zo ?_;apply StepO.still
  ·intro wd hd;(conv=>whnf);refine IdxV.at_ (k) Oo Oo (zw ?_);exact PostO.still xr rfl
  (conv=>whnf);apply StepO.still
  ·intro wd hd;(conv=>whnf);refine LoadV.fi (x:=((z:Nat):Int)) (Mem.call (Mem.drew hm) hd) (i:=0) rfl (k) (by rw [show tsz Tryz.prog 3=1 from by kernel_rfl];omega) Oo hqk (zw ?_);exact PostO.still xr rfl
  (conv=>whnf);refine zo ?_;apply StepO.still
  ·intro wd hd;(conv=>whnf);refine IdxV.at_ (k+1) Oo Oo (zw ?_);exact PostO.still xr rfl
  (conv=>whnf);intro w9 hd9
  (repeat (intro _;(conv=>whnf)))
  (conv=>whnf);refine StoreV.fi (x:=((y:Nat):Int)+((z:Nat):Int)) (hm.drew.call hd9) (i:=2) rfl (k+1) (by rw [show tsz Tryz.prog 3=1 from by kernel_rfl];omega) Oo fun w10 hm=>zu ?_;refine ⟨(k+1,updI P (k+1) (((y:Nat):Int)+((z:Nat):Int))),⟨rfl,rfl,rfl,rfl,rfl,rfl,trivial⟩,⟨by simp only;omega,fun j hj=>?_,by simp only;omega,hm⟩,by simp only;omega⟩;simp only at hj ⊢
  by_cases e:j=k+1
  ·subst e;rw [qb4,hsp];omega
  ·rw [qap _ _ _ _ e];exact hP j Oo
 obtain rfl:k=3:=by omega
 refine LoadV.fi (x:=((qk l 3:Nat):Int)) hm (i:=2) rfl 3 (by rw [show tsz Tryz.prog 3=1 from by kernel_rfl]) Oo (hP 3 Oo) (zw ?_)
 (repeat' (first|refine zC (fun _=>zw ?_) (fun _=>zw ?_)|(refine zJ 3 ?_;(conv=>whnf))))
 ·have hE:sE l=(l.length,10):=by rw [sE,if_neg hno,if_pos Oo]
  refine LoadA.mem hm (i:=2) rfl (by simp [qp];rfl) (zw ?_);refine StoreA.all hm (i:=4) rfl (by simp [qp]) (qbh 4 P) fun wa hm=>zw ?_;refine zS hm 3 fun wb hm=>zw ?_;refine qa (R:=fun r w'=>SpR l r∧Ext w w') (zw ?_);refine LoadA.mem hm (i:=4) rfl (by simp;rfl) (zw ?_);refine zl hm 3 ?_;exact ⟨.inl ⟨by rw [hE];simp,P,by rw [hE];rfl⟩,hm.ext⟩
 refine LoadV.fi (x:=((qk l 3:Nat):Int)) hm (i:=2) rfl 3 (by rw [show tsz Tryz.prog 3=1 from by kernel_rfl]) Oo (hP 3 Oo) (zw ?_);refine zC (fun _=>zw ?_) (fun _=>zw ?_)
 ·have hE:sE l=(qk l 3,13):=by rw [sE,if_neg hno,if_neg Oo,if_pos Oo]
  refine DrawV.inv (fun S w'=>Mem w w' [(pb,.cells (fnA 3 (inF (Q))) 126),(cb,curO 212 (.slice A l.length c) (vAt l 3) 0),(sb,.cells (fnA 4 (inF (P))) 81),(r3,.cells (bif S 5 then #[ii (qk l 3:Nat),ii 13] else #[ii 0,ii 0]) 36),(r2,.cells (bif S 4 then fnA 4 (inF P) else fnA 4 (inF fun _=>0)) 81)]) rfl Jk hm.drew ?_;clear hm;(conv=>whnf);refine StepI.of (.agg (fnA 4 (inF P))) (fun S wd hk hp hI=>zw ?_) (zw ?_)
  ·refine LoadA.mem hI (i:=2) rfl (by simp [qp];rfl) (zw ?_);exact ⟨rfl,hI⟩
  refine zI ?_ (by intro S wd hk hp hI;(conv=>whnf);refine zJ 3 ?_;(conv=>whnf);exact ⟨rfl,hI⟩);(conv=>whnf);refine StepI.of (ii (qk l 3:Nat)) (fun S wd hk hp hI=>zw ?_) (zw ?_)
  ·refine LoadV.fi (x:=((qk l 3:Nat):Int)) hI (i:=2) rfl 3 (by rw [show tsz Tryz.prog 3=1 from by kernel_rfl]) Oo (hP 3 Oo) (zw ?_);exact ⟨rfl,hI⟩
  refine zi ?_;refine StepI.of undef (fun S wd hk hp hI=>?_) (zw ?_)
  ·dsimp only at hI;rw [hk] at hI;(conv=>whnf);refine StoreA.all hI (i:=4) rfl (by simp [qp]) (qbh 4 P) fun wx hmx=>zw ?_;exact ⟨rfl,hmx⟩
  refine StepI.of undef (fun S wd hk hp hI=>?_) (zw ?_)
  ·dsimp only at hI;rw [hk] at hI;(conv=>whnf);refine zS hI 3 fun wx hmx=>zw ?_;exact ⟨rfl,hmx⟩
  intro wz hm;(conv=>whnf);refine qa (R:=fun r w'=>SpR l r∧Ext w w') (zw ?_);refine LoadA.mem hm (i:=4) rfl (by simp [qp];rfl) (zw ?_);refine zl hm 3 ?_;exact ⟨.inl ⟨by rw [hE];simp,P,by rw [hE];rfl⟩,hm.ext⟩
 have hE:sE l=(0,0):=by rw [sE,if_neg hno,if_neg Oo,if_neg Oo]
 refine LoadA.mem hm (i:=2) rfl (by simp [qp];rfl) (zw ?_);refine StoreA.all hm (i:=4) rfl (by simp [qp]) (qbh 4 P) fun wa hm=>zw ?_;refine zS hm 3 fun wb hm=>zw ?_;refine qa (R:=fun r w'=>SpR l r∧Ext w w') (zw ?_);refine LoadA.mem hm (i:=4) rfl (by simp;rfl) (zw ?_);refine zl hm 3 ?_;exact ⟨.inr ⟨by rw [hE],P,fun k hk=>hP k hk,rfl⟩,hm.ext⟩
theorem qsj {w0 w w':World} {L L2:List (Nat × Obj)} (h:Mem w0 w L) (hm:Mem w w' L2):Mem w0 w' (L++L2):=by
 have hc:=h.call hm.ext;refine ⟨hc.ext,fun x hx=>?_,?_⟩
 ·rcases List.mem_append.1 hx with hx|hx
  ·exact hc.own x hx
  ·exact ⟨Nat.le_trans h.ext.size (hm.own x hx).1,(hm.own x hx).2⟩
 ·rw [List.map_append,List.nodup_append];refine ⟨h.nodup,hm.nodup,fun a ha b hb hab=>?_⟩;obtain ⟨x,hx,rfl⟩:=List.mem_map.1 ha;obtain ⟨y,hy,rfl⟩:=List.mem_map.1 hb;have h1:=(hm.own y hy).1;have h2:=h.lt (b:=x.1) (o:=x.2) hx;omega
def LevV (l:LB) (m:Nat) (u v:Value) (R:List (Nat × Obj)):Prop:=
 (0<m→LvlV l m)∧∃ A ca B nb cb bs,u=.slice A (vNum l m) ca∧v=.slice B nb cb∧RowB 116 (unpV (qj l m) (vNum l m) (tw l m)) R u∧RowB 4 (bs.map Value.bool) R v∧(0<m→nb=vNum l m∧bs=bitL (qi l m) (vNum l m))
theorem LevV.keep {l:LB} {m:Nat} {u v:Value} {R R':List (Nat × Obj)} (h:LevV l m u v R) (hk:∀ x∈R,x∈R'):LevV l m u v R':=by
 obtain ⟨h1,A,ca,B,nb,cb,bs,h2,h3,h4,h5,h6⟩:=h;exact ⟨h1,A,ca,B,nb,cb,bs,h2,h3,h4.keep fun y hy _=>hk y hy,h5.keep fun y hy _=>hk y hy,h6⟩
theorem q28 (n:Nat) (G:Nat→Value) (i:Nat) (u v:Value) (h:i+2≤n):((fnA n G).toList.take i++[u,v]++(fnA n G).toList.drop (i+2)).toArray=fnA n (updF (updF G i u) (i+1) v):=by
 rw [← Array.toList_inj];simp only [fnA];apply List.ext_getElem?;intro j;rw [List.append_assoc,List.getElem?_append,List.getElem?_map];simp only [List.length_take,List.length_map,List.length_range,Nat.min_eq_left (show i≤n by omega)]
 by_cases h1:j<i
 ·rw [if_pos h1,List.getElem?_take,if_pos h1,List.getElem?_map,List.getElem?_range Oo];simp [updF,show j≠i by omega,show j≠i+1 by omega]
 ·rw [if_neg h1]
  by_cases h2:j=i
  ·subst h2;rw [Nat.sub_self,List.getElem?_range Oo];simp [updF]
  ·by_cases h3:j=i+1
   ·subst h3;rw [Nat.add_sub_cancel_left,List.getElem?_range Oo];simp [updF]
   ·obtain ⟨d,rfl⟩:∃ d,j=i+2+d:=⟨j-(i+2),by omega⟩
    rw [show i+2+d-i=d+1+1 by omega];simp only [List.cons_append,List.nil_append,List.getElem?_cons_succ,List.getElem?_drop,List.getElem?_map]
    by_cases h4:i+2+d<n
    ·rw [List.getElem?_range h4];simp [updF,show i+2+d≠i by omega,show i+2+d≠i+1 by omega]
    ·rw [List.getElem?_eq_none Ys];rfl
theorem q38 {w0 w:World} {v:Value} {e:TypeId} {size m:Nat} {xs:List Value} {L:List (Nat × Obj)} {i b off n:Nat} {F:Nat→Int} {t:TypeId} {x:Int} {K:World→Prop} (h:Rw w0 w v e size m xs L) (hi:L[i]?=some (b,.cells (fnA n (inF F)) t)) (j:Nat) (e':off=j) (hj:j<n)
  (hk:∀ w',Rw w0 w' v e size m xs (L.set i (b,.cells (fnA n (inF (updI F j x))) t))→K w'):StoreV w b off (ii x) K:=by
 subst e';refine StoreV.own (h.mem.get (zmg hi)) (by rw [qp];exact hj) rfl fun w' hw=>hk w' ?_;have:=Rw.setCell h hi hw
 rwa [qjg,qy3] at this
def idsC (l:LB) (i:Nat):List Value:=[ii (tNum l i 0),ii (tNum l i 1),ii (tNum l i 2),ii (tNum l i 3)]
def idsL (l:LB) (n:Nat):List Value:=((List.range n).map (idsC l)).flatten
theorem qt8 (l:LB) (k most:Nat):(numE l k most).1≤l.length:=by
 unfold numE
 split
 ·exact qb5 l k
 ·split
  ·exact qb5 l k
  ·exact Nat.zero_le _
theorem qmg {f:Nat→Nat × Nat} {B:Nat}:∀ n,(∀ k,k<n→(f k).1≤B)→(errF f n).1≤B
 | 0,_=>Nat.zero_le _
 | n+1,h=>by
  rw [errF]
  split
  ·exact qmg n fun k hk=>h k Oo
  ·exact h n Oo
theorem q6l (l:LB):(tE l).1≤l.length:=by
 have h1:∀ k,(tcF l k).1≤l.length:=fun k=>by
  have:=qt8 l k 1048576;have:=qb5 l k;unfold tcF
  split
  ·assumption
  ·split
   ·assumption
   ·exact Nat.zero_le _
 have h2:∀ k,(tvF l k).1≤l.length:=fun k=>by
  unfold tvF
  split
  ·exact Nat.le_refl _
  ·split
   ·show tvAt l k≤_;omega
   ·split
    ·exact Nat.le_refl _
    ·exact Nat.zero_le _
 unfold tE
 split
 ·exact qmg 4 fun k _=>h1 k
 ·split
  ·exact qmg 4 fun k _=>h2 k
  ·split
   ·show tvAt l 4≤_;omega
   ·exact Nat.zero_le _
def TopR (l:LB) (base:Nat) (v:Value) (w:World):Prop:=
 ((toE l).2≠0∧(toE l).1≤1125899906842624∧v=.tuple #[.slice none 0 0,fltV (toE l).1 (toE l).2])∨
 ((toE l).2=0∧(∀ k,1≤k→k≤3→LvlV l k)∧∃ B c,v=.tuple #[.slice B (vNum l 3) c,fltV 0 0]∧w.ownsRow base 82 4 (.slice B (vNum l 3) c) (vNum l 3) (idsL l (vNum l 3)))
theorem TopR.err {l:LB} {base:Nat} {w:World} {a e:Nat} {x y:Int} (h:toE l=(a,e)) (h0:e≠0) (hb:a≤1125899906842624) (h1:x=a) (h2:y=e):TopR l base (.tuple #[.slice none 0 0,.agg #[ii x,ii y]]) w:=by
 subst h1 h2;refine .inl ?_;rw [h];exact ⟨h0,hb,rfl⟩
theorem q6e:Tryz.prog.underlying 90=some (.slice 82):=Tryz.underlying90
theorem idsI:Tryz.prog.info? 82=some ((Tryz.prog.info? 82).get Jk):=(Option.some_get _).symm
theorem idsZ:((Tryz.prog.info? 82).get Jk).zero=some ((((Tryz.prog.info? 82).get Jk).zero).get Jk):=(Option.some_get _).symm
theorem qyx (l:LB) (A:oA) (c:Nat) (w:World) (hS:SlAt encB 1 w A l) (hc:l.length≤c) (hl:l.length≤67108864) :
  Gv Tryz.prog 33 [.slice A l.length c] w fun v w'=>TopR l w.heap.size v w'∧Ext w w':=by
 have hop:=fun k F w' (hS':SlAt encB 1 w' A l)=>quc l A c k F w' hS' hc hl
 refine ze Tryz.func33 Tryz.ntmps33 ?_;refine znm (Mem.nil w) fun r3 w1 hm=>zw ?_;refine zcv (qyh l A _ c w1 (hS.ext hm.ext) rfl hc Oo) ?_;rintro r w2 ⟨hT,he2⟩;have hm:=hm.call he2
 rcases hT with ⟨hE,F,rfl⟩|⟨hE,F,hF,rfl⟩
 ·(conv=>whnf);refine znm hm fun hb w3 hm=>zw ?_;refine znm hm fun fb w4 hm=>zw ?_;refine StoreA.all hm (i:=1) rfl (by simp [qp]) (qbh 13 F) fun w5 hm=>zw ?_;refine zS hm 0 fun w6 hm=>zw ?_;refine zr hm 0 ?_;refine zv ?_;refine DrawV.inv (fun S w'=>Mem w w' ([(fb,.cells #[ii (tE l).1,ii (tE l).2] 92),(hb,.cells (fnA 13 (inF F)) 155),(r3,.cells (bif S 2 then #[ii (tE l).1,ii (tE l).2] else #[ii 0,ii 0]) 92)])) rfl Jk hm.drew ?_;clear hm;(conv=>whnf);refine StepI.of (.agg #[ii (tE l).1,ii (tE l).2]) (fun S wd hk hp hI=>zw ?_) (zw ?_)
  ·refine zl hI 0 ?_;exact ⟨rfl,hI⟩
  refine zi ?_;refine StepI.of undef (fun S wd hk hp hI=>?_) (zw ?_)
  ·dsimp only at hI;rw [hk] at hI;(conv=>whnf);refine zS hI 2 fun wx hmx=>zw ?_;exact ⟨rfl,hmx⟩
  intro wz hm;(conv=>whnf);refine qa (R:=fun v w'=>TopR l w.heap.size v w'∧Ext w w') (zw ?_);refine zl hm 2 ?_;exact ⟨.err (a:=(tE l).1) (e:=(tE l).2) (q1k hE) hE (by have:=q6l l;omega) rfl rfl,hm.ext⟩
 (conv=>whnf);refine znm hm fun hb w3 hm=>zw ?_;refine znm hm fun fb w4 hm=>zw ?_;refine StoreA.all hm (i:=1) rfl (by simp [qp]) (qbh 13 F) fun w5 hm=>zw ?_;refine zS hm 0 fun w6 hm=>zw ?_;refine zr hm 0 ?_;refine zv ?_;refine znm hm ?_;intro lv w7 hm;have hm:Mem w w7 [(lv,.cells (fnA 8 fun _=>.slice none 0 0) 162),(fb,.cells #[ii 0,ii 0] 92),(hb,.cells (fnA 13 (inF F)) 155),(r3,.cells #[ii 0,ii 0] 92)]:=hm;(conv=>whnf);refine qr (fun k:Nat=>[(0,.slice A l.length c),(3,pp r3),(4,pp hb),(6,pp lv),(7,ii k)])
  (fun k w'=>k≤4∧∃ G R,Mem w w' ((lv,.cells (fnA 8 G) 162)::(fb,.cells #[ii 0,ii 0] 92)::(hb,.cells (fnA 13 (inF F)) 155)::(r3,.cells #[ii 0,ii 0] 92)::R)∧(∀ m,m<k→(lvE l m).2=0)∧∀ m,m<k→LevV l m (G (2*m)) (G (2*m+1)) R) (fun k=>4-k) 0
  ⟨rfl,rfl,rfl,rfl,rfl,trivial⟩ ⟨by omega,_,[],hm,fun m h=>by omega,fun m h=>by omega⟩ ?_
 clear hm;rintro k w8 ρ' ⟨k1,G,R,hm,hlv,hG⟩;(conv=>whnf);refine zC (fun _=>zw ?_) (fun _=>zw ?_)
 ·refine LoadA.mem hm (i:=2) rfl (by simp [qp];rfl) (zw ?_);refine zcv (hop k F w8 (hS.ext hm.ext) hF hE Oo) ?_;rintro r w9 (⟨hx,he0,hab,A1,n1,c1,A2,n2,c2,rfl⟩|⟨hlz,hLv,A1,ca,B,nb,cb,R2,bs,rfl,hm2,hr1,hr2,hbs⟩)
  ·have hm:=hm.call hx;have hto:=q5w hE hlv Oo he0;obtain ⟨a,ea⟩:∃ a:Nat,a=(lvE l k).1:=⟨_,rfl⟩
   obtain ⟨e,ee⟩:∃ e:Nat,e=(lvE l k).2:=⟨_,rfl⟩
   have hto:toE l=(a,e):=by rw [hto,ea,ee]
   rw [← ea] at hab;rw [← ea,← ee];rw [← ee] at he0;have he0i:(e:Int)≠0:=by omega
   unfold fltV;(conv=>whnf);refine znm hm fun eb w10 hm=>zw ?_;refine znm hm fun gb w11 hm=>zw ?_;refine zS hm 1 fun w12 hm=>zw ?_;refine zS hm 0 fun w13 hm=>zw ?_;refine zr hm 0 ?_;refine zv ?_;refine DrawV.inv (fun S w'=>Mem w w' ((gb,.cells #[ii a,ii e] 92)::(eb,.cells #[.slice A1 n1 c1,.slice A2 n2 c2] 161)::(lv,.cells (fnA 8 G) 162)::(fb,.cells #[ii 0,ii 0] 92)::(hb,.cells (fnA 13 (inF F)) 155)::(r3,.cells (bif S 2 then #[ii a,ii e] else #[ii 0,ii 0]) 92)::R)) rfl Jk hm.drew ?_;clear hm;(conv=>whnf);refine StepI.of (.agg #[ii a,ii e]) (fun S wd hk hp hI=>zw ?_) (zw ?_)
   ·refine zl hI 0 ?_;exact ⟨rfl,hI⟩
   refine zi ?_;refine StepI.of undef (fun S wd hk hp hI=>?_) (zw ?_)
   ·dsimp only at hI;rw [hk] at hI;(conv=>whnf);refine zS hI 5 fun wx hmx=>zw ?_;exact ⟨rfl,hmx⟩
   intro wz hm;(conv=>whnf);refine qa (R:=fun v w'=>TopR l w.heap.size v w'∧Ext w w') (zw ?_);refine zl hm 5 ?_;exact ⟨.err hto he0 hab rfl rfl,hm.ext⟩
  ·have hm:=qsj hm hm2;have hm:Mem w w9 ((lv,.cells (fnA 8 G) 162)::(fb,.cells #[ii 0,ii 0] 92)::(hb,.cells (fnA 13 (inF F)) 155)::(r3,.cells #[ii 0,ii 0] 92)::(R++R2)):=hm;have hG1:∀ m,m<k→LevV l m (G (2*m)) (G (2*m+1)) (R++R2):=fun m h=>(hG m h).keep fun x hx=>List.mem_append_left _ hx
   have hG2:LevV l k (.slice A1 (vNum l k) ca) (.slice B nb cb) (R++R2):=⟨hLv,A1,ca,B,nb,cb,bs,rfl,rfl,V.RowB.left hr1,V.RowB.left hr2,hbs⟩
   clear hm2 hr1 hr2 hG;generalize R++R2=R3 at hm hG1 hG2;(conv=>whnf);refine znm hm fun eb w10 hm=>zw ?_;refine znm hm fun gb w11 hm=>zw ?_;refine zS hm 1 fun w12 hm=>zw ?_;refine zS hm 0 fun w13 hm=>zw ?_;refine zr hm 0 ?_;refine zv ?_;refine zl hm 1 ?_;refine zv ?_;rw [show tsz Tryz.prog 161=2 from by kernel_rfl,show 0+k*2=2*k by omega];refine StoreA.mem hm (i:=2) rfl (by rw [qp];show 2*k+2≤8;omega) (by simp [Value.oneCell']) ?_;intro w14 hm;have hm:Mem w w14 ((gb,.cells #[ii 0,ii 0] 92)::(eb,.cells #[.slice A1 (vNum l k) ca,.slice B nb cb] 161)::(lv,.cells (fnA 8 (updF (updF G (2*k) (.slice A1 (vNum l k) ca)) (2*k+1) (.slice B nb cb))) 162)::(fb,.cells #[ii 0,ii 0] 92)::(hb,.cells (fnA 13 (inF F)) 155)::(r3,.cells #[ii 0,ii 0] 92)::R3):=by
    rw [← q28 8 G (2*k) _ _ Oo];exact hm
   have hm:=(hm.sub (List.sublist_cons_self ..)).sub (List.sublist_cons_self ..);refine zu ?_;refine ⟨k+1,⟨rfl,rfl,rfl,rfl,rfl,trivial⟩,⟨by omega,_,_,hm,fun m h=>(by
    by_cases e:m=k
    ·subst e;exact hlz
    ·exact hlv m Oo),fun m h=>?_⟩,by omega⟩
   by_cases e:m=k
   ·subst e;rw [qaf _ _ _ _ Oo,qhx,qhx];exact hG2
   ·rw [qaf _ _ _ _ Oo,qaf _ _ _ _ Oo,qaf _ _ _ _ Oo,qaf _ _ _ _ Oo];exact hG1 m Oo
 obtain rfl:k=4:=by omega
 have hL:∀ k,1≤k→k≤3→LvlV l k:=fun k h1 h2=>(hG k Oo).1 Oo
 obtain ⟨hz,hv⟩:=qpf hE;have hn3:=qfk (hz 3 Oo);refine znm hm fun ab w9 hm=>zw ?_;refine qr (fun x:Nat × (Nat→Int) × oA × Nat=>[(3,pp r3),(4,pp hb),(6,pp lv),(10,.slice x.2.2.1 x.1 x.2.2.2),(11,pp ab),(12,ii x.1)])
  (fun x w'=>x.1≤vNum l 3∧(∀ m,m<3→x.2.1 m=((tUp l x.1 (3-m):Nat):Int))∧Rw w w' (.slice x.2.2.1 x.1 x.2.2.2) 82 4 x.1 (idsL l x.1) ((ab,.cells (fnA 4 (inF x.2.1)) 81)::(lv,.cells (fnA 8 G) 162)::(fb,.cells #[ii 0,ii 0] 92)::(hb,.cells (fnA 13 (inF F)) 155)::(r3,.cells #[ii 0,ii 0] 92)::R)) (fun x=>vNum l 3-x.1) (0,(fun _=>0),none,0)
  ⟨rfl,rfl,rfl,rfl,rfl,rfl,trivial⟩ ⟨Nat.zero_le _,fun m _=>by rw [qs3];rfl,Rw.nil hm⟩ ?_
 clear hm;rintro ⟨i,a,B,cc⟩ w10 ρ2 ⟨i1,ha,hR⟩;dsimp only at i1 ha hR ⊢;have hm:=hR.mem;(conv=>whnf);refine zJ 3 ?_;(conv=>whnf);refine LoadV.fi (x:=((vNum l 3:Nat):Int)) hm (i:=3) rfl 3 (by rw [show tsz Tryz.prog 3=1 from by kernel_rfl];rfl) Oo (hF.c 3 Oo) ?_;clear hm;conv=>whnf
 (repeat' (first|refine zC (fun _=>zw ?_) (fun _=>zw ?_)|(refine zJ 3 ?_;(conv=>whnf))))
 ·refine q38 hR (i:=0) rfl 3 (by rw [show tsz Tryz.prog 3=1 from by kernel_rfl]) Oo ?_;clear hR;intro w11 hR;obtain ⟨a',ea⟩:∃ a',a'=updI a 3 (i:Nat):=⟨_,rfl⟩
  have ha':∀ m,m<4→a' m=((tUp l i (3-m):Nat):Int):=fun m h=>by
   by_cases e:m=3
   ·subst e;rw [ea,qb4];rfl
   ·rw [ea,qap _ _ _ _ e];exact ha m Oo
  have hR:Rw w w11 (.slice B i cc) 82 4 i (idsL l i) ((ab,.cells (fnA 4 (inF a')) 81)::(lv,.cells (fnA 8 G) 162)::(fb,.cells #[ii 0,ii 0] 92)::(hb,.cells (fnA 13 (inF F)) 155)::(r3,.cells #[ii 0,ii 0] 92)::R):=by rw [ea];exact hR
  clear ha ea;(conv=>whnf);refine NewV.rw hR ?_;clear hR;intro qb w12 hR;have hR:Rw w w12 (.slice B i cc) 82 4 i (idsL l i) ((qb,.cells (fnA 4 (inF fun _=>0)) 82)::(ab,.cells (fnA 4 (inF a')) 81)::(lv,.cells (fnA 8 G) 162)::(fb,.cells #[ii 0,ii 0] 92)::(hb,.cells (fnA 13 (inF F)) 155)::(r3,.cells #[ii 0,ii 0] 92)::R):=hR;(conv=>whnf);refine qr (fun x:Nat × (Nat→Int)=>[(3,pp r3),(4,pp hb),(6,pp lv),(10,.slice B i cc),(11,pp ab),(12,ii i),(13,pp qb),(14,ii x.1)])
   (fun x w'=>x.1≤4∧(∀ m,m<x.1→x.2 m=((tNum l i m:Nat):Int))∧Rw w w' (.slice B i cc) 82 4 i (idsL l i) ((qb,.cells (fnA 4 (inF x.2)) 82)::(ab,.cells (fnA 4 (inF a')) 81)::(lv,.cells (fnA 8 G) 162)::(fb,.cells #[ii 0,ii 0] 92)::(hb,.cells (fnA 13 (inF F)) 155)::(r3,.cells #[ii 0,ii 0] 92)::R)) (fun x=>4-x.1) (0,fun _=>0)
   ⟨rfl,rfl,rfl,rfl,rfl,rfl,rfl,rfl,trivial⟩ ⟨by simp,fun m h=>by simp at h,hR⟩ ?_
  clear hR;rintro ⟨k,q⟩ w13 ρ3 ⟨k1,hq,hR⟩;dsimp only at k1 hq hR ⊢;(conv=>whnf);refine zC (fun _=>zw ?_) (fun _=>zw ?_)
  ·obtain ⟨hLk,A1,ca,B1,nb,cb,bs,eG1,eG2,hr1,hr2,hbs⟩:=hG k Oo;obtain ⟨z1,z2,z3⟩:=qkp (hv k Oo);have hnk:=qfk (hz k Oo);have hup:=qkm hL (show i<vNum l 3 by omega) (3-k) Oo;rw [show 3-(3-k)=k by omega] at hup;have hta:=ha' k Oo;have htn:tNum l i k=numP (qj l k) (tw l k) (tUp l i (3-k)):=rfl;obtain ⟨y,ey⟩:∃ y,y=tUp l i (3-k):=⟨_,rfl⟩
   rw [← ey] at hup hta htn;have hxy:(unpN (qj l k) (vNum l k) (tw l k))[y]'(by rw [qbq];exact hup)=tNum l i k:=by
    rw [htn,qsn _ _ _ Oo];simp [unpN]
   have hx23:tNum l i k<8388608:=by
    rw [← hxy];exact Nat.lt_of_lt_of_le (qy1 (List.getElem_mem ..)) (Nat.pow_le_pow_right Od z2:2 ^ tw l k≤2 ^ 23)
   obtain ⟨x,ex⟩:∃ x,x=tNum l i k:=⟨_,rfl⟩
   rw [← ex] at hxy hx23;rw [eG1] at hr1;have hm:=hR.mem;have hC:SlAt encU 1 w13 A1 (unpN (qj l k) (vNum l k) (tw l k)):=V.RowB.slf (f:=fun x:Nat=>Value.int .u64 (x:Int)) (fun _=>rfl) hr1 hm (fun x hx=>by simp [hx]);clear htn ey;refine DrawV.own rfl Jk (zw ?_);refine zo ?_;refine zo ?_;apply StepO.still
   ·intro wd hd;(conv=>whnf);refine IdxV.at_ k Oo Oo (zw ?_);exact PostO.still xr rfl
   (conv=>whnf);refine zo ?_;apply StepO.still
   ·intro wd hd;(conv=>whnf);refine LoadV.fn (v:=.slice A1 (vNum l k) ca) (Mem.call (Mem.drew hm) hd) (i:=2) rfl (2*k) (by rw [show tsz Tryz.prog 161=2 from by kernel_rfl];dsimp only;omega) Oo eG1 (zw ?_);exact PostO.still xr rfl
   (conv=>whnf);refine zo ?_;apply StepO.still
   ·intro wd hd;(conv=>whnf);refine IdxV.at_ k Oo Oo (zw ?_);exact PostO.still xr rfl
   (conv=>whnf);apply StepO.still
   ·intro wd hd;(conv=>whnf);refine LoadV.fi (x:=((y:Nat):Int)) (Mem.call (Mem.drew hm) hd) (i:=1) rfl k (by rw [show tsz Tryz.prog 3=1 from by kernel_rfl];omega) Oo hta (zw ?_);exact PostO.still xr rfl
   (conv=>whnf);obtain ⟨gb,go,hA1,hcl⟩:=hC.at_ (by intro e;have:=congrArg List.length e;rw [qbq] at this;simp at this;omega);subst hA1;apply StepO.still
   ·intro wd hd;(conv=>whnf);refine ⟨⟨gb,go,y,rfl,by omega,by omega,?_⟩⟩;(conv=>whnf);exact PostO.still xr rfl
   (conv=>whnf);have hcell:w13.cell? ⟨gb,go+y*1,none⟩=some (.int .u64 x):=by
    have:=hcl y _ (zge (by rw [qbq];exact hup)) 0 (.int .u64 x) (by rw [hxy];rfl)
    rwa [Nat.add_zero] at this
   apply StepO.still
   ·intro wd hd;(conv=>whnf);refine LoadV.of (Ext.cell (Ext.trans xr.drew hd) hcell) (zw ?_);exact PostO.still xr rfl
   (conv=>whnf);refine zo ?_;apply StepO.still
   ·intro wd hd;(conv=>whnf);refine IdxV.at_ k Oo Oo (zw ?_);exact PostO.still xr rfl
   (conv=>whnf);intro w14 hd14
   (repeat (intro _;(conv=>whnf)))
   (conv=>whnf);refine q38 (hR.drew.call hd14) (i:=0) rfl k (by rw [show tsz Tryz.prog 3=1 from by kernel_rfl];omega) Oo ?_;intro w15 hR;have hR:Rw w w15 (.slice B i cc) 82 4 i (idsL l i) ((qb,.cells (fnA 4 (inF (updI q k x))) 82)::(ab,.cells (fnA 4 (inF a')) 81)::(lv,.cells (fnA 8 G) 162)::(fb,.cells #[ii 0,ii 0] 92)::(hb,.cells (fnA 13 (inF F)) 155)::(r3,.cells #[ii 0,ii 0] 92)::R):=hR;refine zu ?_;refine ⟨(k+1,updI q k x),⟨rfl,rfl,rfl,rfl,rfl,rfl,rfl,rfl,trivial⟩,⟨by simp only;omega,fun m h=>?_,hR⟩,by simp only;omega⟩;dsimp only at h ⊢
   by_cases e:m=k
   ·subst e;rw [qb4,ex]
   ·rw [qap _ _ _ _ e];exact hq m Oo
  obtain rfl:k=4:=by omega
  have hqv:(fnA 4 (inF q)).toList=idsC l i:=by
   simp only [fnA,idsC];show [ii (q 0),ii (q 1),ii (q 2),ii (q 3)]=_;rw [hq 0 Oo,hq 1 Oo,hq 2 Oo,hq 3 Oo]
  refine LoadA.mem hR.mem (i:=0) rfl (by simp [qp];rfl) ?_;rw [hqv];(conv=>whnf);refine NewV.rw hR fun nb w14 hR=>zw ?_;refine AppV.rw (m:=1) (news:=idsC l i) q6e idsI idsZ Jk Jk Od hR rfl (fun _=>⟨nb,0,rfl,fun k v hv=>?_⟩) (by simp [idsC,Value.oneCell']) (by rw [show ((Tryz.prog.info? 82).get Jk).bytes=32 from by kernel_rfl];omega) Oo ?_
  ·rw [qd (hR.mem.get mh),Nat.zero_add];rw [List.getElem?_toArray];exact hv
  clear hR;intro B2 c2 w15 hR;have hR:Rw w w15 (.slice B2 (i+1) c2) 82 4 (i+1) (idsL l (i+1)) ((ab,.cells (fnA 4 (inF a')) 81)::(lv,.cells (fnA 8 G) 162)::(fb,.cells #[ii 0,ii 0] 92)::(hb,.cells (fnA 13 (inF F)) 155)::(r3,.cells #[ii 0,ii 0] 92)::R):=by
   have e:idsL l (i+1)=idsL l i++idsC l i:=by simp [idsL,List.range_succ]
   rw [e];exact hR.tail.tail
  (conv=>whnf);refine qr (fun x:Nat × (Nat→Int)=>[(3,pp r3),(4,pp hb),(6,pp lv),(10,.slice B2 (i+1) c2),(11,pp ab),(12,ii i),(15,ii x.1),(16,ii (tUp l i (3-x.1):Nat))])
   (fun x w'=>x.1≤3∧tUp l (i+1) (3-x.1)=tUp l i (3-x.1)+1∧(∀ m,x.1≤m→m<3→x.2 m=((tUp l (i+1) (3-m):Nat):Int))∧(∀ m,m<x.1→x.2 m=((tUp l i (3-m):Nat):Int))∧Rw w w' (.slice B2 (i+1) c2) 82 4 (i+1) (idsL l (i+1)) ((ab,.cells (fnA 4 (inF x.2)) 81)::(lv,.cells (fnA 8 G) 162)::(fb,.cells #[ii 0,ii 0] 92)::(hb,.cells (fnA 13 (inF F)) 155)::(r3,.cells #[ii 0,ii 0] 92)::R)) (fun x=>x.1) (3,a')
   ⟨rfl,rfl,rfl,rfl,rfl,rfl,rfl,rfl,trivial⟩ ⟨Nat.le_refl _,rfl,fun m h1 h2=>by omega,fun m h=>ha' m Oo,hR⟩ ?_
  clear hR ha' hq hqv;rintro ⟨k,a⟩ w16 ρ4 ⟨k1,hu,h1,h2,hR⟩;dsimp only at k1 hu h1 h2 hR ⊢;have hi3:i<vNum l 3:=by omega
  (conv=>whnf);refine zC (fun _=>zu ?_) (fun _=>zu ?_)
  ·obtain ⟨hLk,A1,ca,B1,nb1,cb,bs,eG1,eG2,hr1,hr2,hbs⟩:=hG k Oo;obtain ⟨rfl,rfl⟩:=hbs Oo;have hup:=qkm hL hi3 (3-k) Oo;rw [show 3-(3-k)=k by omega] at hup;have hLk:=hL k Oo k1;have hup1:=q4g hL hi3 (show 3-k<3 by omega) hu;have hup0:=q1f hL hi3 (show 3-k<3 by omega) hu;rw [show 3-(3-k)=k by omega] at hup1 hup0;have hsame:∀ m,m<k→tUp l (i+1) (3-k+1)=tUp l i (3-k+1)→tUp l (i+1) (3-m)=tUp l i (3-m):=fun m hm3 h=>q1g h Oo
   have hk1:a (k-1)=((tUp l i (3-k+1):Nat):Int):=by rw [h2 (k-1) Oo,show 3-(k-1)=3-k+1 by omega]
   obtain ⟨y,ey⟩:∃ y,y=tUp l i (3-k):=⟨_,rfl⟩
   rw [← ey] at hup hup1 hup0;have hyb:y<(bitL (qi l k) (vNum l k)).length:=by simp [bitL];exact hup
   obtain ⟨b,hb⟩:∃ b,b=(bitL (qi l k) (vNum l k))[y]:=⟨_,rfl⟩
   have hbv:b=decide (bitN ((qi l k).drop 8) y=1):=by
    rw [hb];simp only [bitL,List.getElem_map,List.getElem_range];rw [vD,qdf];rw [hLk.n];unfold upN;omega
   rw [eG2] at hr2;have hB:SlAt encO 1 w16 B1 (bitL (qi l k) (vNum l k)):=V.RowB.slf (f:=Value.bool) (fun _=>rfl) hr2 hR.mem (fun x hx=>by simp [hx]);refine LoadV.fn (v:=.slice B1 (vNum l k) cb) hR.mem (i:=1) rfl (2*k+1) (by rw [show tsz Tryz.prog 161=2 from by kernel_rfl];dsimp only;omega) Oo eG2 (zw ?_);rw [← ey];refine zv ?_;refine ElemV.sl hB (by simp [bitL]) y rfl hup ?_;intro eb eo hcell;rw [← hb] at hcell;refine zu ?_;refine LoadV.cell0 hcell (zu ?_);cases b
   ·have hbn:=of_decide_eq_false hbv.symm;have hq0:=hup0 hbn;refine zu ?_;refine ⟨(i+1,a,B2,c2),⟨rfl,rfl,rfl,rfl,rfl,rfl,trivial⟩,⟨by simp only;omega,fun m hm3=>?_,hR⟩,by simp only;omega⟩;dsimp only
    rcases Nat.lt_or_ge m k with hmk|hmk
    ·rw [h2 m hmk,hsame m hmk hq0]
    ·exact h1 m hmk hm3
   ·have hbn:=of_decide_eq_true hbv.symm;have hq1:=hup1 hbn;obtain ⟨z,ez⟩:∃ z,z=tUp l i (3-k+1):=⟨_,rfl⟩
    have hzb:z<vNum l (k-1):=by
     have:=qkm hL hi3 (3-k+1) Oo;rw [ez]
     rwa [show 3-(3-k+1)=k-1 by omega] at this
    have hnk1:=qfk (hz (k-1) Oo);rw [← ez] at hk1 hq1;clear hcell hb hup1 hup0 hsame;refine zu ?_;refine IdxV.at_ (k-1) Oo Oo (zw ?_);refine LoadV.fi (x:=((z:Nat):Int)) hR.mem (i:=0) rfl (k-1) (by rw [show tsz Tryz.prog 3=1 from by kernel_rfl];omega) Oo hk1 (zu ?_);refine IdxV.at_ (k-1) Oo Oo (zw ?_);refine LoadV.fi (x:=((z:Nat):Int)) hR.mem (i:=0) rfl (k-1) (by rw [show tsz Tryz.prog 3=1 from by kernel_rfl];omega) Oo hk1 (zu ?_);refine IdxV.at_ (k-1) Oo Oo (zw ?_);refine q38 (x:=((z:Nat):Int)+1) hR (i:=0) rfl (k-1) (by rw [show tsz Tryz.prog 3=1 from by kernel_rfl];omega) Oo ?_;clear hR;intro w17 hR;have hR:Rw w w17 (.slice B2 (i+1) c2) 82 4 (i+1) (idsL l (i+1)) ((ab,.cells (fnA 4 (inF (updI a (k-1) (((z:Nat):Int)+1)))) 81)::(lv,.cells (fnA 8 G) 162)::(fb,.cells #[ii 0,ii 0] 92)::(hb,.cells (fnA 13 (inF F)) 155)::(r3,.cells #[ii 0,ii 0] 92)::R):=hR;refine zu ?_;have e3:3-(k-1)=3-k+1:=by omega
    refine ⟨(k-1,updI a (k-1) (((z:Nat):Int)+1)),⟨rfl,rfl,rfl,rfl,rfl,rfl,?_,?_,trivial⟩,⟨by simp only;omega,?_,fun m hm1 hm3=>?_,fun m hm1=>?_,hR⟩,by simp only;omega⟩
    ·exact congrArg (Value.int .i64) (by simp only;omega)
    ·exact congrArg (fun n:Nat=>ii (n:Int)) (by simp only;rw [e3];exact ez)
    ·simp only;rw [e3,hq1,ez]
    ·dsimp only at hm1 ⊢
     by_cases e:m=k-1
     ·subst e;rw [qb4,e3,hq1];omega
     ·rw [qap _ _ _ _ e];exact h1 m Oo hm3
    ·dsimp only at hm1 ⊢;rw [qap _ _ _ _ Oo];exact h2 m Oo
  ·obtain rfl:k=0:=by omega
   refine ⟨(i+1,a,B2,c2),⟨rfl,rfl,rfl,rfl,rfl,rfl,trivial⟩,⟨by simp only;omega,fun m hm3=>?_,hR⟩,by simp only;omega⟩;exact h1 m (Nat.zero_le _) hm3
 ·obtain rfl:i=vNum l 3:=by omega
  refine StoreA.same (hR.mem.get (L:=_) Js:w10.heap[r3]?=some (.cells #[ii 0,ii 0] 92)) rfl Od fun w11 he11=>zw ?_;refine qa (R:=fun v w'=>TopR l w.heap.size v w'∧Ext w w') (zw ?_);refine LoadA.mem (hR.mem.call he11) (i:=4) rfl rfl (zw ?_);exact ⟨.inr ⟨q2h hE hlv,hL,B,cc,rfl,qb3 hR.own he11⟩,hR.mem.ext.trans he11⟩
structure Al (w0:World) (L:List (Nat × Obj)) (o1 o1' o2 o2':Obj) (s1 s2 t1 t2:Bool) (v1 v2:Value) (w:World):Prop where
 h:∃ b1 b2:Nat,(s1=true→v1=pp b1)∧(s2=true→v2=pp b2)∧(s1=false→t1=false)∧(s2=false→t2=false)∧
  Mem w0 w ((bif s1 then [(b1,bif t1 then o1' else o1)] else [])++((bif s2 then [(b2,bif t2 then o2' else o2)] else [])++L))
section
variable {w0 w w':World} {L:List (Nat × Obj)} {o1 o1' o2 o2':Obj} {s1 s2 t1 t2:Bool} {v1 v2:Value}
theorem Al.start (h:Mem w0 w L):Al w0 L o1 o1' o2 o2' false false false false v1 v2 w:=⟨0,0,fun h=>(by cases h),fun h=>(by cases h),fun _=>rfl,fun _=>rfl,h⟩
theorem Al.call (h:Al w0 L o1 o1' o2 o2' s1 s2 t1 t2 v1 v2 w) (he:Ext w w'):Al w0 L o1 o1' o2 o2' s1 s2 t1 t2 v1 v2 w':=by
 obtain ⟨b1,b2,h1,h2,h3,h4,h5⟩:=h;exact ⟨b1,b2,h1,h2,h3,h4,h5.call he⟩
theorem Al.mem (h:Al w0 L o1 o1' o2 o2' s1 s2 t1 t2 v1 v2 w):Mem w0 w L:=by
 obtain ⟨b1,b2,h1,h2,h3,h4,h5⟩:=h;exact h5.sub ((List.sublist_append_right _ _).trans (List.sublist_append_right _ _))
theorem Al.new1 (h:Al w0 L o1 o1' o2 o2' false s2 t1 t2 v1 v2 w):Al w0 L o1 o1' o2 o2' true s2 t1 t2 (.pointer (some ⟨w.heap.size,0,none⟩)) v2 (w.alloc o1):=by
 obtain ⟨b1,b2,h1,h2,h3,h4,h5⟩:=h;refine ⟨w.heap.size,b2,fun _=>rfl,h2,fun h=>(by cases h),h4,?_⟩;rw [h3 rfl];exact h5.new rfl rfl
theorem Al.put1 (h:Al w0 L o1 o1' o2 o2' true s2 false t2 v1 v2 w):∃ b,v1=pp b∧∃ M,Mem w0 w ((b,o1)::M)∧∀ {w' u1},Mem w0 w' ((b,o1')::M)→u1=pp b→Al w0 L o1 o1' o2 o2' true s2 true t2 u1 v2 w':=by
 obtain ⟨b1,b2,h1,h2,h3,h4,h5⟩:=h;exact ⟨b1,h1 rfl,_,h5,fun hm hu=>⟨b1,b2,fun _=>hu,h2,fun h=>(by cases h),h4,hm⟩⟩
theorem Al.done1 (h:Al w0 L o1 o1' o2 o2' true false true t2 v1 v2 w):∃ b1,v1=pp b1∧Mem w0 w ((b1,o1')::L):=by
 obtain ⟨b1,b2,h1,h2,h3,h4,h5⟩:=h;exact ⟨b1,h1 rfl,h5⟩
end
theorem LoadV.fim {w0 w:World} {L:List (Nat × Obj)} {b off n:Nat} {F:Nat→Int} {t:TypeId} {x:Int} {K:Value→Prop} (h:Mem w0 w L) (hi:(b,Obj.cells (fnA n (inF F)) t)∈L) (j:Nat) (e:off=j) (hj:j<n) (hv:F j=x) (hk:K (ii x)):LoadV w b off K:=by
 obtain ⟨i,hi⟩:=List.getElem?_of_mem hi;exact LoadV.fi h hi j e hj hv hk
theorem qyi {l:LB} (h:(sE l).2=0):(∀ k,k<3→vNum l k≤67108864)∧qk l 3=l.length:=by
 unfold sE at h
 split at h
 ·rename_i h0;exact absurd h h0
 rename_i h0
 split at h
 ·cases h
 rename_i g1
 split at h
 ·cases h
 rename_i g2
 exact ⟨fun k hk=>qcg (qay (f:=vsF l) (n:=3) Oo k hk),by omega⟩
theorem qdm {l:LB} (h:qk l 3=l.length) {k:Nat} (hk:k<3):qk l k+vNum l k≤l.length:=by
 have e1:qk l 1=qk l 0+vNum l 0:=rfl;have e2:qk l 2=qk l 1+vNum l 1:=rfl;have e3:qk l 3=qk l 2+vNum l 2:=rfl
 rcases (show k=0∨k=1∨k=2 by omega) with rfl|rfl|rfl<;>omega
theorem qo5 {l:LB} (h:qk l 3=l.length) {k:Nat} (hk:k<3):(qq l k).length=vNum l k:=by
 have:=qdm h hk;rw [qq,List.length_take,zld];omega
open Go.RowKit
namespace V
theorem StoreA.row {P:Program} {w0 w:World} {L:List (Nat × Obj)} {i b off:Nat} {cur:Array Value} {t:TypeId} {vs:List Value} {K:World→Prop} (h:Mem w0 w L)
  (hi:L[i]?=some (b,.cells cur t)) (hl:off+vs.length≤cur.size) (h1:∀ v∈vs,v.oneCell'=true)
  (hk:∀ w',(∀ c,c≠b→w'.heap[c]?=w.heap[c]?)→w.heap.size≤w'.heap.size→Mem w0 w' (L.set i (b,.cells (cur.toList.take off++vs++cur.toList.drop (off+vs.length)).toArray t))→K w'):StoreA P w b off vs K:=by
 have hm:(b,Obj.cells cur t)∈L:=zmg hi;have hg:=h.get hm;have hr:=run_storeCells_at P b off t vs 0 cur w hg (by simpa using hl) h1;simp only [Nat.add_zero] at hr;refine ⟨_,hr,hk _ (fun c hc=>qo hc) (by simp [World.setRow]) ?_⟩;refine h.set hi ?_ (qbw hg) (fun c hc=>qo hc);exact Below.trans h.ext ⟨rfl,rfl,rfl,by simp [World.setRow],fun k hk=>qo (by have:=(h.own _ hm).1;simp only at this;omega)⟩
structure Er (w0:World) (L:List (Nat × Obj)) (o:Obj) (m1 m2 m3:Nat→Value) (c1 c2 c3:Bool) (v1 v2 v3:Value) (w:World):Prop where
 h:(c1=false∧c2=false∧c3=false∧Mem w0 w L)∨(c1=true∧∃ b,v1=m1 b∧(c2=true→v2=m2 b)∧(c3=true→v3=m3 b)∧Mem w0 w ((b,o)::L))
section
variable {w0 w w':World} {L L':List (Nat × Obj)} {o:Obj} {m1 m2 m3:Nat→Value} {c1 c2 c3:Bool} {v1 v2 v3:Value}
theorem Er.start (h:Mem w0 w L):Er w0 L o m1 m2 m3 false false false v1 v2 v3 w:=⟨.inl ⟨rfl,rfl,rfl,h⟩⟩
theorem Er.mem (h:Er w0 L o m1 m2 m3 c1 c2 c3 v1 v2 v3 w):Mem w0 w L:=by
 rcases h.h with ⟨_,_,_,h⟩|⟨_,b,_,_,_,h⟩
 ·exact h
 ·exact h.sub (List.sublist_cons_self ..)
theorem Er.made (h:Er w0 L o m1 m2 m3 false c2 c3 v1 v2 v3 w) {b:Nat} (he:Ext w w') (hb:w.heap.size≤b) (ho:w'.heap[b]?=some o):Er w0 L o m1 m2 m3 true c2 c3 (m1 b) v2 v3 w':=by
 rcases h.h with ⟨_,h2,h3,hm⟩|⟨h1,_⟩
 ·exact ⟨.inr ⟨rfl,b,rfl,fun h=>(by rw [h2] at h;cases h),fun h=>(by rw [h3] at h;cases h),hm.fresh he hb ho⟩⟩
 ·cases h1
theorem Er.alloc (h:Er w0 L o m1 m2 m3 false c2 c3 v1 v2 v3 w):Er w0 L o m1 m2 m3 true c2 c3 (m1 w.heap.size) v2 v3 (w.alloc o):=
 h.made ((Ext.refl w).alloc o) znr (heap_alloc_new w o)
theorem Er.see (h:Er w0 L o m1 m2 m3 true c2 c3 v1 v2 v3 w):∃ b,v1=m1 b∧Er w0 L o m1 m2 m3 true true c3 (m1 b) (m2 b) v3 w∧Er w0 L o m1 m2 m3 true c2 true (m1 b) v2 (m3 b) w:=by
 rcases h.h with ⟨h1,_⟩|⟨_,b,h2,h3,h4,h⟩
 ·cases h1
 ·exact ⟨b,h2,⟨.inr ⟨rfl,b,rfl,fun _=>rfl,h4,h⟩⟩,⟨.inr ⟨rfl,b,rfl,h3,fun _=>rfl,h⟩⟩⟩
theorem Er.see2 (h:Er w0 L o m1 m2 m3 c1 true c3 v1 v2 v3 w):∃ b,v2=m2 b∧Er w0 L o m1 m2 m3 c1 true true v1 (m2 b) (m3 b) w:=by
 rcases h.h with ⟨_,h1,_⟩|⟨h0,b,h2,h3,h4,h⟩
 ·cases h1
 ·exact ⟨b,h3 rfl,⟨.inr ⟨h0,b,h2,fun _=>rfl,fun _=>rfl,h⟩⟩⟩
theorem Er.store {P:Program} {K:World→Prop} {i b:Nat} {cur:Array Value} {t:TypeId} {vs:List Value} (h:Er w0 L o m1 m2 m3 c1 c2 c3 v1 v2 v3 w) (hi:L[i]?=some (b,.cells cur t))
  (hl:cur.size=vs.length) (hv:∀ v∈vs,v.oneCell'=true) (hL:L.set i (b,.cells vs.toArray t)=L') (hk:∀ w',(∀ c,c≠b→w'.heap[c]?=w.heap[c]?)→Er w0 L' o m1 m2 m3 c1 c2 c3 v1 v2 v3 w'→K w'):StoreA P w b 0 vs K:=by
 subst hL;have e:(cur.toList.take 0++vs++cur.toList.drop (0+vs.length)).toArray=vs.toArray:=by
  rw [List.take_zero,List.nil_append,List.drop_eq_nil_of_le Ys,List.append_nil]
 rcases h.h with ⟨h1,h2,h3,h⟩|⟨h1,x,h2,h3,h4,h⟩
 ·refine StoreA.row h hi Oo hv fun w' hf _ hm=>hk w' hf ⟨.inl ⟨h1,h2,h3,?_⟩⟩
  rwa [e] at hm
 ·refine StoreA.row h (i:=i+1) hi Oo hv fun w' hf _ hm=>hk w' hf ⟨.inr ⟨h1,x,h2,h3,h4,?_⟩⟩;rw [e] at hm;exact hm
theorem Er.done (h:Er w0 L o m1 m2 m3 true c2 true v1 v2 v3 w):∃ b,v1=m1 b∧v3=m3 b∧Mem w0 w ((b,o)::L):=by
 rcases h.h with ⟨h1,_⟩|⟨_,b,h2,_,h4,h⟩
 ·cases h1
 ·exact ⟨b,h2,h4 rfl,h⟩
end
theorem StoreV.row {w0 w:World} {L:List (Nat × Obj)} {i b off:Nat} {cs:Array Value} {t:TypeId} {v:Value} {K:World→Prop} (h:Mem w0 w L) (hi:L[i]?=some (b,.cells cs t))
  (ho:off<cs.size) (h1:qcw v=true) (hk:∀ w',(∀ c,c≠b→w'.heap[c]?=w.heap[c]?)→w.heap.size≤w'.heap.size→Mem w0 w' (L.set i (b,.cells (cs.setIfInBounds off v) t))→K w'):StoreV w b off v K:=
 StoreV.own (h.get (zmg hi)) ho h1 fun w' hw=>hk w' (fun c hc=>by subst hw;exact Below.heap_setCell _ _ _ _ hc) (by subst hw;simp [World.setCell]) (h.setCell hi hw)
theorem CellsAt.other {w w':World} {x b off:Nat} {vs:List Value} (h:CellsAt w b off vs) (hb:b≠x) (hw:∀ c,c≠x→w'.heap[c]?=w.heap[c]?):CellsAt w' b off vs:=by
 intro k v hv;have:=h k v hv;unfold World.cell? at this ⊢;simp only at this ⊢;rw [hw b hb];exact this
theorem SlAt.other {α:Type} {enc:α→List Value} {size:Nat} {w w':World} {A:oA} {l:List α} {x:Nat} {cs:Array Value} {t:TypeId} {fz:Nat × Nat} (h:SlAt enc size w A l) (hx:w.heap[x]?=some (.cells cs t fz))
  (hne:∀ y∈l,∀ v∈cs.toList,(enc y)[0]?≠some v) (hen:∀ y∈l,enc y≠[]) (hw:∀ c,c≠x→w'.heap[c]?=w.heap[c]?):SlAt enc size w' A l:=by
 refine ⟨fun hn=>?_⟩;obtain ⟨b,off,h1,h2⟩:=h.at_ hn;refine ⟨b,off,h1,fun j y hy=>(h2 j y hy).other ?_ hw⟩;intro hbx;subst hbx;have hy':y∈l:=zmg hy;obtain ⟨v,hv⟩:∃ v,(enc y)[0]?=some v:=by
  cases he:enc y with
  | nil=>exact absurd he (hen y hy')
  | cons v r=>exact ⟨v,rfl⟩
 have h3:=h2 j y hy 0 v hv;rw [qd hx] at h3;exact hne y hy' v (Array.mem_toList_iff.2 (Array.mem_of_getElem? h3)) hv
end V
end Go.Proofs.YtaiiejogocblgaaGreatDoor
