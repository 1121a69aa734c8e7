/- Lemmas and contracts of functions on the way to the law's card (part 8 of 9). -/
import Derived.Test.YtkienlambankeaaGreatDoorPE7
namespace Go.Proofs.YtkienlambankeaaGreatDoor
set_option maxHeartbeats 8000000
open Go.RowKit V
set_option maxRecDepth 100000
structure PuI (w3:World) (v8:Value) (y:LB) (s10 s11:Bool) (v10 v11:Value) (w:World):Prop where
 h:(s10=false∧Ext w3 w)∨(s10=true∧RowC 5 w3 w v8 v10 y)
 k:s11=true→s10=true∧v11=v10
section
variable {w0 w3 w w':World} {v8:Value} {y:LB} {s10 s11:Bool} {v10 v11:Value}
theorem PuI.start (h:Ext w3 w):PuI w3 v8 y false false v10 v11 w:=⟨.inl ⟨rfl,h⟩,fun h=>(by cases h)⟩
theorem PuI.ext (h:PuI w3 v8 y s10 s11 v10 v11 w) (h0:Ext w0 w3) (hl:∀ k∈rowF v8,w0.heap.size≤k):Ext w0 w:=by
 rcases h.h with ⟨_,he⟩|⟨_,hR⟩
 ·exact h0.trans he
 ·exact hR.chg.ext h0 hl
theorem PuI.before (h:PuI w3 v8 y false s11 v10 v11 w):Ext w3 w:=by
 rcases h.h with ⟨_,he⟩|⟨e,_⟩
 ·exact he
 ·cases e
theorem PuI.put (h:PuI w3 v8 y false s11 v10 v11 w) {v:Value} (hR:RowC 5 w3 w' v8 v y):PuI w3 v8 y true s11 v v11 w':=
 ⟨.inr ⟨rfl,hR⟩,fun e=>absurd (h.k e).1 Od⟩
theorem PuI.keep (h:PuI w3 v8 y true false v10 v11 w):PuI w3 v8 y true true v10 v10 w:=⟨h.h,fun _=>⟨rfl,rfl⟩⟩
theorem PuI.val (h:PuI w3 v8 y true s11 v10 v11 w):∃ A c,v10=.slice A y.length c:=by
 rcases h.h with ⟨e,_⟩|⟨_,hR⟩
 ·cases e
 ·exact hR.own
theorem PuI.done (h:PuI w3 v8 y true true v10 v11 w):v11=v10∧RowC 5 w3 w v8 v10 y:=by
 rcases h.h with ⟨e,_⟩|⟨_,hR⟩
 ·cases e
 ·exact ⟨(h.k rfl).2,hR⟩
end
structure DcS (L:List LB) (w0 w:World) (i:Nat) (v u:Value):Prop where
 sep:Sep w0 w [rowF v,rowF u]
 area:w.ownsRow 0 5 1 v (arL L i).length (byV (arL L i))
 plc:w.ownsRow 0 51 1 u (upN i 16) (u64V (plcN L i))
 len:(plcN L i).length=upN i 16
theorem qqz (L:List ByteArray) (A:oA) (n c:Nat) (w:World) (hS:SlAt zeS 1 w A L) (hn:L.length=n) (hb:n≤140737488355328) :
  Gv Tryz.prog 73 [.slice A n c,ii 1099511627776] w fun r w'=>DBuR (txs L) w w' r:=by
 refine ze Tryz.func73 Tryz.ntmps73 ?_;refine zC (fun _=>zw ?_) (fun _=>zw ?_)
 ·have e:dicE (txs L)=2:=qxd (by rw [qbr];omega);exact .inl ⟨by rw [e];decide,by rw [e];rfl,Ext.refl w⟩
 have hlong:¬ 4194304<(txs L).length:=by rw [qbr];omega
 refine qe (fun i:Nat=>[(0,.slice A n c),(1,ii 1099511627776),(6,ii i)]) (fun i w1=>i≤n∧(∀ j,j<i→¬ 262144<(tx (txs L) j).length)∧w1=w) (fun i=>n-i) 0 ⟨rfl,rfl,rfl,trivial⟩ ⟨Nat.zero_le _,fun j h=>absurd h (Nat.not_lt_zero _),rfl⟩ ?_;rintro i w1 ρ' ⟨i1,i2,rfl⟩;(conv=>whnf);refine zC (fun _=>zw ?_) (fun _=>zw ?_)
 ·have hi:i<L.length:=by omega
  have hx:=qd3 hi;refine ElemV.sl hS hn i rfl Oo ?_;intro eb eo hcell;(conv=>whnf);refine LoadV.cell0 hcell (zw ?_);refine zC (fun _=>zu ?_) (fun _=>zu ?_)
  ·have e:dicE (txs L)=2:=qxf (i:=i) Oo;exact .inl ⟨by rw [e];decide,by rw [e];rfl,xr⟩
  ·refine ⟨i+1,⟨rfl,rfl,congrArg (Value.int .i64) Oo,trivial⟩,⟨by omega,fun j hj=>?_,rfl⟩,by omega⟩
   by_cases e:j=i
   ·subst e;omega
   ·exact i2 j Oo
 obtain rfl:i=n:=by omega
 have hsh:∀ j,¬ 262144<(tx (txs L) j).length:=fun j=>by
  by_cases hj:j<i
  ·exact i2 j hj
  ·rw [q0h Oo];decide
 refine qe (fun k:Nat=>[(0,.slice A i c),(1,ii 1099511627776),(7,ii (k+1:Nat))]) (fun k w2=>(∀ j,j<k→j+1<L.length→leL (tx (txs L) (j+1)) (tx (txs L) j)=false)∧Ext w1 w2) (fun k=>i-k) 0 ⟨rfl,rfl,rfl,trivial⟩ ⟨fun j h=>by omega,Ext.refl w1⟩ ?_;rintro k w2 ρ2 ⟨k1,he2⟩;(conv=>whnf);refine zC (fun _=>zw ?_) (fun _=>zw ?_)
 ·have hk:k+1<L.length:=by omega
  obtain ⟨b,off,rfl,hat⟩:=(hS.ext he2).at_ (by intro e;rw [e] at hk;cases hk);have hca:=(hat k _ (zge Oo)).ext (Ext.refl w2).drew;have hcb:=(hat (k+1) _ (zge hk)).ext (Ext.refl w2).drew;refine zy ?_;refine zv ?_;refine ⟨⟨b,off,k,rfl,by omega,by omega,?_⟩⟩;refine zu ?_;refine LoadV.cell0 hca (zu ?_);refine ⟨⟨b,off,k+1,rfl,by omega,by omega,?_⟩⟩;refine zu ?_;refine LoadV.cell0 hcb (zu ?_);have he3:=he2.drew;have hle:=qym hk (show k<L.length by omega);refine Tst.both (fun hlt=>?_) fun hlt=>?_
  ·refine zu ?_;refine ⟨k+1,⟨rfl,rfl,congrArg (Value.int .i64) Oo,trivial⟩,⟨fun j hj hjl=>?_,he3⟩,by omega⟩
   by_cases e:j=k
   ·subst e;rw [hle,← Bool.not_eq_true];exact fun g=>by rw [qt2.2 g] at hlt;cases hlt
   ·exact k1 j Oo hjl
  ·(conv=>whnf);have e:dicE (txs L)=160:=qxe hlong hsh (i:=k) (by rw [qbr];exact hk) (by rw [hle];exact qt2.1 hlt);exact .inl ⟨by rw [e];decide,by rw [e];rfl,he3⟩
 have hE:chkD (txs L)=0:=qw7 hlong hsh (fun j hj=>by rw [qbr] at hj;exact k1 j Oo hj);have hLn:i≤4194304:=by rw [qbr] at hlong;omega
 clear k1 hlong hsh i2;refine qe (fun x:Nat × oA × Nat × oA × Nat=>[(0,.slice A i c),(1,ii 1099511627776),(8,.slice x.2.1 (arL (txs L) x.1).length x.2.2.1),(9,.slice x.2.2.2.1 (upN x.1 16) x.2.2.2.2),(10,ii x.1)])
  (fun x w'=>x.1≤i∧DcS (txs L) w1 w' x.1 (.slice x.2.1 (arL (txs L) x.1).length x.2.2.1) (.slice x.2.2.2.1 (upN x.1 16) x.2.2.2.2)) (fun x=>i-x.1) (0,none,0,none,0) ⟨rfl,rfl,rfl,rfl,rfl,trivial⟩ ⟨Nat.zero_le _,⟨((Sep.of he2).add (F:=rowF (.slice none 0 0)) (Ext.refl w2) (fun k hk=>by cases hk)).add (F:=rowF (.slice none 0 0)) (Ext.refl w2) (fun k hk=>by cases hk),World.ownsRow_nil _ _ _ _,World.ownsRow_nil _ _ _ _,rfl⟩⟩ ?_
 rintro ⟨j,B,cB,P,cP⟩ w3 ρ3 ⟨j1,hD⟩;dsimp only at j1 hD ⊢;have hal:=qiv (L:=txs L) hE (i:=j) (by rw [qbr];omega);have hup:upN j 16≤262144:=by unfold upN;omega
 (conv=>whnf)
 (repeat' (first|refine zp ?_|refine zC (fun _=>zw ?_) (fun _=>zw ?_)))
 ·have hj:j<L.length:=by omega
  have hsz:=qpr hE hj;have hx:=qh6 hj;have hlx:(tx (txs L) j).length=L[j].size:=qd3 hj;have hj16:j%16=0:=by omega
  refine ⟨fun nb w4 hnb hw=>?_⟩;have he4:Ext w3 w4:=by rw [hw];exact (Ext.refl w3).alloc _
  have hc4:w4.heap[nb]?=some (.cells #[.int .u64 (arL (txs L) j).length] 51):=by rw [hw,hnb];exact heap_alloc_new w3 _
  have hSp:=hD.sep.call he4;have hA4:=q9 hD.area he4;have hP4:=q9 hD.plc he4;have hpl:=hD.len;clear hnb hw;(conv=>whnf);refine AppV.cell q0i u64I u64Z Ok rfl (by decide +kernel) hP4 hc4 rfl Oo ?_;intro P5 cP5 w5 hP5 hch hnew;obtain ⟨hSp,_,hkp⟩:=hSp.row (i:=1) (F':=rowF (.slice P5 (upN j 16+1) cP5)) rfl hch hnew;have hA5:=qq hA4 (hkp 0 _ rfl Od);(conv=>whnf);obtain ⟨eb,eo,rfl,hat⟩:=hS.at_ (by intro e;rw [e] at hj;cases hj);have hcell:=hat j _ (zge hj);rw [Nat.mul_one] at hcell;have hlo8:=hSp.at_ (i:=0) rfl;have hlo8:∀ k∈rowF (.slice B (arL (txs L) j).length cB),w1.heap.size≤k:=fun k hk=>(hlo8 k hk).1
  have har:arL (txs L) (j+1)=arL (txs L) j++(varL L[j].size++L[j].data.toList):=by rw [qwt _ hj16,hlx,hx]
  refine DrawV.genW (fun S vals w'=>PuI w5 (.slice B (arL (txs L) j).length cB) (arL (txs L) (j+1)) (S 10) (S 11) (vals 10) (vals 11) w') rfl Ok (fun vals=>PuI.start (Ext.refl w5).drew) (zw ?_);(iterate 3 (refine zg ?_));refine StepG.of (.pointer (some ⟨eb,eo+j,none⟩)) (fun S vals wd hk hp hI=>zw ?_) (zw ?_)
  ·refine ⟨⟨eb,eo,j,rfl,by omega,by omega,?_⟩⟩;rw [show tsz Tryz.prog 9=1 from by kernel_rfl,Nat.mul_one];(conv=>whnf);exact ⟨rfl,hI⟩
  refine StepG.of (.string L[j]) (fun S vals wd hk hp hI=>zw ?_) (zw ?_)
  ·refine LoadV.cell0 (CellsAt.ext hcell (hI.ext hSp.ext hlo8)) (zw ?_);exact ⟨rfl,hI⟩
  (iterate 3 (refine zg ?_));refine StepG.of (.pointer (some ⟨eb,eo+j,none⟩)) (fun S vals wd hk hp hI=>zw ?_) (zw ?_)
  ·refine ⟨⟨eb,eo,j,rfl,by omega,by omega,?_⟩⟩;rw [show tsz Tryz.prog 9=1 from by kernel_rfl,Nat.mul_one];(conv=>whnf);exact ⟨rfl,hI⟩
  refine StepG.of (.string L[j]) (fun S vals wd hk hp hI=>zw ?_) (zw ?_)
  ·refine LoadV.cell0 (CellsAt.ext hcell (hI.ext hSp.ext hlo8)) (zw ?_);exact ⟨rfl,hI⟩
  refine StepG.any (fun S vals wd hk hp hI=>?_) (zw ?_)
  ·dsimp only at hI;rw [hk] at hI;(conv=>whnf);refine zcv (qm3 _ (arL (txs L) j) L[j].size L[j] wd (q9 hA5 hI.before) Oo Oo) ?_;rintro r wx hR;rw [← har] at hR;exact ⟨trivial,hI.put (hR.back hI.before)⟩
  refine StepG.any (fun S vals wd hk hp hI=>?_) (zw ?_)
  ·dsimp only at hI;have h10:S 10=true:=hp 10 Od;rw [hk,h10] at hI;obtain ⟨Ax,cx,hv⟩:=hI.val;rw [hv] at hI;rw [qj hv];(conv=>whnf);refine ⟨trivial,?_⟩;show PuI _ _ _ (S 10) true _ _ _;rw [h10];exact hI.keep
  intro vals w6 hI;obtain ⟨e11,hR⟩:=hI.done;obtain ⟨B6,cB6,hv⟩:=hR.own;rw [qj (e11.trans hv)];rw [hv] at hR;clear hI;obtain ⟨hSp,_,hkp⟩:=hSp.row (i:=0) (F':=rowF (.slice B6 (arL (txs L) (j+1)).length cB6)) rfl hR.chg hR.new;have hP6:=qq hP5 (hkp 1 _ rfl Od);have hup1:upN (j+1) 16=upN j 16+1:=by unfold upN;omega
  refine zu ?_;refine ⟨(j+1,B6,cB6,P5,cP5),⟨rfl,rfl,rfl,by show Value.slice _ _ _=_;rw [hup1],congrArg (Value.int .i64) Oo,trivial⟩,⟨by show j+1≤i;omega,?_⟩,by show i-(j+1)<i-j;omega⟩;show DcS (txs L) w1 w6 (j+1) (.slice B6 (arL (txs L) (j+1)).length cB6) (.slice P5 (upN (j+1) 16) cP5);rw [hup1];refine ⟨hSp,hR.row,?_,?_⟩
  ·rw [hup1,qm2 _ hj16,u64V,List.map_append];exact hP6
  ·rw [hup1,qm2 _ hj16,zla,hpl];rfl
 ·have hj:j<L.length:=by omega
  have hj16:j%16≠0:=by omega
  have hj0:j≠0:=fun e=>hj16 (by rw [e])
  have hsz:=qpr hE hj;have hsz1:=qpr hE (i:=j-1) Oo;have hx:=qh6 hj;have hx1:=qh6 (L:=L) (i:=j-1) Oo;have hlx:(tx (txs L) j).length=L[j].size:=qd3 hj;have hcm:=qg9 (tx (txs L) (j-1)) (tx (txs L) j);rw [hlx] at hcm;obtain ⟨eb,eo,rfl,hat⟩:=hS.at_ (by intro e;rw [e] at hj;cases hj);have hcell:=hat j _ (zge hj);have hcell1:=hat (j-1) _ (zge (show j-1<L.length by omega));have hw3:Ext w1 w3.drew:=hD.sep.ext.drew;refine DrawV.free rfl Ok (zw ?_);(iterate 3 (refine zd ?_));apply zsd
  ·intro wd hd;(conv=>whnf);refine ⟨⟨eb,eo,j-1,rfl,by omega,by omega,?_⟩⟩;exact ⟨xr,rfl⟩
  (conv=>whnf);apply zsd
  ·intro wd hd;(conv=>whnf);refine LoadV.cell0 (CellsAt.ext hcell1 (hw3.trans hd)) (zw ?_);exact ⟨xr,rfl⟩
  (conv=>whnf);refine zd ?_;refine zd ?_;apply zsd
  ·intro wd hd;(conv=>whnf);refine ⟨⟨eb,eo,j,rfl,by omega,by omega,?_⟩⟩;exact ⟨xr,rfl⟩
  (conv=>whnf);apply zsd
  ·intro wd hd;(conv=>whnf);refine LoadV.cell0 (CellsAt.ext hcell (hw3.trans hd)) (zw ?_);exact ⟨xr,rfl⟩
  (conv=>whnf);apply zsd
  ·intro wd hd;(conv=>whnf);refine zcv (qux (L[j-1]' Oo) L[j] wd Oo) ?_;rintro r wx ⟨rfl,hex⟩;exact ⟨hex,rfl⟩
  (conv=>whnf);refine zd ?_;intro w4 he4;have he4:Ext w3 w4:=(Ext.refl w3).drew.trans he4;conv=>whnf
  (repeat (intro _ _;(conv=>whnf)))
  rw [← hx1,← hx];obtain ⟨cm,ecm⟩:∃ cm,cm=comL (tx (txs L) (j-1)) (tx (txs L) j):=⟨_,rfl⟩
  rw [← ecm] at hcm ⊢;have hSp:=hD.sep.call he4;have hA4:=q9 hD.area he4;have hP4:=q9 hD.plc he4;have hpl:=hD.len;have hlv1:=qab 9 cm Oo;have hlv2:=qab 9 (L[j].size-cm) Oo;clear hD;refine zv ?_;refine zcv (qd2 cm w4 Oo) ?_;rintro r w5 ⟨⟨Bv,dv,rfl,hdv,hVS⟩,he5⟩;have hSp:=hSp.call he5;have hA5:=q9 hA4 he5;have hP5:=q9 hP4 he5;(conv=>whnf);refine AppV.bys qbl bytI bytZ Ok rfl (by decide +kernel) hA5 hVS Oo ?_;intro B6 cB6 w6 hA6 hch hnew;obtain ⟨hSp,_,hkp⟩:=hSp.row (i:=0) (F':=rowF (.slice B6 ((arL (txs L) j).length+(varL cm).length) cB6)) rfl hch hnew;have hP6:=qq hP5 (hkp 1 _ rfl Od);obtain ⟨Y,eY⟩:∃ Y,Y=arL (txs L) j++varL cm:=⟨_,rfl⟩
  have hYl:(arL (txs L) j).length+(varL cm).length=Y.length:=by rw [eY,zla]
  rw [← eY,hYl] at hA6;rw [hYl] at hSp ⊢;clear hch hnew hA4 hA5 hP4 hP5 hVS hkp;(conv=>whnf);have hlo8:=hSp.at_ (i:=0) rfl;have hlo8:∀ k∈rowF (.slice B6 Y.length cB6),w1.heap.size≤k:=fun k hk=>(hlo8 k hk).1
  obtain ⟨sx,esx⟩:∃ sx,sx=L[j].extract cm L[j].size:=⟨_,rfl⟩
  have hsx:sx.data.toList=(tx (txs L) j).drop cm:=by rw [esx,qas,hx];exact List.take_of_length_le (by rw [zld];exact Nat.le_refl _)
  have hsl:sx.data.toList.length=L[j].size-cm:=by rw [hsx,zld,hlx]
  have har:arL (txs L) (j+1)=Y++(varL (L[j].size-cm)++sx.data.toList):=by rw [qsa _ hj16,hlx,← ecm,hsx,eY];simp only [List.append_assoc]
  have hw6:Ext w1 w6:=hSp.ext;refine DrawV.genW (fun S vals w'=>PuI w6 (.slice B6 Y.length cB6) (arL (txs L) (j+1)) (S 14) (S 15) (vals 14) (vals 15) w') rfl Ok (fun vals=>PuI.start (Ext.refl w6).drew) (zw ?_);(iterate 3 (refine zg ?_));refine StepG.of (.pointer (some ⟨eb,eo+j,none⟩)) (fun S vals wd hk hp hI=>zw ?_) (zw ?_)
  ·refine ⟨⟨eb,eo,j,rfl,by omega,by omega,?_⟩⟩;rw [show tsz Tryz.prog 9=1 from by kernel_rfl,Nat.mul_one];(conv=>whnf);exact ⟨rfl,hI⟩
  refine StepG.of (.string L[j]) (fun S vals wd hk hp hI=>zw ?_) (zw ?_)
  ·refine LoadV.cell0 (CellsAt.ext (by rw [Nat.mul_one] at hcell;exact hcell) (hI.ext hw6 hlo8)) (zw ?_);exact ⟨rfl,hI⟩
  refine zg ?_;refine zg ?_;refine StepG.of (ii ((L[j].size-cm:Nat):Int)) (fun S vals wd hk hp hI=>?_) (zw ?_)
  ·refine zu ?_;exact ⟨congrArg (Value.int .i64) Oo,hI⟩
  refine zg ?_;refine zg ?_;refine StepG.of (.pointer (some ⟨eb,eo+j,none⟩)) (fun S vals wd hk hp hI=>zw ?_) (zw ?_)
  ·refine ⟨⟨eb,eo,j,rfl,by omega,by omega,?_⟩⟩;rw [show tsz Tryz.prog 9=1 from by kernel_rfl,Nat.mul_one];(conv=>whnf);exact ⟨rfl,hI⟩
  refine StepG.of (.string L[j]) (fun S vals wd hk hp hI=>zw ?_) (zw ?_)
  ·refine LoadV.cell0 (CellsAt.ext (by rw [Nat.mul_one] at hcell;exact hcell) (hI.ext hw6 hlo8)) (zw ?_);exact ⟨rfl,hI⟩
  refine zg ?_;refine StepG.of (.string sx) (fun S vals wd hk hp hI=>zw ?_) (zw ?_)
  ·refine ⟨cm,L[j].size,rfl,rfl,by omega,Nat.le_refl _,?_⟩;rw [← esx];(conv=>whnf);exact ⟨rfl,hI⟩
  refine StepG.any (fun S vals wd hk hp hI=>?_) (zw ?_)
  ·dsimp only at hI;rw [hk] at hI;(conv=>whnf);refine zcv (qm3 _ Y (L[j].size-cm) sx wd (q9 hA6 hI.before) Oo (by rw [eY,zla];show _+sx.data.toList.length+16≤_;omega)) ?_;rintro r wx hR;rw [← har] at hR;exact ⟨trivial,hI.put (hR.back hI.before)⟩
  refine StepG.any (fun S vals wd hk hp hI=>?_) (zw ?_)
  ·dsimp only at hI;have h14:S 14=true:=hp 14 Od;rw [hk,h14] at hI;obtain ⟨Ax,cx,hv⟩:=hI.val;rw [hv] at hI;rw [qj hv];(conv=>whnf);refine ⟨trivial,?_⟩;show PuI _ _ _ (S 14) true _ _ _;rw [h14];exact hI.keep
  intro vals w7 hI;obtain ⟨e15,hR⟩:=hI.done;obtain ⟨B7,cB7,hv⟩:=hR.own;rw [qj (e15.trans hv)];rw [hv] at hR;clear hI;obtain ⟨hSp,_,hkp⟩:=hSp.row (i:=0) (F':=rowF (.slice B7 (arL (txs L) (j+1)).length cB7)) rfl hR.chg hR.new;have hP7:=qq hP6 (hkp 1 _ rfl Od);have hup1:upN (j+1) 16=upN j 16:=by unfold upN;omega
  refine zu ?_;refine ⟨(j+1,B7,cB7,P,cP),⟨rfl,rfl,rfl,by show Value.slice _ _ _=_;rw [hup1],congrArg (Value.int .i64) Oo,trivial⟩,⟨by show j+1≤i;omega,?_⟩,by show i-(j+1)<i-j;omega⟩;show DcS (txs L) w1 w7 (j+1) (.slice B7 (arL (txs L) (j+1)).length cB7) (.slice P (upN (j+1) 16) cP);rw [hup1];refine ⟨hSp,hR.row,?_,?_⟩
  ·rw [hup1,qjp _ hj16];exact hP7
  ·rw [hup1,qjp _ hj16,hpl]
 ·obtain rfl:j=i:=by omega
  have hSp:=hD.sep;have hA:=hD.area;have hP:=hD.plc;have hpl:=hD.len;have hLl:(txs L).length=j:=by rw [qbr,hn]
  have hAr:arL (txs L) j=qv (txs L):=by rw [qv,hLl]
  have hPl:plcN (txs L) j=plcL (txs L):=by rw [← hLl];rfl
  rw [hAr] at hSp hA hal ⊢;rw [hPl] at hP hpl;clear hD;have hw64:=qim (n:=(qv (txs L)).length) Oo;have hwd:qr (qv (txs L)).length≤64:=qcm 64 _ Oo Od;refine zcv (qht (qv (txs L)).length w3 Oo) ?_;rintro r w4 ⟨rfl,rfl⟩;have hplt:∀ x∈plcL (txs L),x<2 ^ qr (qv (txs L)).length:=fun x hx=>by
   rw [plcL,List.mem_map] at hx;obtain ⟨k,hk,rfl⟩:=hx;rw [List.mem_range,hLl] at hk;refine Nat.lt_of_le_of_lt ?_ hw64;rw [← hAr];exact qig _ (by unfold upN at hk;omega)
  (conv=>whnf);refine zcv (qpe (plcL (txs L)) (qr (qv (txs L)).length) P (upN j 16) cP w4 (qjl hP hpl) hpl Oo (Nat.le_trans (Nat.mul_le_mul hup hwd) Od) hplt hwd) ?_;rintro r w5 ⟨vp,rfl,hNp⟩;obtain ⟨Ap,cp,ep,_,hAp⟩:=hNp.bs;subst ep;have hAs:SlAt encB 1 w5 B (qv (txs L)):=(qqr hA rfl).ext hNp.ext;have he5:Ext w1 w5:=hSp.ext.trans hNp.ext;have hpkl:=qbm (plcL (txs L)) (qr (qv (txs L)).length);have hpk:(plcL (txs L)).length*qr (qv (txs L)).length≤262144*64:=Nat.mul_le_mul Oo hwd;have eD:varL j++varL (qv (txs L)).length++qcv (plcL (txs L)) (qr (qv (txs L)).length)++qv (txs L)=qh (txs L):=by rw [qh,hLl];simp only [List.append_assoc]
  obtain ⟨pk,epk⟩:∃ pk,pk=qcv (plcL (txs L)) (qr (qv (txs L)).length):=⟨_,rfl⟩
  obtain ⟨pr,epr⟩:∃ pr,pr=(plcL (txs L)).length*qr (qv (txs L)).length:=⟨_,rfl⟩
  rw [← epk] at hAp hpkl eD ⊢;rw [← epr] at hpkl hpk;have hlv1:=qab 9 j Oo;have hlv2:=qab 9 (qv (txs L)).length Oo;clear hNp hP hA hSp;have hO:RowS w5 w5 (.slice none 0 0) []:=RowS.nil (Ext.refl w5);have e0:∀ a:LB,a++(⟨#[]⟩:ByteArray).data.toList=a:=fun a=>List.append_nil a
  (conv=>whnf);refine zcv (qm3 _ [] j ⟨#[]⟩ w5 hO.row Oo Od) ?_;rintro r w6 hR;rw [e0,List.nil_append] at hR;obtain ⟨A6,c6,rfl⟩:=hR.own;have hO:=hO.chg hR.row hR.chg hR.new;clear hR;(conv=>whnf);refine zcv (qm3 _ (varL j) (qv (txs L)).length ⟨#[]⟩ w6 hO.row Oo (by show (varL j).length+0+16≤_;omega)) ?_;rintro r w7 hR;rw [e0] at hR;obtain ⟨A7,c7,rfl⟩:=hR.own;have hO:=hO.chg hR.row hR.chg hR.new;clear hR;have hl7:(varL j++varL (qv (txs L)).length).length≤20:=by rw [zla];omega
  (conv=>whnf);refine hO.bys (hAp.ext hO.ext) Oo ?_;clear hO;intro A8 c8 w8 hO;have hl8:(varL j++varL (qv (txs L)).length++pk).length≤20+pk.length:=by rw [zla];omega
  (conv=>whnf);refine hO.bys (hAs.ext hO.ext) Oo ?_;clear hO;intro A9 c9 w9 hO;rw [eD] at hO ⊢;have hl9:(qh (txs L)).length≤20+pk.length+(qv (txs L)).length:=by rw [← eD,zla];omega
  (conv=>whnf);refine zC (fun _=>zu ?_) (fun _=>zu ?_)
  ·have hle:67108864<(qv (txs L)).length:=by omega
   exact .inl ⟨by rw [qf4 hE hle];decide,by rw [qf4 hE hle];rfl,he5.trans hO.ext⟩
  ·exact .inr ⟨qsp hE Oo,_,rfl,hO.new.back he5⟩
def vocY (T:List TM):Nat→LB
 | 0=>[]
 | k+1=>vocY T k++qh (secE T k)
theorem q6z (T:List TM):vocW T 3++vocY T 3=vocB T:=by
 rw [q0r];simp only [vocY,List.nil_append,List.append_assoc]
theorem qrw {T:List TM}:∀ {i:Nat},i≤3→(∀ j,j<i→dicE (secE T j)=0)→(vocY T i).length≤70000000*i
 | 0,_,_=>Nat.le_refl _
 | i+1,h,hd=>by
  have h1:=qrw (T:=T) (i:=i) Oo fun j hj=>hd j Oo
  have h2:=qez (hd i Oo);rw [vocY,zla];omega
structure RvS (T:List TM) (w0 w:World) (i:Nat) (u v:Value):Prop where
 sep:Sep w0 w [rowF u,rowF v]
 hd:w.ownsRow 0 5 1 u (vocW T i).length (byV (vocW T i))
 bd:w.ownsRow 0 5 1 v (vocY T i).length (byV (vocY T i))
def RVuR (qs:List Q4) (w w':World) (r:Value):Prop:=
 (∃ e:Nat,e≠0∧e=(if valE qs≠0 then valE qs else qcz (tmsQ qs))∧r=.tuple #[.slice none 0 0,ii e]∧Ext w w')∨
 (valE qs=0∧qcz (tmsQ qs)=0∧∃ v,r=.tuple #[v,ii 0]∧NewS 5 w w' v (vocB (tmsQ qs)))
theorem qrb (qs:List Q4) (A:oA) (n c:Nat) (w:World) (hS:SlAt qo 16 w A qs) (hn:qs.length=n) (hb:n≤140737488355328) (hq:∀ q∈qs,qec q) :
  Gv Tryz.prog 36 [.slice A n c,ii 1099511627776] w fun r w'=>RVuR qs w w' r:=by
 subst hn;have t1:tsz Tryz.prog 3=1:=by kernel_rfl
 refine ze Tryz.func36 Tryz.ntmps36 ?_;refine zcv (qrp qs A qs.length c w hS rfl hb hq) ?_;rintro r w1 ⟨⟨i0,rfl⟩,he1⟩
 by_cases hE:valE qs=0
 case neg=>
  have h0:¬ ((valE qs:Nat):Int)=0:=by omega
  refine zu ?_;exact .inl ⟨valE qs,hE,by rw [if_pos hE],rfl,he1⟩
 have hlq:=(qdl hE).1;have hNT:=qnp hE;have hTE:=fun t (ht:t∈tmsQ qs)=>qew hE ht
 have hTO:∀ t∈tmsQ qs,TermOk t:=fun t ht=>by
  obtain ⟨q,h1,h2⟩:=qgc.1 ht;exact qld (hq q h1) h2
 unfold RVuR;rw [if_neg (fun g=>g hE)];rw [hE];refine zu ?_;refine zcv (qh5 qs A c w1 (hS.ext he1) Oo) ?_;rintro r w2 ⟨⟨B,d,rfl,hd,hTS⟩,he2⟩;have hTS:SlAt encT 4 w2 B (tmsQ qs):=hTS;have hd:(tmsQ qs).length≤d:=hd;show _;generalize eT:tmsQ qs=T at *;have eT2:tmsN (trms qs).length (trms qs)=T:=eT;rw [eT2];(conv=>whnf);refine zcv (qqi w2) ?_;rintro r w3 ⟨rfl,he3⟩;(conv=>whnf);refine znm (Mem.nil w3) fun kb w4 hm=>zw ?_;refine StoreA.all (vs:=[ii 1,ii 2,ii 3]) hm (i:=0) rfl rfl (by simp [Value.oneCell']) ?_;intro w5 hm;have hkc:CellsAt w5 kb 0 [ii 1,ii 2,ii 3]:=CellsAt.mem hm mh;have he5:Ext w w5:=he1.trans (he2.trans (he3.trans hm.ext));have hTS:=hTS.ext (he3.trans hm.ext);clear hm;(conv=>whnf);refine qe (fun x:Nat × oA × Nat × oA × Nat=>[(1,ii 1099511627776),(8,.slice B T.length d),(9,.slice x.2.1 (vocW T x.1).length x.2.2.1),(10,.slice x.2.2.2.1 (vocY T x.1).length x.2.2.2.2),(11,pp kb),(12,ii x.1)])
  (fun x w'=>x.1≤3∧(∀ j,j<x.1→dicE (secE T j)=0)∧RvS T w5 w' x.1 (.slice x.2.1 (vocW T x.1).length x.2.2.1) (.slice x.2.2.2.1 (vocY T x.1).length x.2.2.2.2)) (fun x=>3-x.1) (0,none,0,none,0) ⟨rfl,rfl,rfl,rfl,rfl,rfl,trivial⟩
  ⟨Nat.zero_le _,fun j h=>absurd h (Nat.not_lt_zero _),((Sep.of (Ext.refl w5)).add (F:=rowF (.slice none 0 0)) (Ext.refl w5) (fun k hk=>by cases hk)).add (F:=rowF (.slice none 0 0)) (Ext.refl w5) (fun k hk=>by cases hk),World.ownsRow_nil _ _ _ _,World.ownsRow_nil _ _ _ _⟩ ?_
 rintro ⟨i,H,cH,Y,cY⟩ w6 ρ' ⟨i1,i2,hR⟩;dsimp only at i1 i2 hR ⊢;have hwl:=qhy i1 i2;have hyl:=qrw i1 i2;(conv=>whnf);refine zC (fun _=>zw ?_) (fun _=>zw ?_)
 ·have hi3:i<3:=by omega
  have hki:([ii 1,ii 2,ii 3]:List Value)[i]?=some (ii ((i+1:Nat):Int)):=by
   rcases (show i=0∨i=1∨i=2 by omega) with rfl|rfl|rfl<;>rfl
  refine qe (fun y:Nat × oA × Nat=>[(1,ii 1099511627776),(8,.slice B T.length d),(9,.slice H (vocW T i).length cH),(10,.slice Y (vocY T i).length cY),(11,pp kb),(12,ii i),(13,.slice y.2.1 (secA (T.take y.1) i).length y.2.2),(14,ii y.1)])
   (fun y w'=>y.1≤T.length∧Rw w6 w' (.slice y.2.1 (secA (T.take y.1) i).length y.2.2) 9 1 (secA (T.take y.1) i).length (strV (secA (T.take y.1) i)) []) (fun y=>T.length-y.1) (0,none,0) ⟨rfl,rfl,rfl,rfl,rfl,rfl,rfl,rfl,trivial⟩ ⟨Nat.zero_le _,Rw.nil (Mem.nil w6)⟩ ?_
  rintro ⟨j,E,cE⟩ w7 ρ2 ⟨j1,hR7⟩;dsimp only at j1 hR7 ⊢;have he7:Ext w5 w7:=hR.sep.ext.trans hR7.mem.ext;have hsl:=qnh (T.take j) i;rw [List.length_take] at hsl;(conv=>whnf);refine zC (fun _=>zw ?_) (fun _=>zw ?_)
  ·have hj:j<T.length:=by omega
   have htm:=List.getElem_mem hj;have etk:T.take (j+1)=T.take j++[T[j]]:=by rw [List.take_add_one,zge hj];rfl
   obtain ⟨tb,to,eB,hat⟩:=(hTS.ext he7).at_ (by intro e;rw [e] at hj;cases hj);have hcell:=hat j _ (zge hj);have hkc7:=hkc.ext he7;obtain ⟨t,et⟩:∃ t,t=T[j]:=⟨_,rfl⟩
   rw [← et] at htm etk hcell;obtain ⟨tE,k1,k3⟩:=hTE t htm;subst eB;have he8:Ext w7 w7.drew:=(Ext.refl w7).drew;refine zy ?_;refine zv ?_;refine ⟨⟨tb,to,j,rfl,by omega,by omega,?_⟩⟩;refine zu ?_;refine LoadV.cell0 (hcell.ext he8) (zu ?_);refine LoadV.of (by rw [t1,Nat.mul_one];exact (hkc7.ext he8) i _ hki) (zw ?_);have hcell:=hcell.ext he8;have hR7:=hR7.call he8;generalize w7.drew=w8 at *;refine zt ?_;refine zC (fun _=>zu ?_) (fun _=>zu ?_)
   ·have hk:t.kind=((i+1:Nat):Int):=by omega
    refine ⟨⟨tb,to,j,rfl,by omega,by omega,?_⟩⟩;(conv=>whnf);refine LoadA.cells hcell rfl (zw ?_);refine zcv (qqc t (hTO t htm) w8) ?_;rintro r w9 ⟨rfl,he9⟩;rw [if_pos tE];have hR7:=hR7.call he9;(conv=>whnf);refine NewV.rw hR7 fun nb w10 hR7=>zw ?_;refine AppV.one qrh strI strZ Ok rfl (by decide +kernel) hR7 rfl Oo ?_;clear hR7;intro E2 cE2 w11 hR7;refine zu ?_;have es:secA (T.take (j+1)) i=secA (T.take j) i++[entA t]:=by rw [etk,qt0 hk]
    have el:(secA (T.take (j+1)) i).length=(secA (T.take j) i).length+1:=by rw [es];simp
    refine ⟨(j+1,E2,cE2),⟨rfl,rfl,rfl,rfl,rfl,rfl,by show Value.slice _ _ _=_;rw [el],congrArg (Value.int .i64) Oo,trivial⟩,⟨by show j+1≤T.length;omega,?_⟩,by show T.length-(j+1)<T.length-j;omega⟩;show Rw w6 w11 (.slice E2 (secA (T.take (j+1)) i).length cE2) 9 1 _ _ _;rw [el,es,strV,List.map_append];exact hR7
   ·have hk:t.kind≠((i+1:Nat):Int):=by omega
    have es:secA (T.take (j+1)) i=secA (T.take j) i:=by rw [etk,qph hk]
    refine ⟨(j+1,E,cE),⟨rfl,rfl,rfl,rfl,rfl,rfl,by show Value.slice _ _ _=_;rw [es],congrArg (Value.int .i64) Oo,trivial⟩,⟨by show j+1≤T.length;omega,?_⟩,by show T.length-(j+1)<T.length-j;omega⟩;show Rw w6 w8 (.slice E (secA (T.take (j+1)) i).length cE) 9 1 _ _ _;rw [es];exact hR7
  ·obtain rfl:j=T.length:=by omega
   rw [List.take_length] at hR7 hsl ⊢;have hEs:SlAt zeS 1 w7 E (secA T i):=qjk (f:=Value.string) hR7.own rfl;refine zcv (qqz (secA T i) E (secA T i).length cE w7 hEs rfl Oo) ?_;rintro r w8 hDB;rw [qt1] at hDB
   rcases hDB with ⟨h0,rfl,he8⟩|⟨h0,v,rfl,hN⟩
   ·have h1:¬ ((dicE (secE T i):Nat):Int)=0:=by omega
    refine zu ?_;exact .inl ⟨dicE (secE T i),h0,(quj hi3 i2 h0).symm,rfl,he5.trans (he7.trans he8)⟩
   ·have hlen:=qez h0;have he8:=hR7.mem.ext.trans hN.ext;have hSp:=(hR.sep.call hR7.mem.ext).add hN.ext hN.lo;obtain ⟨Av,cv,ev,hcv,hAv⟩:=id hN.bs;subst ev;have hlv:=qab 9 (qh (secE T i)).length Oo;refine zu ?_;refine zcv (qd2 (qh (secE T i)).length w8 Oo) ?_;rintro r w9 ⟨⟨Bv,dv,rfl,hdv,hVS⟩,he9⟩;have hSp:=hSp.call he9;have hd9:=q9 (q9 hR.hd he8) he9;have hb9:=q9 (q9 hR.bd he8) he9;have hAv:=hAv.ext he9;(conv=>whnf);refine AppV.bys qbl bytI bytZ Ok rfl (by decide +kernel) hd9 hVS Oo ?_;intro H2 cH2 w10 ho hc hn;have eW:(vocW T i).length+(varL (qh (secE T i)).length).length=(vocW T (i+1)).length:=by rw [vocW,zla]
    rw [eW] at ho hn ⊢;have hs:=hSp.row (i:=1) (F':=rowF (.slice H2 (vocW T (i+1)).length cH2)) rfl hc hn;have hb10:=qq hb9 (hs.keep 2 _ rfl Od);have hAv:=hAv.keep fun k hk=>hs.keep 0 _ rfl Od k (by rw [qcl _ _ _ 0 0];exact hk)
    have hSp:=hs.sep;clear hc hn hd9 hb9 hVS hs;(conv=>whnf);refine AppV.bys qbl bytI bytZ Ok rfl (by decide +kernel) hb10 hAv Oo ?_;intro Y2 cY2 w11 ho2 hc2 hn2;have eY:(vocY T i).length+(qh (secE T i)).length=(vocY T (i+1)).length:=by rw [vocY,zla]
    rw [eY] at ho2 hn2 ⊢;have hs2:=hSp.row (i:=2) (F':=rowF (.slice Y2 (vocY T (i+1)).length cY2)) rfl hc2 hn2;have ho11:=qq ho (hs2.keep 1 _ rfl Od);refine zu ?_;refine ⟨(i+1,H2,cH2,Y2,cY2),⟨rfl,rfl,rfl,rfl,rfl,congrArg (Value.int .i64) Oo,trivial⟩,⟨by show i+1≤3;omega,fun j hj=>?_,hs2.sep.drop 1,ho11,ho2⟩,by show 3-(i+1)<3-i;omega⟩
    by_cases e:j=i
    ·subst e;exact h0
    ·exact i2 j (by have:j<i+1:=hj;omega)
 ·obtain rfl:i=3:=by omega
  have hYs:SlAt encB 1 w6 Y (vocY T 3):=qqr hR.bd rfl;refine AppV.bys qbl bytI bytZ Ok rfl (by decide +kernel) hR.hd hYs Oo ?_;intro Z cZ w7 ho hc hn;have eL:(vocW T 3).length+(vocY T 3).length=(vocB T).length:=by rw [← q6z,zla]
  rw [q6z] at ho;rw [eL] at ho hn ⊢;have hs:=hR.sep.row (i:=0) (F':=rowF (.slice Z (vocB T).length cZ)) rfl hc hn;have hO:RowS w5 w7 (.slice Z (vocB T).length cZ) (vocB T):=⟨(hs.sep.perm (List.Perm.swap _ _ _)).drop 1,ho⟩
  refine zu ?_;exact .inr ⟨rfl,quk i2,_,rfl,hO.new.back he5⟩
theorem qq5 (Q:Nat→Nat→Nat) (n:Nat) (hQ:TOk Q n) {i:Nat} (hi:i<n) (w:World):Gv Tryz.prog 77 [idsW (Q i)] w fun r w'=>r=.bool true∧Ext w w':=by
 have t1:tsz Tryz.prog 3=1:=by kernel_rfl
 refine ze Tryz.func77 Tryz.ntmps77 ?_;refine znm (Mem.nil w) ?_;intro b w1 hm;have hc:CellsAt w1 b 0 (idsE (Q i)):=CellsAt.mem hm mh;(conv=>whnf);refine qe (fun k:Nat=>[(1,pp b),(3,ii k)]) (fun k w'=>k≤4∧w'=w1) (fun k=>4-k) 0 ⟨rfl,rfl,trivial⟩ ⟨Nat.zero_le _,rfl⟩ ?_;rintro k w2 ρ' ⟨k1,rfl⟩;conv=>whnf
 (repeat' (first|refine zp ?_|refine zC (fun _=>zw ?_) (fun _=>zw ?_)))
 case' refine_2=>exact ⟨rfl,hm.ext⟩
 all_goals
  have hk:k<4:=by omega
  have hr:=hQ.num i k hi hk;refine LoadV.of (by rw [t1,Nat.mul_one];exact hc k _ (qbq (Q i) hk)) (zu ?_);refine LoadV.of (by rw [t1,Nat.mul_one];exact hc k _ (qbq (Q i) hk)) (zu ?_);exact ⟨k+1,⟨rfl,rfl,trivial⟩,⟨by omega,rfl⟩,by omega⟩
theorem ql7 (a b:Nat→Nat) (w:World) {kk:Nat} (hk:kk<4) (he:∀ j,j<kk→a j=b j) (hlt:a kk<b kk):Gv Tryz.prog 78 [idsW a,idsW b] w fun r w'=>r=ii (-1)∧Ext w w':=by
 have t1:tsz Tryz.prog 3=1:=by kernel_rfl
 refine ze Tryz.func78 Tryz.ntmps78 ?_;refine znm (Mem.nil w) fun b1 w1 hm=>zw ?_;refine znm hm fun b2 w2 hm=>zw ?_;have c1:CellsAt w2 b1 0 (idsE a):=CellsAt.mem hm (zmc mh);have c2:CellsAt w2 b2 0 (idsE b):=CellsAt.mem hm mh;refine qe (fun k:Nat=>[(2,pp b1),(3,pp b2),(5,ii k)]) (fun k w'=>k≤kk∧Ext w2 w') (fun k=>kk-k) 0 ⟨rfl,rfl,rfl,trivial⟩ ⟨Nat.zero_le _,xr⟩ ?_;rintro k w3 ρ' ⟨k1,he3⟩;have h1:=c1.ext he3.drew;have h2:=c2.ext he3.drew;refine zu ?_;refine zy ?_;refine zv ?_;refine LoadV.of (by rw [t1,Nat.mul_one];exact h1 k _ (qbq a Oo)) (zu ?_);refine LoadV.of (by rw [t1,Nat.mul_one];exact h2 k _ (qbq b Oo)) (zw ?_)
 by_cases hkk:k=kk
 ·subst hkk;refine zv ?_;exact ⟨rfl,hm.ext.trans he3.drew⟩
 ·have hab:=he k Oo;have h1:=h1.ext xr.drew;have h2:=h2.ext xr.drew;refine zv ?_;refine zy ?_;refine zv ?_;refine LoadV.of (by rw [t1,Nat.mul_one];exact h1 k _ (qbq a Oo)) (zu ?_);refine LoadV.of (by rw [t1,Nat.mul_one];exact h2 k _ (qbq b Oo)) (zu ?_);exact ⟨k+1,⟨rfl,rfl,rfl,trivial⟩,⟨by omega,he3.drew.drew⟩,by omega⟩
def boF (S:List Bool) (t:Nat):Nat:=if S.getD t false=true then 1 else 0
theorem q4n {S:List Bool} {t:Nat} (h:S.length≤t):boF S t=0:=by
 rw [boF,List.getD_eq_getElem?_getD,List.getElem?_eq_none h];rfl
def boC (S:List Bool) (e:Nat):List Value:=byV (qbo (upF (boF S) e) ((S.length+7)/8))
theorem q4m (S:List Bool) (e:Nat):(boC S e).length=(S.length+7)/8:=by rw [boC,qae,qbu]
theorem q4l (S:List Bool):boC S S.length=byV (qbo (boF S) ((S.length+7)/8)):=by
 have e:upF (boF S) S.length=boF S:=funext fun t=>by
  rw [upF]
  split
  ·rfl
  ·exact (q4n Oo).symm
 rw [boC,e]
theorem q1b {S:List Bool} {e:Nat} (h:boF S e=0):boC S (e+1)=boC S e:=by
 have e:upF (boF S) (e+1)=upF (boF S) e:=funext fun t=>by
  rw [upF,upF]
  by_cases g:t=e
  ·subst g;rw [if_pos Oo,if_neg Oo,h]
  ·by_cases g2:t<e
   ·rw [if_pos g2,if_pos Oo]
   ·rw [if_neg g2,if_neg Oo]
 rw [boC,boC,e]
theorem qo0 (S:List Bool) (A:oA) (n c:Nat) (w:World) (hS:SlAt encO 1 w A S) (hn:S.length=n) (hb:n≤4194304) :
  Gv Tryz.prog 83 [.slice A n c] w fun r w'=>NewS 5 w w' r (qbo (boF S) ((n+7)/8)):=by
 refine ze Tryz.func83 Tryz.ntmps83 ?_;refine zv ?_;refine ⟨(n+7)/8,(n+7)/8,rfl,rfl,Nat.le_refl _,by show (n+7)/8*1≤_;omega,by omega,fun ob w5 hb hw5=>?_⟩;have hm0:=(Mem.nil w).new hb hw5;have hm:Mem w w5 [(ob,.cells (boC S 0).toArray 5)]:=by rw [boC,qt9,hn];exact hm0
 clear hb hw5 hm0;(conv=>whnf);refine qe (fun i:Nat=>[(0,.slice A n c),(3,.slice (some ⟨ob,0,none⟩) ((n+7)/8) ((n+7)/8)),(4,ii i)])
  (fun i w'=>i≤n∧Mem w w' [(ob,.cells (boC S i).toArray 5)]) (fun i=>n-i) 0 ⟨rfl,rfl,rfl,trivial⟩ ⟨Nat.zero_le _,hm⟩ ?_
 clear hm;rintro i w6 ρ' ⟨i1,hm⟩;(conv=>whnf);refine zC (fun _=>zw ?_) (fun _=>zw ?_)
 ·have hi:i<S.length:=by omega
  refine ElemV.sl (hS.ext hm.ext) hn i rfl Oo ?_;intro eb eo hcell;obtain ⟨s,es⟩:∃ s,s=S[i]:=⟨_,rfl⟩
  rw [← es] at hcell;have hbo:boF S i=if s=true then 1 else 0:=by rw [boF,List.getD_eq_getElem?_getD,zge hi,es];rfl
  (conv=>whnf);refine LoadV.cell0 hcell (zw ?_);cases s with
  | false=>
   have hbo:boF S i=0:=hbo;refine zv ?_;exact ⟨i+1,⟨rfl,rfl,rfl,trivial⟩,⟨by omega,by rw [q1b hbo];exact hm⟩,by omega⟩
  | true=>
   have hbo:boF S i=1:=hbo;have hst:=q0k (F:=boF S) (m:=(S.length+7)/8) (e:=i) Oo;rw [hbo] at hst;have hcl:=q4m S i;have hld:(boC S i)[i/8]?=some (.int .u8 (byt (upF (boF S) i) (i/8):Nat)):=qdq Oo;have hby:=qkx (upF (boF S) i) (i/8);refine zv ?_;refine DrawV.own rfl Ok (zw ?_);(iterate 3 (refine zo ?_));apply StepO.still
   ·intro wd hd;(conv=>whnf);refine ElemV.own1 (i/8) rfl Oo (zw ?_);exact PostO.still xr rfl
   (conv=>whnf);apply StepO.still
   ·intro wd hd;(conv=>whnf);refine LoadV.mem (Mem.call (Mem.drew hm) hd) (i:=0) rfl (by rw [List.getElem?_toArray];exact hld) ?_;(conv=>whnf);exact PostO.still xr rfl
   (conv=>whnf);refine zo ?_;refine zo ?_;apply StepO.still
   ·intro wd1 hd;(conv=>whnf);refine V.Wit.shlN (a:=1) (i%8) Oo (by show i%8<8;omega) (qd6 ?_) ?_
    ·have h2:2 ^ (i%8)≤2 ^ 7:=Nat.pow_le_pow_right Od Oo;have e7:(2:Nat) ^ 7=128:=by decide
     show 1*2 ^ (i%8)<256;omega
    (conv=>whnf);exact PostO.still xr rfl
   (conv=>whnf);apply StepO.still
   ·intro wd1 hd;(conv=>whnf);refine Wit.eq (qtm (f:=boF S) i 1) (zw ?_);exact PostO.still xr rfl
   (conv=>whnf);apply StepO.still
   ·intro wd1 hd;(conv=>whnf);refine ElemV.own1 (i/8) rfl Oo (zw ?_);exact PostO.still xr rfl
   (conv=>whnf);intro w8 hd8
   (repeat (intro _;(conv=>whnf)))
   (conv=>whnf);refine StoreV.mem (hm.drew.call hd8) (i:=0) rfl (by rw [List.size_toArray];omega) rfl ?_;intro w9 hm;have hm:Mem w w9 [(ob,.cells (boC S (i+1)).toArray 5)]:=by
    rw [boC,← hst];have e:((boC S i).toArray.setIfInBounds (i/8) (.int .u8 (byt (upF (boF S) i) (i/8)+1%2*2 ^ (i%8):Nat)))=((boC S i).set (i/8) (.int .u8 (byt (upF (boF S) i) (i/8)+1%2*2 ^ (i%8):Nat))).toArray:=by simp
    rw [boC] at e;rw [← e];exact hm
   refine zu ?_;exact ⟨i+1,⟨rfl,rfl,rfl,trivial⟩,⟨by omega,hm⟩,by omega⟩
 ·obtain rfl:i=n:=by omega
  obtain ⟨o1,o2⟩:=hm.own _ mh;have hall:=q4l S;rw [hn] at hall;refine NewS.blk hm.ext o1 ?_ (by rw [qbu]);rw [← hall];exact o2
def laM (S:List Bool):List Bool:=(List.range S.length).map fun t=>S.getD (t+1) false
def laN (S:List Bool):List Bool:=(List.range S.length).map fun t=>decide (t+1=S.length)||S.getD (t+1) false
theorem qbj (S:List Bool):(laM S).length=S.length:=by simp [laM]
theorem qft (S:List Bool):(laN S).length=S.length:=by simp [laN]
theorem qom {S:List Bool} {t:Nat} (h:t<S.length):(laM S)[t]?=some (S.getD (t+1) false):=by rw [laM,List.getElem?_map,List.getElem?_range h];rfl
theorem qye {S:List Bool} {t:Nat} (h:t<S.length):(laN S)[t]?=some (decide (t+1=S.length)||S.getD (t+1) false):=by rw [laN,List.getElem?_map,List.getElem?_range h];rfl
theorem q11 (S:List Bool) (b:Bool):laM (S++[b])=(laM S).set (S.length-1) b++[false]:=by
 refine List.ext_getElem? fun t=>?_
 by_cases h:t<S.length
 ·rw [qom Ys,List.getElem?_append_left (by rw [List.length_set,qbj];exact h),List.getElem?_set,List.getD_eq_getElem?_getD]
  by_cases e:S.length-1=t
  ·rw [if_pos e,if_pos (by rw [qbj];omega),List.getElem?_append_right Oo,show t+1-S.length=0 by omega];rfl
  ·rw [if_neg e,qom h,List.getElem?_append_left Oo,List.getD_eq_getElem?_getD]
 ·by_cases e:t=S.length
  ·subst e;rw [qom Js,List.getElem?_append_right (by rw [List.length_set,qbj];exact Nat.le_refl _),List.length_set,qbj,Nat.sub_self,List.getD_eq_getElem?_getD,List.getElem?_eq_none Js];rfl
  ·rw [List.getElem?_eq_none (by rw [qbj];simp;omega),List.getElem?_eq_none (by rw [zla,List.length_set,qbj];simp;omega)]
theorem q10 (S:List Bool):(laM S).set (S.length-1) false=laM S:=by
 refine List.ext_getElem? fun t=>?_;rw [List.getElem?_set]
 by_cases e:S.length-1=t
 ·rw [if_pos e]
  by_cases h:t<S.length
  ·rw [if_pos (by rw [qbj];omega),qom h,List.getD_eq_getElem?_getD,List.getElem?_eq_none Oo];rfl
  ·rw [if_neg (by rw [qbj];omega),List.getElem?_eq_none (by rw [qbj];omega)]
 ·rw [if_neg e]
theorem q5e (S:List Bool):(laM S).set (S.length-1) true=laN S:=by
 refine List.ext_getElem? fun t=>?_;rw [List.getElem?_set]
 by_cases h:t<S.length
 ·by_cases e:S.length-1=t
  ·rw [if_pos e,if_pos (by rw [qbj];omega),qye h,decide_eq_true Oo];rfl
  ·rw [if_neg e,qom h,qye h,decide_eq_false Oo];rfl
 ·by_cases e:S.length-1=t
  ·rw [if_pos e,if_neg (by rw [qbj];omega),List.getElem?_eq_none (by rw [qft];omega)]
  ·rw [if_neg e,List.getElem?_eq_none (by rw [qbj];omega),List.getElem?_eq_none (by rw [qft];omega)]
theorem q5d (S:List Bool) (t:Nat):(if (laN S).getD t false=true then 1 else 0)=laT S t:=by
 rw [List.getD_eq_getElem?_getD,laT]
 by_cases h:t<S.length
 ·rw [qye h]
  by_cases e:t+1=S.length
  ·rw [if_pos e,decide_eq_true e];rfl
  ·rw [if_neg e,decide_eq_false e];rfl
 ·rw [List.getElem?_eq_none (by rw [qft];omega),List.getD_eq_getElem?_getD,List.getElem?_eq_none Oo,if_neg (show ¬ t+1=S.length by omega)]
def smQ (Q:Nat→Nat→Nat) (i k:Nat):Bool:=if k=0 then decide (0<i) else !(frU Q i (k-1))
theorem qit (Q:Nat→Nat→Nat) (i k:Nat):smQ Q i (k+1)=!(frU Q i k):=by simp [smQ]
theorem q7e (Q:Nat→Nat→Nat) (i k:Nat):frU Q i k=!(smQ Q i k&&decide (Q i k=Q (i-1) k)):=by
 cases k with
 | zero=>
  by_cases h:i=0
  ·subst h;simp [frU,smQ]
  ·have e:smQ Q i 0=true:=by rw [smQ,if_pos rfl];exact decide_eq_true Oo
   rw [e,Bool.true_and,frU,Bool.eq_iff_iff];simp [h]
 | succ k=>
  rw [qit,frU,Bool.eq_iff_iff];simp
theorem q6h {Q:Nat→Nat→Nat} {i k:Nat} (h:smQ Q i k=true):0<i:=by
 rw [smQ] at h
 split at h
 ·exact of_decide_eq_true h
 ·exact (qmi (by simpa using h)).1
theorem q7s (S:List Bool):boF (laN S)=laT S:=funext fun t=>q5d S t
def boV (l:List Bool):List Value:=l.map Value.bool
theorem qfp (l:List Bool):(boV l).length=l.length:=by simp [boV]
def eD (m:Nat):TypeId:=if m%2=0 then 51 else 4
theorem qp9 (j:Nat):eD (2*j)=51:=if_pos Oo
theorem qxl (j:Nat):eD (2*j+1)=4:=if_neg Oo
structure RdS (w w':World) (rb:Nat) (U G:Nat→Value) (L:Nat→List Value):Prop where
 sep:Sep w w' (rwF [] rb G)
 tab:w'.heap[rb]?=some (.cells (fnA 8 U) 169)
 row:∀ m,m<8→w'.ownsRow 0 (eD m) 1 (G m) (L m).length (L m)
section
variable {w w1 w2:World} {rb:Nat} {U G:Nat→Value} {L:Nat→List Value}
theorem RdS.call (h:RdS w w1 rb U G L) (he:Ext w1 w2):RdS w w2 rb U G L:=⟨h.sep.call he,he.get h.tab,fun m hm=>q9 (h.row m hm) he⟩
theorem RdS.chg (h:RdS w w1 rb U G L) {m:Nat} (hm:m<8) {v:Value} {x:List Value} (ho:w2.ownsRow 0 (eD m) 1 v x.length x) (hc:Chn (rowF (G m)) w1 w2) (hn:∀ j∈rowF v,(j∈rowF (G m)∨w1.heap.size≤j)∧j<w2.heap.size) :
  RdS w w2 rb U (updF G m v) (updR L m x):=by
 have hs:=h.sep.row (i:=m+2) (qfm [] rb G hm) hc hn;refine ⟨by rw [← qzw];exact hs.sep,?_,fun j hj=>?_⟩
 ·rw [hs.keep 1 [rb] rfl Oo rb (List.mem_singleton.2 rfl)];exact h.tab
 ·by_cases e:j=m
  ·subst e;rw [qb5,qb1];exact ho
  ·rw [qbk _ _ _ _ e,qbb _ _ _ e];exact qq (h.row j hj) fun i hi=>hs.keep (j+2) _ (qfm [] rb G hj) Oo i hi
theorem RdS.store (h:RdS w w1 rb U G L) {m:Nat} (hm:m<8) {v:Value} {K:World→Prop} (h1:qb2 v=true) (hK:∀ w2,RdS w w2 rb (updF U m v) G L→K w2):StoreV w1 rb m v K:=by
 refine StoreV.own h.tab (by rw [qn];exact hm) h1 fun w2 hw=>?_;obtain ⟨hc,hg⟩:=Chn.set h.tab hw;have hs:=h.sep.row (i:=1) (F':=[rb]) rfl hc fun j hj=>⟨.inl hj,by rw [List.mem_singleton.1 hj];exact qa2 hg⟩
 exact hK w2 ⟨hs.sep,by rw [hg,qdu],fun j hj=>qq (h.row j hj) fun i hi=>hs.keep (j+2) _ (qfm [] rb G hj) Oo i hi⟩
theorem RdS.eqL {M:Nat→List Value} (h:RdS w w1 rb U G L) (e:∀ m,m<8→L m=M m):RdS w w1 rb U G M:=
 ⟨h.sep,h.tab,fun m hm=>by rw [← e m hm];exact h.row m hm⟩
theorem RdS.cell (h:RdS w w1 rb G G L) {m j:Nat} (hm:m<8) (hj:j<(L m).length) {A:oA} {c:Nat} (hG:G m=.slice A (L m).length c) {v:Value} (hv:qb2 v=true):∃ g,A=some ⟨g,0,none⟩∧∀ (K:World→Prop),(∀ w2,RdS w w2 rb G G (updR L m ((L m).set j v))→K w2)→StoreV w1 g j v K:=by
 have hr:=h.row m hm;rw [hG] at hr;obtain ⟨g,hA,cur,hg,hcs⟩:∃ g,A=some ⟨g,0,none⟩∧∃ cur,w1.heap[g]?=some (.cells cur (eD m))∧(L m).length≤cur.size:=by
  rcases hr.2 with ⟨q1,q2⟩|⟨g,cap,cur,q1,_,hg,q3,_,q4,q5⟩
  ·exfalso;omega
  ·cases q1;exact ⟨g,rfl,cur,hg,by omega⟩
 subst hA;refine ⟨g,rfl,fun K hK=>StoreV.own hg Oo hv fun w2 hw=>?_⟩;obtain ⟨ho,hc⟩:=qy8 hr rfl hj hw;have hl:((L m).set j v).length=(L m).length:=List.length_set;have h9:=h.chg hm (v:=.slice (some ⟨g,0,none⟩) (L m).length c) (x:=(L m).set j v) (by rw [hl];exact ho) (by rw [hG];exact hc) (by
  rw [hG];intro k hk;refine ⟨.inl hk,?_⟩;rw [List.mem_singleton.1 hk];exact Nat.lt_of_lt_of_le (qa2 hg) hc.size)
 have eG:∀ i,updF G m (.slice (some ⟨g,0,none⟩) (L m).length c) i=G i:=fun i=>by
  by_cases e:i=m
  ·subst e;rw [qb5,hG]
  ·rw [qbk _ _ _ _ e]
 rw [show updF G m (.slice (some ⟨g,0,none⟩) (L m).length c)=G from funext eG] at h9;exact hK w2 h9
end
def RdI (w w7:World) (rb:Nat) (G:Nat→Value) (L:Nat→List Value) (j x:Nat) (s4 s12 s13 s16:Bool) (v12 v13:Value) (w':World):Prop:=
 (s13=false∧s16=false∧Ext w7 w'∧(s12=true→∃ nb,v12=.slice (some ⟨nb,0,none⟩) 1 1∧w'.heap[nb]?=some (.cells #[.int .u64 x] 51)))∨
 (s12=true∧s13=true∧s16=false∧∃ A c,v13=.slice A ((L (2*j)).length+1) c∧RdS w w' rb G (updF G (2*j) (.slice A ((L (2*j)).length+1) c)) (updR L (2*j) (L (2*j)++[.int .u64 x])))∨
 (s4=true∧s12=true∧s13=true∧s16=true∧∃ G',RdS w w' rb G' G' (updR L (2*j) (L (2*j)++[.int .u64 x])))
section
variable {w w7 w':World} {rb:Nat} {G:Nat→Value} {L:Nat→List Value} {j x:Nat} {s4 s12 s13 s16:Bool} {v12 v13:Value}
theorem RdI.ext (h:RdI w w7 rb G L j x s4 s12 s13 s16 v12 v13 w') (h7:Ext w w7):Ext w w':=by
 rcases h with ⟨_,_,h,_⟩|⟨_,_,_,_,_,_,h⟩|⟨_,_,_,_,_,h⟩
 ·exact h7.trans h
 ·exact h.sep.ext
 ·exact h.sep.ext
theorem RdI.four (h:RdI w w7 rb G L j x false s12 s13 s16 v12 v13 w') (h7:RdS w w7 rb G G L):w'.heap[rb]?=some (.cells (fnA 8 G) 169)∧RdI w w7 rb G L j x true s12 s13 s16 v12 v13 w':=by
 rcases h with ⟨h1,h2,h3,h4⟩|⟨h1,h2,h3,A,c,h4,h5⟩|⟨h,_⟩
 ·exact ⟨h3.get h7.tab,.inl ⟨h1,h2,h3,h4⟩⟩
 ·exact ⟨h5.tab,.inr (.inl ⟨h1,h2,h3,A,c,h4,h5⟩)⟩
 ·cases h
theorem RdI.twelve (h:RdI w w7 rb G L j x s4 false s13 s16 v12 v13 w') {w2:World} {b:Nat} (hb:b=w'.heap.size) (hw:w2=w'.alloc (.cells #[.int .u64 x] 51)):RdI w w7 rb G L j x s4 true s13 s16 (.slice (some ⟨b,0,none⟩) 1 1) v13 w2:=by
 rcases h with ⟨h1,h2,h3,_⟩|⟨h,_⟩|⟨_,h,_⟩
 ·have he:Ext w' w2:=by rw [hw];exact (Ext.refl w').alloc _
  exact .inl ⟨h1,h2,h3.trans he,fun _=>⟨b,rfl,by rw [hw,hb];exact heap_alloc_new w' _⟩⟩
 ·cases h
 ·cases h
theorem RdI.thirteen (h:RdI w w7 rb G L j x s4 true false s16 v12 v13 w'):s16=false∧Ext w7 w'∧∃ nb,v12=.slice (some ⟨nb,0,none⟩) 1 1∧w'.heap[nb]?=some (.cells #[.int .u64 x] 51):=by
 rcases h with ⟨_,h2,h3,h5⟩|⟨_,h,_⟩|⟨_,_,h,_⟩
 ·exact ⟨h2,h3,h5 rfl⟩
 ·cases h
 ·cases h
theorem RdI.sixteen (h:RdI w w7 rb G L j x s4 s12 true false v12 v13 w'):s12=true∧∃ A c,v13=.slice A ((L (2*j)).length+1) c∧RdS w w' rb G (updF G (2*j) (.slice A ((L (2*j)).length+1) c)) (updR L (2*j) (L (2*j)++[.int .u64 x])):=by
 rcases h with ⟨h,_⟩|⟨h1,_,_,h2⟩|⟨_,_,_,h,_⟩
 ·cases h
 ·exact ⟨h1,h2⟩
 ·cases h
theorem RdI.end_ (h:RdI w w7 rb G L j x s4 s12 s13 true v12 v13 w'):∃ G',RdS w w' rb G' G' (updR L (2*j) (L (2*j)++[.int .u64 x])):=by
 rcases h with ⟨_,h,_⟩|⟨_,_,h,_⟩|⟨_,_,_,_,h⟩
 ·cases h
 ·cases h
 ·exact h
end
def LdQ (Q:Nat→Nat→Nat) (i m:Nat):List Value:=if m%2=0 then u64V (nuT Q (m/2) i) else boV (laM (stJ Q (m/2) i))
def LmQ (Q:Nat→Nat→Nat) (i k m:Nat):List Value:=if m/2<k then LdQ Q (i+1) m else LdQ Q i m
def LfQ (Q:Nat→Nat→Nat) (n k m:Nat):List Value:=if m%2=1∧m/2<k then boV (laN (stJ Q (m/2) n)) else LdQ Q n m
theorem qlr (Q:Nat→Nat→Nat) (i j:Nat):LdQ Q i (2*j)=u64V (nuT Q j i):=by rw [LdQ,if_pos Oo,show 2*j/2=j by omega]
theorem qp2 (Q:Nat→Nat→Nat) (i j:Nat):LdQ Q i (2*j+1)=boV (laM (stJ Q j i)):=by rw [LdQ,if_neg Oo,show (2*j+1)/2=j by omega]
theorem q0y {Q:Nat→Nat→Nat} {i m:Nat} (h:frU Q i (m/2)=false):LdQ Q (i+1) m=LdQ Q i m:=by rw [LdQ,LdQ,qti h,qt3 h]
theorem q01 (Q:Nat→Nat→Nat) (i m:Nat):LmQ Q i 0 m=LdQ Q i m:=if_neg Oo
theorem q4e (Q:Nat→Nat→Nat) (i:Nat) {m:Nat} (h:m<8):LmQ Q i 4 m=LdQ Q (i+1) m:=if_pos Oo
theorem qr7 (Q:Nat→Nat→Nat) (i k:Nat):LmQ Q i k (2*k)=u64V (nuT Q k i):=by rw [LmQ,if_neg Oo,qlr]
theorem qls (Q:Nat→Nat→Nat) (i k:Nat):LmQ Q i k (2*k+1)=boV (laM (stJ Q k i)):=by rw [LmQ,if_neg Oo,qp2]
theorem q00 {Q:Nat→Nat→Nat} {i k:Nat} (h:frU Q i k=false) (m:Nat):LmQ Q i k m=LmQ Q i (k+1) m:=by
 rw [LmQ,LmQ]
 by_cases g:m/2<k
 ·rw [if_pos g,if_pos Oo]
 ·by_cases g2:m/2=k
  ·rw [if_neg g,if_pos Oo,q0y (by rw [g2];exact h)]
  ·rw [if_neg g,if_neg Oo]
theorem q4f {Q:Nat→Nat→Nat} {i k:Nat} (h:frU Q i k=true) {X:List Bool} (hX:X=(laM (stJ Q k i)).set ((stJ Q k i).length-1) (if k=0 then false else frU Q i (k-1))) {L:Nat→List Value} (hL:∀ m,m≠2*k→m≠2*k+1→L m=LmQ Q i k m) (m:Nat) :
  updR (updR L (2*k) (u64V (nuT Q k i)++[.int .u64 (Q i k:Nat)])) (2*k+1) (boV (X++[false])) m=LmQ Q i (k+1) m:=by
 by_cases e:m=2*k+1
 ·subst e;rw [qb1,LmQ,if_pos Oo,qp2,qz8 h,q11,hX]
 ·rw [qbb _ _ _ e]
  by_cases e2:m=2*k
  ·subst e2;rw [qb1,LmQ,if_pos Oo,qlr,qyv h,u64V,u64V,List.map_append];rfl
  ·rw [qbb _ _ _ e2,hL m e2 e,LmQ,LmQ]
   by_cases g:m/2<k
   ·rw [if_pos g,if_pos Oo]
   ·rw [if_neg g,if_neg Oo]
theorem q0z (Q:Nat→Nat→Nat) (n m:Nat):LdQ Q n m=LfQ Q n 0 m:=(if_neg Oo).symm
theorem qr5 (Q:Nat→Nat→Nat) (n k j:Nat):LfQ Q n k (2*j)=u64V (nuT Q j n):=by rw [LfQ,if_neg Oo,qlr]
theorem qp3 (Q:Nat→Nat→Nat) (n k:Nat):LfQ Q n k (2*k+1)=boV (laM (stJ Q k n)):=by rw [LfQ,if_neg Oo,qp2]
theorem qr4 (Q:Nat→Nat→Nat) (n:Nat) {j k:Nat} (h:j<k):LfQ Q n k (2*j+1)=boV (laN (stJ Q j n)):=by rw [LfQ,if_pos Oo,show (2*j+1)/2=j by omega]
theorem qr6 (Q:Nat→Nat→Nat) (n k m:Nat):updR (LfQ Q n k) (2*k+1) ((LfQ Q n k (2*k+1)).set ((stJ Q k n).length-1) (.bool true)) m=LfQ Q n (k+1) m:=by
 by_cases e:m=2*k+1
 ·subst e;rw [qb1,qp3,qr4 Q n (Nat.lt_succ_self k),← q5e,boV,boV,List.map_set]
 ·rw [qbb _ _ _ e,LfQ,LfQ]
  by_cases g:m%2=1∧m/2<k
  ·rw [if_pos g,if_pos Oo]
  ·rw [if_neg g,if_neg Oo]
theorem q4d {Q:Nat→Nat→Nat} {n k:Nat} (h:(stJ Q k n).length=0) (m:Nat):LfQ Q n k m=LfQ Q n (k+1) m:=by
 rw [← qr6,h]
 by_cases e:m=2*k+1
 ·subst e;have h0:=List.eq_nil_of_length_eq_zero h;rw [qb1,qp3,h0];rfl
 ·rw [qbb _ _ _ e]
def LvlR (Q:Nat→Nat→Nat) (n:Nat) (w:World) (r:Value):Prop:=
 ∃ (NA LA:Nat→oA) (NC LC:Nat→Nat),r=.agg #[.slice (NA 0) (leT Q 0 n) (NC 0),.slice (LA 0) (leT Q 0 n) (LC 0),.slice (NA 1) (leT Q 1 n) (NC 1),.slice (LA 1) (leT Q 1 n) (LC 1),
  .slice (NA 2) (leT Q 2 n) (NC 2),.slice (LA 2) (leT Q 2 n) (LC 2),.slice (NA 3) (leT Q 3 n) (NC 3),.slice (LA 3) (leT Q 3 n) (LC 3)]∧
  (∀ j,j<4→SlAt encU 1 w (NA j) (nuT Q j n))∧∀ j,j<4→SlAt encO 1 w (LA j) (laN (stJ Q j n))
theorem qor (Q:Nat→Nat→Nat) (A:oA) (n c:Nat) (w:World) (hS:SlAt idsE 4 w A ((List.range n).map Q)) (hQ:TOk Q n) :
  Gv Tryz.prog 79 [.slice A n c] w fun r w'=>LvlR Q n w' r∧Ext w w':=by
 have hnl:=hQ.nle;have hlen:((List.range n).map Q).length=n:=by simp
 have hat:∀ i (hi:i<((List.range n).map Q).length),((List.range n).map Q)[i]=Q i:=fun i hi=>by simp
 have hns:∀ j i,i≤n→(nuT Q j i).length≤1048576:=fun j i hi=>by have:=qoq (Q:=Q) j i;show leT Q j i≤_;omega
 have t2:tsz Tryz.prog 168=2:=by kernel_rfl
 have t1:tsz Tryz.prog 3=1:=by kernel_rfl
 refine ze Tryz.func79 Tryz.ntmps79 ?_;refine ⟨fun r2 w1 hr2 hw1=>?_⟩;have he1:Ext w w1:=by rw [hw1];exact (Ext.refl w).alloc _
 have hr2c:w1.heap[r2]?=some (.cells #[.slice none 0 0,.slice none 0 0,.slice none 0 0,.slice none 0 0,.slice none 0 0,.slice none 0 0,.slice none 0 0,.slice none 0 0] 169):=by rw [hw1,hr2];exact heap_alloc_new w _
 have hr2n:w.heap.size≤r2:=by omega
 clear hr2 hw1;(conv=>whnf);refine ⟨fun rb w2 hrb hw2=>?_⟩;have h0:RdS w1 w2 rb (fun _=>.slice none 0 0) (fun _=>.slice none 0 0) (LdQ Q 0):=by
  have hall:∀ F∈(List.range 8).map (fun _:Nat=>rowF (.slice none 0 0)),F=[]:=fun F hF=>by
   obtain ⟨_,_,rfl⟩:=List.mem_map.1 hF;rfl
  have s0:Sep w1 w1 ((List.range 8).map fun _=>rowF (.slice none 0 0)):=by
   refine ⟨Ext.refl w1,fun F hF k hk=>?_,List.pairwise_iff_getElem.2 fun i j hi hj _ k hk=>?_⟩
   ·rw [hall F hF] at hk;cases hk
   ·rw [hall _ (List.getElem_mem hi)] at hk;cases hk
  obtain ⟨s1,hg⟩:=s0.new hrb hw2;refine ⟨s1.add (F:=[]) (Ext.refl w2) (fun k hk=>by cases hk),hg,fun m hm=>?_⟩;have e:LdQ Q 0 m=[]:=by
   rw [LdQ]
   split
   ·rfl
   ·rw [stJ]
    split<;>rfl
  rw [e];exact World.ownsRow_nil _ _ _ _
 clear hrb hw2;(conv=>whnf);refine qe (fun i:Nat=>[(0,.slice A n c),(2,pp r2),(3,pp rb),(4,ii i)])
  (fun i w'=>i≤n∧∃ G,RdS w1 w' rb G G (LdQ Q i)) (fun i=>n-i) 0 ⟨rfl,rfl,rfl,rfl,trivial⟩ ⟨Nat.zero_le _,_,h0⟩ ?_
 clear h0;rintro i w3 ρ' ⟨i1,G,hR⟩;(conv=>whnf);refine zC (fun _=>zw ?_) (fun _=>zw ?_)
 ·have hi:i<n:=by omega
  refine qe (fun k:Nat=>[(0,.slice A n c),(2,pp r2),(3,pp rb),(4,ii i),(5,.bool (smQ Q i k)),(6,ii k)])
   (fun k w'=>k≤4∧∃ G,RdS w1 w' rb G G (LmQ Q i k)) (fun k=>4-k) 0 ⟨rfl,rfl,rfl,rfl,congrArg Value.bool (by rw [smQ,if_pos rfl,Bool.eq_iff_iff];simp),rfl,trivial⟩ ⟨Nat.zero_le _,G,hR.eqL fun m _=>(q01 Q i m).symm⟩ ?_
  clear hR;rintro k w4 ρ2 ⟨k1,G,hR⟩;(conv=>whnf);refine zC (fun _=>zu ?_) (fun _=>zu ?_)
  ·have hk4:k<4:=by omega
   have hsm:=q7e Q i k;obtain ⟨b,eb⟩:∃ b,b=smQ Q i k:=⟨_,rfl⟩
   rw [← eb] at hsm ⊢;obtain ⟨A0,c0,e0⟩:=q8 (hR.row (2*k) Oo);obtain ⟨A1,c1,e1⟩:=q8 (hR.row (2*k+1) Oo);have hl0:(LmQ Q i k (2*k)).length=(nuT Q k i).length:=by rw [qr7,qa4]
   have hl1:(LmQ Q i k (2*k+1)).length=(nuT Q k i).length:=by rw [qls,qfp,qbj,qb4];rfl
   have hsl:(stJ Q k i).length=(nuT Q k i).length:=qb4 Q k i;have o0:(fnA 8 G)[0+k*tsz Tryz.prog 168+0]?=some (.slice A0 (nuT Q k i).length c0):=by rw [t2,show 0+k*2+0=2*k by omega,qan 8 G _ Oo,e0,hl0]
   have o1:(fnA 8 G)[0+k*tsz Tryz.prog 168+1]?=some (.slice A1 (nuT Q k i).length c1):=by rw [t2,show 0+k*2+1=2*k+1 by omega,qan 8 G _ Oo,e1,hl1]
   have hnk:=hns k i i1;obtain ⟨ab,ao,eA,hcl⟩:=hS.at_ (by intro e;rw [e] at hlen;simp at hlen;omega);have hcell:=hcl i _ (zge (by rw [hlen];omega));rw [hat] at hcell;subst eA;have heW:Ext w w4.drew:=he1.trans hR.sep.ext.drew;cases b
   case' true=>
    have h0i:=q6h eb.symm;have hp1:=hcell.ext heW;have hp2:=(hcl (i-1) _ (zge (by rw [hlen];omega))).ext heW;rw [hat] at hp2;have hb:(if k=0 then false else frU Q i (k-1))=false:=by
     rw [smQ] at eb
     split at eb
     ·rename_i g;rw [if_pos g]
     ·rename_i g;rw [if_neg g];simpa using eb.symm
    have hR:=hR.call (Ext.refl w4).drew;refine zy ?_;generalize w4.drew=w5 at *;refine zv ?_;refine ⟨⟨ab,ao,i,rfl,by omega,by omega,?_⟩⟩;refine zu ?_;refine LoadV.of (by rw [t1,Nat.mul_one];exact hp1 k _ (qbq (Q i) Oo)) (zu ?_);refine ⟨⟨ab,ao,i-1,rfl,by omega,by omega,?_⟩⟩;refine zu ?_;refine LoadV.of (by rw [t1,Nat.mul_one];exact hp2 k _ (qbq (Q (i-1)) Oo)) (zw ?_);refine zt ?_;refine zC (fun _=>zu ?_) (fun _=>zu ?_)
    ·have hq:Q i k=Q (i-1) k:=by omega
     have hf:frU Q i k=false:=by rw [hsm,decide_eq_true hq];rfl
     exact ⟨k+1,⟨rfl,rfl,rfl,rfl,congrArg Value.bool (by rw [qit,hf,hq];simp),congrArg (Value.int .i64) Oo,trivial⟩,⟨by omega,G,hR.eqL fun m _=>q00 hf m⟩,by omega⟩
    have hq:Q i k≠Q (i-1) k:=by omega
    have hf:frU Q i k=true:=by rw [hsm,decide_eq_false hq];rfl
    have hsl5:(decide ((Q i k:Int)=(Q (i-1) k:Int)))=smQ Q i (k+1):=by rw [qit,hf];exact decide_eq_false Oo
    refine LoadV.own hR.tab o0 (zw ?_);refine zC (fun _=>zu ?_) (fun _=>zu ?_)
    all_goals have hst:∃ L5 X,RdS w1 w5 rb G G L5∧(∀ m,m≠2*k+1→L5 m=LmQ Q i k m)∧L5 (2*k+1)=boV X∧X=(laM (stJ Q k i)).set ((stJ Q k i).length-1) (if k=0 then false else frU Q i (k-1)):=
     ⟨_,laM (stJ Q k i),hR,fun m _=>rfl,qls Q i k,by rw [hb,q10]⟩
    all_goals clear hp1 hp2 h0i hq hb
   case' false=>
    have hf:frU Q i k=true:=hsm;have hR:=hR.call (Ext.refl w4).drew;have hsl5:false=smQ Q i (k+1):=by rw [qit,hf];rfl
    refine zy ?_;generalize w4.drew=w5 at *;refine zv ?_;refine LoadV.own hR.tab o0 (zw ?_);refine zC (fun _=>zu ?_) (fun _=>zu ?_)
    case' refine_2=>
     have h0:laM (stJ Q k i)=[]:=List.eq_nil_of_length_eq_zero (by rw [qbj];omega);have hst:∃ L5 X,RdS w1 w5 rb G G L5∧(∀ m,m≠2*k+1→L5 m=LmQ Q i k m)∧L5 (2*k+1)=boV X∧X=(laM (stJ Q k i)).set ((stJ Q k i).length-1) (if k=0 then false else frU Q i (k-1)):=
      ⟨_,[],hR,fun m _=>rfl,by rw [qls,h0],by rw [h0];rfl⟩
    case' refine_1=>
     have hk0:k≠0:=fun e=>by
      subst e;rw [smQ,if_pos rfl] at eb;have:¬ 0<i:=of_decide_eq_false eb.symm;have e0:i=0:=by omega
      subst e0;have:(nuT Q 0 0).length=0:=rfl;omega
     have hb:(if k=0 then false else frU Q i (k-1))=true:=by rw [smQ,if_neg hk0] at eb;rw [if_neg hk0];simpa using eb.symm
     refine LoadV.own hR.tab o1 (zu ?_);obtain ⟨g,hA1,hst⟩:=hR.cell (m:=2*k+1) (j:=(nuT Q k i).length-1) Oo (by rw [hl1];omega) e1 (v:=.bool true) rfl;subst hA1;refine ElemV.own1 ((nuT Q k i).length-1) Oo Oo (zw ?_);refine hst _ ?_;clear hR hst;intro w5 hR;(conv=>whnf);have hst:∃ L5 X,RdS w1 w5 rb G G L5∧(∀ m,m≠2*k+1→L5 m=LmQ Q i k m)∧L5 (2*k+1)=boV X∧X=(laM (stJ Q k i)).set ((stJ Q k i).length-1) (if k=0 then false else frU Q i (k-1)):=
      ⟨_,(laM (stJ Q k i)).set ((nuT Q k i).length-1) true,hR,fun m hm=>qbb _ _ _ hm,by rw [qb1,qls,boV,boV,List.map_set],by rw [hb,hsl]⟩
   all_goals
    obtain ⟨L5,X,hR5,hL5,h5o,hX⟩:=hst;have h5n:L5 (2*k)=u64V (nuT Q k i):=by rw [hL5 _ Oo,qr7]
    have hXl:X.length=(nuT Q k i).length:=by rw [hX,List.length_set,qbj,hsl]
    have hqk:=hQ.small hi hk4;have hl5:(L5 (2*k)).length=(nuT Q k i).length:=by rw [h5n,qa4]
    clear hR e1 hl1 o1;have hRD:=hR5.call (Ext.refl w5).drew;refine DrawV.gen (fun S vals w'=>RdI w1 w5.drew rb G L5 k (Q i k) (S 4) (S 12) (S 13) (S 16) (vals 12) (vals 13) w') rfl Ok (fun vals=>.inl ⟨rfl,rfl,xr,fun h=>(by cases h)⟩) (zw ?_);(iterate 4 (refine zg ?_));refine StepG.of (.slice A0 (nuT Q k i).length c0) (fun S vals wd hk hp hI=>?_) (zw ?_)
    ·dsimp only at hI;rw [hk] at hI;obtain ⟨ht,hI⟩:=hI.four hRD;(conv=>whnf);refine LoadV.own ht o0 (zw ?_);exact ⟨rfl,hI⟩
    (iterate 3 (refine zg ?_));refine StepG.of (.pointer (some ⟨ab,ao+i*4,none⟩)) (fun S vals wd hk hp hI=>zw ?_) (zw ?_)
    ·refine ⟨⟨ab,ao,i,rfl,by omega,by omega,?_⟩⟩;rw [show tsz Tryz.prog 75=4 from by kernel_rfl];(conv=>whnf);exact ⟨rfl,hI⟩
    refine zg ?_;refine StepG.of (ii (Q i k:Nat)) (fun S vals wd hk hp hI=>zw ?_) (zw ?_)
    ·refine LoadV.of (by rw [t1,Nat.mul_one];exact (hcell.ext (he1.trans (hI.ext hRD.sep.ext))) k _ (qbq (Q i) hk4)) (zw ?_);exact ⟨rfl,hI⟩
    refine StepG.of (.int .u64 (Q i k:Nat)) (fun S vals wd hk hp hI=>?_) (zw ?_)
    ·refine zu ?_;exact ⟨rfl,hI⟩
    refine StepG.any (fun S vals wd hk hp hI=>?_) (zw ?_)
    ·dsimp only at hI;rw [hk] at hI;(conv=>whnf);refine ⟨fun b w' hb hw=>?_⟩;(conv=>whnf);exact ⟨trivial,hI.twelve hb hw⟩
    refine StepG.any (fun S vals wd hk hp hI=>?_) (zw ?_)
    ·dsimp only at hI;have h12:S 12=true:=hp 12 Od;rw [hk,h12] at hI;obtain ⟨h16,he7,nb,hv,hnb⟩:=hI.thirteen;have hRd:=hRD.call he7;have hr:=hRd.row (2*k) Oo;rw [e0,h5n,qa4,hl0,qp9] at hr;rw [qj hv];(conv=>whnf);refine AppV.cell q0i u64I u64Z Ok rfl (by decide +kernel) hr hnb rfl Oo ?_;intro A' c' w8 ho hch hnew;have hch:Chn (rowF (G (2*k))) wd w8:=by rw [e0,hl0];exact hch
     have hnew:∀ j∈rowF (.slice A' ((L5 (2*k)).length+1) c'),(j∈rowF (G (2*k))∨wd.heap.size≤j)∧j<w8.heap.size:=by rw [e0,hl0,hl5];exact hnew
     (conv=>whnf);exact ⟨trivial,.inr (.inl ⟨h12,rfl,h16,A',c',(by rw [hl5];rfl),hRd.chg Oo (by rw [zla,List.length_singleton,qp9,h5n,qa4];exact ho) hch hnew⟩)⟩
    refine zg ?_;refine zg ?_;refine StepG.any (fun S vals wd hk hp hI=>?_) (zw ?_)
    ·dsimp only at hI;have h13:S 13=true:=hp 13 Od;have h4:S 4=true:=hp 4 Od;rw [hk,h13] at hI;obtain ⟨h12,A',c',hv,hRd⟩:=hI.sixteen;rw [qj hv];(conv=>whnf);show StoreV _ rb (0+k*tsz Tryz.prog 168+0) _ _;rw [t2,show 0+k*2+0=2*k by omega];refine hRd.store Oo rfl ?_;intro w9 hR9;exact ⟨trivial,.inr (.inr ⟨h4,h12,h13,rfl,_,hR9⟩)⟩
    intro vals w6 hI;obtain ⟨G6,hR6⟩:=hI.end_;clear hI;obtain ⟨A6,c6,e6⟩:=q8 (hR6.row (2*k+1) Oo);rw [qbb _ _ _ (show 2*k+1≠2*k by omega),h5o,qfp,hXl] at e6;(conv=>whnf);refine LoadV.own hR6.tab (v:=.slice A6 (nuT Q k i).length c6) (by rw [t2];show (fnA 8 G6)[0+k*2+1]?=_;rw [show 0+k*2+1=2*k+1 by omega,qan 8 G6 _ Oo,e6]) (zw ?_);refine ⟨fun nb w7 hnb hw=>?_⟩;have he7:Ext w6 w7:=by rw [hw];exact (Ext.refl w6).alloc _
    have hc7:w7.heap[nb]?=some (.cells #[.bool false] 4):=by rw [hw,hnb];exact heap_alloc_new w6 _
    clear hnb hw;have hR7:=hR6.call he7;have hr7:=hR7.row (2*k+1) Oo;rw [e6,qbb _ _ _ (show 2*k+1≠2*k by omega),h5o,qfp,hXl,qxl] at hr7;(conv=>whnf);refine AppV.cell q8m booI booZ Ok rfl (by decide +kernel) hr7 hc7 rfl Oo ?_;intro A8 c8 w8 ho hch hnew;rw [← e6] at hch hnew;have hR8:=hR7.chg (m:=2*k+1) Oo (v:=.slice A8 ((nuT Q k i).length+1) c8) (x:=boV (X++[false])) (by
     rw [qfp,zla,List.length_singleton,hXl,qxl,boV,List.map_append];exact ho) hch hnew
    (conv=>whnf);show StoreV _ rb (0+k*tsz Tryz.prog 168+1) _ _;rw [t2,show 0+k*2+1=2*k+1 by omega];refine hR8.store Oo rfl ?_;intro w9 hR9;refine zu ?_;rw [h5n] at hR9;exact ⟨k+1,⟨rfl,rfl,rfl,rfl,congrArg Value.bool hsl5,congrArg (Value.int .i64) Oo,trivial⟩,⟨by omega,_,hR9.eqL fun m _=>q4f hf hX (fun m _ h2=>hL5 m h2) m⟩,by omega⟩
  ·obtain rfl:k=4:=by omega
   exact ⟨i+1,⟨rfl,rfl,rfl,congrArg (Value.int .i64) Oo,trivial⟩,⟨by omega,G,hR.eqL fun m hm=>q4e Q i hm⟩,by omega⟩
 ·obtain rfl:i=n:=by omega
  refine qe (fun k:Nat=>[(2,pp r2),(3,pp rb),(10,ii k)])
   (fun k w'=>k≤4∧∃ G,RdS w1 w' rb G G (LfQ Q i k)) (fun k=>4-k) 0 ⟨rfl,rfl,rfl,trivial⟩ ⟨by omega,G,hR.eqL fun m _=>q0z Q i m⟩ ?_
  clear hR;rintro k w4 ρ2 ⟨k1,G,hR⟩;(conv=>whnf);refine zC (fun _=>zu ?_) (fun _=>zu ?_)
  ·have hk4:k<4:=by omega
   obtain ⟨A0,c0,e0⟩:=q8 (hR.row (2*k) Oo);obtain ⟨A1,c1,e1⟩:=q8 (hR.row (2*k+1) Oo);have hl0:(LfQ Q i k (2*k)).length=(nuT Q k i).length:=by rw [qr5,qa4]
   have hsl:(stJ Q k i).length=(nuT Q k i).length:=qb4 Q k i;have hl1:(LfQ Q i k (2*k+1)).length=(nuT Q k i).length:=by rw [qp3,qfp,qbj,hsl]
   have o0:(fnA 8 G)[0+k*tsz Tryz.prog 168+0]?=some (.slice A0 (nuT Q k i).length c0):=by rw [t2,show 0+k*2+0=2*k by omega,qan 8 G _ Oo,e0,hl0]
   have o1:(fnA 8 G)[0+k*tsz Tryz.prog 168+1]?=some (.slice A1 (nuT Q k i).length c1):=by rw [t2,show 0+k*2+1=2*k+1 by omega,qan 8 G _ Oo,e1,hl1]
   have hnk:=hns k i i1;refine LoadV.own hR.tab o0 (zw ?_);refine zC (fun _=>zu ?_) (fun _=>zu ?_)
   ·refine LoadV.own hR.tab o1 (zu ?_);obtain ⟨g,hA1,hst⟩:=hR.cell (m:=2*k+1) (j:=(stJ Q k i).length-1) Oo (by rw [hl1];omega) e1 (v:=.bool true) rfl;subst hA1;refine ElemV.own1 ((stJ Q k i).length-1) Oo Oo (zw ?_);refine hst _ ?_;clear hR hst;intro w5 hR;refine zu ?_;exact ⟨k+1,⟨rfl,rfl,congrArg (Value.int .i64) Oo,trivial⟩,⟨by omega,G,hR.eqL fun m _=>qr6 Q i k m⟩,by omega⟩
   ·exact ⟨k+1,⟨rfl,rfl,congrArg (Value.int .i64) Oo,trivial⟩,⟨by omega,G,hR.eqL fun m _=>q4d Oo m⟩,by omega⟩
  ·obtain rfl:k=4:=by omega
   have hln:∀ m,m<8→(LfQ Q i 4 m).length=leT Q (m/2) i:=fun m hm=>by
    rw [LfQ]
    split
    ·rw [qfp,qft,qb4]
    ·rename_i g
     rw [LdQ]
     split
     ·rw [qa4];rfl
     ·exfalso;omega
   have hsl:∀ m,∃ A c,m<8→G m=.slice A (leT Q (m/2) i) c:=fun m=>by
    by_cases hm:m<8
    ·obtain ⟨A,c,e⟩:=q8 (hR.row m hm);exact ⟨A,c,fun _=>by rw [e,hln m hm]⟩
    ·exact ⟨none,0,fun h=>absurd h hm⟩
   obtain ⟨AA,hsl⟩:=Classical.axiomOfChoice hsl;obtain ⟨CC,hsl⟩:=Classical.axiomOfChoice hsl;obtain ⟨vs,evs⟩:∃ vs,vs=[Value.slice (AA 0) (leT Q 0 i) (CC 0),.slice (AA 1) (leT Q 0 i) (CC 1),.slice (AA 2) (leT Q 1 i) (CC 2),.slice (AA 3) (leT Q 1 i) (CC 3),.slice (AA 4) (leT Q 2 i) (CC 4),.slice (AA 5) (leT Q 2 i) (CC 5),.slice (AA 6) (leT Q 3 i) (CC 6),.slice (AA 7) (leT Q 3 i) (CC 7)]:=⟨_,rfl⟩
   have hfv:(fnA 8 G)=vs.toArray:=by
    rw [evs,fnA,show List.range 8=[0,1,2,3,4,5,6,7] from rfl];simp only [List.map_cons,List.map_nil];rw [hsl 0 Od,hsl 1 Od,hsl 2 Od,hsl 3 Od,hsl 4 Od,hsl 5 Od,hsl 6 Od,hsl 7 Od]
   have htab:=hR.tab;rw [hfv] at htab;have hcs:=CellsAt.heap htab;have hone:∀ v∈vs,v.oneCell'=true:=by
    rw [evs];simp [Value.oneCell']
   have hvl:vs.length=8:=by rw [evs];rfl
   have hr4:=hR.sep.ext.get hr2c;rw [evs] at hcs;refine LoadA.cells hcs rfl (zw ?_);rw [← evs];refine StoreA.blk hr4 (by rw [hvl];exact Nat.le_refl _) hone ?_;intro w5 hc5 hg5;have hr2l:r2<w1.heap.size:=qa2 hr2c;have hfar:∀ m (hm:m<8),∀ k∈rowF (G m),w5.heap[k]?=w4.heap[k]?:=fun m hm k hk=>by
    have:=hR.sep.at_ (qfm [] rb G hm) k hk;exact hc5.block k this.2 fun g=>by rw [List.mem_singleton.1 g] at this;omega
   have hg5:w5.heap[r2]?=some (.cells vs.toArray 169):=by
    rw [hg5]
    congr 3
    rw [hvl];simp
   (conv=>whnf);refine q7 (R:=fun r w'=>LvlR Q i w' r∧Ext w w') ?_;have hc6:=CellsAt.heap hg5;rw [evs] at hc6;(conv=>whnf);refine LoadA.cells hc6 rfl (zw ?_);refine ⟨⟨fun j=>AA (2*j),fun j=>AA (2*j+1),fun j=>CC (2*j),fun j=>CC (2*j+1),rfl,fun j hj=>?_,fun j hj=>?_⟩,hc5.ext (he1.trans hR.sep.ext) fun k hk=>by rw [List.mem_singleton.1 hk];exact hr2n⟩
   ·have hr:=qq (hR.row (2*j) Oo) (hfar (2*j) Oo);rw [hsl (2*j) Oo,qr5,qa4,qp9,show 2*j/2=j by omega] at hr;exact qjl hr rfl
   ·have hr:=qq (hR.row (2*j+1) Oo) (hfar (2*j+1) Oo);rw [hsl (2*j+1) Oo,qr4 Q i hj,qfp,qft,qb4,qxl,show (2*j+1)/2=j by omega] at hr;exact qjk (f:=Value.bool) hr (by rw [qft,qb4])
def PvI (w0 w6:World) (l x y:LB) (s5 s11 s12 s13:Bool) (v5 v11 v12 v13:Value) (w':World):Prop:=
 (s12=false∧s13=false∧Ext w6 w'∧(s5=true→∃ A c,v5=.slice A x.length c∧SlAt encB 1 w' A x)∧(s11=true→s5=true∧∃ A c,v11=.slice A y.length c∧SlAt encB 1 w' A y))∨
 (s5=true∧s11=true∧s12=true∧∃ A c,v12=.slice A (l++y).length c∧RowS w0 w' (.slice A (l++y).length c) (l++y)∧(s13=true→v13=v12))
section
variable {w0 w6 w' w2:World} {l x y:LB} {s5 s11 s12 s13:Bool} {v5 v11 v12 v13:Value}
theorem PvI.start (he:Ext w6 w'):PvI w0 w6 l x y false false false false v5 v11 v12 v13 w':=.inl ⟨rfl,rfl,he,(fun h=>(by cases h)),(fun h=>(by cases h))⟩
theorem PvI.ext (h:PvI w0 w6 l x y s5 s11 s12 s13 v5 v11 v12 v13 w') (h0:Ext w0 w6):Ext w0 w':=by
 rcases h with ⟨_,_,h,_⟩|⟨_,_,_,_,_,_,h,_⟩
 ·exact h0.trans h
 ·exact h.ext
theorem PvI.five (h:PvI w0 w6 l x y false s11 s12 s13 v5 v11 v12 v13 w') (he:Ext w' w2) {A:oA} {c:Nat} (hS:SlAt encB 1 w2 A x):PvI w0 w6 l x y true s11 s12 s13 (.slice A x.length c) v11 v12 v13 w2:=by
 rcases h with ⟨h1,h2,h3,_,h5⟩|⟨h,_⟩
 ·exact .inl ⟨h1,h2,h3.trans he,fun _=>⟨A,c,rfl,hS⟩,fun g=>(by cases (h5 g).1)⟩
 ·cases h
theorem PvI.at5 (h:PvI w0 w6 l x y true false s12 s13 v5 v11 v12 v13 w'):∃ A c,v5=.slice A x.length c∧SlAt encB 1 w' A x:=by
 rcases h with ⟨_,_,_,h,_⟩|⟨_,h,_⟩
 ·exact h rfl
 ·cases h
theorem PvI.eleven (h:PvI w0 w6 l x y true false s12 s13 v5 v11 v12 v13 w') (he:Ext w' w2) {A:oA} {c:Nat} (hS:SlAt encB 1 w2 A y):PvI w0 w6 l x y true true s12 s13 v5 (.slice A y.length c) v12 v13 w2:=by
 rcases h with ⟨h1,h2,h3,h4,_⟩|⟨_,h,_⟩
 ·obtain ⟨B,d,h5,h6⟩:=h4 rfl;exact .inl ⟨h1,h2,h3.trans he,fun _=>⟨B,d,h5,h6.ext he⟩,fun _=>⟨rfl,A,c,rfl,hS⟩⟩
 ·cases h
theorem PvI.at11 (h:PvI w0 w6 l x y s5 true false s13 v5 v11 v12 v13 w'):s5=true∧s13=false∧Ext w6 w'∧∃ A c,v11=.slice A y.length c∧SlAt encB 1 w' A y:=by
 rcases h with ⟨_,h2,h3,_,h5⟩|⟨_,_,h,_⟩
 ·exact ⟨(h5 rfl).1,h2,h3,(h5 rfl).2⟩
 ·cases h
theorem PvI.at12 (h:PvI w0 w6 l x y s5 s11 true s13 v5 v11 v12 v13 w'):s5=true∧s11=true∧∃ A c,v12=.slice A (l++y).length c∧RowS w0 w' (.slice A (l++y).length c) (l++y)∧(s13=true→v13=v12):=by
 rcases h with ⟨h,_⟩|⟨h1,h2,_,h3⟩
 ·cases h
 ·exact ⟨h1,h2,h3⟩
end
def lvV (Q:Nat→Nat→Nat) (n:Nat) (NA LA:Nat→oA) (NC LC:Nat→Nat) (m:Nat):Value:=if m%2=0 then .slice (NA (m/2)) (leT Q (m/2) n) (NC (m/2)) else .slice (LA (m/2)) (leT Q (m/2) n) (LC (m/2))
theorem q17 (Q:Nat→Nat→Nat) (n:Nat) (NA LA:Nat→oA) (NC LC:Nat→Nat) {k:Nat} (hk:k<4):((List.range 8).map (lvV Q n NA LA NC LC))[2*k]?=some (.slice (NA k) (leT Q k n) (NC k)):=by
 rw [List.getElem?_map,List.getElem?_range Oo,Option.map_some,lvV,if_pos Oo,show 2*k/2=k by omega]
theorem q5l (Q:Nat→Nat→Nat) (n:Nat) (NA LA:Nat→oA) (NC LC:Nat→Nat) {k:Nat} (hk:k<4):((List.range 8).map (lvV Q n NA LA NC LC))[2*k+1]?=some (.slice (LA k) (leT Q k n) (LC k)):=by
 rw [List.getElem?_map,List.getElem?_range Oo,Option.map_some,lvV,if_neg Oo,show (2*k+1)/2=k by omega]
theorem qq7 (Q:Nat→Nat→Nat) (A:oA) (n c:Nat) (w:World) (hS:SlAt idsE 4 w A ((List.range n).map Q)) (hQ:TOk Q n) :
  Gv Tryz.prog 39 [.slice A n c,ii 1099511627776] w fun r w'=>∃ v,r=.tuple #[v,ii 0]∧NewS 5 w w' v (qgx Q n):=by
 have hnl:=hQ.nle;have hle:=hQ.le;have hlen:((List.range n).map Q).length=n:=by simp
 have hat:∀ i (hi:i<((List.range n).map Q).length),((List.range n).map Q)[i]=Q i:=fun i hi=>by simp
 have t2:tsz Tryz.prog 168=2:=by kernel_rfl
 have hwl:=qt6 hQ;have hxl:=fun {k:Nat} (hk:k≤4)=>q35 hQ hk
 refine ze Tryz.func39 Tryz.ntmps39 ?_;refine zv ?_;refine qe (fun i:Nat=>[(0,.slice A n c),(1,ii 1099511627776),(6,ii i)]) (fun i w1=>i≤n∧Ext w w1) (fun i=>n-i) 0 ⟨rfl,rfl,rfl,trivial⟩ ⟨Nat.zero_le _,Ext.refl w⟩ ?_;rintro i w1 ρ' ⟨i1,he1⟩;(conv=>whnf);refine zC (fun _=>zw ?_) (fun _=>zw ?_)
 ·have hi:i<n:=by omega
  refine ElemV.sl (hS.ext he1) hlen i rfl hi ?_;intro eb eo hcell;rw [hat] at hcell;(conv=>whnf);refine LoadA.cells hcell rfl (zw ?_);refine zcv (qq5 Q n hQ hi w1) ?_;rintro r w2 ⟨rfl,he2⟩;refine zu ?_;exact ⟨i+1,⟨rfl,rfl,congrArg (Value.int .i64) Oo,trivial⟩,⟨by omega,he1.trans he2⟩,by omega⟩
 ·obtain rfl:i=n:=by omega
  refine qe (fun k:Nat=>[(0,.slice A i c),(1,ii 1099511627776),(8,ii (k+1:Nat))]) (fun k w1=>Ext w w1) (fun k=>i-k) 0 ⟨rfl,rfl,rfl,trivial⟩ he1 ?_;rintro k w2 ρ2 he2;(conv=>whnf);refine zC (fun _=>zw ?_) (fun _=>zw ?_)
  ·have hk:k+1<i:=by omega
   obtain ⟨b,off,rfl,hcl⟩:=(hS.ext he2).at_ (by intro e;rw [e] at hlen;simp at hlen;omega);have hca:=(hcl k _ (zge (by rw [hlen];omega))).ext (Ext.refl w2).drew;have hcb:=(hcl (k+1) _ (zge (by rw [hlen];omega))).ext (Ext.refl w2).drew;rw [hat] at hca hcb;obtain ⟨kk,hk4,hsame,hlt⟩:=hQ.rise (k+1) Oo hk;refine DrawV.free rfl Ok (zw ?_);(iterate 3 (refine zd ?_));refine zf ?_ (by intro wd hd;(conv=>whnf);refine ⟨⟨b,off,k,rfl,by omega,by omega,?_⟩⟩;exact ⟨xr,rfl⟩);apply zsd
   ·intro wd hd;(conv=>whnf);refine LoadA.cells (hca.ext hd) rfl (zw ?_);exact ⟨xr,rfl⟩
   (conv=>whnf);refine zd ?_;refine zd ?_;refine zf ?_ (by intro wd hd;(conv=>whnf);refine ⟨⟨b,off,(k+1),rfl,by omega,by omega,?_⟩⟩;exact ⟨xr,rfl⟩);apply zsd
   ·intro wd hd;(conv=>whnf);refine LoadA.cells (hcb.ext hd) rfl (zw ?_);exact ⟨xr,rfl⟩
   (conv=>whnf);apply zsd
   ·intro wd hd;(conv=>whnf);refine zcv (ql7 (Q k) (Q (k+1)) wd hk4 (fun j hj=>(hsame j hj).symm) hlt) ?_;rintro v w7 ⟨rfl,he⟩;exact ⟨he,rfl⟩
   (conv=>whnf);refine zd ?_;intro wd hd;have he3:=(he2.drew).trans hd;refine zu ?_;exact ⟨k+1,⟨rfl,rfl,congrArg (Value.int .i64) Oo,trivial⟩,he3,by omega⟩
  ·refine zcv (qor Q A i c w2 (hS.ext he2) hQ) ?_;rintro r w3 ⟨⟨NA,LA,NC,LC,rfl,hN,hL⟩,he3⟩;(conv=>whnf);refine znm (Mem.nil w3) fun rb w4 hm=>zw ?_;refine StoreA.all (vs:=(List.range 8).map (lvV Q i NA LA NC LC)) hm (i:=0) rfl rfl (fun v hv=>by
    obtain ⟨m,_,rfl⟩:=List.mem_map.1 hv;rw [lvV];split<;>rfl) ?_
   intro w5 hm;have hcs:CellsAt w5 rb 0 ((List.range 8).map (lvV Q i NA LA NC LC)):=CellsAt.mem hm mh;have he5:Ext w w5:=he2.trans (he3.trans hm.ext);have hN:=fun j hj=>(hN j hj).ext hm.ext
   have hL:=fun j hj=>(hL j hj).ext hm.ext
   clear hm;have hld:∀ {w'},Ext w5 w'→∀ {k},k<4→w'.cell? ⟨rb,0+k*tsz Tryz.prog 168+0,none⟩=some (.slice (NA k) (leT Q k i) (NC k)):=fun he k hk=>by
    rw [t2,show 0+k*2+0=0+2*k by omega];exact (hcs.ext he) (2*k) _ (q17 Q i NA LA NC LC hk)
   have hll:∀ {w'},Ext w5 w'→∀ {k},k<4→w'.cell? ⟨rb,0+k*tsz Tryz.prog 168+1,none⟩=some (.slice (LA k) (leT Q k i) (LC k)):=fun he k hk=>by
    rw [t2,show 0+k*2+1=0+(2*k+1) by omega];exact (hcs.ext he) (2*k+1) _ (q5l Q i NA LA NC LC hk)
   (conv=>whnf);refine qe (fun x:Nat × oA × Nat=>[(1,ii 1099511627776),(9,pp rb),(10,.slice x.2.1 (trW Q i x.1).length x.2.2),(11,ii x.1)])
    (fun x w'=>x.1≤4∧RowS w5 w' (.slice x.2.1 (trW Q i x.1).length x.2.2) (trW Q i x.1)) (fun x=>4-x.1) (0,none,0) ⟨rfl,rfl,rfl,rfl,trivial⟩ ⟨Nat.zero_le _,RowS.nil (Ext.refl w5)⟩ ?_
   rintro ⟨k,B,d⟩ w6 ρ3 ⟨k1,hO⟩;dsimp only at k1 hO ⊢;have hwk:=hwl k;(conv=>whnf);refine zC (fun _=>zu ?_) (fun _=>zu ?_)
   ·have hk4:k<4:=by omega
    have hlk:=hle k;have hlv:=qab 9 (leT Q k i) Oo;refine LoadV.of (hld hO.ext hk4) (zu ?_);refine zcv (qd2 (leT Q k i) w6 Oo) ?_;rintro r w7 ⟨⟨Bv,dv,rfl,hdv,hVS⟩,he7⟩;have hO:=hO.call he7;(conv=>whnf);refine hO.bys hVS Oo ?_;clear hO;intro B2 d2 w8 hO;refine zu ?_;exact ⟨(k+1,B2,d2),⟨rfl,rfl,rfl,congrArg (Value.int .i64) Oo,trivial⟩,⟨by show k+1≤4;omega,hO⟩,by show 4-(k+1)<4-k;omega⟩
   ·obtain rfl:k=4:=by omega
    refine qe (fun x:Nat × oA × Nat=>[(1,ii 1099511627776),(9,pp rb),(10,.slice x.2.1 (trX Q i x.1).length x.2.2),(12,ii x.1)])
     (fun x w'=>x.1≤4∧RowS w5 w' (.slice x.2.1 (trX Q i x.1).length x.2.2) (trX Q i x.1)) (fun x=>4-x.1) (0,B,d) ⟨rfl,rfl,rfl,rfl,trivial⟩ ⟨Nat.zero_le _,hO⟩ ?_
    clear hO;rintro ⟨k,B,d⟩ w7 ρ4 ⟨k2,hO⟩;dsimp only at k2 hO ⊢;have hxk:=hxl k2;(conv=>whnf);refine zC (fun _=>zu ?_) (fun _=>zu ?_)
    ·have hk4:k<4:=by omega
     have hlk:=hle k;have hwi:=hQ.wi hk4;have hlw:leT Q k i*wiT (nuT Q k i)≤1048576*23:=Nat.mul_le_mul hlk hwi;have hpl:=qbm (nuT Q k i) (wiT (nuT Q k i));have hnl2:(nuT Q k i).length=leT Q k i:=rfl;have hnb:∀ x∈nuT Q k i,x<18446744073709551616:=fun x hx=>by
      obtain ⟨j,hj,rfl⟩:=qhp hx;exact hQ.big hk4 j hj
     have hww:=qr0 (nuT Q k i) (NA k) (leT Q k i) (NC k) w7 ((hN k hk4).ext hO.ext) rfl hnb Oo;have hpw:=fun w' he=>qpe (nuT Q k i) (wiT (nuT Q k i)) (NA k) (leT Q k i) (NC k) w' ((hN k hk4).ext he) rfl Oo (Nat.le_trans hlw Od) (q3y hQ hk4) Oo
     have ewm:wMx (nuT Q k i) (leT Q k i)=wiT (nuT Q k i):=rfl;rw [ewm] at hww;have hlv:lvB Q i k=UInt8.ofNat (wiT (nuT Q k i))::(qcv (nuT Q k i) (wiT (nuT Q k i))++(if k=0 then [] else qaa (qar (stT Q (k-1) i)) (leT Q k i))):=rfl;obtain ⟨wi,ewi⟩:∃ wi,wi=wiT (nuT Q k i):=⟨_,rfl⟩
     rw [← ewi] at hlw hwi hpl hlv hww hpw;obtain ⟨pk,epk⟩:∃ pk,pk=qcv (nuT Q k i) wi:=⟨_,rfl⟩
     rw [hnl2] at hpl;rw [← epk] at hpl hlv hpw;obtain ⟨lw,elw⟩:∃ lw,lw=leT Q k i*wi:=⟨_,rfl⟩
     rw [← elw] at hlw hpl;refine LoadV.of (hld hO.ext hk4) (zw ?_);refine zcv (hww) ?_;rintro r w8 ⟨rfl,rfl⟩;refine zu ?_;refine ⟨fun nb w9 hnb hw=>?_⟩;have he9:Ext w8 w9:=by rw [hw];exact (Ext.refl w8).alloc _
     have hc9:w9.heap[nb]?=some (.cells #[.int .u8 (wi:Nat)] 5):=by rw [hw,hnb];exact heap_alloc_new w8 _
     clear hnb hw;have hO:=hO.call he9;(conv=>whnf);refine hO.one Oo hc9 Oo ?_;clear hO;intro B2 d2 w10 hO;have hl2:(trX Q i k++[UInt8.ofNat wi]).length=(trX Q i k).length+1:=by simp
     refine zu ?_;refine LoadV.of (hld hO.ext hk4) (zw ?_);refine zcv (hpw w10 hO.ext) ?_;rintro r w11 ⟨vp,rfl,hNp⟩;obtain ⟨Ap,cp,ep,_,hAp⟩:=hNp.bs;subst ep;have hO:=hO.call hNp.ext;(conv=>whnf);refine hO.bys hAp Oo ?_;clear hO;intro B3 d3 w12 hO;have hl3:(trX Q i k++[UInt8.ofNat wi]++pk).length=(trX Q i k).length+1+pk.length:=by rw [zla,hl2]
     (conv=>whnf);refine zC (fun _=>zu ?_) (fun _=>zu ?_)
     ·have hk0:k≠0:=by omega
      rw [if_neg hk0] at hlv;have hsl:(stT Q (k-1) i).length=leT Q k i:=by rw [qfx,Nat.sub_add_cancel Oo]
      have hlb:(qar (stT Q (k-1) i)).length=upN (leT Q k i) 8:=by rw [qct,hsl]
      have hup:upN (leT Q k i) 8=(leT Q k i+7)/8:=rfl;have hx:qbo (boF (laN (stJ Q k i))) ((leT Q k i+7)/8)=qar (stT Q (k-1) i):=by rw [q7s,qz9 Q hk0,qar,hsl];rfl
      have hpk:=fun w' he=>qo0 (laN (stJ Q k i)) (LA k) (leT Q k i) (LC k) w' ((hL k hk4).ext he) (by rw [qft,qb4]) Oo
      rw [hx] at hpk;have hwll:(qaa (qar (stT Q (k-1) i)) (leT Q k i)).length≤1000000000:=by
       have hu:=qs6 (Q:=Q) (k-1) i;rw [Nat.sub_add_cancel Oo] at hu;have hc:cnt (qar (stT Q (k-1) i)) (leT Q k i)≤leT Q k i:=qed _ _;rw [qcg hlb];exact qrv _ _ Oo hc
      have hwp:=fun B cb wd hB=>qwd (qar (stT Q (k-1) i)) B (qar (stT Q (k-1) i)).length cb (leT Q k i) wd hB rfl Oo Oo Oo
      obtain ⟨x,ex⟩:∃ x,x=qar (stT Q (k-1) i):=⟨_,rfl⟩
      rw [← ex] at hpk hwp hlv hwll;obtain ⟨y,ey⟩:∃ y,y=qaa x (leT Q k i):=⟨_,rfl⟩
      rw [← ey] at hwp hlv hwll;have e2:trX Q i k++[UInt8.ofNat wi]++pk++y=trX Q i (k+1):=by rw [trX,hlv];simp
      generalize trX Q i k++[UInt8.ofNat wi]++pk=Z at *;have hOd:=hO.call (Ext.refl w12).drew;refine DrawV.genW (fun S vals w'=>PvI w5 w12.drew Z x y (S 5) (S 11) (S 12) (S 13) (vals 5) (vals 11) (vals 12) (vals 13) w') rfl Ok (fun vals=>PvI.start xr) (zw ?_);(iterate 4 (refine zg ?_));refine StepG.of (.slice (LA k) (leT Q k i) (LC k)) (fun S vals wd hk hp hI=>zw ?_) (zw ?_)
      ·refine LoadV.of (hll (hI.ext hOd.ext) hk4) (zw ?_);exact ⟨rfl,hI⟩
      refine StepG.any (fun S vals wd hk hp hI=>?_) (zw ?_)
      ·dsimp only at hI;rw [hk] at hI;(conv=>whnf);refine zcv (hpk wd (hI.ext hOd.ext)) ?_;rintro r wx hNx;obtain ⟨Ax,cx,rfl,_,hSx⟩:=hNx.bs;exact ⟨trivial,hI.five hNx.ext hSx⟩
      (iterate 3 (refine zg ?_));refine StepG.of (.slice (LA k) (leT Q k i) (LC k)) (fun S vals wd hk hp hI=>zw ?_) (zw ?_)
      ·refine LoadV.of (hll (hI.ext hOd.ext) hk4) (zw ?_);exact ⟨rfl,hI⟩
      refine zg ?_;refine StepG.any (fun S vals wd hk hp hI=>?_) (zw ?_)
      ·dsimp only at hI;have h5:S 5=true:=hp 5 Od;rw [hk,h5] at hI;obtain ⟨Ax,cx,hv,hSx⟩:=hI.at5;rw [hv] at hI;rw [qj hv];(conv=>whnf);refine zcv (hwp Ax cx wd hSx) ?_;rintro r wx ⟨⟨By,cy,rfl,hSy⟩,hex⟩;refine ⟨trivial,?_⟩;show PvI _ _ _ _ _ (S 5) true _ _ _ _ _ _ _;rw [h5];exact hI.eleven hex hSy
      refine StepG.any (fun S vals wd hk hp hI=>?_) (zw ?_)
      ·dsimp only at hI;have h11:S 11=true:=hp 11 Od;rw [hk,h11] at hI;obtain ⟨h5,h13,he,Ay,cy,hv,hSy⟩:=hI.at11;rw [qj hv];(conv=>whnf);refine (hOd.call he).bys hSy Oo ?_;intro A' c' w' hO';exact ⟨trivial,.inr ⟨h5,h11,rfl,A',c',rfl,hO',fun h=>absurd (h13.symm.trans h) Od⟩⟩
      refine StepG.any (fun S vals wd hk hp hI=>?_) (zw ?_)
      ·dsimp only at hI;have h12:S 12=true:=hp 12 Od;rw [hk,h12] at hI;obtain ⟨h5,h11,A',c',hv,hO',_⟩:=hI.at12;rw [qj hv];(conv=>whnf);exact ⟨trivial,.inr ⟨h5,h11,h12,A',c',rfl,hO',fun _=>rfl⟩⟩
      intro vals w13 hI;obtain ⟨_,_,A',c',hv,hO',h13⟩:=hI.at12;rw [qj ((h13 rfl).trans hv)];clear hI;rw [e2] at hO' ⊢;refine zu ?_;exact ⟨(k+1,A',c'),⟨rfl,rfl,rfl,congrArg (Value.int .i64) Oo,trivial⟩,⟨by show k+1≤4;omega,hO'⟩,by show 4-(k+1)<4-k;omega⟩
     ·rw [if_pos Oo] at hlv;have e:trX Q i k++[UInt8.ofNat wi]++pk=trX Q i (k+1):=by rw [trX,hlv];simp
      rw [e] at hO ⊢;exact ⟨(k+1,B3,d3),⟨rfl,rfl,rfl,congrArg (Value.int .i64) Oo,trivial⟩,⟨by show k+1≤4;omega,hO⟩,by show 4-(k+1)<4-k;omega⟩
    ·obtain rfl:k=4:=by omega
     rw [qrk] at hO hxk ⊢;exact ⟨_,rfl,hO.new.back he5⟩
theorem qdd (n:Nat) (w:World) (hn:n<4294967296):Gv Tryz.prog 84 [ii n] w fun r w'=>BS w' r (fixL n 4)∧Ext w w':=by
 refine ze Tryz.func84 Tryz.ntmps84 ?_;refine zv ?_;refine zcv (qlg n w hn) ?_;rintro r w1 ⟨⟨A,c,rfl,hc,hS⟩,he⟩;(conv=>whnf);exact ⟨⟨A,c,rfl,hc,hS⟩,he⟩
theorem qzu (a b:Nat) (V T:LB) (A B:oA) (c d:Nat) (w:World) (ha:a<4294967296) (hb:b<4294967296) (hV:SlAt encB 1 w A V) (hT:SlAt encB 1 w B T) (hVl:V.length<4294967296) (hTl:T.length<4294967296) :
  Gv Tryz.prog 40 [ii a,ii b,.slice A V.length c,.slice B T.length d] w fun r w'=>NewS 5 w w' r (qm0 a b V T):=by
 have f4:=fun n=>qf n 4
 have s4:=fun p=>qnn p
 refine ze Tryz.func40 Tryz.ntmps40 ?_;refine ⟨fun nb w1 hnb hw=>?_⟩;have he1:Ext w w1:=by rw [hw];exact (Ext.refl w).alloc _
 have hg1:w1.heap[nb]?=some (.cells #[.int .u8 84,.int .u8 83,.int .u8 82,.int .u8 65] 5):=by rw [hw,hnb];exact heap_alloc_new w _
 have hO:RowS w w1 (.slice (some ⟨nb,0,none⟩) (fixL 1095914324 4).length 4) (fixL 1095914324 4):=⟨(Sep.of (Ext.refl w)).add (F:=[nb]) he1 (fun k hk=>by rw [List.mem_singleton.1 hk];exact ⟨by omega,qa2 hg1⟩),rfl,.inr ⟨nb,4,_,rfl,Nat.zero_le _,hg1,Nat.le_refl _,by decide,rfl,rfl⟩⟩
 clear hnb hw hg1;(conv=>whnf);refine zcv (qdd 1 w1 Od) ?_;rintro r v1 ⟨⟨C1,d1,rfl,_,hS⟩,he⟩;have hO:=hO.call he;(conv=>whnf);refine hO.bys hS (by simp only [f4];omega) ?_;clear hO hS he;intro A2 c2 w2 hO;(conv=>whnf);refine zcv (qdd a w2 ha) ?_;rintro r v2 ⟨⟨C2,d2,rfl,_,hS⟩,he⟩;have hO:=hO.call he;(conv=>whnf);refine hO.bys hS (by simp only [zla,f4];omega) ?_;clear hO hS he;intro A3 c3 w3 hO;(conv=>whnf);refine zcv (qdd b w3 hb) ?_;rintro r v3 ⟨⟨C3,d3,rfl,_,hS⟩,he⟩;have hO:=hO.call he;(conv=>whnf);refine hO.bys hS (by simp only [zla,f4];omega) ?_;clear hO hS he;intro A4 c4 w4 hO;(conv=>whnf);refine zcv (qdd V.length w4 hVl) ?_;rintro r v4 ⟨⟨C4,d4,rfl,_,hS⟩,he⟩;have hO:=hO.call he;(conv=>whnf);refine hO.bys hS (by simp only [zla,f4];omega) ?_;clear hO hS he;intro A5 c5 w5 hO;(conv=>whnf);refine zcv (qdd T.length w5 hTl) ?_;rintro r v5 ⟨⟨C5,d5,rfl,_,hS⟩,he⟩;have hO:=hO.call he;(conv=>whnf);refine hO.bys hS (by simp only [zla,f4];omega) ?_;clear hO hS he;intro A6 c6 w6 hO;(conv=>whnf);have eH:fixL 1095914324 4++fixL 1 4++fixL a 4++fixL b 4++fixL V.length 4++fixL T.length 4=h24 a b V.length T.length:=by simp only [h24,List.append_assoc]
 rw [eH] at hO ⊢;have hHl:=qqg a b V.length T.length;have eP:h24 a b V.length T.length++sumL (h24 a b V.length T.length)++V++sumL V++T++sumL T=qm0 a b V T:=by simp only [qm0,List.append_assoc]
 obtain ⟨H,eH2⟩:∃ H,H=h24 a b V.length T.length:=⟨_,rfl⟩
 rw [← eH2] at hO hHl eP ⊢;refine zcv (qj4 H A6 H.length c6 w6 hO.sl rfl Oo) ?_;rintro r v6 ⟨⟨C6,d6,rfl,_,hS⟩,he⟩;have hO:=hO.call he;(conv=>whnf);refine hO.bys (m:=sumL H) hS (by rw [s4];omega) ?_;clear hO hS he;intro A7 c7 w7 hO;have h7:(H++sumL H).length=28:=by rw [zla,s4];omega
 (conv=>whnf);refine hO.bys (hV.ext hO.ext) Oo ?_;clear hO;intro A8 c8 w8 hO;have h8:(H++sumL H++V).length=28+V.length:=by rw [zla,h7]
 (conv=>whnf);refine zcv (qj4 V A V.length c w8 (hV.ext hO.ext) rfl Oo) ?_;rintro r v8 ⟨⟨C8,d8,rfl,_,hS⟩,he⟩;have hO:=hO.call he;(conv=>whnf);refine hO.bys (m:=sumL V) hS (by rw [s4];omega) ?_;clear hO hS he;intro A9 c9 w9 hO;have h9:(H++sumL H++V++sumL V).length=32+V.length:=by rw [zla,h8,s4];omega
 (conv=>whnf);refine hO.bys (hT.ext hO.ext) Oo ?_;clear hO;intro A10 c10 w10 hO;have h10:(H++sumL H++V++sumL V++T).length=32+V.length+T.length:=by rw [zla,h9]
 (conv=>whnf);refine zcv (qj4 T B T.length d w10 (hT.ext hO.ext) rfl Oo) ?_;rintro r v10 ⟨⟨C10,d10,rfl,_,hS⟩,he⟩;have hO:=hO.call he;(conv=>whnf);refine hO.bys (m:=sumL T) hS (by rw [s4];omega) ?_;clear hO hS he;intro A11 c11 w11 hO;rw [eP] at hO ⊢;(conv=>whnf);exact hO.new
theorem q1w (T:List TM) (q:Q4) {i:Nat} (h:noT T (gat q i)=0):fnA 4 (inF (idF T q i))=fnA 4 (inF (idF T q (i+1))):=by
 refine qi7 fun j hj=>?_;rw [inF,inF,idF,idF]
 congr 1
 by_cases e:j=i
 ·subst e;rw [if_neg (Nat.lt_irrefl _),if_pos (Nat.lt_succ_self _),h];rfl
 ·by_cases h:j<i
  ·rw [if_pos h,if_pos Oo]
  ·rw [if_neg h,if_neg Oo]
theorem q2z (T:List TM) (hr:RiseT T) (A:oA) (c:Nat) (q:Q4) (hq:∀ k,k<4→gat q k∈T∨gat q k=zTM) (_hk:∀ t∈T,1≤t.kind) (hl:T.length≤16777216) (w:World) (hS:SlAt encT 4 w A T) :
  Gv Tryz.prog 38 [.slice A T.length c,qbe q] w fun r w'=>r=idsV (fun k=>noT T (gat q k))∧Ext w w':=by
 have t1:tsz Tryz.prog 3=1:=by kernel_rfl
 have t4:tsz Tryz.prog 66=4:=by kernel_rfl
 refine ze Tryz.func38 Tryz.ntmps38 ?_;refine znm (Mem.nil w) ?_;intro b3 w1 hm;have hm:Mem w w1 [(b3,.cells (qo q).toArray 68)]:=hm;(conv=>whnf);refine znm hm fun b4 w2 hm=>zw ?_;refine znm hm ?_;intro b5 w3 hm;have hm:Mem w w3 [(b5,.cells (fnA 4 (inF (idF T q 0))) 75),(b4,.cells #[ii 0,ii 0,ii 0,ii 0] 75),(b3,.cells (qo q).toArray 68)]:=hm;have hc:CellsAt w3 b3 0 (qo q):=CellsAt.mem hm (zmg (i:=2) rfl);(conv=>whnf);refine LoadA.cells (qg hc 3 Oo) rfl (zw ?_);refine LoadA.cells (qg hc 0 Oo) rfl (zw ?_);refine LoadA.cells (qg hc 1 Oo) rfl (zw ?_);refine LoadA.cells (qg hc 2 Oo) rfl (zw ?_);refine znm hm fun b6 w4 hm=>zw ?_;refine StoreA.all (vs:=qo (gQ q)) hm (i:=0) rfl rfl (qcf _) ?_;clear hm;intro w5 hm;have hm:Mem w w5 [(b6,.cells (qo (gQ q)).toArray 69),(b5,.cells (fnA 4 (inF (idF T q 0))) 75),(b4,.cells #[ii 0,ii 0,ii 0,ii 0] 75),(b3,.cells (qo q).toArray 68)]:=hm;(conv=>whnf);refine qe (fun k:Nat=>[(0,.slice A T.length c),(4,pp b4),(5,pp b5),(6,pp b6),(7,ii k)])
  (fun k w'=>k≤4∧Mem w w' [(b6,.cells (qo (gQ q)).toArray 69),(b5,.cells (fnA 4 (inF (idF T q k))) 75),(b4,.cells #[ii 0,ii 0,ii 0,ii 0] 75),(b3,.cells (qo q).toArray 68)]) (fun k=>4-k) 0 ⟨rfl,rfl,rfl,rfl,rfl,trivial⟩ ⟨by omega,hm⟩ ?_
 clear hm;rintro k w6 ρ' ⟨k1,hm⟩;(conv=>whnf);refine zC (fun _=>zw ?_) (fun _=>zw ?_)
 ·have hk4:k<4:=by omega
  have hc6:CellsAt w6 b6 (0+k*4) (encT (gat q k)):=by rw [← q46 q hk4];exact qg (CellsAt.mem hm mh) k hk4
  obtain ⟨t,et⟩:∃ t,t=gat q k:=⟨_,rfl⟩
  have htq:=hq k hk4;rw [← et] at hc6 htq;refine qe (fun x:Nat × Nat=>[(0,.slice A T.length c),(4,pp b4),(5,pp b5),(6,pp b6),(7,ii k),(8,ii x.1),(9,ii x.2)])
   (fun x w'=>x.1≤x.2∧x.2≤T.length∧(∀ p,T[p]?=some t→x.1≤p∧p≤x.2)∧Ext w6 w') (fun x=>x.2-x.1) (0,T.length) ⟨rfl,rfl,rfl,rfl,rfl,rfl,rfl,trivial⟩ ⟨Nat.zero_le _,Nat.le_refl _,fun p hp=>⟨Nat.zero_le _,Nat.le_of_lt (List.getElem?_eq_some_iff.1 hp).1⟩,Ext.refl w6⟩ ?_
  rintro ⟨lo,hi⟩ w7 ρ2 ⟨x1,x2,x3,he7⟩;dsimp only at x1 x2 x3 he7 ⊢;(conv=>whnf);refine zC (fun _=>zu ?_) (fun _=>zu ?_)
  ·obtain ⟨m,em⟩:∃ m,m=(lo+hi)/2:=⟨_,rfl⟩
   have em2:((lo:Int)+(hi:Int))/2=(m:Int):=by omega
   have hm1:m<T.length:=by omega
   rw [em2];obtain ⟨tb,to,rfl,hat⟩:=hS.at_ (by intro e;rw [e] at hm1;cases hm1);have hcell:=(hat m _ (zge hm1)).ext (hm.ext.trans he7.drew);have hc7:=hc6.ext he7.drew;obtain ⟨u,eu⟩:∃ u,u=T[m]:=⟨_,rfl⟩
   have hum:T[m]?=some u:=by rw [eu];exact zge hm1
   rw [← eu] at hcell;refine DrawV.free rfl Ok (zw ?_);refine zd ?_;refine zd ?_;apply zsd
   ·intro wd hd;(conv=>whnf);refine ⟨⟨tb,to,m,rfl,rfl,hm1,?_⟩⟩;exact ⟨xr,rfl⟩
   (conv=>whnf);apply zsd
   ·intro wd hd;(conv=>whnf);refine LoadA.cells (hcell.ext hd) rfl (zw ?_);exact ⟨xr,rfl⟩
   (conv=>whnf);refine zd ?_;refine zd ?_;apply zsd
   ·intro wd hd;(conv=>whnf);refine LoadA.cells (vs:=encT t) (by rw [t4];exact hc7.ext hd) rfl (zw ?_);exact ⟨xr,rfl⟩
   (conv=>whnf);apply zsd
   ·intro wd hd;(conv=>whnf);refine zcv (qau u t wd) ?_;rintro v w8 ⟨rfl,he⟩;exact ⟨he,rfl⟩
   (conv=>whnf);refine zd ?_;intro w8 he8;have he8:Ext w6 w8:=he7.drew.trans he8;(conv=>whnf);refine zC (fun _=>zu ?_) (fun _=>zu ?_)
   ·have hlt:LtT u t:=qbi.1 Oo;exact ⟨(m+1,hi),⟨rfl,rfl,rfl,rfl,rfl,congrArg (Value.int .i64) Oo,rfl,trivial⟩,⟨by show m+1≤hi;omega,x2,fun p hp=>⟨hr.lt hum hp hlt,(x3 p hp).2⟩,he8⟩,by show hi-(m+1)<hi-lo;omega⟩
   ·refine ⟨(lo,m),⟨rfl,rfl,rfl,rfl,rfl,rfl,rfl,trivial⟩,⟨by show lo≤m;omega,by show m≤T.length;omega,fun p hp=>⟨(x3 p hp).1,Nat.not_lt.1 fun g=>?_⟩,he8⟩,by show m-lo<hi-lo;omega⟩;have:=qbi.2 (hr.at g hum hp);omega
  ·have e:lo=hi:=by omega
   subst e;have hm:=hm.call he7;have hc7:=hc6.ext he7;have t4b:0+k*tsz Tryz.prog 66+0=0+k*4:=by rw [t4];rfl
   refine LoadV.of (by show w7.cell? ⟨b6,0+k*tsz Tryz.prog 66+0,none⟩=some (ii t.kind);rw [t4b];exact hc7 0 _ rfl) (zw ?_)
   by_cases hk0:t.kind=0
   ·have hno:noT T (gat q k)=0:=by rw [← et];exact qin hk0
    refine zv ?_;rw [q1w T q hno] at hm;exact ⟨k+1,⟨rfl,rfl,rfl,rfl,congrArg (Value.int .i64) Oo,trivial⟩,⟨by omega,hm⟩,by omega⟩
   ·have htm:t∈T:=htq.resolve_right fun e=>hk0 (by rw [e];rfl)
    obtain ⟨p,hp⟩:=List.mem_iff_getElem?.1 htm;have hpl:=x3 p hp;have ep:p=lo:=by omega
    subst ep;have hno:noT T (gat q k)=p+1:=by rw [← et];exact qth hr hp hk0
    refine zv ?_;have es:((p:Int)+1)=((noT T (gat q k):Nat):Int):=by rw [hno];rfl
    rw [es];show StoreV _ b5 (0+k*tsz Tryz.prog 3) _ _;rw [t1,show 0+k*1=k by omega];refine StoreV.mem hm (i:=1) rfl (by rw [qn];omega) rfl ?_;clear hm;intro w8 hm;have hm:Mem w w8 [(b6,.cells (qo (gQ q)).toArray 69),(b5,.cells ((fnA 4 (inF (idF T q k))).setIfInBounds k (ii (noT T (gat q k):Nat))) 75),(b4,.cells #[ii 0,ii 0,ii 0,ii 0] 75),(b3,.cells (qo q).toArray 68)]:=hm;rw [qx7 T q hk4] at hm;refine zu ?_;exact ⟨k+1,⟨rfl,rfl,rfl,rfl,congrArg (Value.int .i64) Oo,trivial⟩,⟨by omega,hm⟩,by omega⟩
 ·obtain rfl:k=4:=by omega
  refine zl hm 1 ?_;refine zS hm 2 fun w8 hm=>zw ?_;refine q7 (R:=fun v w'=>v=idsV (fun k=>noT T (gat q k))∧Ext w w') (zw ?_);refine zl hm 2 ?_;exact ⟨rfl,hm.ext⟩
theorem q6o {Q:Nat→Nat→Nat} {n:Nat} (h:TOk Q n):(qgx Q n).length≤4200000000:=by
 have h0:=qt6 h 4;have h1:=h.lvLen (k:=0);have h2:=h.le 0;have h3:=h.wi (k:=0) Od;have h4:leT Q 0 n*wiT (nuT Q 0 n)≤1048576*23:=Nat.mul_le_mul h2 h3;rw [if_pos rfl] at h1;have b1:=qta h (k:=1) Od;have b2:=qta h (k:=2) Od;have b3:=qta h (k:=3) Od;rw [← qrk];simp only [trX,zla];omega
theorem qju (qs:List Q4) (A:oA) (n c:Nat) (most:Int) (w:World) (hS:SlAt qo 16 w A qs) (hn:qs.length=n) (hb:n≤140737488355328) (_hmo:InR .i64 most) (hq:∀ q∈qs,qec q) :
  Gv Tryz.prog 12 [.slice A n c,ii most] w fun r w'=>EncR qs most w w' r:=by
 subst hn;refine ze Tryz.func12 Tryz.ntmps12 ?_;refine zcv (qrb qs A qs.length c w hS rfl hb hq) ?_;rintro r w1 (⟨e,h0,he,rfl,he1⟩|⟨hv,hvo,v,rfl,hN⟩)
 ·have hee:encE qs most=e:=by
   rw [he]
   by_cases c1:valE qs≠0
   ·rw [if_pos c1,qss c1]
   ·rw [if_neg c1];rw [if_neg c1] at he;exact qst Oo (by rw [← he];exact h0)
  have h1:¬ ((e:Nat):Int)=0:=by omega
  refine zu ?_;exact .inl ⟨by rw [hee];exact h0,by rw [hee],he1⟩
 have hlq:=(qdl hv).1;have hnt:=qnp hv;have hset:=qt5 hv hnt;have eT2:tmsN (trms qs).length (trms qs)=tmsQ qs:=rfl;obtain ⟨T,eT⟩:∃ T,T=tmsQ qs:=⟨_,rfl⟩
 have hterm:∀ t∈T,qa6 t=0∧1≤t.kind∧t.kind≤3:=fun t ht=>qew hv (by rw [← eT];exact ht)
 have hrise:RiseT T:=by rw [eT];exact qgw qs
 rw [← eT] at hvo hN hnt hset eT2;have hvl:(vocB T).length≤210000030:=by
  have hd:=qln hvo;have h1:=qhy (T:=T) (i:=3) Oo hd;have h2:=qrw (T:=T) (i:=3) Oo hd;rw [← q6z,zla];omega
 obtain ⟨Av,cv,ev,hcv,hVS⟩:=hN.bs;subst ev;refine zu ?_;refine zcv (qh5 qs A c w1 (hS.ext hN.ext) Oo) ?_;rintro r w2 ⟨⟨B,d,rfl,hd,hTS⟩,he2⟩;rw [eT2] at hd hTS ⊢;have hVS:=hVS.ext he2;(conv=>whnf);refine qe (fun x:Nat × oA × Nat=>[(0,.slice A qs.length c),(1,ii most),(6,.slice Av (vocB T).length cv),(8,.slice B T.length d),(9,.slice x.2.1 x.1 x.2.2),(10,ii x.1)])
  (fun x w'=>x.1≤qs.length∧Rw w2 w' (.slice x.2.1 x.1 x.2.2) 75 4 x.1 (qk2 T qs x.1) []) (fun x=>qs.length-x.1) (0,none,0) ⟨rfl,rfl,rfl,rfl,rfl,rfl,trivial⟩ ⟨Nat.zero_le _,Rw.nil (Mem.nil w2)⟩ ?_
 rintro ⟨i,D,e⟩ w3 ρ' ⟨i1,hR⟩;dsimp only at i1 hR ⊢;have he3:=hN.ext.trans (he2.trans hR.mem.ext);(conv=>whnf);refine zC (fun _=>zw ?_) (fun _=>zw ?_)
 ·have hil:i<qs.length:=by omega
  have hqi:qs[i]?=some qs[i]:=zge hil;have hqm:=List.getElem_mem hil;obtain ⟨q,eq⟩:∃ q,q=qs[i]:=⟨_,rfl⟩
  rw [← eq] at hqi hqm;have hgt:∀ k,k<4→gat q k∈T∨gat q k=zTM:=fun k hk=>(hset.mem q hqm k hk).imp id fun g=>g.2.2
  refine ElemV.sl (hS.ext he3) rfl i rfl Oo ?_;intro eb eo hcell;rw [← eq] at hcell;(conv=>whnf);refine LoadA.cells hcell rfl (zw ?_);refine zcv (q2z T hrise B d q hgt (fun t ht=>(hterm t ht).2.1) Oo w3 (hTS.ext hR.mem.ext)) ?_;rintro r w4 ⟨rfl,he4⟩;have hR:=hR.call he4;(conv=>whnf);refine NewV.rw hR fun nb3 w9 hR=>zw ?_;refine AppV.rw (m:=1) (news:=idsE fun k=>noT T (gat q k)) q7j idsI idsZ Ok Ok Od hR rfl (fun _=>⟨nb3,0,rfl,fun k v hv=>?_⟩) (qf9 _) (by rw [show ((Tryz.prog.info? 75).get Ok).bytes=32 from by kernel_rfl];omega) Oo ?_
  ·rw [qa (hR.mem.get mh),Nat.zero_add];rw [← hv];simp [idsE]
  clear hR;intro B2 d2 w10 hR;rw [← qi9 T qs hqi] at hR;refine zu ?_;exact ⟨(i+1,B2,d2),⟨rfl,rfl,rfl,rfl,rfl,congrArg (Value.int .i64) Oo,trivial⟩,⟨by show i+1≤qs.length;omega,hR.tail⟩,by show qs.length-(i+1)<qs.length-i;omega⟩
 ·obtain rfl:i=qs.length:=by omega
  have hidS:SlAt idsE 4 w3 D ((List.range qs.length).map (noQ T qs)):=qy7 qs3 hR.own Js;have htok:TOk (noQ T qs) qs.length:=hset.tok;have htl:=q6o htok;refine zcv (qq7 (noQ T qs) D qs.length e w3 hidS htok) ?_;rintro r w4 ⟨v2,rfl,hN4⟩;obtain ⟨At,ct,et,hct,hTR⟩:=hN4.bs;subst et;have hVS4:=hVS.ext (hR.mem.ext.trans hN4.ext);refine zu ?_;refine zcv (qzu qs.length T.length (vocB T) (qgx (noQ T qs) qs.length) Av At cv ct w4 Oo Oo hVS4 hTR Oo Oo) ?_;rintro r w5 hN5;have epk:qm0 qs.length T.length (vocB T) (qgx (noQ T qs) qs.length)=pkB qs:=by rw [eT];rfl
  rw [epk] at hN5;obtain ⟨A9,c9,ev9,_⟩:=id hN5.h;subst ev9;have hN5:=hN5.back (he3.trans hN4.ext);have hok:=qxm (qs:=qs) (most:=most) hv (by rw [← eT];exact hvo);have hbig:=qik (qs:=qs) (most:=most) hv (by rw [← eT];exact hvo);conv=>whnf
  (repeat' (first|refine zp ?_|refine zC (fun _=>zw ?_) (fun _=>zw ?_)))
  ·have e1:=hbig Oo;exact .inl ⟨by rw [e1];decide,by rw [e1];rfl,hN5.ext⟩
  ·have e1:=hbig Oo;exact .inl ⟨by rw [e1];decide,by rw [e1];rfl,hN5.ext⟩
  ·exact .inr ⟨hok Oo,_,rfl,hN5⟩
theorem qnf (P:Program) (w:World) (dT sT ty elem:TypeId) (g o dLen dCap:Nat) (a:Addr) (sLen sCap:Nat) (cur:Array Value) (t:TypeId) (cs:List Value) (k:Nat)
  (hu:P.underlying dT=some (.slice elem)) (hs:(P.info? elem).map (·.size)=some k)
  (hg:w.heap[g]?=some (.cells cur t)) (hn:cs.length=Nat.min sLen dLen*k)
  (hsrc:∀ j v,cs[j]?=some v→w.cell? (a.add j)=some v) (hfit:o+cs.length≤cur.size) (h1:∀ v∈cs,v.oneCell'=true) :
  (Builtin.copy_ #[dT,sT] ty #[.slice (some ⟨g,o,none⟩) dLen dCap,.slice (some a) sLen sCap]).run P w =
   .ok (goInt (Nat.min sLen dLen)) (w.setRow g (cur.toList.take o++cs++cur.toList.drop (o+cs.length)).toArray):=by
 have hl:=run_loadCells_list (P:=P) w a cs hsrc;have hst:=run_storeCells_at P g o t cs 0 cur w hg (by simpa using hfit) h1;cases hq:P.info? elem with
 | none=>simp [hq] at hs
 | some i=>
  have hi:i.size=k:=by simpa [hq] using hs
  simp [Builtin.copy_,run_underlying hu,Builtin.lenOf,Builtin.firstCells,sizeOf,typeInfo,hq,hi,← hn,hl,hst]
theorem qkn (P:Program) (w:World) (dT sT ty elem:TypeId) (d a:oA) (dLen dCap sLen sCap k:Nat) (hu:P.underlying dT=some (.slice elem)) (hs:(P.info? elem).map (·.size)=some k) (hn:Nat.min sLen dLen=0) :
  (Builtin.copy_ #[dT,sT] ty #[.slice d dLen dCap,.slice a sLen sCap]).run P w=.ok (goInt 0) w:=by
 cases hq:P.info? elem with
 | none=>simp [hq] at hs
 | some i=>
  have hl:∀ (x:Addr),(loadCells x 0).run P w=.ok #[] w:=fun x=>by simpa using run_loadCells_list (P:=P) w x [] Js
  cases d<;>cases a<;>simp [Builtin.copy_,run_underlying hu,Builtin.lenOf,Builtin.firstCells,sizeOf,typeInfo,hq,hn,storeCells,hl]
def qcd:Q4:=⟨⟨-7,⟨#[109,97,114,107]⟩,⟨#[]⟩,⟨#[]⟩⟩,zTM,zTM,zTM⟩
namespace V
theorem RunV.eqQd {xo yo:Operand} {a b:Q4} {w:World} {K:Value→World→Prop} (h:K (.bool (qc1 a b)) w) :
  RunV Tryz.prog (do eqGuard .eql 68 xo yo (qbe a) (qbe b);binOp .eql 68 (qbe a) (qbe b)) w K:=by
 refine ⟨_,w,?_,h⟩;rw [Sem.run_bind,qbe,qbe,run_eqGuard_agg w .eql _ xo yo _ _ qx2,Result.andThen_ok];have e:=qfk 9997 a b w;simp only [qbe] at e;rw [run_eql_struct,e];rfl
end V
theorem qe3 (w:World):Gv Tryz.prog 26 [] w fun r w'=>r=qbe qcd∧Ext w w':=by
 refine ze Tryz.func26 Tryz.ntmps26 ?_;refine znm (Mem.nil w) fun b w1 hm=>zw ?_;refine StoreA.all (vs:=qo qcd) hm (i:=0) rfl rfl (qcf _) fun w2 hm=>zw ?_;refine q7 (R:=fun r w'=>r=qbe qcd∧Ext w w') (zw ?_);refine zl hm 0 ?_;exact ⟨rfl,hm.ext⟩
def RoomQ (qs:List Q4) (base:Nat) (v:Value) (w:World):Prop:=
 ∃ g c,v=.slice (some ⟨g,0,none⟩) qs.length c∧qs.length+2≤c∧base≤g∧SlAt qo 16 w (some ⟨g,0,none⟩) (qs++[qcd,qcd])
theorem RoomQ.ext {qs:List Q4} {base:Nat} {v:Value} {w w':World} (h:RoomQ qs base v w) (he:Ext w w'):RoomQ qs base v w':=by
 obtain ⟨g,c,h1,h2,h3,h4⟩:=h;exact ⟨g,c,h1,h2,h3,h4.ext he⟩
theorem qzk (qs:List Q4):((qs.map qo).flatten).length=qs.length*16:=qav qo 16 qgg qs
theorem quv {w:World} {b off:Nat} {qs:List Q4} (hat:∀ j x,qs[j]?=some x→CellsAt w b (off+j*16) (qo x)):CellsAt w b off ((qs.map qo).flatten):=qck (enc:=qo) (size:=16) Od qgg hat
theorem qq6 (qs:List Q4) (A:oA) (c:Nat) (w:World) (hS:SlAt qo 16 w A qs) (hl:qs.length≤1048576) :
  Gv Tryz.prog 10 [.slice A qs.length c] w fun v w'=>RoomQ qs w.heap.size v w'∧Ext w w':=by
 have hu:Tryz.prog.underlying 22=some (.slice 68):=Tryz.underlying22;have hsz:(Tryz.prog.info? 68).map (·.size)=some 16:=by kernel_rfl
 have hfl:=qzk qs;have hone:∀ v∈(qs.map qo).flatten,v.oneCell'=true:=fun v hv=>by
  obtain ⟨l,hl,hv⟩:=List.mem_flatten.1 hv;obtain ⟨q,_,rfl⟩:=List.mem_map.1 hl;exact qcf q v hv
 obtain ⟨xs,exs⟩:∃ xs,xs=(qs.map qo).flatten:=⟨_,rfl⟩
 rw [← exs] at hfl hone;refine ze Tryz.func10 Tryz.ntmps10 ?_;refine zv ?_;refine ⟨qs.length,qs.length+2,rfl,rfl,by omega,by show (qs.length+2)*224≤_;omega,by omega,?_⟩;intro ob w1 hob hw1;obtain ⟨zs,ezs⟩:∃ zs,zs=qa5 ((Value.agg #[ii 0,.string ⟨#[]⟩,.string ⟨#[]⟩,.string ⟨#[]⟩,ii 0,.string ⟨#[]⟩,.string ⟨#[]⟩,.string ⟨#[]⟩,ii 0,.string ⟨#[]⟩,.string ⟨#[]⟩,.string ⟨#[]⟩,ii 0,.string ⟨#[]⟩,.string ⟨#[]⟩,.string ⟨#[]⟩]).cells.toList) (qs.length+2):=⟨_,rfl⟩
 have hm:Mem w w1 [(ob,.cells zs.toArray 68)]:=by rw [ezs];exact (Mem.nil w).new hob hw1
 have hzl:zs.length=(qs.length+2)*16:=by rw [ezs,qg5];rfl
 clear hob hw1 ezs;(conv=>whnf);have hg:=hm.get mh;have key:∃ w2 cur,(Builtin.copy_ #[22,22] 3 #[.slice (some ⟨ob,0,none⟩) qs.length (qs.length+2),.slice A qs.length c]).run Tryz.prog w1=.ok (ii qs.length) w2∧
   Mem w w2 [(ob,.cells cur 68)]∧cur.size=(qs.length+2)*16∧cur.toList.take (qs.length*16)=xs:=by
  rcases Nat.eq_zero_or_pos qs.length with h0|h0
  ·refine ⟨w1,zs.toArray,?_,hm,by simpa using hzl,?_⟩
   ·rw [h0];exact qkn Tryz.prog w1 _ _ _ 68 _ _ _ _ _ _ 16 hu hsz rfl
   ·rw [h0,Nat.zero_mul];rw [h0,Nat.zero_mul] at hfl;exact (List.eq_nil_of_length_eq_zero hfl).symm
  ·obtain ⟨gb,go,eA,hca⟩:=hS.at_ (by intro e;rw [e] at h0;simp at h0);subst eA;have hce:=(quv hca).ext hm.ext;rw [← exs] at hce;have hcp:=qnf Tryz.prog w1 22 22 3 68 ob 0 qs.length (qs.length+2) ⟨gb,go,none⟩ qs.length c _ 68 xs 16 hu hsz hg (by rw [hfl];exact congrArg (· * 16) (Nat.min_self _).symm) (fun j v hv=>by
    have ea:(⟨gb,go,none⟩:Addr).add j=⟨gb,go+j,none⟩:=by unfold Addr.add;split<;>simp_all
    rw [ea];exact hce j v hv) (by rw [hfl,Nat.zero_add,List.size_toArray,hzl];omega) hone
   have ec:(zs.toArray.toList.take 0++xs++zs.toArray.toList.drop (0+xs.length))=xs++zs.drop (qs.length*16):=by
    rw [List.take_zero,List.nil_append,Nat.zero_add,hfl]
   rw [ec] at hcp;refine ⟨w1.setRow ob (xs++zs.drop (qs.length*16)).toArray,(xs++zs.drop (qs.length*16)).toArray,?_,hm.set (i:=0) rfl (Below.trans hm.ext ⟨rfl,rfl,rfl,by simp [World.setRow],fun k hk=>qm (by have:=(hm.own _ mh).1;simp only at this;omega)⟩) (qcs hg) (fun c hc=>qm hc),?_,?_⟩
   ·rw [hcp,show Nat.min qs.length qs.length=qs.length from Nat.min_self _];rfl
   ·simp [hfl,hzl];omega
   ·show (xs++_).take _=_;rw [List.take_append_of_le_length Oo,List.take_of_length_le Oo]
 obtain ⟨w2,cur,hrun,hm2,hcs,htk⟩:=key;refine Fall.copy rfl rfl rfl _ _ hrun ?_;have hR:Rw w w2 (.slice (some ⟨ob,0,none⟩) qs.length (qs.length+2)) 68 16 qs.length xs []:=
  ⟨hm2.sub (List.nil_sublist _),⟨hfl,.inr ⟨ob,qs.length+2,_,rfl,(hm2.own _ mh).1,hm2.get mh,by omega,by simp only [maxLen];omega,hcs,htk⟩⟩,fun x hx=>by simp at hx⟩
 clear hrun hm2 hm hg;(conv=>whnf);refine zcv (qe3 w2) ?_;rintro r w3 ⟨rfl,he3⟩;(conv=>whnf);refine zcv (qe3 w3) ?_;rintro r w4 ⟨rfl,he4⟩;have hR:=hR.call (he3.trans he4);(conv=>whnf);refine NewV.rw hR fun nb w5 hR=>zw ?_;refine AppV.rw (m:=2) (news:=qo qcd++qo qcd) qdSl qdI qdZ Ok Ok Od hR rfl (fun _=>⟨nb,0,rfl,fun k v hv=>?_⟩) (fun u hu=>(List.mem_append.1 hu).elim (qcf _ u) (qcf _ u)) (by rw [show ((Tryz.prog.info? 68).get Ok).bytes=224 from by kernel_rfl];omega) Oo ?_
 ·rw [qa (hR.mem.get mh),Nat.zero_add];rw [← hv];simp [qo,encT,qcd,zTM]
 clear hR;intro A2 c2 w6 hR;have hxs:xs++(qo qcd++qo qcd)=((qs++[qcd,qcd]).map qo).flatten:=by rw [exs];simp
 rw [hxs] at hR;have hlen:(qs++[qcd,qcd]).length=qs.length+2:=by simp
 obtain ⟨h1,⟨_,h0⟩|⟨g,cap,cur2,h2,h3,h4,h5,h6⟩⟩:=id hR.own
 ·cases h0
 cases h2;obtain ⟨o1,o2⟩:=qd1 (enc:=qo) qgg hR.own hlen;(conv=>whnf);refine SliceV.to 0 qs.length c2 rfl rfl rfl Oo Oo znr (fun h=>by cases h) ?_;rw [if_neg Oo];(conv=>whnf);refine ⟨⟨g,c2,?_,o2,h3,o1⟩,hR.mem.ext⟩;rw [show tsz Tryz.prog 68=16 from by kernel_rfl];rfl
theorem qk3 (qs:List Q4) (A:oA) (c base:Nat) (v:Value) (w:World) (hm:RoomQ qs base v w) (hS:SlAt qo 16 w A qs) (hl:qs.length≤1048576) :
  Gv Tryz.prog 13 [v,.slice A qs.length c] w fun v w'=>v=.bool true∧Ext w w':=by
 have t16:tsz Tryz.prog 68=16:=by kernel_rfl
 obtain ⟨g,c2,rfl,hc2,_,o1⟩:=hm;have o0:SlAt qo 16 w (some ⟨g,0,none⟩) qs:=by
  have:=o1.cut (lo:=0) (hi:=qs.length) (m:=c2) Oo Js Oo rfl;rw [if_neg Oo,List.drop_zero,Nat.sub_zero,List.take_left] at this;exact this
 obtain ⟨g',o',e',hcell⟩:=o1.at_ Js;cases e';have hc1:CellsAt w g (0+qs.length*16) (qo qcd):=hcell qs.length qcd Js;have hc3:CellsAt w g (0+(qs.length+1)*16) (qo qcd):=hcell (qs.length+1) qcd (by rw [List.getElem?_append_right Oo];simp);refine ze Tryz.func13 Tryz.ntmps13 ?_;refine zv ?_;refine SliceV.to 0 (qs.length+2) c2 rfl (qf1 Oo) rfl Oo Oo znr (fun h=>by cases h) ?_;rw [if_neg Oo,t16,show Option.map (fun x:Addr=>x.add (0*16)) (some ⟨g,0,none⟩)=some ⟨g,0,none⟩ from rfl,Nat.sub_zero,Nat.sub_zero];(conv=>whnf);refine DrawV.free Ok Ok (zw ?_);(iterate 3 (refine zd ?_));refine zsd (.slice (some ⟨g,0,none⟩) qs.length c2) (fun wd hd=>zw ?_) (zw ?_)
 ·refine SliceV.to 0 qs.length c2 rfl (qf1 rfl) rfl Oo Oo znr (fun h=>by cases h) ?_;rw [if_neg Oo,t16,show Option.map (fun x:Addr=>x.add (0*16)) (some ⟨g,0,none⟩)=some ⟨g,0,none⟩ from rfl,Nat.sub_zero,Nat.sub_zero];(conv=>whnf);exact ⟨xr,rfl⟩
 refine zd ?_;refine zsd (.bool true) (fun wd hd=>zw ?_) (zw ?_)
 ·refine zcv (qng qs _ _ _ _ wd (o0.ext ((Ext.refl w).drew.trans hd)) (hS.ext ((Ext.refl w).drew.trans hd)) Oo) ?_;rintro v wx ⟨rfl,hx⟩;exact ⟨hx,rfl⟩
 (iterate 4 (refine zd ?_));apply zsd (.pointer (some ⟨g,0+qs.length*16,none⟩))
 ·intro wd hd;refine zu ?_;refine ⟨⟨g,0,qs.length,rfl,by omega,by omega,?_⟩⟩;rw [t16];(conv=>whnf);exact ⟨xr,rfl⟩
 (conv=>whnf);apply zsd (qbe qcd)
 ·intro wd hd;refine zu ?_;refine LoadA.cells (hc1.ext ((Ext.refl w).drew.trans hd)) rfl (zw ?_);exact ⟨xr,rfl⟩
 (conv=>whnf);apply zsd (qbe qcd)
 ·intro wd hd;refine zu ?_;refine zcv (qe3 wd) ?_;rintro v wx ⟨rfl,hx⟩;exact ⟨hx,rfl⟩
 (conv=>whnf);apply zsd (.bool true)
 ·intro wd hd;refine zu ?_;refine RunV.eqQd (a:=qcd) (b:=qcd) ?_;rw [qjx.2 rfl];(conv=>whnf);exact ⟨xr,rfl⟩
 (conv=>whnf);(iterate 6 (refine zd ?_));apply zsd (.pointer (some ⟨g,0+(qs.length+1)*16,none⟩))
 ·intro wd hd;refine zu ?_;refine ⟨⟨g,0,(qs.length+1),rfl,by omega,by omega,?_⟩⟩;rw [t16];(conv=>whnf);exact ⟨xr,rfl⟩
 (conv=>whnf);apply zsd (qbe qcd)
 ·intro wd hd;refine zu ?_;refine LoadA.cells (hc3.ext ((Ext.refl w).drew.trans hd)) rfl (zw ?_);exact ⟨xr,rfl⟩
 (conv=>whnf);apply zsd (qbe qcd)
 ·intro wd hd;refine zu ?_;refine zcv (qe3 wd) ?_;rintro v wx ⟨rfl,hx⟩;exact ⟨hx,rfl⟩
 (conv=>whnf);apply zsd (.bool true)
 ·intro wd hd;refine zu ?_;refine RunV.eqQd (a:=qcd) (b:=qcd) ?_;rw [qjx.2 rfl];(conv=>whnf);exact ⟨xr,rfl⟩
 (conv=>whnf);refine zd ?_;refine zd ?_;intro wd hd;conv=>whnf
 (repeat (intro _ _;(conv=>whnf)))
 exact ⟨rfl,(Ext.refl w).drew.trans hd⟩
structure GlobE (w:World):Prop where
 M:MaxLenAt w
 T:CellsAt w 6 0 qbt
 N:CellsAt w 1 0 qox
 G:ErrTyp w
theorem GlobE.ext {w w':World} (h:GlobE w) (he:Ext w w'):GlobE w':=⟨h.M.ext he,CellsAt.ext h.T he,CellsAt.ext h.N he,h.G.ext he⟩
theorem qjm (qs:List Q4) (A:oA) (n c:Nat) (most:Int) (w:World) (hS:SlAt qo 16 w A qs) (hn:qs.length=n) (hb:n≤140737488355328) (hmo:InR .i64 most)
  (hk:∀ q∈qs,∀ k,InR .i64 (q.at k).kind) (hz:∀ q∈qs,hvQ q≤1152921504606846976) (hG:GlobE w) :
  Gv Tryz.prog 3 [.slice A n c,ii most] w fun r w'=>r=.bool true∧Ext w w':=by
 subst hn;refine ze Tryz.func3 Tryz.ntmps3 ?_;refine zcv (qx6 qs A qs.length c w hS rfl hb hz) ?_;rintro r w1 ⟨h,rfl,hh,he1⟩;cases h with
 | true=>
  refine zu ?_;exact ⟨rfl,he1⟩
 | false=>
 have hh:=hh rfl;have hqo:=q8q hk hh;have hqn:=hv_n hh;refine zu ?_;refine zcv (qq6 qs A c w1 (hS.ext he1) hqn) ?_;rintro v w2 ⟨hRm,he2⟩;obtain ⟨g,c2,hv,hc2,_,hR1⟩:=id hRm;subst hv;have hSg:SlAt qo 16 w2 (some ⟨g,0,none⟩) qs:=by
  have:=hR1.cut (lo:=0) (hi:=qs.length) (m:=c2) Oo Js Oo rfl;rw [if_neg Oo,List.drop_zero,Nat.sub_zero,List.take_left] at this;exact this
 have he2:=he1.trans he2;have hG2:=hG.ext he2;(conv=>whnf);refine zcv (qhd qs (some ⟨g,0,none⟩) qs.length c2 most w2 hSg rfl Oo hmo hqo hG2.M hG2.T hG2.N hG2.G) ?_;rintro r w3 (⟨h0,rfl,he3⟩|⟨h0,va,rfl,hNa⟩)
 ·have hx3:=he2.trans he3;have hG3:=hG.ext hx3;(conv=>whnf);refine zcv (qhd qs (some ⟨g,0,none⟩) qs.length c2 most w3 (hSg.ext he3) rfl Oo hmo hqo hG3.M hG3.T hG3.N hG3.G) ?_;rintro r w4 (⟨_,rfl,he4⟩|⟨h1,_⟩)
  case inr=>exact absurd h1 h0
  have hx4:=hx3.trans he4;(conv=>whnf);refine zcv (qju qs A qs.length c most w4 (hS.ext hx4) rfl Oo hmo hqo) ?_;rintro r w5 (⟨_,rfl,he5⟩|⟨h1,_⟩)
  case inr=>exact absurd h1 h0
  have hx5:=hx4.trans he5;have hnil:∀ w,SlAt encB 1 w none []:=fun w=>⟨fun h=>absurd rfl h⟩
  (conv=>whnf);refine BytesS.sl (hnil _) rfl (zw ?_);refine BytesS.sl (hnil _) rfl (zu ?_);refine zcv (qk3 qs A c _ _ w5 (hRm.ext (he3.trans (he4.trans he5))) (hS.ext hx5) hqn) ?_;rintro r w6 ⟨rfl,he6⟩;refine zu ?_;refine qe (fun i:Nat=>[(6,.slice none 0 0),(8,.slice none 0 0),(10,.slice none 0 0),(12,ii i)]) (fun i w'=>i=0∧w'=w6) (fun _=>0) 0 ⟨rfl,rfl,rfl,rfl,trivial⟩ ⟨rfl,rfl⟩ ?_;rintro i w7 ρ' ⟨rfl,rfl⟩;refine zu ?_;refine BytesS.sl (hnil _) rfl (zw ?_);refine BytesS.sl (hnil _) rfl (zw ?_);exact ⟨congrArg Value.bool (qai.2 rfl),hx5.trans he6⟩
 ·obtain ⟨_,_,_,hpl⟩:=qxn h0;have hpl1:36≤(pkB qs).length:=by rw [qqs];omega
  have hx3:=he2.trans hNa.ext;have hG3:=hG.ext hx3;have hen:=fun w' he=>qhd qs (some ⟨g,0,none⟩) qs.length c2 most w' (hSg.ext he) rfl Oo hmo hqo
  have hrn:=fun w' he=>qju qs A qs.length c most w' (hS.ext he) rfl Oo hmo hqo
  unfold EncR at hen hrn;obtain ⟨l,el⟩:∃ l,l=pkB qs:=⟨_,rfl⟩
  rw [← el] at hNa hpl hpl1 hen hrn;obtain ⟨Aa,ca,ev,hca,hSa⟩:=hNa.bs;subst ev;obtain ⟨_,ga,cur,rfl,hga,hgc,hcu,_⟩:=q2a hNa (by intro e;rw [e] at hpl1;simp at hpl1);have hgl:=qa2 hgc;(conv=>whnf);refine zcv (hen w3 hNa.ext hG3.M hG3.T hG3.N hG3.G) ?_;rintro r w4 (⟨h1,_⟩|⟨_,vb,rfl,hNb⟩)
  ·exact absurd h0 h1
  obtain ⟨Ab,cb,ev,hcb,hSb⟩:=hNb.bs;subst ev;have hx4:=hx3.trans hNb.ext;(conv=>whnf);refine zcv (hrn w4 hx4) ?_;rintro r w5 (⟨h1,_⟩|⟨_,vc,rfl,hNc⟩)
  ·exact absurd h0 h1
  obtain ⟨Ac,cc,ev,hcc,hSc⟩:=hNc.bs;subst ev;have hx5:=hx4.trans hNc.ext;(conv=>whnf);refine BytesS.sl (hSa.ext (hNb.ext.trans hNc.ext)) rfl (zw ?_);refine BytesS.sl hSc rfl (zu ?_);refine Tst.yes (qai.2 rfl) (zu ?_);refine zcv (qk3 qs A c _ _ w5 (hRm.ext (hNa.ext.trans (hNb.ext.trans hNc.ext))) (hS.ext hx5) hqn) ?_;rintro r w6 ⟨rfl,he6⟩;have hx6:=hx5.trans he6;refine zu ?_;refine qe (fun i:Nat=>[(6,.slice (some ⟨ga,0,none⟩) l.length ca),(8,.slice Ab l.length cb),(10,.slice Ac l.length cc),(12,ii i)])
   (fun i w'=>i≤l.length∧Chn [ga] w6 w'∧∃ cur:Array Value,w'.heap[ga]?=some (.cells cur 5)∧l.length≤cur.size) (fun i=>l.length-i) 0 ⟨rfl,rfl,rfl,rfl,trivial⟩ ⟨Nat.zero_le _,Chn.refl _ _,cur,(hNb.ext.trans (hNc.ext.trans he6)).get hgc,hcu⟩ ?_
  rintro i w7 ρ' ⟨i1,hch,cur7,hg7,hcs7⟩;(conv=>whnf);refine zC (fun _=>zw ?_) (fun _=>zw ?_)
  ·refine ⟨⟨ga,0,i,rfl,by omega,by omega,?_⟩⟩;rw [show tsz Tryz.prog 5=1 from by kernel_rfl,Nat.mul_one,Nat.zero_add];(conv=>whnf);refine StoreV.own hg7 Oo rfl ?_;intro w8 hw;obtain ⟨hc8,hg8⟩:=Chn.set hg7 hw;refine zu ?_;exact ⟨i+1,⟨rfl,rfl,rfl,congrArg (Value.int .i64) Oo,trivial⟩,⟨by omega,hch.trans hc8,_,hg8,by rw [Array.size_setIfInBounds];exact hcs7⟩,by omega⟩
  ·have hfar:∀ k,w3.heap.size≤k→k<w6.heap.size→w7.heap[k]?=w6.heap[k]?:=fun k h1 h2=>hch.block k h2 fun g=>by rw [List.mem_singleton.1 g] at h1;omega
   have hSb:=(hSb.ext (hNc.ext.trans he6)).keep (w':=w7) fun k hk=>by
    have:=hNb.lo k (by rw [qcl _ _ _ 0 0];exact hk);have h2:=(hNc.ext.trans he6).size;exact hfar k this.1 Oo
   have hSc:=(hSc.ext he6).keep (w':=w7) fun k hk=>by
    have:=hNc.lo k (by rw [qcl _ _ _ 0 0];exact hk);have h2:=he6.size;have h3:=hNb.ext.size;exact hfar k Oo Oo
   refine BytesS.sl hSb rfl (zw ?_);refine BytesS.sl hSc rfl (zw ?_);exact ⟨congrArg Value.bool (qai.2 rfl),hch.ext hx6 fun k hk=>by rw [List.mem_singleton.1 hk];have:=he2.size;omega⟩
end Go.Proofs.YtkienlambankeaaGreatDoor
