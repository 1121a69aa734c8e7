/- Lemmas and contracts of functions on the way to the law's card (part 16 of 20). -/
import Derived.Test.YtccmcfpmknpccaaGreatDoorSA15
namespace Go.Proofs.YtccmcfpmknpccaaGreatDoor
set_option maxHeartbeats 8000000
open Go.RowKit V
set_option maxHeartbeats 8000000
set_option maxRecDepth 100000
variable {T Ts:List TM} {qs:List Q4} {w w':DU} {g i j k r:Nat} {P:DW} {ρ:Eb} {o:Oper} {K:Ea} {J:Ed->Ec} {X Y:Ed} {o':Obj} {pl:Int}
open Classical in
noncomputable def vidR(T:List TM)(q:Q4):DZ:=if ∀k,k<4->gat q k∈T\/gat q k=zTM then .tuple #[idsV λk=>noT T (gat q k),.bool true]else .tuple #[idsV λ_=>0,.bool false]
theorem q7n(T:List TM)(h:VOk T)(hr:RiseT T)(hk:∀t∈T,1<=t.kind/\t.kind<=3)(he:∀t∈T,qap t=0)(b:Nat)(q:Q4)(aa:qa5 q)(w:DU)(hV:VocAt w b (vocB T))(hM:MaxLenAt w)(hT:CellsAt w 4 0 qcb):
  Gv Eg 74 [pp b,qy q] w λr w'=>r=vidR T q/\Ext w w':=by
 refine ze Tryz.func74 Tryz.ntmps74 ?_;refine znm (Mem.nil w) ?_;intro W w1 H;have H:Mem w w1 [(W,.cells (qf q).toArray 47)]:=H;(conv=>whnf);refine znm H λZ w2 H=>zw ?_;refine znm H ?_;intro b6 w3 H;have H:Mem w w3 [(b6,.cells (fnA 4 (inF (idF T q 0))) 95),(Z,.cells #[ii 0,ii 0,ii 0,ii 0] 95),(W,.cells (qf q).toArray 47)]:=H;have hc:CellsAt w3 W 0 (qf q):=CellsAt.mem H (zmg (i:=2) rfl);(conv=>whnf);refine LoadA.cells (qm hc 3 Oo) rfl (zw ?_);refine LoadA.cells (qm hc 0 Oo) rfl (zw ?_);refine LoadA.cells (qm hc 1 Oo) rfl (zw ?_);refine LoadA.cells (qm hc 2 Oo) rfl (zw ?_);refine qk (λk:Nat=>[(0,pp b),(4,pp Z),(6,pp b6),(19,qy (gQ q)),(20,ii k)])
  (λk w'=>k<=4/\(∀j,j<k->gat q j∈T\/gat q j=zTM)/\Mem w w' [(b6,.cells (fnA 4 (inF (idF T q k))) 95),(Z,.cells #[ii 0,ii 0,ii 0,ii 0] 95),(W,.cells (qf q).toArray 47)]) (λk=>4-k) 0 fq ⟨by omega,λj hj=>absurd hj (BL _),H⟩ ?_
 clear H hc;rintro k w4 ag ⟨k1,ad,H⟩;(conv=>whnf);refine zC (λ_=>zu ?_) (λ_=>zu ?_)
 ·have U:k<4:=by omega
  refine Wit.eq (y:=encT ((gQ q).at k)) (qs9 (gQ q) k U) ?_;rw[qafa q U];(conv=>whnf);refine znm H λb8 w5 H=>zw ?_;refine StoreA.all (vs:=encT (gat q k)) H (i:=0) rfl rfl (q9 _) ?_;clear H;intro w6 H;have H:Mem w w6 [(b8,.cells (encT (gat q k)).toArray 45),(b6,.cells (fnA 4 (inF (idF T q k))) 95),(Z,.cells #[ii 0,ii 0,ii 0,ii 0] 95),(W,.cells (qf q).toArray 47)]:=H;(conv=>whnf);refine zl H 0 ?_;have ae:TermOk (gat q k):=by rw[<-qafa q U];have:=aa;rcases(show k=0\/k=1\/k=2\/k=3 by omega)with rfl|rfl|rfl|rfl;exact this 3;exact this 0;exact this 1;exact this 2
  refine zcv (qzo T h hr hk he b (gat q k) ae w6 (hV.ext H.ext) (hM.ext H.ext) (hT.ext H.ext)) ?_;rintro r w7 ⟨rfl,af⟩;have H:=H.call af
  rcases BW (gat q k∈T\/gat q k=zTM)with V|V
  case inr=>
   rw[idR,Aa V];refine zu ?_;refine zS H 2 λw8 H=>zw ?_;refine qi (R:=λv w'=>v=vidR T q/\Ext w w') (zw ?_);refine zl H 2 ?_;exact⟨by rw[vidR,Aa (λg=>V (g k U))];rfl,H.ext⟩
  rw[idR,Ad V];refine zu ?_;rw[show 0+k*tsz Eg 3=k by rw[show tsz Eg 3=1 from by kernel_rfl];omega];refine StoreV.mem H (i:=1) rfl (by rw[qaq];omega) rfl ?_;clear H;intro w8 H;have H:Mem w w8 [(b8,.cells (encT (gat q k)).toArray 45),(b6,.cells ((fnA 4 (inF (idF T q k))).setIfInBounds k (ii (noT T (gat q k):Nat))) 95),(Z,.cells #[ii 0,ii 0,ii 0,ii 0] 95),(W,.cells (qf q).toArray 47)]:=H;rw[q3z T q U]at H;refine zu ?_;exact⟨k+1,⟨rfl,rfl,rfl,rfl,Ae (Value.int .i64) Oo,trivial⟩,⟨by omega,(by grind),H.sub Js⟩,by omega⟩
 ·refine zl H 0 ?_;refine zS H 1 λw8 H=>zw ?_;obtain rfl:k=4:=by omega
  refine qi (R:=λv w'=>v=vidR T q/\Ext w w') (zw ?_);refine zl H 1 ?_;exact⟨by rw[vidR,Ad (λj hj=>ad j hj)];rfl,H.ext⟩
theorem EncOk.idX(h:EncOk T qs)(p:Q4):∀k,k<4->InR .i64 (idP T p k):=λk _=>by
 have H:=h.set.few;rw[idP,idT]
 split
 ·exact⟨by omega,by omega⟩
 ·have U:noT T (gat p k)<=T.length+1:=by
   grind [noT]
  exact⟨by omega,by omega⟩
theorem q0p(b H:Nat)(U V W Z a5:DZ)(w:DU)(h:w.heap[b]?=some (.cells #[U,V,W,Z,pp H,a5] 241)):Gv Eg 73 [pp b] w λv w'=>v=pp H/\w'=w:=by
 refine ze Tryz.func73 Tryz.ntmps73 ?_;refine LoadV.own h rfl (zw ?_);simp
theorem qabg(l:LB)(x V W H:Nat)(w:DU)(U:IdxE w x V W H l):Gv Eg 26 [pp x] w λr w'=>r=ii (vNum (qj l) 3:Nat)/\Ext w w':=by
 refine ze Tryz.func26 Tryz.ntmps26 ?_;refine LoadV.of U.c (zw ?_);refine zcv (qe7 V H _ _ _ _ _ w U.b) ?_;rintro r Z ⟨rfl,rfl⟩;(conv=>whnf);refine zcv (qiv H _ Z U.t) ?_;rintro r w2 ⟨rfl,rfl⟩;conv=>whnf
 grind [Ext.refl]
section
variable {T:List TM} {qs:List Q4} (h:EncOk T qs)
include h
theorem EncOk.gatIn:∀q∈qs,∀k,k<4->gat q k∈T\/gat q k=zTM:=λq H k U=>(h.set.mem q H k U).imp id λg=>g.2.2
theorem EncOk.cnt{p:Q4}(H:KnQ T p):tcnt (qj (encP T qs)) (idP T p)=(qbd p qs).length:=by
 rw[h.t,qabq h.set.tok,qmb (P:=idP T p) h.set.rise (λt U=>(h.kinds t U).1) h.gatIn (λ_ _=>rfl) H]
theorem EncOk.rows{p:Q4}(H:KnQ T p):(tmaR (qj (encP T qs)) (idP T p)).length<=1048576:=by
 have e:=Ae List.length (h.tma H);rw[AG]at e;rw[e];exact AI (qka p qs) h.set.len
theorem EncOk.fin{q:Q4}(W:∀k,k<4->gat q k∈T\/gat q k=zTM):
  (∃i,tfin (qj (encP T qs)) (λk=>(noT T (gat q k):Int))=(i,true)/\qs[i]?=some q)\/((tfin (qj (encP T qs)) (λk=>(noT T (gat q k):Int))).2=false/\q∉qs):=by
 have H:∀k,k<4->(gat q k).kind≠4:=λk U=>by
  rcases W k U with g|g
  ·have:=(h.kinds _ g).2;omega
  ·rw[g];decide
 have eP:(λk=>(noT T (gat q k):Int))=λk=>(noT T (gat q k):Int):=rfl
 have Z:∀k,k<4->(λk=>(noT T (gat q k):Int)) k=idT T (gat q k):=(by grind [idT])
 have V:∀k,k<4->KnT T (gat q k):=λk U=>.inr (W k U)
 have hm:=qmb h.set.rise (λt ht=>(h.kinds t ht).1) h.gatIn Z V;have h3:vNum (qu (noQ T qs) qs.length) 3=qs.length:=by rw[h.set.tok.vNum Od,h.set.tok.all Oo]
 have hf:=qae6 (P:=λk=>(noT T (gat q k):Int)) h.set.tok h.set.tok.canD Oo (m:=3) (k:=0) rfl h.set.tok.winT;rw[h.set.tok.lvM_all,hm]at hf;obtain⟨aa,ad⟩:=q49 (qs:=qs) H;rw[h.t,tfin,h3,h.set.tok.vNum Od]
 grind
end
theorem q1a(T:List TM)(qs:List Q4)(h:EncOk T qs)(x pb vb tb:Nat)(p:Q4)(hp:qa5 p)(w:DU)(hX:IdxE w x pb vb tb (encP T qs))(hG:GlobS w):
  Gv Eg 21 [pp x,qy p] w λr w'=>r=ii ((qbd p qs).length:Nat)/\Ext w w':=by
 refine ze Tryz.func21 Tryz.ntmps21 ?_;refine znm (Mem.nil w) ?_;intro qb w1 H;have H:Mem w w1 [(qb,.cells (qf p).toArray 47)]:=H;(conv=>whnf);refine zl H 0 ?_;refine zcv (qq4 T qs h x p hp w1 (hX.ext H.ext).at_ (hG.ext H.ext).M (hG.ext H.ext).T) ?_;rintro r w2 ⟨rfl,ad⟩;replace H:=H.call ad
 by_cases W:KnQ T p
 case neg=>
  rw[qfa,Aa W];(conv=>whnf);refine znm H λib w3 H=>zw ?_;refine StoreA.all H (i:=0) rfl rfl Od λZ H=>zu ?_;exact⟨by rw[h.tmaN W];rfl,H.ext⟩
 rw[qfa,Ad W];(conv=>whnf);refine znm H λib w3 H=>zw ?_;refine zS H 0 ?_;clear H;intro Z H;have ae:Z.heap[ib]?=some (.cells #[ii (idP T p 0),ii (idP T p 1),ii (idP T p 2),ii (idP T p 3)] 95):=H.get mh;have hx:∀U,Ext Z.drew U->Ext w U:=λU V=>H.ext.trans ((Ext.refl Z).drew.trans V)
 refine zu ?_;refine DrawV.free Jk Jk (zw ?_);(iterate 3 (refine zd ?_));refine zsd (pp pb) (λU V=>zw ?_) (zw ?_)
 ·refine LoadV.of (hX.ext (hx U V)).c (zw ?_);exact xq
 refine zsd (pp tb) (λU V=>zw ?_) (zw ?_)
 ·refine zcv (qe7 pb tb _ _ _ _ _ U (hX.ext (hx U V)).b) ?_
  grind [Ext.refl]
 refine zsd (.agg #[ii (idP T p 0),ii (idP T p 1),ii (idP T p 2),ii (idP T p 3)]) (λU V=>zw ?_) (zw ?_)
 ·refine LoadA.own (Ext.get ((Ext.refl Z).drew.trans V) ae) rfl (zw ?_);exact xq
 refine zsd (ii ((qbd p qs).length:Nat)) (λU V=>zw ?_) (zw ?_)
 ·refine zcv (q1j tb (qj (encP T qs)) (idP T p) U (hX.ext (hx U V)).t h.vms (h.idX p) (h.rows W)) ?_;rintro r w5 ⟨rfl,aa⟩;exact⟨aa,by rw[h.cnt W]⟩
 refine zd ?_;intro w5 aa;conv=>whnf
 simp_all
theorem qabd(T:List TM)(qs:List Q4)(h:EncOk T qs)(x pb vb tb:Nat)(q:Q4)(hq:qa5 q)(w:DU)(hX:IdxE w x pb vb tb (encP T qs))(hG:GlobS w):
  Gv Eg 31 [pp x,qy q] w λr w'=>(∃b,r=.bool b/\(b=true↔q∈qs))/\Ext w w':=by
 obtain⟨F,bb,ev,hF⟩:∃(F:Nat->Nat) (bb:Bool),vidR T q=.tuple #[idsV F,.bool bb]/\((bb=true/\(∀k,k<4->gat q k∈T\/gat q k=zTM)/\F=λk=>noT T (gat q k))\/(bb=false/\¬ ∀k,k<4->gat q k∈T\/gat q k=zTM)):=by
  by_cases hK:∀k,k<4->gat q k∈T\/gat q k=zTM
  ·simp_all[vidR]
  ·exact⟨_,false,by rw[vidR,Aa hK],(by grind)⟩
 unfold idsV at ev;refine ze Tryz.func31 Tryz.ntmps31 ?_;refine znm (Mem.nil w) ?_;intro qb w1 U;have U:Mem w w1 [(qb,.cells (qf q).toArray 47)]:=U;(conv=>whnf);refine DrawV.gen (λS H w'=>Al w [(qb,.cells (qf q).toArray 47)] (.cells zq 95) (.cells #[ii (F 0:Nat),ii (F 1:Nat),ii (F 2:Nat),ii (F 3:Nat)] 95) (.cells zq 95) (.cells zq 95) (S 10) false (S 11) false (H 10) undef w') rfl Jk (λH=>Al.start U.drew) ?_;clear U;(conv=>whnf);(iterate 3 (refine zg ?_));refine StepG.of (pp pb) (λS H W hk hp V=>zw ?_) (zw ?_)
 ·refine LoadV.of (hX.ext V.mem.ext).c (zw ?_);exact⟨rfl,V⟩
 refine StepG.of (pp vb) (λS H W hk hp V=>zw ?_) (zw ?_)
 ·refine zcv (q0p pb vb _ _ _ _ _ W (hX.ext V.mem.ext).b) ?_;rintro r w5 ⟨rfl,rfl⟩;exact⟨rfl,V⟩
 refine StepG.of (qy q) (λS H W hk hp V=>zw ?_) (zw ?_)
 ·refine LoadA.own (V.mem.get (Ak.2 rfl)) rfl (zw ?_);exact⟨rfl,V⟩
 refine StepG.of (.tuple #[.agg #[ii (F 0:Nat),ii (F 1:Nat),ii (F 2:Nat),ii (F 3:Nat)],.bool bb]) (λS H W hk hp V=>?_) (zw ?_)
 ·have hv:=(hX.ext V.mem.ext).v;rw[h.v]at hv;(conv=>whnf);refine zcv (q7n T h.voc h.set.rise h.kinds h.term vb q hq W hv (hG.ext V.mem.ext).M (hG.ext V.mem.ext).T) ?_;rintro r w5 ⟨rfl,aa⟩;exact⟨ev,V.call aa⟩
 (iterate 3 (refine zg ?_));refine StepG.any (λS H W hk hp V=>?_) (zw ?_)
 ·dsimp only at V;rw[hk]at V;(conv=>whnf);refine⟨λx wx hb hw=>?_⟩;subst hb hw;(conv=>whnf);exact⟨trivial,V.new1⟩
 refine StepG.of undef (λS H W hk hp V=>?_) (zw ?_)
 ·dsimp only at V;have ad:S 10=true:=hp 10 Od;rw[hk,ad]at V;obtain⟨b,hv,M,ae,hK⟩:=V.put1;rw[qp hv];(conv=>whnf);refine zS ae 0 λwx af=>zw ?_;exact⟨rfl,by show Al _ _ _ _ _ _ (S 10) _ true _ _ _ _;rw[ad];exact hK af rfl⟩
 refine zg ?_;intro H w3 V;obtain⟨nb,hv,U⟩:=V.done1;rw[qp hv];clear V hv;conv=>whnf
 rcases hF with⟨rfl,hK,hF⟩|⟨rfl,hK⟩
 case inr=>
  refine zu ?_;refine⟨⟨false,rfl,Js,λg=>absurd (h.gatIn q g) hK⟩,U.ext⟩
 have ag:w3.heap[nb]?=some (.cells #[ii (F 0:Nat),ii (F 1:Nat),ii (F 2:Nat),ii (F 3:Nat)] 95):=U.get mh;have aj:w3.heap[qb]?=some (.cells (qf q).toArray 47):=U.get (zmc (Ak.2 rfl));have hx:∀W,Ext w3.drew W->Ext w3 W:=λW hd=>(Ext.refl w3).drew.trans hd
 have Z:=h.fin hK;rw[show(λk=>(noT T (gat q k):Int))=λk=>(F k:Int)by rw[hF]]at Z;obtain⟨R,eR⟩:∃R,R=tfin (qj (encP T qs)) λk=>(F k:Int):=⟨_,rfl⟩
 rw[<-eR]at Z;obtain⟨i,bf⟩:=R;refine zu ?_;refine DrawV.free Jk Jk (zw ?_);(iterate 3 (refine zd ?_));refine zsd (pp pb) (λW hd=>zw ?_) (zw ?_)
 ·refine LoadV.of (hX.ext (U.ext.trans (hx W hd))).c (zw ?_);exact xq
 refine zsd (pp tb) (λW hd=>zw ?_) (zw ?_)
 ·refine zcv (qe7 pb tb _ _ _ _ _ W (hX.ext (U.ext.trans (hx W hd))).b) ?_
  grind [Ext.refl]
 refine zsd (.agg #[ii (F 0:Nat),ii (F 1:Nat),ii (F 2:Nat),ii (F 3:Nat)]) (λW hd=>zw ?_) (zw ?_)
 ·refine LoadA.own (Ext.get (hx W hd) ag) rfl (zw ?_);exact xq
 refine zsd (.tuple #[ii (i:Nat),.bool bf]) (λW hd=>zw ?_) (zw ?_)
 ·refine zcv (q60 tb (qj (encP T qs)) (λk=>(F k:Int)) W (hX.ext (U.ext.trans (hx W hd))).t h.vms) ?_
  grind
 (iterate 5 (refine zd ?_));intro w4 ah;replace U:=U.drew.call ah
 rcases Z with⟨i',e1,hi⟩|⟨e1,ak⟩
 case inr=>
  dsimp only at e1;subst e1;refine zu ?_;exact⟨(by grind),U.ext⟩
 injection e1 with e1 e2
 subst e1 e2;have al:=(Af.1 hi).1;have ai:=h.set.len;refine zu ?_;refine LoadV.of (hX.ext U.ext).c (zw ?_);refine zcv (qs7 pb (encP T qs) i w4 (hX.ext U.ext).pk Oo (hG.ext U.ext).M (hG.ext U.ext).T (hG.ext U.ext).K) ?_;rintro r w5 ⟨rfl,aa⟩;replace U:=U.call aa;rw[h.pq hi];(conv=>whnf);refine znm U λob w6 U=>zw ?_;refine StoreA.all (vs:=qf q) U (i:=0) rfl rfl (qb1 q) λw7 U=>zu ?_;refine LoadA.mem (cs:=(qf q).toArray) U (i:=0) rfl rfl (zu ?_);refine LoadA.mem (cs:=(qf q).toArray) U (i:=2) rfl rfl (zu ?_);refine RunV.eqQd (a:=q) (b:=q) ?_;rw[show qdx q q=true from(qmz).2 rfl];refine zu ?_;exact⟨(by grind),U.ext⟩
theorem qp3(s p:DV)(w:DU):Gv Eg 134 [.string s,.string p] w λr w'=>r=.bool (hasP s p)/\w'=w:=by
 have H:Gv Eg 211 [.string s,.string p] w λr w'=>r=.bool (hasP s p)/\w'=w:=by
  rcases Bj s.size p.size with h|h
  ·have e:hasP s p=false:=by rw[hasP,AM (Nat.not_le_of_lt h)];rfl
   rw[e];refine ze Tryz.func211 Tryz.ntmps211 ?_;refine zv ?_;exact⟨rfl,rfl⟩
  ·have e:hasP s p=seq (s.extract 0 p.size) p:=by rw[hasP,AE h];rfl
   rw[e];refine ze Tryz.func211 Tryz.ntmps211 ?_;refine zv ?_;refine SliceS.at_ 0 p.size rfl rfl (Ag _) h (zu ?_);exact⟨rfl,rfl⟩
 refine ze Tryz.func134 Tryz.ntmps134 ?_;refine zcv (H) ?_;rintro r U ⟨rfl,rfl⟩;(conv=>whnf);exact⟨rfl,rfl⟩
theorem q0v(q:Q4)(w:DU):Gv Eg 199 [qy q] w λr w'=>r=qv q.s/\Ext w w':=by
 refine ze Tryz.func199 Tryz.ntmps199 ?_;refine znm (Mem.nil w) ?_;intro U W H;have V:CellsAt W U 0 (qf q):=CellsAt.mem H (Ak.2 rfl);(conv=>whnf);refine znm H ?_;clear H;intro rb Z H;have V:CellsAt Z U 0 (qf q):=CellsAt.mem H (zmc (Ak.2 rfl));(conv=>whnf);refine LoadA.cells (qm V 0 Oo) rfl (zw ?_);refine zS H 0 λw3 H=>zw ?_;refine qi (R:=λr w'=>r=qv q.s/\Ext w w') (zw ?_);refine zl H 0 ?_;exact⟨rfl,H.ext⟩
theorem q0w(q:Q4)(w:DU):Gv Eg 200 [qy q] w λr w'=>r=qv q.p/\Ext w w':=by
 refine ze Tryz.func200 Tryz.ntmps200 ?_;refine znm (Mem.nil w) ?_;intro U W H;have V:CellsAt W U 0 (qf q):=CellsAt.mem H (Ak.2 rfl);(conv=>whnf);refine znm H ?_;clear H;intro rb Z H;have V:CellsAt Z U 0 (qf q):=CellsAt.mem H (zmc (Ak.2 rfl));(conv=>whnf);refine LoadA.cells (qm V 1 Oo) rfl (zw ?_);refine zS H 0 λw3 H=>zw ?_;refine qi (R:=λr w'=>r=qv q.p/\Ext w w') (zw ?_);refine zl H 0 ?_;exact⟨rfl,H.ext⟩
theorem q0x(q:Q4)(w:DU):Gv Eg 201 [qy q] w λr w'=>r=qv q.o/\Ext w w':=by
 refine ze Tryz.func201 Tryz.ntmps201 ?_;refine znm (Mem.nil w) ?_;intro U W H;have V:CellsAt W U 0 (qf q):=CellsAt.mem H (Ak.2 rfl);(conv=>whnf);refine znm H ?_;clear H;intro rb Z H;have V:CellsAt Z U 0 (qf q):=CellsAt.mem H (zmc (Ak.2 rfl));(conv=>whnf);refine LoadA.cells (qm V 2 Oo) rfl (zw ?_);refine zS H 0 λw3 H=>zw ?_;refine qi (R:=λr w'=>r=qv q.o/\Ext w w') (zw ?_);refine zl H 0 ?_;exact⟨rfl,H.ext⟩
theorem q0y(q:Q4)(w:DU):Gv Eg 202 [qy q] w λr w'=>r=qv q.g/\Ext w w':=by
 refine ze Tryz.func202 Tryz.ntmps202 ?_;refine znm (Mem.nil w) ?_;intro U W H;have V:CellsAt W U 0 (qf q):=CellsAt.mem H (Ak.2 rfl);(conv=>whnf);refine znm H ?_;clear H;intro rb Z H;have V:CellsAt Z U 0 (qf q):=CellsAt.mem H (zmc (Ak.2 rfl));(conv=>whnf);refine LoadA.cells (qm V 3 Oo) rfl (zw ?_);refine zS H 0 λw3 H=>zw ?_;refine qi (R:=λr w'=>r=qv q.g/\Ext w w') (zw ?_);refine zl H 0 ?_;exact⟨rfl,H.ext⟩
def PlF(pl:Int)(g:FuncId):Prop:=∀q w,Gv Eg g [qy q] w λr w'=>r=qv (plT pl q)/\Ext w w'
def RchR(pl:Int)(v:DZ):Prop:=
 (plOk pl=false/\v=.tuple #[.agg #[.nilFunc],.bool false])\/(plOk pl=true/\∃g,v=.tuple #[.agg #[.func (.func g) #[] #[]],.bool true]/\PlF pl g)
theorem qtb(pl:Int)(w:DU):Gv Eg 122 [ii pl] w λr w'=>RchR pl r/\Ext w w':=by
 refine ze Tryz.func122 Tryz.ntmps122 ?_;refine znm (Mem.nil w) λrb w1 H=>zw ?_;refine znm H ?_;clear H;intro ab w2 H
 rcases BW (plOk pl=true)with W|W
 case inr=>
  replace W:plOk pl=false:=by simpa using W
  have hn:=q5t.1 W
  rcases DH pl 0 with h0|h0
  all_goals
   refine zu ?_;refine zS H 1 λZ H=>zw ?_;refine qi (R:=λr w'=>RchR pl r/\Ext w w') (zw ?_);refine zl H 1 ?_;exact⟨.inl ⟨W,rfl⟩,H.ext⟩
 have aa:=qyr.1 W;obtain⟨k,rfl⟩:∃k:Nat,pl=(k:Int):=⟨pl.toNat,by omega⟩
 have hk:k<4:=by omega
 have U:∀g,(∀q w,Gv Eg g [qy q] w λr w'=>r=qv (q.at k)/\Ext w w')->PlF (k:Int) g:=λg hg q w=>hg q w
 refine zu ?_;refine ElemV.own1 k rfl Oo ?_
 match k,hk with
 | 0,_=>
  (conv=>whnf);refine LoadA.part (vs:=[.func (.func 199) #[] #[]]) (H.get mh) rfl (λi hi=>by have V:i<1:=hi;obtain rfl:i=0:=(by omega);rfl) (zw ?_);refine zS H 1 λZ H=>zw ?_;refine qi (R:=λr w'=>RchR ((0:Nat):Int) r/\Ext w w') (zw ?_);refine zl H 1 ?_;exact⟨.inr ⟨rfl,_,rfl,U _ q0v⟩,H.ext⟩
 | 1,_=>
  (conv=>whnf);refine LoadA.part (vs:=[.func (.func 200) #[] #[]]) (H.get mh) rfl (λi hi=>by have V:i<1:=hi;obtain rfl:i=0:=(by omega);rfl) (zw ?_);refine zS H 1 λZ H=>zw ?_;refine qi (R:=λr w'=>RchR ((1:Nat):Int) r/\Ext w w') (zw ?_);refine zl H 1 ?_;exact⟨.inr ⟨rfl,_,rfl,U _ q0w⟩,H.ext⟩
 | 2,_=>
  (conv=>whnf);refine LoadA.part (vs:=[.func (.func 201) #[] #[]]) (H.get mh) rfl (λi hi=>by have V:i<1:=hi;obtain rfl:i=0:=(by omega);rfl) (zw ?_);refine zS H 1 λZ H=>zw ?_;refine qi (R:=λr w'=>RchR ((2:Nat):Int) r/\Ext w w') (zw ?_);refine zl H 1 ?_;exact⟨.inr ⟨rfl,_,rfl,U _ q0x⟩,H.ext⟩
 | 3,_=>
  (conv=>whnf);refine LoadA.part (vs:=[.func (.func 202) #[] #[]]) (H.get mh) rfl (λi hi=>by have V:i<1:=hi;obtain rfl:i=0:=(by omega);rfl) (zw ?_);refine zS H 1 λZ H=>zw ?_;refine qi (R:=λr w'=>RchR ((3:Nat):Int) r/\Ext w w') (zw ?_);refine zl H 1 ?_;exact⟨.inr ⟨rfl,_,rfl,U _ q0y⟩,H.ext⟩
structure SbeΦ(x pb vb tb:Nat)(T:List TM)(qs:List Q4)(p:Q4)(pl:Int)(pre:DV)(b1 b2 b3 b4:Nat)(w:DU):Prop where
 X:IdxE w x pb vb tb (encP T qs)
 G:GlobS w
 c1:w.cell? ⟨b1,0,none⟩=some (pp x)
 c2:CellsAt w b2 0 (qf p)
 c3:w.cell? ⟨b3,0,none⟩=some (ii pl)
 c4:w.cell? ⟨b4,0,none⟩=some (.string pre)
theorem qv0(x:Nat)(p:Q4)(pl:Int)(pre:DV)(w:DU):Gv Eg 64 [pp x,qy p,ii pl,.string pre] w λr w'=>
  ∃b1 b2 U V,r=.func (.func 133) #[] #[pp U,pp b1,pp b2,pp V]/\
   Mem w w' [(V,.cells #[.string pre] 9),(U,.cells #[ii pl] 3),(b2,.cells (qf p).toArray 47),(b1,.cells #[pp x] 26)]:=by
 refine ze Tryz.func64 Tryz.ntmps64 ?_;refine znm (Mem.nil w) λb1 W H=>zw ?_;refine znm H λb2 Z H=>zw ?_;refine znm H λU w3 H=>zw ?_;refine znm H λV w4 H=>zw ?_;exact⟨b1,b2,U,V,rfl,H⟩
theorem qv1(T:List TM)(qs:List Q4)(h:EncOk T qs)(x pb vb tb:Nat)(p:Q4)(hp:qa5 p)(pl:Int)(pre:DV)(b1 b2 b3 b4:Nat):
  SeqC Eg 133 [pp b3,pp b1,pp b2,pp b4] ((begL pl pre p qs).map (sRow qs)) (SbeΦ x pb vb tb T qs p pl pre b1 b2 b3 b4):=by
 intro y I Ix w H Z hI W hy;have aa:((begL pl pre p qs).map (sRow qs)).length=(begL pl pre p qs).length:=AG ..;refine gvW Jk Tryz.func133 rfl Tryz.ntmps133 rfl (zw ?_);refine NewV.carr (H 0) W λyb w1 W=>zw ?_;refine LoadV.of (hI _ _ _ W).c3 (zw ?_);refine zcv (qtb pl w1) ?_;rintro r w2 ⟨hr,ao⟩;replace W:=(H 0).ext W ao
 rcases hr with⟨ad,rfl⟩|⟨ad,g,rfl,hg⟩
 case inl=>
  (conv=>whnf);refine NewV.carr (H 0) W λab w3 W=>zw ?_;refine StoreA.carr (H 0) (A:=[]) W rfl (by simp[Value.oneCell']) λw4 W=>zu ?_;refine .inl ?_;rw[aa,qaea pre p qs ad];exact(H 0).drop ((H 0).drop W)
 (conv=>whnf);refine NewV.carr (H 0) W λab w3 W=>zw ?_;refine StoreA.carr (H 0) (A:=[]) W rfl (by simp[Value.oneCell']) λw4 W=>zu ?_;refine LoadV.of (hI _ _ _ W).c1 (zw ?_);refine LoadA.cells (hI _ _ _ W).c2 rfl (zw ?_);refine zcv (qjy x p w4) ?_;rintro r w5 ⟨c1,c2,rfl,aq⟩;replace W:=(H 0).call W aq;obtain⟨f,ef⟩:∃f:Nat->Bool,f=λi=>plOk pl&&begQ pl pre (qs.getD i zQ):=⟨_,rfl⟩
 obtain⟨M,eM⟩:∃M,M=qbd p qs:=⟨_,rfl⟩
 have eB:begL pl pre p qs=M.filter f:=by rw[begL,eM,ef]
 rw[eB]at aa hy|-;obtain⟨L,hL⟩:∃L:Ed,L=[(c2,.cells (qf p).toArray 47),(c1,.cells #[pp x] 26),(ab,.cells #[.func (.func g) #[] #[]] 233),(yb,.cells #[.func (.yield y) #[] #[]] 150)]:=⟨_,rfl⟩
 have U:I 0 ([]++L) w5:=by rw[hL];exact W
 clear W;have ah:(c1,Obj.cells #[pp x] 26)∈L:=by rw[hL];simp
 have ai:(c2,Obj.cells (qf p).toArray 47)∈L:=by rw[hL];simp
 have aj:(ab,Obj.cells #[.func (.func g) #[] #[]] 233)∈L:=by rw[hL];simp
 have ak:(yb,Obj.cells #[.func (.yield y) #[] #[]] 150)∈L:=by rw[hL];simp
 have ar:(M.map (sRow qs)).length=M.length:=AG ..;have au:∀{k:Nat} {X:Ed} {w':DU},I k (X++L) w'->w'.heap[ab]?=some (.cells #[.func (.func g) #[] #[]] 233):=λhh=>(H _).get hh (Ac _ aj)
 have av:∀{k:Nat} {X:Ed} {w':DU},I k (X++L) w'->w'.heap[yb]?=some (.cells #[.func (.yield y) #[] #[]] 150):=λhh=>(H _).get hh (Ac _ ak)
 have U:I (cntB f M 0) ([]++L) w5:=U;(conv=>whnf);refine q5x (Φ:=SmaΦ x pb vb tb T qs p c1 c2) (lb:=[pp c1,pp c2]) (xs:=M.map (sRow qs)) rfl Jk (by rw[eM];exact qjz T qs h x pb vb tb p hp (h.idX p) c1 c2) Od ?_
  (λk X w'=>I (cntB f M k) (X++L) w') (λc k X w'=>(c=.ret/\cntB f M k<(M.filter f).length)/\Ix (cntB f M k) (X++L) w')
  (λk=>(H _).tail _) (λc k=>Carr.and ((Z _).tail _))
  (λk X w' hh=>⟨(hI _ _ _ hh).X,(hI _ _ _ hh).G,by rw[qa ((H _).get hh (Ac _ ah))];rfl,λj v hv=>by rw[qa ((H _).get hh (Ac _ ai)),As,An];exact hv⟩) U ?_ ?_ ?_
 ·intro r hr;obtain⟨j,_,rfl⟩:=AF.1 hr;rfl
 ·rintro l2 D oa od k r X w6 hr U;rw[Ao]at hr;cases V:M[k]? with
  | none=>rw[V]at hr;cases hr
  | some i=>
  rw[V,Bd,AR]at hr;subst hr;obtain⟨q,eq⟩:∃q,qs.getD i zQ=q:=⟨_,rfl⟩
  have ae:f i=begQ pl pre q:=by rw[ef];dsimp only;rw[ad,eq];rfl
  rw[show sRow qs i=[ii i,qy q]by rw[sRow,eq]];(conv=>whnf);refine NewV.carr (H _) U λnb w8 U=>zw ?_;refine StoreA.carr (vs:=qf q) (H _) (A:=[]) U rfl (qb1 q) λw9 U=>zw ?_;refine⟨rfl,(nb,.cells (qf q).toArray 47)::(D,.deferred (some []))::X,(H _).perm U (List.Perm.swap _ _ _),?_⟩;clear U;intro w9 U;have aw:=(H _).get U (zmc mh);(conv=>whnf);refine LoadV.own (au U) rfl (zw ?_);refine LoadA.own aw rfl (zw ?_);refine zcv (hg q w9) ?_;rintro r a0 ⟨rfl,al⟩;replace U:=(H _).ext U al;obtain⟨t,et⟩:∃t,t=plT pl q:=⟨_,rfl⟩
  rw[<-et];(conv=>whnf);refine NewV.carr (H _) U λa1 a2 U=>zw ?_;refine StoreA.carr (vs:=encT t) (H _) (A:=[]) U rfl (q9 t) ?_;clear U;intro ax U;have am:=(H _).get U mh;(conv=>whnf);refine LoadV.own am rfl ?_
  rcases BW (t.kind=1)with hk|hk
  case inr=>
   have e:=q2o V (show f i=false by rw[ae];rw[begQ,<-et,AM hk];rfl);refine zu ?_;show I (cntB f M (k+1)) _ _;rw[e];exact(H _).dropM (A:=[(l2,od)]) ((H _).drop U)
  refine zu ?_;refine LoadV.own am rfl (zu ?_);refine LoadV.of (hI _ _ _ U).c4 (zu ?_);refine zcv (qp3 t.text pre ax) ?_;rintro r ay ⟨rfl,rfl⟩;cases hs:hasP t.text pre
  case false=>
   have e:=q2o V (show f i=false by rw[ae];rw[begQ,<-et,hs,Dp]);refine zu ?_;show I (cntB f M (k+1)) _ _;rw[e];exact(H _).dropM (A:=[(l2,od)]) ((H _).drop U)
  have af:f i=true:=by rw[ae];rw[begQ,<-et,hs,AE hk];rfl
  have e:=q8t V af;have an:=qxm V af;have ag:=qaes V af;refine zu ?_;refine LoadV.own (av ((H _).drop U)) rfl (zu ?_);refine LoadA.own ((H _).get U (zmc (zmc mh))) rfl (zu ?_);have az:((M.filter f).map (sRow qs))[cntB f M k]?=some [ii i,qy q]:=by
   rw[Ao,an,Bd,sRow,eq]
  refine YieldV.mono (hy _ _ _ ay az U) ?_;clear U;rintro v a3 (⟨rfl,U⟩|⟨rfl,hX⟩)
  ·refine zu ?_;show I (cntB f M (k+1)) _ _;rw[e];exact(H _).dropM (A:=[(l2,od)]) ((H _).drop U)
  ·refine zu ?_;exact⟨⟨rfl,ag⟩,(Z _).dropM (A:=[(l2,od)]) ((Z _).drop hX)⟩
 ·rintro D w6 U;rw[ar,q8s]at U;(conv=>whnf);refine LeaveV.marks (J:=λX w'=>I (M.filter f).length X w') (H _) ?_ (D:=D) (Ds:=[]) ((H _).dropL ((H _).perm U Au));intro w' h';(conv=>whnf);exact .inl (by rw[aa];exact h')
 ·rintro D c k w6 hk ⟨⟨rfl,ag⟩,hX⟩;(conv=>whnf);refine LeaveV.marks (J:=λX w'=>Ix (cntB f M k) X w') (Z _) ?_ (D:=D) (Ds:=[]) ((Z _).dropL ((Z _).perm hX Au));intro w' h';(conv=>whnf);exact .inr ⟨cntB f M k,by rw[aa];exact ag,h'⟩
abbrev TN:=TM×Nat
def meT(i:Nat)(e:TN):MapEntry:=⟨qv e.1,ii e.2,i⟩
def mpO(l:List TN):Obj:=.map (l.mapIdx meT).toArray l.length
def ixL(t:TM):List TN->Nat
 | []=>0
 | e::l=>if qaj t e.1=true then 0 else ixL t l+1
def cnL(t:TM):List TN->Nat
 | []=>0
 | e::l=>if qaj t e.1=true then e.2 else cnL t l
def adL(t:TM):List TN->List TN
 | []=>[(t,0)]
 | e::l=>if qaj t e.1=true then e::l else e::adL t l
def icT(t:TM):List TN->List TN
 | []=>[(t,1)]
 | e::l=>if qaj t e.1=true then(e.1,e.2+1)::l else e::icT t l
theorem q34(t:TM):∀l:List TN,ixL t l<=l.length
 | []=>Ai _
 | e::l=>by
  have:=q34 t l;rw[ixL]
  split<;>simp<;>omega
theorem qw1{t:TM}:∀{l:List TN},ixL t l<l.length->adL t l=l
 | [],h=>(by grind)
 | e::l,h=>by
  rw[ixL]at h;rw[adL]
  split
  ·rfl
  ·rename_i H
   rw[Aa H]at h;rw[qw1 (by simpa using h)]
theorem qo9{t:TM}:∀{l:List TN},¬ixL t l<l.length->adL t l=l++[(t,0)]
 | [],_=>rfl
 | e::l,h=>by
  rw[ixL]at h;rw[adL]
  split
  ·rename_i H
   rw[Ad H]at h;exact absurd (D0 _) h
  ·rename_i H
   rw[Aa H]at h;rw[qo9 (by simpa using h)];rfl
theorem qu1{t:TM}{l:List TN}(h:¬ixL t l<l.length):ixL t l=l.length:=by grind [q34]
theorem qph{t:TM}:∀{l:List TN},¬ixL t l<l.length->cnL t l=0
 | [],_=>rfl
 | e::l,h=>by
  rw[ixL]at h;rw[cnL]
  split
  ·rename_i H
   rw[Ad H]at h;exact absurd (D0 _) h
  ·rename_i H
   rw[Aa H]at h;exact qph (by simpa using h)
theorem q33{t:TM}:∀{l:List TN},ixL t l<l.length->l[ixL t l]?=some (t,cnL t l)
 | [],h=>(by grind)
 | e::l,h=>by
  rw[ixL]at h;rw[ixL,cnL]
  split
  ·rename_i H
   rw[q6.1 H];rfl
  ·rename_i H
   rw[Aa H]at h;rw[BR];exact q33 (by simpa using h)
theorem qail(t:TM)(l:List TN):ixL t l<(adL t l).length:=by
 grind [qw1,qo9,qu1]
theorem qacy(t:TM):∀l:List TN,icT t l=(adL t l).set (ixL t l) (t,cnL t l+1)
 | []=>rfl
 | e::l=>by
  rw[icT,adL,ixL,cnL]
  split
  ·rename_i H
   rw[q6.1 H];rfl
  ·rw[qacy t l];rfl
theorem qaci(t:TM):∀l:List TN,cnL t (adL t l)=cnL t l
 | []=>by rw[adL];simp[cnL]
 | e::l=>by
  rw[adL]
  split
  ·rfl
  ·rename_i H
   rw[cnL,cnL,Aa H,Aa H,qaci t l]
theorem qacz(t:TM):∀l:List TN,cnL t (icT t l)=cnL t l+1
 | []=>by
  grind [q6,icT,cnL]
 | e::l=>by
  rw[icT]
  split
  ·rename_i H
   rw[cnL,cnL,Ad H,Ad H]
  ·rename_i H
   rw[cnL,cnL,Aa H,Aa H,qacz t l]
theorem q2n{t:TM}:∀{l:List TN},(∀e∈l,1<=e.2)->(cnL t l=0↔t∉l.map (·.1))
 | [],_=>by simp[cnL]
 | e::l,h=>by
  rw[cnL]
  split
  ·rename_i H
   have:=h e mh;rw[q6.1 H];simp only[AK,AB,true_or,not_true,iff_false];omega
  ·rename_i H
   rw[q2n (λx U=>h x (zmc U))];simp only[AK,AB,not_or];exact⟨λg=>⟨λV=>H (q6.2 V),g⟩,λg=>g.2⟩
theorem q3x{t:TM}:∀{l:List TN},(∀e∈l,1<=e.2)->∀e∈icT t l,1<=e.2
 | [],_=>by simp[icT]
 | e::l,h=>by
  rw[icT]
  split
  ·grind
  ·intro x H
   rcases AB.1 H with rfl|H
   ·exact h _ mh
   ·exact q3x (λy U=>h y (zmc U)) x H
open Classical in
theorem qx4(t:TM):∀l:List TN,(icT t l).map (·.1)=if t∈l.map (·.1)then l.map (·.1)else l.map (·.1)++[t]
 | []=>by simp[icT]
 | e::l=>by
  rw[icT]
  split
  ·rename_i U
   rw[q6.1 U];simp
  ·rename_i U
   have V:t≠e.1:=λW=>U (q6.2 W)
   rw[AK,qx4 t l]
   by_cases H:t∈l.map (·.1)
   ·rw[Ad H,AK,Ad (zmc H)]
   ·rw[Aa H,Aa (by rw[AK,AB,not_or];exact⟨V,H⟩)];rfl
theorem q3y(t:TM):∀l:List TN,((icT t l).map (·.2)).sum=(l.map (·.2)).sum+1
 | []=>rfl
 | e::l=>by
  rw[icT]
  split
  ·simp only[AK,DN];omega
  ·rw[AK,DN,q3y t l];simp only[AK,DN];omega
theorem qacp(t:TM):∀l:List TN,cnL t l<=(l.map (·.2)).sum
 | []=>Ai _
 | e::l=>by
  have:=qacp t l;rw[cnL,AK,DN]
  split<;>omega
theorem mapK:Eg.underlying 236=some (.map 45 3):=by kernel_rfl
theorem qy6(t:TM)(b:Bool)(d:Nat)(w:DU):(Instr.checkKey b (d+2) 45 (qv t)).run Eg w=.ok () w:=by
 have H:=Tryz.underlying3;have U:=Tryz.isAgg3;have V:=Tryz.sizeOf3;have W:=Tryz.underlying9;have Z:=Tryz.isAgg9;have z9:=Tryz.sizeOf9;simp only[qv,Instr.checkKey];simp only[Sem.run_bind,run_underlying Tryz.underlying45,Result.andThen_ok];rw[<-Array.forIn_toList];simp only[List.forIn_cons,List.forIn_nil]
 go_simp
theorem qahb(a b:TM)(w:DU):(Op.equal 45 (qv a) (qv b)).run Eg w=.ok (qaj a b) w:=qaz 9998 a b w
theorem qy5(t:TM)(w:DU):∀(l:List TN) (es:List MapEntry) (i:Nat),(∀(j:Nat) e,l[j]?=some e->∃b,es[j]?=some ⟨qv e.1,ii e.2,b⟩)->es.length=l.length->
  (Instr.findAsking 45 (qv t) es i).run Eg w=.ok (if ixL t l<l.length then some (i+ixL t l,ii (cnL t l))else none) w
 | [],es,i,_,H=>by
  simp_all[Instr.findAsking]
 | e::l,[],i,_,H=>by simp at H
 | e::l,x::es,i,h,H=>by
  obtain⟨b,U⟩:=h 0 e rfl;rw[AT,AR]at U;subst U;have W:=qy5 t w l es (i+1) (λj y V=>h (j+1) y V) (by simpa using H);rw[Instr.findAsking,Sem.run_bind,qahb,Result.andThen_ok,ixL,cnL];cases Z:qaj t e.1
  ·grind
  ·simp
theorem qh8(l:List TN)(j:Nat):(l.mapIdx meT)[j]?=(l[j]?).map (meT j):=List.getElem?_mapIdx
theorem qtl(t:TM)(l:List TN)(w:DU):(Instr.findKey 45 (qv t) (l.mapIdx meT)).run Eg w=.ok (if ixL t l<l.length then some (ixL t l,ii (cnL t l))else none) w:=by
 have H:=qy5 t w l (l.mapIdx meT) 0 (λj e U=>⟨j,by rw[qh8,U];rfl⟩) Js;rw[As]at H;rw[Instr.findKey,Sem.run_bind,run_underlying Tryz.underlying45,Result.andThen_ok];cases V:l with
 | nil=>rfl
 | cons e W=>
  rw[V]at H;have Z:∀d:Array Field,Instr.findNow (.struct d) (qv t) ((e::W).mapIdx meT) 0=none:=λd=>by
   rw[List.mapIdx_cons,Instr.findNow];rfl
  simp_all
theorem ql0{l:List TN}(h:w.heap[r]?=some (mpO l)):(getObj r).run Eg w=.ok (.map (l.mapIdx meT).toArray l.length) w:=by
 simp[getObj,Sem.run,h,mpO]
theorem qm4{l:List TN}(o:Obj)(h:w.heap[r]?=some (mpO l)):(setObj r o).run Eg w=.ok () (setO w r o):=by
 simp[setObj,Sem.run,h,setO,mpO]
theorem qaih(w:DU):(zeroValue 3).run Eg w=.ok (ii 0) w:=by kernel_rfl
theorem qtm(t:TM)(l:List TN)(r:Nat)(w:DU)(h:w.heap[r]?=some (mpO l)):(Instr.lookup 236 (.map (some r)) (qv t) false).run Eg w=.ok (ii (cnL t l)) w:=by
 rw[Instr.lookup,Sem.run_bind,run_underlying mapK,Result.andThen_ok];simp only[Sem.run_bind,ql0 h,Result.andThen_ok,Sem.run_pure];rw[show(10000:Nat)=9998+2 from rfl,qy6,Result.andThen_ok,qtl,Result.andThen_ok]
 by_cases hi:ixL t l<l.length
 ·simp_all
 ·rw[Aa hi,qph hi];simp
theorem q6e(t:TM)(n:Nat):Instr.sameBits (n+1) (qv t) (qv t)=true:=by
 simp[beq_toListBytes,qv,Instr.sameBits]
theorem q06(t:TM)(w:DU):(Instr.keyThatStays (qv t) (qv t)).run Eg w=.ok (qv t) w:=by
 simp[Instr.keyThatStays,q6e]
theorem qu9(l:List TN)(i:Nat)(t:TM)(n:Nat)(h:l[i]?=some (t,n)):(l.mapIdx meT).toArray.modify i (λe=>{ e with key:=qv t })=(l.mapIdx meT).toArray:=by
 apply Array.ext_getElem?;intro j;rw[Dx]
 split
 ·rename_i e
  subst e;rw[An,qh8,h];rfl
 ·rfl
theorem qaau(l:List TN)(t:TM)(n:Nat):(l.mapIdx meT).toArray.push ⟨qv t,ii n,l.length⟩=((l++[(t,n)]).mapIdx meT).toArray:=by
 grind [meT]
theorem qaa1(t:TM)(l:List TN)(r:Nat)(w:DU)(h:w.heap[r]?=some (mpO l)):(Instr.mapEntry 236 (.map (some r)) (qv t)).run Eg w=.ok (.tuple #[ii (cnL t l),ii (ixL t l)]) (setO w r (mpO (adL t l))):=by
 rw[Instr.mapEntry,Sem.run_bind,run_underlying mapK,Result.andThen_ok];simp only[Sem.run_bind,ql0 h,Result.andThen_ok];rw[show(10000:Nat)=9998+2 from rfl,qy6,Result.andThen_ok,qtl,Result.andThen_ok]
 by_cases hi:ixL t l<l.length
 ·have H:=q33 hi;have U:(l.mapIdx meT).toArray[ixL t l]?=some (meT (ixL t l) (t,cnL t l)):=by simp_all
  rw[Ad hi];simp only[U,Bd,Cd];rw[show(meT (ixL t l) (t,cnL t l)).key=qv t from rfl,Sem.run_bind,q06,Result.andThen_ok,Sem.run_bind,qu9 l _ t _ H,qm4 _ h,Result.andThen_ok,qw1 hi];rfl
 ·rw[Aa hi];simp only[Sem.run_bind,qaih,Result.andThen_ok];rw[qm4 _ h,Result.andThen_ok,qo9 hi,qph hi,qu1 hi];have:=qaau l t 0
  simp_all[mpO,goInt]
theorem q3d(l:List TN)(i:Nat)(h:i<l.length):(l.mapIdx meT).toArray.findIdx? (λe=>(e.born:Int)==(i:Int))=some i:=by
 grind [Array.findIdx?_eq_some_iff_getElem,meT]
theorem q0e(l:List TN)(i:Nat)(t:TM)(n m:Nat)(h:l[i]?=some (t,n)):(l.mapIdx meT).toArray.modify i (λe=>{ e with val:=ii m })=((l.set i (t,m)).mapIdx meT).toArray:=by
 have hi:=(Af.1 h).1;apply Array.ext_getElem?;intro j;rw[Dx,An,An,qh8,qh8,Cr]
 split
 ·rename_i e
  subst e;rw[h];rfl
 ·rfl
theorem qaik(t:TM)(l:List TN):(adL t l)[ixL t l]?=some (t,cnL t l):=by
 grind [qw1,q33,qo9,qu1,qph]
theorem qaa2(t:TM)(l:List TN)(r:Nat)(w:DU)(h:w.heap[r]?=some (mpO (adL t l))):(Instr.entryStore 236 (.map (some r)) (ii (ixL t l)) (ii ((cnL t l:Int)+1))).run Eg w=.ok () (setO w r (mpO (icT t l))):=by
 have H:=qail t l;rw[Instr.entryStore];simp only[Sem.run_bind,ql0 h,Result.andThen_ok];have U:(asInt (ii (ixL t l:Nat))).run Eg w=.ok ((ixL t l:Nat):Int) w:=by
  rfl
 rw[U,Result.andThen_ok,q3d _ _ H]
 grind [q0e,qaik,qm4,qacy,mpO]
namespace V
theorem Fall.make{t:DX}(H:o.op=.makeMap t none)(h:NewV w (.map #[] 0) λb w'=>K (.map (some b)) w'):Fall P (execOp (ev ρ) o) w K:=by
 refine⟨.inl ⟨.map (some w.heap.size),w.alloc (.map #[] 0),?_,h.h _ _ rfl rfl⟩⟩
 simp_all[execOp,Instr.makeMap]
theorem Fall.look{t:DX}{m k:Operand}(U:o.op=.lookup t m k false){a b v:DZ}(V:ev ρ m=a)(W:ev ρ k=b)(Z:(Instr.lookup t a b false).run P w=.ok v w)(H:K v w):Fall P (execOp (ev ρ) o) w K:=by
 refine⟨.inl ⟨v,w,?_,H⟩⟩
 simp_all[execOp]
theorem Fall.entry{t:DX}{m k:Operand}(U:o.op=.mapEntry t m k){a b v:DZ}(V:ev ρ m=a)(W:ev ρ k=b)(Z:(Instr.mapEntry t a b).run P w=.ok v w')(H:K v w'):Fall P (execOp (ev ρ) o) w K:=by
 refine⟨.inl ⟨v,w',?_,H⟩⟩
 simp_all[execOp]
theorem Fall.put{t:DX}{m s x:Operand}(U:o.op=.entryStore t m s x){a b c:DZ}(V:ev ρ m=a)(W:ev ρ s=b)(Z:ev ρ x=c)(hr:(Instr.entryStore t a b c).run P w=.ok () w')(H:K undef w'):Fall P (execOp (ev ρ) o) w K:=by
 refine⟨.inr ⟨w',?_,H⟩⟩
 simp_all[execOp]
end V
theorem V.Carr.chn(U:Carr J){o:Obj}(h:J ((g,o)::X) w)(H:Chn [g] w w')(Z:w'.heap[g]?=some o'):J ((g,o')::X) w':=by
 have hg:=U.get h mh;have W:=U.set o' h;refine U.ext W ⟨H.os,H.tape,H.output,by simpa[setO]using H.size,λk hk=>?_⟩;have V:k<w.heap.size:=by grind [setO]
 by_cases e:k=g
 ·grind [qm3]
 ·rw[qgs e];exact H.block k V (by simpa using e)
structure SteΦ(x pb vb tb:Nat)(T:List TM)(qs:List Q4)(p:Q4)(pl:Int)(b1 b2 b3:Nat)(w:DU):Prop where
 X:IdxE w x pb vb tb (encP T qs)
 G:GlobS w
 c1:w.cell? ⟨b1,0,none⟩=some (pp x)
 c2:CellsAt w b2 0 (qf p)
 c3:w.cell? ⟨b3,0,none⟩=some (ii pl)
theorem q1h(x:Nat)(p:Q4)(pl:Int)(w:DU):Gv Eg 57 [pp x,qy p,ii pl] w λr w'=>
  ∃b1 b2 U,r=.func (.func 121) #[] #[pp U,pp b1,pp b2]/\
   Mem w w' [(U,.cells #[ii pl] 3),(b2,.cells (qf p).toArray 47),(b1,.cells #[pp x] 26)]:=by
 refine ze Tryz.func57 Tryz.ntmps57 ?_;refine znm (Mem.nil w) λb1 V H=>zw ?_;refine znm H λb2 W H=>zw ?_;refine znm H λU Z H=>zw ?_;exact⟨b1,b2,U,rfl,H⟩
open Classical in
noncomputable def uTs(Ts:List TM)(k:Nat):List TM:=uniA [] (Ts.take k)
open Classical in
theorem qads{t:TM}(h:Ts[k]?=some t)(H:t∈uTs Ts k):uTs Ts (k+1)=uTs Ts k:=by
 rw[uTs,BD,h,Option.toList_some,qiy];exact Ad H
open Classical in
theorem q7a{t:TM}(h:Ts[k]?=some t)(H:t∉uTs Ts k):uTs Ts (k+1)=uTs Ts k++[t]:=by
 rw[uTs,BD,h,Option.toList_some,qiy];exact Aa H
theorem q69{Ts:List TM}:∀{k:Nat},k<=Ts.length->(uTs Ts k).length<=k
 | 0,_=>Ai _
 | k+1,h=>by
  have V:=q69 (Ts:=Ts) (k:=k) Oo;have H:Ts[k]?=some Ts[k]:=zge Oo
  by_cases U:Ts[k]∈uTs Ts k
  ·rw[qads H U];omega
  ·rw[q7a H U,zla];simp;omega
def TeJ(J:Ed->Ec)(H U:Nat)(Ts:List TM)(L:Ed)(k:Nat)(X:Ed)(w:DU):Prop:=
 ∃s:List TN×DZ×Ed,(s.1.map (·.1)=uTs Ts k/\(∀e∈s.1,1<=e.2)/\(s.1.map (·.2)).sum<=k/\RowX 45 4 s.2.1 (uTs Ts k).length ((uTs Ts k).map encT).flatten s.2.2)/\
  J (X++(s.2.2++(H,mpO s.1)::(U,.cells #[s.2.1] 28)::L)) w
theorem TeJ.carr(H:Carr J)(U V:Nat)(Ts:List TM)(L:Ed)(k:Nat):Carr (TeJ J U V Ts L k):=Carr.ex λ_=>H.tail _
theorem q79{Y:List TM}(h:AscT Y):Y.Pairwise λa b=>cmpT a b<=0:=by
 rw[Bw];intro i j hi U H;have:=h i j H U;have V:tmA Y i=Y[i]:=by rw[tmA,Ah,zge hi];rfl
 have W:tmA Y j=Y[j]:=by rw[tmA,Ah,zge U];rfl
 rw[V,W,<-qav]at this
 rcases DH 0 (cmpT Y[i] Y[j])with g|g
 ·exact absurd (ordT.sym.2 g) this
 ·exact g
theorem q6o(hJ:Carr J){v:DZ}{U:List TM}(hR:RowX 45 4 v U.length (U.map encT).flatten Y)(h:J (Y++X) w)(hl:U.length<=1048576):
  Gv Eg 123 [v,.func (.func 20) #[] #[]] w λr w'=>r=.tuple #[]/\∃U' Y',U'.Perm U/\AscT U'/\RowX 45 4 v U.length (U'.map encT).flatten Y'/\J (Y'++X) w':=by
 obtain⟨A,c,rfl⟩:=hR.slice;refine(q65 U A c 0 w (hR.own λx hx=>hJ.get h (Aj _ hx)) Oo).mono ?_;rintro r w' ⟨rfl,U',hp,ha,ho,hc⟩;refine⟨rfl,U',?_⟩;obtain⟨_,⟨W,e2,rfl⟩|⟨g,aa,ad,W,rfl,_⟩⟩:=hR
 ·injection W with W _ _
  subst W;have hx:Ext w w':=⟨hc.os,hc.tape,hc.output,hc.size,λk hk=>hc.block k hk (λhh=>by cases hh)⟩
  obtain⟨Z,ae⟩:=ho
  rcases ae with⟨H,e4⟩|⟨g,aa,ad,H,_⟩
  ·exact⟨[],hp,ha,⟨Z,.inl ⟨H,e2,rfl⟩⟩,hJ.ext h hx⟩
  ·injection H with H _ _;cases H
 ·injection W with W _ H
  subst W H;obtain⟨Z,⟨H,_⟩|⟨g',af,V,H,_,hg,r⟩⟩:=ho
  ·injection H with H _ _;cases H
  ·injection H with H _ e5
   injection H with H
   injection H with H
   subst H e5;exact⟨[(g,.cells V 45)],hp,ha,⟨Z,.inr ⟨g,c,V,rfl,rfl,r⟩⟩,hJ.chn h hc hg⟩
open Classical in
theorem qah5{U:List TM}(H:U.Perm (uTs Ts Ts.length))(V:AscT U):U=qcr cmpT Ts:=by
 rw[uTs,Cb]at H;exact q1e ordT H (q79 V)
theorem q1i(T:List TM)(qs:List Q4)(h:EncOk T qs)(x pb vb tb:Nat)(p:Q4)(hp:qa5 p)(pl:Int)(b1 b2 b3:Nat):
  SeqC Eg 121 [pp b3,pp b1,pp b2] ((tasL pl p qs).map λt=>[qv t]) (SteΦ x pb vb tb T qs p pl b1 b2 b3):=by
 intro y I Ix w W av hI h0 hy;have ai:((tasL pl p qs).map λt=>[qv t]).length=(tasL pl p qs).length:=AG ..;have bk:((Eg.info? 45).get Jk).bytes=56:=by kernel_rfl
 have t4:tsz Eg 45=4:=by kernel_rfl
 refine gvW Jk Tryz.func121 rfl Tryz.ntmps121 rfl (zw ?_);refine LoadV.of (hI _ _ _ h0).c3 (zw ?_);refine zcv (qtb pl w) ?_;rintro r w2 ⟨hr,bl⟩;replace h0:=(W 0).ext h0 bl
 rcases hr with⟨aw,rfl⟩|⟨aw,g,rfl,hg⟩
 case inl=>
  (conv=>whnf);refine NewV.carr (W 0) h0 λab w3 h0=>zw ?_;refine StoreA.carr (W 0) (A:=[]) h0 rfl (by simp[Value.oneCell']) λw4 h0=>zu ?_;refine .inl ?_;rw[ai,tasL,Aa (by rw[aw];decide)];exact(W 0).drop h0
 (conv=>whnf);refine NewV.carr (W 0) h0 λab w3 h0=>zw ?_;refine StoreA.carr (W 0) (A:=[]) h0 rfl (by simp[Value.oneCell']) λw4 h0=>zu ?_;refine Fall.make rfl ?_;refine NewV.carr (W 0) h0 λmo w5 h0=>zw ?_;refine NewV.carr (W 0) h0 λmb w6 h0=>zw ?_;refine StoreV.carr (W 0) (A:=[]) h0 (by show 0<1;omega) rfl ?_;clear h0;intro w7 h0;replace h0:I 0 [(mb,.cells #[.map (some mo)] 236),(mo,mpO []),(ab,.cells #[.func (.func g) #[] #[]] 233)] w7:=h0;(conv=>whnf);refine NewV.carr (W 0) h0 λlb w8 h0=>zw ?_;refine LoadV.of (hI _ _ _ h0).c1 (zw ?_);refine LoadA.cells (hI _ _ _ h0).c2 rfl (zw ?_);refine zcv (qjy x p w8) ?_;rintro r w9 ⟨c1,c2,rfl,bm⟩;replace h0:=(W 0).call h0 bm;obtain⟨M,eM⟩:∃M,M=qbd p qs:=⟨_,rfl⟩
 have bn:=qka p qs;rw[<-eM]at bn;have ci:=h.set.len;obtain⟨Ts,ax⟩:∃Ts:List TM,Ts=tatL pl p qs:=⟨_,rfl⟩
 have bo:Ts.length=M.length:=by rw[ax,tatL,AG,eM]
 have eR:tasL pl p qs=qcr cmpT Ts:=by rw[tasL,Ad aw,ax]
 rw[eR]at ai hy|-;obtain⟨L,hL⟩:∃L:Ed,L=[(ab,.cells #[.func (.func g) #[] #[]] 233),(c2,.cells (qf p).toArray 47),(c1,.cells #[pp x] 26),(mb,.cells #[.map (some mo)] 236)]:=⟨_,rfl⟩
 have a6:(c1,Obj.cells #[pp x] 26)∈L:=by rw[hL];simp
 have a7:(c2,Obj.cells (qf p).toArray 47)∈L:=by rw[hL];simp
 have a8:(ab,Obj.cells #[.func (.func g) #[] #[]] 233)∈L:=by rw[hL];simp
 have aq:(mb,Obj.cells #[.map (some mo)] 236)∈L:=by rw[hL];simp
 have ay:I 0 ((mo,mpO [])::(lb,.cells #[.slice none 0 0] 28)::L) w9:=by
  rw[hL];exact(W 0).perm h0 ((Au (l₁:=[_,_,_,_]) (l₂:=[_,_])).trans (List.Perm.cons _ (Bz (l₁:=[_,_,_]))))
 clear h0;have bp:∀{X:Ed} {w':DU},I 0 (X++L) w'->w'.heap[ab]?=some (.cells #[.func (.func g) #[] #[]] 233):=λhh=>(W _).get hh (Ac _ a8)
 have cm:∀{X:Ed} {w':DU},I 0 (X++L) w'->w'.heap[mb]?=some (.cells #[.map (some mo)] 236):=λhh=>(W _).get hh (Ac _ aq)
 have bq:(M.map (sRow qs)).length=M.length:=AG ..;have cT:=λk=>TeJ.carr (W 0) mo lb Ts L k
 (conv=>whnf);refine q5x (Φ:=SmaΦ x pb vb tb T qs p c1 c2) (lb:=[pp c1,pp c2]) (xs:=M.map (sRow qs)) rfl Jk (by rw[eM];exact qjz T qs h x pb vb tb p hp (h.idX p) c1 c2) Od ?_
  (TeJ (I 0) mo lb Ts L) (λc k X w'=>False/\TeJ (I 0) mo lb Ts L k X w')
  cT (λc k=>Carr.and (cT k))
  (λk X w' ⟨s,_,hh⟩=>⟨(hI _ _ _ hh).X,(hI _ _ _ hh).G,by rw[qa ((W _).get hh (Ac _ (Ac _ (zmc (zmc a6)))))];rfl,λj v hv=>by rw[qa ((W _).get hh (Ac _ (Ac _ (zmc (zmc a7))))),As,An];exact hv⟩)
  ⟨([],.slice none 0 0,[]),⟨rfl,λe he=>(by cases he),Ai _,RowX.nil _ _⟩,ay⟩ ?_ ?_ ?_
 ·intro r hr;obtain⟨j,_,rfl⟩:=AF.1 hr;rfl
 ·clear ay;rintro l2 D oa od k r X an hr H;rw[Ao]at hr;cases ag:M[k]? with
  | none=>rw[ag]at hr;cases hr
  | some i=>
  rw[ag,Bd,AR]at hr;subst hr;have cn:=(Af.1 ag).1;obtain⟨q,eq⟩:∃q,qs.getD i zQ=q:=⟨_,rfl⟩
  have az:Ts[k]?=some (plT pl q):=by rw[ax,tatL,Ao,<-eM,ag,Bd,eq]
  rw[show sRow qs i=[ii i,qy q]by rw[sRow,eq]];(conv=>whnf);refine NewV.carr (cT k) H λnb br H=>zw ?_;refine StoreA.carr (vs:=qf q) (cT k) (A:=[]) H rfl (qb1 q) λbt H=>zw ?_;refine⟨rfl,(nb,.cells (qf q).toArray 47)::(D,.deferred (some []))::X,(cT k).perm H (List.Perm.swap _ _ _),?_⟩;clear H;rintro a0 ⟨⟨l,v,Y⟩,⟨a1,aj,bu,hR⟩,H⟩;dsimp only at a1 aj bu hR H;have bv:=q69 (Ts:=Ts) (k:=k) Oo;obtain⟨Z,eZ⟩:∃Z:Ed,Z=(l2,od)::(nb,.cells (qf q).toArray 47)::(D,.deferred (some []))::X:=⟨_,rfl⟩
  rw[<-eZ]at H;have hq:(nb,Obj.cells (qf q).toArray 47)∈Z:=by rw[eZ];simp
  replace H:I 0 ((Z++Y++[(mo,mpO l),(lb,.cells #[v] 28)])++L) a0:=by simpa using H
  (conv=>whnf);refine LoadV.own (bp H) rfl (zw ?_);refine LoadA.own ((W 0).get H (Aj _ (Aj _ (Aj _ hq)))) rfl (zw ?_);refine zcv (hg q a0) ?_;rintro r a9 ⟨rfl,ba⟩;replace H:=(W 0).ext H ba;obtain⟨t,et⟩:∃t,t=plT pl q:=⟨_,rfl⟩
  rw[<-et]at az|-;(conv=>whnf);refine NewV.carr (W 0) H λa2 bw H=>zw ?_;refine StoreA.carr (vs:=encT t) (W 0) (A:=[]) H rfl (q9 t) ?_;clear H;intro bz H;obtain⟨A,eA⟩:∃A:Ed,A=(a2,.cells (encT t).toArray 45)::(Z++Y):=⟨_,rfl⟩
  have a3:(a2,Obj.cells (encT t).toArray 45)∈A:=by rw[eA];exact AV ..
  obtain⟨B,eB⟩:∃B:Ed,B=(lb,.cells #[v] 28)::L:=⟨_,rfl⟩
  have bb:(mb,Obj.cells #[.map (some mo)] 236)∈B:=by rw[eB];exact zmc aq
  replace H:I 0 (A++(mo,mpO l)::B) bz:=by rw[eA,eB];simpa using H
  have cp:=qacp t l;have cq:=q34 t l;(conv=>whnf);refine DrawW.any Jk (.inr Jk) (AnyV.gen (λS _ w'=>(S 6=true->S 2=true/\S 4=true)/\I 0 (A++(mo,mpO (bif S 6 then icT t l else bif S 4 then adL t l else l))::B) w') Jk (λaf=>⟨λh=>(by cases h),(W 0).ext H xr.drew⟩) ?_);clear H;(conv=>whnf);refine StepG.of (.map (some mo)) (λS af wd hk hp aa=>?_) ?_
  ·have ad:=(W 0).get aa.2 (Ac _ (zmc bb));(conv=>whnf);refine LoadV.own ad rfl (zw ?_);exact⟨rfl,λh=>⟨(aa.1 h).1,(aa.1 h).2⟩,aa.2⟩
  (conv=>whnf);refine StepG.of (qv t) (λS af wd hk hp aa=>?_) ?_
  ·have ad:=(W 0).get aa.2 (Aj _ a3);(conv=>whnf);refine LoadA.own ad rfl (zw ?_);exact⟨rfl,λh=>⟨(aa.1 h).1,(aa.1 h).2⟩,aa.2⟩
  (conv=>whnf);refine StepG.of (ii (cnL t l:Nat)) (λS af wd hk hp aa=>?_) ?_
  ·have aj:S 2=false:=hk;have h6:S 6=false:=by
    cases h6:S 6
    ·rfl
    ·have:=(aa.1 h6).1;rw[aj]at this;cases this
   obtain⟨l',el⟩:∃l',l'=(bif S 4 then adL t l else l):=⟨_,rfl⟩
   have b0:cnL t l'=cnL t l:=by
    rw[el];cases S 4
    ·rfl
    ·exact qaci t l
   have ad:=(W 0).get aa.2 (Ac _ mh);rw[h6]at ad;have ad:wd.heap[mo]?=some (mpO l'):=by rw[el];exact ad
   (conv=>whnf);refine Fall.look rfl rfl rfl (qtm t l' mo wd ad) (zw ?_);exact⟨by rw[b0];rfl,λh=>(by have h:S 6=true:=h;rw[h6]at h;cases h),aa.2⟩
  (conv=>whnf);refine zg ?_;refine StepG.of (.tuple #[ii (cnL t l:Nat),ii (ixL t l:Nat)]) (λS af wd hk hp aa=>?_) ?_
  ·have be:S 4=false:=hk;have h6:S 6=false:=by
    cases h6:S 6
    ·rfl
    ·have:=(aa.1 h6).2;rw[be]at this;cases this
   have H:=aa.2;rw[h6,be]at H;replace H:I 0 (A++(mo,mpO l)::B) wd:=H;have ad:=(W 0).get H (Ac _ mh);(conv=>whnf);refine Fall.entry rfl rfl rfl (qaa1 t l mo wd ad) (zw ?_);exact⟨rfl,λh=>(by have h:S 6=true:=h;rw[h6]at h;cases h),by show I 0 (A++(mo,mpO (bif S 6 then icT t l else bif true then adL t l else l))::B) _;rw[h6];exact(W 0).setM _ H⟩
  (conv=>whnf);refine zg ?_;refine StepG.of undef (λS af wd hk hp aa=>?_) ?_
  ·have b4:S 6=false:=hk;have h4:S 4=true:=hp 4 Od;have h2:S 2=true:=hp 2 Od;have H:=aa.2;rw[b4,h4]at H;replace H:I 0 (A++(mo,mpO (adL t l))::B) wd:=H;have ad:=(W 0).get H (Ac _ mh);(conv=>whnf);refine Fall.put rfl rfl rfl rfl (qaa2 t l mo wd ad) (zw ?_);exact⟨rfl,λ_=>⟨h2,h4⟩,(W 0).setM _ H⟩
  (conv=>whnf);intro af a4 aa;have H:I 0 (A++(mo,mpO (icT t l))::B) a4:=aa.2;clear aa;have bf:=qacz t l;have bg:=(W 0).get H (Ac _ mh);have ae:=qx4 t l;rw[a1]at ae;have ak:=q2n (t:=t) aj;rw[a1]at ak;have ck:=q3y t l;have au:=q3x (t:=t) aj;(conv=>whnf);refine LoadV.own ((W 0).get H (Ac _ (zmc bb))) rfl (zw ?_);refine LoadA.own ((W 0).get H (Aj _ a3)) rfl (zw ?_);refine Fall.look rfl rfl rfl (qtm t (icT t l) mo a4 bg) ?_;rw[bf]
  rcases B9 (cnL t l)with a5|a5
  case inr=>
   have al:t∈uTs Ts k:=AD λh=>by have:=ak.2 h;omega
   rw[Ad al]at ae;have eU:=qads az al;refine zu ?_;refine⟨(icT t l,v,Y),⟨by rw[eU];exact ae,au,by dsimp only;omega,by rw[eU];exact hR⟩,?_⟩;rw[eA,eB]at H;have bh:I 0 (Z++(Y++(mo,mpO (icT t l))::(lb,.cells #[v] 28)::L)) a4:=by simpa using(W 0).drop H
   rw[eZ]at bh;exact(W 0).dropM (A:=[(l2,od)]) bh
  have al:t∉uTs Ts k:=ak.1 a5;rw[Aa al]at ae;have eU:=q7a az al;rw[a5];rw[eB]at H;obtain⟨Av,cv,ev⟩:=hR.slice;subst ev;refine zu ?_;refine LoadV.own ((W 0).get H (Ac _ (zmc mh))) rfl (zw ?_);refine LoadA.own ((W 0).get H (Aj _ a3)) rfl (zw ?_);refine NewV.carr (W 0) H λub b5 H=>zw ?_;rw[eA]at H;replace H:I 0 (Y++((ub,.cells (encT t).toArray 45)::(a2,.cells (encT t).toArray 45)::(Z++(mo,mpO (icT t l))::(lb,.cells #[.slice Av (uTs Ts k).length cv] 28)::L))) b5:=by
   refine(W 0).perm H ?_;simp only[Bi,Aw];refine List.Perm.trans ?_ (Bz).symm;refine List.Perm.cons _ ?_;refine List.Perm.trans ?_ (Bz).symm;refine List.Perm.cons _ ?_;rw[<-Aw,<-Aw];exact Au.append_right _
  refine AppV.carr (m:=1) (news:=encT t) (W 0) H hR qnx trmI trmZ Jk Jk Od rfl (λ_=>⟨ub,0,rfl,λj u hu=>by rw[qa ((W 0).get H (Ac _ mh)),As,An];exact hu⟩) (q9 t) (by rw[bk];omega) Oo ?_;clear H;intro A5 c5 Y5 b6 b7 H;replace H:=(W 0).dropM ((W 0).dropM H);replace H:I 0 ((Y5++(Z++[(mo,mpO (icT t l))]))++(lb,.cells #[.slice Av (uTs Ts k).length cv] 28)::L) b6:=by simpa using H
  (conv=>whnf);refine StoreV.carr (W 0) H (by show 0<1;omega) rfl ?_;clear H;intro bi H;replace H:I 0 ((Y5++(Z++[(mo,mpO (icT t l))]))++(lb,.cells #[.slice A5 ((uTs Ts k).length+1) c5] 28)::L) bi:=H;(conv=>whnf);have b8:(uTs Ts (k+1)).length=(uTs Ts k).length+1:=by rw[eU,zla];rfl
  have b9:((uTs Ts (k+1)).map encT).flatten=((uTs Ts k).map encT).flatten++encT t:=by rw[eU];simp
  refine⟨(icT t l,.slice A5 ((uTs Ts k).length+1) c5,Y5),⟨by rw[eU];exact ae,au,by dsimp only;omega,by rw[b8,b9];exact b7⟩,?_⟩;replace H:I 0 (Z++(Y5++((mo,mpO (icT t l))::(lb,.cells #[.slice A5 ((uTs Ts k).length+1) c5] 28)::L))) bi:=by
   refine(W 0).perm H ?_;rw[Aw,Aw,<-Aw,<-Aw Z];exact(Au).append Js
  rw[eZ]at H;exact(W 0).dropM (A:=[(l2,od)]) H
 ·clear ay;rintro D an H;rw[bq,<-bo]at H;obtain⟨⟨l,v,Y⟩,⟨_,_,_,hR⟩,H⟩:=H;dsimp only at hR H;have bv:=q69 (Ts:=Ts) (k:=Ts.length) znr;obtain⟨Av,cv,ev⟩:=hR.slice;subst ev;obtain⟨E,eE⟩:∃E:Ed,E=(mo,mpO l)::(lb,.cells #[.slice Av (uTs Ts Ts.length).length cv] 28)::L:=⟨_,rfl⟩
  have am:(lb,Obj.cells #[.slice Av (uTs Ts Ts.length).length cv] 28)∈E:=by rw[eE];simp
  rw[<-eE]at H;replace H:I 0 ((D,.deferred (some []))::(Y++E)) an:=H;replace H:I 0 (Y++(D,.deferred (some []))::E) an:=(W 0).perm H Bz.symm;(conv=>whnf);refine LoadV.own ((W 0).get H (Ac _ (zmc am))) rfl (zw ?_);refine zcv (q6o (W 0) hR H Oo) ?_;clear hR H;rintro r br ⟨rfl,U,Y2,hp,ha,hR,H⟩;have eU:=qah5 hp ha;have cc:=hp.length_eq;rw[<-eU]at ai hy|-;rw[<-cc]at hR am|-;obtain⟨n,en⟩:∃n,n=U.length:=⟨_,rfl⟩
  (conv=>whnf);refine LoadV.own ((W 0).get H (Ac _ (zmc am))) rfl (zw ?_);have ah:∀{J:Ed->Ec} {w':DU},Carr J->J (Y2++(D,.deferred (some []))::E) w'->J ([D].map qafy) w':=λcJ h=>cJ.dropL (cJ.perm (cJ.dropL h) (Au (l₁:=[_])))
  refine q95 (λi:Nat=>[(0,.func (.yield y) #[] #[]),(47,.slice Av U.length cv),(48,ii U.length),(49,ii i)])
   (λi w'=>i<=U.length/\I i (Y2++(D,.deferred (some []))::E) w') (λi=>U.length-i) 0 fq ⟨Ag _,H⟩ ?_
  clear H;rintro i bt cr ⟨hi,H⟩;(conv=>whnf);refine zC (λ_=>zw ?_) (λ_=>zw ?_)
  case' refine_2=>
   obtain rfl:i=U.length:=by omega
   refine LeaveV.marks (J:=λX w'=>I U.length X w') (W _) ?_ (D:=D) (Ds:=[]) (ah (W _) H);intro w' h';(conv=>whnf);exact .inl (by rw[ai];exact h')
  have ao:i<U.length:=by omega
  obtain⟨t,bj⟩:∃t,U[i]?=some t:=⟨_,zge ao⟩
  obtain⟨_,_,ev,_,hS⟩:=V.RowX.sl qad hR rfl (λx hx=>(W _).get H (Aj _ hx))
  injection ev with cd _ ce
  subst cd ce;obtain⟨g1,o1,rfl,cf⟩:=hS.at_ (by intro e;rw[e]at ao;simp at ao);refine⟨⟨g1,o1,i,rfl,by omega,by omega,?_⟩⟩;rw[t4];(conv=>whnf);refine LoadA.cells (cf i t bj) rfl (zw ?_);refine NewV.carr (W _) H λub a0 H=>zw ?_;refine StoreA.carr (vs:=encT t) (W _) (A:=[]) H rfl (q9 t) λa9 H=>zw ?_;refine LoadA.own ((W _).get H mh) rfl (zw ?_);have cg:(U.map λt=>[qv t])[i]?=some [qv t]:=by rw[Ao,bj];rfl
  refine YieldV.mono (hy i _ _ a9 cg H) ?_;clear H;rintro v bw (⟨rfl,H⟩|⟨rfl,hX⟩)
  ·refine zu ?_;exact⟨rfl,i+1,⟨rfl,rfl,rfl,Ae (Value.int .i64) Oo,trivial⟩,⟨by omega,(W _).drop H⟩,by omega⟩
  ·refine zu ?_;refine LeaveV.marks (J:=λX w'=>Ix i X w') (av _) ?_ (D:=D) (Ds:=[]) (ah (av _) ((av _).drop hX));intro w' h';(conv=>whnf);exact .inr ⟨i,by rw[ai];exact ao,h'⟩
 ·rintro D c k an hk ⟨hf,_⟩;exact hf.elim
theorem qxy{p t:TM}(h:p.kind=4):fitT p t=true:=by rw[fitT,h];rfl
theorem qxz{p t:TM}(h:qaj p t=true):fitT p t=true:=by grind [fitT]
theorem qpy{p q:Q4}(i:Nat)(hi:i<4)(U:¬(p.at i).kind=4)(H:qaj (p.at i) (q.at i)=false):fitQ p q=false:=(by grind [qpw,fitT])
theorem qz5(p q:Q4)(w:DU):Gv Eg 102 [qy p,qy q] w λr w'=>r=.bool (fitQ p q)/\Ext w w':=by
 refine ze Tryz.func102 Tryz.ntmps102 ?_;refine znm (Mem.nil w) ?_;intro pb w1 U;have U:Mem w w1 [(pb,.cells (qf p).toArray 47)]:=U;(conv=>whnf);refine znm U ?_;clear U;intro qb w2 U;have U:Mem w w2 [(qb,.cells (qf q).toArray 47),(pb,.cells (qf p).toArray 47)]:=U;have Z:∀i,i<4->CellsAt w2 pb (4*i) (encT (p.at i)):=λi hi k v hv=>by
  rw[qa (U.get (zmc (Ak.2 rfl))),An];exact qih p hi hv
 have ag:∀i,i<4->CellsAt w2 qb (4*i) (encT (q.at i)):=λi hi k v hv=>by
  rw[qa (U.get mh),An];exact qih q hi hv
 have V:∀i,i<4->w2.cell? ⟨pb,4*i+0,none⟩=some (ii (p.at i).kind):=λi hi=>Z i hi 0 _ rfl
 have he:=U.ext;clear U;(conv=>whnf);refine LoadV.of (V 0 Od) (zw ?_)
 rcases BW ((p.at 0).kind=4)with h0|h0
 case' inl=>
  have aa:=qxy (t:=q.at 0) h0;refine zv ?_
 case' inr=>
  refine zv ?_;refine LoadA.cells (vs:=encT (p.at 0)) (by grind) rfl (zu ?_);refine LoadA.cells (vs:=encT (q.at 0)) (by grind) rfl (zu ?_);refine RunV.eqTerm (a:=p.at 0) (b:=q.at 0) (.inl rfl) ?_;cases H:qaj (p.at 0) (q.at 0)
  case false=>
   refine zu ?_;exact⟨(Ae Value.bool (qpy 0 Od h0 H)).symm,he⟩
  have aa:=qxz H;refine zu ?_
 all_goals
  refine LoadV.of (V 1 Od) (zw ?_)
  rcases BW ((p.at 1).kind=4)with h1|h1
  case' inl=>
   have ad:=qxy (t:=q.at 1) h1;refine zv ?_
  case' inr=>
   refine zv ?_;refine LoadA.cells (vs:=encT (p.at 1)) (by grind) rfl (zu ?_);refine LoadA.cells (vs:=encT (q.at 1)) (by grind) rfl (zu ?_);refine RunV.eqTerm (a:=p.at 1) (b:=q.at 1) (.inl rfl) ?_;cases H:qaj (p.at 1) (q.at 1)
   case false=>
    refine zu ?_;exact⟨(Ae Value.bool (qpy 1 Od h1 H)).symm,he⟩
   have ad:=qxz H;refine zu ?_
 all_goals
  refine LoadV.of (V 2 Od) (zw ?_)
  rcases BW ((p.at 2).kind=4)with h2|h2
  case' inl=>
   have ae:=qxy (t:=q.at 2) h2;refine zv ?_
  case' inr=>
   refine zv ?_;refine LoadA.cells (vs:=encT (p.at 2)) (by grind) rfl (zu ?_);refine LoadA.cells (vs:=encT (q.at 2)) (by grind) rfl (zu ?_);refine RunV.eqTerm (a:=p.at 2) (b:=q.at 2) (.inl rfl) ?_;cases H:qaj (p.at 2) (q.at 2)
   case false=>
    refine zu ?_;exact⟨(Ae Value.bool (qpy 2 Od h2 H)).symm,he⟩
   have ae:=qxz H;refine zu ?_
 all_goals
  refine LoadV.of (V 3 Od) (zw ?_)
  rcases BW ((p.at 3).kind=4)with h3|h3
  case' inl=>
   have af:=qxy (t:=q.at 3) h3;refine zv ?_
  case' inr=>
   refine zv ?_;refine LoadA.cells (vs:=encT (p.at 3)) (Z 3 Od) rfl (zu ?_);refine LoadA.cells (vs:=encT (q.at 3)) (ag 3 Od) rfl (zu ?_);refine RunV.eqTerm (a:=p.at 3) (b:=q.at 3) (.inl rfl) ?_;cases H:qaj (p.at 3) (q.at 3)
   case false=>
    refine zu ?_;exact⟨(Ae Value.bool (qpy 3 Od h3 H)).symm,he⟩
   have af:=qxz H;refine zu ?_
 all_goals
  refine⟨Ae Value.bool ((qpw p q).2 λj hj=>?_).symm,he⟩
  match j,hj with
  | 0,_=>exact aa
  | 1,_=>exact ad
  | 2,_=>exact ae
  | 3,_=>exact af
theorem qad7{q:Q4}{L:List Q4}{x:Q4}(hi:L[i]?=some x)(h:cmpQ x q<0):aheC q (L.drop i)=aheC q (L.drop (i+1))+1:=by
 grind [List.drop_eq_getElem_cons,aheC]
theorem qad6{q:Q4}{L:List Q4}{x:Q4}(hi:L[i]?=some x)(h:¬cmpQ x q<0):aheC q (L.drop i)=0:=by
 grind [List.drop_eq_getElem_cons,aheC]
theorem qz3(L:List Q4)(q:Q4)(A:oA)(n c:Nat)(w:DU)(hS:SlAt qf 16 w A L)(hn:L.length=n)(hb:n<=140737488355328):
  Gv Eg 101 [.slice A n c,qy q] w λr w'=>(∃b,r=.tuple #[ii (aheC q L),.bool b]/\(b=true↔L[aheC q L]?=some q))/\Ext w w':=by
 subst hn;have ae:tsz Eg 47=16:=by kernel_rfl
 refine ze Tryz.func101 Tryz.ntmps101 ?_;refine znm (Mem.nil w) ?_;intro qb w1 V;have V:Mem w w1 [(qb,.cells (qf q).toArray 47)]:=V;(conv=>whnf);refine qk (λi:Nat=>[(0,.slice A L.length c),(3,pp qb),(6,ii i)])
  (λi w'=>i<=L.length/\aheC q L=aheC q (L.drop i)+i/\Mem w w' [(qb,.cells (qf q).toArray 47)]) (λi=>L.length-i) 0 fq ⟨Ag _,rfl,V⟩ ?_
 clear V;rintro i w2 ak ⟨hi,ha,V⟩;(conv=>whnf);have ah:∀H,Ext w2 H->H.heap[qb]?=some (.cells (qf q).toArray 47):=λH he=>he.get (V.get mh)
 have hx:∀H,Ext w2.drew H->Ext w H:=λH U=>V.ext.trans ((Ext.refl w2).drew.trans U)
 refine DrawV.free Jk Jk (zw ?_);(iterate 5 (refine zd ?_))
 by_cases ai:i<L.length
 case neg=>
  obtain rfl:i=L.length:=by omega
  have U:(decide ((L.length:Int)<(L.length:Int)))=false:=by simp
  rw[U];(iterate 8 (refine zd ?_));intro w3 Z;refine zu ?_;refine DrawV.free Jk Jk (zw ?_);(iterate 15 (refine zd ?_));intro w4 aa;(conv=>whnf);rw[List.drop_length]at ha;have ha:aheC q L=L.length:=by rw[ha];exact As _
  refine⟨⟨false,by rw[ha],⟨(λh=>by cases h),λh=>?_⟩⟩,V.ext.trans (((Ext.refl w2).drew.trans Z).trans ((Ext.refl w3).drew.trans aa))⟩
  simp_all
 obtain⟨g,W,rfl,aj⟩:=hS.at_ (by grind);obtain⟨x,ad⟩:∃x,L[i]?=some x:=⟨_,zge ai⟩
 have af:=aj i x ad;have U:(decide ((i:Int)<(L.length:Int)))=true:=(by grind)
 rw[U];refine zd ?_;refine zd ?_;apply zsd (.pointer (some ⟨g,W+i*16,none⟩))
 ·intro H U;refine zu ?_;refine⟨⟨g,W,i,rfl,by omega,by omega,?_⟩⟩;rw[ae];(conv=>whnf);exact xq
 (conv=>whnf);apply zsd (qy x)
 ·intro H U;refine zu ?_;refine LoadA.cells (CellsAt.ext af (hx H U)) rfl (zw ?_);exact xq
 (conv=>whnf);apply zsd (qy q)
 ·intro H U;refine zu ?_;refine LoadA.own (ah H ((Ext.refl w2).drew.trans U)) rfl (zw ?_);exact xq
 (conv=>whnf);apply zsd (ii (cmpQ x q))
 ·intro H U;refine zu ?_;refine zcv (qgy x q H) ?_
  simp_all
 (conv=>whnf);refine zd ?_;refine zd ?_;intro w3 Z;have ag:Ext w w3:=(by grind)
 replace V:=(V.drew).call Z
 by_cases hc:cmpQ x q<0
 ·refine zu ?_;exact⟨i+1,⟨rfl,rfl,Ae (Value.int .i64) Oo,trivial⟩,(by grind [qad7]),by omega⟩
 rw[qad6 ad hc,As]at ha;rw[ha,ad];refine zu ?_;refine DrawV.free Jk Jk (zw ?_);(iterate 6 (refine zd ?_));rw[U];refine zd ?_;refine zd ?_;apply zsd (.pointer (some ⟨g,W+i*16,none⟩))
 ·intro H U;refine zu ?_;refine⟨⟨g,W,i,rfl,by omega,by omega,?_⟩⟩;rw[ae];(conv=>whnf);exact xq
 (conv=>whnf);apply zsd (qy x)
 ·intro H U;refine zu ?_;refine LoadA.cells (CellsAt.ext af (ag.trans ((Ext.refl w3).drew.trans U))) rfl (zw ?_);exact xq
 (conv=>whnf);apply zsd (qy q)
 ·intro H U;refine zu ?_;refine LoadA.own (((Ext.refl w3).drew.trans U).get (V.get mh)) rfl (zw ?_);exact xq
 (conv=>whnf);apply zsd (.bool (qdx x q))
 ·intro H U;refine zu ?_;refine RunV.eqQd (a:=x) (b:=q) (zw ?_);exact xq
 (conv=>whnf);(iterate 3 (refine zd ?_));intro w4 aa;(conv=>whnf);refine⟨⟨_,rfl,?_⟩,ag.trans ((Ext.refl w3).drew.trans aa)⟩
 grind [qmz]
theorem qw7(q:Q4)(pl:Int)(w:DU):Gv Eg 23 [qy q,ii pl] w λr w'=>r=.tuple #[qv (if plOk pl=true then plT pl q else zTM),.bool (plOk pl)]/\Ext w w':=by
 refine ze Tryz.func23 Tryz.ntmps23 ?_;refine znm (Mem.nil w) ?_;intro W w1 H;have H:Mem w w1 [(W,.cells (qf q).toArray 47)]:=H;have U:∀w',Mem w w' [(W,.cells (qf q).toArray 47)]->∀k,k<4->CellsAt w' W (0+k*4) (encT (q.at k)):=λw' aa k hk=>qm (CellsAt.mem aa (Ak.2 rfl)) k hk
 refine znm H ?_;clear H;intro rb V H;have Z:Mem w V [(W,.cells (qf q).toArray 47)]:=H.sub (AS ..);conv=>whnf
 (repeat' refine zC (λ_=>zw ?_) (λ_=>zw ?_))
 all_goals first
  | (refine LoadA.cells (vs:=encT (q.at 0)) (U V Z 0 Od) rfl ?_;(conv=>whnf))
  | (refine LoadA.cells (vs:=encT (q.at 1)) (U V Z 1 Od) rfl ?_;(conv=>whnf))
  | (refine LoadA.cells (vs:=encT (q.at 2)) (U V Z 2 Od) rfl ?_;(conv=>whnf))
  | (refine LoadA.cells (vs:=encT (q.at 3)) (U V Z 3 Od) rfl ?_;(conv=>whnf))
  | skip
 all_goals
  refine zS H 0 ?_;clear H U;intro w3 H;refine qi (R:=λr w'=>r=.tuple #[qv (if plOk pl=true then plT pl q else zTM),.bool (plOk pl)]/\Ext w w') ?_;refine zl H 0 ?_;refine⟨?_,H.ext⟩
 ·obtain rfl:pl=0:=by omega
  rfl
 ·obtain rfl:pl=1:=by omega
  rfl
 ·obtain rfl:pl=2:=by omega
  rfl
 ·obtain rfl:pl=3:=by omega
  rfl
 ·have hn:plOk pl=false:=q5t.2 Oo;rw[hn];rfl
def snQ(e:Int×Q4):Ee:=ii e.1::qf e.2
theorem qgc(e:Int×Q4):(snQ e).length=17:=rfl
theorem qq8(e:Int×Q4):∀v∈snQ e,v.oneCell'=true:=λv H=>by
 rcases AB.1 H with rfl|H
 ·rfl
 ·exact qb1 e.2 v H
def snL(qs:List Q4)(l:Ef):List (Int×Q4):=l.map λi:Nat=>((i:Int),qs.getD i zQ)
theorem qdz(qs:List Q4)(l:Ef):(snL qs l).length=l.length:=AG ..
def SnR(E:List (Int×Q4))(v:DZ)(w:DU):Prop:=∃B d,v=.slice B E.length d/\E.length<=d/\SlAt snQ 17 w B E
theorem qaa5:Eg.underlying 71=some (.slice 77):=Tryz.underlying71
theorem s20I:Eg.info? 77=some ((Eg.info? 77).get Jk):=(Bt _).symm
theorem s20Z:((Eg.info? 77).get Jk).zero=some ((((Eg.info? 77).get Jk).zero).get Jk):=(Bt _).symm
theorem s20B:((Eg.info? 77).get Jk).bytes=232:=by kernel_rfl
def mtI(p:Q4)(qs:List Q4)(i:Nat):Ef:=(List.range i).filter λi=>match qs[i]? with
 | some q=>fitQ p q
 | none=>false
theorem qaf2(p:Q4)(qs:List Q4):mtI p qs qs.length=qbd p qs:=rfl
theorem qaf3{p:Q4}{q:Q4}(hi:qs[i]?=some q)(H:fitQ p q=true):mtI p qs (i+1)=mtI p qs i++[i]:=by
 rw[mtI,mtI,Ck,Dk];simp[hi,H]
theorem qajq{p:Q4}{q:Q4}(hi:qs[i]?=some q)(H:fitQ p q=false):mtI p qs (i+1)=mtI p qs i:=by
 rw[mtI,mtI,Ck,Dk];simp[hi,H]
theorem qajp(p:Q4)(qs:List Q4)(i:Nat):(mtI p qs i).length<=i:=by
 have:=Dw (λi=>match qs[i]? with|some q=>fitQ p q|none=>false) (List.range i)
 rwa[Dq]at this
theorem qe5(qs:List Q4)(A:oA)(n c:Nat)(B0:oA)(m0 d0:Nat)(p:Q4)(w:DU)(hS:SlAt qf 16 w A qs)(hn:qs.length=n)(hb:n<=1048576):
  Gv Eg 43 [.agg #[.slice A n c,.slice B0 m0 d0],qy p] w λr w'=>SnR (snL qs (qbd p qs)) r w'/\Ext w w':=by
 subst hn;have af:tsz Eg 47=16:=by kernel_rfl
 obtain⟨xo,ag⟩:∃xo:Obj,xo=.cells #[.slice A qs.length c,.slice B0 m0 d0] 30:=⟨_,rfl⟩
 refine ze Tryz.func43 Tryz.ntmps43 ?_;refine znm (Mem.nil w) ?_;intro xb w1 hm;refine znm hm ?_;clear hm;intro pb w2 hm;have hm:Mem w w2 [(pb,.cells (qf p).toArray 47),(xb,xo)]:=by rw[ag];exact hm
 refine qk (λx:Nat×oA×Nat=>[(2,pp xb),(3,pp pb),(5,.slice x.2.1 (mtI p qs x.1).length x.2.2),(6,ii x.1)])
  (λx w'=>x.1<=qs.length/\Rw w w' (.slice x.2.1 (mtI p qs x.1).length x.2.2) 77 17 (mtI p qs x.1).length ((snL qs (mtI p qs x.1)).map snQ).flatten [(pb,.cells (qf p).toArray 47),(xb,xo)]) (λx=>qs.length-x.1) (0,none,0)
  fq ⟨Ag _,Rw.nil hm⟩ ?_
 clear hm;rintro⟨i,B,cb⟩ w3 aq ⟨hi,U⟩;dsimp only at hi U|-;have ar:=qajp p qs i;have ad:∀H,Ext w3 H->H.heap[xb]?=some (.cells #[.slice A qs.length c,.slice B0 m0 d0] 30):=λH he=>by rw[<-ag];exact he.get (U.mem.get (zmc (Ak.2 rfl)))
 have aj:∀H,Ext w3 H->H.heap[pb]?=some (.cells (qf p).toArray 47):=λH he=>he.get (U.mem.get mh)
 (conv=>whnf);refine LoadV.own (ad w3 xr) rfl (zw ?_);refine zC (λ_=>zw ?_) (λ_=>zw ?_)
 case' refine_2=>
  obtain rfl:i=qs.length:=by omega
  rw[qaf2]at U|-;have hl:=qdz qs (qbd p qs);obtain⟨h3,h4⟩:=qdw qgc U.own hl;exact⟨⟨B,cb,by rw[hl],by rw[hl];exact h4,h3⟩,U.mem.ext⟩
 have ae:i<qs.length:=by omega
 obtain⟨x,V⟩:∃x,qs[i]?=some x:=⟨_,zge ae⟩
 obtain⟨g,W,rfl,ak⟩:=hS.at_ (by intro e;rw[e]at ae;simp at ae);have ah:=ak i x V;have hx:∀H,Ext w3.drew H->Ext w3 H:=λH Z=>(Ext.refl w3).drew.trans Z
 refine DrawV.free Jk Jk ?_;apply zsd (qy p)
 ·intro H Z;refine LoadA.own (aj H (hx H Z)) rfl (zw ?_);exact xq
 (conv=>whnf);refine zd ?_;apply zsd (.slice (some ⟨g,W,none⟩) qs.length c)
 ·intro H Z;refine LoadV.own (ad H (hx H Z)) rfl (zw ?_);exact xq
 (conv=>whnf);refine zd ?_;refine zsd (.pointer (some ⟨g,W+i*16,none⟩)) (λH Z=>zw ?_) ?_
 ·refine⟨⟨g,W,i,rfl,by omega,by omega,?_⟩⟩;rw[af];(conv=>whnf);exact xq
 apply zsd (qy x)
 ·intro H Z;refine LoadA.cells (CellsAt.ext ah (U.mem.ext.trans (hx H Z))) rfl (zw ?_);exact xq
 refine zsd (.bool (fitQ p x)) (λH Z=>zw ?_) ?_
 ·refine zcv (qz5 p x H) ?_;rintro r wy ⟨rfl,al⟩;exact⟨al,rfl⟩
 intro w4 ai;have aa:=U.drew.call ai;have am:=hx w4 ai;cases hf:fitQ p x
 case false=>
  have e:=qajq V hf;refine zu ?_;exact⟨(i+1,B,cb),⟨rfl,rfl,by dsimp only;rw[e];rfl,Ae (Value.int .i64) Oo,trivial⟩,⟨by dsimp only;omega,by dsimp only;rw[e];exact aa⟩,by dsimp only;omega⟩
 have e:=qaf3 V hf;have an:qs.getD i zQ=x:=by rw[Ah,V];rfl
 refine zu ?_;refine LoadV.own (ad w4 am) rfl (zw ?_);refine⟨⟨g,W,i,rfl,by omega,by omega,?_⟩⟩;rw[af];refine LoadA.cells (CellsAt.ext ah aa.mem.ext) rfl (zw ?_);refine NewV.rw aa ?_;clear aa U;intro nb w5 U;have U:Rw w w5 (.slice B (mtI p qs i).length cb) 77 17 (mtI p qs i).length ((snL qs (mtI p qs i)).map snQ).flatten [(nb,.cells (snQ ((i:Int),x)).toArray 77),(pb,.cells (qf p).toArray 47),(xb,xo)]:=U;refine AppV.rw (m:=1) (news:=snQ ((i:Int),x)) qaa5 s20I s20Z Jk Jk Od U rfl (λ_=>⟨nb,0,rfl,λk v hv=>?_⟩) (qq8 _) (by rw[s20B];omega) Oo ?_
 ·rw[qa (U.mem.get mh),As];rw[An];exact hv
 clear U;intro B2 c2 w6 U;refine zu ?_;have el:(mtI p qs (i+1)).length=(mtI p qs i).length+1:=by rw[e,zla];rfl
 have ef:((snL qs (mtI p qs (i+1))).map snQ).flatten=((snL qs (mtI p qs i)).map snQ).flatten++snQ ((i:Int),x):=by
  rw[e,snL,AJ,AJ,DF,snL];simp[snQ,<-an]
 exact⟨(i+1,B2,c2),⟨rfl,rfl,by dsimp only;rw[el];rfl,Ae (Value.int .i64) Oo,trivial⟩,⟨by dsimp only;omega,by dsimp only;rw[el,ef];exact U.tail⟩,by dsimp only;omega⟩
theorem qq7{l:Ef}(h:l[j]?=some i):(snL qs l)[j]?=some ((i:Int),qs.getD i zQ):=by rw[snL,Ao,h];rfl
theorem qakc{o:Nat}{e:Int×Q4}(h:CellsAt w g o (snQ e)):CellsAt w g (o+1) (qf e.2):=λk v H=>by
 have:=h (1+k) v (by rw[snQ,DG,BR];exact H)
 rwa[<-C7]at this
theorem q11{pre:DV}{q:Q4}(h:(plT pl q).kind≠1):begQ pl pre q=false:=by rw[begQ,AM h];rfl
theorem q12{pre:DV}{q:Q4}(h:(plT pl q).text.size<pre.size):begQ pl pre q=false:=by
 rw[begQ,hasP,AM (Nat.not_le_of_lt h)];simp
theorem q8e{pre:DV}{q:Q4}(H:(plT pl q).kind=1)(U:pre.size<=(plT pl q).text.size):begQ pl pre q=seq ((plT pl q).text.extract 0 pre.size) pre:=by
 rw[begQ,hasP,AE H,AE U];simp
theorem qrt(qs:List Q4)(A:oA)(n c:Nat)(B0:oA)(m0 d0:Nat)(p:Q4)(pl:Int)(pre:DV)(w:DU)(hS:SlAt qf 16 w A qs)(hn:qs.length=n)(hb:n<=1048576):
  Gv Eg 46 [.agg #[.slice A n c,.slice B0 m0 d0],qy p,ii pl,.string pre] w λr w'=>SnR (snL qs (begL pl pre p qs)) r w'/\Ext w w':=by
 subst hn;have ae:tsz Eg 77=17:=by kernel_rfl
 have ah:=qka p qs;obtain⟨f,ef⟩:∃f:Nat->Bool,f=λi=>plOk pl&&begQ pl pre (qs.getD i zQ):=⟨_,rfl⟩
 obtain⟨M,eM⟩:∃M,M=qbd p qs:=⟨_,rfl⟩
 have eB:begL pl pre p qs=M.filter f:=by rw[begL,eM,ef]
 rw[eB];rw[<-eM]at ah;refine ze Tryz.func46 Tryz.ntmps46 ?_;refine znm (Mem.nil w) λxb w1 V=>zw ?_;refine znm V λpb w2 V=>zw ?_;refine zl V 1 ?_;refine LoadA.mem (cs:=(qf p).toArray) V (i:=0) rfl rfl (zw ?_);refine zcv (qe5 qs A qs.length c B0 m0 d0 p w2 (hS.ext V.ext) rfl hb) ?_;rintro r w3 ⟨⟨D,d,rfl,hd,hD⟩,ai⟩;have aj:Ext w w3:=V.ext.trans ai;clear V;rw[<-eM]at hD hd|-;rw[qdz]at hd|-;(conv=>whnf);refine qk (λx:Nat×oA×Nat=>[(2,ii pl),(3,.string pre),(9,.slice D M.length d),(10,.slice x.2.1 (fltI f M x.1).length x.2.2),(11,ii x.1)])
  (λx w'=>x.1<=M.length/\Rw w3 w' (.slice x.2.1 (fltI f M x.1).length x.2.2) 77 17 (fltI f M x.1).length ((snL qs (fltI f M x.1)).map snQ).flatten []) (λx=>M.length-x.1) (0,none,0)
  fq ⟨Ag _,Rw.nil (Mem.nil w3)⟩ ?_
 rintro⟨i,B,W⟩ w4 ar ⟨hi,H⟩;dsimp only at hi H|-;have au:=qae7 f M i;(conv=>whnf);refine zC (λ_=>zw ?_) (λ_=>zw ?_)
 case' refine_2=>
  obtain rfl:i=M.length:=by omega
  rw[q9i]at H|-;have hl:=qdz qs (M.filter f);obtain⟨h3,h4⟩:=qdw qgc H.own hl;exact⟨⟨B,W,by rw[hl],by rw[hl];exact h4,h3⟩,aj.trans H.mem.ext⟩
 have ak:i<M.length:=by omega
 obtain⟨j,Z⟩:∃j,M[i]?=some j:=⟨_,zge ak⟩
 have av:j<qs.length:=qyk (p:=p) (by rw[<-eM];exact zmg Z);obtain⟨x,aa⟩:∃x,qs.getD j zQ=x:=⟨_,rfl⟩
 obtain⟨g,af,rfl,al⟩:=hD.at_ (by intro e;have:=qdz qs M;rw[e]at this;simp at this;omega);have ad:=al i _ (qq7 Z);rw[aa]at ad;have am:=CellsAt.ext (qakc ad) H.mem.ext;refine⟨⟨g,af,i,rfl,by omega,by omega,?_⟩⟩;rw[ae];(conv=>whnf);refine LoadA.cells am rfl (zw ?_);refine zcv (qw7 x pl w4) ?_;rintro r w5 ⟨rfl,an⟩;replace H:=H.call an;have U:f j=(plOk pl&&begQ pl pre x):=by rw[ef];dsimp only;rw[aa]
 obtain⟨T,eT⟩:∃T,T=(if plOk pl=true then plT pl x else zTM):=⟨_,rfl⟩
 rw[<-eT];(conv=>whnf);refine NewV.rw H λtb w6 H=>zw ?_;refine StoreA.rwAll (vs:=encT T) H rfl (q9 T) ?_;clear H;intro w7 H;have H:Rw w3 w7 (.slice B (fltI f M i).length W) 77 17 (fltI f M i).length ((snL qs (fltI f M i)).map snQ).flatten [(tb,.cells #[ii T.kind,.string T.text,.string T.type,.string T.lang] 45)]:=H;cases hp:plOk pl
 case false=>
  have e:=qpz Z (show f j=false by rw[U,hp];rfl);refine zu ?_;exact⟨(i+1,B,W),⟨rfl,rfl,rfl,by dsimp only;rw[e];rfl,Ae (Value.int .i64) Oo,trivial⟩,⟨by dsimp only;omega,by dsimp only;rw[e];exact H.tail⟩,by dsimp only;omega⟩
 rw[hp,Ad rfl]at eT;rw[hp,CH]at U
 rcases BW (T.kind=1)with hk|hk
 case inr=>
  have e:=qpz Z (show f j=false by rw[U];exact q11 (by rw[<-eT];exact hk));refine zu ?_;refine zr H.mem 0 ?_;refine zv ?_;exact⟨(i+1,B,W),⟨rfl,rfl,rfl,by dsimp only;rw[e];rfl,Ae (Value.int .i64) Oo,trivial⟩,⟨by dsimp only;omega,by dsimp only;rw[e];exact H.tail⟩,by dsimp only;omega⟩
 rcases Bj T.text.size pre.size with hz|hz
 case inl=>
  have e:=qpz Z (show f j=false by rw[U];exact q12 (by rw[<-eT];exact hz));refine zu ?_;refine zr H.mem 0 ?_;refine zv ?_;refine zr H.mem 0 ?_;refine zv ?_;exact⟨(i+1,B,W),⟨rfl,rfl,rfl,by dsimp only;rw[e];rfl,Ae (Value.int .i64) Oo,trivial⟩,⟨by dsimp only;omega,by dsimp only;rw[e];exact H.tail⟩,by dsimp only;omega⟩
 have ag:f j=seq (T.text.extract 0 pre.size) pre:=by rw[U,q8e (by rw[<-eT];exact hk) (by rw[<-eT];exact hz),<-eT]
 refine zu ?_;refine zr H.mem 0 ?_;refine zv ?_;refine zr H.mem 0 ?_;refine zv ?_;refine zr H.mem 0 ?_;refine zv ?_;refine SliceS.at_ 0 pre.size rfl rfl (Ag _) hz (zu ?_);cases hs:seq (T.text.extract 0 pre.size) pre
 case false=>
  have e:=qpz Z (ag.trans hs);refine zv ?_;exact⟨(i+1,B,W),⟨rfl,rfl,rfl,by dsimp only;rw[e];rfl,Ae (Value.int .i64) Oo,trivial⟩,⟨by dsimp only;omega,by dsimp only;rw[e];exact H.tail⟩,by dsimp only;omega⟩
 have e:=q9j Z (ag.trans hs);refine zv ?_;refine⟨⟨g,af,i,rfl,by omega,by omega,?_⟩⟩;rw[ae];(conv=>whnf);refine LoadA.cells (vs:=snQ ((j:Int),x)) (CellsAt.ext ad H.mem.ext) rfl (zw ?_);refine NewV.rw H ?_;clear H;intro nb w8 H;have H:Rw w3 w8 (.slice B (fltI f M i).length W) 77 17 (fltI f M i).length ((snL qs (fltI f M i)).map snQ).flatten [(nb,.cells (snQ ((j:Int),x)).toArray 77),(tb,.cells #[ii T.kind,.string T.text,.string T.type,.string T.lang] 45)]:=H;(conv=>whnf);refine AppV.rw (m:=1) (news:=snQ ((j:Int),x)) qaa5 s20I s20Z Jk Jk Od H rfl (λ_=>⟨nb,0,rfl,λk v hv=>?_⟩) (qq8 _) (by rw[s20B];omega) Oo ?_
 ·rw[qa (H.mem.get mh),As];rw[An];exact hv
 clear H;intro B2 c2 w9 H;refine zu ?_;have el:(fltI f M (i+1)).length=(fltI f M i).length+1:=by rw[e,zla];rfl
 have ao:((snL qs (fltI f M (i+1))).map snQ).flatten=((snL qs (fltI f M i)).map snQ).flatten++snQ ((j:Int),x):=by
  rw[e,snL,AJ,AJ,DF,snL];simp[snQ,<-aa]
 exact⟨(i+1,B2,c2),⟨rfl,rfl,rfl,by dsimp only;rw[el];rfl,Ae (Value.int .i64) Oo,trivial⟩,⟨by dsimp only;omega,by dsimp only;rw[el,ao];exact H.tail.tail⟩,by dsimp only;omega⟩
end Go.Proofs.YtccmcfpmknpccaaGreatDoor
