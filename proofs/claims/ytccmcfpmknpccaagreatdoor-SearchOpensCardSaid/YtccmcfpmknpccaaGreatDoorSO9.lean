/- Lemmas and contracts of functions on the way to the law's card (part 9 of 11). -/
import Derived.Test.YtccmcfpmknpccaaGreatDoorSO8
namespace Go.Proofs.YtccmcfpmknpccaaGreatDoor
set_option maxHeartbeats 8000000
open Go.RowKit V
set_option maxHeartbeats 8000000
set_option maxRecDepth 100000
variable {T Ts ts:List TM} {qs:List Q4} {w w' w0:DA} {a b c d g i id j k m r sz tb:Nat} {P:DC} {ρ:DH} {o:Oper} {K:DG} {J:DJ->DI} {L X Y:DJ} {o':Obj} {pl:Int} {xo yo:Operand} {l:LB} {lb news xs:DK} {assign body:Code} {Q:QW} {ds:DO} {gf:FuncId} {x z:DF} {ty:DD} {A:oA}
open Classical in
noncomputable def vidR(T:List TM)(q:Q4):DF:=if ∀k,k<4->gat q k∈T\/gat q k=zTM then .tuple #[idsV λk=>noT T (gat q k),.bool true]else .tuple #[idsV λ_=>0,.bool false]
theorem q68(T:List TM)(h:VOk T)(hr:RiseT T)(hk:∀t∈T,1<=t.kind/\t.kind<=3)(he:∀t∈T,qam t=0)(b:Nat)(q:Q4)(aa:qcl q)(w:DA)(hV:VocAt w b (vocB T))(hM:MaxLenAt w)(hT:CellsAt w 4 0 qb3):
  Gv DM 74 [pp b,q4 q] w λr w'=>r=vidR T q/\Ext w w':=by
 refine ze Tryz.func74 Tryz.ntmps74 ?_;refine znm (Mem.nil w) ?_;intro W w1 H;have H:Mem w w1 [(W,.cells (qm q).toArray 47)]:=H;(conv=>whnf);refine znm H λZ w2 H=>zw ?_;refine znm H ?_;intro b6 w3 H;have H:Mem w w3 [(b6,.cells (fnA 4 (inF (idF T q 0))) 95),(Z,.cells #[ii 0,ii 0,ii 0,ii 0] 95),(W,.cells (qm q).toArray 47)]:=H;have hc:CellsAt w3 W 0 (qm q):=CellsAt.mem H (zmg (i:=2) rfl);(conv=>whnf);refine LoadA.cells (qr hc 3 Oo) rfl (zw ?_);refine LoadA.cells (qr hc 0 Oo) rfl (zw ?_);refine LoadA.cells (qr hc 1 Oo) rfl (zw ?_);refine LoadA.cells (qr hc 2 Oo) rfl (zw ?_);refine qq (λk:Nat=>[(0,pp b),(4,pp Z),(6,pp b6),(19,q4 (gQ q)),(20,ii k)])
  (λk w'=>k<=4/\(∀j,j<k->gat q j∈T\/gat q j=zTM)/\Mem w w' [(b6,.cells (fnA 4 (inF (idF T q k))) 95),(Z,.cells #[ii 0,ii 0,ii 0,ii 0] 95),(W,.cells (qm q).toArray 47)]) (λk=>4-k) 0 fq ⟨by omega,λj hj=>absurd hj (BW _),H⟩ ?_
 clear H hc;rintro k w4 ag ⟨k1,ad,H⟩;(conv=>whnf);refine zC (λ_=>zu ?_) (λ_=>zu ?_)
 ·have U:k<4:=by omega
  refine Wit.eq (y:=encT ((gQ q).at k)) (qsq (gQ q) k U) ?_;rw[qaf2 q U];(conv=>whnf);refine znm H λb8 w5 H=>zw ?_;refine StoreA.all (vs:=encT (gat q k)) H (i:=0) rfl rfl (qaa _) ?_;clear H;intro w6 H;have H:Mem w w6 [(b8,.cells (encT (gat q k)).toArray 45),(b6,.cells (fnA 4 (inF (idF T q k))) 95),(Z,.cells #[ii 0,ii 0,ii 0,ii 0] 95),(W,.cells (qm q).toArray 47)]:=H;(conv=>whnf);refine zl H 0 ?_;have ae:TermOk (gat q k):=by rw[<-qaf2 q U];have:=aa;rcases(show k=0\/k=1\/k=2\/k=3 by omega)with rfl|rfl|rfl|rfl;exact this 3;exact this 0;exact this 1;exact this 2
  refine zcv (qza T h hr hk he b (gat q k) ae w6 (hV.ext H.ext) (hM.ext H.ext) (hT.ext H.ext)) ?_;rintro r w7 ⟨rfl,af⟩;have H:=H.call af
  rcases BA (gat q k∈T\/gat q k=zTM)with V|V
  case inr=>
   rw[idR,Aa V];refine zu ?_;refine zS H 2 λw8 H=>zw ?_;refine qd (R:=λv w'=>v=vidR T q/\Ext w w') (zw ?_);refine zl H 2 ?_;exact⟨by rw[vidR,Aa (λg=>V (g k U))];rfl,H.ext⟩
  rw[idR,Ab V];refine zu ?_;rw[show 0+k*tsz DM 3=k by rw[show tsz DM 3=1 from by kernel_rfl];omega];refine StoreV.mem H (i:=1) rfl (by rw[qp];omega) rfl ?_;clear H;intro w8 H;have H:Mem w w8 [(b8,.cells (encT (gat q k)).toArray 45),(b6,.cells ((fnA 4 (inF (idF T q k))).setIfInBounds k (ii (noT T (gat q k):Nat))) 95),(Z,.cells #[ii 0,ii 0,ii 0,ii 0] 95),(W,.cells (qm q).toArray 47)]:=H;rw[qada T q U]at H;refine zu ?_;exact⟨k+1,⟨rfl,rfl,rfl,rfl,Ad (Value.int .i64) Oo,trivial⟩,⟨by omega,(by grind),H.sub Js⟩,by omega⟩
 ·refine zl H 0 ?_;refine zS H 1 λw8 H=>zw ?_;obtain rfl:k=4:=by omega
  refine qd (R:=λv w'=>v=vidR T q/\Ext w w') (zw ?_);refine zl H 1 ?_;exact⟨by rw[vidR,Ab (λj hj=>ad j hj)];rfl,H.ext⟩
theorem EncOk.idX(h:EncOk T qs)(p:Q4):∀k,k<4->InR .i64 (idP T p k):=λk _=>by
 have H:=h.set.few;rw[idP,idT]
 split
 ·exact⟨by omega,by omega⟩
 ·have U:noT T (gat p k)<=T.length+1:=by
   grind [noT]
  exact⟨by omega,by omega⟩
theorem q0h(b H:Nat)(U V W Z a5:DF)(w:DA)(h:w.heap[b]?=some (.cells #[U,V,W,Z,pp H,a5] 241)):Gv DM 73 [pp b] w λv w'=>v=pp H/\w'=w:=by
 refine ze Tryz.func73 Tryz.ntmps73 ?_;refine LoadV.own h rfl (zw ?_);simp
theorem q92(l:LB)(x U V tb:Nat)(w:DA)(H:IdxE w x U V tb l):Gv DM 26 [pp x] w λr w'=>r=ii (vNum (qk l) 3:Nat)/\Ext w w':=by
 refine ze Tryz.func26 Tryz.ntmps26 ?_;refine LoadV.of H.c (zw ?_);refine zcv (qew U tb _ _ _ _ _ w H.b) ?_;rintro r W ⟨rfl,rfl⟩;(conv=>whnf);refine zcv (qid tb _ W H.t) ?_;rintro r Z ⟨rfl,rfl⟩;conv=>whnf
 grind [Ext.refl]
section
variable {T:List TM} {qs:List Q4} (h:EncOk T qs)
include h
theorem EncOk.gatIn:∀q∈qs,∀k,k<4->gat q k∈T\/gat q k=zTM:=λq H k U=>(h.set.mem q H k U).imp id λg=>g.2.2
theorem EncOk.cnt{p:Q4}(H:KnQ T p):tcnt (qk (encP T qs)) (idP T p)=(qbe p qs).length:=by
 rw[h.t,qaab h.set.tok,qls (P:=idP T p) h.set.rise (λt U=>(h.kinds t U).1) h.gatIn (λ_ _=>rfl) H]
theorem EncOk.rows{p:Q4}(H:KnQ T p):(tmaR (qk (encP T qs)) (idP T p)).length<=1048576:=by
 have e:=Ad List.length (h.tma H);rw[A6]at e;rw[e];exact AE (qjs p qs) h.set.len
theorem EncOk.fin{q:Q4}(W:∀k,k<4->gat q k∈T\/gat q k=zTM):
  (∃i,tfin (qk (encP T qs)) (λk=>(noT T (gat q k):Int))=(i,true)/\qs[i]?=some q)\/((tfin (qk (encP T qs)) (λk=>(noT T (gat q k):Int))).2=false/\q∉qs):=by
 have H:∀k,k<4->(gat q k).kind≠4:=λk U=>by
  rcases W k U with g|g
  ·have:=(h.kinds _ g).2;omega
  ·rw[g];decide
 have eP:(λk=>(noT T (gat q k):Int))=λk=>(noT T (gat q k):Int):=rfl
 have Z:∀k,k<4->(λk=>(noT T (gat q k):Int)) k=idT T (gat q k):=(by grind [idT])
 have V:∀k,k<4->KnT T (gat q k):=λk U=>.inr (W k U)
 have hm:=qls h.set.rise (λt ht=>(h.kinds t ht).1) h.gatIn Z V;have h3:vNum (qz (noQ T qs) qs.length) 3=qs.length:=by rw[h.set.tok.vNum Od,h.set.tok.all Oo]
 have hf:=qac2 (P:=λk=>(noT T (gat q k):Int)) h.set.tok h.set.tok.canD Oo (m:=3) (k:=0) rfl h.set.tok.winT;rw[h.set.tok.lvM_all,hm]at hf;obtain⟨aa,ad⟩:=q41 (qs:=qs) H;rw[h.t,tfin,h3,h.set.tok.vNum Od]
 grind
end
theorem q1b(T:List TM)(qs:List Q4)(h:EncOk T qs)(x pb vb tb:Nat)(p:Q4)(hp:qcl p)(w:DA)(hX:IdxE w x pb vb tb (encP T qs))(hG:GlobS w):
  Gv DM 21 [pp x,q4 p] w λr w'=>r=ii ((qbe p qs).length:Nat)/\Ext w w':=by
 refine ze Tryz.func21 Tryz.ntmps21 ?_;refine znm (Mem.nil w) ?_;intro qb w1 H;have H:Mem w w1 [(qb,.cells (qm p).toArray 47)]:=H;(conv=>whnf);refine zl H 0 ?_;refine zcv (qql T qs h x p hp w1 (hX.ext H.ext).at_ (hG.ext H.ext).M (hG.ext H.ext).T) ?_;rintro r w2 ⟨rfl,ad⟩;replace H:=H.call ad
 by_cases W:KnQ T p
 case neg=>
  rw[qey,Aa W];(conv=>whnf);refine znm H λib w3 H=>zw ?_;refine StoreA.all H (i:=0) rfl rfl Od λZ H=>zu ?_;exact⟨by rw[h.tmaN W];rfl,H.ext⟩
 rw[qey,Ab W];(conv=>whnf);refine znm H λib w3 H=>zw ?_;refine zS H 0 ?_;clear H;intro Z H;have ae:Z.heap[ib]?=some (.cells #[ii (idP T p 0),ii (idP T p 1),ii (idP T p 2),ii (idP T p 3)] 95):=H.get mh;have hx:∀U,Ext Z.drew U->Ext w U:=λU V=>H.ext.trans ((Ext.refl Z).drew.trans V)
 refine zu ?_;refine DrawV.free Jk Jk (zw ?_);(iterate 3 (refine zd ?_));refine zsd (pp pb) (λU V=>zw ?_) (zw ?_)
 ·refine LoadV.of (hX.ext (hx U V)).c (zw ?_);exact xq
 refine zsd (pp tb) (λU V=>zw ?_) (zw ?_)
 ·refine zcv (qew pb tb _ _ _ _ _ U (hX.ext (hx U V)).b) ?_
  grind [Ext.refl]
 refine zsd (.agg #[ii (idP T p 0),ii (idP T p 1),ii (idP T p 2),ii (idP T p 3)]) (λU V=>zw ?_) (zw ?_)
 ·refine LoadA.own (Ext.get ((Ext.refl Z).drew.trans V) ae) rfl (zw ?_);exact xq
 refine zsd (ii ((qbe p qs).length:Nat)) (λU V=>zw ?_) (zw ?_)
 ·refine zcv (q1h tb (qk (encP T qs)) (idP T p) U (hX.ext (hx U V)).t h.vms (h.idX p) (h.rows W)) ?_;rintro r w5 ⟨rfl,aa⟩;exact⟨aa,by rw[h.cnt W]⟩
 refine zd ?_;intro w5 aa;conv=>whnf
 simp_all
theorem q9z(T:List TM)(qs:List Q4)(h:EncOk T qs)(x pb vb tb:Nat)(q:Q4)(hq:qcl q)(w:DA)(hX:IdxE w x pb vb tb (encP T qs))(hG:GlobS w):
  Gv DM 31 [pp x,q4 q] w λr w'=>(∃b,r=.bool b/\(b=true↔q∈qs))/\Ext w w':=by
 obtain⟨F,bb,ev,hF⟩:∃(F:Nat->Nat) (bb:Bool),vidR T q=.tuple #[idsV F,.bool bb]/\((bb=true/\(∀k,k<4->gat q k∈T\/gat q k=zTM)/\F=λk=>noT T (gat q k))\/(bb=false/\¬ ∀k,k<4->gat q k∈T\/gat q k=zTM)):=by
  by_cases hK:∀k,k<4->gat q k∈T\/gat q k=zTM
  ·simp_all[vidR]
  ·exact⟨_,false,by rw[vidR,Aa hK],(by grind)⟩
 unfold idsV at ev;refine ze Tryz.func31 Tryz.ntmps31 ?_;refine znm (Mem.nil w) ?_;intro qb w1 U;have U:Mem w w1 [(qb,.cells (qm q).toArray 47)]:=U;(conv=>whnf);refine DrawV.gen (λS H w'=>Al w [(qb,.cells (qm q).toArray 47)] (.cells zq 95) (.cells #[ii (F 0:Nat),ii (F 1:Nat),ii (F 2:Nat),ii (F 3:Nat)] 95) (.cells zq 95) (.cells zq 95) (S 10) false (S 11) false (H 10) undef w') rfl Jk (λH=>Al.start U.drew) ?_;clear U;(conv=>whnf);(iterate 3 (refine zg ?_));refine StepG.of (pp pb) (λS H W hk hp V=>zw ?_) (zw ?_)
 ·refine LoadV.of (hX.ext V.mem.ext).c (zw ?_);exact⟨rfl,V⟩
 refine StepG.of (pp vb) (λS H W hk hp V=>zw ?_) (zw ?_)
 ·refine zcv (q0h pb vb _ _ _ _ _ W (hX.ext V.mem.ext).b) ?_;rintro r w5 ⟨rfl,rfl⟩;exact⟨rfl,V⟩
 refine StepG.of (q4 q) (λS H W hk hp V=>zw ?_) (zw ?_)
 ·refine LoadA.own (V.mem.get (Aq.2 rfl)) rfl (zw ?_);exact⟨rfl,V⟩
 refine StepG.of (.tuple #[.agg #[ii (F 0:Nat),ii (F 1:Nat),ii (F 2:Nat),ii (F 3:Nat)],.bool bb]) (λS H W hk hp V=>?_) (zw ?_)
 ·have hv:=(hX.ext V.mem.ext).v;rw[h.v]at hv;(conv=>whnf);refine zcv (q68 T h.voc h.set.rise h.kinds h.term vb q hq W hv (hG.ext V.mem.ext).M (hG.ext V.mem.ext).T) ?_;rintro r w5 ⟨rfl,aa⟩;exact⟨ev,V.call aa⟩
 (iterate 3 (refine zg ?_));refine StepG.any (λS H W hk hp V=>?_) (zw ?_)
 ·dsimp only at V;rw[hk]at V;(conv=>whnf);refine⟨λx wx hb hw=>?_⟩;subst hb hw;(conv=>whnf);exact⟨trivial,V.new1⟩
 refine StepG.of undef (λS H W hk hp V=>?_) (zw ?_)
 ·dsimp only at V;have ad:S 10=true:=hp 10 Od;rw[hk,ad]at V;obtain⟨b,hv,M,ae,hK⟩:=V.put1;rw[ql hv];(conv=>whnf);refine zS ae 0 λwx af=>zw ?_;exact⟨rfl,by show Al _ _ _ _ _ _ (S 10) _ true _ _ _ _;rw[ad];exact hK af rfl⟩
 refine zg ?_;intro H w3 V;obtain⟨nb,hv,U⟩:=V.done1;rw[ql hv];clear V hv;conv=>whnf
 rcases hF with⟨rfl,hK,hF⟩|⟨rfl,hK⟩
 case inr=>
  refine zu ?_;refine⟨⟨false,rfl,Js,λg=>absurd (h.gatIn q g) hK⟩,U.ext⟩
 have ag:w3.heap[nb]?=some (.cells #[ii (F 0:Nat),ii (F 1:Nat),ii (F 2:Nat),ii (F 3:Nat)] 95):=U.get mh;have aj:w3.heap[qb]?=some (.cells (qm q).toArray 47):=U.get (zmc (Aq.2 rfl));have hx:∀W,Ext w3.drew W->Ext w3 W:=λW hd=>(Ext.refl w3).drew.trans hd
 have Z:=h.fin hK;rw[show(λk=>(noT T (gat q k):Int))=λk=>(F k:Int)by rw[hF]]at Z;obtain⟨R,eR⟩:∃R,R=tfin (qk (encP T qs)) λk=>(F k:Int):=⟨_,rfl⟩
 rw[<-eR]at Z;obtain⟨i,bf⟩:=R;refine zu ?_;refine DrawV.free Jk Jk (zw ?_);(iterate 3 (refine zd ?_));refine zsd (pp pb) (λW hd=>zw ?_) (zw ?_)
 ·refine LoadV.of (hX.ext (U.ext.trans (hx W hd))).c (zw ?_);exact xq
 refine zsd (pp tb) (λW hd=>zw ?_) (zw ?_)
 ·refine zcv (qew pb tb _ _ _ _ _ W (hX.ext (U.ext.trans (hx W hd))).b) ?_
  grind [Ext.refl]
 refine zsd (.agg #[ii (F 0:Nat),ii (F 1:Nat),ii (F 2:Nat),ii (F 3:Nat)]) (λW hd=>zw ?_) (zw ?_)
 ·refine LoadA.own (Ext.get (hx W hd) ag) rfl (zw ?_);exact xq
 refine zsd (.tuple #[ii (i:Nat),.bool bf]) (λW hd=>zw ?_) (zw ?_)
 ·refine zcv (q6o tb (qk (encP T qs)) (λk=>(F k:Int)) W (hX.ext (U.ext.trans (hx W hd))).t h.vms) ?_
  grind
 (iterate 5 (refine zd ?_));intro w4 ah;replace U:=U.drew.call ah
 rcases Z with⟨i',e1,hi⟩|⟨e1,ak⟩
 case inr=>
  dsimp only at e1;subst e1;refine zu ?_;exact⟨(by grind),U.ext⟩
 injection e1 with e1 e2
 subst e1 e2;have al:=(Ae.1 hi).1;have ai:=h.set.len;refine zu ?_;refine LoadV.of (hX.ext U.ext).c (zw ?_);refine zcv (qsn pb (encP T qs) i w4 (hX.ext U.ext).pk Oo (hG.ext U.ext).M (hG.ext U.ext).T (hG.ext U.ext).K) ?_;rintro r w5 ⟨rfl,aa⟩;replace U:=U.call aa;rw[h.pq hi];(conv=>whnf);refine znm U λob w6 U=>zw ?_;refine StoreA.all (vs:=qm q) U (i:=0) rfl rfl (qcj q) λw7 U=>zu ?_;refine LoadA.mem (cs:=(qm q).toArray) U (i:=0) rfl rfl (zu ?_);refine LoadA.mem (cs:=(qm q).toArray) U (i:=2) rfl rfl (zu ?_);refine RunV.eqQd (a:=q) (b:=q) ?_;rw[show qdv q q=true from(qmh).2 rfl];refine zu ?_;exact⟨(by grind),U.ext⟩
theorem qpj(s p:DB)(w:DA):Gv DM 134 [.string s,.string p] w λr w'=>r=.bool (hasP s p)/\w'=w:=by
 have H:Gv DM 211 [.string s,.string p] w λr w'=>r=.bool (hasP s p)/\w'=w:=by
  rcases AN s.size p.size with h|h
  ·have e:hasP s p=false:=by rw[hasP,Ax (Nat.not_le_of_lt h)];rfl
   rw[e];refine ze Tryz.func211 Tryz.ntmps211 ?_;refine zv ?_;exact⟨rfl,rfl⟩
  ·have e:hasP s p=seq (s.extract 0 p.size) p:=by rw[hasP,At h];rfl
   rw[e];refine ze Tryz.func211 Tryz.ntmps211 ?_;refine zv ?_;refine SliceS.at_ 0 p.size rfl rfl (Af _) h (zu ?_);exact⟨rfl,rfl⟩
 refine ze Tryz.func134 Tryz.ntmps134 ?_;refine zcv (H) ?_;rintro r U ⟨rfl,rfl⟩;(conv=>whnf);exact⟨rfl,rfl⟩
theorem q0u(q:Q4)(w:DA):Gv DM 199 [q4 q] w λr w'=>r=qy q.s/\Ext w w':=by
 refine ze Tryz.func199 Tryz.ntmps199 ?_;refine znm (Mem.nil w) ?_;intro U W H;have V:CellsAt W U 0 (qm q):=CellsAt.mem H (Aq.2 rfl);(conv=>whnf);refine znm H ?_;clear H;intro rb Z H;have V:CellsAt Z U 0 (qm q):=CellsAt.mem H (zmc (Aq.2 rfl));(conv=>whnf);refine LoadA.cells (qr V 0 Oo) rfl (zw ?_);refine zS H 0 λw3 H=>zw ?_;refine qd (R:=λr w'=>r=qy q.s/\Ext w w') (zw ?_);refine zl H 0 ?_;exact⟨rfl,H.ext⟩
theorem q0v(q:Q4)(w:DA):Gv DM 200 [q4 q] w λr w'=>r=qy q.p/\Ext w w':=by
 refine ze Tryz.func200 Tryz.ntmps200 ?_;refine znm (Mem.nil w) ?_;intro U W H;have V:CellsAt W U 0 (qm q):=CellsAt.mem H (Aq.2 rfl);(conv=>whnf);refine znm H ?_;clear H;intro rb Z H;have V:CellsAt Z U 0 (qm q):=CellsAt.mem H (zmc (Aq.2 rfl));(conv=>whnf);refine LoadA.cells (qr V 1 Oo) rfl (zw ?_);refine zS H 0 λw3 H=>zw ?_;refine qd (R:=λr w'=>r=qy q.p/\Ext w w') (zw ?_);refine zl H 0 ?_;exact⟨rfl,H.ext⟩
theorem q0w(q:Q4)(w:DA):Gv DM 201 [q4 q] w λr w'=>r=qy q.o/\Ext w w':=by
 refine ze Tryz.func201 Tryz.ntmps201 ?_;refine znm (Mem.nil w) ?_;intro U W H;have V:CellsAt W U 0 (qm q):=CellsAt.mem H (Aq.2 rfl);(conv=>whnf);refine znm H ?_;clear H;intro rb Z H;have V:CellsAt Z U 0 (qm q):=CellsAt.mem H (zmc (Aq.2 rfl));(conv=>whnf);refine LoadA.cells (qr V 2 Oo) rfl (zw ?_);refine zS H 0 λw3 H=>zw ?_;refine qd (R:=λr w'=>r=qy q.o/\Ext w w') (zw ?_);refine zl H 0 ?_;exact⟨rfl,H.ext⟩
theorem q0x(q:Q4)(w:DA):Gv DM 202 [q4 q] w λr w'=>r=qy q.g/\Ext w w':=by
 refine ze Tryz.func202 Tryz.ntmps202 ?_;refine znm (Mem.nil w) ?_;intro U W H;have V:CellsAt W U 0 (qm q):=CellsAt.mem H (Aq.2 rfl);(conv=>whnf);refine znm H ?_;clear H;intro rb Z H;have V:CellsAt Z U 0 (qm q):=CellsAt.mem H (zmc (Aq.2 rfl));(conv=>whnf);refine LoadA.cells (qr V 3 Oo) rfl (zw ?_);refine zS H 0 λw3 H=>zw ?_;refine qd (R:=λr w'=>r=qy q.g/\Ext w w') (zw ?_);refine zl H 0 ?_;exact⟨rfl,H.ext⟩
def PlF(pl:Int)(g:FuncId):Prop:=∀q w,Gv DM g [q4 q] w λr w'=>r=qy (plT pl q)/\Ext w w'
def RchR(pl:Int)(v:DF):Prop:=
 (plOk pl=false/\v=.tuple #[.agg #[.nilFunc],.bool false])\/(plOk pl=true/\∃g,v=.tuple #[.agg #[.func (.func g) #[] #[]],.bool true]/\PlF pl g)
theorem qs0(pl:Int)(w:DA):Gv DM 122 [ii pl] w λr w'=>RchR pl r/\Ext w w':=by
 refine ze Tryz.func122 Tryz.ntmps122 ?_;refine znm (Mem.nil w) λrb w1 H=>zw ?_;refine znm H ?_;clear H;intro ab w2 H
 rcases BA (plOk pl=true)with W|W
 case inr=>
  replace W:plOk pl=false:=by simpa using W
  have hn:=q5e.1 W
  rcases Dv pl 0 with h0|h0
  all_goals
   refine zu ?_;refine zS H 1 λZ H=>zw ?_;refine qd (R:=λr w'=>RchR pl r/\Ext w w') (zw ?_);refine zl H 1 ?_;exact⟨.inl ⟨W,rfl⟩,H.ext⟩
 have aa:=qyg.1 W;obtain⟨k,rfl⟩:∃k:Nat,pl=(k:Int):=⟨pl.toNat,by omega⟩
 have hk:k<4:=by omega
 have U:∀g,(∀q w,Gv DM g [q4 q] w λr w'=>r=qy (q.at k)/\Ext w w')->PlF (k:Int) g:=λg hg q w=>hg q w
 refine zu ?_;refine ElemV.own1 k rfl Oo ?_
 match k,hk with
 | 0,_=>
  (conv=>whnf);refine LoadA.part (vs:=[.func (.func 199) #[] #[]]) (H.get mh) rfl (λi hi=>by have V:i<1:=hi;obtain rfl:i=0:=(by omega);rfl) (zw ?_);refine zS H 1 λZ H=>zw ?_;refine qd (R:=λr w'=>RchR ((0:Nat):Int) r/\Ext w w') (zw ?_);refine zl H 1 ?_;exact⟨.inr ⟨rfl,_,rfl,U _ q0u⟩,H.ext⟩
 | 1,_=>
  (conv=>whnf);refine LoadA.part (vs:=[.func (.func 200) #[] #[]]) (H.get mh) rfl (λi hi=>by have V:i<1:=hi;obtain rfl:i=0:=(by omega);rfl) (zw ?_);refine zS H 1 λZ H=>zw ?_;refine qd (R:=λr w'=>RchR ((1:Nat):Int) r/\Ext w w') (zw ?_);refine zl H 1 ?_;exact⟨.inr ⟨rfl,_,rfl,U _ q0v⟩,H.ext⟩
 | 2,_=>
  (conv=>whnf);refine LoadA.part (vs:=[.func (.func 201) #[] #[]]) (H.get mh) rfl (λi hi=>by have V:i<1:=hi;obtain rfl:i=0:=(by omega);rfl) (zw ?_);refine zS H 1 λZ H=>zw ?_;refine qd (R:=λr w'=>RchR ((2:Nat):Int) r/\Ext w w') (zw ?_);refine zl H 1 ?_;exact⟨.inr ⟨rfl,_,rfl,U _ q0w⟩,H.ext⟩
 | 3,_=>
  (conv=>whnf);refine LoadA.part (vs:=[.func (.func 202) #[] #[]]) (H.get mh) rfl (λi hi=>by have V:i<1:=hi;obtain rfl:i=0:=(by omega);rfl) (zw ?_);refine zS H 1 λZ H=>zw ?_;refine qd (R:=λr w'=>RchR ((3:Nat):Int) r/\Ext w w') (zw ?_);refine zl H 1 ?_;exact⟨.inr ⟨rfl,_,rfl,U _ q0x⟩,H.ext⟩
structure SbeΦ(x pb vb tb:Nat)(T:List TM)(qs:List Q4)(p:Q4)(pl:Int)(pre:DB)(b1 b2 b3 b4:Nat)(w:DA):Prop where
 X:IdxE w x pb vb tb (encP T qs)
 G:GlobS w
 c1:w.cell? ⟨b1,0,none⟩=some (pp x)
 c2:CellsAt w b2 0 (qm p)
 c3:w.cell? ⟨b3,0,none⟩=some (ii pl)
 c4:w.cell? ⟨b4,0,none⟩=some (.string pre)
theorem qvs(x:Nat)(p:Q4)(pl:Int)(pre:DB)(w:DA):Gv DM 64 [pp x,q4 p,ii pl,.string pre] w λr w'=>
  ∃b1 b2 U V,r=.func (.func 133) #[] #[pp U,pp b1,pp b2,pp V]/\
   Mem w w' [(V,.cells #[.string pre] 9),(U,.cells #[ii pl] 3),(b2,.cells (qm p).toArray 47),(b1,.cells #[pp x] 26)]:=by
 refine ze Tryz.func64 Tryz.ntmps64 ?_;refine znm (Mem.nil w) λb1 W H=>zw ?_;refine znm H λb2 Z H=>zw ?_;refine znm H λU w3 H=>zw ?_;refine znm H λV w4 H=>zw ?_;exact⟨b1,b2,U,V,rfl,H⟩
theorem qvt(T:List TM)(qs:List Q4)(h:EncOk T qs)(x pb vb tb:Nat)(p:Q4)(hp:qcl p)(pl:Int)(pre:DB)(b1 b2 b3 b4:Nat):
  SeqC DM 133 [pp b3,pp b1,pp b2,pp b4] ((begL pl pre p qs).map (sRow qs)) (SbeΦ x pb vb tb T qs p pl pre b1 b2 b3 b4):=by
 intro y I Ix w H Z hI W hy;have aa:((begL pl pre p qs).map (sRow qs)).length=(begL pl pre p qs).length:=A6 ..;refine gvW Jk Tryz.func133 rfl Tryz.ntmps133 rfl (zw ?_);refine NewV.carr (H 0) W λyb w1 W=>zw ?_;refine LoadV.of (hI _ _ _ W).c3 (zw ?_);refine zcv (qs0 pl w1) ?_;rintro r w2 ⟨hr,ao⟩;replace W:=(H 0).ext W ao
 rcases hr with⟨ad,rfl⟩|⟨ad,g,rfl,hg⟩
 case inl=>
  (conv=>whnf);refine NewV.carr (H 0) W λab w3 W=>zw ?_;refine StoreA.carr (H 0) (A:=[]) W rfl (by simp[Value.oneCell']) λw4 W=>zu ?_;refine .inl ?_;rw[aa,qacf pre p qs ad];exact(H 0).drop ((H 0).drop W)
 (conv=>whnf);refine NewV.carr (H 0) W λab w3 W=>zw ?_;refine StoreA.carr (H 0) (A:=[]) W rfl (by simp[Value.oneCell']) λw4 W=>zu ?_;refine LoadV.of (hI _ _ _ W).c1 (zw ?_);refine LoadA.cells (hI _ _ _ W).c2 rfl (zw ?_);refine zcv (qje x p w4) ?_;rintro r w5 ⟨c1,c2,rfl,aq⟩;replace W:=(H 0).call W aq;obtain⟨f,ef⟩:∃f:Nat->Bool,f=λi=>plOk pl&&begQ pl pre (qs.getD i zQ):=⟨_,rfl⟩
 obtain⟨M,eM⟩:∃M,M=qbe p qs:=⟨_,rfl⟩
 have eB:begL pl pre p qs=M.filter f:=by rw[begL,eM,ef]
 rw[eB]at aa hy|-;obtain⟨L,hL⟩:∃L:DJ,L=[(c2,.cells (qm p).toArray 47),(c1,.cells #[pp x] 26),(ab,.cells #[.func (.func g) #[] #[]] 233),(yb,.cells #[.func (.yield y) #[] #[]] 150)]:=⟨_,rfl⟩
 have U:I 0 ([]++L) w5:=by rw[hL];exact W
 clear W;have ah:(c1,Obj.cells #[pp x] 26)∈L:=by rw[hL];simp
 have ai:(c2,Obj.cells (qm p).toArray 47)∈L:=by rw[hL];simp
 have aj:(ab,Obj.cells #[.func (.func g) #[] #[]] 233)∈L:=by rw[hL];simp
 have ak:(yb,Obj.cells #[.func (.yield y) #[] #[]] 150)∈L:=by rw[hL];simp
 have ar:(M.map (sRow qs)).length=M.length:=A6 ..;have au:∀{k:Nat} {X:DJ} {w':DA},I k (X++L) w'->w'.heap[ab]?=some (.cells #[.func (.func g) #[] #[]] 233):=λhh=>(H _).get hh (Ac _ aj)
 have av:∀{k:Nat} {X:DJ} {w':DA},I k (X++L) w'->w'.heap[yb]?=some (.cells #[.func (.yield y) #[] #[]] 150):=λhh=>(H _).get hh (Ac _ ak)
 have U:I (cntB f M 0) ([]++L) w5:=U;(conv=>whnf);refine q5k (Φ:=SmaΦ x pb vb tb T qs p c1 c2) (lb:=[pp c1,pp c2]) (xs:=M.map (sRow qs)) rfl Jk (by rw[eM];exact qjf T qs h x pb vb tb p hp (h.idX p) c1 c2) Od ?_
  (λk X w'=>I (cntB f M k) (X++L) w') (λc k X w'=>(c=.ret/\cntB f M k<(M.filter f).length)/\Ix (cntB f M k) (X++L) w')
  (λk=>(H _).tail _) (λc k=>Carr.and ((Z _).tail _))
  (λk X w' hh=>⟨(hI _ _ _ hh).X,(hI _ _ _ hh).G,by rw[qa ((H _).get hh (Ac _ ah))];rfl,λj v hv=>by rw[qa ((H _).get hh (Ac _ ai)),As,An];exact hv⟩) U ?_ ?_ ?_
 ·intro r hr;obtain⟨j,_,rfl⟩:=AA.1 hr;rfl
 ·rintro l2 D oa od k r X w6 hr U;rw[Ao]at hr;cases V:M[k]? with
  | none=>rw[V]at hr;cases hr
  | some i=>
  rw[V,Be,AI]at hr;subst hr;obtain⟨q,eq⟩:∃q,qs.getD i zQ=q:=⟨_,rfl⟩
  have ae:f i=begQ pl pre q:=by rw[ef];dsimp only;rw[ad,eq];rfl
  rw[show sRow qs i=[ii i,q4 q]by rw[sRow,eq]];(conv=>whnf);refine NewV.carr (H _) U λnb w8 U=>zw ?_;refine StoreA.carr (vs:=qm q) (H _) (A:=[]) U rfl (qcj q) λw9 U=>zw ?_;refine⟨rfl,(nb,.cells (qm q).toArray 47)::(D,.deferred (some []))::X,(H _).perm U (List.Perm.swap _ _ _),?_⟩;clear U;intro w9 U;have aw:=(H _).get U (zmc mh);(conv=>whnf);refine LoadV.own (au U) rfl (zw ?_);refine LoadA.own aw rfl (zw ?_);refine zcv (hg q w9) ?_;rintro r a0 ⟨rfl,al⟩;replace U:=(H _).ext U al;obtain⟨t,et⟩:∃t,t=plT pl q:=⟨_,rfl⟩
  rw[<-et];(conv=>whnf);refine NewV.carr (H _) U λa1 a2 U=>zw ?_;refine StoreA.carr (vs:=encT t) (H _) (A:=[]) U rfl (qaa t) ?_;clear U;intro ax U;have am:=(H _).get U mh;(conv=>whnf);refine LoadV.own am rfl ?_
  rcases BA (t.kind=1)with hk|hk
  case inr=>
   have e:=q2j V (show f i=false by rw[ae];rw[begQ,<-et,Ax hk];rfl);refine zu ?_;show I (cntB f M (k+1)) _ _;rw[e];exact(H _).dropM (A:=[(l2,od)]) ((H _).drop U)
  refine zu ?_;refine LoadV.own am rfl (zu ?_);refine LoadV.of (hI _ _ _ U).c4 (zu ?_);refine zcv (qpj t.text pre ax) ?_;rintro r ay ⟨rfl,rfl⟩;cases hs:hasP t.text pre
  case false=>
   have e:=q2j V (show f i=false by rw[ae];rw[begQ,<-et,hs,Cw]);refine zu ?_;show I (cntB f M (k+1)) _ _;rw[e];exact(H _).dropM (A:=[(l2,od)]) ((H _).drop U)
  have af:f i=true:=by rw[ae];rw[begQ,<-et,hs,At hk];rfl
  have e:=q76 V af;have an:=qw9 V af;have ag:=qacs V af;refine zu ?_;refine LoadV.own (av ((H _).drop U)) rfl (zu ?_);refine LoadA.own ((H _).get U (zmc (zmc mh))) rfl (zu ?_);have az:((M.filter f).map (sRow qs))[cntB f M k]?=some [ii i,q4 q]:=by
   rw[Ao,an,Be,sRow,eq]
  refine YieldV.mono (hy _ _ _ ay az U) ?_;clear U;rintro v a3 (⟨rfl,U⟩|⟨rfl,hX⟩)
  ·refine zu ?_;show I (cntB f M (k+1)) _ _;rw[e];exact(H _).dropM (A:=[(l2,od)]) ((H _).drop U)
  ·refine zu ?_;exact⟨⟨rfl,ag⟩,(Z _).dropM (A:=[(l2,od)]) ((Z _).drop hX)⟩
 ·rintro D w6 U;rw[ar,q75]at U;(conv=>whnf);refine LeaveV.marks (J:=λX w'=>I (M.filter f).length X w') (H _) ?_ (D:=D) (Ds:=[]) ((H _).dropL ((H _).perm U Ap));intro w' h';(conv=>whnf);exact .inl (by rw[aa];exact h')
 ·rintro D c k w6 hk ⟨⟨rfl,ag⟩,hX⟩;(conv=>whnf);refine LeaveV.marks (J:=λX w'=>Ix (cntB f M k) X w') (Z _) ?_ (D:=D) (Ds:=[]) ((Z _).dropL ((Z _).perm hX Ap));intro w' h';(conv=>whnf);exact .inr ⟨cntB f M k,by rw[aa];exact ag,h'⟩
abbrev TN:=TM×Nat
def meT(i:Nat)(e:TN):MapEntry:=⟨qy e.1,ii e.2,i⟩
def mpO(l:List TN):Obj:=.map (l.mapIdx meT).toArray l.length
def ixL(t:TM):List TN->Nat
 | []=>0
 | e::l=>if qal t e.1=true then 0 else ixL t l+1
def cnL(t:TM):List TN->Nat
 | []=>0
 | e::l=>if qal t e.1=true then e.2 else cnL t l
def adL(t:TM):List TN->List TN
 | []=>[(t,0)]
 | e::l=>if qal t e.1=true then e::l else e::adL t l
def icT(t:TM):List TN->List TN
 | []=>[(t,1)]
 | e::l=>if qal t e.1=true then(e.1,e.2+1)::l else e::icT t l
theorem q3w(t:TM):∀l:List TN,ixL t l<=l.length
 | []=>Ai _
 | e::l=>by
  have:=q3w t l;rw[ixL]
  split<;>simp<;>omega
theorem qwo{t:TM}:∀{l:List TN},ixL t l<l.length->adL t l=l
 | [],h=>(by grind)
 | e::l,h=>by
  rw[ixL]at h;rw[adL]
  split
  ·rfl
  ·rename_i H
   rw[Aa H]at h;rw[qwo (by simpa using h)]
theorem qop{t:TM}:∀{l:List TN},¬ixL t l<l.length->adL t l=l++[(t,0)]
 | [],_=>rfl
 | e::l,h=>by
  rw[ixL]at h;rw[adL]
  split
  ·rename_i H
   rw[Ab H]at h;exact absurd (Dk _) h
  ·rename_i H
   rw[Aa H]at h;rw[qop (by simpa using h)];rfl
theorem qup{t:TM}{l:List TN}(h:¬ixL t l<l.length):ixL t l=l.length:=by grind [q3w]
theorem qox{t:TM}:∀{l:List TN},¬ixL t l<l.length->cnL t l=0
 | [],_=>rfl
 | e::l,h=>by
  rw[ixL]at h;rw[cnL]
  split
  ·rename_i H
   rw[Ab H]at h;exact absurd (Dk _) h
  ·rename_i H
   rw[Aa H]at h;exact qox (by simpa using h)
theorem q3v{t:TM}:∀{l:List TN},ixL t l<l.length->l[ixL t l]?=some (t,cnL t l)
 | [],h=>(by grind)
 | e::l,h=>by
  rw[ixL]at h;rw[ixL,cnL]
  split
  ·rename_i H
   rw[q7.1 H];rfl
  ·rename_i H
   rw[Aa H]at h;rw[B7];exact q3v (by simpa using h)
theorem qafo(t:TM)(l:List TN):ixL t l<(adL t l).length:=by
 grind [qwo,qop,qup]
theorem qaa5(t:TM):∀l:List TN,icT t l=(adL t l).set (ixL t l) (t,cnL t l+1)
 | []=>rfl
 | e::l=>by
  rw[icT,adL,ixL,cnL]
  split
  ·rename_i H
   rw[q7.1 H];rfl
  ·rw[qaa5 t l];rfl
theorem qaaq(t:TM):∀l:List TN,cnL t (adL t l)=cnL t l
 | []=>by rw[adL];simp[cnL]
 | e::l=>by
  rw[adL]
  split
  ·rfl
  ·rename_i H
   rw[cnL,cnL,Aa H,Aa H,qaaq t l]
theorem qaa6(t:TM):∀l:List TN,cnL t (icT t l)=cnL t l+1
 | []=>by
  grind [q7,icT,cnL]
 | e::l=>by
  rw[icT]
  split
  ·rename_i H
   rw[cnL,cnL,Ab H,Ab H]
  ·rename_i H
   rw[cnL,cnL,Aa H,Aa H,qaa6 t l]
theorem q2i{t:TM}:∀{l:List TN},(∀e∈l,1<=e.2)->(cnL t l=0↔t∉l.map (·.1))
 | [],_=>by simp[cnL]
 | e::l,h=>by
  rw[cnL]
  split
  ·rename_i H
   have:=h e mh;rw[q7.1 H];simp only[AB,Ay,true_or,not_true,iff_false];omega
  ·rename_i H
   rw[q2i (λx U=>h x (zmc U))];simp only[AB,Ay,not_or];exact⟨λg=>⟨λV=>H (q7.2 V),g⟩,λg=>g.2⟩
theorem q3o{t:TM}:∀{l:List TN},(∀e∈l,1<=e.2)->∀e∈icT t l,1<=e.2
 | [],_=>by simp[icT]
 | e::l,h=>by
  rw[icT]
  split
  ·grind
  ·intro x H
   rcases Ay.1 H with rfl|H
   ·exact h _ mh
   ·exact q3o (λy U=>h y (zmc U)) x H
open Classical in
theorem qxv(t:TM):∀l:List TN,(icT t l).map (·.1)=if t∈l.map (·.1)then l.map (·.1)else l.map (·.1)++[t]
 | []=>by simp[icT]
 | e::l=>by
  rw[icT]
  split
  ·rename_i U
   rw[q7.1 U];simp
  ·rename_i U
   have V:t≠e.1:=λW=>U (q7.2 W)
   rw[AB,qxv t l]
   by_cases H:t∈l.map (·.1)
   ·rw[Ab H,AB,Ab (zmc H)]
   ·rw[Aa H,Aa (by rw[AB,Ay,not_or];exact⟨V,H⟩)];rfl
theorem q3p(t:TM):∀l:List TN,((icT t l).map (·.2)).sum=(l.map (·.2)).sum+1
 | []=>rfl
 | e::l=>by
  rw[icT]
  split
  ·simp only[AB,D4];omega
  ·rw[AB,D4,q3p t l];simp only[AB,D4];omega
theorem qaaw(t:TM):∀l:List TN,cnL t l<=(l.map (·.2)).sum
 | []=>Ai _
 | e::l=>by
  have:=qaaw t l;rw[cnL,AB,D4]
  split<;>omega
theorem mapK:DM.underlying 236=some (.map 45 3):=by kernel_rfl
theorem qyt(t:TM)(b:Bool)(d:Nat)(w:DA):(Instr.checkKey b (d+2) 45 (qy t)).run DM w=.ok () w:=by
 have H:=Tryz.underlying3;have U:=Tryz.isAgg3;have V:=Tryz.sizeOf3;have W:=Tryz.underlying9;have Z:=Tryz.isAgg9;have z9:=Tryz.sizeOf9;simp only[qy,Instr.checkKey];simp only[Sem.run_bind,run_underlying Tryz.underlying45,Result.andThen_ok];rw[<-Array.forIn_toList];simp only[List.forIn_cons,List.forIn_nil]
 go_simp
theorem qaer(a b:TM)(w:DA):(Op.equal 45 (qy a) (qy b)).run DM w=.ok (qal a b) w:=qa0 9998 a b w
theorem qys(t:TM)(w:DA):∀(l:List TN) (es:List MapEntry) (i:Nat),(∀(j:Nat) e,l[j]?=some e->∃b,es[j]?=some ⟨qy e.1,ii e.2,b⟩)->es.length=l.length->
  (Instr.findAsking 45 (qy t) es i).run DM w=.ok (if ixL t l<l.length then some (i+ixL t l,ii (cnL t l))else none) w
 | [],es,i,_,H=>by
  simp_all[Instr.findAsking]
 | e::l,[],i,_,H=>by simp at H
 | e::l,x::es,i,h,H=>by
  obtain⟨b,U⟩:=h 0 e rfl;rw[AQ,AI]at U;subst U;have W:=qys t w l es (i+1) (λj y V=>h (j+1) y V) (by simpa using H);rw[Instr.findAsking,Sem.run_bind,qaer,Result.andThen_ok,ixL,cnL];cases Z:qal t e.1
  ·grind
  ·simp
theorem qhr(l:List TN)(j:Nat):(l.mapIdx meT)[j]?=(l[j]?).map (meT j):=List.getElem?_mapIdx
theorem qta(t:TM)(l:List TN)(w:DA):(Instr.findKey 45 (qy t) (l.mapIdx meT)).run DM w=.ok (if ixL t l<l.length then some (ixL t l,ii (cnL t l))else none) w:=by
 have H:=qys t w l (l.mapIdx meT) 0 (λj e U=>⟨j,by rw[qhr,U];rfl⟩) Js;rw[As]at H;rw[Instr.findKey,Sem.run_bind,run_underlying Tryz.underlying45,Result.andThen_ok];cases V:l with
 | nil=>rfl
 | cons e W=>
  rw[V]at H;have Z:∀d:Array Field,Instr.findNow (.struct d) (qy t) ((e::W).mapIdx meT) 0=none:=λd=>by
   rw[List.mapIdx_cons,Instr.findNow];rfl
  simp_all
theorem qli{l:List TN}(h:w.heap[r]?=some (mpO l)):(getObj r).run DM w=.ok (.map (l.mapIdx meT).toArray l.length) w:=by
 simp[getObj,Sem.run,h,mpO]
theorem qmn{l:List TN}(o:Obj)(h:w.heap[r]?=some (mpO l)):(setObj r o).run DM w=.ok () (setO w r o):=by
 simp[setObj,Sem.run,h,setO,mpO]
theorem qafk(w:DA):(zeroValue 3).run DM w=.ok (ii 0) w:=by kernel_rfl
theorem qtb(t:TM)(l:List TN)(r:Nat)(w:DA)(h:w.heap[r]?=some (mpO l)):(Instr.lookup 236 (.map (some r)) (qy t) false).run DM w=.ok (ii (cnL t l)) w:=by
 rw[Instr.lookup,Sem.run_bind,run_underlying mapK,Result.andThen_ok];simp only[Sem.run_bind,qli h,Result.andThen_ok,Sem.run_pure];rw[show(10000:Nat)=9998+2 from rfl,qyt,Result.andThen_ok,qta,Result.andThen_ok]
 by_cases hi:ixL t l<l.length
 ·simp_all
 ·rw[Aa hi,qox hi];simp
theorem q50(t:TM)(n:Nat):Instr.sameBits (n+1) (qy t) (qy t)=true:=by
 simp[beq_toListBytes,qy,Instr.sameBits]
theorem q07(t:TM)(w:DA):(Instr.keyThatStays (qy t) (qy t)).run DM w=.ok (qy t) w:=by
 simp[Instr.keyThatStays,q50]
theorem quz(l:List TN)(i:Nat)(t:TM)(n:Nat)(h:l[i]?=some (t,n)):(l.mapIdx meT).toArray.modify i (λe=>{ e with key:=qy t })=(l.mapIdx meT).toArray:=by
 apply Array.ext_getElem?;intro j;rw[Dh]
 split
 ·rename_i e
  subst e;rw[An,qhr,h];rfl
 ·rfl
theorem q9l(l:List TN)(t:TM)(n:Nat):(l.mapIdx meT).toArray.push ⟨qy t,ii n,l.length⟩=((l++[(t,n)]).mapIdx meT).toArray:=by
 grind [meT]
theorem q9s(t:TM)(l:List TN)(r:Nat)(w:DA)(h:w.heap[r]?=some (mpO l)):(Instr.mapEntry 236 (.map (some r)) (qy t)).run DM w=.ok (.tuple #[ii (cnL t l),ii (ixL t l)]) (setO w r (mpO (adL t l))):=by
 rw[Instr.mapEntry,Sem.run_bind,run_underlying mapK,Result.andThen_ok];simp only[Sem.run_bind,qli h,Result.andThen_ok];rw[show(10000:Nat)=9998+2 from rfl,qyt,Result.andThen_ok,qta,Result.andThen_ok]
 by_cases hi:ixL t l<l.length
 ·have H:=q3v hi;have U:(l.mapIdx meT).toArray[ixL t l]?=some (meT (ixL t l) (t,cnL t l)):=by simp_all
  rw[Ab hi];simp only[U,Be,BL];rw[show(meT (ixL t l) (t,cnL t l)).key=qy t from rfl,Sem.run_bind,q07,Result.andThen_ok,Sem.run_bind,quz l _ t _ H,qmn _ h,Result.andThen_ok,qwo hi];rfl
 ·rw[Aa hi];simp only[Sem.run_bind,qafk,Result.andThen_ok];rw[qmn _ h,Result.andThen_ok,qop hi,qox hi,qup hi];have:=q9l l t 0
  simp_all[mpO,goInt]
theorem q25(l:List TN)(i:Nat)(h:i<l.length):(l.mapIdx meT).toArray.findIdx? (λe=>(e.born:Int)==(i:Int))=some i:=by
 grind [Array.findIdx?_eq_some_iff_getElem,meT]
theorem qz3(l:List TN)(i:Nat)(t:TM)(n m:Nat)(h:l[i]?=some (t,n)):(l.mapIdx meT).toArray.modify i (λe=>{ e with val:=ii m })=((l.set i (t,m)).mapIdx meT).toArray:=by
 have hi:=(Ae.1 h).1;apply Array.ext_getElem?;intro j;rw[Dh,An,An,qhr,qhr,Cp]
 split
 ·rename_i e
  subst e;rw[h];rfl
 ·rfl
theorem qafn(t:TM)(l:List TN):(adL t l)[ixL t l]?=some (t,cnL t l):=by
 grind [qwo,q3v,qop,qup,qox]
theorem q9t(t:TM)(l:List TN)(r:Nat)(w:DA)(h:w.heap[r]?=some (mpO (adL t l))):(Instr.entryStore 236 (.map (some r)) (ii (ixL t l)) (ii ((cnL t l:Int)+1))).run DM w=.ok () (setO w r (mpO (icT t l))):=by
 have H:=qafo t l;rw[Instr.entryStore];simp only[Sem.run_bind,qli h,Result.andThen_ok];have U:(asInt (ii (ixL t l:Nat))).run DM w=.ok ((ixL t l:Nat):Int) w:=by
  rfl
 rw[U,Result.andThen_ok,q25 _ _ H]
 grind [qz3,qafn,qmn,qaa5,mpO]
namespace V
theorem Fall.make{t:DD}(H:o.op=.makeMap t none)(h:NewV w (.map #[] 0) λb w'=>K (.map (some b)) w'):Fall P (execOp (ev ρ) o) w K:=by
 refine⟨.inl ⟨.map (some w.heap.size),w.alloc (.map #[] 0),?_,h.h _ _ rfl rfl⟩⟩
 simp_all[execOp,Instr.makeMap]
theorem Fall.look{t:DD}{m k:Operand}(U:o.op=.lookup t m k false){a b v:DF}(V:ev ρ m=a)(W:ev ρ k=b)(Z:(Instr.lookup t a b false).run P w=.ok v w)(H:K v w):Fall P (execOp (ev ρ) o) w K:=by
 refine⟨.inl ⟨v,w,?_,H⟩⟩
 simp_all[execOp]
theorem Fall.entry{t:DD}{m k:Operand}(U:o.op=.mapEntry t m k){a b v:DF}(V:ev ρ m=a)(W:ev ρ k=b)(Z:(Instr.mapEntry t a b).run P w=.ok v w')(H:K v w'):Fall P (execOp (ev ρ) o) w K:=by
 refine⟨.inl ⟨v,w',?_,H⟩⟩
 simp_all[execOp]
theorem Fall.put{t:DD}{m s x:Operand}(U:o.op=.entryStore t m s x){a b c:DF}(V:ev ρ m=a)(W:ev ρ s=b)(Z:ev ρ x=c)(hr:(Instr.entryStore t a b c).run P w=.ok () w')(H:K undef w'):Fall P (execOp (ev ρ) o) w K:=by
 refine⟨.inr ⟨w',?_,H⟩⟩
 simp_all[execOp]
end V
theorem V.Carr.chn(U:Carr J){o:Obj}(h:J ((g,o)::X) w)(H:Chn [g] w w')(Z:w'.heap[g]?=some o'):J ((g,o')::X) w':=by
 have hg:=U.get h mh;have W:=U.set o' h;refine U.ext W ⟨H.os,H.tape,H.output,by simpa[setO]using H.size,λk hk=>?_⟩;have V:k<w.heap.size:=by grind [setO]
 by_cases e:k=g
 ·grind [qmm]
 ·rw[qga e];exact H.block k V (by simpa using e)
structure SteΦ(x pb vb tb:Nat)(T:List TM)(qs:List Q4)(p:Q4)(pl:Int)(b1 b2 b3:Nat)(w:DA):Prop where
 X:IdxE w x pb vb tb (encP T qs)
 G:GlobS w
 c1:w.cell? ⟨b1,0,none⟩=some (pp x)
 c2:CellsAt w b2 0 (qm p)
 c3:w.cell? ⟨b3,0,none⟩=some (ii pl)
theorem q1f(x:Nat)(p:Q4)(pl:Int)(w:DA):Gv DM 57 [pp x,q4 p,ii pl] w λr w'=>
  ∃b1 b2 U,r=.func (.func 121) #[] #[pp U,pp b1,pp b2]/\
   Mem w w' [(U,.cells #[ii pl] 3),(b2,.cells (qm p).toArray 47),(b1,.cells #[pp x] 26)]:=by
 refine ze Tryz.func57 Tryz.ntmps57 ?_;refine znm (Mem.nil w) λb1 V H=>zw ?_;refine znm H λb2 W H=>zw ?_;refine znm H λU Z H=>zw ?_;exact⟨b1,b2,U,rfl,H⟩
open Classical in
noncomputable def uTs(Ts:List TM)(k:Nat):List TM:=uniA [] (Ts.take k)
open Classical in
theorem qabx{t:TM}(h:Ts[k]?=some t)(H:t∈uTs Ts k):uTs Ts (k+1)=uTs Ts k:=by
 rw[uTs,Bp,h,Option.toList_some,qif];exact Ab H
open Classical in
theorem q6y{t:TM}(h:Ts[k]?=some t)(H:t∉uTs Ts k):uTs Ts (k+1)=uTs Ts k++[t]:=by
 rw[uTs,Bp,h,Option.toList_some,qif];exact Aa H
theorem q6x{Ts:List TM}:∀{k:Nat},k<=Ts.length->(uTs Ts k).length<=k
 | 0,_=>Ai _
 | k+1,h=>by
  have V:=q6x (Ts:=Ts) (k:=k) Oo;have H:Ts[k]?=some Ts[k]:=zge Oo
  by_cases U:Ts[k]∈uTs Ts k
  ·rw[qabx H U];omega
  ·rw[q6y H U,zla];simp;omega
def TeJ(J:DJ->DI)(H lb:Nat)(Ts:List TM)(L:DJ)(k:Nat)(X:DJ)(w:DA):Prop:=
 ∃s:List TN×DF×DJ,(s.1.map (·.1)=uTs Ts k/\(∀e∈s.1,1<=e.2)/\(s.1.map (·.2)).sum<=k/\RowX 45 4 s.2.1 (uTs Ts k).length ((uTs Ts k).map encT).flatten s.2.2)/\
  J (X++(s.2.2++(H,mpO s.1)::(lb,.cells #[s.2.1] 28)::L)) w
theorem TeJ.carr(H:Carr J)(U lb:Nat)(Ts:List TM)(L:DJ)(k:Nat):Carr (TeJ J U lb Ts L k):=Carr.ex λ_=>H.tail _
theorem q7o{Y:List TM}(h:AscT Y):Y.Pairwise λa b=>cmpT a b<=0:=by
 rw[BJ];intro i j hi U H;have:=h i j H U;have V:tmA Y i=Y[i]:=by rw[tmA,Ag,zge hi];rfl
 have W:tmA Y j=Y[j]:=by rw[tmA,Ag,zge U];rfl
 rw[V,W,<-qay]at this
 rcases Dv 0 (cmpT Y[i] Y[j])with g|g
 ·exact absurd (ordT.sym.2 g) this
 ·exact g
theorem q6b(hJ:Carr J){v:DF}{U:List TM}(hR:RowX 45 4 v U.length (U.map encT).flatten Y)(h:J (Y++X) w)(hl:U.length<=1048576):
  Gv DM 123 [v,.func (.func 20) #[] #[]] w λr w'=>r=.tuple #[]/\∃U' Y',U'.Perm U/\AscT U'/\RowX 45 4 v U.length (U'.map encT).flatten Y'/\J (Y'++X) w':=by
 obtain⟨A,c,rfl⟩:=hR.slice;refine(q6t U A c 0 w (hR.own λx hx=>hJ.get h (Ah _ hx)) Oo).mono ?_;rintro r w' ⟨rfl,U',hp,ha,ho,hc⟩;refine⟨rfl,U',?_⟩;obtain⟨_,⟨W,e2,rfl⟩|⟨g,aa,ad,W,rfl,_⟩⟩:=hR
 ·injection W with W _ _
  subst W;have hx:Ext w w':=⟨hc.os,hc.tape,hc.output,hc.size,λk hk=>hc.block k hk (λhh=>by cases hh)⟩
  obtain⟨Z,ae⟩:=ho
  rcases ae with⟨H,e4⟩|⟨g,aa,ad,H,_⟩
  ·exact⟨[],hp,ha,⟨Z,.inl ⟨H,e2,rfl⟩⟩,hJ.ext h hx⟩
  ·injection H with H _ _;cases H
 ·injection W with W _ H
  subst W H;obtain⟨Z,⟨H,_⟩|⟨g',af,V,H,_,hg,r⟩⟩:=ho
  ·injection H with H _ _;cases H
  ·injection H with H _ e5
   injection H with H
   injection H with H
   subst H e5;exact⟨[(g,.cells V 45)],hp,ha,⟨Z,.inr ⟨g,c,V,rfl,rfl,r⟩⟩,hJ.chn h hc hg⟩
open Classical in
theorem qafd{U:List TM}(H:U.Perm (uTs Ts Ts.length))(V:AscT U):U=qcm cmpT Ts:=by
 rw[uTs,BO]at H;exact q1d ordT H (q7o V)
theorem q1g(T:List TM)(qs:List Q4)(h:EncOk T qs)(x pb vb tb:Nat)(p:Q4)(hp:qcl p)(pl:Int)(b1 b2 b3:Nat):
  SeqC DM 121 [pp b3,pp b1,pp b2] ((tasL pl p qs).map λt=>[qy t]) (SteΦ x pb vb tb T qs p pl b1 b2 b3):=by
 intro y I Ix w W av hI h0 hy;have ai:((tasL pl p qs).map λt=>[qy t]).length=(tasL pl p qs).length:=A6 ..;have bj:((DM.info? 45).get Jk).bytes=56:=by kernel_rfl
 have t4:tsz DM 45=4:=by kernel_rfl
 refine gvW Jk Tryz.func121 rfl Tryz.ntmps121 rfl (zw ?_);refine LoadV.of (hI _ _ _ h0).c3 (zw ?_);refine zcv (qs0 pl w) ?_;rintro r w2 ⟨hr,bk⟩;replace h0:=(W 0).ext h0 bk
 rcases hr with⟨aw,rfl⟩|⟨aw,g,rfl,hg⟩
 case inl=>
  (conv=>whnf);refine NewV.carr (W 0) h0 λab w3 h0=>zw ?_;refine StoreA.carr (W 0) (A:=[]) h0 rfl (by simp[Value.oneCell']) λw4 h0=>zu ?_;refine .inl ?_;rw[ai,tasL,Aa (by rw[aw];decide)];exact(W 0).drop h0
 (conv=>whnf);refine NewV.carr (W 0) h0 λab w3 h0=>zw ?_;refine StoreA.carr (W 0) (A:=[]) h0 rfl (by simp[Value.oneCell']) λw4 h0=>zu ?_;refine Fall.make rfl ?_;refine NewV.carr (W 0) h0 λmo w5 h0=>zw ?_;refine NewV.carr (W 0) h0 λmb w6 h0=>zw ?_;refine StoreV.carr (W 0) (A:=[]) h0 (by show 0<1;omega) rfl ?_;clear h0;intro w7 h0;replace h0:I 0 [(mb,.cells #[.map (some mo)] 236),(mo,mpO []),(ab,.cells #[.func (.func g) #[] #[]] 233)] w7:=h0;(conv=>whnf);refine NewV.carr (W 0) h0 λlb w8 h0=>zw ?_;refine LoadV.of (hI _ _ _ h0).c1 (zw ?_);refine LoadA.cells (hI _ _ _ h0).c2 rfl (zw ?_);refine zcv (qje x p w8) ?_;rintro r w9 ⟨c1,c2,rfl,bl⟩;replace h0:=(W 0).call h0 bl;obtain⟨M,eM⟩:∃M,M=qbe p qs:=⟨_,rfl⟩
 have bm:=qjs p qs;rw[<-eM]at bm;have cg:=h.set.len;obtain⟨Ts,ax⟩:∃Ts:List TM,Ts=tatL pl p qs:=⟨_,rfl⟩
 have bn:Ts.length=M.length:=by rw[ax,tatL,A6,eM]
 have eR:tasL pl p qs=qcm cmpT Ts:=by rw[tasL,Ab aw,ax]
 rw[eR]at ai hy|-;obtain⟨L,hL⟩:∃L:DJ,L=[(ab,.cells #[.func (.func g) #[] #[]] 233),(c2,.cells (qm p).toArray 47),(c1,.cells #[pp x] 26),(mb,.cells #[.map (some mo)] 236)]:=⟨_,rfl⟩
 have a6:(c1,Obj.cells #[pp x] 26)∈L:=by rw[hL];simp
 have a7:(c2,Obj.cells (qm p).toArray 47)∈L:=by rw[hL];simp
 have a8:(ab,Obj.cells #[.func (.func g) #[] #[]] 233)∈L:=by rw[hL];simp
 have aq:(mb,Obj.cells #[.map (some mo)] 236)∈L:=by rw[hL];simp
 have ay:I 0 ((mo,mpO [])::(lb,.cells #[.slice none 0 0] 28)::L) w9:=by
  rw[hL];exact(W 0).perm h0 ((Ap (l₁:=[_,_,_,_]) (l₂:=[_,_])).trans (List.Perm.cons _ (Bb (l₁:=[_,_,_]))))
 clear h0;have bo:∀{X:DJ} {w':DA},I 0 (X++L) w'->w'.heap[ab]?=some (.cells #[.func (.func g) #[] #[]] 233):=λhh=>(W _).get hh (Ac _ a8)
 have ck:∀{X:DJ} {w':DA},I 0 (X++L) w'->w'.heap[mb]?=some (.cells #[.map (some mo)] 236):=λhh=>(W _).get hh (Ac _ aq)
 have bp:(M.map (sRow qs)).length=M.length:=A6 ..;have cT:=λk=>TeJ.carr (W 0) mo lb Ts L k
 (conv=>whnf);refine q5k (Φ:=SmaΦ x pb vb tb T qs p c1 c2) (lb:=[pp c1,pp c2]) (xs:=M.map (sRow qs)) rfl Jk (by rw[eM];exact qjf T qs h x pb vb tb p hp (h.idX p) c1 c2) Od ?_
  (TeJ (I 0) mo lb Ts L) (λc k X w'=>False/\TeJ (I 0) mo lb Ts L k X w')
  cT (λc k=>Carr.and (cT k))
  (λk X w' ⟨s,_,hh⟩=>⟨(hI _ _ _ hh).X,(hI _ _ _ hh).G,by rw[qa ((W _).get hh (Ac _ (Ac _ (zmc (zmc a6)))))];rfl,λj v hv=>by rw[qa ((W _).get hh (Ac _ (Ac _ (zmc (zmc a7))))),As,An];exact hv⟩)
  ⟨([],.slice none 0 0,[]),⟨rfl,λe he=>(by cases he),Ai _,RowX.nil _ _⟩,ay⟩ ?_ ?_ ?_
 ·intro r hr;obtain⟨j,_,rfl⟩:=AA.1 hr;rfl
 ·clear ay;rintro l2 D oa od k r X an hr H;rw[Ao]at hr;cases ag:M[k]? with
  | none=>rw[ag]at hr;cases hr
  | some i=>
  rw[ag,Be,AI]at hr;subst hr;have cl:=(Ae.1 ag).1;obtain⟨q,eq⟩:∃q,qs.getD i zQ=q:=⟨_,rfl⟩
  have az:Ts[k]?=some (plT pl q):=by rw[ax,tatL,Ao,<-eM,ag,Be,eq]
  rw[show sRow qs i=[ii i,q4 q]by rw[sRow,eq]];(conv=>whnf);refine NewV.carr (cT k) H λnb bq H=>zw ?_;refine StoreA.carr (vs:=qm q) (cT k) (A:=[]) H rfl (qcj q) λbr H=>zw ?_;refine⟨rfl,(nb,.cells (qm q).toArray 47)::(D,.deferred (some []))::X,(cT k).perm H (List.Perm.swap _ _ _),?_⟩;clear H;rintro a0 ⟨⟨l,v,Y⟩,⟨a1,aj,bt,hR⟩,H⟩;dsimp only at a1 aj bt hR H;have bu:=q6x (Ts:=Ts) (k:=k) Oo;obtain⟨Z,eZ⟩:∃Z:DJ,Z=(l2,od)::(nb,.cells (qm q).toArray 47)::(D,.deferred (some []))::X:=⟨_,rfl⟩
  rw[<-eZ]at H;have hq:(nb,Obj.cells (qm q).toArray 47)∈Z:=by rw[eZ];simp
  replace H:I 0 ((Z++Y++[(mo,mpO l),(lb,.cells #[v] 28)])++L) a0:=by simpa using H
  (conv=>whnf);refine LoadV.own (bo H) rfl (zw ?_);refine LoadA.own ((W 0).get H (Ah _ (Ah _ (Ah _ hq)))) rfl (zw ?_);refine zcv (hg q a0) ?_;rintro r a9 ⟨rfl,ba⟩;replace H:=(W 0).ext H ba;obtain⟨t,et⟩:∃t,t=plT pl q:=⟨_,rfl⟩
  rw[<-et]at az|-;(conv=>whnf);refine NewV.carr (W 0) H λa2 bv H=>zw ?_;refine StoreA.carr (vs:=encT t) (W 0) (A:=[]) H rfl (qaa t) ?_;clear H;intro bw H;obtain⟨A,eA⟩:∃A:DJ,A=(a2,.cells (encT t).toArray 45)::(Z++Y):=⟨_,rfl⟩
  have a3:(a2,Obj.cells (encT t).toArray 45)∈A:=by rw[eA];exact AJ ..
  obtain⟨B,eB⟩:∃B:DJ,B=(lb,.cells #[v] 28)::L:=⟨_,rfl⟩
  have bb:(mb,Obj.cells #[.map (some mo)] 236)∈B:=by rw[eB];exact zmc aq
  replace H:I 0 (A++(mo,mpO l)::B) bw:=by rw[eA,eB];simpa using H
  have cm:=qaaw t l;have cn:=q3w t l;(conv=>whnf);refine DrawW.any Jk (.inr Jk) (AnyV.gen (λS _ w'=>(S 6=true->S 2=true/\S 4=true)/\I 0 (A++(mo,mpO (bif S 6 then icT t l else bif S 4 then adL t l else l))::B) w') Jk (λaf=>⟨λh=>(by cases h),(W 0).ext H xr.drew⟩) ?_);clear H;(conv=>whnf);refine StepG.of (.map (some mo)) (λS af wd hk hp aa=>?_) ?_
  ·have ad:=(W 0).get aa.2 (Ac _ (zmc bb));(conv=>whnf);refine LoadV.own ad rfl (zw ?_);exact⟨rfl,λh=>⟨(aa.1 h).1,(aa.1 h).2⟩,aa.2⟩
  (conv=>whnf);refine StepG.of (qy t) (λS af wd hk hp aa=>?_) ?_
  ·have ad:=(W 0).get aa.2 (Ah _ a3);(conv=>whnf);refine LoadA.own ad rfl (zw ?_);exact⟨rfl,λh=>⟨(aa.1 h).1,(aa.1 h).2⟩,aa.2⟩
  (conv=>whnf);refine StepG.of (ii (cnL t l:Nat)) (λS af wd hk hp aa=>?_) ?_
  ·have aj:S 2=false:=hk;have h6:S 6=false:=by
    cases h6:S 6
    ·rfl
    ·have:=(aa.1 h6).1;rw[aj]at this;cases this
   obtain⟨l',el⟩:∃l',l'=(bif S 4 then adL t l else l):=⟨_,rfl⟩
   have bz:cnL t l'=cnL t l:=by
    rw[el];cases S 4
    ·rfl
    ·exact qaaq t l
   have ad:=(W 0).get aa.2 (Ac _ mh);rw[h6]at ad;have ad:wd.heap[mo]?=some (mpO l'):=by rw[el];exact ad
   (conv=>whnf);refine Fall.look rfl rfl rfl (qtb t l' mo wd ad) (zw ?_);exact⟨by rw[bz];rfl,λh=>(by have h:S 6=true:=h;rw[h6]at h;cases h),aa.2⟩
  (conv=>whnf);refine zg ?_;refine StepG.of (.tuple #[ii (cnL t l:Nat),ii (ixL t l:Nat)]) (λS af wd hk hp aa=>?_) ?_
  ·have bd:S 4=false:=hk;have h6:S 6=false:=by
    cases h6:S 6
    ·rfl
    ·have:=(aa.1 h6).2;rw[bd]at this;cases this
   have H:=aa.2;rw[h6,bd]at H;replace H:I 0 (A++(mo,mpO l)::B) wd:=H;have ad:=(W 0).get H (Ac _ mh);(conv=>whnf);refine Fall.entry rfl rfl rfl (q9s t l mo wd ad) (zw ?_);exact⟨rfl,λh=>(by have h:S 6=true:=h;rw[h6]at h;cases h),by show I 0 (A++(mo,mpO (bif S 6 then icT t l else bif true then adL t l else l))::B) _;rw[h6];exact(W 0).setM _ H⟩
  (conv=>whnf);refine zg ?_;refine StepG.of undef (λS af wd hk hp aa=>?_) ?_
  ·have b0:S 6=false:=hk;have h4:S 4=true:=hp 4 Od;have h2:S 2=true:=hp 2 Od;have H:=aa.2;rw[b0,h4]at H;replace H:I 0 (A++(mo,mpO (adL t l))::B) wd:=H;have ad:=(W 0).get H (Ac _ mh);(conv=>whnf);refine Fall.put rfl rfl rfl rfl (q9t t l mo wd ad) (zw ?_);exact⟨rfl,λ_=>⟨h2,h4⟩,(W 0).setM _ H⟩
  (conv=>whnf);intro af a4 aa;have H:I 0 (A++(mo,mpO (icT t l))::B) a4:=aa.2;clear aa;have be:=qaa6 t l;have bf:=(W 0).get H (Ac _ mh);have ae:=qxv t l;rw[a1]at ae;have ak:=q2i (t:=t) aj;rw[a1]at ak;have cj:=q3p t l;have au:=q3o (t:=t) aj;(conv=>whnf);refine LoadV.own ((W 0).get H (Ac _ (zmc bb))) rfl (zw ?_);refine LoadA.own ((W 0).get H (Ah _ a3)) rfl (zw ?_);refine Fall.look rfl rfl rfl (qtb t (icT t l) mo a4 bf) ?_;rw[be]
  rcases Bk (cnL t l)with a5|a5
  case inr=>
   have al:t∈uTs Ts k:=Aw λh=>by have:=ak.2 h;omega
   rw[Ab al]at ae;have eU:=qabx az al;refine zu ?_;refine⟨(icT t l,v,Y),⟨by rw[eU];exact ae,au,by dsimp only;omega,by rw[eU];exact hR⟩,?_⟩;rw[eA,eB]at H;have bg:I 0 (Z++(Y++(mo,mpO (icT t l))::(lb,.cells #[v] 28)::L)) a4:=by simpa using(W 0).drop H
   rw[eZ]at bg;exact(W 0).dropM (A:=[(l2,od)]) bg
  have al:t∉uTs Ts k:=ak.1 a5;rw[Aa al]at ae;have eU:=q6y az al;rw[a5];rw[eB]at H;obtain⟨Av,cv,ev⟩:=hR.slice;subst ev;refine zu ?_;refine LoadV.own ((W 0).get H (Ac _ (zmc mh))) rfl (zw ?_);refine LoadA.own ((W 0).get H (Ah _ a3)) rfl (zw ?_);refine NewV.carr (W 0) H λub b4 H=>zw ?_;rw[eA]at H;replace H:I 0 (Y++((ub,.cells (encT t).toArray 45)::(a2,.cells (encT t).toArray 45)::(Z++(mo,mpO (icT t l))::(lb,.cells #[.slice Av (uTs Ts k).length cv] 28)::L))) b4:=by
   refine(W 0).perm H ?_;simp only[AG,Az];refine List.Perm.trans ?_ (Bb).symm;refine List.Perm.cons _ ?_;refine List.Perm.trans ?_ (Bb).symm;refine List.Perm.cons _ ?_;rw[<-Az,<-Az];exact Ap.append_right _
  refine AppV.carr (m:=1) (news:=encT t) (W 0) H hR qni trmI trmZ Jk Jk Od rfl (λ_=>⟨ub,0,rfl,λj u hu=>by rw[qa ((W 0).get H (Ac _ mh)),As,An];exact hu⟩) (qaa t) (by rw[bj];omega) Oo ?_;clear H;intro A5 c5 Y5 b5 b6 H;replace H:=(W 0).dropM ((W 0).dropM H);replace H:I 0 ((Y5++(Z++[(mo,mpO (icT t l))]))++(lb,.cells #[.slice Av (uTs Ts k).length cv] 28)::L) b5:=by simpa using H
  (conv=>whnf);refine StoreV.carr (W 0) H (by show 0<1;omega) rfl ?_;clear H;intro bh H;replace H:I 0 ((Y5++(Z++[(mo,mpO (icT t l))]))++(lb,.cells #[.slice A5 ((uTs Ts k).length+1) c5] 28)::L) bh:=H;(conv=>whnf);have b7:(uTs Ts (k+1)).length=(uTs Ts k).length+1:=by rw[eU,zla];rfl
  have b8:((uTs Ts (k+1)).map encT).flatten=((uTs Ts k).map encT).flatten++encT t:=by rw[eU];simp
  refine⟨(icT t l,.slice A5 ((uTs Ts k).length+1) c5,Y5),⟨by rw[eU];exact ae,au,by dsimp only;omega,by rw[b7,b8];exact b6⟩,?_⟩;replace H:I 0 (Z++(Y5++((mo,mpO (icT t l))::(lb,.cells #[.slice A5 ((uTs Ts k).length+1) c5] 28)::L))) bh:=by
   refine(W 0).perm H ?_;rw[Az,Az,<-Az,<-Az Z];exact(Ap).append Js
  rw[eZ]at H;exact(W 0).dropM (A:=[(l2,od)]) H
 ·clear ay;rintro D an H;rw[bp,<-bn]at H;obtain⟨⟨l,v,Y⟩,⟨_,_,_,hR⟩,H⟩:=H;dsimp only at hR H;have bu:=q6x (Ts:=Ts) (k:=Ts.length) znr;obtain⟨Av,cv,ev⟩:=hR.slice;subst ev;obtain⟨E,eE⟩:∃E:DJ,E=(mo,mpO l)::(lb,.cells #[.slice Av (uTs Ts Ts.length).length cv] 28)::L:=⟨_,rfl⟩
  have am:(lb,Obj.cells #[.slice Av (uTs Ts Ts.length).length cv] 28)∈E:=by rw[eE];simp
  rw[<-eE]at H;replace H:I 0 ((D,.deferred (some []))::(Y++E)) an:=H;replace H:I 0 (Y++(D,.deferred (some []))::E) an:=(W 0).perm H Bb.symm;(conv=>whnf);refine LoadV.own ((W 0).get H (Ac _ (zmc am))) rfl (zw ?_);refine zcv (q6b (W 0) hR H Oo) ?_;clear hR H;rintro r bq ⟨rfl,U,Y2,hp,ha,hR,H⟩;have eU:=qafd hp ha;have b9:=hp.length_eq;rw[<-eU]at ai hy|-;rw[<-b9]at hR am|-;obtain⟨n,en⟩:∃n,n=U.length:=⟨_,rfl⟩
  (conv=>whnf);refine LoadV.own ((W 0).get H (Ac _ (zmc am))) rfl (zw ?_);have ah:∀{J:DJ->DI} {w':DA},Carr J->J (Y2++(D,.deferred (some []))::E) w'->J ([D].map qadn) w':=λcJ h=>cJ.dropL (cJ.perm (cJ.dropL h) (Ap (l₁:=[_])))
  refine q84 (λi:Nat=>[(0,.func (.yield y) #[] #[]),(47,.slice Av U.length cv),(48,ii U.length),(49,ii i)])
   (λi w'=>i<=U.length/\I i (Y2++(D,.deferred (some []))::E) w') (λi=>U.length-i) 0 fq ⟨Af _,H⟩ ?_
  clear H;rintro i br cp ⟨hi,H⟩;(conv=>whnf);refine zC (λ_=>zw ?_) (λ_=>zw ?_)
  case' refine_2=>
   obtain rfl:i=U.length:=by omega
   refine LeaveV.marks (J:=λX w'=>I U.length X w') (W _) ?_ (D:=D) (Ds:=[]) (ah (W _) H);intro w' h';(conv=>whnf);exact .inl (by rw[ai];exact h')
  have ao:i<U.length:=by omega
  obtain⟨t,bi⟩:∃t,U[i]?=some t:=⟨_,zge ao⟩
  obtain⟨_,_,ev,_,hS⟩:=V.RowX.sl qaf hR rfl (λx hx=>(W _).get H (Ah _ hx))
  injection ev with cc _ cd
  subst cc cd;obtain⟨g1,o1,rfl,ce⟩:=hS.at_ (by intro e;rw[e]at ao;simp at ao);refine⟨⟨g1,o1,i,rfl,by omega,by omega,?_⟩⟩;rw[t4];(conv=>whnf);refine LoadA.cells (ce i t bi) rfl (zw ?_);refine NewV.carr (W _) H λub a0 H=>zw ?_;refine StoreA.carr (vs:=encT t) (W _) (A:=[]) H rfl (qaa t) λa9 H=>zw ?_;refine LoadA.own ((W _).get H mh) rfl (zw ?_);have cf:(U.map λt=>[qy t])[i]?=some [qy t]:=by rw[Ao,bi];rfl
  refine YieldV.mono (hy i _ _ a9 cf H) ?_;clear H;rintro v bv (⟨rfl,H⟩|⟨rfl,hX⟩)
  ·refine zu ?_;exact⟨rfl,i+1,⟨rfl,rfl,rfl,Ad (Value.int .i64) Oo,trivial⟩,⟨by omega,(W _).drop H⟩,by omega⟩
  ·refine zu ?_;refine LeaveV.marks (J:=λX w'=>Ix i X w') (av _) ?_ (D:=D) (Ds:=[]) (ah (av _) ((av _).drop hX));intro w' h';(conv=>whnf);exact .inr ⟨i,by rw[ai];exact ao,h'⟩
 ·rintro D c k an hk ⟨hf,_⟩;exact hf.elim
theorem qxo{p t:TM}(h:p.kind=4):fitT p t=true:=by rw[fitT,h];rfl
theorem qxp{p t:TM}(h:qal p t=true):fitT p t=true:=by grind [fitT]
theorem qpd{p q:Q4}(i:Nat)(hi:i<4)(U:¬(p.at i).kind=4)(H:qal (p.at i) (q.at i)=false):fitQ p q=false:=(by grind [qpb,fitT])
theorem qzt(p q:Q4)(w:DA):Gv DM 102 [q4 p,q4 q] w λr w'=>r=.bool (fitQ p q)/\Ext w w':=by
 refine ze Tryz.func102 Tryz.ntmps102 ?_;refine znm (Mem.nil w) ?_;intro pb w1 U;have U:Mem w w1 [(pb,.cells (qm p).toArray 47)]:=U;(conv=>whnf);refine znm U ?_;clear U;intro qb w2 U;have U:Mem w w2 [(qb,.cells (qm q).toArray 47),(pb,.cells (qm p).toArray 47)]:=U;have Z:∀i,i<4->CellsAt w2 pb (4*i) (encT (p.at i)):=λi hi k v hv=>by
  rw[qa (U.get (zmc (Aq.2 rfl))),An];exact qh0 p hi hv
 have ag:∀i,i<4->CellsAt w2 qb (4*i) (encT (q.at i)):=λi hi k v hv=>by
  rw[qa (U.get mh),An];exact qh0 q hi hv
 have V:∀i,i<4->w2.cell? ⟨pb,4*i+0,none⟩=some (ii (p.at i).kind):=λi hi=>Z i hi 0 _ rfl
 have he:=U.ext;clear U;(conv=>whnf);refine LoadV.of (V 0 Od) (zw ?_)
 rcases BA ((p.at 0).kind=4)with h0|h0
 case' inl=>
  have aa:=qxo (t:=q.at 0) h0;refine zv ?_
 case' inr=>
  refine zv ?_;refine LoadA.cells (vs:=encT (p.at 0)) (by grind) rfl (zu ?_);refine LoadA.cells (vs:=encT (q.at 0)) (by grind) rfl (zu ?_);refine RunV.eqTerm (a:=p.at 0) (b:=q.at 0) (.inl rfl) ?_;cases H:qal (p.at 0) (q.at 0)
  case false=>
   refine zu ?_;exact⟨(Ad Value.bool (qpd 0 Od h0 H)).symm,he⟩
  have aa:=qxp H;refine zu ?_
 all_goals
  refine LoadV.of (V 1 Od) (zw ?_)
  rcases BA ((p.at 1).kind=4)with h1|h1
  case' inl=>
   have ad:=qxo (t:=q.at 1) h1;refine zv ?_
  case' inr=>
   refine zv ?_;refine LoadA.cells (vs:=encT (p.at 1)) (by grind) rfl (zu ?_);refine LoadA.cells (vs:=encT (q.at 1)) (by grind) rfl (zu ?_);refine RunV.eqTerm (a:=p.at 1) (b:=q.at 1) (.inl rfl) ?_;cases H:qal (p.at 1) (q.at 1)
   case false=>
    refine zu ?_;exact⟨(Ad Value.bool (qpd 1 Od h1 H)).symm,he⟩
   have ad:=qxp H;refine zu ?_
 all_goals
  refine LoadV.of (V 2 Od) (zw ?_)
  rcases BA ((p.at 2).kind=4)with h2|h2
  case' inl=>
   have ae:=qxo (t:=q.at 2) h2;refine zv ?_
  case' inr=>
   refine zv ?_;refine LoadA.cells (vs:=encT (p.at 2)) (by grind) rfl (zu ?_);refine LoadA.cells (vs:=encT (q.at 2)) (by grind) rfl (zu ?_);refine RunV.eqTerm (a:=p.at 2) (b:=q.at 2) (.inl rfl) ?_;cases H:qal (p.at 2) (q.at 2)
   case false=>
    refine zu ?_;exact⟨(Ad Value.bool (qpd 2 Od h2 H)).symm,he⟩
   have ae:=qxp H;refine zu ?_
 all_goals
  refine LoadV.of (V 3 Od) (zw ?_)
  rcases BA ((p.at 3).kind=4)with h3|h3
  case' inl=>
   have af:=qxo (t:=q.at 3) h3;refine zv ?_
  case' inr=>
   refine zv ?_;refine LoadA.cells (vs:=encT (p.at 3)) (Z 3 Od) rfl (zu ?_);refine LoadA.cells (vs:=encT (q.at 3)) (ag 3 Od) rfl (zu ?_);refine RunV.eqTerm (a:=p.at 3) (b:=q.at 3) (.inl rfl) ?_;cases H:qal (p.at 3) (q.at 3)
   case false=>
    refine zu ?_;exact⟨(Ad Value.bool (qpd 3 Od h3 H)).symm,he⟩
   have af:=qxp H;refine zu ?_
 all_goals
  refine⟨Ad Value.bool ((qpb p q).2 λj hj=>?_).symm,he⟩
  match j,hj with
  | 0,_=>exact aa
  | 1,_=>exact ad
  | 2,_=>exact ae
  | 3,_=>exact af
theorem qacc{q:Q4}{L:List Q4}{x:Q4}(hi:L[i]?=some x)(h:cmpQ x q<0):aheC q (L.drop i)=aheC q (L.drop (i+1))+1:=by
 grind [List.drop_eq_getElem_cons,aheC]
theorem qacb{q:Q4}{L:List Q4}{x:Q4}(hi:L[i]?=some x)(h:¬cmpQ x q<0):aheC q (L.drop i)=0:=by
 grind [List.drop_eq_getElem_cons,aheC]
theorem qzr(L:List Q4)(q:Q4)(A:oA)(n c:Nat)(w:DA)(hS:SlAt qm 16 w A L)(hn:L.length=n)(hb:n<=140737488355328):
  Gv DM 101 [.slice A n c,q4 q] w λr w'=>(∃b,r=.tuple #[ii (aheC q L),.bool b]/\(b=true↔L[aheC q L]?=some q))/\Ext w w':=by
 subst hn;have ae:tsz DM 47=16:=by kernel_rfl
 refine ze Tryz.func101 Tryz.ntmps101 ?_;refine znm (Mem.nil w) ?_;intro qb w1 V;have V:Mem w w1 [(qb,.cells (qm q).toArray 47)]:=V;(conv=>whnf);refine qq (λi:Nat=>[(0,.slice A L.length c),(3,pp qb),(6,ii i)])
  (λi w'=>i<=L.length/\aheC q L=aheC q (L.drop i)+i/\Mem w w' [(qb,.cells (qm q).toArray 47)]) (λi=>L.length-i) 0 fq ⟨Af _,rfl,V⟩ ?_
 clear V;rintro i w2 ak ⟨hi,ha,V⟩;(conv=>whnf);have ah:∀H,Ext w2 H->H.heap[qb]?=some (.cells (qm q).toArray 47):=λH he=>he.get (V.get mh)
 have hx:∀H,Ext w2.drew H->Ext w H:=λH U=>V.ext.trans ((Ext.refl w2).drew.trans U)
 refine DrawV.free Jk Jk (zw ?_);(iterate 5 (refine zd ?_))
 by_cases ai:i<L.length
 case neg=>
  obtain rfl:i=L.length:=by omega
  have U:(decide ((L.length:Int)<(L.length:Int)))=false:=by simp
  rw[U];(iterate 8 (refine zd ?_));intro w3 Z;refine zu ?_;refine DrawV.free Jk Jk (zw ?_);(iterate 15 (refine zd ?_));intro w4 aa;(conv=>whnf);rw[List.drop_length]at ha;have ha:aheC q L=L.length:=by rw[ha];exact As _
  refine⟨⟨false,by rw[ha],⟨(λh=>by cases h),λh=>?_⟩⟩,V.ext.trans (((Ext.refl w2).drew.trans Z).trans ((Ext.refl w3).drew.trans aa))⟩
  simp_all
 obtain⟨g,W,rfl,aj⟩:=hS.at_ (by grind);obtain⟨x,ad⟩:∃x,L[i]?=some x:=⟨_,zge ai⟩
 have af:=aj i x ad;have U:(decide ((i:Int)<(L.length:Int)))=true:=(by grind)
 rw[U];refine zd ?_;refine zd ?_;apply zsd (.pointer (some ⟨g,W+i*16,none⟩))
 ·intro H U;refine zu ?_;refine⟨⟨g,W,i,rfl,by omega,by omega,?_⟩⟩;rw[ae];(conv=>whnf);exact xq
 (conv=>whnf);apply zsd (q4 x)
 ·intro H U;refine zu ?_;refine LoadA.cells (CellsAt.ext af (hx H U)) rfl (zw ?_);exact xq
 (conv=>whnf);apply zsd (q4 q)
 ·intro H U;refine zu ?_;refine LoadA.own (ah H ((Ext.refl w2).drew.trans U)) rfl (zw ?_);exact xq
 (conv=>whnf);apply zsd (ii (cmpQ x q))
 ·intro H U;refine zu ?_;refine zcv (qm4 x q H) ?_
  simp_all
 (conv=>whnf);refine zd ?_;refine zd ?_;intro w3 Z;have ag:Ext w w3:=(by grind)
 replace V:=(V.drew).call Z
 by_cases hc:cmpQ x q<0
 ·refine zu ?_;exact⟨i+1,⟨rfl,rfl,Ad (Value.int .i64) Oo,trivial⟩,(by grind [qacc]),by omega⟩
 rw[qacb ad hc,As]at ha;rw[ha,ad];refine zu ?_;refine DrawV.free Jk Jk (zw ?_);(iterate 6 (refine zd ?_));rw[U];refine zd ?_;refine zd ?_;apply zsd (.pointer (some ⟨g,W+i*16,none⟩))
 ·intro H U;refine zu ?_;refine⟨⟨g,W,i,rfl,by omega,by omega,?_⟩⟩;rw[ae];(conv=>whnf);exact xq
 (conv=>whnf);apply zsd (q4 x)
 ·intro H U;refine zu ?_;refine LoadA.cells (CellsAt.ext af (ag.trans ((Ext.refl w3).drew.trans U))) rfl (zw ?_);exact xq
 (conv=>whnf);apply zsd (q4 q)
 ·intro H U;refine zu ?_;refine LoadA.own (((Ext.refl w3).drew.trans U).get (V.get mh)) rfl (zw ?_);exact xq
 (conv=>whnf);apply zsd (.bool (qdv x q))
 ·intro H U;refine zu ?_;refine RunV.eqQd (a:=x) (b:=q) (zw ?_);exact xq
 (conv=>whnf);(iterate 3 (refine zd ?_));intro w4 aa;(conv=>whnf);refine⟨⟨_,rfl,?_⟩,ag.trans ((Ext.refl w3).drew.trans aa)⟩
 grind [qmh]
theorem qwu(q:Q4)(pl:Int)(w:DA):Gv DM 23 [q4 q,ii pl] w λr w'=>r=.tuple #[qy (if plOk pl=true then plT pl q else zTM),.bool (plOk pl)]/\Ext w w':=by
 refine ze Tryz.func23 Tryz.ntmps23 ?_;refine znm (Mem.nil w) ?_;intro W w1 H;have H:Mem w w1 [(W,.cells (qm q).toArray 47)]:=H;have U:∀w',Mem w w' [(W,.cells (qm q).toArray 47)]->∀k,k<4->CellsAt w' W (0+k*4) (encT (q.at k)):=λw' aa k hk=>qr (CellsAt.mem aa (Aq.2 rfl)) k hk
 refine znm H ?_;clear H;intro rb V H;have Z:Mem w V [(W,.cells (qm q).toArray 47)]:=H.sub (Ak ..);conv=>whnf
 (repeat' refine zC (λ_=>zw ?_) (λ_=>zw ?_))
 all_goals first
  | (refine LoadA.cells (vs:=encT (q.at 0)) (U V Z 0 Od) rfl ?_;(conv=>whnf))
  | (refine LoadA.cells (vs:=encT (q.at 1)) (U V Z 1 Od) rfl ?_;(conv=>whnf))
  | (refine LoadA.cells (vs:=encT (q.at 2)) (U V Z 2 Od) rfl ?_;(conv=>whnf))
  | (refine LoadA.cells (vs:=encT (q.at 3)) (U V Z 3 Od) rfl ?_;(conv=>whnf))
  | skip
 all_goals
  refine zS H 0 ?_;clear H U;intro w3 H;refine qd (R:=λr w'=>r=.tuple #[qy (if plOk pl=true then plT pl q else zTM),.bool (plOk pl)]/\Ext w w') ?_;refine zl H 0 ?_;refine⟨?_,H.ext⟩
 ·obtain rfl:pl=0:=by omega
  rfl
 ·obtain rfl:pl=1:=by omega
  rfl
 ·obtain rfl:pl=2:=by omega
  rfl
 ·obtain rfl:pl=3:=by omega
  rfl
 ·have hn:plOk pl=false:=q5e.2 Oo;rw[hn];rfl
def snQ(e:Int×Q4):DK:=ii e.1::qm e.2
theorem qfz(e:Int×Q4):(snQ e).length=17:=rfl
theorem qqo(e:Int×Q4):∀v∈snQ e,v.oneCell'=true:=λv H=>by
 rcases Ay.1 H with rfl|H
 ·rfl
 ·exact qcj e.2 v H
def snL(qs:List Q4)(l:DL):List (Int×Q4):=l.map λi:Nat=>((i:Int),qs.getD i zQ)
theorem qdw(qs:List Q4)(l:DL):(snL qs l).length=l.length:=A6 ..
def SnR(E:List (Int×Q4))(v:DF)(w:DA):Prop:=∃B d,v=.slice B E.length d/\E.length<=d/\SlAt snQ 17 w B E
theorem q9v:DM.underlying 71=some (.slice 77):=Tryz.underlying71
theorem s20I:DM.info? 77=some ((DM.info? 77).get Jk):=(Bd _).symm
theorem s20Z:((DM.info? 77).get Jk).zero=some ((((DM.info? 77).get Jk).zero).get Jk):=(Bd _).symm
theorem s20B:((DM.info? 77).get Jk).bytes=232:=by kernel_rfl
def mtI(p:Q4)(qs:List Q4)(i:Nat):DL:=(List.range i).filter λi=>match qs[i]? with
 | some q=>fitQ p q
 | none=>false
theorem qadr(p:Q4)(qs:List Q4):mtI p qs qs.length=qbe p qs:=rfl
theorem qads{p:Q4}{q:Q4}(hi:qs[i]?=some q)(H:fitQ p q=true):mtI p qs (i+1)=mtI p qs i++[i]:=by
 rw[mtI,mtI,Cn,CW];simp[hi,H]
theorem qago{p:Q4}{q:Q4}(hi:qs[i]?=some q)(H:fitQ p q=false):mtI p qs (i+1)=mtI p qs i:=by
 rw[mtI,mtI,Cn,CW];simp[hi,H]
theorem qagn(p:Q4)(qs:List Q4)(i:Nat):(mtI p qs i).length<=i:=by
 have:=Dg (λi=>match qs[i]? with|some q=>fitQ p q|none=>false) (List.range i)
 rwa[Da]at this
theorem qet(qs:List Q4)(A:oA)(n c:Nat)(B0:oA)(m0 d0:Nat)(p:Q4)(w:DA)(hS:SlAt qm 16 w A qs)(hn:qs.length=n)(hb:n<=1048576):
  Gv DM 43 [.agg #[.slice A n c,.slice B0 m0 d0],q4 p] w λr w'=>SnR (snL qs (qbe p qs)) r w'/\Ext w w':=by
 subst hn;have af:tsz DM 47=16:=by kernel_rfl
 obtain⟨xo,ag⟩:∃xo:Obj,xo=.cells #[.slice A qs.length c,.slice B0 m0 d0] 30:=⟨_,rfl⟩
 refine ze Tryz.func43 Tryz.ntmps43 ?_;refine znm (Mem.nil w) ?_;intro xb w1 hm;refine znm hm ?_;clear hm;intro pb w2 hm;have hm:Mem w w2 [(pb,.cells (qm p).toArray 47),(xb,xo)]:=by rw[ag];exact hm
 refine qq (λx:Nat×oA×Nat=>[(2,pp xb),(3,pp pb),(5,.slice x.2.1 (mtI p qs x.1).length x.2.2),(6,ii x.1)])
  (λx w'=>x.1<=qs.length/\Rw w w' (.slice x.2.1 (mtI p qs x.1).length x.2.2) 77 17 (mtI p qs x.1).length ((snL qs (mtI p qs x.1)).map snQ).flatten [(pb,.cells (qm p).toArray 47),(xb,xo)]) (λx=>qs.length-x.1) (0,none,0)
  fq ⟨Af _,Rw.nil hm⟩ ?_
 clear hm;rintro⟨i,B,cb⟩ w3 ao ⟨hi,U⟩;dsimp only at hi U|-;have aq:=qagn p qs i;have ad:∀H,Ext w3 H->H.heap[xb]?=some (.cells #[.slice A qs.length c,.slice B0 m0 d0] 30):=λH he=>by rw[<-ag];exact he.get (U.mem.get (zmc (Aq.2 rfl)))
 have aj:∀H,Ext w3 H->H.heap[pb]?=some (.cells (qm p).toArray 47):=λH he=>he.get (U.mem.get mh)
 (conv=>whnf);refine LoadV.own (ad w3 xr) rfl (zw ?_);refine zC (λ_=>zw ?_) (λ_=>zw ?_)
 case' refine_2=>
  obtain rfl:i=qs.length:=by omega
  rw[qadr]at U|-;have hl:=qdw qs (qbe p qs);obtain⟨h3,h4⟩:=qdr qfz U.own hl;exact⟨⟨B,cb,by rw[hl],by rw[hl];exact h4,h3⟩,U.mem.ext⟩
 have ae:i<qs.length:=by omega
 obtain⟨x,V⟩:∃x,qs[i]?=some x:=⟨_,zge ae⟩
 obtain⟨g,W,rfl,ak⟩:=hS.at_ (by intro e;rw[e]at ae;simp at ae);have ah:=ak i x V;have hx:∀H,Ext w3.drew H->Ext w3 H:=λH Z=>(Ext.refl w3).drew.trans Z
 refine DrawV.free Jk Jk ?_;apply zsd (q4 p)
 ·intro H Z;refine LoadA.own (aj H (hx H Z)) rfl (zw ?_);exact xq
 (conv=>whnf);refine zd ?_;apply zsd (.slice (some ⟨g,W,none⟩) qs.length c)
 ·intro H Z;refine LoadV.own (ad H (hx H Z)) rfl (zw ?_);exact xq
 (conv=>whnf);refine zd ?_;refine zsd (.pointer (some ⟨g,W+i*16,none⟩)) (λH Z=>zw ?_) ?_
 ·refine⟨⟨g,W,i,rfl,by omega,by omega,?_⟩⟩;rw[af];(conv=>whnf);exact xq
 apply zsd (q4 x)
 ·intro H Z;refine LoadA.cells (CellsAt.ext ah (U.mem.ext.trans (hx H Z))) rfl (zw ?_);exact xq
 refine zsd (.bool (fitQ p x)) (λH Z=>zw ?_) ?_
 ·refine zcv (qzt p x H) ?_;rintro r wy ⟨rfl,al⟩;exact⟨al,rfl⟩
 intro w4 ai;have aa:=U.drew.call ai;have am:=hx w4 ai;cases hf:fitQ p x
 case false=>
  have e:=qago V hf;refine zu ?_;exact⟨(i+1,B,cb),⟨rfl,rfl,by dsimp only;rw[e];rfl,Ad (Value.int .i64) Oo,trivial⟩,⟨by dsimp only;omega,by dsimp only;rw[e];exact aa⟩,by dsimp only;omega⟩
 have e:=qads V hf;have an:qs.getD i zQ=x:=by rw[Ag,V];rfl
 refine zu ?_;refine LoadV.own (ad w4 am) rfl (zw ?_);refine⟨⟨g,W,i,rfl,by omega,by omega,?_⟩⟩;rw[af];refine LoadA.cells (CellsAt.ext ah aa.mem.ext) rfl (zw ?_);refine NewV.rw aa ?_;clear aa U;intro nb w5 U;have U:Rw w w5 (.slice B (mtI p qs i).length cb) 77 17 (mtI p qs i).length ((snL qs (mtI p qs i)).map snQ).flatten [(nb,.cells (snQ ((i:Int),x)).toArray 77),(pb,.cells (qm p).toArray 47),(xb,xo)]:=U;refine AppV.rw (m:=1) (news:=snQ ((i:Int),x)) q9v s20I s20Z Jk Jk Od U rfl (λ_=>⟨nb,0,rfl,λk v hv=>?_⟩) (qqo _) (by rw[s20B];omega) Oo ?_
 ·rw[qa (U.mem.get mh),As];rw[An];exact hv
 clear U;intro B2 c2 w6 U;refine zu ?_;have el:(mtI p qs (i+1)).length=(mtI p qs i).length+1:=by rw[e,zla];rfl
 have ef:((snL qs (mtI p qs (i+1))).map snQ).flatten=((snL qs (mtI p qs i)).map snQ).flatten++snQ ((i:Int),x):=by
  rw[e,snL,AH,AH,Dt,snL];simp[snQ,<-an]
 exact⟨(i+1,B2,c2),⟨rfl,rfl,by dsimp only;rw[el];rfl,Ad (Value.int .i64) Oo,trivial⟩,⟨by dsimp only;omega,by dsimp only;rw[el,ef];exact U.tail⟩,by dsimp only;omega⟩
theorem qqn{l:DL}(h:l[j]?=some i):(snL qs l)[j]?=some ((i:Int),qs.getD i zQ):=by rw[snL,Ao,h];rfl
theorem qag6{o:Nat}{e:Int×Q4}(h:CellsAt w g o (snQ e)):CellsAt w g (o+1) (qm e.2):=λk v H=>by
 have:=h (1+k) v (by rw[snQ,CL,B7];exact H)
 rwa[<-Cb]at this
theorem q1z{pre:DB}{q:Q4}(h:(plT pl q).kind≠1):begQ pl pre q=false:=by rw[begQ,Ax h];rfl
theorem q10{pre:DB}{q:Q4}(h:(plT pl q).text.size<pre.size):begQ pl pre q=false:=by
 rw[begQ,hasP,Ax (Nat.not_le_of_lt h)];simp
theorem q7t{pre:DB}{q:Q4}(H:(plT pl q).kind=1)(U:pre.size<=(plT pl q).text.size):begQ pl pre q=seq ((plT pl q).text.extract 0 pre.size) pre:=by
 rw[begQ,hasP,At H,At U];simp
theorem qrb(qs:List Q4)(A:oA)(n c:Nat)(B0:oA)(m0 d0:Nat)(p:Q4)(pl:Int)(pre:DB)(w:DA)(hS:SlAt qm 16 w A qs)(hn:qs.length=n)(hb:n<=1048576):
  Gv DM 46 [.agg #[.slice A n c,.slice B0 m0 d0],q4 p,ii pl,.string pre] w λr w'=>SnR (snL qs (begL pl pre p qs)) r w'/\Ext w w':=by
 subst hn;have ae:tsz DM 77=17:=by kernel_rfl
 have ah:=qjs p qs;obtain⟨f,ef⟩:∃f:Nat->Bool,f=λi=>plOk pl&&begQ pl pre (qs.getD i zQ):=⟨_,rfl⟩
 obtain⟨M,eM⟩:∃M,M=qbe p qs:=⟨_,rfl⟩
 have eB:begL pl pre p qs=M.filter f:=by rw[begL,eM,ef]
 rw[eB];rw[<-eM]at ah;refine ze Tryz.func46 Tryz.ntmps46 ?_;refine znm (Mem.nil w) λxb w1 V=>zw ?_;refine znm V λpb w2 V=>zw ?_;refine zl V 1 ?_;refine LoadA.mem (cs:=(qm p).toArray) V (i:=0) rfl rfl (zw ?_);refine zcv (qet qs A qs.length c B0 m0 d0 p w2 (hS.ext V.ext) rfl hb) ?_;rintro r w3 ⟨⟨D,d,rfl,hd,hD⟩,ai⟩;have aj:Ext w w3:=V.ext.trans ai;clear V;rw[<-eM]at hD hd|-;rw[qdw]at hd|-;(conv=>whnf);refine qq (λx:Nat×oA×Nat=>[(2,ii pl),(3,.string pre),(9,.slice D M.length d),(10,.slice x.2.1 (fltI f M x.1).length x.2.2),(11,ii x.1)])
  (λx w'=>x.1<=M.length/\Rw w3 w' (.slice x.2.1 (fltI f M x.1).length x.2.2) 77 17 (fltI f M x.1).length ((snL qs (fltI f M x.1)).map snQ).flatten []) (λx=>M.length-x.1) (0,none,0)
  fq ⟨Af _,Rw.nil (Mem.nil w3)⟩ ?_
 rintro⟨i,B,W⟩ w4 aq ⟨hi,H⟩;dsimp only at hi H|-;have ar:=qac3 f M i;(conv=>whnf);refine zC (λ_=>zw ?_) (λ_=>zw ?_)
 case' refine_2=>
  obtain rfl:i=M.length:=by omega
  rw[q8p]at H|-;have hl:=qdw qs (M.filter f);obtain⟨h3,h4⟩:=qdr qfz H.own hl;exact⟨⟨B,W,by rw[hl],by rw[hl];exact h4,h3⟩,aj.trans H.mem.ext⟩
 have ak:i<M.length:=by omega
 obtain⟨j,Z⟩:∃j,M[i]?=some j:=⟨_,zge ak⟩
 have au:j<qs.length:=qx8 (p:=p) (by rw[<-eM];exact zmg Z);obtain⟨x,aa⟩:∃x,qs.getD j zQ=x:=⟨_,rfl⟩
 obtain⟨g,af,rfl,al⟩:=hD.at_ (by intro e;have:=qdw qs M;rw[e]at this;simp at this;omega);have ad:=al i _ (qqn Z);rw[aa]at ad;have am:=CellsAt.ext (qag6 ad) H.mem.ext;refine⟨⟨g,af,i,rfl,by omega,by omega,?_⟩⟩;rw[ae];(conv=>whnf);refine LoadA.cells am rfl (zw ?_);refine zcv (qwu x pl w4) ?_;rintro r w5 ⟨rfl,an⟩;replace H:=H.call an;have U:f j=(plOk pl&&begQ pl pre x):=by rw[ef];dsimp only;rw[aa]
 obtain⟨T,eT⟩:∃T,T=(if plOk pl=true then plT pl x else zTM):=⟨_,rfl⟩
 rw[<-eT];(conv=>whnf);refine NewV.rw H λtb w6 H=>zw ?_;refine StoreA.rwAll (vs:=encT T) H rfl (qaa T) ?_;clear H;intro w7 H;have H:Rw w3 w7 (.slice B (fltI f M i).length W) 77 17 (fltI f M i).length ((snL qs (fltI f M i)).map snQ).flatten [(tb,.cells #[ii T.kind,.string T.text,.string T.type,.string T.lang] 45)]:=H;cases hp:plOk pl
 case false=>
  have e:=qpe Z (show f j=false by rw[U,hp];rfl);refine zu ?_;exact⟨(i+1,B,W),⟨rfl,rfl,rfl,by dsimp only;rw[e];rfl,Ad (Value.int .i64) Oo,trivial⟩,⟨by dsimp only;omega,by dsimp only;rw[e];exact H.tail⟩,by dsimp only;omega⟩
 rw[hp,Ab rfl]at eT;rw[hp,Ct]at U
 rcases BA (T.kind=1)with hk|hk
 case inr=>
  have e:=qpe Z (show f j=false by rw[U];exact q1z (by rw[<-eT];exact hk));refine zu ?_;refine zr H.mem 0 ?_;refine zv ?_;exact⟨(i+1,B,W),⟨rfl,rfl,rfl,by dsimp only;rw[e];rfl,Ad (Value.int .i64) Oo,trivial⟩,⟨by dsimp only;omega,by dsimp only;rw[e];exact H.tail⟩,by dsimp only;omega⟩
 rcases AN T.text.size pre.size with hz|hz
 case inl=>
  have e:=qpe Z (show f j=false by rw[U];exact q10 (by rw[<-eT];exact hz));refine zu ?_;refine zr H.mem 0 ?_;refine zv ?_;refine zr H.mem 0 ?_;refine zv ?_;exact⟨(i+1,B,W),⟨rfl,rfl,rfl,by dsimp only;rw[e];rfl,Ad (Value.int .i64) Oo,trivial⟩,⟨by dsimp only;omega,by dsimp only;rw[e];exact H.tail⟩,by dsimp only;omega⟩
 have ag:f j=seq (T.text.extract 0 pre.size) pre:=by rw[U,q7t (by rw[<-eT];exact hk) (by rw[<-eT];exact hz),<-eT]
 refine zu ?_;refine zr H.mem 0 ?_;refine zv ?_;refine zr H.mem 0 ?_;refine zv ?_;refine zr H.mem 0 ?_;refine zv ?_;refine SliceS.at_ 0 pre.size rfl rfl (Af _) hz (zu ?_);cases hs:seq (T.text.extract 0 pre.size) pre
 case false=>
  have e:=qpe Z (ag.trans hs);refine zv ?_;exact⟨(i+1,B,W),⟨rfl,rfl,rfl,by dsimp only;rw[e];rfl,Ad (Value.int .i64) Oo,trivial⟩,⟨by dsimp only;omega,by dsimp only;rw[e];exact H.tail⟩,by dsimp only;omega⟩
 have e:=q8q Z (ag.trans hs);refine zv ?_;refine⟨⟨g,af,i,rfl,by omega,by omega,?_⟩⟩;rw[ae];(conv=>whnf);refine LoadA.cells (vs:=snQ ((j:Int),x)) (CellsAt.ext ad H.mem.ext) rfl (zw ?_);refine NewV.rw H ?_;clear H;intro nb w8 H;have H:Rw w3 w8 (.slice B (fltI f M i).length W) 77 17 (fltI f M i).length ((snL qs (fltI f M i)).map snQ).flatten [(nb,.cells (snQ ((j:Int),x)).toArray 77),(tb,.cells #[ii T.kind,.string T.text,.string T.type,.string T.lang] 45)]:=H;(conv=>whnf);refine AppV.rw (m:=1) (news:=snQ ((j:Int),x)) q9v s20I s20Z Jk Jk Od H rfl (λ_=>⟨nb,0,rfl,λk v hv=>?_⟩) (qqo _) (by rw[s20B];omega) Oo ?_
 ·rw[qa (H.mem.get mh),As];rw[An];exact hv
 clear H;intro B2 c2 w9 H;refine zu ?_;have el:(fltI f M (i+1)).length=(fltI f M i).length+1:=by rw[e,zla];rfl
 have ao:((snL qs (fltI f M (i+1))).map snQ).flatten=((snL qs (fltI f M i)).map snQ).flatten++snQ ((j:Int),x):=by
  rw[e,snL,AH,AH,Dt,snL];simp[snQ,<-aa]
 exact⟨(i+1,B2,c2),⟨rfl,rfl,rfl,by dsimp only;rw[el];rfl,Ad (Value.int .i64) Oo,trivial⟩,⟨by dsimp only;omega,by dsimp only;rw[el,ao];exact H.tail.tail⟩,by dsimp only;omega⟩
theorem qto(A:oA)(c z:Nat):(if c=0 then A else A.map (·.add (0*z)))=A:=by
 rcases A with _|a
 ·split<;>rfl
 ·split
  ·rfl
  ·simp[Addr.add]
theorem qagm{T:TM}{L:List TM}{x:TM}(U:k<=ledC cmpT T L)(H:L[k]?=some x)(h:cmpT x T<0):k+1<=ledC cmpT T L:=by
 rcases AN k (ledC cmpT T L)with g|g
 ·exact g
 ·obtain rfl:k=ledC cmpT T L:=by omega
  exact absurd h (q4h T H)
theorem qagl{T:TM}{L:List TM}{x:TM}(U:k<=ledC cmpT T L)(H:L[k]?=some x)(h:¬cmpT x T<0):k=ledC cmpT T L:=by
 rcases AN k (ledC cmpT T L)with g|g
 ·exact absurd (q4j T g H) h
 ·omega
theorem qqx(qs:List Q4)(A:oA)(n c:Nat)(B0:oA)(m0 d0:Nat)(p:Q4)(pl:Int)(w:DA)(hS:SlAt qm 16 w A qs)(hn:qs.length=n)(hb:n<=1048576):
  Gv DM 44 [.agg #[.slice A n c,.slice B0 m0 d0],q4 p,ii pl] w λr w'=>TmR (tasL pl p qs) r w'/\Ext w w':=by
 subst hn;have bl:tsz DM 77=17:=by kernel_rfl
 have t4:tsz DM 45=4:=by kernel_rfl
 have az:((DM.info? 45).get Jk).bytes=56:=by kernel_rfl
 have bm:=qjs p qs;obtain⟨M,eM⟩:∃M,M=qbe p qs:=⟨_,rfl⟩
 obtain⟨Ts,a0⟩:∃Ts:List TM,Ts=tatL pl p qs:=⟨_,rfl⟩
 have b8:Ts.length=M.length:=by rw[a0,tatL,A6,eM]
 have eR:tasL pl p qs=if plOk pl=true then qcm cmpT Ts else[]:=by rw[tasL,a0]
 rw[eR];rw[<-eM]at bm;refine ze Tryz.func44 Tryz.ntmps44 ?_;refine znm (Mem.nil w) λxb w1 hm=>zw ?_;refine znm hm λpb w2 hm=>zw ?_;refine zl hm 1 ?_;refine LoadA.mem (cs:=(qm p).toArray) hm (i:=0) rfl rfl (zw ?_);refine zcv (qet qs A qs.length c B0 m0 d0 p w2 (hS.ext hm.ext) rfl hb) ?_;rintro r w3 ⟨⟨D,d,rfl,hd,hD⟩,bn⟩;have a7:Ext w w3:=hm.ext.trans bn;clear hm;rw[<-eM]at hD hd|-;rw[qdw]at hd|-;have cJ:=qem w3;(conv=>whnf);refine qq (λx:Nat×DF×DJ=>[(2,ii pl),(7,.slice D M.length d),(8,x.2.1),(9,ii x.1)])
  (λx w'=>x.1<=M.length/\(x.1=0\/plOk pl=true)/\RowX 45 4 x.2.1 (qcm cmpT (Ts.take x.1)).length ((qcm cmpT (Ts.take x.1)).map encT).flatten x.2.2/\Mem w3 w' x.2.2) (λx=>M.length-x.1) (0,.slice none 0 0,[])
  fq ⟨Af _,.inl rfl,RowX.nil _ _,Mem.nil w3⟩ ?_
 rintro⟨i,v,Y⟩ w4 bo ⟨hi,a8,hR,H⟩;dsimp only at hi a8 hR H|-;obtain⟨L,eL⟩:∃L,L=qcm cmpT (Ts.take i):=⟨_,rfl⟩
 have a9:=qr4 ordT (Ts.take i);rw[<-eL]at hR a9;rw[Ar]at a9;obtain⟨O,co,ev,ao,hO⟩:=V.RowX.sl qaf hR rfl (λx hx=>H.get hx);subst ev;(conv=>whnf);refine zC (λ_=>zw ?_) (λ_=>zw ?_)
 case' refine_2=>
  obtain rfl:i=M.length:=by omega
  rw[Aj Oo]at eL;refine⟨?_,a7.trans H.ext⟩;cases hp:plOk pl
  ·rcases a8 with h0|h0
   ·have:Ts=[]:=Bo Oo;rw[this]at eL;have e0:L=[]:=eL;subst e0;exact⟨O,co,rfl,ao,hO⟩
   ·rw[hp]at h0;cases h0
  ·rw[Ab rfl,<-eL];exact⟨O,co,rfl,ao,hO⟩
 have bp:i<M.length:=by omega
 obtain⟨j,hj⟩:∃j,M[i]?=some j:=⟨_,zge bp⟩
 have b9:j<qs.length:=qx8 (p:=p) (by rw[<-eM];exact zmg hj);obtain⟨x,ba⟩:∃x,qs.getD j zQ=x:=⟨_,rfl⟩
 obtain⟨g,bb,rfl,bd⟩:=hD.at_ (by intro e;have:=qdw qs M;rw[e]at this;simp at this;omega);have a1:=bd i _ (qqn hj);rw[ba]at a1;have be:=CellsAt.ext (qag6 a1) H.ext;refine⟨⟨g,bb,i,rfl,by omega,by omega,?_⟩⟩;rw[bl];(conv=>whnf);refine LoadA.cells be rfl (zw ?_);refine zcv (qwu x pl w4) ?_;rintro r w5 ⟨rfl,bf⟩;replace H:=H.call bf;obtain⟨T,eT⟩:∃T,T=(if plOk pl=true then plT pl x else zTM):=⟨_,rfl⟩
 rw[<-eT];(conv=>whnf);refine NewV.carr cJ H λtb w6 H=>zw ?_;refine StoreA.carr (vs:=encT T) cJ (A:=[]) H rfl (qaa T) ?_;clear H;intro w7 H;have H:Mem w3 w7 ((tb,.cells (encT T).toArray 45)::Y):=H;cases hp:plOk pl
 case false=>
  refine zu ?_;exact⟨⟨none,0,rfl,Ai _,⟨λh=>absurd rfl h⟩⟩,a7.trans H.ext⟩
 rw[hp,Ab rfl]at eT;have bq:Ts[i]?=some T:=by rw[a0,tatL,Ao,<-eM,hj,Be,ba,eT]
 have bg:qcm cmpT (Ts.take (i+1))=insC cmpT T L:=by rw[Bp,bq,eL];exact qum ordT _ _
 clear eT be a1 bd bf;have cc:=q4i (c:=cmpT) T L;refine zu ?_;refine qq (λk:Nat=>[(2,ii pl),(7,.slice (some ⟨g,bb,none⟩) M.length d),(8,.slice O L.length co),(9,ii i),(10,pp tb),(12,ii k)])
  (λk w'=>k<=ledC cmpT T L/\Mem w3 w' ((tb,.cells (encT T).toArray 45)::Y)) (λk=>L.length-k) 0 fq ⟨Af _,H⟩ ?_
 clear H hO;rintro k w8 bo ⟨hk,H⟩;obtain⟨_,_,ev,_,hO⟩:=V.RowX.sl qaf hR rfl (λx hx=>H.get (zmc hx))
 injection ev with a2 _ a3
 subst a2 a3;have a4:∀W,Ext w8 W->W.heap[tb]?=some (.cells (encT T).toArray 45):=λW he=>he.get (H.get mh)
 have ag:∀W,Ext w8.drew W->Ext w8 W:=λW hd=>(Ext.refl w8).drew.trans hd
 (conv=>whnf);refine DrawV.free Jk Jk (zw ?_);(iterate 5 (refine zd ?_))
 rcases AN k L.length with aq|aq
 case' inr=>
  have cd:k=L.length:=by omega
  have ah:(decide ((k:Int)<(L.length:Int)))=false:=Ax Oo;have ai:(decide ((k:Int)=(L.length:Int)))=true:=At Oo;rw[ah];(iterate 8 (refine zd ?_));intro w9 af;replace H:=H.drew.call af;refine zu ?_;refine DrawV.free Jk Jk (zw ?_);(iterate 5 (refine zd ?_));rw[ai];(iterate 7 (refine zd ?_));intro br ad;replace H:=H.drew.call ad;refine zu ?_;have ar:k<=L.length:=by omega
  have aj:insC cmpT T L=L.take k++T::L.drop k:=by
   have e:k=ledC cmpT T L:=by omega
   have:=qxw ordT (t:=T) (L:=L) (λy hy=>by rw[<-e,AY Oo]at hy;cases hy)
   rwa[<-e]at this
  clear ah ai af ad a4 ag
 case' inl=>
  obtain⟨y,hy⟩:∃y,L[k]?=some y:=⟨_,zge aq⟩
  obtain⟨go,oo,rfl,aw⟩:=hO.at_ (by intro e;rw[e]at aq;simp at aq);have a5:=aw k y hy;have ah:(decide ((k:Int)<(L.length:Int)))=true:=At Oo;have ai:(decide ((k:Int)=(L.length:Int)))=false:=Ax Oo;rw[ah];refine zd ?_;refine zd ?_;apply zsd (.pointer (some ⟨go,oo+k*4,none⟩))
  ·intro W hd;refine zu ?_;refine⟨⟨go,oo,k,rfl,by omega,by omega,?_⟩⟩;rw[t4];(conv=>whnf);exact xq
  (conv=>whnf);apply zsd (qy y)
  ·intro W hd;refine zu ?_;refine LoadA.cells (CellsAt.ext a5 (ag W hd)) rfl (zw ?_);exact xq
  (conv=>whnf);apply zsd (qy T)
  ·intro W hd;refine zu ?_;refine LoadA.own (a4 W (ag W hd)) rfl (zw ?_);exact xq
  (conv=>whnf);apply zsd (ii (cmpT y T))
  ·intro W hd;refine zu ?_;refine zcv (qbt y T W) ?_;rintro r wx ⟨rfl,hex⟩;exact⟨hex,rfl⟩
  (conv=>whnf);refine zd ?_;refine zd ?_;intro w9 af;have bt:=ag w9 af;replace H:=H.drew.call af
  rcases Dv (cmpT y T) 0 with hc|hc
  case' inl=>
   refine zu ?_;exact⟨k+1,⟨rfl,rfl,rfl,rfl,rfl,Ad (Value.int .i64) Oo,trivial⟩,⟨qagm hk hy hc,H⟩,by omega⟩
  have ak:=qagl hk hy Oo;have ax:∀W,Ext w9 W->W.heap[tb]?=some (.cells (encT T).toArray 45):=λW he=>he.get (H.get mh)
  have al:∀W,Ext w9.drew W->Ext w9 W:=λW hd=>(Ext.refl w9).drew.trans hd
  refine zu ?_;refine DrawV.free Jk Jk (zw ?_);(iterate 5 (refine zd ?_));rw[ai];refine zd ?_;refine zd ?_;apply zsd (.pointer (some ⟨go,oo+k*4,none⟩))
  ·intro W hd;refine zu ?_;refine⟨⟨go,oo,k,rfl,by omega,by omega,?_⟩⟩;rw[t4];(conv=>whnf);exact xq
  (conv=>whnf);apply zsd (qy y)
  ·intro W hd;refine zu ?_;refine LoadA.cells (CellsAt.ext a5 (bt.trans (al W hd))) rfl (zw ?_);exact xq
  (conv=>whnf);apply zsd (qy T)
  ·intro W hd;refine zu ?_;refine LoadA.own (ax W (al W hd)) rfl (zw ?_);exact xq
  (conv=>whnf);apply zsd (.bool (!qal y T))
  ·intro W hd;refine zu ?_;refine RunV.eqTerm (a:=y) (b:=T) (.inr rfl) (zw ?_);exact xq
  (conv=>whnf);refine zd ?_;intro br ad;replace H:=H.drew.call ad;cases au:qal y T
  case' true=>
   obtain rfl:=q7.1 au;have e:insC cmpT y L=L:=qadc ordT (by rw[<-ak];exact hy) rfl;refine zu ?_;exact⟨(i+1,.slice (some ⟨go,oo,none⟩) L.length co,Y),⟨rfl,rfl,rfl,Ad (Value.int .i64) Oo,trivial⟩,⟨by dsimp only;omega,.inr rfl,by dsimp only;rw[bg,e];exact hR,H.sub (Ak ..)⟩,by dsimp only;omega⟩
  refine zu ?_;have ar:k<=L.length:=by omega
  have aj:insC cmpT T L=L.take k++T::L.drop k:=by
   have:=qxw ordT (t:=T) (L:=L) (λz hz e=>by
    rw[<-ak,hy]at hz;cases hz;rw[q7.2 e]at au;cases au)
   rwa[<-ak]at this
  obtain⟨O,eO⟩:∃O,O=some (⟨go,oo,none⟩:Addr):=⟨_,rfl⟩
  rw[<-eO]at hO hR|-;clear eO a5 aw ah ai af ad a4 ag ax al au hc
 all_goals
  have bu:(L.map encT).flatten=((L.take k).map encT).flatten++((L.drop k).map encT).flatten:=by rw[<-Dt,<-AH,AM]
  have ay:∀u∈((L.drop k).map encT).flatten,u.oneCell'=true:=λu hu=>by
   obtain⟨l,bv,bw⟩:=D7.1 hu;obtain⟨t,_,rfl⟩:=AA.1 bv;exact qaa t u bw
  have av:(L.drop k).length=L.length-k:=zld;refine NewV.carr cJ H ?_;clear H hO;intro nb ce H;obtain⟨_,_,ev,_,hO⟩:=V.RowX.sl qaf hR rfl (λx hx=>H.get (zmc (zmc hx)))
  injection ev with a2 _ a3
  subst a2 a3;have ae:=hO.cut (lo:=k) (hi:=L.length) (m:=co) ar znr ao rfl;rw[Aj Oo]at ae;(conv=>whnf);refine SliceV.to k L.length co rfl rfl rfl ar ao znr (λh=>by cases h) ?_;rw[t4];obtain⟨O2,bh⟩:∃O2,O2=(if co=k then O else O.map (·.add (k*4))):=⟨_,rfl⟩
  rw[<-bh]at ae|-;clear bh hO;(conv=>whnf);refine AppV.carr (e:=45) (size:=4) (xs:=[]) (Y:=[(nb,.cells #[] 45)]) (m:=L.length-k) (news:=((L.drop k).map encT).flatten) cJ H ⟨rfl,.inr ⟨nb,0,#[],rfl,rfl,Ai _,Af _,rfl,rfl⟩⟩ qni trmI trmZ Jk Jk Od (by rw[qb7 encT 4 qaf,av]) (λam=>by
   obtain⟨b,o,e,ha⟩:=ae.at_ (by intro e;rw[e]at am;exact am rfl);exact⟨b,o,e,qen Od qaf ha⟩) ay (by rw[az];omega) Oo ?_
  clear H ae;intro A3 c3 Z bz hZ H;have e0:0+(L.length-k)=L.length-k:=As _;rw[e0,Bi]at hZ;rw[e0];have H:Mem w3 bz (Y++(Z++[(tb,.cells (encT T).toArray 45)])):=by
   refine cJ.perm H ?_;rw[<-Az];refine Bb.trans ?_;refine List.Perm.trans ?_ Ap;exact List.Perm.cons _ Ap
  have b0:RowX 45 4 (.slice O k co) k ((L.take k).map encT).flatten Y:=V.RowX.cut (m:=L.length) (ws:=((L.drop k).map encT).flatten) (by rw[<-bu];exact hR) (by rw[qb7 encT 4 qaf,Ar];congr 1;omega) ar;(conv=>whnf);refine DrawV.gen (λS U w'=>ApJ3 (λX w'=>Mem w3 w' X) (Z++[(tb,.cells (encT T).toArray 45)]) Y (.cells (encT T).toArray 45) (λu Y'=>RowX 45 4 u (k+1) (((L.take k).map encT).flatten++encT T) Y') (λu Y'=>RowX 45 4 u (k+1+(L.length-k)) ((((L.take k).map encT).flatten++encT T)++((L.drop k).map encT).flatten) Y') (S 4) (S 5) (S 7) (U 4) (U 5) (U 7) w'/\(S 8=true->S 7=true/\U 8=U 7)) rfl Jk (λU=>⟨.inl ⟨rfl,rfl,rfl,H.drew⟩,λh=>by cases h⟩) ?_;clear H;(conv=>whnf);refine zg ?_;refine zg ?_;refine StepG.of (.slice O k co) (λS U W hk hp hI=>zw ?_) (zw ?_)
  ·refine SliceV.to 0 k co rfl rfl rfl (Af _) Oo znr (λh=>by cases h) ?_;rw[qto,Ch,Ch];(conv=>whnf);exact⟨rfl,hI⟩
  refine StepG.of (qy T) (λS U W hk hp hI=>?_) (zw ?_)
  ·have b1:=hI.1.get cJ (Ac Z (Aq.2 rfl));(conv=>whnf);refine LoadA.own b1 rfl (zw ?_);exact⟨rfl,hI⟩
  refine StepG.any (λS U W hk hp hI=>?_) (zw ?_)
  ·dsimp only at hI;rw[hk]at hI;(conv=>whnf);refine⟨λx wx hb hw=>?_⟩;subst hb hw;(conv=>whnf);exact⟨trivial,hI.1.laid cJ,hI.2⟩
  refine StepG.any (λS U W hk hp hI=>?_) (zw ?_)
  ·dsimp only at hI;have h4:S 4=true:=hp 4 Od;rw[hk,h4]at hI;obtain⟨h7,bi,hv,hJ⟩:=hI.1.ready;have hJ:Mem w3 W (Y++((bi,.cells (encT T).toArray 45)::(Z++[(tb,.cells (encT T).toArray 45)]))):=cJ.perm hJ Bb.symm;rw[ql hv];(conv=>whnf);refine AppV.carr (m:=1) (news:=encT T) cJ hJ b0 qni trmI trmZ Jk Jk Od rfl (λ_=>⟨bi,0,rfl,λj u hu=>by rw[qa (hJ.get (Ac _ mh)),As,An];exact hu⟩) (qaa T) (by rw[az];omega) Oo ?_;intro A4 c4 Y4 bj an b2;(conv=>whnf);exact⟨trivial,.inr (.inr (.inl ⟨h4,rfl,h7,Y4,an,cJ.dropM b2⟩)),hI.2⟩
  refine zg ?_;refine StepG.any (λS U W hk hp hI=>?_) (zw ?_)
  ·dsimp only at hI;have h5:S 5=true:=hp 5 Od;rw[hk,h5]at hI;obtain⟨h4,Y4,an,hJ⟩:=hI.1.put;obtain⟨A4,c4,hv⟩:=an.slice;rw[hv]at an;obtain⟨_,_,ez,_,b3⟩:=V.RowX.sl qaf hZ av (λx hx=>hJ.get (Ac _ (Ah _ hx)))
   injection ez with b4 _ b5
   subst b4 b5;rw[ql hv];(conv=>whnf);refine AppV.carr (m:=L.length-k) (news:=((L.drop k).map encT).flatten) cJ hJ an qni trmI trmZ Jk Jk Od (by rw[qb7 encT 4 qaf,av]) (λam=>by
    obtain⟨b,o,e,ha⟩:=b3.at_ (by intro e;rw[e]at am;exact am rfl);exact⟨b,o,e,qen Od qaf ha⟩) ay (by rw[az];omega) Oo ?_
   intro A5 c5 Y5 bj aa b6;(conv=>whnf);exact⟨trivial,.inr (.inr (.inr ⟨h4,h5,rfl,Y5,aa,b6⟩)),λh8=>by have:=(hI.2 h8).1;cases this⟩
  refine StepG.any (λS U W hk hp hI=>?_) (zw ?_)
  ·dsimp only at hI;have h7:S 7=true:=hp 7 Od;have h5:S 5=true:=hp 5 Od;have h4:S 4=true:=hp 4 Od;rw[hk,h7]at hI;obtain⟨Y5,aa,hJ⟩:=hI.1.done;obtain⟨A5,c5,hv⟩:=aa.slice;rw[hv]at aa;rw[ql hv];(conv=>whnf);exact⟨trivial,.inr (.inr (.inr ⟨h4,h5,h7,Y5,aa,hJ⟩)),λ_=>⟨h7,rfl⟩⟩
  intro U bj hI;obtain⟨Y5,aa,hJ⟩:=hI.1.done;have a6:=(hI.2 rfl).2;obtain⟨A5,c5,hv⟩:=aa.slice;rw[hv]at aa a6;rw[ql a6];clear hI a6 hv;refine zu ?_;have bk:(insC cmpT T L).length=k+1+(L.length-k):=by rw[aj,zla,Ar,Au,av];omega
  exact⟨(i+1,.slice A5 (k+1+(L.length-k)) c5,Y5),⟨rfl,rfl,rfl,Ad (Value.int .i64) Oo,trivial⟩,⟨by dsimp only;omega,.inr rfl,by
   dsimp only;rw[bg,bk,aj]
   simpa using aa,cJ.dropL (cJ.perm hJ Ap)⟩,by dsimp only;omega⟩
def qml(e:Int×Q4):DF:=.agg (snQ e).toArray
theorem q8n:DM.underlying 77=some (.struct (DM.fieldsOf 77)):=by kernel_rfl
theorem qae2:DM.stoodInHeld 77=false:=by kernel_rfl
theorem qac9:DM.eqGuardType DM.depth 77=false:=by kernel_rfl
theorem qnh(d:Nat)(e:Int×Q4)(w:DA):(Op.equalIn (d+4) 77 (qml e) (qml e)).run DM w=.ok true w:=by
 have U:=Tryz.underlying3;have V:=Tryz.isAgg3;have W:=Tryz.sizeOf3;have Z:=Tryz.isAgg47;have z4:=Tryz.sizeOf47;simp only[qml,snQ,qm,encT];rw[run_equalIn_agg w (d+3) _ _ _ q8n qae2];simp only[Program.fieldsOf,Tryz.underlying77];have H:=qgp d e.2 e.2 w;rw[qmh.2 rfl]at H;simp only[q4]at H
 go_simp
theorem V.RunV.neqSn{e:Int×Q4}(h:K (.bool false) w):
  RunV DM (do eqGuard .neq 77 xo yo (qml e) (qml e);binOp .neq 77 (qml e) (qml e)) w K:=by
 refine⟨_,w,?_,h⟩;have H:=qnh 9996 e w;rw[Sem.run_bind,qml,run_eqGuard_agg w .neq _ xo yo _ _ qac9,Result.andThen_ok];simp only[qml]at H;rw[run_neq_struct,H];rfl
theorem qcw(E:List (Int×Q4))(A B:oA)(cA cB:Nat)(w:DA)(hA:SlAt snQ 17 w A E)(hB:SlAt snQ 17 w B E)(hl:E.length<=1152921504606846976):
  Gv DM 25 [.slice A E.length cA,.slice B E.length cB] w λr w'=>r=.bool true/\Ext w w':=by
 have W:tsz DM 77=17:=by kernel_rfl
 refine ze Tryz.func25 Tryz.ntmps25 ?_;refine zv ?_;refine qq (λi:Nat=>[(0,.slice A E.length cA),(1,.slice B E.length cB),(5,ii i)]) (λi w'=>i<=E.length/\Ext w w') (λi=>E.length-i) 0 fq ⟨Af _,xr⟩ ?_;rintro i w1 ae ⟨hi,he⟩;(conv=>whnf);refine zC (λ_=>zw ?_) (λ_=>zw ?_)
 case' refine_2=>exact⟨rfl,he⟩
 have V:i<E.length:=by omega
 have Z:E≠[]:=by intro e;rw[e]at V;simp at V
 obtain⟨g1,o1,rfl,h1⟩:=hA.at_ Z;obtain⟨g2,o2,rfl,h2⟩:=hB.at_ Z;obtain⟨e,aa⟩:∃e,E[i]?=some e:=⟨_,zge V⟩
 have hx:=λH (U:Ext w1.drew H)=>he.trans ((Ext.refl w1).drew.trans U)
 refine DrawV.free Jk Jk (zw ?_);refine zd ?_;refine zd ?_;refine zsd (.pointer (some ⟨g1,o1+i*17,none⟩)) (λH U=>zw ?_) ?_
 ·refine⟨⟨g1,o1,i,rfl,by omega,by omega,?_⟩⟩;rw[W];(conv=>whnf);exact xq
 apply zsd (qml e)
 ·intro H U;refine LoadA.cells (CellsAt.ext (h1 i e aa) (hx H U)) rfl (zw ?_);exact xq
 (conv=>whnf);refine zd ?_;refine zd ?_;refine zsd (.pointer (some ⟨g2,o2+i*17,none⟩)) (λH U=>zw ?_) ?_
 ·refine⟨⟨g2,o2,i,rfl,by omega,by omega,?_⟩⟩;rw[W];(conv=>whnf);exact xq
 apply zsd (qml e)
 ·intro H U;refine LoadA.cells (CellsAt.ext (h2 i e aa) (hx H U)) rfl (zw ?_);exact xq
 apply zsd (.bool false)
 ·intro H U;refine RunV.neqSn (e:=e) (zw ?_);exact xq
 intro w2 ad;refine zu ?_;exact⟨i+1,⟨rfl,rfl,Ad (Value.int .i64) Oo,trivial⟩,⟨by omega,hx w2 ad⟩,by omega⟩
theorem qfw(E:List TM)(A B:oA)(cA cB:Nat)(w:DA)(hA:SlAt encT 4 w A E)(hB:SlAt encT 4 w B E)(hl:E.length<=1152921504606846976):
  Gv DM 45 [.slice A E.length cA,.slice B E.length cB] w λr w'=>r=.bool true/\Ext w w':=by
 have t4:tsz DM 45=4:=by kernel_rfl
 refine ze Tryz.func45 Tryz.ntmps45 ?_;refine zv ?_;refine qq (λi:Nat=>[(0,.slice A E.length cA),(1,.slice B E.length cB),(5,ii i)]) (λi w'=>i<=E.length/\Ext w w') (λi=>E.length-i) 0 fq ⟨Af _,xr⟩ ?_;rintro i w1 ad ⟨hi,he⟩;(conv=>whnf);refine zC (λ_=>zw ?_) (λ_=>zw ?_)
 case' refine_2=>exact⟨rfl,he⟩
 have V:i<E.length:=by omega
 have W:E≠[]:=by intro e;rw[e]at V;simp at V
 obtain⟨g1,o1,rfl,h1⟩:=hA.at_ W;obtain⟨g2,o2,rfl,h2⟩:=hB.at_ W;obtain⟨e,Z⟩:∃e,E[i]?=some e:=⟨_,zge V⟩
 have hx:=λH (U:Ext w1.drew H)=>he.trans ((Ext.refl w1).drew.trans U)
 refine DrawV.free Jk Jk (zw ?_);refine zd ?_;refine zd ?_;refine zsd (.pointer (some ⟨g1,o1+i*4,none⟩)) (λH U=>zw ?_) ?_
 ·refine⟨⟨g1,o1,i,rfl,by omega,by omega,?_⟩⟩;rw[t4];(conv=>whnf);exact xq
 apply zsd (qy e)
 ·intro H U;refine LoadA.cells (CellsAt.ext (h1 i e Z) (hx H U)) rfl (zw ?_);exact xq
 (conv=>whnf);refine zd ?_;refine zd ?_;refine zsd (.pointer (some ⟨g2,o2+i*4,none⟩)) (λH U=>zw ?_) ?_
 ·refine⟨⟨g2,o2,i,rfl,by omega,by omega,?_⟩⟩;rw[t4];(conv=>whnf);exact xq
 apply zsd (qy e)
 ·intro H U;refine LoadA.cells (CellsAt.ext (h2 i e Z) (hx H U)) rfl (zw ?_);exact xq
 apply zsd (.bool false)
 ·intro H U;refine RunV.eqTerm (a:=e) (b:=e) (.inr rfl) ?_;rw[q7.2 rfl];(conv=>whnf);exact xq
 intro w2 aa;refine zu ?_;exact⟨i+1,⟨rfl,rfl,Ad (Value.int .i64) Oo,trivial⟩,⟨by omega,hx w2 aa⟩,by omega⟩
theorem qlh(A:oA)(n c m:Nat)(w:DA)(Z:n<=c):Gv DM 42 [.slice A n c,ii m] w λr w'=>r=.slice A (min n m) c/\Ext w w':=by
 have H:tsz DM 77=17:=by kernel_rfl
 refine ze Tryz.func42 Tryz.ntmps42 ?_;refine V.Fall.min2 rfl rfl rfl λmn U=>?_;obtain⟨k,W⟩:∃k,k=min n m:=⟨_,rfl⟩
 obtain rfl:mn=(k:Int):=by omega
 refine V.SliceV.to 0 k c rfl rfl rfl (Af _) Oo znr (λh=>by cases h) ?_;rw[qto,Ch,Ch];(conv=>whnf);exact⟨by rw[<-W],xr⟩
theorem qmg(l:LB)(A B:oA)(cA cB:Nat)(w:DA)(hA:SlAt encB 1 w A l)(hB:SlAt encB 1 w B l)(hl:l.length<=1152921504606846976):
  Gv DM 47 [.slice A l.length cA,.slice B l.length cB] w λr w'=>r=.bool true/\Ext w w':=by
 refine ze Tryz.func47 Tryz.ntmps47 ?_;refine zv ?_;refine qq (λi:Nat=>[(0,.slice A l.length cA),(1,.slice B l.length cB),(5,ii i)]) (λi w'=>i<=l.length/\Ext w w') (λi=>l.length-i) 0 fq ⟨Af _,xr⟩ ?_;rintro i W aa ⟨hi,V⟩;(conv=>whnf);refine zC (λ_=>zw ?_) (λ_=>zw ?_)
 ·have H:i<l.length:=by omega
  have U:l≠[]:=by intro e;rw[e]at H;simp at H
  obtain⟨g1,o1,rfl,Z⟩:=(hA.ext (V.trans (Ext.refl W).drew)).at_ U;obtain⟨g2,o2,rfl,h2⟩:=(hB.ext (V.trans (Ext.refl W).drew)).at_ U;have Z:=Z i _ (zge H);have h2:=h2 i _ (zge H);refine zy ?_;refine zv ?_;refine⟨⟨g1,o1,i,rfl,by omega,by omega,?_⟩⟩;rw[show tsz DM 5=1 from by kernel_rfl];refine zu ?_;refine LoadV.cell0 Z (zu ?_);refine⟨⟨g2,o2,i,rfl,by omega,by omega,?_⟩⟩;rw[show tsz DM 5=1 from by kernel_rfl];refine zu ?_;refine LoadV.cell0 h2 (zu ?_);exact⟨i+1,⟨rfl,rfl,Ad (Value.int .i64) Oo,trivial⟩,⟨by omega,V.trans (Ext.refl W).drew⟩,by omega⟩
 ·exact⟨rfl,V⟩
def u8L(l:LB):DK:=l.map λc=>Value.int .u8 c.toNat
theorem qe1(l:LB):(u8L l).length=l.length:=A6 ..
theorem q6l(L:DK)(x y z:DF):(L++[x,y]).toArray.setIfInBounds L.length z=(L++[z,y]).toArray:=by
 rw[<-Bh];simp
theorem q6m(L:DK)(x y z:DF):(L++[x,y]).toArray.setIfInBounds (L.length+1) z=(L++[x,z]).toArray:=by
 rw[<-Bh];simp
theorem qwn(n:Nat):qcp [Value.int .u8 0] n=List.replicate n (Value.int .u8 0):=by
 induction n with
 | zero=>rfl
 | succ n H=>rw[qcp,H];rfl
def LentS(l:LB)(base:Nat)(v:DF)(w:DA):Prop:=
 ∃g,v=.slice (some ⟨g,0,none⟩) l.length (l.length+2)/\base<=g/\w.heap[g]?=some (.cells (u8L l++[Value.int .u8 171,Value.int .u8 172]).toArray 5)
theorem LentS.ext{base:Nat}{v:DF}(h:LentS l base v w)(H:Ext w w'):LentS l base v w':=by
 obtain⟨g,U,V,W⟩:=h;exact⟨g,U,V,H.get W⟩
theorem qabv{t:DD}(h:w.heap[g]?=some (.cells (u8L l++xs).toArray t)):SlAt encB 1 w (some ⟨g,0,none⟩) l:=by
 refine⟨λ_=>⟨g,0,rfl,λj x H k v U=>?_⟩⟩;have V:=(Ae.1 H).1;obtain rfl:k=0:=by
  have:k<1:=(Ae.1 U).1;omega
 rw[qa h,An,AS (by rw[qe1];omega),u8L,Ao,show 0+j*1+0=j by omega,H];exact U
theorem qzz(l:LB)(A:oA)(c:Nat)(w:DA)(hS:SlAt encB 1 w A l)(hl:l.length<=140737488351232):
  Gv DM 10 [.slice A l.length c] w λv w'=>LentS l w.heap.size v w'/\Ext w w':=by
 have t1:tsz DM 5=1:=by kernel_rfl
 refine ze Tryz.func10 Tryz.ntmps10 ?_;refine zv ?_;refine⟨l.length+2,l.length+2,by omega,by omega,Ai _,show(l.length+2)*1<=140737488355328 by omega,by omega,?_⟩;intro U w1 ad ae;have H:Mem w w1 [(U,.cells (qcp [Value.int .u8 0] (l.length+2)).toArray 5)]:=(Mem.nil w).new ad ae;clear ad ae;have hu:DM.underlying 32=some (.slice 5):=Tryz.underlying32;have af:(DM.info? 5).map (·.size)=some 1:=by kernel_rfl
 have hg:=H.get mh;have ai:(qcp [Value.int .u8 0] (l.length+2)).length=l.length+2:=by rw[qij];simp
 (conv=>whnf);have ak:∀Z,Mem w Z [(U,.cells (u8L l++[Value.int .u8 0,Value.int .u8 0]).toArray 5)]->Mem w Z [(U,.cells (u8L l++[Value.int .u8 0,Value.int .u8 0]).toArray 5)]:=λ_ h=>h
 rcases Bk l.length with h0|h0
 case' inl=>
  have W:=run_copy_none (P:=DM) w1 32 32 3 5 (some ⟨U,0,none⟩) A (l.length+2) (l.length+2) l.length c hu af (by rw[h0];rfl);refine Fall.copy rfl rfl rfl _ _ W ?_;have e:l=[]:=Bo h0;have H:Mem w w1 [(U,.cells (u8L l++[Value.int .u8 0,Value.int .u8 0]).toArray 5)]:=by
   rw[e];rw[e]at H;exact H
  obtain⟨Z,aa⟩:∃Z,Z=w1:=⟨_,rfl⟩
  rw[<-aa]at H|-
 case' inr=>
  obtain⟨gb,go,eA,aj⟩:=hS.at_ (by intro e;rw[e]at h0;simp at h0);subst eA;have W:=run_copy_row (P:=DM) w1 32 32 3 5 U 0 (l.length+2) (l.length+2) ⟨gb,go,none⟩ l.length c _ 5 (u8L l) hu af hg (by rw[qe1];exact(Bq Oo).symm) (λj v hv=>by
   rw[u8L,Ao]at hv;obtain⟨x,hx,rfl⟩:=C6.1 hv;have h1:=Ext.cell H.ext (aj j x hx 0 _ rfl);rw[Bx,Bt]at h1;have ea:(⟨gb,go,none⟩:Addr).add j=⟨gb,go+j,none⟩:=by unfold Addr.add;split<;>simp_all
   rw[ea];exact h1) (by rw[qe1,As];simp[ai]) (λv hv=>by
   obtain⟨x,_,rfl⟩:=AA.1 hv;rfl)
  have ec:((qcp [Value.int .u8 0] (l.length+2)).toArray.toList.take 0++u8L l++(qcp [Value.int .u8 0] (l.length+2)).toArray.toList.drop (0+(u8L l).length)).toArray=(u8L l++[Value.int .u8 0,Value.int .u8 0]).toArray:=by
   rw[Br,Bi,qwn,qe1];simp
  rw[ec]at W;refine Fall.copy rfl rfl rfl _ _ W ?_;have ag:Mem w (w1.setRow U (u8L l++[Value.int .u8 0,Value.int .u8 0]).toArray) [(U,.cells (u8L l++[Value.int .u8 0,Value.int .u8 0]).toArray 5)]:=by
   refine H.set (i:=0) rfl (Below.trans H.ext ⟨rfl,rfl,rfl,by simp[World.setRow],λk hk=>qu (by have:=(H.own _ mh).1;simp only at this;omega)⟩) (qb8 hg) (λc hc=>qu hc)
  obtain⟨Z,aa⟩:∃Z,Z=w1.setRow U (u8L l++[Value.int .u8 0,Value.int .u8 0]).toArray:=⟨_,rfl⟩
  rw[<-aa]at ag|-;clear H;have H:=ag
 all_goals
  have ah:=qe1 l;unfold goInt;(conv=>whnf);refine ElemV.own1 l.length rfl Oo (zw ?_);refine StoreV.mem H (i:=0) rfl (by simp[qe1]) rfl ?_;clear H;intro w3 H;replace H:Mem w w3 [(U,.cells ((u8L l++[Value.int .u8 0,Value.int .u8 0]).toArray.setIfInBounds l.length (Value.int .u8 171)) 5)]:=H;have e1:=q6l (u8L l) (Value.int .u8 0) (Value.int .u8 0) (Value.int .u8 171);rw[ah]at e1;rw[e1]at H;refine zu ?_;refine ElemV.own1 (l.length+1) Oo Oo (zw ?_);refine StoreV.mem H (i:=0) rfl (by simp[qe1]) rfl ?_;clear H;intro w4 H;replace H:Mem w w4 [(U,.cells ((u8L l++[Value.int .u8 171,Value.int .u8 0]).toArray.setIfInBounds (l.length+1) (Value.int .u8 172)) 5)]:=H;have e2:=q6m (u8L l) (Value.int .u8 171) (Value.int .u8 0) (Value.int .u8 172);rw[ah]at e2;rw[e2]at H;(conv=>whnf);refine V.SliceV.to 0 l.length (l.length+2) rfl rfl rfl (Af _) Oo znr (λh=>by cases h) ?_;rw[qto,Ch,Ch];(conv=>whnf);exact⟨⟨U,rfl,(H.own _ mh).1,H.get mh⟩,H.ext⟩
theorem qil(l:LB)(base:Nat)(v:DF)(B:oA)(c:Nat)(w:DA)(hL:LentS l base v w)(hS:SlAt encB 1 w B l)(hl:l.length<=140737488351232):
  Gv DM 14 [v,.slice B l.length c] w λr w'=>r=.bool true/\Ext w w':=by
 have t1:tsz DM 5=1:=by kernel_rfl
 obtain⟨g,rfl,_,W⟩:=hL;have H:∀w',Ext w w'->∀k x,[Value.int .u8 171,Value.int .u8 172][k]?=some x->w'.cell? ⟨g,l.length+k,none⟩=some x:=λw' he k x hx=>by
  rw[qa (he.get W),An,AV (by rw[qe1];omega),qe1,BE];exact hx
 refine ze Tryz.func14 Tryz.ntmps14 ?_;refine zv ?_;refine V.SliceV.to 0 (l.length+2) (l.length+2) rfl (q7x Oo) rfl (Af _) znr znr (λh=>by cases h) ?_;rw[qto,Ch];(conv=>whnf);refine zcv (qmg l (some ⟨g,0,none⟩) B (l.length+2) c w (qabv W) hS Oo) ?_;rintro r Z ⟨rfl,U⟩;refine zu ?_;refine ElemV.own1 l.length rfl Oo (zu ?_);refine LoadV.of (H Z U 0 _ rfl) (zu ?_);refine ElemV.own1 (l.length+1) Oo Oo (zu ?_);refine LoadV.of (H Z U 1 _ rfl) (zu ?_);exact⟨rfl,U⟩
open Go.RowKit
namespace V
variable {P:DC} {n:Nat}
theorem qag0{f:Operand}{Z:Array Tmp}{Φ:DI}{xs:List DK}(hf:ev ρ f=.func (.func gf) #[] lb.toArray)(he:qdk P gf=true)(V:SeqC P gf lb xs Φ)(ad:Z.toList.all (Nat.blt · n)=true)(ae:∀x∈xs,x.length=Z.size)(e:Nat)(J Jx:Nat->DJ->DI)(F:DJ->DI)(hJ:∀k,Carr (J k))(af:∀k,Carr (Jx k))(hw:∀k X w,J k X w->Φ w)(h0:J 0 [] w)(ak:∀X w,J xs.length X w->F X w)(ag:∀k X w,k<xs.length->Jx k X w->F X w)(hQ:∀ds w,Q .normal ρ ds w->Q (.exit e) ρ ds w)(W:∀D w',F [(D,.deferred (some []))] w'->Q .normal ρ ({ target:=.collected D,args:=#[] }::ds) w')(H:∀l D ob U k x X w1,xs[k]?=some x->J k ((l,ob)::(D,.deferred (some []))::X) w1->
   qfd P n (some l) assign (q9c λah ai aj=>BeginA (J k) l ob U aj ai
    (λw2=>qfd P n (some l) body (qyr (J (k+1) ((l,U)::(D,.deferred (some []))::X)) (λc=>λw=>c=.exit e/\Jx k ((l,U)::(D,.deferred (some []))::X) w)) ah [] w2)) (qtj Z.toList x ρ) [] w1):RangeW P n none f Z assign body Q ρ ds w:=by
 refine q5k (Jx:=λc k X w=>c=.exit e/\Jx k X w) hf he V ad ae J hJ (λc k=>Carr.and (af k)) hw h0 H (by grind) ?_;rintro D c k w' hk ⟨rfl,h⟩;exact hQ _ _ (W D w' (ag k _ _ hk h))
end V
def TkJ(J:DJ->DI)(lb:Nat)(ty e sz:DD)(rows:List DK)(m:Nat)(k:Nat)(X:DJ)(w:DA):Prop:=
 ∃s:DF×DJ,(RowX e sz s.1 k (rows.take k).flatten s.2/\k<=m)/\J (X++(s.2++[(lb,.cells #[s.1] ty)])) w
theorem TkJ.carr(H:Carr J)(lb:Nat)(ty e sz:DD)(rows:List DK)(m k:Nat):Carr (TkJ J lb ty e sz rows m k):=Carr.ex λ_=>H.tail _
def TkF(J:DJ->DI)(lb:Nat)(ty e sz:DD)(rows:List DK)(X:DJ)(w:DA):Prop:=
 ∃s:DF×DJ,RowX e sz s.1 rows.length rows.flatten s.2/\J (X++(s.2++[(lb,.cells #[s.1] ty)])) w
section
variable {J:DJ->DI} {lb:Nat} {ty e sz:DD} {rows:List DK} {m:Nat} {X:DJ} {w:DA}
theorem TkJ.all{n:Nat}(U:n=rows.length)(h:TkJ J lb ty e sz rows m n X w):TkF J lb ty e sz (rows.take m) X w:=by
 subst U;obtain⟨s,⟨H,V⟩,W⟩:=h;rw[BO]at H;rw[Aj V];exact⟨s,H,W⟩
theorem TkJ.cut{n:Nat}(V:n=rows.length)(W:k<n)(h:k=m/\TkJ J lb ty e sz rows m k X w):TkF J lb ty e sz (rows.take m) X w:=by
 obtain⟨rfl,s,⟨H,_⟩,U⟩:=h;refine⟨s,?_,U⟩;rw[Ar,Bq Oo];exact H
end
theorem qqv{rows:List DK}{r:DK}(h:rows[k]?=some r):(rows.take (k+1)).flatten=(rows.take k).flatten++r:=by
 rw[Bp,h];simp
theorem qh4{W:Type}{H:W->DK}{e:Nat}{v:DF}(U:∀x,(H x).length=sz){l:List W}(h:RowX e sz v (l.map H).length (l.map H).flatten Y)(Z:∀x∈Y,w.heap[x.1]?=some x.2):
  ∃A c,v=.slice A l.length c/\l.length<=c/\SlAt H sz w A l:=by
 rw[A6]at h;exact V.RowX.sl U h rfl Z
theorem qyf{H:Type}(u:H)(Y Z B:List H):(Y++u::(Z++B)).Perm (u::(Z++(Y++B))):=
 Bb.trans (.cons _ (by rw[<-Az,<-Az];exact Ap.append_right _))
theorem V.AppV.box{e te H:Nat}{v:DF}{n ub lb:Nat}{t:DD}{i:TypeInfo}{Z:DJ}(V:Carr J)(h:J ((ub,.cells news.toArray te)::(Z++(Y++[(lb,.cells #[x] tb)]))) w)(hR:RowX e H v n xs Y)(ht:P.underlying t=some (.slice e))(hi:P.info? e=some i)(hz:i.zero=some z)(U:i.size=H)(aa:z.cells.size=H)(ad:0<H)(hl:news.length=1*H)(h1:∀u∈news,u.oneCell'=true)(hb:(n+1)*i.bytes<=140737488355328)(hk:∀A' c' W w',RowX e H (.slice A' (n+1) c') (n+1) (xs++news) W->J (Z++(W++[(lb,.cells #[x] tb)])) w'->K (.slice A' (n+1) c') w')(ae:n+1<=140737488355328:=by omega):AppV P #[t,t] ty v (.slice (some ⟨ub,0,none⟩) 1 c) w K:=
 AppV.carr V (V.perm h (qyf _ Y Z _).symm) hR ht hi hz U aa ad hl (λ_=>⟨ub,0,rfl,λj u hu=>by rw[qa (V.get h mh),As,An];exact hu⟩) h1 hb ae λA' c' W w' af h'=>hk A' c' W w' af (V.drop (V.perm h' (qyf _ W Z _)))
theorem V.StoreV.box(H:Carr J){Z:DJ}{v:DF}{t:DD}{K:DI}(h:J (Z++(Y++[(b,.cells #[x] t)])) w)(U:∀w',J (Z++(Y++[(b,.cells #[v] t)])) w'->K w')(V:qc8 v=true:=by rfl):StoreV w b 0 v K:=by
 rw[<-Az]at h;refine StoreV.carr H h (by show 0<1;omega) V λw' W=>U w' ?_;rw[<-Az];exact W
theorem qoa{n:Nat}{f:Operand}{Z:Array Tmp}{Φ:DI}{ls:DK}{xs:List DK}(e sz:Nat){ty:Nat}{el:DD}{N:DJ}{rows:List DK}(V:SeqC P gf ls xs Φ)(ad:∀x∈xs,x.length=Z.size)(ae:∀N X w',Mem w0 w' (X++(N++L))->Φ w')(hx:xs.length=rows.length)(h0:Mem w0 w ([]++([]++[(b,.cells #[.slice none 0 0] ty)])++(N++L)))(W:∀D w',TkF (λX w'=>Mem w0 w' (X++(N++L))) b ty el sz (rows.take m) [(D,.deferred (some []))] w'->Q .normal ρ ({ target:=.collected D,args:=#[] }::ds) w')(H:∀l D ob U k x X w1,xs[k]?=some x->TkJ (λX w'=>Mem w0 w' (X++(N++L))) b ty el sz rows m k ((l,ob)::(D,.deferred (some []))::X) w1->
   qfd P n (some l) assign (q9c λaf ag ah=>BeginA (TkJ (λX w'=>Mem w0 w' (X++(N++L))) b ty el sz rows m k) l ob U ah ag
    (λw2=>qfd P n (some l) body (qyr (TkJ (λX w'=>Mem w0 w' (X++(N++L))) b ty el sz rows m (k+1) ((l,U)::(D,.deferred (some []))::X)) (λc=>λw=>c=.exit e/\k=m/\TkJ (λX w'=>Mem w0 w' (X++(N++L))) b ty el sz rows m k ((l,U)::(D,.deferred (some []))::X) w)) af [] w2)) (qtj Z.toList x ρ) [] w1)(hf:ev ρ f=.func (.func gf) #[] ls.toArray:=by rfl)(he:qdk P gf=true:=by kernel_rfl)(ai:Z.toList.all (Nat.blt · n)=true:=by decide)(hQ:∀ds w,Q .normal ρ ds w->Q (.exit e) ρ ds w:=by exact λ_ _ h=>h):RangeW P n none f Z assign body Q ρ ds w:=
 qag0 (Jx:=λk X w'=>k=m/\TkJ (λX w'=>Mem w0 w' (X++(N++L))) b ty el sz rows m k X w') hf he V ai ad e (TkJ _ b ty el sz rows m) (TkF (λX w'=>Mem w0 w' (X++(N++L))) b ty el sz (rows.take m)) (λk=>TkJ.carr ((qem w0).tail _) _ _ _ _ _ _ k) (λk=>Carr.and (TkJ.carr ((qem w0).tail _) _ _ _ _ _ _ k)) (λ_ _ _ ⟨_,_,hh⟩=>ae _ _ _ hh)
  ⟨(.slice none 0 0,[]),⟨RowX.nil _ _,Af _⟩,h0⟩ (λ_ _ h=>TkJ.all hx h) (λ_ _ _ hk h=>TkJ.cut hx hk h) hQ W H
theorem quy(T:List TM)(qs:List Q4)(h:EncOk T qs)(x pb vb tb:Nat)(p:Q4)(hp:qcl p)(m:Nat)(bb:m<=9223372036854775807)(w:DA)(hX:IdxE w x pb vb tb (encP T qs))(hG:GlobS w):
  Gv DM 22 [pp x,q4 p,ii m] w λr w'=>(∃v,r=.tuple #[v,.bool true]/\SnR (snL qs ((qbe p qs).take m)) v w')/\Ext w w':=by
 have ba:=h.set.len;have ar:((DM.info? 77).get Jk).bytes=232:=s20B;have bd:((DM.info? 45).get Jk).bytes=56:=by kernel_rfl
 obtain⟨M,eM⟩:∃M,M=qbe p qs:=⟨_,rfl⟩
 have be:M.length<=qs.length:=by rw[eM];exact qjs p qs
 rw[<-eM];obtain⟨rows,V⟩:∃rows:List DK,rows=(snL qs M).map snQ:=⟨_,rfl⟩
 have au:rows.length=M.length:=by rw[V,A6,qdw]
 have af:(M.map (sRow qs)).length=rows.length:=by rw[A6,au]
 refine gvW Jk Tryz.func22 rfl Tryz.ntmps22 rfl (zw ?_);refine znm (Mem.nil w) λb4 w1 U=>zw ?_;refine znm U λbm w2 U=>zw ?_;refine znm U λb8 w3 U=>zw ?_;refine znm U λb9 w4 U=>zw ?_;refine LoadA.mem (cs:=(qm p).toArray) U (i:=3) rfl rfl (zw ?_);refine zcv (qje x p w4) ?_;rintro r w5 ⟨c1,c2,rfl,ag⟩;replace U:=U.glue ag;obtain⟨L,hL⟩:∃L:DJ,L=[(bm,.cells #[ii m] 3),(b4,.cells (qm p).toArray 47),(c2,.cells (qm p).toArray 47),(c1,.cells #[pp x] 26)]:=⟨_,rfl⟩
 have ah:(c1,Obj.cells #[pp x] 26)∈L:=by rw[hL];simp
 have ai:(c2,Obj.cells (qm p).toArray 47)∈L:=by rw[hL];simp
 have aj:(bm,Obj.cells #[ii m] 3)∈L:=by rw[hL];simp
 have av:∀(N:DJ) (X:DJ) (w':DA),Mem w w' (X++(N++L))->w'.heap[bm]?=some (.cells #[ii m] 3):=λN X w' hh=>hh.get (Ac _ (Ac _ aj))
 have ak:∀(N:DJ) (X:DJ) (w':DA),Mem w w' (X++(N++L))->SmaΦ x pb vb tb T qs p c1 c2 w':=λN X w' hh=>⟨hX.ext hh.ext,hG.ext hh.ext,by rw[qa (hh.get (Ac _ (Ac _ ah)))];rfl,λj v hv=>by rw[qa (hh.get (Ac _ (Ac _ ai))),As,An];exact hv⟩
 have aa:=qjf T qs h x pb vb tb p hp (h.idX p) c1 c2;rw[<-eM]at aa;have al:∀r∈(M.map (sRow qs)),r.length=2:=λr hr=>by
  obtain⟨j,_,rfl⟩:=AA.1 hr;rfl
 replace U:Mem w w5 ([]++([]++[(b8,.cells #[.slice none 0 0] 71)])++([(b9,.cells #[.slice none 0 0] 71)]++L)):=by
  rw[hL];exact(qem w).perm U ((Ap (l₁:=[(c2,Obj.cells (qm p).toArray 47),(c1,Obj.cells #[pp x] 26),(b9,Obj.cells #[.slice none 0 0] 71)]) (l₂:=[_,_,_])).trans (List.Perm.cons _ (Ap (l₁:=[_,_,_,_]) (l₂:=[_]))))
 clear ag;(conv=>whnf);refine qoa (b:=b8) (el:=77) (m:=m) (N:=[(b9,.cells #[.slice none 0 0] 71)]) 0 17 aa al ak af U ?r1 ?b1
 case' b1=>
  obtain⟨lb,rfl⟩:∃lb,lb=b8:=⟨_,rfl⟩
  generalize[(b9,Obj.cells #[.slice none 0 0] 71)]=N
 case' r1=>
  rintro D1 w6 ⟨⟨v1,Y1⟩,ad,H⟩;dsimp only at ad H;obtain⟨N,eN⟩:∃N:DJ,N=(D1,.deferred (some []))::(Y1++[(b8,.cells #[v1] 71)]):=⟨_,rfl⟩
  replace U:Mem w w6 ([]++([]++[(b9,.cells #[.slice none 0 0] 71)])++(N++L)):=(qem w).perm (show Mem w w6 (N++(b9,.cells #[.slice none 0 0] 71)::L)by rw[eN];exact H) Bb;clear H;(conv=>whnf);refine qoa (b:=b9) (el:=77) (m:=m) (N:=N) 2 17 aa al ak af U ?r2 ?b2
 case' b2=>obtain⟨lb,rfl⟩:∃lb,lb=b9:=⟨_,rfl⟩
 case' b1|b2=>
  clear U;rintro l2 D oa od k r X w6 hr H;rw[Ao]at hr;cases W:M[k]? with
  | none=>rw[W]at hr;cases hr
  | some i=>
  rw[W,Be,AI]at hr;subst hr;have bf:=(Ae.1 W).1;have cJ:Carr (λX w'=>Mem w w' (X++(N++L))):=(qem w).tail _;have cS:=TkJ.carr cJ lb 71 77 17 rows m k;obtain⟨q,eq⟩:∃q,qs.getD i zQ=q:=⟨_,rfl⟩
  have aw:rows[k]?=some (snQ ((i:Int),q)):=by rw[V,Ao,qqn W,Be,eq]
  rw[show sRow qs i=[ii i,q4 q]by rw[sRow,eq]];(conv=>whnf);refine NewV.carr cS H λnb w7 H=>zw ?_;refine StoreA.carr (vs:=qm q) cS (A:=[]) H rfl (qcj q) λw8 H=>zw ?_;refine⟨rfl,(nb,.cells (qm q).toArray 47)::(D,.deferred (some []))::X,cS.perm H (List.Perm.swap _ _ _),?_⟩;clear H;rintro w9 ⟨⟨v,Y⟩,⟨hR,ax⟩,H⟩;dsimp only at hR H;obtain⟨Av,cv,ev⟩:=hR.slice;subst ev;have hg:=H.get (b:=lb) (o:=.cells #[.slice Av k cv] 71) Js;(conv=>whnf);refine LoadV.own hg rfl (zw ?_);refine LoadV.own (av _ _ _ H) rfl (zw ?_)
  (repeat' refine zC (λ_=>zw ?_) (λ_=>zw ?_))
  case' refine_1=>exact⟨rfl,by omega,(.slice Av k cv,Y),⟨hR,ax⟩,cJ.dropM (A:=[(l2,od)]) H⟩
  refine LoadV.own hg rfl (zw ?_);refine LoadA.own (H.get (b:=nb) (o:=.cells (qm q).toArray 47) Js) rfl (zw ?_);refine NewV.carr cJ H λub bg H=>zw ?_;refine AppV.box (news:=snQ ((i:Int),q)) cJ H hR q9v s20I s20Z Jk Jk Od rfl (qqo _) (by rw[ar];omega) ?_;clear H;intro A5 c5 Y5 bh ay H;(conv=>whnf);refine StoreV.box cJ H λbi H=>zw ?_;exact⟨(.slice A5 (k+1) c5,Y5),⟨by rw[qqv aw];exact ay,by omega⟩,cJ.dropM (A:=[(l2,od)]) H⟩
 rintro D2 w7 ⟨⟨v2,Y2⟩,ae,H⟩;dsimp only at ae H;clear U;obtain⟨E,eE⟩:∃E,E=snL qs (M.take m):=⟨_,rfl⟩
 have ao:rows.take m=E.map snQ:=by rw[V,eE,<-CB,snL,snL,<-CB]
 rw[ao]at ad ae;have bj:E.length<=1048576:=by
  have:=Ad List.length ao;rw[Ar,A6]at this;omega
 have az:∀y∈Y1,w7.heap[y.1]?=some y.2:=λy hy=>H.get (Ac _ (Ah _ (by rw[eN];exact zmc (Ah _ hy))))
 have a0:∀y∈Y2,w7.heap[y.1]?=some y.2:=λy hy=>H.get (Ah _ (Ac _ (Ah _ hy)))
 obtain⟨A1,d1,rfl,a1,a2⟩:=qh4 qfz ad az;obtain⟨A2,d2,rfl,bk,a3⟩:=qh4 qfz ae a0;have aq:w7.heap[b8]?=some (.cells #[.slice A1 E.length d1] 71):=H.get (Ac _ (Ah _ (by rw[eN];simp)));have a4:w7.heap[b9]?=some (.cells #[.slice A2 E.length d2] 71):=H.get (Ah _ Js);have Z:∀wd,Ext w7.drew wd->Ext w7 wd:=λwd hd=>(Ext.refl w7).drew.trans hd
 (conv=>whnf);refine DrawW.any Jk (.inl rfl) (AnyV.free Jk ?_);(conv=>whnf);refine zsd (.slice A1 E.length d1) (λwd hd=>zw ?_) (zw ?_)
 ·refine LoadV.own ((Z wd hd).get aq) rfl (zw ?_);exact xq
 refine zsd (.slice A1 E.length d1) (λwd hd=>zw ?_) (zw ?_)
 ·refine LoadV.own ((Z wd hd).get aq) rfl (zw ?_);exact xq
 refine zsd (.slice A2 E.length d2) (λwd hd=>zw ?_) (zw ?_)
 ·refine LoadV.own ((Z wd hd).get a4) rfl (zw ?_);exact xq
 refine zsd (.bool true) (λwd hd=>zw ?_) (zw ?_)
 ·refine zcv (qcw E A1 A2 d1 d2 wd (a2.ext (Z wd hd)) (a3.ext (Z wd hd)) Oo) ?_;rintro r wx ⟨rfl,hex⟩;exact⟨hex,rfl⟩
 refine zd ?_;refine zd ?_;intro w8 a5;replace H:=H.call (Z w8 a5);rw[eN]at H;(conv=>whnf);obtain⟨R,eR⟩:∃R:DJ,R=(Y2++[(b9,.cells #[.slice A2 E.length d2] 71)])++((Y1++[(b8,.cells #[.slice A1 E.length d1] 71)])++L):=⟨_,rfl⟩
 have a6:∀y∈Y1,y∈R:=λy hy=>by rw[eR];exact Ac _ (Ah _ (Ah _ hy))
 replace H:Mem w w8 ((D2,.deferred (some []))::((Y2++[(b9,.cells #[.slice A2 E.length d2] 71)])++(D1,.deferred (some []))::((Y1++[(b8,.cells #[.slice A1 E.length d1] 71)])++L))):=H;replace H:Mem w w8 ((D2,.deferred (some []))::(D1,.deferred (some []))::R):=by rw[eR];exact(qem w).perm H (List.Perm.cons _ Bb)
 refine LeaveV.marks (J:=λX w'=>Mem w w' (X++R)) ((qem w).tail R) ?_ (D:=D2) (Ds:=[D1]) H;intro w' h';(conv=>whnf);obtain⟨A3,d3,e3,bl,a7⟩:=qh4 qfz ad (w:=w') (λy hy=>h'.get (Ac [] (a6 y hy)))
 injection e3 with a8 _ a9
 subst a8 a9;exact⟨⟨_,rfl,A1,d1,by rw[eE],by rw[<-eE];exact a1,by rw[<-eE];exact a7⟩,h'.ext⟩
theorem q11(T:List TM)(qs:List Q4)(h:EncOk T qs)(x pb vb tb:Nat)(p:Q4)(hp:qcl p)(pl:Int)(pre:DB)(m:Nat)(be:m<=9223372036854775807)(w:DA)(hX:IdxE w x pb vb tb (encP T qs))(hG:GlobS w):
  Gv DM 24 [pp x,q4 p,ii pl,.string pre,ii m] w λr w'=>(∃v,r=.tuple #[v,.bool true]/\SnR (snL qs ((begL pl pre p qs).take m)) v w')/\Ext w w':=by
 have bd:=h.set.len;have av:((DM.info? 77).get Jk).bytes=232:=s20B;have bf:((DM.info? 45).get Jk).bytes=56:=by kernel_rfl
 obtain⟨M,eM⟩:∃M,M=begL pl pre p qs:=⟨_,rfl⟩
 have bg:M.length<=qs.length:=by rw[eM];exact q1y pl pre p qs
 rw[<-eM];obtain⟨rows,V⟩:∃rows:List DK,rows=(snL qs M).map snQ:=⟨_,rfl⟩
 have aw:rows.length=M.length:=by rw[V,A6,qdw]
 have af:(M.map (sRow qs)).length=rows.length:=by rw[A6,aw]
 refine gvW Jk Tryz.func24 rfl Tryz.ntmps24 rfl (zw ?_);refine znm (Mem.nil w) λb4 w1 U=>zw ?_;refine znm U λbm w2 U=>zw ?_;refine znm U λb8 w3 U=>zw ?_;refine znm U λb9 w4 U=>zw ?_;refine LoadA.mem (cs:=(qm p).toArray) U (i:=3) rfl rfl (zw ?_);refine zcv (qvs x p pl pre w4) ?_;rintro r w5 ⟨c1,c2,c3,c4,rfl,ag⟩;replace U:=U.glue ag;obtain⟨L,hL⟩:∃L:DJ,L=[(bm,.cells #[ii m] 3),(b4,.cells (qm p).toArray 47),(c4,.cells #[.string pre] 9),(c3,.cells #[ii pl] 3),(c2,.cells (qm p).toArray 47),(c1,.cells #[pp x] 26)]:=⟨_,rfl⟩
 have ah:(c1,Obj.cells #[pp x] 26)∈L:=by rw[hL];simp
 have ai:(c2,Obj.cells (qm p).toArray 47)∈L:=by rw[hL];simp
 have aj:(c3,Obj.cells #[ii pl] 3)∈L:=by rw[hL];simp
 have ak:(c4,Obj.cells #[.string pre] 9)∈L:=by rw[hL];simp
 have al:(bm,Obj.cells #[ii m] 3)∈L:=by rw[hL];simp
 have ax:∀(N:DJ) (X:DJ) (w':DA),Mem w w' (X++(N++L))->w'.heap[bm]?=some (.cells #[ii m] 3):=λN X w' hh=>hh.get (Ac _ (Ac _ al))
 have am:∀(N:DJ) (X:DJ) (w':DA),Mem w w' (X++(N++L))->SbeΦ x pb vb tb T qs p pl pre c1 c2 c3 c4 w':=λN X w' hh=>⟨hX.ext hh.ext,hG.ext hh.ext,by rw[qa (hh.get (Ac _ (Ac _ ah)))];rfl,λj v hv=>by rw[qa (hh.get (Ac _ (Ac _ ai))),As,An];exact hv,by rw[qa (hh.get (Ac _ (Ac _ aj)))];rfl,by rw[qa (hh.get (Ac _ (Ac _ ak)))];rfl⟩
 have aa:=qvt T qs h x pb vb tb p hp pl pre c1 c2 c3 c4;rw[<-eM]at aa;have an:∀r∈(M.map (sRow qs)),r.length=2:=λr hr=>by
  obtain⟨j,_,rfl⟩:=AA.1 hr;rfl
 replace U:Mem w w5 ([]++([]++[(b8,.cells #[.slice none 0 0] 71)])++([(b9,.cells #[.slice none 0 0] 71)]++L)):=by
  rw[hL];exact(qem w).perm U ((Ap (l₁:=[(c4,Obj.cells #[.string pre] 9),(c3,Obj.cells #[ii pl] 3),(c2,Obj.cells (qm p).toArray 47),(c1,Obj.cells #[pp x] 26),(b9,Obj.cells #[.slice none 0 0] 71)]) (l₂:=[_,_,_])).trans (List.Perm.cons _ (Ap (l₁:=[_,_,_,_,_,_]) (l₂:=[_]))))
 clear ag;(conv=>whnf);refine qoa (b:=b8) (el:=77) (m:=m) (N:=[(b9,.cells #[.slice none 0 0] 71)]) 0 17 aa an am af U ?r1 ?b1
 case' b1=>
  obtain⟨lb,rfl⟩:∃lb,lb=b8:=⟨_,rfl⟩
  generalize[(b9,Obj.cells #[.slice none 0 0] 71)]=N
 case' r1=>
  rintro D1 w6 ⟨⟨v1,Y1⟩,ad,H⟩;dsimp only at ad H;obtain⟨N,eN⟩:∃N:DJ,N=(D1,.deferred (some []))::(Y1++[(b8,.cells #[v1] 71)]):=⟨_,rfl⟩
  replace U:Mem w w6 ([]++([]++[(b9,.cells #[.slice none 0 0] 71)])++(N++L)):=(qem w).perm (show Mem w w6 (N++(b9,.cells #[.slice none 0 0] 71)::L)by rw[eN];exact H) Bb;clear H;(conv=>whnf);refine qoa (b:=b9) (el:=77) (m:=m) (N:=N) 2 17 aa an am af U ?r2 ?b2
 case' b2=>obtain⟨lb,rfl⟩:∃lb,lb=b9:=⟨_,rfl⟩
 case' b1|b2=>
  clear U;rintro l2 D oa od k r X w6 hr H;rw[Ao]at hr;cases W:M[k]? with
  | none=>rw[W]at hr;cases hr
  | some i=>
  rw[W,Be,AI]at hr;subst hr;have bh:=(Ae.1 W).1;have cJ:Carr (λX w'=>Mem w w' (X++(N++L))):=(qem w).tail _;have cS:=TkJ.carr cJ lb 71 77 17 rows m k;obtain⟨q,eq⟩:∃q,qs.getD i zQ=q:=⟨_,rfl⟩
  have ay:rows[k]?=some (snQ ((i:Int),q)):=by rw[V,Ao,qqn W,Be,eq]
  rw[show sRow qs i=[ii i,q4 q]by rw[sRow,eq]];(conv=>whnf);refine NewV.carr cS H λnb w7 H=>zw ?_;refine StoreA.carr (vs:=qm q) cS (A:=[]) H rfl (qcj q) λw8 H=>zw ?_;refine⟨rfl,(nb,.cells (qm q).toArray 47)::(D,.deferred (some []))::X,cS.perm H (List.Perm.swap _ _ _),?_⟩;clear H;rintro w9 ⟨⟨v,Y⟩,⟨hR,az⟩,H⟩;dsimp only at hR H;obtain⟨Av,cv,ev⟩:=hR.slice;subst ev;have hg:=H.get (b:=lb) (o:=.cells #[.slice Av k cv] 71) Js;(conv=>whnf);refine LoadV.own hg rfl (zw ?_);refine LoadV.own (ax _ _ _ H) rfl (zw ?_)
  (repeat' refine zC (λ_=>zw ?_) (λ_=>zw ?_))
  case' refine_1=>exact⟨rfl,by omega,(.slice Av k cv,Y),⟨hR,az⟩,cJ.dropM (A:=[(l2,od)]) H⟩
  refine LoadV.own hg rfl (zw ?_);refine LoadA.own (H.get (b:=nb) (o:=.cells (qm q).toArray 47) Js) rfl (zw ?_);refine NewV.carr cJ H λub bi H=>zw ?_;refine AppV.box (news:=snQ ((i:Int),q)) cJ H hR q9v s20I s20Z Jk Jk Od rfl (qqo _) (by rw[av];omega) ?_;clear H;intro A5 c5 Y5 bj a0 H;(conv=>whnf);refine StoreV.box cJ H λbk H=>zw ?_;exact⟨(.slice A5 (k+1) c5,Y5),⟨by rw[qqv ay];exact a0,by omega⟩,cJ.dropM (A:=[(l2,od)]) H⟩
 rintro D2 w7 ⟨⟨v2,Y2⟩,ae,H⟩;dsimp only at ae H;clear U;obtain⟨E,eE⟩:∃E,E=snL qs (M.take m):=⟨_,rfl⟩
 have ar:rows.take m=E.map snQ:=by rw[V,eE,<-CB,snL,snL,<-CB]
 rw[ar]at ad ae;have bl:E.length<=1048576:=by
  have:=Ad List.length ar;rw[Ar,A6]at this;omega
 have a1:∀y∈Y1,w7.heap[y.1]?=some y.2:=λy hy=>H.get (Ac _ (Ah _ (by rw[eN];exact zmc (Ah _ hy))))
 have a2:∀y∈Y2,w7.heap[y.1]?=some y.2:=λy hy=>H.get (Ah _ (Ac _ (Ah _ hy)))
 obtain⟨A1,d1,rfl,a3,a4⟩:=qh4 qfz ad a1;obtain⟨A2,d2,rfl,bn,a5⟩:=qh4 qfz ae a2;have au:w7.heap[b8]?=some (.cells #[.slice A1 E.length d1] 71):=H.get (Ac _ (Ah _ (by rw[eN];simp)));have a6:w7.heap[b9]?=some (.cells #[.slice A2 E.length d2] 71):=H.get (Ah _ Js);have Z:∀wd,Ext w7.drew wd->Ext w7 wd:=λwd hd=>(Ext.refl w7).drew.trans hd
 (conv=>whnf);refine DrawW.any Jk (.inl rfl) (AnyV.free Jk ?_);(conv=>whnf);refine zsd (.slice A1 E.length d1) (λwd hd=>zw ?_) (zw ?_)
 ·refine LoadV.own ((Z wd hd).get au) rfl (zw ?_);exact xq
 refine zsd (.slice A1 E.length d1) (λwd hd=>zw ?_) (zw ?_)
 ·refine LoadV.own ((Z wd hd).get au) rfl (zw ?_);exact xq
 refine zsd (.slice A2 E.length d2) (λwd hd=>zw ?_) (zw ?_)
 ·refine LoadV.own ((Z wd hd).get a6) rfl (zw ?_);exact xq
 refine zsd (.bool true) (λwd hd=>zw ?_) (zw ?_)
 ·refine zcv (qcw E A1 A2 d1 d2 wd (a4.ext (Z wd hd)) (a5.ext (Z wd hd)) Oo) ?_;rintro r wx ⟨rfl,hex⟩;exact⟨hex,rfl⟩
 refine zd ?_;refine zd ?_;intro w8 a7;replace H:=H.call (Z w8 a7);rw[eN]at H;(conv=>whnf);obtain⟨R,eR⟩:∃R:DJ,R=(Y2++[(b9,.cells #[.slice A2 E.length d2] 71)])++((Y1++[(b8,.cells #[.slice A1 E.length d1] 71)])++L):=⟨_,rfl⟩
 have a8:∀y∈Y1,y∈R:=λy hy=>by rw[eR];exact Ac _ (Ah _ (Ah _ hy))
 replace H:Mem w w8 ((D2,.deferred (some []))::((Y2++[(b9,.cells #[.slice A2 E.length d2] 71)])++(D1,.deferred (some []))::((Y1++[(b8,.cells #[.slice A1 E.length d1] 71)])++L))):=H;replace H:Mem w w8 ((D2,.deferred (some []))::(D1,.deferred (some []))::R):=by rw[eR];exact(qem w).perm H (List.Perm.cons _ Bb)
 refine LeaveV.marks (J:=λX w'=>Mem w w' (X++R)) ((qem w).tail R) ?_ (D:=D2) (Ds:=[D1]) H;intro w' h';(conv=>whnf);obtain⟨A3,d3,e3,bo,a9⟩:=qh4 qfz ad (w:=w') (λy hy=>h'.get (Ac [] (a8 y hy)))
 injection e3 with ba _ bb
 subst ba bb;exact⟨⟨_,rfl,A1,d1,by rw[eE],by rw[<-eE];exact a3,by rw[<-eE];exact a9⟩,h'.ext⟩
theorem q6n(pl:Int)(p:Q4)(qs:List Q4):(tasL pl p qs).length<=qs.length:=by
 rw[tasL]
 split
 ·refine AE (qr4 ordT _) ?_;rw[tatL,A6];exact qjs p qs
 ·exact Af _
theorem q1k(T:List TM)(qs:List Q4)(h:EncOk T qs)(x pb vb tb:Nat)(p:Q4)(hp:qcl p)(pl:Int)(m:Nat)(bd:m<=9223372036854775807)(w:DA)(hX:IdxE w x pb vb tb (encP T qs))(hG:GlobS w):
  Gv DM 19 [pp x,q4 p,ii pl,ii m] w λr w'=>(∃v,r=.tuple #[v,.bool true]/\TmR ((tasL pl p qs).take m) v w')/\Ext w w':=by
 have bb:=h.set.len;have be:((DM.info? 77).get Jk).bytes=232:=s20B;have au:((DM.info? 45).get Jk).bytes=56:=by kernel_rfl
 obtain⟨M,eM⟩:∃M,M=tasL pl p qs:=⟨_,rfl⟩
 have bf:M.length<=qs.length:=by rw[eM];exact q6n pl p qs
 rw[<-eM];obtain⟨rows,V⟩:∃rows:List DK,rows=M.map encT:=⟨_,rfl⟩
 have av:rows.length=M.length:=by rw[V,A6]
 have af:(M.map λt=>[qy t]).length=rows.length:=by rw[A6,av]
 refine gvW Jk Tryz.func19 rfl Tryz.ntmps19 rfl (zw ?_);refine znm (Mem.nil w) λb4 w1 U=>zw ?_;refine znm U λbm w2 U=>zw ?_;refine znm U λb8 w3 U=>zw ?_;refine znm U λb9 w4 U=>zw ?_;refine LoadA.mem (cs:=(qm p).toArray) U (i:=3) rfl rfl (zw ?_);refine zcv (q1f x p pl w4) ?_;rintro r w5 ⟨c1,c2,c3,rfl,ag⟩;replace U:=U.glue ag;obtain⟨L,hL⟩:∃L:DJ,L=[(bm,.cells #[ii m] 3),(b4,.cells (qm p).toArray 47),(c3,.cells #[ii pl] 3),(c2,.cells (qm p).toArray 47),(c1,.cells #[pp x] 26)]:=⟨_,rfl⟩
 have ah:(c1,Obj.cells #[pp x] 26)∈L:=by rw[hL];simp
 have ai:(c2,Obj.cells (qm p).toArray 47)∈L:=by rw[hL];simp
 have aj:(c3,Obj.cells #[ii pl] 3)∈L:=by rw[hL];simp
 have ak:(bm,Obj.cells #[ii m] 3)∈L:=by rw[hL];simp
 have aw:∀(N:DJ) (X:DJ) (w':DA),Mem w w' (X++(N++L))->w'.heap[bm]?=some (.cells #[ii m] 3):=λN X w' hh=>hh.get (Ac _ (Ac _ ak))
 have al:∀(N:DJ) (X:DJ) (w':DA),Mem w w' (X++(N++L))->SteΦ x pb vb tb T qs p pl c1 c2 c3 w':=λN X w' hh=>⟨hX.ext hh.ext,hG.ext hh.ext,by rw[qa (hh.get (Ac _ (Ac _ ah)))];rfl,λj v hv=>by rw[qa (hh.get (Ac _ (Ac _ ai))),As,An];exact hv,by rw[qa (hh.get (Ac _ (Ac _ aj)))];rfl⟩
 have aa:=q1g T qs h x pb vb tb p hp pl c1 c2 c3;rw[<-eM]at aa;have am:∀r∈(M.map λt=>[qy t]),r.length=1:=λr hr=>by
  obtain⟨j,_,rfl⟩:=AA.1 hr;rfl
 replace U:Mem w w5 ([]++([]++[(b8,.cells #[.slice none 0 0] 28)])++([(b9,.cells #[.slice none 0 0] 28)]++L)):=by
  rw[hL];exact(qem w).perm U ((Ap (l₁:=[(c3,Obj.cells #[ii pl] 3),(c2,Obj.cells (qm p).toArray 47),(c1,Obj.cells #[pp x] 26),(b9,Obj.cells #[.slice none 0 0] 28)]) (l₂:=[_,_,_])).trans (List.Perm.cons _ (Ap (l₁:=[_,_,_,_,_]) (l₂:=[_]))))
 clear ag;(conv=>whnf);refine qoa (b:=b8) (el:=45) (m:=m) (N:=[(b9,.cells #[.slice none 0 0] 28)]) 0 4 aa am al af U ?r1 ?b1
 case' b1=>
  obtain⟨lb,rfl⟩:∃lb,lb=b8:=⟨_,rfl⟩
  generalize[(b9,Obj.cells #[.slice none 0 0] 28)]=N
 case' r1=>
  rintro D1 w6 ⟨⟨v1,Y1⟩,ad,H⟩;dsimp only at ad H;obtain⟨N,eN⟩:∃N:DJ,N=(D1,.deferred (some []))::(Y1++[(b8,.cells #[v1] 28)]):=⟨_,rfl⟩
  replace U:Mem w w6 ([]++([]++[(b9,.cells #[.slice none 0 0] 28)])++(N++L)):=(qem w).perm (show Mem w w6 (N++(b9,.cells #[.slice none 0 0] 28)::L)by rw[eN];exact H) Bb;clear H;(conv=>whnf);refine qoa (b:=b9) (el:=45) (m:=m) (N:=N) 2 4 aa am al af U ?r2 ?b2
 case' b2=>obtain⟨lb,rfl⟩:∃lb,lb=b9:=⟨_,rfl⟩
 case' b1|b2=>
  clear U;rintro l2 D oa od k r X w6 hr H;rw[Ao]at hr;cases W:M[k]? with
  | none=>rw[W]at hr;cases hr
  | some i=>
  rw[W,Be,AI]at hr;subst hr;have bg:=(Ae.1 W).1;have cJ:Carr (λX w'=>Mem w w' (X++(N++L))):=(qem w).tail _;have cS:=TkJ.carr cJ lb 28 45 4 rows m k;have ax:rows[k]?=some (encT i):=by rw[V,Ao,W];rfl
  (conv=>whnf);refine NewV.carr cS H λnb w7 H=>zw ?_;refine StoreA.carr (vs:=encT i) cS (A:=[]) H rfl (qaa i) λw8 H=>zw ?_;refine⟨rfl,(nb,.cells (encT i).toArray 45)::(D,.deferred (some []))::X,cS.perm H (List.Perm.swap _ _ _),?_⟩;clear H;rintro w9 ⟨⟨v,Y⟩,⟨hR,ay⟩,H⟩;dsimp only at hR H;obtain⟨Av,cv,ev⟩:=hR.slice;subst ev;have hg:=H.get (b:=lb) (o:=.cells #[.slice Av k cv] 28) Js;(conv=>whnf);refine LoadV.own hg rfl (zw ?_);refine LoadV.own (aw _ _ _ H) rfl (zw ?_)
  (repeat' refine zC (λ_=>zw ?_) (λ_=>zw ?_))
  case' refine_1=>exact⟨rfl,by omega,(.slice Av k cv,Y),⟨hR,ay⟩,cJ.dropM (A:=[(l2,od)]) H⟩
  refine LoadV.own hg rfl (zw ?_);refine LoadA.own (H.get (b:=nb) (o:=.cells (encT i).toArray 45) Js) rfl (zw ?_);refine NewV.carr cJ H λub bh H=>zw ?_;refine AppV.box (news:=encT i) cJ H hR qni trmI trmZ Jk Jk Od rfl (qaa i) (by rw[au];omega) ?_;clear H;intro A5 c5 Y5 bi az H;(conv=>whnf);refine StoreV.box cJ H λbj H=>zw ?_;exact⟨(.slice A5 (k+1) c5,Y5),⟨by rw[qqv ax];exact az,by omega⟩,cJ.dropM (A:=[(l2,od)]) H⟩
 rintro D2 w7 ⟨⟨v2,Y2⟩,ae,H⟩;dsimp only at ae H;clear U;obtain⟨E,eE⟩:∃E,E=M.take m:=⟨_,rfl⟩
 have aq:rows.take m=E.map encT:=by rw[V,eE,<-CB]
 rw[aq]at ad ae;have bk:E.length<=1048576:=by
  have:=Ad List.length aq;rw[Ar,A6]at this;omega
 have a0:∀y∈Y1,w7.heap[y.1]?=some y.2:=λy hy=>H.get (Ac _ (Ah _ (by rw[eN];exact zmc (Ah _ hy))))
 have a1:∀y∈Y2,w7.heap[y.1]?=some y.2:=λy hy=>H.get (Ah _ (Ac _ (Ah _ hy)))
 obtain⟨A1,d1,rfl,a2,a3⟩:=qh4 qaf ad a0;obtain⟨A2,d2,rfl,bl,a4⟩:=qh4 qaf ae a1;have ar:w7.heap[b8]?=some (.cells #[.slice A1 E.length d1] 28):=H.get (Ac _ (Ah _ (by rw[eN];simp)));have a5:w7.heap[b9]?=some (.cells #[.slice A2 E.length d2] 28):=H.get (Ah _ Js);have Z:∀wd,Ext w7.drew wd->Ext w7 wd:=λwd hd=>(Ext.refl w7).drew.trans hd
 (conv=>whnf);refine DrawW.any Jk (.inl rfl) (AnyV.free Jk ?_);(conv=>whnf);refine zsd (.slice A1 E.length d1) (λwd hd=>zw ?_) (zw ?_)
 ·refine LoadV.own ((Z wd hd).get ar) rfl (zw ?_);exact xq
 refine zsd (.slice A1 E.length d1) (λwd hd=>zw ?_) (zw ?_)
 ·refine LoadV.own ((Z wd hd).get ar) rfl (zw ?_);exact xq
 refine zsd (.slice A2 E.length d2) (λwd hd=>zw ?_) (zw ?_)
 ·refine LoadV.own ((Z wd hd).get a5) rfl (zw ?_);exact xq
 refine zsd (.bool true) (λwd hd=>zw ?_) (zw ?_)
 ·refine zcv (qfw E A1 A2 d1 d2 wd (a3.ext (Z wd hd)) (a4.ext (Z wd hd)) Oo) ?_;rintro r wx ⟨rfl,hex⟩;exact⟨hex,rfl⟩
 refine zd ?_;refine zd ?_;intro w8 a6;replace H:=H.call (Z w8 a6);rw[eN]at H;(conv=>whnf);obtain⟨R,eR⟩:∃R:DJ,R=(Y2++[(b9,.cells #[.slice A2 E.length d2] 28)])++((Y1++[(b8,.cells #[.slice A1 E.length d1] 28)])++L):=⟨_,rfl⟩
 have a7:∀y∈Y1,y∈R:=λy hy=>by rw[eR];exact Ac _ (Ah _ (Ah _ hy))
 replace H:Mem w w8 ((D2,.deferred (some []))::((Y2++[(b9,.cells #[.slice A2 E.length d2] 28)])++(D1,.deferred (some []))::((Y1++[(b8,.cells #[.slice A1 E.length d1] 28)])++L))):=H;replace H:Mem w w8 ((D2,.deferred (some []))::(D1,.deferred (some []))::R):=by rw[eR];exact(qem w).perm H (List.Perm.cons _ Bb)
 refine LeaveV.marks (J:=λX w'=>Mem w w' (X++R)) ((qem w).tail R) ?_ (D:=D2) (Ds:=[D1]) H;intro w' h';(conv=>whnf);obtain⟨A3,d3,e3,bn,a8⟩:=qh4 qaf ad (w:=w') (λy hy=>h'.get (Ac [] (a7 y hy)))
 injection e3 with a9 _ ba
 subst a9 ba;exact⟨⟨_,rfl,A1,d1,by rw[eE],by rw[<-eE];exact a2,by rw[<-eE];exact a8⟩,h'.ext⟩
def lstT(T:List TM)(t:TM):Nat->Nat
 | 0=>0
 | i+1=>if qal (T.getD i zTM) t=true then i+1 else lstT T t i
theorem q4r{T:List TM}(U:RiseT T)(V:∀t∈T,1<=t.kind){t:TM}(H:t∈T):∀{i:Nat},i<=T.length->lstT T t i=if noT T t<=i then noT T t else 0
 | 0,_=>by
  grind [lstT]
 | i+1,hi=>by
  obtain⟨j,W⟩:=AT.1 H;have hn:=qgl U W (by have:=V t H;omega);obtain⟨x,Z⟩:∃x,T[i]?=some x:=⟨_,zge Oo⟩
  have hg:T.getD i zTM=x:=by rw[Ag,Z];rfl
  rw[lstT,hg,q4r U V H (i:=i) Oo]
  by_cases e:x=t
  ·subst e;have:=qgl U Z (by have:=V x H;omega);rw[Ab (q7.2 rfl),Ab Oo];omega
  ·have aa:j≠i:=λe2=>e (by rw[e2,Z]at W;exact AR W)
   rw[Aa (λh=>e (q7.1 h))]
   by_cases g:noT T t<=i
   ·rw[Ab g,Ab Oo]
   ·rw[Aa g,Aa Oo]
theorem qx0{T:List TM}{t:TM}(H:t∉T):∀{i:Nat},i<=T.length->lstT T t i=0
 | 0,_=>rfl
 | i+1,hi=>by
  obtain⟨x,U⟩:∃x,T[i]?=some x:=⟨_,zge Oo⟩
  have V:T.getD i zTM=x:=by rw[Ag,U];rfl
  rw[lstT,V,Aa (λh=>H (by rw[<-q7.1 h];exact zmg U)),qx0 H Oo]
theorem q85(H:RiseT T)(U:∀t∈T,1<=t.kind){t:TM}(V:t∈T):lstT T t T.length=noT T t:=by
 grind [q4r,qabg]
theorem qxu(h:(qt l).2=0):qt l=(0,0):=by
 unfold qt at h|-
 repeat' split at h
 all_goals first|(cases h;done)|skip
 simp only[*,if_false]
theorem qgv{x:Int}{n:Nat}(h:x=(n:Int)):bnd (some (ii x)) d n:=by
 subst h;rfl
theorem qeu(a b e:Int)(w:DA)(U:-9223372036854775808<=a+b)(V:a+b<=9223372036854775807):
  Gv DM 50 [ii a,ii b,ii e] w λv w'=>v=fltV (a+b) e/\Ext w w':=by
 refine ze Tryz.func50 Tryz.ntmps50 ?_;refine znm (Mem.nil w) λr W H=>zu ?_;refine zS H 0 ?_;intro Z H;refine qd (R:=λv w'=>v=fltV (a+b) e/\Ext w w') ?_;refine zl H 0 ?_;exact⟨rfl,H.ext⟩
def infP(l:LB):DF:=if(packE l).2=0 then inf4 l else infZ
theorem qsj(H:SlAt encB 1 w A l)(U:l.length<=c)(h:(qt l).2=0):SlAt encB 1 w (if c=28 then A else A.map (·.add (28*1))) (qi l):=by
 have V:=qep h;have:=H.cut (lo:=28) (hi:=28+hN l 4) (m:=c) Oo Oo Oo rfl
 rwa[show 28+hN l 4-28=hN l 4 by omega]at this
theorem qyd(H:SlAt encB 1 w A l)(U:l.length<=c)(h:(qt l).2=0):SlAt encB 1 w (if c=32+hN l 4 then A else A.map (·.add ((32+hN l 4)*1))) (qk l):=by
 have V:=qep h;have:=H.cut (lo:=32+hN l 4) (hi:=32+hN l 4+hN l 5) (m:=c) Oo Oo Oo rfl
 rwa[show 32+hN l 4+hN l 5-(32+hN l 4)=hN l 5 by omega]at this
theorem qky(U:VTm l 3 0 ts)(h:id<=ts.length):qce l id=some (sT ts id):=by
 have V:ts.length=vTot l 3:=U.len;unfold qce sT
 by_cases H:id=0
 ·rw[Ab H,Ab H];rfl
 ·rw[Aa H,Aa H,Aa Oo];obtain⟨Z,h2,h3⟩:=qq0 H (show id<=vTot l 3 by omega);have h4:vTot l (qb2 l id+1)=vTot l (qb2 l id)+dN (sDict l (qb2 l id)):=rfl;obtain⟨s,t,hd,hs,hr,W⟩:=U.at_ (qb2 l id) (id-(vTot l (qb2 l id)+1)) (.inl ⟨Z,by omega⟩);rw[hd];dsimp only;rw[qee hr];have e:vTot l (qb2 l id)+(id-(vTot l (qb2 l id)+1))=id-1:=by omega
  rw[e]at W;rw[Ag,W];rfl
theorem qaff(h:(wE l).2=0):vTot l 3<=12582912:=by
 have W:(sE l).2=0:=by
  rw[wE]at h
  split at h
  ·rename_i g;exact absurd h g
  ·omega
 have U:(errF (sdF l) 3).2=0:=by rw[wE,Aa Oo]at h;exact h
 have H:∀k,k<3->dN (sDict l k)<=4194304:=λk V=>by
  have:=qas U k V;unfold sdF at this
  split at this
  ·rename_i g;exact(q8b g).1
  ·rename_i g;exact absurd this g
 have Z:=H 0 Oo;have h2:=H 1 Oo;have h3:=H 2 Oo;simp only[vTot];omega
theorem qaag(h:(tE l).2=0):vNum l 3<=1048576:=by
 obtain⟨H,_⟩:=qjz h;have:=H 3 Oo;unfold tcF at this
 split at this
 ·rename_i g;exact absurd this g
 ·rename_i g
  exact qc3 Oo
theorem qdq{base:Nat}{e:DD}{H n:Nat}{v:DF}(h:w.ownsRow base e H v n xs)(hw:∀c,base<=c->c<w.heap.size->w'.heap[c]?=w.heap[c]?):w'.ownsRow base e H v n xs:=by
 obtain⟨W,h2|⟨g,U,V,h3,Z,h5,h6⟩⟩:=h
 ·exact⟨W,.inl h2⟩
 ·exact⟨W,.inr ⟨g,U,V,h3,Z,(hw g Z (quk h5)).trans h5,h6⟩⟩
def Op19(l:LB)(base:Nat)(v:DF)(w:DA):Prop:=
 ((poE l).2≠0/\v=.tuple #[infZ,.slice none 0 0,.slice none 0 0,.agg #[ii (poE l).1,ii (poE l).2]])\/
 ((poE l).2=0/\∃ts,VTm (qi l) 3 0 ts/\(∀k,1<=k->k<=3->LvlV (qk l) k)/\
  (∀i,i<vNum (qk l) 3->(∀j,j<4->tNum (qk l) i j<=ts.length)/\qdd (sQ ts (tNum (qk l) i))=0)/\
  ∃A H B c,v=.tuple #[inf4 l,.slice A (vTot (qi l) 3) H,.slice B (vNum (qk l) 3) c,.agg #[ii 0,ii 0]]/\vNum (qk l) 3<=c/\
   SlAt qm 16 w B ((List.range (vNum (qk l) 3)).map λi=>sQ ts (tNum (qk l) i))/\w.ownsRow base 47 16 (.slice B (vNum (qk l) 3) c) (vNum (qk l) 3) (((List.range (vNum (qk l) 3)).map λi=>sQ ts (tNum (qk l) i)).map qm).flatten/\SlAt encT 4 w A ts)
theorem Op19.err{base:Nat}{e:Nat}{x y:Int}(h:poE l=(a,e))(H:e≠0)(U:x=a)(V:y=e):Op19 l base (.tuple #[infZ,.slice none 0 0,.slice none 0 0,.agg #[ii x,ii y]]) w:=by
 subst U V;refine .inl ?_;rw[h];exact⟨H,rfl⟩
theorem qxn(W:VTm (qi l) 3 0 ts):qagz l i↔(∀j,j<4->tNum (qk l) i j<=ts.length)/\qdd (sQ ts (tNum (qk l) i))=0:=by
 have aa:ts.length=vTot (qi l) 3:=W.len;have hq:(∀j,j<4->tNum (qk l) i j<=ts.length)->q4Of (qi l) (tNum (qk l) i)=sQ ts (tNum (qk l) i):=λh=>by
  have U:∀j,j<4->qce (qi l) (tNum (qk l) i j)=some (sT ts (tNum (qk l) i j)):=λj H=>qky W (h j H)
  simp only[q4Of,uT,U 0 Oo,U 1 Oo,U 2 Oo,U 3 Oo,BL];rfl
 constructor
 ·rintro⟨V,Z⟩;have h3:∀j,j<4->tNum (qk l) i j<=ts.length:=λj H=>Aw λh=>V j H (by
   unfold qce;rw[Aa Oo,Ab Oo])
  exact⟨h3,by rw[<-hq h3];exact Z⟩
 ·rintro⟨V,Z⟩;exact⟨λj H=>by rw[qky W (V j H)];simp,by rw[hq V];exact Z⟩
theorem q0d(l:LB)(A:oA)(c:Nat)(w:DA)(hS:SlAt encB 1 w A l)(hc:l.length<=c)(hl:l.length<=140737488351232):
  Gv DM 38 [.slice A l.length c] w λv w'=>Op19 l w.heap.size v w'/\Ext w w':=by
 refine ze Tryz.func38 Tryz.ntmps38 ?_;refine znm (Mem.nil w) λr2 w1 H=>zw ?_;refine znm H λr5 w2 H=>zw ?_;refine znm H λz6 w3 H=>zw ?_;refine zS H 0 λw4 H=>zw ?_;refine zcv (qnv l A _ c w4 (hS.ext H.ext) rfl hc Oo) ?_;rintro v w5 ⟨rfl,b2⟩;have H:=H.call b2
 by_cases h0:(qt l).2=0
 ·obtain⟨ci,cj⟩:=qep h0;have hH:qeq l=[ii (hN l 2),ii (hN l 3),ii (hN l 4),ii (hN l 5)]:=by rw[qeq,Ab h0]
  rw[hH,qxu h0];(conv=>whnf);refine znm H λi7 w6 H=>zw ?_;refine znm H λf8 w7 H=>zw ?_;refine zS H 1 λw8 H=>zw ?_;refine zS H 0 λw9 H=>zw ?_;have H:Mem w w9 ((f8,.cells #[ii (0:Int),ii (0:Int)] 55)::(i7,.cells #[ii (hN l 2:Nat),ii (hN l 3:Nat),ii (hN l 4:Nat),ii (hN l 5:Nat)] 53)::(z6,.cells #[ii 0,ii 0,ii 0,ii 0] 53)::(r5,.cells #[ii (0:Int),ii (0:Int)] 55)::(r2,.cells #[ii 0,ii 0,ii 0,ii 0] 53)::[]):=H;refine zr H 0 ?_;refine zv ?_;refine zr H 1 ?_;refine zv ?_;refine SliceV.to 28 (28+hN l 4) c rfl rfl rfl Oo Oo Oo (λh=>by cases h) ?_;rw[show tsz DM 5=1 from by kernel_rfl,show 28+hN l 4-28=(qi l).length by rw[qct h0];omega];obtain⟨VA,bo⟩:∃VA,VA=(if c=28 then A else A.map (·.add (28*1))):=⟨_,rfl⟩
  have ba:=qsj hS hc h0;rw[<-bo]at ba|-;clear bo;(conv=>whnf);refine zr H 1 ?_;refine zv ?_;refine zr H 1 ?_;refine zv ?_;refine SliceV.to (32+hN l 4) (32+hN l 4+hN l 5) c (qgv Oo) (qgv Oo) rfl Oo Oo Oo (λh=>by cases h) ?_;rw[show tsz DM 5=1 from by kernel_rfl,show 32+hN l 4+hN l 5-(32+hN l 4)=(qk l).length by rw[qds h0];omega];obtain⟨TA,bp⟩:∃TA,TA=(if c=32+hN l 4 then A else A.map (·.add ((32+hN l 4)*1))):=⟨_,rfl⟩
  have bb:=qyd hS hc h0;rw[<-bp]at bb|-;clear bp;have ck:=qct h0;have cl:=qds h0;(conv=>whnf);refine DrawV.free Jk Jk (zw ?_);refine zd ?_;apply StepD.of (λv w=>BS w v (fixL (crcL (qi l)).toNat 4)) (λ_ _ _ h he=>h.ext he)
  ·intro wd hd;(conv=>whnf);refine zcv (qmu (qi l) _ _ _ wd (ba.ext (H.drew.ext.trans hd)) rfl Oo) ?_;rintro v w9 ⟨h9,ag⟩;exact⟨ag,h9⟩
  (conv=>whnf);apply zsd
  ·intro wd hd;(conv=>whnf);rintro v ⟨A',c',rfl,h1,h2⟩;(conv=>whnf);refine BytesS.sl h2 rfl (zw ?_);exact xq
  (conv=>whnf);(iterate 4 (refine zd ?_));apply StepD.of (λv w=>∃A' n' c',v=.slice A' n' c'/\SlAt encB 1 w A' ((l.drop (28+hN l 4)).take (32+hN l 4-(28+hN l 4)))/\((l.drop (28+hN l 4)).take (32+hN l 4-(28+hN l 4))).length=n') (λ_ _ _ h he=>let⟨A',n',c',h1,h2,h3⟩:=h;⟨A',n',c',h1,h2.ext he,h3⟩)
  ·intro wd hd;(conv=>whnf);refine SliceV.bs (hS.ext (H.drew.ext.trans hd)) rfl (28+hN l 4) (32+hN l 4) c (qgv Oo) (qgv Oo) rfl Oo Oo Oo znr (λh=>by cases h) ?_;intro A' bd;(conv=>whnf);exact⟨xr,_,_,_,rfl,bd,by rw[Ar,zld];omega⟩
  (conv=>whnf);apply zsd
  ·intro wd hd;(conv=>whnf);rintro v ⟨A',n',c',rfl,h2,h3⟩;(conv=>whnf);refine BytesS.sl h2 h3 (zw ?_);exact xq
  (conv=>whnf);refine zd ?_;intro cm ag
  (repeat(intro _ _;(conv=>whnf)))
  (conv=>whnf);replace H:=H.drew.call ag;clear ag;rw[q53 (p:=qi l) (m:=(l.drop (28+hN l 4)).take 4) rfl (by rw[show 32+hN l 4-(28+hN l 4)=4 by omega]) (by rw[Ar,zld];omega)]
  by_cases ae:(crcL (qi l)).toNat=leN ((l.drop (28+hN l 4)).take 4)
  case neg=>
   rw[Ax ae];refine zv ?_;refine zl H 2 ?_;refine zv ?_;refine zS H 4 λxa H=>zw ?_;refine zS H 3 λxb H=>zw ?_;refine qd (R:=λv w'=>Op19 l w.heap.size v w'/\Ext w w') (zw ?_);refine zl H 4 ?_;refine zl H 3 ?_;exact⟨.err (qabo h0 ae) Od Oo rfl,H.ext⟩
  rw[At ae];refine zv ?_;refine DrawV.free Jk Jk (zw ?_);refine zd ?_;apply StepD.of (λv w=>BS w v (fixL (crcL (qk l)).toNat 4)) (λ_ _ _ h he=>h.ext he)
  ·intro wd hd;(conv=>whnf);refine zcv (qmu (qk l) _ _ _ wd (bb.ext (H.drew.ext.trans hd)) rfl Oo) ?_;rintro v w9 ⟨h9,ag⟩;exact⟨ag,h9⟩
  (conv=>whnf);apply zsd
  ·intro wd hd;(conv=>whnf);rintro v ⟨A',c',rfl,h1,h2⟩;(conv=>whnf);refine BytesS.sl h2 rfl (zw ?_);exact xq
  (conv=>whnf);(iterate 3 (refine zd ?_));refine zLd ?_;refine zd ?_;apply StepD.of (λv w=>∃A' n' c',v=.slice A' n' c'/\SlAt encB 1 w A' ((l.drop (32+hN l 4+hN l 5)).take (l.length-(32+hN l 4+hN l 5)))/\((l.drop (32+hN l 4+hN l 5)).take (l.length-(32+hN l 4+hN l 5))).length=n') (λ_ _ _ h he=>let⟨A',n',c',h1,h2,h3⟩:=h;⟨A',n',c',h1,h2.ext he,h3⟩)
  ·intro wd hd;(conv=>whnf);refine SliceV.bs (hS.ext (H.drew.ext.trans hd)) rfl (32+hN l 4+hN l 5) (l.length) c (qgv Oo) rfl rfl Oo Oo Oo znr (λh=>by cases h) ?_;intro A' bd;(conv=>whnf);exact⟨xr,_,_,_,rfl,bd,by rw[Ar,zld];omega⟩
  (conv=>whnf);apply zsd
  ·intro wd hd;(conv=>whnf);rintro v ⟨A',n',c',rfl,h2,h3⟩;(conv=>whnf);refine BytesS.sl h2 h3 (zw ?_);exact xq
  (conv=>whnf);refine zd ?_;intro a2 ag
  (repeat(intro _ _;(conv=>whnf)))
  (conv=>whnf);replace H:=H.drew.call ag;clear ag;rw[q53 (p:=qk l) (m:=(l.drop (32+hN l 4+hN l 5)).take 4) rfl (by rw[show l.length-(32+hN l 4+hN l 5)=4 by omega]) (by rw[Ar,zld];omega)]
  by_cases af:(crcL (qk l)).toNat=leN ((l.drop (32+hN l 4+hN l 5)).take 4)
  case neg=>
   rw[Ax af];refine zv ?_;refine DrawV.inv (λS w'=>∃a9:Int,a9=((32+hN l 4+hN l 5:Nat):Int)/\Mem w w' ((f8,.cells #[ii (0:Int),ii (0:Int)] 55)::(i7,.cells #[ii (hN l 2:Nat),ii (hN l 3:Nat),ii (hN l 4:Nat),ii (hN l 5:Nat)] 53)::(z6,.cells #[ii 0,ii 0,ii 0,ii 0] 53)::(r5,(bif S 9 then .cells #[ii a9,ii (30:Int)] 55 else .cells #[ii (0:Int),ii (0:Int)] 55))::(r2,.cells #[ii 0,ii 0,ii 0,ii 0] 53)::[])) rfl Jk ⟨_,rfl,H.drew⟩ ?_;clear H;(conv=>whnf);refine StepI.of (.agg #[ii 0,ii 0,ii 0,ii 0]) (λS wd hk hp hI=>zw ?_) (zw ?_)
   ·obtain⟨Z,V,U⟩:=hI;refine zl U 2 ?_;exact⟨rfl,Z,V,U⟩
   refine zi ?_;refine zi ?_;refine StepI.of (ii ((hN l 5:Nat))) (λS wd hk hp hI=>zw ?_) (zw ?_)
   ·obtain⟨Z,V,U⟩:=hI;refine zr U 1 ?_;exact⟨rfl,Z,V,U⟩
   refine zi ?_;refine zi ?_;refine StepI.of undef (λS wd hk hp hI=>zw ?_) (zw ?_)
   ·obtain⟨Z,V,U⟩:=hI;refine zS U 4 λwx ad=>zw ?_;exact⟨rfl,Z,V,ad⟩
   refine zi ?_;refine zi ?_;refine StepI.of undef (λS wd hk hp hI=>?_) (zw ?_)
   ·obtain⟨Z,V,U⟩:=hI
    try dsimp only at U
    rw[hk]at U;(conv=>whnf);refine zS U 3 λwx ad=>zw ?_;exact⟨rfl,_,(by first|rfl|omega),ad⟩
   rintro wy ⟨Z,V,H⟩;have H:Mem w wy ((f8,.cells #[ii (0:Int),ii (0:Int)] 55)::(i7,.cells #[ii (hN l 2:Nat),ii (hN l 3:Nat),ii (hN l 4:Nat),ii (hN l 5:Nat)] 53)::(z6,.cells #[ii 0,ii 0,ii 0,ii 0] 53)::(r5,.cells #[ii Z,ii (30:Int)] 55)::(r2,.cells #[ii 0,ii 0,ii 0,ii 0] 53)::[]):=H;(conv=>whnf);refine qd (R:=λv w'=>Op19 l w.heap.size v w'/\Ext w w') (zw ?_);refine zl H 4 ?_;refine zl H 3 ?_;exact⟨.err (qabp h0 ae af) Od V rfl,H.ext⟩
  rw[At af];refine zv ?_;have bq:=qwi (qi l) VA (c-28) a2 (ba.ext H.ext) Oo Oo;have br:=λw' (h':SlAt encB 1 w' TA (qk l))=>q6q (qk l) TA (c-(32+hN l 4)) w' h' Oo Oo
  refine zcv (bq) ?_;clear bq;rintro v cn ⟨⟨am,be,rfl⟩|⟨ai,ts,an,VB,vc,rfl,W⟩,a6⟩
  ·have H:=H.call a6;have aq:=qagw h0 ae af am;obtain⟨a,ea⟩:∃a:Nat,a=(vwE (qi l)).1:=⟨_,rfl⟩
   obtain⟨e,ee⟩:∃e:Nat,e=(vwE (qi l)).2:=⟨_,rfl⟩
   rw[<-ea,<-ee]at aq|-;rw[<-ea]at be;rw[<-ee]at am;have bt:(e:Int)≠0:=by omega
   unfold fltV;(conv=>whnf);refine zS H 0 λbf H=>zw ?_;refine zr H 0 ?_;refine zv ?_;refine DrawV.inv (λS w'=>∃a9:Int,a9=((28+a:Nat):Int)/\Mem w w' ((f8,.cells #[ii (a),ii (e)] 55)::(i7,.cells #[ii (hN l 2:Nat),ii (hN l 3:Nat),ii (hN l 4:Nat),ii (hN l 5:Nat)] 53)::(z6,.cells #[ii 0,ii 0,ii 0,ii 0] 53)::(r5,(bif S 9 then .cells #[ii a9,ii (e:Int)] 55 else .cells #[ii (0:Int),ii (0:Int)] 55))::(r2,.cells #[ii 0,ii 0,ii 0,ii 0] 53)::[])) rfl Jk ⟨_,rfl,H.drew⟩ ?_;clear H;(conv=>whnf);refine StepI.of (.agg #[ii 0,ii 0,ii 0,ii 0]) (λS wd hk hp hI=>zw ?_) (zw ?_)
   ·obtain⟨Z,V,U⟩:=hI;refine zl U 2 ?_;exact⟨rfl,Z,V,U⟩
   refine zi ?_;refine StepI.of (ii (a)) (λS wd hk hp hI=>zw ?_) (zw ?_)
   ·obtain⟨Z,V,U⟩:=hI;refine zr U 0 ?_;exact⟨rfl,Z,V,U⟩
   refine zi ?_;refine StepI.of (ii (e)) (λS wd hk hp hI=>zw ?_) (zw ?_)
   ·obtain⟨Z,V,U⟩:=hI;refine zr U 0 ?_;exact⟨rfl,Z,V,U⟩
   refine StepI.of (.agg #[ii (28+a),ii (e)]) (λS wd hk hp hI=>zw ?_) (zw ?_)
   ·obtain⟨Z,V,U⟩:=hI;refine zcv (qeu (28) (a) (e) wd Oo Oo) ?_;rintro v wx ⟨rfl,hx⟩;unfold fltV;exact⟨rfl,Z,V,U.call hx⟩
   refine StepI.of undef (λS wd hk hp hI=>zw ?_) (zw ?_)
   ·obtain⟨Z,V,U⟩:=hI;refine zS U 4 λwx ad=>zw ?_;exact⟨rfl,Z,V,ad⟩
   refine zi ?_;refine zi ?_;refine StepI.of undef (λS wd hk hp hI=>?_) (zw ?_)
   ·obtain⟨Z,V,U⟩:=hI
    try dsimp only at U
    rw[hk]at U;(conv=>whnf);refine zS U 3 λwx ad=>zw ?_;exact⟨rfl,_,(by first|rfl|omega),ad⟩
   rintro wy ⟨Z,V,H⟩;have H:Mem w wy ((f8,.cells #[ii (a),ii (e)] 55)::(i7,.cells #[ii (hN l 2:Nat),ii (hN l 3:Nat),ii (hN l 4:Nat),ii (hN l 5:Nat)] 53)::(z6,.cells #[ii 0,ii 0,ii 0,ii 0] 53)::(r5,.cells #[ii Z,ii (e:Int)] 55)::(r2,.cells #[ii 0,ii 0,ii 0,ii 0] 53)::[]):=H;(conv=>whnf);refine qd (R:=λv w'=>Op19 l w.heap.size v w'/\Ext w w') (zw ?_);refine zl H 4 ?_;refine zl H 3 ?_;exact⟨.err aq am V rfl,H.ext⟩
  have bg:=H;have H:=H.call a6;unfold fltV;(conv=>whnf);have cp:f8<a2.heap.size:=bg.lt mh;have cq:r2<a2.heap.size:=bg.lt (zmg (i:=4) rfl);have cr:r5<a2.heap.size:=bg.lt (zmg (i:=3) rfl);refine StoreA.row H (i:=0) rfl (Ai 2) (by simp[Value.oneCell']) ?_;clear H;intro bf aj bu H;have H:Mem w bf ((f8,.cells #[ii (0:Int),ii (0:Int)] 55)::(i7,.cells #[ii (hN l 2:Nat),ii (hN l 3:Nat),ii (hN l 4:Nat),ii (hN l 5:Nat)] 53)::(z6,.cells #[ii 0,ii 0,ii 0,ii 0] 53)::(r5,.cells #[ii (0:Int),ii (0:Int)] 55)::(r2,.cells #[ii 0,ii 0,ii 0,ii 0] 53)::[]):=H;have W:=qdq W (λc hc _=>aj c Oo);(conv=>whnf);refine zr H 0 ?_;refine zv ?_;refine zcv (br bf (bb.ext H.ext)) ?_;clear br;rintro v bh ⟨⟨am,be,rfl⟩|⟨ao,b3,TB,tc,rfl,ah⟩,a7⟩
  case' inr=>
   have hW:=qahn ai;have hT:=(qb6 ao).1
  case' inl=>
   have aq:=qagv h0 ae af ai am;obtain⟨a,ea⟩:∃a:Nat,a=(toE (qk l)).1:=⟨_,rfl⟩
   obtain⟨e,ee⟩:∃e:Nat,e=(toE (qk l)).2:=⟨_,rfl⟩
   rw[<-ea,<-ee]at aq|-;rw[<-ea]at be;rw[<-ee]at am;have bt:(e:Int)≠0:=by omega
  all_goals
   have H:=H.call a7;unfold fltV;(conv=>whnf);refine⟨λbi ct a8 ar=>?_⟩;have H:=H.new a8 ar;(conv=>whnf);refine StoreA.row H (i:=0) rfl (Ai 2) (by simp[Value.oneCell']) ?_;clear H;intro au av bv H;have bj:∀c,c<bh.heap.size->au.heap[c]?=bh.heap[c]?:=λc hc=>by
    rw[av c Oo,ar];exact((Ext.refl bh).alloc _).block c hc
   (conv=>whnf);refine zr H 0 ?_;refine zv ?_
  ·skip
   refine DrawV.inv (λS w'=>∃a9:Int,a9=((32+hN l 4+a:Nat):Int)/\Mem w w' ((bi,.cells #[ii (a),ii (e)] 120)::(f8,.cells #[ii (0:Int),ii (0:Int)] 55)::(i7,.cells #[ii (hN l 2:Nat),ii (hN l 3:Nat),ii (hN l 4:Nat),ii (hN l 5:Nat)] 53)::(z6,.cells #[ii 0,ii 0,ii 0,ii 0] 53)::(r5,(bif S 10 then .cells #[ii a9,ii (e:Int)] 55 else .cells #[ii (0:Int),ii (0:Int)] 55))::(r2,.cells #[ii 0,ii 0,ii 0,ii 0] 53)::[])) rfl Jk ⟨_,rfl,H.drew⟩ ?_;clear H;(conv=>whnf);refine StepI.of (.agg #[ii 0,ii 0,ii 0,ii 0]) (λS wd hk hp hI=>zw ?_) (zw ?_)
   ·obtain⟨Z,V,U⟩:=hI;refine zl U 3 ?_;exact⟨rfl,Z,V,U⟩
   refine zi ?_;refine zi ?_;refine StepI.of (ii (a)) (λS wd hk hp hI=>zw ?_) (zw ?_)
   ·obtain⟨Z,V,U⟩:=hI;refine zr U 0 ?_;exact⟨rfl,Z,V,U⟩
   refine zi ?_;refine StepI.of (ii (e)) (λS wd hk hp hI=>zw ?_) (zw ?_)
   ·obtain⟨Z,V,U⟩:=hI;refine zr U 0 ?_;exact⟨rfl,Z,V,U⟩
   refine StepI.of (.agg #[ii (28+(hN l 4:Nat)+4+a),ii (e)]) (λS wd hk hp hI=>zw ?_) (zw ?_)
   ·obtain⟨Z,V,U⟩:=hI;refine zcv (qeu (28+(hN l 4:Nat)+4) (a) (e) wd Oo Oo) ?_;rintro v wx ⟨rfl,hx⟩;unfold fltV;exact⟨rfl,Z,V,U.call hx⟩
   refine StepI.of undef (λS wd hk hp hI=>zw ?_) (zw ?_)
   ·obtain⟨Z,V,U⟩:=hI;refine zS U 5 λwx ad=>zw ?_;exact⟨rfl,Z,V,ad⟩
   refine zi ?_;refine zi ?_;refine StepI.of undef (λS wd hk hp hI=>?_) (zw ?_)
   ·obtain⟨Z,V,U⟩:=hI
    try dsimp only at U
    rw[hk]at U;(conv=>whnf);refine zS U 4 λwx ad=>zw ?_;exact⟨rfl,_,(by first|rfl|omega),ad⟩
   rintro wy ⟨Z,V,H⟩;have H:Mem w wy ((bi,.cells #[ii (a),ii (e)] 120)::(f8,.cells #[ii (0:Int),ii (0:Int)] 55)::(i7,.cells #[ii (hN l 2:Nat),ii (hN l 3:Nat),ii (hN l 4:Nat),ii (hN l 5:Nat)] 53)::(z6,.cells #[ii 0,ii 0,ii 0,ii 0] 53)::(r5,.cells #[ii Z,ii (e:Int)] 55)::(r2,.cells #[ii 0,ii 0,ii 0,ii 0] 53)::[]):=H;(conv=>whnf);refine qd (R:=λv w'=>Op19 l w.heap.size v w'/\Ext w w') (zw ?_);refine zl H 5 ?_;refine zl H 4 ?_;exact⟨.err aq am V rfl,H.ext⟩
  have W:=qdq (qb5 W a7) (λc _ hc=>bj c hc);have ah:=qdq ah (λc _ hc=>bj c hc);clear bj av bv a8 ar aj bu;have aw:=H;have H:Mem w au ((bi,.cells #[ii (0:Int),ii (0:Int)] 120)::(f8,.cells #[ii (0:Int),ii (0:Int)] 55)::(i7,.cells #[ii (hN l 2:Nat),ii (hN l 3:Nat),ii (hN l 4:Nat),ii (hN l 5:Nat)] 53)::(z6,.cells #[ii 0,ii 0,ii 0,ii 0] 53)::(r5,.cells #[ii (0:Int),ii (0:Int)] 55)::(r2,.cells #[ii 0,ii 0,ii 0,ii 0] 53)::[]):=H;refine zr H 2 ?_;refine zC (λ_=>zw ?_) (λ_=>zw ?_)
  ·refine zl H 3 ?_;refine zS H 5 λxa H=>zw ?_;refine zS H 4 λxb H=>zw ?_;refine qd (R:=λv w'=>Op19 l w.heap.size v w'/\Ext w w') (zw ?_);refine zl H 5 ?_;refine zl H 4 ?_;exact⟨.err (qagu h0 ae af ai ao Oo) Od rfl rfl,H.ext⟩
  refine zr H 2 ?_;refine zC (λ_=>zw ?_) (λ_=>zw ?_)
  ·refine zl H 3 ?_;refine zS H 5 λxa H=>zw ?_;refine zS H 4 λxb H=>zw ?_;refine qd (R:=λv w'=>Op19 l w.heap.size v w'/\Ext w w') (zw ?_);refine zl H 5 ?_;refine zl H 4 ?_;exact⟨.err (qagt h0 ae af ai ao Oo Oo) Od rfl rfl,H.ext⟩
  obtain⟨is,ak⟩:∃is:List (Nat->Nat),is=(List.range (vNum (qk l) 3)).map λi=>tNum (qk l) i:=⟨_,rfl⟩
  have al:is.length=vNum (qk l) 3:=by rw[ak,A6,Da]
  have a3:ts.length=vTot (qi l) 3:=an.len;have bw:idsL (qk l) (vNum (qk l) 3)=(is.map idE).flatten:=by
   rw[ak,idsL,List.map_map];rfl
  rw[bw]at ah;obtain⟨b4,cu⟩:=qdr qaf W a3;obtain⟨b5,cv⟩:=qdr (enc:=idE) (λ_=>rfl) ah al;have cx:=qaff hW;have cy:=qaag hT;have bk:=q9y ts is VB TB vc tc au b4 b5 an.ok Oo Oo;rw[a3,al]at bk;(conv=>whnf);refine zcv (bk) ?_;clear bk;rintro v b6 ⟨⟨⟨q0,bz,b7⟩,rfl⟩|⟨hQ,QB,qc,rfl,aa⟩,ax⟩
  ·have b0:¬qsi l:=λh=>by
    rw[ak]at bz;obtain⟨i,hi,rfl⟩:=AA.1 bz;exact b7 ((qxn an).1 (h i (BB.1 hi)))
   have H:=H.call ax;refine zu ?_;refine zl H 3 ?_;refine zS H 5 λxa H=>zw ?_;refine zS H 4 λxb H=>zw ?_;refine qd (R:=λv w'=>Op19 l w.heap.size v w'/\Ext w w') (zw ?_);refine zl H 5 ?_;refine zl H 4 ?_;exact⟨.err (q5g h0 ae af ai ao Oo Oo b0) Od Oo rfl,H.ext⟩
  have H:=H.call ax;have bl:(is.map (sQ ts)).length=is.length:=A6 ..;obtain⟨a4,bm⟩:=qdr qsp aa bl;have a5:=qts (is.map (sQ ts)) QB qc b6 a4 Oo;rw[bl]at a5;rw[al]at a5|-;refine zu ?_;refine zcv (a5) ?_;clear a5;rintro v cz ⟨⟨EB,ec,rfl,_,_⟩,ay⟩;have H:=H.call ay;have az:qsi l:=λi hi=>(qxn an).2 (hQ (tNum (qk l) i) (by rw[ak];exact AA.2 ⟨i,BB.2 hi,rfl⟩))
  have bn:=qaaf an (qe2 ai).2.1 hQ;have b1:(∀id,1<=id->id<=ts.length->∃q∈is,∃j,j<4/\q j=id)↔q0f l:=by
   rw[a3,ak];exact⟨λh id h1 h2=>by
    obtain⟨q,hq,j,hj,e⟩:=h id h1 h2;obtain⟨i,hi,rfl⟩:=AA.1 hq;exact⟨i,BB.1 hi,j,hj,e⟩,λh id h1 h2=>by
    obtain⟨i,hi,j,hj,e⟩:=h id h1 h2;exact⟨_,AA.2 ⟨i,BB.2 hi,rfl⟩,j,hj,e⟩⟩
  obtain⟨un,b8⟩:∃un,un=(tmsN (trms (is.map (sQ ts))).length (trms (is.map (sQ ts)))).length:=⟨_,rfl⟩
  rw[<-b8]at bn|-;(conv=>whnf);refine zC (λ_=>zw ?_) (λ_=>zw ?_)
  ·have b9:¬q0f l:=λh=>by
    have:=bn.2 (b1.2 h);omega
   refine zl H 3 ?_;refine zS H 5 λxa H=>zw ?_;refine zS H 4 λxb H=>zw ?_;refine qd (R:=λv w'=>Op19 l w.heap.size v w'/\Ext w w') (zw ?_);refine zl H 5 ?_;refine zl H 4 ?_;exact⟨.err (qn9 h0 ae af ai ao Oo Oo az b9) Od rfl rfl,H.ext⟩
  refine zl H 2 ?_;have aa:=qb5 aa ay;have W:=qb5 (qb5 W ax) ay;have ce:r2<au.heap.size:=aw.lt (zmg (i:=5) rfl);have cf:r5<au.heap.size:=aw.lt (zmg (i:=4) rfl);refine StoreA.row H (i:=5) rfl (Ai 4) (by simp[Value.oneCell']) ?_;clear H;intro c0 aj bu H;have aa:=qdq aa (λc hc _=>aj c Oo);have W:=qdq W (λc hc _=>aj c Oo);(conv=>whnf);refine StoreA.row H (i:=4) rfl (Ai 2) (by simp[Value.oneCell']) ?_;clear H;intro c5 a1 cg H;have aa:=qdq aa (λc hc _=>a1 c Oo);have W:=qdq W (λc hc _=>a1 c Oo);(conv=>whnf);refine qd (R:=λv w'=>Op19 l w.heap.size v w'/\Ext w w') (zw ?_);refine zl H 5 ?_;refine zl H 4 ?_;obtain⟨a4,bm⟩:=qdr qsp aa bl;rw[al]at bm;have cc:(poE l).2=0:=by rw[qabn h0 ae af ai ao Oo Oo az (b1.1 (bn.1 Oo))]
  refine⟨.inr ⟨cc,ts,an,b3,λi hi=>?_,VB,vc,QB,qc,rfl,bm,?_,?_,(qdr qaf W a3).1⟩,H.ext⟩
  ·exact hQ (tNum (qk l) i) (by rw[ak];exact AA.2 ⟨i,BB.2 hi,rfl⟩)
  ·rw[ak,List.map_map]at a4;exact a4
  ·have cd:=qkq aa aw.ext.size;have e:(List.range (vNum (qk l) 3)).map (λi=>sQ ts (tNum (qk l) i))=is.map (sQ ts):=by rw[ak,List.map_map];rfl
   rw[e,<-al];exact cd
 ·have hH:qeq l=[ii 0,ii 0,ii 0,ii 0]:=by rw[qeq,Aa h0]
  rw[hH];(conv=>whnf);refine znm H λi7 w6 H=>zw ?_;refine znm H λf8 w7 H=>zw ?_;refine zS H 1 λw8 H=>zw ?_;refine zS H 0 λw9 H=>zw ?_;refine zr H 0 ?_;refine zv ?_;refine DrawV.inv (λS w'=>∃a9:Int,a9=(((qt l).1:Nat):Int)/\Mem w w' ((f8,.cells #[ii (((qt l).1:Nat)),ii (((qt l).2:Nat))] 55)::(i7,.cells #[ii 0,ii 0,ii 0,ii 0] 53)::(z6,.cells #[ii 0,ii 0,ii 0,ii 0] 53)::(r5,(bif S 5 then .cells #[ii a9,ii (((qt l).2:Nat):Int)] 55 else .cells #[ii (0:Int),ii (0:Int)] 55))::(r2,.cells #[ii 0,ii 0,ii 0,ii 0] 53)::[])) rfl Jk ⟨_,rfl,H.drew⟩ ?_;clear H;(conv=>whnf);refine StepI.of (.agg #[ii 0,ii 0,ii 0,ii 0]) (λS wd hk hp hI=>zw ?_) (zw ?_)
  ·obtain⟨Z,V,U⟩:=hI;refine zl U 2 ?_;exact⟨rfl,Z,V,U⟩
  refine StepI.of (.agg #[ii ((qt l).1:Nat),ii ((qt l).2:Nat)]) (λS wd hk hp hI=>zw ?_) (zw ?_)
  ·obtain⟨Z,V,U⟩:=hI;refine zl U 0 ?_;exact⟨rfl,Z,V,U⟩
  refine StepI.of undef (λS wd hk hp hI=>zw ?_) (zw ?_)
  ·obtain⟨Z,V,U⟩:=hI;refine zS U 4 λwx ad=>zw ?_;exact⟨rfl,Z,V,ad⟩
  refine zi ?_;refine zi ?_;refine StepI.of undef (λS wd hk hp hI=>?_) (zw ?_)
  ·obtain⟨Z,V,U⟩:=hI
   try dsimp only at U
   rw[hk]at U;(conv=>whnf);refine zS U 3 λwx ad=>zw ?_;exact⟨rfl,_,(by first|rfl|omega),ad⟩
  rintro wy ⟨Z,V,H⟩;have H:Mem w wy ((f8,.cells #[ii (((qt l).1:Nat)),ii (((qt l).2:Nat))] 55)::(i7,.cells #[ii 0,ii 0,ii 0,ii 0] 53)::(z6,.cells #[ii 0,ii 0,ii 0,ii 0] 53)::(r5,.cells #[ii Z,ii (((qt l).2:Nat):Int)] 55)::(r2,.cells #[ii 0,ii 0,ii 0,ii 0] 53)::[]):=H;(conv=>whnf);refine qd (R:=λv w'=>Op19 l w.heap.size v w'/\Ext w w') (zw ?_);refine zl H 4 ?_;refine zl H 3 ?_;exact⟨.err (qyh h0) h0 V rfl,H.ext⟩
def gqC(p:Q4):DK:=encT p.g++encT p.s++encT p.p++encT p.o
theorem qaf4(p:Q4)(V:k<4){v:DF}(H:(encT (gat p k))[j]?=some v):(gqC p)[k*4+j]?=some v:=by
 have U:j<4:=(Ae.1 H).1
 match k,V with
 | 0,_=>
  match j,U with
  | 0,_=>exact H
  | 1,_=>exact H
  | 2,_=>exact H
  | 3,_=>exact H
 | 1,_=>
  match j,U with
  | 0,_=>exact H
  | 1,_=>exact H
  | 2,_=>exact H
  | 3,_=>exact H
 | 2,_=>
  match j,U with
  | 0,_=>exact H
  | 1,_=>exact H
  | 2,_=>exact H
  | 3,_=>exact H
 | 3,_=>
  match j,U with
  | 0,_=>exact H
  | 1,_=>exact H
  | 2,_=>exact H
  | 3,_=>exact H
def updZ(F:Nat->Int)(k:Nat)(x:Int):Nat->Int:=λj=>if j=k then x else F j
theorem qig(F:Nat->Int)(k:Nat)(x:Int):updZ F k x k=x:=by rw[updZ,Ab rfl]
theorem qy6(F:Nat->Int)(k:Nat)(x y:Int):updZ (updZ F k x) k y=updZ F k y:=by
 funext j
 unfold updZ
 split<;>rfl
theorem q4s{t u:TM}(hi:T[i]?=some u):lstT T t (i+1)=if qal u t=true then i+1 else lstT T t i:=by
 have H:T.getD i zTM=u:=by rw[Ag,hi];rfl
 rw[lstT,H]
theorem q3q(T:List TM)(A:oA)(n c:Nat)(B:oA)(m d:Nat)(p:Q4)(w:DA)(hr:RiseT T)(ak:∀t∈T,1<=t.kind)(hS:SlAt encT 4 w B T)(aw:T.length=m)(hb:m<=16777216):
  Gv DM 40 [.agg #[.slice A n c,.slice B m d],q4 p] w λr w'=>r=qey T p/\Ext w w':=by
 subst aw;have t4:tsz DM 45=4:=by kernel_rfl
 have t1:tsz DM 3=1:=by kernel_rfl
 obtain⟨xo,al⟩:∃xo:Obj,xo=.cells #[.slice A n c,.slice B T.length d] 30:=⟨_,rfl⟩
 obtain⟨ao,am⟩:∃ao:Obj,ao=.cells (gqC p).toArray 166:=⟨_,rfl⟩
 refine ze Tryz.func40 Tryz.ntmps40 ?_;refine znm (Mem.nil w) λxb w1 H=>zw ?_;refine znm H ?_;clear H;intro pb w2 H;replace H:Mem w w2 [(pb,.cells (qm p).toArray 47),(xb,xo)]:=by rw[al];exact H
 (conv=>whnf);refine znm H ?_;clear H;intro rb w3 H;have hc:CellsAt w3 pb 0 (qm p):=CellsAt.mem H (zmc mh);(conv=>whnf);refine LoadA.cells (qr hc 3 Oo) rfl (zw ?_);refine LoadA.cells (qr hc 0 Oo) rfl (zw ?_);refine LoadA.cells (qr hc 1 Oo) rfl (zw ?_);refine LoadA.cells (qr hc 2 Oo) rfl (zw ?_);refine znm H λab w4 H=>zw ?_;refine StoreA.all (vs:=gqC p) H (i:=0) rfl rfl (by simp[gqC,encT,Value.oneCell']) ?_;clear H;intro w5 H;replace H:Mem w w5 [(ab,ao),(rb,.cells zq 95),(pb,.cells (qm p).toArray 47),(xb,xo)]:=by rw[am];exact H
 (conv=>whnf);refine znm H ?_;clear H;intro ob w6 H;replace H:Mem w w6 [(ob,.cells (idC λ_=>0).toArray 95),(ab,ao),(rb,.cells zq 95),(pb,.cells (qm p).toArray 47),(xb,xo)]:=H;obtain⟨LL,an⟩:∃LL:DJ,LL=[(pb,.cells (qm p).toArray 47),(xb,xo)]:=⟨_,rfl⟩
 rw[<-an]at H;(conv=>whnf);refine qq (λs:Nat×(Nat->Int)=>[(2,pp xb),(4,pp rb),(6,pp ab),(7,pp ob),(8,ii s.1)])
  (λs w'=>s.1<=4/\(∀j,j<s.1->s.2 j=idP T p j/\KnT T (gat p j))/\Mem w w' ((ob,.cells (idC s.2).toArray 95)::(ab,ao)::(rb,.cells zq 95)::LL)) (λs=>4-s.1) (0,λ_=>0)
  fq ⟨by show 0<=4;omega,λj hj=>absurd hj (BW _),H⟩ ?_
 clear H;rintro⟨k,F⟩ w7 ax ⟨hk,hF,H⟩;dsimp only at hk hF H|-;(conv=>whnf);refine zC (λ_=>zu ?_) (λ_=>zu ?_)
 case' refine_2=>
  obtain rfl:k=4:=by omega
  have ay:KnQ T p:=λj hj=>(hF j hj).2
  have e:qey T p=.tuple #[.agg (idC F).toArray,.bool true]:=by
   rw[qey,Ab ay,<-(hF 0 Od).1,<-(hF 1 Od).1,<-(hF 2 Od).1,<-(hF 3 Od).1];rfl
  refine zl H 0 ?_;refine StoreA.all H (i:=2) rfl rfl (by simp[Value.oneCell']) λw8 H=>zw ?_;refine qd (R:=λr w'=>r=qey T p/\Ext w w') (zw ?_);refine zl H 2 ?_;exact⟨by rw[e];rfl,H.ext⟩
 have U:k<4:=by omega
 have af:0+k*tsz DM 3=k:=by rw[t1];omega
 obtain⟨t,et⟩:∃t,t=gat p k:=⟨_,rfl⟩
 have ag:∀w',(∃L,Mem w w' L/\(ab,ao)∈L)->CellsAt w' ab (0+k*4) (encT t):=λw' ⟨L,h1,h2⟩ j v hv=>by
  have:=h1.get h2;rw[am]at this;rw[qa this,As,An];exact qaf4 p U (by rw[<-et];exact hv)
 have ah:∀F:Nat->Int,(idC F).toArray.size=4:=λ_=>rfl
 rw[af];refine StoreV.mem H (i:=0) rfl (by rw[ah];exact U) rfl ?_;clear H;intro w8 H;replace H:Mem w w8 ((ob,.cells ((idC F).toArray.setIfInBounds k (ii (-1))) 95)::(ab,ao)::(rb,.cells zq 95)::LL):=H;rw[qlk F U]at H;replace H:Mem w w8 ((ob,.cells (idC (updZ F k (-1))).toArray 95)::(ab,ao)::(rb,.cells zq 95)::LL):=H;refine zu ?_;rw[t4];refine LoadV.of ((ag w8 ⟨_,H,by simp⟩) 0 _ rfl) ?_;have Z:∀G:Nat->Int,(∀j,j<k->G j=F j)->G k=idP T p k->KnT T t->∀j,j<k+1->G j=idP T p j/\KnT T (gat p j):=λG h1 h2 h3 j hj=>by
  rcases AN j k with g|g
  ·rw[h1 j g];exact hF j g
  ·obtain rfl:j=k:=by omega
   exact⟨h2,by rw[<-et];exact h3⟩
 have ad:∀x j,j<k->updZ F k x j=F j:=λx j hj=>by rw[updZ,Aa Oo]
 rcases BA (t.kind=4)with h4|h4
 case inl=>
  refine zu ?_;exact⟨(k+1,updZ F k (-1)),⟨rfl,rfl,rfl,rfl,Ad (Value.int .i64) Oo,trivial⟩,⟨by dsimp only;omega,Z _ (ad _) (by dsimp only;rw[qig,idP,idT,<-et,Ab h4]) (.inl h4),H⟩,by dsimp only;omega⟩
 have hid:idP T p k=(noT T t:Nat):=by rw[idP,idT,<-et,Aa h4]
 refine zu ?_;rw[af];refine StoreV.mem H (i:=0) rfl (by rw[ah];exact U) rfl ?_;clear H;intro w9 H;replace H:Mem w w9 ((ob,.cells ((idC (updZ F k (-1))).toArray.setIfInBounds k (ii 0)) 95)::(ab,ao)::(rb,.cells zq 95)::LL):=H;rw[qlk _ U]at H;replace H:Mem w w9 ((ob,.cells (idC (updZ (updZ F k (-1)) k 0)).toArray 95)::(ab,ao)::(rb,.cells zq 95)::LL):=H;rw[qy6]at H;refine zu ?_;rw[t4];refine LoadA.cells (ag w9 ⟨_,H,by simp⟩) rfl (zw ?_);refine RunV.eqTerm (a:=t) (b:=zTM) (.inl rfl) ?_;cases hz:qal t zTM
 case true=>
  have ez:=q7.1 hz;refine zu ?_;exact⟨(k+1,updZ F k 0),⟨rfl,rfl,rfl,rfl,Ad (Value.int .i64) Oo,trivial⟩,⟨by dsimp only;omega,Z _ (ad _) (by dsimp only;rw[qig,hid,ez,qhu rfl];rfl) (.inr (.inr ez)),H⟩,by dsimp only;omega⟩
 have az:t≠zTM:=λe=>by rw[q7.2 e]at hz;cases hz
 refine zu ?_;refine qq (λi:Nat=>[(2,pp xb),(4,pp rb),(6,pp ab),(7,pp ob),(8,ii k),(9,ii i)])
  (λi w'=>i<=T.length/\Mem w w' ((ob,.cells (idC (updZ F k (lstT T t i:Nat))).toArray 95)::(ab,ao)::(rb,.cells zq 95)::LL)) (λi=>T.length-i) 0 fq ⟨Af _,H⟩ ?_
 clear H;rintro i ae ax ⟨hi,H⟩;have aq:∀W,Ext ae W->W.heap[xb]?=some (.cells #[.slice A n c,.slice B T.length d] 30):=λW he=>by rw[<-al];exact he.get (H.get (by rw[an];simp))
 (conv=>whnf);refine LoadV.own (aq ae xr) rfl (zw ?_);refine zC (λ_=>zu ?_) (λ_=>zu ?_)
 case' refine_2=>
  obtain rfl:i=T.length:=by omega
  rw[af];refine LoadV.own (H.get mh) (qlj _ U) ?_;rw[qig]
  by_cases aa:t∈T
  ·have hl:=q85 hr ak aa;obtain⟨j,hj⟩:=AT.1 aa;have h1:=qgl hr hj (by have:=ak t aa;omega);have a0:((lstT T t T.length:Nat):Int)=((j+1:Nat):Int):=by rw[hl,h1]
   rw[a0];refine zu ?_;exact⟨(k+1,updZ F k (lstT T t T.length:Nat)),⟨rfl,rfl,rfl,rfl,Ad (Value.int .i64) Oo,trivial⟩,⟨by dsimp only;omega,Z _ (ad _) (by dsimp only;rw[qig,hid,hl]) (.inr (.inl aa)),H⟩,by dsimp only;omega⟩
  ·rw[qx0 aa znr];refine zu ?_;refine zS H 2 λa1 H=>zw ?_;refine qd (R:=λr w'=>r=qey T p/\Ext w w') (zw ?_);refine zl H 2 ?_;refine⟨?_,H.ext⟩;rw[qey,Aa λg=>?_]
   ·rfl
   ·have:=g k U;rw[<-et]at this
    rcases this with g|g|g
    ·exact h4 g
    ·exact aa g
    ·exact az g
 have ai:i<T.length:=by omega
 obtain⟨u,hu⟩:∃u,T[i]?=some u:=⟨_,zge ai⟩
 obtain⟨g,aj,rfl,a2⟩:=hS.at_ (by intro e;rw[e]at ai;simp at ai);have a3:=CellsAt.ext (a2 i u hu) H.ext;have hx:∀W,Ext ae.drew W->Ext ae W:=λW hd=>(Ext.refl ae).drew.trans hd
 refine DrawV.free Jk Jk (zw ?_);refine zd ?_;refine zsd (.slice (some ⟨g,aj,none⟩) T.length d) (λW hd=>zw ?_) (zw ?_)
 ·refine LoadV.own (aq W (hx W hd)) rfl (zw ?_);exact xq
 refine zd ?_;refine zsd (.pointer (some ⟨g,aj+i*4,none⟩)) (λW hd=>zw ?_) (zw ?_)
 ·refine⟨⟨g,aj,i,rfl,by omega,by omega,?_⟩⟩;rw[t4];(conv=>whnf);exact xq
 refine zsd (qy u) (λW hd=>zw ?_) (zw ?_)
 ·refine LoadA.cells (CellsAt.ext a3 (hx W hd)) rfl (zw ?_);exact xq
 refine zd ?_;apply zsd (.pointer (some ⟨ab,0+k*4,none⟩))
 ·intro W hd;refine zu ?_;exact⟨xr,by rw[t4]⟩
 (conv=>whnf);refine zsd (qy t) (λW hd=>zw ?_) (zw ?_)
 ·refine LoadA.cells (ag W ⟨_,H.call (hx W hd),by simp⟩) rfl (zw ?_);exact xq
 refine zsd (.bool (qal u t)) (λW hd=>zw ?_) (zw ?_)
 ·refine RunV.eqTerm (a:=u) (b:=t) (.inl rfl) (zw ?_);exact xq
 intro a1 ar;replace H:=H.drew.call ar;have V:=q4s (t:=t) hu;cases au:qal u t
 case false=>
  rw[Aa (by rw[au];decide)]at V;refine zu ?_;exact⟨i+1,⟨rfl,rfl,rfl,rfl,rfl,Ad (Value.int .i64) Oo,trivial⟩,⟨by omega,by rw[V];exact H⟩,by omega⟩
 rw[Ab au]at V;refine zu ?_;rw[af];refine StoreV.mem H (i:=0) rfl (by rw[ah];exact U) rfl ?_;clear H;intro av H;replace H:Mem w av ((ob,.cells ((idC (updZ F k (lstT T t i:Nat))).toArray.setIfInBounds k (ii ((i:Int)+1))) 95)::(ab,ao)::(rb,.cells zq 95)::LL):=H;rw[qlk _ U]at H;replace H:Mem w av ((ob,.cells (idC (updZ (updZ F k (lstT T t i:Nat)) k ((i:Int)+1))).toArray 95)::(ab,ao)::(rb,.cells zq 95)::LL):=H;rw[qy6]at H;refine zu ?_;exact⟨i+1,⟨rfl,rfl,rfl,rfl,rfl,Ad (Value.int .i64) Oo,trivial⟩,⟨by omega,by rw[V];exact H⟩,by omega⟩
theorem q3m(qs:List Q4)(A:oA)(n c:Nat)(B:oA)(m d:Nat)(q:Q4)(w:DA)(W:qs.Pairwise LtQ)(Z:SlAt qm 16 w A qs)(hn:qs.length=n)(hb:n<=1048576):
  Gv DM 41 [.agg #[.slice A n c,.slice B m d],q4 q] w λr w'=>(∃b,r=.bool b/\(b=true↔q∈qs))/\Ext w w':=by
 refine ze Tryz.func41 Tryz.ntmps41 ?_;refine znm (Mem.nil w) λxb w1 H=>zw ?_;refine znm H λpb w2 H=>zw ?_;refine zr H 1 ?_;refine LoadA.mem (cs:=(qm q).toArray) H (i:=0) rfl rfl (zw ?_);refine zcv (qzr qs q A n c w2 (Z.ext H.ext) hn Oo) ?_;rintro r w3 ⟨⟨b,rfl,U⟩,V⟩;(conv=>whnf);refine⟨⟨b,rfl,?_⟩,H.ext.trans V⟩;rw[U];exact qq9 (W.imp λh=>qfb.2 h)
end Go.Proofs.YtccmcfpmknpccaaGreatDoor
