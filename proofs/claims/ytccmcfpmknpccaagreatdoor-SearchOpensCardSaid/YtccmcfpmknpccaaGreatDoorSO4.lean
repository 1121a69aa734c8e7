/- Lemmas and contracts of functions on the way to the law's card (part 4 of 11). -/
import Derived.Test.YtccmcfpmknpccaaGreatDoorSO3
import Derived.Lib.BitFns
import Derived.Lib.Replace
import Derived.Lib.CutLaws
namespace Go.Proofs.YtccmcfpmknpccaaGreatDoor
set_option maxHeartbeats 8000000
open Go.RowKit V
set_option maxHeartbeats 8000000
set_option maxRecDepth 100000
variable {a b c d i j k m most off wd:Nat} {ahead l s:LB} {w w' w0:DA} {A B:oA} {mx:Option DF} {F:DH} {L:DJ} {vs xs:DK} {ty:DD} {K:DG} {P:DC} {z:DF} {kind:Int}
def upN(n b:Nat):Nat:=(n+b-1)/b
def qx(n:Nat):Nat:=8+upN n 8
def qa7(n:Nat):Nat:=qx n+4*upN n 2048
def qcn(n:Nat):Nat:=qa7 n+2*upN n 256
def qax(n m:Nat):Nat:=qcn n+4*upN m 512
def cutV(n m:Nat):DK:=[ii 8,ii (qx n),ii (qa7 n),ii (qcn n),ii (qax n m)]
theorem qbd(n b:Nat)(H:0<b):upN n b<=n:=by
 unfold upN
 rcases Bk n with rfl|U
 ·rw[As,D6 Oo];omega
 ·have:(n+b-1)/b<n+1:=by
   rw[De H];have h:n+b<=n*b+1*b:=by simp_all[Nat.le_mul_of_pos_right]
   grind
  omega
theorem qaby(n b:Nat)(H:0<b):((n:Int)+(b:Int)-1)/(b:Int)=((upN n b:Nat):Int):=by
 grind [upN]
theorem qy5(n b:Nat)(w:DA)(hn:n<=8796093022208)(H:0<b)(U:b<=1048576):Gv DM 264 [ii n,ii b] w λr w'=>r=ii (upN n b)/\w'=w:=by
 refine ze Tryz.func264 Tryz.ntmps264 ?_;refine zv ?_;have W:=qaby n b H;have Z:=qbd n b H;rw[W];refine Obl.mk ⟨by omega,by omega,⟨by omega,by omega⟩⟩ (zw ?_);simp
theorem qha(n b:Nat)(w:DA)(hn:n<=8796093022208)(H:0<b)(U:b<=1048576):Gv DM 181 [ii n,ii b] w λr w'=>r=ii (upN n b)/\w'=w:=by
 refine ze Tryz.func181 Tryz.ntmps181 ?_;refine zv ?_;have W:=qaby n b H;have Z:=qbd n b H;rw[W];refine Obl.mk ⟨by omega,by omega,⟨by omega,by omega⟩⟩ (zw ?_);simp
theorem q2l(n m:Nat)(w:DA)(hn:n<=67108864)(H:m<=67108864):Gv DM 237 [ii n,ii m] w λr w'=>r=.agg (cutV n m).toArray/\Ext w w':=by
 have u1:=qbd n 8 Od;have u2:=qbd n 2048 Od;have u3:=qbd n 256 Od;have u4:=qbd m 512 Od;have g1:qx n=8+upN n 8:=rfl;have g2:qa7 n=qx n+4*upN n 2048:=rfl;have g3:qcn n=qa7 n+2*upN n 256:=rfl;refine ze Tryz.func237 Tryz.ntmps237 ?_;refine znm (Mem.nil w) ?_;intro r w1 H;have H:Mem w w1 [(r,.cells #[ii 0,ii 0,ii 0,ii 0,ii 0] 376)]:=H;(conv=>whnf);refine znm H λp w2 H=>zw ?_;refine StoreA.all H (i:=0) rfl rfl Od ?_;intro w3 H;have H:Mem w w3 [(p,.cells #[ii 8,ii 0,ii 0,ii 0,ii 0] 376),(r,.cells #[ii 0,ii 0,ii 0,ii 0,ii 0] 376)]:=H;(conv=>whnf);refine DrawV.own rfl Jk (zw ?_);refine zo ?_;refine zO ?_ (by intro wd hd;(conv=>whnf);refine LoadV.mem (Mem.call (Mem.drew H) hd) (i:=0) rfl rfl ?_;(conv=>whnf);exact PostO.still xr rfl);(conv=>whnf);refine zo ?_;apply StepO.still
 ·intro wd hd;(conv=>whnf);refine zcv (qy5 n 8 wd Oo Od Od) ?_;rintro v U ⟨rfl,rfl⟩;exact PostO.still xr rfl
 (conv=>whnf);refine zo ?_;refine zo ?_;intro w4 hd
 (repeat(intro _;(conv=>whnf)))
 (conv=>whnf);refine StoreV.mem (H.drew.call hd) (i:=0) rfl (show 1<5 by decide) rfl ?_;intro w5 H;have H:Mem w w5 [(p,.cells #[ii 8,ii (qx n),ii 0,ii 0,ii 0] 376),(r,.cells #[ii 0,ii 0,ii 0,ii 0,ii 0] 376)]:=H;(conv=>whnf);refine DrawV.own rfl Jk (zw ?_);refine zo ?_;refine zO ?_ (by intro wd hd;(conv=>whnf);refine LoadV.mem (Mem.call (Mem.drew H) hd) (i:=0) rfl rfl ?_;(conv=>whnf);exact PostO.still xr rfl);(conv=>whnf);refine zo ?_;apply StepO.still
 ·intro wd hd;(conv=>whnf);refine zcv (qy5 n 2048 wd Oo Od Od) ?_;rintro v U ⟨rfl,rfl⟩;exact PostO.still xr rfl
 (conv=>whnf);(iterate 3 (refine zo ?_));intro ad hd
 (repeat(intro _;(conv=>whnf)))
 (conv=>whnf);refine StoreV.mem (H.drew.call hd) (i:=0) rfl (show 2<5 by decide) rfl ?_;intro W H;have H:Mem w W [(p,.cells #[ii 8,ii (qx n),ii (qa7 n),ii 0,ii 0] 376),(r,.cells #[ii 0,ii 0,ii 0,ii 0,ii 0] 376)]:=H;(conv=>whnf);refine DrawV.own rfl Jk (zw ?_);refine zo ?_;refine zO ?_ (by intro wd hd;(conv=>whnf);refine LoadV.mem (Mem.call (Mem.drew H) hd) (i:=0) rfl rfl ?_;(conv=>whnf);exact PostO.still xr rfl);(conv=>whnf);refine zo ?_;apply StepO.still
 ·intro wd hd;(conv=>whnf);refine zcv (qy5 n 256 wd Oo Od Od) ?_;rintro v U ⟨rfl,rfl⟩;exact PostO.still xr rfl
 (conv=>whnf);(iterate 3 (refine zo ?_));intro ae hd
 (repeat(intro _;(conv=>whnf)))
 (conv=>whnf);refine StoreV.mem (H.drew.call hd) (i:=0) rfl (show 3<5 by decide) rfl ?_;intro Z H;have H:Mem w Z [(p,.cells #[ii 8,ii (qx n),ii (qa7 n),ii (qcn n),ii 0] 376),(r,.cells #[ii 0,ii 0,ii 0,ii 0,ii 0] 376)]:=H;(conv=>whnf);refine DrawV.own rfl Jk (zw ?_);refine zo ?_;refine zO ?_ (by intro wd hd;(conv=>whnf);refine LoadV.mem (Mem.call (Mem.drew H) hd) (i:=0) rfl rfl ?_;(conv=>whnf);exact PostO.still xr rfl);(conv=>whnf);refine zo ?_;apply StepO.still
 ·intro wd hd;(conv=>whnf);refine zcv (qy5 m 512 wd Oo Od Od) ?_;rintro v U ⟨rfl,rfl⟩;exact PostO.still xr rfl
 (conv=>whnf);(iterate 3 (refine zo ?_));intro af hd
 (repeat(intro _;(conv=>whnf)))
 (conv=>whnf);refine StoreV.mem (H.drew.call hd) (i:=0) rfl (show 4<5 by decide) rfl ?_;intro aa H;have H:Mem w aa [(p,.cells #[ii 8,ii (qx n),ii (qa7 n),ii (qcn n),ii (qax n m)] 376),(r,.cells #[ii 0,ii 0,ii 0,ii 0,ii 0] 376)]:=H;(conv=>whnf);refine zl H 0 ?_;refine StoreA.all H (i:=1) rfl rfl (by intro v hv;simp at hv;rcases hv with rfl|rfl|rfl|rfl|rfl<;>rfl) λag H=>zw ?_;refine qd (R:=λr w'=>r=.agg (cutV n m).toArray/\Ext w w') (zw ?_);refine zl H 1 ?_;exact⟨rfl,H.ext⟩
theorem qwe(n m:Nat)(H:n<=67108864)(U:m<=n):qax n m<=1000000000:=by
 grind [qbd,qax,qcn,qa7,qx]
theorem q5y(n m:Nat)(w:DA)(H:n<=67108864)(U:m<=n):Gv DM 168 [ii n,ii m] w λr w'=>r=ii (qax n m)/\Ext w w':=by
 refine ze Tryz.func168 Tryz.ntmps168 ?_;refine zv ?_;refine zcv (q2l n m w H Oo) ?_;rintro v W ⟨rfl,Z⟩;conv=>whnf
 simp_all
theorem qi9(n m:Nat)(w:DA)(U:n<=67108864)(W:m<=n):Gv DM 107 [ii n,ii m] w λr w'=>r=ii (qax n m)/\Ext w w':=by
 have Z:=qbd n 8 Od;have u2:=qbd n 2048 Od;have u3:=qbd n 256 Od;have u4:=qbd m 512 Od;refine ze Tryz.func107 Tryz.ntmps107 ?_;refine zv ?_;refine zcv (qha n 8 _ Oo Od Od) ?_;rintro v H ⟨rfl,rfl⟩;refine zu ?_;refine zcv (qha n 2048 _ Oo Od Od) ?_;rintro v H ⟨rfl,rfl⟩;refine zu ?_;refine zcv (qha n 256 _ Oo Od Od) ?_;rintro v H ⟨rfl,rfl⟩;refine zu ?_;refine zcv (qha m 512 _ Oo Od Od) ?_;rintro v H ⟨rfl,rfl⟩;refine zu ?_
 grind [qax,qcn,qa7,qx,Ext.refl]
theorem qeg(p c:Nat)(w:DA):Gv DM 239 [ii p,ii c] w λv w'=>ErrAt w' v p c/\Ext w w':=by
 refine ze Tryz.func239 Tryz.ntmps239 ?_;refine znm (Mem.nil w) λb U H=>zw ?_;exact⟨⟨b,rfl,CellsAt.mem H mh⟩,H.ext⟩
theorem qcd(p c:Nat)(w:DA):Gv DM 167 [ii p,ii c] w λv w'=>ErrAt w' v p c/\Ext w w':=by
 refine ze Tryz.func167 Tryz.ntmps167 ?_;refine znm (Mem.nil w) λb U H=>zw ?_;exact⟨⟨b,rfl,CellsAt.mem H mh⟩,H.ext⟩
theorem qf5(p c:Nat)(w:DA):Gv DM 315 [ii p,ii c] w λv w'=>ErrAt w' v p c/\Ext w w':=by
 refine ze Tryz.func315 Tryz.ntmps315 ?_;refine znm (Mem.nil w) λb U H=>zw ?_;exact⟨⟨b,rfl,CellsAt.mem H mh⟩,H.ext⟩
def vN(l:LB):Nat:=leN (l.take 4)
def vM(l:LB):Nat:=leN ((l.drop 4).take 4)
def vOk(l:LB):Bool:=decide (8<=l.length)&&decide (vN l<=67108864)&&decide (vM l<=vN l)&&decide (l.length=qax (vN l) (vM l))
def vecC(s:DF)(n m:Nat):DN:=#[s,ii n,ii m,ii 8,ii (qx n),ii (qa7 n),ii (qcn n),ii (qax n m)]
def vecO(t:DD)(s:DF)(n m:Nat):Obj:=.cells (vecC s n m) t
structure Sto(wd:DA)(F:DI)(s4 s8 s9 s12:Bool)(w:DA):Prop where
 a:s12=false->Ext wd w
 f:s12=true->F w/\s4=true/\s8=true/\s9=true
section
variable {wd w w':DA} {F:DI} {s4 s8 s9 s12:Bool}
theorem Sto.start:Sto wd F false false false false wd:=⟨λ_=>xr,Js⟩
theorem Sto.of{H U W:Bool}(h:Sto wd F s4 s8 s9 s12 w)(Z:s12=false)(he:Ext w w'):Sto wd F H U W s12 w':=⟨λh'=>(h.a h').trans he,(by grind)⟩
theorem Sto.z4(h:Sto wd F false s8 s9 s12 w):s12=false:=by
 cases H:s12
 ·rfl
 ·have:=(h.f H).2.1;cases this
theorem Sto.z8(h:Sto wd F s4 false s9 s12 w):s12=false:=by
 cases H:s12
 ·rfl
 ·have:=(h.f H).2.2.1;cases this
theorem Sto.z9(h:Sto wd F s4 s8 false s12 w):s12=false:=by
 cases H:s12
 ·rfl
 ·have:=(h.f H).2.2.2;cases this
end
def qafl(l:LB)(s:DF)(v:DF)(w0 w:DA):Prop:=
 (vOk l=false/\(∃e p c,v=.tuple #[.pointer none,.bool false,e]/\ErrAt w e p c\/∃b,v=.tuple #[pp b,.bool false,.nilIface]/\w0.heap.size<=b/\w.heap[b]?=some (vecO 381 s (vN l) (vM l))/\vN l<=67108864/\vM l<=vN l))\/
 (vOk l=true/\∃b,v=.tuple #[pp b,.bool true,.nilIface]/\w0.heap.size<=b/\w.heap[b]?=some (vecO 381 s (vN l) (vM l)))
theorem q55(l:LB)(A:oA)(c:Nat)(w:DA)(hS:SlAt encB 1 w A l)(hc:l.length<=c)(hl:l.length<=140737488355328):
  Gv DM 238 [.slice A l.length c] w λv w'=>qafl l (.slice A l.length c) v w w'/\Ext w w':=by
 refine ze Tryz.func238 Tryz.ntmps238 ?_;refine zC (λ_=>zw ?_) (λ_=>zw ?_)
 ·refine zcv (qeg l.length 10 w) ?_;rintro v w9 ⟨⟨b,rfl,Z⟩,aa⟩;(conv=>whnf);refine⟨.inl ⟨?_,_,_,_,.inl ⟨rfl,b,rfl,Z⟩⟩,aa⟩
  grind [vOk]
 have h8:8<=l.length:=by omega
 obtain⟨g,off,hA,_⟩:=hS.at_ (by grind);subst hA;have hN:vN l<4294967296:=by
  have:=qap l 4 Oo
  grind [vN]
 have hM:vM l<4294967296:=by
  have:=qap (l.drop 4) 4 (by grind)
  grind [vM]
 refine DrawV.free Jk Jk (zw ?_);refine zd ?_;refine zd ?_;apply zsd
 ·intro wd hd;(conv=>whnf);refine zcv (qpf l (some ⟨g,off,none⟩) _ c wd (hS.ext ((Ext.refl w).drew.trans hd)) rfl Oo) ?_;rintro v w9 ⟨rfl,Z⟩;exact⟨Z,rfl⟩
 (conv=>whnf);refine zd ?_;apply zsd
 ·intro wd hd;(conv=>whnf);refine SliceV.rest 4 rfl hc Oo (zw ?_);exact xq
 (conv=>whnf);apply zsd
 ·intro wd hd;(conv=>whnf);refine zcv (qpf (l.drop 4) _ _ _ wd (SlAt.rest (hS.ext ((Ext.refl w).drew.trans hd)) Oo) (by rw[zld]) (by rw[zld];omega)) ?_;rintro v w9 ⟨rfl,Z⟩;exact⟨Z,rfl⟩
 (conv=>whnf);refine zd ?_;apply StepD.of (λv wx=>∃b,v=pp b/\w.drew.heap.size<=b/\wx.heap[b]?=some (.cells #[.slice (some ⟨g,off,none⟩) l.length c,ii (vN l),ii (vM l),ii 0,ii 0,ii 0,ii 0,ii 0] 381))
  (λ_ _ _ h he=>let⟨b,h1,h2,h3⟩:=h;⟨b,h1,h2,he.get h3⟩)
 ·intro wd hd;(conv=>whnf);refine⟨λx wx hb hw=>?_⟩;subst hb hw;(conv=>whnf);exact⟨xr.alloc _,_,rfl,hd.size,heap_alloc_new _ _⟩
 (conv=>whnf);apply StepD.of (λv wx=>∃b,v=pp b/\w.drew.heap.size<=b/\wx.heap[b]?=some (.cells #[.slice (some ⟨g,off,none⟩) l.length c,ii (vN l),ii (vM l),ii 0,ii 0,ii 0,ii 0,ii 0] 381))
  (λ_ _ _ h he=>let⟨b,h1,h2,h3⟩:=h;⟨b,h1,h2,he.get h3⟩)
 ·intro wd hd;(conv=>whnf);rintro _ _;(conv=>whnf);rintro v ⟨b,rfl,h1,h2⟩;conv=>whnf
  grind [Ext.refl]
 (conv=>whnf);intro w9 aa;(conv=>whnf);rintro v ⟨b,rfl,hb,ho⟩;(conv=>whnf);intro _ _;(conv=>whnf);have U:=(Mem.nil w).drew.fresh aa hb ho;refine LoadV.mem (i:=0) Oa rfl rfl (zw ?_);refine zC (λ_=>zw ?_) (λ_=>zw ?_)
 ·refine zcv (qeg 0 2 w9) ?_;rintro v ad ⟨⟨b1,rfl,Z⟩,W⟩;(conv=>whnf);refine⟨.inl ⟨?_,_,_,_,.inl ⟨rfl,b1,rfl,Z⟩⟩,U.ext.trans W⟩
  grind [vOk]
 refine zy ?_;have U:=U.drew;refine zt ?_;refine LoadV.mem (i:=0) Oa rfl rfl (zw ?_);refine zt ?_;refine LoadV.mem (i:=0) Oa rfl rfl (zw ?_);refine zt ?_;refine zC (λ_=>zw ?_) (λ_=>zw ?_)
 ·refine zcv (qeg 4 20 w9.drew) ?_;rintro v ad ⟨⟨b1,rfl,Z⟩,W⟩;(conv=>whnf);refine⟨.inl ⟨?_,_,_,_,.inl ⟨rfl,b1,rfl,Z⟩⟩,U.ext.trans W⟩
  grind [vOk]
 have g1:vN l<=67108864:=by omega
 have g2:vM l<=vN l:=by omega
 obtain⟨F,hF⟩:∃F:DA->Prop,F=λw'=>Mem w w' [(b,vecO 381 (.slice (some ⟨g,off,none⟩) l.length c) (vN l) (vM l))]:=⟨_,rfl⟩
 obtain⟨w3,af⟩:∃w3:DA,w3=w9.drew:=⟨_,rfl⟩
 rw[<-af]at U|-;refine DrawV.inv (λS w'=>Sto w3.drew F (S 4) (S 8) (S 9) (S 12) w') rfl Jk Sto.start (zw ?_);(iterate 4 (refine zi ?_));refine StepI.of (ii (vN l)) (λS wd hk hp H=>?_) (zw ?_)
 ·dsimp only at H;rw[hk]at H;(conv=>whnf);refine LoadV.mem (U.drew.call (H.a H.z4)) (i:=0) rfl rfl (zw ?_);exact⟨rfl,H.of H.z4 xr⟩
 (iterate 3 (refine zi ?_));refine StepI.of (ii (vM l)) (λS wd hk hp H=>?_) (zw ?_)
 ·dsimp only at H;rw[hk]at H;(conv=>whnf);refine LoadV.mem (U.drew.call (H.a H.z8)) (i:=0) rfl rfl (zw ?_);exact⟨rfl,H.of H.z8 xr⟩
 refine StepI.of (.agg (cutV (vN l) (vM l)).toArray) (λS wd hk hp H=>?_) (zw ?_)
 ·dsimp only at H;rw[hk]at H;(conv=>whnf);refine zcv (q2l (vN l) (vM l) wd Oo Oo) ?_;rintro v w9 ⟨rfl,Z⟩;exact⟨rfl,H.of H.z9 Z⟩
 refine zi ?_;refine zi ?_;refine StepI.of undef (λS wd hk hp H=>?_) (zw ?_)
 ·dsimp only at H;have h4:S 4=true:=hp 4 Od;have ag:S 8=true:=hp 8 Od;have Z:S 9=true:=hp 9 Od;rw[hk]at H;(conv=>whnf);refine StoreA.mem (U.drew.call (H.a rfl)) (i:=0) rfl (show 3+5<=8 by decide) (by intro v hv;simp[cutV]at hv;rcases hv with rfl|rfl|rfl|rfl|rfl<;>rfl) λwx ah=>zw ?_;exact⟨rfl,λh=>(by cases h),λ_=>⟨by rw[hF];exact ah,h4,ag,Z⟩⟩
 intro ai H;have U:=(H.f rfl).1;rw[hF]at U;(conv=>whnf);refine zr U 0 ?_;refine zC (λ_=>zw ?_) (λ_=>zw ?_)
 ·refine zcv (qeg l.length 10 ai) ?_;rintro v ad ⟨⟨b1,rfl,Z⟩,W⟩;(conv=>whnf);refine⟨.inl ⟨?_,_,_,_,.inl ⟨rfl,b1,rfl,Z⟩⟩,U.ext.trans W⟩
  grind [vOk]
 refine zy ?_;have U:=U.drew;refine zt ?_;refine LoadV.mem (i:=0) Oa rfl rfl (zw ?_);refine zt ?_;refine⟨?_,U.ext⟩;have ae:w.heap.size<=b:=(U.own _ mh).1;have hv:vOk l=decide (l.length=qax (vN l) (vM l)):=by
  grind [vOk]
 by_cases e:l.length=qax (vN l) (vM l)
 ·refine .inr ⟨by simp_all,b,?_,ae,U.get Js⟩
  simp_all
 ·refine .inl ⟨by simp_all,.pointer none,0,0,.inr ⟨b,?_,ae,U.get Js,g1,g2⟩⟩
  grind [decide_eq_false]
def VecR(l:LB)(s:DF)(v:DF)(w0 w:DA):Prop:=
 (vOk l=false/\∃e p c,v=.tuple #[.pointer none,e]/\ErrAt w e p c)\/
 (vOk l=true/\∃b,v=.tuple #[pp b,.nilIface]/\w0.heap.size<=b/\w.heap[b]?=some (vecO 381 s (vN l) (vM l)))
theorem q7h(l:LB)(A:oA)(c:Nat)(w:DA)(hS:SlAt encB 1 w A l)(hc:l.length<=c)(hl:l.length<=140737488355328):
  Gv DM 169 [.slice A l.length c] w λv w'=>VecR l (.slice A l.length c) v w w'/\Ext w w':=by
 have U:=q55 l A c w hS hc hl;refine ze Tryz.func169 Tryz.ntmps169 ?_;refine zcv (U) ?_;rintro v w1 ⟨h,W⟩
 rcases h with⟨h0,e,p,q,⟨rfl,b,rfl,hE⟩|⟨b,rfl,hb,Z,g1,g2⟩⟩|⟨h1,b,rfl,hb,Z⟩
 ·refine zu ?_;refine⟨.inl ⟨h0,_,_,_,rfl,b,rfl,hE⟩,W⟩
 ·refine zu ?_;refine LoadV.own Z rfl (zw ?_);refine zcv (qeg _ 13 w1) ?_;rintro v aa ⟨⟨b1,rfl,h9⟩,H⟩;(conv=>whnf);exact⟨.inl ⟨h0,_,_,_,rfl,b1,rfl,h9⟩,W.trans H⟩
 ·refine zu ?_;exact⟨.inr ⟨h1,b,rfl,hb,Z⟩,W⟩
theorem qnj{n:Nat}(h:n<256):InR .u8 (n:Int):=⟨by omega,by omega⟩
def qhx(n:Nat):Nat:=n%2+n/2%2+n/4%2+n/8%2+n/16%2+n/32%2+n/64%2+n/128%2
def qbw(l:LB):Nat->Nat->Nat
 | _,0=>0
 | a,k+1=>qbw l a k+qhx (l.getD (a+k) 0).toNat
def qgf(l:LB)(i:Nat):Nat:=
 if i=0\/vN l=0 then 0 else if vN l<=i then vM l else
  min (leN ((l.drop (qx (vN l)+4*(i/2048))).take 4)+leN ((l.drop (qa7 (vN l)+2*(i/256))).take 2)+qbw l (8+i/256*32) (i%256/8)+qhx ((l.getD (8+i/8) 0).toNat%2 ^ (i%8))) i
def bitN(d:LB)(i:Nat):Nat:=(d.getD (i/8) 0).toNat/2 ^ (i%8)%2
def cnt(d:LB):Nat->Nat
 | 0=>0
 | n+1=>cnt d n+bitN d n
theorem qc7(d:LB)(i:Nat):bitN d i<=1:=by unfold bitN;omega
theorem qnr(d:LB)(n:Nat):cnt d n<=n:=by
 induction n<;>grind [qc7,cnt]
theorem qkf{d:LB}(h:a<=b):cnt d a<=cnt d b:=by
 induction h<;>grind [cnt]
theorem q0b:∀x,x<256->∀r,r<8->qhx (x%2 ^ (r+1))=qhx (x%2 ^ r)+x/2 ^ r%2:=by decide +kernel
theorem qaay(d:LB)(a r:Nat)(H:r<=8):cnt d (8*a+r)=cnt d (8*a)+qhx ((d.getD a 0).toNat%2 ^ r):=by
 induction r with
 | zero=>rw[Nat.pow_zero,Nat.mod_one,Bt];rfl
 | succ r U=>
  grind [cnt,q0b,q9,bitN]
theorem q77(d:LB)(a k:Nat):cnt d (8*(a+k))=cnt d (8*a)+qbw d a k:=by
 induction k with
 | zero=>rfl
 | succ k H=>
  have e:8*(a+(k+1))=8*(a+k)+8:=by omega
  rw[e,qaay d (a+k) 8 Oo,H,qbw]
  grind [q9]
theorem q3d{H:Type}(l:List H)(a i:Nat)(x:H):(l.drop a).getD i x=l.getD (a+i) x:=by
 simp
theorem qp2(l:LB)(b a k:Nat):qbw (l.drop b) a k=qbw l (b+a) k:=by
 induction k<;>grind [qbw]
theorem q12(l:LB)(a t:Nat):bitN (l.drop a) t=bitN l (8*a+t):=by
 grind [bitN]
theorem qcz(l:LB)(a t:Nat)(h:t<8*a):bitN (l.take a) t=bitN l t:=by
 grind [bitN]
theorem qxa(l:LB)(a:Nat):∀n,n<=8*a->cnt (l.take a) n=cnt l n
 | 0,_=>rfl
 | n+1,h=>by rw[cnt,cnt,qxa l a n Oo,qcz _ _ _ Oo]
structure VecOk(l:LB):Prop where
 ok:vOk l=true
 great:∀j,j<upN (vN l) 2048->leN ((l.drop (qx (vN l)+4*j)).take 4)=cnt (l.drop 8) (2048*j)
 small:∀j,j<upN (vN l) 256->leN ((l.drop (qa7 (vN l)+2*j)).take 2)=cnt (l.drop 8) (256*j)-cnt (l.drop 8) (2048*(j/8))
 ones:cnt (l.drop 8) (vN l)=vM l
theorem VecOk.rank(h:VecOk l)(i:Nat)(hi:i<=vN l):qgf l i=cnt (l.drop 8) i:=by
 rw[qgf]
 by_cases H:i=0\/vN l=0
 ·rw[Ab H];obtain rfl:i=0:=by omega
  rfl
 rw[Aa H]
 by_cases U:vN l<=i
 ·rw[Ab U];obtain rfl:i=vN l:=by omega
  exact h.ones.symm
 rw[Aa U];have W:i/2048<upN (vN l) 2048:=by unfold upN;omega
 have Z:i/256<upN (vN l) 256:=by unfold upN;omega
 rw[h.great _ W,h.small _ Z,<-qp2,<-q3d];have e8:i/256/8=i/2048:=by omega
 rw[e8];have m1:cnt (l.drop 8) (2048*(i/2048))<=cnt (l.drop 8) (256*(i/256)):=qkf Oo;have f1:=q77 (l.drop 8) (i/256*32) (i%256/8);have f2:=qaay (l.drop 8) (i/8) (i%8) Oo
 grind [qnr]
theorem q4b:∀(l:LB) (t:Nat),leN l/2 ^ t%2=bitN l t
 | [],t=>by simp[leN,bitN]
 | x::l,t=>by
  have Z:=q9 x
  rcases AN t 8 with W|W
  ·have H:t/8=0:=by omega
   have U:t%8=t:=by omega
   rw[bitN,H,U,leN];simp only[List.getD_cons_zero];obtain rfl|rfl|rfl|rfl|rfl|rfl|rfl|rfl:t=0\/t=1\/t=2\/t=3\/t=4\/t=5\/t=6\/t=7:=by omega
   all_goals(simp only[Nat.reducePow];omega)
  ·obtain⟨u,rfl⟩:∃u,t=8+u:=⟨t-8,by omega⟩
   rw[leN,Nat.pow_add,<-Nat.div_div_eq_div_mul];have e:(x.toNat+256*leN l)/2 ^ 8=leN l:=by simp only[Nat.reducePow];omega
   rw[e,q4b l u,bitN,bitN];have H:(8+u)/8=u/8+1:=by omega
   have U:(8+u)%8=u%8:=by omega
   rw[H,U,List.getD_cons_succ]
def valB(p:LB)(f:Nat):Nat->Nat
 | 0=>0
 | k+1=>valB p f k+bitN p (f+k)*2 ^ k
theorem qji(p:LB)(f k:Nat):valB p f k<2 ^ k:=by
 induction k with
 | zero=>simp[valB]
 | succ k H=>
  have:=qc7 p (f+k);have U:bitN p (f+k)*2 ^ k<=1*2 ^ k:=B9 _ this
  grind [valB]
theorem qq2(p:LB)(f k:Nat)(h:k<=m):valB p f k<2 ^ m:=Bu (qji p f k) (Bg Od h)
def numP(p:LB)(w i:Nat):Nat:=leN ((p.drop (i*w/8)).take 4)/2 ^ (i*w%8)%2 ^ w
theorem qadz(p:LB)(w i:Nat):numP p w i<2 ^ w:=Cs _ (Nat.two_pow_pos w)
theorem qkn(p:LB)(w i:Nat)(W:w<=24):numP p w i=valB p (i*w) w:=by
 have H:∀k,k<=w->leN ((p.drop (i*w/8)).take 4)/2 ^ (i*w%8)%2 ^ k=valB p (i*w) k:=by
  intro k
  induction k with
  | zero=>grind [valB]
  | succ k U=>
   intro Z;rw[Nat.mod_pow_succ,U Oo,valB,Nat.div_div_eq_div_mul,<-Nat.pow_add,q4b,qcz _ _ _ Oo,q12]
   grind
 exact H w znr
def errF(f:Nat->Nat×Nat):Nat->Nat×Nat
 | 0=>(0,0)
 | k+1=>if(errF f k).2≠0 then errF f k else f k
theorem q6{f:Nat->Nat×Nat}{n:Nat}(h:∀k,k<n->(f k).2=0):(errF f n).2=0:=by
 induction n<;>grind [errF]
theorem qaz{f:Nat->Nat×Nat}{n:Nat}(h:∀j,j<k->(f j).2=0)(H:k<n)(U:(f k).2≠0):errF f n=f k:=by
 induction n<;>grind [errF,q6]
theorem qas{f:Nat->Nat×Nat}{n:Nat}(h:(errF f n).2=0):∀k,k<n->(f k).2=0:=by
 induction n<;>grind [errF]
def vAt(l:LB):Nat->Nat
 | 0=>0
 | k+1=>vAt l k+(numL (l.drop (vAt l k))).2.1
def vNum(l:LB)(k:Nat):Nat:=(numL (l.drop (vAt l k))).1
def numE(l:LB)(k most:Nat):Nat×Nat:=
 if(numL (l.drop (vAt l k))).2.2≠0 then(vAt l k,(numL (l.drop (vAt l k))).2.2)else if most<vNum l k then(vAt l k,2)else(0,0)
theorem qco(l:LB)(k:Nat):vAt l k<=l.length:=by
 induction k<;>grind [qav,vAt]
theorem qhc(l:LB)(k:Nat):vNum l k<18446744073709551616:=(qav (l.drop (vAt l k))).1
theorem qwc(h:(numL (l.drop (vAt l k))).2.2=0):varS l (vAt l k) 0=(vNum l k,vAt l (k+1),0):=by
 rw[varS,Aa Js,Aa Oo];rfl
theorem qwb(h:(numL (l.drop (vAt l k))).2.2≠0):varS l (vAt l k) 0=(0,vAt l k,(numL (l.drop (vAt l k))).2.2):=by
 grind [varS]
section
variable {l:LB} {k:Nat}
theorem qk2(h:(numL (l.drop (vAt l k))).2.2=0):(varS l (vAt l k) 0).1=vNum l k:=by rw[qwc h]
theorem qk3(h:(numL (l.drop (vAt l k))).2.2=0):(varS l (vAt l k) 0).2.1=vAt l (k+1):=by rw[qwc h]
theorem qk4(h:(numL (l.drop (vAt l k))).2.2=0):(varS l (vAt l k) 0).2.2=0:=by rw[qwc h]
theorem qkz(h:(numL (l.drop (vAt l k))).2.2≠0):(varS l (vAt l k) 0).1=0:=by rw[qwb h]
theorem qk0(h:(numL (l.drop (vAt l k))).2.2≠0):(varS l (vAt l k) 0).2.1=vAt l k:=by rw[qwb h]
theorem qk1(h:(numL (l.drop (vAt l k))).2.2≠0):(varS l (vAt l k) 0).2.2=(numL (l.drop (vAt l k))).2.2:=by rw[qwb h]
theorem qwa(h:(numL (l.drop a)).2.2=0):(varS l a 0).1=(numL (l.drop a)).1/\(varS l a 0).2.1=a+(numL (l.drop a)).2.1/\(varS l a 0).2.2=0:=by
 grind [varS]
theorem qv9(h:(numL (l.drop a)).2.2≠0):(varS l a 0).1=0/\(varS l a 0).2.1=a/\(varS l a 0).2.2=(numL (l.drop a)).2.2:=by
 grind [varS]
theorem qbh(H:(numL (l.drop (vAt l k))).2.2=0)(U:vNum l k<=most):numE l k most=(0,0):=by grind [numE]
theorem qu3(H:(numL (l.drop (vAt l k))).2.2=0)(h:(numE l k most).2=0):vNum l k<=most:=by
 grind [numE]
theorem qbv(H:(numL (l.drop (vAt l k))).2.2≠0):numE l k most=(vAt l k,(numL (l.drop (vAt l k))).2.2):=by grind [numE]
theorem qdp(H:(numL (l.drop (vAt l k))).2.2=0)(U:most<vNum l k):numE l k most=(vAt l k,2):=by grind [numE]
end
def qbg(n:Nat):Nat:=Go.Lib.bitLen n
def dhF(m:LB)(k:Nat):Nat×Nat:=numE m k (if k=0 then 4194304 else 67108864)
def dN(m:LB):Nat:=vNum m 0
def qdc(m:LB):Nat:=vNum m 1
def dW(m:LB):Nat:=qbg (qdc m)
def qag(m:LB):Nat:=vAt m 2
def qg(m:LB):Nat:=qag m+(upN (dN m) 16*dW m+7)/8
def dEnd(m:LB):Nat:=qg m+qdc m
def dE(m:LB):Nat×Nat:=
 if(errF (dhF m) 2).2≠0 then errF (dhF m) 2 else if m.length<dEnd m then(m.length,10)else if dEnd m<m.length then(dEnd m,13)else(0,0)
def qw(m:LB):LB:=(m.drop (qag m)).take (qg m-qag m)
def qe(m:LB):LB:=m.drop (qg m)
def entG(m:LB)(first:Bool)(ahead:LB):LB×Nat×Nat:=
 let s:Nat×Nat×Nat:=if first then(0,0,0)else numL m
 if s.2.2≠0 then([],0,s.2.2)else
  let t:=numL (m.drop s.2.1)
  if t.2.2≠0 then([],0,t.2.2)else if ahead.length<s.1 then([],0,161)else if 262144<t.1\/262144<s.1+t.1 then([],0,2)
  else if m.length-s.2.1-t.2.1<t.1 then([],0,10)else(ahead.take s.1++(m.drop (s.2.1+t.2.1)).take t.1,s.2.1+t.2.1+t.1,0)
def qc1(E:LB)(p:Nat)(first:Bool)(ahead:LB):LB×Nat×Nat:=
 if E.length<p then([],0,10)else if(entG (E.drop p) first ahead).2.2≠0 then([],0,(entG (E.drop p) first ahead).2.2)else
  ((entG (E.drop p) first ahead).1,p+(entG (E.drop p) first ahead).2.1,0)
def blk(E:LB)(p:Nat):Nat->LB×Nat×Nat
 | 0=>qc1 E p true []
 | j+1=>if(blk E p j).2.2≠0 then blk E p j else qc1 E (blk E p j).2.1 false (blk E p j).1
def q5(m:LB)(k:Nat):Nat:=valB (qw m) (k*dW m) (dW m)
def dGet(m:LB)(i:Nat):Option LB:=
 if i<dN m then(if(blk (qe m) (q5 m (i/16)) (i%16)).2.2=0 then some (blk (qe m) (q5 m (i/16)) (i%16)).1 else none)else none
theorem qbk{m:LB}{first:Bool}(h:(entG m first ahead).2.2=0):(entG m first ahead).1.length<=262144/\(entG m first ahead).2.1<=m.length:=by
 grind [entG,qav]
theorem qxk{E:LB}{p:Nat}{first:Bool}(h:(qc1 E p first ahead).2.2=0):(qc1 E p first ahead).1.length<=262144/\(qc1 E p first ahead).2.1<=E.length:=by
 grind [qc1,qbk]
theorem qaar{E:LB}{p:Nat}:∀{j:Nat},(blk E p j).2.2=0->(blk E p j).1.length<=262144/\(blk E p j).2.1<=E.length
 | 0,h=>qxk h
 | j+1,h=>by
  grind [blk,qxk]
theorem q7w{E:LB}{p:Nat}(h:(blk E p j).2.2≠0):∀{i:Nat},j<=i->blk E p i=blk E p j:=by
 intro i hi
 induction hi<;>grind [blk]
theorem qkh{m:LB}(h:dGet m i=some s):s.length<=262144:=by
 grind [dGet,qaar]
def vsF(l:LB)(k:Nat):Nat×Nat:=numE l k 67108864
def qj(l:LB):Nat->Nat
 | 0=>vAt l 3
 | k+1=>qj l k+vNum l k
def sE(l:LB):Nat×Nat:=
 if(errF (vsF l) 3).2≠0 then errF (vsF l) 3 else if l.length<qj l 3 then(l.length,10)else if qj l 3<l.length then(qj l 3,13)else(0,0)
def sDict(l:LB)(k:Nat):LB:=(l.drop (qj l k)).take (vNum l k)
def sdF(l:LB)(k:Nat):Nat×Nat:=if(dE (sDict l k)).2=0 then(0,0)else(qj l k+(dE (sDict l k)).1,(dE (sDict l k)).2)
def wE(l:LB):Nat×Nat:=if(sE l).2≠0 then sE l else errF (sdF l) 3
def vTot(l:LB):Nat->Nat
 | 0=>0
 | k+1=>vTot l k+dN (sDict l k)
def qb2(l:LB)(id:Nat):Nat:=if vTot l 2<id then 2 else if vTot l 1<id then 1 else 0
def tcF(l:LB)(k:Nat):Nat×Nat:=
 if(numE l k 1048576).2≠0 then numE l k 1048576 else if 0<k/\(vNum l k<vNum l (k-1)\/¬(vNum l (k-1)=0↔vNum l k=0))then(vAt l k,180)else(0,0)
def tvAt(l:LB):Nat->Nat
 | 0=>vAt l 4
 | k+1=>tvAt l k+1+(vNum l k*(l.getD (tvAt l k) 0).toNat+7)/8+(if k=0 then 0 else qax (vNum l k) (vNum l (k-1)))
def tw(l:LB)(k:Nat):Nat:=(l.getD (tvAt l k) 0).toNat
def tEnd(l:LB)(k:Nat):Nat:=tvAt l k+1+(vNum l k*tw l k+7)/8
def tvF(l:LB)(k:Nat):Nat×Nat:=if l.length<=tvAt l k then(l.length,10)else if 23<tw l k then(tvAt l k,14)else if l.length<tvAt l (k+1)then(l.length,10)else(0,0)
def tE(l:LB):Nat×Nat:=
 if(errF (tcF l) 4).2≠0 then errF (tcF l) 4 else if(errF (tvF l) 4).2≠0 then errF (tvF l) 4 else if tvAt l 4<l.length then(tvAt l 4,13)else(0,0)
def qh(l:LB)(k:Nat):LB:=(l.drop (tvAt l k+1)).take (tEnd l k-(tvAt l k+1))
def qf(l:LB)(k:Nat):LB:=(l.drop (tEnd l k)).take (tvAt l (k+1)-tEnd l k)
def tVec(l:LB)(k:Nat):Bool:=vOk (qf l k)&&decide (vN (qf l k)=vNum l k)&&decide (vM (qf l k)=vNum l (k-1))
def tUp(l:LB)(i:Nat):Nat->Nat
 | 0=>i
 | j+1=>qgf (qf l (3-j)) (tUp l i j)
def qjg(l:LB)(i j:Nat):Bool:=decide (tUp l i j<vNum l (3-j))&&(decide (j=3)||tVec l (3-j))
def tNum(l:LB)(i k:Nat):Nat:=numP (qh l k) (tw l k) (tUp l i (3-k))
def tOk(l:LB)(i:Nat):Bool:=qjg l i 0&&qjg l i 1&&qjg l i 2&&qjg l i 3
theorem qbc(l:LB)(k:Nat):tvAt l (k+1)=tEnd l k+(if k=0 then 0 else qax (vNum l k) (vNum l (k-1))):=rfl
def qi(l:LB):LB:=(l.drop 28).take (hN l 4)
def qk(l:LB):LB:=(l.drop (32+hN l 4)).take (hN l 5)
def packE(l:LB):Nat×Nat:=
 if(qt l).2≠0 then qt l else if(wE (qi l)).2≠0 then(28+(wE (qi l)).1,(wE (qi l)).2)
 else if(tE (qk l)).2≠0 then(32+hN l 4+(tE (qk l)).1,(tE (qk l)).2)else(0,0)
theorem q4k(x:Nat)(w:DA)(H:x<18446744073709551616):Gv DM 259 [.int .u64 x] w λr w'=>r=ii (qbg x)/\w'=w:=
 qzx Jk (Tryz.bits_Len64 x w Oo Oo)
theorem q7j(x:Nat)(w:DA)(H:x<18446744073709551616):Gv DM 190 [.int .u64 x] w λr w'=>r=ii (qbg x)/\w'=w:=by
 refine ze Tryz.func190 Tryz.ntmps190 ?_;refine zcv (q4k x w H) ?_;rintro r U ⟨rfl,rfl⟩;(conv=>whnf);exact⟨rfl,rfl⟩
theorem qjj(x:Nat)(H:x≠0)(h:x<18446744073709551616):qbg x=1+qbg (x/2):=Go.Lib.bitLen_half x H (by simpa using h)
theorem qgd:qbg 0=0:=by decide
theorem qd4:∀(k x:Nat),x<2 ^ k->k<=64->qbg x<=k
 | 0,x,h,_=>by
  obtain rfl:x=0:=by simpa using h
  rw[qgd];exact Ai _
 | k+1,x,h,U=>by
  by_cases H:x=0
  ·subst H;rw[qgd];exact Af _
  ·have W:(2:Nat) ^ (k+1)<=2 ^ 64:=Bg Od U;rw[qjj x H (Bu h W)];have:=qd4 k (x/2) (by rw[Nat.pow_succ]at h;omega) Oo;omega
theorem qnn(n:Nat)(w:DA)(H:n<=4194304):Gv DM 316 [ii n] w λr w'=>r=ii (upN n 16)/\w'=w:=by
 refine ze Tryz.func316 Tryz.ntmps316 ?_;refine zv ?_;exact⟨Ad (Value.int .i64) (by unfold upN;omega),rfl⟩
structure DictAt(w:DA)(b:Nat)(m:LB):Prop where
 h:∃P cp E ce,w.heap[b]?=some (.cells #[ii (dN m),ii (dW m),.slice P (qw m).length cp,.slice E (qe m).length ce] 395)/\SlAt encB 1 w P (qw m)/\SlAt encB 1 w E (qe m)/\(qe m).length<=ce
 n:dN m<=4194304
 size:qdc m<=67108864
 qgm:(qw m).length=(upN (dN m) 16*dW m+7)/8
 entries:(qe m).length=qdc m
theorem DictAt.ext{m:LB}(h:DictAt w b m)(H:Ext w w'):DictAt w' b m:=by
 obtain⟨⟨P,U,E,W,Z,h2,h3,h4⟩,h5,h6,h7,h8⟩:=h;exact⟨⟨P,U,E,W,H.get Z,h2.ext H,h3.ext H,h4⟩,h5,h6,h7,h8⟩
theorem DictAt.width{m:LB}(h:DictAt w b m):dW m<=27:=qd4 27 _ (by have:=h.size;simp only[Nat.reducePow];omega) Od
theorem qxg(b:Nat)(m:LB)(w:DA)(h:DictAt w b m):Gv DM 177 [pp b] w λr w'=>r=ii (dN m)/\w'=w:=by
 obtain⟨⟨P,U,E,W,H,Z,h3,h4⟩,h5,h6,h7,h8⟩:=h;refine ze Tryz.func177 Tryz.ntmps177 ?_;refine LoadV.own H rfl (zw ?_);exact⟨rfl,rfl⟩
theorem qsm(b:Nat)(m:LB)(k:Nat)(w:DA)(h:DictAt w b m)(hk:k<upN (dN m) 16):Gv DM 323 [pp b,ii k] w λr w'=>r=ii (q5 m k)/\w'=w:=by
 have hW:=h.width;obtain⟨⟨P,cp,E,ce,Z,h2,h3,h4⟩,h5,h6,h7,h8⟩:=h;have aa:upN (dN m) 16<=4194304:=AE (qbd _ _ Od) h5;obtain⟨W,eW⟩:∃W,W=dW m:=⟨_,rfl⟩
 rw[q5];rw[<-eW]at Z h7 hW|-;have ad:k*W+W<=upN (dN m) 16*W:=by rw[<-CM];exact B9 _ hk
 have ah:upN (dN m) 16*W<=4194304*27:=BF aa hW;obtain⟨f,ef⟩:∃f,f=k*W:=⟨_,rfl⟩
 have ae:(k:Int)*(W:Int)=(f:Int):=by rw[ef,Int.natCast_mul]
 rw[<-ef]at ad|-;refine ze Tryz.func323 Tryz.ntmps323 ?_;refine LoadV.own Z rfl ?_;refine qq (λi:Nat=>[(0,pp b),(1,ii k),(5,ii (valB (qw m) f i)),(11,ii W),(12,ii i)]) (λi w'=>i<=W/\w'=w) (λi=>W-i) 0 fq ⟨Af _,rfl⟩ ?_;rintro i w1 ai ⟨i1,rfl⟩;have hv:=qji (qw m) f i;have af:valB (qw m) f i<2 ^ 27:=qq2 _ _ _ Oo;simp only[Nat.reducePow]at af;(conv=>whnf);refine zC (λ_=>zw ?_) (λ_=>zw ?_)
 ·refine LoadV.own Z rfl (zw ?_);rw[ae];refine zv ?_;refine LoadV.own Z rfl (zu ?_);have hj:(f+i)/8<(qw m).length:=by omega
  refine ElemV.bs h2 rfl ((f+i)/8) Oo hj ?_;intro eb eo hc;refine LoadV.of hc (zu ?_);refine V.Wit.shrN ((f+i)%8) Oo (by show(f+i)%8<8;omega) ?_;have ag:=q9 (qw m)[(f+i)/8];have U:(qw m)[(f+i)/8].toNat/2 ^ ((f+i)%8)<256:=CS (Cm _ _) ag;refine Wit.eq (qa1 (k:=.u8) (m:=(qw m)[(f+i)/8].toNat/2 ^ ((f+i)%8)) 1 rfl (qnj U) ⟨by omega,by omega⟩) (zu ?_);have hb:(qw m)[(f+i)/8].toNat/2 ^ ((f+i)%8)%2 ^ 1=bitN (qw m) (f+i):=by
   rw[bitN,Ag,zge hj];rfl
  rw[hb];have aj:=qji (qw m) f (i+1);have H:valB (qw m) f (i+1)<2 ^ 27:=qq2 _ _ _ Oo;simp only[Nat.reducePow]at H;rw[valB]at H;refine V.Wit.shlN i Oo (by show i<64;omega) (qak Oo) ?_;refine Wit.eq (qbr i (qak Oo) hv) (zu ?_);exact⟨i+1,fq,⟨by omega,rfl⟩,by omega⟩
 ·obtain rfl:i=W:=by omega
  exact⟨rfl,rfl⟩
namespace V
theorem SliceV.to{H:Nat}{n:Nat}{lo hi:Option DF}{K:DF->Prop}(a b m:Nat)(Z:bnd lo 0 a)(h2:bnd hi n b)(h3:bnd mx c m)(U:a<=b)(W:b<=m)(hm:m<=c)(hs:mx.isSome=true->hi.isSome=true)(hk:K (.slice (if m=a then A else A.map (·.add (a*H))) (b-a) (m-a))):SliceV H A n c lo hi mx K:=
 ⟨a,b,m,Z,h2,h3,U,W,hm,hs,(by grind)⟩
end V
def hdL(m:LB)(k:Nat):DK:=[ii (if 0<k then vNum m 0 else 0:Nat),ii (if 1<k then vNum m 1 else 0:Nat)]
def DShR(m:LB)(v:DF)(w0 w:DA):Prop:=
 ((dE m).2≠0/\∃e,v=.tuple #[.pointer none,ii 0,ii 0,e]/\ErrAt w e (dE m).1 (dE m).2)\/
 ((dE m).2=0/\∃b,v=.tuple #[pp b,ii (qag m),ii (qg m),.nilIface]/\w0.heap.size<=b/\DictAt w b m)
theorem qzp(m:LB)(A:oA)(c:Nat)(w:DA)(hS:SlAt encB 1 w A m)(hc:m.length<=c)(hl:m.length<=140737488355328):
  Gv DM 236 [.slice A m.length c] w λv w'=>DShR m v w w'/\Ext w w':=by
 have ag:BS w (.slice A m.length c) m:=⟨A,c,rfl,hc,hS⟩
 refine ze Tryz.func236 Tryz.ntmps236 ?_;refine zcv (qex _ m w ag) ?_;rintro v w1 ⟨cb,rfl,ah,ai,aj⟩;have H:Mem w w1 [(cb,curO 367 (.slice A m.length c) (vAt m 0) 0)]:=(Mem.nil w).fresh aj ah ai;(conv=>whnf);refine znm H ?_;intro hd w2 H;have H:Mem w w2 [(hd,.cells (hdL m 0).toArray 431),(cb,curO 367 (.slice A m.length c) (vAt m 0) 0)]:=H;(conv=>whnf);refine qq (λk:Nat=>[(0,.slice A m.length c),(2,.pointer none),(3,ii 0),(4,ii 0),(5,.nilIface),(6,pp cb),(7,pp hd),(16,.agg #[.int .u64 4194304,.int .u64 67108864]),(17,ii k)])
  (λk w'=>k<=2/\(∀j,j<k->(numL (m.drop (vAt m j))).2.2=0/\vNum m j<=67108864/\(dhF m j).2=0)/\Mem w w' [(hd,.cells (hdL m k).toArray 431),(cb,curO 367 (.slice A m.length c) (vAt m k) 0)]) (λk=>2-k) 0
  fq (by grind) ?_
 clear H ai aj ah;rintro k w3 a4 ⟨k1,hj,H⟩;(conv=>whnf);refine zC (λ_=>zu ?_) (λ_=>zu ?_)
 ·have hv:BS w3 (.slice A m.length c) m:=ag.ext H.ext;have av:=qco m k;have a5:=qhc m k;have ad:∃mo:Nat,mo=(if k=0 then 4194304 else 67108864)/\(#[Value.int .u64 4194304,.int .u64 67108864]:DN).toList[k*tsz DM 164]?=some (.int .u64 mo):=by
   refine⟨_,rfl,?_⟩;rw[show tsz DM 164=1 from by kernel_rfl]
   grind
  obtain⟨mo,aw,ax⟩:=ad;refine⟨_,ax,?_⟩;(conv=>whnf);refine zcv (qjk cb _ (vAt m k) 0 w3 (H.get (zmc mh))) ?_;rintro r w4 ⟨rfl,rfl⟩;(conv=>whnf);refine zcv (qdj cb _ (vAt m k) 0 m _ (H.get (zmc mh)) hv av hl) ?_;rintro r w5 ⟨rfl,hu⟩
  by_cases he:(numL (m.drop (vAt m k))).2.2=0
  ·rw[qk3 he,qk4 he]at hu;rw[qk2 he];have H:Mem w w5 [(hd,.cells (hdL m k).toArray 431),(cb,curO 367 (.slice A m.length c) (vAt m (k+1)) 0)]:=H.upd (i:=1) rfl hu;(conv=>whnf);refine zcv (qcf cb _ _ 0 w5 (H.get (zmc mh))) ?_;rintro r w6 ⟨rfl,rfl⟩;(conv=>whnf);refine zt ?_;refine zC (λ_=>zw ?_) (λ_=>zw ?_)
   ·refine zcv (qf5 (vAt m k) 2 w6) ?_;rintro r w7 ⟨hE,Z⟩;have ak:dhF m k=(vAt m k,2):=qdp he (by rw[<-aw];omega);have U:dE m=(vAt m k,2):=by
     have:=qaz (f:=dhF m) (n:=2) (k:=k) (by grind) Oo (by rw[ak];simp)
     grind [dE]
    obtain⟨eb,rfl,aa⟩:=hE;(conv=>whnf);refine⟨.inl ⟨by rw[U];simp,_,rfl,?_⟩,H.ext.trans Z⟩;rw[U];exact⟨eb,rfl,aa⟩
   ·have a2:mo<=67108864:=by grind
    refine Wit.conv (qak Oo) (zu ?_);have e2:0+k*tsz DM 3=k:=by rw[show tsz DM 3=1 from by kernel_rfl];omega
    refine StoreV.mem H (i:=0) rfl (by grind [hdL]) rfl ?_;intro w8 H;rw[e2]at H;have al:(hdL m k).toArray.setIfInBounds k (ii (vNum m k))=(hdL m (k+1)).toArray:=by
     obtain rfl|rfl:k=0\/k=1:=by omega
     all_goals rfl
    have H:Mem w w8 [(hd,.cells (hdL m (k+1)).toArray 431),(cb,curO 367 (.slice A m.length c) (vAt m (k+1)) 0)]:=by rw[<-al];exact H
    refine zu ?_;refine⟨k+1,fq,⟨by omega,λj a6=>?_,H⟩,by omega⟩
    grind [dhF,qbh]
  ·rw[qk0 he,qk1 he]at hu;rw[qkz he];have H:Mem w w5 [(hd,.cells (hdL m k).toArray 431),(cb,curO 367 (.slice A m.length c) (vAt m k) (numL (m.drop (vAt m k))).2.2)]:=H.upd (i:=1) rfl hu;(conv=>whnf);refine zcv (qcf cb _ _ _ w5 (H.get (zmc mh))) ?_;rintro r w6 ⟨rfl,rfl⟩;refine zu ?_;refine zcv (qf5 (vAt m k) (numL (m.drop (vAt m k))).2.2 w6) ?_;rintro r w7 ⟨hE,Z⟩;have ak:dhF m k=(vAt m k,(numL (m.drop (vAt m k))).2.2):=qbv he;have U:dE m=(vAt m k,(numL (m.drop (vAt m k))).2.2):=by
    have:=qaz (f:=dhF m) (n:=2) (k:=k) (by grind) Oo (by simp_all)
    grind [dE]
   obtain⟨eb,rfl,aa⟩:=hE;(conv=>whnf);refine⟨.inl ⟨by simp_all,_,rfl,?_⟩,H.ext.trans Z⟩;rw[U];exact⟨eb,rfl,aa⟩
 ·obtain rfl:k=2:=by omega
  have H:Mem w w3 [(hd,.cells #[ii (vNum m 0),ii (vNum m 1)] 431),(cb,curO 367 (.slice A m.length c) (vAt m 2) 0)]:=H;obtain⟨f1,f2,f3⟩:=hj 0 Oo;obtain⟨g1,g2,g3⟩:=hj 1 Oo;have ae:vNum m 0<=4194304:=qu3 f1 f3;have hz:(errF (dhF m) 2).2=0:=(by grind [q6])
  have ay:dW m<=27:=qd4 27 _ (by show vNum m 1<_;omega) Od;refine DrawV.free Jk Jk (zw ?_);refine zf ?_ (by intro wd hd;(conv=>whnf);refine zJ 0 ?_;(conv=>whnf);exact xq);refine zLd ?_;refine zf ?_ (by intro wd hd;(conv=>whnf);refine zJ 1 ?_;(conv=>whnf);exact xq);refine zLd ?_;refine zd ?_;apply zsd
  ·intro wd hd;(conv=>whnf);refine zcv (q7j (vNum m 1) wd Oo) ?_;rintro v w9 ⟨rfl,rfl⟩;exact xq
  (conv=>whnf);refine zd ?_;apply StepD.of (λv wx=>∃b,v=pp b/\w3.drew.heap.size<=b/\wx.heap[b]?=some (.cells #[ii (dN m),ii (dW m),.slice none 0 0,.slice none 0 0] 395))
   (λ_ _ _ h he=>let⟨b,h1,h2,h3⟩:=h;⟨b,h1,h2,he.get h3⟩)
  ·intro wd hd;(conv=>whnf);refine⟨λx wx hb hw=>?_⟩;subst hb hw;(conv=>whnf);exact⟨xr.alloc _,_,rfl,hd.size,heap_alloc_new _ _⟩
  (conv=>whnf);apply StepD.of (λv wx=>∃b,v=pp b/\w3.drew.heap.size<=b/\wx.heap[b]?=some (.cells #[ii (dN m),ii (dW m),.slice none 0 0,.slice none 0 0] 395))
   (λ_ _ _ h he=>let⟨b,h1,h2,h3⟩:=h;⟨b,h1,h2,he.get h3⟩)
  ·intro wd hd;(conv=>whnf);rintro _ _;(conv=>whnf);rintro v ⟨b,rfl,h1,h2⟩;conv=>whnf
   grind [Ext.refl]
  (conv=>whnf);intro w9 az;(conv=>whnf);rintro v ⟨b,rfl,hb,ho⟩;(conv=>whnf);intro _ _;(conv=>whnf);have H:=H.drew.fresh az hb ho;refine zcv (qjk cb _ (vAt m 2) 0 w9 (H.get (zmc (zmc mh)))) ?_;rintro r a0 ⟨rfl,rfl⟩;(conv=>whnf);have a1:upN (dN m) 16<=4194304:=AE (qbd _ _ Od) ae;have am:upN (dN m) 16*dW m<=4194304*27:=BF a1 ay;obtain⟨f,ef⟩:∃f,f=upN (dN m) 16*dW m:=⟨_,rfl⟩
  have a7:((upN (dN m) 16:Nat):Int)*((dW m:Nat):Int)=(f:Int):=by omega
  rw[<-ef]at am;have e3:qag m=vAt m 2:=rfl;have e4:qg m=qag m+(f+7)/8:=by rw[ef];rfl
  have e5:dEnd m=qg m+vNum m 1:=rfl;have a8:=qco m 2;refine zy ?_;have H:=H.drew;refine zt ?_;refine LoadV.mem (i:=0) Oa rfl rfl (zw ?_);refine zt ?_;refine⟨ii (upN (dN m) 16),qnn (dN m) _ ae,?_⟩;conv=>whnf
  (repeat'(first|refine zp ?_|refine zC (λ_=>zw ?_) (λ_=>zw ?_)|(refine zJ 1 ?_;(conv=>whnf))|refine LoadV.mem (i:=0) Oa rfl rfl (zw ?_)|refine LoadV.mem (i:=1) Oa rfl rfl (zw ?_)))
  ·have U:dE m=(m.length,10):=by grind [dE]
   refine zcv (qf5 m.length 10 _) ?_;rintro r w7 ⟨⟨eb,rfl,aa⟩,Z⟩;(conv=>whnf);refine⟨.inl ⟨by rw[U];simp,_,rfl,?_⟩,H.ext.trans Z⟩;rw[U];exact⟨eb,rfl,aa⟩
  ·have U:dE m=(dEnd m,13):=by grind [dE]
   have an:(((vAt m 2:Nat):Int)+(((upN (dN m) 16:Nat):Int)*((dW m:Nat):Int)+7)/8+((vNum m 1:Nat):Int))=((dEnd m:Nat):Int):=by omega
   rw[an];refine zcv (qf5 (dEnd m) 13 _) ?_;rintro r w7 ⟨⟨eb,rfl,aa⟩,Z⟩;(conv=>whnf);refine⟨.inl ⟨by grind,_,rfl,?_⟩,H.ext.trans Z⟩;rw[U];exact⟨eb,rfl,aa⟩
  have U:dE m=(0,0):=by grind [dE]
  have a3:m.length=dEnd m:=by omega
  obtain⟨ao,aq⟩:∃ao:DA,ao=a0.drew:=⟨_,rfl⟩
  rw[<-aq]at H|-;obtain⟨PV,ar⟩:∃PV:DF,PV=.slice (if c=qag m then A else A.map (·.add (qag m*1))) (qg m-qag m) (c-qag m):=⟨_,rfl⟩
  obtain⟨EV,au⟩:∃EV:DF,EV=.slice (if c=qg m then A else A.map (·.add (qg m*1))) (dEnd m-qg m) (c-qg m):=⟨_,rfl⟩
  refine DrawV.inv (λS w'=>Mem w w' [(b,.cells #[ii (dN m),ii (dW m),(bif S 12 then PV else .slice none 0 0),(bif S 15 then EV else .slice none 0 0)] 395),(hd,.cells #[ii (vNum m 0),ii (vNum m 1)] 431),(cb,curO 367 (.slice A m.length c) (vAt m 2) 0)]) rfl Jk H.drew (zw ?_);(iterate 5 (refine zi ?_));refine StepI.of PV (λS wd hk hp W=>zw ?_) (zw ?_)
  ·refine SliceV.to (qag m) (qg m) c (by rfl) (by rfl) rfl Oo Oo Oo (λh=>by cases h) (zw ?_);exact⟨ar.symm,W⟩
  (iterate 3 (refine zi ?_));refine StepI.of EV (λS wd hk hp W=>zw ?_) ?_
  ·refine SliceV.to (qg m) (dEnd m) c (by rfl) (by rfl) rfl Oo Oo Oo (λh=>by cases h) (zw ?_);exact⟨au.symm,W⟩
  subst ar au;(conv=>whnf);refine zi ?_;refine zi ?_;refine StepI.of undef (λS wd hk hp W=>?_) (zw ?_)
  ·dsimp only at W;rw[hk]at W;(conv=>whnf);refine StoreV.mem W (i:=0) rfl (show 2<4 by decide) rfl λwx af=>zw ?_;exact⟨rfl,af⟩
  refine zi ?_;refine zi ?_;refine StepI.of undef (λS wd hk hp W=>?_) (zw ?_)
  ·dsimp only at W;rw[hk]at W;(conv=>whnf);refine StoreV.mem W (i:=0) rfl (show 3<4 by decide) rfl λwx af=>zw ?_;exact⟨rfl,af⟩
  intro a9 W;(conv=>whnf);obtain⟨o1,o2⟩:=W.own _ mh;have l1:(qw m).length=qg m-qag m:=by grind [qw]
  have l2:(qe m).length=dEnd m-qg m:=by grind [qe]
  have e9:(((vAt m 2:Nat):Int)+(((upN (dN m) 16:Nat):Int)*((dW m:Nat):Int)+7)/8)=((qg m:Nat):Int):=by omega
  rw[e9];have c1:SlAt encB 1 w (if c=qag m then A else A.map (·.add (qag m*1))) (qw m):=hS.cut (m:=c) Oo Oo Oo rfl;have c2:SlAt encB 1 w (if c=qg m then A else A.map (·.add (qg m*1))) (qe m):=by
   have:=hS.cut (m:=c) (lo:=qg m) (hi:=m.length) (A':=if c=qg m then A else A.map (·.add (qg m*1))) Oo Oo Oo rfl
   rwa[Aj Js]at this
  refine⟨.inr ⟨by rw[U],b,rfl,o1,⟨⟨_,c-qag m,_,c-qg m,?_,c1.ext W.ext,c2.ext W.ext,?_⟩,ae,g2,?_,?_⟩⟩,W.ext⟩
  ·grind
  ·omega
  ·omega
  ·rw[l2];show _=vNum m 1;omega
def DVwR(m:LB)(v:DF)(w0 w:DA):Prop:=
 ((dE m).2≠0/\∃e,v=.tuple #[.pointer none,e]/\ErrAt w e (dE m).1 (dE m).2)\/
 ((dE m).2=0/\∃b,v=.tuple #[pp b,.nilIface]/\w0.heap.size<=b/\DictAt w b m)
theorem q2u(m:LB)(A:oA)(c:Nat)(w:DA)(Z:SlAt encB 1 w A m)(hc:m.length<=c)(hl:m.length<=140737488355328):
  Gv DM 164 [.slice A m.length c] w λv w'=>DVwR m v w w'/\Ext w w':=by
 have H:=qzp m A c w Z hc hl;refine ze Tryz.func164 Tryz.ntmps164 ?_;refine zcv (H) ?_;rintro v w1 ⟨⟨U,e,rfl,b,rfl,hE⟩|⟨U,b,rfl,hb,hD⟩,W⟩
 ·(conv=>whnf);exact⟨.inl ⟨U,_,rfl,b,rfl,hE⟩,W⟩
 ·(conv=>whnf);exact⟨.inr ⟨U,b,rfl,hb,hD⟩,W⟩
theorem qaal(s:DF)(n m b:Nat)(w:DA)(H:w.heap[b]?=some (vecO 381 s n m)):Gv DM 170 [pp b] w λr w'=>r=ii n/\w'=w:=by
 refine ze Tryz.func170 Tryz.ntmps170 ?_;refine LoadV.own H rfl (zw ?_);simp
theorem q7a(s:DF)(n m b:Nat)(w:DA)(H:w.heap[b]?=some (vecO 381 s n m)):Gv DM 171 [pp b] w λr w'=>r=ii m/\w'=w:=by
 refine ze Tryz.func171 Tryz.ntmps171 ?_;refine LoadV.own H rfl (zw ?_);simp
theorem qsg(x:Nat)(w:DA)(H:x<256):Gv DM 301 [.int .u8 x] w λr w'=>r=ii (qhx x)/\w'=w:=by
 refine ze Tryz.func301 Tryz.ntmps301 ?_;refine IdxV.nat (by show x<256;exact H) (zw ?_);refine Wit.conv (by grind [qak,q9]) (zw ?_);refine⟨Ad (Value.int .i64) (Ad Int.ofNat ?_),rfl⟩;clear w
 revert x
 decide +kernel
theorem qyj(l:LB)(A:oA)(c b i:Nat)(w:DA)(hS:SlAt encB 1 w A l)(hc:l.length<=c)(hv:vOk l=true)(Z:w.heap[b]?=some (vecO 381 (.slice A l.length c) (vN l) (vM l)))(hi:i<=67108864):
  Gv DM 224 [pp b,ii i] w λr w'=>r=ii (qgf l i)/\Ext w w':=by
 refine ze Tryz.func224 Tryz.ntmps224 ?_;simp only[vOk,AF,decide_eq_true_eq]at hv;obtain⟨⟨⟨v1,v2⟩,v3⟩,v4⟩:=hv;have u1:=qbd (vN l) 8 Od;have u2:=qbd (vN l) 2048 Od;have u3:=qbd (vN l) 256 Od;have u4:=qbd (vM l) 512 Od;have g1:qx (vN l)=8+upN (vN l) 8:=rfl;have g2:qa7 (vN l)=qx (vN l)+4*upN (vN l) 2048:=rfl;have g3:qcn (vN l)=qa7 (vN l)+2*upN (vN l) 256:=rfl;have g4:qax (vN l) (vM l)=qcn (vN l)+4*upN (vM l) 512:=rfl;rw[qgf];refine zC (λ_=>zu ?_) (λ_=>zu ?_)
 ·grind [Ext.refl]
 refine LoadV.own Z rfl (zw ?_);refine zt ?_;refine zC (λ_=>zw ?_) (λ_=>zw ?_)
 ·grind [Ext.refl]
 refine LoadV.own Z rfl (zw ?_);refine zC (λ_=>zw ?_) (λ_=>zw ?_)
 ·refine LoadV.own Z rfl (zw ?_)
  grind [Ext.refl]
 obtain⟨g,off,hA,_⟩:=hS.at_ (by grind);subst hA;have k1:i/2048+1<=upN (vN l) 2048:=by unfold upN;omega
 have k2:i/256+1<=upN (vN l) 256:=by unfold upN;omega
 have k3:i/8+1<=upN (vN l) 8:=by unfold upN;omega
 refine DrawV.free Jk Jk (zw ?_);(iterate 3 (refine zd ?_));refine zf ?_ (by intro wd hd;(conv=>whnf);refine LoadV.own (Ext.get (Ext.trans (Ext.drew xr) hd) Z) rfl ?_;(conv=>whnf);exact xq);(iterate 4 (refine zd ?_));refine zf ?_ (by intro wd hd;(conv=>whnf);refine LoadV.own (Ext.get (Ext.trans (Ext.drew xr) hd) Z) rfl ?_;(conv=>whnf);exact xq);(iterate 4 (refine zd ?_));apply zsd
 ·intro wd hd;(conv=>whnf);refine SliceV.rest (qx (vN l)+4*(i/2048)) (by rfl) hc Oo (zw ?_);exact xq
 (conv=>whnf);apply zsd
 ·intro wd hd;(conv=>whnf);refine zcv (qpf (l.drop (qx (vN l)+4*(i/2048))) _ _ _ wd (SlAt.rest (hS.ext ((Ext.refl w).drew.trans hd)) Oo) (by rw[zld]) (by rw[zld];omega)) ?_;rintro v w9 ⟨rfl,h9⟩;exact⟨h9,rfl⟩
 (conv=>whnf);(iterate 3 (refine zd ?_));refine zf ?_ (by intro wd hd;(conv=>whnf);refine LoadV.own (Ext.get (Ext.trans (Ext.drew xr) hd) Z) rfl ?_;(conv=>whnf);exact xq);(iterate 4 (refine zd ?_));refine zf ?_ (by intro wd hd;(conv=>whnf);refine LoadV.own (Ext.get (Ext.trans (Ext.drew xr) hd) Z) rfl ?_;(conv=>whnf);exact xq);(iterate 4 (refine zd ?_));apply zsd
 ·intro wd hd;(conv=>whnf);refine SliceV.rest (qa7 (vN l)+2*(i/256)) (by rfl) hc Oo (zw ?_);exact xq
 (conv=>whnf);apply zsd
 ·intro wd hd;(conv=>whnf);refine zcv (qafa (l.drop (qa7 (vN l)+2*(i/256))) _ _ _ wd (SlAt.rest (hS.ext ((Ext.refl w).drew.trans hd)) Oo) (by rw[zld]) (by rw[zld];omega)) ?_;rintro v w9 ⟨rfl,h9⟩;exact⟨h9,rfl⟩
 (conv=>whnf);have hG:=qap (l.drop (qx (vN l)+4*(i/2048))) 4 (by grind);have hH:=qap (l.drop (qa7 (vN l)+2*(i/256))) 2 (by grind);obtain⟨G,eG⟩:∃G,G=leN ((l.drop (qx (vN l)+4*(i/2048))).take 4):=⟨_,rfl⟩
 obtain⟨H,eH⟩:∃H,H=leN ((l.drop (qa7 (vN l)+2*(i/256))).take 2):=⟨_,rfl⟩
 rw[<-eG]at hG|-;rw[<-eH]at hH|-;simp only[Nat.reduceMul,Nat.reducePow]at hG hH;refine zd ?_;refine zd ?_;intro w1 ae;(conv=>whnf);have hx:=(Ext.refl w).drew.trans ae;refine zv ?_;have af:∀k,k<=i%256/8->qbw l (8+i/256*32) k<=8*k:=λk hk=>by
  clear hG hH
  induction k<;>grind [qhx,qbw]
 refine qq (λk:Nat=>[(0,pp b),(1,ii i),(5,ii (G+H+qbw l (8+i/256*32) k:Nat)),(7,ii (i/256*256+8*k:Nat))]) (λk w'=>k<=i%256/8/\Ext w w') (λk=>i%256/8-k) 0
  ⟨rfl,rfl,by rfl,by simp;rfl,trivial⟩ (by grind) ?_
 rintro k w2 aj ⟨k1,ad⟩;have hk:=af k k1;(conv=>whnf);refine zt ?_;refine zC (λ_=>zw ?_) (λ_=>zw ?_)
 ·refine zy ?_;refine zv ?_;have U:=ad.drew;refine LoadV.own (U.get Z) rfl (zu ?_);refine LoadV.own (U.get Z) rfl (zu ?_);have hj:8+i/256*32+k<l.length:=by omega
  refine ElemV.bs (hS.ext U) rfl (8+i/256*32+k) Oo hj ?_;intro eb eo W;have aa:=q9 (l[8+i/256*32+k]);refine zu ?_;refine LoadV.of W (zu ?_);refine⟨ii (qhx (l[8+i/256*32+k]).toNat),qsg _ _ aa,?_⟩;have h8:qhx (l[8+i/256*32+k]).toNat<=8:=by unfold qhx;omega
  have ag:qbw l (8+i/256*32) (k+1)=qbw l (8+i/256*32) k+qhx (l[8+i/256*32+k]).toNat:=by
   grind [qbw]
  refine zu ?_;exact⟨k+1,⟨rfl,rfl,by rw[ag];exact Ad (Value.int .i64) Oo,by rfl,trivial⟩,(by grind),by omega⟩
 ·obtain rfl:k=i%256/8:=by omega
  refine zy ?_;refine zv ?_;have U:=ad.drew;refine LoadV.own (U.get Z) rfl (zu ?_);refine LoadV.own (U.get Z) rfl (zu ?_);have hj:8+i/8<l.length:=by omega
  refine ElemV.bs (hS.ext U) rfl (8+i/8) Oo hj ?_;intro eb eo W;have aa:=q9 (l[8+i/8]);have ah:2 ^ (i%8)<=2 ^ 7:=Bg Od Oo;have ak:=Nat.two_pow_pos (i%8);simp only[Nat.reducePow]at ah;refine zu ?_;refine LoadV.of W (zu ?_);refine V.Wit.shlN (a:=1) (i%8) Oo (by show i%8<8;omega) (qnj Oo) ?_;rw[Nat.one_mul];refine zu ?_;refine Wit.eq (qa1 (k:=.u8) (m:=(l[8+i/8]).toNat) (i%8) Oo (qnj aa) ⟨by omega,by omega⟩) ?_;have ai:(l[8+i/8]).toNat%2 ^ (i%8)<256:=(by omega)
  refine zu ?_;refine⟨ii (qhx ((l[8+i/8]).toNat%2 ^ (i%8))),qsg _ _ ai,?_⟩;have h8:qhx ((l[8+i/8]).toNat%2 ^ (i%8))<=8:=by unfold qhx;omega
  refine zu ?_;refine V.Fall.max2 rfl rfl rfl λmx al=>?_;(conv=>whnf);refine V.Fall.min2 rfl rfl rfl λmn am=>?_;conv=>whnf
  grind
theorem qca(b off i wd cp:Nat)(P:oA)(p:LB)(w:DA)(Z:w.cell? ⟨b,off+1,none⟩=some (ii wd))(h5:w.cell? ⟨b,off+5,none⟩=some (.slice P p.length cp))(hP:SlAt encB 1 w P p)(hw:wd<=23)(hi:i<=4194304):
  Gv DM 129 [.pointer (some ⟨b,off,none⟩),ii i] w λr w'=>r=ii (numP p wd i)/\Ext w w':=by
 have hb:i*wd<=4194304*23:=BF hi hw;rw[numP];obtain⟨f,ef⟩:∃f,f=i*wd:=⟨_,rfl⟩
 have aa:(i:Int)*(wd:Int)=(f:Int):=by rw[ef,Int.natCast_mul]
 rw[<-ef]at hb|-;obtain⟨m,em⟩:∃m,m=p.drop (f/8):=⟨_,rfl⟩
 have ah:m.length=p.length-f/8:=by rw[em,zld]
 rw[<-em];refine ze Tryz.func129 Tryz.ntmps129 ?_;refine LoadV.of Z (zw ?_);rw[aa];refine zv ?_;refine qq (λk:Nat=>[(0,.pointer (some ⟨b,off,none⟩)),(5,ii f),(6,ii (leN (m.take k))),(7,ii k)]) (λk w'=>k<=4/\k<=m.length/\w'=w) (λk=>4-k) 0 fq ⟨by omega,by omega,rfl⟩ ?_;rintro k w1 ai ⟨k1,k2,rfl⟩;have ad:=qap m k k2;have hp:=pow8 k k1;have H:∀x,x=leN (m.take 4)->x<4294967296:=λx U=>by
  rw[U];have:=qxy (m.take 4);have h3:256 ^ (m.take 4).length<=256 ^ 4:=Bg Od Ys;have h4:(256:Nat) ^ 4=4294967296:=by decide
  omega
 have ae:2 ^ wd<=2 ^ 23:=Bg Od hw;have aj:=Nat.two_pow_pos wd;simp only[Nat.reducePow]at ae;(conv=>whnf);refine zC (λ_=>zu ?_) (λ_=>zu ?_)
 ·refine LoadV.of h5 (zw ?_);refine zt ?_;refine zC (λ_=>zw ?_) (λ_=>zw ?_)
  ·have hk:k<m.length:=by omega
   refine LoadV.of h5 (zu ?_);refine ElemV.bs hP rfl (f/8+k) Oo Oo ?_;intro eb eo hc;have af:p[f/8+k]' Oo=m[k]:=by simp[em]
   rw[af]at hc;have ak:=q9 m[k];have hp:=pow8 (k+1) Oo;have W:=qap m (k+1) Oo;rw[qkj m k hk]at W;(conv=>whnf);refine LoadV.of hc (zu ?_);refine V.Wit.shlN (8*k) Oo (by show 8*k<64;omega) (qak Oo) (zw ?_);refine Wit.eq (qbr (8*k) (qak Oo) ad) (zu ?_);exact⟨k+1,⟨rfl,rfl,by rw[qkj m k hk];rfl,rfl,trivial⟩,⟨by omega,by omega,rfl⟩,by omega⟩
  ·have e4:leN (m.take k)=leN (m.take 4):=by rw[Aj Oo,Aj Oo]
   rw[e4];have U:=H _ rfl;generalize leN (m.take 4)=x at U|-;have ag:x/2 ^ (f%8)<=x:=Cm _ _;refine zy ?_;refine zv ?_;refine V.Wit.shrN (f%8) Oo (by show f%8<64;omega) (zu ?_);refine LoadV.of Z (zu ?_);refine V.Wit.shlN (a:=1) wd Oo (by show wd<64;omega) (qak Oo) ?_;rw[Nat.one_mul];refine zu ?_;refine Wit.eq (qa1 (k:=.i64) (m:=x/2 ^ (f%8)) wd Oo (qak Oo) ⟨by omega,by omega⟩) (zu ?_);exact⟨rfl,(Ext.refl w1).drew⟩
 ·obtain rfl:k=4:=by omega
  have U:=H _ rfl;generalize leN (m.take 4)=x at U|-;have ag:x/2 ^ (f%8)<=x:=Cm _ _;refine zy ?_;refine zv ?_;refine V.Wit.shrN (f%8) Oo (by show f%8<64;omega) (zu ?_);refine LoadV.of Z (zu ?_);refine V.Wit.shlN (a:=1) wd Oo (by show wd<64;omega) (qak Oo) ?_;rw[Nat.one_mul];refine zu ?_;refine Wit.eq (qa1 (k:=.i64) (m:=x/2 ^ (f%8)) wd Oo (qak Oo) ⟨by omega,by omega⟩) (zu ?_);exact⟨rfl,(Ext.refl w1).drew⟩
def fnA(n:Nat)(F:DH):DN:=((List.range n).map F).toArray
def updF(F:DH)(i:Nat)(v:DF):Nat->DF:=λj=>if j=i then v else F j
theorem qb1(F:DH)(i:Nat)(v:DF):updF F i v i=v:=by simp[updF]
theorem qad(F:DH)(i j:Nat)(v:DF)(h:j≠i):updF F i v j=F j:=by simp[updF,h]
theorem qp(n:Nat)(F:DH):(fnA n F).size=n:=by simp[fnA]
theorem qix(n:Nat)(F:DH)(i:Nat)(h:i<n):(fnA n F)[i]?=some (F i):=by
 rw[fnA,An,Ao,Bs h];rfl
theorem qiy(n:Nat)(F:DH)(i:Nat)(v:DF):(fnA n F).setIfInBounds i v=fnA n (updF F i v):=by
 rw[<-Bh];simp only[fnA,BU];apply Bj;intro j;rw[Cp,Ao,Ao]
 by_cases e:i=j
 ·subst e;rw[Ab rfl]
  by_cases h:i<n
  ·rw[Ab (by simpa using h),Bs h];simp[updF]
  ·rw[Aa (by simpa using h),AY (by simpa using h)];rfl
 ·rw[Aa e]
  by_cases h:j<n
  ·rw[Bs h];simp[updF,Ne.symm e]
  ·rw[AY (by simpa using h)];rfl
theorem qfe{n:Nat}{G:DH}(h:∀j,j<n->F j=G j):fnA n F=fnA n G:=by
 unfold fnA
 congr 1
 exact Cu λj H=>h j (by simpa using H)
theorem V.LoadV.fn{n:Nat}{t:DD}{v:DF}{K:DF->Prop}(h:Mem w0 w L)(hi:L[i]?=some (b,.cells (fnA n F) t))(j:Nat)(e:off=j)(H:j<n)(U:F j=v)(W:K v):LoadV w b off K:=by
 subst e;exact LoadV.mem h hi (by rw[qix n F _ H,U]) W
theorem V.StoreV.fn{n:Nat}{t:DD}{v:DF}{K:DI}(h:Mem w0 w L)(hi:L[i]?=some (b,.cells (fnA n F) t))(j:Nat)(e:off=j)(H:j<n)(U:qc8 v=true)(W:∀w',Mem w0 w' (L.set i (b,.cells (fnA n (updF F j v)) t))->K w'):StoreV w b off v K:=by
 subst e;refine StoreV.mem h hi (by rw[qp];exact H) U λw' Z=>W w' ?_
 rwa[qiy]at Z
theorem lvSz:tsz DM 244=8:=by kernel_rfl
theorem qv2(l:LB)(v:DF)(tb cb:Nat)(F:DH)(w0 w:DA)(H:Mem w0 w [(cb,curO 367 v 0 0),(tb,.cells (fnA 32 F) 247)])(ae:BS w0 v l)(hl:l.length<=140737488355328):
  Gv DM 165 [pp tb,pp cb] w λr w'=>
   ((errF (tcF l) 4).2≠0/\ErrAt w' r (errF (tcF l) 4).1 (errF (tcF l) 4).2/\Ext w0 w')\/
   ((∀k,k<4->(tcF l k).2=0)/\r=.nilIface/\∃F',(∀k,k<4->F' (8*k)=ii (vNum l k))/\(∀j,j%8≠0->F' j=F j)/\Mem w0 w' [(cb,curO 367 v (vAt l 4) 0),(tb,.cells (fnA 32 F') 247)]):=by
 refine ze Tryz.func165 Tryz.ntmps165 ?_;refine qq (λx:Nat×DH=>[(0,pp tb),(1,pp cb),(4,.nilIface),(9,ii x.1)])
  (λx w'=>x.1<=4/\(∀j,j<x.1->(tcF l j).2=0)/\(∀k,k<x.1->x.2 (8*k)=ii (vNum l k))/\(∀j,j%8≠0->x.2 j=F j)/\Mem w0 w' [(cb,curO 367 v (vAt l x.1) 0),(tb,.cells (fnA 32 x.2) 247)]) (λx=>4-x.1) (0,F)
  fq ⟨by simp,λj h=>by simp at h,λj h=>by simp at h,λj _=>rfl,H⟩ ?_
 clear H;rintro⟨k,F1⟩ w1 ag ⟨k1,hz,hF,ad,H⟩;dsimp only at k1 hz hF ad H|-;(conv=>whnf);refine zC (λ_=>zw ?_) (λ_=>zw ?_)
 ·have hv:BS w1 v l:=ae.ext H.ext;have af:=qco l k;have ah:=qhc l k;refine zcv (qjk cb _ (vAt l k) 0 w1 (H.get mh)) ?_;rintro r w2 ⟨rfl,rfl⟩;(conv=>whnf);refine zcv (qdj cb _ (vAt l k) 0 l _ (H.get mh) hv af hl) ?_;rintro r w3 ⟨rfl,hu⟩
  by_cases W:(numL (l.drop (vAt l k))).2.2=0
  ·rw[qk3 W,qk4 W]at hu;rw[qk2 W];have H:Mem w0 w3 [(cb,curO 367 v (vAt l (k+1)) 0),(tb,.cells (fnA 32 F1) 247)]:=H.upd (i:=0) rfl hu;(conv=>whnf);refine zcv (qcf cb _ _ 0 w3 (H.get mh)) ?_;rintro r w4 ⟨rfl,rfl⟩;(conv=>whnf);refine zt ?_;refine zC (λ_=>zu ?_) (λ_=>zu ?_)
   ·have U:tcF l k=(vAt l k,2):=by rw[tcF,qdp W Oo,Ab Js]
    refine zcv (qcd (vAt l k) 2 _) ?_;rintro r w7 ⟨⟨eb,rfl,Z⟩,aa⟩;have hE:=qaz (f:=tcF l) (n:=4) (k:=k) hz Oo (by rw[U];simp);refine .inl ⟨by rw[hE,U];simp,?_,H.ext.trans aa⟩;rw[hE,U];exact⟨eb,rfl,Z⟩
   ·refine StoreV.fn H (i:=1) rfl (8*k) (by rw[lvSz];dsimp only;omega) Oo rfl ?_;intro w5 H;have H:Mem w0 w5 [(cb,curO 367 v (vAt l (k+1)) 0),(tb,.cells (fnA 32 (updF F1 (8*k) (ii (vNum l k)))) 247)]:=H;(conv=>whnf);refine zC (λ_=>zu ?_) (λ_=>zu ?_)
    ·refine IdxV.at_ (k-1) Oo Oo (zu ?_);refine LoadV.fn (v:=ii (vNum l (k-1))) H (i:=1) rfl (8*(k-1)) (by rw[lvSz];dsimp only;omega) Oo (by rw[qad _ _ _ _ Oo];exact hF (k-1) Oo) (zw ?_);refine zt ?_;refine zC (λ_=>zu ?_) (λ_=>zu ?_)
     ·have U:tcF l k=(vAt l k,180):=by rw[tcF,qbh W Oo,Aa Js,Ab ⟨by omega,by omega⟩]
      refine zcv (qcd (vAt l k) 180 _) ?_;rintro r w7 ⟨⟨eb,rfl,Z⟩,aa⟩;have hE:=qaz (f:=tcF l) (n:=4) (k:=k) hz Oo (by rw[U];simp);refine .inl ⟨by rw[hE,U];simp,?_,H.ext.trans aa⟩;rw[hE,U];exact⟨eb,rfl,Z⟩
     ·refine IdxV.at_ (k-1) Oo Oo (zu ?_);refine LoadV.fn (v:=ii (vNum l (k-1))) H (i:=1) rfl (8*(k-1)) (by rw[lvSz];dsimp only;omega) Oo (by rw[qad _ _ _ _ Oo];exact hF (k-1) Oo) (zu ?_);refine Tst.iff (vNum l (k-1)=0↔vNum l k=0) (by rw[CI,decide_eq_decide];omega) (λh=>?_) (λh=>?_)
      ·refine zu ?_;have U:(tcF l k).2=0:=by rw[tcF,qbh W Oo,Aa Js,Aa Oo]
       refine⟨(k+1,updF F1 (8*k) (ii (vNum l k))),fq,⟨by simp only;omega,λj hj=>?_,λj hj=>?_,λj hj=>?_,H⟩,by simp only;omega⟩
       ·by_cases e:j=k
        ·subst e;exact U
        ·exact hz j (by simp only at hj;omega)
       ·by_cases e:j=k
        ·subst e;exact qb1 _ _ _
        ·simp only at hj|-;rw[qad _ _ _ _ Oo];exact hF j Oo
       ·simp only;rw[qad _ _ _ _ Oo];exact ad j hj
      ·(conv=>whnf);have U:tcF l k=(vAt l k,180):=by rw[tcF,qbh W Oo,Aa Js,Ab ⟨by omega,.inr h⟩]
       refine zcv (qcd (vAt l k) 180 _) ?_;rintro r w7 ⟨⟨eb,rfl,Z⟩,aa⟩;have hE:=qaz (f:=tcF l) (n:=4) (k:=k) hz Oo (by rw[U];simp);refine .inl ⟨by rw[hE,U];simp,?_,H.ext.trans aa⟩;rw[hE,U];exact⟨eb,rfl,Z⟩
    ·have ai:k=0:=by omega
     have U:(tcF l k).2=0:=by rw[tcF,qbh W Oo,Aa Js,Aa Oo]
     refine⟨(k+1,updF F1 (8*k) (ii (vNum l k))),fq,⟨by simp only;omega,λj hj=>?_,λj hj=>?_,λj hj=>?_,H⟩,by simp only;omega⟩
     ·by_cases e:j=k
      ·subst e;exact U
      ·exact hz j (by simp only at hj;omega)
     ·by_cases e:j=k
      ·subst e;exact qb1 _ _ _
      ·simp only at hj|-;rw[qad _ _ _ _ Oo];exact hF j Oo
     ·simp only;rw[qad _ _ _ _ Oo];exact ad j hj
  ·rw[qk0 W,qk1 W]at hu;rw[qkz W];have H:Mem w0 w3 [(cb,curO 367 v (vAt l k) (numL (l.drop (vAt l k))).2.2),(tb,.cells (fnA 32 F1) 247)]:=H.upd (i:=0) rfl hu;(conv=>whnf);refine zcv (qcf cb _ _ _ w3 (H.get mh)) ?_;rintro r w4 ⟨rfl,rfl⟩;refine zu ?_;have U:tcF l k=(vAt l k,(numL (l.drop (vAt l k))).2.2):=by rw[tcF,qbv W,Ab W]
   refine zcv (qcd (vAt l k) (numL (l.drop (vAt l k))).2.2 _) ?_;rintro r w7 ⟨⟨eb,rfl,Z⟩,aa⟩;have hE:=qaz (f:=tcF l) (n:=4) (k:=k) hz Oo (by rw[U];exact W);refine .inl ⟨by rw[hE,U];exact W,?_,H.ext.trans aa⟩;rw[hE,U];exact⟨eb,rfl,Z⟩
 ·obtain rfl:k=4:=by omega
  exact .inr ⟨hz,rfl,F1,hF,ad,H⟩
def VecP(w:DA)(V s:DF)(l:LB)(k:Nat):Prop:=
 ((k=0\/tVec l k=false)/\V=.pointer none)\/(0<k/\tVec l k=true/\∃H,V=pp H/\w.heap[H]?=some (vecO 381 s (vNum l k) (vNum l (k-1))))
structure LvAt(w:DA)(b:Nat)(l:LB)(k:Nat):Prop where
 h:∃P cp S cs V,CellsAt w b (8*k) [ii (vNum l k),ii (tw l k),ii (tvAt l k),ii (tvAt l k+1:Nat),ii (tEnd l k),.slice P (qh l k).length cp,.slice S (qf l k).length cs,V]/\
  SlAt encB 1 w P (qh l k)/\SlAt encB 1 w S (qf l k)/\(qf l k).length<=cs/\VecP w V (.slice S (qf l k).length cs) l k
theorem VecP.ext{V s:DF}(h:VecP w V s l k)(H:Ext w w'):VecP w' V s l k:=by
 rcases h with h|⟨U,W,Z,h3,h4⟩
 ·exact .inl h
 ·exact .inr ⟨U,W,Z,h3,H.get h4⟩
theorem LvAt.ext(h:LvAt w b l k)(H:Ext w w'):LvAt w' b l k:=by
 obtain⟨P,U,S,W,V,Z,h2,h3,h4,h5⟩:=h;exact⟨P,U,S,W,V,Z.ext H,h2.ext H,h3.ext H,h4,h5.ext H⟩
structure TreeAt(w:DA)(b:Nat)(l:LB):Prop where
 lv:∀k,k<4->LvAt w b l k
 n:∀k,k<4->vNum l k<=1048576
 wd:∀k,k<4->tw l k<=23
theorem TreeAt.ext(h:TreeAt w b l)(H:Ext w w'):TreeAt w' b l:=⟨λk U=>(h.lv k U).ext H,h.n,h.wd⟩
def tF0(j:Nat):DF:=if j%8<5 then ii 0 else if j%8<7 then .slice none 0 0 else .pointer none
def TVwR(l:LB)(v:DF)(w0 w:DA):Prop:=
 ((tE l).2≠0/\∃e,v=.tuple #[.pointer none,e]/\ErrAt w e (tE l).1 (tE l).2)\/
 ((tE l).2=0/\∃b,v=.tuple #[pp b,.nilIface]/\w0.heap.size<=b/\TreeAt w b l)
theorem TVwR.bad(H:tE l=(a,c))(U:c≠0)(h:CellsAt w b 0 [ii a,.iface 83 (ii c)]):TVwR l (.tuple #[.pointer none,.iface 123 (pp b)]) w0 w:=
 .inl ⟨by rw[H];exact U,_,rfl,by rw[H];exact⟨b,rfl,h⟩⟩
theorem qae4(h0:(errF (tcF l) 4).2=0)(Z:∀j,j<k->(tvF l j).2=0)(hk:k<4)(H:tvF l k=(a,c))(U:c≠0):tE l=(a,c):=by
 have W:=qaz (f:=tvF l) Z hk (by rw[H];exact U);rw[tE,Aa Oo,Ab (by rw[W,H];exact U),W,H]
def tPV(A:oA)(c:Nat)(l:LB)(k:Nat):DF:=.slice (if c=tvAt l k+1 then A else A.map (·.add ((tvAt l k+1)*1))) (tEnd l k-(tvAt l k+1)) (c-(tvAt l k+1))
def tSV(A:oA)(c:Nat)(l:LB)(k:Nat):DF:=.slice (if c=tEnd l k then A else A.map (·.add (tEnd l k*1))) (tvAt l (k+1)-tEnd l k) (c-tEnd l k)
def VecM(L:DJ)(V s:DF)(l:LB)(k:Nat):Prop:=
 ((k=0\/tVec l k=false)/\V=.pointer none)\/(0<k/\tVec l k=true/\∃H,V=pp H/\(H,vecO 381 s (vNum l k) (vNum l (k-1)))∈L)
theorem VecM.more{x:Nat×Obj}{V s:DF}(h:VecM L V s l k):VecM (x::L) V s l k:=by
 rcases h with h|⟨H,U,W,Z,h4⟩
 ·exact .inl h
 ·exact .inr ⟨H,U,W,Z,zmc h4⟩
def lvV(A:oA)(c:Nat)(l:LB)(k i:Nat)(v:DF):DF:=
 match i with
 | 0=>.int .i64 (vNum l k)
 | 1=>.int .i64 (tw l k)
 | 2=>.int .i64 (tvAt l k)
 | 3=>.int .i64 ((tvAt l k:Int)+1)
 | 4=>.int .i64 (tEnd l k)
 | 5=>tPV A c l k
 | 6=>tSV A c l k
 | _=>v
def tFk(A:oA)(c:Nat)(l:LB)(V:DH)(k x:Nat):DF:=if x%8=0\/x/8<k then lvV A c l (x/8) (x%8) (V (x/8))else tF0 x
def updB(s:Bool)(F:DH)(i:Nat)(v:DF):Nat->DF:=bif s then updF F i v else F
theorem qhb(s:Bool)(F:DH)(i j:Nat)(v:DF)(h:j≠i):updB s F i v j=F j:=by cases s<;>simp[updB,updF,h]
theorem q63(s:Bool)(F:DH)(i j:Nat)(u v:DF)(h:j≠i):updF (updB s F j u) i v=updB s (updF F i v) j u:=by
 funext x
 cases s<;>simp only[updB,cond_true,cond_false,updF]
 grind
def tFm(s:Bool)(A:oA)(c:Nat)(l:LB)(V:DH)(k:Nat):Nat->DF:=
 updB s (updF (updF (updF (tFk A c l V k) (8*k+2) (ii (tvAt l k))) (8*k+1) (ii (tw l k))) (8*k+3) (ii ((tvAt l k:Int)+1))) (8*k+4) (ii (tEnd l k))
def tFn(s t:Bool)(A:oA)(c:Nat)(l:LB)(V:DH)(k:Nat):Nat->DF:=updB t (updB s (tFm true A c l V k) (8*k+5) (tPV A c l k)) (8*k+6) (tSV A c l k)
section
variable (s t:Bool) (A:oA) (c:Nat) (l:LB) (V:DH) (k j:Nat)
theorem q94:tFm s A c l V k (8*j)=ii (vNum l j):=by
 unfold tFm;rw[qhb _ _ _ _ _ Oo,qad _ _ _ _ Oo,qad _ _ _ _ Oo,qad _ _ _ _ Oo,tFk,Ab (.inl Oo),show 8*j/8=j by omega,show 8*j%8=0 by omega];rfl
theorem qah6:tFm s A c l V k (8*k+1)=ii (tw l k):=by rw[tFm,qhb _ _ _ _ _ Oo,qad _ _ _ _ Oo,qb1]
theorem qaha:tFm s A c l V k (8*k+3)=ii ((tvAt l k:Int)+1):=by rw[tFm,qhb _ _ _ _ _ Oo,qb1]
theorem qtr(h:j≠8*k+5)(H:j≠8*k+6):tFn s t A c l V k j=tFm true A c l V k j:=by rw[tFn,qhb _ _ _ _ _ H,qhb _ _ _ _ _ h]
theorem qae5:tFn s t A c l V k (8*j)=ii (vNum l j):=by rw[qtr _ _ _ _ _ _ _ _ Oo Oo,q94]
theorem qah7:tFn s t A c l V k (8*k+3)=ii ((tvAt l k:Int)+1):=by rw[qtr _ _ _ _ _ _ _ _ Oo Oo,qaha]
theorem qahb:tFn s t A c l V k (8*k+4)=ii (tEnd l k):=by rw[qtr _ _ _ _ _ _ _ _ Oo Oo];exact qb1 _ _ _
theorem qah8:updF (tFn false t A c l V k) (8*k+5) (tPV A c l k)=tFn true t A c l V k:=q63 _ _ _ _ _ _ Oo
theorem qy3(v:DF)(x:Nat):updF (tFn true true A c l V k) (8*k+7) v x=tFk A c l (updF V k v) (k+1) x:=by
 by_cases e:x/8=k
 ·rw[tFk,Ab (.inr Oo),e,qb1];obtain h|h|h|h|h|h|h|h:x=8*k\/x=8*k+1\/x=8*k+2\/x=8*k+3\/x=8*k+4\/x=8*k+5\/x=8*k+6\/x=8*k+7:=by omega
  ·subst h;rw[qad _ _ _ _ Oo,qae5,show 8*k%8=0 by omega];rfl
  all_goals
   subst h;simp[updF,updB,tFm,tFn,lvV]
 ·rw[qad _ _ _ _ Oo,qtr _ _ _ _ _ _ _ _ Oo Oo,tFm,qhb _ _ _ _ _ Oo,qad _ _ _ _ Oo,qad _ _ _ _ Oo,qad _ _ _ _ Oo,tFk,tFk,qad _ _ _ _ e]
  by_cases h:x%8=0\/x/8<k
  ·rw[Ab h,Ab Oo]
  ·rw[Aa h,Aa Oo]
theorem q93:fnA 32 (tFn true true A c l V k)=fnA 32 (tFk A c l (updF V k (.pointer none)) (k+1)):=qfe λx _=>by
 rw[<-qy3]
 by_cases e:x=8*k+7
 ·subst e;rw[qb1,qtr _ _ _ _ _ _ _ _ Oo Oo,tFm,qhb _ _ _ _ _ Oo,qad _ _ _ _ Oo,qad _ _ _ _ Oo,qad _ _ _ _ Oo,tFk,Aa Oo,tF0,Aa Oo,Aa Oo]
 ·rw[qad _ _ _ _ e]
end
theorem up{p:Nat->Prop}(h:∀j,j<k->p j)(H:p k):∀j,j<k+1->p j:=λj U=>by
 rcases Nat.lt_succ_iff_lt_or_eq.1 U with W|rfl
 ·exact h j W
 ·exact H
theorem qoh(h:(tvF l k).2=0):tvAt l k<l.length/\tw l k<=23/\tvAt l (k+1)<=l.length:=by
 rw[tvF]at h
 split at h
 ·cases h
 split at h
 ·cases h
 split at h
 ·cases h
 ·omega
theorem qia(h:(tcF l k).2=0):vNum l k<=1048576:=by
 rw[tcF]at h
 split at h
 ·rename_i H;exact absurd h H
 ·rename_i H
  unfold numE at H
  split at H
  ·rename_i U;exact absurd U H
  ·split at H
   ·exact absurd Js H
   ·omega
theorem qqw(h:(tcF l k).2=0)(U:0<k):vNum l (k-1)<=vNum l k:=by
 rw[tcF]at h
 split at h
 ·rename_i H;exact absurd h H
 ·split at h
  ·cases h
  ·omega
theorem qi3{v:DF}{K:DF->Prop}(k c:Nat)(h:Mem w0 w ((b,.cells (fnA 32 F) 247)::L))(H:F (8*k+c)=v)(U:K v)(e:off=8*k+c:=by rw[lvSz];dsimp only;omega)(W:8*k+c<32:=by omega):LoadV w b off K:=
 .fn h (i:=0) rfl _ e W H U
theorem qux{v:DF}{K:DI}(k c:Nat)(h:Mem w0 w ((b,.cells (fnA 32 F) 247)::L))(H:∀w',Mem w0 w' ((b,.cells (fnA 32 (updF F (8*k+c) v)) 247)::L)->K w')(e:off=8*k+c:=by rw[lvSz];dsimp only;omega)(U:8*k+c<32:=by omega)(W:qc8 v=true:=by rfl):StoreV w b off v K:=
 .fn h (i:=0) rfl _ e U W H
theorem q6u(l:LB)(A:oA)(c:Nat)(w:DA)(hS:SlAt encB 1 w A l)(hc:l.length<=c)(hl:l.length<=140737488355328):
  Gv DM 96 [.slice A l.length c] w λv w'=>TVwR l v w w'/\Ext w w':=by
 have aj:BS w (.slice A l.length c) l:=⟨A,c,rfl,hc,hS⟩
 refine ze Tryz.func96 Tryz.ntmps96 ?_;refine znm (Mem.nil w) ?_;intro tb w1 H;have H:Mem w w1 [(tb,.cells (fnA 32 tF0) 247)]:=H;(conv=>whnf);refine zcv (qex _ l w1 (aj.ext H.ext)) ?_;rintro v w2 ⟨cb,rfl,ay,ak,az⟩;have H:Mem w w2 [(cb,curO 367 (.slice A l.length c) 0 0),(tb,.cells (fnA 32 tF0) 247)]:=H.fresh az ay ak;(conv=>whnf);refine zcv (qv2 l _ tb cb tF0 w w2 H aj hl) ?_;rintro v w3 (⟨h0,⟨eb,rfl,Z⟩,he⟩|⟨hz,rfl,F1,al,ae,H⟩)
 ·refine zu ?_;have hE:tE l=errF (tcF l) 4:=by rw[tE,Ab h0]
  exact⟨.bad hE h0 Z,he⟩
 refine zu ?_;refine zcv (qjk cb _ (vAt l 4) 0 w3 (H.get mh)) ?_;rintro v w4 ⟨rfl,rfl⟩;replace H:=H.sub (Ak ..);rw[show fnA 32 F1=fnA 32 (tFk A c l (λ_=>.pointer none) 0)from qfe λx hx=>by
  by_cases e:x%8=0
  ·rw[tFk,Ab (.inl e),e,show x=8*(x/8)by omega,al _ Oo,show 8*(x/8)/8=x/8 by omega];rfl
  ·rw[tFk,Aa Oo,ae _ e]]at H
 clear al ae;have ah:(errF (tcF l) 4).2=0:=q6 hz;rw[show vAt l 4=tvAt l 0 from rfl];(conv=>whnf);refine qq (λx:Nat×DH×DJ=>[(0,.slice A l.length c),(2,.pointer none),(3,.nilIface),(4,pp tb),(7,ii (tvAt l x.1)),(24,ii x.1)])
  (λx w'=>x.1<=4/\(∀j,j<x.1->(tvF l j).2=0)/\(∀j,j<x.1->VecM x.2.2 (x.2.1 j) (tSV A c l j) l j)/\Mem w w' ((tb,.cells (fnA 32 (tFk A c l x.2.1 x.1)) 247)::x.2.2)) (λx=>4-x.1) (0,λ_=>.pointer none,[])
  fq ⟨by simp,λj h=>by simp at h,λj h=>by simp at h,H⟩ ?_
 clear H ak;rintro⟨k,F,L⟩ w5 bh ⟨k1,hv,hL,H⟩;dsimp only at k1 hv hL H|-;have hn:=λj hj=>qia (hz j hj)
 (conv=>whnf)
 (repeat'(first|refine zp ?_|refine zC (λ_=>zw ?_) (λ_=>zw ?_)))
 ·refine zcv (qcd (l.length) 10 _) ?_;rintro r w7 ⟨⟨eb,rfl,Z⟩,aa⟩;(conv=>whnf);exact⟨.bad (qae4 ah hv Oo (by rw[tvF,Ab Oo]) Od) Od Z,H.ext.trans aa⟩
 ·refine ElemV.bs (hS.ext H.ext) rfl (tvAt l k) rfl Oo ?_;intro eb eo am;have a0:tvAt l k<l.length:=by omega
  have hw:l[tvAt l k].toNat=tw l k:=by rw[tw,Ag,zge a0];rfl
  have bi:tw l k<256:=by rw[<-hw];exact q9 _
  rw[hw]at am;(conv=>whnf);refine LoadV.of am (zu ?_);refine qux k 2 H λw6 H=>?_;(conv=>whnf);refine qux k 1 H λw7 H=>?_;(conv=>whnf);refine qi3 k 1 H (qb1 _ _ _) (zw ?_);refine zC (λ_=>zu ?_) (λ_=>zu ?_)
  ·refine zcv (qcd (tvAt l k) 14 _) ?_;rintro r w7 ⟨⟨eb,rfl,Z⟩,aa⟩;(conv=>whnf);exact⟨.bad (qae4 ah hv Oo (by rw[tvF,Aa Oo,Ab Oo]) Od) Od Z,H.ext.trans aa⟩
  have an:tw l k<=23:=by omega
  have a1:=hn k Oo;have ao:vNum l k*tw l k<=1048576*23:=BF a1 an;obtain⟨f,ef⟩:∃f,f=vNum l k*tw l k:=⟨_,rfl⟩
  have bj:((vNum l k:Nat):Int)*((tw l k:Nat):Int)=(f:Int):=by rw[ef,Int.natCast_mul]
  rw[<-ef]at ao;have ba:tEnd l k=tvAt l k+1+(f+7)/8:=by rw[ef];rfl
  have a2:(((tvAt l k:Nat):Int)+1+(((vNum l k:Nat):Int)*((tw l k:Nat):Int)+7)/8)=((tEnd l k:Nat):Int):=by omega
  refine qux k 3 H λw8 H=>?_;(conv=>whnf);refine DrawV.inv (λS w'=>Mem w w' ((tb,.cells (fnA 32 (tFm (S 19) A c l F k)) 247)::L)) rfl Jk H.drew ?_;clear H;(conv=>whnf);(iterate 4 (refine zi ?_));refine StepI.of (ii ((tvAt l k:Int)+1)) (λS wd hk hp U=>zw ?_) (zw ?_)
  ·refine qi3 k 3 U (qaha ..) (zw ?_);exact⟨rfl,U⟩
  (iterate 3 (refine zi ?_));refine StepI.of (ii (vNum l k)) (λS wd hk hp U=>zw ?_) (zw ?_)
  ·refine qi3 k 0 U (q94 ..) (zw ?_);exact⟨rfl,U⟩
  (iterate 3 (refine zi ?_));refine StepI.of (ii (tw l k)) (λS wd hk hp U=>zw ?_) (zw ?_)
  ·refine qi3 k 1 U (qah6 ..) (zw ?_);exact⟨rfl,U⟩
  (iterate 6 (refine zi ?_));refine StepI.of undef (λS wd hk hp U=>?_) (zw ?_)
  ·dsimp only at U;rw[hk]at U;(conv=>whnf);rw[a2];refine qux k 4 U λwx hx=>?_;(conv=>whnf);exact⟨rfl,hx⟩
  intro a3 H;dsimp only at H;(conv=>whnf);refine qi3 k 4 H (qb1 _ _ _) ?_;have aq:=qbc l k;refine if bb:tvAt l (k+1)<=l.length then if ad:k=0 then ?pp else ?pn else if ad:k=0 then ?np else ?nn
  case' pp|np=>
   rw[Ab ad]at aq;refine zu ?_
  case' pn|nn=>
   rw[Aa ad]at aq;refine zu ?_;have ar:=qqw (hz k Oo) Oo;have bd:=hn (k-1) Oo;have bk:=qwe (vNum l k) (vNum l (k-1)) Oo ar;refine DrawV.free Jk Jk (zw ?_);(iterate 4 (refine zd ?_));apply zsd
   ·intro wd hd;(conv=>whnf);refine qi3 k 0 (Mem.call (Mem.drew H) hd) (q94 ..) (zw ?_);exact xq
   (conv=>whnf);(iterate 5 (refine zd ?_));apply zsd
   ·intro wd hd;(conv=>whnf);refine IdxV.at_ (k-1) Oo Oo (zw ?_);exact xq
   (conv=>whnf);refine zd ?_;apply zsd
   ·intro wd hd;(conv=>whnf);refine qi3 (k-1) 0 (Mem.call (Mem.drew H) hd) (q94 ..) (zw ?_);exact xq
   (conv=>whnf);apply zsd
   ·intro wd hd;(conv=>whnf);refine zcv (q5y (vNum l k) (vNum l (k-1)) wd Oo ar) ?_;rintro v w9 ⟨rfl,h9⟩;exact⟨h9,rfl⟩
   (conv=>whnf);refine zd ?_;refine zd ?_;intro a3 af
   (repeat(intro _ _;(conv=>whnf)))
   (conv=>whnf);replace H:=H.drew.call af;clear af;rw[show(((tEnd l k:Nat):Int)+((qax (vNum l k) (vNum l (k-1)):Nat):Int))=((tvAt l (k+1):Nat):Int)by omega];refine zv ?_
  case np|nn=>
   refine zcv (qcd (l.length) 10 _) ?_;rintro r w7 ⟨⟨eb,rfl,Z⟩,aa⟩;(conv=>whnf);exact⟨.bad (qae4 ah hv Oo (by rw[tvF,Aa Oo,Aa Oo,Ab Oo]) Od) Od Z,H.ext.trans aa⟩
  all_goals
   have au:tvF l k=(0,0):=by rw[tvF,Aa Oo,Aa Oo,Aa Oo]
   have be:tvAt l k+1<=tEnd l k:=by omega
   have bf:tEnd l k<=tvAt l (k+1):=by omega
   refine DrawV.inv (λS w'=>Mem w w' ((tb,.cells (fnA 32 (tFn (S 21) (S 24) A c l F k)) 247)::L)) rfl Jk H.drew ?_;clear H;(conv=>whnf);(iterate 6 (refine zi ?_));refine StepI.of (ii ((tvAt l k:Int)+1)) (λS wd hk hp U=>zw ?_) (zw ?_)
   ·refine qi3 k 3 U (qah7 ..) (zw ?_);exact⟨rfl,U⟩
   (iterate 3 (refine zi ?_));refine StepI.of (ii (tEnd l k)) (λS wd hk hp U=>zw ?_) (zw ?_)
   ·refine qi3 k 4 U (qahb ..) (zw ?_);exact⟨rfl,U⟩
   refine StepI.of (tPV A c l k) (λS wd hk hp U=>zw ?_) (zw ?_)
   ·refine SliceV.to (tvAt l k+1) (tEnd l k) c (by show(_:Int)=_;omega) rfl rfl Oo Oo znr (λh=>by cases h) (zw ?_);exact⟨rfl,U⟩
   (iterate 4 (refine zi ?_));refine StepI.of (ii (tEnd l k)) (λS wd hk hp U=>zw ?_) (zw ?_)
   ·refine qi3 k 4 U (qahb ..) (zw ?_);exact⟨rfl,U⟩
   refine zi ?_;refine StepI.of (tSV A c l k) (λS wd hk hp U=>zw ?_) (zw ?_)
   ·refine SliceV.to (tEnd l k) (tvAt l (k+1)) c rfl (by show(_:Int)=_;omega) rfl Oo Oo znr (λh=>by cases h) (zw ?_);exact⟨rfl,U⟩
   refine zi ?_;refine zi ?_;refine StepI.of undef (λS wd hk hp U=>?_) (zw ?_)
   ·dsimp only at U;rw[hk]at U;(conv=>whnf);show StoreV _ _ _ (tPV A c l k) _;refine qux k 5 U λwx hx=>?_;rw[qah8]at hx;(conv=>whnf);exact⟨rfl,hx⟩
   refine zi ?_;refine zi ?_;refine StepI.of undef (λS wd hk hp U=>?_) (zw ?_)
   ·dsimp only at U;rw[hk]at U;(conv=>whnf);refine qux k 6 U λwx hx=>?_;(conv=>whnf);exact⟨rfl,hx⟩
   intro a4 H;dsimp only at H;refine zu ?_
  case' pp=>have nv:k=0\/tVec l k=false:=.inl ad
  case' pn=>
   have W:(qf l k).length=tvAt l (k+1)-tEnd l k:=by rw[qf,Ar,zld];omega
   have ai:SlAt encB 1 w (if c=tEnd l k then A else A.map (·.add (tEnd l k*1))) (qf l k):=hS.cut (m:=c) Oo Oo Oo rfl;refine qi3 k 6 (v:=tSV A c l k) H (qb1 _ _ _) (zw ?_);have av:=q7h (qf l k) _ (c-tEnd l k) a4 (ai.ext H.ext) (by rw[W];omega) (by rw[W];omega);rw[W]at av;refine zcv (av) ?_;rintro r a5 ⟨⟨h0,e,q1,q2,rfl,bl,rfl,bg⟩|⟨h1,vb,rfl,a6,a7⟩,ag⟩
  case' inl=>
   replace H:=H.call ag;(conv=>whnf);refine zy ?_;replace H:=H.drew;refine zv ?_;have nv:k=0\/tVec l k=false:=.inr (by rw[tVec,h0];rfl)
  case' inr=>
   replace H:Mem w a5 ((tb,.cells (fnA 32 (tFn true true A c l F k)) 247)::(vb,vecO 381 (tSV A c l k) (vN (qf l k)) (vM (qf l k)))::L):=(H.fresh ag a6 a7).perm (List.Perm.swap ..);(conv=>whnf);refine zy ?_;replace H:=H.drew;refine zv ?_;refine⟨ii (vN (qf l k)),qaal _ _ _ _ _ (H.get (zmc mh)),?_⟩;refine zu ?_;refine qi3 k 0 H (qae5 ..) ?_;refine if e1:vN (qf l k)=vNum l k then ?ne else ?nn
  case' nn=>
   refine zu ?_;replace H:=H.sub (List.Sublist.cons_cons _ (Ak ..));have nv:k=0\/tVec l k=false:=.inr (by rw[tVec,Ax e1,Cw];rfl)
  case' ne=>
   refine zu ?_;refine⟨ii (vM (qf l k)),q7a _ _ _ _ _ (H.get (zmc mh)),?_⟩;refine zu ?_;refine IdxV.at_ (k-1) Oo Oo (zu ?_);refine qi3 (k-1) 0 H (qae5 ..) ?_;refine if e2:vM (qf l k)=vNum l (k-1)then ?me else ?mn
  case' mn=>
   refine zu ?_;replace H:=H.sub (List.Sublist.cons_cons _ (Ak ..));have nv:k=0\/tVec l k=false:=.inr (by rw[tVec,Ax e2,Cw])
  case' me=>
   refine zu ?_;refine qux k 7 (v:=pp vb) H λbm H=>?_;rw[e1,e2,qfe λx _=>qy3 A c l F k _ x]at H;have a8:tVec l k=true:=by rw[tVec,h1,At e1,At e2];rfl
   refine zu ?_;exact⟨(k+1,updF F k _,_::L),⟨rfl,rfl,rfl,rfl,by show _=ii ((tvAt l (k+1):Nat):Int);exact Ad (Value.int .i64) Oo,rfl,trivial⟩,⟨by simp only;omega,up hv (by rw[au]),up (λj hj=>by dsimp only;rw[qad _ _ _ _ Oo];exact(hL j hj).more) (by dsimp only;rw[qb1];exact .inr ⟨by omega,a8,vb,rfl,AJ ..⟩),H⟩,by simp only;omega⟩
  all_goals
   rw[q93]at H;exact⟨(k+1,updF F k (.pointer none),L),⟨rfl,rfl,rfl,rfl,by show _=ii ((tvAt l (k+1):Nat):Int);exact Ad (Value.int .i64) Oo,rfl,trivial⟩,⟨by simp only;omega,up hv (by rw[au]),up (λj hj=>by dsimp only;rw[qad _ _ _ _ Oo];exact hL j hj) (by dsimp only;rw[qb1];exact .inl ⟨nv,rfl⟩),H⟩,by simp only;omega⟩
 ·obtain rfl:k=4:=by omega
  refine zcv (qcd (tvAt l 4) 13 _) ?_;rintro r w7 ⟨⟨eb,rfl,Z⟩,aa⟩;(conv=>whnf);have:=q6 hv;exact⟨.bad (by rw[tE,Aa Oo,Aa Oo,Ab Oo]) Od Z,H.ext.trans aa⟩
 ·obtain rfl:k=4:=by omega
  have:=q6 hv;have hT:tE l=(0,0):=by rw[tE,Aa Oo,Aa Oo,Aa Oo]
  obtain⟨o1,o2⟩:=H.own _ mh;refine⟨.inr ⟨by rw[hT],tb,rfl,o1,⟨λj hj=>?_,λj hj=>qia (hz j hj),λj hj=>(qoh (hv j hj)).2.1⟩⟩,H.ext⟩;obtain⟨z1,z2,z3⟩:=qoh (hv j hj);have t1:tvAt l j+1<=tEnd l j:=by show _<=tvAt l j+1+_;omega
  have t2:tEnd l j<=tvAt l (j+1):=by rw[qbc];omega
  have aw:(qh l j).length=tEnd l j-(tvAt l j+1):=by rw[qh,Ar,zld];omega
  have W:(qf l j).length=tvAt l (j+1)-tEnd l j:=by rw[qf,Ar,zld];omega
  have a9:SlAt encB 1 w (if c=tvAt l j+1 then A else A.map (·.add ((tvAt l j+1)*1))) (qh l j):=hS.cut (m:=c) Oo Oo Oo rfl;have ai:SlAt encB 1 w (if c=tEnd l j then A else A.map (·.add (tEnd l j*1))) (qf l j):=hS.cut (m:=c) Oo Oo Oo rfl;refine⟨⟨_,c-(tvAt l j+1),_,c-tEnd l j,F j,?_,a9.ext H.ext,ai.ext H.ext,by rw[W];omega,?_⟩⟩
  ·intro i v ax;have hi8:i<8:=(Ae.1 ax).1;rw[qa o2,qix 32 _ _ Oo,tFk,Ab (.inr Oo),show(8*j+i)/8=j by omega,show(8*j+i)%8=i by omega,<-ax,aw,W]
   rcases i with _|_|_|_|_|_|_|_|i
   all_goals first|rfl|omega
  ·rw[W]
   rcases hL j hj with h|⟨h1,h2,vb,h3,h4⟩
   ·exact .inl h
   ·exact .inr ⟨h1,h2,vb,h3,H.get (zmc h4)⟩
theorem V.LoadV.cellsE{o:Nat}{v:DF}{K:DF->Prop}(h:CellsAt w b o vs)(j:Nat)(e:off=o+j)(H:vs[j]?=some v)(U:K v):LoadV w b off K:=by
 subst e;exact LoadV.cells h j H U
theorem qafy{o:Nat}{v:DF}(h:CellsAt w b o vs)(j:Nat)(H:vs[j]?=some v)(e:off=o+j):w.cell? ⟨b,off,none⟩=some v:=by rw[e];exact h j v H
theorem qid(b:Nat)(l:LB)(w:DA)(h:TreeAt w b l):Gv DM 65 [pp b] w λr w'=>r=ii (vNum l 3)/\w'=w:=by
 obtain⟨P3,U,S3,W,V3,H,Z,aa,ad,ae⟩:=(h.lv 3 Oo).h;refine ze Tryz.func65 Tryz.ntmps65 ?_;refine zJ 3 ?_;(conv=>whnf);refine LoadV.cellsE H 0 (by rw[lvSz];first|done|rfl) rfl (zw ?_);exact⟨rfl,rfl⟩
def zq:DN:=#[ii 0,ii 0,ii 0,ii 0]
def qqt(l:LB)(i:Nat):DF:=
 if i<vNum l 3/\tOk l i=true then .tuple #[.agg #[ii (tNum l i 0),ii (tNum l i 1),ii (tNum l i 2),ii (tNum l i 3)],.bool true]else .tuple #[.agg zq,.bool false]
theorem q96(h:tOk l i=true)(j:Nat)(H:j<4):qjg l i j=true:=by
 simp only[tOk,AF]at h;obtain⟨⟨⟨U,W⟩,Z⟩,h3⟩:=h
 match j,H with
 | 0,_=>exact U
 | 1,_=>exact W
 | 2,_=>exact Z
 | 3,_=>exact h3
theorem q95(H:j<4)(h:¬qjg l i j=true):qqt l i=.tuple #[.agg zq,.bool false]:=by rw[qqt,Aa λU=>h (q96 U.2 j H)]
def qF(l:LB)(i j x:Nat):DF:=ii (if 3<j+x then tNum l i x else 0:Nat)
theorem qaeh(h:k+j=3):updF (qF l i j) k (ii (tNum l i k))=qF l i (j+1):=by
 funext x
 simp only[updF,qF]
 by_cases e:x=k
 ·rw[Ab e,Ab Oo,e]
 ·rw[Aa e]
  by_cases H:3<j+x
  ·rw[Ab H,Ab Oo]
  ·rw[Aa H,Aa Oo]
theorem qaad(b:Nat)(l:LB)(i:Nat)(w:DA)(h:TreeAt w b l)(hi:i<=1048576):Gv DM 144 [pp b,ii i] w λv w'=>v=qqt l i/\Ext w w':=by
 refine ze Tryz.func144 Tryz.ntmps144 ?_;refine znm (Mem.nil w) ?_;intro Z w1 H;have H:Mem w w1 [(Z,.cells zq 95)]:=H;refine zu ?_;refine zcv (qid b l w1 (h.ext H.ext)) ?_;rintro r w2 ⟨rfl,rfl⟩;(conv=>whnf);refine zt ?_;refine zC (λ_=>zw ?_) (λ_=>zw ?_)
 ·refine StoreA.all H (i:=0) rfl rfl Od λw9 H=>zw ?_;refine qd (R:=λv w'=>v=qqt l i/\Ext w w') (zw ?_);refine zl H 0 ?_;exact⟨by rw[qqt,Aa (λhx=>by omega)];rfl,H.ext⟩
 have ai:i<vNum l 3:=by omega
 refine znm H ?_;intro qb w3 H;have H:Mem w w3 [(qb,.cells (fnA 4 (qF l i 0)) 95),(Z,.cells zq 95)]:=H;(conv=>whnf);refine qq (λj:Nat=>[(0,pp b),(1,ii (tUp l i (min j 3))),(4,pp Z),(5,.bool false),(6,pp qb),(7,ii (3-(j:Int)))])
  (λj w'=>j<=4/\(∀m,m<j->qjg l i m=true)/\Mem w w' [(qb,.cells (fnA 4 (qF l i j)) 95),(Z,.cells zq 95)]) (λj=>4-j) 0 fq ⟨by omega,λm H=>by omega,H⟩ ?_
 clear H;rintro j w4 ao ⟨j1,hf,H⟩
 by_cases hj:j=4
 ·subst hj;refine zu ?_;replace H:Mem w w4 [(qb,.cells #[ii (tNum l i 0),ii (tNum l i 1),ii (tNum l i 2),ii (tNum l i 3)] 95),(Z,.cells zq 95)]:=H;refine zl H 0 ?_;refine zS H 1 λw9 H=>zw ?_;refine qd (R:=λv w'=>v=qqt l i/\Ext w w') (zw ?_);refine zl H 1 ?_;have aj:tOk l i=true:=by rw[tOk,hf 0 Oo,hf 1 Oo,hf 2 Oo,hf 3 Oo];rfl
  exact⟨(Ab ⟨ai,aj⟩).symm,H.ext⟩
 obtain⟨k,hk⟩:∃k,k+j=3:=⟨3-j,by omega⟩
 obtain⟨P,cp,S,cs,V,hc,hP,hS,hl,hv⟩:=(h.lv k Oo).h;have hn:=h.n k Oo;obtain⟨y,ey⟩:∃y,y=tUp l i j:=⟨_,rfl⟩
 have U:qjg l i j=(decide (y<vNum l k)&&(decide (j=3)||tVec l k)):=by rw[ey,show k=3-j by omega];rfl
 rw[show min j 3=j by omega,<-ey];refine zu ?_;refine IdxV.at_ k Oo Oo (zw ?_);refine LoadV.cellsE (hc.ext H.ext) 0 (by rw[lvSz];dsimp only;omega) rfl ?_;refine if hy:y<vNum l k then if ak:k=0 then ?yk else ?yv else ?no
 case' yv=>rcases hv with⟨hx,rfl⟩|⟨_,aa,vb,rfl,al⟩
 all_goals
  refine zu ?_
 case' yv.inl|yv.inr=>
  refine LoadV.cellsE (hc.ext H.ext) 7 (by rw[lvSz];dsimp only;omega) rfl (zu ?_)
 case' no=>have ad:¬qjg l i j=true:=by rw[U,Ax hy];simp
 case' yv.inl=>have ad:¬qjg l i j=true:=by rw[U,hx.resolve_left ak,Ax (show ¬j=3 by omega)];simp
 case no|yv.inl=>
  refine StoreA.all H (i:=1) rfl rfl Od λw9 H=>zw ?_;refine qd (R:=λv w'=>v=qqt l i/\Ext w w') (zw ?_);refine zl H 1 ?_;exact⟨by rw[q95 Oo ad];rfl,H.ext⟩
 all_goals
  refine zcv (qca b _ y (tw l k) cp P (qh l k) _ (qafy (hc.ext H.ext) 1 rfl (by rw[lvSz];dsimp only;omega)) (qafy (hc.ext H.ext) 5 rfl (by rw[lvSz];dsimp only;omega)) (hP.ext H.ext) (h.wd k Oo) Oo) ?_;rintro r aq ⟨rfl,ae⟩;replace H:=H.call ae;(conv=>whnf);refine IdxV.at_ k Oo Oo (zw ?_);refine StoreV.fn H (i:=0) rfl k (by rw[show tsz DM 3=1 from by kernel_rfl];omega) Oo rfl ?_;clear H;intro af H;replace H:Mem w af [(qb,.cells (fnA 4 (updF (qF l i j) k (ii (numP (qh l k) (tw l k) y)))) 95),(Z,.cells zq 95)]:=H;rw[show numP (qh l k) (tw l k) y=tNum l i k by rw[tNum,ey,show 3-k=j by omega],qaeh hk]at H;refine zu ?_
 case' yv.inr=>
  have W:=aa;simp only[tVec,AF,decide_eq_true_eq]at W;obtain⟨⟨ag,am⟩,an⟩:=W;refine LoadV.cellsE (hc.ext H.ext) 7 (by rw[lvSz];dsimp only;omega) rfl (zw ?_);refine zcv (qyj (qf l k) S cs vb y af (hS.ext H.ext) hl ag (by rw[am,an];exact H.ext.get al) Oo) ?_;rintro r ar ⟨rfl,ah⟩;replace H:=H.call ah;refine zu ?_;have e1:qgf (qf l k) y=tUp l i (min (j+1) 3):=by rw[show min (j+1) 3=j+1 by omega,ey,show k=3-j by omega];rfl
  have e2:qjg l i j=true:=by rw[U,At hy,aa];simp
 case' yk=>
  have e1:y=tUp l i (min (j+1) 3):=by rw[ey,show min (j+1) 3=j by omega]
  have e2:qjg l i j=true:=by rw[U,At hy,At (show j=3 by omega)];rfl
 all_goals exact⟨j+1,⟨rfl,Ad (λn:Nat=>ii (n:Int)) e1,rfl,rfl,rfl,Ad (Value.int .i64) Oo,trivial⟩,⟨by omega,up hf e2,H⟩,by omega⟩
open Go.RowKit
namespace V
def byV(l:LB):DK:=l.map λc=>Value.int .u8 c.toNat
theorem q17(l:LB):(byV l).length=l.length:=by simp[byV]
structure Tri(e:DD)(w0 w:DA)(a b c:DF)(x y z:LB):Prop where
 ext:Ext w0 w
 oa:w.ownsRow w0.heap.size e 1 a x.length (byV x)
 ob:w.ownsRow w0.heap.size e 1 b y.length (byV y)
 oc:w.ownsRow w0.heap.size e 1 c z.length (byV z)
 ab:∀g,a.ownBlock=some g->b.ownBlock≠some g
 ac:∀g,a.ownBlock=some g->c.ownBlock≠some g
 bc:∀g,b.ownBlock=some g->c.ownBlock≠some g
section
variable {P:DC} {e:DD} {w0 w w':DA} {a b c:DF} {x y z:LB}
theorem Tri.nil(w:DA):Tri e w w (.slice none 0 0) (.slice none 0 0) (.slice none 0 0) [] [] []:=
 ⟨Ext.refl w,World.ownsRow_nil _ _ _ _,World.ownsRow_nil _ _ _ _,World.ownsRow_nil _ _ _ _,λg h=>(by cases h),λg h=>(by cases h),λg h=>(by cases h)⟩
theorem qb5{base H n:Nat}{v:DF}(h:w.ownsRow base e H v n xs)(U:Ext w w'):w'.ownsRow base e H v n xs:=
 h.kept (row:=none) ⟨U.os,U.tape,U.output,U.size,λk W _=>U.block k W⟩ (by cases v.ownBlock<;>simp)
theorem Tri.call(h:Tri e w0 w a b c x y z)(H:Ext w w'):Tri e w0 w' a b c x y z:=
 ⟨h.ext.trans H,qb5 h.oa H,qb5 h.ob H,qb5 h.oc H,h.ab,h.ac,h.bc⟩
theorem Tri.rot(h:Tri e w0 w a b c x y z):Tri e w0 w b c a y z x:=
 ⟨h.ext,h.ob,h.oc,h.oa,h.bc,λg U H=>h.ab g H U,λg W H=>h.ac g H W⟩
theorem qlz{base H n:Nat}{v:DF}(h:w.ownsRow base e H v n xs):∃A c,v=.slice A n c:=by
 rcases h.2 with⟨rfl,rfl⟩|⟨g,U,W,rfl,_⟩
 ·exact⟨_,_,rfl⟩
 ·exact⟨_,_,rfl⟩
theorem qw2(h:SlAt encB 1 w A l):byV l≠[]->∃b off,A=some ⟨b,off,none⟩/\CellsAt w b off (byV l):=by
 intro H;obtain⟨b,off,W,Z⟩:=h.at_ (by rintro rfl;exact H rfl);refine⟨b,off,W,λk v U=>?_⟩;rw[byV,Ao]at U;obtain⟨u,hu,rfl⟩:=C6.1 U;have:=Z k u hu 0 (.int .u8 u.toNat) rfl
 simpa using this
theorem Tri.app{t:DD}{i:TypeInfo}{zv:DF}{m:LB}(h:Tri e w0 w a b c x y z)(ht:P.underlying t=some (.slice e))(hi:P.info? e=some i)(hz:i.zero=some zv)(W:i.size=1)(ae:zv.cells.size=1)(af:i.bytes<=16)(hS:SlAt encB 1 w B m)(aa:x.length+m.length<=8000000000000)(hk:∀A' c' w',Tri e w0 w' (.slice A' (x.length+m.length) c') b c (x++m) y z->K (.slice A' (x.length+m.length) c') w'):AppV P #[t,t] ty a (.slice B m.length d) w K:=by
 refine AppV.own (news:=byV m) ht hi hz W ae Od h.oa h.ext.size (by rw[q17,Bx]) (qw2 hS) (λu hu=>?_) (AE (BF aa af) Od) Oo ?_
 ·simp only[byV,AA]at hu;obtain⟨v,_,rfl⟩:=hu;rfl
 ·intro v' w' ho hg H;obtain⟨A',c',rfl⟩:=qlz ho;have ap:∀(v:DF) (l:LB),w.ownsRow w0.heap.size e 1 v l.length (byV l)->(∀g,a.ownBlock=some g->v.ownBlock≠some g)->(v.ownBlock=none\/v.ownBlock≠a.ownBlock)/\∀g,Value.ownBlock (.slice A' (x.length+m.length) c')=some g->v.ownBlock≠some g:=λv l hv ad=>by
   constructor
   ·cases U:v.ownBlock with
    | none=>exact .inl rfl
    | some g=>exact .inr λe=>ad g e.symm U
   ·intro g Z U
    rcases H with H|H
    ·exact ad g (by rw[<-H];exact Z) U
    ·rw[H]at Z;have:=(hv.lt g U).2;have e:w.heap.size=g:=AR Z;omega
  obtain⟨b1,b2⟩:=ap b y h.ob h.ab;obtain⟨c1,c2⟩:=ap c z h.oc h.ac;refine hk A' c' w' ⟨?_,?_,h.ob.kept hg b1,h.oc.kept hg c1,b2,c2,h.bc⟩
  ·exact Below.grown h.ext hg h.ext.size (λk hk=>(h.oa.lt k hk).1)
  ·rw[byV,AH,zla];exact ho
theorem qhz{base:Nat}{v:DF}(h:w.ownsRow base e 1 v l.length (byV l)):BS w v l:=by
 rcases h.2 with⟨rfl,h0⟩|⟨g,U,W,rfl,h1,h2,h3,h4,h5,h6⟩
 ·have:l=[]:=Bo h0;subst this;exact BS.nil w
 ·refine⟨_,U,rfl,h3,⟨λ_=>⟨g,0,rfl,λj u hu k v Z=>?_⟩⟩⟩;cases k with
  | succ k=>simp[encB]at Z
  | zero=>
   simp only[encB,AQ,AI]at Z;subst Z;have H:(W.toList.take (l.length*1))[j]?=some (.int .u8 u.toNat):=by rw[h6,byV,Ao,hu];rfl
   rw[Bv]at H
   split at H
   ·rw[qa h2]
    simpa using H
   ·cases H
end
end V
structure LvlV(l:LB)(k:Nat):Prop where
 vec:VecOk (qf l k)
 n:vN (qf l k)=vNum l k
 m:vM (qf l k)=vNum l (k-1)
 last:0<vNum l k->bitN ((qf l k).drop 8) (vNum l k-1)=1
theorem LvlV.tvec(h:LvlV l k):tVec l k=true:=by
 unfold tVec;rw[h.vec.ok,At h.n,At h.m];rfl
theorem LvlV.rank(h:LvlV l k)(i:Nat)(hi:i<=vNum l k):qgf (qf l k) i=cnt ((qf l k).drop 8) i:=h.vec.rank i (by rw[h.n];exact hi)
theorem LvlV.lt(h:LvlV l k)(i:Nat)(hi:i<vNum l k):qgf (qf l k) i<vNum l (k-1):=by
 rw[h.rank i Oo,<-h.m,<-h.vec.ones,h.n];have e:vNum l k=vNum l k-1+1:=by omega
 have H:=h.last Oo;have U:cnt ((qf l k).drop 8) i<=cnt ((qf l k).drop 8) (vNum l k-1):=qkf Oo
 grind [cnt]
section
variable {l:LB} (hL:∀k,1<=k->k<=3->LvlV l k) {i:Nat} (hi:i<vNum l 3)
include hL hi
theorem qgs:∀j,j<=3->tUp l i j<vNum l (3-j)
 | 0,_=>hi
 | j+1,H=>by
  have h:=qgs j Oo;have:=(hL (3-j) Oo Oo).lt _ h
  grind [tUp]
theorem qae6:tOk l i=true:=by
 have h:=qgs hL hi;unfold tOk qjg;rw[At (h 0 Oo),At (h 1 Oo),At (h 2 Oo),At (h 3 Oo),(hL 3 Oo Oo).tvec,(hL 2 Oo Oo).tvec,(hL 1 Oo Oo).tvec];rfl
theorem qmw(Z:j<3)(h:tUp l (i+1) j=tUp l i j+1)(U:bitN ((qf l (3-j)).drop 8) (tUp l i j)=1):tUp l (i+1) (j+1)=tUp l i (j+1)+1:=by
 have W:=qgs hL hi j Oo;have H:=hL (3-j) Oo Oo;rw[tUp,tUp,h,H.rank _ Oo,H.rank _ Oo,cnt,U]
theorem qkv(Z:j<3)(h:tUp l (i+1) j=tUp l i j+1)(hb:bitN ((qf l (3-j)).drop 8) (tUp l i j)≠1):tUp l (i+1) (j+1)=tUp l i (j+1):=by
 have W:=qgs hL hi j Oo;have U:=hL (3-j) Oo Oo;have h0:=qc7 ((qf l (3-j)).drop 8) (tUp l i j);have H:bitN ((qf l (3-j)).drop 8) (tUp l i j)=0:=by omega
 rw[tUp,tUp,h,U.rank _ Oo,U.rank _ Oo,cnt,H];rfl
end
theorem qkw{H:Nat}(h:tUp l H j=tUp l i j):∀{m:Nat},j<=m->tUp l H m=tUp l i m:=by
 intro m U
 induction U<;>grind [tUp]
theorem qqu(l:LB):∀j,tUp l 0 j=0
 | 0=>rfl
 | j+1=>by rw[tUp,qqu l j,qgf,Ab (.inl rfl)]
structure DSt(m:LB)(i:Nat)(last:LB)(p:Nat):Prop where
 le:p<=(qe m).length
 st:∀j,i=j+1->blk (qe m) (q5 m (j/16)) (j%16)=(last,p,0)
theorem DSt.step{m:LB}{last:LB}{p:Nat}(h:DSt m i last p)(hp:i%16=0->q5 m (i/16)=p){first:Bool}(hf:first=decide (i%16=0))(he:(entG ((qe m).drop p) first last).2.2=0):DSt m (i+1) (entG ((qe m).drop p) first last).1 (p+(entG ((qe m).drop p) first last).2.1):=by
 have U:=(qbk he).2;have aa:=h.le;rw[zld]at U;refine⟨by omega,λj hj=>?_⟩;obtain rfl:j=i:=by omega
 have W:∀b x,entG ((qe m).drop p) b x=entG ((qe m).drop p) first last->qc1 (qe m) p b x=((entG ((qe m).drop p) first last).1,p+(entG ((qe m).drop p) first last).2.1,0):=λb x e=>by
  grind [qc1]
 by_cases Z:j%16=0
 ·rw[Z,hp Z];have H:first=true:=by simp_all
  subst H;exact W _ _ (by rfl)
 ·have H:first=false:=by simp_all
  subst H;obtain⟨k,rfl⟩:∃k,j=k+1:=⟨j-1,by omega⟩
  have hk:=h.st k rfl;have e1:(k+1)/16=k/16:=by omega
  have e2:(k+1)%16=k%16+1:=by omega
  grind [blk]
theorem DSt.get{m:LB}{last:LB}{p:Nat}(h:DSt m (i+1) last p)(hi:i<dN m):dGet m i=some last:=by
 have:=h.st i rfl
 grind [dGet]
def gL(d:LB):Nat->LB
 | 0=>[]
 | i+1=>if i%2048=0 then gL d i++fixL (cnt d i) 4 else gL d i
def sL(d:LB):Nat->LB
 | 0=>[]
 | i+1=>if i%256=0 then sL d i++fixL (cnt d i-cnt d (2048*(i/2048))) 2 else sL d i
def mL(d:LB):Nat->LB
 | 0=>[]
 | i+1=>if bitN d i=1/\cnt d i%512=0 then mL d i++fixL i 4 else mL d i
theorem qr1(d:LB)(i:Nat):(gL d i).length=4*upN i 2048:=by
 induction i<;>grind [gL,qv,upN]
theorem qyx(d:LB)(i:Nat):(sL d i).length=2*upN i 256:=by
 induction i<;>grind [sL,qv,upN]
theorem qabf(d:LB)(i:Nat):(mL d i).length=4*upN (cnt d i) 512:=by
 induction i<;>grind [mL,cnt,upN,qv,bitN]
theorem qahy(d:LB)(i j:Nat)(H:j<upN i 2048):((gL d i).drop (4*j)).take 4=fixL (cnt d (2048*j)) 4:=by
 induction i<;>grind [upN,qr1,gL,qv]
theorem qah3(d:LB)(i j:Nat)(H:j<upN i 256):((sL d i).drop (2*j)).take 2=fixL (cnt d (256*j)-cnt d (2048*(j/8))) 2:=by
 induction i<;>grind [upN,qyx,sL,List.drop_left,qv]
theorem qzl(d:LB)(a b:Nat):cnt d (a+b)<=cnt d a+b:=by
 induction b<;>grind [qc7,cnt]
def vD(l:LB):LB:=(l.drop 8).take (upN (vN l) 8)
theorem qxb(l:LB)(n:Nat)(H:n<=vN l):cnt (vD l) n=cnt (l.drop 8) n:=qxa _ _ _ (by unfold upN;omega)
theorem VecOk.of(Z:vOk l=true)(h1:cnt (vD l) (vN l)=vM l)(hd:l.drop (qx (vN l))=gL (vD l) (vN l)++(sL (vD l) (vN l)++mL (vD l) (vN l))):VecOk l:=by
 have hn:vN l<=67108864:=by
  grind [vOk]
 refine⟨Z,λj U=>?_,λj U=>?_,by grind [qxb]⟩
 ·have H:=qr1 (vD l) (vN l);rw[<-Am,hd,Cz Oo,C0 (by grind),qahy _ _ _ U,qfh]
  grind [upN,qnr,qxb]
 ·have H:=qr1 (vD l) (vN l);have W:=qyx (vD l) (vN l);have e:qa7 (vN l)+2*j=qx (vN l)+((gL (vD l) (vN l)).length+2*j):=by grind [qa7]
  have e2:∀A B:LB,(A++B).drop (A.length+2*j)=B.drop (2*j):=λA B=>by simp
  rw[e,<-Am,hd,e2,Cz Oo,C0 (by grind),qah3 _ _ _ U,qfh];have aa:256*j<=vN l:=by grind [upN]
  have hc:cnt (vD l) (256*j)<=cnt (vD l) (2048*(j/8))+2048:=by
   have:=qzl (vD l) (2048*(j/8)) (256*j-2048*(j/8));have e4:2048*(j/8)+(256*j-2048*(j/8))=256*j:=by omega
   grind
  grind [qxb]
theorem qf3(d:LB)(A:oA)(n c t:Nat)(w:DA)(hS:SlAt encB 1 w A d)(Z:d.length=n)(ht:t/8<d.length)(hd:d.length<=67108864):
  Gv DM 155 [.slice A n c,ii t] w λv w'=>v=.bool (decide (bitN d t=1))/\w'=w:=by
 have U:=q9 d[t/8];have H:d[t/8].toNat/2 ^ (t%8)<256:=CS (Cm _ _) U;have hb:d[t/8].toNat/2 ^ (t%8)%2 ^ 1=bitN d t:=by
  rw[bitN,Ag,zge ht];rfl
 have W:t/8<n:=Z ▸ ht;refine ze Tryz.func155 Tryz.ntmps155 ?_;refine zv ?_;refine ElemV.bs hS Z (t/8) Oo W ?_;intro eb eo hc;refine LoadV.of hc (zu ?_);refine V.Wit.shrN (t%8) Oo (by show t%8<8;omega) ?_;refine Wit.eq (qa1 (k:=.u8) (m:=d[t/8].toNat/2 ^ (t%8)) 1 rfl (qnj H) ⟨by omega,by omega⟩) ?_;rw[hb];(conv=>whnf);refine⟨Ad Value.bool ?_,rfl⟩;rw[AD];simp only[decide_eq_true_eq];omega
theorem qyq(n k:Nat)(w:DA)(hk:k<=4):
  Gv DM 154 [ii n,ii k] w λr w'=>w'.ownsRow w.heap.size 5 1 r k (byV (fixL n k))/\Ext w w':=by
 refine ze Tryz.func154 Tryz.ntmps154 ?_;refine qq (λx:Nat×oA×Nat=>[(0,ii n),(1,ii k),(5,.slice x.2.1 x.1 x.2.2),(6,ii x.1)])
  (λx Z=>x.1<=k/\Rw w Z (.slice x.2.1 x.1 x.2.2) 5 1 x.1 (byV (fixL n x.1)) []) (λx=>k-x.1) (0,none,0) fq ⟨by simp,Rw.nil (Mem.nil w)⟩ ?_
 rintro⟨i,A,c⟩ Z aa ⟨h1,H⟩;dsimp only at h1 H|-;(conv=>whnf);refine zC (λ_=>zu ?_) (λ_=>zu ?_)
 ·refine V.Wit.shrN (8*i) Oo (by show 8*i<64;omega) ?_;refine V.Wit.low8 ?_;refine NewV.rw H ?_;intro nb w4 U;refine AppV.one qge bytI bytZ Jk rfl (by decide +kernel) U rfl Oo ?_;intro B' d' w5 W;refine zu ?_;refine⟨(i+1,B',d'),fq,⟨by simp only;omega,?_⟩,by simp only;omega⟩;simp only[fixL,byV,AH,AB,B4];have e:(UInt8.ofNat (n/2 ^ (8*i)%256)).toNat=n/2 ^ (8*i)%256:=by simp
  rw[e];exact W
 ·obtain rfl:i=k:=by omega
  exact⟨H.own,H.mem.ext⟩
theorem qzn(d:LB)(A:oA)(l c n:Nat)(w:DA)(U:SlAt encB 1 w A d)(W:d.length=l)(hn:n<=8*d.length)(hb:n<=67108864)(hd:d.length<=67108864):
  Gv DM 365 [.slice A l c,ii n] w λv w'=>v=ii (cnt d n)/\w'=w:=by
 refine ze Tryz.func365 Tryz.ntmps365 ?_;refine qq (λi:Nat=>[(0,.slice A l c),(1,ii n),(5,ii (cnt d i)),(6,ii i)]) (λi w'=>i<=n/\w'=w) (λi=>n-i) 0 fq ⟨Af _,rfl⟩ ?_;rintro i w1 Z ⟨i1,rfl⟩;have hc:=qnr d i;have aa:=qc7 d i;have H:cnt d (i+1)=cnt d i+bitN d i:=rfl;(conv=>whnf);refine zC (λ_=>zw ?_) (λ_=>zw ?_)
 ·refine zcv (qf3 d A l c i _ U W Oo hd) ?_;rintro r w2 ⟨rfl,rfl⟩;(conv=>whnf);refine zC (λ_=>zu ?_) (λ_=>zu ?_)
  ·exact⟨i+1,⟨rfl,rfl,by rw[H];exact Ad (Value.int .i64) Oo,rfl,trivial⟩,⟨by omega,rfl⟩,by omega⟩
  ·exact⟨i+1,⟨rfl,rfl,by rw[H];exact Ad (Value.int .i64) Oo,rfl,trivial⟩,⟨by omega,rfl⟩,by omega⟩
 ·obtain rfl:i=n:=by omega
  exact⟨rfl,rfl⟩
theorem qu7(d:LB)(A:oA)(l c n:Nat)(w:DA)(hS:SlAt encB 1 w A d)(hl:d.length=l)(hn:n<=8*d.length)(hd:d.length<=67108864):
  Gv DM 364 [.slice A l c,ii n] w λv w'=>(∃b,v=.bool b/\(b=true↔¬ ∃t,n<=t/\t<8*d.length/\bitN d t=1))/\w'=w:=by
 refine ze Tryz.func364 Tryz.ntmps364 ?_;refine qq (λi:Nat=>[(0,.slice A l c),(5,ii i)]) (λi w'=>n<=i/\i<=8*d.length/\(∀t,n<=t->t<i->bitN d t≠1)/\w'=w) (λi=>8*d.length-i) n fq ⟨Ai _,hn,λt H W=>by omega,rfl⟩ ?_;rintro i w1 aa ⟨i0,i1,Z,rfl⟩;(conv=>whnf);refine zt ?_;refine zC (λ_=>zw ?_) (λ_=>zw ?_)
 ·refine zcv (qf3 d A l c i _ hS hl Oo hd) ?_;rintro r w2 ⟨rfl,rfl⟩
  by_cases U:bitN d i=1
  ·rw[At U];refine zu ?_;exact⟨⟨_,rfl,⟨λh=>(by cases h),λh=>absurd ⟨i,i0,by omega,U⟩ h⟩⟩,rfl⟩
  ·rw[Ax U];refine zu ?_;refine⟨i+1,fq,⟨by omega,by omega,λt H W=>?_,rfl⟩,by omega⟩
   by_cases e:t=i
   ·subst e;exact U
   ·exact Z t H Oo
 ·obtain rfl:i=8*d.length:=by omega
  exact⟨⟨_,rfl,⟨λ_=>by rintro⟨t,H,W,h3⟩;exact Z t H W h3,λ_=>rfl⟩⟩,rfl⟩
theorem qaia(l:LB):leN ((l.drop 0).take 4)=vN l:=rfl
theorem qc4(l:LB)(A:oA)(n c:Nat)(w:DA)(U:SlAt encB 1 w A l)(W:l.length=n)(h8:8<=l.length)(Z:l.length<=140737488355328):
  Gv DM 317 [.slice A n c] w λv w'=>v=.tuple #[ii (vN l),ii (vM l)]/\Ext w w':=by
 refine ze Tryz.func317 Tryz.ntmps317 ?_;refine zcv (qy4 l A n c 0 w U W Oo Z) ?_;rintro r w1 ⟨rfl,he⟩;rw[qaia];(conv=>whnf);refine zcv (qy4 l A n c 4 w1 (U.ext he) W Oo Z) ?_;rintro r w2 ⟨rfl,H⟩;(conv=>whnf);exact⟨rfl,he.trans H⟩
theorem qrj(l:LB)(A:oA)(n c:Nat)(w:DA)(H:SlAt encB 1 w A l)(U:l.length=n)(hc:n<=c)(h8:8<=l.length)(hv:vN l<=67108864)(hg:qx (vN l)<=l.length)(hl:l.length<=140737488355328):
  Gv DM 363 [.slice A n c] w λv w'=>(∃B d,v=.slice B (upN (vN l) 8) d/\SlAt encB 1 w' B (vD l))/\Ext w w':=by
 have hu:=qbd (vN l) 8 Od;have aa:qx (vN l)=8+upN (vN l) 8:=rfl;refine ze Tryz.func363 Tryz.ntmps363 ?_;refine zcv (qc4 l A n c w H U h8 hl) ?_;rintro r w1 ⟨rfl,W⟩;(conv=>whnf);refine zcv (qha (vN l) 8 w1 Oo Od Od) ?_;rintro r w2 ⟨rfl,rfl⟩;refine zu ?_;refine SliceV.bs (H.ext W) U 8 (8+upN (vN l) 8) c rfl (by show(8:Int)+_=_;omega) rfl Oo Oo Oo znr (λ_=>rfl) ?_;intro B Z;have e:8+upN (vN l) 8-8=upN (vN l) 8:=by omega
 rw[e]at Z|-;(conv=>whnf);exact⟨⟨B,_,rfl,Z⟩,W⟩
def qa3(d:LB)(n:Nat):LB:=fixL n 4++fixL (cnt d n) 4++d++gL d n++sL d n++mL d n
def ahN(d:LB)(i:Nat):Nat:=if i=0 then 0 else cnt d (2048*((i-1)/2048))
theorem qaa3(d:LB)(i:Nat)(h:i%2048=0):gL d (i+1)=gL d i++fixL (cnt d i) 4:=by rw[gL,Ab h]
theorem q3b(d:LB)(i:Nat)(h:i%2048≠0):gL d (i+1)=gL d i:=by rw[gL,Aa h]
theorem qyw(d:LB)(i:Nat)(h:i%256=0):sL d (i+1)=sL d i++fixL (cnt d i-cnt d (2048*(i/2048))) 2:=by rw[sL,Ab h]
theorem qaeu(d:LB)(i:Nat)(h:i%256≠0):sL d (i+1)=sL d i:=by rw[sL,Aa h]
theorem qn1(d:LB)(i:Nat)(h:bitN d i=1)(H:cnt d i%512=0):mL d (i+1)=mL d i++fixL i 4:=by rw[mL,Ab ⟨h,H⟩]
theorem qi4(d:LB)(i:Nat)(h:¬(bitN d i=1/\cnt d i%512=0)):mL d (i+1)=mL d i:=by rw[mL,Aa h]
theorem qafq(d:LB)(i:Nat)(h:i%2048=0):ahN d (i+1)=cnt d i:=by
 rw[ahN,Aa Oo];have e:2048*((i+1-1)/2048)=i:=by omega
 rw[e]
theorem q1u(d:LB)(i:Nat)(h:i%2048≠0):ahN d (i+1)=ahN d i:=by
 rw[ahN,ahN,Aa Oo,Aa Oo];have e:(i+1-1)/2048=(i-1)/2048:=by omega
 rw[e]
theorem qoq(d:LB)(i:Nat):ahN d (i+1)=cnt d (2048*(i/2048)):=by
 rw[ahN,Aa Oo];rfl
theorem qahs(d:LB)(i:Nat):ahN d i<=cnt d i:=by
 rw[ahN]
 split
 ·exact Af _
 ·exact qkf Oo
theorem V.AppV.rwB{e t:DD}{i:TypeInfo}{x m:LB}(ht:P.underlying t=some (.slice e))(hi:P.info? e=some i)(hz:i.zero=some z)(H:i.size=1)(aa:z.cells.size=1)(ad:i.bytes<=16)(h:Rw w0 w (.slice A x.length c) e 1 x.length (byV x) L)(hS:SlAt encB 1 w B m)(U:x.length+m.length<=8000000000000)(hk:∀W Z w',Rw w0 w' (.slice W (x++m).length Z) e 1 (x++m).length (byV (x++m)) L->K (.slice W (x++m).length Z) w'):AppV P #[t,t] ty (.slice A x.length c) (.slice B m.length d) w K:=by
 refine AppV.rw (news:=byV m) ht hi hz H aa Od h (by rw[q17,Bx]) (qw2 hS) (λu hu=>?_) (AE (BF U ad) Od) Oo ?_
 ·simp only[byV,AA]at hu;obtain⟨v,_,rfl⟩:=hu;rfl
 ·intro W Z w' hR;rw[<-zla]at hR|-;exact hk W Z w' (by rw[byV,AH];exact hR)
theorem qdu(n k:Nat)(w:DA)(H:k<=4):
  Gv DM 154 [ii n,ii k] w λr w'=>(∃A c,r=.slice A (fixL n k).length c/\SlAt encB 1 w' A (fixL n k))/\Ext w w':=by
 refine(qyq n k w H).mono ?_;rintro r w' ⟨U,W⟩;obtain⟨A,c,e,_,Z⟩:=qhz (l:=fixL n k) (by rw[qv];exact U);exact⟨⟨A,c,e,Z⟩,W⟩
theorem q1q(d:LB)(A:oA)(l c n:Nat)(w:DA)(hS:SlAt encB 1 w A d)(hl:d.length=l)(hn:n<=8*d.length)(hb:n<=67108864)(hd:d.length<=67108864):
  Gv DM 89 [.slice A l c,ii n] w λv w'=>(∃B cb,v=.slice B (qa3 d n).length cb/\SlAt encB 1 w' B (qa3 d n))/\Ext w w':=by
 refine ze Tryz.func89 Tryz.ntmps89 ?_;refine qq (λx:Nat×(oA×Nat)×(oA×Nat)×(oA×Nat)=>[(0,.slice A l c),(1,ii n),(5,.slice x.2.1.1 (gL d x.1).length x.2.1.2),(6,.slice x.2.2.1.1 (sL d x.1).length x.2.2.1.2),(7,.slice x.2.2.2.1 (mL d x.1).length x.2.2.2.2),(8,ii (cnt d x.1)),(9,ii (ahN d x.1)),(10,ii x.1)])
  (λx w'=>x.1<=n/\V.Tri 5 w w' (.slice x.2.1.1 (gL d x.1).length x.2.1.2) (.slice x.2.2.1.1 (sL d x.1).length x.2.2.1.2) (.slice x.2.2.2.1 (mL d x.1).length x.2.2.2.2) (gL d x.1) (sL d x.1) (mL d x.1)) (λx=>n-x.1) (0,(none,0),(none,0),(none,0))
  fq ⟨Af _,Tri.nil w⟩ ?_
 rintro⟨i,⟨GA,gc⟩,⟨SA,sc⟩,⟨MA,mc⟩⟩ w1 ak ⟨i1,H⟩;dsimp only at i1 H|-;have hc:=qnr d i;have al:=qahs d i;have am:=qr1 d i;have an:=qyx d i;have ao:=qabf d i;have aq:=qbd i 2048 Od;have ar:=qbd i 256 Od;have au:=qbd (cnt d i) 512 Od;have hs:cnt d (i+1)=cnt d i+bitN d i:=rfl;have av:=qc7 d i;conv=>whnf
 (repeat'(first|refine zp ?_|refine zC (λ_=>zw ?_) (λ_=>zw ?_)))
 ·have U:ahN d (i+1)=cnt d i:=qafq d i Oo;refine zcv (qdu (cnt d i) 4 w1 Od) ?_;rintro r w2 ⟨⟨B,cb,rfl,ai⟩,he⟩;have H:=H.call he;(conv=>whnf);refine V.Tri.app H qge bytI bytZ Jk rfl (by decide +kernel) ai (by rw[qv];omega) ?_;intro GA gc w3 H;have e1:(gL d i).length+(fixL (cnt d i) 4).length=(gL d (i+1)).length:=by rw[qaa3 d i Oo,zla]
  rw[e1]at H|-;rw[<-qaa3 d i Oo]at H;refine zu ?_;have es:((cnt d i:Nat):Int)-((cnt d i:Nat):Int)=((cnt d i-ahN d (i+1):Nat):Int):=by rw[U];omega
  rw[es];refine zcv (qdu (cnt d i-ahN d (i+1)) 2 _ Od) ?_;rintro r w4 ⟨⟨B2,ag,rfl,ad⟩,ae⟩;have H:=(H.call ae).rot;(conv=>whnf);refine V.Tri.app H qge bytI bytZ Jk rfl (by decide +kernel) ad (by rw[qv];omega) ?_;intro SA sc w5 H;have e2:(sL d i).length+(fixL (cnt d i-ahN d (i+1)) 2).length=(sL d (i+1)).length:=by rw[qyw d i Oo,zla,qoq]
  rw[e2]at H|-;rw[qoq,<-qyw d i Oo]at H;have H:=H.rot.rot;(conv=>whnf);refine zcv (qf3 d A l c i _ (hS.ext H.ext) hl Oo hd) ?_;rintro r w6 ⟨rfl,rfl⟩;conv=>whnf
  (repeat'(first|refine zp ?_|refine zC (λ_=>zw ?_) (λ_=>zw ?_)))
  ·have W:((cnt d i:Nat):Int)+1=((cnt d (i+1):Nat):Int):=by rw[hs];omega
   refine zcv (qdu i 4 _ Od) ?_;rintro r w7 ⟨⟨B3,ah,rfl,aa⟩,af⟩;have H:=(H.call af).rot.rot;(conv=>whnf);refine V.Tri.app H qge bytI bytZ Jk rfl (by decide +kernel) aa (by rw[qv];omega) ?_;intro MA mc w8 H;have e4:(mL d i).length+(fixL i 4).length=(mL d (i+1)).length:=by rw[qn1 d i ‹_› Oo,zla]
   rw[e4]at H|-;rw[<-qn1 d i ‹_› Oo]at H;have H:=H.rot;refine zu ?_;exact⟨(i+1,(GA,gc),(SA,sc),(MA,mc)),⟨rfl,rfl,rfl,rfl,rfl,by rw[<-W];rfl,by rw[U];rfl,rfl,trivial⟩,⟨by simp only;omega,H⟩,by simp only;omega⟩
  ·have W:((cnt d i:Nat):Int)+1=((cnt d (i+1):Nat):Int):=by rw[hs];omega
   rw[<-qi4 d i (λh=>by omega)]at H|-;exact⟨(i+1,(GA,gc),(SA,sc),(MA,mc)),⟨rfl,rfl,rfl,rfl,rfl,by rw[<-W];rfl,by rw[U];rfl,rfl,trivial⟩,⟨by simp only;omega,H⟩,by simp only;omega⟩
  ·have W:cnt d i=cnt d (i+1):=by rw[hs];omega
   rw[<-qi4 d i (λh=>by omega)]at H|-;rw[W];exact⟨(i+1,(GA,gc),(SA,sc),(MA,mc)),⟨rfl,rfl,rfl,rfl,rfl,rfl,by rw[U,W];rfl,rfl,trivial⟩,⟨by simp only;omega,H⟩,by simp only;omega⟩
 ·have U:ahN d (i+1)=ahN d i:=q1u d i Oo;rw[<-q3b d i Oo]at H|-;have es:((cnt d i:Nat):Int)-((ahN d i:Nat):Int)=((cnt d i-ahN d (i+1):Nat):Int):=by rw[U];omega
  rw[es];refine zcv (qdu (cnt d i-ahN d (i+1)) 2 _ Od) ?_;rintro r w4 ⟨⟨B2,ag,rfl,ad⟩,ae⟩;have H:=(H.call ae).rot;(conv=>whnf);refine V.Tri.app H qge bytI bytZ Jk rfl (by decide +kernel) ad (by rw[qv];omega) ?_;intro SA sc w5 H;have e2:(sL d i).length+(fixL (cnt d i-ahN d (i+1)) 2).length=(sL d (i+1)).length:=by rw[qyw d i Oo,zla,qoq]
  rw[e2]at H|-;rw[qoq,<-qyw d i Oo]at H;have H:=H.rot.rot;(conv=>whnf);refine zcv (qf3 d A l c i _ (hS.ext H.ext) hl Oo hd) ?_;rintro r w6 ⟨rfl,rfl⟩;conv=>whnf
  (repeat'(first|refine zp ?_|refine zC (λ_=>zw ?_) (λ_=>zw ?_)))
  ·have W:((cnt d i:Nat):Int)+1=((cnt d (i+1):Nat):Int):=by rw[hs];omega
   refine zcv (qdu i 4 _ Od) ?_;rintro r w7 ⟨⟨B3,ah,rfl,aa⟩,af⟩;have H:=(H.call af).rot.rot;(conv=>whnf);refine V.Tri.app H qge bytI bytZ Jk rfl (by decide +kernel) aa (by rw[qv];omega) ?_;intro MA mc w8 H;have e4:(mL d i).length+(fixL i 4).length=(mL d (i+1)).length:=by rw[qn1 d i ‹_› Oo,zla]
   rw[e4]at H|-;rw[<-qn1 d i ‹_› Oo]at H;have H:=H.rot;refine zu ?_;exact⟨(i+1,(GA,gc),(SA,sc),(MA,mc)),⟨rfl,rfl,rfl,rfl,rfl,by rw[<-W];rfl,by rw[U];rfl,rfl,trivial⟩,⟨by simp only;omega,H⟩,by simp only;omega⟩
  ·have W:((cnt d i:Nat):Int)+1=((cnt d (i+1):Nat):Int):=by rw[hs];omega
   rw[<-qi4 d i (λh=>by omega)]at H|-;exact⟨(i+1,(GA,gc),(SA,sc),(MA,mc)),⟨rfl,rfl,rfl,rfl,rfl,by rw[<-W];rfl,by rw[U];rfl,rfl,trivial⟩,⟨by simp only;omega,H⟩,by simp only;omega⟩
  ·have W:cnt d i=cnt d (i+1):=by rw[hs];omega
   rw[<-qi4 d i (λh=>by omega)]at H|-;rw[W];exact⟨(i+1,(GA,gc),(SA,sc),(MA,mc)),⟨rfl,rfl,rfl,rfl,rfl,rfl,by rw[U];rfl,rfl,trivial⟩,⟨by simp only;omega,H⟩,by simp only;omega⟩
 ·have U:ahN d (i+1)=ahN d i:=q1u d i Oo;rw[<-q3b d i Oo,<-qaeu d i Oo]at H|-;refine zcv (qf3 d A l c i _ (hS.ext H.ext) hl Oo hd) ?_;rintro r w6 ⟨rfl,rfl⟩;conv=>whnf
  (repeat'(first|refine zp ?_|refine zC (λ_=>zw ?_) (λ_=>zw ?_)))
  ·have W:((cnt d i:Nat):Int)+1=((cnt d (i+1):Nat):Int):=by rw[hs];omega
   refine zcv (qdu i 4 _ Od) ?_;rintro r w7 ⟨⟨B3,ah,rfl,aa⟩,af⟩;have H:=(H.call af).rot.rot;(conv=>whnf);refine V.Tri.app H qge bytI bytZ Jk rfl (by decide +kernel) aa (by rw[qv];omega) ?_;intro MA mc w8 H;have e4:(mL d i).length+(fixL i 4).length=(mL d (i+1)).length:=by rw[qn1 d i ‹_› Oo,zla]
   rw[e4]at H|-;rw[<-qn1 d i ‹_› Oo]at H;have H:=H.rot;refine zu ?_;exact⟨(i+1,(GA,gc),(SA,sc),(MA,mc)),⟨rfl,rfl,rfl,rfl,rfl,by rw[<-W];rfl,by rw[U];rfl,rfl,trivial⟩,⟨by simp only;omega,H⟩,by simp only;omega⟩
  ·have W:((cnt d i:Nat):Int)+1=((cnt d (i+1):Nat):Int):=by rw[hs];omega
   rw[<-qi4 d i (λh=>by omega)]at H|-;exact⟨(i+1,(GA,gc),(SA,sc),(MA,mc)),⟨rfl,rfl,rfl,rfl,rfl,by rw[<-W];rfl,by rw[U];rfl,rfl,trivial⟩,⟨by simp only;omega,H⟩,by simp only;omega⟩
  ·have W:cnt d i=cnt d (i+1):=by rw[hs];omega
   rw[<-qi4 d i (λh=>by omega)]at H|-;rw[W];exact⟨(i+1,(GA,gc),(SA,sc),(MA,mc)),⟨rfl,rfl,rfl,rfl,rfl,rfl,by rw[U];rfl,rfl,trivial⟩,⟨by simp only;omega,H⟩,by simp only;omega⟩
 ·obtain rfl:i=n:=by omega
  have hG:SlAt encB 1 w1 GA (gL d i):=by
   obtain⟨_,_,e,_,h⟩:=qhz H.oa;cases e;exact h
  have hH:SlAt encB 1 w1 SA (sL d i):=by
   obtain⟨_,_,e,_,h⟩:=qhz H.ob;cases e;exact h
  have hI:SlAt encB 1 w1 MA (mL d i):=by
   obtain⟨_,_,e,_,h⟩:=qhz H.oc;cases e;exact h
  refine zcv (qyq i 4 w1 Od) ?_;rintro r w2 ⟨ho,he⟩;obtain⟨B,cb,rfl⟩:=qlz ho;have Z:Rw w1 w2 (.slice B (fixL i 4).length cb) 5 1 (fixL i 4).length (byV (fixL i 4)) []:=⟨⟨he,by simp,by simp⟩,ho,by simp⟩
  (conv=>whnf);refine zcv (qdu (cnt d i) 4 w2 Od) ?_;rintro r w3 ⟨⟨B2,ag,rfl,aj⟩,ae⟩;have Z:=Z.call ae;(conv=>whnf);refine AppV.rwB (x:=fixL i 4) qge bytI bytZ Jk rfl (by decide +kernel) Z aj (by rw[qv,qv];omega) ?_;intro C1 c1 w4 Z;(conv=>whnf);subst hl;refine AppV.rwB (x:=fixL i 4++fixL (cnt d i) 4) qge bytI bytZ Jk rfl (by decide +kernel) Z (hS.ext (H.ext.trans Z.mem.ext)) (by simp only[zla,qv];omega) ?_;intro C2 c2 w5 Z;(conv=>whnf);refine AppV.rwB (x:=fixL i 4++fixL (cnt d i) 4++d) qge bytI bytZ Jk rfl (by decide +kernel) Z (hG.ext Z.mem.ext) (by simp only[zla,qv];omega) ?_;intro C3 c3 w6 Z;(conv=>whnf);refine AppV.rwB (x:=fixL i 4++fixL (cnt d i) 4++d++gL d i) qge bytI bytZ Jk rfl (by decide +kernel) Z (hH.ext Z.mem.ext) (by simp only[zla,qv];omega) ?_;intro C4 c4 w7 Z;(conv=>whnf);refine AppV.rwB (x:=fixL i 4++fixL (cnt d i) 4++d++gL d i++sL d i) qge bytI bytZ Jk rfl (by decide +kernel) Z (hI.ext Z.mem.ext) (by simp only[zla,qv];omega) ?_;intro C5 c5 w8 Z;(conv=>whnf);obtain⟨_,_,e,_,h⟩:=qhz Z.own;cases e;exact⟨⟨C5,c5,rfl,h⟩,H.ext.trans Z.mem.ext⟩
def PadB(d:LB)(n:Nat):Prop:=∃t,n<=t/\t<8*d.length/\bitN d t=1
def qf1(n i:Nat):Nat:=
 if i<qa7 n then qx n+(i-qx n)/4*4 else if i<qcn n then qa7 n+(i-qa7 n)/2*2 else qcn n+(i-qcn n)/4*4
def spF(l:LB)(t:Nat):Nat×Nat:=
 if l[qx (vN l)+t]?=(qa3 (vD l) (vN l))[qx (vN l)+t]? then(0,0)else(qf1 (vN l) (qx (vN l)+t),20)
open Classical in
noncomputable def voE(l:LB):Nat×Nat:=
 if PadB (vD l) (vN l)then(7+upN (vN l) 8,12)else if cnt (vD l) (vN l)≠vM l then(4,20)else errF (spF l) (qax (vN l) (vM l)-qx (vN l))
theorem qwg(h:PadB (vD l) (vN l)):voE l=(7+upN (vN l) 8,12):=by rw[voE,Ab h]
theorem qwf(h:¬PadB (vD l) (vN l))(H:cnt (vD l) (vN l)≠vM l):voE l=(4,20):=by grind [voE]
theorem qahk(h:¬PadB (vD l) (vN l))(Z:cnt (vD l) (vN l)=vM l)(hi:qx (vN l)<=i)(H:i<qax (vN l) (vM l))(hj:∀j,qx (vN l)<=j->j<i->l[j]?=(qa3 (vD l) (vN l))[j]?)(U:l[i]?≠(qa3 (vD l) (vN l))[i]?):voE l=(qf1 (vN l) i,20):=by
 obtain⟨t,rfl⟩:∃t,i=qx (vN l)+t:=⟨i-qx (vN l),by omega⟩
 have W:spF l t=(qf1 (vN l) (qx (vN l)+t),20):=by grind [spF]
 rw[voE,Aa h,Aa Oo,qaz (k:=t) (λj h3=>by grind [spF]) Oo (by simp_all),W]
theorem q69(h:¬PadB (vD l) (vN l))(H:cnt (vD l) (vN l)=vM l)(U:∀j,qx (vN l)<=j->j<qax (vN l) (vM l)->l[j]?=(qa3 (vD l) (vN l))[j]?):voE l=(0,0):=by
 have W:∀k,k<qax (vN l) (vM l)-qx (vN l)->spF l k=(0,0):=λk Z=>by grind [spF]
 rw[voE,Aa h,Aa Oo];have:∀n,n<=qax (vN l) (vM l)-qx (vN l)->errF (spF l) n=(0,0):=by
  intro n hn
  induction n<;>grind [errF]
 simp_all
theorem qk5(h:(voE l).2=0):¬PadB (vD l) (vN l)/\cnt (vD l) (vN l)=vM l/\∀j,qx (vN l)<=j->j<qax (vN l) (vM l)->l[j]?=(qa3 (vD l) (vN l))[j]?:=by
 by_cases H:PadB (vD l) (vN l)
 ·grind [qwg]
 by_cases U:cnt (vD l) (vN l)=vM l
 ·refine⟨H,U,λj Z W=>?_⟩;rw[voE,Aa H,Aa Oo]at h;have h3:=qas h (j-qx (vN l)) Oo
  grind [spF]
 grind [qwf]
theorem qahj(l:LB):(voE l).1<=qax (vN l) (vM l)+8:=by
 have U:qax (vN l) (vM l)=qx (vN l)+4*upN (vN l) 2048+2*upN (vN l) 256+4*upN (vM l) 512:=rfl;have W:qx (vN l)=8+upN (vN l) 8:=rfl
 by_cases H:PadB (vD l) (vN l)
 ·grind [qwg]
 by_cases Z:cnt (vD l) (vN l)=vM l
 ·rw[voE,Aa H,Aa Oo];have:∀n,n<=qax (vN l) (vM l)-qx (vN l)->(errF (spF l) n).1<=qax (vN l) (vM l):=by
   intro n hn
   induction n<;>grind [errF,spF,qf1]
  grind
 grind [qwf]
def fltV(a e:Int):DF:=.agg #[ii a,ii e]
def qahh(l:LB):Prop:=8<=l.length/\vN l<=67108864/\vM l<=vN l
def HdR(l:LB)(v:DF):Prop:=(qahh l/\v=fltV 0 0)\/(¬qahh l/\∃a e:Int,e≠0/\0<=a/\a<=1099511627776/\v=fltV a e)
theorem q3n(l:LB)(A:oA)(n c:Nat)(w:DA)(hS:SlAt encB 1 w A l)(hn:l.length=n)(hl:l.length<=140737488355328):
  Gv DM 362 [.slice A n c] w λv w'=>HdR l v/\Ext w w':=by
 refine ze Tryz.func362 Tryz.ntmps362 ?_;refine znm (Mem.nil w) ?_;intro b W H;have H:Mem w W [(b,.cells #[ii 0,ii 0] 434)]:=H;(conv=>whnf);refine zC (λ_=>zw ?_) (λ_=>zw ?_)
 ·refine StoreA.all H (i:=0) rfl rfl (by intro v Z;simp at Z;rcases Z with rfl|rfl<;>rfl) λU H=>zw ?_;refine qd (R:=λv w'=>HdR l v/\Ext w w') (zw ?_);refine zl H 0 ?_;exact⟨.inr ⟨λh=>by have:=h.1;omega,_,_,by decide,by omega,by omega,rfl⟩,H.ext⟩
 have h8:8<=l.length:=by omega
 have hN:=qap l 4 Oo;have hM:=qap (l.drop 4) 4 (by rw[zld];omega);refine zcv (qc4 l A n c W (hS.ext H.ext) hn h8 hl) ?_;rintro r U ⟨rfl,he⟩;have H:=H.call he;conv=>whnf
 (repeat' refine zC (λ_=>zw ?_) (λ_=>zw ?_))
 ·refine StoreA.all H (i:=0) rfl rfl Od λU H=>zw ?_;refine qd (R:=λv w'=>HdR l v/\Ext w w') (zw ?_);refine zl H 0 ?_;exact⟨.inr ⟨λh=>by have:=h.2.1;omega,_,_,by decide,by omega,by omega,rfl⟩,H.ext⟩
 ·refine StoreA.all H (i:=0) rfl rfl Od λU H=>zw ?_;refine qd (R:=λv w'=>HdR l v/\Ext w w') (zw ?_);refine zl H 0 ?_;exact⟨.inr ⟨λh=>by have:=h.2.2;omega,_,_,by decide,by omega,by omega,rfl⟩,H.ext⟩
 ·refine StoreA.all H (i:=0) rfl rfl Od λU H=>zw ?_;refine qd (R:=λv w'=>HdR l v/\Ext w w') (zw ?_);refine zl H 0 ?_;exact⟨.inl ⟨⟨h8,by omega,by omega⟩,rfl⟩,H.ext⟩
def VoR(l:LB)(v:DF):Prop:=v=fltV (voE l).1 (voE l).2
theorem VoR.mk{e:Nat}{x y:Int}(h:voE l=(a,e))(H:x=a)(U:y=e):VoR l (.agg #[ii x,ii y]):=by
 subst H U;rw[VoR,h];rfl
theorem qej(d:LB)(n:Nat):(qa3 d n).length=8+d.length+4*upN n 2048+2*upN n 256+4*upN (cnt d n) 512:=by
 simp only[qa3,zla,qv,qr1,qyx,qabf]
theorem qon(d:LB)(n:Nat):(qa3 d n).drop (8+d.length)=gL d n++(sL d n++mL d n):=by
 have e:qa3 d n=(fixL n 4++fixL (cnt d n) 4++d)++(gL d n++(sL d n++mL d n)):=by simp only[qa3,Az]
 have H:8+d.length=(fixL n 4++fixL (cnt d n) 4++d).length:=by simp only[zla,qv]
 rw[e,H,Dx]
theorem q2t{m:LB}(H:l.length=m.length)(h:∀j,a<=j->j<l.length->l[j]?=m[j]?):l.drop a=m.drop a:=by
 apply Bj;intro i;rw[BZ,BZ]
 by_cases hi:a+i<l.length
 ·exact h (a+i) Oo hi
 ·rw[AY Oo,AY Oo]
theorem VecOk.voE{l:LB}(hv:vOk l=true)(h:(voE l).2=0):VecOk l:=by
 obtain⟨_,h2,h3⟩:=qk5 h;simp only[vOk,AF,decide_eq_true_eq]at hv;have aa:qax (vN l) (vM l)=qx (vN l)+4*upN (vN l) 2048+2*upN (vN l) 256+4*upN (vM l) 512:=rfl;have W:qx (vN l)=8+upN (vN l) 8:=rfl;have H:(vD l).length=upN (vN l) 8:=by rw[vD,Ar,zld];omega
 have Z:=qej (vD l) (vN l);have U:l.length=(qa3 (vD l) (vN l)).length:=by rw[Z,h2,H];omega
 refine VecOk.of (by simp only[vOk,AF,decide_eq_true_eq];exact hv) h2 ?_;rw[<-qon,H,<-W];exact q2t U λj h4 h5=>h3 j Oo Oo
theorem q1p(l:LB)(A:oA)(n c:Nat)(w:DA)(hS:SlAt encB 1 w A l)(hn:l.length=n)(hc:n<=c)(hl:l.length<=67108864)(U:vOk l=true):
  Gv DM 318 [.slice A n c] w λv w'=>VoR l v/\Ext w w':=by
 refine ze Tryz.func318 Tryz.ntmps318 ?_;refine znm (Mem.nil w) ?_;intro b w1 H;have H:Mem w w1 [(b,.cells #[ii 0,ii 0] 434)]:=H;(conv=>whnf);refine zcv (q3n l A n c w1 (hS.ext H.ext) hn Oo) ?_;rintro r w2 ⟨⟨⟨h8,hN,hM⟩,rfl⟩|⟨al,_,_,_,_,_,rfl⟩,he⟩
 case inr=>
  simp only[vOk,AF,decide_eq_true_eq]at U;exact absurd ⟨U.1.1.1,U.1.1.2,U.1.2⟩ al
 have H:=H.call he;(conv=>whnf);refine znm H ?_;intro fb w3 H;have H:Mem w w3 [(fb,.cells #[ii 0,ii 0] 434),(b,.cells #[ii 0,ii 0] 434)]:=H;(conv=>whnf);refine StoreA.all H (i:=0) rfl rfl Od λw4 H=>zw ?_;refine LoadV.mem (i:=0) Oa rfl rfl (zw ?_);refine zt ?_;have H:=H.sub (Ak ..);refine zcv (qc4 l A n c w4 (hS.ext H.ext) hn h8 Oo) ?_;rintro r w5 ⟨rfl,am⟩;have H:=H.call am;(conv=>whnf);refine zcv (qi9 (vN l) (vM l) w5 hN hM) ?_;rintro r w6 ⟨rfl,an⟩;have H:=H.call an;have aw:l.length=qax (vN l) (vM l):=by
  simp only[vOk,AF,decide_eq_true_eq]at U;exact U.2
 refine zu ?_;have ao:qx (vN l)<=l.length:=by
  have:qax (vN l) (vM l)=qx (vN l)+4*upN (vN l) 2048+2*upN (vN l) 256+4*upN (vM l) 512:=rfl;omega
 have ax:qx (vN l)=8+upN (vN l) 8:=rfl;have aa:(vD l).length=upN (vN l) 8:=by rw[vD,Ar,zld];omega
 have ae:vN l<=8*(vD l).length:=by rw[aa];unfold upN;omega
 refine zcv (qrj l A n c w6 (hS.ext H.ext) hn hc h8 hN ao Oo) ?_;rintro r w7 ⟨⟨B,d,rfl,hD⟩,aq⟩;have H:=H.call aq;(conv=>whnf);refine zcv (qu7 (vD l) B _ d (vN l) w7 hD aa ae Oo) ?_;rintro r w8 ⟨⟨pb,rfl,Z⟩,rfl⟩;have Z:pb=true↔¬PadB (vD l) (vN l):=Z;(conv=>whnf);cases pb
 ·have W:PadB (vD l) (vN l):=Aw λh=>by have:=Z.2 h;cases this
  clear Z;refine zv ?_;refine StoreA.all H (i:=0) rfl rfl (by intro v U;simp at U;rcases U with rfl|rfl<;>rfl) λw9 H=>zw ?_;refine qd (R:=λv w'=>VoR l v/\Ext w w') (zw ?_);refine zl H 0 ?_;exact⟨.mk (qwg W) Oo rfl,H.ext⟩
 have W:¬PadB (vD l) (vN l):=Z.1 rfl;clear Z;refine zv ?_;refine zcv (qzn (vD l) B _ d (vN l) _ hD aa ae hN Oo) ?_;rintro r w8 ⟨rfl,rfl⟩;(conv=>whnf);refine zC (λ_=>zw ?_) (λ_=>zw ?_)
 ·refine StoreA.all H (i:=0) rfl rfl (by intro v U;simp at U;rcases U with rfl|rfl<;>rfl) λw9 H=>zw ?_;refine qd (R:=λv w'=>VoR l v/\Ext w w') (zw ?_);refine zl H 0 ?_;exact⟨.mk (qwf W Oo) rfl rfl,H.ext⟩
 have af:cnt (vD l) (vN l)=vM l:=by omega
 have u1:=qbd (vN l) 2048 Od;have u2:=qbd (vN l) 256 Od;have u3:=qbd (vN l) 8 Od;have u4:=qbd (vM l) 512 Od;have ay:qax (vN l) (vM l)=qx (vN l)+4*upN (vN l) 2048+2*upN (vN l) 256+4*upN (vM l) 512:=rfl;refine zcv (q1q (vD l) B _ d (vN l) _ hD aa ae hN Oo) ?_;rintro r az ⟨⟨C,cc,rfl,hW⟩,ai⟩;have H:=H.call ai;refine zu ?_;refine zcv (qha (vN l) 2048 _ Oo Od Od) ?_;rintro r ag ⟨rfl,rfl⟩;refine zu ?_;refine zcv (qha (vN l) 256 _ Oo Od Od) ?_;rintro r ag ⟨rfl,rfl⟩;refine zu ?_;have aj:=qej (vD l) (vN l);rw[af,aa]at aj;obtain⟨wt,ad⟩:∃wt,wt=qa3 (vD l) (vN l):=⟨_,rfl⟩
 rw[<-ad]at aj hW|-;obtain⟨ak,av⟩:∃ak:DA,ak=ag:=⟨_,rfl⟩
 have ah:∀i,8+upN (vN l) 8<=i->i<qax (vN l) (vM l)->(∀j,8+upN (vN l) 8<=j->j<i->l[j]?=wt[j]?)->(h1:i<l.length)->(h2:i<wt.length)->l[i].toNat≠wt[i].toNat->voE l=(qf1 (vN l) i,20):=λi a1 a2 a3 a4 a5 a6=>by
  refine qahk W af a1 a2 (λj b1 b2=>by rw[<-ad];exact a3 j b1 b2) ?_;rw[<-ad,zge a4,zge a5];intro h;exact a6 (Ad UInt8.toNat (AR h))
 have a0:qa7 (vN l)=8+upN (vN l) 8+4*upN (vN l) 2048:=rfl;have a7:qcn (vN l)=8+upN (vN l) 8+4*upN (vN l) 2048+2*upN (vN l) 256:=rfl;refine qq (λi:Nat=>[(0,.slice A n c),(2,pp b),(6,ii (qax (vN l) (vM l))),(9,.slice C wt.length cc),(10,ii (8+upN (vN l) 8:Nat)),(11,ii (8+upN (vN l) 8+4*upN (vN l) 2048:Nat)),(12,ii (8+upN (vN l) 8+4*upN (vN l) 2048+2*upN (vN l) 256:Nat)),(13,ii i)])
  (λi w'=>8+upN (vN l) 8<=i/\i<=qax (vN l) (vM l)/\(∀j,8+upN (vN l) 8<=j->j<i->l[j]?=wt[j]?)/\Ext ag w'/\Mem w w' [(b,.cells #[ii 0,ii 0] 434)]) (λi=>qax (vN l) (vM l)-i) (8+upN (vN l) 8)
  ⟨rfl,rfl,rfl,rfl,by exact Ad (Value.int .i64) Oo,by exact Ad (Value.int .i64) Oo,by exact Ad (Value.int .i64) Oo,by exact Ad (Value.int .i64) Oo,trivial⟩ ⟨Ai _,by omega,λj h1 h2=>by omega,xr,H⟩ ?_
 clear H;rintro i a8 a9 ⟨i1,i2,hj,hx,H⟩;(conv=>whnf);refine zC (λ_=>zu ?_) (λ_=>zu ?_)
 ·refine zy ?_;have H:=H.drew;have hx:=hx.drew;refine zv ?_;refine ElemV.bs (hS.ext H.ext) hn i rfl Oo ?_;intro eb eo ar;refine zu ?_;refine LoadV.of ar (zu ?_);refine ElemV.bs (hW.ext hx) rfl i rfl Oo ?_;intro ba bb au;refine zu ?_;refine LoadV.of au (zw ?_)
  (repeat'(first|refine zp ?_|refine zC (λ_=>zw ?_) (λ_=>zw ?_)))
  ·refine⟨i+1,fq,⟨by omega,by omega,λj h1 h2=>?_,hx,H⟩,by omega⟩
   by_cases ej:j=i
   ·subst ej;rw[zge Oo,zge Oo];exact Ad some (BG.1 Oo)
   ·exact hj j h1 Oo
  ·refine StoreA.all H (i:=0) rfl rfl (by intro v U;simp at U;rcases U with rfl|rfl<;>rfl) λw9 H=>zw ?_;refine qd (R:=λv w'=>VoR l v/\Ext w w') (zw ?_);refine zl H 0 ?_;refine⟨.mk (ah i Oo Oo hj Oo Oo Oo) ?_ rfl,H.ext⟩;show _=((qf1 _ _:Nat):Int);unfold qf1;rw[Ab Oo];omega
  ·refine StoreA.all H (i:=0) rfl rfl (by intro v U;simp at U;rcases U with rfl|rfl<;>rfl) λw9 H=>zw ?_;refine qd (R:=λv w'=>VoR l v/\Ext w w') (zw ?_);refine zl H 0 ?_;refine⟨.mk (ah i Oo Oo hj Oo Oo Oo) ?_ rfl,H.ext⟩;show _=((qf1 _ _:Nat):Int);unfold qf1;rw[Aa Oo,Ab Oo];omega
  ·refine StoreA.all H (i:=0) rfl rfl (by intro v U;simp at U;rcases U with rfl|rfl<;>rfl) λw9 H=>zw ?_;refine qd (R:=λv w'=>VoR l v/\Ext w w') (zw ?_);refine zl H 0 ?_;refine⟨.mk (ah i Oo Oo hj Oo Oo Oo) ?_ rfl,H.ext⟩;show _=((qf1 _ _:Nat):Int);unfold qf1;rw[Aa Oo,Aa Oo];omega
 ·obtain rfl:i=qax (vN l) (vM l):=by omega
  refine StoreA.all H (i:=0) rfl rfl Od λw9 H=>zw ?_;refine qd (R:=λv w'=>VoR l v/\Ext w w') (zw ?_);refine zl H 0 ?_;refine⟨.mk (q69 W af λj h1 h2=>?_) rfl rfl,H.ext⟩;rw[<-ad];exact hj j Oo h2
def inF(F:Nat->Int):Nat->DF:=λj=>ii (F j)
def updI(F:Nat->Int)(i:Nat)(v:Int):Nat->Int:=λj=>if j=i then v else F j
theorem qck(F:Nat->Int)(i:Nat)(v:Int):updI F i v i=v:=by simp[updI]
theorem qao(F:Nat->Int)(i j:Nat)(v:Int)(h:j≠i):updI F i v j=F j:=by simp[updI,h]
theorem q64(F:Nat->Int)(i:Nat)(v:Int):updF (inF F) i (ii v)=inF (updI F i v):=by
 funext j
 by_cases h:j=i
 ·simp[updF,updI,inF,h]
 ·simp[updF,updI,inF,h]
theorem V.LoadV.fi{n:Nat}{F:Nat->Int}{t:DD}{x:Int}{K:DF->Prop}(h:Mem w0 w L)(hi:L[i]?=some (b,.cells (fnA n (inF F)) t))(j:Nat)(e:off=j)(H:j<n)(U:F j=x)(W:K (ii x)):LoadV w b off K:=
 LoadV.fn h hi j e H (by rw[<-U];rfl) W
theorem V.StoreV.fi{n:Nat}{F:Nat->Int}{t:DD}{x:Int}{K:DI}(h:Mem w0 w L)(hi:L[i]?=some (b,.cells (fnA n (inF F)) t))(j:Nat)(e:off=j)(U:j<n)(W:∀w',Mem w0 w' (L.set i (b,.cells (fnA n (inF (updI F j x))) t))->K w'):StoreV w b off (ii x) K:=
 StoreV.fn h hi j e U rfl λw' H=>W w' (by rw[q64]at H;exact H)
def RcR(l:LB)(U:Nat)(F:Nat->Int)(L:DJ)(w0:DA)(r:DF)(w':DA):Prop:=
 ((errF (tcF l) 4).2≠0/\r=.tuple #[ii 0,fltV (errF (tcF l) 4).1 (errF (tcF l) 4).2]/\∃H,Mem w0 w' ((U,.cells (fnA 13 (inF H)) 118)::L))\/
 ((∀k,k<4->(tcF l k).2=0)/\r=.tuple #[ii (vAt l 4),fltV 0 0]/\∃H,(∀k,k<4->H k=((vNum l k:Nat):Int))/\(∀j,4<=j->H j=F j)/\Mem w0 w' ((U,.cells (fnA 13 (inF H)) 118)::L))
theorem qvh(l:LB)(A:oA)(n c W:Nat)(F:Nat->Int)(w0 w:DA)(L:DJ)(H:Mem w0 w ((W,.cells (fnA 13 (inF F)) 118)::L))(hS:SlAt encB 1 w0 A l)(hn:l.length=n)(hc:n<=c)(hl:l.length<=140737488355328):
  Gv DM 106 [.slice A n c,pp W] w λr w'=>RcR l W F L w0 r w':=by
 refine ze Tryz.func106 Tryz.ntmps106 ?_;refine znm H ?_;intro rb w1 H;have H:Mem w0 w1 ((rb,.cells #[ii 0,ii 0] 120)::(W,.cells (fnA 13 (inF F)) 118)::L):=H;refine qq (λx:Nat×(Nat->Int)=>[(0,.slice A n c),(1,pp W),(4,ii 0),(5,pp rb),(6,ii (vAt l x.1)),(7,ii x.1)])
  (λx w'=>x.1<=4/\(∀j,j<x.1->(tcF l j).2=0)/\(∀k,k<x.1->x.2 k=((vNum l k:Nat):Int))/\(∀j,4<=j->x.2 j=F j)/\Mem w0 w' ((rb,.cells #[ii 0,ii 0] 120)::(W,.cells (fnA 13 (inF x.2)) 118)::L)) (λx=>4-x.1) (0,F)
  fq ⟨by simp,λj h=>by simp at h,λj h=>by simp at h,λj _=>rfl,H⟩ ?_
 clear H;rintro⟨k,F1⟩ w2 ah ⟨k1,hz,hF,aa,H⟩;dsimp only at k1 hz hF aa H|-;have ai:=qco l k;have aj:=qhc l k;(conv=>whnf);refine zC (λ_=>zw ?_) (λ_=>zw ?_)
 ·refine SliceV.bs (hS.ext H.ext) hn (vAt l k) n c rfl rfl rfl Oo znr hc znr (λh=>by cases h) ?_;intro A' ad;rw[Aj (by rw[zld];omega)]at ad;(conv=>whnf);refine zcv (qbo (l.drop (vAt l k)) A' _ _ w2 ad (by rw[zld];omega) (by rw[zld];omega)) ?_;rintro r w3 ⟨rfl,rfl⟩;have ae:(numL (l.drop (vAt l k))).1=vNum l k:=rfl;have af:vAt l k+(numL (l.drop (vAt l k))).2.1=vAt l (k+1):=rfl;have ag:=qco l (k+1);obtain⟨q,eq⟩:∃q,q=(numL (l.drop (vAt l k))).2.2:=⟨_,rfl⟩
  obtain⟨s,es⟩:∃s,s=(numL (l.drop (vAt l k))).2.1:=⟨_,rfl⟩
  rw[numV,ae,<-eq,<-es];rw[<-es]at af;conv=>whnf
  (repeat'(first|refine zp ?_|refine zC (λ_=>zw ?_) (λ_=>zw ?_)))
  ·have U:tcF l k=(vAt l k,q):=by rw[tcF,qbv Oo,Ab (by show(numL (l.drop (vAt l k))).2.2≠0;omega),eq]
   have Z:=qaz (f:=tcF l) (n:=4) (k:=k) hz Oo (by rw[U];show q≠0;omega);refine StoreA.all H (i:=0) rfl rfl (by intro v hv;simp at hv;rcases hv with rfl|rfl<;>rfl) ?_;intro w9 H;refine qd (R:=λr w'=>RcR l W F L w0 r w') ?_;refine zl H 0 ?_;exact .inl ⟨by rw[Z,U];show q≠0;omega,by rw[Z,U];rfl,F1,H.sub (Ak ..)⟩
  ·have U:tcF l k=(vAt l k,2):=by rw[tcF,qdp Oo Oo,Ab Js]
   have Z:=qaz (f:=tcF l) (n:=4) (k:=k) hz Oo (by rw[U];simp);refine StoreA.all H (i:=0) rfl rfl (by intro v hv;simp at hv;rcases hv with rfl|rfl<;>rfl) ?_;intro w9 H;refine qd (R:=λr w'=>RcR l W F L w0 r w') ?_;refine zl H 0 ?_;exact .inl ⟨by rw[Z,U];simp,by rw[Z,U];rfl,F1,H.sub (Ak ..)⟩
  refine StoreV.fi (x:=((vNum l k:Nat):Int)) H (i:=1) rfl k (by rw[show tsz DM 3=1 from by kernel_rfl];dsimp only;omega) Oo ?_;intro w4 H;have H:Mem w0 w4 ((rb,.cells #[ii 0,ii 0] 120)::(W,.cells (fnA 13 (inF (updI F1 k (vNum l k:Nat)))) 118)::L):=H;(conv=>whnf);refine zy ?_;have H:=H.drew;refine zt ?_;refine zC (λ_=>zu ?_) (λ_=>zu ?_)
  ·refine LoadV.fi (x:=((vNum l (k):Nat):Int)) H (i:=1) rfl (k) (by rw[show tsz DM 3=1 from by kernel_rfl];dsimp only;omega) Oo (qck _ _ _) (zu ?_);refine IdxV.at_ (k-1) Oo Oo (zu ?_);refine LoadV.fi (x:=((vNum l (k-1):Nat):Int)) H (i:=1) rfl (k-1) (by rw[show tsz DM 3=1 from by kernel_rfl];dsimp only;omega) Oo (by rw[qao _ _ _ _ Oo];exact hF (k-1) Oo) (zw ?_);refine zt ?_;refine zC (λ_=>zu ?_) (λ_=>zu ?_)
   ·have U:tcF l k=(vAt l k,180):=by rw[tcF,qbh Oo Oo,Aa Js,Ab ⟨by omega,.inl Oo⟩]
    have Z:=qaz (f:=tcF l) (n:=4) (k:=k) hz Oo (by rw[U];simp);refine StoreA.all H (i:=0) rfl rfl (by intro v hv;simp at hv;rcases hv with rfl|rfl<;>rfl) ?_;intro w9 H;refine qd (R:=λr w'=>RcR l W F L w0 r w') ?_;refine zl H 0 ?_;exact .inl ⟨by rw[Z,U];simp,by rw[Z,U];rfl,updI F1 k (vNum l k:Nat),H.sub (Ak ..)⟩
   refine LoadV.fi (x:=((vNum l (k):Nat):Int)) H (i:=1) rfl (k) (by rw[show tsz DM 3=1 from by kernel_rfl];dsimp only;omega) Oo (qck _ _ _) (zu ?_);refine IdxV.at_ (k-1) Oo Oo (zu ?_);refine LoadV.fi (x:=((vNum l (k-1):Nat):Int)) H (i:=1) rfl (k-1) (by rw[show tsz DM 3=1 from by kernel_rfl];dsimp only;omega) Oo (by rw[qao _ _ _ _ Oo];exact hF (k-1) Oo) (zu ?_);refine Tst.iff (vNum l k=0↔vNum l (k-1)=0) (by rw[CI,decide_eq_decide];omega) (λh=>?_) (λh=>?_)
   ·refine zu ?_;have U:(tcF l k).2=0:=by rw[tcF,qbh Oo Oo,Aa Js,Aa Oo]
    refine⟨(k+1,updI F1 k (vNum l k:Nat)),⟨rfl,rfl,rfl,rfl,(by show _=ii ((vAt l (k+1):Nat):Int);exact Ad (Value.int .i64) Oo),rfl,trivial⟩,⟨by simp only;omega,λj hj=>?_,λj hj=>?_,λj hj=>?_,H⟩,by simp only;omega⟩
    ·by_cases e:j=k
     ·subst e;exact U
     ·exact hz j (by simp only at hj;omega)
    ·by_cases e:j=k
     ·subst e;exact qck _ _ _
     ·simp only at hj|-;rw[qao _ _ _ _ Oo];exact hF j Oo
    ·simp only;rw[qao _ _ _ _ Oo];exact aa j hj
   ·(conv=>whnf);have U:tcF l k=(vAt l k,180):=by rw[tcF,qbh Oo Oo,Aa Js,Ab ⟨by omega,.inr (λhq=>h hq.symm)⟩]
    have Z:=qaz (f:=tcF l) (n:=4) (k:=k) hz Oo (by rw[U];simp);refine StoreA.all H (i:=0) rfl rfl (by intro v hv;simp at hv;rcases hv with rfl|rfl<;>rfl) ?_;intro w9 H;refine qd (R:=λr w'=>RcR l W F L w0 r w') ?_;refine zl H 0 ?_;exact .inl ⟨by rw[Z,U];simp,by rw[Z,U];rfl,updI F1 k (vNum l k:Nat),H.sub (Ak ..)⟩
  ·have ak:k=0:=by omega
   have U:(tcF l k).2=0:=by rw[tcF,qbh Oo Oo,Aa Js,Aa Oo]
   refine⟨(k+1,updI F1 k (vNum l k:Nat)),⟨rfl,rfl,rfl,rfl,(by show _=ii ((vAt l (k+1):Nat):Int);exact Ad (Value.int .i64) Oo),rfl,trivial⟩,⟨by simp only;omega,λj hj=>?_,λj hj=>?_,λj hj=>?_,H⟩,by simp only;omega⟩
   ·by_cases e:j=k
    ·subst e;exact U
    ·exact hz j (by simp only at hj;omega)
   ·by_cases e:j=k
    ·subst e;exact qck _ _ _
    ·simp only at hj|-;rw[qao _ _ _ _ Oo];exact hF j Oo
   ·simp only;rw[qao _ _ _ _ Oo];exact aa j hj
 ·obtain rfl:k=4:=by omega
  refine StoreA.all H (i:=0) rfl rfl Od ?_;intro w9 H;refine qd (R:=λr w'=>RcR l W F L w0 r w') ?_;refine zl H 0 ?_;exact .inr ⟨hz,rfl,F1,hF,aa,H.sub (Ak ..)⟩
def hdV(F:Nat->Int):DF:=.agg (fnA 13 (inF F))
structure HdF(l:LB)(F:Nat->Int):Prop where
 c:∀k,k<4->F k=((vNum l k:Nat):Int)
 w:∀k,k<4->F (4+k)=((tvAt l k:Nat):Int)
 v:∀k,k<4->F (8+k)=((tEnd l k:Nat):Int)
theorem qa4(n:Nat)(F:Nat->Int):∀v∈(fnA n (inF F)).toList,v.oneCell'=true:=by
 intro v H;simp only[fnA,AA]at H;obtain⟨j,_,rfl⟩:=H;rfl
def TvR(l:LB)(r:DF):Prop:=
 ((tE l).2≠0/\∃F,r=.tuple #[hdV F,fltV (tE l).1 (tE l).2])\/((tE l).2=0/\∃F,HdF l F/\r=.tuple #[hdV F,fltV 0 0])
theorem qtd(l:LB)(A:oA)(n c:Nat)(w:DA)(hS:SlAt encB 1 w A l)(hn:l.length=n)(hc:n<=c)(hl:l.length<=140737488355328):
  Gv DM 51 [.slice A n c] w λr w'=>TvR l r/\Ext w w':=by
 subst hn;refine ze Tryz.func51 Tryz.ntmps51 ?_;refine znm (Mem.nil w) ?_;intro r2 w1 H;have H:Mem w w1 [(r2,.cells (fnA 13 (inF λ_=>0)) 118)]:=H;(conv=>whnf);refine znm H λr3 w2 H=>zw ?_;refine znm H λhb w3 H=>zw ?_;refine StoreA.all H (i:=0) rfl rfl Od ?_;intro w4 H;have H:Mem w w4 [(hb,.cells (fnA 13 (inF λ_=>0)) 118),(r3,.cells #[ii 0,ii 0] 120),(r2,.cells (fnA 13 (inF λ_=>0)) 118)]:=H;(conv=>whnf);refine zcv (qvh l A _ c hb (λ_=>0) w w4 _ H hS rfl hc hl) ?_;rintro r w5 (⟨h0,rfl,F1,H⟩|⟨hz,rfl,F1,al,ad,H⟩)
 ·(conv=>whnf);refine znm H λfb w6 H=>zw ?_;refine zS H 0 λw7 H=>zw ?_;refine zr H 0 ?_;refine zv ?_
  ·have H:Mem w w7 ((fb,.cells #[ii (errF (tcF l) 4).1,ii (errF (tcF l) 4).2] 120)::[(hb,.cells (fnA 13 (inF F1)) 118),(r3,.cells #[ii 0,ii 0] 120),(r2,.cells (fnA 13 (inF λ_=>0)) 118)]):=H;have hE:tE l=errF (tcF l) 4:=by grind [tE]
   refine DrawV.inv (λS w'=>Mem w w' [(fb,.cells #[ii (errF (tcF l) 4).1,ii (errF (tcF l) 4).2] 120),(hb,.cells (fnA 13 (inF F1)) 118),(r3,.cells (bif S 3 then #[ii (errF (tcF l) 4).1,ii (errF (tcF l) 4).2]else #[ii 0,ii 0]) 120),(r2,.cells (bif S 2 then fnA 13 (inF F1)else fnA 13 (inF λ_=>0)) 118)]) rfl Jk H.drew ?_;clear H;(conv=>whnf);refine zLi ?_;refine zLi ?_;refine StepI.of undef (λS wd hk hp hI=>?_) (zw ?_)
   ·dsimp only at hI;rw[hk]at hI;(conv=>whnf);refine StoreA.all hI (i:=3) rfl rfl (qa4 13 F1) λwx am=>zw ?_;exact⟨rfl,am⟩
   refine zSi ?_;intro an H;have H:Mem w an [(fb,.cells #[ii (errF (tcF l) 4).1,ii (errF (tcF l) 4).2] 120),(hb,.cells (fnA 13 (inF F1)) 118),(r3,.cells #[ii (errF (tcF l) 4).1,ii (errF (tcF l) 4).2] 120),(r2,.cells (fnA 13 (inF F1)) 118)]:=H;(conv=>whnf);refine qd (R:=λr w'=>TvR l r/\Ext w w') (zw ?_);refine zl H 3 ?_;refine zl H 2 ?_;exact⟨.inl ⟨by simp_all,F1,by rw[hE];rfl⟩,H.ext⟩
 have a0:(errF (tcF l) 4).2=0:=q6 hz;have ao:=λj hj=>qia (hz j hj)
 have aq:vAt l 4=tvAt l 0:=rfl;rw[aq];(conv=>whnf);refine znm H λfb w6 H=>zw ?_;refine StoreA.all H (i:=0) rfl rfl Od λw7 H=>zw ?_;refine zr H 0 ?_;refine zv ?_;have H:Mem w w7 [(hb,.cells (fnA 13 (inF F1)) 118),(r3,.cells #[ii 0,ii 0] 120),(r2,.cells (fnA 13 (inF λ_=>0)) 118)]:=H.sub (Ak ..);refine qq (λx:Nat×(Nat->Int)=>[(0,.slice A l.length c),(2,pp r2),(3,pp r3),(4,pp hb),(5,ii (tvAt l x.1)),(7,ii x.1)])
  (λx w'=>x.1<=4/\(∀j,j<x.1->(tvF l j).2=0)/\(∀k,k<4->x.2 k=((vNum l k:Nat):Int))/\(∀k,k<x.1->x.2 (4+k)=((tvAt l k:Nat):Int)/\x.2 (8+k)=((tEnd l k:Nat):Int))/\Mem w w' [(hb,.cells (fnA 13 (inF x.2)) 118),(r3,.cells #[ii 0,ii 0] 120),(r2,.cells (fnA 13 (inF λ_=>0)) 118)]) (λx=>4-x.1) (0,F1)
  fq (by grind) ?_
 clear H al ad;rintro⟨k,F⟩ w8 a1 ⟨k1,hv,hF,hW,H⟩;dsimp only at k1 hv hF hW H|-;conv=>whnf
 (repeat' refine zC (λ_=>zw ?_) (λ_=>zw ?_))
 ·have hf:tvF l k=(l.length,10):=by grind [tvF]
  have hE:=qaz (f:=tvF l) (n:=4) (k:=k) hv Oo (by rw[hf];simp);have U:tE l=(l.length,10):=by grind [tE]
  refine zl H 0 ?_;refine zS H 2 λW H=>zw ?_;refine zS H 1 λZ H=>zw ?_;refine qd (R:=λr w'=>TvR l r/\Ext w w') (zw ?_);refine zl H 2 ?_;refine zl H 1 ?_;exact⟨.inl ⟨by rw[U];simp,F,by rw[U];rfl⟩,H.ext⟩
 ·refine ElemV.bs (hS.ext H.ext) rfl (tvAt l k) rfl Oo ?_;intro eb eo ae;have a2:tvAt l k<l.length:=by omega
  have hw:l[tvAt l k].toNat=tw l k:=by grind [tw]
  have a3:tw l k<256:=by grind [q9]
  rw[hw]at ae;(conv=>whnf);refine LoadV.of ae (zw ?_);refine zC (λ_=>zu ?_) (λ_=>zu ?_)
  ·have hf:tvF l k=(tvAt l k,14):=by grind [tvF]
   have hE:=qaz (f:=tvF l) (n:=4) (k:=k) hv Oo (by rw[hf];simp);have U:tE l=(tvAt l k,14):=by grind [tE]
   refine zl H 0 ?_;refine zS H 2 λW H=>zw ?_;refine zS H 1 λZ H=>zw ?_;refine qd (R:=λr w'=>TvR l r/\Ext w w') (zw ?_);refine zl H 2 ?_;refine zl H 1 ?_;exact⟨.inl ⟨by rw[U];simp,F,by rw[U];rfl⟩,H.ext⟩
  have af:tw l k<=23:=by omega
  have ar:=ao k Oo;have ag:vNum l k*tw l k<=1048576*23:=BF ar af;obtain⟨f,ef⟩:∃f,f=vNum l k*tw l k:=⟨_,rfl⟩
  have a4:((vNum l k:Nat):Int)*((tw l k:Nat):Int)=(f:Int):=by omega
  rw[<-ef]at ag;have ay:tEnd l k=tvAt l k+1+(f+7)/8:=by rw[ef];rfl
  have au:(((tvAt l k:Nat):Int)+1+(((vNum l k:Nat):Int)*((tw l k:Nat):Int)+7)/8)=((tEnd l k:Nat):Int):=by omega
  refine StoreV.fi (x:=((tvAt l k:Nat):Int)) H (i:=0) rfl (4+k) (by rw[show tsz DM 3=1 from by kernel_rfl];dsimp only;omega) Oo λw9 H=>zw ?_;refine zy ?_;have H:=H.drew;refine zv ?_;refine LoadV.fi (x:=((vNum l k:Nat):Int)) H (i:=0) rfl k (by rw[show tsz DM 3=1 from by kernel_rfl];dsimp only;omega) Oo (by rw[qao _ _ _ _ Oo];exact hF k Oo) (zu ?_);refine ElemV.bs (hS.ext H.ext) rfl (tvAt l k) rfl Oo ?_;intro a5 a6 ah;rw[hw]at ah;refine zu ?_;refine LoadV.of ah (zu ?_);rw[au];refine StoreV.fi (x:=((tEnd l k:Nat):Int)) H (i:=0) rfl (8+k) (by rw[show tsz DM 3=1 from by kernel_rfl];dsimp only;omega) Oo ?_;intro av H;obtain⟨G,eG⟩:∃G,G=updI (updI F (4+k) ((tvAt l k:Nat):Int)) (8+k) ((tEnd l k:Nat):Int):=⟨_,rfl⟩
  have H:Mem w av [(hb,.cells (fnA 13 (inF G)) 118),(r3,.cells #[ii 0,ii 0] 120),(r2,.cells (fnA 13 (inF λ_=>0)) 118)]:=by rw[eG];exact H
  have gF:∀j,j<4->G j=((vNum l j:Nat):Int):=λj hj=>by rw[eG,qao _ _ _ _ Oo,qao _ _ _ _ Oo];exact hF j hj
  have gW:∀j,j<k+1->G (4+j)=((tvAt l j:Nat):Int)/\G (8+j)=((tEnd l j:Nat):Int):=λj hj=>by
   by_cases e:j=k
   ·simp_all[qck,qao]
   ·rw[eG,qao _ _ _ _ Oo,qao _ _ _ _ Oo,qao _ _ _ _ Oo,qao _ _ _ _ Oo]
    grind
  clear eG hF hW;conv=>whnf
  (repeat'(first|refine zp ?_|refine zC (λ_=>zw ?_) (λ_=>zw ?_)))
  ·have ai:=qqw (hz k Oo) Oo;have az:=(by omega)
   have a7:=qwe (vNum l k) (vNum l (k-1)) Oo ai;have aj:tvAt l (k+1)=tEnd l k+qax (vNum l k) (vNum l (k-1)):=by grind [qbc]
   refine DrawV.free Jk Jk (zw ?_);(iterate 4 (refine zd ?_));apply zsd
   ·intro wd hd;(conv=>whnf);refine LoadV.fi (x:=((vNum l k:Nat):Int)) (Mem.call (Mem.drew H) hd) (i:=0) rfl k (by rw[show tsz DM 3=1 from by kernel_rfl];dsimp only;omega) Oo (gF k Oo) (zw ?_);exact xq
   (conv=>whnf);(iterate 3 (refine zd ?_));apply zsd
   ·intro wd hd;(conv=>whnf);refine IdxV.at_ (k-1) Oo Oo (zw ?_);exact xq
   (conv=>whnf);apply zsd
   ·intro wd hd;(conv=>whnf);refine LoadV.fi (x:=((vNum l (k-1):Nat):Int)) (Mem.call (Mem.drew H) hd) (i:=0) rfl (k-1) (by rw[show tsz DM 3=1 from by kernel_rfl];dsimp only;omega) Oo (gF (k-1) Oo) (zw ?_);exact xq
   (conv=>whnf);apply zsd
   ·intro wd hd;(conv=>whnf);refine zcv (qi9 (vNum l k) (vNum l (k-1)) wd Oo ai) ?_;rintro v w9 ⟨rfl,h9⟩;exact⟨h9,rfl⟩
   (conv=>whnf);refine zd ?_;refine zd ?_;intro a8 aa
   (repeat(intro _ _;(conv=>whnf)))
   (conv=>whnf);have H:=H.drew.call aa;clear aa;have ak:(((tEnd l k:Nat):Int)+((qax (vNum l k) (vNum l (k-1)):Nat):Int))=((tvAt l (k+1):Nat):Int):=by omega
   rw[ak];refine zC (λ_=>zu ?_) (λ_=>zu ?_)
   ·have hf:tvF l k=(l.length,10):=by grind [tvF]
    have hE:=qaz (f:=tvF l) (n:=4) (k:=k) hv Oo (by rw[hf];simp);have U:tE l=(l.length,10):=by grind [tE]
    refine zl H 0 ?_;refine zS H 2 λW H=>zw ?_;refine zS H 1 λZ H=>zw ?_;refine qd (R:=λr w'=>TvR l r/\Ext w w') (zw ?_);refine zl H 2 ?_;refine zl H 1 ?_;exact⟨.inl ⟨by rw[U];simp,G,by rw[U];rfl⟩,H.ext⟩
   have aw:tvF l k=(0,0):=by grind [tvF]
   refine⟨(k+1,G),⟨rfl,rfl,rfl,rfl,(by rfl),rfl,trivial⟩,⟨by simp only;omega,λj hj=>?_,gF,gW,H⟩,by omega⟩
   grind
  ·have ax:k=0:=by omega
   have aj:tvAt l (k+1)=tEnd l k:=by grind [qbc]
   have hf:tvF l k=(l.length,10):=by grind [tvF]
   have hE:=qaz (f:=tvF l) (n:=4) (k:=k) hv Oo (by rw[hf];simp);have U:tE l=(l.length,10):=by grind [tE]
   refine zl H 0 ?_;refine zS H 2 λW H=>zw ?_;refine zS H 1 λZ H=>zw ?_;refine qd (R:=λr w'=>TvR l r/\Ext w w') (zw ?_);refine zl H 2 ?_;refine zl H 1 ?_;exact⟨.inl ⟨by rw[U];simp,G,by rw[U];rfl⟩,H.ext⟩
  have ax:k=0:=by omega
  have aj:tvAt l (k+1)=tEnd l k:=by grind [qbc]
  have aw:tvF l k=(0,0):=by grind [tvF]
  refine⟨(k+1,G),⟨rfl,rfl,rfl,rfl,(by show _=ii ((tvAt l (k+1):Nat):Int);exact Ad (Value.int .i64) Oo),rfl,trivial⟩,⟨by simp only;omega,λj hj=>?_,gF,gW,H⟩,by omega⟩
  simp_all
 ·obtain rfl:k=4:=by omega
  refine StoreV.fi (x:=((tvAt l 4:Nat):Int)) H (i:=0) rfl 12 (by rfl) Oo λw9 H=>zw ?_;refine zC (λ_=>zw ?_) (λ_=>zw ?_)
  ·have U:tE l=(tvAt l 4,13):=by
    grind [q6,tE]
   refine zl H 0 ?_;refine zS H 2 λW H=>zw ?_;refine zS H 1 λZ H=>zw ?_;refine qd (R:=λr w'=>TvR l r/\Ext w w') (zw ?_);refine zl H 2 ?_;refine zl H 1 ?_;exact⟨.inl ⟨by rw[U];simp,_,by rw[U];rfl⟩,H.ext⟩
  ·have U:tE l=(0,0):=by
    grind [q6,tE]
   have hd:HdF l (updI F 12 ((tvAt l 4:Nat):Int)):=⟨(by grind [qao]),(by grind [qao]),(by grind [qao])⟩
   refine zl H 0 ?_;refine zS H 2 λW H=>zw ?_;refine zS H 1 λZ H=>zw ?_;refine qd (R:=λr w'=>TvR l r/\Ext w w') (zw ?_);refine zl H 2 ?_;refine zl H 1 ?_;exact⟨.inr ⟨by rw[U],_,hd,rfl⟩,H.ext⟩
theorem qja(x:Nat)(w:DA)(Z:x<18446744073709551616):Gv DM 151 [.int .u64 x] w λr w'=>r=ii (qbg x)/\w'=w:=by
 refine ze Tryz.func151 Tryz.ntmps151 ?_;refine qq (λs:Nat×Nat=>[(0,.int .u64 s.2),(3,ii s.1)]) (λs w'=>s.1+qbg s.2=qbg x/\s.2<18446744073709551616/\w'=w) (λs=>s.2) (0,x) fq (by grind) ?_;rintro⟨k,y⟩ w1 U ⟨W,H,rfl⟩;dsimp only at W H|-;have hW:qbg x<=64:=qd4 64 x Oo Od;(conv=>whnf);refine zC (λ_=>zu ?_) (λ_=>zu ?_)
 ·have hh:=qjj y Oo H;refine V.Wit.shrN 1 rfl Od (zw ?_);exact⟨(k+1,y/2),fq,(by grind),by omega⟩
 grind [qgd]
theorem q0t(n wd:Nat)(w:DA)(h:n*wd<=4398046511104):Gv DM 153 [ii n,ii wd] w λr w'=>r=ii ((n*wd+7)/8:Nat)/\w'=w:=by
 obtain⟨f,U⟩:∃f,f=n*wd:=⟨_,rfl⟩
 have H:(n:Int)*(wd:Int)=(f:Int):=by omega
 rw[<-U]at h|-;refine ze Tryz.func153 Tryz.ntmps153 ?_;rw[H];refine zv ?_;simp
def celU(p:LB)(wd n i k:Nat):DK:=(List.range n).map λj=>Value.int .u64 ((if j<i then valB p (j*wd) wd else if j=i then valB p (i*wd) k else 0:Nat):Int)
theorem q1t(v:DF)(n:Nat):qcp [v] n=List.replicate n v:=by
 induction n<;>grind [qcp]
theorem q2d(p:LB)(wd n:Nat):celU p wd n 0 0=qcp [Value.int .u64 0] n:=by
 rw[q1t,celU,List.eq_replicate_iff];refine⟨by simp,λv H=>?_⟩;obtain⟨j,_,rfl⟩:=AA.1 H;rw[Aa Oo]
 split<;>rfl
theorem qacp(p:LB)(wd n i k:Nat)(h:i<n):(celU p wd n i k)[i]?=some (.int .u64 (valB p (i*wd) k)):=by
 grind [celU]
theorem q2c(p:LB)(wd n i:Nat):celU p wd n (i+1) 0=celU p wd n i wd:=by
 unfold celU;refine Cu λj _=>?_
 congr 2
 by_cases H:j<i
 ·grind
 ·by_cases U:j=i
  ·simp_all
  ·rw[Aa Oo,Aa H,Aa U]
   split<;>rfl
theorem q73(p:LB)(wd n i k:Nat)(h:i<n):(celU p wd n i k).set i (.int .u64 (valB p (i*wd) (k+1)))=celU p wd n i (k+1):=by
 apply Bj
 grind [celU]
def encU(n:Nat):DK:=[.int .u64 n]
def unpN(p:LB)(n wd:Nat):DL:=(List.range n).map λi=>valB p (i*wd) wd
open Classical in
noncomputable def opE(p:LB)(n wd:Nat):Nat:=if ∃t,n*wd<=t/\t<8*p.length/\bitN p t=1 then 12 else 0
def unpV(p:LB)(n wd:Nat):DK:=(unpN p n wd).map λx:Nat=>Value.int .u64 (x:Int)
def OpR(p:LB)(n wd base:Nat)(v:DF)(w:DA):Prop:=
 (opE p n wd≠0/\v=.tuple #[.slice none 0 0,ii (opE p n wd)])\/(opE p n wd=0/\wd=0/\v=.tuple #[.slice none 0 0,ii 0])\/
 (opE p n wd=0/\wd≠0/\∃b,v=.tuple #[.slice (some ⟨b,0,none⟩) n n,ii 0]/\base<=b/\w.heap[b]?=some (.cells (unpV p n wd).toArray 164))
theorem qs9(p:LB)(A:oA)(c n wd:Nat)(w:DA)(hS:SlAt encB 1 w A p)(hp:p.length=(n*wd+7)/8)(hn:n<=4194304)(hw:wd<=64):
  Gv DM 240 [.slice A p.length c,ii n,ii wd] w λv w'=>OpR p n wd w.heap.size v w'/\Ext w w':=by
 have hb:n*wd<=4194304*64:=BF hn hw;obtain⟨f,ef⟩:∃f,f=n*wd:=⟨_,rfl⟩
 have ah:(n:Int)*(wd:Int)=(f:Int):=by omega
 have Z:=λw=>q0t n wd w Oo
 rw[<-ef]at hp hb Z;refine ze Tryz.func240 Tryz.ntmps240 ?_;refine zv ?_;refine zcv (Z w) ?_;rintro r w1 ⟨rfl,rfl⟩;refine zu ?_;refine zcv (Z _) ?_;rintro r w1 ⟨rfl,rfl⟩;refine zu ?_;rw[ah];refine qq (λi:Nat=>[(0,.slice A p.length c),(1,ii n),(2,ii wd),(8,ii i)]) (λi w'=>f<=i/\i<=8*p.length/\(∀t,f<=t->t<i->bitN p t≠1)/\w'=_) (λi=>8*p.length-i) f fq ⟨Ai _,by omega,λt h1 h2=>by omega,rfl⟩ ?_;rintro i w2 au ⟨i0,i1,av,rfl⟩;conv=>whnf
 (repeat'(first|refine zp ?_|refine zC (λ_=>zw ?_) (λ_=>zw ?_)))
 ·refine ElemV.bs hS rfl (i/8) Oo Oo ?_;intro eb eo hc;(conv=>whnf);refine LoadV.of hc (zu ?_);refine V.Wit.shrN (i%8) Oo (by show i%8<8;omega) (zw ?_);have aa:=q9 p[i/8];have W:p[i/8].toNat/2 ^ (i%8)<256:=CS (Cm _ _) aa;refine Wit.eq (qa1 (k:=.u8) (m:=p[i/8].toNat/2 ^ (i%8)) 1 rfl (qnj W) ⟨by omega,by omega⟩) ?_;have ai:p[i/8].toNat/2 ^ (i%8)%2 ^ 1=bitN p i:=by
   grind [bitN]
  rw[ai];(conv=>whnf);refine zC (λ_=>zu ?_) (λ_=>zu ?_)
  ·have hb:bitN p i=1:=by
    omega
   have hE:opE p n wd=12:=by rw[opE,Ab (by grind)]
   exact⟨.inl ⟨by rw[hE];decide,by rw[hE];rfl⟩,xr⟩
  ·refine⟨i+1,fq,⟨by omega,by omega,λt h1 h2=>?_,rfl⟩,by omega⟩
   grind
 ·have aj:wd=0:=by omega
  have hE:opE p n wd=0:=by grind [opE]
  exact⟨.inr (.inl ⟨hE,aj,rfl⟩),xr⟩
 ·have hE:opE p n wd=0:=by grind [opE]
  refine⟨n,n,rfl,rfl,Ai _,by show n*8<=_;omega,by omega,λb w3 hb hw=>?_⟩;have H:=(Mem.nil w2).new hb hw;have hz:(qcp [Value.int .u64 0] n).toArray=(celU p wd n 0 0).toArray:=by rw[q2d]
  have H:Mem w2 w3 [(b,.cells (celU p wd n 0 0).toArray 164)]:=by rw[<-hz];exact H
  (conv=>whnf);refine qq (λi:Nat=>[(0,.slice A p.length c),(1,ii n),(2,ii wd),(9,.slice (some ⟨b,0,none⟩) n n),(10,ii i)]) (λi w'=>i<=n/\Mem w2 w' [(b,.cells (celU p wd n i 0).toArray 164)]) (λi=>n-i) 0 fq ⟨Af _,H⟩ ?_;clear H hb hw;rintro i w4 aw ⟨i1,H⟩;(conv=>whnf);refine zC (λ_=>zw ?_) (λ_=>zw ?_)
  ·have ak:i*wd+wd<=f:=by rw[ef,<-CM];exact B9 _ Oo
   obtain⟨g,eg⟩:∃g,g=i*wd:=⟨_,rfl⟩
   have ax:(i:Int)*(wd:Int)=(g:Int):=by omega
   rw[<-eg]at ak;refine qq (λk:Nat=>[(0,.slice A p.length c),(1,ii n),(2,ii wd),(9,.slice (some ⟨b,0,none⟩) n n),(10,ii i),(11,ii k)]) (λk w'=>k<=wd/\Mem w2 w' [(b,.cells (celU p wd n i k).toArray 164)]) (λk=>wd-k) 0 fq ⟨Af _,H⟩ ?_;clear H;rintro k w5 ay ⟨k1,H⟩;(conv=>whnf);refine zC (λ_=>zu ?_) (λ_=>zu ?_)
   ·have al:=qji p g k;have aq:valB p g (k+1)<2 ^ 64:=qq2 _ _ _ Oo;have ar:(celU p wd n i k).length=n:=by simp[celU]
    have am:(celU p wd n i k)[i]?=some (.int .u64 (valB p g k)):=by grind [qacp]
    refine DrawV.own rfl Jk (zw ?_);(iterate 4 (refine zo ?_));apply StepO.still
    ·intro wd hd;(conv=>whnf);refine ElemV.own1 i rfl Oo (zw ?_);exact PostO.still xr rfl
    (conv=>whnf);apply StepO.still
    ·intro wd hd;(conv=>whnf);refine LoadV.mem (Mem.call (Mem.drew H) hd) (i:=0) rfl (by rw[An];exact am) ?_;(conv=>whnf);exact PostO.still xr rfl
    (conv=>whnf);have hj:(g+k)/8<p.length:=by omega
    obtain⟨gb,go,hA,an⟩:=hS.at_ (by grind);subst hA;have ad:w2.cell? ⟨gb,go+(g+k)/8*1,none⟩=some (.int .u8 p[(g+k)/8].toNat):=by
     have:=an ((g+k)/8) _ (zge hj) 0 _ rfl;omega
    have aa:=q9 p[(g+k)/8];have W:p[(g+k)/8].toNat/2 ^ ((g+k)%8)<256:=CS (Cm _ _) aa;have ae:p[(g+k)/8].toNat/2 ^ ((g+k)%8)%2 ^ 1=bitN p (g+k):=by
     grind [bitN]
    have az:=(by omega)
    have a0:2 ^ 64=18446744073709551616:=by decide
    (iterate 3 (refine zo ?_));apply StepO.still
    ·intro U hd;(conv=>whnf);refine⟨⟨gb,go,(g+k)/8,rfl,by omega,by omega,?_⟩⟩;exact PostO.still xr rfl
    (conv=>whnf);apply StepO.still
    ·intro U hd;(conv=>whnf);refine LoadV.of (Ext.cell (H.ext.trans (Ext.trans xr.drew hd)) ad) (zw ?_);exact PostO.still xr rfl
    (conv=>whnf);refine zo ?_;refine zo ?_;apply StepO.still
    ·intro U hd;(conv=>whnf);refine V.Wit.shrN ((g+k)%8) Oo (by show(g+k)%8<8;omega) (zw ?_);exact PostO.still xr rfl
    (conv=>whnf);apply StepO.still
    ·intro U hd;(conv=>whnf);refine Wit.eq (qa1 (k:=.u8) (m:=p[(g+k)/8].toNat/2 ^ ((g+k)%8)) 1 rfl (qnj W) ⟨by omega,by omega⟩) ?_;rw[ae];(conv=>whnf);exact PostO.still xr rfl
    (conv=>whnf);refine zo ?_;refine zo ?_;apply StepO.still
    ·intro U hd;(conv=>whnf);refine V.Wit.shlN k Oo (by show k<64;omega) (qfa (by grind [valB])) (zw ?_);exact PostO.still xr rfl
    (conv=>whnf);apply StepO.still
    ·intro U hd;(conv=>whnf);refine Wit.eq (qbr k (by grind [qfa,valB]) al) (zw ?_);exact PostO.still xr rfl
    (conv=>whnf);apply StepO.still
    ·intro U hd;(conv=>whnf);refine ElemV.own1 i rfl Oo (zw ?_);exact PostO.still xr rfl
    (conv=>whnf);intro w6 ao
    (repeat(intro _;(conv=>whnf)))
    (conv=>whnf);refine StoreV.mem (H.drew.call ao) (i:=0) rfl (by simp_all) rfl ?_;intro w7 H;have af:(celU p wd n i k).toArray.setIfInBounds i (.int .u64 (valB p g k+bitN p (g+k)*2 ^ k:Nat))=(celU p wd n i (k+1)).toArray:=by
     have:=q73 p wd n i k Oo
     simp_all[valB]
    have H:Mem w2 w7 [(b,.cells (celU p wd n i (k+1)).toArray 164)]:=by rw[<-af];exact H
    refine zu ?_;exact⟨k+1,fq,(by grind),by omega⟩
   ·obtain rfl:k=wd:=by omega
    exact⟨i+1,fq,(by grind [q2c]),by omega⟩
  ·obtain rfl:i=n:=by omega
   obtain⟨o1,o2⟩:=H.own _ mh;have ag:celU p wd i i 0=unpV p i wd:=by
    grind [unpV,unpN,celU,List.map_congr_left]
   exact⟨.inr (.inr ⟨hE,by omega,b,rfl,o1,by rw[<-ag];exact o2⟩),H.ext⟩
theorem qo7{f:Nat->Nat×Nat}{n:Nat}{e:Nat}(h:∀j,j<k->(f j).2=0)(H:k<n)(U:f k=(a,e))(W:e≠0):errF f n=(a,e):=by
 grind [qaz]
theorem qahi(h:(voE l).2=0):voE l=(0,0):=by
 grind [qk5,q69]
theorem qad3{p:LB}{n:Nat}(h:opE p n wd≠0):0<p.length:=by
 grind [opE]
def wMx(xs:DL):Nat->Nat
 | 0=>0
 | i+1=>max (wMx xs i) (qbg (xs.getD i 0))
noncomputable def vcE(l:LB)(k:Nat):Nat×Nat:=
 if tVec l k=false then(tEnd l k,180)else if(voE (qf l k)).2≠0 then(tEnd l k+(voE (qf l k)).1,(voE (qf l k)).2)
 else if 0<vNum l k/\bitN ((qf l k).drop 8) (vNum l k-1)≠1 then(tEnd l k,180)else(0,0)
theorem q65(h:tVec l k=false):vcE l k=(tEnd l k,180):=by rw[vcE,Ab h]
theorem qab1(h:tVec l k=true)(H:(voE (qf l k)).2≠0):vcE l k=(tEnd l k+(voE (qf l k)).1,(voE (qf l k)).2):=by grind [vcE]
theorem qy9(h:tVec l k=true)(H:(voE (qf l k)).2=0)(U:0<vNum l k)(W:bitN ((qf l k).drop 8) (vNum l k-1)≠1):vcE l k=(tEnd l k,180):=by
 grind [vcE]
theorem q66(h:tVec l k=true)(H:(voE (qf l k)).2=0)(U:0<vNum l k->bitN ((qf l k).drop 8) (vNum l k-1)=1):vcE l k=(0,0):=by
 grind [vcE]
theorem q6j(h:¬(vN (qf l k)=vNum l k/\vM (qf l k)=vNum l (k-1))):tVec l k=false:=by
 grind [tVec]
def tX(l:LB)(k i:Nat):Nat:=valB (qh l k) (i*tw l k) (tw l k)
def nmF(l:LB)(k i:Nat):Nat×Nat:=
 if(k≠0/\tX l k i=0)\/4194304<tX l k i then(tvAt l k+1,180)
 else if 0<i/\(k=0\/bitN ((qf l k).drop 8) (i-1)≠1)/\tX l k i<=tX l k (i-1)then(tvAt l k+1,160)else(0,0)
noncomputable def lvE(l:LB)(k:Nat):Nat×Nat:=
 if opE (qh l k) (vNum l k) (tw l k)≠0 then(tEnd l k-1,12)else if wMx (unpN (qh l k) (vNum l k) (tw l k)) (vNum l k)≠tw l k then(tvAt l k,14)
 else if k≠0/\(vcE l k).2≠0 then vcE l k else errF (nmF l k) (vNum l k)
noncomputable def toE(l:LB):Nat×Nat:=if(tE l).2≠0 then tE l else errF (lvE l) 4
section
variable {l:LB} {k:Nat}
theorem q4u(h:opE (qh l k) (vNum l k) (tw l k)≠0):lvE l k=(tEnd l k-1,12):=by rw[lvE,Ab h]
theorem qse(h:opE (qh l k) (vNum l k) (tw l k)=0)(H:wMx (unpN (qh l k) (vNum l k) (tw l k)) (vNum l k)≠tw l k):lvE l k=(tvAt l k,14):=by
 grind [lvE]
theorem q4v(h:opE (qh l k) (vNum l k) (tw l k)=0)(H:wMx (unpN (qh l k) (vNum l k) (tw l k)) (vNum l k)=tw l k)(U:k≠0)(W:(vcE l k).2≠0):lvE l k=vcE l k:=by
 grind [lvE]
theorem quv(h:opE (qh l k) (vNum l k) (tw l k)=0)(H:wMx (unpN (qh l k) (vNum l k) (tw l k)) (vNum l k)=tw l k)(U:k=0\/(vcE l k).2=0):lvE l k=errF (nmF l k) (vNum l k):=by
 grind [lvE]
theorem qsd(h:opE (qh l k) (vNum l k) (tw l k)=0)(H:wMx (unpN (qh l k) (vNum l k) (tw l k)) (vNum l k)=tw l k)(U:k=0\/(vcE l k).2=0){e:Nat}(W:∀j,j<i->(nmF l k j).2=0)(Z:i<vNum l k)(h6:nmF l k i=(a,e))(h7:e≠0):lvE l k=(a,e):=by grind [quv,qo7]
theorem q4t(h:opE (qh l k) (vNum l k) (tw l k)=0)(H:wMx (unpN (qh l k) (vNum l k) (tw l k)) (vNum l k)=tw l k)(U:k=0\/(vcE l k).2=0)(W:∀j,j<vNum l k->(nmF l k j).2=0):(lvE l k).2=0:=by grind [quv,q6]
theorem qkk(h:(lvE l k).2=0):opE (qh l k) (vNum l k) (tw l k)=0/\wMx (unpN (qh l k) (vNum l k) (tw l k)) (vNum l k)=tw l k/\(k=0\/(vcE l k).2=0)/\∀j,j<vNum l k->(nmF l k j).2=0:=by
 by_cases H:opE (qh l k) (vNum l k) (tw l k)=0
 all_goals grind [qas,quv,q4v,qse,q4u]
theorem qp0(h:(k≠0/\tX l k i=0)\/4194304<tX l k i):nmF l k i=(tvAt l k+1,180):=by rw[nmF,Ab h]
theorem qu0(h:¬((k≠0/\tX l k i=0)\/4194304<tX l k i))(H:0<i/\(k=0\/bitN ((qf l k).drop 8) (i-1)≠1)/\tX l k i<=tX l k (i-1)):nmF l k i=(tvAt l k+1,160):=by grind [nmF]
theorem qn2(h:¬((k≠0/\tX l k i=0)\/4194304<tX l k i))(H:¬(0<i/\(k=0\/bitN ((qf l k).drop 8) (i-1)≠1)/\tX l k i<=tX l k (i-1))):nmF l k i=(0,0):=by grind [nmF]
theorem qht(h:∀j,j<i->(nmF l k j).2=0)(H:nmF l k i=(0,0)):∀j,j<i+1->(nmF l k j).2=0:=λj U=>by
 grind
end
theorem qahd(h:(tE l).2≠0):toE l=tE l:=by rw[toE,Ab h]
theorem qah9(h:(tE l).2=0)(H:∀j,j<k->(lvE l j).2=0)(U:k<4)(W:(lvE l k).2≠0):toE l=lvE l k:=by
 rw[toE,Aa Oo];exact qaz H U W
theorem qabt(h:(tE l).2=0)(H:∀k,k<4->(lvE l k).2=0):(toE l).2=0:=by
 grind [toE,q6]
theorem qb6(h:(toE l).2=0):(tE l).2=0/\∀k,k<4->(lvE l k).2=0:=by
 by_cases H:(tE l).2=0
 ·rw[toE,Aa Oo]at h;exact⟨H,qas h⟩
 grind [qahd]
def comL:LB->LB->Nat
 | x::a,y::b=>if x=y then comL a b+1 else 0
 | _,_=>0
theorem qlb:∀a b:LB,comL a b=comL b a
 | [],[]=>rfl
 | [],_::_=>rfl
 | _::_,[]=>rfl
 | x::a,y::b=>by
  by_cases h:x=y
  ·rw[comL,comL,Ab h,Ab h.symm,qlb a b]
  ·rw[comL,comL,Aa h,Aa (λe=>h e.symm)]
theorem qt8:∀{i:Nat} {a b:LB},(∀j,j<i->a[j]?=b[j]?)->i<=a.length->i<=b.length->(i<a.length->i<b.length->a[i]?≠b[i]?)->comL a b=i
 | 0,[],_,_,_,_,_=>by cases ‹LB›<;>rfl
 | 0,_::_,[],_,_,_,_=>rfl
 | 0,x::a,y::b,_,_,_,h=>by
  have:=h Js Js;rw[comL,Aa (λe=>this (by rw[e];rfl))]
 | i+1,[],_,_,h,_,_=>by simp at h
 | i+1,_::_,[],_,_,h,_=>by simp at h
 | i+1,x::a,y::b,H,W,Z,h4=>by
  have U:=H 0 Oo;simp only[AQ,AI]at U;have ih:=qt8 (i:=i) (a:=a) (b:=b) (λj hj=>by have:=H (j+1) Oo;simpa using this) (by simpa using W) (by simpa using Z) (λg1 g2=>by have:=h4 (by simpa using g1) (by simpa using g2);simpa using this);rw[comL,Ab U,ih]
theorem qd7{s:DB}(h:i<s.size):s.data.toList[i]?=some (gb s i):=by
 simp_all[gb]
def leL(a b:LB):Bool:=slt ⟨a.toArray⟩ ⟨b.toArray⟩||seq ⟨a.toArray⟩ ⟨b.toArray⟩
def dSt(m:LB):Nat->LB×Nat
 | 0=>([],0)
 | i+1=>((entG ((qe m).drop (dSt m i).2) (decide (i%16=0)) (dSt m i).1).1,(dSt m i).2+(entG ((qe m).drop (dSt m i).2) (decide (i%16=0)) (dSt m i).1).2.1)
def dnF(m:LB)(i:Nat):Nat×Nat:=
 if i%16=0/\q5 m (i/16)≠(dSt m i).2 then(qg m+(dSt m i).2,161)
 else if(entG ((qe m).drop (dSt m i).2) (decide (i%16=0)) (dSt m i).1).2.2≠0 then(qg m+(dSt m i).2,(entG ((qe m).drop (dSt m i).2) (decide (i%16=0)) (dSt m i).1).2.2)
 else if 0<i/\leL (dSt m (i+1)).1 (dSt m i).1=true then(qg m+(dSt m i).2,160)
 else if i%16≠0/\(numL ((qe m).drop (dSt m i).2)).1≠comL (dSt m (i+1)).1 (dSt m i).1 then(qg m+(dSt m i).2,161)else(0,0)
noncomputable def doE(m:LB):Nat×Nat:=
 if(dE m).2≠0 then dE m else if opE (qw m) (upN (dN m) 16) (dW m)≠0 then(qg m-1,12)
 else if(errF (dnF m) (dN m)).2≠0 then errF (dnF m) (dN m)else if(dSt m (dN m)).2<(qe m).length then(qg m+(dSt m (dN m)).2,13)else(0,0)
section
variable {m last:LB} {i p:Nat} (hd:dSt m i=(last,p))
include hd
theorem qhi{first:Bool}(H:first=decide (i%16=0)):dSt m (i+1)=((entG ((qe m).drop p) first last).1,p+(entG ((qe m).drop p) first last).2.1):=by rw[dSt,hd,H]
theorem qki(H:i%16=0)(U:q5 m (i/16)≠p):dnF m i=(qg m+p,161):=by grind [dnF]
theorem qrm{first:Bool}(H:first=decide (i%16=0))(U:i%16=0->q5 m (i/16)=p)(W:(entG ((qe m).drop p) first last).2.2≠0):dnF m i=(qg m+p,(entG ((qe m).drop p) first last).2.2):=by
 grind [dnF]
theorem qxh{first:Bool}(H:first=decide (i%16=0))(U:i%16=0->q5 m (i/16)=p)(W:(entG ((qe m).drop p) first last).2.2=0)(Z:0<i)(h4:leL (entG ((qe m).drop p) first last).1 last=true):dnF m i=(qg m+p,160):=by
 grind [dnF,qhi]
theorem q8f{first:Bool}(H:first=decide (i%16=0))(U:i%16≠0)(W:(entG ((qe m).drop p) first last).2.2=0)(Z:leL (entG ((qe m).drop p) first last).1 last=false)(h5:(numL ((qe m).drop p)).1≠comL (entG ((qe m).drop p) first last).1 last):dnF m i=(qg m+p,161):=by
 grind [dnF,qhi]
theorem qahx{first:Bool}(H:first=decide (i%16=0))(U:i%16=0->q5 m (i/16)=p)(W:(entG ((qe m).drop p) first last).2.2=0)(Z:0<i->leL (entG ((qe m).drop p) first last).1 last=false)(h5:i%16≠0->(numL ((qe m).drop p)).1=comL (entG ((qe m).drop p) first last).1 last):dnF m i=(0,0):=by
 grind [dnF,qhi]
end
section
variable {m:LB}
theorem qxi(h:(dE m).2≠0):doE m=dE m:=by rw[doE,Ab h]
theorem qacy(h:(dE m).2=0)(H:opE (qw m) (upN (dN m) 16) (dW m)≠0):doE m=(qg m-1,12):=by grind [doE]
theorem qjl(h:(dE m).2=0)(H:opE (qw m) (upN (dN m) 16) (dW m)=0){e:Nat}(U:∀j,j<i->(dnF m j).2=0)(W:i<dN m)(Z:dnF m i=(a,e))(h6:e≠0):doE m=(a,e):=by
 grind [qo7,doE]
theorem q8g(h:(dE m).2=0)(H:opE (qw m) (upN (dN m) 16) (dW m)=0)(U:∀j,j<dN m->(dnF m j).2=0)(W:(dSt m (dN m)).2<(qe m).length):doE m=(qg m+(dSt m (dN m)).2,13):=by
 grind [q6,doE]
theorem qaa1(h:(dE m).2=0)(H:opE (qw m) (upN (dN m) 16) (dW m)=0)(U:∀j,j<dN m->(dnF m j).2=0)(W:¬(dSt m (dN m)).2<(qe m).length):doE m=(0,0):=by
 grind [q6,doE]
theorem qb4(h:(doE m).2=0):(dE m).2=0/\opE (qw m) (upN (dN m) 16) (dW m)=0/\(∀j,j<dN m->(dnF m j).2=0)/\¬(dSt m (dN m)).2<(qe m).length:=by
 by_cases H:(dE m).2=0
 ·by_cases U:opE (qw m) (upN (dN m) 16) (dW m)=0
  all_goals grind [qas,doE]
 grind [qxi]
end
def escL:LB->LB
 | []=>[]
 | c::r=>if c=0 then 0::1::escL r else c::escL r
theorem qau(r:LB):escL (0::r)=0::1::escL r:=by rfl
theorem qah{c:DE}(r:LB)(h:c≠0):escL (c::r)=c::escL r:=by rw[escL,Aa h]
theorem qxm(l:LB):(escL l).length<=2*l.length:=by
 induction l<;>grind [escL]
theorem qac0(l:LB):l.length<=(escL l).length:=by
 induction l<;>grind [escL]
section
variable {old new:LB}
theorem qks(H:(old==new)=false)(h:Lib.index s old=-1):Lib.replaceAll s old new=s:=by
 grind [Lib.replaceAll,Lib.replace,Lib.replaceNum,Lib.count_miss,Lib.replaceK]
theorem qh3(H:(old==new)=false)(U:old≠[])(h:Lib.index s old=i):Lib.replaceAll s old new=s.take i++new++Lib.replaceAll (s.drop (i+old.length)) old new:=by
 grind [Lib.count_hit,Lib.replaceAll,Lib.replace,Lib.replaceNum,Lib.replaceK_hit]
theorem q5t(H:(old==new)=false)(U:old≠[])(h:old.isPrefixOf s=true):Lib.replaceAll s old new=new++Lib.replaceAll (s.drop old.length) old new:=by
 have hi:Lib.index s old=((0:Nat):Int):=Lib.index_first (Af _) (by grind [Lib.occAt]) (λj W=>by omega);rw[qh3 H U hi];simp
theorem qyp{c:DE}{r:LB}(U:(old==new)=false)(W:old≠[])(h:old.isPrefixOf (c::r)=false):Lib.replaceAll (c::r) old new=c::Lib.replaceAll r old new:=by
 have Z:Lib.index (c::r) old=if Lib.index r old==-1 then -1 else Lib.index r old+1:=by rw[Lib.index,h];simp
 by_cases hm:Lib.index r old=-1
 ·grind [qks]
 ·obtain⟨i,hi⟩:∃i:Nat,Lib.index r old=i:=⟨(Lib.index r old).toNat,by have:=Lib.index_ge r old;omega⟩
  have H:Lib.index (c::r) old=((i+1:Nat):Int):=by
   simp_all
  rw[qh3 U W hi,qh3 U W H]
  grind
end
theorem qaem(l:LB):Lib.replaceAll l [0] [0,1]=escL l:=by
 induction l with
 | nil=>rfl
 | cons c r H=>
  grind [q5t,qau,qyp,qah]
theorem qs7(l:LB):Lib.replaceAll (escL l) [0,1] [0]=l:=by
 induction l with
 | nil=>rfl
 | cons c r H=>
  grind [qau,q5t,qah,qyp]
theorem q2n{H:LB}(hi:i<=s.length)(h:Lib.occAt s H i=true)(U:∀j,j<i->Lib.occAt s H j=false):Lib.cut s H=(s.take i,s.drop (i+H.length),true):=by
 grind [Lib.cut,Lib.index_first]
theorem q44{a b:LB}{H:LB}:Lib.occAt (a++(H++b)) H a.length=true:=by
 grind [Lib.occAt]
theorem qac1(l b:LB):∀j,j<(escL l).length->Lib.occAt (escL l++([0,0]++b)) [0,0] j=false:=by
 induction l with
 | nil=>grind [escL]
 | cons c r U=>
  intro j H
  by_cases h:c=0
  ·subst h;rw[qau]at H|-
   match j with
   | 0=>rfl
   | 1=>rfl
   | j+2=>exact U j (by simpa using H)
  ·rw[qah _ h]at H|-
   match j with
   | 0=>grind [Lib.occAt]
   | j+1=>exact U j (by simpa using H)
theorem q2m(l b:LB):Lib.cut (escL l++([0,0]++b)) [0,0]=(escL l,b,true):=by
 rw[q2n (i:=(escL l).length) Js q44 (qac1 l b)];simp
theorem qxc(a b:LB)(h:∀c∈a,c≠0):Lib.cut (a++([0]++b)) [0]=(a,b,true):=by
 rw[q2n (i:=a.length) Js q44 (λj H=>by
  grind [Lib.occAt,List.drop_eq_getElem_cons])]
 simp
def qai(t:TM):LB:=if t.kind=3 then escL t.text.data.toList++([0,0]++(t.type.data.toList++([0]++t.lang.data.toList)))else t.text.data.toList
structure ReadsAs(kind:Int)(s:LB)(t:TM):Prop where
 kind:t.kind=kind
 ok:qam t=0
 entry:qai t=s
theorem q3u{s:DB}(h:iriE s=0):∀c∈s.data.toList,c≠0:=by
 rintro c H rfl
 grind [refE,iriE,barB]
theorem ReadsAs.plain{t:TM}(h:ReadsAs kind s t)(H:kind≠3):t.text.data.toList=s/\t.type=⟨#[]⟩/\t.lang=⟨#[]⟩:=by
 have U:t.kind≠3:=by rw[h.kind];exact H
 have W:=h.ok;have Z:=h.entry
 grind [qai,qam,qab]
theorem ReadsAs.lit{t:TM}(h:ReadsAs 3 s t):s=escL t.text.data.toList++([0,0]++(t.type.data.toList++([0]++t.lang.data.toList)))/\∀c∈t.type.data.toList,c≠0:=by
 have U:=h.ok;have H:=h.entry;rw[qai,Ab h.kind]at H;refine⟨H.symm,q3u ?_⟩;rw[qam,Aa (by rw[h.kind];decide),Ab h.kind,litE]at U
 grind
theorem q8k{a b:LB}(h:escL a=escL b):a=b:=by
 grind [qs7]
theorem qd0{a b:DB}(h:a.data.toList=b.data.toList):a=b:=by
 cases a;simp_all
theorem ReadsAs.unique{t u:TM}(h:ReadsAs kind s t)(g:ReadsAs kind s u):t=u:=by
 obtain⟨U,tt,ty,tl⟩:=t;obtain⟨W,ut,uy,ul⟩:=u;have Z:U=W:=h.kind.trans g.kind.symm;subst Z
 by_cases H:kind=3
 ·subst H;obtain⟨h1,h2⟩:=h.lit;obtain⟨g1,g2⟩:=g.lit
  grind [q2m,qxc,qd0,q8k]
 ·obtain⟨h1,h2,h3⟩:=h.plain H;obtain⟨g1,g2,g3⟩:=g.plain H
  grind [qd0]
open Classical in
noncomputable def qg5(kind:Int)(s:LB):Option TM:=if h:∃t,ReadsAs kind s t then some h.choose else none
theorem qee{t:TM}(h:ReadsAs kind s t):qg5 kind s=some t:=by
 have H:∃t,ReadsAs kind s t:=⟨t,h⟩
 grind [qg5,ReadsAs.unique]
theorem q0z(h:∀t,¬ReadsAs kind s t):qg5 kind s=none:=by
 grind [qg5]
theorem qvi{t:TM}(h:qg5 kind s=some t):ReadsAs kind s t:=by
 unfold qg5 at h
 split at h
 all_goals grind
theorem ReadsAs.size{t:TM}(h:ReadsAs kind s t):t.text.size<=s.length/\t.type.size<=s.length/\t.lang.size<=s.length:=by
 by_cases H:kind=3
 ·subst H;obtain⟨U,_⟩:=h.lit;have:=qac0 t.text.data.toList;have e1:t.text.data.toList.length=t.text.size:=rfl;have e2:t.type.data.toList.length=t.type.size:=rfl;have e3:t.lang.data.toList.length=t.lang.size:=rfl
  grind
 ·obtain⟨U,W,Z⟩:=h.plain H;rw[<-U,W,Z];exact⟨Ai _,Af _,Af _⟩
theorem q9q{t:TM}(h:qg5 kind s=some t)(W:s.length<=262144)(U:InR .i64 kind):TermOk t:=by
 have H:=qvi h;obtain⟨Z,h2,h3⟩:=H.size;exact⟨by rw[H.kind];exact U,by omega,by omega,by omega⟩
noncomputable def veF(l:LB)(k:Nat):Nat×Nat:=if(doE (sDict l k)).2=0 then(0,0)else(qj l k+(doE (sDict l k)).1,(doE (sDict l k)).2)
def vrB(l:LB)(k j:Nat):Prop:=∃s,dGet (sDict l k) j=some s/\∀t,¬ReadsAs ((k+1:Nat):Int) s t
open Classical in
noncomputable def vrF(l:LB)(k:Nat):Nat×Nat:=if ∃j,j<dN (sDict l k)/\vrB l k j then(qj l k,170)else(0,0)
noncomputable def vwE(l:LB):Nat×Nat:=if(sE l).2≠0 then sE l else if(errF (veF l) 3).2≠0 then errF (veF l) 3 else errF (vrF l) 3
section
variable {l:LB}
theorem qq5(h:(doE (sDict l k)).2=0):(veF l k).2=0:=by rw[veF,Ab h]
theorem q7d(H:j<dN (sDict l k))(h:vrB l k j):vrF l k=(qj l k,170):=by rw[vrF,Ab ⟨j,H,h⟩]
theorem qab2(h:∀j,j<dN (sDict l k)->¬vrB l k j):(vrF l k).2=0:=by rw[vrF,Aa (λ⟨j,H,U⟩=>h j H U)]
theorem qafg(h:(vrF l k).2=0)(H:j<dN (sDict l k)):¬vrB l k j:=λU=>by rw[q7d H U]at h;cases h
theorem qahm(h:(sE l).2≠0):vwE l=sE l:=by rw[vwE,Ab h]
theorem qaie(h:(sE l).2=0)(U:∀j,j<k->(doE (sDict l j)).2=0)(W:k<3)(H:(doE (sDict l k)).2≠0):vwE l=(qj l k+(doE (sDict l k)).1,(doE (sDict l k)).2):=by
 have e:veF l k=(qj l k+(doE (sDict l k)).1,(doE (sDict l k)).2):=by rw[veF,Aa H]
 have:=qo7 (f:=veF l) (λj Z=>qq5 (U j Z)) W e H;rw[vwE,Aa Oo,this,Ab H]
theorem qaif(h:(sE l).2=0)(U:∀k,k<3->(doE (sDict l k)).2=0)(W:∀j,j<k->(vrF l j).2=0)(Z:k<3)(H:j<dN (sDict l k))(hb:vrB l k j):vwE l=(qj l k,170):=by
 have:=q6 (f:=veF l) (n:=3) λj H=>qq5 (U j H)
 rw[vwE,Aa Oo,Aa Oo];exact qo7 W Z (q7d H hb) Od
theorem qab5(h:(sE l).2=0)(H:∀k,k<3->(doE (sDict l k)).2=0)(U:∀k,k<3->(vrF l k).2=0):(vwE l).2=0:=by
 have:=q6 (f:=veF l) (n:=3) λj W=>qq5 (H j W)
 rw[vwE,Aa Oo,Aa Oo];exact q6 U
theorem qe2(h:(vwE l).2=0):(sE l).2=0/\(∀k,k<3->(doE (sDict l k)).2=0)/\∀k,k<3->(vrF l k).2=0:=by
 by_cases H:(sE l).2=0
 ·by_cases U:(errF (veF l) 3).2=0
  ·rw[vwE,Aa Oo,Aa Oo]at h;refine⟨H,λk W=>?_,qas h⟩;have:=qas U k W;unfold veF at this
   split at this
   ·assumption
   ·exact absurd this Oa
  ·rw[vwE,Aa Oo,Ab U]at h;exact absurd h U
 ·rw[qahm H]at h;exact absurd h H
theorem qahn(h:(vwE l).2=0):(wE l).2=0:=by
 obtain⟨W,H,_⟩:=qe2 h;rw[wE,Aa Oo];exact q6 λm U=>by rw[sdF,Ab (qb4 (H m U)).1]
end
theorem qlg{y x U:LB}(h:y=x++U):escL y=escL x++escL U:=by
 subst h
 induction x with
 | nil=>rfl
 | cons c x W=>
  by_cases H:c=0
  ·subst H;rw[AG,qau,qau,W];rfl
  ·rw[AG,qah _ H,qah _ H,W];rfl
def ScanI(s:LB)(i:Nat)(x:LB):Prop:=∀y r,s=escL y++([0,0]++r)->i=(escL x).length/\∃H,y=x++H
theorem ScanI.start(s:LB):ScanI s 0 []:=λy _ _=>⟨rfl,y,rfl⟩
theorem ScanI.at_{x y r:LB}(h:ScanI s i x)(U:s=escL y++([0,0]++r)):∃H,y=x++H/\i=(escL x).length/\s.drop i=escL H++([0,0]++r):=by
 obtain⟨W,H,Z⟩:=h y r U;refine⟨H,Z,W,?_⟩;rw[U,qlg Z,W,Az,Dx]
theorem qle{t:LB}(h:s.drop i=t):s[i+j]?=t[j]?:=by rw[<-h,BZ]
theorem ScanI.one{x:LB}{c:DE}(h:ScanI s i x)(W:s[i]?=some c)(U:c≠0):ScanI s (i+1) (x++[c]):=λy r Z=>by
 obtain⟨y2,h1,h2,h3⟩:=h.at_ Z;have H:=qle (j:=0) h3;rw[Bt,W]at H;cases y2 with
 | nil=>simp[escL]at H;exact absurd H U
 | cons d y3=>
  by_cases hd:d=0
  ·subst hd;rw[qau]at H;simp at H;exact absurd H U
  ·rw[qah _ hd]at H;simp only[AG,AQ,AI]at H;subst H;refine⟨?_,y3,by rw[h1,Az];rfl⟩;rw[qlg rfl,qah _ hd,zla,h2];rfl
theorem ScanI.two{x:LB}{d:DE}(h:ScanI s i x)(hc:s[i]?=some 0)(hd:s[i+1]?=some d)(h0:d≠0):ScanI s (i+2) (x++[0]):=λy r hs=>by
 obtain⟨y2,h1,h2,Z⟩:=h.at_ hs;have U:=qle (j:=0) Z;have H:=qle (j:=1) Z;rw[Bt,hc]at U;rw[hd]at H;cases y2 with
 | nil=>simp[escL]at H;exact absurd H h0
 | cons e y3=>
  by_cases W:e=0
  ·subst W;refine⟨?_,y3,by rw[h1,Az];rfl⟩;rw[qlg rfl,qau,zla,h2];rfl
  ·rw[qah _ W]at U;simp at U;exact absurd U.symm W
theorem ScanI.end_{x y r:LB}(h:ScanI s i x)(H:s=escL y++([0,0]++r)):i+1<s.length:=by
 obtain⟨W,Z,h2,U⟩:=h.at_ H;have:=Ad List.length U;rw[zld]at this;simp only[zla,Au,B6]at this;omega
theorem ScanI.stop{x y r:LB}(h:ScanI s i x)(hs:s=escL y++([0,0]++r))(hc:s[i]?=some 0)(hd:s[i+1]?=some 0):y=x/\s.drop (i+2)=r:=by
 obtain⟨y2,h1,h2,W⟩:=h.at_ hs;have U:=qle (j:=0) W;have H:=qle (j:=1) W;rw[Bt,hc]at U;rw[hd]at H;cases y2 with
 | nil=>
  refine⟨by rw[h1,Bl],?_⟩;rw[<-Am,W];rfl
 | cons e y3=>
  by_cases Z:e=0
  ·subst Z;rw[qau]at H;simp at H
  ·rw[qah _ Z]at U;simp at U;exact absurd U.symm Z
end Go.Proofs.YtccmcfpmknpccaaGreatDoor
