/- Lemmas and contracts of functions on the way to the law's card (part 15 of 20). -/
import Derived.Test.YtccmcfpmknpccaaGreatDoorSA14
import Derived.Laws.CopyRow
import Derived.Laws.IdiomCopy
import Derived.Lib.AppendStr
import Derived.Shelf.SlSortCmp.WholeK
import Derived.Test.YtccmcfpmknpccaaGreatDoorProg
import Derived.Shelf.SlSortCmp.NoneTotal
namespace Go.Proofs.YtccmcfpmknpccaaGreatDoor
set_option maxHeartbeats 8000000
open Go.RowKit V
set_option maxHeartbeats 8000000
set_option maxRecDepth 100000
variable {w w' w0:DU} {b base c d i j k m nb pb r tb vb wd:Nat} {l s:LB} {qs:List Q4} {pl:Int} {P:DW} {ρ:Eb} {o:Oper} {K:Ea} {e ty:DX} {u x z:DZ} {xs:Ee} {F ps:Ef} {fr:Nat×Nat} {A:oA}
structure GlobS(w:DU):Prop where
 M:MaxLenAt w
 T:CellsAt w 4 0 qcb
 K:qlg w
theorem GlobS.ext(h:GlobS w)(H:Ext w w'):GlobS w':=⟨h.M.ext H,CellsAt.ext h.T H,CellsAt.ext h.K H⟩
def sRow(qs:List Q4)(i:Nat):Ee:=[ii i,qy (qs.getD i zQ)]
structure IdxE(w:DU)(x pb vb tb:Nat)(l:LB):Prop where
 c:w.cell? ⟨x,0,none⟩=some (pp pb)
 b:w.heap[pb]?=some (.cells #[ii (hN l 2),ii (hN l 3),ii (hN l 4),ii (hN l 5),pp vb,pp tb] 241)
 v:VocAt w vb (qh l)
 t:TreeAt w tb (qj l)
theorem IdxE.ext{x:Nat}(h:IdxE w x pb vb tb l)(H:Ext w w'):IdxE w' x pb vb tb l:=⟨H.cell h.c,H.get h.b,h.v.ext H,h.t.ext H⟩
theorem IdxE.pk{x:Nat}(h:IdxE w x pb vb tb l):PackAt w pb l:=⟨vb,tb,h.b,h.v,h.t⟩
theorem IdxE.at_{x:Nat}(h:IdxE w x pb vb tb l):IdxAt w x l:=⟨pb,h.c,h.pk⟩
theorem qe7(b tb:Nat)(H W a2 a3 a4:DZ)(w:DU)(h:w.heap[b]?=some (.cells #[H,W,a2,a3,a4,pp tb] 241)):Gv Eg 61 [pp b] w λv w'=>v=pp tb/\w'=w:=by
 refine ze Tryz.func61 Tryz.ntmps61 ?_;refine LoadV.own h rfl (zw ?_);exact⟨rfl,rfl⟩
structure SmaΦ(x pb vb tb:Nat)(T:List TM)(qs:List Q4)(p:Q4)(b1 b2:Nat)(w:DU):Prop where
 X:IdxE w x pb vb tb (encP T qs)
 G:GlobS w
 c1:w.cell? ⟨b1,0,none⟩=some (pp x)
 c2:CellsAt w b2 0 (qf p)
theorem qjy(x:Nat)(p:Q4)(w:DU):Gv Eg 63 [pp x,qy p] w λr w'=>
  ∃b1 b2,r=.func (.func 132) #[] #[pp b1,pp b2]/\Mem w w' [(b2,.cells (qf p).toArray 47),(b1,.cells #[pp x] 26)]:=by
 refine ze Tryz.func63 Tryz.ntmps63 ?_;refine znm (Mem.nil w) λb1 w1 H=>zw ?_;refine znm H λb2 w2 H=>zw ?_;exact⟨b1,b2,rfl,H⟩
section
variable {T:List TM} {qs:List Q4} (h:EncOk T qs)
include h
theorem EncOk.pq{q:Q4}(hi:qs[i]?=some q):qf5 (encP T qs) i=.tuple #[qy q,.bool true]:=by
 have W:=(Af.1 hi).1;have e4:q4Of (qh (encP T qs)) (qIds (encP T qs) i)=q:=h.quad4 hi;have hE:(toE (qj (encP T qs))).2=0:=by rw[h.t];exact h.set.tok.toE
 have H:PqOk (encP T qs) i:=⟨⟨by rw[h.n];exact W,qahu (qbq hE) (by rw[h.n];exact W)⟩,(λj hj g=>by
  rw[show qIds (encP T qs) i j=tNum (qj (encP T qs)) i j from rfl,h.told hi hj]at g;cases g),by rw[e4];exact h.quad _ (zmg hi)⟩
 rw[qf5,Ad H,e4]
theorem EncOk.tma{p:Q4}(hp:KnQ T p):(tmaR (qj (encP T qs)) (idP T p)).map (·.1)=qbd p qs:=by
 have H:∀q∈qs,∀k,k<4->gat q k∈T\/gat q k=zTM:=λq W k hk=>(h.set.mem q W k hk).imp id λg=>g.2.2
 rw[tmaR,h.t,h.set.tok.mtch];exact qmb h.set.rise (λt ht=>(h.kinds t ht).1) H (λ_ _=>rfl) hp
theorem EncOk.tmaN{p:Q4}(hp:¬KnQ T p):qbd p qs=[]:=by
 have W:∀q∈qs,∀k,k<4->gat q k∈T\/gat q k=zTM:=λq hq k H=>(h.set.mem q hq k H).imp id λg=>g.2.2
 obtain⟨k,H⟩:=Classical.not_forall.1 hp;obtain⟨h4,H⟩:=Classical.not_imp.1 H;exact q48 W h4 H
theorem EncOk.vms:∀k,k<3->tVec (qj (encP T qs)) (k+1)=true->vM (qe (qj (encP T qs)) (k+1))<=vN (qe (qj (encP T qs)) (k+1)):=λk hk _=>by
 rw[h.t];obtain⟨_,H,W,_⟩:=h.set.tok.vec (k:=k) Oo;rw[H,W];exact qso k _
end
theorem qaab{p:Q4}(h:i∈qbd p qs):∃q,qs[i]?=some q/\fitQ p q=true:=by
 rw[qbd,BK]at h;obtain⟨W,H⟩:=h;have:=BP.1 W;refine⟨qs[i],zge this,?_⟩;rw[zge this]at H;exact H
theorem qjz(T:List TM)(qs:List Q4)(h:EncOk T qs)(x pb vb tb:Nat)(p:Q4)(hp:qa5 p)(hP:∀k,k<4->InR .i64 (idP T p k))(b1 b2:Nat):
  SeqC Eg 132 [pp b1,pp b2] ((qbd p qs).map (sRow qs)) (SmaΦ x pb vb tb T qs p b1 b2):=by
 intro y I Ix w cI aa hI H hy;have ae:((qbd p qs).map (sRow qs)).length=(qbd p qs).length:=AG ..;refine gvW Jk Tryz.func132 rfl Tryz.ntmps132 rfl (zw ?_);refine NewV.carr (cI 0) H λyb w1 H=>zw ?_;refine LoadV.of (hI _ _ _ H).c1 (zw ?_);refine LoadA.cells (hI _ _ _ H).c2 rfl (zw ?_);refine zcv (qq4 T qs h x p hp w1 (hI _ _ _ H).X.at_ (hI _ _ _ H).G.M (hI _ _ _ H).G.T) ?_;rintro r w2 ⟨rfl,ak⟩;replace H:=(cI 0).ext H ak
 by_cases hK:KnQ T p
 case neg=>
  rw[qfa,Aa hK];(conv=>whnf);refine NewV.carr (cI 0) H λib w3 H=>zw ?_;refine StoreA.carr (cI 0) (A:=[]) H rfl Od λw4 H=>zu ?_;refine .inl ?_;rw[ae,h.tmaN hK];exact(cI 0).drop ((cI 0).drop H)
 rw[qfa,Ad hK];(conv=>whnf);refine NewV.carr (cI 0) H λib w3 H=>zw ?_;refine StoreA.carr (cI 0) (A:=[]) H rfl (by simp[Value.oneCell']) λw4 H=>zu ?_;refine DrawW.tail 6 Jk Jk (.inl rfl) (AnyV.free Jk ?_);(conv=>whnf);refine zf ?_ (by intro wd hd;(conv=>whnf);refine LoadV.of (Ext.cell (Ext.trans (Ext.drew xr) hd) (hI _ _ _ H).c1) ?_;(conv=>whnf);exact xq);refine zd ?_;refine zd ?_;refine zf ?_ (by intro wd hd;(conv=>whnf);refine LoadV.of (Ext.cell (Ext.trans (Ext.drew xr) hd) (hI _ _ _ H).X.c) ?_;(conv=>whnf);exact xq);refine zsd (pp tb) (λwd hd=>zw ?_) (zw ?_)
 ·refine zcv (qe7 pb tb _ _ _ _ _ wd (Ext.get (Ext.trans (Ext.drew xr) hd) (hI _ _ _ H).X.b)) ?_;rintro r w5 ⟨rfl,rfl⟩;exact xq
 refine zsd (.agg #[ii (idP T p 0),ii (idP T p 1),ii (idP T p 2),ii (idP T p 3)]) (λwd hd=>zw ?_) (zw ?_)
 ·refine LoadA.own (Ext.get (Ext.trans (Ext.drew xr) hd) ((cI 0).get H mh)) rfl (zw ?_);exact xq
 intro w5 al;replace H:=(cI 0).ext H (Ext.trans (Ext.drew xr) al);(conv=>whnf);refine zcv (qow tb (idP T p) w5) ?_;rintro r w6 ⟨c1,c2,rfl,am⟩;replace H:=(cI 0).call H am;(conv=>whnf);obtain⟨L,hL⟩:∃L:Ed,L=[(c2,.cells #[ii (idP T p 0),ii (idP T p 1),ii (idP T p 2),ii (idP T p 3)] 95),(c1,.cells #[pp tb] 141),(ib,.cells #[ii (idP T p 0),ii (idP T p 1),ii (idP T p 2),ii (idP T p 3)] 95),(yb,.cells #[.func (.yield y) #[] #[]] 150)]:=⟨_,rfl⟩
 have W:I 0 ([]++L) w6:=by rw[hL];exact H
 clear H;have af:∀(X:Ed),(c2,Obj.cells #[ii (idP T p 0),ii (idP T p 1),ii (idP T p 2),ii (idP T p 3)] 95)∈X++L/\(c1,Obj.cells #[pp tb] 141)∈X++L/\(yb,Obj.cells #[.func (.yield y) #[] #[]] 150)∈X++L:=λX=>by
  rw[hL];refine⟨?_,?_,?_⟩<;>simp
 have ag:((tmaR (qj (encP T qs)) (idP T p)).map mRow).length=(qbd p qs).length:=by
  rw[AG,<-h.tma hK,AG]
 refine qyt (Φ:=λw=>TmaΦ tb (qj (encP T qs)) c1 c2 w/\qad3 (idP T p) c2 w) (lb:=[pp c1,pp c2]) (xs:=(tmaR (qj (encP T qs)) (idP T p)).map mRow) rfl Jk (qox tb (qj (encP T qs)) (idP T p) c1 c2 h.vms hP) Od ?_
  (λk X w'=>I k (X++L) w') (λc k X w'=>∃_:PLift (c=.ret),Ix k (X++L) w')
  (λk=>(cI _).tail _) (λc k=>Carr.any λ_=>(aa _).tail _)
  (λk X w' hh=>⟨⟨(hI _ _ _ hh).X.t,by rw[qa ((cI _).get hh (af X).2.1)];rfl⟩,λj v hv=>by rw[qa ((cI _).get hh (af X).1),As,<-hv];simp⟩) W ?_ ?_ ?_
 ·intro r hr;obtain⟨j,_,rfl⟩:=AF.1 hr;rfl
 ·rintro l2 D od k r X w7 w8 hr W;rw[Ao]at hr;cases ad:(tmaR (qj (encP T qs)) (idP T p))[k]? with
  | none=>rw[ad]at hr;cases hr
  | some row=>
  rw[ad,Bd,AR]at hr;subst hr;have ah:(qbd p qs)[k]?=some row.1:=by rw[<-h.tma hK,Ao,ad];rfl
  obtain⟨q,hq,ai⟩:=qaab (zmg ah);have av:=(Af.1 hq).1;have au:=h.set.len;(conv=>whnf);refine⟨rfl,rfl,?_⟩;(conv=>whnf);refine LoadV.of (hI _ _ _ W).c1 (zw ?_);refine LoadV.of (hI _ _ _ W).X.c (zw ?_);refine zcv (qs7 pb (encP T qs) row.1 w8 (hI _ _ _ W).X.pk Oo (hI _ _ _ W).G.M (hI _ _ _ W).G.T (hI _ _ _ W).G.K) ?_;rintro r w9 ⟨rfl,an⟩;replace W:=(cI k).ext W an;rw[h.pq hq];(conv=>whnf);refine NewV.carr (cI k) W λnb aw W=>zw ?_;refine StoreA.carr (vs:=qf q) (cI k) (A:=[]) W rfl (qb1 q) λao W=>zu ?_;refine LoadA.cells (vs:=qf p) (hI _ _ _ W).c2 rfl (zu ?_);refine LoadA.own ((cI k).get W mh) rfl (zu ?_);refine zcv (q61 p q ao) ?_;rintro r aq ⟨rfl,aj⟩;replace W:=(cI k).ext W aj;rw[ai];refine zu ?_;refine LoadV.carr (cI k) W (zmc (af _).2.2) rfl (zu ?_);refine LoadA.own ((cI k).get W mh) rfl (zu ?_);have ar:((qbd p qs).map (sRow qs))[k]?=some [ii row.1,qy q]:=by
   have e:qs.getD row.1 zQ=q:=by rw[Ah,hq];rfl
   rw[Ao,ah,Bd,sRow,e]
  refine YieldV.mono (hy k _ _ aq ar W) ?_;clear W;rintro v ax (⟨rfl,W⟩|⟨rfl,hX⟩)
  ·refine zu ?_;exact(cI _).drop W
  ·refine zu ?_;exact⟨⟨rfl⟩,(aa _).drop hX⟩
 ·rintro D w7 W;rw[ag]at W;(conv=>whnf);refine LeaveV.marks (J:=λX w'=>I (qbd p qs).length X w') (cI _) ?_ (D:=D) (Ds:=[]) ((cI _).dropL ((cI _).perm W Au));intro w' h';(conv=>whnf);exact .inl (by rw[ae];exact h')
 ·rintro D c k w7 hk ⟨⟨rfl⟩,hX⟩;rw[ag]at hk;(conv=>whnf);refine LeaveV.marks (J:=λX w'=>Ix k X w') (aa _) ?_ (D:=D) (Ds:=[]) ((aa _).dropL ((aa _).perm hX Au));intro w' h';(conv=>whnf);exact .inr ⟨k,by rw[ae];exact hk,h'⟩
def idF(T:List TM)(q:Q4)(i j:Nat):Int:=if j<i then(noT T (gat q j):Nat)else 0
def gQ(q:Q4):Q4:=⟨q.g,q.s,q.p,q.o⟩
theorem qafa(q:Q4)(H:k<4):(gQ q).at k=gat q k:=by
 rcases(show k=0\/k=1\/k=2\/k=3 by omega)with rfl|rfl|rfl|rfl<;>rfl
theorem q3z(T:List TM)(q:Q4)(H:i<4):(fnA 4 (inF (idF T q i))).setIfInBounds i (ii (noT T (gat q i):Nat))=fnA 4 (inF (idF T q (i+1))):=by
 rw[qhf];refine qeg λj W=>?_
 by_cases e:j=i
 ·subst e;rw[qb3,inF,idF,Ad (CK _)]
 ·rw[qac _ _ _ _ e,inF,inF,idF,idF]
  congr 1
  by_cases h:j<i
  ·rw[Ad h,Ad Oo]
  ·rw[Aa h,Aa Oo]
theorem q3f{p t:TM}(h:p.kind≠4):fitT p t=true↔p=t:=by
 grind [fitT,q6]
theorem qut{p q:Q4}(h:∀k,k<4->(gat p k).kind≠4):fitQ p q=true↔p=q:=by
 rw[qpx];simp only[AQ]
 constructor
 ·rintro⟨H,W,h2,h3⟩;refine quv λk hk=>?_
  grind [q3f]
 grind [q3f]
theorem qh9{p:Q4}:i∈qbd p qs↔∃q,qs[i]?=some q/\fitQ p q=true:=by
 grind [qbd]
theorem q49{p:Q4}(h:∀k,k<4->(gat p k).kind≠4):(qbd p qs=[]↔p∉qs)/\∀i,qbd p qs=[i]->qs[i]?=some p:=by
 constructor
 ·constructor
  ·intro e hp;obtain⟨i,hi⟩:=AP.1 hp;have:i∈qbd p qs:=(by grind [qh9,qut])
   simp_all
  ·intro hp;refine Dz.2 λi hi=>?_
   grind [qh9,qut]
 ·intro i e;obtain⟨q,H,W⟩:=qh9.1 (show i∈qbd p qs by rw[e];exact Ak.2 rfl)
  grind [qut]
theorem qaac(p:Q4)(qs:List Q4):(qbd p qs).length=(qs.filter (fitQ p)).length:=by
 rw[<-q0f];have:∀(L:Ef),(∀i∈L,∃q,qs[i]?=some q)->(L.filterMap λi=>qs[i]?).length=L.length:=by
  intro L
  induction L<;>grind [List.mem_cons_self]
 grind [qh9]
section
variable {α:Type} {c:α->α->Int}
def ledC(c:α->α->Int)(t:α):List α->Nat
 | []=>0
 | x::L=>if c x t<0 then ledC c t L+1 else 0
def insC(c:α->α->Int)(t:α):List α->List α
 | []=>[t]
 | x::L=>if c x t<0 then x::insC c t L else if c x t=0 then x::L else t::x::L
def qcr(c:α->α->Int)(W:List α):List α:=W.foldl (λH t=>insC c t H) []
theorem q4q(t:α):∀L:List α,ledC c t L<=L.length
 | []=>Ai _
 | x::L=>by
  rw[ledC];have:=q4q t L
  split
  ·simpa using this
  ·exact Ag _
theorem q4r(t:α):∀{L:List α} {k:Nat} {x:α},k<ledC c t L->L[k]?=some x->c x t<0
 | [],k,x,H,_=>(by grind)
 | y::L,k,x,H,W=>by
  rw[ledC]at H
  split at H
  ·rename_i hy
   cases k with
   | zero=>rw[<-Bb W];exact hy
   | succ k=>exact q4r t (L:=L) (k:=k) Oo W
  ·exact absurd H (BL _)
theorem q4p(t:α):∀{L:List α} {x:α},L[ledC c t L]?=some x->¬c x t<0
 | [],x,H=>by cases H
 | y::L,x,H=>by
  rw[ledC]at H
  split at H
  ·exact q4p t (L:=L) H
  ·rename_i W
   rw[<-Bb H];exact W
theorem qp8(t:α):∀L:List α,insC c t L=match L[ledC c t L]? with
  | some x=>if c x t=0 then L else L.take (ledC c t L)++t::L.drop (ledC c t L)
  | none=>L++[t]
 | []=>rfl
 | x::L=>by
  rw[insC,ledC]
  by_cases h:c x t<0
  ·rw[Ad h,Ad h,qp8 t L,BR]
   split
   ·split
    ·rfl
    ·rfl
   ·rfl
  ·rw[Aa h,Aa h];rfl
section
variable (O:OrdC c)
include O
theorem qsj{t:α}:∀{L:List α},RiseC c L->RiseC c (insC c t L)/\∀y,y∈insC c t L↔y=t\/y∈L
 | [],_=>⟨CL _ _,λy=>by simp[insC]⟩
 | x::L,h=>by
  obtain⟨W,h2⟩:=Bo.1 h;obtain⟨r1,r2⟩:=qsj (t:=t) (L:=L) h2;rw[insC]
  rcases O.tri x t with g|rfl|g
  ·rw[Ad g];refine⟨Bo.2 ⟨λy H=>?_,r1⟩,λy=>?_⟩
   ·rcases(r2 y).1 H with rfl|H
    ·exact g
    ·exact W y H
   ·rw[AB,r2,AB]
    constructor
    ·rintro(h|h|h)
     ·exact .inr (.inl h)
     ·exact .inl h
     ·exact .inr (.inr h)
    ·rintro(h|h|h)
     ·exact .inr (.inl h)
     ·exact .inl h
     ·exact .inr (.inr h)
  ·rw[Aa (O.irr x),Ad (O.eq.2 rfl)];refine⟨h,λy=>⟨.inr,λH=>?_⟩⟩
   rcases H with rfl|H
   ·exact AV ..
   ·exact H
  ·have g1:0<c x t:=O.sym.1 g;rw[Aa Oo,Aa Oo];refine⟨Bo.2 ⟨λy H=>?_,h⟩,λy=>AB⟩
   rcases AB.1 H with rfl|H
   ·exact g
   ·exact O.trans g (W y H)
theorem qsh:∀(W H:List α),RiseC c H->RiseC c (W.foldl (λH t=>insC c t H) H)/\∀y,y∈W.foldl (λH t=>insC c t H) H↔y∈H\/y∈W
 | [],H,h=>(by grind)
 | t::W,H,h=>by
  obtain⟨h1,h2⟩:=qsj O (t:=t) h;obtain⟨r1,r2⟩:=qsh W (insC c t H) h1;refine⟨r1,λy=>?_⟩;rw[Cj,r2,h2,AB]
  constructor
  ·rintro((h|h)|h)
   ·exact .inr (.inl h)
   ·exact .inl h
   ·exact .inr (.inr h)
  ·rintro(h|h|h)
   ·exact .inl (.inr h)
   ·exact .inl (.inl h)
   ·exact .inr h
theorem qu0(H:List α):RiseC c (qcr c H)/\∀y,y∈qcr c H↔y∈H:=by
 obtain⟨W,h2⟩:=qsh O H [] List.Pairwise.nil
 grind [qcr]
theorem qvt{l:List α}(h:l.Pairwise λa b=>c a b<=0)(hn:l.Nodup):RiseC c l:=by
 refine(List.pairwise_and_iff.2 ⟨h,hn⟩).imp λ{a b} ⟨H,W⟩=>?_
 rcases O.tri a b with g|e|g
 ·exact g
 ·simp_all
 ·have:=O.sym.1 g;omega
end
noncomputable def uniA[DecidableEq α](H:List α):List α->List α
 | []=>H
 | t::W=>if t∈H then uniA H W else uniA (H++[t]) W
theorem qng[DecidableEq α]:∀(W H:List α),H.Nodup->(uniA H W).Nodup/\∀y,y∈uniA H W↔y∈H\/y∈W
 | [],H,h=>(by grind [uniA])
 | t::W,H,h=>by
  rw[uniA]
  split
  ·rename_i ht
   obtain⟨r1,r2⟩:=qng W H h;refine⟨r1,λy=>?_⟩;rw[r2,AB]
   constructor
   ·rintro(g|g)
    ·exact .inl g
    ·exact .inr (.inr g)
   ·rintro(g|rfl|g)
    ·exact .inl g
    ·exact .inl ht
    ·exact .inr g
  ·rename_i ht
   obtain⟨r1,r2⟩:=qng W (H++[t]) (by
    refine Do.2 ⟨h,CL _ _,λa ha b hb e=>?_⟩;rw[Ak.1 hb]at e;exact ht (e ▸ ha))
   refine⟨r1,λy=>?_⟩;rw[r2,AB,Bc,Ak,or_assoc]
end
section
variable {α:Type} {c:α->α->Int} (O:OrdC c)
include O
theorem q1e[DecidableEq α]{H s:List α}(hp:s.Perm (uniA [] H))(hs:s.Pairwise λa b=>c a b<=0):s=qcr c H:=by
 obtain⟨u1,u2⟩:=qng H [] List.Pairwise.nil;obtain⟨W,i2⟩:=qu0 O H;refine RiseC.same O (by grind [qvt]) W λy=>?_
 grind
theorem quz(H:List α)(t:α):qcr c (H++[t])=insC c t (qcr c H):=by
 have _:=O;grind [qcr]
theorem qafh{t:α}{L:List α}{x:α}(h:L[ledC c t L]?=some x)(e:x=t):insC c t L=L:=by
 rw[qp8,h];dsimp only;rw[Ad (O.eq.2 e)]
theorem qx6{t:α}{L:List α}(h:∀x,L[ledC c t L]?=some x->x≠t):insC c t L=L.take (ledC c t L)++t::L.drop (ledC c t L):=by
 rw[qp8];cases H:L[ledC c t L]? with
 | some x=>
  dsimp only;rw[Aa λe=>h x H (O.eq.1 e)]
 | none=>
  grind [List.take_of_length_le]
end
theorem ordT:OrdC cmpT where
 eq:=qau
 sym {a b}:=by
  constructor
  ·intro h;have H:=qav.1 h;have W:¬cmpT b a<0:=λg=>LtT.irrefl a (H.trans (qav.1 g))
   grind [qau]
  ·intro h
   rcases LtT.tri a b with g|g|g
   ·exact qav.2 g
   ·grind [qau]
   ·have:=qav.2 g;omega
 trans h g:=qav.2 ((qav.1 h).trans (qav.1 g))
theorem qiy{α:Type}[DecidableEq α](t:α):∀(W H:List α),uniA H (W++[t])=if t∈uniA H W then uniA H W else uniA H W++[t]
 | [],H=>by
  rfl
 | x::W,H=>by
  rw[Bi,uniA,uniA]
  split
  ·exact qiy t W H
  ·exact qiy t W (H++[x])
def hasP(s p:DV):Bool:=decide (p.size<=s.size)&&seq (s.extract 0 p.size) p
def plOk(pl:Int):Bool:=decide (0<=pl)&&decide (pl<=3)
def plT(pl:Int)(q:Q4):TM:=q.at pl.toNat
theorem qyr:plOk pl=true↔0<=pl/\pl<=3:=by grind [plOk]
theorem q5t:plOk pl=false↔pl<0\/3<pl:=by
 grind [qyr]
def begQ(pl:Int)(pre:DV)(q:Q4):Bool:=decide ((plT pl q).kind=1)&&hasP (plT pl q).text pre
def begL(pl:Int)(pre:DV)(p:Q4)(qs:List Q4):Ef:=(qbd p qs).filter λi=>plOk pl&&begQ pl pre (qs.getD i zQ)
def tatL(pl:Int)(p:Q4)(qs:List Q4):List TM:=(qbd p qs).map λi=>plT pl (qs.getD i zQ)
def tasL(pl:Int)(p:Q4)(qs:List Q4):List TM:=if plOk pl=true then qcr cmpT (tatL pl p qs)else[]
theorem qyk{p:Q4}(h:i∈qbd p qs):i<qs.length:=by
 grind [qh9]
theorem qka(p:Q4)(qs:List Q4):(qbd p qs).length<=qs.length:=by
 grind [qaac]
theorem q10(pl:Int)(pre:DV)(p:Q4)(qs:List Q4):(begL pl pre p qs).length<=qs.length:=AI (Dw ..) (qka p qs)
theorem qaea(pre:DV)(p:Q4)(qs:List Q4)(h:plOk pl=false):begL pl pre p qs=[]:=by
 rw[begL,h];simp
def fltI(f:Nat->Bool)(l:Ef)(k:Nat):Ef:=(l.take k).filter f
theorem q9i(f:Nat->Bool)(l:Ef):fltI f l l.length=l.filter f:=by grind [fltI]
theorem q9j{f:Nat->Bool}{l:Ef}(hi:l[k]?=some i)(H:f i=true):fltI f l (k+1)=fltI f l k++[i]:=by
 grind [fltI,List.take_add_one]
theorem qpz{f:Nat->Bool}{l:Ef}(hi:l[k]?=some i)(H:f i=false):fltI f l (k+1)=fltI f l k:=by
 grind [fltI,List.take_add_one]
theorem qae7(f:Nat->Bool)(l:Ef)(k:Nat):(fltI f l k).length<=l.length:=
 AI (Dw ..) (by grind)
theorem q31{α:Type}{c:α->α->Int}(t:α):∀L:List α,(insC c t L).length<=L.length+1
 | []=>Ai _
 | x::L=>by
  have:=q31 (c:=c) t L;rw[insC]
  split
  ·simpa using this
  ·split<;>simp
theorem qsi{α:Type}{c:α->α->Int}(_:OrdC c)(H:List α):(qcr c H).length<=H.length:=by
 suffices h:∀(n:Nat) (H:List α),H.length=n->(qcr c H).length<=n from h _ H rfl
 intro n
 induction n with
 | zero=>intro H h;obtain rfl:=Bg h;exact Ai _
 | succ n ih=>
  intro H h;obtain⟨W,u,rfl⟩:∃W u,H=W++[u]:=⟨H.dropLast,H.getLast (by grind),(List.dropLast_concat_getLast _).symm⟩
  grind [q31,qcr]
def cntB(f:Nat->Bool)(l:Ef)(k:Nat):Nat:=((l.take k).filter f).length
theorem q8s(f:Nat->Bool)(l:Ef):cntB f l l.length=(l.filter f).length:=by grind [cntB]
theorem q8t{f:Nat->Bool}{l:Ef}(hi:l[k]?=some i)(H:f i=true):cntB f l (k+1)=cntB f l k+1:=by
 grind [cntB,List.take_add_one]
theorem q2o{f:Nat->Bool}{l:Ef}(hi:l[k]?=some i)(H:f i=false):cntB f l (k+1)=cntB f l k:=by
 grind [cntB,List.take_add_one]
theorem qxm{f:Nat->Bool}{l:Ef}(hi:l[k]?=some i)(H:f i=true):(l.filter f)[cntB f l k]?=some i:=by
 grind [List.drop_eq_getElem_cons,List.take_append_drop,cntB]
theorem qaes{f:Nat->Bool}{l:Ef}(hi:l[k]?=some i)(H:f i=true):cntB f l k<(l.filter f).length:=by
 grind [qxm]
theorem q9e:Eg.underlying 47=some (.struct (Eg.fieldsOf 47)):=by kernel_rfl
theorem qahq:Eg.stoodInHeld 47=false:=by kernel_rfl
theorem qafe:Eg.eqGuardType Eg.depth 47=false:=by kernel_rfl
def qdx(a b:Q4):Bool:=qaj a.s b.s&&(qaj a.p b.p&&(qaj a.o b.o&&qaj a.g b.g))
theorem qmz{a b:Q4}:qdx a b=true↔a=b:=by
 obtain⟨H,W,a2,a3⟩:=a;obtain⟨b0,b1,b2,b3⟩:=b;simp[qdx,q6]
theorem qg5(d:Nat)(a b:Q4)(w:DU):(Op.equalIn (d+3) 47 (qy a) (qy b)).run Eg w=.ok (qdx a b) w:=by
 have a3:=Tryz.isAgg45;have z3:=Tryz.sizeOf45;simp only[qy];rw[run_equalIn_agg w (d+2) _ _ _ q9e qahq];simp only[Program.fieldsOf,Tryz.underlying47];have e1:=qaz d a.s b.s w;have e2:=qaz d a.p b.p w;have e3:=qaz d a.o b.o w;have e4:=qaz d a.g b.g w;simp only[qv]at e1 e2 e3 e4;clear e1 e2 e3 e4
 go_simp
 have e:∀x y:DV,(x.toList=y.toList)=(seq x y=true):=λx y=>by rw[<-qnz,Db]
 simp only[e]
 by_cases H:a.s.kind=b.s.kind
 rotate_left
 ·simp[qdx,qaj,H]
 by_cases h2:seq a.s.text b.s.text=true
 rotate_left
 ·simp[qdx,qaj,H,h2]
 by_cases h3:seq a.s.type b.s.type=true
 rotate_left
 ·simp[qdx,qaj,H,h2,h3]
 by_cases h4:seq a.s.lang b.s.lang=true
 rotate_left
 ·simp[qdx,qaj,H,h2,h3,h4]
 by_cases h5:a.p.kind=b.p.kind
 rotate_left
 ·simp[qdx,qaj,H,h2,h3,h4,h5]
 by_cases h6:seq a.p.text b.p.text=true
 rotate_left
 ·simp[qdx,qaj,H,h2,h3,h4,h5,h6]
 by_cases h7:seq a.p.type b.p.type=true
 rotate_left
 ·simp[qdx,qaj,H,h2,h3,h4,h5,h6,h7]
 by_cases h8:seq a.p.lang b.p.lang=true
 rotate_left
 ·simp[qdx,qaj,H,h2,h3,h4,h5,h6,h7,h8]
 by_cases h9:a.o.kind=b.o.kind
 rotate_left
 ·simp[qdx,qaj,H,h2,h3,h4,h5,h6,h7,h8,h9]
 by_cases W:seq a.o.text b.o.text=true
 rotate_left
 ·simp[qdx,qaj,H,h2,h3,h4,h5,h6,h7,h8,h9,W]
 by_cases aa:seq a.o.type b.o.type=true
 rotate_left
 ·simp[qdx,qaj,H,h2,h3,h4,h5,h6,h7,h8,h9,W,aa]
 by_cases ad:seq a.o.lang b.o.lang=true
 rotate_left
 ·simp[qdx,qaj,H,h2,h3,h4,h5,h6,h7,h8,h9,W,aa,ad]
 by_cases ae:a.g.kind=b.g.kind
 rotate_left
 ·simp[qdx,qaj,H,h2,h3,h4,h5,h6,h7,h8,h9,W,aa,ad,ae]
 by_cases af:seq a.g.text b.g.text=true
 rotate_left
 ·simp[qdx,qaj,H,h2,h3,h4,h5,h6,h7,h8,h9,W,aa,ad,ae,af]
 by_cases ag:seq a.g.type b.g.type=true
 rotate_left
 ·simp[qdx,qaj,H,h2,h3,h4,h5,h6,h7,h8,h9,W,aa,ad,ae,af,ag]
 by_cases ah:seq a.g.lang b.g.lang=true
 rotate_left
 ·simp[qdx,qaj,H,h2,h3,h4,h5,h6,h7,h8,h9,W,aa,ad,ae,af,ag,ah]
 simp[qdx,qaj,H,h2,h3,h4,h5,h6,h7,h8,h9,W,aa,ad,ae,af,ag,ah]
namespace V
end V
namespace V
theorem Fall.copy{c:Call}{a b:DZ}(ho:o.op=.call c)(hc:c.callee=.builtin .copy)(hv:evs ρ c.args.toList=[a,b])(v:DZ)(w':DU)(H:(Builtin.copy_ c.argTypes o.type #[a,b]).run P w=.ok v w')(hk:K v w'):Fall P (execOp (ev ρ) o) w K:=by
 have he:execOp (ev ρ) o=(do pure (.value (<-Builtin.copy_ c.argTypes o.type (c.args.map (ev ρ))))):=by
  simp only[execOp,ho,resolve,hc];rfl
 have W:c.args.map (ev ρ)=#[a,b]:=by
  rw[qef]at hv;rw[<-BA];simpa using hv
 rw[he,W];exact⟨.inl ⟨v,w',by rw[Sem.run_bind,H];rfl,hk⟩⟩
end V
theorem q8i{x:Int}{n:Nat}(h:x=(n:Int)):bnd (some (ii x)) d n:=by
 subst h;rfl
theorem qak2:∀x,x<256->x |||128=x%128+128:=by decide +kernel
theorem qzw(n:Nat):qfl .or .u8 ((n%256:Nat):Int) 128=((n%128+128:Nat):Int):=by
 have e:=qak2 (n%256) (Cu _ Od);have H:n%256%128=n%128:=by omega
 rw[show(128:Int)=((128:Nat):Int)from rfl,quh (qff (Cu _ Od)) (qff Od) (qff (by rw[e];omega)),e,H]
open Go.RowKit
namespace V
theorem AppV.strR{v:DZ}{x:LB}{t u:DX}{i:TypeInfo}{s:DV}(ht:P.underlying t=some (.slice e))(hu:P.underlying u=some .string)(hi:P.info? e=some i)(hz:i.zero=some (.int .u8 0))(H:i.size=1)(ad:i.bytes=1)(h:w.ownsRow 0 e 1 v x.length (byV x))(aa:x.length+s.size<=140737488355328)(W:∀A' c' w',w'.ownsRow 0 e 1 (.slice A' (x.length+s.size) c') (x++s.data.toList).length (byV (x++s.data.toList))->Chn (rowF v) w w'->(∀k∈rowF (.slice A' (x.length+s.size) c'),(k∈rowF v\/w.heap.size<=k)/\k<w'.heap.size)->K (.slice A' (x.length+s.size) c') w'):
  AppV P #[t,u] ty v (.string s) w K:=by
 have ag:∃v' w',(Builtin.append_ #[t,u] ty #[v,.string s]).run P w=.ok v' w'/\w'.ownsRow 0 e 1 v' (x.length+s.size) (byV x++Lib.strCells s)/\w.grownBy w' v.ownBlock/\∀k∈rowF v',k∈rowF v\/w.heap.size<=k:=by
  rcases h.2 with⟨rfl,h0⟩|⟨g,ae,cur,rfl,ai,hg,aj,ak,al,ah⟩
  ·have ho:w.ownsRow w.heap.size e 1 (.slice none 0 0) x.length (byV x):=⟨h.1,.inl ⟨rfl,h0⟩⟩
   obtain⟨v',w',h1,h2,h3,_⟩:=Lib.run_append_own_string (P:=P) w w.heap.size t u ty e i ht hu hi hz H ad _ _ _ ho s (by simp only[maxLen];omega) aa znr;exact⟨v',w',h1,qaal h2,h3,λk W=>.inr (qsy h2 k W).1⟩
  ·obtain⟨v',w',h1,h2,h3,_⟩:=Lib.run_append_own_string (P:=P) w 0 t u ty e i ht hu hi hz H ad _ _ _ h s (by simp only[maxLen];omega) aa (Ag _);refine⟨v',w',h1,h2,h3,?_⟩
   by_cases af:x.length+s.size<=ae
   ·have hr:=Lib.run_append_room_string (P:=P) w t u ty e i ht hu hi H g x.length ae cur hg s af Oo;rw[hr]at h1;cases h1;exact λk W=>.inl W
   ·have hr:=Lib.run_append_grow_string (P:=P) w t u ty e i (.int .u8 0) ht hu hi hz ⟨g,0,none⟩ x.length ae (byV x) (by rw[H,qdn,AZ]) (λj u hu=>h.cells (g:=g) rfl j u hu) s Oo Oo (by rw[ad];exact growslice_fits Oo Oo);rw[hr]at h1;cases h1;exact λk W=>.inr (by rw[Ak.1 W];exact Ai _)
 obtain⟨v',w',h1,h2,h3,h4⟩:=ag;obtain⟨A',c',rfl⟩:=qbm h2;refine⟨_,w',h1,W A' c' w' ?_ (Chn.grown h3) λk W=>⟨h4 k W,(qsy h2 k W).2⟩⟩;rw[byV,AJ,zla];exact h2
structure RowC(e:DX)(w w':DU)(v r:DZ)(y:LB):Prop where
 own:∃A c,r=.slice A y.length c
 row:w'.ownsRow 0 e 1 r y.length (byV y)
 chg:Chn (rowF v) w w'
 new:∀k∈rowF r,(k∈rowF v\/w.heap.size<=k)/\k<w'.heap.size
theorem RowC.trans{w1:DU}{v r:DZ}{y z:LB}(h:RowC e w w1 v u y)(g:RowC e w1 w' u r z):RowC e w w' v r z:=
 ⟨g.own,g.row,h.chg.trans' g.chg λk H=>(h.new k H).1,λk H=>⟨(g.new k H).1.elim (λW=>(h.new k W).1) λW=>.inr (AI h.chg.size W),(g.new k H).2⟩⟩
theorem RowC.back{v r:DZ}{y:LB}(h:RowC e w w' v r y)(H:Ext w0 w):RowC e w0 w' v r y:=
 ⟨h.own,h.row,(Chn.of _ H).trans h.chg,λk W=>⟨(h.new k W).1.imp id λg=>AI H.size g,(h.new k W).2⟩⟩
theorem qbj{H n:Nat}{v:DZ}(h:w.ownsRow base e H v n xs)(W:Ext w w'):w'.ownsRow base e H v n xs:=
 qcp h λk hk=>W.block k (qsy h k hk).2
end V
namespace V
structure SepC(w0 w w':DU)(Fs:List Ef)(i:Nat)(F':Ef):Prop where
 sep:Sep w0 w' (Fs.set i F')
 size:w.heap.size<=w'.heap.size
 keep:∀(j:Nat) (G:Ef),Fs[j]?=some G->j≠i->∀k∈G,w'.heap[k]?=w.heap[k]?
theorem Sep.row{H:List Ef}(h:Sep w0 w H){F':Ef}(hi:H[i]?=some F)(W:Chn F w w')(hn:∀k∈F',(k∈F\/w.heap.size<=k)/\k<w'.heap.size):SepC w0 w w' H i F':=
 ⟨h.chg hi W hn,W.size,λj G hj aa=>h.keep hi W hj Oo⟩
theorem AppV.cell{e:Nat}{v:DZ}{n:Nat}{t e2:DX}{i:TypeInfo}(ht:P.underlying t=some (.slice e))(hi:P.info? e=some i)(hz:i.zero=some z)(H:i.size=1)(W:z.cells.size=1)(aa:i.bytes<=16)(h:w.ownsRow 0 e 1 v n xs)(hb:w.heap[nb]?=some (.cells #[x] e2 fr))(hx:x.oneCell'=true)(hn:n+1<=8000000000000)(hk:∀A' c' w',w'.ownsRow 0 e 1 (.slice A' (n+1) c') (n+1) (xs++[x])->Chn (rowF v) w w'->(∀k∈rowF (.slice A' (n+1) c'),(k∈rowF v\/w.heap.size<=k)/\k<w'.heap.size)->K (.slice A' (n+1) c') w'):AppV P #[t,t] ty v (.slice (some ⟨nb,0,none⟩) 1 1) w K:=by
 refine AppV.row (news:=[x]) ht hi hz H W Od h rfl (λ_=>⟨nb,0,rfl,λk v hv=>?_⟩) (by grind) (AI (B8 hn aa) Od) Oo hk;rw[qa hb,As]
 simpa using hv
end V
theorem qaeh{f:Nat->Nat}(H:r<=8)(h:∀s,r<=s->s<8->f (8*b+s)%2=0):byt f b<2 ^ r:=by
 have W:r<=0->f (8*b)%2=0:=λg=>h 0 g Od
 grind [byt]
theorem q8l{f g:Nat->Nat}(H:r<8)(h:∀s,s<8->s≠r->f (8*b+s)%2=g (8*b+s)%2)(W:f (8*b+r)%2=0):byt g b=byt f b+g (8*b+r)%2*2 ^ r:=by
 have k0:0≠r->f (8*b)%2=g (8*b)%2:=λe=>h 0 Od e
 have k1:1≠r->f (8*b+1)%2=g (8*b+1)%2:=λe=>h 1 Od e
 have k2:2≠r->f (8*b+2)%2=g (8*b+2)%2:=λe=>h 2 Od e
 have k3:3≠r->f (8*b+3)%2=g (8*b+3)%2:=λe=>h 3 Od e
 have k4:4≠r->f (8*b+4)%2=g (8*b+4)%2:=λe=>h 4 Od e
 have k5:5≠r->f (8*b+5)%2=g (8*b+5)%2:=λe=>h 5 Od e
 have k6:6≠r->f (8*b+6)%2=g (8*b+6)%2:=λe=>h 6 Od e
 have k7:7≠r->f (8*b+7)%2=g (8*b+7)%2:=λe=>h 7 Od e
 grind [byt]
theorem q2a{f g:Nat->Nat}(h:∀s,s<8->f (8*b+s)%2=g (8*b+s)%2):byt f b=byt g b:=by
 have H:f (8*b)%2=g (8*b)%2:=h 0 Od
 grind [byt]
theorem q15{f g:Nat->Nat}(h:∀t,t<8*m->f t%2=g t%2):qdl f m=qdl g m:=by
 refine Cx λb H=>?_
 grind [q2a]
theorem qko{f:Nat->Nat}(h:b<m):(byV (qdl f m))[b]?=some (.int .u8 (byt f b)):=by
 grind [byV,qdl,qa0,qxf]
theorem q16{f g:Nat->Nat}{e:Nat}(_:e<8*m)(h:∀t,t<8*m->t≠e->f t%2=g t%2):(byV (qdl f m)).set (e/8) (.int .u8 (byt g (e/8)))=byV (qdl g m):=by
 have W:∀f,(byV (qdl f m)).length=m:=λf=>by rw[qdn,qdm]
 apply Bk
 grind [qko,q2a]
def upF(F:Nat->Nat)(e t:Nat):Nat:=if t<e then F t else 0
theorem qah6(F:Nat->Nat)(e:Nat):byt (upF F e) (e/8)<2 ^ (e%8):=
 qaeh Oo λs H W=>by grind [upF]
theorem qabw(F:Nat->Nat)(e:Nat):byt (upF F (e+1)) (e/8)=byt (upF F e) (e/8)+F e%2*2 ^ (e%8):=by
 grind [q8l,upF]
theorem q7e{F:Nat->Nat}{e:Nat}(H:e<8*m):(byV (qdl (upF F e) m)).set (e/8) (.int .u8 (byt (upF F e) (e/8)+F e%2*2 ^ (e%8):Nat))=byV (qdl (upF F (e+1)) m):=by
 rw[<-qabw]
 grind [q16,upF]
theorem qzi(F:Nat->Nat)(m:Nat):byV (qdl (upF F 0) m)=qck [Value.int .u8 0] m:=by
 grind [qo5,List.eq_replicate_iff,qdn,qdm,List.mem_iff_getElem?,qko,byt,upF]
theorem qadf{f:Nat->Nat}(e x:Nat):qfl .or .u8 ((byt (upF f e) (e/8):Nat):Int) ((x%2*2 ^ (e%8):Nat):Int)=((byt (upF f e) (e/8)+x%2*2 ^ (e%8):Nat):Int):=by
 have H:=qah6 f e;have W:2 ^ (e%8)<=2 ^ 7:=AY Od Oo;have h3:x%2*2 ^ (e%8)<=1*2 ^ (e%8):=Bx _ Oo;refine qbr (k:=.u8) (e%8) (qff ?_) H;omega
theorem qaao(l:Ef)(w:Nat):qdl (upF (λt=>l.getD (t/w) 0/2 ^ (t%w)) (l.length*w)) ((l.length*w+7)/8)=qcv l w:=by
 refine q15 λt H=>?_;unfold upF
 by_cases c:t<l.length*w
 ·rw[Ad c]
 ·rw[Aa c];have W:0<w:=by
   grind
  simp_all[Nat.le_div_iff_mul_le]
theorem qacg{x w:Nat}(H:x<2 ^ w)(W:w<=64):qah x<=w:=qcq w x H W
def pkF(ps:Ef)(wd t:Nat):Nat:=ps.getD (t/wd) 0/2 ^ (t%wd)
def pkC(ps:Ef)(wd e:Nat):Ee:=byV (qdl (upF (pkF ps wd) e) ((ps.length*wd+7)/8))
theorem qagx(ps:Ef)(wd e:Nat):(pkC ps wd e).length=(ps.length*wd+7)/8:=by rw[pkC,qdn,qdm]
theorem qaar(ps:Ef)(wd:Nat):pkC ps wd 0=qck [Value.int .u8 0] ((ps.length*wd+7)/8):=qzi _ _
theorem qajy{e:Nat}(h:e<ps.length*wd):(pkC ps wd e)[e/8]?=some (.int .u8 (byt (upF (pkF ps wd) e) (e/8))):=qko Oo
theorem qagy{e:Nat}(h:e<ps.length*wd):(pkC ps wd e).set (e/8) (.int .u8 (byt (upF (pkF ps wd) e) (e/8)+pkF ps wd e%2*2 ^ (e%8):Nat))=pkC ps wd (e+1):=q7e Oo
theorem qagw(ps:Ef)(wd:Nat):pkC ps wd (ps.length*wd)=byV (qcv ps wd):=by rw[pkC];exact Ae byV (qaao ps wd)
theorem qajz(H:k<wd):pkF ps wd (i*wd+k)=ps.getD i 0/2 ^ k:=by
 have W:(i*wd+k)/wd=i:=by rw[Cf,Nat.mul_add_div Oo,D4 H,BB]
 have e2:(i*wd+k)%wd=k:=by rw[Cf,Nat.mul_add_mod,BZ H]
 rw[pkF,W,e2]
theorem NewS.blk{n:Nat}(W:Ext w w')(hb:w.heap.size<=b)(H:w'.heap[b]?=some (.cells (byV l).toArray e))(hn:l.length=n):NewS e w w' (.slice (some ⟨b,0,none⟩) n n) l:=by
 subst hn;refine⟨W,⟨_,_,rfl,Ai _,.inr ⟨b,_,rfl,H,by rw[Ct,qdn];exact Ai _,?_,by rw[Ct,qdn];exact Ai _⟩⟩,λk hk=>?_⟩
 ·rw[Am (by rw[qdn];exact Ai _)]
 ·rw[Ak.1 hk];exact⟨hb,qfp H⟩
def txs(L:List DV):List LB:=L.map λs=>s.data.toList
theorem qhp(L:List DV):(txs L).length=L.length:=by grind [txs]
theorem qoy{L:List DV}(h:i<L.length):tx (txs L) i=L[i].data.toList:=by
 grind [tx,txs]
theorem qah1{L:List DV}(h:L.length<=i):tx (txs L) i=[]:=by
 grind [tx,txs]
theorem qk8{L:List DV}(h:i<L.length):(tx (txs L) i).length=L[i].size:=by rw[qoy h];rfl
open Classical in
noncomputable def chkD(L:List LB):Nat:=
 if 4194304<L.length\/∃i,262144<(tx L i).length then 2 else if ∃i,i+1<L.length/\leL (tx L (i+1)) (tx L i)=true then 160 else 0
theorem qaeq{L:List LB}(h:¬4194304<L.length)(H:∀i,¬262144<(tx L i).length)(W:∀i,i+1<L.length->leL (tx L (i+1)) (tx L i)=false):chkD L=0:=by
 grind [chkD]
theorem qrx{L:List LB}(h:chkD L=0):L.length<=4194304/\(∀i,(tx L i).length<=262144)/\(∀i,i+1<L.length->leL (tx L (i+1)) (tx L i)=false):=by
 rw[chkD]at h
 split at h
 all_goals simp_all
theorem qxs(L:List LB):dicE L=if chkD L=0 then(if 67108864<(qam L).length then 1 else 0)else chkD L:=by
 rw[dicE,chkD]
 split
 ·rfl
 ·split
  ·rfl
  ·rfl
theorem q80{L:List LB}(h:chkD L=0)(H:(qam L).length<=67108864):dicE L=0:=by grind [qxs]
theorem qr3{L:List LB}(h:chkD L=0)(H:67108864<(qam L).length):dicE L=1:=by grind [qxs]
def plcN(L:List LB)(i:Nat):Ef:=(List.range (upN i 16)).map λk=>(arL L (16*k)).length
theorem qys(L:List LB)(h:i%16=0):plcN L (i+1)=plcN L i++[(arL L i).length]:=by
 have H:upN (i+1) 16=upN i 16+1:=by unfold upN;omega
 grind [upN,plcN,List.range_succ]
theorem qs6(L:List LB)(h:i%16≠0):plcN L (i+1)=plcN L i:=by
 grind [upN,plcN]
theorem q77(L:List LB)(h:i<=j):(arL L i).length<=(arL L j).length:=by
 obtain⟨r,H⟩:=qpc L h
 simp_all
theorem qad9(L:List LB)(h:i%16=0):arL L (i+1)=arL L i++(varL (tx L i).length++tx L i):=by
 grind [arL,entE]
theorem q76(L:List LB)(h:i%16≠0):arL L (i+1)=arL L i++(varL (comL (tx L (i-1)) (tx L i))++(varL ((tx L i).length-comL (tx L (i-1)) (tx L i))++(tx L i).drop (comL (tx L (i-1)) (tx L i)))):=by
 grind [arL,entE]
theorem qae1{first:Bool}{a:LB}(W:a.length<=262144)(H:s.length<=262144):(entE first a s).length<=262164:=by
 have hc:=qlo a s;have v1:=qbk 8 (comL a s) (BI (AI hc.1 W) Od);have v2:=qbk 8 (s.length-comL a s) (BI (AI (Nat.sub_le _ _) H) Od);have v3:=qbk 8 s.length (BI H Od)
 grind [entE]
theorem qacj{L:List LB}(h:∀i,(tx L i).length<=262144):∀i,(arL L i).length<=i*262164
 | 0=>Ai _
 | i+1=>by
  have W:=qacj h i;have H:(if i=0 then[]else tx L (i-1)).length<=262144:=by
   split
   ·exact Ag _
   ·exact h _
  have h3:=qae1 (first:=decide (i%16=0)) H (h i);rw[arL,zla,Cz];omega
theorem qacf{n:Nat}(h:n<=67108864):qah n<=27:=qcq 27 n (BI h Od) Od
theorem q2y{L:List LB}(hn:L.length<=4194304)(H:(qam L).length<=67108864):(qw L).length<=70000000:=by
 have v1:=qbk 8 L.length (BI hn Od);have v2:=qbk 8 (qam L).length (BI H Od);have W:=qacf H;have hp:=qbz (plcL L) (qah (qam L).length);rw[qk1]at hp;have hm:upN L.length 16*qah (qam L).length<=262144*27:=B8 (by unfold upN;omega) W
 grind [qw]
theorem qafo{L:List DV}(hi:i<L.length)(H:j<L.length):leL (tx (txs L) i) (tx (txs L) j)=(slt L[i] L[j]||seq L[i] L[j]):=by
 rw[qoy hi,qoy H];rfl
theorem qado{a b:DV}:slt a b=false↔(slt b a||seq b a)=true:=by
 rw[<-DO,qdy,DE,qdy,qaf,List.not_lt]
 constructor
 ·intro h
  rcases List.le_iff_lt_or_eq.1 h with h|h
  ·exact .inl h
  ·exact .inr (qdj h)
 ·rintro(h|h)
  ·exact List.le_of_lt h
  ·rw[h];exact List.le_refl _
def u64V(l:Ef):Ee:=l.map λn=>Value.int .u64 (n:Nat)
theorem qfe(l:Ef):(u64V l).length=l.length:=by simp[u64V]
theorem qqo{α:Type}{f:α->DZ}{n:Nat}{l:List α}(h:w.ownsRow base e 1 (.slice A n c) n (l.map f))(hn:l.length=n):SlAt (λx=>[f x]) 1 w A l:=by
 subst hn;refine⟨λH=>?_⟩
 rcases h.2 with⟨e1,e2⟩|⟨g,aa,cur,e1,_,h2,_,_,h5,h6⟩
 ·exact absurd (Bg e2) H
 ·cases e1;refine⟨g,0,rfl,λj x hx k v W=>?_⟩;cases k with
  | succ k=>simp at W
  | zero=>
   simp only[AT,AR]at W;subst W;have hj:=(Af.1 hx).1;have h7:(l.map f)[j]?=some (f x):=by rw[Ao,hx];rfl
   rw[<-h6,BE,Ad Oo]at h7;rw[qa h2,As,AZ,BB]
   simpa using h7
theorem q5o{n:Nat}{l:Ef}(h:w.ownsRow base 164 1 (.slice A n c) n (u64V l))(hn:l.length=n):SlAt encU 1 w A l:=qqo (f:=λx:Nat=>Value.int .u64 (x:Nat)) h hn
theorem q67{L:List DV}(h:chkD (txs L)=0)(hi:i<L.length):L[i].size<=262144:=by rw[<-qk8 hi];exact(qrx h).2.1 i
theorem q1z{L:List LB}(h:chkD L=0)(hi:i<=L.length):(arL L i).length<=1200000000000:=by
 obtain⟨W,H,_⟩:=qrx h;have h3:=qacj H i;have h4:i*262164<=4194304*262164:=Bx _ Oo;omega
def DBuR(L:List LB)(w w':DU)(r:DZ):Prop:=
 (dicE L≠0/\r=.tuple #[.slice none 0 0,ii (dicE L)]/\Ext w w')\/(dicE L=0/\∃v,r=.tuple #[v,ii 0]/\NewS 5 w w' v (qw L))
open Go.RowKit Region
namespace V
structure ExtE(w w':DU):Prop where
 ext:Ext w w'
 dr:w.drawn<=w'.drawn
theorem ExtE.refl(w:DU):ExtE w w:=⟨Ext.refl w,Ai _⟩
theorem ExtE.trans{a b c:DU}(h:ExtE a b)(k:ExtE b c):ExtE a c:=⟨h.ext.trans k.ext,AI h.dr k.dr⟩
theorem ExtE.alloc{a:DU}(h:ExtE a w)(o:Obj):ExtE a (w.alloc o):=⟨h.ext.alloc o,h.dr⟩
theorem ExtE.drew(w:DU):ExtE w w.drew:=⟨(Ext.refl w).drew,CF _⟩
end V
end Go.Proofs.YtccmcfpmknpccaaGreatDoor
namespace Go.Proofs
open YtccmcfpmknpccaaGreatDoor YtccmcfpmknpccaaGreatDoor.V
open Go.Shelf
def Tryz.srt_ren:Go.Shelf.Ren:=⟨fun|6=>123|15=>204|14=>203|28=>279|29=>259|20=>271|21=>272|22=>273|23=>274|24=>275|25=>276|26=>277|27=>278|46=>332|47=>333|48=>334|49=>335|50=>336|57=>371|n=>n,fun|22=>28|24=>45|25=>66|3=>3|39=>272|0=>0|53=>179|55=>164|4=>4|46=>408|45=>407|50=>153|5=>5|9=>9|66=>447|70=>450|76=>477|77=>58|n=>n,fun|n=>n⟩
theorem Tryz.srt:Go.Proofs.SlLaysF0.n6 Eg Tryz.srt_ren:={
 mixed:=by kernel_rfl
 f6:=⟨Tryz.f123.name,by decide,Tryz.func123.trans (Ae some Jk)⟩
 f14:=⟨Tryz.f203.name,by decide,Tryz.func203.trans (Ae some Jk)⟩
 f15:=Tryz.func204.trans (Ae some Jk)
 f20:=⟨Tryz.f271.name,by decide,Tryz.func271.trans (Ae some Jk)⟩
 f21:=⟨Tryz.f272.name,by decide,Tryz.func272.trans (Ae some Jk)⟩
 f22:=⟨Tryz.f273.name,by decide,Tryz.func273.trans (Ae some Jk)⟩
 f23:=⟨Tryz.f274.name,by decide,Tryz.func274.trans (Ae some Jk)⟩
 f24:=⟨Tryz.f275.name,by decide,Tryz.func275.trans (Ae some Jk)⟩
 f25:=⟨Tryz.f276.name,by decide,Tryz.func276.trans (Ae some Jk)⟩
 f26:=⟨Tryz.f277.name,by decide,Tryz.func277.trans (Ae some Jk)⟩
 f27:=⟨Tryz.f278.name,by decide,Tryz.func278.trans (Ae some Jk)⟩
 f28:=Tryz.func279.trans (Ae some Jk)
 f29:=Tryz.func259.trans (Ae some Jk)
 f46:=⟨Tryz.f332.name,by decide,Tryz.func332.trans (Ae some Jk)⟩
 f47:=Tryz.func333.trans (Ae some Jk)
 f48:=Tryz.func334.trans (Ae some Jk)
 f49:=⟨Tryz.f335.name,by decide,Tryz.func335.trans (Ae some Jk)⟩
 f50:=⟨Tryz.f336.name,by decide,Tryz.func336.trans (Ae some Jk)⟩
 f57:=⟨Tryz.f371.name,by decide,Tryz.func371.trans (Ae some Jk)⟩
 t0:=Tryz.underlying0
 a0:=Tryz.isAgg0
 z0:=Tryz.sizeOf0
 v0:=Tryz.zeroValue0
 t3:=Tryz.underlying3
 a3:=Tryz.isAgg3
 z3:=Tryz.sizeOf3
 v3:=Tryz.zeroValue3
 t4:=Tryz.underlying4
 a4:=Tryz.isAgg4
 z4:=Tryz.sizeOf4
 v4:=Tryz.zeroValue4
 t5:=Tryz.underlying5
 a5:=Tryz.isAgg5
 z5:=Tryz.sizeOf5
 v5:=Tryz.zeroValue5
 t9:=Tryz.underlying9
 a9:=Tryz.isAgg9
 z9:=Tryz.sizeOf9
 v9:=Tryz.zeroValue9
 t22:=Tryz.underlying28
 a22:=Tryz.isAgg28
 z22:=Tryz.sizeOf28
 v22:=Tryz.zeroValue28
 t25:=Tryz.underlying66
 a25:=Tryz.isAgg66
 z25:=Tryz.sizeOf66
 v25:=Tryz.zeroValue66
 t39:=Tryz.underlying272
 a39:=Tryz.isAgg272
 z39:=Tryz.sizeOf272
 v39:=Tryz.zeroValue272
 t45:=Tryz.underlying407
 a45:=Tryz.isAgg407
 z45:=Tryz.sizeOf407
 v45:=Tryz.zeroValue407
 t46:=Tryz.underlying408
 a46:=Tryz.isAgg408
 z46:=Tryz.sizeOf408
 v46:=Tryz.zeroValue408
 t50:=Tryz.underlying153
 a50:=Tryz.isAgg153
 z50:=Tryz.sizeOf153
 v50:=Tryz.zeroValue153
 t53:=Tryz.underlying179
 a53:=Tryz.isAgg179
 z53:=Tryz.sizeOf179
 v53:=Tryz.zeroValue179
 t55:=Tryz.underlying164
 a55:=Tryz.isAgg164
 z55:=Tryz.sizeOf164
 v55:=Tryz.zeroValue164
 t66:=Tryz.underlying447
 a66:=Tryz.isAgg447
 z66:=Tryz.sizeOf447
 v66:=Tryz.zeroValue447
 t70:=Tryz.underlying450
 a70:=Tryz.isAgg450
 z70:=Tryz.sizeOf450
 v70:=Tryz.zeroValue450
 t76:=Tryz.underlying477
 a76:=Tryz.isAgg477
 z76:=Tryz.sizeOf477
 v76:=Tryz.zeroValue477
 t77:=Tryz.underlying58
 a77:=Tryz.isAgg58
 z77:=Tryz.sizeOf58
 v77:=Tryz.zeroValue58 }
end Go.Proofs
namespace Go.Proofs.YtccmcfpmknpccaaGreatDoor
open Go.RowKit
variable {w w':DU} {b base c g i j k m off:Nat} {cs cur:Eh} {e:DX} {P:DW} {vs xs:Ee} {T:List TM} {A:oA} {qs:List Q4} {Q:Nat->Nat->Nat} {xo yo:Operand} {K:Ea}
namespace V
theorem ExtE.grow(h:ExtE w w'):∃q W,w'=Sort.grow (w.drewN q) W:=by
 refine⟨w'.drawn-w.drawn,(w'.heap.toList.drop w.heap.size).toArray,?_⟩;have hh:w'.heap=w.heap++(w'.heap.toList.drop w.heap.size).toArray:=by
  rw[<-BA,Array.toList_append];conv=>lhs;rw[<-AW w.heap.size w'.heap.toList]
  congr 1
  apply Bk;intro k;rw[BE]
  by_cases H:k<w.heap.size
  ·rw[Ad H];have:=h.ext.block k H
   simp_all
  grind
 have hd:=h.dr;obtain⟨h1,h2,h3,h4,h5⟩:=w';obtain⟨e1,e2,e3,e4,e5⟩:=h.ext
 grind [Sort.grow,World.drewN]
section
variable {α:Type} [Inhabited α] {enc:α->Ee} {k:Nat}
theorem qoa(H:∀x,(enc x).length=k)(W:0<k)(Y:List α):(Sort.flatK enc k Y.toArray).toList=(Y.map enc).flatten:=by
 apply Bk;intro t
 by_cases ht:t<Y.length*k
 ·have hj:t/k<Y.length:=Nat.div_lt_of_lt_mul (by grind);have hm:t%k<k:=Cu _ W;have e:t/k*k+t%k=t:=Nat.div_add_mod' t k;have h1:=qdg enc k H Y (t/k) Y[t/k] (t%k) Js hm
  grind [Sort.flatK]
 ·rw[Bh (by simpa using ht),Bh (by rw[qcg enc k H];omega)]
theorem q6a(H:∀x,(enc x).length=k)(hk:0<k){Y:List α}(W:w.heap[g]?=some (.cells cur e))(ht:cur.toList.take (Y.length*k)=(Y.map enc).flatten):Sort.HoldsK enc k w g 0 Y.toArray:=by
 intro j hj;refine⟨?_,by simp[World.frozen?,W]⟩;rw[qa W,As,getElem!_pos _ j hj];have aa:j<Y.length*k:=by simpa using hj
 have h1:(cur.toList.take (Y.length*k))[j]?=(Sort.flatK enc k Y.toArray).toList[j]?:=by grind [qoa]
 grind
theorem qq9(w:DU)(g m:Nat)(d:Array α)(H:Array Obj)(_:g<w.heap.size):Chn [g] w (sortWorldK enc k w g 0 m d H):=by
 refine⟨rfl,rfl,rfl,?_,λb hb hn=>?_⟩
 all_goals grind [sortWorldK,Sort.grow,Sort.putRowK,Sort.putRow,Sort.mapBlock,Sort.ahead]
theorem qra(W:∀x,(enc x).length=k)(hk:0<k){d:Array α}{os:Array Obj}(hg:w.heap[g]?=some (.cells cur e))(hc:d.size*k<=cur.size):
  ∃H,(sortWorldK enc k w g 0 m d os).heap[g]?=some (.cells H e)/\H.size=cur.size/\H.toList.take (d.size*k)=(d.toList.map enc).flatten:=by
 have aa:=qfp hg;refine⟨Sort.putCells id 0 (Sort.flatK enc k d) cur,?_,by simp[Sort.putCells],?_⟩
 ·simp only[sortWorldK,Sort.grow,Sort.putRowK,Sort.putRow,Sort.mapBlock,Sort.ahead];rw[Array.getElem?_append_left (by simpa using aa),Dx,Ad rfl,hg];rfl
 ·have hf:=qoa W hk d.toList;have e1:d.toList.toArray=d:=by simp
  rw[e1]at hf;rw[<-hf];apply Bk;intro j;rw[BE]
  grind [Sort.flatK,Sort.putCells]
end
end V
open Go.RowKit V
set_option maxRecDepth 100000
def or4(a b c d:Int):Int:=if a≠0 then a else if b≠0 then b else if c≠0 then c else d
def or4L(l:List Int):Int:=match l with
 | []=>0
 | a::l=>if a≠0 then a else or4L l
theorem qagj(a b c d:Int):or4L [a,b,c,d]=or4 a b c d:=by
 unfold or4;simp only[or4L]
 by_cases h:d≠0
 ·rw[Ad h]
 ·rw[Aa h,CY.1 h]
theorem qvd(a b c d:Int)(nb:Nat)(w:DU)(hb:w.heap[nb]?=some (.cells #[ii a,ii b,ii c,ii d] 3)):
  Gv Eg 58 [.slice (some ⟨nb,0,none⟩) 4 4] w λv w'=>v=ii (or4 a b c d)/\w'=w:=by
 have aa:∀i (x:Int),[a,b,c,d][i]?=some x->w.cell? ⟨nb,i,none⟩=some (ii x):=λi x H=>by
  rw[qa hb]
  match i,H with
  | 0,H=>cases H;rfl
  | 1,H=>cases H;rfl
  | 2,H=>cases H;rfl
  | 3,H=>cases H;rfl
  | _+4,H=>cases H
 refine ze Tryz.func58 Tryz.ntmps58 ?_;refine qk (λi:Nat=>[(3,ii 0),(6,.slice (some ⟨nb,0,none⟩) 4 4),(7,ii 4),(8,ii i)]) (λi w1=>i<=4/\or4 a b c d=or4L ([a,b,c,d].drop i)/\w1=w) (λi=>4-i) 0 fq ⟨by omega,(qagj a b c d).symm,rfl⟩ ?_;rintro i w1 ad ⟨h1,W,rfl⟩;(conv=>whnf);refine zC (λ_=>zw ?_) (λ_=>zw ?_)
 ·have hi:i<[a,b,c,d].length:=by show i<4;omega
  have hd:[a,b,c,d].drop i=[a,b,c,d][i]::[a,b,c,d].drop (i+1):=Br hi;have H:=aa i _ (zge hi);rw[hd,or4L]at W;obtain⟨x,ex⟩:∃x,x=[a,b,c,d][i]:=⟨_,rfl⟩
  rw[<-ex]at W H;refine ElemV.own1 i rfl Oo ?_;refine LoadV.of H (zw ?_);refine zC (λ_=>zu ?_) (λ_=>zu ?_)
  ·rw[Ad Oo]at W;exact⟨by rw[W],rfl⟩
  ·rw[Aa Oo]at W;exact⟨i+1,fq,⟨by omega,W,rfl⟩,by omega⟩
 ·obtain rfl:i=4:=by omega
  exact⟨by rw[W];rfl,rfl⟩
theorem qsk(x:Int)(w:DU):Gv Eg 124 [ii x] w λv w'=>v=.bool false/\w'=w:=by
 refine ze Tryz.func124 Tryz.ntmps124 ?_;exact⟨Ae Value.bool (AM (λh=>h rfl)),rfl⟩
def intC(x y:Int):Int:=if x<y then -1 else if y<x then 1 else 0
theorem qn6(x y:Int)(w:DU):Gv Eg 59 [ii x,ii y] w λv w'=>v=ii (intC x y)/\w'=w:=by
 refine ze Tryz.func59 Tryz.ntmps59 ?_;refine zcv (qsk x w) ?_;rintro r w1 ⟨rfl,rfl⟩;(conv=>whnf);refine zcv (qsk y w1) ?_;rintro r w2 ⟨rfl,rfl⟩;conv=>whnf
 (repeat'(first|refine zp ?_|refine zC (λ_=>zw ?_) (λ_=>zw ?_)))
 ·exact⟨by rw[intC,Ad Oo],rfl⟩
 ·exact⟨by rw[intC,Aa Oo,Ad Oo],rfl⟩
 ·exact⟨by rw[intC,Aa Oo,Aa Oo],rfl⟩
theorem qacl:∀a b:LB,Lib.compareBytes a b=if a<b then -1 else if a=b then 0 else 1
 | [],[]=>rfl
 | [],_::_=>by rw[Lib.compareBytes,Ad (List.nil_lt_cons _ _)]
 | _::_,[]=>by rw[Lib.compareBytes,Aa (List.not_lt_nil _),Aa Js]
 | x::a,y::b=>by
  rw[Lib.compareBytes]
  by_cases H:x<y
  ·rw[Ad H,Ad (Bp.2 (.inl H))]
  ·rw[Aa H]
   by_cases W:y<x
   ·rw[Ad W,Aa (λg=>(Bp.1 g).elim H λe=>by rw[e.1]at W;exact UInt8.lt_irrefl _ W),Aa (λg=>by cases g;exact UInt8.lt_irrefl _ W)]
   ·have e:x=y:=by
     rw[UInt8.lt_iff_toNat_lt]at H W;exact Cc.1 Oo
    subst e;rw[Aa W,qacl a b]
    by_cases h3:a<b
    ·rw[Ad h3,Ad (Bp.2 (.inr ⟨rfl,h3⟩))]
    ·rw[Aa h3,Aa (λg=>(Bp.1 g).elim H λe=>h3 e.2)]
     by_cases h4:a=b
     ·rw[Ad h4,Ad (by rw[h4])]
     ·rw[Aa h4,Aa (λg=>h4 (List.cons.inj g).2)]
theorem qgt(a b:DV)(w:DU):Gv Eg 60 [.string a,.string b] w λv w'=>v=ii (txtC a b)/\w'=w:=by
 refine qg0 Jk ((Tryz.strings_Compare a b w).mono ?_);rintro e w' ⟨rfl,rfl⟩;refine⟨_,rfl,Ae (Value.int .i64) ?_,rfl⟩;rw[qacl,txtC]
 by_cases H:a.data.toList<b.data.toList
 ·rw[Ad H,Ad (qdy.2 H)]
 ·rw[Aa H,Aa (λg=>H (qdy.1 g))]
  by_cases W:a.data.toList=b.data.toList
  ·rw[Ad W,Ad (qaf.2 (qdj W))]
  ·rw[Aa W,Aa (λg=>W (by rw[qaf.1 g]))]
theorem q2l(a b:TM):or4 (intC a.kind b.kind) (txtC a.text b.text) (txtC a.type b.type) (txtC a.lang b.lang)=cmpT a b:=by
 by_cases h:a.kind≠b.kind
 ·by_cases W:a.kind<b.kind
  ·have H:intC a.kind b.kind=-1:=by rw[intC,Ad W]
   rw[H,cmpT,Ad h,Ad W];rfl
  ·have H:intC a.kind b.kind=1:=by rw[intC,Aa W,Ad Oo]
   rw[H,cmpT,Ad h,Aa W];rfl
 ·have H:intC a.kind b.kind=0:=by rw[intC,Aa Oo,Aa Oo]
  rw[H,cmpT,Aa h];rfl
theorem qey(a b:TM)(w:DU):Gv Eg 20 [qv a,qv b] w λr w'=>r=ii (cmpT a b)/\Ext w w':=by
 refine ze Tryz.func20 Tryz.ntmps20 ?_;refine znm (Mem.nil w) ?_;intro b1 w1 W;refine znm W ?_;intro b2 w2 W;refine DrawV.free rfl Jk (zw ?_);refine zd ?_;refine zLd ?_;refine zd ?_;refine zLd ?_;apply zsd
 ·intro wd hd;(conv=>whnf);refine zcv (qn6 a.kind b.kind wd) ?_;rintro v H ⟨rfl,rfl⟩;exact xq
 (conv=>whnf);refine zd ?_;refine zLd ?_;refine zd ?_;refine zLd ?_;apply zsd
 ·intro wd hd;(conv=>whnf);refine zcv (qgt a.text b.text wd) ?_;rintro v H ⟨rfl,rfl⟩;exact xq
 (conv=>whnf);refine zd ?_;refine zLd ?_;refine zd ?_;refine zLd ?_;apply zsd
 ·intro wd hd;(conv=>whnf);refine zcv (qgt a.type b.type wd) ?_;rintro v H ⟨rfl,rfl⟩;exact xq
 (conv=>whnf);refine zd ?_;refine zLd ?_;refine zd ?_;refine zLd ?_;apply zsd
 ·intro wd hd;(conv=>whnf);refine zcv (qgt a.lang b.lang wd) ?_;rintro v H ⟨rfl,rfl⟩;exact xq
 (conv=>whnf);apply StepD.of (λv wx=>∃nb,v=.slice (some ⟨nb,0,none⟩) 4 4/\wx.heap[nb]?=some (.cells #[ii (intC a.kind b.kind),ii (txtC a.text b.text),ii (txtC a.type b.type),ii (txtC a.lang b.lang)] 3)) (λ_ _ _ h he=>let⟨nb,h1,h2⟩:=h;⟨nb,h1,he.get h2⟩)
 ·intro wd hd;(conv=>whnf);refine⟨λnb wx hb hw=>?_⟩;subst hb hw;(conv=>whnf);exact⟨(Ext.refl wd).alloc _,_,rfl,heap_alloc_new wd _⟩
 apply zsd
 ·intro wd hd;rintro v ⟨nb,rfl,hn⟩;(conv=>whnf);refine zcv (qvd _ _ _ _ nb wd hn) ?_;rintro v H ⟨rfl,rfl⟩;rw[q2l];exact xq
 (conv=>whnf);refine zd ?_;intro wd hd;conv=>whnf
 (repeat(intro _ _;(conv=>whnf)))
 exact⟨rfl,(W.drew.call hd).ext⟩
def tmA(X:List TM)(i:Nat):TM:=X.getD i zTM
def AscT(X:List TM):Prop:=∀i j,i<j->j<X.length->¬LtT (tmA X j) (tmA X i)
instance:Inhabited TM:=⟨zTM⟩
theorem qry(a b:TM)(w:DU):Gv Eg 20 [qv a,qv b] w λr w'=>r=ii (cmpT a b)/\ExtE w w':=by
 refine gv Jk Tryz.func20 rfl Tryz.ntmps20 rfl (zw ?_);refine⟨λb1 w1 ae aa=>?_⟩;have hm:=(Mem.nil w).new ae aa;have hx:ExtE w w1:=by rw[aa];exact(ExtE.refl w).alloc _
 clear ae aa;(conv=>whnf);refine⟨λb2 w2 af ad=>?_⟩;have hm:=hm.new af ad;have hx:ExtE w w2:=by rw[ad];exact hx.alloc _
 clear af ad;(conv=>whnf);refine DrawV.gen (λS H w'=>ExtE w w'/\Mem w w' [(b2,.cells (encT b).toArray 45),(b1,.cells (encT a).toArray 45)]/\(S 20=true->∃nb,H 20=.slice (some ⟨nb,0,none⟩) 4 4/\w'.heap[nb]?=some (.cells #[ii (intC a.kind b.kind),ii (txtC a.text b.text),ii (txtC a.type b.type),ii (txtC a.lang b.lang)] 3))) rfl Jk (λH=>⟨hx.trans (ExtE.drew _),hm.drew,λh=>by cases h⟩) (zw ?_);(apply StepG.of;(· intro S H wd hk hp W;(conv=>whnf);(first|exact⟨rfl,W⟩|((repeat'(first|(refine Obl.mk ⟨by omega,by omega⟩ ?_;conv=>whnf)|(refine Obl.mk ⟨by omega,by omega,⟨by omega,by omega⟩⟩ ?_;conv=>whnf)|((with_reducible refine Tst.tt ?_);conv=>whnf)|((with_reducible refine Tst.ff ?_);conv=>whnf)|((with_reducible refine Tst.dec (λ_=>?_) (λ_=>?_))<;>first|(exfalso;omega)|(conv=>whnf))|((with_reducible refine Tst.not ?_))|(refine Wit.conv ⟨by omega,by omega⟩ ?_;conv=>whnf)|((with_reducible refine IdxV.nat Oo ?_);conv=>whnf)|((with_reducible refine IdxV.at_ 0 ?_ Od ?_);rfl;(conv=>whnf))|((with_reducible refine IdxV.at_ 1 ?_ Od ?_);rfl;(conv=>whnf))|((with_reducible refine IdxV.at_ 2 ?_ Od ?_);rfl;(conv=>whnf))|((with_reducible refine IdxV.at_ 3 ?_ Od ?_);rfl;(conv=>whnf))|((with_reducible refine SameW.mk rfl ?_);conv=>whnf)|((with_reducible refine Tst.beqT ?_))|((with_reducible refine Tst.beqF ?_))|(refine Tst.yes rfl ?_;conv=>whnf)|(refine Tst.no rfl ?_;conv=>whnf)));exact⟨rfl,W⟩)));(conv=>whnf));apply StepG.of
 ·intro S H wd hk hp W;refine LoadV.mem W.2.1 (i:=1) rfl rfl (zw ?_);exact⟨rfl,W⟩
 (conv=>whnf);(apply StepG.of;(· intro S H wd hk hp W;(conv=>whnf);(first|exact⟨rfl,W⟩|((repeat'(first|(refine Obl.mk ⟨by omega,by omega⟩ ?_;conv=>whnf)|(refine Obl.mk ⟨by omega,by omega,⟨by omega,by omega⟩⟩ ?_;conv=>whnf)|((with_reducible refine Tst.tt ?_);conv=>whnf)|((with_reducible refine Tst.ff ?_);conv=>whnf)|((with_reducible refine Tst.dec (λ_=>?_) (λ_=>?_))<;>first|(exfalso;omega)|(conv=>whnf))|((with_reducible refine Tst.not ?_))|(refine Wit.conv ⟨by omega,by omega⟩ ?_;conv=>whnf)|((with_reducible refine IdxV.nat Oo ?_);conv=>whnf)|((with_reducible refine IdxV.at_ 0 ?_ Od ?_);rfl;(conv=>whnf))|((with_reducible refine IdxV.at_ 1 ?_ Od ?_);rfl;(conv=>whnf))|((with_reducible refine IdxV.at_ 2 ?_ Od ?_);rfl;(conv=>whnf))|((with_reducible refine IdxV.at_ 3 ?_ Od ?_);rfl;(conv=>whnf))|((with_reducible refine SameW.mk rfl ?_);conv=>whnf)|((with_reducible refine Tst.beqT ?_))|((with_reducible refine Tst.beqF ?_))|(refine Tst.yes rfl ?_;conv=>whnf)|(refine Tst.no rfl ?_;conv=>whnf)));exact⟨rfl,W⟩)));(conv=>whnf));apply StepG.of
 ·intro S H wd hk hp W;refine LoadV.mem W.2.1 (i:=0) rfl rfl (zw ?_);exact⟨rfl,W⟩
 apply StepG.of
 ·intro S H wd hk hp W;(conv=>whnf);refine zcv (qn6 a.kind b.kind wd) ?_;rintro v w7 ⟨rfl,rfl⟩;exact⟨rfl,W⟩
 (conv=>whnf);(apply StepG.of;(· intro S H wd hk hp W;(conv=>whnf);(first|exact⟨rfl,W⟩|((repeat'(first|(refine Obl.mk ⟨by omega,by omega⟩ ?_;conv=>whnf)|(refine Obl.mk ⟨by omega,by omega,⟨by omega,by omega⟩⟩ ?_;conv=>whnf)|((with_reducible refine Tst.tt ?_);conv=>whnf)|((with_reducible refine Tst.ff ?_);conv=>whnf)|((with_reducible refine Tst.dec (λ_=>?_) (λ_=>?_))<;>first|(exfalso;omega)|(conv=>whnf))|((with_reducible refine Tst.not ?_))|(refine Wit.conv ⟨by omega,by omega⟩ ?_;conv=>whnf)|((with_reducible refine IdxV.nat Oo ?_);conv=>whnf)|((with_reducible refine IdxV.at_ 0 ?_ Od ?_);rfl;(conv=>whnf))|((with_reducible refine IdxV.at_ 1 ?_ Od ?_);rfl;(conv=>whnf))|((with_reducible refine IdxV.at_ 2 ?_ Od ?_);rfl;(conv=>whnf))|((with_reducible refine IdxV.at_ 3 ?_ Od ?_);rfl;(conv=>whnf))|((with_reducible refine SameW.mk rfl ?_);conv=>whnf)|((with_reducible refine Tst.beqT ?_))|((with_reducible refine Tst.beqF ?_))|(refine Tst.yes rfl ?_;conv=>whnf)|(refine Tst.no rfl ?_;conv=>whnf)));exact⟨rfl,W⟩)));(conv=>whnf));apply StepG.of
 ·intro S H wd hk hp W;refine LoadV.mem W.2.1 (i:=1) rfl rfl (zw ?_);exact⟨rfl,W⟩
 (conv=>whnf);(apply StepG.of;(· intro S H wd hk hp W;(conv=>whnf);(first|exact⟨rfl,W⟩|((repeat'(first|(refine Obl.mk ⟨by omega,by omega⟩ ?_;conv=>whnf)|(refine Obl.mk ⟨by omega,by omega,⟨by omega,by omega⟩⟩ ?_;conv=>whnf)|((with_reducible refine Tst.tt ?_);conv=>whnf)|((with_reducible refine Tst.ff ?_);conv=>whnf)|((with_reducible refine Tst.dec (λ_=>?_) (λ_=>?_))<;>first|(exfalso;omega)|(conv=>whnf))|((with_reducible refine Tst.not ?_))|(refine Wit.conv ⟨by omega,by omega⟩ ?_;conv=>whnf)|((with_reducible refine IdxV.nat Oo ?_);conv=>whnf)|((with_reducible refine IdxV.at_ 0 ?_ Od ?_);rfl;(conv=>whnf))|((with_reducible refine IdxV.at_ 1 ?_ Od ?_);rfl;(conv=>whnf))|((with_reducible refine IdxV.at_ 2 ?_ Od ?_);rfl;(conv=>whnf))|((with_reducible refine IdxV.at_ 3 ?_ Od ?_);rfl;(conv=>whnf))|((with_reducible refine SameW.mk rfl ?_);conv=>whnf)|((with_reducible refine Tst.beqT ?_))|((with_reducible refine Tst.beqF ?_))|(refine Tst.yes rfl ?_;conv=>whnf)|(refine Tst.no rfl ?_;conv=>whnf)));exact⟨rfl,W⟩)));(conv=>whnf));apply StepG.of
 ·intro S H wd hk hp W;refine LoadV.mem W.2.1 (i:=0) rfl rfl (zw ?_);exact⟨rfl,W⟩
 apply StepG.of
 ·intro S H wd hk hp W;(conv=>whnf);refine zcv (qgt a.text b.text wd) ?_;rintro v w7 ⟨rfl,rfl⟩;exact⟨rfl,W⟩
 (conv=>whnf);(apply StepG.of;(· intro S H wd hk hp W;(conv=>whnf);(first|exact⟨rfl,W⟩|((repeat'(first|(refine Obl.mk ⟨by omega,by omega⟩ ?_;conv=>whnf)|(refine Obl.mk ⟨by omega,by omega,⟨by omega,by omega⟩⟩ ?_;conv=>whnf)|((with_reducible refine Tst.tt ?_);conv=>whnf)|((with_reducible refine Tst.ff ?_);conv=>whnf)|((with_reducible refine Tst.dec (λ_=>?_) (λ_=>?_))<;>first|(exfalso;omega)|(conv=>whnf))|((with_reducible refine Tst.not ?_))|(refine Wit.conv ⟨by omega,by omega⟩ ?_;conv=>whnf)|((with_reducible refine IdxV.nat Oo ?_);conv=>whnf)|((with_reducible refine IdxV.at_ 0 ?_ Od ?_);rfl;(conv=>whnf))|((with_reducible refine IdxV.at_ 1 ?_ Od ?_);rfl;(conv=>whnf))|((with_reducible refine IdxV.at_ 2 ?_ Od ?_);rfl;(conv=>whnf))|((with_reducible refine IdxV.at_ 3 ?_ Od ?_);rfl;(conv=>whnf))|((with_reducible refine SameW.mk rfl ?_);conv=>whnf)|((with_reducible refine Tst.beqT ?_))|((with_reducible refine Tst.beqF ?_))|(refine Tst.yes rfl ?_;conv=>whnf)|(refine Tst.no rfl ?_;conv=>whnf)));exact⟨rfl,W⟩)));(conv=>whnf));apply StepG.of
 ·intro S H wd hk hp W;refine LoadV.mem W.2.1 (i:=1) rfl rfl (zw ?_);exact⟨rfl,W⟩
 (conv=>whnf);(apply StepG.of;(· intro S H wd hk hp W;(conv=>whnf);(first|exact⟨rfl,W⟩|((repeat'(first|(refine Obl.mk ⟨by omega,by omega⟩ ?_;conv=>whnf)|(refine Obl.mk ⟨by omega,by omega,⟨by omega,by omega⟩⟩ ?_;conv=>whnf)|((with_reducible refine Tst.tt ?_);conv=>whnf)|((with_reducible refine Tst.ff ?_);conv=>whnf)|((with_reducible refine Tst.dec (λ_=>?_) (λ_=>?_))<;>first|(exfalso;omega)|(conv=>whnf))|((with_reducible refine Tst.not ?_))|(refine Wit.conv ⟨by omega,by omega⟩ ?_;conv=>whnf)|((with_reducible refine IdxV.nat Oo ?_);conv=>whnf)|((with_reducible refine IdxV.at_ 0 ?_ Od ?_);rfl;(conv=>whnf))|((with_reducible refine IdxV.at_ 1 ?_ Od ?_);rfl;(conv=>whnf))|((with_reducible refine IdxV.at_ 2 ?_ Od ?_);rfl;(conv=>whnf))|((with_reducible refine IdxV.at_ 3 ?_ Od ?_);rfl;(conv=>whnf))|((with_reducible refine SameW.mk rfl ?_);conv=>whnf)|((with_reducible refine Tst.beqT ?_))|((with_reducible refine Tst.beqF ?_))|(refine Tst.yes rfl ?_;conv=>whnf)|(refine Tst.no rfl ?_;conv=>whnf)));exact⟨rfl,W⟩)));(conv=>whnf));apply StepG.of
 ·intro S H wd hk hp W;refine LoadV.mem W.2.1 (i:=0) rfl rfl (zw ?_);exact⟨rfl,W⟩
 apply StepG.of
 ·intro S H wd hk hp W;(conv=>whnf);refine zcv (qgt a.type b.type wd) ?_;rintro v w7 ⟨rfl,rfl⟩;exact⟨rfl,W⟩
 (conv=>whnf);(apply StepG.of;(· intro S H wd hk hp W;(conv=>whnf);(first|exact⟨rfl,W⟩|((repeat'(first|(refine Obl.mk ⟨by omega,by omega⟩ ?_;conv=>whnf)|(refine Obl.mk ⟨by omega,by omega,⟨by omega,by omega⟩⟩ ?_;conv=>whnf)|((with_reducible refine Tst.tt ?_);conv=>whnf)|((with_reducible refine Tst.ff ?_);conv=>whnf)|((with_reducible refine Tst.dec (λ_=>?_) (λ_=>?_))<;>first|(exfalso;omega)|(conv=>whnf))|((with_reducible refine Tst.not ?_))|(refine Wit.conv ⟨by omega,by omega⟩ ?_;conv=>whnf)|((with_reducible refine IdxV.nat Oo ?_);conv=>whnf)|((with_reducible refine IdxV.at_ 0 ?_ Od ?_);rfl;(conv=>whnf))|((with_reducible refine IdxV.at_ 1 ?_ Od ?_);rfl;(conv=>whnf))|((with_reducible refine IdxV.at_ 2 ?_ Od ?_);rfl;(conv=>whnf))|((with_reducible refine IdxV.at_ 3 ?_ Od ?_);rfl;(conv=>whnf))|((with_reducible refine SameW.mk rfl ?_);conv=>whnf)|((with_reducible refine Tst.beqT ?_))|((with_reducible refine Tst.beqF ?_))|(refine Tst.yes rfl ?_;conv=>whnf)|(refine Tst.no rfl ?_;conv=>whnf)));exact⟨rfl,W⟩)));(conv=>whnf));apply StepG.of
 ·intro S H wd hk hp W;refine LoadV.mem W.2.1 (i:=1) rfl rfl (zw ?_);exact⟨rfl,W⟩
 (conv=>whnf);(apply StepG.of;(· intro S H wd hk hp W;(conv=>whnf);(first|exact⟨rfl,W⟩|((repeat'(first|(refine Obl.mk ⟨by omega,by omega⟩ ?_;conv=>whnf)|(refine Obl.mk ⟨by omega,by omega,⟨by omega,by omega⟩⟩ ?_;conv=>whnf)|((with_reducible refine Tst.tt ?_);conv=>whnf)|((with_reducible refine Tst.ff ?_);conv=>whnf)|((with_reducible refine Tst.dec (λ_=>?_) (λ_=>?_))<;>first|(exfalso;omega)|(conv=>whnf))|((with_reducible refine Tst.not ?_))|(refine Wit.conv ⟨by omega,by omega⟩ ?_;conv=>whnf)|((with_reducible refine IdxV.nat Oo ?_);conv=>whnf)|((with_reducible refine IdxV.at_ 0 ?_ Od ?_);rfl;(conv=>whnf))|((with_reducible refine IdxV.at_ 1 ?_ Od ?_);rfl;(conv=>whnf))|((with_reducible refine IdxV.at_ 2 ?_ Od ?_);rfl;(conv=>whnf))|((with_reducible refine IdxV.at_ 3 ?_ Od ?_);rfl;(conv=>whnf))|((with_reducible refine SameW.mk rfl ?_);conv=>whnf)|((with_reducible refine Tst.beqT ?_))|((with_reducible refine Tst.beqF ?_))|(refine Tst.yes rfl ?_;conv=>whnf)|(refine Tst.no rfl ?_;conv=>whnf)));exact⟨rfl,W⟩)));(conv=>whnf));apply StepG.of
 ·intro S H wd hk hp W;refine LoadV.mem W.2.1 (i:=0) rfl rfl (zw ?_);exact⟨rfl,W⟩
 apply StepG.of
 ·intro S H wd hk hp W;(conv=>whnf);refine zcv (qgt a.lang b.lang wd) ?_;rintro v w7 ⟨rfl,rfl⟩;exact⟨rfl,W⟩
 refine StepG.any (λS H wd hk hp W=>zw ?_) ?_
 ·refine⟨λnb wx hb hw=>?_⟩;have hm:=W.2.1.new hb hw;subst hb hw;(conv=>whnf);exact⟨trivial,W.1.trans ((ExtE.refl wd).alloc _),hm.sub (AS ..),λ_=>⟨_,rfl,heap_alloc_new wd _⟩⟩
 apply StepG.of
 ·intro S H wd hk hp W;obtain⟨nb,e,hn⟩:=W.2.2 (hp 20 Od);rw[qp e];(conv=>whnf);refine zcv (qvd _ _ _ _ nb wd hn) ?_;rintro v w7 ⟨rfl,rfl⟩;rw[q2l];exact⟨rfl,W.1,W.2.1,λ_=>⟨nb,rfl,hn⟩⟩
 (conv=>whnf);(apply StepG.of;(· intro S H wd hk hp W;(conv=>whnf);(first|exact⟨rfl,W⟩|((repeat'(first|(refine Obl.mk ⟨by omega,by omega⟩ ?_;conv=>whnf)|(refine Obl.mk ⟨by omega,by omega,⟨by omega,by omega⟩⟩ ?_;conv=>whnf)|((with_reducible refine Tst.tt ?_);conv=>whnf)|((with_reducible refine Tst.ff ?_);conv=>whnf)|((with_reducible refine Tst.dec (λ_=>?_) (λ_=>?_))<;>first|(exfalso;omega)|(conv=>whnf))|((with_reducible refine Tst.not ?_))|(refine Wit.conv ⟨by omega,by omega⟩ ?_;conv=>whnf)|((with_reducible refine IdxV.nat Oo ?_);conv=>whnf)|((with_reducible refine IdxV.at_ 0 ?_ Od ?_);rfl;(conv=>whnf))|((with_reducible refine IdxV.at_ 1 ?_ Od ?_);rfl;(conv=>whnf))|((with_reducible refine IdxV.at_ 2 ?_ Od ?_);rfl;(conv=>whnf))|((with_reducible refine IdxV.at_ 3 ?_ Od ?_);rfl;(conv=>whnf))|((with_reducible refine SameW.mk rfl ?_);conv=>whnf)|((with_reducible refine Tst.beqT ?_))|((with_reducible refine Tst.beqF ?_))|(refine Tst.yes rfl ?_;conv=>whnf)|(refine Tst.no rfl ?_;conv=>whnf)));exact⟨rfl,W⟩)));(conv=>whnf));intro H wd W;(conv=>whnf);exact⟨rfl,W.1⟩
theorem q2m(a:TM):cmpT a a=0:=qau.2 rfl
theorem swoT:Sort.SWO (ltOf cmpT) where
 irrefl x:=by rw[ltOf,q2m];rfl
 trans x y z h1 W:=by
  rw[ltOf,decide_eq_true_iff,qav]at *;exact h1.trans W
 ntrans x y z h1 W:=by
  rw[ltOf,decide_eq_false_iff_not,qav]at *;intro h3
  rcases LtT.tri x y with h|h|h
  ·exact h1 h
  ·subst h;exact W h3
  ·exact W (h.trans h3)
theorem qabp(g n:Nat)(w:DU):CmpLays Eg 20 #[] encT 4 cmpT g 0 n w:=by
 intro m W dk _ x y;refine(qry x y _).2.mono ?_;rintro e w' ⟨v,rfl,rfl,H⟩;exact⟨rfl,H.grow⟩
theorem qahy(args:Eh)(w:DU):(callFunc 20 args).run Eg w=.ok (.enter 20 args) w:=enters_of Tryz.func20 Jk rfl args w
theorem q3n(d:Array TM)(i:Nat):d[i]! = tmA d.toList i:=by
 rw[tmA,Ah,CU]
 by_cases h:i<d.size
 ·rw[getElem!_pos d i h,Cl h];rfl
 ·rw[getElem!_neg d i h,CQ Oo];rfl
theorem q65(Y:List TM)(A:oA)(c base:Nat)(w:DU)(h:w.ownsRow base 45 4 (.slice A Y.length c) Y.length (Y.map encT).flatten)(hl:Y.length<=1000000000000):
  Gv Eg 123 [.slice A Y.length c,.func (.func 20) #[] #[]] w λr w'=>r=.tuple #[]/\∃Y',Y'.Perm Y/\AscT Y'/\w'.ownsRow base 45 4 (.slice A Y.length c) Y.length (Y'.map encT).flatten/\Chn (rowF (.slice A Y.length c)) w w':=by
 rcases h.2 with⟨e1,e2⟩|⟨g,ah,cur,e1,hb,hg,hn,ad,ae,af⟩
 ·have h0:Y=[]:=Bg e2;subst h0;cases e1;refine qg0 Jk ((AnyF.slices_SortFunc_none { Tryz.srt with } none 0 (.func (.func 20) #[] #[]) w).mono ?_);rintro e w' ⟨rfl,rfl⟩;exact⟨_,rfl,rfl,[],List.Perm.refl _,(λi j _ hj=>by simp at hj),h,Chn.refl _ _⟩
 ·cases e1;have W:=qfp hg;refine qg0 Jk ((AnyQ.slices_SortFunc Tryz.srt 4 Tryz.isAgg45 Tryz.sizeOf45 encT qad (λx v hv=>q9 x v hv) cmpT swoT 20 #[] g 0 c Y.toArray w qahy (qabp g _ w) (q6a qad Od hg (by rw[af])) W Ys).mono ?_);rintro e w' ⟨rfl,H,n,os,⟨p1,_,p3⟩,hs,rfl⟩;have hz:H.size=Y.length:=by simpa using p1
  obtain⟨aa,r1,r2,r3⟩:=qra (m:=n) (os:=os) (d:=H) qad Od hg (by rw[hz];omega);have hp:H.toList.Perm Y:=by
   have e3:(H.extract 0 Y.toArray.size).toList=H.toList:=by
    rw[D8];simp[List.extract];exact Am (by simp[hz])
   have e4:(Y.toArray.extract 0 Y.toArray.size).toList=Y:=by simp
   rw[e3,e4]at p3;exact p3
  refine⟨_,rfl,rfl,H.toList,hp,λi j ag hj=>?_,⟨by rw[qcg encT 4 qad];simp[hz],.inr ⟨g,c,aa,rfl,hb,r1,hn,ad,by rw[r2,ae],by rw[<-hz];exact r3⟩⟩,?_⟩
  ·have h1:=hs i j (Ag _) ag (by simpa[hz]using hj);rw[ltOf,decide_eq_false_iff_not,qav,q3n,q3n]at h1;exact h1
  ·exact qq9 w g n H os W
namespace V
theorem q1b{t:DX}(H:w.heap[b]?=some (.cells cur t)):Chn [b] w (w.setRow b cs)/\(w.setRow b cs).heap[b]?=some (.cells cs t):=
 ⟨⟨rfl,rfl,rfl,by simp[World.setRow],λk _ hn=>qq λe=>hn (by rw[e];exact Ak.2 rfl)⟩,qbw H⟩
theorem StoreA.blk{t:DX}{K:Ec}(H:w.heap[b]?=some (.cells cur t))(hl:off+vs.length<=cur.size)(h1:∀v∈vs,v.oneCell'=true)(hk:∀w',Chn [b] w w'->w'.heap[b]?=some (.cells (cur.toList.take off++vs++cur.toList.drop (off+vs.length)).toArray t)->K w'):StoreA P w b off vs K:=by
 have W:=run_storeCells_at P b off t vs 0 cur w H (by simpa using hl) h1;simp only[BB]at W;obtain⟨h2,h3⟩:=q1b (cs:=(cur.toList.take off++vs++cur.toList.drop (off+vs.length)).toArray) H;exact⟨_,W,hk _ h2 h3⟩
end V
theorem qaer(a b:Q4):or4 (cmpT a.g b.g) (cmpT a.s b.s) (cmpT a.p b.p) (cmpT a.o b.o)=cmpQ a b:=rfl
theorem qrz(a b:Q4)(w:DU):Gv Eg 120 [qy a,qy b] w λr w'=>r=ii (cmpQ a b)/\Ext w w':=by
 refine ze Tryz.func120 Tryz.ntmps120 ?_;refine znm (Mem.nil w) λb1 w1 W=>zw ?_;refine znm W ?_;intro b2 w2 W;have aa:CellsAt w2 b1 0 (qf a):=CellsAt.mem W (zmc mh);have ad:CellsAt w2 b2 0 (qf b):=CellsAt.mem W mh;have hd:Ext w2 w2.drew:=(Ext.refl w2).drew;have c1:∀k,k<4->CellsAt w2.drew b1 (0+k*4) (encT (a.at k)):=λk hk=>(qm aa k hk).ext hd
 have c2:∀k,k<4->CellsAt w2.drew b2 (0+k*4) (encT (b.at k)):=λk hk=>(qm ad k hk).ext hd
 clear hd;(conv=>whnf);refine DrawV.free rfl Jk (zw ?_);refine zd ?_;apply zsd
 ·intro wd hd;(conv=>whnf);refine LoadA.cells ((c1 3 Od).ext hd) rfl (zw ?_);exact xq
 (conv=>whnf);refine zd ?_;apply zsd
 ·intro wd hd;(conv=>whnf);refine LoadA.cells ((c2 3 Od).ext hd) rfl (zw ?_);exact xq
 (conv=>whnf);apply zsd
 ·intro wd hd;(conv=>whnf);refine zcv (qey a.g b.g wd) ?_;rintro v w7 ⟨rfl,H⟩;exact⟨H,rfl⟩
 (conv=>whnf);refine zd ?_;apply zsd
 ·intro wd hd;(conv=>whnf);refine LoadA.cells ((c1 0 Od).ext hd) rfl (zw ?_);exact xq
 (conv=>whnf);refine zd ?_;apply zsd
 ·intro wd hd;(conv=>whnf);refine LoadA.cells ((c2 0 Od).ext hd) rfl (zw ?_);exact xq
 (conv=>whnf);apply zsd
 ·intro wd hd;(conv=>whnf);refine zcv (qey a.s b.s wd) ?_;rintro v w7 ⟨rfl,H⟩;exact⟨H,rfl⟩
 (conv=>whnf);refine zd ?_;apply zsd
 ·intro wd hd;(conv=>whnf);refine LoadA.cells ((c1 1 Od).ext hd) rfl (zw ?_);exact xq
 (conv=>whnf);refine zd ?_;apply zsd
 ·intro wd hd;(conv=>whnf);refine LoadA.cells ((c2 1 Od).ext hd) rfl (zw ?_);exact xq
 (conv=>whnf);apply zsd
 ·intro wd hd;(conv=>whnf);refine zcv (qey a.p b.p wd) ?_;rintro v w7 ⟨rfl,H⟩;exact⟨H,rfl⟩
 (conv=>whnf);refine zd ?_;apply zsd
 ·intro wd hd;(conv=>whnf);refine LoadA.cells ((c1 2 Od).ext hd) rfl (zw ?_);exact xq
 (conv=>whnf);refine zd ?_;apply zsd
 ·intro wd hd;(conv=>whnf);refine LoadA.cells ((c2 2 Od).ext hd) rfl (zw ?_);exact xq
 (conv=>whnf);apply zsd
 ·intro wd hd;(conv=>whnf);refine zcv (qey a.o b.o wd) ?_;rintro v w7 ⟨rfl,H⟩;exact⟨H,rfl⟩
 (conv=>whnf);apply StepD.of (λv wx=>∃nb,v=.slice (some ⟨nb,0,none⟩) 4 4/\wx.heap[nb]?=some (.cells #[ii (cmpT a.g b.g),ii (cmpT a.s b.s),ii (cmpT a.p b.p),ii (cmpT a.o b.o)] 3)) (λ_ _ _ h H=>let⟨nb,h1,h2⟩:=h;⟨nb,h1,H.get h2⟩)
 ·intro wd hd;(conv=>whnf);refine⟨λnb wx hb hw=>?_⟩;subst hb hw;(conv=>whnf);exact⟨(Ext.refl wd).alloc _,_,rfl,heap_alloc_new wd _⟩
 (conv=>whnf);apply zsd
 ·intro wd hd;(conv=>whnf);rintro v ⟨nb,rfl,hn⟩;(conv=>whnf);refine zcv (qvd _ _ _ _ nb wd hn) ?_;rintro v w7 ⟨rfl,rfl⟩;rw[qaer];exact xq
 (conv=>whnf);refine zd ?_;intro wd hd;conv=>whnf
 (repeat(intro _ _;(conv=>whnf)))
 exact⟨rfl,(W.drew.call hd).ext⟩
theorem qgy(a b:Q4)(w:DU):Gv Eg 147 [qy a,qy b] w λr w'=>r=ii (cmpQ a b)/\Ext w w':=by
 refine ze Tryz.func147 Tryz.ntmps147 ?_;refine znm (Mem.nil w) λb1 w1 H=>zw ?_;refine znm H ?_;intro b2 w2 H;have W:CellsAt w2 b1 0 (qf a):=CellsAt.mem H (zmc mh);have c2:CellsAt w2 b2 0 (qf b):=CellsAt.mem H mh;(conv=>whnf);refine LoadA.cells (qm W 3 Od) rfl (zw ?_);refine LoadA.cells (qm c2 3 Od) rfl (zw ?_);refine zcv (qbg a.g b.g w2) ?_;rintro r w3 ⟨rfl,aa⟩;have W:=W.ext aa;have c2:=c2.ext aa;have H:=H.call aa
 by_cases h0:cmpT a.g b.g=0
 ·refine zu ?_;refine LoadA.cells (qm W 0 Od) rfl (zw ?_);refine LoadA.cells (qm c2 0 Od) rfl (zw ?_);refine zcv (qbg a.s b.s w3) ?_;rintro r w4 ⟨rfl,ad⟩;have W:=W.ext ad;have c2:=c2.ext ad;have H:=H.call ad
  by_cases h1:cmpT a.s b.s=0
  ·refine zu ?_;refine LoadA.cells (qm W 1 Od) rfl (zw ?_);refine LoadA.cells (qm c2 1 Od) rfl (zw ?_);refine zcv (qbg a.p b.p w4) ?_;rintro r w5 ⟨rfl,ae⟩;have W:=W.ext ae;have c2:=c2.ext ae;have H:=H.call ae
   by_cases h2:cmpT a.p b.p=0
   ·refine zu ?_;refine LoadA.cells (qm W 2 Od) rfl (zw ?_);refine LoadA.cells (qm c2 2 Od) rfl (zw ?_);refine zcv (qbg a.o b.o w5) ?_;rintro r w6 ⟨rfl,af⟩;(conv=>whnf);exact⟨by rw[cmpQ,Aa (λg=>g h0),Aa (λg=>g h1),Aa (λg=>g h2)],(H.call af).ext⟩
   ·refine zu ?_;exact⟨by rw[cmpQ,Aa (λg=>g h0),Aa (λg=>g h1),Ad h2],H.ext⟩
  ·refine zu ?_;exact⟨by rw[cmpQ,Aa (λg=>g h0),Ad h1],H.ext⟩
 ·refine zu ?_;exact⟨by rw[cmpQ,Ad h0],H.ext⟩
section
variable (qs:List Q4) (A:oA) (n c:Nat) (w:DU)
theorem qakn(hS:SlAt qf 16 w A qs)(hn:qs.length=n)(hb:n<=140737488355328)(hq:∀q∈qs,qa5 q)(hM:MaxLenAt w)(hT:CellsAt w 4 0 qcb):
  Gv Eg 56 [.slice A n c] w λr w'=>(∃i:Int,r=.tuple #[ii i,ii (valE qs)])/\Ext w w':=by
 refine ze Tryz.func56 Tryz.ntmps56 ?_;refine zC (λ_=>zw ?_) (λ_=>zw ?_)
 ·exact⟨⟨0,by rw[qua Oo];rfl⟩,Ext.refl w⟩
 ·have H:¬1048576<qs.length:=by omega
  refine qk (λi:Nat=>[(0,.slice A n c),(11,.slice A n c),(12,ii n),(13,ii i)]) (λi w1=>i<=n/\(∀j r,j<i->qs[j]?=some r->qbo r=0)/\Ext w w1) (λi=>n-i) 0 fq ⟨Ag _,λj r h=>absurd h (BL _),Ext.refl w⟩ ?_;rintro i w1 am ⟨i1,i2,ad⟩;(conv=>whnf);refine zC (λ_=>zw ?_) (λ_=>zw ?_)
  ·have hi:i<qs.length:=by omega
   have ai:qs[i]?=some qs[i]:=zge hi;refine ElemV.sl (hS.ext ad) hn i rfl Oo ?_;intro eb eo ae;(conv=>whnf);refine LoadA.cells ae rfl (zw ?_);refine znm (Mem.nil w1) λnb w2 hm=>zw ?_;refine StoreA.all (vs:=qf qs[i]) hm (i:=0) rfl rfl (qb1 _) ?_;intro w3 hm;have hm:Mem w1 w3 [(nb,.cells (qf qs[i]).toArray 47)]:=hm;(conv=>whnf);refine zl hm 0 ?_;have W:=ad.trans hm.ext;refine zcv (qhz qs[i] (hq _ (AH hi)) w3 (hM.ext W) (hT.ext W)) ?_;rintro r w4 ⟨rfl,aa⟩;have aa:=W.trans aa;(conv=>whnf);refine zC (λ_=>zu ?_) (λ_=>zu ?_)
   ·exact⟨⟨i,by rw[qub H ai i2 rfl Oo]⟩,aa⟩
   ·refine⟨i+1,fq,⟨by omega,λj r hj hr=>?_,aa⟩,by omega⟩
    by_cases e:j=i
    ·subst e;rw[ai]at hr;cases hr;omega
    ·exact i2 j r Oo hr
  ·obtain rfl:i=n:=by omega
   have hz:∀q∈qs,qbo q=0:=λq hq=>by
    obtain⟨j,hj⟩:=AP.1 hq;exact i2 j q (by have:=(Af.1 hj).1;omega) hj
   refine qk (λk:Nat=>[(0,.slice A i c),(7,ii (k+1:Nat))]) (λk w1=>q1u qs (k+1)/\Ext w w1) (λk=>i-k) 0 fq ⟨λj h=>by omega,ad⟩ ?_;rintro k w2 an ⟨k1,af⟩;(conv=>whnf);refine zC (λ_=>zw ?_) (λ_=>zw ?_)
   ·have hk:k+1<qs.length:=by omega
    obtain⟨b,off,rfl,aj⟩:=(hS.ext af).at_ (by intro e;rw[e]at hk;cases hk);have ag:qs[k]?=some qs[k]:=zge Oo;have ah:qs[k+1]?=some qs[k+1]:=zge hk;have ak:=(aj k _ ag).ext (Ext.refl w2).drew;have al:=(aj (k+1) _ ah).ext (Ext.refl w2).drew;refine DrawV.free rfl Jk (zw ?_);(iterate 3 (refine zd ?_));refine zf ?_ (by intro wd hd;(conv=>whnf);refine⟨⟨b,off,k,rfl,by omega,by omega,?_⟩⟩;exact xq);apply zsd
    ·intro wd hd;(conv=>whnf);refine LoadA.cells (ak.ext hd) rfl (zw ?_);exact xq
    (conv=>whnf);refine zd ?_;refine zd ?_;refine zf ?_ (by intro wd hd;(conv=>whnf);refine⟨⟨b,off,(k+1),rfl,by omega,by omega,?_⟩⟩;exact xq);apply zsd
    ·intro wd hd;(conv=>whnf);refine LoadA.cells (al.ext hd) rfl (zw ?_);exact xq
    (conv=>whnf);apply zsd
    ·intro wd hd;(conv=>whnf);refine zcv (qrz qs[k] qs[k+1] wd) ?_;rintro v w7 ⟨rfl,he⟩;exact⟨he,rfl⟩
    (conv=>whnf);refine zd ?_;intro wd hd;have W:=(af.drew).trans hd;(conv=>whnf);refine zC (λ_=>zu ?_) (λ_=>zu ?_)
    ·refine⟨⟨(k+1:Nat),?_⟩,W⟩;rw[qzn H hz ag ah (λg=>by have:=qc9.2 g;omega)];rfl
    ·refine⟨k+1,⟨rfl,Ae (Value.int .i64) Oo,trivial⟩,⟨λj hj x y hx hy=>?_,W⟩,by omega⟩
     by_cases e:j=k
     ·subst e;rw[ag]at hx;rw[ah]at hy;cases hx;cases hy;exact qc9.1 Oo
     ·exact k1 j Oo x y hx hy
   ·exact⟨⟨0,by rw[q7j H hz (λj hj=>k1 j Oo)];rfl⟩,af⟩
theorem qwm(hS:SlAt qf 16 w A qs)(hn:qs.length=n)(hb:n<=140737488355328)(hq:∀q∈qs,qa5 q):
  Gv Eg 77 [.slice A n c] w λr w'=>(∃i:Int,r=.tuple #[ii i,ii (valE qs)])/\Ext w w':=by
 refine ze Tryz.func77 Tryz.ntmps77 ?_;refine zC (λ_=>zw ?_) (λ_=>zw ?_)
 ·exact⟨⟨0,by rw[qua Oo];rfl⟩,Ext.refl w⟩
 ·have H:¬1048576<qs.length:=by omega
  refine qk (λi:Nat=>[(0,.slice A n c),(4,ii i)]) (λi w1=>i<=n/\(∀j r,j<i->qs[j]?=some r->qbo r=0)/\Ext w w1) (λi=>n-i) 0 fq ⟨Ag _,λj r h=>absurd h (BL _),Ext.refl w⟩ ?_;rintro i w1 am ⟨i1,i2,aa⟩;(conv=>whnf);refine zC (λ_=>zw ?_) (λ_=>zw ?_)
  ·have hi:i<qs.length:=by omega
   have ah:qs[i]?=some qs[i]:=zge hi;refine ElemV.sl (hS.ext aa) hn i rfl Oo ?_;intro eb eo ad;(conv=>whnf);refine LoadA.cells ad rfl (zw ?_);refine zcv (qfi qs[i] (hq _ (AH hi)) w1) ?_;rintro r w4 ⟨rfl,W⟩;have W:=aa.trans W;(conv=>whnf);refine zC (λ_=>zu ?_) (λ_=>zu ?_)
   ·exact⟨⟨i,by rw[qub H ah i2 rfl Oo]⟩,W⟩
   ·refine⟨i+1,fq,⟨by omega,λj r hj hr=>?_,W⟩,by omega⟩
    by_cases e:j=i
    ·subst e;rw[ah]at hr;cases hr;omega
    ·exact i2 j r Oo hr
  ·obtain rfl:i=n:=by omega
   have hz:∀q∈qs,qbo q=0:=λq hq=>by
    obtain⟨j,hj⟩:=AP.1 hq;exact i2 j q (by have:=(Af.1 hj).1;omega) hj
   refine qk (λk:Nat=>[(0,.slice A i c),(6,ii (k+1:Nat))]) (λk w1=>q1u qs (k+1)/\Ext w w1) (λk=>i-k) 0 fq ⟨λj h=>by omega,aa⟩ ?_;rintro k w2 an ⟨k1,ae⟩;(conv=>whnf);refine zC (λ_=>zw ?_) (λ_=>zw ?_)
   ·have hk:k+1<qs.length:=by omega
    obtain⟨b,off,rfl,ai⟩:=(hS.ext ae).at_ (by intro e;rw[e]at hk;cases hk);have af:qs[k]?=some qs[k]:=zge Oo;have ag:qs[k+1]?=some qs[k+1]:=zge hk;have ak:=(ai k _ af).ext (Ext.refl w2).drew;have al:=(ai (k+1) _ ag).ext (Ext.refl w2).drew;refine DrawV.free rfl Jk (zw ?_);(iterate 3 (refine zd ?_));refine zf ?_ (by intro wd hd;(conv=>whnf);refine⟨⟨b,off,k,rfl,by omega,by omega,?_⟩⟩;exact xq);apply zsd
    ·intro wd hd;(conv=>whnf);refine LoadA.cells (ak.ext hd) rfl (zw ?_);exact xq
    (conv=>whnf);refine zd ?_;refine zd ?_;refine zf ?_ (by intro wd hd;(conv=>whnf);refine⟨⟨b,off,(k+1),rfl,by omega,by omega,?_⟩⟩;exact xq);apply zsd
    ·intro wd hd;(conv=>whnf);refine LoadA.cells (al.ext hd) rfl (zw ?_);exact xq
    (conv=>whnf);apply zsd
    ·intro wd hd;(conv=>whnf);refine zcv (qgy qs[k] qs[k+1] wd) ?_;rintro v w7 ⟨rfl,he⟩;exact⟨he,rfl⟩
    (conv=>whnf);refine zd ?_;intro wd hd;have aj:=(ae.drew).trans hd;(conv=>whnf);refine zC (λ_=>zu ?_) (λ_=>zu ?_)
    ·refine⟨⟨(k+1:Nat),?_⟩,aj⟩;rw[qzn H hz af ag (λg=>by have:=qc9.2 g;omega)];rfl
    ·refine⟨k+1,⟨rfl,Ae (Value.int .i64) Oo,trivial⟩,⟨λj hj x y hx hy=>?_,aj⟩,by omega⟩
     by_cases e:j=k
     ·subst e;rw[af]at hx;rw[ag]at hy;cases hx;cases hy;exact qc9.1 Oo
     ·exact k1 j Oo x y hx hy
   ·exact⟨⟨0,by rw[q7j H hz (λj hj=>k1 j Oo)];rfl⟩,ae⟩
end
def entA(t:TM):DV:=⟨(qal t).toArray⟩
def secA(T:List TM)(k:Nat):List DV:=(T.filter λt=>decide (t.kind=((k+1:Nat):Int))).map entA
theorem qabb(T:List TM)(k:Nat):txs (secA T k)=secE T k:=by
 rw[txs,secA,secE,DT];rfl
theorem qaa9{t:TM}(h:t.kind=((k+1:Nat):Int)):secA (T++[t]) k=secA T k++[entA t]:=by
 grind [secA]
theorem q6g{t:TM}(h:t.kind≠((k+1:Nat):Int)):secA (T++[t]) k=secA T k:=by
 grind [secA]
theorem qaba(T:List TM)(k:Nat):(secA T k).length<=T.length:=by
 grind [secA]
def vocW(T:List TM):Nat->LB
 | 0=>[]
 | k+1=>vocW T k++varL (qw (secE T k)).length
theorem qaib(T:List TM):vocB T=((vocW T 3++qw (secE T 0))++qw (secE T 1))++qw (secE T 2):=by
 grind [vocB,jo3,vocW]
theorem V.SlAt.keep{α:Type}{enc:α->Ee}{H:Nat}{l:List α}(h:SlAt enc H w A l)(W:∀k∈rowF (.slice A 0 0),w'.heap[k]?=w.heap[k]?):SlAt enc H w' A l:=by
 refine⟨λhn=>?_⟩;obtain⟨b,off,rfl,h4⟩:=h.at_ hn;refine⟨b,off,rfl,λj x hx k u hu=>?_⟩;have:=h4 j x hx k u hu;rw[<-this,World.cell?_of_block];exact W b (Ak.2 rfl)
def strV(L:List DV):Ee:=L.map Value.string
section
variable {w w1 w2:DU} {B:oA} {T:List TM} {xb tb:Nat} {t:TM} {U V:Eb} {L:Nat->List DV}
end
section
variable {w w1 w':DU} {B:oA} {T:List TM} {xb tb:Nat} {t:TM} {V:Eb} {L:Nat->List DV} {k:Nat} {s:DV} {s7 s9 s10 s12:Bool} {v9 v10:DZ}
end
theorem qwf(h:valE qs=0):(tmsQ qs).length<=4194304:=by
 have H:=qwh qs;have W:=qnd (trms qs).length (trms qs);have h3:=(qep h).1;have h4:(tmsQ qs).length=(tmsN (trms qs).length (trms qs)).length:=rfl;omega
theorem q0s{q:Q4}(h:qa5 q){t:TM}(H:t∈trQ q):TermOk t:=by
 unfold trQ at H
 rcases Bc.1 H with H|H
 ·simp only[AB,BQ,or_false]at H
  rcases H with rfl|rfl|rfl
  ·exact h 0
  ·exact h 1
  ·exact h 2
 ·split at H
  ·cases H
  ·simp only[AB,BQ,or_false]at H;subst H;exact h 3
theorem CellsAt.heap(h:w.heap[b]?=some (.cells vs.toArray e)):CellsAt w b 0 vs:=by
 intro k v H;rw[qa h,As,An];exact H
theorem qpn{L:List LB}(h:dicE L=0):(qw L).length<=70000000:=q2y (qlq h).n (qlq h).area
theorem qwq{T:List TM}:∀{i:Nat},i<=3->(∀j,j<i->dicE (secE T j)=0)->(vocW T i).length<=10*i
 | 0,_,_=>Ai _
 | i+1,h,hd=>by
  have H:=qwq (T:=T) (i:=i) Oo λj W=>hd j Oo
  have h2:=qpn (hd i Oo);have h3:=qbk 9 (qw (secE T i)).length Oo;rw[vocW,zla];omega
section
variable {d:LB} {n:Nat} (hn:n<=67108864) (hd:d.length=upN n 8) (hp:¬PadB d n)
include hn hd hp
omit hn hp in
theorem q7w:(qat d n).length=qbe n (cnt d n):=by
 grind [qd3,qbe,qcs,qa6,qz]
end
section
variable {d:LB} {n:Nat} (hn:n<=67108864) (hd:d.length=upN n 8) (hp:¬PadB d n)
include hn hd
end
namespace V
end V
def idsE(q:Nat->Nat):Ee:=[ii (q 0:Nat),ii (q 1:Nat),ii (q 2:Nat),ii (q 3:Nat)]
theorem qe2(q:Nat->Nat)(H:k<4):(idsE q)[k]?=some (ii (q k:Nat)):=by
 rcases(show k=0\/k=1\/k=2\/k=3 by omega)with rfl|rfl|rfl|rfl<;>rfl
theorem q9v(q:Nat->Nat):∀v∈idsE q,v.oneCell'=true:=by simp[idsE,Value.oneCell']
def idsW(q:Nat->Nat):DZ:=.agg #[ii (q 0:Nat),ii (q 1:Nat),ii (q 2:Nat),ii (q 3:Nat)]
theorem TOk.small{n:Nat}(h:TOk Q n)(hi:i<n)(H:k<4):Q i k<=4194304:=(h.num i k hi H).2
def eT(m:Nat):DX:=if m%2=0 then 164 else 5
def rwF(Z:Ef)(rb:Nat)(G:Eb):List Ef:=Z::[rb]::(List.range 8).map λm=>rowF (G m)
theorem qy7(Z:Ef)(rb:Nat)(G:Eb)(H:m<8):(rwF Z rb G)[m+2]?=some (rowF (G m)):=by
 show((List.range 8).map λm=>rowF (G m))[m]?=_;rw[Ao,Bu H];rfl
theorem qahd(Z:Ef)(rb:Nat)(G:Eb)(v:DZ):(rwF Z rb G).set (m+2) (rowF v)=rwF Z rb (updF G m v):=by
 show Z::[rb]::((List.range 8).map λm=>rowF (G m)).set m (rowF v)=Z::[rb]::(List.range 8).map λH=>rowF (updF G m v H)
 congr 2
 refine Bk λj=>?_;rw[Cr,Ao,Ao]
 by_cases h:j<8
 ·rw[Bu h]
  by_cases e:m=j
  ·subst e;rw[Ad rfl,Ad (by simpa using h),Bd,qb3]
  ·rw[Aa e,Bd,Bd,qac _ _ _ _ (λg=>e g.symm)]
 ·rw[Bh (by simpa using h)]
  split
  ·rw[Aa (by rename_i e;subst e;simpa using h)];rfl
  ·rfl
def updR(L:Nat->Ee)(m:Nat)(x:Ee):Nat->Ee:=λj=>if j=m then x else L j
theorem qj2(L:Nat->Ee)(m:Nat)(x:Ee):updR L m x m=x:=Ad rfl
theorem qgh(L:Nat->Ee)(m:Nat)(x:Ee)(h:j≠m):updR L m x j=L j:=Aa h
section
variable {w w1 w2:DU} {Z:Ef} {rb:Nat} {U G:Eb} {L:Nat->Ee}
end
theorem qagm{n:Nat}{v:DZ}(h:w.ownsRow base e 1 (.slice A n c) n xs)(hA:A=some ⟨g,0,none⟩)(_:j<n)(hw:w'=w.setCell ⟨g,j,none⟩ v):w'.ownsRow base e 1 (.slice A n c) n (xs.set j v)/\Chn [g] w w':=by
 subst hA;have H:=h.1
 rcases h.2 with⟨W,e2⟩|⟨g',ad,cur,W,hb,hg,h2,h3,h4,h5⟩
 ·cases W
 ·cases W;obtain⟨hc,aa⟩:=Chn.set hg hw;refine⟨⟨by simp[H],.inr ⟨g,c,_,rfl,hb,aa,h2,h3,by simp[h4],?_⟩⟩,hc⟩;rw[<-h5];simp[List.take_set]
def stJ(Q:Nat->Nat->Nat)(j i:Nat):List Bool:=if j=0 then List.replicate (leT Q 0 i) false else stT Q (j-1) i
theorem qhn(Q:Nat->Nat->Nat)(j i:Nat):(stJ Q j i).length=leT Q j i:=by
 rw[stJ]
 split
 ·rename_i h;subst h;exact List.length_replicate
 ·rw[qb2,BV Oo]
theorem qahp(Q:Nat->Nat->Nat)(h:j≠0)(i:Nat):stJ Q j i=stT Q (j-1) i:=Aa h
theorem qabh(h:frU Q i j=false):stJ Q j (i+1)=stJ Q j i:=by
 rw[stJ,stJ]
 split
 ·rename_i H;subst H;rw[qbh h]
 ·rw[stT,BV Oo,Aa (by rw[h];decide)]
theorem qaho(h:frU Q i j=true):stJ Q j (i+1)=stJ Q j i++[if j=0 then false else frU Q i (j-1)]:=by
 rw[stJ,stJ]
 split
 ·rename_i H;subst H;rw[qar h,List.replicate_succ']
 ·rw[stT,BV Oo,Ad h]
theorem qagd(h:frU Q i j=true):nuT Q j (i+1)=nuT Q j i++[Q i j]:=by rw[nuT,Ad h]
theorem qaag(h:frU Q i j=false):nuT Q j (i+1)=nuT Q j i:=by rw[nuT,Aa (by rw[h];decide)]
section
variable {w w1 w2:DU} {Z:Ef} {rb:Nat} {U G:Eb} {L:Nat->Ee}
end
def trW(Q:Nat->Nat->Nat)(n:Nat):Nat->LB
 | 0=>[]
 | k+1=>trW Q n k++varL (leT Q k n)
def trX(Q:Nat->Nat->Nat)(n:Nat):Nat->LB
 | 0=>trW Q n 4
 | k+1=>trX Q n k++lvB Q n k
theorem q63(Q:Nat->Nat->Nat)(n:Nat):trX Q n 4=qu Q n:=by
 simp only[trX,trW,qu,tlB,Bn,Aw,B4]
section
variable {Q:Nat->Nat->Nat} {n:Nat} (h:TOk Q n)
include h
theorem q62(k:Nat):(trW Q n k).length<=10*k:=by
 induction k with
 | zero=>exact Ai _
 | succ k H=>
  have W:=h.le k;have h2:=qbk 9 (leT Q k n) Oo;rw[trW,zla];omega
theorem qye(W:k<4):(lvB Q n k).length<=1100000000:=by
 have h1:=h.lvLen (k:=k);have h2:=h.le k;have h3:=h.wi W;have h4:leT Q k n*wiT (nuT Q k n)<=1048576*23:=B8 h2 h3;have h5:=h.le (k-1);rw[h1];have h6:k≠0->qbe (leT Q k n) (leT Q (k-1) n)<=1000000000:=λH=>qnl _ _ Oo (by
  have:=qso (Q:=Q) (k-1) n;rw[BV Oo]at this;exact this)
 split
 ·omega
 ·rename_i H;have:=h6 H;omega
theorem qakk(W:k<=4):(trX Q n k).length<=40+1100000000*k:=by
 induction k with
 | zero=>exact q62 h 4
 | succ k H=>
  have h1:=H Oo;have h2:=qye h (k:=k) Oo;rw[trX,zla];omega
end
section
variable {Q:Nat->Nat->Nat} {n:Nat} {w0 w w':DU} {b rb:Nat} {l:LB} {vs:Ee} {NA LA:Nat->oA} {Z:Ef}
end
theorem qajv{n:Nat}(h:TOk Q n)(hk:k<4):∀x∈nuT Q k n,x<2 ^ wiT (nuT Q k n):=λx hx=>by
 obtain⟨e,H,rfl⟩:=BY.1 hx;have W:=q5c (h.big hk) (e:=e) H;rw[Ah,zge H]at W;exact W
theorem qagk{α:Type}{enc:α->Ee}{H:Nat}(W:∀x,(enc x).length=H){n:Nat}{l:List α}(h:w.ownsRow base e H (.slice A n c) n ((l.map enc).flatten))(hn:l.length=n):SlAt enc H w A l:=by
 subst hn;refine⟨λaa=>?_⟩
 rcases h.2 with⟨e1,e2⟩|⟨g,ad,cur,e1,_,h2,_,_,h5,h6⟩
 ·exact absurd (Bg e2) aa
 ·cases e1;refine⟨g,0,rfl,λj x hx k v hv=>?_⟩;have hj:=(Af.1 hx).1;have hk:k<H:=by rw[<-W x];exact(Af.1 hv).1
  have h7:=qdg enc H W l j x k hx hk;have h8:j*H+k<l.length*H:=by
   have:(j+1)*H<=l.length*H:=Bx _ hj;rw[Cz]at this;omega
  rw[<-h6,BE,Ad h8,hv]at h7;rw[qa h2,As]
  simpa using h7
theorem q9u(q:Nat->Nat):(idsE q).length=4:=rfl
def qx5(T:List TM)(qs:List Q4)(i:Nat):Ee:=(((List.range i).map (noQ T qs)).map idsE).flatten
theorem qux(T:List TM)(qs:List Q4){q:Q4}(h:qs[i]?=some q):qx5 T qs (i+1)=qx5 T qs i++idsE λk=>noT T (gat q k):=by
 have e:noQ T qs i=λk=>noT T (gat q k):=funext λk=>qia h
 simp[qx5,Ck,e]
def EncR(qs:List Q4)(H:Int)(w w':DU)(r:DZ):Prop:=
 (encE qs H≠0/\r=.tuple #[.slice none 0 0,ii (encE qs H:Nat)]/\Ext w w')\/(encE qs H=0/\∃v,r=.tuple #[v,ii 0]/\NewS 5 w w' v (pkB qs))
namespace V
theorem RunV.eqQd{a b:Q4}(h:K (.bool (qdx a b)) w):
  RunV Eg (do eqGuard .eql 47 xo yo (qy a) (qy b);binOp .eql 47 (qy a) (qy b)) w K:=by
 refine⟨_,w,?_,h⟩;rw[Sem.run_bind,qy,qy,run_eqGuard_agg w .eql _ xo yo _ _ qafe,Result.andThen_ok];have e:=qg5 9997 a b w;simp only[qy]at e;rw[run_eql_struct,e];rfl
end V
end Go.Proofs.YtccmcfpmknpccaaGreatDoor
