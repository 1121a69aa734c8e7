/- Lemmas and contracts of functions on the way to the law's card (part 14 of 20). -/
import Derived.Test.YtccmcfpmknpccaaGreatDoorSA13
namespace Go.Proofs.YtccmcfpmknpccaaGreatDoor
set_option maxHeartbeats 8000000
open Go.RowKit V
set_option maxHeartbeats 8000000
set_option maxRecDepth 100000
variable {N a b base c d g i j k m off sz:Nat} {T:List TM} {qs:List Q4} {w w' w0:DU} {F G:Ef} {cs cur:Eh} {fr:Nat×Nat} {e ty:DX} {news vs xs:Ee} {P:DW} {z:DZ} {A B:oA} {K:Ea} {l:LB} {X Y:Ed} {p:Prop} {J:Ed->Ec} {Q:Nat->Nat->Nat}
structure AhN(L:List LB)(s:DV)(N:Nat):Prop where
 le:N<=L.length
 lt:∀i,i<N->ltx L i s=true
 ge:N<L.length->ltx L N s=false
theorem DOk.txt{L:List LB}(h:DOk L)(hi:i<L.length):dTxt (qw L) i=tx L i:=by
 have H:=(qum (m:=qw L) (by rw[h.eoE]) (i:=i) (by rw[h.eN];exact hi)).2;rw[h.eGet hi]at H;exact(Bb H).symm
theorem q18(b k:Nat)(w:DU):Gv Eg 324 [pp b,ii k] w λr w'=>
  ∃b1 b2,r=.func (.func 370) #[] #[pp b1,pp b2]/\Mem w w' [(b2,.cells #[ii k] 3),(b1,.cells #[pp b] 300)]:=by
 refine ze Tryz.func324 Tryz.ntmps324 ?_;refine znm (Mem.nil w) ?_;intro b1 U H;refine znm H λb2 V H=>zw ?_;exact⟨b1,b2,rfl,H⟩
theorem q1x(L:List LB)(V:DOk L)(b sb:Nat)(s:DV)(w:DU)(hD:DictAt w b (qw L))(hs:w.cell? ⟨sb,0,none⟩=some (.string s)):
  Gv Eg 247 [pp b,.func (.func 248) #[] #[pp sb]] w λr w'=>(∃N:Nat,r=ii N/\AhN L s N)/\Ext w w':=by
 have hn:=V.n;have av:upN L.length 16<=4194304:=AI (qbc _ _ Od) hn;refine gvW Jk Tryz.func247 rfl Tryz.ntmps247 rfl (zw ?_);refine znm (Mem.nil w) ?_;intro b2 w1 H;refine znm H λb3 w2 H=>zw ?_;obtain⟨fv,aj⟩:∃fv:DZ,fv=.func (.func 248) #[] #[pp sb]:=⟨_,rfl⟩
 refine zR H 1 ?_;obtain⟨P,cp,E,ce,ak,_,_,_⟩:=(hD.ext H.ext).1;refine LoadV.own ak rfl ?_;rw[V.eN];(conv=>whnf);refine zcv (qn2 L.length w2 hn) ?_;rintro v w' ⟨rfl,rfl⟩;(conv=>whnf);have al:=qv6 321 (pp b2) (pp b3) (upN L.length 16) (λi => !(decide (16*i<L.length)&&ltx L (16*i) s)) w' av (λi j a0 h=>by
  simp only[Dm,Bool.and_eq_false_iff,decide_eq_false_iff_not]at h|-
  by_cases U:16*j<L.length
  ·right
   have h1:=h.resolve_left (λg=>g Oo);cases Z:ltx L (16*j) s
   ·rfl
   ·rw[V.ltx_up Oo U Z]at h1;cases h1
  ·exact .inl U) (λi w2 hi he=>(qzs L V b b2 b3 sb i s w2 (hD.ext (H.ext.trans he)) hi (by rw[qa (he.get (H.get (zmc mh)))];rfl) (by rw[qa (he.get (H.get mh))];rfl) ((H.ext.trans he).cell hs)).mono λr w3 ⟨h1,h2⟩=>⟨by
    have am:16*i<L.length:=by unfold upN at hi;omega
    rw[h1,AE am,CH],h2⟩)
 refine zcv (al) ?_;rintro v w3 ⟨k,rfl,a1,aa,ad,aw⟩;have H:=H.call aw;clear al;have an:∀i,i<upN L.length 16->16*i<L.length:=λi h=>by unfold upN at h;omega
 have aa:∀i,i<k->ltx L (16*i) s=true:=λi h=>by
  have h1:=aa i h;have h2:=an i Oo
  simpa[h2]using h1
 have ad:∀i,k<=i->16*i<L.length->ltx L (16*i) s=false:=λi h h2=>by
  have h1:=ad i h (by unfold upN;omega)
  simpa[h2]using h1
 clear ak;(conv=>whnf);refine zC (λ_=>zu ?_) (λ_=>zu ?_)
 ·obtain rfl:k=0:=by omega
  exact⟨⟨0,rfl,Ag _,λi h=>by omega,λh=>ad 0 znr h⟩,H.ext⟩
 obtain⟨q,rfl⟩:∃q,k=q+1:=⟨k-1,by omega⟩
 rw[show(((q+1:Nat):Int)-1)=(q:Int)by omega];refine znm H ?_;intro b6 w4 H;refine StoreV.mem H (i:=0) rfl Js rfl ?_;intro w5 H;refine zr H 2 ?_;refine zv ?_;rw[show(((q+1:Nat):Int)-1)=(q:Int)by omega];refine zcv (q18 b q w5) ?_;rintro v w6 ⟨b1,b7,rfl,ae⟩;have H:=H.glue ae;have ao:dN (qw L)=L.length:=V.eN;obtain⟨n,en⟩:∃n,n=min 16 (L.length-16*q):=⟨_,rfl⟩
 have ax:BEnd (qw L) q n:=by
  have:=BEnd.full (m:=qw L) (by rw[V.eoE]) q;rw[ao,<-en]at this;exact this
 have af:=an q Oo;obtain⟨R,eR⟩:∃R:Nat->Ed,R=λk=>[(b7,.cells #[ii q] 3),(b1,.cells #[pp b] 300),(b6,.cells #[ii (16*q+k:Nat)] 3),(b3,.cells #[fv] 360),(b2,.cells #[pp b] 300)]:=⟨_,rfl⟩
 have H:Mem w w6 (R 0):=by
  rw[eR,aj];dsimp only;rw[show((16*q+0:Nat):Int)=(q:Int)*16 by omega];exact H
 have aq:∀k,(b1,Obj.cells #[pp b] 300)∈R k:=λk=>by rw[eR];exact zmg (i:=1) rfl
 have ar:∀k,(b7,Obj.cells #[ii q] 3)∈R k:=λk=>by rw[eR];exact zmg (i:=0) rfl
 have ag:((List.range n).map (bRow (qw L) q)).length=n:=by simp
 refine qyt (Φ:=BlkΦ b (qw L) q b1 b7) (lb:=[pp b1,pp b7]) (xs:=(List.range n).map (bRow (qw L) q)) rfl Jk (qru b (qw L) q n b1 b7 (by rw[ao];omega) ax).toC Od ?_
  (λk X w'=>∃_:Unit,(k<=n/\∀j,j<k->ltx L (16*q+j) s=true)/\Mem w w' (X++R k))
  (λc k X w'=>∃_:Unit,(c=.exit 0/\k<n/\(∀j,j<k->ltx L (16*q+j) s=true)/\ltx L (16*q+k) s=false)/\Mem w w' (X++R k))
  (λk=>Carr.mem _ _) (λc k=>Carr.mem _ _) (λk X w' ⟨_,_,ah⟩=>⟨hD.ext ah.ext,by rw[qa (ah.get (Ac _ (aq _)))];rfl,by rw[qa (ah.get (Ac _ (ar _)))];rfl⟩) ⟨(),⟨Ag _,λj h=>by omega⟩,by simpa using H⟩ ?_ ?_ ?_
 ·intro x Z;obtain⟨j,_,rfl⟩:=AF.1 Z;rfl
 ·clear H ae;rintro l D ob k x X w7 w8 Z ⟨_,⟨hk,U⟩,H⟩;have ai:k<n:=by
   have:=(Af.1 Z).1
   rwa[ag]at this
  rw[Ao,Bu ai,Bd,AR,q8b _ _ _ Oo,V.txt Oo]at Z;subst Z;obtain⟨X',ay⟩:∃X',X'=(l,ob)::(D,.deferred (some []))::X:=⟨_,rfl⟩
  rw[<-ay]at H|-;have H:Mem w w8 (R k++X'):=H.perm Au;rw[eR]at H|-;dsimp only at H|-;rw[aj]at H|-;(conv=>whnf);refine⟨rfl,rfl,?_⟩;refine zr H 3 ?_;refine zcv (qsa sb ⟨(tx L (16*q+k)).toArray⟩ s w8 (H.ext.cell hs)) ?_;rintro r w9 ⟨rfl,az⟩;have H:=H.call az;cases au:slt ⟨(tx L (16*q+k)).toArray⟩ s
  ·refine zu ?_;exact⟨(),⟨rfl,ai,U,au⟩,H.perm Au⟩
  ·refine zu ?_;refine StoreV.mem H (i:=2) rfl Js rfl λa2 H=>zw ?_;refine⟨(),⟨ai,λj' a3=>?_⟩,?_⟩
   ·by_cases e:j'=k
    ·subst e;exact au
    ·exact U j' Oo
   ·rw[show((16*q+(k+1):Nat):Int)=((16*q+k:Nat):Int)+1 by omega];exact H.perm Au
 ·clear H ae;rintro D w8 ⟨_,⟨hk,U⟩,H⟩;rw[ag]at hk U H;have H:=H.perm (List.Perm.cons _ (show(([]:Ed)++R n).Perm (R n)from List.Perm.refl _));rw[eR]at H;refine zR H 3 ?_;refine LeaveV.mark (H.get mh) λw9 hw=>?_;have H:=H.setO (i:=0) _ rfl hw;(conv=>whnf);refine⟨⟨16*q+n,rfl,by omega,λi hi=>?_,λhl=>?_⟩,H.ext⟩
  ·by_cases g:i<16*q
   ·exact V.ltx_up (j:=16*q) Oo af (aa q Oo)
   ·obtain⟨j,rfl⟩:∃j,i=16*q+j:=⟨i-16*q,by omega⟩
    exact U j Oo
  ·have hN:16*q+n=16*(q+1):=by omega
   rw[hN]at hl|-;exact ad (q+1) znr hl
 ·clear H ae;rintro D c k w8 a4 ⟨_,⟨rfl,hk,U,Z⟩,H⟩;rw[eR]at H;refine zR H 3 ?_;refine LeaveV.mark (H.get mh) λw9 hw=>?_;have H:=H.setO (i:=0) _ rfl hw;(conv=>whnf);refine⟨⟨16*q+k,rfl,by omega,λi hi=>?_,λhl=>?_⟩,H.ext⟩
  ·by_cases g:i<16*q
   ·exact V.ltx_up (j:=16*q) Oo af (aa q Oo)
   ·obtain⟨j,rfl⟩:∃j,i=16*q+j:=⟨i-16*q,by omega⟩
    exact U j Oo
  ·exact Z
theorem q9g(L:List LB)(V:DOk L)(b:Nat)(s:DV)(w:DU)(hD:DictAt w b (qw L)):
  Gv Eg 176 [pp b,.string s] w λr w'=>(∃N:Nat,AhN L s N/\r=.tuple #[ii N,.bool (decide (N<L.length/\(⟨(tx L N).toArray⟩:DV)=s))])/\Ext w w':=by
 have hn:=V.n;refine ze Tryz.func176 Tryz.ntmps176 ?_;refine znm (Mem.nil w) λsb w1 H=>zw ?_;refine zcv (q1x L V b sb s w1 (hD.ext H.ext) (by rw[qa (H.get mh)];rfl)) ?_;rintro r w2 ⟨⟨N,rfl,hN⟩,Z⟩;have H:=H.call Z;have ad:=hN.le;(conv=>whnf);refine zcv (qxr b (qw L) N w2 (hD.ext H.ext) Oo) ?_;rintro r w3 ⟨rfl,aa⟩;have H:=H.call aa
 by_cases U:N<L.length
 ·have hg:qi6 (qw L) N=.tuple #[.string ⟨(tx L N).toArray⟩,.bool true]:=by rw[qi6,V.eGet U]
  rw[hg];(conv=>whnf);refine zy ?_;refine zv ?_;refine zr H.drew 0 ?_;refine zv ?_;refine⟨⟨N,hN,?_⟩,H.drew.ext⟩;have e:seq ⟨(tx L N).toArray⟩ s=decide (N<L.length/\(⟨(tx L N).toArray⟩:DV)=s):=by
   cases hq:seq ⟨(tx L N).toArray⟩ s
   ·exact(AM λg=>qtr.1 hq g.2).symm
   ·exact(AE ⟨U,qaf.1 hq⟩).symm
  rw[e]
 ·have hg:qi6 (qw L) N=.tuple #[.string ⟨#[]⟩,.bool false]:=by rw[qi6,dGet,Aa (by rw[V.eN];exact U)]
  rw[hg];(conv=>whnf);refine zy ?_;refine zv ?_;refine⟨⟨N,hN,?_⟩,H.drew.ext⟩;have e:decide (N<L.length/\(⟨(tx L N).toArray⟩:DV)=s)=false:=AM λg=>U g.1
  rw[e]
theorem AhN.at{L:List LB}(h:DOk L){s:DV}(hN:AhN L s N)(H:j<L.length)(V:(⟨(tx L j).toArray⟩:DV)=s):N=j:=by
 rcases CG N j with g|g|g
 ·have U:=hN.ge Oo;have Z:=h.up g H
  grind [ltx]
 ·exact g
 ·have U:=hN.lt j g
  grind [ltx,qjx]
section
variable {T:List TM} (h:VOk T) (hr:RiseT T) (hk:∀t∈T,1<=t.kind/\t.kind<=3)
include h hr hk
theorem VOk.num{t:TM}(U:k<3)(H:(ofK T k)[j]?=some t):noT T t=vTot (vocB T) k+1+j:=by
 have e:=qvc hr hk;have t1:=h.tot1;have t2:=h.tot2;have t0:vTot (vocB T) 0=0:=rfl;have hl:=(Af.1 H).1;have V:=qkz (zmg H);obtain⟨A,eA⟩:∃A,A=ofK T 0:=⟨_,rfl⟩
 obtain⟨B,eB⟩:∃B,B=ofK T 1:=⟨_,rfl⟩
 obtain⟨C,eC⟩:∃C,C=ofK T 2:=⟨_,rfl⟩
 have Z:∀m:Nat,T[m]?=(A++(B++C))[m]?:=λm=>by grind
 have hT:T[vTot (vocB T) k+j]?=some t:=by
  rw[Z]
  rcases(show k=0\/k=1\/k=2 by omega)with rfl|rfl|rfl
  all_goals grind
 grind [qf0]
theorem VOk.find{t:TM}(H:k<3)(ht:t∈T)(U:t.kind=((k+1:Nat):Int))(hN:AhN (secE T k) ⟨(qal t).toArray⟩ N):N<(secE T k).length/\(⟨(tx (secE T k) N).toArray⟩:DV)=⟨(qal t).toArray⟩/\noT T t=vTot (vocB T) k+1+N:=by
 have hm:t∈ofK T k:=BK.2 ⟨ht,by simpa using U⟩;obtain⟨j,V⟩:=AP.1 hm;have hl:=(Af.1 V).1;have Z:tx (secE T k) j=qal t:=by grind [tx,qcz]
 have aa:(secE T k).length=(ofK T k).length:=by grind [qcz]
 obtain rfl:=hN.at (h.d k H) (j:=j) Oo (by rw[Z])
 exact⟨by omega,by rw[Z],h.num hr hk H V⟩
end
structure OrdC{α:Type}(c:α->α->Int):Prop where
 eq:∀{a b:α},c a b=0↔a=b
 sym:∀{a b:α},c a b<0↔0<c b a
 trans:∀{a b d:α},c a b<0->c b d<0->c a d<0
def RiseC{α:Type}(c:α->α->Int)(l:List α):Prop:=l.Pairwise λa b=>c a b<0
section
variable {α:Type} {c:α->α->Int} (O:OrdC c)
include O
theorem OrdC.irr(a:α):¬c a a<0:=by have:=O.eq (a:=a) (b:=a) |>.2 rfl;omega
theorem OrdC.tri(a b:α):c a b<0\/a=b\/c b a<0:=by
 rcases Int.lt_trichotomy (c a b) 0 with h|h|h
 ·exact .inl h
 ·exact .inr (.inl (O.eq.1 h))
 ·exact .inr (.inr (O.sym.2 h))
theorem RiseC.same:∀{a b:List α},RiseC c a->RiseC c b->(∀y,y∈a↔y∈b)->a=b
 | [],[],_,_,_=>rfl
 | [],x::b,_,_,h=>absurd ((h x).2 mh) Js
 | x::a,[],_,_,h=>absurd ((h x).1 mh) Js
 | x::a,u::b,Z,hb,h=>by
  have U:=Bo.1 Z;have V:=Bo.1 hb;have e:x=u:=by
   rcases AB.1 ((h x).1 mh)with e|hx
   ·exact e
   ·rcases AB.1 ((h u).2 mh)with e|hu
    ·exact e.symm
    ·exact absurd (O.trans (U.1 u hu) (V.1 x hx)) (O.irr x)
  subst e;rw[RiseC.same U.2 V.2 λy=>?_]
  constructor
  ·intro H
   rcases AB.1 ((h y).1 (zmc H))with e|g
   ·subst e;exact absurd (U.1 y H) (O.irr y)
   ·exact g
  ·intro H
   rcases AB.1 ((h y).2 (zmc H))with e|g
   ·subst e;exact absurd (V.1 y H) (O.irr y)
   ·exact g
end
theorem quv{a b:Q4}(h:∀k,k<4->gat a k=gat b k):a=b:=by
 have H:a.g=b.g:=h 0 Od;have U:a.s=b.s:=h 1 Od;have V:a.p=b.p:=h 2 Od;have Z:a.o=b.o:=h 3 Od;cases a;simp_all
theorem LtQ.tri(a b:Q4):LtQ a b\/a=b\/LtQ b a:=by
 by_cases h:∃k,k<4/\gat a k≠gat b k
 ·have aa:∀n k,k<=n->k<4->gat a k≠gat b k->LtQ a b\/a=b\/LtQ b a:=by
   intro n
   induction n with
   | zero=>
    intro k hk H V;have e:k=0:=by omega
    subst e
    rcases LtT.tri (gat a 0) (gat b 0)with g|g|g
    ·exact .inl ⟨0,H,λj U=>absurd U (BL _),g⟩
    ·simp_all
    ·exact .inr (.inr ⟨0,H,λj U=>absurd U (BL _),g⟩)
   | succ n ih=>
    intro k hk H V
    by_cases U:∃j,j<k/\gat a j≠gat b j
    ·grind
    ·have hs:∀j,j<k->gat a j=gat b j:=λj g=>AD λZ=>U ⟨j,g,Z⟩
     rcases LtT.tri (gat a k) (gat b k)with g|g|g
     ·exact .inl ⟨k,H,hs,g⟩
     ·simp_all
     ·exact .inr (.inr ⟨k,H,λj U=>(hs j U).symm,g⟩)
  grind
 ·exact .inr (.inl (quv λk hk=>AD λZ=>h ⟨k,hk,Z⟩))
theorem LtQ.irr(a:Q4):¬LtQ a a:=λ⟨_,_,_,h⟩=>h.ne rfl
theorem quj{a b:Q4}:cmpQ a b=0↔a=b:=by
 constructor
 ·intro h;have e:cmpT a.g b.g=0/\cmpT a.s b.s=0/\cmpT a.p b.p=0/\cmpT a.o b.o=0:=by
   grind [cmpQ]
  obtain⟨H,U,V,Z⟩:=e;refine quv λk hk=>?_
  rcases(show k=0\/k=1\/k=2\/k=3 by omega)with rfl|rfl|rfl|rfl
  ·exact qau.1 H
  ·exact qau.1 U
  ·exact qau.1 V
  ·exact qau.1 Z
 grind [qau,cmpQ]
theorem ordQ:OrdC cmpQ where
 eq:=quj
 sym {a b}:=by
  constructor
  ·intro h;have H:=qc9.1 h;have U:¬cmpQ b a<0:=λg=>LtQ.irr a (H.trans (qc9.1 g))
   grind [quj]
  ·intro h
   rcases LtQ.tri a b with g|g|g
   ·exact qc9.2 g
   ·grind [quj]
   ·have:=qc9.2 g;omega
 trans h g:=qc9.2 ((qc9.1 h).trans (qc9.1 g))
open Classical
noncomputable section
end
def aheC(q:Q4):List Q4->Nat
 | []=>0
 | x::L=>if cmpQ x q<0 then aheC q L+1 else 0
theorem qrr{q:Q4}:∀{L:List Q4},RiseC cmpQ L->(L[aheC q L]?=some q↔q∈L)
 | [],_=>by simp
 | x::L,h=>by
  obtain⟨V,Z⟩:=Bo.1 h;rw[aheC]
  split
  ·rename_i H
   rw[BR,qrr Z,AB]
   constructor
   ·exact .inr
   ·rintro(rfl|g)
    ·exact absurd H (ordQ.irr q)
    ·exact g
  ·rename_i U
   rw[AT,AB]
   constructor
   ·intro e;cases e;exact .inl rfl
   ·rintro(rfl|g)
    ·rfl
    ·exact absurd (V q g) U
def fitT(p t:TM):Bool:=decide (p.kind=4)||qaj p t
def fitQ(p q:Q4):Bool:=fitT p.s q.s&&fitT p.p q.p&&fitT p.o q.o&&fitT p.g q.g
theorem qpx(p q:Q4):fitQ p q=(fitT (gat p 0) (gat q 0)&&(fitT (gat p 1) (gat q 1)&&(fitT (gat p 2) (gat q 2)&&fitT (gat p 3) (gat q 3)))):=by
 show(fitT p.s q.s&&fitT p.p q.p&&fitT p.o q.o&&fitT p.g q.g)=(fitT p.g q.g&&(fitT p.s q.s&&(fitT p.p q.p&&fitT p.o q.o)))
 grind
def idT(T:List TM)(t:TM):Int:=if t.kind=4 then -1 else(noT T t:Nat)
def KnT(T:List TM)(t:TM):Prop:=t.kind=4\/t∈T\/t=zTM
theorem qagb(hr:RiseT T)(hk:∀t∈T,1<=t.kind){a b:TM}(H:a∈T\/a=zTM)(U:b∈T\/b=zTM)(h:noT T a=noT T b):a=b:=by
 grind [List.mem_iff_getElem?,qf0,zTM,qgo]
theorem qaim(hr:RiseT T)(hk:∀t∈T,1<=t.kind){P:Nat->Int}{p t:TM}(V:P k=idT T p)(Z:t∈T\/t=zTM)(U:KnT T p):agB P k (noT T t)=fitT p t:=by
 rw[agB,V,idT,fitT]
 by_cases H:p.kind=4
 ·simp_all
 ·rw[Aa H,AM H,D5];have U:=U.resolve_left H
  grind [q6,qagb]
theorem qad5(hr:RiseT T)(hk:∀t∈T,1<=t.kind){P:Nat->Int}{p:Q4}(H:∀k,k<4->P k=idT T (gat p k))(U:∀k,k<4->KnT T (gat p k)){q:Q4}(hi:qs[i]?=some q)(V:∀k,k<4->gat q k∈T\/gat q k=zTM):
  agF P (noQ T qs) i 0 4=fitQ p q:=by
 grind [qaim,qpx,agF,qia]
theorem q3e{p q:Q4}(H:k<4)(U:¬KnT T (gat p k))(V:∀k,k<4->gat q k∈T\/gat q k=zTM):fitQ p q=false:=by
 have h:fitT (gat p k) (gat q k)=false:=by
  grind [fitT,q6,KnT]
 grind [qpx]
def qbd(p:Q4)(qs:List Q4):Ef:=(List.range qs.length).filter λi=>match qs[i]? with
 | some q=>fitQ p q
 | none=>false
theorem qmb(hr:RiseT T)(hk:∀t∈T,1<=t.kind)(H:∀q∈qs,∀k,k<4->gat q k∈T\/gat q k=zTM){P:Nat->Int}{p:Q4}(U:∀k,k<4->P k=idT T (gat p k))(V:∀k,k<4->KnT T (gat p k)):
  maT P (noQ T qs) 0 0 qs.length=qbd p qs:=by
 grind [maT,qbd,List.filter_congr,qad5]
theorem q48(U:∀q∈qs,∀k,k<4->gat q k∈T\/gat q k=zTM){p:Q4}(H:k<4)(V:¬KnT T (gat p k)):qbd p qs=[]:=by
 grind [qbd,List.filter_eq_nil_iff,q3e]
theorem q0f(p:Q4)(qs:List Q4):(qbd p qs).filterMap (λi=>qs[i]?)=qs.filter (fitQ p):=by
 have H:∀n,n<=qs.length->((List.range n).filter λi=>match qs[i]? with
   | some q=>fitQ p q
   | none=>false).filterMap (λi=>qs[i]?)=(qs.take n).filter (fitQ p):=by
  intro n
  induction n<;>grind [List.range_succ,List.take_add_one]
 have:=H qs.length znr
 rwa[Cb]at this
theorem q28{a b:TM}(H:qap a=0)(U:qap b=0)(hk:a.kind=b.kind)(h:qal a=qal b):a=b:=by
 rcases LtT.tri a b with g|g|g
 ·have:=qps H U hk g;rw[h]at this;exact absurd this (List.lt_irrefl _)
 ·exact g
 ·have:=qps U H hk.symm g;rw[h]at this;exact absurd this (List.lt_irrefl _)
open Classical in
noncomputable def idR(T:List TM)(t:TM):DZ:=if t∈T\/t=zTM then .tuple #[ii (noT T t:Nat),.bool true]else .tuple #[ii 0,.bool false]
theorem qahj{t:TM}(he:∀t∈T,qap t=0)(ht:qap t=0)(ek:t.kind=((k+1:Nat):Int))(hN:N<(secE T k).length)(hx:(⟨(tx (secE T k) N).toArray⟩:DV)=⟨(qal t).toArray⟩):t∈T:=by
 have U:tx (secE T k) N=qal t:=by
  have:=Ae (λb:DV=>b.data.toList) hx
  simpa using this
 have V:(secE T k).length=(ofK T k).length:=by rw[qcz,AG]
 have hj:(ofK T k)[N]?=some ((ofK T k)[N]' Oo):=zge Oo;rw[tx,Ah,qcz,Ao,hj]at U;have Z:=AH (l:=ofK T k) (n:=N) Oo;have H:=(BK.1 Z).1;have:=q28 (he _ H) ht (by rw[qkz Z,ek]) U;rw[<-this];exact H
theorem qzo(T:List TM)(h:VOk T)(hr:RiseT T)(hk:∀t∈T,1<=t.kind/\t.kind<=3)(he:∀t∈T,qap t=0)(b:Nat)(t:TM)(ah:TermOk t)(w:DU)(hV:VocAt w b (vocB T))(hM:MaxLenAt w)(hT:CellsAt w 4 0 qcb):
  Gv Eg 100 [pp b,qv t] w λr w'=>r=idR T t/\Ext w w':=by
 have au:=hV.tot (k:=3) Od;refine ze Tryz.func100 Tryz.ntmps100 ?_;refine znm (Mem.nil w) ?_;intro tb w1 H;have H:Mem w w1 [(tb,.cells #[ii t.kind,.string t.text,.string t.type,.string t.lang] 45)]:=H;(conv=>whnf);refine zl H 0 ?_;refine RunV.eqTerm (a:=t) (b:=zTM) (.inl rfl) (zw ?_);cases hz:qaj t zTM
 case true=>
  obtain rfl:=q6.1 hz;refine zu ?_;exact⟨by rw[idR,Ad (.inr rfl),qgo rfl];rfl,H.ext⟩
 have ag:t≠zTM:=λe=>by rw[e,q6.2 rfl]at hz;cases hz
 refine zu ?_;refine zl H 0 ?_;have aa:=qo0 t ah w1 (hM.ext H.ext) (hT.ext H.ext)
 by_cases tE:qap t=0
 case neg=>
  rw[Aa tE]at aa;refine zcv (aa) ?_;rintro r w2 ⟨rfl,ae⟩;have h0:¬((qap t:Nat):Int)=0:=by omega
  refine zu ?_;exact⟨by rw[idR,Aa (λh=>h.elim (λh=>tE (he t h)) ag)],(H.call ae).ext⟩
 rw[Ad tE]at aa;refine zcv (aa) ?_;rintro r w2 ⟨rfl,ae⟩;have H:=H.call ae;refine zu ?_;have av:=qov tE;obtain⟨k,V,ek⟩:∃k:Nat,k<3/\t.kind=((k+1:Nat):Int):=⟨(t.kind-1).toNat,by omega,by omega⟩
 obtain⟨d,hd,_⟩:=hV.cell;obtain⟨ai,aj,ak⟩:=hd k V;have al:CellsAt w b (2*k) [.pointer (some ⟨d k,0,none⟩),ii (vTot (vocB T) k+1:Nat)]:=λj v hv=>by
  match j,hv with
  | 0,hv=>rw[<-hv];exact ai
  | 1,hv=>rw[<-hv];exact aj
 refine DrawV.gen (λS U w'=>Al w [(tb,.cells #[ii t.kind,.string t.text,.string t.type,.string t.lang] 45)] (.cells #[.pointer none,ii 0] 302) (.cells #[.pointer (some ⟨d k,0,none⟩),ii (vTot (vocB T) k+1:Nat)] 302) (.cells #[] 0) (.cells #[] 0) (S 8) false (S 9) false (U 8) undef w') rfl Jk (λU=>Al.start H.drew) ?_;clear H;(conv=>whnf);refine zg ?_;refine zg ?_;refine zLg ?_;rw[ek];(iterate 3 (refine zg ?_));refine StepG.of (.pointer (some ⟨b,2*k,none⟩)) (λS U wd hk hp Z=>zw ?_) (zw ?_)
 ·refine IdxV.at_ k Oo Oo (zw ?_);exact⟨Ae (λo=>Value.pointer (some ⟨b,o,none⟩)) (by rw[show tsz Eg 302=2 from by kernel_rfl];show 0+0+k*2=2*k;omega),Z⟩
 refine StepG.of (.agg #[.pointer (some ⟨d k,0,none⟩),ii (vTot (vocB T) k+1:Nat)]) (λS U wd hk hp Z=>zw ?_) (zw ?_)
 ·refine LoadA.cells (CellsAt.ext al Z.mem.ext) (by rw[show tsz Eg 302=2 from by kernel_rfl];rfl) (zw ?_);exact⟨rfl,Z⟩
 refine StepG.any (λS U wd hk hp Z=>?_) (zw ?_)
 ·dsimp only at Z;rw[hk]at Z;(conv=>whnf);refine⟨λx wx hb hw=>?_⟩;subst hb hw;(conv=>whnf);exact⟨trivial,Z.new1⟩
 refine StepG.of undef (λS U wd hk hp Z=>?_) (zw ?_)
 ·dsimp only at Z;have h9:S 8=true:=hp 8 Od;rw[hk,h9]at Z;obtain⟨nb,hv,M,am,an⟩:=Z.put1;rw[qp hv];(conv=>whnf);refine zS am 0 λwx ao=>zw ?_;exact⟨rfl,by show Al _ _ _ _ _ _ (S 8) false true false _ _ _;rw[h9];exact an ao rfl⟩
 intro U w5 Z;obtain⟨t8,aq,H⟩:=Z.done1;rw[qp aq];clear Z;have H:Mem w w5 [(t8,.cells #[.pointer (some ⟨d k,0,none⟩),ii (vTot (vocB T) k+1:Nat)] 302),(tb,.cells #[ii (k+1:Nat),.string t.text,.string t.type,.string t.lang] 45)]:=H;(conv=>whnf);refine zr H 0 ?_;have ad:DictAt w5 (d k) (qw (secE T k)):=by
  have:=ak.ext H.ext
  rwa[h.sDict V]at this
 refine zcv (q9g (secE T k) (h.d k V) (d k) ⟨(qal t).toArray⟩ w5 ad) ?_;rintro r w6 ⟨⟨N,hN,rfl⟩,af⟩
 by_cases hf:N<(secE T k).length/\(⟨(tx (secE T k) N).toArray⟩:DV)=⟨(qal t).toArray⟩
 case neg=>
  have ar:t∉T:=λht=>by
   obtain⟨f1,f2,_⟩:=h.find hr hk V ht ek hN;exact hf ⟨f1,f2⟩
  rw[AM hf];have H:=H.call af;refine zu ?_;exact⟨by rw[idR,Aa (λh=>h.elim ar ag)],H.ext⟩
 have ht:t∈T:=qahj he tE ek hf.1 hf.2;obtain⟨f1,f2,f3⟩:=h.find hr hk V ht ek hN;rw[show decide (N<(secE T k).length/\(⟨(tx (secE T k) N).toArray⟩:DV)=⟨(qal t).toArray⟩)=true from AE ⟨f1,f2⟩];have H:=H.call af;have aw:=(h.d k V).n;have ax:=hV.tot (k:=k) Oo;refine zu ?_;refine zr H 0 ?_;refine zv ?_;refine zcv (qxt (d k) (qw (secE T k)) w6 (ad.ext af)) ?_;rintro r w7 ⟨rfl,rfl⟩;rw[(h.d k V).eN];refine zu ?_;refine zr H 0 ?_;refine zv ?_;refine⟨?_,H.ext⟩;rw[idR,Ad (.inl ht),f3];rfl
open Go.RowKit
namespace V
structure Chn(F:Ef)(w w':DU):Prop where
 os:w'.os=w.os
 tape:w'.tape=w.tape
 output:w'.output=w.output
 size:w.heap.size<=w'.heap.size
 block:∀k,k<w.heap.size->k∉F->w'.heap[k]?=w.heap[k]?
theorem Chn.refl(F:Ef)(w:DU):Chn F w w:=⟨rfl,rfl,rfl,Ai _,λ_ _ _=>rfl⟩
theorem Chn.of(F:Ef)(h:Ext w w'):Chn F w w':=⟨h.os,h.tape,h.output,h.size,λk hk _=>h.block k hk⟩
theorem Chn.trans{a b c:DU}(h:Chn F a b)(g:Chn F b c):Chn F a c:=
 ⟨g.os.trans h.os,g.tape.trans h.tape,g.output.trans h.output,AI h.size g.size,λk hk H=>(g.block k (Bf hk h.size) H).trans (h.block k hk H)⟩
theorem Chn.trans'{a b c:DU}(h:Chn F a b)(g:Chn G b c)(U:∀k∈G,k∈F\/a.heap.size<=k):Chn F a c:=
 ⟨g.os.trans h.os,g.tape.trans h.tape,g.output.trans h.output,AI h.size g.size,λk hk H=>
  (g.block k (Bf hk h.size) (by grind)).trans (h.block k hk H)⟩
theorem Chn.ext(h:Chn F w w')(H:Ext w0 w)(U:∀k∈F,w0.heap.size<=k):Ext w0 w':=
 Below.trans H ⟨h.os,h.tape,h.output,h.size,λk hk=>h.block k (Bf hk H.size) (by grind)⟩
theorem Chn.grown{r:Option Nat}(h:w.grownBy w' r):Chn r.toList w w':=
 ⟨h.os,h.tape,h.output,h.size,λk hk H=>h.block k hk (by grind)⟩
theorem Chn.set{t:DX}{v:DZ}(h:w.heap[b]?=some (.cells cs t fr))(H:w'=w.setCell ⟨b,off,none⟩ v):
  Chn [b] w w'/\w'.heap[b]?=some (.cells (cs.setIfInBounds off v) t fr):=by
 subst H;exact⟨⟨rfl,rfl,rfl,by simp,(by grind [Below.heap_setCell])⟩,heap_setCell h⟩
structure Sep(w0 w:DU)(Fs:List Ef):Prop where
 ext:Ext w0 w
 lo:∀F∈Fs,∀k∈F,w0.heap.size<=k/\k<w.heap.size
 ap:Fs.Pairwise λF G=>∀k∈F,k∉G
section
variable {w0 w w':DU} {Fs:List Ef}
theorem Sep.of(h:Ext w0 w):Sep w0 w []:=⟨h,Js,List.Pairwise.nil⟩
theorem Sep.call(h:Sep w0 w Fs)(H:Ext w w'):Sep w0 w' Fs:=
 ⟨h.ext.trans H,λF U k hk=>⟨(h.lo F U k hk).1,Bf (h.lo F U k hk).2 H.size⟩,h.ap⟩
theorem Sep.add(h:Sep w0 w Fs)(V:Ext w w')(U:∀k∈F,w.heap.size<=k/\k<w'.heap.size):Sep w0 w' (F::Fs):=by
 refine⟨h.ext.trans V,λG H k hk=>?_,Bo.2 ⟨λG H k hk Z=>?_,h.ap⟩⟩
 ·rcases AB.1 H with rfl|H
  ·exact⟨AI h.ext.size (U k hk).1,(U k hk).2⟩
  ·exact(h.call V).lo G H k hk
 ·have:=(U k hk).1;have:=(h.lo G H k Z).2;omega
theorem Sep.new(h:Sep w0 w Fs){o:Obj}(H:b=w.heap.size)(U:w'=w.alloc o):Sep w0 w' ([b]::Fs)/\w'.heap[b]?=some o:=by
 subst H U;refine⟨h.add ((Ext.refl w).alloc o) λk hk=>?_,heap_alloc_new w _⟩
 simp_all
theorem Sep.drop(h:Sep w0 w Fs)(n:Nat):Sep w0 w (Fs.drop n):=
 ⟨h.ext,λF H=>h.lo F (by grind),h.ap.sublist (by grind)⟩
theorem Sep.perm{H:List Ef}(h:Sep w0 w Fs)(U:Fs.Perm H):Sep w0 w H:=
 ⟨h.ext,λF V=>h.lo F (by grind),U.pairwise h.ap (by grind)⟩
theorem Sep.at_(h:Sep w0 w Fs)(hi:Fs[i]?=some F):∀k∈F,w0.heap.size<=k/\k<w.heap.size:=h.lo F (by grind)
theorem Sep.apart(h:Sep w0 w Fs)(hi:Fs[i]?=some F)(hj:Fs[j]?=some G)(H:i≠j):∀k∈G,k∉F:=by
 obtain⟨U,rfl⟩:=Af.1 hi;obtain⟨V,rfl⟩:=Af.1 hj;intro k hk Z
 rcases Nat.lt_or_gt_of_ne H with g|g
 ·exact(Bw.1 h.ap) i j U V g k Z hk
 ·exact(Bw.1 h.ap) j i V U g k hk Z
theorem Sep.chg(h:Sep w0 w Fs){V:Ef}(hi:Fs[i]?=some F)(hc:Chn F w w')(hn:∀k∈V,(k∈F\/w.heap.size<=k)/\k<w'.heap.size):Sep w0 w' (Fs.set i V):=by
 have hF:=h.at_ hi;have hx:Ext w0 w':=hc.ext h.ext (by grind);refine⟨hx,λG Z k hk=>?_,?_⟩
 ·rcases CD Z with Z|rfl
  ·have:=h.lo G Z k hk;have:=hc.size;omega
  ·obtain⟨H,h2⟩:=hn k hk;refine⟨?_,h2⟩
   rcases H with H|H
   ·simp_all
   ·exact AI h.ext.size H
 ·have U:∀j G,Fs[j]?=some G->j≠i->(∀k∈V,k∉G):=λj G hj ad k hk hg=>by
   rcases(hn k hk).1 with H|H
   ·exact h.apart hi hj Oo k hg H
   ·have:=(h.at_ hj k hg).2;omega
  refine Bw.2 λa b ha hb aa=>?_;simp only[DD]at ha hb;rw[List.getElem_set,List.getElem_set]
  by_cases e1:i=a
  ·rw[Ad e1,Aa Oo];exact U b _ Js Oo
  ·rw[Aa e1]
   by_cases e2:i=b
   ·rw[Ad e2];intro k hk hf;exact U a _ Js Oo k hf hk
   ·rw[Aa e2];exact(Bw.1 h.ap) a b ha hb aa
theorem Sep.keep(h:Sep w0 w Fs)(hi:Fs[i]?=some F)(V:Chn F w w')(U:Fs[j]?=some G)(H:i≠j):∀k∈G,w'.heap[k]?=w.heap[k]?:=
 λk hk=>V.block k (h.at_ U k hk).2 (h.apart hi U H k hk)
end
def rowF(v:DZ):Ef:=v.ownBlock.toList
theorem qcp{H n:Nat}{v:DZ}(h:w.ownsRow base e H v n xs)(hk:∀k∈rowF v,w'.heap[k]?=w.heap[k]?):w'.ownsRow base e H v n xs:=by
 refine⟨h.1,h.2.imp id ?_⟩;rintro⟨g,U,cur,rfl,V,Z,h3⟩;exact⟨g,U,cur,rfl,V,by rw[hk g (Ak.2 rfl)];exact Z,h3⟩
theorem qsy{H n:Nat}{v:DZ}(h:w.ownsRow base e H v n xs):∀k∈rowF v,base<=k/\k<w.heap.size:=by
 intro k hk;cases U:v.ownBlock with
 | none=>grind [rowF]
 | some g=>
  rw[rowF,U]at hk;rw[Ak.1 hk];exact h.lt g U
theorem qaal{H n:Nat}{v:DZ}(h:w.ownsRow base e H v n xs):w.ownsRow 0 e H v n xs:=
 ⟨h.1,h.2.imp id (by grind)⟩
theorem AppV.row{e H:Nat}{v:DZ}{n:Nat}{t:DX}{i:TypeInfo}(ht:P.underlying t=some (.slice e))(hi:P.info? e=some i)(hz:i.zero=some z)(U:i.size=H)(aa:z.cells.size=H)(ad:0<H)(h:w.ownsRow 0 e H v n xs)(hl:news.length=m*H)(hA:news≠[]->∃b off,A=some ⟨b,off,none⟩/\CellsAt w b off news)(h1:∀u∈news,u.oneCell'=true)(hb:(n+m)*i.bytes<=140737488355328)(ae:n+m<=140737488355328)(hk:∀V Z w',w'.ownsRow 0 e H (.slice V (n+m) Z) (n+m) (xs++news)->Chn (rowF v) w w'->(∀k∈rowF (.slice V (n+m) Z),(k∈rowF v\/w.heap.size<=k)/\k<w'.heap.size)->K (.slice V (n+m) Z) w'):AppV P #[t,t] ty v (.slice A m c) w K:=by
 refine AppV.own ht hi hz U aa ad h Oo hl hA h1 hb ae λv' w' ho hg af=>?_;obtain⟨V,Z,rfl⟩:=qbm ho;refine hk V Z w' ho (Chn.grown hg) λk hk=>⟨?_,(qsy ho k hk).2⟩
 grind [rowF]
theorem AppV.bys{v:DZ}{x m:LB}{t:DX}{i:TypeInfo}(ht:P.underlying t=some (.slice e))(hi:P.info? e=some i)(hz:i.zero=some z)(H:i.size=1)(aa:z.cells.size=1)(ad:i.bytes<=16)(h:w.ownsRow 0 e 1 v x.length (byV x))(hS:SlAt encB 1 w B m)(U:x.length+m.length<=8000000000000)(hk:∀V Z w',w'.ownsRow 0 e 1 (.slice V (x.length+m.length) Z) (x++m).length (byV (x++m))->Chn (rowF v) w w'->(∀k∈rowF (.slice V (x.length+m.length) Z),(k∈rowF v\/w.heap.size<=k)/\k<w'.heap.size)->K (.slice V (x.length+m.length) Z) w'):
  AppV P #[t,t] ty v (.slice B m.length d) w K:=by
 refine AppV.row (news:=byV m) ht hi hz H aa Od h (by grind [qdn]) (qpf hS) (λu hu=>?_) (AI (B8 U ad) Od) Oo λV Z w' ho hc hn=>hk V Z w' ?_ hc hn
 ·simp only[byV,AF]at hu;obtain⟨v,_,rfl⟩:=hu;rfl
 grind [byV]
structure NewS(e:DX)(w w':DU)(v:DZ)(l:LB):Prop where
 ext:Ext w w'
 h:∃A c,v=.slice A l.length c/\l.length<=c/\(l=[]\/∃g cur,A=some ⟨g,0,none⟩/\w'.heap[g]?=some (.cells cur e)/\l.length<=cur.size/\cur.toList.take l.length=byV l/\c<=cur.size)
 lo:∀k∈rowF v,w.heap.size<=k/\k<w'.heap.size
theorem NewS.bs{v:DZ}(h:NewS e w w' v l):BS w' v l:=by
 obtain⟨A,c,rfl,U,V⟩:=h.h;refine⟨A,c,rfl,U,⟨λZ=>?_⟩⟩;obtain⟨g,cur,rfl,h3,h4,h5,_⟩:=V.resolve_left Z;refine⟨g,0,rfl,λj u hu k v H=>?_⟩;cases k with
 | succ k=>simp[encB]at H
 | zero=>
  simp only[encB,AT,AR]at H;subst H;have hj:(cur.toList.take l.length)[j]?=some (.int .u8 u.toNat):=by grind [byV]
  grind [qa]
theorem qy4(A:oA)(n c m d:Nat):rowF (.slice A n c)=rowF (.slice A m d):=by cases A<;>rfl
theorem NewS.of(H:Ext w w')(h:w'.ownsRow w.heap.size e 1 (.slice A l.length c) l.length (byV l))(d:Nat)(U:l.length<=d)(V:d<=c):NewS e w w' (.slice A l.length d) l:=by
 refine⟨H,⟨A,d,rfl,U,?_⟩,λk hk=>qsy h k (by grind [qy4])⟩
 rcases h.2 with⟨Z,h0⟩|⟨g,aa,cur,Z,h1,h2,h3,h4,h5,h6⟩
 all_goals simp_all
theorem NewS.back{v:DZ}(h:NewS e w w' v l)(H:Ext w0 w):NewS e w0 w' v l:=
 ⟨H.trans h.ext,h.h,λk hk=>⟨AI H.size (h.lo k hk).1,(h.lo k hk).2⟩⟩
end V
namespace V
theorem Ext.first{o:Obj}(H:Ext w w')(V:w'.heap[w.heap.size]?=some o):Ext (w.alloc o) w':=by
 have U:w.heap.size<w'.heap.size:=by
  grind
 refine⟨H.os,H.tape,H.output,by rw[World.size_alloc];omega,λk hk=>?_⟩;rw[World.size_alloc]at hk
 by_cases e:k=w.heap.size
 ·grind [heap_alloc_new]
 ·rw[Below.heap_alloc _ _ _ Oo];exact H.block k Oo
def qzb(w:DU)(n k:Nat):Ed:=((List.range k).map λi=>(n+i,(w.heap[n+i]?).getD (.cells #[] 0))).reverse
section
variable {J:Ed->Ec}
theorem Carr.since(Z:Carr J)(h:J X w)(he:Ext w w'):J (qzb w' w.heap.size (w'.heap.size-w.heap.size)++X) w':=by
 have H:∀k,w.heap.size+k<=w'.heap.size->∃v,v.heap.size=w.heap.size+k/\Ext v w'/\J (qzb w' w.heap.size k++X) v:=by
  intro k
  induction k with
  | zero=>intro _;exact⟨w,rfl,he,h⟩
  | succ k ih=>
   intro hk;obtain⟨v,h1,U,V⟩:=ih Oo;have ho:w'.heap[v.heap.size]?=some w'.heap[v.heap.size]:=(by simp)
   refine⟨v.alloc w'.heap[v.heap.size],by grind [World.size_alloc],U.first ho,?_⟩;have h4:=Z.new w'.heap[v.heap.size] V
   grind [qzb,List.range_succ]
 have hs:=he.size;obtain⟨v,h1,U,V⟩:=H (w'.heap.size-w.heap.size) Oo;exact Z.ext V U
theorem Carr.dropL(H:Carr J):∀{A Z:Ed},J (A++Z) w->J Z w
 | [],_,h=>h
 | _::A,_,h=>Carr.dropL H (A:=A) (H.drop h)
theorem Carr.pick(H:Carr J):∀(Y A Z:Ed),J (A++Z) w->(Y.map (·.1)).Nodup->(∀x∈Y,x∈A)->J (Y++Z) w
 | [],A,Z,h,_,_=>H.dropL h
 | x::Y,A,Z,h,U,V=>by
  obtain⟨s,t,rfl⟩:=List.append_of_mem (V x mh);rw[AK,CR]at U;have h1:J ((s++t)++x::Z) w:=H.perm h (by
   rw[Aw,Aw,Bi];exact List.Perm.append_left s (by rw[<-List.singleton_append,<-List.singleton_append (x:=x) (l:=Z),<-Aw,<-Aw];exact Au.append_right Z))
  have h2:=Carr.pick H Y (s++t) (x::Z) h1 U.2 (by grind);exact H.perm h2 Bz
theorem Carr.call(V:Carr J)(h:J X w)(H:Mem w w' Y):J (Y++X) w':=by
 refine V.pick Y _ X (V.since h H.ext) H.nodup λx U=>?_;have Z:=(H.own x U).1;have h2:=(H.own x U).2;have h3:=H.lt (b:=x.1) (o:=x.2) U;rw[qzb,List.mem_reverse];refine AF.2 ⟨x.1-w.heap.size,(by grind),?_⟩
 simp_all
def RowX(e:DX)(H:Nat)(v:DZ)(n:Nat)(xs:Ee)(Y:Ed):Prop:=
 xs.length=n*H/\((v=.slice none 0 0/\n=0/\Y=[])\/∃g U cur,v=.slice (some ⟨g,0,none⟩) n U/\Y=[(g,.cells cur e)]/\n<=U/\U<=maxLen/\cur.size=U*H/\cur.toList.take (n*H)=xs)
theorem RowX.nil(e:DX)(H:Nat):RowX e H (.slice none 0 0) 0 [] []:=⟨by rw[Nat.zero_mul];rfl,.inl ⟨rfl,rfl,rfl⟩⟩
theorem RowX.own{H n:Nat}{v:DZ}(h:RowX e H v n xs Y)(Z:∀x∈Y,w.heap[x.1]?=some x.2):w.ownsRow 0 e H v n xs:=by
 obtain⟨V,⟨rfl,h2,_⟩|⟨g,U,cur,rfl,rfl,r⟩⟩:=h
 ·exact⟨V,.inl ⟨rfl,h2⟩⟩
 ·exact⟨V,.inr ⟨g,U,cur,rfl,Ag _,Z _ (Ak.2 rfl),r⟩⟩
theorem RowX.of{H n:Nat}{v:DZ}(h:w.ownsRow base e H v n xs):∃Y,RowX e H v n xs Y/\(Y.map (·.1))=v.ownBlock.toList/\∀x∈Y,base<=x.1/\w.heap[x.1]?=some x.2:=by
 obtain⟨V,⟨rfl,Z⟩|⟨g,U,cur,rfl,Z,h3,r⟩⟩:=h
 ·exact⟨[],⟨V,.inl ⟨rfl,Z,rfl⟩⟩,rfl,Js⟩
 ·exact⟨[(g,.cells cur e)],⟨V,.inr ⟨g,U,cur,rfl,rfl,r⟩⟩,rfl,(by grind)⟩
theorem RowX.slice{H n:Nat}{v:DZ}(h:RowX e H v n xs Y):∃A c,v=.slice A n c:=by
 obtain⟨_,⟨rfl,rfl,_⟩|⟨g,U,cur,rfl,_⟩⟩:=h<;>exact⟨_,_,rfl⟩
theorem AppV.carr{e size:Nat}{v:DZ}{n:Nat}{t:DX}{i:TypeInfo}(hJ:Carr J)(h:J (Y++X) w)(hR:RowX e size v n xs Y)(ht:P.underlying t=some (.slice e))(hi:P.info? e=some i)(hz:i.zero=some z)(aa:i.size=size)(ae:z.cells.size=size)(af:0<size)(hl:news.length=m*size)(hA:news≠[]->∃b off,A=some ⟨b,off,none⟩/\CellsAt w b off news)(h1:∀u∈news,u.oneCell'=true)(hb:(n+m)*i.bytes<=140737488355328)(ag:n+m<=140737488355328)(hk:∀A' c' Y' w',RowX e size (.slice A' (n+m) c') (n+m) (xs++news) Y'->J (Y'++X) w'->K (.slice A' (n+m) c') w'):AppV P #[t,t] ty v (.slice A m c) w K:=by
 refine AppV.own ht hi hz aa ae af (hR.own λx hx=>hJ.get h (by grind)) Oo hl hA h1 hb ag λv' w' ho V H=>?_;obtain⟨Y',ad,U,Z⟩:=RowX.of ho;obtain⟨A',c',rfl⟩:=ad.slice;refine hk A' c' Y' w' ad ?_;obtain⟨_,⟨rfl,rfl,rfl⟩|⟨g,ai,cur,rfl,rfl,aj,ak,al,am⟩⟩:=hR
 ·have he:Ext w w':=⟨V.os,V.tape,V.output,V.size,λk hk=>V.block k hk (λe=>by cases e)⟩
  rcases H with H|H
  ·rw[H]at U;have:Y'=[]:=List.map_eq_nil_iff.1 U;subst this;exact hJ.ext h he
  ·refine hJ.call h ⟨he,λx hx=>⟨?_,(Z x hx).2⟩,by simp_all⟩
   grind [List.mem_map_of_mem]
 ·have an:=hJ.get h mh;have ao:g<w.heap.size:=by
   grind
  have hs:=V.size;have aq:w'.heap[g]?=some w'.heap[g]:=(by simp)
  have h2:=hJ.set w'.heap[g] h;have he:Ext (setO w g w'.heap[g]) w':=by
   refine⟨V.os,V.tape,V.output,by grind [setO],λk hk=>?_⟩;have ah:k<w.heap.size:=by grind [setO]
   by_cases e:k=g
   ·grind [qm3]
   ·rw[qgs e];exact V.block k ah (by grind [Value.ownBlock])
  rcases H with H|H
  ·have h3:=hJ.ext h2 he;have e1:Y'=[(g,w'.heap[g])]:=by
    rw[H]at U
    match Y',U,Z with
    | [x],U,Z=>
     grind [Value.ownBlock]
   simp_all
  ·have h4:J (Y'++(g,w'.heap[g])::X) w':=by
    refine hJ.call h2 ⟨he,λx hx=>⟨?_,(Z x hx).2⟩,by grind⟩
    grind [List.mem_map_of_mem,setO]
   exact hJ.dropM h4
theorem qv4{t:DX}(h:w.heap[b]?=some (.cells cur t)):w.setRow b cs=setO w b (.cells cs t):=by
 have hr:=qbw (cs:=cs) h;unfold World.setRow setO at *
 congr 1
 grind
theorem StoreA.carr(H:Carr J){A B:Ed}{t:DX}{K:Ec}(h:J (A++(b,.cells cur t)::B) w)(V:vs.length=cur.size)(Z:∀v∈vs,v.oneCell'=true)(hk:∀w',J (A++(b,.cells vs.toArray t)::B) w'->K w'):StoreA P w b 0 vs K:=by
 have U:=H.get h (Ac _ mh);have hr:=run_storeCells_at P b 0 t vs 0 cur w U (by simp[V]) Z;refine⟨⟨_,hr,hk _ ?_⟩⟩;have e:(cur.toList.take (0+0)++vs++cur.toList.drop (0+0+vs.length)).toArray=vs.toArray:=by
  simp_all
 have e2:∀z,w.setRow b z=setO w b (.cells z t):=λz=>qv4 U
 simp only[As,BB,BH,Bn]at e|-;rw[e2,e];exact H.setM _ h
theorem Carr.ex{α:Type}{p:α->Prop}{J:α->Ed->Ec}(h:∀c,Carr (J c)):Carr λX w=>∃c,p c/\J c X w:=
 ⟨λ⟨c,q,k⟩ H=>⟨c,q,(h c).ext k H⟩,(by grind [get]),(by grind [new]),(by grind [set]),λ⟨c,q,k⟩=>⟨c,q,(h c).drop k⟩,λ⟨c,q,k⟩ U=>⟨c,q,(h c).perm k U⟩⟩
theorem Carr.and(h:Carr J):Carr λX w=>p/\J X w:=
 ⟨λ⟨q,k⟩ H=>⟨q,h.ext k H⟩,λ⟨_,k⟩ U=>h.get k U,λo ⟨q,k⟩=>⟨q,h.new o k⟩,λV ⟨q,k⟩=>⟨q,h.set V k⟩,λ⟨q,k⟩=>⟨q,h.drop k⟩,λ⟨q,k⟩ Z=>⟨q,h.perm k Z⟩⟩
variable {P:DW} {n:Nat} {r:Option Nat}
end
end V
def TmaΦ(b:Nat)(l:LB)(b1 _:Nat)(w:DU):Prop:=TreeAt w b l/\w.cell? ⟨b1,0,none⟩=some (pp b)
def qad3(P:Nat->Int)(b2:Nat)(w:DU):Prop:=CellsAt w b2 0 [ii (P 0),ii (P 1),ii (P 2),ii (P 3)]
def tmaR(l:LB)(P:Nat->Int):List (Nat×(Nat->Nat)):=(lvG (treD l) P 3 0 0 (vNum l 0) (λ_=>0,λ_=>0)).1
theorem qow(b:Nat)(P:Nat->Int)(w:DU):Gv Eg 127 [pp b,.agg #[ii (P 0),ii (P 1),ii (P 2),ii (P 3)]] w λr w'=>
  ∃b1 b2,r=.func (.func 206) #[] #[pp b1,pp b2]/\Mem w w' [(b2,.cells #[ii (P 0),ii (P 1),ii (P 2),ii (P 3)] 95),(b1,.cells #[pp b] 141)]:=by
 refine ze Tryz.func127 Tryz.ntmps127 ?_;refine znm (Mem.nil w) ?_;intro b1 U H;refine znm H λb2 V H=>zw ?_;exact⟨b1,b2,rfl,H⟩
theorem qox(b:Nat)(l:LB)(P:Nat->Int)(b1 b2:Nat)(ad:∀k,k<3->tVec l (k+1)=true->vM (qe l (k+1))<=vN (qe l (k+1)))(hP:∀k,k<4->InR .i64 (P k)):
  SeqC Eg 206 [pp b1,pp b2] ((tmaR l P).map mRow) (λw=>TmaΦ b l b1 b2 w/\qad3 P b2 w):=by
 intro y I Ix w cI V hI H hy;obtain⟨⟨hT,ae⟩,af⟩:=hI 0 [] w H;obtain⟨PP,cp,S,cs,VV,hc,_⟩:=(hT.lv 0 Od).h;have ag:=hT.n 0 Od;refine gvW Jk Tryz.func206 rfl Tryz.ntmps206 rfl (zw ?_);refine LoadV.of ae ?_;refine LoadA.cells af rfl ?_;refine NewV.carr (cI 0) H ?_;clear H;intro wb w1 H;have H:I 0 [(wb,wkO b y P (λ_=>0,λ_=>0))] w1:=H;refine LoadV.of (hI _ _ _ H).1.2 (zw ?_);refine zJ 0 ?_;(conv=>whnf);obtain⟨PP,cp,S,cs,VV,hc,_⟩:=((hI _ _ _ H).1.1.lv 0 Od).h;refine LoadV.cellsE hc 0 (by first|rfl|(rw[lvSz];first|done|rfl)) rfl ?_;have Z:=q4v b wb y l P ((tmaR l P).map mRow) I Ix cI V (λk X w h=>(hI k X w h).1.1) ad hP hy 3 0 0 (vNum l 0) 0 (λ_=>0,λ_=>0) [] w1 rfl Oo ag (λk _=>Ag _) (λt row ht=>by rw[As,Ao];exact Ae (Option.map mRow) ht) H;refine zcv Z ?_;clear H Z;have U:((tmaR l P).map mRow).length=(tmaR l P).length:=AG ..;rintro r w2 (⟨rfl,hJ⟩|⟨rfl,j',s',aa,hX⟩)
 ·(conv=>whnf);rw[U];rw[As]at hJ;exact .inl ((cI _).drop hJ)
 ·(conv=>whnf);rw[As]at aa;exact .inr ⟨j',by rw[U];exact aa,(V _).drop hX⟩
structure IdxAt(w:DU)(x:Nat)(l:LB):Prop where
 h:∃pb,w.cell? ⟨x,0,none⟩=some (pp pb)/\PackAt w pb l
theorem qxv(b:Nat)(w:DU):Gv Eg 136 [pp b] w λr w'=>
  r=.agg #[pp b,.pointer (some ⟨b,4,none⟩),.pointer (some ⟨b,8,none⟩),.pointer (some ⟨b,12,none⟩)]/\Ext w w':=by
 refine gvW Jk Tryz.func136 rfl Tryz.ntmps136 rfl (zw ?_);refine znm (Mem.nil w) λV Z H=>zw ?_;refine DrawW.tail 13 Jk Jk (.inl rfl) (AnyV.free Jk ?_);(conv=>whnf);(iterate 13 (refine zd ?_));intro w2 U;have H:=H.drew.call U;(conv=>whnf);refine zS H 0 λw3 H=>zw ?_;refine qi (R:=λr w'=>r=.agg #[pp b,.pointer (some ⟨b,4,none⟩),.pointer (some ⟨b,8,none⟩),.pointer (some ⟨b,12,none⟩)]/\Ext w w') (zw ?_);refine zl H 0 ?_;exact⟨rfl,H.ext⟩
theorem qih(q:Q4)(hi:i<4){v:DZ}(H:(encT (q.at i))[k]?=some v):(qf q)[4*i+k]?=some v:=by
 have hk:k<4:=(Af.1 H).1
 match i,hi,k,hk,H with
 | 0,_,0,_,H=>exact H
 | 0,_,1,_,H=>exact H
 | 0,_,2,_,H=>exact H
 | 0,_,3,_,H=>exact H
 | 1,_,0,_,H=>exact H
 | 1,_,1,_,H=>exact H
 | 1,_,2,_,H=>exact H
 | 1,_,3,_,H=>exact H
 | 2,_,0,_,H=>exact H
 | 2,_,1,_,H=>exact H
 | 2,_,2,_,H=>exact H
 | 2,_,3,_,H=>exact H
 | 3,_,0,_,H=>exact H
 | 3,_,1,_,H=>exact H
 | 3,_,2,_,H=>exact H
 | 3,_,3,_,H=>exact H
theorem qpw(p q:Q4):fitQ p q=true↔∀i,i<4->fitT (p.at i) (q.at i)=true:=by
 constructor
 ·intro h i hi;simp only[fitQ,AQ]at h;obtain⟨⟨⟨H,U⟩,V⟩,Z⟩:=h
  match i,hi with
  | 0,_=>exact H
  | 1,_=>exact U
  | 2,_=>exact V
  | 3,_=>exact Z
 ·intro h;simp only[fitQ,AQ];exact⟨⟨⟨h 0 Od,h 1 Od⟩,h 2 Od⟩,h 3 Od⟩
theorem q61(p q:Q4)(w:DU):Gv Eg 67 [qy p,qy q] w λr w'=>r=.bool (fitQ p q)/\Ext w w':=by
 refine ze Tryz.func67 Tryz.ntmps67 ?_;refine znm (Mem.nil w) ?_;intro U w1 H;have H:Mem w w1 [(U,.cells (qf p).toArray 47)]:=H;(conv=>whnf);refine znm H ?_;clear H;intro V w2 H;have H:Mem w w2 [(V,.cells (qf q).toArray 47),(U,.cells (qf p).toArray 47)]:=H;(conv=>whnf);refine zcv (qxv V w2) ?_;rintro r w3 ⟨rfl,af⟩;have H:=H.call af;(conv=>whnf);refine znm H λab w4 H=>zw ?_;refine zS H 0 λw5 H=>zw ?_;refine zcv (qxv U w5) ?_;rintro r w6 ⟨rfl,ag⟩;have H:=H.call ag;(conv=>whnf);obtain⟨L,eL⟩:∃L:Ed,L=[(ab,.cells #[pp V,.pointer (some ⟨V,4,none⟩),.pointer (some ⟨V,8,none⟩),.pointer (some ⟨V,12,none⟩)] 68),(V,.cells (qf q).toArray 47),(U,.cells (qf p).toArray 47)]:=⟨_,rfl⟩
 have H:Mem w w6 L:=by rw[eL];exact H
 refine qk (λi:Nat=>[(5,pp ab),(9,.agg #[pp U,.pointer (some ⟨U,4,none⟩),.pointer (some ⟨U,8,none⟩),.pointer (some ⟨U,12,none⟩)]),(10,ii i)])
  (λi w'=>Mem w w' L/\i<=4/\∀j,j<i->fitT (p.at j) (q.at j)=true) (λi=>4-i) 0 fq ⟨H,Ag _,λj hj=>by omega⟩ ?_
 clear H;rintro i w7 ak ⟨H,hi,hf⟩;rw[eL]at H;(conv=>whnf);refine zC (λ_=>zu ?_) (λ_=>zu ?_)
 case' refine_2=>
  exact⟨Ae Value.bool ((qpw p q).2 λj hj=>hf j Oo).symm,H.ext⟩
 have Z:i<4:=by omega
 have tp:tsz Eg 67=1:=by kernel_rfl
 have aa:∀b:Nat,[pp b,.pointer (some ⟨b,4,none⟩),.pointer (some ⟨b,8,none⟩),.pointer (some ⟨b,12,none⟩)][i]?=some (.pointer (some ⟨b,4*i,none⟩)):=λb=>by
  match i,Z with
  | 0,_=>rfl
  | 1,_=>rfl
  | 2,_=>rfl
  | 3,_=>rfl
 refine⟨⟨.pointer (some ⟨U,4*i,none⟩),by rw[tp,AZ];exact aa U,?_⟩⟩;have ad:CellsAt w7 U (4*i) (encT (p.at i)):=λk v hv=>by
  rw[qa (H.get (zmc (zmc (Ak.2 rfl)))),An];exact qih p Z hv
 have ah:CellsAt w7 V (4*i) (encT (q.at i)):=λk v hv=>by
  rw[qa (H.get (zmc mh)),An];exact qih q Z hv
 have ai:w7.cell? ⟨ab,i,none⟩=some (.pointer (some ⟨V,4*i,none⟩)):=by
  rw[qa (H.get mh),An];exact aa V
 have aj:w7.cell? ⟨U,4*i+0,none⟩=some (ii (p.at i).kind):=ad 0 _ rfl;(conv=>whnf);refine zy ?_;refine zv ?_;refine LoadV.of aj (zw ?_)
 rcases BW ((p.at i).kind=4)with h4|h4
 case inl=>
  refine zv ?_;refine⟨i+1,fq,⟨by rw[eL];exact H.drew,by omega,λj hj=>?_⟩,by omega⟩
  by_cases e:j=i
  ·subst e;rw[fitT,h4];rfl
  ·exact hf j Oo
 refine zv ?_;refine LoadA.cells (vs:=encT (p.at i)) ad rfl (zu ?_);refine LoadV.of (v:=.pointer (some ⟨V,4*i,none⟩)) (by rw[tp,As,AZ];exact ai) (zu ?_);refine LoadA.cells (vs:=encT (q.at i)) ah rfl (zu ?_);refine RunV.eqTerm (a:=p.at i) (b:=q.at i) (.inr rfl) ?_;cases ae:qaj (p.at i) (q.at i)
 ·refine zu ?_;refine⟨?_,H.ext.drew⟩;have e:fitQ p q=false:=CW.2 λg=>by
   have:=(qpw p q).1 g i Z;rw[fitT,ae,AM h4]at this;cases this
  rw[e]
 ·refine zu ?_;refine⟨i+1,fq,⟨by rw[eL];exact H.drew,by omega,λj hj=>?_⟩,by omega⟩
  by_cases e:j=i
  ·subst e;rw[fitT,ae,DS]
  ·exact hf j Oo
def idP(T:List TM)(p:Q4):Nat->Int:=λk=>idT T (gat p k)
def KnQ(T:List TM)(p:Q4):Prop:=∀k,k<4->KnT T (gat p k)
open Classical in
noncomputable def qfa(T:List TM)(p:Q4):DZ:=if KnQ T p then .tuple #[.agg #[ii (idP T p 0),ii (idP T p 1),ii (idP T p 2),ii (idP T p 3)],.bool true]else .tuple #[.agg zq,.bool false]
def idC(F:Nat->Int):Ee:=[ii (F 0),ii (F 1),ii (F 2),ii (F 3)]
theorem ql3(F:Nat->Int)(hi:i<4)(x:Int):(idC F).toArray.setIfInBounds i (ii x)=(idC λj=>if j=i then x else F j).toArray:=by
 match i,hi with
 | 0,_=>rfl
 | 1,_=>rfl
 | 2,_=>rfl
 | 3,_=>rfl
theorem qq4(T:List TM)(qs:List Q4)(h:EncOk T qs)(x:Nat)(p:Q4)(hp:qa5 p)(w:DU)(hX:IdxAt w x (encP T qs))(hM:MaxLenAt w)(hT:CellsAt w 4 0 qcb):
  Gv Eg 39 [pp x,qy p] w λr w'=>r=qfa T p/\Ext w w':=by
 refine ze Tryz.func39 Tryz.ntmps39 ?_;refine znm (Mem.nil w) ?_;intro pb w1 H;have H:Mem w w1 [(pb,.cells (qf p).toArray 47)]:=H;(conv=>whnf);refine znm H λrb w2 H=>zw ?_;refine znm H ?_;clear H;intro ob w3 H;have H:Mem w w3 [(ob,.cells (idC λ_=>0).toArray 95),(rb,.cells zq 95),(pb,.cells (qf p).toArray 47)]:=H;(conv=>whnf);have U:∀w',Ext w3 w'->∀i,i<4->CellsAt w' pb (4*i) (encT (p.at i)):=λw' he i hi k v hv=>by
  rw[qa (he.get (H.get (zmc (zmc (Ak.2 rfl))))),An];exact qih p hi hv
 refine LoadA.cells (vs:=encT p.g) (U w3 xr 3 Od) rfl (zw ?_);refine LoadA.cells (vs:=encT p.s) (U w3 xr 0 Od) rfl (zw ?_);refine LoadA.cells (vs:=encT p.p) (U w3 xr 1 Od) rfl (zw ?_);refine LoadA.cells (vs:=encT p.o) (U w3 xr 2 Od) rfl (zw ?_);refine qk (λs:Nat×(Nat->Int)=>[(0,pp x),(4,pp rb),(6,pp ob),(19,.agg (encT p.g++encT p.s++encT p.p++encT p.o).toArray),(20,ii s.1)])
  (λs w'=>s.1<=4/\(∀j,j<s.1->s.2 j=idP T p j/\KnT T (gat p j))/\Mem w w' [(ob,.cells (idC s.2).toArray 95),(rb,.cells zq 95),(pb,.cells (qf p).toArray 47)]) (λs=>4-s.1) (0,λ_=>0) fq ⟨Ag _,λj hj=>by omega,H⟩ ?_
 clear U H;rintro⟨i,F⟩ w4 aj ⟨hi,hF,H⟩;dsimp only at hi hF H|-;(conv=>whnf);refine zC (λ_=>zu ?_) (λ_=>zu ?_)
 case' refine_2=>
  obtain rfl:i=4:=by omega
  have af:KnQ T p:=λj hj=>(hF j hj).2
  have e:qfa T p=.tuple #[.agg (idC F).toArray,.bool true]:=by
   rw[qfa,Ad af,<-(hF 0 Od).1,<-(hF 1 Od).1,<-(hF 2 Od).1,<-(hF 3 Od).1];rfl
  refine zl H 0 ?_;refine StoreA.all H (i:=1) rfl rfl (by simp[Value.oneCell']) λw5 H=>zw ?_;refine qi (R:=λr w'=>r=qfa T p/\Ext w w') (zw ?_);refine zl H 1 ?_;exact⟨by rw[e];rfl,H.ext⟩
 have V:i<4:=by omega
 have t4:tsz Eg 45=4:=by kernel_rfl
 have t1:tsz Eg 3=1:=by kernel_rfl
 refine⟨⟨encT (gat p i),?_,?_⟩⟩
 ·rw[t4]
  match i,V with
  | 0,_=>rfl
  | 1,_=>rfl
  | 2,_=>rfl
  | 3,_=>rfl
 obtain⟨t,et⟩:∃t,t=gat p i:=⟨_,rfl⟩
 have ag:TermOk t:=by
  rw[et]
  match i,V with
  | 0,_=>exact hp 3
  | 1,_=>exact hp 0
  | 2,_=>exact hp 1
  | 3,_=>exact hp 2
 rw[<-et];(conv=>whnf);refine znm H λtb w5 H=>zw ?_;refine StoreA.all (vs:=encT t) H (i:=0) rfl rfl (q9 t) λw6 H=>zw ?_;refine zr H 0 ?_
 rcases BW (t.kind=4)with h4|h4
 case inl=>
  refine zv ?_;refine StoreV.mem H (i:=1) rfl (by rw[t1];show 0+i*1<4;omega) rfl ?_;clear H;intro w7 H;have H:Mem w w7 [(tb,.cells (encT t).toArray 45),(ob,.cells ((idC F).toArray.setIfInBounds (0+i*tsz Eg 3) (ii (-1))) 95),(rb,.cells zq 95),(pb,.cells (qf p).toArray 47)]:=H;rw[t1,As,AZ,ql3 F V]at H;refine zu ?_;refine⟨(i+1,λj=>if j=i then -1 else F j),fq,⟨by dsimp only;omega,λj hj=>?_,H.sub (AS ..)⟩,by dsimp only;omega⟩;dsimp only at hj|-
  by_cases e:j=i
  ·subst e;rw[Ad rfl,idP,<-et,idT,Ad h4];exact⟨rfl,.inl h4⟩
  ·rw[Aa e];exact hF j Oo
 refine zv ?_;obtain⟨vp,ah,ai⟩:=hX.h;refine DrawV.free Jk Jk (zw ?_);(iterate 3 (refine zd ?_));refine zf ?_ (by intro wd hd;(conv=>whnf);refine LoadV.of (Ext.cell (Ext.trans (Ext.drew xr) hd) (H.ext.cell ah)) ?_;(conv=>whnf);exact xq);apply StepD.of (λv w=>∃vb,v=pp vb/\VocAt w vb (vocB T)) (λv w w' ⟨vb,h1,h2⟩ he=>⟨vb,h1,h2.ext he⟩)
 ·intro wd hd;(conv=>whnf);refine zcv (qvj vp (encP T qs) wd (ai.ext (H.ext.trans ((Ext.refl w6).drew.trans hd)))) ?_;rintro r w7 ⟨⟨vb,rfl,ad⟩,rfl⟩;rw[h.v]at ad;exact⟨xr,vb,rfl,ad⟩
 (conv=>whnf);apply zsd (qv t)
 ·intro wd hd;conv=>whnf
  (repeat(rintro _ ⟨_,rfl,_⟩;(conv=>whnf)))
  refine LoadA.mem (Mem.call (Mem.drew H) hd) (i:=0) rfl rfl (zw ?_);exact xq
 (conv=>whnf);apply zsd (idR T t)
 ·intro wd hd;conv=>whnf
  (repeat(rintro _ ⟨_,rfl,_⟩;(conv=>whnf)))
  have ae:=H.ext.trans ((Ext.refl w6).drew.trans hd);refine zcv (qzo T h.voc h.set.rise h.kinds h.term _ t ag wd Oa (hM.ext ae) (CellsAt.ext hT ae)) ?_;rintro r w7 ⟨rfl,Z⟩;exact⟨Z,rfl⟩
 have hid:(KnT T (gat p i)/\idR T t=.tuple #[ii (idP T p i),.bool true])\/(¬KnT T (gat p i)/\idR T t=.tuple #[ii 0,.bool false]):=by
  rw[<-et]
  rcases BW (t∈T\/t=zTM)with g|g
  ·exact .inl ⟨.inr g,by rw[idR,Ad g,idP,<-et,idT,Aa h4]⟩
  ·exact .inr ⟨λk=>g (k.resolve_left h4),by rw[idR,Aa g]⟩
 rcases hid with⟨hk,aa⟩|⟨hk,aa⟩
 case inr=>
  rw[aa];(conv=>whnf);(iterate 5 (refine zd ?_));intro w7 Z;have H:=H.drew.call Z;conv=>whnf
  (repeat(rintro _ ⟨_,rfl,_⟩;(conv=>whnf)))
  refine zv ?_;refine StoreA.all H (i:=2) rfl rfl Od λw8 H=>zw ?_;refine qi (R:=λr w'=>r=qfa T p/\Ext w w') (zw ?_);refine zl H 2 ?_;exact⟨by rw[qfa,Aa (λg=>hk (g i V))];rfl,H.ext⟩
 obtain⟨z,ez⟩:∃z,z=idP T p i:=⟨_,rfl⟩
 rw[aa,<-ez];(conv=>whnf);(iterate 5 (refine zd ?_));intro w7 Z;have H:=H.drew.call Z;conv=>whnf
 (repeat(rintro _ ⟨_,rfl,_⟩;(conv=>whnf)))
 refine zv ?_;refine StoreV.mem H (i:=1) rfl (by rw[t1];show 0+i*1<4;omega) rfl ?_;clear H;intro w8 H;have H:Mem w w8 [(tb,.cells (encT t).toArray 45),(ob,.cells ((idC F).toArray.setIfInBounds (0+i*tsz Eg 3) (ii z)) 95),(rb,.cells zq 95),(pb,.cells (qf p).toArray 47)]:=H;rw[t1,As,AZ,ql3 F V]at H;refine zu ?_;refine⟨(i+1,λj=>if j=i then z else F j),fq,⟨by dsimp only;omega,λj hj=>?_,H.sub (AS ..)⟩,by dsimp only;omega⟩;dsimp only at hj|-
 by_cases e:j=i
 ·subst e;rw[Ad rfl,ez];exact⟨rfl,hk⟩
 ·rw[Aa e];exact hF j Oo
section
variable {P:Nat->Int} {Q:Nat->Nat->Nat} {n:Nat}
theorem qw2{i:Nat}:∀{m k:Nat},(∀j,k<=j->j<k+m->P j<0)->agF P Q i k m=true
 | 0,_,_=>rfl
 | m+1,k,h=>by
  rw[agF,qw2 (m:=m) (k:=k+1) λj H U=>h j Oo Oo,agB,AE (h k znr Oo)];rfl
theorem q98(hk:k<=4)(h:∀j,k<=j->j<4->P j<0):maT P Q k a b=(List.range b).drop a:=by
 grind [maT,List.filter_eq_self,qw2]
theorem qj8(hk:k<=4)(h:∀j,k<=j->j<4->P j<0):(maT P Q k a b).length=b-a:=by
 grind [q98]
theorem q44{e:Nat}(hk:k<4)(H:P k=((nuT Q k n).getD e 0:Nat))(h:∀j,k+1<=j->j<4->P j<0):(lvM P Q n k e (e+1)).length=bndT Q k (e+1) n-bndT Q k e n:=by
 grind [lvM,qh7,agB,qj8]
def staT(Q:Nat->Nat->Nat)(n:Nat):Nat->Nat->Nat->Nat
 | 0,_,i=>min i n
 | f+1,k,i=>if leT Q k n<=i then n else staT Q n f (k+1) (chT Q n k i)
theorem TOk.sta(h:TOk Q n):∀{f k:Nat} (i:Nat),f+k=3->staT Q n f k i=bndT Q k i n
 | 0,k,i,hk=>by
  obtain rfl:k=3:=by omega
  rw[staT]
  rcases Nat.le_total i n with g|g
  ·rw[h.bnd3 g,BG g]
  ·rw[qpd 3 (by rw[h.all Oo];exact g),Nat.min_eq_right g]
 | f+1,k,i,hk=>by
  rw[staT]
  split
  ·rename_i g
   rw[qpd k g]
  ·rw[TOk.sta h (f:=f) (k:=k+1) _ Oo,qn3]
end
def staD(T:LvD)(N:Nat):Nat->Nat->Nat->Nat
 | 0,_,i=>min i N
 | f+1,k,i=>if T.N k<=i then N else staD T N f (k+1) (T.ch k i).1
def finD(T:LvD)(N:Nat)(F:Nat->Int):Nat->Nat->Nat->Nat->Nat×Bool
 | m,k,lo,hi=>
  if min hi (T.N k)<=T.sr k (min lo (min hi (T.N k))) (min hi (T.N k)) (F k)\/(T.nu k (T.sr k (min lo (min hi (T.N k))) (min hi (T.N k)) (F k)):Int)≠F k then
   (staD T N (3-k) k (T.sr k (min lo (min hi (T.N k))) (min hi (T.N k)) (F k)),false)
  else match m with
   | 0=>(T.sr k (min lo (min hi (T.N k))) (min hi (T.N k)) (F k),true)
   | m+1=>finD T N F m (k+1) (T.ch k (T.sr k (min lo (min hi (T.N k))) (min hi (T.N k)) (F k))).1 (T.ch k (T.sr k (min lo (min hi (T.N k))) (min hi (T.N k)) (F k))).2
def cntD(T:LvD)(N one w:Nat)(P:Nat->Int):Nat->Nat->Nat->Nat->Nat
 | 0,_,_,_=>N
 | m+1,j,lo,hi=>
  if w<=j then N else if P j<0 then one else
  if min hi (T.N j)<=T.sr j (min lo (min hi (T.N j))) (min hi (T.N j)) (P j)\/(T.nu j (T.sr j (min lo (min hi (T.N j))) (min hi (T.N j)) (P j)):Int)≠P j then 0 else
  if j=3 then 1 else if j+1=w then staD T N (3-j) j (T.sr j (min lo (min hi (T.N j))) (min hi (T.N j)) (P j)+1)-staD T N (3-j) j (T.sr j (min lo (min hi (T.N j))) (min hi (T.N j)) (P j))
  else cntD T N one w P m (j+1) (T.ch j (T.sr j (min lo (min hi (T.N j))) (min hi (T.N j)) (P j))).1 (T.ch j (T.sr j (min lo (min hi (T.N j))) (min hi (T.N j)) (P j))).2
section
variable {P:Nat->Int} {Q:Nat->Nat->Nat} {n:Nat}
theorem qv8{T:LvD}(H:CanD T Q n):∀{f k i:Nat},f+k=3->staD T n f k i=staT Q n f k i
 | 0,k,i,_=>rfl
 | f+1,k,i,hk=>by
  rw[staD,staT,H.N k Oo]
  split
  ·rfl
  ·rename_i g
   rw[H.ch k i Oo Oo,qv8 H Oo]
theorem q6r{T:LvD}(U:CanD T Q n){x:Nat}(hk:k<4)(H:a<=b)(hb:b<=leT Q k n)(hr:∀i j,a<=i->i<j->j<b->(nuT Q k n).getD i 0<(nuT Q k n).getD j 0)(V:P k=(x:Int)):
  (a<=T.sr k a b (P k)/\T.sr k a b (P k)<=b)/\(T.sr k a b (P k)<b->T.nu k (T.sr k a b (P k))=(nuT Q k n).getD (T.sr k a b (P k)) 0)/\
  lvM P Q n k a b=if T.sr k a b (P k)<b/\(nuT Q k n).getD (T.sr k a b (P k)) 0=x then lvM P Q n k (T.sr k a b (P k)) (T.sr k a b (P k)+1)else[]:=by
 have Z:∀e,e<b->T.nu k e=(nuT Q k n).getD e 0:=λe he=>U.nu k e hk Oo
 obtain⟨s1,s2⟩:=T.sr_le k (P k) H;obtain⟨s3,s4⟩:=T.sr_spec k (P k) H (by grind);exact⟨⟨s1,s2⟩,(by grind),qyg (P:=P) (n:=n) hk V hr s1 s2 (by grind) (by grind)⟩
def WinT(Q:Nat->Nat->Nat)(n k a b:Nat):Prop:=a<=b/\b<=leT Q k n/\∀i j,a<=i->i<j->j<b->(nuT Q k n).getD i 0<(nuT Q k n).getD j 0
theorem TOk.winT(h:TOk Q n):WinT Q n 0 0 (leT Q 0 n):=⟨Ag _,Ai _,λ_ _ _ H U=>h.tops H U⟩
theorem TOk.winC(h:TOk Q n){p:Nat}(hk:k+1<4):WinT Q n (k+1) (chT Q n k p) (chT Q n k (p+1)):=⟨qkr k n Oo,q2k k n _,λ_ _ H U V=>h.sibs hk H U V⟩
theorem qae6(h:TOk Q n){T:LvD}(Z:CanD T Q n)(hP:∀k,k<4->0<=P k):∀{m k a b:Nat},m+k=3->WinT Q n k a b->
  (∃i,finD T n P m k a b=(i,true)/\lvM P Q n k a b=[i]/\i<n)\/((finD T n P m k a b).2=false/\lvM P Q n k a b=[]):=by
 intro m
 induction m with
 | zero=>
  intro k a b hk hw;obtain rfl:k=3:=by omega
  obtain⟨H,hb,hr⟩:=hw;obtain⟨x,V⟩:∃x:Nat,P 3=(x:Int):=⟨(P 3).toNat,by grind⟩
  obtain⟨⟨s1,s2⟩,s3,s4⟩:=q6r Z Od H hb hr V;rw[finD,Z.N 3 Od,BG hb,BG H]
  by_cases U:T.sr 3 a b (P 3)<b/\(nuT Q 3 n).getD (T.sr 3 a b (P 3)) 0=x
  ·have hn:=s3 U.1;have aa:T.sr 3 a b (P 3)<n:=by have:=h.all znr;omega
   rw[Aa (by rintro(g|g);exact absurd U.1 Oo;exact g (by rw[hn,U.2,V]))];refine .inl ⟨_,rfl,?_,aa⟩;rw[s4,Ad U,h.leaf aa,Ad (by rw[agB,U.2,V,AE (p:=(x:Int)=(x:Int)) rfl,DS])]
  grind
 | succ m ih=>
  intro k a b hk hw;obtain⟨H,hb,hr⟩:=hw;obtain⟨x,V⟩:∃x:Nat,P k=(x:Int):=⟨(P k).toNat,by grind⟩
  obtain⟨⟨s1,s2⟩,s3,s4⟩:=q6r Z Oo H hb hr V;rw[finD,Z.N k Oo,BG hb,BG H]
  by_cases U:T.sr k a b (P k)<b/\(nuT Q k n).getD (T.sr k a b (P k)) 0=x
  ·have hn:=s3 U.1;rw[Aa (by rintro(g|g);exact absurd U.1 Oo;exact g (by rw[hn,U.2,V])),s4,Ad U,qu6 Oo,Ad (by rw[agB,U.2,V,AE (p:=(x:Int)=(x:Int)) rfl,DS])];rw[Z.ch k _ Oo Oo];exact ih Oo (h.winC Oo)
  grind
theorem qaet(h:TOk Q n){T:LvD}(U:CanD T Q n){w one:Nat}(af:w<=4)(hP:∀j,w<=j->j<4->P j<0):∀{m j a b:Nat},j<w->m+j=w->WinT Q n j a b->(lvM P Q n j a b).length=one->cntD T n one w P m j a b=one:=by
 intro m
 induction m with
 | zero=>omega
 | succ m ih=>
  intro j a b hj hm hw ho;obtain⟨V,hb,hr⟩:=hw;rw[cntD,Aa Oo]
  split
  ·rfl
  rename_i ae
  obtain⟨x,hx⟩:∃x:Nat,P j=(x:Int):=⟨(P j).toNat,by omega⟩
  obtain⟨⟨s1,s2⟩,s3,s4⟩:=q6r U Oo V hb hr hx;rw[U.N j Oo,BG hb,BG V]
  by_cases Z:T.sr j a b (P j)<b/\(nuT Q j n).getD (T.sr j a b (P j)) 0=x
  ·have hn:=s3 Z.1;rw[s4,Ad Z]at ho;have aa:agB P j ((nuT Q j n).getD (T.sr j a b (P j)) 0)=true:=by grind [agB]
   rw[Aa (by rintro(g|g);exact absurd Z.1 Oo;exact g (by rw[hn,Z.2,hx]))]
   by_cases h3:j=3
   ·subst h3;have ad:T.sr 3 a b (P 3)<n:=by have:=h.all znr;omega
    rw[Ad rfl,<-ho,h.leaf ad,Ad aa];rfl
   ·rw[Aa h3]
    by_cases H:j+1=w
    ·rw[Ad H,qv8 U Oo,qv8 U Oo,h.sta _ Oo,h.sta _ Oo,<-ho]
     grind [q44]
    ·rw[Aa H,U.ch j _ Oo Oo];refine ih Oo Oo (h.winC Oo) ?_
     grind [qu6]
  grind
end
theorem TreeAt.nn(h:TreeAt w b l):∀k,vNum l k<=1048576\/4<=k:=λk=>by
 rcases Bj k 4 with g|g
 ·exact .inl (h.n k g)
 omega
theorem ql2(F:Nat->Int)(hk:k<4):(idC F).toArray[k]?=some (ii (F k)):=by
 match k,hk with
 | 0,_=>rfl
 | 1,_=>rfl
 | 2,_=>rfl
 | 3,_=>rfl
def VmOk(l:LB):Prop:=∀k,k<3->tVec l (k+1)=true->vM (qe l (k+1))<=vN (qe l (k+1))
theorem qgu(b:Nat)(l:LB)(k i:Nat)(w:DU)(h:TreeAt w b l)(Z:VmOk l)(hk:k<=3)(hi:i<=1048576):
  Gv Eg 130 [pp b,ii k,ii i] w λr w'=>r=ii (staD (treD l) (vNum l 3) (3-k) k i:Nat)/\Ext w w':=by
 have t8:tsz Eg 244=8:=by kernel_rfl
 obtain⟨R,H⟩:∃R:Nat,R=staD (treD l) (vNum l 3) (3-k) k i:=⟨_,rfl⟩
 rw[<-H];refine ze Tryz.func130 Tryz.ntmps130 ?_;refine qk (λx:Nat×Nat=>[(0,pp b),(1,ii x.1),(2,ii x.2)]) (λx w'=>x.1<=3/\x.2<=1048576/\R=staD (treD l) (vNum l 3) (3-x.1) x.1 x.2/\Ext w w') (λx=>3-x.1) (k,i) fq ⟨hk,hi,H,Ext.refl w⟩ ?_;clear hk hi H;rintro⟨k,i⟩ w1 ah ⟨hk,hi,H,U⟩;dsimp only at hk hi H U|-;have hn:=h.n 3 Od
 rcases Bj k 3 with ad|ad
 case inr=>
  obtain rfl:k=3:=by omega
  refine zu ?_;refine zcv (qiv b l w1 (h.ext U)) ?_;rintro r w2 ⟨rfl,rfl⟩;(conv=>whnf);refine V.Fall.min2 rfl rfl rfl λm hm=>?_;(conv=>whnf);refine⟨?_,U⟩;rw[H,hm];show ii (min (i:Int) (vNum l 3:Int))=ii ((min i (vNum l 3):Nat):Int)
  grind
 obtain⟨PP,cp,S,cs,VV,hc,_⟩:=((h.ext U).lv k Oo).h;have ai:=h.n k Oo;have aa:3-k=(3-(k+1))+1:=by omega
 rw[aa,staD]at H;have eN:(treD l).N k=vNum l k:=rfl;rw[eN]at H;have ae:(treD l).ch k i=chB l k i:=rfl;rw[ae]at H;refine zu ?_;refine LoadV.cellsE hc 0 (by grind) rfl (zw ?_);refine zC (λ_=>zw ?_) (λ_=>zw ?_)
 case refine_1=>
  rw[Ad Oo]at H;refine zcv (qiv b l w1 (h.ext U)) ?_;rintro r w2 ⟨rfl,rfl⟩;conv=>whnf
  simp_all
 rw[Aa Oo]at H;refine zcv (qdd b l k i w1 (h.ext U) Oo hi (Z k Oo)) ?_;rintro r w2 ⟨rfl,af⟩;have ag:=qxl (i:=i) h.nn Oo (Z k Oo);refine zu ?_;exact⟨(k+1,(chB l k i).1),⟨rfl,Ae (Value.int .i64) Oo,rfl,trivial⟩,⟨by omega,ag.1,H,U.trans af⟩,by omega⟩
def tfin(l:LB)(F:Nat->Int):Nat×Bool:=finD (treD l) (vNum l 3) F 3 0 0 (vNum l 0)
theorem q60(b:Nat)(l:LB)(F:Nat->Int)(w:DU)(h:TreeAt w b l)(ae:VmOk l):
  Gv Eg 75 [pp b,.agg #[ii (F 0),ii (F 1),ii (F 2),ii (F 3)]] w λr w'=>r=.tuple #[ii (tfin l F).1,.bool (tfin l F).2]/\Ext w w':=by
 have t8:tsz Eg 244=8:=by kernel_rfl
 have t1:tsz Eg 3=1:=by kernel_rfl
 obtain⟨R,Z⟩:∃R:Nat×Bool,R=tfin l F:=⟨_,rfl⟩
 rw[<-Z];rw[tfin]at Z;refine ze Tryz.func75 Tryz.ntmps75 ?_;refine znm (Mem.nil w) ?_;intro qb w1 U;have U:Mem w w1 [(qb,.cells (idC F).toArray 95)]:=U;(conv=>whnf);refine DrawV.free Jk Jk (zw ?_);(iterate 3 (refine zd ?_));refine zf ?_ (by intro wd hd;(conv=>whnf);refine zJ 0 ?_;(conv=>whnf);exact xq);refine zd ?_;refine zsd (ii (vNum l 0:Nat)) (λwd hd=>zw ?_) (zw ?_)
 ·obtain⟨PP,cp,S,cs,VV,hc,_⟩:=((h.ext U.ext).lv 0 Oo).h;refine LoadV.cellsE (hc.ext (Ext.trans (Ext.drew xr) hd)) 0 Js rfl (zw ?_);exact xq
 refine zd ?_;refine zd ?_;intro w2 aq;replace U:=U.drew.call aq;(conv=>whnf);refine qk (λx:Nat×Nat×Nat=>[(0,pp b),(3,pp qb),(6,ii x.2.1),(7,ii x.2.2),(17,ii x.1)])
  (λx w'=>x.1<=3/\x.2.1<=1048576/\x.2.2<=1048576/\R=finD (treD l) (vNum l 3) F (3-x.1) x.1 x.2.1 x.2.2/\Mem w w' [(qb,.cells (idC F).toArray 95)]) (λx=>3-x.1) (0,0,vNum l 0)
  fq ⟨Ag _,Ag _,h.n 0 Od,Z,U⟩ ?_
 clear U Z;rintro⟨k,lo,hi⟩ w3 ay ⟨hk,ar,au,Z,U⟩;dsimp only at hk ar au Z U|-;have aa:k<4:=by omega
 have az:=h.n k aa;have ak:=h.wd k aa;obtain⟨PP,cp,S,cs,VV,hc,al,_⟩:=((h.ext U.ext).lv k aa).h;obtain⟨H,eH⟩:∃H,H=min hi (vNum l k):=⟨_,rfl⟩
 obtain⟨L,eL⟩:∃L,L=min lo H:=⟨_,rfl⟩
 have eN:(treD l).N k=vNum l k:=rfl;have af:0+0+k*tsz Eg 244=8*k:=by rw[t8];omega
 refine zu ?_;refine LoadV.cellsE hc 0 Oo rfl (zw ?_);refine V.Fall.min2 rfl rfl rfl λm a0=>?_;obtain rfl:m=(H:Int):=by omega
 (conv=>whnf);refine V.Fall.min2 rfl rfl rfl λm a1=>?_;obtain rfl:m=(L:Int):=by omega
 refine zu ?_;refine LoadV.mem U (i:=0) rfl (by rw[t1,show 0+k*1=k by omega];exact ql2 F aa) (zw ?_);have h1:w3.cell? ⟨b,(0+0+k*tsz Eg 244)+1,none⟩=some (ii (tw l k:Nat)):=by rw[af];exact hc 1 _ rfl
 have h5:w3.cell? ⟨b,(0+0+k*tsz Eg 244)+5,none⟩=some (.slice PP (qg l k).length cp):=by rw[af];exact hc 5 _ rfl
 refine zcv (qho b _ L H (tw l k) cp (F k) PP (qg l k) w3 h1 h5 al ak Oo Oo) ?_;rintro r w4 ⟨rfl,am⟩;replace U:=U.call am;have av:=(treD l).sr_le k (F k) (show L<=H by omega);obtain⟨e,ee⟩:∃e,e=(treD l).sr k L H (F k):=⟨_,rfl⟩
 have ev:(L+bsr (λi=>decide (F k<=(numP (qg l k) (tw l k) (L+i):Int))) (H-L) 0 (H-L))=e:=ee.symm;rw[ev];rw[<-ee]at av;have aw:(treD l).nu k e=numP (qg l k) (tw l k) e:=rfl;have ax:(treD l).ch k e=chB l k e:=rfl;unfold finD at Z;rw[eN,<-eH,<-eL,<-ee,aw,ax]at Z;have hx:∀wd,Ext w4.drew wd->Ext w3 wd:=λwd hd=>am.trans ((Ext.refl w4).drew.trans hd)
 (conv=>whnf);refine DrawV.free Jk Jk (zw ?_);(iterate 4 (refine zd ?_))
 rcases Bj e H with an|an
 case inr=>
  rw[Ad (.inl an)]at Z;have hd:(decide ((H:Int)<=(e:Int)))=true:=(by grind)
  rw[hd];(iterate 8 (refine zd ?_));intro w5 ag;replace U:=U.drew.call ag;refine zu ?_;refine zcv (qgu b l k e w5 (h.ext U.ext) ae hk Oo) ?_;rintro r w6 ⟨rfl,ad⟩;(conv=>whnf);exact⟨by rw[Z],U.ext.trans ad⟩
 have hd:(decide ((H:Int)<=(e:Int)))=false:=(by grind)
 rw[hd];refine zd ?_;refine zd ?_;apply zsd (ii (numP (qg l k) (tw l k) e:Nat))
 ·intro wd hd;refine zu ?_;have ah:=hx wd hd;refine zcv (qci b _ e (tw l k) cp PP (qg l k) wd (ah.cell h1) (ah.cell h5) (al.ext ah) ak Oo) ?_
  simp_all
 (conv=>whnf);refine zd ?_;apply zsd (.pointer (some ⟨qb,k,none⟩))
 ·intro wd hd;refine zu ?_
  grind [Ext.refl]
 (conv=>whnf);apply zsd (ii (F k))
 ·intro wd hd;refine zu ?_;refine LoadV.own (Ext.get (Ext.trans (Ext.drew xr) hd) (U.get (Ak.2 rfl))) (ql2 F aa) (zw ?_);exact xq
 (conv=>whnf);refine zd ?_;refine zd ?_;intro w5 ag;replace U:=U.drew.call ag
 rcases BW (((numP (qg l k) (tw l k) e:Nat):Int)=F k)with ai|ai
 case inr=>
  rw[Ad (.inr ai)]at Z;refine zu ?_;refine zcv (qgu b l k e w5 (h.ext U.ext) ae hk Oo) ?_;rintro r w6 ⟨rfl,ad⟩;(conv=>whnf);exact⟨by rw[Z],U.ext.trans ad⟩
 rw[Aa (by rintro(g|g);omega;exact g ai)]at Z
 rcases Bj k 3 with aj|aj
 case inr=>
  obtain rfl:k=3:=by omega
  refine zu ?_;exact⟨by rw[Z];rfl,U.ext⟩
 obtain⟨m,em⟩:∃m,3-k=m+1:=⟨3-(k+1),by omega⟩
 rw[em]at Z;dsimp only at Z;obtain rfl:m=3-(k+1):=by omega
 have ao:=qxl (i:=e) h.nn Oo (ae k aj);refine zu ?_;refine zcv (qdd b l k e w5 (h.ext U.ext) Oo Oo (ae k aj)) ?_;rintro r w6 ⟨rfl,ad⟩;refine zu ?_;exact⟨(k+1,(chB l k e).1,(chB l k e).2),⟨rfl,rfl,rfl,rfl,Ae (Value.int .i64) Oo,trivial⟩,⟨by omega,ao.1,ao.2,Z,U.call ad⟩,by omega⟩
section
variable {J:Ed->Ec}
theorem V.RowX.cut{e H n:Nat}{ws:Ee}(h:RowX e H (.slice A m c) m (xs++ws) Y)(hx:xs.length=n*H)(hn:n<=m):RowX e H (.slice A n c) n xs Y:=by
 obtain⟨h1,⟨U,h2,V⟩|⟨g,aa,cur,U,V,h4,h5,h6,h7⟩⟩:=h
 ·injection U with U _ Z
  subst U Z h2;obtain rfl:n=0:=by omega
  exact⟨hx,.inl ⟨rfl,rfl,V⟩⟩
 ·injection U with U _ Z
  subst U Z;refine⟨hx,.inr ⟨g,c,cur,rfl,V,by omega,h5,h6,?_⟩⟩
  grind [List.take_left]
end
theorem V.RowX.capd{H n:Nat}{v:DZ}(h:RowX e H v n xs Y):∃A c,v=.slice A n c/\n<=c/\(n=0\/∃g,A=some ⟨g,0,none⟩):=by
 obtain⟨_,⟨rfl,rfl,_⟩|⟨g,U,cur,rfl,_,V,_⟩⟩:=h
 all_goals grind
theorem V.RowX.cells{α:Type}{H:α->Ee}{e:Nat}(V:∀x,(H x).length=sz){l:List α}(h:RowX e sz (.slice (some ⟨g,0,none⟩) l.length c) l.length (l.map H).flatten Y)(hY:∀x∈Y,w.heap[x.1]?=some x.2):
  ∀(i:Nat) (x:α),l[i]?=some x->CellsAt w g (0+i*sz) (H x):=by
 intro i x hi k u hu;obtain⟨_,⟨U,_⟩|⟨g',ad,cur,U,rfl,_,_,_,h5⟩⟩:=h
 ·simp_all
 injection U with U _ _
 injection U with U
 injection U with U
 subst U;have hk:k<sz:=by
  grind
 have aa:=(Af.1 hi).1;have Z:=qdg H sz V l i x k hi hk;have hb:(i+1)*sz<=l.length*sz:=Bx _ aa;rw[<-h5,BE,Ad (by rw[Cz]at hb;omega),hu]at Z;rw[qa (hY _ (Ak.2 rfl)),As]
 simpa using Z
theorem qew(w0:DU):Carr λX w=>Mem w0 w X:=
 ⟨λh H=>h.call H,λh U=>h.get U,λ_ h=>h.new rfl rfl,λV h=>h.setO (i:=0) V rfl rfl,λh=>h.sub Js,λh Z=>h.perm Z.symm⟩
theorem V.RowX.sl{α:Type}{H:α->Ee}{e n:Nat}{v:DZ}(U:∀x,(H x).length=sz){l:List α}(h:RowX e sz v n (l.map H).flatten Y)(Z:l.length=n)(hY:∀x∈Y,w.heap[x.1]?=some x.2):
  ∃A c,v=.slice A n c/\n<=c/\SlAt H sz w A l:=by
 subst Z;obtain⟨A,c,rfl,hc,hg⟩:=V.RowX.capd h;refine⟨A,c,rfl,hc,⟨λaa=>?_⟩⟩
 grind [V.RowX.cells]
namespace V
def ApJ3(J:Ed->Ec)(W Y:Ed)(o:Obj)(R R2:DZ->Ed->Prop)(s1 s2 s3:Bool)(v u x:DZ)(w:DU):Prop:=
 (s1=false/\s2=false/\s3=false/\J (Y++W) w)\/
 (s1=true/\s2=false/\s3=false/\∃U,v=.slice (some ⟨U,0,none⟩) 1 1/\J ((U,o)::(Y++W)) w)\/
 (s1=true/\s2=true/\s3=false/\∃H,R u H/\J (H++W) w)\/
 (s1=true/\s2=true/\s3=true/\∃H,R2 x H/\J (H++W) w)
section
variable {J:Ed->Ec} {W Y:Ed} {o:Obj} {R R2:DZ->Ed->Prop} {s1 s2 s3:Bool} {v u x:DZ} {w:DU}
theorem ApJ3.get(H:Carr J)(h:ApJ3 J W Y o R R2 s1 s2 s3 v u x w){y:Nat}{U:Obj}(V:(y,U)∈W):w.heap[y]?=some U:=by
 rcases h with⟨_,_,_,h⟩|⟨_,_,_,_,_,h⟩|⟨_,_,_,_,_,h⟩|⟨_,_,_,_,_,h⟩
 ·exact H.get h (by grind)
 ·exact H.get h (by grind)
 ·exact H.get h (by grind)
 ·exact H.get h (by grind)
theorem ApJ3.laid(H:Carr J)(h:ApJ3 J W Y o R R2 false s2 s3 v u x w):ApJ3 J W Y o R R2 true s2 s3 (.slice (some ⟨w.heap.size,0,none⟩) 1 1) u x (w.alloc o):=by
 rcases h with⟨_,U,V,h⟩|⟨h,_⟩|⟨h,_⟩|⟨h,_⟩
 ·exact .inr (.inl ⟨rfl,U,V,_,rfl,H.new o h⟩)
 all_goals simp_all
theorem ApJ3.ready(h:ApJ3 J W Y o R R2 true false s3 v u x w):s3=false/\∃H,v=.slice (some ⟨H,0,none⟩) 1 1/\J ((H,o)::(Y++W)) w:=by
 rcases h with⟨h,_⟩|⟨_,_,U,h⟩|⟨_,h,_⟩|⟨_,h,_⟩
 all_goals simp_all
theorem ApJ3.put(h:ApJ3 J W Y o R R2 s1 true false v u x w):s1=true/\∃H,R u H/\J (H++W) w:=by
 rcases h with⟨_,h,_⟩|⟨_,h,_⟩|⟨U,_,_,h⟩|⟨_,_,h,_⟩
 all_goals simp_all
theorem ApJ3.done(h:ApJ3 J W Y o R R2 s1 s2 true v u x w):∃H,R2 x H/\J (H++W) w:=by
 rcases h with⟨_,_,h,_⟩|⟨_,_,h,_⟩|⟨_,_,h,_⟩|⟨_,_,_,h⟩
 all_goals simp_all
end
end V
def wilF(P:Nat->Int):Nat->Nat
 | 0=>0
 | k+1=>if P k<0 then wilF P k else k+1
theorem qwt(P:Nat->Int):∀k,wilF P k<=k
 | 0=>Ai _
 | k+1=>by
  have:=qwt P k;rw[wilF]
  split<;>omega
theorem qrp{P:Nat->Int}:∀{k j:Nat},wilF P k<=j->j<k->P j<0
 | 0,j,_,h=>Oo
 | k+1,j,H,V=>by
  rw[wilF]at H
  split at H
  ·rename_i U
   rcases Bj j k with g|g
   ·exact qrp H g
   ·obtain rfl:j=k:=by omega
    exact U
  ·omega
theorem q66(P:Nat->Int)(w:DU):Gv Eg 126 [.agg #[ii (P 0),ii (P 1),ii (P 2),ii (P 3)]] w λr w'=>r=ii (wilF P 4:Nat)/\Ext w w':=by
 have t1:tsz Eg 3=1:=by kernel_rfl
 obtain⟨R,H⟩:∃R,R=wilF P 4:=⟨_,rfl⟩
 rw[<-H];refine ze Tryz.func126 Tryz.ntmps126 ?_;refine znm (Mem.nil w) ?_;intro V w1 U;have U:Mem w w1 [(V,.cells (idC P).toArray 95)]:=U;(conv=>whnf);refine qk (λk:Nat=>[(1,pp V),(3,ii k)]) (λk w'=>k<=4/\R=wilF P k/\Mem w w' [(V,.cells (idC P).toArray 95)]) (λk=>k) 4 fq ⟨Ai _,H,U⟩ ?_;clear U H;rintro k w2 aa ⟨hk,H,U⟩
 rcases B9 k with Z|Z
 case inl=>
  subst Z;refine zu ?_;exact⟨by rw[H];rfl,U.ext⟩
 obtain⟨m,rfl⟩:∃m,k=m+1:=⟨k-1,by omega⟩
 rw[wilF]at H;refine zu ?_;refine IdxV.at_ m Oo Oo (zu ?_);refine LoadV.own (U.get (Ak.2 rfl)) (by rw[t1,show 0+m*1=m by omega];exact ql2 P Oo) ?_
 rcases DH (P m) 0 with hn|hn
 ·rw[Ad hn]at H;refine zu ?_;exact⟨m,⟨rfl,Ae (Value.int .i64) Oo,trivial⟩,(by grind),by omega⟩
 ·rw[Aa Oo]at H;refine zu ?_;exact⟨by rw[H],U.ext⟩
def tcnt(l:LB)(P:Nat->Int):Nat:=cntD (treD l) (vNum l 3) (tmaR l P).length (wilF P 4) P (wilF P 4) 0 0 (vNum l 0)
theorem qv7(T:LvD)(N:Nat):∀(f k i:Nat),staD T N f k i<=N
 | 0,k,i=>Nat.min_le_right ..
 | f+1,k,i=>by
  rw[staD]
  split
  ·exact Ai _
  ·exact qv7 T N f _ _
theorem qabq{n:Nat}(h:TOk Q n)(P:Nat->Int):tcnt (qu Q n) P=(maT P Q 0 0 n).length:=by
 have U:vNum (qu Q n) 3=n:=by rw[h.vNum Od,h.all Oo]
 have V:(tmaR (qu Q n) P).length=(maT P Q 0 0 n).length:=by rw[<-h.mtch (q:=λ_=>0),AG];rfl
 rw[tcnt,V,U]
 rcases B9 (wilF P 4)with H|H
 ·rw[H,cntD,qj8 Od (λj _ Z=>qrp Oo Z)];rfl
 ·refine qaet h h.canD (qwt P 4) (by grind [qrp]) H Oo ?_ ?_
  ·rw[h.vNum Od];exact h.winT
  ·rw[h.vNum Od];exact Ae List.length h.lvM_all
theorem q1j(b:Nat)(l:LB)(P:Nat->Int)(w:DU)(h:TreeAt w b l)(ae:VmOk l)(hP:∀k,k<4->InR .i64 (P k))(bf:(tmaR l P).length<=1048576):
  Gv Eg 62 [pp b,.agg #[ii (P 0),ii (P 1),ii (P 2),ii (P 3)]] w λr w'=>r=ii (tcnt l P:Nat)/\Ext w w':=by
 have t8:tsz Eg 244=8:=by kernel_rfl
 have t1:tsz Eg 3=1:=by kernel_rfl
 obtain⟨W,eW⟩:∃W,W=wilF P 4:=⟨_,rfl⟩
 have bi:W<=4:=by grind [qwt]
 obtain⟨Z,eZ⟩:∃Z,Z=(tmaR l P).length:=⟨_,rfl⟩
 obtain⟨R,eR⟩:∃R:Nat,R=tcnt l P:=⟨_,rfl⟩
 rw[<-eR];rw[tcnt,<-eW,<-eZ]at eR;have h3:=h.n 3 Od;refine gvW Jk Tryz.func62 rfl Tryz.ntmps62 rfl (zw ?_);refine znm (Mem.nil w) ?_;intro qb w1 U;obtain⟨qo,am⟩:∃qo:Obj,qo=.cells (idC P).toArray 95:=⟨_,rfl⟩
 have U:Mem w w1 [(qb,qo)]:=by rw[am];exact U
 have af:∀L w',Mem w w' (L++[(qb,qo)])->w'.heap[qb]?=some (.cells (idC P).toArray 95):=λL w' h=>by rw[<-am];exact h.get (Ac _ (Ak.2 rfl))
 (conv=>whnf);refine LoadA.own (af [] _ U) rfl (zw ?_);refine zcv (q66 P w1) ?_;rintro r w2 ⟨rfl,ax⟩;rw[<-eW];replace U:=U.call ax;(conv=>whnf);refine DrawW.any Jk (.inl rfl) (AnyV.free Jk ?_);(conv=>whnf);(iterate 3 (refine zd ?_));refine zf ?_ (by intro wd hd;(conv=>whnf);refine zJ 0 ?_;(conv=>whnf);exact xq);refine zd ?_;refine zsd (ii (vNum l 0:Nat)) (λwd hd=>zw ?_) (zw ?_)
 ·obtain⟨PP,cp,S,cs,VV,hc,_⟩:=((h.ext U.ext).lv 0 Oo).h;refine LoadV.cellsE (hc.ext (Ext.trans (Ext.drew xr) hd)) 0 Js rfl (zw ?_);exact xq
 refine zd ?_;refine zd ?_;intro w3 ay;replace U:=U.drew.call ay;(conv=>whnf);refine q95 (λx:Nat×Nat×Nat=>[(0,pp b),(3,pp qb),(5,ii W),(6,ii x.2.1),(7,ii x.2.2),(20,ii W),(21,ii x.1)])
  (λx w'=>x.1<=W/\x.2.1<=1048576/\x.2.2<=1048576/\R=cntD (treD l) (vNum l 3) Z W P (W-x.1) x.1 x.2.1 x.2.2/\Mem w w' [(qb,qo)]) (λx=>W-x.1) (0,0,vNum l 0)
  fq ⟨Ag _,Ag _,h.n 0 Od,eR,U⟩ ?_
 clear U eR;rintro⟨k,lo,hi⟩ w4 bj ⟨hk,az,a0,eR,U⟩;dsimp only at hk az a0 eR U|-
 rcases Bj k W with a1|a1
 case inr=>
  obtain rfl:k=W:=by omega
  rw[BU,cntD]at eR;refine zu ?_;refine zcv (qiv b l w4 (h.ext U.ext)) ?_;rintro r w5 ⟨rfl,rfl⟩;(conv=>whnf);exact⟨by rw[eR],U.ext⟩
 have ad:k<4:=by omega
 have bk:=h.n k ad;have an:=h.wd k ad;obtain⟨PP,cp,S,cs,VV,hc,ao,_⟩:=((h.ext U.ext).lv k ad).h;obtain⟨m,em⟩:∃m,W-k=m+1:=⟨W-(k+1),by omega⟩
 rw[em,cntD,Aa Oo]at eR;refine zu ?_;refine LoadV.own (af [] _ U) (by rw[t1,show 0+k*1=k by omega];exact ql2 P ad) ?_
 rcases DH (P k) 0 with hn|hn
 case inl=>
  rw[Ad hn]at eR;refine zu ?_;have cM:=qew w;refine NewV.carr cM U λnb w5 U=>zw ?_;refine StoreV.carr cM (A:=[]) U Js rfl ?_;clear U;intro w6 U;have U:Mem w w6 ([(nb,.cells #[ii 0] 3)]++[(qb,qo)]):=U;(conv=>whnf);refine LoadA.own (af _ _ U) rfl (zw ?_);refine zcv (qow b P w6) ?_;rintro r w7 ⟨c1,c2,rfl,a2⟩;replace U:=cM.call U a2;obtain⟨L,hL⟩:∃L:Ed,L=[(c2,.cells #[ii (P 0),ii (P 1),ii (P 2),ii (P 3)] 95),(c1,.cells #[pp b] 141)]:=⟨_,rfl⟩
  have U:Mem w w7 ([]++((nb,.cells #[ii (0:Nat)] 3)::(L++[(qb,qo)]))):=by
   rw[hL];refine U.perm ?_
   simpa using(Bz (a:=(nb,Obj.cells #[ii 0] 3)) (l₁:=[(c2,Obj.cells #[ii (P 0),ii (P 1),ii (P 2),ii (P 3)] 95),(c1,Obj.cells #[pp b] 141)]) (l₂:=[(qb,qo)])).symm
  have a3:(c1,Obj.cells #[pp b] 141)∈L:=by rw[hL];simp
  have a4:(c2,Obj.cells #[ii (P 0),ii (P 1),ii (P 2),ii (P 3)] 95)∈L:=by rw[hL];simp
  have a5:((tmaR l P).map mRow).length=Z:=by simp_all
  have cJ:∀k:Nat,Carr λX w'=>Mem w w' (X++((nb,.cells #[ii k] 3)::(L++[(qb,qo)]))):=λk=>cM.tail _
  (conv=>whnf);refine qyt (Φ:=λw=>TmaΦ b l c1 c2 w/\qad3 P c2 w) (lb:=[pp c1,pp c2]) (xs:=(tmaR l P).map mRow) rfl Jk (qox b l P c1 c2 ae hP) Od ?_
   (λk X w'=>Mem w w' (X++((nb,.cells #[ii k] 3)::(L++[(qb,qo)])))) (λc k X w'=>False/\Mem w w' (X++((nb,.cells #[ii k] 3)::(L++[(qb,qo)]))))
   cJ (λc k=>Carr.and (cJ k))
   (λk X w' hh=>⟨⟨h.ext hh.ext,by rw[qa (hh.get (Ac _ (zmc (Aj _ a3))))];rfl⟩,λj v hv=>by rw[qa (hh.get (Ac _ (zmc (Aj _ a4)))),As,<-hv];simp⟩) U ?_ ?_ ?_
  ·intro r hr;obtain⟨j,_,rfl⟩:=AF.1 hr;rfl
  ·rintro l2 D od k2 r X w8 w9 hr hJ;have bl:k2<Z:=by grind
   rw[Ao]at hr;cases aq:(tmaR l P)[k2]? with
   | none=>simp_all
   | some row=>
   rw[aq,Bd,AR]at hr;subst hr;(conv=>whnf);refine⟨rfl,rfl,?_⟩;(conv=>whnf);refine LoadV.own (hJ.get (Ac ((l2,od)::(D,.deferred (some []))::X) mh)) rfl (zu ?_);refine StoreV.carr cM (A:=(l2,od)::(D,.deferred (some []))::X) hJ Js rfl λbm hJ=>zw ?_;exact hJ
  ·rintro D w8 hJ;rw[a5]at hJ;(conv=>whnf);refine LoadV.own (hJ.get (Ac _ mh)) rfl (zw ?_);refine LeaveV.marks (J:=λX w'=>Mem w w' (X++((nb,.cells #[ii Z] 3)::(L++[(qb,qo)])))) (cJ Z) ?_ (D:=D) (Ds:=[]) hJ;intro w' h';(conv=>whnf);exact⟨by rw[eR],h'.ext⟩
  simp
 rw[Aa Oo]at eR;obtain⟨H,eH⟩:∃H,H=min hi (vNum l k):=⟨_,rfl⟩
 obtain⟨L,eL⟩:∃L,L=min lo H:=⟨_,rfl⟩
 have eN:(treD l).N k=vNum l k:=rfl;have ag:0+0+k*tsz Eg 244=8*k:=by rw[t8];omega
 refine zu ?_;refine LoadV.cellsE hc 0 Oo rfl (zw ?_);refine V.Fall.min2 rfl rfl rfl λm bn=>?_;obtain rfl:m=(H:Int):=by omega
 (conv=>whnf);refine V.Fall.min2 rfl rfl rfl λm bo=>?_;obtain rfl:m=(L:Int):=by omega
 refine zu ?_;refine LoadV.own (af [] _ U) (by rw[t1,show 0+k*1=k by omega];exact ql2 P ad) (zw ?_);have h1:w4.cell? ⟨b,(0+0+k*tsz Eg 244)+1,none⟩=some (ii (tw l k:Nat)):=by rw[ag];exact hc 1 _ rfl
 have h5:w4.cell? ⟨b,(0+0+k*tsz Eg 244)+5,none⟩=some (.slice PP (qg l k).length cp):=by rw[ag];exact hc 5 _ rfl
 refine zcv (qho b _ L H (tw l k) cp (P k) PP (qg l k) w4 h1 h5 ao an Oo Oo) ?_;rintro r w5 ⟨rfl,ar⟩;replace U:=U.call ar;have a6:=(treD l).sr_le k (P k) (show L<=H by omega);obtain⟨e,ee⟩:∃e,e=(treD l).sr k L H (P k):=⟨_,rfl⟩
 have ev:(L+bsr (λi=>decide (P k<=(numP (qg l k) (tw l k) (L+i):Int))) (H-L) 0 (H-L))=e:=ee.symm;rw[ev];rw[<-ee]at a6;have a7:(treD l).nu k e=numP (qg l k) (tw l k) e:=rfl;have a8:(treD l).ch k e=chB l k e:=rfl;rw[eN,<-eH,<-eL,<-ee,a7,a8]at eR;have hx:∀wd,Ext w5.drew wd->Ext w4 wd:=λwd hd=>ar.trans ((Ext.refl w5).drew.trans hd)
 (conv=>whnf);refine DrawW.any Jk (.inl rfl) (AnyV.free Jk ?_);(conv=>whnf);(iterate 4 (refine zd ?_))
 rcases Bj e H with au|au
 case inr=>
  rw[Ad (.inl au)]at eR;have hd:(decide ((H:Int)<=(e:Int)))=true:=(by grind)
  rw[hd];(iterate 8 (refine zd ?_));intro w6 ah;replace U:=U.drew.call ah;refine zu ?_;exact⟨by rw[eR];rfl,U.ext⟩
 have hd:(decide ((H:Int)<=(e:Int)))=false:=(by grind)
 rw[hd];refine zd ?_;refine zd ?_;apply zsd (ii (numP (qg l k) (tw l k) e:Nat))
 ·intro wd hd;refine zu ?_;have ai:=hx wd hd;refine zcv (qci b _ e (tw l k) cp PP (qg l k) wd (ai.cell h1) (ai.cell h5) (ao.ext ai) an Oo) ?_
  grind
 (conv=>whnf);refine zd ?_;apply zsd (.pointer (some ⟨qb,k,none⟩))
 ·intro wd hd;refine zu ?_
  grind [Ext.refl]
 (conv=>whnf);apply zsd (ii (P k))
 ·intro wd hd;refine zu ?_;refine LoadV.own (Ext.get (Ext.trans (Ext.drew xr) hd) (af [] _ U)) (ql2 P ad) (zw ?_);exact xq
 (conv=>whnf);refine zd ?_;refine zd ?_;intro w6 ah;replace U:=U.drew.call ah
 rcases BW (((numP (qg l k) (tw l k) e:Nat):Int)=P k)with aj|aj
 case inr=>
  rw[Ad (.inr aj)]at eR;refine zu ?_;exact⟨by rw[eR];rfl,U.ext⟩
 rw[Aa (by rintro(g|g);omega;exact g aj)]at eR
 rcases Bj k 3 with ak|ak
 case inr=>
  obtain rfl:k=3:=by omega
  rw[Ad rfl]at eR;refine zu ?_;exact⟨by rw[eR];rfl,U.ext⟩
 rw[Aa Oo]at eR
 rcases BW (k+1=W)with aa|aa
 case inl=>
  rw[Ad aa]at eR;refine zu ?_;refine zcv (qgu b l k (e+1) w6 (h.ext U.ext) ae Oo Oo) ?_;rintro r w7 ⟨rfl,al⟩;replace U:=U.call al;obtain⟨y1,a9⟩:∃y1,y1=staD (treD l) (vNum l 3) (3-k) k (e+1):=⟨_,rfl⟩
  obtain⟨y0,av⟩:∃y0,y0=staD (treD l) (vNum l 3) (3-k) k e:=⟨_,rfl⟩
  have ba:=qv7 (treD l) (vNum l 3) (3-k) k (e+1);have bb:=qv7 (treD l) (vNum l 3) (3-k) k e;rw[<-a9]at ba eR|-;rw[<-av]at bb eR;(conv=>whnf);refine zcv (qgu b l k e w7 (h.ext U.ext) ae Oo Oo) ?_;rintro r w8 ⟨rfl,be⟩;rw[<-av];replace U:=U.call be;refine zu ?_;refine V.Fall.max2 rfl rfl rfl λm bp=>?_
  (conv=>whnf);exact⟨by grind,U.ext⟩
 rw[Aa aa]at eR;obtain rfl:m=W-(k+1):=by omega
 have aw:=qxl (i:=e) h.nn Oo (ae k ak);refine zu ?_;refine zcv (qdd b l k e w6 (h.ext U.ext) Oo Oo (ae k ak)) ?_;rintro r w7 ⟨rfl,al⟩;refine zu ?_;exact⟨rfl,(k+1,(chB l k e).1,(chB l k e).2),⟨rfl,rfl,rfl,rfl,rfl,rfl,Ae (Value.int .i64) Oo,trivial⟩,⟨by omega,aw.1,aw.2,eR,U.call al⟩,by omega⟩
end Go.Proofs.YtccmcfpmknpccaaGreatDoor
