/- Lemmas and contracts of functions on the way to the law's card (part 7 of 11). -/
import Derived.Test.YtccmcfpmknpccaaGreatDoorSO6
import Derived.OrdersIn
namespace Go.Proofs.YtccmcfpmknpccaaGreatDoor
set_option maxHeartbeats 8000000
open Go.RowKit V
set_option maxHeartbeats 8000000
set_option maxRecDepth 100000
variable {a b c hi i id j k lo m off:Nat} {A:oA} {w w' w0:DA} {T out ts:List TM} {v0 v1 v2 v3:DF} {lb news vs xs:DK} {s3:Bool} {P:DC} {L X:DJ} {args cs cur:DN} {ahead l s:LB} {R:DG} {o:Oper} {ds:DO} {ops:Array Oper} {Q:QW} {ρ:DH} {assign body:Code} {gf:FuncId} {J:DJ->DI} {fr:Nat×Nat} {K':Act->DI} {Q':Exit->Act->DI} {qs:List Q4}
theorem qeb{Z:Type}(W:Z->DK)(H:Nat)(U:∀x,(W x).length=H):∀(l:List Z) (j:Nat) (x:Z) (k:Nat),l[j]?=some x->k<H->((l.map W).flatten)[j*H+k]?=(W x)[k]?
 | [],j,x,k,h,_=>by simp at h
 | y::l,0,x,k,h,hk=>by
  simp only[AQ,AI]at h;subst h;simp only[AB,Dc,Nat.zero_mul,As];rw[AS (by rw[U];exact hk)]
 | y::l,j+1,x,k,h,hk=>by
  simp only[B7]at h;simp only[AB,Dc];rw[AV (by rw[U,CM];omega),U,show(j+1)*H+k-H=j*H+k by rw[CM];omega];exact qeb W H U l j x k h hk
theorem qdr{α:Type}{enc:α->DK}{H n base:Nat}{e:DD}{l:List α}(U:∀x,(enc x).length=H)(h:w.ownsRow base e H (.slice A n c) n (l.map enc).flatten)(hn:l.length=n):
  SlAt enc H w A l/\n<=c:=by
 obtain⟨h1,⟨h2,h3⟩|⟨g,aa,cur,h2,_,h3,h4,_,h5,h6⟩⟩:=h
 ·subst h3;refine⟨⟨λW=>absurd (Bo hn) W⟩,Af _⟩
 ·cases h2;refine⟨⟨λ_=>⟨g,0,rfl,λj x hx k v hv=>?_⟩⟩,h4⟩;have hk:k<H:=by
   have:=(Ae.1 hv).1
   rwa[U]at this
  have hj:j<n:=by rw[<-hn];exact(Ae.1 hx).1
  have Z:j*H+k<n*H:=by
   have:(j+1)*H<=n*H:=B9 _ hj;rw[CM]at this;omega
  rw[qa h3,As,<-hv,<-qeb enc H U l j x k hx hk,<-h6,Bv,Ab Z];simp
theorem qaf(t:TM):(encT t).length=4:=rfl
def qbx(out:List TM)(x:TM):List TM:=
 match out.getLast? with
 | some z=>bif qal z x then out else out++[x]
 | none=>out++[x]
def mrgN:Nat->List TM->List TM->List TM->List TM
 | 0,_,_,out=>out
 | f+1,a,b,out=>
  match a,b with
  | [],[]=>out
  | x::a,[]=>mrgN f a [] (qbx out x)
  | [],y::b=>mrgN f [] b (qbx out y)
  | x::a,y::b=>if cmpT x y<=0 then mrgN f a (y::b) (qbx out x)else mrgN f (x::a) b (qbx out y)
def tmsN:Nat->List TM->List TM
 | 0,l=>l
 | f+1,l=>if l.length<2 then l else mrgN ((tmsN f (l.take (l.length/2))).length+(tmsN f (l.drop (l.length/2))).length) (tmsN f (l.take (l.length/2))) (tmsN f (l.drop (l.length/2))) []
theorem qkr(out:List TM)(x:TM):(qbx out x).length<=out.length+1:=by
 unfold qbx
 split
 ·cases qal _ x<;>simp
 ·simp
theorem qlr:∀(f:Nat) (a b out:List TM),(mrgN f a b out).length<=a.length+b.length+out.length
 | 0,a,b,out=>by rw[mrgN];omega
 | f+1,a,b,out=>by
  unfold mrgN
  split
  ·omega
  ·rename_i x a
   have:=qlr f a [] (qbx out x);have:=qkr out x;simp only[Au]at *;omega
  ·rename_i y b
   have:=qlr f [] b (qbx out y);have:=qkr out y;simp only[Au]at *;omega
  ·rename_i x a y b
   split
   ·have:=qlr f a (y::b) (qbx out x);have:=qkr out x;simp only[Au]at *;omega
   ·have:=qlr f (x::a) b (qbx out y);have:=qkr out y;simp only[Au]at *;omega
theorem qqy:∀(f:Nat) (l:List TM),(tmsN f l).length<=l.length
 | 0,l=>Ai _
 | f+1,l=>by
  rw[tmsN]
  split
  ·exact Ai _
  ·have h1:=qqy f (l.take (l.length/2));have h2:=qqy f (l.drop (l.length/2));refine AE (qlr _ _ _ _) ?_;rw[Ar]at h1;rw[zld]at h2;simp only[B6];omega
def TmR(l:List TM)(v:DF)(w:DA):Prop:=∃B d,v=.slice B l.length d/\l.length<=d/\SlAt encT 4 w B l
theorem TmR.ext{l:List TM}(v:DF)(w w':DA)(h:TmR l v w)(H:Ext w w'):TmR l v w':=by
 obtain⟨B,d,h1,h2,h3⟩:=h;exact⟨B,d,h1,h2,h3.ext H⟩
theorem qb7{Z:Type}(U:Z->DK)(H:Nat)(W:∀x,(U x).length=H)(l:List Z):((l.map U).flatten).length=l.length*H:=by
 induction l with
 | nil=>simp
 | cons x l ih=>simp only[AB,Dc,zla,W,ih,Au,CM];omega
theorem qen{α:Type}{U:α->DK}{H:Nat}(Z:0<H)(W:∀x,(U x).length=H){l:List α}(h:∀(j:Nat) x,l[j]?=some x->CellsAt w b (off+j*H) (U x)):CellsAt w b off (l.map U).flatten:=by
 intro k v hv;have hk:=(Ae.1 hv).1;rw[qb7 U H W]at hk;have hj:k/H<l.length:=(De Z).2 hk;have hx:=zge hj;have hm:=Cs k Z;have he:=qeb U H W l (k/H) _ (k%H) hx hm;rw[show k/H*H+k%H=k from by rw[Cg];exact Nat.div_add_mod k H]at he;rw[he]at hv;have:=h (k/H) _ hx (k%H) v hv
 rwa[show off+k/H*H+k%H=off+k from by rw[Cb,show k/H*H+k%H=k from by rw[Cg];exact Nat.div_add_mod k H]]at this
theorem qic(l:List TM)(A:oA)(c:Nat)(w:DA)(h2:l.length<2)(hS:SlAt encT 4 w A l):
  Gv DM 82 [.slice A l.length c] w λv w'=>TmR l v w'/\Ext w w':=by
 refine ze Tryz.func82 Tryz.ntmps82 ?_;refine zv ?_;refine⟨λW Z hb hw=>?_⟩;have U:Ext w Z:=by rw[hw];exact xr.alloc _
 have hg:Z.heap[W]?=some (.cells #[] 45):=by rw[hw,hb];exact heap_alloc_new w _
 have hR:Rw w Z (.slice (some ⟨W,0,none⟩) 0 0) 45 4 0 [] []:=⟨(Mem.nil w).call U,⟨rfl,.inr ⟨W,0,#[],rfl,by omega,hg,Ai _,Af _,rfl,rfl⟩⟩,λx hx=>by simp at hx⟩
 (conv=>whnf);refine AppV.rw (m:=l.length) (news:=(l.map encT).flatten) qni trmI trmZ Jk Jk Od hR (qb7 encT 4 qaf l) (λaa=>?_) ?_ (by rw[show((DM.info? 45).get Jk).bytes=56 from by kernel_rfl];omega) Oo ?_
 ·obtain⟨b,off,h3,h4⟩:=hS.at_ (by intro e;subst e;exact aa rfl);exact⟨b,off,h3,(qen Od qaf h4).ext U⟩
 ·intro u hu;obtain⟨x,hx,ad⟩:=D7.1 hu;obtain⟨t,_,rfl⟩:=AA.1 hx;exact qaa t u ad
 intro B d w2 H;(conv=>whnf);have e:0+l.length=l.length:=As _;rw[e]at H|-;obtain⟨h3,h4⟩:=qdr qaf H.own rfl;exact⟨⟨B,d,rfl,h4,h3⟩,H.mem.ext⟩
theorem qadq{x y:TM}{a b:List TM}(h:cmpT x y<=0):mrgN ((x::a).length+(y::b).length) (x::a) (y::b) out=mrgN (a.length+(y::b).length) a (y::b) (qbx out x):=by
 rw[show(x::a).length+(y::b).length=(a.length+(y::b).length)+1 by simp;omega,mrgN,Ab h]
theorem qadp{x y:TM}{a b:List TM}(h:¬cmpT x y<=0):mrgN ((x::a).length+(y::b).length) (x::a) (y::b) out=mrgN ((x::a).length+b.length) (x::a) b (qbx out y):=by
 rw[show(x::a).length+(y::b).length=((x::a).length+b.length)+1 by simp;omega,mrgN,Aa h]
theorem V.SlAt.pop{W:Type}{U:W->DK}{H:Nat}{x:W}{a l:List W}(h:SlAt U H w A l)(e:l=x::a)(Z:l.length<=c):
  (∃g o,A=some ⟨g,o,none⟩/\CellsAt w g (o+0*H) (U x))/\SlAt U H w (if c=1 then A else A.map (·.add (1*H))) a:=by
 subst e;obtain⟨g,o,h1,h2⟩:=h.at_ Js;refine⟨⟨g,o,h1,h2 0 x rfl⟩,?_⟩;have:=h.cut (lo:=1) (hi:=(x::a).length) (m:=c) Js znr Z rfl
 rwa[show((x::a).drop 1).take ((x::a).length-1)=a from BO]at this
structure MgG where
 a:List TM
 A:oA
 ca:Nat
 b:List TM
 B:oA
 cb:Nat
 out:List TM
 O:oA
 co:Nat
theorem qv3:∀(n:Nat) (l:List TM) (A:oA) (c:Nat) (w:DA),l.length<=n->SlAt encT 4 w A l->l.length<=c->l.length<=16777216->
  Gv DM 82 [.slice A l.length c] w λv w'=>TmR (tmsN n l) v w'/\Ext w w':=by
 intro n
 induction n with
 | zero=>
  intro l A c w hn hS hc hl;exact qic l A c w Oo hS
 | succ n ih=>
  intro l A c w hn hS hc hl
  by_cases h2:l.length<2
  ·rw[tmsN,Ab h2];exact qic l A c w h2 hS
  have et:tmsN (n+1) l=mrgN ((tmsN n (l.take (l.length/2))).length+(tmsN n (l.drop (l.length/2))).length) (tmsN n (l.take (l.length/2))) (tmsN n (l.drop (l.length/2))) []:=by rw[tmsN,Aa h2]
  rw[et];have au:(l.take (l.length/2)).length=l.length/2:=by rw[Ar];omega
  have ak:(l.drop (l.length/2)).length=l.length-l.length/2:=zld ..;have Z:=hS.cut (lo:=0) (hi:=l.length/2) (m:=c) Oo Oo Oo rfl;have aa:=hS.cut (lo:=l.length/2) (hi:=l.length) (m:=c) Oo Oo Oo rfl;rw[Bn,Ch]at Z;rw[Aj (by rw[ak];exact Ai _)]at aa;have ag:=λw' h=>ih (l.take (l.length/2)) (if c=0 then A else A.map (·.add (0*4))) c w' Oo h Oo Oo
  have ah:=λw' h=>ih (l.drop (l.length/2)) (if c=l.length/2 then A else A.map (·.add (l.length/2*4))) (c-l.length/2) w' Oo h Oo Oo
  rw[au]at ag;rw[ak]at ah;have al:=qqy n (l.take (l.length/2));have am:=qqy n (l.drop (l.length/2));obtain⟨ta,av⟩:∃ta,ta=tmsN n (l.take (l.length/2)):=⟨_,rfl⟩
  obtain⟨tb,aw⟩:∃tb,tb=tmsN n (l.drop (l.length/2)):=⟨_,rfl⟩
  rw[<-av]at ag al|-;rw[<-aw]at ah am|-;rw[au]at al;rw[ak]at am;clear et av aw ih;refine ze Tryz.func82 Tryz.ntmps82 ?_;refine zv ?_;refine DrawV.free Jk Jk (zw ?_);(iterate 4 (refine zd ?_));refine zsd (.slice (if c=0 then A else A.map (·.add (0*4))) (l.length/2) c) (λwd hd=>zw ?_) (zw ?_)
  ·refine SliceV.to 0 (l.length/2) c rfl rfl rfl Oo Oo znr (λh=>by cases h) ?_;rw[show tsz DM 45=4 from by kernel_rfl];exact xq
  apply StepD.of (TmR ta) TmR.ext
  ·intro wd hd;(conv=>whnf);refine zcv (ag wd (Z.ext ((Ext.refl w).drew.trans hd))) ?_;rintro v w5 ⟨h1,h2⟩;exact⟨h2,h1⟩
  (conv=>whnf);(iterate 4 (refine zd ?_));refine zsd (.slice (if c=l.length/2 then A else A.map (·.add (l.length/2*4))) (l.length-l.length/2) (c-l.length/2)) (λwd hd=>zw ?_) (zw ?_)
  ·refine SliceV.to (l.length/2) l.length c rfl rfl rfl Oo Oo znr (λh=>by cases h) ?_;rw[show tsz DM 45=4 from by kernel_rfl];exact xq
  apply StepD.of (TmR tb) TmR.ext
  ·intro wd hd;conv=>whnf
   repeat(intro _ _;(conv=>whnf))
   refine zcv (ah wd (aa.ext ((Ext.refl w).drew.trans hd))) ?_;rintro v w5 ⟨h1,h2⟩;exact⟨h2,h1⟩
  (conv=>whnf);apply StepD.of (TmR ta) TmR.ext
  ·intro wd hd;conv=>whnf
   repeat(rintro _ ⟨_,_,rfl,_,_⟩;(conv=>whnf))
   exact⟨xr,_,_,rfl,by assumption,by assumption⟩
  (conv=>whnf);apply StepD.of (TmR tb) TmR.ext
  ·intro wd hd;conv=>whnf
   repeat(rintro _ ⟨_,_,rfl,_,_⟩;(conv=>whnf))
   exact⟨xr,_,_,rfl,by assumption,by assumption⟩
  (conv=>whnf);intro w4 he;(conv=>whnf);rintro _ ⟨B1,b1,rfl,ax,ay⟩;(conv=>whnf);rintro _ ⟨A1,a1,rfl,az,a0⟩;(conv=>whnf);intro _ _;(conv=>whnf);intro _ _;(conv=>whnf);clear ag ah Z aa;have a9:Ext w w4:=(Ext.refl w).drew.trans he;refine qq (λx:MgG=>[(3,.slice x.A x.a.length x.ca),(4,.slice x.B x.b.length x.cb),(5,.slice x.O x.out.length x.co)])
   (λx w'=>SlAt encT 4 w4 x.A x.a/\x.a.length<=x.ca/\SlAt encT 4 w4 x.B x.b/\x.b.length<=x.cb/\Rw w4 w' (.slice x.O x.out.length x.co) 45 4 x.out.length (x.out.map encT).flatten []/\mrgN (x.a.length+x.b.length) x.a x.b x.out=mrgN (ta.length+tb.length) ta tb []/\x.a.length+x.b.length+x.out.length<=16777216)
   (λx=>x.a.length+x.b.length) ⟨ta,A1,a1,tb,B1,b1,[],none,0⟩ fq ⟨a0,az,ay,ax,Rw.nil (Mem.nil w4),rfl,by simp only[B6];omega⟩ ?_
  obtain⟨af,a2⟩:∃af,af=mrgN (ta.length+tb.length) ta tb []:=⟨_,rfl⟩
  rw[<-a2];clear a0 az ay ax al am;rintro⟨a,A,ca,b,B,cb,out,O,co⟩ w5 bi ⟨Z,an,aa,aq,U,H,ba⟩;dsimp only at Z an aa aq U H ba|-;have hs:∀{k m:Nat},k=m+1->∀X c,Value.slice X (k-1) c=.slice X m c:=λh _ _=>by rw[h];rfl
  have aj:∀l:List TM,(l.length=0/\l=[])\/∃x l',l=x::l'/\l.length=l'.length+1:=λl=>match l with | []=>.inl ⟨rfl,rfl⟩|x::l'=>.inr ⟨x,l',rfl,rfl⟩
  rcases aj a with⟨na,ha⟩|⟨x,a',ea,na⟩<;>rcases aj b with⟨nb,hb⟩|⟨y,b',eb,nb⟩
  ·refine zu ?_;rw[ha,hb]at H;obtain⟨h3,h4⟩:=qdr qaf U.own rfl;exact⟨⟨O,co,by rw[<-H];rfl,by rw[<-H];exact h4,by rw[<-H];exact h3⟩,a9.trans U.mem.ext⟩
  refine ?bo
  rotate_left
  refine ?ao
  rotate_left
  refine ?ab
  rotate_left
  case' ab=>
   obtain⟨⟨ga,oa,eA,a3⟩,a4⟩:=Z.pop ea an;obtain⟨⟨gb,ob,eB,a5⟩,a6⟩:=aa.pop eb aq;subst eA eB;refine if a7:cmpT x y<=0 then ?lo else ?hi
  case' bo=>
   obtain⟨⟨gb,ob,eB,hx⟩,ad⟩:=aa.pop eb aq;subst eB
  case' ao=>
   obtain⟨⟨ga,oa,eA,hx⟩,ae⟩:=Z.pop ea an;subst eA
  all_goals
   refine zu ?_;refine NewV.rw U λtp w6 U=>zw ?_;refine DrawV.free Jk Jk (zw ?_);(iterate 9 (refine zd ?_))
  case' bo|ao=>
   (iterate 9 (refine zd ?_))
  case' lo|hi=>
   refine zf ?_ (by intro wd hd;refine zu ?_;refine⟨⟨ga,oa,0,rfl,by omega,by omega,?_⟩⟩;exact xq);apply zsd (qy x)
   ·intro wd hd;refine zu ?_;refine LoadA.cells (CellsAt.ext a3 ((U.mem.ext.trans (Ext.refl w6).drew).trans hd)) rfl (zw ?_);exact xq
   (conv=>whnf);refine zd ?_;refine zf ?_ (by intro wd hd;refine zu ?_;refine⟨⟨gb,ob,0,rfl,by omega,by omega,?_⟩⟩;exact xq);apply zsd (qy y)
   ·intro wd hd;refine zu ?_;refine LoadA.cells (CellsAt.ext a5 ((U.mem.ext.trans (Ext.refl w6).drew).trans hd)) rfl (zw ?_);exact xq
   (conv=>whnf);apply zsd (ii (cmpT x y))
   ·intro wd hd;refine zu ?_;refine zcv (qbt x y wd) ?_;rintro v w7 ⟨rfl,h7⟩;exact⟨h7,rfl⟩
   (conv=>whnf);(iterate 3 (refine zd ?_))
  case' ao=>
   obtain⟨t,rfl⟩:∃t,t=x:=⟨_,rfl⟩
   have H:mrgN (a'.length+b.length) a' b (qbx out t)=af:=by
    rw[<-H];subst hb ea;rw[show(t::a').length+([]:List TM).length=(a'.length+([]:List TM).length)+1 by simp];rfl
  case' bo=>
   obtain⟨t,rfl⟩:∃t,t=y:=⟨_,rfl⟩
   have H:mrgN (a.length+b'.length) a b' (qbx out t)=af:=by
    rw[<-H];subst ha eb;rw[show([]:List TM).length+(t::b').length=(([]:List TM).length+b'.length)+1 by simp];rfl
  case' lo=>
   obtain⟨t,rfl⟩:∃t,t=x:=⟨_,rfl⟩
   have hx:=a3;have ae:=a4;have H:mrgN (a'.length+b.length) a' b (qbx out t)=af:=by
    rw[<-H];subst ea eb;exact(qadq a7).symm
  case' hi=>
   obtain⟨t,rfl⟩:∃t,t=y:=⟨_,rfl⟩
   have hx:=a5;have ad:=a6;have H:mrgN (a.length+b'.length) a b' (qbx out t)=af:=by
    rw[<-H];subst ea eb;exact(qadp a7).symm
  case' bo|hi=>
   have s3:∀X c,Value.slice X a.length c=.slice X a.length c:=λ_ _=>rfl
   have s4:=hs nb;have ae:=Z
  case' ao|lo=>
   have s4:∀X c,Value.slice X b.length c=.slice X b.length c:=λ_ _=>rfl
   have s3:=hs na;have ad:=aa
  all_goals
   intro w7 bb;have U:=U.drew.call bb;refine zu ?_;refine⟨⟨_,_,0,rfl,by omega,by omega,?_⟩⟩;(conv=>whnf);refine LoadA.cells (CellsAt.ext hx U.mem.ext) rfl (zw ?_);refine StoreA.rwAll U rfl (qaa t) λw8 U=>zw ?_;refine SliceV.to 1 _ _ rfl rfl rfl Oo Oo znr (λh=>by cases h) ?_;rw[show tsz DM 45=4 from by kernel_rfl];conv=>whnf
   rcases W:out.getLast? with _|z
   case' none=>
    have ar:out.length=0:=by rw[List.getLast?_eq_none_iff.1 W];rfl
    have ai:qbx out t=out++[t]:=by rw[qbx,W]
    have U:=U.drew;refine zy ?_;refine zv ?_
   case' some=>
    obtain⟨bd,bj⟩:=qdr qaf U.own rfl;have ar:out≠[]:=by intro e;rw[e]at W;cases W
    have bk:=Cf.2 ar;have hz:out[out.length-1]?=some z:=by rw[<-W,List.getLast?_eq_getElem?]
    obtain⟨go,oo,eO,be⟩:=bd.at_ ar;subst eO;have bf:=be (out.length-1) z hz;refine zy ?_;refine zv ?_;refine⟨⟨go,oo,out.length-1,rfl,by omega,by omega,?_⟩⟩;refine zu ?_;refine LoadA.cells (CellsAt.ext bf xr.drew) rfl (zu ?_);refine zl U.mem.drew 0 ?_;refine zv ?_;refine RunV.eqTerm (a:=z) (b:=t) (.inr rfl) ?_;cases a8:qal z t
   case' true=>
    have ai:qbx out t=out:=by rw[qbx,W];simp only[a8,cond_true]
    refine zu ?_;rw[ai]at H;exact⟨⟨_,_,_,_,_,_,out,_,co⟩,⟨s3 _ _,s4 _ _,rfl,trivial⟩,⟨ae,by simp only;omega,ad,by simp only;omega,U.tail.drew,H,by simp only;omega⟩,by simp only;omega⟩
   case' false=>
    have ai:qbx out t=out++[t]:=by rw[qbx,W];simp only[a8,cond_false]
    have U:=U.drew;refine zu ?_
   all_goals
    refine zl U.mem 0 ?_;refine NewV.rw U λbg bl U=>zw ?_;refine AppV.rw (m:=1) (news:=encT t) qni trmI trmZ Jk Jk Od U rfl (λ_=>⟨bg,0,rfl,λk v hv=>?_⟩) (qaa t) (by rw[show((DM.info? 45).get Jk).bytes=56 from by kernel_rfl];omega) Oo ?_
    ·rw[qa (U.mem.get mh),As,An];exact hv
    clear U;intro B2 c2 bh U;have U:Rw w4 bh (.slice B2 (out++[t]).length c2) 45 4 (out++[t]).length ((out++[t]).map encT).flatten []:=by
     have e:((out++[t]).map encT).flatten=(out.map encT).flatten++encT t:=by simp
     rw[e,zla];exact U.tail.tail
    (conv=>whnf);rw[ai]at H;refine⟨⟨_,_,_,_,_,_,out++[t],B2,c2⟩,⟨s3 _ _,s4 _ _,?_,trivial⟩,⟨ae,by simp only;omega,ad,by simp only;omega,U,H,?_⟩,by simp only;omega⟩
    ·first|rfl|(show Value.slice _ (out.length+1) _=Value.slice _ (out++[_]).length _;rw[zla];rfl)
    ·simp only[zla,Bw];omega
def ApI(w0:DA)(e:DD)(H n m:Nat)(v0:DF)(xs news:DK)(U W s3:Bool)(v1 v2 v3:DF)(w':DA):Prop:=
 (U=false/\W=false/\s3=false/\Rw w0 w' v0 e H n xs [])\/
 (U=true/\W=false/\s3=false/\∃Z,v1=.slice (some ⟨Z,0,none⟩) m m/\Rw w0 w' v0 e H n xs [(Z,.cells news.toArray e)])\/
 (U=true/\W=true/\∃B c,v2=.slice B (n+m) c/\(s3=true->v3=.slice B (n+m) c)/\Rw w0 w' (.slice B (n+m) c) e H (n+m) (xs++news) [])
theorem ApI.ext{e:DD}{H n:Nat}{U W:Bool}(h:ApI w0 e H n m v0 xs news U W s3 v1 v2 v3 w'):Ext w0 w':=by
 rcases h with⟨_,_,_,h⟩|⟨_,_,_,_,_,h⟩|⟨_,_,_,_,_,_,h⟩
 all_goals exact h.mem.ext
theorem ApI.build{e:DD}{H n:Nat}{U:Bool}(h:ApI w0 e H n m v0 xs news false U s3 v1 v2 v3 w)(W:b=w.heap.size)(hw:w'=w.alloc (.cells news.toArray e)):
  ApI w0 e H n m v0 xs news true U s3 (.slice (some ⟨b,0,none⟩) m m) v2 v3 w':=by
 rcases h with⟨_,h2,h3,h⟩|⟨h1,_⟩|⟨h1,_⟩
 ·exact .inr (.inl ⟨rfl,h2,h3,b,rfl,h.newBlk W hw⟩)
 ·cases h1
 ·cases h1
theorem ApI.mid{e:DD}{H n:Nat}(h:ApI w0 e H n m v0 xs news true false s3 v1 v2 v3 w):
  s3=false/\∃U,v1=.slice (some ⟨U,0,none⟩) m m/\Rw w0 w v0 e H n xs [(U,.cells news.toArray e)]:=by
 rcases h with⟨h1,_⟩|⟨_,_,h3,h⟩|⟨_,h2,_⟩
 ·cases h1
 ·exact⟨h3,h⟩
 ·cases h2
theorem ApI.end_{e:DD}{H n:Nat}{U:Bool}(h:ApI w0 e H n m v0 xs news U true s3 v1 v2 v3 w):
  U=true/\∃B c,v2=.slice B (n+m) c/\(s3=true->v3=.slice B (n+m) c)/\Rw w0 w (.slice B (n+m) c) e H (n+m) (xs++news) []:=by
 rcases h with⟨_,h2,_⟩|⟨_,h2,_⟩|⟨h1,_,h⟩
 ·cases h2
 ·cases h2
 ·exact⟨h1,h⟩
def trQ(q:Q4):List TM:=[q.s,q.p,q.o]++if q.g.kind=0 then[]else[q.g]
def trms(qs:List Q4):List TM:=(qs.map trQ).flatten
theorem qahe(q:Q4):(trQ q).length<=4:=by unfold trQ;split<;>simp
theorem q6s(qs:List Q4):(trms qs).length<=4*qs.length:=by
 induction qs with
 | nil=>exact Ai _
 | cons q qs H=>
  have:=qahe q;simp only[trms,AB,Dc,zla,Au]at H|-;omega
theorem qtu(qs:List Q4)(i:Nat)(q:Q4)(h:qs[i]?=some q):trms (qs.take (i+1))=trms (qs.take i)++trQ q:=by
 rw[Bp,h];simp[trms]
theorem q2v(q:Q4):∀v∈encT q.s++encT q.p++encT q.o,v.oneCell'=true:=by
 intro v H
 rcases AU.1 H with H|H
 ·rcases AU.1 H with H|H
  ·exact qaa _ v H
  ·exact qaa _ v H
 ·exact qaa _ v H
theorem qts(qs:List Q4)(A:oA)(c:Nat)(w:DA)(hS:SlAt qm 16 w A qs)(hl:qs.length<=4194304):
  Gv DM 33 [.slice A qs.length c] w λv w'=>TmR (tmsN (trms qs).length (trms qs)) v w'/\Ext w w':=by
 refine ze Tryz.func33 Tryz.ntmps33 ?_;refine qq (λx:Nat×List TM×oA×Nat=>[(0,.slice A qs.length c),(3,.slice x.2.2.1 x.2.1.length x.2.2.2),(4,ii x.1)])
  (λx w'=>x.1<=qs.length/\x.2.1=trms (qs.take x.1)/\Rw w w' (.slice x.2.2.1 x.2.1.length x.2.2.2) 45 4 x.2.1.length (x.2.1.map encT).flatten []) (λx=>qs.length-x.1) (0,[],none,0)
  fq ⟨by simp,rfl,Rw.nil (Mem.nil w)⟩ ?_
 rintro⟨i,out,B,cb⟩ w1 aq ⟨h1,h2,Z⟩;dsimp only at h1 h2 Z|-;(conv=>whnf);refine zC (λ_=>zw ?_) (λ_=>zw ?_)
 ·have ah:i<qs.length:=by omega
  obtain⟨g,o,eA,hc⟩:=hS.at_ (by intro e;rw[e]at ah;simp at ah);subst eA;obtain⟨q,hq⟩:∃q,qs[i]?=some q:=⟨_,zge ah⟩
  have ad:=hc i q hq;have al:=q6s (qs.take i);rw[<-h2,Ar,Bq h1]at al;refine DrawV.gen (λS H w'=>ApI w 45 4 out.length 3 (.slice B out.length cb) (out.map encT).flatten (encT q.s++encT q.p++encT q.o) (S 16) (S 17) (S 18) (H 16) (H 17) (H 18) w') rfl Jk (λH=>.inl ⟨rfl,rfl,rfl,Z.drew⟩) ?_;clear Z;(conv=>whnf);(iterate 3 (refine zg ?_));refine StepG.of (.pointer (some ⟨g,o+i*16,none⟩)) (λS H wd hk hp W=>zw ?_) ?_
  ·refine⟨⟨g,o,i,rfl,by omega,by omega,?_⟩⟩;rw[show tsz DM 47=16 from by kernel_rfl];(conv=>whnf);exact⟨rfl,W⟩
  refine StepG.of (.pointer (some ⟨g,o+i*16+0,none⟩)) (λS H wd hk hp W=>zw ?_) ?_
  ·exact⟨rfl,W⟩
  refine StepG.of (qy q.s) (λS H wd hk hp W=>zw ?_) (zw ?_)
  ·refine LoadA.cells ((qr ad 0 Oo).ext W.ext) rfl (zw ?_);exact⟨rfl,W⟩
  refine zg ?_;refine zg ?_;refine StepG.of (.pointer (some ⟨g,o+i*16,none⟩)) (λS H wd hk hp W=>zw ?_) ?_
  ·refine⟨⟨g,o,i,rfl,by omega,by omega,?_⟩⟩;rw[show tsz DM 47=16 from by kernel_rfl];(conv=>whnf);exact⟨rfl,W⟩
  refine StepG.of (.pointer (some ⟨g,o+i*16+4,none⟩)) (λS H wd hk hp W=>zw ?_) ?_
  ·exact⟨rfl,W⟩
  refine StepG.of (qy q.p) (λS H wd hk hp W=>zw ?_) (zw ?_)
  ·refine LoadA.cells ((qr ad 1 Oo).ext W.ext) rfl (zw ?_);exact⟨rfl,W⟩
  refine zg ?_;refine zg ?_;refine StepG.of (.pointer (some ⟨g,o+i*16,none⟩)) (λS H wd hk hp W=>zw ?_) ?_
  ·refine⟨⟨g,o,i,rfl,by omega,by omega,?_⟩⟩;rw[show tsz DM 47=16 from by kernel_rfl];(conv=>whnf);exact⟨rfl,W⟩
  refine StepG.of (.pointer (some ⟨g,o+i*16+8,none⟩)) (λS H wd hk hp W=>zw ?_) ?_
  ·exact⟨rfl,W⟩
  refine StepG.of (qy q.o) (λS H wd hk hp W=>zw ?_) ?_
  ·refine LoadA.cells ((qr ad 2 Oo).ext W.ext) rfl (zw ?_);exact⟨rfl,W⟩
  refine StepG.any (λS H wd hk hp W=>?_) ?_
  ·dsimp only at W;rw[hk]at W;(conv=>whnf);refine⟨λb w' hb hw=>?_⟩;(conv=>whnf);exact⟨trivial,W.build hb hw⟩
  refine StepG.any (λS H wd hk hp W=>?_) ?_
  ·dsimp only at W;have af:S 16=true:=hp 16 Od;rw[hk,af]at W;obtain⟨am,nb,hv,Z⟩:=W.mid;rw[ql hv];(conv=>whnf);refine AppV.rw (m:=3) (news:=encT q.s++encT q.p++encT q.o) qni trmI trmZ Jk Jk Od Z rfl (λ_=>⟨nb,0,rfl,λk v hv=>?_⟩) (q2v q) (by rw[show((DM.info? 45).get Jk).bytes=56 from by kernel_rfl];omega) Oo ?_
   ·rw[qa (Z.mem.get mh),As];rw[An];exact hv
   intro B2 c2 ar an;exact⟨trivial,.inr (.inr ⟨af,rfl,B2,c2,rfl,λh=>absurd (am.symm.trans h) Od,an.tail⟩)⟩
  refine StepG.any (λS H wd hk hp W=>?_) ?_
  ·dsimp only at W;have aj:S 17=true:=hp 17 Od;rw[hk,aj]at W;obtain⟨af,B2,c2,hv,_,Z⟩:=W.end_;rw[ql hv];(conv=>whnf);exact⟨trivial,.inr (.inr ⟨af,aj,B2,c2,rfl,λ_=>rfl,Z⟩)⟩
  intro H w2 W;obtain⟨_,B2,c2,hv,ag,Z⟩:=W.end_;replace ag:=ag rfl;rw[ql hv,ql ag];clear W hv ag;obtain⟨U,aa⟩:∃U,U=out++[q.s,q.p,q.o]:=⟨_,rfl⟩
  have ak:U.length=out.length+3:=by rw[aa];simp
  have Z:Rw w w2 (.slice B2 U.length c2) 45 4 U.length (U.map encT).flatten []:=by
   have e:(U.map encT).flatten=(out.map encT).flatten++(encT q.s++encT q.p++encT q.o):=by rw[aa];simp
   rw[e,ak];exact Z
  rw[<-ak];have ao:w2.cell? ⟨g,o+i*16+12,none⟩=some (ii q.g.kind):=Ext.cell Z.mem.ext (qr ad 3 Oo 0 _ rfl);(conv=>whnf);refine⟨⟨g,o,i,rfl,by omega,by omega,?_⟩⟩;rw[show tsz DM 47=16 from by kernel_rfl];refine LoadV.of ao (zw ?_);refine zC (λ_=>zu ?_) (λ_=>zu ?_)
  ·have ae:U++[q.g]=out++trQ q:=by rw[aa,trQ,Aa Oo];simp
   refine⟨⟨g,o,i,rfl,by omega,by omega,?_⟩⟩;rw[show tsz DM 47=16 from by kernel_rfl];refine LoadA.cells ((qr ad 3 Oo).ext Z.mem.ext) rfl ?_;refine NewV.rw Z λnb w3 Z=>zw ?_;refine AppV.rw (m:=1) (news:=encT q.g) qni trmI trmZ Jk Jk Od Z rfl (λ_=>⟨nb,0,rfl,λk v hv=>?_⟩) (qaa q.g) (by rw[show((DM.info? 45).get Jk).bytes=56 from by kernel_rfl];omega) Oo ?_
   ·rw[qa (Z.mem.get mh),As];rw[An];exact hv
   clear Z;intro B3 c3 w4 Z;have Z:Rw w w4 (.slice B3 (out++trQ q).length c3) 45 4 (out++trQ q).length ((out++trQ q).map encT).flatten []:=by
    have e:((out++trQ q).map encT).flatten=(U.map encT).flatten++encT q.g:=by rw[<-ae];simp
    rw[e,<-ae,zla];exact Z.tail
   refine zu ?_;refine⟨(i+1,out++trQ q,B3,c3),⟨rfl,?_,rfl,trivial⟩,⟨by simp only;omega,?_,Z⟩,by simp only;omega⟩
   ·show Value.slice B3 (U.length+1) c3=Value.slice B3 (out++trQ q).length c3;rw[<-ae,zla];rfl
   ·show out++trQ q=trms (qs.take (i+1));rw[qtu qs i q hq,<-h2]
  ·have ae:U=out++trQ q:=by rw[aa,trQ,Ab Oo];simp
   refine⟨(i+1,U,B2,c2),fq,⟨by simp only;omega,?_,Z⟩,by simp only;omega⟩;show U=trms (qs.take (i+1));rw[qtu qs i q hq,<-h2,ae]
 ·obtain rfl:i=qs.length:=by omega
  rw[BO]at h2;subst h2;have au:=q6s qs;obtain⟨o1,o2⟩:=qdr qaf Z.own rfl;have ai:=qv3 (trms qs).length (trms qs) B cb w1 znr o1 o2 Oo;generalize trms qs=ts at *;refine zcv (ai) ?_;rintro v w5 ⟨h5,h6⟩;obtain⟨B5,d5,rfl,_,_⟩:=id h5;(conv=>whnf);exact⟨h5,Z.mem.ext.trans h6⟩
def sT(ts:List TM)(j:Nat):TM:=if j=0 then zTM else ts.getD (j-1) zTM
def sQ(ts:List TM)(q:Nat->Nat):Q4:=⟨sT ts (q 1),sT ts (q 2),sT ts (q 3),sT ts (q 0)⟩
def sA(ts:List TM)(q:Nat->Nat)(k j:Nat):TM:=if j<k then sT ts (q j)else zTM
def sR(ts:List TM)(q:Nat->Nat)(k:Nat):Q4:=⟨sA ts q k 0,sA ts q k 1,sA ts q k 2,sA ts q k 3⟩
def idE(q:Nat->Nat):DK:=[ii (q 0:Nat),ii (q 1:Nat),ii (q 2:Nat),ii (q 3:Nat)]
theorem qaf5(q:Nat->Nat)(k:Nat)(hk:k<4):(idE q)[k]?=some (ii (q k:Nat)):=by
 rcases(show k=0\/k=1\/k=2\/k=3 by omega)with rfl|rfl|rfl|rfl<;>rfl
theorem qag2(ts:List TM)(q:Nat->Nat)(k:Nat)(hk:k<4):((qm (sR ts q k)).take (k*4)++encT (sT ts (q k))++(qm (sR ts q k)).drop (k*4+4))=qm (sR ts q (k+1)):=by
 rcases(show k=0\/k=1\/k=2\/k=3 by omega)with rfl|rfl|rfl|rfl<;>rfl
theorem qaev(ts:List TM)(q:Nat->Nat)(k:Nat)(h:q k=0):sR ts q (k+1)=sR ts q k:=by
 have e:∀j,sA ts q (k+1) j=sA ts q k j:=λj=>by
  unfold sA
  by_cases h1:j<k
  ·rw[Ab h1,Ab Oo]
  ·by_cases h2:j=k
   ·subst h2;rw[Ab Oo,Aa Oo,h];rfl
   ·rw[Aa Oo,Aa h1]
 simp only[sR,e]
theorem qaac:TermOk zTM:=⟨⟨by decide,by decide⟩,by decide,by decide,by decide⟩
theorem q9x(h:∀t∈ts,TermOk t)(U:j<=ts.length):TermOk (sT ts j):=by
 unfold sT
 split
 ·exact qaac
 ·have H:j-1<ts.length:=by omega
  rw[Ag,zge H];exact h _ (AK H)
theorem qah4(h:∀t∈ts,TermOk t){q:Nat->Nat}(H:∀j,j<4->q j<=ts.length):qcl (sQ ts q):=by
 intro k;unfold Q4.at
 split
 ·exact q9x h (H 1 Oo)
 ·exact q9x h (H 2 Oo)
 ·exact q9x h (H 3 Oo)
 ·exact q9x h (H 0 Oo)
theorem qsp(q:Q4):(qm q).length=16:=rfl
theorem qcj(q:Q4):∀v∈qm q,v.oneCell'=true:=by
 intro v H;unfold qm at H
 rcases AU.1 H with H|H
 ·exact qaa _ v H
 ·rcases AU.1 H with H|H
  ·exact qaa _ v H
  ·rcases AU.1 H with H|H
   ·exact qaa _ v H
   ·exact qaa _ v H
namespace V
theorem StoreA.rwAt{v:DF}{e:DD}{H n:Nat}{t:DD}{K:DI}(h:Rw w0 w v e H n xs ((b,.cells cur t)::L))(hl:off+vs.length<=cur.size)(h1:∀v∈vs,v.oneCell'=true)(hk:∀w',Rw w0 w' v e H n xs ((b,.cells (cur.toList.take off++vs++cur.toList.drop (off+vs.length)).toArray t)::L)->K w'):StoreA P w b off vs K:=by
 have W:=h.mem.get mh;have Z:v.ownBlock≠some b:=h.apart _ mh;have hr:=run_storeCells_at P b off t vs 0 cur w W (by simpa using hl) h1;have ec:(cur.toList.take (off+0)++vs++cur.toList.drop (off+0+vs.length)).toArray=(cur.toList.take off++vs++cur.toList.drop (off+vs.length)).toArray:=by rw[Bt]
 rw[ec]at hr;refine⟨_,hr,hk _ ⟨?_,?_,λy U=>?_⟩⟩
 ·have:=h.mem.set (i:=0) (b:=b) (o:=.cells cur t) (o':=.cells (cur.toList.take off++vs++cur.toList.drop (off+vs.length)).toArray t) rfl (w':=w.setRow b _) ?_ (qb8 W) (λc hc=>qu hc)
  ·exact this
  ·exact Below.trans h.mem.ext ⟨rfl,rfl,rfl,by simp[World.setRow],λk hk=>qu (by have:=(h.mem.own _ mh).1;simp only at this;omega)⟩
 ·refine h.own.kept (row:=some b) ⟨rfl,rfl,rfl,by simp[World.setRow],λk _ hk=>qu (λe=>hk (by simp[e]))⟩ (Or.inr Z)
 ·rcases Ay.1 U with rfl|U
  ·exact Z
  ·exact h.apart y (zmc U)
end V
theorem qdSl:DM.underlying 22=some (.slice 47):=Tryz.underlying22
theorem qdI:DM.info? 47=some ((DM.info? 47).get Jk):=(Bd _).symm
theorem qdZ:((DM.info? 47).get Jk).zero=some ((((DM.info? 47).get Jk).zero).get Jk):=(Bd _).symm
def SdR(ts:List TM)(H:List (Nat->Nat))(base:Nat)(v:DF)(w:DA):Prop:=
 ((∃q∈H,¬((∀j,j<4->q j<=ts.length)/\qdd (sQ ts q)=0))/\v=.tuple #[.slice none 0 0,.bool false])\/
 ((∀q∈H,(∀j,j<4->q j<=ts.length)/\qdd (sQ ts q)=0)/\∃B c,v=.tuple #[.slice B H.length c,.bool true]/\w.ownsRow base 47 16 (.slice B H.length c) H.length ((H.map (sQ ts)).map qm).flatten)
theorem q9y(ts:List TM)(U:List (Nat->Nat))(A B:oA)(cA cB:Nat)(w:DA)(hA:SlAt encT 4 w A ts)(hB:SlAt idE 4 w B U)(af:∀t∈ts,TermOk t)(ao:ts.length<=16777216)(hl:U.length<=4194304):
  Gv DM 99 [.slice A ts.length cA,.slice B U.length cB] w λv w'=>SdR ts U w.heap.size v w'/\Ext w w':=by
 refine ze Tryz.func99 Tryz.ntmps99 ?_;refine qq (λx:Nat×oA×Nat=>[(0,.slice A ts.length cA),(1,.slice B U.length cB),(6,.slice x.2.1 x.1 x.2.2),(7,ii x.1)])
  (λx w'=>x.1<=U.length/\(∀q∈U.take x.1,(∀j,j<4->q j<=ts.length)/\qdd (sQ ts q)=0)/\Rw w w' (.slice x.2.1 x.1 x.2.2) 47 16 x.1 (((U.take x.1).map (sQ ts)).map qm).flatten []) (λx=>U.length-x.1) (0,none,0)
  fq ⟨by simp,by simp,Rw.nil (Mem.nil w)⟩ ?_
 rintro⟨i,C,cc⟩ w1 aq ⟨h1,h2,H⟩;dsimp only at h1 h2 H|-;(conv=>whnf);refine zC (λ_=>zw ?_) (λ_=>zw ?_)
 ·have aa:i<U.length:=by omega
  obtain⟨gi,oi,eB,ag⟩:=hB.at_ (by intro e;rw[e]at aa;simp at aa);subst eB;obtain⟨q,hq⟩:∃q,U[i]?=some q:=⟨_,zge aa⟩
  have ah:=ag i q hq;refine NewV.rw H ?_;clear H;intro tb w2 H;have H:Rw w w2 (.slice C i cc) 47 16 i (((U.take i).map (sQ ts)).map qm).flatten [(tb,.cells (qm (sR ts q 0)).toArray 166)]:=H;(conv=>whnf);refine qq (λk:Nat=>[(0,.slice A ts.length cA),(1,.slice (some ⟨gi,oi,none⟩) U.length cB),(6,.slice C i cc),(7,ii i),(8,pp tb),(9,ii k)])
   (λk w'=>k<=4/\(∀j,j<k->q j<=ts.length)/\Rw w w' (.slice C i cc) 47 16 i (((U.take i).map (sQ ts)).map qm).flatten [(tb,.cells (qm (sR ts q k)).toArray 166)]) (λk=>4-k) 0
   fq ⟨by omega,λj h=>by omega,H⟩ ?_
  clear H;rintro k w3 ar ⟨k1,hj,H⟩;conv=>whnf
  (repeat'(first|refine zC (λ_=>zw ?_) (λ_=>zw ?_)|(refine zJ 0 ?_;(conv=>whnf))))
  ·have ad:w3.cell? ⟨gi,oi+i*4+k,none⟩=some (ii (q k:Nat)):=Ext.cell H.mem.ext (ah k _ (qaf5 q k Oo));refine⟨⟨gi,oi,i,rfl,by omega,by omega,?_⟩⟩;rw[show tsz DM 95=4 from by kernel_rfl];refine zu ?_;rw[show tsz DM 3=1 from by kernel_rfl,Bx];refine LoadV.of ad (zw ?_);refine zC (λ_=>zw ?_) (λ_=>zw ?_)
   ·exact⟨.inl ⟨⟨q,zmg hq,λh=>by have:=h.1 k Oo;omega⟩,rfl⟩,H.mem.ext⟩
   refine⟨⟨gi,oi,i,rfl,by omega,by omega,?_⟩⟩;rw[show tsz DM 95=4 from by kernel_rfl];refine zu ?_;rw[show tsz DM 3=1 from by kernel_rfl,Bx];refine LoadV.of ad (zw ?_);refine zC (λ_=>zu ?_) (λ_=>zu ?_)
   ·have Z:0<ts.length:=by omega
    obtain⟨ga,oa,eA,ai⟩:=hA.at_ (by intro e;rw[e]at Z;simp at Z);subst eA;have ae:q k-1<ts.length:=by omega
    have aj:=ai (q k-1) _ (zge ae);have ak:sT ts (q k)=ts[q k-1]:=by rw[sT,Aa Oo,Ag,zge ae];rfl
    refine⟨⟨gi,oi,i,rfl,by omega,by omega,?_⟩⟩;rw[show tsz DM 95=4 from by kernel_rfl];refine zu ?_;rw[show tsz DM 3=1 from by kernel_rfl,Bx];refine LoadV.of ad (zu ?_);refine⟨⟨ga,oa,q k-1,rfl,by omega,by omega,?_⟩⟩;rw[show tsz DM 45=4 from by kernel_rfl];(conv=>whnf);refine LoadA.cells (aj.ext H.mem.ext) rfl (zu ?_);rw[show tsz DM 45=4 from by kernel_rfl,As];refine StoreA.rwAt H (by show k*4+4<=16;omega) (qaa _) λw4 H=>zu ?_;refine⟨k+1,fq,⟨by omega,λj al=>?_,?_⟩,by omega⟩
    ·by_cases e:j=k
     ·subst e;omega
     ·exact hj j Oo
    ·rw[<-qag2 ts q k Oo,ak];exact H
   ·refine⟨k+1,fq,⟨by omega,λj al=>?_,?_⟩,by omega⟩
    ·by_cases e:j=k
     ·subst e;omega
     ·exact hj j Oo
    ·rw[qaev ts q k Oo];exact H
  ·obtain rfl:k=4:=by omega
   have hc:CellsAt w3 tb 0 (qm (sR ts q 4)):=CellsAt.mem H.mem mh;rw[show tsz DM 45=4 from by kernel_rfl];refine LoadA.cells (qr hc 0 Oo) rfl (zw ?_);refine zJ 1 ?_;(conv=>whnf);rw[show tsz DM 45=4 from by kernel_rfl];refine LoadA.cells (qr hc 1 Oo) rfl (zw ?_);refine zJ 2 ?_;(conv=>whnf);rw[show tsz DM 45=4 from by kernel_rfl];refine LoadA.cells (qr hc 2 Oo) rfl (zw ?_);refine zJ 3 ?_;(conv=>whnf);rw[show tsz DM 45=4 from by kernel_rfl];refine LoadA.cells (qr hc 3 Oo) rfl (zw ?_);have am:=qah4 af hj;refine NewV.rw H λqb w4 H=>zw ?_;refine StoreA.rwAll (vs:=qm (sQ ts q)) H rfl (qcj _) λw5 H=>zw ?_;refine zl H.mem 0 ?_;refine zcv (qj8 (sQ ts q) am w5) ?_;rintro v w6 ⟨rfl,an⟩;have H:=H.call an;(conv=>whnf);refine zC (λ_=>zw ?_) (λ_=>zw ?_)
   ·exact⟨.inl ⟨⟨q,zmg hq,λh=>by have:=h.2;omega⟩,rfl⟩,H.mem.ext⟩
   refine zl H.mem 0 ?_;refine NewV.rw H λnb w7 H=>zw ?_;refine AppV.rw (m:=1) (news:=qm (sQ ts q)) qdSl qdI qdZ Jk Jk Od H rfl (λ_=>⟨nb,0,rfl,λk v hv=>?_⟩) (qcj _) (by rw[show((DM.info? 47).get Jk).bytes=224 from by kernel_rfl];omega) Oo ?_
   ·rw[qa (H.mem.get mh),As];rw[An];exact hv
   clear H;intro C2 c2 w8 H;have et:U.take (i+1)=U.take i++[q]:=by rw[Bp,hq];rfl
   have H:Rw w w8 (.slice C2 (i+1) c2) 47 16 (i+1) (((U.take (i+1)).map (sQ ts)).map qm).flatten []:=by
    have e:(((U.take (i+1)).map (sQ ts)).map qm).flatten=(((U.take i).map (sQ ts)).map qm).flatten++qm (sQ ts q):=by rw[et];simp
    rw[e];exact H.tail.tail.tail
   refine zu ?_;refine⟨(i+1,C2,c2),fq,⟨by simp only;omega,?_,H⟩,by simp only;omega⟩;show ∀q∈U.take (i+1),_;rw[et];intro q' W
   rcases AU.1 W with W | W
   ·exact h2 q' W
   ·rw[Aq.1 W];exact⟨hj,by omega⟩
 ·obtain rfl:i=U.length:=by omega
  rw[BO]at h2 H;exact⟨.inr ⟨h2,C,cc,rfl,H.own⟩,H.mem.ext⟩
def LtT(a b:TM):Prop:=a.kind<b.kind\/(a.kind=b.kind/\(slt a.text b.text=true\/(a.text=b.text/\(slt a.type b.type=true\/(a.type=b.type/\slt a.lang b.lang=true)))))
theorem qafb{a b:DB}:txtC a b<0↔slt a b=true:=by
 grind [txtC]
theorem q6w{a b:DB}:txtC a b=0↔a=b:=by
 grind [txtC,qjd,qab]
theorem qay{a b:TM}:cmpT a b<0↔LtT a b:=by
 grind [cmpT,LtT,qafb,q6w,qjd]
theorem qar{a b:TM}:cmpT a b=0↔a=b:=by
 obtain⟨W,H,Z,al⟩:=a;obtain⟨bk,bt,U,bl⟩:=b
 grind [cmpT,q6w]
theorem LtT.irrefl(a:TM):¬LtT a a:=λh=>by
 have h1:=qay.2 h
 grind [qar]
theorem LtT.ne{a b:TM}(h:LtT a b):a≠b:=by
 grind [LtT.irrefl]
theorem LtT.trans{a b c:TM}(h:LtT a b)(g:LtT b c):LtT a c:=by
 grind [LtT,qmo]
theorem LtT.tri(a b:TM):LtT a b\/a=b\/LtT b a:=by
 unfold LtT
 rcases Int.lt_trichotomy a.kind b.kind with h|h|h
 ·omega
 ·rcases qqm a.text b.text with h1|h1|h1
  ·simp_all
  ·rcases qqm a.type b.type with h2|h2|h2
   ·simp_all
   ·rcases qqm a.lang b.lang with h3|h3|h3
    ·simp_all
    ·refine .inr (.inl ?_);cases a;simp_all
    simp_all
   simp_all
  simp_all
 omega
def RiseT(l:List TM):Prop:=l.Pairwise LtT
def AheadT(out l:List TM):Prop:=∀z,out.getLast?=some z->∀x∈l,z=x\/LtT z x
theorem RiseT.lt_last(h:RiseT out){z:TM}(U:out.getLast?=some z):∀x∈out,x=z\/LtT x z:=by
 obtain⟨W,rfl⟩:=List.getLast?_eq_some_iff.1 U;intro x H
 rcases AU.1 H with H|H
 ·exact .inr ((Ce.1 h).2.2 x H z Js)
 simp_all
theorem qf9{x:TM}(h:RiseT out)(ha:AheadT out [x]):RiseT (qbx out x)/\(∀y,y∈qbx out x↔y∈out\/y=x)/\(qbx out x).getLast?=some x:=by
 unfold qbx
 split
 ·rename_i z U
  rcases ha z U x Js with rfl|H
  ·grind [q7]
  ·have:qal z x=false:=CD.2 λe=>H.ne (q7.1 e)
   rw[this];refine⟨?_,λy=>by simp,by simp⟩;refine Ce.2 ⟨h,Js,λa W b Z=>?_⟩;rw[Aq.1 Z]
   rcases h.lt_last U a W with rfl|g
   ·exact H
   ·exact g.trans H
 ·rename_i U
  have:out=[]:=List.getLast?_eq_none_iff.1 U;subst this;exact⟨Cy _ _,λy=>by simp,rfl⟩
theorem AheadT.next{a:List TM}{x:TM}(hr:RiseT (x::a))(U:(qbx out x).getLast?=some x):AheadT (qbx out x) a:=λz H y W=>by
 rw[U]at H;cases H;exact .inr ((Bf.1 hr).1 y W)
theorem qfn:∀(f:Nat) (a b out:List TM),a.length+b.length<=f->RiseT a->RiseT b->RiseT out->AheadT out a->AheadT out b->RiseT (mrgN f a b out)/\∀y,y∈mrgN f a b out↔y∈out\/y∈a\/y∈b
 | 0,a,b,out,hf,_,_,ho,_,_=>by
  grind [mrgN]
 | f+1,[],[],out,_,_,_,ho,_,_=>(by grind [mrgN])
 | f+1,x::a,[],out,hf,ha,W,ho,h1,h2=>by
  obtain⟨p1,p2,Z⟩:=qf9 ho (x:=x) λz U y H=>h1 z U y (by rw[Aq.1 H];exact AJ ..);obtain⟨r1,r2⟩:=qfn f a [] (qbx out x) (by simpa using hf) (Bf.1 ha).2 W p1 (.next ha Z) (λz _ y H=>by cases H);refine⟨r1,λy=>?_⟩;rw[mrgN,r2,p2];simp[or_assoc]
 | f+1,[],x::b,out,hf,ha,W,ho,h1,h2=>by
  obtain⟨p1,p2,Z⟩:=qf9 ho (x:=x) λz U y H=>h2 z U y (by rw[Aq.1 H];exact AJ ..);obtain⟨r1,r2⟩:=qfn f [] b (qbx out x) (by simpa using hf) ha (Bf.1 W).2 p1 (λz _ y H=>by cases H) (.next W Z);refine⟨r1,λy=>?_⟩;rw[mrgN,r2,p2];simp[or_assoc]
 | f+1,x::a,u::b,out,hf,ha,W,ho,h1,h2=>by
  have hx:AheadT out [x]:=λz U y H=>h1 z U y (by simp_all)
  have hu:AheadT out [u]:=λz U y H=>h2 z U y (by simp_all)
  rw[mrgN]
  split
  ·rename_i ad
   obtain⟨p1,p2,Z⟩:=qf9 ho hx;have ae:x=u\/LtT x u:=by
    rcases Int.lt_or_eq_of_le ad with h|h
    all_goals grind [qay,qar]
   have aa:AheadT (qbx out x) (u::b):=λz U y H=>by
    rw[Z]at U;cases U
    rcases Ay.1 H with rfl|H
    ·exact ae
    ·have:=(Bf.1 W).1 y H
     rcases ae with rfl|h
     ·exact .inr this
     ·exact .inr (h.trans this)
   obtain⟨r1,r2⟩:=qfn f a (u::b) (qbx out x) (by grind) (Bf.1 ha).2 W p1 (.next ha Z) aa
   grind
  ·rename_i ad
   obtain⟨p1,p2,Z⟩:=qf9 ho hu;have af:LtT u x:=by
    rcases LtT.tri x u with h|h|h
    all_goals simp_all[Int.le_of_lt,qay,Int.le_of_eq,qar]
   have aa:AheadT (qbx out u) (x::a):=λz U y H=>by
    rw[Z]at U;cases U
    rcases Ay.1 H with rfl|H
    ·exact .inr af
    ·exact .inr (af.trans ((Bf.1 ha).1 y H))
   obtain⟨r1,r2⟩:=qfn f (x::a) b (qbx out u) (by grind) ha (Bf.1 W).2 p1 aa (.next W Z)
   grind
theorem qmy:∀(f:Nat) (l:List TM),l.length<=f->RiseT (tmsN f l)/\∀y,y∈tmsN f l↔y∈l
 | 0,l,h=>by
  have:l=[]:=(by grind)
  subst this;exact⟨List.Pairwise.nil,λy=>Iff.rfl⟩
 | f+1,l,h=>by
  rw[tmsN]
  split
  ·rename_i h2
   refine⟨?_,λy=>Iff.rfl⟩
   match l,h2 with
   | [],_=>exact List.Pairwise.nil
   | [x],_=>exact Cy _ _
  ·obtain⟨U,W⟩:=qmy f (l.take (l.length/2)) (by rw[Ar];omega);obtain⟨b1,b2⟩:=qmy f (l.drop (l.length/2)) (by rw[zld];omega);obtain⟨r1,r2⟩:=qfn _ _ _ [] znr U b1 List.Pairwise.nil (λz H=>by cases H) (λz H=>by cases H);refine⟨r1,λy=>?_⟩;rw[r2,W,b2,<-AU,AM];simp
theorem qhv{H:Type}:∀{a b:List H},a.Pairwise (·≠·)->(∀x∈a,x∈b)->a.length<=b.length
 | [],_,_,_=>Af _
 | x::a,b,h,U=>by
  obtain⟨b1,b2,rfl⟩:=List.append_of_mem (U x mh);have h1:=Bf.1 h;have:=qhv (a:=a) (b:=b1++b2) h1.2 (by grind)
  grind
theorem q43{H:Type}{a b:List H}(ha:a.Pairwise (·≠·))(U:∀x∈a,x∈b)(W:b.length<=a.length):∀y∈b,y∈a:=by
 intro y Z;apply Aw;intro hn;have:=qhv (a:=y::a) (b:=b) (by grind [List.pairwise_cons]) (by grind)
 grind
theorem qgx{m:LB}:∀{i:Nat},(∀j,j<i->(dnF m j).2=0)->DSt m i (dSt m i).1 (dSt m i).2/\(0<i->i<=dN m->dGet m (i-1)=some (dSt m i).1)
 | 0,_=>⟨⟨Af _,Oo⟩,Oo⟩
 | i+1,h=>by
  obtain⟨W,_⟩:=qgx (m:=m) (i:=i) λj hj=>h j Oo;have hi:=h i Oo;have hd:dSt m i=((dSt m i).1,(dSt m i).2):=rfl;have H:i%16=0->q5 m (i/16)=(dSt m i).2:=λh1=>Aw λh2=>by
   rw[qki hd h1 h2]at hi;cases hi
  have Z:(entG ((qe m).drop (dSt m i).2) (decide (i%16=0)) (dSt m i).1).2.2=0:=Aw λh2=>by
   rw[qrm hd rfl H h2]at hi;exact h2 hi
  have U:=W.step H rfl Z;exact⟨U,λ_ h3=>U.get Oo⟩
theorem qld{m:LB}(h:(doE m).2=0)(W:0<j)(Z:j<dN m){t:LB}(hs:dGet m (j-1)=some s)(ht:dGet m j=some t):s<t:=by
 obtain⟨_,_,U,_⟩:=qb4 h;have h1:=(qgx (m:=m) (i:=j) λk hk=>U k Oo).2 W Oo;have h2:=(qgx (m:=m) (i:=j+1) λk hk=>U k Oo).2 Oo Oo;rw[AX]at h2;rw[hs]at h1;rw[ht]at h2;cases h1;cases h2;have H:=U j Z;have hd:dSt m j=((dSt m j).1,(dSt m j).2):=rfl;have hp:j%16=0->q5 m (j/16)=(dSt m j).2:=λh1=>Aw λh2=>by
  rw[qki hd h1 h2]at H;cases H
 have he:(entG ((qe m).drop (dSt m j).2) (decide (j%16=0)) (dSt m j).1).2.2=0:=(by grind [qrm])
 have hl:leL (dSt m (j+1)).1 (dSt m j).1≠true:=λh3=>by
  rw[qxh hd rfl hp he W h3]at H;cases H
 grind [leL,qab,qe0]
theorem qo1{m:LB}(h:(doE m).2=0):∀{d j:Nat} {s t:LB},j+1+d<dN m->dGet m j=some s->dGet m (j+1+d)=some t->s<t
 | 0,j,s,t,h1,h2,h3=>qld h Oo h1 (by simpa using h2) h3
 | d+1,j,s,t,h1,h2,h3=>by
  obtain⟨_,_,U,_⟩:=qb4 h;have H:=(qgx (m:=m) (i:=j+1+d+1) λk hk=>U k Oo).2 Oo Oo;have W:=qo1 h Oo h2 H;have Z:=qld h (j:=j+1+(d+1)) Oo h1 (by exact H) h3
  grind
theorem q8e{m:LB}(h:(doE m).2=0)(hi:i<dN m)(H:j<dN m)(h1:dGet m i=some s)(h2:dGet m j=some s):i=j:=by
 rcases Cr i j with g|g|g
 ·obtain⟨d,rfl⟩:∃d,j=i+1+d:=⟨j-(i+1),by omega⟩
  exact absurd (qo1 h H h1 h2) Js
 ·exact g
 ·obtain⟨d,rfl⟩:∃d,i=j+1+d:=⟨i-(j+1),by omega⟩
  exact absurd (qo1 h hi h2 h1) Js
theorem q0j{Q:Q4}(h:qdd Q=0)(hk:k<3)(H:(Q.at k).kind=0):False:=by
 have W:canB k (Q.at k)=false:=by
  unfold canB
  rcases(show k=0\/k=1\/k=2 by omega)with rfl|rfl|rfl<;>simp[H]
 have e:qE k (Q.at k)=70:=by grind [qE]
 have U:∀x∈(List.range 4).map λk=>qE k (Q.at k),x=0:=by
  unfold qdd at h;generalize(List.range 4).map (λk=>qE k (Q.at k))=L at h;intro x Z
  induction L<;>grind [qgi]
 have:=U (qE k (Q.at k)) (by grind);omega
theorem qm2(h:i<vTot l 3):∃k j,k<3/\j<dN (sDict l k)/\i=vTot l k+j:=by
 have h3:vTot l 3=vTot l 2+dN (sDict l 2):=rfl;have h2:vTot l 2=vTot l 1+dN (sDict l 1):=rfl;have h1:vTot l 1=vTot l 0+dN (sDict l 0):=rfl;have H:vTot l 0=0:=rfl
 by_cases U:vTot l 2<=i
 ·exact⟨2,i-vTot l 2,by omega,by omega,by omega⟩
 ·by_cases W:vTot l 1<=i
  ·exact⟨1,i-vTot l 1,by omega,by omega,by omega⟩
  ·exact⟨0,i,by omega,by omega,by omega⟩
section
variable {l:LB} {ts:List TM} (hV:VTm l 3 0 ts) (hd:∀k,k<3->(doE (sDict l k)).2=0)
include hV hd
theorem qtt{t:TM}(hi:ts[i]?=some t)(hj:ts[j]?=some t):i=j:=by
 have H:ts.length=vTot l 3:=hV.len;obtain⟨U,j1,a1,a2,a3⟩:=qm2 (l:=l) (i:=i) (by grind);obtain⟨W,j2,b1,b2,b3⟩:=qm2 (l:=l) (i:=j) (by grind);obtain⟨s1,t1,c1,_,Z,c3⟩:=hV.at_ U j1 Oo;obtain⟨s2,t2,d1,_,d2,d3⟩:=hV.at_ W j2 Oo;rw[<-a3,hi]at c3;rw[<-b3,hj]at d3;cases c3;cases d3;have hk:U=W:=by have h1:=Z.kind;have h2:=d2.kind;omega
 have hs:s1=s2:=Z.entry.symm.trans d2.entry
 grind [q8e]
theorem qv4:ts.Pairwise (·≠·):=by
 rw[BJ];intro i j hi U H e;have:=qtt hV hd (i:=i) (j:=j) (zge hi) (by simp_all);omega
omit hd in
theorem q1l{t:TM}(h:t∈ts):t.kind≠0:=by
 have H:ts.length=vTot l 3:=hV.len;obtain⟨i,hi,rfl⟩:=List.getElem_of_mem h;obtain⟨W,Z,a1,a2,a3⟩:=qm2 (l:=l) (i:=i) Oo;obtain⟨s1,t1,_,_,c2,U⟩:=hV.at_ W Z Oo;rw[<-a3,zge hi]at U;cases U;have:=c2.kind;omega
theorem qaaf{U:List (Nat->Nat)}(hq:∀q∈U,(∀j,j<4->q j<=ts.length)/\qdd (sQ ts q)=0):
  (tmsN (trms (U.map (sQ ts))).length (trms (U.map (sQ ts)))).length=ts.length↔∀id,1<=id->id<=ts.length->∃q∈U,∃j,j<4/\q j=id:=by
 obtain⟨r1,r2⟩:=qmy _ (trms (U.map (sQ ts))) znr;have ad:(tmsN (trms (U.map (sQ ts))).length (trms (U.map (sQ ts)))).Pairwise (·≠·):=r1.imp λh=>h.ne
 have hT:∀q∈U,∀j,j<4->q j≠0->sT ts (q j)∈ts/\ts[q j-1]?=some (sT ts (q j)):=λq H j hj Z=>by
  grind [sT]
 have hk:∀q∈U,∀j,1<=j->j<4->q j≠0:=λq H j h1 h4 Z=>by
  have h2:=(hq q H).2;have h3:sT ts (q j)=zTM:=by grind [sT]
  exact q0j h2 (k:=j-1) Oo (by
   have:(sQ ts q).at (j-1)=sT ts (q j):=by
    rcases(show j=1\/j=2\/j=3 by omega)with rfl|rfl|rfl<;>rfl
   rw[this,h3];rfl)
 have W:∀t,t∈trms (U.map (sQ ts))↔∃q∈U,∃j,j<4/\q j≠0/\t=sT ts (q j):=λt=>by
  unfold trms;rw[D7]
  constructor
  ·rintro⟨x,hx,ht⟩;obtain⟨Q,hQ,rfl⟩:=AA.1 hx;obtain⟨q,H,rfl⟩:=AA.1 hQ;unfold trQ at ht
   rcases AU.1 ht with ht|ht
   ·simp only[Ay,Ci,or_false]at ht
    rcases ht with rfl|rfl|rfl
    ·exact⟨q,H,1,by omega,hk q H 1 Oo Oo,rfl⟩
    ·exact⟨q,H,2,by omega,hk q H 2 Oo Oo,rfl⟩
    ·exact⟨q,H,3,by omega,hk q H 3 Oo Oo,rfl⟩
   ·split at ht
    ·cases ht
    ·rename_i hg
     rw[Aq]at ht;refine⟨q,H,0,by omega,λZ=>hg ?_,ht⟩;show(sT ts (q 0)).kind=0;rw[sT,Ab Z];rfl
  ·rintro⟨q,H,j,hj,Z,rfl⟩;refine⟨trQ (sQ ts q),(by grind),?_⟩;unfold trQ
   rcases(show j=0\/j=1\/j=2\/j=3 by omega)with rfl|rfl|rfl|rfl
   ·have hg:(sQ ts q).g.kind≠0:=q1l hV (hT q H 0 Oo Z).1;rw[Aa hg];exact Ac _ (Aq.2 rfl)
   all_goals grind [sQ]
 have aa:∀t∈tmsN (trms (U.map (sQ ts))).length (trms (U.map (sQ ts))),t∈ts:=(by grind)
 constructor
 ·intro he id h1 h2;have hid:ts[id-1]' Oo∈tmsN (trms (U.map (sQ ts))).length (trms (U.map (sQ ts))):=(by grind [q43])
  obtain⟨q,H,j,hj,Z,e⟩:=(W _).1 ((r2 _).1 hid);refine⟨q,H,j,hj,?_⟩;have:=qtt hV hd (hT q H j hj Z).2 (by rw[<-e];exact zge Oo);omega
 ·intro h;refine Nat.le_antisymm (qhv ad aa) (qhv (qv4 hV hd) λt ht=>?_);obtain⟨i,hi,rfl⟩:=List.getElem_of_mem ht;obtain⟨q,H,j,hj,e⟩:=h (i+1) Oo Oo;refine(r2 _).2 ((W _).2 ⟨q,H,j,hj,by omega,?_⟩)
  grind
end
theorem qaak(h:(vcE l k).2=0):tVec l k=true/\(voE (qf l k)).2=0/\(0<vNum l k->bitN ((qf l k).drop 8) (vNum l k-1)=1):=by
 grind [tVec,qy9,qab1,q65]
theorem LvlV.of(h:(vcE l k).2=0):LvlV l k:=by
 obtain⟨h1,h2,h3⟩:=qaak h;simp only[tVec,AF,decide_eq_true_eq]at h1;exact⟨VecOk.voE h1.1.1 h2,h1.1.2,h1.2,h3⟩
theorem qbq(h:(toE l).2=0):∀k,1<=k->k<=3->LvlV l k:=λk h1 h3=>by
 obtain⟨_,H⟩:=qb6 h;obtain⟨_,_,U,_⟩:=qkk (H k Oo)
 grind [LvlV.of]
def dTxt(m:LB)(i:Nat):LB:=(blk (qe m) (q5 m (i/16)) (i%16)).1
theorem qua{m:LB}(h:(doE m).2=0)(hi:i<dN m):(blk (qe m) (q5 m (i/16)) (i%16)).2.2=0/\dGet m i=some (dTxt m i):=by
 obtain⟨_,_,H,_⟩:=qb4 h;have h1:=(qgx (m:=m) (i:=i+1) λk hk=>H k Oo).2 Oo Oo
 grind [dGet,dTxt]
theorem BEnd.full{m:LB}(h:(doE m).2=0)(k:Nat):BEnd m k (min 16 (dN m-16*k)):=by
 refine⟨λj H=>⟨by omega,?_⟩,by omega,λh1 h2=>by omega⟩;have:=(qua h (i:=16*k+j) Oo).1
 grind
theorem q7q(m:LB)(k j:Nat)(H:j<16):bRow m k j=[ii (16*k+j:Nat),.string ⟨(dTxt m (16*k+j)).toArray⟩]:=by
 grind [bRow,dTxt]
theorem qp3(p:LB)(n H:Nat):opE p n H≠0↔PadB p (n*H):=by
 simp[opE,PadB]
def varL(n:Nat):LB:=if n<128 then[UInt8.ofNat n]else UInt8.ofNat (n%128+128)::varL (n/128)
termination_by n
decreasing_by omega
theorem qok{n:Nat}(h:n<128):varL n=[UInt8.ofNat n]:=by rw[varL,Ab h]
theorem qoj{n:Nat}(h:128<=n):varL n=UInt8.ofNat (n%128+128)::varL (n/128):=by grind [varL]
theorem qc5{n:Nat}(h:n<256):(UInt8.ofNat n).toNat=n:=by
 simp_all
theorem qz8:∀(n i a:Nat) (r:LB),n*2 ^ (7*i)<2 ^ 64->i<=9->(0<i->0<n)->qfq i a (varL n++r)=(a+n*2 ^ (7*i),i+(varL n).length,0):=by
 intro n
 induction n using Nat.strongRecOn with
 | _ n H=>
  intro i a r hn hi U;have W:i=9->n<2:=by grind
  by_cases h:n<128
  ·grind [qok,qdh,qc5]
  ·have e:n%128*2 ^ (7*i)+n/128*2 ^ (7*(i+1))=n*2 ^ (7*i):=by
    grind [Nat.mod_add_div]
   rw[qoj Oo,AG,qdh,qc5 Oo,Aa Oo,Aa Oo]
   grind
theorem qba{n:Nat}(h:n<2 ^ 64)(r:LB):numL (varL n++r)=(n,(varL n).length,0):=by
 grind [numL,qz8]
theorem qt7:∀a b:LB,comL a b<=a.length/\comL a b<=b.length/\a.take (comL a b)=b.take (comL a b)
 | [],[]=>⟨Ai _,Ai _,rfl⟩
 | [],_::_=>⟨Af _,Af _,rfl⟩
 | _::_,[]=>⟨Af _,Af _,rfl⟩
 | x::a,y::b=>by
  by_cases h:x=y
  ·subst h;obtain⟨h1,h2,h3⟩:=qt7 a b;rw[comL,Ab rfl];exact⟨by simpa using h1,by simpa using h2,by rw[BC,BC,h3]⟩
  ·rw[comL,Aa h];exact⟨Af _,Af _,rfl⟩
def entE(first:Bool)(ahead s:LB):LB:=
 if first then varL s.length++s else varL (comL ahead s)++(varL (s.length-comL ahead s)++s.drop (comL ahead s))
theorem qn{H:Type}(a b:List H):(a++b).drop a.length=b:=by simp
theorem qrp{first:Bool}(r:LB)(U:s.length<=262144)(ha:ahead.length<=262144):entG (entE first ahead s++r) first ahead=(s,(entE first ahead s).length,0):=by
 cases first with
 | true=>
  have e:entE true ahead s=varL s.length++s:=by rfl
  grind [qba,entG]
 | false=>
  have e:entE false ahead s=varL (comL ahead s)++(varL (s.length-comL ahead s)++s.drop (comL ahead s)):=by rfl
  obtain⟨W,Z,H⟩:=qt7 ahead s;rw[e,Az,Az];have h1:=qba (n:=comL ahead s) Oo (varL (s.length-comL ahead s)++(s.drop (comL ahead s)++r));have h2:=qba (n:=s.length-comL ahead s) Oo (s.drop (comL ahead s)++r);unfold entG;rw[Aa Dz,h1];dsimp only;rw[Aa Oo,qn,h2];dsimp only;rw[Aa Oo,Aa Oo,Aa Oo,Aa Js,H,<-Am,qn,qn]
  grind [zld,List.take_append_drop]
def tx(L:List LB)(i:Nat):LB:=L.getD i []
def arL(L:List LB):Nat->LB
 | 0=>[]
 | i+1=>arL L i++entE (decide (i%16=0)) (if i=0 then[]else tx L (i-1)) (tx L i)
theorem qt4(L:List LB){i:Nat}:∀{n:Nat},i<=n->∃r,arL L n=arL L i++r
 | 0,h=>⟨[],by simp_all⟩
 | n+1,h=>by
  by_cases e:i=n+1
  ·simp_all
  ·obtain⟨r,hr⟩:=qt4 L (i:=i) (n:=n) Oo
   grind [arL]
theorem qws(L:List LB){n:Nat}(h:i<n):∃r,(arL L n).drop (arL L i).length=entE (decide (i%16=0)) (if i=0 then[]else tx L (i-1)) (tx L i)++r:=by
 obtain⟨r,hr⟩:=qt4 L (i:=i+1) (n:=n) h
 grind [arL]
def byt(f:Nat->Nat)(b:Nat):Nat:=
 f (8*b)%2+2*(f (8*b+1)%2)+4*(f (8*b+2)%2)+8*(f (8*b+3)%2)+16*(f (8*b+4)%2)+32*(f (8*b+5)%2)+64*(f (8*b+6)%2)+128*(f (8*b+7)%2)
theorem qafw(f:Nat->Nat)(b:Nat):byt f b<256:=by unfold byt;omega
theorem qaci(f:Nat->Nat)(b:Nat):∀{r:Nat},r<8->byt f b/2 ^ r%2=f (8*b+r)%2
 | 0,_=>by grind [byt]
 | 1,_=>by unfold byt;simp;omega
 | 2,_=>by unfold byt;simp;omega
 | 3,_=>by unfold byt;simp;omega
 | 4,_=>by unfold byt;simp;omega
 | 5,_=>by unfold byt;simp;omega
 | 6,_=>by unfold byt;simp;omega
 | 7,_=>by grind [byt]
 | _+8,h=>by omega
def qt5(f:Nat->Nat)(n:Nat):LB:=(List.range n).map λb=>UInt8.ofNat (byt f b)
theorem qrc(f:Nat->Nat)(n:Nat):(qt5 f n).length=n:=by simp[qt5]
theorem q7u(f:Nat->Nat){n:Nat}(h:b<n):((qt5 f n).getD b 0).toNat=byt f b:=by
 grind [qt5,qc5,qafw]
theorem qhe(f:Nat->Nat){n t:Nat}(h:t<8*n):bitN (qt5 f n) t=f t%2:=by
 grind [bitN,q7u,qaci]
def qed(l:DL)(w:Nat):LB:=qt5 (λt=>l.getD (t/w) 0/2 ^ (t%w)) ((l.length*w+7)/8)
theorem qdt(l:DL)(w:Nat):(qed l w).length=(l.length*w+7)/8:=qrc _ _
theorem qsk{l:DL}{w:Nat}(hi:i<l.length)(hk:k<w):bitN (qed l w) (i*w+k)=l.getD i 0/2 ^ k%2:=by
 have h1:(i+1)*w<=l.length*w:=B9 _ hi;rw[Nat.add_mul]at h1;have H:(i*w+k)/w=i:=by grind [Nat.mul_comm,Nat.mul_add_div,Nat.div_eq_of_lt]
 grind [Nat.mul_comm,Nat.mul_add_mod,Nat.mod_eq_of_lt,qed,qhe]
theorem qn4{l:DL}{w i:Nat}(hi:i<l.length):∀{k:Nat},k<=w->valB (qed l w) (i*w) k=l.getD i 0%2 ^ k
 | 0,_=>by rw[valB,Nat.pow_zero,Nat.mod_one]
 | k+1,h=>by
  rw[valB,qn4 hi Oo,qsk hi Oo,Nat.mod_pow_succ,Cg (2 ^ k)]
theorem ql1{l:DL}{w:Nat}(hi:i<l.length)(h:l.getD i 0<2 ^ w):valB (qed l w) (i*w) w=l.getD i 0:=by
 grind [qn4,Nat.mod_eq_of_lt]
theorem ql0(l:DL)(w:Nat):¬PadB (qed l w) (l.length*w):=by
 rintro⟨t,h1,h2,h3⟩;rw[qdt]at h2;rw[qed,qhe _ h2]at h3;have hw:0<w:=by
  grind
 simp_all[Nat.le_div_iff_mul_le]
theorem qx2:∀{n:Nat},n<18446744073709551616->n<2 ^ qbg n:=by
 intro n
 induction n using Nat.strongRecOn<;>grind [qjj]
def plcL(L:List LB):DL:=(List.range (upN L.length 16)).map λk=>(arL L (16*k)).length
def qdb(L:List LB):LB:=arL L L.length
def q8(L:List LB):LB:=varL L.length++(varL (qdb L).length++(qed (plcL L) (qbg (qdb L).length)++qdb L))
structure DOk(L:List LB):Prop where
 n:L.length<=4194304
 len:∀i,(tx L i).length<=262144
 rise:∀i,i+1<L.length->leL (tx L (i+1)) (tx L i)=false
 area:(qdb L).length<=67108864
theorem qp5(L:List LB):(plcL L).length=upN L.length 16:=by simp[plcL]
theorem q5f{L:List LB}(h:k<upN L.length 16):(plcL L).getD k 0=(arL L (16*k)).length:=by
 grind [plcL]
section
variable {L:List LB} (h:DOk L)
include h
theorem DOk.num0:numL (q8 L)=(L.length,(varL L.length).length,0):=qba (by have:=h.n;omega) _
theorem DOk.vAt1:vAt (q8 L) 1=(varL L.length).length:=by rw[vAt,vAt,Bn,h.num0,As]
theorem DOk.drop1:(q8 L).drop (varL L.length).length=varL (qdb L).length++(qed (plcL L) (qbg (qdb L).length)++qdb L):=have _:=h;qn _ _
theorem DOk.num1:numL ((q8 L).drop (vAt (q8 L) 1))=((qdb L).length,(varL (qdb L).length).length,0):=by
 rw[h.vAt1,h.drop1];exact qba (by have:=h.area;omega) _
theorem DOk.eN:dN (q8 L)=L.length:=by rw[dN,vNum,vAt,Bn,h.num0]
theorem DOk.eSize:qdc (q8 L)=(qdb L).length:=by rw[qdc,vNum,h.num1]
theorem DOk.eThird:qag (q8 L)=(varL L.length).length+(varL (qdb L).length).length:=by rw[qag,vAt,h.num1,h.vAt1]
theorem DOk.eFourth:qg (q8 L)=(varL L.length).length+(varL (qdb L).length).length+(qed (plcL L) (qbg (qdb L).length)).length:=by
 rw[qg,h.eThird,h.eN,dW,h.eSize,qdt,qp5]
theorem DOk.eEntries:qe (q8 L)=qdb L:=by
 rw[qe,h.eFourth,<-Am,<-Am,h.drop1,qn,qn]
theorem DOk.ePlaces:qw (q8 L)=qed (plcL L) (qbg (qdb L).length):=by
 rw[qw,h.eFourth,h.eThird,<-Am,h.drop1,qn,BE,C0 znr,BO]
theorem DOk.len_eq:(q8 L).length=(varL L.length).length+(varL (qdb L).length).length+(qed (plcL L) (qbg (qdb L).length)).length+(qdb L).length:=by
 have _:=h;grind [q8]
theorem DOk.eE:(dE (q8 L)).2=0:=by
 have h2:(errF (dhF (q8 L)) 2).2=0:=q6 λk hk=>by
  have hn:=h.n;have ha:=h.area
  match k,hk with
  | 0,_=>rw[dhF,Ab rfl,qbh (by rw[vAt,Bn,h.num0]) (by rw[show vNum (q8 L) 0=_ from h.eN];exact hn)]
  | 1,_=>rw[dhF,Aa Od,qbh (by rw[h.num1]) (by rw[show vNum (q8 L) 1=_ from h.eSize];exact ha)]
 rw[dE,Aa Oo,dEnd,h.eFourth,h.eSize,h.len_eq,Aa Oo,Aa Oo]
theorem DOk.ePlace(hk:k<upN L.length 16):q5 (q8 L) k=(arL L (16*k)).length:=by
 have ha:=h.area;have hn:16*k<=L.length:=by grind [upN]
 obtain⟨r,hr⟩:=qt4 L hn;have H:(arL L (16*k)).length<=(qdb L).length:=by grind [qdb]
 rw[q5,h.ePlaces,dW,h.eSize,ql1 (by rw[qp5];exact hk),q5f hk]
 grind [q5f,qx2]
theorem DOk.eSt:∀{i:Nat},i<=L.length->dSt (q8 L) i=(if i=0 then[]else tx L (i-1),(arL L i).length)
 | 0,_=>by rfl
 | i+1,hi=>by
  have H:=DOk.eSt (i:=i) Oo;obtain⟨r,hr⟩:=qws L (i:=i) (n:=L.length) hi;have ha:(if i=0 then[]else tx L (i-1)).length<=262144:=by split;exact Af _;exact h.len _
  rw[qhi H rfl,h.eEntries,qdb,hr,qrp r (h.len i) ha,arL,zla,Aa (BI i),AX]
theorem DOk.ent(hi:i<L.length):∃r,(qe (q8 L)).drop (dSt (q8 L) i).2=entE (decide (i%16=0)) (dSt (q8 L) i).1 (tx L i)++r:=by
 obtain⟨r,hr⟩:=qws L (i:=i) (n:=L.length) hi;refine⟨r,?_⟩;rw[h.eSt Oo,h.eEntries];exact hr
theorem DOk.enF(hi:i<L.length):(dnF (q8 L) i).2=0:=by
 obtain⟨r,hr⟩:=h.ent hi;have U:(dSt (q8 L) i).1.length<=262144:=by rw[h.eSt Oo];show(if _ then _ else _:LB).length<=_;split;exact Af _;exact h.len _
 have W:=qrp (first:=decide (i%16=0)) r (h.len i) U;have H:(dSt (q8 L) (i+1)).1=tx L i:=by rw[h.eSt Oo,Aa (BI i),AX]
 rw[dnF,hr,W,H];rw[Aa (λg=>g.2 (by rw[h.ePlace (by unfold upN;omega),h.eSt Oo,show 16*(i/16)=i by omega]))];rw[Aa Js];rw[Aa (λg=>by
  have:=h.rise (i-1) Oo;rw[show i-1+1=i by omega]at this;rw[h.eSt Oo,Aa Oo]at g
  simp_all)]
 grind [entE,qba,qt7,qlb]
theorem DOk.eoE:doE (q8 L)=(0,0):=by
 refine qaa1 h.eE ?_ (λj H=>h.enF (by rw[<-h.eN];exact H)) ?_
 ·refine Aw λg=>?_;have:=(qp3 _ _ _).1 g;rw[h.ePlaces,h.eN,dW,h.eSize,<-qp5]at this;exact ql0 _ _ this
 ·rw[h.eN,h.eSt znr,h.eEntries];exact D3 _
theorem DOk.eGet(hi:i<L.length):dGet (q8 L) i=some (tx L i):=by
 have h1:=(qgx (m:=q8 L) (i:=i+1) λk hk=>h.enF Oo).2 Oo (by rw[h.eN];omega);rw[AX,h.eSt Oo,Aa Oo,AX]at h1;exact h1
end
def jo3(a b c:LB):LB:=varL a.length++(varL b.length++(varL c.length++(a++(b++c))))
section
variable {a b c:LB} (h:a.length+b.length+c.length<=67108864)
include h
theorem q3x:numL (jo3 a b c)=(a.length,(varL a.length).length,0):=qba Oo _
theorem qaa9:vAt (jo3 a b c) 1=(varL a.length).length:=by grind [vAt,q3x]
theorem q3y:numL ((jo3 a b c).drop (vAt (jo3 a b c) 1))=(b.length,(varL b.length).length,0):=by
 grind [qaa9,jo3,qba]
theorem qaba:vAt (jo3 a b c) 2=(varL a.length).length+(varL b.length).length:=by rw[vAt,q3y h,qaa9 h]
theorem q3z:numL ((jo3 a b c).drop (vAt (jo3 a b c) 2))=(c.length,(varL c.length).length,0):=by
 grind [qaba,jo3,qba]
theorem qabb:vAt (jo3 a b c) 3=(varL a.length).length+(varL b.length).length+(varL c.length).length:=by rw[vAt,q3z h,qaba h]
theorem q30:vNum (jo3 a b c) 0=a.length:=by grind [vNum,vAt,q3x]
theorem q31:vNum (jo3 a b c) 1=b.length:=by rw[vNum,q3y h]
theorem q32:vNum (jo3 a b c) 2=c.length:=by rw[vNum,q3z h]
theorem qabc:qj (jo3 a b c) 1=vAt (jo3 a b c) 3+a.length:=by rw[qj,qj,q30 h]
theorem qabd:qj (jo3 a b c) 2=vAt (jo3 a b c) 3+a.length+b.length:=by rw[qj,qabc h,q31 h]
theorem qagb:qj (jo3 a b c) 3=vAt (jo3 a b c) 3+a.length+b.length+c.length:=by rw[qj,qabd h,q32 h]
theorem qpp:(jo3 a b c).drop (vAt (jo3 a b c) 3)=a++(b++c):=by
 rw[qabb h,jo3,<-Am,<-Am,qn,qn,qn]
theorem qadf:(jo3 a b c).length=vAt (jo3 a b c) 3+a.length+b.length+c.length:=by
 grind [qabb,jo3]
theorem qagc:(sE (jo3 a b c)).2=0:=by
 have h2:(errF (vsF (jo3 a b c)) 3).2=0:=q6 λk hk=>by
  match k,hk with
  | 0,_=>grind [vsF,qbh,vAt,q3x,q30]
  | 1,_=>grind [vsF,qbh,q3y,q31]
  | 2,_=>grind [vsF,qbh,q3z,q32]
 grind [sE,qagb,qadf]
theorem qaf8:sDict (jo3 a b c) 0=a:=by
 grind [sDict,qj,qpp,q30]
theorem qaf9:sDict (jo3 a b c) 1=b:=by
 grind [sDict,qabc,List.drop_drop,qpp,q31,List.take_left]
theorem qaga:sDict (jo3 a b c) 2=c:=by
 grind [sDict,qabd,List.drop_drop,qpp,qn,q32]
end
def secE(T:List TM)(k:Nat):List LB:=(T.filter λt=>decide (t.kind=((k+1:Nat):Int))).map qai
def vocB(T:List TM):LB:=jo3 (q8 (secE T 0)) (q8 (secE T 1)) (q8 (secE T 2))
structure VOk(T:List TM):Prop where
 d:∀k,k<3->DOk (secE T k)
 size:(q8 (secE T 0)).length+(q8 (secE T 1)).length+(q8 (secE T 2)).length<=67108864
section
variable {T:List TM} (h:VOk T)
include h
theorem VOk.sDict{k:Nat}(hk:k<3):sDict (vocB T) k=q8 (secE T k):=
 match k,hk with
 | 0,_=>qaf8 h.size
 | 1,_=>qaf9 h.size
 | 2,_=>qaga h.size
theorem VOk.sE:(sE (vocB T)).2=0:=qagc h.size
theorem VOk.doE{k:Nat}(hk:k<3):(doE (Go.Proofs.YtccmcfpmknpccaaGreatDoor.sDict (vocB T) k)).2=0:=by rw[h.sDict hk,(h.d k hk).eoE]
theorem VOk.dN{k:Nat}(hk:k<3):dN (Go.Proofs.YtccmcfpmknpccaaGreatDoor.sDict (vocB T) k)=(secE T k).length:=by rw[h.sDict hk,(h.d k hk).eN]
theorem VOk.get(hk:k<3)(H:j<(secE T k).length):dGet (Go.Proofs.YtccmcfpmknpccaaGreatDoor.sDict (vocB T) k) j=some (tx (secE T k) j):=by rw[h.sDict hk,(h.d k hk).eGet H]
theorem VOk.wE:(wE (vocB T)).2=0:=by
 rw[Go.Proofs.YtccmcfpmknpccaaGreatDoor.wE,Aa (by rw[h.sE];omega)];exact q6 λk hk=>by rw[sdF,Ab (qb4 (h.doE hk)).1]
theorem VOk.vwE(ht:∀t∈T,qam t=0):(vwE (vocB T)).2=0:=by
 refine qab5 h.sE (λk hk=>h.doE hk) λk hk=>qab2 λj W hb=>?_;rw[h.dN hk]at W;obtain⟨s,Z,hn⟩:=hb;rw[h.get hk W]at Z;cases Z;have H:j<(T.filter λt=>decide (t.kind=((k+1:Nat):Int))).length:=by grind [secE]
 have hm:=AK H;have U:=By.1 hm;refine hn _ ⟨by simp_all,ht _ U.1,?_⟩
 grind [tx,secE]
end
section
variable {d:LB} {n:Nat} (hn:n<=67108864) (hd:d.length=upN n 8)
include hn
theorem qk6:vN (qa3 d n)=n:=by
 grind [qa3,qv,vN,qfh]
theorem qq6:vM (qa3 d n)=cnt d n:=by
 have H:=qnr d n;have e:((qa3 d n).drop 4).take 4=fixL (cnt d n) 4:=by
  rfl
 grind [vM,qfh]
include hd
theorem qzb:vD (qa3 d n)=d:=by
 rw[vD,qk6 hn]
 simp_all[qa3,fixL]
theorem q7i:vOk (qa3 d n)=true:=by
 grind [qej,qnr,vOk,qk6,qq6,qax,qcn,qa7,qx]
theorem qaap(H:¬PadB d n):voE (qa3 d n)=(0,0):=by
 grind [q69,qzb,qk6,qq6]
end
def frU(Q:Nat->Nat->Nat)(i:Nat):Nat->Bool
 | 0=>i==0||Q i 0 != Q (i-1) 0
 | k+1=>frU Q i k||Q i (k+1) != Q (i-1) (k+1)
theorem qhn(Q:Nat->Nat->Nat):∀k,frU Q 0 k=true
 | 0=>rfl
 | k+1=>by rw[frU,qhn Q k];rfl
theorem qr0{Q:Nat->Nat->Nat}{i k:Nat}(h:frU Q i k=true):∀{m:Nat},k<=m->frU Q i m=true
 | 0,H=>by rwa[Nat.le_zero.1 H]at h
 | m+1,H=>by
  by_cases e:k=m+1
  ·rwa[e]at h
  ·rw[frU,qr0 h (m:=m) Oo];rfl
theorem qhm{Q:Nat->Nat->Nat}{i:Nat}:∀{k:Nat},frU Q i k=false->0<i/\∀j,j<=k->Q i j=Q (i-1) j
 | 0,h=>by
  grind [frU]
 | k+1,h=>by
  simp only[frU,Dq,bne_eq_false_iff_eq]at h;obtain⟨h1,h2⟩:=qhm h.1
  grind
theorem q3a{Q:Nat->Nat->Nat}{i:Nat}(H:0<i):∀{k:Nat},(∀j,j<=k->Q i j=Q (i-1) j)->frU Q i k=false
 | 0,h=>by simp only[frU,Dq,beq_eq_false_iff_ne,bne_eq_false_iff_eq];exact⟨by omega,h 0 znr⟩
 | k+1,h=>by
  rw[frU,q3a H λj U=>h j Oo];simp only[Dn,bne_eq_false_iff_eq];exact h (k+1) znr
def nuT(Q:Nat->Nat->Nat)(k:Nat):Nat->DL
 | 0=>[]
 | i+1=>if frU Q i k=true then nuT Q k i++[Q i k]else nuT Q k i
def stT(Q:Nat->Nat->Nat)(k:Nat):Nat->List Bool
 | 0=>[]
 | i+1=>if frU Q i (k+1)=true then stT Q k i++[frU Q i k]else stT Q k i
def leT(Q:Nat->Nat->Nat)(k i:Nat):Nat:=(nuT Q k i).length
section
variable {Q:Nat->Nat->Nat}
theorem qat(h:frU Q i k=true):leT Q k (i+1)=leT Q k i+1:=by grind [leT,nuT]
theorem qbm(h:frU Q i k=false):leT Q k (i+1)=leT Q k i:=by grind [leT,nuT]
theorem qabe(k:Nat):∀i,leT Q k i<=i
 | 0=>Ai _
 | i+1=>by
  have:=qabe k i;cases h:frU Q i k with
  | true=>rw[qat h];omega
  | false=>rw[qbm h];omega
theorem qfi(k:Nat)(h:0<i):0<leT Q k i:=by
 induction i with
 | zero=>omega
 | succ i H=>
  by_cases e:i=0
  ·grind [qat,qhn]
  ·have:=H Oo;cases h:frU Q i k<;>grind [qat,qbm]
theorem qa9(k:Nat){a:Nat}:∀{b:Nat},a<=b->leT Q k a<=leT Q k b
 | 0,h=>by rw[Nat.le_zero.1 h];exact Ai _
 | b+1,h=>by
  by_cases e:a=b+1
  ·rw[e];exact Ai _
  ·have:=qa9 k (a:=a) (b:=b) Oo;cases h:frU Q b k with
   | true=>rw[qat h];omega
   | false=>rw[qbm h];omega
theorem q4e(k:Nat):∀i,leT Q k i<=leT Q (k+1) i
 | 0=>Ai _
 | i+1=>by
  have:=q4e k i;cases h:frU Q i k with
  | true=>rw[qat h,qat (qr0 h (m:=k+1) (Cq k))];omega
  | false=>
   rw[qbm h];cases h2:frU Q i (k+1)with
   | true=>rw[qat h2];omega
   | false=>rw[qbm h2];omega
theorem qb9(k:Nat):∀i,(stT Q k i).length=leT Q (k+1) i
 | 0=>rfl
 | i+1=>by
  have:=qb9 k i;cases h:frU Q i (k+1)with
  | true=>rw[qat h,stT,Ab h];simp[this]
  | false=>rw[qbm h,stT,Aa (by rw[h];decide),this]
theorem qms(k:Nat):∀i,(stT Q k i).count true=leT Q k i
 | 0=>rfl
 | i+1=>by
  have:=qms k i;cases h:frU Q i (k+1)with
  | true=>
   rw[stT,Ab h,List.count_append,this];cases h2:frU Q i k with
   | true=>rw[qat h2];rfl
   | false=>rw[qbm h2];rfl
  | false=>
   have h2:frU Q i k=false:=by
    cases h2:frU Q i k with
    | true=>rw[qr0 h2 (m:=k+1) (Cq k)]at h;cases h
    | false=>rfl
   rw[qbm h2,stT,Aa (by rw[h];decide),this]
theorem qlw(k:Nat):∀{i n:Nat},i<n->(nuT Q k n).getD (leT Q k (i+1)-1) 0=Q i k
 | i,0,h=>by omega
 | i,n+1,h=>by
  by_cases e:i=n
  ·subst e;cases h2:frU Q i k with
   | true=>
    rw[qat h2,AX,nuT,Ab h2,Ag];simp[leT]
   | false=>
    have h3:=qhm h2;have H:=qlw k (i:=i-1) (n:=i) Oo;rw[qbm h2,nuT,Aa (by rw[h2];decide)];rw[CU Oo]at H;rw[H];exact(h3.2 k znr).symm
  ·have H:=qlw k (i:=i) (n:=n) Oo;have U:=qa9 (Q:=Q) k (a:=i+1) (b:=n) Oo;have W:=qfi (Q:=Q) k (i:=i+1) Oo;cases h2:frU Q n k with
   | true=>
    rw[nuT,Ab h2,Ag,AS (by show _<leT Q k n;omega),<-Ag];exact H
   | false=>rw[nuT,Aa (by rw[h2];decide)];exact H
end
def laT(S:List Bool)(t:Nat):Nat:=if t+1=S.length then 1 else if S.getD (t+1) false=true then 1 else 0
def qcr(S:List Bool):LB:=qt5 (laT S) (upN S.length 8)
theorem qage(S:List Bool)(t:Nat):laT S t%2=laT S t:=by
 grind [laT]
theorem qdm(S:List Bool):(qcr S).length=upN S.length 8:=qrc _ _
theorem qfg{S:List Bool}{t:Nat}(h:t<S.length):bitN (qcr S) t=laT S t:=by
 grind [qcr,qhe,upN,qage]
theorem qr8(S:List Bool):¬PadB (qcr S) S.length:=by
 rintro⟨t,h1,h2,h3⟩
 grind [qdm,qcr,qhe,laT]
theorem qoe(S:List Bool){e:Nat}(h:e<S.length):(S.take (e+1)).count true=(S.take e).count true+(if S.getD e false=true then 1 else 0):=by
 grind [List.take_succ_eq_append_getElem]
theorem qlm{S:List Bool}(H:S.getD 0 false=true):∀{e:Nat},e<S.length->cnt (qcr S) e+1=(S.take (e+1)).count true
 | 0,h=>by rw[qoe S h,H];rfl
 | e+1,h=>by
  have U:=qlm H (e:=e) Oo;rw[cnt,qoe S h,qfg Oo,laT,Aa Oo];omega
theorem q38{S:List Bool}(H:S.getD 0 false=true)(U:0<S.length):cnt (qcr S) S.length=S.count true:=by
 have h1:=qlm H (e:=S.length-1) Oo
 grind [cnt,qfg,laT]
theorem qqr(Q:Nat->Nat->Nat)(k:Nat){a:Nat}:∀{b:Nat},a<=b->∃r,stT Q k b=stT Q k a++r
 | 0,h=>⟨[],by simp_all⟩
 | b+1,h=>by
  by_cases e:a=b+1
  ·simp_all
  ·obtain⟨r,hr⟩:=qqr Q k (a:=a) (b:=b) Oo
   grind [stT]
theorem qy1(Q:Nat->Nat->Nat)(k:Nat){n:Nat}(h:0<n):(stT Q k n).getD 0 false=true:=by
 obtain⟨r,hr⟩:=qqr Q k (a:=1) (b:=n) h
 grind [stT,qhn]
theorem qmr(Q:Nat->Nat->Nat)(k:Nat){n:Nat}(h:i<n):cnt (qcr (stT Q k n)) (leT Q (k+1) (i+1)-1)=leT Q k (i+1)-1:=by
 have h1:=qfi (Q:=Q) (k+1) (i:=i+1) Oo;have h2:=qa9 (Q:=Q) (k+1) (a:=i+1) (b:=n) h;have h3:=qlm (S:=stT Q k n) (qy1 Q k Oo) (e:=leT Q (k+1) (i+1)-1) (by rw[qb9];omega);obtain⟨r,hr⟩:=qqr Q k (a:=i+1) (b:=n) h
 grind [qb9,qms]
def wiT(l:DL):Nat:=wMx l l.length
def lvB(Q:Nat->Nat->Nat)(n k:Nat):LB:=
 UInt8.ofNat (wiT (nuT Q k n))::(qed (nuT Q k n) (wiT (nuT Q k n))++(if k=0 then[]else qa3 (qcr (stT Q (k-1) n)) (leT Q k n)))
def tlB(Q:Nat->Nat->Nat)(n:Nat):Nat->LB
 | 0=>[]
 | j+1=>lvB Q n (3-j)++tlB Q n j
def qz(Q:Nat->Nat->Nat)(n:Nat):LB:=
 varL (leT Q 0 n)++(varL (leT Q 1 n)++(varL (leT Q 2 n)++(varL (leT Q 3 n)++tlB Q n 4)))
structure TOk(Q:Nat->Nat->Nat)(n:Nat):Prop where
 nle:n<=1048576
 num:∀i k,i<n->k<4->(k≠0->1<=Q i k)/\Q i k<=4194304
 rise:∀i,0<i->i<n->∃k,k<4/\(∀j,j<k->Q i j=Q (i-1) j)/\Q (i-1) k<Q i k
theorem qab7{l:DL}{m:Nat}(h:∀x∈l,qbg x<=m):∀i,wMx l i<=m
 | 0=>Af _
 | i+1=>by
  have H:=qab7 h i;rw[wMx]
  by_cases hi:i<l.length
  ·have:=h (l.getD i 0) (by rw[Ag,zge hi];exact AK hi);omega
  ·rw[Ag,AY Oo];have:qbg (Option.getD (none:Option Nat) 0)=0:=qgd;omega
theorem qab6(l:DL){i:Nat}:∀{n:Nat},i<n->qbg (l.getD i 0)<=wMx l n
 | 0,h=>by omega
 | n+1,h=>by
  rw[wMx]
  by_cases e:i=n
  ·grind
  ·have:=qab6 l (i:=i) (n:=n) Oo;omega
theorem qlx{Q:Nat->Nat->Nat}{k x:Nat}:∀{n:Nat},x∈nuT Q k n->∃i,i<n/\Q i k=x
 | 0,h=>by cases h
 | n+1,h=>by
  rw[nuT]at h
  split at h
  ·rcases AU.1 h with h|h
   ·obtain⟨i,h1,h2⟩:=qlx h;exact⟨i,by omega,h2⟩
   ·exact⟨n,by omega,(Aq.1 h).symm⟩
  ·obtain⟨i,h1,h2⟩:=qlx h;exact⟨i,by omega,h2⟩
section
variable {Q:Nat->Nat->Nat} {n:Nat} (h:TOk Q n)
include h
theorem TOk.wi(hk:k<4):wiT (nuT Q k n)<=23:=qab7 (λx H=>by
 obtain⟨i,h1,rfl⟩:=qlx H;exact qd4 23 _ (by have:=(h.num i k h1 hk).2;omega) Od) _
theorem TOk.le(k:Nat):leT Q k n<=1048576:=AE (qabe k n) h.nle
theorem TOk.n0:numL (qz Q n)=(leT Q 0 n,(varL (leT Q 0 n)).length,0):=qba (by have:=h.le 0;omega) _
theorem TOk.a1:vAt (qz Q n) 1=(varL (leT Q 0 n)).length:=by rw[vAt,vAt,Bn,h.n0,As]
theorem TOk.n1:numL ((qz Q n).drop (vAt (qz Q n) 1))=(leT Q 1 n,(varL (leT Q 1 n)).length,0):=by
 rw[h.a1,qz,qn];exact qba (by have:=h.le 1;omega) _
theorem TOk.a2:vAt (qz Q n) 2=(varL (leT Q 0 n)).length+(varL (leT Q 1 n)).length:=by rw[vAt,h.n1,h.a1]
theorem TOk.n2:numL ((qz Q n).drop (vAt (qz Q n) 2))=(leT Q 2 n,(varL (leT Q 2 n)).length,0):=by
 rw[h.a2,qz,<-Am,qn,qn];exact qba (by have:=h.le 2;omega) _
theorem TOk.a3:vAt (qz Q n) 3=(varL (leT Q 0 n)).length+(varL (leT Q 1 n)).length+(varL (leT Q 2 n)).length:=by rw[vAt,h.n2,h.a2]
theorem TOk.n3:numL ((qz Q n).drop (vAt (qz Q n) 3))=(leT Q 3 n,(varL (leT Q 3 n)).length,0):=by
 rw[h.a3,qz,<-Am,<-Am,qn,qn,qn];exact qba (by have:=h.le 3;omega) _
theorem TOk.a4:vAt (qz Q n) 4=(varL (leT Q 0 n)).length+(varL (leT Q 1 n)).length+(varL (leT Q 2 n)).length+(varL (leT Q 3 n)).length:=by rw[vAt,h.n3,h.a3]
theorem TOk.numOk(hk:k<4):(numL ((qz Q n).drop (vAt (qz Q n) k))).2.2=0:=
 match k,hk with
 | 0,_=>by rw[vAt,Bn,h.n0]
 | 1,_=>by rw[h.n1]
 | 2,_=>by rw[h.n2]
 | 3,_=>by rw[h.n3]
theorem TOk.vNum{k:Nat}(hk:k<4):vNum (qz Q n) k=leT Q k n:=
 match k,hk with
 | 0,_=>by rw[Go.Proofs.YtccmcfpmknpccaaGreatDoor.vNum,vAt,Bn,h.n0]
 | 1,_=>by rw[Go.Proofs.YtccmcfpmknpccaaGreatDoor.vNum,h.n1]
 | 2,_=>by rw[Go.Proofs.YtccmcfpmknpccaaGreatDoor.vNum,h.n2]
 | 3,_=>by rw[Go.Proofs.YtccmcfpmknpccaaGreatDoor.vNum,h.n3]
theorem TOk.cnt{k:Nat}:cnt (qcr (stT Q k n)) (leT Q (k+1) n)=leT Q k n:=by
 by_cases H:n=0
 ·subst H;rfl
 grind [q38,qy1,qb9,qms]
theorem TOk.lvLen:(lvB Q n k).length=1+(leT Q k n*wiT (nuT Q k n)+7)/8+(if k=0 then 0 else qax (leT Q k n) (leT Q (k-1) n)):=by
 rw[lvB,Au,zla,qdt];show(leT Q k n*_+7)/8+_+1=_
 by_cases e:k=0
 ·grind
 ·obtain⟨m,rfl⟩:∃m,k=m+1:=⟨k-1,by omega⟩
  rw[Aa e,Aa e,qej,AX,h.cnt,qdm,qb9];unfold qax qcn qa7 qx;omega
theorem TOk.tail:k<=4->(qz Q n).drop (tvAt (qz Q n) k)=tlB Q n (4-k):=by
 induction k with
 | zero=>
  intro _;rw[tvAt,h.a4,qz,<-Am,<-Am,<-Am,qn,qn,qn,qn]
 | succ k H=>
  intro hk;have H:=H Oo;obtain⟨j,W⟩:∃j,4-k=j+1:=⟨3-k,by omega⟩
  have U:3-j=k:=by omega
  rw[W,tlB,U]at H;have hw:=h.wi (k:=k) Oo;have Z:((qz Q n).getD (tvAt (qz Q n) k) 0).toNat=wiT (nuT Q k n):=by
   have:(qz Q n).getD (tvAt (qz Q n) k) 0=((qz Q n).drop (tvAt (qz Q n) k)).getD 0 0:=by simp
   grind [lvB,qc5]
  have e2:tvAt (qz Q n) (k+1)=tvAt (qz Q n) k+(lvB Q n k).length:=by
   rw[tvAt,Z,h.vNum Oo,h.lvLen]
   by_cases e:k=0
   ·grind
   ·rw[Aa e,Aa e,h.vNum (k:=k-1) Oo];omega
  rw[e2,<-Am,H,qn,show 4-(k+1)=j by omega]
theorem TOk.tw{k:Nat}(hk:k<4):tw (qz Q n) k=wiT (nuT Q k n):=by
 have H:=h.tail (k:=k) Oo;obtain⟨j,U⟩:∃j,4-k=j+1:=⟨3-k,by omega⟩
 rw[U,tlB,show 3-j=k by omega]at H;have:(qz Q n).getD (tvAt (qz Q n) k) 0=((qz Q n).drop (tvAt (qz Q n) k)).getD 0 0:=by simp
 have hw:=h.wi hk;rw[Go.Proofs.YtccmcfpmknpccaaGreatDoor.tw,this,H,lvB];exact qc5 Oo
theorem TOk.tEnd{k:Nat}(hk:k<4):tEnd (qz Q n) k=tvAt (qz Q n) k+1+(qed (nuT Q k n) (wiT (nuT Q k n))).length:=by
 rw[Go.Proofs.YtccmcfpmknpccaaGreatDoor.tEnd,h.tw hk,h.vNum hk,qdt];rfl
theorem TOk.packed(hk:k<4):qh (qz Q n) k=qed (nuT Q k n) (wiT (nuT Q k n)):=by
 have H:=h.tail (k:=k) Oo;obtain⟨j,U⟩:∃j,4-k=j+1:=⟨3-k,by omega⟩
 rw[U,tlB,show 3-j=k by omega]at H;rw[qh,h.tEnd hk,BE,<-Am,H,lvB,AG,List.drop_succ_cons,Bn,Az,CJ]
theorem TOk.bytes(hk:k<4)(H:k≠0):qf (qz Q n) k=qa3 (qcr (stT Q (k-1) n)) (leT Q k n):=by
 have U:=h.tail (k:=k) Oo;obtain⟨j,W⟩:∃j,4-k=j+1:=⟨3-k,by omega⟩
 rw[W,tlB,show 3-j=k by omega]at U;obtain⟨m,rfl⟩:∃m,k=m+1:=⟨k-1,by omega⟩
 have Z:qax (leT Q (m+1) n) (leT Q m n)=(qa3 (qcr (stT Q m n)) (leT Q (m+1) n)).length:=by
  rw[qej,h.cnt,qdm,qb9];rfl
 rw[qf,qbc,Aa H,h.vNum hk,h.vNum (k:=m+1-1) Oo,BE,AX,Z,h.tEnd hk,<-Am,<-Am,U,lvB,AG,List.drop_succ_cons,Bn,Az,qn,Aa H,AX,CJ]
end
theorem qjm(Q:Nat->Nat->Nat)(k:Nat){e:Nat}:∀{n:Nat},e<leT Q k n->∃i,i<n/\frU Q i k=true/\leT Q k i=e
 | 0,h=>by cases h
 | n+1,h=>by
  cases h2:frU Q n k with
  | true=>
   rw[qat h2]at h
   by_cases W:e=leT Q k n
   ·exact⟨n,by omega,h2,W.symm⟩
   ·obtain⟨i,h3,H,U⟩:=qjm Q k (e:=e) (n:=n) Oo;exact⟨i,by omega,H,U⟩
  | false=>
   rw[qbm h2]at h;obtain⟨i,h3,H,U⟩:=qjm Q k h;exact⟨i,by omega,H,U⟩
theorem q6f(Q:Nat->Nat->Nat)(k:Nat){n:Nat}(h:i<n)(H:frU Q i (k+1)=true):(stT Q k n).getD (leT Q (k+1) i) false=frU Q i k:=by
 obtain⟨r,hr⟩:=qqr Q k (a:=i+1) (b:=n) h
 grind [stT,qb9]
theorem qabi{Q:Nat->Nat->Nat}{n e:Nat}(h:∀i,i<n->Q i k<18446744073709551616)(H:e<leT Q k n):(nuT Q k n).getD e 0<2 ^ wiT (nuT Q k n):=by
 have h1:=qab6 (nuT Q k n) (i:=e) (n:=(nuT Q k n).length) H;have h2:(nuT Q k n).getD e 0∈nuT Q k n:=by
  rw[Ag,zge (show e<(nuT Q k n).length from H)];simp
 obtain⟨i,h3,W⟩:=qlx h2;have U:=h i h3;rw[W]at U;exact Bu (qx2 U) (Bg Od h1)
section
variable {Q:Nat->Nat->Nat} {n:Nat} (h:TOk Q n)
include h
theorem TOk.big(hk:k<4):∀i,i<n->Q i k<18446744073709551616:=λi hi=>by have:=(h.num i k hi hk).2;omega
theorem TOk.tX{k e:Nat}(hk:k<4)(H:e<leT Q k n):tX (qz Q n) k e=(nuT Q k n).getD e 0:=by
 rw[Go.Proofs.YtccmcfpmknpccaaGreatDoor.tX,h.packed hk,h.tw hk];exact ql1 H (qabi (h.big hk) H)
theorem TOk.len(hk:k<4):tvAt (qz Q n) k<(qz Q n).length/\tvAt (qz Q n) (k+1)<=(qz Q n).length:=by
 have h1:=h.tail (k:=k) Oo;have h2:=h.tail (k:=k+1) Oo;obtain⟨j,U⟩:∃j,4-k=j+1:=⟨3-k,by omega⟩
 rw[U,tlB]at h1;rw[show 4-(k+1)=j by omega]at h2;have H:=Ad List.length h1;rw[zld,zla,show 3-j=k by omega,h.lvLen]at H;refine⟨by omega,?_⟩;rw[qbc,h.tEnd hk,qdt];show tvAt (qz Q n) k+1+(leT Q k n*_+7)/8+_<=_
 by_cases e:k=0
 ·grind
 ·rw[Aa e]at H|-;rw[h.vNum hk,h.vNum (k:=k-1) Oo];omega
theorem TOk.tE:(tE (qz Q n)).2=0:=by
 have h1:(errF (tcF (qz Q n)) 4).2=0:=q6 λk hk=>by
  have e0:numE (qz Q n) k 1048576=(0,0):=qbh (h.numOk hk) (by rw[h.vNum hk];exact h.le k);rw[tcF,Aa (by simp_all),Aa];rintro⟨U,H⟩;obtain⟨m,rfl⟩:∃m,k=m+1:=⟨k-1,by omega⟩
  rw[AX,h.vNum hk,h.vNum (k:=m) Oo]at H;have W:=q4e (Q:=Q) m n
  rcases H with H|H
  ·omega
  ·refine H ⟨λZ=>?_,λZ=>by omega⟩
   by_cases e:n=0
   ·subst e;rfl
   grind [qfi]
 have h2:(errF (tvF (qz Q n)) 4).2=0:=q6 λk hk=>by
  obtain⟨U,H⟩:=h.len hk;have W:=h.wi hk;rw[tvF,Aa Oo,h.tw hk,Aa Oo,Aa Oo]
 have h3:=Ad List.length (h.tail (k:=4) znr);rw[zld,BD,tlB,B6]at h3;rw[Go.Proofs.YtccmcfpmknpccaaGreatDoor.tE,Aa Oo,Aa Oo,Aa Oo]
theorem TOk.vec(hk:k+1<4):vOk (qf (qz Q n) (k+1))=true/\vN (qf (qz Q n) (k+1))=leT Q (k+1) n/\vM (qf (qz Q n) (k+1))=leT Q k n/\
  vD (qf (qz Q n) (k+1))=qcr (stT Q k n)/\voE (qf (qz Q n) (k+1))=(0,0):=by
 have U:=h.le (k+1);have hn:leT Q (k+1) n<=67108864:=by omega
 have hd:(qcr (stT Q k n)).length=upN (leT Q (k+1) n) 8:=by rw[qdm,qb9]
 have H:¬PadB (qcr (stT Q k n)) (leT Q (k+1) n):=by grind [qb9,qr8]
 rw[h.bytes hk Oo,AX];exact⟨q7i hn hd,qk6 hn,by rw[qq6 hn,h.cnt],qzb hn hd,qaap hn hd H⟩
theorem TOk.bit{e:Nat}(hk:k+1<4)(U:e<leT Q (k+1) n):bitN ((qf (qz Q n) (k+1)).drop 8) e=laT (stT Q k n) e:=by
 obtain⟨_,h2,_,H,_⟩:=h.vec hk;have W:=Ad (λd=>bitN d e) H
 grind [vD,qcz,upN,qfg,qb9]
theorem TOk.vcE{k:Nat}(hk:k+1<4):vcE (qz Q n) (k+1)=(0,0):=by
 obtain⟨h1,h2,h3,U,H⟩:=h.vec hk;refine q66 ?_ (by rw[H]) λg=>?_
 ·simp only[tVec,AF,decide_eq_true_eq];exact⟨⟨h1,by rw[h2,h.vNum hk]⟩,by rw[h3,AX,h.vNum Oo]⟩
 ·rw[h.vNum hk]at g|-;rw[h.bit hk Oo,laT,Ab (by rw[qb9];omega)]
theorem TOk.order{e:Nat}(hk:k<4)(H:0<e)(he:e<leT Q k n)(U:k=0\/bitN ((qf (qz Q n) k).drop 8) (e-1)≠1):(nuT Q k n).getD (e-1) 0<(nuT Q k n).getD e 0:=by
 obtain⟨i,h1,h2,h3⟩:=qjm Q k he;have hi:0<i:=by
  rcases Bk i with e|e
  ·subst e;rw[<-h3]at H;exact(D3 0 H).elim
  ·exact e
 have W:=qlw (Q:=Q) k (i:=i) (n:=n) h1;rw[qat h2,AX,h3]at W;have Z:=qlw (Q:=Q) k (i:=i-1) (n:=n) Oo;rw[CU hi,h3]at Z;rw[W,Z];obtain⟨m,r1,r2,r3⟩:=h.rise i hi h1;have hm:k<=m:=by
  by_cases e0:k=0
  ·omega
  ·have U:=U.resolve_left e0;obtain⟨p,rfl⟩:∃p,k=p+1:=⟨k-1,by omega⟩
   rw[h.bit hk Oo,laT,qb9,Aa Oo,CU H,<-h3,q6f Q p h1 h2]at U
   grind [qhm]
 grind [q3a]
end
theorem q60{l:DL}{w:Nat}(h:∀i,i<l.length->l.getD i 0<2 ^ w):unpN (qed l w) l.length w=l:=by
 apply Dm
 all_goals grind [unpN,ql1]
section
variable {Q:Nat->Nat->Nat} {n:Nat} (h:TOk Q n)
include h
theorem TOk.lvE{k:Nat}(hk:k<4):(lvE (qz Q n) k).2=0:=by
 refine q4t ?_ ?_ ?_ ?_
 ·refine Aw λg=>?_;have U:=(qp3 _ _ _).1 g;rw[h.packed hk,h.tw hk,h.vNum hk]at U;exact ql0 _ _ U
 ·rw[h.packed hk,h.tw hk,h.vNum hk,show leT Q k n=(nuT Q k n).length from rfl,q60 λi hi=>qabi (h.big hk) hi];rfl
 ·by_cases e:k=0
  ·exact .inl e
  ·obtain⟨m,rfl⟩:∃m,k=m+1:=⟨k-1,by omega⟩
   exact .inr (by rw[h.vcE hk])
 ·intro e H;rw[h.vNum hk]at H;have W:(nuT Q k n).getD e 0∈nuT Q k n:=by
   rw[Ag,zge (show e<(nuT Q k n).length from H)];simp
  obtain⟨i,h1,h2⟩:=qlx W;obtain⟨h3,Z⟩:=h.num i k h1 hk;rw[h2]at h3 Z;rw[qn2]
  ·rw[h.tX hk H];omega
  ·rintro⟨U,g2,g3⟩;rw[h.tX hk H,h.tX hk Oo]at g3;have:=h.order hk U H g2;omega
theorem TOk.toE:(toE (qz Q n)).2=0:=qabt h.tE λ_ hk=>h.lvE hk
theorem TOk.fresh(hi:i<n):frU Q i 3=true:=by
 by_cases H:i=0
 ·grind [qhn]
 ·obtain⟨k,h1,h2,h3⟩:=h.rise i Oo hi
  grind [frU]
theorem TOk.all:∀{i:Nat},i<=n->leT Q 3 i=i
 | 0,_=>rfl
 | i+1,hi=>by rw[qat (h.fresh hi),TOk.all Oo]
theorem TOk.up(hi:i<n):∀{j:Nat},j<4->tUp (qz Q n) i j=leT Q (3-j) (i+1)-1
 | 0,_=>by rw[tUp,h.all Oo];rfl
 | j+1,Z=>by
  have H:=TOk.up hi (j:=j) Oo;obtain⟨k,hk⟩:∃k,3-j=k+1:=⟨2-j,by omega⟩
  have U:=qbq h.toE (3-j) Oo Oo;have hp:=qfi (Q:=Q) (k+1) (i:=i+1) Oo;have hm:=qa9 (Q:=Q) (k+1) (a:=i+1) (b:=n) hi;rw[tUp,H,U.rank _ (by rw[h.vNum Oo,hk];omega),hk];obtain⟨_,h2,_,W,_⟩:=h.vec (k:=k) Oo;rw[<-qxb _ _ (by rw[h2];omega),W,qmr Q k hi,show 3-(j+1)=k by omega]
theorem TOk.tNum{i k:Nat}(hi:i<n)(hk:k<4):tNum (qz Q n) i k=Q i k:=by
 have H:=qfi (Q:=Q) k (i:=i+1) Oo;have U:=qa9 (Q:=Q) k (a:=i+1) (b:=n) hi;have hw:=h.wi hk;rw[Go.Proofs.YtccmcfpmknpccaaGreatDoor.tNum,h.up hi Oo,show 3-(3-k)=k by omega,qkn _ _ _ (by rw[h.tw hk];omega)];exact(h.tX hk (e:=leT Q k (i+1)-1) Oo).trans (qlw k hi)
end
def bndT(Q:Nat->Nat->Nat)(k p:Nat):Nat->Nat
 | 0=>0
 | i+1=>if leT Q k (i+1)<=p then i+1 else bndT Q k p i
section
variable {Q:Nat->Nat->Nat}
theorem qd5(k p:Nat):∀n,bndT Q k p n<=n
 | 0=>Ai _
 | i+1=>by
  rw[bndT]
  split
  ·exact Ai _
  ·exact Nat.le_succ_of_le (qd5 k p i)
theorem qb0(k p:Nat):∀{n i:Nat},i<n->(i<bndT Q k p n↔leT Q k (i+1)<=p)
 | 0,_,h=>absurd h (BW _)
 | n+1,i,h=>by
  rw[bndT]
  split
  ·rename_i g
   have:=qa9 (Q:=Q) k (a:=i+1) (b:=n+1) h;exact⟨λ_=>by omega,λ_=>h⟩
  ·rename_i g
   by_cases e:i=n
   ·subst e;have:=qd5 (Q:=Q) k p i;exact⟨λ_=>by omega,λh=>absurd h g⟩
   ·exact qb0 k p Oo
theorem qhf(k:Nat){p q:Nat}(h:p<=q)(n:Nat):bndT Q k p n<=bndT Q k q n:=by
 rcases AN (bndT Q k q n) (bndT Q k p n)with g|g
 ·have h1:=qd5 (Q:=Q) k p n;have h2:=(qb0 (Q:=Q) k p (n:=n) (i:=bndT Q k q n) Oo).1 g;have h3:=(qb0 (Q:=Q) k q (n:=n) (i:=bndT Q k q n) Oo).2 Oo;omega
 ·exact g
theorem qre(k n:Nat):bndT Q k 0 n=0:=by
 rcases Bk (bndT Q k 0 n)with g|g
 all_goals grind [qd5,qb0,qfi]
theorem qot(k:Nat){p n:Nat}(h:leT Q k n<=p):bndT Q k p n=n:=by
 cases n<;>grind [bndT]
def chT(Q:Nat->Nat->Nat)(n k p:Nat):Nat:=leT Q (k+1) (bndT Q k p n)
theorem qno(k p n:Nat):bndT Q (k+1) (chT Q n k p) n=bndT Q k p n:=by
 have h1:=qd5 (Q:=Q) k p n;have h2:=qd5 (Q:=Q) (k+1) (chT Q n k p) n;refine Nat.le_antisymm ?_ ?_
 ·refine D9.1 λg=>?_;have h3:=(qb0 (Q:=Q) (k+1) (chT Q n k p) (n:=n) (i:=bndT Q k p n) Oo).1 g;have H:¬leT Q k (bndT Q k p n+1)<=p:=λe=>D3 _ ((qb0 (Q:=Q) k p (n:=n) (i:=bndT Q k p n) Oo).2 e)
  have U:frU Q (bndT Q k p n) k=true:=by
   cases e:frU Q (bndT Q k p n) k with
   | true=>rfl
   | false=>
    exfalso
    have W:=qbm (Q:=Q) e;have Z:=(qhm e).1;have h8:=(qb0 (Q:=Q) k p (n:=n) (i:=bndT Q k p n-1) Oo).1 Oo
    grind
  grind [qat,qr0,chT]
 ·refine D9.1 λg=>?_;have h3:¬leT Q (k+1) (bndT Q (k+1) (chT Q n k p) n+1)<=chT Q n k p:=λe=>D3 _ ((qb0 (Q:=Q) (k+1) (chT Q n k p) (n:=n) (i:=bndT Q (k+1) (chT Q n k p) n) Oo).2 e)
  have H:=qa9 (Q:=Q) (k+1) (a:=bndT Q (k+1) (chT Q n k p) n+1) (b:=bndT Q k p n) g;exact h3 H
def agB(P:Nat->Int)(k x:Nat):Bool:=decide (P k<0)||decide (P k=(x:Int))
def agF(P:Nat->Int)(Q:Nat->Nat->Nat)(i:Nat):Nat->Nat->Bool
 | _,0=>true
 | k,m+1=>agB P k (Q i k)&&agF P Q i (k+1) m
def maT(P:Nat->Int)(Q:Nat->Nat->Nat)(k a b:Nat):DL:=((List.range b).drop a).filter λi=>agF P Q i k (4-k)
theorem q5n(h1:a<=b)(h2:b<=c):(List.range c).drop a=(List.range b).drop a++(List.range c).drop b:=by
 have e:List.range c=List.range b++(List.range c).drop b:=by
  conv=>lhs;rw[<-AM b (List.range c)]
  simp_all
 grind
theorem qadl(P:Nat->Int)(k:Nat)(h1:a<=b)(h2:b<=c):maT P Q k a c=maT P Q k a b++maT P Q k b c:=by
 grind [maT,q5n]
theorem qadm(P:Nat->Int)(k:Nat)(h:b<=a):maT P Q k a b=[]:=by
 grind [maT,List.drop_eq_nil_of_le]
theorem qm8:i∈(List.range b).drop a↔a<=i/\i<b:=by
 rw[AT]
 constructor
 ·grind
 ·rintro⟨h1,h2⟩;exact⟨i-a,by simp_all⟩
theorem qhq(P:Nat->Int){p n:Nat}(hk:k<4):maT P Q k (bndT Q k p n) (bndT Q k (p+1) n)=if agB P k ((nuT Q k n).getD p 0)=true then maT P Q (k+1) (bndT Q k p n) (bndT Q k (p+1) n)else[]:=by
 have hn:=qd5 (Q:=Q) k (p+1) n;have H:∀i∈(List.range (bndT Q k (p+1) n)).drop (bndT Q k p n),agF P Q i k (4-k)=(agB P k ((nuT Q k n).getD p 0)&&agF P Q i (k+1) (4-(k+1))):=by
  intro i hi;obtain⟨h1,h2⟩:=qm8.1 hi;have h3:=(qb0 (Q:=Q) k (p+1) (n:=n) (i:=i) Oo).1 h2;have W:¬leT Q k (i+1)<=p:=λe=>by have:=(qb0 (Q:=Q) k p (n:=n) (i:=i) Oo).2 e;omega
  have U:=qlw (Q:=Q) k (i:=i) (n:=n) Oo;rw[show leT Q k (i+1)-1=p by omega]at U;rw[U,show 4-k=(4-(k+1))+1 by omega];rfl
 rw[maT,List.filter_congr H]
 split
 ·rename_i h;rw[h];rfl
 simp_all
end
section
variable {Q:Nat->Nat->Nat}
theorem qr9(k:Nat){a:Nat}:∀{b:Nat},a<=b->leT Q (k+1) a=leT Q (k+1) b->leT Q k a=leT Q k b
 | 0,h,_=>by simp_all
 | b+1,h,H=>by
  by_cases e:a=b+1
  ·rw[e]
  ·have h1:=qa9 (Q:=Q) (k+1) (a:=a) (b:=b) Oo;cases h2:frU Q b (k+1)with
   | true=>rw[qat h2]at H;omega
   | false=>
    have h3:frU Q b k=false:=by
     cases h3:frU Q b k with
     | true=>rw[qr0 h3 (m:=k+1) (Cq k)]at h2;cases h2
     | false=>rfl
    rw[qbm h3];exact qr9 k Oo (by rw[H,qbm h2])
theorem qaav{p n s:Nat}(hs:s<leT Q (k+1) n)(U:laT (stT Q k n) s=1)(hc:cnt (qcr (stT Q k n)) s=p):s+1=chT Q n k (p+1):=by
 obtain⟨i,hi,hf,he⟩:=qjm Q (k+1) hs;have h1:=qat (Q:=Q) hf;rw[he]at h1;have h2:=qmr Q k hi;rw[h1,AX,hc]at h2;have h3:=qfi (Q:=Q) k (i:=i+1) Oo;have hp:leT Q k (i+1)=p+1:=by omega
 have W:=(qb0 (Q:=Q) k (p+1) (n:=n) (i:=i) hi).2 Oo;have Z:=qd5 (Q:=Q) k (p+1) n;have ag:=qa9 (Q:=Q) (k+1) (a:=i+1) (b:=bndT Q k (p+1) n) W;have ah:=qa9 (Q:=Q) (k+1) (a:=bndT Q k (p+1) n) (b:=n) Z;rw[chT];unfold laT at U;rw[qb9]at U
 by_cases e:s+1=leT Q (k+1) n
 ·omega
 ·rw[Aa e]at U;have hg:(stT Q k n).getD (s+1) false=true:=by
   grind
  obtain⟨H,aa,ad,ae⟩:=qjm Q (k+1) (e:=s+1) (n:=n) Oo;have h5:=q6f Q k aa ad;rw[ae,hg]at h5;have af:i+1<=H:=by
   refine D9.1 λg=>?_;have:=qa9 (Q:=Q) (k+1) (a:=H) (b:=i) Oo;omega
  have h6:=qr9 (Q:=Q) k af Oo;have h7:=qat (Q:=Q) h5.symm;have h8:¬H<bndT Q k (p+1) n:=λg=>by grind [qb0]
  have h9:∀j,j<H->j<bndT Q k (p+1) n:=λj hj=>(qb0 (Q:=Q) k (p+1) (n:=n) (i:=j) Oo).2 (by
   have:=qa9 (Q:=Q) k (a:=j+1) (b:=H) hj;omega)
  have ai:bndT Q k (p+1) n=H:=by
   have:=h9 (H-1) Oo;omega
  grind
theorem q74(k n:Nat):chT Q n k 0=0:=by rw[chT,qre];rfl
theorem qke(k n:Nat){p q:Nat}(h:p<=q):chT Q n k p<=chT Q n k q:=qa9 (k+1) (qhf k h n)
theorem q2g(k n p:Nat):chT Q n k p<=leT Q (k+1) n:=qa9 (k+1) (qd5 k p n)
theorem qafz{n e:Nat}(W:e<leT Q (k+1) n):∃i,i<n/\frU Q i (k+1)=true/\leT Q (k+1) i=e/\leT Q k (i+1)=cnt (qcr (stT Q k n)) e+1:=by
 obtain⟨i,hi,H,U⟩:=qjm Q (k+1) W;refine⟨i,hi,H,U,?_⟩;have h1:=qat (Q:=Q) H;rw[U]at h1;have h2:=qmr Q k hi
 grind [qfi]
theorem qahw{n e p:Nat}(H:e<leT Q (k+1) n):cnt (qcr (stT Q k n)) e=p↔chT Q n k p<=e/\e<chT Q n k (p+1):=by
 obtain⟨i,hi,U,h0,h1⟩:=qafz H;have h2:=qat (Q:=Q) U;have hd:∀p,(e<chT Q n k p↔cnt (qcr (stT Q k n)) e<p):=λp=>by
  have W:=qb0 (Q:=Q) k p hi;rw[chT]
  constructor
  ·intro g;have:i<bndT Q k p n:=by
    refine Nat.not_le.1 λZ=>?_;have:=qa9 (Q:=Q) (k+1) (a:=bndT Q k p n) (b:=i) Z;omega
   omega
  ·intro g;have:=W.2 Oo;have:=qa9 (Q:=Q) (k+1) (a:=i+1) (b:=bndT Q k p n) this;omega
 grind
theorem TOk.sib{n e p:Nat}(h:TOk Q n)(hk:k+1<4)(h1:chT Q n k p<=e)(h2:e+1<chT Q n k (p+1)):(nuT Q (k+1) n).getD e 0<(nuT Q (k+1) n).getD (e+1) 0:=by
 have U:=q2g (Q:=Q) k n (p+1);have W:=(qahw (Q:=Q) (k:=k) (n:=n) (e:=e) (p:=p) Oo).2 ⟨h1,by omega⟩;refine h.order (k:=k+1) (e:=e+1) hk Oo Oo (.inr λH=>?_);rw[AX,h.bit hk Oo]at H;have:=qaav (Q:=Q) (k:=k) (n:=n) (s:=e) (p:=p) Oo H W;omega
theorem TOk.top{n e:Nat}(h:TOk Q n)(h2:e+1<leT Q 0 n):(nuT Q 0 n).getD e 0<(nuT Q 0 n).getD (e+1) 0:=
 h.order (k:=0) (e:=e+1) Od Oo h2 (.inl rfl)
end
theorem qaax{d H:LB}:∀{n:Nat},(∀t,t<n->bitN d t=bitN H t)->cnt d n=cnt H n
 | 0,_=>rfl
 | n+1,h=>by rw[cnt,cnt,qaax λt ht=>h t Oo,h n Oo]
theorem qaey{d:LB}{s:Nat}(h1:cnt d s<=k)(h2:k<cnt d (s+1)):bitN d s=1/\cnt d s=k:=by
 grind [qc7,cnt]
section
variable {Q:Nat->Nat->Nat} {n:Nat} (h:TOk Q n)
include h
theorem TOk.cntD{s:Nat}(hk:k+1<4)(H:s<=leT Q (k+1) n):Go.Proofs.YtccmcfpmknpccaaGreatDoor.cnt ((qf (qz Q n) (k+1)).drop 8) s=Go.Proofs.YtccmcfpmknpccaaGreatDoor.cnt (qcr (stT Q k n)) s:=
 qaax λt ht=>by rw[h.bit hk Oo,qfg (by rw[qb9];omega)]
theorem TOk.child{p s:Nat}(hk:k+1<4)(H:s<leT Q (k+1) n)(h1:Go.Proofs.YtccmcfpmknpccaaGreatDoor.cnt ((qf (qz Q n) (k+1)).drop 8) s<=p)(h2:p<Go.Proofs.YtccmcfpmknpccaaGreatDoor.cnt ((qf (qz Q n) (k+1)).drop 8) (s+1)):s+1=chT Q n k (p+1):=by
 obtain⟨U,W⟩:=qaey h1 h2;rw[h.bit hk H]at U;rw[h.cntD hk Oo]at W;exact qaav H U W
theorem TOk.ones(hk:k+1<4):Go.Proofs.YtccmcfpmknpccaaGreatDoor.cnt ((qf (qz Q n) (k+1)).drop 8) (leT Q (k+1) n)=leT Q k n:=by
 rw[h.cntD hk znr];exact h.cnt
theorem TOk.sibs{p:Nat}(hk:k+1<4):∀{b:Nat},chT Q n k p<=a->a<b->b<chT Q n k (p+1)->(nuT Q (k+1) n).getD a 0<(nuT Q (k+1) n).getD b 0
 | 0,_,H,_=>absurd H (BW _)
 | b+1,ha,H,U=>by
  have h1:=h.sib (k:=k) (e:=b) (p:=p) hk Oo U
  by_cases e:a=b
  ·simp_all
  ·have:=TOk.sibs hk (b:=b) ha Oo Oo;omega
theorem TOk.tops:∀{b:Nat},a<b->b<leT Q 0 n->(nuT Q 0 n).getD a 0<(nuT Q 0 n).getD b 0
 | 0,H,_=>absurd H (BW _)
 | b+1,H,U=>by
  have h1:=h.top (e:=b) U
  by_cases e:a=b
  ·simp_all
  ·have:=TOk.tops (b:=b) Oo Oo;omega
end
section
variable {Q:Nat->Nat->Nat} {P:Nat->Int} {n:Nat}
def lvM(P:Nat->Int)(Q:Nat->Nat->Nat)(n k a b:Nat):DL:=maT P Q k (bndT Q k a n) (bndT Q k b n)
theorem qlq(h:b<=a):lvM P Q n k a b=[]:=qadm P k (qhf k h n)
theorem qpx(h1:a<=b)(h2:b<=c):lvM P Q n k a c=lvM P Q n k a b++lvM P Q n k b c:=qadl P k (qhf k h1 n) (qhf k h2 n)
theorem quw{p:Nat}(hk:k+1<4):lvM P Q n k p (p+1)=if agB P k ((nuT Q k n).getD p 0)=true then lvM P Q n (k+1) (chT Q n k p) (chT Q n k (p+1))else[]:=by
 grind [lvM,qhq,qno]
theorem qkl{k a:Nat}(hk:k<4):∀{b:Nat},(∀e,a<=e->e<b->agB P k ((nuT Q k n).getD e 0)=false)->lvM P Q n k a b=[]
 | 0,_=>qlq Oo
 | b+1,h=>by
  by_cases H:a<=b
  ·rw[qpx H (Cq b),qkl hk λe h1 h2=>h e h1 Oo,Bi,lvM,qhq P hk,h b H (Dl b)];rfl
  ·exact qlq Oo
theorem qx4{e x:Nat}(hk:k<4)(hx:P k=(x:Int))(hr:∀i j,a<=i->i<j->j<b->(nuT Q k n).getD i 0<(nuT Q k n).getD j 0)(h1:a<=e)(h2:e<=b)(U:∀i,a<=i->i<e->(nuT Q k n).getD i 0<x)(aa:e<b->x<=(nuT Q k n).getD e 0):
  lvM P Q n k a b=if e<b/\(nuT Q k n).getD e 0=x then lvM P Q n k e (e+1)else[]:=by
 have W:∀i,(nuT Q k n).getD i 0≠x->agB P k ((nuT Q k n).getD i 0)=false:=(by grind [agB])
 split
 ·rename_i h
  rw[qpx (b:=e) h1 h2,qkl hk λi Z H=>W i (by have:=U i Z H;omega),Bi,qpx (b:=e+1) (Cq e) h.1,qkl (a:=e+1) hk λi Z H=>W i (by have:=hr e i h1 Oo H;omega),Bl]
 ·rename_i h
  refine qkl hk λi Z H=>W i λhi=>?_
  rcases AN i e with g|g
  ·grind
  ·have h3:x<=(nuT Q k n).getD e 0:=(by omega)
   rcases CV g with g|g
   all_goals grind
theorem TOk.bnd3(h:TOk Q n){p:Nat}(H:p<=n):bndT Q 3 p n=p:=by
 have h1:=qd5 (Q:=Q) 3 p n;refine Nat.le_antisymm ?_ ?_
 ·refine D9.1 λg=>?_;have:=(qb0 (Q:=Q) 3 p (n:=n) (i:=p) Oo).1 g;rw[h.all Oo]at this;omega
 ·refine D9.1 λg=>?_;have:=(qb0 (Q:=Q) 3 p (n:=n) (i:=bndT Q 3 p n) Oo).2 (by rw[h.all Oo];exact g);omega
theorem TOk.leaf(h:TOk Q n){e:Nat}(H:e<n):lvM P Q n 3 e (e+1)=if agB P 3 ((nuT Q 3 n).getD e 0)=true then[e]else[]:=by
 rw[lvM,qhq P Od,h.bnd3 Oo,h.bnd3 Oo]
 split
 ·rw[maT,Cn,Cz Js,AC Js,Bi];rfl
 ·rfl
theorem TOk.lvM_all(_:TOk Q n):lvM P Q n 0 0 (leT Q 0 n)=maT P Q 0 0 n:=by
 grind [lvM,qre,qot]
end
def bsr(p:Nat->Bool):Nat->Nat->Nat->Nat
 | 0,a,_=>a
 | f+1,a,b=>if a<b then(if p ((a+b)/2)=true then bsr p f a ((a+b)/2)else bsr p f ((a+b)/2+1) b)else a
theorem qnp{p:Nat->Bool}:∀{f a b:Nat},a<=b->a<=bsr p f a b/\bsr p f a b<=b
 | 0,a,b,h=>⟨Ai _,h⟩
 | f+1,a,b,h=>by
  rw[bsr]
  split
  ·split
   ·have:=qnp (p:=p) (f:=f) (a:=a) (b:=(a+b)/2) Oo;omega
   ·have:=qnp (p:=p) (f:=f) (a:=(a+b)/2+1) (b:=b) Oo;omega
  ·omega
theorem qkb{p:Nat->Bool}{n:Nat}(H:∀i j,i<=j->j<n->p i=true->p j=true):∀{f a b:Nat},a<=b->b<=n->b-a<=f->(∀i,i<a->p i=false)->(∀i,b<=i->i<n->p i=true)->
  (∀i,i<bsr p f a b->p i=false)/\(∀i,bsr p f a b<=i->i<n->p i=true)
 | 0,a,b,h,_,U,h1,h2=>by
  obtain rfl:a=b:=by omega
  exact⟨h1,h2⟩
 | f+1,a,b,h,hn,U,h1,h2=>by
  rw[bsr]
  split
  ·rename_i W
   split
   ·rename_i Z
    exact qkb H Oo Oo Oo h1 (by grind)
   ·rename_i Z
    refine qkb H Oo hn Oo (λi hi=>?_) h2
    grind
  grind
abbrev WS:=(Nat->Nat)×(Nat->Nat)
abbrev WR:=List (Nat×(Nat->Nat))×WS
def updN(f:Nat->Nat)(k v:Nat):Nat->Nat:=λj=>if j=k then v else f j
def goL(f:Nat->WS->WR):Nat->Nat->WS->WR
 | 0,_,s=>([],s)
 | m+1,i,s=>((f i s).1++(goL f m (i+1) (f i s).2).1,(goL f m (i+1) (f i s).2).2)
structure LvD where
 N:Nat->Nat
 nu:Nat->Nat->Nat
 ch:Nat->Nat->Nat×Nat
def LvD.sr(T:LvD)(k lo hi:Nat)(x:Int):Nat:=lo+bsr (λi=>decide (x<=(T.nu k (lo+i):Int))) (hi-lo) 0 (hi-lo)
def LvD.win(T:LvD)(P:Nat->Int)(k lo hi:Nat):Nat×Nat:=
 if P k<0 then(lo,hi)else if T.sr k lo hi (P k)<hi/\(T.nu k (T.sr k lo hi (P k)):Int)=P k then(T.sr k lo hi (P k),T.sr k lo hi (P k)+1)else(T.sr k lo hi (P k),T.sr k lo hi (P k))
def lvS(T:LvD)(P:Nat->Int)(f:Nat->WS->WR)(k lo hi:Nat)(s:WS):WR:=
 if min hi (T.N k)<=max lo (s.1 k)then([],s)else
 goL (λi s=>f i (s.1,updN s.2 k (T.nu k i))) ((T.win P k (max lo (s.1 k)) (min hi (T.N k))).2-(T.win P k (max lo (s.1 k)) (min hi (T.N k))).1) (T.win P k (max lo (s.1 k)) (min hi (T.N k))).1 (updN s.1 k (min hi (T.N k)),s.2)
def lvG(T:LvD)(P:Nat->Int):Nat->Nat->Nat->Nat->WS->WR
 | 0,k,lo,hi,s=>lvS T P (λi s=>([(i,s.2)],s)) k lo hi s
 | d+1,k,lo,hi,s=>lvS T P (λi s=>lvG T P d (k+1) (T.ch k i).1 (T.ch k i).2 s) k lo hi s
theorem LvD.sr_le(T:LvD)(k:Nat)(x:Int)(h:lo<=hi):lo<=T.sr k lo hi x/\T.sr k lo hi x<=hi:=by
 grind [qnp,LvD.sr]
theorem LvD.win_le(T:LvD)(P:Nat->Int)(k:Nat)(h:lo<=hi):lo<=(T.win P k lo hi).1/\(T.win P k lo hi).1<=(T.win P k lo hi).2/\(T.win P k lo hi).2<=hi:=by
 have:=T.sr_le k (P k) h
 grind [LvD.win]
theorem LvD.sr_spec(T:LvD)(k:Nat)(x:Int)(h:lo<=hi)(hr:∀i j,lo<=i->i<j->j<hi->T.nu k i<T.nu k j):
  (∀i,lo<=i->i<T.sr k lo hi x->(T.nu k i:Int)<x)/\(T.sr k lo hi x<hi->x<=(T.nu k (T.sr k lo hi x):Int)):=by
 have U:=qkb (p:=λi=>decide (x<=(T.nu k (lo+i):Int))) (n:=hi-lo) (λi j W Z H=>by
  have H:=BR H;refine At ?_
  by_cases e:i=j
  ·simp_all
  ·have:=hr (lo+i) (lo+j) Oo Oo Oo;omega) (f:=hi-lo) (a:=0) (b:=hi-lo) Oo Oo Oo Oo Oo
 unfold LvD.sr;refine⟨λi h1 h2=>?_,λh1=>?_⟩
 ·have:=of_decide_eq_false (U.1 (i-lo) Oo)
  simp_all
 grind
section
variable {Q:Nat->Nat->Nat} {n:Nat}
def dT(Q:Nat->Nat->Nat)(n k a:Nat):Nat->Nat
 | 0=>a
 | j+1=>chT Q n (k+j) (dT Q n k a j)
theorem qt9(k:Nat){a b:Nat}(h:a<=b):∀j,dT Q n k a j<=dT Q n k b j
 | 0=>h
 | j+1=>qke _ _ (qt9 k h j)
theorem qoz(k a:Nat):∀j,dT Q n (k+1) (chT Q n k a) j=dT Q n k a (j+1)
 | 0=>rfl
 | j+1=>by rw[dT,qoz k a j,dT,show k+1+j=k+(j+1)by omega,dT,dT]
theorem q3h{P:Nat->Int}{k lo hi:Nat}{f:Nat->WS->WR}{Inv:Nat->WS->Prop}(h:∀i s,lo<=i->i<hi->Inv i s->(f i s).1.map (·.1)=lvM P Q n k i (i+1)/\Inv (i+1) (f i s).2):
  ∀(m i:Nat) (s:WS),lo<=i->i+m<=hi->Inv i s->(goL f m i s).1.map (·.1)=lvM P Q n k i (i+m)/\Inv (i+m) (goL f m i s).2
 | 0,i,s,_,_,H=>⟨(qlq znr).symm,H⟩
 | m+1,i,s,h1,h2,H=>by
  obtain⟨W,U⟩:=h i s h1 Oo H;obtain⟨Z,g4⟩:=q3h h m (i+1) _ Oo Oo U
  grind [goL,qpx]
structure CanD(T:LvD)(Q:Nat->Nat->Nat)(n:Nat):Prop where
 N:∀k,k<4->T.N k=leT Q k n
 nu:∀k e,k<4->e<leT Q k n->T.nu k e=(nuT Q k n).getD e 0
 ch:∀k i,k+1<4->i<leT Q k n->T.ch k i=(chT Q n k i,chT Q n k (i+1))
theorem q4y(_:TOk Q n){T:LvD}(hT:CanD T Q n){P:Nat->Int}{s:WS}{f:Nat->WS->WR}(hk:k<4)(H:a<=b)(hb:b<=leT Q k n)(hr:∀i j,a<=i->i<j->j<b->(nuT Q k n).getD i 0<(nuT Q k n).getD j 0)(hp:∀j,k+j<4->s.1 (k+j)<=dT Q n k a j)(hf:∀i s,a<=i->i<b->agB P k ((nuT Q k n).getD i 0)=true->(∀j,k+(j+1)<4->s.1 (k+(j+1))<=dT Q n k i (j+1))->(f i s).1.map (·.1)=lvM P Q n k i (i+1)/\(f i s).2.1 k=s.1 k/\∀j,k+(j+1)<4->(f i s).2.1 (k+(j+1))<=dT Q n k (i+1) (j+1)):
  (lvS T P f k a b s).1.map (·.1)=lvM P Q n k a b/\∀j,k+j<4->(lvS T P f k a b s).2.1 (k+j)<=dT Q n k b j:=by
 have aa:s.1 k<=a:=hp 0 hk;rw[lvS,hT.N k hk,Nat.max_eq_left aa,Bq hb]
 split
 ·grind [qlq]
 obtain⟨w1,w2,w3⟩:=T.win_le P k H;have af:∀e,e<b->T.nu k e=(nuT Q k n).getD e 0:=λe he=>hT.nu k e hk Oo
 have U:lvM P Q n k a b=lvM P Q n k (T.win P k a b).1 (T.win P k a b).2/\∀i,(T.win P k a b).1<=i->i<(T.win P k a b).2->agB P k ((nuT Q k n).getD i 0)=true:=by
  by_cases ae:P k<0
  ·grind [LvD.win,agB]
  ·obtain⟨s1,s2⟩:=T.sr_le k (P k) H;obtain⟨s3,s4⟩:=T.sr_spec k (P k) H (by grind);obtain⟨x,hx⟩:∃x:Nat,P k=(x:Int):=⟨(P k).toNat,by omega⟩
   have ag:=qx4 (P:=P) (n:=n) hk hx hr s1 s2 (by grind) (by grind)
   grind [LvD.win,agB,qlq]
 obtain⟨W,ad⟩:=U;obtain⟨u,eu⟩:∃u,u=T.win P k a b:=⟨_,rfl⟩
 rw[<-eu]at w1 w2 w3 W ad|-;have Z:=q3h (Q:=Q) (n:=n) (P:=P) (k:=k) (lo:=u.1) (hi:=u.2) (f:=λi s=>f i (s.1,updN s.2 k (T.nu k i))) (Inv:=λi s=>s.1 k=b/\∀j,k+(j+1)<4->s.1 (k+(j+1))<=dT Q n k i (j+1))
  (by grind) (u.2-u.1) u.1 (updN s.1 k b,s.2) Oo Oo ⟨by grind [updN],λj hj=>by
    show updN s.1 k b (k+(j+1))<=_;rw[updN,Aa Oo];exact AE (by grind) (qt9 k w1 (j+1))⟩
 rw[show u.1+(u.2-u.1)=u.2 by omega]at Z;refine⟨by rw[Z.1,W],λj hj=>?_⟩;cases j with
 | zero=>rw[Bt,Z.2.1];exact Ai b
 | succ j=>exact AE (Z.2.2 j hj) (qt9 k w3 (j+1))
theorem qx5{T:LvD}{P:Nat->Int}{s:WS}{f:Nat->WS->WR}(U:m≠k)(W:∀i s,(f i s).2.1 m=s.1 m):(lvS T P f k a b s).2.1 m=s.1 m:=by
 have H:∀c i (s:WS),(goL (λi s=>f i (s.1,updN s.2 k (T.nu k i))) c i s).2.1 m=s.1 m:=by
  intro c
  induction c with
  | zero=>intro i s;rfl
  | succ c Z=>grind [goL]
 grind [lvS,updN]
theorem qx3{T:LvD}{P:Nat->Int}{m:Nat}:∀{d k a b:Nat} {s:WS},m<k->(lvG T P d k a b s).2.1 m=s.1 m
 | 0,k,a,b,s,h=>qx5 Oo λ_ _=>rfl
 | d+1,k,a,b,s,h=>qx5 Oo λi s=>qx3 (d:=d) Oo
theorem q4w(h:TOk Q n){T:LvD}(W:CanD T Q n){P:Nat->Int}:∀{d k a b:Nat} {s:WS},k+d=3->a<=b->b<=leT Q k n->(∀i j,a<=i->i<j->j<b->(nuT Q k n).getD i 0<(nuT Q k n).getD j 0)->
  (∀j,k+j<4->s.1 (k+j)<=dT Q n k a j)->(lvG T P d k a b s).1.map (·.1)=lvM P Q n k a b/\∀j,k+j<4->(lvG T P d k a b s).2.1 (k+j)<=dT Q n k b j
 | 0,k,a,b,s,Z,H,hb,hr,hp=>by
  obtain rfl:k=3:=by omega
  have hn:leT Q 3 n=n:=h.all Oo;refine q4y h W Oo H hb hr hp λi s h1 h2 U _=>⟨?_,rfl,Oo⟩
  rw[h.leaf Oo,Ab U];rfl
 | d+1,k,a,b,s,Z,H,hb,hr,hp=>by
  refine q4y h W Oo H hb hr hp λi s h1 h2 U hj=>?_;have aa:=W.ch k i Oo Oo;have ih:=q4w h W (P:=P) (d:=d) (k:=k+1) (a:=chT Q n k i) (b:=chT Q n k (i+1)) (s:=s) Oo (qke k n (Cq i)) (q2g k n _) (λx y g1 g2 g3=>h.sibs Oo g1 g2 g3)
   (λj ad=>by rw[qoz,show k+1+j=k+(j+1)by omega];exact hj j Oo)
  rw[aa];refine⟨by rw[ih.1,quw Oo,Ab U],qx3 Oo,λj ad=>?_⟩;have:=ih.2 j Oo;rw[qoz,show k+1+j=k+(j+1)by omega]at this;exact this
theorem qadk(h:TOk Q n){T:LvD}(H:CanD T Q n){P:Nat->Int}{q:Nat->Nat}:(lvG T P 3 0 0 (leT Q 0 n) (λ_=>0,q)).1.map (·.1)=maT P Q 0 0 n:=by
 rw[<-h.lvM_all];exact(q4w h H (d:=3) (k:=0) (a:=0) (b:=leT Q 0 n) (s:=(λ_=>0,q)) rfl Oo Oo (λi j _ h2 h3=>h.tops h2 h3) (λj U=>Af _)).1
end
def seB(B:LB)(x:Nat):Nat:=if x<vM B then bsr (λi=>decide (x<qgf B (i+1))) (vN B-1) 0 (vN B-1)+1 else 0
def chB(l:LB)(k i:Nat):Nat×Nat:=
 if tVec l (k+1)=true then((if 0<i then seB (qf l (k+1)) (i-1)else 0),max (if 0<i then seB (qf l (k+1)) (i-1)else 0) (seB (qf l (k+1)) i))else(0,0)
def treD(l:LB):LvD:=⟨vNum l,λk e=>numP (qh l k) (tw l k) e,chB l⟩
theorem q51{B:LB}(x:Nat)(h:vM B<=vN B):seB B x<=vN B:=by
 grind [seB,qnp]
theorem qw8(h:∀k,vNum l k<=1048576\/4<=k)(hk:k+1<4)(H:tVec l (k+1)=true->vM (qf l (k+1))<=vN (qf l (k+1))):(chB l k i).1<=1048576/\(chB l k i).2<=1048576:=by
 grind [chB,tVec,q51]
section
variable {Q:Nat->Nat->Nat} {n:Nat} (h:TOk Q n)
include h
theorem TOk.seB{p:Nat}(hk:k+1<4)(W:p<leT Q k n):Go.Proofs.YtccmcfpmknpccaaGreatDoor.seB (qf (qz Q n) (k+1)) p=chT Q n k (p+1):=by
 obtain⟨h1,h2,h3,h4,h5⟩:=h.vec hk;have Z:=qbq h.toE (k+1) Oo Oo;have H:=h.ones hk;rw[Go.Proofs.YtccmcfpmknpccaaGreatDoor.seB,h3,Ab W,h2];have U:0<leT Q (k+1) n:=by
  refine Nat.pos_of_ne_zero λe=>?_;rw[e]at H;have:leT Q k n=0:=H.symm;omega
 obtain⟨N,eN⟩:∃N,N=leT Q (k+1) n-1:=⟨_,rfl⟩
 have aa:∀i,i<=N+1->qgf (qf (qz Q n) (k+1)) i=Go.Proofs.YtccmcfpmknpccaaGreatDoor.cnt ((qf (qz Q n) (k+1)).drop 8) i:=λi hi=>Z.rank i (by rw[h.vNum hk];omega)
 rw[<-eN];have hb:=qnp (p:=λi=>decide (p<qgf (qf (qz Q n) (k+1)) (i+1))) (f:=N) (a:=0) (b:=N) (Af _);have hs:=qkb (p:=λi=>decide (p<qgf (qf (qz Q n) (k+1)) (i+1))) (n:=N) (by grind [Nat.lt_of_lt_of_le,qkf]) (f:=N) (a:=0) (b:=N) Oo Oo Oo Oo Oo;obtain⟨s,es⟩:∃s,s=bsr (λi=>decide (p<qgf (qf (qz Q n) (k+1)) (i+1))) N 0 N:=⟨_,rfl⟩
 rw[<-es]at hb hs|-;refine h.child hk Oo ?_ ?_
 ·cases s with
  | zero=>exact Af _
  | succ s=>
   grind
 grind
theorem TOk.canD:CanD (treD (qz Q n)) Q n:=by
 refine⟨λk hk=>h.vNum hk,λk e hk H=>?_,λk i hk hi=>?_⟩
 ·show numP _ _ _=_;rw[qkn _ _ _ (by have:=h.wi hk;rw[h.tw hk];omega)];exact h.tX hk H
 ·have U:=qbq h.toE (k+1) Oo Oo;have W:(if 0<i then Go.Proofs.YtccmcfpmknpccaaGreatDoor.seB (qf (qz Q n) (k+1)) (i-1)else 0)=chT Q n k i:=by
   split
   ·rw[h.seB hk Oo,show i-1+1=i by omega]
   grind [q74]
  show chB _ k i=_;rw[chB,Ab U.tvec,W,h.seB hk hi,Nat.max_eq_right (qke k n (Cq i))]
theorem TOk.mtch{P:Nat->Int}{q:Nat->Nat}:(lvG (treD (qz Q n)) P 3 0 0 (Go.Proofs.YtccmcfpmknpccaaGreatDoor.vNum (qz Q n) 0) (λ_=>0,q)).1.map (·.1)=maT P Q 0 0 n:=by
 rw[h.vNum Od];exact qadk h h.canD
end
theorem qw1(p:Nat->Bool)(f a:Nat):bsr p f a a=a:=by
 cases f<;>grind [bsr]
theorem qvo(l:LB)(A:oA)(c b k:Nat)(w:DA)(hS:SlAt encB 1 w A l)(hc:l.length<=c)(hv:vOk l=true)(hb:w.heap[b]?=some (vecO 381 (.slice A l.length c) (vN l) (vM l)))(h1:1<=vN l)(hn:vN l<=67108864):
  Gv DM 280 [pp b,ii k,.func (.func 224) #[pp b] #[]] w λr w'=>r=ii (bsr (λi=>decide (k<qgf l (i+1))) (vN l-1) 0 (vN l-1):Nat)/\Ext w w':=by
 obtain⟨p,ep⟩:∃p:Nat->Bool,p=λi=>decide (k<qgf l (i+1)):=⟨_,rfl⟩
 rw[<-ep];refine ze Tryz.func280 Tryz.ntmps280 ?_;refine DrawV.free Jk Jk (zw ?_);(iterate 3 (refine zd ?_));refine zf ?_ (by intro wd hd;(conv=>whnf);refine LoadV.own (Ext.get (Ext.trans (Ext.drew xr) hd) hb) rfl ?_;(conv=>whnf);exact xq);(iterate 3 (refine zd ?_));intro w1 W;have W:=(Ext.refl w).drew.trans W;(conv=>whnf);refine qq (λs:Nat×Nat=>[(1,ii k),(2,.func (.func 224) #[pp b] #[]),(7,ii s.1),(8,ii s.2)])
  (λs w'=>s.1<=s.2/\s.2<=vN l-1/\(∃f,s.2-s.1<=f/\bsr p f s.1 s.2=bsr p (vN l-1) 0 (vN l-1))/\Ext w w') (λs=>s.2-s.1) (0,vN l-1) ⟨rfl,rfl,rfl,Ad (Value.int .i64) (by show((vN l:Nat):Int)-1=((vN l-1:Nat):Int);omega),trivial⟩ (by grind) ?_
 rintro⟨x,y⟩ w2 ad ⟨g1,g2,⟨f,hf,U⟩,Z⟩;dsimp only at g1 g2 hf U|-;(conv=>whnf);refine zC (λ_=>zu ?_) (λ_=>zu ?_)
 ·obtain⟨h,eh⟩:∃h,h=(x+y)/2:=⟨_,rfl⟩
  obtain⟨f',rfl⟩:∃f',f=f'+1:=⟨f-1,by omega⟩
  rw[bsr,Ab Oo,<-eh]at U;rw[show((x:Int)+(y:Int))/2=((h:Nat):Int)by omega,show((h:Nat):Int)+1=((h+1:Nat):Int)by omega];refine zcv (qyj l A c b (h+1) w2 (hS.ext Z) hc hv (Z.get hb) Oo) ?_;rintro r w3 ⟨rfl,aa⟩;have Z:=Z.trans aa;cases H:p h
  ·rw[Aa (by rw[H];decide)]at U;rw[ep]at H;have H:=of_decide_eq_false H;refine zu ?_;refine⟨(h+1,y),fq,(by grind),by omega⟩
  ·rw[Ab H]at U;rw[ep]at H;have H:=BR H;refine zu ?_;refine⟨(x,h),fq,(by grind),by omega⟩
 grind [qw1]
theorem qg6(l:LB)(A:oA)(c b k:Nat)(w:DA)(U:SlAt encB 1 w A l)(W:l.length<=c)(Z:vOk l=true)(H:w.heap[b]?=some (vecO 381 (.slice A l.length c) (vN l) (vM l)))(hm:vM l<=vN l)(hn:vN l<=67108864):
  Gv DM 210 [pp b,ii k] w λr w'=>r=ii ((seB l k:Int)-1)/\Ext w w':=by
 refine ze Tryz.func210 Tryz.ntmps210 ?_;refine zv ?_;refine LoadV.own H rfl (zw ?_);refine zt ?_;refine zC (λ_=>zw ?_) (λ_=>zw ?_)
 ·grind [seB,Ext.refl]
 ·refine zcv (qvo l A c b k w U W Z H Oo hn) ?_;rintro r w1 ⟨rfl,aa⟩;conv=>whnf
  grind [seB]
theorem qtp(g:FuncId)(W Z c3:DF)(n:Nat)(p:Nat->Bool)(w:DA)(hn:n<=4194304)(hg:∀i w',i<n->Ext w w'->Gv DM g [ii i,W,Z,c3] w' λr aa=>r=.bool (p i)/\Ext w' aa):
  Gv DM 208 [ii n,.func (.func g) #[] #[W,Z,c3]] w λr w'=>r=ii (bsr p n 0 n:Nat)/\Ext w w':=by
 refine ze Tryz.func208 Tryz.ntmps208 ?_;refine qq (λs:Nat×Nat=>[(1,.func (.func g) #[] #[W,Z,c3]),(5,ii s.1),(6,ii s.2)])
  (λs w'=>s.1<=s.2/\s.2<=n/\(∃f,s.2-s.1<=f/\bsr p f s.1 s.2=bsr p n 0 n)/\Ext w w') (λs=>s.2-s.1) (0,n) fq (by grind [Ext.refl]) ?_
 rintro⟨a,b⟩ w1 ae ⟨h1,h2,⟨f,hf,U⟩,he⟩;dsimp only at h1 h2 hf U|-;(conv=>whnf);refine zC (λ_=>zu ?_) (λ_=>zu ?_)
 ·obtain⟨h,eh⟩:∃h,h=(a+b)/2:=⟨_,rfl⟩
  obtain⟨f',rfl⟩:∃f',f=f'+1:=⟨f-1,by omega⟩
  rw[bsr,Ab Oo,<-eh]at U;rw[<-Int.natCast_add];refine V.Wit.shrN 1 rfl Od ?_;rw[Nat.pow_one,<-eh];refine zu ?_;refine zcv (hg h w1 Oo he) ?_;rintro r w2 ⟨rfl,ad⟩;have he:=he.trans ad;cases H:p h
  ·rw[Aa (by rw[H];decide)]at U;refine zu ?_;refine⟨(h+1,b),fq,(by grind),by omega⟩
  ·rw[Ab H]at U;refine zu ?_;refine⟨(a,h),fq,(by grind),by omega⟩
 grind [qw1]
theorem qtv(b off i lo H Z:Nat)(x:Int)(b4 b5 b7:Nat)(P:oA)(p:LB)(w:DA)(h1:w.cell? ⟨b,off+1,none⟩=some (ii H))(h5:w.cell? ⟨b,off+5,none⟩=some (.slice P p.length Z))(hP:SlAt encB 1 w P p)(hw:H<=23)(hi:lo+i<=4194304)(g4:w.cell? ⟨b4,0,none⟩=some (.pointer (some ⟨b,off,none⟩)))(g5:w.cell? ⟨b5,0,none⟩=some (ii lo))(g7:w.cell? ⟨b7,0,none⟩=some (ii x)):
  Gv DM 209 [ii i,pp b4,pp b5,pp b7] w λr w'=>r=.bool (decide (x<=(numP p H (lo+i):Int)))/\Ext w w':=by
 refine ze Tryz.func209 Tryz.ntmps209 ?_;refine DrawV.free Jk Jk (zw ?_);refine zf ?_ (by intro H hd;(conv=>whnf);refine LoadV.of (Ext.cell (Ext.trans (Ext.drew xr) hd) g4) ?_;(conv=>whnf);exact xq);refine zf ?_ (by intro H hd;(conv=>whnf);refine LoadV.of (Ext.cell (Ext.trans (Ext.drew xr) hd) g5) ?_;(conv=>whnf);exact xq);refine zd ?_;refine zd ?_;apply zsd (ii (numP p H (lo+i)))
 ·intro U hd;(conv=>whnf);rw[show((lo:Int)+(i:Int))=((lo+i:Nat):Int)by omega];refine zcv (qca b off (lo+i) H Z P p U (((Ext.refl w).drew.trans hd).cell h1) (((Ext.refl w).drew.trans hd).cell h5) (hP.ext ((Ext.refl w).drew.trans hd)) hw hi) ?_
  simp_all
 (conv=>whnf);refine zf ?_ (by intro H hd;(conv=>whnf);refine LoadV.of (Ext.cell (Ext.trans (Ext.drew xr) hd) g7) ?_;(conv=>whnf);exact xq);refine zd ?_;refine zd ?_;intro w2 W;(conv=>whnf);exact⟨rfl,(Ext.refl w).drew.trans W⟩
theorem qg8(b off lo hi U cp:Nat)(x:Int)(P:oA)(p:LB)(w:DA)(h1:w.cell? ⟨b,off+1,none⟩=some (ii U))(h5:w.cell? ⟨b,off+5,none⟩=some (.slice P p.length cp))(hP:SlAt encB 1 w P p)(hw:U<=23)(af:lo<=hi)(ag:hi<=4194304):
  Gv DM 128 [.pointer (some ⟨b,off,none⟩),ii lo,ii hi,ii x] w λr w'=>r=ii (lo+bsr (λi=>decide (x<=(numP p U (lo+i):Int))) (hi-lo) 0 (hi-lo):Nat)/\Ext w w':=by
 obtain⟨q,eq⟩:∃q:Nat->Bool,q=λi=>decide (x<=(numP p U (lo+i):Int)):=⟨_,rfl⟩
 rw[<-eq];have hq:=qnp (p:=q) (f:=hi-lo) (a:=0) (b:=hi-lo) (Af _);refine ze Tryz.func128 Tryz.ntmps128 ?_;refine znm (Mem.nil w) λb4 w1 H=>zw ?_;refine znm H λb5 w2 H=>zw ?_;refine znm H λb7 w3 H=>zw ?_;have c7:w3.cell? ⟨b7,0,none⟩=some (ii x):=by rw[qa (H.get mh)];rfl
 have c5:w3.cell? ⟨b5,0,none⟩=some (ii lo):=by rw[qa (H.get (zmc mh))];rfl
 have c4:w3.cell? ⟨b4,0,none⟩=some (.pointer (some ⟨b,off,none⟩)):=by rw[qa (H.get (zmc (zmc mh)))];rfl
 refine DrawV.free Jk Jk (zw ?_);refine zf ?_ (by intro U hd;(conv=>whnf);refine LoadV.of (Ext.cell (Ext.trans (Ext.drew xr) hd) c5) ?_;(conv=>whnf);exact xq);refine zd ?_;refine zf ?_ (by intro U hd;(conv=>whnf);refine LoadV.of (Ext.cell (Ext.trans (Ext.drew xr) hd) c5) ?_;(conv=>whnf);exact xq);refine zd ?_;refine zd ?_;apply zsd (ii (bsr q (hi-lo) 0 (hi-lo):Nat))
 ·intro aa hd;have hx:=(Ext.refl w3).drew.trans hd;have W:=H.ext.trans hx;(conv=>whnf);rw[show((hi:Int)-(lo:Int))=((hi-lo:Nat):Int)by omega];have ad:=qtp 209 (pp b4) (pp b5) (pp b7) (hi-lo) q aa Oo (λi w' ah Z=>by
   rw[eq];exact qtv b off i lo U cp x b4 b5 b7 P p w' ((W.trans Z).cell h1) ((W.trans Z).cell h5) (hP.ext (W.trans Z)) hw Oo ((hx.trans Z).cell c4) ((hx.trans Z).cell c5) ((hx.trans Z).cell c7))
  refine zcv (ad) ?_
  simp_all
 (conv=>whnf);refine zd ?_;refine zd ?_;intro w4 ae;(conv=>whnf);exact⟨Js,H.ext.trans ((Ext.refl w3).drew.trans ae)⟩
theorem qde(b:Nat)(l:LB)(k i:Nat)(w:DA)(h:TreeAt w b l)(hk:k+1<4)(hi:i<=1048576)(H:tVec l (k+1)=true->vM (qf l (k+1))<=vN (qf l (k+1))):
  Gv DM 131 [pp b,ii k,ii i] w λr w'=>r=.tuple #[ii (chB l k i).1,ii (chB l k i).2]/\Ext w w':=by
 obtain⟨P,cp,S,cs,V,hc,hP,hS,hl,hv⟩:=(h.lv (k+1) Oo).h;have hn:=h.n (k+1) hk;refine ze Tryz.func131 Tryz.ntmps131 ?_;refine zv ?_;refine IdxV.at_ (k+1) Oo Oo (zw ?_);refine LoadV.cellsE hc 7 (by rw[show tsz DM 244=8 from by kernel_rfl];show 0+0+(k+1)*8+7=8*(k+1)+7;omega) rfl (zw ?_)
 rcases hv with⟨hx|hx,rfl⟩|⟨_,af,vb,rfl,ad⟩
 ·omega
 ·refine zu ?_
  grind [chB,Ext.refl]
 have aa:=af;simp only[tVec,AF,decide_eq_true_eq]at aa;obtain⟨⟨U,ae⟩,W⟩:=aa;have H:=H af;obtain⟨F,eF⟩:∃F:Nat,F=if 0<i then seB (qf l (k+1)) (i-1)else 0:=⟨_,rfl⟩
 have ah:chB l k i=(F,max F (seB (qf l (k+1)) i)):=by grind [chB]
 rw[ah];have ai:=q51 (B:=qf l (k+1)) (i-1) H;have aj:=q51 (B:=qf l (k+1)) i H;have hF:F<=vN (qf l (k+1)):=by grind
 (conv=>whnf);refine zt ?_;refine zC (λ_=>zw ?_) (λ_=>zw ?_)
 ·refine LoadV.cellsE hc 7 (by rw[show tsz DM 244=8 from by kernel_rfl];show 0+0+(k+1)*8+7=8*(k+1)+7;omega) rfl (zu ?_);rw[show((i:Int)-1)=((i-1:Nat):Int)by omega];refine zcv (qg6 (qf l (k+1)) S cs vb (i-1) w hS hl U (by rw[ae,W];exact ad) H Oo) ?_;rintro r w1 ⟨rfl,Z⟩;refine zu ?_;refine LoadV.cellsE (hc.ext Z) 7 (by rw[show tsz DM 244=8 from by kernel_rfl];show 0+0+(k+1)*8+7=8*(k+1)+7;omega) rfl (zw ?_);refine zcv (qg6 (qf l (k+1)) S cs vb i w1 (hS.ext Z) hl U (by rw[ae,W];exact Z.get ad) H Oo) ?_;rintro r w2 ⟨rfl,ag⟩;refine zu ?_;refine V.Fall.max2 rfl rfl rfl λm hm=>?_;subst hm;(conv=>whnf);refine⟨?_,Z.trans ag⟩
  grind
 ·refine LoadV.cellsE hc 7 (by rw[show tsz DM 244=8 from by kernel_rfl];show 0+0+(k+1)*8+7=8*(k+1)+7;omega) rfl (zw ?_);refine zcv (qg6 (qf l (k+1)) S cs vb i w hS hl U (by rw[ae,W];exact ad) H Oo) ?_;rintro r w2 ⟨rfl,ag⟩;refine zu ?_;refine V.Fall.max2 rfl rfl rfl λm hm=>?_;subst hm;conv=>whnf
  simp_all
open Go.RowKit
namespace V
section
variable {P:DC} {n:Nat} {r:Option Nat}
theorem qaep{row:String}(h:Rows P row args w R):RowsIn (Fr r) 0 P row args w R:=λc cs _=>by
 obtain⟨v,w',hr,s⟩:=h c cs;exact⟨v,w',hr,(stepsIn_wide.2 s:StepsIn (Machine.fenced P Fence.wide) P _ _)⟩
theorem qoo(U:r=none\/∀c,o.op≠.defer c){a:Act}{K W:Act->DI}{Q Q2:Exit->Act->DI}(hQ:∀e a w,Q e a w->e=.normal)(hK:∀a w,K a w->W { a with defers:=a.defers++ds } w)(h:o.wp P a w K Q):o.wpIn (Fr r) 0 P { a with defers:=a.defers++ds } w W Q2:=by
 refine⟨λ_ _=>trivial,?_⟩;have Z:({ a with defers:=a.defers++ds }:Act).eval=a.eval:=by rfl
 have hs:o.semAt (Fr r).round a.eval=execOp a.eval o:=by
  rcases U with rfl|U
  ·rfl
  grind [Oper.semAt_eq]
 rw[Z,hs];unfold Oper.wp at h;have hp:∀v,({ a with defers:=a.defers++ds }:Act).put o.dst v={ a.put o.dst v with defers:=(a.put o.dst v).defers++ds }:=λv=>by cases o.dst<;>rfl
 generalize(execOp a.eval o).run P w=aa at h;cases aa with
 | ok nx w'=>
  cases nx with
  | value v=>show W _ _;rw[hp];exact hK _ _ h
  | skip=>show W _ _;rw[hp];exact hK _ _ h
  | defer d=>
   have h1:=hK _ _ h;show W _ _;cases hd:o.dst with
   | none=>rw[hd]at h1;exact h1
   | some t=>rw[hd]at h1;exact h1
  | enter f args=>
   refine⟨(by grind [Fr]),qdg.2 (Calls.mono h λe ad Z=>?_)⟩;cases e with
   | returned v=>simp_all
   | panicked ch=>grind
   | outgrown=>obtain⟨a',w',hq⟩:=Z;grind
  | row row args=>
   refine⟨(by grind [Fr]),qaep (Rows.mono h λv ad Z=>?_)⟩
   simp_all
  | _=>exact h.elim
 | halt x w'=>
  cases x with
  | panic v=>have:=hQ _ _ _ h;cases this
  | _=>exact h.elim
def q42(ops:List Oper):Bool:=ops.all λo=>match o.op with
 | .defer _=>false
 | _=>true
theorem qyb{ops:List Oper}(h:q42 ops=true)(H:o∈ops):∀c,o.op≠.defer c:=by
 intro c e;have:=Cv.1 h o H
 simp_all
theorem qwr{ops:Array Oper}(W:r=none\/q42 ops.toList=true){ds:DO}{Q Q2:Exit->Act->DI}(Z:∀e a w,Q e a w->e=.normal)(hk:∀a w,Q .normal a w->Q2 .normal { a with defers:=a.defers++ds } w):∀(fuel:Nat) (U:Array Bool) (a:Act) (w:DA),wpAny P .any ops Q fuel U a w->
  wpAnyIn (Fr r) 0 P .any ops Q2 fuel U { a with defers:=a.defers++ds } w
 | 0,_,_,_,h=>⟨h.1,hk _ _ h.2⟩
 | fuel+1,U,a,w,h=>by
  refine⟨λhr=>hk _ _ (h.1 hr),λi hi=>?_⟩;have h1:=h.2 i hi;unfold wpOp at h1;unfold wpOpIn;cases ho:ops[i]? with
  | none=>rw[ho]at h1;exact qwr W Z hk fuel _ _ _ h1
  | some o=>
   rw[ho]at h1;dsimp only at h1|-;have aa:r=none\/∀c,o.op≠.defer c:=W.imp_right λhn=>qyb hn (Array.mem_toList_iff.2 (Df ho))
   split
   ·rename_i hw
    rw[Ab hw]at h1
    rcases h1 with h1|⟨_,a',w',hq⟩
    ·exact qoo aa Z (λa w h=>qwr W Z hk fuel _ a w h) h1
    ·have:=Z _ _ _ hq;cases this
   ·rename_i hw
    rw[Aa hw]at h1;refine⟨λ_ _=>trivial,?_⟩;have hp:({ a with defers:=a.defers++ds }:Act).put o.dst undef={ a.put o.dst undef with defers:=(a.put o.dst undef).defers++ds }:=by cases o.dst<;>rfl
    rw[hp];exact qwr W Z hk fuel _ _ _ h1
theorem DrawW.any(hm:P.follows .mixedOrders=true)(Z:r=none\/q42 ops.toList=true)(h:AnyV P n ops (λU w'=>Q .normal U ds w') ρ w):DrawW P n r id ops Q ρ ds w:=by
 refine⟨λa ha hd=>wpIn_region_any hm ?_⟩;have e:a={ ({ a with defers:=[] }:Act)with defers:=({ a with defers:=[] }:Act).defers++ds }:=by subst hd;rfl
 have h1:=qwr (r:=r) (ds:=ds) (Q2:=qe7 n Q) Z (by grind) (λW w' h=>?_) _ _ _ _ (h.h { a with defers:=[] } ha)
 ·rw[<-e]at h1;exact h1
 ·obtain⟨_,U,hs,hq⟩:=h;have aa:W.defers++ds=ds:=by rw[hs.defers];rfl
  refine⟨U,?_,?_⟩
  ·show St n U { W with defers:=[] };have:({ W with defers:=[] }:Act)=W:=by have:=hs.defers;cases W;grind
   grind
  grind
structure BeginA(J:DJ->DI)(l:Nat)(ob ob':Obj)(w:DA)(ds:DO)(K:DI):Prop where
 d:ds=[]
 h:∃Y,J ((l,ob)::Y) w/\∀w2,J ((l,ob')::Y) w2->K w2
theorem q5k{f:Operand}{ps:Array Tmp}{Φ:DI}{xs:List DK}(hf:ev ρ f=.func (.func gf) #[] lb.toArray)(he:qdk P gf=true)(al:SeqC P gf lb xs Φ)(av:ps.toList.all (Nat.blt · n)=true)(aw:∀x∈xs,x.length=ps.size)(J:Nat->DJ->DI)(Jx:Code->Nat->DJ->DI)(hJ:∀k,Carr (J k))(U:∀c k,Carr (Jx c k))(hw:∀k X w,J k X w->Φ w)(h0:J 0 [] w)(ag:∀l D ob ah k x X w1,xs[k]?=some x->J k ((l,ob)::(D,.deferred (some []))::X) w1->
   qfd P n (some l) assign (q9c λam ax ay=>BeginA (J k) l ob ah ay ax
    (λw2=>qfd P n (some l) body (qyr (J (k+1) ((l,ah)::(D,.deferred (some []))::X)) (λc=>Jx c k ((l,ah)::(D,.deferred (some []))::X))) am [] w2)) (qtj ps.toList x ρ) [] w1)(ai:∀D w',J xs.length [(D,.deferred (some []))] w'->Q .normal ρ ({ target:=.collected D,args:=#[] }::ds) w')(aj:∀D c k w',k<xs.length->Jx c k [(D,.deferred (some []))] w'->qag8 c Q ρ ({ target:=.collected D,args:=#[] }::ds) w'):RangeW P n none f ps assign body Q ρ ds w:=by
 refine⟨λa ha hd=>?_⟩;subst hd;refine wpIn_rangeFunc ?_;intro fn az;obtain⟨Z,H⟩:∃Z:LoopState->Option Code->Loop,Z=λst pe=>{ state:=st,pending:=pe,fn,tmps:=a.tmps,params:=ps,assign,body,defers:=w.heap.size }:=⟨_,rfl⟩
 obtain⟨W1,aq⟩:∃W1,(w.alloc (.deferred (some []))).alloc (.loop (Z .ready none))=W1:=⟨_,rfl⟩
 have hD:=(hJ 0).new (.deferred (some [])) h0;have hL:=(hJ 0).new (.loop (Z .ready none)) hD;rw[aq,World.size_alloc]at hL;refine⟨w.heap.size+1,[{ target:=.collected w.heap.size,args:=#[] }],W1,{ target:=.fn (.func gf) lb.toArray,args:=#[.func (.yield (w.heap.size+1)) #[] #[]] },W1,gf,
  #[.func (.yield (w.heap.size+1)) #[] #[]]++lb.toArray,W1,?_,?_,λ_ _=>trivial,?_,(by grind [Fr]),?_⟩
 ·rw[<-aq,H];exact run_enterLoop_outer _ _ _ _ _
 ·have:a.eval f=.func (.func gf) #[] lb.toArray:=by rw[ha.eval,hf]
  simp only[resolve,this];simp[go_sem]
 ·grind [invoke,qc6]
 ·have ea:#[Value.func (.yield (w.heap.size+1)) #[] #[]]++lb.toArray=(Value.func (.yield (w.heap.size+1)) #[] #[]::lb).toArray:=by simp
  rw[ea];refine qdg.2 ((al (w.heap.size+1) (λk X W=>J k (X++[(w.heap.size+1,.loop (Z .ready none)),(w.heap.size,.deferred (some []))]) W)
   (λk X W=>∃c,Jx c k (X++[(w.heap.size+1,.loop (Z .done (some c))),(w.heap.size,.deferred (some []))]) W) W1
   (λk=>(hJ k).tail _) (λk=>Carr.any λc=>(U c k).tail _) (by grind) hL ?_).2.mono ?_)
  ·intro k x X W hx hk;replace hk:=(hJ k).perm hk Ap;have hl:=(hJ k).get hk mh;have hy:=run_yield (P:=P) (args:=x.toArray) hl (by rw[H];simpa using aw x (zmg hx));rw[H]at hy;refine⟨⟨fn,_,assign,body,hy,roundIn_of_wpIn az ?_⟩⟩;have h1:=ag (w.heap.size+1) w.heap.size _ (.loop { Z .ready none with state:=.busy }) k x X W hx hk;have hz:(ps.zip x.toArray).foldl (λt (p,v)=>t.setIfInBounds p v) a.tmps=(ps.toList.zip x).foldl (λt (p,v)=>t.setIfInBounds p v) a.tmps:=by
    rw[<-Array.foldl_toList];simp
   have a0:Sw n (qtj ps.toList x ρ) { tmps:=(ps.zip x.toArray).foldl (λt (p,v)=>t.setIfInBounds p v) a.tmps,defers:=[] }:=by
    rw[hz];exact qyz _ _ _ _ av ha
   refine Go.wpIn_mono (F:=Fr (some (w.heap.size+1))) (qf4 assign _ _ _ _ h1 _ a0 rfl) λe a1 w1 hq=>?_;obtain⟨am,ar,hq⟩:=hq;cases e with
   | normal=>
    obtain⟨a3,Y,hY,ak⟩:=hq;have ak:=ak _ ((hJ k).set (.loop { Z .ready none with state:=.busy }) hY);refine⟨_,run_beginRound ((hJ k).get hY mh) (by rw[H]),?_⟩;refine Go.wpIn_mono (F:=Fr (some (w.heap.size+1))) (qf4 body _ _ _ _ ak _ ar a3) λe a2 w2 hq=>?_;obtain⟨a5,a4,hq⟩:=hq;cases e with
    | normal=>
     refine⟨_,_,run_endRound none ((hJ _).get hq mh),_,rfl,.inl ⟨rfl,?_⟩⟩;have:=(hJ (k+1)).perm ((hJ (k+1)).set (.loop (Z .ready none)) hq) (Ap (l₁:=[_,_]));rw[H]at this|-;exact this
    | ret=>
     refine⟨_,_,run_endRound (some .ret) ((U _ _).get hq mh),_,rfl,.inr ⟨rfl,.ret,?_⟩⟩;have:=(U _ k).perm ((U _ k).set (.loop (Z .done (some .ret))) hq) (Ap (l₁:=[_,_]));rw[H]at this|-;exact this
    | exit id=>
     refine⟨_,_,run_endRound (some (.exit id)) ((U _ _).get hq mh),_,rfl,.inr ⟨rfl,.exit id,?_⟩⟩;have:=(U _ k).perm ((U _ k).set (.loop (Z .done (some (.exit id)))) hq) (Ap (l₁:=[_,_]));rw[H]at this|-;exact this
    | goto t=>
     refine⟨_,_,run_endRound (some (.goto t)) ((U _ _).get hq mh),_,rfl,.inr ⟨rfl,.goto t,?_⟩⟩;have:=(U _ k).perm ((U _ k).set (.loop (Z .done (some (.goto t)))) hq) (Ap (l₁:=[_,_]));rw[H]at this|-;exact this
    | panic ch=>exact hq.elim
    | outgrown=>exact hq.elim
   | ret=>exact hq.elim
   | exit id=>exact hq.elim
   | goto t=>exact hq.elim
   | panic ch=>exact hq.elim
   | outgrown=>exact hq.elim
  ·rintro e W2 ⟨v,rfl,h|⟨k,hk,c,h⟩⟩
   ·have hl:=(hJ _).get h mh;have:=run_endLoop (P:=P) hl (by rw[H];simp);rw[H]at this;exact⟨none,_,this,ρ,ha,ai _ _ ((hJ _).drop ((hJ _).set _ h))⟩
   ·have hl:=(U _ _).get h mh;have:=run_endLoop (P:=P) hl (by rw[H];simp);rw[H]at this;refine⟨some c,_,this,?_⟩;have hs:=aj _ c k _ hk ((U _ _).drop ((U _ _).set (.loop { Z .done (some c)with state:=.exhausted }) h));rw[H]at hs;cases c with
    | ret=>exact Go.wpIn_ret ⟨ρ,ha,hs⟩
    | exit id=>exact Go.wpIn_exit ⟨ρ,ha,hs⟩
    | goto t=>exact Go.wpIn_goto ⟨ρ,ha,hs⟩
    | _=>exact hs.elim
def q4z(D:Nat):Deferred:={ target:=.collected D,args:=#[] }
def qadn(D:Nat):Nat×Obj:=(D,.deferred (some []))
theorem qjo{U:Func}{R:DG}{ρ:DH}{J:DJ->DI}(W:Carr J)(hk:∀w',J [] w'->resV U.results ρ w' U R P n):
  ∀(H:DL) (w:DA),J (H.map qadn) w->qnz P n U R ρ (H.map q4z) w
 | [],w,h=>hk w h
 | D::H,w,h=>by
  show LeaveV P n U R ρ (q4z D::H.map q4z) w;refine LeaveV.mark (W.get h mh) λw' hw=>?_;subst hw;exact qjo W hk H _ (W.drop (W.set _ h))
theorem Carr.setM(h:Carr J){A B:DJ}{o:Obj}(H:Obj)(k:J (A++(b,o)::B) w):J (A++(b,H)::B) (setO w b H):=
 h.perm (h.set H (h.perm k Bb)) Bb.symm
theorem LeaveV.marks{H:Func}(U:Carr J)(hk:∀w',J [] w'->resV H.results ρ w' H R P n){D:Nat}{Ds:DL}(h:J ((D::Ds).map qadn) w):
  LeaveV P n H R ρ (q4z D::Ds.map q4z) w:=qjo U hk (D::Ds) w h
theorem Carr.dropM(h:Carr J){A B:DJ}{x:Nat×Obj}(k:J (A++x::B) w):J (A++B) w:=h.drop (h.perm k Bb)
theorem qti{v:DF}{t:DD}(h:w.heap[b]?=some (.cells cs t fr)):w.setCell ⟨b,off,none⟩ v=setO w b (.cells (cs.setIfInBounds off v) t fr):=by
 unfold World.setCell setO
 congr 1
 grind
theorem StoreV.carr(H:Carr J){A B:DJ}{t:DD}{v:DF}{K:DI}(h:J (A++(b,.cells cs t)::B) w)(W:off<cs.size)(h1:qc8 v=true)(hk:∀w',J (A++(b,.cells (cs.setIfInBounds off v) t)::B) w'->K w'):StoreV w b off v K:=by
 have U:=H.get h (Ac _ mh);refine StoreV.own U W h1 λw' hw=>hk w' ?_
 rw[hw,qti U];exact H.setM _ h
theorem NewV.carr(H:Carr J){o:Obj}{K:Nat->DI}(h:J X w)(hk:∀b w',J ((b,o)::X) w'->K b w'):NewV w o K:=
 ⟨λb w' U hw=>by subst U hw;exact hk _ _ (H.new o h)⟩
theorem LoadV.carr(H:Carr J){t:DD}{v:DF}{K:DF->Prop}(h:J X w)(U:(b,Obj.cells cs t fr)∈X)(W:cs[off]?=some v)(hk:K v):LoadV w b off K:=
 LoadV.own (H.get h U) W hk
end
end V
namespace V
section
variable {P:DC} {n:Nat} {r:Option Nat}
def qsz(ops:List Oper):Nat->DL->Bool
 | 0,_=>true
 | j+1,S=>S.contains j&&qsz ops j ((match getL ops j with|some o=>qa6 o|none=>[])++S)
def qae8(m:Nat)(ops:List Oper):Bool:=
 Nat.blt m ops.length&&qsz ops m (match getL ops m with|some o=>qa6 o|none=>[])&&(List.range ops.length).all λj=>
  match getL ops j with
  | none=>true
  | some o=>(qa6 o).all (λk=>Nat.blt k j)&&(Nat.ble j m||(qa6 o).contains (j-1))&&(Nat.ble m j||(match o.guard with|none=>true|some (g,_)=>Nat.blt g m))
structure TailP(m:Nat)(ops:Array Oper):Prop where
 msz:m<ops.size
 reach:∀o,ops[m]?=some o->qsz ops.toList m (qa6 o)=true
 lt:∀(j:Nat) (o:Oper),ops[j]?=some o->∀k∈qa6 o,k<j
 next:∀(j:Nat) (o:Oper),ops[j]?=some o->m<j->j-1∈qa6 o
 guard:∀(j:Nat) (o:Oper) (g:Nat) (b:Bool),ops[j]?=some o->j<m->o.guard=some (g,b)->g<m
theorem q97(h:qae8 m ops.toList=true):TailP m ops:=by
 simp only[qae8,AF]at h;obtain⟨⟨h1,h2⟩,h3⟩:=h;have Z:m<ops.size:=by simpa using h1
 have U:∀(j:Nat) (o:Oper),ops[j]?=some o->(qa6 o).all (λk=>Nat.blt k j)=true/\(Nat.ble j m||(qa6 o).contains (j-1))=true/\(Nat.ble m j||(match o.guard with|none=>true|some (g,_)=>Nat.blt g m))=true:=λj o H=>by
  have W:=(BQ.1 H).1;have:=Cv.1 h3 j (BB.2 (by simpa using W))
  grind [qa5]
 refine⟨Z,λo H=>?_,λj o H k hk=>?_,λj o H W=>?_,λj o g b H W hg=>?_⟩
 ·grind [qa5]
 ·simp_all
 ·have:=(U j o H).2.1;rw[Bool.or_eq_true]at this
  rcases this with h|h
  ·have:=Ck h;omega
  simp_all
 ·have:=(U j o H).2.2;rw[hg,Bool.or_eq_true]at this
  rcases this with h|h
  ·have:=Ck h;omega
  simp_all
theorem qyn{ops:Array Oper}{p:Nat->Prop}(H:∀(j:Nat) (o:Oper),ops[j]?=some o->p j->∀k∈qa6 o,p k):∀(j:Nat) (S:DL),qsz ops.toList j S=true->(∀k∈S,p k)->∀k,k<j->p k
 | 0,_,_,_,k,hk=>by omega
 | j+1,S,h,U,k,hk=>by
  rw[qsz,AF]at h;have W:p j:=(by grind)
  by_cases e:k=j
  ·simp_all
  ·refine qyn H j _ h.2 (λi hi=>?_) k Oo
   grind [qa5]
theorem runK{K:DH->DO->DI}{a:Act}(hi:ops[i]?=some o)(Z:Region.wanted o (yielded ops a.tmps)=true)(ha:Sw n ρ a)(hd:a.defers=ds)(h:runW P n r o K ρ ds w)(hk:∀U H W w',Sw n U W->W.defers=H->K U H w'->K' W w'):wpOpIn (Fr r) 0 P ops Q' i K' a w:=by
 unfold wpOpIn;rw[hi];dsimp only;rw[Ab Z];refine qabj ha hd h λv H w' hp=>?_;obtain⟨U,h1,h2,h3⟩:=ha.put H hp
 grind
theorem q57{K:DH->DO->DI}{a:Act}(hi:ops[i]?=some o)(hg:Region.wanted o (yielded ops a.tmps)=false)(ha:Sw n ρ a)(hd:a.defers=ds)(h:qvx n o K ρ ds w)(hk:∀H U Z w',Sw n H Z->Z.defers=U->K H U w'->K' Z w'):wpOpIn (Fr r) 0 P ops Q' i K' a w:=by
 unfold wpOpIn;rw[hi];dsimp only;rw[Aa (by rw[hg];simp)];refine⟨λ_ _=>trivial,?_⟩;obtain⟨H,h1,h2,h3⟩:=ha.put ds h;have e:({ a with defers:=ds }:Act)=a:=by subst hd;rfl
 grind
theorem regK{ops:List Oper}{Q:DH->DO->DI}{H:List Oper}(hi:ops.toArray[i]?=some o){a:Act}(ha:Sw n ρ a)(hd:a.defers=ds)(h:regW P n r ops Q (o::H) ρ ds w)(ag:∀U W Z w',Sw n U Z->Z.defers=W->regW P n r ops Q H U W w'->K' Z w'):wpOpIn (Fr r) 0 P ops.toArray Q' i K' a w:=by
 unfold regW at h
 split at h
 ·grind [runK,Region.wanted]
 ·rename_i j af hg
  split at h
  ·grind [qa5,q57,Region.wanted,yielded]
  ·rename_i oj hj
   split at h
   ·grind [q57,qa5,Region.wanted,yielded]
   ·rename_i d aa
    cases hn:Nat.blt d n<;>rw[hn]at h
    ·exact h.elim
    ·have ad:d<n:=by simpa using hn
     have hy:=ha.yield hj aa ad;simp only[cond_true]at h
     split at h
     ·rename_i b hb
      rw[hb]at hy;cases b
      ·have h:=h.f rfl;have ae:Sw n _ a:=St.same ha hb
       grind [runK,Region.wanted,q57]
      ·have h:=h.t rfl;have ae:Sw n _ a:=St.same ha hb
       grind [q57,Region.wanted,runK]
     grind [q57,Region.wanted]
def qis(i c:Nat):Array Bool:=(List.replicate i true++List.replicate c false).toArray
theorem qo2(d:Bool)(h:j<i):(qis i c).getD j d=true:=by
 simp_all[qis,AS]
theorem q8i(h:i<=j):(qis i c).getD j false=false:=by
 rw[qis,BP,An,AV (by simpa using h),List.getElem?_replicate]
 grind
theorem q8h(h:i<=j)(h2:j<i+c):(qis i c).getD j true=false:=by
 simp_all[qis]
theorem q2q(i c:Nat):(qis i (c+1)).setIfInBounds i true=qis (i+1) c:=by
 rw[<-Bh,BU];show(List.replicate i true++List.replicate (c+1) false).set i true=List.replicate (i+1) true++List.replicate c false
 grind [List.replicate_succ']
theorem qs8{m:Nat}{ops:Array Oper}(U:TailP m ops){Q:QW}:∀(c i:Nat) (ρ:DH) (ds:DO) (a:Act) (w:DA),m<=i->i+c=ops.size->Sw n ρ a->a.defers=ds->regW P n r ops.toList (Q .normal) (ops.toList.drop i) ρ ds w->
  wpAnyIn (Fr r) 0 P .any ops (qe7 n Q) c (qis i c) a w
 | 0,i,ρ,ds,a,w,W,hi,ha,hd,h=>by
  refine⟨qs1 λk hk=>qo2 _ Oo,ρ,ha,?_⟩;rw[List.drop_of_length_le Ys]at h;subst hd;exact h
 | c+1,i,ρ,ds,a,w,W,hi,ha,hd,h=>by
  have af:i<ops.size:=by omega
  have H:ops[i]?=some ops[i]:=(by simp)
  have ag:i∈Region.ready .any ops (qis i (c+1)):=by
   refine mem_ready.2 ⟨(by grind [q8h]),ops[i],H,λe he Z=>qo2 _ ?_⟩;rw[qel]at Z;exact U.lt i _ H _ (qcs.2 ⟨e,by simpa using he,Z,rfl⟩)
  refine⟨(by grind),λj hj=>?_⟩;obtain⟨h1,o,ho,h2⟩:=mem_ready.1 hj;have ah:=(BQ.1 ho).1;have e:j=i:=by
   rcases AN j i with g|g
   ·rw[qo2 _ g]at h1;cases h1
   ·rcases CV g with g|g
    ·exact g.symm
    ·exfalso
     obtain⟨e,he,Z,ai⟩:=qcs.1 (U.next j o ho Oo)
     grind [qel,q8i]
  subst e;rw[q2q];have aa:ops.toList.drop j=ops[j]::ops.toList.drop (j+1):=by
   grind [List.drop_eq_getElem_cons]
  rw[aa]at h;have:=regK (ops:=ops.toList) (i:=j) (Q':=qe7 n Q) (K':=wpAnyIn (Fr r) 0 P .any ops (qe7 n Q) c (qis (j+1) c)) Oo ha hd h λad ae a' w' h1 h2 h3=>qs8 U c (j+1) ad ae a' w' Oo Oo h1 h2 h3
  omega
theorem q7m(hT:TailP m ops)(a3:r=none\/q42 (ops.toList.take m)=true):∀(fuel:Nat) (L:Array Bool) (a:Act) (w:DA),L.size=m->L.toList.count false=fuel->
  (∀(j:Nat) (o:Oper),ops[j]?=some o->L.getD j false=true->∀k∈qa6 o,L.getD k false=true)->
  wpAny P .any (ops.toList.take m).toArray (λe a' w'=>e=.normal/\∃U,St n U a'/\regW P n r ops.toList (Q .normal) (ops.toList.drop m) U ds w') fuel L a w->
  wpAnyIn (Fr r) 0 P .any ops (qe7 n Q) (fuel+(ops.size-m)) (L++Array.replicate (ops.size-m) false) { a with defers:=a.defers++ds } w:=by
 intro fuel;have a4:=hT.msz;have af:∀j:Nat,j<m->(ops.toList.take m).toArray[j]?=ops[j]?:=(by grind)
 have W:∀(L:Array Bool),L.size=m->∀(j:Nat) (d:Bool),j<m->(L++Array.replicate (ops.size-m) false).getD j d=L.getD j d:=λL hL j d hj=>by
  simp_all[Array.getElem?_append_left]
 have aq:∀(L:Array Bool),L.size=m->∀j:Nat,m<=j->(L++Array.replicate (ops.size-m) false).getD j false=false:=λL hL j hj=>by
  rw[BP,Array.getElem?_append_right Oo,Array.getElem?_replicate]
  grind
 have ah:∀(L:Array Bool),L.size=m->L.toList.count false=0->L=Array.replicate m true:=(by grind [Array.getElem_mem])
 have ar:∀(L:Array Bool) (a:Act) (w:DA),L.size=m->L.toList.count false=0->(∃U,St n U a/\regW P n r ops.toList (Q .normal) (ops.toList.drop m) U ds w)->
   wpAnyIn (Fr r) 0 P .any ops (qe7 n Q) (0+(ops.size-m)) (L++Array.replicate (ops.size-m) false) { a with defers:=a.defers++ds } w:=λL a w hL h0 ⟨U,h1,h2⟩=>by
  rw[ah L hL h0,As];have e:Array.replicate m true++Array.replicate (ops.size-m) false=qis m (ops.size-m):=by
   simp[qis]
  rw[e];refine qs8 hT (ops.size-m) m U ds _ w Oo Oo ?_ ?_ h2
  ·show St n U { a with defers:=[] };have:({ a with defers:=[] }:Act)=a:=by have:=h1.defers;cases a;cases this;rfl
   simp_all
  ·show a.defers++ds=ds;rw[h1.defers];rfl
 induction fuel with
 | zero=>
  intro L a w hL h0 ai h;exact ar L a w hL h0 h.2.2
 | succ fuel ih=>
  intro L a w hL h0 ai h;have au:∀i,i∈Region.ready .any ops (L++Array.replicate (ops.size-m) false)↔i∈Region.ready .any (ops.toList.take m).toArray L:=by
   intro i
   constructor
   ·intro hi;obtain⟨g1,o,ho,g2⟩:=mem_ready.1 hi;have aa:i<m:=by
     refine Nat.lt_of_not_le λg=>?_;have aj:∀k∈qa6 o,(L++Array.replicate (ops.size-m) false).getD k false=true:=λk hk=>by
      obtain⟨e,he,hb,ak⟩:=qcs.1 hk
      grind [qel]
     rcases CV g with g|g
     ·subst g;have Z:=qyn (ops:=ops) (p:=λk=>L.getD k false=true) ai m _ (hT.reach o ho) λk hk=>by
       have:=aj k hk
       rwa[W L hL k false (by grind)]at this
      have hz:L.toList.count false=0:=by
       rw[List.count_eq_zero];intro ad;obtain⟨k,hk,e⟩:=BN.1 ad;have al:k<L.size:=by omega
       have:=Z k Oo;simp[al]at this e
       grind
      omega
     ·have:=aj _ (hT.next i o ho g)
      grind
    refine mem_ready.2 ⟨by simp_all,o,by simp_all,λe he hb=>?_⟩;have h1:=g2 e he hb
    rwa[W L hL _ _ (by grind)]at h1
   ·intro hi;obtain⟨g1,o,ho,g2⟩:=mem_ready.1 hi;have aa:i<m:=by
     grind
    rw[af i aa]at ho;refine mem_ready.2 ⟨by simp_all,o,ho,λe he hb=>?_⟩;rw[W L hL _ _ (by grind)]
    simp_all
  have a5:∃i,i∈Region.ready .any ops (L++Array.replicate (ops.size-m) false):=by
   have ad:false∈L.toList:=(by grind)
   obtain⟨k,hk,e⟩:=BN.1 ad;have al:k<L.size:=by omega
   have hex:∃k,k<m/\L.getD k false=false:=⟨k,by omega,by simp_all⟩
   have av:∀k,k<m->L.getD k false=false->∃i,i∈Region.ready .any ops (L++Array.replicate (ops.size-m) false):=by
    intro k
    induction k using Nat.strongRecOn with
    | _ k a6=>
     intro a7 a8;have ho:ops[k]?=some ops[k]:=(by simp)
     by_cases Z:∀p∈qa6 ops[k],L.getD p false=true
     ·refine⟨k,mem_ready.2 ⟨?_,ops[k],ho,λe he hb=>?_⟩⟩
      ·simp_all
      ·have hp:e.on∈qa6 ops[k]:=qcs.2 ⟨e,by simpa using he,by rw[<-qel];exact hb,rfl⟩;rw[W L hL _ _ (by grind)];exact Z _ hp
     ·obtain⟨p,hp⟩:=Classical.not_forall.1 Z;obtain⟨aw,a9⟩:=Classical.not_imp.1 hp;have:=hT.lt k _ ho p aw
      grind
   grind
  rw[show fuel+1+(ops.size-m)=(fuel+(ops.size-m))+1 by omega];refine⟨(by grind),λi hi=>?_⟩;have am:=(au i).1 hi;obtain⟨g1,o,ho,g2⟩:=mem_ready.1 am;have aa:i<m:=by
   grind
  have ae:=ho;rw[af i aa]at ae;have h1:=h.2 i am;have ax:(L++Array.replicate (ops.size-m) false).setIfInBounds i true=L.setIfInBounds i true++Array.replicate (ops.size-m) false:=by
   rw[<-Bh];simp only[BU,Array.toList_append];rw[List.set_append_left _ _ (by simpa[hL]using aa)]
  have ay:L.getD i true=false:=g1;have a2:=V.countP_set L i ay;have az:∀a' w',wpAny P .any (ops.toList.take m).toArray (λe a' w'=>e=.normal/\∃U,St n U a'/\regW P n r ops.toList (Q .normal) (ops.toList.drop m) U ds w') fuel (L.setIfInBounds i true) a' w'->
    wpAnyIn (Fr r) 0 P .any ops (qe7 n Q) (fuel+(ops.size-m)) ((L++Array.replicate (ops.size-m) false).setIfInBounds i true) { a' with defers:=a'.defers++ds } w':=λa' w' hw=>by
   rw[ax];refine ih _ a' w' (by simp[hL]) Oo (λj oj an a0 k hk=>?_) hw
   by_cases ao:i=j
   ·subst ao;rw[ae]at an;cases an;obtain⟨e,he,hb,ak⟩:=qcs.1 hk;have:=g2 e (by simpa using he) (by rw[qel];exact hb);rw[ak]at this;exact getD_set_true this
   ·rw[getD_set_ne false ao]at a0
    grind [getD_set_true]
  have ag:∀tm,Region.wanted o (yielded ops tm)=Region.wanted o (yielded (ops.toList.take m).toArray tm):=λtm=>by
   cases hg:o.guard with
   | none=>simp[Region.wanted,hg]
   | some gb=>
    obtain⟨g,b⟩:=gb;have:=hT.guard i o g b ae aa hg;have e:yielded ops tm g=yielded (ops.toList.take m).toArray tm g:=by
     grind [yielded]
    simp only[Region.wanted,hg,e]
  have a1:r=none\/∀c,o.op≠.defer c:=(by grind [qyb])
  unfold wpOp at h1;unfold wpOpIn;rw[ho]at h1;rw[ae];dsimp only at h1|-;rw[ag]
  split
  ·rename_i hw
   rw[Ab hw]at h1
   rcases h1 with h1|⟨_,a',w',hq⟩
   ·exact qoo a1 (λ_ _ _ h=>h.1) az h1
   grind
  ·rename_i hw
   rw[Aa hw]at h1;refine⟨λ_ _=>trivial,?_⟩;have hp:({ a with defers:=a.defers++ds }:Act).put o.dst undef={ a.put o.dst undef with defers:=(a.put o.dst undef).defers++ds }:=by cases o.dst<;>rfl
   grind
theorem DrawW.tail(m:Nat)(hm:P.follows .mixedOrders=true)(hB:qae8 m ops.toList=true)(U:r=none\/q42 (ops.toList.take m)=true)(h:AnyV P n (ops.toList.take m).toArray (λW w'=>regW P n r ops.toList (Q .normal) (ops.toList.drop m) W ds w') ρ w):DrawW P n r id ops Q ρ ds w:=by
 refine⟨λa ha hd=>wpIn_region_any hm ?_⟩;have hT:=q97 hB;have Z:=hT.msz;have e:a={ ({ a with defers:=[] }:Act)with defers:=({ a with defers:=[] }:Act).defers++ds }:=by subst hd;rfl
 have aa:(ops.toList.take m).toArray.size=m:=by simp;omega
 have h0:=h.h { a with defers:=[] } ha;rw[aa]at h0;have h1:=q7m (r:=r) (Q:=Q) hT U m (Array.replicate m false) { a with defers:=[] } w.drew Js Js (λj o _ hl=>by rw[qff]at hl;cases hl) h0;rw[<-e]at h1;have e2:m+(ops.size-m)=ops.size:=by omega
 have e3:Array.replicate m false++Array.replicate (ops.size-m) false=Array.replicate ops.size false:=by
  rw[<-Bh];simp[Nat.add_sub_cancel' (Nat.le_of_lt Z)]
 rw[e2,e3]at h1;exact h1
end
end V
def wkC(tb y:Nat)(P:Nat->Int)(s:WS):DK:=[pp tb,ii (P 0),ii (P 1),ii (P 2),ii (P 3),ii (s.1 0),ii (s.1 1),ii (s.1 2),ii (s.1 3),ii (s.2 0),ii (s.2 1),ii (s.2 2),ii (s.2 3),.func (.yield y) #[] #[]]
def wkO(tb y:Nat)(P:Nat->Int)(s:WS):Obj:=.cells (wkC tb y P s).toArray 347
def mAgg(q:Nat->Nat):DF:=.agg #[ii (q 0),ii (q 1),ii (q 2),ii (q 3)]
def mRow(r:Nat×(Nat->Nat)):DK:=[ii r.1,mAgg r.2]
section
variable {tb y:Nat} {P:Nat->Int} {s:WS} {k:Nat}
theorem qahp(hk:k<4):(wkC tb y P s).toArray[1+k]?=some (ii (P k)):=by
 match k,hk with
 | 0,_=>rfl
 | 1,_=>rfl
 | 2,_=>rfl
 | 3,_=>rfl
theorem qafh(hk:k<4):(wkC tb y P s).toArray[5+k]?=some (ii (s.1 k)):=by
 match k,hk with
 | 0,_=>rfl
 | 1,_=>rfl
 | 2,_=>rfl
 | 3,_=>rfl
theorem qafi(hk:k<4)(v:Nat):(wkC tb y P s).toArray.setIfInBounds (5+k) (ii v)=(wkC tb y P (updN s.1 k v,s.2)).toArray:=by
 match k,hk with
 | 0,_=>rfl
 | 1,_=>rfl
 | 2,_=>rfl
 | 3,_=>rfl
theorem qafj(hk:k<4)(v:Nat):(wkC tb y P s).toArray.setIfInBounds (9+k) (ii v)=(wkC tb y P (s.1,updN s.2 k v)).toArray:=by
 match k,hk with
 | 0,_=>rfl
 | 1,_=>rfl
 | 2,_=>rfl
 | 3,_=>rfl
end
theorem V.LoadA.part{H:Nat}{t:DD}{K:DK->Prop}(h:w.heap[b]?=some (.cells cs t fr))(U:vs.length=H)(W:∀i,i<H->cs[off+i]?=vs[i]?)(hk:K vs):LoadA w b off H K:=
 ⟨vs,U,λj Z=>by rw[qa h];exact W j Z,hk⟩
def RowsAt(xs:List DK)(j:Nat)(R:List (Nat×(Nat->Nat))):Prop:=∀t row,R[t]?=some row->xs[j+t]?=some (mRow row)
theorem RowsAt.left{xs:List DK}{R S:List (Nat×(Nat->Nat))}(h:RowsAt xs j (R++S)):RowsAt xs j R:=λt row ht=>h t row (by rw[AS (Ae.1 ht).1];exact ht)
theorem RowsAt.right{xs:List DK}{R S:List (Nat×(Nat->Nat))}(h:RowsAt xs j (R++S)):RowsAt xs (j+R.length) S:=λt row ht=>by
 rw[Cb];exact h _ row (by rw[AV Oo,BE];exact ht)
def PastOk(s:WS):Prop:=∀k,k<4->s.1 k<=1048576
theorem PastOk.upd{s:WS}(h:PastOk s){v:Nat}(H:v<=1048576):PastOk (updN s.1 k v,s.2):=λi hi=>by
 show updN s.1 k v i<=_;unfold updN
 split
 ·exact H
 ·exact h i hi
theorem qxs{f:Nat->WS->WR}(H:∀i s,PastOk s->PastOk (f i s).2):∀m i s,PastOk s->PastOk (goL f m i s).2
 | 0,_,_,h=>h
 | m+1,i,s,h=>qxs H m (i+1) _ (H i s h)
theorem qx6{T:LvD}(hN:∀k,k<4->T.N k<=1048576){P:Nat->Int}{f:Nat->WS->WR}(hk:k<4)(H:∀i s,PastOk s->PastOk (f i s).2){s:WS}(h:PastOk s):PastOk (lvS T P f k lo hi s).2:=by
 rw[lvS]
 split
 ·exact h
 ·refine qxs (f:=λi s=>f i (s.1,updN s.2 k (T.nu k i))) (λi s U=>H i _ U) _ _ _ (h.upd ?_);have:=hN k hk;omega
theorem qpw{T:LvD}(hN:∀k,k<4->T.N k<=1048576){P:Nat->Int}:∀{d k lo hi:Nat} {s:WS},k+d=3->PastOk s->PastOk (lvG T P d k lo hi s).2
 | 0,k,lo,hi,s,hk,h=>qx6 hN Oo (λ_ _ h=>h) h
 | d+1,k,lo,hi,s,hk,h=>qx6 hN Oo (λi s h=>qpw hN Oo h) h
section
variable (tb wb y:Nat) (l:LB) (P:Nat->Int) (xs:List DK) (I Ix:Nat->DJ->DI)
theorem q4n(cI:∀k,Carr (I k))(_:∀k,Carr (Ix k))(ae:∀k X w,I k X w->TreeAt w tb l)(aw:∀k,k<3->tVec l (k+1)=true->vM (qf l (k+1))<=vN (qf l (k+1)))(hP:∀k,k<4->InR .i64 (P k))(hy:∀k x X w,xs[k]?=some x->I k X w->YieldV DM y x w λv w'=>(v=.bool true/\I (k+1) X w')\/(v=.bool false/\Ix k X w')):
  ∀(d k lo hi j:Nat) (s:WS) (X:DJ) (w:DA),k+d=3->lo<=1048576->hi<=1048576->PastOk s->RowsAt xs j (lvG (treD l) P d k lo hi s).1->I j ((wb,wkO tb y P s)::X) w->
  Gv DM 207 [pp wb,ii k,ii lo,ii hi] w λr w'=>
   (r=.bool true/\I (j+(lvG (treD l) P d k lo hi s).1.length) ((wb,wkO tb y P (lvG (treD l) P d k lo hi s).2)::X) w')\/
   (r=.bool false/\∃j' s',j'<j+(lvG (treD l) P d k lo hi s).1.length/\Ix j' ((wb,wkO tb y P s')::X) w'):=by
 have t1:tsz DM 3=1:=by kernel_rfl
 have t8:tsz DM 244=8:=by kernel_rfl
 intro d
 induction d using Nat.strongRecOn with
 | _ d ih=>
 intro k lo hi j s X w bm bn bo ax hR H;obtain⟨F,eF,ay,az⟩:∃F:Nat->WS->WR,lvG (treD l) P d k lo hi s=lvS (treD l) P F k lo hi s/\(d=0->∀i s,F i s=([(i,s.2)],s))/\(∀d',d=d'+1->∀i s,F i s=lvG (treD l) P d' (k+1) (chB l k i).1 (chB l k i).2 s):=by
  cases d with
  | zero=>exact⟨_,rfl,λ_ _ _=>rfl,λ_ h=>by cases h⟩
  | succ d=>exact⟨_,rfl,λh=>by(cases h),λd' h i s=>by cases h;rfl⟩
 rw[eF]at hR|-;clear eF;have hk:k<4:=by omega
 have hn:=(ae _ _ _ H).n k hk;have ai:=(ae _ _ _ H).wd k hk;have bp:∀i s,PastOk s->PastOk (F i s).2:=λi s hs=>by
  cases d with
  | zero=>rw[ay rfl];exact hs
  | succ d=>rw[az d rfl];exact qpw (T:=treD l) (λk hk=>(ae _ _ _ H).n k hk) Oo hs
 have bq:=ax k hk;unfold lvS at hR|-;obtain⟨a,ea⟩:∃a,a=max lo (s.1 k):=⟨_,rfl⟩
 obtain⟨b,eb⟩:∃b,b=min hi ((treD l).N k):=⟨_,rfl⟩
 have br:b=min hi (vNum l k):=eb;rw[<-ea,<-eb]at hR|-;have a0:=λX w (h:I j X w)=>((ae _ _ _ h).lv k hk).h
 refine gvW Jk Tryz.func207 rfl Tryz.ntmps207 rfl (zw ?_);refine LoadV.own ((cI _).get H mh) rfl (zw ?_);refine IdxV.at_ k rfl hk (zw ?_);refine DrawW.any Jk (.inl rfl) (AnyV.free Jk ?_);(conv=>whnf);(iterate 5 (refine zd ?_));refine zsd (.pointer (some ⟨wb,5+k,none⟩)) (λwd hd=>zw ?_) (zw ?_)
 ·refine IdxV.at_ k rfl hk (zw ?_);exact⟨xr,Ad (λo=>Value.pointer (some ⟨wb,o,none⟩)) (by rw[t1];show 0+5+k*1=5+k;omega)⟩
 refine zsd (ii (s.1 k:Nat)) (λwd hd=>zw ?_) (zw ?_)
 ·refine LoadV.own (Ext.get (Ext.trans (Ext.drew xr) hd) ((cI _).get H mh)) (qafh hk) (zw ?_);exact xq
 refine zsd (ii (a:Nat)) (λwd hd=>zw ?_) (zw ?_)
 ·refine V.Fall.max2 rfl rfl rfl λm hm=>?_;exact⟨xr,Ad (Value.int .i64) Oo⟩
 (iterate 4 (refine zd ?_));refine zsd (ii (vNum l k:Nat)) (λwd hd=>zw ?_) (zw ?_)
 ·obtain⟨PP,cp,S,cs,VV,hc,_⟩:=a0 _ _ H;refine LoadV.cellsE (hc.ext (Ext.trans (Ext.drew xr) hd)) 0 (by rw[t8];show 0+0+k*8+0=8*k+0;omega) rfl (zw ?_);exact xq
 refine zsd (ii (b:Nat)) (λwd hd=>zw ?_) (zw ?_)
 ·refine V.Fall.min2 rfl rfl rfl λm hm=>?_;exact⟨xr,Ad (Value.int .i64) Oo⟩
 refine zd ?_;refine zd ?_;intro w1 ba;replace H:=(cI j).ext H (Ext.trans (Ext.drew xr) ba);(conv=>whnf);refine zC (λ_=>zu ?_) (λ_=>zu ?_)
 ·refine .inl ⟨rfl,?_⟩;rw[Ab Oo];exact H
 rw[Aa Oo]at hR|-;refine StoreV.carr (cI j) (A:=[]) H (by rw[t1];show 0+5+k*1<14;omega) rfl ?_;clear H;intro w2 H;have H:I j ((wb,.cells ((wkC tb y P s).toArray.setIfInBounds (0+5+k*tsz DM 3) (ii (b:Nat))) 347)::X) w2:=H;rw[t1,show 0+5+k*1=5+k by omega,qafi hk]at H;have H:I j ((wb,wkO tb y P (updN s.1 k b,s.2))::X) w2:=H;have af:PastOk (updN s.1 k b,s.2):=ax.upd Oo;obtain⟨s1,a1⟩:∃s1:WS,s1=(updN s.1 k b,s.2):=⟨_,rfl⟩
 rw[<-a1]at H af hR|-;refine zu ?_;have a2:(wkC tb y P s1).toArray[0+1+k*tsz DM 3]?=some (ii (P k)):=by
  rw[t1,show 0+1+k*1=1+k by omega];exact qahp hk
 refine LoadV.own ((cI j).get H mh) a2 ?_;have bt:=hP k hk;have ad:0+0+k*tsz DM 244=8*k:=by rw[t8];omega
 (conv=>whnf);refine zC (λ_=>zw ?_) (λ_=>zw ?_)
 case' refine_1=>
  obtain⟨PP,cp,S,cs,VV,hc,ag,_⟩:=a0 _ _ H;have h1:w2.cell? ⟨tb,(0+0+k*tsz DM 244)+1,none⟩=some (ii (tw l k:Nat)):=by rw[ad];exact hc 1 _ rfl
  have h5:w2.cell? ⟨tb,(0+0+k*tsz DM 244)+5,none⟩=some (.slice PP (qh l k).length cp):=by rw[ad];exact hc 5 _ rfl
  refine zcv (qg8 tb _ a b (tw l k) cp (P k) PP (qh l k) w2 h1 h5 ag ai Oo Oo) ?_;rintro r w3 ⟨rfl,aa⟩;replace H:=(cI j).ext H aa;have al:=(treD l).sr_le k (P k) (show a<=b by omega);obtain⟨e,ee⟩:∃e,e=(treD l).sr k a b (P k):=⟨_,rfl⟩
  have ev:(a+bsr (λi=>decide (P k<=(numP (qh l k) (tw l k) (a+i):Int))) (b-a) 0 (b-a))=e:=ee.symm;rw[ev];rw[<-ee]at al
  rcases CV al.2 with a3|a3
  case inl=>
   refine zu ?_;refine .inl ⟨rfl,?_⟩;have hw:(treD l).win P k a b=(e,e):=by rw[LvD.win,Aa Oo,Aa (by rw[<-ee];omega),<-ee]
   rw[hw,BD];exact H
  have a4:(treD l).nu k e=numP (qh l k) (tw l k) e:=rfl
  rcases BA (((numP (qh l k) (tw l k) e:Nat):Int)=P k)with am|am
  case inr=>
   refine zu ?_;refine zcv (qca tb _ e (tw l k) cp PP (qh l k) w3 (aa.cell h1) (aa.cell h5) (ag.ext aa) ai Oo) ?_;rintro r w4 ⟨rfl,an⟩;replace H:=(cI j).ext H an;refine zu ?_;refine .inl ⟨rfl,?_⟩;have hw:(treD l).win P k a b=(e,e):=by rw[LvD.win,Aa Oo,Aa (by rw[<-ee,a4];exact λg=>am g.2),<-ee]
   rw[hw,BD];exact H
  refine zu ?_;refine zcv (qca tb _ e (tw l k) cp PP (qh l k) w3 (aa.cell h1) (aa.cell h5) (ag.ext aa) ai Oo) ?_;rintro r w4 ⟨rfl,an⟩;replace H:=(cI j).ext H an;refine zu ?_;have hw:(treD l).win P k a b=(e,e+1):=by rw[LvD.win,Aa Oo,Ab (by rw[<-ee,a4];exact⟨a3,am⟩),<-ee]
  obtain⟨u,eu⟩:∃u,u=e+1:=⟨_,rfl⟩
  have bb:(e:Int)+1=(u:Int):=by omega
  rw[hw,<-eu]at hR|-;rw[bb];have bd:a<=e:=al.1;have a5:e<=u:=by omega
  have be:u<=b:=by omega
  obtain⟨w5,aj⟩:∃w5,w5=w4:=⟨_,rfl⟩
  rw[<-aj]at H|-
 case' refine_2=>
  have hw:(treD l).win P k a b=(a,b):=by rw[LvD.win,Ab Oo]
  rw[hw]at hR|-;obtain⟨e,ee⟩:∃e,e=a:=⟨_,rfl⟩
  obtain⟨u,eu⟩:∃u,u=b:=⟨_,rfl⟩
  have bd:a<=e:=by omega
  have a5:e<=u:=by omega
  have be:u<=b:=by omega
  rw[<-eu]at hR|-;rw[<-ee]at hR|-;obtain⟨w5,aj⟩:∃w5,w5=w2:=⟨_,rfl⟩
  rw[<-aj]at H|-
 all_goals
  clear aj a1;obtain⟨FF,a6⟩:∃FF:Nat->WS->WR,FF=λi s=>F i (s.1,updN s.2 k ((treD l).nu k i)):=⟨_,rfl⟩
  rw[<-a6]at hR|-;obtain⟨G,eG⟩:∃G:WR,G=goL FF (u-e) e s1:=⟨_,rfl⟩
  rw[<-eG]at hR|-;refine q84 (λx:Nat×WS×Nat=>[(0,pp wb),(1,ii k),(3,ii u),(9,.pointer (some ⟨tb,0+0+k*tsz DM 244,none⟩)),(11,ii x.1)])
   (λx w'=>e<=x.1/\x.1<=u/\PastOk x.2.1/\RowsAt xs x.2.2 (goL FF (u-x.1) x.1 x.2.1).1/\(goL FF (u-x.1) x.1 x.2.1).2=G.2/\x.2.2+(goL FF (u-x.1) x.1 x.2.1).1.length=j+G.1.length/\I x.2.2 ((wb,wkO tb y P x.2.1)::X) w') (λx=>u-x.1) (e,s1,j)
   fq ⟨Ai _,a5,af,by rw[eG]at hR;exact hR,by rw[eG],by rw[eG],H⟩ ?_
  clear H hR eG af;rintro⟨i,t,jj⟩ w6 bu ⟨i1,i2,a7,Z,W,U,H⟩;dsimp only at i1 i2 a7 Z W U H|-;conv=>whnf
  (repeat' refine zC (λ_=>zw ?_) (λ_=>zw ?_))
  case' refine_2=>
   obtain rfl:i=u:=by omega
   rw[BD]at W U;have W:t=G.2:=W;have U:jj+0=j+G.1.length:=U;rw[Bt]at U;rw[<-U,<-W];exact .inl ⟨rfl,H⟩
  have bv:i<u:=by omega
  have a8:u-i=(u-(i+1))+1:=by omega
  obtain⟨t2,ao⟩:∃t2:WS,t2=(t.1,updN t.2 k ((treD l).nu k i)):=⟨_,rfl⟩
  have bf:FF i t=F i t2:=by rw[a6,ao]
  rw[a8,goL,bf]at Z W U;dsimp only at Z W U;have ah:PastOk t2:=by rw[ao];exact a7
  refine DrawW.tail 8 Jk Jk (.inl rfl) (AnyV.free Jk ?_);(conv=>whnf);(iterate 4 (refine zd ?_));refine zsd (ii (numP (qh l k) (tw l k) i:Nat)) (λwd hd=>zw ?_) (zw ?_)
  ·have bg:=(cI jj).ext H (Ext.trans (Ext.drew xr) hd);obtain⟨PP,cp,S,cs,VV,hc,ag,_⟩:=((ae _ _ _ bg).lv k hk).h;have h1:wd.cell? ⟨tb,(0+0+k*tsz DM 244)+1,none⟩=some (ii (tw l k:Nat)):=by rw[ad];exact hc 1 _ rfl
   have h5:wd.cell? ⟨tb,(0+0+k*tsz DM 244)+5,none⟩=some (.slice PP (qh l k).length cp):=by rw[ad];exact hc 5 _ rfl
   refine zcv (qca tb _ i (tw l k) cp PP (qh l k) wd h1 h5 ag ai Oo) ?_;rintro r w7 ⟨rfl,aq⟩;exact⟨aq,rfl⟩
  refine zd ?_;refine zd ?_;refine zsd (.pointer (some ⟨wb,9+k,none⟩)) (λwd hd=>zw ?_) (zw ?_)
  ·refine IdxV.at_ k rfl hk (zw ?_);exact⟨xr,Ad (λo=>Value.pointer (some ⟨wb,o,none⟩)) (by rw[t1];show 0+9+k*1=9+k;omega)⟩
  intro w7 aq;replace H:=(cI jj).ext H (Ext.trans (Ext.drew xr) aq);(conv=>whnf);refine StoreV.carr (cI jj) (A:=[]) H (by show 9+k<14;omega) rfl ?_;clear H;intro w8 H;have H:I jj ((wb,.cells ((wkC tb y P t).toArray.setIfInBounds (9+k) (ii (numP (qh l k) (tw l k) i:Nat))) 347)::X) w8:=H;rw[qafj hk]at H;have H:I jj ((wb,wkO tb y P t2)::X) w8:=by rw[ao];exact H
  (conv=>whnf)
  rcases Bk d with a9|a9
  case inl=>
   have ar:k=3:=by omega
   rw[ay a9]at Z W U;dsimp only at Z W U;refine zu ?_;refine DrawW.tail 9 Jk Jk (.inl rfl) (AnyV.free Jk ?_);(conv=>whnf);(iterate 3 (refine zd ?_));refine zf ?_ (by intro wd hd;(conv=>whnf);refine LoadV.own (Ext.get (Ext.trans (Ext.drew xr) hd) ((cI jj).get H mh)) rfl ?_;(conv=>whnf);exact xq);(iterate 4 (refine zd ?_));refine zsd (mAgg t2.2) (λwd hd=>zw ?_) (zw ?_)
   ·refine V.LoadA.part (vs:=[ii (t2.2 0),ii (t2.2 1),ii (t2.2 2),ii (t2.2 3)]) (Ext.get (Ext.trans (Ext.drew xr) hd) ((cI jj).get H mh)) rfl (λi hi=>?_) ?_
    ·match i,hi with
     | 0,_=>rfl
     | 1,_=>rfl
     | 2,_=>rfl
     | 3,_=>rfl
    (conv=>whnf);exact xq
   intro w9 au;replace H:=(cI jj).ext H (Ext.trans (Ext.drew xr) au);(conv=>whnf);refine YieldV.mono (hy jj (mRow (i,t2.2)) _ w9 (Z 0 (i,t2.2) rfl) H) ?_;clear H;rintro v bh (⟨rfl,H⟩|⟨rfl,hX⟩)
   ·refine zu ?_;refine⟨rfl,(i+1,t2,jj+1),⟨rfl,rfl,rfl,rfl,Ad (Value.int .i64) (by show(i:Int)+1=((i+1:Nat):Int);omega),trivial⟩,⟨by dsimp only;omega,by dsimp only;omega,ah,Z.right,W,?_,H⟩,by dsimp only;omega⟩;rw[<-U,zla,Bw];dsimp only;omega
   ·refine zu ?_;exact .inr ⟨rfl,jj,t2,by rw[<-U,zla,Bw];omega,hX⟩
  obtain⟨d',rfl⟩:∃d',d=d'+1:=⟨d-1,by omega⟩
  have ar:k+1<4:=by omega
  rw[az d' rfl]at Z W U;refine zu ?_;refine LoadV.own ((cI jj).get H mh) rfl (zw ?_);have av:=ae _ _ _ H;have ak:=qw8 (l:=l) (k:=k) (i:=i) (λk=>by
   by_cases bi:k<4
   ·exact .inl (av.n k bi)
   ·exact .inr Oo) ar (aw k Oo)
  refine zcv (qde tb l k i w8 av ar Oo (aw k Oo)) ?_;rintro r w9 ⟨rfl,au⟩;replace H:=(cI jj).ext H au;obtain⟨c1,bj⟩:∃c1,c1=(chB l k i).1:=⟨_,rfl⟩
  obtain⟨c2,bk⟩:∃c2,c2=(chB l k i).2:=⟨_,rfl⟩
  rw[<-bj]at ak Z W U|-;rw[<-bk]at ak Z W U|-;refine zu ?_;rw[show(k:Int)+1=((k+1:Nat):Int)by omega];refine zcv (ih d' (Dl d') (k+1) c1 c2 jj t2 X w9 Oo ak.1 ak.2 ah Z.left H) ?_;clear H;rintro r bh (⟨rfl,H⟩|⟨rfl,j',s',bw,hX⟩)
  ·refine zu ?_;refine⟨rfl,(i+1,(lvG (treD l) P d' (k+1) c1 c2 t2).2,jj+(lvG (treD l) P d' (k+1) c1 c2 t2).1.length),⟨rfl,rfl,rfl,rfl,Ad (Value.int .i64) (by show(i:Int)+1=((i+1:Nat):Int);omega),trivial⟩,⟨by dsimp only;omega,by dsimp only;omega,qpw (T:=treD l) (λk hk=>av.n k hk) Oo ah,Z.right,W,?_,H⟩,by dsimp only;omega⟩;rw[<-U,zla];dsimp only;omega
  ·refine zu ?_;exact .inr ⟨rfl,j',s',by rw[<-U,zla];omega,hX⟩
end
def hi8(x t:Nat):Nat:=x/2 ^ t*2 ^ t
def qahq(w:DA)(x:Nat):Prop:=(∀off k c,w.cell? ⟨x,off,none⟩≠some (.int k c))/\∀cs t H,w.heap[x]?=some (.cells cs t H)->t≠395/\t≠305/\t≠381/\t≠241
section
variable {w w':DA} {x:Nat} (ha:qahq w x) (hw:∀c,c≠x->w'.heap[c]?=w.heap[c]?)
include ha hw
end
namespace V
end V
def inf4(l:LB):DF:=.agg #[ii (hN l 2),ii (hN l 3),ii (hN l 4),ii (hN l 5)]
def infZ:DF:=.agg #[ii 0,ii 0,ii 0,ii 0]
theorem qu9(b:Nat)(l:LB)(w:DA)(h:PackAt w b l):Gv DM 73 [pp b] w λv w'=>(∃H,v=pp H/\VocAt w H (qi l))/\w'=w:=by
 obtain⟨H,tb,h1,h2,h3⟩:=h;refine ze Tryz.func73 Tryz.ntmps73 ?_;refine LoadV.own h1 rfl (zw ?_);exact⟨⟨H,rfl,h2⟩,rfl⟩
theorem qaah{t:TM}(h:qce l id=some t):TermOk t:=by
 unfold qce at h
 split at h
 ·cases h;exact⟨(show InR .i64 0 from⟨by decide,by decide⟩),Af _,Af _,Af _⟩
 ·split at h
  ·cases h
  ·split at h
   ·rename_i s H
    have h3:qb2 l id<3:=by unfold qb2;split<;>(try split)<;>omega
    exact q9q h (qkh H) ⟨by omega,by omega⟩
   ·cases h
theorem qaid(l:LB)(q:Nat->Nat)(j:Nat):TermOk (uT l q j):=by
 unfold uT;cases h:qce l (q j)with
 | none=>exact⟨(show InR .i64 0 from⟨by decide,by decide⟩),Af _,Af _,Af _⟩
 | some t=>exact qaah h
theorem qaeg(l:LB)(q:Nat->Nat):qcl (q4Of l q):=by
 intro k;unfold q4Of Q4.at
 split<;>exact qaid _ _ _
def qIds(l:LB)(i:Nat):Nat->Nat:=λk=>tNum (qk l) i k
def PqOk(l:LB)(i:Nat):Prop:=(i<vNum (qk l) 3/\tOk (qk l) i=true)/\(∀j,j<4->qce (qi l) (qIds l i j)≠none)/\qdd (q4Of (qi l) (qIds l i))=0
open Classical in
noncomputable def qfs(l:LB)(i:Nat):DF:=if PqOk l i then .tuple #[q4 (q4Of (qi l) (qIds l i)),.bool true]else .tuple #[q4 zQ,.bool false]
theorem qsn(b:Nat)(l:LB)(i:Nat)(w:DA)(h:PackAt w b l)(hi:i<=1048576)(hM:MaxLenAt w)(hT:CellsAt w 4 0 qb3)(hK:qk7 w):
  Gv DM 76 [pp b,ii i] w λv w'=>v=qfs l i/\Ext w w':=by
 obtain⟨vb,tb,h1,h2,h3⟩:=h;have ae:=h3.wd;refine ze Tryz.func76 Tryz.ntmps76 ?_;refine znm (Mem.nil w) ?_;intro r4 w1 H;refine LoadV.own (H.ext.get h1) rfl (zw ?_);refine zcv (qaad tb (qk l) i w1 (h3.ext H.ext) hi) ?_;rintro v w2 ⟨rfl,af⟩;have H:=H.call af
 by_cases aa:i<vNum (qk l) 3/\tOk (qk l) i=true
 case neg=>
  have hv:qfs l i=.tuple #[q4 zQ,.bool false]:=by rw[qfs,Aa (λhx=>aa hx.1)]
  rw[hv,qqt,Aa aa];unfold zq;refine znm H ?_;intro t6 w3 H;refine zS H 0 λw4 H=>zu ?_;refine zS H 1 ?_;intro w5 H;refine qd (R:=λv w'=>v=.tuple #[q4 zQ,.bool false]/\Ext w w') ?_;refine zl H 1 ?_;exact⟨rfl,H.ext⟩
 rw[qqt,Ab aa];refine znm H ?_;intro t6 w3 H;refine zS H 0 ?_;intro w4 H;have H:Mem w w4 [(t6,.cells #[ii (qIds l i 0:Nat),ii (qIds l i 1:Nat),ii (qIds l i 2:Nat),ii (qIds l i 3:Nat)] 95),(r4,.cells (qm zQ).toArray 47)]:=H;have ag:∀j,j<4->qIds l i j<=16777216:=λj hj=>by
  have h1:=qadz (qh (qk l) j) (tw (qk l) j) (tUp (qk l) i (3-j));have h2:2 ^ tw (qk l) j<=2 ^ 23:=Bg Od (ae j hj);have h3:(2:Nat) ^ 23=8388608:=by decide
  show tNum (qk l) i j<=_;unfold tNum;omega
 refine zu ?_;obtain⟨u,ok,ah,ad⟩:∃u ok,qj1 (qi l) (qIds l i)=.tuple #[q4 u,.bool ok]/\qcl u/\((ok=true/\u=q4Of (qi l) (qIds l i)/\∀j,j<4->qce (qi l) (qIds l i j)≠none)\/(ok=false/\¬ ∀j,j<4->qce (qi l) (qIds l i j)≠none)):=by
  by_cases U:∀j,j<4->qce (qi l) (qIds l i j)≠none
  ·exact⟨_,true,by rw[qj1,Ab U],qaeg _ _,.inl ⟨rfl,rfl,U⟩⟩
  ·refine⟨zQ,false,by rw[qj1,Aa U],?_,.inr ⟨rfl,U⟩⟩;intro k;unfold zQ Q4.at
   split<;>exact⟨(show InR .i64 0 from⟨by decide,by decide⟩),Af _,Af _,Af _⟩
 obtain⟨ai,ad⟩:=ad;refine DrawV.gen (λS W w'=>Al w [(t6,.cells #[ii (qIds l i 0:Nat),ii (qIds l i 1:Nat),ii (qIds l i 2:Nat),ii (qIds l i 3:Nat)] 95),(r4,.cells (qm zQ).toArray 47)] (.cells (qm zQ).toArray 47) (.cells (qm u).toArray 47) (.cells #[] 0) (.cells #[] 0) (S 9) false (S 10) false (W 9) undef w') rfl Jk (λW=>Al.start H.drew) ?_;clear H;(conv=>whnf);(iterate 3 (refine zg ?_));refine StepG.of (pp vb) (λS W wd hk hp Z=>zw ?_) ?_
 ·refine LoadV.own (Z.mem.ext.get h1) rfl (zw ?_);exact⟨rfl,Z⟩
 refine StepG.of (idsV (qIds l i)) (λS W wd hk hp Z=>zw ?_) ?_
 ·refine zl Z.mem 0 ?_;exact⟨rfl,Z⟩
 refine StepG.of (.tuple #[q4 u,.bool ok]) (λS W wd hk hp Z=>zw ?_) (zw ?_)
 ·refine zcv (q7c vb (qi l) (qIds l i) wd (h2.ext Z.mem.ext) ag (hM.ext Z.mem.ext) (hT.ext Z.mem.ext) (CellsAt.ext hK Z.mem.ext)) ?_;rintro v w5 ⟨rfl,he⟩;exact⟨ah,Z.call he⟩
 (iterate 3 (refine zg ?_));refine StepG.any (λS W wd hk hp Z=>?_) ?_
 ·dsimp only at Z;rw[hk]at Z;(conv=>whnf);refine⟨λx wx hb hw=>?_⟩;subst hb hw;(conv=>whnf);exact⟨trivial,Z.new1⟩
 refine StepG.of undef (λS W wd hk hp Z=>?_) (zw ?_)
 ·dsimp only at Z;have h9:S 9=true:=hp 9 Od;rw[hk,h9]at Z;obtain⟨nb,hv,M,aj,ak⟩:=Z.put1;rw[ql hv];refine zS aj 0 λwx al=>zw ?_;exact⟨rfl,by show Al _ _ _ _ _ _ (S 9) false true false _ _ _;rw[h9];exact ak al rfl⟩
 refine zg ?_;intro W w5 Z;obtain⟨t8,am,H⟩:=Z.done1;rw[ql am];clear Z;have H:Mem w w5 [(t8,.cells (qm u).toArray 47),(t6,.cells #[ii (qIds l i 0:Nat),ii (qIds l i 1:Nat),ii (qIds l i 2:Nat),ii (qIds l i 3:Nat)] 95),(r4,.cells (qm zQ).toArray 47)]:=H;conv=>whnf
 rcases ad with⟨rfl,rfl,U⟩|⟨rfl,U⟩
 ·refine zv ?_;refine zl H 0 ?_;refine zv ?_;refine zcv (qow (q4Of (qi l) (qIds l i)) ai w5 (hM.ext H.ext) (hT.ext H.ext)) ?_;rintro v w6 ⟨rfl,an⟩;have H:=H.call an;conv=>whnf
  by_cases hz:qdd (q4Of (qi l) (qIds l i))=0
  ·have hv:qfs l i=.tuple #[q4 (q4Of (qi l) (qIds l i)),.bool true]:=by rw[qfs,Ab ⟨aa,U,hz⟩]
   rw[hv];refine zv ?_;refine zL H 0 ?_;refine zS H 2 ?_;intro w7 H;refine qd (R:=λv w'=>v=.tuple #[q4 (q4Of (qi l) (qIds l i)),.bool true]/\Ext w w') ?_;refine zl H 2 ?_;exact⟨rfl,H.ext⟩
  ·have hv:qfs l i=.tuple #[q4 zQ,.bool false]:=by rw[qfs,Aa (λhx=>hz hx.2.2)]
   rw[hv];refine zv ?_;refine zS H 2 ?_;intro w7 H;refine qd (R:=λv w'=>v=.tuple #[q4 zQ,.bool false]/\Ext w w') ?_;refine zl H 2 ?_;exact⟨rfl,H.ext⟩
 ·have hv:qfs l i=.tuple #[q4 zQ,.bool false]:=by rw[qfs,Aa (λhx=>U hx.2.1)]
  rw[hv];refine zv ?_;refine zS H 2 ?_;intro w7 H;refine qd (R:=λv w'=>v=.tuple #[q4 zQ,.bool false]/\Ext w w') ?_;refine zl H 2 ?_;exact⟨rfl,H.ext⟩
namespace V
theorem LoadA.own{H:Nat}{t:DD}{K:DK->Prop}(h:w.heap[b]?=some (.cells cs t fr))(U:cs.toList.length=H)(hk:K cs.toList):LoadA w b 0 H K:=
 ⟨cs.toList,U,λj _=>by rw[qa h,As];simp,hk⟩
end V
def h24(nq nt H U:Nat):LB:=fixL 1095914324 4++(fixL 1 4++(fixL nq 4++(fixL nt 4++(fixL H 4++fixL U 4))))
def sumL(p:LB):LB:=fixL (crcL p).toNat 4
def qdz(nq nt:Nat)(V T:LB):LB:=
 h24 nq nt V.length T.length++(sumL (h24 nq nt V.length T.length)++(V++(sumL V++(T++sumL T))))
theorem qpi(a b c d:Nat):(h24 a b c d).length=24:=by rfl
theorem qgb(p:LB):(sumL p).length=4:=qv _ _
theorem qv1(p:LB):leN (sumL p)=(crcL p).toNat:=by
 grind [sumL,qfh,crcL]
theorem qaj{H:Type}{a b:List H}{n:Nat}(h:a.length=n):(a++b).drop n=b:=by simp_all
theorem qhl(n:Nat)(r:LB)(h:n<4294967296):leN ((fixL n 4++r).take 4)=n:=by
 grind [qv,qfh]
section
variable {nq nt:Nat} {V T:LB} (h1:nq<4294967296) (h2:nt<4294967296) (h3:V.length+T.length+36<=67108864)
theorem q9h(nq nt:Nat)(V T:LB):(qdz nq nt V T).length=V.length+T.length+36:=by
 grind [qdz,qpi,qgb]
theorem qsl(nq nt:Nat)(V T:LB)(k:Nat)(hk:k<=6):(qdz nq nt V T).drop (4*k)=(h24 nq nt V.length T.length).drop (4*k)++(sumL (h24 nq nt V.length T.length)++(V++(sumL V++(T++sumL T)))):=by
 grind [qdz,qpi]
theorem qad7:hN (qdz nq nt V T) 0=1095914324:=by
 rw[hN,qsl _ _ _ _ 0 Oo,h24];simp only[Nat.mul_zero,Bn,Az];exact qhl _ _ Od
theorem qad8:hN (qdz nq nt V T) 1=1:=by
 rfl
include h1 in
theorem qad9:hN (qdz nq nt V T) 2=nq:=by
 rw[hN,qsl _ _ _ _ 2 Oo,h24,show 4*2=4+4 from rfl,<-Am,qaj (qv _ _),qaj (qv _ _)]
 grind [qhl]
include h2 in
theorem qaea:hN (qdz nq nt V T) 3=nt:=by
 rw[hN,qsl _ _ _ _ 3 Oo,h24,show 4*3=4+4+4 from rfl,<-Am,<-Am,qaj (qv _ _),qaj (qv _ _),qaj (qv _ _)]
 grind [qhl]
include h3
theorem ql2:hN (qdz nq nt V T) 4=V.length:=by
 rw[hN,qsl _ _ _ _ 4 Oo,h24,show 4*4=4+4+4+4 from rfl,<-Am,<-Am,<-Am,qaj (qv _ _),qaj (qv _ _),qaj (qv _ _),qaj (qv _ _)]
 grind [qhl]
theorem qu6:hN (qdz nq nt V T) 5=T.length:=by
 rw[hN,qsl _ _ _ _ 5 Oo,h24,show 4*5=4+4+4+4+4 from rfl,<-Am,<-Am,<-Am,<-Am,qaj (qv _ _),qaj (qv _ _),qaj (qv _ _),qaj (qv _ _),qaj (qv _ _)]
 grind [qhl]
omit h3 in
theorem qaeb:hN (qdz nq nt V T) 6=(crcL ((qdz nq nt V T).take 24)).toNat:=by
 grind [hN,qpi,qgb,qv1,qdz]
theorem q5c:(qt (qdz nq nt V T)).2=0:=by
 grind [q9h,qt,ql2,qu6,qad7,qad8,qaeb]
omit h3 in
theorem qp4(nq nt:Nat)(V T:LB):(qdz nq nt V T).drop 28=V++(sumL V++(T++sumL T)):=by
 rfl
theorem qabm:qi (qdz nq nt V T)=V:=by grind [qi,qp4,ql2]
theorem qabl:qk (qdz nq nt V T)=T:=by
 rw[qk,ql2 h3,qu6 h3,show 32+V.length=28+(V.length+4)by omega,<-Am,qp4,<-Am,qn,qaj (qgb _),CJ]
theorem qaec:pS1 (qdz nq nt V T):=by
 grind [pS1,qabm,ql2,List.drop_drop,qp4,qn,qgb,qv1]
theorem qaed:pS2 (qdz nq nt V T):=by
 rw[pS2,qabl h3,ql2 h3,qu6 h3,show 32+V.length+T.length=28+(V.length+(4+T.length))by omega,<-Am,qp4,<-Am,qn,<-Am,qaj (qgb _),qn,Aj (by grind [qgb]),qv1]
end
theorem RiseT.at(h:RiseT T){a b:TM}(H:i<j)(ha:T[i]?=some a)(U:T[j]?=some b):LtT a b:=by
 obtain⟨h1,rfl⟩:=Ae.1 ha;obtain⟨h2,rfl⟩:=Ae.1 U;exact(BJ.1 h) i j h1 h2 H
theorem RiseT.inj(h:RiseT T){a:TM}(ha:T[i]?=some a)(H:T[j]?=some a):i=j:=by
 rcases Cr i j with g|g|g
 ·exact absurd (h.at g ha H) (LtT.irrefl a)
 ·exact g
 ·exact absurd (h.at g H ha) (LtT.irrefl a)
theorem RiseT.lt(h:RiseT T){a b:TM}(ha:T[i]?=some a)(H:T[j]?=some b)(U:LtT a b):i<j:=by
 rcases Cr i j with g|g|g
 ·exact g
 ·grind [LtT.irrefl]
 ·exact absurd (U.trans (h.at g H ha)) (LtT.irrefl a)
theorem RiseT.ext:∀{S T:List TM},RiseT S->RiseT T->(∀y,y∈S↔y∈T)->S=T
 | [],[],_,_,_=>rfl
 | [],b::T,_,_,h=>absurd ((h b).2 mh) Js
 | a::S,[],_,_,h=>absurd ((h a).1 mh) Js
 | a::S,b::T,hs,ht,h=>by
  obtain⟨W,s2⟩:=Bf.1 hs;obtain⟨Z,t2⟩:=Bf.1 ht;have e:a=b:=by
   rcases Ay.1 ((h a).1 mh)with g|g
   ·exact g
   ·rcases Ay.1 ((h b).2 mh)with U|U
    ·exact U.symm
    ·exact absurd ((Z a g).trans (W b U)) (LtT.irrefl b)
  subst e
  congr 1
  refine RiseT.ext s2 t2 λy=>⟨λH=>?_,λH=>?_⟩
  ·rcases Ay.1 ((h y).1 (zmc H))with g|g
   ·subst g;exact absurd (W y H) (LtT.irrefl y)
   ·exact g
  ·rcases Ay.1 ((h y).2 (zmc H))with g|g
   ·subst g;exact absurd (Z y H) (LtT.irrefl y)
   ·exact g
def noT(T:List TM)(t:TM):Nat:=if t.kind=0 then 0 else T.findIdx (λx=>cmpT x t==0)+1
theorem qhu{t:TM}(h:t.kind=0):noT T t=0:=by rw[noT,Ab h]
theorem qgl(h:RiseT T){t:TM}(ht:T[i]?=some t)(hk:t.kind≠0):noT T t=i+1:=by
 obtain⟨h1,h2⟩:=Ae.1 ht;rw[noT,Aa hk];have h3:T.findIdx (λx=>cmpT x t==0)<T.length:=List.findIdx_lt_length_of_exists ⟨t,zmg ht,by simp[qar]⟩;have H:=List.findIdx_getElem (w:=h3);rw[CI,qar]at H;have:=h.inj (i:=T.findIdx (λx=>cmpT x t==0)) (j:=i) (by simp_all) ht;omega
theorem qabg(T:List TM)(t:TM)(h:t∈T\/t.kind=0):noT T t<=T.length:=by
 grind [noT,qar]
theorem qagq(h:RiseT T)(_:∀t∈T,0<=t.kind){a b:TM}(ha:a∈T\/a.kind=0)(U:b∈T)(hk:b.kind≠0)(W:LtT a b):noT T a<noT T b:=by
 obtain⟨j,H⟩:=AT.1 U;rw[qgl h H hk]
 by_cases e:a.kind=0
 ·rw[qhu e];omega
 ·obtain⟨i,hi⟩:=AT.1 (ha.resolve_right e);rw[qgl h hi e];have:=h.lt hi H W;omega
def gat(q:Q4):Nat->TM
 | 0=>q.g
 | 1=>q.s
 | 2=>q.p
 | _=>q.o
def LtQ(q r:Q4):Prop:=∃k,k<4/\(∀j,j<k->gat q j=gat r j)/\LtT (gat q k) (gat r k)
def noQ(T:List TM)(qs:List Q4)(i k:Nat):Nat:=match qs[i]? with
 | some q=>noT T (gat q k)
 | none=>0
theorem qjt{q:Q4}(h:qs[i]?=some q):noQ T qs i k=noT T (gat q k):=by rw[noQ,h]
structure SetOk(T:List TM)(qs:List Q4):Prop where
 rise:RiseT T
 few:T.length<=4194304
 kind:∀t∈T,0<t.kind
 mem:∀q∈qs,∀k,k<4->gat q k∈T\/(k=0/\(gat q k).kind=0/\gat q k=zTM)
 len:qs.length<=1048576
 ord:qs.Pairwise LtQ
theorem SetOk.tok(h:SetOk T qs):TOk (noQ T qs) qs.length:=by
 refine⟨h.len,λi k hi hk=>?_,λi h0 hi=>?_⟩
 ·have H:qs[i]?=some qs[i]:=zge hi;rw[qjt H]
  rcases h.mem _ (AK hi) k hk with g|⟨W,Z,_⟩
  ·refine⟨λ_=>?_,AE (qabg _ _ (.inl g)) h.few⟩;have:=h.kind _ g
   grind [noT]
  grind [qhu]
 ·have H:qs[i]?=some qs[i]:=zge hi;have hp:qs[i-1]?=some qs[i-1]:=zge Oo;obtain⟨k,h1,h2,h3⟩:=(BJ.1 h.ord) (i-1) i Oo hi Oo;refine⟨k,h1,λj hj=>?_,?_⟩
  ·grind [qjt]
  ·rw[qjt H,qjt hp];have U:gat qs[i] k∈T:=by
    rcases h.mem _ (AK hi) k h1 with g|⟨W,Z,g3⟩
    ·exact g
    ·exfalso
     rcases h.mem _ (AK (show i-1<qs.length by omega)) k h1 with f|⟨f1,f2,f3⟩
     ·have:=h.kind _ f
      rcases h3 with h3|⟨h3,_⟩<;>omega
     grind [LtT.irrefl]
   refine qagq h.rise (λt ht=>by have:=h.kind t ht;omega) ?_ U (by have:=h.kind _ U;omega) h3
   rcases h.mem _ (AK (show i-1<qs.length by omega)) k h1 with f|⟨f1,f2,f3⟩
   all_goals simp_all
def ofK(T:List TM)(k:Nat):List TM:=T.filter λt=>decide (t.kind=((k+1:Nat):Int))
theorem qcx(T:List TM)(k:Nat):secE T k=(ofK T k).map qai:=rfl
theorem qko{t:TM}(h:t∈ofK T k):t.kind=((k+1:Nat):Int):=by simpa using(By.1 h).2
theorem qp1(h:RiseT T)(k:Nat):RiseT (ofK T k):=h.filter _
theorem qu4(h:RiseT T)(hk:∀t∈T,1<=t.kind/\t.kind<=3):T=ofK T 0++(ofK T 1++ofK T 2):=by
 have W:∀{i j:Nat},i<j->∀a∈ofK T i,∀b∈ofK T j,LtT a b:=λZ a ha b U=>.inl (by grind [qko])
 refine RiseT.ext h ?_ λy=>⟨λH=>?_,λH=>?_⟩
 ·refine Ce.2 ⟨qp1 h 0,Ce.2 ⟨qp1 h 1,qp1 h 2,λa ha b U=>W Od a ha b U⟩,λa ha b U=>?_⟩
  grind
 ·have:=hk y H;have hd:y.kind=1\/y.kind=2\/y.kind=3:=by omega
  rcases hd with e|e|e
  ·exact Ah _ (By.2 ⟨H,by rw[e];rfl⟩)
  ·exact Ac _ (Ah _ (By.2 ⟨H,by rw[e];rfl⟩))
  ·exact Ac _ (Ac _ (By.2 ⟨H,by rw[e];rfl⟩))
 ·rcases AU.1 H with H|H
  ·exact(By.1 H).1
  ·rcases AU.1 H with H|H
   ·exact(By.1 H).1
   ·exact(By.1 H).1
section
variable {T:List TM} (h:VOk T) (hr:RiseT T) (hk:∀t∈T,1<=t.kind/\t.kind<=3) (ht:∀t∈T,qam t=0)
include h
theorem VOk.tot1:vTot (vocB T) 1=(ofK T 0).length:=by rw[vTot,vTot,h.dN Od,qcx,A6,As]
theorem VOk.tot2:vTot (vocB T) 2=(ofK T 0).length+(ofK T 1).length:=by rw[vTot,h.tot1,h.dN Od,qcx,A6]
theorem VOk.tot3:vTot (vocB T) 3=(ofK T 0).length+(ofK T 1).length+(ofK T 2).length:=by rw[vTot,h.tot2,h.dN Od,qcx,A6]
include hr hk
theorem VOk.tot:vTot (vocB T) 3=T.length:=by
 have e:=Ad List.length (qu4 hr hk);simp only[zla]at e;rw[h.tot3];omega
include ht
theorem VOk.sec{t:TM}(H:k<3)(U:(ofK T k)[j]?=some t):(match dGet (Go.Proofs.YtccmcfpmknpccaaGreatDoor.sDict (vocB T) k) j with
  | some s=>qg5 ((k+1:Nat):Int) s
  | none=>none)=some t:=by
 have Z:=hr;have _k:=hk;obtain⟨h1,h2⟩:=Ae.1 U;have W:=zmg U;rw[h.get H (by grind [qcx])];refine qee ⟨qko W,ht t (By.1 W).1,?_⟩
 grind [tx,qcx]
theorem VOk.term{t:TM}(hi:T[i]?=some t):qce (vocB T) (i+1)=some t:=by
 have e:=qu4 hr hk;have W:=(Ae.1 hi).1;have Z:=h.tot1;have t2:=h.tot2;have t3:=h.tot3;have tt:=h.tot hr hk;rw[qce,Aa Oo,Aa Oo];rw[e]at hi
 by_cases H:vTot (vocB T) 2<i+1
 ·rw[qb2,Ab H];refine h.sec hr hk ht Od ?_
  grind
 ·by_cases U:vTot (vocB T) 1<i+1
  ·rw[qb2,Aa H,Ab U];refine h.sec hr hk ht Od ?_
   grind
  ·rw[qb2,Aa H,Aa U];refine h.sec hr hk ht Od ?_
   grind [vTot]
end
def encP(T:List TM)(qs:List Q4):LB:=qdz qs.length T.length (vocB T) (qz (noQ T qs) qs.length)
structure EncOk(T:List TM)(qs:List Q4):Prop where
 set:SetOk T qs
 voc:VOk T
 kind3:∀t∈T,t.kind<=3
 term:∀t∈T,qam t=0
 quad:∀q∈qs,qdd q=0
 used:∀t∈T,∃q∈qs,∃k,k<4/\gat q k=t
 size:(vocB T).length+(qz (noQ T qs) qs.length).length+36<=67108864
section
variable {T:List TM} {qs:List Q4} (h:EncOk T qs)
include h
theorem EncOk.v:qi (encP T qs)=vocB T:=qabm h.size
theorem EncOk.t:qk (encP T qs)=qz (noQ T qs) qs.length:=qabl h.size
theorem EncOk.kinds:∀t∈T,1<=t.kind/\t.kind<=3:=λt ht=>⟨by have:=h.set.kind t ht;omega,h.kind3 t ht⟩
theorem EncOk.n:vNum (qk (encP T qs)) 3=qs.length:=by rw[h.t,h.set.tok.vNum Od,h.set.tok.all znr]
theorem EncOk.no{t:TM}(ht:t∈T\/t=zTM):qce (qi (encP T qs)) (noT T t)=some t:=by
 rw[h.v]
 rcases ht with ht|ht
 ·obtain⟨i,hi⟩:=AT.1 ht;rw[qgl h.set.rise hi (by have:=h.set.kind t ht;omega)];exact h.voc.term h.set.rise h.kinds h.term hi
 ·subst ht;rfl
theorem EncOk.told{q:Q4}(hi:qs[i]?=some q)(hk:k<4):qce (qi (encP T qs)) (tNum (qk (encP T qs)) i k)=some (gat q k):=by
 have H:=(Ae.1 hi).1;rw[h.t,h.set.tok.tNum H hk,qjt hi];refine h.no ?_
 rcases h.set.mem q (zmg hi) k hk with g|⟨_,_,g⟩
 all_goals simp_all
theorem EncOk.quad4{q:Q4}(hi:qs[i]?=some q):q4Of (qi (encP T qs)) (tNum (qk (encP T qs)) i)=q:=by
 unfold q4Of uT;rw[h.told hi (k:=0) Od,h.told hi (k:=1) Od,h.told hi (k:=2) Od,h.told hi (k:=3) Od];rfl
theorem EncOk.poE:poE (encP T qs)=(0,0):=by
 have U:qs.length<4294967296:=by have:=h.set.len;omega
 have Z:T.length<4294967296:=by have:=h.set.few;omega
 refine qabn (q5c h.size) (qaec h.size) (qaed h.size) ?_ ?_ ?_ ?_ ?_ ?_
 ·rw[h.v];exact h.voc.vwE h.term
 ·rw[h.t];exact h.set.tok.toE
 ·rw[h.n];exact(qad9 U).symm
 ·rw[h.v,h.voc.tot h.set.rise h.kinds];exact(qaea Z).symm
 ·intro i hi;rw[h.n]at hi;have H:qs[i]?=some qs[i]:=zge hi;exact⟨λj hj=>by rw[h.told H hj];simp,by rw[h.quad4 H];exact h.quad _ (AK hi)⟩
 ·intro id h1 h2;rw[h.v,h.voc.tot h.set.rise h.kinds]at h2;have ht:T[id-1]?=some T[id-1]:=zge Oo;obtain⟨q,U,k,hk,e⟩:=h.used _ (zmg ht);obtain⟨i,hi⟩:=AT.1 U;have W:=(Ae.1 hi).1;refine⟨i,by rw[h.n];exact W,k,hk,?_⟩;rw[h.t,h.set.tok.tNum W hk,qjt hi,e,qgl h.set.rise ht (by have:=h.set.kind _ (zmg ht);omega)];omega
end
end Go.Proofs.YtccmcfpmknpccaaGreatDoor
