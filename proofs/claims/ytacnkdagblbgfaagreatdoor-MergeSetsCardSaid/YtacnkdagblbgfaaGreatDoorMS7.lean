/- Part 7 of 11. -/
import Derived.Test.YtacnkdagblbgfaaGreatDoorMS6
import Derived.OrdersIn
namespace Go.Proofs.YtacnkdagblbgfaaGreatDoor
set_option maxHeartbeats 8000000
open Go.RowKit V
variable {l:LB} {N b base c d hi i id j k lo m off:Nat} {args cs cur:EH} {w w' w0:Ez} {K R:E9} {o:Oper} {a:Act} {ds:EI} {K' K2:Act->EC} {ops:Array Oper} {ρ:EB} {J:ED->EC} {X Y:ED} {Q':Exit->Act->EC} {lb news vs xs:EE} {A B:oA} {T:List TM} {qs:List Q4} {s:E0} {F G:EF} {e ty:E6} {P:E4} {z:E8} {gf:FuncId} {p:Prop} {body:Code}
def seB(B:LB)(x:Nat):Nat:=if x<vM B then bsr (fun i=>decide (x<qel B (i+1))) (vN B-1) 0 (vN B-1)+1 else 0
def chB(l:LB)(k i:Nat):Nat×Nat:=
 if tVec l (k+1)=true then((if 0<i then seB (qg l (k+1)) (i-1)else 0),max (if 0<i then seB (qg l (k+1)) (i-1)else 0) (seB (qg l (k+1)) i))else(0,0)
def treD(l:LB):LvD:=⟨vNum l,fun k e=>numP (qv l k) (tw l k) e,chB l⟩
theorem qwv{B:LB}(x:Nat)(h:vM B<=vN B):seB B x<=vN B:=by
 unfold seB
 split
 ·have:=qmr (p:=fun i=>decide (x<qel B (i+1))) (f:=vN B-1) (a:=0) (b:=vN B-1) (Am _);omega
 ·exact Am _
theorem qacy(h:∀k,vNum l k<=1048576\/4<=k)(hk:k+1<4)(hv:tVec l (k+1)=true->vM (qg l (k+1))<=vN (qg l (k+1))):(chB l k i).1<=1048576/\(chB l k i).2<=1048576:=by
 unfold chB
 split
 ·rename_i ht
  have h1:=hv ht;have h2:vN (qg l (k+1))<=1048576:=by
   simp only[tVec,AJ,decide_eq_true_eq]at ht;rw[ht.1.2];exact(h (k+1)).resolve_right Oo
  have h3:=qwv (B:=qg l (k+1)) (i-1) h1;have h4:=qwv (B:=qg l (k+1)) i h1;dsimp only;refine⟨?_,?_⟩<;>split<;>omega
 ·exact⟨Am _,Am _⟩
section
variable {Q:Nat->Nat->Nat} {n:Nat} (h:TOk Q n)
include h
theorem TOk.seB{p:Nat}(hk:k+1<4)(hp:p<leT Q k n):Go.Proofs.YtacnkdagblbgfaaGreatDoor.seB (qg (qr Q n) (k+1)) p=chT Q n k (p+1):=by
 obtain⟨h1,h2,h3,h4,h5⟩:=h.vec hk;have hl:=qpx h.toE (k+1) Oo Oo;have ho:=h.ones hk;rw[Go.Proofs.YtacnkdagblbgfaaGreatDoor.seB,h3,Ad hp,h2];have hpos:0<leT Q (k+1) n:=by
  refine Eo fun e=>?_;rw[e]at ho;have:leT Q k n=0:=ho.symm;omega
 obtain⟨N,eN⟩:∃N,N=leT Q (k+1) n-1:=⟨_,rfl⟩
 have hrk:∀i,i<=N+1->qel (qg (qr Q n) (k+1)) i=Go.Proofs.YtacnkdagblbgfaaGreatDoor.cnt ((qg (qr Q n) (k+1)).drop 8) i:=fun i hi=>hl.rank i (by rw[h.vNum hk];omega)
 rw[<-eN];have hb:=qmr (p:=fun i=>decide (p<qel (qg (qr Q n) (k+1)) (i+1))) (f:=N) (a:=0) (b:=N) (Am _);have hs:=qj7 (p:=fun i=>decide (p<qel (qg (qr Q n) (k+1)) (i+1))) (n:=N) (fun i j hij hj g=>by
  have g:=BR g;refine Az ?_;rw[hrk _ Oo]at g|-;exact Bw g (qj9 Oo)) (f:=N) (a:=0) (b:=N) (Am _) znr Oo (fun i hi=>by omega) (fun i h1 h2=>by omega)
 obtain⟨s,es⟩:∃s,s=bsr (fun i=>decide (p<qel (qg (qr Q n) (k+1)) (i+1))) N 0 N:=⟨_,rfl⟩
 rw[<-es]at hb hs|-;refine h.child hk Oo ?_ ?_
 ·cases s with
  | zero=>exact Am _
  | succ s=>
   have:=of_decide_eq_false (hs.1 s (Dk s));rw[hrk _ Oo]at this;omega
 ·rcases AX s N with g|g
  ·have:=BR (hs.2 s znr g)
   rwa[hrk _ Oo]at this
  ·rw[show s+1=leT Q (k+1) n by omega,ho];exact hp
theorem TOk.canD:CanD (treD (qr Q n)) Q n:=by
 refine⟨fun k hk=>h.vNum hk,fun k e hk he=>?_,fun k i hk hi=>?_⟩
 ·show numP _ _ _=_;rw[qwe _ _ _ (by have:=h.wi hk;rw[h.tw hk];omega)];exact h.tX hk he
 ·have hl:=qpx h.toE (k+1) Oo Oo;have e0:(if 0<i then Go.Proofs.YtacnkdagblbgfaaGreatDoor.seB (qg (qr Q n) (k+1)) (i-1)else 0)=chT Q n k i:=by
   split
   ·rw[h.seB hk Oo,show i-1+1=i by omega]
   ·rename_i h0
    obtain rfl:i=0:=by omega
    exact(q4v k n).symm
  show chB _ k i=_;rw[chB,Ad hl.tvec,e0,h.seB hk hi,Nat.max_eq_right (qn0 k n (Dw i))]
theorem TOk.mtch{P:Nat->Int}{q:Nat->Nat}:(lvG (treD (qr Q n)) P 3 0 0 (Go.Proofs.YtacnkdagblbgfaaGreatDoor.vNum (qr Q n) 0) (fun _=>0,q)).1.map (·.1)=maT P Q 0 0 n:=by
 rw[h.vNum Od];exact qaai h h.canD
end
set_option maxHeartbeats 8000000
set_option maxRecDepth 100000
theorem qvc(p:Nat->Bool)(f a:Nat):bsr p f a a=a:=by
 cases f with
 | zero=>rfl
 | succ f=>rw[bsr,Aa Oo]
theorem qtx(l:LB)(A:oA)(c b k:Nat)(w:Ez)(hS:SlAt encB 1 w A l)(hc:l.length<=c)(hv:vOk l=true)(hb:w.heap[b]?=some (vecO 295 (.slice A l.length c) (vN l) (vM l)))(h1:1<=vN l)(hn:vN l<=67108864):
  Gv EG 302 [pp b,ii k,.func (.func 205) #[pp b] #[]] w fun r w'=>r=ii (bsr (fun i=>decide (k<qel l (i+1))) (vN l-1) 0 (vN l-1):Nat)/\Ext w w':=by
 obtain⟨p,ep⟩:∃p:Nat->Bool,p=fun i=>decide (k<qel l (i+1)):=⟨_,rfl⟩
 rw[<-ep];refine ze Tryz.func302 Tryz.ntmps302 ?_;refine DrawV.free Jk Jk (zw ?_);(iterate 3 (refine zd ?_));refine zf ?_ (by intro wd hd;(conv=>whnf);refine LoadV.own (Ext.get (Ext.trans (Ext.drew xr) hd) hb) rfl ?_;(conv=>whnf);exact xq);(iterate 3 (refine zd ?_));intro w1 he1;have he1:=(Ext.refl w).drew.trans he1;(conv=>whnf);refine qj (fun s:Nat×Nat=>[(1,ii k),(2,.func (.func 205) #[pp b] #[]),(7,ii s.1),(8,ii s.2)])
  (fun s w'=>s.1<=s.2/\s.2<=vN l-1/\(∃f,s.2-s.1<=f/\bsr p f s.1 s.2=bsr p (vN l-1) 0 (vN l-1))/\Ext w w') (fun s=>s.2-s.1) (0,vN l-1) ⟨rfl,rfl,rfl,Af (Value.int .i64) (by show((vN l:Nat):Int)-1=((vN l-1:Nat):Int);omega),trivial⟩ ⟨Am _,Aq _,⟨_,by show vN l-1-0<=vN l-1;omega,rfl⟩,he1⟩ ?_
 rintro⟨x,y⟩ w2 ρ' ⟨g1,g2,⟨f,hf,hbs⟩,he⟩;dsimp only at g1 g2 hf hbs|-;(conv=>whnf);refine zC (fun _=>zu ?_) (fun _=>zu ?_)
 ·obtain⟨h,eh⟩:∃h,h=(x+y)/2:=⟨_,rfl⟩
  obtain⟨f',rfl⟩:∃f',f=f'+1:=⟨f-1,by omega⟩
  rw[bsr,Ad Oo,<-eh]at hbs;rw[show((x:Int)+(y:Int))/2=((h:Nat):Int)by omega,show((h:Nat):Int)+1=((h+1:Nat):Int)by omega];refine zcv (qki l A c b (h+1) w2 (hS.ext he) hc hv (he.get hb) Oo) ?_;rintro r w3 ⟨rfl,he3⟩;have he:=he.trans he3;cases hph:p h
  ·rw[Aa (by rw[hph];decide)]at hbs;rw[ep]at hph;have hph:=of_decide_eq_false hph;refine zu ?_;refine⟨(h+1,y),fq,⟨by show h+1<=y;omega,g2,⟨f',by show y-(h+1)<=f';omega,hbs⟩,he⟩,by show y-(h+1)<y-x;omega⟩
  ·rw[Ad hph]at hbs;rw[ep]at hph;have hph:=BR hph;refine zu ?_;refine⟨(x,h),fq,⟨by show x<=h;omega,by show h<=vN l-1;omega,⟨f',by show h-x<=f';omega,hbs⟩,he⟩,by show h-x<y-x;omega⟩
 ·obtain rfl:x=y:=by omega
  rw[qvc]at hbs;exact⟨by rw[<-hbs],he⟩
theorem qgy(l:LB)(A:oA)(c b k:Nat)(w:Ez)(hS:SlAt encB 1 w A l)(hc:l.length<=c)(hv:vOk l=true)(hb:w.heap[b]?=some (vecO 295 (.slice A l.length c) (vN l) (vM l)))(hm:vM l<=vN l)(hn:vN l<=67108864):
  Gv EG 259 [pp b,ii k] w fun r w'=>r=ii ((seB l k:Int)-1)/\Ext w w':=by
 refine ze Tryz.func259 Tryz.ntmps259 ?_;refine zv ?_;refine LoadV.own hb rfl (zw ?_);refine zt ?_;refine zC (fun _=>zw ?_) (fun _=>zw ?_)
 ·exact⟨by rw[seB,Aa Oo];rfl,xr⟩
 ·refine zcv (qtx l A c b k w hS hc hv hb Oo hn) ?_;rintro r w1 ⟨rfl,he1⟩;(conv=>whnf);refine⟨Af (Value.int .i64) ?_,he1⟩;rw[seB,Ad Oo];omega
theorem qsc(g:FuncId)(c1 c2 c3:E8)(n:Nat)(p:Nat->Bool)(w:Ez)(hn:n<=4194304)(hg:∀i w',i<n->Ext w w'->Gv EG g [ii i,c1,c2,c3] w' fun r w''=>r=.bool (p i)/\Ext w' w''):
  Gv EG 257 [ii n,.func (.func g) #[] #[c1,c2,c3]] w fun r w'=>r=ii (bsr p n 0 n:Nat)/\Ext w w':=by
 refine ze Tryz.func257 Tryz.ntmps257 ?_;refine qj (fun s:Nat×Nat=>[(1,.func (.func g) #[] #[c1,c2,c3]),(5,ii s.1),(6,ii s.2)])
  (fun s w'=>s.1<=s.2/\s.2<=n/\(∃f,s.2-s.1<=f/\bsr p f s.1 s.2=bsr p n 0 n)/\Ext w w') (fun s=>s.2-s.1) (0,n) fq ⟨Am _,Aq _,⟨n,by show n-0<=n;omega,rfl⟩,xr⟩ ?_
 rintro⟨a,b⟩ w1 ρ' ⟨h1,h2,⟨f,hf,hb⟩,he⟩;dsimp only at h1 h2 hf hb|-;(conv=>whnf);refine zC (fun _=>zu ?_) (fun _=>zu ?_)
 ·obtain⟨h,eh⟩:∃h,h=(a+b)/2:=⟨_,rfl⟩
  obtain⟨f',rfl⟩:∃f',f=f'+1:=⟨f-1,by omega⟩
  rw[bsr,Ad Oo,<-eh]at hb;rw[<-Int.natCast_add];refine V.Wit.shrN 1 rfl Od ?_;rw[Nat.pow_one,<-eh];refine zu ?_;refine zcv (hg h w1 Oo he) ?_;rintro r w2 ⟨rfl,he2⟩;have he:=he.trans he2;cases hph:p h
  ·rw[Aa (by rw[hph];decide)]at hb;refine zu ?_;refine⟨(h+1,b),fq,⟨by show h+1<=b;omega,h2,⟨f',by show b-(h+1)<=f';omega,hb⟩,he⟩,by show b-(h+1)<b-a;omega⟩
  ·rw[Ad hph]at hb;refine zu ?_;refine⟨(a,h),fq,⟨by show a<=h;omega,by show h<=n;omega,⟨f',by show h-a<=f';omega,hb⟩,he⟩,by show h-a<b-a;omega⟩
 ·obtain rfl:a=b:=by omega
  rw[qvc]at hb;exact⟨by rw[<-hb],he⟩
theorem qsf(b off i lo wd cp:Nat)(x:Int)(b4 b5 b7:Nat)(P:oA)(p:LB)(w:Ez)(h1:w.cell? ⟨b,off+1,none⟩=some (ii wd))(h5:w.cell? ⟨b,off+5,none⟩=some (.slice P p.length cp))(hP:SlAt encB 1 w P p)(hw:wd<=23)(hi:lo+i<=4194304)(g4:w.cell? ⟨b4,0,none⟩=some (.pointer (some ⟨b,off,none⟩)))(g5:w.cell? ⟨b5,0,none⟩=some (ii lo))(g7:w.cell? ⟨b7,0,none⟩=some (ii x)):
  Gv EG 258 [ii i,pp b4,pp b5,pp b7] w fun r w'=>r=.bool (decide (x<=(numP p wd (lo+i):Int)))/\Ext w w':=by
 refine ze Tryz.func258 Tryz.ntmps258 ?_;refine DrawV.free Jk Jk (zw ?_);refine zf ?_ (by intro wd hd;(conv=>whnf);refine LoadV.of (Ext.cell (Ext.trans (Ext.drew xr) hd) g4) ?_;(conv=>whnf);exact xq);refine zf ?_ (by intro wd hd;(conv=>whnf);refine LoadV.of (Ext.cell (Ext.trans (Ext.drew xr) hd) g5) ?_;(conv=>whnf);exact xq);refine zd ?_;refine zd ?_;apply zsd (ii (numP p wd (lo+i)))
 ·intro wd' hd;(conv=>whnf);rw[show((lo:Int)+(i:Int))=((lo+i:Nat):Int)by omega];refine zcv (qbs b off (lo+i) wd cp P p wd' (((Ext.refl w).drew.trans hd).cell h1) (((Ext.refl w).drew.trans hd).cell h5) (hP.ext ((Ext.refl w).drew.trans hd)) hw hi) ?_;rintro r w2 ⟨rfl,he2⟩;exact⟨he2,rfl⟩
 (conv=>whnf);refine zf ?_ (by intro wd hd;(conv=>whnf);refine LoadV.of (Ext.cell (Ext.trans (Ext.drew xr) hd) g7) ?_;(conv=>whnf);exact xq);refine zd ?_;refine zd ?_;intro w2 he2;(conv=>whnf);exact⟨rfl,(Ext.refl w).drew.trans he2⟩
theorem quf(b off lo hi wd cp:Nat)(x:Int)(P:oA)(p:LB)(w:Ez)(h1:w.cell? ⟨b,off+1,none⟩=some (ii wd))(h5:w.cell? ⟨b,off+5,none⟩=some (.slice P p.length cp))(hP:SlAt encB 1 w P p)(hw:wd<=23)(hlo:lo<=hi)(hhi:hi<=4194304):
  Gv EG 201 [.pointer (some ⟨b,off,none⟩),ii lo,ii hi,ii x] w fun r w'=>r=ii (lo+bsr (fun i=>decide (x<=(numP p wd (lo+i):Int))) (hi-lo) 0 (hi-lo):Nat)/\Ext w w':=by
 obtain⟨q,eq⟩:∃q:Nat->Bool,q=fun i=>decide (x<=(numP p wd (lo+i):Int)):=⟨_,rfl⟩
 rw[<-eq];have hq:=qmr (p:=q) (f:=hi-lo) (a:=0) (b:=hi-lo) (Am _);refine ze Tryz.func201 Tryz.ntmps201 ?_;refine znm (Mem.nil w) fun b4 w1 hm=>zw ?_;refine znm hm fun b5 w2 hm=>zw ?_;refine znm hm fun b7 w3 hm=>zw ?_;have c7:w3.cell? ⟨b7,0,none⟩=some (ii x):=by rw[qa (hm.get mh)];rfl
 have c5:w3.cell? ⟨b5,0,none⟩=some (ii lo):=by rw[qa (hm.get (zmc mh))];rfl
 have c4:w3.cell? ⟨b4,0,none⟩=some (.pointer (some ⟨b,off,none⟩)):=by rw[qa (hm.get (zmc (zmc mh)))];rfl
 refine DrawV.free Jk Jk (zw ?_);refine zf ?_ (by intro wd hd;(conv=>whnf);refine LoadV.of (Ext.cell (Ext.trans (Ext.drew xr) hd) c5) ?_;(conv=>whnf);exact xq);refine zd ?_;refine zf ?_ (by intro wd hd;(conv=>whnf);refine LoadV.of (Ext.cell (Ext.trans (Ext.drew xr) hd) c5) ?_;(conv=>whnf);exact xq);refine zd ?_;refine zd ?_;apply zsd (ii (bsr q (hi-lo) 0 (hi-lo):Nat))
 ·intro wd' hd;have hx:=(Ext.refl w3).drew.trans hd;have hw3:=hm.ext.trans hx;(conv=>whnf);rw[show((hi:Int)-(lo:Int))=((hi-lo:Nat):Int)by omega];have hss:=qsc 258 (pp b4) (pp b5) (pp b7) (hi-lo) q wd' Oo (fun i w' hi' he=>by
   rw[eq];exact qsf b off i lo wd cp x b4 b5 b7 P p w' ((hw3.trans he).cell h1) ((hw3.trans he).cell h5) (hP.ext (hw3.trans he)) hw Oo ((hx.trans he).cell c4) ((hx.trans he).cell c5) ((hx.trans he).cell c7))
  refine zcv (hss) ?_;rintro r w2 ⟨rfl,he2⟩;exact⟨he2,rfl⟩
 (conv=>whnf);refine zd ?_;refine zd ?_;intro w4 he4;(conv=>whnf);exact⟨Af (Value.int .i64) Oo,hm.ext.trans ((Ext.refl w3).drew.trans he4)⟩
theorem qpw(b:Nat)(l:LB)(k i:Nat)(w:Ez)(h:TreeAt w b l)(hk:k+1<4)(hi:i<=1048576)(hvm:tVec l (k+1)=true->vM (qg l (k+1))<=vN (qg l (k+1))):
  Gv EG 203 [pp b,ii k,ii i] w fun r w'=>r=.tuple #[ii (chB l k i).1,ii (chB l k i).2]/\Ext w w':=by
 obtain⟨P,cp,S,cs,V,hc,hP,hS,hl,hv⟩:=(h.lv (k+1) Oo).h;have hn:=h.n (k+1) hk;refine ze Tryz.func203 Tryz.ntmps203 ?_;refine zv ?_;refine IdxV.at_ (k+1) Oo Oo (zw ?_);refine LoadV.cellsE hc 7 (by rw[show tsz EG 229=8 from by kernel_rfl];show 0+0+(k+1)*8+7=8*(k+1)+7;omega) rfl (zw ?_)
 rcases hv with⟨hx|hx,rfl⟩|⟨_,htv,vb,rfl,hvo⟩
 ·omega
 ·refine zu ?_;exact⟨by rw[chB,Aa (by rw[hx];decide)];rfl,xr⟩
 have htv2:=htv;simp only[tVec,AJ,decide_eq_true_eq]at htv2;obtain⟨⟨hvok,hvn⟩,hvmm⟩:=htv2;have hvm:=hvm htv;obtain⟨F,eF⟩:∃F:Nat,F=if 0<i then seB (qg l (k+1)) (i-1)else 0:=⟨_,rfl⟩
 have hch:chB l k i=(F,max F (seB (qg l (k+1)) i)):=by rw[chB,Ad htv,eF]
 rw[hch];have hs1:=qwv (B:=qg l (k+1)) (i-1) hvm;have hs2:=qwv (B:=qg l (k+1)) i hvm;have hF:F<=vN (qg l (k+1)):=by rw[eF];split<;>omega
 (conv=>whnf);refine zt ?_;refine zC (fun _=>zw ?_) (fun _=>zw ?_)
 ·refine LoadV.cellsE hc 7 (by rw[show tsz EG 229=8 from by kernel_rfl];show 0+0+(k+1)*8+7=8*(k+1)+7;omega) rfl (zu ?_);rw[show((i:Int)-1)=((i-1:Nat):Int)by omega];refine zcv (qgy (qg l (k+1)) S cs vb (i-1) w hS hl hvok (by rw[hvn,hvmm];exact hvo) hvm Oo) ?_;rintro r w1 ⟨rfl,he1⟩;refine zu ?_;refine LoadV.cellsE (hc.ext he1) 7 (by rw[show tsz EG 229=8 from by kernel_rfl];show 0+0+(k+1)*8+7=8*(k+1)+7;omega) rfl (zw ?_);refine zcv (qgy (qg l (k+1)) S cs vb i w1 (hS.ext he1) hl hvok (by rw[hvn,hvmm];exact he1.get hvo) hvm Oo) ?_;rintro r w2 ⟨rfl,he2⟩;refine zu ?_;refine V.Fall.max2 rfl rfl rfl fun m hm=>?_;subst hm;(conv=>whnf);refine⟨?_,he1.trans he2⟩;rw[Ad Oo]at eF;rw[show((seB (qg l (k+1)) (i-1):Int)-1+1)=(F:Int)by omega,show max (F:Int) ((seB (qg l (k+1)) i:Int)-1+1)=((max F (seB (qg l (k+1)) i):Nat):Int)by omega]
 ·refine LoadV.cellsE hc 7 (by rw[show tsz EG 229=8 from by kernel_rfl];show 0+0+(k+1)*8+7=8*(k+1)+7;omega) rfl (zw ?_);refine zcv (qgy (qg l (k+1)) S cs vb i w hS hl hvok (by rw[hvn,hvmm];exact hvo) hvm Oo) ?_;rintro r w2 ⟨rfl,he2⟩;refine zu ?_;refine V.Fall.max2 rfl rfl rfl fun m hm=>?_;subst hm;(conv=>whnf);refine⟨?_,he2⟩;rw[Aa Oo]at eF;subst eF;rw[show max (0:Int) ((seB (qg l (k+1)) i:Int)-1+1)=((max 0 (seB (qg l (k+1)) i):Nat):Int)by omega];rfl
open Go.RowKit
namespace V
section
variable {P:E4} {n:Nat} {r:Option Nat}
theorem qabs{row:String}(h:Rows P row args w R):RowsIn (Fr r) 0 P row args w R:=fun c cs _=>by
 obtain⟨v,w',hr,s⟩:=h c cs;exact⟨v,w',hr,(stepsIn_wide.2 s:StepsIn (Machine.fenced P Fence.wide) P _ _)⟩
theorem qnn(hnd:r=none\/∀c,o.op≠.defer c){K:Act->EC}{Q Q2:Exit->Act->EC}(hQ:∀e a w,Q e a w->e=.normal)(hK:∀a w,K a w->K2 { a with defers:=a.defers++ds } w)(h:o.wp P a w K Q):o.wpIn (Fr r) 0 P { a with defers:=a.defers++ds } w K2 Q2:=by
 refine⟨fun _ _=>trivial,?_⟩;have he:({ a with defers:=a.defers++ds }:Act).eval=a.eval:=by funext x;cases x<;>rfl
 have hs:o.semAt (Fr r).round a.eval=execOp a.eval o:=by
  rcases hnd with rfl|hnd
  ·exact Oper.semAt_none _ _
  ·exact Oper.semAt_eq _ _ _ hnd
 rw[he,hs];unfold Oper.wp at h;have hp:∀v,({ a with defers:=a.defers++ds }:Act).put o.dst v={ a.put o.dst v with defers:=(a.put o.dst v).defers++ds }:=fun v=>by cases o.dst<;>rfl
 generalize(execOp a.eval o).run P w=res at h;cases res with
 | ok nx w'=>
  cases nx with
  | value v=>show K2 _ _;rw[hp];exact hK _ _ h
  | skip=>show K2 _ _;rw[hp];exact hK _ _ h
  | defer d=>
   have h1:=hK _ _ h;show K2 _ _;cases hd:o.dst with
   | none=>rw[hd]at h1;exact h1
   | some t=>rw[hd]at h1;exact h1
  | enter f args=>
   refine⟨fun h=>by simp[Fr]at h,qc6.2 (Calls.mono h fun e w'' he=>?_)⟩;cases e with
   | returned v=>dsimp only at he|-;rw[hp];exact hK _ _ he
   | panicked ch=>have:=hQ _ _ _ he;cases this
   | outgrown=>obtain⟨a',w',hq⟩:=he;have:=hQ _ _ _ hq;cases this
  | row row args=>
   refine⟨fun h=>by simp[Fr]at h,qabs (Rows.mono h fun v w'' he=>?_)⟩;rw[hp];exact hK _ _ he
  | _=>exact h.elim
 | halt x w'=>
  cases x with
  | panic v=>have:=hQ _ _ _ h;cases this
  | _=>exact h.elim
def q15(ops:List Oper):Bool:=ops.all fun o=>match o.op with
 | .defer _=>false
 | _=>true
theorem qwd{ops:List Oper}(h:q15 ops=true)(ho:o∈ops):∀c,o.op≠.defer c:=by
 intro c e;have:=Ce.1 h o ho;rw[e]at this;cases this
theorem qu5{ops:Array Oper}(hnd:r=none\/q15 ops.toList=true){ds:EI}{Q Q2:Exit->Act->EC}(hQ:∀e a w,Q e a w->e=.normal)(hk:∀a w,Q .normal a w->Q2 .normal { a with defers:=a.defers++ds } w):∀(fuel:Nat) (listed:Array Bool) (a:Act) (w:Ez),wpAny P .any ops Q fuel listed a w->
  wpAnyIn (Fr r) 0 P .any ops Q2 fuel listed { a with defers:=a.defers++ds } w
 | 0,_,_,_,h=>⟨h.1,hk _ _ h.2⟩
 | fuel+1,listed,a,w,h=>by
  refine⟨fun hr=>hk _ _ (h.1 hr),fun i hi=>?_⟩;have h1:=h.2 i hi;unfold wpOp at h1;unfold wpOpIn;cases ho:ops[i]? with
  | none=>rw[ho]at h1;exact qu5 hnd hQ hk fuel _ _ _ h1
  | some o=>
   rw[ho]at h1;dsimp only at h1|-;have hno:r=none\/∀c,o.op≠.defer c:=hnd.imp_right fun hn=>qwd hn (Cg.2 (Eb ho))
   split
   ·rename_i hw
    rw[Ad hw]at h1
    rcases h1 with h1|⟨_,a',w',hq⟩
    ·exact qnn hno hQ (fun a w h=>qu5 hnd hQ hk fuel _ a w h) h1
    ·have:=hQ _ _ _ hq;cases this
   ·rename_i hw
    rw[Aa hw]at h1;refine⟨fun _ _=>trivial,?_⟩;have hp:({ a with defers:=a.defers++ds }:Act).put o.dst undef={ a.put o.dst undef with defers:=(a.put o.dst undef).defers++ds }:=by cases o.dst<;>rfl
    rw[hp];exact qu5 hnd hQ hk fuel _ _ _ h1
structure AnyV(P:E4)(n:Nat)(ops:Array Oper)(R:EB->EC)(ρ:EB)(w:Ez):Prop where
 h:∀a,St n ρ a->wpAny P .any ops (fun e a' w'=>e=.normal/\∃ρ',St n ρ' a'/\R ρ' w') ops.size (Array.replicate ops.size false) a w.drew
theorem DrawW.any{Q:QW}(hm:P.follows .mixedOrders=true)(hnd:r=none\/q15 ops.toList=true)(h:AnyV P n ops (fun ρ' w'=>Q .normal ρ' ds w') ρ w):DrawW P n r id ops Q ρ ds w:=by
 refine⟨fun a ha hd=>wpIn_region_any hm ?_⟩;have e:a={ ({ a with defers:=[] }:Act)with defers:=({ a with defers:=[] }:Act).defers++ds }:=by subst hd;rfl
 have h1:=qu5 (r:=r) (ds:=ds) (Q2:=qez n Q) hnd (fun _ _ _ h=>h.1) (fun a' w' h=>?_) _ _ _ _ (h.h { a with defers:=[] } ha)
 ·rw[<-e]at h1;exact h1
 ·obtain⟨_,ρ',hs,hq⟩:=h;have hd':a'.defers++ds=ds:=by rw[hs.defers];rfl
  refine⟨ρ',?_,?_⟩
  ·show St n ρ' { a' with defers:=[] };have:({ a' with defers:=[] }:Act)=a':=by have:=hs.defers;cases a';cases this;rfl
   rw[this];exact hs
  ·show Q .normal ρ' (a'.defers++ds) w';rw[hd'];exact hq
theorem AnyV.free{R:EB->EC}(hB:qjt n ops=true)(h:regD P ops.toList w.drew R ops.toList 0 [] ρ):AnyV P n ops R ρ w:=by
 refine⟨fun a ha=>?_⟩;obtain⟨E,h1,h2,h3⟩:=qkj ops.toList [] [] ρ (fun k=>rfl) h;refine qnm (Q:=R) (E:=E) (w0:=w.drew) (ρ:=ρ) (fun ρ a w h1 h2=>⟨rfl,ρ,h1,h2⟩) (qd4 hB) (by simpa using h1) (fun i o e ho he=>?_) (by simpa using h3) _ _ (fun _=>undef) ρ a _ Js Js ⟨xr,ha,?_,?_,fun t _=>rfl⟩
 ·have:=h2 i o e (by simpa using ho) he
  simpa using this
 ·intro k hk;rw[qc]at hk;cases hk
 ·intro k hk;rw[qc]at hk;cases hk
theorem AnyV.gen{R:EB->EC}(I:(Nat->Bool)->EB->EC)(hB:qjt n ops=true)(h0:∀vals,I (fun j=>Nat.ble ops.size j) vals w.drew)(h:regG P ops.toList I R ops.toList 0 [] ρ):AnyV P n ops R ρ w:=by
 refine⟨fun a ha=>?_⟩;obtain⟨E,h1,h2,h3⟩:=qpq ops.toList [] [] ρ (AgreeG.mk (fun _ _ h=>by cases h) (fun _ _ _ h=>by simp at h)) h;refine qsk (I:=I) (Q:=R) (E:=E) (w0:=w.drew) (ρ:=ρ) (fun ρ a w h1 h2=>⟨rfl,ρ,h1,h2⟩) (qd4 hB) (by simpa using h1) (fun i o e ho he=>?_) (by simpa using h3) _ _ (fun _=>undef) ρ a _ Js Js ⟨xr,ha,?_,?_,fun t _=>rfl⟩ ?_
 ·have:=h2 i o e (by simpa using ho) he
  simpa using this
 ·intro k hk;rw[qc]at hk;cases hk
 ·intro k hk;rw[qc]at hk;cases hk
 ·have:(fun j=>(Array.replicate ops.size false).getD j true)=fun j=>Nat.ble ops.size j:=by
   funext j
   rcases AX j ops.size with hj|hj
   ·have h2:Nat.ble ops.size j=false:=Bx.2 fun e=>by have:=CT e;omega
    simp[hj,h2]
   ·rw[DC hj];simp[hj]
  rw[this];exact h0 _
structure BeginA(J:ED->EC)(l:Nat)(ob ob':Obj)(w:Ez)(ds:EI)(K:EC):Prop where
 d:ds=[]
 h:∃Y,J ((l,ob)::Y) w/\∀w2,J ((l,ob')::Y) w2->K w2
def q1z(D:Nat):Deferred:={ target:=.collected D,args:=#[] }
def qadq(D:Nat):Nat×Obj:=(D,.deferred (some []))
theorem qjn{fn:Func}{R:E9}{ρ:EB}{J:ED->EC}(hJ:Carr J)(hk:∀w',J [] w'->resV fn.results ρ w' fn R P n):
  ∀(Ds:EF) (w:Ez),J (Ds.map qadq) w->qm0 P n fn R ρ (Ds.map q1z) w
 | [],w,h=>hk w h
 | D::Ds,w,h=>by
  show LeaveV P n fn R ρ (q1z D::Ds.map q1z) w;refine LeaveV.mark (hJ.get h mh) fun w' hw=>?_;subst hw;exact qjn hJ hk Ds _ (hJ.drop (hJ.set _ h))
theorem Carr.setM(h:Carr J){A B:ED}{o:Obj}(o':Obj)(k:J (A++(b,o)::B) w):J (A++(b,o')::B) (setO w b o'):=
 h.perm (h.set o' (h.perm k BO)) BO.symm
theorem LeaveV.marks{fn:Func}(hJ:Carr J)(hk:∀w',J [] w'->resV fn.results ρ w' fn R P n){D:Nat}{Ds:EF}(h:J ((D::Ds).map qadq) w):
  LeaveV P n fn R ρ (q1z D::Ds.map q1z) w:=qjn hJ hk (D::Ds) w h
theorem Carr.dropM(h:Carr J){A B:ED}{x:Nat×Obj}(k:J (A++x::B) w):J (A++B) w:=h.drop (h.perm k BO)
theorem qr6{v:E8}{t:E6}{fr:Nat×Nat}(h:w.heap[b]?=some (.cells cs t fr)):w.setCell ⟨b,off,none⟩ v=setO w b (.cells (cs.setIfInBounds off v) t fr):=by
 unfold World.setCell setO
 congr 1
 apply Array.ext_getElem?;intro i
 by_cases hi:i=b
 ·subst hi;have hlt:i<w.heap.size:=by
   rcases AX i w.heap.size with h' | h'
   ·exact h'
   ·rw[Bd h']at h;cases h
  rw[Dm,Ad rfl,h,DF hlt];rfl
 ·rw[Dm,Aa (fun e=>hi e.symm),CQ (fun e=>hi e.symm)]
theorem StoreV.carr(hJ:Carr J){A B:ED}{t:E6}{v:E8}{K:EC}(h:J (A++(b,.cells cs t)::B) w)(ho:off<cs.size)(h1:qcx v=true)(hk:∀w',J (A++(b,.cells (cs.setIfInBounds off v) t)::B) w'->K w'):StoreV w b off v K:=by
 have hg:=hJ.get h (Ai _ mh);refine StoreV.own hg ho h1 fun w' hw=>hk w' ?_
 rw[hw,qr6 hg];exact hJ.setM _ h
theorem NewV.carr(hJ:Carr J){o:Obj}{K:Nat->EC}(h:J X w)(hk:∀b w',J ((b,o)::X) w'->K b w'):NewV w o K:=
 ⟨fun b w' hb hw=>by subst hb hw;exact hk _ _ (hJ.new o h)⟩
theorem LoadV.carr(hJ:Carr J){t:E6}{fr:Nat×Nat}{v:E8}{K:E8->Prop}(h:J X w)(hx:(b,Obj.cells cs t fr)∈X)(hv:cs[off]?=some v)(hk:K v):LoadV w b off K:=
 LoadV.own (hJ.get h hx) hv hk
end
end V
namespace V
section
variable {P:E4} {n:Nat} {r:Option Nat}
def qru(ops:List Oper):Nat->EF->Bool
 | 0,_=>true
 | j+1,S=>S.contains j&&qru ops j ((match getL ops j with|some o=>qu o|none=>[])++S)
def qab9(m:Nat)(ops:List Oper):Bool:=
 Nat.blt m ops.length&&qru ops m (match getL ops m with|some o=>qu o|none=>[])&&(List.range ops.length).all fun j=>
  match getL ops j with
  | none=>true
  | some o=>(qu o).all (fun k=>Nat.blt k j)&&(Nat.ble j m||(qu o).contains (j-1))&&(Nat.ble m j||(match o.guard with|none=>true|some (g,_)=>Nat.blt g m))
structure TailP(m:Nat)(ops:Array Oper):Prop where
 msz:m<ops.size
 reach:∀o,ops[m]?=some o->qru ops.toList m (qu o)=true
 lt:∀(j:Nat) (o:Oper),ops[j]?=some o->∀k∈qu o,k<j
 next:∀(j:Nat) (o:Oper),ops[j]?=some o->m<j->j-1∈qu o
 guard:∀(j:Nat) (o:Oper) (g:Nat) (b:Bool),ops[j]?=some o->j<m->o.guard=some (g,b)->g<m
theorem q6x(h:qab9 m ops.toList=true):TailP m ops:=by
 simp only[qab9,AJ]at h;obtain⟨⟨h1,h2⟩,h3⟩:=h;have hm:m<ops.size:=by simpa using h1
 have key:∀(j:Nat) (o:Oper),ops[j]?=some o->(qu o).all (fun k=>Nat.blt k j)=true/\(Nat.ble j m||(qu o).contains (j-1))=true/\(Nat.ble m j||(match o.guard with|none=>true|some (g,_)=>Nat.blt g m))=true:=fun j o ho=>by
  have hj:=(AS.1 ho).1;have:=Ce.1 h3 j (BY.2 (by simpa using hj));rw[qm,Cj,ho]at this;simp only[AJ]at this;exact⟨this.1.1,this.1.2,this.2⟩
 refine⟨hm,fun o ho=>?_,fun j o ho k hk=>?_,fun j o ho hj=>?_,fun j o g b ho hj hg=>?_⟩
 ·rw[qm,Cj,ho]at h2;exact h2
 ·simpa using Ce.1 (key j o ho).1 k hk
 ·have:=(key j o ho).2.1;rw[CA]at this
  rcases this with h|h
  ·have:=CT h;omega
  ·simpa using h
 ·have:=(key j o ho).2.2;rw[hg,CA]at this
  rcases this with h|h
  ·have:=CT h;omega
  ·simpa using h
theorem qwn{ops:Array Oper}{p:Nat->Prop}(hc:∀(j:Nat) (o:Oper),ops[j]?=some o->p j->∀k∈qu o,p k):∀(j:Nat) (S:EF),qru ops.toList j S=true->(∀k∈S,p k)->∀k,k<j->p k
 | 0,_,_,_,k,hk=>by omega
 | j+1,S,h,hS,k,hk=>by
  rw[qru,AJ]at h;have hj:p j:=hS j (by simpa using h.1)
  by_cases e:k=j
  ·rw[e];exact hj
  ·refine qwn hc j _ h.2 (fun i hi=>?_) k Oo
   rcases Ba.1 hi with hi|hi
   ·rw[qm,Cj]at hi;cases ho:ops[j]? with
    | none=>rw[ho]at hi;cases hi
    | some o=>rw[ho]at hi;exact hc j o ho hj i hi
   ·exact hS i hi
theorem runK{K:EB->EI->EC}(hi:ops[i]?=some o)(hg:Region.wanted o (yielded ops a.tmps)=true)(ha:Sw n ρ a)(hd:a.defers=ds)(h:runW P n r o K ρ ds w)(hk:∀ρ' ds' a' w',Sw n ρ' a'->a'.defers=ds'->K ρ' ds' w'->K' a' w'):wpOpIn (Fr r) 0 P ops Q' i K' a w:=by
 unfold wpOpIn;rw[hi];dsimp only;rw[Ad hg];refine q8c ha hd h fun v ds' w' hp=>?_;obtain⟨ρ',h1,h2,h3⟩:=ha.put ds' hp;exact hk _ _ _ _ h1 h2 h3
theorem q3b{K:EB->EI->EC}(hi:ops[i]?=some o)(hg:Region.wanted o (yielded ops a.tmps)=false)(ha:Sw n ρ a)(hd:a.defers=ds)(h:qt6 n o K ρ ds w)(hk:∀ρ' ds' a' w',Sw n ρ' a'->a'.defers=ds'->K ρ' ds' w'->K' a' w'):wpOpIn (Fr r) 0 P ops Q' i K' a w:=by
 unfold wpOpIn;rw[hi];dsimp only;rw[Aa (by rw[hg];simp)];refine⟨fun _ _=>trivial,?_⟩;obtain⟨ρ',h1,h2,h3⟩:=ha.put ds h;have e:({ a with defers:=ds }:Act)=a:=by subst hd;rfl
 rw[e]at h1 h2;exact hk _ _ _ _ h1 h2 h3
theorem regK{ops:List Oper}{Q:EB->EI->EC}{rest:List Oper}(hi:ops.toArray[i]?=some o)(ha:Sw n ρ a)(hd:a.defers=ds)(h:regW P n r ops Q (o::rest) ρ ds w)(ih':∀ρ' ds' a' w',Sw n ρ' a'->a'.defers=ds'->regW P n r ops Q rest ρ' ds' w'->K' a' w'):wpOpIn (Fr r) 0 P ops.toArray Q' i K' a w:=by
 unfold regW at h
 split at h
 ·rename_i hg
  exact runK hi (by simp[Region.wanted,hg]) ha hd h ih'
 ·rename_i j want hg
  split at h
  ·rename_i hj
   rw[qm]at hj;refine q3b hi ?_ ha hd h ih';have:ops.toArray[j]?=none:=by simpa using hj
   simp[Region.wanted,hg,yielded,this]
  ·rename_i oj hj
   split at h
   ·rename_i hdd
    refine q3b hi ?_ ha hd h ih';have hj2:=hj;rw[qm]at hj2;have:ops.toArray[j]?=some oj:=by simpa using hj2
    simp[Region.wanted,hg,yielded,this,hdd]
   ·rename_i d hdd
    cases hn:Nat.blt d n<;>rw[hn]at h
    ·exact h.elim
    ·have hn':d<n:=by simpa using hn
     have hy:=ha.yield hj hdd hn';simp only[cond_true]at h
     split at h
     ·rename_i b hb
      rw[hb]at hy;cases b
      ·have h:=h.f rfl;have ha':Sw n _ a:=St.same ha hb;cases want
       ·exact runK hi (by simp[Region.wanted,hg,hy]) ha' hd h ih'
       ·exact q3b hi (by simp[Region.wanted,hg,hy]) ha' hd h ih'
      ·have h:=h.t rfl;have ha':Sw n _ a:=St.same ha hb;cases want
       ·exact q3b hi (by simp[Region.wanted,hg,hy]) ha' hd h ih'
       ·exact runK hi (by simp[Region.wanted,hg,hy]) ha' hd h ih'
     ·rename_i hb
      refine q3b hi ?_ ha hd h ih';have:yielded ops.toArray a.tmps j=none:=by
       rw[hy]
       split
       ·rename_i b hb';exact absurd hb' (hb b)
       ·rfl
      simp[Region.wanted,hg,this]
def qil(i c:Nat):Array Bool:=(List.replicate i true++List.replicate c false).toArray
theorem qoc(d:Bool)(h:j<i):(qil i c).getD j d=true:=by
 simp[qil,AQ (show j<(List.replicate i true).length by simpa using h),h]
theorem q46(h:i<=j):(qil i c).getD j false=false:=by
 rw[qil,BN,Ar,AR (by simpa using h),List.getElem?_replicate]
 split<;>rfl
theorem q45(h:i<=j)(h2:j<i+c):(qil i c).getD j true=false:=by
 rw[qil,BN,Ar,AR (by simpa using h),List.getElem?_replicate,Ad Ys];rfl
theorem qz9(i c:Nat):(qil i (c+1)).setIfInBounds i true=qil (i+1) c:=by
 rw[<-Bf,Co];show(List.replicate i true++List.replicate (c+1) false).set i true=List.replicate (i+1) true++List.replicate c false;rw[DZ _ _ Js,List.length_replicate,CE,List.replicate_succ,List.set_cons_zero,List.replicate_succ',Ak];rfl
theorem qr0{m:Nat}{ops:Array Oper}(hT:TailP m ops){Q:QW}:∀(c i:Nat) (ρ:EB) (ds:EI) (a:Act) (w:Ez),m<=i->i+c=ops.size->Sw n ρ a->a.defers=ds->regW P n r ops.toList (Q .normal) (ops.toList.drop i) ρ ds w->
  wpAnyIn (Fr r) 0 P .any ops (qez n Q) c (qil i c) a w
 | 0,i,ρ,ds,a,w,hmi,hi,ha,hd,h=>by
  refine⟨qfi fun k hk=>qoc _ Oo,ρ,ha,?_⟩;rw[Dg Ys]at h;subst hd;exact h
 | c+1,i,ρ,ds,a,w,hmi,hi,ha,hd,h=>by
  have hlt:i<ops.size:=by omega
  have hoi:ops[i]?=some ops[i]:=Aj hlt;have hrd:i∈Region.ready .any ops (qil i (c+1)):=by
   refine mem_ready.2 ⟨q45 znr Oo,ops[i],hoi,fun e he hb=>qoc _ ?_⟩;rw[qau]at hb;exact hT.lt i _ hoi _ (qab.2 ⟨e,by simpa using he,hb,rfl⟩)
  refine⟨fun hr=>absurd (hr ▸ hrd) (Cu),fun j hj=>?_⟩;obtain⟨h1,o,ho,h2⟩:=mem_ready.1 hj;have hjs:=(AS.1 ho).1;have e:j=i:=by
   rcases AX j i with g|g
   ·rw[qoc _ g]at h1;cases h1
   ·rcases DU g with g|g
    ·exact g.symm
    ·exfalso
     obtain⟨e,he,hb,hon⟩:=qab.1 (hT.next j o ho Oo);have:=h2 e (by simpa using he) (by rw[qau];exact hb);rw[hon,q46 Oo]at this;cases this
  subst e;rw[qz9];have hdr:ops.toList.drop j=ops[j]::ops.toList.drop (j+1):=by
   rw[Bu (by simpa using hjs)];simp
  rw[hdr]at h;have:=regK (ops:=ops.toList) (i:=j) (Q':=qez n Q) (K':=wpAnyIn (Fr r) 0 P .any ops (qez n Q) c (qil (j+1) c)) (by simp) ha hd h fun ρ' ds' a' w' h1 h2 h3=>qr0 hT c (j+1) ρ' ds' a' w' Oo Oo h1 h2 h3
  simpa using this
theorem q4e(hT:TailP m ops)(hnd:r=none\/q15 (ops.toList.take m)=true){Q:QW}:∀(fuel:Nat) (L:Array Bool) (a:Act) (w:Ez),L.size=m->L.toList.count false=fuel->
  (∀(j:Nat) (o:Oper),ops[j]?=some o->L.getD j false=true->∀k∈qu o,L.getD k false=true)->
  wpAny P .any (ops.toList.take m).toArray (fun e a' w'=>e=.normal/\∃ρ',St n ρ' a'/\regW P n r ops.toList (Q .normal) (ops.toList.drop m) ρ' ds w') fuel L a w->
  wpAnyIn (Fr r) 0 P .any ops (qez n Q) (fuel+(ops.size-m)) (L++Array.replicate (ops.size-m) false) { a with defers:=a.defers++ds } w:=by
 intro fuel;have hms:=hT.msz;have hpre:∀j:Nat,j<m->(ops.toList.take m).toArray[j]?=ops[j]?:=fun j hj=>by
  rw[Ar,Bc,Ad hj,Cj]
 have lapp:∀(L:Array Bool),L.size=m->∀(j:Nat) (d:Bool),j<m->(L++Array.replicate (ops.size-m) false).getD j d=L.getD j d:=fun L hL j d hj=>by
  rw[BN,BN,Array.getElem?_append_left Oo]
 have lapp2:∀(L:Array Bool),L.size=m->∀j:Nat,m<=j->(L++Array.replicate (ops.size-m) false).getD j false=false:=fun L hL j hj=>by
  rw[BN,Array.getElem?_append_right Oo,DP]
  split<;>rfl
 have alld:∀(L:Array Bool),L.size=m->L.toList.count false=0->L=Array.replicate m true:=fun L hL h0=>by
  apply Array.ext
  ·simp[hL]
  ·intro i h1 h2;have h3:=CG.1 h0;cases hv:L[i]with
   | true=>simp
   | false=>exact absurd (by rw[<-hv];exact Cg.2 (CL h1)) h3
 have fin:∀(L:Array Bool) (a:Act) (w:Ez),L.size=m->L.toList.count false=0->(∃ρ',St n ρ' a/\regW P n r ops.toList (Q .normal) (ops.toList.drop m) ρ' ds w)->
   wpAnyIn (Fr r) 0 P .any ops (qez n Q) (0+(ops.size-m)) (L++Array.replicate (ops.size-m) false) { a with defers:=a.defers++ds } w:=fun L a w hL h0 ⟨ρ',h1,h2⟩=>by
  rw[alld L hL h0,Aw];have e:Array.replicate m true++Array.replicate (ops.size-m) false=qil m (ops.size-m):=by
   rw[<-Bf,qil];simp
  rw[e];refine qr0 hT (ops.size-m) m ρ' ds _ w znr Oo ?_ ?_ h2
  ·show St n ρ' { a with defers:=[] };have:({ a with defers:=[] }:Act)=a:=by have:=h1.defers;cases a;cases this;rfl
   rw[this];exact h1
  ·show a.defers++ds=ds;rw[h1.defers];rfl
 induction fuel with
 | zero=>
  intro L a w hL h0 hcl h;exact fin L a w hL h0 h.2.2
 | succ fuel ih=>
  intro L a w hL h0 hcl h;have hrd:∀i,i∈Region.ready .any ops (L++Array.replicate (ops.size-m) false)↔i∈Region.ready .any (ops.toList.take m).toArray L:=by
   intro i
   constructor
   ·intro hi;obtain⟨g1,o,ho,g2⟩:=mem_ready.1 hi;have him:i<m:=by
     refine Nat.lt_of_not_le fun g=>?_;have hpl:∀k∈qu o,(L++Array.replicate (ops.size-m) false).getD k false=true:=fun k hk=>by
      obtain⟨e,he,hb,hon⟩:=qab.1 hk;have:=g2 e (by simpa using he) (by rw[qau];exact hb)
      rwa[hon]at this
     rcases DU g with g|g
     ·subst g;have hall:=qwn (ops:=ops) (p:=fun k=>L.getD k false=true) hcl m _ (hT.reach o ho) fun k hk=>by
       have:=hpl k hk
       rwa[lapp L hL k false (hT.lt _ o ho k hk)]at this
      have hz:L.toList.count false=0:=by
       rw[CG];intro hmem;obtain⟨k,hk,e⟩:=Cw.1 hmem;have hk':k<L.size:=by simpa using hk
       have:=hall k Oo;simp[hk']at this e;rw[this]at e;cases e
      omega
     ·have:=hpl _ (hT.next i o ho g);rw[lapp2 L hL _ Oo]at this;cases this
    refine mem_ready.2 ⟨by rw[lapp L hL i true him]at g1;exact g1,o,by rw[hpre i him];exact ho,fun e he hb=>?_⟩;have h1:=g2 e he hb
    rwa[lapp L hL _ _ (Nat.lt_trans (hT.lt i o ho _ (qab.2 ⟨e,by simpa using he,by rw[<-qau];exact hb,rfl⟩)) him)]at h1
   ·intro hi;obtain⟨g1,o,ho,g2⟩:=mem_ready.1 hi;have him:i<m:=by
     have:=(AS.1 ho).1;simp at this;omega
    rw[hpre i him]at ho;refine mem_ready.2 ⟨by rw[lapp L hL i true him];exact g1,o,ho,fun e he hb=>?_⟩;rw[lapp L hL _ _ (Nat.lt_trans (hT.lt i o ho _ (qab.2 ⟨e,by simpa using he,by rw[<-qau];exact hb,rfl⟩)) him)];exact g2 e he hb
  have hne:∃i,i∈Region.ready .any ops (L++Array.replicate (ops.size-m) false):=by
   have hmem:false∈L.toList:=List.count_pos_iff.1 Oo;obtain⟨k,hk,e⟩:=Cw.1 hmem;have hk':k<L.size:=by simpa using hk
   have hex:∃k,k<m/\L.getD k false=false:=⟨k,by omega,by simp[hk']at e|-;exact e⟩
   have least:∀k,k<m->L.getD k false=false->∃i,i∈Region.ready .any ops (L++Array.replicate (ops.size-m) false):=by
    intro k
    induction k using Nat.strongRecOn with
    | _ k ihk=>
     intro hkm hkf;have ho:ops[k]?=some ops[k]:=Aj Oo
     by_cases hall:∀p∈qu ops[k],L.getD p false=true
     ·refine⟨k,mem_ready.2 ⟨?_,ops[k],ho,fun e he hb=>?_⟩⟩
      ·rw[lapp L hL k true hkm,qb4 Oo];exact hkf
      ·have hp:e.on∈qu ops[k]:=qab.2 ⟨e,by simpa using he,by rw[<-qau];exact hb,rfl⟩;rw[lapp L hL _ _ (Nat.lt_trans (hT.lt k _ ho _ hp) hkm)];exact hall _ hp
     ·obtain⟨p,hp⟩:=Classical.not_forall.1 hall;obtain⟨hp1,hp2⟩:=Classical.not_imp.1 hp;have:=hT.lt k _ ho p hp1;exact ihk p this Oo (by simpa using hp2)
   obtain⟨k,h1,h2⟩:=hex;exact least k h1 h2
  rw[show fuel+1+(ops.size-m)=(fuel+(ops.size-m))+1 by omega];refine⟨fun hr=>(by obtain⟨i,hi⟩:=hne;rw[hr]at hi;cases hi),fun i hi=>?_⟩;have hi':=(hrd i).1 hi;obtain⟨g1,o,ho,g2⟩:=mem_ready.1 hi';have him:i<m:=by
   have:=(AS.1 ho).1;simp at this;omega
  have ho2:=ho;rw[hpre i him]at ho2;have h1:=h.2 i hi';have hLs:(L++Array.replicate (ops.size-m) false).setIfInBounds i true=L.setIfInBounds i true++Array.replicate (ops.size-m) false:=by
   rw[<-Bf];simp only[Co,DO];rw[List.set_append_left _ _ (by simpa[hL]using him)]
  have hun:L.getD i true=false:=g1;have hcnt:=V.countP_set L i hun;have ih2:∀a' w',wpAny P .any (ops.toList.take m).toArray (fun e a' w'=>e=.normal/\∃ρ',St n ρ' a'/\regW P n r ops.toList (Q .normal) (ops.toList.drop m) ρ' ds w') fuel (L.setIfInBounds i true) a' w'->
    wpAnyIn (Fr r) 0 P .any ops (qez n Q) (fuel+(ops.size-m)) ((L++Array.replicate (ops.size-m) false).setIfInBounds i true) { a' with defers:=a'.defers++ds } w':=fun a' w' hw=>by
   rw[hLs];refine ih _ a' w' (by simp[hL]) Oo (fun j oj hoj hlj k hk=>?_) hw
   by_cases hij:i=j
   ·subst hij;rw[ho2]at hoj;cases hoj;obtain⟨e,he,hb,hon⟩:=qab.1 hk;have:=g2 e (by simpa using he) (by rw[qau];exact hb);rw[hon]at this;exact getD_set_true this
   ·rw[getD_set_ne false hij]at hlj;exact getD_set_true (hcl j oj hoj hlj k hk)
  have hwant:∀tm,Region.wanted o (yielded ops tm)=Region.wanted o (yielded (ops.toList.take m).toArray tm):=fun tm=>by
   cases hg:o.guard with
   | none=>simp[Region.wanted,hg]
   | some gb=>
    obtain⟨g,b⟩:=gb;have:=hT.guard i o g b ho2 him hg;have e:yielded ops tm g=yielded (ops.toList.take m).toArray tm g:=by
     unfold yielded;rw[hpre g this]
    simp only[Region.wanted,hg,e]
  have hno:r=none\/∀c,o.op≠.defer c:=hnd.imp_right fun hn=>qwd hn (by
   have:=zmg (show(ops.toList.take m)[i]?=some o by rw[<-Ar];exact ho);exact this)
  unfold wpOp at h1;unfold wpOpIn;rw[ho]at h1;rw[ho2];dsimp only at h1|-;rw[hwant]
  split
  ·rename_i hw
   rw[Ad hw]at h1
   rcases h1 with h1|⟨_,a',w',hq⟩
   ·exact qnn hno (fun _ _ _ h=>h.1) ih2 h1
   ·have:=hq.1;cases this
  ·rename_i hw
   rw[Aa hw]at h1;refine⟨fun _ _=>trivial,?_⟩;have hp:({ a with defers:=a.defers++ds }:Act).put o.dst undef={ a.put o.dst undef with defers:=(a.put o.dst undef).defers++ds }:=by cases o.dst<;>rfl
   rw[hp];exact ih2 _ _ h1
theorem AnyV.freeW{R:EB->EC}(hB:qr7 n ops=true)(h:regD P ops.toList w.drew R ops.toList 0 [] ρ):AnyV P n ops R ρ w:=by
 refine⟨fun a ha=>?_⟩;obtain⟨E,h1,h2,h3⟩:=qkj ops.toList [] [] ρ (fun k=>rfl) h;refine ql9 (Q:=R) (E:=E) (w0:=w.drew) (ρ:=ρ) (fun ρ a w h1 h2=>⟨rfl,ρ,h1,h2⟩) (qlz hB) (by simpa using h1) (fun i o e ho he=>?_) (by simpa using h3) _ _ (fun _=>undef) ρ a _ Js Js (fun k hk=>by rw[qc]at hk;cases hk) ⟨xr,ha,?_,?_,fun t _=>rfl⟩
 ·have:=h2 i o e (by simpa using ho) he
  simpa using this
 ·intro k hk;rw[qc]at hk;cases hk
 ·intro k hk;rw[qc]at hk;cases hk
theorem DrawW.tail{Q:QW}(m:Nat)(hm:P.follows .mixedOrders=true)(hB:qab9 m ops.toList=true)(hnd:r=none\/q15 (ops.toList.take m)=true)(h:AnyV P n (ops.toList.take m).toArray (fun ρ' w'=>regW P n r ops.toList (Q .normal) (ops.toList.drop m) ρ' ds w') ρ w):DrawW P n r id ops Q ρ ds w:=by
 refine⟨fun a ha hd=>wpIn_region_any hm ?_⟩;have hT:=q6x hB;have hms:=hT.msz;have e:a={ ({ a with defers:=[] }:Act)with defers:=({ a with defers:=[] }:Act).defers++ds }:=by subst hd;rfl
 have hsz:(ops.toList.take m).toArray.size=m:=by simp;omega
 have h0:=h.h { a with defers:=[] } ha;rw[hsz]at h0;have h1:=q4e (r:=r) (Q:=Q) hT hnd m (Array.replicate m false) { a with defers:=[] } w.drew Js Js (fun j o _ hl=>by rw[qc]at hl;cases hl) h0;rw[<-e]at h1;have e2:m+(ops.size-m)=ops.size:=by omega
 have e3:Array.replicate m false++Array.replicate (ops.size-m) false=Array.replicate ops.size false:=by
  rw[<-Bf];simp[Nat.add_sub_cancel' (Nat.le_of_lt hms)]
 rw[e2,e3]at h1;exact h1
end
end V
def wkC(tb y:Nat)(P:Nat->Int)(s:WS):EE:=[pp tb,ii (P 0),ii (P 1),ii (P 2),ii (P 3),ii (s.1 0),ii (s.1 1),ii (s.1 2),ii (s.1 3),ii (s.2 0),ii (s.2 1),ii (s.2 2),ii (s.2 3),.func (.yield y) #[] #[]]
def wkO(tb y:Nat)(P:Nat->Int)(s:WS):Obj:=.cells (wkC tb y P s).toArray 241
def mAgg(q:Nat->Nat):E8:=.agg #[ii (q 0),ii (q 1),ii (q 2),ii (q 3)]
def mRow(r:Nat×(Nat->Nat)):EE:=[ii r.1,mAgg r.2]
section
variable {tb y:Nat} {P:Nat->Int} {s:WS} {k:Nat}
theorem qaeq(hk:k<4):(wkC tb y P s).toArray[1+k]?=some (ii (P k)):=by
 match k,hk with
 | 0,_=>rfl
 | 1,_=>rfl
 | 2,_=>rfl
 | 3,_=>rfl
theorem qacl(hk:k<4):(wkC tb y P s).toArray[5+k]?=some (ii (s.1 k)):=by
 match k,hk with
 | 0,_=>rfl
 | 1,_=>rfl
 | 2,_=>rfl
 | 3,_=>rfl
theorem qacm(hk:k<4)(v:Nat):(wkC tb y P s).toArray.setIfInBounds (5+k) (ii v)=(wkC tb y P (updN s.1 k v,s.2)).toArray:=by
 match k,hk with
 | 0,_=>rfl
 | 1,_=>rfl
 | 2,_=>rfl
 | 3,_=>rfl
theorem qacn(hk:k<4)(v:Nat):(wkC tb y P s).toArray.setIfInBounds (9+k) (ii v)=(wkC tb y P (s.1,updN s.2 k v)).toArray:=by
 match k,hk with
 | 0,_=>rfl
 | 1,_=>rfl
 | 2,_=>rfl
 | 3,_=>rfl
end
theorem V.LoadA.part{size:Nat}{t:E6}{fr:Nat×Nat}{K:EE->Prop}(h:w.heap[b]?=some (.cells cs t fr))(hs:vs.length=size)(hv:∀i,i<size->cs[off+i]?=vs[i]?)(hk:K vs):LoadA w b off size K:=
 ⟨vs,hs,fun j hj=>by rw[qa h];exact hv j hj,hk⟩
def RowsAt(xs:List EE)(j:Nat)(R:List (Nat×(Nat->Nat))):Prop:=∀t row,R[t]?=some row->xs[j+t]?=some (mRow row)
theorem RowsAt.left{xs:List EE}{R S:List (Nat×(Nat->Nat))}(h:RowsAt xs j (R++S)):RowsAt xs j R:=fun t row ht=>h t row (by rw[AQ (Ae.1 ht).1];exact ht)
theorem RowsAt.right{xs:List EE}{R S:List (Nat×(Nat->Nat))}(h:RowsAt xs j (R++S)):RowsAt xs (j+R.length) S:=fun t row ht=>by
 rw[C7];exact h _ row (by rw[AR Oo,Dc];exact ht)
def PastOk(s:WS):Prop:=∀k,k<4->s.1 k<=1048576
theorem PastOk.upd{s:WS}(h:PastOk s){v:Nat}(hv:v<=1048576):PastOk (updN s.1 k v,s.2):=fun i hi=>by
 show updN s.1 k v i<=_;unfold updN
 split
 ·exact hv
 ·exact h i hi
theorem qv1{f:Nat->WS->WR}(hf:∀i s,PastOk s->PastOk (f i s).2):∀m i s,PastOk s->PastOk (goL f m i s).2
 | 0,_,_,h=>h
 | m+1,i,s,h=>qv1 hf m (i+1) _ (hf i s h)
theorem qv9{T:LvD}(hN:∀k,k<4->T.N k<=1048576){P:Nat->Int}{f:Nat->WS->WR}(hk:k<4)(hf:∀i s,PastOk s->PastOk (f i s).2){s:WS}(h:PastOk s):PastOk (lvS T P f k lo hi s).2:=by
 rw[lvS]
 split
 ·exact h
 ·refine qv1 (f:=fun i s=>f i (s.1,updN s.2 k (T.nu k i))) (fun i s hs=>hf i _ hs) _ _ _ (h.upd ?_);have:=hN k hk;omega
theorem qo2{T:LvD}(hN:∀k,k<4->T.N k<=1048576){P:Nat->Int}:∀{d k lo hi:Nat} {s:WS},k+d=3->PastOk s->PastOk (lvG T P d k lo hi s).2
 | 0,k,lo,hi,s,hk,h=>qv9 hN Oo (fun _ _ h=>h) h
 | d+1,k,lo,hi,s,hk,h=>qv9 hN Oo (fun i s h=>qo2 hN Oo h) h
section
variable (tb wb y:Nat) (l:LB) (P:Nat->Int) (xs:List EE) (I Ix:Nat->ED->EC)
theorem q1r(cI:∀k,Carr (I k))(_:∀k,Carr (Ix k))(hΦ:∀k X w,I k X w->TreeAt w tb l)(hvm:∀k,k<3->tVec l (k+1)=true->vM (qg l (k+1))<=vN (qg l (k+1)))(hP:∀k,k<4->InR .i64 (P k))(hy:∀k x X w,xs[k]?=some x->I k X w->YieldV EG y x w fun v w'=>(v=.bool true/\I (k+1) X w')\/(v=.bool false/\Ix k X w')):
  ∀(d k lo hi j:Nat) (s:WS) (X:ED) (w:Ez),k+d=3->lo<=1048576->hi<=1048576->PastOk s->RowsAt xs j (lvG (treD l) P d k lo hi s).1->I j ((wb,wkO tb y P s)::X) w->
  Gv EG 145 [pp wb,ii k,ii lo,ii hi] w fun r w'=>
   (r=.bool true/\I (j+(lvG (treD l) P d k lo hi s).1.length) ((wb,wkO tb y P (lvG (treD l) P d k lo hi s).2)::X) w')\/
   (r=.bool false/\∃j' s',j'<j+(lvG (treD l) P d k lo hi s).1.length/\Ix j' ((wb,wkO tb y P s')::X) w'):=by
 have t1:tsz EG 3=1:=by kernel_rfl
 have t8:tsz EG 229=8:=by kernel_rfl
 intro d
 induction d using Nat.strongRecOn with
 | _ d ih=>
 intro k lo hi j s X w hkd hlo hhi hpo hR hI;obtain⟨F,eF,hF0,hF1⟩:∃F:Nat->WS->WR,lvG (treD l) P d k lo hi s=lvS (treD l) P F k lo hi s/\(d=0->∀i s,F i s=([(i,s.2)],s))/\(∀d',d=d'+1->∀i s,F i s=lvG (treD l) P d' (k+1) (chB l k i).1 (chB l k i).2 s):=by
  cases d with
  | zero=>exact⟨_,rfl,fun _ _ _=>rfl,fun _ h=>by cases h⟩
  | succ d=>exact⟨_,rfl,fun h=>by(cases h),fun d' h i s=>by cases h;rfl⟩
 rw[eF]at hR|-;clear eF;have hk:k<4:=by omega
 have hn:=(hΦ _ _ _ hI).n k hk;have hwd:=(hΦ _ _ _ hI).wd k hk;have hFp:∀i s,PastOk s->PastOk (F i s).2:=fun i s hs=>by
  cases d with
  | zero=>rw[hF0 rfl];exact hs
  | succ d=>rw[hF1 d rfl];exact qo2 (T:=treD l) (fun k hk=>(hΦ _ _ _ hI).n k hk) Oo hs
 have hsk:=hpo k hk;unfold lvS at hR|-;obtain⟨a,ea⟩:∃a,a=max lo (s.1 k):=⟨_,rfl⟩
 obtain⟨b,eb⟩:∃b,b=min hi ((treD l).N k):=⟨_,rfl⟩
 have eb':b=min hi (vNum l k):=eb;rw[<-ea,<-eb]at hR|-;have hlv:=fun X w (h:I j X w)=>((hΦ _ _ _ h).lv k hk).h
 refine gvW Jk Tryz.func145 rfl Tryz.ntmps145 rfl (zw ?_);refine LoadV.own ((cI _).get hI mh) rfl (zw ?_);refine IdxV.at_ k rfl hk (zw ?_);refine DrawW.any Jk (.inl rfl) (AnyV.freeW Jk ?_);(conv=>whnf);(iterate 5 (refine zd ?_));refine zsd (.pointer (some ⟨wb,5+k,none⟩)) (fun wd hd=>zw ?_) (zw ?_)
 ·refine IdxV.at_ k rfl hk (zw ?_);exact⟨xr,Af (fun o=>Value.pointer (some ⟨wb,o,none⟩)) (by rw[t1];show 0+5+k*1=5+k;omega)⟩
 refine zsd (ii (s.1 k:Nat)) (fun wd hd=>zw ?_) (zw ?_)
 ·refine LoadV.own (Ext.get (Ext.trans (Ext.drew xr) hd) ((cI _).get hI mh)) (qacl hk) (zw ?_);exact xq
 refine zsd (ii (a:Nat)) (fun wd hd=>zw ?_) (zw ?_)
 ·refine V.Fall.max2 rfl rfl rfl fun m hm=>?_;exact⟨xr,Af (Value.int .i64) Oo⟩
 (iterate 4 (refine zd ?_));refine zsd (ii (vNum l k:Nat)) (fun wd hd=>zw ?_) (zw ?_)
 ·obtain⟨PP,cp,S,cs,VV,hc,_⟩:=hlv _ _ hI;refine LoadV.cellsE (hc.ext (Ext.trans (Ext.drew xr) hd)) 0 (by rw[t8];show 0+0+k*8+0=8*k+0;omega) rfl (zw ?_);exact xq
 refine zsd (ii (b:Nat)) (fun wd hd=>zw ?_) (zw ?_)
 ·refine V.Fall.min2 rfl rfl rfl fun m hm=>?_;exact⟨xr,Af (Value.int .i64) Oo⟩
 refine zd ?_;refine zd ?_;intro w1 he1;replace hI:=(cI j).ext hI (Ext.trans (Ext.drew xr) he1);(conv=>whnf);refine zC (fun _=>zu ?_) (fun _=>zu ?_)
 ·refine .inl ⟨rfl,?_⟩;rw[Ad Oo];exact hI
 rw[Aa Oo]at hR|-;refine StoreV.carr (cI j) (A:=[]) hI (by rw[t1];show 0+5+k*1<14;omega) rfl ?_;clear hI;intro w2 hI;have hI:I j ((wb,.cells ((wkC tb y P s).toArray.setIfInBounds (0+5+k*tsz EG 3) (ii (b:Nat))) 241)::X) w2:=hI;rw[t1,show 0+5+k*1=5+k by omega,qacm hk]at hI;have hpo1:PastOk (updN s.1 k b,s.2):=hpo.upd Oo;obtain⟨s1,es1⟩:∃s1:WS,s1=(updN s.1 k b,s.2):=⟨_,rfl⟩
 rw[<-es1]at hI hpo1 hR|-;refine zu ?_;have hpat:(wkC tb y P s1).toArray[0+1+k*tsz EG 3]?=some (ii (P k)):=by
  rw[t1,show 0+1+k*1=1+k by omega];exact qaeq hk
 refine LoadV.own ((cI j).get hI mh) hpat ?_;have hPk:=hP k hk;have hoff:0+0+k*tsz EG 229=8*k:=by rw[t8];omega
 (conv=>whnf);refine zC (fun _=>zw ?_) (fun _=>zw ?_)
 case' refine_1=>
  obtain⟨PP,cp,S,cs,VV,hc,hPP,_⟩:=hlv _ _ hI;have h1:w2.cell? ⟨tb,(0+0+k*tsz EG 229)+1,none⟩=some (ii (tw l k:Nat)):=by rw[hoff];exact hc 1 _ rfl
  have h5:w2.cell? ⟨tb,(0+0+k*tsz EG 229)+5,none⟩=some (.slice PP (qv l k).length cp):=by rw[hoff];exact hc 5 _ rfl
  refine zcv (quf tb _ a b (tw l k) cp (P k) PP (qv l k) w2 h1 h5 hPP hwd Oo Oo) ?_;rintro r w3 ⟨rfl,he3⟩;replace hI:=(cI j).ext hI he3;have hel:=(treD l).sr_le k (P k) (show a<=b by omega);obtain⟨e,ee⟩:∃e,e=(treD l).sr k a b (P k):=⟨_,rfl⟩
  have ev:(a+bsr (fun i=>decide (P k<=(numP (qv l k) (tw l k) (a+i):Int))) (b-a) 0 (b-a))=e:=ee.symm;rw[ev];rw[<-ee]at hel
  rcases DU hel.2 with heb|heb
  case inl=>
   refine zu ?_;refine .inl ⟨rfl,?_⟩;have hw:(treD l).win P k a b=(e,e):=by rw[LvD.win,Aa Oo,Aa (by rw[<-ee];omega),<-ee]
   rw[hw,CE];exact hI
  have hnu:(treD l).nu k e=numP (qv l k) (tw l k) e:=rfl
  rcases D8 (((numP (qv l k) (tw l k) e:Nat):Int)=P k)with hnx|hnx
  case inr=>
   refine zu ?_;refine zcv (qbs tb _ e (tw l k) cp PP (qv l k) w3 (he3.cell h1) (he3.cell h5) (hPP.ext he3) hwd Oo) ?_;rintro r w4 ⟨rfl,he4⟩;replace hI:=(cI j).ext hI he4;refine zu ?_;refine .inl ⟨rfl,?_⟩;have hw:(treD l).win P k a b=(e,e):=by rw[LvD.win,Aa Oo,Aa (by rw[<-ee,hnu];exact fun g=>hnx g.2),<-ee]
   rw[hw,CE];exact hI
  refine zu ?_;refine zcv (qbs tb _ e (tw l k) cp PP (qv l k) w3 (he3.cell h1) (he3.cell h5) (hPP.ext he3) hwd Oo) ?_;rintro r w4 ⟨rfl,he4⟩;replace hI:=(cI j).ext hI he4;refine zu ?_;have hw:(treD l).win P k a b=(e,e+1):=by rw[LvD.win,Aa Oo,Ad (by rw[<-ee,hnu];exact⟨heb,hnx⟩),<-ee]
  obtain⟨u,eu⟩:∃u,u=e+1:=⟨_,rfl⟩
  have euz:(e:Int)+1=(u:Int):=by omega
  rw[hw,<-eu]at hR|-;rw[euz];have hw1:a<=e:=hel.1;have hw2:e<=u:=by omega
  have hw3:u<=b:=by omega
  obtain⟨w5,ew5⟩:∃w5,w5=w4:=⟨_,rfl⟩
  rw[<-ew5]at hI|-
 case' refine_2=>
  have hw:(treD l).win P k a b=(a,b):=by rw[LvD.win,Ad Oo]
  rw[hw]at hR|-;obtain⟨e,ee⟩:∃e,e=a:=⟨_,rfl⟩
  obtain⟨u,eu⟩:∃u,u=b:=⟨_,rfl⟩
  have hw1:a<=e:=by omega
  have hw2:e<=u:=by omega
  have hw3:u<=b:=by omega
  rw[<-eu]at hR|-;rw[<-ee]at hR|-;obtain⟨w5,ew5⟩:∃w5,w5=w2:=⟨_,rfl⟩
  rw[<-ew5]at hI|-
 all_goals
  clear ew5 es1;obtain⟨FF,eFF⟩:∃FF:Nat->WS->WR,FF=fun i s=>F i (s.1,updN s.2 k ((treD l).nu k i)):=⟨_,rfl⟩
  rw[<-eFF]at hR|-;obtain⟨G,eG⟩:∃G:WR,G=goL FF (u-e) e s1:=⟨_,rfl⟩
  rw[<-eG]at hR|-;refine qtc (fun x:Nat×WS×Nat=>[(0,pp wb),(1,ii k),(3,ii u),(9,.pointer (some ⟨tb,0+0+k*tsz EG 229,none⟩)),(11,ii x.1)])
   (fun x w'=>e<=x.1/\x.1<=u/\PastOk x.2.1/\RowsAt xs x.2.2 (goL FF (u-x.1) x.1 x.2.1).1/\(goL FF (u-x.1) x.1 x.2.1).2=G.2/\x.2.2+(goL FF (u-x.1) x.1 x.2.1).1.length=j+G.1.length/\I x.2.2 ((wb,wkO tb y P x.2.1)::X) w') (fun x=>u-x.1) (e,s1,j)
   fq ⟨Aq _,hw2,hpo1,by rw[eG]at hR;exact hR,by rw[eG],by rw[eG],hI⟩ ?_
  clear hI hR eG hpo1;rintro⟨i,t,jj⟩ w6 ρ' ⟨i1,i2,hpt,hRt,hG2,hGl,hI⟩;dsimp only at i1 i2 hpt hRt hG2 hGl hI|-;conv=>whnf
  (repeat' refine zC (fun _=>zw ?_) (fun _=>zw ?_))
  case' refine_2=>
   obtain rfl:i=u:=by omega
   rw[CE]at hG2 hGl;have hGl:jj+0=j+G.1.length:=hGl;rw[BH]at hGl;rw[<-hGl,<-hG2];exact .inl ⟨rfl,hI⟩
  have hiu:i<u:=by omega
  have esub:u-i=(u-(i+1))+1:=by omega
  obtain⟨t2,et2⟩:∃t2:WS,t2=(t.1,updN t.2 k ((treD l).nu k i)):=⟨_,rfl⟩
  have eFi:FF i t=F i t2:=by rw[eFF,et2]
  rw[esub,goL,eFi]at hRt hG2 hGl;dsimp only at hRt hG2 hGl;have hpt2:PastOk t2:=by rw[et2];exact hpt
  refine DrawW.tail 8 Jk Jk (.inl rfl) (AnyV.free Jk ?_);(conv=>whnf);(iterate 4 (refine zd ?_));refine zsd (ii (numP (qv l k) (tw l k) i:Nat)) (fun wd hd=>zw ?_) (zw ?_)
  ·have hIw:=(cI jj).ext hI (Ext.trans (Ext.drew xr) hd);obtain⟨PP,cp,S,cs,VV,hc,hPP,_⟩:=((hΦ _ _ _ hIw).lv k hk).h;have h1:wd.cell? ⟨tb,(0+0+k*tsz EG 229)+1,none⟩=some (ii (tw l k:Nat)):=by rw[hoff];exact hc 1 _ rfl
   have h5:wd.cell? ⟨tb,(0+0+k*tsz EG 229)+5,none⟩=some (.slice PP (qv l k).length cp):=by rw[hoff];exact hc 5 _ rfl
   refine zcv (qbs tb _ i (tw l k) cp PP (qv l k) wd h1 h5 hPP hwd Oo) ?_;rintro r w7 ⟨rfl,he7⟩;exact⟨he7,rfl⟩
  refine zd ?_;refine zd ?_;refine zsd (.pointer (some ⟨wb,9+k,none⟩)) (fun wd hd=>zw ?_) (zw ?_)
  ·refine IdxV.at_ k rfl hk (zw ?_);exact⟨xr,Af (fun o=>Value.pointer (some ⟨wb,o,none⟩)) (by rw[t1];show 0+9+k*1=9+k;omega)⟩
  intro w7 he7;replace hI:=(cI jj).ext hI (Ext.trans (Ext.drew xr) he7);(conv=>whnf);refine StoreV.carr (cI jj) (A:=[]) hI (by show 9+k<14;omega) rfl ?_;clear hI;intro w8 hI;have hI:I jj ((wb,.cells ((wkC tb y P t).toArray.setIfInBounds (9+k) (ii (numP (qv l k) (tw l k) i:Nat))) 241)::X) w8:=hI;rw[qacn hk]at hI;have hI:I jj ((wb,wkO tb y P t2)::X) w8:=by rw[et2];exact hI
  (conv=>whnf)
  rcases BZ d with hd0|hd0
  case inl=>
   have hk3:k=3:=by omega
   rw[hF0 hd0]at hRt hG2 hGl;dsimp only at hRt hG2 hGl;refine zu ?_;refine DrawW.tail 9 Jk Jk (.inl rfl) (AnyV.free Jk ?_);(conv=>whnf);(iterate 3 (refine zd ?_));refine zf ?_ (by intro wd hd;(conv=>whnf);refine LoadV.own (Ext.get (Ext.trans (Ext.drew xr) hd) ((cI jj).get hI mh)) rfl ?_;(conv=>whnf);exact xq);(iterate 4 (refine zd ?_));refine zsd (mAgg t2.2) (fun wd hd=>zw ?_) (zw ?_)
   ·refine V.LoadA.part (vs:=[ii (t2.2 0),ii (t2.2 1),ii (t2.2 2),ii (t2.2 3)]) (Ext.get (Ext.trans (Ext.drew xr) hd) ((cI jj).get hI mh)) rfl (fun i hi=>?_) ?_
    ·match i,hi with
     | 0,_=>rfl
     | 1,_=>rfl
     | 2,_=>rfl
     | 3,_=>rfl
    (conv=>whnf);exact xq
   intro w9 he9;replace hI:=(cI jj).ext hI (Ext.trans (Ext.drew xr) he9);(conv=>whnf);refine YieldV.mono (hy jj (mRow (i,t2.2)) _ w9 (hRt 0 (i,t2.2) rfl) hI) ?_;clear hI;rintro v w10 (⟨rfl,hI⟩|⟨rfl,hX⟩)
   ·refine zu ?_;refine⟨rfl,(i+1,t2,jj+1),⟨rfl,rfl,rfl,rfl,Af (Value.int .i64) (by show(i:Int)+1=((i+1:Nat):Int);omega),trivial⟩,⟨by dsimp only;omega,by dsimp only;omega,hpt2,hRt.right,hG2,?_,hI⟩,by dsimp only;omega⟩;rw[<-hGl,zla,AZ];dsimp only;omega
   ·refine zu ?_;exact .inr ⟨rfl,jj,t2,by rw[<-hGl,zla,AZ];omega,hX⟩
  obtain⟨d',rfl⟩:∃d',d=d'+1:=⟨d-1,by omega⟩
  have hk3:k+1<4:=by omega
  rw[hF1 d' rfl]at hRt hG2 hGl;refine zu ?_;refine LoadV.own ((cI jj).get hI mh) rfl (zw ?_);have hT8:=hΦ _ _ _ hI;have hcl:=qacy (l:=l) (k:=k) (i:=i) (fun k=>by
   by_cases hk4:k<4
   ·exact .inl (hT8.n k hk4)
   ·exact .inr Oo) hk3 (hvm k Oo)
  refine zcv (qpw tb l k i w8 hT8 hk3 Oo (hvm k Oo)) ?_;rintro r w9 ⟨rfl,he9⟩;replace hI:=(cI jj).ext hI he9;obtain⟨c1,ec1⟩:∃c1,c1=(chB l k i).1:=⟨_,rfl⟩
  obtain⟨c2,ec2⟩:∃c2,c2=(chB l k i).2:=⟨_,rfl⟩
  rw[<-ec1]at hcl hRt hG2 hGl|-;rw[<-ec2]at hcl hRt hG2 hGl|-;refine zu ?_;rw[show(k:Int)+1=((k+1:Nat):Int)by omega];refine zcv (ih d' (Dk d') (k+1) c1 c2 jj t2 X w9 Oo hcl.1 hcl.2 hpt2 hRt.left hI) ?_;clear hI;rintro r w10 (⟨rfl,hI⟩|⟨rfl,j',s',hj',hX⟩)
  ·refine zu ?_;refine⟨rfl,(i+1,(lvG (treD l) P d' (k+1) c1 c2 t2).2,jj+(lvG (treD l) P d' (k+1) c1 c2 t2).1.length),⟨rfl,rfl,rfl,rfl,Af (Value.int .i64) (by show(i:Int)+1=((i+1:Nat):Int);omega),trivial⟩,⟨by dsimp only;omega,by dsimp only;omega,qo2 (T:=treD l) (fun k hk=>hT8.n k hk) Oo hpt2,hRt.right,hG2,?_,hI⟩,by dsimp only;omega⟩;rw[<-hGl,zla];dsimp only;omega
  ·refine zu ?_;exact .inr ⟨rfl,j',s',by rw[<-hGl,zla];omega,hX⟩
end
def hi8(x t:Nat):Nat:=x/2 ^ t*2 ^ t
def q8x(w:Ez)(x:Nat):Prop:=(∀off k c,w.cell? ⟨x,off,none⟩≠some (.int k c))/\∀cs t fz,w.heap[x]?=some (.cells cs t fz)->t≠317/\t≠204/\t≠295/\t≠226
section
variable {w w':Ez} {x:Nat} (ha:q8x w x) (hw:∀c,c≠x->w'.heap[c]?=w.heap[c]?)
include ha hw
theorem quz{k:IntKind}{c:Int}(h:CellsAt w b off (.int k c::vs)):CellsAt w' b off (.int k c::vs):=by
 refine CellsAt.other h (x:=x) (fun e=>?_) hw;subst e;exact ha.1 _ _ _ (h 0 _ rfl)
theorem qj6(h:SlAt encB 1 w A l):SlAt encB 1 w' A l:=by
 refine⟨fun hn=>?_⟩;obtain⟨b,off,h1,h2⟩:=h.at_ hn;exact⟨b,off,h1,fun j y hy=>quz ha hw (h2 j y hy)⟩
theorem DictAt.alien{m:LB}(h:DictAt w b m):DictAt w' b m:=by
 obtain⟨⟨P,cp,E,ce,h1,h2,h3,h4⟩,h5,h6,h7,h8⟩:=h;have hb:b≠x:=fun e=>by subst e;exact(ha.2 _ _ _ h1).1 rfl
 exact⟨⟨P,cp,E,ce,by rw[hw b hb];exact h1,qj6 ha hw h2,qj6 ha hw h3,h4⟩,h5,h6,h7,h8⟩
theorem VocAt.alien(h:VocAt w b l):VocAt w' b l:=by
 obtain⟨d,h1,h2⟩:=h;have hb:b≠x:=fun e=>by subst e;exact(ha.2 _ _ _ h1).2.1 rfl
 exact⟨d,by rw[hw b hb];exact h1,fun k hk=>(h2 k hk).alien ha hw⟩
theorem VecP.alien{V s:E8}(h:VecP w V s l k):VecP w' V s l k:=by
 rcases h with h|⟨h1,h2,vb,h3,h4⟩
 ·exact .inl h
 ·have hb:vb≠x:=fun e=>by subst e;exact(ha.2 _ _ _ h4).2.2.1 rfl
  exact .inr ⟨h1,h2,vb,h3,by rw[hw vb hb];exact h4⟩
theorem TreeAt.alien(h:TreeAt w b l):TreeAt w' b l:=by
 refine⟨fun k hk=>?_,h.n,h.wd⟩;obtain⟨P,cp,S,cs,V,h1,h2,h3,h4,h5⟩:=h.lv k hk;exact⟨P,cp,S,cs,V,quz ha hw h1,qj6 ha hw h2,qj6 ha hw h3,h4,h5.alien ha hw⟩
end
namespace V
end V
theorem qtk(b:Nat)(l:LB)(w:Ez)(h:PackAt w b l):Gv EG 143 [pp b] w fun v w'=>(∃vb,v=pp vb/\VocAt w vb (qq l))/\w'=w:=by
 obtain⟨vb,tb,h1,h2,h3⟩:=h;refine ze Tryz.func143 Tryz.ntmps143 ?_;refine LoadV.own h1 rfl (zw ?_);exact⟨⟨vb,rfl,h2⟩,rfl⟩
theorem q68{t:TM}(h:qd7 l id=some t):TermOk t:=by
 unfold qd7 at h
 split at h
 ·cases h;exact⟨(show InR .i64 0 from⟨by decide,by decide⟩),Am _,Am _,Am _⟩
 ·split at h
  ·cases h
  ·split at h
   ·rename_i s hs
    have h3:qdw l id<3:=by unfold qdw;split<;>(try split)<;>omega
    exact q6k h (qvh hs) ⟨by omega,by omega⟩
   ·cases h
theorem qafa(l:LB)(q:Nat->Nat)(j:Nat):TermOk (uT l q j):=by
 unfold uT;cases h:qd7 l (q j)with
 | none=>exact⟨(show InR .i64 0 from⟨by decide,by decide⟩),Am _,Am _,Am _⟩
 | some t=>exact q68 h
theorem qabk(l:LB)(q:Nat->Nat):qa9 (q4Of l q):=by
 intro k;unfold q4Of Q4.at
 split<;>exact qafa _ _ _
def qIds(l:LB)(i:Nat):Nat->Nat:=fun k=>tNum (q7 l) i k
def PqOk(l:LB)(i:Nat):Prop:=(i<vNum (q7 l) 3/\tOk (q7 l) i=true)/\(∀j,j<4->qd7 (qq l) (qIds l i j)≠none)/\qb6 (q4Of (qq l) (qIds l i))=0
open Classical in
noncomputable def qfg(l:LB)(i:Nat):E8:=if PqOk l i then .tuple #[qk (q4Of (qq l) (qIds l i)),.bool true]else .tuple #[qk zQ,.bool false]
theorem q2l(b:Nat)(l:LB)(i:Nat)(w:Ez)(h:PackAt w b l)(hi:i<=1048576)(hM:MaxLenAt w)(hT:CellsAt w 6 0 qbz)(hK:qkp w):
  Gv EG 93 [pp b,ii i] w fun v w'=>v=qfg l i/\Ext w w':=by
 obtain⟨vb,tb,h1,h2,h3⟩:=h;have hwd:=h3.wd;refine ze Tryz.func93 Tryz.ntmps93 ?_;refine znm (Mem.nil w) fun r4 w1 hm=>zw ?_;refine LoadV.own (hm.ext.get h1) rfl (zw ?_);refine zcv (q62 tb (q7 l) i w1 (h3.ext hm.ext) hi) ?_;rintro v w2 ⟨rfl,he2⟩;have hm:=hm.call he2
 by_cases hok:i<vNum (q7 l) 3/\tOk (q7 l) i=true
 case neg=>
  have hv:qfg l i=.tuple #[qk zQ,.bool false]:=by rw[qfg,Aa (fun hx=>hok hx.1)]
  rw[hv,qge,Aa hok];unfold zq;(conv=>whnf);refine znm hm fun t6 w3 hm=>zw ?_;refine zS hm 0 fun w4 hm=>zu ?_;refine zS hm 1 fun w5 hm=>zw ?_;refine qh (R:=fun v w'=>v=.tuple #[qk zQ,.bool false]/\Ext w w') (zw ?_);refine zl hm 1 ?_;exact⟨rfl,hm.ext⟩
 rw[qge,Ad hok];(conv=>whnf);refine znm hm fun t6 w3 hm=>zw ?_;refine zS hm 0 ?_;intro w4 hm;have hqb:∀j,j<4->qIds l i j<=16777216:=fun j hj=>by
  have h1:=qaaz (qv (q7 l) j) (tw (q7 l) j) (tUp (q7 l) i (3-j));have h2:2 ^ tw (q7 l) j<=2 ^ 23:=Bs Od (hwd j hj);have h3:(2:Nat) ^ 23=8388608:=by decide
  show tNum (q7 l) i j<=_;unfold tNum;omega
 refine zu ?_;obtain⟨u,ok,hqv,hcs⟩:∃u ok,qjw (qq l) (qIds l i)=.tuple #[qk u,.bool ok]/\qa9 u/\((ok=true/\u=q4Of (qq l) (qIds l i)/\∀j,j<4->qd7 (qq l) (qIds l i j)≠none)\/(ok=false/\¬ ∀j,j<4->qd7 (qq l) (qIds l i j)≠none)):=by
  by_cases hall:∀j,j<4->qd7 (qq l) (qIds l i j)≠none
  ·exact⟨_,true,by rw[qjw,Ad hall],qabk _ _,.inl ⟨rfl,rfl,hall⟩⟩
  ·refine⟨zQ,false,by rw[qjw,Aa hall],?_,.inr ⟨rfl,hall⟩⟩;intro k;unfold zQ Q4.at
   split<;>exact⟨(show InR .i64 0 from⟨by decide,by decide⟩),Am _,Am _,Am _⟩
 obtain⟨hqo,hcs⟩:=hcs;refine DrawV.gen (fun S vals w'=>Al w [(t6,.cells #[ii (qIds l i 0:Nat),ii (qIds l i 1:Nat),ii (qIds l i 2:Nat),ii (qIds l i 3:Nat)] 101),(r4,.cells (qd zQ).toArray 26)] (.cells (qd zQ).toArray 26) (.cells (qd u).toArray 26) (.cells #[] 0) (.cells #[] 0) (S 9) false (S 10) false (vals 9) undef w') rfl Jk (fun vals=>Al.start hm.drew) ?_;clear hm;(conv=>whnf);(iterate 3 (refine zg ?_));refine StepG.of (pp vb) (fun S vals wd hk hp hI=>zw ?_) (zw ?_)
 ·refine LoadV.own (hI.mem.ext.get h1) rfl (zw ?_);exact⟨rfl,hI⟩
 refine StepG.of (idsV (qIds l i)) (fun S vals wd hk hp hI=>zw ?_) (zw ?_)
 ·refine zl hI.mem 0 ?_;exact⟨rfl,hI⟩
 refine StepG.of (.tuple #[qk u,.bool ok]) (fun S vals wd hk hp hI=>zw ?_) (zw ?_)
 ·refine zcv (q30 vb (qq l) (qIds l i) wd (h2.ext hI.mem.ext) hqb (hM.ext hI.mem.ext) (hT.ext hI.mem.ext) (CellsAt.ext hK hI.mem.ext)) ?_;rintro v w5 ⟨rfl,he⟩;exact⟨hqv,hI.call he⟩
 (iterate 3 (refine zg ?_));refine StepG.any (fun S vals wd hk hp hI=>?_) (zw ?_)
 ·dsimp only at hI;rw[hk]at hI;(conv=>whnf);refine⟨fun x wx hb hw=>?_⟩;subst hb hw;(conv=>whnf);exact⟨trivial,hI.new1⟩
 refine StepG.of undef (fun S vals wd hk hp hI=>?_) (zw ?_)
 ·dsimp only at hI;have h9:S 9=true:=hp 9 Od;rw[hk,h9]at hI;obtain⟨nb,hv,M,hmM,hKx⟩:=hI.put1;rw[ql hv];(conv=>whnf);refine zS hmM 0 fun wx hmx=>zw ?_;exact⟨rfl,by show Al _ _ _ _ _ _ (S 9) false true false _ _ _;rw[h9];exact hKx hmx rfl⟩
 refine zg ?_;intro vals w5 hI;obtain⟨t8,hv1,hm⟩:=hI.done1;rw[ql hv1];clear hI;conv=>whnf
 rcases hcs with⟨rfl,rfl,hall⟩|⟨rfl,hall⟩
 ·refine zv ?_;refine zl hm 0 ?_;refine zv ?_;refine zcv (qg6 (q4Of (qq l) (qIds l i)) hqo w5 (hM.ext hm.ext) (hT.ext hm.ext)) ?_;rintro v w6 ⟨rfl,he6⟩;have hm:=hm.call he6;conv=>whnf
  by_cases hz:qb6 (q4Of (qq l) (qIds l i))=0
  ·have hv:qfg l i=.tuple #[qk (q4Of (qq l) (qIds l i)),.bool true]:=by rw[qfg,Ad ⟨hok,hall,hz⟩]
   rw[hv];refine zv ?_;refine zl hm 0 ?_;refine zS hm 2 fun w7 hm=>zw ?_;refine qh (R:=fun v w'=>v=.tuple #[qk (q4Of (qq l) (qIds l i)),.bool true]/\Ext w w') (zw ?_);refine zl hm 2 ?_;exact⟨rfl,hm.ext⟩
  ·have hv:qfg l i=.tuple #[qk zQ,.bool false]:=by rw[qfg,Aa (fun hx=>hz hx.2.2)]
   rw[hv];refine zv ?_;refine zS hm 2 fun w7 hm=>zw ?_;refine qh (R:=fun v w'=>v=.tuple #[qk zQ,.bool false]/\Ext w w') (zw ?_);refine zl hm 2 ?_;exact⟨rfl,hm.ext⟩
 ·have hv:qfg l i=.tuple #[qk zQ,.bool false]:=by rw[qfg,Aa (fun hx=>hall hx.2.1)]
  rw[hv];refine zv ?_;refine zS hm 2 fun w7 hm=>zw ?_;refine qh (R:=fun v w'=>v=.tuple #[qk zQ,.bool false]/\Ext w w') (zw ?_);refine zl hm 2 ?_;exact⟨rfl,hm.ext⟩
namespace V
theorem LoadA.own{size:Nat}{t:E6}{fr:Nat×Nat}{K:EE->Prop}(h:w.heap[b]?=some (.cells cs t fr))(hs:cs.toList.length=size)(hk:K cs.toList):LoadA w b 0 size K:=
 ⟨cs.toList,hs,fun j _=>by rw[qa h,Aw];simp,hk⟩
end V
def h24(nq nt nv nr:Nat):LB:=fixL 1095914324 4++(fixL 1 4++(fixL nq 4++(fixL nt 4++(fixL nv 4++fixL nr 4))))
def sumL(p:LB):LB:=fixL (crcL p).toNat 4
def qcy(nq nt:Nat)(V T:LB):LB:=
 h24 nq nt V.length T.length++(sumL (h24 nq nt V.length T.length)++(V++(sumL V++(T++sumL T))))
theorem qit(a b c d:Nat):(h24 a b c d).length=24:=by simp[h24,qi]
theorem qdp(p:LB):(sumL p).length=4:=qi _ _
theorem qt8(p:LB):leN (sumL p)=(crcL p).toNat:=by
 rw[sumL,qiw,BD];exact(crcL p).isLt
theorem qy{α:Type}{a b:List α}{n:Nat}(h:a.length=n):(a++b).drop n=b:=by subst h;exact qf a b
theorem qf7{α:Type}{a b:List α}{n:Nat}(h:a.length=n):(a++b).take n=a:=by subst h;exact C9
theorem qfw(n:Nat)(r:LB)(h:n<4294967296):leN ((fixL n 4++r).take 4)=n:=by
 rw[qf7 (qi n 4),qiw,BD h]
section
variable {nq nt:Nat} {V T:LB} (h1:nq<4294967296) (h2:nt<4294967296) (h3:V.length+T.length+36<=67108864)
theorem qwh(nq nt:Nat)(V T:LB):(qcy nq nt V T).length=V.length+T.length+36:=by
 simp only[qcy,zla,qit,qdp];omega
theorem qlg(nq nt:Nat)(V T:LB)(k:Nat)(hk:k<=6):(qcy nq nt V T).drop (4*k)=(h24 nq nt V.length T.length).drop (4*k)++(sumL (h24 nq nt V.length T.length)++(V++(sumL V++(T++sumL T)))):=by
 rw[qcy,BQ (by rw[qit];omega)]
theorem qaa7:hN (qcy nq nt V T) 0=1095914324:=by
 rw[hN,qlg _ _ _ _ 0 Oo,h24];simp only[Nat.mul_zero,BA,Ak];exact qfw _ _ Od
theorem qaa8:hN (qcy nq nt V T) 1=1:=by
 rw[hN,qlg _ _ _ _ 1 Oo,h24,qy (qi _ _)];simp only[Ak];exact qfw _ _ Od
include h1 in
theorem qaa9:hN (qcy nq nt V T) 2=nq:=by
 rw[hN,qlg _ _ _ _ 2 Oo,h24,show 4*2=4+4 from rfl,<-AM,qy (qi _ _),qy (qi _ _)];simp only[Ak];exact qfw _ _ h1
include h2 in
theorem qaba:hN (qcy nq nt V T) 3=nt:=by
 rw[hN,qlg _ _ _ _ 3 Oo,h24,show 4*3=4+4+4 from rfl,<-AM,<-AM,qy (qi _ _),qy (qi _ _),qy (qi _ _)];simp only[Ak];exact qfw _ _ h2
include h3
theorem qlh:hN (qcy nq nt V T) 4=V.length:=by
 rw[hN,qlg _ _ _ _ 4 Oo,h24,show 4*4=4+4+4+4 from rfl,<-AM,<-AM,<-AM,qy (qi _ _),qy (qi _ _),qy (qi _ _),qy (qi _ _)];simp only[Ak];exact qfw _ _ Oo
theorem qth:hN (qcy nq nt V T) 5=T.length:=by
 rw[hN,qlg _ _ _ _ 5 Oo,h24,show 4*5=4+4+4+4+4 from rfl,<-AM,<-AM,<-AM,<-AM,qy (qi _ _),qy (qi _ _),qy (qi _ _),qy (qi _ _),qy (qi _ _)];exact qfw _ _ Oo
omit h3 in
theorem qabb:hN (qcy nq nt V T) 6=(crcL ((qcy nq nt V T).take 24)).toNat:=by
 rw[hN,qlg _ _ _ _ 6 Oo,Dg (by rw[qit];omega),Br,qf7 (qdp _),qt8,qcy,qf7 (qit _ _ _ _)]
theorem q2i:(qas (qcy nq nt V T)).2=0:=by
 have hl:=qwh nq nt V T;rw[qas,hl,qlh h3,qth h3,qaa7,qaa8,<-qabb,Aa Oo,Aa Oo,Aa Oo,Aa Oo,Aa Oo,Aa Oo,Aa Oo]
omit h3 in
theorem qpd(nq nt:Nat)(V T:LB):(qcy nq nt V T).drop 28=V++(sumL V++(T++sumL T)):=by
 rw[qcy,show 28=24+4 from rfl,<-AM,qy (qit _ _ _ _),qy (qdp _)]
theorem q8g:qq (qcy nq nt V T)=V:=by rw[qq,qpd,qlh h3,C9]
theorem q8f:q7 (qcy nq nt V T)=T:=by
 rw[q7,qlh h3,qth h3,show 32+V.length=28+(V.length+4)by omega,<-AM,qpd,<-AM,qf,qy (qdp _),C9]
theorem qabc:pS1 (qcy nq nt V T):=by
 rw[pS1,q8g h3,qlh h3,<-AM,qpd,qf,qf7 (qdp _),qt8]
theorem qabd:pS2 (qcy nq nt V T):=by
 rw[pS2,q8f h3,qlh h3,qth h3,show 32+V.length+T.length=28+(V.length+(4+T.length))by omega,<-AM,qpd,<-AM,qf,<-AM,qy (qdp _),qf,AF (by rw[qdp];exact Aq _),qt8]
end
theorem RiseT.at(h:RiseT T){a b:TM}(hij:i<j)(ha:T[i]?=some a)(hb:T[j]?=some b):LtT a b:=by
 obtain⟨h1,rfl⟩:=Ae.1 ha;obtain⟨h2,rfl⟩:=Ae.1 hb;exact(Cd.1 h) i j h1 h2 hij
theorem RiseT.inj(h:RiseT T){a:TM}(ha:T[i]?=some a)(hb:T[j]?=some a):i=j:=by
 rcases Dv i j with g|g|g
 ·exact absurd (h.at g ha hb) (LtT.irrefl a)
 ·exact g
 ·exact absurd (h.at g hb ha) (LtT.irrefl a)
theorem RiseT.lt(h:RiseT T){a b:TM}(ha:T[i]?=some a)(hb:T[j]?=some b)(hl:LtT a b):i<j:=by
 rcases Dv i j with g|g|g
 ·exact g
 ·subst g;rw[ha]at hb;cases hb;exact absurd hl (LtT.irrefl a)
 ·exact absurd (hl.trans (h.at g hb ha)) (LtT.irrefl a)
theorem RiseT.ext:∀{S T:List TM},RiseT S->RiseT T->(∀y,y∈S↔y∈T)->S=T
 | [],[],_,_,_=>rfl
 | [],b::T,_,_,h=>absurd ((h b).2 mh) Js
 | a::S,[],_,_,h=>absurd ((h a).1 mh) Js
 | a::S,b::T,hs,ht,h=>by
  obtain⟨s1,s2⟩:=Bh.1 hs;obtain⟨t1,t2⟩:=Bh.1 ht;have e:a=b:=by
   rcases AD.1 ((h a).1 mh)with g|g
   ·exact g
   ·rcases AD.1 ((h b).2 mh)with g2|g2
    ·exact g2.symm
    ·exact absurd ((t1 a g).trans (s1 b g2)) (LtT.irrefl b)
  subst e
  congr 1
  refine RiseT.ext s2 t2 fun y=>⟨fun hy=>?_,fun hy=>?_⟩
  ·rcases AD.1 ((h y).1 (zmc hy))with g|g
   ·subst g;exact absurd (s1 y hy) (LtT.irrefl y)
   ·exact g
  ·rcases AD.1 ((h y).2 (zmc hy))with g|g
   ·subst g;exact absurd (t1 y hy) (LtT.irrefl y)
   ·exact g
def noT(T:List TM)(t:TM):Nat:=if t.kind=0 then 0 else T.findIdx (fun x=>cmpT x t==0)+1
theorem qfz{t:TM}(h:t.kind=0):noT T t=0:=by rw[noT,Ad h]
theorem qlc(h:RiseT T){t:TM}(ht:T[i]?=some t)(hk:t.kind≠0):noT T t=i+1:=by
 obtain⟨h1,h2⟩:=Ae.1 ht;rw[noT,Aa hk];have h3:T.findIdx (fun x=>cmpT x t==0)<T.length:=DY ⟨t,zmg ht,by simp[qa2]⟩;have h4:=List.findIdx_getElem (w:=h3);rw[CU,qa2]at h4;have:=h.inj (i:=T.findIdx (fun x=>cmpT x t==0)) (j:=i) (by rw[zge h3,h4]) ht;omega
theorem qads(T:List TM)(t:TM)(h:t∈T\/t.kind=0):noT T t<=T.length:=by
 unfold noT
 split
 ·omega
 ·rename_i h0
  have:=DY (p:=fun x=>cmpT x t==0) (xs:=T) ⟨t,h.resolve_right h0,by simp[qa2]⟩;omega
theorem qadt(h:RiseT T)(_:∀t∈T,0<=t.kind){a b:TM}(ha:a∈T\/a.kind=0)(hb:b∈T)(hk:b.kind≠0)(hl:LtT a b):noT T a<noT T b:=by
 obtain⟨j,hj⟩:=Bi.1 hb;rw[qlc h hj hk]
 by_cases e:a.kind=0
 ·rw[qfz e];omega
 ·obtain⟨i,hi⟩:=Bi.1 (ha.resolve_right e);rw[qlc h hi e];have:=h.lt hi hj hl;omega
def gat(q:Q4):Nat->TM
 | 0=>q.g
 | 1=>q.s
 | 2=>q.p
 | _=>q.o
def LtQ(q r:Q4):Prop:=∃k,k<4/\(∀j,j<k->gat q j=gat r j)/\LtT (gat q k) (gat r k)
def noQ(T:List TM)(qs:List Q4)(i k:Nat):Nat:=match qs[i]? with
 | some q=>noT T (gat q k)
 | none=>0
theorem qhm{q:Q4}(h:qs[i]?=some q):noQ T qs i k=noT T (gat q k):=by rw[noQ,h]
structure SetOk(T:List TM)(qs:List Q4):Prop where
 rise:RiseT T
 few:T.length<=4194304
 kind:∀t∈T,0<t.kind
 mem:∀q∈qs,∀k,k<4->gat q k∈T\/(k=0/\(gat q k).kind=0/\gat q k=zTM)
 len:qs.length<=1048576
 ord:qs.Pairwise LtQ
theorem SetOk.tok(h:SetOk T qs):TOk (noQ T qs) qs.length:=by
 refine⟨h.len,fun i k hi hk=>?_,fun i h0 hi=>?_⟩
 ·have hq:qs[i]?=some qs[i]:=zge hi;rw[qhm hq]
  rcases h.mem _ (AT hi) k hk with g|⟨g1,g2,_⟩
  ·refine⟨fun _=>?_,AU (qads _ _ (.inl g)) h.few⟩;have:=h.kind _ g;rw[noT,Aa Oo];omega
  ·exact⟨fun g=>absurd g1 g,by rw[qfz g2];omega⟩
 ·have hq:qs[i]?=some qs[i]:=zge hi;have hp:qs[i-1]?=some qs[i-1]:=zge Oo;obtain⟨k,h1,h2,h3⟩:=(Cd.1 h.ord) (i-1) i Oo hi Oo;refine⟨k,h1,fun j hj=>?_,?_⟩
  ·rw[qhm hq,qhm hp,h2 j hj]
  ·rw[qhm hq,qhm hp];have hb:gat qs[i] k∈T:=by
    rcases h.mem _ (AT hi) k h1 with g|⟨g1,g2,g3⟩
    ·exact g
    ·exfalso
     rcases h.mem _ (AT (show i-1<qs.length by omega)) k h1 with f|⟨f1,f2,f3⟩
     ·have:=h.kind _ f
      rcases h3 with h3|⟨h3,_⟩<;>omega
     ·rw[g3,f3]at h3;exact LtT.irrefl _ h3
   refine qadt h.rise (fun t ht=>by have:=h.kind t ht;omega) ?_ hb (by have:=h.kind _ hb;omega) h3
   rcases h.mem _ (AT (show i-1<qs.length by omega)) k h1 with f|⟨f1,f2,f3⟩
   ·exact .inl f
   ·exact .inr f2
def ofK(T:List TM)(k:Nat):List TM:=T.filter fun t=>decide (t.kind=((k+1:Nat):Int))
theorem qc4(T:List TM)(k:Nat):secE T k=(ofK T k).map qae:=rfl
theorem qhp{t:TM}(h:t∈ofK T k):t.kind=((k+1:Nat):Int):=by simpa using(B0.1 h).2
theorem qo9(h:RiseT T)(k:Nat):RiseT (ofK T k):=h.filter _
theorem qtf(h:RiseT T)(hk:∀t∈T,1<=t.kind/\t.kind<=3):T=ofK T 0++(ofK T 1++ofK T 2):=by
 have hc:∀{i j:Nat},i<j->∀a∈ofK T i,∀b∈ofK T j,LtT a b:=fun hij a ha b hb=>.inl (by rw[qhp ha,qhp hb];omega)
 refine RiseT.ext h ?_ fun y=>⟨fun hy=>?_,fun hy=>?_⟩
 ·refine Da.2 ⟨qo9 h 0,Da.2 ⟨qo9 h 1,qo9 h 2,fun a ha b hb=>hc Od a ha b hb⟩,fun a ha b hb=>?_⟩
  rcases Ba.1 hb with hb|hb
  ·exact hc Od a ha b hb
  ·exact hc Od a ha b hb
 ·have:=hk y hy;have hd:y.kind=1\/y.kind=2\/y.kind=3:=by omega
  rcases hd with e|e|e
  ·exact Bb _ (B0.2 ⟨hy,by rw[e];rfl⟩)
  ·exact Ai _ (Bb _ (B0.2 ⟨hy,by rw[e];rfl⟩))
  ·exact Ai _ (Ai _ (B0.2 ⟨hy,by rw[e];rfl⟩))
 ·rcases Ba.1 hy with hy|hy
  ·exact(B0.1 hy).1
  ·rcases Ba.1 hy with hy|hy
   ·exact(B0.1 hy).1
   ·exact(B0.1 hy).1
section
variable {T:List TM} (h:VOk T) (hr:RiseT T) (hk:∀t∈T,1<=t.kind/\t.kind<=3) (ht:∀t∈T,qaj t=0)
include h
theorem VOk.tot1:vTot (vocB T) 1=(ofK T 0).length:=by rw[vTot,vTot,h.dN Od,qc4,AC,Aw]
theorem VOk.tot2:vTot (vocB T) 2=(ofK T 0).length+(ofK T 1).length:=by rw[vTot,h.tot1,h.dN Od,qc4,AC]
theorem VOk.tot3:vTot (vocB T) 3=(ofK T 0).length+(ofK T 1).length+(ofK T 2).length:=by rw[vTot,h.tot2,h.dN Od,qc4,AC]
include hr hk
theorem VOk.tot:vTot (vocB T) 3=T.length:=by
 have e:=Af List.length (qtf hr hk);simp only[zla]at e;rw[h.tot3];omega
include ht
theorem VOk.sec{t:TM}(hk3:k<3)(hj:(ofK T k)[j]?=some t):(match dGet (Go.Proofs.YtacnkdagblbgfaaGreatDoor.sDict (vocB T) k) j with
  | some s=>qhu ((k+1:Nat):Int) s
  | none=>none)=some t:=by
 have _h:=hr;have _k:=hk;obtain⟨h1,h2⟩:=Ae.1 hj;have hm:=zmg hj;rw[h.get hk3 (by rw[qc4,AC];exact h1)];refine qna ⟨qhp hm,ht t (B0.1 hm).1,?_⟩;rw[tx,Ag,qc4,Ao,hj];rfl
theorem VOk.term{t:TM}(hi:T[i]?=some t):qd7 (vocB T) (i+1)=some t:=by
 have e:=qtf hr hk;have hl:=(Ae.1 hi).1;have t1:=h.tot1;have t2:=h.tot2;have t3:=h.tot3;have tt:=h.tot hr hk;rw[qd7,Aa Oo,Aa Oo];rw[e]at hi
 by_cases c2:vTot (vocB T) 2<i+1
 ·rw[qdw,Ad c2];refine h.sec hr hk ht Od ?_;rw[AR Oo,AR Oo]at hi;rw[<-hi];congr 1<;>omega
 ·by_cases c1:vTot (vocB T) 1<i+1
  ·rw[qdw,Aa c2,Ad c1];refine h.sec hr hk ht Od ?_;rw[AR Oo,AQ Oo]at hi;rw[<-hi];congr 1<;>omega
  ·rw[qdw,Aa c2,Aa c1];refine h.sec hr hk ht Od ?_;rw[AQ Oo]at hi;rw[<-hi];congr 1<;>(rw[vTot];omega)
end
def encP(T:List TM)(qs:List Q4):LB:=qcy qs.length T.length (vocB T) (qr (noQ T qs) qs.length)
structure EncOk(T:List TM)(qs:List Q4):Prop where
 set:SetOk T qs
 voc:VOk T
 kind3:∀t∈T,t.kind<=3
 term:∀t∈T,qaj t=0
 quad:∀q∈qs,qb6 q=0
 used:∀t∈T,∃q∈qs,∃k,k<4/\gat q k=t
 size:(vocB T).length+(qr (noQ T qs) qs.length).length+36<=67108864
section
variable {T:List TM} {qs:List Q4} (h:EncOk T qs)
include h
theorem EncOk.v:qq (encP T qs)=vocB T:=q8g h.size
theorem EncOk.t:q7 (encP T qs)=qr (noQ T qs) qs.length:=q8f h.size
theorem EncOk.kinds:∀t∈T,1<=t.kind/\t.kind<=3:=fun t ht=>⟨by have:=h.set.kind t ht;omega,h.kind3 t ht⟩
theorem EncOk.n:vNum (q7 (encP T qs)) 3=qs.length:=by rw[h.t,h.set.tok.vNum Od,h.set.tok.all znr]
theorem EncOk.no{t:TM}(ht:t∈T\/t=zTM):qd7 (qq (encP T qs)) (noT T t)=some t:=by
 rw[h.v]
 rcases ht with ht|ht
 ·obtain⟨i,hi⟩:=Bi.1 ht;rw[qlc h.set.rise hi (by have:=h.set.kind t ht;omega)];exact h.voc.term h.set.rise h.kinds h.term hi
 ·subst ht;rw[qfz rfl,qd7,Ad rfl];rfl
theorem EncOk.told{q:Q4}(hi:qs[i]?=some q)(hk:k<4):qd7 (qq (encP T qs)) (tNum (q7 (encP T qs)) i k)=some (gat q k):=by
 have hl:=(Ae.1 hi).1;rw[h.t,h.set.tok.tNum hl hk,qhm hi];refine h.no ?_
 rcases h.set.mem q (zmg hi) k hk with g|⟨_,_,g⟩
 ·exact .inl g
 ·exact .inr g
theorem EncOk.quad4{q:Q4}(hi:qs[i]?=some q):q4Of (qq (encP T qs)) (tNum (q7 (encP T qs)) i)=q:=by
 unfold q4Of uT;rw[h.told hi (k:=0) Od,h.told hi (k:=1) Od,h.told hi (k:=2) Od,h.told hi (k:=3) Od];rfl
theorem EncOk.poE:poE (encP T qs)=(0,0):=by
 have hq:qs.length<4294967296:=by have:=h.set.len;omega
 have hT:T.length<4294967296:=by have:=h.set.few;omega
 refine qad1 (q2i h.size) (qabc h.size) (qabd h.size) ?_ ?_ ?_ ?_ ?_ ?_
 ·rw[h.v];exact h.voc.vwE h.term
 ·rw[h.t];exact h.set.tok.toE
 ·rw[h.n];exact(qaa9 hq).symm
 ·rw[h.v,h.voc.tot h.set.rise h.kinds];exact(qaba hT).symm
 ·intro i hi;rw[h.n]at hi;have hi2:qs[i]?=some qs[i]:=zge hi;exact⟨fun j hj=>by rw[h.told hi2 hj];exact(fun g=>(by cases g)),by rw[h.quad4 hi2];exact h.quad _ (AT hi)⟩
 ·intro id h1 h2;rw[h.v,h.voc.tot h.set.rise h.kinds]at h2;have ht:T[id-1]?=some T[id-1]:=zge Oo;obtain⟨q,hq,k,hk,e⟩:=h.used _ (zmg ht);obtain⟨i,hi⟩:=Bi.1 hq;have hl:=(Ae.1 hi).1;refine⟨i,by rw[h.n];exact hl,k,hk,?_⟩;rw[h.t,h.set.tok.tNum hl hk,qhm hi,e,qlc h.set.rise ht (by have:=h.set.kind _ (zmg ht);omega)];omega
end
theorem q8r{c:E7}(h:c≠0):(0:E7)<c:=by
 have h1:c.toNat≠0:=fun e=>h (D9.1 e)
 rw[Ec];show 0<c.toNat;omega
theorem qacd{c d:E7}(h:c<d):d≠0:=fun e=>by
 subst e;rw[Ec]at h;exact absurd h (Cn _)
theorem qhk(p:LB){a b:LB}(h:a<b):p++a<p++b:=by
 induction p with
 | nil=>exact h
 | cons c p ih=>exact BC.2 (.inr ⟨rfl,ih⟩)
theorem q0j:∀{a b:LB} (r s:LB),a<b->escL a++(0::0::r)<escL b++(0::0::s)
 | _,[],_,_,h=>absurd h (DS _)
 | [],d::b,r,s,_=>by
  by_cases hd:d=0
  ·subst hd;rw[qb1];exact BC.2 (.inr ⟨rfl,BC.2 (.inl Od)⟩)
  ·rw[qa3 _ hd];exact BC.2 (.inl (q8r hd))
 | c::a,d::b,r,s,h=>by
  rcases BC.1 h with h1|⟨rfl,h1⟩
  ·rw[qa3 _ (qacd h1)]
   by_cases hc:c=0
   ·subst hc;rw[qb1];exact BC.2 (.inl h1)
   ·rw[qa3 _ hc];exact BC.2 (.inl h1)
  ·by_cases hc:c=0
   ·subst hc;rw[qb1,qb1];exact qhk [0,1] (q0j r s h1)
   ·rw[qa3 _ hc,qa3 _ hc];exact qhk [c] (q0j r s h1)
theorem q8p:∀{a b:LB} (r s:LB),(∀c∈b,c≠0)->a<b->a++(0::r)<b++(0::s)
 | _,[],_,_,_,h=>absurd h (DS _)
 | [],d::b,r,s,hb,_=>BC.2 (.inl (q8r (hb d mh)))
 | c::a,d::b,r,s,hb,h=>by
  rcases BC.1 h with h1|⟨rfl,h1⟩
  ·exact BC.2 (.inl h1)
  ·exact qhk [c] (q8p r s (fun x hx=>hb x (zmc hx)) h1)
theorem qvt{a b:TM}(ha:qaj a=0)(hb:qaj b=0)(hk:a.kind=b.kind)(h:LtT a b):qae a<qae b:=by
 have h:slt a.text b.text=true\/(a.text=b.text/\(slt a.type b.type=true\/(a.type=b.type/\slt a.lang b.lang=true))):=by
  rcases h with g|⟨_,g⟩
  ·exact absurd g Oo
  ·exact g
 simp only[qeo]at h
 by_cases h3:b.kind=3
 ·have ra:ReadsAs 3 (qae a) a:=⟨by omega,ha,rfl⟩
  have rb:ReadsAs 3 (qae b) b:=⟨h3,hb,rfl⟩
  obtain⟨ea,_⟩:=ra.lit;obtain⟨eb,hz⟩:=rb.lit;rw[ea,eb]
  rcases h with h|⟨e1,h|⟨e2,h⟩⟩
  ·exact q0j _ _ h
  ·rw[e1];exact qhk _ (qhk [0,0] (q8p _ _ hz h))
  ·rw[e1,e2];exact qhk _ (qhk [0,0] (qhk _ (qhk [0] h)))
 ·have ra:ReadsAs a.kind (qae a) a:=⟨rfl,ha,rfl⟩
  have rb:ReadsAs b.kind (qae b) b:=⟨rfl,hb,rfl⟩
  obtain⟨a1,a2,a3⟩:=ra.plain Oo;obtain⟨b1,b2,b3⟩:=rb.plain h3;rw[<-a1,<-b1]
  rcases h with h|⟨_,h|⟨_,h⟩⟩
  ·exact h
  ·rw[b2]at h;exact absurd h (DS _)
  ·rw[b3]at h;exact absurd h (DS _)
open Classical in
noncomputable def dicE(L:List LB):Nat:=
 if 4194304<L.length\/∃i,262144<(tx L i).length then 2 else if ∃i,i+1<L.length/\leL (tx L (i+1)) (tx L i)=true then 160 else if 67108864<(qam L).length then 1 else 0
theorem LtQ.trans{a b c:Q4}(h:LtQ a b)(g:LtQ b c):LtQ a c:=by
 obtain⟨k,h1,h2,h3⟩:=h;obtain⟨m,g1,g2,g3⟩:=g
 rcases Dv k m with e|e|e
 ·exact⟨k,h1,fun j hj=>(h2 j hj).trans (g2 j Oo),by rw[<-g2 k e];exact h3⟩
 ·subst e;exact⟨k,h1,fun j hj=>(h2 j hj).trans (g2 j hj),h3.trans g3⟩
 ·exact⟨m,g1,fun j hj=>(h2 j Oo).trans (g2 j hj),by rw[h2 m e];exact g3⟩
theorem q2j{α:Type}{R:α->α->Prop}(ht:∀a b c,R a b->R b c->R a c){l:List α}(h:∀i a b,l[i]?=some a->l[i+1]?=some b->R a b):l.Pairwise R:=by
 refine Cd.2 fun i j hi hj hij=>?_;obtain⟨d,rfl⟩:∃d,j=i+1+d:=⟨j-(i+1),by omega⟩
 clear hij
 induction d with
 | zero=>exact h i _ _ (zge hi) (zge hj)
 | succ d ih=>exact ht _ _ _ (ih Oo) (h (i+1+d) _ _ (zge Oo) (zge hj))
section
variable {l:LB} (h:(poE l).2=0)
include h
end
def cmpQ(a b:Q4):Int:=if cmpT a.g b.g≠0 then cmpT a.g b.g else if cmpT a.s b.s≠0 then cmpT a.s b.s else if cmpT a.p b.p≠0 then cmpT a.p b.p else cmpT a.o b.o
theorem qcv{a b:Q4}:cmpQ a b<0↔LtQ a b:=by
 unfold cmpQ
 constructor
 ·intro h
  by_cases h0:cmpT a.g b.g≠0
  ·rw[Ad h0]at h;exact⟨0,by decide,fun j hj=>absurd hj (Cn _),qci.1 h⟩
  rw[Aa h0]at h;have e0:=qa2.1 (C0.1 h0)
  by_cases h1:cmpT a.s b.s≠0
  ·rw[Ad h1]at h;exact⟨1,by decide,fun j hj=>by obtain rfl:j=0:=(by omega);exact e0,qci.1 h⟩
  rw[Aa h1]at h;have e1:=qa2.1 (C0.1 h1)
  by_cases h2:cmpT a.p b.p≠0
  ·rw[Ad h2]at h;refine⟨2,by decide,fun j hj=>?_,qci.1 h⟩
   rcases(show j=0\/j=1 by omega)with rfl|rfl
   ·exact e0
   ·exact e1
  rw[Aa h2]at h;have e2:=qa2.1 (C0.1 h2);refine⟨3,by decide,fun j hj=>?_,qci.1 h⟩
  rcases(show j=0\/j=1\/j=2 by omega)with rfl|rfl|rfl
  ·exact e0
  ·exact e1
  ·exact e2
 ·rintro⟨k,hk,h1,h2⟩
  match k,hk with
  | 0,_=>
   have:=qci.2 h2;have g:cmpT a.g b.g<0:=this;rw[Ad Oo];exact g
  | 1,_=>
   have g:cmpT a.s b.s<0:=qci.2 h2;rw[Aa (fun x=>x (qa2.2 (h1 0 Od))),Ad Oo];exact g
  | 2,_=>
   have g:cmpT a.p b.p<0:=qci.2 h2;rw[Aa (fun x=>x (qa2.2 (h1 0 Od))),Aa (fun x=>x (qa2.2 (h1 1 Od))),Ad Oo];exact g
  | 3,_=>
   have g:cmpT a.o b.o<0:=qci.2 h2;rw[Aa (fun x=>x (qa2.2 (h1 0 Od))),Aa (fun x=>x (qa2.2 (h1 1 Od))),Aa (fun x=>x (qa2.2 (h1 2 Od)))];exact g
def qzj(qs:List Q4)(n:Nat):Prop:=∀i,i+1<n->∀a b,qs[i]?=some a->qs[i+1]?=some b->LtQ a b
open Classical in
noncomputable def valE(qs:List Q4):Nat:=if 1048576<qs.length then 2 else if qdk (qs.map qb6)≠0 then qdk (qs.map qb6)else if qzj qs qs.length then 0 else 6
theorem qsh(h:1048576<qs.length):valE qs=2:=by rw[valE,Ad h]
theorem qsi(h:¬1048576<qs.length){e:Nat}{q:Q4}(hq:qs[i]?=some q)(hj:∀j r,j<i->qs[j]?=some r->qb6 r=0)(he:qb6 q=e)(h0:e≠0):valE qs=e:=by
 have hl:=(Ae.1 hq).1;have e1:qdk (qs.map qb6)=e:=by
  rw[qkx (k:=i) (by rw[AC];exact hl) (fun j hj1 hj2=>by rw[Cx];exact hj j _ hj2 (zge Oo))
   (by rw[Cx,(Ae.1 hq).2,he];exact h0),Cx,(Ae.1 hq).2,he]
 rw[valE,Aa h,e1,Ad h0]
theorem qm9(h:∀q∈qs,qb6 q=0):qdk (qs.map qb6)=0:=
 qee fun j hj=>by rw[Cx];exact h _ (AT _)
theorem qw9(h:¬1048576<qs.length)(hq:∀q∈qs,qb6 q=0){a b:Q4}(ha:qs[i]?=some a)(hb:qs[i+1]?=some b)(hn:¬LtQ a b):valE qs=6:=by
 have hl:=(Ae.1 hb).1;rw[valE,Aa h,qm9 hq,Aa (fun g=>g rfl),Aa (fun g=>hn (g i hl a b ha hb))]
theorem q3x(h:¬1048576<qs.length)(hq:∀q∈qs,qb6 q=0)(hr:qzj qs qs.length):valE qs=0:=by
 rw[valE,Aa h,qm9 hq,Aa (fun g=>g rfl),Ad hr]
theorem qip:∀{l:EF},qdk l=0->∀x∈l,x=0
 | [],_,x,hx=>by cases hx
 | y::l,h,x,hx=>by
  rw[qdk]at h
  by_cases e:y=0
  ·rw[Aa (fun g=>g e)]at h
   rcases AD.1 hx with rfl|hx
   ·exact e
   ·exact qip h x hx
  ·rw[Ad e]at h;exact absurd h e
theorem qdh(h:valE qs=0):qs.length<=1048576/\(∀q∈qs,qb6 q=0)/\qs.Pairwise LtQ:=by
 unfold valE at h
 by_cases h1:1048576<qs.length
 case pos=>rw[Ad h1]at h;cases h
 rw[Aa h1]at h
 by_cases h2:qdk (qs.map qb6)≠0
 case pos=>rw[Ad h2]at h;exact absurd h h2
 rw[Aa h2]at h
 by_cases h3:qzj qs qs.length
 case neg=>rw[Aa h3]at h;cases h
 refine⟨by omega,fun q hq=>qip (C0.1 h2) _ (AY.2 ⟨q,hq,rfl⟩),q2j (R:=LtQ) (fun _ _ _ h g=>LtQ.trans h g) fun i a b ha hb=>h3 i (Ae.1 hb).1 a b ha hb⟩
theorem qph{q:Q4}(h:qb6 q=0)(hk:k<4):qE k (q.at k)=0:=qip h _ (AY.2 ⟨k,BY.2 hk,rfl⟩)
theorem qpg{t:TM}(h:qE k t=0):canB k t=true/\((k=3/\t.kind=0)\/qaj t=0):=by
 unfold qE at h
 by_cases h1:canB k t=false
 case pos=>rw[Ad h1]at h;cases h
 rw[Aa h1]at h;refine⟨by simpa using h1,?_⟩
 by_cases h2:k=3/\t.kind=0
 ·exact .inl h2
 ·rw[Aa h2]at h;exact .inr h
theorem qnh{t:TM}(h:qaj t=0):1<=t.kind/\t.kind<=3:=by
 unfold qaj at h
 by_cases h1:t.kind=1\/t.kind=2
 ·omega
 ·rw[Aa h1]at h
  by_cases h2:t.kind=3
  ·omega
  ·rw[Aa h2]at h;cases h
theorem q7o{t:TM}(h:quy t=true):t=zTM:=qcg.1 h
theorem qwj{q:Q4}(h:qb6 q=0)(hk:k<4):(qaj (gat q k)=0/\gat q k∈trQ q)\/(k=0/\(gat q k).kind=0/\gat q k=zTM):=by
 match k,hk with
 | 0,_=>
  obtain⟨h1,h2⟩:=qpg (qph h (k:=3) Od)
  by_cases h0:q.g.kind=0
  ·refine .inr ⟨rfl,h0,?_⟩;have h1:canB 3 q.g=true:=h1;rw[canB,Aa Oo,Aa Oo,Aa Oo]at h1;simp only[CA,decide_eq_true_eq]at h1
   rcases h1 with(h1|h1)|h1
   ·exact q7o h1
   ·omega
   ·omega
  ·refine .inl ⟨h2.resolve_left fun g=>h0 g.2,?_⟩;rw[trQ,Aa h0];exact Ai _ (Ah.2 rfl)
 | 1,_=>
  obtain⟨_,h2⟩:=qpg (qph h (k:=0) Od);exact .inl ⟨h2.resolve_left fun g=>absurd g.1 Od,Bb _ mh⟩
 | 2,_=>
  obtain⟨_,h2⟩:=qpg (qph h (k:=1) Od);exact .inl ⟨h2.resolve_left fun g=>absurd g.1 Od,Bb _ (zmc mh)⟩
 | 3,_=>
  obtain⟨_,h2⟩:=qpg (qph h (k:=2) Od);exact .inl ⟨h2.resolve_left fun g=>absurd g.1 Od,Bb _ (zmc (zmc mh))⟩
theorem q3m{q:Q4}{t:TM}(h:t∈trQ q):∃k,k<4/\gat q k=t/\(k=0->(gat q k).kind≠0):=by
 rw[trQ]at h
 rcases Ba.1 h with h|h
 ·simp only[AD,Cu,or_false]at h
  rcases h with rfl|rfl|rfl
  ·exact⟨1,by decide,rfl,fun g=>by cases g⟩
  ·exact⟨2,by decide,rfl,fun g=>by cases g⟩
  ·exact⟨3,by decide,rfl,fun g=>by cases g⟩
 ·by_cases h0:q.g.kind=0
  ·rw[Ad h0]at h;cases h
  ·rw[Aa h0]at h;rw[Ah.1 h];exact⟨0,by decide,rfl,fun _=>h0⟩
def tmsQ(qs:List Q4):List TM:=tmsN (trms qs).length (trms qs)
theorem qsd(qs:List Q4):RiseT (tmsQ qs):=(qh7 _ (trms qs) znr).1
theorem q51{t:TM}:t∈trms qs↔∃q∈qs,t∈trQ q:=by
 simp only[trms,DL,AY]
 constructor
 ·rintro⟨_,⟨q,hq,rfl⟩,ht⟩;exact⟨q,hq,ht⟩
 ·rintro⟨q,hq,ht⟩;exact⟨_,⟨q,hq,rfl⟩,ht⟩
theorem qke{t:TM}:t∈tmsQ qs↔∃q∈qs,t∈trQ q:=by
 rw[<-q51];exact(qh7 _ (trms qs) znr).2 t
section
variable {qs:List Q4} (h:valE qs=0)
include h
theorem qfq{t:TM}(ht:t∈tmsQ qs):qaj t=0/\1<=t.kind/\t.kind<=3:=by
 obtain⟨q,hq,hm⟩:=qke.1 ht;obtain⟨k,hk,rfl,h0⟩:=q3m hm
 rcases qwj ((qdh h).2.1 q hq) hk with g|⟨g1,g2,_⟩
 ·exact⟨g.1,qnh g.1⟩
 ·exact absurd g2 (h0 g1)
theorem qw1(hn:(tmsQ qs).length<=4194304):SetOk (tmsQ qs) qs:=by
 obtain⟨h1,h2,h3⟩:=qdh h;refine⟨qsd qs,hn,fun t ht=>by have:=qfq h ht;omega,fun q hq k hk=>?_,h1,h3⟩
 rcases qwj (h2 q hq) hk with g|g
 ·exact .inl (qke.2 ⟨q,hq,g.2⟩)
 ·exact .inr g
theorem q64(hn:(tmsQ qs).length<=4194304)(hv:VOk (tmsQ qs))(hs:(vocB (tmsQ qs)).length+(qr (noQ (tmsQ qs) qs) qs.length).length+36<=67108864):EncOk (tmsQ qs) qs:=by
 refine⟨qw1 h hn,hv,fun t ht=>(qfq h ht).2.2,fun t ht=>(qfq h ht).1,fun q hq=>(qdh h).2.1 q hq,fun t ht=>?_,hs⟩;obtain⟨q,hq,hm⟩:=qke.1 ht;obtain⟨k,hk,e,_⟩:=q3m hm;exact⟨q,hq,k,hk,e⟩
end
theorem qz4{L:List LB}(h:4194304<L.length):dicE L=2:=by rw[dicE,Ad (.inl h)]
theorem qz6{L:List LB}(h:262144<(tx L i).length):dicE L=2:=by rw[dicE,Ad (.inr ⟨i,h⟩)]
theorem qz5{L:List LB}(h:¬4194304<L.length)(h2:∀i,¬262144<(tx L i).length)(hi:i+1<L.length)(hl:leL (tx L (i+1)) (tx L i)=true):dicE L=160:=by
 rw[dicE,Aa (fun g=>g.elim h fun⟨i,g⟩=>h2 i g),Ad ⟨i,hi,hl⟩]
theorem qkv{L:List LB}(h:dicE L=0):DOk L:=by
 unfold dicE at h
 by_cases h1:4194304<L.length\/∃i,262144<(tx L i).length
 case pos=>rw[Ad h1]at h;cases h
 rw[Aa h1]at h
 by_cases h2:∃i,i+1<L.length/\leL (tx L (i+1)) (tx L i)=true
 case pos=>rw[Ad h2]at h;cases h
 rw[Aa h2]at h
 by_cases h3:67108864<(qam L).length
 case pos=>rw[Ad h3]at h;cases h
 refine⟨DT.1 fun g=>h1 (.inl g),fun i=>DT.1 fun g=>h1 (.inr ⟨i,g⟩),fun i hi=>?_,by omega⟩;cases e:leL (tx L (i+1)) (tx L i)with
 | false=>rfl
 | true=>exact absurd ⟨i,hi,e⟩ h2
noncomputable def qe3(T:List TM):Nat:=if dicE (secE T 0)≠0 then dicE (secE T 0)else if dicE (secE T 1)≠0 then dicE (secE T 1)else dicE (secE T 2)
theorem q7g(hk:k<3)(h:∀j,j<k->dicE (secE T j)=0)(h0:dicE (secE T k)≠0):qe3 T=dicE (secE T k):=by
 match k,hk with
 | 0,_=>rw[qe3,Ad h0]
 | 1,_=>rw[qe3,Aa (fun g=>g (h 0 Od)),Ad h0]
 | 2,_=>rw[qe3,Aa (fun g=>g (h 0 Od)),Aa (fun g=>g (h 1 Od))]
theorem q7h(h:∀k,k<3->dicE (secE T k)=0):qe3 T=0:=by
 rw[qe3,Aa (fun g=>g (h 0 Od)),Aa (fun g=>g (h 1 Od))];exact h 2 Od
theorem qnl(h:qe3 T=0):∀k,k<3->dicE (secE T k)=0:=by
 unfold qe3 at h
 by_cases h0:dicE (secE T 0)≠0
 case pos=>rw[Ad h0]at h;exact absurd h h0
 rw[Aa h0]at h
 by_cases h1:dicE (secE T 1)≠0
 case pos=>rw[Ad h1]at h;exact absurd h h1
 rw[Aa h1]at h;intro k hk
 match k,hk with
 | 0,_=>exact C0.1 h0
 | 1,_=>exact C0.1 h1
 | 2,_=>exact h
def pkB(qs:List Q4):LB:=encP (tmsQ qs) qs
theorem qabf(qs:List Q4):(pkB qs).length=(vocB (tmsQ qs)).length+(qr (noQ (tmsQ qs) qs) qs.length).length+36:=qwh _ _ _ _
noncomputable def encE(qs:List Q4)(most:Int):Nat:=
 if valE qs≠0 then valE qs else if qe3 (tmsQ qs)≠0 then qe3 (tmsQ qs)else if most<((pkB qs).length:Int)\/67108864<(pkB qs).length then 1 else 0
section
variable {qs:List Q4} {most:Int}
theorem q5a(h:valE qs≠0):encE qs most=valE qs:=by rw[encE,Ad h]
theorem q5b(h:valE qs=0)(h2:qe3 (tmsQ qs)≠0):encE qs most=qe3 (tmsQ qs):=by rw[encE,Aa (fun g=>g h),Ad h2]
theorem q48(h:valE qs=0)(h2:qe3 (tmsQ qs)=0)(h3:most<((pkB qs).length:Int)\/67108864<(pkB qs).length):encE qs most=1:=by rw[encE,Aa (fun g=>g h),Aa (fun g=>g h2),Ad h3]
theorem q9t(h:valE qs=0)(h2:qe3 (tmsQ qs)=0)(h3:¬(most<((pkB qs).length:Int)\/67108864<(pkB qs).length)):encE qs most=0:=by rw[encE,Aa (fun g=>g h),Aa (fun g=>g h2),Aa h3]
theorem qg8(h:encE qs most=0):valE qs=0/\qe3 (tmsQ qs)=0/\((pkB qs).length:Int)<=most/\(pkB qs).length<=67108864:=by
 unfold encE at h
 by_cases h0:valE qs≠0
 case pos=>rw[Ad h0]at h;exact absurd h h0
 rw[Aa h0]at h
 by_cases h1:qe3 (tmsQ qs)≠0
 case pos=>rw[Ad h1]at h;exact absurd h h1
 rw[Aa h1]at h
 by_cases h2:most<((pkB qs).length:Int)\/67108864<(pkB qs).length
 case pos=>rw[Ad h2]at h;cases h
 exact⟨C0.1 h0,C0.1 h1,by omega,by omega⟩
theorem qadd(a b c:LB):a.length+b.length+c.length<=(jo3 a b c).length:=by
 rw[jo3];simp only[zla];omega
theorem q49(hn:(tmsQ qs).length<=4194304)(h:encE qs most=0):EncOk (tmsQ qs) qs:=by
 obtain⟨h1,h2,_,h4⟩:=qg8 h;rw[qabf]at h4;refine q64 h1 hn ⟨fun k hk=>qkv (qnl h2 k hk),?_⟩ h4;have:=qadd (qp (secE (tmsQ qs) 0)) (qp (secE (tmsQ qs) 1)) (qp (secE (tmsQ qs) 2));have e:(vocB (tmsQ qs)).length=(jo3 (qp (secE (tmsQ qs) 0)) (qp (secE (tmsQ qs) 1)) (qp (secE (tmsQ qs) 2))).length:=rfl;omega
end
theorem qt7(g:FuncId)(c1 c2:E8)(n:Nat)(p:Nat->Bool)(w:Ez)(hn:n<=4194304)(hp:∀i j,i<=j->p i=true->p j=true)(hg:∀i w',i<n->Ext w w'->Gv EG g [ii i,c1,c2] w' fun r w''=>r=.bool (p i)/\Ext w' w''):
  Gv EG 257 [ii n,.func (.func g) #[] #[c1,c2]] w fun r w'=>∃k:Nat,r=ii k/\k<=n/\(∀i,i<k->p i=false)/\(∀i,k<=i->i<n->p i=true)/\Ext w w':=by
 refine ze Tryz.func257 Tryz.ntmps257 ?_;refine qj (fun s:Nat×Nat=>[(1,.func (.func g) #[] #[c1,c2]),(5,ii s.1),(6,ii s.2)])
  (fun s w'=>s.1<=s.2/\s.2<=n/\(∀i,i<s.1->p i=false)/\(∀i,s.2<=i->i<n->p i=true)/\Ext w w') (fun s=>s.2-s.1) (0,n) fq ⟨Am _,Aq _,fun i h=>by omega,fun i h1 h2=>by omega,xr⟩ ?_
 rintro⟨a,b⟩ w1 ρ' ⟨h1,h2,h3,h4,he⟩;dsimp only at h1 h2 h3 h4|-;(conv=>whnf);refine zC (fun _=>zu ?_) (fun _=>zu ?_)
 ·obtain⟨h,eh⟩:∃h,h=(a+b)/2:=⟨_,rfl⟩
  rw[<-Int.natCast_add];refine V.Wit.shrN 1 rfl Od ?_;rw[Nat.pow_one,<-eh];refine zu ?_;refine zcv (hg h w1 Oo he) ?_;rintro r w2 ⟨rfl,he2⟩;have he:=he.trans he2;cases hph:p h
  ·refine zu ?_;refine⟨(h+1,b),fq,⟨by show h+1<=b;omega,h2,fun i hi=>?_,h4,he⟩,by show b-(h+1)<b-a;omega⟩
   by_cases hip:p i=true
   ·have:=hp i h (by show i<=h;have hi:i<h+1:=hi;omega) hip;rw[hph]at this;cases this
   ·simpa using hip
  ·refine zu ?_;refine⟨(a,h),fq,⟨by show a<=h;omega,by show h<=n;omega,h3,fun i hi _=>hp h i hi hph,he⟩,by show h-a<b-a;omega⟩
 ·obtain rfl:a=b:=by omega
  exact⟨a,rfl,h2,h3,h4,he⟩
def ltx(L:List LB)(i:Nat)(s:E0):Bool:=slt ⟨(tx L i).toArray⟩ s
theorem DOk.up{L:List LB}(h:DOk L)(hij:i<j)(hj:j<L.length):slt ⟨(tx L i).toArray⟩ ⟨(tx L j).toArray⟩=true:=by
 induction j with
 | zero=>omega
 | succ j ih=>
  have h1:slt ⟨(tx L j).toArray⟩ ⟨(tx L (j+1)).toArray⟩=true:=by
   have h2:=h.rise j hj;simp only[leL,CY]at h2
   rcases qps ⟨(tx L j).toArray⟩ ⟨(tx L (j+1)).toArray⟩with g|g|g
   ·exact g
   ·rw[g]at h2;have:=h2.2;simp[seq]at this
   ·rw[g]at h2;exact absurd h2.1 Od
  by_cases e:i=j
  ·subst e;exact h1
  ·exact qfo (ih Oo Oo) h1
theorem DOk.ltx_up{L:List LB}(h:DOk L)(hij:i<=j)(hj:j<L.length)(hs:ltx L j s=true):ltx L i s=true:=by
 by_cases e:i=j
 ·subst e;exact hs
 ·exact qfo (h.up Oo hj) hs
theorem qqw(b:Nat)(t s:E0)(w:Ez)(hb:w.cell? ⟨b,0,none⟩=some (.string s)):
  Gv EG 220 [.string t,pp b] w fun r w'=>r=.bool (slt t s)/\Ext w w':=by
 refine ze Tryz.func220 Tryz.ntmps220 ?_;refine LoadV.of hb (zw ?_);exact⟨rfl,xr⟩
theorem qxd(L:List LB)(hL:DOk L)(b b2 b3 sb i:Nat)(s:E0)(w:Ez)(hD:DictAt w b (qp L))(hi:i<upN L.length 16)(h2:w.cell? ⟨b2,0,none⟩=some (pp b))(h3:w.cell? ⟨b3,0,none⟩=some (.func (.func 220) #[] #[pp sb]))(hs:w.cell? ⟨sb,0,none⟩=some (.string s)):
  Gv EG 275 [ii i,pp b2,pp b3] w fun r w'=>r=.bool (!ltx L (16*i) s)/\Ext w w':=by
 have hi16:16*i<L.length:=by unfold upN at hi;omega
 have hn:=hL.n;have hpl:=qqn hD i;have hx:qcs (qe (qp L)) (q9 (qp L) i) true []=blk (qe (qp L)) (q9 (qp L) i) 0:=rfl;have hg:=qst (m:=qp L) (by rw[hL.eoE]) (i:=16*i) (by rw[hL.eN];exact hi16);rw[hL.eGet hi16,dTxt,show 16*i/16=i by omega,show 16*i%16=0 by omega]at hg;obtain⟨q1,q2⟩:=hg;have q2:=BB q2;obtain⟨x,ex⟩:∃x,x=blk (qe (qp L)) (q9 (qp L) i) 0:=⟨_,rfl⟩
 rw[<-ex]at q1 q2 hx;obtain⟨P,cp,E',ce,hd1,_,_,_⟩:=id hD.1;refine ze Tryz.func275 Tryz.ntmps275 ?_;refine DrawV.free Jk Jk (zw ?_);apply zsd
 ·intro wd hd;(conv=>whnf);refine LoadV.of (((Ext.refl w).drew.trans hd).cell h2) (zw ?_);exact xq
 (conv=>whnf);apply zsd
 ·intro wd hd;(conv=>whnf);refine LoadV.of (((Ext.refl w).drew.trans hd).cell h2) (zw ?_);exact xq
 (conv=>whnf);refine zd ?_;apply zsd
 ·intro wd hd;(conv=>whnf);refine zcv (qrn b (qp L) i wd (hD.ext ((Ext.refl w).drew.trans hd)) (by rw[hL.eN];exact hi)) ?_;rintro v w' ⟨rfl,rfl⟩;exact xq
 (conv=>whnf);apply zsd
 ·intro wd hd;(conv=>whnf);refine zcv (qqt b (qp L) (q9 (qp L) i) true ⟨#[]⟩ wd (hD.ext ((Ext.refl w).drew.trans hd)) Oo Od) ?_;rintro v w' ⟨rfl,he⟩;exact⟨he,rfl⟩
 (conv=>whnf);have hx':qcs (qe (qp L)) (q9 (qp L) i) true (⟨#[]⟩:E0).data.toList=x:=hx;rw[hx'];clear hx hx' ex;obtain⟨x1,x2,x3⟩:=x;dsimp only at q1 q2;subst q1 q2;(iterate 7 (refine zd ?_));intro w2 he2;have he2:=(Ext.refl w).drew.trans he2;(conv=>whnf);refine zC (fun _=>zu ?_) (fun _=>zu ?_)
 ·rename_i hx
  exact absurd rfl hx
 refine LoadV.of (he2.cell h3) (zu ?_);refine zcv (qqw sb ⟨(tx L (16*i)).toArray⟩ s w2 (he2.cell hs)) ?_;rintro r w3 ⟨rfl,he3⟩;refine zu ?_;exact⟨rfl,he2.trans he3⟩
structure AhN(L:List LB)(s:E0)(N:Nat):Prop where
 le:N<=L.length
 lt:∀i,i<N->ltx L i s=true
 ge:N<L.length->ltx L N s=false
theorem DOk.txt{L:List LB}(h:DOk L)(hi:i<L.length):dTxt (qp L) i=tx L i:=by
 have hg:=(qst (m:=qp L) (by rw[h.eoE]) (i:=i) (by rw[h.eN];exact hi)).2;rw[h.eGet hi]at hg;exact(BB hg).symm
theorem qzv(b k:Nat)(w:Ez):Gv EG 278 [pp b,ii k] w fun r w'=>
  ∃b1 b2,r=.func (.func 319) #[] #[pp b1,pp b2]/\Mem w w' [(b2,.cells #[ii k] 3),(b1,.cells #[pp b] 199)]:=by
 refine ze Tryz.func278 Tryz.ntmps278 ?_;refine znm (Mem.nil w) fun b1 w1 hm=>zw ?_;refine znm hm fun b2 w2 hm=>zw ?_;exact⟨b1,b2,rfl,hm⟩
theorem qzl(L:List LB)(hL:DOk L)(b sb:Nat)(s:E0)(w:Ez)(hD:DictAt w b (qp L))(hs:w.cell? ⟨sb,0,none⟩=some (.string s)):
  Gv EG 219 [pp b,.func (.func 220) #[] #[pp sb]] w fun r w'=>(∃N:Nat,r=ii N/\AhN L s N)/\Ext w w':=by
 have hn:=hL.n;have hub:upN L.length 16<=4194304:=AU (qb9 _ _ Od) hn;refine gvW Jk Tryz.func219 rfl Tryz.ntmps219 rfl (zw ?_);refine znm (Mem.nil w) fun b2 w1 hm=>zw ?_;refine znm hm fun b3 w2 hm=>zw ?_;obtain⟨fv,efv⟩:∃fv:E8,fv=.func (.func 220) #[] #[pp sb]:=⟨_,rfl⟩
 refine zr hm 1 ?_;obtain⟨P,cp,E,ce,hd1,_,_,_⟩:=(hD.ext hm.ext).1;refine LoadV.own hd1 rfl ?_;rw[hL.eN];(conv=>whnf);refine zcv (qmp L.length w2 hn) ?_;rintro v w' ⟨rfl,rfl⟩;(conv=>whnf);have hss:=qt7 275 (pp b2) (pp b3) (upN L.length 16) (fun i => !(decide (16*i<L.length)&&ltx L (16*i) s)) w' hub (fun i j hij h=>by
  simp only[Du,Bool.and_eq_false_iff,decide_eq_false_iff_not]at h|-
  by_cases hj:16*j<L.length
  ·right
   have h1:=h.resolve_left (fun g=>g Oo);cases hx:ltx L (16*j) s
   ·rfl
   ·rw[hL.ltx_up Oo hj hx]at h1;cases h1
  ·exact .inl hj) (fun i w2 hi he=>(qxd L hL b b2 b3 sb i s w2 (hD.ext (hm.ext.trans he)) hi (by rw[qa (he.get (hm.get (zmc mh)))];rfl) (by rw[qa (he.get (hm.get mh))];rfl) ((hm.ext.trans he).cell hs)).mono fun r w3 ⟨h1,h2⟩=>⟨by
    have hi16:16*i<L.length:=by unfold upN at hi;omega
    rw[h1,Az hi16,Dh],h2⟩)
 refine zcv (hss) ?_;rintro v w3 ⟨k,rfl,hk1,hk2,hk3,he3⟩;have hm:=hm.call he3;clear hss;have hin:∀i,i<upN L.length 16->16*i<L.length:=fun i h=>by unfold upN at h;omega
 have hk2:∀i,i<k->ltx L (16*i) s=true:=fun i h=>by
  have h1:=hk2 i h;have h2:=hin i Oo
  simpa[h2]using h1
 have hk3:∀i,k<=i->16*i<L.length->ltx L (16*i) s=false:=fun i h h2=>by
  have h1:=hk3 i h (by unfold upN;omega)
  simpa[h2]using h1
 clear hd1;(conv=>whnf);refine zC (fun _=>zu ?_) (fun _=>zu ?_)
 ·obtain rfl:k=0:=by omega
  exact⟨⟨0,rfl,Am _,fun i h=>by omega,fun h=>hk3 0 znr h⟩,hm.ext⟩
 obtain⟨q,rfl⟩:∃q,k=q+1:=⟨k-1,by omega⟩
 rw[show(((q+1:Nat):Int)-1)=(q:Int)by omega];refine znm hm fun b6 w4 hm=>zw ?_;refine StoreV.mem hm (i:=0) rfl Js rfl fun w5 hm=>zw ?_;refine zr hm 2 ?_;refine zv ?_;rw[show(((q+1:Nat):Int)-1)=(q:Int)by omega];refine zcv (qzv b q w5) ?_;rintro v w6 ⟨b1,b7,rfl,hm7⟩;have hm:=hm.glue hm7;have hdn:dN (qp L)=L.length:=hL.eN;obtain⟨n,en⟩:∃n,n=min 16 (L.length-16*q):=⟨_,rfl⟩
 have hbe:BEnd (qp L) q n:=by
  have:=BEnd.full (m:=qp L) (by rw[hL.eoE]) q;rw[hdn,<-en]at this;exact this
 have hq16:=hin q Oo;obtain⟨R,eR⟩:∃R:Nat->ED,R=fun k=>[(b7,.cells #[ii q] 3),(b1,.cells #[pp b] 199),(b6,.cells #[ii (16*q+k:Nat)] 3),(b3,.cells #[fv] 321),(b2,.cells #[pp b] 199)]:=⟨_,rfl⟩
 have hm:Mem w w6 (R 0):=by
  rw[eR,efv];dsimp only;rw[show((16*q+0:Nat):Int)=(q:Int)*16 by omega];exact hm
 have hin1:∀k,(b1,Obj.cells #[pp b] 199)∈R k:=fun k=>by rw[eR];exact zmg (i:=1) rfl
 have hin7:∀k,(b7,Obj.cells #[ii q] 3)∈R k:=fun k=>by rw[eR];exact zmg (i:=0) rfl
 have hlen:((List.range n).map (bRow (qp L) q)).length=n:=by simp
 (conv=>whnf);refine q2u (Φ:=BlkΦ b (qp L) q b1 b7) (lb:=[pp b1,pp b7]) (xs:=(List.range n).map (bRow (qp L) q)) rfl Jk (qqe b (qp L) q n b1 b7 (by rw[hdn];omega) hbe).toC Od ?_
  (fun k X w'=>∃_:Unit,(k<=n/\∀j,j<k->ltx L (16*q+j) s=true)/\Mem w w' (X++R k))
  (fun c k X w'=>∃_:Unit,(c=.exit 0/\k<n/\(∀j,j<k->ltx L (16*q+j) s=true)/\ltx L (16*q+k) s=false)/\Mem w w' (X++R k))
  (fun k=>Carr.mem _ _) (fun c k=>Carr.mem _ _) (fun k X w' ⟨_,_,hm'⟩=>⟨hD.ext hm'.ext,by rw[qa (hm'.get (Ai _ (hin1 _)))];rfl,by rw[qa (hm'.get (Ai _ (hin7 _)))];rfl⟩) ⟨(),⟨Am _,fun j h=>by omega⟩,by simpa using hm⟩ ?_ ?_ ?_
 ·intro x hx;obtain⟨j,_,rfl⟩:=AY.1 hx;rfl
 ·clear hm hm7;rintro l D ob k x X w7 w8 hx ⟨_,⟨hk,hj⟩,hm⟩;have hkn:k<n:=by
   have:=(Ae.1 hx).1
   rwa[hlen]at this
  rw[Ao,Bt hkn,B4,Bp,q4i _ _ _ Oo,hL.txt Oo]at hx;subst hx;obtain⟨X',eX'⟩:∃X',X'=(l,ob)::(D,.deferred (some []))::X:=⟨_,rfl⟩
  rw[<-eX']at hm|-;have hm:Mem w w8 (R k++X'):=hm.perm AE;rw[eR]at hm|-;dsimp only at hm|-;rw[efv]at hm|-;(conv=>whnf);refine⟨rfl,rfl,?_⟩;(conv=>whnf);refine zr hm 3 ?_;refine zcv (qqw sb ⟨(tx L (16*q+k)).toArray⟩ s w8 (hm.ext.cell hs)) ?_;rintro r w9 ⟨rfl,he9⟩;have hm:=hm.call he9;cases hlt:slt ⟨(tx L (16*q+k)).toArray⟩ s
  ·refine zu ?_;exact⟨(),⟨rfl,hkn,hj,hlt⟩,hm.perm AE⟩
  ·refine zu ?_;refine StoreV.mem hm (i:=2) rfl Js rfl fun w10 hm=>zw ?_;refine⟨(),⟨hkn,fun j' hj'=>?_⟩,?_⟩
   ·by_cases e:j'=k
    ·subst e;exact hlt
    ·exact hj j' Oo
   ·rw[show((16*q+(k+1):Nat):Int)=((16*q+k:Nat):Int)+1 by omega];exact hm.perm AE
 ·clear hm hm7;rintro D w8 ⟨_,⟨hk,hj⟩,hm⟩;rw[hlen]at hk hj hm;have hm:=hm.perm (List.Perm.cons _ (show(([]:ED)++R n).Perm (R n)from List.Perm.refl _));rw[eR]at hm;(conv=>whnf);refine zr hm 3 ?_;refine LeaveV.mark (hm.get mh) fun w9 hw=>?_;have hm:=hm.setO (i:=0) _ rfl hw;(conv=>whnf);refine⟨⟨16*q+n,rfl,by omega,fun i hi=>?_,fun hl=>?_⟩,hm.ext⟩
  ·by_cases g:i<16*q
   ·exact hL.ltx_up (j:=16*q) Oo hq16 (hk2 q Oo)
   ·obtain⟨j,rfl⟩:∃j,i=16*q+j:=⟨i-16*q,by omega⟩
    exact hj j Oo
  ·have hN:16*q+n=16*(q+1):=by omega
   rw[hN]at hl|-;exact hk3 (q+1) znr hl
 ·clear hm hm7;rintro D c k w8 hkl ⟨_,⟨rfl,hk,hj,hx⟩,hm⟩;rw[eR]at hm;(conv=>whnf);refine zr hm 3 ?_;refine LeaveV.mark (hm.get mh) fun w9 hw=>?_;have hm:=hm.setO (i:=0) _ rfl hw;(conv=>whnf);refine⟨⟨16*q+k,rfl,by omega,fun i hi=>?_,fun hl=>?_⟩,hm.ext⟩
  ·by_cases g:i<16*q
   ·exact hL.ltx_up (j:=16*q) Oo hq16 (hk2 q Oo)
   ·obtain⟨j,rfl⟩:∃j,i=16*q+j:=⟨i-16*q,by omega⟩
    exact hj j Oo
  ·exact hx
theorem q5e(L:List LB)(hL:DOk L)(b:Nat)(s:E0)(w:Ez)(hD:DictAt w b (qp L)):
  Gv EG 160 [pp b,.string s] w fun r w'=>(∃N:Nat,AhN L s N/\r=.tuple #[ii N,.bool (decide (N<L.length/\(⟨(tx L N).toArray⟩:E0)=s))])/\Ext w w':=by
 have hn:=hL.n;refine ze Tryz.func160 Tryz.ntmps160 ?_;refine znm (Mem.nil w) fun sb w1 hm=>zw ?_;refine zcv (qzl L hL b sb s w1 (hD.ext hm.ext) (by rw[qa (hm.get mh)];rfl)) ?_;rintro r w2 ⟨⟨N,rfl,hN⟩,he2⟩;have hm:=hm.call he2;have hle:=hN.le;(conv=>whnf);refine zcv (qvk b (qp L) N w2 (hD.ext hm.ext) Oo) ?_;rintro r w3 ⟨rfl,he3⟩;have hm:=hm.call he3
 by_cases hlt:N<L.length
 ·have hg:qii (qp L) N=.tuple #[.string ⟨(tx L N).toArray⟩,.bool true]:=by rw[qii,hL.eGet hlt]
  rw[hg];(conv=>whnf);refine zy ?_;refine zv ?_;refine zr hm.drew 0 ?_;refine zv ?_;refine⟨⟨N,hN,?_⟩,hm.drew.ext⟩;have e:seq ⟨(tx L N).toArray⟩ s=decide (N<L.length/\(⟨(tx L N).toArray⟩:E0)=s):=by
   cases hq:seq ⟨(tx L N).toArray⟩ s
   ·exact(AH fun g=>qr4.1 hq g.2).symm
   ·exact(Az ⟨hlt,qac.1 hq⟩).symm
  rw[e]
 ·have hg:qii (qp L) N=.tuple #[.string ⟨#[]⟩,.bool false]:=by rw[qii,dGet,Aa (by rw[hL.eN];exact hlt)]
  rw[hg];(conv=>whnf);refine zy ?_;refine zv ?_;refine⟨⟨N,hN,?_⟩,hm.drew.ext⟩;have e:decide (N<L.length/\(⟨(tx L N).toArray⟩:E0)=s)=false:=AH fun g=>hlt g.1
  rw[e]
theorem AhN.at{L:List LB}(h:DOk L){s:E0}{N j:Nat}(hN:AhN L s N)(hj:j<L.length)(he:(⟨(tx L j).toArray⟩:E0)=s):N=j:=by
 rcases Dv N j with g|g|g
 ·have h1:=hN.ge Oo;have h2:=h.up g hj;rw[he]at h2;rw[ltx,h2]at h1;cases h1
 ·exact g
 ·have h1:=hN.lt j g;rw[ltx,he,qd5]at h1;cases h1
section
variable {T:List TM} (h:VOk T) (hr:RiseT T) (hk:∀t∈T,1<=t.kind/\t.kind<=3)
include h hr hk
theorem VOk.num{t:TM}(hk3:k<3)(hj:(ofK T k)[j]?=some t):noT T t=vTot (vocB T) k+1+j:=by
 have e:=qtf hr hk;have t1:=h.tot1;have t2:=h.tot2;have t0:vTot (vocB T) 0=0:=rfl;have hl:=(Ae.1 hj).1;have hki:=qhp (zmg hj);obtain⟨A,eA⟩:∃A,A=ofK T 0:=⟨_,rfl⟩
 obtain⟨B,eB⟩:∃B,B=ofK T 1:=⟨_,rfl⟩
 obtain⟨C,eC⟩:∃C,C=ofK T 2:=⟨_,rfl⟩
 have hG:∀m:Nat,T[m]?=(A++(B++C))[m]?:=fun m=>by rw[eA,eB,eC,<-e]
 have hT:T[vTot (vocB T) k+j]?=some t:=by
  rw[hG]
  rcases(show k=0\/k=1\/k=2 by omega)with rfl|rfl|rfl
  ·rw[<-eA]at hj hl;rw[t0,Aw,AQ hl];exact hj
  ·rw[<-eB]at hj hl;rw[<-eA]at t1;rw[t1,AR Oo,show A.length+j-A.length=j by omega,AQ hl];exact hj
  ·rw[<-eC]at hj hl;rw[<-eA,<-eB]at t2;rw[t2,AR Oo,AR Oo,show A.length+B.length+j-A.length-B.length=j by omega];exact hj
 rw[qlc hr hT Oo];omega
theorem VOk.find{t:TM}(hk3:k<3)(ht:t∈T)(hkt:t.kind=((k+1:Nat):Int))(hN:AhN (secE T k) ⟨(qae t).toArray⟩ N):N<(secE T k).length/\(⟨(tx (secE T k) N).toArray⟩:E0)=⟨(qae t).toArray⟩/\noT T t=vTot (vocB T) k+1+N:=by
 have hm:t∈ofK T k:=B0.2 ⟨ht,by simpa using hkt⟩;obtain⟨j,hj⟩:=Bi.1 hm;have hl:=(Ae.1 hj).1;have hx:tx (secE T k) j=qae t:=by rw[tx,Ag,qc4,Ao,hj];rfl
 have hlen:(secE T k).length=(ofK T k).length:=by rw[qc4,AC]
 obtain rfl:=hN.at (h.d k hk3) (j:=j) Oo (by rw[hx])
 exact⟨by omega,by rw[hx],h.num hr hk hk3 hj⟩
end
structure OrdC{α:Type}(c:α->α->Int):Prop where
 eq:∀{a b:α},c a b=0↔a=b
 sym:∀{a b:α},c a b<0↔0<c b a
 trans:∀{a b d:α},c a b<0->c b d<0->c a d<0
def RiseC{α:Type}(c:α->α->Int)(l:List α):Prop:=l.Pairwise fun a b=>c a b<0
def AheadC{α:Type}(c:α->α->Int)(out l:List α):Prop:=∀z,out.getLast?=some z->∀x∈l,z=x\/c z x<0
def qbu{α:Type}(c:α->α->Int)(out:List α)(x:α):List α:=
 match out.getLast? with
 | some z=>if c z x<0 then out++[x]else out
 | none=>[x]
def mrgC{α:Type}(c:α->α->Int):Nat->List α->List α->List α->List α
 | 0,_,_,out=>out
 | _+1,[],[],out=>out
 | f+1,x::a,[],out=>mrgC c f a [] (qbu c out x)
 | f+1,[],u::b,out=>mrgC c f [] b (qbu c out u)
 | f+1,x::a,u::b,out=>if c x u<=0 then mrgC c f a (u::b) (qbu c out x)else mrgC c f (x::a) b (qbu c out u)
def srtC{α:Type}(c:α->α->Int):Nat->List α->List α
 | 0,l=>l
 | f+1,l=>if l.length<2 then l else mrgC c ((srtC c f (l.take (l.length/2))).length+(srtC c f (l.drop (l.length/2))).length) (srtC c f (l.take (l.length/2))) (srtC c f (l.drop (l.length/2))) []
section
variable {α:Type} {c:α->α->Int} (O:OrdC c)
include O
theorem OrdC.irr(a:α):¬c a a<0:=by have:=O.eq (a:=a) (b:=a) |>.2 rfl;omega
theorem OrdC.tri(a b:α):c a b<0\/a=b\/c b a<0:=by
 rcases Int.lt_trichotomy (c a b) 0 with h|h|h
 ·exact .inl h
 ·exact .inr (.inl (O.eq.1 h))
 ·exact .inr (.inr (O.sym.2 h))
theorem RiseC.lt_last{out:List α}(h:RiseC c out){z:α}(hz:out.getLast?=some z):∀x∈out,x=z\/c x z<0:=by
 have _h:=O;obtain⟨ys,rfl⟩:=List.getLast?_eq_some_iff.1 hz;intro x hx
 rcases Ba.1 hx with hx|hx
 ·exact .inr ((Da.1 h).2.2 x hx z (Ah.2 rfl))
 ·exact .inl (Ah.1 hx)
theorem qf2{out:List α}{x:α}(h:RiseC c out)(ha:AheadC c out [x]):RiseC c (qbu c out x)/\(∀y,y∈qbu c out x↔y∈out\/y=x)/\(qbu c out x).getLast?=some x:=by
 unfold qbu
 split
 ·rename_i z hz
  rcases ha z hz x (Ah.2 rfl)with rfl|hlt
  ·rw[Aa (O.irr z)];have hm:z∈out:=List.mem_of_getLast? hz;exact⟨h,fun y=>⟨.inl,fun g=>by rcases g with g|rfl<;>assumption⟩,hz⟩
  ·rw[Ad hlt];refine⟨?_,fun y=>by simp,by simp⟩;refine Da.2 ⟨h,CJ _ _,fun a hA b hB=>?_⟩;rw[Ah.1 hB]
   rcases h.lt_last O hz a hA with rfl|g
   ·exact hlt
   ·exact O.trans g hlt
 ·rename_i hz
  have:out=[]:=Cq.1 hz;subst this;exact⟨CJ _ _,fun y=>by simp,rfl⟩
theorem AheadC.next{out a:List α}{x:α}(hr:RiseC c (x::a))(hl:(qbu c out x).getLast?=some x):AheadC c (qbu c out x) a:=fun z hz y hy=>by
 have _h:=O;rw[hl]at hz;cases hz;exact .inr ((Bh.1 hr).1 y hy)
theorem qfc:∀(f:Nat) (a b out:List α),a.length+b.length<=f->RiseC c a->RiseC c b->RiseC c out->AheadC c out a->AheadC c out b->RiseC c (mrgC c f a b out)/\∀y,y∈mrgC c f a b out↔y∈out\/y∈a\/y∈b
 | 0,a,b,out,hf,_,_,ho,_,_=>by
  have ea:a=[]:=AW Oo;have eb:b=[]:=AW Oo;subst ea eb;exact⟨ho,fun y=>by simp[mrgC]⟩
 | f+1,[],[],out,_,_,_,ho,_,_=>⟨ho,fun y=>by simp[mrgC]⟩
 | f+1,x::a,[],out,hf,ha,hb,ho,h1,h2=>by
  obtain⟨p1,p2,p3⟩:=qf2 O ho (x:=x) fun z hz y hy=>h1 z hz y (by rw[Ah.1 hy];exact AK ..);obtain⟨r1,r2⟩:=qfc f a [] (qbu c out x) (by simpa using hf) (Bh.1 ha).2 hb p1 (.next O ha p3) (fun z _ y hy=>by cases hy);refine⟨r1,fun y=>?_⟩;rw[mrgC,r2,p2];simp[or_assoc]
 | f+1,[],x::b,out,hf,ha,hb,ho,h1,h2=>by
  obtain⟨p1,p2,p3⟩:=qf2 O ho (x:=x) fun z hz y hy=>h2 z hz y (by rw[Ah.1 hy];exact AK ..);obtain⟨r1,r2⟩:=qfc f [] b (qbu c out x) (by simpa using hf) ha (Bh.1 hb).2 p1 (fun z _ y hy=>by cases hy) (.next O hb p3);refine⟨r1,fun y=>?_⟩;rw[mrgC,r2,p2];simp[or_assoc]
 | f+1,x::a,u::b,out,hf,ha,hb,ho,h1,h2=>by
  have hx:AheadC c out [x]:=fun z hz y hy=>h1 z hz y (by rw[Ah.1 hy];exact AK ..)
  have hu:AheadC c out [u]:=fun z hz y hy=>h2 z hz y (by rw[Ah.1 hy];exact AK ..)
  rw[mrgC]
  split
  ·rename_i hle
   obtain⟨p1,p2,p3⟩:=qf2 O ho hx;have hxu:x=u\/c x u<0:=by
    rcases Int.lt_or_eq_of_le hle with h|h
    ·exact .inr h
    ·exact .inl (O.eq.1 h)
   have hah:AheadC c (qbu c out x) (u::b):=fun z hz y hy=>by
    rw[p3]at hz;cases hz
    rcases AD.1 hy with rfl|hy
    ·exact hxu
    ·have:=(Bh.1 hb).1 y hy
     rcases hxu with rfl|h
     ·exact .inr this
     ·exact .inr (O.trans h this)
   obtain⟨r1,r2⟩:=qfc f a (u::b) (qbu c out x) (by simp only[As]at hf|-;omega) (Bh.1 ha).2 hb p1 (.next O ha p3) hah;refine⟨r1,fun y=>?_⟩;rw[r2,p2];simp only[AD,or_assoc]
  ·rename_i hle
   obtain⟨p1,p2,p3⟩:=qf2 O ho hu;have hux:c u x<0:=O.sym.2 Oo;have hah:AheadC c (qbu c out u) (x::a):=fun z hz y hy=>by
    rw[p3]at hz;cases hz
    rcases AD.1 hy with rfl|hy
    ·exact .inr hux
    ·exact .inr (O.trans hux ((Bh.1 ha).1 y hy))
   obtain⟨r1,r2⟩:=qfc f (x::a) b (qbu c out u) (by simp only[As]at hf|-;omega) ha (Bh.1 hb).2 p1 hah (.next O hb p3);refine⟨r1,fun y=>?_⟩;rw[r2,p2];simp only[AD]
   constructor
   ·rintro((h|h)|(h|h)|h)<;>simp[h]
   ·rintro(h|(h|h)|(h|h))<;>simp[h]
theorem qh3:∀(f:Nat) (l:List α),l.length<=f->RiseC c (srtC c f l)/\∀y,y∈srtC c f l↔y∈l
 | 0,l,h=>by
  have:l=[]:=AW Oo;subst this;exact⟨List.Pairwise.nil,fun y=>Iff.rfl⟩
 | f+1,l,h=>by
  rw[srtC]
  split
  ·rename_i h2
   refine⟨?_,fun y=>Iff.rfl⟩
   match l,h2 with
   | [],_=>exact List.Pairwise.nil
   | [x],_=>exact CJ _ _
  ·rename_i h2
   obtain⟨a1,a2⟩:=qh3 f (l.take (l.length/2)) (by rw[AG];omega);obtain⟨b1,b2⟩:=qh3 f (l.drop (l.length/2)) (by rw[zld];omega);obtain⟨r1,r2⟩:=qfc O _ _ _ [] znr a1 b1 List.Pairwise.nil (fun z hz=>by cases hz) (fun z hz=>by cases hz);refine⟨r1,fun y=>?_⟩;rw[r2,a2,b2,<-Ba,Ck];simp
theorem RiseC.same:∀{a b:List α},RiseC c a->RiseC c b->(∀y,y∈a↔y∈b)->a=b
 | [],[],_,_,_=>rfl
 | [],x::b,_,_,h=>absurd ((h x).2 mh) Js
 | x::a,[],_,_,h=>absurd ((h x).1 mh) Js
 | x::a,u::b,ha,hb,h=>by
  have h1:=Bh.1 ha;have h2:=Bh.1 hb;have e:x=u:=by
   rcases AD.1 ((h x).1 mh)with e|hx
   ·exact e
   ·rcases AD.1 ((h u).2 mh)with e|hu
    ·exact e.symm
    ·exact absurd (O.trans (h1.1 u hu) (h2.1 x hx)) (O.irr x)
  subst e;rw[RiseC.same h1.2 h2.2 fun y=>?_]
  constructor
  ·intro hy
   rcases AD.1 ((h y).1 (zmc hy))with e|g
   ·subst e;exact absurd (h1.1 y hy) (O.irr y)
   ·exact g
  ·intro hy
   rcases AD.1 ((h y).2 (zmc hy))with e|g
   ·subst e;exact absurd (h2.1 y hy) (O.irr y)
   ·exact g
end
theorem q0r{a b:Q4}(h:∀k,k<4->gat a k=gat b k):a=b:=by
 have h0:a.g=b.g:=h 0 Od;have h1:a.s=b.s:=h 1 Od;have h2:a.p=b.p:=h 2 Od;have h3:a.o=b.o:=h 3 Od;cases a;cases b;simp_all
theorem LtQ.tri(a b:Q4):LtQ a b\/a=b\/LtQ b a:=by
 by_cases h:∃k,k<4/\gat a k≠gat b k
 ·have key:∀n k,k<=n->k<4->gat a k≠gat b k->LtQ a b\/a=b\/LtQ b a:=by
   intro n
   induction n with
   | zero=>
    intro k hk hk4 hne;have e:k=0:=by omega
    subst e
    rcases LtT.tri (gat a 0) (gat b 0)with g|g|g
    ·exact .inl ⟨0,hk4,fun j hj=>absurd hj (Cn _),g⟩
    ·exact absurd g hne
    ·exact .inr (.inr ⟨0,hk4,fun j hj=>absurd hj (Cn _),g⟩)
   | succ n ih=>
    intro k hk hk4 hne
    by_cases hj:∃j,j<k/\gat a j≠gat b j
    ·obtain⟨j,hj,hn⟩:=hj;exact ih j Oo Oo hn
    ·have hs:∀j,j<k->gat a j=gat b j:=fun j g=>Bj fun hn=>hj ⟨j,g,hn⟩
     rcases LtT.tri (gat a k) (gat b k)with g|g|g
     ·exact .inl ⟨k,hk4,hs,g⟩
     ·exact absurd g hne
     ·exact .inr (.inr ⟨k,hk4,fun j hj=>(hs j hj).symm,g⟩)
  obtain⟨k,hk,hn⟩:=h;exact key k k znr hk hn
 ·exact .inr (.inl (q0r fun k hk=>Bj fun hn=>h ⟨k,hk,hn⟩))
theorem LtQ.irr(a:Q4):¬LtQ a a:=fun⟨_,_,_,h⟩=>h.ne rfl
theorem qsp{a b:Q4}:cmpQ a b=0↔a=b:=by
 constructor
 ·intro h;have e:cmpT a.g b.g=0/\cmpT a.s b.s=0/\cmpT a.p b.p=0/\cmpT a.o b.o=0:=by
   unfold cmpQ at h
   by_cases h0:cmpT a.g b.g≠0
   ·rw[Ad h0]at h;exact absurd h h0
   rw[Aa h0]at h
   by_cases h1:cmpT a.s b.s≠0
   ·rw[Ad h1]at h;exact absurd h h1
   rw[Aa h1]at h
   by_cases h2:cmpT a.p b.p≠0
   ·rw[Ad h2]at h;exact absurd h h2
   rw[Aa h2]at h;exact⟨by omega,by omega,by omega,h⟩
  obtain⟨e0,e1,e2,e3⟩:=e;refine q0r fun k hk=>?_
  rcases(show k=0\/k=1\/k=2\/k=3 by omega)with rfl|rfl|rfl|rfl
  ·exact qa2.1 e0
  ·exact qa2.1 e1
  ·exact qa2.1 e2
  ·exact qa2.1 e3
 ·rintro rfl;have e:=fun t:TM=>(qa2 (a:=t) (b:=t)).2 rfl
  rw[cmpQ,Aa (fun h=>h (e _)),Aa (fun h=>h (e _)),Aa (fun h=>h (e _)),e]
theorem ordQ:OrdC cmpQ where
 eq:=qsp
 sym {a b}:=by
  constructor
  ·intro h;have h1:=qcv.1 h;have h2:¬cmpQ b a<0:=fun g=>LtQ.irr a (h1.trans (qcv.1 g))
   have h3:cmpQ b a≠0:=fun g=>by rw[qsp.1 g]at h1;exact LtQ.irr a h1
   omega
  ·intro h
   rcases LtQ.tri a b with g|g|g
   ·exact qcv.2 g
   ·subst g;have:=(qsp (a:=a) (b:=a)).2 rfl;omega
   ·have:=qcv.2 g;omega
 trans h g:=qcv.2 ((qcv.1 h).trans (qcv.1 g))
open Classical
noncomputable section
variable {α:Type} {c:α->α->Int}
def leaC(c:α->α->Int):List (List α)->Option α->Option α
 | [],o=>o
 | []::Ls,o=>leaC c Ls o
 | (x::_)::Ls,none=>leaC c Ls (some x)
 | (x::_)::Ls,some q=>if c x q<0 then leaC c Ls (some x)else leaC c Ls (some q)
def whoC(q:α):List (List α)->Nat->EF
 | [],_=>[]
 | L::Ls,i=>if L.head?=some q then i::whoC q Ls (i+1)else whoC q Ls (i+1)
def nexC(q:α)(L:List α):List α:=if L.head?=some q then L.tail else L
def eacC(c:α->α->Int):Nat->List (List α)->List (α×EF)
 | 0,_=>[]
 | f+1,Ls=>match leaC c Ls none with
  | none=>[]
  | some q=>(q,whoC q Ls 0)::eacC c f (Ls.map (nexC q))
def idxC(q:α):List (List α)->Nat->EF
 | [],_=>[]
 | L::Ls,i=>if q∈L then i::idxC q Ls (i+1)else idxC q Ls (i+1)
theorem qhg:∀{Ls:List (List α)} {o:Option α},leaC c Ls o=none↔o=none/\∀L∈Ls,L=[]
 | [],o=>by simp[leaC]
 | []::Ls,o=>by rw[leaC,qhg];simp
 | (x::L)::Ls,none=>by rw[leaC,qhg];simp
 | (x::L)::Ls,some q=>by
  rw[leaC]
  split<;>· rw[qhg];simp
theorem qdz(O:OrdC c):∀{Ls:List (List α)} {o:Option α} {q:α},leaC c Ls o=some q->(o=some q\/∃L∈Ls,L.head?=some q)/\(∀x,o=some x->x=q\/c q x<0)/\∀L∈Ls,∀x,L.head?=some x->x=q\/c q x<0
 | [],o,q,h=>by
  rw[leaC]at h;exact⟨.inl h,fun x hx=>(by rw[h]at hx;cases hx;exact .inl rfl),fun L hL=>(by cases hL)⟩
 | []::Ls,o,q,h=>by
  rw[leaC]at h;obtain⟨h1,h2,h3⟩:=qdz O h;refine⟨h1.imp id fun⟨L,g1,g2⟩=>⟨L,zmc g1,g2⟩,h2,fun L hL x hx=>?_⟩
  rcases AD.1 hL with rfl|hL
  ·cases hx
  ·exact h3 L hL x hx
 | (y::L0)::Ls,none,q,h=>by
  rw[leaC]at h;obtain⟨h1,h2,h3⟩:=qdz O h;refine⟨.inr ?_,fun x hx=>(by cases hx),fun L hL x hx=>?_⟩
  ·rcases h1 with h1|⟨L,g1,g2⟩
   ·exact⟨y::L0,AK ..,h1⟩
   ·exact⟨L,zmc g1,g2⟩
  ·rcases AD.1 hL with rfl|hL
   ·cases hx;exact h2 _ rfl
   ·exact h3 L hL x hx
 | (y::L0)::Ls,some u,q,h=>by
  rw[leaC]at h
  split at h
  ·rename_i hlt
   obtain⟨h1,h2,h3⟩:=qdz O h;refine⟨.inr ?_,fun x hx=>?_,fun L hL x hx=>?_⟩
   ·rcases h1 with h1|⟨L,g1,g2⟩
    ·exact⟨y::L0,AK ..,h1⟩
    ·exact⟨L,zmc g1,g2⟩
   ·cases hx
    rcases h2 y rfl with rfl|g
    ·exact .inr hlt
    ·exact .inr (O.trans g hlt)
   ·rcases AD.1 hL with rfl|hL
    ·cases hx;exact h2 _ rfl
    ·exact h3 L hL x hx
  ·rename_i hge
   obtain⟨h1,h2,h3⟩:=qdz O h;refine⟨?_,h2,fun L hL x hx=>?_⟩
   ·rcases h1 with h1|⟨L,g1,g2⟩
    ·exact .inl h1
    ·exact .inr ⟨L,zmc g1,g2⟩
   ·rcases AD.1 hL with rfl|hL
    ·cases hx;have huy:u=y\/c u y<0:=by
      rcases O.tri u y with g|g|g
      ·exact .inr g
      ·exact .inl g
      ·exact absurd g hge
     rcases h2 u rfl with rfl|g
     ·exact huy.imp (fun e=>e.symm) id
     ·rcases huy with rfl|g2
      ·exact .inr g
      ·exact .inr (O.trans g g2)
    ·exact h3 L hL x hx
theorem qop(O:OrdC c){L:List α}(h:RiseC c L){q:α}(hq:∀x,L.head?=some x->x=q\/c q x<0):q∈L↔L.head?=some q:=by
 cases L with
 | nil=>simp
 | cons x L=>
  constructor
  ·intro hm
   rcases AD.1 hm with rfl|hm
   ·rfl
   ·have h1:=(Bh.1 h).1 q hm
    rcases hq x rfl with rfl|g
    ·rfl
    ·exact absurd (O.trans g h1) (O.irr q)
  ·intro e;cases e;exact AK ..
theorem qxa(O:OrdC c){q:α}:∀{Ls:List (List α)} {i:Nat},(∀L∈Ls,RiseC c L)->(∀L∈Ls,∀x,L.head?=some x->x=q\/c q x<0)->whoC q Ls i=idxC q Ls i
 | [],_,_,_=>rfl
 | L::Ls,i,h1,h2=>by
  rw[whoC,idxC,qxa O (fun L hL=>h1 L (zmc hL)) (fun L hL=>h2 L (zmc hL))];have:=qop O (h1 L mh) (h2 L mh)
  by_cases g:q∈L
  ·rw[Ad g,Ad (this.1 g)]
  ·rw[Aa g,Aa (fun e=>g (this.2 e))]
theorem qiv{q r:α}:∀{Ls Ms:List (List α)} {i:Nat},Ls.length=Ms.length->(∀(j:Nat) (L M:List α),Ls[j]?=some L->Ms[j]?=some M->(q∈L↔r∈M))->idxC q Ls i=idxC r Ms i
 | [],[],_,_,_=>rfl
 | [],_::_,_,h,_=>by cases h
 | _::_,[],_,h,_=>by cases h
 | L::Ls,M::Ms,i,h,hm=>by
  rw[idxC,idxC,qiv (by simpa using h) fun j A B hA hB=>hm (j+1) A B (by simpa using hA) (by simpa using hB)];have:=hm 0 L M rfl rfl
  by_cases g:q∈L
  ·rw[Ad g,Ad (this.1 g)]
  ·rw[Aa g,Aa (fun e=>g (this.2 e))]
def totC(Ls:List (List α)):Nat:=(Ls.map List.length).sum
theorem q13(q:α)(L:List α):(nexC q L).length<=L.length:=by
 unfold nexC
 split
 ·simp
 ·exact Aq _
theorem q3l(q:α):∀(Ls:List (List α)),totC (Ls.map (nexC q))<=totC Ls
 | []=>Aq _
 | L::Ls=>by
  have:=q3l q Ls;have h2:=q13 q L;simp only[totC,AO,Dj]at *;omega
theorem qud{q:α}:∀{Ls:List (List α)},(∃L∈Ls,L.head?=some q)->totC (Ls.map (nexC q))<totC Ls
 | [],⟨L,hL,_⟩=>by cases hL
 | L0::Ls,⟨L,hL,hq⟩=>by
  rcases AD.1 hL with rfl|hL
  ·have h2:(nexC q L).length<L.length:=by
    unfold nexC;rw[Ad hq];cases L with
    | nil=>cases hq
    | cons x L=>simp
   have:=q3l q Ls;simp only[totC,AO,Dj]at *;omega
  ·have:=qud ⟨L,hL,hq⟩;have h2:=q13 q L0;simp only[totC,AO,Dj]at *;omega
theorem q14{q:α}{L:List α}(h:RiseC c L):RiseC c (nexC q L):=by
 unfold nexC
 split
 ·cases L with
  | nil=>exact h
  | cons x L=>exact(Bh.1 h).2
 ·exact h
theorem qo7(O:OrdC c){q y:α}{L:List α}(h:RiseC c L):y∈nexC q L↔y∈L/\(L.head?=some q->y≠q):=by
 unfold nexC
 split
 ·rename_i e
  cases L with
  | nil=>cases e
  | cons x L=>
   cases e;have h1:=(Bh.1 h).1;simp only[List.tail_cons,AD,forall_const,Dt]
   constructor
   ·intro hy;exact⟨.inr hy,fun g=>by subst g;exact O.irr y (h1 y hy)⟩
   ·rintro⟨rfl|hy,g⟩
    ·exact absurd rfl g
    ·exact hy
 ·rename_i e
  exact⟨fun hy=>⟨hy,fun g=>absurd g e⟩,fun hy=>hy.1⟩
theorem qqp(O:OrdC c):∀(f:Nat) (Ls:List (List α)),totC Ls<=f->(∀L∈Ls,RiseC c L)->
  RiseC c ((eacC c f Ls).map Prod.fst)/\(∀y,y∈(eacC c f Ls).map Prod.fst↔∃L∈Ls,y∈L)/\∀p∈eacC c f Ls,p.2=idxC p.1 Ls 0
 | 0,Ls,hf,_=>by
  refine⟨List.Pairwise.nil,fun y=>⟨fun h=>(by cases h),?_⟩,fun p h=>by cases h⟩;rintro⟨L,hL,hy⟩
  exfalso
  have:∀{Ls:List (List α)},L∈Ls->L.length<=totC Ls:=fun{Ls}=>by
   induction Ls with
   | nil=>intro h;cases h
   | cons M Ls ih=>
    intro h;simp only[totC,AO,Dj]
    rcases AD.1 h with rfl|h
    ·omega
    ·have:=ih h;simp only[totC]at this;omega
  have h1:=this hL;have h2:=List.length_pos_of_mem hy;omega
 | f+1,Ls,hf,hr=>by
  rw[eacC];cases hl:leaC c Ls none with
  | none=>
   have hn:=(qhg.1 hl).2;refine⟨List.Pairwise.nil,fun y=>⟨fun h=>(by cases h),?_⟩,fun p h=>by cases h⟩;rintro⟨L,hL,hy⟩;rw[hn L hL]at hy;cases hy
  | some q=>
   obtain⟨h1,_,h3⟩:=qdz O hl;have h1:=h1.resolve_left (fun h=>by cases h);obtain⟨i1,i2,i3⟩:=qqp O f (Ls.map (nexC q)) (by have:=qud h1;omega) (fun L hL=>by
    obtain⟨M,hM,rfl⟩:=AY.1 hL;exact q14 (hr M hM))
   have hmem:∀y,(∃L∈Ls.map (nexC q),y∈L)↔(∃L∈Ls,y∈L)/\y≠q:=by
    intro y
    constructor
    ·rintro⟨L,hL,hy⟩;obtain⟨M,hM,rfl⟩:=AY.1 hL;obtain⟨g1,g2⟩:=(qo7 O (hr M hM)).1 hy;refine⟨⟨M,hM,g1⟩,fun e=>?_⟩;subst e;exact g2 ((qop O (hr M hM) (h3 M hM)).1 g1) rfl
    ·rintro⟨⟨M,hM,hy⟩,hne⟩;exact⟨nexC q M,CM hM,(qo7 O (hr M hM)).2 ⟨hy,fun _=>hne⟩⟩
   refine⟨?_,fun y=>?_,fun p hp=>?_⟩
   ·rw[AO];refine Bh.2 ⟨fun y hy=>?_,i1⟩;obtain⟨⟨M,hM,hyM⟩,hne⟩:=(hmem y).1 ((i2 y).1 hy);cases M with
    | nil=>cases hyM
    | cons x M=>
     have hx:=h3 _ hM x rfl
     rcases AD.1 hyM with rfl|hyM
     ·exact hx.resolve_left hne
     ·have h4:=(Bh.1 (hr _ hM)).1 y hyM
      rcases hx with rfl|hx
      ·exact h4
      ·exact O.trans hx h4
   ·rw[AO,AD,i2,hmem]
    constructor
    ·rintro(rfl|h)
     ·obtain⟨L,hL,hh⟩:=h1;exact⟨L,hL,(qop O (hr L hL) (h3 L hL)).2 hh⟩
     ·exact h.1
    ·intro h
     by_cases e:y=q
     ·exact .inl e
     ·exact .inr ⟨h,e⟩
   ·rcases AD.1 hp with rfl|hp
    ·exact qxa O hr h3
    ·rw[i3 p hp];have hpq:p.1≠q:=((hmem p.1).1 ((i2 p.1).1 (CM hp))).2;refine qiv Js fun j L M hL hM=>?_;rw[Ao,hM]at hL;cases hL;have hMm:=zmg hM;rw[qo7 O (hr M hMm)];exact⟨fun g=>g.1,fun g=>⟨g,fun _=>hpq⟩⟩
end
noncomputable section
def eacD(parts:List (List Q4))(fits:Q4->Bool):List (Q4×EF):=((srtC cmpQ parts.flatten.length parts.flatten).filter fits).map fun q=>(q,idxC q parts 0)
theorem q47{parts:List (List Q4)}(h:∀L∈parts,RiseC cmpQ L)(fits:Q4->Bool){f:Nat}(hf:totC (parts.map (List.filter fits))<=f):eacC cmpQ f (parts.map (List.filter fits))=eacD parts fits:=by
 obtain⟨h1,h2,h3⟩:=qqp ordQ f (parts.map (List.filter fits)) hf (fun L hL=>by
  obtain⟨M,hM,rfl⟩:=AY.1 hL;exact(h M hM).filter _)
 obtain⟨s1,s2⟩:=qh3 ordQ parts.flatten.length parts.flatten znr;have hm:∀y,y∈(eacC cmpQ f (parts.map (List.filter fits))).map Prod.fst↔y∈(srtC cmpQ parts.flatten.length parts.flatten).filter fits:=by
  intro y;rw[h2,B0,s2,DL]
  constructor
  ·rintro⟨L,hL,hy⟩;obtain⟨M,hM,rfl⟩:=AY.1 hL;obtain⟨g1,g2⟩:=B0.1 hy;exact⟨⟨M,hM,g1⟩,g2⟩
  ·rintro⟨⟨M,hM,g1⟩,g2⟩;exact⟨M.filter fits,CM hM,B0.2 ⟨g1,g2⟩⟩
 have hfst:=RiseC.same ordQ h1 (s1.filter _) hm;have hsnd:∀p∈eacC cmpQ f (parts.map (List.filter fits)),p=(p.1,idxC p.1 parts 0):=by
  intro p hp;have hfit:fits p.1=true:=(B0.1 ((hm p.1).1 (CM hp))).2;refine Ey rfl ?_;rw[h3 p hp];refine qiv Js fun j L M hL hM=>?_;rw[Ao,hM]at hL;cases hL;rw[B0];exact⟨fun g=>g.1,fun g=>⟨g,hfit⟩⟩
 rw[eacD,<-hfst,DH];conv=>lhs;rw[<-List.map_id (eacC cmpQ f (parts.map (List.filter fits)))]
 exact DN fun p hp=>hsnd p hp
end
def aheC(q:Q4):List Q4->Nat
 | []=>0
 | x::L=>if cmpQ x q<0 then aheC q L+1 else 0
theorem qqb{q:Q4}:∀{L:List Q4},RiseC cmpQ L->(L[aheC q L]?=some q↔q∈L)
 | [],_=>by simp
 | x::L,h=>by
  obtain⟨h1,h2⟩:=Bh.1 h;rw[aheC]
  split
  ·rename_i hlt
   rw[D3,qqb h2,AD]
   constructor
   ·exact .inr
   ·rintro(rfl|g)
    ·exact absurd hlt (ordQ.irr q)
    ·exact g
  ·rename_i hge
   rw[B9,AD]
   constructor
   ·intro e;cases e;exact .inl rfl
   ·rintro(rfl|g)
    ·rfl
    ·exact absurd (h1 q g) hge
def fitT(p t:TM):Bool:=decide (p.kind=4)||qat p t
def fitQ(p q:Q4):Bool:=fitT p.s q.s&&fitT p.p q.p&&fitT p.o q.o&&fitT p.g q.g
theorem qvv(p q:Q4):fitQ p q=(fitT (gat p 0) (gat q 0)&&(fitT (gat p 1) (gat q 1)&&(fitT (gat p 2) (gat q 2)&&fitT (gat p 3) (gat q 3)))):=by
 show(fitT p.s q.s&&fitT p.p q.p&&fitT p.o q.o&&fitT p.g q.g)=(fitT p.g q.g&&(fitT p.s q.s&&(fitT p.p q.p&&fitT p.o q.o)));cases fitT p.s q.s<;>cases fitT p.p q.p<;>cases fitT p.o q.o<;>cases fitT p.g q.g<;>rfl
def idT(T:List TM)(t:TM):Int:=if t.kind=4 then -1 else(noT T t:Nat)
def KnT(T:List TM)(t:TM):Prop:=t.kind=4\/t∈T\/t=zTM
theorem qaav(hr:RiseT T)(hk:∀t∈T,1<=t.kind){a b:TM}(ha:a∈T\/a=zTM)(hb:b∈T\/b=zTM)(h:noT T a=noT T b):a=b:=by
 have at_:∀{t:TM},t∈T->∃i,T[i]?=some t/\noT T t=i+1:=fun{t} ht=>by
  obtain⟨i,hi⟩:=Bi.1 ht;exact⟨i,hi,qlc hr hi (by have:=hk t ht;omega)⟩
 have z:noT T zTM=0:=qfz rfl
 rcases ha with ha|rfl
 ·obtain⟨i,hi,ei⟩:=at_ ha
  rcases hb with hb|rfl
  ·obtain⟨j,hj,ej⟩:=at_ hb;have e:i=j:=by omega
   subst e;rw[hi]at hj;exact BB hj
  ·omega
 ·rcases hb with hb|rfl
  ·obtain⟨j,hj,ej⟩:=at_ hb;omega
  ·rfl
theorem qacr(hr:RiseT T)(hk:∀t∈T,1<=t.kind){P:Nat->Int}{p t:TM}(hP:P k=idT T p)(ht:t∈T\/t=zTM)(hp:KnT T p):agB P k (noT T t)=fitT p t:=by
 rw[agB,hP,idT,fitT]
 by_cases h4:p.kind=4
 ·rw[Ad h4,Az h4];rfl
 ·rw[Aa h4,AH h4,Dx];have hp:=hp.resolve_left h4;have h0:¬((noT T p:Nat):Int)<0:=by omega
  rw[AH h0,Dx,AV,decide_eq_true_iff,qcg]
  constructor
  ·intro h;exact qaav hr hk hp ht Oo
  ·intro h;rw[h]
theorem q85(hr:RiseT T)(hk:∀t∈T,1<=t.kind){P:Nat->Int}{p:Q4}(hP:∀k,k<4->P k=idT T (gat p k))(hp:∀k,k<4->KnT T (gat p k)){q:Q4}(hi:qs[i]?=some q)(hq:∀k,k<4->gat q k∈T\/gat q k=zTM):
  agF P (noQ T qs) i 0 4=fitQ p q:=by
 have h:=fun k (hk4:k<4)=>qacr hr hk (hP k hk4) (hq k hk4) (hp k hk4)
 rw[qvv,<-h 0 Od,<-h 1 Od,<-h 2 Od,<-h 3 Od];simp only[agF,qhm hi,Dy]
theorem q0n{p q:Q4}(hk4:k<4)(hp:¬KnT T (gat p k))(hq:∀k,k<4->gat q k∈T\/gat q k=zTM):fitQ p q=false:=by
 have h:fitT (gat p k) (gat q k)=false:=by
  rw[fitT,AH (fun e=>hp (.inl e)),Dx,<-D0,qcg];intro e;rw[KnT,e]at hp;exact hp (.inr (hq k hk4))
 rw[qvv]
 rcases(show k=0\/k=1\/k=2\/k=3 by omega)with rfl|rfl|rfl|rfl<;>rw[h]<;>simp
def qbm(p:Q4)(qs:List Q4):EF:=(List.range qs.length).filter fun i=>match qs[i]? with
 | some q=>fitQ p q
 | none=>false
theorem q12(hr:RiseT T)(hk:∀t∈T,1<=t.kind)(hq:∀q∈qs,∀k,k<4->gat q k∈T\/gat q k=zTM){P:Nat->Int}{p:Q4}(hP:∀k,k<4->P k=idT T (gat p k))(hp:∀k,k<4->KnT T (gat p k)):
  maT P (noQ T qs) 0 0 qs.length=qbm p qs:=by
 rw[maT,qbm,BA];refine DX fun i hi=>?_;have hi:=BY.1 hi;have e:=zge hi;rw[e];exact q85 hr hk hP hp e (hq _ (AT hi))
theorem q11(hq:∀q∈qs,∀k,k<4->gat q k∈T\/gat q k=zTM){p:Q4}(hk4:k<4)(hp:¬KnT T (gat p k)):qbm p qs=[]:=by
 rw[qbm,List.filter_eq_nil_iff];intro i hi;have hi:=BY.1 hi;have e:=zge hi;rw[e];show ¬fitQ p qs[i]=true;rw[q0n hk4 hp (hq _ (AT hi))]
 decide
theorem qx2(p:Q4)(qs:List Q4):(qbm p qs).filterMap (fun i=>qs[i]?)=qs.filter (fitQ p):=by
 have key:∀n,n<=qs.length->((List.range n).filter fun i=>match qs[i]? with
   | some q=>fitQ p q
   | none=>false).filterMap (fun i=>qs[i]?)=(qs.take n).filter (fitQ p):=by
  intro n
  induction n with
  | zero=>intro _;rfl
  | succ n ih=>
   intro hn;have e:=zge (l:=qs) (i:=n) Oo;rw[DB,Ct,List.filterMap_append,ih Oo,BJ,Ct,e]
   congr 1
   cases h:fitQ p qs[n]with
   | true=>simp[e,h]
   | false=>simp[e,h]
 have:=key qs.length znr
 rwa[Bg]at this
theorem q0h{a b:TM}(ha:qaj a=0)(hb:qaj b=0)(hk:a.kind=b.kind)(h:qae a=qae b):a=b:=by
 rcases LtT.tri a b with g|g|g
 ·have:=qvt ha hb hk g;rw[h]at this;exact absurd this (List.lt_irrefl _)
 ·exact g
 ·have:=qvt hb ha hk.symm g;rw[h]at this;exact absurd this (List.lt_irrefl _)
open Classical in
noncomputable def idR(T:List TM)(t:TM):E8:=if t∈T\/t=zTM then .tuple #[ii (noT T t:Nat),.bool true]else .tuple #[ii 0,.bool false]
theorem qabx{t:TM}(he:∀t∈T,qaj t=0)(ht:qaj t=0)(ek:t.kind=((k+1:Nat):Int))(hN:N<(secE T k).length)(hx:(⟨(tx (secE T k) N).toArray⟩:E0)=⟨(qae t).toArray⟩):t∈T:=by
 have h1:tx (secE T k) N=qae t:=by
  have:=Af (fun b:E0=>b.data.toList) hx
  simpa using this
 have hlen:(secE T k).length=(ofK T k).length:=by rw[qc4,AC]
 have hj:(ofK T k)[N]?=some ((ofK T k)[N]' Oo):=zge Oo;rw[tx,Ag,qc4,Ao,hj]at h1;have hm:=AT (l:=ofK T k) (n:=N) Oo;have hmT:=(B0.1 hm).1;have:=q0h (he _ hmT) ht (by rw[qhp hm,ek]) h1;rw[<-this];exact hmT
theorem q7d(T:List TM)(h:VOk T)(hr:RiseT T)(hk:∀t∈T,1<=t.kind/\t.kind<=3)(he:∀t∈T,qaj t=0)(b:Nat)(t:TM)(hto:TermOk t)(w:Ez)(hV:VocAt w b (vocB T))(hM:MaxLenAt w)(hT:CellsAt w 6 0 qbz):
  Gv EG 102 [pp b,qa8 t] w fun r w'=>r=idR T t/\Ext w w':=by
 have hb3:=hV.tot (k:=3) Od;refine ze Tryz.func102 Tryz.ntmps102 ?_;refine znm (Mem.nil w) fun tb w1 hm=>zw ?_;refine zl hm 0 ?_;refine RunV.eqTerm (a:=t) (b:=zTM) (.inl rfl) (zw ?_);cases hz:qat t zTM
 case true=>
  obtain rfl:=qcg.1 hz;refine zu ?_;exact⟨by rw[idR,Ad (.inr rfl),qfz rfl];rfl,hm.ext⟩
 have hnz:t≠zTM:=fun e=>by rw[e,qcg.2 rfl]at hz;cases hz
 refine zu ?_;refine zl hm 0 ?_;have hen:=qf9 t hto w1 (hM.ext hm.ext) (hT.ext hm.ext)
 by_cases tE:qaj t=0
 case neg=>
  rw[Aa tE]at hen;refine zcv (hen) ?_;rintro r w2 ⟨rfl,he2⟩;have h0:¬((qaj t:Nat):Int)=0:=by omega
  refine zu ?_;exact⟨by rw[idR,Aa (fun h=>h.elim (fun h=>tE (he t h)) hnz)],(hm.call he2).ext⟩
 rw[Ad tE]at hen;refine zcv (hen) ?_;rintro r w2 ⟨rfl,he2⟩;have hm:=hm.call he2;refine zu ?_;have hkt:=qnh tE;obtain⟨k,hk3,ek⟩:∃k:Nat,k<3/\t.kind=((k+1:Nat):Int):=⟨(t.kind-1).toNat,by omega,by omega⟩
 obtain⟨d,hd,_⟩:=hV.cell;obtain⟨hc0,hc1,hDk⟩:=hd k hk3;have hcl:CellsAt w b (2*k) [.pointer (some ⟨d k,0,none⟩),ii (vTot (vocB T) k+1:Nat)]:=fun j v hv=>by
  match j,hv with
  | 0,hv=>rw[<-hv];exact hc0
  | 1,hv=>rw[<-hv];exact hc1
 refine DrawV.gen (fun S vals w'=>Al w [(tb,.cells #[ii t.kind,.string t.text,.string t.type,.string t.lang] 24)] (.cells #[.pointer none,ii 0] 201) (.cells #[.pointer (some ⟨d k,0,none⟩),ii (vTot (vocB T) k+1:Nat)] 201) (.cells #[] 0) (.cells #[] 0) (S 8) false (S 9) false (vals 8) undef w') rfl Jk (fun vals=>Al.start hm.drew) ?_;clear hm;(conv=>whnf);refine zg ?_;refine zg ?_;refine StepG.of (ii t.kind) (fun S vals wd hk hp hI=>zw ?_) (zw ?_)
 ·refine zr hI.mem 0 ?_;exact⟨rfl,hI⟩
 rw[ek];(iterate 3 (refine zg ?_));refine StepG.of (.pointer (some ⟨b,2*k,none⟩)) (fun S vals wd hk hp hI=>zw ?_) (zw ?_)
 ·refine IdxV.at_ k Oo Oo (zw ?_);exact⟨Af (fun o=>Value.pointer (some ⟨b,o,none⟩)) (by rw[show tsz EG 201=2 from by kernel_rfl];show 0+0+k*2=2*k;omega),hI⟩
 refine StepG.of (.agg #[.pointer (some ⟨d k,0,none⟩),ii (vTot (vocB T) k+1:Nat)]) (fun S vals wd hk hp hI=>zw ?_) (zw ?_)
 ·refine LoadA.cells (CellsAt.ext hcl hI.mem.ext) (by rw[show tsz EG 201=2 from by kernel_rfl];rfl) (zw ?_);exact⟨rfl,hI⟩
 refine StepG.any (fun S vals wd hk hp hI=>?_) (zw ?_)
 ·dsimp only at hI;rw[hk]at hI;(conv=>whnf);refine⟨fun x wx hb hw=>?_⟩;subst hb hw;(conv=>whnf);exact⟨trivial,hI.new1⟩
 refine StepG.of undef (fun S vals wd hk hp hI=>?_) (zw ?_)
 ·dsimp only at hI;have h9:S 8=true:=hp 8 Od;rw[hk,h9]at hI;obtain⟨nb,hv,M,hmM,hKx⟩:=hI.put1;rw[ql hv];(conv=>whnf);refine zS hmM 0 fun wx hmx=>zw ?_;exact⟨rfl,by show Al _ _ _ _ _ _ (S 8) false true false _ _ _;rw[h9];exact hKx hmx rfl⟩
 intro vals w5 hI;obtain⟨t8,hv1,hm⟩:=hI.done1;rw[ql hv1];clear hI;(conv=>whnf);refine zr hm 0 ?_;have hDk5:DictAt w5 (d k) (qp (secE T k)):=by
  have:=hDk.ext hm.ext
  rwa[h.sDict hk3]at this
 refine zcv (q5e (secE T k) (h.d k hk3) (d k) ⟨(qae t).toArray⟩ w5 hDk5) ?_;rintro r w6 ⟨⟨N,hN,rfl⟩,he6⟩
 by_cases hf:N<(secE T k).length/\(⟨(tx (secE T k) N).toArray⟩:E0)=⟨(qae t).toArray⟩
 case neg=>
  have hnt:t∉T:=fun ht=>by
   obtain⟨f1,f2,_⟩:=h.find hr hk hk3 ht ek hN;exact hf ⟨f1,f2⟩
  rw[AH hf];have hm:=hm.call he6;refine zu ?_;exact⟨by rw[idR,Aa (fun h=>h.elim hnt hnz)],hm.ext⟩
 have ht:t∈T:=qabx he tE ek hf.1 hf.2;obtain⟨f1,f2,f3⟩:=h.find hr hk hk3 ht ek hN;rw[show decide (N<(secE T k).length/\(⟨(tx (secE T k) N).toArray⟩:E0)=⟨(qae t).toArray⟩)=true from Az ⟨f1,f2⟩];have hm:=hm.call he6;have hn3:=(h.d k hk3).n;have htk:=hV.tot (k:=k) Oo;refine zu ?_;refine zr hm 0 ?_;refine zv ?_;refine zcv (qvn (d k) (qp (secE T k)) w6 (hDk5.ext he6)) ?_;rintro r w7 ⟨rfl,rfl⟩;rw[(h.d k hk3).eN];refine zu ?_;refine zr hm 0 ?_;refine zv ?_;refine⟨?_,hm.ext⟩;rw[idR,Ad (.inl ht),f3];rfl
namespace V
structure Chn(F:EF)(w w':Ez):Prop where
 os:w'.os=w.os
 tape:w'.tape=w.tape
 output:w'.output=w.output
 size:w.heap.size<=w'.heap.size
 block:∀k,k<w.heap.size->k∉F->w'.heap[k]?=w.heap[k]?
theorem Chn.of(F:EF)(h:Ext w w'):Chn F w w':=⟨h.os,h.tape,h.output,h.size,fun k hk _=>h.block k hk⟩
theorem Chn.trans{a b c:Ez}(h:Chn F a b)(g:Chn F b c):Chn F a c:=
 ⟨g.os.trans h.os,g.tape.trans h.tape,g.output.trans h.output,AU h.size g.size,fun k hk hn=>(g.block k (Bw hk h.size) hn).trans (h.block k hk hn)⟩
theorem Chn.trans'{a b c:Ez}(h:Chn F a b)(g:Chn G b c)(hG:∀k∈G,k∈F\/a.heap.size<=k):Chn F a c:=
 ⟨g.os.trans h.os,g.tape.trans h.tape,g.output.trans h.output,AU h.size g.size,fun k hk hn=>
  (g.block k (Bw hk h.size) fun hm=>(hG k hm).elim hn fun h'=>by omega).trans (h.block k hk hn)⟩
theorem Chn.ext(h:Chn F w w')(he:Ext w0 w)(hF:∀k∈F,w0.heap.size<=k):Ext w0 w':=
 Below.trans he ⟨h.os,h.tape,h.output,h.size,fun k hk=>h.block k (Bw hk he.size) fun hf=>by have:=hF k hf;omega⟩
theorem Chn.grown{r:Option Nat}(h:w.grownBy w' r):Chn r.toList w w':=
 ⟨h.os,h.tape,h.output,h.size,fun k hk hn=>h.block k hk fun e=>hn (by rw[<-e];exact Ah.2 rfl)⟩
theorem Chn.set{t:E6}{fr:Nat×Nat}{v:E8}(h:w.heap[b]?=some (.cells cs t fr))(hw:w'=w.setCell ⟨b,off,none⟩ v):
  Chn [b] w w'/\w'.heap[b]?=some (.cells (cs.setIfInBounds off v) t fr):=by
 subst hw;exact⟨⟨rfl,rfl,rfl,by simp[World.setCell],fun k _ hk=>Below.heap_setCell _ _ _ _ (fun e=>hk (by rw[e];exact Ah.2 rfl))⟩,heap_setCell h⟩
structure Sep(w0 w:Ez)(Fs:List EF):Prop where
 ext:Ext w0 w
 lo:∀F∈Fs,∀k∈F,w0.heap.size<=k/\k<w.heap.size
 ap:Fs.Pairwise fun F G=>∀k∈F,k∉G
section
variable {w0 w w':Ez} {Fs:List EF}
theorem Sep.nil(w:Ez):Sep w w []:=⟨Ext.refl w,(fun F h=>(by cases h)),List.Pairwise.nil⟩
theorem Sep.of(h:Ext w0 w):Sep w0 w []:=⟨h,(fun F h=>(by cases h)),List.Pairwise.nil⟩
theorem Sep.call(h:Sep w0 w Fs)(he:Ext w w'):Sep w0 w' Fs:=
 ⟨h.ext.trans he,fun F hF k hk=>⟨(h.lo F hF k hk).1,Bw (h.lo F hF k hk).2 he.size⟩,h.ap⟩
theorem Sep.add(h:Sep w0 w Fs)(he:Ext w w')(hF:∀k∈F,w.heap.size<=k/\k<w'.heap.size):Sep w0 w' (F::Fs):=by
 refine⟨h.ext.trans he,fun G hG k hk=>?_,Bh.2 ⟨fun G hG k hk hg=>?_,h.ap⟩⟩
 ·rcases AD.1 hG with rfl|hG
  ·exact⟨AU h.ext.size (hF k hk).1,(hF k hk).2⟩
  ·exact(h.call he).lo G hG k hk
 ·have:=(hF k hk).1;have:=(h.lo G hG k hg).2;omega
theorem Sep.new(h:Sep w0 w Fs){o:Obj}(hb:b=w.heap.size)(hw:w'=w.alloc o):Sep w0 w' ([b]::Fs)/\w'.heap[b]?=some o:=by
 subst hb hw;refine⟨h.add ((Ext.refl w).alloc o) fun k hk=>?_,heap_alloc_new w _⟩;rw[Ah.1 hk];exact⟨Aq _,by have:=(heap_alloc_new w o);rcases AX w.heap.size (w.alloc o).heap.size with g|g;exact g;rw[Bd g]at this;cases this⟩
theorem Sep.drop(h:Sep w0 w Fs)(n:Nat):Sep w0 w (Fs.drop n):=
 ⟨h.ext,fun F hF=>h.lo F (Eg hF),h.ap.sublist (List.drop_sublist n Fs)⟩
theorem Sep.perm{Gs:List EF}(h:Sep w0 w Fs)(hs:Fs.Perm Gs):Sep w0 w Gs:=
 ⟨h.ext,fun F hF=>h.lo F (hs.mem_iff.2 hF),hs.pairwise h.ap (fun{_ _} hab k hb ha=>hab k ha hb)⟩
theorem Sep.at_(h:Sep w0 w Fs)(hi:Fs[i]?=some F):∀k∈F,w0.heap.size<=k/\k<w.heap.size:=h.lo F (zmg hi)
theorem Sep.apart(h:Sep w0 w Fs)(hi:Fs[i]?=some F)(hj:Fs[j]?=some G)(hij:i≠j):∀k∈G,k∉F:=by
 obtain⟨h1,rfl⟩:=Ae.1 hi;obtain⟨h2,rfl⟩:=Ae.1 hj;intro k hk hf
 rcases Nat.lt_or_gt_of_ne hij with g|g
 ·exact(Cd.1 h.ap) i j h1 h2 g k hf hk
 ·exact(Cd.1 h.ap) j i h2 h1 g k hk hf
theorem Sep.chg(h:Sep w0 w Fs){F':EF}(hi:Fs[i]?=some F)(hc:Chn F w w')(hn:∀k∈F',(k∈F\/w.heap.size<=k)/\k<w'.heap.size):Sep w0 w' (Fs.set i F'):=by
 have hF:=h.at_ hi;have hx:Ext w0 w':=hc.ext h.ext fun k hk=>(hF k hk).1
 refine⟨hx,fun G hG k hk=>?_,?_⟩
 ·rcases Dp hG with hG|rfl
  ·have:=h.lo G hG k hk;have:=hc.size;omega
  ·obtain⟨h1,h2⟩:=hn k hk;refine⟨?_,h2⟩
   rcases h1 with h1|h1
   ·exact(hF k h1).1
   ·exact AU h.ext.size h1
 ·have key:∀j G,Fs[j]?=some G->j≠i->(∀k∈F',k∉G):=fun j G hj hji k hk hg=>by
   rcases(hn k hk).1 with h1|h1
   ·exact h.apart hi hj (fun e=>hji e.symm) k hg h1
   ·have:=(h.at_ hj k hg).2;omega
  refine Cd.2 fun a b ha hb hab=>?_;simp only[CP]at ha hb;rw[List.getElem_set,List.getElem_set]
  by_cases e1:i=a
  ·rw[Ad e1,Aa Oo];exact key b _ (zge hb) Oo
  ·rw[Aa e1]
   by_cases e2:i=b
   ·rw[Ad e2];intro k hk hf;exact key a _ (zge ha) Oo k hf hk
   ·rw[Aa e2];exact(Cd.1 h.ap) a b ha hb hab
theorem Sep.keep(h:Sep w0 w Fs)(hi:Fs[i]?=some F)(hc:Chn F w w')(hj:Fs[j]?=some G)(hij:i≠j):∀k∈G,w'.heap[k]?=w.heap[k]?:=
 fun k hk=>hc.block k (h.at_ hj k hk).2 (h.apart hi hj hij k hk)
end
def rowF(v:E8):EF:=v.ownBlock.toList
theorem qcd{size n:Nat}{v:E8}(h:w.ownsRow base e size v n xs)(hk:∀k∈rowF v,w'.heap[k]?=w.heap[k]?):w'.ownsRow base e size v n xs:=by
 refine⟨h.1,h.2.imp id ?_⟩;rintro⟨g,cap,cur,rfl,h1,h2,h3⟩;exact⟨g,cap,cur,rfl,h1,by rw[hk g (Ah.2 rfl)];exact h2,h3⟩
theorem qrk{size n:Nat}{v:E8}(h:w.ownsRow base e size v n xs):∀k∈rowF v,base<=k/\k<w.heap.size:=by
 intro k hk;cases hv:v.ownBlock with
 | none=>rw[rowF,hv]at hk;cases hk
 | some g=>
  rw[rowF,hv]at hk;rw[Ah.1 hk];exact h.lt g hv
theorem q57{size n:Nat}{v:E8}(h:w.ownsRow base e size v n xs):w.ownsRow 0 e size v n xs:=
 ⟨h.1,h.2.imp id fun⟨g,cap,cur,e1,_,r⟩=>⟨g,cap,cur,e1,Am _,r⟩⟩
theorem AppV.row{e size:Nat}{v:E8}{n:Nat}{t:E6}{i:TypeInfo}(ht:P.underlying t=some (.slice e))(hi:P.info? e=some i)(hz:i.zero=some z)(hsize:i.size=size)(hzs:z.cells.size=size)(hsz:0<size)(h:w.ownsRow 0 e size v n xs)(hl:news.length=m*size)(hA:news≠[]->∃b off,A=some ⟨b,off,none⟩/\CellsAt w b off news)(h1:∀u∈news,u.oneCell'=true)(hb:(n+m)*i.bytes<=140737488355328)(h63:n+m<=140737488355328)(hk:∀A' c' w',w'.ownsRow 0 e size (.slice A' (n+m) c') (n+m) (xs++news)->Chn (rowF v) w w'->(∀k∈rowF (.slice A' (n+m) c'),(k∈rowF v\/w.heap.size<=k)/\k<w'.heap.size)->K (.slice A' (n+m) c') w'):AppV P #[t,t] ty v (.slice A m c) w K:=by
 refine AppV.own ht hi hz hsize hzs hsz h (Am _) hl hA h1 hb h63 fun v' w' ho hg hor=>?_;obtain⟨A',c',rfl⟩:=qa6 ho;refine hk A' c' w' ho (Chn.grown hg) fun k hk=>⟨?_,(qrk ho k hk).2⟩
 rcases hor with hor|hor
 ·left;rw[rowF,<-hor];exact hk
 ·right
  rw[rowF,hor]at hk;rw[Ah.1 hk];exact Aq _
theorem AppV.bys{v:E8}{x m:LB}{t:E6}{i:TypeInfo}(ht:P.underlying t=some (.slice e))(hi:P.info? e=some i)(hz:i.zero=some z)(hsize:i.size=1)(hzs:z.cells.size=1)(hby:i.bytes<=16)(h:w.ownsRow 0 e 1 v x.length (byV x))(hS:SlAt encB 1 w B m)(hlen:x.length+m.length<=8000000000000)(hk:∀A' c' w',w'.ownsRow 0 e 1 (.slice A' (x.length+m.length) c') (x++m).length (byV (x++m))->Chn (rowF v) w w'->(∀k∈rowF (.slice A' (x.length+m.length) c'),(k∈rowF v\/w.heap.size<=k)/\k<w'.heap.size)->K (.slice A' (x.length+m.length) c') w'):
  AppV P #[t,t] ty v (.slice B m.length d) w K:=by
 refine AppV.row (news:=byV m) ht hi hz hsize hzs Od h (by rw[qdb,Bk]) (qny hS) (fun u hu=>?_) (AU (BT hlen hby) Od) Oo fun A' c' w' ho hc hn=>hk A' c' w' ?_ hc hn
 ·simp only[byV,AY]at hu;obtain⟨v,_,rfl⟩:=hu;rfl
 ·rw[byV,AB,zla];exact ho
structure NewS(e:E6)(w w':Ez)(v:E8)(l:LB):Prop where
 ext:Ext w w'
 h:∃A c,v=.slice A l.length c/\l.length<=c/\(l=[]\/∃g cur,A=some ⟨g,0,none⟩/\w'.heap[g]?=some (.cells cur e)/\l.length<=cur.size/\cur.toList.take l.length=byV l)
 lo:∀k∈rowF v,w.heap.size<=k/\k<w'.heap.size
theorem NewS.bs{v:E8}(h:NewS e w w' v l):BS w' v l:=by
 obtain⟨A,c,rfl,h1,h2⟩:=h.h;refine⟨A,c,rfl,h1,⟨fun hn=>?_⟩⟩;obtain⟨g,cur,rfl,h3,h4,h5⟩:=h2.resolve_left hn;refine⟨g,0,rfl,fun j u hu k v hv=>?_⟩;cases k with
 | succ k=>simp[encB]at hv
 | zero=>
  simp only[encB,B9,Bp]at hv;subst hv;have hj:(cur.toList.take l.length)[j]?=some (.int .u8 u.toNat):=by rw[h5,byV,Ao,hu];rfl
  rw[Bc]at hj
  split at hj
  ·rw[qa h3]
   simpa using hj
  ·cases hj
theorem qwq(A:oA)(n c m d:Nat):rowF (.slice A n c)=rowF (.slice A m d):=by cases A<;>rfl
theorem NewS.of(he:Ext w w')(h:w'.ownsRow w.heap.size e 1 (.slice A l.length c) l.length (byV l))(d:Nat)(hd:l.length<=d):NewS e w w' (.slice A l.length d) l:=by
 refine⟨he,⟨A,d,rfl,hd,?_⟩,fun k hk=>qrk h k (by rw[qwq A _ _ l.length d];exact hk)⟩
 rcases h.2 with⟨e1,h0⟩|⟨g,cap,cur,e1,h1,h2,h3,h4,h5,h6⟩
 ·exact .inl (AW h0)
 ·cases e1;exact .inr ⟨g,cur,rfl,h2,by omega,by rw[Bk]at h6;exact h6⟩
theorem NewS.back{v:E8}(h:NewS e w w' v l)(he:Ext w0 w):NewS e w0 w' v l:=
 ⟨he.trans h.ext,h.h,fun k hk=>⟨AU he.size (h.lo k hk).1,(h.lo k hk).2⟩⟩
end V
namespace V
theorem Ext.first{o:Obj}(he:Ext w w')(ho:w'.heap[w.heap.size]?=some o):Ext (w.alloc o) w':=by
 have hlt:w.heap.size<w'.heap.size:=by
  rcases AX w.heap.size w'.heap.size with h|h
  ·exact h
  ·rw[Bd h]at ho;cases ho
 refine⟨he.os,he.tape,he.output,by rw[World.size_alloc];omega,fun k hk=>?_⟩;rw[World.size_alloc]at hk
 by_cases e:k=w.heap.size
 ·subst e;rw[ho,heap_alloc_new]
 ·rw[Below.heap_alloc _ _ _ Oo];exact he.block k Oo
def ql0(w:Ez)(n k:Nat):ED:=((List.range k).map fun i=>(n+i,(w.heap[n+i]?).getD (.cells #[] 0))).reverse
section
variable {J:ED->EC}
theorem Carr.since(hJ:Carr J)(h:J X w)(he:Ext w w'):J (ql0 w' w.heap.size (w'.heap.size-w.heap.size)++X) w':=by
 have key:∀k,w.heap.size+k<=w'.heap.size->∃v,v.heap.size=w.heap.size+k/\Ext v w'/\J (ql0 w' w.heap.size k++X) v:=by
  intro k
  induction k with
  | zero=>intro _;exact⟨w,rfl,he,h⟩
  | succ k ih=>
   intro hk;obtain⟨v,h1,h2,h3⟩:=ih Oo;have ho:w'.heap[v.heap.size]?=some w'.heap[v.heap.size]:=Aj Oo;refine⟨v.alloc w'.heap[v.heap.size],by rw[World.size_alloc,h1];omega,h2.first ho,?_⟩;have h4:=hJ.new w'.heap[v.heap.size] h3;have e:ql0 w' w.heap.size (k+1)=(v.heap.size,w'.heap[v.heap.size])::ql0 w' w.heap.size k:=by
    rw[ql0,DB,AB,List.reverse_append,ql0];simp only[AO,BM,List.reverse_cons,List.reverse_nil,Br,Dn,<-h1,ho,CI]
   rw[e];exact h4
 have hs:=he.size;obtain⟨v,h1,h2,h3⟩:=key (w'.heap.size-w.heap.size) Oo;exact hJ.ext h3 h2
theorem Carr.dropL(hJ:Carr J):∀{A Z:ED},J (A++Z) w->J Z w
 | [],_,h=>h
 | _::A,_,h=>Carr.dropL hJ (A:=A) (hJ.drop h)
theorem Carr.pick(hJ:Carr J):∀(Y A Z:ED),J (A++Z) w->(Y.map (·.1)).Nodup->(∀x∈Y,x∈A)->J (Y++Z) w
 | [],A,Z,h,_,_=>hJ.dropL h
 | x::Y,A,Z,h,hn,hs=>by
  obtain⟨s,t,rfl⟩:=List.append_of_mem (hs x mh);rw[AO,DQ]at hn;have h1:J ((s++t)++x::Z) w:=hJ.perm h (by
   rw[Ak,Ak,BL];exact Cl s (by rw[<-Dn,<-Dn (x:=x) (l:=Z),<-Ak,<-Ak];exact AE.append_right Z))
  have h2:=Carr.pick hJ Y (s++t) (x::Z) h1 hn.2 (fun y hy=>by
   have h3:=hs y (zmc hy)
   rcases Ba.1 h3 with h3|h3
   ·exact Bb _ h3
   ·rcases AD.1 h3 with rfl|h3
    ·exact absurd (CM hy) hn.1
    ·exact Ai _ h3)
  exact hJ.perm h2 BO
theorem Carr.call(hJ:Carr J)(h:J X w)(hm:Mem w w' Y):J (Y++X) w':=by
 refine hJ.pick Y _ X (hJ.since h hm.ext) hm.nodup fun x hx=>?_;have h1:=(hm.own x hx).1;have h2:=(hm.own x hx).2;have h3:=hm.lt (b:=x.1) (o:=x.2) hx;rw[ql0,List.mem_reverse];refine AY.2 ⟨x.1-w.heap.size,BY.2 Oo,?_⟩;rw[show w.heap.size+(x.1-w.heap.size)=x.1 by omega,h2];rfl
def RowX(e:E6)(size:Nat)(v:E8)(n:Nat)(xs:EE)(Y:ED):Prop:=
 xs.length=n*size/\((v=.slice none 0 0/\n=0/\Y=[])\/∃g cap cur,v=.slice (some ⟨g,0,none⟩) n cap/\Y=[(g,.cells cur e)]/\n<=cap/\cap<=maxLen/\cur.size=cap*size/\cur.toList.take (n*size)=xs)
theorem RowX.nil(e:E6)(size:Nat):RowX e size (.slice none 0 0) 0 [] []:=⟨by rw[Ex];rfl,.inl ⟨rfl,rfl,rfl⟩⟩
theorem RowX.own{size n:Nat}{v:E8}(h:RowX e size v n xs Y)(hY:∀x∈Y,w.heap[x.1]?=some x.2):w.ownsRow 0 e size v n xs:=by
 obtain⟨h1,⟨rfl,h2,_⟩|⟨g,cap,cur,rfl,rfl,r⟩⟩:=h
 ·exact⟨h1,.inl ⟨rfl,h2⟩⟩
 ·exact⟨h1,.inr ⟨g,cap,cur,rfl,Am _,hY _ (Ah.2 rfl),r⟩⟩
theorem RowX.of{size n:Nat}{v:E8}(h:w.ownsRow base e size v n xs):∃Y,RowX e size v n xs Y/\(Y.map (·.1))=v.ownBlock.toList/\∀x∈Y,base<=x.1/\w.heap[x.1]?=some x.2:=by
 obtain⟨h1,⟨rfl,h2⟩|⟨g,cap,cur,rfl,h2,h3,r⟩⟩:=h
 ·exact⟨[],⟨h1,.inl ⟨rfl,h2,rfl⟩⟩,rfl,fun x hx=>by cases hx⟩
 ·exact⟨[(g,.cells cur e)],⟨h1,.inr ⟨g,cap,cur,rfl,rfl,r⟩⟩,rfl,fun x hx=>by rw[Ah.1 hx];exact⟨h2,h3⟩⟩
theorem RowX.slice{size n:Nat}{v:E8}(h:RowX e size v n xs Y):∃A c,v=.slice A n c:=by
 obtain⟨_,⟨rfl,rfl,_⟩|⟨g,cap,cur,rfl,_⟩⟩:=h<;>exact⟨_,_,rfl⟩
theorem RowX.mem(hJ:Carr J){size n:Nat}{v:E8}(h:RowX e size v n xs Y)(hX:J X w)(hY:∀x∈Y,x∈X):w.ownsRow 0 e size v n xs:=
 h.own fun x hx=>hJ.get hX (hY x hx)
theorem Carr.row(hJ:Carr J)(h:J X w)(he:Ext w w'){size n:Nat}{v:E8}(ho:w'.ownsRow w.heap.size e size v n xs):∃Y,RowX e size v n xs Y/\J (Y++X) w':=by
 obtain⟨Y,h1,h2,h3⟩:=RowX.of ho;exact⟨Y,h1,hJ.call h ⟨he,h3,by rw[h2];cases v.ownBlock<;>simp⟩⟩
theorem AppV.carr{e size:Nat}{v:E8}{n:Nat}{t:E6}{i:TypeInfo}(hJ:Carr J)(h:J (Y++X) w)(hR:RowX e size v n xs Y)(ht:P.underlying t=some (.slice e))(hi:P.info? e=some i)(hz:i.zero=some z)(hsize:i.size=size)(hzs:z.cells.size=size)(hsz:0<size)(hl:news.length=m*size)(hA:news≠[]->∃b off,A=some ⟨b,off,none⟩/\CellsAt w b off news)(h1:∀u∈news,u.oneCell'=true)(hb:(n+m)*i.bytes<=140737488355328)(h63:n+m<=140737488355328)(hk:∀A' c' Y' w',RowX e size (.slice A' (n+m) c') (n+m) (xs++news) Y'->J (Y'++X) w'->K (.slice A' (n+m) c') w'):AppV P #[t,t] ty v (.slice A m c) w K:=by
 refine AppV.own ht hi hz hsize hzs hsz (hR.own fun x hx=>hJ.get h (Bb _ hx)) (Am _) hl hA h1 hb h63 fun v' w' ho hg hor=>?_;obtain⟨Y',hR',hY1,hY2⟩:=RowX.of ho;obtain⟨A',c',rfl⟩:=hR'.slice;refine hk A' c' Y' w' hR' ?_;obtain⟨_,⟨rfl,rfl,rfl⟩|⟨g,cap,cur,rfl,rfl,hn1,hn2,hn3,hn4⟩⟩:=hR
 ·have he:Ext w w':=⟨hg.os,hg.tape,hg.output,hg.size,fun k hk=>hg.block k hk (fun e=>by cases e)⟩
  rcases hor with hor|hor
  ·rw[hor]at hY1;have:Y'=[]:=List.map_eq_nil_iff.1 hY1;subst this;exact hJ.ext h he
  ·refine hJ.call h ⟨he,fun x hx=>⟨?_,(hY2 x hx).2⟩,by rw[hY1,hor];simp⟩;have:x.1∈Y'.map (·.1):=CM hx;rw[hY1,hor]at this;rw[Ah.1 this];exact Aq _
 ·have hgo:=hJ.get h mh;have hlt:g<w.heap.size:=by
   rcases AX g w.heap.size with h' | h'
   ·exact h'
   ·rw[Bd h']at hgo;cases hgo
  have hs:=hg.size;have ho':w'.heap[g]?=some w'.heap[g]:=Aj Oo;have h2:=hJ.set w'.heap[g] h;have he:Ext (setO w g w'.heap[g]) w':=by
   refine⟨hg.os,hg.tape,hg.output,by simpa[setO]using hg.size,fun k hk=>?_⟩;have hk':k<w.heap.size:=by simpa[setO]using hk
   by_cases e:k=g
   ·subst e;rw[qlx hgo,ho']
   ·rw[qd3 e];exact hg.block k hk' (fun e'=>e (by simpa[Value.ownBlock]using e'))
  rcases hor with hor|hor
  ·have h3:=hJ.ext h2 he;have e1:Y'=[(g,w'.heap[g])]:=by
    rw[hor]at hY1
    match Y',hY1,hY2 with
    | [x],hY1,hY2=>
     have e2:x.1=g:=by simpa[Value.ownBlock]using hY1
     have e3:=(hY2 x (Ah.2 rfl)).2;rw[e2,ho']at e3;have e4:x=(g,w'.heap[g]):=Ey e2 (BB e3).symm;rw[e4]
   rw[e1];exact h3
  ·have h4:J (Y'++(g,w'.heap[g])::X) w':=by
    refine hJ.call h2 ⟨he,fun x hx=>⟨?_,(hY2 x hx).2⟩,by rw[hY1,hor];simp⟩;have:x.1∈Y'.map (·.1):=CM hx;rw[hY1,hor]at this;rw[Ah.1 this];simp[setO]
   exact hJ.dropM h4
theorem qly{t:E6}(h:w.heap[b]?=some (.cells cur t)):w.setRow b cs=setO w b (.cells cs t):=by
 have hr:=qcl (cs:=cs) h;unfold World.setRow setO at *
 congr 1
 apply Array.ext_getElem?;intro i
 by_cases hi:i=b
 ·subst hi;have hlt:i<w.heap.size:=by
   rcases AX i w.heap.size with h' | h'
   ·exact h'
   ·rw[Bd h']at h;cases h
  rw[hr,DF hlt]
 ·rw[Dm,Aa (fun e=>hi e.symm),CQ (fun e=>hi e.symm)]
theorem StoreA.carr(hJ:Carr J){A B:ED}{t:E6}{K:EC}(h:J (A++(b,.cells cur t)::B) w)(hl:vs.length=cur.size)(h1:∀v∈vs,v.oneCell'=true)(hk:∀w',J (A++(b,.cells vs.toArray t)::B) w'->K w'):StoreA P w b 0 vs K:=by
 have hg:=hJ.get h (Ai _ mh);have hr:=run_storeCells_at P b 0 t vs 0 cur w hg (by simp[hl]) h1;refine⟨⟨_,hr,hk _ ?_⟩⟩;have e:(cur.toList.take (0+0)++vs++cur.toList.drop (0+0+vs.length)).toArray=vs.toArray:=by
  rw[Bz,Br,Dg (by simp[hl]),AI]
 have e2:∀z,w.setRow b z=setO w b (.cells z t):=fun z=>qly hg
 simp only[Aw,BH,Bz,Br]at e|-;rw[e2,e];exact hJ.setM _ h
theorem StoreA.carrAt(hJ:Carr J){A B:ED}{t:E6}{K:EC}(h:J (A++(b,.cells cur t)::B) w)(hl:off+vs.length<=cur.size)(h1:∀v∈vs,v.oneCell'=true)(hk:∀w',J (A++(b,.cells (cur.toList.take off++vs++cur.toList.drop (off+vs.length)).toArray t)::B) w'->K w'):StoreA P w b off vs K:=by
 have hg:=hJ.get h (Ai _ mh);have hr:=run_storeCells_at P b off t vs 0 cur w hg (by simpa using hl) h1;refine⟨⟨_,hr,hk _ ?_⟩⟩;have e2:∀z,w.setRow b z=setO w b (.cells z t):=fun z=>qly hg
 rw[e2];exact hJ.setM _ h
def SeqX(P:E4)(gf:FuncId)(lb:EE)(m:Nat)(I:Nat->ED->EC)(B:Nat->EE->ED->EC)(Ix:Nat->ED->EC):Prop:=
 ∀(l:Nat) (w:Ez),I 0 [] w->(∀k x X w,k<m->B k x X w->YieldV P l x w fun v w'=>(v=.bool true/\I (k+1) X w')\/(v=.bool false/\Ix k X w'))->
  Gv P gf (.func (.yield l) #[] #[]::lb) w fun _ w'=>I m [] w'\/∃k,k<m/\Ix k [] w'
theorem SeqC.toX{xs:List EE}{Φ:EC}(h:SeqC P gf lb xs Φ){I Ix:Nat->ED->EC}(hI:∀k,Carr (I k))(hIx:∀k,Carr (Ix k))(hw:∀k X w,I k X w->Φ w):
  SeqX P gf lb xs.length I (fun k x X w=>xs[k]?=some x/\I k X w) Ix:=
 fun l w h0 hy=>h l I Ix w hI hIx hw h0 fun k x X w hx hk=>hy k x X w (Ae.1 hx).1 ⟨hx,hk⟩
def SeqH(P:E4)(gf:FuncId)(lb:EE)(m:Nat)(R:Nat->EE->ED->Prop)(Φ0 Φ:EC):Prop:=
 ∀(l:Nat) (I Ix:Nat->ED->EC) (w:Ez),(∀k,Carr (I k))->(∀k,Carr (Ix k))->(∀k X w,I k X w->Φ w)->Φ0 w->I 0 [] w->
  (∀k x Y X w,k<m->R k x Y->I k (Y++X) w->YieldV P l x w fun v w'=>(v=.bool true/\I (k+1) X w')\/(v=.bool false/\Ix k X w'))->
  Gv P gf (.func (.yield l) #[] #[]::lb) w fun _ w'=>I m [] w'\/∃k,k<m/\Ix k [] w'
theorem SeqH.toX{R:Nat->EE->ED->Prop}{Φ0 Φ:EC}(h:SeqH P gf lb m R Φ0 Φ){I Ix:Nat->ED->EC}(hI:∀k,Carr (I k))(hIx:∀k,Carr (Ix k))(hw:∀k X w,I k X w->Φ w)(h00:∀w,I 0 [] w->Φ0 w):
  SeqX P gf lb m I (fun k x X w=>∃Y,R k x Y/\I k (Y++X) w) Ix:=
 fun l w h0 hy=>h l I Ix w hI hIx hw (h00 w h0) h0 fun k x Y X w hx hR hk=>hy k x X w hx ⟨Y,hR,hk⟩
theorem Carr.ex{α:Type}{p:α->Prop}{J:α->ED->EC}(h:∀c,Carr (J c)):Carr fun X w=>∃c,p c/\J c X w:=
 ⟨fun⟨c,q,k⟩ he=>⟨c,q,(h c).ext k he⟩,fun⟨c,_,k⟩ hx=>(h c).get k hx,fun o ⟨c,q,k⟩=>⟨c,q,(h c).new o k⟩,fun o' ⟨c,q,k⟩=>⟨c,q,(h c).set o' k⟩,fun⟨c,q,k⟩=>⟨c,q,(h c).drop k⟩,fun⟨c,q,k⟩ hp=>⟨c,q,(h c).perm k hp⟩⟩
theorem Carr.and(h:Carr J):Carr fun X w=>p/\J X w:=
 ⟨fun⟨q,k⟩ he=>⟨q,h.ext k he⟩,fun⟨_,k⟩ hx=>h.get k hx,fun o ⟨q,k⟩=>⟨q,h.new o k⟩,fun o' ⟨q,k⟩=>⟨q,h.set o' k⟩,fun⟨q,k⟩=>⟨q,h.drop k⟩,fun⟨q,k⟩ hp=>⟨q,h.perm k hp⟩⟩
theorem Carr.head(h:Carr J)(L:ED):Carr fun X w=>J (L++X) w:=
 ⟨fun k he=>h.ext k he,fun k hx=>h.get k (Ai _ hx),fun o k=>h.perm (h.new o k) BO.symm,fun o' k=>h.setM o' k,fun k=>h.dropM k,fun k hp=>h.perm k (hp.append_left L)⟩
variable {P:E4} {n:Nat} {r:Option Nat}
theorem qlk{f:Operand}{ps:Array Tmp}{assign:Code}{Q:QW}(hf:ev ρ f=.func (.func gf) #[] lb.toArray)(he:qdc P gf=true)(hpn:ps.toList.all (Nat.blt · n)=true)(J:Nat->ED->EC)(B:Nat->EE->ED->EC)(Jx:Code->Nat->ED->EC)(hseq:∀(L:ED) (Lx:Code->ED),SeqX P gf lb m (fun k X w=>J k (X++L) w) (fun k x X w=>B k x (X++L) w) (fun k X w=>∃c,Jx c k (X++Lx c) w))(hps:∀k x X w,B k x X w->x.length=ps.size)(hJ:∀k,Carr (J k))(hB:∀k x,Carr (B k x))(hJx:∀c k,Carr (Jx c k))(h0:J 0 [] w)(hbody:∀l D ob ob' k x X w1,k<m->B k x ((l,ob)::(D,.deferred (some []))::X) w1->
   qih P n (some l) assign (qadu fun ρ1 ds1 w1'=>BeginA (B k x) l ob ob' w1' ds1
    (fun w2=>qih P n (some l) body (q8h (J (k+1) ((l,ob')::(D,.deferred (some []))::X)) (fun c=>Jx c k ((l,ob')::(D,.deferred (some []))::X))) ρ1 [] w2)) (qy0 ps.toList x ρ) [] w1)(hdone:∀D w',J m [(D,.deferred (some []))] w'->Q .normal ρ ({ target:=.collected D,args:=#[] }::ds) w')(hstop:∀D c k w',k<m->Jx c k [(D,.deferred (some []))] w'->qaea c Q ρ ({ target:=.collected D,args:=#[] }::ds) w'):RangeW P n none f ps assign body Q ρ ds w:=by
 refine⟨fun a ha hd=>?_⟩;subst hd;refine wpIn_rangeFunc ?_;intro fn hfn;obtain⟨rec,hrec⟩:∃rec:LoopState->Option Code->Loop,rec=fun st pe=>{ state:=st,pending:=pe,fn,tmps:=a.tmps,params:=ps,assign,body,defers:=w.heap.size }:=⟨_,rfl⟩
 obtain⟨W1,hW1⟩:∃W1,(w.alloc (.deferred (some []))).alloc (.loop (rec .ready none))=W1:=⟨_,rfl⟩
 have hD:=(hJ 0).new (.deferred (some [])) h0;have hL:=(hJ 0).new (.loop (rec .ready none)) hD;rw[hW1,World.size_alloc]at hL;refine⟨w.heap.size+1,[{ target:=.collected w.heap.size,args:=#[] }],W1,{ target:=.fn (.func gf) lb.toArray,args:=#[.func (.yield (w.heap.size+1)) #[] #[]] },W1,gf,
  #[.func (.yield (w.heap.size+1)) #[] #[]]++lb.toArray,W1,?_,?_,fun _ _=>trivial,?_,fun h=>by simp[Fr]at h,?_⟩
 ·rw[<-hW1,hrec];exact run_enterLoop_outer _ _ _ _ _
 ·have:a.eval f=.func (.func gf) #[] lb.toArray:=by rw[ha.eval,hf]
  simp only[resolve,this];simp[go_sem]
 ·simp only[invoke];exact qcu he _
 ·have ea:#[Value.func (.yield (w.heap.size+1)) #[] #[]]++lb.toArray=(Value.func (.yield (w.heap.size+1)) #[] #[]::lb).toArray:=by rw[<-Bf];simp
  rw[ea];refine qc6.2 ((hseq [(w.heap.size+1,.loop (rec .ready none)),(w.heap.size,.deferred (some []))] (fun c=>[(w.heap.size+1,.loop (rec .done (some c))),(w.heap.size,.deferred (some []))]) (w.heap.size+1) W1 hL ?_).2.mono ?_)
  ·intro k x X W hkm hk;have hxl:=hps k x _ W hk;replace hk:=(hB k x).perm hk AE;have hl:=(hB k x).get hk mh;have hy:=run_yield (P:=P) (args:=x.toArray) hl (by rw[hrec];simpa using hxl);rw[hrec]at hy;refine⟨⟨fn,_,assign,body,hy,roundIn_of_wpIn hfn ?_⟩⟩;have h1:=hbody (w.heap.size+1) w.heap.size _ (.loop { rec .ready none with state:=.busy }) k x X W hkm hk;have hz:(ps.zip x.toArray).foldl (fun t (p,v)=>t.setIfInBounds p v) a.tmps=(ps.toList.zip x).foldl (fun t (p,v)=>t.setIfInBounds p v) a.tmps:=by
    rw[<-Em];simp
   have hst:Sw n (qy0 ps.toList x ρ) { tmps:=(ps.zip x.toArray).foldl (fun t (p,v)=>t.setIfInBounds p v) a.tmps,defers:=[] }:=by
    rw[hz];exact qww _ _ _ _ hpn ha
   refine Go.wpIn_mono (F:=Fr (some (w.heap.size+1))) (qfu assign _ _ _ _ h1 _ hst rfl) fun e a1 w1 hq=>?_;obtain⟨ρ1,hst1,hq⟩:=hq;cases e with
   | normal=>
    obtain⟨hd1,Y,hY,hb1⟩:=hq;have hb1:=hb1 _ ((hB k x).set (.loop { rec .ready none with state:=.busy }) hY);refine⟨_,run_beginRound ((hB k x).get hY mh) (by rw[hrec]),?_⟩;refine Go.wpIn_mono (F:=Fr (some (w.heap.size+1))) (qfu body _ _ _ _ hb1 _ hst1 hd1) fun e a2 w2 hq=>?_;obtain⟨ρ2,hst2,hq⟩:=hq;cases e with
    | normal=>
     refine⟨_,_,run_endRound none ((hJ _).get hq mh),_,rfl,.inl ⟨rfl,?_⟩⟩;have:=(hJ (k+1)).perm ((hJ (k+1)).set (.loop (rec .ready none)) hq) (AE (l₁:=[_,_]));rw[hrec]at this|-;exact this
    | ret=>
     refine⟨_,_,run_endRound (some .ret) ((hJx _ _).get hq mh),_,rfl,.inr ⟨rfl,.ret,?_⟩⟩;have:=(hJx _ k).perm ((hJx _ k).set (.loop (rec .done (some .ret))) hq) (AE (l₁:=[_,_]));rw[hrec]at this|-;exact this
    | exit id=>
     refine⟨_,_,run_endRound (some (.exit id)) ((hJx _ _).get hq mh),_,rfl,.inr ⟨rfl,.exit id,?_⟩⟩;have:=(hJx _ k).perm ((hJx _ k).set (.loop (rec .done (some (.exit id)))) hq) (AE (l₁:=[_,_]));rw[hrec]at this|-;exact this
    | goto t=>
     refine⟨_,_,run_endRound (some (.goto t)) ((hJx _ _).get hq mh),_,rfl,.inr ⟨rfl,.goto t,?_⟩⟩;have:=(hJx _ k).perm ((hJx _ k).set (.loop (rec .done (some (.goto t)))) hq) (AE (l₁:=[_,_]));rw[hrec]at this|-;exact this
    | panic ch=>exact hq.elim
    | outgrown=>exact hq.elim
   | ret=>exact hq.elim
   | exit id=>exact hq.elim
   | goto t=>exact hq.elim
   | panic ch=>exact hq.elim
   | outgrown=>exact hq.elim
  ·rintro e W2 ⟨v,rfl,h|⟨k,hk,c,h⟩⟩
   ·have hl:=(hJ _).get h mh;have:=run_endLoop (P:=P) hl (by rw[hrec];simp);rw[hrec]at this;exact⟨none,_,this,ρ,ha,hdone _ _ ((hJ _).drop ((hJ _).set _ h))⟩
   ·have hl:=(hJx _ _).get h mh;have:=run_endLoop (P:=P) hl (by rw[hrec];simp);rw[hrec]at this;refine⟨some c,_,this,?_⟩;have hs:=hstop _ c k _ hk ((hJx _ _).drop ((hJx _ _).set (.loop { rec .done (some c)with state:=.exhausted }) h));rw[hrec]at hs;cases c with
    | ret=>exact Go.wpIn_ret ⟨ρ,ha,hs⟩
    | exit id=>exact Go.wpIn_exit ⟨ρ,ha,hs⟩
    | goto t=>exact Go.wpIn_goto ⟨ρ,ha,hs⟩
    | _=>exact hs.elim
end
end V
def TmaΦ(b:Nat)(l:LB)(b1 _:Nat)(w:Ez):Prop:=TreeAt w b l/\w.cell? ⟨b1,0,none⟩=some (pp b)
def qacq(P:Nat->Int)(b2:Nat)(w:Ez):Prop:=CellsAt w b2 0 [ii (P 0),ii (P 1),ii (P 2),ii (P 3)]
def tmaR(l:LB)(P:Nat->Int):List (Nat×(Nat->Nat)):=(lvG (treD l) P 3 0 0 (vNum l 0) (fun _=>0,fun _=>0)).1
theorem qza(b:Nat)(P:Nat->Int)(w:Ez):Gv EG 92 [pp b,.agg #[ii (P 0),ii (P 1),ii (P 2),ii (P 3)]] w fun r w'=>
  ∃b1 b2,r=.func (.func 144) #[] #[pp b1,pp b2]/\Mem w w' [(b2,.cells #[ii (P 0),ii (P 1),ii (P 2),ii (P 3)] 101),(b1,.cells #[pp b] 172)]:=by
 refine ze Tryz.func92 Tryz.ntmps92 ?_;refine znm (Mem.nil w) fun b1 w1 hm=>zw ?_;refine znm hm fun b2 w2 hm=>zw ?_;exact⟨b1,b2,rfl,hm⟩
theorem qzb(b:Nat)(l:LB)(P:Nat->Int)(b1 b2:Nat)(hvm:∀k,k<3->tVec l (k+1)=true->vM (qg l (k+1))<=vN (qg l (k+1)))(hP:∀k,k<4->InR .i64 (P k)):
  SeqC EG 144 [pp b1,pp b2] ((tmaR l P).map mRow) (fun w=>TmaΦ b l b1 b2 w/\qacq P b2 w):=by
 intro y I Ix w cI cIx hI h0 hy;obtain⟨⟨hT,hc1⟩,hc2⟩:=hI 0 [] w h0;obtain⟨PP,cp,S,cs,VV,hc,_⟩:=(hT.lv 0 Od).h;have hn0:=hT.n 0 Od;refine gvW Jk Tryz.func144 rfl Tryz.ntmps144 rfl (zw ?_);refine LoadV.of hc1 (zw ?_);refine LoadA.cells hc2 rfl (zw ?_);refine NewV.carr (cI 0) h0 ?_;clear h0;intro wb w1 h0;have h0:I 0 [(wb,wkO b y P (fun _=>0,fun _=>0))] w1:=h0;(conv=>whnf);refine LoadV.of (hI _ _ _ h0).1.2 (zw ?_);refine zJ 0 ?_;(conv=>whnf);obtain⟨PP,cp,S,cs,VV,hc,_⟩:=((hI _ _ _ h0).1.1.lv 0 Od).h;refine LoadV.cellsE hc 0 (by first|rfl|(rw[lvSz];first|done|rfl)) rfl (zw ?_);have hlv:=q1r b wb y l P ((tmaR l P).map mRow) I Ix cI cIx (fun k X w h=>(hI k X w h).1.1) hvm hP hy 3 0 0 (vNum l 0) 0 (fun _=>0,fun _=>0) [] w1 rfl Oo hn0 (fun k _=>Am _) (fun t row ht=>by rw[Aw,Ao];exact Af (Option.map mRow) ht) h0;refine zcv hlv ?_;clear h0 hlv;have hlen:((tmaR l P).map mRow).length=(tmaR l P).length:=AC ..;rintro r w2 (⟨rfl,hJ⟩|⟨rfl,j',s',hj',hX⟩)
 ·(conv=>whnf);rw[hlen];rw[Aw]at hJ;exact .inl ((cI _).drop hJ)
 ·(conv=>whnf);rw[Aw]at hj';exact .inr ⟨j',by rw[hlen];exact hj',(cIx _).drop hX⟩
structure IdxAt(w:Ez)(x:Nat)(l:LB):Prop where
 h:∃pb,w.cell? ⟨x,0,none⟩=some (pp pb)/\PackAt w pb l
end Go.Proofs.YtacnkdagblbgfaaGreatDoor
