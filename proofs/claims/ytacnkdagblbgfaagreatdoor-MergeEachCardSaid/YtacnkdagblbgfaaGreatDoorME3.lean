/- Lemmas and contracts of functions on the way to the law's card (part 3 of 11). -/
import Derived.Test.YtacnkdagblbgfaaGreatDoorME2
import Derived.Laws.Small
import Derived.Laws.StructEq
namespace Go.Proofs.YtacnkdagblbgfaaGreatDoor
set_option maxHeartbeats 8000000
open Go.RowKit V
set_option maxHeartbeats 8000000
set_option maxRecDepth 100000
def dash:Eu:=⟨#[45]⟩
def qbd(s:Eu):List Eu:=Go.Lib.splitB dash 0 (Go.Lib.countB s dash) s
theorem qmq(s:Eu):(qbd s).length=Go.Lib.countB s dash+1:=Go.Lib.splitB_all dash Od 0 _ s rfl
noncomputable def tagR(l:List Eu):Option (List Eu):=if seeB qey l=true then some l else(qeg l).bind qi0
def qjo(x:Eu):Bool:=q6 x 1 8 false
def qns(l:List Eu):Prop:=if seeB qey l=true then(l.tail≠[]/\l.tail.all qjo=true)else l=[]
def tagP(l:List Eu):Prop:=∃l1,tagR l=some l1/\qns l1
open Classical in
noncomputable def tagE(l:List Eu):Nat:=if tagP l then 0 else 61
theorem qlr{l:List Eu}(h:tagP l):tagE l=0:=by unfold tagE;rw[Ad h]
theorem qdg{l:List Eu}(h:¬tagP l):tagE l=61:=by unfold tagE;rw[Aa h]
def MaxLenAt(w:Et):Prop:=∃m:Int,w.cell? ⟨2,0,none⟩=some (ii m)
theorem MaxLenAt.ext{w w':Et}(h:MaxLenAt w)(he:Ext w w'):MaxLenAt w':=⟨h.choose,he.cell h.choose_spec⟩
theorem q5x{w w':Et}{l:List Eu}{t:Ew}(hw:w'=w.alloc (.cells (l.map Value.string).toArray t)):SlAt V.zeS 1 w' (some ⟨w.heap.size,0,none⟩) l:=by
 subst hw;refine⟨fun _=>⟨w.heap.size,0,rfl,fun j x hx k v hv=>?_⟩⟩;cases k with
 | succ k=>simp[V.zeS]at hv
 | zero=>
  simp only[V.zeS,BA,B4]at hv;subst hv;rw[qa (heap_alloc_new w _)];simp[hx]
theorem q2d(s:Eu)(hs:s.size<=1000000)(w:Et)(hM:MaxLenAt w):
  Gv E4 231 [.string s,.string dash] w fun v w'=>∃b,v=.slice (some ⟨b,0,none⟩) (qbd s).length (qbd s).length/\SlAt V.zeS 1 w' (some ⟨b,0,none⟩) (qbd s)/\Ext w w':=by
 obtain⟨m,hm⟩:=hM;refine qhc Jk ((Tryz.strings_Split s dash m w Oo hm Od).mono ?_);rintro e w' ⟨rfl,hw⟩;exact⟨_,rfl,w.heap.size,by rw[qmq],q5x hw,by rw[hw];exact(Ext.refl w).alloc _⟩
theorem qd9:∀v∈[Value.string ⟨#[]⟩,.string ⟨#[]⟩,.string ⟨#[]⟩,.string ⟨#[]⟩,.slice none 0 0,.slice none 0 0,.string ⟨#[]⟩],v.oneCell'=true:=by
 intro v hv;simp at hv
 rcases hv with rfl|rfl|rfl<;>rfl
theorem qp3:∀(k:Nat) (l:List Eu),(qew k l).length<=l.length/\∀x∈qew k l,x∈l
 | 0,l=>⟨Ar _,fun x hx=>hx⟩
 | k+1,[]=>⟨Ar _,fun x hx=>hx⟩
 | k+1,y::ys=>by
  by_cases hm:q6 y 3 3 true=true
  ·rw[qew,Ad hm];obtain⟨h1,h2⟩:=qp3 k ys;exact⟨by simp;omega,fun x hx=>zmc (h2 x hx)⟩
  ·rw[qew,Aa hm];exact⟨Ar _,fun x hx=>hx⟩
theorem qmj{l r:List Eu}(h:qeg l=some r):r.length<=l.length/\∀x∈r,x∈l:=by
 cases l with
 | nil=>cases h
 | cons y ys=>
  by_cases hm:q6 y 2 8 true=true
  ·rw[qeg,Ad hm]at h;have h:=Bs h;subst h
   split
   ·exact⟨by simp,fun x hx=>zmc hx⟩
   ·obtain⟨h1,h2⟩:=qp3 3 ys;exact⟨by simp;omega,fun x hx=>zmc (h2 x hx)⟩
  ·rw[qeg,Aa hm]at h;cases h
theorem q0e{l r:List Eu}(h:qeg l=some r):∀x∈r,x∈l:=(qmj h).2
theorem qkp{l r:List Eu}(h:qeg l=some r):r.length<=l.length:=(qmj h).1
theorem qvl{w0 w:Et}{L:Ey}{rb n c off size:Nat}{A:oA}{t:Ez}{K:Ez->Prop}(hm:Mem w0 w L)(hi:(rb,rdC A n c t)∈L)(ho:off=1)(hs:t.length=size)(hk:K t):LoadA w rb off size K:=by
 subst ho;refine⟨t,hs,fun i hi'=>?_,hk⟩;have:=hm.get hi;rw[rdC]at this;rw[qa this,AB,C0 1 i,Dy]
theorem tag7{V E:Value}(h:(∃A n c,V=.slice A n c)/\∃A n c,E=.slice A n c)(a0 a1 a2 a3 a6:Eu):∀v∈tagC a0 a1 a2 a3 V E a6,v.oneCell'=true:=by
 obtain⟨⟨_,_,_,rfl⟩,⟨_,_,_,rfl⟩⟩:=h;intro v hv;simp[tagC]at hv
 rcases hv with rfl|rfl|rfl|rfl|rfl|rfl|rfl<;>rfl
theorem qk6(s:Eu):(qbd s).map (·.data.toList)=qbr s.data.toList:=by
 rw[qbd,Go.Lib.splitB_data,<-qll];rfl
theorem qmr(s:Eu):(∀x∈qbd s,x.size<=s.size)/\(qbd s).length<=s.size+1:=by
 obtain⟨h1,h2⟩:=qmp s.data.toList;rw[<-qk6]at h1 h2;refine⟨fun x hx=>?_,by simpa using h1⟩;have:=h2 _ (Bc.2 ⟨x,hx,rfl⟩)
 simpa using this
def TagV(l:List Eu)(v:Value):Prop:=∃c0 c1 c2 c3 c4 c5 c6,(∀u∈[c0,c1,c2,c3,c4,c5,c6],u.oneCell'=true)/\v=.tuple #[.agg #[c0,c1,c2,c3,c4,c5,c6],ii (tagE l)]
theorem qabe(s:Eu)(hs:s.size<=65536)(w:Et)(hM:MaxLenAt w):
  Gv E4 182 [.string s] w fun v w'=>TagV (qbd s) v/\Ext w w':=by
 obtain⟨p1,p2⟩:=qmr s;obtain⟨l,hl⟩:∃l,l=qbd s:=⟨_,rfl⟩
 rw[<-hl]at p1 p2;refine ze Tryz.func182 Tryz.ntmps182 ?_;refine znm (Mem.nil w) fun rt w1 hm1=>zw ?_;refine zcv (q2d s Oo w1 (hM.ext hm1.ext)) ?_;rintro v w2 ⟨pb,rfl,hS,he2⟩;rw[<-hl]at hS|-;have hm2:=hm1.call he2;(conv=>whnf);refine znm (Mem.nil w2) ?_;intro rb w3 hm3;have h0:RS w2 w3 [rb] rb l (some ⟨pb,0,none⟩) l.length (.slice none 0 0) (.slice none 0 0) [(rb,rdC (some ⟨pb,0,none⟩) l.length l.length (tagC ⟨#[]⟩ ⟨#[]⟩ ⟨#[]⟩ ⟨#[]⟩ (.slice none 0 0) (.slice none 0 0) ⟨#[]⟩))] []:=
  ⟨hm3,⟨_,_,_,_,_,AO ..⟩,RowsP.none_,hS,Ar _,AO ..,fun g hg=>by obtain rfl:=Ak.1 hg;exact⟨_,AO ..⟩,fun x hx=>by have:=p1 x hx;omega,⟨⟨_,_,_,rfl⟩,⟨_,_,_,rfl⟩⟩⟩
 (conv=>whnf);refine zcv (qi3 qey h0 (fun x w1 _=>by
  refine(qgt x w1).mono ?_;rintro v w' ⟨rfl,rfl⟩;exact⟨rfl,xr⟩)) ?_
 rintro v w6 ⟨rfl,h4⟩;(conv=>whnf);cases hq:seeB qey l
 case' true=>
  refine zv ?_;obtain⟨l1,A1,c1,V1,E1,L1,e1,g1,d1⟩:∃l1 A1 c1 V1 E1 L1,tagR l=some l1/\RS w2 w6 [rb] rb l1 A1 c1 V1 E1 L1 []/\l1.length<=1000000:=⟨l,_,_,_,_,_,by rw[tagR,Ad hq],h4,by omega⟩
  clear hq h4 h0
 case' false=>
  have eT:tagR l=(qeg l).bind qi0:=by rw[tagR,Aa (by rw[hq];simp)]
  refine zv ?_;refine zcv (qqh rb 0 l _ _ ⟨#[]⟩ ⟨#[]⟩ ⟨#[]⟩ ⟨#[]⟩ _ _ w2 w6 _ h4.mem rfl hS znr h4.small) ?_;rintro v w5 (⟨e2,rfl,hx5⟩|⟨l2,e2,rfl,A2,c2,b0,b1,hS2,hc2,hm5⟩)
  ·rw[e2]at eT;refine zu ?_;refine StoreA.mem (hm2.call hx5) (i:=0) rfl (Ar 7) qd9 fun w9 hm9=>zw ?_;refine qh (R:=fun v w'=>TagV l v/\Ext w w') (zw ?_);refine zl hm9 0 ?_;exact⟨⟨_,_,_,_,_,_,_,qd9,by rw[qdg (fun h=>by obtain⟨l1,h1,_⟩:=h;rw[eT]at h1;cases h1)];rfl⟩,hm9.ext⟩
  rw[e2]at eT;have h5:RS w2 w5 [rb] rb l2 A2 c2 (.slice none 0 0) (.slice none 0 0) [(rb,rdC A2 l2.length c2 (tagC b0 b1 ⟨#[]⟩ ⟨#[]⟩ (.slice none 0 0) (.slice none 0 0) ⟨#[]⟩))] []:=
   ⟨hm5,⟨_,_,_,_,_,AO ..⟩,RowsP.none_,hS2,hc2,AO ..,fun g hg=>by obtain rfl:=Ak.1 hg;exact⟨_,AO ..⟩,fun x hx=>by have:=p1 x (q0e e2 x hx);omega,⟨⟨_,_,_,rfl⟩,⟨_,_,_,rfl⟩⟩⟩
  refine zu ?_;refine zcv (q5p rb [rb] l2 A2 c2 w2 w5 _ h5 (by have:=qkp e2;omega)) ?_;rintro v w6 (⟨e3,rfl,hx6⟩|⟨l3,e3,rfl,A3,c3,V3,E3,L3,h6,hl3,_⟩)
  ·have eT:tagR l=none:=by rw[eT];exact e3
   refine zu ?_;refine StoreA.mem (hm2.call hx6) (i:=0) rfl (Ar 7) qd9 fun w9 hm9=>zw ?_;refine qh (R:=fun v w'=>TagV l v/\Ext w w') (zw ?_);refine zl hm9 0 ?_;exact⟨⟨_,_,_,_,_,_,_,qd9,by rw[qdg (fun h=>by obtain⟨l1,h1,_⟩:=h;rw[eT]at h1;cases h1)];rfl⟩,hm9.ext⟩
  obtain⟨l1,A1,c1,V1,E1,L1,e1,g1,d1⟩:∃l1 A1 c1 V1 E1 L1,tagR l=some l1/\RS w2 w6 [rb] rb l1 A1 c1 V1 E1 L1 []/\l1.length<=1000000:=⟨l3,_,_,_,_,_,by rw[eT];exact e3,h6,by have:=qkp e2;omega⟩
  clear hq h4 h0 eT e2 h5 e3 h6;refine zu ?_
 all_goals
  refine zcv (qi3 qey g1 (fun x w1 _=>by
   refine(qgt x w1).mono ?_;rintro v w' ⟨rfl,rfl⟩;exact⟨rfl,xr⟩)) ?_
  rintro v w7 ⟨rfl,g2⟩;cases hq2:seeB qey l1
  ·have hend:qns l1↔l1=[]:=by rw[qns,Aa (by rw[hq2];simp)]
   refine zu ?_;obtain⟨a0,a1,a2,a3,a6,hrd⟩:=id g2.rd;refine LoadV.of (v:=.slice A1 l1.length c1) (by have:=g2.mem.get hrd;rw[rdC]at this;rw[qa this];rfl) (zw ?_)
   (repeat' refine zC (fun _=>zw ?_) (fun _=>zw ?_))
   ·skip
    refine StoreA.mem (hm2.call g2.mem.ext) (i:=0) rfl (Ar 7) qd9 fun w9 hm9=>zw ?_;refine qh (R:=fun v w'=>TagV l v/\Ext w w') (zw ?_);refine zl hm9 0 ?_;exact⟨⟨_,_,_,_,_,_,_,qd9,by rw[qdg (fun h=>by obtain⟨l2,h1,h2⟩:=h;rw[e1]at h1;cases h1;have e:=hend.1 h2;have:l1.length=0:=(by rw[e];rfl);omega)];rfl⟩,hm9.ext⟩
   ·skip
    obtain⟨⟨VA,vn,vc,rfl⟩,⟨EA,en,ec,rfl⟩⟩:=id g2.vs;obtain⟨z0,z1,z2,z3,z6,hrd⟩:=id g2.rd;refine qvl g2.mem hrd rfl rfl (zw ?_);refine StoreA.mem (hm2.call g2.mem.ext) (i:=0) rfl (Ar 7) (tag7 g2.vs _ _ _ _ _) fun w9 hm9=>zw ?_;refine qh (R:=fun v w'=>TagV l v/\Ext w w') (zw ?_);refine zl hm9 0 ?_;exact⟨⟨_,_,_,_,_,_,_,tag7 ⟨⟨_,_,_,rfl⟩,⟨_,_,_,rfl⟩⟩ _ _ _ _ _,by rw[qlr ⟨l1,e1,hend.2 (Dz.1 Oo)⟩];rfl⟩,hm9.ext⟩
  ·obtain⟨x,xs,rfl⟩:∃x xs,l1=x::xs:=by
    cases l1 with
    | nil=>cases hq2
    | cons x xs=>exact⟨x,xs,rfl⟩
   have hend:qns (x::xs)↔xs≠[]/\xs.all qjo=true:=by rw[qns,Ad hq2];rfl
   refine zu ?_;refine zcv (qkx g2) ?_;rintro v w8 ⟨rfl,A8,c8,L8,g8,_⟩;(conv=>whnf);obtain⟨a0,a1,a2,a3,a6,hrd⟩:=id g8.rd;refine zcv (qvn (least:=1) g8.mem hrd g8.sl g8.hc g8.small (by simp at d1;omega)) ?_;rintro v w9 ⟨pre,rest',sT,hP,hse,rfl,A9,c9,L9,hS9,hc9,hr9⟩;have g9:=g8.step hr9 ⟨_,_,_,_,_,rfl⟩ hS9 hc9 (fun y hy=>by rw[hP.eq];exact Ai _ hy) g8.vs;(conv=>whnf);have hall:xs≠[]/\xs.all qjo=true↔pre≠[]/\rest'=[]:=by
    have hPa:pre.all qjo=true:=hP.all;rw[hP.eq,DI,hPa,Df]
    constructor
    ·rintro⟨n1,n2⟩;have hr:rest'=[]:=by
      cases rest' with
      | nil=>rfl
      | cons y ys=>
       have:qjo y=false:=hse;simp[this]at n2
     exact⟨fun e=>n1 (by rw[e,hr];rfl),hr⟩
    ·rintro⟨n1,rfl⟩;exact⟨by simpa using n1,rfl⟩
   rw[hall]at hend;have hxx:=g2.small x mh;have hsT:=hP.size;have hpl:pre.length<=1000000:=by have:=Af List.length hP.eq;simp at this d1;omega
   by_cases hp:pre=[]
   ·rw[AJ (by simp[hp])];refine zu ?_;refine StoreA.mem (hm2.call g9.mem.ext) (i:=0) rfl (Ar 7) qd9 fun w9 hm9=>zw ?_;refine qh (R:=fun v w'=>TagV l v/\Ext w w') (zw ?_);refine zl hm9 0 ?_;exact⟨⟨_,_,_,_,_,_,_,qd9,by rw[qdg (fun h=>by obtain⟨l2,h1,h2⟩:=h;rw[e1]at h1;cases h1;exact(hend.1 h2).1 hp)];rfl⟩,hm9.ext⟩
   ·rw[AD (by simpa using hp)];refine zu ?_;refine⟨by omega,?_⟩;(conv=>whnf);obtain⟨a0,a1,a2,a3,a6,hrd⟩:=id g9.rd;refine qfh g9.mem hrd 6 rfl (show 6<7 by decide) rfl ?_;intro w10 L10 hr10;have g10:=g9.step hr10 ⟨_,_,_,_,_,rfl⟩ hS9 hc9 (fun y hy=>hy) g9.vs;obtain⟨a0,a1,a2,a3,a6,hrd⟩:=id g10.rd;(conv=>whnf);refine LoadV.of (v:=.slice A9 rest'.length c9) (by have:=g10.mem.get hrd;rw[rdC]at this;rw[qa this];rfl) (zw ?_)
    (repeat' refine zC (fun _=>zw ?_) (fun _=>zw ?_))
    ·skip
     refine StoreA.mem (hm2.call g10.mem.ext) (i:=0) rfl (Ar 7) qd9 fun w9 hm9=>zw ?_;refine qh (R:=fun v w'=>TagV l v/\Ext w w') (zw ?_);refine zl hm9 0 ?_;exact⟨⟨_,_,_,_,_,_,_,qd9,by rw[qdg (fun h=>by obtain⟨l2,h1,h2⟩:=h;rw[e1]at h1;cases h1;have e:=(hend.1 h2).2;have:rest'.length=0:=(by rw[e];rfl);omega)];rfl⟩,hm9.ext⟩
    ·skip
     obtain⟨⟨VA,vn,vc,rfl⟩,⟨EA,en,ec,rfl⟩⟩:=id g10.vs;obtain⟨z0,z1,z2,z3,z6,hrd⟩:=id g10.rd;refine qvl g10.mem hrd rfl rfl (zw ?_);refine StoreA.mem (hm2.call g10.mem.ext) (i:=0) rfl (Ar 7) (tag7 g10.vs _ _ _ _ _) fun w9 hm9=>zw ?_;refine qh (R:=fun v w'=>TagV l v/\Ext w w') (zw ?_);refine zl hm9 0 ?_;exact⟨⟨_,_,_,_,_,_,_,tag7 ⟨⟨_,_,_,rfl⟩,⟨_,_,_,rfl⟩⟩ _ _ _ _ _,by rw[qlr ⟨_,e1,hend.2 ⟨hp,Dz.1 Oo⟩⟩];rfl⟩,hm9.ext⟩
namespace V
theorem AppV.one{P:Ev}{w0 w:Et}{A:oA}{c n nb:Nat}{xs:Ez}{L:Ey}{t ty e:Ew}{i:TypeInfo}{z x:Value}{K:Value->Et->Prop}(ht:P.underlying t=some (.slice e))(hi:P.info? e=some i)(hz:i.zero=some z)(hsize:i.size=1)(hzs:z.cells.size=1)(hby:i.bytes<=16)(h:Rw w0 w (.slice A n c) e 1 n xs ((nb,.cells #[x] e)::L))(hx:x.oneCell'=true)(hn:n+1<=8000000000000)(hk:∀A' c' w',Rw w0 w' (.slice A' (n+1) c') e 1 (n+1) (xs++[x]) L->K (.slice A' (n+1) c') w'):AppV P #[t,t] ty (.slice A n c) (.slice (some ⟨nb,0,none⟩) 1 1) w K:=by
 refine AppV.rw (news:=[x]) ht hi hz hsize hzs Od h rfl (fun _=>⟨nb,0,rfl,fun k v hv=>?_⟩) (fun u hu=>by simp at hu;rw[hu];exact hx) ?_ Oo (fun A' c' w' h'=>hk A' c' w' h'.tail)
 ·rw[qa (h.mem.get mh),AC]
  simpa using hv
 ·have:(n+1)*i.bytes<=8000000000000*16:=BW hn hby;omega
theorem Rw.ints{w0 w:Et}{A:oA}{c:Nat}{e:Ew}{zs:List Int}{L:Ey}(h:Rw w0 w (.slice A zs.length c) e 1 zs.length (zs.map (Value.int .i64)) L):SlAt zeI 1 w A zs:=by
 refine⟨fun hne=>?_⟩;obtain⟨g,rfl,_,_,_,hc⟩:=h.cells (Cd.2 hne);refine⟨g,0,rfl,fun j x hx k v hv=>?_⟩;cases k with
 | succ k=>simp[zeI]at hv
 | zero=>
  simp only[zeI,BA,B4]at hv;subst hv;have:=hc j (ii x) (by rw[Au,hx];rfl)
  simpa using this
theorem oneI(l:List Int):∀v∈l.map (Value.int .i64),v.oneCell'=true:=by
 intro v hv;obtain⟨x,_,rfl⟩:=Bc.1 hv;rfl
end V
def rP:List (Int×Int):=(65,90)::(97,122)::basesP
def rbI:List Int:=rP.flatMap fun x=>[x.1,x.2]
theorem qaed:∀i (h:i<rP.length),(rbI.map (Value.int .i64))[i*2]?=some (ii rP[i].1)/\(rbI.map (Value.int .i64))[i*2+1]?=some (ii rP[i].2):=by
 intro i h;have h:i<14:=h;obtain rfl|rfl|rfl|rfl|rfl|rfl|rfl|rfl|rfl|rfl|rfl|rfl|rfl|rfl:i=0\/i=1\/i=2\/i=3\/i=4\/i=5\/i=6\/i=7\/i=8\/i=9\/i=10\/i=11\/i=12\/i=13:=by omega
 all_goals exact⟨rfl,rfl⟩
theorem q1n(r:Int):rP.any (inP r)=qjm r:=by
 show(inP r (65,90)||(inP r (97,122)||basesP.any (inP r)))=qjm r;have:letN r=(inP r (65,90)||inP r (97,122)):=by
  rw[AX];simp[letN,inP];omega
 rw[qjm,this,Bool.or_assoc]
theorem V.buildV_arr{P:Ev}{t e:Ew}{n:Nat}{i:TypeInfo}{z:Value}{parts:List (Nat×Value)}{l:Ez}{K:Value->Prop}(hi:P.info? t=some i)(hz:i.zero=some z)(hu:P.underlying t=some (.array n e))(hT:hasT P e=true)(hf:qp9 (fun k=>some (k*tsz P e,tsz P e)) z.cells.toList parts=some l)(hk:K (.agg l.toArray)):qmd P t parts K:=by
 unfold qmd;simp only[hi,hz,hu,hT,hf,cond_true,qai];exact hk
namespace V
section
variable {P:Ev} {n:Nat} {ρ:Nat->Value} {w:Et}
theorem q7y{a b:Code}{Q:Exit->(Nat->Value)->Et->Prop}(h:qe2 P n a (seqQ (qe2 P n b Q) Q) ρ w):qe2 P n (.seq a b) Q ρ w:=h
theorem qrs{id:Nat}{ops:Array Oper}{Q:Exit->(Nat->Value)->Et->Prop}(h:regV P n ops.toList (Q .normal) ops.toList ρ w):qe2 P n (.region id ops false) Q ρ w:=h
theorem qadw{ops:List Oper}{Q:(Nat->Value)->Et->Prop}(h:Q ρ w):regV P n ops Q [] ρ w:=h
theorem qty{ops rest:List Oper}{o:Oper}{Q:(Nat->Value)->Et->Prop}(hg:o.guard=none)(h:opV P o ρ w fun v w'=>putV n o.dst ρ v fun ρ'=>regV P n ops Q rest ρ' w'):regV P n ops Q (o::rest) ρ w:=by
 unfold regV;rw[hg];exact h
theorem q20{K:(Nat->Value)->Et->Prop}{Q:Exit->(Nat->Value)->Et->Prop}(h:K ρ w):seqQ K Q .normal ρ w:=h
theorem q7x{d:Nat}{v:Value}{K:(Nat->Value)->Prop}(hd:Nat.blt d n=true)(h:K (upd ρ d v)):putV n (some d) ρ v K:=by
 unfold putV;simp only[hd,cond_true];exact h
theorem q6k{o:Oper}{t:Ew}{K:Value->Et->Prop}(ho:o.op=.alloc t)(h:qt8 P t w K):opV P o ρ w K:=by
 unfold opV;rw[ho];exact h
theorem q6m{o:Oper}{t:Ew}{x v:Operand}{K:Value->Et->Prop}(ho:o.op=.store t x v)(h:qv1 P t (ev ρ x) (ev ρ v) w (execOp (ev ρ) o) K):opV P o ρ w K:=by
 unfold opV;rw[ho];exact h
theorem q6l{t:Ew}{parts:Array (Nat×Operand)}{K:Value->Et->Prop}{dst:Option Tmp}{ty:Ew}{pos:String}{aft:Array Edge}{gd:Option (Nat×Bool)}(h:qmd P t (evp ρ parts.toList) fun v=>K v w):
  opV P { dst:=dst,op:=.build t parts,type:=ty,pos:=pos,after:=aft,guard:=gd } ρ w K:=h
end
end V
theorem arrI:(E4.info? 391).isSome=true:=by kernel_rfl
theorem arrZ:((E4.info? 391).get arrI).zero=some (.agg (Array.replicate 28 (ii 0))):=by kernel_rfl
theorem arrF(ρ:Nat->Value):qp9 (fun k=>some (k*tsz E4 3,tsz E4 3)) (Value.cells (.agg (Array.replicate 28 (ii 0)))).toList (evp ρ (rbI.zipIdx.map fun x=>(x.2,Operand.const (ii x.1))))=some (rbI.map (Value.int .i64)):=by kernel_rfl
theorem qq6(w:Et):Gv E4 298 [] w fun v w'=>v=.agg (rbI.map (Value.int .i64)).toArray/\Ext w w':=by
 refine gv Jk Tryz.func298 rfl Tryz.ntmps298 rfl ?_;refine q7y (qrs ?_);refine qty rfl ?_;refine q6k rfl (zw ?_);refine znm (Mem.nil w) ?_;intro b w1 hm;dsimp only
 with_reducible refine q7x (d:=0) ?_ ?_
 ·exact rfl
 try dsimp only
 with_reducible refine qadw ?_
 with_reducible refine q20 ?_
 with_reducible refine q7y ?_
 with_reducible refine qrs ?_
 with_reducible refine qty ?_ ?_
 ·exact rfl
 with_reducible refine q6l ?_
 with_reducible refine V.buildV_arr (e:=3) (n:=28) (i:=(E4.info? 391).get arrI) (z:=.agg (Array.replicate 28 (ii 0))) (l:=rbI.map (Value.int .i64)) ?_ ?_ Tryz.underlying391 ?_ ?_ ?_
 ·exact(Bp _).symm
 ·exact arrZ
 ·kernel_rfl
 ·exact arrF _
 dsimp only
 with_reducible refine q7x (d:=1) ?_ ?_
 ·exact rfl
 try dsimp only
 with_reducible refine qty ?_ ?_
 ·exact rfl
 refine q6m (by rfl) (zw ?_);refine StoreA.mem (vs:=rbI.map (Value.int .i64)) hm (i:=0) rfl (Ar 28) (oneI _) fun w2 hm2=>zw ?_;refine qh (R:=fun v w'=>v=.agg (rbI.map (Value.int .i64)).toArray/\Ext w w') (zw ?_);refine zL hm2 0 ?_;rw[qai];exact⟨rfl,hm2.ext⟩
theorem qkf{w0 w:Et}{b:Nat}{vs:Ez}{t:Ew}{fr:Nat×Nat}{L:Ey}(h:Mem w0 w ((b,.cells vs.toArray t fr)::L)):CellsAt w b 0 vs:=by
 intro k v hv;rw[qa (h.get mh),AC]
 simpa using hv
theorem qsw(r:Int)(w:Et):Gv E4 243 [ii r] w fun v w'=>v=.bool (qjm r)/\Ext w w':=by
 refine ze Tryz.func243 Tryz.ntmps243 ?_;refine zcv (qq6 w) ?_;rintro v w1 ⟨rfl,he⟩;(conv=>whnf);refine znm ((Mem.nil w).call he) fun b w2 hm=>zw ?_;refine StoreA.mem (vs:=rbI.map (Value.int .i64)) hm (i:=0) rfl (Ar 28) (oneI _) fun w3 hm=>zw ?_;refine qj (fun i:Nat=>[(0,ii r),(3,pp b),(4,ii (i*2:Nat))]) (fun i w4=>i<=14/\(rP.take i).any (inP r)=false/\Mem w w4 [(b,.cells (rbI.map (Value.int .i64)).toArray 391)]) (fun i=>14-i) 0 ⟨rfl,rfl,rfl,trivial⟩ ⟨by omega,rfl,hm⟩ ?_;rintro i w4 ρ' ⟨h1,h2,hm⟩;(conv=>whnf);refine zC (fun _=>zu ?_) (fun _=>zu ?_)
 ·have hi:i<rP.length:=show i<14 by omega
  obtain⟨b1,b2⟩:=qaed i hi;have hany:∀c,inP r rP[i]=c->(rP.take (i+1)).any (inP r)=c:=fun c hc=>by
   rw[Bo hi,Ed,h2,DX,hc];simp
  refine LoadV.of (qyz (qkf hm _ _ b1)) (zw ?_);refine zC (fun _=>zu ?_) (fun _=>zu ?_)
  ·refine⟨i*2+1,by omega,by omega,?_⟩;refine zu ?_;refine LoadV.of (quj (qkf hm _ _ b2)) (zw ?_);refine zt ?_;refine zC (fun _=>zu ?_) (fun _=>zu ?_)
   ·refine⟨Af Value.bool ?_,hm.ext⟩;rw[<-q1n];exact(Em.2 ⟨rP[i],AT hi,by simp[inP];omega⟩).symm
   ·exact⟨i+1,⟨rfl,rfl,Af (Value.int .i64) Oo,trivial⟩,⟨by omega,hany _ (by simp[inP];omega),hm⟩,by omega⟩
  ·exact⟨i+1,⟨rfl,rfl,Af (Value.int .i64) Oo,trivial⟩,⟨by omega,hany _ (by simp[inP];omega),hm⟩,by omega⟩
 ·refine⟨Af Value.bool ?_,hm.ext⟩;rw[<-q1n,<-h2,AE (show 14<=i by omega)]
theorem qgh(r:Int)(w:Et):Gv E4 190 [ii r] w fun v w'=>v=.bool (qgl r)/\Ext w w':=by
 refine ze Tryz.func190 Tryz.ntmps190 ?_;refine zcv (qsw r w) ?_;rintro v w1 ⟨rfl,he⟩;(conv=>whnf);unfold qgl;cases qjm r
 ·refine zv ?_
  all_goals(refine⟨Af Value.bool ?_,he⟩;rw[AX];simp;try omega)
 ·refine zv ?_
  all_goals(refine⟨Af Value.bool ?_,he⟩;rw[AX];simp;try omega)
theorem qht(r:Int)(w:Et):Gv E4 191 [ii r] w fun v w'=>v=.bool (digN r)/\w'=w:=by
 refine ze Tryz.func191 Tryz.ntmps191 ?_;refine zC (fun _=>zu ?_) (fun _=>zu ?_)
 all_goals(refine⟨Af Value.bool ?_,rfl⟩;rw[AX];simp[digN];try omega)
theorem qk8(r:Int)(w:Et):Gv E4 244 [ii r] w fun v w'=>v=.bool (qds r)/\Ext w w':=by
 refine ze Tryz.func244 Tryz.ntmps244 ?_;refine zcv (qgh r w) ?_;rintro v w1 ⟨rfl,he⟩;(conv=>whnf);unfold qds;cases qgl r
 ·refine zt ?_;refine zC (fun _=>zu ?_) (fun _=>zu ?_)
  all_goals try (
   refine zcv (qht r w1) ?_;rintro v w2 ⟨rfl,rfl⟩;(conv=>whnf))
  all_goals cases hd:digN r
  all_goals(repeat'(first|refine zp ?_|refine zC (fun _=>zw ?_) (fun _=>zw ?_)))
  all_goals(refine⟨Af Value.bool ?_,he⟩;rw[AX];simp;try omega)
 ·refine zv ?_
  all_goals(refine⟨Af Value.bool ?_,he⟩;rw[AX];simp;try omega)
theorem qs7(s:Eu)(hs:s.size<=4000000000000)(w:Et):
  Gv E4 189 [.string s] w fun v w'=>((scal s.data.toList=none/\v=.tuple #[.slice none 0 0,.bool false])\/
   (∃l A c,scal s.data.toList=some l/\v=.tuple #[.slice A l.length c,.bool true]/\SlAt zeI 1 w' A (l.map Int.ofNat)/\l.length<=s.size))/\Ext w w':=by
 refine ze Tryz.func189 Tryz.ntmps189 ?_;refine qj (fun x:Nat×List Int×oA×Nat=>[(0,.string s),(4,.slice x.2.2.1 x.2.1.length x.2.2.2),(5,ii x.1)])
  (fun x w2=>x.1<=s.size/\x.2.1.length<=x.1/\Rw w w2 (.slice x.2.2.1 x.2.1.length x.2.2.2) 3 1 x.2.1.length (x.2.1.map (Value.int .i64)) []/\(scal s.data.toList).map (·.map Int.ofNat)=(scal (s.data.toList.drop x.1)).map fun l=>x.2.1++l.map Int.ofNat)
  (fun x=>s.size-x.1) (0,[],none,0) ⟨rfl,rfl,rfl,trivial⟩ ⟨by simp,by simp,Rw.nil (Mem.nil w),by simp⟩ ?_
 rintro⟨i,zs,B,d⟩ w2 ρ' ⟨h1,h2,hR,h3⟩;simp only at h1 h2 hR h3;dsimp only;(conv=>whnf);refine zC (fun _=>zw ?_) (fun _=>zw ?_)
 ·refine zcv (qk9 s i Oo Oo w2) ?_;rintro v w3 ⟨rfl,he⟩;have hle:=qid (s.data.toList.drop i);rw[qeb]at hle;have hR3:=hR.call he;(conv=>whnf);refine zC (fun _=>zw ?_) (fun _=>zw ?_)
  ·refine⟨.inl ⟨?_,rfl⟩,hR3.mem.ext⟩;rw[qhx (qig s i Oo) Oo]at h3;cases hsc:scal s.data.toList with
   | none=>rfl
   | some l=>rw[hsc]at h3;cases h3
  ·refine NewV.rw hR3 fun nb w4 hR4=>zw ?_;refine AppV.one (i:=_) (z:=ii 0) Tryz.underlying38 (Bp Jk).symm Jk Jk rfl (by decide +kernel) hR4 rfl Oo ?_;intro B' d' w5 hR5;refine zu ?_;refine⟨(i+(decN (s.data.toList.drop i)).2,zs++[((decN (s.data.toList.drop i)).1:Int)],B',d'),⟨rfl,by simp only[zla];rfl,rfl,trivial⟩,⟨by simp only;omega,by simp only[zla,Bh];omega,?_,?_⟩,by simp only;omega⟩
   ·simp only[zla,Bh,AG,AW,BP];exact hR5
   ·simp only;rw[h3,qfk (qig s i Oo) Oo,AP];cases scal (s.data.toList.drop (i+(decN (s.data.toList.drop i)).2))with
    | none=>rfl
    | some l=>simp
 ·refine⟨?_,hR.mem.ext⟩;rw[Bf Ys,scal]at h3;cases hsc:scal s.data.toList with
  | none=>rw[hsc]at h3;cases h3
  | some l=>
   rw[hsc]at h3;simp at h3;subst h3;refine .inr ⟨l,B,d,rfl,by simp,?_,by simpa using Bd h2 h1⟩;exact hR.ints
theorem qc1{q:Ex->Bool}(s:Eu)(p:Nat)(hp:p<s.size):(s.data.toList.take (p+1)).all q=((s.data.toList.take p).all q&&q (gb s p)):=by
 rw[qn2 (by simpa using hp),DI];simp[gb]
def digA(s:Eu):Bool:=s.data.toList.all fun c=>digN c.toNat
def letA(s:Eu):Bool:=s.data.toList.all fun c=>letN c.toNat
theorem qy8{s:Eu}{i:Nat}(hi:i<s.size)(h:digN (gb s i).toNat=false):digA s=false:=by
 rw[digA,D7];exact⟨gb s i,by rw[gb,Ah,zge (by simpa using hi)];exact AT _,by simpa using h⟩
theorem q9j{s:Eu}{i:Nat}(hi:i<s.size)(h:letN (gb s i).toNat=false):letA s=false:=by
 rw[letA,D7];exact⟨gb s i,by rw[gb,Ah,zge (by simpa using hi)];exact AT _,by simpa using h⟩
theorem qff(s:Eu)(hs:s.size<=140737488355328)(w:Et):Gv E4 300 [.string s] w fun v w'=>v=.bool (digA s)/\w'=w:=by
 refine ze Tryz.func300 Tryz.ntmps300 ?_;refine qj (fun i:Nat=>[(0,.string s),(3,ii i)]) (fun i w1=>i<=s.size/\(s.data.toList.take i).all (fun c=>digN c.toNat)=true/\w1=w) (fun i=>s.size-i) 0 ⟨rfl,rfl,trivial⟩ ⟨by omega,rfl,rfl⟩ ?_;rintro i w1 ρ' ⟨h1,h2,rfl⟩;conv=>whnf
 (repeat'(first|refine zp ?_|refine zC (fun _=>zw ?_) (fun _=>zw ?_)))
 ·exact⟨by rw[qy8 (i:=i) Oo (by simp[digN];omega)],rfl⟩
 ·exact⟨by rw[qy8 (i:=i) Oo (by simp[digN];omega)],rfl⟩
 ·exact⟨i+1,⟨rfl,rfl,trivial⟩,⟨by omega,by rw[qc1 s i Oo,h2];simp[digN];omega,rfl⟩,by omega⟩
 ·rw[AE Ys]at h2;exact⟨by rw[digA,h2],rfl⟩
theorem qkr(s:Eu)(hs:s.size<=140737488355328)(w:Et):Gv E4 301 [.string s] w fun v w'=>v=.bool (letA s)/\w'=w:=by
 refine ze Tryz.func301 Tryz.ntmps301 ?_;refine qj (fun i:Nat=>[(0,.string s),(3,ii i)]) (fun i w1=>i<=s.size/\(s.data.toList.take i).all (fun c=>letN c.toNat)=true/\w1=w) (fun i=>s.size-i) 0 ⟨rfl,rfl,trivial⟩ ⟨by omega,rfl,rfl⟩ ?_;rintro i w1 ρ' ⟨h1,h2,rfl⟩;conv=>whnf
 (repeat'(first|refine zp ?_|refine zC (fun _=>zw ?_) (fun _=>zw ?_)))
 all_goals first
  | exact⟨by rw[q9j (i:=i) Oo (by simp[letN];omega)],rfl⟩
  | exact⟨i+1,⟨rfl,rfl,trivial⟩,⟨by omega,by rw[qc1 s i Oo,h2];simp[letN];omega,rfl⟩,by omega⟩
  | (rw[AE Ys]at h2;exact⟨by rw[letA,h2],rfl⟩)
theorem q06{s:Eu}{i:Nat}(h:i<s.size):(s.extract i (i+1)).data.toList=[gb s i]:=by
 have:(s.extract i (i+1)).data.toList=(s.data.toList.drop i).take 1:=by
  rw[Dc,Array.toList_extract,List.extract_eq_take_drop,CZ]
 rw[this,qay s i h];rfl
theorem qvg{s:Eu}{i:Nat}(h:i<s.size):(s.extract i (i+1)).size=1:=by
 rw[Cv];omega
theorem q97{s:Eu}{i:Nat}(h:i<s.size):letA (s.extract i (i+1))=letN (gb s i).toNat:=by rw[letA,q06 h];simp
theorem q05{s:Eu}{i:Nat}(h:i<s.size):digA (s.extract i (i+1))=digN (gb s i).toNat:=by rw[digA,q06 h];simp
theorem q40{s:Eu}{lo hi i:Nat}{p:Bool}(hi':i<s.size)(h:alnB p (gb s i)=false):q6 s lo hi p=false:=by
 have:s.data.toList.all (alnB p)=false:=by
  rw[D7];exact⟨gb s i,by rw[gb,Ah,zge (by simpa using hi')];exact AT _,by simpa using h⟩
 rw[q6,this];rfl
theorem qg3(s:Eu)(lo hi:Nat)(hs:s.size<=140737488355328)(w:Et):Gv E4 251 [.string s,ii lo,ii hi] w fun v w'=>v=.bool (q6 s lo hi false)/\w'=w:=by
 refine ze Tryz.func251 Tryz.ntmps251 ?_;refine qj (fun i:Nat=>[(0,.string s),(1,ii lo),(2,ii hi),(7,ii i)]) (fun i w1=>i<=s.size/\(s.data.toList.take i).all (alnB false)=true/\w1=w) (fun i=>s.size-i) 0 ⟨rfl,rfl,rfl,rfl,trivial⟩ ⟨by omega,rfl,rfl⟩ ?_;rintro i w1 ρ' ⟨h1,h2,rfl⟩;conv=>whnf
 (repeat'(first|refine zp ?_|refine zC (fun _=>zw ?_) (fun _=>zw ?_)))
 ·have hi:i<s.size:=by omega
  have hsz:=qvg hi;refine⟨i,i+1,rfl,rfl,by omega,by omega,?_⟩;(conv=>whnf);refine zcv (qkr (s.extract i (i+1)) Oo w1) ?_;rintro v w2 ⟨rfl,rfl⟩;rw[q97 hi];cases hl:letN (gb s i).toNat
  ·refine zu ?_;refine⟨i,i+1,rfl,rfl,by omega,by omega,?_⟩;refine zu ?_;refine zcv (qff (s.extract i (i+1)) Oo w2) ?_;rintro v w3 ⟨rfl,rfl⟩;rw[q05 hi];cases hd:digN (gb s i).toNat
   ·refine zu ?_;exact⟨by rw[q40 hi (by rw[alnB,hl,hd];rfl)],rfl⟩
   ·refine zu ?_;exact⟨i+1,⟨rfl,rfl,rfl,rfl,trivial⟩,⟨by omega,by rw[qc1 s i hi,h2,alnB,hl,hd];rfl,rfl⟩,by omega⟩
  ·refine zu ?_;exact⟨i+1,⟨rfl,rfl,rfl,rfl,trivial⟩,⟨by omega,by rw[qc1 s i hi,h2,alnB,hl];rfl,rfl⟩,by omega⟩
 all_goals
  rw[AE Ys]at h2;have hM:q6 s lo hi false=decide (lo<=s.size/\s.size<=hi):=by rw[q6,h2];rfl
 ·exact⟨Af Value.bool (by rw[hM,AX];simp;omega),rfl⟩
 ·exact⟨Af Value.bool (by rw[hM,eq_comm,decide_eq_false_iff_not];omega),rfl⟩
theorem ql2(s:Eu)(hs:s.size<=140737488355328)(w:Et):Gv E4 250 [.string s] w fun v w'=>v=.bool (varB s)/\w'=w:=by
 refine ze Tryz.func250 Tryz.ntmps250 ?_;refine zcv (qg3 s 5 8 hs w) ?_;rintro v w1 ⟨rfl,rfl⟩;cases m1:q6 s 5 8 false
 ·refine zu ?_;refine zcv (qg3 s 4 4 hs w1) ?_;rintro v w2 ⟨rfl,rfl⟩;cases m2:q6 s 4 4 false
  ·refine zu ?_;exact⟨by rw[varB,m1,m2];rfl,rfl⟩
  ·have hsz:s.size=4:=by
    simp[q6]at m2;omega
   have h1:=qvg (s:=s) (i:=0) Oo;refine zu ?_;refine⟨0,1,rfl,rfl,by omega,by omega,?_⟩;refine zu ?_;refine zcv (qff (s.extract 0 1) (by show(s.extract 0 (0+1)).size<=_;omega) w2) ?_;rintro v w3 ⟨rfl,rfl⟩;refine zu ?_;exact⟨by rw[varB,m1,m2,q05 (s:=s) (i:=0) Oo];rfl,rfl⟩
 ·refine zu ?_;exact⟨by rw[varB,m1];rfl,rfl⟩
def glue(cur:LB):List LB->List LB
 | []=>[]
 | p::ps=>(cur++p)::ps
theorem qk5:∀l:LB,∃p ps,qbr l=p::ps
 | []=>⟨_,_,rfl⟩
 | c::t=>by
  unfold qbr
  split
  ·exact⟨_,_,rfl⟩
  ·split<;>exact⟨_,_,rfl⟩
theorem qzt(cur t:LB):glue cur (qbr (45::t))=[cur]++glue [] (qbr t):=by
 obtain⟨p,ps,h⟩:=qk5 t;rw[qbr,Ad rfl,h];simp[glue]
theorem qzu(cur t:LB){c:Ex}(hc:c≠45):glue cur (qbr (c::t))=glue (cur++[c]) (qbr t):=by
 obtain⟨p,ps,h⟩:=qk5 t;rw[qbr,Aa hc,h];simp[glue]
theorem qnt(s:Eu)(a b:Nat):(s.extract a b).data.toList=(s.data.toList.drop a).take (b-a):=by
 rw[Dc,Array.toList_extract,List.extract_eq_take_drop]
theorem qnp:∀{l m:List Eu},l.map (·.data.toList)=m.map (·.data.toList)->l=m
 | [],[],_=>rfl
 | [],_::_,h=>by simp at h
 | _::_,[],h=>by simp at h
 | a::l,b::m,h=>by
  simp only[AW,List.cons.injEq]at h;obtain⟨h1,h2⟩:=h;obtain⟨⟨a⟩⟩:=a;obtain⟨⟨b⟩⟩:=b;simp only at h1;rw[h1,qnp h2]
theorem qx7:E4.underlying 140=some (.slice 9):=Tryz.underlying140
theorem qra(s:Eu)(hs:s.size<=1000000)(w:Et):
  Gv E4 245 [.string s] w fun v w'=>∃A c,v=.slice A (qbd s).length c/\Rw w w' (.slice A (qbd s).length c) 9 1 (qbd s).length ((qbd s).map Value.string) []:=by
 obtain⟨L,hL⟩:∃L,L=s.data.toList:=⟨_,rfl⟩
 have hLl:L.length=s.size:=by rw[hL];simp
 have fin:∀done:List Eu,qbr L=done.map (·.data.toList)->done=qbd s:=fun done h=>qnp (by rw[<-h,hL,qk6])
 refine ze Tryz.func245 Tryz.ntmps245 ?_;refine qj (fun x:Nat×Nat×List Eu×oA×Nat=>[(0,.string s),(3,.slice x.2.2.2.1 x.2.2.1.length x.2.2.2.2),(4,ii x.2.1),(5,ii x.1)])
  (fun x w2=>x.1<=s.size/\x.2.1<=x.1/\x.2.2.1.length<=x.1/\Rw w w2 (.slice x.2.2.2.1 x.2.2.1.length x.2.2.2.2) 9 1 x.2.2.1.length (x.2.2.1.map Value.string) []/\
   qbr L=x.2.2.1.map (·.data.toList)++glue ((L.drop x.2.1).take (x.1-x.2.1)) (qbr (L.drop x.1)))
  (fun x=>s.size-x.1) (0,0,[],none,0) ⟨rfl,rfl,rfl,rfl,trivial⟩ ⟨by simp,by simp,by simp,Rw.nil (Mem.nil w),by
   obtain⟨p,ps,h⟩:=qk5 L;simp[glue,h]⟩ ?_
 rintro⟨i,fr,done,B,d⟩ w2 ρ' ⟨h1,h2,h3,hR,h4⟩;simp only at h1 h2 h3 hR h4;dsimp only;conv=>whnf
 (repeat'(first|refine zp ?_|refine zC (fun _=>zw ?_) (fun _=>zw ?_)))
 ·have hi:i<s.size:=by omega
  have hdrop:L.drop i=gb s i::L.drop (i+1):=by rw[hL];exact qay s i hi
  rw[hdrop,show gb s i=45 by rw[<-D3];show _=45;omega,qzt]at h4;refine⟨fr,i,rfl,rfl,by omega,by omega,?_⟩;(conv=>whnf);refine NewV.rw hR fun nb w4 hR4=>zw ?_;refine AppV.one qx7 strI strZ Jk rfl (by decide +kernel) hR4 rfl Oo ?_;intro B' d' w5 hR5;refine zu ?_;refine⟨(i+1,i+1,done++[s.extract fr i],B',d'),⟨rfl,by simp only[zla];rfl,rfl,rfl,trivial⟩,⟨by simp only;omega,by simp only;omega,by simp;omega,?_,?_⟩,by simp only;omega⟩
  ·simp only[zla,Bh,AG,AW,BP];exact hR5
  ·simp only[AG,AW,BP,qnt,CJ,B8];rw[h4,<-hL,Ag]
 ·have hi:i<s.size:=by omega
  have hdrop:L.drop i=gb s i::L.drop (i+1):=by rw[hL];exact qay s i hi
  have hc:gb s i≠45:=fun e=>by
   have:(gb s i).toNat=45:=by rw[e];rfl
   omega
  rw[hdrop,qzu _ _ hc]at h4;refine⟨(i+1,fr,done,B,d),⟨rfl,rfl,rfl,rfl,trivial⟩,⟨by simp only;omega,by simp only;omega,by simp only;omega,hR,?_⟩,by simp only;omega⟩;simp only;rw[h4]
  congr 2
  have e:i+1-fr=(i-fr)+1:=by omega
  rw[e,BU]
  congr 1
  rw[Cm,show fr+(i-fr)=i by omega];have:=Af List.head? hdrop;rw[List.head?_drop]at this;rw[this];rfl
 ·rw[Bf (show L.length<=i by omega)]at h4;refine⟨fr,s.size,rfl,rfl,by omega,by omega,?_⟩;(conv=>whnf);refine NewV.rw hR fun nb w4 hR4=>zw ?_;refine AppV.one qx7 strI strZ Jk rfl (by decide +kernel) hR4 rfl Oo ?_;intro B' d' w5 hR5;(conv=>whnf);have hd:=fin (done++[s.extract fr s.size]) (by
   rw[h4];simp only[AG,AW,BP,qnt,<-hL,show i=s.size by omega];simp[glue,qbr])
  rw[<-hd];have hR6:Rw w w5 (.slice B' (done++[s.extract fr s.size]).length d') 9 1 (done++[s.extract fr s.size]).length ((done++[s.extract fr s.size]).map Value.string) []:=by
   simp only[zla,Bh,AG,AW,BP];exact hR5
  exact⟨B',d',by rw[zla];rfl,hR6⟩
def jn:List Eu->LB
 | []=>[]
 | x::xs=>x.data.toList++xs.flatMap fun y=>45::y.data.toList
theorem q9d(l:List Eu)(x:Eu):jn (l++[x])=if l=[]then x.data.toList else jn l++([45]++x.data.toList):=by
 cases l with
 | nil=>simp[jn]
 | cons y ys=>simp[jn]
theorem qun:∀(l:List Eu),(∀x∈l,x.size<=1000000)->(l.flatMap fun y=>(45:Ex)::y.data.toList).length<=l.length*1000001
 | [],_=>by simp
 | x::l,h=>by
  have:=qun l fun y hy=>h y (zmc hy)
  have hx:=h x mh;have e:x.data.toList.length=x.size:=by simp
  rw[List.flatMap_cons,zla,Aw,Aw,e];omega
theorem qach(l:List Eu)(h:∀x∈l,x.size<=1000000):(jn l).length<=l.length*1000001:=by
 cases l with
 | nil=>simp[jn]
 | cons x l=>
  have:=qun l fun y hy=>h y (zmc hy)
  have hx:=h x mh;have e:x.data.toList.length=x.size:=by simp
  rw[jn,zla,Aw,e];omega
theorem qfx(l:List Eu)(A:oA)(c:Nat)(w:Et)(hS:SlAt V.zeS 1 w A l)(hx:∀x∈l,x.size<=1000000)(hn:l.length<=1000000):
  Gv E4 299 [.slice A l.length c] w fun v w'=>v=.string ⟨(jn l).toArray⟩/\Ext w w':=by
 refine ze Tryz.func299 Tryz.ntmps299 ?_;refine qj (fun x:Nat×oA×Nat=>[(0,.slice A l.length c),(3,.slice x.2.1 (jn (l.take x.1)).length x.2.2),(4,ii x.1)])
  (fun x w2=>x.1<=l.length/\Rw w w2 (.slice x.2.1 (jn (l.take x.1)).length x.2.2) 5 1 (jn (l.take x.1)).length (byteCells (jn (l.take x.1))) [])
  (fun x=>l.length-x.1) (0,none,0) ⟨rfl,rfl,rfl,trivial⟩ ⟨by simp,Rw.nil (Mem.nil w)⟩ ?_
 rintro⟨k,B,d⟩ w2 ρ' ⟨h1,hR⟩;simp only at h1 hR;dsimp only;have hlen:=qach (l.take k) (fun x hxx=>hx x (CU hxx));rw[AK]at hlen;conv=>whnf
 (repeat' refine zC (fun _=>zw ?_) (fun _=>zw ?_))
 ·have hk:k<l.length:=by omega
  refine NewV.rw hR fun nb w4 hR4=>zw ?_;refine AppV.one (i:=_) (z:=.int .u8 0) Tryz.underlying60 (Bp Jk).symm Jk Jk rfl (by decide +kernel) hR4 rfl Oo ?_;intro B' d' w5 hR5;(conv=>whnf);refine ElemV.sl (hS.ext hR5.mem.ext) rfl k rfl hk ?_;intro b off hc;refine LoadV.cell0 hc (zw ?_);have hxk:=hx _ (AT hk);refine AppV.rwS (i:=_) Tryz.underlying60 Tryz.underlying9 (Bp Jk).symm Jk Jk Jk hR5 (fun x hx c fz=>by simp at hx) Oo fun v' w6 hR6=>?_;obtain⟨A',c',rfl⟩:=hR6.slice;refine zu ?_;have e:jn (l.take (k+1))=jn (l.take k)++([45]++(l[k]).data.toList):=by
   rw[Bo hk,q9d,Aa (by intro e;have h9:=Af List.length e;rw[AK,BV]at h9;omega)]
  have el:(jn (l.take (k+1))).length=(jn (l.take k)).length+1+(l[k]).size:=by rw[e];simp;omega
  refine⟨(k+1,A',c'),⟨rfl,by simp only[el];rfl,rfl,trivial⟩,⟨by simp only;omega,?_⟩,by simp only;omega⟩;simp only;rw[el,e,qbu,qbu,<-Ag];exact hR6
 ·have hk:k<l.length:=by omega
  obtain rfl:k=0:=by omega
  refine ElemV.sl (hS.ext hR.mem.ext) rfl 0 rfl hk ?_;intro b off hc;refine LoadV.cell0 hc (zw ?_);have hxk:=hx _ (AT hk);refine AppV.rwS (i:=_) Tryz.underlying60 Tryz.underlying9 (Bp Jk).symm Jk Jk Jk hR (fun x hx c fz=>by simp at hx) Oo fun v' w6 hR6=>?_;obtain⟨A',c',rfl⟩:=hR6.slice;refine zu ?_;have e:jn (l.take (0+1))=jn (l.take 0)++(l[0]).data.toList:=by
   rw[Bo hk];simp[jn]
  have el:(jn (l.take (0+1))).length=(jn (l.take 0)).length+(l[0]).size:=by rw[e];simp
  refine⟨(1,A',c'),⟨rfl,by simp only[el];rfl,rfl,trivial⟩,⟨by simp only;omega,?_⟩,by simp only;omega⟩;simp only;rw[show(1:Nat)=0+1 from rfl,el,e,qbu];exact hR6
 ·obtain rfl:k=l.length:=by omega
  rw[Bq]at hR|-;refine BytesS.rw hR (zw ?_);exact⟨rfl,hR.mem.ext⟩
theorem qe9{w0 w:Et}{L:Ey}{b off:Nat}{cs:E6}{t:Ew}{v:Value}{K:Et->Prop}(hm:Mem w0 w L)(hi:(b,Obj.cells cs t)∈L)(ho:off<cs.size)(h1:qcx v=true)(hk:∀w' L',Mem w0 w' L'->(b,Obj.cells (cs.setIfInBounds off v) t)∈L'->(∀y∈L,y.1≠b->y∈L')->K w'):StoreV w b off v K:=by
 obtain⟨i,hi⟩:=Bg.1 hi;exact StoreV.mem hm hi ho h1 fun w' h=>hk w' _ h (qfm hi).1 (qfm hi).2
theorem V.SliceV.tailA{A:oA}{g off n m c:Nat}{k:IntKind}{K:Value->Prop}(hA:A=some ⟨g,off,none⟩)(hn:n=m+1)(hc:n<=c)(hk:∀A' c',(m≠0->A'=some ⟨g,off+1,none⟩)->m<=c'->K (.slice A' m c')):SliceV 1 A n c (some (.int k 1)) none none K:=by
 subst hn hA;refine⟨1,m+1,c,rfl,rfl,rfl,by omega,by omega,by omega,fun h=>by simp at h,fun A' hA'=>?_⟩;have hk:=hk A' (c-1) (fun hne=>?_) Oo
 ·simpa using hk
 ·rw[Aa Oo]at hA';rw[hA'];show some ((⟨g,off,none⟩:Addr).add (1*1))=_;rw[qan]
structure RQ0(w0 w:Et)(O:E0)(rb tb:Nat)(rest:List Eu)(a0:Eu)(vs es:List Eu)(A:oA)(c:Nat)(X Y T4 T5:Value)(a1 a2 a3 a6:Eu)(L:Ey)(R2:List (Ez×Value)):Prop where
 mem:Mem w0 w L
 rd:(rb,Obj.cells #[.slice A rest.length c] 346)∈L
 tg:(tb,Obj.cells (tagC a0 a1 a2 a3 T4 T5 a6).toArray 278)∈L
 rows:RowsP 9 O L ((vs.map Value.string,X)::(es.map Value.string,Y)::R2)
 sl:rest≠[]->∃g cur off,A=some ⟨g,off,none⟩/\g∈O/\g≠rb/\g≠tb/\(g,Obj.cells cur 9)∈L/\∀(j:Nat) x,rest[j]?=some x->cur[off+j]?=some (Value.string x)
 hc:rest.length<=c
 hrb:rb∈O
 htb:tb∈O
 ne:rb≠tb
 all:∀g∈O,∃o,(g,o)∈L
 small:∀x∈rest,x.size<=1000000
def RQ(w0 w:Et)(O:E0)(rb tb:Nat)(rest:List Eu)(a0:Eu)(vs es:List Eu)(R2:List (Ez×Value)):Prop:=
 ∃A c X Y a1 a2 a3 a6 L,RQ0 w0 w O rb tb rest a0 vs es A c X Y X Y a1 a2 a3 a6 L R2
section
variable {w0 w w':Et} {O:E0} {rb tb:Nat} {rest:List Eu} {a0:Eu} {vs es:List Eu} {R2:List (Ez×Value)}
theorem RQ.call(h:RQ w0 w O rb tb rest a0 vs es R2)(he:Ext w w'):RQ w0 w' O rb tb rest a0 vs es R2:=by
 obtain⟨A,c,X,Y,a1,a2,a3,a6,L,h⟩:=h;exact⟨A,c,X,Y,a1,a2,a3,a6,L,{ h with mem:=h.mem.call he }⟩
theorem RQ.drew(h:RQ w0 w O rb tb rest a0 vs es R2):RQ w0 w.drew O rb tb rest a0 vs es R2:=h.call (Ext.refl w).drew
theorem RQ.ext(h:RQ w0 w O rb tb rest a0 vs es R2):Ext w0 w:=by
 obtain⟨A,c,X,Y,a1,a2,a3,a6,L,h⟩:=h;exact h.mem.ext
theorem RQ.small(h:RQ w0 w O rb tb rest a0 vs es R2):∀x∈rest,x.size<=1000000:=by
 obtain⟨A,c,X,Y,a1,a2,a3,a6,L,h⟩:=h;exact h.small
theorem RQ0.slAt{A:oA}{c:Nat}{X Y T4 T5:Value}{a1 a2 a3 a6:Eu}{L:Ey}(h:RQ0 w0 w O rb tb rest a0 vs es A c X Y T4 T5 a1 a2 a3 a6 L R2):SlAt V.zeS 1 w A rest:=by
 refine⟨fun hne=>?_⟩;obtain⟨g,cur,off,rfl,_,_,_,hg,hx⟩:=h.sl hne;refine⟨g,off,rfl,fun j x hj k v hv=>?_⟩;cases k with
 | succ k=>simp[V.zeS]at hv
 | zero=>
  simp only[V.zeS,BA,B4]at hv;subst hv;rw[qa (h.mem.get hg),BI,Be];exact hx j x hj
theorem RQ.ldr{K:Value->Prop}(h:RQ w0 w O rb tb rest a0 vs es R2)(hk:∀A c,SlAt V.zeS 1 w A rest->rest.length<=c->K (.slice A rest.length c)):LoadV w rb 0 K:=by
 obtain⟨A,c,X,Y,a1,a2,a3,a6,L,h⟩:=h;exact LoadV.own (h.mem.get h.rd) rfl (hk A c h.slAt h.hc)
theorem RQ.ld0{K:Value->Prop}(h:RQ w0 w O rb tb rest a0 vs es R2)(hk:K (.string a0)):LoadV w tb 0 K:=by
 obtain⟨A,c,X,Y,a1,a2,a3,a6,L,h⟩:=h;exact LoadV.own (h.mem.get h.tg) rfl hk
theorem RQ0.tag{A:oA}{c:Nat}{X Y T4 T5:Value}{a1 a2 a3 a6 b0 b1 b2 b3 b6:Eu}{L L':Ey}(h:RQ0 w0 w O rb tb rest a0 vs es A c X Y T4 T5 a1 a2 a3 a6 L R2)(hm:Mem w0 w' L')(ht:(tb,Obj.cells (tagC b0 b1 b2 b3 X Y b6).toArray 278)∈L')(hk:∀y∈L,y.1≠tb->y∈L'):RQ w0 w' O rb tb rest b0 vs es R2:=by
 refine⟨A,c,X,Y,b1,b2,b3,b6,L',hm,hk _ h.rd h.ne,ht,h.rows.keep fun y hy hO=>hk y hy fun e=>hO (e ▸ h.htb),fun hne=>?_,h.hc,h.hrb,h.htb,h.ne,fun g hg=>?_,h.small⟩
 ·obtain⟨g,cur,off,h1,h2,h3,h4,h5,h6⟩:=h.sl hne;exact⟨g,cur,off,h1,h2,h3,h4,hk _ h5 h4,h6⟩
 ·by_cases e:g=tb
  ·subst e;exact⟨_,ht⟩
  ·obtain⟨o,ho⟩:=h.all g hg;exact⟨o,hk _ ho e⟩
theorem RQ.st{K:Et->Prop}(h:RQ w0 w O rb tb rest a0 vs es R2){k:Nat}(hk:k=1\/k=2\/k=3\/k=6)(s:Eu)(hK:∀w',RQ w0 w' O rb tb rest a0 vs es R2->K w'):StoreV w tb k (.string s) K:=by
 obtain⟨A,c,X,Y,a1,a2,a3,a6,L,h⟩:=h;have hlt:k<(tagC a0 a1 a2 a3 X Y a6).toArray.size:=by simp[tagC];omega
 refine qe9 h.mem h.tg hlt rfl fun w' L' hm ht hkp=>hK w' ?_
 rcases hk with rfl|rfl|rfl|rfl
 all_goals exact h.tag hm ht hkp
theorem RQ.st0{K:Et->Prop}(h:RQ w0 w O rb tb rest a0 vs es R2)(s:Eu)(hK:∀w',RQ w0 w' O rb tb rest s vs es R2->K w'):StoreV w tb 0 (.string s) K:=by
 obtain⟨A,c,X,Y,a1,a2,a3,a6,L,h⟩:=h;exact qe9 h.mem h.tg (by simp[tagC]) rfl fun w' L' hm ht hkp=>hK w' (h.tag hm ht hkp)
end
section
variable {w0 w w':Et} {O:E0} {rb tb:Nat} {rest:List Eu} {a0:Eu} {vs es:List Eu} {R2:List (Ez×Value)} {X Y T4 T5:Value} {A:oA} {c:Nat} {a1 a2 a3 a6:Eu} {L L':Ey}
theorem RQ0.call(h:RQ0 w0 w O rb tb rest a0 vs es A c X Y T4 T5 a1 a2 a3 a6 L R2)(he:Ext w w'):RQ0 w0 w' O rb tb rest a0 vs es A c X Y T4 T5 a1 a2 a3 a6 L R2:={ h with mem:=h.mem.call he }
theorem RQ0.grow{X' Y':Value}{vs' es':List Eu}{R':List (Ez×Value)}(h:RQ0 w0 w O rb tb rest a0 vs es A c X Y T4 T5 a1 a2 a3 a6 L R2)(hm:Mem w0 w' L')(hR:RowsP 9 O L' ((vs'.map Value.string,X')::(es'.map Value.string,Y')::R'))(hk:∀y∈L,y.1∈O->y∈L'):RQ0 w0 w' O rb tb rest a0 vs' es' A c X' Y' T4 T5 a1 a2 a3 a6 L' R':=by
 refine⟨hm,hk _ h.rd h.hrb,hk _ h.tg h.htb,hR,fun hne=>?_,h.hc,h.hrb,h.htb,h.ne,fun g hg=>?_,h.small⟩
 ·obtain⟨g,cur,off,h1,h2,h3,h4,h5,h6⟩:=h.sl hne;exact⟨g,cur,off,h1,h2,h3,h4,hk _ h5 h2,h6⟩
 ·obtain⟨o,ho⟩:=h.all g hg;exact⟨o,hk _ ho hg⟩
theorem V.RowsP.nilrow{e:Ew}{R:List (Ez×Value)}(h:RowsP e O L R):RowsP e O L (R++[([],.slice none 0 0)]):=by
 have back:∀(k:Nat) p,(R++[([],Value.slice none 0 0)])[k]?=some p->R[k]?=some p\/p=([],.slice none 0 0):=fun k p hp=>by
  rw[D9]at hp
  split at hp
  ·exact .inl hp
  ·exact .inr (by have:=zmg hp;simpa using this)
 refine⟨fun k p hp=>?_,fun k p g hp hg=>?_,fun k k' p p' g hp hp' hne hg=>?_⟩
 ·rcases back k p hp with hp|rfl
  ·exact h.row k p hp
  ·exact RowB.nil e L
 ·rcases back k p hp with hp|rfl
  ·exact h.out k p g hp hg
  ·cases hg
 ·rcases back k p hp with hp|rfl
  ·rcases back k' p' hp' with hp' | rfl
   ·exact h.ap k k' p p' g hp hp' hne hg
   ·intro hg';cases hg'
  ·cases hg
theorem V.RowsP.newrow{e:Ew}{R:List (Ez×Value)}{x:Value}{b:Nat}(h:RowsP e O L R)(hb:∀y∈L,y.1≠b)(hO:b∉O):RowsP e O ((b,.cells #[x] e)::L) (R++[([x],.slice (some ⟨b,0,none⟩) 1 1)]):=by
 have back:∀(k:Nat) p,(R++[([x],Value.slice (some ⟨b,0,none⟩) 1 1)])[k]?=some p->R[k]?=some p\/(k=R.length/\p=([x],.slice (some ⟨b,0,none⟩) 1 1)):=fun k p hp=>by
  rw[D9]at hp
  split at hp
  ·exact .inl hp
  ·obtain⟨h1,h2⟩:=Ae.1 hp;simp at h1;have:k-R.length=0:=by omega
   refine .inr ⟨by omega,?_⟩
   simpa[this]using h2.symm
 have fresh:∀(k:Nat) p,R[k]?=some p->p.2.ownBlock≠some b:=fun k p hp hg=>by
  obtain⟨o,hin⟩:=(h.row k p hp).in_ hg;exact hb _ hin rfl
 refine⟨fun k p hp=>?_,fun k p g hp hg=>?_,fun k k' p p' g hp hp' hne hg=>?_⟩
 ·rcases back k p hp with hp|⟨_,rfl⟩
  ·exact(h.row k p hp).keep fun y hy _=>zmc hy
  ·exact⟨.inr ⟨b,1,#[x],rfl,AO ..,Ar _,by decide,rfl,rfl⟩⟩
 ·rcases back k p hp with hp|⟨_,rfl⟩
  ·exact h.out k p g hp hg
  ·cases hg;exact hO
 ·rcases back k p hp with hp|⟨e1,rfl⟩<;>rcases back k' p' hp' with hp' | ⟨e2,rfl⟩
  ·exact h.ap k k' p p' g hp hp' hne hg
  ·intro hg';cases hg';exact fresh k p hp hg
  ·cases hg;exact fresh k' p' hp'
  ·exact absurd (e1.trans e2.symm) hne
theorem V.RowsP.cut{e:Ew}{R R':List (Ez×Value)}(h:RowsP e O L (R++R')):RowsP e O L R:=by
 have up:∀(k:Nat) p,R[k]?=some p->(R++R')[k]?=some p:=fun k p hp=>by
  rw[AR (Ae.1 hp).1,hp]
 exact⟨fun k p hp=>h.row k p (up k p hp),fun k p g hp hg=>h.out k p g (up k p hp) hg,fun k k' p p' g hp hp' hne hg=>h.ap k k' p p' g (up k p hp) (up k' p' hp') hne hg⟩
theorem RQ.nilrow(h:RQ w0 w O rb tb rest a0 vs es []):RQ w0 w O rb tb rest a0 vs es [([],.slice none 0 0)]:=by
 obtain⟨A,c,X,Y,a1,a2,a3,a6,L,h⟩:=h;exact⟨A,c,X,Y,a1,a2,a3,a6,L,{ h with rows:=h.rows.nilrow }⟩
theorem RQ.cut(h:RQ w0 w O rb tb rest a0 vs es R2):RQ w0 w O rb tb rest a0 vs es []:=by
 obtain⟨A,c,X,Y,a1,a2,a3,a6,L,h⟩:=h;exact⟨A,c,X,Y,a1,a2,a3,a6,L,{ h with rows:=RowsP.cut (R:=[(vs.map Value.string,X),(es.map Value.string,Y)]) (R':=R2) h.rows }⟩
theorem NewV.rq{o:Obj}{K:Nat->Et->Prop}(h:RQ w0 w O rb tb rest a0 vs es R2)(hk:∀b w',RQ w0 w' O rb tb rest a0 vs es R2->w'.heap[b]?=some o->K b w'):NewV w o K:=
 ⟨fun b w' hb hw=>hk b w' (h.call (by subst hw;exact(Ext.refl w).alloc o)) (by subst hb hw;exact heap_alloc_new w o)⟩
theorem NewV.rq0{o:Obj}{K:Nat->Et->Prop}(h:RQ0 w0 w O rb tb rest a0 vs es A c X Y T4 T5 a1 a2 a3 a6 L R2)(hk:∀b w',RQ0 w0 w' O rb tb rest a0 vs es A c X Y T4 T5 a1 a2 a3 a6 L R2->w'.heap[b]?=some o->K b w'):NewV w o K:=
 ⟨fun b w' hb hw=>hk b w' (h.call (by subst hw;exact(Ext.refl w).alloc o)) (by subst hb hw;exact heap_alloc_new w o)⟩
theorem NewV.rqrow{x:Value}{K:Nat->Et->Prop}(h:RQ w0 w O rb tb rest a0 vs es [])(hk:∀b w',RQ w0 w' O rb tb rest a0 vs es [([x],.slice (some ⟨b,0,none⟩) 1 1)]->K b w'):NewV w (.cells #[x] 9) K:=by
 obtain⟨A,c,X,Y,a1,a2,a3,a6,L,h⟩:=h;refine⟨fun b w' hb hw=>hk b w' ?_⟩;have hlt:∀y∈L,y.1≠b:=fun y hy e=>by have:=h.mem.lt (o:=y.2) (b:=y.1) hy;omega
 have hO:b∉O:=fun hg=>by
  obtain⟨o,ho⟩:=h.all b hg;exact hlt _ ho rfl
 have hr:=RowsP.newrow (x:=x) h.rows hlt hO;exact⟨A,c,X,Y,a1,a2,a3,a6,_,h.grow (h.mem.new hb hw) hr fun y hy _=>zmc hy⟩
theorem RQ.appL{l:List Eu}{x:Eu}{nb:Nat}{B:oA}{d ty:Ew}{K:Value->Et->Prop}(h:RQ w0 w O rb tb rest a0 vs es [(l.map Value.string,.slice B l.length d)])(hb:w.heap[nb]?=some (.cells #[.string x] 9))(hl:l.length<=7000000000000)(hk:∀B' d' w',RQ w0 w' O rb tb rest a0 vs es [((l++[x]).map Value.string,.slice B' (l++[x]).length d')]->K (.slice B' (l.length+1) d') w'):AppV E4 #[140,140] ty (.slice B l.length d) (.slice (some ⟨nb,0,none⟩) 1 1) w K:=by
 obtain⟨A,c,X,Y,a1,a2,a3,a6,L,h⟩:=h;refine h.rows.app 2 rfl qx7 strI strZ Jk rfl (by decide +kernel) h.mem h.all Js rfl (by rw[qa hb];rfl) Oo ?_;intro B' d' w' L' hm hR hkp;refine hk B' d' w' ⟨A,c,X,Y,a1,a2,a3,a6,L',h.grow hm ?_ hkp⟩;rw[AG,zla];exact hR
theorem RQ.rowL{l:List Eu}{B:oA}{n d:Nat}(h:RQ w0 w O rb tb rest a0 vs es [(l.map Value.string,.slice B n d)]):SlAt V.zeS 1 w B l:=by
 obtain⟨A,c,X,Y,a1,a2,a3,a6,L,h⟩:=h;exact RowB.sl (h.rows.row 2 _ rfl) h.mem
theorem RQ0.rowL{l:List Eu}{B:oA}{n d:Nat}(h:RQ0 w0 w O rb tb rest a0 vs es A c X Y T4 T5 a1 a2 a3 a6 L [(l.map Value.string,.slice B n d)]):SlAt V.zeS 1 w B l:=RowB.sl (h.rows.row 2 _ rfl) h.mem
theorem RQ0.app4{x:Eu}{nb:Nat}{B:oA}{d ty:Ew}{K:Value->Et->Prop}(h:RQ0 w0 w O rb tb rest a0 vs es A c (.slice B vs.length d) Y T4 T5 a1 a2 a3 a6 L R2)(hb:w.heap[nb]?=some (.cells #[.string x] 9))(hl:vs.length<=7000000000000)(hk:∀B' d' w' L',RQ0 w0 w' O rb tb rest a0 (vs++[x]) es A c (.slice B' (vs.length+1) d') Y T4 T5 a1 a2 a3 a6 L' R2->K (.slice B' (vs.length+1) d') w'):AppV E4 #[140,140] ty (.slice B vs.length d) (.slice (some ⟨nb,0,none⟩) 1 1) w K:=by
 refine h.rows.app 0 rfl qx7 strI strZ Jk rfl (by decide +kernel) h.mem h.all Js rfl (by rw[qa hb];rfl) Oo ?_;intro B' d' w' L' hm hR hkp;refine hk B' d' w' L' (h.grow hm ?_ hkp);rw[AG];exact hR
theorem RQ0.app5{x:Eu}{nb:Nat}{B:oA}{d ty:Ew}{K:Value->Et->Prop}(h:RQ0 w0 w O rb tb rest a0 vs es A c X (.slice B es.length d) T4 T5 a1 a2 a3 a6 L R2)(hb:w.heap[nb]?=some (.cells #[.string x] 9))(hl:es.length<=7000000000000)(hk:∀B' d' w' L',RQ0 w0 w' O rb tb rest a0 vs (es++[x]) A c X (.slice B' (es.length+1) d') T4 T5 a1 a2 a3 a6 L' R2->K (.slice B' (es.length+1) d') w'):AppV E4 #[140,140] ty (.slice B es.length d) (.slice (some ⟨nb,0,none⟩) 1 1) w K:=by
 refine h.rows.app 1 rfl qx7 strI strZ Jk rfl (by decide +kernel) h.mem h.all Js rfl (by rw[qa hb];rfl) Oo ?_;intro B' d' w' L' hm hR hkp;refine hk B' d' w' L' (h.grow hm ?_ hkp);rw[AG];exact hR
theorem RQ0.st4{B:oA}{n d:Nat}{K:Et->Prop}(h:RQ0 w0 w O rb tb rest a0 vs es A c (.slice B n d) Y T4 Y a1 a2 a3 a6 L R2)(hK:∀w',RQ w0 w' O rb tb rest a0 vs es R2->K w'):StoreV w tb 4 (.slice B n d) K:=
 qe9 h.mem h.tg (by simp[tagC]) rfl fun w' L' hm ht hkp=>hK w' (h.tag hm ht hkp)
theorem RQ0.st5{B:oA}{n d:Nat}{K:Et->Prop}(h:RQ0 w0 w O rb tb rest a0 vs es A c X (.slice B n d) X T5 a1 a2 a3 a6 L R2)(hK:∀w',RQ w0 w' O rb tb rest a0 vs es R2->K w'):StoreV w tb 5 (.slice B n d) K:=
 qe9 h.mem h.tg (by simp[tagC]) rfl fun w' L' hm ht hkp=>hK w' (h.tag hm ht hkp)
end
def qfb(lo hi:Nat)(dig:Bool):List Eu->Bool
 | []=>false
 | x::_=>decide (lo<=x.size/\x.size<=hi)&&(bif dig then digA x else letA x)
theorem qbw{w0 w:Et}{O:E0}{rb tb:Nat}{x:Eu}{xs:List Eu}{a0:Eu}{vs es:List Eu}{R2:List (Ez×Value)}(h:RQ w0 w O rb tb (x::xs) a0 vs es R2):
  Gv E4 249 [pp rb] w fun v w'=>v=.string x/\RQ w0 w' O rb tb xs a0 vs es R2:=by
 refine ze Tryz.func249 Tryz.ntmps249 ?_;refine h.ldr ?_;intro A c hS hc;(conv=>whnf);refine ElemV.sl hS rfl 0 rfl Js ?_;intro b off hcl;(conv=>whnf);refine LoadV.cell0 hcl (zw ?_);obtain⟨A,c,X,Y,a1,a2,a3,a6,L,h⟩:=h;refine LoadV.own (h.mem.get h.rd) rfl (zw ?_);obtain⟨g,cur,off,rfl,hg,g1,g2,g3,g4⟩:=h.sl Js;refine V.SliceV.tailA rfl rfl h.hc ?_;intro A' c' hA' hc';(conv=>whnf);refine qe9 h.mem h.rd (show 0<1 by omega) rfl ?_;intro w2 L2 hm hr hk;(conv=>whnf);refine⟨rfl,A',c',X,Y,a1,a2,a3,a6,L2,hm,hr,hk _ h.tg (fun e=>h.ne e.symm),h.rows.keep fun y hy hO=>hk y hy fun e=>hO (e ▸ h.hrb),fun hne=>?_,hc',h.hrb,h.htb,h.ne,fun g' hg'=>?_,fun y hy=>h.small y (zmc hy)⟩
 ·refine⟨g,cur,off+1,hA' (by simpa using hne),hg,g1,g2,hk _ g3 g1,fun j y hj=>?_⟩;have:=g4 (j+1) y (by simpa using hj)
  rwa[show off+1+j=off+(j+1)by omega]
 ·by_cases e:g'=rb
  ·subst e;exact⟨_,hr⟩
  ·obtain⟨o,ho⟩:=h.all g' hg';exact⟨o,hk _ ho e⟩
theorem qiv{w0 w:Et}{O:E0}{rb tb:Nat}{rest:List Eu}{a0:Eu}{vs es:List Eu}{R2:List (Ez×Value)}(lo hi:Nat)(dig:Bool)(h:RQ w0 w O rb tb rest a0 vs es R2):
  Gv E4 248 [pp rb,ii lo,ii hi,.bool dig] w fun v w'=>v=.bool (qfb lo hi dig rest)/\RQ w0 w' O rb tb rest a0 vs es R2:=by
 refine ze Tryz.func248 Tryz.ntmps248 ?_;refine h.ldr ?_;intro A c hS hc;(conv=>whnf);cases rest with
 | nil=>
  refine zC (fun _=>zu ?_) (fun _=>zu ?_)
  ·exact⟨rfl,h⟩
  ·exact absurd rfl Oa
 | cons x xs=>
  have hx:=h.small x mh;simp only[Aw]at hc|-;refine zv ?_;refine h.ldr ?_;intro A c hS hc;refine zu ?_;refine ElemV.sl hS rfl 0 rfl Js ?_;intro b off hcl;refine zu ?_;refine LoadV.cell0 hcl (zw ?_);refine zt ?_;refine zC (fun _=>zu ?_) (fun _=>zu ?_)
  ·have:¬(lo<=x.size/\x.size<=hi):=fun e=>by simp only[Cn]at *;omega
   exact⟨by rw[qfb,AJ this];rfl,h⟩
  ·refine h.ldr ?_;intro A c hS hc;refine zu ?_;refine ElemV.sl hS rfl 0 rfl Js ?_;intro b off hcl;refine zu ?_;refine LoadV.cell0 hcl (zw ?_);refine zt ?_;refine zC (fun _=>zw ?_) (fun _=>zw ?_)
   ·have:¬(lo<=x.size/\x.size<=hi):=fun e=>by simp only[Cn]at *;omega
    exact⟨by rw[qfb,AJ this];rfl,h⟩
   ·have hin:lo<=x.size/\x.size<=hi:=by simp only[Cn]at *;omega
    have em:qfb lo hi dig (x::xs)=bif dig then digA x else letA x:=by rw[qfb,AD hin,Df]
    rw[em];cases dig
    all_goals
     refine zu ?_;refine h.ldr ?_;intro A c hS hc;(conv=>whnf);refine ElemV.sl hS rfl 0 rfl Js ?_;intro b off hcl;(conv=>whnf);refine LoadV.cell0 hcl (zw ?_)
    ·refine zcv (qkr x Oo w) ?_;rintro v w' ⟨rfl,rfl⟩;(conv=>whnf);exact⟨rfl,h⟩
    ·refine zcv (qff x Oo w) ?_;rintro v w' ⟨rfl,rfl⟩;(conv=>whnf);exact⟨rfl,h⟩
theorem qct(lo hi:Nat)(x:Eu)(xs:List Eu):qfb lo hi false (x::xs)=q6 x lo hi true:=by
 have:letA x=x.data.toList.all (alnB true):=by
  unfold letA
  congr 1
  funext c
  simp[alnB]
 rw[qfb,q6,cond_false,this,Bool.and_comm]
theorem qsf{w0 w:Et}{O:E0}{rb tb:Nat}{rest:List Eu}{a0:Eu}{vs es:List Eu}(h:RQ w0 w O rb tb rest a0 vs es []):
  Gv E4 247 [pp rb,pp tb] w fun v w'=>(qeg rest=none/\v=.bool false/\Ext w0 w')\/
   ∃rest' b0,qeg rest=some rest'/\v=.bool true/\2<=b0.size/\RQ w0 w' O rb tb rest' b0 vs es []:=by
 refine ze Tryz.func247 Tryz.ntmps247 ?_;refine zcv (qiv 2 3 false h) ?_;rintro v w1 ⟨rfl,h1⟩;(conv=>whnf);cases q1:qfb 2 3 false rest
 ·refine zu ?_;refine zcv (qiv 4 8 false h1) ?_;rintro v w2 ⟨rfl,h2⟩;(conv=>whnf);cases q2:qfb 4 8 false rest
  ·refine zu ?_;refine .inl ⟨?_,rfl,h2.ext⟩;cases rest with
   | nil=>rfl
   | cons x xs=>
    rw[qct]at q1 q2;rw[qeg,Aa];intro hm;simp[q6]at hm q1 q2;obtain⟨ha,hb⟩:=hm;have:=q1 ha;have:=q2 ha;omega
  ·obtain⟨x,xs,rfl⟩:∃x xs,rest=x::xs:=by
    cases rest with
    | nil=>cases q2
    | cons x xs=>exact⟨x,xs,rfl⟩
   rw[qct]at q2;simp[q6]at q2;refine zu ?_;refine zcv (qbw h2) ?_;rintro v w3 ⟨rfl,h3⟩;(conv=>whnf);refine h3.st0 x ?_;intro w4 h4;(conv=>whnf);refine .inr ⟨xs,x,?_,rfl,by omega,h4⟩;rw[qeg,Ad (by simp[q6];exact⟨q2.1,by omega,by omega⟩),Ad Oo]
 ·obtain⟨x,xs,rfl⟩:∃x xs,rest=x::xs:=by
   cases rest with
   | nil=>cases q1
   | cons x xs=>exact⟨x,xs,rfl⟩
  rw[qct]at q1;simp[q6]at q1;have hL:qeg (x::xs)=some (qew 3 xs):=by rw[qeg,Ad (by simp[q6];exact⟨q1.1,by omega,by omega⟩),Aa Oo]
  rw[hL];refine zu ?_;refine zcv (qbw h1) ?_;rintro v w3 ⟨rfl,h3⟩;(conv=>whnf);refine h3.st0 x ?_;intro w4 h4;(conv=>whnf);refine qj (fun y:List Eu×List Eu×oA×Nat=>[(0,pp rb),(1,pp tb),(5,.slice y.2.2.1 y.1.length y.2.2.2)])
   (fun y w5=>RQ w0 w5 O rb tb y.2.1 x vs es [(y.1.map Value.string,.slice y.2.2.1 y.1.length y.2.2.2)]/\y.1.length<=3/\(∀z∈y.1,z.size<=3)/\qew (3-y.1.length) y.2.1=qew 3 xs)
   (fun y=>3-y.1.length) ([],xs,none,0) ⟨rfl,rfl,rfl,trivial⟩ ⟨h4.nilrow,by simp,by simp,rfl⟩ ?_
  rintro⟨l,r5,B,d⟩ w5 ρ' ⟨h5,hl,hz,e5⟩;simp only at h5 hl hz e5;dsimp only;(conv=>whnf);refine zC (fun _=>zu ?_) (fun _=>zu ?_)
  ·have hl3:l.length<3:=by omega
   obtain⟨m,hm⟩:∃m,3-l.length=m+1:=⟨2-l.length,by omega⟩
   rw[hm]at e5;refine zcv (qiv 3 3 false h5) ?_;rintro v w6 ⟨rfl,h6⟩;cases q3:qfb 3 3 false r5
   ·have e6:qew 3 xs=r5:=by
     cases r5 with
     | nil=>rw[<-e5];rfl
     | cons y ys=>
      rw[qct]at q3;rw[<-e5,qew,Aa (by rw[q3];simp)]
    rw[e6];refine zu ?_;refine zcv (qfx l B d w6 h6.rowL (fun z hz'=>by have:=hz z hz';omega) Oo) ?_;rintro v w7 ⟨rfl,he7⟩;have h7:=h6.call he7;(conv=>whnf);refine h7.st Js _ ?_;intro w8 h8;(conv=>whnf);exact .inr ⟨r5,x,rfl,rfl,by omega,h8.cut⟩
   ·obtain⟨y,ys,rfl⟩:∃y ys,r5=y::ys:=by
     cases r5 with
     | nil=>cases q3
     | cons y ys=>exact⟨y,ys,rfl⟩
    rw[qct]at q3;rw[qew,Ad q3]at e5;simp[q6]at q3;refine zu ?_;refine zcv (qbw h6) ?_;rintro v w7 ⟨rfl,h7⟩;(conv=>whnf);refine NewV.rq h7 fun nb w8 h8 hnb=>zw ?_;refine h8.appL hnb Oo ?_;intro B' d' w9 h9;(conv=>whnf);refine⟨(l++[y],ys,B',d'),⟨rfl,rfl,by simp only[zla];rfl,trivial⟩,⟨h9,by simp;omega,?_,?_⟩,by simp;omega⟩
    ·intro z hz'
     rcases Bj.1 hz' with hz' | hz'
     ·exact hz z hz'
     ·obtain rfl:=Ak.1 hz';omega
    ·simp only[zla,Bh];rw[show 3-(l.length+1)=m by omega];exact e5
  ·have hl3:l.length=3:=by omega
   rw[hl3]at e5;have e6:qew 3 xs=r5:=by rw[<-e5];rfl
   rw[e6];refine zcv (qfx l B d w5 h5.rowL (fun z hz'=>by have:=hz z hz';omega) Oo) ?_;rintro v w7 ⟨rfl,he7⟩;have h7:=h5.call he7;(conv=>whnf);refine h7.st Js _ ?_;intro w8 h8;(conv=>whnf);exact .inr ⟨r5,x,rfl,rfl,by omega,h8.cut⟩
theorem qxf{w0 w:Et}{O:E0}{rb tb:Nat}{rest:List Eu}{a0:Eu}{vs es:List Eu}(h:RQ w0 w O rb tb rest a0 vs es [])(hn:rest.length<=1000000):
  Gv E4 253 [pp rb,pp tb] w fun v w'=>v=.bool (decide (rest.tail≠[])&&rest.tail.all qjo)/\RQ w0 w' O rb tb rest a0 vs es []:=by
 refine ze Tryz.func253 Tryz.ntmps253 ?_;refine h.ldr ?_;intro A c hS hc;(conv=>whnf);refine zcv (qfx rest A c w hS h.small hn) ?_;rintro v w1 ⟨rfl,he1⟩;have h1:=h.call he1;(conv=>whnf);refine h1.st Js _ ?_;intro w2 h2;(conv=>whnf);refine h2.ldr ?_;intro A2 c2 hS2 hc2;(conv=>whnf);refine zC (fun _=>zw ?_) (fun _=>zw ?_)
 ·have:rest.tail=[]:=Dz.1 (by rw[Di];omega);rw[this];exact⟨rfl,h2⟩
 ·have ht:rest.tail≠[]:=fun e=>by have:=Af List.length e;rw[Di]at this;simp at this;omega
  rw[AD ht,Df];refine qj (fun i:Nat=>[(0,pp rb),(1,pp tb),(5,ii (i+1:Nat))])
   (fun i w3=>RQ w0 w3 O rb tb rest a0 vs es []/\i<=rest.tail.length/\(rest.tail.take i).all qjo=true)
   (fun i=>rest.tail.length-i) 0 ⟨rfl,rfl,rfl,trivial⟩ ⟨h2,by simp,rfl⟩ ?_
  rintro i w3 ρ' ⟨h3,hi,ha⟩;rw[Di]at hi|-;(conv=>whnf);refine h3.ldr ?_;intro A3 c3 hS3 hc3;(conv=>whnf);refine zC (fun _=>zw ?_) (fun _=>zw ?_)
  ·refine h3.ldr ?_;intro A4 c4 hS4 hc4;(conv=>whnf);have hlt:i+1<rest.length:=by omega
   have htl:i<rest.tail.length:=by rw[Di];omega
   have hx:=h3.small _ (AT hlt);have eg:rest.tail[i]=rest[i+1]:=by rw[List.getElem_tail]
   refine ElemV.sl hS4 rfl (i+1) rfl hlt ?_;intro b off hcl;(conv=>whnf);refine LoadV.cell0 hcl (zw ?_);refine zcv (qg3 _ 1 8 Oo w3) ?_;rintro v w4 ⟨rfl,rfl⟩;cases q:q6 rest[i+1] 1 8 false
   ·refine zu ?_;refine⟨?_,h3⟩;have:rest.tail.all qjo=false:=by
     rw[D7];exact⟨_,AT htl,by rw[eg,qjo,q];simp⟩
    rw[this]
   ·refine zu ?_;refine⟨i+1,⟨rfl,rfl,rfl,trivial⟩,⟨h3,by first|omega|(rw[Di];omega),?_⟩,by first|omega|(rw[Di];omega)⟩;rw[Bo htl,DI,ha,eg];simp[qjo,q]
  ·rw[AE (by rw[Di];omega)]at ha;rw[ha];exact⟨rfl,h3⟩
def qgf(e:Eu):Eu:=lowS (e.extract 0 1)
def jnS(l:List Eu):Eu:=⟨(jn l).toArray⟩
theorem q4p{x:Eu}{l:List Eu}(hx:x.size=1):1<=(jnS (x::l)).size/\qgf (jnS (x::l))=lowS x:=by
 obtain⟨⟨c⟩⟩:=x;have hc:c.length=1:=hx;obtain⟨b,rfl⟩:=List.length_eq_one_iff.1 hc;refine⟨by show 1<=(jn _).toArray.size;simp[jn],?_⟩;unfold qgf
 congr 1
 have:(jnS (⟨⟨[b]⟩⟩::l)).extract 0 1=(⟨⟨[b]⟩⟩:Eu):=by
  have h:=qnp (l:=[(jnS (⟨⟨[b]⟩⟩::l)).extract 0 1]) (m:=[⟨⟨[b]⟩⟩]) (by rw[AW,qnt];simp[jnS,jn])
  simpa using h
 exact this
theorem qk{vals:Nat->Value}{k:Nat}{v:Value}(h:vals k=v):vals=upd vals k v:=by
 funext j
 by_cases e:j=k
 ·subst e;rw[qer,h]
 ·rw[qaq _ _ _ _ e]
theorem RQ.cell5{w0 w:Et}{O:E0}{rb tb:Nat}{rest:List Eu}{a0:Eu}{vs es:List Eu}{R2:List (Ez×Value)}(h:RQ w0 w O rb tb rest a0 vs es R2):
  ∃A c,SlAt V.zeS 1 w A es/\w.cell? ⟨tb,5,none⟩=some (.slice A es.length c):=by
 obtain⟨A,c,X,Y,a1,a2,a3,a6,L,h⟩:=h;obtain⟨B,d,e⟩:=(h.rows.row 1 _ rfl).slice;simp only[AI]at e;subst e;exact⟨B,d,RowB.sl (h.rows.row 1 _ rfl) h.mem,by rw[qa (h.mem.get h.tg)];rfl⟩
theorem qp8{w0 w:Et}{O:E0}{rb tb:Nat}{x:Eu}{xs:List Eu}{a0:Eu}{vs es:List Eu}(h:RQ w0 w O rb tb (x::xs) a0 vs es [])(hx1:x.size=1)(hes:∀e∈es,1<=e.size)(hn:xs.length+es.length+1<=1000000):
  Gv E4 252 [pp rb,pp tb] w fun v w'=>Ext w0 w'/\
   (((xs.takeWhile extQ=[]\/∃e∈es,qgf e=lowS x)/\v=.bool false)\/
   (¬(xs.takeWhile extQ=[]\/∃e∈es,qgf e=lowS x)/\v=.bool true/\RQ w0 w' O rb tb (xs.dropWhile extQ) a0 vs (es++[jnS (x::xs.takeWhile extQ)]) [])):=by
 refine ze Tryz.func252 Tryz.ntmps252 ?_;refine zcv (qbw h) ?_;rintro v w1 ⟨rfl,h1⟩;(conv=>whnf);refine NewV.rqrow h1 fun nb w2 h2=>zw ?_;refine qj (fun y:List Eu×List Eu×oA×Nat=>[(0,pp rb),(1,pp tb),(5,.slice y.2.2.1 (x::y.1).length y.2.2.2)])
  (fun y w5=>RQ w0 w5 O rb tb y.2.1 a0 vs es [((x::y.1).map Value.string,.slice y.2.2.1 (x::y.1).length y.2.2.2)]/\xs=y.1++y.2.1/\y.1.all extQ=true)
  (fun y=>y.2.1.length) ([],xs,some ⟨nb,0,none⟩,1) ⟨rfl,rfl,rfl,trivial⟩ ⟨h2,rfl,rfl⟩ ?_
 rintro⟨pre,r5,B,d⟩ w5 ρ' ⟨h5,e5,a5⟩;simp only at h5 e5 a5;dsimp only;have hlen:xs.length=pre.length+r5.length:=by rw[e5];simp
 have tk:∀ys,r5=ys->(∀y zs,ys=y::zs->extQ y=false)->xs.takeWhile extQ=pre/\xs.dropWhile extQ=ys:=by
  rintro ys rfl hys;have ha:=Cf.1 a5;rw[e5,List.takeWhile_append_of_pos ha,List.dropWhile_append_of_pos ha];cases r5 with
  | nil=>simp
  | cons y zs=>simp[hys y zs rfl]
 (conv=>whnf);refine h5.ldr ?_;intro A c hS hc
 rcases r5 with _|⟨y,ys⟩
 case' cons=>
  simp only[Aw]at hc hlen|-;(conv=>whnf);refine Tst.yes (AD Oo) (zu ?_);refine h5.ldr ?_;intro A c hS hc;refine zu ?_;refine ElemV.sl hS rfl 0 rfl Js ?_;intro b off hcl;refine zu ?_;refine LoadV.cell0 hcl (zu ?_);have hy:=h5.small y mh;refine zcv (qg3 y 2 8 Oo w5) ?_;rintro v w6 ⟨rfl,rfl⟩;cases q:q6 y 2 8 false
  case' true=>
   refine zu ?_;refine zcv (qbw h5) ?_;rintro v w7 ⟨rfl,h7⟩;(conv=>whnf);refine NewV.rq h7 fun nb w8 h8 hnb=>zw ?_;refine h8.appL hnb Ys ?_;intro B' d' w9 h9;(conv=>whnf);exact⟨(pre++[y],ys,B',d'),⟨rfl,rfl,by simp only[zla,Aw];rfl,trivial⟩,⟨h9,by rw[e5];simp,by rw[DI,a5];simp[extQ,q]⟩,by simp⟩
  case' false=>
   obtain⟨t1,t2⟩:=tk _ rfl (fun y' zs e=>by cases e;exact q);clear hy;obtain⟨r6,h5,t2⟩:∃r6,RQ w0 _ O rb tb r6 a0 vs es [((x::pre).map Value.string,.slice B (x::pre).length d)]/\xs.dropWhile extQ=r6:=⟨_,h5,t2⟩
   rw[t1,t2];clear tk hS hcl q;refine zu ?_
 case' nil=>
  (conv=>whnf);refine Tst.no (AJ Js) (zu ?_);obtain⟨t1,t2⟩:=tk _ rfl (fun y' zs e=>by cases e);obtain⟨r6,h5,t2⟩:∃r6,RQ w0 _ O rb tb r6 a0 vs es [((x::pre).map Value.string,.slice B (x::pre).length d)]/\xs.dropWhile extQ=r6:=⟨_,h5,t2⟩
  rw[t1,t2];clear tk hS
 all_goals
  have hx0:=h.small x mh;have hpl:pre.length<=xs.length:=by omega
  have hl0:(x::pre).length=pre.length+1:=rfl;refine qj (fun i:Nat=>[(0,pp rb),(1,pp tb),(5,.slice B (x::pre).length d),(7,ii i)])
   (fun i w6=>RQ w0 w6 O rb tb r6 a0 vs es [((x::pre).map Value.string,.slice B (x::pre).length d)]/\i<=es.length/\∀(j:Nat) (hj:j<es.length),j<i->qgf es[j]≠lowS x)
   (fun i=>es.length-i) 0 ⟨rfl,rfl,rfl,rfl,trivial⟩ ⟨h5,by omega,fun j hj h0=>by omega⟩ ?_
  rintro i w6 ρ' ⟨h6,hi,hd⟩;(conv=>whnf);obtain⟨EA,ec,hES,hc5⟩:=h6.cell5;refine LoadV.of hc5 (zw ?_)
  (repeat' refine zC (fun _=>zw ?_) (fun _=>zw ?_))
  ·have hil:i<es.length:=by omega
   have hei:=hes _ (AT hil);obtain⟨eb,eoff,rfl,hec⟩:=hES.at_ (fun e=>by rw[e]at hil;simp at hil);have hec:=hec i _ (zge hil);obtain⟨lb,loff,e9,hlc⟩:=h6.rowL.at_ Js;subst e9;have hlc:=hlc 0 x rfl;refine DrawV.free rfl Jk (zw ?_);(iterate 3 (refine zd ?_));refine zf ?_ (by intro wd hd;(conv=>whnf);refine LoadV.of (Ext.cell (Ext.trans (Ext.drew xr) hd) hc5) ?_;(conv=>whnf);exact⟨xr,rfl⟩);refine zd ?_;refine zf ?_ (by intro wd hd;(conv=>whnf);refine⟨⟨eb,eoff,i,rfl,by omega,by omega,?_⟩⟩;exact⟨xr,rfl⟩);refine zf ?_ (by intro wd hd;(conv=>whnf);refine LoadV.of (Ext.cell (Ext.trans (Ext.drew xr) hd) (hec 0 _ rfl)) ?_;(conv=>whnf);exact⟨xr,rfl⟩);refine zsd (.string (es[i].extract 0 1)) (fun wd hd=>zw ?_) (zw ?_)
   ·refine⟨0,1,rfl,rfl,by omega,by omega,?_⟩;(conv=>whnf);exact⟨xr,rfl⟩
   refine zsd (.string (qgf es[i])) (fun wd hd=>zw ?_) (zw ?_)
   ·refine zcv (qa8 (es[i].extract 0 1) (by rw[Cv];omega) wd) ?_;rintro v w7 ⟨rfl,he7⟩;exact⟨he7,rfl⟩
   refine zd ?_;refine zf ?_ (by intro wd hd;(conv=>whnf);refine⟨⟨lb,loff,0,rfl,by omega,by omega,?_⟩⟩;exact⟨xr,rfl⟩);refine zf ?_ (by intro wd hd;(conv=>whnf);refine LoadV.of (Ext.cell (Ext.trans (Ext.drew xr) hd) (hlc 0 _ rfl)) ?_;(conv=>whnf);exact⟨xr,rfl⟩);refine zsd (.string (lowS x)) (fun wd hd=>zw ?_) (zw ?_)
   ·refine zcv (qa8 x Oo wd) ?_;rintro v w7 ⟨rfl,he7⟩;exact⟨he7,rfl⟩
   refine zd ?_;intro wd hwd;have h7:=h6.drew.call hwd;(conv=>whnf);cases q:seq (qgf es[i]) (lowS x)
   ·refine zu ?_;refine⟨i+1,⟨rfl,rfl,rfl,rfl,trivial⟩,⟨h7,by omega,fun j hj hji=>?_⟩,by omega⟩
    by_cases e:j=i
    ·subst e;intro e';rw[qac.2 e']at q;cases q
    ·exact hd j hj Oo
   ·refine zu ?_;exact⟨h7.ext,.inl ⟨.inr ⟨_,AT hil,qac.1 q⟩,rfl⟩⟩
  ·have hno:¬ ∃e∈es,qgf e=lowS x:=by
    rintro⟨e,he,h9⟩;obtain⟨j,hj,rfl⟩:=Cs.1 he;exact hd j hj Oo h9
   obtain⟨A,c,X,Y,a1,a2,a3,a6,L,h6⟩:=h6;obtain⟨EA,ec,e⟩:=(h6.rows.row 1 _ rfl).slice;simp only[AI]at e;subst e;clear hES hc5;obtain⟨J,hJ⟩:∃J,J=jnS (x::pre):=⟨_,rfl⟩
   obtain⟨rr,hrr⟩:∃rr:List (Ez×Value),rr=[((x::pre).map Value.string,.slice B (x::pre).length d)]:=⟨_,rfl⟩
   have hsz:∀z∈x::pre,z.size<=1000000:=fun z hz=>by
    rcases AF.1 hz with rfl|hz
    ·exact hx0
    ·exact h.small z (zmc (by rw[e5];exact AQ _ hz))
   rw[<-hrr]at h6;rw[<-hJ];refine DrawV.gen (fun S vals w=>bif S 11 then(S 4=true/\S 6=true/\S 7=true/\S 8=true/\RQ w0 w O rb tb r6 a0 vs (es++[J]) rr)
    else bif S 8 then(S 4=true/\S 6=true/\S 7=true/\∃B' d' L',vals 8=.slice B' (es.length+1) d'/\RQ0 w0 w O rb tb r6 a0 vs (es++[J]) A c X (.slice B' (es.length+1) d') X (.slice EA es.length ec) a1 a2 a3 a6 L' rr)
    else bif S 7 then(S 6=true/\∃nb,vals 7=.slice (some ⟨nb,0,none⟩) 1 1/\w.heap[nb]?=some (.cells #[.string J] 9)/\RQ0 w0 w O rb tb r6 a0 vs es A c X (.slice EA es.length ec) X (.slice EA es.length ec) a1 a2 a3 a6 L rr)
    else RQ0 w0 w O rb tb r6 a0 vs es A c X (.slice EA es.length ec) X (.slice EA es.length ec) a1 a2 a3 a6 L rr) rfl Jk (fun vals=>h6.call xr.drew) ?_
   (conv=>whnf);(iterate 4 (refine zg ?_))
   ·
    refine StepG.of (.slice EA es.length ec) (fun S vals wd hk hp hI=>?_) (zw ?_)
    ·dsimp only at hI;cases h11:S 11
     ·rw[h11]at hI;cases h8:S 8
      ·rw[h8]at hI;cases h7:S 7
       ·rw[h7]at hI;(conv=>whnf);refine LoadV.own (hI.mem.get hI.tg) rfl (zw ?_);refine⟨rfl,?_⟩;show bif S 11 then _ else bif S 8 then _ else bif S 7 then _ else _;rw[h11,h8,h7];exact hI
       ·rw[h7]at hI;obtain⟨i6,nb,e7,hnb,hQ⟩:=hI;(conv=>whnf);refine LoadV.own (hQ.mem.get hQ.tg) rfl (zw ?_);refine⟨rfl,?_⟩;show bif S 11 then _ else bif S 8 then _ else bif S 7 then _ else _;rw[h11,h8,h7];exact⟨i6,nb,e7,hnb,hQ⟩
      ·rw[h8]at hI;have:=hI.1;rw[hk]at this;cases this
     ·rw[h11]at hI;have:=hI.1;rw[hk]at this;cases this
    refine zg ?_;refine StepG.of (.string J) (fun S vals wd hk hp hI=>?_) (zw ?_)
    ·dsimp only at hI;cases h11:S 11
     ·rw[h11]at hI;cases h8:S 8
      ·rw[h8]at hI;cases h7:S 7
       ·rw[h7]at hI;(conv=>whnf);have hlr:=hI;rw[hrr]at hlr;refine zcv (qfx (x::pre) B d wd hlr.rowL hsz Ys) ?_;rintro v w7 ⟨rfl,he7⟩;refine⟨by rw[hJ];rfl,?_⟩;show bif S 11 then _ else bif S 8 then _ else bif S 7 then _ else _;rw[h11,h8,h7];exact hI.call he7
       ·rw[h7]at hI;have:=hI.1;rw[hk]at this;cases this
      ·rw[h8]at hI;have:=hI.2.1;rw[hk]at this;cases this
     ·rw[h11]at hI;have:=hI.2.1;rw[hk]at this;cases this
    refine StepG.any (fun S vals wd hk hp hI=>?_) (zw ?_)
    ·dsimp only at hI;have h6t:=hp 6 Od;cases h11:S 11
     ·rw[h11]at hI;cases h8:S 8
      ·rw[h8]at hI;rw[hk]at hI;(conv=>whnf);refine NewV.rq0 hI fun nb w8 h8' hnb=>zw ?_;refine⟨trivial,?_⟩;show bif S 11 then _ else bif S 8 then _ else bif true then _ else _;rw[h11,h8];exact⟨h6t,nb,rfl,hnb,h8'⟩
      ·rw[h8]at hI;have:=hI.2.2.1;rw[hk]at this;cases this
     ·rw[h11]at hI;have:=hI.2.2.1;rw[hk]at this;cases this
    refine StepG.any (fun S vals wd hk hp hI=>?_) (zw ?_)
    ·dsimp only at hI;have h4t:=hp 4 Od;have h7t:=hp 7 Od;cases h11:S 11
     ·rw[h11]at hI;rw[hk]at hI;rw[h7t]at hI;obtain⟨i6,nb,e7,hnb,hQ⟩:=hI;rw[qk e7];(conv=>whnf);refine hQ.app5 hnb Oo ?_;intro B' d' w8 L' hQ';(conv=>whnf);refine⟨trivial,?_⟩;show bif S 11 then _ else bif true then _ else bif S 7 then _ else _;rw[h11];exact⟨h4t,i6,h7t,B',d',L',rfl,hQ'⟩
     ·rw[h11]at hI;have:=hI.2.2.2.1;rw[hk]at this;cases this
    refine zg ?_;refine zg ?_;refine StepG.of undef (fun S vals wd hk hp hI=>?_) (zw ?_)
    ·dsimp only at hI;have h8t:=hp 8 Od;rw[hk]at hI;rw[h8t]at hI;obtain⟨h4t,h6t,h7t,B',d',L',e8,hQ⟩:=hI;rw[qk e8];(conv=>whnf);refine hQ.st5 ?_;intro w8 hQ';(conv=>whnf);exact⟨rfl,h4t,h6t,h7t,h8t,hQ'⟩
    intro vals wd hI;obtain⟨_,_,_,_,hQ⟩:=hI;(conv=>whnf);refine⟨hQ.ext,?_⟩
    by_cases hp0:pre=[]
    ·subst hp0;exact .inl ⟨.inl rfl,rfl⟩
    ·have:0<pre.length:=Cd.2 hp0;exact .inr ⟨fun h9=>h9.elim hp0 hno,by rw[hl0,AD Oo],hQ.cut⟩
theorem qu6(x:Eu):seq (lowS x) ⟨#[120]⟩=qey x:=by
 rw[AX,qac];obtain⟨⟨l⟩⟩:=x;unfold qey lowS;simp only[decide_eq_true_eq]
 constructor
 ·intro h;have h:l.map lowB=[120]:=by
   have:=Af (fun b:Eu=>b.data.toList) h
   simpa using this
  obtain⟨c,rfl⟩:∃c,l=[c]:=List.length_eq_one_iff.1 (by have:=Af List.length h;simpa using this);simp only[AW,BP,List.cons.injEq,and_true]at h;unfold lowB at h
  split at h
  ·rename_i hc
   right
   have:c=88:=by
    have h2:=Af UInt8.toNat h;rw[UInt8.toNat_add]at h2;rw[<-D3];have:=c.toNat_lt;simp at h2|-;omega
   subst this;rfl
  ·subst h;left;rfl
 ·rintro(h|h)
  ·cases h;rfl
  ·cases h;rfl
theorem qsp{x:Eu}(h:qey x=true):varB x=false/\extS x=false:=by
 have hs:x.size=1:=by
  unfold qey at h;simp at h
  rcases h with rfl|rfl<;>rfl
 refine⟨?_,by rw[extS,h];simp⟩;simp[varB,q6,hs]
section
variable {w0 w w':Et} {O:E0} {rb tb:Nat} {rest:List Eu} {a0:Eu} {vs es:List Eu} {R2:List (Ez×Value)}
theorem RQ.cell4(h:RQ w0 w O rb tb rest a0 vs es R2):∃A c,SlAt V.zeS 1 w A vs/\w.cell? ⟨tb,4,none⟩=some (.slice A vs.length c):=by
 obtain⟨A,c,X,Y,a1,a2,a3,a6,L,h⟩:=h;obtain⟨B,d,e⟩:=(h.rows.row 0 _ rfl).slice;simp only[AI]at e;subst e;exact⟨B,d,RowB.sl (h.rows.row 0 _ rfl) h.mem,by rw[qa (h.mem.get h.tg)];rfl⟩
theorem RQ.ldA{K:Ez->Prop}(h:RQ w0 w O rb tb rest a0 vs es R2)(hk:∀s0 s1 s2 s3 A n c A' n' c' s6,(∀u∈[Value.string s0,.string s1,.string s2,.string s3,.slice A n c,.slice A' n' c',.string s6],u.oneCell'=true)->K [.string s0,.string s1,.string s2,.string s3,.slice A n c,.slice A' n' c',.string s6]):LoadA w tb 0 7 K:=by
 obtain⟨A,c,X,Y,a1,a2,a3,a6,L,h⟩:=h;obtain⟨B,d,e⟩:=(h.rows.row 0 _ rfl).slice;obtain⟨B',d',e'⟩:=(h.rows.row 1 _ rfl).slice;simp only[AI]at e e';subst e e';refine⟨_,rfl,fun i hi=>?_,hk a0 a1 a2 a3 B vs.length d B' es.length d' a6 (tag7 ⟨⟨_,_,_,rfl⟩,⟨_,_,_,rfl⟩⟩ a0 a1 a2 a3 a6)⟩;rw[qa (h.mem.get h.tg),AB,AC];rfl
end
theorem qqo(s:Eu):(lowS s).size=s.size:=by
 show(s.data.toList.map lowB).toArray.size=s.size;simp
theorem V.later{A B:Prop}(h:A->B)(p:A):B:=h p
theorem qla(x:Eu)(xs:List Eu):regB x=(qfb 2 2 false (x::xs)||qfb 3 3 true (x::xs)):=by
 rw[qct,regB]
 congr 1
 by_cases h3:x.size=3
 ·have e:digA x=(digN (gb x 0).toNat&&digN (gb x 1).toNat&&digN (gb x 2).toNat):=by
   unfold digA;have d0:=qay x 0 Oo;have d1:=qay x 1 Oo;have d2:=qay x 2 Oo;have d3:x.data.toList.drop 3=[]:=Bf Ys;rw[BB]at d0;rw[d0,d1,d2,d3];simp[Bool.and_assoc]
  rw[qfb,e,AD h3,AD Oo];simp[Bool.and_assoc]
 ·rw[qfb,AJ h3,AJ Oo];simp
theorem qxr(s:Eu)(hs:s.size<=65536)(w:Et):
  Gv E4 194 [.string s] w fun v w'=>TagV (qbd s) v/\Ext w w':=by
 obtain⟨p1,p2⟩:=qmr s;have p0:qbd s≠[]:=fun e=>by have:=qmq s;rw[e]at this;simp at this
 have parts:=qra s Oo;obtain⟨l,hl⟩:∃l,l=qbd s:=⟨_,rfl⟩
 rw[<-hl]at p1 p2 p0 parts|-;refine ze Tryz.func194 Tryz.ntmps194 ?_;refine znm (Mem.nil w) fun rt w1 hm1=>zw ?_;refine znm (Mem.nil w1) fun tb w2 hm2=>zw ?_;refine zcv (parts w2) ?_;rintro v w3 ⟨A,c,rfl,hR⟩;(conv=>whnf);have hlt:tb<w2.heap.size:=hm2.lt mh
 rcases hR.own.2 with⟨_,e2⟩|⟨g,cap,cur,e1,hge,hg,hnc,_,hsz,htk⟩
 ·exact absurd (Dz.1 e2) p0
 cases e1;rw[Be]at htk hsz;have hm3:=(hm2.call hR.mem.ext).add hg (Bd hm2.ext.size hge) (fun x hx=>by obtain rfl:=Ak.1 hx;show tb<g;omega);refine znm hm3 ?_;intro rb w4 hm4;have hrb:rb≠g/\rb≠tb:=by
  have:=hm4.nodup;simp at this;exact⟨fun e=>this.1.1 e,fun e=>this.1.2 e⟩
 have h4:RQ w1 w4 [rb,g,tb] rb tb l ⟨#[]⟩ [] [] []:=by
  refine⟨_,_,.slice none 0 0,.slice none 0 0,⟨#[]⟩,⟨#[]⟩,⟨#[]⟩,⟨#[]⟩,_,hm4,AO ..,zmc (zmc mh),RowsP.nils _ _ _ _ Js,fun _=>⟨g,cur,0,rfl,by simp,fun e=>hrb.1 e.symm,fun e=>?_,zmc mh,fun j x hj=>?_⟩,hnc,by simp,by simp,hrb.2,fun k hk=>?_,fun x hx=>by have:=p1 x hx;omega⟩
  ·omega
  ·have h9:(cur.toList.take l.length)[j]?=some (.string x):=by rw[htk,Au,hj];rfl
   rw[Bi]at h9
   split at h9
   ·rw[AC];simpa using h9
   ·cases h9
  ·rcases AF.1 hk with rfl|hk
   ·exact⟨_,AO ..⟩
   ·rcases AF.1 hk with rfl|hk
    ·exact⟨_,zmc mh⟩
    ·obtain rfl:=Ak.1 hk;exact⟨_,zmc (zmc mh)⟩
 clear hm4 hm3 hR hg;generalize hO:[rb,g,tb]=O at h4;(conv=>whnf);refine h4.ldr ?_;intro A c hS hc;obtain⟨x,xs,hxl⟩:∃x xs,l=x::xs:=by
  cases l with
  | nil=>exact absurd rfl p0
  | cons x xs=>exact⟨x,xs,rfl⟩
 (conv=>whnf);refine ElemV.sl hS rfl 0 rfl (by rw[hxl];simp) ?_;intro b off hcl;(conv=>whnf);refine LoadV.cell0 hcl ?_;have hx0:l[0]'(by rw[hxl];simp)=x:=by subst hxl;rfl
 have hx6:=p1 x (by rw[hxl];simp);rw[hx0];(conv=>whnf);refine zcv (qa8 x Oo w4) ?_;rintro v w5 ⟨rfl,he5⟩;have h5:=h4.call he5;clear hcl hS hc h4 he5;(conv=>whnf);rw[qu6];obtain⟨F,hF⟩:∃F:List Eu×List Eu×Eu->List (Nat×Value),F=fun _=>[(2,pp rt),(4,pp tb),(5,pp rb)]:=⟨_,rfl⟩
 obtain⟨I,hI⟩:∃I:List Eu×List Eu×Eu->Et->Prop,I=fun y w6=>RQ w1 w6 O rb tb y.2.1 y.2.2 y.1 [] []/\tagR l=(qh7 (y.1.map lowS) y.2.1).bind (fun r=>extN r.2.length r.1 r.2)/\(∀v∈y.1,4<=v.size/\v.size<=1000000)/\y.1.length+y.2.1.length<=l.length:=⟨_,rfl⟩
 obtain⟨mm,hmm⟩:∃mm:List Eu×List Eu×Eu->Nat,mm=fun y=>y.2.1.length:=⟨_,rfl⟩
 apply V.later
 case h=>
  intro body;cases q:qey x
  ·refine zv ?_;refine zcv (qsf h5) ?_;have hT:tagR l=(qeg l).bind qi0:=by
    rw[tagR,Aa (by rw[hxl];show ¬qey x=true;rw[q];simp)]
   rintro v w6 (⟨e2,rfl,he6⟩|⟨r1,b0,e2,rfl,hb0,h6⟩)
   ·rw[e2]at hT;have hno:¬tagP l:=fun h=>by obtain⟨l1,h1,_⟩:=h;rw[hT]at h1;cases h1
    refine zu ?_;refine StoreA.mem (hm1.call he6) (i:=0) rfl (Ar 7) qd9 fun w9 hm9=>zw ?_;refine qh (R:=fun v w'=>TagV l v/\Ext w w') (zw ?_);refine zl hm9 0 ?_;exact⟨⟨_,_,_,_,_,_,_,qd9,by rw[qdg hno];rfl⟩,hm9.ext⟩
   rw[e2]at hT;have hb:seq b0 ⟨#[]⟩=false:=by rw[qli];exact AJ Oo
   refine zu ?_;refine h6.ld0 (zw ?_);rw[hb];refine zv ?_;have hl1:=qkp e2;refine zcv (qiv 4 4 false h6) ?_;rintro v w7 ⟨rfl,h7⟩;(conv=>whnf);cases q1:qfb 4 4 false r1
   case' false=>
    obtain⟨r2,h8,es2,hl2⟩:∃r2,RQ w1 w7 O rb tb r2 b0 [] [] []/\qdv r1=r2/\r2.length<=r1.length:=by
     refine⟨r1,h7,?_,Ar _⟩;cases r1 with
     | nil=>rfl
     | cons y ys=>
      rw[qct]at q1;rw[qdv,Aa (by rw[q1];simp)]
    clear h7 q1 h6;refine zv ?_
   case' true=>
    obtain⟨y,ys,rfl⟩:∃y ys,r1=y::ys:=by
     cases r1 with
     | nil=>cases q1
     | cons y ys=>exact⟨y,ys,rfl⟩
    rw[qct]at q1;refine zv ?_;refine zcv (qbw h7) ?_;rintro v w8 ⟨rfl,h8⟩;(conv=>whnf);refine h8.st Js _ ?_;intro w7 h9;obtain⟨r2,h8,es2,hl2⟩:∃r2,RQ w1 w7 O rb tb r2 b0 [] [] []/\qdv (y::ys)=r2/\r2.length<=(y::ys).length:=⟨ys,h9,by rw[qdv,Ad q1],by simp⟩
    clear h7 q1 h6 h9;conv=>whnf
   all_goals
    refine h8.ld0 (zw ?_);rw[hb];refine zv ?_;refine zcv (qiv 2 2 false h8) ?_;rintro v w9 ⟨rfl,h9⟩;(conv=>whnf);cases q2:qfb 2 2 false r2
    ·refine zv ?_;refine zcv (qiv 3 3 true h9) ?_;rintro v w10 ⟨rfl,h10⟩;cases q3:qfb 3 3 true r2
     ·have er:qcz r2=r2:=by
       cases r2 with
       | nil=>rfl
       | cons y ys=>rw[qcz,Aa (by rw[qla,q2,q3];simp)]
      refine zu ?_;refine qj F I mm ([],r2,b0) (by rw[hF];exact⟨rfl,rfl,rfl,trivial⟩) (by rw[hI];exact⟨h10,by rw[hT];show qi0 _=_;rw[qi0,es2,er];rfl,by simp,by simp only[BV];omega⟩) body
     ·obtain⟨y,ys,rfl⟩:∃y ys,r2=y::ys:=by
       cases r2 with
       | nil=>cases q3
       | cons y ys=>exact⟨y,ys,rfl⟩
      have er:qcz (y::ys)=ys:=by rw[qcz,Ad (by rw[qla,q3];simp)]
      refine zu ?_;refine zcv (qbw h10) ?_;rintro v w11 ⟨rfl,h11⟩;(conv=>whnf);refine h11.st Js _ ?_;intro w12 h12;(conv=>whnf);refine qj F I mm ([],ys,b0) (by rw[hF];exact⟨rfl,rfl,rfl,trivial⟩) (by rw[hI];exact⟨h12,by rw[hT];show qi0 _=_;rw[qi0,es2,er];rfl,by simp,by simp only[BV,Aw]at *;omega⟩) body
    ·obtain⟨y,ys,rfl⟩:∃y ys,r2=y::ys:=by
      cases r2 with
      | nil=>cases q2
      | cons y ys=>exact⟨y,ys,rfl⟩
     have er:qcz (y::ys)=ys:=by rw[qcz,Ad (by rw[qla,q2];simp)]
     refine zu ?_;refine zcv (qbw h9) ?_;rintro v w11 ⟨rfl,h11⟩;(conv=>whnf);refine h11.st Js _ ?_;intro w12 h12;(conv=>whnf);refine qj F I mm ([],ys,b0) (by rw[hF];exact⟨rfl,rfl,rfl,trivial⟩) (by rw[hI];exact⟨h12,by rw[hT];show qi0 _=_;rw[qi0,es2,er];rfl,by simp,by simp only[BV,Aw]at *;omega⟩) body
  ·have hT:tagR l=(qh7 [] l).bind fun r=>extN r.2.length r.1 r.2:=by
    rw[tagR,Ad (by rw[hxl];exact q),hxl,qh7,Aa (by rw[(qsp q).1];simp)];show _=extN (xs.length+1) [] (x::xs);rw[extN,Aa (by rw[(qsp q).2];simp)]
   have hb:seq ⟨#[]⟩ ⟨#[]⟩=true:=by rw[qli];rfl
   refine zv ?_;refine h5.ld0 (zw ?_);rw[hb];refine zv ?_;refine h5.ld0 (zw ?_);rw[hb];refine zv ?_;refine qj F I mm ([],l,⟨#[]⟩) (by rw[hF];exact⟨rfl,rfl,rfl,trivial⟩) (by rw[hI];exact⟨h5,hT,by simp,by simp⟩) body
 case p=>
  subst hF hI hmm;rintro⟨vs,r3,b0⟩ w6 ρ' ⟨h6,hT,hv4,hlen⟩;simp only at h6 hT hv4 hlen;dsimp only;obtain⟨F,hF⟩:∃F:Nat×List Eu×List Eu->List (Nat×Value),F=fun _=>[(2,pp rt),(4,pp tb),(5,pp rb)]:=⟨_,rfl⟩
  obtain⟨I,hI⟩:∃I:Nat×List Eu×List Eu->Et->Prop,I=fun y w6=>RQ w1 w6 O rb tb y.2.1 b0 vs y.2.2 []/\tagR l=extN y.1 (vs.map lowS++y.2.2.map qgf) y.2.1/\y.2.1.length<=y.1/\(∀e∈y.2.2,1<=e.size)/\y.2.1.length+y.2.2.length<=l.length:=⟨_,rfl⟩
  obtain⟨mm,hmm⟩:∃mm:Nat×List Eu×List Eu->Nat,mm=fun y=>y.2.1.length:=⟨_,rfl⟩
  apply V.later
  case h=>
   intro body;(conv=>whnf);refine h6.ldr ?_;intro A c hS hc;conv=>whnf
   rcases r3 with _|⟨y,ys⟩
   ·refine Tst.no (AJ Js) (zu ?_);refine qj F I mm (0,[],[]) (by rw[hF];exact⟨rfl,rfl,rfl,trivial⟩) (by rw[hI];exact⟨h6,by rw[hT];rfl,Ar _,by simp,by simp⟩) body
   ·simp only[Aw]at hc hlen|-;refine Tst.yes (AD Oo) (zu ?_);refine h6.ldr ?_;intro A c hS hc;refine zu ?_;refine ElemV.sl hS rfl 0 rfl Js ?_;intro b off hcl;refine zu ?_;refine LoadV.cell0 hcl (zu ?_);have hy:=h6.small y mh;refine zcv (ql2 y Oo w6) ?_;rintro v w7 ⟨rfl,rfl⟩;cases q:varB y
    ·rw[qh7,Aa (by rw[q];simp)]at hT;refine zu ?_;refine qj F I mm ((y::ys).length,y::ys,[]) (by rw[hF];exact⟨rfl,rfl,rfl,trivial⟩) (by rw[hI];exact⟨h6,by rw[hT];simp,Ar _,by simp,by simp;omega⟩) body
    ·rw[qh7,Ad q]at hT;have hy4:4<=y.size:=by
      simp[varB,q6]at q;omega
     refine zu ?_;refine zcv (qbw h6) ?_;rintro v w8 ⟨rfl,h8⟩;(conv=>whnf);refine qj (fun i:Nat=>[(2,pp rt),(4,pp tb),(5,pp rb),(7,.string y),(8,ii i)])
      (fun i w9=>RQ w1 w9 O rb tb ys b0 vs [] []/\i<=vs.length/\∀(j:Nat) (hj:j<vs.length),j<i->lowS vs[j]≠lowS y)
      (fun i=>vs.length-i) 0 ⟨rfl,rfl,rfl,rfl,rfl,trivial⟩ ⟨h8,by omega,fun j hj h0=>by omega⟩ ?_
     rintro i w9 ρ2 ⟨h9,hi,hd⟩;(conv=>whnf);obtain⟨VA,vc,hVS,hc4⟩:=h9.cell4;refine LoadV.of hc4 (zw ?_);refine zC (fun _=>zw ?_) (fun _=>zw ?_)
     ·have hil:i<vs.length:=by omega
      have hvi:=hv4 _ (AT hil);refine LoadV.of hc4 (zw ?_);refine ElemV.sl hVS rfl i rfl hil ?_;intro b2 off2 hcl2;(conv=>whnf);refine LoadV.cell0 hcl2 (zw ?_);refine zcv (qa8 vs[i] Oo w9) ?_;rintro v w10 ⟨rfl,he10⟩;(conv=>whnf);refine zcv (qa8 y Oo w10) ?_;rintro v w11 ⟨rfl,he11⟩;have h11:=(h9.call he10).call he11;cases q2:seq (lowS vs[i]) (lowS y)
      ·(conv=>whnf);rw[q2];refine zv ?_;refine⟨i+1,⟨rfl,rfl,rfl,rfl,rfl,trivial⟩,⟨h11,by omega,fun j hj hji=>?_⟩,by omega⟩
       by_cases e:j=i
       ·subst e;intro e';rw[qac.2 e']at q2;cases q2
       ·exact hd j hj Oo
      ·have hin:lowS y∈vs.map lowS:=Bc.2 ⟨_,AT hil,qac.1 q2⟩;rw[Ad hin]at hT;have hno:¬tagP l:=fun h=>by obtain⟨l1,h1,_⟩:=h;rw[hT]at h1;cases h1
       (conv=>whnf);rw[q2];refine zv ?_;refine StoreA.mem (hm1.call h11.ext) (i:=0) rfl (Ar 7) qd9 fun w9 hm9=>zw ?_;refine qh (R:=fun v w'=>TagV l v/\Ext w w') (zw ?_);refine zl hm9 0 ?_;exact⟨⟨_,_,_,_,_,_,_,qd9,by rw[qdg hno];rfl⟩,hm9.ext⟩
     ·have hno:lowS y∉vs.map lowS:=by
       intro h0;obtain⟨z,hz,e⟩:=Bc.1 h0;obtain⟨j,hj,rfl⟩:=Cs.1 hz;exact hd j hj Oo e
      rw[Aa hno]at hT;clear hVS hc4;obtain⟨A,c,X,Y,a1,a2,a3,a6,L,h9⟩:=h9;obtain⟨VA,vc,e⟩:=(h9.rows.row 0 _ rfl).slice;simp only[AI]at e;subst e;refine LoadV.own (h9.mem.get h9.tg) rfl (zw ?_);refine NewV.rq0 h9 fun nb w10 h10 hnb=>zw ?_;refine h10.app4 hnb Oo ?_;intro B' d' w11 L' h11;(conv=>whnf);refine h11.st4 ?_;intro w12 h12;(conv=>whnf);refine⟨(vs++[y],ys,b0),⟨rfl,rfl,rfl,trivial⟩,⟨h12,by rw[hT,AG];rfl,?_,by simp;omega⟩,by simp⟩;intro v hv
      rcases Bj.1 hv with hv|hv
      ·exact hv4 v hv
      ·obtain rfl:=Ak.1 hv;exact⟨hy4,hy⟩
  case p=>
   subst hF hI hmm;clear hT h6 hlen;rintro⟨k,r5,es⟩ w7 ρ2 ⟨h7,hT,hk,hes,hlen⟩;simp only at h7 hT hk hes hlen;dsimp only;have stop:∀z zs,r5=z::zs->extS z=false->tagR l=some r5:=by
    rintro z zs rfl hz;obtain⟨k,rfl⟩:∃k',k=k'+1:=⟨k-1,by simp at hk;omega⟩
    rw[hT,extN,Aa (by rw[hz];simp)]
   (conv=>whnf);refine h7.ldr ?_;intro A c hS hc;conv=>whnf
   rcases r5 with _|⟨y,ys⟩
   ·have hR:tagR l=some []:=by rw[hT];cases k<;>rfl
    refine Tst.no (AJ Js) (zu ?_);refine h7.ldr ?_;intro A2 c2 hS2 hc2;(conv=>whnf);refine Tst.no (AJ Js) (zu ?_);refine h7.ldr ?_;intro A3 c3 hS3 hc3;(conv=>whnf);refine zC (fun _=>zw ?_) (fun _=>zw ?_)
    ·rename_i hh;exact absurd hh Js
    refine h7.ldA ?_;intro s0 s1 s2 s3 A4 n4 c4 A5 n5 c5 s6 hone;(conv=>whnf);refine StoreA.mem (hm1.call h7.ext) (i:=0) rfl (Ar 7) hone fun w9 hm9=>zw ?_;refine qh (R:=fun v w'=>TagV l v/\Ext w w') (zw ?_);refine zl hm9 0 ?_;exact⟨⟨_,_,_,_,_,_,_,hone,by rw[qlr ⟨[],hR,by rw[qns,Aa (by simp[seeB])]⟩];rfl⟩,hm9.ext⟩
   ·simp only[Aw]at hc hlen hk|-;have hy:=h7.small y mh;refine Tst.yes (AD Oo) (zu ?_);refine h7.ldr ?_;intro A c hS hc;refine zu ?_;refine ElemV.sl hS rfl 0 rfl Js ?_;intro b off hcl;refine zu ?_;refine LoadV.cell0 hcl (zu ?_);refine zcv (qa8 y Oo w7) ?_;rintro v w8 ⟨rfl,he8⟩;have h8:=h7.call he8;refine zu ?_;rw[qu6];cases q:qey y
    ·refine zv ?_;refine h8.ldr ?_;intro A2 c2 hS2 hc2;refine zu ?_;refine ElemV.sl hS2 rfl 0 rfl Js ?_;intro b2 off2 hcl2;refine zu ?_;refine LoadV.cell0 hcl2 (zu ?_);refine zcv (qg3 y 1 1 Oo w8) ?_;rintro v w9 ⟨rfl,rfl⟩;cases q1:q6 y 1 1 false
     ·have hR:=stop y ys rfl (by rw[extS,q1];rfl);have hno:¬tagP l:=fun h=>by
       obtain⟨l1,h1,h2⟩:=h;rw[hR]at h1;cases h1;rw[qns,Aa (by show ¬qey y=true;rw[q];simp)]at h2;cases h2
      refine zu ?_;refine h8.ldr ?_;intro A3 c3 hS3 hc3;(conv=>whnf);refine Tst.yes (AD (by simp only[Aw];omega)) (zu ?_);refine h8.ldr ?_;intro A4 c4 hS4 hc4;refine zu ?_;refine ElemV.sl hS4 rfl 0 rfl Js ?_;intro b3 off3 hcl3;refine zu ?_;refine LoadV.cell0 hcl3 (zu ?_);refine zcv (qa8 y Oo _) ?_;rintro v w9 ⟨rfl,he9⟩;have h9:=h8.call he9;refine zu ?_;rw[qu6,q];refine zv ?_;refine h9.ldr ?_;intro A5 c5 hS5 hc5;(conv=>whnf);refine Tst.yes (AD (by simp only[Aw];omega)) (zw ?_);refine StoreA.mem (hm1.call h9.ext) (i:=0) rfl (Ar 7) qd9 fun w9 hm9=>zw ?_;refine qh (R:=fun v w'=>TagV l v/\Ext w w') (zw ?_);refine zl hm9 0 ?_;exact⟨⟨_,_,_,_,_,_,_,qd9,by rw[qdg hno];rfl⟩,hm9.ext⟩
     ·refine zu ?_;have hy1:y.size=1:=by simp[q6]at q1;omega
      obtain⟨k,rfl⟩:∃k',k=k'+1:=⟨k-1,by omega⟩
      rw[extN,Ad (by rw[extS,q1,q];rfl)]at hT;refine zcv (qp8 h8 hy1 hes Oo) ?_;rintro v w10 ⟨he10,(⟨hbad,rfl⟩|⟨hgood,rfl,h10⟩)⟩
      ·have hno:¬tagP l:=fun h=>by
        obtain⟨l1,h1,_⟩:=h;rw[hT,Ad (hbad.imp id fun⟨e,he,h9⟩=>Ai _ (Bc.2 ⟨e,he,h9⟩))]at h1;cases h1
       refine zu ?_;refine StoreA.mem (hm1.call he10) (i:=0) rfl (Ar 7) qd9 fun w9 hm9=>zw ?_;refine qh (R:=fun v w'=>TagV l v/\Ext w w') (zw ?_);refine zl hm9 0 ?_;exact⟨⟨_,_,_,_,_,_,_,qd9,by rw[qdg hno];rfl⟩,hm9.ext⟩
      ·have hnot:¬(ys.takeWhile extQ=[]\/lowS y∈vs.map lowS++es.map qgf):=by
        rintro(h0|h0)
        ·exact hgood (.inl h0)
        ·rcases Bj.1 h0 with h0|h0
         ·obtain⟨z,hz,e⟩:=Bc.1 h0;have e:=Af ByteArray.size e;rw[qqo,qqo]at e;have:=(hv4 z hz).1;omega
         ·obtain⟨z,hz,e⟩:=Bc.1 h0;exact hgood (.inr ⟨z,hz,e⟩)
       rw[Aa hnot]at hT;obtain⟨f1,f2⟩:=q4p (l:=ys.takeWhile extQ) hy1;have hdl:(ys.dropWhile extQ).length+1<=ys.length+1:=by
        have:=(List.dropWhile_sublist extQ (l:=ys)).length_le;omega
       refine zu ?_;refine⟨(k,ys.dropWhile extQ,es++[jnS (y::ys.takeWhile extQ)]),⟨rfl,rfl,rfl,trivial⟩,⟨h10,?_,by simp only;omega,?_,by simp only[zla,Bh];omega⟩,by simp only;omega⟩
       ·simp only[AG,AW,BP,f2];rw[hT,Ag]
       ·intro e he
        rcases Bj.1 he with he|he
        ·exact hes e he
        ·obtain rfl:=Ak.1 he;exact f1
    ·have hR:=stop y ys rfl (qsp q).2;refine zv ?_;refine h8.ldr ?_;intro A3 c3 hS3 hc3;(conv=>whnf);refine Tst.yes (AD (by simp only[Aw];omega)) (zu ?_);refine h8.ldr ?_;intro A4 c4 hS4 hc4;refine zu ?_;refine ElemV.sl hS4 rfl 0 rfl Js ?_;intro b3 off3 hcl3;refine zu ?_;refine LoadV.cell0 hcl3 (zu ?_);refine zcv (qa8 y Oo w8) ?_;rintro v w9 ⟨rfl,he9⟩;have h9:=h8.call he9;refine zu ?_;rw[qu6,q];refine zv ?_;refine zcv (qxf h9 (by simp only[Aw];omega)) ?_;rintro v w10 ⟨rfl,h10⟩;have hend:qns (y::ys)↔ys≠[]/\ys.all qjo=true:=by rw[qns,Ad (by exact q)];rfl
     rw[List.tail_cons];cases q2:(decide (ys≠[])&&ys.all qjo)
     ·have hno:¬tagP l:=fun h=>by
       obtain⟨l1,h1,h2⟩:=h;rw[hR]at h1;cases h1;have:=hend.1 h2;rw[AD this.1,this.2]at q2;cases q2
      refine zu ?_;refine StoreA.mem (hm1.call h10.ext) (i:=0) rfl (Ar 7) qd9 fun w9 hm9=>zw ?_;refine qh (R:=fun v w'=>TagV l v/\Ext w w') (zw ?_);refine zl hm9 0 ?_;exact⟨⟨_,_,_,_,_,_,_,qd9,by rw[qdg hno];rfl⟩,hm9.ext⟩
     ·have hok:tagP l:=by
       simp only[AM,decide_eq_true_eq]at q2;exact⟨_,hR,hend.2 q2⟩
      refine zu ?_;refine h10.ldA ?_;intro s0 s1 s2 s3 A4 n4 c4 A5 n5 c5 s6 hone;(conv=>whnf);refine StoreA.mem (hm1.call h10.ext) (i:=0) rfl (Ar 7) hone fun w9 hm9=>zw ?_;refine qh (R:=fun v w'=>TagV l v/\Ext w w') (zw ?_);refine zl hm9 0 ?_;exact⟨⟨_,_,_,_,_,_,_,hone,by rw[qlr hok];rfl⟩,hm9.ext⟩
structure TM where
 kind:Int
 text:Eu
 type:Eu
 lang:Eu
def encT(t:TM):Ez:=[ii t.kind,.string t.text,.string t.type,.string t.lang]
def qa7(t:TM):Value:=.agg #[ii t.kind,.string t.text,.string t.type,.string t.lang]
structure TermOk(t:TM):Prop where
 kind:InR .i64 t.kind
 text:t.text.size<=140737488355328
 type:t.type.size<=140737488355328
 lang:t.lang.size<=140737488355328
def qfo:Eu:=⟨#[104,116,116,112,58,47,47,119,119,119,46,119,51,46,111,114,103,47,49,57,57,57,47,48,50,47,50,50,45,114,100,102,45,115,121,110,116,97,120,45,110,115,35,108,97,110,103,83,116,114,105,110,103]⟩
open Classical in
noncomputable def litE(t:TM):Nat:=
 if 65536<t.text.size then 2 else if scal t.text.data.toList=none then 40 else if iriE t.type≠0 then iriE t.type
 else if seq t.lang ⟨#[]⟩=false/\65536<t.lang.size then 2
 else if seq t.lang ⟨#[]⟩=false/\(tagE (qbd t.lang)≠0\/seq (lowS t.lang) t.lang=false)then 61
 else if(!seq t.lang ⟨#[]⟩)≠seq t.type qfo then 71 else 0
noncomputable def qaj(t:TM):Nat:=
 if t.kind=1\/t.kind=2 then(if seq t.type ⟨#[]⟩=false\/seq t.lang ⟨#[]⟩=false then 70 else if t.kind=1 then iriE t.text else if 65536<t.text.size then 2 else labE t.text)
 else if t.kind=3 then litE t else 70
theorem qmz(l:List Eu):tagE l=0\/tagE l=61:=by
 by_cases h:tagP l
 ·exact .inl (qlr h)
 ·exact .inr (qdg h)
theorem q7h(a:Int)(b:Nat)(w:Et)(hb:w.heap[b]?=some (.cells #[ii a,ii 61] 61)):
  Gv E4 184 [.slice (some ⟨b,0,none⟩) 2 2] w fun v w'=>v=ii (if a=0 then 61 else a)/\w'=w:=by
 refine ze Tryz.func184 Tryz.ntmps184 ?_;refine qj (fun i:Nat=>[(3,ii 0),(6,.slice (some ⟨b,0,none⟩) 2 2),(7,ii 2),(8,ii i)]) (fun i w1=>i<=1/\(i=1->a=0)/\w1=w) (fun i=>2-i) 0 ⟨rfl,rfl,rfl,rfl,trivial⟩ ⟨by omega,by omega,rfl⟩ ?_;rintro i w1 ρ' ⟨h1,h2,rfl⟩;obtain rfl|rfl:i=0\/i=1:=by omega
 ·refine zu ?_;refine ElemV.own1 0 rfl Oo (zw ?_);refine LoadV.of (by rw[qa hb];rfl) (zw ?_);refine zC (fun _=>zu ?_) (fun _=>zu ?_)
  ·exact⟨by rw[Aa Oo],rfl⟩
  ·exact⟨1,⟨rfl,rfl,rfl,rfl,trivial⟩,⟨by omega,fun _=>by omega,rfl⟩,by omega⟩
 ·refine zu ?_;refine ElemV.own1 1 rfl Oo (zw ?_);refine LoadV.of (by rw[qa hb];rfl) (zu ?_);exact⟨by rw[Ad (h2 rfl)],rfl⟩
theorem qsh(t:TM)(ht:TermOk t)(w:Et)(hM:MaxLenAt w):Gv E4 116 [qa7 t] w fun v w'=>v=ii (litE t)/\Ext w w':=by
 obtain⟨h1,h2,h3,h4⟩:=ht;refine ze Tryz.func116 Tryz.ntmps116 ?_;refine znm (Mem.nil w) fun b w1 hm=>zw ?_
 (repeat'(first|refine zC (fun _=>zw ?_) (fun _=>zw ?_)|refine LoadV.mem (i:=0) Oa rfl rfl (zw ?_)))
 ·exact⟨by rw[litE,Ad (show 65536<t.text.size by omega)];rfl,hm.ext⟩
 ·refine zcv (qpv t.text Oo w1) ?_;rintro v w2 ⟨⟨i,rfl,hi,hi1,hi2⟩,rfl⟩;have n1:¬65536<t.text.size:=by omega
  (conv=>whnf)
  (repeat'(first|refine zC (fun _=>zw ?_) (fun _=>zw ?_)|refine LoadV.mem (i:=0) Oa rfl rfl (zw ?_)))
  ·have hs:scal t.text.data.toList=none:=Bm fun h=>by have:=hi1 h;omega
   exact⟨by rw[litE,Aa n1,Ad hs];rfl,hm.ext⟩
  ·have n2:¬scal t.text.data.toList=none:=fun h=>by have:=hi2 h;omega
   refine zcv (qja t.type Oo w2) ?_;rintro v w3 ⟨rfl,he3⟩;have hm:=hm.call he3;have eL:litE t=if iriE t.type≠0 then iriE t.type else if seq t.lang ⟨#[]⟩=false/\65536<t.lang.size then 2
     else if seq t.lang ⟨#[]⟩=false/\(tagE (qbd t.lang)≠0\/seq (lowS t.lang) t.lang=false)then 61 else if(!seq t.lang ⟨#[]⟩)≠seq t.type qfo then 71 else 0:=by rw[litE,Aa n1,Aa n2]
   rw[eL];conv=>whnf
   (repeat'(first|refine zp ?_|refine zC (fun _=>zw ?_) (fun _=>zw ?_)|refine LoadV.mem (i:=0) Oa rfl rfl (zw ?_)))
   ·exact⟨by rw[Ad Oo],hm.ext⟩
   ·rw[Aa Oo];cases hl:seq t.lang ⟨#[]⟩
    ·(conv=>whnf)
     (repeat'(first|refine zp ?_|refine zC (fun _=>zw ?_) (fun _=>zw ?_)|refine LoadV.mem (i:=0) Oa rfl rfl (zw ?_)))
     ·exact⟨by rw[Ad ⟨rfl,by omega⟩];rfl,hm.ext⟩
     ·rw[Aa (show ¬(false=false/\65536<t.lang.size)by omega)];refine zcv (qabe t.lang Oo w3 (hM.ext hm.ext)) ?_;rintro v w4 ⟨⟨c0,c1,c2,c3,c4,c5,c6,hc,rfl⟩,he4⟩;have hm4:=hm.call he4;obtain⟨E,hE⟩:∃E,E=tagE (qbd t.lang):=⟨_,rfl⟩
      have hE2:=qmz (qbd t.lang);rw[<-hE]at hE2|-;(conv=>whnf);refine znm hm4 fun tb w5 hm5=>zw ?_;refine StoreA.mem hm5 (i:=0) rfl (Ar 7) hc fun w6 hm6=>zw ?_;have hlang:w6.cell? ⟨b,3,none⟩=some (.string t.lang):=by rw[qa (hm6.get (zmg (i:=1) rfl))];rfl
      rcases hE2 with rfl|rfl
      ·refine DrawV.free rfl Jk (zw ?_);(iterate 4 (refine zd ?_));refine zf ?_ (by intro wd hd;refine zu ?_;refine LoadV.of (Ext.cell (Ext.trans (Ext.drew xr) hd) hlang) ?_;(conv=>whnf);exact⟨xr,rfl⟩);apply zsd
       ·intro wd hd;refine zu ?_;refine zcv (qe8 t.lang Oo wd) ?_;rintro v w7 ⟨rfl,he7⟩;exact⟨he7,rfl⟩
       (conv=>whnf);refine zd ?_;refine zf ?_ (by intro wd hd;refine zu ?_;refine LoadV.of (Ext.cell (Ext.trans (Ext.drew xr) hd) hlang) ?_;(conv=>whnf);exact⟨xr,rfl⟩);refine zd ?_;refine zd ?_;intro wd hd;(conv=>whnf);have hm7:=hm6.drew.call hd;have hlang7:wd.cell? ⟨b,3,none⟩=some (.string t.lang):=by rw[qa (hm7.get (zmg (i:=1) rfl))];rfl
       have hty7:wd.cell? ⟨b,2,none⟩=some (.string t.type):=by rw[qa (hm7.get (zmg (i:=1) rfl))];rfl
       cases hlo:seq (lowS t.lang) t.lang
       ·rw[Ad ⟨rfl,.inr rfl⟩];refine zu ?_;refine znm hm7 fun ab w8 hm8=>zw ?_;refine zcv (q7h 0 ab w8 (hm8.get mh)) ?_;rintro v w9 ⟨rfl,rfl⟩;(conv=>whnf);exact⟨rfl,hm8.ext⟩
       ·rw[Aa Js];(conv=>whnf);refine zt ?_;refine LoadV.mem (i:=1) Oa rfl rfl (zw ?_);refine LoadV.mem (i:=1) Oa rfl rfl (zw ?_);refine zt ?_;show Tst ((!seq t.lang ⟨#[]⟩)==seq t.type qfo) _ _;rw[hl];cases ht:seq t.type qfo
        ·refine zu ?_;exact⟨rfl,hm7.ext⟩
        ·refine zu ?_;exact⟨rfl,hm7.ext⟩
      ·rw[Ad ⟨rfl,.inl Od⟩];refine DrawV.free rfl Jk (zw ?_);(iterate 10 (refine zd ?_));intro wd hd;(conv=>whnf);have hm7:=hm6.drew.call hd;refine zv ?_;refine znm hm7 fun ab w8 hm8=>zw ?_;refine zcv (q7h 61 ab w8 (hm8.get mh)) ?_;rintro v w9 ⟨rfl,rfl⟩;(conv=>whnf);exact⟨rfl,hm8.ext⟩
    ·rw[Aa Js,Aa Js];(conv=>whnf);refine zt ?_;refine LoadV.mem (i:=0) Oa rfl rfl (zw ?_);refine LoadV.mem (i:=0) Oa rfl rfl (zw ?_);refine zt ?_;show Tst ((!seq t.lang ⟨#[]⟩)==seq t.type qfo) _ _;rw[hl];cases ht:seq t.type qfo
     ·refine zu ?_;exact⟨rfl,hm.ext⟩
     ·refine zu ?_;exact⟨rfl,hm.ext⟩
theorem qh1(t:TM)(ht:TermOk t)(w:Et)(hM:MaxLenAt w)(hT:CellsAt w 6 0 qb1):Gv E4 66 [qa7 t] w fun v w'=>v=ii (qaj t)/\Ext w w':=by
 have hlit:=fun w1 (he:Ext w w1)=>qsh t ht w1 (hM.ext he)
 obtain⟨h1,h2,h3,h4⟩:=ht;refine ze Tryz.func66 Tryz.ntmps66 ?_;refine znm (Mem.nil w) fun b w1 hm=>zw ?_;have hA:(t.kind=1\/t.kind=2)->qaj t=if seq t.type ⟨#[]⟩=false\/seq t.lang ⟨#[]⟩=false then 70 else if t.kind=1 then iriE t.text else if 65536<t.text.size then 2 else labE t.text:=fun h=>by rw[qaj,Ad h]
 have hB:¬(t.kind=1\/t.kind=2)->qaj t=if t.kind=3 then litE t else 70:=fun h=>by rw[qaj,Aa h]
 (repeat'(first|refine zp ?_|refine zC (fun _=>zw ?_) (fun _=>zw ?_)|refine LoadV.mem (i:=0) Oa rfl rfl (zw ?_)))
 ·rw[hA (.inl Oa)];cases hy:seq t.type ⟨#[]⟩
  ·refine zu ?_;exact⟨by rw[Ad (.inl rfl)];rfl,hm.ext⟩
  ·(conv=>whnf);refine zt ?_;refine LoadV.mem (i:=0) Oa rfl rfl (zw ?_);refine zt ?_;cases hl:seq t.lang ⟨#[]⟩
   ·refine zu ?_;exact⟨by rw[Ad (.inr rfl)];rfl,hm.ext⟩
   ·rw[Aa Js,Ad Oa];(conv=>whnf);refine zt ?_;refine LoadV.mem (i:=0) Oa rfl rfl (zw ?_);refine zt ?_;refine LoadV.mem (i:=0) Oa rfl rfl (zw ?_);refine zcv (qja t.text Oo w1) ?_;rintro v w2 ⟨rfl,he⟩;(conv=>whnf);exact⟨rfl,hm.ext.trans he⟩
 ·rw[hA (.inr Oa)];cases hy:seq t.type ⟨#[]⟩
  ·refine zu ?_;exact⟨by rw[Ad (.inl rfl)];rfl,hm.ext⟩
  ·(conv=>whnf);refine zt ?_;refine LoadV.mem (i:=0) Oa rfl rfl (zw ?_);refine zt ?_;cases hl:seq t.lang ⟨#[]⟩
   ·refine zu ?_;exact⟨by rw[Ad (.inr rfl)];rfl,hm.ext⟩
   ·rw[Aa Js,Aa Oo];conv=>whnf
    (repeat'(first|refine zp ?_|refine zC (fun _=>zw ?_) (fun _=>zw ?_)|refine LoadV.mem (i:=0) Oa rfl rfl (zw ?_)))
    ·exact⟨by rw[Ad Oo];rfl,hm.ext⟩
    ·rw[Aa Oo];refine zcv (q0b t.text Oo w1 (hT.ext hm.ext)) ?_;rintro v w2 ⟨rfl,rfl⟩;(conv=>whnf);exact⟨rfl,hm.ext⟩
 ·rw[hB Oo,Ad Oa];refine zl hm 0 ?_;refine zcv (hlit w1 hm.ext) ?_;rintro v w2 ⟨rfl,he⟩;(conv=>whnf);exact⟨rfl,hm.ext.trans he⟩
 ·exact⟨by rw[hB Oo,Aa Oo];rfl,hm.ext⟩
theorem q48(d:Bool)(r:Nat)(l:E0):okT d (r::l)=((qds r||decide (r=46))&&okT (decide (r=46)) l):=rfl
theorem qmy(r0:Nat)(t:E0)(A:oA)(c:Nat)(w:Et)(hA:SlAt zeI 1 w A ((r0::t).map Int.ofNat))(hl:t.length<=4000000000000):
  Gv E4 192 [.slice A (t.length+1) c] w fun v w'=>v=.bool (okT false t)/\Ext w w':=by
 refine ze Tryz.func192 Tryz.ntmps192 ?_;refine qj (fun x:Nat×Bool=>[(0,.slice A (t.length+1) c),(3,ii (x.1+1:Nat))]) (fun x w2=>x.1<=t.length/\okT false t=okT x.2 (t.drop x.1)/\(x.2=true->x.1<t.length)/\Ext w w2) (fun x=>t.length-x.1) (0,false) ⟨rfl,rfl,trivial⟩ ⟨by simp,rfl,by simp,xr⟩ ?_;rintro⟨i,d⟩ w2 ρ' ⟨h1,h2,h3,he⟩;simp only at h1 h2 h3;dsimp only;(conv=>whnf);refine zC (fun _=>zw ?_) (fun _=>zw ?_)
 ·have hil:i<t.length:=by omega
  have hget:∀w' (_:Ext w w'),∃b off,A=some ⟨b,off,none⟩/\w'.cell? ⟨b,off+(i+1)*1,none⟩=some (ii t[i]):=fun w' he'=>by
   obtain⟨b,off,e1,e2⟩:=(hA.ext he').at_ Js;refine⟨b,off,e1,?_⟩;have:=e2 (i+1) (Int.ofNat t[i]) (by simp[hil]) 0 (ii t[i]) rfl
   simpa using this
  rw[B9 hil,q48]at h2;obtain⟨b,off,rfl,hc⟩:=hget w2 he;refine⟨b,off,i+1,rfl,by omega,by omega,?_⟩;(conv=>whnf);refine LoadV.of hc (zw ?_);refine zcv (qk8 _ w2) ?_;rintro v w3 ⟨rfl,he3⟩;have hf46:qds 46=false:=by decide
  cases hf:qds t[i]
  ·rw[hf,Dr]at h2;refine zu ?_;refine⟨b,off,i+1,rfl,by omega,by omega,?_⟩;(conv=>whnf);obtain⟨b',off',e1,hc3⟩:=hget w3 (he.trans he3);cases e1;refine zv ?_;refine LoadV.of hc3 (zw ?_)
   (repeat'(first|refine zp ?_|refine zC (fun _=>zw ?_) (fun _=>zw ?_)))
   ·refine⟨Af Value.bool ?_,he.trans he3⟩;rw[h2,AJ Oo];rfl
   ·refine⟨Af Value.bool ?_,he.trans he3⟩;rw[h2,AD Oo,Bf Oo];rfl
   ·refine⟨(i+1,true),⟨rfl,rfl,trivial⟩,⟨by simp only;omega,?_,by simp only;omega,he.trans he3⟩,by simp only;omega⟩;rw[h2,AD Oo,Df]
  ·have hne:t[i]≠46:=by intro e;rw[e]at hf;rw[show((46:Nat):Int)=46 from rfl,hf46]at hf;cases hf
   rw[hf,Bool.true_or,Df,AJ hne]at h2;refine zu ?_;exact⟨(i+1,false),⟨rfl,rfl,trivial⟩,⟨by simp only;omega,h2,by simp,he.trans he3⟩,by simp only;omega⟩
 ·refine⟨Af Value.bool ?_,he⟩;have hi:i=t.length:=by omega
  rw[h2,Bf Oo];cases d with
  | false=>rfl
  | true=>have:=h3 rfl;omega
theorem qq9(s:Eu)(hs:s.size<=4000000000000)(w:Et):
  Gv E4 120 [.string s] w fun v w'=>v=ii (labE s)/\Ext w w':=by
 have hsc:=qs7 s hs w;have hno:qca s=false->labE s=60:=fun h=>by rw[labE,Aa (by rw[h];simp)]
 have hyes:qca s=true->labE s=0:=fun h=>by rw[labE,Ad h]
 refine ze Tryz.func120 Tryz.ntmps120 ?_;refine zcv (hsc) ?_;rintro v w1 ⟨⟨hn,rfl⟩|⟨l,A,c,hl,rfl,hA,hlen⟩,he⟩
 ·have hL:qca s=false:=by rw[qca,hn]
  refine zu ?_;exact⟨by rw[hno hL];rfl,he⟩
 ·have hL:qca s=labL l:=by rw[qca,hl]
  cases l with
  | nil=>
   simp only[BV];refine zu ?_;exact⟨by rw[hno hL];rfl,he⟩
  | cons r0 t=>
   have hL:qca s=(labB r0&&okT false t):=hL;have hget:∀w' (_:Ext w1 w'),∃b off,A=some ⟨b,off,none⟩/\w'.cell? ⟨b,off+0*1,none⟩=some (ii r0):=fun w' he'=>by
    obtain⟨b,off,e1,e2⟩:=(hA.ext he').at_ Js;exact⟨b,off,e1,by simpa using e2 0 (Int.ofNat r0) Js 0 (ii r0) rfl⟩
   obtain⟨b,off,rfl,hc⟩:=hget w1 xr;simp only[Aw]at hlen|-;refine zu ?_;refine⟨b,off,0,rfl,by omega,by omega,?_⟩;refine zu ?_;refine LoadV.of hc (zu ?_);refine zcv (qgh _ w1) ?_;rintro v w2 ⟨rfl,he2⟩;cases hS:qgl r0
   ·refine zu ?_;refine⟨b,off,0,rfl,by omega,by omega,?_⟩;refine zu ?_;obtain⟨b',off',e1,hc2⟩:=hget w2 he2;cases e1;refine LoadV.of hc2 (zu ?_);refine zcv (qht _ w2) ?_;rintro v w3 ⟨rfl,rfl⟩;cases hD:digN r0
    ·have hb:qca s=false:=by rw[hL,labB,hS,hD];rfl
     refine zu ?_;exact⟨by rw[hno hb];rfl,he.trans he2⟩
    ·have hb:labB r0=true:=by rw[labB,hS,hD];rfl
     refine zu ?_;refine zcv (qmy r0 t _ c w3 (hA.ext he2) Oo) ?_;rintro v w4 ⟨rfl,he4⟩;have hx:=he.trans (he2.trans he4);cases hO:okT false t
     ·have hb:qca s=false:=by rw[hL,hO,Dx]
      refine zu ?_;exact⟨by rw[hno hb];rfl,hx⟩
     ·have hb:qca s=true:=by rw[hL,hb,hO];rfl
      refine zu ?_;exact⟨by rw[hyes hb];rfl,hx⟩
   ·have hb:labB r0=true:=by rw[labB,hS];rfl
    refine zu ?_;refine zcv (qmy r0 t _ c w2 (hA.ext he2) Oo) ?_;rintro v w4 ⟨rfl,he4⟩;have hx:=he.trans (he2.trans he4);cases hO:okT false t
    ·have hb:qca s=false:=by rw[hL,hO,Dx]
     refine zu ?_;exact⟨by rw[hno hb];rfl,hx⟩
    ·have hb:qca s=true:=by rw[hL,hb,hO];rfl
     refine zu ?_;exact⟨by rw[hyes hb];rfl,hx⟩
theorem qqn(s:Eu):seq (lowS s) s=true↔∀i,i<s.size->¬(65<=(gb s i).toNat/\(gb s i).toNat<=90):=by
 rw[qac]
 constructor
 ·intro h i hi hc;have e:=Af (fun b:Eu=>b.data.toList[i]?) h;have hi':i<s.data.toList.length:=by simpa using hi
  simp only[lowS,Au]at e;rw[zge hi']at e;have hg:s.data.toList[i]=gb s i:=by rw[gb,Ah,zge hi',CE]
  rw[hg]at e;have e:=Bs e;have:=qoe (gb s i) hc;rw[e]at this;omega
 ·intro h;have e:s.data.toList.map lowB=s.data.toList:=by
   apply List.ext_getElem Js;intro i h1 h2;rw[Cu];have hg:s.data.toList[i]=gb s i:=by rw[gb,Ah,zge h2,CE]
   rw[hg];exact qof _ (h i (by simpa using h2))
  unfold lowS;rw[e]
theorem ql1(t:TM)(ht:TermOk t)(w:Et):Gv E4 121 [qa7 t] w fun v w'=>v=ii (litE t)/\Ext w w':=by
 obtain⟨h1,h2,h3,h4⟩:=ht;refine ze Tryz.func121 Tryz.ntmps121 ?_;refine znm (Mem.nil w) fun b w1 hm=>zw ?_
 (repeat'(first|((with_reducible refine zC (fun _=>?_) (fun _=>?_))<;>first|(exfalso;omega)|(conv=>whnf))|(refine LoadV.mem (i:=0) Oa rfl rfl ?_;(conv=>whnf))))
 ·exact⟨by rw[litE,Ad (show 65536<t.text.size by omega)];rfl,hm.ext⟩
 ·have n1:¬65536<t.text.size:=by omega
  refine zcv (qjf t.text Oo w1) ?_;rintro v w2 ⟨⟨i,rfl,hi,hi1,hi2⟩,he2⟩;have hm:=hm.call he2;conv=>whnf
  (repeat'(first|((with_reducible refine zC (fun _=>?_) (fun _=>?_))<;>first|(exfalso;omega)|(conv=>whnf))|(refine LoadV.mem (i:=0) Oa rfl rfl ?_;(conv=>whnf))))
  ·have hs:scal t.text.data.toList=none:=Bm fun h=>by have:=hi1 h;omega
   exact⟨by rw[litE,Aa n1,Ad hs];rfl,hm.ext⟩
  ·have n2:¬scal t.text.data.toList=none:=fun h=>by have:=hi2 h;omega
   refine zcv (qfj t.type Oo w2) ?_;rintro v w3 ⟨rfl,he3⟩;have hm:=hm.call he3;have eL:litE t=if iriE t.type≠0 then iriE t.type else if seq t.lang ⟨#[]⟩=false/\65536<t.lang.size then 2
     else if seq t.lang ⟨#[]⟩=false/\(tagE (qbd t.lang)≠0\/seq (lowS t.lang) t.lang=false)then 61 else if(!seq t.lang ⟨#[]⟩)≠seq t.type qfo then 71 else 0:=by rw[litE,Aa n1,Aa n2]
   rw[eL];conv=>whnf
   (repeat'(first|((with_reducible refine zC (fun _=>?_) (fun _=>?_))<;>first|(exfalso;omega)|(conv=>whnf))|((with_reducible refine zP ?_))|(refine LoadV.mem (i:=0) Oa rfl rfl ?_;(conv=>whnf))))
   ·exact⟨by rw[Ad Oo],hm.ext⟩
   ·rw[Aa Oo];cases hl:seq t.lang ⟨#[]⟩
    ·(conv=>whnf)
     (repeat'(first|((with_reducible refine zU ?_);(conv=>whnf))|((with_reducible refine zC (fun _=>?_) (fun _=>?_))<;>first|(exfalso;omega)|(conv=>whnf))|(refine LoadV.mem (i:=0) Oa rfl rfl ?_;(conv=>whnf))))
     ·exact⟨by rw[Ad ⟨rfl,by omega⟩];rfl,hm.ext⟩
     ·rw[Aa (show ¬(false=false/\65536<t.lang.size)by omega)];refine zcv (qxr t.lang Oo w3) ?_;rintro v w4 ⟨⟨c0,c1,c2,c3,c4,c5,c6,hc,rfl⟩,he4⟩;have hm4:=hm.call he4;obtain⟨E,hE⟩:∃E,E=tagE (qbd t.lang):=⟨_,rfl⟩
      have hE2:=qmz (qbd t.lang);rw[<-hE]at hE2|-;conv=>whnf
      rcases hE2 with rfl|rfl
      ·refine zN (fun _=>?_);(conv=>whnf);have lg:∀w5,Ext w4 w5->w5.cell? ⟨b,3,none⟩=some (.string t.lang):=fun w5 he5=>by rw[qa ((hm4.call he5).get (zmg (i:=0) rfl))];rfl
       refine qj (fun i:Nat=>[(1,pp b),(4,ii i)])
        (fun i w5=>Ext w4 w5/\i<=t.lang.size/\∀j,j<i->¬(65<=(gb t.lang j).toNat/\(gb t.lang j).toNat<=90))
        (fun i=>t.lang.size-i) 0 ⟨rfl,rfl,trivial⟩ ⟨xr,by omega,fun j h0=>by omega⟩ ?_
       rintro i w5 ρ' ⟨he5,hi,hj⟩;have hm5:=hm4.call he5;(conv=>whnf);refine zr hm5 0 ?_
       (repeat'(first|(refine zA ?_;(conv=>whnf))|((with_reducible refine zT ?_);(conv=>whnf))|((with_reducible refine zU ?_);(conv=>whnf))|((with_reducible refine zC (fun _=>?_) (fun _=>?_))<;>first|(exfalso;omega)|(conv=>whnf))|((with_reducible refine zP ?_))|((with_reducible refine zX ?_);(conv=>whnf))|(refine LoadV.mem (i:=0) Oa rfl rfl ?_;(conv=>whnf))))
       ·have hlow:seq (lowS t.lang) t.lang=false:=Bz.2 fun h=>qqn t.lang |>.1 h i Oo Oo
        exact⟨by rw[Ad ⟨rfl,.inr hlow⟩];rfl,hm5.ext⟩
       ·refine⟨i+1,⟨rfl,rfl,trivial⟩,⟨he5,by omega,fun j hji=>?_⟩,by omega⟩
        by_cases e:j=i
        ·subst e;omega
        ·exact hj j Oo
       ·refine⟨i+1,⟨rfl,rfl,trivial⟩,⟨he5,by omega,fun j hji=>?_⟩,by omega⟩
        by_cases e:j=i
        ·subst e;omega
        ·exact hj j Oo
       ·have hlow:seq (lowS t.lang) t.lang=true:=qqn t.lang |>.2 fun j hj'=>hj j Oo
        rw[Aa (by rw[hlow];simp)];show Tst ((!seq t.lang ⟨#[]⟩)==seq t.type qfo) _ _;rw[hl];cases ht:seq t.type qfo
        ·(conv=>whnf);refine Tst.beqF ?_;refine zP ?_;refine zU ?_;(conv=>whnf);exact⟨rfl,hm5.ext⟩
        ·(conv=>whnf);refine Tst.beqT ?_;refine zP ?_;refine zU ?_;(conv=>whnf);exact⟨rfl,hm5.ext⟩
      ·(conv=>whnf);refine zY (fun _=>?_);(conv=>whnf);exact⟨by rw[Ad ⟨rfl,.inl Od⟩],hm4.ext⟩
    ·rw[Aa Js,Aa Js];(conv=>whnf);refine zT ?_;(conv=>whnf);(iterate 2 (refine LoadV.mem (i:=0) Oa rfl rfl ?_;(conv=>whnf)));refine zP ?_;show Tst ((!seq t.lang ⟨#[]⟩)==seq t.type qfo) _ _;rw[hl];cases ht:seq t.type qfo
     ·(conv=>whnf);refine Tst.beqF ?_;refine zP ?_;refine zT ?_;(conv=>whnf);exact⟨rfl,hm.ext⟩
     ·(conv=>whnf);refine Tst.beqT ?_;refine zP ?_;refine zT ?_;(conv=>whnf);exact⟨rfl,hm.ext⟩
theorem qbf(t:TM)(ht:TermOk t)(w:Et):Gv E4 69 [qa7 t] w fun v w'=>v=ii (qaj t)/\Ext w w':=by
 have hlit:=fun w1=>ql1 t ht w1
 obtain⟨h1,h2,h3,h4⟩:=ht;refine ze Tryz.func69 Tryz.ntmps69 ?_;refine znm (Mem.nil w) fun b w1 hm=>zw ?_;have hA:(t.kind=1\/t.kind=2)->qaj t=if seq t.type ⟨#[]⟩=false\/seq t.lang ⟨#[]⟩=false then 70 else if t.kind=1 then iriE t.text else if 65536<t.text.size then 2 else labE t.text:=fun h=>by rw[qaj,Ad h]
 have hB:¬(t.kind=1\/t.kind=2)->qaj t=if t.kind=3 then litE t else 70:=fun h=>by rw[qaj,Aa h]
 (repeat'(first|((with_reducible refine zC (fun _=>?_) (fun _=>?_))<;>first|(exfalso;omega)|(conv=>whnf))|((with_reducible refine zP ?_))|(refine LoadV.mem (i:=0) Oa rfl rfl ?_;(conv=>whnf))))
 ·rw[hA (.inl Oa)];cases hy:seq t.type ⟨#[]⟩
  ·(conv=>whnf);refine zU ?_;(conv=>whnf);(iterate 4 (refine zT ?_;(conv=>whnf)));exact⟨by rw[Ad (.inl rfl)];rfl,hm.ext⟩
  ·(conv=>whnf);refine zT ?_;(conv=>whnf);refine zU ?_;(conv=>whnf);refine LoadV.mem (i:=0) Oa rfl rfl (zw ?_);(iterate 2 (refine zU ?_;(conv=>whnf)));refine zP ?_;cases hl:seq t.lang ⟨#[]⟩
   ·(conv=>whnf);refine zU ?_;(conv=>whnf);exact⟨by rw[Ad (.inr rfl)];rfl,hm.ext⟩
   ·rw[Aa Js,Ad Oa];(conv=>whnf);refine zT ?_;(conv=>whnf);refine LoadV.mem (i:=0) Oa rfl rfl (zw ?_);refine zY (fun _=>?_);(conv=>whnf);refine LoadV.mem (i:=0) Oa rfl rfl (zw ?_);refine zcv (qfj t.text Oo w1) ?_;rintro v w2 ⟨rfl,he⟩;(conv=>whnf);exact⟨rfl,hm.ext.trans he⟩
 ·rw[hA (.inr Oa)];cases hy:seq t.type ⟨#[]⟩
  ·(conv=>whnf);refine zU ?_;(conv=>whnf);(iterate 4 (refine zT ?_;(conv=>whnf)));exact⟨by rw[Ad (.inl rfl)];rfl,hm.ext⟩
  ·(conv=>whnf);refine zT ?_;(conv=>whnf);refine zU ?_;(conv=>whnf);refine LoadV.mem (i:=0) Oa rfl rfl (zw ?_);(iterate 2 (refine zU ?_;(conv=>whnf)));refine zP ?_;cases hl:seq t.lang ⟨#[]⟩
   ·(conv=>whnf);refine zU ?_;(conv=>whnf);exact⟨by rw[Ad (.inr rfl)];rfl,hm.ext⟩
   ·rw[Aa Js,Aa Oo];conv=>whnf
    (repeat'(first|((with_reducible refine zT ?_);(conv=>whnf))|((with_reducible refine zC (fun _=>?_) (fun _=>?_))<;>first|(exfalso;omega)|(conv=>whnf))|(refine LoadV.mem (i:=0) Oa rfl rfl ?_;(conv=>whnf))))
    ·exact⟨by rw[Ad Oo];rfl,hm.ext⟩
    ·rw[Aa Oo];refine zcv (qq9 t.text Oo w1) ?_;rintro v w2 ⟨rfl,he⟩;(conv=>whnf);exact⟨rfl,hm.ext.trans he⟩
 ·rw[hB Oo,Ad Oa];refine zl hm 0 ?_;refine zcv (hlit w1) ?_;rintro v w2 ⟨rfl,he⟩;(conv=>whnf);exact⟨rfl,hm.ext.trans he⟩
 ·exact⟨by rw[hB Oo,Aa Oo];rfl,hm.ext⟩
open Go.RowKit
namespace V
theorem StoreA.all{P:Ev}{w0 w:Et}{L:Ey}{i b:Nat}{cur:E6}{t:Ew}{vs:Ez}{K:Et->Prop}(h:Mem w0 w L)(hi:L[i]?=some (b,.cells cur t))(hl:cur.size=vs.length)(h1:∀v∈vs,v.oneCell'=true)(hk:∀w',Mem w0 w' (L.set i (b,.cells vs.toArray t))->K w'):StoreA P w b 0 vs K:=by
 refine StoreA.mem h hi Oo h1 fun w' hw=>hk w' ?_;have e:(cur.toList.take 0++vs++cur.toList.drop (0+vs.length)).toArray=vs.toArray:=by
  rw[B8,Br,Bf Ys,AY]
 rwa[e]at hw
end V
open V
theorem q0o:∀(x y:LB),Op.bytesLess x y=decide (x<y)
 | [],[]=>by simp[Op.bytesLess]
 | _::_,[]=>by simp[Op.bytesLess]
 | [],_::_=>by simp[Op.bytesLess]
 | a::x,b::y=>by
  rw[Op.bytesLess,q0o x y];simp only[BC]
  by_cases h1:a<b<;>by_cases h2:a=b<;>by_cases h3:x<y<;>simp[h1,h2,h3]
theorem qem{a b:Eu}:slt a b=true↔a.data.toList<b.data.toList:=by
 unfold slt;rw[q0o,ByteArray.toList_eq,ByteArray.toList_eq,decide_eq_true_iff]
theorem qd5(a:Eu):slt a a=false:=by
 rw[<-Dv,qem];exact List.lt_irrefl _
theorem qfn{a b c:Eu}(h:slt a b=true)(k:slt b c=true):slt a c=true:=by
 rw[qem]at *;exact List.lt_trans h k
theorem qo7(a b:Eu):slt a b=true\/a=b\/slt b a=true:=by
 rw[qem,qem]
 by_cases h1:a.data.toList<b.data.toList
 ·exact .inl h1
 ·by_cases h2:b.data.toList<a.data.toList
  ·exact .inr (.inr h2)
  ·refine .inr (.inl ?_);have:=List.le_antisymm (List.not_lt.1 h2) (List.not_lt.1 h1);cases a;cases b;simpa using this
namespace V
def encB(c:Ex):Ez:=[.int .u8 c.toNat]
structure BS(w:Et)(v:Value)(l:LB):Prop where
 h:∃A c,v=.slice A l.length c/\l.length<=c/\SlAt encB 1 w A l
theorem BS.ext{w w':Et}{v:Value}{l:LB}(h:BS w v l)(he:Ext w w'):BS w' v l:=by
 obtain⟨A,c,h1,h2,h3⟩:=h;exact⟨A,c,h1,h2,h3.ext he⟩
theorem BS.nil(w:Et):BS w (.slice none 0 0) []:=⟨none,0,rfl,by simp,⟨fun h=>absurd rfl h⟩⟩
theorem SlAt.cut{α:Type}{enc:α->Ez}{size:Nat}{w:Et}{A A':oA}{l:List α}{lo hi m:Nat}(h:SlAt enc size w A l)(h1:lo<=hi)(h2:hi<=l.length)(h3:hi<=m)(e:A'=if m=lo then A else A.map (·.add (lo*size))):SlAt enc size w A' ((l.drop lo).take (hi-lo)):=by
 refine⟨fun hne=>?_⟩;have hlt:lo<hi:=by
  rcases Ba lo hi with h|h
  ·exact h
  ·exact absurd (by rw[show hi-lo=0 by omega,B8]) hne
 have hn:l≠[]:=by rintro rfl;simp at h2;omega
 obtain⟨b,off,rfl,hc⟩:=h.at_ hn;rw[Aa Oo]at e;simp only[BG,qan]at e;refine⟨b,off+lo*size,e,fun j x hx=>?_⟩;have hj:j<hi-lo:=by
  have:=(Ae.1 hx).1;simp at this;omega
 have hx':l[lo+j]?=some x:=by
  rw[Bi,Ad hj,Cm]at hx;exact hx
 have:=hc (lo+j) x hx'
 rwa[DN,<-Cy]at this
theorem SliceV.bs{w:Et}{A:oA}{n c:Nat}{lo hi mx:Option Value}{l:LB}{K:Value->Prop}(hA:SlAt encB 1 w A l)(hl:l.length=n)(a b m:Nat)(h1:bnd lo 0 a)(h2:bnd hi n b)(h3:bnd mx c m)(hab:a<=b)(hbn:b<=n)(hbm:b<=m)(hm:m<=c)(hs:mx.isSome=true->hi.isSome=true)(hk:∀A',SlAt encB 1 w A' ((l.drop a).take (b-a))->K (.slice A' (b-a) (m-a))):SliceV 1 A n c lo hi mx K:=
 ⟨a,b,m,h1,h2,h3,hab,hbm,hm,hs,fun A' e=>hk A' (hA.cut hab Oo hbm e)⟩
theorem ElemV.bs{w:Et}{A:oA}{n:Nat}{l:LB}{i:Int}{K:Value->Prop}(hA:SlAt encB 1 w A l)(hl:l.length=n)(j:Nat)(e:i=(j:Int))(hj:j<n)(hk:∀b off,w.cell? ⟨b,off,none⟩=some (.int .u8 (l[j]'(hl ▸ hj)).toNat)->K (.pointer (some ⟨b,off,none⟩))):ElemV A i n 1 K:=
 ElemV.sl hA hl j e hj fun b off hc=>hk b off (by have:=hc 0 _ rfl;rwa[BI]at this)
structure Upd(w w':Et)(b:Nat)(o:Obj):Prop where
 os:w'.os=w.os
 tape:w'.tape=w.tape
 output:w'.output=w.output
 size:w.heap.size<=w'.heap.size
 block:∀k,k<w.heap.size->k≠b->w'.heap[k]?=w.heap[k]?
 at_:w'.heap[b]?=some o
theorem Upd.refl{w:Et}{b:Nat}{o:Obj}(h:w.heap[b]?=some o):Upd w w b o:=⟨rfl,rfl,rfl,Ar _,fun _ _ _=>rfl,h⟩
theorem Upd.of{w w':Et}{b:Nat}{o:Obj}(h:w.heap[b]?=some o)(he:Ext w w'):Upd w w' b o:=⟨he.os,he.tape,he.output,he.size,fun k hk _=>he.block k hk,he.get h⟩
theorem Upd.set{w w':Et}{b off:Nat}{cs:E6}{t:Ew}{fr:Nat×Nat}{v:Value}(h:w.heap[b]?=some (.cells cs t fr))(hw:w'=w.setCell ⟨b,off,none⟩ v):Upd w w' b (.cells (cs.setIfInBounds off v) t fr):=by
 subst hw;exact⟨rfl,rfl,rfl,by simp[World.setCell],fun k _ hk=>Below.heap_setCell _ _ _ _ hk,heap_setCell h⟩
theorem Upd.trans{a b c:Et}{k:Nat}{o o':Obj}(h:Upd a b k o)(h':Upd b c k o'):Upd a c k o':=
 ⟨h'.os.trans h.os,h'.tape.trans h.tape,h'.output.trans h.output,Bd h.size h'.size,fun j hj hne=>(h'.block j (Bx hj h.size) hne).trans (h.block j hj hne),h'.at_⟩
theorem Upd.ext{w0 w w':Et}{b:Nat}{o:Obj}(h:Upd w w' b o)(he:Ext w0 w)(hb:w0.heap.size<=b):Ext w0 w':=
 Below.trans he ⟨h.os,h.tape,h.output,h.size,fun k hk=>h.block k (Bx hk he.size) Oo⟩
theorem Mem.upd{w0 w w':Et}{L:Ey}{i b:Nat}{o o':Obj}(h:Mem w0 w L)(hi:L[i]?=some (b,o))(hu:Upd w w' b o'):Mem w0 w' (L.set i (b,o')):=by
 have hm:(b,o)∈L:=zmg hi;have hil:i<L.length:=(Ae.1 hi).1;have hib:L[i]=(b,o):=(Ae.1 hi).2;have hn:((L.set i (b,o')).map (·.1))=L.map (·.1):=by
  rw[DO];apply BT;intro j;rw[BK]
  split
  ·rename_i e;subst e
   rw[Au,hi];simp[hil]
  ·rfl
 refine⟨hu.ext h.ext (h.own _ hm).1,?_,by rw[hn];exact h.nodup⟩;intro x hx
 rcases CO hx with hx' | rfl
 ·refine⟨(h.own x hx').1,?_⟩
  by_cases e:x.1=b
  ·obtain⟨j,hj,hje⟩:=Cs.1 hx
   by_cases hij:j=i
   ·subst hij;rw[List.getElem_set_self]at hje;rw[<-hje];exact hu.at_
   ·have h1:(L.map (·.1))[j]'(by simpa using hj)=b:=by
     have:(L.set i (b,o'))[j]=L[j]'(by simpa using hj):=List.getElem_set_ne (fun e=>hij e.symm) _;rw[Cu,<-this,hje,e]
    have h2:(L.map (·.1))[i]'(by simpa using hil)=b:=by rw[Cu,hib]
    have:=(List.getElem_inj h.nodup).1 (h1.trans h2.symm);exact absurd this hij
  ·rw[hu.block _ (h.lt (b:=x.1) (o:=x.2) hx') e];exact(h.own x hx').2
 ·exact⟨(h.own (b,o) hm).1,hu.at_⟩
end V
open Go.ChangeShapes Go.WideShapes Go.RowKit V
namespace V
section
variable {H:Type} {enc:Ew×Value->H} {P:Ev} {w:Et} {t:Ew}
theorem Opn.sliceR{α:Type}[Inhabited α]{en:α->Ez}{R:α->Prop}{size e:Nat}{c:Value}(ht:P.underlying t=some (.slice e))(hc:P.cellsOf e=size)(hs0:0<size)(hen:∀x,(en x).length=size)(each:∀cs,Opn enc P w e cs->∃x,cs=en x/\R x)(h:Opn enc P w t [c]):
  ∃(A:oA) (cap:Nat) (l:List α),c=.slice A l.length cap/\l.length<=cap/\cap*P.bytesOf e<=140737488351232/\(∀x∈l,R x)/\SlAt en size w A l:=by
 obtain⟨n,d,ps,h,hw⟩:=h;have e2:reachBytes=140737488351232:=rfl
 rcases Deep.open_slice ht h with⟨h1,_⟩|⟨a,len,cap,m,n,D,Pl,h1,_,hlc,hcm,hm,hd,hx⟩
 ·refine⟨none,0,[],by simpa using h1,by simp,by simp,by simp,⟨fun h=>absurd rfl h⟩⟩
 ·simp only[if_true]at hm;simp only[DY]at hd;obtain⟨rfl,_⟩:=hd;rw[DataW.weights,ht]at hw;simp only[AI,List.length_range]at hw;have hcap:=hw _ mh;rw[show len+(m-len)=cap by omega]at hcap;obtain⟨X,hX⟩:=Deep.choose_lt (n:=len) (p:=fun i (x:α)=>w.cells? 0 (a.add (i*P.cellsOf e)) (P.cellsOf e)=some (en x)/\R x) (fun i hi=>by
   obtain⟨cs,h2,h3⟩:=hx i Oo;obtain⟨x,rfl,hr⟩:=each cs ⟨n,D i,Pl i,h3,fun k hk=>hw k (zmc (AQ _ (qgg hk _ (Bc.2 ⟨i,Ca.2 hi,rfl⟩))))⟩;exact⟨x,h2,hr⟩)
  refine⟨some a,cap,(List.range len).map X,by simpa using h1,by simp;omega,by omega,fun s hs=>?_,⟨fun hn=>?_⟩⟩
  ·obtain⟨i,hi,rfl⟩:=Bc.1 hs;exact(hX i (Ca.1 hi)).2
  ·have hpos:0<len:=by
    rcases Cb len with h0|h0
    ·exact absurd (by rw[h0];rfl) hn
    ·exact h0
   have hs:a=⟨a.block,a.off,none⟩:=by
    obtain⟨_,_,h2⟩:=World.cells?_some (hX 0 hpos).1;have h3:=h2 0 Oo;rw[zge (by rw[hen];omega)]at h3;refine q2e (w:=w) (v:=(en (X 0))[0]'(by rw[hen];omega)) ?_
    simpa[Addr.add]using h3
   refine⟨a.block,a.off,by rw[<-hs],fun j s hj k v hv=>?_⟩;have hjl:j<len:=by
    have:=(Ae.1 hj).1
    simpa using this
   rw[Au,Bw hjl]at hj;simp only[BG,B4]at hj;subst hj;obtain⟨_,_,h2⟩:=World.cells?_some (hX j hjl).1;have hk:k<size:=by rw[<-hen (X j)];exact(Ae.1 hv).1
   have h3:=h2 k Oo;rw[hv,hs,qan,qan,hc]at h3;exact h3
end
end V
def qiy(i n:Nat):LB->Nat×Nat×Nat
 | []=>(0,0,10)
 | c::l=>if(i=9/\1<c.toNat)\/(0<i/\c.toNat=0)then(0,0,11)else if c.toNat<128 then(n+c.toNat%128*2 ^ (7*i),i+1,0)else qiy (i+1) (n+c.toNat%128*2 ^ (7*i)) l
def numL(l:LB):Nat×Nat×Nat:=qiy 0 0 l
theorem qf0{i n:Nat}{c:Ex}{l:LB}:qiy i n (c::l)=if(i=9/\1<c.toNat)\/(0<i/\c.toNat=0)then(0,0,11)else if c.toNat<128 then(n+c.toNat%128*2 ^ (7*i),i+1,0)else qiy (i+1) (n+c.toNat%128*2 ^ (7*i)) l:=rfl
theorem qc2{k:IntKind}{a b:Nat}(i:Nat)(ha:InR k ((a+b*2 ^ i:Nat):Int))(hb:a<2 ^ i):qev .or k (a:Int) ((b*2 ^ i:Nat):Int)=((a+b*2 ^ i:Nat):Int):=by
 have e:(a |||b*2 ^ i)=a+b*2 ^ i:=by
  rw[Nat.or_comm,C7 b,C0];exact(Nat.two_pow_add_eq_or_of_lt hb b).symm
 rw[qrw (InR.le ha Oo) (InR.le ha Oo) (by rw[e];exact ha),e]
theorem V.Wit.shlN{k:IntKind}{a:Nat}{b:Int}{K:Int->Prop}(n:Nat)(e:b=(n:Int))(hn:n<k.bits)(h:InR k ((a*2 ^ n:Nat):Int))(hk:K ((a*2 ^ n:Nat):Int)):
  Wit (fun r=>0<=b/\b<k.bits/\k.wrap ((a:Int)*2 ^ b.toNat)=r) K:=by
 subst e;have e2:(a:Int)*2 ^ ((n:Int).toNat)=((a*2 ^ n:Nat):Int):=by
  rw[CY];push_cast;rfl
 refine⟨_,⟨by omega,by omega,?_⟩,hk⟩;rw[e2];exact h.wrap
theorem pow7(i:Nat)(hi:i<=8):2 ^ (7*i)<=72057594037927936:=by
 have:2 ^ (7*i)<=2 ^ 56:=Bu Od Oo
 simpa using this
theorem qmg(i n c:Nat)(hi:i<=9)(hn:n<2 ^ (7*i))(hc:c<256)(h9:i=9->c<=1):c%128*2 ^ (7*i)<=9223372036854775808/\n+c%128*2 ^ (7*i)<2 ^ 64/\(i<9->n+c%128*2 ^ (7*i)<2 ^ (7*(i+1))):=by
 by_cases e:i=9
 ·subst e;have h1:=h9 rfl;have h2:c%128=c:=BD Oo;rw[h2];have hp:2 ^ (7*9)=9223372036854775808:=by decide
  rw[hp]at hn|-;have:c*9223372036854775808<=1*9223372036854775808:=B0 _ h1;have e64:2 ^ 64=18446744073709551616:=by decide
  exact⟨by omega,by rw[e64];omega,fun h=>by omega⟩
 ·have hp:2 ^ (7*(i+1))=128*2 ^ (7*i):=by rw[Nat.mul_add,Ek];omega
  have hm:c%128*2 ^ (7*i)<=127*2 ^ (7*i):=B0 _ Oo;have h7:=pow7 i Oo;have e64:2 ^ 64=18446744073709551616:=by decide
  exact⟨by omega,by rw[e64];omega,fun _=>by rw[hp];omega⟩
def numV(r:Nat×Nat×Nat):Value:=.tuple #[.int .u64 r.1,ii r.2.1,ii r.2.2]
theorem qkc{n:Nat}(h:n<2 ^ 64):InR .u64 (n:Int):=by
 have e64:2 ^ 64=18446744073709551616:=by decide
 exact⟨by omega,by omega⟩
theorem qzs(l:LB)(i:Nat)(h:i<l.length):l.drop i=l[i]::l.drop (i+1):=B9 h
def curO(t:Ew)(v:Value)(at_ e:Nat):Obj:=.cells #[v,ii at_,ii e] t
theorem q5c(b:Nat)(v:Value)(at_ e:Nat)(l:LB)(w:Et)(hb:w.heap[b]?=some (curO 288 v at_ e))(hv:BS w v l)(hat:at_<=l.length)(_hl:l.length<=140737488355328):
  Gv E4 271 [pp b] w fun r w'=>r=numV (numL (l.drop at_))/\Ext w w':=by
 obtain⟨A,c,rfl,hc,hS⟩:=hv;refine ze Tryz.func271 Tryz.ntmps271 ?_;refine zy ?_;refine zv ?_;refine LoadV.own hb rfl (zu ?_);refine LoadV.own hb rfl (zu ?_);refine SliceV.bs hS rfl at_ l.length c rfl rfl rfl hat znr hc znr (fun h=>by cases h) ?_;intro A' hA';refine zu ?_;have hd0:(l.drop at_).take (l.length-at_)=l.drop at_:=AE Js;rw[hd0]at hA';obtain⟨m,hm⟩:∃m,m=l.drop at_:=⟨_,rfl⟩
 have hml:m.length=l.length-at_:=by rw[hm];simp
 rw[<-hm]at hA'|-;have hx:=(Ext.refl w).drew;have hA:=hA'.ext hx;refine qj (fun x:Nat×Nat=>[(16,.slice A' (l.length-at_) (c-at_)),(17,ii (l.length-at_:Nat)),(18,ii x.1),(5,.int .u64 x.2)]) (fun x w1=>x.1<=m.length/\x.1<=9/\x.2<2 ^ (7*x.1)/\numL m=qiy x.1 x.2 (m.drop x.1)/\Ext w.drew w1) (fun x=>m.length-x.1) (0,0)
  ⟨rfl,rfl,rfl,rfl,trivial⟩ ⟨by simp,by simp,by simp,by rw[BB];rfl,xr⟩ ?_
 rintro⟨i,n⟩ w1 ρ' ⟨h1,h9,hn,hd,he1⟩;dsimp only at h1 h9 hn hd|-;(conv=>whnf);refine zC (fun _=>zw ?_) (fun _=>zw ?_)
 ·have hi:i<m.length:=by omega
  rw[qzs m i hi,qf0]at hd;obtain⟨c0,hc0⟩:∃c0,c0=m[i]:=⟨_,rfl⟩
  have hlt:c0.toNat<256:=c0.toBitVec.isLt;rw[<-hc0]at hd;refine ElemV.bs (hA.ext he1) hml i rfl Oo ?_;intro eb eo hcell;rw[<-hc0]at hcell;(conv=>whnf);refine LoadV.of hcell (zw ?_)
  (repeat'(first|refine zp ?_|refine zC (fun _=>zw ?_) (fun _=>zw ?_)))
  all_goals first
   | exact⟨by rw[hd,Ad Oo];rfl,hx.trans he1⟩
   | skip
  all_goals
   rw[Aa Oo]at hd;obtain⟨g1,g2,g3⟩:=qmg i n c0.toNat h9 hn hlt Oo;refine Wit.eq (qa9 (k:=.u8) (m:=c0.toNat) 7 rfl ⟨by omega,by omega⟩ ⟨by omega,by omega⟩) (zu ?_);refine V.Wit.shlN (7*i) Oo (by show 7*i<64;omega) (qkc (by show c0.toNat%2 ^ 7*2 ^ (7*i)<_;rw[show 2 ^ 7=128 from rfl];omega)) (zw ?_);refine Wit.eq (qc2 (7*i) (qkc g2) hn) (zw ?_)
   (repeat'(first|refine zp ?_|refine zC (fun _=>zw ?_) (fun _=>zw ?_)))
   all_goals first
    | (rw[Ad Oo]at hd;exact⟨by rw[hd];rfl,hx.trans he1⟩)
    | (rw[Aa Oo]at hd;exact⟨(i+1,n+c0.toNat%128*2 ^ (7*i)),⟨rfl,rfl,rfl,rfl,trivial⟩,⟨by simp only;omega,by simp only;omega,g3 Oo,hd,he1⟩,by simp only;omega⟩)
 ·rw[Bf Oo,qiy]at hd;exact⟨by rw[hd];rfl,hx.trans he1⟩
theorem qje:∀(l:LB) (i n:Nat),i<=9->n<2 ^ (7*i)->(qiy i n l).1<2 ^ 64/\(qiy i n l).2.1<=i+l.length/\((qiy i n l).2.2=0\/(qiy i n l).2.2=10\/(qiy i n l).2.2=11)
 | [],i,n,_,_=>⟨show 0<2 ^ 64 by decide,by simp[qiy],.inr (.inl rfl)⟩
 | c::l,i,n,hi,hn=>by
  rw[qf0]
  by_cases h1:(i=9/\1<c.toNat)\/(0<i/\c.toNat=0)
  ·rw[Ad h1];exact⟨by decide,Am _,.inr (.inr rfl)⟩
  ·rw[Aa h1];have hlt:c.toNat<256:=c.toBitVec.isLt;obtain⟨g1,g2,g3⟩:=qmg i n c.toNat hi hn hlt Oo
   by_cases h2:c.toNat<128
   ·rw[Ad h2];exact⟨g2,by simp only[Aw];omega,.inl rfl⟩
   ·rw[Aa h2];have:=qje l (i+1) _ Oo (g3 Oo);refine⟨this.1,?_,this.2.2⟩;have:=this.2.1;simp only[Aw];omega
theorem qbq(l:LB):(numL l).1<2 ^ 64/\(numL l).2.1<=l.length/\((numL l).2.2=0\/(numL l).2.2=10\/(numL l).2.2=11):=by
 have:=qje l 0 0 Oo Od
 rwa[AC]at this
def varS(l:LB)(at_ e:Nat):Nat×Nat×Nat:=if e≠0 then(0,at_,e)else if(numL (l.drop at_)).2.2≠0 then(0,at_,(numL (l.drop at_)).2.2)else((numL (l.drop at_)).1,at_+(numL (l.drop at_)).2.1,0)
theorem q58(b:Nat)(v:Value)(at_ e:Nat)(l:LB)(w:Et)(hb:w.heap[b]?=some (curO 288 v at_ e))(hv:BS w v l)(hat:at_<=l.length)(hl:l.length<=140737488355328):
  Gv E4 212 [pp b,.int .u64 18446744073709551615] w fun r w'=>r=.int .u64 (varS l at_ e).1/\Upd w w' b (curO 288 v (varS l at_ e).2.1 (varS l at_ e).2.2):=by
 have hpk:=q5c b v at_ e l w hb hv hat hl;obtain⟨g1,g2,g3⟩:=qbq (l.drop at_);rw[zld]at g2;have e64:2 ^ 64=18446744073709551616:=by decide
 refine ze Tryz.func212 Tryz.ntmps212 ?_;refine LoadV.own hb rfl (zw ?_);refine zC (fun _=>zw ?_) (fun _=>zw ?_)
 ·have hS:varS l at_ e=(0,at_,e):=by rw[varS,Ad Oo]
  rw[hS];exact⟨rfl,Upd.refl hb⟩
 ·have he0:e=0:=by omega
  subst he0;refine zcv (hpk) ?_;rintro r w1 ⟨rfl,he⟩;have hb1:=he.get hb;have hS:varS l at_ 0=if(numL (l.drop at_)).2.2≠0 then(0,at_,(numL (l.drop at_)).2.2)else((numL (l.drop at_)).1,at_+(numL (l.drop at_)).2.1,0):=by rw[varS,Aa Oo]
  (conv=>whnf);refine zC (fun _=>zu ?_) (fun _=>zu ?_)
  ·refine LoadV.own hb1 rfl (zu ?_);refine StoreV.own hb1 (show 1<3 by decide) rfl ?_;intro w2 hw;have hu:=(Upd.of hb he).trans (Upd.set hb1 hw);rw[hS,Aa Oo];(conv=>whnf);exact⟨rfl,hu⟩
  ·refine StoreV.own hb1 (show 2<3 by decide) rfl ?_;intro w2 hw;have hu:=(Upd.of hb he).trans (Upd.set hb1 hw);rw[hS,Ad Oo];(conv=>whnf);exact⟨rfl,hu⟩
theorem qc9(b:Nat)(v:Value)(at_ e:Nat)(l:LB)(w:Et)(hb:w.heap[b]?=some (curO 288 v at_ e))(hv:BS w v l)(hat:at_<=l.length)(hl:l.length<=140737488355328):
  Gv E4 154 [pp b] w fun r w'=>r=.int .u64 (varS l at_ e).1/\Upd w w' b (curO 288 v (varS l at_ e).2.1 (varS l at_ e).2.2):=by
 refine ze Tryz.func154 Tryz.ntmps154 ?_;refine zcv (q58 b v at_ e l w hb hv hat hl) ?_;rintro r w1 ⟨rfl,hu⟩;(conv=>whnf);exact⟨rfl,hu⟩
def leN:LB->Nat
 | []=>0
 | c::l=>c.toNat+256*leN l
theorem q0j(l:LB):leN l<256 ^ l.length:=by
 induction l with
 | nil=>decide
 | cons c l ih=>
  have hlt:c.toNat<256:=c.toBitVec.isLt;rw[leN,Aw,DA];omega
theorem q0h(l m:LB):leN (l++m)=leN l+256 ^ l.length*leN m:=by
 induction l with
 | nil=>simp[leN]
 | cons c l ih=>
  rw[BO,leN,leN,ih,Aw,DA,Nat.mul_add,<-Nat.mul_assoc,C7 256 (256 ^ l.length)];omega
theorem qacv{l:LB}(h:4<=l.length):leN (l.take 4)=l[0].toNat+l[1].toNat*2 ^ 8+l[2].toNat*2 ^ 16+l[3].toNat*2 ^ 24:=by
 match l,h with
 | a::b::c::d::r,_=>simp only[BX,B8,leN,Cn,Dd];omega
theorem qacu{l:LB}(h:2<=l.length):leN (l.take 2)=l[0].toNat+l[1].toNat*2 ^ 8:=by
 match l,h with
 | a::b::r,_=>simp only[BX,B8,leN,Cn,Dd];omega
theorem qbk{n:Nat}(h:n<9223372036854775808):InR .i64 (n:Int):=⟨by omega,by omega⟩
theorem qa1(c:Ex):c.toNat<256:=c.toBitVec.isLt
theorem qnz(l:LB)(A:oA)(n c:Nat)(w:Et)(hS:SlAt encB 1 w A l)(hn:l.length=n)(h4:4<=l.length):
  Gv E4 256 [.slice A n c] w fun v w'=>v=ii (leN (l.take 4))/\Ext w w':=by
 have hA:=hS.ext (Ext.refl w).drew;have b0:=qa1 l[0];have b1:=qa1 l[1];have b2:=qa1 l[2];have b3:=qa1 l[3];rw[qacv h4];refine ze Tryz.func256 Tryz.ntmps256 ?_;refine zy ?_;refine zv ?_;refine ElemV.bs hA hn 0 rfl Oo ?_;intro eb eo hc;refine zu ?_;refine LoadV.of hc (zu ?_);refine ElemV.bs hA hn 1 rfl Oo ?_;intro eb eo hc;refine zu ?_;refine LoadV.of hc (zu ?_);refine V.Wit.shlN 8 rfl Od (qbk Oo) (zu ?_);refine Wit.eq (qc2 8 (qbk Oo) b0) (zu ?_);refine ElemV.bs hA hn 2 rfl Oo ?_;intro eb eo hc;refine zu ?_;refine LoadV.of hc (zu ?_);refine V.Wit.shlN 16 rfl Od (qbk Oo) (zu ?_);refine Wit.eq (qc2 16 (qbk Oo) Oo) (zu ?_);refine ElemV.bs hA hn 3 rfl Oo ?_;intro eb eo hc;refine zu ?_;refine LoadV.of hc (zu ?_);refine V.Wit.shlN 24 rfl Od (qbk Oo) (zu ?_);refine Wit.eq (qc2 24 (qbk Oo) Oo) (zu ?_);exact⟨rfl,(Ext.refl w).drew⟩
theorem qabh(l:LB)(A:oA)(n c:Nat)(w:Et)(hS:SlAt encB 1 w A l)(hn:l.length=n)(h4:2<=l.length):
  Gv E4 260 [.slice A n c] w fun v w'=>v=ii (leN (l.take 2))/\Ext w w':=by
 have hA:=hS.ext (Ext.refl w).drew;have b0:=qa1 l[0];have b1:=qa1 l[1];rw[qacu h4];refine ze Tryz.func260 Tryz.ntmps260 ?_;refine zy ?_;refine zv ?_;refine ElemV.bs hA hn 0 rfl Oo ?_;intro eb eo hc;refine zu ?_;refine LoadV.of hc (zu ?_);refine ElemV.bs hA hn 1 rfl Oo ?_;intro eb eo hc;refine zu ?_;refine LoadV.of hc (zu ?_);refine V.Wit.shlN 8 rfl Od (qbk Oo) (zu ?_);refine Wit.eq (qc2 8 (qbk Oo) b0) (zu ?_);exact⟨rfl,(Ext.refl w).drew⟩
namespace V
theorem Mem.fresh{w0 w w':Et}{L:Ey}{b:Nat}{o:Obj}(h:Mem w0 w L)(he:Ext w w')(hb:w.heap.size<=b)(ho:w'.heap[b]?=some o):Mem w0 w' ((b,o)::L):=by
 have h':=h.call he;refine⟨h'.ext,fun x hx=>?_,?_⟩
 ·rcases AF.1 hx with rfl|hx
  ·exact⟨Bd h.ext.size hb,ho⟩
  ·exact h'.own x hx
 ·simp only[AW,DH];refine⟨fun hm=>?_,h.nodup⟩;obtain⟨x,hx,e⟩:=Bc.1 hm;have:=h.lt (b:=x.1) (o:=x.2) hx;omega
theorem Fall.max2{P:Ev}{ρ:Nat->Value}{o:Oper}{c:Call}{k:IntKind}{x y:Int}{w:Et}{K:Value->Et->Prop}(ho:o.op=.call c)(hc:c.callee=.builtin .max)(ha0:evs ρ c.args.toList=[.int k x,.int k y])(h:∀m,m=max x y->K (.int k m) w):Fall P (execOp (ev ρ) o) w K:=by
 have e:execOp (ev ρ) o=(do pure (.value (<-Builtin.max_ c.argTypes o.type (c.args.map (ev ρ))))):=by
  simp only[execOp,ho,resolve,hc];rfl
 have ha:c.args.map (ev ρ)=#[.int k x,.int k y]:=by
  rw[qes]at ha0;rw[<-Bk];simpa using ha0
 refine⟨.inl ⟨_,w,?_,h _ rfl⟩⟩;rw[e,ha];simp only[Sem.run_bind,run_max_int2,Result.andThen_ok,Sem.run_pure]
 congr 3
 rw[Int.max_def]
 split<;>(try split)<;>omega
theorem Fall.min2{P:Ev}{ρ:Nat->Value}{o:Oper}{c:Call}{k:IntKind}{x y:Int}{w:Et}{K:Value->Et->Prop}(ho:o.op=.call c)(hc:c.callee=.builtin .min)(ha0:evs ρ c.args.toList=[.int k x,.int k y])(h:∀m,m=min x y->K (.int k m) w):Fall P (execOp (ev ρ) o) w K:=by
 have e:execOp (ev ρ) o=(do pure (.value (<-Builtin.min_ c.argTypes o.type (c.args.map (ev ρ))))):=by
  simp only[execOp,ho,resolve,hc];rfl
 have ha:c.args.map (ev ρ)=#[.int k x,.int k y]:=by
  rw[qes]at ha0;rw[<-Bk];simpa using ha0
 refine⟨.inl ⟨_,w,?_,h _ rfl⟩⟩;rw[e,ha];simp only[Sem.run_bind,run_min_int2,Result.andThen_ok,Sem.run_pure]
 congr 3
 rw[Int.min_def]
 split<;>(try split)<;>omega
end V
theorem qek(v:Value)(l:LB)(w:Et)(hv:BS w v l):
  Gv E4 132 [v] w fun r w'=>∃b,r=pp b/\w.heap.size<=b/\w'.heap[b]?=some (curO 288 v 0 0)/\Ext w w':=by
 obtain⟨A,c,rfl,hc,hS⟩:=hv;refine ze Tryz.func132 Tryz.ntmps132 ?_;refine⟨fun b w' hb hw=>?_⟩;subst hb hw;(conv=>whnf);exact⟨w.heap.size,rfl,Ar _,heap_alloc_new w _,(Ext.refl w).alloc _⟩
theorem qi8(b:Nat)(v:Value)(a e:Nat)(w:Et)(hb:w.heap[b]?=some (curO 288 v a e)):Gv E4 137 [pp b] w fun r w'=>r=ii a/\w'=w:=by
 refine ze Tryz.func137 Tryz.ntmps137 ?_;refine LoadV.own hb rfl (zw ?_);exact⟨rfl,rfl⟩
theorem qcd(b:Nat)(v:Value)(a e:Nat)(w:Et)(hb:w.heap[b]?=some (curO 288 v a e)):Gv E4 155 [pp b] w fun r w'=>r=ii e/\w'=w:=by
 refine ze Tryz.func155 Tryz.ntmps155 ?_;refine LoadV.own hb rfl (zw ?_);exact⟨rfl,rfl⟩
theorem qod(b:Nat)(v:Value)(a e:Nat)(l:LB)(w:Et)(hb:w.heap[b]?=some (curO 288 v a e))(hv:BS w v l)(ha:a<=l.length)(hl:l.length<=140737488355328):
  Gv E4 255 [pp b] w fun r w'=>r=ii (l.length-a:Nat)/\Ext w w':=by
 obtain⟨A,c,rfl,hc,hS⟩:=hv;refine ze Tryz.func255 Tryz.ntmps255 ?_;refine zy ?_;refine zv ?_;refine LoadV.own hb rfl (zu ?_);refine LoadV.own hb rfl (zu ?_);exact⟨Af (Value.int .i64) Oo,(Ext.refl w).drew⟩
theorem qw6(w:Et):Gv E4 110 [ii 4] w fun r w'=>r=ii 4/\w'=w:=by
 refine ze Tryz.func110 Tryz.ntmps110 ?_;refine V.Fall.max2 rfl rfl rfl fun m hm=>?_;obtain rfl:m=4:=by omega
 (conv=>whnf);refine V.Fall.min2 rfl rfl rfl fun m hm=>?_;obtain rfl:m=4:=by omega
 (conv=>whnf);exact⟨rfl,rfl⟩
theorem q51(b:Nat)(v:Value)(a n:Nat)(l:LB)(w:Et)(hb:w.heap[b]?=some (curO 288 v a 0))(hv:BS w v l)(ha:a+n<=l.length)(hl:l.length<=140737488355328)(hlow:∀A c,v=.slice A l.length c->True):
  Gv E4 197 [pp b,ii n] w fun r w'=>(∃A' c',r=.slice A' n c'/\SlAt encB 1 w A' ((l.drop a).take n))/\Upd w w' b (curO 288 v (a+n) 0):=by
 have hleft:=qod b v a 0 l w hb hv Oo hl;obtain⟨A,c,rfl,hc,hS⟩:=hv;refine ze Tryz.func197 Tryz.ntmps197 ?_;refine LoadV.own hb rfl (zu ?_);refine zcv (hleft) ?_;rintro r w1 ⟨rfl,he⟩;have hb1:=he.get hb;refine zu ?_;refine LoadV.own hb1 rfl (zu ?_);refine StoreV.own hb1 (show 1<3 by decide) rfl ?_;intro w2 hw;have hu:=(Upd.of hb he).trans (Upd.set hb1 hw);have hb2:w2.heap[b]?=some (curO 288 (.slice A l.length c) (a+n) 0):=hu.at_;(conv=>whnf);refine zy ?_;refine zv ?_;refine LoadV.own hb2 rfl (zu ?_);refine LoadV.own hb2 rfl (zu ?_);refine LoadV.own hb2 rfl (zu ?_);refine SliceV.bs hS rfl a (a+n) c (by show(((a+n:Nat):Int)-(n:Int))=(a:Int);omega) rfl rfl Oo ha Oo znr (fun h=>by cases h) ?_;intro A' hA';refine zu ?_;have e:a+n-a=n:=by omega
 rw[e]at hA'|-;exact⟨⟨A',_,rfl,hA'⟩,hu.trans (Upd.of hb2 (Ext.refl w2).drew)⟩
def qat(a b:TM):Bool:=decide (a.kind=b.kind)&&(seq a.text b.text&&(seq a.type b.type&&seq a.lang b.lang))
theorem qch{a b:TM}:qat a b=true↔a=b:=by
 obtain⟨a0,a1,a2,a3⟩:=a;obtain⟨b0,b1,b2,b3⟩:=b;simp[qat,qac]
theorem qwo:E4.underlying 24=some (.struct (E4.fieldsOf 24)):=by kernel_rfl
theorem q2f:E4.stoodInHeld 24=false:=by kernel_rfl
theorem qzx:E4.eqGuardType E4.depth 24=false:=by kernel_rfl
theorem qbg(d:Nat)(a b:TM)(w:Et):(Op.equalIn (d+2) 24 (qa7 a) (qa7 b)).run E4 w=.ok (qat a b) w:=by
 have u3:=Tryz.underlying3;have a3:=Tryz.isAgg3;have z3:=Tryz.sizeOf3;have u9:=Tryz.underlying9;have a9:=Tryz.isAgg9;have z9:=Tryz.sizeOf9;simp only[qa7];rw[run_equalIn_agg w (d+1) _ _ _ qwo q2f];simp only[Program.fieldsOf,Tryz.underlying24]
 go_simp
 have e:∀x y:Eu,(x.toList=y.toList)=(seq x y=true):=fun x y=>by rw[<-ql8,Dj]
 simp only[e]
 by_cases h1:a.kind=b.kind<;>cases h2:seq a.text b.text<;>cases h3:seq a.type b.type<;>cases h4:seq a.lang b.lang<;>simp[qat,h1,h2,h3,h4]
namespace V
theorem RunV.eqTerm{op:BinOp}{xo yo:Operand}{a b:TM}{w:Et}{K:Value->Et->Prop}(ho:op=.eql\/op=.neq)(h:K (.bool (bif eqOp op then qat a b else !qat a b)) w):
  RunV E4 (do eqGuard op 24 xo yo (qa7 a) (qa7 b);binOp op 24 (qa7 a) (qa7 b)) w K:=by
 refine⟨_,w,?_,h⟩;rw[Sem.run_bind,qa7,qa7,run_eqGuard_agg w op _ xo yo _ _ qzx,Result.andThen_ok];have e:=qbg 9998 a b w;simp only[qa7]at e
 rcases ho with rfl|rfl
 ·rw[run_eql_struct,e];rfl
 ·rw[run_neq_struct,e];rfl
end V
def qt0(t:TM):Bool:=decide (t.kind=0)&&(seq t.text ⟨#[]⟩&&(seq t.type ⟨#[]⟩&&seq t.lang ⟨#[]⟩))
def canB(k:Nat)(t:TM):Bool:=
 if k=0 then decide (t.kind=1)||decide (t.kind=2)else if k=1 then decide (t.kind=1)else if k=2 then decide (1<=t.kind)&&decide (t.kind<=3)else qt0 t||decide (t.kind=1)||decide (t.kind=2)
def qdk:E0->Nat
 | []=>0
 | e::l=>if e≠0 then e else qdk l
theorem qed{l:E0}(h:∀j (hj:j<l.length),l[j]=0):qdk l=0:=by
 induction l with
 | nil=>rfl
 | cons x l ih=>
  have h0:=h 0 Js;simp only[Cn]at h0;rw[qdk,Aa Oo];exact ih fun j hj=>by have:=h (j+1) Ys;rwa[Dd]at this
theorem qkl{l:E0}{k:Nat}(hk:k<l.length)(h:∀j (hj:j<l.length),j<k->l[j]=0)(hne:l[k]≠0):qdk l=l[k]:=by
 induction l generalizing k with
 | nil=>simp at hk
 | cons x l ih=>
  cases k with
  | zero=>simp only[Cn]at hne|-;rw[qdk,Ad hne]
  | succ k=>
   have h0:=h 0 Js Oo;simp only[Cn]at h0;rw[qdk,Aa Oo];simp only[Dd]at hne|-;exact ih (by simpa using hk) (fun j hj hjk=>by have:=h (j+1) Ys Oo;rwa[Dd]at this) hne
theorem CellsAt.mem{w0 w:Et}{L:Ey}{b:Nat}{cs:E6}{t:Ew}{fr:Nat×Nat}(h:Mem w0 w L)(hi:(b,Obj.cells cs t fr)∈L):CellsAt w b 0 cs.toList:=fun k v hv=>by
 rw[qa (h.get hi),AC]
 simpa using hv
namespace V
theorem StoreA.rwAll{P:Ev}{w0 w:Et}{v:Value}{e:Ew}{size n:Nat}{xs:Ez}{L:Ey}{b:Nat}{cur:E6}{t:Ew}{vs:Ez}{K:Et->Prop}(h:Rw w0 w v e size n xs ((b,.cells cur t)::L))(hl:cur.size=vs.length)(h1:∀v∈vs,v.oneCell'=true)(hk:∀w',Rw w0 w' v e size n xs ((b,.cells vs.toArray t)::L)->K w'):StoreA P w b 0 vs K:=by
 have hg:=h.mem.get mh;have hb:v.ownBlock≠some b:=h.apart _ mh;have hr:=run_storeCells_at P b 0 t vs 0 cur w hg Ys h1;have ec:(cur.toList.take (0+0)++vs++cur.toList.drop (0+0+vs.length)).toArray=vs.toArray:=by
  rw[B8,Br,Bf Ys,AY]
 rw[ec]at hr;refine⟨_,hr,hk _ ⟨?_,?_,fun y hy=>?_⟩⟩
 ·have:=h.mem.set (i:=0) (b:=b) (o:=.cells cur t) (o':=.cells vs.toArray t) rfl (w':=w.setRow b vs.toArray) ?_ (qcl hg) (fun c hc=>qw hc)
  ·exact this
  ·exact Below.trans h.mem.ext ⟨rfl,rfl,rfl,by simp[World.setRow],fun k hk=>qw (by have:=(h.mem.own _ mh).1;simp only at this;omega)⟩
 ·refine h.own.kept (row:=some b) ⟨rfl,rfl,rfl,by simp[World.setRow],fun k _ hk=>qw (fun e=>hk (by simp[e]))⟩ (Or.inr hb)
 ·rcases AF.1 hy with rfl|hy
  ·exact hb
  ·exact h.apart y (zmc hy)
end V
theorem qx6(k:Nat)(t:TM)(w:Et):Gv E4 65 [ii k,qa7 t] w fun v w'=>v=.bool (canB k t)/\Ext w w':=by
 refine ze Tryz.func65 Tryz.ntmps65 ?_;refine znm (Mem.nil w) fun b w1 hm=>zw ?_
 (repeat'(first|refine zp ?_|refine zC (fun _=>zw ?_) (fun _=>zw ?_)|refine LoadV.mem (i:=0) Oa rfl rfl (zw ?_)))
 ·exact⟨Af Value.bool (by rw[canB,Ad Oo];simp[*]),hm.ext⟩
 ·exact⟨Af Value.bool (by rw[canB,Ad Oo];simp[*]),hm.ext⟩
 ·exact⟨Af Value.bool (by rw[canB,Aa Oo,Ad Oo]),hm.ext⟩
 ·exact⟨Af Value.bool (by rw[canB,Aa Oo,Aa Oo,Ad Oo,AX];simp;omega),hm.ext⟩
 ·exact⟨Af Value.bool (by rw[canB,Aa Oo,Aa Oo,Ad Oo,AX];simp;omega),hm.ext⟩
 ·exact⟨Af Value.bool (by rw[canB,Aa Oo,Aa Oo,Ad Oo,AX];simp;omega),hm.ext⟩
 ·exact⟨Af Value.bool (by rw[canB,Aa Oo,Aa Oo,Aa Oo];simp[*]),hm.ext⟩
 ·exact⟨Af Value.bool (by rw[canB,Aa Oo,Aa Oo,Aa Oo];simp[*]),hm.ext⟩
 ·refine zl hm 0 ?_;refine zv ?_;refine RunV.eqTerm (a:=t) (b:=⟨0,⟨#[]⟩,⟨#[]⟩,⟨#[]⟩⟩) (.inl rfl) ?_;have hc:canB k t=(qt0 t||decide (t.kind=1)||decide (t.kind=2)):=by rw[canB,Aa Oo,Aa Oo,Aa Oo]
  have hz:qat t ⟨0,⟨#[]⟩,⟨#[]⟩,⟨#[]⟩⟩=qt0 t:=rfl;rw[hz];refine zu ?_;exact⟨Af Value.bool (by rw[hc];simp[*,eqOp]),hm.ext⟩
structure Q4 where
 s:TM
 p:TM
 o:TM
 g:TM
def Q4.at(q:Q4):Nat->TM
 | 0=>q.s
 | 1=>q.p
 | 2=>q.o
 | _=>q.g
def qd(q:Q4):Ez:=encT q.s++(encT q.p++(encT q.o++encT q.g))
def qn(q:Q4):Value:=.agg #[ii q.s.kind,.string q.s.text,.string q.s.type,.string q.s.lang,ii q.p.kind,.string q.p.text,.string q.p.type,.string q.p.lang,
 ii q.o.kind,.string q.o.text,.string q.o.type,.string q.o.lang,ii q.g.kind,.string q.g.text,.string q.g.type,.string q.g.lang]
noncomputable def qE(k:Nat)(t:TM):Nat:=if canB k t=false then 70 else if k=3/\t.kind=0 then 0 else qaj t
noncomputable def qb8(q:Q4):Nat:=qdk ((List.range 4).map fun k=>qE k (q.at k))
theorem qr{q:Q4}{w:Et}{b off:Nat}(h:CellsAt w b off (qd q))(k:Nat)(hk:k<4):CellsAt w b (off+k*4) (encT (q.at k)):=by
 intro j v hv;have hj:j<4:=(Ae.1 hv).1;have:=h (k*4+j) v (by
  obtain rfl|rfl|rfl|rfl:k=0\/k=1\/k=2\/k=3:=by omega
  all_goals
   obtain rfl|rfl|rfl|rfl:j=0\/j=1\/j=2\/j=3:=by omega
   all_goals exact hv)
 rwa[<-Cy]at this
theorem qad(t:TM):∀v∈encT t,v.oneCell'=true:=by
 intro v hv;simp only[encT,AF,Co,or_false]at hv
 rcases hv with rfl|rfl|rfl|rfl<;>rfl
def qby(q:Q4):Prop:=∀k,TermOk (q.at k)
theorem q1k(q:Q4)(k:Nat)(hk:k<4):((qn q).cells.toList.drop (k*4)).take 4=encT (q.at k):=by
 obtain rfl|rfl|rfl|rfl:k=0\/k=1\/k=2\/k=3:=by omega
 all_goals rfl
theorem qg4(q:Q4)(hq:qby q)(w:Et)(hM:MaxLenAt w)(hT:CellsAt w 6 0 qb1):Gv E4 42 [qn q] w fun v w'=>v=ii (qb8 q)/\Ext w w':=by
 refine ze Tryz.func42 Tryz.ntmps42 ?_;refine znm (Mem.nil w) ?_;intro b w1 hm;have hc:CellsAt w1 b 0 (qd q):=CellsAt.mem hm mh;(conv=>whnf);refine LoadA.cells (qr hc 0 Oo) rfl (zw ?_);refine LoadA.cells (qr hc 1 Oo) rfl (zw ?_);refine LoadA.cells (qr hc 2 Oo) rfl (zw ?_);refine LoadA.cells (qr hc 3 Oo) rfl (zw ?_);have hlen:((List.range 4).map fun k=>qE k (q.at k)).length=4:=by simp
 have hget:∀j (hj:j<((List.range 4).map fun k=>qE k (q.at k)).length),((List.range 4).map fun k=>qE k (q.at k))[j]=qE j (q.at j):=fun j hj=>by simp
 refine qj (fun k:Nat=>[(1,pp b),(2,ii 0),(14,qn q),(15,ii k)])
  (fun k w'=>k<=4/\(∀j,j<k->qE j (q.at j)=0)/\Mem w w' [(b,.cells (qd q).toArray 26)]) (fun k=>4-k) 0 ⟨rfl,rfl,rfl,rfl,trivial⟩ ⟨by omega,fun j h0=>by omega,hm⟩ ?_
 rintro k w2 ρ' ⟨k1,k2,hm2⟩;(conv=>whnf);refine zC (fun _=>zu ?_) (fun _=>zu ?_)
 ·have hk:k<4:=by omega
  have hbad:∀e,qE k (q.at k)=e->e≠0->qb8 q=e:=fun e he hne=>by
   rw[qb8,qkl (k:=k) (by rw[hlen];exact hk) (fun j hj hjk=>by rw[hget];exact k2 j hjk) (by rw[hget,he];exact hne),hget,he]
  have hgood:qE k (q.at k)=0->∀j,j<k+1->qE j (q.at j)=0:=fun he j hj=>by
   by_cases e:j=k
   ·subst e;exact he
   ·exact k2 j Oo
  refine Wit.eq (y:=encT (q.at k)) (q1k q k hk) (zw ?_);refine znm hm2 fun r w3 hm3=>zw ?_;refine StoreA.all (vs:=encT (q.at k)) hm3 (i:=0) rfl rfl (qad _) ?_;intro w4 hm4;have hm4:Mem w w4 [(r,.cells (encT (q.at k)).toArray 24),_]:=hm4;(conv=>whnf);refine zl hm4 0 ?_;refine zcv (qx6 k (q.at k) w4) ?_;rintro v w5 ⟨rfl,he5⟩;have hm5:=hm4.call he5;cases hcan:canB k (q.at k)
  ·refine zu ?_;exact⟨by rw[hbad 70 (by rw[qE,Ad hcan]) Od];rfl,hm5.ext⟩
  ·(conv=>whnf)
   (repeat'(first|refine zp ?_|refine zC (fun _=>zw ?_) (fun _=>zw ?_)|refine LoadV.mem (i:=0) Oa rfl rfl (zw ?_)))
   ·refine⟨?_,hm5.ext⟩;have e0:qE k (q.at k)=0:=by rw[qE,Aa (by rw[hcan];simp),Ad ⟨by omega,by omega⟩]
    have h4:=hgood e0;rw[qb8,qed fun j hj=>by rw[hget];exact h4 j (by rw[hlen]at hj;omega)];rfl
   all_goals
    have hE:qE k (q.at k)=qaj (q.at k):=by rw[qE,Aa (by rw[hcan];simp),Aa Oo]
    refine zl hm5 0 ?_;refine zcv (qh1 (q.at k) (hq k) w5 (hM.ext hm5.ext) (hT.ext hm5.ext)) ?_;rintro v w6 ⟨rfl,he6⟩;rw[<-hE];conv=>whnf
    (repeat'(first|refine zp ?_|refine zC (fun _=>zw ?_) (fun _=>zw ?_)))
    ·exact⟨by rw[hbad _ rfl Oo],hm5.ext.trans he6⟩
    ·exact⟨k+1,⟨rfl,rfl,rfl,rfl,trivial⟩,⟨by omega,hgood Oo,(hm5.call he6).sub (AS ..)⟩,by omega⟩
 ·refine⟨?_,hm2.ext⟩;rw[qb8,qed fun j hj=>by rw[hget];exact k2 j (by rw[hlen]at hj;omega)];rfl
theorem qj0(l:LB)(i:Nat)(h:i<l.length):leN (l.take (i+1))=leN (l.take i)+l[i].toNat*2 ^ (8*i):=by
 rw[Bo h,q0h,AK,CM Oo];have:(256:Nat) ^ i=2 ^ (8*i):=by rw[Nat.pow_mul]
 rw[this,leN,leN,Nat.mul_zero,BI,C7]
theorem qaw(l:LB)(i:Nat)(h:i<=l.length):leN (l.take i)<2 ^ (8*i):=by
 have:=q0j (l.take i);rw[AK,CM h]at this;have e:(256:Nat) ^ i=2 ^ (8*i):=by rw[Nat.pow_mul]
 rwa[e]at this
theorem pow8(i:Nat)(hi:i<=4):2 ^ (8*i)<=4294967296:=by
 have:2 ^ (8*i)<=2 ^ 32:=Bu Od Oo
 simpa using this
theorem V.SlAt.upd{w w':Et}{b:Nat}{cs:E6}{t:Ew}{fr:Nat×Nat}{o:Obj}{A:oA}{l:LB}(h:SlAt encB 1 w A l)(hb:w.heap[b]?=some (.cells cs t fr))(hno:∀v∈cs.toList,∀n,v≠.int .u8 n)(hu:Upd w w' b o):SlAt encB 1 w' A l:=by
 refine⟨fun hne=>?_⟩;obtain⟨g,off,e,hc⟩:=h.at_ hne;refine⟨g,off,e,fun j x hx k v hv=>?_⟩;have h1:=hc j x hx k v hv;have hv8:v=.int .u8 x.toNat:=by
  cases k with
  | zero=>simpa[encB]using hv.symm
  | succ k=>simp[encB]at hv
 have hlt:g<w.heap.size:=by
  rcases Ba g w.heap.size with h|h
  ·exact h
  ·unfold World.cell? at h1;rw[Bb h]at h1;cases h1
 have hgb:g≠b:=by
  rintro rfl;rw[qa hb]at h1;exact hno v (by rw[<-Cq]at h1;exact zmg h1) _ hv8
 unfold World.cell? at h1|-;rw[hu.block g hlt hgb];exact h1
theorem q8x{v:Value}{a e:Nat}(hv:∃A n c,v=.slice A n c):∀u∈(#[v,ii a,ii e]:E6).toList,∀n,u≠.int .u8 n:=by
 obtain⟨A,m,c,rfl⟩:=hv;intro u hu n;simp at hu
 rcases hu with rfl|rfl|rfl<;>simp
theorem qij(b:Nat)(v:Value)(a:Nat)(l:LB)(w:Et)(hb:w.heap[b]?=some (curO 288 v a 0))(hv:BS w v l)(ha:a+4<=l.length)(hl:l.length<=140737488355328):
  Gv E4 133 [pp b,ii 4] w fun r w'=>r=.int .u64 (leN ((l.drop a).take 4))/\Upd w w' b (curO 288 v (a+4) 0):=by
 have htk:=fun w=>q51 b v a 4 l w
 refine ze Tryz.func133 Tryz.ntmps133 ?_;refine zcv (qw6 w) ?_;rintro r w1 ⟨rfl,rfl⟩;(conv=>whnf);refine zcv (htk w1 hb hv ha hl (fun _ _ _=>trivial)) ?_;rintro r w2 ⟨⟨A',c',rfl,hS⟩,hu⟩;(conv=>whnf);have hv':=hv;obtain⟨A,c,hvv,_,_⟩:=hv';have hS2:SlAt encB 1 w2 A' ((l.drop a).take 4):=V.SlAt.upd hS hb (q8x ⟨_,_,_,hvv⟩) hu;obtain⟨m,hm⟩:∃m,m=(l.drop a).take 4:=⟨_,rfl⟩
 have hml:m.length=4:=by rw[hm];simp;omega
 rw[<-hm]at hS2|-;refine qj (fun i:Nat=>[(11,.slice A' 4 c'),(12,ii 4),(13,ii i),(5,.int .u64 (leN (m.take i)))]) (fun i w3=>i<=4/\w3=w2) (fun i=>4-i) 0 ⟨rfl,rfl,rfl,rfl,trivial⟩ ⟨by omega,rfl⟩ ?_;rintro i w3 ρ' ⟨i1,rfl⟩;(conv=>whnf);refine zC (fun _=>zw ?_) (fun _=>zw ?_)
 ·have hi:i<m.length:=by omega
  have hb4:=qa1 m[i];have hp:=pow8 (i+1) Oo;have hlt:=qaw m (i+1) Oo;rw[qj0 m i hi]at hlt;refine ElemV.bs hS2 hml i rfl Oo ?_;intro eb eo hc;(conv=>whnf);refine LoadV.of hc (zu ?_);have e64:2 ^ 64=18446744073709551616:=by decide
  refine V.Wit.shlN (8*i) Oo (by show 8*i<64;omega) (qkc Oo) (zw ?_);refine Wit.eq (qc2 (8*i) (qkc Oo) (qaw m i Oo)) (zu ?_);exact⟨i+1,⟨rfl,rfl,rfl,by rw[qj0 m i hi];rfl,trivial⟩,⟨by omega,rfl⟩,by omega⟩
 ·rw[AE Oo];exact⟨rfl,hu⟩
structure ErrAt(w:Et)(v:Value)(place code:Nat):Prop where
 h:∃b,v=.iface 255 (pp b)/\CellsAt w b 0 [ii place,.iface 61 (ii code)]
theorem ErrAt.ext{w w':Et}{v:Value}{p c:Nat}(h:ErrAt w v p c)(he:Ext w w'):ErrAt w' v p c:=by
 obtain⟨b,h1,h2⟩:=h;exact⟨b,h1,h2.ext he⟩
theorem qgs(p c:Nat)(w:Et):Gv E4 131 [ii p,ii c] w fun v w'=>ErrAt w' v p c/\Ext w w':=by
 refine ze Tryz.func131 Tryz.ntmps131 ?_;refine znm (Mem.nil w) fun b w1 hm=>zw ?_;exact⟨⟨b,rfl,CellsAt.mem hm mh⟩,hm.ext⟩
def poly:BitVec 32:=0xedb88320#32
def nibs:E0:=[0x00000000,0x1db71064,0x3b6e20c8,0x26d930ac,0x76dc4190,0x6b6b51f4,0x4db26158,0x5005713c,0xedb88320,0xf00f9344,0xd6d6a3e8,0xcb61b38c,0x9b64c2b0,0x86d3d2d4,0xa00ae278,0xbdbdf21c]
def nib(i:Nat):BitVec 32:=BitVec.ofNat 32 (nibs.getD i 0)
def qnf(r:BitVec 32)(d:Bool):BitVec 32:=(r >>> 1) ^^^ (if(r.getLsbD 0 ^^ d)=true then poly else 0#32)
def qdu(r:BitVec 32):BitVec 32:=qnf r false
def half(r:BitVec 32):BitVec 32:=nib (r.toNat%16) ^^^ (r >>> 4)
theorem xlc(a b c:BitVec 32):a ^^^ (b ^^^ c)=b ^^^ (a ^^^ c):=by rw[<-BitVec.xor_assoc,BitVec.xor_comm a b,BitVec.xor_assoc]
theorem xss(a b:BitVec 32):a ^^^ (a ^^^ b)=b:=by rw[<-BitVec.xor_assoc,BitVec.xor_self,BitVec.zero_xor]
theorem qhl(a b:BitVec 32):qdu (a ^^^ b)=qdu a ^^^ qdu b:=by
 unfold qdu qnf;rw[BitVec.ushiftRight_xor_distrib,BitVec.getLsbD_xor];cases a.getLsbD 0<;>cases b.getLsbD 0<;>simp[BitVec.xor_assoc,BitVec.xor_comm,xlc,xss]
theorem qwf(r d:BitVec 32):qdu (r ^^^ d)=qnf r (d.getLsbD 0) ^^^ (d >>> 1):=by
 unfold qdu qnf;rw[BitVec.ushiftRight_xor_distrib,BitVec.getLsbD_xor,Bool.xor_false,BitVec.xor_assoc,BitVec.xor_assoc,BitVec.xor_comm (d >>> 1)]
theorem qfz{h:BitVec 32}(h0:h.getLsbD 0=false):qdu h=h >>> 1:=by
 unfold qdu qnf;rw[h0];simp
theorem qsi(h:BitVec 32)(h0:h.getLsbD 0=false)(h1:h.getLsbD 1=false)(h2:h.getLsbD 2=false)(h3:h.getLsbD 3=false):qdu (qdu (qdu (qdu h)))=h >>> 4:=by
 rw[qfz h0,qfz (h:=h >>> 1) (by simpa using h1),qfz (h:=h >>> 1 >>> 1) (by simpa using h2),qfz (h:=h >>> 1 >>> 1 >>> 1) (by simpa using h3)];rw[<-BitVec.shiftRight_add,<-BitVec.shiftRight_add,<-BitVec.shiftRight_add]
theorem qw4:∀i,i<16->qdu (qdu (qdu (qdu (BitVec.ofNat 32 i))))=nib i:=by decide
theorem q7f(r:BitVec 32):qdu (qdu (qdu (qdu r)))=half r:=by
 have hlow:r &&&15#32=BitVec.ofNat 32 (r.toNat%16):=by
  apply BitVec.eq_of_toNat_eq;rw[BitVec.toNat_and,BitVec.toNat_ofNat];have:r.toNat &&&15=r.toNat%2 ^ 4:=DW r.toNat 4;show r.toNat &&&15=_;rw[this];have:=r.isLt;exact(BD Oo).symm
 have hsplit:r=(r &&&15#32) ^^^ (r &&&0xfffffff0#32):=by
  ext i hi
  simp only[BitVec.getElem_xor,BitVec.getElem_and];have:((15#32)[i] ^^ (0xfffffff0#32)[i])=true:=by
   have:∀i (hi:i<32),((15#32)[i] ^^ (0xfffffff0#32)[i])=true:=by decide
   exact this i hi
  cases r[i]<;>simp_all
 have hh:(r &&&0xfffffff0#32) >>> 4=r >>> 4:=by
  ext i hi
  simp only[BitVec.getElem_ushiftRight,BitVec.getLsbD_and]
  by_cases h:4+i<32
  ·have:∀j,j<28->(0xfffffff0#32).getLsbD (4+j)=true:=by decide
   rw[this i Oo,Dt]
  ·rw[BitVec.getLsbD_of_ge _ _ Oo];simp
 have hz:∀j,j<4->(r &&&0xfffffff0#32).getLsbD j=false:=fun j hj=>by
  rw[BitVec.getLsbD_and];have:∀j,j<4->(0xfffffff0#32).getLsbD j=false:=by decide
  rw[this j hj,Dx]
 conv=>lhs;rw[hsplit]
 rw[qhl,qhl,qhl,qhl,qsi _ (hz 0 Od) (hz 1 Od) (hz 2 Od) (hz 3 Od),hh,hlow,qw4 _ (CS _ Od)];rfl
def qxn(r:BitVec 32)(b:Ex):Nat->BitVec 32
 | 0=>r
 | k+1=>qnf (qxn r b k) (b.toNat.testBit k)
def thr(r:BitVec 32)(b:Ex):BitVec 32:=half (half (r ^^^ BitVec.ofNat 32 b.toNat))
theorem qaar(r:BitVec 32)(b:Ex)(k:Nat):(Nat.repeat qdu k (r ^^^ BitVec.ofNat 32 b.toNat))=qxn r b k ^^^ (BitVec.ofNat 32 b.toNat >>> k):=by
 induction k with
 | zero=>simp[Nat.repeat,qxn]
 | succ k ih=>
  rw[Nat.repeat,ih,qwf,qxn]
  congr 1
  ·congr 1
   rw[BitVec.getLsbD_ushiftRight,BitVec.getLsbD_ofNat,BI]
   by_cases h:k<32
   ·simp[h]
   ·have hb:b.toNat<256:=b.toBitVec.isLt;have:=Nat.testBit_lt_two_pow (Bx hb (Bd (by decide:(256:Nat)<=2 ^ 32) (Bu Od (by omega:32<=k))));simp[h,this]
theorem q1u(r:BitVec 32)(b:Ex):qxn r b 8=thr r b:=by
 have h:=qaar r b 8;have hz:BitVec.ofNat 32 b.toNat >>> 8=0#32:=by
  apply BitVec.eq_of_toNat_eq;have hb:b.toNat<256:=b.toBitVec.isLt;rw[BitVec.toNat_ushiftRight,BitVec.toNat_ofNat,DE,BD Oo];show b.toNat/256=0;omega
 rw[hz,BitVec.xor_zero]at h;rw[<-h,thr,<-q7f,<-q7f];rfl
def updL(r:BitVec 32)(l:LB):BitVec 32:=l.foldl thr r
def crcL(l:LB):BitVec 32 := ~~~ (updL (~~~ 0#32) l)
theorem qrp(r:BitVec 32)(l:LB)(i:Nat)(h:i<l.length):updL r (l.take (i+1))=thr (updL r (l.take i)) l[i]:=by
 unfold updL;rw[Bo h,List.foldl_append];rfl
def qjn:Ez:=nibs.map fun n:Nat=>Value.int .u32 (n:Int)
theorem bx(x y:BitVec 32):qev .xor .u32 (x.toNat:Int) (y.toNat:Int)=((x ^^^ y).toNat:Int):=by
 have h1:BitVec.ofInt 32 (x.toNat:Int)=x:=by apply BitVec.eq_of_toNat_eq;rw[BitVec.toNat_ofInt];have:=x.isLt;omega
 have h2:BitVec.ofInt 32 (y.toNat:Int)=y:=by apply BitVec.eq_of_toNat_eq;rw[BitVec.toNat_ofInt];have:=y.isLt;omega
 show IntKind.u32.wrap ((BitVec.ofInt 32 (x.toNat:Int) ^^^ BitVec.ofInt 32 (y.toNat:Int)).toNat:Int)=_;rw[h1,h2];have:=(x ^^^ y).isLt;exact InR.wrap (k:=.u32) ⟨by omega,by omega⟩
theorem bnot(x:BitVec 32):qev .xor .u32 (if IntKind.u32.signed then -1 else IntKind.u32.max) (x.toNat:Int)=((~~~x).toNat:Int):=by
 have h:(if IntKind.u32.signed then -1 else IntKind.u32.max)=((BitVec.allOnes 32).toNat:Int):=by decide
 rw[h,bx,BitVec.allOnes_xor]
theorem q95(b:Ex):(BitVec.ofNat 32 b.toNat).toNat=b.toNat:=by
 have:=qa1 b;rw[BitVec.toNat_ofNat,BD Oo]
theorem q9y(i:Nat)(hi:i<16):(nib i).toNat=nibs.getD i 0:=by
 have:∀i,i<16->(nib i).toNat=nibs.getD i 0:=by decide
 exact this i hi
theorem qu3(x:BitVec 32):qev .xor .u32 ((nibs.getD (x.toNat%16) 0:Nat):Int) ((x.toNat/16:Nat):Int)=((half x).toNat:Int):=by
 have h2:(x >>> 4).toNat=x.toNat/16:=by rw[BitVec.toNat_ushiftRight,DE]
 rw[<-q9y _ (CS _ Od),<-h2,bx];rfl
theorem qvd{w:Et}(hT:CellsAt w 1 0 qjn)(i:Nat)(hi:i<16):w.cell? ⟨1,0+i*1,none⟩=some (.int .u32 ((nibs.getD i 0:Nat):Int)):=by
 have h:i<nibs.length:=hi;have:=hT i (.int .u32 ((nibs.getD i 0:Nat):Int)) (by rw[qjn,Au,zge h,Ah,zge h];rfl)
 rwa[Be]
theorem qv5(x:BitVec 32):x.toNat<4294967296:=x.isLt
theorem qte(r:BitVec 32)(b:Ex)(w:Et)(hT:CellsAt w 1 0 qjn):
  Gv E4 177 [.int .u32 r.toNat,.int .u8 b.toNat] w fun v w'=>v=.int .u32 (thr r b).toNat/\w'=w:=by
 have hb:=qa1 b;obtain⟨x,hx⟩:∃x,x=r ^^^ BitVec.ofNat 32 b.toNat:=⟨_,rfl⟩
 have h0:=qv5 x;have h1:=qv5 (half x);have ht:thr r b=half (half x):=by rw[hx];rfl
 rw[ht];refine ze Tryz.func177 Tryz.ntmps177 ?_;refine zv ?_;refine Wit.eq (y:=(x.toNat:Int)) (by rw[hx,<-bx,q95]) (zw ?_);refine Wit.eq (qa9 (k:=.u32) (m:=x.toNat) 4 rfl ⟨by omega,by omega⟩ ⟨by omega,by omega⟩) (zw ?_);refine IdxV.nat (CS _ Od) (zw ?_);refine LoadV.of (qvd hT _ (CS _ Od)) (zw ?_);refine Wit.shr (m:=16) (r:=((x.toNat/16:Nat):Int)) ⟨by decide,by decide⟩ Od Oo (zw ?_);refine Wit.eq (qu3 x) (zw ?_);refine Wit.eq (qa9 (k:=.u32) (m:=(half x).toNat) 4 rfl ⟨by omega,by omega⟩ ⟨by omega,by omega⟩) (zw ?_);refine IdxV.nat (CS _ Od) (zw ?_);refine LoadV.of (qvd hT _ (CS _ Od)) (zw ?_);refine Wit.shr (m:=16) (r:=(((half x).toNat/16:Nat):Int)) ⟨by decide,by decide⟩ Od Oo (zw ?_);refine Wit.eq (qu3 (half x)) (zw ?_);exact⟨rfl,rfl⟩
theorem qyb(l:LB)(A:oA)(n c:Nat)(w:Et)(hS:SlAt encB 1 w A l)(hn:l.length=n)(hl:l.length<=140737488355328)(hT:CellsAt w 1 0 qjn):
  Gv E4 113 [.int .u32 0,.slice A n c] w fun v w'=>v=.int .u32 (crcL l).toNat/\w'=w:=by
 subst hn;refine ze Tryz.func113 Tryz.ntmps113 ?_;refine Wit.eq (bnot 0#32) (zw ?_);refine qj (fun i:Nat=>[(10,.slice A l.length c),(11,ii l.length),(12,ii i),(5,.int .u32 (updL (~~~ 0#32) (l.take i)).toNat)]) (fun i w1=>i<=l.length/\w1=w) (fun i=>l.length-i) 0 ⟨rfl,rfl,rfl,rfl,trivial⟩ ⟨by omega,rfl⟩ ?_;rintro i w1 ρ' ⟨h1,rfl⟩;(conv=>whnf);refine zC (fun _=>zw ?_) (fun _=>zw ?_)
 ·have hi:i<l.length:=by omega
  refine ElemV.bs hS rfl i rfl hi ?_;intro eb eo hc;(conv=>whnf);refine LoadV.of hc (zw ?_);refine zcv (qte _ l[i] w1 hT) ?_;rintro v w1 ⟨rfl,rfl⟩;refine zu ?_;exact⟨i+1,⟨rfl,rfl,rfl,by rw[qrp _ _ _ hi];rfl,trivial⟩,⟨by omega,rfl⟩,by omega⟩
 ·refine Wit.eq (bnot _) (zw ?_);rw[AE Oo];exact⟨rfl,rfl⟩
theorem qabb(l:LB)(A:oA)(n c:Nat)(w:Et)(hS:SlAt encB 1 w A l)(hn:l.length=n)(hl:l.length<=140737488355328)(hT:CellsAt w 1 0 qjn):
  Gv E4 64 [.slice A n c] w fun v w'=>v=.int .u32 (crcL l).toNat/\w'=w:=by
 refine ze Tryz.func64 Tryz.ntmps64 ?_;refine zcv (qyb l A n c w hS hn hl hT) ?_;rintro v w1 ⟨rfl,rfl⟩;(conv=>whnf);exact⟨rfl,rfl⟩
theorem q9k(r:BitVec 32):r.toNat%2=if r.getLsbD 0=true then 1 else 0:=by
 rw[BitVec.getLsbD,Nat.testBit_zero]
 rcases Nat.mod_two_eq_zero_or_one r.toNat with h|h<;>rw[h]<;>simp
theorem qadh(r:BitVec 32)(d:Bool):qev .xor .u32 ((r.toNat%2:Nat):Int) ((bif d then 1 else 0:Nat):Int)=((bif (r.getLsbD 0 ^^ d)then 1 else 0:Nat):Int):=by
 rw[q9k];cases r.getLsbD 0<;>cases d<;>decide
theorem qsx(r:BitVec 32)(d:Bool)(w:Et):Gv E4 254 [.int .u32 r.toNat,.int .u8 (bif d then 1 else 0:Nat)] w fun v w'=>v=.int .u32 (qnf r d).toNat/\w'=w:=by
 have h0:=qv5 r;have hd:(bif d then 1 else 0:Nat)<=1:=by cases d<;>decide
 have hs:(r >>> 1).toNat=r.toNat/2:=by rw[BitVec.toNat_ushiftRight,DE]
 refine ze Tryz.func254 Tryz.ntmps254 ?_;refine Wit.eq (qa9 (k:=.u32) (m:=r.toNat) 1 rfl ⟨by omega,by omega⟩ ⟨by omega,by omega⟩) (zu ?_);refine Wit.eq (qadh r d) (zw ?_);refine Wit.shr (m:=2) (r:=((r.toNat/2:Nat):Int)) ⟨by decide,by decide⟩ Od Oo (zw ?_);cases hx:(r.getLsbD 0 ^^ d)
 ·refine Tst.no Od (zw ?_);refine⟨?_,rfl⟩;rw[qnf,hx,Aa Js,BitVec.xor_zero,hs]
 ·refine Tst.yes Od (zw ?_);refine Wit.eq (y:=(((r >>> 1) ^^^ poly).toNat:Int)) (by rw[<-bx,hs];rfl) (zw ?_);refine⟨?_,rfl⟩;rw[qnf,hx,Ad rfl]
theorem qo3(l:LB)(A:oA)(n c:Nat)(w:Et)(hS:SlAt encB 1 w A l)(hn:l.length=n)(hl:l.length<=140737488355328):
  Gv E4 196 [.int .u32 0,.slice A n c] w fun v w'=>v=.int .u32 (crcL l).toNat/\w'=w:=by
 subst hn;refine ze Tryz.func196 Tryz.ntmps196 ?_;refine Wit.eq (bnot 0#32) (zw ?_);refine qj (fun i:Nat=>[(1,.slice A l.length c),(6,ii i),(5,.int .u32 (updL (~~~ 0#32) (l.take i)).toNat)]) (fun i w1=>i<=l.length/\w1=w) (fun i=>l.length-i) 0 ⟨rfl,rfl,rfl,trivial⟩ ⟨by omega,rfl⟩ ?_;rintro i w1 ρ' ⟨h1,rfl⟩;(conv=>whnf);refine zC (fun _=>zw ?_) (fun _=>zw ?_)
 ·have hi:i<l.length:=by omega
  have hb:=qa1 l[i];refine qj (fun k:Nat=>[(1,.slice A l.length c),(6,ii i),(7,ii k),(5,.int .u32 (qxn (updL (~~~ 0#32) (l.take i)) l[i] k).toNat)]) (fun k w2=>k<=8/\w2=w1) (fun k=>8-k) 0 ⟨rfl,rfl,rfl,rfl,trivial⟩ ⟨by omega,rfl⟩ ?_;rintro k w2 ρ' ⟨k1,rfl⟩;(conv=>whnf);refine zC (fun _=>zu ?_) (fun _=>zu ?_)
  ·refine ElemV.bs hS rfl i rfl hi ?_;intro eb eo hc;(conv=>whnf);refine LoadV.of hc (zw ?_);have hk:2 ^ k<=128:=Bd (Bu Od (show k<=7 by omega)) Od;obtain⟨q,hq⟩:∃q,q=l[i].toNat/2 ^ k:=⟨_,rfl⟩
   have hdiv:q<=l[i].toNat:=by rw[hq];exact D4 ..
   refine Wit.shr (m:=((2 ^ k:Nat):Int)) (r:=(q:Int)) ⟨by omega,by show(k:Int)<8;omega⟩ (by rw[CY];push_cast;rfl) (by rw[hq,Int.natCast_ediv]) (zw ?_);refine Wit.eq (qa9 (k:=.u8) (m:=q) 1 rfl ⟨by omega,by omega⟩ ⟨by omega,by omega⟩) (zw ?_);have hbit:q%2 ^ 1=bif l[i].toNat.testBit k then 1 else 0:=by
    rw[Nat.testBit_eq_decide_div_mod_eq,<-hq,Nat.pow_one]
    rcases Nat.mod_two_eq_zero_or_one q with h|h<;>rw[h]<;>decide
   rw[hbit];refine zcv (qsx _ (l[i].toNat.testBit k) w2) ?_;rintro v w2 ⟨rfl,rfl⟩;refine zu ?_;exact⟨k+1,⟨rfl,rfl,rfl,rfl,trivial⟩,⟨by omega,rfl⟩,by omega⟩
  ·have hk:k=8:=by omega
   subst hk;exact⟨i+1,⟨rfl,rfl,by rw[qrp _ _ _ hi,<-q1u];rfl,trivial⟩,⟨by omega,rfl⟩,by omega⟩
 ·refine Wit.eq (bnot _) (zw ?_);rw[AE Oo];exact⟨rfl,rfl⟩
theorem qxq(l:LB)(A:oA)(n c:Nat)(w:Et)(hS:SlAt encB 1 w A l)(hn:l.length=n)(hl:l.length<=140737488355328):
  Gv E4 130 [.slice A n c] w fun v w'=>v=.int .u32 (crcL l).toNat/\w'=w:=by
 refine ze Tryz.func130 Tryz.ntmps130 ?_;refine zcv (qo3 l A n c w hS hn hl) ?_;rintro v w1 ⟨rfl,rfl⟩;(conv=>whnf);exact⟨rfl,rfl⟩
end Go.Proofs.YtacnkdagblbgfaaGreatDoor
